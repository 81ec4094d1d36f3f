/-
  The walk of FrameBack (chapter 04).
-/
import Derived.Test.YtcffabfaefbjcaaBack
import Derived.OpenShut
namespace Go.Proofs.Ytcffabfaefbjcaa
set_option linter.unusedVariables false
open Go.RowKit Go.ChangeShapes Crc
theorem str_take (F : List Nat) (M : Nat) (hM : (strOf F).size = M) (h0 : 1 ≤ M) (w : World) : (Instr.slice 9 (.string (strOf F)) none (some (.int .i64 ((M : Int) - 1))) none).run Try.prog w = .ok (.string (strOf (F.take (M - 1)))) w := by
  rw [run_slice_string_h w 9 _ Try.underlying9 .i64 _ (by omega) (by rw [hM]; omega)]
  have e : (strOf F).extract 0 ((M : Int) - 1).toNat = strOf (F.take (M - 1)) := by
    apply ByteArray.ext
    apply Array.toList_inj.1
    rw [show ((M : Int) - 1).toNat = M - 1 by omega]
    simp [strOf, ByteArray.data_extract]
  rw [e]
theorem raw_again (raw : List Nat) (h : IsBytes raw) (hr : rdOk raw) : bytesL (rdN raw) (rdL raw) = raw ∧ bytesE (rdN raw) (rdL raw) = 0 := by
  have h1 := (rd_frm raw h hr.1 hr.2.1).1 hr
  unfold bytesL bytesE
  rw [if_pos h1.1, if_pos h1.1]
  exact ⟨h1.2, rfl⟩
theorem rd_bytes {raw : List Nat} (h : IsBytes raw) : IsBytes (rdL raw) := by unfold rdL; exact (opn_bytes h).drop 8
theorem rdL_le (raw : List Nat) : (rdL raw).length ≤ raw.length := by
  unfold rdL
  have := opn_le raw
  rw [List.length_drop]; omega
set_option maxRecDepth 100000 in
set_option maxHeartbeats 2000000 in
theorem lawFrameBack_walk (a0 a1 : Int) (a2 a3 : ByteArray) (a4 a5 : Int) (w : World) (w0 : (Lit.int .i64 a0).wf = true) (w1 : (Lit.int .i64 a1).wf = true) (w2 : a2.size ≤ maxLen) (w3 : a3.size ≤ maxLen) (w4 : (Lit.int .i64 a4).wf = true) (w5 : (Lit.int .u32 a5).wf = true) (z2 : a2.size ≤ 140737488351232) (z3 : a3.size ≤ 140737488351232) :
    Calls Try.prog 8 #[.int .i64 a0, .int .i64 a1, .string a2, .string a3, .int .i64 a4, .int .u32 a5] w fun e w' => e = .returned (.bool true) ∧ Below w.heap.size w w' := by
  have b0 := bounds_i64 w0
  have b5 := bounds_u32 w5
  clear w0 w1 w2 w3 w4 w5
  obtain ⟨D, rfl⟩ := Int.eq_ofNat_of_zero_le b5.1
  have HD := Lib.hid (show D < 4294967296 by omega)
  clear b5
  obtain ⟨l, hl, rfl, s1⟩ := text_list a2
  obtain ⟨o, ho, rfl, s2⟩ := text_list a3
  obtain ⟨n1, e1⟩ : ∃ n, (strOf l).size = n := ⟨_, rfl⟩
  obtain ⟨n2, e2⟩ : ∃ n, (strOf o).size = n := ⟨_, rfl⟩
  rw [e1] at s1 z2
  rw [e2] at s2 z3
  by_cases hlen : 4000 < n1 + n2
  · have d0 : decide ((4000 : Int) < (n1 : Int) + (n2 : Int)) = true := by simp; omega
    go_enter Try.func8, Try.ntmps8
    go_wp2_with (go_at_call 26; refine (wakes04_any _).mono ?_; rintro e w' ⟨rfl, hb⟩)
    go_ret
    exact ⟨rfl, hb⟩
  have d0 : decide ((4000 : Int) < (n1 : Int) + (n2 : Int)) = false := by simp; omega
  have PB := Lib.hid (bytes_any a0 b0 l hl (by omega))
  have HL := Lib.hid hl
  have HS1 := Lib.hid s1
  by_cases c0 : rdOk o
  · have PR := Lib.hid (read_yes o ho (by omega) c0)
    have hra := raw_again o ho c0
    have PA := Lib.hid (fun hb => bytes_any (rdN o) hb (rdL o) (rd_bytes ho) (by have := rdL_le o; omega))
    have hbo : -9223372036854775808 ≤ rdN o ∧ rdN o ≤ 9223372036854775807 := by have := c0.2.2.2; unfold okF at this; omega
    have PA2 := Lib.hid (PA.out hbo)
    rw [hra.1, hra.2] at PA2
    clear hra PA c0 hbo ho s1 s2 hlen hl
    generalize rdN o = RN at *
    generalize strOf (rdL o) = RL at *
    generalize strOf o = SO at *
    by_cases c1 : okF a0 l
    · have x1 : bytesE a0 l = 0 := if_pos c1
      obtain ⟨N, rfl⟩ := Int.eq_ofNat_of_zero_le (show 0 ≤ a0 by have := c1.1; omega)
      have y1 : bytesL (N : Int) l = frm N l := by unfold bytesL; rw [if_pos c1]; rfl
      rw [x1, y1] at PB
      obtain ⟨k1, k2, k3⟩ := c1
      have hn1 : l.length = n1 := HS1.out
      rw [hn1] at k3
      have g1 : decide (1 ≤ (N : Int)) = true := decide_eq_true k1
      have g2 : decide ((N : Int) ≤ 1048575) = true := decide_eq_true k2
      have g3 : decide ((n1 : Int) ≤ 600) = true := by simp; omega
      have hrd := rd_of_frm N l HL.out (by omega) (by omega) (by omega)
      obtain ⟨F, hF⟩ : ∃ F, frm N l = F := ⟨_, rfl⟩
      have hFl : F.length = n1 + 12 := by rw [← hF, frm_length, hn1]
      have hFb : IsBytes F := by rw [← hF]; exact frm_bytes N HL.out
      have hless := frm_less N l (by omega)
      have hmore := frm_more N l (by omega)
      have HBU := Lib.hid (fun (M p D j : Nat) (t : List Nat) (ht : IsBytes t) (hlt : t.length = M) (hM : (frm N l).length = M) (hv : val t = val (frm N l) ^^^ 2 ^ p * (D % 2 ^ j)) (hj : j ≤ 32) (hp : p ≤ 8 * M) => frm_burst HL.out (by omega) (by omega) (by omega) ht hlt hM hv hj hp)
      have HS := Lib.hid (show sizeV (n1 : Int) = (n1 : Int) + 12 by unfold sizeV; rw [if_neg (by omega)])
      rw [hF] at PB hrd hless hmore HBU
      have RY := Lib.hid (read_yes F hFb (by omega) hrd.1)
      rw [hrd.2.1, hrd.2.2] at RY
      have RL' := Lib.hid (read_no (F.take (n1 + 11)) (hFb.take _) (by rw [List.length_take]; omega) (by rw [← hn1]; exact hless))
      have RM := Lib.hid (read_no (F ++ [0]) (hFb.append (IsBytes.one (by omega))) (by rw [List.length_append, hFl]; simp; omega) hmore)
      have OF := Lib.hid (of_any a1 F hFb (by omega))
      unfold OfPost at OF
      obtain ⟨M, hM⟩ : ∃ M, M = n1 + 12 := ⟨_, rfl⟩
      have hsz : (strOf F).size = M := by rw [strOf_size, hFl, hM]
      have hconv := conv_run F M (by rw [hFl, hM])
      have hsl := str_take F M hsz (by omega)
      rw [show M - 1 = n1 + 11 by omega] at hsl
      have hcat : strOf F ++ ⟨#[0]⟩ = strOf (F ++ [0]) := by rw [strOf_append]; rfl
      have HFB := Lib.hid hFb
      have HFL := Lib.hid (show F.length = M by rw [hFl, hM])
      have HM := Lib.hid hM
      have hMb : M ≤ 612 := by omega
      have hM1 : 12 ≤ M := by omega
      have hs12 : (n1 : Int) + 12 = (M : Int) := by omega
      rw [hs12] at HS
      have dM : ((M : Int) == 0) = false := by rw [beq_eq_false_iff_ne]; omega
      by_cases hmn : a1 = (N : Int)
      · have dmn : (a1 == (N : Int)) = true := by simpa using hmn
        have q1 : ofOk a1 F := ⟨hrd.1, by rw [hrd.2.1, hmn]⟩
        have q2 : ofL a1 F = l := by unfold ofL; rw [if_pos q1, hrd.2.2]
        rw [decide_eq_true q1, q2] at OF
        clear q1 q2 hmn hrd hless hmore x1 y1 hF hFl hFb hM hn1 k1 k2 k3 hs12
        go_enter Try.func8, Try.ntmps8
        go_wp2_with fail
        refine (PR.out w).mono ?_
        rintro e wa ⟨rfl, hb⟩
        have B1 := Lib.hid hb
        clear hb
        go_wp2_with fail
        refine (PA2.out wa).mono ?_
        rintro e wb ⟨rfl, hb⟩
        have B2 := Lib.hid (B1.out.trans (hb.mono B1.out.size))
        clear hb B1
        go_wp2_with fail
        refine (PB.out wb).mono ?_
        rintro e wc ⟨rfl, hb⟩
        have B3 := Lib.hid (B2.out.trans (hb.mono B2.out.size))
        clear hb B2
        go_wp2_with fail
        refine (RY.out wc).mono ?_
        rintro e wd ⟨rfl, hb⟩
        have B4 := Lib.hid (B3.out.trans (hb.mono B3.out.size))
        clear hb B3
        go_wp2_with fail
        refine (OF.out wd).mono ?_
        rintro e we ⟨rfl, hb⟩
        have B5 := Lib.hid (B4.out.trans (hb.mono B4.out.size))
        clear hb B4
        go_wp2_with fail
        refine (size_any _ _).mono ?_
        rintro e w' ⟨rfl, rfl⟩
        rw [HS.out]
        go_wp2_with fail
        refine (RL'.out we).mono ?_
        rintro e wf ⟨rfl, hb⟩
        have B6 := Lib.hid (B5.out.trans (hb.mono B5.out.size))
        clear hb B5
        go_wp2_with fail
        refine (RM.out wf).mono ?_
        rintro e wg ⟨rfl, hb⟩
        have B7 := Lib.hid (B6.out.trans (hb.mono B6.out.size))
        clear hb B6
        obtain ⟨p, hp, hp2⟩ := burst_at a4 (8 * (M : Int)) (by omega) (by omega)
        clear hsl hcat
        go_wp2_with fail
        have hcp := conv_cap wg M (by omega)
        have HR := Lib.hid (⟨B7.out.trans ((conv_below wg (strOf F)).mono B7.out.size), F, RowB.conv wg F HFB.out M HFL.out, rfl⟩ : BackRel w (Lib.bytesWorld wg 5 (strOf F)) wg.heap.size M (val F))
        have hgw : w.heap.size ≤ wg.heap.size := B7.out.size
        have hp3 : p < 8 * M := by omega
        clear hp hp2 hconv B7 PR PB RY RL' RM OF PA2
        obtain ⟨hcp1, hcp2⟩ := hcp
        generalize Lib.bytesWorld wg 5 (strOf F) = wh at *
        generalize grownCap wg M 0 5 = cap at *
        generalize wg.heap.size = g at *
        obtain ⟨V, hV⟩ : ∃ V, V = val F := ⟨_, rfl⟩
        rw [← hV] at HR
        have HV := Lib.hid hV
        clear hV
        go_loopw [33] (fun i wr => ∃ j : Nat, j ≤ 32 ∧ p + j ≤ 8 * M ∧ i = .int .i64 j ∧ BackRel w wr g M (V ^^^ 2 ^ p * (D % 2 ^ j))) (fun i _ => 32 - (intOf i).toNat)
        case atStart => exact ⟨0, by omega, by omega, rfl, by rw [Nat.pow_zero, Nat.mod_one, Nat.mul_zero, Nat.xor_zero]; exact HR.out⟩
        case round =>
          obtain ⟨j, hj, hpj, rfl, hb, l', ho', hv⟩ := hrel
          clear HR
          by_cases hlt : j < 32 ∧ p + j < 8 * M
          · have d1 : decide ((j : Int) < 32) = true := by simp; omega
            have d2 : decide ((p : Int) + (j : Int) < 8 * (M : Int)) = true := by simp; omega
            obtain ⟨q, r, hqr, hr⟩ : ∃ q r, p + j = 8 * q + r ∧ r < 8 := ⟨(p + j) / 8, (p + j) % 8, by omega, by omega⟩
            have hq1 : ((p : Int) + (j : Int)) / 8 = (q : Int) := by omega
            have hr1 : ((p : Int) + (j : Int)) % 8 = (r : Int) := by omega
            have hcell := ho'.cell q (by omega)
            have hfree := ho'.free q (by omega)
            have HO := Lib.hid ho'
            have HB := Lib.hid hb
            have HV2 := Lib.hid hv
            have hx := Lib.hid (HO.out.1.getD q)
            clear ho' hb hv
            generalize hxx : l'.getD q 0 = x at *
            have HX := Lib.hid hxx
            clear hxx
            rcases (show D / 2 ^ j % 2 = 1 ∨ D / 2 ^ j % 2 = 0 by omega) with hbt | hbt
            · have hbit : (bits BinOp.and IntKind.u32 ((D : Int) / 2 ^ j) 1 == 1) = true := burst_test HD.out hbt
              go_wp2
              go_region
              go_wp2
              have hR := back_round HB.out HO.out HV2.out HX.out hqr hr (by omega) hgw hbt
              go_roundw
              case rel => exact ⟨j + 1, by omega, by omega, by go_num, hR⟩
              case measure => simp [intOf]; omega
            · have hbit : (bits BinOp.and IntKind.u32 ((D : Int) / 2 ^ j) 1 == 1) = false := burst_test0 HD.out hbt
              go_wp2
              go_roundw
              case rel => exact ⟨j + 1, by omega, by omega, by go_num, by rw [burst_even hbt]; exact ⟨HB.out, l', HO.out, HV2.out⟩⟩
              case measure => simp [intOf]; omega
          · have htold := HBU.out M p D j l' ho'.1 ho'.2.1 HFL.out (by rw [← HV.out]; exact hv) hj (by omega)
            have HSL := Lib.hid (ho'.sl hcp1 hcp2)
            have HTL := Lib.hid ho'.1
            have HLE := Lib.hid (show l'.length ≤ 1000000 by rw [ho'.2.1]; omega)
            have hstr := (ho'.sl hcp1 hcp2).str
            have HB := Lib.hid hb
            clear hb ho' hv
            rcases (show j = 32 ∨ (j < 32 ∧ p + j = 8 * M) by omega) with hj32 | hj32
            · have d1 : decide ((j : Int) < 32) = false := by simp; omega
              by_cases hz : l' = F
              · have hrt := htold.2 hz
                have RT := Lib.hid (read_yes l' HTL.out HLE.out hrt)
                have hst : ((strOf l').toList == (strOf F).toList) = true := by rw [hz]; exact beq_self_eq_true _
                clear htold hz hrt
                generalize rdN l' = RN9 at RT
                generalize strOf (rdL l') = RL9 at RT
                go_wp2_with fail
                refine (RT.out wr).mono ?_
                rintro e wz ⟨rfl, hbz⟩
                have hstr2 := (HSL.out.below hbz (Nat.le_refl _)).str
                have HZ := Lib.hid (HB.out.trans (hbz.mono HB.out.size))
                clear hbz
                go_wp2_with fail
                refine (wakes04_any _).mono ?_
                rintro e w' ⟨rfl, hbw⟩
                have HW := Lib.hid (HZ.out.trans (hbw.mono HZ.out.size))
                clear hbw
                go_wp2_with fail
                go_ret
                exact ⟨rfl, HW.out⟩
              · have hrt : ¬ rdOk l' := fun h => hz (htold.1 h)
                have RT := Lib.hid (read_no l' HTL.out HLE.out hrt)
                have hst : ((strOf l').toList == (strOf F).toList) = false := by rw [str_beq HTL.out HFB.out]; simpa using hz
                clear htold hz hrt
                go_wp2_with fail
                refine (RT.out wr).mono ?_
                rintro e wz ⟨rfl, hbz⟩
                have hstr2 := (HSL.out.below hbz (Nat.le_refl _)).str
                have HZ := Lib.hid (HB.out.trans (hbz.mono HB.out.size))
                clear hbz
                go_wp2_with fail
                refine (wakes04_any _).mono ?_
                rintro e w' ⟨rfl, hbw⟩
                have HW := Lib.hid (HZ.out.trans (hbw.mono HZ.out.size))
                clear hbw
                go_wp2_with fail
                go_ret
                exact ⟨rfl, HW.out⟩
            · have d1 : decide ((j : Int) < 32) = true := by simp; omega
              have d2 : decide ((p : Int) + (j : Int) < 8 * (M : Int)) = false := by simp; omega
              by_cases hz : l' = F
              · have hrt := htold.2 hz
                have RT := Lib.hid (read_yes l' HTL.out HLE.out hrt)
                have hst : ((strOf l').toList == (strOf F).toList) = true := by rw [hz]; exact beq_self_eq_true _
                clear htold hz hrt
                generalize rdN l' = RN9 at RT
                generalize strOf (rdL l') = RL9 at RT
                go_wp2_with fail
                refine (RT.out wr).mono ?_
                rintro e wz ⟨rfl, hbz⟩
                have hstr2 := (HSL.out.below hbz (Nat.le_refl _)).str
                have HZ := Lib.hid (HB.out.trans (hbz.mono HB.out.size))
                clear hbz
                go_wp2_with fail
                refine (wakes04_any _).mono ?_
                rintro e w' ⟨rfl, hbw⟩
                have HW := Lib.hid (HZ.out.trans (hbw.mono HZ.out.size))
                clear hbw
                go_wp2_with fail
                go_ret
                exact ⟨rfl, HW.out⟩
              · have hrt : ¬ rdOk l' := fun h => hz (htold.1 h)
                have RT := Lib.hid (read_no l' HTL.out HLE.out hrt)
                have hst : ((strOf l').toList == (strOf F).toList) = false := by rw [str_beq HTL.out HFB.out]; simpa using hz
                clear htold hz hrt
                go_wp2_with fail
                refine (RT.out wr).mono ?_
                rintro e wz ⟨rfl, hbz⟩
                have hstr2 := (HSL.out.below hbz (Nat.le_refl _)).str
                have HZ := Lib.hid (HB.out.trans (hbz.mono HB.out.size))
                clear hbz
                go_wp2_with fail
                refine (wakes04_any _).mono ?_
                rintro e w' ⟨rfl, hbw⟩
                have HW := Lib.hid (HZ.out.trans (hbw.mono HZ.out.size))
                clear hbw
                go_wp2_with fail
                go_ret
                exact ⟨rfl, HW.out⟩
      · have dmn : (a1 == (N : Int)) = false := by simpa using hmn
        have q1 : ¬ ofOk a1 F := fun h => hmn (by have := h.2; rw [hrd.2.1] at this; exact this.symm)
        rw [decide_eq_false q1] at OF
        clear q1 hmn hrd hless hmore x1 y1 hF hFl hFb hM hn1 k1 k2 k3 hs12
        generalize strOf (ofL a1 F) = SX at *
        go_enter Try.func8, Try.ntmps8
        go_wp2_with fail
        refine (PR.out w).mono ?_
        rintro e wa ⟨rfl, hb⟩
        have B1 := Lib.hid hb
        clear hb
        go_wp2_with fail
        refine (PA2.out wa).mono ?_
        rintro e wb ⟨rfl, hb⟩
        have B2 := Lib.hid (B1.out.trans (hb.mono B1.out.size))
        clear hb B1
        go_wp2_with fail
        refine (PB.out wb).mono ?_
        rintro e wc ⟨rfl, hb⟩
        have B3 := Lib.hid (B2.out.trans (hb.mono B2.out.size))
        clear hb B2
        go_wp2_with fail
        refine (RY.out wc).mono ?_
        rintro e wd ⟨rfl, hb⟩
        have B4 := Lib.hid (B3.out.trans (hb.mono B3.out.size))
        clear hb B3
        go_wp2_with fail
        refine (OF.out wd).mono ?_
        rintro e we ⟨rfl, hb⟩
        have B5 := Lib.hid (B4.out.trans (hb.mono B4.out.size))
        clear hb B4
        go_wp2_with fail
        refine (size_any _ _).mono ?_
        rintro e w' ⟨rfl, rfl⟩
        rw [HS.out]
        go_wp2_with fail
        refine (RL'.out we).mono ?_
        rintro e wf ⟨rfl, hb⟩
        have B6 := Lib.hid (B5.out.trans (hb.mono B5.out.size))
        clear hb B5
        go_wp2_with fail
        refine (RM.out wf).mono ?_
        rintro e wg ⟨rfl, hb⟩
        have B7 := Lib.hid (B6.out.trans (hb.mono B6.out.size))
        clear hb B6
        obtain ⟨p, hp, hp2⟩ := burst_at a4 (8 * (M : Int)) (by omega) (by omega)
        clear hsl hcat
        go_wp2_with fail
        have hcp := conv_cap wg M (by omega)
        have HR := Lib.hid (⟨B7.out.trans ((conv_below wg (strOf F)).mono B7.out.size), F, RowB.conv wg F HFB.out M HFL.out, rfl⟩ : BackRel w (Lib.bytesWorld wg 5 (strOf F)) wg.heap.size M (val F))
        have hgw : w.heap.size ≤ wg.heap.size := B7.out.size
        have hp3 : p < 8 * M := by omega
        clear hp hp2 hconv B7 PR PB RY RL' RM OF PA2
        obtain ⟨hcp1, hcp2⟩ := hcp
        generalize Lib.bytesWorld wg 5 (strOf F) = wh at *
        generalize grownCap wg M 0 5 = cap at *
        generalize wg.heap.size = g at *
        obtain ⟨V, hV⟩ : ∃ V, V = val F := ⟨_, rfl⟩
        rw [← hV] at HR
        have HV := Lib.hid hV
        clear hV
        go_loopw [33] (fun i wr => ∃ j : Nat, j ≤ 32 ∧ p + j ≤ 8 * M ∧ i = .int .i64 j ∧ BackRel w wr g M (V ^^^ 2 ^ p * (D % 2 ^ j))) (fun i _ => 32 - (intOf i).toNat)
        case atStart => exact ⟨0, by omega, by omega, rfl, by rw [Nat.pow_zero, Nat.mod_one, Nat.mul_zero, Nat.xor_zero]; exact HR.out⟩
        case round =>
          obtain ⟨j, hj, hpj, rfl, hb, l', ho', hv⟩ := hrel
          clear HR
          by_cases hlt : j < 32 ∧ p + j < 8 * M
          · have d1 : decide ((j : Int) < 32) = true := by simp; omega
            have d2 : decide ((p : Int) + (j : Int) < 8 * (M : Int)) = true := by simp; omega
            obtain ⟨q, r, hqr, hr⟩ : ∃ q r, p + j = 8 * q + r ∧ r < 8 := ⟨(p + j) / 8, (p + j) % 8, by omega, by omega⟩
            have hq1 : ((p : Int) + (j : Int)) / 8 = (q : Int) := by omega
            have hr1 : ((p : Int) + (j : Int)) % 8 = (r : Int) := by omega
            have hcell := ho'.cell q (by omega)
            have hfree := ho'.free q (by omega)
            have HO := Lib.hid ho'
            have HB := Lib.hid hb
            have HV2 := Lib.hid hv
            have hx := Lib.hid (HO.out.1.getD q)
            clear ho' hb hv
            generalize hxx : l'.getD q 0 = x at *
            have HX := Lib.hid hxx
            clear hxx
            rcases (show D / 2 ^ j % 2 = 1 ∨ D / 2 ^ j % 2 = 0 by omega) with hbt | hbt
            · have hbit : (bits BinOp.and IntKind.u32 ((D : Int) / 2 ^ j) 1 == 1) = true := burst_test HD.out hbt
              go_wp2
              go_region
              go_wp2
              have hR := back_round HB.out HO.out HV2.out HX.out hqr hr (by omega) hgw hbt
              go_roundw
              case rel => exact ⟨j + 1, by omega, by omega, by go_num, hR⟩
              case measure => simp [intOf]; omega
            · have hbit : (bits BinOp.and IntKind.u32 ((D : Int) / 2 ^ j) 1 == 1) = false := burst_test0 HD.out hbt
              go_wp2
              go_roundw
              case rel => exact ⟨j + 1, by omega, by omega, by go_num, by rw [burst_even hbt]; exact ⟨HB.out, l', HO.out, HV2.out⟩⟩
              case measure => simp [intOf]; omega
          · have htold := HBU.out M p D j l' ho'.1 ho'.2.1 HFL.out (by rw [← HV.out]; exact hv) hj (by omega)
            have HSL := Lib.hid (ho'.sl hcp1 hcp2)
            have HTL := Lib.hid ho'.1
            have HLE := Lib.hid (show l'.length ≤ 1000000 by rw [ho'.2.1]; omega)
            have hstr := (ho'.sl hcp1 hcp2).str
            have HB := Lib.hid hb
            clear hb ho' hv
            rcases (show j = 32 ∨ (j < 32 ∧ p + j = 8 * M) by omega) with hj32 | hj32
            · have d1 : decide ((j : Int) < 32) = false := by simp; omega
              by_cases hz : l' = F
              · have hrt := htold.2 hz
                have RT := Lib.hid (read_yes l' HTL.out HLE.out hrt)
                have hst : ((strOf l').toList == (strOf F).toList) = true := by rw [hz]; exact beq_self_eq_true _
                clear htold hz hrt
                generalize rdN l' = RN9 at RT
                generalize strOf (rdL l') = RL9 at RT
                go_wp2_with fail
                refine (RT.out wr).mono ?_
                rintro e wz ⟨rfl, hbz⟩
                have hstr2 := (HSL.out.below hbz (Nat.le_refl _)).str
                have HZ := Lib.hid (HB.out.trans (hbz.mono HB.out.size))
                clear hbz
                go_wp2_with fail
                refine (wakes04_any _).mono ?_
                rintro e w' ⟨rfl, hbw⟩
                have HW := Lib.hid (HZ.out.trans (hbw.mono HZ.out.size))
                clear hbw
                go_wp2_with fail
                go_ret
                exact ⟨rfl, HW.out⟩
              · have hrt : ¬ rdOk l' := fun h => hz (htold.1 h)
                have RT := Lib.hid (read_no l' HTL.out HLE.out hrt)
                have hst : ((strOf l').toList == (strOf F).toList) = false := by rw [str_beq HTL.out HFB.out]; simpa using hz
                clear htold hz hrt
                go_wp2_with fail
                refine (RT.out wr).mono ?_
                rintro e wz ⟨rfl, hbz⟩
                have hstr2 := (HSL.out.below hbz (Nat.le_refl _)).str
                have HZ := Lib.hid (HB.out.trans (hbz.mono HB.out.size))
                clear hbz
                go_wp2_with fail
                refine (wakes04_any _).mono ?_
                rintro e w' ⟨rfl, hbw⟩
                have HW := Lib.hid (HZ.out.trans (hbw.mono HZ.out.size))
                clear hbw
                go_wp2_with fail
                go_ret
                exact ⟨rfl, HW.out⟩
            · have d1 : decide ((j : Int) < 32) = true := by simp; omega
              have d2 : decide ((p : Int) + (j : Int) < 8 * (M : Int)) = false := by simp; omega
              by_cases hz : l' = F
              · have hrt := htold.2 hz
                have RT := Lib.hid (read_yes l' HTL.out HLE.out hrt)
                have hst : ((strOf l').toList == (strOf F).toList) = true := by rw [hz]; exact beq_self_eq_true _
                clear htold hz hrt
                generalize rdN l' = RN9 at RT
                generalize strOf (rdL l') = RL9 at RT
                go_wp2_with fail
                refine (RT.out wr).mono ?_
                rintro e wz ⟨rfl, hbz⟩
                have hstr2 := (HSL.out.below hbz (Nat.le_refl _)).str
                have HZ := Lib.hid (HB.out.trans (hbz.mono HB.out.size))
                clear hbz
                go_wp2_with fail
                refine (wakes04_any _).mono ?_
                rintro e w' ⟨rfl, hbw⟩
                have HW := Lib.hid (HZ.out.trans (hbw.mono HZ.out.size))
                clear hbw
                go_wp2_with fail
                go_ret
                exact ⟨rfl, HW.out⟩
              · have hrt : ¬ rdOk l' := fun h => hz (htold.1 h)
                have RT := Lib.hid (read_no l' HTL.out HLE.out hrt)
                have hst : ((strOf l').toList == (strOf F).toList) = false := by rw [str_beq HTL.out HFB.out]; simpa using hz
                clear htold hz hrt
                go_wp2_with fail
                refine (RT.out wr).mono ?_
                rintro e wz ⟨rfl, hbz⟩
                have hstr2 := (HSL.out.below hbz (Nat.le_refl _)).str
                have HZ := Lib.hid (HB.out.trans (hbz.mono HB.out.size))
                clear hbz
                go_wp2_with fail
                refine (wakes04_any _).mono ?_
                rintro e w' ⟨rfl, hbw⟩
                have HW := Lib.hid (HZ.out.trans (hbw.mono HZ.out.size))
                clear hbw
                go_wp2_with fail
                go_ret
                exact ⟨rfl, HW.out⟩
    · have x1 : bytesE a0 l = 2 := if_neg c1
      have y1 : bytesL a0 l = [] := if_neg c1
      rw [x1, y1, show strOf [] = ⟨#[]⟩ from rfl] at PB
      have c2 : ¬ (1 ≤ a0 ∧ a0 ≤ 1048575 ∧ n1 ≤ 600) := fun h => c1 ⟨h.1, h.2.1, by rw [HS1.out]; exact h.2.2⟩
      clear c1 x1 y1
      by_cases g : 1 ≤ a0
      · have g1 : decide (1 ≤ a0) = true := decide_eq_true g
        by_cases g' : a0 ≤ 1048575
        · have g2 : decide (a0 ≤ 1048575) = true := decide_eq_true g'
          have g3 : decide ((n1 : Int) ≤ 600) = false := by simp; omega
          clear c2 g g'
          go_enter Try.func8, Try.ntmps8
          go_wp2_with fail
          refine (PR.out w).mono ?_
          rintro e wa ⟨rfl, hb⟩
          have B1 := Lib.hid hb
          clear hb
          go_wp2_with fail
          refine (PA2.out wa).mono ?_
          rintro e wb ⟨rfl, hb⟩
          have B2 := Lib.hid (B1.out.trans (hb.mono B1.out.size))
          clear hb B1
          go_wp2_with fail
          refine (PB.out wb).mono ?_
          rintro e wc ⟨rfl, hb⟩
          have B3 := Lib.hid (B2.out.trans (hb.mono B2.out.size))
          clear hb B2
          go_wp2_with fail
          refine (wakes04_any _).mono ?_
          rintro e w' ⟨rfl, hb⟩
          have B7 := Lib.hid (B3.out.trans (hb.mono B3.out.size))
          clear hb B3
          go_wp2_with fail
          go_ret
          exact ⟨rfl, B7.out⟩
        · have g2 : decide (a0 ≤ 1048575) = false := decide_eq_false g'
          clear c2 g g'
          go_enter Try.func8, Try.ntmps8
          go_wp2_with fail
          refine (PR.out w).mono ?_
          rintro e wa ⟨rfl, hb⟩
          have B1 := Lib.hid hb
          clear hb
          go_wp2_with fail
          refine (PA2.out wa).mono ?_
          rintro e wb ⟨rfl, hb⟩
          have B2 := Lib.hid (B1.out.trans (hb.mono B1.out.size))
          clear hb B1
          go_wp2_with fail
          refine (PB.out wb).mono ?_
          rintro e wc ⟨rfl, hb⟩
          have B3 := Lib.hid (B2.out.trans (hb.mono B2.out.size))
          clear hb B2
          go_wp2_with fail
          refine (wakes04_any _).mono ?_
          rintro e w' ⟨rfl, hb⟩
          have B7 := Lib.hid (B3.out.trans (hb.mono B3.out.size))
          clear hb B3
          go_wp2_with fail
          go_ret
          exact ⟨rfl, B7.out⟩
      · have g1 : decide (1 ≤ a0) = false := decide_eq_false g
        clear c2 g
        go_enter Try.func8, Try.ntmps8
        go_wp2_with fail
        refine (PR.out w).mono ?_
        rintro e wa ⟨rfl, hb⟩
        have B1 := Lib.hid hb
        clear hb
        go_wp2_with fail
        refine (PA2.out wa).mono ?_
        rintro e wb ⟨rfl, hb⟩
        have B2 := Lib.hid (B1.out.trans (hb.mono B1.out.size))
        clear hb B1
        go_wp2_with fail
        refine (PB.out wb).mono ?_
        rintro e wc ⟨rfl, hb⟩
        have B3 := Lib.hid (B2.out.trans (hb.mono B2.out.size))
        clear hb B2
        go_wp2_with fail
        refine (wakes04_any _).mono ?_
        rintro e w' ⟨rfl, hb⟩
        have B7 := Lib.hid (B3.out.trans (hb.mono B3.out.size))
        clear hb B3
        go_wp2_with fail
        go_ret
        exact ⟨rfl, B7.out⟩
  · have PR := Lib.hid (read_no o ho (by omega) c0)
    clear c0 ho s1 s2 hlen hl
    generalize strOf o = SO at *
    by_cases c1 : okF a0 l
    · have x1 : bytesE a0 l = 0 := if_pos c1
      obtain ⟨N, rfl⟩ := Int.eq_ofNat_of_zero_le (show 0 ≤ a0 by have := c1.1; omega)
      have y1 : bytesL (N : Int) l = frm N l := by unfold bytesL; rw [if_pos c1]; rfl
      rw [x1, y1] at PB
      obtain ⟨k1, k2, k3⟩ := c1
      have hn1 : l.length = n1 := HS1.out
      rw [hn1] at k3
      have g1 : decide (1 ≤ (N : Int)) = true := decide_eq_true k1
      have g2 : decide ((N : Int) ≤ 1048575) = true := decide_eq_true k2
      have g3 : decide ((n1 : Int) ≤ 600) = true := by simp; omega
      have hrd := rd_of_frm N l HL.out (by omega) (by omega) (by omega)
      obtain ⟨F, hF⟩ : ∃ F, frm N l = F := ⟨_, rfl⟩
      have hFl : F.length = n1 + 12 := by rw [← hF, frm_length, hn1]
      have hFb : IsBytes F := by rw [← hF]; exact frm_bytes N HL.out
      have hless := frm_less N l (by omega)
      have hmore := frm_more N l (by omega)
      have HBU := Lib.hid (fun (M p D j : Nat) (t : List Nat) (ht : IsBytes t) (hlt : t.length = M) (hM : (frm N l).length = M) (hv : val t = val (frm N l) ^^^ 2 ^ p * (D % 2 ^ j)) (hj : j ≤ 32) (hp : p ≤ 8 * M) => frm_burst HL.out (by omega) (by omega) (by omega) ht hlt hM hv hj hp)
      have HS := Lib.hid (show sizeV (n1 : Int) = (n1 : Int) + 12 by unfold sizeV; rw [if_neg (by omega)])
      rw [hF] at PB hrd hless hmore HBU
      have RY := Lib.hid (read_yes F hFb (by omega) hrd.1)
      rw [hrd.2.1, hrd.2.2] at RY
      have RL' := Lib.hid (read_no (F.take (n1 + 11)) (hFb.take _) (by rw [List.length_take]; omega) (by rw [← hn1]; exact hless))
      have RM := Lib.hid (read_no (F ++ [0]) (hFb.append (IsBytes.one (by omega))) (by rw [List.length_append, hFl]; simp; omega) hmore)
      have OF := Lib.hid (of_any a1 F hFb (by omega))
      unfold OfPost at OF
      obtain ⟨M, hM⟩ : ∃ M, M = n1 + 12 := ⟨_, rfl⟩
      have hsz : (strOf F).size = M := by rw [strOf_size, hFl, hM]
      have hconv := conv_run F M (by rw [hFl, hM])
      have hsl := str_take F M hsz (by omega)
      rw [show M - 1 = n1 + 11 by omega] at hsl
      have hcat : strOf F ++ ⟨#[0]⟩ = strOf (F ++ [0]) := by rw [strOf_append]; rfl
      have HFB := Lib.hid hFb
      have HFL := Lib.hid (show F.length = M by rw [hFl, hM])
      have HM := Lib.hid hM
      have hMb : M ≤ 612 := by omega
      have hM1 : 12 ≤ M := by omega
      have hs12 : (n1 : Int) + 12 = (M : Int) := by omega
      rw [hs12] at HS
      have dM : ((M : Int) == 0) = false := by rw [beq_eq_false_iff_ne]; omega
      by_cases hmn : a1 = (N : Int)
      · have dmn : (a1 == (N : Int)) = true := by simpa using hmn
        have q1 : ofOk a1 F := ⟨hrd.1, by rw [hrd.2.1, hmn]⟩
        have q2 : ofL a1 F = l := by unfold ofL; rw [if_pos q1, hrd.2.2]
        rw [decide_eq_true q1, q2] at OF
        clear q1 q2 hmn hrd hless hmore x1 y1 hF hFl hFb hM hn1 k1 k2 k3 hs12
        go_enter Try.func8, Try.ntmps8
        go_wp2_with fail
        refine (PR.out w).mono ?_
        rintro e wb ⟨rfl, hb⟩
        have B2 := Lib.hid hb
        clear hb
        go_wp2_with fail
        refine (PB.out wb).mono ?_
        rintro e wc ⟨rfl, hb⟩
        have B3 := Lib.hid (B2.out.trans (hb.mono B2.out.size))
        clear hb B2
        go_wp2_with fail
        refine (RY.out wc).mono ?_
        rintro e wd ⟨rfl, hb⟩
        have B4 := Lib.hid (B3.out.trans (hb.mono B3.out.size))
        clear hb B3
        go_wp2_with fail
        refine (OF.out wd).mono ?_
        rintro e we ⟨rfl, hb⟩
        have B5 := Lib.hid (B4.out.trans (hb.mono B4.out.size))
        clear hb B4
        go_wp2_with fail
        refine (size_any _ _).mono ?_
        rintro e w' ⟨rfl, rfl⟩
        rw [HS.out]
        go_wp2_with fail
        refine (RL'.out we).mono ?_
        rintro e wf ⟨rfl, hb⟩
        have B6 := Lib.hid (B5.out.trans (hb.mono B5.out.size))
        clear hb B5
        go_wp2_with fail
        refine (RM.out wf).mono ?_
        rintro e wg ⟨rfl, hb⟩
        have B7 := Lib.hid (B6.out.trans (hb.mono B6.out.size))
        clear hb B6
        obtain ⟨p, hp, hp2⟩ := burst_at a4 (8 * (M : Int)) (by omega) (by omega)
        clear hsl hcat
        go_wp2_with fail
        have hcp := conv_cap wg M (by omega)
        have HR := Lib.hid (⟨B7.out.trans ((conv_below wg (strOf F)).mono B7.out.size), F, RowB.conv wg F HFB.out M HFL.out, rfl⟩ : BackRel w (Lib.bytesWorld wg 5 (strOf F)) wg.heap.size M (val F))
        have hgw : w.heap.size ≤ wg.heap.size := B7.out.size
        have hp3 : p < 8 * M := by omega
        clear hp hp2 hconv B7 PR PB RY RL' RM OF 
        obtain ⟨hcp1, hcp2⟩ := hcp
        generalize Lib.bytesWorld wg 5 (strOf F) = wh at *
        generalize grownCap wg M 0 5 = cap at *
        generalize wg.heap.size = g at *
        obtain ⟨V, hV⟩ : ∃ V, V = val F := ⟨_, rfl⟩
        rw [← hV] at HR
        have HV := Lib.hid hV
        clear hV
        go_loopw [33] (fun i wr => ∃ j : Nat, j ≤ 32 ∧ p + j ≤ 8 * M ∧ i = .int .i64 j ∧ BackRel w wr g M (V ^^^ 2 ^ p * (D % 2 ^ j))) (fun i _ => 32 - (intOf i).toNat)
        case atStart => exact ⟨0, by omega, by omega, rfl, by rw [Nat.pow_zero, Nat.mod_one, Nat.mul_zero, Nat.xor_zero]; exact HR.out⟩
        case round =>
          obtain ⟨j, hj, hpj, rfl, hb, l', ho', hv⟩ := hrel
          clear HR
          by_cases hlt : j < 32 ∧ p + j < 8 * M
          · have d1 : decide ((j : Int) < 32) = true := by simp; omega
            have d2 : decide ((p : Int) + (j : Int) < 8 * (M : Int)) = true := by simp; omega
            obtain ⟨q, r, hqr, hr⟩ : ∃ q r, p + j = 8 * q + r ∧ r < 8 := ⟨(p + j) / 8, (p + j) % 8, by omega, by omega⟩
            have hq1 : ((p : Int) + (j : Int)) / 8 = (q : Int) := by omega
            have hr1 : ((p : Int) + (j : Int)) % 8 = (r : Int) := by omega
            have hcell := ho'.cell q (by omega)
            have hfree := ho'.free q (by omega)
            have HO := Lib.hid ho'
            have HB := Lib.hid hb
            have HV2 := Lib.hid hv
            have hx := Lib.hid (HO.out.1.getD q)
            clear ho' hb hv
            generalize hxx : l'.getD q 0 = x at *
            have HX := Lib.hid hxx
            clear hxx
            rcases (show D / 2 ^ j % 2 = 1 ∨ D / 2 ^ j % 2 = 0 by omega) with hbt | hbt
            · have hbit : (bits BinOp.and IntKind.u32 ((D : Int) / 2 ^ j) 1 == 1) = true := burst_test HD.out hbt
              go_wp2
              go_region
              go_wp2
              have hR := back_round HB.out HO.out HV2.out HX.out hqr hr (by omega) hgw hbt
              go_roundw
              case rel => exact ⟨j + 1, by omega, by omega, by go_num, hR⟩
              case measure => simp [intOf]; omega
            · have hbit : (bits BinOp.and IntKind.u32 ((D : Int) / 2 ^ j) 1 == 1) = false := burst_test0 HD.out hbt
              go_wp2
              go_roundw
              case rel => exact ⟨j + 1, by omega, by omega, by go_num, by rw [burst_even hbt]; exact ⟨HB.out, l', HO.out, HV2.out⟩⟩
              case measure => simp [intOf]; omega
          · have htold := HBU.out M p D j l' ho'.1 ho'.2.1 HFL.out (by rw [← HV.out]; exact hv) hj (by omega)
            have HSL := Lib.hid (ho'.sl hcp1 hcp2)
            have HTL := Lib.hid ho'.1
            have HLE := Lib.hid (show l'.length ≤ 1000000 by rw [ho'.2.1]; omega)
            have hstr := (ho'.sl hcp1 hcp2).str
            have HB := Lib.hid hb
            clear hb ho' hv
            rcases (show j = 32 ∨ (j < 32 ∧ p + j = 8 * M) by omega) with hj32 | hj32
            · have d1 : decide ((j : Int) < 32) = false := by simp; omega
              by_cases hz : l' = F
              · have hrt := htold.2 hz
                have RT := Lib.hid (read_yes l' HTL.out HLE.out hrt)
                have hst : ((strOf l').toList == (strOf F).toList) = true := by rw [hz]; exact beq_self_eq_true _
                clear htold hz hrt
                generalize rdN l' = RN9 at RT
                generalize strOf (rdL l') = RL9 at RT
                go_wp2_with fail
                refine (RT.out wr).mono ?_
                rintro e wz ⟨rfl, hbz⟩
                have hstr2 := (HSL.out.below hbz (Nat.le_refl _)).str
                have HZ := Lib.hid (HB.out.trans (hbz.mono HB.out.size))
                clear hbz
                go_wp2_with fail
                refine (wakes04_any _).mono ?_
                rintro e w' ⟨rfl, hbw⟩
                have HW := Lib.hid (HZ.out.trans (hbw.mono HZ.out.size))
                clear hbw
                go_wp2_with fail
                go_ret
                exact ⟨rfl, HW.out⟩
              · have hrt : ¬ rdOk l' := fun h => hz (htold.1 h)
                have RT := Lib.hid (read_no l' HTL.out HLE.out hrt)
                have hst : ((strOf l').toList == (strOf F).toList) = false := by rw [str_beq HTL.out HFB.out]; simpa using hz
                clear htold hz hrt
                go_wp2_with fail
                refine (RT.out wr).mono ?_
                rintro e wz ⟨rfl, hbz⟩
                have hstr2 := (HSL.out.below hbz (Nat.le_refl _)).str
                have HZ := Lib.hid (HB.out.trans (hbz.mono HB.out.size))
                clear hbz
                go_wp2_with fail
                refine (wakes04_any _).mono ?_
                rintro e w' ⟨rfl, hbw⟩
                have HW := Lib.hid (HZ.out.trans (hbw.mono HZ.out.size))
                clear hbw
                go_wp2_with fail
                go_ret
                exact ⟨rfl, HW.out⟩
            · have d1 : decide ((j : Int) < 32) = true := by simp; omega
              have d2 : decide ((p : Int) + (j : Int) < 8 * (M : Int)) = false := by simp; omega
              by_cases hz : l' = F
              · have hrt := htold.2 hz
                have RT := Lib.hid (read_yes l' HTL.out HLE.out hrt)
                have hst : ((strOf l').toList == (strOf F).toList) = true := by rw [hz]; exact beq_self_eq_true _
                clear htold hz hrt
                generalize rdN l' = RN9 at RT
                generalize strOf (rdL l') = RL9 at RT
                go_wp2_with fail
                refine (RT.out wr).mono ?_
                rintro e wz ⟨rfl, hbz⟩
                have hstr2 := (HSL.out.below hbz (Nat.le_refl _)).str
                have HZ := Lib.hid (HB.out.trans (hbz.mono HB.out.size))
                clear hbz
                go_wp2_with fail
                refine (wakes04_any _).mono ?_
                rintro e w' ⟨rfl, hbw⟩
                have HW := Lib.hid (HZ.out.trans (hbw.mono HZ.out.size))
                clear hbw
                go_wp2_with fail
                go_ret
                exact ⟨rfl, HW.out⟩
              · have hrt : ¬ rdOk l' := fun h => hz (htold.1 h)
                have RT := Lib.hid (read_no l' HTL.out HLE.out hrt)
                have hst : ((strOf l').toList == (strOf F).toList) = false := by rw [str_beq HTL.out HFB.out]; simpa using hz
                clear htold hz hrt
                go_wp2_with fail
                refine (RT.out wr).mono ?_
                rintro e wz ⟨rfl, hbz⟩
                have hstr2 := (HSL.out.below hbz (Nat.le_refl _)).str
                have HZ := Lib.hid (HB.out.trans (hbz.mono HB.out.size))
                clear hbz
                go_wp2_with fail
                refine (wakes04_any _).mono ?_
                rintro e w' ⟨rfl, hbw⟩
                have HW := Lib.hid (HZ.out.trans (hbw.mono HZ.out.size))
                clear hbw
                go_wp2_with fail
                go_ret
                exact ⟨rfl, HW.out⟩
      · have dmn : (a1 == (N : Int)) = false := by simpa using hmn
        have q1 : ¬ ofOk a1 F := fun h => hmn (by have := h.2; rw [hrd.2.1] at this; exact this.symm)
        rw [decide_eq_false q1] at OF
        clear q1 hmn hrd hless hmore x1 y1 hF hFl hFb hM hn1 k1 k2 k3 hs12
        generalize strOf (ofL a1 F) = SX at *
        go_enter Try.func8, Try.ntmps8
        go_wp2_with fail
        refine (PR.out w).mono ?_
        rintro e wb ⟨rfl, hb⟩
        have B2 := Lib.hid hb
        clear hb
        go_wp2_with fail
        refine (PB.out wb).mono ?_
        rintro e wc ⟨rfl, hb⟩
        have B3 := Lib.hid (B2.out.trans (hb.mono B2.out.size))
        clear hb B2
        go_wp2_with fail
        refine (RY.out wc).mono ?_
        rintro e wd ⟨rfl, hb⟩
        have B4 := Lib.hid (B3.out.trans (hb.mono B3.out.size))
        clear hb B3
        go_wp2_with fail
        refine (OF.out wd).mono ?_
        rintro e we ⟨rfl, hb⟩
        have B5 := Lib.hid (B4.out.trans (hb.mono B4.out.size))
        clear hb B4
        go_wp2_with fail
        refine (size_any _ _).mono ?_
        rintro e w' ⟨rfl, rfl⟩
        rw [HS.out]
        go_wp2_with fail
        refine (RL'.out we).mono ?_
        rintro e wf ⟨rfl, hb⟩
        have B6 := Lib.hid (B5.out.trans (hb.mono B5.out.size))
        clear hb B5
        go_wp2_with fail
        refine (RM.out wf).mono ?_
        rintro e wg ⟨rfl, hb⟩
        have B7 := Lib.hid (B6.out.trans (hb.mono B6.out.size))
        clear hb B6
        obtain ⟨p, hp, hp2⟩ := burst_at a4 (8 * (M : Int)) (by omega) (by omega)
        clear hsl hcat
        go_wp2_with fail
        have hcp := conv_cap wg M (by omega)
        have HR := Lib.hid (⟨B7.out.trans ((conv_below wg (strOf F)).mono B7.out.size), F, RowB.conv wg F HFB.out M HFL.out, rfl⟩ : BackRel w (Lib.bytesWorld wg 5 (strOf F)) wg.heap.size M (val F))
        have hgw : w.heap.size ≤ wg.heap.size := B7.out.size
        have hp3 : p < 8 * M := by omega
        clear hp hp2 hconv B7 PR PB RY RL' RM OF 
        obtain ⟨hcp1, hcp2⟩ := hcp
        generalize Lib.bytesWorld wg 5 (strOf F) = wh at *
        generalize grownCap wg M 0 5 = cap at *
        generalize wg.heap.size = g at *
        obtain ⟨V, hV⟩ : ∃ V, V = val F := ⟨_, rfl⟩
        rw [← hV] at HR
        have HV := Lib.hid hV
        clear hV
        go_loopw [33] (fun i wr => ∃ j : Nat, j ≤ 32 ∧ p + j ≤ 8 * M ∧ i = .int .i64 j ∧ BackRel w wr g M (V ^^^ 2 ^ p * (D % 2 ^ j))) (fun i _ => 32 - (intOf i).toNat)
        case atStart => exact ⟨0, by omega, by omega, rfl, by rw [Nat.pow_zero, Nat.mod_one, Nat.mul_zero, Nat.xor_zero]; exact HR.out⟩
        case round =>
          obtain ⟨j, hj, hpj, rfl, hb, l', ho', hv⟩ := hrel
          clear HR
          by_cases hlt : j < 32 ∧ p + j < 8 * M
          · have d1 : decide ((j : Int) < 32) = true := by simp; omega
            have d2 : decide ((p : Int) + (j : Int) < 8 * (M : Int)) = true := by simp; omega
            obtain ⟨q, r, hqr, hr⟩ : ∃ q r, p + j = 8 * q + r ∧ r < 8 := ⟨(p + j) / 8, (p + j) % 8, by omega, by omega⟩
            have hq1 : ((p : Int) + (j : Int)) / 8 = (q : Int) := by omega
            have hr1 : ((p : Int) + (j : Int)) % 8 = (r : Int) := by omega
            have hcell := ho'.cell q (by omega)
            have hfree := ho'.free q (by omega)
            have HO := Lib.hid ho'
            have HB := Lib.hid hb
            have HV2 := Lib.hid hv
            have hx := Lib.hid (HO.out.1.getD q)
            clear ho' hb hv
            generalize hxx : l'.getD q 0 = x at *
            have HX := Lib.hid hxx
            clear hxx
            rcases (show D / 2 ^ j % 2 = 1 ∨ D / 2 ^ j % 2 = 0 by omega) with hbt | hbt
            · have hbit : (bits BinOp.and IntKind.u32 ((D : Int) / 2 ^ j) 1 == 1) = true := burst_test HD.out hbt
              go_wp2
              go_region
              go_wp2
              have hR := back_round HB.out HO.out HV2.out HX.out hqr hr (by omega) hgw hbt
              go_roundw
              case rel => exact ⟨j + 1, by omega, by omega, by go_num, hR⟩
              case measure => simp [intOf]; omega
            · have hbit : (bits BinOp.and IntKind.u32 ((D : Int) / 2 ^ j) 1 == 1) = false := burst_test0 HD.out hbt
              go_wp2
              go_roundw
              case rel => exact ⟨j + 1, by omega, by omega, by go_num, by rw [burst_even hbt]; exact ⟨HB.out, l', HO.out, HV2.out⟩⟩
              case measure => simp [intOf]; omega
          · have htold := HBU.out M p D j l' ho'.1 ho'.2.1 HFL.out (by rw [← HV.out]; exact hv) hj (by omega)
            have HSL := Lib.hid (ho'.sl hcp1 hcp2)
            have HTL := Lib.hid ho'.1
            have HLE := Lib.hid (show l'.length ≤ 1000000 by rw [ho'.2.1]; omega)
            have hstr := (ho'.sl hcp1 hcp2).str
            have HB := Lib.hid hb
            clear hb ho' hv
            rcases (show j = 32 ∨ (j < 32 ∧ p + j = 8 * M) by omega) with hj32 | hj32
            · have d1 : decide ((j : Int) < 32) = false := by simp; omega
              by_cases hz : l' = F
              · have hrt := htold.2 hz
                have RT := Lib.hid (read_yes l' HTL.out HLE.out hrt)
                have hst : ((strOf l').toList == (strOf F).toList) = true := by rw [hz]; exact beq_self_eq_true _
                clear htold hz hrt
                generalize rdN l' = RN9 at RT
                generalize strOf (rdL l') = RL9 at RT
                go_wp2_with fail
                refine (RT.out wr).mono ?_
                rintro e wz ⟨rfl, hbz⟩
                have hstr2 := (HSL.out.below hbz (Nat.le_refl _)).str
                have HZ := Lib.hid (HB.out.trans (hbz.mono HB.out.size))
                clear hbz
                go_wp2_with fail
                refine (wakes04_any _).mono ?_
                rintro e w' ⟨rfl, hbw⟩
                have HW := Lib.hid (HZ.out.trans (hbw.mono HZ.out.size))
                clear hbw
                go_wp2_with fail
                go_ret
                exact ⟨rfl, HW.out⟩
              · have hrt : ¬ rdOk l' := fun h => hz (htold.1 h)
                have RT := Lib.hid (read_no l' HTL.out HLE.out hrt)
                have hst : ((strOf l').toList == (strOf F).toList) = false := by rw [str_beq HTL.out HFB.out]; simpa using hz
                clear htold hz hrt
                go_wp2_with fail
                refine (RT.out wr).mono ?_
                rintro e wz ⟨rfl, hbz⟩
                have hstr2 := (HSL.out.below hbz (Nat.le_refl _)).str
                have HZ := Lib.hid (HB.out.trans (hbz.mono HB.out.size))
                clear hbz
                go_wp2_with fail
                refine (wakes04_any _).mono ?_
                rintro e w' ⟨rfl, hbw⟩
                have HW := Lib.hid (HZ.out.trans (hbw.mono HZ.out.size))
                clear hbw
                go_wp2_with fail
                go_ret
                exact ⟨rfl, HW.out⟩
            · have d1 : decide ((j : Int) < 32) = true := by simp; omega
              have d2 : decide ((p : Int) + (j : Int) < 8 * (M : Int)) = false := by simp; omega
              by_cases hz : l' = F
              · have hrt := htold.2 hz
                have RT := Lib.hid (read_yes l' HTL.out HLE.out hrt)
                have hst : ((strOf l').toList == (strOf F).toList) = true := by rw [hz]; exact beq_self_eq_true _
                clear htold hz hrt
                generalize rdN l' = RN9 at RT
                generalize strOf (rdL l') = RL9 at RT
                go_wp2_with fail
                refine (RT.out wr).mono ?_
                rintro e wz ⟨rfl, hbz⟩
                have hstr2 := (HSL.out.below hbz (Nat.le_refl _)).str
                have HZ := Lib.hid (HB.out.trans (hbz.mono HB.out.size))
                clear hbz
                go_wp2_with fail
                refine (wakes04_any _).mono ?_
                rintro e w' ⟨rfl, hbw⟩
                have HW := Lib.hid (HZ.out.trans (hbw.mono HZ.out.size))
                clear hbw
                go_wp2_with fail
                go_ret
                exact ⟨rfl, HW.out⟩
              · have hrt : ¬ rdOk l' := fun h => hz (htold.1 h)
                have RT := Lib.hid (read_no l' HTL.out HLE.out hrt)
                have hst : ((strOf l').toList == (strOf F).toList) = false := by rw [str_beq HTL.out HFB.out]; simpa using hz
                clear htold hz hrt
                go_wp2_with fail
                refine (RT.out wr).mono ?_
                rintro e wz ⟨rfl, hbz⟩
                have hstr2 := (HSL.out.below hbz (Nat.le_refl _)).str
                have HZ := Lib.hid (HB.out.trans (hbz.mono HB.out.size))
                clear hbz
                go_wp2_with fail
                refine (wakes04_any _).mono ?_
                rintro e w' ⟨rfl, hbw⟩
                have HW := Lib.hid (HZ.out.trans (hbw.mono HZ.out.size))
                clear hbw
                go_wp2_with fail
                go_ret
                exact ⟨rfl, HW.out⟩
    · have x1 : bytesE a0 l = 2 := if_neg c1
      have y1 : bytesL a0 l = [] := if_neg c1
      rw [x1, y1, show strOf [] = ⟨#[]⟩ from rfl] at PB
      have c2 : ¬ (1 ≤ a0 ∧ a0 ≤ 1048575 ∧ n1 ≤ 600) := fun h => c1 ⟨h.1, h.2.1, by rw [HS1.out]; exact h.2.2⟩
      clear c1 x1 y1
      by_cases g : 1 ≤ a0
      · have g1 : decide (1 ≤ a0) = true := decide_eq_true g
        by_cases g' : a0 ≤ 1048575
        · have g2 : decide (a0 ≤ 1048575) = true := decide_eq_true g'
          have g3 : decide ((n1 : Int) ≤ 600) = false := by simp; omega
          clear c2 g g'
          go_enter Try.func8, Try.ntmps8
          go_wp2_with fail
          refine (PR.out w).mono ?_
          rintro e wb ⟨rfl, hb⟩
          have B2 := Lib.hid hb
          clear hb
          go_wp2_with fail
          refine (PB.out wb).mono ?_
          rintro e wc ⟨rfl, hb⟩
          have B3 := Lib.hid (B2.out.trans (hb.mono B2.out.size))
          clear hb B2
          go_wp2_with fail
          refine (wakes04_any _).mono ?_
          rintro e w' ⟨rfl, hb⟩
          have B7 := Lib.hid (B3.out.trans (hb.mono B3.out.size))
          clear hb B3
          go_wp2_with fail
          go_ret
          exact ⟨rfl, B7.out⟩
        · have g2 : decide (a0 ≤ 1048575) = false := decide_eq_false g'
          clear c2 g g'
          go_enter Try.func8, Try.ntmps8
          go_wp2_with fail
          refine (PR.out w).mono ?_
          rintro e wb ⟨rfl, hb⟩
          have B2 := Lib.hid hb
          clear hb
          go_wp2_with fail
          refine (PB.out wb).mono ?_
          rintro e wc ⟨rfl, hb⟩
          have B3 := Lib.hid (B2.out.trans (hb.mono B2.out.size))
          clear hb B2
          go_wp2_with fail
          refine (wakes04_any _).mono ?_
          rintro e w' ⟨rfl, hb⟩
          have B7 := Lib.hid (B3.out.trans (hb.mono B3.out.size))
          clear hb B3
          go_wp2_with fail
          go_ret
          exact ⟨rfl, B7.out⟩
      · have g1 : decide (1 ≤ a0) = false := decide_eq_false g
        clear c2 g
        go_enter Try.func8, Try.ntmps8
        go_wp2_with fail
        refine (PR.out w).mono ?_
        rintro e wb ⟨rfl, hb⟩
        have B2 := Lib.hid hb
        clear hb
        go_wp2_with fail
        refine (PB.out wb).mono ?_
        rintro e wc ⟨rfl, hb⟩
        have B3 := Lib.hid (B2.out.trans (hb.mono B2.out.size))
        clear hb B2
        go_wp2_with fail
        refine (wakes04_any _).mono ?_
        rintro e w' ⟨rfl, hb⟩
        have B7 := Lib.hid (B3.out.trans (hb.mono B3.out.size))
        clear hb B3
        go_wp2_with fail
        go_ret
        exact ⟨rfl, B7.out⟩
end Go.Proofs.Ytcffabfaefbjcaa
