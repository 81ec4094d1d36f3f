/-
  The walks of FrameTells and FrameOne (chapter 04).
-/
import Derived.Test.YtcffabfaefbjcaaOf
import Derived.OpenShut
namespace Go.Proofs.Ytcffabfaefbjcaa
set_option linter.unusedVariables false
open Go.RowKit Go.ChangeShapes Crc
set_option maxHeartbeats 1000000 in
theorem lawFrameTells_walk (a0 : Int) (a1 a2 : ByteArray) (a3 : Int) (w : World) (w0 : (Lit.int .i64 a0).wf = true) (w1 : a1.size ≤ maxLen) (w2 : a2.size ≤ maxLen) (w3 : (Lit.int .i64 a3).wf = true) (z1 : a1.size ≤ 140737488351232) (z2 : a2.size ≤ 140737488351232) :
    Calls Try.prog 7 #[.int .i64 a0, .string a1, .string a2, .int .i64 a3] w fun e w' => e = .returned (.bool true) ∧ Below w.heap.size w w' := by
  have b0 := bounds_i64 w0
  clear w0 w1 w2 w3
  obtain ⟨l1, h1, rfl, s1⟩ := text_list a1
  obtain ⟨l2, h2, rfl, s2⟩ := text_list a2
  obtain ⟨n1, e1⟩ : ∃ n, (strOf l1).size = n := ⟨_, rfl⟩
  obtain ⟨n2, e2⟩ : ∃ n, (strOf l2).size = n := ⟨_, rfl⟩
  rw [e1] at s1 z1
  rw [e2] at s2 z2
  by_cases hlen : 4000 < n1 + n2
  · have d0 : decide ((4000 : Int) < (n1 : Int) + (n2 : Int)) = true := by simp; omega
    go_enter Try.func7, Try.ntmps7
    go_wp2_with (go_at_call 26; refine (wakes04_any _).mono ?_; rintro e w' ⟨rfl, hb⟩)
    go_ret
    exact ⟨rfl, hb⟩
  have d0 : decide ((4000 : Int) < (n1 : Int) + (n2 : Int)) = false := by simp; omega
  have A := Lib.hid (bytes_any a0 b0 l1 h1 (by omega))
  have AR := Lib.hid (bytesr_any a0 l1 h1)
  have R := Lib.hid (read_any l2 h2 (by omega))
  have RR := Lib.hid (readr_any l2 h2 (by omega))
  have O := Lib.hid (of_any a0 l2 h2 (by omega))
  have OR := Lib.hid (ofr_any a0 l2 h2 (by omega))
  unfold ReadPost at R RR
  unfold OfPost at O OR
  clear h1 h2 s1 s2 hlen
  generalize strOf (bytesL a0 l1) = S1 at *
  generalize bytesE a0 l1 = E1 at *
  generalize (if rdOk l2 then rdN l2 else 0) = N2 at *
  generalize strOf (if rdOk l2 then rdL l2 else []) = S2 at *
  generalize (if rdOk l2 then (0 : Int) else 50) = E2 at *
  generalize strOf (ofL a0 l2) = S3 at *
  generalize decide (ofOk a0 l2) = B3 at *
  go_enter Try.func7, Try.ntmps7
  go_wp2_with fail
  refine (A.out w).mono ?_
  rintro e wa ⟨rfl, hb⟩
  have B1 := Lib.hid hb
  clear hb
  go_wp2_with fail
  refine (AR.out wa).mono ?_
  rintro e wb ⟨rfl, hb⟩
  have B2 := Lib.hid (B1.out.trans (hb.mono B1.out.size))
  clear hb B1
  go_wp2_with fail
  refine (R.out wb).mono ?_
  rintro e wc ⟨rfl, hb⟩
  have B3' := Lib.hid (B2.out.trans (hb.mono B2.out.size))
  clear hb B2
  go_wp2_with fail
  refine (RR.out wc).mono ?_
  rintro e wd ⟨rfl, hb⟩
  have B4 := Lib.hid (B3'.out.trans (hb.mono B3'.out.size))
  clear hb B3'
  go_wp2_with fail
  refine (O.out wd).mono ?_
  rintro e we ⟨rfl, hb⟩
  have B5 := Lib.hid (B4.out.trans (hb.mono B4.out.size))
  clear hb B4
  go_wp2_with fail
  refine (OR.out we).mono ?_
  rintro e wf ⟨rfl, hb⟩
  have B6 := Lib.hid (B5.out.trans (hb.mono B5.out.size))
  clear hb B5
  go_wp2_with fail
  refine (size_any a3 _).mono ?_
  rintro e w' ⟨rfl, rfl⟩
  go_wp2_with fail
  refine (sizer_any a3 _).mono ?_
  rintro e w' ⟨rfl, rfl⟩
  generalize sizeV a3 = SV
  go_wp2_with fail
  refine (wakes04_any _).mono ?_
  rintro e w' ⟨rfl, hb⟩
  have B7 := Lib.hid (B6.out.trans (hb.mono B6.out.size))
  clear hb B6
  go_wp2_with fail
  go_ret
  exact ⟨rfl, B7.out⟩
theorem frm_inj {n m : Nat} {l o : List Nat} (hl : IsBytes l) (ho : IsBytes o) (h1 : okF (n : Int) l) (h2 : okF (m : Int) o) : frm n l = frm m o ↔ n = m ∧ l = o := by
  constructor
  · intro h
    have ha := rd_of_frm n l hl (by have := h1.1; omega) (by have := h1.2.1; omega) h1.2.2
    have hb := rd_of_frm m o ho (by have := h2.1; omega) (by have := h2.2.1; omega) h2.2.2
    rw [h] at ha
    have e1 := ha.2.1.symm.trans hb.2.1
    exact ⟨by omega, ha.2.2.symm.trans hb.2.2⟩
  · rintro ⟨rfl, rfl⟩; rfl
set_option maxHeartbeats 1000000 in
theorem lawFrameOne_walk (a0 a1 : Int) (a2 a3 : ByteArray) (w : World) (w0 : (Lit.int .i64 a0).wf = true) (w1 : (Lit.int .i64 a1).wf = true) (w2 : a2.size ≤ maxLen) (w3 : a3.size ≤ maxLen) (z2 : a2.size ≤ 140737488351232) (z3 : a3.size ≤ 140737488351232) :
    Calls Try.prog 9 #[.int .i64 a0, .int .i64 a1, .string a2, .string a3] w fun e w' => e = .returned (.bool true) ∧ Below w.heap.size w w' := by
  have b0 := bounds_i64 w0
  have b1 := bounds_i64 w1
  clear w0 w1 w2 w3
  obtain ⟨l, hl, rfl, s1⟩ := text_list a2
  obtain ⟨o, ho, rfl, s2⟩ := text_list a3
  obtain ⟨n1, e1⟩ : ∃ n, (strOf l).size = n := ⟨_, rfl⟩
  obtain ⟨n2, e2⟩ : ∃ n, (strOf o).size = n := ⟨_, rfl⟩
  rw [e1] at s1 z2
  rw [e2] at s2 z3
  by_cases hlen : 4000 < n1 + n2
  · have d0 : decide ((4000 : Int) < (n1 : Int) + (n2 : Int)) = true := by simp; omega
    go_enter Try.func9, Try.ntmps9
    go_wp2_with (go_at_call 26; refine (wakes04_any _).mono ?_; rintro e w' ⟨rfl, hb⟩)
    go_ret
    exact ⟨rfl, hb⟩
  have d0 : decide ((4000 : Int) < (n1 : Int) + (n2 : Int)) = false := by simp; omega
  have PA := Lib.hid (bytes_any a0 b0 l hl (by omega))
  have PB := Lib.hid (bytes_any a1 b1 o ho (by omega))
  by_cases c1 : okF a0 l
  · have x1 : bytesE a0 l = 0 := if_pos c1
    rw [x1] at PA
    by_cases c2 : okF a1 o
    · have x2 : bytesE a1 o = 0 := if_pos c2
      rw [x2] at PB
      obtain ⟨N, rfl⟩ := Int.eq_ofNat_of_zero_le (show 0 ≤ a0 by have := c1.1; omega)
      obtain ⟨M, rfl⟩ := Int.eq_ofNat_of_zero_le (show 0 ≤ a1 by have := c2.1; omega)
      have y1 : bytesL (N : Int) l = frm N l := by unfold bytesL; rw [if_pos c1]; rfl
      have y2 : bytesL (M : Int) o = frm M o := by unfold bytesL; rw [if_pos c2]; rfl
      rw [y1] at PA
      rw [y2] at PB
      have hinj := frm_inj hl ho c1 c2
      have hrd := rd_of_frm M o ho (by have := c2.1; omega) (by have := c2.2.1; omega) c2.2.2
      have PO := Lib.hid (of_any (N : Int) (frm M o) (frm_bytes _ ho) (by rw [frm_length]; omega))
      unfold OfPost at PO
      have gab := str_beq (frm_bytes N hl) (frm_bytes M ho)
      have glo := str_beq hl ho
      clear x1 x2 y1 y2 c1 c2 s1 s2 hl ho hlen b0 b1
      by_cases hnm : N = M
      · have k1 : ofOk (N : Int) (frm M o) := ⟨hrd.1, by rw [hrd.2.1, hnm]⟩
        have k2 : ofL (N : Int) (frm M o) = o := by unfold ofL; rw [if_pos k1, hrd.2.2]
        rw [decide_eq_true k1, k2] at PO
        have dn : ((N : Int) == (M : Int)) = true := by rw [beq_iff_eq]; omega
        by_cases hlo : l = o
        · rw [decide_eq_true (hinj.2 ⟨hnm, hlo⟩)] at gab
          rw [decide_eq_true hlo] at glo
          clear hinj hrd k1 k2 hnm hlo
          generalize strOf (frm N l) = SA at *
          generalize strOf (frm M o) = SB at *
          generalize strOf l = SL at *
          generalize strOf o = SO at *
          go_enter Try.func9, Try.ntmps9
          go_wp2_with fail
          refine (PA.out w).mono ?_
          rintro e wa ⟨rfl, hb⟩
          have B1 := Lib.hid hb
          clear hb
          go_wp2_with fail
          refine (PB.out wa).mono ?_
          rintro e wb ⟨rfl, hb⟩
          have B2 := Lib.hid (B1.out.trans (hb.mono B1.out.size))
          clear hb B1
          go_wp2_with fail
          refine (PO.out wb).mono ?_
          rintro e wc ⟨rfl, hb⟩
          have B3 := Lib.hid (B2.out.trans (hb.mono B2.out.size))
          clear hb B2
          go_wp2_with fail
          refine (wakes04_any _).mono ?_
          rintro e w' ⟨rfl, hb⟩
          have B7 := Lib.hid (B3.out.trans (hb.mono B3.out.size))
          clear hb B3
          go_wp2_with fail
          go_ret
          exact ⟨rfl, B7.out⟩
        · rw [decide_eq_false (fun h => hlo (hinj.1 h).2)] at gab
          rw [decide_eq_false hlo] at glo
          clear hinj hrd k1 k2 hnm hlo
          generalize strOf (frm N l) = SA at *
          generalize strOf (frm M o) = SB at *
          generalize strOf l = SL at *
          generalize strOf o = SO at *
          go_enter Try.func9, Try.ntmps9
          go_wp2_with fail
          refine (PA.out w).mono ?_
          rintro e wa ⟨rfl, hb⟩
          have B1 := Lib.hid hb
          clear hb
          go_wp2_with fail
          refine (PB.out wa).mono ?_
          rintro e wb ⟨rfl, hb⟩
          have B2 := Lib.hid (B1.out.trans (hb.mono B1.out.size))
          clear hb B1
          go_wp2_with fail
          refine (PO.out wb).mono ?_
          rintro e wc ⟨rfl, hb⟩
          have B3 := Lib.hid (B2.out.trans (hb.mono B2.out.size))
          clear hb B2
          go_wp2_with fail
          refine (wakes04_any _).mono ?_
          rintro e w' ⟨rfl, hb⟩
          have B7 := Lib.hid (B3.out.trans (hb.mono B3.out.size))
          clear hb B3
          go_wp2_with fail
          go_ret
          exact ⟨rfl, B7.out⟩
      · have k1 : ¬ ofOk (N : Int) (frm M o) := fun h => hnm (by have := h.2; rw [hrd.2.1] at this; omega)
        rw [decide_eq_false k1] at PO
        have dn : ((N : Int) == (M : Int)) = false := by rw [beq_eq_false_iff_ne]; omega
        rw [decide_eq_false (fun h => hnm (hinj.1 h).1)] at gab
        clear hinj hrd k1 hnm glo
        generalize strOf (frm N l) = SA at *
        generalize strOf (frm M o) = SB at *
        generalize strOf (ofL (N : Int) (frm M o)) = SX at *
        generalize strOf l = SL at *
        generalize strOf o = SO at *
        go_enter Try.func9, Try.ntmps9
        go_wp2_with fail
        refine (PA.out w).mono ?_
        rintro e wa ⟨rfl, hb⟩
        have B1 := Lib.hid hb
        clear hb
        go_wp2_with fail
        refine (PB.out wa).mono ?_
        rintro e wb ⟨rfl, hb⟩
        have B2 := Lib.hid (B1.out.trans (hb.mono B1.out.size))
        clear hb B1
        go_wp2_with fail
        refine (PO.out wb).mono ?_
        rintro e wc ⟨rfl, hb⟩
        have B3 := Lib.hid (B2.out.trans (hb.mono B2.out.size))
        clear hb B2
        go_wp2_with fail
        refine (wakes04_any _).mono ?_
        rintro e w' ⟨rfl, hb⟩
        have B7 := Lib.hid (B3.out.trans (hb.mono B3.out.size))
        clear hb B3
        go_wp2_with fail
        go_ret
        exact ⟨rfl, B7.out⟩
    · have x2 : bytesE a1 o = 2 := if_neg c2
      rw [x2] at PB
      clear c1 c2 x1 x2 hl ho s1 s2 hlen
      generalize strOf (bytesL a0 l) = SA at *
      generalize strOf (bytesL a1 o) = SB at *
      go_enter Try.func9, Try.ntmps9
      go_wp2_with fail
      refine (PA.out w).mono ?_
      rintro e wa ⟨rfl, hb⟩
      have B1 := Lib.hid hb
      clear hb
      go_wp2_with fail
      refine (PB.out wa).mono ?_
      rintro e wb ⟨rfl, hb⟩
      have B2 := Lib.hid (B1.out.trans (hb.mono B1.out.size))
      clear hb B1
      go_wp2_with fail
      refine (wakes04_any _).mono ?_
      rintro e w' ⟨rfl, hb⟩
      have B7 := Lib.hid (B2.out.trans (hb.mono B2.out.size))
      clear hb B2
      go_wp2_with fail
      go_ret
      exact ⟨rfl, B7.out⟩
  · have x1 : bytesE a0 l = 2 := if_neg c1
    rw [x1] at PA
    clear c1 x1 hl ho s1 s2 hlen
    generalize strOf (bytesL a0 l) = SA at *
    generalize strOf (bytesL a1 o) = SB at *
    generalize bytesE a1 o = EB at *
    go_enter Try.func9, Try.ntmps9
    go_wp2_with fail
    refine (PA.out w).mono ?_
    rintro e wa ⟨rfl, hb⟩
    have B1 := Lib.hid hb
    clear hb
    go_wp2_with fail
    refine (PB.out wa).mono ?_
    rintro e wb ⟨rfl, hb⟩
    have B2 := Lib.hid (B1.out.trans (hb.mono B1.out.size))
    clear hb B1
    go_wp2_with fail
    refine (wakes04_any _).mono ?_
    rintro e w' ⟨rfl, hb⟩
    have B7 := Lib.hid (B2.out.trans (hb.mono B2.out.size))
    clear hb B2
    go_wp2_with fail
    go_ret
    exact ⟨rfl, B7.out⟩
end Go.Proofs.Ytcffabfaefbjcaa
