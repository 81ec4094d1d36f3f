/-
  HeapPlays (chapter 15): the walk.
-/
import Derived.Test.YtcmmmmpdehfefaaHBoth
namespace Go.Proofs.Ytcmmmmpdehfefaa
set_option linter.unusedVariables false
set_option linter.unusedSimpArgs false
open Go.RowKit Go.Maps
/-- an act's number is told apart from what it is read of -/
def XW (b : Nat) (x : Ac) : Type := { w : World // XB w b x }
set_option maxHeartbeats 4000000 in
set_option maxRecDepth 100000 in
theorem lawHeapPlays_walk (q0 : Value × List Ac) (w : World) (w0 : SlA w q0.1 q0.2) :
    Calls Try.prog 5 #[q0.1] w fun e w' => e = .returned (.bool true) ∧ Below w.heap.size w w' := by
  obtain ⟨v0, l0⟩ := q0
  simp only at w0 ⊢
  obtain ⟨hwf, ao, cap, rfl, hc1, hc2, hcell⟩ := w0
  unfold maxLen at hc2
  have HC := Lib.hid hcell
  have HWF := Lib.hid (fun j x (h : l0[j]? = some x) => hwf x (List.mem_of_getElem? h))
  clear hcell hwf
  by_cases hl : 200 < l0.length
  · have d0 : decide ((200 : Int) < (l0.length : Int)) = true := by simp; omega
    generalize l0.length = m at *
    go_enter Try.func5, Try.ntmps5
    go_wp2_with fail
    refine (wakes_any _).mono ?_
    rintro e w2 ⟨rfl, h2⟩
    go_wp2_with fail
    go_ret
    exact ⟨rfl, h2.below⟩
  have d0 : decide ((200 : Int) < (l0.length : Int)) = false := by simp; omega
  obtain ⟨m, hm⟩ : ∃ m, l0.length = m := ⟨_, rfl⟩
  have HM := Lib.hid hm
  rw [hm] at hl d0 hc1 ⊢
  have hm200 : m ≤ 200 := by omega
  have hsz1 : ((w.alloc (.map #[] 0)).alloc (.cells #[.slice none 0 0, .map (some w.heap.size)] 54)).heap.size = w.heap.size + 1 + 1 := by simp
  clear hm hl
  go_enter Try.func5, Try.ntmps5
  go_wp2_with fail
  refine (new_any _).mono ?_
  rintro e w1 ⟨rfl, hw1⟩
  rw [← hw1] at hsz1
  have HW1 := Lib.hid hw1
  have HSZ1 := Lib.hid hsz1
  clear hw1 hsz1
  go_wp2_with fail
  refine (rnew_any _).mono ?_
  rintro e w2 ⟨rfl, hw2⟩
  have H0 := Lib.hid (BSt.new w w1 w2 HW1.out hw2)
  rw [HSZ1.out]
  clear hw2 HW1 HSZ1
  go_wp2_with fail
  go_loopw [33] (fun iv wr => ∃ (j n : Nat) (L : List Pr) (S : Nat → Prop) (l : List (Int × Int)) (T : Nat → Prop), j ≤ m ∧ iv = .int .i64 j ∧ n ≤ j ∧ L.length ≤ j ∧ BSt w wr (w.heap.size + 1) w.heap.size (w.heap.size + 1 + 1) n L S l T ∧ (L.map prP).Perm l) (fun iv _ => m - (intOf iv).toNat)
  case atStart => exact ⟨0, 0, [], _, [], _, Nat.zero_le _, rfl, Nat.le_refl _, Nat.le_refl _, H0.out, List.Perm.refl _⟩
  case round =>
    obtain ⟨j, n, L, S, l, T, hj, rfl, hn, hL, hs, hp⟩ := hrel
    have HS := Lib.hid hs
    have HP := Lib.hid hp
    have hll : l.length = L.length := (perm_len hp).symm
    have HLL := Lib.hid hll
    clear hs hp hll
    by_cases hlt : j < m
    · obtain ⟨x, hx⟩ : ∃ x, l0[j]? = some x := ⟨l0[j]'(by rw [HM.out]; exact hlt), List.getElem?_eq_getElem _⟩
      obtain ⟨b, off, rfl, r1, r2, r3⟩ := HC.out j x hx
      have r1' := (HS.out.one.sz.cell (World.block_lt_of_cell? w _ r1)).trans r1
      have r2' := (HS.out.one.sz.cell (World.block_lt_of_cell? w _ r2)).trans r2
      have r3' := (HS.out.one.sz.cell (World.block_lt_of_cell? w _ r3)).trans r3
      have HX := Lib.hid (HWF.out j x hx)
      clear hx r1 r2 r3
      have HW := Lib.hid (HS.out.below ((Below.refl wr.heap.size wr).alloc (Nat.le_refl _) (.cells #[.int .i64 x.d, .int .i64 x.c, .int .i64 x.n] 38)))
      have HWd : Hid (BSt w ((wr.alloc (.cells #[.int .i64 x.d, .int .i64 x.c, .int .i64 x.n] 38)).drew) (w.heap.size + 1) w.heap.size (w.heap.size + 1 + 1) n L S l T) := Lib.hid (HW.out.left (HW.out.one.drewN 1) (Step.drewN _ _ _ 1) HW.out.heap)
      have HXB : Hid (XB (wr.alloc (.cells #[.int .i64 x.d, .int .i64 x.c, .int .i64 x.n] 38)) wr.heap.size x) := Lib.hid (heap_alloc_new _ _)
      have HOF := Lib.hid (own_far HS.out.one)
      have HOT : Hid (¬ T wr.heap.size) := Lib.hid (fun ht => Nat.lt_irrefl _ (HS.out.ref.lt _ ht))
      have HND := Lib.hid HS.out.one.nodup
      by_cases k0 : x.d = 0
      · have d1 : (x.d == 0) = true := by simpa using k0
        clear k0
        go_wp2_with fail
        refine wp_region_noPanic ?_
        haveI : Inhabited (XW wr.heap.size x) := ⟨⟨_, HXB.out⟩⟩
        have f1 : ∀ q : XW wr.heap.size x, q.1.cell? ⟨wr.heap.size, 1, none⟩ = some (.int .i64 x.c) := fun q => q.2.cells.2.1
        have f2 : ∀ q : XW wr.heap.size x, q.1.cell? ⟨wr.heap.size, 2, none⟩ = some (.int .i64 x.n) := fun q => q.2.cells.2.2
        refine wp_region_plw (.step [true, true, true, true, true, false, true, true, true, true, true] (.cons 5 (.step [] (.cons 11 (.last [false, false, false, false, false, false, false, false, false, false, false, false, true]) .nil)) .nil)) (fun y => ∃ q : XW wr.heap.size x, y = q.1) (by kernel_rfl) (by kernel_rfl) (by kernel_rfl) (fun _ _ _ _ _ _ _ h => h) ⟨(⟨(wr.alloc (.cells #[.int .i64 x.d, .int .i64 x.c, .int .i64 x.n] 38)).drew, HXB.out⟩ : XW wr.heap.size x), rfl⟩ ?_
        simp only [wpPw, wpBw, selF, and_true]
        repeat (go_big_quiet_step (fail))
        refine wpQuiet_nil ?_
        clear f1 f2
        refine wpOp_step rfl (fun K hK => ?_)
        go_simp
        refine (kput Keeps.heap HWd.out.one HWd.out.heap (by omega) (by omega) x.c x.n).mono ?_
        rintro e w2 ⟨rfl, n', L', S', h', hst, hh, hn', hp'⟩
        have H2 := Lib.hid (HWd.out.left h' hst hh)
        have hxb2 : XB w2 wr.heap.size x := XB.step (w := (wr.alloc (.cells #[.int .i64 x.d, .int .i64 x.c, .int .i64 x.n] 38)).drew) HXB.out HOF.out hst
        have HP3 : Hid ((L'.map prP).Perm (rputK x.c x.n l)) := Lib.hid (hp'.trans (rputK_perm HP.out HND.out))
        have hl' : L'.length ≤ L.length + 1 := by rw [perm_len hp']; have := putK_len x.c x.n (L.map prP); rw [List.length_map] at this; exact this
        refine hK _ _ ⟨fun y => ∃ q : XW wr.heap.size x, y = q.1, ⟨⟨w2, hxb2⟩, rfl⟩, fun _ h => h, ?_⟩
        have HX2 := Lib.hid hxb2
        clear hK K h' hst hh hp' hxb2
        refine wpQuiet_nil ?_
        refine wpOp_step rfl (fun K hK => ?_)
        go_simp
        refine (rput_any H2.out.ref x.c x.n (by have := HLL.out; omega)).mono ?_
        rintro e w3 ⟨rfl, T', hr3, hst3⟩
        have H3 := Lib.hid (H2.out.right hr3 hst3)
        refine hK _ _ ⟨fun y => ∃ q : XW wr.heap.size x, y = q.1, ⟨⟨w3, HX2.out.stp HOT.out hst3⟩, rfl⟩, fun _ h => h, ?_⟩
        clear hK K hr3 hst3
        generalize putE x.c = pe
        generalize rputK x.c x.n l = l' at *
        repeat (go_big_quiet_step (fail))
        refine wpQuiet_nil ?_
        refine NoPanic.normal ?_
        have hll' : l'.length = L'.length := (perm_len HP3.out).symm

        go_wp2_with fail
        refine (klen H3.out.one).mono ?_
        rintro e w8 ⟨rfl, rfl⟩
        go_wp2_with fail
        refine (rlen_any H3.out.ref).mono ?_
        rintro e w9 ⟨rfl, rfl⟩
        rw [hll']
        clear hll'
        go_wp2_with fail
        go_roundw
        case rel => exact ⟨j + 1, n', L', S', l', T', hlt, rfl, by omega, by omega, H3.out, HP3.out⟩
        case measure => simp [intOf]; omega
      have d1 : (x.d == 0) = false := by simpa using k0
      clear k0
      obtain ⟨c20, c21, c22⟩ := HXB.out.cells
      by_cases k1 : x.d = 1
      · have d2 : (x.d == 1) = true := by simpa using k1
        clear k1 c20 c21 c22
        go_wp2_with fail
        refine (ktake Keeps.heap HW.out.one HW.out.heap (by omega) x.c HX.out.2.1).mono ?_
        rintro e w2 ⟨rfl, L', S', h', hst, hh, hp'⟩
        have H2 := Lib.hid (HW.out.left h' hst hh)
        obtain ⟨c20, c21, c22⟩ := (HXB.out.step HOF.out hst).cells
        have HP3 : Hid ((L'.map prP).Perm (delK x.c l)) := Lib.hid (hp'.trans ((oth_perm HP.out).trans (delK_perm (((HP.out.map Prod.snd).nodup_iff).1 HND.out)).symm))
        have hl' : L'.length ≤ L.length := by rw [perm_len hp']; have := oth_len x.c (L.map prP); rw [List.length_map] at this; exact this
        have hfl : findK x.c l = findK x.c (L.map prP) := (find_perm HND.out HP.out).symm
        have HRT := Lib.hid (rtake_any H2.out.ref x.c (by have := HLL.out; omega))
        rw [hfl] at HRT
        clear h' hst hh hp' hfl
        generalize findK x.c (L.map prP) = fy at *
        generalize delK x.c l = l' at *
        go_wp2_with fail
        refine HRT.out.mono ?_
        rintro e w3 ⟨rfl, T', hr3, hst3⟩
        have H3 := Lib.hid (H2.out.right hr3 hst3)
        clear hr3 hst3
        have hll' : l'.length = L'.length := (perm_len HP3.out).symm

        go_wp2_with fail
        refine (klen H3.out.one).mono ?_
        rintro e w8 ⟨rfl, rfl⟩
        go_wp2_with fail
        refine (rlen_any H3.out.ref).mono ?_
        rintro e w9 ⟨rfl, rfl⟩
        rw [hll']
        clear hll'
        go_wp2_with fail
        go_roundw
        case rel => exact ⟨j + 1, n, L', S', l', T', hlt, rfl, by omega, by omega, H3.out, HP3.out⟩
        case measure => simp [intOf]; omega
      have d2 : (x.d == 1) = false := by simpa using k1
      clear k1
      obtain ⟨ha, hb, hc, hshape⟩ : ∃ (ha hb : Int) (hc : Bool), hd L = .tuple #[.int .i64 ha, .int .i64 hb, .bool hc] := by
        unfold hd; split
        · exact ⟨_, _, _, rfl⟩
        · exact ⟨_, _, _, rfl⟩
      have HDR := Lib.hid (hd_rhd2 HS.out.heap HP.out HND.out)
      by_cases k2 : x.d = 2
      · have d3 : (x.d == 2) = true := by simpa using k2
        clear k2
        have HKP := Lib.hid (kpop Keeps.heap HW.out.one HW.out.heap (by omega))
        rw [hshape] at HKP
        have HSH := Lib.hid hshape
        clear hshape
        go_wp2_with fail
        refine HKP.out.mono ?_
        rintro e w2 ⟨rfl, L', S', h', hst, hh, hp'⟩
        have H2 := Lib.hid (HW.out.left h' hst hh)
        have HRP := Lib.hid (rpop2 H2.out.ref (by have := HLL.out; omega))
        rw [← HDR.out.1, HSH.out] at HRP
        have HP3 : Hid ((L'.map prP).Perm (rpopL l)) := Lib.hid ((hp'.map prP).trans HDR.out.2)
        have hl' : L'.length ≤ L.length := by rw [hp'.length_eq, List.length_tail]; omega
        clear h' hst hh hp' c20 c21 c22
        generalize rpopL l = l' at *
        clear HDR
        go_wp2_with fail
        refine HRP.out.mono ?_
        rintro e w3 ⟨rfl, T', hr3, hst3⟩
        have H3 := Lib.hid (H2.out.right hr3 hst3)
        clear hr3 hst3
        have hll' : l'.length = L'.length := (perm_len HP3.out).symm

        go_wp2_with fail
        refine (klen H3.out.one).mono ?_
        rintro e w8 ⟨rfl, rfl⟩
        go_wp2_with fail
        refine (rlen_any H3.out.ref).mono ?_
        rintro e w9 ⟨rfl, rfl⟩
        rw [hll']
        clear hll'
        go_wp2_with fail
        go_roundw
        case rel => exact ⟨j + 1, n, L', S', l', T', hlt, rfl, by omega, by omega, H3.out, HP3.out⟩
        case measure => simp [intOf]; omega
      have d3 : (x.d == 2) = false := by simpa using k2
      clear k2
      by_cases k3 : x.d = 3
      · have d4 : (x.d == 3) = true := by simpa using k3
        clear k3
        have HKP := Lib.hid (kleast HW.out.one)
        rw [hshape] at HKP
        have HSH := Lib.hid hshape
        clear hshape
        go_wp2_with fail
        refine HKP.out.mono ?_
        rintro e w2 ⟨rfl, h', hst⟩
        have H2 := Lib.hid (HW.out.left h' hst HW.out.heap)
        have HRP := Lib.hid (rleast_any H2.out.ref (by have := HLL.out; omega))
        rw [← HDR.out.1, HSH.out] at HRP
        have HP3 := HP
        clear h' hst HDR c20 c21 c22
        go_wp2_with fail
        refine HRP.out.mono ?_
        rintro e w3 ⟨rfl, hr3, hst3⟩
        have H3 := Lib.hid (H2.out.right hr3 hst3)
        clear hr3 hst3
        have hll' : l.length = L.length := (perm_len HP3.out).symm

        go_wp2_with fail
        refine (klen H3.out.one).mono ?_
        rintro e w8 ⟨rfl, rfl⟩
        go_wp2_with fail
        refine (rlen_any H3.out.ref).mono ?_
        rintro e w9 ⟨rfl, rfl⟩
        rw [hll']
        clear hll'
        go_wp2_with fail
        go_roundw
        case rel => exact ⟨j + 1, n, L, S, l, T, hlt, rfl, by omega, by omega, H3.out, HP3.out⟩
        case measure => simp [intOf]; omega
      have d4 : (x.d == 3) = false := by simpa using k3
      clear k3 c20 c21 c22 hshape
      have H3 := HW
      have HP3 := HP
      have hll' : l.length = L.length := (perm_len HP3.out).symm

      go_wp2_with fail
      refine (klen H3.out.one).mono ?_
      rintro e w8 ⟨rfl, rfl⟩
      go_wp2_with fail
      refine (rlen_any H3.out.ref).mono ?_
      rintro e w9 ⟨rfl, rfl⟩
      rw [hll']
      clear hll'
      go_wp2_with fail
      go_roundw
      case rel => exact ⟨j + 1, n, L, S, l, T, hlt, rfl, by omega, by omega, H3.out, HP3.out⟩
      case measure => simp [intOf]; omega
    · have e : j = m := by omega
      subst e
      have HNE : Hid (sortP (L.map prP) = sortP l) := Lib.hid (sortP_congr HP.out)
      go_wp2_with fail
      refine (ksorted HS.out.one (by omega)).mono ?_
      rintro e w2 ⟨v, rfl, hv, hvo, h2, hb2⟩
      have HV := Lib.hid hv
      have H2 := Lib.hid (HS.out.left h2 (Step.below hb2) HS.out.heap)
      clear hv h2 hb2 hvo
      go_wp2_with fail
      refine (rsorted_any H2.out.ref (by have := HLL.out; omega)).mono ?_
      rintro e w3 ⟨u, rfl, hu, _, hb3⟩
      have HU : Hid (SlP w3 u (sortP (L.map prP))) := Lib.hid (by rw [HNE.out]; exact hu)
      have HV3 := Lib.hid (HV.out.below hb3)
      have H3 := Lib.hid (H2.out.below hb3)
      clear hu hb3
      go_wp2_with fail
      refine (pairs_same v u _ w3 HV3.out HU.out (by rw [sortP_len, List.length_map]; omega)).mono ?_
      rintro e w4 ⟨rfl, k4, rfl⟩
      go_wp2_with fail
      refine (wakes_any _).mono ?_
      rintro e w8 ⟨rfl, h8⟩
      have H8 := Lib.hid h8
      clear h8
      go_wp2_with fail
      go_ret
      have h9 := H8.out.below
      exact ⟨rfl, H3.out.one.sz.trans ((show Below w3.heap.size w3 w8 from ⟨h9.os, h9.tape, h9.output, h9.size, h9.block⟩).mono H3.out.one.sz.size)⟩
end Go.Proofs.Ytcmmmmpdehfefaa
