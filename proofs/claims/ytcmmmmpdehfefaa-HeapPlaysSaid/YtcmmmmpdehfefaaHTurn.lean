/-
  HeapTurns (chapter 15): the walk.
-/
import Derived.Test.YtcmmmmpdehfefaaHKeep
namespace Go.Proofs.Ytcmmmmpdehfefaa
set_option linter.unusedVariables false
set_option linter.unusedSimpArgs false
open Go.RowKit Go.Maps
theorem SlP.step2 {w w' : World} {v : Value} {l : List (Int × Int)} {S S' : Nat → Prop} {mb : Nat} (h : SlP w v l) (ho : l ≠ [] → ∀ k, v.ownBlock = some k → ¬ own S mb k) (hs : Step S S' mb w w') : SlP w' v l ∧ (l ≠ [] → ∀ k, v.ownBlock = some k → ¬ own S' mb k) := by
  by_cases h0 : l = []
  · subst h0
    obtain ⟨ao, cap, rfl, hc, hr⟩ := h
    exact ⟨⟨ao, cap, rfl, hc, fun j x hx => by simp at hx⟩, fun h => absurd rfl h⟩
  · refine ⟨h.step (ho h0) hs, fun _ k hk => ?_⟩
    obtain ⟨ao, cap, rfl, hc, hr⟩ := h
    obtain ⟨x, l', rfl⟩ := List.exists_cons_of_ne_nil h0
    obtain ⟨b, rfl, h1, h2⟩ := hr 0 x rfl
    have hlt := World.block_lt_of_cell? _ _ h1
    cases hk
    exact hs.apart hlt (ho h0 _ rfl)
theorem len_of {L' : List Pr} {l : List (Int × Int)} {y : Int × Int} (h : (L'.map prP).Perm l) (h2 : (y :: l).length = l.length + 1) : L'.length = l.length := perm_len h
set_option maxHeartbeats 2000000 in
set_option maxRecDepth 100000 in
theorem lawHeapTurns_walk (q0 : Value × List Ac) (a1 : Int) (w : World) (w0 : SlA w q0.1 q0.2) (w1 : (Lit.int .i64 a1).wf = true) :
    Calls Try.prog 8 #[q0.1, .int .i64 a1] w fun e w' => e = .returned (.bool true) ∧ Below w.heap.size w w' := by
  obtain ⟨v0, l0⟩ := q0
  simp only at w0 ⊢
  obtain ⟨hwf, ao, cap, rfl, hc1, hc2, hcell⟩ := w0
  unfold maxLen at hc2
  have HC := Lib.hid hcell
  have HA := Lib.hid (wf_i64 w1)
  have HWF := Lib.hid (fun j x (h : l0[j]? = some x) => hwf x (List.mem_of_getElem? h))
  clear hcell hwf w1
  by_cases hl : 200 < l0.length
  · have d0 : decide ((200 : Int) < (l0.length : Int)) = true := by simp; omega
    generalize l0.length = m at *
    go_enter Try.func8, Try.ntmps8
    go_wp2_with fail
    refine (wakes_any _).mono ?_
    rintro e w2 ⟨rfl, h2⟩
    go_wp2_with fail
    go_ret
    exact ⟨rfl, h2.below⟩
  have d0 : decide ((200 : Int) < (l0.length : Int)) = false := by simp; omega
  obtain ⟨m, hm⟩ : ∃ m, l0.length = m := ⟨_, rfl⟩
  have HM := Lib.hid hm
  rw [hm] at hl d0 hc1 ⊢
  have hm200 : m ≤ 200 := by omega
  have H0 := Lib.hid (One.new w)
  clear hm hl
  go_enter Try.func8, Try.ntmps8
  go_wp2_with fail
  refine (new_any _).mono ?_
  rintro e w1 ⟨rfl, hw1⟩
  rw [← hw1] at H0
  clear hw1
  go_wp2_with fail
  go_loopw [20] (fun iv wr => ∃ (j n : Nat) (L : List Pr), j ≤ m ∧ iv = .int .i64 j ∧ n ≤ j ∧ L.length ≤ j ∧ ∃ S, One w wr (w.heap.size + 1) w.heap.size n L S) (fun iv _ => m - (intOf iv).toNat)
  case atStart => exact ⟨0, 0, [], Nat.zero_le _, rfl, Nat.le_refl _, Nat.le_refl _, _, H0.out⟩
  case round =>
    obtain ⟨j, n, L, hj, rfl, hn, hL, S, hs⟩ := hrel
    have HS := Lib.hid hs
    clear hs
    by_cases hlt : j < m
    · obtain ⟨x, hx⟩ : ∃ x, l0[j]? = some x := ⟨l0[j]'(by rw [HM.out]; exact hlt), List.getElem?_eq_getElem _⟩
      obtain ⟨b, off, rfl, r1, r2, r3⟩ := HC.out j x hx
      have r1' := (HS.out.sz.cell (World.block_lt_of_cell? w _ r1)).trans r1
      have r2' := (HS.out.sz.cell (World.block_lt_of_cell? w _ r2)).trans r2
      have r3' := (HS.out.sz.cell (World.block_lt_of_cell? w _ r3)).trans r3
      have HX := Lib.hid (HWF.out j x hx)
      clear hx r1 r2 r3
      have HW := Lib.hid (HS.out.below ((Below.refl wr.heap.size wr).alloc (Nat.le_refl _) (.cells #[.int .i64 x.d, .int .i64 x.c, .int .i64 x.n] 38)))
      by_cases k0 : x.d = 0
      · have d1 : (x.d == 0) = true := by simpa using k0
        clear k0
        go_wp2_with fail
        refine (kput Keeps.any HW.out trivial (by omega) (by omega) x.c x.n).mono ?_
        rintro e w2 ⟨rfl, n', L', S', h', _, _, hn', hp'⟩
        have hl' : L'.length ≤ L.length + 1 := by rw [perm_len hp']; have := putK_len x.c x.n (L.map prP); rw [List.length_map] at this; exact this
        have H2 := Lib.hid h'
        clear h' hp'
        go_wp2_with fail
        go_roundw
        case rel => exact ⟨j + 1, n', L', hlt, rfl, by omega, by omega, S', H2.out⟩
        case measure => simp [intOf]; omega
      have d1 : (x.d == 0) = false := by simpa using k0
      clear k0
      by_cases k1 : x.d = 1
      · have d2 : (x.d == 1) = true := by simpa using k1
        clear k1
        go_wp2_with fail
        refine (ktake Keeps.any HW.out trivial (by omega) x.c HX.out.2.1).mono ?_
        rintro e w2 ⟨rfl, L', S', h', _, _, hp'⟩
        have hl' : L'.length ≤ L.length := by rw [perm_len hp']; have := oth_len x.c (L.map prP); rw [List.length_map] at this; exact this
        have H2 := Lib.hid h'
        clear h' hp'
        generalize findK x.c (L.map prP) = y at *
        go_wp2_with fail
        go_roundw
        case rel => exact ⟨j + 1, n, L', hlt, rfl, by omega, by omega, S', H2.out⟩
        case measure => simp [intOf]; omega
      have d2 : (x.d == 1) = false := by simpa using k1
      clear k1
      by_cases k2 : x.d = 2
      · have d3 : (x.d == 2) = true := by simpa using k2
        clear k2
        go_wp2_with fail
        refine (kpop Keeps.any HW.out trivial (by omega)).mono ?_
        rintro e w2 ⟨rfl, L', S', h', _, _, hp'⟩
        have hl' : L'.length ≤ L.length := by rw [hp'.length_eq, List.length_tail]; omega
        have H2 := Lib.hid h'
        clear h' hp'
        generalize hd L = y at *
        go_wp2_with fail
        go_roundw
        case rel => exact ⟨j + 1, n, L', hlt, rfl, by omega, by omega, S', H2.out⟩
        case measure => simp [intOf]; omega
      have d3 : (x.d == 2) = false := by simpa using k2
      clear k2
      go_wp2_with fail
      go_roundw
      case rel => exact ⟨j + 1, n, L, hlt, rfl, by omega, by omega, S, HW.out⟩
      case measure => simp [intOf]; omega
    · have e : j = m := by omega
      subst e
      have HSL : Hid ((sortP (L.map prP)).length = L.length) := Lib.hid (by rw [sortP_len, List.length_map])
      go_wp2_with fail
      refine (ksorted HS.out (by omega)).mono ?_
      rintro e w2 ⟨v, rfl, hv, hvo, h2, hb2⟩
      have HV := Lib.hid hv
      have H2 := Lib.hid h2
      have HVO : Hid (∀ k, v.ownBlock = some k → ¬ own S w.heap.size k) := Lib.hid (fun k hk ho => by have := hvo k hk; have := HS.out.1.own_lt k ho; omega)
      obtain ⟨va, vc, rfl, hvc, hvr⟩ := hv
      rw [HSL.out] at HV HVO
      rw [HSL.out]
      clear hvo h2 hb2 hvr
      go_wp2_with fail
      refine (ktake Keeps.any H2.out trivial (by omega) a1 HA.out).mono ?_
      rintro e w3 ⟨rfl, L', S', h3, hst3, _, hp3⟩
      have H3 := Lib.hid h3
      have HP3 := Lib.hid hp3
      have HST3 := Lib.hid hst3
      clear h3 hp3 hst3
      have HVO3 := Lib.hid (HV.out.step2 (fun _ => HVO.out) HST3.out)
      rcases hf : findK a1 (L.map prP) with _ | y
      · have HPZ : Hid ((L'.map prP).Perm (L.map prP)) := Lib.hid (by have := HP3.out; rw [find_none hf] at this; exact this)
        have HZ := H3
        have HVZ := Lib.hid HVO3.out.1
        have hlz : L'.length = L.length := by have := perm_len HPZ.out; rw [List.length_map] at this; exact this
        have dz : ((L'.length : Int) == (L.length : Int)) = true := by simp [hlz]
        simp only [Option.elim_none, Option.isSome_none]
        clear hf
        go_wp2_with fail
        refine (ksorted HZ.out (by omega)).mono ?_
        rintro e w5 ⟨u, rfl, hu, _, h5, hb5⟩
        have HU : Hid (SlP w5 u (sortP (L.map prP))) := Lib.hid (by rw [← sortP_congr HPZ.out]; exact hu)
        have HV5 := Lib.hid (HVZ.out.below hb5)
        have H5 := Lib.hid h5
        clear hu h5 hb5
        go_wp2_with fail
        refine (pairs_same u _ _ w5 HU.out HV5.out (by rw [HSL.out]; omega)).mono ?_
        rintro e w6 ⟨rfl, k6, rfl⟩
        go_wp2_with fail
        refine (klen (H5.out.drewN k6)).mono ?_
        rintro e w7 ⟨rfl, rfl⟩
        go_wp2_with fail
        refine (wakes_any _).mono ?_
        rintro e w8 ⟨rfl, h8⟩
        have H8 := Lib.hid h8
        clear h8
        go_wp2_with fail
        go_ret
        have h9 := H8.out.below
        exact ⟨rfl, H5.out.sz.trans ((show Below w5.heap.size w5 w8 from ⟨h9.os, h9.tape, h9.output, h9.size, h9.block⟩).mono H5.out.sz.size)⟩
      · have hsp := find_split H2.out hf
        have hl3 : L'.length + 1 = L.length := by have h1 := perm_len HP3.out; have h2 := hsp.1.length_eq; rw [List.length_cons, List.length_map] at h2; omega
        have c1 := hsp.2.2.1
        have c2 := hsp.2.2.2
        have HSP := Lib.hid hsp
        have e0 : putE a1 = 0 := by unfold putE; rw [if_neg (by omega)]
        have dl : ((L'.length : Int) == ((L.length : Int) - 1)) = true := by simp; omega
        simp only [Option.elim_some, Option.isSome_some]
        clear hf hsp
        go_wp2_with fail
        refine (klen H3.out).mono ?_
        rintro e w4 ⟨rfl, rfl⟩
        go_wp2_with fail
        refine (kput Keeps.any H3.out trivial (by omega) (by omega) a1 y.1).mono ?_
        rintro e w4 ⟨rfl, n'', L'', S'', h4, hst4, _, _, hp4⟩
        rw [e0]
        have HZ := Lib.hid h4
        have HPZ : Hid ((L''.map prP).Perm (L.map prP)) := Lib.hid (by
          refine hp4.trans ?_
          unfold putK
          rw [if_neg (by omega)]
          have e2 : (y.1, a1) = y := Prod.ext rfl HSP.out.2.1.symm
          rw [e2]
          refine (List.Perm.cons y ?_).trans HSP.out.1
          have h6 := oth_perm (c := a1) HP3.out
          refine h6.trans ?_
          unfold oth
          rw [List.filter_filter]
          simp)
        have HVZ := Lib.hid (HVO3.out.1.step2 HVO3.out.2 hst4).1
        have hlz : L''.length = L.length := by have := perm_len HPZ.out; rw [List.length_map] at this; exact this
        have dz : ((L''.length : Int) == (L.length : Int)) = true := by simp [hlz]
        clear h4 hst4 hp4 e0
        go_wp2_with fail
        refine (ksorted HZ.out (by omega)).mono ?_
        rintro e w5 ⟨u, rfl, hu, _, h5, hb5⟩
        have HU : Hid (SlP w5 u (sortP (L.map prP))) := Lib.hid (by rw [← sortP_congr HPZ.out]; exact hu)
        have HV5 := Lib.hid (HVZ.out.below hb5)
        have H5 := Lib.hid h5
        clear hu h5 hb5
        go_wp2_with fail
        refine (pairs_same u _ _ w5 HU.out HV5.out (by rw [HSL.out]; omega)).mono ?_
        rintro e w6 ⟨rfl, k6, rfl⟩
        go_wp2_with fail
        refine (klen (H5.out.drewN k6)).mono ?_
        rintro e w7 ⟨rfl, rfl⟩
        go_wp2_with fail
        refine (wakes_any _).mono ?_
        rintro e w8 ⟨rfl, h8⟩
        have H8 := Lib.hid h8
        clear h8
        go_wp2_with fail
        go_ret
        have h9 := H8.out.below
        exact ⟨rfl, H5.out.sz.trans ((show Below w5.heap.size w5 w8 from ⟨h9.os, h9.tape, h9.output, h9.size, h9.block⟩).mono H5.out.sz.size)⟩
end Go.Proofs.Ytcmmmmpdehfefaa
