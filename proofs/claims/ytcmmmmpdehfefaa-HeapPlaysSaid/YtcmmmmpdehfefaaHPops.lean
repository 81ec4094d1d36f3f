/-
  HeapPops (chapter 15): the walk.
-/
import Derived.Test.YtcmmmmpdehfefaaHMpf
namespace Go.Proofs.Ytcmmmmpdehfefaa
set_option linter.unusedVariables false
set_option linter.unusedSimpArgs false
open Go.RowKit Go.Maps
theorem own_far {w wr : World} {hb mb n : Nat} {L : List Pr} {S : Nat → Prop} (h : One w wr hb mb n L S) : ¬ own S mb wr.heap.size := fun hh => Nat.lt_irrefl _ (h.1.own_lt _ hh)
set_option maxHeartbeats 4000000 in
set_option maxRecDepth 100000 in
theorem lawHeapPops_walk (q0 : Value × List Ac) (w : World) (w0 : SlA w q0.1 q0.2) :
    Calls Try.prog 6 #[q0.1] w fun e w' => e = .returned (.bool true) ∧ Below w.heap.size w w' := by
  obtain ⟨v0, l0⟩ := q0
  simp only at w0 ⊢
  obtain ⟨hwf, ao, cap, rfl, hc1, hc2, hcell⟩ := w0
  unfold maxLen at hc2
  have HC := Lib.hid hcell
  have HWF := Lib.hid (fun j x (h : l0[j]? = some x) => hwf x (List.mem_of_getElem? h))
  clear hcell hwf
  by_cases hl : 200 < l0.length
  · have d0 : decide ((200 : Int) < (l0.length : Int)) = true := by simp; omega
    generalize l0.length = m at *
    go_enter Try.func6, Try.ntmps6
    go_wp2_with fail
    refine (wakes_any _).mono ?_
    rintro e w2 ⟨rfl, h2⟩
    go_wp2_with fail
    go_ret
    exact ⟨rfl, h2.below⟩
  have d0 : decide ((200 : Int) < (l0.length : Int)) = false := by simp; omega
  obtain ⟨m, hm⟩ : ∃ m, l0.length = m := ⟨_, rfl⟩
  have HM := Lib.hid hm
  rw [hm] at hl d0 hc1 ⊢
  have hm200 : m ≤ 200 := by omega
  have hmm := @run_makeMap Try.prog
  have hsz1 : ((w.alloc (.map #[] 0)).alloc (.cells #[.slice none 0 0, .map (some w.heap.size)] 54)).heap.size = w.heap.size + 1 + 1 := by simp
  clear hm hl
  go_enter Try.func6, Try.ntmps6
  go_wp2_with fail
  refine (new_any _).mono ?_
  rintro e w1 ⟨rfl, hw1⟩
  rw [← hw1] at hsz1
  have H0 := Lib.hid (PSt.new w w1 _ hw1 rfl)
  clear hw1
  go_wp2_with fail
  try simp only [World.size_alloc, hsz1]
  obtain ⟨w2, hw2⟩ : ∃ w2, (w1.alloc (.map #[] 0)).alloc (.map #[] 0) = w2 := ⟨_, rfl⟩
  rw [hw2] at H0
  rw [hw2]
  clear hw2 hsz1
  go_loopw [34, 6] (fun iv mv wr => ∃ (j k n : Nat) (L : List Pr) (S : Nat → Prop) (fk : Int → Int) (fi : Int → Bool) (nk ni : Nat), j ≤ m ∧ iv = .int .i64 j ∧ mv = .int .i64 k ∧ n ≤ j ∧ k ≤ j ∧ nk ≤ j ∧ ni ≤ j ∧ PSt w wr (w.heap.size + 1) w.heap.size (w.heap.size + 1 + 1) (w.heap.size + 1 + 1 + 1) n k L S fk fi nk ni) (fun iv _ _ => m - (intOf iv).toNat)
  case atStart => exact ⟨0, 0, 0, [], _, _, _, 0, 0, Nat.zero_le _, rfl, rfl, Nat.le_refl _, Nat.le_refl _, Nat.le_refl _, Nat.le_refl _, H0.out⟩
  case round =>
    obtain ⟨j, k, n, L, S, fk, fi, nk, ni, hj, rfl, rfl, hn, hk, hnk, hni, hs⟩ := hrel
    have HS := Lib.hid hs
    have hLk : L.length = k := hs.len
    have hbk : w.heap.size + 1 + 1 < wr.heap.size := hs.kept.lt
    have hbi : w.heap.size + 1 + 1 + 1 < wr.heap.size := hs.isin.lt
    clear hs
    by_cases hlt : j < m
    · obtain ⟨x, hx⟩ : ∃ x, l0[j]? = some x := ⟨l0[j]'(by rw [HM.out]; exact hlt), List.getElem?_eq_getElem _⟩
      obtain ⟨b, off, rfl, r1, r2, r3⟩ := HC.out j x hx
      have r1' := (HS.out.one.sz.cell (World.block_lt_of_cell? w _ r1)).trans r1
      have r2' := (HS.out.one.sz.cell (World.block_lt_of_cell? w _ r2)).trans r2
      have r3' := (HS.out.one.sz.cell (World.block_lt_of_cell? w _ r3)).trans r3
      have HX := Lib.hid (HWF.out j x hx)
      clear hx r1 r2 r3
      have HW := Lib.hid (HS.out.below ((Below.refl wr.heap.size wr).alloc (Nat.le_refl _) (.cells #[.int .i64 x.d, .int .i64 x.c, .int .i64 x.n] 38)))
      have HXB : Hid (XB (wr.alloc (.cells #[.int .i64 x.d, .int .i64 x.c, .int .i64 x.n] 38)) wr.heap.size x) := Lib.hid (heap_alloc_new _ _)
      have HOF := Lib.hid (own_far HS.out.one)
      have HFI := Lib.hid (HS.out.spec.fi x.c)
      by_cases k0 : x.d = 0
      · have d1 : (x.d == 0) = true := by simpa using k0
        clear k0
        go_wp2_with fail
        refine (kput Keeps.heap HW.out.one HW.out.heap (by omega) (by omega) x.c x.n).mono ?_
        rintro e w2 ⟨rfl, n', L', S', h', hst, hh, hn', hp'⟩
        by_cases hr : x.c < 0 ∨ 1000 < x.c
        · have e0 : putE x.c = 2 := by unfold putE; rw [if_pos hr]
          rw [e0]
          have HN := Lib.hid (HW.out.step h' hst hh (by unfold putK at hp'; rw [if_pos hr] at hp'; exact hp'))
          clear h' hst hh hp' e0
          go_wp2_with fail
          go_roundw
          case rel => exact ⟨j + 1, k, n', L', S', fk, fi, nk, ni, hlt, rfl, rfl, by omega, by omega, by omega, by omega, HN.out⟩
          case measure => simp [intOf]; omega
        · have e0 : putE x.c = 0 := by unfold putE; rw [if_neg hr]
          rw [e0]
          have hp2 : (L'.map prP).Perm ((x.n, x.c) :: oth x.c (L.map prP)) := by unfold putK at hp'; rw [if_neg hr] at hp'; exact hp'
          have hmid := HW.out.mid h' hst hh hp2
          have hxb2 := HXB.out.step HOF.out hst
          obtain ⟨w3, run3, hg3, hmid3⟩ := hmid.keep (by omega) HX.out.2.1 x.n
          have hxb3 := hxb2.grown hg3 (by omega)
          have look3 := hmid3.lookI HX.out.2.1
          obtain ⟨w4, run4, hg4, hmid4⟩ := hmid3.mark (by omega) HX.out.2.1 true
          have HN := Lib.hid (hmid4.st (HS.out.spec.put x.c x.n))
          obtain ⟨c20, c21, c22⟩ := hxb2.cells
          obtain ⟨c30, c31, c32⟩ := hxb3.cells
          have HF3 := Lib.hid (fun y (hf : findK x.c (L.map prP) = some y) => (find_split HS.out.one hf).1.length_eq)
          have HF4 := Lib.hid (fun (hf : findK x.c (L.map prP) = none) => congrArg List.length (find_none hf))
          clear h' hst hh hp' hp2 hmid hxb2 hg3 hmid3 hxb3 hg4 hmid4 e0
          cases hf : findK x.c (L.map prP) with
          | some y =>
            have hlen : ((x.n, x.c) :: oth x.c (L.map prP)).length = k := by have := HF3.out y hf; simp only [List.length_cons, List.length_map] at this ⊢; omega
            have hfi : fi x.c = true := by rw [HFI.out, hf]; rfl
            rw [hfi] at look3
            rw [hlen] at HN
            clear hlen hf
            go_wp2_with fail
            go_roundw
            case rel => exact ⟨j + 1, k, n', L', S', _, _, nk + 1, ni + 1, hlt, rfl, rfl, by omega, by omega, by omega, by omega, HN.out⟩
            case measure => simp [intOf]; omega
          | none =>
            have hlen : ((x.n, x.c) :: oth x.c (L.map prP)).length = k + 1 := by have := HF4.out hf; simp only [List.length_cons, List.length_map] at this ⊢; omega
            have hfi : fi x.c = false := by rw [HFI.out, hf]; rfl
            rw [hfi] at look3
            rw [hlen] at HN
            clear hlen hf
            go_wp2_with fail
            go_roundw
            case rel => exact ⟨j + 1, k + 1, n', L', S', _, _, nk + 1, ni + 1, hlt, rfl, rfl, by omega, by omega, by omega, by omega, HN.out⟩
            case measure => simp [intOf]; omega
      have d1 : (x.d == 0) = false := by simpa using k0
      clear k0
      by_cases k1 : x.d = 1
      · have d2 : (x.d == 1) = true := by simpa using k1
        clear k1
        go_wp2_with fail
        refine (ktake Keeps.heap HW.out.one HW.out.heap (by omega) x.c HX.out.2.1).mono ?_
        rintro e w2 ⟨rfl, L', S', h', hst, hh, hp'⟩
        have hmid := HW.out.mid h' hst hh hp'
        have hxb2 := HXB.out.step HOF.out hst
        have look2 := hmid.lookI HX.out.2.1
        have lookk := hmid.lookK HX.out.2.1
        obtain ⟨w3, run3, hg3, hmid3⟩ := hmid.mark (by omega) HX.out.2.1 false
        have HN := Lib.hid (hmid3.st (HS.out.spec.del x.c))
        obtain ⟨c20, c21, c22⟩ := hxb2.cells
        have HF3 := Lib.hid (fun y (hf : findK x.c (L.map prP) = some y) => (find_split HS.out.one hf).1.length_eq)
        have HF4 := Lib.hid (fun (hf : findK x.c (L.map prP) = none) => congrArg List.length (find_none hf))
        have HFK := Lib.hid (fun y (hf : findK x.c (L.map prP) = some y) => HS.out.spec.fk hf)
        clear h' hst hh hp' hmid hxb2 hg3 hmid3
        cases hf : findK x.c (L.map prP) with
        | some y =>
          have hlen : (oth x.c (L.map prP)).length + 1 = k := by have := HF3.out y hf; simp only [List.length_cons, List.length_map] at this ⊢; omega
          have hfi : fi x.c = true := by rw [HFI.out, hf]; rfl
          have hfk := HFK.out y hf
          rw [hfi] at look2
          rw [hfk] at lookk
          obtain ⟨k', hk'⟩ : ∃ k', (oth x.c (L.map prP)).length = k' := ⟨_, rfl⟩
          rw [hk'] at HN hlen
          have hkI : (k : Int) - 1 = (k' : Int) := by omega
          clear hf hfk hk'
          simp only [Option.elim_some, Option.isSome_some]
          go_wp2_with fail
          go_roundw
          case rel => exact ⟨j + 1, k', n, L', S', _, _, nk, ni + 1, hlt, rfl, by congr 1, by omega, by omega, by omega, by omega, HN.out⟩
          case measure => simp [intOf]; omega
        | none =>
          have hlen : (oth x.c (L.map prP)).length = k := by have := HF4.out hf; simp only [List.length_map] at this ⊢; omega
          have hfi : fi x.c = false := by rw [HFI.out, hf]; rfl
          rw [hfi] at look2
          rw [hlen] at HN
          clear hlen hf
          simp only [Option.elim_none, Option.isSome_none]
          go_wp2_with fail
          go_roundw
          case rel => exact ⟨j + 1, k, n, L', S', _, _, nk, ni + 1, hlt, rfl, rfl, by omega, by omega, by omega, by omega, HN.out⟩
          case measure => simp [intOf]; omega
      have d2 : (x.d == 1) = false := by simpa using k1
      clear k1
      by_cases k2 : x.d = 2
      · have d3 : (x.d == 2) = true := by simpa using k2
        clear k2
        go_wp2_with fail
        refine (kpop Keeps.heap HW.out.one HW.out.heap (by omega)).mono ?_
        rintro e w2 ⟨rfl, L', S', h', hst, hh, hp'⟩
        cases L with
        | nil =>
          have hk0 : k = 0 := by simpa using hLk.symm
          subst hk0
          have HN := Lib.hid (HW.out.step h' hst hh (by have := hp'.map prP; exact this))
          clear h' hst hh hp'
          unfold hd
          go_wp2_with fail
          go_roundw
          case rel => exact ⟨j + 1, 0, n, L', S', fk, fi, nk, ni, hlt, rfl, rfl, by omega, by omega, by omega, by omega, HN.out⟩
          case measure => simp [intOf]; omega
        | cons p M =>
          have hpc := HS.out.one.1.wfc p List.mem_cons_self
          have hpI : I64 p.c := by constructor <;> omega
          have hpm : (L'.map prP).Perm (oth p.c ((p :: M).map prP)) := (hp'.map prP).trans (oth_split (List.Perm.refl _) HS.out.one.1.one).symm
          have hmid := HW.out.mid h' hst hh hpm
          have look2 := hmid.lookI hpI
          have lookk := hmid.lookK hpI
          have hyes := HS.out.spec.yes (prP p) List.mem_cons_self
          have hfi : fi p.c = true := hyes.1
          have hfk : fk p.c = p.n := hyes.2
          rw [hfi] at look2
          rw [hfk] at lookk
          obtain ⟨w3, run3, hg3, hmid3⟩ := hmid.mark (by omega) hpI false
          have HN := Lib.hid (hmid3.st (HS.out.spec.del p.c))
          have hlen : (oth p.c ((p :: M).map prP)).length + 1 = k := by
            have h1 := hpm.length_eq
            have h2 := hp'.length_eq
            simp only [List.length_map, List.tail_cons, List.length_cons] at h1 h2 hLk
            omega
          obtain ⟨k', hk'⟩ : ∃ k', (oth p.c ((p :: M).map prP)).length = k' := ⟨_, rfl⟩
          rw [hk'] at HN hlen
          have hkI : (k : Int) - 1 = (k' : Int) := by omega
          have dk : decide ((0 : Int) < (k : Int)) = true := by simp; omega
          clear h' hst hh hp' hpm hmid hyes hg3 hmid3 hk'
          unfold hd
          simp only
          go_wp2_with fail
          go_roundw
          case rel => exact ⟨j + 1, k', n, L', S', _, _, nk, ni + 1, hlt, rfl, by congr 1, by omega, by omega, by omega, by omega, HN.out⟩
          case measure => simp [intOf]; omega
      have d3 : (x.d == 2) = false := by simpa using k2
      clear k2
      go_wp2_with fail
      go_roundw
      case rel => exact ⟨j + 1, k, n, L, S, fk, fi, nk, ni, hlt, rfl, rfl, by omega, by omega, by omega, by omega, HW.out⟩
      case measure => simp [intOf]; omega
    · have e : j = m := by omega
      subst e
      obtain ⟨SL, hSL⟩ : ∃ SL, sortP (L.map prP) = SL := ⟨_, rfl⟩
      have HPM : Hid (SL.Perm (L.map prP)) := Lib.hid (by rw [← hSL]; exact sortP_perm _)
      have HSO : Hid (SL.Pairwise fun a b => (!ltP b a) = true) := Lib.hid (by rw [← hSL]; exact sortP_sorted _)
      have hslen : SL.length = k := by rw [← hSL, sortP_len, List.length_map]; exact hLk
      have hnd : ((L.map prP).map Prod.snd).Nodup := by rw [List.map_map]; exact HS.out.one.1.one
      have HUP : Hid (∀ (i : Nat) (z y : Int × Int), SL[i]? = some z → SL[i + 1]? = some y → z.1 < y.1 ∨ (z.1 = y.1 ∧ z.2 < y.2)) := Lib.hid (by rw [← hSL]; exact fun i z y => sort_up hnd)
      have HWC : Hid (∀ y ∈ SL, I64 y.2) := Lib.hid (fun y hy => by
        obtain ⟨p, hp, rfl⟩ := List.mem_map.1 (HPM.out.mem_iff.1 hy)
        have := HS.out.one.1.wfc p hp
        constructor <;> (simp only [prP]; omega))
      have HSP := Lib.hid (HS.out.spec.perm HPM.out)
      have HSL := Lib.hid hslen
      clear hnd
      go_wp2_with fail
      refine (ksorted HS.out.one (by omega)).mono ?_
      rintro e w2 ⟨v, rfl, hv, hvo, h2, hb2⟩
      rw [hSL] at hv
      have HV := Lib.hid hv
      have H2 : Hid (PMid w w2 (w.heap.size + 1) w.heap.size (w.heap.size + 1 + 1) (w.heap.size + 1 + 1 + 1) n L S (SL.drop 0) fk fi nk ni) := Lib.hid ((HS.out.mid h2 (Step.below hb2) HS.out.heap HPM.out.symm))
      have HVO : Hid (∀ k, v.ownBlock = some k → ¬ own S w.heap.size k) := Lib.hid (fun k hk ho => by have := hvo k hk; have := HS.out.one.1.own_lt k ho; omega)
      obtain ⟨va, vc, rfl, hvc, hvr⟩ := hv
      rw [hslen] at HV HVO ⊢
      clear hvo h2 hb2 hvr hSL hslen
      have ekk : ((k : Int) == (k : Int)) = true := by simp
      go_wp2_with fail
      refine (klen H2.out.one).mono ?_
      rintro e w3 ⟨rfl, rfl⟩
      rw [hLk]
      clear hLk hbk hbi
      go_wp2_with fail
      go_loopw [144] (fun iv wr => ∃ (i n : Nat) (L : List Pr) (S : Nat → Prop), i ≤ k ∧ iv = .int .i64 i ∧ PMid w wr (w.heap.size + 1) w.heap.size (w.heap.size + 1 + 1) (w.heap.size + 1 + 1 + 1) n L S (SL.drop i) fk fi nk ni ∧ SlP wr (.slice va k vc) SL ∧ (SL ≠ [] → ∀ k', (Value.slice va k vc).ownBlock = some k' → ¬ own S w.heap.size k')) (fun iv _ => k - (intOf iv).toNat)
      case atStart => exact ⟨0, n, L, S, Nat.zero_le _, rfl, H2.out, HV.out, fun _ => HVO.out⟩
      case round =>
        obtain ⟨i, n, L, S, hi, rfl, hmd, hsl, hso⟩ := hrel
        have HD := Lib.hid hmd
        have HSl := Lib.hid hsl
        have HSo := Lib.hid hso
        clear hmd hsl hso
        by_cases hil : i < k
        · obtain ⟨y, hy⟩ : ∃ y, SL[i]? = some y := ⟨SL[i]'(by rw [HSL.out]; exact hil), List.getElem?_eq_getElem _⟩
          obtain ⟨a', c', ev, _, hrd⟩ := HSl.out
          injection ev with ev1 _ _
          subst ev1
          obtain ⟨bb, rfl, y1, y2⟩ := hrd i y hy
          have hdrop : SL.drop i = y :: SL.drop (i + 1) := by
            obtain ⟨h1, h2⟩ := List.getElem?_eq_some_iff.1 hy
            rw [← h2, List.getElem_cons_drop]
          have hto := HD.out.to
          rw [hdrop] at hto
          have hso2 : (y :: SL.drop (i + 1)).Pairwise fun a b => (!ltP b a) = true := by rw [← hdrop]; exact HSO.out.drop
          obtain ⟨p, M, hLp⟩ : ∃ p M, L = p :: M := by
            cases L with
            | nil => have := hto.length_eq; simp at this
            | cons p M => exact ⟨p, M, rfl⟩
          subst hLp
          have hpy : prP p = y := pop_least HD.out.heap hto hso2
          have hpn : p.n = y.1 := congrArg Prod.fst hpy
          have hpc : p.c = y.2 := congrArg Prod.snd hpy
          have HTO : Hid ((M.map prP).Perm (SL.drop (i + 1))) := Lib.hid (by
            rw [List.map_cons, hpy] at hto
            exact hto.cons_inv)
          have hym : y ∈ SL := List.mem_of_getElem? hy
          have HW := Lib.hid (HD.out.below ((Below.refl wr.heap.size wr).alloc (Nat.le_refl _) (.cells #[.int .i64 y.1, .int .i64 y.2] 47)))
          have HB : Hid ((wr.alloc (.cells #[.int .i64 y.1, .int .i64 y.2] 47)).heap[wr.heap.size]? = some (.cells #[.int .i64 y.1, .int .i64 y.2] 47 (0, 0))) := Lib.hid (heap_alloc_new _ _)
          have HOF := Lib.hid (own_far HD.out.one)
          have HSW := Lib.hid (HSl.out.below ((Below.refl wr.heap.size wr).alloc (Nat.le_refl _) (.cells #[.int .i64 y.1, .int .i64 y.2] 47)))
          have HY := Lib.hid hy
          have HYM := Lib.hid hym
          have hL9 : (p :: M).length ≤ 90000 := by have := HD.out.to.length_eq; rw [List.length_map, List.length_drop, HSL.out] at this; omega
          have HL9 := Lib.hid hL9
          clear hrd hy hdrop hto hso2 hpy hym hL9
          go_wp2_with fail
          refine (kpop Keeps.heap HW.out.one HW.out.heap HL9.out).mono ?_
          rintro e w4 ⟨rfl, L', S', h', hst, hh, hp'⟩
          have hmd' := HW.out.mid h' hst hh ((hp'.map prP).trans HTO.out)
          have hsl' := HSW.out.step2 HSo.out hst
          have hbl : w4.heap[wr.heap.size]? = some (.cells #[.int .i64 y.1, .int .i64 y.2] 47 (0, 0)) := by
            rw [hst.2.block _ (by simp) HOF.out]; exact HB.out
          have x1 : w4.cell? ⟨wr.heap.size, 0, none⟩ = some (.int .i64 y.1) := by rw [cell_of_row _ _ _ _ _ _ hbl]; rfl
          have x2 : w4.cell? ⟨wr.heap.size, 1, none⟩ = some (.int .i64 y.2) := by rw [cell_of_row _ _ _ _ _ _ hbl]; rfl
          have look := hmd'.lookI (HWC.out y HYM.out)
          have lookk := hmd'.lookK (HWC.out y HYM.out)
          rw [(HSP.out.yes y HYM.out).1] at look
          rw [(HSP.out.yes y HYM.out).2] at lookk
          have HMD := Lib.hid hmd'
          have HSL' := Lib.hid hsl'
          unfold hd
          simp only [hpn, hpc]
          clear h' hst hh hp' hmd' hsl' hbl y1 y2 hpn hpc
          have b1 : (y.1 == y.1) = true := by simp
          have b2 : (y.2 == y.2) = true := by simp
          cases i with
          | zero =>
            go_wp2_with fail
            go_roundw
            case rel => exact ⟨1, n, L', S', by omega, rfl, HMD.out, HSL'.out.1, HSL'.out.2⟩
            case measure => simp [intOf]; omega
          | succ i =>
            obtain ⟨z, hz⟩ : ∃ z, SL[i]? = some z := ⟨SL[i]'(by rw [HSL.out]; omega), List.getElem?_eq_getElem _⟩
            have hup := HUP.out i z y hz HY.out
            obtain ⟨a'', c'', ev, _, hrd⟩ := HSL'.out.1
            injection ev with ev1 _ _
            subst ev1
            obtain ⟨b', eb, z1, z2⟩ := hrd i z hz
            cases eb
            clear hrd hz
            have hi1 : ((i + 1 : Nat) : Int) - 1 = (i : Int) := by omega
            have di : decide ((0 : Int) < ((i + 1 : Nat) : Int)) = true := decide_eq_true (by omega)
            have dz1 : decide (y.1 < z.1) = false := by simp; omega
            by_cases hzz : z.1 = y.1
            · have bz : (z.1 == y.1) = true := by simpa using hzz
              have dz2 : decide (y.2 ≤ z.2) = false := by simp; omega
              clear hup hzz
              go_wp2_with fail
              go_roundw
              case rel => exact ⟨i + 1 + 1, n, L', S', by omega, rfl, HMD.out, HSL'.out.1, HSL'.out.2⟩
              case measure => simp [intOf]; omega
            · have bz : (z.1 == y.1) = false := by simpa using hzz
              clear hup hzz
              go_wp2_with fail
              go_roundw
              case rel => exact ⟨i + 1 + 1, n, L', S', by omega, rfl, HMD.out, HSL'.out.1, HSL'.out.2⟩
              case measure => simp [intOf]; omega
        · have e : i = k := by omega
          subst e
          have hL0 : L = [] := by
            have := HD.out.to.length_eq
            rw [List.length_map, List.length_drop, HSL.out] at this
            exact List.eq_nil_of_length_eq_zero (by omega)
          subst hL0
          go_wp2_with fail
          refine (kpop Keeps.heap HD.out.one HD.out.heap (by simp)).mono ?_
          rintro e w4 ⟨rfl, L', S', h', hst, hh, hp'⟩
          have hl0 : L'.length = 0 := by rw [hp'.length_eq]; rfl
          have H4 := Lib.hid h'
          unfold hd
          clear h' hst hh hp'
          go_wp2_with fail
          refine (klen H4.out).mono ?_
          rintro e w5 ⟨rfl, rfl⟩
          rw [hl0]
          go_wp2_with fail
          refine (wakes_any _).mono ?_
          rintro e w8 ⟨rfl, h8⟩
          have H8 := Lib.hid h8
          clear h8
          go_wp2_with fail
          go_ret
          exact ⟨rfl, H4.out.sz.trans (H8.out.below.mono H4.out.sz.size)⟩
end Go.Proofs.Ytcmmmmpdehfefaa
