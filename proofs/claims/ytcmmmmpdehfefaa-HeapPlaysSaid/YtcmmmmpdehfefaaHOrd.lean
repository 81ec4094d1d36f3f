/-
  HeapOrder (chapter 15): the walk.
-/
import Derived.Test.YtcmmmmpdehfefaaSSort
import Derived.Test.YtcmmmmpdehfefaaFloor
namespace Go.Proofs.Ytcmmmmpdehfefaa
set_option linter.unusedVariables false
set_option linter.unusedSimpArgs false
open Go.RowKit Go.Maps
/-- a heap whose blocks all stand as they were -/
theorem Hp.kept {w w' : World} {hb mb n : Nat} {S : Nat → Prop} {L : List Pr} (h : Hp w hb mb S n L) (hs : w.heap.size ≤ w'.heap.size) (hk : ∀ k, k < w.heap.size → own S mb k → w'.heap[k]? = w.heap[k]?) : Hp w' hb mb S n L := by
  obtain ⟨D, hD, hv⟩ := h.map
  refine ⟨h.hg.kept fun k h1 h2 => hk k h1 (.inl h2), ⟨D, ownsMap_block hD (hk mb hD.lt (.inr rfl)), hv⟩, h.mS, fun k h1 => Nat.lt_of_lt_of_le (h.lt k h1) hs, h.wfc, h.one⟩
theorem Hp.own_lt {w : World} {hb mb n : Nat} {S : Nat → Prop} {L : List Pr} (h : Hp w hb mb S n L) (k : Nat) (hk : own S mb k) : k < w.heap.size := by
  obtain ⟨D, hD, hv⟩ := h.map
  rcases hk with hk | rfl
  · exact h.lt k hk
  · exact hD.lt
theorem Hp.below {w w' : World} {hb mb n : Nat} {S : Nat → Prop} {L : List Pr} (h : Hp w hb mb S n L) (hb' : Below w.heap.size w w') : Hp w' hb mb S n L := h.kept hb'.size fun k hk _ => hb'.block k hk
/-- a heap of blocks that are new since w -/
def One (w wr : World) (hb mb n : Nat) (L : List Pr) (S : Nat → Prop) : Prop := Hp wr hb mb S n L ∧ (∀ k, own S mb k → w.heap.size ≤ k) ∧ Below w.heap.size w wr
theorem One.next {w wr w' : World} {hb mb n n' : Nat} {L L' : List Pr} {S S' : Nat → Prop} (h : One w wr hb mb n L S) (h' : Hp w' hb mb S' n' L') (hs : ∀ k, S' k → S k ∨ wr.heap.size ≤ k) (hg : Grow (own S mb) wr w') : One w w' hb mb n' L' S' := by
  have hsz := h.2.2.size
  refine ⟨h', fun k hk => ?_, ⟨hg.os.trans h.2.2.os, hg.tape.trans h.2.2.tape, hg.output.trans h.2.2.output, Nat.le_trans hsz hg.size, fun k hk => ?_⟩⟩
  · rcases hk with hk | rfl
    · rcases hs k hk with hk | hk
      · exact h.2.1 k (.inl hk)
      · omega
    · exact h.2.1 _ (.inr rfl)
  · rw [hg.block k (by omega) (fun hh => by have := h.2.1 k hh; omega)]
    exact h.2.2.block k hk
theorem One.new (w : World) : One w ((w.alloc (.map #[] 0)).alloc (.cells #[.slice none 0 0, .map (some w.heap.size)] 54)) (w.heap.size + 1) w.heap.size 0 [] (fun k => k = w.heap.size + 1) := by
  refine ⟨Hp.new w, fun k hk => by rcases hk with rfl | rfl <;> omega, ?_⟩
  exact ((Below.refl w.heap.size w).alloc (Nat.le_refl _) _).alloc (by simp) _
theorem One.below {w wr w' : World} {hb mb n : Nat} {L : List Pr} {S : Nat → Prop} (h : One w wr hb mb n L S) (hb' : Below wr.heap.size wr w') : One w w' hb mb n L S := ⟨h.1.below hb', h.2.1, h.2.2.trans (hb'.mono h.2.2.size)⟩
/-- two heaps that share nothing -/
def Two (w wr : World) (hb1 mb1 n1 : Nat) (L1 : List Pr) (hb2 mb2 n2 : Nat) (L2 : List Pr) : Prop :=
  ∃ S1 S2, One w wr hb1 mb1 n1 L1 S1 ∧ One w wr hb2 mb2 n2 L2 S2 ∧ ∀ k, own S1 mb1 k → ¬ own S2 mb2 k
theorem Two.swap {w wr : World} {hb1 mb1 n1 : Nat} {L1 : List Pr} {hb2 mb2 n2 : Nat} {L2 : List Pr} (h : Two w wr hb1 mb1 n1 L1 hb2 mb2 n2 L2) : Two w wr hb2 mb2 n2 L2 hb1 mb1 n1 L1 := by
  obtain ⟨S1, S2, h1, h2, h3⟩ := h
  exact ⟨S2, S1, h2, h1, fun k hk hk' => h3 k hk' hk⟩
theorem Two.next {w wr w' : World} {hb1 mb1 n1 n1' : Nat} {L1 L1' : List Pr} {hb2 mb2 n2 : Nat} {L2 : List Pr} {S1 S1' S2 : Nat → Prop} (h1 : One w wr hb1 mb1 n1 L1 S1) (h2 : One w wr hb2 mb2 n2 L2 S2) (ha : ∀ k, own S1 mb1 k → ¬ own S2 mb2 k)
    (h' : Hp w' hb1 mb1 S1' n1' L1') (hs : ∀ k, S1' k → S1 k ∨ wr.heap.size ≤ k) (hg : Grow (own S1 mb1) wr w') : Two w w' hb1 mb1 n1' L1' hb2 mb2 n2 L2 := by
  have o1 := h1.next h' hs hg
  refine ⟨S1', S2, o1, ⟨h2.1.kept hg.size fun k hk ho => hg.block k hk fun hh => ha k hh ho, h2.2.1, o1.2.2⟩, fun k hk ho => ?_⟩
  have hlt := h2.1.own_lt k ho
  rcases hk with hk | hk
  · rcases hs k hk with hk | hk
    · exact ha k (.inl hk) ho
    · omega
  · exact ha k (.inr hk) ho
theorem Two.below {w wr w' : World} {hb1 mb1 n1 : Nat} {L1 : List Pr} {hb2 mb2 n2 : Nat} {L2 : List Pr} (h : Two w wr hb1 mb1 n1 L1 hb2 mb2 n2 L2) (hb' : Below wr.heap.size wr w') : Two w w' hb1 mb1 n1 L1 hb2 mb2 n2 L2 := by
  obtain ⟨S1, S2, h1, h2, h3⟩ := h
  exact ⟨S1, S2, h1.below hb', h2.below hb', h3⟩
theorem Two.put {w wr : World} {hb1 mb1 n1 : Nat} {L1 : List Pr} {hb2 mb2 n2 : Nat} {L2 : List Pr} (h : Two w wr hb1 mb1 n1 L1 hb2 mb2 n2 L2) (c x : Int) (hlen : L1.length ≤ 100000) (hn : n1 ≤ 100000) (hc : 0 ≤ c ∧ c ≤ 1000) (hno : ∀ q ∈ L1, q.c ≠ c) :
    Calls Try.prog 13 #[.pointer (some ⟨hb1, 0, none⟩), .int .i64 c, .int .i64 x] wr fun e w' => e = .returned (.int .i64 0) ∧ ∃ L1', (L1'.map prP).Perm ((x, c) :: L1.map prP) ∧ Two w w' hb1 mb1 (n1 + 1) L1' hb2 mb2 n2 L2 := by
  obtain ⟨S1, S2, h1, h2, h3⟩ := h
  refine (put_new hb1 mb1 n1 S1 L1 c x wr h1.1 hlen hn hc hno).mono ?_
  rintro e w' ⟨he, pb, S', h', hs, hg⟩
  exact ⟨he, _, (pushL_perm L1 ⟨pb, x, c⟩).map prP, Two.next h1 h2 h3 h' hs hg⟩
theorem SlP.below {w w' : World} {v : Value} {l : List (Int × Int)} (h : SlP w v l) (hb : Below w.heap.size w w') : SlP w' v l := by
  obtain ⟨ao, cap, rfl, hc, hr⟩ := h
  refine ⟨ao, cap, rfl, hc, fun j x hx => ?_⟩
  obtain ⟨b, e, h1, h2⟩ := hr j x hx
  exact ⟨b, e, (hb.cell (World.block_lt_of_cell? _ _ h1)).trans h1, (hb.cell (World.block_lt_of_cell? _ _ h2)).trans h2⟩
theorem Two.sorted {w wr : World} {hb1 mb1 n1 : Nat} {L1 : List Pr} {hb2 mb2 n2 : Nat} {L2 : List Pr} (h : Two w wr hb1 mb1 n1 L1 hb2 mb2 n2 L2) (hlen : L1.length ≤ 100000) :
    Calls Try.prog 15 #[.pointer (some ⟨hb1, 0, none⟩)] wr fun e w' => ∃ v, e = .returned v ∧ SlP w' v (sortP (L1.map prP)) ∧ Two w w' hb1 mb1 n1 L1 hb2 mb2 n2 L2 ∧ Below wr.heap.size wr w' := by
  obtain ⟨S1, S2, h1, h2, h3⟩ := id h
  refine (hsorted_any hb1 mb1 S1 L1 wr h1.1.hg hlen).mono ?_
  rintro e w' ⟨v, he, hv, hb⟩
  exact ⟨v, he, hv, h.below hb, hb⟩
theorem Two.new (w : World) : Two w ((((w.alloc (.map #[] 0)).alloc (.cells #[.slice none 0 0, .map (some w.heap.size)] 54)).alloc (.map #[] 0)).alloc (.cells #[.slice none 0 0, .map (some (w.heap.size + 1 + 1))] 54)) (w.heap.size + 1) w.heap.size 0 [] (w.heap.size + 1 + 1 + 1) (w.heap.size + 1 + 1) 0 [] := by
  have h1 := One.new w
  generalize hW : (w.alloc (.map #[] 0)).alloc (.cells #[.slice none 0 0, .map (some w.heap.size)] 54) = W at *
  have hsz : W.heap.size = w.heap.size + 1 + 1 := by rw [← hW]; simp
  have h2 := One.new W
  rw [← hsz]
  refine ⟨_, _, h1.below (by exact h2.2.2), ⟨h2.1, fun k hk => ?_, h1.2.2.trans (h2.2.2.mono (by omega))⟩, fun k hk hk' => ?_⟩
  · have := h2.2.1 k hk; omega
  · have := h2.2.1 k hk'
    rcases hk with rfl | rfl <;> omega
/-- what is put forwards, and backwards -/
def fw (l : List Int) (i : Nat) : Int × Int := (l.getD i 0, (i : Int))
def FW (l : List Int) (j : Nat) : List (Int × Int) := (List.range j).map (fw l)
def BW (l : List Int) (m j : Nat) : List (Int × Int) := (List.range j).map fun i => fw l (m - 1 - i)
theorem FW_succ (l : List Int) (j : Nat) : (fw l j :: FW l j).Perm (FW l (j + 1)) := by
  unfold FW; rw [List.range_succ, List.map_append]; exact (List.perm_append_comm (l₁ := [fw l j]))
theorem BW_succ (l : List Int) (m j : Nat) : (fw l (m - 1 - j) :: BW l m j).Perm (BW l m (j + 1)) := by
  unfold BW; rw [List.range_succ, List.map_append]; exact (List.perm_append_comm (l₁ := [fw l (m - 1 - j)]))
theorem BW_FW (l : List Int) (m : Nat) : (BW l m m).Perm (FW l m) := by
  have : BW l m m = (FW l m).reverse := by
    unfold BW FW
    rw [← List.map_reverse]
    apply List.ext_getElem?
    intro i
    by_cases hi : i < m
    · rw [List.getElem?_map, List.getElem?_map, List.getElem?_reverse (by simpa using hi)]
      simp [hi, show m - 1 - i < m by omega]
    · rw [List.getElem?_eq_none (by simp; omega), List.getElem?_eq_none (by simp; omega)]
  rw [this]; exact List.reverse_perm _
theorem FW_no {L : List Pr} {l : List Int} {j : Nat} (h : (L.map prP).Perm (FW l j)) : ∀ q ∈ L, q.c ≠ (j : Int) := by
  intro q hq e
  have := h.mem_iff.1 (List.mem_map.2 ⟨q, hq, rfl⟩)
  obtain ⟨i, hi, he⟩ := List.mem_map.1 this
  have h2 : (i : Int) = q.c := congrArg Prod.snd he
  have := List.mem_range.1 hi
  omega
theorem BW_no {L : List Pr} {l : List Int} {m j : Nat} (hj : j < m) (h : (L.map prP).Perm (BW l m j)) : ∀ q ∈ L, q.c ≠ ((m - 1 - j : Nat) : Int) := by
  intro q hq e
  have := h.mem_iff.1 (List.mem_map.2 ⟨q, hq, rfl⟩)
  obtain ⟨i, hi, he⟩ := List.mem_map.1 this
  have h2 : ((m - 1 - i : Nat) : Int) = q.c := congrArg Prod.snd he
  have := List.mem_range.1 hi
  omega
/-- on the way through the numbers -/
def ORel (w wr : World) (l : List Int) (m j : Nat) : Prop := ∃ L1 L2, Two w wr (w.heap.size + 1) w.heap.size j L1 (w.heap.size + 1 + 1 + 1) (w.heap.size + 1 + 1) j L2 ∧ (L1.map prP).Perm (FW l j) ∧ (L2.map prP).Perm (BW l m j)
def OMid (w wr : World) (l : List Int) (m j : Nat) : Prop := ∃ L1 L2, Two w wr (w.heap.size + 1) w.heap.size (j + 1) L1 (w.heap.size + 1 + 1 + 1) (w.heap.size + 1 + 1) j L2 ∧ (L1.map prP).Perm (FW l (j + 1)) ∧ (L2.map prP).Perm (BW l m j)
theorem perm_len {L : List Pr} {l : List (Int × Int)} (h : (L.map prP).Perm l) : L.length = l.length := by rw [← h.length_eq, List.length_map]
theorem ORel.put1 {w wr : World} {l : List Int} {m j : Nat} (h : ORel w wr l m j) (hj : j ≤ 100) : Calls Try.prog 13 #[.pointer (some ⟨w.heap.size + 1, 0, none⟩), .int .i64 (j : Int), .int .i64 (l.getD j 0)] wr fun e w' => e = .returned (.int .i64 0) ∧ OMid w w' l m j := by
  obtain ⟨L1, L2, h1, h2, h3⟩ := h
  have hl : L1.length = j := by rw [perm_len h2]; simp [FW]
  refine (h1.put (j : Int) (l.getD j 0) (by omega) (by omega) (by omega) (FW_no h2)).mono ?_
  rintro e w' ⟨he, L1', hp, ht⟩
  exact ⟨he, L1', L2, ht, hp.trans ((h2.cons _).trans (FW_succ l j)), h3⟩
theorem OMid.put2 {w wr : World} {l : List Int} {m j : Nat} (h : OMid w wr l m j) (hj : j < m) (hm : m ≤ 100) : Calls Try.prog 13 #[.pointer (some ⟨w.heap.size + 1 + 1 + 1, 0, none⟩), .int .i64 ((m - 1 - j : Nat) : Int), .int .i64 (l.getD (m - 1 - j) 0)] wr fun e w' => e = .returned (.int .i64 0) ∧ ORel w w' l m (j + 1) := by
  obtain ⟨L1, L2, h1, h2, h3⟩ := h
  have hl : L2.length = j := by rw [perm_len h3]; simp [BW]
  refine (h1.swap.put ((m - 1 - j : Nat) : Int) (l.getD (m - 1 - j) 0) (by omega) (by omega) (by omega) (BW_no hj h3)).mono ?_
  rintro e w' ⟨he, L2', hp, ht⟩
  exact ⟨he, L1, L2', ht.swap, h2, hp.trans ((h3.cons _).trans (BW_succ l m j))⟩
theorem Two.sz {w wr : World} {hb1 mb1 n1 : Nat} {L1 : List Pr} {hb2 mb2 n2 : Nat} {L2 : List Pr} (h : Two w wr hb1 mb1 n1 L1 hb2 mb2 n2 L2) : Below w.heap.size w wr := by
  obtain ⟨S1, S2, h1, _⟩ := h; exact h1.2.2
theorem ORel.sort1 {w wr : World} {l : List Int} {m : Nat} (h : ORel w wr l m m) (hm : m ≤ 100) : Calls Try.prog 15 #[.pointer (some ⟨w.heap.size + 1, 0, none⟩)] wr fun e w' => ∃ v, e = .returned v ∧ SlP w' v (sortP (FW l m)) ∧ ORel w w' l m m := by
  obtain ⟨L1, L2, h1, h2, h3⟩ := h
  have hl : L1.length = m := by rw [perm_len h2]; simp [FW]
  refine (h1.sorted (by omega)).mono ?_
  rintro e w' ⟨v, he, hv, ht, hb⟩
  exact ⟨v, he, by rw [← sortP_congr h2]; exact hv, L1, L2, ht, h2, h3⟩
theorem ORel.sort2 {w wr : World} {l : List Int} {m : Nat} (h : ORel w wr l m m) (hm : m ≤ 100) {u : Value} {k : List (Int × Int)} (hu : SlP wr u k) : Calls Try.prog 15 #[.pointer (some ⟨w.heap.size + 1 + 1 + 1, 0, none⟩)] wr fun e w' => ∃ v, e = .returned v ∧ SlP w' v (sortP (FW l m)) ∧ SlP w' u k ∧ Below w.heap.size w w' := by
  obtain ⟨L1, L2, h1, h2, h3⟩ := h
  have hl : L2.length = m := by rw [perm_len h3]; simp [BW]
  refine (h1.swap.sorted (by omega)).mono ?_
  rintro e w' ⟨v, he, hv, ht, hb⟩
  exact ⟨v, he, by rw [← sortP_congr (h3.trans (BW_FW l m))]; exact hv, hu.below hb, ht.sz⟩
set_option maxHeartbeats 2000000 in
set_option maxRecDepth 100000 in
theorem lawHeapOrder_walk (v0 : Value) (l0 : List Int) (w : World) (w0 : SlI .i64 w v0 l0) :
    Calls Try.prog 4 #[v0] w fun e w' => e = .returned (.bool true) ∧ Below w.heap.size w w' := by
  obtain ⟨hwf, ao, cap, rfl, hc1, hc2, hcell⟩ := w0
  unfold maxLen at hc2
  have HC := Lib.hid hcell
  clear hcell hwf
  by_cases hl : 100 < l0.length
  · have d0 : decide ((100 : Int) < (l0.length : Int)) = true := by simp; omega
    generalize l0.length = m at *
    go_enter Try.func4, Try.ntmps4
    go_wp2_with fail
    refine (wakes_any _).mono ?_
    rintro e w2 ⟨rfl, h2⟩
    go_wp2_with fail
    go_ret
    exact ⟨rfl, h2.below⟩
  have d0 : decide ((100 : Int) < (l0.length : Int)) = false := by simp; omega
  obtain ⟨m, hm⟩ : ∃ m, l0.length = m := ⟨_, rfl⟩
  have HFL : Hid ((FW l0 m).length = m) := Lib.hid (by simp [FW])
  rw [hm] at hl d0 hc1 HC ⊢
  have hm100 : m ≤ 100 := by omega
  have h0 : ORel w ((((w.alloc (.map #[] 0)).alloc (.cells #[.slice none 0 0, .map (some w.heap.size)] 54)).alloc (.map #[] 0)).alloc (.cells #[.slice none 0 0, .map (some (w.heap.size + 1 + 1))] 54)) l0 m 0 := ⟨[], [], Two.new w, List.Perm.refl _, List.Perm.refl _⟩
  have H0 := Lib.hid h0
  clear hm hl h0
  go_enter Try.func4, Try.ntmps4
  go_wp2_with fail
  refine (new_any _).mono ?_
  rintro e w1 ⟨rfl, rfl⟩
  go_wp2_with fail
  refine (new_any _).mono ?_
  rintro e w2 ⟨rfl, hw2⟩
  simp only [World.size_alloc] at hw2 ⊢
  rw [← hw2] at H0
  clear hw2
  go_wp2_with fail
  go_loopw [15] (fun iv wr => ∃ j : Nat, j ≤ m ∧ iv = .int .i64 j ∧ ORel w wr l0 m j) (fun iv _ => m - (intOf iv).toNat)
  case atStart => exact ⟨0, Nat.zero_le _, rfl, H0.out⟩
  case round =>
    obtain ⟨j, hj, rfl, hr⟩ := hrel
    have HR := Lib.hid hr
    clear hr
    by_cases hlt : j < m
    · obtain ⟨b, off, rfl, hcell⟩ := HC.out.resolve_left (by omega)
      have hcj : wr.cell? ⟨b, off + j, none⟩ = some (.int .i64 (l0.getD j 0)) := by
        obtain ⟨L1, L2, ht, _⟩ := HR.out
        exact (ht.sz.cell (World.block_lt_of_cell? w _ (hcell j hlt))).trans (hcell j hlt)
      obtain ⟨i, hi⟩ : ∃ i, m - 1 - j = i := ⟨_, rfl⟩
      have hiI : (m : Int) - 1 - (j : Int) = (i : Int) := by omega
      have him : i < m := by omega
      clear hcell
      have HP := HR.out.put1 (by omega)
      generalize l0.getD j 0 = x at *
      go_wp2_with fail
      refine HP.mono ?_
      rintro e w3 ⟨rfl, hm3⟩
      have HM := Lib.hid hm3
      have hcell2 := (HC.out.resolve_left (by omega))
      obtain ⟨b', off', e', hcell2⟩ := hcell2
      cases e'
      have hci : w3.cell? ⟨b, off + i, none⟩ = some (.int .i64 (l0.getD i 0)) := by
        obtain ⟨L1, L2, ht, _⟩ := HM.out
        exact (ht.sz.cell (World.block_lt_of_cell? w _ (hcell2 i him))).trans (hcell2 i him)
      have HP2 := HM.out.put2 hlt hm100
      rw [hi] at HP2
      have HPP := Lib.hid HP2
      clear hm3 hcell2 HP hcj HP2
      generalize l0.getD i 0 = y at *
      go_wp2_with fail
      refine HPP.out.mono ?_
      rintro e w4 ⟨rfl, hr4⟩
      have HR4 := Lib.hid hr4
      clear hr4
      go_wp2_with fail
      go_roundw
      case rel => exact ⟨j + 1, hlt, rfl, HR4.out⟩
      case measure => simp [intOf]; omega
    · have e : j = m := by omega
      subst e
      go_wp2_with fail
      refine (HR.out.sort1 hm100).mono ?_
      rintro e w3 ⟨u, rfl, hu, hr3⟩
      have HU := Lib.hid hu
      have HR3 := Lib.hid hr3
      clear hu hr3
      go_wp2_with fail
      refine (HR3.out.sort2 hm100 HU.out).mono ?_
      rintro e w4 ⟨v, rfl, hv, hu4, hb4⟩
      have HV := Lib.hid hv
      have HU4 := Lib.hid hu4
      have HB := Lib.hid hb4
      clear hv hu4 hb4
      go_wp2_with fail
      refine (pairs_same u v _ w4 HU4.out HV.out (by rw [sortP_len, HFL.out]; omega)).mono ?_
      rintro e w5 ⟨rfl, k, rfl⟩
      go_wp2_with fail
      refine (wakes_any _).mono ?_
      rintro e w6 ⟨rfl, h6⟩
      have H6 := Lib.hid h6
      clear h6
      go_wp2_with fail
      go_ret
      refine ⟨rfl, HB.out.trans ?_⟩
      have h7 := H6.out.below
      exact (show Below w4.heap.size w4 w6 from ⟨h7.os, h7.tape, h7.output, h7.size, h7.block⟩).mono HB.out.size
end Go.Proofs.Ytcmmmmpdehfefaa
