/-
  The document's heap in memory: New, Len, at, less (chapter 15).
-/
import Derived.Test.YtcmmmmpdehfefaaHMpf
namespace Go.Proofs.Ytcmmmmpdehfefaa
set_option linter.unusedVariables false
set_option linter.unusedSimpArgs false
open Go.RowKit Go.Maps
/-- the document's heap -/
structure RH (w : World) (rb : Nat) (T : Nat → Prop) (l : List (Int × Int)) : Prop where
  top : ∃ v, w.heap[rb]? = some (.cells #[v] 66 (0, 0)) ∧ w.ownsRow 0 47 2 v l.length (encL l) ∧ (∀ k, v.ownBlock = some k → T k)
  rT : T rb
  lt : ∀ k, T k → k < w.heap.size
def Stp (T T' : Nat → Prop) (w w' : World) : Prop := (∀ k, T' k → T k ∨ w.heap.size ≤ k) ∧ Grow T w w'
theorem Stp.refl (T : Nat → Prop) (w : World) : Stp T T w w := ⟨fun k h => .inl h, Grow.refl _ _⟩
theorem Stp.trans {T T' T'' : Nat → Prop} {a b c : World} (h : Stp T T' a b) (k : Stp T' T'' b c) : Stp T T'' a c :=
  ⟨fun i hi => (k.1 i hi).elim (h.1 i) (fun hh => .inr (Nat.le_trans h.2.size hh)), h.2.trans (k.2.mono fun i _ hi => h.1 i hi)⟩
theorem Stp.below {T : Nat → Prop} {w w' : World} (h : Below w.heap.size w w') : Stp T T w w' := ⟨fun k h => .inl h, ⟨h.os, h.tape, h.output, h.size, fun k hk _ => h.block k hk⟩⟩
theorem Stp.apart {T T' : Nat → Prop} {k : Nat} {w w' : World} (hs : Stp T T' w w') (hk : k < w.heap.size) (h : ¬ T k) : ¬ T' k := fun hh => (hs.1 k hh).elim h (fun h2 => by omega)
theorem RH.kept {w w' : World} {rb : Nat} {T : Nat → Prop} {l : List (Int × Int)} (h : RH w rb T l) (hs : w.heap.size ≤ w'.heap.size) (hk : ∀ k, k < w.heap.size → T k → w'.heap[k]? = w.heap[k]?) : RH w' rb T l := by
  obtain ⟨⟨v, h1, h2, h3⟩, h4, h5⟩ := h
  refine ⟨⟨v, by rw [hk _ (h5 _ h4) h4]; exact h1, ⟨h2.1, ?_⟩, h3⟩, h4, fun k hk' => Nat.lt_of_lt_of_le (h5 k hk') hs⟩
  rcases h2.2 with h6 | ⟨g, cap, cur, rfl, hb, hg, r⟩
  · exact .inl h6
  · exact .inr ⟨g, cap, cur, rfl, hb, by rw [hk g (h5 g (h3 g rfl)) (h3 g rfl)]; exact hg, r⟩
theorem RH.below {w w' : World} {rb : Nat} {T : Nat → Prop} {l : List (Int × Int)} (h : RH w rb T l) (hb : Below w.heap.size w w') : RH w' rb T l := h.kept hb.size fun k hk _ => hb.block k hk
/-- what is read of it -/
theorem RH.reads {w : World} {rb : Nat} {T : Nat → Prop} {l : List (Int × Int)} (h : RH w rb T l) : ∃ ao cap, w.cell? ⟨rb, 0, none⟩ = some (.slice ao l.length cap) ∧ l.length ≤ cap ∧ cap ≤ maxLen ∧ SlP w (.slice ao l.length cap) l := by
  obtain ⟨⟨v, h1, h2, h3⟩, h4, h5⟩ := h
  have hs := SlP.of_own h2
  obtain ⟨ao, cap, rfl, hc, hr⟩ := id hs
  refine ⟨ao, cap, by rw [cell_of_row _ _ _ _ _ _ h1]; rfl, hc, ?_, hs⟩
  rcases h2.2 with ⟨e, _⟩ | ⟨g, cap', cur, e, hb, hg, _, hm, _⟩
  · injection e with _ _ e3; rw [e3]; exact Nat.zero_le _
  · injection e with _ _ e3; rw [e3]; exact hm
theorem RH.new (w : World) : RH (w.alloc (.cells #[.slice none 0 0] 66)) w.heap.size (fun k => k = w.heap.size) [] :=
  ⟨⟨_, heap_alloc_new _ _, World.ownsRow_nil _ _ _ _, fun k hk => by cases hk⟩, rfl, fun k hk => by subst hk; simp⟩
set_option maxRecDepth 100000 in
theorem rnew_any (w : World) : Calls Try.prog 16 #[] w fun e w' => e = .returned (.pointer (some ⟨w.heap.size, 0, none⟩)) ∧ w' = w.alloc (.cells #[.slice none 0 0] 66) := by
  go_enter Try.func16, Try.ntmps16
  go_wp2
  go_ret
  exact ⟨rfl, rfl⟩
set_option maxRecDepth 100000 in
theorem rlen_any {w : World} {rb : Nat} {T : Nat → Prop} {l : List (Int × Int)} (h : RH w rb T l) : Calls Try.prog 25 #[.pointer (some ⟨rb, 0, none⟩)] w fun e w' => e = .returned (.int .i64 (l.length : Int)) ∧ w' = w := by
  obtain ⟨ao, cap, hc, _⟩ := h.reads
  clear h
  go_enter Try.func25, Try.ntmps25
  go_wp2
  go_ret
  exact ⟨rfl, rfl⟩
/-- a client's place -/
def atI (c : Int) (l : List (Int × Int)) : Int := match l.findIdx? (fun y => y.2 == c) with | some k => (k : Int) | none => -1
/-- places ahead of it have other clients -/
def firstN (c : Int) (l : List (Int × Int)) : Nat := (l.findIdx? (fun y => y.2 == c)).getD l.length
theorem firstN_le (c : Int) (l : List (Int × Int)) : firstN c l ≤ l.length := by
  unfold firstN
  cases h : l.findIdx? (fun y => y.2 == c) with
  | none => exact Nat.le_refl _
  | some k => obtain ⟨hk, _⟩ := List.findIdx?_eq_some_iff_getElem.1 h; exact Nat.le_of_lt hk
theorem firstN_no (c : Int) (l : List (Int × Int)) (j : Nat) (hj : j < firstN c l) (y : Int × Int) (hy : l[j]? = some y) : y.2 ≠ c := by
  unfold firstN at hj
  obtain ⟨h1, h2⟩ := List.getElem?_eq_some_iff.1 hy
  subst h2
  cases h : l.findIdx? (fun y => y.2 == c) with
  | none =>
    have := List.findIdx?_eq_none_iff.1 h _ (List.getElem_mem h1)
    simpa using this
  | some k =>
    obtain ⟨hk, _, h4⟩ := List.findIdx?_eq_some_iff_getElem.1 h
    rw [h] at hj
    have := h4 j (by simpa using hj)
    simpa using this
theorem firstN_yes (c : Int) (l : List (Int × Int)) (y : Int × Int) (hy : l[firstN c l]? = some y) : y.2 = c ∧ atI c l = (firstN c l : Int) := by
  unfold firstN atI
  cases h : l.findIdx? (fun y => y.2 == c) with
  | none =>
    unfold firstN at hy
    rw [h] at hy
    have := (List.getElem?_eq_some_iff.1 hy).1
    simp at this
  | some k =>
    unfold firstN at hy
    rw [h] at hy
    obtain ⟨hk, h3, h4⟩ := List.findIdx?_eq_some_iff_getElem.1 h
    obtain ⟨_, h2⟩ := List.getElem?_eq_some_iff.1 hy
    simp only [Option.getD_some] at h2
    rw [h2] at h3
    exact ⟨by simpa using h3, rfl⟩
theorem firstN_end (c : Int) (l : List (Int × Int)) (h : firstN c l = l.length) : atI c l = -1 := by
  unfold firstN atI at *
  cases h2 : l.findIdx? (fun y => y.2 == c) with
  | none => rfl
  | some k =>
    obtain ⟨hk, _⟩ := List.findIdx?_eq_some_iff_getElem.1 h2
    rw [h2] at h
    simp at h; omega
set_option maxHeartbeats 1000000 in
set_option maxRecDepth 100000 in
theorem at_any {w : World} {rb : Nat} {T : Nat → Prop} {l : List (Int × Int)} (h : RH w rb T l) (c : Int) : Calls Try.prog 33 #[.pointer (some ⟨rb, 0, none⟩), .int .i64 c] w fun e w' => e = .returned (.int .i64 (atI c l)) ∧ w = w' := by
  obtain ⟨ao, cap, hc, hlc, hcm, hr⟩ := h.reads
  have HR := Lib.hid hr
  unfold maxLen at hcm
  obtain ⟨N, hN⟩ : ∃ N, firstN c l = N := ⟨_, rfl⟩
  obtain ⟨m, hm⟩ : ∃ m, l.length = m := ⟨_, rfl⟩
  have h1 := firstN_le c l
  have H2 := Lib.hid (firstN_no c l)
  have H3 := Lib.hid (firstN_yes c l)
  have H4 := Lib.hid (firstN_end c l)
  have HM := Lib.hid hm
  rw [hN, hm] at h1 H4
  rw [hN] at H2 H3
  rw [hm] at hc hlc HR
  clear h hr hN hm
  go_enter Try.func33, Try.ntmps33
  go_wp2_with fail
  go_loopw [5] (fun iv wr => ∃ j : Nat, j ≤ N ∧ iv = .int .i64 j ∧ w = wr) (fun iv _ => N - (intOf iv).toNat)
  case atStart => exact ⟨0, Nat.zero_le _, rfl, rfl⟩
  case round =>
    obtain ⟨j, hj, rfl, rfl⟩ := hrel
    by_cases hjm : j < m
    · obtain ⟨y, hy⟩ : ∃ y, l[j]? = some y := ⟨l[j]'(by rw [HM.out]; exact hjm), List.getElem?_eq_getElem _⟩
      obtain ⟨a', c', ev, _, hrd⟩ := HR.out
      injection ev with ev1 _ _
      subst ev1
      obtain ⟨b, rfl, y1, y2⟩ := hrd j y hy
      have HY := Lib.hid hy
      clear hrd hy
      by_cases hjN : j < N
      · have d1 : (y.2 == c) = false := by simpa using H2.out j hjN y HY.out
        go_wp2_with fail
        go_roundw
        case rel => exact ⟨j + 1, hjN, rfl, trivial⟩
        case measure => simp [intOf]; omega
      · have e : j = N := by omega
        subst e
        obtain ⟨e1, e2⟩ := H3.out y HY.out
        have d1 : (y.2 == c) = true := by simpa using e1
        have E2 := Lib.hid e2
        clear e2
        go_wp2_with fail
        go_ret
        exact ⟨by rw [E2.out]; rfl, rfl⟩
    · have e : j = N := by omega
      have e2 : N = m := by omega
      subst e
      subst e2
      go_wp2_with fail
      go_ret
      exact ⟨by rw [H4.out trivial]; rfl, rfl⟩
set_option maxHeartbeats 1000000 in
set_option maxRecDepth 100000 in
theorem less_ref (x y : Int × Int) (w : World) : Calls Try.prog 35 #[.agg #[.int .i64 x.1, .int .i64 x.2], .agg #[.int .i64 y.1, .int .i64 y.2]] w fun e w' => e = .returned (.bool (ltP x y)) ∧ Below w.heap.size w w' := by
  have hb : ∀ o1 o2, Below w.heap.size w ((w.alloc o1).alloc o2) := fun o1 o2 => ((Below.refl w.heap.size w).alloc (Nat.le_refl _) o1).alloc (by simp) o2
  by_cases h1 : x.1 < y.1
  · have d1 : decide (x.1 < y.1) = true := by simpa using h1
    have e : ltP x y = true := by rw [ltP_iff]; exact .inl h1
    rw [e]
    clear h1
    go_enter Try.func35, Try.ntmps35
    go_wp2
    go_ret
    exact ⟨rfl, hb _ _⟩
  · have d1 : decide (x.1 < y.1) = false := by simpa using h1
    by_cases h2 : x.1 = y.1
    · have d2 : (x.1 == y.1) = true := by simpa using h2
      have e : ltP x y = decide (x.2 < y.2) := by unfold ltP; rw [d1, d2]; simp
      rw [e]
      clear h1 h2
      go_enter Try.func35, Try.ntmps35
      go_wp2
      go_ret
      exact ⟨rfl, hb _ _⟩
    · have d2 : (x.1 == y.1) = false := by simpa using h2
      have e : ltP x y = false := by unfold ltP; rw [d1, d2]; simp
      rw [e]
      clear h1 h2
      go_enter Try.func35, Try.ntmps35
      go_wp2
      go_ret
      exact ⟨rfl, hb _ _⟩
end Go.Proofs.Ytcmmmmpdehfefaa
