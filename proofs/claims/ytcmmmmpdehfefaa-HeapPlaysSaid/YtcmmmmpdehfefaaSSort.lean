/-
  slices.SortFunc over a row of pairs; Sorted (chapter 15).
-/
import Derived.Test.YtcmmmmpdehfefaaSOrd
import Derived.Test.YtcmmmmpdehfefaaSLay
namespace Go.Proofs.Ytcmmmmpdehfefaa
set_option linter.unusedVariables false
set_option linter.unusedSimpArgs false
open Go.RowKit Go.Maps Go.Sort
theorem encP_len (x : Int × Int) : (encP x).length = 2 := rfl
theorem encL_at (l : List (Int × Int)) (i : Nat) (h : i < l.length * 2) : (encL l)[i]? = some (encP l.toArray[i / 2]!)[i % 2]! := by
  have hi : i / 2 < l.length := by omega
  obtain ⟨x, hx⟩ : ∃ x, l[i / 2]? = some x := ⟨l[i / 2], List.getElem?_eq_getElem hi⟩
  have hx2 : l.toArray[i / 2]! = x := by simp [hx]
  obtain ⟨e1, e2⟩ := encL_get l (i / 2) x hx
  rw [hx2]
  rcases Nat.mod_two_eq_zero_or_one i with h0 | h0
  · rw [h0, show i = 2 * (i / 2) by omega, e1]; rfl
  · rw [h0, show i = 2 * (i / 2) + 1 by omega, e2]; rfl
theorem holds_own {w : World} {g cap : Nat} {cur : Array Value} {l : List (Int × Int)} (h1 : w.heap[g]? = some (.cells cur 47 (0, 0))) (h5 : cur.toList.take (l.length * 2) = encL l) : HoldsK encP 2 w g 0 l.toArray := by
  intro j hj
  have hj' : j < l.length * 2 := by simpa using hj
  refine ⟨?_, frozen_of_row _ _ _ _ _ h1⟩
  rw [get_flatK _ _ _ _ (by simpa using hj'), cell_of_row _ _ _ _ _ _ h1, Nat.zero_add]
  have := encL_at l j hj'
  rw [← h5, List.getElem?_take, if_pos hj'] at this
  simpa using this
theorem heap_put {w : World} {g cap : Nat} {cur : Array Value} {l : List (Int × Int)} (h1 : w.heap[g]? = some (.cells cur 47 (0, 0))) (hs : l.length * 2 ≤ cur.size) :
    ∃ cur', (putRowK encP 2 w g 0 l.toArray).heap[g]? = some (.cells cur' 47 (0, 0)) ∧ cur'.size = cur.size ∧ cur'.toList.take (l.length * 2) = encL l := by
  refine ⟨putCells id 0 (flatK encP 2 l.toArray) cur, ?_, by simp [putCells], ?_⟩
  · unfold putRowK putRow mapBlock
    rw [Array.getElem?_modify, if_pos rfl, h1]
    rfl
  · apply List.ext_getElem?
    intro i
    by_cases hi : i < l.length * 2
    · rw [encL_at l i hi, List.getElem?_take, if_pos hi]
      have h2 : i < cur.size := by omega
      simp only [putCells, Array.getElem?_toList, Array.getElem?_mapIdx, Array.getElem?_eq_getElem h2, Option.map_some]
      rw [if_pos ⟨Nat.zero_le _, by rw [size_flatK]; simpa using hi⟩, Nat.sub_zero, get_flatK _ _ _ _ (by simpa using hi)]
      rfl
    · rw [List.getElem?_eq_none (by rw [List.length_take]; omega), List.getElem?_eq_none (by rw [encL_len]; omega)]
theorem sort_any : Sorts sortP := by
  intro B v l w h hlen
  have eg : ∀ args w, (callFunc 30 args).run Try.prog w = .ok (.enter 30 args) w := enters_of Try.func30 (by kernel_rfl) rfl
  rcases h.2 with ⟨rfl, h0⟩ | ⟨g, cap, cur, rfl, hb, h1, h2, h3, h4, h5⟩
  · obtain rfl : l = [] := List.eq_nil_of_length_eq_zero h0
    have hn := AnyF.slices_SortFunc_none sortLay none 0 (.func (.func 30) #[] #[]) w
    refine Calls.mono (show Calls Try.prog 29 _ _ _ from hn) ?_
    rintro e w' ⟨rfl, rfl⟩
    refine ⟨rfl, ?_, World.grownBy.refl _ _⟩
    rw [show sortP [] = [] from List.eq_nil_of_length_eq_zero (sortP_len [])]
    exact World.ownsRow_nil _ _ _ _
  · have hlt := (Array.getElem?_eq_some_iff.1 h1).1
    have hs := AnyQ.slices_SortFunc_total sortLay 2 (fun _ => by kernel_rfl) (fun _ => by kernel_rfl) encP encP_len (fun x v hv => by simp [encP] at hv; rcases hv with rfl | rfl <;> rfl) cfP swoP 30 #[] g 0 cap l.toArray w eg
      (fun _ _ _ _ x y => clo_any x y _) (holds_own (cap := cap) h1 h5) hlt (by simp; omega) totP
    refine Calls.mono (show Calls Try.prog 29 _ _ _ from hs) ?_
    rintro e w' ⟨rfl, n, os, hw⟩
    have hlist : (l.toArray.toList.mergeSort fun x y => !(ltOf cfP) y x) = sortP l := by rw [ltOf_cfP]; rfl
    rw [hlist] at hw
    have hl2 : (sortP l).length = l.length := sortP_len l
    obtain ⟨cur', p1, p2, p3⟩ := heap_put (w := Sort.ahead w n) (cap := cap) (l := sortP l) (cur := cur) h1 (by rw [hl2, h4]; omega)
    have hsz : (putRowK encP 2 (Sort.ahead w n) g 0 (sortP l).toArray).heap.size = w.heap.size := by unfold putRowK; rw [size_putRow]; rfl
    refine ⟨rfl, ⟨by rw [encL_len, hl2]; omega, .inr ⟨g, cap, cur', rfl, hb, ?_, h2, h3, by rw [p2]; exact h4, by rw [← hl2]; exact p3⟩⟩, ?_⟩
    · rw [hw]; unfold sortWorldK
      rw [heap_grow_old _ _ (by rw [hsz]; exact hlt)]; exact p1
    · rw [hw]; unfold sortWorldK
      refine ⟨rfl, rfl, rfl, by rw [size_grow, hsz]; omega, fun k hk hne => ?_⟩
      rw [heap_grow_old _ _ (by rw [hsz]; exact hk)]
      unfold putRowK putRow mapBlock
      simp only [Value.ownBlock, ne_eq, Option.some.injEq] at hne
      rw [Array.getElem?_modify, if_neg (fun e => hne e.symm)]
      rfl
theorem hsorted_any (hb mb : Nat) (S : Nat → Prop) (L : List Pr) (w : World) (h : HG w hb mb S L) (hlen : L.length ≤ 100000) :
    Calls Try.prog 15 #[.pointer (some ⟨hb, 0, none⟩)] w fun e w' => ∃ v, e = .returned v ∧ SlP w' v (sortP (L.map prP)) ∧ Below w.heap.size w w' :=
  (sorted_any sort_any hb mb S L w h hlen).mono fun e w' ⟨v, he, ho, hb⟩ => ⟨v, he, SlP.of_own (B := w.heap.size) (by rw [sortP_len, List.length_map]; exact ho), hb⟩
end Go.Proofs.Ytcmmmmpdehfefaa
