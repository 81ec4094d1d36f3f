/-
  A heap's state in memory; (*rows).Push over it (chapter 15).
-/
import Derived.Test.YtcmmmmpdehfefaaHPush
namespace Go.Proofs.Ytcmmmmpdehfefaa
set_option linter.unusedVariables false
set_option linter.unusedSimpArgs false
open Go.RowKit
/-- the row, from the slice that the heap's first cell holds -/
def RowV (w : World) (v : Value) (L : List Pr) : Prop := (v = .slice none 0 0 ∧ L = []) ∨ ∃ rb cap, v = .slice (some ⟨rb, 0, none⟩) L.length cap ∧ HRow w rb cap L
/-- the heap without its map; S holds the blocks that are its own -/
structure HG (w : World) (hb mb : Nat) (S : Nat → Prop) (L : List Pr) : Prop where
  top : ∃ v, w.heap[hb]? = some (.cells #[v, .map (some mb)] 54 (0, 0)) ∧ RowV w v L ∧ (∀ k, v.ownBlock = some k → S k)
  hbS : S hb
  prS : ∀ p ∈ L, S p.pb
/-- what a call of ours may change -/
structure Grow (S : Nat → Prop) (w w' : World) : Prop where
  os : w'.os = w.os
  tape : w'.tape = w.tape
  output : w'.output = w.output
  size : w.heap.size ≤ w'.heap.size
  block : ∀ k, k < w.heap.size → ¬ S k → w'.heap[k]? = w.heap[k]?
theorem Grow.refl (S : Nat → Prop) (w : World) : Grow S w w := ⟨rfl, rfl, rfl, Nat.le_refl _, fun _ _ _ => rfl⟩
/-- S, and what is new -/
def more (S : Nat → Prop) (w : World) (k : Nat) : Prop := S k ∨ w.heap.size ≤ k
theorem Grow.trans {S : Nat → Prop} {a b c : World} (h : Grow S a b) (k : Grow (more S a) b c) : Grow S a c :=
  ⟨k.os.trans h.os, k.tape.trans h.tape, k.output.trans h.output, Nat.le_trans h.size k.size, fun i hi hs => (k.block i (Nat.lt_of_lt_of_le hi h.size) (fun hh => by rcases hh with hh | hh; exact hs hh; omega)).trans (h.block i hi hs)⟩
theorem Grow.mono {S T : Nat → Prop} {a b : World} (h : Grow S a b) (hs : ∀ k, k < a.heap.size → S k → T k) : Grow T a b := ⟨h.os, h.tape, h.output, h.size, fun k hk ht => h.block k hk (fun hh => ht (hs k hk hh))⟩
theorem Grow.trans' {S : Nat → Prop} {a b c : World} (h : Grow S a b) (k : Grow S b c) : Grow S a c := h.trans (k.mono fun _ _ hs => .inl hs)
theorem Touch.grow {S : Nat → Prop} {a b : World} (h : Touch S a b) : Grow S a b := ⟨h.os, h.tape, h.output, by rw [h.size]; exact Nat.le_refl _, fun k _ hk => h.block k hk⟩
theorem Grow.drewN {S : Nat → Prop} {a b : World} (h : Grow S a b) (n : Nat) : Grow S a (b.drewN n) := ⟨h.os, h.tape, h.output, h.size, h.block⟩
theorem more_more {S : Nat → Prop} {a b : World} (h : a.heap.size ≤ b.heap.size) (k : Nat) (hk : more (more S a) b k) : more S a k := by
  rcases hk with hk | hk
  · exact hk
  · exact .inr (Nat.le_trans h hk)
theorem HG.mono {w : World} {hb mb : Nat} {S T : Nat → Prop} {L : List Pr} (h : HG w hb mb S L) (hs : ∀ k, S k → T k) : HG w hb mb T L := by
  obtain ⟨⟨v, h1, h2, h3⟩, h4, h5⟩ := h
  exact ⟨⟨v, h1, h2, fun k hk => hs k (h3 k hk)⟩, hs _ h4, fun p hp => hs _ (h5 p hp)⟩
theorem HG.drewN {w : World} {hb mb : Nat} {S : Nat → Prop} {L : List Pr} (h : HG w hb mb S L) (n : Nat) : HG (w.drewN n) hb mb S L := by
  obtain ⟨⟨v, h1, h2, h3⟩, h4, h5⟩ := h
  refine ⟨⟨v, h1, ?_, h3⟩, h4, h5⟩
  rcases h2 with h2 | ⟨rb, cap, e, hr⟩
  · exact .inl h2
  · exact .inr ⟨rb, cap, e, hr.drewN n⟩
theorem HRow.kept {w w' : World} {rb cap : Nat} {L : List Pr} (h : HRow w rb cap L) (hb : ∀ k, RowSet rb L k → w'.heap[k]? = w.heap[k]?) : HRow w' rb cap L := by
  obtain ⟨⟨cur, h1, h2, h3⟩, h4, h5, h6, h7⟩ := h
  refine ⟨⟨cur, by rw [hb _ (.inl rfl)]; exact h1, h2, h3⟩, h4, h5, fun i p hp => ?_, h7⟩
  rw [hb _ (.inr ⟨p, List.mem_of_getElem? hp, rfl⟩)]
  exact h6 i p hp
/-- what is not the heap's own may change -/
theorem HG.kept {w w' : World} {hb mb : Nat} {S : Nat → Prop} {L : List Pr} (h : HG w hb mb S L) (hk : ∀ k, k < w.heap.size → S k → w'.heap[k]? = w.heap[k]?) : HG w' hb mb S L := by
  obtain ⟨⟨v, h1, h2, h3⟩, h4, h5⟩ := h
  have hlt : ∀ k o, w.heap[k]? = some o → k < w.heap.size := fun k o h => (Array.getElem?_eq_some_iff.1 h).1
  refine ⟨⟨v, by rw [hk _ (hlt _ _ h1) h4]; exact h1, ?_, h3⟩, h4, h5⟩
  rcases h2 with h2 | ⟨rb, cap, rfl, hr⟩
  · exact .inl h2
  · refine .inr ⟨rb, cap, rfl, hr.kept ?_⟩
    rintro k (rfl | ⟨p, hp, rfl⟩)
    · obtain ⟨cur, hc, _⟩ := hr.row
      exact hk _ (hlt _ _ hc) (h3 _ rfl)
    · obtain ⟨i, hi⟩ := List.getElem?_of_mem hp
      exact hk _ (hlt _ _ (hr.pair i p hi)) (h5 p hp)
theorem RowV.owns {w : World} {v : Value} {L : List Pr} (h : RowV w v L) : w.ownsRow 0 55 1 v L.length (L.map Pr.val) := by
  rcases h with ⟨rfl, rfl⟩ | ⟨rb, cap, rfl, hr⟩
  · exact World.ownsRow_nil _ _ _ _
  · obtain ⟨cur, h1, h2, h3⟩ := hr.row
    refine ⟨by simp, .inr ⟨rb, cap, cur, rfl, Nat.zero_le _, h1, hr.len, hr.max, by omega, ?_⟩⟩
    have hlen := hr.len
    apply List.ext_getElem?
    intro i
    by_cases hi : i < L.length
    · rw [List.getElem?_take, if_pos (by omega), List.getElem?_map, ← h3 i hi]; simp
    · rw [List.getElem?_eq_none (by simp; omega), List.getElem?_eq_none (by simp; omega)]
theorem RowV.of_owns {w : World} {v : Value} {L : List Pr} (h : w.ownsRow 0 55 1 v L.length (L.map Pr.val)) (hp : ∀ (i : Nat) (p : Pr), L[i]? = some p → w.heap[p.pb]? = some (.cells (p.cells i) 58 (0, 0)))
    (ha : ∀ (i j : Nat) (p q : Pr), L[i]? = some p → L[j]? = some q → p.pb = q.pb → i = j) : RowV w v L := by
  rcases h.2 with ⟨rfl, h0⟩ | ⟨g, cap, cur, rfl, _, h1, h2, h3, h4, h5⟩
  · exact .inl ⟨rfl, List.eq_nil_of_length_eq_zero h0⟩
  · refine .inr ⟨g, cap, rfl, ⟨cur, h1, by omega, fun i hi => ?_⟩, h2, h3, hp, ha⟩
    have : (cur.toList.take (L.length * 1))[i]? = (L.map Pr.val)[i]? := by rw [h5]
    rw [List.getElem?_take, if_pos (by omega), List.getElem?_map] at this
    rw [← this]; simp
theorem RowV.apart {w : World} {v : Value} {L : List Pr} (h : RowV w v L) : ∀ (i j : Nat) (p q : Pr), L[i]? = some p → L[j]? = some q → p.pb = q.pb → i = j := by
  rcases h with ⟨rfl, rfl⟩ | ⟨rb, cap, rfl, hr⟩
  · intro i j p q hp; simp at hp
  · exact hr.apart
theorem RowV.pair {w : World} {v : Value} {L : List Pr} (h : RowV w v L) : ∀ (i : Nat) (p : Pr), L[i]? = some p → w.heap[p.pb]? = some (.cells (p.cells i) 58 (0, 0)) := by
  rcases h with ⟨rfl, rfl⟩ | ⟨rb, cap, rfl, hr⟩
  · intro i p hp; simp at hp
  · exact hr.pair
/-- the row's block is a row -/
theorem RowV.block {w : World} {v : Value} {L : List Pr} (h : RowV w v L) {k : Nat} (hk : v.ownBlock = some k) : ∃ cur, w.heap[k]? = some (.cells cur 55 (0, 0)) := by
  rcases h with ⟨rfl, rfl⟩ | ⟨rb, cap, rfl, hr⟩
  · cases hk
  · cases hk
    obtain ⟨cur, hc, _⟩ := hr.row
    exact ⟨cur, hc⟩
end Go.Proofs.Ytcmmmmpdehfefaa
