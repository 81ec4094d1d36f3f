/-
  What request.fields answers: a kind's fields (chapter 08).
-/
import Derived.Test.YtcffabfaefbjcaaProg
import Derived.WalkKit
import Derived.WalkLawsBesides
import Derived.WalkSpells
import Derived.Lib.Hide
import Derived.Laws.EntriesVeiled
import Derived.Outline
import Derived.Maps.OwnSet
namespace Go.Proofs.Ytcffabfaefbjcaa
set_option linter.unusedVariables false
open Go.RowKit Go.Maps
/-- an element reads as itself -/
def rdSelf (v : Value) : Option (DataW Value × List MemPlace) := some (.held v, [])
/-- an entry of a map's literal -/
theorem wp_insert {P : Program} (w : World) {ops : Array Oper} {rest : List Oper} {o : Oper} {a : Act} {Q : Exit → Act → World → Prop}
    (hg : o.guard = none) (m x v : Operand) (t : TypeId) (hop : o.op = Op.insert t m x v)
    (k e : TypeId) (K : Keyed P k) (ht : P.underlying t = some (.map k e)) (b n : Nat) (D : DataW Value)
    (hm : a.eval m = .map (some b)) (hown : w.ownsMap P k rdSelf b n D) (hn : n < maxLen) (key val : Value) (kl : Lit) (hx : a.eval x = key) (hv : a.eval v = val) (hkey : keyOf P k key = some kl)
    (hK : ∀ w', w'.ownsMap P k rdSelf b (n + 1) (D.put kl (.held val)) → w.grownBy w' (some b) → wpList P ops Q rest (a.put o.dst undef) w') :
    wpList P ops Q (o :: rest) a w := by
  refine wpList_plain hg fun K' hK' => ?_
  obtain ⟨w', hrun, r1, r2⟩ := hown.update K ht hn hkey (rfl : rdSelf val = some (.held val, []))
  unfold Oper.wp
  simp [execOp, hop, hm, hx, hv, hrun, Result.andThen]
  exact hK' _ _ (hK w' r1 r2)
theorem law32 : Keyed Try.prog 32 := int_keyed Try.underlying32
/-- the map and the rows made so far -/
structure Fld (w wr : World) (b n : Nat) (D : DataW Value) (L : List (Nat × Array Value)) : Prop where
  below : Below w.heap.size w wr
  own : wr.ownsMap Try.prog 32 rdSelf b n D
  base : w.heap.size ≤ b
  rows : ∀ p ∈ L, p.1 ≠ b ∧ w.heap.size ≤ p.1 ∧ wr.heap[p.1]? = some (.cells p.2 3)
theorem Fld.start (w : World) : Fld w (w.alloc (.map #[] 0)) w.heap.size 0 (.map []) [] :=
  ⟨(Below.refl _ _).alloc (Nat.le_refl _) _, World.ownsMap_made _ _ _ _, Nat.le_refl _, fun p hp => by cases hp⟩
theorem Fld.insert {w wr w' : World} {b n n' : Nat} {D D' : DataW Value} {L : List (Nat × Array Value)} (h : Fld w wr b n D L) (ho : w'.ownsMap Try.prog 32 rdSelf b n' D') (hg : wr.grownBy w' (some b)) : Fld w w' b n' D' L := by
  refine ⟨h.below.grown hg h.below.size (fun k hk => by cases hk; exact h.base), ho, h.base, fun p hp => ?_⟩
  obtain ⟨h1, h2, h3⟩ := h.rows p hp
  refine ⟨h1, h2, ?_⟩
  rw [hg.block p.1 (Array.getElem?_eq_some_iff.1 h3).1 (fun e => h1 (by cases e; rfl))]
  exact h3
theorem Fld.build {w wr : World} {b n : Nat} {D : DataW Value} {L : List (Nat × Array Value)} (h : Fld w wr b n D L) (cs : Array Value) : Fld w (wr.alloc (.cells cs 3)) b n D ((wr.heap.size, cs) :: L) := by
  have hlt := h.own.lt
  refine ⟨h.below.alloc h.below.size _, h.own.alloc _, h.base, fun p hp => ?_⟩
  rcases List.mem_cons.1 hp with rfl | hp
  · exact ⟨by simp; omega, h.below.size, heap_alloc_new _ _⟩
  · obtain ⟨h1, h2, h3⟩ := h.rows p hp
    exact ⟨h1, h2, by rw [Below.heap_alloc _ _ _ (Array.getElem?_eq_some_iff.1 h3).1]; exact h3⟩
end Go.Proofs.Ytcffabfaefbjcaa
