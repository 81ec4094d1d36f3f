/-
  What the reference's Read tells, of bytes that are as long as their kind (chapter 08).
-/
import Derived.Test.YtcffabfaefbjcaaReqS
import Derived.Test.YtcffabfaefbjcaaReadW
import Derived.Test.YtcffabfaefbjcaaReadPlain
namespace Go.Proofs.Ytcffabfaefbjcaa
set_option linter.unusedVariables false
open Go.RowKit
theorem rf_end {q : Rq} {E : Int} {w wr : World} {t : Array Value} (hq : wr.heap[w.heap.size]? = some (.cells q.cells 34 (0, 0))) (h2 : t.getD 2 undef = .pointer (some ⟨w.heap.size, 0, none⟩)) (h3 : t.getD 3 undef = .int .i64 E) (hb : Below w.heap.size w wr) :
    bodyPost Try.prog Try.f36 (RPost q E w) Exit.ret { tmps := t, defers := [] } wr := by
  have c : ∀ i, wr.cell? ⟨w.heap.size, i, none⟩ = q.cells[i]? := fun i => cell_of_row _ _ _ _ _ _ hq
  have c0 := c 0
  have c1 := c 1
  have c2 := c 2
  have c3 := c 3
  have c4 := c 4
  have c5 := c 5
  have c6 := c 6
  simp only [Rq.cells] at c0 c1 c2 c3 c4 c5 c6
  simp at h2 h3
  exact bodyPost_ret (v := .tuple #[.agg q.cells, .int .i64 E]) (by simp [results, Try.results36, go_sem, h2, h3, c0, c1, c2, c3, c4, c5, c6]; rfl) rfl ⟨rfl, hb⟩
theorem two_cells {q1 q2 : Rq} {w x : World} (h : Below ((w.alloc (.cells q1.cells 34)).alloc (.cells q2.cells 34)).heap.size ((w.alloc (.cells q1.cells 34)).alloc (.cells q2.cells 34)) x) :
    x.heap[w.heap.size]? = some (.cells q1.cells 34 (0, 0)) ∧ x.heap[w.heap.size + 1]? = some (.cells q2.cells 34 (0, 0)) ∧ Below w.heap.size w x := by
  refine ⟨?_, ?_, (((Below.refl _ _).alloc (Nat.le_refl _) _).alloc (by simp) _).trans (h.mono (by simp; omega))⟩
  · rw [h.block _ (by simp; omega), heap_alloc_old _ _ (by simp)]; exact heap_alloc_new _ _
  · rw [h.block _ (by simp)]
    have := heap_alloc_new (w.alloc (.cells q1.cells 34)) (.cells q2.cells 34)
    simpa using this
/-- a request stored -/
def storeQ (w : World) (g : Nat) (q : Rq) : World := ((((((w.setCell ⟨g, 0, none⟩ (.int .i8 q.k)).setCell ⟨g, 1, none⟩ (.int .i64 q.t)).setCell ⟨g, 2, none⟩ (.int .i64 q.y)).setCell ⟨g, 3, none⟩ (.int .i64 q.v)).setCell ⟨g, 4, none⟩ (.int .i64 q.p)).setCell ⟨g, 5, none⟩ (.int .i64 q.f)).setCell ⟨g, 6, none⟩ (.int .i64 q.o)
theorem storeQ_heap {w : World} {g : Nat} {q r : Rq} (h : w.heap[g]? = some (.cells r.cells 34 (0, 0))) : (storeQ w g q).heap[g]? = some (.cells q.cells 34 (0, 0)) := by
  have q0 := heap_setCell_same w g 0 _ _ (.int .i8 q.k) h
  have q1 := heap_setCell_same _ g 1 _ _ (.int .i64 q.t) q0
  have q2 := heap_setCell_same _ g 2 _ _ (.int .i64 q.y) q1
  have q3 := heap_setCell_same _ g 3 _ _ (.int .i64 q.v) q2
  have q4 := heap_setCell_same _ g 4 _ _ (.int .i64 q.p) q3
  have q5 := heap_setCell_same _ g 5 _ _ (.int .i64 q.f) q4
  have q6 := heap_setCell_same _ g 6 _ _ (.int .i64 q.o) q5
  unfold storeQ
  rw [q6]; rfl
theorem storeQ_below {w0 w : World} {g B : Nat} {q : Rq} (h : Below B w0 w) (hg : B ≤ g) : Below B w0 (storeQ w g q) :=
  ((((((h.setCell (p := ⟨g, 0, none⟩) hg _).setCell (p := ⟨g, 1, none⟩) hg _).setCell (p := ⟨g, 2, none⟩) hg _).setCell (p := ⟨g, 3, none⟩) hg _).setCell (p := ⟨g, 4, none⟩) hg _).setCell (p := ⟨g, 5, none⟩) hg _).setCell (p := ⟨g, 6, none⟩) hg _
theorem sizer_v (k s : Int) (h : sizeE k = s) (w : World) : Calls Try.prog 22 #[.int .i8 k] w fun e w' => e = .returned (.int .i64 s) ∧ w = w' := (sizer_any k w).mono fun _ _ h' => ⟨by rw [← h]; exact h'.1, h'.2.symm⟩
end Go.Proofs.Ytcffabfaefbjcaa
