/-
  request.Read: what stands in memory on its way, and what it tells, in plain words (chapter 08).
-/
import Derived.Test.YtcffabfaefbjcaaReqCatch
namespace Go.Proofs.Ytcffabfaefbjcaa
set_option linter.unusedVariables false
open Go.RowKit
def Rq.set (q : Rq) (f : Nat) (n : Int) : Rq := match f with
  | 0 => { q with t := n }
  | 1 => { q with y := n }
  | 2 => { q with v := n }
  | 3 => { q with p := n }
  | 4 => { q with f := n }
  | _ => { q with o := n }
theorem Rq.set_cells (q : Rq) (f : Nat) (n : Int) (hf : f < 6) : q.cells.setIfInBounds (f + 1) (.int .i64 n) = (q.set f n).cells := by
  match f, hf with
  | 0, _ | 1, _ | 2, _ | 3, _ | 4, _ | 5, _ => rfl
theorem Rq.set_num (q : Rq) (f g : Nat) (n : Int) : (q.set f n).num g = n ∨ (q.set f n).num g = q.num g := by
  match f, g with
  | 0, 0 | 1, 1 | 2, 2 | 3, 3 | 4, 4 => exact .inl rfl
  | 0, 1 | 0, 2 | 0, 3 | 0, 4 | 1, 0 | 1, 2 | 1, 3 | 1, 4 | 2, 0 | 2, 1 | 2, 3 | 2, 4 | 3, 0 | 3, 1 | 3, 2 | 3, 4 | 4, 0 | 4, 1 | 4, 2 | 4, 3 => exact .inr rfl
  | 0, n + 5 | 1, n + 5 | 2, n + 5 | 3, n + 5 | 4, n + 5 => exact .inr rfl
  | m + 5, 0 | m + 5, 1 | m + 5, 2 | m + 5, 3 | m + 5, 4 => exact .inr rfl
  | m + 5, n + 5 => exact .inl rfl
theorem Rq.set_k (q : Rq) (f : Nat) (n : Int) : (q.set f n).k = q.k := by
  match f with
  | 0 | 1 | 2 | 3 | 4 => rfl
  | n + 5 => rfl
/-- reading the fields, one by one -/
def rdLoop (l : List Nat) : List Nat → Rq → Int → Option (Rq × Int)
  | [], q, a => some (q, a)
  | f :: fs, q, a => if getE l.length a (wd f) = 0 then rdLoop l fs (q.set f (q.num f + getV l a (wd f))) (a + wd f) else none
def rdStart (k : Int) : Rq := { zrq with k := k, o := if (fieldsOf k).getLast? = some 5 then -1 else 0 }
/-- behind the fields -/
def rdEnd (l : List Nat) : Option (Rq × Int) → Rq × Int
  | none => (zrq, 50)
  | some (q, a) => if a < l.length then (zrq, 50) else if wrongE q = 0 then (q, 0) else (zrq, wrongE q)
/-- what Read tells: a request, or none and what is wrong -/
def rdQ (l : List Nat) : Rq × Int :=
  if getE l.length 0 1 = 0 then
    if 9 < getV l 0 1 then (zrq, 50) else
    rdEnd l (rdLoop l (fieldsOf (getV l 0 1)) (rdStart (getV l 0 1)) 1)
  else (zrq, 50)
/-- on the way: the request, the error number, the reader -/
structure RdW (w wr : World) (v0 : Value) (q : Rq) (a : Int) : Prop where
  qh : wr.heap[w.heap.size]? = some (.cells q.cells 34 (0, 0))
  eh : wr.heap[w.heap.size + 1]? = some (.cells #[.int .i64 0] 22 (0, 0))
  rh : wr.heap[w.heap.size + 1 + 1]? = some (.cells #[v0, .int .i64 a] 79 (0, 0))
  below : Below w.heap.size w wr
theorem RdW.lt {w wr : World} {v0 : Value} {q : Rq} {a : Int} (h : RdW w wr v0 q a) : w.heap.size + 1 + 1 < wr.heap.size := (Array.getElem?_eq_some_iff.1 h.rh).1
theorem RdW.later {w wr x : World} {v0 : Value} {q : Rq} {a : Int} (h : RdW w wr v0 q a) (hb : Below wr.heap.size wr x) : RdW w x v0 q a := by
  have := h.lt
  refine ⟨?_, ?_, ?_, h.below.trans (hb.mono (by omega))⟩
  · rw [hb.block _ (by omega)]; exact h.qh
  · rw [hb.block _ (by omega)]; exact h.eh
  · rw [hb.block _ (by omega)]; exact h.rh
theorem RdW.drewN {w wr : World} {v0 : Value} {q : Rq} {a : Int} (h : RdW w wr v0 q a) (n : Nat) : RdW w (wr.drewN n) v0 q a := ⟨h.qh, h.eh, h.rh, below_drewN h.below n⟩
theorem RdW.at' {w wr : World} {v0 : Value} {q : Rq} {a b : Int} (h : RdW w wr v0 q a) : RdW w (wr.setCell ⟨w.heap.size + 1 + 1, 1, none⟩ (.int .i64 b)) v0 q b := by
  refine ⟨?_, ?_, ?_, h.below.setCell (by show w.heap.size ≤ w.heap.size + 1 + 1; omega) _⟩
  · rw [heap_setCell_other _ _ _ _ (by show w.heap.size ≠ w.heap.size + 1 + 1; omega)]; exact h.qh
  · rw [heap_setCell_other _ _ _ _ (by show w.heap.size + 1 ≠ w.heap.size + 1 + 1; omega)]; exact h.eh
  · exact heap_setCell_same _ _ 1 _ _ _ h.rh
theorem RdW.setC {w wr : World} {v0 : Value} {q q' : Rq} {a : Int} (h : RdW w wr v0 q a) (i : Nat) (x : Value) (hq : q.cells.setIfInBounds i x = q'.cells) : RdW w (wr.setCell ⟨w.heap.size, i, none⟩ x) v0 q' a := by
  refine ⟨?_, ?_, ?_, h.below.setCell (Nat.le_refl _) _⟩
  · rw [heap_setCell_same _ _ i _ _ _ h.qh, hq]
  · rw [heap_setCell_other _ _ _ _ (by show w.heap.size + 1 ≠ w.heap.size; omega)]; exact h.eh
  · rw [heap_setCell_other _ _ _ _ (by show w.heap.size + 1 + 1 ≠ w.heap.size; omega)]; exact h.rh
theorem RdW.set {w wr : World} {v0 : Value} {q : Rq} {a : Int} (h : RdW w wr v0 q a) (f : Nat) (hf : f < 6) (n : Int) : RdW w (wr.setCell ⟨w.heap.size, f + 1, none⟩ (.int .i64 n)) v0 (q.set f n) a :=
  h.setC _ _ (q.set_cells f n hf)
theorem RdW.num {w wr : World} {v0 : Value} {q : Rq} {a : Int} (h : RdW w wr v0 q a) (f : Nat) (hf : f < 6) : wr.cell? ⟨w.heap.size, f + 1, none⟩ = some (.int .i64 (q.num f)) := by
  rw [cell_of_row _ _ _ _ _ _ h.qh]; exact q.cell f hf
theorem RdW.start (w : World) (v0 : Value) : RdW w (((w.alloc (.cells zrq.cells 34)).alloc (.cells #[.int .i64 0] 22)).alloc (.cells #[v0, .int .i64 0] 79)) v0 zrq 0 := by
  refine ⟨?_, ?_, ?_, (((Below.refl _ _).alloc (Nat.le_refl _) _).alloc (by simp) _).alloc (by simp; omega) _⟩
  · rw [heap_alloc_old _ _ (by simp; omega), heap_alloc_old _ _ (by simp)]; exact heap_alloc_new _ _
  · rw [heap_alloc_old _ _ (by simp)]
    have := heap_alloc_new (w.alloc (.cells zrq.cells 34)) (.cells #[.int .i64 0] 22)
    simpa using this
  · have := heap_alloc_new ((w.alloc (.cells zrq.cells 34)).alloc (.cells #[.int .i64 0] 22)) (.cells #[v0, .int .i64 0] 79)
    simpa using this
theorem RdW.setE {w wr : World} {v0 : Value} {q : Rq} {a : Int} (h : RdW w wr v0 q a) : RdW w (wr.setCell ⟨w.heap.size + 1, 0, none⟩ (.int .i64 0)) v0 q a := by
  refine ⟨?_, ?_, ?_, h.below.setCell (by show w.heap.size ≤ w.heap.size + 1; omega) _⟩
  · rw [heap_setCell_other _ _ _ _ (by show w.heap.size ≠ w.heap.size + 1; omega)]; exact h.qh
  · exact heap_setCell_same _ _ 0 _ _ _ h.eh
  · rw [heap_setCell_other _ _ _ _ (by show w.heap.size + 1 + 1 ≠ w.heap.size + 1; omega)]; exact h.rh
/-- the return's own stores -/
theorem RdW.ret {w wr : World} {v0 : Value} {q : Rq} {a : Int} (h : RdW w wr v0 q a) :
    RdW w ((((((((wr.setCell ⟨w.heap.size, 0, none⟩ (.int .i8 q.k)).setCell ⟨w.heap.size, 1, none⟩ (.int .i64 q.t)).setCell ⟨w.heap.size, 2, none⟩ (.int .i64 q.y)).setCell ⟨w.heap.size, 3, none⟩ (.int .i64 q.v)).setCell ⟨w.heap.size, 4, none⟩ (.int .i64 q.p)).setCell ⟨w.heap.size, 5, none⟩ (.int .i64 q.f)).setCell ⟨w.heap.size, 6, none⟩ (.int .i64 q.o)).setCell ⟨w.heap.size + 1, 0, none⟩ (.int .i64 0)) v0 q a :=
  (((((((h.setC 0 _ rfl).setC 1 _ rfl).setC 2 _ rfl).setC 3 _ rfl).setC 4 _ rfl).setC 5 _ rfl).setC 6 _ rfl).setE
def RPost (q : Rq) (E : Int) (w : World) (e : Ending) (w' : World) : Prop := e = .returned (.tuple #[.agg q.cells, .int .i64 E]) ∧ Below w.heap.size w w'
/-- the end by a panic -/
theorem read_panic {w wr : World} {v0 : Value} {q : Rq} {a : Int} (h : RdW w wr v0 q a) (E : Int) (t : Array Value) (ht : t.getD 2 undef = .pointer (some ⟨w.heap.size, 0, none⟩) ∧ t.getD 3 undef = .pointer (some ⟨w.heap.size + 1, 0, none⟩)) :
    bodyPostD Try.prog Try.f35 (RPost zrq E w) (Exit.panic [{ v := .iface 22 (.int .i64 E), recovered := false }])
      { tmps := t, defers := [{ target := Target.fn (Fn.func 59) #[.pointer (some ⟨w.heap.size, 0, none⟩), .pointer (some ⟨w.heap.size + 1, 0, none⟩)], args := #[] }] } wr := by
  have hc := caught_heap (E := E) (by omega) h.qh h.eh
  have c : ∀ i, (caught w.heap.size (w.heap.size + 1) E wr).cell? ⟨w.heap.size, i, none⟩ = zrq.cells[i]? := fun i => cell_of_row _ _ _ _ _ _ hc.1
  have c0 := c 0
  have c1 := c 1
  have c2 := c 2
  have c3 := c 3
  have c4 := c 4
  have c5 := c 5
  have c6 := c 6
  have ce : (caught w.heap.size (w.heap.size + 1) E wr).cell? ⟨w.heap.size + 1, 0, none⟩ = some (.int .i64 E) := by rw [cell_of_row _ _ _ _ _ _ hc.2.1]; rfl
  have hbl := h.below.trans (hc.2.2 w.heap.size (Nat.le_refl _) (by omega))
  refine leaves_cons (f := 59) (args := #[.pointer (some ⟨w.heap.size, 0, none⟩), .pointer (some ⟨w.heap.size + 1, 0, none⟩)]) (by simp) (by simp [go_sem]) ?_
  refine (catch_panic w.heap.size (w.heap.size + 1) q _ E [] wr (by omega) h.qh h.eh).mono ?_
  rintro e u' w'' ⟨rfl, rfl, rfl⟩
  simp only [zrq, Rq.cells] at c0 c1 c2 c3 c4 c5 c6
  have h2 := ht.1
  have h3 := ht.2
  simp at h2 h3
  simp [Leaves, settle, results, Try.results35, go_sem, h2, h3, c0, c1, c2, c3, c4, c5, c6, ce]
  exact ⟨rfl, hbl⟩
end Go.Proofs.Ytcffabfaefbjcaa
