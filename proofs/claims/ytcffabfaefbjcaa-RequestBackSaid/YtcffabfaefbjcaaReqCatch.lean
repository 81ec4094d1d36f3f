/-
  The call that request.Read defers (chapter 08): of a frame that panics with an error number, of a frame that returns.
-/
import Derived.Test.YtcffabfaefbjcaaReqTake
import Derived.Tactics
import Derived.Tactics2
import Derived.Defers
import Derived.Recover
import Derived.Laws.Pointers
namespace Go.Proofs.Ytcffabfaefbjcaa
set_option linter.unusedVariables false
open Go.RowKit
def zrq : Rq := ⟨0, 0, 0, 0, 0, 0, 0⟩
theorem ta_nil (w : World) : (Instr.typeAssert .nilIface 20 22 true).run Try.prog w = .ok (.tuple #[.int .i64 0, .bool false]) w := by kernel_rfl
theorem ta_errno (E : Int) (w : World) : (Instr.typeAssert (.iface 22 (.int .i64 E)) 20 22 true).run Try.prog w = .ok (.tuple #[.int .i64 E, .bool true]) w := by kernel_rfl
theorem catch_idle (p q : Addr) (w : World) :
    CallsD Try.prog 59 #[.pointer (some p), .pointer (some q)] .returning w fun e u' w' => e = .returned (.tuple #[]) ∧ u' = .returning ∧ w' = w := by
  refine callsD_of_wpS Try.func59 rfl fun c₀ cs hu => ?_
  apply wpS_seq
  apply wpS_region
  simp [wpOpsS, go_sem, recoverD, hu, Try.ntmps59, Exit.thenS, ta_nil]
  apply wpS_seq
  apply wpS_region
  simp [wpOpsS, go_sem, Exit.thenS]
  refine wpS_cond (t := false) (by simp [Act.eval, Array.replicate]) ?_
  simp only [Bool.false_eq_true, if_false]
  refine wpS_of_wp (wp_skip ?_)
  cases c₀
  simp_all [bodyPostS, results, Try.results59]
/-- the cells that a request and its error number are laid to when the call ends by a panic -/
def caught (qb eb : Nat) (E : Int) (w : World) : World :=
  (((((((w.setCell ⟨qb, 0, none⟩ (.int .i8 0)).setCell ⟨qb, 1, none⟩ (.int .i64 0)).setCell ⟨qb, 2, none⟩ (.int .i64 0)).setCell ⟨qb, 3, none⟩ (.int .i64 0)).setCell ⟨qb, 4, none⟩ (.int .i64 0)).setCell ⟨qb, 5, none⟩ (.int .i64 0)).setCell ⟨qb, 6, none⟩ (.int .i64 0)).setCell ⟨eb, 0, none⟩ (.int .i64 E)
theorem caught_heap {qb eb : Nat} {E : Int} {w : World} {r : Rq} {x0 : Value} (hne : eb ≠ qb) (hq : w.heap[qb]? = some (.cells r.cells 34 (0, 0))) (he : w.heap[eb]? = some (.cells #[x0] 22 (0, 0))) :
    (caught qb eb E w).heap[qb]? = some (.cells zrq.cells 34 (0, 0)) ∧ (caught qb eb E w).heap[eb]? = some (.cells #[.int .i64 E] 22 (0, 0)) ∧ ∀ B, B ≤ qb → B ≤ eb → Below B w (caught qb eb E w) := by
  have q0 := heap_setCell_same w qb 0 _ _ (.int .i8 0) hq
  have q1 := heap_setCell_same _ qb 1 _ _ (.int .i64 0) q0
  have q2 := heap_setCell_same _ qb 2 _ _ (.int .i64 0) q1
  have q3 := heap_setCell_same _ qb 3 _ _ (.int .i64 0) q2
  have q4 := heap_setCell_same _ qb 4 _ _ (.int .i64 0) q3
  have q5 := heap_setCell_same _ qb 5 _ _ (.int .i64 0) q4
  have q6 := heap_setCell_same _ qb 6 _ _ (.int .i64 0) q5
  unfold caught
  refine ⟨?_, ?_, fun B h1 h2 => ?_⟩
  · rw [heap_setCell_other _ _ _ _ (by show qb ≠ eb; omega), q6]; rfl
  · refine heap_setCell_same _ eb 0 #[x0] 22 (.int .i64 E) ?_
    repeat rw [heap_setCell_other _ _ _ _ (by show eb ≠ qb; exact hne)]
    exact he
  · exact ((((((((Below.refl _ _).setCell (p := ⟨qb, 0, none⟩) h1 _).setCell (p := ⟨qb, 1, none⟩) h1 _).setCell (p := ⟨qb, 2, none⟩) h1 _).setCell (p := ⟨qb, 3, none⟩) h1 _).setCell (p := ⟨qb, 4, none⟩) h1 _).setCell (p := ⟨qb, 5, none⟩) h1 _).setCell (p := ⟨qb, 6, none⟩) h1 _).setCell (p := ⟨eb, 0, none⟩) h2 _
theorem catch_panic (qb eb : Nat) (r : Rq) (x0 : Value) (E : Int) (older : List PanicEntry) (w : World) (hne : eb ≠ qb) (hq : w.heap[qb]? = some (.cells r.cells 34 (0, 0))) (he : w.heap[eb]? = some (.cells #[x0] 22 (0, 0))) :
    CallsD Try.prog 59 #[.pointer (some ⟨qb, 0, none⟩), .pointer (some ⟨eb, 0, none⟩)] (.panicking ({ v := .iface 22 (.int .i64 E), recovered := false } :: older)) w fun e u' w' =>
      e = .returned (.tuple #[]) ∧ u' = .panicking ({ v := .iface 22 (.int .i64 E), recovered := true } :: older) ∧ w' = caught qb eb E w := by
  have c0 : w.cell? ⟨qb, 0, none⟩ = some (.int .i8 r.k) := by rw [cell_of_row _ _ _ _ _ _ hq]; rfl
  have c1 : w.cell? ⟨qb, 1, none⟩ = some (.int .i64 r.t) := by rw [cell_of_row _ _ _ _ _ _ hq]; rfl
  have c2 : w.cell? ⟨qb, 2, none⟩ = some (.int .i64 r.y) := by rw [cell_of_row _ _ _ _ _ _ hq]; rfl
  have c3 : w.cell? ⟨qb, 3, none⟩ = some (.int .i64 r.v) := by rw [cell_of_row _ _ _ _ _ _ hq]; rfl
  have c4 : w.cell? ⟨qb, 4, none⟩ = some (.int .i64 r.p) := by rw [cell_of_row _ _ _ _ _ _ hq]; rfl
  have c5 : w.cell? ⟨qb, 5, none⟩ = some (.int .i64 r.f) := by rw [cell_of_row _ _ _ _ _ _ hq]; rfl
  have c6 : w.cell? ⟨qb, 6, none⟩ = some (.int .i64 r.o) := by rw [cell_of_row _ _ _ _ _ _ hq]; rfl
  have ce : w.cell? ⟨eb, 0, none⟩ = some x0 := by rw [cell_of_row _ _ _ _ _ _ he]; rfl
  have fq := fun i => frozen_of_row _ _ i _ _ hq
  have fe := frozen_of_row _ _ 0 _ _ he
  refine callsD_of_wpS Try.func59 rfl fun c₀ cs hu => ?_
  apply wpS_seq
  apply wpS_region
  simp [wpOpsS, go_sem, recoverD, hu, Try.ntmps59, Exit.thenS, ta_errno]
  apply wpS_seq
  apply wpS_region
  simp [wpOpsS, go_sem, Exit.thenS]
  refine wpS_cond (t := true) (by simp [Act.eval, Array.replicate]) ?_
  simp only [if_true]
  apply wpS_region
  simp [wpOpsS, go_sem, c0, c1, c2, c3, c4, c5, c6, ce, fq, fe, hne, bodyPostS, results, Try.results59]
  rfl
end Go.Proofs.Ytcffabfaefbjcaa
