/-
  Parts of a proof, put together: Nl.
-/
import Derived.Test.YtgpdknacnmapiaaZj01
import Derived.Test.YtgpdknacnmapiaaZj02
import Derived.Test.YtgpdknacnmapiaaZj03
import Derived.Test.YtgpdknacnmapiaaZj04
import Derived.Test.YtgpdknacnmapiaaZj05
import Derived.Test.YtgpdknacnmapiaaZj06
import Derived.Test.YtgpdknacnmapiaaZj07
namespace Go.Proofs.Ytgpdknacnmapiaa
set_option linter.unusedVariables false
set_option linter.unusedSimpArgs false
open Go.RowKit
set_option maxRecDepth 100000 in
theorem build95 (f : Fr) (w : World) : (Instr.build 95 #[(0, .agg f.cells)]).run Try.prog w = .ok (.agg (pgC f 0)) w := by kernel_rfl
set_option maxRecDepth 100000 in
theorem zer95 (w : World) : (zeroValue 95).run Try.prog w = .ok (.agg (pgC Fr.zero 0)) w := by kernel_rfl
theorem pgC_one (f : Fr) (x : Int) : (pgC f x).all (·.oneCell') = true := by
  unfold pgC
  rw [Array.all_push, f.one]; rfl
section
variable {ops : Array Oper} {rest : List Oper} {o : Oper} {a : Act} {w : World} {Q : Exit → Act → World → Prop}
/-- a program's variable is made -/
theorem wp_al95 (hg : o.guard = none) (ho : o.op = .alloc 95) (h : ∀ W, Below w.heap.size w W → HB W w.heap.size (pgC Fr.zero 0) 95 → W.heap.size = w.heap.size + 1 → wpList Try.prog ops Q rest (a.put o.dst (.pointer (some ⟨w.heap.size, 0, none⟩))) W) : wpList Try.prog ops Q (o :: rest) a w := by
  refine wpList_plain hg fun K hK => ?_
  unfold Oper.wp execOp
  simp only [ho]
  have hz := zer95 w
  simp [Instr.alloc, newVar, newRow, hz, Sem.run_bind, Value.cells]
  exact hK _ _ (h _ ((Below.refl _ _).alloc (Nat.le_refl _) _) (heap_alloc_new _ _) (by simp))
/-- a program is built around a frame -/
theorem wp_bl95 (hg : o.guard = none) (x : Operand) (ho : o.op = .build 95 #[(0, x)]) (f : Fr) (hx : a.eval x = .agg f.cells) (h : wpList Try.prog ops Q rest (a.put o.dst (.agg (pgC f 0))) w) : wpList Try.prog ops Q (o :: rest) a w := by
  refine wpList_plain hg fun K hK => ?_
  unfold Oper.wp execOp
  simp only [ho]
  have hz := build95 f w
  simp [hx, hz, Sem.run_bind]
  exact hK _ _ h
theorem wp_st95 (hg : o.guard = none) (x y : Operand) (ho : o.op = .store 95 x y) (b : Nat) (f : Fr) (z : Int) (hx : a.eval x = .pointer (some ⟨b, 0, none⟩)) (hy : a.eval y = .agg (pgC f z)) (f0 : Fr) (z0 : Int) (hb : HB w b (pgC f0 z0) 95)
    (h : ∀ W, (∀ B, B ≤ b → Below B w W) → HB W b (pgC f z) 95 → wpList Try.prog ops Q rest (a.put o.dst undef) W) : wpList Try.prog ops Q (o :: rest) a w :=
  wpList_store_row hg 95 x y ho b (pgC f z) hx hy 95 _ hb (by rw [inf95, pgC_size]) (by rw [pgC_size, pgC_size]) (pgC_one f z) (h _ (fun B hB => below_row (Below.refl _ _) _ hB _) (setRow_heap _ _ _ _ _ _ hb))
theorem pgC_set98 (f : Fr) (x y : Int) : (pgC f x).setIfInBounds 98 (.int .i64 y) = pgC f y := by
  apply Array.ext_getElem?
  intro j
  unfold pgC
  simp only [Array.getElem?_setIfInBounds, Array.getElem?_push, Array.size_push, Fr.size]
  by_cases h1 : 98 = j
  · subst h1; rw [if_pos rfl, if_pos (by omega), if_pos rfl]
  · rw [if_neg h1, if_neg (fun e => h1 e.symm), if_neg (fun e => h1 e.symm)]
/-- what came is put into a program -/
theorem wp_setx (hg : o.guard = none) (x y : Operand) (ho : o.op = .store 3 x y) (b : Nat) (f : Fr) (z v : Int) (hb : HB w b (pgC f z) 95) (hx : a.eval x = .pointer (some ⟨b, 98, none⟩)) (hy : a.eval y = .int .i64 v)
    (h : ∀ W, (∀ B, B ≤ b → Below B w W) → HB W b (pgC f v) 95 → wpList Try.prog ops Q rest (a.put o.dst undef) W) : wpList Try.prog ops Q (o :: rest) a w := by
  refine wpList_plain hg fun K hK => ?_
  have hc := hb.cell (pgC_x f z)
  have hf : w.frozen? ⟨b, 98, none⟩ = false := hb.fro
  unfold Oper.wp execOp
  simp only [ho, hx, hy]
  simp [go_sem, hc, hf, Instr.storeAt, storeVar, Try.sizeOf3]
  exact hK _ _ (h _ (fun B hB => below_set (Below.refl _ _) _ hB _) (by rw [← pgC_set98 f z v]; exact Go.heap_setCell_same _ _ _ _ _ _ hb))
end
theorem T3.kept {w W W' : World} {N : Nat} {C0 : Array Value} {t0 : TypeId} {C1 C2 : Array Value} (h : T3 w W N C0 t0 C1 C2) {B : Nat} (hB : N + 1 + 1 < B) (hb : Below B W W') : T3 w W' N C0 t0 C1 C2 := by
  have l : ∀ {b C t}, b < B → HB W b C t → HB W' b C t := fun {b C t} hl hh => by unfold HB at *; rw [hb.block b hl]; exact hh
  exact ⟨h.bel.trans (hb.mono (by have := h.n; omega)), h.n, l (by omega) h.b0, l (by omega) h.b1, l hB h.b2⟩
theorem inf98 : (Try.prog.info? 98).map (·.size) = some 3 := by kernel_rfl
theorem inf99 : (Try.prog.info? 99).map (·.size) = some 2 := by kernel_rfl
theorem zer98 (w : World) : (zeroValue 98).run Try.prog w = .ok (.agg #[.nilFunc, .nilFunc, .nilFunc]) w := by kernel_rfl
theorem zer99 (w : World) : (zeroValue 99).run Try.prog w = .ok (.agg #[.nilFunc, .nilFunc]) w := by kernel_rfl
def loads : Array Value := #[.func (.func 43) #[] #[], .func (.func 44) #[] #[], .func (.func 45) #[] #[]]
def frees : Array Value := #[.func (.func 46) #[] #[], .func (.func 47) #[] #[]]
section
variable {ops : Array Oper} {rest : List Oper} {o : Oper} {a : Act} {w : World} {Q : Exit → Act → World → Prop}
theorem wp_al98 (hg : o.guard = none) (ho : o.op = .alloc 98) (h : ∀ W, Below w.heap.size w W → HB W w.heap.size #[.nilFunc, .nilFunc, .nilFunc] 98 → wpList Try.prog ops Q rest (a.put o.dst (.pointer (some ⟨w.heap.size, 0, none⟩))) W) : wpList Try.prog ops Q (o :: rest) a w := by
  refine wpList_plain hg fun K hK => ?_
  unfold Oper.wp execOp
  simp only [ho]
  have hz := zer98 w
  simp [Instr.alloc, newVar, newRow, hz, Sem.run_bind, Value.cells]
  exact hK _ _ (h _ ((Below.refl _ _).alloc (Nat.le_refl _) _) (heap_alloc_new _ _))
theorem wp_al99 (hg : o.guard = none) (ho : o.op = .alloc 99) (h : ∀ W, Below w.heap.size w W → HB W w.heap.size #[.nilFunc, .nilFunc] 99 → wpList Try.prog ops Q rest (a.put o.dst (.pointer (some ⟨w.heap.size, 0, none⟩))) W) : wpList Try.prog ops Q (o :: rest) a w := by
  refine wpList_plain hg fun K hK => ?_
  unfold Oper.wp execOp
  simp only [ho]
  have hz := zer99 w
  simp [Instr.alloc, newVar, newRow, hz, Sem.run_bind, Value.cells]
  exact hK _ _ (h _ ((Below.refl _ _).alloc (Nat.le_refl _) _) (heap_alloc_new _ _))
theorem wp_st98 (hg : o.guard = none) (x y : Operand) (ho : o.op = .store 98 x y) (b : Nat) (hx : a.eval x = .pointer (some ⟨b, 0, none⟩)) (hy : a.eval y = .agg loads) (hb : HB w b #[.nilFunc, .nilFunc, .nilFunc] 98)
    (h : ∀ W, (∀ B, B ≤ b → Below B w W) → HB W b loads 98 → wpList Try.prog ops Q rest (a.put o.dst undef) W) : wpList Try.prog ops Q (o :: rest) a w :=
  wpList_store_row hg 98 x y ho b loads hx hy 98 _ hb (by rw [inf98]; rfl) rfl (by simp [loads, Value.oneCell']) (h _ (fun B hB => below_row (Below.refl _ _) _ hB _) (setRow_heap _ _ _ _ _ _ hb))
theorem wp_st99 (hg : o.guard = none) (x y : Operand) (ho : o.op = .store 99 x y) (b : Nat) (hx : a.eval x = .pointer (some ⟨b, 0, none⟩)) (hy : a.eval y = .agg frees) (hb : HB w b #[.nilFunc, .nilFunc] 99)
    (h : ∀ W, (∀ B, B ≤ b → Below B w W) → HB W b frees 99 → wpList Try.prog ops Q rest (a.put o.dst undef) W) : wpList Try.prog ops Q (o :: rest) a w :=
  wpList_store_row hg 99 x y ho b frees hx hy 99 _ hb (by rw [inf99]; rfl) rfl (by simp [frees, Value.oneCell']) (h _ (fun B hB => below_row (Below.refl _ _) _ hB _) (setRow_heap _ _ _ _ _ _ hb))
end
theorem HB.below {w w' : World} {b : Nat} {C : Array Value} {t : TypeId} (h : HB w b C t) (hb : Below w.heap.size w w') : HB w' b C t := by
  unfold HB at *; rw [hb.block b (Array.getElem?_eq_some_iff.1 h).1]; exact h
theorem HB.kept {w w' : World} {b B : Nat} {C : Array Value} {t : TypeId} (h : HB w b C t) (hB : b < B) (hb : Below B w w') : HB w' b C t := by
  unfold HB at *; rw [hb.block b hB]; exact h
theorem HB.lt {w : World} {b : Nat} {C : Array Value} {t : TypeId} (h : HB w b C t) : b < w.heap.size := (Array.getElem?_eq_some_iff.1 h).1
end Go.Proofs.Ytgpdknacnmapiaa
