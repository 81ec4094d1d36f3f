/-
  Operations of a region that draws, on frames and actions (chapter 14).
-/
import Derived.Test.YtgpdknacnmapiaaAl1
namespace Go.Proofs.Ytgpdknacnmapiaa
set_option linter.unusedVariables false
set_option linter.unusedSimpArgs false
open Go.RowKit
section
variable {o : Oper} {a : Act} {w : World} {K : Act → World → Prop} {Q : Exit → Act → World → Prop}
theorem wpO_ldf (x : Operand) (ho : o.op = .load 57 x) (d : Tmp) (hd : o.dst = some d) (b : Nat) (hx : a.eval x = .pointer (some ⟨b, 0, none⟩)) (f : Fr) (hr : w.rangeAt b 0 f.cells.toList) (h : K (a.put (some d) (.agg f.cells)) w) : o.wp Try.prog a w K Q := by
  obtain ⟨fs, hu⟩ := und57
  exact wp_load_mid 57 x ho b 0 hx f.cells.toList (.struct fs) hr hu rfl (by rw [inf57]; simp [Fr.size]) (by rw [hd]; simpa using h)
theorem wpO_ldp (x : Operand) (ho : o.op = .load 95 x) (d : Tmp) (hd : o.dst = some d) (b : Nat) (hx : a.eval x = .pointer (some ⟨b, 0, none⟩)) (f : Fr) (y : Int) (hr : HB w b (pgC f y) 95) (h : K (a.put (some d) (.agg (pgC f y))) w) : o.wp Try.prog a w K Q := by
  obtain ⟨fs, hu⟩ := und95
  exact wp_load_mid 95 x ho b 0 hx (pgC f y).toList (.struct fs) hr.range hu rfl (by rw [inf95]; simp [pgC_size]) (by rw [hd]; simpa using h)
theorem wpO_st1 {w0 : World} {N : Nat} {C0 C2 : Array Value} {t0 : TypeId} {f0 : Fr} (HT : Hid (T3 w0 w N C0 t0 f0.cells C2)) (x y : Operand) (ho : o.op = .store 57 x y) (hd : o.dst = none) (f : Fr) (hx : a.eval x = .pointer (some ⟨N + 1, 0, none⟩)) (hy : a.eval y = .agg f.cells)
    (h : ∀ W, (∀ b, N + 1 + 1 < b → W.heap[b]? = w.heap[b]?) → T3 w0 W N C0 t0 f.cells C2 → K a W) : o.wp Try.prog a w K Q :=
  wp_store_row 57 x y ho (N + 1) f.cells hx hy 57 f0.cells HT.out.b1 (by rw [inf57, Fr.size]) (by rw [Fr.size, Fr.size]) f.one (by rw [hd]; exact h _ (fun b hb => setRow_other _ _ _ _ (by omega)) (HT.out.row1 f.cells))
theorem wpO_st2 {w0 : World} {N : Nat} {C0 C1 : Array Value} {t0 : TypeId} (HT : Hid (T3 w0 w N C0 t0 C1 acZ)) (x y : Operand) (ho : o.op = .store 59 x y) (hd : o.dst = none) (k1 k2 k3 k4 k5 : Int) (ao : Option Addr) (n c : Nat) (hx : a.eval x = .pointer (some ⟨N + 1 + 1, 0, none⟩)) (hy : a.eval y = .agg (acC k1 k2 k3 k4 k5 (.slice ao n c)))
    (h : ∀ W, (∀ b, N + 1 + 1 < b → W.heap[b]? = w.heap[b]?) → T3 w0 W N C0 t0 C1 (acC k1 k2 k3 k4 k5 (.slice ao n c)) → K a W) : o.wp Try.prog a w K Q :=
  wp_store_row 59 x y ho (N + 1 + 1) _ hx hy 59 acZ HT.out.b2 (by rw [inf59]; rfl) rfl (acC_one _ _ _ _ _ _ _ _) (by rw [hd]; exact h _ (fun b hb => setRow_other _ _ _ _ (by omega)) (HT.out.row2 _))
end
theorem T3.drew {w W : World} {N : Nat} {C0 : Array Value} {t0 : TypeId} {C1 C2 : Array Value} (h : T3 w W N C0 t0 C1 C2) : T3 w W.drew N C0 t0 C1 C2 := h.below ⟨rfl, rfl, rfl, Nat.le_refl _, fun _ _ => rfl⟩
end Go.Proofs.Ytgpdknacnmapiaa
