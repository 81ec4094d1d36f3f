/-
  Parts of a proof, put together: Fr, Tk0, Tk2.
-/
import Derived.Test.YtgpdknacnmapiaaZj01
import Derived.Test.YtgpdknacnmapiaaZj02
import Derived.Deep.MidRow
import Derived.Laws.Rows
import Derived.Laws.Tables
import Derived.Deep.QuietTactic
namespace Go.Proofs.Ytgpdknacnmapiaa
set_option linter.unusedVariables false
set_option linter.unusedSimpArgs false
open Go.RowKit
/-- a frame: the program, the step, the registers -/
structure Fr where
  pg : Int
  st : Int
  r : Nat → Int
def Fr.cells (f : Fr) : Array Value := #[.int .i8 f.pg, .int .i64 f.st] ++ (Array.range 96).map fun i => .int .i64 (f.r i)
def Fr.zero : Fr := ⟨0, 0, fun _ => 0⟩
def Fr.at_ (f : Fr) (s : Int) : Fr := { f with st := s }
def Fr.reg (f : Fr) (i : Nat) (v : Int) : Fr := { f with r := fun k => if k = i then v else f.r k }
/-- a program on its way, of slots -/
def pgC (f : Fr) (x : Int) : Array Value := f.cells.push (.int .i64 x)
/-- an action's cells -/
def acC (k a b v g : Int) (args : Value) : Array Value := #[.int .i8 k, .int .i64 a, .int .i64 b, .int .i64 v, .int .i64 g, .string ByteArray.empty, args]
theorem Fr.size (f : Fr) : f.cells.size = 98 := by simp [Fr.cells]
theorem pgC_size (f : Fr) (x : Int) : (pgC f x).size = 99 := by simp [pgC, Fr.size]
theorem Fr.c0 (f : Fr) : f.cells[0]? = some (.int .i8 f.pg) := by simp [Fr.cells]
theorem Fr.c1 (f : Fr) : f.cells[1]? = some (.int .i64 f.st) := by simp [Fr.cells]
theorem Fr.cr (f : Fr) (i : Nat) (h : i < 96) : f.cells[2 + i]? = some (.int .i64 (f.r i)) := by
  simp [Fr.cells, Array.getElem?_append, h]
theorem Fr.set1 (f : Fr) (s : Int) : f.cells.setIfInBounds 1 (.int .i64 s) = (f.at_ s).cells := by
  apply Array.ext_getElem?
  intro k
  rw [Array.getElem?_setIfInBounds]
  by_cases h : 1 = k
  · subst h; rw [if_pos rfl, if_pos (by rw [Fr.size]; omega), Fr.c1]; rfl
  · rw [if_neg h]
    by_cases hk : k < 98
    · by_cases h0 : k = 0
      · subst h0; rw [Fr.c0, Fr.c0]; rfl
      · obtain ⟨i, rfl⟩ : ∃ i, k = 2 + i := ⟨k - 2, by omega⟩
        rw [Fr.cr _ _ (by omega), Fr.cr _ _ (by omega)]; rfl
    · rw [Array.getElem?_eq_none (by rw [Fr.size]; omega), Array.getElem?_eq_none (by rw [Fr.size]; omega)]
theorem Fr.setr (f : Fr) (i : Nat) (hi : i < 96) (v : Int) : f.cells.setIfInBounds (2 + i) (.int .i64 v) = (f.reg i v).cells := by
  apply Array.ext_getElem?
  intro k
  rw [Array.getElem?_setIfInBounds]
  by_cases h : 2 + i = k
  · subst h; rw [if_pos rfl, if_pos (by rw [Fr.size]; omega), Fr.cr _ _ hi]; simp [Fr.reg]
  · rw [if_neg h]
    by_cases hk : k < 98
    · match k, h, hk with
      | 0, _, _ => rw [Fr.c0, Fr.c0]; rfl
      | 1, _, _ => rw [Fr.c1, Fr.c1]; rfl
      | k + 2, h, hk =>
        rw [show k + 2 = 2 + k by omega, Fr.cr _ _ (by omega), Fr.cr _ _ (by omega)]
        simp only [Fr.reg]; rw [if_neg (by omega)]
    · rw [Array.getElem?_eq_none (by rw [Fr.size]; omega), Array.getElem?_eq_none (by rw [Fr.size]; omega)]
theorem pgC_get (f : Fr) (x : Int) (k : Nat) (h : k < 98) : (pgC f x)[k]? = f.cells[k]? := by
  unfold pgC; rw [Array.getElem?_push, if_neg (by rw [Fr.size]; omega)]
theorem pgC_x (f : Fr) (x : Int) : (pgC f x)[98]? = some (.int .i64 x) := by
  unfold pgC; rw [Array.getElem?_push, if_pos (by rw [Fr.size])]
theorem pgC_set (f : Fr) (x : Int) (k : Nat) (h : k < 98) (v : Value) : (pgC f x).setIfInBounds k v = (f.cells.setIfInBounds k v).push (.int .i64 x) := by
  apply Array.ext_getElem?
  intro j
  unfold pgC
  simp only [Array.getElem?_setIfInBounds, Array.getElem?_push, Array.size_push, Array.size_setIfInBounds, Fr.size]
  by_cases h1 : k = j
  · subst h1; rw [if_pos rfl, if_pos (by omega), if_neg (by omega), if_pos rfl, if_pos (by omega)]
  · rw [if_neg h1, if_neg h1]
theorem pgC_set1 (f : Fr) (x s : Int) : (pgC f x).setIfInBounds 1 (.int .i64 s) = pgC (f.at_ s) x := by rw [pgC_set _ _ _ (by omega), Fr.set1]; rfl
theorem pgC_setr (f : Fr) (x : Int) (i : Nat) (hi : i < 96) (v : Int) : (pgC f x).setIfInBounds (2 + i) (.int .i64 v) = pgC (f.reg i v) x := by rw [pgC_set _ _ _ (by omega), Fr.setr _ _ hi]; rfl
theorem Fr.one (f : Fr) : f.cells.all (·.oneCell') = true := by
  rw [Array.all_eq_true_iff_forall_mem]
  intro v hv
  simp only [Fr.cells, Array.mem_append, Array.mem_map] at hv
  rcases hv with hv | ⟨i, _, rfl⟩
  · simp at hv; rcases hv with rfl | rfl <;> rfl
  · rfl
/-- a whole block -/
def HB (w : World) (b : Nat) (C : Array Value) (t : TypeId) : Prop := w.heap[b]? = some (.cells C t (0, 0))
theorem HB.cell {w : World} {b k : Nat} {C : Array Value} {t : TypeId} (h : HB w b C t) {v : Value} (hk : C[k]? = some v) : w.cell? ⟨b, k, none⟩ = some v := by
  rw [cell_of_row _ _ _ _ _ _ h]; exact hk
theorem HB.fro {w : World} {b k : Nat} {C : Array Value} {t : TypeId} (h : HB w b C t) : w.frozen? ⟨b, k, none⟩ = false := frozen_of_row _ _ _ _ _ h
/-- three blocks that a call began with, from N on -/
structure T3 (w W : World) (N : Nat) (C0 : Array Value) (t0 : TypeId) (C1 C2 : Array Value) : Prop where
  bel : Below w.heap.size w W
  n : w.heap.size = N
  b0 : HB W N C0 t0
  b1 : HB W (N + 1) C1 57
  b2 : HB W (N + 1 + 1) C2 59
theorem T3.start (w : World) (C0 : Array Value) (t0 : TypeId) (C1 C2 : Array Value) : T3 w (((w.alloc (.cells C0 t0)).alloc (.cells C1 57)).alloc (.cells C2 59)) w.heap.size C0 t0 C1 C2 := by
  have e1 : (w.alloc (.cells C0 t0)).heap.size = w.heap.size + 1 := by simp
  have e2 : ((w.alloc (.cells C0 t0)).alloc (.cells C1 57)).heap.size = w.heap.size + 1 + 1 := by simp
  refine ⟨(((Below.refl w.heap.size w).alloc (Nat.le_refl _) _).alloc (by simp) _).alloc (by simp; omega) _, rfl, ?_, ?_, ?_⟩
  · unfold HB; rw [heap_alloc_old _ _ (by rw [e2]; omega), heap_alloc_old _ _ (by rw [e1]; omega)]; exact heap_alloc_new _ _
  · unfold HB; rw [heap_alloc_old _ _ (by rw [e2]; omega), ← e1]; exact heap_alloc_new _ _
  · unfold HB; rw [← e2]; exact heap_alloc_new _ _
theorem T3.big {w W : World} {N : Nat} {C0 : Array Value} {t0 : TypeId} {C1 C2 : Array Value} (h : T3 w W N C0 t0 C1 C2) : N + 1 + 1 < W.heap.size := (Array.getElem?_eq_some_iff.1 h.b2).1
theorem T3.below {w W W' : World} {N : Nat} {C0 : Array Value} {t0 : TypeId} {C1 C2 : Array Value} (h : T3 w W N C0 t0 C1 C2) (hb : Below W.heap.size W W') : T3 w W' N C0 t0 C1 C2 := by
  have l : ∀ {b C t}, HB W b C t → HB W' b C t := fun {b C t} hh => by unfold HB at *; rw [hb.block b (Array.getElem?_eq_some_iff.1 hh).1]; exact hh
  exact ⟨h.bel.trans (hb.mono h.bel.size), h.n, l h.b0, l h.b1, l h.b2⟩
theorem below_set {B : Nat} {w W : World} (h : Below B w W) (a : Addr) (ha : B ≤ a.block) (v : Value) : Below B w (W.setCell a v) :=
  ⟨h.os, h.tape, h.output, by rw [World.size_setCell]; exact h.size, fun k hk => by rw [heap_setCell_other _ _ _ _ (by omega)]; exact h.block k hk⟩
theorem below_row {B : Nat} {w W : World} (h : Below B w W) (g : Nat) (hg : B ≤ g) (C : Array Value) : Below B w (W.setRow g C) :=
  ⟨h.os, h.tape, h.output, by simpa using h.size, fun k hk => by rw [setRow_other _ _ _ _ (by omega)]; exact h.block k hk⟩
theorem T3.set0 {w W : World} {N : Nat} {C0 : Array Value} {t0 : TypeId} {C1 C2 : Array Value} (h : T3 w W N C0 t0 C1 C2) (k : Nat) (v : Value) : T3 w (W.setCell ⟨N, k, none⟩ v) N (C0.setIfInBounds k v) t0 C1 C2 := by
  refine ⟨below_set h.bel _ (by have := h.n; simp; omega) v, h.n, ?_, ?_, ?_⟩
  · exact Go.heap_setCell_same _ _ _ _ _ _ h.b0
  · unfold HB; rw [heap_setCell_other _ _ _ _ (by simp)]; exact h.b1
  · unfold HB; rw [heap_setCell_other _ _ _ _ (by simp; omega)]; exact h.b2
theorem T3.row1 {w W : World} {N : Nat} {C0 : Array Value} {t0 : TypeId} {C1 C2 : Array Value} (h : T3 w W N C0 t0 C1 C2) (C : Array Value) : T3 w (W.setRow (N + 1) C) N C0 t0 C C2 := by
  refine ⟨below_row h.bel _ (by have := h.n; omega) C, h.n, ?_, setRow_heap _ _ _ _ _ _ h.b1, ?_⟩
  · unfold HB; rw [setRow_other _ _ _ _ (by omega)]; exact h.b0
  · unfold HB; rw [setRow_other _ _ _ _ (by omega)]; exact h.b2
theorem T3.row2 {w W : World} {N : Nat} {C0 : Array Value} {t0 : TypeId} {C1 C2 : Array Value} (h : T3 w W N C0 t0 C1 C2) (C : Array Value) : T3 w (W.setRow (N + 1 + 1) C) N C0 t0 C1 C := by
  refine ⟨below_row h.bel _ (by have := h.n; omega) C, h.n, ?_, ?_, setRow_heap _ _ _ _ _ _ h.b2⟩
  · unfold HB; rw [setRow_other _ _ _ _ (by omega)]; exact h.b0
  · unfold HB; rw [setRow_other _ _ _ _ (by omega)]; exact h.b1
theorem und57 : ∃ fs, Try.prog.underlying 57 = some (.struct fs) := ⟨_, Try.underlying57⟩
theorem und59 : ∃ fs, Try.prog.underlying 59 = some (.struct fs) := ⟨_, Try.underlying59⟩
theorem und95 : ∃ fs, Try.prog.underlying 95 = some (.struct fs) := ⟨_, Try.underlying95⟩
theorem inf57 : (Try.prog.info? 57).map (·.size) = some 98 := by kernel_rfl
theorem inf59 : (Try.prog.info? 59).map (·.size) = some 7 := by kernel_rfl
theorem inf95 : (Try.prog.info? 95).map (·.size) = some 99 := by kernel_rfl
theorem zer57 (w : World) : (zeroValue 57).run Try.prog w = .ok (.agg Fr.zero.cells) w := by kernel_rfl
section
variable {ops : Array Oper} {rest : List Oper} {o : Oper} {a : Act} {w : World} {Q : Exit → Act → World → Prop}
/-- a frame's variable is made -/
theorem wp_al57 (hg : o.guard = none) (ho : o.op = .alloc 57) (h : wpList Try.prog ops Q rest (a.put o.dst (.pointer (some ⟨w.heap.size, 0, none⟩))) (w.alloc (.cells Fr.zero.cells 57))) : wpList Try.prog ops Q (o :: rest) a w := by
  refine wpList_plain hg fun K hK => ?_
  unfold Oper.wp execOp
  simp only [ho]
  have hz := zer57 w
  simp [Instr.alloc, newVar, newRow, hz, Sem.run_bind, Value.cells]
  exact hK _ _ h
theorem HB.range {w : World} {b : Nat} {C : Array Value} {t : TypeId} (h : HB w b C t) : w.rangeAt b 0 C.toList := fun j v hv => by
  rw [Nat.zero_add]; exact h.cell (by simpa using hv)
theorem HB.frame {w : World} {b : Nat} {f : Fr} {x : Int} {t : TypeId} (h : HB w b (pgC f x) t) : w.rangeAt b 0 f.cells.toList := fun j v hv => by
  rw [Nat.zero_add]
  have hj := (List.getElem?_eq_some_iff.1 hv).1
  refine h.cell ?_
  rw [pgC_get _ _ _ (by simpa [Fr.size] using hj)]
  simpa using hv
/-- a frame is loaded -/
theorem wp_ldf (hg : o.guard = none) (x : Operand) (ho : o.op = .load 57 x) (b : Nat) (hx : a.eval x = .pointer (some ⟨b, 0, none⟩)) (f : Fr) (hr : w.rangeAt b 0 f.cells.toList)
    (h : wpList Try.prog ops Q rest (a.put o.dst (.agg f.cells)) w) : wpList Try.prog ops Q (o :: rest) a w := by
  obtain ⟨fs, hu⟩ := und57
  exact wpList_load_mid hg 57 x ho b 0 hx f.cells.toList (.struct fs) hr hu rfl (by rw [inf57]; simp [Fr.size]) (by simpa using h)
/-- a program is loaded -/
theorem wp_ldp (hg : o.guard = none) (x : Operand) (ho : o.op = .load 95 x) (b : Nat) (hx : a.eval x = .pointer (some ⟨b, 0, none⟩)) (f : Fr) (y : Int) (hr : HB w b (pgC f y) 95)
    (h : wpList Try.prog ops Q rest (a.put o.dst (.agg (pgC f y))) w) : wpList Try.prog ops Q (o :: rest) a w := by
  obtain ⟨fs, hu⟩ := und95
  exact wpList_load_mid hg 95 x ho b 0 hx (pgC f y).toList (.struct fs) hr.range hu rfl (by rw [inf95]; simp [pgC_size]) (by simpa using h)
/-- a frame is stored -/
theorem wp_stf (hg : o.guard = none) (x y : Operand) (ho : o.op = .store 57 x y) (b : Nat) (f : Fr) (hx : a.eval x = .pointer (some ⟨b, 0, none⟩)) (hy : a.eval y = .agg f.cells) (f0 : Fr) (hb : HB w b f0.cells 57)
    (h : wpList Try.prog ops Q rest (a.put o.dst undef) (w.setRow b f.cells)) : wpList Try.prog ops Q (o :: rest) a w :=
  wpList_store_row hg 57 x y ho b f.cells hx hy 57 f0.cells hb (by rw [inf57, Fr.size]) (by rw [Fr.size, Fr.size]) f.one h
/-- an action is stored -/
theorem wp_sta (hg : o.guard = none) (x y : Operand) (ho : o.op = .store 59 x y) (b : Nat) (C C0 : Array Value) (hx : a.eval x = .pointer (some ⟨b, 0, none⟩)) (hy : a.eval y = .agg C) (hb : HB w b C0 59) (hs : C.size = 7) (hs0 : C0.size = 7) (h1 : C.all (·.oneCell') = true)
    (h : wpList Try.prog ops Q rest (a.put o.dst undef) (w.setRow b C)) : wpList Try.prog ops Q (o :: rest) a w :=
  wpList_store_row hg 59 x y ho b C hx hy 59 C0 hb (by rw [inf59, hs]) (by rw [hs0, hs]) h1 h
def acZ : Array Value := acC 0 0 0 0 0 (.slice none 0 0)
theorem zer59 (w : World) : (zeroValue 59).run Try.prog w = .ok (.agg acZ) w := by kernel_rfl
/-- the third of a call's own blocks is made -/
theorem wp_al59 {w0 : World} (C0 : Array Value) (t0 : TypeId) (hw : w = (w0.alloc (.cells C0 t0)).alloc (.cells Fr.zero.cells 57)) (hg : o.guard = none) (ho : o.op = .alloc 59)
    (h : ∀ W, T3 w0 W w0.heap.size C0 t0 Fr.zero.cells acZ → wpList Try.prog ops Q rest (a.put o.dst (.pointer (some ⟨w0.heap.size + 1 + 1, 0, none⟩))) W) : wpList Try.prog ops Q (o :: rest) a w := by
  subst hw
  refine wpList_plain hg fun K hK => ?_
  unfold Oper.wp execOp
  simp only [ho]
  have hz := fun w => zer59 w
  simp [Instr.alloc, newVar, newRow, hz, Sem.run_bind, Value.cells]
  exact hK _ _ (h _ (T3.start w0 C0 t0 Fr.zero.cells acZ))
theorem wp_st1 {w0 : World} {N : Nat} {C0 C2 : Array Value} {t0 : TypeId} {f0 : Fr} (HT : Hid (T3 w0 w N C0 t0 f0.cells C2)) (hg : o.guard = none) (x y : Operand) (ho : o.op = .store 57 x y) (f : Fr) (hx : a.eval x = .pointer (some ⟨N + 1, 0, none⟩)) (hy : a.eval y = .agg f.cells)
    (h : ∀ W, (∀ b, N + 1 + 1 < b → W.heap[b]? = w.heap[b]?) → T3 w0 W N C0 t0 f.cells C2 → wpList Try.prog ops Q rest (a.put o.dst undef) W) : wpList Try.prog ops Q (o :: rest) a w :=
  wp_stf hg x y ho (N + 1) f hx hy f0 HT.out.b1 (h _ (fun b hb => setRow_other _ _ _ _ (by omega)) (HT.out.row1 f.cells))
theorem acC_one (k a b v g : Int) (ao : Option Addr) (n c : Nat) : (acC k a b v g (.slice ao n c)).all (·.oneCell') = true := by simp [acC, Value.oneCell']
theorem wp_st2 {w0 : World} {N : Nat} {C0 C1 : Array Value} {t0 : TypeId} (HT : Hid (T3 w0 w N C0 t0 C1 acZ)) (hg : o.guard = none) (x y : Operand) (ho : o.op = .store 59 x y) (k1 k2 k3 k4 k5 : Int) (ao : Option Addr) (n c : Nat) (hx : a.eval x = .pointer (some ⟨N + 1 + 1, 0, none⟩)) (hy : a.eval y = .agg (acC k1 k2 k3 k4 k5 (.slice ao n c)))
    (h : ∀ W, (∀ b, N + 1 + 1 < b → W.heap[b]? = w.heap[b]?) → T3 w0 W N C0 t0 C1 (acC k1 k2 k3 k4 k5 (.slice ao n c)) → wpList Try.prog ops Q rest (a.put o.dst undef) W) : wpList Try.prog ops Q (o :: rest) a w :=
  wp_sta hg x y ho (N + 1 + 1) _ acZ hx hy HT.out.b2 rfl rfl (acC_one _ _ _ _ _ _ _ _) (h _ (fun b hb => setRow_other _ _ _ _ (by omega)) (HT.out.row2 _))
/-- a number is stored into the first block -/
theorem wp_set0 {w0 : World} {N : Nat} {C0 C1 C2 : Array Value} {t0 : TypeId} (HT : Hid (T3 w0 w N C0 t0 C1 C2)) (hg : o.guard = none) (x y : Operand) (ho : o.op = .store 3 x y) (k : Nat) (v : Int) (hx : a.eval x = .pointer (some ⟨N, k, none⟩)) (hy : a.eval y = .int .i64 v) (hk : k < C0.size)
    (h : ∀ W, (∀ b, N + 1 + 1 < b → W.heap[b]? = w.heap[b]?) → T3 w0 W N (C0.setIfInBounds k (.int .i64 v)) t0 C1 C2 → wpList Try.prog ops Q rest (a.put o.dst undef) W) : wpList Try.prog ops Q (o :: rest) a w := by
  refine wpList_plain hg fun K hK => ?_
  have hc : ∃ u, w.cell? ⟨N, k, none⟩ = some u := ⟨C0[k], HT.out.b0.cell (Array.getElem?_eq_getElem hk)⟩
  obtain ⟨u, hc⟩ := hc
  have hf : w.frozen? ⟨N, k, none⟩ = false := HT.out.b0.fro
  unfold Oper.wp execOp
  simp only [ho, hx, hy]
  simp [go_sem, hc, hf, Instr.storeAt, storeVar, Try.sizeOf3]
  exact hK _ _ (h _ (fun b hb => heap_setCell_other _ _ _ _ (by simp; omega)) (HT.out.set0 k _))
end
/-- what a call answers: a frame and an action -/
theorem results_fa {fn : Func} {p q : Tmp} (h : fn.results = #[.cell p 57, .cell q 59]) (tmps : Array Value) (w : World) (b c : Nat) (f : Fr) (C : Array Value) (hp : tmps.getD p undef = .pointer (some ⟨b, 0, none⟩)) (hq : tmps.getD q undef = .pointer (some ⟨c, 0, none⟩))
    (h1 : HB w b f.cells 57) (h2 : HB w c C 59) (hs : C.size = 7) : (results fn tmps).run Try.prog w = .ok (.tuple #[.agg f.cells, .agg C]) w := by
  have hp' : tmps[p]?.getD undef = .pointer (some ⟨b, 0, none⟩) := by simpa using hp
  have hq' : tmps[q]?.getD undef = .pointer (some ⟨c, 0, none⟩) := by simpa using hq
  obtain ⟨fs, hu⟩ := und57
  obtain ⟨gs, hv⟩ := und59
  have r1 := run_loadVar_row (P := Try.prog) w b 57 57 f.cells (0, 0) (.struct fs) h1 hu rfl (by rw [inf57, Fr.size])
  have r2 := run_loadVar_row (P := Try.prog) w c 59 59 C (0, 0) (.struct gs) h2 hv rfl (by rw [inf59, hs])
  simp [results, h, hp', hq', asAddr, r1, r2]
/-- the frame that a call answers is there -/
theorem T3.ret {w0 w : World} {N : Nat} {C0 C2 : Array Value} {t0 : TypeId} {f : Fr} (HT : T3 w0 w N C0 t0 f.cells C2) {fn : Func} {p q : Tmp} (h : fn.results = #[.cell p 57, .cell q 59]) (tmps : Array Value) (hp : tmps.getD p undef = .pointer (some ⟨N + 1, 0, none⟩)) (hq : tmps.getD q undef = .pointer (some ⟨N + 1 + 1, 0, none⟩)) (hs : C2.size = 7) :
    (results fn tmps).run Try.prog w = .ok (.tuple #[.agg f.cells, .agg C2]) w := results_fa h tmps w (N + 1) (N + 1 + 1) f C2 hp hq HT.b1 HT.b2 hs
set_option maxRecDepth 100000 in
theorem end_p (f : Fr) (x : Int) (ao : Option Addr) (n c : Nat) (w : World) : Calls Try.prog 48 #[.agg (pgC f x), .slice ao n c] w fun e w' => e = .returned (.tuple #[.agg f.cells, .agg (acC 7 0 0 0 0 (.slice ao n c))]) ∧ Below w.heap.size w w' := by
  go_enter Try.func48, Try.ntmps48
  go_wp2_with (first
    | (refine wp_al57 rfl rfl ?_)
    | (refine wp_al59 (pgC f x) 95 rfl rfl rfl ?_; intro W hT; have HT := Lib.hid hT; clear hT)
    | (refine wp_ldf rfl (.tmp 6) rfl w.heap.size rfl f HT.out.b0.frame ?_)
    | ((refine wp_st1 HT rfl (.tmp 4) (.tmp 7) rfl f rfl rfl ?_; intro W1 _ hT; have HT1 := Lib.hid hT; clear hT))
    | ((refine wp_st2 HT1 rfl (.tmp 5) (.tmp 9) rfl 7 0 0 0 0 ao n c rfl rfl ?_; intro W2 _ hT; have HT2 := Lib.hid hT; clear hT)))
  (try simp only [Exit.inBlock, Exit.then])
  refine bodyPost_ret (HT2.out.ret rfl _ rfl rfl rfl) rfl ?_
  exact ⟨rfl, HT2.out.bel⟩
end Go.Proofs.Ytgpdknacnmapiaa
namespace Go.Proofs.Ytgpdknacnmapiaa
set_option linter.unusedVariables false
set_option linter.unusedSimpArgs false
open Go.RowKit
set_option maxHeartbeats 1000000 in
theorem has_0A (w : World) : Calls Try.prog 108 #[.string ⟨#[65, 71]⟩, .int .u8 65] w fun e w' => e = .returned (.bool true) ∧ w' = w := by
  go_enter Try.func108, Try.ntmps108
  go_wp2_with fail
  go_loopw [5] (fun iv wr => iv = .int .i64 0 ∧ wr = w) (fun iv _ => 0)
  case atStart => exact ⟨rfl, rfl⟩
  case round =>
    obtain ⟨rfl, rfl⟩ := hrel
    go_wp2_with fail
    go_ret
    exact ⟨rfl, rfl⟩
set_option maxHeartbeats 1000000 in
theorem has_1A (w : World) : Calls Try.prog 108 #[.string ⟨#[65, 86, 71]⟩, .int .u8 65] w fun e w' => e = .returned (.bool true) ∧ w' = w := by
  go_enter Try.func108, Try.ntmps108
  go_wp2_with fail
  go_loopw [5] (fun iv wr => iv = .int .i64 0 ∧ wr = w) (fun iv _ => 0)
  case atStart => exact ⟨rfl, rfl⟩
  case round =>
    obtain ⟨rfl, rfl⟩ := hrel
    go_wp2_with fail
    go_ret
    exact ⟨rfl, rfl⟩
set_option maxHeartbeats 1000000 in
theorem has_1V (w : World) : Calls Try.prog 108 #[.string ⟨#[65, 86, 71]⟩, .int .u8 86] w fun e w' => e = .returned (.bool true) ∧ w' = w := by
  go_enter Try.func108, Try.ntmps108
  go_wp2_with fail
  go_loopw [5] (fun iv wr => (iv = .int .i64 0 ∨ iv = .int .i64 1) ∧ wr = w) (fun iv _ => 1 - (intOf iv).toNat)
  case atStart => exact ⟨.inl rfl, rfl⟩
  case round =>
    obtain ⟨hj, rfl⟩ := hrel
    rcases hj with rfl | rfl
    · go_wp2_with fail
      go_roundw
      case rel => exact ⟨by simp, by simp⟩
      case measure => simp [intOf]
    · go_wp2_with fail
      go_ret
      exact ⟨rfl, rfl⟩
set_option maxHeartbeats 1000000 in
theorem has_2A (w : World) : Calls Try.prog 108 #[.string ⟨#[65, 66, 86, 71]⟩, .int .u8 65] w fun e w' => e = .returned (.bool true) ∧ w' = w := by
  go_enter Try.func108, Try.ntmps108
  go_wp2_with fail
  go_loopw [5] (fun iv wr => iv = .int .i64 0 ∧ wr = w) (fun iv _ => 0)
  case atStart => exact ⟨rfl, rfl⟩
  case round =>
    obtain ⟨rfl, rfl⟩ := hrel
    go_wp2_with fail
    go_ret
    exact ⟨rfl, rfl⟩
set_option maxHeartbeats 1000000 in
theorem has_2B (w : World) : Calls Try.prog 108 #[.string ⟨#[65, 66, 86, 71]⟩, .int .u8 66] w fun e w' => e = .returned (.bool true) ∧ w' = w := by
  go_enter Try.func108, Try.ntmps108
  go_wp2_with fail
  go_loopw [5] (fun iv wr => (iv = .int .i64 0 ∨ iv = .int .i64 1) ∧ wr = w) (fun iv _ => 1 - (intOf iv).toNat)
  case atStart => exact ⟨.inl rfl, rfl⟩
  case round =>
    obtain ⟨hj, rfl⟩ := hrel
    rcases hj with rfl | rfl
    · go_wp2_with fail
      go_roundw
      case rel => exact ⟨by simp, by simp⟩
      case measure => simp [intOf]
    · go_wp2_with fail
      go_ret
      exact ⟨rfl, rfl⟩
set_option maxHeartbeats 1000000 in
theorem has_2V (w : World) : Calls Try.prog 108 #[.string ⟨#[65, 66, 86, 71]⟩, .int .u8 86] w fun e w' => e = .returned (.bool true) ∧ w' = w := by
  go_enter Try.func108, Try.ntmps108
  go_wp2_with fail
  go_loopw [5] (fun iv wr => (iv = .int .i64 0 ∨ iv = .int .i64 1 ∨ iv = .int .i64 2) ∧ wr = w) (fun iv _ => 2 - (intOf iv).toNat)
  case atStart => exact ⟨.inl rfl, rfl⟩
  case round =>
    obtain ⟨hj, rfl⟩ := hrel
    rcases hj with rfl | rfl | rfl
    · go_wp2_with fail
      go_roundw
      case rel => exact ⟨by simp, by simp⟩
      case measure => simp [intOf]
    · go_wp2_with fail
      go_roundw
      case rel => exact ⟨by simp, by simp⟩
      case measure => simp [intOf]
    · go_wp2_with fail
      go_ret
      exact ⟨rfl, rfl⟩
set_option maxHeartbeats 1000000 in
theorem has_7L (w : World) : Calls Try.prog 108 #[.string ⟨#[76]⟩, .int .u8 76] w fun e w' => e = .returned (.bool true) ∧ w' = w := by
  go_enter Try.func108, Try.ntmps108
  go_wp2_with fail
  go_loopw [5] (fun iv wr => iv = .int .i64 0 ∧ wr = w) (fun iv _ => 0)
  case atStart => exact ⟨rfl, rfl⟩
  case round =>
    obtain ⟨rfl, rfl⟩ := hrel
    go_wp2_with fail
    go_ret
    exact ⟨rfl, rfl⟩
set_option maxHeartbeats 4000000 in
set_option maxRecDepth 100000 in
theorem mayact0 (a b v : Int) (ao : Option Addr) (n c : Nat) (w : World) (ha : 0 ≤ a ∧ a ≤ 4095) :
    Calls Try.prog 94 #[.agg (acC 0 a 0 0 0 (.slice ao 0 c))] w fun e w' => e = .returned (.bool true) ∧ Below w.heap.size w w' := by
  have a1 : decide (a < 0) = false := by simp; omega
  have a2 : decide ((4095 : Int) < a) = false := by simp; omega
  have HB0 : Hid (Below w.heap.size w (w.alloc (.cells (acC 0 a 0 0 0 (.slice ao 0 c)) 59))) := Lib.hid ((Below.refl _ _).alloc (Nat.le_refl _) _)
  unfold acC at *
  have ac : (a == 0) = true ∨ (a == 0) = false := by cases h : (a == 0) <;> simp
  clear ha
  rcases ac with ac | ac
  · go_enter Try.func94, Try.ntmps94
    go_wp2_with fail
    go_ret
    exact ⟨rfl, HB0.out⟩
  · go_enter Try.func94, Try.ntmps94
    go_wp2_with fail
    refine (has_0A _).mono ?_
    rintro e W ⟨rfl, rfl⟩
    go_wp2_with fail
    go_ret
    exact ⟨rfl, HB0.out⟩
set_option maxHeartbeats 4000000 in
set_option maxRecDepth 100000 in
theorem mayact1 (a b v : Int) (ao : Option Addr) (n c : Nat) (w : World) (ha : 0 ≤ a ∧ a ≤ 4095) (hv : -1 ≤ v ∧ v ≤ 1152921504606846976) :
    Calls Try.prog 94 #[.agg (acC 1 a 0 v 0 (.slice ao 0 c))] w fun e w' => e = .returned (.bool true) ∧ Below w.heap.size w w' := by
  have a1 : decide (a < 0) = false := by simp; omega
  have a2 : decide ((4095 : Int) < a) = false := by simp; omega
  have v1 : decide (v < -1) = false := by simp; omega
  have v2 : decide ((1152921504606846976 : Int) < v) = false := by simp; omega
  have HB0 : Hid (Below w.heap.size w (w.alloc (.cells (acC 1 a 0 v 0 (.slice ao 0 c)) 59))) := Lib.hid ((Below.refl _ _).alloc (Nat.le_refl _) _)
  unfold acC at *
  have ac : (a == 0) = true ∨ (a == 0) = false := by cases h : (a == 0) <;> simp
  have vc : (v == 0) = true ∨ (v == 0) = false := by cases h : (v == 0) <;> simp
  clear ha hv
  rcases ac with ac | ac
  · rcases vc with vc | vc
    · go_enter Try.func94, Try.ntmps94
      go_wp2_with fail
      go_ret
      exact ⟨rfl, HB0.out⟩
    · go_enter Try.func94, Try.ntmps94
      go_wp2_with fail
      refine (has_1V _).mono ?_
      rintro e W ⟨rfl, rfl⟩
      go_wp2_with fail
      go_ret
      exact ⟨rfl, HB0.out⟩
  · rcases vc with vc | vc
    · go_enter Try.func94, Try.ntmps94
      go_wp2_with fail
      refine (has_1A _).mono ?_
      rintro e W ⟨rfl, rfl⟩
      go_wp2_with fail
      go_ret
      exact ⟨rfl, HB0.out⟩
    · go_enter Try.func94, Try.ntmps94
      go_wp2_with fail
      refine (has_1A _).mono ?_
      rintro e W ⟨rfl, rfl⟩
      go_wp2_with fail
      refine (has_1V _).mono ?_
      rintro e W ⟨rfl, rfl⟩
      go_wp2_with fail
      go_ret
      exact ⟨rfl, HB0.out⟩
set_option maxHeartbeats 4000000 in
set_option maxRecDepth 100000 in
theorem mayact7 (a b v : Int) (ao : Option Addr) (n c : Nat) (w : World) (hn : n ≤ 96) :
    Calls Try.prog 94 #[.agg (acC 7 0 0 0 0 (.slice ao n c))] w fun e w' => e = .returned (.bool true) ∧ Below w.heap.size w w' := by
  have n1 : decide ((96 : Int) < (n : Int)) = false := by simp; omega
  have HB0 : Hid (Below w.heap.size w (w.alloc (.cells (acC 7 0 0 0 0 (.slice ao n c)) 59))) := Lib.hid ((Below.refl _ _).alloc (Nat.le_refl _) _)
  unfold acC at *
  have nc : ((n : Int) == 0) = true ∨ ((n : Int) == 0) = false := by cases h : ((n : Int) == 0) <;> simp
  clear hn
  rcases nc with nc | nc
  · go_enter Try.func94, Try.ntmps94
    go_wp2_with fail
    go_ret
    exact ⟨rfl, HB0.out⟩
  · go_enter Try.func94, Try.ntmps94
    go_wp2_with fail
    refine (has_7L _).mono ?_
    rintro e W ⟨rfl, rfl⟩
    go_wp2_with fail
    go_ret
    exact ⟨rfl, HB0.out⟩
end Go.Proofs.Ytgpdknacnmapiaa
namespace Go.Proofs.Ytgpdknacnmapiaa
set_option linter.unusedVariables false
set_option linter.unusedSimpArgs false
open Go.RowKit
set_option maxHeartbeats 4000000 in
set_option maxRecDepth 100000 in
theorem mayact2 (a b v : Int) (ao : Option Addr) (n c : Nat) (w : World) (ha : 0 ≤ a ∧ a ≤ 4095) (hb : -1 ≤ b ∧ b ≤ 1152921504606846976) (hv : -1 ≤ v ∧ v ≤ 1152921504606846976) :
    Calls Try.prog 94 #[.agg (acC 2 a b v 0 (.slice ao 0 c))] w fun e w' => e = .returned (.bool true) ∧ Below w.heap.size w w' := by
  have a1 : decide (a < 0) = false := by simp; omega
  have a2 : decide ((4095 : Int) < a) = false := by simp; omega
  have b1 : decide (b < -1) = false := by simp; omega
  have b2 : decide ((1152921504606846976 : Int) < b) = false := by simp; omega
  have v1 : decide (v < -1) = false := by simp; omega
  have v2 : decide ((1152921504606846976 : Int) < v) = false := by simp; omega
  have HB0 : Hid (Below w.heap.size w (w.alloc (.cells (acC 2 a b v 0 (.slice ao 0 c)) 59))) := Lib.hid ((Below.refl _ _).alloc (Nat.le_refl _) _)
  unfold acC at *
  have ac : (a == 0) = true ∨ (a == 0) = false := by cases h : (a == 0) <;> simp
  have bc : (b == 0) = true ∨ (b == 0) = false := by cases h : (b == 0) <;> simp
  have vc : (v == 0) = true ∨ (v == 0) = false := by cases h : (v == 0) <;> simp
  clear ha hb hv
  rcases ac with ac | ac
  · rcases bc with bc | bc
    · rcases vc with vc | vc
      · go_enter Try.func94, Try.ntmps94
        go_wp2_with fail
        go_ret
        exact ⟨rfl, HB0.out⟩
      · go_enter Try.func94, Try.ntmps94
        go_wp2_with fail
        refine (has_2V _).mono ?_
        rintro e W ⟨rfl, rfl⟩
        go_wp2_with fail
        go_ret
        exact ⟨rfl, HB0.out⟩
    · rcases vc with vc | vc
      · go_enter Try.func94, Try.ntmps94
        go_wp2_with fail
        refine (has_2B _).mono ?_
        rintro e W ⟨rfl, rfl⟩
        go_wp2_with fail
        go_ret
        exact ⟨rfl, HB0.out⟩
      · go_enter Try.func94, Try.ntmps94
        go_wp2_with fail
        refine (has_2B _).mono ?_
        rintro e W ⟨rfl, rfl⟩
        go_wp2_with fail
        refine (has_2V _).mono ?_
        rintro e W ⟨rfl, rfl⟩
        go_wp2_with fail
        go_ret
        exact ⟨rfl, HB0.out⟩
  · rcases bc with bc | bc
    · rcases vc with vc | vc
      · go_enter Try.func94, Try.ntmps94
        go_wp2_with fail
        refine (has_2A _).mono ?_
        rintro e W ⟨rfl, rfl⟩
        go_wp2_with fail
        go_ret
        exact ⟨rfl, HB0.out⟩
      · go_enter Try.func94, Try.ntmps94
        go_wp2_with fail
        refine (has_2A _).mono ?_
        rintro e W ⟨rfl, rfl⟩
        go_wp2_with fail
        refine (has_2V _).mono ?_
        rintro e W ⟨rfl, rfl⟩
        go_wp2_with fail
        go_ret
        exact ⟨rfl, HB0.out⟩
    · rcases vc with vc | vc
      · go_enter Try.func94, Try.ntmps94
        go_wp2_with fail
        refine (has_2A _).mono ?_
        rintro e W ⟨rfl, rfl⟩
        go_wp2_with fail
        refine (has_2B _).mono ?_
        rintro e W ⟨rfl, rfl⟩
        go_wp2_with fail
        go_ret
        exact ⟨rfl, HB0.out⟩
      · go_enter Try.func94, Try.ntmps94
        go_wp2_with fail
        refine (has_2A _).mono ?_
        rintro e W ⟨rfl, rfl⟩
        go_wp2_with fail
        refine (has_2B _).mono ?_
        rintro e W ⟨rfl, rfl⟩
        go_wp2_with fail
        refine (has_2V _).mono ?_
        rintro e W ⟨rfl, rfl⟩
        go_wp2_with fail
        go_ret
        exact ⟨rfl, HB0.out⟩
end Go.Proofs.Ytgpdknacnmapiaa
