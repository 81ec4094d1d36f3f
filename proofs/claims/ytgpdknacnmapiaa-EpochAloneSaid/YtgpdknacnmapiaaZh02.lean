/-
  Parts of a proof, put together: Fr, Tk0, Tk2, Pg, Al, Op, Dr, Nl, Rx, Sa.
-/
import Derived.Test.YtgpdknacnmapiaaZh01
import Derived.Deep.MidRow
import Derived.Laws.Rows
import Derived.Laws.Tables
import Derived.Deep.QuietTactic
namespace Go.Proofs.Ytgpdknacnmapiaa
set_option linter.unusedVariables false
set_option linter.unusedSimpArgs false
open Go.RowKit
/-- a frame: the program, the step, the registers -/
structure Fr where
  pg : Int
  st : Int
  r : Nat → Int
def Fr.cells (f : Fr) : Array Value := #[.int .i8 f.pg, .int .i64 f.st] ++ (Array.range 96).map fun i => .int .i64 (f.r i)
def Fr.zero : Fr := ⟨0, 0, fun _ => 0⟩
def Fr.at_ (f : Fr) (s : Int) : Fr := { f with st := s }
def Fr.reg (f : Fr) (i : Nat) (v : Int) : Fr := { f with r := fun k => if k = i then v else f.r k }
/-- a program on its way, of slots -/
def pgC (f : Fr) (x : Int) : Array Value := f.cells.push (.int .i64 x)
/-- an action's cells -/
def acC (k a b v g : Int) (args : Value) : Array Value := #[.int .i8 k, .int .i64 a, .int .i64 b, .int .i64 v, .int .i64 g, .string ByteArray.empty, args]
theorem Fr.size (f : Fr) : f.cells.size = 98 := by simp [Fr.cells]
theorem Fr.c0 (f : Fr) : f.cells[0]? = some (.int .i8 f.pg) := by simp [Fr.cells]
theorem Fr.c1 (f : Fr) : f.cells[1]? = some (.int .i64 f.st) := by simp [Fr.cells]
theorem Fr.cr (f : Fr) (i : Nat) (h : i < 96) : f.cells[2 + i]? = some (.int .i64 (f.r i)) := by
  simp [Fr.cells, Array.getElem?_append, h]
theorem Fr.set1 (f : Fr) (s : Int) : f.cells.setIfInBounds 1 (.int .i64 s) = (f.at_ s).cells := by
  apply Array.ext_getElem?
  intro k
  rw [Array.getElem?_setIfInBounds]
  by_cases h : 1 = k
  · subst h; rw [if_pos rfl, if_pos (by rw [Fr.size]; omega), Fr.c1]; rfl
  · rw [if_neg h]
    by_cases hk : k < 98
    · by_cases h0 : k = 0
      · subst h0; rw [Fr.c0, Fr.c0]; rfl
      · obtain ⟨i, rfl⟩ : ∃ i, k = 2 + i := ⟨k - 2, by omega⟩
        rw [Fr.cr _ _ (by omega), Fr.cr _ _ (by omega)]; rfl
    · rw [Array.getElem?_eq_none (by rw [Fr.size]; omega), Array.getElem?_eq_none (by rw [Fr.size]; omega)]
theorem Fr.setr (f : Fr) (i : Nat) (hi : i < 96) (v : Int) : f.cells.setIfInBounds (2 + i) (.int .i64 v) = (f.reg i v).cells := by
  apply Array.ext_getElem?
  intro k
  rw [Array.getElem?_setIfInBounds]
  by_cases h : 2 + i = k
  · subst h; rw [if_pos rfl, if_pos (by rw [Fr.size]; omega), Fr.cr _ _ hi]; simp [Fr.reg]
  · rw [if_neg h]
    by_cases hk : k < 98
    · match k, h, hk with
      | 0, _, _ => rw [Fr.c0, Fr.c0]; rfl
      | 1, _, _ => rw [Fr.c1, Fr.c1]; rfl
      | k + 2, h, hk =>
        rw [show k + 2 = 2 + k by omega, Fr.cr _ _ (by omega), Fr.cr _ _ (by omega)]
        simp only [Fr.reg]; rw [if_neg (by omega)]
    · rw [Array.getElem?_eq_none (by rw [Fr.size]; omega), Array.getElem?_eq_none (by rw [Fr.size]; omega)]
theorem pgC_get (f : Fr) (x : Int) (k : Nat) (h : k < 98) : (pgC f x)[k]? = f.cells[k]? := by
  unfold pgC; rw [Array.getElem?_push, if_neg (by rw [Fr.size]; omega)]
theorem Fr.one (f : Fr) : f.cells.all (·.oneCell') = true := by
  rw [Array.all_eq_true_iff_forall_mem]
  intro v hv
  simp only [Fr.cells, Array.mem_append, Array.mem_map] at hv
  rcases hv with hv | ⟨i, _, rfl⟩
  · simp at hv; rcases hv with rfl | rfl <;> rfl
  · rfl
/-- a whole block -/
def HB (w : World) (b : Nat) (C : Array Value) (t : TypeId) : Prop := w.heap[b]? = some (.cells C t (0, 0))
theorem HB.cell {w : World} {b k : Nat} {C : Array Value} {t : TypeId} (h : HB w b C t) {v : Value} (hk : C[k]? = some v) : w.cell? ⟨b, k, none⟩ = some v := by
  rw [cell_of_row _ _ _ _ _ _ h]; exact hk
theorem HB.fro {w : World} {b k : Nat} {C : Array Value} {t : TypeId} (h : HB w b C t) : w.frozen? ⟨b, k, none⟩ = false := frozen_of_row _ _ _ _ _ h
/-- three blocks that a call began with, from N on -/
structure T3 (w W : World) (N : Nat) (C0 : Array Value) (t0 : TypeId) (C1 C2 : Array Value) : Prop where
  bel : Below w.heap.size w W
  n : w.heap.size = N
  b0 : HB W N C0 t0
  b1 : HB W (N + 1) C1 57
  b2 : HB W (N + 1 + 1) C2 59
theorem T3.start (w : World) (C0 : Array Value) (t0 : TypeId) (C1 C2 : Array Value) : T3 w (((w.alloc (.cells C0 t0)).alloc (.cells C1 57)).alloc (.cells C2 59)) w.heap.size C0 t0 C1 C2 := by
  have e1 : (w.alloc (.cells C0 t0)).heap.size = w.heap.size + 1 := by simp
  have e2 : ((w.alloc (.cells C0 t0)).alloc (.cells C1 57)).heap.size = w.heap.size + 1 + 1 := by simp
  refine ⟨(((Below.refl w.heap.size w).alloc (Nat.le_refl _) _).alloc (by simp) _).alloc (by simp; omega) _, rfl, ?_, ?_, ?_⟩
  · unfold HB; rw [heap_alloc_old _ _ (by rw [e2]; omega), heap_alloc_old _ _ (by rw [e1]; omega)]; exact heap_alloc_new _ _
  · unfold HB; rw [heap_alloc_old _ _ (by rw [e2]; omega), ← e1]; exact heap_alloc_new _ _
  · unfold HB; rw [← e2]; exact heap_alloc_new _ _
theorem T3.below {w W W' : World} {N : Nat} {C0 : Array Value} {t0 : TypeId} {C1 C2 : Array Value} (h : T3 w W N C0 t0 C1 C2) (hb : Below W.heap.size W W') : T3 w W' N C0 t0 C1 C2 := by
  have l : ∀ {b C t}, HB W b C t → HB W' b C t := fun {b C t} hh => by unfold HB at *; rw [hb.block b (Array.getElem?_eq_some_iff.1 hh).1]; exact hh
  exact ⟨h.bel.trans (hb.mono h.bel.size), h.n, l h.b0, l h.b1, l h.b2⟩
theorem below_set {B : Nat} {w W : World} (h : Below B w W) (a : Addr) (ha : B ≤ a.block) (v : Value) : Below B w (W.setCell a v) :=
  ⟨h.os, h.tape, h.output, by rw [World.size_setCell]; exact h.size, fun k hk => by rw [heap_setCell_other _ _ _ _ (by omega)]; exact h.block k hk⟩
theorem below_row {B : Nat} {w W : World} (h : Below B w W) (g : Nat) (hg : B ≤ g) (C : Array Value) : Below B w (W.setRow g C) :=
  ⟨h.os, h.tape, h.output, by simpa using h.size, fun k hk => by rw [setRow_other _ _ _ _ (by omega)]; exact h.block k hk⟩
theorem T3.set0 {w W : World} {N : Nat} {C0 : Array Value} {t0 : TypeId} {C1 C2 : Array Value} (h : T3 w W N C0 t0 C1 C2) (k : Nat) (v : Value) : T3 w (W.setCell ⟨N, k, none⟩ v) N (C0.setIfInBounds k v) t0 C1 C2 := by
  refine ⟨below_set h.bel _ (by have := h.n; simp; omega) v, h.n, ?_, ?_, ?_⟩
  · exact Go.heap_setCell_same _ _ _ _ _ _ h.b0
  · unfold HB; rw [heap_setCell_other _ _ _ _ (by simp)]; exact h.b1
  · unfold HB; rw [heap_setCell_other _ _ _ _ (by simp; omega)]; exact h.b2
theorem und57 : ∃ fs, Try.prog.underlying 57 = some (.struct fs) := ⟨_, Try.underlying57⟩
theorem und59 : ∃ fs, Try.prog.underlying 59 = some (.struct fs) := ⟨_, Try.underlying59⟩
theorem inf57 : (Try.prog.info? 57).map (·.size) = some 98 := by kernel_rfl
theorem inf59 : (Try.prog.info? 59).map (·.size) = some 7 := by kernel_rfl
theorem zer57 (w : World) : (zeroValue 57).run Try.prog w = .ok (.agg Fr.zero.cells) w := by kernel_rfl
section
variable {ops : Array Oper} {rest : List Oper} {o : Oper} {a : Act} {w : World} {Q : Exit → Act → World → Prop}
/-- a frame's variable is made -/
theorem wp_al57 (hg : o.guard = none) (ho : o.op = .alloc 57) (h : wpList Try.prog ops Q rest (a.put o.dst (.pointer (some ⟨w.heap.size, 0, none⟩))) (w.alloc (.cells Fr.zero.cells 57))) : wpList Try.prog ops Q (o :: rest) a w := by
  refine wpList_plain hg fun K hK => ?_
  unfold Oper.wp execOp
  simp only [ho]
  have hz := zer57 w
  simp [Instr.alloc, newVar, newRow, hz, Sem.run_bind, Value.cells]
  exact hK _ _ h
theorem HB.range {w : World} {b : Nat} {C : Array Value} {t : TypeId} (h : HB w b C t) : w.rangeAt b 0 C.toList := fun j v hv => by
  rw [Nat.zero_add]; exact h.cell (by simpa using hv)
theorem HB.frame {w : World} {b : Nat} {f : Fr} {x : Int} {t : TypeId} (h : HB w b (pgC f x) t) : w.rangeAt b 0 f.cells.toList := fun j v hv => by
  rw [Nat.zero_add]
  have hj := (List.getElem?_eq_some_iff.1 hv).1
  refine h.cell ?_
  rw [pgC_get _ _ _ (by simpa [Fr.size] using hj)]
  simpa using hv
/-- a frame is loaded -/
theorem wp_ldf (hg : o.guard = none) (x : Operand) (ho : o.op = .load 57 x) (b : Nat) (hx : a.eval x = .pointer (some ⟨b, 0, none⟩)) (f : Fr) (hr : w.rangeAt b 0 f.cells.toList)
    (h : wpList Try.prog ops Q rest (a.put o.dst (.agg f.cells)) w) : wpList Try.prog ops Q (o :: rest) a w := by
  obtain ⟨fs, hu⟩ := und57
  exact wpList_load_mid hg 57 x ho b 0 hx f.cells.toList (.struct fs) hr hu rfl (by rw [inf57]; simp [Fr.size]) (by simpa using h)
/-- a frame is stored -/
theorem wp_stf (hg : o.guard = none) (x y : Operand) (ho : o.op = .store 57 x y) (b : Nat) (f : Fr) (hx : a.eval x = .pointer (some ⟨b, 0, none⟩)) (hy : a.eval y = .agg f.cells) (f0 : Fr) (hb : HB w b f0.cells 57)
    (h : wpList Try.prog ops Q rest (a.put o.dst undef) (w.setRow b f.cells)) : wpList Try.prog ops Q (o :: rest) a w :=
  wpList_store_row hg 57 x y ho b f.cells hx hy 57 f0.cells hb (by rw [inf57, Fr.size]) (by rw [Fr.size, Fr.size]) f.one h
def acZ : Array Value := acC 0 0 0 0 0 (.slice none 0 0)
theorem zer59 (w : World) : (zeroValue 59).run Try.prog w = .ok (.agg acZ) w := by kernel_rfl
theorem acC_one (k a b v g : Int) (ao : Option Addr) (n c : Nat) : (acC k a b v g (.slice ao n c)).all (·.oneCell') = true := by simp [acC, Value.oneCell']
end
end Go.Proofs.Ytgpdknacnmapiaa
namespace Go.Proofs.Ytgpdknacnmapiaa
set_option linter.unusedVariables false
set_option linter.unusedSimpArgs false
open Go.RowKit
set_option maxHeartbeats 1000000 in
theorem has_0A (w : World) : Calls Try.prog 108 #[.string ⟨#[65, 71]⟩, .int .u8 65] w fun e w' => e = .returned (.bool true) ∧ w' = w := by
  go_enter Try.func108, Try.ntmps108
  go_wp2_with fail
  go_loopw [5] (fun iv wr => iv = .int .i64 0 ∧ wr = w) (fun iv _ => 0)
  case atStart => exact ⟨rfl, rfl⟩
  case round =>
    obtain ⟨rfl, rfl⟩ := hrel
    go_wp2_with fail
    go_ret
    exact ⟨rfl, rfl⟩
set_option maxHeartbeats 1000000 in
theorem has_1A (w : World) : Calls Try.prog 108 #[.string ⟨#[65, 86, 71]⟩, .int .u8 65] w fun e w' => e = .returned (.bool true) ∧ w' = w := by
  go_enter Try.func108, Try.ntmps108
  go_wp2_with fail
  go_loopw [5] (fun iv wr => iv = .int .i64 0 ∧ wr = w) (fun iv _ => 0)
  case atStart => exact ⟨rfl, rfl⟩
  case round =>
    obtain ⟨rfl, rfl⟩ := hrel
    go_wp2_with fail
    go_ret
    exact ⟨rfl, rfl⟩
set_option maxHeartbeats 1000000 in
theorem has_1V (w : World) : Calls Try.prog 108 #[.string ⟨#[65, 86, 71]⟩, .int .u8 86] w fun e w' => e = .returned (.bool true) ∧ w' = w := by
  go_enter Try.func108, Try.ntmps108
  go_wp2_with fail
  go_loopw [5] (fun iv wr => (iv = .int .i64 0 ∨ iv = .int .i64 1) ∧ wr = w) (fun iv _ => 1 - (intOf iv).toNat)
  case atStart => exact ⟨.inl rfl, rfl⟩
  case round =>
    obtain ⟨hj, rfl⟩ := hrel
    rcases hj with rfl | rfl
    · go_wp2_with fail
      go_roundw
      case rel => exact ⟨by simp, by simp⟩
      case measure => simp [intOf]
    · go_wp2_with fail
      go_ret
      exact ⟨rfl, rfl⟩
set_option maxHeartbeats 1000000 in
theorem has_2A (w : World) : Calls Try.prog 108 #[.string ⟨#[65, 66, 86, 71]⟩, .int .u8 65] w fun e w' => e = .returned (.bool true) ∧ w' = w := by
  go_enter Try.func108, Try.ntmps108
  go_wp2_with fail
  go_loopw [5] (fun iv wr => iv = .int .i64 0 ∧ wr = w) (fun iv _ => 0)
  case atStart => exact ⟨rfl, rfl⟩
  case round =>
    obtain ⟨rfl, rfl⟩ := hrel
    go_wp2_with fail
    go_ret
    exact ⟨rfl, rfl⟩
set_option maxHeartbeats 1000000 in
theorem has_2B (w : World) : Calls Try.prog 108 #[.string ⟨#[65, 66, 86, 71]⟩, .int .u8 66] w fun e w' => e = .returned (.bool true) ∧ w' = w := by
  go_enter Try.func108, Try.ntmps108
  go_wp2_with fail
  go_loopw [5] (fun iv wr => (iv = .int .i64 0 ∨ iv = .int .i64 1) ∧ wr = w) (fun iv _ => 1 - (intOf iv).toNat)
  case atStart => exact ⟨.inl rfl, rfl⟩
  case round =>
    obtain ⟨hj, rfl⟩ := hrel
    rcases hj with rfl | rfl
    · go_wp2_with fail
      go_roundw
      case rel => exact ⟨by simp, by simp⟩
      case measure => simp [intOf]
    · go_wp2_with fail
      go_ret
      exact ⟨rfl, rfl⟩
set_option maxHeartbeats 1000000 in
theorem has_2V (w : World) : Calls Try.prog 108 #[.string ⟨#[65, 66, 86, 71]⟩, .int .u8 86] w fun e w' => e = .returned (.bool true) ∧ w' = w := by
  go_enter Try.func108, Try.ntmps108
  go_wp2_with fail
  go_loopw [5] (fun iv wr => (iv = .int .i64 0 ∨ iv = .int .i64 1 ∨ iv = .int .i64 2) ∧ wr = w) (fun iv _ => 2 - (intOf iv).toNat)
  case atStart => exact ⟨.inl rfl, rfl⟩
  case round =>
    obtain ⟨hj, rfl⟩ := hrel
    rcases hj with rfl | rfl | rfl
    · go_wp2_with fail
      go_roundw
      case rel => exact ⟨by simp, by simp⟩
      case measure => simp [intOf]
    · go_wp2_with fail
      go_roundw
      case rel => exact ⟨by simp, by simp⟩
      case measure => simp [intOf]
    · go_wp2_with fail
      go_ret
      exact ⟨rfl, rfl⟩
set_option maxHeartbeats 1000000 in
theorem has_7L (w : World) : Calls Try.prog 108 #[.string ⟨#[76]⟩, .int .u8 76] w fun e w' => e = .returned (.bool true) ∧ w' = w := by
  go_enter Try.func108, Try.ntmps108
  go_wp2_with fail
  go_loopw [5] (fun iv wr => iv = .int .i64 0 ∧ wr = w) (fun iv _ => 0)
  case atStart => exact ⟨rfl, rfl⟩
  case round =>
    obtain ⟨rfl, rfl⟩ := hrel
    go_wp2_with fail
    go_ret
    exact ⟨rfl, rfl⟩
set_option maxHeartbeats 4000000 in
set_option maxRecDepth 100000 in
theorem mayact0 (a b v : Int) (ao : Option Addr) (n c : Nat) (w : World) (ha : 0 ≤ a ∧ a ≤ 4095) :
    Calls Try.prog 94 #[.agg (acC 0 a 0 0 0 (.slice ao 0 c))] w fun e w' => e = .returned (.bool true) ∧ Below w.heap.size w w' := by
  have a1 : decide (a < 0) = false := by simp; omega
  have a2 : decide ((4095 : Int) < a) = false := by simp; omega
  have HB0 : Hid (Below w.heap.size w (w.alloc (.cells (acC 0 a 0 0 0 (.slice ao 0 c)) 59))) := Lib.hid ((Below.refl _ _).alloc (Nat.le_refl _) _)
  unfold acC at *
  have ac : (a == 0) = true ∨ (a == 0) = false := by cases h : (a == 0) <;> simp
  clear ha
  rcases ac with ac | ac
  · go_enter Try.func94, Try.ntmps94
    go_wp2_with fail
    go_ret
    exact ⟨rfl, HB0.out⟩
  · go_enter Try.func94, Try.ntmps94
    go_wp2_with fail
    refine (has_0A _).mono ?_
    rintro e W ⟨rfl, rfl⟩
    go_wp2_with fail
    go_ret
    exact ⟨rfl, HB0.out⟩
set_option maxHeartbeats 4000000 in
set_option maxRecDepth 100000 in
theorem mayact1 (a b v : Int) (ao : Option Addr) (n c : Nat) (w : World) (ha : 0 ≤ a ∧ a ≤ 4095) (hv : -1 ≤ v ∧ v ≤ 1152921504606846976) :
    Calls Try.prog 94 #[.agg (acC 1 a 0 v 0 (.slice ao 0 c))] w fun e w' => e = .returned (.bool true) ∧ Below w.heap.size w w' := by
  have a1 : decide (a < 0) = false := by simp; omega
  have a2 : decide ((4095 : Int) < a) = false := by simp; omega
  have v1 : decide (v < -1) = false := by simp; omega
  have v2 : decide ((1152921504606846976 : Int) < v) = false := by simp; omega
  have HB0 : Hid (Below w.heap.size w (w.alloc (.cells (acC 1 a 0 v 0 (.slice ao 0 c)) 59))) := Lib.hid ((Below.refl _ _).alloc (Nat.le_refl _) _)
  unfold acC at *
  have ac : (a == 0) = true ∨ (a == 0) = false := by cases h : (a == 0) <;> simp
  have vc : (v == 0) = true ∨ (v == 0) = false := by cases h : (v == 0) <;> simp
  clear ha hv
  rcases ac with ac | ac
  · rcases vc with vc | vc
    · go_enter Try.func94, Try.ntmps94
      go_wp2_with fail
      go_ret
      exact ⟨rfl, HB0.out⟩
    · go_enter Try.func94, Try.ntmps94
      go_wp2_with fail
      refine (has_1V _).mono ?_
      rintro e W ⟨rfl, rfl⟩
      go_wp2_with fail
      go_ret
      exact ⟨rfl, HB0.out⟩
  · rcases vc with vc | vc
    · go_enter Try.func94, Try.ntmps94
      go_wp2_with fail
      refine (has_1A _).mono ?_
      rintro e W ⟨rfl, rfl⟩
      go_wp2_with fail
      go_ret
      exact ⟨rfl, HB0.out⟩
    · go_enter Try.func94, Try.ntmps94
      go_wp2_with fail
      refine (has_1A _).mono ?_
      rintro e W ⟨rfl, rfl⟩
      go_wp2_with fail
      refine (has_1V _).mono ?_
      rintro e W ⟨rfl, rfl⟩
      go_wp2_with fail
      go_ret
      exact ⟨rfl, HB0.out⟩
set_option maxHeartbeats 4000000 in
set_option maxRecDepth 100000 in
theorem mayact7 (a b v : Int) (ao : Option Addr) (n c : Nat) (w : World) (hn : n ≤ 96) :
    Calls Try.prog 94 #[.agg (acC 7 0 0 0 0 (.slice ao n c))] w fun e w' => e = .returned (.bool true) ∧ Below w.heap.size w w' := by
  have n1 : decide ((96 : Int) < (n : Int)) = false := by simp; omega
  have HB0 : Hid (Below w.heap.size w (w.alloc (.cells (acC 7 0 0 0 0 (.slice ao n c)) 59))) := Lib.hid ((Below.refl _ _).alloc (Nat.le_refl _) _)
  unfold acC at *
  have nc : ((n : Int) == 0) = true ∨ ((n : Int) == 0) = false := by cases h : ((n : Int) == 0) <;> simp
  clear hn
  rcases nc with nc | nc
  · go_enter Try.func94, Try.ntmps94
    go_wp2_with fail
    go_ret
    exact ⟨rfl, HB0.out⟩
  · go_enter Try.func94, Try.ntmps94
    go_wp2_with fail
    refine (has_7L _).mono ?_
    rintro e W ⟨rfl, rfl⟩
    go_wp2_with fail
    go_ret
    exact ⟨rfl, HB0.out⟩
end Go.Proofs.Ytgpdknacnmapiaa
namespace Go.Proofs.Ytgpdknacnmapiaa
set_option linter.unusedVariables false
set_option linter.unusedSimpArgs false
open Go.RowKit
set_option maxHeartbeats 4000000 in
set_option maxRecDepth 100000 in
theorem mayact2 (a b v : Int) (ao : Option Addr) (n c : Nat) (w : World) (ha : 0 ≤ a ∧ a ≤ 4095) (hb : -1 ≤ b ∧ b ≤ 1152921504606846976) (hv : -1 ≤ v ∧ v ≤ 1152921504606846976) :
    Calls Try.prog 94 #[.agg (acC 2 a b v 0 (.slice ao 0 c))] w fun e w' => e = .returned (.bool true) ∧ Below w.heap.size w w' := by
  have a1 : decide (a < 0) = false := by simp; omega
  have a2 : decide ((4095 : Int) < a) = false := by simp; omega
  have b1 : decide (b < -1) = false := by simp; omega
  have b2 : decide ((1152921504606846976 : Int) < b) = false := by simp; omega
  have v1 : decide (v < -1) = false := by simp; omega
  have v2 : decide ((1152921504606846976 : Int) < v) = false := by simp; omega
  have HB0 : Hid (Below w.heap.size w (w.alloc (.cells (acC 2 a b v 0 (.slice ao 0 c)) 59))) := Lib.hid ((Below.refl _ _).alloc (Nat.le_refl _) _)
  unfold acC at *
  have ac : (a == 0) = true ∨ (a == 0) = false := by cases h : (a == 0) <;> simp
  have bc : (b == 0) = true ∨ (b == 0) = false := by cases h : (b == 0) <;> simp
  have vc : (v == 0) = true ∨ (v == 0) = false := by cases h : (v == 0) <;> simp
  clear ha hb hv
  rcases ac with ac | ac
  · rcases bc with bc | bc
    · rcases vc with vc | vc
      · go_enter Try.func94, Try.ntmps94
        go_wp2_with fail
        go_ret
        exact ⟨rfl, HB0.out⟩
      · go_enter Try.func94, Try.ntmps94
        go_wp2_with fail
        refine (has_2V _).mono ?_
        rintro e W ⟨rfl, rfl⟩
        go_wp2_with fail
        go_ret
        exact ⟨rfl, HB0.out⟩
    · rcases vc with vc | vc
      · go_enter Try.func94, Try.ntmps94
        go_wp2_with fail
        refine (has_2B _).mono ?_
        rintro e W ⟨rfl, rfl⟩
        go_wp2_with fail
        go_ret
        exact ⟨rfl, HB0.out⟩
      · go_enter Try.func94, Try.ntmps94
        go_wp2_with fail
        refine (has_2B _).mono ?_
        rintro e W ⟨rfl, rfl⟩
        go_wp2_with fail
        refine (has_2V _).mono ?_
        rintro e W ⟨rfl, rfl⟩
        go_wp2_with fail
        go_ret
        exact ⟨rfl, HB0.out⟩
  · rcases bc with bc | bc
    · rcases vc with vc | vc
      · go_enter Try.func94, Try.ntmps94
        go_wp2_with fail
        refine (has_2A _).mono ?_
        rintro e W ⟨rfl, rfl⟩
        go_wp2_with fail
        go_ret
        exact ⟨rfl, HB0.out⟩
      · go_enter Try.func94, Try.ntmps94
        go_wp2_with fail
        refine (has_2A _).mono ?_
        rintro e W ⟨rfl, rfl⟩
        go_wp2_with fail
        refine (has_2V _).mono ?_
        rintro e W ⟨rfl, rfl⟩
        go_wp2_with fail
        go_ret
        exact ⟨rfl, HB0.out⟩
    · rcases vc with vc | vc
      · go_enter Try.func94, Try.ntmps94
        go_wp2_with fail
        refine (has_2A _).mono ?_
        rintro e W ⟨rfl, rfl⟩
        go_wp2_with fail
        refine (has_2B _).mono ?_
        rintro e W ⟨rfl, rfl⟩
        go_wp2_with fail
        go_ret
        exact ⟨rfl, HB0.out⟩
      · go_enter Try.func94, Try.ntmps94
        go_wp2_with fail
        refine (has_2A _).mono ?_
        rintro e W ⟨rfl, rfl⟩
        go_wp2_with fail
        refine (has_2B _).mono ?_
        rintro e W ⟨rfl, rfl⟩
        go_wp2_with fail
        refine (has_2V _).mono ?_
        rintro e W ⟨rfl, rfl⟩
        go_wp2_with fail
        go_ret
        exact ⟨rfl, HB0.out⟩
end Go.Proofs.Ytgpdknacnmapiaa
namespace Go.Proofs.Ytgpdknacnmapiaa
set_option linter.unusedVariables false
set_option linter.unusedSimpArgs false
open Go.RowKit
/-- the slice value v reads as the numbers l -/
def Ints (B : Nat) (w : World) (v : Value) (l : List Int) : Prop := ∃ ao cap, v = .slice ao l.length cap ∧ l.length ≤ cap ∧ ∀ i x, l[i]? = some x → ∃ b off, ao = some ⟨b, off, none⟩ ∧ B ≤ b ∧ w.cell? ⟨b, off + i, none⟩ = some (.int .i64 x)
theorem Ints.nil (B : Nat) (w : World) : Ints B w (.slice none 0 0) [] := ⟨none, 0, rfl, Nat.le_refl _, fun i x hx => by simp at hx⟩
theorem Ints.low {B B' : Nat} {w : World} {v : Value} {l : List Int} (h : Ints B w v l) (hb : B' ≤ B) : Ints B' w v l := by
  obtain ⟨ao, cap, rfl, hc, hr⟩ := h
  refine ⟨ao, cap, rfl, hc, fun i x hx => ?_⟩
  obtain ⟨b, off, e, h0, h1⟩ := hr i x hx
  exact ⟨b, off, e, Nat.le_trans hb h0, h1⟩
theorem Ints.oth {B : Nat} {w w' : World} {v : Value} {l : List Int} (h : Ints B w v l) (hb : ∀ b, B ≤ b → w'.heap[b]? = w.heap[b]?) : Ints B w' v l := by
  obtain ⟨ao, cap, rfl, hc, hr⟩ := h
  refine ⟨ao, cap, rfl, hc, fun i x hx => ?_⟩
  obtain ⟨b, off, e, h0, h1⟩ := hr i x hx
  exact ⟨b, off, e, h0, (World.cell?_of_block (hb b h0)).trans h1⟩
theorem Ints.below {B : Nat} {w w' : World} {v : Value} {l : List Int} (h : Ints B w v l) (hb : Below w.heap.size w w') : Ints B w' v l := by
  obtain ⟨ao, cap, rfl, hc, hr⟩ := h
  refine ⟨ao, cap, rfl, hc, fun i x hx => ?_⟩
  obtain ⟨b, off, e, h0, h1⟩ := hr i x hx
  exact ⟨b, off, e, h0, (hb.cell (World.block_lt_of_cell? _ _ h1)).trans h1⟩
/-- what a program does next: its frame, its action -/
structure Rs where
  f : Fr
  k : Int
  a : Int
  v : Int
  l : List Int
/-- a frame of slots, in bounds -/
structure Bd (f : Fr) : Prop where
  s : f.st = 0 ∨ f.st = 1 ∨ f.st = 2
  r0 : 0 ≤ f.r 0 ∧ f.r 0 ≤ 300000
  r1 : 0 ≤ f.r 1 ∧ f.r 1 ≤ 255
  r2 : f.r 2 = 0 ∨ f.r 2 = 1
  r3 : 0 ≤ f.r 3 ∧ f.r 3 ≤ 1000
  r4 : 0 ≤ f.r 4 ∧ f.r 4 ≤ 1000000
def slotOf (f : Fr) : Int := f.r 0 + f.r 3
def lookC (f : Fr) : Int := genC (slotOf f) (f.r 2 == 1)
theorem genC_big {s : Int} (b : Bool) (h : 256 ≤ s) : genC s b = -1 := by unfold genC; split <;> rw [if_neg (by omega)]
def lookR (f : Fr) : Rs := if f.r 1 ≤ f.r 3 then ⟨f, 7, 0, 0, [120]⟩ else if lookC f < 0 then ⟨f, 7, 0, 0, [2]⟩ else ⟨f.at_ 1, 0, lookC f, 0, []⟩
end Go.Proofs.Ytgpdknacnmapiaa
namespace Go.Proofs.Ytgpdknacnmapiaa
set_option linter.unusedVariables false
set_option linter.unusedSimpArgs false
open Go.RowKit
theorem aft_le (g : Int) (h : 0 ≤ g) : 1 ≤ aft g ∧ aft g ≤ 1023 := by unfold aft; split <;> omega
/-- what an allotment does next -/
def nextR (f : Fr) (x : Int) : Rs :=
  if f.st = 0 then lookR f
  else if f.st = 1 then (if x % 2 = 1 then lookR (f.reg 3 (f.r 3 + 1)) else ⟨(f.at_ 2).reg 4 (aft (x / 2) * 256 + slotOf f), 1, lookC f, aft (x / 2) * 2 + 1, []⟩)
  else ⟨f, 7, 0, 0, [0, f.r 4]⟩
end Go.Proofs.Ytgpdknacnmapiaa
namespace Go.Proofs.Ytgpdknacnmapiaa
set_option linter.unusedVariables false
set_option linter.unusedSimpArgs false
open Go.RowKit
section
variable {o : Oper} {a : Act} {w : World} {K : Act → World → Prop} {Q : Exit → Act → World → Prop}
end
theorem T3.drew {w W : World} {N : Nat} {C0 : Array Value} {t0 : TypeId} {C1 C2 : Array Value} (h : T3 w W N C0 t0 C1 C2) : T3 w W.drew N C0 t0 C1 C2 := h.below ⟨rfl, rfl, rfl, Nat.le_refl _, fun _ _ => rfl⟩
end Go.Proofs.Ytgpdknacnmapiaa
namespace Go.Proofs.Ytgpdknacnmapiaa
set_option linter.unusedVariables false
set_option linter.unusedSimpArgs false
open Go.RowKit
def dropC (f : Fr) : Int := genC (f.r 0 % 256) (f.r 1 == 1)
def dropR (f : Fr) : Rs := if dropC f < 0 then ⟨f, 7, 0, 0, [2]⟩ else ⟨f.at_ 1, 1, dropC f, f.r 0 / 256 * 2, []⟩
end Go.Proofs.Ytgpdknacnmapiaa
namespace Go.Proofs.Ytgpdknacnmapiaa
set_option linter.unusedVariables false
set_option linter.unusedSimpArgs false
open Go.RowKit
section
variable {ops : Array Oper} {rest : List Oper} {o : Oper} {a : Act} {w : World} {Q : Exit → Act → World → Prop}
end
theorem T3.kept {w W W' : World} {N : Nat} {C0 : Array Value} {t0 : TypeId} {C1 C2 : Array Value} (h : T3 w W N C0 t0 C1 C2) {B : Nat} (hB : N + 1 + 1 < B) (hb : Below B W W') : T3 w W' N C0 t0 C1 C2 := by
  have l : ∀ {b C t}, b < B → HB W b C t → HB W' b C t := fun {b C t} hl hh => by unfold HB at *; rw [hb.block b hl]; exact hh
  exact ⟨h.bel.trans (hb.mono (by have := h.n; omega)), h.n, l (by omega) h.b0, l (by omega) h.b1, l hB h.b2⟩
section
variable {ops : Array Oper} {rest : List Oper} {o : Oper} {a : Act} {w : World} {Q : Exit → Act → World → Prop}
end
theorem HB.below {w w' : World} {b : Nat} {C : Array Value} {t : TypeId} (h : HB w b C t) (hb : Below w.heap.size w w') : HB w' b C t := by
  unfold HB at *; rw [hb.block b (Array.getElem?_eq_some_iff.1 h).1]; exact h
theorem HB.kept {w w' : World} {b B : Nat} {C : Array Value} {t : TypeId} (h : HB w b C t) (hB : b < B) (hb : Below B w w') : HB w' b C t := by
  unfold HB at *; rw [hb.block b hB]; exact h
theorem HB.lt {w : World} {b : Nat} {C : Array Value} {t : TypeId} (h : HB w b C t) : b < w.heap.size := (Array.getElem?_eq_some_iff.1 h).1
end Go.Proofs.Ytgpdknacnmapiaa
namespace Go.Proofs.Ytgpdknacnmapiaa
set_option linter.unusedVariables false
set_option linter.unusedSimpArgs false
open Go.RowKit
theorem GotV.below {w w' : World} {v : Value} {x : Int} (h : GotV w v x) (hb : Below w.heap.size w w') : GotV w' v x := by
  rcases h with h | ⟨ad, c, e, hc⟩
  · exact .inl h
  · refine .inr ⟨ad, c, e, ?_⟩
    have hl := World.block_lt_of_cell? _ _ hc
    have hs := World.cell?_spot hc
    obtain ⟨b, o, sp⟩ := ad
    simp only at hs
    subst hs
    exact (hb.cell hl).trans hc
end Go.Proofs.Ytgpdknacnmapiaa
namespace Go.Proofs.Ytgpdknacnmapiaa
set_option linter.unusedVariables false
set_option linter.unusedSimpArgs false
open Go.RowKit
set_option maxHeartbeats 2000000 in
set_option maxRecDepth 100000 in
theorem ints_same {B1 B2 : Nat} (v1 v2 : Value) (l : List Int) (w : World) (h1 : Ints B1 w v1 l) (h2 : Ints B2 w v2 l) (hlen : l.length ≤ 100000) :
    Calls Try.prog 54 #[v1, v2] w fun e w' => e = .returned (.bool true) ∧ ∃ n, w' = w.drewN n := by
  obtain ⟨ao1, cap1, rfl, hc1, hr1⟩ := h1
  obtain ⟨ao2, cap2, rfl, hc2, hr2⟩ := h2
  have HR1 := Lib.hid hr1
  have HR2 := Lib.hid hr2
  obtain ⟨m, hm⟩ : ∃ m, l.length = m := ⟨_, rfl⟩
  have HM := Lib.hid hm
  rw [hm] at hc1 hc2 hlen ⊢
  have hm63 : m ≤ 9223372036854775807 := by omega
  have e0 : ((m : Int) == (m : Int)) = true := by simp
  clear hr1 hr2 hm
  go_enter Try.func54, Try.ntmps54
  go_wp2_with fail
  go_loopw [5] (fun iv wr => ∃ j k : Nat, j ≤ m ∧ iv = .int .i64 j ∧ wr = w.drewN k) (fun iv _ => m - (intOf iv).toNat)
  case atStart => exact ⟨0, 0, Nat.zero_le _, rfl, rfl⟩
  case round =>
    obtain ⟨j, k, hj, rfl, rfl⟩ := hrel
    by_cases hlt : j < m
    · obtain ⟨x, hx⟩ : ∃ x, l[j]? = some x := ⟨l[j]'(by rw [HM.out]; exact hlt), List.getElem?_eq_getElem _⟩
      obtain ⟨b1, o1, rfl, _, r1⟩ := HR1.out j x hx
      obtain ⟨b2, o2, rfl, _, r2⟩ := HR2.out j x hx
      have ex1 : (x == x) = true := by simp
      clear hx
      go_wp2_with fail
      go_quiet (fail)
      go_wp2_with fail
      go_roundw
      case rel => exact ⟨j + 1, _, hlt, rfl, rfl⟩
      case measure => simp [intOf]; omega
    · have e : j = m := by omega
      subst e
      go_wp2_with fail
      go_ret
      exact ⟨rfl, _, rfl⟩
theorem below_drewN (w : World) : ∀ n, Below w.heap.size w (w.drewN n)
  | 0 => Below.refl _ _
  | n + 1 => ⟨rfl, rfl, rfl, Nat.le_refl _, fun _ _ => rfl⟩
end Go.Proofs.Ytgpdknacnmapiaa
