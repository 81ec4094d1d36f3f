/-
  A task's checks: which letters a kind uses, whether an action may be (chapter 10's has, MayAct).
-/
import Derived.Test.YtgpdknacnmapiaaFr
import Derived.Deep.QuietTactic
namespace Go.Proofs.Ytgpdknacnmapiaa
set_option linter.unusedVariables false
set_option linter.unusedSimpArgs false
open Go.RowKit
set_option maxHeartbeats 1000000 in
theorem has_0A (w : World) : Calls Try.prog 108 #[.string ⟨#[65, 71]⟩, .int .u8 65] w fun e w' => e = .returned (.bool true) ∧ w' = w := by
  go_enter Try.func108, Try.ntmps108
  go_wp2_with fail
  go_loopw [5] (fun iv wr => iv = .int .i64 0 ∧ wr = w) (fun iv _ => 0)
  case atStart => exact ⟨rfl, rfl⟩
  case round =>
    obtain ⟨rfl, rfl⟩ := hrel
    go_wp2_with fail
    go_ret
    exact ⟨rfl, rfl⟩
set_option maxHeartbeats 1000000 in
theorem has_1A (w : World) : Calls Try.prog 108 #[.string ⟨#[65, 86, 71]⟩, .int .u8 65] w fun e w' => e = .returned (.bool true) ∧ w' = w := by
  go_enter Try.func108, Try.ntmps108
  go_wp2_with fail
  go_loopw [5] (fun iv wr => iv = .int .i64 0 ∧ wr = w) (fun iv _ => 0)
  case atStart => exact ⟨rfl, rfl⟩
  case round =>
    obtain ⟨rfl, rfl⟩ := hrel
    go_wp2_with fail
    go_ret
    exact ⟨rfl, rfl⟩
set_option maxHeartbeats 1000000 in
theorem has_1V (w : World) : Calls Try.prog 108 #[.string ⟨#[65, 86, 71]⟩, .int .u8 86] w fun e w' => e = .returned (.bool true) ∧ w' = w := by
  go_enter Try.func108, Try.ntmps108
  go_wp2_with fail
  go_loopw [5] (fun iv wr => (iv = .int .i64 0 ∨ iv = .int .i64 1) ∧ wr = w) (fun iv _ => 1 - (intOf iv).toNat)
  case atStart => exact ⟨.inl rfl, rfl⟩
  case round =>
    obtain ⟨hj, rfl⟩ := hrel
    rcases hj with rfl | rfl
    · go_wp2_with fail
      go_roundw
      case rel => exact ⟨by simp, by simp⟩
      case measure => simp [intOf]
    · go_wp2_with fail
      go_ret
      exact ⟨rfl, rfl⟩
set_option maxHeartbeats 1000000 in
theorem has_2A (w : World) : Calls Try.prog 108 #[.string ⟨#[65, 66, 86, 71]⟩, .int .u8 65] w fun e w' => e = .returned (.bool true) ∧ w' = w := by
  go_enter Try.func108, Try.ntmps108
  go_wp2_with fail
  go_loopw [5] (fun iv wr => iv = .int .i64 0 ∧ wr = w) (fun iv _ => 0)
  case atStart => exact ⟨rfl, rfl⟩
  case round =>
    obtain ⟨rfl, rfl⟩ := hrel
    go_wp2_with fail
    go_ret
    exact ⟨rfl, rfl⟩
set_option maxHeartbeats 1000000 in
theorem has_2B (w : World) : Calls Try.prog 108 #[.string ⟨#[65, 66, 86, 71]⟩, .int .u8 66] w fun e w' => e = .returned (.bool true) ∧ w' = w := by
  go_enter Try.func108, Try.ntmps108
  go_wp2_with fail
  go_loopw [5] (fun iv wr => (iv = .int .i64 0 ∨ iv = .int .i64 1) ∧ wr = w) (fun iv _ => 1 - (intOf iv).toNat)
  case atStart => exact ⟨.inl rfl, rfl⟩
  case round =>
    obtain ⟨hj, rfl⟩ := hrel
    rcases hj with rfl | rfl
    · go_wp2_with fail
      go_roundw
      case rel => exact ⟨by simp, by simp⟩
      case measure => simp [intOf]
    · go_wp2_with fail
      go_ret
      exact ⟨rfl, rfl⟩
set_option maxHeartbeats 1000000 in
theorem has_2V (w : World) : Calls Try.prog 108 #[.string ⟨#[65, 66, 86, 71]⟩, .int .u8 86] w fun e w' => e = .returned (.bool true) ∧ w' = w := by
  go_enter Try.func108, Try.ntmps108
  go_wp2_with fail
  go_loopw [5] (fun iv wr => (iv = .int .i64 0 ∨ iv = .int .i64 1 ∨ iv = .int .i64 2) ∧ wr = w) (fun iv _ => 2 - (intOf iv).toNat)
  case atStart => exact ⟨.inl rfl, rfl⟩
  case round =>
    obtain ⟨hj, rfl⟩ := hrel
    rcases hj with rfl | rfl | rfl
    · go_wp2_with fail
      go_roundw
      case rel => exact ⟨by simp, by simp⟩
      case measure => simp [intOf]
    · go_wp2_with fail
      go_roundw
      case rel => exact ⟨by simp, by simp⟩
      case measure => simp [intOf]
    · go_wp2_with fail
      go_ret
      exact ⟨rfl, rfl⟩
set_option maxHeartbeats 1000000 in
theorem has_7L (w : World) : Calls Try.prog 108 #[.string ⟨#[76]⟩, .int .u8 76] w fun e w' => e = .returned (.bool true) ∧ w' = w := by
  go_enter Try.func108, Try.ntmps108
  go_wp2_with fail
  go_loopw [5] (fun iv wr => iv = .int .i64 0 ∧ wr = w) (fun iv _ => 0)
  case atStart => exact ⟨rfl, rfl⟩
  case round =>
    obtain ⟨rfl, rfl⟩ := hrel
    go_wp2_with fail
    go_ret
    exact ⟨rfl, rfl⟩
set_option maxHeartbeats 4000000 in
set_option maxRecDepth 100000 in
theorem mayact0 (a b v : Int) (ao : Option Addr) (n c : Nat) (w : World) (ha : 0 ≤ a ∧ a ≤ 4095) :
    Calls Try.prog 94 #[.agg (acC 0 a 0 0 0 (.slice ao 0 c))] w fun e w' => e = .returned (.bool true) ∧ Below w.heap.size w w' := by
  have a1 : decide (a < 0) = false := by simp; omega
  have a2 : decide ((4095 : Int) < a) = false := by simp; omega
  have HB0 : Hid (Below w.heap.size w (w.alloc (.cells (acC 0 a 0 0 0 (.slice ao 0 c)) 59))) := Lib.hid ((Below.refl _ _).alloc (Nat.le_refl _) _)
  unfold acC at *
  have ac : (a == 0) = true ∨ (a == 0) = false := by cases h : (a == 0) <;> simp
  clear ha
  rcases ac with ac | ac
  · go_enter Try.func94, Try.ntmps94
    go_wp2_with fail
    go_ret
    exact ⟨rfl, HB0.out⟩
  · go_enter Try.func94, Try.ntmps94
    go_wp2_with fail
    refine (has_0A _).mono ?_
    rintro e W ⟨rfl, rfl⟩
    go_wp2_with fail
    go_ret
    exact ⟨rfl, HB0.out⟩
set_option maxHeartbeats 4000000 in
set_option maxRecDepth 100000 in
theorem mayact1 (a b v : Int) (ao : Option Addr) (n c : Nat) (w : World) (ha : 0 ≤ a ∧ a ≤ 4095) (hv : -1 ≤ v ∧ v ≤ 1152921504606846976) :
    Calls Try.prog 94 #[.agg (acC 1 a 0 v 0 (.slice ao 0 c))] w fun e w' => e = .returned (.bool true) ∧ Below w.heap.size w w' := by
  have a1 : decide (a < 0) = false := by simp; omega
  have a2 : decide ((4095 : Int) < a) = false := by simp; omega
  have v1 : decide (v < -1) = false := by simp; omega
  have v2 : decide ((1152921504606846976 : Int) < v) = false := by simp; omega
  have HB0 : Hid (Below w.heap.size w (w.alloc (.cells (acC 1 a 0 v 0 (.slice ao 0 c)) 59))) := Lib.hid ((Below.refl _ _).alloc (Nat.le_refl _) _)
  unfold acC at *
  have ac : (a == 0) = true ∨ (a == 0) = false := by cases h : (a == 0) <;> simp
  have vc : (v == 0) = true ∨ (v == 0) = false := by cases h : (v == 0) <;> simp
  clear ha hv
  rcases ac with ac | ac
  · rcases vc with vc | vc
    · go_enter Try.func94, Try.ntmps94
      go_wp2_with fail
      go_ret
      exact ⟨rfl, HB0.out⟩
    · go_enter Try.func94, Try.ntmps94
      go_wp2_with fail
      refine (has_1V _).mono ?_
      rintro e W ⟨rfl, rfl⟩
      go_wp2_with fail
      go_ret
      exact ⟨rfl, HB0.out⟩
  · rcases vc with vc | vc
    · go_enter Try.func94, Try.ntmps94
      go_wp2_with fail
      refine (has_1A _).mono ?_
      rintro e W ⟨rfl, rfl⟩
      go_wp2_with fail
      go_ret
      exact ⟨rfl, HB0.out⟩
    · go_enter Try.func94, Try.ntmps94
      go_wp2_with fail
      refine (has_1A _).mono ?_
      rintro e W ⟨rfl, rfl⟩
      go_wp2_with fail
      refine (has_1V _).mono ?_
      rintro e W ⟨rfl, rfl⟩
      go_wp2_with fail
      go_ret
      exact ⟨rfl, HB0.out⟩
set_option maxHeartbeats 4000000 in
set_option maxRecDepth 100000 in
theorem mayact7 (a b v : Int) (ao : Option Addr) (n c : Nat) (w : World) (hn : n ≤ 96) :
    Calls Try.prog 94 #[.agg (acC 7 0 0 0 0 (.slice ao n c))] w fun e w' => e = .returned (.bool true) ∧ Below w.heap.size w w' := by
  have n1 : decide ((96 : Int) < (n : Int)) = false := by simp; omega
  have HB0 : Hid (Below w.heap.size w (w.alloc (.cells (acC 7 0 0 0 0 (.slice ao n c)) 59))) := Lib.hid ((Below.refl _ _).alloc (Nat.le_refl _) _)
  unfold acC at *
  have nc : ((n : Int) == 0) = true ∨ ((n : Int) == 0) = false := by cases h : ((n : Int) == 0) <;> simp
  clear hn
  rcases nc with nc | nc
  · go_enter Try.func94, Try.ntmps94
    go_wp2_with fail
    go_ret
    exact ⟨rfl, HB0.out⟩
  · go_enter Try.func94, Try.ntmps94
    go_wp2_with fail
    refine (has_7L _).mono ?_
    rintro e W ⟨rfl, rfl⟩
    go_wp2_with fail
    go_ret
    exact ⟨rfl, HB0.out⟩
end Go.Proofs.Ytgpdknacnmapiaa
