/-
  A task's checks: a swap may be (chapter 10's has, MayAct).
-/
import Derived.Test.YtgpdknacnmapiaaTk0
import Derived.Deep.QuietTactic
namespace Go.Proofs.Ytgpdknacnmapiaa
set_option linter.unusedVariables false
set_option linter.unusedSimpArgs false
open Go.RowKit
set_option maxHeartbeats 4000000 in
set_option maxRecDepth 100000 in
theorem mayact2 (a b v : Int) (ao : Option Addr) (n c : Nat) (w : World) (ha : 0 ≤ a ∧ a ≤ 4095) (hb : -1 ≤ b ∧ b ≤ 1152921504606846976) (hv : -1 ≤ v ∧ v ≤ 1152921504606846976) :
    Calls Try.prog 94 #[.agg (acC 2 a b v 0 (.slice ao 0 c))] w fun e w' => e = .returned (.bool true) ∧ Below w.heap.size w w' := by
  have a1 : decide (a < 0) = false := by simp; omega
  have a2 : decide ((4095 : Int) < a) = false := by simp; omega
  have b1 : decide (b < -1) = false := by simp; omega
  have b2 : decide ((1152921504606846976 : Int) < b) = false := by simp; omega
  have v1 : decide (v < -1) = false := by simp; omega
  have v2 : decide ((1152921504606846976 : Int) < v) = false := by simp; omega
  have HB0 : Hid (Below w.heap.size w (w.alloc (.cells (acC 2 a b v 0 (.slice ao 0 c)) 59))) := Lib.hid ((Below.refl _ _).alloc (Nat.le_refl _) _)
  unfold acC at *
  have ac : (a == 0) = true ∨ (a == 0) = false := by cases h : (a == 0) <;> simp
  have bc : (b == 0) = true ∨ (b == 0) = false := by cases h : (b == 0) <;> simp
  have vc : (v == 0) = true ∨ (v == 0) = false := by cases h : (v == 0) <;> simp
  clear ha hb hv
  rcases ac with ac | ac
  · rcases bc with bc | bc
    · rcases vc with vc | vc
      · go_enter Try.func94, Try.ntmps94
        go_wp2_with fail
        go_ret
        exact ⟨rfl, HB0.out⟩
      · go_enter Try.func94, Try.ntmps94
        go_wp2_with fail
        refine (has_2V _).mono ?_
        rintro e W ⟨rfl, rfl⟩
        go_wp2_with fail
        go_ret
        exact ⟨rfl, HB0.out⟩
    · rcases vc with vc | vc
      · go_enter Try.func94, Try.ntmps94
        go_wp2_with fail
        refine (has_2B _).mono ?_
        rintro e W ⟨rfl, rfl⟩
        go_wp2_with fail
        go_ret
        exact ⟨rfl, HB0.out⟩
      · go_enter Try.func94, Try.ntmps94
        go_wp2_with fail
        refine (has_2B _).mono ?_
        rintro e W ⟨rfl, rfl⟩
        go_wp2_with fail
        refine (has_2V _).mono ?_
        rintro e W ⟨rfl, rfl⟩
        go_wp2_with fail
        go_ret
        exact ⟨rfl, HB0.out⟩
  · rcases bc with bc | bc
    · rcases vc with vc | vc
      · go_enter Try.func94, Try.ntmps94
        go_wp2_with fail
        refine (has_2A _).mono ?_
        rintro e W ⟨rfl, rfl⟩
        go_wp2_with fail
        go_ret
        exact ⟨rfl, HB0.out⟩
      · go_enter Try.func94, Try.ntmps94
        go_wp2_with fail
        refine (has_2A _).mono ?_
        rintro e W ⟨rfl, rfl⟩
        go_wp2_with fail
        refine (has_2V _).mono ?_
        rintro e W ⟨rfl, rfl⟩
        go_wp2_with fail
        go_ret
        exact ⟨rfl, HB0.out⟩
    · rcases vc with vc | vc
      · go_enter Try.func94, Try.ntmps94
        go_wp2_with fail
        refine (has_2A _).mono ?_
        rintro e W ⟨rfl, rfl⟩
        go_wp2_with fail
        refine (has_2B _).mono ?_
        rintro e W ⟨rfl, rfl⟩
        go_wp2_with fail
        go_ret
        exact ⟨rfl, HB0.out⟩
      · go_enter Try.func94, Try.ntmps94
        go_wp2_with fail
        refine (has_2A _).mono ?_
        rintro e W ⟨rfl, rfl⟩
        go_wp2_with fail
        refine (has_2B _).mono ?_
        rintro e W ⟨rfl, rfl⟩
        go_wp2_with fail
        refine (has_2V _).mono ?_
        rintro e W ⟨rfl, rfl⟩
        go_wp2_with fail
        go_ret
        exact ⟨rfl, HB0.out⟩
end Go.Proofs.Ytgpdknacnmapiaa
