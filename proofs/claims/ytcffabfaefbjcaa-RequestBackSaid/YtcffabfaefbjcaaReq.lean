/-
  The small functions of request: widths, bounds, numbers (chapter 08).
-/
import Derived.Test.YtcffabfaefbjcaaKinds
import Derived.Test.YtcffabfaefbjcaaOrders
import Derived.Test.YtcffabfaefbjcaaBase
import Derived.WalkSmall

import Derived.Deep.RegionHeld3
namespace Go.Proofs.Ytcffabfaefbjcaa
set_option linter.unusedVariables false
open Go.RowKit
def wd : Nat → Int | 0 => 3 | 1 => 1 | 2 => 1 | 3 => 1 | _ => 6
def lo : Nat → Int | 0 => 1 | 1 => 0 | 2 => 0 | 3 => 1 | 4 => 0 | _ => -1
def hi : Nat → Int | 0 => 1048576 | 1 => 23 | 2 => 255 | 3 => 7 | _ => 1048575
theorem widths_0 (w : World) : Calls Try.prog 47 #[.int .i64 0] w fun e w' => e = .returned (.int .i64 3) ∧ w = w' := by
  have hix : ∀ w, (Instr.index 83 (.agg #[.int .i64 3, .int .i64 1, .int .i64 1, .int .i64 1, .int .i64 6, .int .i64 6]) (.int .i64 0)).run Try.prog w = .ok (.int .i64 3) w := fun _ => by kernel_rfl
  go_enter Try.func47, Try.ntmps47
  go_wp2
  go_ret
  exact ⟨rfl, rfl⟩
theorem bounds_0 (w : World) : Calls Try.prog 64 #[.int .i64 0] w fun e w' => e = .returned (.tuple #[.int .i64 1, .int .i64 1048576]) ∧ Below w.heap.size w w' := by
  have hix : ∀ w, (Instr.index 90 (.agg #[.int .i64 1, .int .i64 1048576, .int .i64 0, .int .i64 23, .int .i64 0, .int .i64 255, .int .i64 1, .int .i64 7, .int .i64 0, .int .i64 1048575, .int .i64 (-1), .int .i64 1048575]) (.int .i64 0)).run Try.prog w = .ok (.agg #[.int .i64 1, .int .i64 1048576]) w := fun _ => by kernel_rfl
  go_enter Try.func64, Try.ntmps64
  go_wp2
  go_quiet (fail)
  go_wp2
  go_ret2
  exact ⟨rfl, below_drewN ((Below.refl _ _).alloc (Nat.le_refl _) _) _⟩
theorem widths_1 (w : World) : Calls Try.prog 47 #[.int .i64 1] w fun e w' => e = .returned (.int .i64 1) ∧ w = w' := by
  have hix : ∀ w, (Instr.index 83 (.agg #[.int .i64 3, .int .i64 1, .int .i64 1, .int .i64 1, .int .i64 6, .int .i64 6]) (.int .i64 1)).run Try.prog w = .ok (.int .i64 1) w := fun _ => by kernel_rfl
  go_enter Try.func47, Try.ntmps47
  go_wp2
  go_ret
  exact ⟨rfl, rfl⟩
theorem bounds_1 (w : World) : Calls Try.prog 64 #[.int .i64 1] w fun e w' => e = .returned (.tuple #[.int .i64 0, .int .i64 23]) ∧ Below w.heap.size w w' := by
  have hix : ∀ w, (Instr.index 90 (.agg #[.int .i64 1, .int .i64 1048576, .int .i64 0, .int .i64 23, .int .i64 0, .int .i64 255, .int .i64 1, .int .i64 7, .int .i64 0, .int .i64 1048575, .int .i64 (-1), .int .i64 1048575]) (.int .i64 1)).run Try.prog w = .ok (.agg #[.int .i64 0, .int .i64 23]) w := fun _ => by kernel_rfl
  go_enter Try.func64, Try.ntmps64
  go_wp2
  go_quiet (fail)
  go_wp2
  go_ret2
  exact ⟨rfl, below_drewN ((Below.refl _ _).alloc (Nat.le_refl _) _) _⟩
theorem widths_2 (w : World) : Calls Try.prog 47 #[.int .i64 2] w fun e w' => e = .returned (.int .i64 1) ∧ w = w' := by
  have hix : ∀ w, (Instr.index 83 (.agg #[.int .i64 3, .int .i64 1, .int .i64 1, .int .i64 1, .int .i64 6, .int .i64 6]) (.int .i64 2)).run Try.prog w = .ok (.int .i64 1) w := fun _ => by kernel_rfl
  go_enter Try.func47, Try.ntmps47
  go_wp2
  go_ret
  exact ⟨rfl, rfl⟩
theorem bounds_2 (w : World) : Calls Try.prog 64 #[.int .i64 2] w fun e w' => e = .returned (.tuple #[.int .i64 0, .int .i64 255]) ∧ Below w.heap.size w w' := by
  have hix : ∀ w, (Instr.index 90 (.agg #[.int .i64 1, .int .i64 1048576, .int .i64 0, .int .i64 23, .int .i64 0, .int .i64 255, .int .i64 1, .int .i64 7, .int .i64 0, .int .i64 1048575, .int .i64 (-1), .int .i64 1048575]) (.int .i64 2)).run Try.prog w = .ok (.agg #[.int .i64 0, .int .i64 255]) w := fun _ => by kernel_rfl
  go_enter Try.func64, Try.ntmps64
  go_wp2
  go_quiet (fail)
  go_wp2
  go_ret2
  exact ⟨rfl, below_drewN ((Below.refl _ _).alloc (Nat.le_refl _) _) _⟩
theorem widths_3 (w : World) : Calls Try.prog 47 #[.int .i64 3] w fun e w' => e = .returned (.int .i64 1) ∧ w = w' := by
  have hix : ∀ w, (Instr.index 83 (.agg #[.int .i64 3, .int .i64 1, .int .i64 1, .int .i64 1, .int .i64 6, .int .i64 6]) (.int .i64 3)).run Try.prog w = .ok (.int .i64 1) w := fun _ => by kernel_rfl
  go_enter Try.func47, Try.ntmps47
  go_wp2
  go_ret
  exact ⟨rfl, rfl⟩
theorem bounds_3 (w : World) : Calls Try.prog 64 #[.int .i64 3] w fun e w' => e = .returned (.tuple #[.int .i64 1, .int .i64 7]) ∧ Below w.heap.size w w' := by
  have hix : ∀ w, (Instr.index 90 (.agg #[.int .i64 1, .int .i64 1048576, .int .i64 0, .int .i64 23, .int .i64 0, .int .i64 255, .int .i64 1, .int .i64 7, .int .i64 0, .int .i64 1048575, .int .i64 (-1), .int .i64 1048575]) (.int .i64 3)).run Try.prog w = .ok (.agg #[.int .i64 1, .int .i64 7]) w := fun _ => by kernel_rfl
  go_enter Try.func64, Try.ntmps64
  go_wp2
  go_quiet (fail)
  go_wp2
  go_ret2
  exact ⟨rfl, below_drewN ((Below.refl _ _).alloc (Nat.le_refl _) _) _⟩
theorem widths_4 (w : World) : Calls Try.prog 47 #[.int .i64 4] w fun e w' => e = .returned (.int .i64 6) ∧ w = w' := by
  have hix : ∀ w, (Instr.index 83 (.agg #[.int .i64 3, .int .i64 1, .int .i64 1, .int .i64 1, .int .i64 6, .int .i64 6]) (.int .i64 4)).run Try.prog w = .ok (.int .i64 6) w := fun _ => by kernel_rfl
  go_enter Try.func47, Try.ntmps47
  go_wp2
  go_ret
  exact ⟨rfl, rfl⟩
theorem bounds_4 (w : World) : Calls Try.prog 64 #[.int .i64 4] w fun e w' => e = .returned (.tuple #[.int .i64 0, .int .i64 1048575]) ∧ Below w.heap.size w w' := by
  have hix : ∀ w, (Instr.index 90 (.agg #[.int .i64 1, .int .i64 1048576, .int .i64 0, .int .i64 23, .int .i64 0, .int .i64 255, .int .i64 1, .int .i64 7, .int .i64 0, .int .i64 1048575, .int .i64 (-1), .int .i64 1048575]) (.int .i64 4)).run Try.prog w = .ok (.agg #[.int .i64 0, .int .i64 1048575]) w := fun _ => by kernel_rfl
  go_enter Try.func64, Try.ntmps64
  go_wp2
  go_quiet (fail)
  go_wp2
  go_ret2
  exact ⟨rfl, below_drewN ((Below.refl _ _).alloc (Nat.le_refl _) _) _⟩
theorem widths_5 (w : World) : Calls Try.prog 47 #[.int .i64 5] w fun e w' => e = .returned (.int .i64 6) ∧ w = w' := by
  have hix : ∀ w, (Instr.index 83 (.agg #[.int .i64 3, .int .i64 1, .int .i64 1, .int .i64 1, .int .i64 6, .int .i64 6]) (.int .i64 5)).run Try.prog w = .ok (.int .i64 6) w := fun _ => by kernel_rfl
  go_enter Try.func47, Try.ntmps47
  go_wp2
  go_ret
  exact ⟨rfl, rfl⟩
theorem bounds_5 (w : World) : Calls Try.prog 64 #[.int .i64 5] w fun e w' => e = .returned (.tuple #[.int .i64 (-1), .int .i64 1048575]) ∧ Below w.heap.size w w' := by
  have hix : ∀ w, (Instr.index 90 (.agg #[.int .i64 1, .int .i64 1048576, .int .i64 0, .int .i64 23, .int .i64 0, .int .i64 255, .int .i64 1, .int .i64 7, .int .i64 0, .int .i64 1048575, .int .i64 (-1), .int .i64 1048575]) (.int .i64 5)).run Try.prog w = .ok (.agg #[.int .i64 (-1), .int .i64 1048575]) w := fun _ => by kernel_rfl
  go_enter Try.func64, Try.ntmps64
  go_wp2
  go_quiet (fail)
  go_wp2
  go_ret2
  exact ⟨rfl, below_drewN ((Below.refl _ _).alloc (Nat.le_refl _) _) _⟩
theorem widths_any (f : Nat) (hf : f < 6) (w : World) : Calls Try.prog 47 #[.int .i64 (f : Int)] w fun e w' => e = .returned (.int .i64 (wd f)) ∧ w = w' := by
  match f, hf with
  | 0, _ => exact widths_0 w
  | 1, _ => exact widths_1 w
  | 2, _ => exact widths_2 w
  | 3, _ => exact widths_3 w
  | 4, _ => exact widths_4 w
  | 5, _ => exact widths_5 w
theorem bounds_any (f : Nat) (hf : f < 6) (w : World) : Calls Try.prog 64 #[.int .i64 (f : Int)] w fun e w' => e = .returned (.tuple #[.int .i64 (lo f), .int .i64 (hi f)]) ∧ Below w.heap.size w w' := by
  match f, hf with
  | 0, _ => exact bounds_0 w
  | 1, _ => exact bounds_1 w
  | 2, _ => exact bounds_2 w
  | 3, _ => exact bounds_3 w
  | 4, _ => exact bounds_4 w
  | 5, _ => exact bounds_5 w
def ptrs (b : Nat) : Value := .agg #[.pointer (some ⟨b, 1, none⟩), .pointer (some ⟨b, 2, none⟩), .pointer (some ⟨b, 3, none⟩), .pointer (some ⟨b, 4, none⟩), .pointer (some ⟨b, 5, none⟩), .pointer (some ⟨b, 6, none⟩)]
theorem sdN (A : World) (n : Nat) (p : Addr) (v : Value) : (A.drewN n).setCell p v = (A.setCell p v).drewN n := rfl
/-- one of two worlds -/
def pickW (b : Bool) (A B : World) : World := if b then B else A
structure PickN where
  b : Bool
  n : Nat
instance : Inhabited PickN := ⟨⟨false, 0⟩⟩
set_option maxHeartbeats 1000000 in
theorem numbers_any (b : Nat) (w : World) : Calls Try.prog 46 #[.pointer (some ⟨b, 0, none⟩)] w fun e w' => e = .returned (ptrs b) ∧ Below w.heap.size w w' := by
  go_enter Try.func46, Try.ntmps46
  go_wp2
  refine wp_region_noPanic ?_
  refine wp_region_pl (.step [true, true, true, true, true, true, true, true, true, true, true, true, true, true, true, true, true, true, true] (.cons 19 (.last []) .nil)) (fun x => ∃ q : PickN, x = (pickW q.b (w.alloc (.cells #[.pointer none, .pointer none, .pointer none, .pointer none, .pointer none, .pointer none] 68)) (w.alloc (.cells #[.pointer (some ⟨b, 1, none⟩), .pointer (some ⟨b, 2, none⟩), .pointer (some ⟨b, 3, none⟩), .pointer (some ⟨b, 4, none⟩), .pointer (some ⟨b, 5, none⟩), .pointer (some ⟨b, 6, none⟩)] 68))).drewN q.n) (by kernel_rfl) (by kernel_rfl) (by kernel_rfl) (fun _ _ _ _ _ h => h) ⟨⟨false, 1⟩, rfl⟩ ?_
  simp only [wpPl, wpBr, selF, and_true]
  repeat (go_big_quiet_step (fail))
  refine wpQuiet_nil ?_
  rintro _ ⟨⟨pb, n⟩, rfl⟩
  cases pb
  all_goals
    simp only [pickW]
    refine wpOp_step rfl (fun K hK => ?_)
    go_simp
    simp only [sdN]
    go_simp
    refine hK _ _ ⟨fun x => x = (w.alloc (.cells #[.pointer (some ⟨b, 1, none⟩), .pointer (some ⟨b, 2, none⟩), .pointer (some ⟨b, 3, none⟩), .pointer (some ⟨b, 4, none⟩), .pointer (some ⟨b, 5, none⟩), .pointer (some ⟨b, 6, none⟩)] 68)).drewN n, rfl, fun x hx => ⟨⟨true, n⟩, hx⟩, ?_⟩
    clear hK K
    refine wpQuiet_nil ?_
    rintro _ rfl
    refine NoPanic.normal ?_
    go_wp2
    exact bodyPost_ret (v := ptrs b) (by simp [results, Try.results46, go_sem, ptrs]) rfl ⟨rfl, below_drewN ((Below.refl _ _).alloc (Nat.le_refl _) _) _⟩
end Go.Proofs.Ytcffabfaefbjcaa
