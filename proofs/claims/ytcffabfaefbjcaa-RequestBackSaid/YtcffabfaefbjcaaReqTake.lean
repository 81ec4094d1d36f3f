/-
  What (*reader).take of request does (chapter 08).
-/
import Derived.Test.YtcffabfaefbjcaaReqPlain
import Derived.Test.YtcffabfaefbjcaaOrdersD
import Derived.Outline
import Derived.Recover
namespace Go.Proofs.Ytcffabfaefbjcaa
set_option linter.unusedVariables false
open Go.RowKit
theorem take_yes (rb : Nat) (v0 : Value) (l : List Nat) (at' wd' : Int) (h1 : 0 ≤ at' ∧ at' ≤ 9223372036854775000) (h2 : 1 ≤ wd' ∧ wd' ≤ 6) (w : World) (hr : w.heap[rb]? = some (.cells #[v0, .int .i64 at'] 79 (0, 0))) (hsl : Sl w v0 l) (he : getE l.length at' wd' = 0) :
    Calls Try.prog 60 #[.pointer (some ⟨rb, 0, none⟩), .int .i64 wd'] w fun e w' => e = .returned (.int .i64 (getV l at' wd')) ∧ ∃ n, w' = (w.setCell ⟨rb, 1, none⟩ (.int .i64 (at' + wd'))).drewN n := by
  have c0 : w.cell? ⟨rb, 0, none⟩ = some v0 := by rw [cell_of_row _ _ _ _ _ _ hr]; rfl
  have c1 : w.cell? ⟨rb, 1, none⟩ = some (.int .i64 at') := by rw [cell_of_row _ _ _ _ _ _ hr]; rfl
  have f1 := frozen_of_row _ _ 1 _ _ hr
  have HG := Lib.hid (fun w' (h : Sl w' v0 l) => get_any v0 at' wd' ⟨by omega, by omega⟩ l w' h)
  rw [he] at HG
  have HS := Lib.hid hsl
  clear hr he hsl
  generalize getV l at' wd' = V at *
  go_enter Try.func60, Try.ntmps60
  go_wp2
  refine wp_region_noPanic ?_
  refine wp_region_pl (.step [true, true, true, true, true, true, true, true, true] (.cons 9 (.last [false, false, false, false, false, false, false, false, false, false, true, true, true, true, true]) .nil)) (fun x => ∃ n, x = w.drewN n) (by kernel_rfl) (by kernel_rfl) (by kernel_rfl) (fun _ _ _ _ _ h => h) ⟨1, rfl⟩ ?_
  simp only [wpPl, wpBr, selF, and_true]
  repeat (go_big_quiet_step (fail))
  refine wpQuiet_nil ?_
  rintro _ ⟨n, rfl⟩
  refine wpOp_step rfl (fun K hK => ?_)
  go_simp
  refine (HG.out (w.drewN n) (show Sl (w.drewN n) v0 l from HS.out)).mono ?_
  rintro e x ⟨rfl, rfl⟩
  refine hK _ _ ⟨fun x => ∃ n, x = w.drewN n, ⟨n, rfl⟩, fun _ h => h, ?_⟩
  clear hK K
  repeat (go_big_quiet_step (fail))
  refine wpQuiet_nil ?_
  rintro _ ⟨m, rfl⟩
  refine NoPanic.normal ?_
  go_wp2
  go_ret
  exact ⟨rfl, m, rfl⟩
theorem take_no (rb : Nat) (v0 : Value) (l : List Nat) (at' wd' : Int) (h1 : 0 ≤ at' ∧ at' ≤ 9223372036854775000) (h2 : 1 ≤ wd' ∧ wd' ≤ 6) (w : World) (hr : w.heap[rb]? = some (.cells #[v0, .int .i64 at'] 79 (0, 0))) (hsl : Sl w v0 l) (he : getE l.length at' wd' = 50) :
    Calls Try.prog 60 #[.pointer (some ⟨rb, 0, none⟩), .int .i64 wd'] w fun e w' => e = .panicked [{ v := .iface 22 (.int .i64 50), recovered := false }] ∧ ∃ n, w' = w.drewN n := by
  have c0 : w.cell? ⟨rb, 0, none⟩ = some v0 := by rw [cell_of_row _ _ _ _ _ _ hr]; rfl
  have c1 : w.cell? ⟨rb, 1, none⟩ = some (.int .i64 at') := by rw [cell_of_row _ _ _ _ _ _ hr]; rfl
  have HG := Lib.hid (fun w' (h : Sl w' v0 l) => get_any v0 at' wd' ⟨by omega, by omega⟩ l w' h)
  rw [he] at HG
  have HS := Lib.hid hsl
  clear hr he hsl
  generalize getV l at' wd' = V at *
  go_enter Try.func60, Try.ntmps60
  go_wp2
  refine wp_region_noPanic ?_
  refine wp_region_pl (.step [true, true, true, true, true, true, true, true, true] (.cons 9 (.last [false, false, false, false, false, false, false, false, false, false, true, true, true, true, true]) .nil)) (fun x => ∃ n, x = w.drewN n) (by kernel_rfl) (by kernel_rfl) (by kernel_rfl) (fun _ _ _ _ _ h => h) ⟨1, rfl⟩ ?_
  simp only [wpPl, wpBr, selF, and_true]
  repeat (go_big_quiet_step (fail))
  refine wpQuiet_nil ?_
  rintro _ ⟨n, rfl⟩
  refine wpOp_step rfl (fun K hK => ?_)
  go_simp
  refine (HG.out (w.drewN n) (show Sl (w.drewN n) v0 l from HS.out)).mono ?_
  rintro e x ⟨rfl, rfl⟩
  refine hK _ _ ⟨fun x => ∃ n, x = w.drewN n, ⟨n, rfl⟩, fun _ h => h, ?_⟩
  clear hK K
  repeat (go_big_quiet_step (fail))
  refine wpQuiet_nil ?_
  rintro _ ⟨m, rfl⟩
  refine NoPanic.normal ?_
  go_wp2
  first
    | exact ⟨rfl, m, rfl⟩
    | exact ⟨rfl, rfl, m, rfl⟩
    | exact ⟨⟨rfl, m, rfl⟩, rfl⟩
end Go.Proofs.Ytcffabfaefbjcaa
