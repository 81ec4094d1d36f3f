/-
  The closure that Sorted hands to SortFunc (chapter 15).
-/
import Derived.Test.YtcmmmmpdehfefaaSCmp
import Derived.Sort.Grow
namespace Go.Proofs.Ytcmmmmpdehfefaa
set_option linter.unusedVariables false
set_option linter.unusedSimpArgs false
open Go.RowKit Go.Maps Go.Sort
def encP (x : Int × Int) : List Value := [.int .i64 x.1, .int .i64 x.2]
set_option maxHeartbeats 1000000 in
set_option maxRecDepth 100000 in
theorem clo_any (x y : Int × Int) (w : World) : Calls Try.prog 30 #[.agg #[.int .i64 x.1, .int .i64 x.2], .agg #[.int .i64 y.1, .int .i64 y.2]] w fun e w' => e = .returned (.int .i64 (cfP x y)) ∧ ∃ q os', w' = grow (w.drewN q) os' := by
  have HC := Lib.hid (fun a b w' => compare_any a b x.1 x.2 y.1 y.2 w')
  obtain ⟨r, hr⟩ : ∃ r, cfP x y = r := ⟨_, rfl⟩
  rw [show cfP (x.1, x.2) (y.1, y.2) = cfP x y from rfl, hr] at HC
  rw [hr]
  clear hr
  go_enter Try.func30, Try.ntmps30
  go_wp2_with fail
  obtain ⟨W, hW⟩ : ∃ W, (w.alloc (.cells #[.int .i64 x.1, .int .i64 x.2] 47)).alloc (.cells #[.int .i64 y.1, .int .i64 y.2] 47) = W := ⟨_, rfl⟩
  have c1 : W.cell? ⟨w.heap.size, 0, none⟩ = some (.int .i64 x.1) := by rw [← hW]; simp [go_sem]
  have c2 : W.cell? ⟨w.heap.size, 1, none⟩ = some (.int .i64 x.2) := by rw [← hW]; simp [go_sem]
  have c3 : W.cell? ⟨w.heap.size + 1, 0, none⟩ = some (.int .i64 y.1) := by rw [← hW]; simp [go_sem]
  have c4 : W.cell? ⟨w.heap.size + 1, 1, none⟩ = some (.int .i64 y.2) := by rw [← hW]; simp [go_sem]
  rw [hW]
  have HW : Hid (W = grow w #[.cells #[.int .i64 x.1, .int .i64 x.2] 47, .cells #[.int .i64 y.1, .int .i64 y.2] 47]) := Lib.hid (by rw [← hW, alloc_eq_grow, alloc_eq_grow, grow_grow]; rfl)
  clear hW
  go_quiet (exact Calls.quiet_of_same (HC.out _ _ _ c1 c2 c3 c4))
  go_wp2
  go_ret
  exact ⟨rfl, _, _, by rw [HW.out]; rfl⟩
end Go.Proofs.Ytcmmmmpdehfefaa
