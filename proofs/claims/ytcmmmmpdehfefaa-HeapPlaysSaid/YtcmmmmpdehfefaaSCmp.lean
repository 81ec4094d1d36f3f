/-
  cmp.Compare, slices.Compare at two numbers each, and the order that Sorted sorts by (chapter 15).
-/
import Derived.Test.YtcmmmmpdehfefaaHMap
namespace Go.Proofs.Ytcmmmmpdehfefaa
set_option linter.unusedVariables false
set_option linter.unusedSimpArgs false
open Go.RowKit Go.Maps
def cmpI (x y : Int) : Int := if x < y then -1 else if y < x then 1 else 0
/-- numbers and clients, by numbers, then clients -/
def cfP (x y : Int × Int) : Int := if cmpI x.1 y.1 = 0 then cmpI x.2 y.2 else cmpI x.1 y.1
set_option maxHeartbeats 1000000 in
set_option maxRecDepth 100000 in
theorem cmp_any (x y : Int) (w : World) : Calls Try.prog 40 #[.int .i64 x, .int .i64 y] w fun e w' => e = .returned (.int .i64 (cmpI x y)) ∧ w' = w := by
  have e1 : (x == x) = true := by simp
  have e2 : (y == y) = true := by simp
  by_cases h1 : x < y
  · have d1 : decide (x < y) = true := by simpa using h1
    have e : cmpI x y = -1 := by unfold cmpI; rw [if_pos h1]
    rw [e]
    go_enter Try.func40, Try.ntmps40
    go_wp2
    go_ret
    exact ⟨rfl, rfl⟩
  · have d1 : decide (x < y) = false := by simpa using h1
    by_cases h2 : y < x
    · have d2 : decide (y < x) = true := by simpa using h2
      have e : cmpI x y = 1 := by unfold cmpI; rw [if_neg h1, if_pos h2]
      rw [e]
      go_enter Try.func40, Try.ntmps40
      go_wp2
      go_ret
      exact ⟨rfl, rfl⟩
    · have d2 : decide (y < x) = false := by simpa using h2
      have e : cmpI x y = 0 := by unfold cmpI; rw [if_neg h1, if_neg h2]
      rw [e]
      go_enter Try.func40, Try.ntmps40
      go_wp2
      go_ret
      exact ⟨rfl, rfl⟩
set_option maxHeartbeats 1000000 in
set_option maxRecDepth 100000 in
theorem compare_any (a b : Nat) (x1 x2 y1 y2 : Int) (w : World) (a1 : w.cell? ⟨a, 0, none⟩ = some (.int .i64 x1)) (a2 : w.cell? ⟨a, 1, none⟩ = some (.int .i64 x2)) (b1 : w.cell? ⟨b, 0, none⟩ = some (.int .i64 y1)) (b2 : w.cell? ⟨b, 1, none⟩ = some (.int .i64 y2)) :
    Calls Try.prog 31 #[.slice (some ⟨a, 0, none⟩) 2 2, .slice (some ⟨b, 0, none⟩) 2 2] w fun e w' => e = .returned (.int .i64 (cfP (x1, x2) (y1, y2))) ∧ w' = w := by
  by_cases h1 : cmpI x1 y1 = 0
  · have e : cfP (x1, x2) (y1, y2) = cmpI x2 y2 := by unfold cfP; rw [if_pos h1]
    rw [e]
    by_cases h2 : cmpI x2 y2 = 0
    · rw [h2]
      go_enter Try.func31, Try.ntmps31
      go_wp2_with fail
      refine wp_loop_rounds 3 ?_
      rw [rounds_succ]
      go_wp2_with fail
      refine (cmp_any x1 y1 w).mono ?_
      rintro e w2 ⟨rfl, rfl⟩
      rw [h1]
      go_wp2_with fail
      rw [rounds_succ]
      go_wp2_with fail
      refine (cmp_any x2 y2 _).mono ?_
      rintro e w3 ⟨rfl, rfl⟩
      rw [h2]
      go_wp2_with fail
      rw [rounds_succ]
      go_wp2_with fail
      go_ret
      exact ⟨rfl, rfl⟩
    · have d2 : (cmpI x2 y2 == 0) = false := by simpa using h2
      go_enter Try.func31, Try.ntmps31
      go_wp2_with fail
      refine wp_loop_rounds 2 ?_
      rw [rounds_succ]
      go_wp2_with fail
      refine (cmp_any x1 y1 w).mono ?_
      rintro e w2 ⟨rfl, rfl⟩
      rw [h1]
      go_wp2_with fail
      rw [rounds_succ]
      go_wp2_with fail
      refine (cmp_any x2 y2 _).mono ?_
      rintro e w3 ⟨rfl, rfl⟩
      go_wp2_with fail
      go_ret
      exact ⟨rfl, rfl⟩
  · have e : cfP (x1, x2) (y1, y2) = cmpI x1 y1 := by unfold cfP; rw [if_neg h1]
    rw [e]
    have d1 : (cmpI x1 y1 == 0) = false := by simpa using h1
    go_enter Try.func31, Try.ntmps31
    go_wp2_with fail
    refine wp_loop_rounds 1 ?_
    rw [rounds_succ]
    go_wp2_with fail
    refine (cmp_any x1 y1 w).mono ?_
    rintro e w2 ⟨rfl, rfl⟩
    go_wp2_with fail
    go_ret
    exact ⟨rfl, rfl⟩
end Go.Proofs.Ytcmmmmpdehfefaa
