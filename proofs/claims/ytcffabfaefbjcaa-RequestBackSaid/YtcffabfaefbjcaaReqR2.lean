/-
  What the reference's right and May tell, at every request (chapter 08).
-/
import Derived.Test.YtcffabfaefbjcaaReqR
namespace Go.Proofs.Ytcffabfaefbjcaa
set_option linter.unusedVariables false
open Go.RowKit
set_option maxHeartbeats 2000000 in
theorem right_own_k0 (r : Rq) (hr : 0 ≤ r.k ∧ r.k ≤ 9) (ho : ownB r.k = true) (ht : 1 ≤ r.t ∧ r.t ≤ 1048576) (hk : keyB r.k = false) (hy : r.y = 0) (w : World) : Calls Try.prog 51 #[.agg r.cells] w fun e w' => e = .returned (.bool (rightB r)) ∧ Below w.heap.size w w' := by
  have h : (sizeE r.k == 0) = false := by rw [size_zero]; simp [isKind]; omega
  have H := Lib.hid (rest_of hr (.inl ⟨ho, ht.1, ht.2⟩) (fun _ => hy))
  have z : (r.t != 0) = true := by simp; omega
  have z2 : decide (r.t < 0) = false := by simp; omega
  have z3 : decide (1048576 < r.t) = false := by simp; omega
  have z4 : (r.y != 0) = false := by simp [hy]
  clear ht
  clear hy
  unfold Rq.cells
  go_enter Try.func51, Try.ntmps51
  go_wp2
  go_quiet (first | (go_at_call 22; exact Calls.quiet_of_same (sizer_any _ _)) | (go_at_call 24; exact Calls.quiet_of_same (ownr_any _ _)) | (go_at_call 49; exact Calls.quiet_of_same (keyr_any _ _)))
  go_wp2
  all_goals
    go_ret
    refine ⟨ret_bool ?_, below_drewN ((Below.refl _ _).alloc (Nat.le_refl _) _) _⟩
    rw [H.out]
    clear H z z2 z3 h
    simp only [beq_iff_eq, bne_iff_ne, beq_eq_false_iff_ne, bne_eq_false_iff_eq, ne_eq] at *
    first
      | exact (restB_yes (by unfold restP; omega)).symm
      | exact (restB_no (by unfold restP; omega)).symm
      | exact restB_o0 (by unfold restP; omega) (by unfold restP; omega)
      | exact restB_om (by unfold restP; omega) (by unfold restP; omega)
set_option maxHeartbeats 2000000 in
theorem right_free_k1 (r : Rq) (hr : 0 ≤ r.k ∧ r.k ≤ 9) (ho : ownB r.k = false) (ht : r.t = 0) (hk : keyB r.k = true) (w : World) : Calls Try.prog 51 #[.agg r.cells] w fun e w' => e = .returned (.bool (rightB r)) ∧ Below w.heap.size w w' := by
  have h : (sizeE r.k == 0) = false := by rw [size_zero]; simp [isKind]; omega
  have H := Lib.hid (rest_of hr (.inr ⟨ho, ht⟩) (fun h => (by rw [hk] at h; cases h)))
  have z : (r.t != 0) = false := by simp [ht]
  have z2 : decide (r.t < 0) = false := by simp [ht]
  have z3 : decide (1048576 < r.t) = false := by simp [ht]
  clear ht
  unfold Rq.cells
  go_enter Try.func51, Try.ntmps51
  go_wp2
  go_quiet (first | (go_at_call 22; exact Calls.quiet_of_same (sizer_any _ _)) | (go_at_call 24; exact Calls.quiet_of_same (ownr_any _ _)) | (go_at_call 49; exact Calls.quiet_of_same (keyr_any _ _)))
  go_wp2
  all_goals
    go_ret
    refine ⟨ret_bool ?_, below_drewN ((Below.refl _ _).alloc (Nat.le_refl _) _) _⟩
    rw [H.out]
    clear H z z2 z3 h
    simp only [beq_iff_eq, bne_iff_ne, beq_eq_false_iff_ne, bne_eq_false_iff_eq, ne_eq] at *
    first
      | exact (restB_yes (by unfold restP; omega)).symm
      | exact (restB_no (by unfold restP; omega)).symm
      | exact restB_o0 (by unfold restP; omega) (by unfold restP; omega)
      | exact restB_om (by unfold restP; omega) (by unfold restP; omega)
set_option maxHeartbeats 2000000 in
theorem right_free_k0 (r : Rq) (hr : 0 ≤ r.k ∧ r.k ≤ 9) (ho : ownB r.k = false) (ht : r.t = 0) (hk : keyB r.k = false) (hy : r.y = 0) (w : World) : Calls Try.prog 51 #[.agg r.cells] w fun e w' => e = .returned (.bool (rightB r)) ∧ Below w.heap.size w w' := by
  have h : (sizeE r.k == 0) = false := by rw [size_zero]; simp [isKind]; omega
  have H := Lib.hid (rest_of hr (.inr ⟨ho, ht⟩) (fun _ => hy))
  have z : (r.t != 0) = false := by simp [ht]
  have z2 : decide (r.t < 0) = false := by simp [ht]
  have z3 : decide (1048576 < r.t) = false := by simp [ht]
  have z4 : (r.y != 0) = false := by simp [hy]
  clear ht
  clear hy
  unfold Rq.cells
  go_enter Try.func51, Try.ntmps51
  go_wp2
  go_quiet (first | (go_at_call 22; exact Calls.quiet_of_same (sizer_any _ _)) | (go_at_call 24; exact Calls.quiet_of_same (ownr_any _ _)) | (go_at_call 49; exact Calls.quiet_of_same (keyr_any _ _)))
  go_wp2
  all_goals
    go_ret
    refine ⟨ret_bool ?_, below_drewN ((Below.refl _ _).alloc (Nat.le_refl _) _) _⟩
    rw [H.out]
    clear H z z2 z3 h
    simp only [beq_iff_eq, bne_iff_ne, beq_eq_false_iff_ne, bne_eq_false_iff_eq, ne_eq] at *
    first
      | exact (restB_yes (by unfold restP; omega)).symm
      | exact (restB_no (by unfold restP; omega)).symm
      | exact restB_o0 (by unfold restP; omega) (by unfold restP; omega)
      | exact restB_om (by unfold restP; omega) (by unfold restP; omega)
theorem right_any (r : Rq) (w : World) : Calls Try.prog 51 #[.agg r.cells] w fun e w' => e = .returned (.bool (rightB r)) ∧ Below w.heap.size w w' := by
  by_cases h : (sizeE r.k == 0) = true
  · exact right_size r h w
  rw [Bool.not_eq_true] at h
  have hr : 0 ≤ r.k ∧ r.k ≤ 9 := by rw [size_zero] at h; simpa [isKind] using h
  cases ho : ownB r.k
  · by_cases ht : r.t = 0
    · cases hk : keyB r.k
      · by_cases hy : r.y = 0
        · exact right_free_k0 r hr ho ht hk hy w
        · exact right_free_key r h ho ht hk hy w
      · exact right_free_k1 r hr ho ht hk w
    · exact right_free_t r h ho ht w
  · by_cases h1 : r.t < 0
    · exact right_own_neg r h ho h1 w
    by_cases h2 : 1048576 < r.t
    · exact right_own_far r h ho h2 w
    by_cases h3 : r.t = 0
    · exact right_own_t0 r h ho h3 w
    · cases hk : keyB r.k
      · by_cases hy : r.y = 0
        · exact right_own_k0 r hr ho ⟨by omega, by omega⟩ hk hy w
        · exact right_own_key r h ho ⟨by omega, by omega⟩ hk hy w
      · exact right_own_k1 r hr ho ⟨by omega, by omega⟩ hk w
/-- may the request be? -/
def mayB (r : Rq) : Bool := rightB r && decide (0 ≤ r.y ∧ r.y < 24)
theorem mayr_any (r : Rq) (w : World) : Calls Try.prog 20 #[.agg r.cells] w fun e w' => e = .returned (.bool (mayB r)) ∧ Below w.heap.size w w' := by
  have HA := Lib.hid (right_any r)
  unfold mayB
  cases hr : rightB r
  · rw [hr] at HA
    unfold Rq.cells at *
    clear hr
    go_enter Try.func20, Try.ntmps20
    go_wp2_with fail
    refine (HA.out _).mono ?_
    rintro e w1 ⟨rfl, hb⟩
    have HB := Lib.hid hb
    clear hb
    go_wp2
    go_ret
    exact ⟨rfl, ((Below.refl _ _).alloc (Nat.le_refl _) _).trans (HB.out.mono (by simp))⟩
  · rw [hr] at HA
    by_cases h1 : 0 ≤ r.y
    · by_cases h2 : r.y < 24
      · have d : decide (0 ≤ r.y ∧ r.y < 24) = true := by simp; omega
        rw [d]
        unfold Rq.cells at *
        clear hr d
        go_enter Try.func20, Try.ntmps20
        go_wp2_with fail
        refine (HA.out _).mono ?_
        rintro e w1 ⟨rfl, hb⟩
        have HB := Lib.hid hb
        have hy := cells_below (W := w) _ _ hb 2
        clear hb
        go_wp2
        go_ret
        exact ⟨rfl, ((Below.refl _ _).alloc (Nat.le_refl _) _).trans (HB.out.mono (by simp))⟩
      · have d : decide (0 ≤ r.y ∧ r.y < 24) = false := by simp; omega
        have d2 : decide (r.y < 24) = false := by simpa using h2
        rw [d]
        unfold Rq.cells at *
        clear hr d h2
        go_enter Try.func20, Try.ntmps20
        go_wp2_with fail
        refine (HA.out _).mono ?_
        rintro e w1 ⟨rfl, hb⟩
        have HB := Lib.hid hb
        have hy := cells_below (W := w) _ _ hb 2
        clear hb
        go_wp2
        go_ret
        exact ⟨rfl, ((Below.refl _ _).alloc (Nat.le_refl _) _).trans (HB.out.mono (by simp))⟩
    · have d : decide (0 ≤ r.y ∧ r.y < 24) = false := by simp; omega
      rw [d]
      unfold Rq.cells at *
      clear hr d
      go_enter Try.func20, Try.ntmps20
      go_wp2_with fail
      refine (HA.out _).mono ?_
      rintro e w1 ⟨rfl, hb⟩
      have HB := Lib.hid hb
      have hy := cells_below (W := w) _ _ hb 2
      clear hb
      go_wp2
      go_ret
      exact ⟨rfl, ((Below.refl _ _).alloc (Nat.le_refl _) _).trans (HB.out.mono (by simp))⟩
end Go.Proofs.Ytcffabfaefbjcaa
