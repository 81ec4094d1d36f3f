/-
  What the reference's Own, keyed, Size, right, May tell (chapter 08).
-/
import Derived.Test.YtcffabfaefbjcaaReqW
namespace Go.Proofs.Ytcffabfaefbjcaa
set_option linter.unusedVariables false
open Go.RowKit
theorem ret_bool {a b : Bool} (h : a = b) : Ending.returned (.bool a) = .returned (.bool b) := by rw [h]
def keyB (k : Int) : Bool := k == 1 || k == 2 || k == 6
theorem ownr_any (k : Int) (w : World) : Calls Try.prog 24 #[.int .i8 k] w fun e w' => e = .returned (.bool (ownB k)) ∧ w' = w := by
  by_cases h1 : k = 1
  · subst h1; go_enter Try.func24, Try.ntmps24; go_wp2; go_ret; exact ⟨rfl, rfl⟩
  by_cases h2 : k = 2
  · subst h2; go_enter Try.func24, Try.ntmps24; go_wp2; go_ret; exact ⟨rfl, rfl⟩
  by_cases h3 : k = 3
  · subst h3; go_enter Try.func24, Try.ntmps24; go_wp2; go_ret; exact ⟨rfl, rfl⟩
  by_cases h4 : k = 4
  · subst h4; go_enter Try.func24, Try.ntmps24; go_wp2; go_ret; exact ⟨rfl, rfl⟩
  have d1 : (k == 1) = false := by simpa using h1
  have d2 : (k == 2) = false := by simpa using h2
  have d3 : (k == 3) = false := by simpa using h3
  have d4 : (k == 4) = false := by simpa using h4
  have H := Lib.hid (show ownB k = false by
    unfold ownB fieldsOf
    rw [if_neg h1, if_neg h2, if_neg h3, if_neg h4]
    split
    · rfl
    split
    · rfl
    · rfl)
  clear h1 h2 h3 h4
  go_enter Try.func24, Try.ntmps24
  go_wp2
  go_ret
  exact ⟨ret_bool H.out.symm, rfl⟩
theorem keyr_any (k : Int) (w : World) : Calls Try.prog 49 #[.int .i8 k] w fun e w' => e = .returned (.bool (keyB k)) ∧ w' = w := by
  unfold keyB
  by_cases h1 : k = 1
  · subst h1; go_enter Try.func49, Try.ntmps49; go_wp2; go_ret; exact ⟨rfl, rfl⟩
  by_cases h2 : k = 2
  · subst h2; go_enter Try.func49, Try.ntmps49; go_wp2; go_ret; exact ⟨rfl, rfl⟩
  have d1 : (k == 1) = false := by simpa using h1
  have d2 : (k == 2) = false := by simpa using h2
  have H := Lib.hid (show (k == 1 || k == 2 || k == 6) = (k == 6) by rw [d1, d2]; rfl)
  clear h1 h2
  go_enter Try.func49, Try.ntmps49
  go_wp2
  go_ret
  exact ⟨ret_bool H.out.symm, rfl⟩
theorem sizeE_of (k : Int) : sizeE k = if k = 0 then 1 else if k = 1 then 5 else if k = 2 then 6 else if k = 3 then 4 else if k = 4 then 4 else if k = 5 then 14 else if k = 6 then 2 else if 7 ≤ k ∧ k ≤ 9 then 1 else 0 := by
  unfold sizeE isKind
  by_cases h : 0 ≤ k ∧ k ≤ 9
  · have : k = 0 ∨ k = 1 ∨ k = 2 ∨ k = 3 ∨ k = 4 ∨ k = 5 ∨ k = 6 ∨ k = 7 ∨ k = 8 ∨ k = 9 := by omega
    rcases this with rfl | rfl | rfl | rfl | rfl | rfl | rfl | rfl | rfl | rfl <;> rfl
  · have : decide (0 ≤ k ∧ k ≤ 9) = false := by simpa using h
    rw [this, if_neg (by simp), if_neg (by omega), if_neg (by omega), if_neg (by omega), if_neg (by omega), if_neg (by omega), if_neg (by omega), if_neg (by omega), if_neg (by omega)]
theorem sizer_any (k : Int) (w : World) : Calls Try.prog 22 #[.int .i8 k] w fun e w' => e = .returned (.int .i64 (sizeE k)) ∧ w' = w := by
  by_cases h : 0 ≤ k ∧ k ≤ 9
  · have : k = 0 ∨ k = 1 ∨ k = 2 ∨ k = 3 ∨ k = 4 ∨ k = 5 ∨ k = 6 ∨ k = 7 ∨ k = 8 ∨ k = 9 := by omega
    rcases this with rfl | rfl | rfl | rfl | rfl | rfl | rfl | rfl | rfl | rfl
    all_goals
      go_enter Try.func22, Try.ntmps22
      go_wp2_with (first | (go_at_call 24; refine (ownr_any _ _).mono ?_; rintro e w1 ⟨rfl, rfl⟩) | (go_at_call 49; refine (keyr_any _ _).mono ?_; rintro e w1 ⟨rfl, rfl⟩))
      go_ret
      exact ⟨rfl, rfl⟩
  · have H := Lib.hid (show sizeE k = 0 by
      have : isKind k = false := by simpa [isKind] using h
      unfold sizeE; rw [this]; rfl)
    by_cases h0 : k < 0
    · clear h
      go_enter Try.func22, Try.ntmps22
      go_wp2
      go_ret
      exact ⟨ret_int H.out.symm, rfl⟩
    · have h9 : 9 < k := by omega
      have d0 : decide (k < 0) = false := by simpa using h0
      clear h h0
      go_enter Try.func22, Try.ntmps22
      go_wp2
      go_ret
      exact ⟨ret_int H.out.symm, rfl⟩
/-- may the request be, but for the key? -/
def rightP (r : Rq) : Prop := (0 ≤ r.k ∧ r.k ≤ 9) ∧ (ownB r.k = true ∧ 1 ≤ r.t ∧ r.t ≤ 1048576 ∨ ownB r.k = false ∧ r.t = 0) ∧ (keyB r.k = false → r.y = 0) ∧
  (r.k = 2 → 0 ≤ r.v ∧ r.v ≤ 255) ∧ (r.k ≠ 2 → r.v = 0) ∧ (r.k = 5 → 1 ≤ r.p ∧ r.p ≤ 7 ∧ 0 ≤ r.f ∧ r.f ≤ 1048575 ∧ -1 ≤ r.o ∧ r.o ≤ 1048575) ∧ (r.k ≠ 5 → r.p = 0 ∧ r.f = 0 ∧ r.o = 0)
instance (r : Rq) : Decidable (rightP r) := by unfold rightP; infer_instance
def rightB (r : Rq) : Bool := decide (rightP r)
theorem rightB_yes {r : Rq} (h : rightP r) : rightB r = true := by unfold rightB; exact decide_eq_true h
theorem rightB_no {r : Rq} (h : ¬ rightP r) : rightB r = false := by unfold rightB; exact decide_eq_false h
theorem size_zero (k : Int) : (sizeE k == 0) = !isKind k := by
  rw [sizeE_of]
  unfold isKind
  by_cases h : 0 ≤ k ∧ k ≤ 9
  · have : k = 0 ∨ k = 1 ∨ k = 2 ∨ k = 3 ∨ k = 4 ∨ k = 5 ∨ k = 6 ∨ k = 7 ∨ k = 8 ∨ k = 9 := by omega
    rcases this with rfl | rfl | rfl | rfl | rfl | rfl | rfl | rfl | rfl | rfl <;> rfl
  · rw [if_neg (by omega), if_neg (by omega), if_neg (by omega), if_neg (by omega), if_neg (by omega), if_neg (by omega), if_neg (by omega), if_neg (by omega)]
    simp [h]
theorem right_size (r : Rq) (h : (sizeE r.k == 0) = true) (w : World) : Calls Try.prog 51 #[.agg r.cells] w fun e w' => e = .returned (.bool (rightB r)) ∧ Below w.heap.size w w' := by
  have H := Lib.hid (show rightB r = false by
    refine rightB_no fun hr => ?_
    rw [size_zero] at h
    simp [isKind] at h
    exact absurd hr.1 (by omega))
  unfold Rq.cells
  go_enter Try.func51, Try.ntmps51
  go_wp2
  go_quiet (first | (go_at_call 22; exact Calls.quiet_of_same (sizer_any _ _)) | (go_at_call 24; exact Calls.quiet_of_same (ownr_any _ _)) | (go_at_call 49; exact Calls.quiet_of_same (keyr_any _ _)))
  go_wp2
  go_ret
  exact ⟨ret_bool H.out.symm, below_drewN ((Below.refl _ _).alloc (Nat.le_refl _) _) _⟩
def restP (r : Rq) : Prop := (r.k = 2 → 0 ≤ r.v ∧ r.v ≤ 255) ∧ (r.k ≠ 2 → r.v = 0) ∧ (r.k = 5 → 1 ≤ r.p ∧ r.p ≤ 7 ∧ 0 ≤ r.f ∧ r.f ≤ 1048575 ∧ -1 ≤ r.o ∧ r.o ≤ 1048575) ∧ (r.k ≠ 5 → r.p = 0 ∧ r.f = 0 ∧ r.o = 0)
instance (r : Rq) : Decidable (restP r) := by unfold restP; infer_instance
def restB (r : Rq) : Bool := decide (restP r)
theorem restB_yes {r : Rq} (h : restP r) : restB r = true := by unfold restB; exact decide_eq_true h
theorem restB_no {r : Rq} (h : ¬ restP r) : restB r = false := by unfold restB; exact decide_eq_false h
theorem rest_of {r : Rq} (h1 : 0 ≤ r.k ∧ r.k ≤ 9) (h2 : ownB r.k = true ∧ 1 ≤ r.t ∧ r.t ≤ 1048576 ∨ ownB r.k = false ∧ r.t = 0) (h3 : keyB r.k = false → r.y = 0) : rightB r = restB r := by
  by_cases h : restP r
  · rw [restB_yes h]; exact rightB_yes ⟨h1, h2, h3, h⟩
  · rw [restB_no h]; exact rightB_no fun hr => h hr.2.2.2
theorem right_own_t0 (r : Rq) (h : (sizeE r.k == 0) = false) (ho : ownB r.k = true) (ht : r.t = 0) (w : World) : Calls Try.prog 51 #[.agg r.cells] w fun e w' => e = .returned (.bool (rightB r)) ∧ Below w.heap.size w w' := by
  have H := Lib.hid (show rightB r = false by
    refine rightB_no fun hr => ?_
    rcases hr.2.1 with ⟨_, h1, _⟩ | ⟨h1, _⟩
    · omega
    · rw [ho] at h1; cases h1)
  have z : (r.t != 0) = false := by simp [ht]
  clear ht
  unfold Rq.cells
  go_enter Try.func51, Try.ntmps51
  go_wp2
  go_quiet (first | (go_at_call 22; exact Calls.quiet_of_same (sizer_any _ _)) | (go_at_call 24; exact Calls.quiet_of_same (ownr_any _ _)) | (go_at_call 49; exact Calls.quiet_of_same (keyr_any _ _)))
  go_wp2
  go_ret
  exact ⟨ret_bool H.out.symm, below_drewN ((Below.refl _ _).alloc (Nat.le_refl _) _) _⟩
theorem right_free_t (r : Rq) (h : (sizeE r.k == 0) = false) (ho : ownB r.k = false) (ht : r.t ≠ 0) (w : World) : Calls Try.prog 51 #[.agg r.cells] w fun e w' => e = .returned (.bool (rightB r)) ∧ Below w.heap.size w w' := by
  have H := Lib.hid (show rightB r = false by
    refine rightB_no fun hr => ?_
    rcases hr.2.1 with ⟨h1, _⟩ | ⟨_, h1⟩
    · rw [ho] at h1; cases h1
    · exact ht h1)
  have z : (r.t != 0) = true := by simp [ht]
  clear ht
  unfold Rq.cells
  go_enter Try.func51, Try.ntmps51
  go_wp2
  go_quiet (first | (go_at_call 22; exact Calls.quiet_of_same (sizer_any _ _)) | (go_at_call 24; exact Calls.quiet_of_same (ownr_any _ _)) | (go_at_call 49; exact Calls.quiet_of_same (keyr_any _ _)))
  go_wp2
  go_ret
  exact ⟨ret_bool H.out.symm, below_drewN ((Below.refl _ _).alloc (Nat.le_refl _) _) _⟩
theorem right_own_neg (r : Rq) (h : (sizeE r.k == 0) = false) (ho : ownB r.k = true) (ht : r.t < 0) (w : World) : Calls Try.prog 51 #[.agg r.cells] w fun e w' => e = .returned (.bool (rightB r)) ∧ Below w.heap.size w w' := by
  have H := Lib.hid (show rightB r = false by
    refine rightB_no fun hr => ?_
    rcases hr.2.1 with ⟨_, h1, _⟩ | ⟨_, h1⟩
    · omega
    · omega)
  have z : (r.t != 0) = true := by simp; omega
  have z2 : decide (r.t < 0) = true := by simpa using ht
  clear ht
  unfold Rq.cells
  go_enter Try.func51, Try.ntmps51
  go_wp2
  go_quiet (first | (go_at_call 22; exact Calls.quiet_of_same (sizer_any _ _)) | (go_at_call 24; exact Calls.quiet_of_same (ownr_any _ _)) | (go_at_call 49; exact Calls.quiet_of_same (keyr_any _ _)))
  go_wp2
  go_ret
  exact ⟨ret_bool H.out.symm, below_drewN ((Below.refl _ _).alloc (Nat.le_refl _) _) _⟩
theorem right_own_far (r : Rq) (h : (sizeE r.k == 0) = false) (ho : ownB r.k = true) (ht : 1048576 < r.t) (w : World) : Calls Try.prog 51 #[.agg r.cells] w fun e w' => e = .returned (.bool (rightB r)) ∧ Below w.heap.size w w' := by
  have H := Lib.hid (show rightB r = false by
    refine rightB_no fun hr => ?_
    rcases hr.2.1 with ⟨_, h1, _⟩ | ⟨_, h1⟩
    · omega
    · omega)
  have z : (r.t != 0) = true := by simp; omega
  have z2 : decide (r.t < 0) = false := by simp; omega
  have z3 : decide (1048576 < r.t) = true := by simpa using ht
  clear ht
  unfold Rq.cells
  go_enter Try.func51, Try.ntmps51
  go_wp2
  go_quiet (first | (go_at_call 22; exact Calls.quiet_of_same (sizer_any _ _)) | (go_at_call 24; exact Calls.quiet_of_same (ownr_any _ _)) | (go_at_call 49; exact Calls.quiet_of_same (keyr_any _ _)))
  go_wp2
  go_ret
  exact ⟨ret_bool H.out.symm, below_drewN ((Below.refl _ _).alloc (Nat.le_refl _) _) _⟩
theorem right_own_key (r : Rq) (h : (sizeE r.k == 0) = false) (ho : ownB r.k = true) (ht : 1 ≤ r.t ∧ r.t ≤ 1048576) (hk : keyB r.k = false) (hy : r.y ≠ 0) (w : World) : Calls Try.prog 51 #[.agg r.cells] w fun e w' => e = .returned (.bool (rightB r)) ∧ Below w.heap.size w w' := by
  have H := Lib.hid (show rightB r = false by
    refine rightB_no fun hr => ?_
    exact hy (hr.2.2.1 hk))
  have z : (r.t != 0) = true := by simp; omega
  have z2 : decide (r.t < 0) = false := by simp; omega
  have z3 : decide (1048576 < r.t) = false := by simp; omega
  have z4 : (r.y != 0) = true := by simp [hy]
  clear ht
  clear hy
  unfold Rq.cells
  go_enter Try.func51, Try.ntmps51
  go_wp2
  go_quiet (first | (go_at_call 22; exact Calls.quiet_of_same (sizer_any _ _)) | (go_at_call 24; exact Calls.quiet_of_same (ownr_any _ _)) | (go_at_call 49; exact Calls.quiet_of_same (keyr_any _ _)))
  go_wp2
  go_ret
  exact ⟨ret_bool H.out.symm, below_drewN ((Below.refl _ _).alloc (Nat.le_refl _) _) _⟩
theorem right_free_key (r : Rq) (h : (sizeE r.k == 0) = false) (ho : ownB r.k = false) (ht : r.t = 0) (hk : keyB r.k = false) (hy : r.y ≠ 0) (w : World) : Calls Try.prog 51 #[.agg r.cells] w fun e w' => e = .returned (.bool (rightB r)) ∧ Below w.heap.size w w' := by
  have H := Lib.hid (show rightB r = false by
    refine rightB_no fun hr => ?_
    exact hy (hr.2.2.1 hk))
  have z : (r.t != 0) = false := by simp [ht]
  have z2 : decide (r.t < 0) = false := by simp [ht]
  have z3 : decide (1048576 < r.t) = false := by simp [ht]
  have z4 : (r.y != 0) = true := by simp [hy]
  clear ht
  clear hy
  unfold Rq.cells
  go_enter Try.func51, Try.ntmps51
  go_wp2
  go_quiet (first | (go_at_call 22; exact Calls.quiet_of_same (sizer_any _ _)) | (go_at_call 24; exact Calls.quiet_of_same (ownr_any _ _)) | (go_at_call 49; exact Calls.quiet_of_same (keyr_any _ _)))
  go_wp2
  go_ret
  exact ⟨ret_bool H.out.symm, below_drewN ((Below.refl _ _).alloc (Nat.le_refl _) _) _⟩
theorem restB_o0 {r : Rq} (h1 : restP r → r.o = 0) (h2 : r.o = 0 → restP r) : (r.o == 0) = restB r := by
  unfold restB
  rw [Bool.eq_iff_iff]
  simp only [beq_iff_eq, decide_eq_true_eq]
  exact ⟨h2, h1⟩
theorem restB_om {r : Rq} (h1 : restP r → r.o ≤ 1048575) (h2 : r.o ≤ 1048575 → restP r) : decide (r.o ≤ 1048575) = restB r := by
  unfold restB
  exact decide_eq_decide.2 ⟨h2, h1⟩
set_option maxHeartbeats 2000000 in
theorem right_own_k1 (r : Rq) (hr : 0 ≤ r.k ∧ r.k ≤ 9) (ho : ownB r.k = true) (ht : 1 ≤ r.t ∧ r.t ≤ 1048576) (hk : keyB r.k = true) (w : World) : Calls Try.prog 51 #[.agg r.cells] w fun e w' => e = .returned (.bool (rightB r)) ∧ Below w.heap.size w w' := by
  have h : (sizeE r.k == 0) = false := by rw [size_zero]; simp [isKind]; omega
  have H := Lib.hid (rest_of hr (.inl ⟨ho, ht.1, ht.2⟩) (fun h => (by rw [hk] at h; cases h)))
  have z : (r.t != 0) = true := by simp; omega
  have z2 : decide (r.t < 0) = false := by simp; omega
  have z3 : decide (1048576 < r.t) = false := by simp; omega
  clear ht
  unfold Rq.cells
  go_enter Try.func51, Try.ntmps51
  go_wp2
  go_quiet (first | (go_at_call 22; exact Calls.quiet_of_same (sizer_any _ _)) | (go_at_call 24; exact Calls.quiet_of_same (ownr_any _ _)) | (go_at_call 49; exact Calls.quiet_of_same (keyr_any _ _)))
  go_wp2
  all_goals
    go_ret
    refine ⟨ret_bool ?_, below_drewN ((Below.refl _ _).alloc (Nat.le_refl _) _) _⟩
    rw [H.out]
    clear H z z2 z3 h
    simp only [beq_iff_eq, bne_iff_ne, beq_eq_false_iff_ne, bne_eq_false_iff_eq, ne_eq] at *
    first
      | exact (restB_yes (by unfold restP; omega)).symm
      | exact (restB_no (by unfold restP; omega)).symm
      | exact restB_o0 (by unfold restP; omega) (by unfold restP; omega)
      | exact restB_om (by unfold restP; omega) (by unfold restP; omega)
end Go.Proofs.Ytcffabfaefbjcaa
