/-
  The walk of PackDigits (chapter 01).
-/
import Derived.Test.YtifgbhakbgakmaaPackLaws
namespace Go.Proofs.Ytifgbhakbgakmaa
set_option linter.unusedVariables false
open Go.RowKit Go.ChangeShapes
theorem get_good (v0 : Value) (A K : Nat) (h1 : 1 ≤ K) (h2 : K ≤ 6) (l : List Nat) (w : World) (hsl : Sl w v0 l) (hat : A + K ≤ l.length) (a k : Int) (ha : a = (A : Int)) (hk : k = (K : Int)) :
    Calls Try.prog 34 #[v0, .int .i64 a, .int .i64 k] w fun e w' => e = .returned (.tuple #[.int .i64 (num ((l.drop A).take K) : Nat), .int .i64 0]) ∧ w = w' := by
  subst ha hk
  obtain ⟨ao, cap, e, hc, hm⟩ := hsl.open
  have hh := get_any v0 A K ⟨by omega, by omega⟩ l w hsl
  rw [(getE_0 l (by omega) (by omega) (by omega) (by omega) (by omega)).1, (getE_0 l (by omega) (by omega) (by omega) (by omega) (by omega)).2] at hh
  exact hh
theorem get_bad (v0 : Value) (a k : Int) (h1 : 1 ≤ k) (h2 : k ≤ 6) (h3 : 0 ≤ a) (h4 : a ≤ 9223372036854775807) (l : List Nat) (w : World) (hsl : Sl w v0 l) (hat : (l.length : Int) < a + k) :
    Calls Try.prog 34 #[v0, .int .i64 a, .int .i64 k] w fun e w' => e = .returned (.tuple #[.int .i64 0, .int .i64 50]) ∧ w = w' := by
  have hh := get_any v0 a k ⟨by omega, by omega⟩ l w hsl
  rw [(getE_50 l (by omega) (by omega) (by omega)).1, (getE_50 l (by omega) (by omega) (by omega)).2] at hh
  exact hh
theorem digits_num (l : List Nat) (A K : Nat) (h : A + (K + 1) ≤ l.length) : num ((l.drop A).take (K + 1)) = num ((l.drop A).take 1) + 256 * num ((l.drop (A + 1)).take K) := by
  rw [getr_step l A K (by omega) (K + 1) rfl, getr_step l A 0 (by omega) 1 rfl]
  simp [num]
theorem digits_eq (l : List Nat) (A K : Nat) (h : A + (K + 1) ≤ l.length) : ((num ((l.drop A).take (K + 1)) : Nat) : Int) = (num ((l.drop A).take 1) : Nat) + 256 * (num ((l.drop (A + 1)).take K) : Nat) := by
  have := digits_num l A K h
  omega
theorem num_le (l : List Nat) (hl : IsBytes l) (A K : Nat) (hK : K ≤ 6) : num ((l.drop A).take K) ≤ 281474976710655 := by
  have h1 := num_lt _ ((hl.drop A).take K)
  have h2 : ((l.drop A).take K).length ≤ 6 := by rw [List.length_take]; omega
  have h3 : 256 ^ ((l.drop A).take K).length ≤ 256 ^ 6 := Nat.pow_le_pow_right (by omega) h2
  have h4 : 256 ^ 6 = 281474976710656 := by decide
  omega
theorem lawPackDigits_walk (v0 : Value) (l0 : List Nat) (a1 a2 : Int) (w : World) (w0 : Sl w v0 l0) (w1 : (Lit.int .i64 a1).wf = true) (w2 : (Lit.int .i64 a2).wf = true) :
    Calls Try.prog 12 #[v0, .int .i64 a1, .int .i64 a2] w fun e w' => e = .returned (.bool true) ∧ Below w.heap.size w w' := by
  have b1 := bounds_i64 w1
  clear w1 w2
  obtain ⟨ao, cap, rfl, hc1, hc2⟩ := w0.open
  by_cases hlen : 2000 < l0.length
  · go_enter Try.func12, Try.ntmps12
    go_wp2_with (go_at_call 25; refine (wakes01_any _).mono ?_; rintro e w' ⟨rfl, hb⟩)
    go_ret
    exact ⟨rfl, hb⟩
  have d0 : decide (2000 < l0.length) = false := by simp; omega
  by_cases h1 : a2 < 2
  · have d1 : decide (a2 < 2) = true := by simp; omega
    go_enter Try.func12, Try.ntmps12
    go_wp2_with (go_at_call 25; refine (wakes01_any _).mono ?_; rintro e w' ⟨rfl, hb⟩)
    go_ret
    exact ⟨rfl, hb⟩
  have d1 : decide (a2 < 2) = false := by simp; omega
  by_cases h2 : 6 < a2
  · have d2 : decide (6 < a2) = true := by simp; omega
    go_enter Try.func12, Try.ntmps12
    go_wp2_with (go_at_call 25; refine (wakes01_any _).mono ?_; rintro e w' ⟨rfl, hb⟩)
    go_ret
    exact ⟨rfl, hb⟩
  have d2 : decide (6 < a2) = false := by simp; omega
  by_cases h3 : a1 < 0
  · have d3 : decide (a1 < 0) = true := by simp; omega
    go_enter Try.func12, Try.ntmps12
    go_wp2_with (go_at_call 25; refine (wakes01_any _).mono ?_; rintro e w' ⟨rfl, hb⟩)
    go_ret
    exact ⟨rfl, hb⟩
  have d3 : decide (a1 < 0) = false := by simp; omega
  by_cases h4 : 2000 < a1
  · have d4 : decide (2000 < a1) = true := by simp; omega
    go_enter Try.func12, Try.ntmps12
    go_wp2_with (go_at_call 25; refine (wakes01_any _).mono ?_; rintro e w' ⟨rfl, hb⟩)
    go_ret
    exact ⟨rfl, hb⟩
  have d4 : decide (2000 < a1) = false := by simp; omega
  obtain ⟨A, rfl⟩ := Int.eq_ofNat_of_zero_le (show 0 ≤ a1 by omega)
  obtain ⟨K0, rfl⟩ := Int.eq_ofNat_of_zero_le (show 0 ≤ a2 by omega)
  obtain ⟨K, rfl⟩ : ∃ K, K0 = K + 1 := ⟨K0 - 1, by omega⟩
  by_cases hin : A + (K + 1) ≤ l0.length
  · have HE := Lib.hid (digits_eq l0 A K hin)
    have n0 := num_le l0 w0.bytes A (K + 1) (by omega)
    have n1 := num_le l0 w0.bytes A 1 (by omega)
    have n2 := num_le l0 w0.bytes (A + 1) K (by omega)
    have c1 := fun w hsl => get_good (.slice ao l0.length cap) A (K + 1) (by omega) (by omega) l0 w hsl hin (A : Int) ((K + 1 : Nat) : Int) rfl rfl
    have c2 := fun w hsl => get_good (.slice ao l0.length cap) A 1 (by omega) (by omega) l0 w hsl (by omega) (A : Int) 1 rfl rfl
    have c3 := fun w hsl => get_good (.slice ao l0.length cap) (A + 1) K (by omega) (by omega) l0 w hsl (by omega)
    have C1 := Lib.hid c1; have C2 := Lib.hid c2; have C3 := Lib.hid c3
    clear c1 c2 c3
    generalize num ((l0.drop A).take (K + 1)) = x0 at *
    generalize num ((l0.drop A).take 1) = x1 at *
    generalize num ((l0.drop (A + 1)).take K) = x2 at *
    go_enter Try.func12, Try.ntmps12
    go_wp2_with fail
    refine (C1.out w w0).mono ?_
    rintro e w' ⟨rfl, rfl⟩
    go_wp2_with fail
    refine (C2.out w w0).mono ?_
    rintro e w' ⟨rfl, rfl⟩
    go_wp2_with fail
    refine (C3.out w w0 _ _ (by omega) (by omega)).mono ?_
    rintro e w' ⟨rfl, rfl⟩
    have ht : ((x0 : Int) == (x1 : Int) + 256 * (x2 : Int)) = true := by rw [beq_iff_eq]; exact HE.out
    go_wp2_with (go_at_call 25; refine (wakes01_any _).mono ?_; rintro e w' ⟨rfl, hb⟩)
    go_ret
    exact ⟨rfl, hb⟩
  · by_cases hin2 : A + 1 ≤ l0.length
    · have C1 := Lib.hid (get_bad (.slice ao l0.length cap) (A : Int) ((K + 1 : Nat) : Int) (by omega) (by omega) (by omega) (by omega) l0 w w0 (by omega))
      have C2 := Lib.hid (get_good (.slice ao l0.length cap) A 1 (by omega) (by omega) l0 w w0 (by omega) (A : Int) 1 rfl rfl)
      have C3 := Lib.hid (fun a k h1 h2 h3 h4 h5 => get_bad (.slice ao l0.length cap) a k h1 h2 h3 h4 l0 w w0 h5)
      go_enter Try.func12, Try.ntmps12
      go_wp2_with fail
      refine C1.out.mono ?_
      rintro e w' ⟨rfl, rfl⟩
      go_wp2_with fail
      refine C2.out.mono ?_
      rintro e w' ⟨rfl, rfl⟩
      go_wp2_with fail
      refine (C3.out _ _ (by omega) (by omega) (by omega) (by omega) (by omega)).mono ?_
      rintro e w' ⟨rfl, rfl⟩
      go_wp2_with (go_at_call 25; refine (wakes01_any _).mono ?_; rintro e w' ⟨rfl, hb⟩)
      go_ret
      exact ⟨rfl, hb⟩
    · have C1 := Lib.hid (get_bad (.slice ao l0.length cap) (A : Int) ((K + 1 : Nat) : Int) (by omega) (by omega) (by omega) (by omega) l0 w w0 (by omega))
      have C2 := Lib.hid (get_bad (.slice ao l0.length cap) (A : Int) 1 (by omega) (by omega) (by omega) (by omega) l0 w w0 (by omega))
      have C3 := Lib.hid (fun a k h1 h2 h3 h4 h5 => get_bad (.slice ao l0.length cap) a k h1 h2 h3 h4 l0 w w0 h5)
      go_enter Try.func12, Try.ntmps12
      go_wp2_with fail
      refine C1.out.mono ?_
      rintro e w' ⟨rfl, rfl⟩
      go_wp2_with fail
      refine C2.out.mono ?_
      rintro e w' ⟨rfl, rfl⟩
      go_wp2_with fail
      refine (C3.out _ _ (by omega) (by omega) (by omega) (by omega) (by omega)).mono ?_
      rintro e w' ⟨rfl, rfl⟩
      go_wp2_with (go_at_call 25; refine (wakes01_any _).mono ?_; rintro e w' ⟨rfl, hb⟩)
      go_ret
      exact ⟨rfl, hb⟩
end Go.Proofs.Ytifgbhakbgakmaa
