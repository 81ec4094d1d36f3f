/-
  The walk of LeaseHolds (chapter 20).
-/
import Derived.Test.YtcffabfaefbjcaaLease
namespace Go.Proofs.Ytcffabfaefbjcaa
set_option linter.unusedVariables false
open Go.RowKit
theorem base_44 (w : World) : Calls Try.prog 15 #[.int .i64 4, .int .i64 4] w fun e w' => e = .returned (.tuple #[.int .i64 8, .int .i64 0]) ∧ w = w' := base_any 4 4 w
theorem issue_9 (w : World) : Calls Try.prog 12 #[.int .i64 9, .int .i64 4, .int .i64 0, .int .i64 4] w fun e w' => e = .returned (.int .i64 170) ∧ Below w.heap.size w w' := issue_any 9 4 0 4 w
theorem issue_33 (w : World) : Calls Try.prog 12 #[.int .i64 33, .int .i64 32, .int .i64 0, .int .i64 8] w fun e w' => e = .returned (.int .i64 171) ∧ Below w.heap.size w w' := issue_any 33 32 0 8 w
theorem most_008 (w : World) : Calls Try.prog 13 #[.int .i64 0, .int .i64 0, .int .i64 8] w fun e w' => e = .returned (.int .i64 8) ∧ w = w' := most_any 0 0 8 w
theorem wakes20_any (w : World) : Calls Try.prog 14 #[] w fun e w' => e = .returned (.bool true) ∧ Below w.heap.size w w' := by
  go_enter Try.func14, Try.ntmps14
  go_wp2_with fail
  refine (base_44 w).mono ?_
  rintro e w' ⟨rfl, rfl⟩
  go_wp2_with fail
  refine (issue_9 w).mono ?_
  rintro e w1 ⟨rfl, h1⟩
  go_wp2_with fail
  refine (issue_33 w1).mono ?_
  rintro e w2 ⟨rfl, h2⟩
  go_wp2_with fail
  refine (most_008 w2).mono ?_
  rintro e w' ⟨rfl, rfl⟩
  go_wp2_with fail
  go_ret
  exact ⟨rfl, h1.trans (h2.mono h1.size)⟩
theorem issue_most (p f c k : Int) (hp : 1 ≤ p) (hf : fitsB f c k = true) : issueE p f c k ≠ 2 ∧ (issueE p f c k = 0 ↔ p ≤ mostV f c k) := by
  have hb := (fitsB_iff f c k).1 hf
  unfold issueE mostV
  rw [if_neg (by rw [hf]; simp; omega), if_pos hf]
  have hr : roomB p c = true ↔ p ≤ 1048575 ∧ p ≤ c + 32 := by
    unfold roomB inB
    simp
    omega
  by_cases h2 : f + k < p
  · rw [if_pos h2]; omega
  rw [if_neg h2]
  by_cases h3 : 1048575 < p
  · rw [if_pos h3]; omega
  rw [if_neg h3]
  by_cases h4 : p ≤ c + 32
  · rw [if_neg (by rw [hr.2 ⟨by omega, h4⟩]; simp)]; omega
  · rw [if_pos (by cases hx : roomB p c; rfl; exact absurd (hr.1 hx).2 h4)]; omega
theorem base_good (l k : Int) (hl : 0 ≤ l ∧ l ≤ 1048575) (hk : 2 ≤ k ∧ k ≤ 8) (h : l + k ≤ 1048575) (b : Int) (hb : b = l + k) (w : World) : Calls Try.prog 15 #[.int .i64 l, .int .i64 k] w fun e w' => e = .returned (.tuple #[.int .i64 b, .int .i64 0]) ∧ w = w' := by
  have hf : fitsB l 0 k = true := (fitsB_iff _ _ _).2 (by omega)
  have e1 : baseE l k = 0 := by unfold baseE; rw [hf, if_pos rfl, if_neg (by omega)]
  have e2 : baseV l k = b := by unfold baseV; rw [e1, if_pos rfl, hb]
  have := base_any l k w
  rw [e1, e2] at this
  exact this
theorem base_full (l k : Int) (hl : 0 ≤ l ∧ l ≤ 1048575) (hk : 2 ≤ k ∧ k ≤ 8) (h : 1048575 < l + k) (w : World) : Calls Try.prog 15 #[.int .i64 l, .int .i64 k] w fun e w' => e = .returned (.tuple #[.int .i64 0, .int .i64 172]) ∧ w = w' := by
  have hf : fitsB l 0 k = true := (fitsB_iff _ _ _).2 (by omega)
  have e1 : baseE l k = 172 := by unfold baseE; rw [hf, if_pos rfl, if_pos h]
  have e2 : baseV l k = 0 := by unfold baseV; rw [e1]; rfl
  have := base_any l k w
  rw [e1, e2] at this
  exact this
theorem holds_arg (p f l c k : Int) (e m : Int) (I : Hid (∀ w, Calls Try.prog 12 #[.int .i64 p, .int .i64 f, .int .i64 c, .int .i64 k] w fun e' w' => e' = .returned (.int .i64 2) ∧ Below w.heap.size w w')) (M : Hid (∀ w, Calls Try.prog 13 #[.int .i64 f, .int .i64 c, .int .i64 k] w fun e' w' => e' = .returned (.int .i64 m) ∧ w = w')) (hh : decide (p < 1) = true ∨ decide (p < 1) = false ∧ m = 0) (w : World) : Calls Try.prog 3 #[.int .i64 p, .int .i64 f, .int .i64 l, .int .i64 c, .int .i64 k] w fun e w' => e = .returned (.bool true) ∧ Below w.heap.size w w' := by
  rcases hh with d | ⟨d, rfl⟩
  · go_enter Try.func3, Try.ntmps3
    go_wp2_with fail
    refine (I.out w).mono ?_
    rintro e w1 ⟨rfl, h1⟩
    go_wp2_with fail
    refine (M.out w1).mono ?_
    rintro e w' ⟨rfl, rfl⟩
    go_wp2_with (go_at_call 14; refine (wakes20_any _).mono ?_; rintro e w2 ⟨rfl, h2⟩)
    go_ret
    exact ⟨rfl, h1.trans (h2.mono h1.size)⟩
  · go_enter Try.func3, Try.ntmps3
    go_wp2_with fail
    refine (I.out w).mono ?_
    rintro e w1 ⟨rfl, h1⟩
    go_wp2_with fail
    refine (M.out w1).mono ?_
    rintro e w' ⟨rfl, rfl⟩
    go_wp2_with (go_at_call 14; refine (wakes20_any _).mono ?_; rintro e w2 ⟨rfl, h2⟩)
    go_ret
    exact ⟨rfl, h1.trans (h2.mono h1.size)⟩
set_option maxHeartbeats 1000000 in
theorem holds_true_full (p f l c k : Int) (e m : Int) (I : Hid (∀ w, Calls Try.prog 12 #[.int .i64 p, .int .i64 f, .int .i64 c, .int .i64 k] w fun e' w' => e' = .returned (.int .i64 e) ∧ Below w.heap.size w w')) (M : Hid (∀ w, Calls Try.prog 13 #[.int .i64 f, .int .i64 c, .int .i64 k] w fun e' w' => e' = .returned (.int .i64 m) ∧ w = w')) (e2 : (e == 2) = false) (e0 : (e == 0) = true) (pm : decide (p ≤ m) = true) (hf : 0 ≤ f ∧ f ≤ 1048575) (hk : 2 ≤ k ∧ k ≤ 8) (h : 1048575 < f + k) (w : World) : Calls Try.prog 3 #[.int .i64 p, .int .i64 f, .int .i64 l, .int .i64 c, .int .i64 k] w fun e w' => e = .returned (.bool true) ∧ Below w.heap.size w w' := by
  have B := Lib.hid (base_full f k hf hk h)
  clear h hf hk
  by_cases c1 : l < f
  · have d1 : decide (l < f) = true := by simpa using c1
    clear c1
    go_enter Try.func3, Try.ntmps3
    go_wp2_with fail
    refine (I.out w).mono ?_
    rintro e w1 ⟨rfl, h1⟩
    go_wp2_with fail
    refine (M.out w1).mono ?_
    rintro e w' ⟨rfl, rfl⟩
    go_wp2_with fail
    refine (B.out _).mono ?_
    rintro e w' ⟨rfl, rfl⟩
    go_wp2_with (go_at_call 14; refine (wakes20_any _).mono ?_; rintro e w2 ⟨rfl, h2⟩)
    go_ret
    exact ⟨rfl, h1.trans (h2.mono h1.size)⟩
  have d1 : decide (l < f) = false := by simpa using c1
  by_cases c2 : 1048575 < l
  · have d2 : decide (1048575 < l) = true := by simpa using c2
    clear c1 c2
    go_enter Try.func3, Try.ntmps3
    go_wp2_with fail
    refine (I.out w).mono ?_
    rintro e w1 ⟨rfl, h1⟩
    go_wp2_with fail
    refine (M.out w1).mono ?_
    rintro e w' ⟨rfl, rfl⟩
    go_wp2_with fail
    refine (B.out _).mono ?_
    rintro e w' ⟨rfl, rfl⟩
    go_wp2_with (go_at_call 14; refine (wakes20_any _).mono ?_; rintro e w2 ⟨rfl, h2⟩)
    go_ret
    exact ⟨rfl, h1.trans (h2.mono h1.size)⟩
  · have d2 : decide (1048575 < l) = false := by simpa using c2
    clear c1 c2
    go_enter Try.func3, Try.ntmps3
    go_wp2_with fail
    refine (I.out w).mono ?_
    rintro e w1 ⟨rfl, h1⟩
    go_wp2_with fail
    refine (M.out w1).mono ?_
    rintro e w' ⟨rfl, rfl⟩
    go_wp2_with fail
    refine (B.out _).mono ?_
    rintro e w' ⟨rfl, rfl⟩
    go_wp2_with (go_at_call 14; refine (wakes20_any _).mono ?_; rintro e w2 ⟨rfl, h2⟩)
    go_ret
    exact ⟨rfl, h1.trans (h2.mono h1.size)⟩
set_option maxHeartbeats 1000000 in
theorem holds_true_low (p f l c k : Int) (e m : Int) (I : Hid (∀ w, Calls Try.prog 12 #[.int .i64 p, .int .i64 f, .int .i64 c, .int .i64 k] w fun e' w' => e' = .returned (.int .i64 e) ∧ Below w.heap.size w w')) (M : Hid (∀ w, Calls Try.prog 13 #[.int .i64 f, .int .i64 c, .int .i64 k] w fun e' w' => e' = .returned (.int .i64 m) ∧ w = w')) (e2 : (e == 2) = false) (e0 : (e == 0) = true) (pm : decide (p ≤ m) = true) (hf : 0 ≤ f ∧ f ≤ 1048575) (hk : 2 ≤ k ∧ k ≤ 8) (pb : p ≤ f + k) (h : f + k ≤ 1048575) (hl : l < f) (w : World) : Calls Try.prog 3 #[.int .i64 p, .int .i64 f, .int .i64 l, .int .i64 c, .int .i64 k] w fun e w' => e = .returned (.bool true) ∧ Below w.heap.size w w' := by
  obtain ⟨b, hb⟩ : ∃ b, b = f + k := ⟨_, rfl⟩
  have B := Lib.hid (base_good f k hf hk h b hb)
  have pb' : decide (b < p) = false := by simp; omega
  clear pb
  have d1 : decide (l < f) = true := by simpa using hl
  clear hb h hf hk hl
  go_enter Try.func3, Try.ntmps3
  go_wp2_with fail
  refine (I.out w).mono ?_
  rintro e w1 ⟨rfl, h1⟩
  go_wp2_with fail
  refine (M.out w1).mono ?_
  rintro e w' ⟨rfl, rfl⟩
  go_wp2_with fail
  refine (B.out _).mono ?_
  rintro e w' ⟨rfl, rfl⟩
  go_wp2_with (go_at_call 14; refine (wakes20_any _).mono ?_; rintro e w2 ⟨rfl, h2⟩)
  go_ret
  exact ⟨rfl, h1.trans (h2.mono h1.size)⟩
set_option maxHeartbeats 1000000 in
theorem holds_true_high (p f l c k : Int) (e m : Int) (I : Hid (∀ w, Calls Try.prog 12 #[.int .i64 p, .int .i64 f, .int .i64 c, .int .i64 k] w fun e' w' => e' = .returned (.int .i64 e) ∧ Below w.heap.size w w')) (M : Hid (∀ w, Calls Try.prog 13 #[.int .i64 f, .int .i64 c, .int .i64 k] w fun e' w' => e' = .returned (.int .i64 m) ∧ w = w')) (e2 : (e == 2) = false) (e0 : (e == 0) = true) (pm : decide (p ≤ m) = true) (hf : 0 ≤ f ∧ f ≤ 1048575) (hk : 2 ≤ k ∧ k ≤ 8) (pb : p ≤ f + k) (h : f + k ≤ 1048575) (hl : f ≤ l) (hl2 : 1048575 < l) (w : World) : Calls Try.prog 3 #[.int .i64 p, .int .i64 f, .int .i64 l, .int .i64 c, .int .i64 k] w fun e w' => e = .returned (.bool true) ∧ Below w.heap.size w w' := by
  obtain ⟨b, hb⟩ : ∃ b, b = f + k := ⟨_, rfl⟩
  have B := Lib.hid (base_good f k hf hk h b hb)
  have pb' : decide (b < p) = false := by simp; omega
  clear pb
  have d1 : decide (l < f) = false := by simp; omega
  have d2 : decide (1048575 < l) = true := by simpa using hl2
  clear hb h hf hk hl hl2
  go_enter Try.func3, Try.ntmps3
  go_wp2_with fail
  refine (I.out w).mono ?_
  rintro e w1 ⟨rfl, h1⟩
  go_wp2_with fail
  refine (M.out w1).mono ?_
  rintro e w' ⟨rfl, rfl⟩
  go_wp2_with fail
  refine (B.out _).mono ?_
  rintro e w' ⟨rfl, rfl⟩
  go_wp2_with (go_at_call 14; refine (wakes20_any _).mono ?_; rintro e w2 ⟨rfl, h2⟩)
  go_ret
  exact ⟨rfl, h1.trans (h2.mono h1.size)⟩
set_option maxHeartbeats 1000000 in
theorem holds_true_gfull (p f l c k : Int) (e m : Int) (I : Hid (∀ w, Calls Try.prog 12 #[.int .i64 p, .int .i64 f, .int .i64 c, .int .i64 k] w fun e' w' => e' = .returned (.int .i64 e) ∧ Below w.heap.size w w')) (M : Hid (∀ w, Calls Try.prog 13 #[.int .i64 f, .int .i64 c, .int .i64 k] w fun e' w' => e' = .returned (.int .i64 m) ∧ w = w')) (e2 : (e == 2) = false) (e0 : (e == 0) = true) (pm : decide (p ≤ m) = true) (hf : 0 ≤ f ∧ f ≤ 1048575) (hk : 2 ≤ k ∧ k ≤ 8) (pb : p ≤ f + k) (h : f + k ≤ 1048575) (hl : f ≤ l) (hl2 : l ≤ 1048575) (hg : 1048575 < l + k) (w : World) : Calls Try.prog 3 #[.int .i64 p, .int .i64 f, .int .i64 l, .int .i64 c, .int .i64 k] w fun e w' => e = .returned (.bool true) ∧ Below w.heap.size w w' := by
  obtain ⟨b, hb⟩ : ∃ b, b = f + k := ⟨_, rfl⟩
  have B := Lib.hid (base_good f k hf hk h b hb)
  have pb' : decide (b < p) = false := by simp; omega
  clear pb
  have d1 : decide (l < f) = false := by simp; omega
  have d2 : decide (1048575 < l) = false := by simp; omega
  have C := Lib.hid (base_full l k (by omega) hk hg)
  clear hb h hf hk hl hl2 hg
  go_enter Try.func3, Try.ntmps3
  go_wp2_with fail
  refine (I.out w).mono ?_
  rintro e w1 ⟨rfl, h1⟩
  go_wp2_with fail
  refine (M.out w1).mono ?_
  rintro e w' ⟨rfl, rfl⟩
  go_wp2_with fail
  refine (B.out _).mono ?_
  rintro e w' ⟨rfl, rfl⟩
  go_wp2_with fail
  refine (C.out _).mono ?_
  rintro e w' ⟨rfl, rfl⟩
  go_wp2_with (go_at_call 14; refine (wakes20_any _).mono ?_; rintro e w2 ⟨rfl, h2⟩)
  go_ret
  exact ⟨rfl, h1.trans (h2.mono h1.size)⟩
set_option maxHeartbeats 1000000 in
theorem holds_true_hfull (p f l c k : Int) (e m : Int) (I : Hid (∀ w, Calls Try.prog 12 #[.int .i64 p, .int .i64 f, .int .i64 c, .int .i64 k] w fun e' w' => e' = .returned (.int .i64 e) ∧ Below w.heap.size w w')) (M : Hid (∀ w, Calls Try.prog 13 #[.int .i64 f, .int .i64 c, .int .i64 k] w fun e' w' => e' = .returned (.int .i64 m) ∧ w = w')) (e2 : (e == 2) = false) (e0 : (e == 0) = true) (pm : decide (p ≤ m) = true) (hf : 0 ≤ f ∧ f ≤ 1048575) (hk : 2 ≤ k ∧ k ≤ 8) (pb : p ≤ f + k) (h : f + k ≤ 1048575) (hl : f ≤ l) (hl2 : l + k ≤ 1048575) (hh : 1048575 < l + k + k) (w : World) : Calls Try.prog 3 #[.int .i64 p, .int .i64 f, .int .i64 l, .int .i64 c, .int .i64 k] w fun e w' => e = .returned (.bool true) ∧ Below w.heap.size w w' := by
  obtain ⟨b, hb⟩ : ∃ b, b = f + k := ⟨_, rfl⟩
  have B := Lib.hid (base_good f k hf hk h b hb)
  have pb' : decide (b < p) = false := by simp; omega
  clear pb
  have d1 : decide (l < f) = false := by simp; omega
  have d2 : decide (1048575 < l) = false := by simp; omega
  obtain ⟨x, hx⟩ : ∃ x, x = l + k := ⟨_, rfl⟩
  have C := Lib.hid (base_good l k (by omega) hk hl2 x hx)
  have D := Lib.hid (base_full x k (by omega) hk (by omega))
  have d3 : decide (b ≤ x) = true := by simp; omega
  have d4 : decide (f < b) = true := by simp; omega
  clear hb h hf hk hl hl2 hh hx
  go_enter Try.func3, Try.ntmps3
  go_wp2_with fail
  refine (I.out w).mono ?_
  rintro e w1 ⟨rfl, h1⟩
  go_wp2_with fail
  refine (M.out w1).mono ?_
  rintro e w' ⟨rfl, rfl⟩
  go_wp2_with fail
  refine (B.out _).mono ?_
  rintro e w' ⟨rfl, rfl⟩
  go_wp2_with fail
  refine (C.out _).mono ?_
  rintro e w' ⟨rfl, rfl⟩
  go_wp2_with fail
  refine (D.out _).mono ?_
  rintro e w' ⟨rfl, rfl⟩
  go_wp2_with (go_at_call 14; refine (wakes20_any _).mono ?_; rintro e w2 ⟨rfl, h2⟩)
  go_ret
  exact ⟨rfl, h1.trans (h2.mono h1.size)⟩
set_option maxHeartbeats 1000000 in
theorem holds_true_all (p f l c k : Int) (e m : Int) (I : Hid (∀ w, Calls Try.prog 12 #[.int .i64 p, .int .i64 f, .int .i64 c, .int .i64 k] w fun e' w' => e' = .returned (.int .i64 e) ∧ Below w.heap.size w w')) (M : Hid (∀ w, Calls Try.prog 13 #[.int .i64 f, .int .i64 c, .int .i64 k] w fun e' w' => e' = .returned (.int .i64 m) ∧ w = w')) (e2 : (e == 2) = false) (e0 : (e == 0) = true) (pm : decide (p ≤ m) = true) (hf : 0 ≤ f ∧ f ≤ 1048575) (hk : 2 ≤ k ∧ k ≤ 8) (pb : p ≤ f + k) (h : f + k ≤ 1048575) (hl : f ≤ l) (hl2 : l + k + k ≤ 1048575) (w : World) : Calls Try.prog 3 #[.int .i64 p, .int .i64 f, .int .i64 l, .int .i64 c, .int .i64 k] w fun e w' => e = .returned (.bool true) ∧ Below w.heap.size w w' := by
  obtain ⟨b, hb⟩ : ∃ b, b = f + k := ⟨_, rfl⟩
  have B := Lib.hid (base_good f k hf hk h b hb)
  have pb' : decide (b < p) = false := by simp; omega
  clear pb
  have d1 : decide (l < f) = false := by simp; omega
  have d2 : decide (1048575 < l) = false := by simp; omega
  obtain ⟨x, hx⟩ : ∃ x, x = l + k := ⟨_, rfl⟩
  obtain ⟨y, hy⟩ : ∃ y, y = x + k := ⟨_, rfl⟩
  have C := Lib.hid (base_good l k (by omega) hk (by omega) x hx)
  have D := Lib.hid (base_good x k (by omega) hk (by omega) y hy)
  have d3 : decide (b ≤ x) = true := by simp; omega
  have d5 : decide (x < y) = true := by simp; omega
  have d4 : decide (f < b) = true := by simp; omega
  clear hb h hf hk hl hl2 hx hy
  go_enter Try.func3, Try.ntmps3
  go_wp2_with fail
  refine (I.out w).mono ?_
  rintro e w1 ⟨rfl, h1⟩
  go_wp2_with fail
  refine (M.out w1).mono ?_
  rintro e w' ⟨rfl, rfl⟩
  go_wp2_with fail
  refine (B.out _).mono ?_
  rintro e w' ⟨rfl, rfl⟩
  go_wp2_with fail
  refine (C.out _).mono ?_
  rintro e w' ⟨rfl, rfl⟩
  go_wp2_with fail
  refine (D.out _).mono ?_
  rintro e w' ⟨rfl, rfl⟩
  go_wp2_with (go_at_call 14; refine (wakes20_any _).mono ?_; rintro e w2 ⟨rfl, h2⟩)
  go_ret
  exact ⟨rfl, h1.trans (h2.mono h1.size)⟩
set_option maxHeartbeats 1000000 in
theorem holds_false_full (p f l c k : Int) (e m : Int) (I : Hid (∀ w, Calls Try.prog 12 #[.int .i64 p, .int .i64 f, .int .i64 c, .int .i64 k] w fun e' w' => e' = .returned (.int .i64 e) ∧ Below w.heap.size w w')) (M : Hid (∀ w, Calls Try.prog 13 #[.int .i64 f, .int .i64 c, .int .i64 k] w fun e' w' => e' = .returned (.int .i64 m) ∧ w = w')) (e2 : (e == 2) = false) (e0 : (e == 0) = false) (pm : decide (p ≤ m) = false) (hf : 0 ≤ f ∧ f ≤ 1048575) (hk : 2 ≤ k ∧ k ≤ 8) (h : 1048575 < f + k) (w : World) : Calls Try.prog 3 #[.int .i64 p, .int .i64 f, .int .i64 l, .int .i64 c, .int .i64 k] w fun e w' => e = .returned (.bool true) ∧ Below w.heap.size w w' := by
  have B := Lib.hid (base_full f k hf hk h)
  clear h hf hk
  by_cases c1 : l < f
  · have d1 : decide (l < f) = true := by simpa using c1
    clear c1
    go_enter Try.func3, Try.ntmps3
    go_wp2_with fail
    refine (I.out w).mono ?_
    rintro e w1 ⟨rfl, h1⟩
    go_wp2_with fail
    refine (M.out w1).mono ?_
    rintro e w' ⟨rfl, rfl⟩
    go_wp2_with fail
    refine (B.out _).mono ?_
    rintro e w' ⟨rfl, rfl⟩
    go_wp2_with (go_at_call 14; refine (wakes20_any _).mono ?_; rintro e w2 ⟨rfl, h2⟩)
    go_ret
    exact ⟨rfl, h1.trans (h2.mono h1.size)⟩
  have d1 : decide (l < f) = false := by simpa using c1
  by_cases c2 : 1048575 < l
  · have d2 : decide (1048575 < l) = true := by simpa using c2
    clear c1 c2
    go_enter Try.func3, Try.ntmps3
    go_wp2_with fail
    refine (I.out w).mono ?_
    rintro e w1 ⟨rfl, h1⟩
    go_wp2_with fail
    refine (M.out w1).mono ?_
    rintro e w' ⟨rfl, rfl⟩
    go_wp2_with fail
    refine (B.out _).mono ?_
    rintro e w' ⟨rfl, rfl⟩
    go_wp2_with (go_at_call 14; refine (wakes20_any _).mono ?_; rintro e w2 ⟨rfl, h2⟩)
    go_ret
    exact ⟨rfl, h1.trans (h2.mono h1.size)⟩
  · have d2 : decide (1048575 < l) = false := by simpa using c2
    clear c1 c2
    go_enter Try.func3, Try.ntmps3
    go_wp2_with fail
    refine (I.out w).mono ?_
    rintro e w1 ⟨rfl, h1⟩
    go_wp2_with fail
    refine (M.out w1).mono ?_
    rintro e w' ⟨rfl, rfl⟩
    go_wp2_with fail
    refine (B.out _).mono ?_
    rintro e w' ⟨rfl, rfl⟩
    go_wp2_with (go_at_call 14; refine (wakes20_any _).mono ?_; rintro e w2 ⟨rfl, h2⟩)
    go_ret
    exact ⟨rfl, h1.trans (h2.mono h1.size)⟩
set_option maxHeartbeats 1000000 in
theorem holds_false_low (p f l c k : Int) (e m : Int) (I : Hid (∀ w, Calls Try.prog 12 #[.int .i64 p, .int .i64 f, .int .i64 c, .int .i64 k] w fun e' w' => e' = .returned (.int .i64 e) ∧ Below w.heap.size w w')) (M : Hid (∀ w, Calls Try.prog 13 #[.int .i64 f, .int .i64 c, .int .i64 k] w fun e' w' => e' = .returned (.int .i64 m) ∧ w = w')) (e2 : (e == 2) = false) (e0 : (e == 0) = false) (pm : decide (p ≤ m) = false) (hf : 0 ≤ f ∧ f ≤ 1048575) (hk : 2 ≤ k ∧ k ≤ 8) (h : f + k ≤ 1048575) (hl : l < f) (w : World) : Calls Try.prog 3 #[.int .i64 p, .int .i64 f, .int .i64 l, .int .i64 c, .int .i64 k] w fun e w' => e = .returned (.bool true) ∧ Below w.heap.size w w' := by
  obtain ⟨b, hb⟩ : ∃ b, b = f + k := ⟨_, rfl⟩
  have B := Lib.hid (base_good f k hf hk h b hb)
  have d1 : decide (l < f) = true := by simpa using hl
  clear hb h hf hk hl
  go_enter Try.func3, Try.ntmps3
  go_wp2_with fail
  refine (I.out w).mono ?_
  rintro e w1 ⟨rfl, h1⟩
  go_wp2_with fail
  refine (M.out w1).mono ?_
  rintro e w' ⟨rfl, rfl⟩
  go_wp2_with fail
  refine (B.out _).mono ?_
  rintro e w' ⟨rfl, rfl⟩
  go_wp2_with (go_at_call 14; refine (wakes20_any _).mono ?_; rintro e w2 ⟨rfl, h2⟩)
  go_ret
  exact ⟨rfl, h1.trans (h2.mono h1.size)⟩
set_option maxHeartbeats 1000000 in
theorem holds_false_high (p f l c k : Int) (e m : Int) (I : Hid (∀ w, Calls Try.prog 12 #[.int .i64 p, .int .i64 f, .int .i64 c, .int .i64 k] w fun e' w' => e' = .returned (.int .i64 e) ∧ Below w.heap.size w w')) (M : Hid (∀ w, Calls Try.prog 13 #[.int .i64 f, .int .i64 c, .int .i64 k] w fun e' w' => e' = .returned (.int .i64 m) ∧ w = w')) (e2 : (e == 2) = false) (e0 : (e == 0) = false) (pm : decide (p ≤ m) = false) (hf : 0 ≤ f ∧ f ≤ 1048575) (hk : 2 ≤ k ∧ k ≤ 8) (h : f + k ≤ 1048575) (hl : f ≤ l) (hl2 : 1048575 < l) (w : World) : Calls Try.prog 3 #[.int .i64 p, .int .i64 f, .int .i64 l, .int .i64 c, .int .i64 k] w fun e w' => e = .returned (.bool true) ∧ Below w.heap.size w w' := by
  obtain ⟨b, hb⟩ : ∃ b, b = f + k := ⟨_, rfl⟩
  have B := Lib.hid (base_good f k hf hk h b hb)
  have d1 : decide (l < f) = false := by simp; omega
  have d2 : decide (1048575 < l) = true := by simpa using hl2
  clear hb h hf hk hl hl2
  go_enter Try.func3, Try.ntmps3
  go_wp2_with fail
  refine (I.out w).mono ?_
  rintro e w1 ⟨rfl, h1⟩
  go_wp2_with fail
  refine (M.out w1).mono ?_
  rintro e w' ⟨rfl, rfl⟩
  go_wp2_with fail
  refine (B.out _).mono ?_
  rintro e w' ⟨rfl, rfl⟩
  go_wp2_with (go_at_call 14; refine (wakes20_any _).mono ?_; rintro e w2 ⟨rfl, h2⟩)
  go_ret
  exact ⟨rfl, h1.trans (h2.mono h1.size)⟩
set_option maxHeartbeats 1000000 in
theorem holds_false_gfull (p f l c k : Int) (e m : Int) (I : Hid (∀ w, Calls Try.prog 12 #[.int .i64 p, .int .i64 f, .int .i64 c, .int .i64 k] w fun e' w' => e' = .returned (.int .i64 e) ∧ Below w.heap.size w w')) (M : Hid (∀ w, Calls Try.prog 13 #[.int .i64 f, .int .i64 c, .int .i64 k] w fun e' w' => e' = .returned (.int .i64 m) ∧ w = w')) (e2 : (e == 2) = false) (e0 : (e == 0) = false) (pm : decide (p ≤ m) = false) (hf : 0 ≤ f ∧ f ≤ 1048575) (hk : 2 ≤ k ∧ k ≤ 8) (h : f + k ≤ 1048575) (hl : f ≤ l) (hl2 : l ≤ 1048575) (hg : 1048575 < l + k) (w : World) : Calls Try.prog 3 #[.int .i64 p, .int .i64 f, .int .i64 l, .int .i64 c, .int .i64 k] w fun e w' => e = .returned (.bool true) ∧ Below w.heap.size w w' := by
  obtain ⟨b, hb⟩ : ∃ b, b = f + k := ⟨_, rfl⟩
  have B := Lib.hid (base_good f k hf hk h b hb)
  have d1 : decide (l < f) = false := by simp; omega
  have d2 : decide (1048575 < l) = false := by simp; omega
  have C := Lib.hid (base_full l k (by omega) hk hg)
  clear hb h hf hk hl hl2 hg
  go_enter Try.func3, Try.ntmps3
  go_wp2_with fail
  refine (I.out w).mono ?_
  rintro e w1 ⟨rfl, h1⟩
  go_wp2_with fail
  refine (M.out w1).mono ?_
  rintro e w' ⟨rfl, rfl⟩
  go_wp2_with fail
  refine (B.out _).mono ?_
  rintro e w' ⟨rfl, rfl⟩
  go_wp2_with fail
  refine (C.out _).mono ?_
  rintro e w' ⟨rfl, rfl⟩
  go_wp2_with (go_at_call 14; refine (wakes20_any _).mono ?_; rintro e w2 ⟨rfl, h2⟩)
  go_ret
  exact ⟨rfl, h1.trans (h2.mono h1.size)⟩
set_option maxHeartbeats 1000000 in
theorem holds_false_hfull (p f l c k : Int) (e m : Int) (I : Hid (∀ w, Calls Try.prog 12 #[.int .i64 p, .int .i64 f, .int .i64 c, .int .i64 k] w fun e' w' => e' = .returned (.int .i64 e) ∧ Below w.heap.size w w')) (M : Hid (∀ w, Calls Try.prog 13 #[.int .i64 f, .int .i64 c, .int .i64 k] w fun e' w' => e' = .returned (.int .i64 m) ∧ w = w')) (e2 : (e == 2) = false) (e0 : (e == 0) = false) (pm : decide (p ≤ m) = false) (hf : 0 ≤ f ∧ f ≤ 1048575) (hk : 2 ≤ k ∧ k ≤ 8) (h : f + k ≤ 1048575) (hl : f ≤ l) (hl2 : l + k ≤ 1048575) (hh : 1048575 < l + k + k) (w : World) : Calls Try.prog 3 #[.int .i64 p, .int .i64 f, .int .i64 l, .int .i64 c, .int .i64 k] w fun e w' => e = .returned (.bool true) ∧ Below w.heap.size w w' := by
  obtain ⟨b, hb⟩ : ∃ b, b = f + k := ⟨_, rfl⟩
  have B := Lib.hid (base_good f k hf hk h b hb)
  have d1 : decide (l < f) = false := by simp; omega
  have d2 : decide (1048575 < l) = false := by simp; omega
  obtain ⟨x, hx⟩ : ∃ x, x = l + k := ⟨_, rfl⟩
  have C := Lib.hid (base_good l k (by omega) hk hl2 x hx)
  have D := Lib.hid (base_full x k (by omega) hk (by omega))
  have d3 : decide (b ≤ x) = true := by simp; omega
  have d4 : decide (f < b) = true := by simp; omega
  clear hb h hf hk hl hl2 hh hx
  go_enter Try.func3, Try.ntmps3
  go_wp2_with fail
  refine (I.out w).mono ?_
  rintro e w1 ⟨rfl, h1⟩
  go_wp2_with fail
  refine (M.out w1).mono ?_
  rintro e w' ⟨rfl, rfl⟩
  go_wp2_with fail
  refine (B.out _).mono ?_
  rintro e w' ⟨rfl, rfl⟩
  go_wp2_with fail
  refine (C.out _).mono ?_
  rintro e w' ⟨rfl, rfl⟩
  go_wp2_with fail
  refine (D.out _).mono ?_
  rintro e w' ⟨rfl, rfl⟩
  go_wp2_with (go_at_call 14; refine (wakes20_any _).mono ?_; rintro e w2 ⟨rfl, h2⟩)
  go_ret
  exact ⟨rfl, h1.trans (h2.mono h1.size)⟩
set_option maxHeartbeats 1000000 in
theorem holds_false_all (p f l c k : Int) (e m : Int) (I : Hid (∀ w, Calls Try.prog 12 #[.int .i64 p, .int .i64 f, .int .i64 c, .int .i64 k] w fun e' w' => e' = .returned (.int .i64 e) ∧ Below w.heap.size w w')) (M : Hid (∀ w, Calls Try.prog 13 #[.int .i64 f, .int .i64 c, .int .i64 k] w fun e' w' => e' = .returned (.int .i64 m) ∧ w = w')) (e2 : (e == 2) = false) (e0 : (e == 0) = false) (pm : decide (p ≤ m) = false) (hf : 0 ≤ f ∧ f ≤ 1048575) (hk : 2 ≤ k ∧ k ≤ 8) (h : f + k ≤ 1048575) (hl : f ≤ l) (hl2 : l + k + k ≤ 1048575) (w : World) : Calls Try.prog 3 #[.int .i64 p, .int .i64 f, .int .i64 l, .int .i64 c, .int .i64 k] w fun e w' => e = .returned (.bool true) ∧ Below w.heap.size w w' := by
  obtain ⟨b, hb⟩ : ∃ b, b = f + k := ⟨_, rfl⟩
  have B := Lib.hid (base_good f k hf hk h b hb)
  have d1 : decide (l < f) = false := by simp; omega
  have d2 : decide (1048575 < l) = false := by simp; omega
  obtain ⟨x, hx⟩ : ∃ x, x = l + k := ⟨_, rfl⟩
  obtain ⟨y, hy⟩ : ∃ y, y = x + k := ⟨_, rfl⟩
  have C := Lib.hid (base_good l k (by omega) hk (by omega) x hx)
  have D := Lib.hid (base_good x k (by omega) hk (by omega) y hy)
  have d3 : decide (b ≤ x) = true := by simp; omega
  have d5 : decide (x < y) = true := by simp; omega
  have d4 : decide (f < b) = true := by simp; omega
  clear hb h hf hk hl hl2 hx hy
  go_enter Try.func3, Try.ntmps3
  go_wp2_with fail
  refine (I.out w).mono ?_
  rintro e w1 ⟨rfl, h1⟩
  go_wp2_with fail
  refine (M.out w1).mono ?_
  rintro e w' ⟨rfl, rfl⟩
  go_wp2_with fail
  refine (B.out _).mono ?_
  rintro e w' ⟨rfl, rfl⟩
  go_wp2_with fail
  refine (C.out _).mono ?_
  rintro e w' ⟨rfl, rfl⟩
  go_wp2_with fail
  refine (D.out _).mono ?_
  rintro e w' ⟨rfl, rfl⟩
  go_wp2_with (go_at_call 14; refine (wakes20_any _).mono ?_; rintro e w2 ⟨rfl, h2⟩)
  go_ret
  exact ⟨rfl, h1.trans (h2.mono h1.size)⟩
theorem lawLeaseHolds_walk (p f l c k : Int) (w : World) (_ : (Lit.int .i64 p).wf = true) (_ : (Lit.int .i64 f).wf = true) (_ : (Lit.int .i64 l).wf = true) (_ : (Lit.int .i64 c).wf = true) (_ : (Lit.int .i64 k).wf = true) :
    Calls Try.prog 3 #[.int .i64 p, .int .i64 f, .int .i64 l, .int .i64 c, .int .i64 k] w fun e w' => e = .returned (.bool true) ∧ Below w.heap.size w w' := by
  have M := Lib.hid (most_any f c k)
  by_cases hp : p < 1
  · have I := issue_any p f c k
    rw [show issueE p f c k = 2 by unfold issueE; rw [if_pos (Or.inl hp)]] at I
    exact holds_arg p f l c k 2 _ (Lib.hid I) M (.inl (by simpa using hp)) w
  cases hf : fitsB f c k with
  | false =>
    have I := issue_any p f c k
    rw [show issueE p f c k = 2 by unfold issueE; rw [if_pos (Or.inr hf)]] at I
    exact holds_arg p f l c k 2 _ (Lib.hid I) M (.inr ⟨by simpa using hp, by unfold mostV; rw [hf]; rfl⟩) w
  | true =>
    have I := Lib.hid (issue_any p f c k)
    obtain ⟨h2, h0⟩ := issue_most p f c k (by omega) hf
    have hb := (fitsB_iff f c k).1 hf
    have hm : mostV f c k ≤ f + k := by unfold mostV; rw [if_pos hf]; omega
    generalize issueE p f c k = e at *
    generalize mostV f c k = m at *
    have e2 : (e == 2) = false := by simpa using h2
    by_cases pm : p ≤ m
    · have e0 : (e == 0) = true := by simpa using h0.2 pm
      have pm' : decide (p ≤ m) = true := by simpa using pm
      by_cases hF : 1048575 < f + k
      · exact holds_true_full p f l c k e m I M e2 e0 pm' (by omega) (by omega) hF w
      by_cases c1 : l < f
      · exact holds_true_low p f l c k e m I M e2 e0 pm' (by omega) (by omega) (by omega) (by omega) c1 w
      by_cases c2 : 1048575 < l
      · exact holds_true_high p f l c k e m I M e2 e0 pm' (by omega) (by omega) (by omega) (by omega) (by omega) c2 w
      by_cases c3 : 1048575 < l + k
      · exact holds_true_gfull p f l c k e m I M e2 e0 pm' (by omega) (by omega) (by omega) (by omega) (by omega) (by omega) c3 w
      by_cases c4 : 1048575 < l + k + k
      · exact holds_true_hfull p f l c k e m I M e2 e0 pm' (by omega) (by omega) (by omega) (by omega) (by omega) (by omega) c4 w
      · exact holds_true_all p f l c k e m I M e2 e0 pm' (by omega) (by omega) (by omega) (by omega) (by omega) (by omega) w
    · have e0 : (e == 0) = false := by rw [beq_eq_false_iff_ne]; exact fun x => pm (h0.1 x)
      have pm' : decide (p ≤ m) = false := by simpa using pm
      by_cases hF : 1048575 < f + k
      · exact holds_false_full p f l c k e m I M e2 e0 pm' (by omega) (by omega) hF w
      by_cases c1 : l < f
      · exact holds_false_low p f l c k e m I M e2 e0 pm' (by omega) (by omega) (by omega) c1 w
      by_cases c2 : 1048575 < l
      · exact holds_false_high p f l c k e m I M e2 e0 pm' (by omega) (by omega) (by omega) (by omega) c2 w
      by_cases c3 : 1048575 < l + k
      · exact holds_false_gfull p f l c k e m I M e2 e0 pm' (by omega) (by omega) (by omega) (by omega) (by omega) c3 w
      by_cases c4 : 1048575 < l + k + k
      · exact holds_false_hfull p f l c k e m I M e2 e0 pm' (by omega) (by omega) (by omega) (by omega) (by omega) c4 w
      · exact holds_false_all p f l c k e m I M e2 e0 pm' (by omega) (by omega) (by omega) (by omega) (by omega) w
end Go.Proofs.Ytcffabfaefbjcaa
