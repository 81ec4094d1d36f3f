import Derived.Test.YtcffabfaefbjcaaPackGet
namespace Go.Proofs.Ytcffabfaefbjcaa
set_option linter.unusedVariables false
open Go.RowKit
theorem Sl.open {w : World} {v : Value} {l : List Nat} (h : Sl w v l) : ∃ ao cap, v = .slice ao l.length cap ∧ l.length ≤ cap ∧ cap ≤ 9223372036854775807 := by
  obtain ⟨_, ao, cap, e, h1, h2, _⟩ := h
  exact ⟨ao, cap, e, h1, by unfold maxLen at h2; exact h2⟩
def putE (n k : Int) : Int := if 1 ≤ k ∧ k ≤ 6 ∧ 0 ≤ n ∧ n < (256 : Int) ^ k.toNat then 0 else 2
def putL (l : List Nat) (n k : Int) : List Nat := if 1 ≤ k ∧ k ≤ 6 ∧ 0 ≤ n ∧ n < (256 : Int) ^ k.toNat then l ++ le k.toNat n.toNat else []
def getE (len : Nat) (a k : Int) : Int := if k < 1 ∨ 6 < k then 2 else if a < 0 ∨ (len : Int) < a ∨ (len : Int) - a < k then 50 else 0
def getV (l : List Nat) (a k : Int) : Int := if getE l.length a k = 0 then ((num ((l.drop a.toNat).take k.toNat) : Nat) : Int) else 0
theorem noFit_of {n k : Int} (h : ¬ (1 ≤ k ∧ k ≤ 6 ∧ 0 ≤ n ∧ n < (256 : Int) ^ k.toNat)) : NoFit n k := by
  unfold NoFit
  by_cases h1 : k < 1
  · exact .inl h1
  by_cases h2 : 6 < k
  · exact .inr (.inl h2)
  by_cases h3 : n < 0
  · exact .inr (.inr (.inl h3))
  · refine .inr (.inr (.inr ?_))
    apply Int.not_lt.1
    intro h4
    exact h ⟨by omega, by omega, by omega, h4⟩
theorem getE_2 (l : List Nat) {a k : Int} (h : k < 1 ∨ 6 < k) : getV l a k = 0 ∧ getE l.length a k = 2 := by
  have e : getE l.length a k = 2 := by unfold getE; rw [if_pos h]
  exact ⟨by unfold getV; rw [e]; rfl, e⟩
theorem getE_50 (l : List Nat) {a k : Int} (h1 : ¬ k < 1) (h2 : ¬ 6 < k) (h : a < 0 ∨ (l.length : Int) < a ∨ (l.length : Int) - a < k) : getV l a k = 0 ∧ getE l.length a k = 50 := by
  have e : getE l.length a k = 50 := by unfold getE; rw [if_neg (by omega), if_pos h]
  exact ⟨by unfold getV; rw [e]; rfl, e⟩
theorem getE_0 (l : List Nat) {a k : Int} (h1 : ¬ k < 1) (h2 : ¬ 6 < k) (h3 : ¬ a < 0) (h4 : ¬ (l.length : Int) < a) (h5 : ¬ (l.length : Int) - a < k) : getV l a k = ((num ((l.drop a.toNat).take k.toNat) : Nat) : Int) ∧ getE l.length a k = 0 := by
  have e : getE l.length a k = 0 := by unfold getE; rw [if_neg (by omega), if_neg (by omega)]
  exact ⟨by unfold getV; rw [e]; rfl, e⟩
/-- a byte slice of the call's own and an error number -/
def PutPostE (w : World) (l : List Nat) (E : Int) (e : Ending) (w' : World) : Prop := ∃ v, e = .returned (.tuple #[v, .int .i64 E]) ∧ Own 5 w.heap.size w' v l ∧ Below w.heap.size w w'
theorem put_any (v0 : Value) (n k : Int) (l : List Nat) (w : World) (hsl : Sl w v0 l) (hlen : l.length < 35184372088832) :
    Calls Try.prog 45 #[v0, .int .i64 n, .int .i64 k] w (PutPostE w (putL l n k) (putE n k)) := by
  unfold putL putE
  by_cases h : 1 ≤ k ∧ k ≤ 6 ∧ 0 ≤ n ∧ n < (256 : Int) ^ k.toNat
  · rw [if_pos h, if_pos h]
    obtain ⟨h1, h2, h3, h4⟩ := h
    obtain ⟨K, rfl⟩ := Int.eq_ofNat_of_zero_le (show 0 ≤ k by omega)
    obtain ⟨m, rfl⟩ := Int.eq_ofNat_of_zero_le h3
    rw [Int.toNat_natCast] at h4 ⊢
    rw [show (256 : Int) ^ K = ((256 ^ K : Nat) : Int) by simp] at h4
    obtain ⟨ao, cap, rfl, _, _⟩ := hsl.open
    exact put_yes ao cap l m K (by omega) (by omega) (by omega) w hsl hlen
  · rw [if_neg h, if_neg h]
    refine (put_no v0 n k (noFit_of h) w).mono ?_
    rintro e w' ⟨rfl, rfl⟩
    exact ⟨_, rfl, Own.nil _ _ _, Below.refl _ _⟩
theorem putr_any (v0 : Value) (n k : Int) (hn : n ≤ 9223372036854775807) (l : List Nat) (w : World) (hsl : Sl w v0 l) (hlen : l.length < 35184372088832) :
    Calls Try.prog 48 #[v0, .int .i64 n, .int .i64 k] w (PutPostE w (putL l n k) (putE n k)) := by
  unfold putL putE
  by_cases h : 1 ≤ k ∧ k ≤ 6 ∧ 0 ≤ n ∧ n < (256 : Int) ^ k.toNat
  · rw [if_pos h, if_pos h]
    obtain ⟨h1, h2, h3, h4⟩ := h
    obtain ⟨K, rfl⟩ := Int.eq_ofNat_of_zero_le (show 0 ≤ k by omega)
    obtain ⟨m, rfl⟩ := Int.eq_ofNat_of_zero_le h3
    rw [Int.toNat_natCast] at h4 ⊢
    rw [show (256 : Int) ^ K = ((256 ^ K : Nat) : Int) by simp] at h4
    exact putr_yes v0 l m K (by omega) (by omega) (by omega) w hsl hlen
  · rw [if_neg h, if_neg h]
    refine (putr_no v0 n k hn (noFit_of h) w).mono ?_
    rintro e w' ⟨rfl, rfl⟩
    exact ⟨_, rfl, Own.nil _ _ _, Below.refl _ _⟩
theorem get_any (v0 : Value) (a k : Int) (ha : -9223372036854775808 ≤ a ∧ a ≤ 9223372036854775807) (l : List Nat) (w : World) (hsl : Sl w v0 l) :
    Calls Try.prog 56 #[v0, .int .i64 a, .int .i64 k] w fun e w' => e = .returned (.tuple #[.int .i64 (getV l a k), .int .i64 (getE l.length a k)]) ∧ w = w' := by
  obtain ⟨h0, ao, cap, rfl, h1, h2, h3, h4⟩ := hsl
  unfold maxLen at h2
  by_cases c1 : k < 1
  · have a1 : decide (k < 1) = true := by simp; omega
    rw [(getE_2 l (Or.inl c1)).1, (getE_2 l (Or.inl c1)).2]
    go_enter Try.func56, Try.ntmps56
    go_wp2
    go_ret2
    exact ⟨rfl, rfl⟩
  by_cases c2 : 6 < k
  · have a1 : decide (k < 1) = false := by simp; omega
    have a2 : decide (6 < k) = true := by simp; omega
    rw [(getE_2 l (Or.inr c2)).1, (getE_2 l (Or.inr c2)).2]
    go_enter Try.func56, Try.ntmps56
    go_wp2
    go_ret2
    exact ⟨rfl, rfl⟩
  by_cases c3 : a < 0
  · have a1 : decide (k < 1) = false := by simp; omega
    have a2 : decide (6 < k) = false := by simp; omega
    have a3 : decide (a < 0) = true := by simp; omega
    rw [(getE_50 l c1 c2 (Or.inl c3)).1, (getE_50 l c1 c2 (Or.inl c3)).2]
    go_enter Try.func56, Try.ntmps56
    go_wp2
    go_ret2
    exact ⟨rfl, rfl⟩
  obtain ⟨A, rfl⟩ := Int.eq_ofNat_of_zero_le (show 0 ≤ a by omega)
  by_cases c4 : (l.length : Int) < (A : Int)
  · have a1 : decide (k < 1) = false := by simp; omega
    have a2 : decide (6 < k) = false := by simp; omega
    have a4 : decide (l.length < A) = true := by simp; omega
    rw [(getE_50 l c1 c2 (Or.inr (Or.inl c4))).1, (getE_50 l c1 c2 (Or.inr (Or.inl c4))).2]
    go_enter Try.func56, Try.ntmps56
    go_wp2
    go_ret2
    exact ⟨rfl, rfl⟩
  by_cases c5 : (l.length : Int) - (A : Int) < k
  · have a1 : decide (k < 1) = false := by simp; omega
    have a2 : decide (6 < k) = false := by simp; omega
    have a4 : decide (l.length < A) = false := by simp; omega
    have a5 : decide ((l.length : Int) - (A : Int) < k) = true := by simp; omega
    rw [(getE_50 l c1 c2 (Or.inr (Or.inr c5))).1, (getE_50 l c1 c2 (Or.inr (Or.inr c5))).2]
    go_enter Try.func56, Try.ntmps56
    go_wp2
    go_ret2
    exact ⟨rfl, rfl⟩
  · obtain ⟨K, rfl⟩ := Int.eq_ofNat_of_zero_le (show 0 ≤ k by omega)
    rw [(getE_0 l c1 c2 c3 c4 c5).1, (getE_0 l c1 c2 c3 c4 c5).2]
    rcases h4 with h4 | ⟨b, off, rfl, hc⟩
    · omega
    exact get_ok b off A l.length cap K l (by omega) (by omega) rfl h1 h2 h0 (by omega) w hc
theorem getr_any (v0 : Value) (a k : Int) (ha : -9223372036854775808 ≤ a ∧ a ≤ 9223372036854775807) (l : List Nat) (w : World) (hsl : Sl w v0 l) :
    Calls Try.prog 58 #[v0, .int .i64 a, .int .i64 k] w fun e w' => e = .returned (.tuple #[.int .i64 (getV l a k), .int .i64 (getE l.length a k)]) ∧ w = w' := by
  obtain ⟨h0, ao, cap, rfl, h1, h2, h3, h4⟩ := hsl
  unfold maxLen at h2
  by_cases c1 : k < 1
  · have a1 : decide (k < 1) = true := by simp; omega
    rw [(getE_2 l (Or.inl c1)).1, (getE_2 l (Or.inl c1)).2]
    go_enter Try.func58, Try.ntmps58
    go_wp2
    go_ret2
    exact ⟨rfl, rfl⟩
  by_cases c2 : 6 < k
  · have a1 : decide (k < 1) = false := by simp; omega
    have a2 : decide (6 < k) = true := by simp; omega
    rw [(getE_2 l (Or.inr c2)).1, (getE_2 l (Or.inr c2)).2]
    go_enter Try.func58, Try.ntmps58
    go_wp2
    go_ret2
    exact ⟨rfl, rfl⟩
  by_cases c3 : a < 0
  · have a1 : decide (k < 1) = false := by simp; omega
    have a2 : decide (6 < k) = false := by simp; omega
    have a3 : decide (a < 0) = true := by simp; omega
    rw [(getE_50 l c1 c2 (Or.inl c3)).1, (getE_50 l c1 c2 (Or.inl c3)).2]
    go_enter Try.func58, Try.ntmps58
    go_wp2
    go_ret2
    exact ⟨rfl, rfl⟩
  obtain ⟨A, rfl⟩ := Int.eq_ofNat_of_zero_le (show 0 ≤ a by omega)
  by_cases c4 : (l.length : Int) < (A : Int)
  · have a1 : decide (k < 1) = false := by simp; omega
    have a2 : decide (6 < k) = false := by simp; omega
    have a4 : decide (l.length < A) = true := by simp; omega
    rw [(getE_50 l c1 c2 (Or.inr (Or.inl c4))).1, (getE_50 l c1 c2 (Or.inr (Or.inl c4))).2]
    go_enter Try.func58, Try.ntmps58
    go_wp2
    go_ret2
    exact ⟨rfl, rfl⟩
  by_cases c5 : (l.length : Int) - (A : Int) < k
  · have a1 : decide (k < 1) = false := by simp; omega
    have a2 : decide (6 < k) = false := by simp; omega
    have a4 : decide (l.length < A) = false := by simp; omega
    have a5 : decide ((l.length : Int) - (A : Int) < k) = true := by simp; omega
    rw [(getE_50 l c1 c2 (Or.inr (Or.inr c5))).1, (getE_50 l c1 c2 (Or.inr (Or.inr c5))).2]
    go_enter Try.func58, Try.ntmps58
    go_wp2
    go_ret2
    exact ⟨rfl, rfl⟩
  · obtain ⟨K, rfl⟩ := Int.eq_ofNat_of_zero_le (show 0 ≤ k by omega)
    rw [(getE_0 l c1 c2 c3 c4 c5).1, (getE_0 l c1 c2 c3 c4 c5).2]
    rcases h4 with h4 | ⟨b, off, rfl, hc⟩
    · omega
    exact getr_ok b off A l.length cap K l (by omega) (by omega) rfl h1 h2 h0 (by omega) w hc
end Go.Proofs.Ytcffabfaefbjcaa
