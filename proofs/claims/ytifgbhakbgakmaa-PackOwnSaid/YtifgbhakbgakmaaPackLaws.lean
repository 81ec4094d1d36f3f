/-
  The walks of the laws of chapter 01 (pack).
-/
import Derived.Test.YtifgbhakbgakmaaPackWakes
import Derived.OpenShut
namespace Go.Proofs.Ytifgbhakbgakmaa
set_option linter.unusedVariables false
open Go.RowKit Go.ChangeShapes

/-- Fits, as a Bool -/
def fitsB (n k : Int) : Bool := decide (1 ≤ k ∧ k ≤ 6 ∧ 0 ≤ n ∧ n < (256 : Int) ^ k.toNat)
theorem fits_any (n k : Int) (w : World) : Calls Try.prog 32 #[.int .i64 n, .int .i64 k] w fun e w' => e = .returned (.bool (fitsB n k)) ∧ w = w' := by
  unfold fitsB
  by_cases h : 1 ≤ k ∧ k ≤ 6 ∧ 0 ≤ n ∧ n < (256 : Int) ^ k.toNat
  · rw [decide_eq_true h]
    obtain ⟨h1, h2, h3, h4⟩ := h
    obtain ⟨K, rfl⟩ := Int.eq_ofNat_of_zero_le (show 0 ≤ k by omega)
    obtain ⟨m, rfl⟩ := Int.eq_ofNat_of_zero_le h3
    rw [Int.toNat_natCast, show (256 : Int) ^ K = ((256 ^ K : Nat) : Int) by simp] at h4
    exact fits_yes m K (by omega) (by omega) (by omega) w
  · rw [decide_eq_false h]
    exact fits_no n k (noFit_of h) w
theorem fitsr_any (n k : Int) (hn : n ≤ 9223372036854775807) (w : World) : Calls Try.prog 36 #[.int .i64 n, .int .i64 k] w fun e w' => e = .returned (.bool (fitsB n k)) ∧ w = w' := by
  unfold fitsB
  by_cases h : 1 ≤ k ∧ k ≤ 6 ∧ 0 ≤ n ∧ n < (256 : Int) ^ k.toNat
  · rw [decide_eq_true h]
    obtain ⟨h1, h2, h3, h4⟩ := h
    obtain ⟨K, rfl⟩ := Int.eq_ofNat_of_zero_le (show 0 ≤ k by omega)
    obtain ⟨m, rfl⟩ := Int.eq_ofNat_of_zero_le h3
    rw [Int.toNat_natCast, show (256 : Int) ^ K = ((256 ^ K : Nat) : Int) by simp] at h4
    exact fitsr_yes m K (by omega) (by omega) (by omega) w
  · rw [decide_eq_false h]
    exact fitsr_no n k hn (noFit_of h) w

theorem lawPackNumbers_walk (v0 : Value) (l0 : List Nat) (a1 a2 a3 : Int) (w : World) (w0 : Sl w v0 l0) (w1 : (Lit.int .i64 a1).wf = true) (w2 : (Lit.int .i64 a2).wf = true) (w3 : (Lit.int .i64 a3).wf = true) :
    Calls Try.prog 10 #[v0, .int .i64 a1, .int .i64 a2, .int .i64 a3] w fun e w' => e = .returned (.bool true) ∧ Below w.heap.size w w' := by
  have b1 := bounds_i64 w1
  have b3 := bounds_i64 w3
  clear w1 w2 w3
  obtain ⟨ao, cap, rfl, hc1, hc2⟩ := w0.open
  by_cases hlen : 2000 < l0.length
  · go_enter Try.func10, Try.ntmps10
    go_wp2_with (go_at_call 25; refine (wakes01_any _).mono ?_; rintro e w' ⟨rfl, hb⟩)
    go_ret
    exact ⟨rfl, hb⟩
  · have hlen' : l0.length < 35184372088832 := by omega
    go_enter Try.func10, Try.ntmps10
    go_wp2_with fail
    refine (put_any _ a1 a2 l0 w w0 hlen').mono ?_
    rintro e wa ⟨va, rfl, oa, ba⟩
    go_wp2_with fail
    refine (putr_any _ a1 a2 b1.2 l0 wa (w0.below ba (Nat.le_refl _)) hlen').mono ?_
    rintro e wb ⟨vb, rfl, ob, bb⟩
    have bab := ba.trans (bb.mono ba.size)
    have sb := w0.below bab (Nat.le_refl _)
    go_wp2_with fail
    refine (get_any _ a3 a2 b3 l0 wb sb).mono ?_
    rintro e w' ⟨rfl, rfl⟩
    go_wp2_with fail
    refine (getr_any _ a3 a2 b3 l0 wb sb).mono ?_
    rintro e w' ⟨rfl, rfl⟩
    have hsa := (oa.sl.below bb (Nat.le_refl _)).string bt (dst := 9) (by kernel_rfl)
    have hsb := ob.sl.string bt (dst := 9) (by kernel_rfl)
    have BAB := Lib.hid bab
    clear bab ba bb oa ob sb w0
    go_wp2_with (first | (go_at_call 32; refine (fits_any _ _ _).mono ?_; rintro e w' ⟨rfl, rfl⟩) | (go_at_call 36; refine (fitsr_any _ _ b1.2 _).mono ?_; rintro e w' ⟨rfl, rfl⟩) | (go_at_call 25; refine (wakes01_any _).mono ?_; rintro e wc ⟨rfl, hb⟩))
    go_ret
    exact ⟨rfl, BAB.out.trans (hb.mono BAB.out.size)⟩
end Go.Proofs.Ytifgbhakbgakmaa
