/-
  What pack's Handle, Word, Place, Slot, Gen, Bare compute, and that the document's word on them wakes.
-/
import Derived.Test.YtifgbhakbgakmaaPackAny
import Derived.BigQuiet
import Derived.Deep.QuietTactic
namespace Go.Proofs.Ytifgbhakbgakmaa
set_option linter.unusedVariables false
open Go.RowKit
theorem bits_and_i64 (a b : Nat) (ha : a < 9223372036854775808) (hb : b < 9223372036854775808) : bits .and .i64 (a : Int) (b : Int) = ((a &&& b : Nat) : Int) := by
  have hx : a &&& b < 2 ^ 63 := Nat.and_lt_two_pow _ (by omega)
  show IntKind.i64.wrap ((BitVec.ofInt 64 (a : Int) &&& BitVec.ofInt 64 (b : Int)).toNat : Int) = _
  rw [BitVec.toNat_and, ofInt_u64 a (by omega), ofInt_u64 b (by omega), IntKind.wrap_i64]
  omega
/-- the world but for draws -/
def Quiet (w w' : World) : Prop := ∃ n, w' = w.drewN n
theorem Quiet.refl (w : World) : Quiet w w := ⟨0, rfl⟩
def fieldN (x f b : Nat) : Nat := x / 2 ^ f % 2 ^ b
theorem field_num (x f b : Nat) (hx : x ≤ 1099510841343) (hb : b ≤ 40) :
    bits BinOp.and IntKind.i64 ((x : Int) / 2 ^ f) (wrap64 (wrap64 (2 ^ b) - 1)) = ((fieldN x f b : Nat) : Int) := by
  have hp : 2 ^ b ≤ 2 ^ 40 := Nat.pow_le_pow_right (by omega) hb
  have hp0 : 0 < 2 ^ b := Nat.two_pow_pos b
  have h40 : 2 ^ 40 = 1099511627776 := by decide
  have e : (2 : Int) ^ b = ((2 ^ b : Nat) : Int) := by simp
  have w1 : wrap64 ((2 ^ b : Nat) : Int) = ((2 ^ b : Nat) : Int) := IntWalk.wrap64_in _ ⟨by omega, by omega⟩
  rw [e, w1, IntWalk.wrap64_in _ ⟨by omega, by omega⟩]
  have e2 : (x : Int) / 2 ^ f = ((x / 2 ^ f : Nat) : Int) := by simp
  have hd : x / 2 ^ f ≤ x := Nat.div_le_self _ _
  rw [e2, show ((2 ^ b : Nat) : Int) - 1 = ((2 ^ b - 1 : Nat) : Int) by omega, bits_and_i64 _ _ (by omega) (by omega), Nat.and_two_pow_sub_one_eq_mod]
  rfl
/-- a word, or 0 -/
def inside (x : Int) : Nat := if 0 ≤ x ∧ x ≤ 1099510841343 then x.toNat else 0
theorem field_any (x f b : Int) (hf : 0 ≤ f) (hf2 : f ≤ 20) (hb : 1 ≤ b) (hb2 : b ≤ 40) (w : World) :
    Calls Try.prog 39 #[.int .i64 x, .int .i64 f, .int .i64 b] w fun e w' => e = .returned (.int .i64 (fieldN (inside x) f.toNat b.toNat : Nat)) ∧ Quiet w w' := by
  unfold inside
  by_cases h1 : x < 0
  · rw [if_neg (by omega)]
    have a1 : decide (x < 0) = true := by simp; omega
    go_enter Try.func39, Try.ntmps39
    go_wp2
    go_ret
    exact ⟨congrArg (fun z => Ending.returned (.int .i64 z)) (by simp [fieldN]), Quiet.refl _⟩
  by_cases h2 : 1099510841343 < x
  · rw [if_neg (by omega)]
    have a1 : decide (x < 0) = false := by simp; omega
    have a2 : decide (1099510841343 < x) = true := by simp; omega
    go_enter Try.func39, Try.ntmps39
    go_wp2
    go_ret
    exact ⟨congrArg (fun z => Ending.returned (.int .i64 z)) (by simp [fieldN]), Quiet.refl _⟩
  · rw [if_pos (by omega)]
    have a1 : decide (x < 0) = false := by simp; omega
    have a2 : decide (1099510841343 < x) = false := by simp; omega
    go_enter Try.func39, Try.ntmps39
    go_wp2
    go_quiet (fail)
    go_wp2
    go_ret
    obtain ⟨X, rfl⟩ := Int.eq_ofNat_of_zero_le (show 0 ≤ x by omega)
    exact ⟨congrArg (fun z => Ending.returned (.int .i64 z)) (by exact field_num X f.toNat b.toNat (by omega) (by omega)), ⟨_, rfl⟩⟩
theorem place_any (x : Int) (w : World) : Calls Try.prog 27 #[.int .i64 x] w fun e w' => e = .returned (.int .i64 (fieldN (inside x) 20 40 : Nat)) ∧ Quiet w w' := by
  go_enter Try.func27, Try.ntmps27
  go_wp2_with (go_at_call 39; refine (field_any x 20 40 (by omega) (by omega) (by omega) (by omega) _).mono ?_; rintro e w' ⟨rfl, hq⟩)
  go_ret
  exact ⟨rfl, hq⟩
theorem gen_any (x : Int) (w : World) : Calls Try.prog 28 #[.int .i64 x] w fun e w' => e = .returned (.int .i64 (fieldN (inside x) 8 12 : Nat)) ∧ Quiet w w' := by
  go_enter Try.func28, Try.ntmps28
  go_wp2_with (go_at_call 39; refine (field_any x 8 12 (by omega) (by omega) (by omega) (by omega) _).mono ?_; rintro e w' ⟨rfl, hq⟩)
  go_ret
  exact ⟨rfl, hq⟩
theorem slot_any (x : Int) (w : World) : Calls Try.prog 29 #[.int .i64 x] w fun e w' => e = .returned (.int .i64 (fieldN (inside x) 0 8 : Nat)) ∧ Quiet w w' := by
  go_enter Try.func29, Try.ntmps29
  go_wp2_with (go_at_call 39; refine (field_any x 0 8 (by omega) (by omega) (by omega) (by omega) _).mono ?_; rintro e w' ⟨rfl, hq⟩)
  go_ret
  exact ⟨rfl, hq⟩
theorem bare_any (x : Int) (w : World) : Calls Try.prog 30 #[.int .i64 x] w fun e w' => e = .returned (.int .i64 (fieldN (inside x) 0 20 : Nat)) ∧ Quiet w w' := by
  go_enter Try.func30, Try.ntmps30
  go_wp2_with (go_at_call 39; refine (field_any x 0 20 (by omega) (by omega) (by omega) (by omega) _).mono ?_; rintro e w' ⟨rfl, hq⟩)
  go_ret
  exact ⟨rfl, hq⟩
/-- Handle's number and its error -/
def handleV (g s : Int) : Int := if 1 ≤ g ∧ g ≤ 1023 ∧ 0 ≤ s ∧ s < 256 then g * 256 + s else 0
def handleE (g s : Int) : Int := if 1 ≤ g ∧ g ≤ 1023 ∧ 0 ≤ s ∧ s < 256 then 0 else 2
theorem or_num (k : Nat) (g s : Int) (hg : 0 ≤ g) (hg2 : g * 2 ^ k ≤ 1099511627776) (hs : 0 ≤ s) (hs2 : s < 2 ^ k) (hk : k ≤ 20) : bits BinOp.or IntKind.i64 (g * 2 ^ k) s = g * 2 ^ k + s := by
  obtain ⟨G, rfl⟩ := Int.eq_ofNat_of_zero_le hg
  obtain ⟨S, rfl⟩ := Int.eq_ofNat_of_zero_le hs
  have hp : 2 ^ k ≤ 2 ^ 20 := Nat.pow_le_pow_right (by omega) hk
  have h20 : 2 ^ 20 = 1048576 := by decide
  have e : (G : Int) * 2 ^ k = ((G * 2 ^ k : Nat) : Int) := by simp
  have e2 : (2 : Int) ^ k = ((2 ^ k : Nat) : Int) := by simp
  rw [e] at hg2 ⊢
  rw [e2] at hs2
  rw [bits_or_i64 _ _ (by omega) (by omega), nat_join k _ _ (Nat.mul_mod_left _ _) (by omega)]
  simp
theorem handle_any (g s : Int) (w : World) : Calls Try.prog 24 #[.int .i64 g, .int .i64 s] w fun e w' => e = .returned (.tuple #[.int .i64 (handleV g s), .int .i64 (handleE g s)]) ∧ w = w' := by
  unfold handleV handleE
  by_cases h1 : g < 1
  · rw [if_neg (by omega), if_neg (by omega)]
    have a1 : decide (g < 1) = true := by simp; omega
    go_enter Try.func24, Try.ntmps24
    go_wp2
    go_ret2
    exact ⟨rfl, rfl⟩
  by_cases h2 : 1023 < g
  · rw [if_neg (by omega), if_neg (by omega)]
    have a1 : decide (g < 1) = false := by simp; omega
    have a2 : decide (1023 < g) = true := by simp; omega
    go_enter Try.func24, Try.ntmps24
    go_wp2
    go_ret2
    exact ⟨rfl, rfl⟩
  by_cases h3 : s < 0
  · rw [if_neg (by omega), if_neg (by omega)]
    have a1 : decide (g < 1) = false := by simp; omega
    have a2 : decide (1023 < g) = false := by simp; omega
    have a3 : decide (s < 0) = true := by simp; omega
    go_enter Try.func24, Try.ntmps24
    go_wp2
    go_ret2
    exact ⟨rfl, rfl⟩
  by_cases h4 : 256 ≤ s
  · rw [if_neg (by omega), if_neg (by omega)]
    have a1 : decide (g < 1) = false := by simp; omega
    have a2 : decide (1023 < g) = false := by simp; omega
    have a3 : decide (s < 0) = false := by simp; omega
    have a4 : decide (256 ≤ s) = true := by simp; omega
    go_enter Try.func24, Try.ntmps24
    go_wp2
    go_ret2
    exact ⟨rfl, rfl⟩
  · rw [if_pos (by omega), if_pos (by omega)]
    have a1 : decide (g < 1) = false := by simp; omega
    have a2 : decide (1023 < g) = false := by simp; omega
    have a3 : decide (s < 0) = false := by simp; omega
    have a4 : decide (256 ≤ s) = false := by simp; omega
    go_enter Try.func24, Try.ntmps24
    go_wp2
    go_ret2
    exact ⟨congrArg (fun z => Ending.returned (.tuple #[.int .i64 z, .int .i64 0])) (or_num 8 g s (by omega) (by omega) (by omega) (by omega) (by omega)), rfl⟩
def wordV (p h : Int) : Int := if 0 ≤ p ∧ p ≤ 1048575 ∧ (256 ≤ h ∧ h ≤ 262143 ∨ h = 0 ∧ p = 0) then p * 1048576 + h else 0
def wordE (p h : Int) : Int := if 0 ≤ p ∧ p ≤ 1048575 ∧ (256 ≤ h ∧ h ≤ 262143 ∨ h = 0 ∧ p = 0) then 0 else 2
theorem word_any (p h : Int) (w : World) : Calls Try.prog 26 #[.int .i64 p, .int .i64 h] w fun e w' => e = .returned (.tuple #[.int .i64 (wordV p h), .int .i64 (wordE p h)]) ∧ w = w' := by
  unfold wordV wordE
  by_cases h1 : p < 0
  · rw [if_neg (by omega), if_neg (by omega)]
    have a1 : decide (p < 0) = true := by simp; omega
    by_cases c : 256 ≤ h
    · go_enter Try.func26, Try.ntmps26
      go_wp2
      go_ret2
      exact ⟨rfl, rfl⟩
    · go_enter Try.func26, Try.ntmps26
      go_wp2
      go_ret2
      exact ⟨rfl, rfl⟩
  by_cases h2 : 1048575 < p
  · rw [if_neg (by omega), if_neg (by omega)]
    have a1 : decide (p < 0) = false := by simp; omega
    have a2 : decide (1048575 < p) = true := by simp; omega
    by_cases c : 256 ≤ h
    · go_enter Try.func26, Try.ntmps26
      go_wp2
      go_ret2
      exact ⟨rfl, rfl⟩
    · go_enter Try.func26, Try.ntmps26
      go_wp2
      go_ret2
      exact ⟨rfl, rfl⟩
  have a1 : decide (p < 0) = false := by simp; omega
  have a2 : decide (1048575 < p) = false := by simp; omega
  by_cases c : 256 ≤ h
  · by_cases c2 : h ≤ 262143
    · rw [if_pos (by omega), if_pos (by omega)]
      go_enter Try.func26, Try.ntmps26
      go_wp2
      go_ret2
      exact ⟨congrArg (fun z => Ending.returned (.tuple #[.int .i64 z, .int .i64 0])) (or_num 20 p h (by omega) (by omega) (by omega) (by omega) (by omega)), rfl⟩
    · rw [if_neg (by omega), if_neg (by omega)]
      have b1 : (h != 0) = true := by rw [bne_iff_ne]; omega
      go_enter Try.func26, Try.ntmps26
      go_wp2
      go_ret2
      exact ⟨rfl, rfl⟩
  · by_cases c3 : h = 0
    · subst c3
      by_cases c4 : p = 0
      · subst c4
        rw [if_pos (by omega), if_pos (by omega)]
        go_enter Try.func26, Try.ntmps26
        go_wp2
        go_ret2
        exact ⟨rfl, rfl⟩
      · rw [if_neg (by omega), if_neg (by omega)]
        have b2 : (p != 0) = true := by rw [bne_iff_ne]; omega
        go_enter Try.func26, Try.ntmps26
        go_wp2
        go_ret2
        exact ⟨rfl, rfl⟩
    · rw [if_neg (by omega), if_neg (by omega)]
      have b1 : (h != 0) = true := by rw [bne_iff_ne]; omega
      go_enter Try.func26, Try.ntmps26
      go_wp2
      go_ret2
      exact ⟨rfl, rfl⟩
end Go.Proofs.Ytifgbhakbgakmaa
