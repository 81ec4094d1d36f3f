/-
  Numbers' bits; Cell, Got (chapter 14).
-/
import Derived.Test.YtgpdknacnmapiaaCells
import Derived.Laws.BitsAllLaws
namespace Go.Proofs.Ytgpdknacnmapiaa
set_option linter.unusedVariables false
set_option linter.unusedSimpArgs false
open Go.RowKit
theorem wrap_small {n : Int} (h1 : 0 ≤ n) (h2 : n < 9223372036854775808) : IntKind.i64.wrap n = n := by
  simp [IntKind.wrap, IntKind.bits, IntKind.signed]; omega
theorem and_mask (x : Int) (k : Nat) (hk : k ≤ 62) : bits .and .i64 x ((2 ^ k - 1 : Nat) : Int) = x % ((2 ^ k : Nat) : Int) := by
  have hp : (2 : Nat) ^ k ≤ 2 ^ 62 := Nat.pow_le_pow_right (by omega) hk
  have h0 : 0 < (2 : Nat) ^ k := Nat.pow_pos (by omega)
  show IntKind.i64.wrap ((BitVec.ofInt 64 x &&& BitVec.ofInt 64 ((2 ^ k - 1 : Nat) : Int)).toNat : Int) = _
  rw [BitVec.toNat_and, BitVec.ofInt_natCast, BitVec.toNat_ofNat, Nat.mod_eq_of_lt (by omega), Nat.and_two_pow_sub_one_eq_mod]
  have e : (((BitVec.ofInt 64 x).toNat % 2 ^ k : Nat) : Int) = x % ((2 ^ k : Nat) : Int) := by
    rw [Int.natCast_emod, BitVec.toNat_ofInt]
    have h64 : (((x % ((2 ^ 64 : Nat) : Int)).toNat : Nat) : Int) = x % ((2 ^ 64 : Nat) : Int) := Int.toNat_of_nonneg (Int.emod_nonneg _ (by decide))
    rw [h64]
    have hd : ((2 ^ k : Nat) : Int) ∣ ((2 ^ 64 : Nat) : Int) := Int.natCast_dvd_natCast.2 (Nat.pow_dvd_pow 2 (by omega))
    exact Int.emod_emod_of_dvd x hd
  rw [e]
  have h1 := Int.emod_nonneg x (show ((2 ^ k : Nat) : Int) ≠ 0 by omega)
  have h2 := Int.emod_lt_of_pos x (show 0 < ((2 ^ k : Nat) : Int) by omega)
  exact wrap_small h1 (by omega)
theorem and_255 (x : Int) : bits .and .i64 x 255 = x % 256 := and_mask x 8 (by omega)
theorem and_1 (x : Int) : bits .and .i64 x 1 = x % 2 := and_mask x 1 (by omega)
theorem and_4095 (x : Int) : bits .and .i64 x 4095 = x % 4096 := and_mask x 12 (by omega)
theorem and_18 (x : Int) : bits .and .i64 x 262143 = x % 262144 := and_mask x 18 (by omega)
theorem or_256 (g s : Int) (hg : 0 ≤ g ∧ g ≤ 100000) (hs : 0 ≤ s ∧ s < 256) : bits .or .i64 (g * 256) s = g * 256 + s := by
  obtain ⟨G, rfl⟩ := Int.eq_ofNat_of_zero_le hg.1
  obtain ⟨S, rfl⟩ := Int.eq_ofNat_of_zero_le hs.1
  have e : ((G : Int) * 256) = ((G * 256 : Nat) : Int) := by omega
  rw [e]
  show IntKind.i64.wrap ((BitVec.ofInt 64 ((G * 256 : Nat) : Int) ||| BitVec.ofInt 64 (S : Int)).toNat : Int) = _
  rw [BitVec.toNat_or, BitVec.ofInt_natCast, BitVec.ofInt_natCast, BitVec.toNat_ofNat, BitVec.toNat_ofNat, Nat.mod_eq_of_lt (by omega), Nat.mod_eq_of_lt (by omega), nat_join 8 _ _ (by omega) (by omega)]
  rw [wrap_small (by omega) (by omega)]
  omega
set_option maxRecDepth 100000 in
theorem cell_r (h : Int) (b : Bool) (w : World) (hh : 0 ≤ h ∧ h ≤ 1000000) : Calls Try.prog 27 #[.int .i64 h, .int .i64 0, .bool b] w fun e w' => e = .returned (.int .i64 (genC (h % 256) b)) ∧ w' = w := by
  obtain ⟨h1, h2⟩ := hh
  have d0 : decide (h < 0) = false := by simp; omega
  cases b
  · have HI := Lib.hid (fun w => desc_r (h % 256) w)
    go_enter Try.func27, Try.ntmps27
    go_wp2_with fail
    refine (HI.out _).mono ?_
    rintro e w1 ⟨rfl, rfl⟩
    go_wp2_with fail
    go_ret
    exact ⟨rfl, rfl⟩
  · have HI := Lib.hid (fun w => node_r (h % 256) w)
    go_enter Try.func27, Try.ntmps27
    go_wp2_with fail
    refine (HI.out _).mono ?_
    rintro e w1 ⟨rfl, rfl⟩
    go_wp2_with fail
    go_ret
    exact ⟨rfl, rfl⟩
set_option maxRecDepth 100000 in
theorem cell_p (h : Int) (b : Bool) (w : World) (hh : 0 ≤ h ∧ h ≤ 1000000) : Calls Try.prog 56 #[.int .i64 h, .int .i64 0, .bool b] w fun e w' => e = .returned (.int .i64 (genC (h % 256) b)) ∧ w' = w := by
  obtain ⟨h1, h2⟩ := hh
  have d0 : decide (h < 0) = false := by simp; omega
  cases b
  · have HI := Lib.hid (fun w => desc_l (h % 256) w)
    have ea := and_255 h
    go_enter Try.func56, Try.ntmps56
    go_wp2_with fail
    refine (HI.out _).mono ?_
    rintro e w1 ⟨rfl, rfl⟩
    go_wp2_with fail
    go_ret
    exact ⟨rfl, rfl⟩
  · have HI := Lib.hid (fun w => node_l (h % 256) w)
    have ea := and_255 h
    go_enter Try.func56, Try.ntmps56
    go_wp2_with fail
    refine (HI.out _).mono ?_
    rintro e w1 ⟨rfl, rfl⟩
    go_wp2_with fail
    go_ret
    exact ⟨rfl, rfl⟩
/-- the first of what came -/
def GotV (w : World) (v : Value) (x : Int) : Prop := (v = .slice none 0 0 ∧ x = 0) ∨ ∃ ad c, v = .slice (some ad) 1 c ∧ w.cell? ad = some (.int .i64 x)
set_option maxRecDepth 100000 in
theorem got_r (v : Value) (x : Int) (w : World) (h : GotV w v x) : Calls Try.prog 50 #[v, .int .i64 0] w fun e w' => e = .returned (.int .i64 x) ∧ w' = w := by
  rcases h with ⟨rfl, rfl⟩ | ⟨⟨b, o, sp⟩, c, rfl, hc⟩
  · go_enter Try.func50, Try.ntmps50
    go_wp2
    go_ret
    exact ⟨rfl, rfl⟩
  · have hs := World.cell?_spot hc
    simp only at hs
    subst hs
    go_enter Try.func50, Try.ntmps50
    go_wp2
    go_ret
    exact ⟨rfl, rfl⟩
end Go.Proofs.Ytgpdknacnmapiaa
