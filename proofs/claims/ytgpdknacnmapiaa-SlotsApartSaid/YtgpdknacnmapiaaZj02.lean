/-
  Parts of a proof, put together: Cells, Cell2.
-/
import Derived.Test.YtgpdknacnmapiaaZj01
import Derived.Test.YtgpdknacnmapiaaProg
import Derived.WalkSmall
import Derived.Deep.RegionHeld3
import Derived.BigQuiet
import Derived.Deep.QuietTactic
import Derived.Outline
import Derived.Laws.BitsAllLaws
namespace Go.Proofs.Ytgpdknacnmapiaa
set_option linter.unusedVariables false
set_option linter.unusedSimpArgs false
open Go.RowKit
/-- a generation more -/
def aft (g : Int) : Int := if g < 0 ∨ 1023 ≤ g then 1 else g + 1
/-- a slot's GEN -/
def genC (s : Int) (node : Bool) : Int := if node then (if 0 ≤ s ∧ s < 160 then 291 + s * 3 else -1) else (if 0 ≤ s ∧ s < 16 then 99 + s * 12 else -1)
set_option maxRecDepth 100000 in
theorem after_p (g : Int) (w : World) : Calls Try.prog 78 #[.int .i64 g] w fun e w' => e = .returned (.int .i64 (aft g)) ∧ w' = w := by
  by_cases h0 : g < 0
  · have d0 : decide (g < 0) = true := by simpa using h0
    have e : aft g = 1 := by unfold aft; rw [if_pos (.inl h0)]
    rw [e]; clear h0 e
    go_enter Try.func78, Try.ntmps78
    go_wp2
    go_ret
    exact ⟨rfl, rfl⟩
  · have d0 : decide (g < 0) = false := by simpa using h0
    by_cases h1 : 1023 ≤ g
    · have d1 : decide (1023 ≤ g) = true := by simpa using h1
      have e : aft g = 1 := by unfold aft; rw [if_pos (.inr h1)]
      rw [e]; clear h0 h1 e
      go_enter Try.func78, Try.ntmps78
      go_wp2
      go_ret
      exact ⟨rfl, rfl⟩
    · have d1 : decide (1023 ≤ g) = false := by simpa using h1
      have e : aft g = g + 1 := by unfold aft; rw [if_neg (by omega)]
      rw [e]
      have h2 : g < 1023 := by omega
      have h3 : 0 ≤ g := by omega
      clear h0 h1 e
      go_enter Try.func78, Try.ntmps78
      go_wp2
      go_ret
      exact ⟨rfl, rfl⟩
set_option maxRecDepth 100000 in
theorem in_r (f st n m : Int) (w : World) (hf : 0 ≤ f ∧ f ≤ 1000) (hs : 0 ≤ st ∧ st ≤ 1000) (hm : 0 ≤ m ∧ m ≤ 1000) : Calls Try.prog 36 #[.int .i64 f, .int .i64 st, .int .i64 n, .int .i64 m] w fun e w' => e = .returned (.int .i64 (if n < 0 ∨ m ≤ n then -1 else f + st * n)) ∧ w' = w := by
  by_cases h0 : n < 0
  · have d0 : decide (n < 0) = true := by simpa using h0
    rw [if_pos (.inl h0)]; clear h0
    go_enter Try.func36, Try.ntmps36
    go_wp2
    go_ret
    exact ⟨rfl, rfl⟩
  · have d0 : decide (n < 0) = false := by simpa using h0
    by_cases h1 : m ≤ n
    · have d1 : decide (m ≤ n) = true := by simpa using h1
      rw [if_pos (.inr h1)]; clear h0 h1
      go_enter Try.func36, Try.ntmps36
      go_wp2
      go_ret
      exact ⟨rfl, rfl⟩
    · have d1 : decide (m ≤ n) = false := by simpa using h1
      rw [if_neg (by omega)]
      have h2 : 0 ≤ n := by omega
      have h3 : n ≤ 1000 := by omega
      have h4 : st * n ≤ 1000000 := by
        have := Int.mul_le_mul hs.2 h3 h2 (by omega)
        omega
      have h5 : 0 ≤ st * n := Int.mul_nonneg hs.1 h2
      obtain ⟨p, hp⟩ : ∃ p, st * n = p := ⟨_, rfl⟩
      rw [hp] at h4 h5 ⊢
      obtain ⟨hf1, hf2⟩ := hf
      clear h0 h1
      go_enter Try.func36, Try.ntmps36
      go_wp2
      go_ret
      exact ⟨rfl, rfl⟩
theorem genC_n (s : Int) : genC s true = if s < 0 ∨ 160 ≤ s then -1 else 291 + 3 * s := by
  unfold genC; simp only [if_true]; split <;> split <;> omega
theorem genC_d (s : Int) : genC s false = if s < 0 ∨ 16 ≤ s then -1 else 99 + 12 * s := by
  unfold genC; simp only [Bool.false_eq_true, if_false]; split <;> split <;> omega
theorem genC_le (s : Int) (b : Bool) : -1 ≤ genC s b ∧ genC s b ≤ 1000 := by unfold genC; split <;> split <;> omega
set_option maxRecDepth 100000 in
theorem node_r (s : Int) (w : World) : Calls Try.prog 58 #[.int .i64 s, .int .i64 0] w fun e w' => e = .returned (.int .i64 (genC s true)) ∧ w' = w := by
  have HI := Lib.hid (in_r 291 3 s 160 w (by omega) (by omega) (by omega))
  rw [← genC_n] at HI
  have hb := genC_le s true
  obtain ⟨hb1, hb2⟩ := hb
  generalize genC s true = g at *
  by_cases h0 : g < 0
  · have d0 : decide (g < 0) = true := by simpa using h0
    have e : g = -1 := by omega
    have HE := Lib.hid e
    clear h0 e
    go_enter Try.func58, Try.ntmps58
    go_wp2_with fail
    refine HI.out.mono ?_
    rintro e w1 ⟨rfl, rfl⟩
    go_wp2_with fail
    go_ret
    exact ⟨by rw [HE.out]; rfl, rfl⟩
  · have d0 : decide (g < 0) = false := by simpa using h0
    clear h0
    go_enter Try.func58, Try.ntmps58
    go_wp2_with fail
    refine HI.out.mono ?_
    rintro e w1 ⟨rfl, rfl⟩
    go_wp2_with fail
    go_ret
    exact ⟨rfl, rfl⟩
set_option maxRecDepth 100000 in
theorem desc_r (s : Int) (w : World) : Calls Try.prog 59 #[.int .i64 s, .int .i64 0] w fun e w' => e = .returned (.int .i64 (genC s false)) ∧ w' = w := by
  have HI := Lib.hid (in_r 99 12 s 16 w (by omega) (by omega) (by omega))
  rw [← genC_d] at HI
  have hb := genC_le s false
  obtain ⟨hb1, hb2⟩ := hb
  generalize genC s false = g at *
  by_cases h0 : g < 0
  · have d0 : decide (g < 0) = true := by simpa using h0
    have e : g = -1 := by omega
    have HE := Lib.hid e
    clear h0 e
    go_enter Try.func59, Try.ntmps59
    go_wp2_with fail
    refine HI.out.mono ?_
    rintro e w1 ⟨rfl, rfl⟩
    go_wp2_with fail
    go_ret
    exact ⟨by rw [HE.out]; rfl, rfl⟩
  · have d0 : decide (g < 0) = false := by simpa using h0
    clear h0
    go_enter Try.func59, Try.ntmps59
    go_wp2_with fail
    refine HI.out.mono ?_
    rintro e w1 ⟨rfl, rfl⟩
    go_wp2_with fail
    go_ret
    exact ⟨rfl, rfl⟩
set_option maxRecDepth 100000 in
theorem in_l (n a b : Int) (w : World) : Calls Try.prog 110 #[.int .i64 n, .int .i64 a, .int .i64 b] w fun e w' => e = .returned (.bool (decide (a ≤ n) && decide (n ≤ b))) ∧ w' = w := by
  cases h0 : decide (a ≤ n)
  · rw [Bool.false_and]
    go_enter Try.func110, Try.ntmps110
    go_wp2
    go_ret
    exact ⟨rfl, rfl⟩
  · rw [Bool.true_and]
    go_enter Try.func110, Try.ntmps110
    go_wp2
    go_ret
    exact ⟨rfl, rfl⟩
set_option maxRecDepth 100000 in
theorem field_l (f s m k : Int) (w : World) (hf : 0 ≤ f ∧ f ≤ 1000) (hm : 1 ≤ m ∧ m ≤ 1000) (hk : 1 ≤ k ∧ k ≤ 1000) : Calls Try.prog 104 #[.int .i64 f, .int .i64 s, .int .i64 0, .int .i64 m, .int .i64 k] w fun e w' => e = .returned (.int .i64 (if 0 ≤ s ∧ s < m then f + s * k else -1)) ∧ w' = w := by
  have HI := Lib.hid (in_l s 0 (m - 1) w)
  have HJ := Lib.hid (fun w => in_l 0 0 (k - 1) w)
  have e2 : (decide ((0 : Int) ≤ 0) && decide ((0 : Int) ≤ k - 1)) = true := by simp; omega
  rw [e2] at HJ
  clear e2
  obtain ⟨m1, m2⟩ := hm
  obtain ⟨k1, k2⟩ := hk
  obtain ⟨f1, f2⟩ := hf
  by_cases hs : 0 ≤ s ∧ s < m
  · have e1 : (decide (0 ≤ s) && decide (s ≤ m - 1)) = true := by simp; omega
    rw [e1] at HI
    rw [if_pos hs]
    obtain ⟨s1, s2⟩ := hs
    have h4 : s * k ≤ 1000000 := by
      have := Int.mul_le_mul (show s ≤ 1000 by omega) k2 (by omega) (by omega)
      omega
    have h5 : 0 ≤ s * k := Int.mul_nonneg s1 (by omega)
    obtain ⟨p, hp⟩ : ∃ p, s * k = p := ⟨_, rfl⟩
    rw [hp] at h4 h5 ⊢
    clear e1
    go_enter Try.func104, Try.ntmps104
    go_wp2_with fail
    refine HI.out.mono ?_
    rintro e w1 ⟨rfl, rfl⟩
    go_wp2_with fail
    refine (HJ.out _).mono ?_
    rintro e w1 ⟨rfl, rfl⟩
    go_wp2_with fail
    go_ret
    exact ⟨rfl, rfl⟩
  · have e1 : (decide (0 ≤ s) && decide (s ≤ m - 1)) = false := by
      rw [Bool.and_eq_false_iff]; simp only [decide_eq_false_iff_not]; omega
    rw [e1] at HI
    rw [if_neg hs]
    clear hs e1
    go_enter Try.func104, Try.ntmps104
    go_wp2_with fail
    refine HI.out.mono ?_
    rintro e w1 ⟨rfl, rfl⟩
    go_wp2_with fail
    go_ret
    exact ⟨rfl, rfl⟩
set_option maxRecDepth 100000 in
theorem node_l (s : Int) (w : World) : Calls Try.prog 86 #[.int .i64 s, .int .i64 0] w fun e w' => e = .returned (.int .i64 (genC s true)) ∧ w' = w := by
  have HI := Lib.hid (field_l 291 s 160 3 w (by omega) (by omega) (by omega))
  rw [show (if 0 ≤ s ∧ s < 160 then 291 + s * 3 else -1) = genC s true by unfold genC; simp] at HI
  go_enter Try.func86, Try.ntmps86
  go_wp2_with fail
  refine HI.out.mono ?_
  rintro e w1 ⟨rfl, rfl⟩
  go_wp2_with fail
  go_ret
  exact ⟨rfl, rfl⟩
set_option maxRecDepth 100000 in
theorem desc_l (s : Int) (w : World) : Calls Try.prog 87 #[.int .i64 s, .int .i64 0] w fun e w' => e = .returned (.int .i64 (genC s false)) ∧ w' = w := by
  have HI := Lib.hid (field_l 99 s 16 12 w (by omega) (by omega) (by omega))
  rw [show (if 0 ≤ s ∧ s < 16 then 99 + s * 12 else -1) = genC s false by unfold genC; simp] at HI
  go_enter Try.func87, Try.ntmps87
  go_wp2_with fail
  refine HI.out.mono ?_
  rintro e w1 ⟨rfl, rfl⟩
  go_wp2_with fail
  go_ret
  exact ⟨rfl, rfl⟩
end Go.Proofs.Ytgpdknacnmapiaa
namespace Go.Proofs.Ytgpdknacnmapiaa
set_option linter.unusedVariables false
set_option linter.unusedSimpArgs false
open Go.RowKit
theorem wrap_small {n : Int} (h1 : 0 ≤ n) (h2 : n < 9223372036854775808) : IntKind.i64.wrap n = n := by
  simp [IntKind.wrap, IntKind.bits, IntKind.signed]; omega
theorem and_mask (x : Int) (k : Nat) (hk : k ≤ 62) : bits .and .i64 x ((2 ^ k - 1 : Nat) : Int) = x % ((2 ^ k : Nat) : Int) := by
  have hp : (2 : Nat) ^ k ≤ 2 ^ 62 := Nat.pow_le_pow_right (by omega) hk
  have h0 : 0 < (2 : Nat) ^ k := Nat.pow_pos (by omega)
  show IntKind.i64.wrap ((BitVec.ofInt 64 x &&& BitVec.ofInt 64 ((2 ^ k - 1 : Nat) : Int)).toNat : Int) = _
  rw [BitVec.toNat_and, BitVec.ofInt_natCast, BitVec.toNat_ofNat, Nat.mod_eq_of_lt (by omega), Nat.and_two_pow_sub_one_eq_mod]
  have e : (((BitVec.ofInt 64 x).toNat % 2 ^ k : Nat) : Int) = x % ((2 ^ k : Nat) : Int) := by
    rw [Int.natCast_emod, BitVec.toNat_ofInt]
    have h64 : (((x % ((2 ^ 64 : Nat) : Int)).toNat : Nat) : Int) = x % ((2 ^ 64 : Nat) : Int) := Int.toNat_of_nonneg (Int.emod_nonneg _ (by decide))
    rw [h64]
    have hd : ((2 ^ k : Nat) : Int) ∣ ((2 ^ 64 : Nat) : Int) := Int.natCast_dvd_natCast.2 (Nat.pow_dvd_pow 2 (by omega))
    exact Int.emod_emod_of_dvd x hd
  rw [e]
  have h1 := Int.emod_nonneg x (show ((2 ^ k : Nat) : Int) ≠ 0 by omega)
  have h2 := Int.emod_lt_of_pos x (show 0 < ((2 ^ k : Nat) : Int) by omega)
  exact wrap_small h1 (by omega)
theorem and_255 (x : Int) : bits .and .i64 x 255 = x % 256 := and_mask x 8 (by omega)
theorem and_1 (x : Int) : bits .and .i64 x 1 = x % 2 := and_mask x 1 (by omega)
theorem and_4095 (x : Int) : bits .and .i64 x 4095 = x % 4096 := and_mask x 12 (by omega)
theorem or_256 (g s : Int) (hg : 0 ≤ g ∧ g ≤ 100000) (hs : 0 ≤ s ∧ s < 256) : bits .or .i64 (g * 256) s = g * 256 + s := by
  obtain ⟨G, rfl⟩ := Int.eq_ofNat_of_zero_le hg.1
  obtain ⟨S, rfl⟩ := Int.eq_ofNat_of_zero_le hs.1
  have e : ((G : Int) * 256) = ((G * 256 : Nat) : Int) := by omega
  rw [e]
  show IntKind.i64.wrap ((BitVec.ofInt 64 ((G * 256 : Nat) : Int) ||| BitVec.ofInt 64 (S : Int)).toNat : Int) = _
  rw [BitVec.toNat_or, BitVec.ofInt_natCast, BitVec.ofInt_natCast, BitVec.toNat_ofNat, BitVec.toNat_ofNat, Nat.mod_eq_of_lt (by omega), Nat.mod_eq_of_lt (by omega), nat_join 8 _ _ (by omega) (by omega)]
  rw [wrap_small (by omega) (by omega)]
  omega
set_option maxRecDepth 100000 in
theorem cell_r (h : Int) (b : Bool) (w : World) (hh : 0 ≤ h ∧ h ≤ 1000000) : Calls Try.prog 27 #[.int .i64 h, .int .i64 0, .bool b] w fun e w' => e = .returned (.int .i64 (genC (h % 256) b)) ∧ w' = w := by
  obtain ⟨h1, h2⟩ := hh
  have d0 : decide (h < 0) = false := by simp; omega
  cases b
  · have HI := Lib.hid (fun w => desc_r (h % 256) w)
    go_enter Try.func27, Try.ntmps27
    go_wp2_with fail
    refine (HI.out _).mono ?_
    rintro e w1 ⟨rfl, rfl⟩
    go_wp2_with fail
    go_ret
    exact ⟨rfl, rfl⟩
  · have HI := Lib.hid (fun w => node_r (h % 256) w)
    go_enter Try.func27, Try.ntmps27
    go_wp2_with fail
    refine (HI.out _).mono ?_
    rintro e w1 ⟨rfl, rfl⟩
    go_wp2_with fail
    go_ret
    exact ⟨rfl, rfl⟩
set_option maxRecDepth 100000 in
theorem cell_p (h : Int) (b : Bool) (w : World) (hh : 0 ≤ h ∧ h ≤ 1000000) : Calls Try.prog 56 #[.int .i64 h, .int .i64 0, .bool b] w fun e w' => e = .returned (.int .i64 (genC (h % 256) b)) ∧ w' = w := by
  obtain ⟨h1, h2⟩ := hh
  have d0 : decide (h < 0) = false := by simp; omega
  cases b
  · have HI := Lib.hid (fun w => desc_l (h % 256) w)
    have ea := and_255 h
    go_enter Try.func56, Try.ntmps56
    go_wp2_with fail
    refine (HI.out _).mono ?_
    rintro e w1 ⟨rfl, rfl⟩
    go_wp2_with fail
    go_ret
    exact ⟨rfl, rfl⟩
  · have HI := Lib.hid (fun w => node_l (h % 256) w)
    have ea := and_255 h
    go_enter Try.func56, Try.ntmps56
    go_wp2_with fail
    refine (HI.out _).mono ?_
    rintro e w1 ⟨rfl, rfl⟩
    go_wp2_with fail
    go_ret
    exact ⟨rfl, rfl⟩
/-- the first of what came -/
def GotV (w : World) (v : Value) (x : Int) : Prop := (v = .slice none 0 0 ∧ x = 0) ∨ ∃ ad c, v = .slice (some ad) 1 c ∧ w.cell? ad = some (.int .i64 x)
set_option maxRecDepth 100000 in
theorem got_r (v : Value) (x : Int) (w : World) (h : GotV w v x) : Calls Try.prog 50 #[v, .int .i64 0] w fun e w' => e = .returned (.int .i64 x) ∧ w' = w := by
  rcases h with ⟨rfl, rfl⟩ | ⟨⟨b, o, sp⟩, c, rfl, hc⟩
  · go_enter Try.func50, Try.ntmps50
    go_wp2
    go_ret
    exact ⟨rfl, rfl⟩
  · have hs := World.cell?_spot hc
    simp only at hs
    subst hs
    go_enter Try.func50, Try.ntmps50
    go_wp2
    go_ret
    exact ⟨rfl, rfl⟩
end Go.Proofs.Ytgpdknacnmapiaa
