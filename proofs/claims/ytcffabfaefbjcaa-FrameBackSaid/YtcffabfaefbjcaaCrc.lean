namespace Go.Proofs.Ytcffabfaefbjcaa.Crc
set_option linter.unusedVariables false
/-- the polynomial -/
def poly : Nat := 3988292384
/-- one step of the sum, on numbers of any size -/
def stp (n : Nat) : Nat := (n / 2) ^^^ (n % 2 * poly)
def stpN : Nat → Nat → Nat
  | 0, n => n
  | k + 1, n => stpN k (stp n)
def onB (n : Nat) : List Nat → Nat
  | [] => n
  | b :: bs => onB (stpN 8 (n ^^^ b)) bs
theorem poly_lt : poly < 2 ^ 32 := by decide
theorem stp_zero : stp 0 = 0 := by decide
theorem xor_mod2 (a b : Nat) : (a ^^^ b) % 2 = (a % 2) ^^^ (b % 2) := Nat.xor_mod_two_pow (n := 1)
theorem xor_div2 (a b : Nat) : (a ^^^ b) / 2 = (a / 2) ^^^ (b / 2) := Nat.xor_div_two_pow (n := 1)
theorem stp_xor (a b : Nat) : stp (a ^^^ b) = stp a ^^^ stp b := by
  unfold stp
  rw [xor_div2, xor_mod2]
  have ha : a % 2 = 0 ∨ a % 2 = 1 := by omega
  have hb : b % 2 = 0 ∨ b % 2 = 1 := by omega
  have e : ((a % 2) ^^^ (b % 2)) * poly = (a % 2 * poly) ^^^ (b % 2 * poly) := by
    rcases ha with ha | ha <;> rcases hb with hb | hb <;> rw [ha, hb] <;> simp
  rw [e]
  ac_rfl
theorem stp_lt {n : Nat} (h : n < 2 ^ 32) : stp n < 2 ^ 32 := by
  unfold stp
  refine Nat.xor_lt_two_pow (by omega) ?_
  have : n % 2 = 0 ∨ n % 2 = 1 := by omega
  rcases this with h | h <;> rw [h] <;> decide
theorem xor_self_cancel {a b : Nat} (h : a ^^^ b = 0) : a = b := by
  have : (a ^^^ b) ^^^ b = 0 ^^^ b := by rw [h]
  simpa [Nat.xor_assoc] using this
theorem stp_eq_zero {n : Nat} (h : n < 2 ^ 32) (h0 : stp n = 0) : n = 0 := by
  unfold stp at h0
  have hx := xor_self_cancel h0
  have : n % 2 = 0 ∨ n % 2 = 1 := by omega
  unfold poly at hx
  rcases this with h | h <;> rw [h] at hx <;> omega
theorem stpN_zero (k : Nat) : stpN k 0 = 0 := by
  induction k with
  | zero => rfl
  | succ k ih => rw [stpN, stp_zero, ih]
theorem stpN_xor (k a b : Nat) : stpN k (a ^^^ b) = stpN k a ^^^ stpN k b := by
  induction k generalizing a b with
  | zero => rfl
  | succ k ih => rw [stpN, stp_xor, ih]; rfl
theorem stpN_lt {k n : Nat} (h : n < 2 ^ 32) : stpN k n < 2 ^ 32 := by
  induction k generalizing n with
  | zero => exact h
  | succ k ih => exact ih (stp_lt h)
theorem stpN_eq_zero {k n : Nat} (h : n < 2 ^ 32) (h0 : stpN k n = 0) : n = 0 := by
  induction k generalizing n with
  | zero => exact h0
  | succ k ih => exact stp_eq_zero h (ih (stp_lt h) h0)
theorem stp_inj {a b : Nat} (ha : a < 2 ^ 32) (hb : b < 2 ^ 32) (h : stp a = stp b) : a = b := by
  apply xor_self_cancel
  apply stp_eq_zero (Nat.xor_lt_two_pow ha hb)
  rw [stp_xor, h, Nat.xor_self]
theorem stpN_inj {k a b : Nat} (ha : a < 2 ^ 32) (hb : b < 2 ^ 32) (h : stpN k a = stpN k b) : a = b := by
  apply xor_self_cancel
  apply stpN_eq_zero (k := k) (Nat.xor_lt_two_pow ha hb)
  rw [stpN_xor, h, Nat.xor_self]
theorem stp_two_mul (n : Nat) : stp (2 * n) = n := by
  unfold stp
  rw [show 2 * n / 2 = n by omega, show 2 * n % 2 = 0 by omega]; simp
theorem stpN_pow_mul (k n : Nat) : stpN k (2 ^ k * n) = n := by
  induction k generalizing n with
  | zero => simp [stpN]
  | succ k ih =>
    rw [stpN, show 2 ^ (k + 1) * n = 2 * (2 ^ k * n) by rw [Nat.pow_succ]; ac_rfl, stp_two_mul, ih]
theorem stpN_add (j k n : Nat) : stpN (j + k) n = stpN k (stpN j n) := by
  induction j generalizing n with
  | zero => simp [stpN]
  | succ j ih => rw [show j + 1 + k = (j + k) + 1 by omega, stpN, ih]; rfl
/-- the bytes as one number, the first byte lowest -/
def val : List Nat → Nat
  | [] => 0
  | b :: bs => b ^^^ (2 ^ 8 * val bs)
theorem onB_val (n : Nat) (bs : List Nat) : onB n bs = stpN (8 * bs.length) (n ^^^ val bs) := by
  induction bs generalizing n with
  | nil => simp [onB, val, stpN]
  | cons b bs ih =>
    rw [onB, ih, List.length_cons, show 8 * (bs.length + 1) = 8 + 8 * bs.length by omega, stpN_add]
    congr 1
    rw [val, ← Nat.xor_assoc, stpN_xor 8 (n ^^^ b), stpN_pow_mul]
theorem onB_append (n : Nat) (a b : List Nat) : onB n (a ++ b) = onB (onB n a) b := by
  induction a generalizing n with
  | nil => rfl
  | cons x a ih => rw [List.cons_append, onB, ih]; rfl
theorem onB_lt {n : Nat} {bs : List Nat} (h : n < 2 ^ 32) (hb : ∀ b ∈ bs, b < 256) : onB n bs < 2 ^ 32 := by
  induction bs generalizing n with
  | nil => exact h
  | cons b bs ih =>
    refine ih (stpN_lt (Nat.xor_lt_two_pow h ?_)) (fun x hx => hb x (by simp [hx]))
    have := hb b (by simp); omega
theorem onB_inj {a b : Nat} {bs : List Nat} (ha : a < 2 ^ 32) (hb : b < 2 ^ 32) (h : onB a bs = onB b bs) : a = b := by
  rw [onB_val, onB_val, stpN_xor, stpN_xor] at h
  have h2 : stpN (8 * bs.length) a = stpN (8 * bs.length) b := by
    have := congrArg (· ^^^ stpN (8 * bs.length) (val bs)) h
    simpa [Nat.xor_assoc] using this
  exact stpN_inj ha hb h2
end Go.Proofs.Ytcffabfaefbjcaa.Crc
