/-
  Plain: what sealed bytes are, and that a burst of at most 32 bits turned in them is told (chapter 02).
-/
import Derived.Test.YtcffabfaefbjcaaCrc
import Derived.Test.YtcffabfaefbjcaaSums
namespace Go.Proofs.Ytcffabfaefbjcaa
set_option linter.unusedVariables false
open Crc
theorem two_pow_mul_xor (k a b : Nat) : 2 ^ k * (a ^^^ b) = 2 ^ k * a ^^^ 2 ^ k * b := by
  apply Nat.eq_of_testBit_eq
  intro i
  simp only [Nat.testBit_xor, Nat.testBit_two_pow_mul]
  by_cases h : k ≤ i <;> simp [h]
theorem xor_disjoint (k a : Nat) (h : a < 2 ^ k) (b : Nat) : a ^^^ (2 ^ k * b) = a + 2 ^ k * b := by
  apply Nat.eq_of_testBit_eq
  intro i
  rw [Nat.testBit_xor, Nat.add_comm, Nat.testBit_two_pow_mul_add _ h, Nat.testBit_two_pow_mul]
  by_cases hi : i < k
  · simp [hi, show ¬ k ≤ i by omega]
  · have : a.testBit i = false := Nat.testBit_lt_two_pow (Nat.lt_of_lt_of_le h (Nat.pow_le_pow_right (by omega) (by omega)))
    simp [hi, show k ≤ i by omega, this]
theorem val_le (k n : Nat) (h : n < 256 ^ k) : val (le k n) = n := by
  induction k generalizing n with
  | zero => simp at h; subst h; rfl
  | succ k ih =>
    rw [le, val, ih (n / 256) (by rw [Nat.pow_succ] at h; omega), xor_disjoint 8 (n % 256) (by omega)]
    omega
theorem val_lt (l : List Nat) (h : IsBytes l) : val l < 256 ^ l.length := by
  induction l with
  | nil => simp [val]
  | cons b bs ih =>
    have h1 := ih (fun x hx => h x (by simp [hx]))
    have h2 := h b (by simp)
    rw [val, xor_disjoint 8 b (by omega), List.length_cons, Nat.pow_succ]
    omega
theorem val_inj {a b : List Nat} (ha : IsBytes a) (hb : IsBytes b) (hl : a.length = b.length) (h : val a = val b) : a = b := by
  induction a generalizing b with
  | nil => exact (List.eq_nil_of_length_eq_zero hl.symm).symm
  | cons x xs ih =>
    cases b with
    | nil => simp at hl
    | cons y ys =>
      have hx := ha x (by simp)
      have hy := hb y (by simp)
      rw [val, val, xor_disjoint 8 x (by omega), xor_disjoint 8 y (by omega)] at h
      have e1 : x = y := by omega
      have e2 : val xs = val ys := by omega
      rw [e1, ih (fun z hz => ha z (by simp [hz])) (fun z hz => hb z (by simp [hz])) (by simpa using hl) e2]
theorem val_set (l : List Nat) (j y : Nat) (h : j < l.length) : val (l.set j (l.getD j 0 ^^^ y)) = val l ^^^ 2 ^ (8 * j) * y := by
  induction l generalizing j with
  | nil => simp at h
  | cons b bs ih =>
    cases j with
    | zero => simp [val]; ac_rfl
    | succ j =>
      have := ih j (by simpa using h)
      simp only [List.set_cons_succ, val, List.getD_cons_succ]
      rw [this, two_pow_mul_xor, ← Nat.mul_assoc, ← Nat.pow_add, show 8 * (j + 1) = 8 + 8 * j by omega, Nat.xor_assoc]
theorem allOnes_lt : allOnes < 2 ^ 32 := by decide
theorem inv_zero : inv 0 = allOnes := by decide
theorem sumOf_eq (l : List Nat) : sumOf l = allOnes ^^^ onB allOnes l := by
  unfold sumOf moreOf
  rw [inv_zero, inv_eq]
theorem sumOf_lt (l : List Nat) (h : IsBytes l) : sumOf l < 2 ^ 32 := moreOf_lt (by omega) h
/-- the sum of all bytes of sealed ones is always one and the same -/
theorem sealed_iff (u x : List Nat) (hu : IsBytes u) (hx : IsBytes x) (hxl : x.length = 4) : u ++ x = sealed u ↔ onB allOnes (u ++ x) = stpN 32 allOnes := by
  have h1 : onB allOnes u < 2 ^ 32 := onB_lt allOnes_lt hu
  have h2 : val x < 2 ^ 32 := by have := val_lt x hx; rw [hxl] at this; exact this
  have h3 := sumOf_lt u hu
  rw [onB_append, onB_val _ x, hxl]
  show u ++ x = u ++ le 4 (sumOf u) ↔ stpN 32 _ = _
  constructor
  · intro h
    have hx' : x = le 4 (sumOf u) := List.append_cancel_left h
    rw [hx', val_le 4 _ h3, sumOf_eq, Nat.xor_comm allOnes, ← Nat.xor_assoc, Nat.xor_self, Nat.zero_xor]
  · intro h
    have h4 := stpN_inj (Nat.xor_lt_two_pow h1 h2) allOnes_lt h
    have h5 : val x = sumOf u := by
      rw [sumOf_eq]
      generalize onB allOnes u = o at *
      rw [← h4, Nat.xor_assoc, Nat.xor_comm (val x), ← Nat.xor_assoc, Nat.xor_self, Nat.zero_xor]
    have h6 : val x = val (le 4 (sumOf u)) := by rw [val_le 4 _ h3, h5]
    rw [val_inj hx (le_bytes 4 _) (by rw [hxl, le_length]) h6]
/-- may bytes be opened? -/
def Opens (l : List Nat) : Prop := 4 ≤ l.length ∧ l = sealed (l.take (l.length - 4))
theorem opens_iff (l : List Nat) (hl : IsBytes l) (h4 : 4 ≤ l.length) : Opens l ↔ onB allOnes l = stpN 32 allOnes := by
  have h := sealed_iff (l.take (l.length - 4)) (l.drop (l.length - 4)) (hl.take _) (hl.drop _) (by rw [List.length_drop]; omega)
  rw [List.take_append_drop] at h
  unfold Opens
  rw [← h]
  exact ⟨fun x => x.2, fun x => ⟨h4, x⟩⟩
theorem sealed_length (b : List Nat) : (sealed b).length = b.length + 4 := by unfold sealed; rw [List.length_append, le_length]
theorem sealed_bytes (b : List Nat) (hb : IsBytes b) : IsBytes (sealed b) := hb.append (le_bytes _ _)
theorem sealed_take (b : List Nat) : (sealed b).take ((sealed b).length - 4) = b := by
  rw [sealed_length, Nat.add_sub_cancel]; unfold sealed; exact List.take_left' rfl
theorem opens_sealed (b : List Nat) : Opens (sealed b) := ⟨by rw [sealed_length]; omega, by rw [sealed_take]⟩
/-- a burst of at most 32 bits is told -/
theorem burst_told (b t : List Nat) (hb : IsBytes b) (ht : IsBytes t) (hl : t.length = (sealed b).length) (D at0 : Nat) (hD : D < 2 ^ 32) (hat : at0 ≤ 8 * t.length) (hv : val t = val (sealed b) ^^^ 2 ^ at0 * D) : Opens t ↔ D = 0 := by
  have hs := sealed_bytes b hb
  have h4 : 4 ≤ t.length := by rw [hl, sealed_length]; omega
  have h0 := (opens_iff _ hs (by rw [sealed_length]; omega)).1 (opens_sealed b)
  rw [opens_iff t ht h4]
  have e : onB allOnes t = onB allOnes (sealed b) ^^^ stpN (8 * t.length - at0) D := by
    rw [onB_val, onB_val, hl, hv, ← Nat.xor_assoc, stpN_xor (8 * (sealed b).length) (allOnes ^^^ val (sealed b))]
    congr 1
    rw [← hl]
    conv => lhs; rw [show 8 * t.length = at0 + (8 * t.length - at0) by omega]
    rw [stpN_add, stpN_pow_mul]
  rw [e, h0]
  constructor
  · intro h
    have h1 : stpN (8 * t.length - at0) D = 0 := by
      have := congrArg (stpN 32 allOnes ^^^ ·) h
      simpa [← Nat.xor_assoc, Nat.xor_self] using this
    exact stpN_eq_zero hD h1
  · intro h
    rw [h, stpN_zero, Nat.xor_zero]
/-- one more bit of the burst -/
theorem burst_bit (B k : Nat) : B % 2 ^ (k + 1) = B % 2 ^ k ^^^ 2 ^ k * (B / 2 ^ k % 2) := by
  rw [xor_disjoint k _ (Nat.mod_lt _ (Nat.two_pow_pos k)), Nat.pow_succ, Nat.mod_mul]
end Go.Proofs.Ytcffabfaefbjcaa
