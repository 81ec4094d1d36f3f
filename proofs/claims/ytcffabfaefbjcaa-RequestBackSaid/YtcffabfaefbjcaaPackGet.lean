import Derived.Test.YtcffabfaefbjcaaPack
namespace Go.Proofs.Ytcffabfaefbjcaa
set_option linter.unusedVariables false
open Go.RowKit
theorem bits_or_i64 (a b : Nat) (ha : a < 9223372036854775808) (hb : b < 9223372036854775808) : bits .or .i64 (a : Int) (b : Int) = ((a ||| b : Nat) : Int) := by
  have hx : a ||| b < 2 ^ 63 := Nat.or_lt_two_pow (by omega) (by omega)
  show IntKind.i64.wrap ((BitVec.ofInt 64 (a : Int) ||| BitVec.ofInt 64 (b : Int)).toNat : Int) = _
  rw [BitVec.toNat_or, ofInt_u64 a (by omega), ofInt_u64 b (by omega), IntKind.wrap_i64]
  omega
theorem num_lt (l : List Nat) (hl : IsBytes l) : num l < 256 ^ l.length := by
  induction l with
  | nil => simp [num]
  | cons b bs ih =>
    have h1 := ih (fun x hx => hl x (by simp [hx]))
    have h2 := hl b (by simp)
    rw [num, List.length_cons, Nat.pow_succ]
    omega
theorem num_append (a b : List Nat) : num (a ++ b) = num a + 256 ^ a.length * num b := by
  induction a with
  | nil => simp [num]
  | cons x a ih =>
    rw [List.cons_append, num, ih, num, List.length_cons, Nat.pow_succ', Nat.mul_add, ← Nat.mul_assoc]; omega
theorem num_take_succ (l : List Nat) (p j : Nat) (h : p + j < l.length) : num ((l.drop p).take (j + 1)) = num ((l.drop p).take j) + 256 ^ j * l.getD (p + j) 0 := by
  have hj : j < (l.drop p).length := by simp; omega
  rw [List.take_succ_eq_append_getElem hj, num_append]
  have hl : (List.take j (List.drop p l)).length = j := by rw [List.length_take]; omega
  rw [hl]
  simp [num, List.getD, List.getElem?_eq_getElem h]
theorem get_step (q x j : Nat) (hx : x < 256) (hj : j < 6) (hq : q < 256 ^ j) : bits BinOp.or IntKind.i64 (q : Int) (wrap64 ((x : Int) * 2 ^ (8 * j))) = ((q + 256 ^ j * x : Nat) : Int) := by
  have e : (x : Int) * 2 ^ (8 * j) = ((256 ^ j * x : Nat) : Int) := by
    rw [show (2 : Int) ^ (8 * j) = ((256 ^ j : Nat) : Int) by rw [Int.pow_mul]; simp, Nat.mul_comm]; simp
  have hp : 256 ^ j ≤ 256 ^ 5 := Nat.pow_le_pow_right (by omega) (by omega)
  have h5 : 256 ^ 5 = 1099511627776 := by decide
  have hb : 256 ^ j * x ≤ 1099511627776 * 255 := Nat.mul_le_mul (by omega) (by omega)
  rw [e, IntWalk.wrap64_in _ ⟨by omega, by omega⟩, bits_or_i64 _ _ (by omega) (by omega), Nat.or_comm, show 256 ^ j = 2 ^ (8 * j) by rw [Nat.pow_mul]]
  rw [nat_join (8 * j) _ _ (Nat.mul_mod_right _ _) (by rw [Nat.pow_mul]; exact hq), Nat.add_comm]
theorem get_ok (b off at0 len cap : Nat) (k : Nat) (l : List Nat) (hk1 : 1 ≤ k) (hk6 : k ≤ 6) (hl : l.length = len) (hcap : len ≤ cap) (hm : cap ≤ 9223372036854775807) (hb : IsBytes l) (hat : at0 + k ≤ len) (w : World)
   (hc : ∀ i, i < len → w.cell? ⟨b, off + i, none⟩ = some (.int .u8 ((l.getD i 0 : Nat) : Int))) :
    Calls Try.prog 56 #[.slice (some ⟨b, off, none⟩) len cap, .int .i64 (at0 : Int), .int .i64 (k : Int)] w fun e w' => e = .returned (.tuple #[.int .i64 (num ((l.drop at0).take k) : Nat), .int .i64 0]) ∧ w = w' := by
  have HL := Lib.hid hl; clear hl
  have HC := Lib.hid hc; clear hc
  go_enter Try.func56, Try.ntmps56
  go_wp2
  go_loop [8, 42] (fun n i => ∃ j : Nat, j ≤ k ∧ i = .int .i64 j ∧ n = .int .i64 ((num ((l.drop at0).take j) : Nat) : Int)) (fun _ i => k - (intOf i).toNat)
  case atStart => exact ⟨0, Nat.zero_le _, rfl, by simp [num]⟩
  case round =>
    obtain ⟨j, hj, rfl, rfl⟩ := hrel
    by_cases hlt : j < k
    · have hck := HC.out (at0 + j) (by omega)
      rw [← Nat.add_assoc] at hck
      have hx : l.getD (at0 + j) 0 < 256 := hb.getD _
      have hq : num ((l.drop at0).take j) < 256 ^ j := by
        have := num_lt _ ((hb.drop at0).take j)
        rw [List.length_take, List.length_drop, HL.out, Nat.min_eq_left (by omega)] at this
        exact this
      have HS := Lib.hid (num_take_succ l at0 j (by rw [HL.out]; omega))
      generalize l.getD (at0 + j) 0 = x at *
      generalize num ((l.drop at0).take j) = q at *
      have HG := Lib.hid (get_step q x j hx (by omega) hq)
      clear hq
      go_wp2
      go_round
      case rel => exact ⟨j + 1, by omega, by go_num, by rw [HG.out, HS.out]⟩
      case measure => simp [intOf]; omega
    · obtain rfl : j = k := by omega
      go_wp2
      go_ret2
      exact ⟨rfl, rfl⟩
theorem getr_step (l : List Nat) (p m : Nat) (h : p < l.length) (m' : Nat) (hm : m' = m + 1) : num ((l.drop p).take m') = l.getD p 0 + 256 * num ((l.drop (p + 1)).take m) := by
  subst hm
  rw [List.drop_eq_getElem_cons h, List.take_succ_cons, num]
  simp [List.getD, List.getElem?_eq_getElem h]
theorem getr_ok (b off at0 len cap : Nat) (k : Nat) (l : List Nat) (hk1 : 1 ≤ k) (hk6 : k ≤ 6) (hl : l.length = len) (hcap : len ≤ cap) (hm : cap ≤ 9223372036854775807) (hb : IsBytes l) (hat : at0 + k ≤ len) (w : World)
   (hc : ∀ i, i < len → w.cell? ⟨b, off + i, none⟩ = some (.int .u8 ((l.getD i 0 : Nat) : Int))) :
    Calls Try.prog 58 #[.slice (some ⟨b, off, none⟩) len cap, .int .i64 (at0 : Int), .int .i64 (k : Int)] w fun e w' => e = .returned (.tuple #[.int .i64 (num ((l.drop at0).take k) : Nat), .int .i64 0]) ∧ w = w' := by
  have HL := Lib.hid hl; clear hl
  have HC := Lib.hid hc; clear hc
  go_enter Try.func58, Try.ntmps58
  go_wp2
  go_loop [8, 9] (fun n i => ∃ j : Nat, j ≤ k ∧ i = .int .i64 ((j : Int) - 1) ∧ n = .int .i64 ((num ((l.drop (at0 + j)).take (k - j)) : Nat) : Int)) (fun _ i => (intOf i + 1).toNat)
  case atStart => exact ⟨k, Nat.le_refl _, rfl, by simp [num]⟩
  case round =>
    obtain ⟨j, hj, rfl, rfl⟩ := hrel
    by_cases hlt : 0 < j
    · obtain ⟨j', rfl⟩ : ∃ j', j = j' + 1 := ⟨j - 1, by omega⟩
      have hck := HC.out (at0 + j') (by omega)
      have hx : l.getD (at0 + j') 0 < 256 := hb.getD _
      have hq : num ((l.drop (at0 + (j' + 1))).take (k - (j' + 1))) < 256 ^ (k - (j' + 1)) := by
        have := num_lt _ ((hb.drop (at0 + (j' + 1))).take (k - (j' + 1)))
        rw [List.length_take, List.length_drop, HL.out, Nat.min_eq_left (by omega)] at this
        exact this
      have hp : 256 ^ (k - (j' + 1)) ≤ 256 ^ 5 := Nat.pow_le_pow_right (by omega) (by omega)
      have h5 : 256 ^ 5 = 1099511627776 := by decide
      have hq2 : num ((l.drop (at0 + (j' + 1))).take (k - (j' + 1))) < 1099511627776 := by omega
      clear hq h5
      clear hp
      have HS : Hid (num ((l.drop (at0 + j')).take (k - j')) = l.getD (at0 + j') 0 + 256 * num ((l.drop (at0 + (j' + 1))).take (k - (j' + 1)))) := getr_step l (at0 + j') (k - (j' + 1)) (by rw [HL.out]; omega) (k - j') (by omega)
      generalize l.getD (at0 + j') 0 = x at *
      generalize num ((l.drop (at0 + (j' + 1))).take (k - (j' + 1))) = q at *
      go_wp2
      go_round
      case rel => exact ⟨j', by omega, by go_num, by rw [HS.out]; go_num⟩
      case measure => simp [intOf]
    · obtain rfl : j = 0 := by omega
      go_wp2
      go_ret2
      exact ⟨rfl, rfl⟩
end Go.Proofs.Ytcffabfaefbjcaa
