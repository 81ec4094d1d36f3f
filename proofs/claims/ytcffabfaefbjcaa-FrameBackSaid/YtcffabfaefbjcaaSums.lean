/-
  What sums and its reference compute (chapter 02): a step, a sum, one of bytes more.
-/
import Derived.Test.YtcffabfaefbjcaaProg
import Derived.Test.YtcffabfaefbjcaaCrc
import Derived.Test.YtcffabfaefbjcaaBase
namespace Go.Proofs.Ytcffabfaefbjcaa
set_option linter.unusedVariables false
open Go.RowKit
open Crc
theorem stp_int (n : Nat) (hn : n < 4294967296) : bits BinOp.xor IntKind.u32 ((n : Int) / 2) (bits BinOp.and IntKind.u32 (n : Int) 1 * 3988292384 % 4294967296) = ((stp n : Nat) : Int) := by
  have h1 : bits BinOp.and IntKind.u32 (n : Int) 1 = ((n % 2 : Nat) : Int) := by
    have := u32_and_nat n 1 hn (by omega)
    rw [show ((1 : Nat) : Int) = 1 from rfl] at this
    rw [this, nat_mask1]
  rw [h1]
  have h2 : n % 2 = 0 ∨ n % 2 = 1 := by omega
  have h3 : ((n % 2 : Nat) : Int) * 3988292384 % 4294967296 = ((n % 2 * poly : Nat) : Int) := by
    unfold poly
    rcases h2 with h | h <;> rw [h] <;> rfl
  have h4 : n % 2 * poly < 4294967296 := by unfold poly; omega
  rw [h3, show (n : Int) / 2 = ((n / 2 : Nat) : Int) by omega, u32_xor_nat _ _ (by omega) h4]
  rfl
theorem stp_odd (n : Nat) (hn : n < 4294967296) (h : (bits BinOp.and IntKind.u32 (n : Int) 1 == 1) = true) : bits BinOp.xor IntKind.u32 ((n : Int) / 2) 3988292384 = ((stp n : Nat) : Int) := by
  have h1 : bits BinOp.and IntKind.u32 (n : Int) 1 = 1 := by simpa using h
  have := stp_int n hn
  rw [h1] at this
  exact this
theorem stp_even (n : Nat) (hn : n < 4294967296) (h : (bits BinOp.and IntKind.u32 (n : Int) 1 == 1) = false) : (n : Int) / 2 = ((stp n : Nat) : Int) := by
  have h1 : bits BinOp.and IntKind.u32 (n : Int) 1 = ((n % 2 : Nat) : Int) := by
    have := u32_and_nat n 1 hn (by omega)
    rw [show ((1 : Nat) : Int) = 1 from rfl] at this
    rw [this, nat_mask1]
  rw [h1] at h
  have h2 : n % 2 = 0 := by
    have : ¬ (((n % 2 : Nat) : Int) = 1) := by simpa using h
    omega
  unfold stp
  rw [h2]; simp
theorem step_any (n : Nat) (hn : n < 4294967296) (w : World) : Calls Try.prog 71 #[.int .u32 (n : Int)] w fun e w' => e = .returned (.int .u32 ((stp n : Nat) : Int)) ∧ w = w' := by
  go_enter Try.func71, Try.ntmps71
  go_wp2
  go_ret
  exact ⟨congrArg (fun z => Ending.returned (.int .u32 z)) (stp_int n hn), rfl⟩
theorem stepr_any (n : Nat) (hn : n < 4294967296) (w : World) : Calls Try.prog 70 #[.int .u32 (n : Int)] w fun e w' => e = .returned (.int .u32 ((stp n : Nat) : Int)) ∧ w = w' := by
  go_enter Try.func70, Try.ntmps70
  go_wp2
  · go_ret
    exact ⟨congrArg (fun z => Ending.returned (.int .u32 z)) (stp_odd n hn ‹_›), rfl⟩
  · go_ret
    exact ⟨congrArg (fun z => Ending.returned (.int .u32 z)) (stp_even n hn ‹_›), rfl⟩
theorem stpN_snoc (k n : Nat) : stpN (k + 1) n = stp (stpN k n) := by rw [stpN_add k 1 n]; rfl
theorem take_snoc' (l : List Nat) (k : Nat) (h : k < l.length) : l.take (k + 1) = l.take k ++ [l.getD k 0] := by
  rw [List.take_succ_eq_append_getElem h]; simp [List.getD, List.getElem?_eq_getElem h]
theorem onB_snoc (n : Nat) (l : List Nat) (k : Nat) (h : k < l.length) : onB n (l.take (k + 1)) = stpN 8 (onB n (l.take k) ^^^ l.getD k 0) := by
  rw [take_snoc' l k h, onB_append]; rfl
theorem on_any (n : Nat) (hn : n < 4294967296) (b off len cap : Nat) (l : List Nat) (w : World) (hl : l.length = len) (hm : len ≤ 9223372036854775807) (hb : ∀ x ∈ l, x < 256)
   (hc : ∀ i, i < len → w.cell? ⟨b, off + i, none⟩ = some (.int .u8 ((l.getD i 0 : Nat) : Int))) : 
   Calls Try.prog 69 #[.int .u32 (n : Int), .slice (some ⟨b, off, none⟩) len cap] w fun e w' => e = .returned (.int .u32 (onB n l : Nat)) ∧ w = w' := by
  have HL := Lib.hid hl; clear hl
  have HC := Lib.hid hc; clear hc
  go_enter Try.func69, Try.ntmps69
  go_wp2
  go_loop [0, 9] (fun m i => ∃ k : Nat, k ≤ len ∧ i = .int .i64 k ∧ m = .int .u32 (onB n (l.take k) : Nat)) (fun _ i => len - (intOf i).toNat)
  case atStart => exact ⟨0, Nat.zero_le _, rfl, rfl⟩
  case round =>
    obtain ⟨k, hk, rfl, rfl⟩ := hrel
    by_cases hlt : k < len
    · have hck := HC.out k hlt
      have hlk : k < l.length := by rw [HL.out]; exact hlt
      have hx : l.getD k 0 < 256 := hb _ (by simp [List.getD, List.getElem?_eq_getElem hlk])
      have hm1 : onB n (l.take k) < 4294967296 := onB_lt hn (fun x hx => hb x (List.mem_of_mem_take hx))
      have hs := onB_snoc n l k hlk
      have hxor := u32_xor_nat _ _ hm1 (show l.getD k 0 < 4294967296 by omega)
      have hlt2 : onB n (l.take k) ^^^ l.getD k 0 < 4294967296 := Nat.xor_lt_two_pow (n := 32) hm1 (by omega)
      generalize onB n (l.take k) = m at *
      generalize l.getD k 0 = x at *
      have HS := Lib.hid hs; clear hs
      go_wp2
      go_loop [0, 17] (fun m' j => ∃ q : Nat, q ≤ 8 ∧ j = .int .i64 q ∧ m' = .int .u32 (stpN q (m ^^^ x) : Nat)) (fun _ j => 8 - (intOf j).toNat)
      case atStart => exact ⟨0, Nat.zero_le _, rfl, rfl⟩
      case round =>
        obtain ⟨q, hq, rfl, rfl⟩ := hrel
        have hq1 : stpN q (m ^^^ x) < 4294967296 := stpN_lt (k := q) hlt2
        by_cases hq8 : q < 8
        · go_wp2_with (go_at_call 71; refine (step_any _ hq1 _).mono ?_; rintro e w' ⟨rfl, rfl⟩)
          go_round
          case rel => exact ⟨q + 1, by omega, by go_num, by rw [stpN_snoc]⟩
          case measure => simp [intOf]; omega
        · obtain rfl : q = 8 := by omega
          go_wp2
          go_round
          case rel => exact ⟨k + 1, by omega, by go_num, by rw [HS.out]⟩
          case measure => simp [intOf]; omega
    · go_wp2
      go_ret
      obtain rfl : k = len := by omega
      exact ⟨congrArg (fun z => Ending.returned (.int .u32 z)) (by rw [← HL.out, List.take_length]), rfl⟩
theorem onr_any (n : Nat) (hn : n < 4294967296) (b off len cap : Nat) (l : List Nat) (w : World) (hl : l.length = len) (hm : len ≤ 9223372036854775807) (hb : ∀ x ∈ l, x < 256)
   (hc : ∀ i, i < len → w.cell? ⟨b, off + i, none⟩ = some (.int .u8 ((l.getD i 0 : Nat) : Int))) : 
   Calls Try.prog 68 #[.int .u32 (n : Int), .slice (some ⟨b, off, none⟩) len cap] w fun e w' => e = .returned (.int .u32 (onB n l : Nat)) ∧ w = w' := by
  have HL := Lib.hid hl; clear hl
  have HC := Lib.hid hc; clear hc
  go_enter Try.func68, Try.ntmps68
  go_wp2
  go_loop [0, 5, 6] (fun m i _ => ∃ k : Nat, k ≤ len ∧ i = .int .i64 k ∧ m = .int .u32 (onB n (l.take k) : Nat)) (fun _ i _ => len - (intOf i).toNat)
  case atStart => exact ⟨0, Nat.zero_le _, rfl, rfl⟩
  case round =>
    obtain ⟨k, hk, rfl, rfl⟩ := hrel
    by_cases hlt : k < len
    · have hck := HC.out k hlt
      have hlk : k < l.length := by rw [HL.out]; exact hlt
      have hx : l.getD k 0 < 256 := hb _ (by simp [List.getD, List.getElem?_eq_getElem hlk])
      have hm1 : onB n (l.take k) < 4294967296 := onB_lt hn (fun x hx => hb x (List.mem_of_mem_take hx))
      have hs := onB_snoc n l k hlk
      have hxor := u32_xor_nat _ _ hm1 (show l.getD k 0 < 4294967296 by omega)
      have hlt2 : onB n (l.take k) ^^^ l.getD k 0 < 4294967296 := Nat.xor_lt_two_pow (n := 32) hm1 (by omega)
      generalize onB n (l.take k) = m at *
      generalize l.getD k 0 = x at *
      have HS := Lib.hid hs; clear hs
      go_wp2
      go_loop [0, 6] (fun m' j => ∃ q : Nat, q ≤ 8 ∧ j = .int .i64 q ∧ m' = .int .u32 (stpN q (m ^^^ x) : Nat)) (fun _ j => 8 - (intOf j).toNat)
      case atStart => exact ⟨0, Nat.zero_le _, rfl, rfl⟩
      case round =>
        obtain ⟨q, hq, rfl, rfl⟩ := hrel
        have hq1 : stpN q (m ^^^ x) < 4294967296 := stpN_lt (k := q) hlt2
        by_cases hq8 : q < 8
        · go_wp2_with (go_at_call 70; refine (stepr_any _ hq1 _).mono ?_; rintro e w' ⟨rfl, rfl⟩)
          go_round
          case rel => exact ⟨q + 1, by omega, by go_num, by rw [stpN_snoc]⟩
          case measure => simp [intOf]; omega
        · obtain rfl : q = 8 := by omega
          go_wp2
          go_round
          case rel => exact ⟨k + 1, by omega, by go_num, by rw [HS.out]⟩
          case measure => simp [intOf]; omega
    · go_wp2
      go_ret
      obtain rfl : k = len := by omega
      exact ⟨congrArg (fun z => Ending.returned (.int .u32 z)) (by rw [← HL.out, List.take_length]), rfl⟩

theorem on_empty (n : Nat) (ao : Option Addr) (cap : Nat) (w : World) : Calls Try.prog 69 #[.int .u32 (n : Int), .slice ao 0 cap] w fun e w' => e = .returned (.int .u32 (n : Int)) ∧ w = w' := by
  go_enter Try.func69, Try.ntmps69
  go_wp2
  refine wp_loop_rounds 1 ?_
  rw [rounds_succ]
  go_wp2
  go_ret
  exact ⟨rfl, rfl⟩
theorem onr_empty (n : Nat) (ao : Option Addr) (cap : Nat) (w : World) : Calls Try.prog 68 #[.int .u32 (n : Int), .slice ao 0 cap] w fun e w' => e = .returned (.int .u32 (n : Int)) ∧ w = w' := by
  go_enter Try.func68, Try.ntmps68
  go_wp2
  refine wp_loop_rounds 1 ?_
  rw [rounds_succ]
  go_wp2
  go_ret
  exact ⟨rfl, rfl⟩
theorem on_sl (n : Nat) (hn : n < 4294967296) (v : Value) (l : List Nat) (w : World) (h : Sl w v l) :
    Calls Try.prog 69 #[.int .u32 (n : Int), v] w fun e w' => e = .returned (.int .u32 (onB n l : Nat)) ∧ w = w' := by
  obtain ⟨h0, ao, cap, rfl, h1, h2, h3, h4⟩ := h
  unfold maxLen at h2
  by_cases hl : l.length = 0
  · have : l = [] := List.eq_nil_of_length_eq_zero hl
    subst this
    exact on_empty n ao cap w
  · obtain ⟨b, off, rfl, hc⟩ := h4.resolve_left hl
    exact on_any n hn b off l.length cap l w rfl (by omega) h0 hc
theorem onr_sl (n : Nat) (hn : n < 4294967296) (v : Value) (l : List Nat) (w : World) (h : Sl w v l) :
    Calls Try.prog 68 #[.int .u32 (n : Int), v] w fun e w' => e = .returned (.int .u32 (onB n l : Nat)) ∧ w = w' := by
  obtain ⟨h0, ao, cap, rfl, h1, h2, h3, h4⟩ := h
  unfold maxLen at h2
  by_cases hl : l.length = 0
  · have : l = [] := List.eq_nil_of_length_eq_zero hl
    subst this
    exact onr_empty n ao cap w
  · obtain ⟨b, off, rfl, hc⟩ := h4.resolve_left hl
    exact onr_any n hn b off l.length cap l w rfl (by omega) h0 hc
/-- all bits turned -/
def allOnes : Nat := 4294967295
def inv (n : Nat) : Nat := allOnes ^^^ n
theorem inv_lt {n : Nat} (h : n < 4294967296) : inv n < 4294967296 := Nat.xor_lt_two_pow (n := 32) (by unfold allOnes; omega) h
theorem xor_twice (m n : Nat) : m ^^^ (m ^^^ n) = n := by rw [← Nat.xor_assoc, Nat.xor_self, Nat.zero_xor]
theorem inv_eq (n : Nat) : inv n = allOnes ^^^ n := rfl
theorem inv_inv (n : Nat) : inv (inv n) = n := by rw [inv_eq, inv_eq, xor_twice]
theorem inv_inj {a b : Nat} (h : inv a = inv b) : a = b := (inv_inv a).symm.trans ((congrArg inv h).trans (inv_inv b))
theorem inv_int (n : Nat) (h : n < 4294967296) : bits BinOp.xor IntKind.u32 IntKind.u32.max (n : Int) = ((inv n : Nat) : Int) := by
  have e : IntKind.u32.max = ((allOnes : Nat) : Int) := by decide
  rw [e, u32_xor_nat allOnes n (by unfold allOnes; omega) h]
  rfl
def moreOf (s : Nat) (l : List Nat) : Nat := inv (onB (inv s) l)
def sumOf (l : List Nat) : Nat := moreOf 0 l
theorem moreOf_lt {s : Nat} {l : List Nat} (hs : s < 4294967296) (hl : IsBytes l) : moreOf s l < 4294967296 := inv_lt (onB_lt (inv_lt hs) hl)
theorem more_any (n : Nat) (hn : n < 4294967296) (v : Value) (l : List Nat) (w : World) (h : Sl w v l) :
    Calls Try.prog 67 #[.int .u32 (n : Int), v] w fun e w' => e = .returned (.int .u32 (moreOf n l : Nat)) ∧ w = w' := by
  have h1 := Lib.hid (inv_int n hn)
  have h2 := Lib.hid (inv_int (onB (inv n) l) (onB_lt (inv_lt hn) h.bytes))
  have h3 := Lib.hid (on_sl (inv n) (inv_lt hn) v l w h)
  clear h
  go_enter Try.func67, Try.ntmps67
  go_wp2_with fail
  rw [h1.out]
  refine h3.out.mono ?_
  rintro e w' ⟨rfl, rfl⟩
  go_wp2_with fail
  go_ret
  exact ⟨congrArg (fun z => Ending.returned (.int .u32 z)) h2.out, rfl⟩
theorem sum_any (v : Value) (l : List Nat) (w : World) (h : Sl w v l) :
    Calls Try.prog 65 #[v] w fun e w' => e = .returned (.int .u32 (sumOf l : Nat)) ∧ w = w' := by
  have h3 := Lib.hid (more_any 0 (by omega) v l w h)
  clear h
  go_enter Try.func65, Try.ntmps65
  go_wp2_with fail
  refine h3.out.mono ?_
  rintro e w' ⟨rfl, rfl⟩
  go_wp2_with fail
  go_ret
  exact ⟨rfl, rfl⟩
theorem sumr_any (v : Value) (l : List Nat) (w : World) (h : Sl w v l) :
    Calls Try.prog 66 #[v] w fun e w' => e = .returned (.int .u32 (sumOf l : Nat)) ∧ w = w' := by
  have h2 := Lib.hid (inv_int (onB 4294967295 l) (onB_lt (by omega) h.bytes))
  have h3 := Lib.hid (onr_sl 4294967295 (by omega) v l w h)
  clear h
  go_enter Try.func66, Try.ntmps66
  go_wp2_with fail
  refine h3.out.mono ?_
  rintro e w' ⟨rfl, rfl⟩
  go_wp2_with fail
  go_ret
  exact ⟨congrArg (fun z => Ending.returned (.int .u32 z)) h2.out, rfl⟩
/-- the four bytes of a sum -/
def sealed (l : List Nat) : List Nat := l ++ le 4 (sumOf l)
end Go.Proofs.Ytcffabfaefbjcaa
