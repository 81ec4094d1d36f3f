import Derived.Test.YtcffabfaefbjcaaProg
import Derived.Test.YtcffabfaefbjcaaBase
namespace Go.Proofs.Ytcffabfaefbjcaa
set_option linter.unusedVariables false
open Go.RowKit
theorem bt : ByteT Try.prog 35 5 := ⟨Try.underlying35, Try.underlying5, by kernel_rfl⟩

theorem pow_int (k : Nat) : (2 : Int) ^ (8 * k) = ((256 ^ k : Nat) : Int) := by
  rw [Int.pow_mul]; simp
theorem div_zero_iff (m k : Nat) : (((m : Int) / 2 ^ (8 * k) == 0) = true) ↔ m < 256 ^ k := by
  rw [pow_int]
  have hp : 0 < 256 ^ k := Nat.pow_pos (by omega)
  generalize 256 ^ k = d at *
  rw [← Int.natCast_ediv]
  constructor
  · intro h
    have h : ((m / d : Nat) : Int) = 0 := by simpa using h
    have h : m / d = 0 := by omega
    exact (Nat.div_eq_zero_iff.1 h).resolve_left (by omega)
  · intro h
    rw [Nat.div_eq_of_lt h]; rfl

theorem fits_yes (m k : Nat) (h1 : 1 ≤ k) (h2 : k ≤ 6) (hm : m < 256 ^ k) (w : World) :
    Calls Try.prog 62 #[.int .i64 (m : Int), .int .i64 (k : Int)] w fun e w' => e = .returned (.bool true) ∧ w = w' := by
  have hd : ((m : Int) / 2 ^ (8 * k) == 0) = true := (div_zero_iff m k).2 hm
  clear hm
  go_enter Try.func62, Try.ntmps62
  go_wp2
  go_ret
  exact ⟨rfl, rfl⟩
/-- what does not fit -/
def NoFit (n k : Int) : Prop := k < 1 ∨ 6 < k ∨ n < 0 ∨ (256 : Int) ^ k.toNat ≤ n
theorem fits_no (n k : Int) (h : NoFit n k) (w : World) :
    Calls Try.prog 62 #[.int .i64 n, .int .i64 k] w fun e w' => e = .returned (.bool false) ∧ w = w' := by
  by_cases h1 : k < 1
  · have h1' : ¬ 1 ≤ k := by omega
    go_enter Try.func62, Try.ntmps62
    go_wp2
    go_ret
    exact ⟨rfl, rfl⟩
  by_cases h2 : 6 < k
  · have h2' : ¬ k ≤ 6 := by omega
    have h1' : 1 ≤ k := by omega
    go_enter Try.func62, Try.ntmps62
    go_wp2
    go_ret
    exact ⟨rfl, rfl⟩
  by_cases h3 : n < 0
  · have h3' : ¬ 0 ≤ n := by omega
    have h2' : k ≤ 6 := by omega
    have h1' : 1 ≤ k := by omega
    go_enter Try.func62, Try.ntmps62
    go_wp2
    go_ret
    exact ⟨rfl, rfl⟩
  · have hx : (256 : Int) ^ k.toNat ≤ n := by rcases h with h | h | h | h <;> first | exact h | omega
    obtain ⟨K, rfl⟩ := Int.eq_ofNat_of_zero_le (show 0 ≤ k by omega)
    obtain ⟨m, rfl⟩ := Int.eq_ofNat_of_zero_le (show 0 ≤ n by omega)
    have hd : ((m : Int) / 2 ^ (8 * K) == 0) = false := by
      rw [Bool.eq_false_iff, Ne, div_zero_iff]
      rw [Int.toNat_natCast, show (256 : Int) ^ K = ((256 ^ K : Nat) : Int) by simp] at hx
      omega
    clear h hx
    have h3' : (0 : Int) ≤ (m : Int) := by omega
    have h2' : (K : Int) ≤ 6 := by omega
    have h1' : 1 ≤ (K : Int) := by omega
    go_enter Try.func62, Try.ntmps62
    go_wp2
    go_ret
    exact ⟨rfl, rfl⟩

/-- a byte slice of the call's own and OK -/
def PutPost (w : World) (l : List Nat) (e : Ending) (w' : World) : Prop := ∃ v, e = .returned (.tuple #[v, .int .i64 0]) ∧ Own 5 w.heap.size w' v l ∧ Below w.heap.size w w'
def PutRel (w wr : World) (v0 v : Value) (l : List Nat) (m j : Nat) : Prop := Below w.heap.size w wr ∧ ((j = 0 ∧ v = v0 ∧ w = wr) ∨ (0 < j ∧ Own 5 w.heap.size wr v (l ++ le j m)))
theorem put_rel1 {w w1 : World} {v0 v' : Value} {l : List Nat} {m : Nat} {o : Obj} (hown1 : Own 5 (w.alloc o).heap.size w1 v' (l ++ [m % 256])) (hgr : (w.alloc o).grownBy w1 none) : PutRel w w1 v0 v' l m 1 :=
  ⟨((Below.refl _ _).alloc (Nat.le_refl _) o).grown hgr (by simp) (fun k hk => by cases hk), .inr ⟨by omega, by rw [show le 1 m = [m % 256] from rfl]; exact hown1.mono (by simp)⟩⟩
theorem put_rel2 {w wr w1 : World} {v0 v v' : Value} {l : List Nat} {m j : Nat} {o : Obj} (hb : Below w.heap.size w wr) (hown : Own 5 w.heap.size wr v (l ++ le j m)) (hown1 : Own 5 w.heap.size w1 v' (l ++ le j m ++ [m / 256 ^ j % 256])) (hgr : (wr.alloc o).grownBy w1 v.ownBlock) : PutRel w w1 v0 v' l m (j + 1) :=
  ⟨(hb.alloc hb.size o).grown hgr (by have := hb.size; simp; omega) (fun k hk => (hown.2.lt k hk).1), .inr ⟨by omega, by rw [le_snoc, ← List.append_assoc]; exact hown1⟩⟩
theorem div_pow_succ (m j : Nat) : m / 256 ^ (j + 1) = m / 256 ^ j / 256 := by rw [Nat.pow_succ, Nat.div_div_eq_div_mul]
theorem put_yes (ao : Option Addr) (cap : Nat) (l : List Nat) (m k : Nat) (h1 : 1 ≤ k) (h2 : k ≤ 6) (hm : m < 256 ^ k) (w : World) (hsl : Sl w (.slice ao l.length cap) l) (hlen : l.length < 35184372088832) :
    Calls Try.prog 45 #[.slice ao l.length cap, .int .i64 (m : Int), .int .i64 (k : Int)] w (PutPost w (l ++ le k m)) := by
  have hcap : l.length ≤ cap := by obtain ⟨_, a, c, he, h, _⟩ := hsl; cases he; exact h
  have HM := Lib.hid hm; clear hm
  have HS := Lib.hid hsl; clear hsl
  go_enter Try.func45, Try.ntmps45
  go_wp2_with (go_at_call 62; refine (fits_yes _ _ h1 h2 HM.out _).mono ?_; rintro e w' ⟨rfl, rfl⟩)
  go_loopw [1, 8, 20] (fun n v i wr => ∃ j : Nat, j ≤ k ∧ i = .int .i64 j ∧ n = .int .i64 ((m / 256 ^ j : Nat) : Int) ∧ PutRel w wr (.slice ao l.length l.length) v l m j) (fun _ _ i _ => k - (intOf i).toNat)
  case atStart => exact ⟨0, Nat.zero_le _, rfl, by simp, Below.refl _ _, .inl ⟨rfl, rfl, rfl⟩⟩
  case round =>
    obtain ⟨j, hj, rfl, rfl, hrel⟩ := hrel
    by_cases hlt : j < k
    · have HD := Lib.hid (div_pow_succ m j)
      rcases hrel with ⟨hb, ⟨rfl, rfl, rfl⟩ | ⟨hj0, hown⟩⟩
      · go_wp2_with (at_builtin; go_loud (refine wp_push_grow bt rfl _ _ rfl ao l rfl (HS.out.full.alloc _) ⟨w.heap.size, 0, none⟩ 1 rfl _ (m % 256) (new_cell _ _ _) (by simp) (Nat.mod_lt _ (by omega)) (by omega) ?_; intro v' w1 hown1 hgr1))
        have hR := put_rel1 (v0 := .slice ao l.length l.length) hown1 hgr1
        clear hown1 hgr1
        go_roundw
        case rel => exact ⟨1, by omega, by go_num, by simp, hR⟩
        case measure => simp [intOf]; omega
      · go_wp2_with (at_builtin; go_loud (refine wp_push_own bt rfl _ _ rfl w.heap.size _ (l ++ le j m) rfl (hown.alloc _) ⟨wr.heap.size, 0, none⟩ 1 rfl _ (m / 256 ^ j % 256) (new_cell _ _ _) (by simp) (Nat.mod_lt _ (by omega)) (by rw [List.length_append, le_length]; omega) (by have := hb.size; simp; omega) ?_; intro v' w1 hown1 hgr1))
        have hR := put_rel2 (v0 := .slice ao l.length l.length) hb hown hown1 hgr1
        clear hown1 hgr1
        go_roundw
        case rel => exact ⟨j + 1, by omega, by go_num, by rw [HD.out]; rfl, hR⟩
        case measure => simp [intOf]; omega
    · obtain rfl : j = k := by omega
      obtain ⟨hb, ⟨h0, _, _⟩ | ⟨_, hown⟩⟩ := hrel
      · omega
      go_wp2
      go_ret2
      exact ⟨_, rfl, hown, hb⟩

/-! the document's own -/
theorem fitsr_loop (m k : Nat) (h1 : 1 ≤ k) (h2 : k ≤ 6) (hm63 : (m : Int) ≤ 9223372036854775807) (r : Bool) (hr : (((m / 256 ^ k : Nat) : Int) == 0) = r) (w : World) :
    Calls Try.prog 63 #[.int .i64 (m : Int), .int .i64 (k : Int)] w fun e w' => e = .returned (.bool r) ∧ w = w' := by
  have a1 : decide ((k : Int) < 1) = false := by simp; omega
  have a2 : decide ((6 : Int) < (k : Int)) = false := by simp; omega
  have a3 : decide ((m : Int) < 0) = false := by simp
  have HR := Lib.hid hr; clear hr
  go_enter Try.func63, Try.ntmps63
  go_wp2
  go_loop [0, 5] (fun n i => ∃ j : Nat, j ≤ k ∧ i = .int .i64 j ∧ n = .int .i64 ((m / 256 ^ j : Nat) : Int)) (fun _ i => k - (intOf i).toNat)
  case atStart => exact ⟨0, Nat.zero_le _, rfl, by simp⟩
  case round =>
    obtain ⟨j, hj, rfl, rfl⟩ := hrel
    have hle : m / 256 ^ j ≤ m := Nat.div_le_self _ _
    have HD := Lib.hid (div_pow_succ m j)
    by_cases hlt : j < k
    · generalize m / 256 ^ j = q at *
      go_wp2
      go_round
      case rel => exact ⟨j + 1, by omega, by go_num, by rw [HD.out]; rfl⟩
      case measure => simp [intOf]; omega
    · obtain rfl : j = k := by omega
      generalize m / 256 ^ j = q at *
      go_wp2
      go_ret
      exact ⟨congrArg (fun z => Ending.returned (.bool z)) HR.out, rfl⟩
theorem fitsr_yes (m k : Nat) (h1 : 1 ≤ k) (h2 : k ≤ 6) (hm : m < 256 ^ k) (w : World) :
    Calls Try.prog 63 #[.int .i64 (m : Int), .int .i64 (k : Int)] w fun e w' => e = .returned (.bool true) ∧ w = w' := by
  have hb : 256 ^ k ≤ 256 ^ 6 := Nat.pow_le_pow_right (by omega) h2
  have hb2 : 256 ^ 6 = 281474976710656 := by decide
  exact fitsr_loop m k h1 h2 (by omega) true (by rw [Nat.div_eq_of_lt hm]; rfl) w
theorem fitsr_no (n k : Int) (hn : n ≤ 9223372036854775807) (h : NoFit n k) (w : World) :
    Calls Try.prog 63 #[.int .i64 n, .int .i64 k] w fun e w' => e = .returned (.bool false) ∧ w = w' := by
  by_cases h1 : k < 1
  · have a1 : decide (k < 1) = true := by simp; omega
    go_enter Try.func63, Try.ntmps63
    go_wp2
    go_ret
    exact ⟨rfl, rfl⟩
  by_cases h2 : 6 < k
  · have a1 : decide (k < 1) = false := by simp; omega
    have a2 : decide (6 < k) = true := by simp; omega
    go_enter Try.func63, Try.ntmps63
    go_wp2
    go_ret
    exact ⟨rfl, rfl⟩
  by_cases h3 : n < 0
  · have a1 : decide (k < 1) = false := by simp; omega
    have a2 : decide (6 < k) = false := by simp; omega
    have a3 : decide (n < 0) = true := by simp; omega
    go_enter Try.func63, Try.ntmps63
    go_wp2
    go_ret
    exact ⟨rfl, rfl⟩
  · have hx : (256 : Int) ^ k.toNat ≤ n := by rcases h with h | h | h | h <;> first | exact h | omega
    obtain ⟨K, rfl⟩ := Int.eq_ofNat_of_zero_le (show 0 ≤ k by omega)
    obtain ⟨m, rfl⟩ := Int.eq_ofNat_of_zero_le (show 0 ≤ n by omega)
    refine fitsr_loop m K (by omega) (by omega) hn false ?_ w
    rw [Int.toNat_natCast, show (256 : Int) ^ K = ((256 ^ K : Nat) : Int) by simp] at hx
    have hp : 0 < 256 ^ K := Nat.pow_pos (by omega)
    have : 0 < m / 256 ^ K := Nat.div_pos (by omega) hp
    rw [beq_eq_false_iff_ne]; omega
def PutRelR (w wr : World) (v : Value) (l : List Nat) : Prop := Below w.heap.size w wr ∧ Own 5 w.heap.size wr v l
theorem putr_rel0 {w w1 : World} {v : Value} {l : List Nat} (hown : Own 5 w.heap.size w1 v ([] ++ l)) (hgr : w.grownBy w1 (Value.slice none 0 0).ownBlock) : PutRelR w w1 v l :=
  ⟨(Below.refl _ _).grown hgr (Nat.le_refl _) (fun k hk => by cases hk), hown⟩
theorem putr_rel {w wr w1 : World} {v v' : Value} {l : List Nat} {m j : Nat} {o : Obj} (h : PutRelR w wr v (l ++ le j m)) (hown1 : Own 5 w.heap.size w1 v' (l ++ le j m ++ [m / 256 ^ j % 256])) (hgr : (wr.alloc o).grownBy w1 v.ownBlock) : PutRelR w w1 v' (l ++ le (j + 1) m) :=
  ⟨(h.1.alloc h.1.size o).grown hgr (by have := h.1.size; simp; omega) (fun k hk => (h.2.2.lt k hk).1), by rw [le_snoc, ← List.append_assoc]; exact hown1⟩
theorem putr_yes (v0 : Value) (l : List Nat) (m k : Nat) (h1 : 1 ≤ k) (h2 : k ≤ 6) (hm : m < 256 ^ k) (w : World) (hsl : Sl w v0 l) (hlen : l.length < 35184372088832) :
    Calls Try.prog 48 #[v0, .int .i64 (m : Int), .int .i64 (k : Int)] w (PutPost w (l ++ le k m)) := by
  have hb : 256 ^ k ≤ 256 ^ 6 := Nat.pow_le_pow_right (by omega) h2
  have hb2 : 256 ^ 6 = 281474976710656 := by decide
  have hmm : m < 281474976710656 := by omega
  clear hb2
  clear hb
  have HM := Lib.hid hm; clear hm
  have HS := Lib.hid hsl; clear hsl
  go_enter Try.func48, Try.ntmps48
  go_wp2_with (first | (go_at_call 63; refine (fitsr_yes _ _ h1 h2 HM.out _).mono ?_; rintro e w' ⟨rfl, rfl⟩) | (at_builtin; go_loud (refine wp_cat_own bt rfl _ _ rfl w.heap.size _ [] rfl (Own.nil _ _ _) _ l rfl HS.out (by simp; omega) (Nat.le_refl _) ?_; intro v' w1 hown1 hgr1)))
  have hR := putr_rel0 hown1 hgr1
  clear hown1 hgr1
  go_wp2
  go_loopw [1, 8, 9] (fun n v i wr => ∃ j : Nat, j ≤ k ∧ i = .int .i64 j ∧ n = .int .i64 ((m / 256 ^ j : Nat) : Int) ∧ PutRelR w wr v (l ++ le j m)) (fun _ _ i _ => k - (intOf i).toNat)
  case atStart => exact ⟨0, Nat.zero_le _, rfl, by simp, by simpa [le] using hR⟩
  case round =>
    clear hR
    obtain ⟨j, hj, rfl, rfl, hrel⟩ := hrel
    by_cases hlt : j < k
    · have HD := Lib.hid (div_pow_succ m j)
      have hle : m / 256 ^ j ≤ m := Nat.div_le_self _ _
      have HRel := Lib.hid hrel
      clear hrel
      generalize hq : m / 256 ^ j = q at *
      have HQ := Lib.hid hq
      clear hq
      go_wp2_with (at_builtin; go_loud (refine wp_push_own bt rfl _ _ rfl w.heap.size _ (l ++ le j m) rfl (HRel.out.2.alloc _) ⟨wr.heap.size, 0, none⟩ 1 rfl _ (q % 256) (new_cell _ _ _) (by simp) (Nat.mod_lt _ (by omega)) (by rw [List.length_append, le_length]; omega) (by have := HRel.out.1.size; simp; omega) ?_; intro v' w1 hown1 hgr1))
      have hR := putr_rel (m := m) (j := j) HRel.out (by rw [HQ.out]; exact hown1) hgr1
      clear hown1 hgr1
      go_roundw
      case rel => exact ⟨j + 1, by omega, by go_num, by rw [HD.out]; rfl, hR⟩
      case measure => simp [intOf]; omega
    · obtain rfl : j = k := by omega
      obtain ⟨hb, hown⟩ := hrel
      go_wp2
      go_ret2
      exact ⟨_, rfl, hown, hb⟩

theorem put_no (v0 : Value) (n k : Int) (h : NoFit n k) (w : World) :
    Calls Try.prog 45 #[v0, .int .i64 n, .int .i64 k] w fun e w' => e = .returned (.tuple #[.slice none 0 0, .int .i64 2]) ∧ w = w' := by
  have HN := Lib.hid h; clear h
  go_enter Try.func45, Try.ntmps45
  go_wp2_with (go_at_call 62; refine (fits_no _ _ HN.out _).mono ?_; rintro e w' ⟨rfl, rfl⟩)
  go_ret2
  exact ⟨rfl, rfl⟩
theorem putr_no (v0 : Value) (n k : Int) (hn : n ≤ 9223372036854775807) (h : NoFit n k) (w : World) :
    Calls Try.prog 48 #[v0, .int .i64 n, .int .i64 k] w fun e w' => e = .returned (.tuple #[.slice none 0 0, .int .i64 2]) ∧ w = w' := by
  have HN := Lib.hid h; clear h
  go_enter Try.func48, Try.ntmps48
  go_wp2_with (go_at_call 63; refine (fitsr_no _ _ hn HN.out _).mono ?_; rintro e w' ⟨rfl, rfl⟩)
  go_ret2
  exact ⟨rfl, rfl⟩
/-- the number of some bytes, the lowest first -/
def num : List Nat → Nat
  | [] => 0
  | b :: bs => b + 256 * num bs
end Go.Proofs.Ytcffabfaefbjcaa
