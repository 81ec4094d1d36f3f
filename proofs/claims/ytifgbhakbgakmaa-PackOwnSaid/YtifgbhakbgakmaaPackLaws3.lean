/-
  The walks of PackWide and PackParts (chapter 01).
-/
import Derived.Test.YtifgbhakbgakmaaPackLaws2
namespace Go.Proofs.Ytifgbhakbgakmaa
set_option linter.unusedVariables false
open Go.RowKit Go.ChangeShapes
/-- as PutPostE, the slice written out -/
def PutPostS (w : World) (l : List Nat) (E : Int) (e : Ending) (w' : World) : Prop := ∃ ao cap, e = .returned (.tuple #[.slice ao l.length cap, .int .i64 E]) ∧ l.length ≤ cap ∧ cap ≤ 9223372036854775807 ∧ Own 5 w.heap.size w' (.slice ao l.length cap) l ∧ Below w.heap.size w w'
theorem PutPostS.of {w : World} {l : List Nat} {E : Int} {e : Ending} {w' : World} (h : PutPostE w l E e w') : PutPostS w l E e w' := by
  obtain ⟨v, rfl, h1, h2⟩ := h
  obtain ⟨ao, cap, rfl, h3, h4⟩ := h1.sl.open
  exact ⟨ao, cap, rfl, h3, h4, h1, h2⟩
theorem put_good (v0 : Value) (m k : Nat) (h1 : 1 ≤ k) (h2 : k ≤ 6) (hm : m < 256 ^ k) (l : List Nat) (w : World) (hsl : Sl w v0 l) (hlen : l.length < 35184372088832) (n q : Int) (hn : n = (m : Int)) (hq : q = (k : Int)) :
    Calls Try.prog 31 #[v0, .int .i64 n, .int .i64 q] w (PutPostS w (l ++ le k m) 0) := by
  subst hn hq
  obtain ⟨ao, cap, rfl, _, _⟩ := hsl.open
  exact (put_yes ao cap l m k h1 h2 hm w hsl hlen).mono fun e w' ⟨v, h3, h4, h5⟩ => PutPostS.of ⟨v, h3, h4, h5⟩
/-- a new slice of n bytes -/
def PutPostN (w : World) (n : Nat) (l : List Nat) (E : Int) (e : Ending) (w' : World) : Prop := ∃ ao cap, e = .returned (.tuple #[.slice ao n cap, .int .i64 E]) ∧ n ≤ cap ∧ cap ≤ 9223372036854775807 ∧ Own 5 w.heap.size w' (.slice ao n cap) l ∧ Below w.heap.size w w'
theorem put_nil_good (m k : Nat) (h1 : 1 ≤ k) (h2 : k ≤ 6) (hm : m < 256 ^ k) (w : World) (n q : Int) (hn : n = (m : Int)) (hq : q = (k : Int)) :
    Calls Try.prog 31 #[.slice none 0 0, .int .i64 n, .int .i64 q] w (PutPostN w k (le k m) 0) := by
  refine (put_good (.slice none 0 0) m k h1 h2 hm [] w (Sl.nil w) (by simp) n q hn hq).mono ?_
  rintro e w' ⟨ao, cap, he, r⟩
  rw [List.nil_append, le_length] at he r
  exact ⟨ao, cap, he, r⟩
theorem wide_le (k m : Nat) (h : m < 256 ^ k) : le (k + 1) m = le k m ++ [0] := by
  rw [le_snoc, Nat.div_eq_of_lt h]
theorem fitsB_nat (m k : Nat) : fitsB (m : Int) (k : Int) = decide (1 ≤ k ∧ k ≤ 6 ∧ m < 256 ^ k) := by
  unfold fitsB
  rw [Bool.eq_iff_iff, decide_eq_true_eq, decide_eq_true_eq, Int.toNat_natCast, show (256 : Int) ^ k = ((256 ^ k : Nat) : Int) by simp]
  omega
theorem fits_any2 {m K : Nat} (h : ∀ w, Calls Try.prog 32 #[.int .i64 (m : Int), .int .i64 ((K + 1 : Nat) : Int)] w fun e w' => e = .returned (.bool true) ∧ w = w') (w : World) (q : Int) (hq : q = ((K + 1 : Nat) : Int)) :
    Calls Try.prog 32 #[.int .i64 (m : Int), .int .i64 q] w fun e w' => e = .returned (.bool true) ∧ w = w' := by
  subst hq; exact h w
theorem lawPackWide_walk (a0 a1 : Int) (w : World) (w0 : (Lit.int .i64 a0).wf = true) (w1 : (Lit.int .i64 a1).wf = true) :
    Calls Try.prog 9 #[.int .i64 a0, .int .i64 a1] w fun e w' => e = .returned (.bool true) ∧ Below w.heap.size w w' := by
  have b0 := bounds_i64 w0
  clear w0 w1
  by_cases h1 : a1 < 1
  · have d1 : decide (a1 < 1) = true := by simp; omega
    go_enter Try.func9, Try.ntmps9
    go_wp2_with (go_at_call 25; refine (wakes01_any _).mono ?_; rintro e w' ⟨rfl, hb⟩)
    go_ret
    exact ⟨rfl, hb⟩
  have d1 : decide (a1 < 1) = false := by simp; omega
  by_cases h2 : 5 < a1
  · have d2 : decide (5 < a1) = true := by simp; omega
    go_enter Try.func9, Try.ntmps9
    go_wp2_with (go_at_call 25; refine (wakes01_any _).mono ?_; rintro e w' ⟨rfl, hb⟩)
    go_ret
    exact ⟨rfl, hb⟩
  have d2 : decide (5 < a1) = false := by simp; omega
  by_cases h3 : 1 ≤ a1 ∧ a1 ≤ 6 ∧ 0 ≤ a0 ∧ a0 < (256 : Int) ^ a1.toNat
  · obtain ⟨K, rfl⟩ := Int.eq_ofNat_of_zero_le (show 0 ≤ a1 by omega)
    obtain ⟨m, rfl⟩ := Int.eq_ofNat_of_zero_le h3.2.2.1
    have hm : m < 256 ^ K := by
      have := h3.2.2.2
      rw [Int.toNat_natCast, show (256 : Int) ^ K = ((256 ^ K : Nat) : Int) by simp] at this
      omega
    have hm2 : m < 256 ^ (K + 1) := Nat.lt_of_lt_of_le hm (Nat.pow_le_pow_right (by omega) (by omega))
    clear h3
    have F1 := Lib.hid (fits_yes m K (by omega) (by omega) hm)
    have F2 := Lib.hid (fits_yes m (K + 1) (by omega) (by omega) hm2)
    have P1 := Lib.hid (fun w => put_nil_good m K (by omega) (by omega) hm w (m : Int) (K : Int) rfl rfl)
    have P2 := Lib.hid (fun w q hq => put_nil_good m (K + 1) (by omega) (by omega) hm2 w (m : Int) q rfl hq)
    have HW := Lib.hid (wide_le K m hm)
    clear hm hm2
    go_enter Try.func9, Try.ntmps9
    go_wp2_with fail
    refine (F1.out _).mono ?_
    rintro e w' ⟨rfl, rfl⟩
    go_wp2_with fail
    refine (P1.out _).mono ?_
    rintro e wa ⟨aoa, ca, rfl, ha1, ha2, oa, ba⟩
    go_wp2_with fail
    refine (P2.out _ _ (by simp)).mono ?_
    rintro e wb ⟨aob, cb, rfl, hb1, hb2, ob, bb⟩
    have hsa := (oa.sl.below bb (Nat.le_refl _)).string bt (dst := 9) (by kernel_rfl)
    have hsb := ob.sl.string bt (dst := 9) (by kernel_rfl)
    have BAB := Lib.hid (ba.trans (bb.mono ba.size))
    clear ba bb oa ob
    have hadd := run_string_add_sum (P := Try.prog) (w := wb) (strOf (le K m)) ⟨#[0]⟩ (by rw [strOf_size, le_length]; show K + 1 ≤ _; omega)
    have hcmp : ((strOf (le (K + 1) m)).toList == (strOf (le K m) ++ ⟨#[0]⟩).toList) = true := by
      rw [HW.out, strOf_append]; exact beq_self_eq_true _
    go_wp2_with fail
    refine (fits_any2 F2.out _ _ (by simp)).mono ?_
    rintro e w' ⟨rfl, rfl⟩
    go_wp2_with (go_at_call 25; refine (wakes01_any _).mono ?_; rintro e w' ⟨rfl, hb⟩)
    go_ret
    exact ⟨rfl, BAB.out.trans (hb.mono BAB.out.size)⟩
  · have F1 := Lib.hid (fits_no a0 a1 (noFit_of h3))
    clear h3
    go_enter Try.func9, Try.ntmps9
    go_wp2_with fail
    refine (F1.out _).mono ?_
    rintro e w' ⟨rfl, rfl⟩
    go_wp2_with (go_at_call 25; refine (wakes01_any _).mono ?_; rintro e w' ⟨rfl, hb⟩)
    go_ret
    exact ⟨rfl, hb⟩

theorem handle_good (g s : Int) (h : 1 ≤ g ∧ g ≤ 1023 ∧ 0 ≤ s ∧ s < 256) (a : Int) (ha : a = g * 256 + s) (w : World) : Calls Try.prog 24 #[.int .i64 g, .int .i64 s] w fun e w' => e = .returned (.tuple #[.int .i64 a, .int .i64 0]) ∧ w = w' := by
  have := handle_any g s w
  unfold handleV handleE at this
  rw [if_pos h, if_pos h, ← ha] at this
  exact this
theorem handle_bad (g s : Int) (h : ¬ (1 ≤ g ∧ g ≤ 1023 ∧ 0 ≤ s ∧ s < 256)) (w : World) : Calls Try.prog 24 #[.int .i64 g, .int .i64 s] w fun e w' => e = .returned (.tuple #[.int .i64 0, .int .i64 2]) ∧ w = w' := by
  have := handle_any g s w
  unfold handleV handleE at this
  rw [if_neg h, if_neg h] at this
  exact this
theorem word_good (p a : Int) (h : 0 ≤ p ∧ p ≤ 1048575 ∧ 256 ≤ a ∧ a ≤ 262143) (x : Int) (hx : x = p * 1048576 + a) (w : World) : Calls Try.prog 26 #[.int .i64 p, .int .i64 a] w fun e w' => e = .returned (.tuple #[.int .i64 x, .int .i64 0]) ∧ w = w' := by
  have := word_any p a w
  unfold wordV wordE at this
  rw [if_pos (by omega), if_pos (by omega), ← hx] at this
  exact this
theorem word_bad (p a : Int) (h : ¬ (0 ≤ p ∧ p ≤ 1048575)) (w : World) : Calls Try.prog 26 #[.int .i64 p, .int .i64 a] w fun e w' => e = .returned (.tuple #[.int .i64 0, .int .i64 2]) ∧ w = w' := by
  have := word_any p a w
  unfold wordV wordE at this
  rw [if_neg (by omega), if_neg (by omega)] at this
  exact this
theorem parts_num (p g s : Int) (h : 0 ≤ p ∧ p ≤ 1048575) (h2 : 1 ≤ g ∧ g ≤ 1023 ∧ 0 ≤ s ∧ s < 256) (x : Int) (hx : x = p * 1048576 + (g * 256 + s)) :
    ((fieldN (inside x) 20 40 : Nat) : Int) = p ∧ ((fieldN (inside x) 8 12 : Nat) : Int) = g ∧ ((fieldN (inside x) 0 8 : Nat) : Int) = s ∧ ((fieldN (inside x) 0 20 : Nat) : Int) = g * 256 + s := by
  have hi : inside x = x.toNat := by unfold inside; rw [if_pos (by omega)]
  rw [hi]
  unfold fieldN
  obtain ⟨P, rfl⟩ := Int.eq_ofNat_of_zero_le h.1
  obtain ⟨G, rfl⟩ := Int.eq_ofNat_of_zero_le (show 0 ≤ g by omega)
  obtain ⟨S, rfl⟩ := Int.eq_ofNat_of_zero_le h2.2.2.1
  have hx2 : x.toNat = P * 1048576 + (G * 256 + S) := by omega
  rw [hx2]
  refine ⟨?_, ?_, ?_, ?_⟩ <;> simp <;> omega
theorem place_of (x p : Int) (h : ((fieldN (inside x) 20 40 : Nat) : Int) = p) (w : World) : Calls Try.prog 27 #[.int .i64 x] w fun e w' => e = .returned (.int .i64 p) ∧ Quiet w w' := h ▸ place_any x w
theorem gen_of (x p : Int) (h : ((fieldN (inside x) 8 12 : Nat) : Int) = p) (w : World) : Calls Try.prog 28 #[.int .i64 x] w fun e w' => e = .returned (.int .i64 p) ∧ Quiet w w' := h ▸ gen_any x w
theorem slot_of (x p : Int) (h : ((fieldN (inside x) 0 8 : Nat) : Int) = p) (w : World) : Calls Try.prog 29 #[.int .i64 x] w fun e w' => e = .returned (.int .i64 p) ∧ Quiet w w' := h ▸ slot_any x w
theorem bare_of (x p : Int) (h : ((fieldN (inside x) 0 20 : Nat) : Int) = p) (w : World) : Calls Try.prog 30 #[.int .i64 x] w fun e w' => e = .returned (.int .i64 p) ∧ Quiet w w' := h ▸ bare_any x w

set_option maxHeartbeats 1000000 in
theorem parts_tail (p g s q h t a b x y : Int) (w : World) (hp : 0 ≤ p ∧ p ≤ 1048575) (hq : 0 ≤ q ∧ q ≤ 1048575) (h1 : 1 ≤ g ∧ g ≤ 1023 ∧ 0 ≤ s ∧ s < 256) (h2 : 1 ≤ h ∧ h ≤ 1023 ∧ 0 ≤ t ∧ t < 256)
    (ha : a = g * 256 + s) (hb : b = h * 256 + t) (hx : x = p * 1048576 + a) (hy : y = q * 1048576 + b) :
    Calls Try.prog 7 #[.int .i64 p, .int .i64 g, .int .i64 s, .int .i64 q, .int .i64 h, .int .i64 t] w fun e w' => e = .returned (.bool true) ∧ Below w.heap.size w w' := by
  have A1 := Lib.hid (handle_good g s h1 a ha)
  have A2 := Lib.hid (handle_good h t h2 b hb)
  have B1 := Lib.hid (word_good p a (by omega) x hx)
  have B2 := Lib.hid (word_good q b (by omega) y hy)
  have N := parts_num p g s hp h1 x (by omega)
  rw [← ha] at N
  have C1 := Lib.hid (place_of x p N.1)
  have C2 := Lib.hid (gen_of x g N.2.1)
  have C3 := Lib.hid (slot_of x s N.2.2.1)
  have C4 := Lib.hid (bare_of x a N.2.2.2)
  clear N
  by_cases c1 : p < q
  · have t1 : decide (x < y) = true := by simp; omega
    have t2 : decide (p < q) = true := by simp; omega
    have t3 : (p == q) = false := by simp; omega
    have t5 : (x == y) = false := by simp; omega
    clear c1
    clear ha hb hx hy hp hq h1 h2
    go_enter Try.func7, Try.ntmps7
    go_wp2_with fail
    refine (A1.out _).mono ?_
    rintro e w' ⟨rfl, rfl⟩
    go_wp2_with fail
    refine (A2.out _).mono ?_
    rintro e w' ⟨rfl, rfl⟩
    go_wp2_with fail
    refine (B1.out _).mono ?_
    rintro e w' ⟨rfl, rfl⟩
    go_wp2_with fail
    refine (B2.out _).mono ?_
    rintro e w' ⟨rfl, rfl⟩
    go_wp2_with fail
    refine (C1.out _).mono ?_
    rintro e w2 ⟨rfl, q2⟩
    go_wp2_with fail
    refine (C2.out _).mono ?_
    rintro e w3 ⟨rfl, q3⟩
    go_wp2_with fail
    refine (C3.out _).mono ?_
    rintro e w4 ⟨rfl, q4⟩
    go_wp2_with fail
    refine (C4.out _).mono ?_
    rintro e w5 ⟨rfl, q5⟩
    have HB := Lib.hid (((q2.trans q3).trans (q4.trans q5)).below (B := w.heap.size))
    clear q2 q3 q4 q5
    go_wp2_with (go_at_call 25; refine (wakes01_any _).mono ?_; rintro e w' ⟨rfl, hb⟩)
    go_ret
    exact ⟨rfl, HB.out.trans (hb.mono HB.out.size)⟩
  by_cases c2 : q < p
  · have t1 : decide (x < y) = false := by simp; omega
    have t2 : decide (p < q) = false := by simp; omega
    have t3 : (p == q) = false := by simp; omega
    have t5 : (x == y) = false := by simp; omega
    clear c1 c2
    clear ha hb hx hy hp hq h1 h2
    go_enter Try.func7, Try.ntmps7
    go_wp2_with fail
    refine (A1.out _).mono ?_
    rintro e w' ⟨rfl, rfl⟩
    go_wp2_with fail
    refine (A2.out _).mono ?_
    rintro e w' ⟨rfl, rfl⟩
    go_wp2_with fail
    refine (B1.out _).mono ?_
    rintro e w' ⟨rfl, rfl⟩
    go_wp2_with fail
    refine (B2.out _).mono ?_
    rintro e w' ⟨rfl, rfl⟩
    go_wp2_with fail
    refine (C1.out _).mono ?_
    rintro e w2 ⟨rfl, q2⟩
    go_wp2_with fail
    refine (C2.out _).mono ?_
    rintro e w3 ⟨rfl, q3⟩
    go_wp2_with fail
    refine (C3.out _).mono ?_
    rintro e w4 ⟨rfl, q4⟩
    go_wp2_with fail
    refine (C4.out _).mono ?_
    rintro e w5 ⟨rfl, q5⟩
    have HB := Lib.hid (((q2.trans q3).trans (q4.trans q5)).below (B := w.heap.size))
    clear q2 q3 q4 q5
    go_wp2_with (go_at_call 25; refine (wakes01_any _).mono ?_; rintro e w' ⟨rfl, hb⟩)
    go_ret
    exact ⟨rfl, HB.out.trans (hb.mono HB.out.size)⟩
  by_cases c3 : g = h
  · by_cases c4 : s = t
    · have t1 : decide (x < y) = false := by simp; omega
      have t2 : decide (p < q) = false := by simp; omega
      have t3 : (p == q) = true := by rw [beq_iff_eq]; omega
      have t4 : decide (a < b) = false := by simp; omega
      have t5 : (x == y) = true := by rw [beq_iff_eq]; omega
      have t6 : (g == h) = true := by rw [beq_iff_eq]; omega
      have t7 : (s == t) = true := by rw [beq_iff_eq]; omega
      clear c1 c2 c3 c4
      clear ha hb hx hy hp hq h1 h2
      go_enter Try.func7, Try.ntmps7
      go_wp2_with fail
      refine (A1.out _).mono ?_
      rintro e w' ⟨rfl, rfl⟩
      go_wp2_with fail
      refine (A2.out _).mono ?_
      rintro e w' ⟨rfl, rfl⟩
      go_wp2_with fail
      refine (B1.out _).mono ?_
      rintro e w' ⟨rfl, rfl⟩
      go_wp2_with fail
      refine (B2.out _).mono ?_
      rintro e w' ⟨rfl, rfl⟩
      go_wp2_with fail
      refine (C1.out _).mono ?_
      rintro e w2 ⟨rfl, q2⟩
      go_wp2_with fail
      refine (C2.out _).mono ?_
      rintro e w3 ⟨rfl, q3⟩
      go_wp2_with fail
      refine (C3.out _).mono ?_
      rintro e w4 ⟨rfl, q4⟩
      go_wp2_with fail
      refine (C4.out _).mono ?_
      rintro e w5 ⟨rfl, q5⟩
      have HB := Lib.hid (((q2.trans q3).trans (q4.trans q5)).below (B := w.heap.size))
      clear q2 q3 q4 q5
      go_wp2_with (go_at_call 25; refine (wakes01_any _).mono ?_; rintro e w' ⟨rfl, hb⟩)
      go_ret
      exact ⟨rfl, HB.out.trans (hb.mono HB.out.size)⟩
    · by_cases c5 : a < b
      · have t1 : decide (x < y) = true := by simp; omega
        have t2 : decide (p < q) = false := by simp; omega
        have t3 : (p == q) = true := by rw [beq_iff_eq]; omega
        have t4 : decide (a < b) = true := by simp; omega
        have t5 : (x == y) = false := by simp; omega
        have t6 : (g == h) = true := by rw [beq_iff_eq]; omega
        have t7 : (s == t) = false := by simp; omega
        clear c1 c2 c3 c4 c5
        clear ha hb hx hy hp hq h1 h2
        go_enter Try.func7, Try.ntmps7
        go_wp2_with fail
        refine (A1.out _).mono ?_
        rintro e w' ⟨rfl, rfl⟩
        go_wp2_with fail
        refine (A2.out _).mono ?_
        rintro e w' ⟨rfl, rfl⟩
        go_wp2_with fail
        refine (B1.out _).mono ?_
        rintro e w' ⟨rfl, rfl⟩
        go_wp2_with fail
        refine (B2.out _).mono ?_
        rintro e w' ⟨rfl, rfl⟩
        go_wp2_with fail
        refine (C1.out _).mono ?_
        rintro e w2 ⟨rfl, q2⟩
        go_wp2_with fail
        refine (C2.out _).mono ?_
        rintro e w3 ⟨rfl, q3⟩
        go_wp2_with fail
        refine (C3.out _).mono ?_
        rintro e w4 ⟨rfl, q4⟩
        go_wp2_with fail
        refine (C4.out _).mono ?_
        rintro e w5 ⟨rfl, q5⟩
        have HB := Lib.hid (((q2.trans q3).trans (q4.trans q5)).below (B := w.heap.size))
        clear q2 q3 q4 q5
        go_wp2_with (go_at_call 25; refine (wakes01_any _).mono ?_; rintro e w' ⟨rfl, hb⟩)
        go_ret
        exact ⟨rfl, HB.out.trans (hb.mono HB.out.size)⟩
      · have t1 : decide (x < y) = false := by simp; omega
        have t2 : decide (p < q) = false := by simp; omega
        have t3 : (p == q) = true := by rw [beq_iff_eq]; omega
        have t4 : decide (a < b) = false := by simp; omega
        have t5 : (x == y) = false := by simp; omega
        have t6 : (g == h) = true := by rw [beq_iff_eq]; omega
        have t7 : (s == t) = false := by simp; omega
        clear c1 c2 c3 c4 c5
        clear ha hb hx hy hp hq h1 h2
        go_enter Try.func7, Try.ntmps7
        go_wp2_with fail
        refine (A1.out _).mono ?_
        rintro e w' ⟨rfl, rfl⟩
        go_wp2_with fail
        refine (A2.out _).mono ?_
        rintro e w' ⟨rfl, rfl⟩
        go_wp2_with fail
        refine (B1.out _).mono ?_
        rintro e w' ⟨rfl, rfl⟩
        go_wp2_with fail
        refine (B2.out _).mono ?_
        rintro e w' ⟨rfl, rfl⟩
        go_wp2_with fail
        refine (C1.out _).mono ?_
        rintro e w2 ⟨rfl, q2⟩
        go_wp2_with fail
        refine (C2.out _).mono ?_
        rintro e w3 ⟨rfl, q3⟩
        go_wp2_with fail
        refine (C3.out _).mono ?_
        rintro e w4 ⟨rfl, q4⟩
        go_wp2_with fail
        refine (C4.out _).mono ?_
        rintro e w5 ⟨rfl, q5⟩
        have HB := Lib.hid (((q2.trans q3).trans (q4.trans q5)).below (B := w.heap.size))
        clear q2 q3 q4 q5
        go_wp2_with (go_at_call 25; refine (wakes01_any _).mono ?_; rintro e w' ⟨rfl, hb⟩)
        go_ret
        exact ⟨rfl, HB.out.trans (hb.mono HB.out.size)⟩
  · by_cases c5 : a < b
    · have t1 : decide (x < y) = true := by simp; omega
      have t2 : decide (p < q) = false := by simp; omega
      have t3 : (p == q) = true := by rw [beq_iff_eq]; omega
      have t4 : decide (a < b) = true := by simp; omega
      have t5 : (x == y) = false := by simp; omega
      have t6 : (g == h) = false := by simp; omega
      clear c1 c2 c3 c5
      clear ha hb hx hy hp hq h1 h2
      go_enter Try.func7, Try.ntmps7
      go_wp2_with fail
      refine (A1.out _).mono ?_
      rintro e w' ⟨rfl, rfl⟩
      go_wp2_with fail
      refine (A2.out _).mono ?_
      rintro e w' ⟨rfl, rfl⟩
      go_wp2_with fail
      refine (B1.out _).mono ?_
      rintro e w' ⟨rfl, rfl⟩
      go_wp2_with fail
      refine (B2.out _).mono ?_
      rintro e w' ⟨rfl, rfl⟩
      go_wp2_with fail
      refine (C1.out _).mono ?_
      rintro e w2 ⟨rfl, q2⟩
      go_wp2_with fail
      refine (C2.out _).mono ?_
      rintro e w3 ⟨rfl, q3⟩
      go_wp2_with fail
      refine (C3.out _).mono ?_
      rintro e w4 ⟨rfl, q4⟩
      go_wp2_with fail
      refine (C4.out _).mono ?_
      rintro e w5 ⟨rfl, q5⟩
      have HB := Lib.hid (((q2.trans q3).trans (q4.trans q5)).below (B := w.heap.size))
      clear q2 q3 q4 q5
      go_wp2_with (go_at_call 25; refine (wakes01_any _).mono ?_; rintro e w' ⟨rfl, hb⟩)
      go_ret
      exact ⟨rfl, HB.out.trans (hb.mono HB.out.size)⟩
    · have t1 : decide (x < y) = false := by simp; omega
      have t2 : decide (p < q) = false := by simp; omega
      have t3 : (p == q) = true := by rw [beq_iff_eq]; omega
      have t4 : decide (a < b) = false := by simp; omega
      have t5 : (x == y) = false := by simp; omega
      have t6 : (g == h) = false := by simp; omega
      clear c1 c2 c3 c5
      clear ha hb hx hy hp hq h1 h2
      go_enter Try.func7, Try.ntmps7
      go_wp2_with fail
      refine (A1.out _).mono ?_
      rintro e w' ⟨rfl, rfl⟩
      go_wp2_with fail
      refine (A2.out _).mono ?_
      rintro e w' ⟨rfl, rfl⟩
      go_wp2_with fail
      refine (B1.out _).mono ?_
      rintro e w' ⟨rfl, rfl⟩
      go_wp2_with fail
      refine (B2.out _).mono ?_
      rintro e w' ⟨rfl, rfl⟩
      go_wp2_with fail
      refine (C1.out _).mono ?_
      rintro e w2 ⟨rfl, q2⟩
      go_wp2_with fail
      refine (C2.out _).mono ?_
      rintro e w3 ⟨rfl, q3⟩
      go_wp2_with fail
      refine (C3.out _).mono ?_
      rintro e w4 ⟨rfl, q4⟩
      go_wp2_with fail
      refine (C4.out _).mono ?_
      rintro e w5 ⟨rfl, q5⟩
      have HB := Lib.hid (((q2.trans q3).trans (q4.trans q5)).below (B := w.heap.size))
      clear q2 q3 q4 q5
      go_wp2_with (go_at_call 25; refine (wakes01_any _).mono ?_; rintro e w' ⟨rfl, hb⟩)
      go_ret
      exact ⟨rfl, HB.out.trans (hb.mono HB.out.size)⟩

theorem lawPackParts_walk (p g s q h t : Int) (w : World) (_ : (Lit.int .i64 p).wf = true) (_ : (Lit.int .i64 g).wf = true) (_ : (Lit.int .i64 s).wf = true) (_ : (Lit.int .i64 q).wf = true) (_ : (Lit.int .i64 h).wf = true) (_ : (Lit.int .i64 t).wf = true) :
    Calls Try.prog 7 #[.int .i64 p, .int .i64 g, .int .i64 s, .int .i64 q, .int .i64 h, .int .i64 t] w fun e w' => e = .returned (.bool true) ∧ Below w.heap.size w w' := by
  by_cases h1 : 1 ≤ g ∧ g ≤ 1023 ∧ 0 ≤ s ∧ s < 256
  · by_cases h2 : 1 ≤ h ∧ h ≤ 1023 ∧ 0 ≤ t ∧ t < 256
    · obtain ⟨a, ha⟩ : ∃ a, a = g * 256 + s := ⟨_, rfl⟩
      obtain ⟨b, hb⟩ : ∃ b, b = h * 256 + t := ⟨_, rfl⟩
      have A1 := Lib.hid (handle_good g s h1 a ha)
      have A2 := Lib.hid (handle_good h t h2 b hb)
      by_cases hp : 0 ≤ p ∧ p ≤ 1048575
      · by_cases hq : 0 ≤ q ∧ q ≤ 1048575
        · exact parts_tail p g s q h t a b _ _ w hp hq h1 h2 ha hb rfl rfl
        · have B1 := Lib.hid (word_good p a (by omega) _ rfl)
          have B2 := Lib.hid (word_bad q b hq)
          obtain ⟨p1, p2⟩ := hp
          clear hq ha hb h1 h2
          go_enter Try.func7, Try.ntmps7
          go_wp2_with fail
          refine (A1.out _).mono ?_
          rintro e w' ⟨rfl, rfl⟩
          go_wp2_with fail
          refine (A2.out _).mono ?_
          rintro e w' ⟨rfl, rfl⟩
          go_wp2_with fail
          refine (B1.out _).mono ?_
          rintro e w' ⟨rfl, rfl⟩
          go_wp2_with fail
          refine (B2.out _).mono ?_
          rintro e w' ⟨rfl, rfl⟩
          go_wp2_with (go_at_call 25; refine (wakes01_any _).mono ?_; rintro e w' ⟨rfl, hb⟩)
          go_ret
          exact ⟨rfl, hb⟩
      · have B1 := Lib.hid (word_bad p a hp)
        have B2 := Lib.hid (word_any q b)
        generalize wordV q b = z1 at *
        generalize wordE q b = z2 at *
        clear hp ha hb h1 h2
        go_enter Try.func7, Try.ntmps7
        go_wp2_with fail
        refine (A1.out _).mono ?_
        rintro e w' ⟨rfl, rfl⟩
        go_wp2_with fail
        refine (A2.out _).mono ?_
        rintro e w' ⟨rfl, rfl⟩
        go_wp2_with fail
        refine (B1.out _).mono ?_
        rintro e w' ⟨rfl, rfl⟩
        go_wp2_with fail
        refine (B2.out _).mono ?_
        rintro e w' ⟨rfl, rfl⟩
        go_wp2_with (go_at_call 25; refine (wakes01_any _).mono ?_; rintro e w' ⟨rfl, hb⟩)
        go_ret
        exact ⟨rfl, hb⟩
    · obtain ⟨a, ha⟩ : ∃ a, a = g * 256 + s := ⟨_, rfl⟩
      have A1 := Lib.hid (handle_good g s h1 a ha)
      have A2 := Lib.hid (handle_bad h t h2)
      clear ha h1 h2
      go_enter Try.func7, Try.ntmps7
      go_wp2_with fail
      refine (A1.out _).mono ?_
      rintro e w' ⟨rfl, rfl⟩
      go_wp2_with fail
      refine (A2.out _).mono ?_
      rintro e w' ⟨rfl, rfl⟩
      go_wp2_with (go_at_call 25; refine (wakes01_any _).mono ?_; rintro e w' ⟨rfl, hb⟩)
      go_ret
      exact ⟨rfl, hb⟩
  · have A1 := Lib.hid (handle_bad g s h1)
    have A2 := Lib.hid (handle_any h t)
    generalize handleV h t = z1 at *
    generalize handleE h t = z2 at *
    clear h1
    go_enter Try.func7, Try.ntmps7
    go_wp2_with fail
    refine (A1.out _).mono ?_
    rintro e w' ⟨rfl, rfl⟩
    go_wp2_with fail
    refine (A2.out _).mono ?_
    rintro e w' ⟨rfl, rfl⟩
    go_wp2_with (go_at_call 25; refine (wakes01_any _).mono ?_; rintro e w' ⟨rfl, hb⟩)
    go_ret
    exact ⟨rfl, hb⟩
end Go.Proofs.Ytifgbhakbgakmaa
