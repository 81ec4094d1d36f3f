/-
  pairs at slices that read alike (chapter 15).
-/
import Derived.Test.YtcmmmmpdehfefaaSorted
namespace Go.Proofs.Ytcmmmmpdehfefaa
set_option linter.unusedVariables false
set_option linter.unusedSimpArgs false
open Go.RowKit Go.Maps
theorem u47 : Try.prog.underlying 47 = some (.array 2 3) := by kernel_rfl
theorem z3 (w : World) : (sizeOf 3).run Try.prog w = .ok 1 w := by kernel_rfl
theorem part0 (a b : Int) (w : World) : (part 3 #[.int .i64 a, .int .i64 b] 0).run Try.prog w = .ok (.int .i64 a) w := by kernel_rfl
theorem part1 (a b : Int) (w : World) : (part 3 #[.int .i64 a, .int .i64 b] 1).run Try.prog w = .ok (.int .i64 b) w := by kernel_rfl
@[go_sem] theorem eq47 (a b c d : Int) (w : World) : (Op.equalIn 10000 47 (.agg #[.int .i64 a, .int .i64 b]) (.agg #[.int .i64 c, .int .i64 d])).run Try.prog w = .ok ((a == c) && (b == d)) w := by
  have h1 : (Op.equalIn 9999 3 (.int .i64 a) (.int .i64 c)).run Try.prog w = _ := run_equalIn_int (P := Try.prog) w 9998 3 .i64 .i64 a c u3
  have h2 : (Op.equalIn 9999 3 (.int .i64 b) (.int .i64 d)).run Try.prog w = _ := run_equalIn_int (P := Try.prog) w 9998 3 .i64 .i64 b d u3
  unfold Op.equalIn
  simp [run_underlying u47, z3]
  simp [List.range', List.forIn_cons, part0, part1, h1, h2]
  cases h : a == c
  · simp
    intro e; subst e; simp at h
  · cases h' : b == d
    · simp at h h'; simp [h, h']
    · simp at h h'; simp [h, h']
@[go_sem] theorem g47 : Try.prog.eqGuardType Try.prog.depth 47 = false := by kernel_rfl
theorem neq47 (a b c d : Int) (w : World) : (binOp .neq 47 (.agg #[.int .i64 a, .int .i64 b]) (.agg #[.int .i64 c, .int .i64 d])).run Try.prog w = .ok (.bool (!((a == c) && (b == d)))) w := by
  rw [run_neq_struct, eq47]; rfl
/-- v reads as these pairs -/
def SlP (w : World) (v : Value) (l : List (Int × Int)) : Prop := ∃ ao cap, v = .slice ao l.length cap ∧ l.length ≤ cap ∧
  ∀ j x, l[j]? = some x → ∃ b, ao = some ⟨b, 0, none⟩ ∧ w.cell? ⟨b, j * 2, none⟩ = some (.int .i64 x.1) ∧ w.cell? ⟨b, j * 2 + 1, none⟩ = some (.int .i64 x.2)
theorem encL_len (l : List (Int × Int)) : (encL l).length = 2 * l.length := by
  induction l with
  | nil => rfl
  | cons x l ih => unfold encL at *; rw [List.flatMap_cons, List.length_append, ih]; simp [encP]; omega
theorem encL_get (l : List (Int × Int)) (j : Nat) (x : Int × Int) (h : l[j]? = some x) : (encL l)[2 * j]? = some (.int .i64 x.1) ∧ (encL l)[2 * j + 1]? = some (.int .i64 x.2) := by
  induction l generalizing j with
  | nil => simp at h
  | cons y l ih =>
    have e : encL (y :: l) = .int .i64 y.1 :: .int .i64 y.2 :: encL l := by unfold encL; simp [encP]
    rw [e]
    cases j with
    | zero => simp at h; subst h; exact ⟨rfl, rfl⟩
    | succ j =>
      have := ih j (by simpa using h)
      rw [show 2 * (j + 1) = 2 * j + 1 + 1 by omega, List.getElem?_cons_succ, List.getElem?_cons_succ, List.getElem?_cons_succ]
      exact this
theorem SlP.of_own {w : World} {B : Nat} {v : Value} {l : List (Int × Int)} (h : w.ownsRow B 47 2 v l.length (encL l)) : SlP w v l := by
  rcases h.2 with ⟨rfl, h0⟩ | ⟨g, cap, cur, rfl, _, h1, h2, h3, h4, h5⟩
  · obtain rfl : l = [] := List.eq_nil_of_length_eq_zero h0
    exact ⟨none, 0, rfl, Nat.le_refl _, fun j x hx => by simp at hx⟩
  · refine ⟨_, cap, rfl, h2, fun j x hx => ⟨g, rfl, ?_⟩⟩
    have hj := (List.getElem?_eq_some_iff.1 hx).1
    obtain ⟨e1, e2⟩ := encL_get l j x hx
    rw [← h5, List.getElem?_take, if_pos (by omega)] at e1 e2
    rw [Nat.mul_comm 2 j] at e1 e2
    constructor
    · rw [cell_of_row _ _ _ _ _ _ h1]; simpa using e1
    · rw [cell_of_row _ _ _ _ _ _ h1]; simpa using e2
set_option maxHeartbeats 2000000 in
set_option maxRecDepth 100000 in
theorem pairs_same (v1 v2 : Value) (l : List (Int × Int)) (w : World) (h1 : SlP w v1 l) (h2 : SlP w v2 l) (hlen : l.length ≤ 100000) :
    Calls Try.prog 14 #[v1, v2] w fun e w' => e = .returned (.bool true) ∧ ∃ n, w' = w.drewN n := by
  obtain ⟨ao1, cap1, rfl, hc1, hr1⟩ := h1
  obtain ⟨ao2, cap2, rfl, hc2, hr2⟩ := h2
  have HR1 := Lib.hid hr1
  have HR2 := Lib.hid hr2
  obtain ⟨m, hm⟩ : ∃ m, l.length = m := ⟨_, rfl⟩
  have HM := Lib.hid hm
  rw [hm] at hc1 hc2 hlen ⊢
  have hm63 : m ≤ 9223372036854775807 := by omega
  have e0 : ((m : Int) == (m : Int)) = true := by simp

  clear hr1 hr2 hm
  go_enter Try.func14, Try.ntmps14
  go_wp2_with fail
  go_loopw [13] (fun iv wr => ∃ j k : Nat, j ≤ m ∧ iv = .int .i64 j ∧ wr = w.drewN k) (fun iv _ => m - (intOf iv).toNat)
  case atStart => exact ⟨0, 0, Nat.zero_le _, rfl, rfl⟩
  case round =>
    obtain ⟨j, k, hj, rfl, rfl⟩ := hrel
    by_cases hlt : j < m
    · obtain ⟨x, hx⟩ : ∃ x, l[j]? = some x := ⟨l[j]'(by rw [HM.out]; exact hlt), List.getElem?_eq_getElem _⟩
      obtain ⟨b1, rfl, r1, r2⟩ := HR1.out j x hx
      obtain ⟨b2, rfl, s1, s2⟩ := HR2.out j x hx
      have ex1 : (x.1 == x.1) = true := by simp
      have ex2 : (x.2 == x.2) = true := by simp
      clear hx
      go_wp2_with fail
      go_quiet (fail)
      go_wp2_with fail
      go_roundw
      case rel => exact ⟨j + 1, _, hlt, rfl, rfl⟩
      case measure => simp [intOf]; omega
    · have e : j = m := by omega
      subst e
      go_wp2_with fail
      go_ret
      exact ⟨rfl, _, rfl⟩
end Go.Proofs.Ytcmmmmpdehfefaa
