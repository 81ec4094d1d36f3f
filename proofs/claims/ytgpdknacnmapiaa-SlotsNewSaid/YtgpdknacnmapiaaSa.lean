/-
  Two actions are the same (chapter 10's ints, SameAct).
-/
import Derived.Test.YtgpdknacnmapiaaNl
import Derived.Deep.QuietTactic
namespace Go.Proofs.Ytgpdknacnmapiaa
set_option linter.unusedVariables false
set_option linter.unusedSimpArgs false
open Go.RowKit
set_option maxHeartbeats 2000000 in
set_option maxRecDepth 100000 in
theorem ints_same {B1 B2 : Nat} (v1 v2 : Value) (l : List Int) (w : World) (h1 : Ints B1 w v1 l) (h2 : Ints B2 w v2 l) (hlen : l.length ≤ 100000) :
    Calls Try.prog 54 #[v1, v2] w fun e w' => e = .returned (.bool true) ∧ ∃ n, w' = w.drewN n := by
  obtain ⟨ao1, cap1, rfl, hc1, hr1⟩ := h1
  obtain ⟨ao2, cap2, rfl, hc2, hr2⟩ := h2
  have HR1 := Lib.hid hr1
  have HR2 := Lib.hid hr2
  obtain ⟨m, hm⟩ : ∃ m, l.length = m := ⟨_, rfl⟩
  have HM := Lib.hid hm
  rw [hm] at hc1 hc2 hlen ⊢
  have hm63 : m ≤ 9223372036854775807 := by omega
  have e0 : ((m : Int) == (m : Int)) = true := by simp
  clear hr1 hr2 hm
  go_enter Try.func54, Try.ntmps54
  go_wp2_with fail
  go_loopw [5] (fun iv wr => ∃ j k : Nat, j ≤ m ∧ iv = .int .i64 j ∧ wr = w.drewN k) (fun iv _ => m - (intOf iv).toNat)
  case atStart => exact ⟨0, 0, Nat.zero_le _, rfl, rfl⟩
  case round =>
    obtain ⟨j, k, hj, rfl, rfl⟩ := hrel
    by_cases hlt : j < m
    · obtain ⟨x, hx⟩ : ∃ x, l[j]? = some x := ⟨l[j]'(by rw [HM.out]; exact hlt), List.getElem?_eq_getElem _⟩
      obtain ⟨b1, o1, rfl, _, r1⟩ := HR1.out j x hx
      obtain ⟨b2, o2, rfl, _, r2⟩ := HR2.out j x hx
      have ex1 : (x == x) = true := by simp
      clear hx
      go_wp2_with fail
      go_quiet (fail)
      go_wp2_with fail
      go_roundw
      case rel => exact ⟨j + 1, _, hlt, rfl, rfl⟩
      case measure => simp [intOf]; omega
    · have e : j = m := by omega
      subst e
      go_wp2_with fail
      go_ret
      exact ⟨rfl, _, rfl⟩
theorem below_drewN (w : World) : ∀ n, Below w.heap.size w (w.drewN n)
  | 0 => Below.refl _ _
  | n + 1 => ⟨rfl, rfl, rfl, Nat.le_refl _, fun _ _ => rfl⟩
set_option maxHeartbeats 4000000 in
set_option maxRecDepth 100000 in
theorem same_act {B1 B2 : Nat} (k a v : Int) (v1 v2 : Value) (l : List Int) (w : World) (h1 : Ints B1 w v1 l) (h2 : Ints B2 w v2 l) (hlen : l.length ≤ 100000) :
    Calls Try.prog 21 #[.agg (acC k a 0 v 0 v1), .agg (acC k a 0 v 0 v2)] w fun e w' => e = .returned (.bool true) ∧ Below w.heap.size w w' := by
  have HB : ∀ W, Below w.heap.size w W → Ints 0 W v1 l ∧ Ints 0 W v2 l := fun W hb => ⟨(h1.low (Nat.zero_le _)).below hb, (h2.low (Nat.zero_le _)).below hb⟩
  have HH := Lib.hid HB
  have e1 : (k == k) = true := by simp
  have e2 : (a == a) = true := by simp
  have e3 : (v == v) = true := by simp
  have HBa : Hid (Below w.heap.size w ((w.alloc (.cells (acC k a 0 v 0 v1) 59)).alloc (.cells (acC k a 0 v 0 v2) 59))) := Lib.hid (((Below.refl _ _).alloc (Nat.le_refl _) _).alloc (by simp) _)
  unfold acC at *
  obtain ⟨ao1, c1, rfl, -, -⟩ := h1
  obtain ⟨ao2, c2, rfl, -, -⟩ := h2
  clear HB
  go_enter Try.func21, Try.ntmps21
  go_wp2_with fail
  refine (ints_same _ _ l _ (HH.out _ HBa.out).1 (HH.out _ HBa.out).2 hlen).mono ?_
  rintro e W ⟨rfl, n, rfl⟩
  go_wp2_with fail
  go_ret
  exact ⟨rfl, HBa.out.trans ((below_drewN _ _).mono (HBa.out.size))⟩
end Go.Proofs.Ytgpdknacnmapiaa
