/-
  The walks of SumsJoin and SumsTurns (chapter 02).
-/
import Derived.Test.YtifgbhakbgakmaaOpenR
namespace Go.Proofs.Ytifgbhakbgakmaa
set_option linter.unusedVariables false
open Go.RowKit Crc
theorem Sl.shape {w : World} {v : Value} {l : List Nat} (h : Sl w v l) : ∃ ao cap, v = .slice ao l.length cap ∧ l.length ≤ cap ∧ cap ≤ 9223372036854775807 := by
  obtain ⟨h0, ao, cap, e, h1, h2, h3⟩ := h
  exact ⟨ao, cap, e, h1, by unfold maxLen at h2; omega⟩
theorem sum_none (w : World) : Calls Try.prog 15 #[.slice none 0 0] w fun e w' => e = .returned (.int .u32 0) ∧ w = w' := by
  refine (sum_any _ [] w (Sl.nil w)).mono ?_
  rintro e w' ⟨rfl, rfl⟩
  refine ⟨?_, rfl⟩
  have : sumOf [] = 0 := by rw [sumOf_eq]; exact Nat.xor_self _
  rw [this]; rfl
theorem step_1 (w : World) : Calls Try.prog 16 #[.int .u32 1] w fun e w' => e = .returned (.int .u32 3988292384) ∧ w = w' := by
  refine (step_any 1 (by omega) w).mono ?_
  rintro e w' ⟨rfl, rfl⟩
  refine ⟨?_, rfl⟩
  have : stp 1 = 3988292384 := by decide
  rw [this]; rfl
theorem step_2 (w : World) : Calls Try.prog 16 #[.int .u32 2] w fun e w' => e = .returned (.int .u32 1) ∧ w = w' := by
  refine (step_any 2 (by omega) w).mono ?_
  rintro e w' ⟨rfl, rfl⟩
  refine ⟨?_, rfl⟩
  have : stp 2 = 1 := by decide
  rw [this]; rfl
theorem wakes02_any (w : World) : Calls Try.prog 13 #[] w fun e w' => e = .returned (.bool true) ∧ w = w' := by
  go_enter Try.func13, Try.ntmps13
  go_wp2_with fail
  refine (sum_none _).mono ?_
  rintro e w' ⟨rfl, rfl⟩
  go_wp2_with fail
  refine (step_1 _).mono ?_
  rintro e w' ⟨rfl, rfl⟩
  go_wp2_with fail
  refine (step_2 _).mono ?_
  rintro e w' ⟨rfl, rfl⟩
  go_wp2_with fail
  go_ret
  exact ⟨rfl, rfl⟩
theorem more_join (s : Nat) (b c : List Nat) : moreOf (moreOf s b) c = moreOf s (b ++ c) := by
  unfold moreOf
  rw [inv_inv, onB_append]
theorem join_end {w w2 w3 : World} {v : Value} {l : List Nat} (h : Own 5 w.heap.size w2 v l) (hb : Below w.heap.size w w2) (hg : w2.grownBy w3 v.ownBlock) : Below w.heap.size w w3 :=
  hb.grown hg hb.size (fun k hk => (h.2.lt k hk).1)
theorem lawSumsJoin_walk (v0 : Value) (l0 : List Nat) (v1 : Value) (l1 : List Nat) (w : World) (w0 : Sl w v0 l0) (w1 : Sl w v1 l1) (z0 : l0.length ≤ 140737488351232) (z1 : l1.length ≤ 140737488351232) :
    Calls Try.prog 3 #[v0, v1] w fun e w' => e = .returned (.bool true) ∧ Below w.heap.size w w' := by
  obtain ⟨ao0, cap0, rfl, hc0, hm0⟩ := w0.shape
  obtain ⟨ao1, cap1, rfl, hc1, hm1⟩ := w1.shape
  by_cases hlen : 4000 < l0.length + l1.length
  · have d0 : decide ((4000 : Int) < (l0.length : Int) + (l1.length : Int)) = true := by simp; omega
    have B0 := Lib.hid (Below.refl w.heap.size w)
    clear w0 w1
    go_enter Try.func3, Try.ntmps3
    go_wp2_with (go_at_call 13; refine (wakes02_any _).mono ?_; rintro e w' ⟨rfl, rfl⟩)
    go_ret
    exact ⟨rfl, B0.out⟩
  have d0 : decide ((4000 : Int) < (l0.length : Int) + (l1.length : Int)) = false := by simp; omega
  have W0 := Lib.hid w0
  have W1 := Lib.hid w1
  clear w0 w1
  have hL1 := Lib.hid (show ([] : List Nat).length + l0.length ≤ 70368744177664 by rw [List.length_nil]; omega)
  have hL2 := Lib.hid (show ([] ++ l0).length + l1.length ≤ 70368744177664 by rw [List.nil_append]; omega)
  have M := Lib.hid (more_any (sumOf l0) (sumOf_lt l0 W0.out.bytes) (.slice ao1 l1.length cap1) l1)
  have MJ := Lib.hid (more_join 0 l0 l1)
  have S0 := Lib.hid (sum_any (.slice ao0 l0.length cap0) l0)
  have M0 := Lib.hid (more_any 0 (by omega) (.slice ao0 l0.length cap0) l0)
  go_enter Try.func3, Try.ntmps3
  go_wp2_with (first
    | (refine wp_cat_own (o := ⟨some 15, _, _, _, _, _⟩) bt rfl (.tmp 13) (.tmp 14) rfl w.heap.size _ [] rfl (Own.nil _ _ _) _ l0 rfl W0.out hL1.out (Nat.le_refl _) ?_; intro v' w2 hown2 hgr2; have H2 := Lib.hid hown2; have B2 := Lib.hid ((Below.refl w.heap.size w).grown hgr2 (Nat.le_refl _) (fun k hk => by cases hk)); clear hown2 hgr2)
    | (refine wp_cat_own (o := ⟨some 18, _, _, _, _, _⟩) bt rfl (.tmp 16) (.tmp 17) rfl w.heap.size _ ([] ++ l0) rfl H2.out _ l1 rfl (W1.out.below B2.out (Nat.le_refl _)) hL2.out B2.out.size ?_; intro v'' w3 hown3 hgr3; have H3 := Lib.hid hown3; have G3 := Lib.hid hgr3; clear hown3 hgr3))
  have B3 : Below w.heap.size w w3 := join_end H2.out B2.out G3.out
  have H3' := H3.out.sl
  rw [List.nil_append] at H3'
  have hs3 := Lib.hid (W0.out.below B3 (Nat.le_refl _))
  have hs4 := Lib.hid (W1.out.below B3 (Nat.le_refl _))
  have HB := Lib.hid B3
  clear B3 H3 G3
  refine (S0.out w3 hs3.out).mono ?_
  rintro e w' ⟨rfl, rfl⟩
  go_wp2_with fail
  refine (M.out w3 hs4.out).mono ?_
  rintro e w' ⟨rfl, rfl⟩
  have S3 := Lib.hid (sum_any v'' (l0 ++ l1) w3 H3')
  clear H3'
  go_wp2_with fail
  refine S3.out.mono ?_
  rintro e w' ⟨rfl, rfl⟩
  have he : (((moreOf (sumOf l0) l1 : Nat) : Int) == ((sumOf (l0 ++ l1) : Nat) : Int)) = true := by
    rw [beq_iff_eq]; exact congrArg Int.ofNat MJ.out
  go_wp2_with fail
  refine (M0.out w3 hs3.out).mono ?_
  rintro e w' ⟨rfl, rfl⟩
  go_wp2_with fail
  refine (S0.out w3 hs3.out).mono ?_
  rintro e w' ⟨rfl, rfl⟩
  have he0 : (((moreOf 0 l0 : Nat) : Int) == ((sumOf l0 : Nat) : Int)) = true := by
    rw [beq_iff_eq]; rfl
  go_wp2_with fail
  refine (wakes02_any _).mono ?_
  rintro e w' ⟨rfl, rfl⟩
  go_wp2_with fail
  go_ret
  exact ⟨rfl, HB.out⟩
end Go.Proofs.Ytifgbhakbgakmaa
