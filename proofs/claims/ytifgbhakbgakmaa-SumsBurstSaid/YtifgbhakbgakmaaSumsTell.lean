/-
  The walk of SumsTell (chapter 02).
-/
import Derived.Test.YtifgbhakbgakmaaSumsLaws2
namespace Go.Proofs.Ytifgbhakbgakmaa
set_option linter.unusedVariables false
open Go.RowKit Go.ChangeShapes Go.WideShapes Crc
/-- what Open answers -/
def opn (l : List Nat) : List Nat × Int := if l = sealed (l.take (l.length - 4)) then (l.take (l.length - 4), 0) else ([], 50)
theorem opn_sealed (u : List Nat) : opn (sealed u) = (u, 0) := by
  unfold opn
  rw [sealed_take, if_pos rfl]
theorem opn_not {l : List Nat} (h : ∀ u, l ≠ sealed u) : opn l = ([], 50) := by
  unfold opn
  rw [if_neg (h _)]
def OpnPost (w : World) (l : List Nat) (e : Ending) (w' : World) : Prop := ∃ v, e = .returned (.tuple #[v, .int .i64 (opn l).2]) ∧ Sl w' v (opn l).1 ∧ Below w.heap.size w w'
theorem open_opn (v : Value) (l : List Nat) (hlen : l.length < 35184372088832) (w : World) (hsl : Sl w v l) : Calls Try.prog 17 #[v] w (OpnPost w l) := by
  by_cases h : l = sealed (l.take (l.length - 4))
  · rw [h] at hsl hlen ⊢
    refine (open_any_yes v (l.take (l.length - 4)) (by rw [sealed_length] at hlen; omega) w hsl).mono ?_
    rintro e w' ⟨g, cap, rfl, h1, h2, h3, h4⟩
    unfold OpnPost
    rw [opn_sealed]
    exact ⟨_, rfl, h3.sl, h4⟩
  · have hno : ∀ u, l ≠ sealed u := fun u hu => h (by rw [hu, sealed_take])
    refine (open_any_no v l hlen w hsl hno).mono ?_
    rintro e w' ⟨rfl, h4⟩
    unfold OpnPost
    rw [opn_not hno]
    exact ⟨_, rfl, Sl.nil _, h4⟩
theorem openr_opn (v : Value) (l : List Nat) (hlen : l.length < 35184372088832) (w : World) (hsl : Sl w v l) : Calls Try.prog 18 #[v] w (OpnPost w l) := by
  by_cases h : l = sealed (l.take (l.length - 4))
  · rw [h] at hsl hlen ⊢
    refine (openr_any_yes v (l.take (l.length - 4)) (by rw [sealed_length] at hlen; omega) w hsl).mono ?_
    rintro e w' ⟨v', rfl, h3, h4⟩
    unfold OpnPost
    rw [opn_sealed]
    exact ⟨_, rfl, h3.sl, h4⟩
  · have hno : ∀ u, l ≠ sealed u := fun u hu => h (by rw [hu, sealed_take])
    refine (openr_any_no v l hlen w hsl hno).mono ?_
    rintro e w' ⟨rfl, h4⟩
    unfold OpnPost
    rw [opn_not hno]
    exact ⟨_, rfl, Sl.nil _, h4⟩
set_option maxHeartbeats 1000000 in
theorem lawSumsTell_walk (v0 : Value) (l0 : List Nat) (v1 : Value) (l1 : List Nat) (a2 : Int) (w : World) (w0 : Sl w v0 l0) (w1 : Sl w v1 l1) (wn : (Lit.int .u32 a2).wf = true) (z0 : l0.length ≤ 140737488351232) (z1 : l1.length ≤ 140737488351232) :
    Calls Try.prog 5 #[v0, v1, .int .u32 a2] w fun e w' => e = .returned (.bool true) ∧ Below w.heap.size w w' := by
  obtain ⟨ao0, cap0, rfl, hc0, hm0⟩ := w0.shape
  obtain ⟨ao1, cap1, rfl, hc1, hm1⟩ := w1.shape
  have b2 := bounds_u32 wn
  clear wn
  obtain ⟨A, rfl⟩ := Int.eq_ofNat_of_zero_le b2.1
  have hA := Lib.hid (show A < 4294967296 by omega)
  clear b2
  by_cases hlen : 4000 < l0.length + l1.length
  · have d0 : decide ((4000 : Int) < (l0.length : Int) + (l1.length : Int)) = true := by simp; omega
    have B0 := Lib.hid (Below.refl w.heap.size w)
    clear w0 w1
    go_enter Try.func5, Try.ntmps5
    go_wp2_with fail
    refine (wakes02_any _).mono ?_
    rintro e w' ⟨rfl, rfl⟩
    go_wp2_with fail
    go_ret
    exact ⟨rfl, B0.out⟩
  have d0 : decide ((4000 : Int) < (l0.length : Int) + (l1.length : Int)) = false := by simp; omega
  have W0 := Lib.hid w0
  have W1 := Lib.hid w1
  clear w0 w1
  have hL0 := Lib.hid (show l0.length < 35184372088832 by omega)
  go_enter Try.func5, Try.ntmps5
  go_wp2_with fail
  refine (open_opn _ l0 hL0.out w W0.out).mono ?_
  rintro e wa ⟨vx, rfl, hx, hba⟩
  have HX := Lib.hid hx
  have BA := Lib.hid hba
  clear hx hba
  go_wp2_with fail
  refine (openr_opn _ l0 hL0.out wa (W0.out.below BA.out (Nat.le_refl _))).mono ?_
  rintro e wb ⟨vy, rfl, hy, hbb⟩
  have BB := Lib.hid (BA.out.trans (hbb.mono BA.out.size))
  have HX2 := Lib.hid (HX.out.below hbb (Nat.le_refl _))
  have HY := Lib.hid hy
  have W0b := Lib.hid (W0.out.below BB.out (Nat.le_refl _))
  have W1b := Lib.hid (W1.out.below BB.out (Nat.le_refl _))
  clear hy hbb HX BA
  generalize opn l0 = ol at HX2 HY
  go_wp2_with fail
  refine wp_region_noPanic ?_
  refine wp_region_plan [([true, false, true], 1), ([], 3), ([false, false, false, false, true, true, true, false, true], 7), ([], 9), ([false, false, false, false, false, false, false, false, false, false, true, true, true, true, true, false, true, true], 15), ([], 18), ([false, false, false, false, false, false, false, false, false, false, false, false, false, false, false, false, false, false, false, true, true, true, true, false, false, true], 23), ([false, false, false, false, false, false, false, false, false, false, false, false, false, false, false, false, false, false, false, false, false, false, false, false, true], 26), ([false, false, false, false, false, false, false, false, false, false, false, false, false, false, false, false, false, false, false, false, false, false, false, false, false, false, false, true, true, true, true, true, true, true, true, true, true, true, true, true, true, true, true], 43)] [false, false, false, false, false, false, false, false, false, false, false, false, false, false, false, false, false, false, false, false, false, false, false, false, false, false, false, false, false, false, false, false, false, false, false, false, false, false, false, false, false, false, false, false, true, true] (fun w' => ∃ p : Regrown, w' = Go.Sort.grow (redrawn wb p.d) p.os) (by kernel_rfl) (by kernel_rfl) (by kernel_rfl) (fun _ _ _ _ _ h => h) (above_drew wb) ?_
  simp only [wpPlan, sel]
  repeat (go_big_quiet_step (fail))
  refine wpQuiet_nil ?_
  rintro _ ⟨⟨d, os⟩, rfl⟩
  refine wpOp_step rfl (fun K hK => ?_)
  go_simp
  refine (step_any A hA.out _).mono ?_
  rintro e w1 ⟨rfl, rfl⟩
  refine hK _ _ ⟨fun w' => ∃ p : Regrown, w' = Go.Sort.grow (redrawn wb p.d) p.os, ⟨⟨d, os⟩, rfl⟩, fun _ h => h, ?_⟩
  clear hK K
  repeat (go_big_quiet_step (fail))
  refine wpQuiet_nil ?_
  rintro _ ⟨⟨d, os⟩, rfl⟩
  refine wpOp_step rfl (fun K hK => ?_)
  go_simp
  refine (stepr_any A hA.out _).mono ?_
  rintro e w1 ⟨rfl, rfl⟩
  refine hK _ _ ⟨fun w' => ∃ p : Regrown, w' = Go.Sort.grow (redrawn wb p.d) p.os, ⟨⟨d, os⟩, rfl⟩, fun _ h => h, ?_⟩
  clear hK K
  repeat (go_big_quiet_step (fail))
  refine wpQuiet_nil ?_
  rintro _ ⟨⟨d, os⟩, rfl⟩
  refine wpOp_step rfl (fun K hK => ?_)
  go_simp
  refine (sum_any _ l0 _ (W0b.out.below (below_regrown wb d os) (Nat.le_refl _))).mono ?_
  rintro e w1 ⟨rfl, rfl⟩
  refine hK _ _ ⟨fun w' => ∃ p : Regrown, w' = Go.Sort.grow (redrawn wb p.d) p.os, ⟨⟨d, os⟩, rfl⟩, fun _ h => h, ?_⟩
  clear hK K
  repeat (go_big_quiet_step (fail))
  refine wpQuiet_nil ?_
  rintro _ ⟨⟨d, os⟩, rfl⟩
  refine wpOp_step rfl (fun K hK => ?_)
  go_simp
  refine (sumr_any _ l0 _ (W0b.out.below (below_regrown wb d os) (Nat.le_refl _))).mono ?_
  rintro e w1 ⟨rfl, rfl⟩
  refine hK _ _ ⟨fun w' => ∃ p : Regrown, w' = Go.Sort.grow (redrawn wb p.d) p.os, ⟨⟨d, os⟩, rfl⟩, fun _ h => h, ?_⟩
  clear hK K
  repeat (go_big_quiet_step (fail))
  refine wpQuiet_nil ?_
  rintro _ ⟨⟨d, os⟩, rfl⟩
  refine wpOp_step rfl (fun K hK => ?_)
  go_simp
  refine (more_any A hA.out _ l1 _ (W1b.out.below (below_regrown wb d os) (Nat.le_refl _))).mono ?_
  rintro e w1 ⟨rfl, rfl⟩
  refine hK _ _ ⟨fun w' => ∃ p : Regrown, w' = Go.Sort.grow (redrawn wb p.d) p.os, ⟨⟨d, os⟩, rfl⟩, fun _ h => h, ?_⟩
  clear hK K
  repeat (go_big_quiet_step (fail))
  refine wpQuiet_nil ?_
  rintro _ ⟨⟨d, os⟩, rfl⟩
  refine wpOp_step rfl (fun K hK => ?_)
  go_simp
  refine (morer_any A hA.out _ l1 _ (W1b.out.below (below_regrown wb d os) (Nat.le_refl _))).mono ?_
  rintro e w1 ⟨rfl, rfl⟩
  refine hK _ _ ⟨fun w' => ∃ p : Regrown, w' = Go.Sort.grow (redrawn wb p.d) p.os, ⟨⟨d, os⟩, rfl⟩, fun _ h => h, ?_⟩
  clear hK K
  repeat (go_big_quiet_step (fail))
  refine wpQuiet_nil ?_
  rintro _ ⟨⟨d, os⟩, rfl⟩
  refine wpOp_step rfl (fun K hK => ?_)
  go_simp
  refine (seal_any _ l0 _ (W0b.out.below (below_regrown wb d os) (Nat.le_refl _)) hL0.out).mono ?_
  rintro e wc ⟨vc, rfl, hown, hb⟩
  have hcb := (below_regrown wb d os).trans (hb.mono (below_regrown wb d os).size)
  have BC := Lib.hid (BB.out.trans (hcb.mono BB.out.size))
  have hsc := fun d os => (hown.sl.below (below_regrown wc d os) (Nat.le_refl _)).str
  have W0c := Lib.hid (W0b.out.below hcb (Nat.le_refl _))
  have HXc := Lib.hid (HX2.out.below hcb (Nat.le_refl _))
  have HYc := Lib.hid (HY.out.below hcb (Nat.le_refl _))
  refine hK _ _ ⟨fun w' => ∃ p : Regrown, w' = Go.Sort.grow (redrawn wc p.d) p.os, above_self wc, above_next hcb, ?_⟩
  clear hK K hown hb hcb HX2 HY W0b BB
  repeat (go_big_quiet_step (fail))
  refine wpQuiet_nil ?_
  rintro _ ⟨⟨d, os⟩, rfl⟩
  refine wpOp_step rfl (fun K hK => ?_)
  go_simp
  refine (sealr_any _ l0 _ (W0c.out.below (below_regrown wc d os) (Nat.le_refl _)) hL0.out).mono ?_
  rintro e wd ⟨vd, rfl, hown, hb⟩
  have hdb := (below_regrown wc d os).trans (hb.mono (below_regrown wc d os).size)
  have BD := Lib.hid (BC.out.trans (hdb.mono BC.out.size))
  have hsd := fun d os => (hown.sl.below (below_regrown wd d os) (Nat.le_refl _)).str
  have hsx := fun d os => ((HXc.out.below hdb (Nat.le_refl _)).below (below_regrown wd d os) (Nat.le_refl _)).str
  have hsy := fun d os => ((HYc.out.below hdb (Nat.le_refl _)).below (below_regrown wd d os) (Nat.le_refl _)).str
  refine hK _ _ ⟨fun w' => ∃ p : Regrown, w' = Go.Sort.grow (redrawn wd p.d) p.os, above_self wd, above_next hdb, ?_⟩
  clear hK K hown hb hdb hsc
  repeat (go_big_quiet_step (fail))
  refine wpQuiet_nil ?_
  rintro _ ⟨⟨d, os⟩, rfl⟩
  refine wpOp_step rfl (fun K hK => ?_)
  go_simp
  refine (wakes02_any _).mono ?_
  rintro e w1 ⟨rfl, rfl⟩
  refine hK _ _ ⟨fun w' => ∃ p : Regrown, w' = Go.Sort.grow (redrawn wd p.d) p.os, ⟨⟨d, os⟩, rfl⟩, fun _ h => h, ?_⟩
  clear hK K
  repeat (go_big_quiet_step (fail))
  refine wpQuiet_nil ?_
  rintro _ ⟨⟨d2, os2⟩, rfl⟩
  have BE := Lib.hid (BD.out.trans ((below_regrown wd d2 os2).mono BD.out.size))
  generalize Go.Sort.grow (redrawn wd d2) os2 = we at *
  refine NoPanic.normal ?_
  go_wp2
  go_ret
  exact ⟨rfl, BE.out⟩
end Go.Proofs.Ytifgbhakbgakmaa
