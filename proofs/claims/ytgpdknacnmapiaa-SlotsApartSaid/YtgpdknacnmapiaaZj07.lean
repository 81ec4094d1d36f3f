/-
  Parts of a proof, put together: Sn, Dr.
-/
import Derived.Test.YtgpdknacnmapiaaZj01
import Derived.Test.YtgpdknacnmapiaaZj02
import Derived.Test.YtgpdknacnmapiaaZj03
import Derived.Test.YtgpdknacnmapiaaZj04
import Derived.Test.YtgpdknacnmapiaaZj05
import Derived.Test.YtgpdknacnmapiaaZj06
namespace Go.Proofs.Ytgpdknacnmapiaa
set_option linter.unusedVariables false
set_option linter.unusedSimpArgs false
open Go.RowKit
set_option maxHeartbeats 2000000 in
set_option maxRecDepth 100000 in
theorem seen_o (f : Fr) (x : Int) (w : World) (h : Bd (f.reg 3 (f.r 3 + 1))) (hr : 0 ≤ f.r 3 ∧ f.r 3 ≤ 1000) (hx : x % 2 = 1) : Calls Try.prog 44 #[.agg (pgC f x)] w fun e w' => Ans w w' e (lookR (f.reg 3 (f.r 3 + 1))) ∧ Below w.heap.size w w' := by
  obtain ⟨r3, hr3⟩ : ∃ r3, f.r 3 = r3 := ⟨_, rfl⟩
  rw [hr3] at h hr ⊢
  obtain ⟨h1, h2⟩ := hr
  have HR3 := Lib.hid hr3
  have HL := Lib.hid (fun w => look_p (f.reg 3 (r3 + 1)) x w h)
  have ea := and_1 x
  have eb : (x % 2 == 1) = true := by simpa using hx
  generalize lookR (f.reg 3 (r3 + 1)) = R at *
  clear h hx hr3
  go_enter Try.func44, Try.ntmps44
  go_wp2_with (first
    | (refine wp_al57 rfl rfl ?_)
    | (refine wp_al59 (pgC f x) 95 rfl rfl rfl ?_; intro W hT; have HT := Lib.hid hT; have cx := hT.b0.cell (k := 98) (pgC_x f x); have c5 := hT.b0.cell (k := 5) (by rw [pgC_get _ _ _ (by omega)]; exact f.cr 3 (by omega)); rw [HR3.out] at c5; clear hT)
    | (refine wp_set0 HT rfl (.tmp 16) (.tmp 13) rfl 5 (r3 + 1) rfl rfl (by rw [pgC_size]; omega) ?_; intro W2 ho hT; rw [pgC_set5] at hT; have HTa := Lib.hid hT; clear hT ho c5 cx)
    | (refine wp_ldp rfl (.tmp 1) rfl w.heap.size rfl (f.reg 3 (r3 + 1)) x HTa.out.b0 ?_))
  refine (HL.out _).mono ?_
  rintro e W3 ⟨⟨ao, n, c, rfl, hi⟩, hb⟩
  have HTb := Lib.hid (HTa.out.below hb)
  have HI := Lib.hid (hi.low HTa.out.big)
  clear hb hi
  obtain ⟨F, k, a, v, l⟩ := R
  simp only at *
  go_wp2_with (first
    | (refine wp_st1 HTb rfl (.tmp 2) (.tmp 19) rfl F rfl rfl ?_; intro W4 ho hT; have HTc := Lib.hid hT; have HI4 := Lib.hid (HI.out.oth fun b hb => ho b hb); clear hT ho)
    | (refine wp_st2 HTc rfl (.tmp 3) (.tmp 20) rfl k a 0 v 0 ao n c rfl rfl ?_; intro W5 ho hT; have HTd := Lib.hid hT; have HI5 := Lib.hid (HI4.out.oth fun b hb => ho b hb); clear hT ho))
  (try simp only [Exit.inBlock, Exit.then])
  refine bodyPost_ret (HTd.out.ret rfl _ rfl rfl rfl) rfl ?_
  exact ⟨⟨_, _, _, rfl, HI5.out.low (by omega)⟩, HTd.out.bel⟩
set_option maxHeartbeats 8000000 in
set_option maxRecDepth 100000 in
theorem seen_e (f : Fr) (x : Int) (w : World) (h : Bd f) (hl : 0 ≤ lookC f) (hx : 0 ≤ x ∧ x ≤ 4095) (hx2 : x % 2 = 0) : Calls Try.prog 44 #[.agg (pgC f x)] w fun e w' => Ans w w' e ⟨(f.at_ 2).reg 4 (aft (x / 2) * 256 + slotOf f), 1, lookC f, aft (x / 2) * 2 + 1, []⟩ ∧ Below w.heap.size w w' := by
  obtain ⟨r0, hr0⟩ : ∃ r0, f.r 0 = r0 := ⟨_, rfl⟩
  obtain ⟨r3, hr3⟩ : ∃ r3, f.r 3 = r3 := ⟨_, rfl⟩
  have hb0 := h.r0
  have hb3 := h.r3
  rw [hr0] at hb0
  rw [hr3] at hb3
  have hsl : slotOf f = r0 + r3 := by unfold slotOf; rw [hr0, hr3]
  have hs255 : r0 + r3 ≤ 255 := by
    rcases Int.lt_or_le 255 (r0 + r3) with h3 | h3
    · unfold lookC at hl; rw [hsl, genC_big _ (by omega)] at hl; omega
    · exact h3
  have HA := Lib.hid (fun w => after_p (x / 2) w)
  have hg := aft_le (x / 2) (by omega)
  rw [hsl]
  generalize aft (x / 2) = g at *
  obtain ⟨g1, g2⟩ := hg
  have hG4 : 0 ≤ g * 256 + (r0 + r3) ∧ g * 256 + (r0 + r3) ≤ 1000000 := by omega
  have HC : Hid (∀ w, Calls Try.prog 77 #[.agg (pgC ((f.at_ 2).reg 4 (g * 256 + (r0 + r3))) x)] w fun e w' => e = .returned (.int .i64 (lookC f)) ∧ Below w.heap.size w w') := Lib.hid (fun w => cellm_p ((f.at_ 2).reg 4 (g * 256 + (r0 + r3))) x w ⟨.inr (.inr rfl), h.r0, h.r1, h.r2, h.r3, hG4⟩)
  have HF := Lib.hid (And.intro hr0 hr3)
  generalize hLC : lookC f = LC at *
  generalize hG : (f.at_ 2).reg 4 (g * 256 + (r0 + r3)) = G at *
  have HGG := Lib.hid hG
  have eo := or_256 g (r0 + r3) (by omega) (by omega)
  have ea := and_1 x
  have eb : (x % 2 == 1) = false := by rw [beq_eq_false_iff_ne]; omega
  obtain ⟨b1, b2⟩ := hb0
  obtain ⟨b3, b4⟩ := hb3
  obtain ⟨x1, x2⟩ := hx
  clear h hx2 hr0 hr3 hG hLC hsl hG4 hl
  go_enter Try.func44, Try.ntmps44
  go_wp2_with (first
    | (refine wp_al57 rfl rfl ?_)
    | (refine wp_al59 (pgC f x) 95 rfl rfl rfl ?_; intro W hT; have HT := Lib.hid hT; have cx := hT.b0.cell (k := 98) (pgC_x f x); have c2 := hT.b0.cell (k := 2) (by rw [pgC_get _ _ _ (by omega)]; exact f.cr 0 (by omega)); have c5 := hT.b0.cell (k := 5) (by rw [pgC_get _ _ _ (by omega)]; exact f.cr 3 (by omega)); rw [HF.out.1] at c2; rw [HF.out.2] at c5; clear hT))
  refine (HA.out _).mono ?_
  rintro e W2 ⟨rfl, rfl⟩
  go_wp2_with (first
    | (refine wp_set0 HT rfl (.tmp 38) (.const (.int .i64 2)) rfl 1 2 rfl rfl (by rw [pgC_size]; omega) ?_; intro W3 ho hT; rw [pgC_set1] at hT; have HTa := Lib.hid hT; clear hT ho)
    | (refine wp_set0 HTa rfl (.tmp 41) (.tmp 36) rfl 6 (g * 256 + (r0 + r3)) rfl rfl (by rw [pgC_size]; omega) ?_; intro W4 ho hT; rw [pgC_set6, HGG.out] at hT; have HTw := Lib.hid hT; clear hT ho c2 c5 cx))
  replace HTw := Lib.hid HTw.out.drew
  (try simp only [Act.put, List.setIfInBounds_toArray, List.set_cons_succ, List.set_cons_zero])
  refine wp_region_noPanic ?_
  refine wp_region_plw (.step [true, false, false, false, true, true, true] (.cons 1 (.step [] (.cons 2 (.step [] (.cons 3 (.step [false, false, false, false, false, false, false, true] (.cons 8 (.step [] (.cons 9 (.last []) .nil)) .nil)) .nil)) .nil)) (.cons 2 (.step [] (.cons 1 (.step [] (.cons 3 (.step [false, false, false, false, false, false, false, true] (.cons 8 (.step [] (.cons 9 (.last []) .nil)) .nil)) .nil)) (.cons 3 (.step [false, false, false, false, false, false, false, true] (.cons 1 (.step [] (.cons 8 (.step [] (.cons 9 (.last []) .nil)) .nil)) .nil)) .nil))) .nil))) (fun y => ∃ q : World, y = q) (by kernel_rfl) (by kernel_rfl) (by kernel_rfl) (fun _ _ _ _ _ _ _ h => h) ⟨_, rfl⟩ ?_
  simp only [wpPw, wpBw, selF, and_true]
  repeat (go_big_quiet_step (fail))
  refine wpQuiet_nil ?_
  refine ⟨?_, ?_⟩
  · refine wpOp_step rfl (fun K hK => ?_)
    rw [if_pos (by rfl)]
    refine wpO_ldf (.tmp 42) rfl 43 rfl w.heap.size rfl G HTw.out.b0.frame ?_
    refine hK _ _ ⟨fun y => ∃ q : World, y = q, ⟨_, rfl⟩, fun _ h => h, ?_⟩
    clear hK K
    (try simp only [Act.put, List.setIfInBounds_toArray, List.set_cons_succ, List.set_cons_zero])
    refine wpQuiet_nil ?_
    refine wpOp_step rfl (fun K hK => ?_)
    rw [if_pos (by rfl)]
    refine wpO_ldp (.tmp 1) rfl 44 rfl w.heap.size rfl G x HTw.out.b0 ?_
    refine hK _ _ ⟨fun y => ∃ q : World, y = q, ⟨_, rfl⟩, fun _ h => h, ?_⟩
    clear hK K
    (try simp only [Act.put, List.setIfInBounds_toArray, List.set_cons_succ, List.set_cons_zero])
    refine wpQuiet_nil ?_
    refine wpOp_step rfl (fun K hK => ?_)
    go_simp
    refine (HC.out _).mono ?_
    rintro e Wc ⟨rfl, hb⟩
    replace HTw := Lib.hid (HTw.out.below hb)
    clear hb
    refine hK _ _ ⟨fun y => ∃ q : World, y = q, ⟨_, rfl⟩, fun _ h => h, ?_⟩
    clear hK K
    (try simp only [Act.put, List.setIfInBounds_toArray, List.set_cons_succ, List.set_cons_zero])
    repeat (go_big_quiet_step (fail))
    refine wpQuiet_nil ?_
    refine wpOp_step rfl (fun K hK => ?_)
    rw [if_pos (by rfl)]
    refine wpO_st1 HTw (.tmp 2) (.tmp 43) rfl rfl G rfl rfl ?_
    intro We ho hT
    replace HTw := Lib.hid hT
    clear hT ho
    refine hK _ _ ⟨fun y => ∃ q : World, y = q, ⟨_, rfl⟩, fun _ h => h, ?_⟩
    clear hK K
    (try simp only [Act.put, List.setIfInBounds_toArray, List.set_cons_succ, List.set_cons_zero])
    refine wpQuiet_nil ?_
    refine wpOp_step rfl (fun K hK => ?_)
    rw [if_pos (by rfl)]
    refine wpO_st2 HTw (.tmp 3) (.tmp 49) rfl rfl 1 LC 0 (g * 2 + 1) 0 none 0 0 rfl rfl ?_
    intro Wf ho hT
    replace HTw := Lib.hid hT
    clear hT ho
    refine hK _ _ ⟨fun y => ∃ q : World, y = q, ⟨_, rfl⟩, fun _ h => h, ?_⟩
    clear hK K
    (try simp only [Act.put, List.setIfInBounds_toArray, List.set_cons_succ, List.set_cons_zero])
    refine wpQuiet_nil ?_
    refine NoPanic.normal ?_
    go_wp2_with fail
    (try simp only [Exit.inBlock, Exit.then])
    refine bodyPost_ret (HTw.out.ret rfl _ rfl rfl rfl) rfl ?_
    exact ⟨⟨_, _, _, rfl, Ints.nil _ _⟩, HTw.out.bel⟩
  · refine wpOp_step rfl (fun K hK => ?_)
    rw [if_pos (by rfl)]
    refine wpO_ldp (.tmp 1) rfl 44 rfl w.heap.size rfl G x HTw.out.b0 ?_
    refine hK _ _ ⟨fun y => ∃ q : World, y = q, ⟨_, rfl⟩, fun _ h => h, ?_⟩
    clear hK K
    (try simp only [Act.put, List.setIfInBounds_toArray, List.set_cons_succ, List.set_cons_zero])
    refine wpQuiet_nil ?_
    refine ⟨?_, ?_⟩
    · refine wpOp_step rfl (fun K hK => ?_)
      rw [if_pos (by rfl)]
      refine wpO_ldf (.tmp 42) rfl 43 rfl w.heap.size rfl G HTw.out.b0.frame ?_
      refine hK _ _ ⟨fun y => ∃ q : World, y = q, ⟨_, rfl⟩, fun _ h => h, ?_⟩
      clear hK K
      (try simp only [Act.put, List.setIfInBounds_toArray, List.set_cons_succ, List.set_cons_zero])
      refine wpQuiet_nil ?_
      refine wpOp_step rfl (fun K hK => ?_)
      go_simp
      refine (HC.out _).mono ?_
      rintro e Wc ⟨rfl, hb⟩
      replace HTw := Lib.hid (HTw.out.below hb)
      clear hb
      refine hK _ _ ⟨fun y => ∃ q : World, y = q, ⟨_, rfl⟩, fun _ h => h, ?_⟩
      clear hK K
      (try simp only [Act.put, List.setIfInBounds_toArray, List.set_cons_succ, List.set_cons_zero])
      repeat (go_big_quiet_step (fail))
      refine wpQuiet_nil ?_
      refine wpOp_step rfl (fun K hK => ?_)
      rw [if_pos (by rfl)]
      refine wpO_st1 HTw (.tmp 2) (.tmp 43) rfl rfl G rfl rfl ?_
      intro We ho hT
      replace HTw := Lib.hid hT
      clear hT ho
      refine hK _ _ ⟨fun y => ∃ q : World, y = q, ⟨_, rfl⟩, fun _ h => h, ?_⟩
      clear hK K
      (try simp only [Act.put, List.setIfInBounds_toArray, List.set_cons_succ, List.set_cons_zero])
      refine wpQuiet_nil ?_
      refine wpOp_step rfl (fun K hK => ?_)
      rw [if_pos (by rfl)]
      refine wpO_st2 HTw (.tmp 3) (.tmp 49) rfl rfl 1 LC 0 (g * 2 + 1) 0 none 0 0 rfl rfl ?_
      intro Wf ho hT
      replace HTw := Lib.hid hT
      clear hT ho
      refine hK _ _ ⟨fun y => ∃ q : World, y = q, ⟨_, rfl⟩, fun _ h => h, ?_⟩
      clear hK K
      (try simp only [Act.put, List.setIfInBounds_toArray, List.set_cons_succ, List.set_cons_zero])
      refine wpQuiet_nil ?_
      refine NoPanic.normal ?_
      go_wp2_with fail
      (try simp only [Exit.inBlock, Exit.then])
      refine bodyPost_ret (HTw.out.ret rfl _ rfl rfl rfl) rfl ?_
      exact ⟨⟨_, _, _, rfl, Ints.nil _ _⟩, HTw.out.bel⟩
    · refine wpOp_step rfl (fun K hK => ?_)
      go_simp
      refine (HC.out _).mono ?_
      rintro e Wc ⟨rfl, hb⟩
      replace HTw := Lib.hid (HTw.out.below hb)
      clear hb
      refine hK _ _ ⟨fun y => ∃ q : World, y = q, ⟨_, rfl⟩, fun _ h => h, ?_⟩
      clear hK K
      (try simp only [Act.put, List.setIfInBounds_toArray, List.set_cons_succ, List.set_cons_zero])
      repeat (go_big_quiet_step (fail))
      refine wpQuiet_nil ?_
      refine wpOp_step rfl (fun K hK => ?_)
      rw [if_pos (by rfl)]
      refine wpO_ldf (.tmp 42) rfl 43 rfl w.heap.size rfl G HTw.out.b0.frame ?_
      refine hK _ _ ⟨fun y => ∃ q : World, y = q, ⟨_, rfl⟩, fun _ h => h, ?_⟩
      clear hK K
      (try simp only [Act.put, List.setIfInBounds_toArray, List.set_cons_succ, List.set_cons_zero])
      refine wpQuiet_nil ?_
      refine wpOp_step rfl (fun K hK => ?_)
      rw [if_pos (by rfl)]
      refine wpO_st1 HTw (.tmp 2) (.tmp 43) rfl rfl G rfl rfl ?_
      intro We ho hT
      replace HTw := Lib.hid hT
      clear hT ho
      refine hK _ _ ⟨fun y => ∃ q : World, y = q, ⟨_, rfl⟩, fun _ h => h, ?_⟩
      clear hK K
      (try simp only [Act.put, List.setIfInBounds_toArray, List.set_cons_succ, List.set_cons_zero])
      refine wpQuiet_nil ?_
      refine wpOp_step rfl (fun K hK => ?_)
      rw [if_pos (by rfl)]
      refine wpO_st2 HTw (.tmp 3) (.tmp 49) rfl rfl 1 LC 0 (g * 2 + 1) 0 none 0 0 rfl rfl ?_
      intro Wf ho hT
      replace HTw := Lib.hid hT
      clear hT ho
      refine hK _ _ ⟨fun y => ∃ q : World, y = q, ⟨_, rfl⟩, fun _ h => h, ?_⟩
      clear hK K
      (try simp only [Act.put, List.setIfInBounds_toArray, List.set_cons_succ, List.set_cons_zero])
      refine wpQuiet_nil ?_
      refine NoPanic.normal ?_
      go_wp2_with fail
      (try simp only [Exit.inBlock, Exit.then])
      refine bodyPost_ret (HTw.out.ret rfl _ rfl rfl rfl) rfl ?_
      exact ⟨⟨_, _, _, rfl, Ints.nil _ _⟩, HTw.out.bel⟩
end Go.Proofs.Ytgpdknacnmapiaa
namespace Go.Proofs.Ytgpdknacnmapiaa
set_option linter.unusedVariables false
set_option linter.unusedSimpArgs false
open Go.RowKit
theorem wpO_ld3 {o : Oper} {a : Act} {w : World} {K : Act → World → Prop} {Q : Exit → Act → World → Prop} (x : Operand) (ho : o.op = .load 3 x) (d : Tmp) (hd : o.dst = some d) (b k : Nat) (hx : a.eval x = .pointer (some ⟨b, k, none⟩)) (n : Int) (hc : w.cell? ⟨b, k, none⟩ = some (.int .i64 n)) (h : K (a.put (some d) (.int .i64 n)) w) : o.wp Try.prog a w K Q := by
  unfold Oper.wp execOp
  simp only [ho, hx]
  simp [go_sem, hc, Instr.loadAt, loadVar, Try.sizeOf3]
  rw [hd]
  exact h
def dropC (f : Fr) : Int := genC (f.r 0 % 256) (f.r 1 == 1)
def dropR (f : Fr) : Rs := if dropC f < 0 then ⟨f, 7, 0, 0, [2]⟩ else ⟨f.at_ 1, 1, dropC f, f.r 0 / 256 * 2, []⟩
set_option maxHeartbeats 4000000 in
set_option maxRecDepth 100000 in
theorem drop_p (f : Fr) (x : Int) (w : World) (h : Bd f) : Calls Try.prog 46 #[.agg (pgC f x)] w fun e w' => Ans w w' e (dropR f) ∧ Below w.heap.size w w' := by
  obtain ⟨r0, hr0⟩ : ∃ r0, f.r 0 = r0 := ⟨_, rfl⟩
  obtain ⟨r1, hr1⟩ : ∃ r1, f.r 1 = r1 := ⟨_, rfl⟩
  have hb0 := h.r0
  rw [hr0] at hb0
  have HF := Lib.hid (And.intro hr0 hr1)
  have HDR : Hid (dropR f = if dropC f < 0 then ⟨f, 7, 0, 0, [2]⟩ else ⟨f.at_ 1, 1, dropC f, r0 / 256 * 2, []⟩) := Lib.hid (by rw [← hr0]; rfl)
  have HC : Hid (∀ w, Calls Try.prog 56 #[.int .i64 r0, .int .i64 0, .bool (r1 == 1)] w fun e w' => e = .returned (.int .i64 (dropC f)) ∧ w' = w) := Lib.hid (fun w => by unfold dropC; rw [hr0, hr1]; exact cell_p r0 (r1 == 1) w (by omega))
  generalize dropR f = R at *
  generalize dropC f = c at *
  obtain ⟨b1, b2⟩ := hb0
  clear h hr0 hr1
  by_cases hB : c < 0
  · have d2 : decide (c < 0) = true := by simpa using hB
    rw [if_pos hB] at HDR
    clear hB
    go_enter Try.func46, Try.ntmps46
    go_wp2_with (first
      | (refine wp_al57 rfl rfl ?_)
      | (refine wp_al59 (pgC f x) 95 rfl rfl rfl ?_; intro W hT; have HT := Lib.hid hT; have c2 := hT.b0.cell (k := 2) (by rw [pgC_get _ _ _ (by omega)]; exact f.cr 0 (by omega)); have c3 := hT.b0.cell (k := 3) (by rw [pgC_get _ _ _ (by omega)]; exact f.cr 1 (by omega)); rw [HF.out.1] at c2; rw [HF.out.2] at c3; clear hT))
    refine (HC.out _).mono ?_
    rintro e W1 ⟨rfl, rfl⟩
    go_wp2_with (refine wp_ldp rfl (.tmp 1) rfl w.heap.size rfl f x HT.out.b0 ?_)
    have HB2 := Lib.hid (below_one W1 2)
    have HI2 := Lib.hid ((ints_one W1 2).low HT.out.big)
    have HTa := Lib.hid (HT.out.below HB2.out)
    refine (end_p f x _ _ _ _).mono ?_
    rintro e Wb ⟨rfl, hb1⟩
    have HTb := Lib.hid (HTa.out.below hb1)
    have HI3 := Lib.hid (HI2.out.below hb1)
    clear hb1
    go_wp2_with (first
        | (refine wp_st1 HTb rfl (.tmp 2) (.tmp 20) rfl f rfl rfl ?_; intro W3 ho hT; have HTc := Lib.hid hT; have HI4 := Lib.hid (HI3.out.oth fun b hb => ho b hb); clear hT ho)
        | (refine wp_st2 HTc rfl (.tmp 3) (.tmp 21) rfl 7 0 0 0 0 _ _ _ rfl rfl ?_; intro W4 ho hT; have HTd := Lib.hid hT; have HI5 := Lib.hid (HI4.out.oth fun b hb => ho b hb); clear hT ho))
    (try simp only [Exit.inBlock, Exit.then])
    refine bodyPost_ret (HTd.out.ret rfl _ rfl rfl rfl) rfl ?_
    rw [HDR.out]
    exact ⟨⟨_, _, _, rfl, HI5.out.low (by omega)⟩, HTd.out.bel⟩
  · have d2 : decide (c < 0) = false := by simpa using hB
    rw [if_neg hB] at HDR
    clear hB
    go_enter Try.func46, Try.ntmps46
    go_wp2_with (first
      | (refine wp_al57 rfl rfl ?_)
      | (refine wp_al59 (pgC f x) 95 rfl rfl rfl ?_; intro W hT; have HT := Lib.hid hT; have c2 := hT.b0.cell (k := 2) (by rw [pgC_get _ _ _ (by omega)]; exact f.cr 0 (by omega)); have c3 := hT.b0.cell (k := 3) (by rw [pgC_get _ _ _ (by omega)]; exact f.cr 1 (by omega)); rw [HF.out.1] at c2; rw [HF.out.2] at c3; clear hT))
    refine (HC.out _).mono ?_
    rintro e W1 ⟨rfl, rfl⟩
    go_wp2_with (refine wp_set0 HT rfl (.tmp 23) (.const (.int .i64 1)) rfl 1 1 rfl rfl (by rw [pgC_size]; omega) ?_; intro W3 ho hT; rw [pgC_set1] at hT; have HTw := Lib.hid hT; clear hT ho c2 c3)
    replace HTw := Lib.hid HTw.out.drew
    (try simp only [Act.put, List.setIfInBounds_toArray, List.set_cons_succ, List.set_cons_zero])
    refine wp_region_noPanic ?_
    refine wp_region_plw (.step [true, false, true, true, true, true] (.cons 1 (.step [] (.cons 6 (.step [false, false, false, false, false, false, false, true, true, true] (.cons 10 (.step [] (.cons 11 (.last []) .nil)) .nil)) (.cons 10 (.step [] (.cons 6 (.step [false, false, false, false, false, false, false, true, true, true] (.cons 11 (.last []) .nil)) .nil)) .nil))) (.cons 6 (.step [false, false, false, false, false, false, false, true, true, true] (.cons 1 (.step [] (.cons 10 (.step [] (.cons 11 (.last []) .nil)) .nil)) .nil)) .nil))) (fun y => ∃ q : World, y = q) (by kernel_rfl) (by kernel_rfl) (by kernel_rfl) (fun _ _ _ _ _ _ _ h => h) ⟨_, rfl⟩ ?_
    simp only [wpPw, wpBw, selF, and_true]
    repeat (go_big_quiet_step (fail))
    refine wpQuiet_nil ?_
    refine ⟨?_, ?_⟩
    · refine wpOp_step rfl (fun K hK => ?_)
      rw [if_pos (by rfl)]
      refine wpO_ldf (.tmp 24) rfl 25 rfl w.heap.size rfl (f.at_ 1) HTw.out.b0.frame ?_
      refine hK _ _ ⟨fun y => ∃ q : World, y = q, ⟨_, rfl⟩, fun _ h => h, ?_⟩
      clear hK K
      (try simp only [Act.put, List.setIfInBounds_toArray, List.set_cons_succ, List.set_cons_zero])
      refine wpQuiet_nil ?_
      refine ⟨?_, ?_⟩
      · refine wpOp_step rfl (fun K hK => ?_)
        rw [if_pos (by rfl)]
        refine wpO_ld3 (.tmp 29) rfl 30 rfl w.heap.size 2 rfl r0 (by rw [← HF.out.1]; exact HTw.out.b0.cell (k := 2) (by rw [pgC_get _ _ _ (by omega)]; exact (f.at_ 1).cr 0 (by omega))) ?_
        refine hK _ _ ⟨fun y => ∃ q : World, y = q, ⟨_, rfl⟩, fun _ h => h, ?_⟩
        clear hK K
        (try simp only [Act.put, List.setIfInBounds_toArray, List.set_cons_succ, List.set_cons_zero])
        repeat (go_big_quiet_step (fail))
        refine wpQuiet_nil ?_
        refine wpOp_step rfl (fun K hK => ?_)
        rw [if_pos (by rfl)]
        refine wpO_st1 HTw (.tmp 2) (.tmp 25) rfl rfl (f.at_ 1) rfl rfl ?_
        intro We ho hT
        replace HTw := Lib.hid hT
        clear hT ho
        refine hK _ _ ⟨fun y => ∃ q : World, y = q, ⟨_, rfl⟩, fun _ h => h, ?_⟩
        clear hK K
        (try simp only [Act.put, List.setIfInBounds_toArray, List.set_cons_succ, List.set_cons_zero])
        refine wpQuiet_nil ?_
        refine wpOp_step rfl (fun K hK => ?_)
        rw [if_pos (by rfl)]
        refine wpO_st2 HTw (.tmp 3) (.tmp 33) rfl rfl 1 c 0 (r0 / 256 * 2) 0 none 0 0 rfl rfl ?_
        intro Wf ho hT
        replace HTw := Lib.hid hT
        clear hT ho
        refine hK _ _ ⟨fun y => ∃ q : World, y = q, ⟨_, rfl⟩, fun _ h => h, ?_⟩
        clear hK K
        (try simp only [Act.put, List.setIfInBounds_toArray, List.set_cons_succ, List.set_cons_zero])
        refine wpQuiet_nil ?_
        refine NoPanic.normal ?_
        go_wp2_with fail
        (try simp only [Exit.inBlock, Exit.then])
        refine bodyPost_ret (HTw.out.ret rfl _ rfl rfl rfl) rfl ?_
        rw [HDR.out]
        exact ⟨⟨_, _, _, rfl, Ints.nil _ _⟩, HTw.out.bel⟩
      · refine wpOp_step rfl (fun K hK => ?_)
        rw [if_pos (by rfl)]
        refine wpO_st1 HTw (.tmp 2) (.tmp 25) rfl rfl (f.at_ 1) rfl rfl ?_
        intro We ho hT
        replace HTw := Lib.hid hT
        clear hT ho
        refine hK _ _ ⟨fun y => ∃ q : World, y = q, ⟨_, rfl⟩, fun _ h => h, ?_⟩
        clear hK K
        (try simp only [Act.put, List.setIfInBounds_toArray, List.set_cons_succ, List.set_cons_zero])
        refine wpQuiet_nil ?_
        refine wpOp_step rfl (fun K hK => ?_)
        rw [if_pos (by rfl)]
        refine wpO_ld3 (.tmp 29) rfl 30 rfl w.heap.size 2 rfl r0 (by rw [← HF.out.1]; exact HTw.out.b0.cell (k := 2) (by rw [pgC_get _ _ _ (by omega)]; exact (f.at_ 1).cr 0 (by omega))) ?_
        refine hK _ _ ⟨fun y => ∃ q : World, y = q, ⟨_, rfl⟩, fun _ h => h, ?_⟩
        clear hK K
        (try simp only [Act.put, List.setIfInBounds_toArray, List.set_cons_succ, List.set_cons_zero])
        repeat (go_big_quiet_step (fail))
        refine wpQuiet_nil ?_
        refine wpOp_step rfl (fun K hK => ?_)
        rw [if_pos (by rfl)]
        refine wpO_st2 HTw (.tmp 3) (.tmp 33) rfl rfl 1 c 0 (r0 / 256 * 2) 0 none 0 0 rfl rfl ?_
        intro Wf ho hT
        replace HTw := Lib.hid hT
        clear hT ho
        refine hK _ _ ⟨fun y => ∃ q : World, y = q, ⟨_, rfl⟩, fun _ h => h, ?_⟩
        clear hK K
        (try simp only [Act.put, List.setIfInBounds_toArray, List.set_cons_succ, List.set_cons_zero])
        refine wpQuiet_nil ?_
        refine NoPanic.normal ?_
        go_wp2_with fail
        (try simp only [Exit.inBlock, Exit.then])
        refine bodyPost_ret (HTw.out.ret rfl _ rfl rfl rfl) rfl ?_
        rw [HDR.out]
        exact ⟨⟨_, _, _, rfl, Ints.nil _ _⟩, HTw.out.bel⟩
    · refine wpOp_step rfl (fun K hK => ?_)
      rw [if_pos (by rfl)]
      refine wpO_ld3 (.tmp 29) rfl 30 rfl w.heap.size 2 rfl r0 (by rw [← HF.out.1]; exact HTw.out.b0.cell (k := 2) (by rw [pgC_get _ _ _ (by omega)]; exact (f.at_ 1).cr 0 (by omega))) ?_
      refine hK _ _ ⟨fun y => ∃ q : World, y = q, ⟨_, rfl⟩, fun _ h => h, ?_⟩
      clear hK K
      (try simp only [Act.put, List.setIfInBounds_toArray, List.set_cons_succ, List.set_cons_zero])
      repeat (go_big_quiet_step (fail))
      refine wpQuiet_nil ?_
      refine wpOp_step rfl (fun K hK => ?_)
      rw [if_pos (by rfl)]
      refine wpO_ldf (.tmp 24) rfl 25 rfl w.heap.size rfl (f.at_ 1) HTw.out.b0.frame ?_
      refine hK _ _ ⟨fun y => ∃ q : World, y = q, ⟨_, rfl⟩, fun _ h => h, ?_⟩
      clear hK K
      (try simp only [Act.put, List.setIfInBounds_toArray, List.set_cons_succ, List.set_cons_zero])
      refine wpQuiet_nil ?_
      refine wpOp_step rfl (fun K hK => ?_)
      rw [if_pos (by rfl)]
      refine wpO_st1 HTw (.tmp 2) (.tmp 25) rfl rfl (f.at_ 1) rfl rfl ?_
      intro We ho hT
      replace HTw := Lib.hid hT
      clear hT ho
      refine hK _ _ ⟨fun y => ∃ q : World, y = q, ⟨_, rfl⟩, fun _ h => h, ?_⟩
      clear hK K
      (try simp only [Act.put, List.setIfInBounds_toArray, List.set_cons_succ, List.set_cons_zero])
      refine wpQuiet_nil ?_
      refine wpOp_step rfl (fun K hK => ?_)
      rw [if_pos (by rfl)]
      refine wpO_st2 HTw (.tmp 3) (.tmp 33) rfl rfl 1 c 0 (r0 / 256 * 2) 0 none 0 0 rfl rfl ?_
      intro Wf ho hT
      replace HTw := Lib.hid hT
      clear hT ho
      refine hK _ _ ⟨fun y => ∃ q : World, y = q, ⟨_, rfl⟩, fun _ h => h, ?_⟩
      clear hK K
      (try simp only [Act.put, List.setIfInBounds_toArray, List.set_cons_succ, List.set_cons_zero])
      refine wpQuiet_nil ?_
      refine NoPanic.normal ?_
      go_wp2_with fail
      (try simp only [Exit.inBlock, Exit.then])
      refine bodyPost_ret (HTw.out.ret rfl _ rfl rfl rfl) rfl ?_
      rw [HDR.out]
      exact ⟨⟨_, _, _, rfl, Ints.nil _ _⟩, HTw.out.bel⟩
end Go.Proofs.Ytgpdknacnmapiaa
