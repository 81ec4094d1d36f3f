/-
  Parts of a proof, put together: Rx.
-/
import Derived.Test.YtgpdknacnmapiaaZj01
import Derived.Test.YtgpdknacnmapiaaZj02
import Derived.Test.YtgpdknacnmapiaaZj03
import Derived.Test.YtgpdknacnmapiaaZj04
import Derived.Test.YtgpdknacnmapiaaZj05
import Derived.Test.YtgpdknacnmapiaaZj06
import Derived.Test.YtgpdknacnmapiaaZj07
import Derived.Test.YtgpdknacnmapiaaZj08
import Derived.Test.YtgpdknacnmapiaaZj09
namespace Go.Proofs.Ytgpdknacnmapiaa
set_option linter.unusedVariables false
set_option linter.unusedSimpArgs false
open Go.RowKit
theorem GotV.below {w w' : World} {v : Value} {x : Int} (h : GotV w v x) (hb : Below w.heap.size w w') : GotV w' v x := by
  rcases h with h | ⟨ad, c, e, hc⟩
  · exact .inl h
  · refine .inr ⟨ad, c, e, ?_⟩
    have hl := World.block_lt_of_cell? _ _ hc
    have hs := World.cell?_spot hc
    obtain ⟨b, o, sp⟩ := ad
    simp only at hs
    subst hs
    exact (hb.cell hl).trans hc
set_option maxHeartbeats 8000000 in
set_option maxRecDepth 100000 in
theorem rx56 (f : Fr) (x : Int) (v : Value) (w : World) (R : Rs) (hp : f.pg = 56) (hg : GotV w v x) (hk : ∀ w, Calls Try.prog 49 #[.agg f.cells, .int .i64 x] w fun e w' => Ans w w' e R ∧ Below w.heap.size w w') : Calls Try.prog 20 #[.agg f.cells, v] w fun e w' => Ans w w' e R ∧ Below w.heap.size w w' := by
  have HF := Lib.hid (And.intro hp hp)
  have HC := Lib.hid hk
  clear hp hk
  go_enter Try.func20, Try.ntmps20
  go_wp2_with (first
    | (refine wp_al57 rfl rfl ?_)
    | (refine wp_al59 f.cells 57 rfl rfl rfl ?_; intro W hT; have HTw := Lib.hid hT; have c0 := hT.b0.cell f.c0; rw [HF.out.1] at c0; clear hT))
  have HG := Lib.hid (show GotV W.drew v x from hg.below HTw.out.drew.bel)
  replace HTw := Lib.hid HTw.out.drew
  clear hg
  (try simp only [Act.put, List.setIfInBounds_toArray, List.set_cons_succ, List.set_cons_zero])
  refine wp_region_noPanic ?_
  refine wp_region_plw (.step [false, true] (.cons 0 (.step [] (.cons 2 (.step [] (.cons 3 (.step [false, false, false, false, true, true] (.cons 6 (.step [] (.cons 7 (.last []) .nil)) .nil)) .nil)) .nil)) (.cons 2 (.step [] (.cons 0 (.step [] (.cons 3 (.step [false, false, false, false, true, true] (.cons 6 (.step [] (.cons 7 (.last []) .nil)) .nil)) .nil)) .nil)) .nil))) (fun y => ∃ q : World, y = q) (by kernel_rfl) (by kernel_rfl) (by kernel_rfl) (fun _ _ _ _ _ _ _ h => h) ⟨_, rfl⟩ ?_
  simp only [wpPw, wpBw, selF, and_true]
  repeat (go_big_quiet_step (fail))
  refine wpQuiet_nil ?_
  refine ⟨?_, ?_⟩
  · refine wpOp_step rfl (fun K hK => ?_)
    rw [if_pos (by rfl)]
    refine wpO_ldf (.tmp 2) rfl 11 rfl w.heap.size rfl f HTw.out.b0.range ?_
    refine hK _ _ ⟨fun y => ∃ q : World, y = q, ⟨_, rfl⟩, fun _ h => h, ?_⟩
    clear hK K
    (try simp only [Act.put, List.setIfInBounds_toArray, List.set_cons_succ, List.set_cons_zero])
    refine wpQuiet_nil ?_
    refine wpOp_step rfl (fun K hK => ?_)
    go_simp
    refine (got_r v x _ HG.out).mono ?_
    rintro e Wc ⟨rfl, rfl⟩
    refine hK _ _ ⟨fun y => ∃ q : World, y = q, ⟨_, rfl⟩, fun _ h => h, ?_⟩
    clear hK K
    (try simp only [Act.put, List.setIfInBounds_toArray, List.set_cons_succ, List.set_cons_zero])
    refine wpQuiet_nil ?_
    refine wpOp_step rfl (fun K hK => ?_)
    go_simp
    refine (HC.out _).mono ?_
    rintro e Wd ⟨⟨ao, n, c, rfl, hi⟩, hb⟩
    have HI := Lib.hid (hi.low HTw.out.big)
    replace HTw := Lib.hid (HTw.out.below hb)
    clear hb hi HG
    refine hK _ _ ⟨fun y => ∃ q : World, y = q, ⟨_, rfl⟩, fun _ h => h, ?_⟩
    clear hK K
    (try simp only [Act.put, List.setIfInBounds_toArray, List.set_cons_succ, List.set_cons_zero])
    repeat (go_big_quiet_step (fail))
    refine wpQuiet_nil ?_
    refine wpOp_step rfl (fun K hK => ?_)
    rw [if_pos (by rfl)]
    refine wpO_st1 HTw (.tmp 4) (.tmp 15) rfl rfl R.f rfl rfl ?_
    intro We ho hT
    replace HTw := Lib.hid hT
    replace HI := Lib.hid (HI.out.oth fun b hb => ho b hb)
    clear hT ho
    refine hK _ _ ⟨fun y => ∃ q : World, y = q, ⟨_, rfl⟩, fun _ h => h, ?_⟩
    clear hK K
    (try simp only [Act.put, List.setIfInBounds_toArray, List.set_cons_succ, List.set_cons_zero])
    refine wpQuiet_nil ?_
    refine wpOp_step rfl (fun K hK => ?_)
    rw [if_pos (by rfl)]
    refine wpO_st2 HTw (.tmp 5) (.tmp 16) rfl rfl R.k R.a 0 R.v 0 ao n c rfl rfl ?_
    intro Wf ho hT
    replace HTw := Lib.hid hT
    replace HI := Lib.hid (HI.out.oth fun b hb => ho b hb)
    clear hT ho
    refine hK _ _ ⟨fun y => ∃ q : World, y = q, ⟨_, rfl⟩, fun _ h => h, ?_⟩
    clear hK K
    (try simp only [Act.put, List.setIfInBounds_toArray, List.set_cons_succ, List.set_cons_zero])
    refine wpQuiet_nil ?_
    refine NoPanic.normal ?_
    go_wp2_with fail
    (try simp only [Exit.inBlock, Exit.then])
    refine bodyPost_ret (HTw.out.ret rfl _ rfl rfl rfl) rfl ?_
    exact ⟨⟨_, _, _, rfl, HI.out.low (by omega)⟩, HTw.out.bel⟩
  · refine wpOp_step rfl (fun K hK => ?_)
    go_simp
    refine (got_r v x _ HG.out).mono ?_
    rintro e Wc ⟨rfl, rfl⟩
    refine hK _ _ ⟨fun y => ∃ q : World, y = q, ⟨_, rfl⟩, fun _ h => h, ?_⟩
    clear hK K
    (try simp only [Act.put, List.setIfInBounds_toArray, List.set_cons_succ, List.set_cons_zero])
    refine wpQuiet_nil ?_
    refine wpOp_step rfl (fun K hK => ?_)
    rw [if_pos (by rfl)]
    refine wpO_ldf (.tmp 2) rfl 11 rfl w.heap.size rfl f HTw.out.b0.range ?_
    refine hK _ _ ⟨fun y => ∃ q : World, y = q, ⟨_, rfl⟩, fun _ h => h, ?_⟩
    clear hK K
    (try simp only [Act.put, List.setIfInBounds_toArray, List.set_cons_succ, List.set_cons_zero])
    refine wpQuiet_nil ?_
    refine wpOp_step rfl (fun K hK => ?_)
    go_simp
    refine (HC.out _).mono ?_
    rintro e Wd ⟨⟨ao, n, c, rfl, hi⟩, hb⟩
    have HI := Lib.hid (hi.low HTw.out.big)
    replace HTw := Lib.hid (HTw.out.below hb)
    clear hb hi HG
    refine hK _ _ ⟨fun y => ∃ q : World, y = q, ⟨_, rfl⟩, fun _ h => h, ?_⟩
    clear hK K
    (try simp only [Act.put, List.setIfInBounds_toArray, List.set_cons_succ, List.set_cons_zero])
    repeat (go_big_quiet_step (fail))
    refine wpQuiet_nil ?_
    refine wpOp_step rfl (fun K hK => ?_)
    rw [if_pos (by rfl)]
    refine wpO_st1 HTw (.tmp 4) (.tmp 15) rfl rfl R.f rfl rfl ?_
    intro We ho hT
    replace HTw := Lib.hid hT
    replace HI := Lib.hid (HI.out.oth fun b hb => ho b hb)
    clear hT ho
    refine hK _ _ ⟨fun y => ∃ q : World, y = q, ⟨_, rfl⟩, fun _ h => h, ?_⟩
    clear hK K
    (try simp only [Act.put, List.setIfInBounds_toArray, List.set_cons_succ, List.set_cons_zero])
    refine wpQuiet_nil ?_
    refine wpOp_step rfl (fun K hK => ?_)
    rw [if_pos (by rfl)]
    refine wpO_st2 HTw (.tmp 5) (.tmp 16) rfl rfl R.k R.a 0 R.v 0 ao n c rfl rfl ?_
    intro Wf ho hT
    replace HTw := Lib.hid hT
    replace HI := Lib.hid (HI.out.oth fun b hb => ho b hb)
    clear hT ho
    refine hK _ _ ⟨fun y => ∃ q : World, y = q, ⟨_, rfl⟩, fun _ h => h, ?_⟩
    clear hK K
    (try simp only [Act.put, List.setIfInBounds_toArray, List.set_cons_succ, List.set_cons_zero])
    refine wpQuiet_nil ?_
    refine NoPanic.normal ?_
    go_wp2_with fail
    (try simp only [Exit.inBlock, Exit.then])
    refine bodyPost_ret (HTw.out.ret rfl _ rfl rfl rfl) rfl ?_
    exact ⟨⟨_, _, _, rfl, HI.out.low (by omega)⟩, HTw.out.bel⟩
set_option maxHeartbeats 8000000 in
set_option maxRecDepth 100000 in
theorem rx57_1 (f : Fr) (v : Value) (w : World) (hp : f.pg = 57) (h : Bd f) (hs : f.st = 1) : Calls Try.prog 20 #[.agg f.cells, v] w fun e w' => Ans w w' e ⟨f.at_ 99, 7, 0, 0, []⟩ ∧ Below w.heap.size w w' := by
  obtain ⟨r0, hr0⟩ : ∃ r0, f.r 0 = r0 := ⟨_, rfl⟩
  obtain ⟨r1, hr1⟩ : ∃ r1, f.r 1 = r1 := ⟨_, rfl⟩
  have hb0 := h.r0
  rw [hr0] at hb0
  have HF := Lib.hid (And.intro hp (And.intro hs (And.intro hr0 hr1)))
  have HCR : Hid (∀ w, Calls Try.prog 27 #[.int .i64 r0, .int .i64 0, .bool (r1 == 1)] w fun e w' => e = .returned (.int .i64 (dropC f)) ∧ w' = w) := Lib.hid (fun w => by unfold dropC; rw [hr0, hr1]; exact cell_r r0 (r1 == 1) w (by omega))
  obtain ⟨b1, b2⟩ := hb0
  clear h hr0 hr1 hp hs
  generalize dropC f = cc at *
  go_enter Try.func20, Try.ntmps20
  go_wp2_with (first
    | (refine wp_al57 rfl rfl ?_)
    | (refine wp_al59 f.cells 57 rfl rfl rfl ?_; intro W hT; have HTw := Lib.hid hT; have c0 := hT.b0.cell f.c0; rw [HF.out.1] at c0; have c1 := hT.b0.cell f.c1; have c2 := hT.b0.cell (k := 2) (f.cr 0 (by omega)); have c3 := hT.b0.cell (k := 3) (f.cr 1 (by omega)); rw [HF.out.2.1] at c1; rw [HF.out.2.2.1] at c2; rw [HF.out.2.2.2] at c3; clear hT))
  refine (HCR.out _).mono ?_
  rintro e W1 ⟨rfl, rfl⟩
  go_wp2_with (refine wp_ldf rfl (.tmp 2) rfl w.heap.size rfl f HTw.out.b0.range ?_)
  refine (end_r f none 0 0 _).mono ?_
  rintro e Wb ⟨rfl, hb1⟩
  have HTb := Lib.hid (HTw.out.below hb1)
  clear hb1
  go_wp2_with (first
    | (refine wp_st1 HTb rfl (.tmp 4) (.tmp 32) rfl (f.at_ 99) rfl rfl ?_; intro W3 ho hT; have HTc := Lib.hid hT; clear hT ho)
    | (refine wp_st2 HTc rfl (.tmp 5) (.tmp 33) rfl 7 0 0 0 0 none 0 0 rfl rfl ?_; intro W4 ho hT; have HTd := Lib.hid hT; clear hT ho))
  (try simp only [Exit.inBlock, Exit.then])
  refine bodyPost_ret (HTd.out.ret rfl _ rfl rfl rfl) rfl ?_
  exact ⟨⟨_, _, _, rfl, Ints.nil _ _⟩, HTd.out.bel⟩
set_option maxHeartbeats 8000000 in
set_option maxRecDepth 100000 in
theorem rx57_0 (f : Fr) (v : Value) (w : World) (hp : f.pg = 57) (h : Bd f) (hs : f.st = 0) : Calls Try.prog 20 #[.agg f.cells, v] w fun e w' => Ans w w' e (refR (dropR f)) ∧ Below w.heap.size w w' := by
  obtain ⟨r0, hr0⟩ : ∃ r0, f.r 0 = r0 := ⟨_, rfl⟩
  obtain ⟨r1, hr1⟩ : ∃ r1, f.r 1 = r1 := ⟨_, rfl⟩
  have hb0 := h.r0
  rw [hr0] at hb0
  have HF := Lib.hid (And.intro hp (And.intro hs (And.intro hr0 hr1)))
  have HCR : Hid (∀ w, Calls Try.prog 27 #[.int .i64 r0, .int .i64 0, .bool (r1 == 1)] w fun e w' => e = .returned (.int .i64 (dropC f)) ∧ w' = w) := Lib.hid (fun w => by unfold dropC; rw [hr0, hr1]; exact cell_r r0 (r1 == 1) w (by omega))
  obtain ⟨b1, b2⟩ := hb0
  have HDR : Hid (refR (dropR f) = if dropC f < 0 then ⟨f.at_ 99, 7, 0, 0, [2]⟩ else ⟨f.at_ 1, 1, dropC f, r0 / 256 * 2, []⟩) := Lib.hid (by rw [← hr0]; unfold dropR; split <;> rfl)
  clear h hr0 hr1 hp hs
  generalize refR (dropR f) = R at *
  generalize dropC f = cc at *
  by_cases hB : cc < 0
  · have d2 : decide (cc < 0) = true := by simpa using hB
    rw [if_pos hB] at HDR
    clear hB
    go_enter Try.func20, Try.ntmps20
    go_wp2_with (first
      | (refine wp_al57 rfl rfl ?_)
      | (refine wp_al59 f.cells 57 rfl rfl rfl ?_; intro W hT; have HTw := Lib.hid hT; have c0 := hT.b0.cell f.c0; rw [HF.out.1] at c0; have c1 := hT.b0.cell f.c1; have c2 := hT.b0.cell (k := 2) (f.cr 0 (by omega)); have c3 := hT.b0.cell (k := 3) (f.cr 1 (by omega)); rw [HF.out.2.1] at c1; rw [HF.out.2.2.1] at c2; rw [HF.out.2.2.2] at c3; clear hT))
    refine (HCR.out _).mono ?_
    rintro e W1 ⟨rfl, rfl⟩
    go_wp2_with (refine wp_ldf rfl (.tmp 2) rfl w.heap.size rfl f HTw.out.b0.range ?_)
    have HB2 := Lib.hid (below_one W1 2)
    have HI2 := Lib.hid ((ints_one W1 2).low HTw.out.big)
    have HTx := Lib.hid (HTw.out.below HB2.out)
    refine (end_r f _ _ _ _).mono ?_
    rintro e Wb ⟨rfl, hb1⟩
    have HTb := Lib.hid (HTx.out.below hb1)
    have HI3 := Lib.hid (HI2.out.below hb1)
    clear hb1
    go_wp2_with (first
      | (refine wp_st1 HTb rfl (.tmp 4) (.tmp 39) rfl (f.at_ 99) rfl rfl ?_; intro W3 ho hT; have HTc := Lib.hid hT; have HI4 := Lib.hid (HI3.out.oth fun b hb => ho b hb); clear hT ho)
      | (refine wp_st2 HTc rfl (.tmp 5) (.tmp 40) rfl 7 0 0 0 0 _ _ _ rfl rfl ?_; intro W4 ho hT; have HTd := Lib.hid hT; have HI5 := Lib.hid (HI4.out.oth fun b hb => ho b hb); clear hT ho))
    (try simp only [Exit.inBlock, Exit.then])
    refine bodyPost_ret (HTd.out.ret rfl _ rfl rfl rfl) rfl ?_
    rw [HDR.out]
    exact ⟨⟨_, _, _, rfl, HI5.out.low (by omega)⟩, HTd.out.bel⟩
  · have d2 : decide (cc < 0) = false := by simpa using hB
    rw [if_neg hB] at HDR
    clear hB
    go_enter Try.func20, Try.ntmps20
    go_wp2_with (first
      | (refine wp_al57 rfl rfl ?_)
      | (refine wp_al59 f.cells 57 rfl rfl rfl ?_; intro W hT; have HTw := Lib.hid hT; have c0 := hT.b0.cell f.c0; rw [HF.out.1] at c0; have c1 := hT.b0.cell f.c1; have c2 := hT.b0.cell (k := 2) (f.cr 0 (by omega)); have c3 := hT.b0.cell (k := 3) (f.cr 1 (by omega)); rw [HF.out.2.1] at c1; rw [HF.out.2.2.1] at c2; rw [HF.out.2.2.2] at c3; clear hT))
    refine (HCR.out _).mono ?_
    rintro e W1 ⟨rfl, rfl⟩
    go_wp2_with (refine wp_ldf rfl (.tmp 2) rfl w.heap.size rfl f HTw.out.b0.range ?_)
    refine (store_r f 1 cc (r0 / 256 * 2) _).mono ?_
    rintro e Wb ⟨rfl, hb1⟩
    have HTb := Lib.hid (HTw.out.below hb1)
    clear hb1
    go_wp2_with (first
      | (refine wp_st1 HTb rfl (.tmp 4) (.tmp 49) rfl (f.at_ 1) rfl rfl ?_; intro W3 ho hT; have HTc := Lib.hid hT; clear hT ho)
      | (refine wp_st2 HTc rfl (.tmp 5) (.tmp 50) rfl 1 cc 0 (r0 / 256 * 2) 0 none 0 0 rfl rfl ?_; intro W4 ho hT; have HTd := Lib.hid hT; clear hT ho))
    (try simp only [Exit.inBlock, Exit.then])
    refine bodyPost_ret (HTd.out.ret rfl _ rfl rfl rfl) rfl ?_
    rw [HDR.out]
    exact ⟨⟨_, _, _, rfl, Ints.nil _ _⟩, HTd.out.bel⟩
end Go.Proofs.Ytgpdknacnmapiaa
