/-
  Parts of a proof, put together: Nb.
-/
import Derived.Test.YtgpdknacnmapiaaZj01
import Derived.Test.YtgpdknacnmapiaaZj02
import Derived.Test.YtgpdknacnmapiaaZj03
import Derived.Test.YtgpdknacnmapiaaZj04
import Derived.Test.YtgpdknacnmapiaaZj05
import Derived.Test.YtgpdknacnmapiaaZj06
import Derived.Test.YtgpdknacnmapiaaZj07
import Derived.Test.YtgpdknacnmapiaaZj08
import Derived.Test.YtgpdknacnmapiaaZj09
namespace Go.Proofs.Ytgpdknacnmapiaa
set_option linter.unusedVariables false
set_option linter.unusedSimpArgs false
open Go.RowKit
set_option maxHeartbeats 16000000 in
set_option maxRecDepth 100000 in
theorem nx56_1 (f : Fr) (x : Int) (v : Value) (w : World) (R : Rs) (hp : f.pg = 56) (hs : f.st = 1) (hg : GotV w v x) (hk : ∀ w, Calls Try.prog 44 #[.agg (pgC f x)] w fun e w' => Ans w w' e R ∧ Below w.heap.size w w') : Calls Try.prog 19 #[.agg f.cells, v] w fun e w' => Ans w w' e R ∧ Below w.heap.size w w' := by
  have HF := Lib.hid (And.intro hp hs)
  have HC := Lib.hid hk
  clear hp hs hk
  rcases hg with ⟨rfl, rfl⟩ | ⟨⟨gb, go, sp⟩, gc, rfl, hx⟩
  · go_enter Try.func19, Try.ntmps19
    go_wp2_with (first
      | (refine wp_al57 rfl rfl ?_)
      | (refine wp_al59 f.cells 57 rfl rfl rfl ?_; intro W hT; have HT := Lib.hid hT; clear hT)
      | (refine wp_ldf rfl (.tmp 2) rfl w.heap.size rfl f HT.out.b0.range ?_)
      | (refine wp_bl95 rfl (.tmp 9) rfl f rfl ?_)
      | (refine wp_al95 rfl rfl ?_; intro W1 hb hG hz; have HTa := Lib.hid (HT.out.below hb); have HG := Lib.hid hG; have HZ := Lib.hid hz; clear hb hG hz)
      | (refine wp_st95 rfl (.tmp 6) (.tmp 10) rfl W.heap.size f 0 rfl rfl Fr.zero 0 HG.out ?_; intro W2 hb hG; have HTb := Lib.hid (HTa.out.kept HT.out.big (hb _ (Nat.le_refl _))); have HGb := Lib.hid hG; clear hb hG)
      | (refine wp_al98 rfl rfl ?_; intro W3 hb hG; have HTc := Lib.hid (HTb.out.below hb); have HGc := Lib.hid (HGb.out.below hb); have HLa := Lib.hid hG; clear hb hG)
      | (refine wp_st98 rfl (.tmp 7) (.tmp 18) rfl W2.heap.size rfl rfl HLa.out ?_; intro W4 hb hG; have HTd := Lib.hid (HTc.out.kept HTb.out.big (hb _ (Nat.le_refl _))); have HGd := Lib.hid (HGc.out.kept HGb.out.lt (hb _ (Nat.le_refl _))); have HLb := Lib.hid hG; clear hb hG)
      | (refine wp_al99 rfl rfl ?_; intro W5 hb hG; have HTe := Lib.hid (HTd.out.below hb); have HGe := Lib.hid (HGd.out.below hb); have HLc := Lib.hid (HLb.out.below hb); have HMa := Lib.hid hG; clear hb hG)
      | (refine wp_st99 rfl (.tmp 8) (.tmp 19) rfl W4.heap.size rfl rfl HMa.out ?_; intro W6 hb hG; have HTw := Lib.hid (HTe.out.kept HTd.out.big (hb _ (Nat.le_refl _))); have HGw := Lib.hid (HGe.out.kept HGd.out.lt (hb _ (Nat.le_refl _))); have HLw := Lib.hid (HLc.out.kept HLb.out.lt (hb _ (Nat.le_refl _))); have HMw := Lib.hid hG; have c0 := HTw.out.b0.cell f.c0; have c1 := HTw.out.b0.cell f.c1; rw [HF.out.1] at c0; rw [HF.out.2] at c1; clear hb hG))
    replace HTw := Lib.hid HTw.out.drew
    replace HGw := Lib.hid (show HB W6.drew W.heap.size (pgC f 0) 95 from HGw.out)
    replace HLw := Lib.hid (show HB W6.drew W2.heap.size loads 98 from HLw.out)
    replace HMw := Lib.hid (show HB W6.drew W4.heap.size frees 99 from HMw.out)
    (try simp only [Act.put, List.setIfInBounds_toArray, List.set_cons_succ, List.set_cons_zero])
    refine wp_region_noPanic ?_
    refine wp_region_plw (.step [true] (.cons 1 (.step [false, false, true] (.cons 3 (.step [] (.cons 4 (.step [] (.cons 5 (.step [false, false, false, false, false, false, true, true] (.cons 8 (.step [] (.cons 9 (.last []) .nil)) .nil)) .nil)) .nil)) (.cons 4 (.step [] (.cons 3 (.step [] (.cons 5 (.step [false, false, false, false, false, false, true, true] (.cons 8 (.step [] (.cons 9 (.last []) .nil)) .nil)) .nil)) .nil)) .nil))) (.cons 4 (.step [] (.cons 1 (.step [false, false, true] (.cons 3 (.step [] (.cons 5 (.step [false, false, false, false, false, false, true, true] (.cons 8 (.step [] (.cons 9 (.last []) .nil)) .nil)) .nil)) .nil)) .nil)) .nil))) (fun y => ∃ q : World, y = q) (by kernel_rfl) (by kernel_rfl) (by kernel_rfl) (fun _ _ _ _ _ _ _ h => h) ⟨_, rfl⟩ ?_
    simp only [wpPw, wpBw, selF, and_true]
    repeat (go_big_quiet_step (fail))
    refine wpQuiet_nil ?_
    refine ⟨?_, ?_⟩
    · refine wpOp_step rfl (fun K hK => ?_)
      rw [if_pos (by rfl)]
      refine wpO_ld3 (.tmp 34) rfl 35 rfl w.heap.size 1 rfl 1 (by rw [← HF.out.2]; exact HTw.out.b0.cell f.c1) ?_
      refine hK _ _ ⟨fun y => ∃ q : World, y = q, ⟨_, rfl⟩, fun _ h => h, ?_⟩
      clear hK K
      (try simp only [Act.put, List.setIfInBounds_toArray, List.set_cons_succ, List.set_cons_zero])
      repeat (go_big_quiet_step (fail))
      refine wpQuiet_nil ?_
      refine ⟨?_, ?_⟩
      · refine wpOp_step rfl (fun K hK => ?_)
        rw [if_pos (by rfl)]
        refine wpO_ldF (.tmp 36) rfl 37 rfl W2.heap.size 1 rfl 44 (HLw.out.cell rfl) ?_
        refine hK _ _ ⟨fun y => ∃ q : World, y = q, ⟨_, rfl⟩, fun _ h => h, ?_⟩
        clear hK K
        (try simp only [Act.put, List.setIfInBounds_toArray, List.set_cons_succ, List.set_cons_zero])
        refine wpQuiet_nil ?_
        refine wpOp_step rfl (fun K hK => ?_)
        rw [if_pos (by rfl)]
        refine wpO_ldp (.tmp 6) rfl 38 rfl W.heap.size rfl f 0 HGw.out ?_
        refine hK _ _ ⟨fun y => ∃ q : World, y = q, ⟨_, rfl⟩, fun _ h => h, ?_⟩
        clear hK K
        (try simp only [Act.put, List.setIfInBounds_toArray, List.set_cons_succ, List.set_cons_zero])
        refine wpQuiet_nil ?_
        refine wpOp_step rfl (fun K hK => ?_)
        go_simp
        refine (HC.out _).mono ?_
        rintro e Wc ⟨⟨ao, n, c, rfl, hi⟩, hb⟩
        have HI := Lib.hid (hi.low HTw.out.big)
        replace HTw := Lib.hid (HTw.out.below hb)
        clear hb hi HGw HLw HMw
        refine hK _ _ ⟨fun y => ∃ q : World, y = q, ⟨_, rfl⟩, fun _ h => h, ?_⟩
        clear hK K
        (try simp only [Act.put, List.setIfInBounds_toArray, List.set_cons_succ, List.set_cons_zero])
        repeat (go_big_quiet_step (fail))
        refine wpQuiet_nil ?_
        refine wpOp_step rfl (fun K hK => ?_)
        rw [if_pos (by rfl)]
        refine wpO_st1 HTw (.tmp 4) (.tmp 40) rfl rfl R.f rfl rfl ?_
        intro We ho hT
        replace HTw := Lib.hid hT
        replace HI := Lib.hid (HI.out.oth fun b hb => ho b hb)
        clear hT ho
        refine hK _ _ ⟨fun y => ∃ q : World, y = q, ⟨_, rfl⟩, fun _ h => h, ?_⟩
        clear hK K
        (try simp only [Act.put, List.setIfInBounds_toArray, List.set_cons_succ, List.set_cons_zero])
        refine wpQuiet_nil ?_
        refine wpOp_step rfl (fun K hK => ?_)
        rw [if_pos (by rfl)]
        refine wpO_st2 HTw (.tmp 5) (.tmp 41) rfl rfl R.k R.a 0 R.v 0 ao n c rfl rfl ?_
        intro Wf ho hT
        replace HTw := Lib.hid hT
        replace HI := Lib.hid (HI.out.oth fun b hb => ho b hb)
        clear hT ho
        refine hK _ _ ⟨fun y => ∃ q : World, y = q, ⟨_, rfl⟩, fun _ h => h, ?_⟩
        clear hK K
        (try simp only [Act.put, List.setIfInBounds_toArray, List.set_cons_succ, List.set_cons_zero])
        refine wpQuiet_nil ?_
        refine NoPanic.normal ?_
        go_wp2_with fail
        (try simp only [Exit.inBlock, Exit.then])
        refine bodyPost_ret (HTw.out.ret rfl _ rfl rfl rfl) rfl ?_
        exact ⟨⟨_, _, _, rfl, HI.out.low (by omega)⟩, HTw.out.bel⟩
      · refine wpOp_step rfl (fun K hK => ?_)
        rw [if_pos (by rfl)]
        refine wpO_ldp (.tmp 6) rfl 38 rfl W.heap.size rfl f 0 HGw.out ?_
        refine hK _ _ ⟨fun y => ∃ q : World, y = q, ⟨_, rfl⟩, fun _ h => h, ?_⟩
        clear hK K
        (try simp only [Act.put, List.setIfInBounds_toArray, List.set_cons_succ, List.set_cons_zero])
        refine wpQuiet_nil ?_
        refine wpOp_step rfl (fun K hK => ?_)
        rw [if_pos (by rfl)]
        refine wpO_ldF (.tmp 36) rfl 37 rfl W2.heap.size 1 rfl 44 (HLw.out.cell rfl) ?_
        refine hK _ _ ⟨fun y => ∃ q : World, y = q, ⟨_, rfl⟩, fun _ h => h, ?_⟩
        clear hK K
        (try simp only [Act.put, List.setIfInBounds_toArray, List.set_cons_succ, List.set_cons_zero])
        refine wpQuiet_nil ?_
        refine wpOp_step rfl (fun K hK => ?_)
        go_simp
        refine (HC.out _).mono ?_
        rintro e Wc ⟨⟨ao, n, c, rfl, hi⟩, hb⟩
        have HI := Lib.hid (hi.low HTw.out.big)
        replace HTw := Lib.hid (HTw.out.below hb)
        clear hb hi HGw HLw HMw
        refine hK _ _ ⟨fun y => ∃ q : World, y = q, ⟨_, rfl⟩, fun _ h => h, ?_⟩
        clear hK K
        (try simp only [Act.put, List.setIfInBounds_toArray, List.set_cons_succ, List.set_cons_zero])
        repeat (go_big_quiet_step (fail))
        refine wpQuiet_nil ?_
        refine wpOp_step rfl (fun K hK => ?_)
        rw [if_pos (by rfl)]
        refine wpO_st1 HTw (.tmp 4) (.tmp 40) rfl rfl R.f rfl rfl ?_
        intro We ho hT
        replace HTw := Lib.hid hT
        replace HI := Lib.hid (HI.out.oth fun b hb => ho b hb)
        clear hT ho
        refine hK _ _ ⟨fun y => ∃ q : World, y = q, ⟨_, rfl⟩, fun _ h => h, ?_⟩
        clear hK K
        (try simp only [Act.put, List.setIfInBounds_toArray, List.set_cons_succ, List.set_cons_zero])
        refine wpQuiet_nil ?_
        refine wpOp_step rfl (fun K hK => ?_)
        rw [if_pos (by rfl)]
        refine wpO_st2 HTw (.tmp 5) (.tmp 41) rfl rfl R.k R.a 0 R.v 0 ao n c rfl rfl ?_
        intro Wf ho hT
        replace HTw := Lib.hid hT
        replace HI := Lib.hid (HI.out.oth fun b hb => ho b hb)
        clear hT ho
        refine hK _ _ ⟨fun y => ∃ q : World, y = q, ⟨_, rfl⟩, fun _ h => h, ?_⟩
        clear hK K
        (try simp only [Act.put, List.setIfInBounds_toArray, List.set_cons_succ, List.set_cons_zero])
        refine wpQuiet_nil ?_
        refine NoPanic.normal ?_
        go_wp2_with fail
        (try simp only [Exit.inBlock, Exit.then])
        refine bodyPost_ret (HTw.out.ret rfl _ rfl rfl rfl) rfl ?_
        exact ⟨⟨_, _, _, rfl, HI.out.low (by omega)⟩, HTw.out.bel⟩
    · refine wpOp_step rfl (fun K hK => ?_)
      rw [if_pos (by rfl)]
      refine wpO_ldp (.tmp 6) rfl 38 rfl W.heap.size rfl f 0 HGw.out ?_
      refine hK _ _ ⟨fun y => ∃ q : World, y = q, ⟨_, rfl⟩, fun _ h => h, ?_⟩
      clear hK K
      (try simp only [Act.put, List.setIfInBounds_toArray, List.set_cons_succ, List.set_cons_zero])
      refine wpQuiet_nil ?_
      refine wpOp_step rfl (fun K hK => ?_)
      rw [if_pos (by rfl)]
      refine wpO_ld3 (.tmp 34) rfl 35 rfl w.heap.size 1 rfl 1 (by rw [← HF.out.2]; exact HTw.out.b0.cell f.c1) ?_
      refine hK _ _ ⟨fun y => ∃ q : World, y = q, ⟨_, rfl⟩, fun _ h => h, ?_⟩
      clear hK K
      (try simp only [Act.put, List.setIfInBounds_toArray, List.set_cons_succ, List.set_cons_zero])
      repeat (go_big_quiet_step (fail))
      refine wpQuiet_nil ?_
      refine wpOp_step rfl (fun K hK => ?_)
      rw [if_pos (by rfl)]
      refine wpO_ldF (.tmp 36) rfl 37 rfl W2.heap.size 1 rfl 44 (HLw.out.cell rfl) ?_
      refine hK _ _ ⟨fun y => ∃ q : World, y = q, ⟨_, rfl⟩, fun _ h => h, ?_⟩
      clear hK K
      (try simp only [Act.put, List.setIfInBounds_toArray, List.set_cons_succ, List.set_cons_zero])
      refine wpQuiet_nil ?_
      refine wpOp_step rfl (fun K hK => ?_)
      go_simp
      refine (HC.out _).mono ?_
      rintro e Wc ⟨⟨ao, n, c, rfl, hi⟩, hb⟩
      have HI := Lib.hid (hi.low HTw.out.big)
      replace HTw := Lib.hid (HTw.out.below hb)
      clear hb hi HGw HLw HMw
      refine hK _ _ ⟨fun y => ∃ q : World, y = q, ⟨_, rfl⟩, fun _ h => h, ?_⟩
      clear hK K
      (try simp only [Act.put, List.setIfInBounds_toArray, List.set_cons_succ, List.set_cons_zero])
      repeat (go_big_quiet_step (fail))
      refine wpQuiet_nil ?_
      refine wpOp_step rfl (fun K hK => ?_)
      rw [if_pos (by rfl)]
      refine wpO_st1 HTw (.tmp 4) (.tmp 40) rfl rfl R.f rfl rfl ?_
      intro We ho hT
      replace HTw := Lib.hid hT
      replace HI := Lib.hid (HI.out.oth fun b hb => ho b hb)
      clear hT ho
      refine hK _ _ ⟨fun y => ∃ q : World, y = q, ⟨_, rfl⟩, fun _ h => h, ?_⟩
      clear hK K
      (try simp only [Act.put, List.setIfInBounds_toArray, List.set_cons_succ, List.set_cons_zero])
      refine wpQuiet_nil ?_
      refine wpOp_step rfl (fun K hK => ?_)
      rw [if_pos (by rfl)]
      refine wpO_st2 HTw (.tmp 5) (.tmp 41) rfl rfl R.k R.a 0 R.v 0 ao n c rfl rfl ?_
      intro Wf ho hT
      replace HTw := Lib.hid hT
      replace HI := Lib.hid (HI.out.oth fun b hb => ho b hb)
      clear hT ho
      refine hK _ _ ⟨fun y => ∃ q : World, y = q, ⟨_, rfl⟩, fun _ h => h, ?_⟩
      clear hK K
      (try simp only [Act.put, List.setIfInBounds_toArray, List.set_cons_succ, List.set_cons_zero])
      refine wpQuiet_nil ?_
      refine NoPanic.normal ?_
      go_wp2_with fail
      (try simp only [Exit.inBlock, Exit.then])
      refine bodyPost_ret (HTw.out.ret rfl _ rfl rfl rfl) rfl ?_
      exact ⟨⟨_, _, _, rfl, HI.out.low (by omega)⟩, HTw.out.bel⟩
  · have hsp := World.cell?_spot hx
    simp only at hsp
    subst hsp
    have HX := Lib.hid hx
    clear hx
    go_enter Try.func19, Try.ntmps19
    go_wp2_with (first
      | (refine wp_al57 rfl rfl ?_)
      | (refine wp_al59 f.cells 57 rfl rfl rfl ?_; intro W hT; have HT := Lib.hid hT; clear hT)
      | (refine wp_ldf rfl (.tmp 2) rfl w.heap.size rfl f HT.out.b0.range ?_)
      | (refine wp_bl95 rfl (.tmp 9) rfl f rfl ?_)
      | (refine wp_al95 rfl rfl ?_; intro W1 hb hG hz; have HTa := Lib.hid (HT.out.below hb); have HG := Lib.hid hG; have HZ := Lib.hid hz; clear hb hG hz)
      | (refine wp_st95 rfl (.tmp 6) (.tmp 10) rfl W.heap.size f 0 rfl rfl Fr.zero 0 HG.out ?_; intro W2 hb hG; have HTb := Lib.hid (HTa.out.kept HT.out.big (hb _ (Nat.le_refl _))); have HGb := Lib.hid hG; have cx := (HTb.out.bel.cell (World.block_lt_of_cell? _ _ HX.out)).trans HX.out; clear hb hG)
      | (refine wp_setx rfl (.tmp 17) (.tmp 16) rfl W.heap.size f 0 x HGb.out rfl rfl ?_; intro W2b hb hG; have HTb2 := Lib.hid (HTb.out.kept HT.out.big (hb _ (Nat.le_refl _))); have HGb2 := Lib.hid hG; clear hb hG cx)
      | (refine wp_al98 rfl rfl ?_; intro W3 hb hG; have HTc := Lib.hid (HTb2.out.below hb); have HGc := Lib.hid (HGb2.out.below hb); have HLa := Lib.hid hG; clear hb hG)
      | (refine wp_st98 rfl (.tmp 7) (.tmp 18) rfl W2b.heap.size rfl rfl HLa.out ?_; intro W4 hb hG; have HTd := Lib.hid (HTc.out.kept HTb2.out.big (hb _ (Nat.le_refl _))); have HGd := Lib.hid (HGc.out.kept HGb2.out.lt (hb _ (Nat.le_refl _))); have HLb := Lib.hid hG; clear hb hG)
      | (refine wp_al99 rfl rfl ?_; intro W5 hb hG; have HTe := Lib.hid (HTd.out.below hb); have HGe := Lib.hid (HGd.out.below hb); have HLc := Lib.hid (HLb.out.below hb); have HMa := Lib.hid hG; clear hb hG)
      | (refine wp_st99 rfl (.tmp 8) (.tmp 19) rfl W4.heap.size rfl rfl HMa.out ?_; intro W6 hb hG; have HTw := Lib.hid (HTe.out.kept HTd.out.big (hb _ (Nat.le_refl _))); have HGw := Lib.hid (HGe.out.kept HGd.out.lt (hb _ (Nat.le_refl _))); have HLw := Lib.hid (HLc.out.kept HLb.out.lt (hb _ (Nat.le_refl _))); have HMw := Lib.hid hG; have c0 := HTw.out.b0.cell f.c0; have c1 := HTw.out.b0.cell f.c1; rw [HF.out.1] at c0; rw [HF.out.2] at c1; clear hb hG))
    replace HTw := Lib.hid HTw.out.drew
    replace HGw := Lib.hid (show HB W6.drew W.heap.size (pgC f x) 95 from HGw.out)
    replace HLw := Lib.hid (show HB W6.drew W2b.heap.size loads 98 from HLw.out)
    replace HMw := Lib.hid (show HB W6.drew W4.heap.size frees 99 from HMw.out)
    (try simp only [Act.put, List.setIfInBounds_toArray, List.set_cons_succ, List.set_cons_zero])
    refine wp_region_noPanic ?_
    refine wp_region_plw (.step [true] (.cons 1 (.step [false, false, true] (.cons 3 (.step [] (.cons 4 (.step [] (.cons 5 (.step [false, false, false, false, false, false, true, true] (.cons 8 (.step [] (.cons 9 (.last []) .nil)) .nil)) .nil)) .nil)) (.cons 4 (.step [] (.cons 3 (.step [] (.cons 5 (.step [false, false, false, false, false, false, true, true] (.cons 8 (.step [] (.cons 9 (.last []) .nil)) .nil)) .nil)) .nil)) .nil))) (.cons 4 (.step [] (.cons 1 (.step [false, false, true] (.cons 3 (.step [] (.cons 5 (.step [false, false, false, false, false, false, true, true] (.cons 8 (.step [] (.cons 9 (.last []) .nil)) .nil)) .nil)) .nil)) .nil)) .nil))) (fun y => ∃ q : World, y = q) (by kernel_rfl) (by kernel_rfl) (by kernel_rfl) (fun _ _ _ _ _ _ _ h => h) ⟨_, rfl⟩ ?_
    simp only [wpPw, wpBw, selF, and_true]
    repeat (go_big_quiet_step (fail))
    refine wpQuiet_nil ?_
    refine ⟨?_, ?_⟩
    · refine wpOp_step rfl (fun K hK => ?_)
      rw [if_pos (by rfl)]
      refine wpO_ld3 (.tmp 34) rfl 35 rfl w.heap.size 1 rfl 1 (by rw [← HF.out.2]; exact HTw.out.b0.cell f.c1) ?_
      refine hK _ _ ⟨fun y => ∃ q : World, y = q, ⟨_, rfl⟩, fun _ h => h, ?_⟩
      clear hK K
      (try simp only [Act.put, List.setIfInBounds_toArray, List.set_cons_succ, List.set_cons_zero])
      repeat (go_big_quiet_step (fail))
      refine wpQuiet_nil ?_
      refine ⟨?_, ?_⟩
      · refine wpOp_step rfl (fun K hK => ?_)
        rw [if_pos (by rfl)]
        refine wpO_ldF (.tmp 36) rfl 37 rfl W2b.heap.size 1 rfl 44 (HLw.out.cell rfl) ?_
        refine hK _ _ ⟨fun y => ∃ q : World, y = q, ⟨_, rfl⟩, fun _ h => h, ?_⟩
        clear hK K
        (try simp only [Act.put, List.setIfInBounds_toArray, List.set_cons_succ, List.set_cons_zero])
        refine wpQuiet_nil ?_
        refine wpOp_step rfl (fun K hK => ?_)
        rw [if_pos (by rfl)]
        refine wpO_ldp (.tmp 6) rfl 38 rfl W.heap.size rfl f x HGw.out ?_
        refine hK _ _ ⟨fun y => ∃ q : World, y = q, ⟨_, rfl⟩, fun _ h => h, ?_⟩
        clear hK K
        (try simp only [Act.put, List.setIfInBounds_toArray, List.set_cons_succ, List.set_cons_zero])
        refine wpQuiet_nil ?_
        refine wpOp_step rfl (fun K hK => ?_)
        go_simp
        refine (HC.out _).mono ?_
        rintro e Wc ⟨⟨ao, n, c, rfl, hi⟩, hb⟩
        have HI := Lib.hid (hi.low HTw.out.big)
        replace HTw := Lib.hid (HTw.out.below hb)
        clear hb hi HGw HLw HMw
        refine hK _ _ ⟨fun y => ∃ q : World, y = q, ⟨_, rfl⟩, fun _ h => h, ?_⟩
        clear hK K
        (try simp only [Act.put, List.setIfInBounds_toArray, List.set_cons_succ, List.set_cons_zero])
        repeat (go_big_quiet_step (fail))
        refine wpQuiet_nil ?_
        refine wpOp_step rfl (fun K hK => ?_)
        rw [if_pos (by rfl)]
        refine wpO_st1 HTw (.tmp 4) (.tmp 40) rfl rfl R.f rfl rfl ?_
        intro We ho hT
        replace HTw := Lib.hid hT
        replace HI := Lib.hid (HI.out.oth fun b hb => ho b hb)
        clear hT ho
        refine hK _ _ ⟨fun y => ∃ q : World, y = q, ⟨_, rfl⟩, fun _ h => h, ?_⟩
        clear hK K
        (try simp only [Act.put, List.setIfInBounds_toArray, List.set_cons_succ, List.set_cons_zero])
        refine wpQuiet_nil ?_
        refine wpOp_step rfl (fun K hK => ?_)
        rw [if_pos (by rfl)]
        refine wpO_st2 HTw (.tmp 5) (.tmp 41) rfl rfl R.k R.a 0 R.v 0 ao n c rfl rfl ?_
        intro Wf ho hT
        replace HTw := Lib.hid hT
        replace HI := Lib.hid (HI.out.oth fun b hb => ho b hb)
        clear hT ho
        refine hK _ _ ⟨fun y => ∃ q : World, y = q, ⟨_, rfl⟩, fun _ h => h, ?_⟩
        clear hK K
        (try simp only [Act.put, List.setIfInBounds_toArray, List.set_cons_succ, List.set_cons_zero])
        refine wpQuiet_nil ?_
        refine NoPanic.normal ?_
        go_wp2_with fail
        (try simp only [Exit.inBlock, Exit.then])
        refine bodyPost_ret (HTw.out.ret rfl _ rfl rfl rfl) rfl ?_
        exact ⟨⟨_, _, _, rfl, HI.out.low (by omega)⟩, HTw.out.bel⟩
      · refine wpOp_step rfl (fun K hK => ?_)
        rw [if_pos (by rfl)]
        refine wpO_ldp (.tmp 6) rfl 38 rfl W.heap.size rfl f x HGw.out ?_
        refine hK _ _ ⟨fun y => ∃ q : World, y = q, ⟨_, rfl⟩, fun _ h => h, ?_⟩
        clear hK K
        (try simp only [Act.put, List.setIfInBounds_toArray, List.set_cons_succ, List.set_cons_zero])
        refine wpQuiet_nil ?_
        refine wpOp_step rfl (fun K hK => ?_)
        rw [if_pos (by rfl)]
        refine wpO_ldF (.tmp 36) rfl 37 rfl W2b.heap.size 1 rfl 44 (HLw.out.cell rfl) ?_
        refine hK _ _ ⟨fun y => ∃ q : World, y = q, ⟨_, rfl⟩, fun _ h => h, ?_⟩
        clear hK K
        (try simp only [Act.put, List.setIfInBounds_toArray, List.set_cons_succ, List.set_cons_zero])
        refine wpQuiet_nil ?_
        refine wpOp_step rfl (fun K hK => ?_)
        go_simp
        refine (HC.out _).mono ?_
        rintro e Wc ⟨⟨ao, n, c, rfl, hi⟩, hb⟩
        have HI := Lib.hid (hi.low HTw.out.big)
        replace HTw := Lib.hid (HTw.out.below hb)
        clear hb hi HGw HLw HMw
        refine hK _ _ ⟨fun y => ∃ q : World, y = q, ⟨_, rfl⟩, fun _ h => h, ?_⟩
        clear hK K
        (try simp only [Act.put, List.setIfInBounds_toArray, List.set_cons_succ, List.set_cons_zero])
        repeat (go_big_quiet_step (fail))
        refine wpQuiet_nil ?_
        refine wpOp_step rfl (fun K hK => ?_)
        rw [if_pos (by rfl)]
        refine wpO_st1 HTw (.tmp 4) (.tmp 40) rfl rfl R.f rfl rfl ?_
        intro We ho hT
        replace HTw := Lib.hid hT
        replace HI := Lib.hid (HI.out.oth fun b hb => ho b hb)
        clear hT ho
        refine hK _ _ ⟨fun y => ∃ q : World, y = q, ⟨_, rfl⟩, fun _ h => h, ?_⟩
        clear hK K
        (try simp only [Act.put, List.setIfInBounds_toArray, List.set_cons_succ, List.set_cons_zero])
        refine wpQuiet_nil ?_
        refine wpOp_step rfl (fun K hK => ?_)
        rw [if_pos (by rfl)]
        refine wpO_st2 HTw (.tmp 5) (.tmp 41) rfl rfl R.k R.a 0 R.v 0 ao n c rfl rfl ?_
        intro Wf ho hT
        replace HTw := Lib.hid hT
        replace HI := Lib.hid (HI.out.oth fun b hb => ho b hb)
        clear hT ho
        refine hK _ _ ⟨fun y => ∃ q : World, y = q, ⟨_, rfl⟩, fun _ h => h, ?_⟩
        clear hK K
        (try simp only [Act.put, List.setIfInBounds_toArray, List.set_cons_succ, List.set_cons_zero])
        refine wpQuiet_nil ?_
        refine NoPanic.normal ?_
        go_wp2_with fail
        (try simp only [Exit.inBlock, Exit.then])
        refine bodyPost_ret (HTw.out.ret rfl _ rfl rfl rfl) rfl ?_
        exact ⟨⟨_, _, _, rfl, HI.out.low (by omega)⟩, HTw.out.bel⟩
    · refine wpOp_step rfl (fun K hK => ?_)
      rw [if_pos (by rfl)]
      refine wpO_ldp (.tmp 6) rfl 38 rfl W.heap.size rfl f x HGw.out ?_
      refine hK _ _ ⟨fun y => ∃ q : World, y = q, ⟨_, rfl⟩, fun _ h => h, ?_⟩
      clear hK K
      (try simp only [Act.put, List.setIfInBounds_toArray, List.set_cons_succ, List.set_cons_zero])
      refine wpQuiet_nil ?_
      refine wpOp_step rfl (fun K hK => ?_)
      rw [if_pos (by rfl)]
      refine wpO_ld3 (.tmp 34) rfl 35 rfl w.heap.size 1 rfl 1 (by rw [← HF.out.2]; exact HTw.out.b0.cell f.c1) ?_
      refine hK _ _ ⟨fun y => ∃ q : World, y = q, ⟨_, rfl⟩, fun _ h => h, ?_⟩
      clear hK K
      (try simp only [Act.put, List.setIfInBounds_toArray, List.set_cons_succ, List.set_cons_zero])
      repeat (go_big_quiet_step (fail))
      refine wpQuiet_nil ?_
      refine wpOp_step rfl (fun K hK => ?_)
      rw [if_pos (by rfl)]
      refine wpO_ldF (.tmp 36) rfl 37 rfl W2b.heap.size 1 rfl 44 (HLw.out.cell rfl) ?_
      refine hK _ _ ⟨fun y => ∃ q : World, y = q, ⟨_, rfl⟩, fun _ h => h, ?_⟩
      clear hK K
      (try simp only [Act.put, List.setIfInBounds_toArray, List.set_cons_succ, List.set_cons_zero])
      refine wpQuiet_nil ?_
      refine wpOp_step rfl (fun K hK => ?_)
      go_simp
      refine (HC.out _).mono ?_
      rintro e Wc ⟨⟨ao, n, c, rfl, hi⟩, hb⟩
      have HI := Lib.hid (hi.low HTw.out.big)
      replace HTw := Lib.hid (HTw.out.below hb)
      clear hb hi HGw HLw HMw
      refine hK _ _ ⟨fun y => ∃ q : World, y = q, ⟨_, rfl⟩, fun _ h => h, ?_⟩
      clear hK K
      (try simp only [Act.put, List.setIfInBounds_toArray, List.set_cons_succ, List.set_cons_zero])
      repeat (go_big_quiet_step (fail))
      refine wpQuiet_nil ?_
      refine wpOp_step rfl (fun K hK => ?_)
      rw [if_pos (by rfl)]
      refine wpO_st1 HTw (.tmp 4) (.tmp 40) rfl rfl R.f rfl rfl ?_
      intro We ho hT
      replace HTw := Lib.hid hT
      replace HI := Lib.hid (HI.out.oth fun b hb => ho b hb)
      clear hT ho
      refine hK _ _ ⟨fun y => ∃ q : World, y = q, ⟨_, rfl⟩, fun _ h => h, ?_⟩
      clear hK K
      (try simp only [Act.put, List.setIfInBounds_toArray, List.set_cons_succ, List.set_cons_zero])
      refine wpQuiet_nil ?_
      refine wpOp_step rfl (fun K hK => ?_)
      rw [if_pos (by rfl)]
      refine wpO_st2 HTw (.tmp 5) (.tmp 41) rfl rfl R.k R.a 0 R.v 0 ao n c rfl rfl ?_
      intro Wf ho hT
      replace HTw := Lib.hid hT
      replace HI := Lib.hid (HI.out.oth fun b hb => ho b hb)
      clear hT ho
      refine hK _ _ ⟨fun y => ∃ q : World, y = q, ⟨_, rfl⟩, fun _ h => h, ?_⟩
      clear hK K
      (try simp only [Act.put, List.setIfInBounds_toArray, List.set_cons_succ, List.set_cons_zero])
      refine wpQuiet_nil ?_
      refine NoPanic.normal ?_
      go_wp2_with fail
      (try simp only [Exit.inBlock, Exit.then])
      refine bodyPost_ret (HTw.out.ret rfl _ rfl rfl rfl) rfl ?_
      exact ⟨⟨_, _, _, rfl, HI.out.low (by omega)⟩, HTw.out.bel⟩
end Go.Proofs.Ytgpdknacnmapiaa
