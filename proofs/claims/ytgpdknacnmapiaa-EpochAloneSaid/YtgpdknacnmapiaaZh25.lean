/-
  Parts of a proof, put together: Fc.
-/
import Derived.Test.YtgpdknacnmapiaaZh01
import Derived.Test.YtgpdknacnmapiaaZh02
import Derived.Test.YtgpdknacnmapiaaZh03
import Derived.Test.YtgpdknacnmapiaaZh04
import Derived.Test.YtgpdknacnmapiaaZh05
import Derived.Test.YtgpdknacnmapiaaZh06
import Derived.Test.YtgpdknacnmapiaaZh07
import Derived.Test.YtgpdknacnmapiaaZh08
import Derived.Test.YtgpdknacnmapiaaZh09
import Derived.Test.YtgpdknacnmapiaaZh10
import Derived.Test.YtgpdknacnmapiaaZh11
import Derived.Test.YtgpdknacnmapiaaZh12
import Derived.Test.YtgpdknacnmapiaaZh13
import Derived.Test.YtgpdknacnmapiaaZh14
import Derived.Test.YtgpdknacnmapiaaZh15
import Derived.Test.YtgpdknacnmapiaaZh16
import Derived.Test.YtgpdknacnmapiaaZh17
import Derived.Test.YtgpdknacnmapiaaZh23
import Derived.Deep.QuietTactic
namespace Go.Proofs.Ytgpdknacnmapiaa
set_option linter.unusedVariables false
set_option linter.unusedSimpArgs false
open Go.RowKit
set_option maxHeartbeats 2000000 in
set_option maxRecDepth 100000 in
theorem dad0 (f : Fr) (x : Int) (w : World) (hs : f.st = 0) : Calls Try.prog 84 #[.agg f.cells, .int .i64 x] w fun e w' => AnsB w w' e (f.at_ 1) 0 2 0 0 [] ∧ Below w.heap.size w w' := by
  have HM := Lib.hid (Mem.start w)
  have HS := Lib.hid (by rw [← hs]; exact f.c1 : f.cells[1]? = some (.int .i64 0))
  clear hs
  go_enter Try.func84, Try.ntmps84
  go_wp2_with (first
    | (refine wpm_box HM rfl 57 (.tmp 0) rfl _ rfl ?_; intro W hM; (try simp only [List.cons_append, List.nil_append, List.set_cons_succ, List.set_cons_zero, Nat.reduceAdd] at hM); replace HM := hM; clear hM)
    | (refine wpm_al57 HM rfl rfl ?_; intro W2 hM; (try simp only [List.cons_append, List.nil_append, List.set_cons_succ, List.set_cons_zero, Nat.reduceAdd] at hM); replace HM := hM; clear hM)
    | (refine wpm_al59 HM rfl rfl ?_; intro W3 hM; (try simp only [List.cons_append, List.nil_append, List.set_cons_succ, List.set_cons_zero, Nat.reduceAdd] at hM); replace HM := hM; clear hM; have ks : W3.cell? ⟨w.heap.size, 1, none⟩ = some (.int .i64 0) := (HM.out.hb 0 _ _ _ rfl).cell (k := 1) HS.out))
  clear ks
  replace HM := Lib.hid HM.out.drew
  have HF : Hid (∀ p ∈ ([] : List (Addr × Value)), World.cell? W3.drew p.1 = some p.2) := Lib.hid (alln _)
  haveI : Inhabited (CW []) := ⟨⟨_, HF.out⟩⟩
  (try simp only [Act.put, List.setIfInBounds_toArray, List.set_cons_succ, List.set_cons_zero])
  refine wp_region_noPanic ?_
  refine wp_region_plw (.step [] (.cons 0 (.step [] (.cons 1 (.step [] (.cons 2 (.step [false, false, false, true, true] (.cons 5 (.step [] (.cons 6 (.last []) .nil)) .nil)) .nil)) .nil)) (.cons 1 (.step [] (.cons 0 (.step [] (.cons 2 (.step [false, false, false, true, true] (.cons 5 (.step [] (.cons 6 (.last []) .nil)) .nil)) .nil)) .nil)) .nil))) (fun y => ∃ q : CW [], y = q.1) (by kernel_rfl) (by kernel_rfl) (by kernel_rfl) (fun _ _ _ _ _ _ _ h => h) ⟨⟨_, HF.out⟩, rfl⟩ ?_
  simp only [wpPw, wpBw, selF, and_true]
  generalize W3.drew = V71 at *
  refine wpQuiet_nil ?_
  refine ⟨?_, ?_⟩
  · refine wpOp_step rfl (fun K hK => ?_)
    rw [if_pos (by rfl)]
    refine wpOm_ld HM 57 (.tmp 2) rfl 10 rfl 0 rfl rfl 98 und57 inf57 (Fr.size _) ?_
    refine hK _ _ ⟨(fun y => ∃ q : CW [], y = q.1), ⟨⟨_, (alln _)⟩, rfl⟩, fun _ h => h, ?_⟩
    clear hK K
    (try simp only [Act.put, List.setIfInBounds_toArray, List.set_cons_succ, List.set_cons_zero])
    refine wpQuiet_nil ?_
    refine wpOp_step rfl (fun K hK => ?_)
    go_simp
    refine (load13d 2 _).mono ?_
    rintro e V72 ⟨rfl, hb⟩
    replace HM := Lib.hid (HM.out.below hb)
    clear hb
    refine hK _ _ ⟨(fun y => ∃ q : CW [], y = q.1), ⟨⟨_, (alln _)⟩, rfl⟩, fun _ h => h, ?_⟩
    clear hK K
    (try simp only [Act.put, List.setIfInBounds_toArray, List.set_cons_succ, List.set_cons_zero])
    refine wpQuiet_nil ?_
    refine wpOp_step rfl (fun K hK => ?_)
    go_simp
    refine (step13d f 1 0 2 0 0 none 0 0 _).mono ?_
    rintro e V73 ⟨rfl, hb⟩
    replace HM := Lib.hid (HM.out.below hb)
    clear hb
    refine hK _ _ ⟨(fun y => ∃ q : CW [], y = q.1), ⟨⟨_, (alln _)⟩, rfl⟩, fun _ h => h, ?_⟩
    clear hK K
    (try simp only [Act.put, List.setIfInBounds_toArray, List.set_cons_succ, List.set_cons_zero])
    repeat (go_big_quiet_step (fail))
    refine wpQuiet_nil ?_
    refine wpOp_step rfl (fun K hK => ?_)
    rw [if_pos (by rfl)]
    refine wpOm_st HM 57 (.tmp 4) (.tmp 13) rfl rfl 1 rfl (f.at_ 1).cells rfl rfl 98 inf57 (Fr.size _) (Fr.size _) (Fr.one _) ?_
    intro V74 hM
    (try simp only [List.cons_append, List.nil_append, List.set_cons_succ, List.set_cons_zero, Nat.reduceAdd] at hM)
    replace HM := hM
    clear hM
    refine hK _ _ ⟨(fun y => ∃ q : CW [], y = q.1), ⟨⟨_, (alln _)⟩, rfl⟩, fun _ h => h, ?_⟩
    clear hK K
    (try simp only [Act.put, List.setIfInBounds_toArray, List.set_cons_succ, List.set_cons_zero])
    refine wpQuiet_nil ?_
    refine wpOp_step rfl (fun K hK => ?_)
    rw [if_pos (by rfl)]
    refine wpOm_st HM 59 (.tmp 5) (.tmp 14) rfl rfl 2 rfl (acC 0 2 0 0 0 (.slice none 0 0)) rfl rfl 7 inf59 rfl rfl (acC_one _ _ _ _ _ _ _ _) ?_
    intro V75 hM
    (try simp only [List.cons_append, List.nil_append, List.set_cons_succ, List.set_cons_zero, Nat.reduceAdd] at hM)
    replace HM := hM
    clear hM
    refine hK _ _ ⟨(fun y => ∃ q : CW [], y = q.1), ⟨⟨_, (alln _)⟩, rfl⟩, fun _ h => h, ?_⟩
    clear hK K
    (try simp only [Act.put, List.setIfInBounds_toArray, List.set_cons_succ, List.set_cons_zero])
    refine wpQuiet_nil ?_
    refine NoPanic.normal ?_
    go_wp2_with fail
    (try simp only [Exit.inBlock, Exit.then])
    refine bodyPost_ret (res_cc rfl _ _ _ _ _ _ rfl rfl ((HM.out.hb 1 _ _ _ rfl).load57) ((HM.out.hb 2 _ _ _ rfl).load59 rfl)) rfl ?_
    exact ⟨⟨_, _, _, rfl, ints0 _ _ _ _⟩, HM.out.bel⟩
  · refine wpOp_step rfl (fun K hK => ?_)
    go_simp
    refine (load13d 2 _).mono ?_
    rintro e V76 ⟨rfl, hb⟩
    replace HM := Lib.hid (HM.out.below hb)
    clear hb
    refine hK _ _ ⟨(fun y => ∃ q : CW [], y = q.1), ⟨⟨_, (alln _)⟩, rfl⟩, fun _ h => h, ?_⟩
    clear hK K
    (try simp only [Act.put, List.setIfInBounds_toArray, List.set_cons_succ, List.set_cons_zero])
    refine wpQuiet_nil ?_
    refine wpOp_step rfl (fun K hK => ?_)
    rw [if_pos (by rfl)]
    refine wpOm_ld HM 57 (.tmp 2) rfl 10 rfl 0 rfl rfl 98 und57 inf57 (Fr.size _) ?_
    refine hK _ _ ⟨(fun y => ∃ q : CW [], y = q.1), ⟨⟨_, (alln _)⟩, rfl⟩, fun _ h => h, ?_⟩
    clear hK K
    (try simp only [Act.put, List.setIfInBounds_toArray, List.set_cons_succ, List.set_cons_zero])
    refine wpQuiet_nil ?_
    refine wpOp_step rfl (fun K hK => ?_)
    go_simp
    refine (step13d f 1 0 2 0 0 none 0 0 _).mono ?_
    rintro e V77 ⟨rfl, hb⟩
    replace HM := Lib.hid (HM.out.below hb)
    clear hb
    refine hK _ _ ⟨(fun y => ∃ q : CW [], y = q.1), ⟨⟨_, (alln _)⟩, rfl⟩, fun _ h => h, ?_⟩
    clear hK K
    (try simp only [Act.put, List.setIfInBounds_toArray, List.set_cons_succ, List.set_cons_zero])
    repeat (go_big_quiet_step (fail))
    refine wpQuiet_nil ?_
    refine wpOp_step rfl (fun K hK => ?_)
    rw [if_pos (by rfl)]
    refine wpOm_st HM 57 (.tmp 4) (.tmp 13) rfl rfl 1 rfl (f.at_ 1).cells rfl rfl 98 inf57 (Fr.size _) (Fr.size _) (Fr.one _) ?_
    intro V78 hM
    (try simp only [List.cons_append, List.nil_append, List.set_cons_succ, List.set_cons_zero, Nat.reduceAdd] at hM)
    replace HM := hM
    clear hM
    refine hK _ _ ⟨(fun y => ∃ q : CW [], y = q.1), ⟨⟨_, (alln _)⟩, rfl⟩, fun _ h => h, ?_⟩
    clear hK K
    (try simp only [Act.put, List.setIfInBounds_toArray, List.set_cons_succ, List.set_cons_zero])
    refine wpQuiet_nil ?_
    refine wpOp_step rfl (fun K hK => ?_)
    rw [if_pos (by rfl)]
    refine wpOm_st HM 59 (.tmp 5) (.tmp 14) rfl rfl 2 rfl (acC 0 2 0 0 0 (.slice none 0 0)) rfl rfl 7 inf59 rfl rfl (acC_one _ _ _ _ _ _ _ _) ?_
    intro V79 hM
    (try simp only [List.cons_append, List.nil_append, List.set_cons_succ, List.set_cons_zero, Nat.reduceAdd] at hM)
    replace HM := hM
    clear hM
    refine hK _ _ ⟨(fun y => ∃ q : CW [], y = q.1), ⟨⟨_, (alln _)⟩, rfl⟩, fun _ h => h, ?_⟩
    clear hK K
    (try simp only [Act.put, List.setIfInBounds_toArray, List.set_cons_succ, List.set_cons_zero])
    refine wpQuiet_nil ?_
    refine NoPanic.normal ?_
    go_wp2_with fail
    (try simp only [Exit.inBlock, Exit.then])
    refine bodyPost_ret (res_cc rfl _ _ _ _ _ _ rfl rfl ((HM.out.hb 1 _ _ _ rfl).load57) ((HM.out.hb 2 _ _ _ rfl).load59 rfl)) rfl ?_
    exact ⟨⟨_, _, _, rfl, ints0 _ _ _ _⟩, HM.out.bel⟩
set_option maxHeartbeats 2000000 in
set_option maxRecDepth 100000 in
theorem dad1 (f : Fr) (x : Int) (w : World) (hs : f.st = 1) : Calls Try.prog 84 #[.agg f.cells, .int .i64 x] w fun e w' => AnsB w w' e (((f.reg 0 x).reg 1 0).at_ 2) 0 5 0 0 [] ∧ Below w.heap.size w w' := by
  have HM := Lib.hid (Mem.start w)
  have HS := Lib.hid (by rw [← hs]; exact f.c1 : f.cells[1]? = some (.int .i64 1))
  clear hs
  go_enter Try.func84, Try.ntmps84
  go_wp2_with (first
    | (refine wpm_box HM rfl 57 (.tmp 0) rfl _ rfl ?_; intro W hM; (try simp only [List.cons_append, List.nil_append, List.set_cons_succ, List.set_cons_zero, Nat.reduceAdd] at hM); replace HM := hM; clear hM)
    | (refine wpm_al57 HM rfl rfl ?_; intro W2 hM; (try simp only [List.cons_append, List.nil_append, List.set_cons_succ, List.set_cons_zero, Nat.reduceAdd] at hM); replace HM := hM; clear hM)
    | (refine wpm_al59 HM rfl rfl ?_; intro W3 hM; (try simp only [List.cons_append, List.nil_append, List.set_cons_succ, List.set_cons_zero, Nat.reduceAdd] at hM); replace HM := hM; clear hM; have ks : W3.cell? ⟨w.heap.size, 1, none⟩ = some (.int .i64 1) := (HM.out.hb 0 _ _ _ rfl).cell (k := 1) HS.out)
    | (refine wpm_cell HM rfl 3 (.tmp 19) (.tmp 17) rfl Try.sizeOf3 0 2 rfl (.int .i64 x) rfl rfl (.inl ⟨_, _, rfl⟩) (by rw [Fr.size]; omega) (f.reg 0 x).cells (Fr.setr f 0 (by omega) x) ?_; intro W hM; (try simp only [List.cons_append, List.nil_append, List.set_cons_succ, List.set_cons_zero, Nat.reduceAdd] at hM); replace HM := hM; clear hM)
    | (refine wpm_cell HM rfl 3 (.tmp 21) (.const (.int .i64 0)) rfl Try.sizeOf3 0 3 rfl (.int .i64 0) rfl rfl (.inl ⟨_, _, rfl⟩) (by rw [Fr.size]; omega) ((f.reg 0 x).reg 1 0).cells (Fr.setr (f.reg 0 x) 1 (by omega) 0) ?_; intro W4 hM; (try simp only [List.cons_append, List.nil_append, List.set_cons_succ, List.set_cons_zero, Nat.reduceAdd] at hM); replace HM := hM; clear hM))
  clear ks
  replace HM := Lib.hid HM.out.drew
  have HF : Hid (∀ p ∈ ([] : List (Addr × Value)), World.cell? W4.drew p.1 = some p.2) := Lib.hid (alln _)
  haveI : Inhabited (CW []) := ⟨⟨_, HF.out⟩⟩
  (try simp only [Act.put, List.setIfInBounds_toArray, List.set_cons_succ, List.set_cons_zero])
  refine wp_region_noPanic ?_
  refine wp_region_plw (.step [] (.cons 0 (.step [] (.cons 1 (.step [] (.cons 2 (.step [] (.cons 3 (.step [false, false, false, false, true, true] (.cons 6 (.step [] (.cons 7 (.last []) .nil)) .nil)) .nil)) .nil)) .nil)) (.cons 1 (.step [] (.cons 0 (.step [] (.cons 2 (.step [] (.cons 3 (.step [false, false, false, false, true, true] (.cons 6 (.step [] (.cons 7 (.last []) .nil)) .nil)) .nil)) .nil)) (.cons 2 (.step [] (.cons 0 (.step [] (.cons 3 (.step [false, false, false, false, true, true] (.cons 6 (.step [] (.cons 7 (.last []) .nil)) .nil)) .nil)) .nil)) .nil))) .nil))) (fun y => ∃ q : CW [], y = q.1) (by kernel_rfl) (by kernel_rfl) (by kernel_rfl) (fun _ _ _ _ _ _ _ h => h) ⟨⟨_, HF.out⟩, rfl⟩ ?_
  simp only [wpPw, wpBw, selF, and_true]
  generalize W4.drew = V80 at *
  refine wpQuiet_nil ?_
  refine ⟨?_, ?_⟩
  · refine wpOp_step rfl (fun K hK => ?_)
    rw [if_pos (by rfl)]
    refine wpOm_ld HM 57 (.tmp 2) rfl 22 rfl 0 rfl rfl 98 und57 inf57 (Fr.size _) ?_
    refine hK _ _ ⟨(fun y => ∃ q : CW [], y = q.1), ⟨⟨_, (alln _)⟩, rfl⟩, fun _ h => h, ?_⟩
    clear hK K
    (try simp only [Act.put, List.setIfInBounds_toArray, List.set_cons_succ, List.set_cons_zero])
    refine wpQuiet_nil ?_
    refine wpOp_step rfl (fun K hK => ?_)
    go_simp
    refine (pin13d 0 5 _ (by omega) rfl).mono ?_
    rintro e V81 ⟨rfl, rfl⟩
    refine hK _ _ ⟨(fun y => ∃ q : CW [], y = q.1), ⟨⟨_, (alln _)⟩, rfl⟩, fun _ h => h, ?_⟩
    clear hK K
    (try simp only [Act.put, List.setIfInBounds_toArray, List.set_cons_succ, List.set_cons_zero])
    refine wpQuiet_nil ?_
    refine wpOp_step rfl (fun K hK => ?_)
    go_simp
    refine (load13d 5 _).mono ?_
    rintro e V82 ⟨rfl, hb⟩
    replace HM := Lib.hid (HM.out.below hb)
    clear hb
    refine hK _ _ ⟨(fun y => ∃ q : CW [], y = q.1), ⟨⟨_, (alln _)⟩, rfl⟩, fun _ h => h, ?_⟩
    clear hK K
    (try simp only [Act.put, List.setIfInBounds_toArray, List.set_cons_succ, List.set_cons_zero])
    refine wpQuiet_nil ?_
    refine wpOp_step rfl (fun K hK => ?_)
    go_simp
    refine (step13d ((f.reg 0 x).reg 1 0) 2 0 5 0 0 none 0 0 _).mono ?_
    rintro e V83 ⟨rfl, hb⟩
    replace HM := Lib.hid (HM.out.below hb)
    clear hb
    refine hK _ _ ⟨(fun y => ∃ q : CW [], y = q.1), ⟨⟨_, (alln _)⟩, rfl⟩, fun _ h => h, ?_⟩
    clear hK K
    (try simp only [Act.put, List.setIfInBounds_toArray, List.set_cons_succ, List.set_cons_zero])
    repeat (go_big_quiet_step (fail))
    refine wpQuiet_nil ?_
    refine wpOp_step rfl (fun K hK => ?_)
    rw [if_pos (by rfl)]
    refine wpOm_st HM 57 (.tmp 4) (.tmp 26) rfl rfl 1 rfl (((f.reg 0 x).reg 1 0).at_ 2).cells rfl rfl 98 inf57 (Fr.size _) (Fr.size _) (Fr.one _) ?_
    intro V84 hM
    (try simp only [List.cons_append, List.nil_append, List.set_cons_succ, List.set_cons_zero, Nat.reduceAdd] at hM)
    replace HM := hM
    clear hM
    refine hK _ _ ⟨(fun y => ∃ q : CW [], y = q.1), ⟨⟨_, (alln _)⟩, rfl⟩, fun _ h => h, ?_⟩
    clear hK K
    (try simp only [Act.put, List.setIfInBounds_toArray, List.set_cons_succ, List.set_cons_zero])
    refine wpQuiet_nil ?_
    refine wpOp_step rfl (fun K hK => ?_)
    rw [if_pos (by rfl)]
    refine wpOm_st HM 59 (.tmp 5) (.tmp 27) rfl rfl 2 rfl (acC 0 5 0 0 0 (.slice none 0 0)) rfl rfl 7 inf59 rfl rfl (acC_one _ _ _ _ _ _ _ _) ?_
    intro V85 hM
    (try simp only [List.cons_append, List.nil_append, List.set_cons_succ, List.set_cons_zero, Nat.reduceAdd] at hM)
    replace HM := hM
    clear hM
    refine hK _ _ ⟨(fun y => ∃ q : CW [], y = q.1), ⟨⟨_, (alln _)⟩, rfl⟩, fun _ h => h, ?_⟩
    clear hK K
    (try simp only [Act.put, List.setIfInBounds_toArray, List.set_cons_succ, List.set_cons_zero])
    refine wpQuiet_nil ?_
    refine NoPanic.normal ?_
    go_wp2_with fail
    (try simp only [Exit.inBlock, Exit.then])
    refine bodyPost_ret (res_cc rfl _ _ _ _ _ _ rfl rfl ((HM.out.hb 1 _ _ _ rfl).load57) ((HM.out.hb 2 _ _ _ rfl).load59 rfl)) rfl ?_
    exact ⟨⟨_, _, _, rfl, ints0 _ _ _ _⟩, HM.out.bel⟩
  · refine wpOp_step rfl (fun K hK => ?_)
    go_simp
    refine (pin13d 0 5 _ (by omega) rfl).mono ?_
    rintro e V86 ⟨rfl, rfl⟩
    refine hK _ _ ⟨(fun y => ∃ q : CW [], y = q.1), ⟨⟨_, (alln _)⟩, rfl⟩, fun _ h => h, ?_⟩
    clear hK K
    (try simp only [Act.put, List.setIfInBounds_toArray, List.set_cons_succ, List.set_cons_zero])
    refine wpQuiet_nil ?_
    refine ⟨?_, ?_⟩
    · refine wpOp_step rfl (fun K hK => ?_)
      rw [if_pos (by rfl)]
      refine wpOm_ld HM 57 (.tmp 2) rfl 22 rfl 0 rfl rfl 98 und57 inf57 (Fr.size _) ?_
      refine hK _ _ ⟨(fun y => ∃ q : CW [], y = q.1), ⟨⟨_, (alln _)⟩, rfl⟩, fun _ h => h, ?_⟩
      clear hK K
      (try simp only [Act.put, List.setIfInBounds_toArray, List.set_cons_succ, List.set_cons_zero])
      refine wpQuiet_nil ?_
      refine wpOp_step rfl (fun K hK => ?_)
      go_simp
      refine (load13d 5 _).mono ?_
      rintro e V87 ⟨rfl, hb⟩
      replace HM := Lib.hid (HM.out.below hb)
      clear hb
      refine hK _ _ ⟨(fun y => ∃ q : CW [], y = q.1), ⟨⟨_, (alln _)⟩, rfl⟩, fun _ h => h, ?_⟩
      clear hK K
      (try simp only [Act.put, List.setIfInBounds_toArray, List.set_cons_succ, List.set_cons_zero])
      refine wpQuiet_nil ?_
      refine wpOp_step rfl (fun K hK => ?_)
      go_simp
      refine (step13d ((f.reg 0 x).reg 1 0) 2 0 5 0 0 none 0 0 _).mono ?_
      rintro e V88 ⟨rfl, hb⟩
      replace HM := Lib.hid (HM.out.below hb)
      clear hb
      refine hK _ _ ⟨(fun y => ∃ q : CW [], y = q.1), ⟨⟨_, (alln _)⟩, rfl⟩, fun _ h => h, ?_⟩
      clear hK K
      (try simp only [Act.put, List.setIfInBounds_toArray, List.set_cons_succ, List.set_cons_zero])
      repeat (go_big_quiet_step (fail))
      refine wpQuiet_nil ?_
      refine wpOp_step rfl (fun K hK => ?_)
      rw [if_pos (by rfl)]
      refine wpOm_st HM 57 (.tmp 4) (.tmp 26) rfl rfl 1 rfl (((f.reg 0 x).reg 1 0).at_ 2).cells rfl rfl 98 inf57 (Fr.size _) (Fr.size _) (Fr.one _) ?_
      intro V89 hM
      (try simp only [List.cons_append, List.nil_append, List.set_cons_succ, List.set_cons_zero, Nat.reduceAdd] at hM)
      replace HM := hM
      clear hM
      refine hK _ _ ⟨(fun y => ∃ q : CW [], y = q.1), ⟨⟨_, (alln _)⟩, rfl⟩, fun _ h => h, ?_⟩
      clear hK K
      (try simp only [Act.put, List.setIfInBounds_toArray, List.set_cons_succ, List.set_cons_zero])
      refine wpQuiet_nil ?_
      refine wpOp_step rfl (fun K hK => ?_)
      rw [if_pos (by rfl)]
      refine wpOm_st HM 59 (.tmp 5) (.tmp 27) rfl rfl 2 rfl (acC 0 5 0 0 0 (.slice none 0 0)) rfl rfl 7 inf59 rfl rfl (acC_one _ _ _ _ _ _ _ _) ?_
      intro V90 hM
      (try simp only [List.cons_append, List.nil_append, List.set_cons_succ, List.set_cons_zero, Nat.reduceAdd] at hM)
      replace HM := hM
      clear hM
      refine hK _ _ ⟨(fun y => ∃ q : CW [], y = q.1), ⟨⟨_, (alln _)⟩, rfl⟩, fun _ h => h, ?_⟩
      clear hK K
      (try simp only [Act.put, List.setIfInBounds_toArray, List.set_cons_succ, List.set_cons_zero])
      refine wpQuiet_nil ?_
      refine NoPanic.normal ?_
      go_wp2_with fail
      (try simp only [Exit.inBlock, Exit.then])
      refine bodyPost_ret (res_cc rfl _ _ _ _ _ _ rfl rfl ((HM.out.hb 1 _ _ _ rfl).load57) ((HM.out.hb 2 _ _ _ rfl).load59 rfl)) rfl ?_
      exact ⟨⟨_, _, _, rfl, ints0 _ _ _ _⟩, HM.out.bel⟩
    · refine wpOp_step rfl (fun K hK => ?_)
      go_simp
      refine (load13d 5 _).mono ?_
      rintro e V91 ⟨rfl, hb⟩
      replace HM := Lib.hid (HM.out.below hb)
      clear hb
      refine hK _ _ ⟨(fun y => ∃ q : CW [], y = q.1), ⟨⟨_, (alln _)⟩, rfl⟩, fun _ h => h, ?_⟩
      clear hK K
      (try simp only [Act.put, List.setIfInBounds_toArray, List.set_cons_succ, List.set_cons_zero])
      refine wpQuiet_nil ?_
      refine wpOp_step rfl (fun K hK => ?_)
      rw [if_pos (by rfl)]
      refine wpOm_ld HM 57 (.tmp 2) rfl 22 rfl 0 rfl rfl 98 und57 inf57 (Fr.size _) ?_
      refine hK _ _ ⟨(fun y => ∃ q : CW [], y = q.1), ⟨⟨_, (alln _)⟩, rfl⟩, fun _ h => h, ?_⟩
      clear hK K
      (try simp only [Act.put, List.setIfInBounds_toArray, List.set_cons_succ, List.set_cons_zero])
      refine wpQuiet_nil ?_
      refine wpOp_step rfl (fun K hK => ?_)
      go_simp
      refine (step13d ((f.reg 0 x).reg 1 0) 2 0 5 0 0 none 0 0 _).mono ?_
      rintro e V92 ⟨rfl, hb⟩
      replace HM := Lib.hid (HM.out.below hb)
      clear hb
      refine hK _ _ ⟨(fun y => ∃ q : CW [], y = q.1), ⟨⟨_, (alln _)⟩, rfl⟩, fun _ h => h, ?_⟩
      clear hK K
      (try simp only [Act.put, List.setIfInBounds_toArray, List.set_cons_succ, List.set_cons_zero])
      repeat (go_big_quiet_step (fail))
      refine wpQuiet_nil ?_
      refine wpOp_step rfl (fun K hK => ?_)
      rw [if_pos (by rfl)]
      refine wpOm_st HM 57 (.tmp 4) (.tmp 26) rfl rfl 1 rfl (((f.reg 0 x).reg 1 0).at_ 2).cells rfl rfl 98 inf57 (Fr.size _) (Fr.size _) (Fr.one _) ?_
      intro V93 hM
      (try simp only [List.cons_append, List.nil_append, List.set_cons_succ, List.set_cons_zero, Nat.reduceAdd] at hM)
      replace HM := hM
      clear hM
      refine hK _ _ ⟨(fun y => ∃ q : CW [], y = q.1), ⟨⟨_, (alln _)⟩, rfl⟩, fun _ h => h, ?_⟩
      clear hK K
      (try simp only [Act.put, List.setIfInBounds_toArray, List.set_cons_succ, List.set_cons_zero])
      refine wpQuiet_nil ?_
      refine wpOp_step rfl (fun K hK => ?_)
      rw [if_pos (by rfl)]
      refine wpOm_st HM 59 (.tmp 5) (.tmp 27) rfl rfl 2 rfl (acC 0 5 0 0 0 (.slice none 0 0)) rfl rfl 7 inf59 rfl rfl (acC_one _ _ _ _ _ _ _ _) ?_
      intro V94 hM
      (try simp only [List.cons_append, List.nil_append, List.set_cons_succ, List.set_cons_zero, Nat.reduceAdd] at hM)
      replace HM := hM
      clear hM
      refine hK _ _ ⟨(fun y => ∃ q : CW [], y = q.1), ⟨⟨_, (alln _)⟩, rfl⟩, fun _ h => h, ?_⟩
      clear hK K
      (try simp only [Act.put, List.setIfInBounds_toArray, List.set_cons_succ, List.set_cons_zero])
      refine wpQuiet_nil ?_
      refine NoPanic.normal ?_
      go_wp2_with fail
      (try simp only [Exit.inBlock, Exit.then])
      refine bodyPost_ret (res_cc rfl _ _ _ _ _ _ rfl rfl ((HM.out.hb 1 _ _ _ rfl).load57) ((HM.out.hb 2 _ _ _ rfl).load59 rfl)) rfl ?_
      exact ⟨⟨_, _, _, rfl, ints0 _ _ _ _⟩, HM.out.bel⟩
set_option maxHeartbeats 2000000 in
set_option maxRecDepth 100000 in
theorem dad2e (f : Fr) (x : Int) (w : World) (hs : f.st = 2) (e0 : Int) (he : f.r 0 = e0) (he9 : 0 ≤ e0 ∧ e0 ≤ 1000000) (h0 : x ≠ 0) (h1 : x ≠ e0 + 1) : Calls Try.prog 84 #[.agg f.cells, .int .i64 x] w fun e w' => AnsB w w' e f 7 0 0 0 [0] ∧ Below w.heap.size w w' := by
  have HM := Lib.hid (Mem.start w)
  have HS := Lib.hid (by rw [← hs]; exact f.c1 : f.cells[1]? = some (.int .i64 2))
  have HR0 := Lib.hid (by rw [← he]; exact Fr.cr (f) 0 (by omega) : (f).cells[2]? = some (.int .i64 e0))
  obtain ⟨e1, e2⟩ := he9
  have ew : IntKind.i64.wrap (e0 + 1) = e0 + 1 := wrap_small (by omega) (by omega)
  have x0 : (x != 0) = true := by simpa using h0
  have x1 : (x != e0 + 1) = true := by simpa using h1
  clear he h0 h1
  clear hs
  go_enter Try.func84, Try.ntmps84
  go_wp2_with (first
    | (refine wpm_box HM rfl 57 (.tmp 0) rfl _ rfl ?_; intro W hM; (try simp only [List.cons_append, List.nil_append, List.set_cons_succ, List.set_cons_zero, Nat.reduceAdd] at hM); replace HM := hM; clear hM)
    | (refine wpm_al57 HM rfl rfl ?_; intro W2 hM; (try simp only [List.cons_append, List.nil_append, List.set_cons_succ, List.set_cons_zero, Nat.reduceAdd] at hM); replace HM := hM; clear hM)
    | (refine wpm_al59 HM rfl rfl ?_; intro W3 hM; (try simp only [List.cons_append, List.nil_append, List.set_cons_succ, List.set_cons_zero, Nat.reduceAdd] at hM); replace HM := hM; clear hM; have ks : W3.cell? ⟨w.heap.size, 1, none⟩ = some (.int .i64 2) := (HM.out.hb 0 _ _ _ rfl).cell (k := 1) HS.out; have kr : W3.cell? ⟨w.heap.size, 2, none⟩ = some (.int .i64 e0) := (HM.out.hb 0 _ _ _ rfl).cell (k := 2) HR0.out)
    | (refine wpm_ld57 HM rfl (.tmp 2) rfl 0 rfl rfl ?_)
    | (refine wpm_bsI1 HM rfl (.const (.int .i64 0)) rfl 0 rfl ?_; intro W5 hM; (try simp only [List.cons_append, List.nil_append, List.set_cons_succ, List.set_cons_zero, Nat.reduceAdd] at hM); replace HM := hM; clear hM))
  refine (end13d f _ 1 1 _).mono ?_
  rintro e W6 ⟨rfl, hb⟩
  replace HM := Lib.hid (HM.out.below hb)
  clear hb
  (try clear ks)
  (try clear kr)
  go_wp2_with (first
    | (refine wpm_st57 HM rfl (.tmp 4) (.tmp 43) rfl 1 rfl f rfl rfl ?_; intro W hM; (try simp only [List.cons_append, List.nil_append, List.set_cons_succ, List.set_cons_zero, Nat.reduceAdd] at hM); replace HM := hM; clear hM)
    | (refine wpm_st59 HM rfl (.tmp 5) (.tmp 44) rfl 2 rfl rfl 7 0 0 0 0 _ 1 1 rfl rfl ?_; intro W hM; (try simp only [List.cons_append, List.nil_append, List.set_cons_succ, List.set_cons_zero, Nat.reduceAdd] at hM); replace HM := hM; clear hM))
  (try simp only [Exit.inBlock, Exit.then])
  refine bodyPost_ret (res_cc rfl _ _ _ _ _ _ rfl rfl ((HM.out.hb 1 _ _ _ rfl).load57) ((HM.out.hb 2 _ _ _ rfl).load59 rfl)) rfl ?_
  exact ⟨⟨_, _, _, rfl, ints_one0 HM.out (i := 3) rfl⟩, HM.out.bel⟩
set_option maxHeartbeats 2000000 in
set_option maxRecDepth 100000 in
theorem dad3 (f : Fr) (x : Int) (w : World) (hs : f.st = 3) : Calls Try.prog 84 #[.agg f.cells, .int .i64 x] w fun e w' => AnsB w w' e f 7 0 0 0 [x] ∧ Below w.heap.size w w' := by
  have HM := Lib.hid (Mem.start w)
  have HS := Lib.hid (by rw [← hs]; exact f.c1 : f.cells[1]? = some (.int .i64 3))
  clear hs
  go_enter Try.func84, Try.ntmps84
  go_wp2_with (first
    | (refine wpm_box HM rfl 57 (.tmp 0) rfl _ rfl ?_; intro W hM; (try simp only [List.cons_append, List.nil_append, List.set_cons_succ, List.set_cons_zero, Nat.reduceAdd] at hM); replace HM := hM; clear hM)
    | (refine wpm_al57 HM rfl rfl ?_; intro W2 hM; (try simp only [List.cons_append, List.nil_append, List.set_cons_succ, List.set_cons_zero, Nat.reduceAdd] at hM); replace HM := hM; clear hM)
    | (refine wpm_al59 HM rfl rfl ?_; intro W3 hM; (try simp only [List.cons_append, List.nil_append, List.set_cons_succ, List.set_cons_zero, Nat.reduceAdd] at hM); replace HM := hM; clear hM; have ks : W3.cell? ⟨w.heap.size, 1, none⟩ = some (.int .i64 3) := (HM.out.hb 0 _ _ _ rfl).cell (k := 1) HS.out)
    | (refine wpm_ld57 HM rfl (.tmp 2) rfl 0 rfl rfl ?_)
    | (refine wpm_bsI1 HM rfl (.tmp 79) rfl x rfl ?_; intro W5 hM; (try simp only [List.cons_append, List.nil_append, List.set_cons_succ, List.set_cons_zero, Nat.reduceAdd] at hM); replace HM := hM; clear hM))
  refine (end13d f _ 1 1 _).mono ?_
  rintro e W6 ⟨rfl, hb⟩
  replace HM := Lib.hid (HM.out.below hb)
  clear hb
  (try clear ks)
  (try clear kr)
  go_wp2_with (first
    | (refine wpm_st57 HM rfl (.tmp 4) (.tmp 82) rfl 1 rfl f rfl rfl ?_; intro W hM; (try simp only [List.cons_append, List.nil_append, List.set_cons_succ, List.set_cons_zero, Nat.reduceAdd] at hM); replace HM := hM; clear hM)
    | (refine wpm_st59 HM rfl (.tmp 5) (.tmp 83) rfl 2 rfl rfl 7 0 0 0 0 _ 1 1 rfl rfl ?_; intro W hM; (try simp only [List.cons_append, List.nil_append, List.set_cons_succ, List.set_cons_zero, Nat.reduceAdd] at hM); replace HM := hM; clear hM))
  (try simp only [Exit.inBlock, Exit.then])
  refine bodyPost_ret (res_cc rfl _ _ _ _ _ _ rfl rfl ((HM.out.hb 1 _ _ _ rfl).load57) ((HM.out.hb 2 _ _ _ rfl).load59 rfl)) rfl ?_
  exact ⟨⟨_, _, _, rfl, ints_one0 HM.out (i := 3) rfl⟩, HM.out.bel⟩
end Go.Proofs.Ytgpdknacnmapiaa
