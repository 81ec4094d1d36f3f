/-
  Parts of a proof, put together: Fb.
-/
import Derived.Test.YtgpdknacnmapiaaZh01
import Derived.Test.YtgpdknacnmapiaaZh02
import Derived.Test.YtgpdknacnmapiaaZh03
import Derived.Test.YtgpdknacnmapiaaZh04
import Derived.Test.YtgpdknacnmapiaaZh05
import Derived.Test.YtgpdknacnmapiaaZh06
import Derived.Test.YtgpdknacnmapiaaZh07
import Derived.Test.YtgpdknacnmapiaaZh08
import Derived.Test.YtgpdknacnmapiaaZh09
import Derived.Test.YtgpdknacnmapiaaZh10
import Derived.Test.YtgpdknacnmapiaaZh11
import Derived.Test.YtgpdknacnmapiaaZh12
import Derived.Test.YtgpdknacnmapiaaZh13
import Derived.Test.YtgpdknacnmapiaaZh14
import Derived.Test.YtgpdknacnmapiaaZh15
import Derived.Test.YtgpdknacnmapiaaZh16
import Derived.Test.YtgpdknacnmapiaaZh17
import Derived.Test.YtgpdknacnmapiaaZh23
import Derived.Deep.QuietTactic
namespace Go.Proofs.Ytgpdknacnmapiaa
set_option linter.unusedVariables false
set_option linter.unusedSimpArgs false
open Go.RowKit
set_option maxHeartbeats 2000000 in
set_option maxRecDepth 100000 in
theorem dpin0 (f : Fr) (x : Int) (w : World) (hs : f.st = 0) : Calls Try.prog 81 #[.agg f.cells, .int .i64 x] w fun e w' => AnsB w w' e (f.at_ 1) 0 2 0 0 [] ∧ Below w.heap.size w w' := by
  have HM := Lib.hid (Mem.start w)
  have HS := Lib.hid (by rw [← hs]; exact f.c1 : f.cells[1]? = some (.int .i64 0))
  clear hs
  go_enter Try.func81, Try.ntmps81
  go_wp2_with (first
    | (refine wpm_box HM rfl 57 (.tmp 0) rfl _ rfl ?_; intro W hM; (try simp only [List.cons_append, List.nil_append, List.set_cons_succ, List.set_cons_zero, Nat.reduceAdd] at hM); replace HM := hM; clear hM)
    | (refine wpm_al57 HM rfl rfl ?_; intro W2 hM; (try simp only [List.cons_append, List.nil_append, List.set_cons_succ, List.set_cons_zero, Nat.reduceAdd] at hM); replace HM := hM; clear hM)
    | (refine wpm_al59 HM rfl rfl ?_; intro W3 hM; (try simp only [List.cons_append, List.nil_append, List.set_cons_succ, List.set_cons_zero, Nat.reduceAdd] at hM); replace HM := hM; clear hM; have ks : W3.cell? ⟨w.heap.size, 1, none⟩ = some (.int .i64 0) := (HM.out.hb 0 _ _ _ rfl).cell (k := 1) HS.out))
  clear ks
  replace HM := Lib.hid HM.out.drew
  have HF : Hid (∀ p ∈ ([] : List (Addr × Value)), World.cell? W3.drew p.1 = some p.2) := Lib.hid (alln _)
  haveI : Inhabited (CW []) := ⟨⟨_, HF.out⟩⟩
  (try simp only [Act.put, List.setIfInBounds_toArray, List.set_cons_succ, List.set_cons_zero])
  refine wp_region_noPanic ?_
  refine wp_region_plw (.step [] (.cons 0 (.step [] (.cons 1 (.step [] (.cons 2 (.step [false, false, false, true, true] (.cons 5 (.step [] (.cons 6 (.last []) .nil)) .nil)) .nil)) .nil)) (.cons 1 (.step [] (.cons 0 (.step [] (.cons 2 (.step [false, false, false, true, true] (.cons 5 (.step [] (.cons 6 (.last []) .nil)) .nil)) .nil)) .nil)) .nil))) (fun y => ∃ q : CW [], y = q.1) (by kernel_rfl) (by kernel_rfl) (by kernel_rfl) (fun _ _ _ _ _ _ _ h => h) ⟨⟨_, HF.out⟩, rfl⟩ ?_
  simp only [wpPw, wpBw, selF, and_true]
  generalize W3.drew = V8 at *
  refine wpQuiet_nil ?_
  refine ⟨?_, ?_⟩
  · refine wpOp_step rfl (fun K hK => ?_)
    rw [if_pos (by rfl)]
    refine wpOm_ld HM 57 (.tmp 2) rfl 10 rfl 0 rfl rfl 98 und57 inf57 (Fr.size _) ?_
    refine hK _ _ ⟨(fun y => ∃ q : CW [], y = q.1), ⟨⟨_, (alln _)⟩, rfl⟩, fun _ h => h, ?_⟩
    clear hK K
    (try simp only [Act.put, List.setIfInBounds_toArray, List.set_cons_succ, List.set_cons_zero])
    refine wpQuiet_nil ?_
    refine wpOp_step rfl (fun K hK => ?_)
    go_simp
    refine (load13d 2 _).mono ?_
    rintro e V9 ⟨rfl, hb⟩
    replace HM := Lib.hid (HM.out.below hb)
    clear hb
    refine hK _ _ ⟨(fun y => ∃ q : CW [], y = q.1), ⟨⟨_, (alln _)⟩, rfl⟩, fun _ h => h, ?_⟩
    clear hK K
    (try simp only [Act.put, List.setIfInBounds_toArray, List.set_cons_succ, List.set_cons_zero])
    refine wpQuiet_nil ?_
    refine wpOp_step rfl (fun K hK => ?_)
    go_simp
    refine (step13d f 1 0 2 0 0 none 0 0 _).mono ?_
    rintro e V10 ⟨rfl, hb⟩
    replace HM := Lib.hid (HM.out.below hb)
    clear hb
    refine hK _ _ ⟨(fun y => ∃ q : CW [], y = q.1), ⟨⟨_, (alln _)⟩, rfl⟩, fun _ h => h, ?_⟩
    clear hK K
    (try simp only [Act.put, List.setIfInBounds_toArray, List.set_cons_succ, List.set_cons_zero])
    repeat (go_big_quiet_step (fail))
    refine wpQuiet_nil ?_
    refine wpOp_step rfl (fun K hK => ?_)
    rw [if_pos (by rfl)]
    refine wpOm_st HM 57 (.tmp 4) (.tmp 13) rfl rfl 1 rfl (f.at_ 1).cells rfl rfl 98 inf57 (Fr.size _) (Fr.size _) (Fr.one _) ?_
    intro V11 hM
    (try simp only [List.cons_append, List.nil_append, List.set_cons_succ, List.set_cons_zero, Nat.reduceAdd] at hM)
    replace HM := hM
    clear hM
    refine hK _ _ ⟨(fun y => ∃ q : CW [], y = q.1), ⟨⟨_, (alln _)⟩, rfl⟩, fun _ h => h, ?_⟩
    clear hK K
    (try simp only [Act.put, List.setIfInBounds_toArray, List.set_cons_succ, List.set_cons_zero])
    refine wpQuiet_nil ?_
    refine wpOp_step rfl (fun K hK => ?_)
    rw [if_pos (by rfl)]
    refine wpOm_st HM 59 (.tmp 5) (.tmp 14) rfl rfl 2 rfl (acC 0 2 0 0 0 (.slice none 0 0)) rfl rfl 7 inf59 rfl rfl (acC_one _ _ _ _ _ _ _ _) ?_
    intro V12 hM
    (try simp only [List.cons_append, List.nil_append, List.set_cons_succ, List.set_cons_zero, Nat.reduceAdd] at hM)
    replace HM := hM
    clear hM
    refine hK _ _ ⟨(fun y => ∃ q : CW [], y = q.1), ⟨⟨_, (alln _)⟩, rfl⟩, fun _ h => h, ?_⟩
    clear hK K
    (try simp only [Act.put, List.setIfInBounds_toArray, List.set_cons_succ, List.set_cons_zero])
    refine wpQuiet_nil ?_
    refine NoPanic.normal ?_
    go_wp2_with fail
    (try simp only [Exit.inBlock, Exit.then])
    refine bodyPost_ret (res_cc rfl _ _ _ _ _ _ rfl rfl ((HM.out.hb 1 _ _ _ rfl).load57) ((HM.out.hb 2 _ _ _ rfl).load59 rfl)) rfl ?_
    exact ⟨⟨_, _, _, rfl, ints0 _ _ _ _⟩, HM.out.bel⟩
  · refine wpOp_step rfl (fun K hK => ?_)
    go_simp
    refine (load13d 2 _).mono ?_
    rintro e V13 ⟨rfl, hb⟩
    replace HM := Lib.hid (HM.out.below hb)
    clear hb
    refine hK _ _ ⟨(fun y => ∃ q : CW [], y = q.1), ⟨⟨_, (alln _)⟩, rfl⟩, fun _ h => h, ?_⟩
    clear hK K
    (try simp only [Act.put, List.setIfInBounds_toArray, List.set_cons_succ, List.set_cons_zero])
    refine wpQuiet_nil ?_
    refine wpOp_step rfl (fun K hK => ?_)
    rw [if_pos (by rfl)]
    refine wpOm_ld HM 57 (.tmp 2) rfl 10 rfl 0 rfl rfl 98 und57 inf57 (Fr.size _) ?_
    refine hK _ _ ⟨(fun y => ∃ q : CW [], y = q.1), ⟨⟨_, (alln _)⟩, rfl⟩, fun _ h => h, ?_⟩
    clear hK K
    (try simp only [Act.put, List.setIfInBounds_toArray, List.set_cons_succ, List.set_cons_zero])
    refine wpQuiet_nil ?_
    refine wpOp_step rfl (fun K hK => ?_)
    go_simp
    refine (step13d f 1 0 2 0 0 none 0 0 _).mono ?_
    rintro e V14 ⟨rfl, hb⟩
    replace HM := Lib.hid (HM.out.below hb)
    clear hb
    refine hK _ _ ⟨(fun y => ∃ q : CW [], y = q.1), ⟨⟨_, (alln _)⟩, rfl⟩, fun _ h => h, ?_⟩
    clear hK K
    (try simp only [Act.put, List.setIfInBounds_toArray, List.set_cons_succ, List.set_cons_zero])
    repeat (go_big_quiet_step (fail))
    refine wpQuiet_nil ?_
    refine wpOp_step rfl (fun K hK => ?_)
    rw [if_pos (by rfl)]
    refine wpOm_st HM 57 (.tmp 4) (.tmp 13) rfl rfl 1 rfl (f.at_ 1).cells rfl rfl 98 inf57 (Fr.size _) (Fr.size _) (Fr.one _) ?_
    intro V15 hM
    (try simp only [List.cons_append, List.nil_append, List.set_cons_succ, List.set_cons_zero, Nat.reduceAdd] at hM)
    replace HM := hM
    clear hM
    refine hK _ _ ⟨(fun y => ∃ q : CW [], y = q.1), ⟨⟨_, (alln _)⟩, rfl⟩, fun _ h => h, ?_⟩
    clear hK K
    (try simp only [Act.put, List.setIfInBounds_toArray, List.set_cons_succ, List.set_cons_zero])
    refine wpQuiet_nil ?_
    refine wpOp_step rfl (fun K hK => ?_)
    rw [if_pos (by rfl)]
    refine wpOm_st HM 59 (.tmp 5) (.tmp 14) rfl rfl 2 rfl (acC 0 2 0 0 0 (.slice none 0 0)) rfl rfl 7 inf59 rfl rfl (acC_one _ _ _ _ _ _ _ _) ?_
    intro V16 hM
    (try simp only [List.cons_append, List.nil_append, List.set_cons_succ, List.set_cons_zero, Nat.reduceAdd] at hM)
    replace HM := hM
    clear hM
    refine hK _ _ ⟨(fun y => ∃ q : CW [], y = q.1), ⟨⟨_, (alln _)⟩, rfl⟩, fun _ h => h, ?_⟩
    clear hK K
    (try simp only [Act.put, List.setIfInBounds_toArray, List.set_cons_succ, List.set_cons_zero])
    refine wpQuiet_nil ?_
    refine NoPanic.normal ?_
    go_wp2_with fail
    (try simp only [Exit.inBlock, Exit.then])
    refine bodyPost_ret (res_cc rfl _ _ _ _ _ _ rfl rfl ((HM.out.hb 1 _ _ _ rfl).load57) ((HM.out.hb 2 _ _ _ rfl).load59 rfl)) rfl ?_
    exact ⟨⟨_, _, _, rfl, ints0 _ _ _ _⟩, HM.out.bel⟩
set_option maxHeartbeats 2000000 in
set_option maxRecDepth 100000 in
theorem dpin1 (f : Fr) (x : Int) (w : World) (hs : f.st = 1) (c0 : Int) (hc0 : f.r 0 = c0) (h4 : 0 ≤ c0 ∧ c0 < 4) (hx : 0 ≤ x ∧ x ≤ 1000000) : Calls Try.prog 81 #[.agg f.cells, .int .i64 x] w fun e w' => AnsB w w' e ((f.reg 1 x).at_ 2) 1 (5 + c0) 0 (x + 1) [] ∧ Below w.heap.size w w' := by
  have HM := Lib.hid (Mem.start w)
  have HS := Lib.hid (by rw [← hs]; exact f.c1 : f.cells[1]? = some (.int .i64 1))
  have HR0 := Lib.hid (by rw [← hc0]; exact Fr.cr (f.reg 1 x) 0 (by omega) : (f.reg 1 x).cells[2]? = some (.int .i64 c0))
  have H4 := Lib.hid h4
  obtain ⟨hx1, hx2⟩ := hx
  clear hc0 h4
  clear hs
  go_enter Try.func81, Try.ntmps81
  go_wp2_with (first
    | (refine wpm_box HM rfl 57 (.tmp 0) rfl _ rfl ?_; intro W hM; (try simp only [List.cons_append, List.nil_append, List.set_cons_succ, List.set_cons_zero, Nat.reduceAdd] at hM); replace HM := hM; clear hM)
    | (refine wpm_al57 HM rfl rfl ?_; intro W2 hM; (try simp only [List.cons_append, List.nil_append, List.set_cons_succ, List.set_cons_zero, Nat.reduceAdd] at hM); replace HM := hM; clear hM)
    | (refine wpm_al59 HM rfl rfl ?_; intro W3 hM; (try simp only [List.cons_append, List.nil_append, List.set_cons_succ, List.set_cons_zero, Nat.reduceAdd] at hM); replace HM := hM; clear hM; have ks : W3.cell? ⟨w.heap.size, 1, none⟩ = some (.int .i64 1) := (HM.out.hb 0 _ _ _ rfl).cell (k := 1) HS.out)
    | (refine wpm_cell HM rfl 3 (.tmp 19) (.tmp 17) rfl Try.sizeOf3 0 3 rfl (.int .i64 x) rfl rfl (.inl ⟨_, _, rfl⟩) (by rw [Fr.size]; omega) (f.reg 1 x).cells (Fr.setr f 1 (by omega) x) ?_; intro W4 hM; (try simp only [List.cons_append, List.nil_append, List.set_cons_succ, List.set_cons_zero, Nat.reduceAdd] at hM); replace HM := hM; clear hM))
  clear ks
  (try clear kr)
  replace HM := Lib.hid HM.out.drew
  have HF : Hid (∀ p ∈ ([(⟨w.heap.size, 2, none⟩, .int .i64 c0)] : List (Addr × Value)), World.cell? W4.drew p.1 = some p.2) := Lib.hid (allc ((HM.out.hb 0 _ _ _ rfl).cell (k := 2) HR0.out) (alln _))
  haveI : Inhabited (CW [(⟨w.heap.size, 2, none⟩, .int .i64 c0)]) := ⟨⟨_, HF.out⟩⟩
  have f0 : ∀ q : CW [(⟨w.heap.size, 2, none⟩, .int .i64 c0)], q.1.cell? ⟨w.heap.size, 2, none⟩ = some (.int .i64 c0) := fun q => q.2 (⟨w.heap.size, 2, none⟩, .int .i64 c0) (by simp)
  (try simp only [Act.put, List.setIfInBounds_toArray, List.set_cons_succ, List.set_cons_zero])
  refine wp_region_noPanic ?_
  refine wp_region_plw (.step [false, true, true, true, false, true, true] (.cons 0 (.step [] (.cons 4 (.step [] (.cons 7 (.step [] (.cons 8 (.step [false, false, false, false, false, false, false, false, false, true, true] (.cons 11 (.step [] (.cons 12 (.last []) .nil)) .nil)) .nil)) .nil)) .nil)) (.cons 4 (.step [] (.cons 0 (.step [] (.cons 7 (.step [] (.cons 8 (.step [false, false, false, false, false, false, false, false, false, true, true] (.cons 11 (.step [] (.cons 12 (.last []) .nil)) .nil)) .nil)) .nil)) (.cons 7 (.step [] (.cons 0 (.step [] (.cons 8 (.step [false, false, false, false, false, false, false, false, false, true, true] (.cons 11 (.step [] (.cons 12 (.last []) .nil)) .nil)) .nil)) .nil)) .nil))) .nil))) (fun y => ∃ q : CW [(⟨w.heap.size, 2, none⟩, .int .i64 c0)], y = q.1) (by kernel_rfl) (by kernel_rfl) (by kernel_rfl) (fun _ _ _ _ _ _ _ h => h) ⟨⟨_, HF.out⟩, rfl⟩ ?_
  simp only [wpPw, wpBw, selF, and_true]
  generalize W4.drew = V17 at *
  repeat (go_big_quiet_step (fail))
  refine wpQuiet_nil ?_
  refine ⟨?_, ?_⟩
  · refine wpOp_step rfl (fun K hK => ?_)
    rw [if_pos (by rfl)]
    refine wpOm_ld HM 57 (.tmp 2) rfl 20 rfl 0 rfl rfl 98 und57 inf57 (Fr.size _) ?_
    refine hK _ _ ⟨(fun y => ∃ q : CW [(⟨w.heap.size, 2, none⟩, .int .i64 c0)], y = q.1), ⟨⟨_, (allc ((HM.out.hb 0 _ _ _ rfl).cell (k := 2) HR0.out) (alln _))⟩, rfl⟩, fun _ h => h, ?_⟩
    clear hK K
    (try simp only [Act.put, List.setIfInBounds_toArray, List.set_cons_succ, List.set_cons_zero])
    refine wpQuiet_nil ?_
    refine wpOp_step rfl (fun K hK => ?_)
    go_simp
    refine (pin13d c0 _ _ H4.out rfl).mono ?_
    rintro e V18 ⟨rfl, rfl⟩
    refine hK _ _ ⟨(fun y => ∃ q : CW [(⟨w.heap.size, 2, none⟩, .int .i64 c0)], y = q.1), ⟨⟨_, (allc ((HM.out.hb 0 _ _ _ rfl).cell (k := 2) HR0.out) (alln _))⟩, rfl⟩, fun _ h => h, ?_⟩
    clear hK K
    (try simp only [Act.put, List.setIfInBounds_toArray, List.set_cons_succ, List.set_cons_zero])
    refine wpQuiet_nil ?_
    refine wpOp_step rfl (fun K hK => ?_)
    go_simp
    refine (store13d (5 + c0) (x + 1) _).mono ?_
    rintro e V19 ⟨rfl, hb⟩
    replace HM := Lib.hid (HM.out.below hb)
    clear hb
    refine hK _ _ ⟨(fun y => ∃ q : CW [(⟨w.heap.size, 2, none⟩, .int .i64 c0)], y = q.1), ⟨⟨_, (allc ((HM.out.hb 0 _ _ _ rfl).cell (k := 2) HR0.out) (alln _))⟩, rfl⟩, fun _ h => h, ?_⟩
    clear hK K
    (try simp only [Act.put, List.setIfInBounds_toArray, List.set_cons_succ, List.set_cons_zero])
    refine wpQuiet_nil ?_
    refine wpOp_step rfl (fun K hK => ?_)
    go_simp
    refine (step13d (f.reg 1 x) 2 1 (5 + c0) 0 (x + 1) none 0 0 _).mono ?_
    rintro e V20 ⟨rfl, hb⟩
    replace HM := Lib.hid (HM.out.below hb)
    clear hb
    refine hK _ _ ⟨(fun y => ∃ q : CW [(⟨w.heap.size, 2, none⟩, .int .i64 c0)], y = q.1), ⟨⟨_, (allc ((HM.out.hb 0 _ _ _ rfl).cell (k := 2) HR0.out) (alln _))⟩, rfl⟩, fun _ h => h, ?_⟩
    clear hK K
    (try simp only [Act.put, List.setIfInBounds_toArray, List.set_cons_succ, List.set_cons_zero])
    repeat (go_big_quiet_step (fail))
    refine wpQuiet_nil ?_
    refine wpOp_step rfl (fun K hK => ?_)
    rw [if_pos (by rfl)]
    refine wpOm_st HM 57 (.tmp 4) (.tmp 29) rfl rfl 1 rfl ((f.reg 1 x).at_ 2).cells rfl rfl 98 inf57 (Fr.size _) (Fr.size _) (Fr.one _) ?_
    intro V21 hM
    (try simp only [List.cons_append, List.nil_append, List.set_cons_succ, List.set_cons_zero, Nat.reduceAdd] at hM)
    replace HM := hM
    clear hM
    refine hK _ _ ⟨(fun y => ∃ q : CW [(⟨w.heap.size, 2, none⟩, .int .i64 c0)], y = q.1), ⟨⟨_, (allc ((HM.out.hb 0 _ _ _ rfl).cell (k := 2) HR0.out) (alln _))⟩, rfl⟩, fun _ h => h, ?_⟩
    clear hK K
    (try simp only [Act.put, List.setIfInBounds_toArray, List.set_cons_succ, List.set_cons_zero])
    refine wpQuiet_nil ?_
    refine wpOp_step rfl (fun K hK => ?_)
    rw [if_pos (by rfl)]
    refine wpOm_st HM 59 (.tmp 5) (.tmp 30) rfl rfl 2 rfl (acC 1 (5 + c0) 0 (x + 1) 0 (.slice none 0 0)) rfl rfl 7 inf59 rfl rfl (acC_one _ _ _ _ _ _ _ _) ?_
    intro V22 hM
    (try simp only [List.cons_append, List.nil_append, List.set_cons_succ, List.set_cons_zero, Nat.reduceAdd] at hM)
    replace HM := hM
    clear hM
    refine hK _ _ ⟨(fun y => ∃ q : CW [(⟨w.heap.size, 2, none⟩, .int .i64 c0)], y = q.1), ⟨⟨_, (allc ((HM.out.hb 0 _ _ _ rfl).cell (k := 2) HR0.out) (alln _))⟩, rfl⟩, fun _ h => h, ?_⟩
    clear hK K
    (try simp only [Act.put, List.setIfInBounds_toArray, List.set_cons_succ, List.set_cons_zero])
    refine wpQuiet_nil ?_
    refine NoPanic.normal ?_
    go_wp2_with fail
    (try simp only [Exit.inBlock, Exit.then])
    refine bodyPost_ret (res_cc rfl _ _ _ _ _ _ rfl rfl ((HM.out.hb 1 _ _ _ rfl).load57) ((HM.out.hb 2 _ _ _ rfl).load59 rfl)) rfl ?_
    exact ⟨⟨_, _, _, rfl, ints0 _ _ _ _⟩, HM.out.bel⟩
  · refine wpOp_step rfl (fun K hK => ?_)
    go_simp
    refine (pin13d c0 _ _ H4.out rfl).mono ?_
    rintro e V23 ⟨rfl, rfl⟩
    refine hK _ _ ⟨(fun y => ∃ q : CW [(⟨w.heap.size, 2, none⟩, .int .i64 c0)], y = q.1), ⟨⟨_, (allc ((HM.out.hb 0 _ _ _ rfl).cell (k := 2) HR0.out) (alln _))⟩, rfl⟩, fun _ h => h, ?_⟩
    clear hK K
    (try simp only [Act.put, List.setIfInBounds_toArray, List.set_cons_succ, List.set_cons_zero])
    refine wpQuiet_nil ?_
    refine ⟨?_, ?_⟩
    · refine wpOp_step rfl (fun K hK => ?_)
      rw [if_pos (by rfl)]
      refine wpOm_ld HM 57 (.tmp 2) rfl 20 rfl 0 rfl rfl 98 und57 inf57 (Fr.size _) ?_
      refine hK _ _ ⟨(fun y => ∃ q : CW [(⟨w.heap.size, 2, none⟩, .int .i64 c0)], y = q.1), ⟨⟨_, (allc ((HM.out.hb 0 _ _ _ rfl).cell (k := 2) HR0.out) (alln _))⟩, rfl⟩, fun _ h => h, ?_⟩
      clear hK K
      (try simp only [Act.put, List.setIfInBounds_toArray, List.set_cons_succ, List.set_cons_zero])
      refine wpQuiet_nil ?_
      refine wpOp_step rfl (fun K hK => ?_)
      go_simp
      refine (store13d (5 + c0) (x + 1) _).mono ?_
      rintro e V24 ⟨rfl, hb⟩
      replace HM := Lib.hid (HM.out.below hb)
      clear hb
      refine hK _ _ ⟨(fun y => ∃ q : CW [(⟨w.heap.size, 2, none⟩, .int .i64 c0)], y = q.1), ⟨⟨_, (allc ((HM.out.hb 0 _ _ _ rfl).cell (k := 2) HR0.out) (alln _))⟩, rfl⟩, fun _ h => h, ?_⟩
      clear hK K
      (try simp only [Act.put, List.setIfInBounds_toArray, List.set_cons_succ, List.set_cons_zero])
      refine wpQuiet_nil ?_
      refine wpOp_step rfl (fun K hK => ?_)
      go_simp
      refine (step13d (f.reg 1 x) 2 1 (5 + c0) 0 (x + 1) none 0 0 _).mono ?_
      rintro e V25 ⟨rfl, hb⟩
      replace HM := Lib.hid (HM.out.below hb)
      clear hb
      refine hK _ _ ⟨(fun y => ∃ q : CW [(⟨w.heap.size, 2, none⟩, .int .i64 c0)], y = q.1), ⟨⟨_, (allc ((HM.out.hb 0 _ _ _ rfl).cell (k := 2) HR0.out) (alln _))⟩, rfl⟩, fun _ h => h, ?_⟩
      clear hK K
      (try simp only [Act.put, List.setIfInBounds_toArray, List.set_cons_succ, List.set_cons_zero])
      repeat (go_big_quiet_step (fail))
      refine wpQuiet_nil ?_
      refine wpOp_step rfl (fun K hK => ?_)
      rw [if_pos (by rfl)]
      refine wpOm_st HM 57 (.tmp 4) (.tmp 29) rfl rfl 1 rfl ((f.reg 1 x).at_ 2).cells rfl rfl 98 inf57 (Fr.size _) (Fr.size _) (Fr.one _) ?_
      intro V26 hM
      (try simp only [List.cons_append, List.nil_append, List.set_cons_succ, List.set_cons_zero, Nat.reduceAdd] at hM)
      replace HM := hM
      clear hM
      refine hK _ _ ⟨(fun y => ∃ q : CW [(⟨w.heap.size, 2, none⟩, .int .i64 c0)], y = q.1), ⟨⟨_, (allc ((HM.out.hb 0 _ _ _ rfl).cell (k := 2) HR0.out) (alln _))⟩, rfl⟩, fun _ h => h, ?_⟩
      clear hK K
      (try simp only [Act.put, List.setIfInBounds_toArray, List.set_cons_succ, List.set_cons_zero])
      refine wpQuiet_nil ?_
      refine wpOp_step rfl (fun K hK => ?_)
      rw [if_pos (by rfl)]
      refine wpOm_st HM 59 (.tmp 5) (.tmp 30) rfl rfl 2 rfl (acC 1 (5 + c0) 0 (x + 1) 0 (.slice none 0 0)) rfl rfl 7 inf59 rfl rfl (acC_one _ _ _ _ _ _ _ _) ?_
      intro V27 hM
      (try simp only [List.cons_append, List.nil_append, List.set_cons_succ, List.set_cons_zero, Nat.reduceAdd] at hM)
      replace HM := hM
      clear hM
      refine hK _ _ ⟨(fun y => ∃ q : CW [(⟨w.heap.size, 2, none⟩, .int .i64 c0)], y = q.1), ⟨⟨_, (allc ((HM.out.hb 0 _ _ _ rfl).cell (k := 2) HR0.out) (alln _))⟩, rfl⟩, fun _ h => h, ?_⟩
      clear hK K
      (try simp only [Act.put, List.setIfInBounds_toArray, List.set_cons_succ, List.set_cons_zero])
      refine wpQuiet_nil ?_
      refine NoPanic.normal ?_
      go_wp2_with fail
      (try simp only [Exit.inBlock, Exit.then])
      refine bodyPost_ret (res_cc rfl _ _ _ _ _ _ rfl rfl ((HM.out.hb 1 _ _ _ rfl).load57) ((HM.out.hb 2 _ _ _ rfl).load59 rfl)) rfl ?_
      exact ⟨⟨_, _, _, rfl, ints0 _ _ _ _⟩, HM.out.bel⟩
    · refine wpOp_step rfl (fun K hK => ?_)
      go_simp
      refine (store13d (5 + c0) (x + 1) _).mono ?_
      rintro e V28 ⟨rfl, hb⟩
      replace HM := Lib.hid (HM.out.below hb)
      clear hb
      refine hK _ _ ⟨(fun y => ∃ q : CW [(⟨w.heap.size, 2, none⟩, .int .i64 c0)], y = q.1), ⟨⟨_, (allc ((HM.out.hb 0 _ _ _ rfl).cell (k := 2) HR0.out) (alln _))⟩, rfl⟩, fun _ h => h, ?_⟩
      clear hK K
      (try simp only [Act.put, List.setIfInBounds_toArray, List.set_cons_succ, List.set_cons_zero])
      refine wpQuiet_nil ?_
      refine wpOp_step rfl (fun K hK => ?_)
      rw [if_pos (by rfl)]
      refine wpOm_ld HM 57 (.tmp 2) rfl 20 rfl 0 rfl rfl 98 und57 inf57 (Fr.size _) ?_
      refine hK _ _ ⟨(fun y => ∃ q : CW [(⟨w.heap.size, 2, none⟩, .int .i64 c0)], y = q.1), ⟨⟨_, (allc ((HM.out.hb 0 _ _ _ rfl).cell (k := 2) HR0.out) (alln _))⟩, rfl⟩, fun _ h => h, ?_⟩
      clear hK K
      (try simp only [Act.put, List.setIfInBounds_toArray, List.set_cons_succ, List.set_cons_zero])
      refine wpQuiet_nil ?_
      refine wpOp_step rfl (fun K hK => ?_)
      go_simp
      refine (step13d (f.reg 1 x) 2 1 (5 + c0) 0 (x + 1) none 0 0 _).mono ?_
      rintro e V29 ⟨rfl, hb⟩
      replace HM := Lib.hid (HM.out.below hb)
      clear hb
      refine hK _ _ ⟨(fun y => ∃ q : CW [(⟨w.heap.size, 2, none⟩, .int .i64 c0)], y = q.1), ⟨⟨_, (allc ((HM.out.hb 0 _ _ _ rfl).cell (k := 2) HR0.out) (alln _))⟩, rfl⟩, fun _ h => h, ?_⟩
      clear hK K
      (try simp only [Act.put, List.setIfInBounds_toArray, List.set_cons_succ, List.set_cons_zero])
      repeat (go_big_quiet_step (fail))
      refine wpQuiet_nil ?_
      refine wpOp_step rfl (fun K hK => ?_)
      rw [if_pos (by rfl)]
      refine wpOm_st HM 57 (.tmp 4) (.tmp 29) rfl rfl 1 rfl ((f.reg 1 x).at_ 2).cells rfl rfl 98 inf57 (Fr.size _) (Fr.size _) (Fr.one _) ?_
      intro V30 hM
      (try simp only [List.cons_append, List.nil_append, List.set_cons_succ, List.set_cons_zero, Nat.reduceAdd] at hM)
      replace HM := hM
      clear hM
      refine hK _ _ ⟨(fun y => ∃ q : CW [(⟨w.heap.size, 2, none⟩, .int .i64 c0)], y = q.1), ⟨⟨_, (allc ((HM.out.hb 0 _ _ _ rfl).cell (k := 2) HR0.out) (alln _))⟩, rfl⟩, fun _ h => h, ?_⟩
      clear hK K
      (try simp only [Act.put, List.setIfInBounds_toArray, List.set_cons_succ, List.set_cons_zero])
      refine wpQuiet_nil ?_
      refine wpOp_step rfl (fun K hK => ?_)
      rw [if_pos (by rfl)]
      refine wpOm_st HM 59 (.tmp 5) (.tmp 30) rfl rfl 2 rfl (acC 1 (5 + c0) 0 (x + 1) 0 (.slice none 0 0)) rfl rfl 7 inf59 rfl rfl (acC_one _ _ _ _ _ _ _ _) ?_
      intro V31 hM
      (try simp only [List.cons_append, List.nil_append, List.set_cons_succ, List.set_cons_zero, Nat.reduceAdd] at hM)
      replace HM := hM
      clear hM
      refine hK _ _ ⟨(fun y => ∃ q : CW [(⟨w.heap.size, 2, none⟩, .int .i64 c0)], y = q.1), ⟨⟨_, (allc ((HM.out.hb 0 _ _ _ rfl).cell (k := 2) HR0.out) (alln _))⟩, rfl⟩, fun _ h => h, ?_⟩
      clear hK K
      (try simp only [Act.put, List.setIfInBounds_toArray, List.set_cons_succ, List.set_cons_zero])
      refine wpQuiet_nil ?_
      refine NoPanic.normal ?_
      go_wp2_with fail
      (try simp only [Exit.inBlock, Exit.then])
      refine bodyPost_ret (res_cc rfl _ _ _ _ _ _ rfl rfl ((HM.out.hb 1 _ _ _ rfl).load57) ((HM.out.hb 2 _ _ _ rfl).load59 rfl)) rfl ?_
      exact ⟨⟨_, _, _, rfl, ints0 _ _ _ _⟩, HM.out.bel⟩
set_option maxHeartbeats 2000000 in
set_option maxRecDepth 100000 in
theorem dpin2 (f : Fr) (x : Int) (w : World) (hs : f.st = 2) : Calls Try.prog 81 #[.agg f.cells, .int .i64 x] w fun e w' => AnsB w w' e (f.at_ 3) 0 2 0 0 [] ∧ Below w.heap.size w w' := by
  have HM := Lib.hid (Mem.start w)
  have HS := Lib.hid (by rw [← hs]; exact f.c1 : f.cells[1]? = some (.int .i64 2))
  clear hs
  go_enter Try.func81, Try.ntmps81
  go_wp2_with (first
    | (refine wpm_box HM rfl 57 (.tmp 0) rfl _ rfl ?_; intro W hM; (try simp only [List.cons_append, List.nil_append, List.set_cons_succ, List.set_cons_zero, Nat.reduceAdd] at hM); replace HM := hM; clear hM)
    | (refine wpm_al57 HM rfl rfl ?_; intro W2 hM; (try simp only [List.cons_append, List.nil_append, List.set_cons_succ, List.set_cons_zero, Nat.reduceAdd] at hM); replace HM := hM; clear hM)
    | (refine wpm_al59 HM rfl rfl ?_; intro W3 hM; (try simp only [List.cons_append, List.nil_append, List.set_cons_succ, List.set_cons_zero, Nat.reduceAdd] at hM); replace HM := hM; clear hM; have ks : W3.cell? ⟨w.heap.size, 1, none⟩ = some (.int .i64 2) := (HM.out.hb 0 _ _ _ rfl).cell (k := 1) HS.out))
  clear ks
  replace HM := Lib.hid HM.out.drew
  have HF : Hid (∀ p ∈ ([] : List (Addr × Value)), World.cell? W3.drew p.1 = some p.2) := Lib.hid (alln _)
  haveI : Inhabited (CW []) := ⟨⟨_, HF.out⟩⟩
  (try simp only [Act.put, List.setIfInBounds_toArray, List.set_cons_succ, List.set_cons_zero])
  refine wp_region_noPanic ?_
  refine wp_region_plw (.step [] (.cons 0 (.step [] (.cons 1 (.step [] (.cons 2 (.step [false, false, false, true, true] (.cons 5 (.step [] (.cons 6 (.last []) .nil)) .nil)) .nil)) .nil)) (.cons 1 (.step [] (.cons 0 (.step [] (.cons 2 (.step [false, false, false, true, true] (.cons 5 (.step [] (.cons 6 (.last []) .nil)) .nil)) .nil)) .nil)) .nil))) (fun y => ∃ q : CW [], y = q.1) (by kernel_rfl) (by kernel_rfl) (by kernel_rfl) (fun _ _ _ _ _ _ _ h => h) ⟨⟨_, HF.out⟩, rfl⟩ ?_
  simp only [wpPw, wpBw, selF, and_true]
  generalize W3.drew = V32 at *
  refine wpQuiet_nil ?_
  refine ⟨?_, ?_⟩
  · refine wpOp_step rfl (fun K hK => ?_)
    rw [if_pos (by rfl)]
    refine wpOm_ld HM 57 (.tmp 2) rfl 33 rfl 0 rfl rfl 98 und57 inf57 (Fr.size _) ?_
    refine hK _ _ ⟨(fun y => ∃ q : CW [], y = q.1), ⟨⟨_, (alln _)⟩, rfl⟩, fun _ h => h, ?_⟩
    clear hK K
    (try simp only [Act.put, List.setIfInBounds_toArray, List.set_cons_succ, List.set_cons_zero])
    refine wpQuiet_nil ?_
    refine wpOp_step rfl (fun K hK => ?_)
    go_simp
    refine (load13d 2 _).mono ?_
    rintro e V33 ⟨rfl, hb⟩
    replace HM := Lib.hid (HM.out.below hb)
    clear hb
    refine hK _ _ ⟨(fun y => ∃ q : CW [], y = q.1), ⟨⟨_, (alln _)⟩, rfl⟩, fun _ h => h, ?_⟩
    clear hK K
    (try simp only [Act.put, List.setIfInBounds_toArray, List.set_cons_succ, List.set_cons_zero])
    refine wpQuiet_nil ?_
    refine wpOp_step rfl (fun K hK => ?_)
    go_simp
    refine (step13d f 3 0 2 0 0 none 0 0 _).mono ?_
    rintro e V34 ⟨rfl, hb⟩
    replace HM := Lib.hid (HM.out.below hb)
    clear hb
    refine hK _ _ ⟨(fun y => ∃ q : CW [], y = q.1), ⟨⟨_, (alln _)⟩, rfl⟩, fun _ h => h, ?_⟩
    clear hK K
    (try simp only [Act.put, List.setIfInBounds_toArray, List.set_cons_succ, List.set_cons_zero])
    repeat (go_big_quiet_step (fail))
    refine wpQuiet_nil ?_
    refine wpOp_step rfl (fun K hK => ?_)
    rw [if_pos (by rfl)]
    refine wpOm_st HM 57 (.tmp 4) (.tmp 36) rfl rfl 1 rfl (f.at_ 3).cells rfl rfl 98 inf57 (Fr.size _) (Fr.size _) (Fr.one _) ?_
    intro V35 hM
    (try simp only [List.cons_append, List.nil_append, List.set_cons_succ, List.set_cons_zero, Nat.reduceAdd] at hM)
    replace HM := hM
    clear hM
    refine hK _ _ ⟨(fun y => ∃ q : CW [], y = q.1), ⟨⟨_, (alln _)⟩, rfl⟩, fun _ h => h, ?_⟩
    clear hK K
    (try simp only [Act.put, List.setIfInBounds_toArray, List.set_cons_succ, List.set_cons_zero])
    refine wpQuiet_nil ?_
    refine wpOp_step rfl (fun K hK => ?_)
    rw [if_pos (by rfl)]
    refine wpOm_st HM 59 (.tmp 5) (.tmp 37) rfl rfl 2 rfl (acC 0 2 0 0 0 (.slice none 0 0)) rfl rfl 7 inf59 rfl rfl (acC_one _ _ _ _ _ _ _ _) ?_
    intro V36 hM
    (try simp only [List.cons_append, List.nil_append, List.set_cons_succ, List.set_cons_zero, Nat.reduceAdd] at hM)
    replace HM := hM
    clear hM
    refine hK _ _ ⟨(fun y => ∃ q : CW [], y = q.1), ⟨⟨_, (alln _)⟩, rfl⟩, fun _ h => h, ?_⟩
    clear hK K
    (try simp only [Act.put, List.setIfInBounds_toArray, List.set_cons_succ, List.set_cons_zero])
    refine wpQuiet_nil ?_
    refine NoPanic.normal ?_
    go_wp2_with fail
    (try simp only [Exit.inBlock, Exit.then])
    refine bodyPost_ret (res_cc rfl _ _ _ _ _ _ rfl rfl ((HM.out.hb 1 _ _ _ rfl).load57) ((HM.out.hb 2 _ _ _ rfl).load59 rfl)) rfl ?_
    exact ⟨⟨_, _, _, rfl, ints0 _ _ _ _⟩, HM.out.bel⟩
  · refine wpOp_step rfl (fun K hK => ?_)
    go_simp
    refine (load13d 2 _).mono ?_
    rintro e V37 ⟨rfl, hb⟩
    replace HM := Lib.hid (HM.out.below hb)
    clear hb
    refine hK _ _ ⟨(fun y => ∃ q : CW [], y = q.1), ⟨⟨_, (alln _)⟩, rfl⟩, fun _ h => h, ?_⟩
    clear hK K
    (try simp only [Act.put, List.setIfInBounds_toArray, List.set_cons_succ, List.set_cons_zero])
    refine wpQuiet_nil ?_
    refine wpOp_step rfl (fun K hK => ?_)
    rw [if_pos (by rfl)]
    refine wpOm_ld HM 57 (.tmp 2) rfl 33 rfl 0 rfl rfl 98 und57 inf57 (Fr.size _) ?_
    refine hK _ _ ⟨(fun y => ∃ q : CW [], y = q.1), ⟨⟨_, (alln _)⟩, rfl⟩, fun _ h => h, ?_⟩
    clear hK K
    (try simp only [Act.put, List.setIfInBounds_toArray, List.set_cons_succ, List.set_cons_zero])
    refine wpQuiet_nil ?_
    refine wpOp_step rfl (fun K hK => ?_)
    go_simp
    refine (step13d f 3 0 2 0 0 none 0 0 _).mono ?_
    rintro e V38 ⟨rfl, hb⟩
    replace HM := Lib.hid (HM.out.below hb)
    clear hb
    refine hK _ _ ⟨(fun y => ∃ q : CW [], y = q.1), ⟨⟨_, (alln _)⟩, rfl⟩, fun _ h => h, ?_⟩
    clear hK K
    (try simp only [Act.put, List.setIfInBounds_toArray, List.set_cons_succ, List.set_cons_zero])
    repeat (go_big_quiet_step (fail))
    refine wpQuiet_nil ?_
    refine wpOp_step rfl (fun K hK => ?_)
    rw [if_pos (by rfl)]
    refine wpOm_st HM 57 (.tmp 4) (.tmp 36) rfl rfl 1 rfl (f.at_ 3).cells rfl rfl 98 inf57 (Fr.size _) (Fr.size _) (Fr.one _) ?_
    intro V39 hM
    (try simp only [List.cons_append, List.nil_append, List.set_cons_succ, List.set_cons_zero, Nat.reduceAdd] at hM)
    replace HM := hM
    clear hM
    refine hK _ _ ⟨(fun y => ∃ q : CW [], y = q.1), ⟨⟨_, (alln _)⟩, rfl⟩, fun _ h => h, ?_⟩
    clear hK K
    (try simp only [Act.put, List.setIfInBounds_toArray, List.set_cons_succ, List.set_cons_zero])
    refine wpQuiet_nil ?_
    refine wpOp_step rfl (fun K hK => ?_)
    rw [if_pos (by rfl)]
    refine wpOm_st HM 59 (.tmp 5) (.tmp 37) rfl rfl 2 rfl (acC 0 2 0 0 0 (.slice none 0 0)) rfl rfl 7 inf59 rfl rfl (acC_one _ _ _ _ _ _ _ _) ?_
    intro V40 hM
    (try simp only [List.cons_append, List.nil_append, List.set_cons_succ, List.set_cons_zero, Nat.reduceAdd] at hM)
    replace HM := hM
    clear hM
    refine hK _ _ ⟨(fun y => ∃ q : CW [], y = q.1), ⟨⟨_, (alln _)⟩, rfl⟩, fun _ h => h, ?_⟩
    clear hK K
    (try simp only [Act.put, List.setIfInBounds_toArray, List.set_cons_succ, List.set_cons_zero])
    refine wpQuiet_nil ?_
    refine NoPanic.normal ?_
    go_wp2_with fail
    (try simp only [Exit.inBlock, Exit.then])
    refine bodyPost_ret (res_cc rfl _ _ _ _ _ _ rfl rfl ((HM.out.hb 1 _ _ _ rfl).load57) ((HM.out.hb 2 _ _ _ rfl).load59 rfl)) rfl ?_
    exact ⟨⟨_, _, _, rfl, ints0 _ _ _ _⟩, HM.out.bel⟩
set_option maxHeartbeats 2000000 in
set_option maxRecDepth 100000 in
theorem dpin3e (f : Fr) (x : Int) (w : World) (hs : f.st = 3) (he : f.r 1 = x) : Calls Try.prog 81 #[.agg f.cells, .int .i64 x] w fun e w' => AnsB w w' e f 7 0 0 0 [x] ∧ Below w.heap.size w w' := by
  have HM := Lib.hid (Mem.start w)
  have HS := Lib.hid (by rw [← hs]; exact f.c1 : f.cells[1]? = some (.int .i64 3))
  have HR1 := Lib.hid (by rw [← he]; exact Fr.cr (f) 1 (by omega) : (f).cells[3]? = some (.int .i64 x))
  have ex : (x == x) = true := by simp
  clear he
  clear hs
  go_enter Try.func81, Try.ntmps81
  go_wp2_with (first
    | (refine wpm_box HM rfl 57 (.tmp 0) rfl _ rfl ?_; intro W hM; (try simp only [List.cons_append, List.nil_append, List.set_cons_succ, List.set_cons_zero, Nat.reduceAdd] at hM); replace HM := hM; clear hM)
    | (refine wpm_al57 HM rfl rfl ?_; intro W2 hM; (try simp only [List.cons_append, List.nil_append, List.set_cons_succ, List.set_cons_zero, Nat.reduceAdd] at hM); replace HM := hM; clear hM)
    | (refine wpm_al59 HM rfl rfl ?_; intro W3 hM; (try simp only [List.cons_append, List.nil_append, List.set_cons_succ, List.set_cons_zero, Nat.reduceAdd] at hM); replace HM := hM; clear hM; have ks : W3.cell? ⟨w.heap.size, 1, none⟩ = some (.int .i64 3) := (HM.out.hb 0 _ _ _ rfl).cell (k := 1) HS.out)
    | (refine wpm_ldc HM rfl 3 (.tmp 42) rfl lv3 0 3 rfl rfl (.int .i64 x) HR1.out ?_)
    | (refine wpm_ld57 HM rfl (.tmp 2) rfl 0 rfl rfl ?_)
    | (refine wpm_bsI1 HM rfl (.tmp 46) rfl x rfl ?_; intro W5 hM; (try simp only [List.cons_append, List.nil_append, List.set_cons_succ, List.set_cons_zero, Nat.reduceAdd] at hM); replace HM := hM; clear hM))
  refine (end13d f _ 1 1 _).mono ?_
  rintro e W6 ⟨rfl, hb⟩
  replace HM := Lib.hid (HM.out.below hb)
  clear hb
  (try clear ks)
  (try clear kr)
  go_wp2_with (first
    | (refine wpm_st57 HM rfl (.tmp 4) (.tmp 49) rfl 1 rfl f rfl rfl ?_; intro W hM; (try simp only [List.cons_append, List.nil_append, List.set_cons_succ, List.set_cons_zero, Nat.reduceAdd] at hM); replace HM := hM; clear hM)
    | (refine wpm_st59 HM rfl (.tmp 5) (.tmp 50) rfl 2 rfl rfl 7 0 0 0 0 _ 1 1 rfl rfl ?_; intro W hM; (try simp only [List.cons_append, List.nil_append, List.set_cons_succ, List.set_cons_zero, Nat.reduceAdd] at hM); replace HM := hM; clear hM))
  (try simp only [Exit.inBlock, Exit.then])
  refine bodyPost_ret (res_cc rfl _ _ _ _ _ _ rfl rfl ((HM.out.hb 1 _ _ _ rfl).load57) ((HM.out.hb 2 _ _ _ rfl).load59 rfl)) rfl ?_
  exact ⟨⟨_, _, _, rfl, ints_one0 HM.out (i := 3) rfl⟩, HM.out.bel⟩
set_option maxHeartbeats 2000000 in
set_option maxRecDepth 100000 in
theorem dpin3g (f : Fr) (x : Int) (w : World) (hs : f.st = 3) (c0 r1 : Int) (hc0 : f.r 0 = c0) (hr1 : f.r 1 = r1) (hne : x ≠ r1) (h4 : 0 ≤ c0 ∧ c0 < 4) (hx : 0 ≤ x ∧ x ≤ 1000000) : Calls Try.prog 81 #[.agg f.cells, .int .i64 x] w fun e w' => AnsB w w' e ((f.reg 1 x).at_ 2) 1 (5 + c0) 0 (x + 1) [] ∧ Below w.heap.size w w' := by
  have HM := Lib.hid (Mem.start w)
  have HS := Lib.hid (by rw [← hs]; exact f.c1 : f.cells[1]? = some (.int .i64 3))
  have HR0 := Lib.hid (by rw [← hc0]; exact Fr.cr (f.reg 1 x) 0 (by omega) : (f.reg 1 x).cells[2]? = some (.int .i64 c0))
  have HR1 := Lib.hid (by rw [← hr1]; exact Fr.cr (f) 1 (by omega) : (f).cells[3]? = some (.int .i64 r1))
  have H4 := Lib.hid h4
  obtain ⟨hx1, hx2⟩ := hx
  have ex : (x == r1) = false := by rw [beq_eq_false_iff_ne]; exact hne
  clear hc0 hr1 hne h4
  clear hs
  go_enter Try.func81, Try.ntmps81
  go_wp2_with (first
    | (refine wpm_box HM rfl 57 (.tmp 0) rfl _ rfl ?_; intro W hM; (try simp only [List.cons_append, List.nil_append, List.set_cons_succ, List.set_cons_zero, Nat.reduceAdd] at hM); replace HM := hM; clear hM)
    | (refine wpm_al57 HM rfl rfl ?_; intro W2 hM; (try simp only [List.cons_append, List.nil_append, List.set_cons_succ, List.set_cons_zero, Nat.reduceAdd] at hM); replace HM := hM; clear hM)
    | (refine wpm_al59 HM rfl rfl ?_; intro W3 hM; (try simp only [List.cons_append, List.nil_append, List.set_cons_succ, List.set_cons_zero, Nat.reduceAdd] at hM); replace HM := hM; clear hM; have ks : W3.cell? ⟨w.heap.size, 1, none⟩ = some (.int .i64 3) := (HM.out.hb 0 _ _ _ rfl).cell (k := 1) HS.out)
    | (refine wpm_ldc HM rfl 3 (.tmp 42) rfl lv3 0 3 rfl rfl (.int .i64 r1) HR1.out ?_)
    | (refine wpm_cell HM rfl 3 (.tmp 53) (.tmp 51) rfl Try.sizeOf3 0 3 rfl (.int .i64 x) rfl rfl (.inl ⟨_, _, rfl⟩) (by rw [Fr.size]; omega) (f.reg 1 x).cells (Fr.setr f 1 (by omega) x) ?_; intro W4 hM; (try simp only [List.cons_append, List.nil_append, List.set_cons_succ, List.set_cons_zero, Nat.reduceAdd] at hM); replace HM := hM; clear hM))
  clear ks
  (try clear kr)
  replace HM := Lib.hid HM.out.drew
  have HF : Hid (∀ p ∈ ([(⟨w.heap.size, 2, none⟩, .int .i64 c0)] : List (Addr × Value)), World.cell? W4.drew p.1 = some p.2) := Lib.hid (allc ((HM.out.hb 0 _ _ _ rfl).cell (k := 2) HR0.out) (alln _))
  haveI : Inhabited (CW [(⟨w.heap.size, 2, none⟩, .int .i64 c0)]) := ⟨⟨_, HF.out⟩⟩
  have f0 : ∀ q : CW [(⟨w.heap.size, 2, none⟩, .int .i64 c0)], q.1.cell? ⟨w.heap.size, 2, none⟩ = some (.int .i64 c0) := fun q => q.2 (⟨w.heap.size, 2, none⟩, .int .i64 c0) (by simp)
  (try simp only [Act.put, List.setIfInBounds_toArray, List.set_cons_succ, List.set_cons_zero])
  refine wp_region_noPanic ?_
  refine wp_region_plw (.step [false, true, true, true, false, true, true] (.cons 0 (.step [] (.cons 4 (.step [] (.cons 7 (.step [] (.cons 8 (.step [false, false, false, false, false, false, false, false, false, true, true] (.cons 11 (.step [] (.cons 12 (.last []) .nil)) .nil)) .nil)) .nil)) .nil)) (.cons 4 (.step [] (.cons 0 (.step [] (.cons 7 (.step [] (.cons 8 (.step [false, false, false, false, false, false, false, false, false, true, true] (.cons 11 (.step [] (.cons 12 (.last []) .nil)) .nil)) .nil)) .nil)) (.cons 7 (.step [] (.cons 0 (.step [] (.cons 8 (.step [false, false, false, false, false, false, false, false, false, true, true] (.cons 11 (.step [] (.cons 12 (.last []) .nil)) .nil)) .nil)) .nil)) .nil))) .nil))) (fun y => ∃ q : CW [(⟨w.heap.size, 2, none⟩, .int .i64 c0)], y = q.1) (by kernel_rfl) (by kernel_rfl) (by kernel_rfl) (fun _ _ _ _ _ _ _ h => h) ⟨⟨_, HF.out⟩, rfl⟩ ?_
  simp only [wpPw, wpBw, selF, and_true]
  generalize W4.drew = V41 at *
  repeat (go_big_quiet_step (fail))
  refine wpQuiet_nil ?_
  refine ⟨?_, ?_⟩
  · refine wpOp_step rfl (fun K hK => ?_)
    rw [if_pos (by rfl)]
    refine wpOm_ld HM 57 (.tmp 2) rfl 54 rfl 0 rfl rfl 98 und57 inf57 (Fr.size _) ?_
    refine hK _ _ ⟨(fun y => ∃ q : CW [(⟨w.heap.size, 2, none⟩, .int .i64 c0)], y = q.1), ⟨⟨_, (allc ((HM.out.hb 0 _ _ _ rfl).cell (k := 2) HR0.out) (alln _))⟩, rfl⟩, fun _ h => h, ?_⟩
    clear hK K
    (try simp only [Act.put, List.setIfInBounds_toArray, List.set_cons_succ, List.set_cons_zero])
    refine wpQuiet_nil ?_
    refine wpOp_step rfl (fun K hK => ?_)
    go_simp
    refine (pin13d c0 _ _ H4.out rfl).mono ?_
    rintro e V42 ⟨rfl, rfl⟩
    refine hK _ _ ⟨(fun y => ∃ q : CW [(⟨w.heap.size, 2, none⟩, .int .i64 c0)], y = q.1), ⟨⟨_, (allc ((HM.out.hb 0 _ _ _ rfl).cell (k := 2) HR0.out) (alln _))⟩, rfl⟩, fun _ h => h, ?_⟩
    clear hK K
    (try simp only [Act.put, List.setIfInBounds_toArray, List.set_cons_succ, List.set_cons_zero])
    refine wpQuiet_nil ?_
    refine wpOp_step rfl (fun K hK => ?_)
    go_simp
    refine (store13d (5 + c0) (x + 1) _).mono ?_
    rintro e V43 ⟨rfl, hb⟩
    replace HM := Lib.hid (HM.out.below hb)
    clear hb
    refine hK _ _ ⟨(fun y => ∃ q : CW [(⟨w.heap.size, 2, none⟩, .int .i64 c0)], y = q.1), ⟨⟨_, (allc ((HM.out.hb 0 _ _ _ rfl).cell (k := 2) HR0.out) (alln _))⟩, rfl⟩, fun _ h => h, ?_⟩
    clear hK K
    (try simp only [Act.put, List.setIfInBounds_toArray, List.set_cons_succ, List.set_cons_zero])
    refine wpQuiet_nil ?_
    refine wpOp_step rfl (fun K hK => ?_)
    go_simp
    refine (step13d (f.reg 1 x) 2 1 (5 + c0) 0 (x + 1) none 0 0 _).mono ?_
    rintro e V44 ⟨rfl, hb⟩
    replace HM := Lib.hid (HM.out.below hb)
    clear hb
    refine hK _ _ ⟨(fun y => ∃ q : CW [(⟨w.heap.size, 2, none⟩, .int .i64 c0)], y = q.1), ⟨⟨_, (allc ((HM.out.hb 0 _ _ _ rfl).cell (k := 2) HR0.out) (alln _))⟩, rfl⟩, fun _ h => h, ?_⟩
    clear hK K
    (try simp only [Act.put, List.setIfInBounds_toArray, List.set_cons_succ, List.set_cons_zero])
    repeat (go_big_quiet_step (fail))
    refine wpQuiet_nil ?_
    refine wpOp_step rfl (fun K hK => ?_)
    rw [if_pos (by rfl)]
    refine wpOm_st HM 57 (.tmp 4) (.tmp 63) rfl rfl 1 rfl ((f.reg 1 x).at_ 2).cells rfl rfl 98 inf57 (Fr.size _) (Fr.size _) (Fr.one _) ?_
    intro V45 hM
    (try simp only [List.cons_append, List.nil_append, List.set_cons_succ, List.set_cons_zero, Nat.reduceAdd] at hM)
    replace HM := hM
    clear hM
    refine hK _ _ ⟨(fun y => ∃ q : CW [(⟨w.heap.size, 2, none⟩, .int .i64 c0)], y = q.1), ⟨⟨_, (allc ((HM.out.hb 0 _ _ _ rfl).cell (k := 2) HR0.out) (alln _))⟩, rfl⟩, fun _ h => h, ?_⟩
    clear hK K
    (try simp only [Act.put, List.setIfInBounds_toArray, List.set_cons_succ, List.set_cons_zero])
    refine wpQuiet_nil ?_
    refine wpOp_step rfl (fun K hK => ?_)
    rw [if_pos (by rfl)]
    refine wpOm_st HM 59 (.tmp 5) (.tmp 64) rfl rfl 2 rfl (acC 1 (5 + c0) 0 (x + 1) 0 (.slice none 0 0)) rfl rfl 7 inf59 rfl rfl (acC_one _ _ _ _ _ _ _ _) ?_
    intro V46 hM
    (try simp only [List.cons_append, List.nil_append, List.set_cons_succ, List.set_cons_zero, Nat.reduceAdd] at hM)
    replace HM := hM
    clear hM
    refine hK _ _ ⟨(fun y => ∃ q : CW [(⟨w.heap.size, 2, none⟩, .int .i64 c0)], y = q.1), ⟨⟨_, (allc ((HM.out.hb 0 _ _ _ rfl).cell (k := 2) HR0.out) (alln _))⟩, rfl⟩, fun _ h => h, ?_⟩
    clear hK K
    (try simp only [Act.put, List.setIfInBounds_toArray, List.set_cons_succ, List.set_cons_zero])
    refine wpQuiet_nil ?_
    refine NoPanic.normal ?_
    go_wp2_with fail
    (try simp only [Exit.inBlock, Exit.then])
    refine bodyPost_ret (res_cc rfl _ _ _ _ _ _ rfl rfl ((HM.out.hb 1 _ _ _ rfl).load57) ((HM.out.hb 2 _ _ _ rfl).load59 rfl)) rfl ?_
    exact ⟨⟨_, _, _, rfl, ints0 _ _ _ _⟩, HM.out.bel⟩
  · refine wpOp_step rfl (fun K hK => ?_)
    go_simp
    refine (pin13d c0 _ _ H4.out rfl).mono ?_
    rintro e V47 ⟨rfl, rfl⟩
    refine hK _ _ ⟨(fun y => ∃ q : CW [(⟨w.heap.size, 2, none⟩, .int .i64 c0)], y = q.1), ⟨⟨_, (allc ((HM.out.hb 0 _ _ _ rfl).cell (k := 2) HR0.out) (alln _))⟩, rfl⟩, fun _ h => h, ?_⟩
    clear hK K
    (try simp only [Act.put, List.setIfInBounds_toArray, List.set_cons_succ, List.set_cons_zero])
    refine wpQuiet_nil ?_
    refine ⟨?_, ?_⟩
    · refine wpOp_step rfl (fun K hK => ?_)
      rw [if_pos (by rfl)]
      refine wpOm_ld HM 57 (.tmp 2) rfl 54 rfl 0 rfl rfl 98 und57 inf57 (Fr.size _) ?_
      refine hK _ _ ⟨(fun y => ∃ q : CW [(⟨w.heap.size, 2, none⟩, .int .i64 c0)], y = q.1), ⟨⟨_, (allc ((HM.out.hb 0 _ _ _ rfl).cell (k := 2) HR0.out) (alln _))⟩, rfl⟩, fun _ h => h, ?_⟩
      clear hK K
      (try simp only [Act.put, List.setIfInBounds_toArray, List.set_cons_succ, List.set_cons_zero])
      refine wpQuiet_nil ?_
      refine wpOp_step rfl (fun K hK => ?_)
      go_simp
      refine (store13d (5 + c0) (x + 1) _).mono ?_
      rintro e V48 ⟨rfl, hb⟩
      replace HM := Lib.hid (HM.out.below hb)
      clear hb
      refine hK _ _ ⟨(fun y => ∃ q : CW [(⟨w.heap.size, 2, none⟩, .int .i64 c0)], y = q.1), ⟨⟨_, (allc ((HM.out.hb 0 _ _ _ rfl).cell (k := 2) HR0.out) (alln _))⟩, rfl⟩, fun _ h => h, ?_⟩
      clear hK K
      (try simp only [Act.put, List.setIfInBounds_toArray, List.set_cons_succ, List.set_cons_zero])
      refine wpQuiet_nil ?_
      refine wpOp_step rfl (fun K hK => ?_)
      go_simp
      refine (step13d (f.reg 1 x) 2 1 (5 + c0) 0 (x + 1) none 0 0 _).mono ?_
      rintro e V49 ⟨rfl, hb⟩
      replace HM := Lib.hid (HM.out.below hb)
      clear hb
      refine hK _ _ ⟨(fun y => ∃ q : CW [(⟨w.heap.size, 2, none⟩, .int .i64 c0)], y = q.1), ⟨⟨_, (allc ((HM.out.hb 0 _ _ _ rfl).cell (k := 2) HR0.out) (alln _))⟩, rfl⟩, fun _ h => h, ?_⟩
      clear hK K
      (try simp only [Act.put, List.setIfInBounds_toArray, List.set_cons_succ, List.set_cons_zero])
      repeat (go_big_quiet_step (fail))
      refine wpQuiet_nil ?_
      refine wpOp_step rfl (fun K hK => ?_)
      rw [if_pos (by rfl)]
      refine wpOm_st HM 57 (.tmp 4) (.tmp 63) rfl rfl 1 rfl ((f.reg 1 x).at_ 2).cells rfl rfl 98 inf57 (Fr.size _) (Fr.size _) (Fr.one _) ?_
      intro V50 hM
      (try simp only [List.cons_append, List.nil_append, List.set_cons_succ, List.set_cons_zero, Nat.reduceAdd] at hM)
      replace HM := hM
      clear hM
      refine hK _ _ ⟨(fun y => ∃ q : CW [(⟨w.heap.size, 2, none⟩, .int .i64 c0)], y = q.1), ⟨⟨_, (allc ((HM.out.hb 0 _ _ _ rfl).cell (k := 2) HR0.out) (alln _))⟩, rfl⟩, fun _ h => h, ?_⟩
      clear hK K
      (try simp only [Act.put, List.setIfInBounds_toArray, List.set_cons_succ, List.set_cons_zero])
      refine wpQuiet_nil ?_
      refine wpOp_step rfl (fun K hK => ?_)
      rw [if_pos (by rfl)]
      refine wpOm_st HM 59 (.tmp 5) (.tmp 64) rfl rfl 2 rfl (acC 1 (5 + c0) 0 (x + 1) 0 (.slice none 0 0)) rfl rfl 7 inf59 rfl rfl (acC_one _ _ _ _ _ _ _ _) ?_
      intro V51 hM
      (try simp only [List.cons_append, List.nil_append, List.set_cons_succ, List.set_cons_zero, Nat.reduceAdd] at hM)
      replace HM := hM
      clear hM
      refine hK _ _ ⟨(fun y => ∃ q : CW [(⟨w.heap.size, 2, none⟩, .int .i64 c0)], y = q.1), ⟨⟨_, (allc ((HM.out.hb 0 _ _ _ rfl).cell (k := 2) HR0.out) (alln _))⟩, rfl⟩, fun _ h => h, ?_⟩
      clear hK K
      (try simp only [Act.put, List.setIfInBounds_toArray, List.set_cons_succ, List.set_cons_zero])
      refine wpQuiet_nil ?_
      refine NoPanic.normal ?_
      go_wp2_with fail
      (try simp only [Exit.inBlock, Exit.then])
      refine bodyPost_ret (res_cc rfl _ _ _ _ _ _ rfl rfl ((HM.out.hb 1 _ _ _ rfl).load57) ((HM.out.hb 2 _ _ _ rfl).load59 rfl)) rfl ?_
      exact ⟨⟨_, _, _, rfl, ints0 _ _ _ _⟩, HM.out.bel⟩
    · refine wpOp_step rfl (fun K hK => ?_)
      go_simp
      refine (store13d (5 + c0) (x + 1) _).mono ?_
      rintro e V52 ⟨rfl, hb⟩
      replace HM := Lib.hid (HM.out.below hb)
      clear hb
      refine hK _ _ ⟨(fun y => ∃ q : CW [(⟨w.heap.size, 2, none⟩, .int .i64 c0)], y = q.1), ⟨⟨_, (allc ((HM.out.hb 0 _ _ _ rfl).cell (k := 2) HR0.out) (alln _))⟩, rfl⟩, fun _ h => h, ?_⟩
      clear hK K
      (try simp only [Act.put, List.setIfInBounds_toArray, List.set_cons_succ, List.set_cons_zero])
      refine wpQuiet_nil ?_
      refine wpOp_step rfl (fun K hK => ?_)
      rw [if_pos (by rfl)]
      refine wpOm_ld HM 57 (.tmp 2) rfl 54 rfl 0 rfl rfl 98 und57 inf57 (Fr.size _) ?_
      refine hK _ _ ⟨(fun y => ∃ q : CW [(⟨w.heap.size, 2, none⟩, .int .i64 c0)], y = q.1), ⟨⟨_, (allc ((HM.out.hb 0 _ _ _ rfl).cell (k := 2) HR0.out) (alln _))⟩, rfl⟩, fun _ h => h, ?_⟩
      clear hK K
      (try simp only [Act.put, List.setIfInBounds_toArray, List.set_cons_succ, List.set_cons_zero])
      refine wpQuiet_nil ?_
      refine wpOp_step rfl (fun K hK => ?_)
      go_simp
      refine (step13d (f.reg 1 x) 2 1 (5 + c0) 0 (x + 1) none 0 0 _).mono ?_
      rintro e V53 ⟨rfl, hb⟩
      replace HM := Lib.hid (HM.out.below hb)
      clear hb
      refine hK _ _ ⟨(fun y => ∃ q : CW [(⟨w.heap.size, 2, none⟩, .int .i64 c0)], y = q.1), ⟨⟨_, (allc ((HM.out.hb 0 _ _ _ rfl).cell (k := 2) HR0.out) (alln _))⟩, rfl⟩, fun _ h => h, ?_⟩
      clear hK K
      (try simp only [Act.put, List.setIfInBounds_toArray, List.set_cons_succ, List.set_cons_zero])
      repeat (go_big_quiet_step (fail))
      refine wpQuiet_nil ?_
      refine wpOp_step rfl (fun K hK => ?_)
      rw [if_pos (by rfl)]
      refine wpOm_st HM 57 (.tmp 4) (.tmp 63) rfl rfl 1 rfl ((f.reg 1 x).at_ 2).cells rfl rfl 98 inf57 (Fr.size _) (Fr.size _) (Fr.one _) ?_
      intro V54 hM
      (try simp only [List.cons_append, List.nil_append, List.set_cons_succ, List.set_cons_zero, Nat.reduceAdd] at hM)
      replace HM := hM
      clear hM
      refine hK _ _ ⟨(fun y => ∃ q : CW [(⟨w.heap.size, 2, none⟩, .int .i64 c0)], y = q.1), ⟨⟨_, (allc ((HM.out.hb 0 _ _ _ rfl).cell (k := 2) HR0.out) (alln _))⟩, rfl⟩, fun _ h => h, ?_⟩
      clear hK K
      (try simp only [Act.put, List.setIfInBounds_toArray, List.set_cons_succ, List.set_cons_zero])
      refine wpQuiet_nil ?_
      refine wpOp_step rfl (fun K hK => ?_)
      rw [if_pos (by rfl)]
      refine wpOm_st HM 59 (.tmp 5) (.tmp 64) rfl rfl 2 rfl (acC 1 (5 + c0) 0 (x + 1) 0 (.slice none 0 0)) rfl rfl 7 inf59 rfl rfl (acC_one _ _ _ _ _ _ _ _) ?_
      intro V55 hM
      (try simp only [List.cons_append, List.nil_append, List.set_cons_succ, List.set_cons_zero, Nat.reduceAdd] at hM)
      replace HM := hM
      clear hM
      refine hK _ _ ⟨(fun y => ∃ q : CW [(⟨w.heap.size, 2, none⟩, .int .i64 c0)], y = q.1), ⟨⟨_, (allc ((HM.out.hb 0 _ _ _ rfl).cell (k := 2) HR0.out) (alln _))⟩, rfl⟩, fun _ h => h, ?_⟩
      clear hK K
      (try simp only [Act.put, List.setIfInBounds_toArray, List.set_cons_succ, List.set_cons_zero])
      refine wpQuiet_nil ?_
      refine NoPanic.normal ?_
      go_wp2_with fail
      (try simp only [Exit.inBlock, Exit.then])
      refine bodyPost_ret (res_cc rfl _ _ _ _ _ _ rfl rfl ((HM.out.hb 1 _ _ _ rfl).load57) ((HM.out.hb 2 _ _ _ rfl).load59 rfl)) rfl ?_
      exact ⟨⟨_, _, _, rfl, ints0 _ _ _ _⟩, HM.out.bel⟩
set_option maxHeartbeats 2000000 in
set_option maxRecDepth 100000 in
theorem dun0 (f : Fr) (w : World) (hs : f.st = 0) (c0 : Int) (hc0 : f.r 0 = c0) (h4 : 0 ≤ c0 ∧ c0 < 4) : Calls Try.prog 83 #[.agg f.cells] w fun e w' => AnsB w w' e (f.at_ 1) 1 (5 + c0) 0 0 [] ∧ Below w.heap.size w w' := by
  have HM := Lib.hid (Mem.start w)
  have HS := Lib.hid (by rw [← hs]; exact f.c1 : f.cells[1]? = some (.int .i64 0))
  have HR0 := Lib.hid (by rw [← hc0]; exact Fr.cr (f) 0 (by omega) : (f).cells[2]? = some (.int .i64 c0))
  have H4 := Lib.hid h4
  clear hc0 h4
  clear hs
  go_enter Try.func83, Try.ntmps83
  go_wp2_with (first
    | (refine wpm_box HM rfl 57 (.tmp 0) rfl _ rfl ?_; intro W hM; (try simp only [List.cons_append, List.nil_append, List.set_cons_succ, List.set_cons_zero, Nat.reduceAdd] at hM); replace HM := hM; clear hM)
    | (refine wpm_al57 HM rfl rfl ?_; intro W2 hM; (try simp only [List.cons_append, List.nil_append, List.set_cons_succ, List.set_cons_zero, Nat.reduceAdd] at hM); replace HM := hM; clear hM)
    | (refine wpm_al59 HM rfl rfl ?_; intro W3 hM; (try simp only [List.cons_append, List.nil_append, List.set_cons_succ, List.set_cons_zero, Nat.reduceAdd] at hM); replace HM := hM; clear hM; have ks : W3.cell? ⟨w.heap.size, 1, none⟩ = some (.int .i64 0) := (HM.out.hb 0 _ _ _ rfl).cell (k := 1) HS.out))
  clear ks
  replace HM := Lib.hid HM.out.drew
  have HF : Hid (∀ p ∈ ([(⟨w.heap.size, 2, none⟩, .int .i64 c0)] : List (Addr × Value)), World.cell? W3.drew p.1 = some p.2) := Lib.hid (allc ((HM.out.hb 0 _ _ _ rfl).cell (k := 2) HR0.out) (alln _))
  haveI : Inhabited (CW [(⟨w.heap.size, 2, none⟩, .int .i64 c0)]) := ⟨⟨_, HF.out⟩⟩
  have f0 : ∀ q : CW [(⟨w.heap.size, 2, none⟩, .int .i64 c0)], q.1.cell? ⟨w.heap.size, 2, none⟩ = some (.int .i64 c0) := fun q => q.2 (⟨w.heap.size, 2, none⟩, .int .i64 c0) (by simp)
  (try simp only [Act.put, List.setIfInBounds_toArray, List.set_cons_succ, List.set_cons_zero])
  refine wp_region_noPanic ?_
  refine wp_region_plw (.step [false, true, true, true] (.cons 0 (.step [] (.cons 4 (.step [] (.cons 5 (.step [] (.cons 6 (.step [false, false, false, false, false, false, false, true, true] (.cons 9 (.step [] (.cons 10 (.last []) .nil)) .nil)) .nil)) .nil)) .nil)) (.cons 4 (.step [] (.cons 0 (.step [] (.cons 5 (.step [] (.cons 6 (.step [false, false, false, false, false, false, false, true, true] (.cons 9 (.step [] (.cons 10 (.last []) .nil)) .nil)) .nil)) .nil)) (.cons 5 (.step [] (.cons 0 (.step [] (.cons 6 (.step [false, false, false, false, false, false, false, true, true] (.cons 9 (.step [] (.cons 10 (.last []) .nil)) .nil)) .nil)) .nil)) .nil))) .nil))) (fun y => ∃ q : CW [(⟨w.heap.size, 2, none⟩, .int .i64 c0)], y = q.1) (by kernel_rfl) (by kernel_rfl) (by kernel_rfl) (fun _ _ _ _ _ _ _ h => h) ⟨⟨_, HF.out⟩, rfl⟩ ?_
  simp only [wpPw, wpBw, selF, and_true]
  generalize W3.drew = V56 at *
  repeat (go_big_quiet_step (fail))
  refine wpQuiet_nil ?_
  refine ⟨?_, ?_⟩
  · refine wpOp_step rfl (fun K hK => ?_)
    rw [if_pos (by rfl)]
    refine wpOm_ld HM 57 (.tmp 1) rfl 8 rfl 0 rfl rfl 98 und57 inf57 (Fr.size _) ?_
    refine hK _ _ ⟨(fun y => ∃ q : CW [(⟨w.heap.size, 2, none⟩, .int .i64 c0)], y = q.1), ⟨⟨_, (allc ((HM.out.hb 0 _ _ _ rfl).cell (k := 2) HR0.out) (alln _))⟩, rfl⟩, fun _ h => h, ?_⟩
    clear hK K
    (try simp only [Act.put, List.setIfInBounds_toArray, List.set_cons_succ, List.set_cons_zero])
    refine wpQuiet_nil ?_
    refine wpOp_step rfl (fun K hK => ?_)
    go_simp
    refine (pin13d c0 _ _ H4.out rfl).mono ?_
    rintro e V57 ⟨rfl, rfl⟩
    refine hK _ _ ⟨(fun y => ∃ q : CW [(⟨w.heap.size, 2, none⟩, .int .i64 c0)], y = q.1), ⟨⟨_, (allc ((HM.out.hb 0 _ _ _ rfl).cell (k := 2) HR0.out) (alln _))⟩, rfl⟩, fun _ h => h, ?_⟩
    clear hK K
    (try simp only [Act.put, List.setIfInBounds_toArray, List.set_cons_succ, List.set_cons_zero])
    refine wpQuiet_nil ?_
    refine wpOp_step rfl (fun K hK => ?_)
    go_simp
    refine (store13d (5 + c0) 0 _).mono ?_
    rintro e V58 ⟨rfl, hb⟩
    replace HM := Lib.hid (HM.out.below hb)
    clear hb
    refine hK _ _ ⟨(fun y => ∃ q : CW [(⟨w.heap.size, 2, none⟩, .int .i64 c0)], y = q.1), ⟨⟨_, (allc ((HM.out.hb 0 _ _ _ rfl).cell (k := 2) HR0.out) (alln _))⟩, rfl⟩, fun _ h => h, ?_⟩
    clear hK K
    (try simp only [Act.put, List.setIfInBounds_toArray, List.set_cons_succ, List.set_cons_zero])
    refine wpQuiet_nil ?_
    refine wpOp_step rfl (fun K hK => ?_)
    go_simp
    refine (step13d f 1 1 (5 + c0) 0 0 none 0 0 _).mono ?_
    rintro e V59 ⟨rfl, hb⟩
    replace HM := Lib.hid (HM.out.below hb)
    clear hb
    refine hK _ _ ⟨(fun y => ∃ q : CW [(⟨w.heap.size, 2, none⟩, .int .i64 c0)], y = q.1), ⟨⟨_, (allc ((HM.out.hb 0 _ _ _ rfl).cell (k := 2) HR0.out) (alln _))⟩, rfl⟩, fun _ h => h, ?_⟩
    clear hK K
    (try simp only [Act.put, List.setIfInBounds_toArray, List.set_cons_succ, List.set_cons_zero])
    repeat (go_big_quiet_step (fail))
    refine wpQuiet_nil ?_
    refine wpOp_step rfl (fun K hK => ?_)
    rw [if_pos (by rfl)]
    refine wpOm_st HM 57 (.tmp 2) (.tmp 15) rfl rfl 1 rfl (f.at_ 1).cells rfl rfl 98 inf57 (Fr.size _) (Fr.size _) (Fr.one _) ?_
    intro V60 hM
    (try simp only [List.cons_append, List.nil_append, List.set_cons_succ, List.set_cons_zero, Nat.reduceAdd] at hM)
    replace HM := hM
    clear hM
    refine hK _ _ ⟨(fun y => ∃ q : CW [(⟨w.heap.size, 2, none⟩, .int .i64 c0)], y = q.1), ⟨⟨_, (allc ((HM.out.hb 0 _ _ _ rfl).cell (k := 2) HR0.out) (alln _))⟩, rfl⟩, fun _ h => h, ?_⟩
    clear hK K
    (try simp only [Act.put, List.setIfInBounds_toArray, List.set_cons_succ, List.set_cons_zero])
    refine wpQuiet_nil ?_
    refine wpOp_step rfl (fun K hK => ?_)
    rw [if_pos (by rfl)]
    refine wpOm_st HM 59 (.tmp 3) (.tmp 16) rfl rfl 2 rfl (acC 1 (5 + c0) 0 0 0 (.slice none 0 0)) rfl rfl 7 inf59 rfl rfl (acC_one _ _ _ _ _ _ _ _) ?_
    intro V61 hM
    (try simp only [List.cons_append, List.nil_append, List.set_cons_succ, List.set_cons_zero, Nat.reduceAdd] at hM)
    replace HM := hM
    clear hM
    refine hK _ _ ⟨(fun y => ∃ q : CW [(⟨w.heap.size, 2, none⟩, .int .i64 c0)], y = q.1), ⟨⟨_, (allc ((HM.out.hb 0 _ _ _ rfl).cell (k := 2) HR0.out) (alln _))⟩, rfl⟩, fun _ h => h, ?_⟩
    clear hK K
    (try simp only [Act.put, List.setIfInBounds_toArray, List.set_cons_succ, List.set_cons_zero])
    refine wpQuiet_nil ?_
    refine NoPanic.normal ?_
    go_wp2_with fail
    (try simp only [Exit.inBlock, Exit.then])
    refine bodyPost_ret (res_cc rfl _ _ _ _ _ _ rfl rfl ((HM.out.hb 1 _ _ _ rfl).load57) ((HM.out.hb 2 _ _ _ rfl).load59 rfl)) rfl ?_
    exact ⟨⟨_, _, _, rfl, ints0 _ _ _ _⟩, HM.out.bel⟩
  · refine wpOp_step rfl (fun K hK => ?_)
    go_simp
    refine (pin13d c0 _ _ H4.out rfl).mono ?_
    rintro e V62 ⟨rfl, rfl⟩
    refine hK _ _ ⟨(fun y => ∃ q : CW [(⟨w.heap.size, 2, none⟩, .int .i64 c0)], y = q.1), ⟨⟨_, (allc ((HM.out.hb 0 _ _ _ rfl).cell (k := 2) HR0.out) (alln _))⟩, rfl⟩, fun _ h => h, ?_⟩
    clear hK K
    (try simp only [Act.put, List.setIfInBounds_toArray, List.set_cons_succ, List.set_cons_zero])
    refine wpQuiet_nil ?_
    refine ⟨?_, ?_⟩
    · refine wpOp_step rfl (fun K hK => ?_)
      rw [if_pos (by rfl)]
      refine wpOm_ld HM 57 (.tmp 1) rfl 8 rfl 0 rfl rfl 98 und57 inf57 (Fr.size _) ?_
      refine hK _ _ ⟨(fun y => ∃ q : CW [(⟨w.heap.size, 2, none⟩, .int .i64 c0)], y = q.1), ⟨⟨_, (allc ((HM.out.hb 0 _ _ _ rfl).cell (k := 2) HR0.out) (alln _))⟩, rfl⟩, fun _ h => h, ?_⟩
      clear hK K
      (try simp only [Act.put, List.setIfInBounds_toArray, List.set_cons_succ, List.set_cons_zero])
      refine wpQuiet_nil ?_
      refine wpOp_step rfl (fun K hK => ?_)
      go_simp
      refine (store13d (5 + c0) 0 _).mono ?_
      rintro e V63 ⟨rfl, hb⟩
      replace HM := Lib.hid (HM.out.below hb)
      clear hb
      refine hK _ _ ⟨(fun y => ∃ q : CW [(⟨w.heap.size, 2, none⟩, .int .i64 c0)], y = q.1), ⟨⟨_, (allc ((HM.out.hb 0 _ _ _ rfl).cell (k := 2) HR0.out) (alln _))⟩, rfl⟩, fun _ h => h, ?_⟩
      clear hK K
      (try simp only [Act.put, List.setIfInBounds_toArray, List.set_cons_succ, List.set_cons_zero])
      refine wpQuiet_nil ?_
      refine wpOp_step rfl (fun K hK => ?_)
      go_simp
      refine (step13d f 1 1 (5 + c0) 0 0 none 0 0 _).mono ?_
      rintro e V64 ⟨rfl, hb⟩
      replace HM := Lib.hid (HM.out.below hb)
      clear hb
      refine hK _ _ ⟨(fun y => ∃ q : CW [(⟨w.heap.size, 2, none⟩, .int .i64 c0)], y = q.1), ⟨⟨_, (allc ((HM.out.hb 0 _ _ _ rfl).cell (k := 2) HR0.out) (alln _))⟩, rfl⟩, fun _ h => h, ?_⟩
      clear hK K
      (try simp only [Act.put, List.setIfInBounds_toArray, List.set_cons_succ, List.set_cons_zero])
      repeat (go_big_quiet_step (fail))
      refine wpQuiet_nil ?_
      refine wpOp_step rfl (fun K hK => ?_)
      rw [if_pos (by rfl)]
      refine wpOm_st HM 57 (.tmp 2) (.tmp 15) rfl rfl 1 rfl (f.at_ 1).cells rfl rfl 98 inf57 (Fr.size _) (Fr.size _) (Fr.one _) ?_
      intro V65 hM
      (try simp only [List.cons_append, List.nil_append, List.set_cons_succ, List.set_cons_zero, Nat.reduceAdd] at hM)
      replace HM := hM
      clear hM
      refine hK _ _ ⟨(fun y => ∃ q : CW [(⟨w.heap.size, 2, none⟩, .int .i64 c0)], y = q.1), ⟨⟨_, (allc ((HM.out.hb 0 _ _ _ rfl).cell (k := 2) HR0.out) (alln _))⟩, rfl⟩, fun _ h => h, ?_⟩
      clear hK K
      (try simp only [Act.put, List.setIfInBounds_toArray, List.set_cons_succ, List.set_cons_zero])
      refine wpQuiet_nil ?_
      refine wpOp_step rfl (fun K hK => ?_)
      rw [if_pos (by rfl)]
      refine wpOm_st HM 59 (.tmp 3) (.tmp 16) rfl rfl 2 rfl (acC 1 (5 + c0) 0 0 0 (.slice none 0 0)) rfl rfl 7 inf59 rfl rfl (acC_one _ _ _ _ _ _ _ _) ?_
      intro V66 hM
      (try simp only [List.cons_append, List.nil_append, List.set_cons_succ, List.set_cons_zero, Nat.reduceAdd] at hM)
      replace HM := hM
      clear hM
      refine hK _ _ ⟨(fun y => ∃ q : CW [(⟨w.heap.size, 2, none⟩, .int .i64 c0)], y = q.1), ⟨⟨_, (allc ((HM.out.hb 0 _ _ _ rfl).cell (k := 2) HR0.out) (alln _))⟩, rfl⟩, fun _ h => h, ?_⟩
      clear hK K
      (try simp only [Act.put, List.setIfInBounds_toArray, List.set_cons_succ, List.set_cons_zero])
      refine wpQuiet_nil ?_
      refine NoPanic.normal ?_
      go_wp2_with fail
      (try simp only [Exit.inBlock, Exit.then])
      refine bodyPost_ret (res_cc rfl _ _ _ _ _ _ rfl rfl ((HM.out.hb 1 _ _ _ rfl).load57) ((HM.out.hb 2 _ _ _ rfl).load59 rfl)) rfl ?_
      exact ⟨⟨_, _, _, rfl, ints0 _ _ _ _⟩, HM.out.bel⟩
    · refine wpOp_step rfl (fun K hK => ?_)
      go_simp
      refine (store13d (5 + c0) 0 _).mono ?_
      rintro e V67 ⟨rfl, hb⟩
      replace HM := Lib.hid (HM.out.below hb)
      clear hb
      refine hK _ _ ⟨(fun y => ∃ q : CW [(⟨w.heap.size, 2, none⟩, .int .i64 c0)], y = q.1), ⟨⟨_, (allc ((HM.out.hb 0 _ _ _ rfl).cell (k := 2) HR0.out) (alln _))⟩, rfl⟩, fun _ h => h, ?_⟩
      clear hK K
      (try simp only [Act.put, List.setIfInBounds_toArray, List.set_cons_succ, List.set_cons_zero])
      refine wpQuiet_nil ?_
      refine wpOp_step rfl (fun K hK => ?_)
      rw [if_pos (by rfl)]
      refine wpOm_ld HM 57 (.tmp 1) rfl 8 rfl 0 rfl rfl 98 und57 inf57 (Fr.size _) ?_
      refine hK _ _ ⟨(fun y => ∃ q : CW [(⟨w.heap.size, 2, none⟩, .int .i64 c0)], y = q.1), ⟨⟨_, (allc ((HM.out.hb 0 _ _ _ rfl).cell (k := 2) HR0.out) (alln _))⟩, rfl⟩, fun _ h => h, ?_⟩
      clear hK K
      (try simp only [Act.put, List.setIfInBounds_toArray, List.set_cons_succ, List.set_cons_zero])
      refine wpQuiet_nil ?_
      refine wpOp_step rfl (fun K hK => ?_)
      go_simp
      refine (step13d f 1 1 (5 + c0) 0 0 none 0 0 _).mono ?_
      rintro e V68 ⟨rfl, hb⟩
      replace HM := Lib.hid (HM.out.below hb)
      clear hb
      refine hK _ _ ⟨(fun y => ∃ q : CW [(⟨w.heap.size, 2, none⟩, .int .i64 c0)], y = q.1), ⟨⟨_, (allc ((HM.out.hb 0 _ _ _ rfl).cell (k := 2) HR0.out) (alln _))⟩, rfl⟩, fun _ h => h, ?_⟩
      clear hK K
      (try simp only [Act.put, List.setIfInBounds_toArray, List.set_cons_succ, List.set_cons_zero])
      repeat (go_big_quiet_step (fail))
      refine wpQuiet_nil ?_
      refine wpOp_step rfl (fun K hK => ?_)
      rw [if_pos (by rfl)]
      refine wpOm_st HM 57 (.tmp 2) (.tmp 15) rfl rfl 1 rfl (f.at_ 1).cells rfl rfl 98 inf57 (Fr.size _) (Fr.size _) (Fr.one _) ?_
      intro V69 hM
      (try simp only [List.cons_append, List.nil_append, List.set_cons_succ, List.set_cons_zero, Nat.reduceAdd] at hM)
      replace HM := hM
      clear hM
      refine hK _ _ ⟨(fun y => ∃ q : CW [(⟨w.heap.size, 2, none⟩, .int .i64 c0)], y = q.1), ⟨⟨_, (allc ((HM.out.hb 0 _ _ _ rfl).cell (k := 2) HR0.out) (alln _))⟩, rfl⟩, fun _ h => h, ?_⟩
      clear hK K
      (try simp only [Act.put, List.setIfInBounds_toArray, List.set_cons_succ, List.set_cons_zero])
      refine wpQuiet_nil ?_
      refine wpOp_step rfl (fun K hK => ?_)
      rw [if_pos (by rfl)]
      refine wpOm_st HM 59 (.tmp 3) (.tmp 16) rfl rfl 2 rfl (acC 1 (5 + c0) 0 0 0 (.slice none 0 0)) rfl rfl 7 inf59 rfl rfl (acC_one _ _ _ _ _ _ _ _) ?_
      intro V70 hM
      (try simp only [List.cons_append, List.nil_append, List.set_cons_succ, List.set_cons_zero, Nat.reduceAdd] at hM)
      replace HM := hM
      clear hM
      refine hK _ _ ⟨(fun y => ∃ q : CW [(⟨w.heap.size, 2, none⟩, .int .i64 c0)], y = q.1), ⟨⟨_, (allc ((HM.out.hb 0 _ _ _ rfl).cell (k := 2) HR0.out) (alln _))⟩, rfl⟩, fun _ h => h, ?_⟩
      clear hK K
      (try simp only [Act.put, List.setIfInBounds_toArray, List.set_cons_succ, List.set_cons_zero])
      refine wpQuiet_nil ?_
      refine NoPanic.normal ?_
      go_wp2_with fail
      (try simp only [Exit.inBlock, Exit.then])
      refine bodyPost_ret (res_cc rfl _ _ _ _ _ _ rfl rfl ((HM.out.hb 1 _ _ _ rfl).load57) ((HM.out.hb 2 _ _ _ rfl).load59 rfl)) rfl ?_
      exact ⟨⟨_, _, _, rfl, ints0 _ _ _ _⟩, HM.out.bel⟩
set_option maxHeartbeats 2000000 in
set_option maxRecDepth 100000 in
theorem dun1 (f : Fr) (w : World) (hs : f.st = 1) : Calls Try.prog 83 #[.agg f.cells] w fun e w' => AnsB w w' e f 7 0 0 0 [] ∧ Below w.heap.size w w' := by
  have HM := Lib.hid (Mem.start w)
  have HS := Lib.hid (by rw [← hs]; exact f.c1 : f.cells[1]? = some (.int .i64 1))
  clear hs
  go_enter Try.func83, Try.ntmps83
  go_wp2_with (first
    | (refine wpm_box HM rfl 57 (.tmp 0) rfl _ rfl ?_; intro W hM; (try simp only [List.cons_append, List.nil_append, List.set_cons_succ, List.set_cons_zero, Nat.reduceAdd] at hM); replace HM := hM; clear hM)
    | (refine wpm_al57 HM rfl rfl ?_; intro W2 hM; (try simp only [List.cons_append, List.nil_append, List.set_cons_succ, List.set_cons_zero, Nat.reduceAdd] at hM); replace HM := hM; clear hM)
    | (refine wpm_al59 HM rfl rfl ?_; intro W3 hM; (try simp only [List.cons_append, List.nil_append, List.set_cons_succ, List.set_cons_zero, Nat.reduceAdd] at hM); replace HM := hM; clear hM; have ks : W3.cell? ⟨w.heap.size, 1, none⟩ = some (.int .i64 1) := (HM.out.hb 0 _ _ _ rfl).cell (k := 1) HS.out)
    | (refine wpm_ld57 HM rfl (.tmp 1) rfl 0 rfl rfl ?_))
  refine (end13d f _ 0 0 _).mono ?_
  rintro e W6 ⟨rfl, hb⟩
  replace HM := Lib.hid (HM.out.below hb)
  clear hb
  (try clear ks)
  (try clear kr)
  go_wp2_with (first
    | (refine wpm_st57 HM rfl (.tmp 2) (.tmp 21) rfl 1 rfl f rfl rfl ?_; intro W hM; (try simp only [List.cons_append, List.nil_append, List.set_cons_succ, List.set_cons_zero, Nat.reduceAdd] at hM); replace HM := hM; clear hM)
    | (refine wpm_st59 HM rfl (.tmp 3) (.tmp 22) rfl 2 rfl rfl 7 0 0 0 0 _ 0 0 rfl rfl ?_; intro W hM; (try simp only [List.cons_append, List.nil_append, List.set_cons_succ, List.set_cons_zero, Nat.reduceAdd] at hM); replace HM := hM; clear hM))
  (try simp only [Exit.inBlock, Exit.then])
  refine bodyPost_ret (res_cc rfl _ _ _ _ _ _ rfl rfl ((HM.out.hb 1 _ _ _ rfl).load57) ((HM.out.hb 2 _ _ _ rfl).load59 rfl)) rfl ?_
  exact ⟨⟨_, _, _, rfl, ints0 _ _ _ _⟩, HM.out.bel⟩
end Go.Proofs.Ytgpdknacnmapiaa
