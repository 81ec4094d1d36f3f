/-
  Parts of a proof, put together: Fe.
-/
import Derived.Test.YtgpdknacnmapiaaZh01
import Derived.Test.YtgpdknacnmapiaaZh02
import Derived.Test.YtgpdknacnmapiaaZh03
import Derived.Test.YtgpdknacnmapiaaZh04
import Derived.Test.YtgpdknacnmapiaaZh05
import Derived.Test.YtgpdknacnmapiaaZh06
import Derived.Test.YtgpdknacnmapiaaZh07
import Derived.Test.YtgpdknacnmapiaaZh08
import Derived.Test.YtgpdknacnmapiaaZh09
import Derived.Test.YtgpdknacnmapiaaZh10
import Derived.Test.YtgpdknacnmapiaaZh11
import Derived.Test.YtgpdknacnmapiaaZh12
import Derived.Test.YtgpdknacnmapiaaZh13
import Derived.Test.YtgpdknacnmapiaaZh14
import Derived.Test.YtgpdknacnmapiaaZh15
import Derived.Test.YtgpdknacnmapiaaZh16
import Derived.Test.YtgpdknacnmapiaaZh17
import Derived.Test.YtgpdknacnmapiaaZh23
import Derived.Test.YtgpdknacnmapiaaZh24
import Derived.Test.YtgpdknacnmapiaaZh25
import Derived.Test.YtgpdknacnmapiaaZh26
import Derived.Deep.QuietTactic
namespace Go.Proofs.Ytgpdknacnmapiaa
set_option linter.unusedVariables false
set_option linter.unusedSimpArgs false
open Go.RowKit
set_option maxHeartbeats 2000000 in
set_option maxRecDepth 100000 in
theorem rn13_52 (f F : Fr) (k a bb v : Int) (l : List Int) (vv : Value) (x : Int) (w : World) (hp : f.pg = 52) (hg : GotV w vv x)
    (hR : ∀ w, Calls Try.prog 81 #[.agg f.cells, .int .i64 x] w fun e w' => AnsB w w' e F k a bb v l ∧ Below w.heap.size w w') :
    Calls Try.prog 53 #[.agg f.cells, vv] w fun e w' => AnsB w w' e F k a bb v l ∧ Below w.heap.size w w' := by
  have HM := Lib.hid (Mem.start w)
  have HG := Lib.hid hg
  have HR := Lib.hid hR
  have HS := Lib.hid (by rw [← hp]; exact f.c0 : f.cells[0]? = some (.int .i8 52))
  clear hp hg hR
  go_enter Try.func53, Try.ntmps53
  go_wp2_with (first
    | (refine wpm_box HM rfl 57 (.tmp 0) rfl _ rfl ?_; intro W hM; (try simp only [List.cons_append, List.nil_append, List.set_cons_succ, List.set_cons_zero, Nat.reduceAdd] at hM); replace HM := hM; clear hM)
    | (refine wpm_al57 HM rfl rfl ?_; intro W2 hM; (try simp only [List.cons_append, List.nil_append, List.set_cons_succ, List.set_cons_zero, Nat.reduceAdd] at hM); replace HM := hM; clear hM)
    | (refine wpm_al59 HM rfl rfl ?_; intro W3 hM; (try simp only [List.cons_append, List.nil_append, List.set_cons_succ, List.set_cons_zero, Nat.reduceAdd] at hM); replace HM := hM; clear hM; have ks : W3.cell? ⟨w.heap.size, 0, none⟩ = some (.int .i8 52) := (HM.out.hb 0 _ _ _ rfl).cell (k := 0) HS.out))
  clear ks
  replace HM := Lib.hid HM.out.drew
  have HF : Hid (∀ p ∈ ([] : List (Addr × Value)), World.cell? W3.drew p.1 = some p.2) := Lib.hid (alln _)
  haveI : Inhabited (CW []) := ⟨⟨_, HF.out⟩⟩
  (try simp only [Act.put, List.setIfInBounds_toArray, List.set_cons_succ, List.set_cons_zero])
  refine wp_region_noPanic ?_
  refine wp_region_plw (.step [false, true] (.cons 0 (.step [] (.cons 2 (.step [] (.cons 3 (.step [false, false, false, false, true, true] (.cons 6 (.step [] (.cons 7 (.last []) .nil)) .nil)) .nil)) .nil)) (.cons 2 (.step [] (.cons 0 (.step [] (.cons 3 (.step [false, false, false, false, true, true] (.cons 6 (.step [] (.cons 7 (.last []) .nil)) .nil)) .nil)) .nil)) .nil))) (fun y => ∃ q : CW [], y = q.1) (by kernel_rfl) (by kernel_rfl) (by kernel_rfl) (fun _ _ _ _ _ _ _ h => h) ⟨⟨_, HF.out⟩, rfl⟩ ?_
  simp only [wpPw, wpBw, selF, and_true]
  generalize W3.drew = V143 at *
  repeat (go_big_quiet_step (fail))
  refine wpQuiet_nil ?_
  refine ⟨?_, ?_⟩
  · refine wpOp_step rfl (fun K hK => ?_)
    rw [if_pos (by rfl)]
    refine wpOm_ld HM 57 (.tmp 2) rfl 10 rfl 0 rfl rfl 98 und57 inf57 (Fr.size _) ?_
    refine hK _ _ ⟨(fun y => ∃ q : CW [], y = q.1), ⟨⟨_, (alln _)⟩, rfl⟩, fun _ h => h, ?_⟩
    clear hK K
    (try simp only [Act.put, List.setIfInBounds_toArray, List.set_cons_succ, List.set_cons_zero])
    refine wpQuiet_nil ?_
    refine wpOp_step rfl (fun K hK => ?_)
    go_simp
    refine (got82 vv x _ (HG.out.below HM.out.bel)).mono ?_
    rintro e V144 ⟨rfl, rfl⟩
    refine hK _ _ ⟨(fun y => ∃ q : CW [], y = q.1), ⟨⟨_, (alln _)⟩, rfl⟩, fun _ h => h, ?_⟩
    clear hK K
    (try simp only [Act.put, List.setIfInBounds_toArray, List.set_cons_succ, List.set_cons_zero])
    refine wpQuiet_nil ?_
    refine wpOp_step rfl (fun K hK => ?_)
    go_simp
    refine (HR.out _).mono ?_
    rintro e V145 ⟨⟨ao1, n1, c1, rfl, hi⟩, hb⟩
    have HI := Lib.hid hi
    have HN := Lib.hid HM.out.size
    have HMb := HM
    replace HM := Lib.hid (HM.out.below hb)
    clear hb hi
    have HMT := HM
    replace HM := Lib.hid HM.out.re
    refine hK _ _ ⟨(fun y => ∃ q : CW [], y = q.1), ⟨⟨_, (alln _)⟩, rfl⟩, fun _ h => h, ?_⟩
    clear hK K
    (try simp only [Act.put, List.setIfInBounds_toArray, List.set_cons_succ, List.set_cons_zero])
    repeat (go_big_quiet_step (fail))
    refine wpQuiet_nil ?_
    refine wpOp_step rfl (fun K hK => ?_)
    rw [if_pos (by rfl)]
    refine wpOm_st HM 57 (.tmp 4) (.tmp 14) rfl rfl 1 rfl (F).cells rfl rfl 98 inf57 (Fr.size _) (Fr.size _) (Fr.one _) ?_
    intro V146 hM
    (try simp only [List.cons_append, List.nil_append, List.set_cons_succ, List.set_cons_zero, Nat.reduceAdd] at hM)
    replace HM := hM
    clear hM
    refine hK _ _ ⟨(fun y => ∃ q : CW [], y = q.1), ⟨⟨_, (alln _)⟩, rfl⟩, fun _ h => h, ?_⟩
    clear hK K
    (try simp only [Act.put, List.setIfInBounds_toArray, List.set_cons_succ, List.set_cons_zero])
    refine wpQuiet_nil ?_
    refine wpOp_step rfl (fun K hK => ?_)
    rw [if_pos (by rfl)]
    refine wpOm_st HM 59 (.tmp 5) (.tmp 15) rfl rfl 2 rfl (acC k a bb v 0 (.slice ao1 n1 c1)) rfl rfl 7 inf59 rfl rfl (acC_one _ _ _ _ _ _ _ _) ?_
    intro V147 hM
    (try simp only [List.cons_append, List.nil_append, List.set_cons_succ, List.set_cons_zero, Nat.reduceAdd] at hM)
    replace HM := hM
    clear hM
    refine hK _ _ ⟨(fun y => ∃ q : CW [], y = q.1), ⟨⟨_, (alln _)⟩, rfl⟩, fun _ h => h, ?_⟩
    clear hK K
    (try simp only [Act.put, List.setIfInBounds_toArray, List.set_cons_succ, List.set_cons_zero])
    refine wpQuiet_nil ?_
    refine NoPanic.normal ?_
    go_wp2_with fail
    (try simp only [Exit.inBlock, Exit.then])
    refine bodyPost_ret (res_cc rfl _ _ _ _ _ _ rfl rfl ((HM.out.hb 1 _ _ _ rfl).load57) ((HM.out.hb 2 _ _ _ rfl).load59 rfl)) rfl ?_
    refine ⟨⟨_, _, _, rfl, ?_⟩, (HMT.out.tr HM.out).bel⟩
    refine (HI.out.mem HM.out (fun b hb hx => ?_)).low HN.out
    obtain ⟨i, E, u, hi⟩ := hx
    match i, hi with
    | 0, hi => simp at hi; have := HMb.out.lt (i := 0) rfl; omega
    | 1, hi => simp at hi; have := HMb.out.lt (i := 1) rfl; omega
    | 2, hi => simp at hi; have := HMb.out.lt (i := 2) rfl; omega
    | i + 3, hi => simp at hi
  · refine wpOp_step rfl (fun K hK => ?_)
    go_simp
    refine (got82 vv x _ (HG.out.below HM.out.bel)).mono ?_
    rintro e V148 ⟨rfl, rfl⟩
    refine hK _ _ ⟨(fun y => ∃ q : CW [], y = q.1), ⟨⟨_, (alln _)⟩, rfl⟩, fun _ h => h, ?_⟩
    clear hK K
    (try simp only [Act.put, List.setIfInBounds_toArray, List.set_cons_succ, List.set_cons_zero])
    refine wpQuiet_nil ?_
    refine wpOp_step rfl (fun K hK => ?_)
    rw [if_pos (by rfl)]
    refine wpOm_ld HM 57 (.tmp 2) rfl 10 rfl 0 rfl rfl 98 und57 inf57 (Fr.size _) ?_
    refine hK _ _ ⟨(fun y => ∃ q : CW [], y = q.1), ⟨⟨_, (alln _)⟩, rfl⟩, fun _ h => h, ?_⟩
    clear hK K
    (try simp only [Act.put, List.setIfInBounds_toArray, List.set_cons_succ, List.set_cons_zero])
    refine wpQuiet_nil ?_
    refine wpOp_step rfl (fun K hK => ?_)
    go_simp
    refine (HR.out _).mono ?_
    rintro e V149 ⟨⟨ao1, n1, c1, rfl, hi⟩, hb⟩
    have HI := Lib.hid hi
    have HN := Lib.hid HM.out.size
    have HMb := HM
    replace HM := Lib.hid (HM.out.below hb)
    clear hb hi
    have HMT := HM
    replace HM := Lib.hid HM.out.re
    refine hK _ _ ⟨(fun y => ∃ q : CW [], y = q.1), ⟨⟨_, (alln _)⟩, rfl⟩, fun _ h => h, ?_⟩
    clear hK K
    (try simp only [Act.put, List.setIfInBounds_toArray, List.set_cons_succ, List.set_cons_zero])
    repeat (go_big_quiet_step (fail))
    refine wpQuiet_nil ?_
    refine wpOp_step rfl (fun K hK => ?_)
    rw [if_pos (by rfl)]
    refine wpOm_st HM 57 (.tmp 4) (.tmp 14) rfl rfl 1 rfl (F).cells rfl rfl 98 inf57 (Fr.size _) (Fr.size _) (Fr.one _) ?_
    intro V150 hM
    (try simp only [List.cons_append, List.nil_append, List.set_cons_succ, List.set_cons_zero, Nat.reduceAdd] at hM)
    replace HM := hM
    clear hM
    refine hK _ _ ⟨(fun y => ∃ q : CW [], y = q.1), ⟨⟨_, (alln _)⟩, rfl⟩, fun _ h => h, ?_⟩
    clear hK K
    (try simp only [Act.put, List.setIfInBounds_toArray, List.set_cons_succ, List.set_cons_zero])
    refine wpQuiet_nil ?_
    refine wpOp_step rfl (fun K hK => ?_)
    rw [if_pos (by rfl)]
    refine wpOm_st HM 59 (.tmp 5) (.tmp 15) rfl rfl 2 rfl (acC k a bb v 0 (.slice ao1 n1 c1)) rfl rfl 7 inf59 rfl rfl (acC_one _ _ _ _ _ _ _ _) ?_
    intro V151 hM
    (try simp only [List.cons_append, List.nil_append, List.set_cons_succ, List.set_cons_zero, Nat.reduceAdd] at hM)
    replace HM := hM
    clear hM
    refine hK _ _ ⟨(fun y => ∃ q : CW [], y = q.1), ⟨⟨_, (alln _)⟩, rfl⟩, fun _ h => h, ?_⟩
    clear hK K
    (try simp only [Act.put, List.setIfInBounds_toArray, List.set_cons_succ, List.set_cons_zero])
    refine wpQuiet_nil ?_
    refine NoPanic.normal ?_
    go_wp2_with fail
    (try simp only [Exit.inBlock, Exit.then])
    refine bodyPost_ret (res_cc rfl _ _ _ _ _ _ rfl rfl ((HM.out.hb 1 _ _ _ rfl).load57) ((HM.out.hb 2 _ _ _ rfl).load59 rfl)) rfl ?_
    refine ⟨⟨_, _, _, rfl, ?_⟩, (HMT.out.tr HM.out).bel⟩
    refine (HI.out.mem HM.out (fun b hb hx => ?_)).low HN.out
    obtain ⟨i, E, u, hi⟩ := hx
    match i, hi with
    | 0, hi => simp at hi; have := HMb.out.lt (i := 0) rfl; omega
    | 1, hi => simp at hi; have := HMb.out.lt (i := 1) rfl; omega
    | 2, hi => simp at hi; have := HMb.out.lt (i := 2) rfl; omega
    | i + 3, hi => simp at hi
set_option maxHeartbeats 2000000 in
set_option maxRecDepth 100000 in
theorem rn13_53 (f F : Fr) (k a bb v : Int) (l : List Int) (vv : Value) (x : Int) (w : World) (hp : f.pg = 53) (hg : GotV w vv x)
    (hR : ∀ w, Calls Try.prog 83 #[.agg f.cells] w fun e w' => AnsB w w' e F k a bb v l ∧ Below w.heap.size w w') :
    Calls Try.prog 53 #[.agg f.cells, vv] w fun e w' => AnsB w w' e F k a bb v l ∧ Below w.heap.size w w' := by
  have HM := Lib.hid (Mem.start w)
  have HG := Lib.hid hg
  have HR := Lib.hid hR
  have HS := Lib.hid (by rw [← hp]; exact f.c0 : f.cells[0]? = some (.int .i8 53))
  clear hp hg hR
  go_enter Try.func53, Try.ntmps53
  go_wp2_with (first
    | (refine wpm_box HM rfl 57 (.tmp 0) rfl _ rfl ?_; intro W hM; (try simp only [List.cons_append, List.nil_append, List.set_cons_succ, List.set_cons_zero, Nat.reduceAdd] at hM); replace HM := hM; clear hM)
    | (refine wpm_al57 HM rfl rfl ?_; intro W2 hM; (try simp only [List.cons_append, List.nil_append, List.set_cons_succ, List.set_cons_zero, Nat.reduceAdd] at hM); replace HM := hM; clear hM)
    | (refine wpm_al59 HM rfl rfl ?_; intro W3 hM; (try simp only [List.cons_append, List.nil_append, List.set_cons_succ, List.set_cons_zero, Nat.reduceAdd] at hM); replace HM := hM; clear hM; have ks : W3.cell? ⟨w.heap.size, 0, none⟩ = some (.int .i8 53) := (HM.out.hb 0 _ _ _ rfl).cell (k := 0) HS.out)
    | (refine wpm_ld57 HM rfl (.tmp 2) rfl 0 rfl rfl ?_))
  refine (HR.out _).mono ?_
  rintro e W6 ⟨⟨ao1, n1, c1, rfl, hi⟩, hb⟩
  have HI := Lib.hid hi
  have HN := Lib.hid HM.out.size
  have HMb := HM
  replace HM := Lib.hid (HM.out.below hb)
  clear hb hi
  have HMT := HM
  replace HM := Lib.hid HM.out.re
  clear ks
  go_wp2_with (first
    | (refine wpm_st57 HM rfl (.tmp 4) (.tmp 20) rfl 1 rfl F rfl rfl ?_; intro W hM; (try simp only [List.cons_append, List.nil_append, List.set_cons_succ, List.set_cons_zero, Nat.reduceAdd] at hM); replace HM := hM; clear hM)
    | (refine wpm_st59 HM rfl (.tmp 5) (.tmp 21) rfl 2 rfl rfl k a bb v 0 ao1 n1 c1 rfl rfl ?_; intro W hM; (try simp only [List.cons_append, List.nil_append, List.set_cons_succ, List.set_cons_zero, Nat.reduceAdd] at hM); replace HM := hM; clear hM))
  (try simp only [Exit.inBlock, Exit.then])
  refine bodyPost_ret (res_cc rfl _ _ _ _ _ _ rfl rfl ((HM.out.hb 1 _ _ _ rfl).load57) ((HM.out.hb 2 _ _ _ rfl).load59 rfl)) rfl ?_
  refine ⟨⟨_, _, _, rfl, ?_⟩, (HMT.out.tr HM.out).bel⟩
  refine (HI.out.mem HM.out (fun b hb hx => ?_)).low HN.out
  obtain ⟨i, E, u, hi⟩ := hx
  match i, hi with
  | 0, hi => simp at hi; have := HMb.out.lt (i := 0) rfl; omega
  | 1, hi => simp at hi; have := HMb.out.lt (i := 1) rfl; omega
  | 2, hi => simp at hi; have := HMb.out.lt (i := 2) rfl; omega
  | i + 3, hi => simp at hi
set_option maxHeartbeats 2000000 in
set_option maxRecDepth 100000 in
theorem rn13_54 (f F : Fr) (k a bb v : Int) (l : List Int) (vv : Value) (x : Int) (w : World) (hp : f.pg = 54) (hg : GotV w vv x)
    (hR : ∀ w, Calls Try.prog 84 #[.agg f.cells, .int .i64 x] w fun e w' => AnsB w w' e F k a bb v l ∧ Below w.heap.size w w') :
    Calls Try.prog 53 #[.agg f.cells, vv] w fun e w' => AnsB w w' e F k a bb v l ∧ Below w.heap.size w w' := by
  have HM := Lib.hid (Mem.start w)
  have HG := Lib.hid hg
  have HR := Lib.hid hR
  have HS := Lib.hid (by rw [← hp]; exact f.c0 : f.cells[0]? = some (.int .i8 54))
  clear hp hg hR
  go_enter Try.func53, Try.ntmps53
  go_wp2_with (first
    | (refine wpm_box HM rfl 57 (.tmp 0) rfl _ rfl ?_; intro W hM; (try simp only [List.cons_append, List.nil_append, List.set_cons_succ, List.set_cons_zero, Nat.reduceAdd] at hM); replace HM := hM; clear hM)
    | (refine wpm_al57 HM rfl rfl ?_; intro W2 hM; (try simp only [List.cons_append, List.nil_append, List.set_cons_succ, List.set_cons_zero, Nat.reduceAdd] at hM); replace HM := hM; clear hM)
    | (refine wpm_al59 HM rfl rfl ?_; intro W3 hM; (try simp only [List.cons_append, List.nil_append, List.set_cons_succ, List.set_cons_zero, Nat.reduceAdd] at hM); replace HM := hM; clear hM; have ks : W3.cell? ⟨w.heap.size, 0, none⟩ = some (.int .i8 54) := (HM.out.hb 0 _ _ _ rfl).cell (k := 0) HS.out))
  clear ks
  replace HM := Lib.hid HM.out.drew
  have HF : Hid (∀ p ∈ ([] : List (Addr × Value)), World.cell? W3.drew p.1 = some p.2) := Lib.hid (alln _)
  haveI : Inhabited (CW []) := ⟨⟨_, HF.out⟩⟩
  (try simp only [Act.put, List.setIfInBounds_toArray, List.set_cons_succ, List.set_cons_zero])
  refine wp_region_noPanic ?_
  refine wp_region_plw (.step [false, true] (.cons 0 (.step [] (.cons 2 (.step [] (.cons 3 (.step [false, false, false, false, true, true] (.cons 6 (.step [] (.cons 7 (.last []) .nil)) .nil)) .nil)) .nil)) (.cons 2 (.step [] (.cons 0 (.step [] (.cons 3 (.step [false, false, false, false, true, true] (.cons 6 (.step [] (.cons 7 (.last []) .nil)) .nil)) .nil)) .nil)) .nil))) (fun y => ∃ q : CW [], y = q.1) (by kernel_rfl) (by kernel_rfl) (by kernel_rfl) (fun _ _ _ _ _ _ _ h => h) ⟨⟨_, HF.out⟩, rfl⟩ ?_
  simp only [wpPw, wpBw, selF, and_true]
  generalize W3.drew = V152 at *
  repeat (go_big_quiet_step (fail))
  refine wpQuiet_nil ?_
  refine ⟨?_, ?_⟩
  · refine wpOp_step rfl (fun K hK => ?_)
    rw [if_pos (by rfl)]
    refine wpOm_ld HM 57 (.tmp 2) rfl 24 rfl 0 rfl rfl 98 und57 inf57 (Fr.size _) ?_
    refine hK _ _ ⟨(fun y => ∃ q : CW [], y = q.1), ⟨⟨_, (alln _)⟩, rfl⟩, fun _ h => h, ?_⟩
    clear hK K
    (try simp only [Act.put, List.setIfInBounds_toArray, List.set_cons_succ, List.set_cons_zero])
    refine wpQuiet_nil ?_
    refine wpOp_step rfl (fun K hK => ?_)
    go_simp
    refine (got82 vv x _ (HG.out.below HM.out.bel)).mono ?_
    rintro e V153 ⟨rfl, rfl⟩
    refine hK _ _ ⟨(fun y => ∃ q : CW [], y = q.1), ⟨⟨_, (alln _)⟩, rfl⟩, fun _ h => h, ?_⟩
    clear hK K
    (try simp only [Act.put, List.setIfInBounds_toArray, List.set_cons_succ, List.set_cons_zero])
    refine wpQuiet_nil ?_
    refine wpOp_step rfl (fun K hK => ?_)
    go_simp
    refine (HR.out _).mono ?_
    rintro e V154 ⟨⟨ao1, n1, c1, rfl, hi⟩, hb⟩
    have HI := Lib.hid hi
    have HN := Lib.hid HM.out.size
    have HMb := HM
    replace HM := Lib.hid (HM.out.below hb)
    clear hb hi
    have HMT := HM
    replace HM := Lib.hid HM.out.re
    refine hK _ _ ⟨(fun y => ∃ q : CW [], y = q.1), ⟨⟨_, (alln _)⟩, rfl⟩, fun _ h => h, ?_⟩
    clear hK K
    (try simp only [Act.put, List.setIfInBounds_toArray, List.set_cons_succ, List.set_cons_zero])
    repeat (go_big_quiet_step (fail))
    refine wpQuiet_nil ?_
    refine wpOp_step rfl (fun K hK => ?_)
    rw [if_pos (by rfl)]
    refine wpOm_st HM 57 (.tmp 4) (.tmp 28) rfl rfl 1 rfl (F).cells rfl rfl 98 inf57 (Fr.size _) (Fr.size _) (Fr.one _) ?_
    intro V155 hM
    (try simp only [List.cons_append, List.nil_append, List.set_cons_succ, List.set_cons_zero, Nat.reduceAdd] at hM)
    replace HM := hM
    clear hM
    refine hK _ _ ⟨(fun y => ∃ q : CW [], y = q.1), ⟨⟨_, (alln _)⟩, rfl⟩, fun _ h => h, ?_⟩
    clear hK K
    (try simp only [Act.put, List.setIfInBounds_toArray, List.set_cons_succ, List.set_cons_zero])
    refine wpQuiet_nil ?_
    refine wpOp_step rfl (fun K hK => ?_)
    rw [if_pos (by rfl)]
    refine wpOm_st HM 59 (.tmp 5) (.tmp 29) rfl rfl 2 rfl (acC k a bb v 0 (.slice ao1 n1 c1)) rfl rfl 7 inf59 rfl rfl (acC_one _ _ _ _ _ _ _ _) ?_
    intro V156 hM
    (try simp only [List.cons_append, List.nil_append, List.set_cons_succ, List.set_cons_zero, Nat.reduceAdd] at hM)
    replace HM := hM
    clear hM
    refine hK _ _ ⟨(fun y => ∃ q : CW [], y = q.1), ⟨⟨_, (alln _)⟩, rfl⟩, fun _ h => h, ?_⟩
    clear hK K
    (try simp only [Act.put, List.setIfInBounds_toArray, List.set_cons_succ, List.set_cons_zero])
    refine wpQuiet_nil ?_
    refine NoPanic.normal ?_
    go_wp2_with fail
    (try simp only [Exit.inBlock, Exit.then])
    refine bodyPost_ret (res_cc rfl _ _ _ _ _ _ rfl rfl ((HM.out.hb 1 _ _ _ rfl).load57) ((HM.out.hb 2 _ _ _ rfl).load59 rfl)) rfl ?_
    refine ⟨⟨_, _, _, rfl, ?_⟩, (HMT.out.tr HM.out).bel⟩
    refine (HI.out.mem HM.out (fun b hb hx => ?_)).low HN.out
    obtain ⟨i, E, u, hi⟩ := hx
    match i, hi with
    | 0, hi => simp at hi; have := HMb.out.lt (i := 0) rfl; omega
    | 1, hi => simp at hi; have := HMb.out.lt (i := 1) rfl; omega
    | 2, hi => simp at hi; have := HMb.out.lt (i := 2) rfl; omega
    | i + 3, hi => simp at hi
  · refine wpOp_step rfl (fun K hK => ?_)
    go_simp
    refine (got82 vv x _ (HG.out.below HM.out.bel)).mono ?_
    rintro e V157 ⟨rfl, rfl⟩
    refine hK _ _ ⟨(fun y => ∃ q : CW [], y = q.1), ⟨⟨_, (alln _)⟩, rfl⟩, fun _ h => h, ?_⟩
    clear hK K
    (try simp only [Act.put, List.setIfInBounds_toArray, List.set_cons_succ, List.set_cons_zero])
    refine wpQuiet_nil ?_
    refine wpOp_step rfl (fun K hK => ?_)
    rw [if_pos (by rfl)]
    refine wpOm_ld HM 57 (.tmp 2) rfl 24 rfl 0 rfl rfl 98 und57 inf57 (Fr.size _) ?_
    refine hK _ _ ⟨(fun y => ∃ q : CW [], y = q.1), ⟨⟨_, (alln _)⟩, rfl⟩, fun _ h => h, ?_⟩
    clear hK K
    (try simp only [Act.put, List.setIfInBounds_toArray, List.set_cons_succ, List.set_cons_zero])
    refine wpQuiet_nil ?_
    refine wpOp_step rfl (fun K hK => ?_)
    go_simp
    refine (HR.out _).mono ?_
    rintro e V158 ⟨⟨ao1, n1, c1, rfl, hi⟩, hb⟩
    have HI := Lib.hid hi
    have HN := Lib.hid HM.out.size
    have HMb := HM
    replace HM := Lib.hid (HM.out.below hb)
    clear hb hi
    have HMT := HM
    replace HM := Lib.hid HM.out.re
    refine hK _ _ ⟨(fun y => ∃ q : CW [], y = q.1), ⟨⟨_, (alln _)⟩, rfl⟩, fun _ h => h, ?_⟩
    clear hK K
    (try simp only [Act.put, List.setIfInBounds_toArray, List.set_cons_succ, List.set_cons_zero])
    repeat (go_big_quiet_step (fail))
    refine wpQuiet_nil ?_
    refine wpOp_step rfl (fun K hK => ?_)
    rw [if_pos (by rfl)]
    refine wpOm_st HM 57 (.tmp 4) (.tmp 28) rfl rfl 1 rfl (F).cells rfl rfl 98 inf57 (Fr.size _) (Fr.size _) (Fr.one _) ?_
    intro V159 hM
    (try simp only [List.cons_append, List.nil_append, List.set_cons_succ, List.set_cons_zero, Nat.reduceAdd] at hM)
    replace HM := hM
    clear hM
    refine hK _ _ ⟨(fun y => ∃ q : CW [], y = q.1), ⟨⟨_, (alln _)⟩, rfl⟩, fun _ h => h, ?_⟩
    clear hK K
    (try simp only [Act.put, List.setIfInBounds_toArray, List.set_cons_succ, List.set_cons_zero])
    refine wpQuiet_nil ?_
    refine wpOp_step rfl (fun K hK => ?_)
    rw [if_pos (by rfl)]
    refine wpOm_st HM 59 (.tmp 5) (.tmp 29) rfl rfl 2 rfl (acC k a bb v 0 (.slice ao1 n1 c1)) rfl rfl 7 inf59 rfl rfl (acC_one _ _ _ _ _ _ _ _) ?_
    intro V160 hM
    (try simp only [List.cons_append, List.nil_append, List.set_cons_succ, List.set_cons_zero, Nat.reduceAdd] at hM)
    replace HM := hM
    clear hM
    refine hK _ _ ⟨(fun y => ∃ q : CW [], y = q.1), ⟨⟨_, (alln _)⟩, rfl⟩, fun _ h => h, ?_⟩
    clear hK K
    (try simp only [Act.put, List.setIfInBounds_toArray, List.set_cons_succ, List.set_cons_zero])
    refine wpQuiet_nil ?_
    refine NoPanic.normal ?_
    go_wp2_with fail
    (try simp only [Exit.inBlock, Exit.then])
    refine bodyPost_ret (res_cc rfl _ _ _ _ _ _ rfl rfl ((HM.out.hb 1 _ _ _ rfl).load57) ((HM.out.hb 2 _ _ _ rfl).load59 rfl)) rfl ?_
    refine ⟨⟨_, _, _, rfl, ?_⟩, (HMT.out.tr HM.out).bel⟩
    refine (HI.out.mem HM.out (fun b hb hx => ?_)).low HN.out
    obtain ⟨i, E, u, hi⟩ := hx
    match i, hi with
    | 0, hi => simp at hi; have := HMb.out.lt (i := 0) rfl; omega
    | 1, hi => simp at hi; have := HMb.out.lt (i := 1) rfl; omega
    | 2, hi => simp at hi; have := HMb.out.lt (i := 2) rfl; omega
    | i + 3, hi => simp at hi
theorem pr13_0 (f : Fr) (x : Int) (hp : f.pg = 52) (hs : f.st = 0) : ∀ vv w, GotV w vv x → Calls Try.prog 53 #[.agg f.cells, vv] w fun e w' => AnsB w w' e (f.at_ 1) 0 2 0 0 [] ∧ Below w.heap.size w w' := fun vv w hg =>
  rn13_52 f _ _ _ _ _ _ vv x w hp hg fun w => dpin0 f x w hs
theorem pr13_1 (f : Fr) (x : Int) (hp : f.pg = 52) (hs : f.st = 1) (c0 : Int) (hc0 : f.r 0 = c0) (h4 : 0 ≤ c0 ∧ c0 < 4) (hx : 0 ≤ x ∧ x ≤ 1000000) : ∀ vv w, GotV w vv x → Calls Try.prog 53 #[.agg f.cells, vv] w fun e w' => AnsB w w' e ((f.reg 1 x).at_ 2) 1 (5 + c0) 0 (x + 1) [] ∧ Below w.heap.size w w' := fun vv w hg =>
  rn13_52 f _ _ _ _ _ _ vv x w hp hg fun w => dpin1 f x w hs c0 hc0 h4 hx
theorem pr13_2 (f : Fr) (x : Int) (hp : f.pg = 52) (hs : f.st = 2) : ∀ vv w, GotV w vv x → Calls Try.prog 53 #[.agg f.cells, vv] w fun e w' => AnsB w w' e (f.at_ 3) 0 2 0 0 [] ∧ Below w.heap.size w w' := fun vv w hg =>
  rn13_52 f _ _ _ _ _ _ vv x w hp hg fun w => dpin2 f x w hs
theorem pr13_3e (f : Fr) (x : Int) (hp : f.pg = 52) (hs : f.st = 3) (he : f.r 1 = x) : ∀ vv w, GotV w vv x → Calls Try.prog 53 #[.agg f.cells, vv] w fun e w' => AnsB w w' e f 7 0 0 0 [x] ∧ Below w.heap.size w w' := fun vv w hg =>
  rn13_52 f _ _ _ _ _ _ vv x w hp hg fun w => dpin3e f x w hs he
theorem pr13_3g (f : Fr) (x : Int) (hp : f.pg = 52) (hs : f.st = 3) (c0 r1 : Int) (hc0 : f.r 0 = c0) (hr1 : f.r 1 = r1) (hne : x ≠ r1) (h4 : 0 ≤ c0 ∧ c0 < 4) (hx : 0 ≤ x ∧ x ≤ 1000000) : ∀ vv w, GotV w vv x → Calls Try.prog 53 #[.agg f.cells, vv] w fun e w' => AnsB w w' e ((f.reg 1 x).at_ 2) 1 (5 + c0) 0 (x + 1) [] ∧ Below w.heap.size w w' := fun vv w hg =>
  rn13_52 f _ _ _ _ _ _ vv x w hp hg fun w => dpin3g f x w hs c0 r1 hc0 hr1 hne h4 hx
theorem ur13_0 (f : Fr) (x : Int) (hp : f.pg = 53) (hs : f.st = 0) (c0 : Int) (hc0 : f.r 0 = c0) (h4 : 0 ≤ c0 ∧ c0 < 4) : ∀ vv w, GotV w vv x → Calls Try.prog 53 #[.agg f.cells, vv] w fun e w' => AnsB w w' e (f.at_ 1) 1 (5 + c0) 0 0 [] ∧ Below w.heap.size w w' := fun vv w hg =>
  rn13_53 f _ _ _ _ _ _ vv x w hp hg fun w => dun0 f w hs c0 hc0 h4
theorem ur13_1 (f : Fr) (x : Int) (hp : f.pg = 53) (hs : f.st = 1) : ∀ vv w, GotV w vv x → Calls Try.prog 53 #[.agg f.cells, vv] w fun e w' => AnsB w w' e f 7 0 0 0 [] ∧ Below w.heap.size w w' := fun vv w hg =>
  rn13_53 f _ _ _ _ _ _ vv x w hp hg fun w => dun1 f w hs
theorem ar13_0 (f : Fr) (x : Int) (hp : f.pg = 54) (hs : f.st = 0) : ∀ vv w, GotV w vv x → Calls Try.prog 53 #[.agg f.cells, vv] w fun e w' => AnsB w w' e (f.at_ 1) 0 2 0 0 [] ∧ Below w.heap.size w w' := fun vv w hg =>
  rn13_54 f _ _ _ _ _ _ vv x w hp hg fun w => dad0 f x w hs
theorem ar13_1 (f : Fr) (x : Int) (hp : f.pg = 54) (hs : f.st = 1) : ∀ vv w, GotV w vv x → Calls Try.prog 53 #[.agg f.cells, vv] w fun e w' => AnsB w w' e (((f.reg 0 x).reg 1 0).at_ 2) 0 5 0 0 [] ∧ Below w.heap.size w w' := fun vv w hg =>
  rn13_54 f _ _ _ _ _ _ vv x w hp hg fun w => dad1 f x w hs
theorem ar13_2e (f : Fr) (x : Int) (hp : f.pg = 54) (hs : f.st = 2) (e0 : Int) (he : f.r 0 = e0) (he9 : 0 ≤ e0 ∧ e0 ≤ 1000000) (h0 : x ≠ 0) (h1 : x ≠ e0 + 1) : ∀ vv w, GotV w vv x → Calls Try.prog 53 #[.agg f.cells, vv] w fun e w' => AnsB w w' e f 7 0 0 0 [0] ∧ Below w.heap.size w w' := fun vv w hg =>
  rn13_54 f _ _ _ _ _ _ vv x w hp hg fun w => dad2e f x w hs e0 he he9 h0 h1
theorem ar13_2lz (f : Fr) (x : Int) (hp : f.pg = 54) (hs : f.st = 2) (e0 : Int) (he : f.r 0 = e0) (he9 : 0 ≤ e0 ∧ e0 ≤ 1000000) (hc : f.r 1 = 3) (h0 : x = 0) : ∀ vv w, GotV w vv x → Calls Try.prog 53 #[.agg f.cells, vv] w fun e w' => AnsB w w' e ((f.reg 1 4).at_ 3) 2 2 e0 (e0 + 1) [] ∧ Below w.heap.size w w' := fun vv w hg =>
  rn13_54 f _ _ _ _ _ _ vv x w hp hg fun w => dad2lz f x w hs e0 he he9 hc h0
theorem ar13_2ln (f : Fr) (x : Int) (hp : f.pg = 54) (hs : f.st = 2) (e0 : Int) (he : f.r 0 = e0) (he9 : 0 ≤ e0 ∧ e0 ≤ 1000000) (hc : f.r 1 = 3) (h0 : x ≠ 0) (h1 : x = e0 + 1) : ∀ vv w, GotV w vv x → Calls Try.prog 53 #[.agg f.cells, vv] w fun e w' => AnsB w w' e ((f.reg 1 4).at_ 3) 2 2 e0 (e0 + 1) [] ∧ Below w.heap.size w w' := fun vv w hg =>
  rn13_54 f _ _ _ _ _ _ vv x w hp hg fun w => dad2ln f x w hs e0 he he9 hc h0 h1
theorem ar13_2cz (f : Fr) (x : Int) (hp : f.pg = 54) (hs : f.st = 2) (e0 : Int) (he : f.r 0 = e0) (he9 : 0 ≤ e0 ∧ e0 ≤ 1000000) (c0 : Int) (hc : f.r 1 = c0) (h4 : 0 ≤ c0 ∧ c0 < 3) (h0 : x = 0) : ∀ vv w, GotV w vv x → Calls Try.prog 53 #[.agg f.cells, vv] w fun e w' => AnsB w w' e ((f.reg 1 (c0 + 1)).at_ 2) 0 (5 + (c0 + 1)) 0 0 [] ∧ Below w.heap.size w w' := fun vv w hg =>
  rn13_54 f _ _ _ _ _ _ vv x w hp hg fun w => dad2cz f x w hs e0 he he9 c0 hc h4 h0
theorem ar13_2cn (f : Fr) (x : Int) (hp : f.pg = 54) (hs : f.st = 2) (e0 : Int) (he : f.r 0 = e0) (he9 : 0 ≤ e0 ∧ e0 ≤ 1000000) (c0 : Int) (hc : f.r 1 = c0) (h4 : 0 ≤ c0 ∧ c0 < 3) (h0 : x ≠ 0) (h1 : x = e0 + 1) : ∀ vv w, GotV w vv x → Calls Try.prog 53 #[.agg f.cells, vv] w fun e w' => AnsB w w' e ((f.reg 1 (c0 + 1)).at_ 2) 0 (5 + (c0 + 1)) 0 0 [] ∧ Below w.heap.size w w' := fun vv w hg =>
  rn13_54 f _ _ _ _ _ _ vv x w hp hg fun w => dad2cn f x w hs e0 he he9 c0 hc h4 h0 h1
theorem ar13_3 (f : Fr) (x : Int) (hp : f.pg = 54) (hs : f.st = 3) : ∀ vv w, GotV w vv x → Calls Try.prog 53 #[.agg f.cells, vv] w fun e w' => AnsB w w' e f 7 0 0 0 [x] ∧ Below w.heap.size w w' := fun vv w hg =>
  rn13_54 f _ _ _ _ _ _ vv x w hp hg fun w => dad3 f x w hs
end Go.Proofs.Ytgpdknacnmapiaa
