/-
  Parts of a proof, put together: Fd.
-/
import Derived.Test.YtgpdknacnmapiaaZh01
import Derived.Test.YtgpdknacnmapiaaZh02
import Derived.Test.YtgpdknacnmapiaaZh03
import Derived.Test.YtgpdknacnmapiaaZh04
import Derived.Test.YtgpdknacnmapiaaZh05
import Derived.Test.YtgpdknacnmapiaaZh06
import Derived.Test.YtgpdknacnmapiaaZh07
import Derived.Test.YtgpdknacnmapiaaZh08
import Derived.Test.YtgpdknacnmapiaaZh09
import Derived.Test.YtgpdknacnmapiaaZh10
import Derived.Test.YtgpdknacnmapiaaZh11
import Derived.Test.YtgpdknacnmapiaaZh12
import Derived.Test.YtgpdknacnmapiaaZh13
import Derived.Test.YtgpdknacnmapiaaZh14
import Derived.Test.YtgpdknacnmapiaaZh15
import Derived.Test.YtgpdknacnmapiaaZh16
import Derived.Test.YtgpdknacnmapiaaZh17
import Derived.Test.YtgpdknacnmapiaaZh23
import Derived.Deep.QuietTactic
namespace Go.Proofs.Ytgpdknacnmapiaa
set_option linter.unusedVariables false
set_option linter.unusedSimpArgs false
open Go.RowKit
set_option maxHeartbeats 2000000 in
set_option maxRecDepth 100000 in
theorem dad2cn (f : Fr) (x : Int) (w : World) (hs : f.st = 2) (e0 : Int) (he : f.r 0 = e0) (he9 : 0 ≤ e0 ∧ e0 ≤ 1000000) (c0 : Int) (hc : f.r 1 = c0) (h4 : 0 ≤ c0 ∧ c0 < 3) (h0 : x ≠ 0) (h1 : x = e0 + 1) : Calls Try.prog 84 #[.agg f.cells, .int .i64 x] w fun e w' => AnsB w w' e ((f.reg 1 (c0 + 1)).at_ 2) 0 (5 + (c0 + 1)) 0 0 [] ∧ Below w.heap.size w w' := by
  have HM := Lib.hid (Mem.start w)
  have HS := Lib.hid (by rw [← hs]; exact f.c1 : f.cells[1]? = some (.int .i64 2))
  have HR0 := Lib.hid (by rw [← he]; exact Fr.cr (f) 0 (by omega) : (f).cells[2]? = some (.int .i64 e0))
  have HR2 := Lib.hid (by rw [← he]; exact Fr.cr ((f.reg 1 (c0 + 1))) 0 (by omega) : ((f.reg 1 (c0 + 1))).cells[2]? = some (.int .i64 e0))
  have HR1 := Lib.hid (by rw [← hc]; exact Fr.cr f 1 (by omega) : f.cells[3]? = some (.int .i64 c0))
  have HR3 : Hid ((f.reg 1 (c0 + 1)).cells[3]? = some (.int .i64 (c0 + 1))) := Lib.hid (by rw [Fr.cr (f.reg 1 (c0 + 1)) 1 (by omega)]; simp [Fr.reg])
  obtain ⟨e1, e2⟩ := he9
  have ew : IntKind.i64.wrap (e0 + 1) = e0 + 1 := wrap_small (by omega) (by omega)
  have H4 := Lib.hid h4
  obtain ⟨h41, h42⟩ := h4
  have cw : IntKind.i64.wrap (c0 + 1) = c0 + 1 := wrap_small (by omega) (by omega)
  have cl : decide (c0 + 1 < 4) = true := by simp; omega
  have x0 : (x != 0) = true := by simpa using h0
  have x1 : (x != e0 + 1) = false := by simpa using h1
  clear h0 h1
  clear he hc
  clear hs
  go_enter Try.func84, Try.ntmps84
  go_wp2_with (first
    | (refine wpm_box HM rfl 57 (.tmp 0) rfl _ rfl ?_; intro W hM; (try simp only [List.cons_append, List.nil_append, List.set_cons_succ, List.set_cons_zero, Nat.reduceAdd] at hM); replace HM := hM; clear hM)
    | (refine wpm_al57 HM rfl rfl ?_; intro W2 hM; (try simp only [List.cons_append, List.nil_append, List.set_cons_succ, List.set_cons_zero, Nat.reduceAdd] at hM); replace HM := hM; clear hM)
    | (refine wpm_al59 HM rfl rfl ?_; intro W3 hM; (try simp only [List.cons_append, List.nil_append, List.set_cons_succ, List.set_cons_zero, Nat.reduceAdd] at hM); replace HM := hM; clear hM; have ks : W3.cell? ⟨w.heap.size, 1, none⟩ = some (.int .i64 2) := (HM.out.hb 0 _ _ _ rfl).cell (k := 1) HS.out; have kr : W3.cell? ⟨w.heap.size, 2, none⟩ = some (.int .i64 e0) := (HM.out.hb 0 _ _ _ rfl).cell (k := 2) HR0.out)
    | (refine wpm_ldc HM rfl 3 (.tmp 46) rfl lv3 0 3 rfl rfl (.int .i64 c0) HR1.out ?_)
    | (refine wpm_cell HM rfl 3 (.tmp 50) (.tmp 48) rfl Try.sizeOf3 0 3 rfl (.int .i64 (c0 + 1)) rfl rfl (.inl ⟨_, _, rfl⟩) (by rw [Fr.size]; omega) ((f.reg 1 (c0 + 1))).cells (Fr.setr f 1 (by omega) (c0 + 1)) ?_; intro W4 hM; (try simp only [List.cons_append, List.nil_append, List.set_cons_succ, List.set_cons_zero, Nat.reduceAdd] at hM); replace HM := hM; clear hM; clear kr ks)
    | (refine wpm_ldc HM rfl 3 (.tmp 52) rfl lv3 0 3 rfl rfl (.int .i64 (c0 + 1)) HR3.out ?_))
  replace HM := Lib.hid HM.out.drew
  have HF : Hid (∀ p ∈ ([(⟨w.heap.size, 3, none⟩, .int .i64 (c0 + 1))] : List (Addr × Value)), World.cell? W4.drew p.1 = some p.2) := Lib.hid (allc ((HM.out.hb 0 _ _ _ rfl).cell (k := 3) HR3.out) (alln _))
  haveI : Inhabited (CW [(⟨w.heap.size, 3, none⟩, .int .i64 (c0 + 1))]) := ⟨⟨_, HF.out⟩⟩
  have f0 : ∀ q : CW [(⟨w.heap.size, 3, none⟩, .int .i64 (c0 + 1))], q.1.cell? ⟨w.heap.size, 3, none⟩ = some (.int .i64 (c0 + 1)) := fun q => q.2 (⟨w.heap.size, 3, none⟩, .int .i64 (c0 + 1)) (by simp)
  (try simp only [Act.put, List.setIfInBounds_toArray, List.set_cons_succ, List.set_cons_zero])
  refine wp_region_noPanic ?_
  refine wp_region_plw (.step [false, true, true, true] (.cons 0 (.step [] (.cons 4 (.step [] (.cons 5 (.step [] (.cons 6 (.step [false, false, false, false, false, false, false, true, true] (.cons 9 (.step [] (.cons 10 (.last []) .nil)) .nil)) .nil)) .nil)) .nil)) (.cons 4 (.step [] (.cons 0 (.step [] (.cons 5 (.step [] (.cons 6 (.step [false, false, false, false, false, false, false, true, true] (.cons 9 (.step [] (.cons 10 (.last []) .nil)) .nil)) .nil)) .nil)) (.cons 5 (.step [] (.cons 0 (.step [] (.cons 6 (.step [false, false, false, false, false, false, false, true, true] (.cons 9 (.step [] (.cons 10 (.last []) .nil)) .nil)) .nil)) .nil)) .nil))) .nil))) (fun y => ∃ q : CW [(⟨w.heap.size, 3, none⟩, .int .i64 (c0 + 1))], y = q.1) (by kernel_rfl) (by kernel_rfl) (by kernel_rfl) (fun _ _ _ _ _ _ _ h => h) ⟨⟨_, HF.out⟩, rfl⟩ ?_
  simp only [wpPw, wpBw, selF, and_true]
  generalize W4.drew = V95 at *
  repeat (go_big_quiet_step (fail))
  refine wpQuiet_nil ?_
  refine ⟨?_, ?_⟩
  · refine wpOp_step rfl (fun K hK => ?_)
    rw [if_pos (by rfl)]
    refine wpOm_ld HM 57 (.tmp 2) rfl 55 rfl 0 rfl rfl 98 und57 inf57 (Fr.size _) ?_
    refine hK _ _ ⟨(fun y => ∃ q : CW [(⟨w.heap.size, 3, none⟩, .int .i64 (c0 + 1))], y = q.1), ⟨⟨_, (allc ((HM.out.hb 0 _ _ _ rfl).cell (k := 3) HR3.out) (alln _))⟩, rfl⟩, fun _ h => h, ?_⟩
    clear hK K
    (try simp only [Act.put, List.setIfInBounds_toArray, List.set_cons_succ, List.set_cons_zero])
    refine wpQuiet_nil ?_
    refine wpOp_step rfl (fun K hK => ?_)
    go_simp
    refine (pin13d (c0 + 1) _ _ (by omega) rfl).mono ?_
    rintro e V96 ⟨rfl, rfl⟩
    refine hK _ _ ⟨(fun y => ∃ q : CW [(⟨w.heap.size, 3, none⟩, .int .i64 (c0 + 1))], y = q.1), ⟨⟨_, (allc ((HM.out.hb 0 _ _ _ rfl).cell (k := 3) HR3.out) (alln _))⟩, rfl⟩, fun _ h => h, ?_⟩
    clear hK K
    (try simp only [Act.put, List.setIfInBounds_toArray, List.set_cons_succ, List.set_cons_zero])
    refine wpQuiet_nil ?_
    refine wpOp_step rfl (fun K hK => ?_)
    go_simp
    refine (load13d (5 + (c0 + 1)) _).mono ?_
    rintro e V97 ⟨rfl, hb⟩
    replace HM := Lib.hid (HM.out.below hb)
    clear hb
    refine hK _ _ ⟨(fun y => ∃ q : CW [(⟨w.heap.size, 3, none⟩, .int .i64 (c0 + 1))], y = q.1), ⟨⟨_, (allc ((HM.out.hb 0 _ _ _ rfl).cell (k := 3) HR3.out) (alln _))⟩, rfl⟩, fun _ h => h, ?_⟩
    clear hK K
    (try simp only [Act.put, List.setIfInBounds_toArray, List.set_cons_succ, List.set_cons_zero])
    refine wpQuiet_nil ?_
    refine wpOp_step rfl (fun K hK => ?_)
    go_simp
    refine (step13d (f.reg 1 (c0 + 1)) 2 0 (5 + (c0 + 1)) 0 0 none 0 0 _).mono ?_
    rintro e V98 ⟨rfl, hb⟩
    replace HM := Lib.hid (HM.out.below hb)
    clear hb
    refine hK _ _ ⟨(fun y => ∃ q : CW [(⟨w.heap.size, 3, none⟩, .int .i64 (c0 + 1))], y = q.1), ⟨⟨_, (allc ((HM.out.hb 0 _ _ _ rfl).cell (k := 3) HR3.out) (alln _))⟩, rfl⟩, fun _ h => h, ?_⟩
    clear hK K
    (try simp only [Act.put, List.setIfInBounds_toArray, List.set_cons_succ, List.set_cons_zero])
    repeat (go_big_quiet_step (fail))
    refine wpQuiet_nil ?_
    refine wpOp_step rfl (fun K hK => ?_)
    rw [if_pos (by rfl)]
    refine wpOm_st HM 57 (.tmp 4) (.tmp 62) rfl rfl 1 rfl ((f.reg 1 (c0 + 1)).at_ 2).cells rfl rfl 98 inf57 (Fr.size _) (Fr.size _) (Fr.one _) ?_
    intro V99 hM
    (try simp only [List.cons_append, List.nil_append, List.set_cons_succ, List.set_cons_zero, Nat.reduceAdd] at hM)
    replace HM := hM
    clear hM
    refine hK _ _ ⟨(fun y => ∃ q : CW [(⟨w.heap.size, 3, none⟩, .int .i64 (c0 + 1))], y = q.1), ⟨⟨_, (allc ((HM.out.hb 0 _ _ _ rfl).cell (k := 3) HR3.out) (alln _))⟩, rfl⟩, fun _ h => h, ?_⟩
    clear hK K
    (try simp only [Act.put, List.setIfInBounds_toArray, List.set_cons_succ, List.set_cons_zero])
    refine wpQuiet_nil ?_
    refine wpOp_step rfl (fun K hK => ?_)
    rw [if_pos (by rfl)]
    refine wpOm_st HM 59 (.tmp 5) (.tmp 63) rfl rfl 2 rfl (acC 0 (5 + (c0 + 1)) 0 0 0 (.slice none 0 0)) rfl rfl 7 inf59 rfl rfl (acC_one _ _ _ _ _ _ _ _) ?_
    intro V100 hM
    (try simp only [List.cons_append, List.nil_append, List.set_cons_succ, List.set_cons_zero, Nat.reduceAdd] at hM)
    replace HM := hM
    clear hM
    refine hK _ _ ⟨(fun y => ∃ q : CW [(⟨w.heap.size, 3, none⟩, .int .i64 (c0 + 1))], y = q.1), ⟨⟨_, (allc ((HM.out.hb 0 _ _ _ rfl).cell (k := 3) HR3.out) (alln _))⟩, rfl⟩, fun _ h => h, ?_⟩
    clear hK K
    (try simp only [Act.put, List.setIfInBounds_toArray, List.set_cons_succ, List.set_cons_zero])
    refine wpQuiet_nil ?_
    refine NoPanic.normal ?_
    go_wp2_with fail
    (try simp only [Exit.inBlock, Exit.then])
    refine bodyPost_ret (res_cc rfl _ _ _ _ _ _ rfl rfl ((HM.out.hb 1 _ _ _ rfl).load57) ((HM.out.hb 2 _ _ _ rfl).load59 rfl)) rfl ?_
    exact ⟨⟨_, _, _, rfl, ints0 _ _ _ _⟩, HM.out.bel⟩
  · refine wpOp_step rfl (fun K hK => ?_)
    go_simp
    refine (pin13d (c0 + 1) _ _ (by omega) rfl).mono ?_
    rintro e V101 ⟨rfl, rfl⟩
    refine hK _ _ ⟨(fun y => ∃ q : CW [(⟨w.heap.size, 3, none⟩, .int .i64 (c0 + 1))], y = q.1), ⟨⟨_, (allc ((HM.out.hb 0 _ _ _ rfl).cell (k := 3) HR3.out) (alln _))⟩, rfl⟩, fun _ h => h, ?_⟩
    clear hK K
    (try simp only [Act.put, List.setIfInBounds_toArray, List.set_cons_succ, List.set_cons_zero])
    refine wpQuiet_nil ?_
    refine ⟨?_, ?_⟩
    · refine wpOp_step rfl (fun K hK => ?_)
      rw [if_pos (by rfl)]
      refine wpOm_ld HM 57 (.tmp 2) rfl 55 rfl 0 rfl rfl 98 und57 inf57 (Fr.size _) ?_
      refine hK _ _ ⟨(fun y => ∃ q : CW [(⟨w.heap.size, 3, none⟩, .int .i64 (c0 + 1))], y = q.1), ⟨⟨_, (allc ((HM.out.hb 0 _ _ _ rfl).cell (k := 3) HR3.out) (alln _))⟩, rfl⟩, fun _ h => h, ?_⟩
      clear hK K
      (try simp only [Act.put, List.setIfInBounds_toArray, List.set_cons_succ, List.set_cons_zero])
      refine wpQuiet_nil ?_
      refine wpOp_step rfl (fun K hK => ?_)
      go_simp
      refine (load13d (5 + (c0 + 1)) _).mono ?_
      rintro e V102 ⟨rfl, hb⟩
      replace HM := Lib.hid (HM.out.below hb)
      clear hb
      refine hK _ _ ⟨(fun y => ∃ q : CW [(⟨w.heap.size, 3, none⟩, .int .i64 (c0 + 1))], y = q.1), ⟨⟨_, (allc ((HM.out.hb 0 _ _ _ rfl).cell (k := 3) HR3.out) (alln _))⟩, rfl⟩, fun _ h => h, ?_⟩
      clear hK K
      (try simp only [Act.put, List.setIfInBounds_toArray, List.set_cons_succ, List.set_cons_zero])
      refine wpQuiet_nil ?_
      refine wpOp_step rfl (fun K hK => ?_)
      go_simp
      refine (step13d (f.reg 1 (c0 + 1)) 2 0 (5 + (c0 + 1)) 0 0 none 0 0 _).mono ?_
      rintro e V103 ⟨rfl, hb⟩
      replace HM := Lib.hid (HM.out.below hb)
      clear hb
      refine hK _ _ ⟨(fun y => ∃ q : CW [(⟨w.heap.size, 3, none⟩, .int .i64 (c0 + 1))], y = q.1), ⟨⟨_, (allc ((HM.out.hb 0 _ _ _ rfl).cell (k := 3) HR3.out) (alln _))⟩, rfl⟩, fun _ h => h, ?_⟩
      clear hK K
      (try simp only [Act.put, List.setIfInBounds_toArray, List.set_cons_succ, List.set_cons_zero])
      repeat (go_big_quiet_step (fail))
      refine wpQuiet_nil ?_
      refine wpOp_step rfl (fun K hK => ?_)
      rw [if_pos (by rfl)]
      refine wpOm_st HM 57 (.tmp 4) (.tmp 62) rfl rfl 1 rfl ((f.reg 1 (c0 + 1)).at_ 2).cells rfl rfl 98 inf57 (Fr.size _) (Fr.size _) (Fr.one _) ?_
      intro V104 hM
      (try simp only [List.cons_append, List.nil_append, List.set_cons_succ, List.set_cons_zero, Nat.reduceAdd] at hM)
      replace HM := hM
      clear hM
      refine hK _ _ ⟨(fun y => ∃ q : CW [(⟨w.heap.size, 3, none⟩, .int .i64 (c0 + 1))], y = q.1), ⟨⟨_, (allc ((HM.out.hb 0 _ _ _ rfl).cell (k := 3) HR3.out) (alln _))⟩, rfl⟩, fun _ h => h, ?_⟩
      clear hK K
      (try simp only [Act.put, List.setIfInBounds_toArray, List.set_cons_succ, List.set_cons_zero])
      refine wpQuiet_nil ?_
      refine wpOp_step rfl (fun K hK => ?_)
      rw [if_pos (by rfl)]
      refine wpOm_st HM 59 (.tmp 5) (.tmp 63) rfl rfl 2 rfl (acC 0 (5 + (c0 + 1)) 0 0 0 (.slice none 0 0)) rfl rfl 7 inf59 rfl rfl (acC_one _ _ _ _ _ _ _ _) ?_
      intro V105 hM
      (try simp only [List.cons_append, List.nil_append, List.set_cons_succ, List.set_cons_zero, Nat.reduceAdd] at hM)
      replace HM := hM
      clear hM
      refine hK _ _ ⟨(fun y => ∃ q : CW [(⟨w.heap.size, 3, none⟩, .int .i64 (c0 + 1))], y = q.1), ⟨⟨_, (allc ((HM.out.hb 0 _ _ _ rfl).cell (k := 3) HR3.out) (alln _))⟩, rfl⟩, fun _ h => h, ?_⟩
      clear hK K
      (try simp only [Act.put, List.setIfInBounds_toArray, List.set_cons_succ, List.set_cons_zero])
      refine wpQuiet_nil ?_
      refine NoPanic.normal ?_
      go_wp2_with fail
      (try simp only [Exit.inBlock, Exit.then])
      refine bodyPost_ret (res_cc rfl _ _ _ _ _ _ rfl rfl ((HM.out.hb 1 _ _ _ rfl).load57) ((HM.out.hb 2 _ _ _ rfl).load59 rfl)) rfl ?_
      exact ⟨⟨_, _, _, rfl, ints0 _ _ _ _⟩, HM.out.bel⟩
    · refine wpOp_step rfl (fun K hK => ?_)
      go_simp
      refine (load13d (5 + (c0 + 1)) _).mono ?_
      rintro e V106 ⟨rfl, hb⟩
      replace HM := Lib.hid (HM.out.below hb)
      clear hb
      refine hK _ _ ⟨(fun y => ∃ q : CW [(⟨w.heap.size, 3, none⟩, .int .i64 (c0 + 1))], y = q.1), ⟨⟨_, (allc ((HM.out.hb 0 _ _ _ rfl).cell (k := 3) HR3.out) (alln _))⟩, rfl⟩, fun _ h => h, ?_⟩
      clear hK K
      (try simp only [Act.put, List.setIfInBounds_toArray, List.set_cons_succ, List.set_cons_zero])
      refine wpQuiet_nil ?_
      refine wpOp_step rfl (fun K hK => ?_)
      rw [if_pos (by rfl)]
      refine wpOm_ld HM 57 (.tmp 2) rfl 55 rfl 0 rfl rfl 98 und57 inf57 (Fr.size _) ?_
      refine hK _ _ ⟨(fun y => ∃ q : CW [(⟨w.heap.size, 3, none⟩, .int .i64 (c0 + 1))], y = q.1), ⟨⟨_, (allc ((HM.out.hb 0 _ _ _ rfl).cell (k := 3) HR3.out) (alln _))⟩, rfl⟩, fun _ h => h, ?_⟩
      clear hK K
      (try simp only [Act.put, List.setIfInBounds_toArray, List.set_cons_succ, List.set_cons_zero])
      refine wpQuiet_nil ?_
      refine wpOp_step rfl (fun K hK => ?_)
      go_simp
      refine (step13d (f.reg 1 (c0 + 1)) 2 0 (5 + (c0 + 1)) 0 0 none 0 0 _).mono ?_
      rintro e V107 ⟨rfl, hb⟩
      replace HM := Lib.hid (HM.out.below hb)
      clear hb
      refine hK _ _ ⟨(fun y => ∃ q : CW [(⟨w.heap.size, 3, none⟩, .int .i64 (c0 + 1))], y = q.1), ⟨⟨_, (allc ((HM.out.hb 0 _ _ _ rfl).cell (k := 3) HR3.out) (alln _))⟩, rfl⟩, fun _ h => h, ?_⟩
      clear hK K
      (try simp only [Act.put, List.setIfInBounds_toArray, List.set_cons_succ, List.set_cons_zero])
      repeat (go_big_quiet_step (fail))
      refine wpQuiet_nil ?_
      refine wpOp_step rfl (fun K hK => ?_)
      rw [if_pos (by rfl)]
      refine wpOm_st HM 57 (.tmp 4) (.tmp 62) rfl rfl 1 rfl ((f.reg 1 (c0 + 1)).at_ 2).cells rfl rfl 98 inf57 (Fr.size _) (Fr.size _) (Fr.one _) ?_
      intro V108 hM
      (try simp only [List.cons_append, List.nil_append, List.set_cons_succ, List.set_cons_zero, Nat.reduceAdd] at hM)
      replace HM := hM
      clear hM
      refine hK _ _ ⟨(fun y => ∃ q : CW [(⟨w.heap.size, 3, none⟩, .int .i64 (c0 + 1))], y = q.1), ⟨⟨_, (allc ((HM.out.hb 0 _ _ _ rfl).cell (k := 3) HR3.out) (alln _))⟩, rfl⟩, fun _ h => h, ?_⟩
      clear hK K
      (try simp only [Act.put, List.setIfInBounds_toArray, List.set_cons_succ, List.set_cons_zero])
      refine wpQuiet_nil ?_
      refine wpOp_step rfl (fun K hK => ?_)
      rw [if_pos (by rfl)]
      refine wpOm_st HM 59 (.tmp 5) (.tmp 63) rfl rfl 2 rfl (acC 0 (5 + (c0 + 1)) 0 0 0 (.slice none 0 0)) rfl rfl 7 inf59 rfl rfl (acC_one _ _ _ _ _ _ _ _) ?_
      intro V109 hM
      (try simp only [List.cons_append, List.nil_append, List.set_cons_succ, List.set_cons_zero, Nat.reduceAdd] at hM)
      replace HM := hM
      clear hM
      refine hK _ _ ⟨(fun y => ∃ q : CW [(⟨w.heap.size, 3, none⟩, .int .i64 (c0 + 1))], y = q.1), ⟨⟨_, (allc ((HM.out.hb 0 _ _ _ rfl).cell (k := 3) HR3.out) (alln _))⟩, rfl⟩, fun _ h => h, ?_⟩
      clear hK K
      (try simp only [Act.put, List.setIfInBounds_toArray, List.set_cons_succ, List.set_cons_zero])
      refine wpQuiet_nil ?_
      refine NoPanic.normal ?_
      go_wp2_with fail
      (try simp only [Exit.inBlock, Exit.then])
      refine bodyPost_ret (res_cc rfl _ _ _ _ _ _ rfl rfl ((HM.out.hb 1 _ _ _ rfl).load57) ((HM.out.hb 2 _ _ _ rfl).load59 rfl)) rfl ?_
      exact ⟨⟨_, _, _, rfl, ints0 _ _ _ _⟩, HM.out.bel⟩
set_option maxHeartbeats 2000000 in
set_option maxRecDepth 100000 in
theorem dad2cz (f : Fr) (x : Int) (w : World) (hs : f.st = 2) (e0 : Int) (he : f.r 0 = e0) (he9 : 0 ≤ e0 ∧ e0 ≤ 1000000) (c0 : Int) (hc : f.r 1 = c0) (h4 : 0 ≤ c0 ∧ c0 < 3) (h0 : x = 0) : Calls Try.prog 84 #[.agg f.cells, .int .i64 x] w fun e w' => AnsB w w' e ((f.reg 1 (c0 + 1)).at_ 2) 0 (5 + (c0 + 1)) 0 0 [] ∧ Below w.heap.size w w' := by
  have HM := Lib.hid (Mem.start w)
  have HS := Lib.hid (by rw [← hs]; exact f.c1 : f.cells[1]? = some (.int .i64 2))
  have HR0 := Lib.hid (by rw [← he]; exact Fr.cr (f) 0 (by omega) : (f).cells[2]? = some (.int .i64 e0))
  have HR2 := Lib.hid (by rw [← he]; exact Fr.cr ((f.reg 1 (c0 + 1))) 0 (by omega) : ((f.reg 1 (c0 + 1))).cells[2]? = some (.int .i64 e0))
  have HR1 := Lib.hid (by rw [← hc]; exact Fr.cr f 1 (by omega) : f.cells[3]? = some (.int .i64 c0))
  have HR3 : Hid ((f.reg 1 (c0 + 1)).cells[3]? = some (.int .i64 (c0 + 1))) := Lib.hid (by rw [Fr.cr (f.reg 1 (c0 + 1)) 1 (by omega)]; simp [Fr.reg])
  obtain ⟨e1, e2⟩ := he9
  have ew : IntKind.i64.wrap (e0 + 1) = e0 + 1 := wrap_small (by omega) (by omega)
  have H4 := Lib.hid h4
  obtain ⟨h41, h42⟩ := h4
  have cw : IntKind.i64.wrap (c0 + 1) = c0 + 1 := wrap_small (by omega) (by omega)
  have cl : decide (c0 + 1 < 4) = true := by simp; omega
  subst h0
  clear he hc
  clear hs
  go_enter Try.func84, Try.ntmps84
  go_wp2_with (first
    | (refine wpm_box HM rfl 57 (.tmp 0) rfl _ rfl ?_; intro W hM; (try simp only [List.cons_append, List.nil_append, List.set_cons_succ, List.set_cons_zero, Nat.reduceAdd] at hM); replace HM := hM; clear hM)
    | (refine wpm_al57 HM rfl rfl ?_; intro W2 hM; (try simp only [List.cons_append, List.nil_append, List.set_cons_succ, List.set_cons_zero, Nat.reduceAdd] at hM); replace HM := hM; clear hM)
    | (refine wpm_al59 HM rfl rfl ?_; intro W3 hM; (try simp only [List.cons_append, List.nil_append, List.set_cons_succ, List.set_cons_zero, Nat.reduceAdd] at hM); replace HM := hM; clear hM; have ks : W3.cell? ⟨w.heap.size, 1, none⟩ = some (.int .i64 2) := (HM.out.hb 0 _ _ _ rfl).cell (k := 1) HS.out; have kr : W3.cell? ⟨w.heap.size, 2, none⟩ = some (.int .i64 e0) := (HM.out.hb 0 _ _ _ rfl).cell (k := 2) HR0.out)
    | (refine wpm_ldc HM rfl 3 (.tmp 46) rfl lv3 0 3 rfl rfl (.int .i64 c0) HR1.out ?_)
    | (refine wpm_cell HM rfl 3 (.tmp 50) (.tmp 48) rfl Try.sizeOf3 0 3 rfl (.int .i64 (c0 + 1)) rfl rfl (.inl ⟨_, _, rfl⟩) (by rw [Fr.size]; omega) ((f.reg 1 (c0 + 1))).cells (Fr.setr f 1 (by omega) (c0 + 1)) ?_; intro W4 hM; (try simp only [List.cons_append, List.nil_append, List.set_cons_succ, List.set_cons_zero, Nat.reduceAdd] at hM); replace HM := hM; clear hM; clear kr ks)
    | (refine wpm_ldc HM rfl 3 (.tmp 52) rfl lv3 0 3 rfl rfl (.int .i64 (c0 + 1)) HR3.out ?_))
  replace HM := Lib.hid HM.out.drew
  have HF : Hid (∀ p ∈ ([(⟨w.heap.size, 3, none⟩, .int .i64 (c0 + 1))] : List (Addr × Value)), World.cell? W4.drew p.1 = some p.2) := Lib.hid (allc ((HM.out.hb 0 _ _ _ rfl).cell (k := 3) HR3.out) (alln _))
  haveI : Inhabited (CW [(⟨w.heap.size, 3, none⟩, .int .i64 (c0 + 1))]) := ⟨⟨_, HF.out⟩⟩
  have f0 : ∀ q : CW [(⟨w.heap.size, 3, none⟩, .int .i64 (c0 + 1))], q.1.cell? ⟨w.heap.size, 3, none⟩ = some (.int .i64 (c0 + 1)) := fun q => q.2 (⟨w.heap.size, 3, none⟩, .int .i64 (c0 + 1)) (by simp)
  (try simp only [Act.put, List.setIfInBounds_toArray, List.set_cons_succ, List.set_cons_zero])
  refine wp_region_noPanic ?_
  refine wp_region_plw (.step [false, true, true, true] (.cons 0 (.step [] (.cons 4 (.step [] (.cons 5 (.step [] (.cons 6 (.step [false, false, false, false, false, false, false, true, true] (.cons 9 (.step [] (.cons 10 (.last []) .nil)) .nil)) .nil)) .nil)) .nil)) (.cons 4 (.step [] (.cons 0 (.step [] (.cons 5 (.step [] (.cons 6 (.step [false, false, false, false, false, false, false, true, true] (.cons 9 (.step [] (.cons 10 (.last []) .nil)) .nil)) .nil)) .nil)) (.cons 5 (.step [] (.cons 0 (.step [] (.cons 6 (.step [false, false, false, false, false, false, false, true, true] (.cons 9 (.step [] (.cons 10 (.last []) .nil)) .nil)) .nil)) .nil)) .nil))) .nil))) (fun y => ∃ q : CW [(⟨w.heap.size, 3, none⟩, .int .i64 (c0 + 1))], y = q.1) (by kernel_rfl) (by kernel_rfl) (by kernel_rfl) (fun _ _ _ _ _ _ _ h => h) ⟨⟨_, HF.out⟩, rfl⟩ ?_
  simp only [wpPw, wpBw, selF, and_true]
  generalize W4.drew = V110 at *
  repeat (go_big_quiet_step (fail))
  refine wpQuiet_nil ?_
  refine ⟨?_, ?_⟩
  · refine wpOp_step rfl (fun K hK => ?_)
    rw [if_pos (by rfl)]
    refine wpOm_ld HM 57 (.tmp 2) rfl 55 rfl 0 rfl rfl 98 und57 inf57 (Fr.size _) ?_
    refine hK _ _ ⟨(fun y => ∃ q : CW [(⟨w.heap.size, 3, none⟩, .int .i64 (c0 + 1))], y = q.1), ⟨⟨_, (allc ((HM.out.hb 0 _ _ _ rfl).cell (k := 3) HR3.out) (alln _))⟩, rfl⟩, fun _ h => h, ?_⟩
    clear hK K
    (try simp only [Act.put, List.setIfInBounds_toArray, List.set_cons_succ, List.set_cons_zero])
    refine wpQuiet_nil ?_
    refine wpOp_step rfl (fun K hK => ?_)
    go_simp
    refine (pin13d (c0 + 1) _ _ (by omega) rfl).mono ?_
    rintro e V111 ⟨rfl, rfl⟩
    refine hK _ _ ⟨(fun y => ∃ q : CW [(⟨w.heap.size, 3, none⟩, .int .i64 (c0 + 1))], y = q.1), ⟨⟨_, (allc ((HM.out.hb 0 _ _ _ rfl).cell (k := 3) HR3.out) (alln _))⟩, rfl⟩, fun _ h => h, ?_⟩
    clear hK K
    (try simp only [Act.put, List.setIfInBounds_toArray, List.set_cons_succ, List.set_cons_zero])
    refine wpQuiet_nil ?_
    refine wpOp_step rfl (fun K hK => ?_)
    go_simp
    refine (load13d (5 + (c0 + 1)) _).mono ?_
    rintro e V112 ⟨rfl, hb⟩
    replace HM := Lib.hid (HM.out.below hb)
    clear hb
    refine hK _ _ ⟨(fun y => ∃ q : CW [(⟨w.heap.size, 3, none⟩, .int .i64 (c0 + 1))], y = q.1), ⟨⟨_, (allc ((HM.out.hb 0 _ _ _ rfl).cell (k := 3) HR3.out) (alln _))⟩, rfl⟩, fun _ h => h, ?_⟩
    clear hK K
    (try simp only [Act.put, List.setIfInBounds_toArray, List.set_cons_succ, List.set_cons_zero])
    refine wpQuiet_nil ?_
    refine wpOp_step rfl (fun K hK => ?_)
    go_simp
    refine (step13d (f.reg 1 (c0 + 1)) 2 0 (5 + (c0 + 1)) 0 0 none 0 0 _).mono ?_
    rintro e V113 ⟨rfl, hb⟩
    replace HM := Lib.hid (HM.out.below hb)
    clear hb
    refine hK _ _ ⟨(fun y => ∃ q : CW [(⟨w.heap.size, 3, none⟩, .int .i64 (c0 + 1))], y = q.1), ⟨⟨_, (allc ((HM.out.hb 0 _ _ _ rfl).cell (k := 3) HR3.out) (alln _))⟩, rfl⟩, fun _ h => h, ?_⟩
    clear hK K
    (try simp only [Act.put, List.setIfInBounds_toArray, List.set_cons_succ, List.set_cons_zero])
    repeat (go_big_quiet_step (fail))
    refine wpQuiet_nil ?_
    refine wpOp_step rfl (fun K hK => ?_)
    rw [if_pos (by rfl)]
    refine wpOm_st HM 57 (.tmp 4) (.tmp 62) rfl rfl 1 rfl ((f.reg 1 (c0 + 1)).at_ 2).cells rfl rfl 98 inf57 (Fr.size _) (Fr.size _) (Fr.one _) ?_
    intro V114 hM
    (try simp only [List.cons_append, List.nil_append, List.set_cons_succ, List.set_cons_zero, Nat.reduceAdd] at hM)
    replace HM := hM
    clear hM
    refine hK _ _ ⟨(fun y => ∃ q : CW [(⟨w.heap.size, 3, none⟩, .int .i64 (c0 + 1))], y = q.1), ⟨⟨_, (allc ((HM.out.hb 0 _ _ _ rfl).cell (k := 3) HR3.out) (alln _))⟩, rfl⟩, fun _ h => h, ?_⟩
    clear hK K
    (try simp only [Act.put, List.setIfInBounds_toArray, List.set_cons_succ, List.set_cons_zero])
    refine wpQuiet_nil ?_
    refine wpOp_step rfl (fun K hK => ?_)
    rw [if_pos (by rfl)]
    refine wpOm_st HM 59 (.tmp 5) (.tmp 63) rfl rfl 2 rfl (acC 0 (5 + (c0 + 1)) 0 0 0 (.slice none 0 0)) rfl rfl 7 inf59 rfl rfl (acC_one _ _ _ _ _ _ _ _) ?_
    intro V115 hM
    (try simp only [List.cons_append, List.nil_append, List.set_cons_succ, List.set_cons_zero, Nat.reduceAdd] at hM)
    replace HM := hM
    clear hM
    refine hK _ _ ⟨(fun y => ∃ q : CW [(⟨w.heap.size, 3, none⟩, .int .i64 (c0 + 1))], y = q.1), ⟨⟨_, (allc ((HM.out.hb 0 _ _ _ rfl).cell (k := 3) HR3.out) (alln _))⟩, rfl⟩, fun _ h => h, ?_⟩
    clear hK K
    (try simp only [Act.put, List.setIfInBounds_toArray, List.set_cons_succ, List.set_cons_zero])
    refine wpQuiet_nil ?_
    refine NoPanic.normal ?_
    go_wp2_with fail
    (try simp only [Exit.inBlock, Exit.then])
    refine bodyPost_ret (res_cc rfl _ _ _ _ _ _ rfl rfl ((HM.out.hb 1 _ _ _ rfl).load57) ((HM.out.hb 2 _ _ _ rfl).load59 rfl)) rfl ?_
    exact ⟨⟨_, _, _, rfl, ints0 _ _ _ _⟩, HM.out.bel⟩
  · refine wpOp_step rfl (fun K hK => ?_)
    go_simp
    refine (pin13d (c0 + 1) _ _ (by omega) rfl).mono ?_
    rintro e V116 ⟨rfl, rfl⟩
    refine hK _ _ ⟨(fun y => ∃ q : CW [(⟨w.heap.size, 3, none⟩, .int .i64 (c0 + 1))], y = q.1), ⟨⟨_, (allc ((HM.out.hb 0 _ _ _ rfl).cell (k := 3) HR3.out) (alln _))⟩, rfl⟩, fun _ h => h, ?_⟩
    clear hK K
    (try simp only [Act.put, List.setIfInBounds_toArray, List.set_cons_succ, List.set_cons_zero])
    refine wpQuiet_nil ?_
    refine ⟨?_, ?_⟩
    · refine wpOp_step rfl (fun K hK => ?_)
      rw [if_pos (by rfl)]
      refine wpOm_ld HM 57 (.tmp 2) rfl 55 rfl 0 rfl rfl 98 und57 inf57 (Fr.size _) ?_
      refine hK _ _ ⟨(fun y => ∃ q : CW [(⟨w.heap.size, 3, none⟩, .int .i64 (c0 + 1))], y = q.1), ⟨⟨_, (allc ((HM.out.hb 0 _ _ _ rfl).cell (k := 3) HR3.out) (alln _))⟩, rfl⟩, fun _ h => h, ?_⟩
      clear hK K
      (try simp only [Act.put, List.setIfInBounds_toArray, List.set_cons_succ, List.set_cons_zero])
      refine wpQuiet_nil ?_
      refine wpOp_step rfl (fun K hK => ?_)
      go_simp
      refine (load13d (5 + (c0 + 1)) _).mono ?_
      rintro e V117 ⟨rfl, hb⟩
      replace HM := Lib.hid (HM.out.below hb)
      clear hb
      refine hK _ _ ⟨(fun y => ∃ q : CW [(⟨w.heap.size, 3, none⟩, .int .i64 (c0 + 1))], y = q.1), ⟨⟨_, (allc ((HM.out.hb 0 _ _ _ rfl).cell (k := 3) HR3.out) (alln _))⟩, rfl⟩, fun _ h => h, ?_⟩
      clear hK K
      (try simp only [Act.put, List.setIfInBounds_toArray, List.set_cons_succ, List.set_cons_zero])
      refine wpQuiet_nil ?_
      refine wpOp_step rfl (fun K hK => ?_)
      go_simp
      refine (step13d (f.reg 1 (c0 + 1)) 2 0 (5 + (c0 + 1)) 0 0 none 0 0 _).mono ?_
      rintro e V118 ⟨rfl, hb⟩
      replace HM := Lib.hid (HM.out.below hb)
      clear hb
      refine hK _ _ ⟨(fun y => ∃ q : CW [(⟨w.heap.size, 3, none⟩, .int .i64 (c0 + 1))], y = q.1), ⟨⟨_, (allc ((HM.out.hb 0 _ _ _ rfl).cell (k := 3) HR3.out) (alln _))⟩, rfl⟩, fun _ h => h, ?_⟩
      clear hK K
      (try simp only [Act.put, List.setIfInBounds_toArray, List.set_cons_succ, List.set_cons_zero])
      repeat (go_big_quiet_step (fail))
      refine wpQuiet_nil ?_
      refine wpOp_step rfl (fun K hK => ?_)
      rw [if_pos (by rfl)]
      refine wpOm_st HM 57 (.tmp 4) (.tmp 62) rfl rfl 1 rfl ((f.reg 1 (c0 + 1)).at_ 2).cells rfl rfl 98 inf57 (Fr.size _) (Fr.size _) (Fr.one _) ?_
      intro V119 hM
      (try simp only [List.cons_append, List.nil_append, List.set_cons_succ, List.set_cons_zero, Nat.reduceAdd] at hM)
      replace HM := hM
      clear hM
      refine hK _ _ ⟨(fun y => ∃ q : CW [(⟨w.heap.size, 3, none⟩, .int .i64 (c0 + 1))], y = q.1), ⟨⟨_, (allc ((HM.out.hb 0 _ _ _ rfl).cell (k := 3) HR3.out) (alln _))⟩, rfl⟩, fun _ h => h, ?_⟩
      clear hK K
      (try simp only [Act.put, List.setIfInBounds_toArray, List.set_cons_succ, List.set_cons_zero])
      refine wpQuiet_nil ?_
      refine wpOp_step rfl (fun K hK => ?_)
      rw [if_pos (by rfl)]
      refine wpOm_st HM 59 (.tmp 5) (.tmp 63) rfl rfl 2 rfl (acC 0 (5 + (c0 + 1)) 0 0 0 (.slice none 0 0)) rfl rfl 7 inf59 rfl rfl (acC_one _ _ _ _ _ _ _ _) ?_
      intro V120 hM
      (try simp only [List.cons_append, List.nil_append, List.set_cons_succ, List.set_cons_zero, Nat.reduceAdd] at hM)
      replace HM := hM
      clear hM
      refine hK _ _ ⟨(fun y => ∃ q : CW [(⟨w.heap.size, 3, none⟩, .int .i64 (c0 + 1))], y = q.1), ⟨⟨_, (allc ((HM.out.hb 0 _ _ _ rfl).cell (k := 3) HR3.out) (alln _))⟩, rfl⟩, fun _ h => h, ?_⟩
      clear hK K
      (try simp only [Act.put, List.setIfInBounds_toArray, List.set_cons_succ, List.set_cons_zero])
      refine wpQuiet_nil ?_
      refine NoPanic.normal ?_
      go_wp2_with fail
      (try simp only [Exit.inBlock, Exit.then])
      refine bodyPost_ret (res_cc rfl _ _ _ _ _ _ rfl rfl ((HM.out.hb 1 _ _ _ rfl).load57) ((HM.out.hb 2 _ _ _ rfl).load59 rfl)) rfl ?_
      exact ⟨⟨_, _, _, rfl, ints0 _ _ _ _⟩, HM.out.bel⟩
    · refine wpOp_step rfl (fun K hK => ?_)
      go_simp
      refine (load13d (5 + (c0 + 1)) _).mono ?_
      rintro e V121 ⟨rfl, hb⟩
      replace HM := Lib.hid (HM.out.below hb)
      clear hb
      refine hK _ _ ⟨(fun y => ∃ q : CW [(⟨w.heap.size, 3, none⟩, .int .i64 (c0 + 1))], y = q.1), ⟨⟨_, (allc ((HM.out.hb 0 _ _ _ rfl).cell (k := 3) HR3.out) (alln _))⟩, rfl⟩, fun _ h => h, ?_⟩
      clear hK K
      (try simp only [Act.put, List.setIfInBounds_toArray, List.set_cons_succ, List.set_cons_zero])
      refine wpQuiet_nil ?_
      refine wpOp_step rfl (fun K hK => ?_)
      rw [if_pos (by rfl)]
      refine wpOm_ld HM 57 (.tmp 2) rfl 55 rfl 0 rfl rfl 98 und57 inf57 (Fr.size _) ?_
      refine hK _ _ ⟨(fun y => ∃ q : CW [(⟨w.heap.size, 3, none⟩, .int .i64 (c0 + 1))], y = q.1), ⟨⟨_, (allc ((HM.out.hb 0 _ _ _ rfl).cell (k := 3) HR3.out) (alln _))⟩, rfl⟩, fun _ h => h, ?_⟩
      clear hK K
      (try simp only [Act.put, List.setIfInBounds_toArray, List.set_cons_succ, List.set_cons_zero])
      refine wpQuiet_nil ?_
      refine wpOp_step rfl (fun K hK => ?_)
      go_simp
      refine (step13d (f.reg 1 (c0 + 1)) 2 0 (5 + (c0 + 1)) 0 0 none 0 0 _).mono ?_
      rintro e V122 ⟨rfl, hb⟩
      replace HM := Lib.hid (HM.out.below hb)
      clear hb
      refine hK _ _ ⟨(fun y => ∃ q : CW [(⟨w.heap.size, 3, none⟩, .int .i64 (c0 + 1))], y = q.1), ⟨⟨_, (allc ((HM.out.hb 0 _ _ _ rfl).cell (k := 3) HR3.out) (alln _))⟩, rfl⟩, fun _ h => h, ?_⟩
      clear hK K
      (try simp only [Act.put, List.setIfInBounds_toArray, List.set_cons_succ, List.set_cons_zero])
      repeat (go_big_quiet_step (fail))
      refine wpQuiet_nil ?_
      refine wpOp_step rfl (fun K hK => ?_)
      rw [if_pos (by rfl)]
      refine wpOm_st HM 57 (.tmp 4) (.tmp 62) rfl rfl 1 rfl ((f.reg 1 (c0 + 1)).at_ 2).cells rfl rfl 98 inf57 (Fr.size _) (Fr.size _) (Fr.one _) ?_
      intro V123 hM
      (try simp only [List.cons_append, List.nil_append, List.set_cons_succ, List.set_cons_zero, Nat.reduceAdd] at hM)
      replace HM := hM
      clear hM
      refine hK _ _ ⟨(fun y => ∃ q : CW [(⟨w.heap.size, 3, none⟩, .int .i64 (c0 + 1))], y = q.1), ⟨⟨_, (allc ((HM.out.hb 0 _ _ _ rfl).cell (k := 3) HR3.out) (alln _))⟩, rfl⟩, fun _ h => h, ?_⟩
      clear hK K
      (try simp only [Act.put, List.setIfInBounds_toArray, List.set_cons_succ, List.set_cons_zero])
      refine wpQuiet_nil ?_
      refine wpOp_step rfl (fun K hK => ?_)
      rw [if_pos (by rfl)]
      refine wpOm_st HM 59 (.tmp 5) (.tmp 63) rfl rfl 2 rfl (acC 0 (5 + (c0 + 1)) 0 0 0 (.slice none 0 0)) rfl rfl 7 inf59 rfl rfl (acC_one _ _ _ _ _ _ _ _) ?_
      intro V124 hM
      (try simp only [List.cons_append, List.nil_append, List.set_cons_succ, List.set_cons_zero, Nat.reduceAdd] at hM)
      replace HM := hM
      clear hM
      refine hK _ _ ⟨(fun y => ∃ q : CW [(⟨w.heap.size, 3, none⟩, .int .i64 (c0 + 1))], y = q.1), ⟨⟨_, (allc ((HM.out.hb 0 _ _ _ rfl).cell (k := 3) HR3.out) (alln _))⟩, rfl⟩, fun _ h => h, ?_⟩
      clear hK K
      (try simp only [Act.put, List.setIfInBounds_toArray, List.set_cons_succ, List.set_cons_zero])
      refine wpQuiet_nil ?_
      refine NoPanic.normal ?_
      go_wp2_with fail
      (try simp only [Exit.inBlock, Exit.then])
      refine bodyPost_ret (res_cc rfl _ _ _ _ _ _ rfl rfl ((HM.out.hb 1 _ _ _ rfl).load57) ((HM.out.hb 2 _ _ _ rfl).load59 rfl)) rfl ?_
      exact ⟨⟨_, _, _, rfl, ints0 _ _ _ _⟩, HM.out.bel⟩
set_option maxHeartbeats 2000000 in
set_option maxRecDepth 100000 in
theorem dad2ln (f : Fr) (x : Int) (w : World) (hs : f.st = 2) (e0 : Int) (he : f.r 0 = e0) (he9 : 0 ≤ e0 ∧ e0 ≤ 1000000) (hc : f.r 1 = 3) (h0 : x ≠ 0) (h1 : x = e0 + 1) : Calls Try.prog 84 #[.agg f.cells, .int .i64 x] w fun e w' => AnsB w w' e ((f.reg 1 4).at_ 3) 2 2 e0 (e0 + 1) [] ∧ Below w.heap.size w w' := by
  have HM := Lib.hid (Mem.start w)
  have HS := Lib.hid (by rw [← hs]; exact f.c1 : f.cells[1]? = some (.int .i64 2))
  have HR0 := Lib.hid (by rw [← he]; exact Fr.cr (f) 0 (by omega) : (f).cells[2]? = some (.int .i64 e0))
  have HR2 := Lib.hid (by rw [← he]; exact Fr.cr ((f.reg 1 4)) 0 (by omega) : ((f.reg 1 4)).cells[2]? = some (.int .i64 e0))
  have HR1 := Lib.hid (by rw [← hc]; exact Fr.cr f 1 (by omega) : f.cells[3]? = some (.int .i64 3))
  have HR3 : Hid ((f.reg 1 4).cells[3]? = some (.int .i64 4)) := Lib.hid (by rw [Fr.cr (f.reg 1 4) 1 (by omega)]; simp [Fr.reg])
  obtain ⟨e1, e2⟩ := he9
  have ew : IntKind.i64.wrap (e0 + 1) = e0 + 1 := wrap_small (by omega) (by omega)
  have x0 : (x != 0) = true := by simpa using h0
  have x1 : (x != e0 + 1) = false := by simpa using h1
  clear h0 h1
  clear he hc
  clear hs
  go_enter Try.func84, Try.ntmps84
  go_wp2_with (first
    | (refine wpm_box HM rfl 57 (.tmp 0) rfl _ rfl ?_; intro W hM; (try simp only [List.cons_append, List.nil_append, List.set_cons_succ, List.set_cons_zero, Nat.reduceAdd] at hM); replace HM := hM; clear hM)
    | (refine wpm_al57 HM rfl rfl ?_; intro W2 hM; (try simp only [List.cons_append, List.nil_append, List.set_cons_succ, List.set_cons_zero, Nat.reduceAdd] at hM); replace HM := hM; clear hM)
    | (refine wpm_al59 HM rfl rfl ?_; intro W3 hM; (try simp only [List.cons_append, List.nil_append, List.set_cons_succ, List.set_cons_zero, Nat.reduceAdd] at hM); replace HM := hM; clear hM; have ks : W3.cell? ⟨w.heap.size, 1, none⟩ = some (.int .i64 2) := (HM.out.hb 0 _ _ _ rfl).cell (k := 1) HS.out; have kr : W3.cell? ⟨w.heap.size, 2, none⟩ = some (.int .i64 e0) := (HM.out.hb 0 _ _ _ rfl).cell (k := 2) HR0.out)
    | (refine wpm_ldc HM rfl 3 (.tmp 46) rfl lv3 0 3 rfl rfl (.int .i64 3) HR1.out ?_)
    | (refine wpm_cell HM rfl 3 (.tmp 50) (.tmp 48) rfl Try.sizeOf3 0 3 rfl (.int .i64 4) rfl rfl (.inl ⟨_, _, rfl⟩) (by rw [Fr.size]; omega) ((f.reg 1 4)).cells (Fr.setr f 1 (by omega) 4) ?_; intro W4 hM; (try simp only [List.cons_append, List.nil_append, List.set_cons_succ, List.set_cons_zero, Nat.reduceAdd] at hM); replace HM := hM; clear hM; clear kr ks)
    | (refine wpm_ldc HM rfl 3 (.tmp 52) rfl lv3 0 3 rfl rfl (.int .i64 4) HR3.out ?_))
  replace HM := Lib.hid HM.out.drew
  have HF : Hid (∀ p ∈ ([(⟨w.heap.size, 2, none⟩, .int .i64 e0)] : List (Addr × Value)), World.cell? W4.drew p.1 = some p.2) := Lib.hid (allc ((HM.out.hb 0 _ _ _ rfl).cell (k := 2) HR2.out) (alln _))
  haveI : Inhabited (CW [(⟨w.heap.size, 2, none⟩, .int .i64 e0)]) := ⟨⟨_, HF.out⟩⟩
  have f0 : ∀ q : CW [(⟨w.heap.size, 2, none⟩, .int .i64 e0)], q.1.cell? ⟨w.heap.size, 2, none⟩ = some (.int .i64 e0) := fun q => q.2 (⟨w.heap.size, 2, none⟩, .int .i64 e0) (by simp)
  (try simp only [Act.put, List.setIfInBounds_toArray, List.set_cons_succ, List.set_cons_zero])
  refine wp_region_noPanic ?_
  refine wp_region_plw (.step [false, true, true, true, true, true, true, true] (.cons 0 (.step [] (.cons 8 (.step [] (.cons 9 (.step [false, false, false, false, false, false, false, false, false, false, true, true] (.cons 12 (.step [] (.cons 13 (.last []) .nil)) .nil)) .nil)) .nil)) (.cons 8 (.step [] (.cons 0 (.step [] (.cons 9 (.step [false, false, false, false, false, false, false, false, false, false, true, true] (.cons 12 (.step [] (.cons 13 (.last []) .nil)) .nil)) .nil)) .nil)) .nil))) (fun y => ∃ q : CW [(⟨w.heap.size, 2, none⟩, .int .i64 e0)], y = q.1) (by kernel_rfl) (by kernel_rfl) (by kernel_rfl) (fun _ _ _ _ _ _ _ h => h) ⟨⟨_, HF.out⟩, rfl⟩ ?_
  simp only [wpPw, wpBw, selF, and_true]
  generalize W4.drew = V125 at *
  repeat (go_big_quiet_step (fail))
  refine wpQuiet_nil ?_
  refine ⟨?_, ?_⟩
  · refine wpOp_step rfl (fun K hK => ?_)
    rw [if_pos (by rfl)]
    refine wpOm_ld HM 57 (.tmp 2) rfl 64 rfl 0 rfl rfl 98 und57 inf57 (Fr.size _) ?_
    refine hK _ _ ⟨(fun y => ∃ q : CW [(⟨w.heap.size, 2, none⟩, .int .i64 e0)], y = q.1), ⟨⟨_, (allc ((HM.out.hb 0 _ _ _ rfl).cell (k := 2) HR2.out) (alln _))⟩, rfl⟩, fun _ h => h, ?_⟩
    clear hK K
    (try simp only [Act.put, List.setIfInBounds_toArray, List.set_cons_succ, List.set_cons_zero])
    refine wpQuiet_nil ?_
    refine wpOp_step rfl (fun K hK => ?_)
    go_simp
    refine (cas13d 2 e0 (e0 + 1) _).mono ?_
    rintro e V126 ⟨rfl, hb⟩
    replace HM := Lib.hid (HM.out.below hb)
    clear hb
    refine hK _ _ ⟨(fun y => ∃ q : CW [(⟨w.heap.size, 2, none⟩, .int .i64 e0)], y = q.1), ⟨⟨_, (allc ((HM.out.hb 0 _ _ _ rfl).cell (k := 2) HR2.out) (alln _))⟩, rfl⟩, fun _ h => h, ?_⟩
    clear hK K
    (try simp only [Act.put, List.setIfInBounds_toArray, List.set_cons_succ, List.set_cons_zero])
    refine wpQuiet_nil ?_
    refine wpOp_step rfl (fun K hK => ?_)
    go_simp
    refine (step13d (f.reg 1 4) 3 2 2 e0 (e0 + 1) none 0 0 _).mono ?_
    rintro e V127 ⟨rfl, hb⟩
    replace HM := Lib.hid (HM.out.below hb)
    clear hb
    refine hK _ _ ⟨(fun y => ∃ q : CW [(⟨w.heap.size, 2, none⟩, .int .i64 e0)], y = q.1), ⟨⟨_, (allc ((HM.out.hb 0 _ _ _ rfl).cell (k := 2) HR2.out) (alln _))⟩, rfl⟩, fun _ h => h, ?_⟩
    clear hK K
    (try simp only [Act.put, List.setIfInBounds_toArray, List.set_cons_succ, List.set_cons_zero])
    repeat (go_big_quiet_step (fail))
    refine wpQuiet_nil ?_
    refine wpOp_step rfl (fun K hK => ?_)
    rw [if_pos (by rfl)]
    refine wpOm_st HM 57 (.tmp 4) (.tmp 74) rfl rfl 1 rfl ((f.reg 1 4).at_ 3).cells rfl rfl 98 inf57 (Fr.size _) (Fr.size _) (Fr.one _) ?_
    intro V128 hM
    (try simp only [List.cons_append, List.nil_append, List.set_cons_succ, List.set_cons_zero, Nat.reduceAdd] at hM)
    replace HM := hM
    clear hM
    refine hK _ _ ⟨(fun y => ∃ q : CW [(⟨w.heap.size, 2, none⟩, .int .i64 e0)], y = q.1), ⟨⟨_, (allc ((HM.out.hb 0 _ _ _ rfl).cell (k := 2) HR2.out) (alln _))⟩, rfl⟩, fun _ h => h, ?_⟩
    clear hK K
    (try simp only [Act.put, List.setIfInBounds_toArray, List.set_cons_succ, List.set_cons_zero])
    refine wpQuiet_nil ?_
    refine wpOp_step rfl (fun K hK => ?_)
    rw [if_pos (by rfl)]
    refine wpOm_st HM 59 (.tmp 5) (.tmp 75) rfl rfl 2 rfl (acC 2 2 e0 (e0 + 1) 0 (.slice none 0 0)) rfl rfl 7 inf59 rfl rfl (acC_one _ _ _ _ _ _ _ _) ?_
    intro V129 hM
    (try simp only [List.cons_append, List.nil_append, List.set_cons_succ, List.set_cons_zero, Nat.reduceAdd] at hM)
    replace HM := hM
    clear hM
    refine hK _ _ ⟨(fun y => ∃ q : CW [(⟨w.heap.size, 2, none⟩, .int .i64 e0)], y = q.1), ⟨⟨_, (allc ((HM.out.hb 0 _ _ _ rfl).cell (k := 2) HR2.out) (alln _))⟩, rfl⟩, fun _ h => h, ?_⟩
    clear hK K
    (try simp only [Act.put, List.setIfInBounds_toArray, List.set_cons_succ, List.set_cons_zero])
    refine wpQuiet_nil ?_
    refine NoPanic.normal ?_
    go_wp2_with fail
    (try simp only [Exit.inBlock, Exit.then])
    refine bodyPost_ret (res_cc rfl _ _ _ _ _ _ rfl rfl ((HM.out.hb 1 _ _ _ rfl).load57) ((HM.out.hb 2 _ _ _ rfl).load59 rfl)) rfl ?_
    exact ⟨⟨_, _, _, rfl, ints0 _ _ _ _⟩, HM.out.bel⟩
  · refine wpOp_step rfl (fun K hK => ?_)
    go_simp
    refine (cas13d 2 e0 (e0 + 1) _).mono ?_
    rintro e V130 ⟨rfl, hb⟩
    replace HM := Lib.hid (HM.out.below hb)
    clear hb
    refine hK _ _ ⟨(fun y => ∃ q : CW [(⟨w.heap.size, 2, none⟩, .int .i64 e0)], y = q.1), ⟨⟨_, (allc ((HM.out.hb 0 _ _ _ rfl).cell (k := 2) HR2.out) (alln _))⟩, rfl⟩, fun _ h => h, ?_⟩
    clear hK K
    (try simp only [Act.put, List.setIfInBounds_toArray, List.set_cons_succ, List.set_cons_zero])
    refine wpQuiet_nil ?_
    refine wpOp_step rfl (fun K hK => ?_)
    rw [if_pos (by rfl)]
    refine wpOm_ld HM 57 (.tmp 2) rfl 64 rfl 0 rfl rfl 98 und57 inf57 (Fr.size _) ?_
    refine hK _ _ ⟨(fun y => ∃ q : CW [(⟨w.heap.size, 2, none⟩, .int .i64 e0)], y = q.1), ⟨⟨_, (allc ((HM.out.hb 0 _ _ _ rfl).cell (k := 2) HR2.out) (alln _))⟩, rfl⟩, fun _ h => h, ?_⟩
    clear hK K
    (try simp only [Act.put, List.setIfInBounds_toArray, List.set_cons_succ, List.set_cons_zero])
    refine wpQuiet_nil ?_
    refine wpOp_step rfl (fun K hK => ?_)
    go_simp
    refine (step13d (f.reg 1 4) 3 2 2 e0 (e0 + 1) none 0 0 _).mono ?_
    rintro e V131 ⟨rfl, hb⟩
    replace HM := Lib.hid (HM.out.below hb)
    clear hb
    refine hK _ _ ⟨(fun y => ∃ q : CW [(⟨w.heap.size, 2, none⟩, .int .i64 e0)], y = q.1), ⟨⟨_, (allc ((HM.out.hb 0 _ _ _ rfl).cell (k := 2) HR2.out) (alln _))⟩, rfl⟩, fun _ h => h, ?_⟩
    clear hK K
    (try simp only [Act.put, List.setIfInBounds_toArray, List.set_cons_succ, List.set_cons_zero])
    repeat (go_big_quiet_step (fail))
    refine wpQuiet_nil ?_
    refine wpOp_step rfl (fun K hK => ?_)
    rw [if_pos (by rfl)]
    refine wpOm_st HM 57 (.tmp 4) (.tmp 74) rfl rfl 1 rfl ((f.reg 1 4).at_ 3).cells rfl rfl 98 inf57 (Fr.size _) (Fr.size _) (Fr.one _) ?_
    intro V132 hM
    (try simp only [List.cons_append, List.nil_append, List.set_cons_succ, List.set_cons_zero, Nat.reduceAdd] at hM)
    replace HM := hM
    clear hM
    refine hK _ _ ⟨(fun y => ∃ q : CW [(⟨w.heap.size, 2, none⟩, .int .i64 e0)], y = q.1), ⟨⟨_, (allc ((HM.out.hb 0 _ _ _ rfl).cell (k := 2) HR2.out) (alln _))⟩, rfl⟩, fun _ h => h, ?_⟩
    clear hK K
    (try simp only [Act.put, List.setIfInBounds_toArray, List.set_cons_succ, List.set_cons_zero])
    refine wpQuiet_nil ?_
    refine wpOp_step rfl (fun K hK => ?_)
    rw [if_pos (by rfl)]
    refine wpOm_st HM 59 (.tmp 5) (.tmp 75) rfl rfl 2 rfl (acC 2 2 e0 (e0 + 1) 0 (.slice none 0 0)) rfl rfl 7 inf59 rfl rfl (acC_one _ _ _ _ _ _ _ _) ?_
    intro V133 hM
    (try simp only [List.cons_append, List.nil_append, List.set_cons_succ, List.set_cons_zero, Nat.reduceAdd] at hM)
    replace HM := hM
    clear hM
    refine hK _ _ ⟨(fun y => ∃ q : CW [(⟨w.heap.size, 2, none⟩, .int .i64 e0)], y = q.1), ⟨⟨_, (allc ((HM.out.hb 0 _ _ _ rfl).cell (k := 2) HR2.out) (alln _))⟩, rfl⟩, fun _ h => h, ?_⟩
    clear hK K
    (try simp only [Act.put, List.setIfInBounds_toArray, List.set_cons_succ, List.set_cons_zero])
    refine wpQuiet_nil ?_
    refine NoPanic.normal ?_
    go_wp2_with fail
    (try simp only [Exit.inBlock, Exit.then])
    refine bodyPost_ret (res_cc rfl _ _ _ _ _ _ rfl rfl ((HM.out.hb 1 _ _ _ rfl).load57) ((HM.out.hb 2 _ _ _ rfl).load59 rfl)) rfl ?_
    exact ⟨⟨_, _, _, rfl, ints0 _ _ _ _⟩, HM.out.bel⟩
set_option maxHeartbeats 2000000 in
set_option maxRecDepth 100000 in
theorem dad2lz (f : Fr) (x : Int) (w : World) (hs : f.st = 2) (e0 : Int) (he : f.r 0 = e0) (he9 : 0 ≤ e0 ∧ e0 ≤ 1000000) (hc : f.r 1 = 3) (h0 : x = 0) : Calls Try.prog 84 #[.agg f.cells, .int .i64 x] w fun e w' => AnsB w w' e ((f.reg 1 4).at_ 3) 2 2 e0 (e0 + 1) [] ∧ Below w.heap.size w w' := by
  have HM := Lib.hid (Mem.start w)
  have HS := Lib.hid (by rw [← hs]; exact f.c1 : f.cells[1]? = some (.int .i64 2))
  have HR0 := Lib.hid (by rw [← he]; exact Fr.cr (f) 0 (by omega) : (f).cells[2]? = some (.int .i64 e0))
  have HR2 := Lib.hid (by rw [← he]; exact Fr.cr ((f.reg 1 4)) 0 (by omega) : ((f.reg 1 4)).cells[2]? = some (.int .i64 e0))
  have HR1 := Lib.hid (by rw [← hc]; exact Fr.cr f 1 (by omega) : f.cells[3]? = some (.int .i64 3))
  have HR3 : Hid ((f.reg 1 4).cells[3]? = some (.int .i64 4)) := Lib.hid (by rw [Fr.cr (f.reg 1 4) 1 (by omega)]; simp [Fr.reg])
  obtain ⟨e1, e2⟩ := he9
  have ew : IntKind.i64.wrap (e0 + 1) = e0 + 1 := wrap_small (by omega) (by omega)
  subst h0
  clear he hc
  clear hs
  go_enter Try.func84, Try.ntmps84
  go_wp2_with (first
    | (refine wpm_box HM rfl 57 (.tmp 0) rfl _ rfl ?_; intro W hM; (try simp only [List.cons_append, List.nil_append, List.set_cons_succ, List.set_cons_zero, Nat.reduceAdd] at hM); replace HM := hM; clear hM)
    | (refine wpm_al57 HM rfl rfl ?_; intro W2 hM; (try simp only [List.cons_append, List.nil_append, List.set_cons_succ, List.set_cons_zero, Nat.reduceAdd] at hM); replace HM := hM; clear hM)
    | (refine wpm_al59 HM rfl rfl ?_; intro W3 hM; (try simp only [List.cons_append, List.nil_append, List.set_cons_succ, List.set_cons_zero, Nat.reduceAdd] at hM); replace HM := hM; clear hM; have ks : W3.cell? ⟨w.heap.size, 1, none⟩ = some (.int .i64 2) := (HM.out.hb 0 _ _ _ rfl).cell (k := 1) HS.out; have kr : W3.cell? ⟨w.heap.size, 2, none⟩ = some (.int .i64 e0) := (HM.out.hb 0 _ _ _ rfl).cell (k := 2) HR0.out)
    | (refine wpm_ldc HM rfl 3 (.tmp 46) rfl lv3 0 3 rfl rfl (.int .i64 3) HR1.out ?_)
    | (refine wpm_cell HM rfl 3 (.tmp 50) (.tmp 48) rfl Try.sizeOf3 0 3 rfl (.int .i64 4) rfl rfl (.inl ⟨_, _, rfl⟩) (by rw [Fr.size]; omega) ((f.reg 1 4)).cells (Fr.setr f 1 (by omega) 4) ?_; intro W4 hM; (try simp only [List.cons_append, List.nil_append, List.set_cons_succ, List.set_cons_zero, Nat.reduceAdd] at hM); replace HM := hM; clear hM; clear kr ks)
    | (refine wpm_ldc HM rfl 3 (.tmp 52) rfl lv3 0 3 rfl rfl (.int .i64 4) HR3.out ?_))
  replace HM := Lib.hid HM.out.drew
  have HF : Hid (∀ p ∈ ([(⟨w.heap.size, 2, none⟩, .int .i64 e0)] : List (Addr × Value)), World.cell? W4.drew p.1 = some p.2) := Lib.hid (allc ((HM.out.hb 0 _ _ _ rfl).cell (k := 2) HR2.out) (alln _))
  haveI : Inhabited (CW [(⟨w.heap.size, 2, none⟩, .int .i64 e0)]) := ⟨⟨_, HF.out⟩⟩
  have f0 : ∀ q : CW [(⟨w.heap.size, 2, none⟩, .int .i64 e0)], q.1.cell? ⟨w.heap.size, 2, none⟩ = some (.int .i64 e0) := fun q => q.2 (⟨w.heap.size, 2, none⟩, .int .i64 e0) (by simp)
  (try simp only [Act.put, List.setIfInBounds_toArray, List.set_cons_succ, List.set_cons_zero])
  refine wp_region_noPanic ?_
  refine wp_region_plw (.step [false, true, true, true, true, true, true, true] (.cons 0 (.step [] (.cons 8 (.step [] (.cons 9 (.step [false, false, false, false, false, false, false, false, false, false, true, true] (.cons 12 (.step [] (.cons 13 (.last []) .nil)) .nil)) .nil)) .nil)) (.cons 8 (.step [] (.cons 0 (.step [] (.cons 9 (.step [false, false, false, false, false, false, false, false, false, false, true, true] (.cons 12 (.step [] (.cons 13 (.last []) .nil)) .nil)) .nil)) .nil)) .nil))) (fun y => ∃ q : CW [(⟨w.heap.size, 2, none⟩, .int .i64 e0)], y = q.1) (by kernel_rfl) (by kernel_rfl) (by kernel_rfl) (fun _ _ _ _ _ _ _ h => h) ⟨⟨_, HF.out⟩, rfl⟩ ?_
  simp only [wpPw, wpBw, selF, and_true]
  generalize W4.drew = V134 at *
  repeat (go_big_quiet_step (fail))
  refine wpQuiet_nil ?_
  refine ⟨?_, ?_⟩
  · refine wpOp_step rfl (fun K hK => ?_)
    rw [if_pos (by rfl)]
    refine wpOm_ld HM 57 (.tmp 2) rfl 64 rfl 0 rfl rfl 98 und57 inf57 (Fr.size _) ?_
    refine hK _ _ ⟨(fun y => ∃ q : CW [(⟨w.heap.size, 2, none⟩, .int .i64 e0)], y = q.1), ⟨⟨_, (allc ((HM.out.hb 0 _ _ _ rfl).cell (k := 2) HR2.out) (alln _))⟩, rfl⟩, fun _ h => h, ?_⟩
    clear hK K
    (try simp only [Act.put, List.setIfInBounds_toArray, List.set_cons_succ, List.set_cons_zero])
    refine wpQuiet_nil ?_
    refine wpOp_step rfl (fun K hK => ?_)
    go_simp
    refine (cas13d 2 e0 (e0 + 1) _).mono ?_
    rintro e V135 ⟨rfl, hb⟩
    replace HM := Lib.hid (HM.out.below hb)
    clear hb
    refine hK _ _ ⟨(fun y => ∃ q : CW [(⟨w.heap.size, 2, none⟩, .int .i64 e0)], y = q.1), ⟨⟨_, (allc ((HM.out.hb 0 _ _ _ rfl).cell (k := 2) HR2.out) (alln _))⟩, rfl⟩, fun _ h => h, ?_⟩
    clear hK K
    (try simp only [Act.put, List.setIfInBounds_toArray, List.set_cons_succ, List.set_cons_zero])
    refine wpQuiet_nil ?_
    refine wpOp_step rfl (fun K hK => ?_)
    go_simp
    refine (step13d (f.reg 1 4) 3 2 2 e0 (e0 + 1) none 0 0 _).mono ?_
    rintro e V136 ⟨rfl, hb⟩
    replace HM := Lib.hid (HM.out.below hb)
    clear hb
    refine hK _ _ ⟨(fun y => ∃ q : CW [(⟨w.heap.size, 2, none⟩, .int .i64 e0)], y = q.1), ⟨⟨_, (allc ((HM.out.hb 0 _ _ _ rfl).cell (k := 2) HR2.out) (alln _))⟩, rfl⟩, fun _ h => h, ?_⟩
    clear hK K
    (try simp only [Act.put, List.setIfInBounds_toArray, List.set_cons_succ, List.set_cons_zero])
    repeat (go_big_quiet_step (fail))
    refine wpQuiet_nil ?_
    refine wpOp_step rfl (fun K hK => ?_)
    rw [if_pos (by rfl)]
    refine wpOm_st HM 57 (.tmp 4) (.tmp 74) rfl rfl 1 rfl ((f.reg 1 4).at_ 3).cells rfl rfl 98 inf57 (Fr.size _) (Fr.size _) (Fr.one _) ?_
    intro V137 hM
    (try simp only [List.cons_append, List.nil_append, List.set_cons_succ, List.set_cons_zero, Nat.reduceAdd] at hM)
    replace HM := hM
    clear hM
    refine hK _ _ ⟨(fun y => ∃ q : CW [(⟨w.heap.size, 2, none⟩, .int .i64 e0)], y = q.1), ⟨⟨_, (allc ((HM.out.hb 0 _ _ _ rfl).cell (k := 2) HR2.out) (alln _))⟩, rfl⟩, fun _ h => h, ?_⟩
    clear hK K
    (try simp only [Act.put, List.setIfInBounds_toArray, List.set_cons_succ, List.set_cons_zero])
    refine wpQuiet_nil ?_
    refine wpOp_step rfl (fun K hK => ?_)
    rw [if_pos (by rfl)]
    refine wpOm_st HM 59 (.tmp 5) (.tmp 75) rfl rfl 2 rfl (acC 2 2 e0 (e0 + 1) 0 (.slice none 0 0)) rfl rfl 7 inf59 rfl rfl (acC_one _ _ _ _ _ _ _ _) ?_
    intro V138 hM
    (try simp only [List.cons_append, List.nil_append, List.set_cons_succ, List.set_cons_zero, Nat.reduceAdd] at hM)
    replace HM := hM
    clear hM
    refine hK _ _ ⟨(fun y => ∃ q : CW [(⟨w.heap.size, 2, none⟩, .int .i64 e0)], y = q.1), ⟨⟨_, (allc ((HM.out.hb 0 _ _ _ rfl).cell (k := 2) HR2.out) (alln _))⟩, rfl⟩, fun _ h => h, ?_⟩
    clear hK K
    (try simp only [Act.put, List.setIfInBounds_toArray, List.set_cons_succ, List.set_cons_zero])
    refine wpQuiet_nil ?_
    refine NoPanic.normal ?_
    go_wp2_with fail
    (try simp only [Exit.inBlock, Exit.then])
    refine bodyPost_ret (res_cc rfl _ _ _ _ _ _ rfl rfl ((HM.out.hb 1 _ _ _ rfl).load57) ((HM.out.hb 2 _ _ _ rfl).load59 rfl)) rfl ?_
    exact ⟨⟨_, _, _, rfl, ints0 _ _ _ _⟩, HM.out.bel⟩
  · refine wpOp_step rfl (fun K hK => ?_)
    go_simp
    refine (cas13d 2 e0 (e0 + 1) _).mono ?_
    rintro e V139 ⟨rfl, hb⟩
    replace HM := Lib.hid (HM.out.below hb)
    clear hb
    refine hK _ _ ⟨(fun y => ∃ q : CW [(⟨w.heap.size, 2, none⟩, .int .i64 e0)], y = q.1), ⟨⟨_, (allc ((HM.out.hb 0 _ _ _ rfl).cell (k := 2) HR2.out) (alln _))⟩, rfl⟩, fun _ h => h, ?_⟩
    clear hK K
    (try simp only [Act.put, List.setIfInBounds_toArray, List.set_cons_succ, List.set_cons_zero])
    refine wpQuiet_nil ?_
    refine wpOp_step rfl (fun K hK => ?_)
    rw [if_pos (by rfl)]
    refine wpOm_ld HM 57 (.tmp 2) rfl 64 rfl 0 rfl rfl 98 und57 inf57 (Fr.size _) ?_
    refine hK _ _ ⟨(fun y => ∃ q : CW [(⟨w.heap.size, 2, none⟩, .int .i64 e0)], y = q.1), ⟨⟨_, (allc ((HM.out.hb 0 _ _ _ rfl).cell (k := 2) HR2.out) (alln _))⟩, rfl⟩, fun _ h => h, ?_⟩
    clear hK K
    (try simp only [Act.put, List.setIfInBounds_toArray, List.set_cons_succ, List.set_cons_zero])
    refine wpQuiet_nil ?_
    refine wpOp_step rfl (fun K hK => ?_)
    go_simp
    refine (step13d (f.reg 1 4) 3 2 2 e0 (e0 + 1) none 0 0 _).mono ?_
    rintro e V140 ⟨rfl, hb⟩
    replace HM := Lib.hid (HM.out.below hb)
    clear hb
    refine hK _ _ ⟨(fun y => ∃ q : CW [(⟨w.heap.size, 2, none⟩, .int .i64 e0)], y = q.1), ⟨⟨_, (allc ((HM.out.hb 0 _ _ _ rfl).cell (k := 2) HR2.out) (alln _))⟩, rfl⟩, fun _ h => h, ?_⟩
    clear hK K
    (try simp only [Act.put, List.setIfInBounds_toArray, List.set_cons_succ, List.set_cons_zero])
    repeat (go_big_quiet_step (fail))
    refine wpQuiet_nil ?_
    refine wpOp_step rfl (fun K hK => ?_)
    rw [if_pos (by rfl)]
    refine wpOm_st HM 57 (.tmp 4) (.tmp 74) rfl rfl 1 rfl ((f.reg 1 4).at_ 3).cells rfl rfl 98 inf57 (Fr.size _) (Fr.size _) (Fr.one _) ?_
    intro V141 hM
    (try simp only [List.cons_append, List.nil_append, List.set_cons_succ, List.set_cons_zero, Nat.reduceAdd] at hM)
    replace HM := hM
    clear hM
    refine hK _ _ ⟨(fun y => ∃ q : CW [(⟨w.heap.size, 2, none⟩, .int .i64 e0)], y = q.1), ⟨⟨_, (allc ((HM.out.hb 0 _ _ _ rfl).cell (k := 2) HR2.out) (alln _))⟩, rfl⟩, fun _ h => h, ?_⟩
    clear hK K
    (try simp only [Act.put, List.setIfInBounds_toArray, List.set_cons_succ, List.set_cons_zero])
    refine wpQuiet_nil ?_
    refine wpOp_step rfl (fun K hK => ?_)
    rw [if_pos (by rfl)]
    refine wpOm_st HM 59 (.tmp 5) (.tmp 75) rfl rfl 2 rfl (acC 2 2 e0 (e0 + 1) 0 (.slice none 0 0)) rfl rfl 7 inf59 rfl rfl (acC_one _ _ _ _ _ _ _ _) ?_
    intro V142 hM
    (try simp only [List.cons_append, List.nil_append, List.set_cons_succ, List.set_cons_zero, Nat.reduceAdd] at hM)
    replace HM := hM
    clear hM
    refine hK _ _ ⟨(fun y => ∃ q : CW [(⟨w.heap.size, 2, none⟩, .int .i64 e0)], y = q.1), ⟨⟨_, (allc ((HM.out.hb 0 _ _ _ rfl).cell (k := 2) HR2.out) (alln _))⟩, rfl⟩, fun _ h => h, ?_⟩
    clear hK K
    (try simp only [Act.put, List.setIfInBounds_toArray, List.set_cons_succ, List.set_cons_zero])
    refine wpQuiet_nil ?_
    refine NoPanic.normal ?_
    go_wp2_with fail
    (try simp only [Exit.inBlock, Exit.then])
    refine bodyPost_ret (res_cc rfl _ _ _ _ _ _ rfl rfl ((HM.out.hb 1 _ _ _ rfl).load57) ((HM.out.hb 2 _ _ _ rfl).load59 rfl)) rfl ?_
    exact ⟨⟨_, _, _, rfl, ints0 _ _ _ _⟩, HM.out.bel⟩
end Go.Proofs.Ytgpdknacnmapiaa
