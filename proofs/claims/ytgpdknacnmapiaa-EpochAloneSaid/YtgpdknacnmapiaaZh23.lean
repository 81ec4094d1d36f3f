/-
  Parts of a proof, put together: Fa.
-/
import Derived.Test.YtgpdknacnmapiaaZh01
import Derived.Test.YtgpdknacnmapiaaZh02
import Derived.Test.YtgpdknacnmapiaaZh03
import Derived.Test.YtgpdknacnmapiaaZh04
import Derived.Test.YtgpdknacnmapiaaZh05
import Derived.Test.YtgpdknacnmapiaaZh06
import Derived.Test.YtgpdknacnmapiaaZh07
import Derived.Test.YtgpdknacnmapiaaZh08
import Derived.Test.YtgpdknacnmapiaaZh09
import Derived.Test.YtgpdknacnmapiaaZh10
import Derived.Test.YtgpdknacnmapiaaZh11
import Derived.Test.YtgpdknacnmapiaaZh12
import Derived.Test.YtgpdknacnmapiaaZh13
import Derived.Test.YtgpdknacnmapiaaZh14
import Derived.Test.YtgpdknacnmapiaaZh15
import Derived.Test.YtgpdknacnmapiaaZh16
import Derived.Test.YtgpdknacnmapiaaZh17
import Derived.Deep.QuietTactic
namespace Go.Proofs.Ytgpdknacnmapiaa
set_option linter.unusedVariables false
set_option linter.unusedSimpArgs false
open Go.RowKit
theorem ints_one0 {N i : Nat} {v : Int} {w W : World} {L : List (Nat × Array Value × TypeId)} (h : Mem (fun _ => False) w W L) (hi : L[i]? = some (N, #[.int .i64 v], 3)) : Ints w.heap.size W (.slice (some ⟨N, 0, none⟩) 1 1) [v] := by
  refine ⟨_, _, rfl, Nat.le_refl _, fun j z hz => ⟨N, 0, rfl, (h.st i _ _ _ hi).elim (fun f => f.elim) id, ?_⟩⟩
  match j, hz with
  | 0, hz => simp at hz; subst hz; exact (h.hb i _ _ _ hi).cell (k := 0) rfl
  | j + 1, hz => simp at hz
set_option maxRecDepth 100000 in
theorem got82 (v : Value) (x : Int) (w : World) (h : GotV w v x) : Calls Try.prog 82 #[v] w fun e w' => e = .returned (.int .i64 x) ∧ w' = w := by
  rcases h with ⟨rfl, rfl⟩ | ⟨⟨b, o, sp⟩, c, rfl, hc⟩
  · go_enter Try.func82, Try.ntmps82
    go_wp2
    go_ret
    exact ⟨rfl, rfl⟩
  · have hs := World.cell?_spot hc
    simp only at hs
    subst hs
    go_enter Try.func82, Try.ntmps82
    go_wp2
    go_ret
    exact ⟨rfl, rfl⟩
theorem pin13d (n m : Int) (w : World) (hn : 0 ≤ n ∧ n < 4) (hm : 5 + n = m) : Calls Try.prog 13 #[.int .i64 n] w fun e w' => e = .returned (.int .i64 m) ∧ w' = w := by
  have HC := Lib.hid (fun w => in_r 5 1 n 4 w (by omega) (by omega) (by omega))
  have e0 : (if n < 0 ∨ (4 : Int) ≤ n then (-1 : Int) else 5 + 1 * n) = m := by rw [if_neg (by omega)]; omega
  clear hn hm
  go_enter Try.func13, Try.ntmps13
  go_wp2_with fail
  refine (HC.out _).mono ?_
  rintro e W ⟨rfl, rfl⟩
  rw [e0]
  go_wp2_with fail
  go_ret
  exact ⟨rfl, rfl⟩
set_option maxHeartbeats 2000000 in
set_option maxRecDepth 100000 in
theorem load13d (a : Int) (w : World) : Calls Try.prog 101 #[.int .i64 a, .int .i64 0] w fun e w' => e = .returned (.agg (acC 0 a 0 0 0 (.slice none 0 0))) ∧ Below w.heap.size w w' := by
  have HM := Lib.hid (Mem.start w)
  go_enter Try.func101, Try.ntmps101
  go_wp2_with (first
    | (refine wpm_al59 HM rfl rfl ?_; intro W hM; (try simp only [List.cons_append, List.nil_append, List.set_cons_succ, List.set_cons_zero, Nat.reduceAdd] at hM); replace HM := hM; clear hM)
    | (refine wpm_st59 HM rfl (.tmp 4) (.tmp 7) rfl 0 rfl rfl 0 a 0 0 0 none 0 0 rfl rfl ?_; intro W hM; (try simp only [List.cons_append, List.nil_append, List.set_cons_succ, List.set_cons_zero, Nat.reduceAdd] at hM); replace HM := hM; clear hM))
  (try simp only [Exit.inBlock, Exit.then])
  refine bodyPost_ret (res_c rfl _ _ _ _ rfl ((HM.out.hb 0 _ _ _ rfl).load59 rfl)) rfl ?_
  exact ⟨rfl, HM.out.bel⟩
set_option maxHeartbeats 2000000 in
set_option maxRecDepth 100000 in
theorem store13d (a v : Int) (w : World) : Calls Try.prog 102 #[.int .i64 a, .int .i64 v, .int .i64 0] w fun e w' => e = .returned (.agg (acC 1 a 0 v 0 (.slice none 0 0))) ∧ Below w.heap.size w w' := by
  have HM := Lib.hid (Mem.start w)
  go_enter Try.func102, Try.ntmps102
  go_wp2_with (first
    | (refine wpm_al59 HM rfl rfl ?_; intro W hM; (try simp only [List.cons_append, List.nil_append, List.set_cons_succ, List.set_cons_zero, Nat.reduceAdd] at hM); replace HM := hM; clear hM)
    | (refine wpm_st59 HM rfl (.tmp 6) (.tmp 10) rfl 0 rfl rfl 1 a 0 v 0 none 0 0 rfl rfl ?_; intro W hM; (try simp only [List.cons_append, List.nil_append, List.set_cons_succ, List.set_cons_zero, Nat.reduceAdd] at hM); replace HM := hM; clear hM))
  (try simp only [Exit.inBlock, Exit.then])
  refine bodyPost_ret (res_c rfl _ _ _ _ rfl ((HM.out.hb 0 _ _ _ rfl).load59 rfl)) rfl ?_
  exact ⟨rfl, HM.out.bel⟩
set_option maxHeartbeats 2000000 in
set_option maxRecDepth 100000 in
theorem cas13d (a bb v : Int) (w : World) : Calls Try.prog 103 #[.int .i64 a, .int .i64 bb, .int .i64 v, .int .i64 0] w fun e w' => e = .returned (.agg (acC 2 a bb v 0 (.slice none 0 0))) ∧ Below w.heap.size w w' := by
  have HM := Lib.hid (Mem.start w)
  go_enter Try.func103, Try.ntmps103
  go_wp2_with (first
    | (refine wpm_al59 HM rfl rfl ?_; intro W hM; (try simp only [List.cons_append, List.nil_append, List.set_cons_succ, List.set_cons_zero, Nat.reduceAdd] at hM); replace HM := hM; clear hM)
    | (refine wpm_st59 HM rfl (.tmp 8) (.tmp 13) rfl 0 rfl rfl 2 a bb v 0 none 0 0 rfl rfl ?_; intro W hM; (try simp only [List.cons_append, List.nil_append, List.set_cons_succ, List.set_cons_zero, Nat.reduceAdd] at hM); replace HM := hM; clear hM))
  (try simp only [Exit.inBlock, Exit.then])
  refine bodyPost_ret (res_c rfl _ _ _ _ rfl ((HM.out.hb 0 _ _ _ rfl).load59 rfl)) rfl ?_
  exact ⟨rfl, HM.out.bel⟩
set_option maxHeartbeats 2000000 in
set_option maxRecDepth 100000 in
theorem step13d (f : Fr) (n k a b v : Int) (ao : Option Addr) (m c : Nat) (w : World) : Calls Try.prog 100 #[.agg f.cells, .int .i64 n, .agg (acC k a b v 0 (.slice ao m c))] w fun e w' => e = .returned (.tuple #[.agg (f.at_ n).cells, .agg (acC k a b v 0 (.slice ao m c))]) ∧ Below w.heap.size w w' := by
  have HM := Lib.hid (Mem.start w)
  go_enter Try.func100, Try.ntmps100
  go_wp2_with (first
    | (refine wpm_box HM rfl 57 (.tmp 0) rfl _ rfl ?_; intro W hM; (try simp only [List.cons_append, List.nil_append, List.set_cons_succ, List.set_cons_zero, Nat.reduceAdd] at hM); replace HM := hM; clear hM)
    | (refine wpm_box HM rfl 59 (.tmp 2) rfl _ rfl ?_; intro W hM; (try simp only [List.cons_append, List.nil_append, List.set_cons_succ, List.set_cons_zero, Nat.reduceAdd] at hM); replace HM := hM; clear hM)
    | (refine wpm_al57 HM rfl rfl ?_; intro W hM; (try simp only [List.cons_append, List.nil_append, List.set_cons_succ, List.set_cons_zero, Nat.reduceAdd] at hM); replace HM := hM; clear hM)
    | (refine wpm_al59 HM rfl rfl ?_; intro W hM; (try simp only [List.cons_append, List.nil_append, List.set_cons_succ, List.set_cons_zero, Nat.reduceAdd] at hM); replace HM := hM; clear hM)
    | (refine wpm_cell HM rfl 3 (.tmp 9) (.tmp 8) rfl Try.sizeOf3 0 1 rfl (.int .i64 n) rfl rfl (.inl ⟨_, _, rfl⟩) (by rw [Fr.size]; omega) (f.at_ n).cells (Fr.set1 f n) ?_; intro W5 hM; (try simp only [List.cons_append, List.nil_append, List.set_cons_succ, List.set_cons_zero, Nat.reduceAdd] at hM); replace HM := hM; clear hM))
  replace HM := Lib.hid HM.out.drew
  have HF : Hid (∀ p ∈ ([] : List (Addr × Value)), World.cell? W5.drew p.1 = some p.2) := Lib.hid (alln _)
  haveI : Inhabited (CW []) := ⟨⟨_, HF.out⟩⟩
  (try simp only [Act.put, List.setIfInBounds_toArray, List.set_cons_succ, List.set_cons_zero])
  refine wp_region_noPanic ?_
  refine wp_region_plw (.step [] (.cons 0 (.step [] (.cons 1 (.step [] (.cons 2 (.step [] (.cons 3 (.last []) .nil)) .nil)) (.cons 2 (.step [] (.cons 1 (.step [] (.cons 3 (.last []) .nil)) .nil)) .nil))) (.cons 1 (.step [] (.cons 0 (.step [] (.cons 2 (.step [] (.cons 3 (.last []) .nil)) .nil)) .nil)) .nil))) (fun y => ∃ q : CW [], y = q.1) (by kernel_rfl) (by kernel_rfl) (by kernel_rfl) (fun _ _ _ _ _ _ _ h => h) ⟨⟨_, HF.out⟩, rfl⟩ ?_
  simp only [wpPw, wpBw, selF, and_true]
  generalize W5.drew = V1 at *
  refine wpQuiet_nil ?_
  refine ⟨?_, ?_⟩
  · refine wpOp_step rfl (fun K hK => ?_)
    rw [if_pos (by rfl)]
    refine wpOm_ld HM 57 (.tmp 3) rfl 10 rfl 0 rfl rfl 98 und57 inf57 (Fr.size _) ?_
    refine hK _ _ ⟨(fun y => ∃ q : CW [], y = q.1), ⟨⟨_, (alln _)⟩, rfl⟩, fun _ h => h, ?_⟩
    clear hK K
    (try simp only [Act.put, List.setIfInBounds_toArray, List.set_cons_succ, List.set_cons_zero])
    refine wpQuiet_nil ?_
    refine ⟨?_, ?_⟩
    · refine wpOp_step rfl (fun K hK => ?_)
      rw [if_pos (by rfl)]
      refine wpOm_ld HM 59 (.tmp 5) rfl 11 rfl 1 rfl rfl 7 und59 inf59 rfl ?_
      refine hK _ _ ⟨(fun y => ∃ q : CW [], y = q.1), ⟨⟨_, (alln _)⟩, rfl⟩, fun _ h => h, ?_⟩
      clear hK K
      (try simp only [Act.put, List.setIfInBounds_toArray, List.set_cons_succ, List.set_cons_zero])
      refine wpQuiet_nil ?_
      refine wpOp_step rfl (fun K hK => ?_)
      rw [if_pos (by rfl)]
      refine wpOm_st HM 57 (.tmp 6) (.tmp 10) rfl rfl 2 rfl (f.at_ n).cells rfl rfl 98 inf57 (Fr.size _) (Fr.size _) (Fr.one _) ?_
      intro V2 hM
      (try simp only [List.cons_append, List.nil_append, List.set_cons_succ, List.set_cons_zero, Nat.reduceAdd] at hM)
      replace HM := hM
      clear hM
      refine hK _ _ ⟨(fun y => ∃ q : CW [], y = q.1), ⟨⟨_, (alln _)⟩, rfl⟩, fun _ h => h, ?_⟩
      clear hK K
      (try simp only [Act.put, List.setIfInBounds_toArray, List.set_cons_succ, List.set_cons_zero])
      refine wpQuiet_nil ?_
      refine wpOp_step rfl (fun K hK => ?_)
      rw [if_pos (by rfl)]
      refine wpOm_st HM 59 (.tmp 7) (.tmp 11) rfl rfl 3 rfl (acC k a b v 0 (.slice ao m c)) rfl rfl 7 inf59 rfl rfl (acC_one _ _ _ _ _ _ _ _) ?_
      intro V3 hM
      (try simp only [List.cons_append, List.nil_append, List.set_cons_succ, List.set_cons_zero, Nat.reduceAdd] at hM)
      replace HM := hM
      clear hM
      refine hK _ _ ⟨(fun y => ∃ q : CW [], y = q.1), ⟨⟨_, (alln _)⟩, rfl⟩, fun _ h => h, ?_⟩
      clear hK K
      (try simp only [Act.put, List.setIfInBounds_toArray, List.set_cons_succ, List.set_cons_zero])
      refine wpQuiet_nil ?_
      refine NoPanic.normal ?_
      go_wp2_with fail
      (try simp only [Exit.inBlock, Exit.then])
      refine bodyPost_ret (res_cc rfl _ _ _ _ _ _ rfl rfl ((HM.out.hb 2 _ _ _ rfl).load57) ((HM.out.hb 3 _ _ _ rfl).load59 rfl)) rfl ?_
      exact ⟨rfl, HM.out.bel⟩
    · refine wpOp_step rfl (fun K hK => ?_)
      rw [if_pos (by rfl)]
      refine wpOm_st HM 57 (.tmp 6) (.tmp 10) rfl rfl 2 rfl (f.at_ n).cells rfl rfl 98 inf57 (Fr.size _) (Fr.size _) (Fr.one _) ?_
      intro V4 hM
      (try simp only [List.cons_append, List.nil_append, List.set_cons_succ, List.set_cons_zero, Nat.reduceAdd] at hM)
      replace HM := hM
      clear hM
      refine hK _ _ ⟨(fun y => ∃ q : CW [], y = q.1), ⟨⟨_, (alln _)⟩, rfl⟩, fun _ h => h, ?_⟩
      clear hK K
      (try simp only [Act.put, List.setIfInBounds_toArray, List.set_cons_succ, List.set_cons_zero])
      refine wpQuiet_nil ?_
      refine wpOp_step rfl (fun K hK => ?_)
      rw [if_pos (by rfl)]
      refine wpOm_ld HM 59 (.tmp 5) rfl 11 rfl 1 rfl rfl 7 und59 inf59 rfl ?_
      refine hK _ _ ⟨(fun y => ∃ q : CW [], y = q.1), ⟨⟨_, (alln _)⟩, rfl⟩, fun _ h => h, ?_⟩
      clear hK K
      (try simp only [Act.put, List.setIfInBounds_toArray, List.set_cons_succ, List.set_cons_zero])
      refine wpQuiet_nil ?_
      refine wpOp_step rfl (fun K hK => ?_)
      rw [if_pos (by rfl)]
      refine wpOm_st HM 59 (.tmp 7) (.tmp 11) rfl rfl 3 rfl (acC k a b v 0 (.slice ao m c)) rfl rfl 7 inf59 rfl rfl (acC_one _ _ _ _ _ _ _ _) ?_
      intro V5 hM
      (try simp only [List.cons_append, List.nil_append, List.set_cons_succ, List.set_cons_zero, Nat.reduceAdd] at hM)
      replace HM := hM
      clear hM
      refine hK _ _ ⟨(fun y => ∃ q : CW [], y = q.1), ⟨⟨_, (alln _)⟩, rfl⟩, fun _ h => h, ?_⟩
      clear hK K
      (try simp only [Act.put, List.setIfInBounds_toArray, List.set_cons_succ, List.set_cons_zero])
      refine wpQuiet_nil ?_
      refine NoPanic.normal ?_
      go_wp2_with fail
      (try simp only [Exit.inBlock, Exit.then])
      refine bodyPost_ret (res_cc rfl _ _ _ _ _ _ rfl rfl ((HM.out.hb 2 _ _ _ rfl).load57) ((HM.out.hb 3 _ _ _ rfl).load59 rfl)) rfl ?_
      exact ⟨rfl, HM.out.bel⟩
  · refine wpOp_step rfl (fun K hK => ?_)
    rw [if_pos (by rfl)]
    refine wpOm_ld HM 59 (.tmp 5) rfl 11 rfl 1 rfl rfl 7 und59 inf59 rfl ?_
    refine hK _ _ ⟨(fun y => ∃ q : CW [], y = q.1), ⟨⟨_, (alln _)⟩, rfl⟩, fun _ h => h, ?_⟩
    clear hK K
    (try simp only [Act.put, List.setIfInBounds_toArray, List.set_cons_succ, List.set_cons_zero])
    refine wpQuiet_nil ?_
    refine wpOp_step rfl (fun K hK => ?_)
    rw [if_pos (by rfl)]
    refine wpOm_ld HM 57 (.tmp 3) rfl 10 rfl 0 rfl rfl 98 und57 inf57 (Fr.size _) ?_
    refine hK _ _ ⟨(fun y => ∃ q : CW [], y = q.1), ⟨⟨_, (alln _)⟩, rfl⟩, fun _ h => h, ?_⟩
    clear hK K
    (try simp only [Act.put, List.setIfInBounds_toArray, List.set_cons_succ, List.set_cons_zero])
    refine wpQuiet_nil ?_
    refine wpOp_step rfl (fun K hK => ?_)
    rw [if_pos (by rfl)]
    refine wpOm_st HM 57 (.tmp 6) (.tmp 10) rfl rfl 2 rfl (f.at_ n).cells rfl rfl 98 inf57 (Fr.size _) (Fr.size _) (Fr.one _) ?_
    intro V6 hM
    (try simp only [List.cons_append, List.nil_append, List.set_cons_succ, List.set_cons_zero, Nat.reduceAdd] at hM)
    replace HM := hM
    clear hM
    refine hK _ _ ⟨(fun y => ∃ q : CW [], y = q.1), ⟨⟨_, (alln _)⟩, rfl⟩, fun _ h => h, ?_⟩
    clear hK K
    (try simp only [Act.put, List.setIfInBounds_toArray, List.set_cons_succ, List.set_cons_zero])
    refine wpQuiet_nil ?_
    refine wpOp_step rfl (fun K hK => ?_)
    rw [if_pos (by rfl)]
    refine wpOm_st HM 59 (.tmp 7) (.tmp 11) rfl rfl 3 rfl (acC k a b v 0 (.slice ao m c)) rfl rfl 7 inf59 rfl rfl (acC_one _ _ _ _ _ _ _ _) ?_
    intro V7 hM
    (try simp only [List.cons_append, List.nil_append, List.set_cons_succ, List.set_cons_zero, Nat.reduceAdd] at hM)
    replace HM := hM
    clear hM
    refine hK _ _ ⟨(fun y => ∃ q : CW [], y = q.1), ⟨⟨_, (alln _)⟩, rfl⟩, fun _ h => h, ?_⟩
    clear hK K
    (try simp only [Act.put, List.setIfInBounds_toArray, List.set_cons_succ, List.set_cons_zero])
    refine wpQuiet_nil ?_
    refine NoPanic.normal ?_
    go_wp2_with fail
    (try simp only [Exit.inBlock, Exit.then])
    refine bodyPost_ret (res_cc rfl _ _ _ _ _ _ rfl rfl ((HM.out.hb 2 _ _ _ rfl).load57) ((HM.out.hb 3 _ _ _ rfl).load59 rfl)) rfl ?_
    exact ⟨rfl, HM.out.bel⟩
set_option maxHeartbeats 2000000 in
set_option maxRecDepth 100000 in
theorem end13d (f : Fr) (ao : Option Addr) (m c : Nat) (w : World) : Calls Try.prog 85 #[.agg f.cells, .slice ao m c] w fun e w' => e = .returned (.tuple #[.agg f.cells, .agg (acC 7 0 0 0 0 (.slice ao m c))]) ∧ Below w.heap.size w w' := by
  have HM := Lib.hid (Mem.start w)
  go_enter Try.func85, Try.ntmps85
  go_wp2_with (first
    | (refine wpm_box HM rfl 57 (.tmp 0) rfl _ rfl ?_; intro W hM; (try simp only [List.cons_append, List.nil_append, List.set_cons_succ, List.set_cons_zero, Nat.reduceAdd] at hM); replace HM := hM; clear hM)
    | (refine wpm_al57 HM rfl rfl ?_; intro W hM; (try simp only [List.cons_append, List.nil_append, List.set_cons_succ, List.set_cons_zero, Nat.reduceAdd] at hM); replace HM := hM; clear hM)
    | (refine wpm_al59 HM rfl rfl ?_; intro W hM; (try simp only [List.cons_append, List.nil_append, List.set_cons_succ, List.set_cons_zero, Nat.reduceAdd] at hM); replace HM := hM; clear hM)
    | (refine wpm_ld57 HM rfl (.tmp 2) rfl 0 rfl rfl ?_)
    | (refine wpm_st57 HM rfl (.tmp 4) (.tmp 6) rfl 1 rfl f rfl rfl ?_; intro W hM; (try simp only [List.cons_append, List.nil_append, List.set_cons_succ, List.set_cons_zero, Nat.reduceAdd] at hM); replace HM := hM; clear hM)
    | (refine wpm_st59 HM rfl (.tmp 5) (.tmp 8) rfl 2 rfl rfl 7 0 0 0 0 ao m c rfl rfl ?_; intro W hM; (try simp only [List.cons_append, List.nil_append, List.set_cons_succ, List.set_cons_zero, Nat.reduceAdd] at hM); replace HM := hM; clear hM))
  (try simp only [Exit.inBlock, Exit.then])
  refine bodyPost_ret (res_cc rfl _ _ _ _ _ _ rfl rfl ((HM.out.hb 1 _ _ _ rfl).load57) ((HM.out.hb 2 _ _ _ rfl).load59 rfl)) rfl ?_
  exact ⟨rfl, HM.out.bel⟩
end Go.Proofs.Ytgpdknacnmapiaa
