/-
  Parts of a proof, put together: Ev.
-/
import Derived.Test.YtgpdknacnmapiaaZh01
import Derived.Test.YtgpdknacnmapiaaZh02
import Derived.Test.YtgpdknacnmapiaaZh03
import Derived.Test.YtgpdknacnmapiaaZh04
import Derived.Test.YtgpdknacnmapiaaZh05
import Derived.Test.YtgpdknacnmapiaaZh06
import Derived.Test.YtgpdknacnmapiaaZh07
import Derived.Test.YtgpdknacnmapiaaZh08
import Derived.Test.YtgpdknacnmapiaaZh09
import Derived.Test.YtgpdknacnmapiaaZh10
import Derived.Test.YtgpdknacnmapiaaZh11
import Derived.Test.YtgpdknacnmapiaaZh12
import Derived.Test.YtgpdknacnmapiaaZh13
import Derived.Test.YtgpdknacnmapiaaZh14
import Derived.Test.YtgpdknacnmapiaaZh15
import Derived.Test.YtgpdknacnmapiaaZh16
import Derived.Test.YtgpdknacnmapiaaZh17
import Derived.Test.YtgpdknacnmapiaaZh18
import Derived.Test.YtgpdknacnmapiaaZh19
import Derived.Deep.QuietTactic
namespace Go.Proofs.Ytgpdknacnmapiaa
set_option linter.unusedVariables false
set_option linter.unusedSimpArgs false
open Go.RowKit
set_option maxHeartbeats 2000000 in
set_option maxRecDepth 100000 in
theorem run13_64_3g (f F : Fr) (rb : Nat) (k a bb v : Int) (l : List Int) (gb go gc : Nat) (x : Int) (w : World) (hi : f.st = 3) (hrow : w.cell? ⟨rb, 3, none⟩ = some (.func (.func 64) #[] #[])) (hg : w.cell? ⟨gb, go, none⟩ = some (.int .i64 x)) 
    (hM : ∀ b w, HB w b (pgG f (.slice (some ⟨gb, go, none⟩) 1 gc) x) 127 → Calls Try.prog 64 #[.pointer (some ⟨b, 0, none⟩)] w fun e w' => MethP b (.slice (some ⟨gb, go, none⟩) 1 gc) x w w' e F k a bb v l) :
    Calls Try.prog 60 #[.slice (some ⟨rb, 0, none⟩) 4 4, .agg f.cells, .slice (some ⟨gb, go, none⟩) 1 gc] w fun e w' => AnsB w w' e F k a bb v l ∧ Below w.heap.size w w' := by
  have HM := Lib.hid (Mem.start w)
  have HMM := Lib.hid hM
  have HRW := Lib.hid hrow
  have HG := Lib.hid hg
  have HB := Lib.hid (fun w => bld127 f (some ⟨gb, go, none⟩) 1 gc w)
  have HS := Lib.hid (by rw [← hi]; exact f.c1 : f.cells[1]? = some (.int .i64 3))
  clear hi hM hrow hg
  go_enter Try.func60, Try.ntmps60
  go_wp2_with (first
    | (refine wpm_box HM rfl 57 (.tmp 1) rfl _ rfl ?_; intro W hM; (try simp only [List.cons_append, List.nil_append, List.set_cons_succ, List.set_cons_zero, Nat.reduceAdd] at hM); replace HM := hM; clear hM)
    | (refine wpm_al57 HM rfl rfl ?_; intro W hM; (try simp only [List.cons_append, List.nil_append, List.set_cons_succ, List.set_cons_zero, Nat.reduceAdd] at hM); replace HM := hM; clear hM)
    | (refine wpm_al59 HM rfl rfl ?_; intro W hM; (try simp only [List.cons_append, List.nil_append, List.set_cons_succ, List.set_cons_zero, Nat.reduceAdd] at hM); replace HM := hM; clear hM)
    | (refine wpm_ld57 HM rfl (.tmp 4) rfl 0 rfl rfl ?_)
    | (refine wp_bl127 rfl (.tmp 9) (.tmp 10) rfl f _ _ _ rfl rfl ?_)
    | (refine wpm_box HM rfl 127 (.tmp 11) rfl (pgG f (.slice (some ⟨gb, go, none⟩) 1 gc) 0) rfl ?_; intro W4 hM; (try simp only [List.cons_append, List.nil_append, List.set_cons_succ, List.set_cons_zero, Nat.reduceAdd] at hM); replace HM := hM; clear hM; have kg : W4.cell? ⟨gb, go, none⟩ = some (.int .i64 x) := (HM.out.bel.cell (World.block_lt_of_cell? _ _ HG.out)).trans HG.out)
    | (refine wpm_cell HM rfl 3 (.tmp 21) (.tmp 19) rfl Try.sizeOf3 3 99 rfl (.int .i64 x) rfl rfl (.inl ⟨_, _, rfl⟩) (by rw [pgG_size]; omega) (pgG f (.slice (some ⟨gb, go, none⟩) 1 gc) x) (pgG_setx f _ 0 x) ?_; intro W5 hM; (try simp only [List.cons_append, List.nil_append, List.set_cons_succ, List.set_cons_zero, Nat.reduceAdd] at hM); replace HM := hM; clear hM kg; have ks : W5.cell? ⟨w.heap.size, 1, none⟩ = some (.int .i64 3) := (HM.out.hb 0 _ _ _ rfl).cell (k := 1) HS.out; have kw : W5.cell? ⟨rb, 3, none⟩ = some (.func (.func 64) #[] #[]) := (HM.out.bel.cell (World.block_lt_of_cell? _ _ HRW.out)).trans HRW.out))
  have HMb := HM
  refine (HMM.out _ _ (HM.out.hb 3 _ _ _ rfl)).mono ?_
  rintro e W6 ⟨⟨ao1, n1, c1, rfl, hi⟩, hM2⟩
  have HI := Lib.hid hi
  have HN := Lib.hid HM.out.size
  have hM3 := HM.out.upR (i := 3) rfl hM2
  (try simp only [List.set_cons_succ, List.set_cons_zero] at hM3)
  replace HM := Lib.hid hM3
  clear hM2 hM3 hi ks kw
  have HMT := HM
  replace HM := Lib.hid HM.out.re
  go_wp2_with (first
    | (refine wpm_st57 HM rfl (.tmp 6) (.tmp 44) rfl 1 rfl F rfl rfl ?_; intro W hM; (try simp only [List.cons_append, List.nil_append, List.set_cons_succ, List.set_cons_zero, Nat.reduceAdd] at hM); replace HM := hM; clear hM)
    | (refine wpm_st59 HM rfl (.tmp 7) (.tmp 45) rfl 2 rfl rfl k a bb v 0 ao1 n1 c1 rfl rfl ?_; intro W hM; (try simp only [List.cons_append, List.nil_append, List.set_cons_succ, List.set_cons_zero, Nat.reduceAdd] at hM); replace HM := hM; clear hM))
  (try simp only [Exit.inBlock, Exit.then])
  refine bodyPost_ret (res_cc rfl _ _ _ _ _ _ rfl rfl ((HM.out.hb 1 _ _ _ rfl).load57) ((HM.out.hb 2 _ _ _ rfl).load59 rfl)) rfl ?_
  refine ⟨⟨_, _, _, rfl, ?_⟩, (HMT.out.tr HM.out).bel⟩
  refine (HI.out.mem HM.out (fun b hb hx => ?_)).low HN.out
  obtain ⟨i, E, u, hi⟩ := hx
  match i, hi with
  | 0, hi => simp at hi; have := HMb.out.lt (i := 0) rfl; omega
  | 1, hi => simp at hi; have := HMb.out.lt (i := 1) rfl; omega
  | 2, hi => simp at hi; have := HMb.out.lt (i := 2) rfl; omega
  | 3, hi => simp at hi; have := HMb.out.lt (i := 3) rfl; omega
  | i + 4, hi => simp at hi
set_option maxHeartbeats 2000000 in
set_option maxRecDepth 100000 in
theorem run13_64_3n (f F : Fr) (rb : Nat) (k a bb v : Int) (l : List Int) (w : World) (hi : f.st = 3) (hrow : w.cell? ⟨rb, 3, none⟩ = some (.func (.func 64) #[] #[])) 
    (hM : ∀ b w, HB w b (pgG f (.slice none 0 0) 0) 127 → Calls Try.prog 64 #[.pointer (some ⟨b, 0, none⟩)] w fun e w' => MethP b (.slice none 0 0) 0 w w' e F k a bb v l) :
    Calls Try.prog 60 #[.slice (some ⟨rb, 0, none⟩) 4 4, .agg f.cells, .slice none 0 0] w fun e w' => AnsB w w' e F k a bb v l ∧ Below w.heap.size w w' := by
  have HM := Lib.hid (Mem.start w)
  have HMM := Lib.hid hM
  have HRW := Lib.hid hrow
  skip
  have HB := Lib.hid (fun w => bld127 f none 0 0 w)
  have HS := Lib.hid (by rw [← hi]; exact f.c1 : f.cells[1]? = some (.int .i64 3))
  clear hi hM hrow 
  go_enter Try.func60, Try.ntmps60
  go_wp2_with (first
    | (refine wpm_box HM rfl 57 (.tmp 1) rfl _ rfl ?_; intro W hM; (try simp only [List.cons_append, List.nil_append, List.set_cons_succ, List.set_cons_zero, Nat.reduceAdd] at hM); replace HM := hM; clear hM)
    | (refine wpm_al57 HM rfl rfl ?_; intro W hM; (try simp only [List.cons_append, List.nil_append, List.set_cons_succ, List.set_cons_zero, Nat.reduceAdd] at hM); replace HM := hM; clear hM)
    | (refine wpm_al59 HM rfl rfl ?_; intro W hM; (try simp only [List.cons_append, List.nil_append, List.set_cons_succ, List.set_cons_zero, Nat.reduceAdd] at hM); replace HM := hM; clear hM)
    | (refine wpm_ld57 HM rfl (.tmp 4) rfl 0 rfl rfl ?_)
    | (refine wp_bl127 rfl (.tmp 9) (.tmp 10) rfl f _ _ _ rfl rfl ?_)
    | (refine wpm_box HM rfl 127 (.tmp 11) rfl (pgG f (.slice none 0 0) 0) rfl ?_; intro W4 hM; (try simp only [List.cons_append, List.nil_append, List.set_cons_succ, List.set_cons_zero, Nat.reduceAdd] at hM); replace HM := hM; clear hM; have ks : W4.cell? ⟨w.heap.size, 1, none⟩ = some (.int .i64 3) := (HM.out.hb 0 _ _ _ rfl).cell (k := 1) HS.out; have kw : W4.cell? ⟨rb, 3, none⟩ = some (.func (.func 64) #[] #[]) := (HM.out.bel.cell (World.block_lt_of_cell? _ _ HRW.out)).trans HRW.out))
  have HMb := HM
  refine (HMM.out _ _ (HM.out.hb 3 _ _ _ rfl)).mono ?_
  rintro e W6 ⟨⟨ao1, n1, c1, rfl, hi⟩, hM2⟩
  have HI := Lib.hid hi
  have HN := Lib.hid HM.out.size
  have hM3 := HM.out.upR (i := 3) rfl hM2
  (try simp only [List.set_cons_succ, List.set_cons_zero] at hM3)
  replace HM := Lib.hid hM3
  clear hM2 hM3 hi ks kw
  have HMT := HM
  replace HM := Lib.hid HM.out.re
  go_wp2_with (first
    | (refine wpm_st57 HM rfl (.tmp 6) (.tmp 44) rfl 1 rfl F rfl rfl ?_; intro W hM; (try simp only [List.cons_append, List.nil_append, List.set_cons_succ, List.set_cons_zero, Nat.reduceAdd] at hM); replace HM := hM; clear hM)
    | (refine wpm_st59 HM rfl (.tmp 7) (.tmp 45) rfl 2 rfl rfl k a bb v 0 ao1 n1 c1 rfl rfl ?_; intro W hM; (try simp only [List.cons_append, List.nil_append, List.set_cons_succ, List.set_cons_zero, Nat.reduceAdd] at hM); replace HM := hM; clear hM))
  (try simp only [Exit.inBlock, Exit.then])
  refine bodyPost_ret (res_cc rfl _ _ _ _ _ _ rfl rfl ((HM.out.hb 1 _ _ _ rfl).load57) ((HM.out.hb 2 _ _ _ rfl).load59 rfl)) rfl ?_
  refine ⟨⟨_, _, _, rfl, ?_⟩, (HMT.out.tr HM.out).bel⟩
  refine (HI.out.mem HM.out (fun b hb hx => ?_)).low HN.out
  obtain ⟨i, E, u, hi⟩ := hx
  match i, hi with
  | 0, hi => simp at hi; have := HMb.out.lt (i := 0) rfl; omega
  | 1, hi => simp at hi; have := HMb.out.lt (i := 1) rfl; omega
  | 2, hi => simp at hi; have := HMb.out.lt (i := 2) rfl; omega
  | 3, hi => simp at hi; have := HMb.out.lt (i := 3) rfl; omega
  | i + 4, hi => simp at hi
theorem run13_64_3 (f F : Fr) (rb : Nat) (k a bb v : Int) (l : List Int) (x : Int) (vv : Value) (w : World) (hi : f.st = 3) (hrow : w.cell? ⟨rb, 3, none⟩ = some (.func (.func 64) #[] #[])) (hg : GotV w vv x)
    (hM : ∀ b gv w, HB w b (pgG f gv x) 127 → Calls Try.prog 64 #[.pointer (some ⟨b, 0, none⟩)] w fun e w' => MethP b gv x w w' e F k a bb v l) :
    Calls Try.prog 60 #[.slice (some ⟨rb, 0, none⟩) 4 4, .agg f.cells, vv] w fun e w' => AnsB w w' e F k a bb v l ∧ Below w.heap.size w w' := by
  rcases hg with ⟨rfl, rfl⟩ | ⟨ad, gc, rfl, hg⟩
  · exact run13_64_3n f F rb k a bb v l w hi hrow fun b w hb => hM b _ w hb
  · have hs := World.cell?_spot hg
    obtain ⟨gb, go, sp⟩ := ad
    simp only at hs
    subst hs
    exact run13_64_3g f F rb k a bb v l gb go gc x w hi hrow hg fun b w hb => hM b _ w hb
set_option maxHeartbeats 2000000 in
set_option maxRecDepth 100000 in
theorem run13_65_0g (f F : Fr) (rb : Nat) (k a bb v : Int) (l : List Int) (gb go gc : Nat) (x : Int) (w : World) (hi : f.st = 0) (hrow : w.cell? ⟨rb, 0, none⟩ = some (.func (.func 65) #[] #[])) (hg : w.cell? ⟨gb, go, none⟩ = some (.int .i64 x)) 
    (hM : ∀ b w, HB w b (pgG f (.slice (some ⟨gb, go, none⟩) 1 gc) x) 127 → Calls Try.prog 65 #[.pointer (some ⟨b, 0, none⟩)] w fun e w' => MethP b (.slice (some ⟨gb, go, none⟩) 1 gc) x w w' e F k a bb v l) :
    Calls Try.prog 60 #[.slice (some ⟨rb, 0, none⟩) 2 2, .agg f.cells, .slice (some ⟨gb, go, none⟩) 1 gc] w fun e w' => AnsB w w' e F k a bb v l ∧ Below w.heap.size w w' := by
  have HM := Lib.hid (Mem.start w)
  have HMM := Lib.hid hM
  have HRW := Lib.hid hrow
  have HG := Lib.hid hg
  have HB := Lib.hid (fun w => bld127 f (some ⟨gb, go, none⟩) 1 gc w)
  have HS := Lib.hid (by rw [← hi]; exact f.c1 : f.cells[1]? = some (.int .i64 0))
  clear hi hM hrow hg
  go_enter Try.func60, Try.ntmps60
  go_wp2_with (first
    | (refine wpm_box HM rfl 57 (.tmp 1) rfl _ rfl ?_; intro W hM; (try simp only [List.cons_append, List.nil_append, List.set_cons_succ, List.set_cons_zero, Nat.reduceAdd] at hM); replace HM := hM; clear hM)
    | (refine wpm_al57 HM rfl rfl ?_; intro W hM; (try simp only [List.cons_append, List.nil_append, List.set_cons_succ, List.set_cons_zero, Nat.reduceAdd] at hM); replace HM := hM; clear hM)
    | (refine wpm_al59 HM rfl rfl ?_; intro W hM; (try simp only [List.cons_append, List.nil_append, List.set_cons_succ, List.set_cons_zero, Nat.reduceAdd] at hM); replace HM := hM; clear hM)
    | (refine wpm_ld57 HM rfl (.tmp 4) rfl 0 rfl rfl ?_)
    | (refine wp_bl127 rfl (.tmp 9) (.tmp 10) rfl f _ _ _ rfl rfl ?_)
    | (refine wpm_box HM rfl 127 (.tmp 11) rfl (pgG f (.slice (some ⟨gb, go, none⟩) 1 gc) 0) rfl ?_; intro W4 hM; (try simp only [List.cons_append, List.nil_append, List.set_cons_succ, List.set_cons_zero, Nat.reduceAdd] at hM); replace HM := hM; clear hM; have kg : W4.cell? ⟨gb, go, none⟩ = some (.int .i64 x) := (HM.out.bel.cell (World.block_lt_of_cell? _ _ HG.out)).trans HG.out)
    | (refine wpm_cell HM rfl 3 (.tmp 21) (.tmp 19) rfl Try.sizeOf3 3 99 rfl (.int .i64 x) rfl rfl (.inl ⟨_, _, rfl⟩) (by rw [pgG_size]; omega) (pgG f (.slice (some ⟨gb, go, none⟩) 1 gc) x) (pgG_setx f _ 0 x) ?_; intro W5 hM; (try simp only [List.cons_append, List.nil_append, List.set_cons_succ, List.set_cons_zero, Nat.reduceAdd] at hM); replace HM := hM; clear hM kg; have ks : W5.cell? ⟨w.heap.size, 1, none⟩ = some (.int .i64 0) := (HM.out.hb 0 _ _ _ rfl).cell (k := 1) HS.out; have kw : W5.cell? ⟨rb, 0, none⟩ = some (.func (.func 65) #[] #[]) := (HM.out.bel.cell (World.block_lt_of_cell? _ _ HRW.out)).trans HRW.out))
  have HMb := HM
  refine (HMM.out _ _ (HM.out.hb 3 _ _ _ rfl)).mono ?_
  rintro e W6 ⟨⟨ao1, n1, c1, rfl, hi⟩, hM2⟩
  have HI := Lib.hid hi
  have HN := Lib.hid HM.out.size
  have hM3 := HM.out.upR (i := 3) rfl hM2
  (try simp only [List.set_cons_succ, List.set_cons_zero] at hM3)
  replace HM := Lib.hid hM3
  clear hM2 hM3 hi ks kw
  have HMT := HM
  replace HM := Lib.hid HM.out.re
  go_wp2_with (first
    | (refine wpm_st57 HM rfl (.tmp 6) (.tmp 44) rfl 1 rfl F rfl rfl ?_; intro W hM; (try simp only [List.cons_append, List.nil_append, List.set_cons_succ, List.set_cons_zero, Nat.reduceAdd] at hM); replace HM := hM; clear hM)
    | (refine wpm_st59 HM rfl (.tmp 7) (.tmp 45) rfl 2 rfl rfl k a bb v 0 ao1 n1 c1 rfl rfl ?_; intro W hM; (try simp only [List.cons_append, List.nil_append, List.set_cons_succ, List.set_cons_zero, Nat.reduceAdd] at hM); replace HM := hM; clear hM))
  (try simp only [Exit.inBlock, Exit.then])
  refine bodyPost_ret (res_cc rfl _ _ _ _ _ _ rfl rfl ((HM.out.hb 1 _ _ _ rfl).load57) ((HM.out.hb 2 _ _ _ rfl).load59 rfl)) rfl ?_
  refine ⟨⟨_, _, _, rfl, ?_⟩, (HMT.out.tr HM.out).bel⟩
  refine (HI.out.mem HM.out (fun b hb hx => ?_)).low HN.out
  obtain ⟨i, E, u, hi⟩ := hx
  match i, hi with
  | 0, hi => simp at hi; have := HMb.out.lt (i := 0) rfl; omega
  | 1, hi => simp at hi; have := HMb.out.lt (i := 1) rfl; omega
  | 2, hi => simp at hi; have := HMb.out.lt (i := 2) rfl; omega
  | 3, hi => simp at hi; have := HMb.out.lt (i := 3) rfl; omega
  | i + 4, hi => simp at hi
set_option maxHeartbeats 2000000 in
set_option maxRecDepth 100000 in
theorem run13_65_0n (f F : Fr) (rb : Nat) (k a bb v : Int) (l : List Int) (w : World) (hi : f.st = 0) (hrow : w.cell? ⟨rb, 0, none⟩ = some (.func (.func 65) #[] #[])) 
    (hM : ∀ b w, HB w b (pgG f (.slice none 0 0) 0) 127 → Calls Try.prog 65 #[.pointer (some ⟨b, 0, none⟩)] w fun e w' => MethP b (.slice none 0 0) 0 w w' e F k a bb v l) :
    Calls Try.prog 60 #[.slice (some ⟨rb, 0, none⟩) 2 2, .agg f.cells, .slice none 0 0] w fun e w' => AnsB w w' e F k a bb v l ∧ Below w.heap.size w w' := by
  have HM := Lib.hid (Mem.start w)
  have HMM := Lib.hid hM
  have HRW := Lib.hid hrow
  skip
  have HB := Lib.hid (fun w => bld127 f none 0 0 w)
  have HS := Lib.hid (by rw [← hi]; exact f.c1 : f.cells[1]? = some (.int .i64 0))
  clear hi hM hrow 
  go_enter Try.func60, Try.ntmps60
  go_wp2_with (first
    | (refine wpm_box HM rfl 57 (.tmp 1) rfl _ rfl ?_; intro W hM; (try simp only [List.cons_append, List.nil_append, List.set_cons_succ, List.set_cons_zero, Nat.reduceAdd] at hM); replace HM := hM; clear hM)
    | (refine wpm_al57 HM rfl rfl ?_; intro W hM; (try simp only [List.cons_append, List.nil_append, List.set_cons_succ, List.set_cons_zero, Nat.reduceAdd] at hM); replace HM := hM; clear hM)
    | (refine wpm_al59 HM rfl rfl ?_; intro W hM; (try simp only [List.cons_append, List.nil_append, List.set_cons_succ, List.set_cons_zero, Nat.reduceAdd] at hM); replace HM := hM; clear hM)
    | (refine wpm_ld57 HM rfl (.tmp 4) rfl 0 rfl rfl ?_)
    | (refine wp_bl127 rfl (.tmp 9) (.tmp 10) rfl f _ _ _ rfl rfl ?_)
    | (refine wpm_box HM rfl 127 (.tmp 11) rfl (pgG f (.slice none 0 0) 0) rfl ?_; intro W4 hM; (try simp only [List.cons_append, List.nil_append, List.set_cons_succ, List.set_cons_zero, Nat.reduceAdd] at hM); replace HM := hM; clear hM; have ks : W4.cell? ⟨w.heap.size, 1, none⟩ = some (.int .i64 0) := (HM.out.hb 0 _ _ _ rfl).cell (k := 1) HS.out; have kw : W4.cell? ⟨rb, 0, none⟩ = some (.func (.func 65) #[] #[]) := (HM.out.bel.cell (World.block_lt_of_cell? _ _ HRW.out)).trans HRW.out))
  have HMb := HM
  refine (HMM.out _ _ (HM.out.hb 3 _ _ _ rfl)).mono ?_
  rintro e W6 ⟨⟨ao1, n1, c1, rfl, hi⟩, hM2⟩
  have HI := Lib.hid hi
  have HN := Lib.hid HM.out.size
  have hM3 := HM.out.upR (i := 3) rfl hM2
  (try simp only [List.set_cons_succ, List.set_cons_zero] at hM3)
  replace HM := Lib.hid hM3
  clear hM2 hM3 hi ks kw
  have HMT := HM
  replace HM := Lib.hid HM.out.re
  go_wp2_with (first
    | (refine wpm_st57 HM rfl (.tmp 6) (.tmp 44) rfl 1 rfl F rfl rfl ?_; intro W hM; (try simp only [List.cons_append, List.nil_append, List.set_cons_succ, List.set_cons_zero, Nat.reduceAdd] at hM); replace HM := hM; clear hM)
    | (refine wpm_st59 HM rfl (.tmp 7) (.tmp 45) rfl 2 rfl rfl k a bb v 0 ao1 n1 c1 rfl rfl ?_; intro W hM; (try simp only [List.cons_append, List.nil_append, List.set_cons_succ, List.set_cons_zero, Nat.reduceAdd] at hM); replace HM := hM; clear hM))
  (try simp only [Exit.inBlock, Exit.then])
  refine bodyPost_ret (res_cc rfl _ _ _ _ _ _ rfl rfl ((HM.out.hb 1 _ _ _ rfl).load57) ((HM.out.hb 2 _ _ _ rfl).load59 rfl)) rfl ?_
  refine ⟨⟨_, _, _, rfl, ?_⟩, (HMT.out.tr HM.out).bel⟩
  refine (HI.out.mem HM.out (fun b hb hx => ?_)).low HN.out
  obtain ⟨i, E, u, hi⟩ := hx
  match i, hi with
  | 0, hi => simp at hi; have := HMb.out.lt (i := 0) rfl; omega
  | 1, hi => simp at hi; have := HMb.out.lt (i := 1) rfl; omega
  | 2, hi => simp at hi; have := HMb.out.lt (i := 2) rfl; omega
  | 3, hi => simp at hi; have := HMb.out.lt (i := 3) rfl; omega
  | i + 4, hi => simp at hi
theorem run13_65_0 (f F : Fr) (rb : Nat) (k a bb v : Int) (l : List Int) (x : Int) (vv : Value) (w : World) (hi : f.st = 0) (hrow : w.cell? ⟨rb, 0, none⟩ = some (.func (.func 65) #[] #[])) (hg : GotV w vv x)
    (hM : ∀ b gv w, HB w b (pgG f gv x) 127 → Calls Try.prog 65 #[.pointer (some ⟨b, 0, none⟩)] w fun e w' => MethP b gv x w w' e F k a bb v l) :
    Calls Try.prog 60 #[.slice (some ⟨rb, 0, none⟩) 2 2, .agg f.cells, vv] w fun e w' => AnsB w w' e F k a bb v l ∧ Below w.heap.size w w' := by
  rcases hg with ⟨rfl, rfl⟩ | ⟨ad, gc, rfl, hg⟩
  · exact run13_65_0n f F rb k a bb v l w hi hrow fun b w hb => hM b _ w hb
  · have hs := World.cell?_spot hg
    obtain ⟨gb, go, sp⟩ := ad
    simp only at hs
    subst hs
    exact run13_65_0g f F rb k a bb v l gb go gc x w hi hrow hg fun b w hb => hM b _ w hb
set_option maxHeartbeats 2000000 in
set_option maxRecDepth 100000 in
theorem run13_66_1g (f F : Fr) (rb : Nat) (k a bb v : Int) (l : List Int) (gb go gc : Nat) (x : Int) (w : World) (hi : f.st = 1) (hrow : w.cell? ⟨rb, 1, none⟩ = some (.func (.func 66) #[] #[])) (hg : w.cell? ⟨gb, go, none⟩ = some (.int .i64 x)) 
    (hM : ∀ b w, HB w b (pgG f (.slice (some ⟨gb, go, none⟩) 1 gc) x) 127 → Calls Try.prog 66 #[.pointer (some ⟨b, 0, none⟩)] w fun e w' => MethP b (.slice (some ⟨gb, go, none⟩) 1 gc) x w w' e F k a bb v l) :
    Calls Try.prog 60 #[.slice (some ⟨rb, 0, none⟩) 2 2, .agg f.cells, .slice (some ⟨gb, go, none⟩) 1 gc] w fun e w' => AnsB w w' e F k a bb v l ∧ Below w.heap.size w w' := by
  have HM := Lib.hid (Mem.start w)
  have HMM := Lib.hid hM
  have HRW := Lib.hid hrow
  have HG := Lib.hid hg
  have HB := Lib.hid (fun w => bld127 f (some ⟨gb, go, none⟩) 1 gc w)
  have HS := Lib.hid (by rw [← hi]; exact f.c1 : f.cells[1]? = some (.int .i64 1))
  clear hi hM hrow hg
  go_enter Try.func60, Try.ntmps60
  go_wp2_with (first
    | (refine wpm_box HM rfl 57 (.tmp 1) rfl _ rfl ?_; intro W hM; (try simp only [List.cons_append, List.nil_append, List.set_cons_succ, List.set_cons_zero, Nat.reduceAdd] at hM); replace HM := hM; clear hM)
    | (refine wpm_al57 HM rfl rfl ?_; intro W hM; (try simp only [List.cons_append, List.nil_append, List.set_cons_succ, List.set_cons_zero, Nat.reduceAdd] at hM); replace HM := hM; clear hM)
    | (refine wpm_al59 HM rfl rfl ?_; intro W hM; (try simp only [List.cons_append, List.nil_append, List.set_cons_succ, List.set_cons_zero, Nat.reduceAdd] at hM); replace HM := hM; clear hM)
    | (refine wpm_ld57 HM rfl (.tmp 4) rfl 0 rfl rfl ?_)
    | (refine wp_bl127 rfl (.tmp 9) (.tmp 10) rfl f _ _ _ rfl rfl ?_)
    | (refine wpm_box HM rfl 127 (.tmp 11) rfl (pgG f (.slice (some ⟨gb, go, none⟩) 1 gc) 0) rfl ?_; intro W4 hM; (try simp only [List.cons_append, List.nil_append, List.set_cons_succ, List.set_cons_zero, Nat.reduceAdd] at hM); replace HM := hM; clear hM; have kg : W4.cell? ⟨gb, go, none⟩ = some (.int .i64 x) := (HM.out.bel.cell (World.block_lt_of_cell? _ _ HG.out)).trans HG.out)
    | (refine wpm_cell HM rfl 3 (.tmp 21) (.tmp 19) rfl Try.sizeOf3 3 99 rfl (.int .i64 x) rfl rfl (.inl ⟨_, _, rfl⟩) (by rw [pgG_size]; omega) (pgG f (.slice (some ⟨gb, go, none⟩) 1 gc) x) (pgG_setx f _ 0 x) ?_; intro W5 hM; (try simp only [List.cons_append, List.nil_append, List.set_cons_succ, List.set_cons_zero, Nat.reduceAdd] at hM); replace HM := hM; clear hM kg; have ks : W5.cell? ⟨w.heap.size, 1, none⟩ = some (.int .i64 1) := (HM.out.hb 0 _ _ _ rfl).cell (k := 1) HS.out; have kw : W5.cell? ⟨rb, 1, none⟩ = some (.func (.func 66) #[] #[]) := (HM.out.bel.cell (World.block_lt_of_cell? _ _ HRW.out)).trans HRW.out))
  have HMb := HM
  refine (HMM.out _ _ (HM.out.hb 3 _ _ _ rfl)).mono ?_
  rintro e W6 ⟨⟨ao1, n1, c1, rfl, hi⟩, hM2⟩
  have HI := Lib.hid hi
  have HN := Lib.hid HM.out.size
  have hM3 := HM.out.upR (i := 3) rfl hM2
  (try simp only [List.set_cons_succ, List.set_cons_zero] at hM3)
  replace HM := Lib.hid hM3
  clear hM2 hM3 hi ks kw
  have HMT := HM
  replace HM := Lib.hid HM.out.re
  go_wp2_with (first
    | (refine wpm_st57 HM rfl (.tmp 6) (.tmp 44) rfl 1 rfl F rfl rfl ?_; intro W hM; (try simp only [List.cons_append, List.nil_append, List.set_cons_succ, List.set_cons_zero, Nat.reduceAdd] at hM); replace HM := hM; clear hM)
    | (refine wpm_st59 HM rfl (.tmp 7) (.tmp 45) rfl 2 rfl rfl k a bb v 0 ao1 n1 c1 rfl rfl ?_; intro W hM; (try simp only [List.cons_append, List.nil_append, List.set_cons_succ, List.set_cons_zero, Nat.reduceAdd] at hM); replace HM := hM; clear hM))
  (try simp only [Exit.inBlock, Exit.then])
  refine bodyPost_ret (res_cc rfl _ _ _ _ _ _ rfl rfl ((HM.out.hb 1 _ _ _ rfl).load57) ((HM.out.hb 2 _ _ _ rfl).load59 rfl)) rfl ?_
  refine ⟨⟨_, _, _, rfl, ?_⟩, (HMT.out.tr HM.out).bel⟩
  refine (HI.out.mem HM.out (fun b hb hx => ?_)).low HN.out
  obtain ⟨i, E, u, hi⟩ := hx
  match i, hi with
  | 0, hi => simp at hi; have := HMb.out.lt (i := 0) rfl; omega
  | 1, hi => simp at hi; have := HMb.out.lt (i := 1) rfl; omega
  | 2, hi => simp at hi; have := HMb.out.lt (i := 2) rfl; omega
  | 3, hi => simp at hi; have := HMb.out.lt (i := 3) rfl; omega
  | i + 4, hi => simp at hi
set_option maxHeartbeats 2000000 in
set_option maxRecDepth 100000 in
theorem run13_66_1n (f F : Fr) (rb : Nat) (k a bb v : Int) (l : List Int) (w : World) (hi : f.st = 1) (hrow : w.cell? ⟨rb, 1, none⟩ = some (.func (.func 66) #[] #[])) 
    (hM : ∀ b w, HB w b (pgG f (.slice none 0 0) 0) 127 → Calls Try.prog 66 #[.pointer (some ⟨b, 0, none⟩)] w fun e w' => MethP b (.slice none 0 0) 0 w w' e F k a bb v l) :
    Calls Try.prog 60 #[.slice (some ⟨rb, 0, none⟩) 2 2, .agg f.cells, .slice none 0 0] w fun e w' => AnsB w w' e F k a bb v l ∧ Below w.heap.size w w' := by
  have HM := Lib.hid (Mem.start w)
  have HMM := Lib.hid hM
  have HRW := Lib.hid hrow
  skip
  have HB := Lib.hid (fun w => bld127 f none 0 0 w)
  have HS := Lib.hid (by rw [← hi]; exact f.c1 : f.cells[1]? = some (.int .i64 1))
  clear hi hM hrow 
  go_enter Try.func60, Try.ntmps60
  go_wp2_with (first
    | (refine wpm_box HM rfl 57 (.tmp 1) rfl _ rfl ?_; intro W hM; (try simp only [List.cons_append, List.nil_append, List.set_cons_succ, List.set_cons_zero, Nat.reduceAdd] at hM); replace HM := hM; clear hM)
    | (refine wpm_al57 HM rfl rfl ?_; intro W hM; (try simp only [List.cons_append, List.nil_append, List.set_cons_succ, List.set_cons_zero, Nat.reduceAdd] at hM); replace HM := hM; clear hM)
    | (refine wpm_al59 HM rfl rfl ?_; intro W hM; (try simp only [List.cons_append, List.nil_append, List.set_cons_succ, List.set_cons_zero, Nat.reduceAdd] at hM); replace HM := hM; clear hM)
    | (refine wpm_ld57 HM rfl (.tmp 4) rfl 0 rfl rfl ?_)
    | (refine wp_bl127 rfl (.tmp 9) (.tmp 10) rfl f _ _ _ rfl rfl ?_)
    | (refine wpm_box HM rfl 127 (.tmp 11) rfl (pgG f (.slice none 0 0) 0) rfl ?_; intro W4 hM; (try simp only [List.cons_append, List.nil_append, List.set_cons_succ, List.set_cons_zero, Nat.reduceAdd] at hM); replace HM := hM; clear hM; have ks : W4.cell? ⟨w.heap.size, 1, none⟩ = some (.int .i64 1) := (HM.out.hb 0 _ _ _ rfl).cell (k := 1) HS.out; have kw : W4.cell? ⟨rb, 1, none⟩ = some (.func (.func 66) #[] #[]) := (HM.out.bel.cell (World.block_lt_of_cell? _ _ HRW.out)).trans HRW.out))
  have HMb := HM
  refine (HMM.out _ _ (HM.out.hb 3 _ _ _ rfl)).mono ?_
  rintro e W6 ⟨⟨ao1, n1, c1, rfl, hi⟩, hM2⟩
  have HI := Lib.hid hi
  have HN := Lib.hid HM.out.size
  have hM3 := HM.out.upR (i := 3) rfl hM2
  (try simp only [List.set_cons_succ, List.set_cons_zero] at hM3)
  replace HM := Lib.hid hM3
  clear hM2 hM3 hi ks kw
  have HMT := HM
  replace HM := Lib.hid HM.out.re
  go_wp2_with (first
    | (refine wpm_st57 HM rfl (.tmp 6) (.tmp 44) rfl 1 rfl F rfl rfl ?_; intro W hM; (try simp only [List.cons_append, List.nil_append, List.set_cons_succ, List.set_cons_zero, Nat.reduceAdd] at hM); replace HM := hM; clear hM)
    | (refine wpm_st59 HM rfl (.tmp 7) (.tmp 45) rfl 2 rfl rfl k a bb v 0 ao1 n1 c1 rfl rfl ?_; intro W hM; (try simp only [List.cons_append, List.nil_append, List.set_cons_succ, List.set_cons_zero, Nat.reduceAdd] at hM); replace HM := hM; clear hM))
  (try simp only [Exit.inBlock, Exit.then])
  refine bodyPost_ret (res_cc rfl _ _ _ _ _ _ rfl rfl ((HM.out.hb 1 _ _ _ rfl).load57) ((HM.out.hb 2 _ _ _ rfl).load59 rfl)) rfl ?_
  refine ⟨⟨_, _, _, rfl, ?_⟩, (HMT.out.tr HM.out).bel⟩
  refine (HI.out.mem HM.out (fun b hb hx => ?_)).low HN.out
  obtain ⟨i, E, u, hi⟩ := hx
  match i, hi with
  | 0, hi => simp at hi; have := HMb.out.lt (i := 0) rfl; omega
  | 1, hi => simp at hi; have := HMb.out.lt (i := 1) rfl; omega
  | 2, hi => simp at hi; have := HMb.out.lt (i := 2) rfl; omega
  | 3, hi => simp at hi; have := HMb.out.lt (i := 3) rfl; omega
  | i + 4, hi => simp at hi
theorem run13_66_1 (f F : Fr) (rb : Nat) (k a bb v : Int) (l : List Int) (x : Int) (vv : Value) (w : World) (hi : f.st = 1) (hrow : w.cell? ⟨rb, 1, none⟩ = some (.func (.func 66) #[] #[])) (hg : GotV w vv x)
    (hM : ∀ b gv w, HB w b (pgG f gv x) 127 → Calls Try.prog 66 #[.pointer (some ⟨b, 0, none⟩)] w fun e w' => MethP b gv x w w' e F k a bb v l) :
    Calls Try.prog 60 #[.slice (some ⟨rb, 0, none⟩) 2 2, .agg f.cells, vv] w fun e w' => AnsB w w' e F k a bb v l ∧ Below w.heap.size w w' := by
  rcases hg with ⟨rfl, rfl⟩ | ⟨ad, gc, rfl, hg⟩
  · exact run13_66_1n f F rb k a bb v l w hi hrow fun b w hb => hM b _ w hb
  · have hs := World.cell?_spot hg
    obtain ⟨gb, go, sp⟩ := ad
    simp only at hs
    subst hs
    exact run13_66_1g f F rb k a bb v l gb go gc x w hi hrow hg fun b w hb => hM b _ w hb
end Go.Proofs.Ytgpdknacnmapiaa
