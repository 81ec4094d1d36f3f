/-
  Parts of a proof, put together: Ex.
-/
import Derived.Test.YtgpdknacnmapiaaZh01
import Derived.Test.YtgpdknacnmapiaaZh02
import Derived.Test.YtgpdknacnmapiaaZh03
import Derived.Test.YtgpdknacnmapiaaZh04
import Derived.Test.YtgpdknacnmapiaaZh05
import Derived.Test.YtgpdknacnmapiaaZh06
import Derived.Test.YtgpdknacnmapiaaZh07
import Derived.Test.YtgpdknacnmapiaaZh08
import Derived.Test.YtgpdknacnmapiaaZh09
import Derived.Test.YtgpdknacnmapiaaZh10
import Derived.Test.YtgpdknacnmapiaaZh11
import Derived.Test.YtgpdknacnmapiaaZh12
import Derived.Test.YtgpdknacnmapiaaZh13
import Derived.Test.YtgpdknacnmapiaaZh14
import Derived.Test.YtgpdknacnmapiaaZh15
import Derived.Test.YtgpdknacnmapiaaZh16
import Derived.Test.YtgpdknacnmapiaaZh17
import Derived.Test.YtgpdknacnmapiaaZh18
import Derived.Test.YtgpdknacnmapiaaZh19
import Derived.Test.YtgpdknacnmapiaaZh20
import Derived.Test.YtgpdknacnmapiaaZh21
import Derived.Deep.QuietTactic
namespace Go.Proofs.Ytgpdknacnmapiaa
set_option linter.unusedVariables false
set_option linter.unusedSimpArgs false
open Go.RowKit
def rows52 : Array Value := #[.func (.func 61) #[] #[], .func (.func 62) #[] #[], .func (.func 63) #[] #[], .func (.func 64) #[] #[]]
theorem run_bs52 (w : World) : (Instr.buildSlice 110 4 #[(0, .func (.func 61) #[] #[]), (1, .func (.func 62) #[] #[]), (2, .func (.func 63) #[] #[]), (3, .func (.func 64) #[] #[])]).run Try.prog w = .ok (.slice (some ⟨w.heap.size, 0, none⟩) 4 4) (w.alloc (.cells rows52 108)) := by kernel_rfl
theorem wpm_bs52 {X : Nat → Prop} {w0 w : World} {L : List (Nat × Array Value × TypeId)} {ops : Array Oper} {rest : List Oper} {o : Oper} {a : Act} {Q : Exit → Act → World → Prop} (HM : Hid (Mem X w0 w L)) (hg : o.guard = none) (ho : o.op = .buildSlice 110 4 #[(0, .func 61), (1, .func 62), (2, .func 63), (3, .func 64)])
    (h : ∀ W, Hid (Mem X w0 W (L ++ [(w.heap.size, rows52, 108)])) → wpList Try.prog ops Q rest (a.put o.dst (.slice (some ⟨w.heap.size, 0, none⟩) 4 4)) W) : wpList Try.prog ops Q (o :: rest) a w := by
  refine wpList_plain hg fun K hK => ?_
  unfold Oper.wp execOp
  simp only [ho]
  have hr' := run_bs52 w
  simp [hr', Sem.run_bind, Act.eval]
  exact hK _ _ (h _ (Lib.hid (HM.out.alloc _ _)))
def rows53 : Array Value := #[.func (.func 65) #[] #[], .func (.func 66) #[] #[]]
theorem run_bs53 (w : World) : (Instr.buildSlice 110 2 #[(0, .func (.func 65) #[] #[]), (1, .func (.func 66) #[] #[])]).run Try.prog w = .ok (.slice (some ⟨w.heap.size, 0, none⟩) 2 2) (w.alloc (.cells rows53 108)) := by kernel_rfl
theorem wpm_bs53 {X : Nat → Prop} {w0 w : World} {L : List (Nat × Array Value × TypeId)} {ops : Array Oper} {rest : List Oper} {o : Oper} {a : Act} {Q : Exit → Act → World → Prop} (HM : Hid (Mem X w0 w L)) (hg : o.guard = none) (ho : o.op = .buildSlice 110 2 #[(0, .func 65), (1, .func 66)])
    (h : ∀ W, Hid (Mem X w0 W (L ++ [(w.heap.size, rows53, 108)])) → wpList Try.prog ops Q rest (a.put o.dst (.slice (some ⟨w.heap.size, 0, none⟩) 2 2)) W) : wpList Try.prog ops Q (o :: rest) a w := by
  refine wpList_plain hg fun K hK => ?_
  unfold Oper.wp execOp
  simp only [ho]
  have hr' := run_bs53 w
  simp [hr', Sem.run_bind, Act.eval]
  exact hK _ _ (h _ (Lib.hid (HM.out.alloc _ _)))
def rows54 : Array Value := #[.func (.func 61) #[] #[], .func (.func 67) #[] #[], .func (.func 68) #[] #[], .func (.func 69) #[] #[]]
theorem run_bs54 (w : World) : (Instr.buildSlice 110 4 #[(0, .func (.func 61) #[] #[]), (1, .func (.func 67) #[] #[]), (2, .func (.func 68) #[] #[]), (3, .func (.func 69) #[] #[])]).run Try.prog w = .ok (.slice (some ⟨w.heap.size, 0, none⟩) 4 4) (w.alloc (.cells rows54 108)) := by kernel_rfl
theorem wpm_bs54 {X : Nat → Prop} {w0 w : World} {L : List (Nat × Array Value × TypeId)} {ops : Array Oper} {rest : List Oper} {o : Oper} {a : Act} {Q : Exit → Act → World → Prop} (HM : Hid (Mem X w0 w L)) (hg : o.guard = none) (ho : o.op = .buildSlice 110 4 #[(0, .func 61), (1, .func 67), (2, .func 68), (3, .func 69)])
    (h : ∀ W, Hid (Mem X w0 W (L ++ [(w.heap.size, rows54, 108)])) → wpList Try.prog ops Q rest (a.put o.dst (.slice (some ⟨w.heap.size, 0, none⟩) 4 4)) W) : wpList Try.prog ops Q (o :: rest) a w := by
  refine wpList_plain hg fun K hK => ?_
  unfold Oper.wp execOp
  simp only [ho]
  have hr' := run_bs54 w
  simp [hr', Sem.run_bind, Act.eval]
  exact hK _ _ (h _ (Lib.hid (HM.out.alloc _ _)))
set_option maxHeartbeats 2000000 in
set_option maxRecDepth 100000 in
theorem nx13_52 (f F : Fr) (k a bb v : Int) (l : List Int) (vv : Value) (x : Int) (w : World) (hp : f.pg = 52) (hg : GotV w vv x)
    (hR : ∀ rb w, (∀ (i : Nat) (y : Value), rows52[i]? = some y → w.cell? ⟨rb, i, none⟩ = some y) → GotV w vv x → Calls Try.prog 60 #[.slice (some ⟨rb, 0, none⟩) 4 4, .agg f.cells, vv] w fun e w' => AnsB w w' e F k a bb v l ∧ Below w.heap.size w w') :
    Calls Try.prog 32 #[.agg f.cells, vv] w fun e w' => AnsB w w' e F k a bb v l ∧ Below w.heap.size w w' := by
  have HM := Lib.hid (Mem.start w)
  have HG := Lib.hid hg
  have HR := Lib.hid hR
  have HS := Lib.hid (by rw [← hp]; exact f.c0 : f.cells[0]? = some (.int .i8 52))
  clear hp hg hR
  go_enter Try.func32, Try.ntmps32
  go_wp2_with (first
    | (refine wpm_box HM rfl 57 (.tmp 0) rfl _ rfl ?_; intro W hM; (try simp only [List.cons_append, List.nil_append, List.set_cons_succ, List.set_cons_zero, Nat.reduceAdd] at hM); replace HM := hM; clear hM)
    | (refine wpm_al57 HM rfl rfl ?_; intro W hM; (try simp only [List.cons_append, List.nil_append, List.set_cons_succ, List.set_cons_zero, Nat.reduceAdd] at hM); replace HM := hM; clear hM)
    | (refine wpm_al59 HM rfl rfl ?_; intro W hM; (try simp only [List.cons_append, List.nil_append, List.set_cons_succ, List.set_cons_zero, Nat.reduceAdd] at hM); replace HM := hM; clear hM; have ks : W.cell? ⟨w.heap.size, 0, none⟩ = some (.int .i8 52) := (HM.out.hb 0 _ _ _ rfl).cell (k := 0) HS.out)
    | (refine wpm_bs52 HM rfl rfl ?_; intro W4 hM; (try simp only [List.cons_append, List.nil_append, List.set_cons_succ, List.set_cons_zero, Nat.reduceAdd] at hM); replace HM := hM; clear hM ks)
    | (refine wpm_ld57 HM rfl (.tmp 2) rfl 0 rfl rfl ?_))
  have HMb := HM
  refine (HR.out _ _ (fun i y hy => (HM.out.hb 3 _ _ _ rfl).cell hy) (HG.out.below HM.out.bel)).mono ?_
  rintro e W6 ⟨⟨ao1, n1, c1, rfl, hi⟩, hb⟩
  have HI := Lib.hid hi
  have HN := Lib.hid HM.out.size
  replace HM := Lib.hid (HM.out.below hb)
  clear hb hi
  have HMT := HM
  replace HM := Lib.hid HM.out.re
  go_wp2_with (first
    | (refine wpm_st57 HM rfl (.tmp 4) (.tmp 14) rfl 1 rfl F rfl rfl ?_; intro W hM; (try simp only [List.cons_append, List.nil_append, List.set_cons_succ, List.set_cons_zero, Nat.reduceAdd] at hM); replace HM := hM; clear hM)
    | (refine wpm_st59 HM rfl (.tmp 5) (.tmp 15) rfl 2 rfl rfl k a bb v 0 ao1 n1 c1 rfl rfl ?_; intro W hM; (try simp only [List.cons_append, List.nil_append, List.set_cons_succ, List.set_cons_zero, Nat.reduceAdd] at hM); replace HM := hM; clear hM))
  (try simp only [Exit.inBlock, Exit.then])
  refine bodyPost_ret (res_cc rfl _ _ _ _ _ _ rfl rfl ((HM.out.hb 1 _ _ _ rfl).load57) ((HM.out.hb 2 _ _ _ rfl).load59 rfl)) rfl ?_
  refine ⟨⟨_, _, _, rfl, ?_⟩, (HMT.out.tr HM.out).bel⟩
  refine (HI.out.mem HM.out (fun b hb hx => ?_)).low HN.out
  obtain ⟨i, E, u, hi⟩ := hx
  match i, hi with
  | 0, hi => simp at hi; have := HMb.out.lt (i := 0) rfl; omega
  | 1, hi => simp at hi; have := HMb.out.lt (i := 1) rfl; omega
  | 2, hi => simp at hi; have := HMb.out.lt (i := 2) rfl; omega
  | 3, hi => simp at hi; have := HMb.out.lt (i := 3) rfl; omega
  | i + 4, hi => simp at hi
set_option maxHeartbeats 2000000 in
set_option maxRecDepth 100000 in
theorem nx13_53 (f F : Fr) (k a bb v : Int) (l : List Int) (vv : Value) (x : Int) (w : World) (hp : f.pg = 53) (hg : GotV w vv x)
    (hR : ∀ rb w, (∀ (i : Nat) (y : Value), rows53[i]? = some y → w.cell? ⟨rb, i, none⟩ = some y) → GotV w vv x → Calls Try.prog 60 #[.slice (some ⟨rb, 0, none⟩) 2 2, .agg f.cells, vv] w fun e w' => AnsB w w' e F k a bb v l ∧ Below w.heap.size w w') :
    Calls Try.prog 32 #[.agg f.cells, vv] w fun e w' => AnsB w w' e F k a bb v l ∧ Below w.heap.size w w' := by
  have HM := Lib.hid (Mem.start w)
  have HG := Lib.hid hg
  have HR := Lib.hid hR
  have HS := Lib.hid (by rw [← hp]; exact f.c0 : f.cells[0]? = some (.int .i8 53))
  clear hp hg hR
  go_enter Try.func32, Try.ntmps32
  go_wp2_with (first
    | (refine wpm_box HM rfl 57 (.tmp 0) rfl _ rfl ?_; intro W hM; (try simp only [List.cons_append, List.nil_append, List.set_cons_succ, List.set_cons_zero, Nat.reduceAdd] at hM); replace HM := hM; clear hM)
    | (refine wpm_al57 HM rfl rfl ?_; intro W hM; (try simp only [List.cons_append, List.nil_append, List.set_cons_succ, List.set_cons_zero, Nat.reduceAdd] at hM); replace HM := hM; clear hM)
    | (refine wpm_al59 HM rfl rfl ?_; intro W hM; (try simp only [List.cons_append, List.nil_append, List.set_cons_succ, List.set_cons_zero, Nat.reduceAdd] at hM); replace HM := hM; clear hM; have ks : W.cell? ⟨w.heap.size, 0, none⟩ = some (.int .i8 53) := (HM.out.hb 0 _ _ _ rfl).cell (k := 0) HS.out)
    | (refine wpm_bs53 HM rfl rfl ?_; intro W4 hM; (try simp only [List.cons_append, List.nil_append, List.set_cons_succ, List.set_cons_zero, Nat.reduceAdd] at hM); replace HM := hM; clear hM ks)
    | (refine wpm_ld57 HM rfl (.tmp 2) rfl 0 rfl rfl ?_))
  have HMb := HM
  refine (HR.out _ _ (fun i y hy => (HM.out.hb 3 _ _ _ rfl).cell hy) (HG.out.below HM.out.bel)).mono ?_
  rintro e W6 ⟨⟨ao1, n1, c1, rfl, hi⟩, hb⟩
  have HI := Lib.hid hi
  have HN := Lib.hid HM.out.size
  replace HM := Lib.hid (HM.out.below hb)
  clear hb hi
  have HMT := HM
  replace HM := Lib.hid HM.out.re
  go_wp2_with (first
    | (refine wpm_st57 HM rfl (.tmp 4) (.tmp 22) rfl 1 rfl F rfl rfl ?_; intro W hM; (try simp only [List.cons_append, List.nil_append, List.set_cons_succ, List.set_cons_zero, Nat.reduceAdd] at hM); replace HM := hM; clear hM)
    | (refine wpm_st59 HM rfl (.tmp 5) (.tmp 23) rfl 2 rfl rfl k a bb v 0 ao1 n1 c1 rfl rfl ?_; intro W hM; (try simp only [List.cons_append, List.nil_append, List.set_cons_succ, List.set_cons_zero, Nat.reduceAdd] at hM); replace HM := hM; clear hM))
  (try simp only [Exit.inBlock, Exit.then])
  refine bodyPost_ret (res_cc rfl _ _ _ _ _ _ rfl rfl ((HM.out.hb 1 _ _ _ rfl).load57) ((HM.out.hb 2 _ _ _ rfl).load59 rfl)) rfl ?_
  refine ⟨⟨_, _, _, rfl, ?_⟩, (HMT.out.tr HM.out).bel⟩
  refine (HI.out.mem HM.out (fun b hb hx => ?_)).low HN.out
  obtain ⟨i, E, u, hi⟩ := hx
  match i, hi with
  | 0, hi => simp at hi; have := HMb.out.lt (i := 0) rfl; omega
  | 1, hi => simp at hi; have := HMb.out.lt (i := 1) rfl; omega
  | 2, hi => simp at hi; have := HMb.out.lt (i := 2) rfl; omega
  | 3, hi => simp at hi; have := HMb.out.lt (i := 3) rfl; omega
  | i + 4, hi => simp at hi
set_option maxHeartbeats 2000000 in
set_option maxRecDepth 100000 in
theorem nx13_54 (f F : Fr) (k a bb v : Int) (l : List Int) (vv : Value) (x : Int) (w : World) (hp : f.pg = 54) (hg : GotV w vv x)
    (hR : ∀ rb w, (∀ (i : Nat) (y : Value), rows54[i]? = some y → w.cell? ⟨rb, i, none⟩ = some y) → GotV w vv x → Calls Try.prog 60 #[.slice (some ⟨rb, 0, none⟩) 4 4, .agg f.cells, vv] w fun e w' => AnsB w w' e F k a bb v l ∧ Below w.heap.size w w') :
    Calls Try.prog 32 #[.agg f.cells, vv] w fun e w' => AnsB w w' e F k a bb v l ∧ Below w.heap.size w w' := by
  have HM := Lib.hid (Mem.start w)
  have HG := Lib.hid hg
  have HR := Lib.hid hR
  have HS := Lib.hid (by rw [← hp]; exact f.c0 : f.cells[0]? = some (.int .i8 54))
  clear hp hg hR
  go_enter Try.func32, Try.ntmps32
  go_wp2_with (first
    | (refine wpm_box HM rfl 57 (.tmp 0) rfl _ rfl ?_; intro W hM; (try simp only [List.cons_append, List.nil_append, List.set_cons_succ, List.set_cons_zero, Nat.reduceAdd] at hM); replace HM := hM; clear hM)
    | (refine wpm_al57 HM rfl rfl ?_; intro W hM; (try simp only [List.cons_append, List.nil_append, List.set_cons_succ, List.set_cons_zero, Nat.reduceAdd] at hM); replace HM := hM; clear hM)
    | (refine wpm_al59 HM rfl rfl ?_; intro W hM; (try simp only [List.cons_append, List.nil_append, List.set_cons_succ, List.set_cons_zero, Nat.reduceAdd] at hM); replace HM := hM; clear hM; have ks : W.cell? ⟨w.heap.size, 0, none⟩ = some (.int .i8 54) := (HM.out.hb 0 _ _ _ rfl).cell (k := 0) HS.out)
    | (refine wpm_bs54 HM rfl rfl ?_; intro W4 hM; (try simp only [List.cons_append, List.nil_append, List.set_cons_succ, List.set_cons_zero, Nat.reduceAdd] at hM); replace HM := hM; clear hM ks)
    | (refine wpm_ld57 HM rfl (.tmp 2) rfl 0 rfl rfl ?_))
  have HMb := HM
  refine (HR.out _ _ (fun i y hy => (HM.out.hb 3 _ _ _ rfl).cell hy) (HG.out.below HM.out.bel)).mono ?_
  rintro e W6 ⟨⟨ao1, n1, c1, rfl, hi⟩, hb⟩
  have HI := Lib.hid hi
  have HN := Lib.hid HM.out.size
  replace HM := Lib.hid (HM.out.below hb)
  clear hb hi
  have HMT := HM
  replace HM := Lib.hid HM.out.re
  go_wp2_with (first
    | (refine wpm_st57 HM rfl (.tmp 4) (.tmp 30) rfl 1 rfl F rfl rfl ?_; intro W hM; (try simp only [List.cons_append, List.nil_append, List.set_cons_succ, List.set_cons_zero, Nat.reduceAdd] at hM); replace HM := hM; clear hM)
    | (refine wpm_st59 HM rfl (.tmp 5) (.tmp 31) rfl 2 rfl rfl k a bb v 0 ao1 n1 c1 rfl rfl ?_; intro W hM; (try simp only [List.cons_append, List.nil_append, List.set_cons_succ, List.set_cons_zero, Nat.reduceAdd] at hM); replace HM := hM; clear hM))
  (try simp only [Exit.inBlock, Exit.then])
  refine bodyPost_ret (res_cc rfl _ _ _ _ _ _ rfl rfl ((HM.out.hb 1 _ _ _ rfl).load57) ((HM.out.hb 2 _ _ _ rfl).load59 rfl)) rfl ?_
  refine ⟨⟨_, _, _, rfl, ?_⟩, (HMT.out.tr HM.out).bel⟩
  refine (HI.out.mem HM.out (fun b hb hx => ?_)).low HN.out
  obtain ⟨i, E, u, hi⟩ := hx
  match i, hi with
  | 0, hi => simp at hi; have := HMb.out.lt (i := 0) rfl; omega
  | 1, hi => simp at hi; have := HMb.out.lt (i := 1) rfl; omega
  | 2, hi => simp at hi; have := HMb.out.lt (i := 2) rfl; omega
  | 3, hi => simp at hi; have := HMb.out.lt (i := 3) rfl; omega
  | i + 4, hi => simp at hi
theorem pn13_0 (f : Fr) (x : Int) (hp : f.pg = 52) (hs : f.st = 0) : ∀ vv w, GotV w vv x → Calls Try.prog 32 #[.agg f.cells, vv] w fun e w' => AnsB w w' e (f.at_ 1) 0 2 0 0 [] ∧ Below w.heap.size w w' := fun vv w hg =>
  nx13_52 f _ _ _ _ _ _ vv x w hp hg fun rb w hr hg => run13_61_0 f _ rb _ _ _ _ _ x vv w hs (hr 0 _ rfl) hg fun b gv w hb => pin13_0 b f gv x w hb
theorem pn13_1 (f : Fr) (x : Int) (hp : f.pg = 52) (hs : f.st = 1) (c0 : Int) (hc0 : f.r 0 = c0) (h4 : 0 ≤ c0 ∧ c0 < 4) (hx : 0 ≤ x ∧ x ≤ 1000000) : ∀ vv w, GotV w vv x → Calls Try.prog 32 #[.agg f.cells, vv] w fun e w' => AnsB w w' e ((f.reg 1 x).at_ 2) 1 (5 + c0) 0 (x + 1) [] ∧ Below w.heap.size w w' := fun vv w hg =>
  nx13_52 f _ _ _ _ _ _ vv x w hp hg fun rb w hr hg => run13_62_1 f _ rb _ _ _ _ _ x vv w hs (hr 1 _ rfl) hg fun b gv w hb => pin13_1 b f gv x c0 hc0 h4 hx w hb
theorem pn13_2 (f : Fr) (x : Int) (hp : f.pg = 52) (hs : f.st = 2) : ∀ vv w, GotV w vv x → Calls Try.prog 32 #[.agg f.cells, vv] w fun e w' => AnsB w w' e (f.at_ 3) 0 2 0 0 [] ∧ Below w.heap.size w w' := fun vv w hg =>
  nx13_52 f _ _ _ _ _ _ vv x w hp hg fun rb w hr hg => run13_63_2 f _ rb _ _ _ _ _ x vv w hs (hr 2 _ rfl) hg fun b gv w hb => pin13_2 b f gv x w hb
theorem pn13_3e (f : Fr) (x : Int) (hp : f.pg = 52) (hs : f.st = 3) (he : f.r 1 = x) : ∀ vv w, GotV w vv x → Calls Try.prog 32 #[.agg f.cells, vv] w fun e w' => AnsB w w' e f 7 0 0 0 [x] ∧ Below w.heap.size w w' := fun vv w hg =>
  nx13_52 f _ _ _ _ _ _ vv x w hp hg fun rb w hr hg => run13_64_3 f _ rb _ _ _ _ _ x vv w hs (hr 3 _ rfl) hg fun b gv w hb => pin13_3e b f gv x he w hb
theorem pn13_3g (f : Fr) (x : Int) (hp : f.pg = 52) (hs : f.st = 3) (c0 r1 : Int) (hc0 : f.r 0 = c0) (hr1 : f.r 1 = r1) (hne : x ≠ r1) (h4 : 0 ≤ c0 ∧ c0 < 4) (hx : 0 ≤ x ∧ x ≤ 1000000) : ∀ vv w, GotV w vv x → Calls Try.prog 32 #[.agg f.cells, vv] w fun e w' => AnsB w w' e ((f.reg 1 x).at_ 2) 1 (5 + c0) 0 (x + 1) [] ∧ Below w.heap.size w w' := fun vv w hg =>
  nx13_52 f _ _ _ _ _ _ vv x w hp hg fun rb w hr hg => run13_64_3 f _ rb _ _ _ _ _ x vv w hs (hr 3 _ rfl) hg fun b gv w hb => pin13_3g b f gv x c0 r1 hc0 hr1 hne h4 hx w hb
theorem un13_0 (f : Fr) (x : Int) (hp : f.pg = 53) (hs : f.st = 0) (c0 : Int) (hc0 : f.r 0 = c0) (h4 : 0 ≤ c0 ∧ c0 < 4) : ∀ vv w, GotV w vv x → Calls Try.prog 32 #[.agg f.cells, vv] w fun e w' => AnsB w w' e (f.at_ 1) 1 (5 + c0) 0 0 [] ∧ Below w.heap.size w w' := fun vv w hg =>
  nx13_53 f _ _ _ _ _ _ vv x w hp hg fun rb w hr hg => run13_65_0 f _ rb _ _ _ _ _ x vv w hs (hr 0 _ rfl) hg fun b gv w hb => unpin13_0 b f gv x c0 hc0 h4 w hb
theorem un13_1 (f : Fr) (x : Int) (hp : f.pg = 53) (hs : f.st = 1) : ∀ vv w, GotV w vv x → Calls Try.prog 32 #[.agg f.cells, vv] w fun e w' => AnsB w w' e f 7 0 0 0 [] ∧ Below w.heap.size w w' := fun vv w hg =>
  nx13_53 f _ _ _ _ _ _ vv x w hp hg fun rb w hr hg => run13_66_1 f _ rb _ _ _ _ _ x vv w hs (hr 1 _ rfl) hg fun b gv w hb => unpin13_1 b f gv x w hb
theorem ad13_0 (f : Fr) (x : Int) (hp : f.pg = 54) (hs : f.st = 0) : ∀ vv w, GotV w vv x → Calls Try.prog 32 #[.agg f.cells, vv] w fun e w' => AnsB w w' e (f.at_ 1) 0 2 0 0 [] ∧ Below w.heap.size w w' := fun vv w hg =>
  nx13_54 f _ _ _ _ _ _ vv x w hp hg fun rb w hr hg => run13_61_0 f _ rb _ _ _ _ _ x vv w hs (hr 0 _ rfl) hg fun b gv w hb => pin13_0 b f gv x w hb
theorem ad13_1 (f : Fr) (x : Int) (hp : f.pg = 54) (hs : f.st = 1) (hx : 0 ≤ x ∧ x ≤ 1000000) : ∀ vv w, GotV w vv x → Calls Try.prog 32 #[.agg f.cells, vv] w fun e w' => AnsB w w' e ((((f.reg 0 x).reg 1 0).reg 1 1).at_ 2) 0 5 0 0 [] ∧ Below w.heap.size w w' := fun vv w hg =>
  nx13_54 f _ _ _ _ _ _ vv x w hp hg fun rb w hr hg => run13_67_1 f _ rb _ _ _ _ _ x vv w hs (hr 1 _ rfl) hg fun b gv w hb => adv13_1 b f gv x hx w hb
theorem ad13_2e (f : Fr) (x : Int) (hp : f.pg = 54) (hs : f.st = 2) (e0 : Int) (he : f.r 0 = e0) (he9 : 0 ≤ e0 ∧ e0 ≤ 1000000) (h0 : x ≠ 0) (h1 : x ≠ e0 + 1) : ∀ vv w, GotV w vv x → Calls Try.prog 32 #[.agg f.cells, vv] w fun e w' => AnsB w w' e f 7 0 0 0 [0] ∧ Below w.heap.size w w' := fun vv w hg =>
  nx13_54 f _ _ _ _ _ _ vv x w hp hg fun rb w hr hg => run13_68_2 f _ rb _ _ _ _ _ x vv w hs (hr 2 _ rfl) hg fun b gv w hb => adv13_2e b f gv x e0 he he9 h0 h1 w hb
theorem ad13_2lz (f : Fr) (x : Int) (hp : f.pg = 54) (hs : f.st = 2) (e0 : Int) (he : f.r 0 = e0) (he9 : 0 ≤ e0 ∧ e0 ≤ 1000000) (hc : f.r 1 = 4) (h0 : x = 0) : ∀ vv w, GotV w vv x → Calls Try.prog 32 #[.agg f.cells, vv] w fun e w' => AnsB w w' e (f.at_ 3) 2 2 e0 (e0 + 1) [] ∧ Below w.heap.size w w' := fun vv w hg =>
  nx13_54 f _ _ _ _ _ _ vv x w hp hg fun rb w hr hg => run13_68_2 f _ rb _ _ _ _ _ x vv w hs (hr 2 _ rfl) hg fun b gv w hb => adv13_2lz b f gv x e0 he he9 hc h0 w hb
theorem ad13_2ln (f : Fr) (x : Int) (hp : f.pg = 54) (hs : f.st = 2) (e0 : Int) (he : f.r 0 = e0) (he9 : 0 ≤ e0 ∧ e0 ≤ 1000000) (hc : f.r 1 = 4) (h0 : x ≠ 0) (h1 : x = e0 + 1) : ∀ vv w, GotV w vv x → Calls Try.prog 32 #[.agg f.cells, vv] w fun e w' => AnsB w w' e (f.at_ 3) 2 2 e0 (e0 + 1) [] ∧ Below w.heap.size w w' := fun vv w hg =>
  nx13_54 f _ _ _ _ _ _ vv x w hp hg fun rb w hr hg => run13_68_2 f _ rb _ _ _ _ _ x vv w hs (hr 2 _ rfl) hg fun b gv w hb => adv13_2ln b f gv x e0 he he9 hc h0 h1 w hb
theorem ad13_2cz (f : Fr) (x : Int) (hp : f.pg = 54) (hs : f.st = 2) (e0 : Int) (he : f.r 0 = e0) (he9 : 0 ≤ e0 ∧ e0 ≤ 1000000) (c0 : Int) (hc : f.r 1 = c0) (h4 : 0 ≤ c0 ∧ c0 < 4) (h0 : x = 0) : ∀ vv w, GotV w vv x → Calls Try.prog 32 #[.agg f.cells, vv] w fun e w' => AnsB w w' e ((f.reg 1 (c0 + 1)).at_ 2) 0 (5 + c0) 0 0 [] ∧ Below w.heap.size w w' := fun vv w hg =>
  nx13_54 f _ _ _ _ _ _ vv x w hp hg fun rb w hr hg => run13_68_2 f _ rb _ _ _ _ _ x vv w hs (hr 2 _ rfl) hg fun b gv w hb => adv13_2cz b f gv x e0 he he9 c0 hc h4 h0 w hb
theorem ad13_2cn (f : Fr) (x : Int) (hp : f.pg = 54) (hs : f.st = 2) (e0 : Int) (he : f.r 0 = e0) (he9 : 0 ≤ e0 ∧ e0 ≤ 1000000) (c0 : Int) (hc : f.r 1 = c0) (h4 : 0 ≤ c0 ∧ c0 < 4) (h0 : x ≠ 0) (h1 : x = e0 + 1) : ∀ vv w, GotV w vv x → Calls Try.prog 32 #[.agg f.cells, vv] w fun e w' => AnsB w w' e ((f.reg 1 (c0 + 1)).at_ 2) 0 (5 + c0) 0 0 [] ∧ Below w.heap.size w w' := fun vv w hg =>
  nx13_54 f _ _ _ _ _ _ vv x w hp hg fun rb w hr hg => run13_68_2 f _ rb _ _ _ _ _ x vv w hs (hr 2 _ rfl) hg fun b gv w hb => adv13_2cn b f gv x e0 he he9 c0 hc h4 h0 h1 w hb
theorem ad13_3 (f : Fr) (x : Int) (hp : f.pg = 54) (hs : f.st = 3) : ∀ vv w, GotV w vv x → Calls Try.prog 32 #[.agg f.cells, vv] w fun e w' => AnsB w w' e f 7 0 0 0 [x] ∧ Below w.heap.size w w' := fun vv w hg =>
  nx13_54 f _ _ _ _ _ _ vv x w hp hg fun rb w hr hg => run13_69_3 f _ rb _ _ _ _ _ x vv w hs (hr 3 _ rfl) hg fun b gv w hb => adv13_3 b f gv x w hb
end Go.Proofs.Ytgpdknacnmapiaa
