/-
  Parts of a proof, put together: Eq.
-/
import Derived.Test.YtgpdknacnmapiaaZh01
import Derived.Test.YtgpdknacnmapiaaZh02
import Derived.Test.YtgpdknacnmapiaaZh03
import Derived.Test.YtgpdknacnmapiaaZh04
import Derived.Test.YtgpdknacnmapiaaZh05
import Derived.Test.YtgpdknacnmapiaaZh06
import Derived.Test.YtgpdknacnmapiaaZh07
import Derived.Test.YtgpdknacnmapiaaZh08
import Derived.Test.YtgpdknacnmapiaaZh09
import Derived.Test.YtgpdknacnmapiaaZh10
import Derived.Test.YtgpdknacnmapiaaZh11
import Derived.Test.YtgpdknacnmapiaaZh12
import Derived.Test.YtgpdknacnmapiaaZh13
import Derived.Test.YtgpdknacnmapiaaZh14
import Derived.Test.YtgpdknacnmapiaaZh15
import Derived.Test.YtgpdknacnmapiaaZh16
import Derived.Deep.QuietTactic
namespace Go.Proofs.Ytgpdknacnmapiaa
set_option linter.unusedVariables false
set_option linter.unusedSimpArgs false
open Go.RowKit
theorem cell106 (n : Int) (w : World) (hn : 0 ≤ n ∧ n < 4) : Calls Try.prog 106 #[.int .i64 5, .int .i64 n, .int .i64 4] w fun e w' => e = .returned (.int .i64 (5 + n)) ∧ w' = w := by
  have d0 : decide (n < 0) = false := by simp; omega
  have d1 : decide ((4 : Int) ≤ n) = false := by simp; omega
  obtain ⟨h1, h2⟩ := hn
  go_enter Try.func106, Try.ntmps106
  go_wp2_with fail
  go_ret
  exact ⟨rfl, rfl⟩
theorem ints_oneM {b N i : Nat} {v : Int} {C : Array Value} {t : TypeId} {w W : World} {L : List (Nat × Array Value × TypeId)} (h : Mem (fun k => k = b) w W L) (h0 : L[0]? = some (b, C, t)) (hi : L[i]? = some (N, #[.int .i64 v], 3)) (hne : i ≠ 0) : Ints w.heap.size W (.slice (some ⟨N, 0, none⟩) 1 1) [v] := by
  refine ⟨_, _, rfl, Nat.le_refl _, fun j z hz => ⟨N, 0, rfl, ?_, ?_⟩⟩
  · rcases h.st i _ _ _ hi with e | e
    · subst e; exact absurd (h.nd i 0 _ _ _ _ _ hi h0) hne
    · exact e
  · match j, hz with
    | 0, hz => simp at hz; subst hz; exact (h.hb i _ _ _ hi).cell (k := 0) rfl
    | j + 1, hz => simp at hz
theorem wpm_bsI1 {X : Nat → Prop} {w0 w : World} {L : List (Nat × Array Value × TypeId)} {ops : Array Oper} {rest : List Oper} {o : Oper} {a : Act} {Q : Exit → Act → World → Prop} (HM : Hid (Mem X w0 w L)) (hg : o.guard = none) (p : Operand) (ho : o.op = .buildSlice 30 1 #[(0, p)]) (x : Int) (hp : a.eval p = .int .i64 x)
    (h : ∀ W, Hid (Mem X w0 W (L ++ [(w.heap.size, #[.int .i64 x], 3)])) → wpList Try.prog ops Q rest (a.put o.dst (.slice (some ⟨w.heap.size, 0, none⟩) 1 1)) W) : wpList Try.prog ops Q (o :: rest) a w := by
  refine wpList_plain hg fun K hK => ?_
  unfold Oper.wp execOp
  simp only [ho]
  have hr' := run_bsI1 x w
  simp [hp, hr', Sem.run_bind]
  exact hK _ _ (h _ (Lib.hid (HM.out.alloc _ _)))
theorem pin92 (n : Int) (w : World) (hn : 0 ≤ n ∧ n < 4) : Calls Try.prog 92 #[.int .i64 n] w fun e w' => e = .returned (.int .i64 (5 + n)) ∧ w' = w := by
  have HC := Lib.hid (fun w => cell106 n w hn)
  clear hn
  go_enter Try.func92, Try.ntmps92
  go_wp2_with fail
  refine (HC.out _).mono ?_
  rintro e W ⟨rfl, rfl⟩
  go_wp2_with fail
  go_ret
  exact ⟨rfl, rfl⟩
set_option maxHeartbeats 2000000 in
set_option maxRecDepth 100000 in
theorem unpin13_0 (b : Nat) (f : Fr) (gv : Value) (x : Int) (c0 : Int) (hc0 : f.r 0 = c0) (h4 : 0 ≤ c0 ∧ c0 < 4) (w : World) (hb : HB w b (pgG f gv x) 127) : Calls Try.prog 65 #[.pointer (some ⟨b, 0, none⟩)] w fun e w' => MethP b gv x w w' e (f.at_ 1) 1 (5 + c0) 0 0 [] := by
  have HM := Lib.hid (Mem.startR hb)
  have HR0 := Lib.hid (by rw [← hc0]; exact pgG_r f gv x 0 (by omega) : (pgG f gv x)[2]? = some (.int .i64 c0))
  have H4 := Lib.hid h4
  clear hc0 h4
  clear hb
  go_enter Try.func65, Try.ntmps65
  go_wp2_with (first
    | (refine wpm_al57 HM rfl rfl ?_; intro W hM; (try simp only [List.cons_append, List.nil_append, List.set_cons_succ, List.set_cons_zero, Nat.reduceAdd] at hM); replace HM := hM; clear hM)
    | (refine wpm_al59 HM rfl rfl ?_; intro W hM; (try simp only [List.cons_append, List.nil_append, List.set_cons_succ, List.set_cons_zero, Nat.reduceAdd] at hM); replace HM := hM; clear hM)
    | (refine wpm_ldc HM rfl 3 (.tmp 9) rfl lv3 0 2 rfl rfl (.int .i64 c0) HR0.out ?_))
  refine (pin92 c0 _ H4.out).mono ?_
  rintro e W1 ⟨rfl, rfl⟩
  go_wp2_with fail
  refine (store13 b f gv x 1 (5 + c0) 0 _ (HM.out.hb 0 _ _ _ rfl)).mono ?_
  rintro e W2 ⟨⟨ao1, n1, c1, rfl, hi⟩, hM2⟩
  have hM3 := HM.out.upR (i := 0) rfl hM2
  (try simp only [List.set_cons_zero] at hM3)
  replace HM := Lib.hid hM3
  have en : n1 = 0 := by
    obtain ⟨_, _, e, _⟩ := hi
    injection e
  subst en
  clear hM2 hM3 hi
  go_wp2_with (first
    | (refine wpm_st57 HM rfl (.tmp 2) (.tmp 13) rfl 1 rfl (f.at_ 1) rfl rfl ?_; intro W hM; (try simp only [List.cons_append, List.nil_append, List.set_cons_succ, List.set_cons_zero, Nat.reduceAdd] at hM); replace HM := hM; clear hM)
    | (refine wpm_st59 HM rfl (.tmp 3) (.tmp 14) rfl 2 rfl rfl 1 (5 + c0) 0 0 0 ao1 0 c1 rfl rfl ?_; intro W hM; (try simp only [List.cons_append, List.nil_append, List.set_cons_succ, List.set_cons_zero, Nat.reduceAdd] at hM); replace HM := hM; clear hM))
  (try simp only [Exit.inBlock, Exit.then])
  refine bodyPost_ret (res_cc rfl _ _ _ _ _ _ rfl rfl ((HM.out.hb 1 _ _ _ rfl).load57) ((HM.out.hb 2 _ _ _ rfl).load59 rfl)) rfl ?_
  exact ⟨⟨_, _, _, rfl, ints0 _ _ _ _⟩, mem_one HM.out⟩
set_option maxHeartbeats 2000000 in
set_option maxRecDepth 100000 in
theorem pin13_1 (b : Nat) (f : Fr) (gv : Value) (x : Int) (c0 : Int) (hc0 : f.r 0 = c0) (h4 : 0 ≤ c0 ∧ c0 < 4) (hx : 0 ≤ x ∧ x ≤ 1000000) (w : World) (hb : HB w b (pgG f gv x) 127) : Calls Try.prog 62 #[.pointer (some ⟨b, 0, none⟩)] w fun e w' => MethP b gv x w w' e ((f.reg 1 x).at_ 2) 1 (5 + c0) 0 (x + 1) [] := by
  have HM := Lib.hid (Mem.startR hb)
  have HR0 := Lib.hid (by rw [← hc0]; exact pgG_r (f.reg 1 x) gv x 0 (by omega) : (pgG (f.reg 1 x) gv x)[2]? = some (.int .i64 c0))
  have HR1 := Lib.hid (by rw [← hc0]; exact pgG_r ((f.reg 1 x).at_ 2) gv x 0 (by omega) : (pgG ((f.reg 1 x).at_ 2) gv x)[2]? = some (.int .i64 c0))
  have H4 := Lib.hid h4
  obtain ⟨hx1, hx2⟩ := hx
  clear hc0 h4
  clear hb
  go_enter Try.func62, Try.ntmps62
  go_wp2_with (first
    | (refine wpm_al57 HM rfl rfl ?_; intro W2 hM; (try simp only [List.cons_append, List.nil_append, List.set_cons_succ, List.set_cons_zero, Nat.reduceAdd] at hM); replace HM := hM; clear hM)
    | (refine wpm_al59 HM rfl rfl ?_; intro W3 hM; (try simp only [List.cons_append, List.nil_append, List.set_cons_succ, List.set_cons_zero, Nat.reduceAdd] at hM); replace HM := hM; clear hM))
  replace HM := Lib.hid HM.out.drew
  have HF : Hid (∀ p ∈ ([(⟨b, 99, none⟩, .int .i64 x)] : List (Addr × Value)), World.cell? _ p.1 = some p.2) := Lib.hid (allc ((HM.out.hb 0 _ _ _ rfl).cell (k := 99) (pgG_x _ _ _)) (alln _))
  haveI : Inhabited (CW [(⟨b, 99, none⟩, .int .i64 x)]) := ⟨⟨_, HF.out⟩⟩
  have f0 : ∀ q : CW [(⟨b, 99, none⟩, .int .i64 x)], q.1.cell? ⟨b, 99, none⟩ = some (.int .i64 x) := fun q => q.2 (⟨b, 99, none⟩, .int .i64 x) (by simp)
  (try simp only [Act.put, List.setIfInBounds_toArray, List.set_cons_succ, List.set_cons_zero])
  refine wp_region_noPanic ?_
  refine wp_region_plw (.step [true, true, true, true, true, true, true, true, true] (.cons 9 (.last []) .nil)) (fun y => ∃ q : CW [(⟨b, 99, none⟩, .int .i64 x)], y = q.1) (by kernel_rfl) (by kernel_rfl) (by kernel_rfl) (fun _ _ _ _ _ _ _ h => h) ⟨⟨_, HF.out⟩, rfl⟩ ?_
  simp only [wpPw, wpBw, selF, and_true]
  generalize W3.drew = V1 at *
  repeat (go_big_quiet_step (fail))
  refine wpQuiet_nil ?_
  refine wpOp_step rfl (fun K hK => ?_)
  rw [if_pos (by rfl)]
  refine wpO_cell 3 (.tmp 12) (.tmp 8) rfl rfl Try.sizeOf3 b 3 x rfl rfl _ 127 (HM.out.hb 0 _ _ _ rfl) (by rw [pgG_size]; omega) ?_
  intro W5 hb ho hF hs
  replace HM := Lib.hid (HM.out.upd (i := 0) rfl hb ho hs (C' := pgG (f.reg 1 x) gv x) (by rw [← pgG_setr f gv x 1 (by omega)]; exact hF))
  (try simp only [List.set_cons_zero] at HM)
  clear hb ho hF hs
  refine hK _ _ ⟨(fun y => ∃ q : CW [(⟨b, 99, none⟩, .int .i64 x)], y = q.1), ⟨⟨_, (allc ((HM.out.hb 0 _ _ _ rfl).cell (k := 99) (pgG_x _ _ _)) (alln _))⟩, rfl⟩, fun _ h => h, ?_⟩
  clear hK K
  (try simp only [Act.put, List.setIfInBounds_toArray, List.set_cons_succ, List.set_cons_zero])
  refine wpQuiet_nil ?_
  refine NoPanic.normal ?_
  clear f0 HF
  go_wp2_with fail
  replace HM := Lib.hid HM.out.drew
  have HF : Hid (∀ p ∈ ([(⟨b, 2, none⟩, .int .i64 c0), (⟨b, 99, none⟩, .int .i64 x)] : List (Addr × Value)), World.cell? _ p.1 = some p.2) := Lib.hid (allc ((HM.out.hb 0 _ _ _ rfl).cell (k := 2) HR0.out) (allc ((HM.out.hb 0 _ _ _ rfl).cell (k := 99) (pgG_x _ _ _)) (alln _)))
  haveI : Inhabited (CW [(⟨b, 2, none⟩, .int .i64 c0), (⟨b, 99, none⟩, .int .i64 x)]) := ⟨⟨_, HF.out⟩⟩
  have f0 : ∀ q : CW [(⟨b, 2, none⟩, .int .i64 c0), (⟨b, 99, none⟩, .int .i64 x)], q.1.cell? ⟨b, 2, none⟩ = some (.int .i64 c0) := fun q => q.2 (⟨b, 2, none⟩, .int .i64 c0) (by simp)
  have f1 : ∀ q : CW [(⟨b, 2, none⟩, .int .i64 c0), (⟨b, 99, none⟩, .int .i64 x)], q.1.cell? ⟨b, 99, none⟩ = some (.int .i64 x) := fun q => q.2 (⟨b, 99, none⟩, .int .i64 x) (by simp)
  (try simp only [Act.put, List.setIfInBounds_toArray, List.set_cons_succ, List.set_cons_zero])
  refine wp_region_noPanic ?_
  refine wp_region_plw (.step [true, true, true, true, true, true, true, false, true, true, true, true, true] (.cons 7 (.step [] (.cons 13 (.step [false, false, false, false, false, false, false, false, false, false, false, false, false, false, true, true] (.cons 16 (.step [] (.cons 17 (.last []) .nil)) .nil)) .nil)) .nil)) (fun y => ∃ q : CW [(⟨b, 2, none⟩, .int .i64 c0), (⟨b, 99, none⟩, .int .i64 x)], y = q.1) (by kernel_rfl) (by kernel_rfl) (by kernel_rfl) (fun _ _ _ _ _ _ _ h => h) ⟨⟨_, HF.out⟩, rfl⟩ ?_
  simp only [wpPw, wpBw, selF, and_true]
  generalize W5.drew = V2 at *
  repeat (go_big_quiet_step (fail))
  refine wpQuiet_nil ?_
  refine wpOp_step rfl (fun K hK => ?_)
  go_simp
  refine (pin92 c0 _ H4.out).mono ?_
  rintro e V3 ⟨rfl, rfl⟩
  refine hK _ _ ⟨(fun y => ∃ q : CW [(⟨b, 2, none⟩, .int .i64 c0), (⟨b, 99, none⟩, .int .i64 x)], y = q.1), ⟨⟨_, (allc ((HM.out.hb 0 _ _ _ rfl).cell (k := 2) HR0.out) (allc ((HM.out.hb 0 _ _ _ rfl).cell (k := 99) (pgG_x _ _ _)) (alln _)))⟩, rfl⟩, fun _ h => h, ?_⟩
  clear hK K
  (try simp only [Act.put, List.setIfInBounds_toArray, List.set_cons_succ, List.set_cons_zero])
  refine wpQuiet_nil ?_
  refine wpOp_step rfl (fun K hK => ?_)
  go_simp
  refine (store13 b (f.reg 1 x) gv x 2 (5 + c0) (x + 1) _ (HM.out.hb 0 _ _ _ rfl)).mono ?_
  rintro e V4 ⟨⟨ao1, n1, c1, rfl, hi⟩, hM2⟩
  have hM3 := HM.out.upR (i := 0) rfl hM2
  (try simp only [List.set_cons_zero] at hM3)
  replace HM := Lib.hid hM3
  have en : n1 = 0 := by
    obtain ⟨_, _, e, _⟩ := hi
    injection e
  subst en
  clear hM2 hM3 hi
  refine hK _ _ ⟨(fun y => ∃ q : CW [(⟨b, 2, none⟩, .int .i64 c0), (⟨b, 99, none⟩, .int .i64 x)], y = q.1), ⟨⟨_, (allc ((HM.out.hb 0 _ _ _ rfl).cell (k := 2) HR1.out) (allc ((HM.out.hb 0 _ _ _ rfl).cell (k := 99) (pgG_x _ _ _)) (alln _)))⟩, rfl⟩, fun _ h => h, ?_⟩
  clear hK K
  (try simp only [Act.put, List.setIfInBounds_toArray, List.set_cons_succ, List.set_cons_zero])
  repeat (go_big_quiet_step (fail))
  refine wpQuiet_nil ?_
  refine wpOp_step rfl (fun K hK => ?_)
  rw [if_pos (by rfl)]
  refine wpOm_st HM 57 (.tmp 2) (.tmp 27) rfl rfl 1 rfl ((f.reg 1 x).at_ 2).cells rfl rfl 98 inf57 (Fr.size _) (Fr.size _) (Fr.one _) ?_
  intro V5 hM
  (try simp only [List.cons_append, List.nil_append, List.set_cons_succ, List.set_cons_zero, Nat.reduceAdd] at hM)
  replace HM := hM
  clear hM
  refine hK _ _ ⟨(fun y => ∃ q : CW [(⟨b, 2, none⟩, .int .i64 c0), (⟨b, 99, none⟩, .int .i64 x)], y = q.1), ⟨⟨_, (allc ((HM.out.hb 0 _ _ _ rfl).cell (k := 2) HR1.out) (allc ((HM.out.hb 0 _ _ _ rfl).cell (k := 99) (pgG_x _ _ _)) (alln _)))⟩, rfl⟩, fun _ h => h, ?_⟩
  clear hK K
  (try simp only [Act.put, List.setIfInBounds_toArray, List.set_cons_succ, List.set_cons_zero])
  refine wpQuiet_nil ?_
  refine wpOp_step rfl (fun K hK => ?_)
  rw [if_pos (by rfl)]
  refine wpOm_st HM 59 (.tmp 3) (.tmp 28) rfl rfl 2 rfl (acC 1 (5 + c0) 0 (x + 1) 0 (.slice ao1 0 c1)) rfl rfl 7 inf59 rfl rfl (acC_one _ _ _ _ _ _ _ _) ?_
  intro V6 hM
  (try simp only [List.cons_append, List.nil_append, List.set_cons_succ, List.set_cons_zero, Nat.reduceAdd] at hM)
  replace HM := hM
  clear hM
  refine hK _ _ ⟨(fun y => ∃ q : CW [(⟨b, 2, none⟩, .int .i64 c0), (⟨b, 99, none⟩, .int .i64 x)], y = q.1), ⟨⟨_, (allc ((HM.out.hb 0 _ _ _ rfl).cell (k := 2) HR1.out) (allc ((HM.out.hb 0 _ _ _ rfl).cell (k := 99) (pgG_x _ _ _)) (alln _)))⟩, rfl⟩, fun _ h => h, ?_⟩
  clear hK K
  (try simp only [Act.put, List.setIfInBounds_toArray, List.set_cons_succ, List.set_cons_zero])
  refine wpQuiet_nil ?_
  refine NoPanic.normal ?_
  go_wp2_with fail
  (try simp only [Exit.inBlock, Exit.then])
  refine bodyPost_ret (res_cc rfl _ _ _ _ _ _ rfl rfl ((HM.out.hb 1 _ _ _ rfl).load57) ((HM.out.hb 2 _ _ _ rfl).load59 rfl)) rfl ?_
  exact ⟨⟨_, _, _, rfl, ints0 _ _ _ _⟩, mem_one HM.out⟩
set_option maxHeartbeats 2000000 in
set_option maxRecDepth 100000 in
theorem look13_4 (b : Nat) (f : Fr) (gv : Value) (x : Int) (e0 : Int) (he : f.r 0 = e0) (hc : f.r 1 = 4) (he9 : 0 ≤ e0 ∧ e0 ≤ 1000000) (w : World) (hb : HB w b (pgG f gv x) 127) : Calls Try.prog 93 #[.pointer (some ⟨b, 0, none⟩)] w fun e w' => MethP b gv x w w' e (f.at_ 3) 2 2 e0 (e0 + 1) [] := by
  have HM := Lib.hid (Mem.startR hb)
  have HR0 := Lib.hid (by rw [← he]; exact pgG_r f gv x 0 (by omega) : (pgG f gv x)[2]? = some (.int .i64 e0))
  have HR1 := Lib.hid (by rw [← hc]; exact pgG_r f gv x 1 (by omega) : (pgG f gv x)[3]? = some (.int .i64 4))
  have HR2 := Lib.hid (by rw [← he]; exact pgG_r (f.at_ 3) gv x 0 (by omega) : (pgG (f.at_ 3) gv x)[2]? = some (.int .i64 e0))
  obtain ⟨e1, e2⟩ := he9
  clear he hc
  clear hb
  go_enter Try.func93, Try.ntmps93
  go_wp2_with (first
    | (refine wpm_al57 HM rfl rfl ?_; intro W2 hM; (try simp only [List.cons_append, List.nil_append, List.set_cons_succ, List.set_cons_zero, Nat.reduceAdd] at hM); replace HM := hM; clear hM)
    | (refine wpm_al59 HM rfl rfl ?_; intro W3 hM; (try simp only [List.cons_append, List.nil_append, List.set_cons_succ, List.set_cons_zero, Nat.reduceAdd] at hM); replace HM := hM; clear hM)
    | (refine wpm_ldc HM rfl 3 (.tmp 9) rfl lv3 0 3 rfl rfl (.int .i64 4) HR1.out ?_))
  replace HM := Lib.hid HM.out.drew
  have HF : Hid (∀ p ∈ ([(⟨b, 2, none⟩, .int .i64 e0)] : List (Addr × Value)), World.cell? _ p.1 = some p.2) := Lib.hid (allc ((HM.out.hb 0 _ _ _ rfl).cell (k := 2) HR0.out) (alln _))
  haveI : Inhabited (CW [(⟨b, 2, none⟩, .int .i64 e0)]) := ⟨⟨_, HF.out⟩⟩
  have f0 : ∀ q : CW [(⟨b, 2, none⟩, .int .i64 e0)], q.1.cell? ⟨b, 2, none⟩ = some (.int .i64 e0) := fun q => q.2 (⟨b, 2, none⟩, .int .i64 e0) (by simp)
  (try simp only [Act.put, List.setIfInBounds_toArray, List.set_cons_succ, List.set_cons_zero])
  refine wp_region_noPanic ?_
  refine wp_region_plw (.step [true, true, true, true, true, true, true, true, true, true, true, true, true, true] (.cons 14 (.step [false, false, false, false, false, false, false, false, false, false, false, false, false, false, false, true, true] (.cons 17 (.step [] (.cons 18 (.last []) .nil)) .nil)) .nil)) (fun y => ∃ q : CW [(⟨b, 2, none⟩, .int .i64 e0)], y = q.1) (by kernel_rfl) (by kernel_rfl) (by kernel_rfl) (fun _ _ _ _ _ _ _ h => h) ⟨⟨_, HF.out⟩, rfl⟩ ?_
  simp only [wpPw, wpBw, selF, and_true]
  generalize W3.drew = V7 at *
  repeat (go_big_quiet_step (fail))
  refine wpQuiet_nil ?_
  refine wpOp_step rfl (fun K hK => ?_)
  go_simp
  refine (cas13 b f gv x 3 2 e0 (e0 + 1) _ (HM.out.hb 0 _ _ _ rfl)).mono ?_
  rintro e V8 ⟨⟨ao1, n1, c1, rfl, hi⟩, hM2⟩
  have hM3 := HM.out.upR (i := 0) rfl hM2
  (try simp only [List.set_cons_zero] at hM3)
  replace HM := Lib.hid hM3
  have en : n1 = 0 := by
    obtain ⟨_, _, e, _⟩ := hi
    injection e
  subst en
  clear hM2 hM3 hi
  refine hK _ _ ⟨(fun y => ∃ q : CW [(⟨b, 2, none⟩, .int .i64 e0)], y = q.1), ⟨⟨_, (allc ((HM.out.hb 0 _ _ _ rfl).cell (k := 2) HR2.out) (alln _))⟩, rfl⟩, fun _ h => h, ?_⟩
  clear hK K
  (try simp only [Act.put, List.setIfInBounds_toArray, List.set_cons_succ, List.set_cons_zero])
  repeat (go_big_quiet_step (fail))
  refine wpQuiet_nil ?_
  refine wpOp_step rfl (fun K hK => ?_)
  rw [if_pos (by rfl)]
  refine wpOm_st HM 57 (.tmp 2) (.tmp 28) rfl rfl 1 rfl (f.at_ 3).cells rfl rfl 98 inf57 (Fr.size _) (Fr.size _) (Fr.one _) ?_
  intro V9 hM
  (try simp only [List.cons_append, List.nil_append, List.set_cons_succ, List.set_cons_zero, Nat.reduceAdd] at hM)
  replace HM := hM
  clear hM
  refine hK _ _ ⟨(fun y => ∃ q : CW [(⟨b, 2, none⟩, .int .i64 e0)], y = q.1), ⟨⟨_, (allc ((HM.out.hb 0 _ _ _ rfl).cell (k := 2) HR2.out) (alln _))⟩, rfl⟩, fun _ h => h, ?_⟩
  clear hK K
  (try simp only [Act.put, List.setIfInBounds_toArray, List.set_cons_succ, List.set_cons_zero])
  refine wpQuiet_nil ?_
  refine wpOp_step rfl (fun K hK => ?_)
  rw [if_pos (by rfl)]
  refine wpOm_st HM 59 (.tmp 3) (.tmp 29) rfl rfl 2 rfl (acC 2 2 e0 (e0 + 1) 0 (.slice ao1 0 c1)) rfl rfl 7 inf59 rfl rfl (acC_one _ _ _ _ _ _ _ _) ?_
  intro V10 hM
  (try simp only [List.cons_append, List.nil_append, List.set_cons_succ, List.set_cons_zero, Nat.reduceAdd] at hM)
  replace HM := hM
  clear hM
  refine hK _ _ ⟨(fun y => ∃ q : CW [(⟨b, 2, none⟩, .int .i64 e0)], y = q.1), ⟨⟨_, (allc ((HM.out.hb 0 _ _ _ rfl).cell (k := 2) HR2.out) (alln _))⟩, rfl⟩, fun _ h => h, ?_⟩
  clear hK K
  (try simp only [Act.put, List.setIfInBounds_toArray, List.set_cons_succ, List.set_cons_zero])
  refine wpQuiet_nil ?_
  refine NoPanic.normal ?_
  go_wp2_with fail
  (try simp only [Exit.inBlock, Exit.then])
  refine bodyPost_ret (res_cc rfl _ _ _ _ _ _ rfl rfl ((HM.out.hb 1 _ _ _ rfl).load57) ((HM.out.hb 2 _ _ _ rfl).load59 rfl)) rfl ?_
  exact ⟨⟨_, _, _, rfl, ints0 _ _ _ _⟩, mem_one HM.out⟩
set_option maxHeartbeats 2000000 in
set_option maxRecDepth 100000 in
theorem look13_c (b : Nat) (f : Fr) (gv : Value) (x : Int) (c0 : Int) (hc : f.r 1 = c0) (h4 : 0 ≤ c0 ∧ c0 < 4) (w : World) (hb : HB w b (pgG f gv x) 127) : Calls Try.prog 93 #[.pointer (some ⟨b, 0, none⟩)] w fun e w' => MethP b gv x w w' e ((f.reg 1 (c0 + 1)).at_ 2) 0 (5 + c0) 0 0 [] := by
  have HM := Lib.hid (Mem.startR hb)
  have HR1 := Lib.hid (by rw [← hc]; exact pgG_r f gv x 1 (by omega) : (pgG f gv x)[3]? = some (.int .i64 c0))
  have H4 := Lib.hid h4
  have d4 : (c0 == 4) = false := by rw [beq_eq_false_iff_ne]; omega
  obtain ⟨h41, h42⟩ := h4
  clear hc
  clear hb
  go_enter Try.func93, Try.ntmps93
  go_wp2_with (first
    | (refine wpm_al57 HM rfl rfl ?_; intro W2 hM; (try simp only [List.cons_append, List.nil_append, List.set_cons_succ, List.set_cons_zero, Nat.reduceAdd] at hM); replace HM := hM; clear hM)
    | (refine wpm_al59 HM rfl rfl ?_; intro W3 hM; (try simp only [List.cons_append, List.nil_append, List.set_cons_succ, List.set_cons_zero, Nat.reduceAdd] at hM); replace HM := hM; clear hM)
    | (refine wpm_ldc HM rfl 3 (.tmp 9) rfl lv3 0 3 rfl rfl (.int .i64 c0) HR1.out ?_))
  go_wp2_with fail
  replace HM := Lib.hid HM.out.drew
  have HF : Hid (∀ p ∈ ([] : List (Addr × Value)), World.cell? W3.drew p.1 = some p.2) := Lib.hid (alln _)
  haveI : Inhabited (CW []) := ⟨⟨_, HF.out⟩⟩
  (try simp only [Act.put, List.setIfInBounds_toArray, List.set_cons_succ, List.set_cons_zero])
  refine wp_region_noPanic ?_
  refine wp_region_plw (.step [true, true, true, true, true, false, false, true, true, true] (.cons 5 (.step [false, false, false, false, false, false, true, false, false, false, true] (.cons 11 (.last []) .nil)) .nil)) (fun y => ∃ q : CW [], y = q.1) (by kernel_rfl) (by kernel_rfl) (by kernel_rfl) (fun _ _ _ _ _ _ _ h => h) ⟨⟨_, HF.out⟩, rfl⟩ ?_
  simp only [wpPw, wpBw, selF, and_true]
  generalize W3.drew = V11 at *
  repeat (go_big_quiet_step (fail))
  refine wpQuiet_nil ?_
  refine wpOp_step rfl (fun K hK => ?_)
  rw [if_pos (by rfl)]
  refine wpOm_ldc HM 3 (.tmp 34) rfl 35 rfl lv3 0 3 rfl rfl (.int .i64 c0) HR1.out ?_
  refine hK _ _ ⟨(fun y => ∃ q : CW [], y = q.1), ⟨⟨_, (alln _)⟩, rfl⟩, fun _ h => h, ?_⟩
  clear hK K
  (try simp only [Act.put, List.setIfInBounds_toArray, List.set_cons_succ, List.set_cons_zero])
  repeat (go_big_quiet_step (fail))
  refine wpQuiet_nil ?_
  refine wpOp_step rfl (fun K hK => ?_)
  rw [if_pos (by rfl)]
  refine wpO_cell 3 (.tmp 40) (.tmp 36) rfl rfl Try.sizeOf3 b 3 (c0 + 1) rfl rfl _ 127 (HM.out.hb 0 _ _ _ rfl) (by rw [pgG_size]; omega) ?_
  intro W5 hb ho hF hs
  replace HM := Lib.hid (HM.out.upd (i := 0) rfl hb ho hs (C' := pgG (f.reg 1 (c0 + 1)) gv x) (by rw [← pgG_setr f gv x 1 (by omega)]; exact hF))
  (try simp only [List.set_cons_zero] at HM)
  clear hb ho hF hs
  refine hK _ _ ⟨(fun y => ∃ q : CW [], y = q.1), ⟨⟨_, (alln _)⟩, rfl⟩, fun _ h => h, ?_⟩
  clear hK K
  (try simp only [Act.put, List.setIfInBounds_toArray, List.set_cons_succ, List.set_cons_zero])
  refine wpQuiet_nil ?_
  refine NoPanic.normal ?_
  clear HF
  go_wp2_with fail
  refine (pin92 c0 _ H4.out).mono ?_
  rintro e W6 ⟨rfl, rfl⟩
  go_wp2_with fail
  refine (load13 b (f.reg 1 (c0 + 1)) gv x 2 (5 + c0) _ (HM.out.hb 0 _ _ _ rfl)).mono ?_
  rintro e W7 ⟨⟨ao1, n1, c1, rfl, hi⟩, hM2⟩
  have hM3 := HM.out.upR (i := 0) rfl hM2
  (try simp only [List.set_cons_zero] at hM3)
  replace HM := Lib.hid hM3
  have en : n1 = 0 := by
    obtain ⟨_, _, e, _⟩ := hi
    injection e
  subst en
  clear hM2 hM3 hi
  go_wp2_with (first
    | (refine wpm_st57 HM rfl (.tmp 2) (.tmp 45) rfl 1 rfl ((f.reg 1 (c0 + 1)).at_ 2) rfl rfl ?_; intro W hM; (try simp only [List.cons_append, List.nil_append, List.set_cons_succ, List.set_cons_zero, Nat.reduceAdd] at hM); replace HM := hM; clear hM)
    | (refine wpm_st59 HM rfl (.tmp 3) (.tmp 46) rfl 2 rfl rfl 0 (5 + c0) 0 0 0 ao1 0 c1 rfl rfl ?_; intro W hM; (try simp only [List.cons_append, List.nil_append, List.set_cons_succ, List.set_cons_zero, Nat.reduceAdd] at hM); replace HM := hM; clear hM))
  (try simp only [Exit.inBlock, Exit.then])
  refine bodyPost_ret (res_cc rfl _ _ _ _ _ _ rfl rfl ((HM.out.hb 1 _ _ _ rfl).load57) ((HM.out.hb 2 _ _ _ rfl).load59 rfl)) rfl ?_
  exact ⟨⟨_, _, _, rfl, ints0 _ _ _ _⟩, mem_one HM.out⟩
set_option maxHeartbeats 2000000 in
set_option maxRecDepth 100000 in
theorem adv13_1 (b : Nat) (f : Fr) (gv : Value) (x : Int) (hx : 0 ≤ x ∧ x ≤ 1000000) (w : World) (hb : HB w b (pgG f gv x) 127) : Calls Try.prog 67 #[.pointer (some ⟨b, 0, none⟩)] w fun e w' => MethP b gv x w w' e ((((f.reg 0 x).reg 1 0).reg 1 1).at_ 2) 0 5 0 0 [] := by
  have HM := Lib.hid (Mem.startR hb)
  obtain ⟨hx1, hx2⟩ := hx
  clear hb
  go_enter Try.func67, Try.ntmps67
  go_wp2_with (first
    | (refine wpm_al57 HM rfl rfl ?_; intro W2 hM; (try simp only [List.cons_append, List.nil_append, List.set_cons_succ, List.set_cons_zero, Nat.reduceAdd] at hM); replace HM := hM; clear hM)
    | (refine wpm_al59 HM rfl rfl ?_; intro W3 hM; (try simp only [List.cons_append, List.nil_append, List.set_cons_succ, List.set_cons_zero, Nat.reduceAdd] at hM); replace HM := hM; clear hM))
  replace HM := Lib.hid HM.out.drew
  have HF : Hid (∀ p ∈ ([(⟨b, 99, none⟩, .int .i64 x)] : List (Addr × Value)), World.cell? _ p.1 = some p.2) := Lib.hid (allc ((HM.out.hb 0 _ _ _ rfl).cell (k := 99) (pgG_x _ _ _)) (alln _))
  haveI : Inhabited (CW [(⟨b, 99, none⟩, .int .i64 x)]) := ⟨⟨_, HF.out⟩⟩
  have f0 : ∀ q : CW [(⟨b, 99, none⟩, .int .i64 x)], q.1.cell? ⟨b, 99, none⟩ = some (.int .i64 x) := fun q => q.2 (⟨b, 99, none⟩, .int .i64 x) (by simp)
  (try simp only [Act.put, List.setIfInBounds_toArray, List.set_cons_succ, List.set_cons_zero])
  refine wp_region_noPanic ?_
  refine wp_region_plw (.step [true, true, true, true, true, true, true, true, true, true, false, true, true, true] (.cons 10 (.step [false, false, false, false, false, false, false, false, false, false, false, false, false, false, true] (.cons 15 (.last []) .nil)) .nil)) (fun y => ∃ q : CW [(⟨b, 99, none⟩, .int .i64 x)], y = q.1) (by kernel_rfl) (by kernel_rfl) (by kernel_rfl) (fun _ _ _ _ _ _ _ h => h) ⟨⟨_, HF.out⟩, rfl⟩ ?_
  simp only [wpPw, wpBw, selF, and_true]
  generalize W3.drew = V12 at *
  repeat (go_big_quiet_step (fail))
  refine wpQuiet_nil ?_
  refine wpOp_step rfl (fun K hK => ?_)
  rw [if_pos (by rfl)]
  refine wpO_cell 3 (.tmp 13) (.tmp 9) rfl rfl Try.sizeOf3 b 2 x rfl rfl _ 127 (HM.out.hb 0 _ _ _ rfl) (by rw [pgG_size]; omega) ?_
  intro W4 hb ho hF hs
  replace HM := Lib.hid (HM.out.upd (i := 0) rfl hb ho hs (C' := pgG (f.reg 0 x) gv x) (by rw [← pgG_setr f gv x 0 (by omega)]; exact hF))
  (try simp only [List.set_cons_zero] at HM)
  clear hb ho hF hs
  refine hK _ _ ⟨(fun y => ∃ q : CW [(⟨b, 99, none⟩, .int .i64 x)], y = q.1), ⟨⟨_, (allc ((HM.out.hb 0 _ _ _ rfl).cell (k := 99) (pgG_x _ _ _)) (alln _))⟩, rfl⟩, fun _ h => h, ?_⟩
  clear hK K
  (try simp only [Act.put, List.setIfInBounds_toArray, List.set_cons_succ, List.set_cons_zero])
  repeat (go_big_quiet_step (fail))
  refine wpQuiet_nil ?_
  refine wpOp_step rfl (fun K hK => ?_)
  rw [if_pos (by rfl)]
  refine wpO_cell 3 (.tmp 17) (.const (.int .i64 0)) rfl rfl Try.sizeOf3 b 3 0 rfl rfl _ 127 (HM.out.hb 0 _ _ _ rfl) (by rw [pgG_size]; omega) ?_
  intro W5 hb ho hF hs
  replace HM := Lib.hid (HM.out.upd (i := 0) rfl hb ho hs (C' := pgG ((f.reg 0 x).reg 1 0) gv x) (by rw [← pgG_setr (f.reg 0 x) gv x 1 (by omega)]; exact hF))
  (try simp only [List.set_cons_zero] at HM)
  clear hb ho hF hs
  refine hK _ _ ⟨(fun y => ∃ q : CW [(⟨b, 99, none⟩, .int .i64 x)], y = q.1), ⟨⟨_, (allc ((HM.out.hb 0 _ _ _ rfl).cell (k := 99) (pgG_x _ _ _)) (alln _))⟩, rfl⟩, fun _ h => h, ?_⟩
  clear hK K
  (try simp only [Act.put, List.setIfInBounds_toArray, List.set_cons_succ, List.set_cons_zero])
  refine wpQuiet_nil ?_
  refine NoPanic.normal ?_
  clear f0 HF
  go_wp2_with fail
  refine (look13_c b ((f.reg 0 x).reg 1 0) gv x 0 rfl ⟨by omega, by omega⟩ _ (HM.out.hb 0 _ _ _ rfl)).mono ?_
  rintro e W7 ⟨⟨ao1, n1, c1, rfl, hi⟩, hM2⟩
  have hM3 := HM.out.upR (i := 0) rfl hM2
  (try simp only [List.set_cons_zero] at hM3)
  replace HM := Lib.hid hM3
  have en : n1 = 0 := by
    obtain ⟨_, _, e, _⟩ := hi
    injection e
  subst en
  clear hM2 hM3 hi
  go_wp2_with (first
    | (refine wpm_st57 HM rfl (.tmp 2) (.tmp 20) rfl 1 rfl ((((f.reg 0 x).reg 1 0).reg 1 1).at_ 2) rfl rfl ?_; intro W hM; (try simp only [List.cons_append, List.nil_append, List.set_cons_succ, List.set_cons_zero, Nat.reduceAdd] at hM); replace HM := hM; clear hM)
    | (refine wpm_st59 HM rfl (.tmp 3) (.tmp 21) rfl 2 rfl rfl 0 5 0 0 0 ao1 0 c1 rfl rfl ?_; intro W hM; (try simp only [List.cons_append, List.nil_append, List.set_cons_succ, List.set_cons_zero, Nat.reduceAdd] at hM); replace HM := hM; clear hM))
  (try simp only [Exit.inBlock, Exit.then])
  refine bodyPost_ret (res_cc rfl _ _ _ _ _ _ rfl rfl ((HM.out.hb 1 _ _ _ rfl).load57) ((HM.out.hb 2 _ _ _ rfl).load59 rfl)) rfl ?_
  exact ⟨⟨_, _, _, rfl, ints0 _ _ _ _⟩, mem_one HM.out⟩
set_option maxHeartbeats 2000000 in
set_option maxRecDepth 100000 in
theorem adv13_3 (b : Nat) (f : Fr) (gv : Value) (x : Int) (w : World) (hb : HB w b (pgG f gv x) 127) : Calls Try.prog 69 #[.pointer (some ⟨b, 0, none⟩)] w fun e w' => MethP b gv x w w' e f 7 0 0 0 [x] := by
  have HM := Lib.hid (Mem.startR hb)
  clear hb
  go_enter Try.func69, Try.ntmps69
  go_wp2_with (first
    | (refine wpm_al57 HM rfl rfl ?_; intro W2 hM; (try simp only [List.cons_append, List.nil_append, List.set_cons_succ, List.set_cons_zero, Nat.reduceAdd] at hM); replace HM := hM; clear hM)
    | (refine wpm_al59 HM rfl rfl ?_; intro W3 hM; (try simp only [List.cons_append, List.nil_append, List.set_cons_succ, List.set_cons_zero, Nat.reduceAdd] at hM); replace HM := hM; clear hM)
    | (refine wpm_ldc HM rfl 3 (.tmp 7) rfl lv3 0 99 rfl rfl (.int .i64 x) (pgG_x _ _ _) ?_)
    | (refine wpm_bsI1 HM rfl (.tmp 8) rfl x rfl ?_; intro W5 hM; (try simp only [List.cons_append, List.nil_append, List.set_cons_succ, List.set_cons_zero, Nat.reduceAdd] at hM); replace HM := hM; clear hM))
  refine (end13m b f gv x _ 1 1 _ (HM.out.hb 0 _ _ _ rfl)).mono ?_
  rintro e W6 ⟨rfl, hM2⟩
  have hM3 := HM.out.upR (i := 0) rfl hM2
  (try simp only [List.set_cons_zero] at hM3)
  replace HM := Lib.hid hM3
  clear hM2 hM3
  go_wp2_with (first
    | (refine wpm_st57 HM rfl (.tmp 2) (.tmp 11) rfl 1 rfl f rfl rfl ?_; intro W hM; (try simp only [List.cons_append, List.nil_append, List.set_cons_succ, List.set_cons_zero, Nat.reduceAdd] at hM); replace HM := hM; clear hM)
    | (refine wpm_st59 HM rfl (.tmp 3) (.tmp 12) rfl 2 rfl rfl 7 0 0 0 0 _ 1 1 rfl rfl ?_; intro W hM; (try simp only [List.cons_append, List.nil_append, List.set_cons_succ, List.set_cons_zero, Nat.reduceAdd] at hM); replace HM := hM; clear hM))
  (try simp only [Exit.inBlock, Exit.then])
  refine bodyPost_ret (res_cc rfl _ _ _ _ _ _ rfl rfl ((HM.out.hb 1 _ _ _ rfl).load57) ((HM.out.hb 2 _ _ _ rfl).load59 rfl)) rfl ?_
  exact ⟨⟨_, _, _, rfl, ints_oneM HM.out rfl (i := 3) rfl (by omega)⟩, mem_one HM.out⟩
set_option maxHeartbeats 2000000 in
set_option maxRecDepth 100000 in
theorem pin13_3e (b : Nat) (f : Fr) (gv : Value) (x : Int) (he : f.r 1 = x) (w : World) (hb : HB w b (pgG f gv x) 127) : Calls Try.prog 64 #[.pointer (some ⟨b, 0, none⟩)] w fun e w' => MethP b gv x w w' e f 7 0 0 0 [x] := by
  have HM := Lib.hid (Mem.startR hb)
  have HR1 := Lib.hid (by have h := pgG_r f gv x 1 (by omega); rw [he] at h; exact h : (pgG f gv x)[3]? = some (.int .i64 x))
  have ex : (x == x) = true := by simp
  clear he
  clear hb
  go_enter Try.func64, Try.ntmps64
  go_wp2_with (first
    | (refine wpm_al57 HM rfl rfl ?_; intro W2 hM; (try simp only [List.cons_append, List.nil_append, List.set_cons_succ, List.set_cons_zero, Nat.reduceAdd] at hM); replace HM := hM; clear hM)
    | (refine wpm_al59 HM rfl rfl ?_; intro W3 hM; (try simp only [List.cons_append, List.nil_append, List.set_cons_succ, List.set_cons_zero, Nat.reduceAdd] at hM); replace HM := hM; clear hM))
  have kx := (HM.out.hb 0 _ _ _ rfl).cell (k := 99) (pgG_x _ _ _)
  have kr := (HM.out.hb 0 _ _ _ rfl).cell (k := 3) HR1.out
  go_quiet (fail)
  replace HM := Lib.hid (HM.out.drewN nq)
  clear kx kr
  go_wp2_with (first
    | (refine wpm_ldc HM rfl 3 (.tmp 22) rfl lv3 0 99 rfl rfl (.int .i64 x) (pgG_x _ _ _) ?_)
    | (refine wpm_bsI1 HM rfl (.tmp 23) rfl x rfl ?_; intro W5 hM; (try simp only [List.cons_append, List.nil_append, List.set_cons_succ, List.set_cons_zero, Nat.reduceAdd] at hM); replace HM := hM; clear hM))
  refine (end13m b f gv x _ 1 1 _ (HM.out.hb 0 _ _ _ rfl)).mono ?_
  rintro e W6 ⟨rfl, hM2⟩
  have hM3 := HM.out.upR (i := 0) rfl hM2
  (try simp only [List.set_cons_zero] at hM3)
  replace HM := Lib.hid hM3
  clear hM2 hM3
  go_wp2_with (first
    | (refine wpm_st57 HM rfl (.tmp 2) (.tmp 26) rfl 1 rfl f rfl rfl ?_; intro W hM; (try simp only [List.cons_append, List.nil_append, List.set_cons_succ, List.set_cons_zero, Nat.reduceAdd] at hM); replace HM := hM; clear hM)
    | (refine wpm_st59 HM rfl (.tmp 3) (.tmp 27) rfl 2 rfl rfl 7 0 0 0 0 _ 1 1 rfl rfl ?_; intro W hM; (try simp only [List.cons_append, List.nil_append, List.set_cons_succ, List.set_cons_zero, Nat.reduceAdd] at hM); replace HM := hM; clear hM))
  (try simp only [Exit.inBlock, Exit.then])
  refine bodyPost_ret (res_cc rfl _ _ _ _ _ _ rfl rfl ((HM.out.hb 1 _ _ _ rfl).load57) ((HM.out.hb 2 _ _ _ rfl).load59 rfl)) rfl ?_
  exact ⟨⟨_, _, _, rfl, ints_oneM HM.out rfl (i := 3) rfl (by omega)⟩, mem_one HM.out⟩
set_option maxHeartbeats 2000000 in
set_option maxRecDepth 100000 in
theorem pin13_3g (b : Nat) (f : Fr) (gv : Value) (x : Int) (c0 r1 : Int) (hc0 : f.r 0 = c0) (hr1 : f.r 1 = r1) (hne : x ≠ r1) (h4 : 0 ≤ c0 ∧ c0 < 4) (hx : 0 ≤ x ∧ x ≤ 1000000) (w : World) (hb : HB w b (pgG f gv x) 127) : Calls Try.prog 64 #[.pointer (some ⟨b, 0, none⟩)] w fun e w' => MethP b gv x w w' e ((f.reg 1 x).at_ 2) 1 (5 + c0) 0 (x + 1) [] := by
  have HM := Lib.hid (Mem.startR hb)
  have HR1 := Lib.hid (by rw [← hr1]; exact pgG_r f gv x 1 (by omega) : (pgG f gv x)[3]? = some (.int .i64 r1))
  have ex : (x == r1) = false := by rw [beq_eq_false_iff_ne]; exact hne
  have HC0 := Lib.hid hc0
  have H4 := Lib.hid h4
  have HXX := Lib.hid hx
  clear hc0 hr1 hne h4 hx
  clear hb
  go_enter Try.func64, Try.ntmps64
  go_wp2_with (first
    | (refine wpm_al57 HM rfl rfl ?_; intro W2 hM; (try simp only [List.cons_append, List.nil_append, List.set_cons_succ, List.set_cons_zero, Nat.reduceAdd] at hM); replace HM := hM; clear hM)
    | (refine wpm_al59 HM rfl rfl ?_; intro W3 hM; (try simp only [List.cons_append, List.nil_append, List.set_cons_succ, List.set_cons_zero, Nat.reduceAdd] at hM); replace HM := hM; clear hM))
  have kx := (HM.out.hb 0 _ _ _ rfl).cell (k := 99) (pgG_x _ _ _)
  have kr := (HM.out.hb 0 _ _ _ rfl).cell (k := 3) HR1.out
  go_quiet (fail)
  replace HM := Lib.hid (HM.out.drewN nq)
  clear kx kr
  go_wp2_with fail
  refine (pin13_1 b f gv x c0 HC0.out H4.out HXX.out _ (HM.out.hb 0 _ _ _ rfl)).mono ?_
  rintro e W7 ⟨⟨ao1, n1, c1, rfl, hi⟩, hM2⟩
  have hM3 := HM.out.upR (i := 0) rfl hM2
  (try simp only [List.set_cons_zero] at hM3)
  replace HM := Lib.hid hM3
  have en : n1 = 0 := by
    obtain ⟨_, _, e, _⟩ := hi
    injection e
  subst en
  clear hM2 hM3 hi
  go_wp2_with (first
    | (refine wpm_st57 HM rfl (.tmp 2) (.tmp 17) rfl 1 rfl ((f.reg 1 x).at_ 2) rfl rfl ?_; intro W hM; (try simp only [List.cons_append, List.nil_append, List.set_cons_succ, List.set_cons_zero, Nat.reduceAdd] at hM); replace HM := hM; clear hM)
    | (refine wpm_st59 HM rfl (.tmp 3) (.tmp 18) rfl 2 rfl rfl 1 (5 + c0) 0 (x + 1) 0 ao1 0 c1 rfl rfl ?_; intro W hM; (try simp only [List.cons_append, List.nil_append, List.set_cons_succ, List.set_cons_zero, Nat.reduceAdd] at hM); replace HM := hM; clear hM))
  (try simp only [Exit.inBlock, Exit.then])
  refine bodyPost_ret (res_cc rfl _ _ _ _ _ _ rfl rfl ((HM.out.hb 1 _ _ _ rfl).load57) ((HM.out.hb 2 _ _ _ rfl).load59 rfl)) rfl ?_
  exact ⟨⟨_, _, _, rfl, ints0 _ _ _ _⟩, mem_one HM.out⟩
end Go.Proofs.Ytgpdknacnmapiaa
