/-
  Parts of a proof, put together: Fj, EpochGoes.
-/
import Derived.Test.YtgpdknacnmapiaaZg01
import Derived.Test.YtgpdknacnmapiaaZg02
import Derived.Test.YtgpdknacnmapiaaZg03
import Derived.Test.YtgpdknacnmapiaaZg04
import Derived.Test.YtgpdknacnmapiaaZg05
import Derived.Test.YtgpdknacnmapiaaZg06
import Derived.Test.YtgpdknacnmapiaaZg07
import Derived.Test.YtgpdknacnmapiaaZg08
import Derived.Test.YtgpdknacnmapiaaZg09
import Derived.Test.YtgpdknacnmapiaaZg10
import Derived.Test.YtgpdknacnmapiaaZg11
import Derived.Test.YtgpdknacnmapiaaZg12
import Derived.Test.YtgpdknacnmapiaaZg13
import Derived.Test.YtgpdknacnmapiaaZg14
import Derived.Test.YtgpdknacnmapiaaZg15
import Derived.Test.YtgpdknacnmapiaaZg16
import Derived.Test.YtgpdknacnmapiaaZg17
import Derived.Test.YtgpdknacnmapiaaZg18
import Derived.Test.YtgpdknacnmapiaaZg19
import Derived.Test.YtgpdknacnmapiaaZg20
import Derived.Test.YtgpdknacnmapiaaZg21
import Derived.Test.YtgpdknacnmapiaaZg22
import Derived.Test.YtgpdknacnmapiaaZg23
import Derived.Test.YtgpdknacnmapiaaZg24
import Derived.Test.YtgpdknacnmapiaaZg25
import Derived.Test.YtgpdknacnmapiaaZg26
import Derived.Test.YtgpdknacnmapiaaZg27
import Derived.Test.YtgpdknacnmapiaaZg28
import Derived.Test.YtgpdknacnmapiaaZg29
import Derived.Deep.QuietTactic
namespace Go.Proofs.Ytgpdknacnmapiaa
set_option linter.unusedVariables false
set_option linter.unusedSimpArgs false
open Go.RowKit
def Gw : Fr := ⟨52, 0, fun k => if k = 0 then 1 else 0⟩
def D55 : Array Value := (Array.range 96).map fun i => .int .i64 (Gw.r i)
def Gw2 : Fr := ((Gw.at_ 1).reg 1 7).at_ 2
set_option maxRecDepth 100000 in
theorem bm55 (w : World) : (Instr.build 55 #[(0, .int .i64 1)]).run Try.prog w = .ok (.agg D55) w := by kernel_rfl
set_option maxRecDepth 100000 in
theorem bm57 (w : World) : (Instr.build 57 #[(0, .int .i8 52), (2, .agg D55)]).run Try.prog w = .ok (.agg Gw.cells) w := by kernel_rfl
theorem wp_c55 {ops : Array Oper} {rest : List Oper} {o : Oper} {a : Act} {w : World} {Q : Exit → Act → World → Prop} (hg : o.guard = none) (ho : o.op = .build 55 #[(0, .const (.int .i64 1))]) (C : Array Value) (hC : ∀ w, (Instr.build 55 #[(0, .int .i64 1)]).run Try.prog w = .ok (.agg C) w) (h : wpList Try.prog ops Q rest (a.put o.dst (.agg C)) w) : wpList Try.prog ops Q (o :: rest) a w := by
  refine wpList_plain hg fun K hK => ?_
  unfold Oper.wp execOp
  simp only [ho]
  simp [hC, Sem.run_bind, Act.eval]
  exact hK _ _ h
theorem wp_c57 {ops : Array Oper} {rest : List Oper} {o : Oper} {a : Act} {w : World} {Q : Exit → Act → World → Prop} (hg : o.guard = none) (x : Operand) (ho : o.op = .build 57 #[(0, .const (.int .i8 52)), (2, x)]) (C : Array Value) (hx : a.eval x = .agg C) (F : Fr) (hC : ∀ w, (Instr.build 57 #[(0, .int .i8 52), (2, .agg C)]).run Try.prog w = .ok (.agg F.cells) w) (h : wpList Try.prog ops Q rest (a.put o.dst (.agg F.cells)) w) : wpList Try.prog ops Q (o :: rest) a w := by
  refine wpList_plain hg fun K hK => ?_
  unfold Oper.wp execOp
  simp only [ho]
  have e : a.eval (.const (.int .i8 52)) = .int .i8 52 := rfl
  simp [hx, e, hC, Sem.run_bind]
  exact hK _ _ h
theorem safe33 (e a : Int) (y : Bool) (w : World) (he : 0 ≤ e ∧ e ≤ 1000) (hy : decide (a < e - 1) = y) : Calls Try.prog 33 #[.int .i64 e, .int .i64 a] w fun r w' => r = .returned (.bool y) ∧ w' = w := by
  obtain ⟨h1, h2⟩ := he
  go_enter Try.func33, Try.ntmps33
  go_wp2_with fail
  go_ret
  exact ⟨rfl, rfl⟩
theorem gotM {X : Nat → Prop} {w W : World} {L : List (Nat × Array Value × TypeId)} (h : Mem X w W L) {i N : Nat} {x : Int} (hi : L[i]? = some (N, #[.int .i64 x], 3)) : GotV W (.slice (some ⟨N, 0, none⟩) 1 1) x := .inr ⟨_, _, rfl, (h.hb i _ _ _ hi).cell (k := 0) rfl⟩
set_option maxHeartbeats 2000000 in
set_option maxRecDepth 100000 in
theorem wakes_main13 (C : Array Value) (F F1 F2 : Fr) (hC : ∀ w, (Instr.build 55 #[(0, .int .i64 1)]).run Try.prog w = .ok (.agg C) w) (hW : ∀ w, (Instr.build 57 #[(0, .int .i8 52), (2, .agg C)]).run Try.prog w = .ok (.agg F.cells) w) (hp : F2.pg = 52)
    (hA : C32 F 0 F1 0 2 0 0 []) (hB : C32 F1 7 F2 1 6 0 8 [])
    (w : World) : Calls Try.prog 10 #[] w fun e w' => e = .returned (.bool true) ∧ Below w.heap.size w w' := by
  have HA := Lib.hid hA
  have HB := Lib.hid hB
  have H55 := Lib.hid hC
  have H57 := Lib.hid hW
  have HPG := Lib.hid (by rw [← hp]; exact F2.c0 : F2.cells[0]? = some (.int .i8 52))
  have HM := Lib.hid (Mem.start w)
  clear hA hB hC hW hp
  go_enter Try.func10, Try.ntmps10
  go_wp2_with (first
    | (refine wp_c55 rfl rfl C H55.out ?_)
    | (refine wp_c57 rfl (.tmp 6) rfl C rfl F H57.out ?_))
  refine (HA.out _ _ (.inl ⟨rfl, rfl⟩)).mono ?_
  rintro e W1 ⟨⟨ao1, n1, c1, rfl, hi⟩, hb⟩
  replace HM := Lib.hid (HM.out.below hb)
  clear hb hi
  go_wp2_with (first
    | (refine wpm_al57 HM rfl rfl ?_; intro A1 hM; (try simp only [List.cons_append, List.nil_append, List.set_cons_succ, List.set_cons_zero, Nat.reduceAdd] at hM); replace HM := hM; clear hM)
    | (refine wpm_al59 HM rfl rfl ?_; intro A2 hM; (try simp only [List.cons_append, List.nil_append, List.set_cons_succ, List.set_cons_zero, Nat.reduceAdd] at hM); replace HM := hM; clear hM)
    | (refine wpm_st57 HM rfl (.tmp 1) (.tmp 9) rfl 0 rfl F1 rfl rfl ?_; intro W hM; (try simp only [List.cons_append, List.nil_append, List.set_cons_succ, List.set_cons_zero, Nat.reduceAdd] at hM); replace HM := hM; clear hM)
    | (refine wpm_st59 HM rfl (.tmp 2) (.tmp 10) rfl 1 rfl rfl 0 2 0 0 0 ao1 n1 c1 rfl rfl ?_; intro W hM; (try simp only [List.cons_append, List.nil_append, List.set_cons_succ, List.set_cons_zero, Nat.reduceAdd] at hM); replace HM := hM; clear hM)
    | (refine wpm_ld57 HM rfl (.tmp 1) rfl 0 rfl rfl ?_)
    | (refine wpm_bsI1 HM rfl (.const (.int .i64 7)) rfl 7 rfl ?_; intro W5 hM; (try simp only [List.cons_append, List.nil_append, List.set_cons_succ, List.set_cons_zero, Nat.reduceAdd] at hM); replace HM := hM; clear hM))
  refine (HB.out _ _ (gotM HM.out (i := 2) rfl)).mono ?_
  rintro e W6 ⟨⟨ao2, n2, c2, rfl, hi⟩, hb⟩
  replace HM := Lib.hid (HM.out.below hb)
  clear hb hi
  go_wp2_with (first
    | (refine wpm_al57 HM rfl rfl ?_; intro A3 hM; (try simp only [List.cons_append, List.nil_append, List.set_cons_succ, List.set_cons_zero, Nat.reduceAdd] at hM); replace HM := hM; clear hM)
    | (refine wpm_al59 HM rfl rfl ?_; intro A4 hM; (try simp only [List.cons_append, List.nil_append, List.set_cons_succ, List.set_cons_zero, Nat.reduceAdd] at hM); replace HM := hM; clear hM)
    | (refine wpm_st57 HM rfl (.tmp 3) (.tmp 15) rfl 3 rfl F2 rfl rfl ?_; intro W hM; (try simp only [List.cons_append, List.nil_append, List.set_cons_succ, List.set_cons_zero, Nat.reduceAdd] at hM); replace HM := hM; clear hM)
    | (refine wpm_st59 HM rfl (.tmp 4) (.tmp 16) rfl 4 rfl rfl 1 6 0 8 0 ao2 n2 c2 rfl rfl ?_; intro W9 hM; (try simp only [List.cons_append, List.nil_append, List.set_cons_succ, List.set_cons_zero, Nat.reduceAdd] at hM); replace HM := hM; clear hM))
  replace HM := Lib.hid HM.out.drew
  have HF : Hid (∀ p ∈ ([(⟨A1.heap.size, 0, none⟩, .int .i8 0), (⟨A1.heap.size, 1, none⟩, .int .i64 2), (⟨A3.heap.size, 0, none⟩, .int .i8 1), (⟨A3.heap.size, 1, none⟩, .int .i64 6), (⟨A3.heap.size, 3, none⟩, .int .i64 8), (⟨W6.heap.size, 0, none⟩, .int .i8 52)] : List (Addr × Value)), World.cell? _ p.1 = some p.2) := Lib.hid (allc ((HM.out.hb 1 _ _ _ rfl).cell (k := 0) rfl) (allc ((HM.out.hb 1 _ _ _ rfl).cell (k := 1) rfl) (allc ((HM.out.hb 4 _ _ _ rfl).cell (k := 0) rfl) (allc ((HM.out.hb 4 _ _ _ rfl).cell (k := 1) rfl) (allc ((HM.out.hb 4 _ _ _ rfl).cell (k := 3) rfl) (allc ((HM.out.hb 3 _ _ _ rfl).cell (k := 0) HPG.out) (alln _)))))))
  haveI : Inhabited (CW [(⟨A1.heap.size, 0, none⟩, .int .i8 0), (⟨A1.heap.size, 1, none⟩, .int .i64 2), (⟨A3.heap.size, 0, none⟩, .int .i8 1), (⟨A3.heap.size, 1, none⟩, .int .i64 6), (⟨A3.heap.size, 3, none⟩, .int .i64 8), (⟨W6.heap.size, 0, none⟩, .int .i8 52)]) := ⟨⟨_, HF.out⟩⟩
  have f0 : ∀ q : CW [(⟨A1.heap.size, 0, none⟩, .int .i8 0), (⟨A1.heap.size, 1, none⟩, .int .i64 2), (⟨A3.heap.size, 0, none⟩, .int .i8 1), (⟨A3.heap.size, 1, none⟩, .int .i64 6), (⟨A3.heap.size, 3, none⟩, .int .i64 8), (⟨W6.heap.size, 0, none⟩, .int .i8 52)], q.1.cell? ⟨A1.heap.size, 0, none⟩ = some (.int .i8 0) := fun q => q.2 (⟨A1.heap.size, 0, none⟩, .int .i8 0) (by simp)
  have f1 : ∀ q : CW [(⟨A1.heap.size, 0, none⟩, .int .i8 0), (⟨A1.heap.size, 1, none⟩, .int .i64 2), (⟨A3.heap.size, 0, none⟩, .int .i8 1), (⟨A3.heap.size, 1, none⟩, .int .i64 6), (⟨A3.heap.size, 3, none⟩, .int .i64 8), (⟨W6.heap.size, 0, none⟩, .int .i8 52)], q.1.cell? ⟨A1.heap.size, 1, none⟩ = some (.int .i64 2) := fun q => q.2 (⟨A1.heap.size, 1, none⟩, .int .i64 2) (by simp)
  have f2 : ∀ q : CW [(⟨A1.heap.size, 0, none⟩, .int .i8 0), (⟨A1.heap.size, 1, none⟩, .int .i64 2), (⟨A3.heap.size, 0, none⟩, .int .i8 1), (⟨A3.heap.size, 1, none⟩, .int .i64 6), (⟨A3.heap.size, 3, none⟩, .int .i64 8), (⟨W6.heap.size, 0, none⟩, .int .i8 52)], q.1.cell? ⟨A3.heap.size, 0, none⟩ = some (.int .i8 1) := fun q => q.2 (⟨A3.heap.size, 0, none⟩, .int .i8 1) (by simp)
  have f3 : ∀ q : CW [(⟨A1.heap.size, 0, none⟩, .int .i8 0), (⟨A1.heap.size, 1, none⟩, .int .i64 2), (⟨A3.heap.size, 0, none⟩, .int .i8 1), (⟨A3.heap.size, 1, none⟩, .int .i64 6), (⟨A3.heap.size, 3, none⟩, .int .i64 8), (⟨W6.heap.size, 0, none⟩, .int .i8 52)], q.1.cell? ⟨A3.heap.size, 1, none⟩ = some (.int .i64 6) := fun q => q.2 (⟨A3.heap.size, 1, none⟩, .int .i64 6) (by simp)
  have f4 : ∀ q : CW [(⟨A1.heap.size, 0, none⟩, .int .i8 0), (⟨A1.heap.size, 1, none⟩, .int .i64 2), (⟨A3.heap.size, 0, none⟩, .int .i8 1), (⟨A3.heap.size, 1, none⟩, .int .i64 6), (⟨A3.heap.size, 3, none⟩, .int .i64 8), (⟨W6.heap.size, 0, none⟩, .int .i8 52)], q.1.cell? ⟨A3.heap.size, 3, none⟩ = some (.int .i64 8) := fun q => q.2 (⟨A3.heap.size, 3, none⟩, .int .i64 8) (by simp)
  have f5 : ∀ q : CW [(⟨A1.heap.size, 0, none⟩, .int .i8 0), (⟨A1.heap.size, 1, none⟩, .int .i64 2), (⟨A3.heap.size, 0, none⟩, .int .i8 1), (⟨A3.heap.size, 1, none⟩, .int .i64 6), (⟨A3.heap.size, 3, none⟩, .int .i64 8), (⟨W6.heap.size, 0, none⟩, .int .i8 52)], q.1.cell? ⟨W6.heap.size, 0, none⟩ = some (.int .i8 52) := fun q => q.2 (⟨W6.heap.size, 0, none⟩, .int .i8 52) (by simp)
  (try simp only [Act.put, List.setIfInBounds_toArray, List.set_cons_succ, List.set_cons_zero])
  refine wp_region_noPanic ?_
  refine wp_region_plw (.step [true, true, true, true, true, true, true, true, true, true, true, true, true, true, true, true] (.cons 16 (.step [false, false, false, false, false, false, false, false, false, false, false, false, false, false, false, false, false, true, true, true, true, true, true, true, true, true, true, true, true, true] (.cons 30 (.step [false, false, false, false, false, false, false, false, false, false, false, false, false, false, false, false, false, false, false, false, false, false, false, false, false, false, false, false, false, false, false, true, true] (.cons 33 (.last [false, false, false, false, false, false, false, false, false, false, false, false, false, false, false, false, false, false, false, false, false, false, false, false, false, false, false, false, false, false, false, false, false, false, true, true, true]) .nil)) .nil)) .nil)) (fun y => ∃ q : CW [(⟨A1.heap.size, 0, none⟩, .int .i8 0), (⟨A1.heap.size, 1, none⟩, .int .i64 2), (⟨A3.heap.size, 0, none⟩, .int .i8 1), (⟨A3.heap.size, 1, none⟩, .int .i64 6), (⟨A3.heap.size, 3, none⟩, .int .i64 8), (⟨W6.heap.size, 0, none⟩, .int .i8 52)], y = q.1) (by kernel_rfl) (by kernel_rfl) (by kernel_rfl) (fun _ _ _ _ _ _ _ h => h) ⟨⟨_, HF.out⟩, rfl⟩ ?_
  simp only [wpPw, wpBw, selF, and_true]
  generalize W9.drew = V1 at *
  repeat (go_big_quiet_step (fail))
  refine wpQuiet_nil ?_
  refine wpOp_step rfl (fun K hK => ?_)
  go_simp
  refine (pin13d 1 6 _ (by omega) rfl).mono ?_
  rintro e V2 ⟨rfl, rfl⟩
  refine hK _ _ ⟨(fun y => ∃ q : CW [(⟨A1.heap.size, 0, none⟩, .int .i8 0), (⟨A1.heap.size, 1, none⟩, .int .i64 2), (⟨A3.heap.size, 0, none⟩, .int .i8 1), (⟨A3.heap.size, 1, none⟩, .int .i64 6), (⟨A3.heap.size, 3, none⟩, .int .i64 8), (⟨W6.heap.size, 0, none⟩, .int .i8 52)], y = q.1), ⟨⟨_, (allc ((HM.out.hb 1 _ _ _ rfl).cell (k := 0) rfl) (allc ((HM.out.hb 1 _ _ _ rfl).cell (k := 1) rfl) (allc ((HM.out.hb 4 _ _ _ rfl).cell (k := 0) rfl) (allc ((HM.out.hb 4 _ _ _ rfl).cell (k := 1) rfl) (allc ((HM.out.hb 4 _ _ _ rfl).cell (k := 3) rfl) (allc ((HM.out.hb 3 _ _ _ rfl).cell (k := 0) HPG.out) (alln _)))))))⟩, rfl⟩, fun _ h => h, ?_⟩
  clear hK K
  (try simp only [Act.put, List.setIfInBounds_toArray, List.set_cons_succ, List.set_cons_zero])
  repeat (go_big_quiet_step (fail))
  refine wpQuiet_nil ?_
  refine wpOp_step rfl (fun K hK => ?_)
  go_simp
  refine (safe33 5 3 true _ (by omega) (by decide)).mono ?_
  rintro e V3 ⟨rfl, rfl⟩
  refine hK _ _ ⟨(fun y => ∃ q : CW [(⟨A1.heap.size, 0, none⟩, .int .i8 0), (⟨A1.heap.size, 1, none⟩, .int .i64 2), (⟨A3.heap.size, 0, none⟩, .int .i8 1), (⟨A3.heap.size, 1, none⟩, .int .i64 6), (⟨A3.heap.size, 3, none⟩, .int .i64 8), (⟨W6.heap.size, 0, none⟩, .int .i8 52)], y = q.1), ⟨⟨_, (allc ((HM.out.hb 1 _ _ _ rfl).cell (k := 0) rfl) (allc ((HM.out.hb 1 _ _ _ rfl).cell (k := 1) rfl) (allc ((HM.out.hb 4 _ _ _ rfl).cell (k := 0) rfl) (allc ((HM.out.hb 4 _ _ _ rfl).cell (k := 1) rfl) (allc ((HM.out.hb 4 _ _ _ rfl).cell (k := 3) rfl) (allc ((HM.out.hb 3 _ _ _ rfl).cell (k := 0) HPG.out) (alln _)))))))⟩, rfl⟩, fun _ h => h, ?_⟩
  clear hK K
  (try simp only [Act.put, List.setIfInBounds_toArray, List.set_cons_succ, List.set_cons_zero])
  repeat (go_big_quiet_step (fail))
  refine wpQuiet_nil ?_
  refine wpOp_step rfl (fun K hK => ?_)
  go_simp
  refine (safe33 5 4 false _ (by omega) (by decide)).mono ?_
  rintro e V4 ⟨rfl, rfl⟩
  refine hK _ _ ⟨(fun y => ∃ q : CW [(⟨A1.heap.size, 0, none⟩, .int .i8 0), (⟨A1.heap.size, 1, none⟩, .int .i64 2), (⟨A3.heap.size, 0, none⟩, .int .i8 1), (⟨A3.heap.size, 1, none⟩, .int .i64 6), (⟨A3.heap.size, 3, none⟩, .int .i64 8), (⟨W6.heap.size, 0, none⟩, .int .i8 52)], y = q.1), ⟨⟨_, (allc ((HM.out.hb 1 _ _ _ rfl).cell (k := 0) rfl) (allc ((HM.out.hb 1 _ _ _ rfl).cell (k := 1) rfl) (allc ((HM.out.hb 4 _ _ _ rfl).cell (k := 0) rfl) (allc ((HM.out.hb 4 _ _ _ rfl).cell (k := 1) rfl) (allc ((HM.out.hb 4 _ _ _ rfl).cell (k := 3) rfl) (allc ((HM.out.hb 3 _ _ _ rfl).cell (k := 0) HPG.out) (alln _)))))))⟩, rfl⟩, fun _ h => h, ?_⟩
  clear hK K
  (try simp only [Act.put, List.setIfInBounds_toArray, List.set_cons_succ, List.set_cons_zero])
  repeat (go_big_quiet_step (fail))
  refine wpQuiet_nil ?_
  refine NoPanic.normal ?_
  go_wp2_with fail
  go_ret
  exact ⟨rfl, HM.out.bel⟩
theorem wakes13 (w : World) : Calls Try.prog 10 #[] w fun e w' => e = .returned (.bool true) ∧ Below w.heap.size w w' := by
  refine wakes_main13 D55 Gw (Gw.at_ 1) Gw2 bm55 bm57 rfl (pn13_0 Gw 0 rfl rfl) ?_ w
  exact pn13_1 (Gw.at_ 1) 7 rfl rfl 1 rfl (by omega) (by omega)
end Go.Proofs.Ytgpdknacnmapiaa
namespace Go.Proofs.Ytgpdknacnmapiaa
set_option linter.unusedVariables false
set_option linter.unusedSimpArgs false
open Go.RowKit
open Go
set_option maxHeartbeats 8000000 in
set_option maxRecDepth 100000 in
theorem lawEpochGoes_walk (a0 a1 : Int) (w : World) (w0 : (Lit.int .i64 a0).wf = true) (w1 : (Lit.int .i64 a1).wf = true) : Calls Try.prog 5 #[.int .i64 a0, .int .i64 a1] w fun e w' => e = .returned (.bool true) ∧ Below w.heap.size w w' := by
  obtain ⟨n, hn, en⟩ := norm_rem a0 60 ⟨by omega, by omega⟩
  obtain ⟨c, hc, ec⟩ := norm_rem a1 4 ⟨by omega, by omega⟩
  have hn6 : n < 60 := by omega
  have hc4 : c < 4 := by omega
  have HN6 := Lib.hid hn6
  have HC4 := Lib.hid hc4
  have HNW := Lib.hid (newRunG w)
  clear w0 w1 hn hc hc4
  go_enter Try.func5, Try.ntmps5
  go_wp2_with fail
  refine HNW.out.mono ?_
  rintro e W1 ⟨R, rfl, hR, hb, hg⟩
  have HR := Lib.hid hR
  have HB := Lib.hid hb
  have HG := Lib.hid hg
  clear hb hg hR HNW
  go_wp2_with fail
  go_loopw [7] (fun iv wr => ∃ j : Nat, j ≤ n ∧ iv = .int .i64 j ∧ Below w.heap.size w wr ∧ WG R wr j (fun _ => 0)) (fun iv _ => n - (intOf iv).toNat)
  case atStart => exact ⟨0, Nat.zero_le _, rfl, HB.out, HG.out⟩
  case round =>
    clear HB HG
    obtain ⟨j, hj, rfl, hb, hg⟩ := hrel
    have HB := Lib.hid hb
    have HG := Lib.hid hg
    clear hb hg
    by_cases hlt : j < n
    · have dl : decide ((j : Int) < (n : Int)) = true := by simp; omega
      go_wp2_with fail
      refine (wholeA c HC4.out R _ j _ HG.out ⟨by omega, by omega⟩ (fun i hi => .inl rfl)).mono ?_
      rintro e W2 ⟨rfl, hk, hg2⟩
      have HB2 := Lib.hid (HB.out.trans ((hk.bel (Nat.le_refl _) (Nat.le_of_lt HG.out.lt)).mono (Nat.le_trans HR.out (Nat.le_refl _))))
      have HG2 := Lib.hid hg2
      obtain ⟨cb, co, cc, k0, k2⟩ := hg2.cell
      clear hk hg2
      have en1 : (((j : Int) + 1) != ((j : Int) + 1)) = false := by simp
      go_wp2_with fail
      go_roundw
      case rel => exact ⟨j + 1, hlt, rfl, HB2.out, HG2.out⟩
      case measure => simp [intOf]; omega
    · have e : j = n := by omega
      subst e
      have dl : decide ((j : Int) < (j : Int)) = false := by simp
      go_wp2_with fail
      refine (wholeP c HC4.out R _ j _ HG.out ⟨by omega, by omega⟩).mono ?_
      rintro e W2 ⟨rfl, hk, hg2⟩
      have HB2 := Lib.hid (HB.out.trans ((hk.bel (Nat.le_refl _) (Nat.le_of_lt HG.out.lt)).mono (Nat.le_trans HR.out (Nat.le_refl _))))
      have HG2 := Lib.hid hg2
      clear hk hg2 HB HG
      go_wp2_with fail
      go_loopw [8] (fun iv wr => ∃ i : Nat, i ≤ 3 ∧ iv = .int .i64 i ∧ Below w.heap.size w wr ∧ WG R wr (if i = 0 then (j : Int) else (j : Int) + 1) (upd (fun _ => 0) c ((j : Int) + 1))) (fun iv _ => 3 - (intOf iv).toNat)
      case atStart => exact ⟨0, Nat.zero_le _, rfl, HB2.out, HG2.out⟩
      case round =>
        clear HB2 HG2
        obtain ⟨i, hi, rfl, hb, hg⟩ := hrel
        have HB := Lib.hid hb
        have HG := Lib.hid hg
        clear hb hg
        by_cases hi3 : i < 3
        · have dl3 : decide ((i : Int) < 3) = true := by simp; omega
          go_wp2_with fail
          have HCL : Hid (Calls Try.prog 17 #[.pointer (some ⟨R, 0, none⟩), .int .i64 c, .int .i8 54] wr fun e w' => e = .returned (.bool true) ∧ KeepR R wr w' ∧ WG R w' ((j : Int) + 1) (upd (fun _ => 0) c ((j : Int) + 1))) := Lib.hid (by
            by_cases h0 : i = 0
            · have hg := HG.out
              rw [if_pos h0] at hg
              refine wholeA c HC4.out R _ j _ hg ⟨by omega, by omega⟩ (fun k hk => ?_)
              unfold upd
              split
              · exact .inr rfl
              · exact .inl rfl
            · have hg := HG.out
              rw [if_neg h0] at hg
              refine wholeB c HC4.out R _ _ _ hg ⟨c, HC4.out, ?_⟩
              rw [upd_self]
              omega)
          refine HCL.out.mono ?_
          rintro e W3 ⟨rfl, hk, hg2⟩
          have HB2 := Lib.hid (HB.out.trans ((hk.bel (Nat.le_refl _) (Nat.le_of_lt HG.out.lt)).mono (Nat.le_trans HR.out (Nat.le_refl _))))
          have HG2 := Lib.hid hg2
          obtain ⟨cb, co, cc, k0, k2⟩ := hg2.cell
          clear hk hg2 HCL
          have en1 : (((j : Int) + 1) != ((j : Int) + 1)) = false := by simp
          go_wp2_with fail
          go_roundw
          case rel => exact ⟨i + 1, hi3, rfl, HB2.out, by rw [if_neg (by omega)]; exact HG2.out⟩
          case measure => simp [intOf]; omega
        · have e : i = 3 := by omega
          subst e
          have hg : WG R wr ((j : Int) + 1) (upd (fun _ => 0) c ((j : Int) + 1)) := HG.out
          have HG := Lib.hid hg
          clear hg
          go_wp2_with fail
          refine (wholeU c HC4.out R _ _ _ HG.out).mono ?_
          rintro e W3 ⟨rfl, hk, hg2⟩
          have HB2 := Lib.hid (HB.out.trans ((hk.bel (Nat.le_refl _) (Nat.le_of_lt HG.out.lt)).mono (Nat.le_trans HR.out (Nat.le_refl _))))
          have HG2 := Lib.hid hg2
          clear hk hg2
          go_wp2_with fail
          refine (wholeA c HC4.out R _ _ _ HG2.out ⟨by omega, by omega⟩ (fun k hk => .inl (by rw [upd_upd]; unfold upd; split <;> rfl))).mono ?_
          rintro e W4 ⟨rfl, hk, hg2⟩
          have HB3 := Lib.hid (HB2.out.trans ((hk.bel (Nat.le_refl _) (Nat.le_of_lt HG2.out.lt)).mono (Nat.le_trans HR.out (Nat.le_refl _))))
          obtain ⟨cb, co, cc, k0, k2⟩ := hg2.cell
          clear hk hg2
          have en1 : (((j : Int) + 1 + 1) == ((j : Int) + 2)) = true := by simp; omega
          go_wp2_with fail
          refine (wakes13 _).mono ?_
          rintro e Y ⟨rfl, hb⟩
          have HY := Lib.hid (HB3.out.trans (hb.mono HB3.out.size))
          clear hb
          go_wp2_with fail
          go_ret
          exact ⟨rfl, HY.out⟩
end Go.Proofs.Ytgpdknacnmapiaa
