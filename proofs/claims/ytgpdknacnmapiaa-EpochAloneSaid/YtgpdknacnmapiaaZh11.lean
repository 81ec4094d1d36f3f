/-
  Parts of a proof, put together: Bg13, Nr13.
-/
import Derived.Test.YtgpdknacnmapiaaZh01
import Derived.Test.YtgpdknacnmapiaaZh02
import Derived.Test.YtgpdknacnmapiaaZh03
import Derived.Test.YtgpdknacnmapiaaZh04
import Derived.Test.YtgpdknacnmapiaaZh05
import Derived.Test.YtgpdknacnmapiaaZh06
import Derived.Test.YtgpdknacnmapiaaZh07
import Derived.Test.YtgpdknacnmapiaaZh08
import Derived.Test.YtgpdknacnmapiaaZh09
namespace Go.Proofs.Ytgpdknacnmapiaa
set_option linter.unusedVariables false
set_option linter.unusedSimpArgs false
open Go.RowKit
set_option maxHeartbeats 4000000 in
set_option maxRecDepth 100000 in
theorem begin13 {P : Nat → Prop} (c : Nat) (hc : c < 4) (pg : Int) (hp : 0 ≤ pg) (v : Value) (l : List Int) (B R : Nat) (C : Array Value) (s : RS) (w : World) (hP : ∀ b, w.heap.size ≤ b → P b) (hI : Ints B w v l) (hl : l.length ≤ 96) (hR : HB w R C 41) (hA : RunA C s) (hb : s.b c = false) :
    Calls Try.prog 15 #[.pointer (some ⟨R, 0, none⟩), .int .i64 c, .int .i8 pg, v] w fun e w' => e = .returned (.tuple #[]) ∧ ∃ C' T, Mem (fun b => b = R) w w' [(R, C', 41)] ∧ RunA C' (((s.setM c T).setH c T).setB c true) ∧ Live P w' T c (frG pg l) 0 := by
  have HM := Lib.hid (Mem.startR hR)
  have HP := Lib.hid hP
  have HA := Lib.hid hA
  have HNW := Lib.hid (new_p (P := Nw P (OL [(R, C, 41)])) (c : Int) ⟨by omega, by omega⟩ pg hp v l B w (HM.out.nw hP) hI hl)
  have HBZ := Lib.hid (by have h := hA.b c hc; rw [hb] at h; exact h : C[35 + c]? = some (.bool false))
  obtain ⟨ao, cap, rfl, -, -⟩ := hI
  have c1 : decide ((c : Int) < 0) = false := by simp
  clear hP hp hl hR hA hb
  go_enter Try.func15, Try.ntmps15
  go_wp2_with fail
  refine HNW.out.mono ?_
  rintro e W1 ⟨⟨T, rfl, hL⟩, hb⟩
  have HMT := HM.out.below hb
  have HMT := Lib.hid HMT
  replace HM := Lib.hid HMT.out.re
  have HT := Lib.hid hL.cn
  obtain ⟨tb, to, tcap, gao, gn, gcap, rfl, -⟩ := hL
  clear hb
  go_wp2_with (first
    | (refine wpm_al38 HM rfl rfl ?_; intro W hM; (try simp only [List.cons_append, List.nil_append, List.set_cons_succ, List.set_cons_zero, Nat.reduceAdd] at hM); replace HM := hM; clear hM)
    | (refine wpm_st38 HM rfl (.tmp 8) (.tmp 15) rfl 1 rfl TaskC.zero.size _ rfl rfl ⟨_, _, _, _, _, _, _, _, rfl⟩ ?_; intro W2 hM; (try simp only [List.cons_append, List.nil_append, List.set_cons_succ, List.set_cons_zero, Nat.reduceAdd] at hM); replace HM := hM; clear hM; have kb := (HM.out.hb 0 _ _ _ rfl).cell (k := 35 + c) HBZ.out))
  clear kb
  replace HM := Lib.hid HM.out.drew
  have HF : Hid (∀ p ∈ ([(⟨W1.heap.size, 0, none⟩, .int .i64 (c : Int)), (⟨W1.heap.size, 1, none⟩, .slice (some ⟨tb, to, none⟩) 1 tcap), (⟨W1.heap.size, 2, none⟩, .slice gao gn gcap), (⟨W1.heap.size, 3, none⟩, .bool false)] : List (Addr × Value)), World.cell? _ p.1 = some p.2) := Lib.hid (allc ((HM.out.hb 1 _ _ _ rfl).cell (k := 0) rfl) (allc ((HM.out.hb 1 _ _ _ rfl).cell (k := 1) rfl) (allc ((HM.out.hb 1 _ _ _ rfl).cell (k := 2) rfl) (allc ((HM.out.hb 1 _ _ _ rfl).cell (k := 3) rfl) (alln _)))))
  haveI : Inhabited (CW [(⟨W1.heap.size, 0, none⟩, .int .i64 (c : Int)), (⟨W1.heap.size, 1, none⟩, .slice (some ⟨tb, to, none⟩) 1 tcap), (⟨W1.heap.size, 2, none⟩, .slice gao gn gcap), (⟨W1.heap.size, 3, none⟩, .bool false)]) := ⟨⟨_, HF.out⟩⟩
  have f0 : ∀ q : CW [(⟨W1.heap.size, 0, none⟩, .int .i64 (c : Int)), (⟨W1.heap.size, 1, none⟩, .slice (some ⟨tb, to, none⟩) 1 tcap), (⟨W1.heap.size, 2, none⟩, .slice gao gn gcap), (⟨W1.heap.size, 3, none⟩, .bool false)], q.1.cell? ⟨W1.heap.size, 0, none⟩ = some (.int .i64 (c : Int)) := fun q => q.2 (⟨W1.heap.size, 0, none⟩, .int .i64 (c : Int)) (by simp)
  have f1 : ∀ q : CW [(⟨W1.heap.size, 0, none⟩, .int .i64 (c : Int)), (⟨W1.heap.size, 1, none⟩, .slice (some ⟨tb, to, none⟩) 1 tcap), (⟨W1.heap.size, 2, none⟩, .slice gao gn gcap), (⟨W1.heap.size, 3, none⟩, .bool false)], q.1.cell? ⟨W1.heap.size, 1, none⟩ = some (.slice (some ⟨tb, to, none⟩) 1 tcap) := fun q => q.2 (⟨W1.heap.size, 1, none⟩, .slice (some ⟨tb, to, none⟩) 1 tcap) (by simp)
  have f2 : ∀ q : CW [(⟨W1.heap.size, 0, none⟩, .int .i64 (c : Int)), (⟨W1.heap.size, 1, none⟩, .slice (some ⟨tb, to, none⟩) 1 tcap), (⟨W1.heap.size, 2, none⟩, .slice gao gn gcap), (⟨W1.heap.size, 3, none⟩, .bool false)], q.1.cell? ⟨W1.heap.size, 2, none⟩ = some (.slice gao gn gcap) := fun q => q.2 (⟨W1.heap.size, 2, none⟩, .slice gao gn gcap) (by simp)
  have f3 : ∀ q : CW [(⟨W1.heap.size, 0, none⟩, .int .i64 (c : Int)), (⟨W1.heap.size, 1, none⟩, .slice (some ⟨tb, to, none⟩) 1 tcap), (⟨W1.heap.size, 2, none⟩, .slice gao gn gcap), (⟨W1.heap.size, 3, none⟩, .bool false)], q.1.cell? ⟨W1.heap.size, 3, none⟩ = some (.bool false) := fun q => q.2 (⟨W1.heap.size, 3, none⟩, .bool false) (by simp)
  (try simp only [Act.put, List.setIfInBounds_toArray, List.set_cons_succ, List.set_cons_zero])
  refine wp_region_noPanic ?_
  refine wp_region_plw (.step [true, true, true, true, true, true] (.cons 6 (.last []) .nil)) (fun y => ∃ q : CW [(⟨W1.heap.size, 0, none⟩, .int .i64 (c : Int)), (⟨W1.heap.size, 1, none⟩, .slice (some ⟨tb, to, none⟩) 1 tcap), (⟨W1.heap.size, 2, none⟩, .slice gao gn gcap), (⟨W1.heap.size, 3, none⟩, .bool false)], y = q.1) (by kernel_rfl) (by kernel_rfl) (by kernel_rfl) (fun _ _ _ _ _ _ _ h => h) ⟨⟨_, HF.out⟩, rfl⟩ ?_
  simp only [wpPw, wpBw, selF, and_true]
  generalize W2.drew = V1 at *
  repeat (go_big_quiet_step (fail))
  refine wpQuiet_nil ?_
  refine wpOp_step rfl (fun K hK => ?_)
  rw [if_pos (by rfl)]
  refine wpOm_stM HM HA (.tmp 32) (.tmp 29) rfl rfl 0 rfl c hc _ rfl rfl ⟨_, _, _, _, _, _, _, _, rfl⟩ ?_
  clear HA
  intro V2 V2c HA hM
  (try simp only [List.cons_append, List.nil_append, List.set_cons_succ, List.set_cons_zero, Nat.reduceAdd] at hM)
  replace HM := hM
  clear hM
  refine hK _ _ ⟨(fun y => ∃ q : CW [(⟨W1.heap.size, 0, none⟩, .int .i64 (c : Int)), (⟨W1.heap.size, 1, none⟩, .slice (some ⟨tb, to, none⟩) 1 tcap), (⟨W1.heap.size, 2, none⟩, .slice gao gn gcap), (⟨W1.heap.size, 3, none⟩, .bool false)], y = q.1), ⟨⟨_, (allc ((HM.out.hb 1 _ _ _ rfl).cell (k := 0) rfl) (allc ((HM.out.hb 1 _ _ _ rfl).cell (k := 1) rfl) (allc ((HM.out.hb 1 _ _ _ rfl).cell (k := 2) rfl) (allc ((HM.out.hb 1 _ _ _ rfl).cell (k := 3) rfl) (alln _)))))⟩, rfl⟩, fun _ h => h, ?_⟩
  clear hK K
  (try simp only [Act.put, List.setIfInBounds_toArray, List.set_cons_succ, List.set_cons_zero])
  refine wpQuiet_nil ?_
  refine NoPanic.normal ?_
  go_wp2_with fail
  clear f0 f1 f2 f3 HF
  replace HM := Lib.hid HM.out.drew
  have HF : Hid (∀ p ∈ ([(⟨W1.heap.size, 0, none⟩, .int .i64 (c : Int)), (⟨W1.heap.size, 1, none⟩, .slice (some ⟨tb, to, none⟩) 1 tcap), (⟨W1.heap.size, 2, none⟩, .slice gao gn gcap), (⟨W1.heap.size, 3, none⟩, .bool false)] : List (Addr × Value)), World.cell? _ p.1 = some p.2) := Lib.hid (allc ((HM.out.hb 1 _ _ _ rfl).cell (k := 0) rfl) (allc ((HM.out.hb 1 _ _ _ rfl).cell (k := 1) rfl) (allc ((HM.out.hb 1 _ _ _ rfl).cell (k := 2) rfl) (allc ((HM.out.hb 1 _ _ _ rfl).cell (k := 3) rfl) (alln _)))))
  haveI : Inhabited (CW [(⟨W1.heap.size, 0, none⟩, .int .i64 (c : Int)), (⟨W1.heap.size, 1, none⟩, .slice (some ⟨tb, to, none⟩) 1 tcap), (⟨W1.heap.size, 2, none⟩, .slice gao gn gcap), (⟨W1.heap.size, 3, none⟩, .bool false)]) := ⟨⟨_, HF.out⟩⟩
  have f0 : ∀ q : CW [(⟨W1.heap.size, 0, none⟩, .int .i64 (c : Int)), (⟨W1.heap.size, 1, none⟩, .slice (some ⟨tb, to, none⟩) 1 tcap), (⟨W1.heap.size, 2, none⟩, .slice gao gn gcap), (⟨W1.heap.size, 3, none⟩, .bool false)], q.1.cell? ⟨W1.heap.size, 0, none⟩ = some (.int .i64 (c : Int)) := fun q => q.2 (⟨W1.heap.size, 0, none⟩, .int .i64 (c : Int)) (by simp)
  have f1 : ∀ q : CW [(⟨W1.heap.size, 0, none⟩, .int .i64 (c : Int)), (⟨W1.heap.size, 1, none⟩, .slice (some ⟨tb, to, none⟩) 1 tcap), (⟨W1.heap.size, 2, none⟩, .slice gao gn gcap), (⟨W1.heap.size, 3, none⟩, .bool false)], q.1.cell? ⟨W1.heap.size, 1, none⟩ = some (.slice (some ⟨tb, to, none⟩) 1 tcap) := fun q => q.2 (⟨W1.heap.size, 1, none⟩, .slice (some ⟨tb, to, none⟩) 1 tcap) (by simp)
  have f2 : ∀ q : CW [(⟨W1.heap.size, 0, none⟩, .int .i64 (c : Int)), (⟨W1.heap.size, 1, none⟩, .slice (some ⟨tb, to, none⟩) 1 tcap), (⟨W1.heap.size, 2, none⟩, .slice gao gn gcap), (⟨W1.heap.size, 3, none⟩, .bool false)], q.1.cell? ⟨W1.heap.size, 2, none⟩ = some (.slice gao gn gcap) := fun q => q.2 (⟨W1.heap.size, 2, none⟩, .slice gao gn gcap) (by simp)
  have f3 : ∀ q : CW [(⟨W1.heap.size, 0, none⟩, .int .i64 (c : Int)), (⟨W1.heap.size, 1, none⟩, .slice (some ⟨tb, to, none⟩) 1 tcap), (⟨W1.heap.size, 2, none⟩, .slice gao gn gcap), (⟨W1.heap.size, 3, none⟩, .bool false)], q.1.cell? ⟨W1.heap.size, 3, none⟩ = some (.bool false) := fun q => q.2 (⟨W1.heap.size, 3, none⟩, .bool false) (by simp)
  (try simp only [Act.put, List.setIfInBounds_toArray, List.set_cons_succ, List.set_cons_zero])
  refine wp_region_noPanic ?_
  refine wp_region_plw (.step [true, true, true, true, true, true] (.cons 6 (.last []) .nil)) (fun y => ∃ q : CW [(⟨W1.heap.size, 0, none⟩, .int .i64 (c : Int)), (⟨W1.heap.size, 1, none⟩, .slice (some ⟨tb, to, none⟩) 1 tcap), (⟨W1.heap.size, 2, none⟩, .slice gao gn gcap), (⟨W1.heap.size, 3, none⟩, .bool false)], y = q.1) (by kernel_rfl) (by kernel_rfl) (by kernel_rfl) (fun _ _ _ _ _ _ _ h => h) ⟨⟨_, HF.out⟩, rfl⟩ ?_
  simp only [wpPw, wpBw, selF, and_true]
  generalize V2.drew = V3 at *
  repeat (go_big_quiet_step (fail))
  refine wpQuiet_nil ?_
  refine wpOp_step rfl (fun K hK => ?_)
  rw [if_pos (by rfl)]
  refine wpOm_stH HM HA (.tmp 38) (.tmp 35) rfl rfl 0 rfl c hc _ rfl rfl ⟨_, _, _, _, _, _, _, _, rfl⟩ ?_
  clear HA
  intro V4 V4c HA hM
  (try simp only [List.cons_append, List.nil_append, List.set_cons_succ, List.set_cons_zero, Nat.reduceAdd] at hM)
  replace HM := hM
  clear hM
  refine hK _ _ ⟨(fun y => ∃ q : CW [(⟨W1.heap.size, 0, none⟩, .int .i64 (c : Int)), (⟨W1.heap.size, 1, none⟩, .slice (some ⟨tb, to, none⟩) 1 tcap), (⟨W1.heap.size, 2, none⟩, .slice gao gn gcap), (⟨W1.heap.size, 3, none⟩, .bool false)], y = q.1), ⟨⟨_, (allc ((HM.out.hb 1 _ _ _ rfl).cell (k := 0) rfl) (allc ((HM.out.hb 1 _ _ _ rfl).cell (k := 1) rfl) (allc ((HM.out.hb 1 _ _ _ rfl).cell (k := 2) rfl) (allc ((HM.out.hb 1 _ _ _ rfl).cell (k := 3) rfl) (alln _)))))⟩, rfl⟩, fun _ h => h, ?_⟩
  clear hK K
  (try simp only [Act.put, List.setIfInBounds_toArray, List.set_cons_succ, List.set_cons_zero])
  refine wpQuiet_nil ?_
  refine NoPanic.normal ?_
  go_wp2_with (first
    | (refine wpm_stB HM HA rfl (.tmp 43) (.const (.bool true)) rfl 0 rfl c hc true rfl rfl ?_; clear HA; intro W9 C9 HA hM; (try simp only [List.cons_append, List.nil_append, List.set_cons_succ, List.set_cons_zero, Nat.reduceAdd] at hM); replace HM := hM; clear hM))
  (try simp only [Exit.inBlock, Exit.then])
  go_end0
  exact ⟨rfl, _, (HMT.out.tr HM.out).sub (fun i e hi => by match i, hi with | 0, hi => exact hi | i + 1, hi => simp at hi), _, HA.out, (HT.out.mem (fun b hb => hb.2.1) HM.out).weak fun b hb _ => hb.1⟩
end Go.Proofs.Ytgpdknacnmapiaa
namespace Go.Proofs.Ytgpdknacnmapiaa
set_option linter.unusedVariables false
set_option linter.unusedSimpArgs false
open Go.RowKit
set_option maxHeartbeats 1000000 in
set_option maxRecDepth 100000 in
theorem new_run13 (w : World) : Calls Try.prog 11 #[] w fun e w' => ∃ R cv d1 d2 N cur, e = .returned (.pointer (some ⟨R, 0, none⟩)) ∧ DiskV (fun b => b ≠ R ∧ b ≠ N) w' d1 ∧ DiskV (fun b => b ≠ R ∧ b ≠ N) w' d2 ∧ cv = .slice (some ⟨N, 0, none⟩) 771 771 ∧ curOK cur (newL 160) ∧ Mem (fun _ => False) w w' [(N, cur, 3), (R, run0 cv d1 d2, 41)] := by
  go_enter Try.func11, Try.ntmps11
  go_wp2_with fail
  refine (new_cells _).mono ?_
  rintro e W1 ⟨cur, rfl, hc, hM⟩
  have HM := Lib.hid hM
  have HC := Lib.hid hc
  clear hM hc
  go_wp2_with fail
  refine (new_disk (P := Nw (fun _ => True) (OL [(w.heap.size, cur, 3)])) _ (HM.out.nw (fun b hb => trivial))).mono ?_
  rintro e W2 ⟨⟨d1, d2, rfl, h1, h2⟩, hb⟩
  replace HM := Lib.hid (HM.out.below hb)
  have H1 := Lib.hid h1
  have H2 := Lib.hid h2
  obtain ⟨b1, o1, c1, rfl, -, -⟩ := h1
  obtain ⟨b2, o2, c2, rfl, -, -⟩ := h2
  clear hb
  have HMT := HM
  replace HM := Lib.hid HMT.out.re
  go_wp2_with (first
    | (refine wpm_box HM rfl 41 (.tmp 4) rfl (run0 (.slice (some ⟨w.heap.size, 0, none⟩) 771 771) (.slice (some ⟨b1, o1, none⟩) 33 c1) (.slice (some ⟨b2, o2, none⟩) 33 c2)) (by kernel_rfl) ?_; intro W3 hM; (try simp only [List.cons_append, List.nil_append, List.set_cons_succ, List.set_cons_zero, Nat.reduceAdd] at hM); replace HM := hM; clear hM))
  go_ret
  exact ⟨_, _, _, _, _, cur, rfl, ((H1.out.weak (Q := fun b => (b ≠ W2.heap.size ∧ b ≠ w.heap.size) ∧ ¬ OL [(w.heap.size, cur, 3)] b) (fun b hb hlt => ⟨⟨by omega, fun e => hb.2 ⟨0, cur, 3, by rw [e]; rfl⟩⟩, hb.2⟩)).mem (fun b hb => hb.2) HM.out).weak fun b hb _ => hb.1, ((H2.out.weak (Q := fun b => (b ≠ W2.heap.size ∧ b ≠ w.heap.size) ∧ ¬ OL [(w.heap.size, cur, 3)] b) (fun b hb hlt => ⟨⟨by omega, fun e => hb.2 ⟨0, cur, 3, by rw [e]; rfl⟩⟩, hb.2⟩)).mem (fun b hb => hb.2) HM.out).weak fun b hb _ => hb.1, rfl, HC.out, HMT.out.tr HM.out⟩
end Go.Proofs.Ytgpdknacnmapiaa
