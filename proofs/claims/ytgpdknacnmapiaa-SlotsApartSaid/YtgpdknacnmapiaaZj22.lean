/-
  Parts of a proof, put together: Bg, Nr.
-/
import Derived.Test.YtgpdknacnmapiaaZj01
import Derived.Test.YtgpdknacnmapiaaZj02
import Derived.Test.YtgpdknacnmapiaaZj03
import Derived.Test.YtgpdknacnmapiaaZj04
import Derived.Test.YtgpdknacnmapiaaZj05
import Derived.Test.YtgpdknacnmapiaaZj06
import Derived.Test.YtgpdknacnmapiaaZj07
import Derived.Test.YtgpdknacnmapiaaZj08
import Derived.Test.YtgpdknacnmapiaaZj09
import Derived.Test.YtgpdknacnmapiaaZj10
import Derived.Test.YtgpdknacnmapiaaZj11
import Derived.Test.YtgpdknacnmapiaaZj12
import Derived.Test.YtgpdknacnmapiaaZj13
import Derived.Test.YtgpdknacnmapiaaZj14
import Derived.Test.YtgpdknacnmapiaaZj15
import Derived.Test.YtgpdknacnmapiaaZj16
import Derived.Test.YtgpdknacnmapiaaZj17
import Derived.Test.YtgpdknacnmapiaaZj18
import Derived.Test.YtgpdknacnmapiaaZj19
import Derived.Test.YtgpdknacnmapiaaZj20
import Derived.Test.YtgpdknacnmapiaaZj21
import Derived.Laws.MakeOwn
namespace Go.Proofs.Ytgpdknacnmapiaa
set_option linter.unusedVariables false
set_option linter.unusedSimpArgs false
open Go.RowKit
set_option maxHeartbeats 4000000 in
set_option maxRecDepth 100000 in
theorem begin14 {P : Nat → Prop} (c : Nat) (hc : c < 4) (pg : Int) (hp : 0 ≤ pg) (v : Value) (l : List Int) (B R : Nat) (C : Array Value) (s : RS) (w : World) (hP : ∀ b, w.heap.size ≤ b → P b) (hI : Ints B w v l) (hl : l.length ≤ 96) (hR : HB w R C 74) (hA : RunA C s) (hb : s.b c = false) :
    Calls Try.prog 28 #[.pointer (some ⟨R, 0, none⟩), .int .i64 c, .int .i8 pg, v] w fun e w' => e = .returned (.tuple #[]) ∧ ∃ C' T, Mem (fun b => b = R) w w' [(R, C', 74)] ∧ RunA C' (((s.setM c T).setH c T).setB c true) ∧ Live P w' T c (frG pg l) 0 := by
  have HM := Lib.hid (Mem.startR hR)
  have HP := Lib.hid hP
  have HA := Lib.hid hA
  have HNW := Lib.hid (new_p (P := Nw P (OL [(R, C, 74)])) (c : Int) ⟨by omega, by omega⟩ pg hp v l B w (HM.out.nw hP) hI hl)
  have HBZ := Lib.hid (by have h := hA.b c hc; rw [hb] at h; exact h : C[35 + c]? = some (.bool false))
  obtain ⟨ao, cap, rfl, -, -⟩ := hI
  have c1 : decide ((c : Int) < 0) = false := by simp
  clear hP hp hl hR hA hb
  go_enter Try.func28, Try.ntmps28
  go_wp2_with fail
  refine HNW.out.mono ?_
  rintro e W1 ⟨⟨T, rfl, hL⟩, hb⟩
  have HMT := HM.out.below hb
  have HMT := Lib.hid HMT
  replace HM := Lib.hid HMT.out.re
  have HT := Lib.hid hL.cn
  obtain ⟨tb, to, tcap, gao, gn, gcap, rfl, -⟩ := hL
  clear hb
  go_wp2_with (first
    | (refine wpm_al38 HM rfl rfl ?_; intro W hM; (try simp only [List.cons_append, List.nil_append, List.set_cons_succ, List.set_cons_zero, Nat.reduceAdd] at hM); replace HM := hM; clear hM)
    | (refine wpm_st38 HM rfl (.tmp 8) (.tmp 15) rfl 1 rfl TaskC.zero.size _ rfl rfl ⟨_, _, _, _, _, _, _, _, rfl⟩ ?_; intro W2 hM; (try simp only [List.cons_append, List.nil_append, List.set_cons_succ, List.set_cons_zero, Nat.reduceAdd] at hM); replace HM := hM; clear hM; have kb := (HM.out.hb 0 _ _ _ rfl).cell (k := 35 + c) HBZ.out))
  clear kb
  replace HM := Lib.hid HM.out.drew
  have HF : Hid (∀ p ∈ ([(⟨W1.heap.size, 0, none⟩, .int .i64 (c : Int)), (⟨W1.heap.size, 1, none⟩, .slice (some ⟨tb, to, none⟩) 1 tcap), (⟨W1.heap.size, 2, none⟩, .slice gao gn gcap), (⟨W1.heap.size, 3, none⟩, .bool false)] : List (Addr × Value)), World.cell? _ p.1 = some p.2) := Lib.hid (allc ((HM.out.hb 1 _ _ _ rfl).cell (k := 0) rfl) (allc ((HM.out.hb 1 _ _ _ rfl).cell (k := 1) rfl) (allc ((HM.out.hb 1 _ _ _ rfl).cell (k := 2) rfl) (allc ((HM.out.hb 1 _ _ _ rfl).cell (k := 3) rfl) (alln _)))))
  haveI : Inhabited (CW [(⟨W1.heap.size, 0, none⟩, .int .i64 (c : Int)), (⟨W1.heap.size, 1, none⟩, .slice (some ⟨tb, to, none⟩) 1 tcap), (⟨W1.heap.size, 2, none⟩, .slice gao gn gcap), (⟨W1.heap.size, 3, none⟩, .bool false)]) := ⟨⟨_, HF.out⟩⟩
  have f0 : ∀ q : CW [(⟨W1.heap.size, 0, none⟩, .int .i64 (c : Int)), (⟨W1.heap.size, 1, none⟩, .slice (some ⟨tb, to, none⟩) 1 tcap), (⟨W1.heap.size, 2, none⟩, .slice gao gn gcap), (⟨W1.heap.size, 3, none⟩, .bool false)], q.1.cell? ⟨W1.heap.size, 0, none⟩ = some (.int .i64 (c : Int)) := fun q => q.2 (⟨W1.heap.size, 0, none⟩, .int .i64 (c : Int)) (by simp)
  have f1 : ∀ q : CW [(⟨W1.heap.size, 0, none⟩, .int .i64 (c : Int)), (⟨W1.heap.size, 1, none⟩, .slice (some ⟨tb, to, none⟩) 1 tcap), (⟨W1.heap.size, 2, none⟩, .slice gao gn gcap), (⟨W1.heap.size, 3, none⟩, .bool false)], q.1.cell? ⟨W1.heap.size, 1, none⟩ = some (.slice (some ⟨tb, to, none⟩) 1 tcap) := fun q => q.2 (⟨W1.heap.size, 1, none⟩, .slice (some ⟨tb, to, none⟩) 1 tcap) (by simp)
  have f2 : ∀ q : CW [(⟨W1.heap.size, 0, none⟩, .int .i64 (c : Int)), (⟨W1.heap.size, 1, none⟩, .slice (some ⟨tb, to, none⟩) 1 tcap), (⟨W1.heap.size, 2, none⟩, .slice gao gn gcap), (⟨W1.heap.size, 3, none⟩, .bool false)], q.1.cell? ⟨W1.heap.size, 2, none⟩ = some (.slice gao gn gcap) := fun q => q.2 (⟨W1.heap.size, 2, none⟩, .slice gao gn gcap) (by simp)
  have f3 : ∀ q : CW [(⟨W1.heap.size, 0, none⟩, .int .i64 (c : Int)), (⟨W1.heap.size, 1, none⟩, .slice (some ⟨tb, to, none⟩) 1 tcap), (⟨W1.heap.size, 2, none⟩, .slice gao gn gcap), (⟨W1.heap.size, 3, none⟩, .bool false)], q.1.cell? ⟨W1.heap.size, 3, none⟩ = some (.bool false) := fun q => q.2 (⟨W1.heap.size, 3, none⟩, .bool false) (by simp)
  (try simp only [Act.put, List.setIfInBounds_toArray, List.set_cons_succ, List.set_cons_zero])
  refine wp_region_noPanic ?_
  refine wp_region_plw (.step [true, true, true, true, true, true] (.cons 6 (.last []) .nil)) (fun y => ∃ q : CW [(⟨W1.heap.size, 0, none⟩, .int .i64 (c : Int)), (⟨W1.heap.size, 1, none⟩, .slice (some ⟨tb, to, none⟩) 1 tcap), (⟨W1.heap.size, 2, none⟩, .slice gao gn gcap), (⟨W1.heap.size, 3, none⟩, .bool false)], y = q.1) (by kernel_rfl) (by kernel_rfl) (by kernel_rfl) (fun _ _ _ _ _ _ _ h => h) ⟨⟨_, HF.out⟩, rfl⟩ ?_
  simp only [wpPw, wpBw, selF, and_true]
  generalize W2.drew = V1 at *
  repeat (go_big_quiet_step (fail))
  refine wpQuiet_nil ?_
  refine wpOp_step rfl (fun K hK => ?_)
  rw [if_pos (by rfl)]
  refine wpOm_stM HM HA (.tmp 32) (.tmp 29) rfl rfl 0 rfl c hc _ rfl rfl ⟨_, _, _, _, _, _, _, _, rfl⟩ ?_
  clear HA
  intro V2 V2c HA hM
  (try simp only [List.cons_append, List.nil_append, List.set_cons_succ, List.set_cons_zero, Nat.reduceAdd] at hM)
  replace HM := hM
  clear hM
  refine hK _ _ ⟨(fun y => ∃ q : CW [(⟨W1.heap.size, 0, none⟩, .int .i64 (c : Int)), (⟨W1.heap.size, 1, none⟩, .slice (some ⟨tb, to, none⟩) 1 tcap), (⟨W1.heap.size, 2, none⟩, .slice gao gn gcap), (⟨W1.heap.size, 3, none⟩, .bool false)], y = q.1), ⟨⟨_, (allc ((HM.out.hb 1 _ _ _ rfl).cell (k := 0) rfl) (allc ((HM.out.hb 1 _ _ _ rfl).cell (k := 1) rfl) (allc ((HM.out.hb 1 _ _ _ rfl).cell (k := 2) rfl) (allc ((HM.out.hb 1 _ _ _ rfl).cell (k := 3) rfl) (alln _)))))⟩, rfl⟩, fun _ h => h, ?_⟩
  clear hK K
  (try simp only [Act.put, List.setIfInBounds_toArray, List.set_cons_succ, List.set_cons_zero])
  refine wpQuiet_nil ?_
  refine NoPanic.normal ?_
  go_wp2_with fail
  clear f0 f1 f2 f3 HF
  replace HM := Lib.hid HM.out.drew
  have HF : Hid (∀ p ∈ ([(⟨W1.heap.size, 0, none⟩, .int .i64 (c : Int)), (⟨W1.heap.size, 1, none⟩, .slice (some ⟨tb, to, none⟩) 1 tcap), (⟨W1.heap.size, 2, none⟩, .slice gao gn gcap), (⟨W1.heap.size, 3, none⟩, .bool false)] : List (Addr × Value)), World.cell? _ p.1 = some p.2) := Lib.hid (allc ((HM.out.hb 1 _ _ _ rfl).cell (k := 0) rfl) (allc ((HM.out.hb 1 _ _ _ rfl).cell (k := 1) rfl) (allc ((HM.out.hb 1 _ _ _ rfl).cell (k := 2) rfl) (allc ((HM.out.hb 1 _ _ _ rfl).cell (k := 3) rfl) (alln _)))))
  haveI : Inhabited (CW [(⟨W1.heap.size, 0, none⟩, .int .i64 (c : Int)), (⟨W1.heap.size, 1, none⟩, .slice (some ⟨tb, to, none⟩) 1 tcap), (⟨W1.heap.size, 2, none⟩, .slice gao gn gcap), (⟨W1.heap.size, 3, none⟩, .bool false)]) := ⟨⟨_, HF.out⟩⟩
  have f0 : ∀ q : CW [(⟨W1.heap.size, 0, none⟩, .int .i64 (c : Int)), (⟨W1.heap.size, 1, none⟩, .slice (some ⟨tb, to, none⟩) 1 tcap), (⟨W1.heap.size, 2, none⟩, .slice gao gn gcap), (⟨W1.heap.size, 3, none⟩, .bool false)], q.1.cell? ⟨W1.heap.size, 0, none⟩ = some (.int .i64 (c : Int)) := fun q => q.2 (⟨W1.heap.size, 0, none⟩, .int .i64 (c : Int)) (by simp)
  have f1 : ∀ q : CW [(⟨W1.heap.size, 0, none⟩, .int .i64 (c : Int)), (⟨W1.heap.size, 1, none⟩, .slice (some ⟨tb, to, none⟩) 1 tcap), (⟨W1.heap.size, 2, none⟩, .slice gao gn gcap), (⟨W1.heap.size, 3, none⟩, .bool false)], q.1.cell? ⟨W1.heap.size, 1, none⟩ = some (.slice (some ⟨tb, to, none⟩) 1 tcap) := fun q => q.2 (⟨W1.heap.size, 1, none⟩, .slice (some ⟨tb, to, none⟩) 1 tcap) (by simp)
  have f2 : ∀ q : CW [(⟨W1.heap.size, 0, none⟩, .int .i64 (c : Int)), (⟨W1.heap.size, 1, none⟩, .slice (some ⟨tb, to, none⟩) 1 tcap), (⟨W1.heap.size, 2, none⟩, .slice gao gn gcap), (⟨W1.heap.size, 3, none⟩, .bool false)], q.1.cell? ⟨W1.heap.size, 2, none⟩ = some (.slice gao gn gcap) := fun q => q.2 (⟨W1.heap.size, 2, none⟩, .slice gao gn gcap) (by simp)
  have f3 : ∀ q : CW [(⟨W1.heap.size, 0, none⟩, .int .i64 (c : Int)), (⟨W1.heap.size, 1, none⟩, .slice (some ⟨tb, to, none⟩) 1 tcap), (⟨W1.heap.size, 2, none⟩, .slice gao gn gcap), (⟨W1.heap.size, 3, none⟩, .bool false)], q.1.cell? ⟨W1.heap.size, 3, none⟩ = some (.bool false) := fun q => q.2 (⟨W1.heap.size, 3, none⟩, .bool false) (by simp)
  (try simp only [Act.put, List.setIfInBounds_toArray, List.set_cons_succ, List.set_cons_zero])
  refine wp_region_noPanic ?_
  refine wp_region_plw (.step [true, true, true, true, true, true] (.cons 6 (.last []) .nil)) (fun y => ∃ q : CW [(⟨W1.heap.size, 0, none⟩, .int .i64 (c : Int)), (⟨W1.heap.size, 1, none⟩, .slice (some ⟨tb, to, none⟩) 1 tcap), (⟨W1.heap.size, 2, none⟩, .slice gao gn gcap), (⟨W1.heap.size, 3, none⟩, .bool false)], y = q.1) (by kernel_rfl) (by kernel_rfl) (by kernel_rfl) (fun _ _ _ _ _ _ _ h => h) ⟨⟨_, HF.out⟩, rfl⟩ ?_
  simp only [wpPw, wpBw, selF, and_true]
  generalize V2.drew = V3 at *
  repeat (go_big_quiet_step (fail))
  refine wpQuiet_nil ?_
  refine wpOp_step rfl (fun K hK => ?_)
  rw [if_pos (by rfl)]
  refine wpOm_stH HM HA (.tmp 38) (.tmp 35) rfl rfl 0 rfl c hc _ rfl rfl ⟨_, _, _, _, _, _, _, _, rfl⟩ ?_
  clear HA
  intro V4 V4c HA hM
  (try simp only [List.cons_append, List.nil_append, List.set_cons_succ, List.set_cons_zero, Nat.reduceAdd] at hM)
  replace HM := hM
  clear hM
  refine hK _ _ ⟨(fun y => ∃ q : CW [(⟨W1.heap.size, 0, none⟩, .int .i64 (c : Int)), (⟨W1.heap.size, 1, none⟩, .slice (some ⟨tb, to, none⟩) 1 tcap), (⟨W1.heap.size, 2, none⟩, .slice gao gn gcap), (⟨W1.heap.size, 3, none⟩, .bool false)], y = q.1), ⟨⟨_, (allc ((HM.out.hb 1 _ _ _ rfl).cell (k := 0) rfl) (allc ((HM.out.hb 1 _ _ _ rfl).cell (k := 1) rfl) (allc ((HM.out.hb 1 _ _ _ rfl).cell (k := 2) rfl) (allc ((HM.out.hb 1 _ _ _ rfl).cell (k := 3) rfl) (alln _)))))⟩, rfl⟩, fun _ h => h, ?_⟩
  clear hK K
  (try simp only [Act.put, List.setIfInBounds_toArray, List.set_cons_succ, List.set_cons_zero])
  refine wpQuiet_nil ?_
  refine NoPanic.normal ?_
  go_wp2_with (first
    | (refine wpm_stB HM HA rfl (.tmp 43) (.const (.bool true)) rfl 0 rfl c hc true rfl rfl ?_; clear HA; intro W9 C9 HA hM; (try simp only [List.cons_append, List.nil_append, List.set_cons_succ, List.set_cons_zero, Nat.reduceAdd] at hM); replace HM := hM; clear hM))
  (try simp only [Exit.inBlock, Exit.then])
  go_end0
  exact ⟨rfl, _, (HMT.out.tr HM.out).sub (fun i e hi => by match i, hi with | 0, hi => exact hi | i + 1, hi => simp at hi), _, HA.out, (HT.out.mem (fun b hb => hb.2.1) HM.out).weak fun b hb _ => hb.1⟩
end Go.Proofs.Ytgpdknacnmapiaa
namespace Go.Proofs.Ytgpdknacnmapiaa
set_option linter.unusedVariables false
set_option linter.unusedSimpArgs false
open Go.RowKit
theorem node1_r (j : Nat) (w : World) (hj : j < 160) : Calls Try.prog 58 #[.int .i64 j, .int .i64 1] w fun e w' => e = .returned (.int .i64 (291 + 3 * j + 1)) ∧ w' = w := by
  have HI := Lib.hid (in_r 291 3 j 160 w (by omega) (by omega) (by omega))
  rw [if_neg (by omega)] at HI
  have d0 : decide ((291 + 3 * (j : Int)) < 0) = false := by simp; omega
  go_enter Try.func58, Try.ntmps58
  go_wp2_with fail
  refine HI.out.mono ?_
  rintro e w1 ⟨rfl, rfl⟩
  go_wp2_with fail
  go_ret
  exact ⟨rfl, rfl⟩
/-- the first cells of a world, j of the nodes' made -/
def newL (J : Nat) : List Int := (List.range 771).map fun k => if k = 1 then 1 else if 292 ≤ k ∧ (k - 292) % 3 = 0 ∧ (k - 292) / 3 < J then -1 else 0
theorem newL_len (J : Nat) : (newL J).length = 771 := by simp [newL]
theorem newL_get (J k : Nat) (hk : k < 771) : (newL J)[k]? = some (if k = 1 then 1 else if 292 ≤ k ∧ (k - 292) % 3 = 0 ∧ (k - 292) / 3 < J then -1 else 0) := by
  unfold newL; rw [List.getElem?_map, List.getElem?_range hk]; rfl
theorem newL_fit (J : Nat) : ∀ x ∈ newL J, -1152921504606846976 ≤ x ∧ x ≤ 1152921504606846976 := by
  intro x hx
  obtain ⟨k, _, rfl⟩ := List.mem_map.1 hx
  split
  · omega
  · split <;> omega
theorem newL_set (J : Nat) (hJ : J < 160) : (newL J).set (292 + 3 * J) (-1) = newL (J + 1) := by
  apply List.ext_getElem?
  intro k
  rw [List.getElem?_set]
  by_cases hk : k < 771
  · rw [newL_get _ _ hk, newL_get _ _ hk, newL_len]
    by_cases e : 292 + 3 * J = k
    · subst e
      rw [if_pos rfl, if_pos (by omega), if_neg (by omega), if_pos (by omega)]
    · rw [if_neg e]
      by_cases h1 : k = 1
      · rw [if_pos h1, if_pos h1]
      · rw [if_neg h1, if_neg h1]
        by_cases h2 : 292 ≤ k ∧ (k - 292) % 3 = 0 ∧ (k - 292) / 3 < J
        · rw [if_pos h2, if_pos (by omega)]
        · rw [if_neg h2, if_neg (by omega)]
  · rw [if_neg (by omega), List.getElem?_eq_none (by rw [newL_len]; omega), List.getElem?_eq_none (by rw [newL_len]; omega)]
theorem made3 : curOK ((madeCells #[.int .i64 0] 771).setIfInBounds 1 (.int .i64 1)) (newL 0) := by
  intro i x hx
  have hi : i < 771 := by have := (List.getElem?_eq_some_iff.1 hx).1; rwa [newL_len] at this
  rw [newL_get _ _ hi] at hx
  rw [Array.getElem?_setIfInBounds, size_madeCells]
  by_cases e : i = 1
  · subst e; rw [if_pos rfl] at hx; rw [if_pos rfl, if_pos (by omega)]; injection hx with hx; rw [← hx]
  · rw [if_neg e, if_neg (by omega)] at hx
    rw [if_neg (fun h => e h.symm)]
    injection hx with hx
    subst hx
    simp [madeCells, hi, Nat.mod_one]
def sec0 : Array Value := #[.int .i64 0, .string ByteArray.empty]
theorem made135 (i : Nat) (hi : i < 33) : (madeCells sec0 66)[i * 2]? = some (.int .i64 0) ∧ (madeCells sec0 66)[i * 2 + 1]? = some (.string ByteArray.empty) := by
  have h1 : i * 2 < 66 := by omega
  have h2 : i * 2 + 1 < 66 := by omega
  constructor
  · simp [madeCells, h1, sec0]
  · simp [madeCells, h2, sec0, Nat.add_mod]
section
variable {X : Nat → Prop} {w0 w : World} {L : List (Nat × Array Value × TypeId)} {ops : Array Oper} {rest : List Oper} {o : Oper} {a : Act} {Q : Exit → Act → World → Prop} {K : Act → World → Prop}
theorem wpm_make771 (HM : Hid (Mem X w0 w L)) (hg : o.guard = none) (ho : o.op = .makeSlice 30 (.const (.int .i64 771)) (.const (.int .i64 771)))
    (h : ∀ W, Hid (Mem X w0 W (L ++ [(w.heap.size, madeCells #[.int .i64 0] 771, 3)])) → wpList Try.prog ops Q rest (a.put o.dst (.slice (some ⟨w.heap.size, 0, none⟩) 771 771)) W) : wpList Try.prog ops Q (o :: rest) a w := by
  refine wpList_plain hg fun K hK => ?_
  have hr := run_makeSlice (P := Try.prog) w 30 3 Try.t3 (.int .i64 0) und30 (by kernel_rfl) (by kernel_rfl) .i64 .i64 771 771 (by omega) (by omega) (by decide) (by decide) (by omega)
  unfold Oper.wp execOp
  simp only [ho]
  simp [hr, Sem.run_bind, Act.eval]
  exact hK _ _ (h _ (Lib.hid (HM.out.alloc _ _)))
theorem wpOm_make33 (HM : Hid (Mem X w0 w L)) (ho : o.op = .makeSlice 31 (.const (.int .i64 33)) (.const (.int .i64 33))) (d : Tmp) (hd : o.dst = some d)
    (h : ∀ W, Hid (Mem X w0 W (L ++ [(w.heap.size, madeCells sec0 66, 135)])) → K (a.put (some d) (.slice (some ⟨w.heap.size, 0, none⟩) 33 33)) W) : o.wp Try.prog a w K Q := by
  have hr := run_makeSlice (P := Try.prog) w 31 135 Try.t135 (.agg sec0) Try.underlying31 (by kernel_rfl) (by kernel_rfl) .i64 .i64 33 33 (by omega) (by omega) (by decide) (by decide) (by omega)
  unfold Oper.wp execOp
  simp only [ho]
  simp [hr, Sem.run_bind, Act.eval]
  have h' := h _ (Lib.hid (HM.out.alloc _ _))
  rw [← hd] at h'
  exact h'
end
set_option maxHeartbeats 1000000 in
set_option maxRecDepth 100000 in
theorem new_cells (w : World) : Calls Try.prog 34 #[] w fun e w' => ∃ cur, e = .returned (.slice (some ⟨w.heap.size, 0, none⟩) 771 771) ∧ curOK cur (newL 160) ∧ Mem (fun _ => False) w w' [(w.heap.size, cur, 3)] := by
  have HM := Lib.hid (Mem.start w)
  go_enter Try.func34, Try.ntmps34
  go_wp2_with (first
    | (refine wpm_make771 HM rfl rfl ?_; intro W hM; (try simp only [List.cons_append, List.nil_append, List.set_cons_succ, List.set_cons_zero, Nat.reduceAdd] at hM); replace HM := hM; clear hM)
    | (refine wpm_cell HM rfl 3 (.tmp 5) (.const (.int .i64 1)) rfl Try.sizeOf3 0 1 rfl (.int .i64 1) rfl rfl (.inl ⟨_, _, rfl⟩) (by rw [size_madeCells]; omega) _ rfl ?_; intro W hM; (try simp only [List.cons_append, List.nil_append, List.set_cons_succ, List.set_cons_zero, Nat.reduceAdd] at hM); replace HM := hM; clear hM))
  go_loopw [2] (fun iv wr => ∃ (j : Nat) (cur : Array Value), j ≤ 160 ∧ iv = .int .i64 j ∧ curOK cur (newL j) ∧ Mem (fun _ => False) w wr [(w.heap.size, cur, 3)]) (fun iv _ => 160 - (intOf iv).toNat)
  case atStart => exact ⟨0, _, by omega, rfl, made3, HM.out⟩
  case round =>
    clear HM
    obtain ⟨j, cur, hj, rfl, hcur, hM⟩ := hrel
    have HM := Lib.hid hM
    have HC := Lib.hid hcur
    clear hM hcur
    by_cases hlt : j < 160
    · have d0 : decide ((j : Int) < 160) = true := by simp; omega
      have ek : (291 + 3 * (j : Int) + 1) = ((292 + 3 * j : Nat) : Int) := by omega
      have hk7 : 292 + 3 * j < 771 := by omega
      have HND := Lib.hid (fun w => node1_r j w hlt)
      rw [ek] at HND
      have HSET := Lib.hid (HC.out.set (292 + 3 * j) (-1) (by rw [newL_len]; omega))
      rw [newL_set j hlt] at HSET
      generalize 292 + 3 * j = kk at *
      clear ek
      go_wp2_with fail
      refine (HND.out _).mono ?_
      rintro e W2 ⟨rfl, rfl⟩
      go_wp2_with (first
        | (refine wpm_cell HM rfl 3 (.tmp 13) (.const (.int .i64 (-1))) rfl Try.sizeOf3 0 kk rfl (.int .i64 (-1)) rfl rfl (.inl ⟨_, _, rfl⟩) (Array.getElem?_eq_some_iff.1 (HC.out kk _ (List.getElem?_eq_getElem (by rw [newL_len]; exact hk7)))).1 _ rfl ?_; intro W hM; (try simp only [List.cons_append, List.nil_append, List.set_cons_succ, List.set_cons_zero, Nat.reduceAdd] at hM); replace HM := hM; clear hM))
      go_roundw
      case rel => exact ⟨j + 1, _, hlt, rfl, HSET.out, HM.out⟩
      case measure => simp [intOf]; omega
    · have e : j = 160 := by omega
      subst e
      go_wp2_with fail
      go_ret
      exact ⟨cur, rfl, HC.out, HM.out⟩
theorem inf33 : (Try.prog.info? 33).map (·.size) = some 2 := by kernel_rfl
theorem und33 : ∃ fs, Try.prog.underlying 33 = some (.struct fs) := ⟨_, Try.underlying33⟩
theorem zer33 (w : World) : (zeroValue 33).run Try.prog w = .ok (.agg #[.slice none 0 0, .slice none 0 0]) w := by kernel_rfl
theorem HB.load33 {w : World} {b : Nat} {C : Array Value} (h : HB w b C 33) (hs : C.size = 2) : (loadVar 33 ⟨b, 0, none⟩).run Try.prog w = .ok (.agg C) w := by
  obtain ⟨fs, hu⟩ := und33
  exact run_loadVar_row (P := Try.prog) w b 33 33 C (0, 0) (.struct fs) h hu rfl (by rw [inf33, hs])
set_option maxHeartbeats 1000000 in
set_option maxRecDepth 100000 in
theorem new_disk {P : Nat → Prop} (w : World) (hP : ∀ b, w.heap.size ≤ b → P b) : Calls Try.prog 35 #[] w fun e w' => (∃ d1 d2, e = .returned (.agg #[d1, d2]) ∧ DiskV P w' d1 ∧ DiskV P w' d2) ∧ Below w.heap.size w w' := by
  have HM := Lib.hid (Mem.start w)
  have HP := Lib.hid hP
  clear hP
  go_enter Try.func35, Try.ntmps35
  go_wp2_with (first
    | (refine wpm_al HM rfl 33 rfl _ zer33 ?_; intro W1 hM; (try simp only [List.cons_append, List.nil_append, List.set_cons_succ, List.set_cons_zero, Nat.reduceAdd] at hM); replace HM := hM; clear hM))
  replace HM := Lib.hid HM.out.drew
  have HF : Hid (∀ p ∈ ([] : List (Addr × Value)), World.cell? W1.drew p.1 = some p.2) := Lib.hid (alln _)
  haveI : Inhabited (CW []) := ⟨⟨_, HF.out⟩⟩
  (try simp only [Act.put, List.setIfInBounds_toArray, List.set_cons_succ, List.set_cons_zero])
  refine wp_region_noPanic ?_
  refine wp_region_plw (.step [] (.cons 0 (.step [] (.cons 1 (.step [false, false, true] (.cons 3 (.last []) .nil)) .nil)) (.cons 1 (.step [] (.cons 0 (.step [false, false, true] (.cons 3 (.last []) .nil)) .nil)) .nil))) (fun y => ∃ q : CW [], y = q.1) (by kernel_rfl) (by kernel_rfl) (by kernel_rfl) (fun _ _ _ _ _ _ _ h => h) ⟨⟨_, HF.out⟩, rfl⟩ ?_
  simp only [wpPw, wpBw, selF, and_true]
  generalize W1.drew = V1 at *
  refine wpQuiet_nil ?_
  refine ⟨?_, ?_⟩
  · refine wpOp_step rfl (fun K hK => ?_)
    rw [if_pos (by rfl)]
    refine wpOm_make33 HM rfl 1 rfl ?_
    intro V2 hM
    (try simp only [List.cons_append, List.nil_append, List.set_cons_succ, List.set_cons_zero, Nat.reduceAdd] at hM)
    replace HM := hM
    clear hM
    refine hK _ _ ⟨(fun y => ∃ q : CW [], y = q.1), ⟨⟨_, (alln _)⟩, rfl⟩, fun _ h => h, ?_⟩
    clear hK K
    (try simp only [Act.put, List.setIfInBounds_toArray, List.set_cons_succ, List.set_cons_zero])
    refine wpQuiet_nil ?_
    refine wpOp_step rfl (fun K hK => ?_)
    rw [if_pos (by rfl)]
    refine wpOm_make33 HM rfl 2 rfl ?_
    intro V3 hM
    (try simp only [List.cons_append, List.nil_append, List.set_cons_succ, List.set_cons_zero, Nat.reduceAdd] at hM)
    replace HM := hM
    clear hM
    refine hK _ _ ⟨(fun y => ∃ q : CW [], y = q.1), ⟨⟨_, (alln _)⟩, rfl⟩, fun _ h => h, ?_⟩
    clear hK K
    (try simp only [Act.put, List.setIfInBounds_toArray, List.set_cons_succ, List.set_cons_zero])
    repeat (go_big_quiet_step (fail))
    refine wpQuiet_nil ?_
    refine wpOp_step rfl (fun K hK => ?_)
    rw [if_pos (by rfl)]
    refine wpOm_st HM 33 (.tmp 0) (.tmp 3) rfl rfl 0 rfl #[.slice (some ⟨_, 0, none⟩) 33 33, .slice (some ⟨_, 0, none⟩) 33 33] rfl rfl 2 inf33 rfl rfl (by simp [Value.oneCell']) ?_
    intro V4 hM
    (try simp only [List.cons_append, List.nil_append, List.set_cons_succ, List.set_cons_zero, Nat.reduceAdd] at hM)
    replace HM := hM
    clear hM
    refine hK _ _ ⟨(fun y => ∃ q : CW [], y = q.1), ⟨⟨_, (alln _)⟩, rfl⟩, fun _ h => h, ?_⟩
    clear hK K
    (try simp only [Act.put, List.setIfInBounds_toArray, List.set_cons_succ, List.set_cons_zero])
    refine wpQuiet_nil ?_
    refine NoPanic.normal ?_
    go_wp2_with fail
    (try simp only [Exit.inBlock, Exit.then])
    refine bodyPost_ret (res_c rfl _ _ _ _ rfl ((HM.out.hb 0 _ _ _ rfl).load33 rfl)) rfl ?_
    exact ⟨⟨_, _, rfl, ⟨_, 0, 33, rfl, HP.out _ (by rcases HM.out.st 1 _ _ _ rfl with h | h; exact h.elim; exact h), fun i hi => ⟨(HM.out.hb 1 _ _ _ rfl).cell (by rw [Nat.zero_add]; exact (made135 i hi).1), (HM.out.hb 1 _ _ _ rfl).cell (by rw [Nat.zero_add]; exact (made135 i hi).2)⟩⟩, ⟨_, 0, 33, rfl, HP.out _ (by rcases HM.out.st 2 _ _ _ rfl with h | h; exact h.elim; exact h), fun i hi => ⟨(HM.out.hb 2 _ _ _ rfl).cell (by rw [Nat.zero_add]; exact (made135 i hi).1), (HM.out.hb 2 _ _ _ rfl).cell (by rw [Nat.zero_add]; exact (made135 i hi).2)⟩⟩⟩, HM.out.bel⟩
  · refine wpOp_step rfl (fun K hK => ?_)
    rw [if_pos (by rfl)]
    refine wpOm_make33 HM rfl 2 rfl ?_
    intro V5 hM
    (try simp only [List.cons_append, List.nil_append, List.set_cons_succ, List.set_cons_zero, Nat.reduceAdd] at hM)
    replace HM := hM
    clear hM
    refine hK _ _ ⟨(fun y => ∃ q : CW [], y = q.1), ⟨⟨_, (alln _)⟩, rfl⟩, fun _ h => h, ?_⟩
    clear hK K
    (try simp only [Act.put, List.setIfInBounds_toArray, List.set_cons_succ, List.set_cons_zero])
    refine wpQuiet_nil ?_
    refine wpOp_step rfl (fun K hK => ?_)
    rw [if_pos (by rfl)]
    refine wpOm_make33 HM rfl 1 rfl ?_
    intro V6 hM
    (try simp only [List.cons_append, List.nil_append, List.set_cons_succ, List.set_cons_zero, Nat.reduceAdd] at hM)
    replace HM := hM
    clear hM
    refine hK _ _ ⟨(fun y => ∃ q : CW [], y = q.1), ⟨⟨_, (alln _)⟩, rfl⟩, fun _ h => h, ?_⟩
    clear hK K
    (try simp only [Act.put, List.setIfInBounds_toArray, List.set_cons_succ, List.set_cons_zero])
    repeat (go_big_quiet_step (fail))
    refine wpQuiet_nil ?_
    refine wpOp_step rfl (fun K hK => ?_)
    rw [if_pos (by rfl)]
    refine wpOm_st HM 33 (.tmp 0) (.tmp 3) rfl rfl 0 rfl #[.slice (some ⟨_, 0, none⟩) 33 33, .slice (some ⟨_, 0, none⟩) 33 33] rfl rfl 2 inf33 rfl rfl (by simp [Value.oneCell']) ?_
    intro V7 hM
    (try simp only [List.cons_append, List.nil_append, List.set_cons_succ, List.set_cons_zero, Nat.reduceAdd] at hM)
    replace HM := hM
    clear hM
    refine hK _ _ ⟨(fun y => ∃ q : CW [], y = q.1), ⟨⟨_, (alln _)⟩, rfl⟩, fun _ h => h, ?_⟩
    clear hK K
    (try simp only [Act.put, List.setIfInBounds_toArray, List.set_cons_succ, List.set_cons_zero])
    refine wpQuiet_nil ?_
    refine NoPanic.normal ?_
    go_wp2_with fail
    (try simp only [Exit.inBlock, Exit.then])
    refine bodyPost_ret (res_c rfl _ _ _ _ rfl ((HM.out.hb 0 _ _ _ rfl).load33 rfl)) rfl ?_
    exact ⟨⟨_, _, rfl, ⟨_, 0, 33, rfl, HP.out _ (by rcases HM.out.st 2 _ _ _ rfl with h | h; exact h.elim; exact h), fun i hi => ⟨(HM.out.hb 2 _ _ _ rfl).cell (by rw [Nat.zero_add]; exact (made135 i hi).1), (HM.out.hb 2 _ _ _ rfl).cell (by rw [Nat.zero_add]; exact (made135 i hi).2)⟩⟩, ⟨_, 0, 33, rfl, HP.out _ (by rcases HM.out.st 1 _ _ _ rfl with h | h; exact h.elim; exact h), fun i hi => ⟨(HM.out.hb 1 _ _ _ rfl).cell (by rw [Nat.zero_add]; exact (made135 i hi).1), (HM.out.hb 1 _ _ _ rfl).cell (by rw [Nat.zero_add]; exact (made135 i hi).2)⟩⟩⟩, HM.out.bel⟩
def zt : Array Value := tkC 0 (.slice none 0 0) (.slice none 0 0) false
def rs0 (cv d1 d2 : Value) : RS := ⟨fun j => if j = 0 then cv else if j = 1 then d1 else d2, fun _ => zt, fun _ => zt, fun _ => false⟩
def run0 (cv d1 d2 : Value) : Array Value := #[cv, d1, d2, .int .i64 0, .slice none 0 0, .slice none 0 0, .bool false, .int .i64 0, .slice none 0 0, .slice none 0 0, .bool false, .int .i64 0, .slice none 0 0, .slice none 0 0, .bool false, .int .i64 0, .slice none 0 0, .slice none 0 0, .bool false, .int .i64 0, .slice none 0 0, .slice none 0 0, .bool false, .int .i64 0, .slice none 0 0, .slice none 0 0, .bool false, .int .i64 0, .slice none 0 0, .slice none 0 0, .bool false, .int .i64 0, .slice none 0 0, .slice none 0 0, .bool false, .bool false, .bool false, .bool false, .bool false]
theorem run0_ok (cv d1 d2 : Value) : RunA (run0 cv d1 d2) (rs0 cv d1 d2) := by
  refine ⟨rfl, fun j hj => ?_, fun c j hc hj => ?_, fun c j hc hj => ?_, fun c hc => ?_⟩
  · match j, hj with
    | 0, _ => rfl
    | 1, _ => rfl
    | 2, _ => rfl
  · rcases (by omega : c = 0 ∨ c = 1 ∨ c = 2 ∨ c = 3) with rfl | rfl | rfl | rfl <;> rcases (by omega : j = 0 ∨ j = 1 ∨ j = 2 ∨ j = 3) with rfl | rfl | rfl | rfl <;> rfl
  · rcases (by omega : c = 0 ∨ c = 1 ∨ c = 2 ∨ c = 3) with rfl | rfl | rfl | rfl <;> rcases (by omega : j = 0 ∨ j = 1 ∨ j = 2 ∨ j = 3) with rfl | rfl | rfl | rfl <;> rfl
  · match c, hc with
    | 0, _ => rfl
    | 1, _ => rfl
    | 2, _ => rfl
    | 3, _ => rfl
set_option maxHeartbeats 1000000 in
set_option maxRecDepth 100000 in
theorem new_run14 (w : World) : Calls Try.prog 22 #[] w fun e w' => ∃ R cv d1 d2 N cur, e = .returned (.pointer (some ⟨R, 0, none⟩)) ∧ DiskV (fun b => b ≠ R ∧ b ≠ N) w' d1 ∧ DiskV (fun b => b ≠ R ∧ b ≠ N) w' d2 ∧ cv = .slice (some ⟨N, 0, none⟩) 771 771 ∧ curOK cur (newL 160) ∧ Mem (fun _ => False) w w' [(N, cur, 3), (R, run0 cv d1 d2, 74)] := by
  go_enter Try.func22, Try.ntmps22
  go_wp2_with fail
  refine (new_cells _).mono ?_
  rintro e W1 ⟨cur, rfl, hc, hM⟩
  have HM := Lib.hid hM
  have HC := Lib.hid hc
  clear hM hc
  go_wp2_with fail
  refine (new_disk (P := Nw (fun _ => True) (OL [(w.heap.size, cur, 3)])) _ (HM.out.nw (fun b hb => trivial))).mono ?_
  rintro e W2 ⟨⟨d1, d2, rfl, h1, h2⟩, hb⟩
  replace HM := Lib.hid (HM.out.below hb)
  have H1 := Lib.hid h1
  have H2 := Lib.hid h2
  obtain ⟨b1, o1, c1, rfl, -, -⟩ := h1
  obtain ⟨b2, o2, c2, rfl, -, -⟩ := h2
  clear hb
  have HMT := HM
  replace HM := Lib.hid HMT.out.re
  go_wp2_with (first
    | (refine wpm_box HM rfl 74 (.tmp 4) rfl (run0 (.slice (some ⟨w.heap.size, 0, none⟩) 771 771) (.slice (some ⟨b1, o1, none⟩) 33 c1) (.slice (some ⟨b2, o2, none⟩) 33 c2)) (by kernel_rfl) ?_; intro W3 hM; (try simp only [List.cons_append, List.nil_append, List.set_cons_succ, List.set_cons_zero, Nat.reduceAdd] at hM); replace HM := hM; clear hM))
  go_ret
  exact ⟨_, _, _, _, _, cur, rfl, ((H1.out.weak (Q := fun b => (b ≠ W2.heap.size ∧ b ≠ w.heap.size) ∧ ¬ OL [(w.heap.size, cur, 3)] b) (fun b hb hlt => ⟨⟨by omega, fun e => hb.2 ⟨0, cur, 3, by rw [e]; rfl⟩⟩, hb.2⟩)).mem (fun b hb => hb.2) HM.out).weak fun b hb _ => hb.1, ((H2.out.weak (Q := fun b => (b ≠ W2.heap.size ∧ b ≠ w.heap.size) ∧ ¬ OL [(w.heap.size, cur, 3)] b) (fun b hb hlt => ⟨⟨by omega, fun e => hb.2 ⟨0, cur, 3, by rw [e]; rfl⟩⟩, hb.2⟩)).mem (fun b hb => hb.2) HM.out).weak fun b hb _ => hb.1, rfl, HC.out, HMT.out.tr HM.out⟩
end Go.Proofs.Ytgpdknacnmapiaa
