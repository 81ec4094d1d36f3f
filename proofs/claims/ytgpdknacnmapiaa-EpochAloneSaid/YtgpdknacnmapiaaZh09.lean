/-
  Parts of a proof, put together: Nr, St.
-/
import Derived.Test.YtgpdknacnmapiaaZh01
import Derived.Test.YtgpdknacnmapiaaZh02
import Derived.Test.YtgpdknacnmapiaaZh03
import Derived.Test.YtgpdknacnmapiaaZh04
import Derived.Test.YtgpdknacnmapiaaZh05
import Derived.Test.YtgpdknacnmapiaaZh06
import Derived.Test.YtgpdknacnmapiaaZh07
import Derived.Test.YtgpdknacnmapiaaZh08
import Derived.Laws.MakeOwn
namespace Go.Proofs.Ytgpdknacnmapiaa
set_option linter.unusedVariables false
set_option linter.unusedSimpArgs false
open Go.RowKit
theorem node1_r (j : Nat) (w : World) (hj : j < 160) : Calls Try.prog 58 #[.int .i64 j, .int .i64 1] w fun e w' => e = .returned (.int .i64 (291 + 3 * j + 1)) ∧ w' = w := by
  have HI := Lib.hid (in_r 291 3 j 160 w (by omega) (by omega) (by omega))
  rw [if_neg (by omega)] at HI
  have d0 : decide ((291 + 3 * (j : Int)) < 0) = false := by simp; omega
  go_enter Try.func58, Try.ntmps58
  go_wp2_with fail
  refine HI.out.mono ?_
  rintro e w1 ⟨rfl, rfl⟩
  go_wp2_with fail
  go_ret
  exact ⟨rfl, rfl⟩
/-- the first cells of a world, j of the nodes' made -/
def newL (J : Nat) : List Int := (List.range 771).map fun k => if k = 1 then 1 else if 292 ≤ k ∧ (k - 292) % 3 = 0 ∧ (k - 292) / 3 < J then -1 else 0
theorem newL_len (J : Nat) : (newL J).length = 771 := by simp [newL]
theorem newL_get (J k : Nat) (hk : k < 771) : (newL J)[k]? = some (if k = 1 then 1 else if 292 ≤ k ∧ (k - 292) % 3 = 0 ∧ (k - 292) / 3 < J then -1 else 0) := by
  unfold newL; rw [List.getElem?_map, List.getElem?_range hk]; rfl
theorem newL_fit (J : Nat) : ∀ x ∈ newL J, -1152921504606846976 ≤ x ∧ x ≤ 1152921504606846976 := by
  intro x hx
  obtain ⟨k, _, rfl⟩ := List.mem_map.1 hx
  split
  · omega
  · split <;> omega
theorem newL_set (J : Nat) (hJ : J < 160) : (newL J).set (292 + 3 * J) (-1) = newL (J + 1) := by
  apply List.ext_getElem?
  intro k
  rw [List.getElem?_set]
  by_cases hk : k < 771
  · rw [newL_get _ _ hk, newL_get _ _ hk, newL_len]
    by_cases e : 292 + 3 * J = k
    · subst e
      rw [if_pos rfl, if_pos (by omega), if_neg (by omega), if_pos (by omega)]
    · rw [if_neg e]
      by_cases h1 : k = 1
      · rw [if_pos h1, if_pos h1]
      · rw [if_neg h1, if_neg h1]
        by_cases h2 : 292 ≤ k ∧ (k - 292) % 3 = 0 ∧ (k - 292) / 3 < J
        · rw [if_pos h2, if_pos (by omega)]
        · rw [if_neg h2, if_neg (by omega)]
  · rw [if_neg (by omega), List.getElem?_eq_none (by rw [newL_len]; omega), List.getElem?_eq_none (by rw [newL_len]; omega)]
theorem made3 : curOK ((madeCells #[.int .i64 0] 771).setIfInBounds 1 (.int .i64 1)) (newL 0) := by
  intro i x hx
  have hi : i < 771 := by have := (List.getElem?_eq_some_iff.1 hx).1; rwa [newL_len] at this
  rw [newL_get _ _ hi] at hx
  rw [Array.getElem?_setIfInBounds, size_madeCells]
  by_cases e : i = 1
  · subst e; rw [if_pos rfl] at hx; rw [if_pos rfl, if_pos (by omega)]; injection hx with hx; rw [← hx]
  · rw [if_neg e, if_neg (by omega)] at hx
    rw [if_neg (fun h => e h.symm)]
    injection hx with hx
    subst hx
    simp [madeCells, hi, Nat.mod_one]
def sec0 : Array Value := #[.int .i64 0, .string ByteArray.empty]
theorem made135 (i : Nat) (hi : i < 33) : (madeCells sec0 66)[i * 2]? = some (.int .i64 0) ∧ (madeCells sec0 66)[i * 2 + 1]? = some (.string ByteArray.empty) := by
  have h1 : i * 2 < 66 := by omega
  have h2 : i * 2 + 1 < 66 := by omega
  constructor
  · simp [madeCells, h1, sec0]
  · simp [madeCells, h2, sec0, Nat.add_mod]
section
variable {X : Nat → Prop} {w0 w : World} {L : List (Nat × Array Value × TypeId)} {ops : Array Oper} {rest : List Oper} {o : Oper} {a : Act} {Q : Exit → Act → World → Prop} {K : Act → World → Prop}
theorem wpm_make771 (HM : Hid (Mem X w0 w L)) (hg : o.guard = none) (ho : o.op = .makeSlice 30 (.const (.int .i64 771)) (.const (.int .i64 771)))
    (h : ∀ W, Hid (Mem X w0 W (L ++ [(w.heap.size, madeCells #[.int .i64 0] 771, 3)])) → wpList Try.prog ops Q rest (a.put o.dst (.slice (some ⟨w.heap.size, 0, none⟩) 771 771)) W) : wpList Try.prog ops Q (o :: rest) a w := by
  refine wpList_plain hg fun K hK => ?_
  have hr := run_makeSlice (P := Try.prog) w 30 3 Try.t3 (.int .i64 0) und30 (by kernel_rfl) (by kernel_rfl) .i64 .i64 771 771 (by omega) (by omega) (by decide) (by decide) (by omega)
  unfold Oper.wp execOp
  simp only [ho]
  simp [hr, Sem.run_bind, Act.eval]
  exact hK _ _ (h _ (Lib.hid (HM.out.alloc _ _)))
theorem wpOm_make33 (HM : Hid (Mem X w0 w L)) (ho : o.op = .makeSlice 31 (.const (.int .i64 33)) (.const (.int .i64 33))) (d : Tmp) (hd : o.dst = some d)
    (h : ∀ W, Hid (Mem X w0 W (L ++ [(w.heap.size, madeCells sec0 66, 135)])) → K (a.put (some d) (.slice (some ⟨w.heap.size, 0, none⟩) 33 33)) W) : o.wp Try.prog a w K Q := by
  have hr := run_makeSlice (P := Try.prog) w 31 135 Try.t135 (.agg sec0) Try.underlying31 (by kernel_rfl) (by kernel_rfl) .i64 .i64 33 33 (by omega) (by omega) (by decide) (by decide) (by omega)
  unfold Oper.wp execOp
  simp only [ho]
  simp [hr, Sem.run_bind, Act.eval]
  have h' := h _ (Lib.hid (HM.out.alloc _ _))
  rw [← hd] at h'
  exact h'
end
set_option maxHeartbeats 1000000 in
set_option maxRecDepth 100000 in
theorem new_cells (w : World) : Calls Try.prog 34 #[] w fun e w' => ∃ cur, e = .returned (.slice (some ⟨w.heap.size, 0, none⟩) 771 771) ∧ curOK cur (newL 160) ∧ Mem (fun _ => False) w w' [(w.heap.size, cur, 3)] := by
  have HM := Lib.hid (Mem.start w)
  go_enter Try.func34, Try.ntmps34
  go_wp2_with (first
    | (refine wpm_make771 HM rfl rfl ?_; intro W hM; (try simp only [List.cons_append, List.nil_append, List.set_cons_succ, List.set_cons_zero, Nat.reduceAdd] at hM); replace HM := hM; clear hM)
    | (refine wpm_cell HM rfl 3 (.tmp 5) (.const (.int .i64 1)) rfl Try.sizeOf3 0 1 rfl (.int .i64 1) rfl rfl (.inl ⟨_, _, rfl⟩) (by rw [size_madeCells]; omega) _ rfl ?_; intro W hM; (try simp only [List.cons_append, List.nil_append, List.set_cons_succ, List.set_cons_zero, Nat.reduceAdd] at hM); replace HM := hM; clear hM))
  go_loopw [2] (fun iv wr => ∃ (j : Nat) (cur : Array Value), j ≤ 160 ∧ iv = .int .i64 j ∧ curOK cur (newL j) ∧ Mem (fun _ => False) w wr [(w.heap.size, cur, 3)]) (fun iv _ => 160 - (intOf iv).toNat)
  case atStart => exact ⟨0, _, by omega, rfl, made3, HM.out⟩
  case round =>
    clear HM
    obtain ⟨j, cur, hj, rfl, hcur, hM⟩ := hrel
    have HM := Lib.hid hM
    have HC := Lib.hid hcur
    clear hM hcur
    by_cases hlt : j < 160
    · have d0 : decide ((j : Int) < 160) = true := by simp; omega
      have ek : (291 + 3 * (j : Int) + 1) = ((292 + 3 * j : Nat) : Int) := by omega
      have hk7 : 292 + 3 * j < 771 := by omega
      have HND := Lib.hid (fun w => node1_r j w hlt)
      rw [ek] at HND
      have HSET := Lib.hid (HC.out.set (292 + 3 * j) (-1) (by rw [newL_len]; omega))
      rw [newL_set j hlt] at HSET
      generalize 292 + 3 * j = kk at *
      clear ek
      go_wp2_with fail
      refine (HND.out _).mono ?_
      rintro e W2 ⟨rfl, rfl⟩
      go_wp2_with (first
        | (refine wpm_cell HM rfl 3 (.tmp 13) (.const (.int .i64 (-1))) rfl Try.sizeOf3 0 kk rfl (.int .i64 (-1)) rfl rfl (.inl ⟨_, _, rfl⟩) (Array.getElem?_eq_some_iff.1 (HC.out kk _ (List.getElem?_eq_getElem (by rw [newL_len]; exact hk7)))).1 _ rfl ?_; intro W hM; (try simp only [List.cons_append, List.nil_append, List.set_cons_succ, List.set_cons_zero, Nat.reduceAdd] at hM); replace HM := hM; clear hM))
      go_roundw
      case rel => exact ⟨j + 1, _, hlt, rfl, HSET.out, HM.out⟩
      case measure => simp [intOf]; omega
    · have e : j = 160 := by omega
      subst e
      go_wp2_with fail
      go_ret
      exact ⟨cur, rfl, HC.out, HM.out⟩
theorem inf33 : (Try.prog.info? 33).map (·.size) = some 2 := by kernel_rfl
theorem und33 : ∃ fs, Try.prog.underlying 33 = some (.struct fs) := ⟨_, Try.underlying33⟩
theorem zer33 (w : World) : (zeroValue 33).run Try.prog w = .ok (.agg #[.slice none 0 0, .slice none 0 0]) w := by kernel_rfl
theorem HB.load33 {w : World} {b : Nat} {C : Array Value} (h : HB w b C 33) (hs : C.size = 2) : (loadVar 33 ⟨b, 0, none⟩).run Try.prog w = .ok (.agg C) w := by
  obtain ⟨fs, hu⟩ := und33
  exact run_loadVar_row (P := Try.prog) w b 33 33 C (0, 0) (.struct fs) h hu rfl (by rw [inf33, hs])
set_option maxHeartbeats 1000000 in
set_option maxRecDepth 100000 in
theorem new_disk {P : Nat → Prop} (w : World) (hP : ∀ b, w.heap.size ≤ b → P b) : Calls Try.prog 35 #[] w fun e w' => (∃ d1 d2, e = .returned (.agg #[d1, d2]) ∧ DiskV P w' d1 ∧ DiskV P w' d2) ∧ Below w.heap.size w w' := by
  have HM := Lib.hid (Mem.start w)
  have HP := Lib.hid hP
  clear hP
  go_enter Try.func35, Try.ntmps35
  go_wp2_with (first
    | (refine wpm_al HM rfl 33 rfl _ zer33 ?_; intro W1 hM; (try simp only [List.cons_append, List.nil_append, List.set_cons_succ, List.set_cons_zero, Nat.reduceAdd] at hM); replace HM := hM; clear hM))
  replace HM := Lib.hid HM.out.drew
  have HF : Hid (∀ p ∈ ([] : List (Addr × Value)), World.cell? W1.drew p.1 = some p.2) := Lib.hid (alln _)
  haveI : Inhabited (CW []) := ⟨⟨_, HF.out⟩⟩
  (try simp only [Act.put, List.setIfInBounds_toArray, List.set_cons_succ, List.set_cons_zero])
  refine wp_region_noPanic ?_
  refine wp_region_plw (.step [] (.cons 0 (.step [] (.cons 1 (.step [false, false, true] (.cons 3 (.last []) .nil)) .nil)) (.cons 1 (.step [] (.cons 0 (.step [false, false, true] (.cons 3 (.last []) .nil)) .nil)) .nil))) (fun y => ∃ q : CW [], y = q.1) (by kernel_rfl) (by kernel_rfl) (by kernel_rfl) (fun _ _ _ _ _ _ _ h => h) ⟨⟨_, HF.out⟩, rfl⟩ ?_
  simp only [wpPw, wpBw, selF, and_true]
  generalize W1.drew = V1 at *
  refine wpQuiet_nil ?_
  refine ⟨?_, ?_⟩
  · refine wpOp_step rfl (fun K hK => ?_)
    rw [if_pos (by rfl)]
    refine wpOm_make33 HM rfl 1 rfl ?_
    intro V2 hM
    (try simp only [List.cons_append, List.nil_append, List.set_cons_succ, List.set_cons_zero, Nat.reduceAdd] at hM)
    replace HM := hM
    clear hM
    refine hK _ _ ⟨(fun y => ∃ q : CW [], y = q.1), ⟨⟨_, (alln _)⟩, rfl⟩, fun _ h => h, ?_⟩
    clear hK K
    (try simp only [Act.put, List.setIfInBounds_toArray, List.set_cons_succ, List.set_cons_zero])
    refine wpQuiet_nil ?_
    refine wpOp_step rfl (fun K hK => ?_)
    rw [if_pos (by rfl)]
    refine wpOm_make33 HM rfl 2 rfl ?_
    intro V3 hM
    (try simp only [List.cons_append, List.nil_append, List.set_cons_succ, List.set_cons_zero, Nat.reduceAdd] at hM)
    replace HM := hM
    clear hM
    refine hK _ _ ⟨(fun y => ∃ q : CW [], y = q.1), ⟨⟨_, (alln _)⟩, rfl⟩, fun _ h => h, ?_⟩
    clear hK K
    (try simp only [Act.put, List.setIfInBounds_toArray, List.set_cons_succ, List.set_cons_zero])
    repeat (go_big_quiet_step (fail))
    refine wpQuiet_nil ?_
    refine wpOp_step rfl (fun K hK => ?_)
    rw [if_pos (by rfl)]
    refine wpOm_st HM 33 (.tmp 0) (.tmp 3) rfl rfl 0 rfl #[.slice (some ⟨_, 0, none⟩) 33 33, .slice (some ⟨_, 0, none⟩) 33 33] rfl rfl 2 inf33 rfl rfl (by simp [Value.oneCell']) ?_
    intro V4 hM
    (try simp only [List.cons_append, List.nil_append, List.set_cons_succ, List.set_cons_zero, Nat.reduceAdd] at hM)
    replace HM := hM
    clear hM
    refine hK _ _ ⟨(fun y => ∃ q : CW [], y = q.1), ⟨⟨_, (alln _)⟩, rfl⟩, fun _ h => h, ?_⟩
    clear hK K
    (try simp only [Act.put, List.setIfInBounds_toArray, List.set_cons_succ, List.set_cons_zero])
    refine wpQuiet_nil ?_
    refine NoPanic.normal ?_
    go_wp2_with fail
    (try simp only [Exit.inBlock, Exit.then])
    refine bodyPost_ret (res_c rfl _ _ _ _ rfl ((HM.out.hb 0 _ _ _ rfl).load33 rfl)) rfl ?_
    exact ⟨⟨_, _, rfl, ⟨_, 0, 33, rfl, HP.out _ (by rcases HM.out.st 1 _ _ _ rfl with h | h; exact h.elim; exact h), fun i hi => ⟨(HM.out.hb 1 _ _ _ rfl).cell (by rw [Nat.zero_add]; exact (made135 i hi).1), (HM.out.hb 1 _ _ _ rfl).cell (by rw [Nat.zero_add]; exact (made135 i hi).2)⟩⟩, ⟨_, 0, 33, rfl, HP.out _ (by rcases HM.out.st 2 _ _ _ rfl with h | h; exact h.elim; exact h), fun i hi => ⟨(HM.out.hb 2 _ _ _ rfl).cell (by rw [Nat.zero_add]; exact (made135 i hi).1), (HM.out.hb 2 _ _ _ rfl).cell (by rw [Nat.zero_add]; exact (made135 i hi).2)⟩⟩⟩, HM.out.bel⟩
  · refine wpOp_step rfl (fun K hK => ?_)
    rw [if_pos (by rfl)]
    refine wpOm_make33 HM rfl 2 rfl ?_
    intro V5 hM
    (try simp only [List.cons_append, List.nil_append, List.set_cons_succ, List.set_cons_zero, Nat.reduceAdd] at hM)
    replace HM := hM
    clear hM
    refine hK _ _ ⟨(fun y => ∃ q : CW [], y = q.1), ⟨⟨_, (alln _)⟩, rfl⟩, fun _ h => h, ?_⟩
    clear hK K
    (try simp only [Act.put, List.setIfInBounds_toArray, List.set_cons_succ, List.set_cons_zero])
    refine wpQuiet_nil ?_
    refine wpOp_step rfl (fun K hK => ?_)
    rw [if_pos (by rfl)]
    refine wpOm_make33 HM rfl 1 rfl ?_
    intro V6 hM
    (try simp only [List.cons_append, List.nil_append, List.set_cons_succ, List.set_cons_zero, Nat.reduceAdd] at hM)
    replace HM := hM
    clear hM
    refine hK _ _ ⟨(fun y => ∃ q : CW [], y = q.1), ⟨⟨_, (alln _)⟩, rfl⟩, fun _ h => h, ?_⟩
    clear hK K
    (try simp only [Act.put, List.setIfInBounds_toArray, List.set_cons_succ, List.set_cons_zero])
    repeat (go_big_quiet_step (fail))
    refine wpQuiet_nil ?_
    refine wpOp_step rfl (fun K hK => ?_)
    rw [if_pos (by rfl)]
    refine wpOm_st HM 33 (.tmp 0) (.tmp 3) rfl rfl 0 rfl #[.slice (some ⟨_, 0, none⟩) 33 33, .slice (some ⟨_, 0, none⟩) 33 33] rfl rfl 2 inf33 rfl rfl (by simp [Value.oneCell']) ?_
    intro V7 hM
    (try simp only [List.cons_append, List.nil_append, List.set_cons_succ, List.set_cons_zero, Nat.reduceAdd] at hM)
    replace HM := hM
    clear hM
    refine hK _ _ ⟨(fun y => ∃ q : CW [], y = q.1), ⟨⟨_, (alln _)⟩, rfl⟩, fun _ h => h, ?_⟩
    clear hK K
    (try simp only [Act.put, List.setIfInBounds_toArray, List.set_cons_succ, List.set_cons_zero])
    refine wpQuiet_nil ?_
    refine NoPanic.normal ?_
    go_wp2_with fail
    (try simp only [Exit.inBlock, Exit.then])
    refine bodyPost_ret (res_c rfl _ _ _ _ rfl ((HM.out.hb 0 _ _ _ rfl).load33 rfl)) rfl ?_
    exact ⟨⟨_, _, rfl, ⟨_, 0, 33, rfl, HP.out _ (by rcases HM.out.st 2 _ _ _ rfl with h | h; exact h.elim; exact h), fun i hi => ⟨(HM.out.hb 2 _ _ _ rfl).cell (by rw [Nat.zero_add]; exact (made135 i hi).1), (HM.out.hb 2 _ _ _ rfl).cell (by rw [Nat.zero_add]; exact (made135 i hi).2)⟩⟩, ⟨_, 0, 33, rfl, HP.out _ (by rcases HM.out.st 1 _ _ _ rfl with h | h; exact h.elim; exact h), fun i hi => ⟨(HM.out.hb 1 _ _ _ rfl).cell (by rw [Nat.zero_add]; exact (made135 i hi).1), (HM.out.hb 1 _ _ _ rfl).cell (by rw [Nat.zero_add]; exact (made135 i hi).2)⟩⟩⟩, HM.out.bel⟩
def zt : Array Value := tkC 0 (.slice none 0 0) (.slice none 0 0) false
def rs0 (cv d1 d2 : Value) : RS := ⟨fun j => if j = 0 then cv else if j = 1 then d1 else d2, fun _ => zt, fun _ => zt, fun _ => false⟩
def run0 (cv d1 d2 : Value) : Array Value := #[cv, d1, d2, .int .i64 0, .slice none 0 0, .slice none 0 0, .bool false, .int .i64 0, .slice none 0 0, .slice none 0 0, .bool false, .int .i64 0, .slice none 0 0, .slice none 0 0, .bool false, .int .i64 0, .slice none 0 0, .slice none 0 0, .bool false, .int .i64 0, .slice none 0 0, .slice none 0 0, .bool false, .int .i64 0, .slice none 0 0, .slice none 0 0, .bool false, .int .i64 0, .slice none 0 0, .slice none 0 0, .bool false, .int .i64 0, .slice none 0 0, .slice none 0 0, .bool false, .bool false, .bool false, .bool false, .bool false]
theorem run0_ok (cv d1 d2 : Value) : RunA (run0 cv d1 d2) (rs0 cv d1 d2) := by
  refine ⟨rfl, fun j hj => ?_, fun c j hc hj => ?_, fun c j hc hj => ?_, fun c hc => ?_⟩
  · match j, hj with
    | 0, _ => rfl
    | 1, _ => rfl
    | 2, _ => rfl
  · rcases (by omega : c = 0 ∨ c = 1 ∨ c = 2 ∨ c = 3) with rfl | rfl | rfl | rfl <;> rcases (by omega : j = 0 ∨ j = 1 ∨ j = 2 ∨ j = 3) with rfl | rfl | rfl | rfl <;> rfl
  · rcases (by omega : c = 0 ∨ c = 1 ∨ c = 2 ∨ c = 3) with rfl | rfl | rfl | rfl <;> rcases (by omega : j = 0 ∨ j = 1 ∨ j = 2 ∨ j = 3) with rfl | rfl | rfl | rfl <;> rfl
  · match c, hc with
    | 0, _ => rfl
    | 1, _ => rfl
    | 2, _ => rfl
    | 3, _ => rfl
end Go.Proofs.Ytgpdknacnmapiaa
namespace Go.Proofs.Ytgpdknacnmapiaa
set_option linter.unusedVariables false
set_option linter.unusedSimpArgs false
open Go.RowKit
/-- what a step leaves: the world's cells, the client's tasks -/
def StepE (P : Nat → Prop) (R c : Nat) (s : RS) (f : Fr) (g : Fr) (y : Int) (l : List Int) (over : Bool) (w w' : World) : Prop :=
  ∃ C' T U cv, Mem (fun b => b = R) w w' [(R, C', 74)] ∧ RunA C' (if over = true then (((s.setW fun j => if j = 0 then cv else s.w j).setM c T).setH c U).setB c false else ((s.setW fun j => if j = 0 then cv else s.w j).setM c T).setH c U) ∧ CellsV P w' cv l ∧ DiskV P w' (s.w 1) ∧ DiskV P w' (s.w 2) ∧ Live P w' T c f y ∧ Live P w' U c g y
/-- numbers in blocks of a kind -/
def IntsP (P : Nat → Prop) (w : World) (v : Value) (l : List Int) : Prop := ∃ ao cap, v = .slice ao l.length cap ∧ l.length ≤ cap ∧ ∀ (i : Nat) (x : Int), l[i]? = some x → ∃ b off, ao = some ⟨b, off, none⟩ ∧ P b ∧ w.cell? ⟨b, off + i, none⟩ = some (.int .i64 x)
theorem Dead.intsP {P : Nat → Prop} {W : World} {c c' : Int} {s : Value} {ga : Option Addr} {n gc : Nat} {y : Bool} {l : List Int} (h : Dead P W (tkC c s (.slice ga n gc) y) c' l) : IntsP P W (.slice ga n gc) l := by
  obtain ⟨sao, scap, gv, e, gao, gcap, rfl, h1, h2, h3⟩ := h
  simp only [tkC, Array.mk.injEq, List.cons.injEq, Value.slice.injEq] at e
  obtain ⟨-, -, ⟨rfl, rfl, rfl⟩, -, -⟩ := e
  exact ⟨_, _, rfl, h1, h3⟩
theorem Dead.ints {P : Nat → Prop} {W : World} {c c' : Int} {s : Value} {ga : Option Addr} {n gc : Nat} {y : Bool} {l : List Int} (h : Dead P W (tkC c s (.slice ga n gc) y) c' l) : Ints 0 W (.slice ga n gc) l := by
  obtain ⟨sao, scap, gv, e, gao, gcap, rfl, h1, h2, h3⟩ := h
  simp only [tkC, Array.mk.injEq, List.cons.injEq, Value.slice.injEq] at e
  obtain ⟨-, -, ⟨rfl, rfl, rfl⟩, -, -⟩ := e
  refine ⟨_, _, rfl, h1, fun i x hx => ?_⟩
  obtain ⟨b, off, e1, e2, e3⟩ := h3 i x hx
  exact ⟨b, off, e1, Nat.zero_le _, e3⟩
theorem res_ttt {fn : Func} {p q r : Tmp} (h : fn.results = #[.tmp p, .tmp q, .tmp r]) (tmps : Array Value) (w : World) (v u u2 : Value) (hp : tmps.getD p undef = v) (hq : tmps.getD q undef = u) (hr : tmps.getD r undef = u2) : (results fn tmps).run Try.prog w = .ok (.tuple #[v, u, u2]) w := by
  have hp' : tmps[p]?.getD undef = v := by simpa using hp
  have hq' : tmps[q]?.getD undef = u := by simpa using hq
  have hr' : tmps[r]?.getD undef = u2 := by simpa using hr
  simp [results, h, hp', hq', hr']
theorem ints0 (B : Nat) (w : World) (ao : Option Addr) (ac : Nat) : Ints B w (.slice ao 0 ac) [] := ⟨ao, ac, rfl, Nat.zero_le _, fun i x hx => by simp at hx⟩
end Go.Proofs.Ytgpdknacnmapiaa
