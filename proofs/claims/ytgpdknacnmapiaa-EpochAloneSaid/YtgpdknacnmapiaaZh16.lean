/-
  Parts of a proof, put together: Px, Ep.
-/
import Derived.Test.YtgpdknacnmapiaaZh01
import Derived.Test.YtgpdknacnmapiaaZh02
import Derived.Test.YtgpdknacnmapiaaZh03
import Derived.Test.YtgpdknacnmapiaaZh04
import Derived.Test.YtgpdknacnmapiaaZh05
import Derived.Test.YtgpdknacnmapiaaZh06
import Derived.Test.YtgpdknacnmapiaaZh07
import Derived.Test.YtgpdknacnmapiaaZh08
import Derived.Test.YtgpdknacnmapiaaZh09
import Derived.Test.YtgpdknacnmapiaaZh10
import Derived.Test.YtgpdknacnmapiaaZh11
import Derived.Test.YtgpdknacnmapiaaZh12
import Derived.Test.YtgpdknacnmapiaaZh13
import Derived.Test.YtgpdknacnmapiaaZh14
import Derived.Test.YtgpdknacnmapiaaZh15
import Derived.Deep.QuietTactic
namespace Go.Proofs.Ytgpdknacnmapiaa
set_option linter.unusedVariables false
set_option linter.unusedSimpArgs false
open Go.RowKit
open Go
theorem Mem.wx {X Y : Nat → Prop} {w W : World} {L : List (Nat × Array Value × TypeId)} (h : Mem X w W L) (hxy : ∀ b, X b → Y b) : Mem Y w W L :=
  ⟨h.os, h.tape, h.output, h.size, fun k hk hx => h.old k hk (fun e => hx (hxy k e)), h.hb, fun i b C t hi => (h.st i b C t hi).imp (hxy b) id, h.nd⟩
section
variable {X : Nat → Prop} {w0 w : World} {L : List (Nat × Array Value × TypeId)} {o : Oper} {a : Act} {Q : Exit → Act → World → Prop} {K : Act → World → Prop}
theorem wpOm_ldc (HM : Hid (Mem X w0 w L)) (ty : TypeId) (x : Operand) (ho : o.op = .load ty x) (d : Tmp) (hd : o.dst = some d) (hl : ∀ (w : World) (ad : Addr) (v : Value), w.cell? ad = some v → (loadVar ty ad).run Try.prog w = .ok v w) (i k : Nat) {b : Nat} {C : Array Value} {t : TypeId} (hi : L[i]? = some (b, C, t)) (hx : a.eval x = .pointer (some ⟨b, k, none⟩)) (v : Value) (hv : C[k]? = some v)
    (h : K (a.put (some d) v) w) : o.wp Try.prog a w K Q := by
  have hr := hl w _ v ((HM.out.hb i b C t hi).cell hv)
  rw [← hd] at h
  unfold Oper.wp execOp
  simp only [ho, hx, Instr.loadAt, Instr.sureAddr, Sem.run_bind, Sem.run_pure, Result.andThen_ok, hr]
  exact h
theorem run_bsI1 (x : Int) (w : World) : (Instr.buildSlice 30 1 #[(0, .int .i64 x)]).run Try.prog w = .ok (.slice (some ⟨w.heap.size, 0, none⟩) 1 1) (w.alloc (.cells #[.int .i64 x] 3)) := by kernel_rfl
end
/-- blocks that were there stay nobody's own -/
theorem PH.set {R H n : Nat} {h : HV} {i0 : Nat} {v : Value} (hob : v.ownBlock = (h.sl i0).ownBlock ∨ ∀ b, v.ownBlock = some b → n ≤ b) (hi0 : i0 < 8) : ∀ b, PH R H h b → b < n → PH R H (h.setS i0 v) b := fun b hb hlt => ⟨hb.1, hb.2.1, fun i hi => by
  simp only [HV.setS, upd]
  by_cases e : i = i0
  · rw [if_pos e]
    rcases hob with h1 | h1
    · rw [h1]; exact hb.2.2 i0 hi0
    · intro e2; have := h1 b e2; omega
  · rw [if_neg e]; exact hb.2.2 i hi⟩
end Go.Proofs.Ytgpdknacnmapiaa
namespace Go.Proofs.Ytgpdknacnmapiaa
set_option linter.unusedVariables false
set_option linter.unusedSimpArgs false
open Go.RowKit
/-- a program on its way, of epochs: the frame, what came, its first -/
def pgG (f : Fr) (gv : Value) (x : Int) : Array Value := (f.cells.push gv).push (.int .i64 x)
theorem pgG_size (f : Fr) (gv : Value) (x : Int) : (pgG f gv x).size = 100 := by simp [pgG, Fr.size]
theorem pgG_get (f : Fr) (gv : Value) (x : Int) (k : Nat) (h : k < 98) : (pgG f gv x)[k]? = f.cells[k]? := by
  unfold pgG; rw [Array.getElem?_push, if_neg (by simp [Fr.size]; omega), Array.getElem?_push, if_neg (by rw [Fr.size]; omega)]
theorem pgG_x (f : Fr) (gv : Value) (x : Int) : (pgG f gv x)[99]? = some (.int .i64 x) := by
  unfold pgG; rw [Array.getElem?_push, if_pos (by simp [Fr.size])]
theorem pgG_sub (f : Fr) (gv : Value) (x : Int) : ∀ (j : Nat) (v : Value), f.cells[j]? = some v → (pgG f gv x)[0 + j]? = some v := fun j v hv => by
  have : j < 98 := by have := (Array.getElem?_eq_some_iff.1 hv).1; rwa [Fr.size] at this
  rw [Nat.zero_add, pgG_get _ _ _ _ this]; exact hv
theorem pgG_set (f : Fr) (gv : Value) (x : Int) (k : Nat) (h : k < 98) (v : Value) : (pgG f gv x).setIfInBounds k v = ((f.cells.setIfInBounds k v).push gv).push (.int .i64 x) := by
  apply Array.ext_getElem?
  intro j
  unfold pgG
  simp only [Array.getElem?_setIfInBounds, Array.getElem?_push, Array.size_push, Array.size_setIfInBounds, Fr.size]
  by_cases h1 : k = j
  · subst h1; rw [if_pos rfl, if_pos (by omega), if_neg (by omega), if_neg (by omega), if_pos rfl, if_pos (by omega)]
  · rw [if_neg h1, if_neg h1]
theorem pgG_set1 (f : Fr) (gv : Value) (x n : Int) : (pgG f gv x).setIfInBounds 1 (.int .i64 n) = pgG (f.at_ n) gv x := by rw [pgG_set _ _ _ _ (by omega), Fr.set1]; rfl
theorem pgG_setr (f : Fr) (gv : Value) (x : Int) (i : Nat) (hi : i < 96) (n : Int) : (pgG f gv x).setIfInBounds (2 + i) (.int .i64 n) = pgG (f.reg i n) gv x := by rw [pgG_set _ _ _ _ (by omega), Fr.setr _ _ hi]; rfl
theorem pgG_setx (f : Fr) (gv : Value) (x y : Int) : (pgG f gv x).setIfInBounds 99 (.int .i64 y) = pgG f gv y := by
  apply Array.ext_getElem?
  intro j
  unfold pgG
  simp only [Array.getElem?_setIfInBounds, Array.getElem?_push, Array.size_push, Fr.size]
  by_cases h1 : 99 = j
  · subst h1; rw [if_pos rfl, if_pos (by omega), if_pos rfl]
  · rw [if_neg h1]
    by_cases h2 : j = 98 + 1
    · omega
    · rw [if_neg h2, if_neg h2]
theorem pgG_r (f : Fr) (gv : Value) (x : Int) (i : Nat) (hi : i < 96) : (pgG f gv x)[2 + i]? = some (.int .i64 (f.r i)) := by rw [pgG_get _ _ _ _ (by omega)]; exact f.cr i hi
/-- a method's answer: a frame and an action; its program's block -/
def MethP (b : Nat) (gv : Value) (x : Int) (w w' : World) (e : Ending) (f : Fr) (k a bb v : Int) (l : List Int) : Prop :=
  AnsB w w' e f k a bb v l ∧ Mem (fun k => k = b) w w' [(b, pgG f gv x, 127)]
section
variable {X : Nat → Prop} {w0 w : World} {L : List (Nat × Array Value × TypeId)} {o : Oper} {a : Act} {Q : Exit → Act → World → Prop} {K : Act → World → Prop}
theorem wpOm_ldm (HM : Hid (Mem X w0 w L)) (t : TypeId) (x : Operand) (ho : o.op = .load t x) (d : Tmp) (hd : o.dst = some d) (i p : Nat) {b : Nat} {C : Array Value} {t0 : TypeId} (hi : L[i]? = some (b, C, t0)) (hx : a.eval x = .pointer (some ⟨b, p, none⟩)) (S : Array Value) (hS : ∀ (j : Nat) (v : Value), S[j]? = some v → C[p + j]? = some v) (n : Nat) (hu : ∃ fs, Try.prog.underlying t = some (.struct fs)) (hn : (Try.prog.info? t).map (·.size) = some n) (hs : S.size = n)
    (h : K (a.put (some d) (.agg S)) w) : o.wp Try.prog a w K Q := by
  obtain ⟨fs, hu⟩ := hu
  exact wp_load_mid t x ho b p hx S.toList (.struct fs) (fun j v hv => (HM.out.hb i b C t0 hi).cell (hS j v (by simpa using hv))) hu rfl (by rw [hn]; simp [hs]) (by rw [hd]; simpa using h)
end
theorem mem_one {R : Nat} {C' : Array Value} {t : TypeId} {w w' : World} {L : List (Nat × Array Value × TypeId)} (h : Mem (fun b => b = R) w w' ((R, C', t) :: L)) : Mem (fun b => b = R) w w' [(R, C', t)] :=
  h.sub (fun i e hi => by match i, hi with | 0, hi => exact hi | i + 1, hi => simp at hi)
theorem res_cc {fn : Func} {p q : Tmp} {ty ty2 : TypeId} (h : fn.results = #[.cell p ty, .cell q ty2]) (tmps : Array Value) (w : World) (b b2 : Nat) (v u : Value) (hp : tmps.getD p undef = .pointer (some ⟨b, 0, none⟩)) (hq : tmps.getD q undef = .pointer (some ⟨b2, 0, none⟩))
    (hl : (loadVar ty ⟨b, 0, none⟩).run Try.prog w = .ok v w) (hl2 : (loadVar ty2 ⟨b2, 0, none⟩).run Try.prog w = .ok u w) : (results fn tmps).run Try.prog w = .ok (.tuple #[v, u]) w := by
  have hp' : tmps[p]?.getD undef = .pointer (some ⟨b, 0, none⟩) := by simpa using hp
  have hq' : tmps[q]?.getD undef = .pointer (some ⟨b2, 0, none⟩) := by simpa using hq
  simp [results, h, hp', hq', asAddr, hl, hl2]
set_option maxHeartbeats 2000000 in
set_option maxRecDepth 100000 in
theorem then13 (b : Nat) (f : Fr) (gv : Value) (x : Int) (n : Int) (k a bb v : Int) (ao : Option Addr) (ac : Nat) (w : World) (hb : HB w b (pgG f gv x) 127) : Calls Try.prog 105 #[.pointer (some ⟨b, 0, none⟩), .int .i64 n, .agg (acC k a bb v 0 (.slice ao 0 ac))] w fun e w' => MethP b gv x w w' e (f.at_ n) k a bb v [] := by
  have HM := Lib.hid (Mem.startR hb)
  clear hb
  go_enter Try.func105, Try.ntmps105
  go_wp2_with (first
    | (refine wpm_box HM rfl 59 (.tmp 2) rfl _ rfl ?_; intro W hM; (try simp only [List.cons_append, List.nil_append, List.set_cons_succ, List.set_cons_zero, Nat.reduceAdd] at hM); replace HM := hM; clear hM)
    | (refine wpm_al57 HM rfl rfl ?_; intro W hM; (try simp only [List.cons_append, List.nil_append, List.set_cons_succ, List.set_cons_zero, Nat.reduceAdd] at hM); replace HM := hM; clear hM)
    | (refine wpm_al59 HM rfl rfl ?_; intro W hM; (try simp only [List.cons_append, List.nil_append, List.set_cons_succ, List.set_cons_zero, Nat.reduceAdd] at hM); replace HM := hM; clear hM)
    | (refine wpm_cell HM rfl 3 (.tmp 12) (.tmp 9) rfl Try.sizeOf3 0 1 rfl (.int .i64 n) rfl rfl (.inl ⟨_, _, rfl⟩) (by rw [pgG_size]; omega) (pgG (f.at_ n) gv x) (pgG_set1 f gv x n) ?_; intro W4 hM; (try simp only [List.cons_append, List.nil_append, List.set_cons_succ, List.set_cons_zero, Nat.reduceAdd] at hM); replace HM := hM; clear hM))
  replace HM := Lib.hid HM.out.drew
  have HF : Hid (∀ p ∈ ([] : List (Addr × Value)), World.cell? W4.drew p.1 = some p.2) := Lib.hid (alln _)
  haveI : Inhabited (CW []) := ⟨⟨_, HF.out⟩⟩
  (try simp only [Act.put, List.setIfInBounds_toArray, List.set_cons_succ, List.set_cons_zero])
  refine wp_region_noPanic ?_
  refine wp_region_plw (.step [true, true, true] (.cons 3 (.step [] (.cons 4 (.step [] (.cons 5 (.step [] (.cons 6 (.last []) .nil)) .nil)) (.cons 5 (.step [] (.cons 4 (.step [] (.cons 6 (.last []) .nil)) .nil)) .nil))) (.cons 4 (.step [] (.cons 3 (.step [] (.cons 5 (.step [] (.cons 6 (.last []) .nil)) .nil)) .nil)) .nil))) (fun y => ∃ q : CW [], y = q.1) (by kernel_rfl) (by kernel_rfl) (by kernel_rfl) (fun _ _ _ _ _ _ _ h => h) ⟨⟨_, HF.out⟩, rfl⟩ ?_
  simp only [wpPw, wpBw, selF, and_true]
  generalize W4.drew = V1 at *
  repeat (go_big_quiet_step (fail))
  refine wpQuiet_nil ?_
  refine ⟨?_, ?_⟩
  · refine wpOp_step rfl (fun K hK => ?_)
    rw [if_pos (by rfl)]
    refine wpOm_ldm HM 57 (.tmp 15) rfl 16 rfl 0 0 rfl rfl (f.at_ n).cells (pgG_sub _ _ _) 98 und57 inf57 (Fr.size _) ?_
    refine hK _ _ ⟨(fun y => ∃ q : CW [], y = q.1), ⟨⟨_, (alln _)⟩, rfl⟩, fun _ h => h, ?_⟩
    clear hK K
    (try simp only [Act.put, List.setIfInBounds_toArray, List.set_cons_succ, List.set_cons_zero])
    refine wpQuiet_nil ?_
    refine ⟨?_, ?_⟩
    · refine wpOp_step rfl (fun K hK => ?_)
      rw [if_pos (by rfl)]
      refine wpOm_ld HM 59 (.tmp 5) rfl 17 rfl 1 rfl rfl 7 und59 inf59 rfl ?_
      refine hK _ _ ⟨(fun y => ∃ q : CW [], y = q.1), ⟨⟨_, (alln _)⟩, rfl⟩, fun _ h => h, ?_⟩
      clear hK K
      (try simp only [Act.put, List.setIfInBounds_toArray, List.set_cons_succ, List.set_cons_zero])
      refine wpQuiet_nil ?_
      refine wpOp_step rfl (fun K hK => ?_)
      rw [if_pos (by rfl)]
      refine wpOm_st HM 57 (.tmp 6) (.tmp 16) rfl rfl 2 rfl (f.at_ n).cells rfl rfl 98 inf57 (Fr.size _) (Fr.size _) (Fr.one _) ?_
      intro V2 hM
      (try simp only [List.cons_append, List.nil_append, List.set_cons_succ, List.set_cons_zero, Nat.reduceAdd] at hM)
      replace HM := hM
      clear hM
      refine hK _ _ ⟨(fun y => ∃ q : CW [], y = q.1), ⟨⟨_, (alln _)⟩, rfl⟩, fun _ h => h, ?_⟩
      clear hK K
      (try simp only [Act.put, List.setIfInBounds_toArray, List.set_cons_succ, List.set_cons_zero])
      refine wpQuiet_nil ?_
      refine wpOp_step rfl (fun K hK => ?_)
      rw [if_pos (by rfl)]
      refine wpOm_st HM 59 (.tmp 7) (.tmp 17) rfl rfl 3 rfl (acC k a bb v 0 (.slice ao 0 ac)) rfl rfl 7 inf59 rfl rfl (acC_one _ _ _ _ _ _ _ _) ?_
      intro V3 hM
      (try simp only [List.cons_append, List.nil_append, List.set_cons_succ, List.set_cons_zero, Nat.reduceAdd] at hM)
      replace HM := hM
      clear hM
      refine hK _ _ ⟨(fun y => ∃ q : CW [], y = q.1), ⟨⟨_, (alln _)⟩, rfl⟩, fun _ h => h, ?_⟩
      clear hK K
      (try simp only [Act.put, List.setIfInBounds_toArray, List.set_cons_succ, List.set_cons_zero])
      refine wpQuiet_nil ?_
      refine NoPanic.normal ?_
      go_wp2_with fail
      (try simp only [Exit.inBlock, Exit.then])
      refine bodyPost_ret (res_cc rfl _ _ _ _ _ _ rfl rfl ((HM.out.hb 2 _ _ _ rfl).load57) ((HM.out.hb 3 _ _ _ rfl).load59 rfl)) rfl ?_
      exact ⟨⟨_, _, _, rfl, ints0 _ _ _ _⟩, mem_one HM.out⟩
    · refine wpOp_step rfl (fun K hK => ?_)
      rw [if_pos (by rfl)]
      refine wpOm_st HM 57 (.tmp 6) (.tmp 16) rfl rfl 2 rfl (f.at_ n).cells rfl rfl 98 inf57 (Fr.size _) (Fr.size _) (Fr.one _) ?_
      intro V4 hM
      (try simp only [List.cons_append, List.nil_append, List.set_cons_succ, List.set_cons_zero, Nat.reduceAdd] at hM)
      replace HM := hM
      clear hM
      refine hK _ _ ⟨(fun y => ∃ q : CW [], y = q.1), ⟨⟨_, (alln _)⟩, rfl⟩, fun _ h => h, ?_⟩
      clear hK K
      (try simp only [Act.put, List.setIfInBounds_toArray, List.set_cons_succ, List.set_cons_zero])
      refine wpQuiet_nil ?_
      refine wpOp_step rfl (fun K hK => ?_)
      rw [if_pos (by rfl)]
      refine wpOm_ld HM 59 (.tmp 5) rfl 17 rfl 1 rfl rfl 7 und59 inf59 rfl ?_
      refine hK _ _ ⟨(fun y => ∃ q : CW [], y = q.1), ⟨⟨_, (alln _)⟩, rfl⟩, fun _ h => h, ?_⟩
      clear hK K
      (try simp only [Act.put, List.setIfInBounds_toArray, List.set_cons_succ, List.set_cons_zero])
      refine wpQuiet_nil ?_
      refine wpOp_step rfl (fun K hK => ?_)
      rw [if_pos (by rfl)]
      refine wpOm_st HM 59 (.tmp 7) (.tmp 17) rfl rfl 3 rfl (acC k a bb v 0 (.slice ao 0 ac)) rfl rfl 7 inf59 rfl rfl (acC_one _ _ _ _ _ _ _ _) ?_
      intro V5 hM
      (try simp only [List.cons_append, List.nil_append, List.set_cons_succ, List.set_cons_zero, Nat.reduceAdd] at hM)
      replace HM := hM
      clear hM
      refine hK _ _ ⟨(fun y => ∃ q : CW [], y = q.1), ⟨⟨_, (alln _)⟩, rfl⟩, fun _ h => h, ?_⟩
      clear hK K
      (try simp only [Act.put, List.setIfInBounds_toArray, List.set_cons_succ, List.set_cons_zero])
      refine wpQuiet_nil ?_
      refine NoPanic.normal ?_
      go_wp2_with fail
      (try simp only [Exit.inBlock, Exit.then])
      refine bodyPost_ret (res_cc rfl _ _ _ _ _ _ rfl rfl ((HM.out.hb 2 _ _ _ rfl).load57) ((HM.out.hb 3 _ _ _ rfl).load59 rfl)) rfl ?_
      exact ⟨⟨_, _, _, rfl, ints0 _ _ _ _⟩, mem_one HM.out⟩
  · refine wpOp_step rfl (fun K hK => ?_)
    rw [if_pos (by rfl)]
    refine wpOm_ld HM 59 (.tmp 5) rfl 17 rfl 1 rfl rfl 7 und59 inf59 rfl ?_
    refine hK _ _ ⟨(fun y => ∃ q : CW [], y = q.1), ⟨⟨_, (alln _)⟩, rfl⟩, fun _ h => h, ?_⟩
    clear hK K
    (try simp only [Act.put, List.setIfInBounds_toArray, List.set_cons_succ, List.set_cons_zero])
    refine wpQuiet_nil ?_
    refine wpOp_step rfl (fun K hK => ?_)
    rw [if_pos (by rfl)]
    refine wpOm_ldm HM 57 (.tmp 15) rfl 16 rfl 0 0 rfl rfl (f.at_ n).cells (pgG_sub _ _ _) 98 und57 inf57 (Fr.size _) ?_
    refine hK _ _ ⟨(fun y => ∃ q : CW [], y = q.1), ⟨⟨_, (alln _)⟩, rfl⟩, fun _ h => h, ?_⟩
    clear hK K
    (try simp only [Act.put, List.setIfInBounds_toArray, List.set_cons_succ, List.set_cons_zero])
    refine wpQuiet_nil ?_
    refine wpOp_step rfl (fun K hK => ?_)
    rw [if_pos (by rfl)]
    refine wpOm_st HM 57 (.tmp 6) (.tmp 16) rfl rfl 2 rfl (f.at_ n).cells rfl rfl 98 inf57 (Fr.size _) (Fr.size _) (Fr.one _) ?_
    intro V6 hM
    (try simp only [List.cons_append, List.nil_append, List.set_cons_succ, List.set_cons_zero, Nat.reduceAdd] at hM)
    replace HM := hM
    clear hM
    refine hK _ _ ⟨(fun y => ∃ q : CW [], y = q.1), ⟨⟨_, (alln _)⟩, rfl⟩, fun _ h => h, ?_⟩
    clear hK K
    (try simp only [Act.put, List.setIfInBounds_toArray, List.set_cons_succ, List.set_cons_zero])
    refine wpQuiet_nil ?_
    refine wpOp_step rfl (fun K hK => ?_)
    rw [if_pos (by rfl)]
    refine wpOm_st HM 59 (.tmp 7) (.tmp 17) rfl rfl 3 rfl (acC k a bb v 0 (.slice ao 0 ac)) rfl rfl 7 inf59 rfl rfl (acC_one _ _ _ _ _ _ _ _) ?_
    intro V7 hM
    (try simp only [List.cons_append, List.nil_append, List.set_cons_succ, List.set_cons_zero, Nat.reduceAdd] at hM)
    replace HM := hM
    clear hM
    refine hK _ _ ⟨(fun y => ∃ q : CW [], y = q.1), ⟨⟨_, (alln _)⟩, rfl⟩, fun _ h => h, ?_⟩
    clear hK K
    (try simp only [Act.put, List.setIfInBounds_toArray, List.set_cons_succ, List.set_cons_zero])
    refine wpQuiet_nil ?_
    refine NoPanic.normal ?_
    go_wp2_with fail
    (try simp only [Exit.inBlock, Exit.then])
    refine bodyPost_ret (res_cc rfl _ _ _ _ _ _ rfl rfl ((HM.out.hb 2 _ _ _ rfl).load57) ((HM.out.hb 3 _ _ _ rfl).load59 rfl)) rfl ?_
    exact ⟨⟨_, _, _, rfl, ints0 _ _ _ _⟩, mem_one HM.out⟩
set_option maxHeartbeats 2000000 in
set_option maxRecDepth 100000 in
theorem load13 (b : Nat) (f : Fr) (gv : Value) (x : Int) (n a : Int) (w : World) (hb : HB w b (pgG f gv x) 127) : Calls Try.prog 90 #[.pointer (some ⟨b, 0, none⟩), .int .i64 n, .int .i64 a, .int .i64 0] w fun e w' => MethP b gv x w w' e (f.at_ n) 0 a 0 0 [] := by
  have HM := Lib.hid (Mem.startR hb)
  clear hb
  go_enter Try.func90, Try.ntmps90
  go_wp2_with (first
    | (refine wpm_al57 HM rfl rfl ?_; intro W hM; (try simp only [List.cons_append, List.nil_append, List.set_cons_succ, List.set_cons_zero, Nat.reduceAdd] at hM); replace HM := hM; clear hM)
    | (refine wpm_al59 HM rfl rfl ?_; intro W hM; (try simp only [List.cons_append, List.nil_append, List.set_cons_succ, List.set_cons_zero, Nat.reduceAdd] at hM); replace HM := hM; clear hM))
  refine (then13 b f gv x n 0 a 0 0 none 0 _ (HM.out.hb 0 _ _ _ rfl)).mono ?_
  rintro e W2 ⟨⟨ao1, n1, c1, rfl, hi⟩, hM2⟩
  have hM3 := HM.out.upR (i := 0) rfl hM2
  (try simp only [List.set_cons_zero] at hM3)
  replace HM := Lib.hid hM3
  have en : n1 = 0 := by
    obtain ⟨_, _, e, _⟩ := hi
    injection e
  subst en
  clear hM2 hM3 hi
  go_wp2_with (first
    | (refine wpm_st57 HM rfl (.tmp 8) (.tmp 16) rfl 1 rfl (f.at_ n) rfl rfl ?_; intro W hM; (try simp only [List.cons_append, List.nil_append, List.set_cons_succ, List.set_cons_zero, Nat.reduceAdd] at hM); replace HM := hM; clear hM)
    | (refine wpm_st59 HM rfl (.tmp 9) (.tmp 17) rfl 2 rfl rfl 0 a 0 0 0 ao1 0 c1 rfl rfl ?_; intro W hM; (try simp only [List.cons_append, List.nil_append, List.set_cons_succ, List.set_cons_zero, Nat.reduceAdd] at hM); replace HM := hM; clear hM))
  (try simp only [Exit.inBlock, Exit.then])
  refine bodyPost_ret (res_cc rfl _ _ _ _ _ _ rfl rfl ((HM.out.hb 1 _ _ _ rfl).load57) ((HM.out.hb 2 _ _ _ rfl).load59 rfl)) rfl ?_
  exact ⟨⟨_, _, _, rfl, ints0 _ _ _ _⟩, mem_one HM.out⟩
set_option maxHeartbeats 2000000 in
set_option maxRecDepth 100000 in
theorem store13 (b : Nat) (f : Fr) (gv : Value) (x : Int) (n a v : Int) (w : World) (hb : HB w b (pgG f gv x) 127) : Calls Try.prog 91 #[.pointer (some ⟨b, 0, none⟩), .int .i64 n, .int .i64 a, .int .i64 v] w fun e w' => MethP b gv x w w' e (f.at_ n) 1 a 0 v [] := by
  have HM := Lib.hid (Mem.startR hb)
  clear hb
  go_enter Try.func91, Try.ntmps91
  go_wp2_with (first
    | (refine wpm_al57 HM rfl rfl ?_; intro W hM; (try simp only [List.cons_append, List.nil_append, List.set_cons_succ, List.set_cons_zero, Nat.reduceAdd] at hM); replace HM := hM; clear hM)
    | (refine wpm_al59 HM rfl rfl ?_; intro W hM; (try simp only [List.cons_append, List.nil_append, List.set_cons_succ, List.set_cons_zero, Nat.reduceAdd] at hM); replace HM := hM; clear hM))
  refine (then13 b f gv x n 1 a 0 v none 0 _ (HM.out.hb 0 _ _ _ rfl)).mono ?_
  rintro e W2 ⟨⟨ao1, n1, c1, rfl, hi⟩, hM2⟩
  have hM3 := HM.out.upR (i := 0) rfl hM2
  (try simp only [List.set_cons_zero] at hM3)
  replace HM := Lib.hid hM3
  have en : n1 = 0 := by
    obtain ⟨_, _, e, _⟩ := hi
    injection e
  subst en
  clear hM2 hM3 hi
  go_wp2_with (first
    | (refine wpm_st57 HM rfl (.tmp 8) (.tmp 16) rfl 1 rfl (f.at_ n) rfl rfl ?_; intro W hM; (try simp only [List.cons_append, List.nil_append, List.set_cons_succ, List.set_cons_zero, Nat.reduceAdd] at hM); replace HM := hM; clear hM)
    | (refine wpm_st59 HM rfl (.tmp 9) (.tmp 17) rfl 2 rfl rfl 1 a 0 v 0 ao1 0 c1 rfl rfl ?_; intro W hM; (try simp only [List.cons_append, List.nil_append, List.set_cons_succ, List.set_cons_zero, Nat.reduceAdd] at hM); replace HM := hM; clear hM))
  (try simp only [Exit.inBlock, Exit.then])
  refine bodyPost_ret (res_cc rfl _ _ _ _ _ _ rfl rfl ((HM.out.hb 1 _ _ _ rfl).load57) ((HM.out.hb 2 _ _ _ rfl).load59 rfl)) rfl ?_
  exact ⟨⟨_, _, _, rfl, ints0 _ _ _ _⟩, mem_one HM.out⟩
set_option maxHeartbeats 2000000 in
set_option maxRecDepth 100000 in
theorem cas13 (b : Nat) (f : Fr) (gv : Value) (x : Int) (n a bb v : Int) (w : World) (hb : HB w b (pgG f gv x) 127) : Calls Try.prog 107 #[.pointer (some ⟨b, 0, none⟩), .int .i64 n, .int .i64 a, .int .i64 bb, .int .i64 v, .int .i64 0] w fun e w' => MethP b gv x w w' e (f.at_ n) 2 a bb v [] := by
  have HM := Lib.hid (Mem.startR hb)
  clear hb
  go_enter Try.func107, Try.ntmps107
  go_wp2_with (first
    | (refine wpm_al57 HM rfl rfl ?_; intro W hM; (try simp only [List.cons_append, List.nil_append, List.set_cons_succ, List.set_cons_zero, Nat.reduceAdd] at hM); replace HM := hM; clear hM)
    | (refine wpm_al59 HM rfl rfl ?_; intro W hM; (try simp only [List.cons_append, List.nil_append, List.set_cons_succ, List.set_cons_zero, Nat.reduceAdd] at hM); replace HM := hM; clear hM))
  refine (then13 b f gv x n 2 a bb v none 0 _ (HM.out.hb 0 _ _ _ rfl)).mono ?_
  rintro e W2 ⟨⟨ao1, n1, c1, rfl, hi⟩, hM2⟩
  have hM3 := HM.out.upR (i := 0) rfl hM2
  (try simp only [List.set_cons_zero] at hM3)
  replace HM := Lib.hid hM3
  have en : n1 = 0 := by
    obtain ⟨_, _, e, _⟩ := hi
    injection e
  subst en
  clear hM2 hM3 hi
  go_wp2_with (first
    | (refine wpm_st57 HM rfl (.tmp 12) (.tmp 22) rfl 1 rfl (f.at_ n) rfl rfl ?_; intro W hM; (try simp only [List.cons_append, List.nil_append, List.set_cons_succ, List.set_cons_zero, Nat.reduceAdd] at hM); replace HM := hM; clear hM)
    | (refine wpm_st59 HM rfl (.tmp 13) (.tmp 23) rfl 2 rfl rfl 2 a bb v 0 ao1 0 c1 rfl rfl ?_; intro W hM; (try simp only [List.cons_append, List.nil_append, List.set_cons_succ, List.set_cons_zero, Nat.reduceAdd] at hM); replace HM := hM; clear hM))
  (try simp only [Exit.inBlock, Exit.then])
  refine bodyPost_ret (res_cc rfl _ _ _ _ _ _ rfl rfl ((HM.out.hb 1 _ _ _ rfl).load57) ((HM.out.hb 2 _ _ _ rfl).load59 rfl)) rfl ?_
  exact ⟨⟨_, _, _, rfl, ints0 _ _ _ _⟩, mem_one HM.out⟩
set_option maxHeartbeats 2000000 in
set_option maxRecDepth 100000 in
theorem end13m (b : Nat) (f : Fr) (gv : Value) (x : Int) (ao : Option Addr) (n c : Nat) (w : World) (hb : HB w b (pgG f gv x) 127) : Calls Try.prog 89 #[.pointer (some ⟨b, 0, none⟩), .slice ao n c] w fun e w' => e = .returned (.tuple #[.agg f.cells, .agg (acC 7 0 0 0 0 (.slice ao n c))]) ∧ Mem (fun k => k = b) w w' [(b, pgG f gv x, 127)] := by
  have HM := Lib.hid (Mem.startR hb)
  clear hb
  go_enter Try.func89, Try.ntmps89
  go_wp2_with (first
    | (refine wpm_al57 HM rfl rfl ?_; intro W hM; (try simp only [List.cons_append, List.nil_append, List.set_cons_succ, List.set_cons_zero, Nat.reduceAdd] at hM); replace HM := hM; clear hM)
    | (refine wpm_al59 HM rfl rfl ?_; intro W hM; (try simp only [List.cons_append, List.nil_append, List.set_cons_succ, List.set_cons_zero, Nat.reduceAdd] at hM); replace HM := hM; clear hM)
    | (refine wpm_ldm HM rfl 57 (.tmp 8) rfl 0 0 rfl rfl f.cells (pgG_sub _ _ _) 98 und57 inf57 (Fr.size _) ?_)
    | (refine wpm_st57 HM rfl (.tmp 4) (.tmp 9) rfl 1 rfl f rfl rfl ?_; intro W hM; (try simp only [List.cons_append, List.nil_append, List.set_cons_succ, List.set_cons_zero, Nat.reduceAdd] at hM); replace HM := hM; clear hM)
    | (refine wpm_st59 HM rfl (.tmp 5) (.tmp 11) rfl 2 rfl rfl 7 0 0 0 0 ao n c rfl rfl ?_; intro W hM; (try simp only [List.cons_append, List.nil_append, List.set_cons_succ, List.set_cons_zero, Nat.reduceAdd] at hM); replace HM := hM; clear hM))
  (try simp only [Exit.inBlock, Exit.then])
  refine bodyPost_ret (res_cc rfl _ _ _ _ _ _ rfl rfl ((HM.out.hb 1 _ _ _ rfl).load57) ((HM.out.hb 2 _ _ _ rfl).load59 rfl)) rfl ?_
  exact ⟨rfl, mem_one HM.out⟩
set_option maxHeartbeats 2000000 in
set_option maxRecDepth 100000 in
theorem pin13_0 (b : Nat) (f : Fr) (gv : Value) (x : Int) (w : World) (hb : HB w b (pgG f gv x) 127) : Calls Try.prog 61 #[.pointer (some ⟨b, 0, none⟩)] w fun e w' => MethP b gv x w w' e (f.at_ 1) 0 2 0 0 [] := by
  have HM := Lib.hid (Mem.startR hb)
  clear hb
  go_enter Try.func61, Try.ntmps61
  go_wp2_with (first
    | (refine wpm_al57 HM rfl rfl ?_; intro W hM; (try simp only [List.cons_append, List.nil_append, List.set_cons_succ, List.set_cons_zero, Nat.reduceAdd] at hM); replace HM := hM; clear hM)
    | (refine wpm_al59 HM rfl rfl ?_; intro W hM; (try simp only [List.cons_append, List.nil_append, List.set_cons_succ, List.set_cons_zero, Nat.reduceAdd] at hM); replace HM := hM; clear hM))
  refine (load13 b f gv x 1 2 _ (HM.out.hb 0 _ _ _ rfl)).mono ?_
  rintro e W2 ⟨⟨ao1, n1, c1, rfl, hi⟩, hM2⟩
  have hM3 := HM.out.upR (i := 0) rfl hM2
  (try simp only [List.set_cons_zero] at hM3)
  replace HM := Lib.hid hM3
  have en : n1 = 0 := by
    obtain ⟨_, _, e, _⟩ := hi
    injection e
  subst en
  clear hM2 hM3 hi
  go_wp2_with (first
    | (refine wpm_st57 HM rfl (.tmp 2) (.tmp 6) rfl 1 rfl (f.at_ 1) rfl rfl ?_; intro W hM; (try simp only [List.cons_append, List.nil_append, List.set_cons_succ, List.set_cons_zero, Nat.reduceAdd] at hM); replace HM := hM; clear hM)
    | (refine wpm_st59 HM rfl (.tmp 3) (.tmp 7) rfl 2 rfl rfl 0 2 0 0 0 ao1 0 c1 rfl rfl ?_; intro W hM; (try simp only [List.cons_append, List.nil_append, List.set_cons_succ, List.set_cons_zero, Nat.reduceAdd] at hM); replace HM := hM; clear hM))
  (try simp only [Exit.inBlock, Exit.then])
  refine bodyPost_ret (res_cc rfl _ _ _ _ _ _ rfl rfl ((HM.out.hb 1 _ _ _ rfl).load57) ((HM.out.hb 2 _ _ _ rfl).load59 rfl)) rfl ?_
  exact ⟨⟨_, _, _, rfl, ints0 _ _ _ _⟩, mem_one HM.out⟩
set_option maxHeartbeats 2000000 in
set_option maxRecDepth 100000 in
theorem pin13_2 (b : Nat) (f : Fr) (gv : Value) (x : Int) (w : World) (hb : HB w b (pgG f gv x) 127) : Calls Try.prog 63 #[.pointer (some ⟨b, 0, none⟩)] w fun e w' => MethP b gv x w w' e (f.at_ 3) 0 2 0 0 [] := by
  have HM := Lib.hid (Mem.startR hb)
  clear hb
  go_enter Try.func63, Try.ntmps63
  go_wp2_with (first
    | (refine wpm_al57 HM rfl rfl ?_; intro W hM; (try simp only [List.cons_append, List.nil_append, List.set_cons_succ, List.set_cons_zero, Nat.reduceAdd] at hM); replace HM := hM; clear hM)
    | (refine wpm_al59 HM rfl rfl ?_; intro W hM; (try simp only [List.cons_append, List.nil_append, List.set_cons_succ, List.set_cons_zero, Nat.reduceAdd] at hM); replace HM := hM; clear hM))
  refine (load13 b f gv x 3 2 _ (HM.out.hb 0 _ _ _ rfl)).mono ?_
  rintro e W2 ⟨⟨ao1, n1, c1, rfl, hi⟩, hM2⟩
  have hM3 := HM.out.upR (i := 0) rfl hM2
  (try simp only [List.set_cons_zero] at hM3)
  replace HM := Lib.hid hM3
  have en : n1 = 0 := by
    obtain ⟨_, _, e, _⟩ := hi
    injection e
  subst en
  clear hM2 hM3 hi
  go_wp2_with (first
    | (refine wpm_st57 HM rfl (.tmp 2) (.tmp 6) rfl 1 rfl (f.at_ 3) rfl rfl ?_; intro W hM; (try simp only [List.cons_append, List.nil_append, List.set_cons_succ, List.set_cons_zero, Nat.reduceAdd] at hM); replace HM := hM; clear hM)
    | (refine wpm_st59 HM rfl (.tmp 3) (.tmp 7) rfl 2 rfl rfl 0 2 0 0 0 ao1 0 c1 rfl rfl ?_; intro W hM; (try simp only [List.cons_append, List.nil_append, List.set_cons_succ, List.set_cons_zero, Nat.reduceAdd] at hM); replace HM := hM; clear hM))
  (try simp only [Exit.inBlock, Exit.then])
  refine bodyPost_ret (res_cc rfl _ _ _ _ _ _ rfl rfl ((HM.out.hb 1 _ _ _ rfl).load57) ((HM.out.hb 2 _ _ _ rfl).load59 rfl)) rfl ?_
  exact ⟨⟨_, _, _, rfl, ints0 _ _ _ _⟩, mem_one HM.out⟩
set_option maxHeartbeats 2000000 in
set_option maxRecDepth 100000 in
theorem unpin13_1 (b : Nat) (f : Fr) (gv : Value) (x : Int) (w : World) (hb : HB w b (pgG f gv x) 127) : Calls Try.prog 66 #[.pointer (some ⟨b, 0, none⟩)] w fun e w' => MethP b gv x w w' e f 7 0 0 0 [] := by
  have HM := Lib.hid (Mem.startR hb)
  clear hb
  go_enter Try.func66, Try.ntmps66
  go_wp2_with (first
    | (refine wpm_al57 HM rfl rfl ?_; intro W hM; (try simp only [List.cons_append, List.nil_append, List.set_cons_succ, List.set_cons_zero, Nat.reduceAdd] at hM); replace HM := hM; clear hM)
    | (refine wpm_al59 HM rfl rfl ?_; intro W hM; (try simp only [List.cons_append, List.nil_append, List.set_cons_succ, List.set_cons_zero, Nat.reduceAdd] at hM); replace HM := hM; clear hM))
  refine (end13m b f gv x none 0 0 _ (HM.out.hb 0 _ _ _ rfl)).mono ?_
  rintro e W2 ⟨rfl, hM2⟩
  have hM3 := HM.out.upR (i := 0) rfl hM2
  (try simp only [List.set_cons_zero] at hM3)
  replace HM := Lib.hid hM3
  clear hM2 hM3
  go_wp2_with (first
    | (refine wpm_st57 HM rfl (.tmp 2) (.tmp 6) rfl 1 rfl f rfl rfl ?_; intro W hM; (try simp only [List.cons_append, List.nil_append, List.set_cons_succ, List.set_cons_zero, Nat.reduceAdd] at hM); replace HM := hM; clear hM)
    | (refine wpm_st59 HM rfl (.tmp 3) (.tmp 7) rfl 2 rfl rfl 7 0 0 0 0 none 0 0 rfl rfl ?_; intro W hM; (try simp only [List.cons_append, List.nil_append, List.set_cons_succ, List.set_cons_zero, Nat.reduceAdd] at hM); replace HM := hM; clear hM))
  (try simp only [Exit.inBlock, Exit.then])
  refine bodyPost_ret (res_cc rfl _ _ _ _ _ _ rfl rfl ((HM.out.hb 1 _ _ _ rfl).load57) ((HM.out.hb 2 _ _ _ rfl).load59 rfl)) rfl ?_
  exact ⟨⟨_, _, _, rfl, ints0 _ _ _ _⟩, mem_one HM.out⟩
end Go.Proofs.Ytgpdknacnmapiaa
