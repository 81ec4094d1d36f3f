/-
  Parts of a proof, put together: Go.
-/
import Derived.Test.YtgpdknacnmapiaaZj01
import Derived.Test.YtgpdknacnmapiaaZj02
import Derived.Test.YtgpdknacnmapiaaZj03
import Derived.Test.YtgpdknacnmapiaaZj04
import Derived.Test.YtgpdknacnmapiaaZj05
import Derived.Test.YtgpdknacnmapiaaZj06
import Derived.Test.YtgpdknacnmapiaaZj07
import Derived.Test.YtgpdknacnmapiaaZj08
import Derived.Test.YtgpdknacnmapiaaZj09
import Derived.Test.YtgpdknacnmapiaaZj10
import Derived.Test.YtgpdknacnmapiaaZj11
import Derived.Test.YtgpdknacnmapiaaZj12
import Derived.Test.YtgpdknacnmapiaaZj13
import Derived.Test.YtgpdknacnmapiaaZj14
import Derived.Test.YtgpdknacnmapiaaZj15
import Derived.Test.YtgpdknacnmapiaaZj16
import Derived.Test.YtgpdknacnmapiaaZj17
namespace Go.Proofs.Ytgpdknacnmapiaa
set_option linter.unusedVariables false
set_option linter.unusedSimpArgs false
open Go.RowKit
theorem lv3 (w : World) (ad : Addr) (v : Value) (h : w.cell? ad = some v) : (loadVar 3 ad).run Try.prog w = .ok v w := by simp [go_sem, loadVar, h]
theorem lv30 (w : World) (ad : Addr) (v : Value) (h : w.cell? ad = some v) : (loadVar 30 ad).run Try.prog w = .ok v w := by simp [go_sem, loadVar, h]
section
variable {X : Nat → Prop} {w0 w : World} {L : List (Nat × Array Value × TypeId)} {ops : Array Oper} {rest : List Oper} {o : Oper} {a : Act} {Q : Exit → Act → World → Prop} {K : Act → World → Prop}
theorem wpm_ldc (HM : Hid (Mem X w0 w L)) (hg : o.guard = none) (ty : TypeId) (x : Operand) (ho : o.op = .load ty x) (hl : ∀ (w : World) (ad : Addr) (v : Value), w.cell? ad = some v → (loadVar ty ad).run Try.prog w = .ok v w) (i k : Nat) {b : Nat} {C : Array Value} {t : TypeId} (hi : L[i]? = some (b, C, t)) (hx : a.eval x = .pointer (some ⟨b, k, none⟩)) (v : Value) (hv : C[k]? = some v)
    (h : wpList Try.prog ops Q rest (a.put o.dst v) w) : wpList Try.prog ops Q (o :: rest) a w := by
  refine wpList_plain hg fun K hK => ?_
  have hr := hl w _ v ((HM.out.hb i b C t hi).cell hv)
  unfold Oper.wp execOp
  simp only [ho, hx, Instr.loadAt, Instr.sureAddr, Sem.run_bind, Sem.run_pure, Result.andThen_ok, hr]
  exact hK _ _ h
theorem wpOm_st (HM : Hid (Mem X w0 w L)) (t : TypeId) (x y : Operand) (ho : o.op = .store t x y) (hd : o.dst = none) (i : Nat) {b : Nat} {C : Array Value} (hi : L[i]? = some (b, C, t)) (C' : Array Value) (hx : a.eval x = .pointer (some ⟨b, 0, none⟩)) (hy : a.eval y = .agg C') (n : Nat) (hn : (Try.prog.info? t).map (·.size) = some n) (hs : C.size = n) (hs' : C'.size = n) (h1 : C'.all (·.oneCell') = true)
    (h : ∀ W, Hid (Mem X w0 W (L.set i (b, C', t))) → K a W) : o.wp Try.prog a w K Q :=
  wp_store_row t x y ho b C' hx hy t C (HM.out.hb i b C t hi) (by rw [hn, hs']) (by rw [hs, hs']) h1 (by rw [hd]; exact h _ (Lib.hid (HM.out.upd hi (fun B hB => below_row (Below.refl _ _) _ hB _) (fun k hk => setRow_other _ _ _ _ (fun e => hk e)) (by simp) (setRow_heap _ _ _ _ _ _ (HM.out.hb i b C t hi)))))
theorem wpOm_ld (HM : Hid (Mem X w0 w L)) (t : TypeId) (x : Operand) (ho : o.op = .load t x) (d : Tmp) (hd : o.dst = some d) (i : Nat) {b : Nat} {C : Array Value} (hi : L[i]? = some (b, C, t)) (hx : a.eval x = .pointer (some ⟨b, 0, none⟩)) (n : Nat) (hu : ∃ fs, Try.prog.underlying t = some (.struct fs)) (hn : (Try.prog.info? t).map (·.size) = some n) (hs : C.size = n)
    (h : K (a.put (some d) (.agg C)) w) : o.wp Try.prog a w K Q := by
  obtain ⟨fs, hu⟩ := hu
  exact wp_load_mid t x ho b 0 hx C.toList (.struct fs) (HM.out.hb i b C t hi).range hu rfl (by rw [hn]; simp [hs]) (by rw [hd]; simpa using h)
end
theorem Mem.drew {X : Nat → Prop} {w0 W : World} {L : List (Nat × Array Value × TypeId)} (h : Mem X w0 W L) : Mem X w0 W.drew L := h.below ⟨rfl, rfl, rfl, Nat.le_refl _, fun _ _ => rfl⟩
/-- a frame and an action are answered -/
def AnsB (w w' : World) (e : Ending) (f : Fr) (k a b v : Int) (l : List Int) : Prop := ∃ ao n c, e = .returned (.tuple #[.agg f.cells, .agg (acC k a b v 0 (.slice ao n c))]) ∧ Ints w.heap.size w' (.slice ao n c) l
theorem Mem.out_of {w W : World} {L : List (Nat × Array Value × TypeId)} (h : Mem (fun _ => False) w W L) {P : Nat → Prop} {b : Nat} (hb : P b ∧ (b < w.heap.size ∨ W.heap.size ≤ b)) : ¬ ∃ (i : Nat) (C : Array Value) (t : TypeId), L[i]? = some (b, C, t) := by
  rintro ⟨i, C, t, hi⟩
  have h1 := (h.st i b C t hi).resolve_left (fun h => h)
  have h2 := h.lt hi
  have h3 := hb.2
  omega
theorem Ints.mem {X : Nat → Prop} {w0 W : World} {L : List (Nat × Array Value × TypeId)} {B : Nat} {v : Value} {l : List Int} (h : Ints B w0 v l) (hM : Mem X w0 W L) (hX : ∀ b, B ≤ b → ¬ X b) : Ints B W v l := by
  obtain ⟨ao, cap, rfl, hc, hr⟩ := h
  refine ⟨ao, cap, rfl, hc, fun i x hx => ?_⟩
  obtain ⟨b, off, e1, e2, e3⟩ := hr i x hx
  exact ⟨b, off, e1, e2, (World.cell?_of_block (hM.old b (World.block_lt_of_cell? _ _ e3) (hX b e2))).trans e3⟩
theorem Mem.sub {X : Nat → Prop} {w0 W : World} {L L2 : List (Nat × Array Value × TypeId)} (h : Mem X w0 W L) (hs : ∀ (i : Nat) (e : Nat × Array Value × TypeId), L2[i]? = some e → L[i]? = some e) : Mem X w0 W L2 :=
  ⟨h.os, h.tape, h.output, h.size, h.old, fun i b C t hi => h.hb i b C t (hs _ _ hi), fun i b C t hi => h.st i b C t (hs _ _ hi), fun i j b C C2 t t2 hi hj => h.nd i j b C C2 t t2 (hs _ _ hi) (hs _ _ hj)⟩
set_option maxHeartbeats 4000000 in
set_option maxRecDepth 100000 in
theorem goes14pg {P : Nat → Prop} {C : Array Value} {c : Int} {f f2 : Fr} {x : Int} (w : World) (hP : ∀ b, w.heap.size ≤ b → P b) (hc : 0 ≤ c ∧ c < 4) (h : Live P w C c f x) (k a bb v : Int) (l : List Int) (hOk : OkA k a bb v l.length) (hk : k < 6)
    (hN : ∀ vv w, GotV w vv x → Calls Try.prog 19 #[.agg f.cells, vv] w fun e w' => AnsB w w' e f2 k a bb v l ∧ Below w.heap.size w w') :
    Calls Try.prog 55 #[.agg C, .bool false] w fun e w' => (∃ C' ao ac, e = .returned (.tuple #[.agg C', .agg (acC k a bb v 0 (.slice ao 0 ac)), .bool true]) ∧ Live P w' C' c f2 x) ∧ Below w.heap.size w w' := by
  have HTC := Lib.hid h.task
  have HL := Lib.hid h
  obtain ⟨s, gv, rfl, hg⟩ := h.got
  have HG := Lib.hid hg
  have HN := Lib.hid hN
  have HP := Lib.hid hP
  have HOk := Lib.hid hOk
  have HK := Lib.hid hk
  have HM := Lib.hid (Mem.start w)
  have hl0 : l = [] := by
    have : l.length = 0 := by rcases hOk with h | h | h | h <;> omega
    exact List.eq_nil_of_length_eq_zero this
  subst hl0
  clear h hg hN hP hOk hk
  go_enter Try.func55, Try.ntmps55
  go_wp2_with (first
    | (refine wpm_box HM rfl 38 (.tmp 0) rfl _ rfl ?_; intro W1 hM; (try simp only [List.cons_append, List.nil_append, List.set_cons_succ, List.set_cons_zero, Nat.reduceAdd] at hM); replace HM := hM; clear hM)
    | (refine wpm_al38 HM rfl rfl ?_; intro W2 hM; (try simp only [List.cons_append, List.nil_append, List.set_cons_succ, List.set_cons_zero, Nat.reduceAdd] at hM); replace HM := hM; clear hM)
    | (refine wpm_al59 HM rfl rfl ?_; intro W3 hM; (try simp only [List.cons_append, List.nil_append, List.set_cons_succ, List.set_cons_zero, Nat.reduceAdd] at hM); replace HM := hM; clear hM))
  go_loopw [7] (fun iv wr => iv = .int .i64 0 ∧ wr = W3) (fun _ _ => 0)
  case atStart => exact ⟨rfl, rfl⟩
  case round =>
    obtain ⟨rfl, rfl⟩ := hrel
    go_wp2_with (first
      | (refine wpm_ld38 HM rfl (.tmp 2) rfl 0 rfl rfl HTC.out ?_))
    refine (top_live _ (HL.out.mem (fun _ _ h => h) HM.out)).mono ?_
    rintro e W ⟨rfl, hb⟩
    replace HM := Lib.hid (HM.out.below hb)
    clear hb
    go_wp2_with (first
      | (refine wpm_al57 HM rfl rfl ?_; intro W hM; (try simp only [List.cons_append, List.nil_append, List.set_cons_succ, List.set_cons_zero, Nat.reduceAdd] at hM); replace HM := hM; clear hM)
      | (refine wpm_al59 HM rfl rfl ?_; intro W hM; (try simp only [List.cons_append, List.nil_append, List.set_cons_succ, List.set_cons_zero, Nat.reduceAdd] at hM); replace HM := hM; clear hM)
      | (refine wpm_st57 HM rfl (.tmp 8) (.tmp 22) rfl 3 rfl f rfl rfl ?_; intro W hM; (try simp only [List.cons_append, List.nil_append, List.set_cons_succ, List.set_cons_zero, Nat.reduceAdd] at hM); replace HM := hM; clear hM)
      | (refine wpm_ld57 HM rfl (.tmp 8) rfl 3 rfl rfl ?_)
      | (refine wpm_st57 HM rfl (.tmp 10) (.tmp 28) rfl 4 rfl f rfl rfl ?_; intro W hM; (try simp only [List.cons_append, List.nil_append, List.set_cons_succ, List.set_cons_zero, Nat.reduceAdd] at hM); replace HM := hM; clear hM)
      | (refine wpm_st59 HM rfl (.tmp 11) (.tmp 29) rfl 5 rfl rfl 0 0 0 0 0 none 0 0 rfl rfl ?_; intro W hM; (try simp only [List.cons_append, List.nil_append, List.set_cons_succ, List.set_cons_zero, Nat.reduceAdd] at hM); replace HM := hM; clear hM)
      | (refine wpm_ldc HM rfl 30 (.tmp 40) rfl lv30 0 2 rfl rfl _ rfl ?_))
    refine (HN.out _ _ (HG.out.below HM.out.bel)).mono ?_
    rintro e W ⟨⟨ao1, n1, c1, rfl, hi⟩, hb⟩
    have HI := Lib.hid hi
    replace HM := Lib.hid (HM.out.below hb)
    clear hb hi
    have en : n1 = 0 := by
      obtain ⟨_, _, e, _⟩ := HI.out
      injection e
    subst en
    go_wp2_with (first
      | (refine wpm_st57 HM rfl (.tmp 10) (.tmp 43) rfl 4 rfl f2 rfl rfl ?_; intro W hM; (try simp only [List.cons_append, List.nil_append, List.set_cons_succ, List.set_cons_zero, Nat.reduceAdd] at hM); replace HM := hM; clear hM)
      | (refine wpm_st59 HM rfl (.tmp 11) (.tmp 44) rfl 5 rfl rfl k a bb v 0 ao1 0 c1 rfl rfl ?_; intro W hM; (try simp only [List.cons_append, List.nil_append, List.set_cons_succ, List.set_cons_zero, Nat.reduceAdd] at hM); replace HM := hM; clear hM)
      | (refine wpm_ld38 HM rfl (.tmp 2) rfl 0 rfl rfl HTC.out ?_)
      | (refine wpm_ld57 HM rfl (.tmp 10) rfl 4 rfl rfl ?_)
      | (refine wpm_ld59 HM rfl (.tmp 11) rfl 5 rfl rfl ?_))
    have HMb := HM
    refine (take_go (P := fun b => P b ∧ (b < w.heap.size ∨ _)) _ (fun b hb => ⟨HP.out b (Nat.le_trans HM.out.size hb), .inr hb⟩) hc ((HL.out.weak (Q := fun b => P b ∧ (b < w.heap.size ∨ _)) (fun b h hlt => ⟨h, .inl hlt⟩)).mem (fun _ _ h => h) HM.out) k a bb v _ _ HOk.out HK.out).mono ?_
    rintro e W ⟨⟨C2, rfl, hl⟩, hb⟩
    replace HM := Lib.hid (HM.out.below hb)
    have HM0 := HM
    replace HM := Lib.hid HM.out.rebase
    have HL2 := Lib.hid hl
    have HTC2 := Lib.hid hl.task
    clear hb hl
    go_wp2_with (first
      | (refine wpm_al38 HM rfl rfl ?_; intro W hM; (try simp only [List.cons_append, List.nil_append, List.set_cons_succ, List.set_cons_zero, Nat.reduceAdd] at hM); replace HM := hM; clear hM)
      | (refine wpm_st38 HM rfl (.tmp 12) (.tmp 50) rfl 6 rfl TaskC.zero.size C2 rfl rfl HTC2.out ?_; intro W hM; (try simp only [List.cons_append, List.nil_append, List.set_cons_succ, List.set_cons_zero, Nat.reduceAdd] at hM); replace HM := hM; clear hM)
      | (refine wpm_ld38 HM rfl (.tmp 12) rfl 6 rfl rfl HTC2.out ?_)
      | (refine wpm_st38 HM rfl (.tmp 2) (.tmp 57) rfl 0 rfl HTC.out.size C2 rfl rfl HTC2.out ?_; intro W hM; (try simp only [List.cons_append, List.nil_append, List.set_cons_succ, List.set_cons_zero, Nat.reduceAdd] at hM); replace HM := hM; clear hM))
    replace HM := Lib.hid HM.out.drew
    (try simp only [Act.put, List.setIfInBounds_toArray, List.set_cons_succ, List.set_cons_zero])
    refine wp_region_noPanic ?_
    refine wp_region_plw (.step [] (.cons 0 (.step [] (.cons 1 (.step [] (.cons 2 (.step [] (.cons 3 (.last [false, false, false, false, true]) .nil)) .nil)) (.cons 2 (.step [] (.cons 1 (.step [] (.cons 3 (.last [false, false, false, false, true]) .nil)) .nil)) .nil))) (.cons 1 (.step [] (.cons 0 (.step [] (.cons 2 (.step [] (.cons 3 (.last [false, false, false, false, true]) .nil)) .nil)) .nil)) .nil))) (fun y => ∃ q : World, y = q) (by kernel_rfl) (by kernel_rfl) (by kernel_rfl) (fun _ _ _ _ _ _ _ h => h) ⟨_, rfl⟩ ?_
    simp only [wpPw, wpBw, selF, and_true]
    refine wpQuiet_nil ?_
    refine ⟨?_, ?_⟩
    · refine wpOp_step rfl (fun K hK => ?_)
      rw [if_pos (by rfl)]
      refine wpOm_ld HM 38 (.tmp 2) rfl 59 rfl 0 rfl rfl 4 und38 inf38 HTC2.out.size ?_
      refine hK _ _ ⟨fun y => ∃ q : World, y = q, ⟨_, rfl⟩, fun _ h => h, ?_⟩
      clear hK K
      (try simp only [Act.put, List.setIfInBounds_toArray, List.set_cons_succ, List.set_cons_zero])
      refine wpQuiet_nil ?_
      refine ⟨?_, ?_⟩
      · refine wpOp_step rfl (fun K hK => ?_)
        rw [if_pos (by rfl)]
        refine wpOm_ld HM 59 (.tmp 11) rfl 60 rfl 5 rfl rfl 7 und59 inf59 rfl ?_
        refine hK _ _ ⟨fun y => ∃ q : World, y = q, ⟨_, rfl⟩, fun _ h => h, ?_⟩
        clear hK K
        (try simp only [Act.put, List.setIfInBounds_toArray, List.set_cons_succ, List.set_cons_zero])
        refine wpQuiet_nil ?_
        refine wpOp_step rfl (fun K hK => ?_)
        rw [if_pos (by rfl)]
        refine wpOm_st HM 38 (.tmp 4) (.tmp 59) rfl rfl 1 rfl C2 rfl rfl 4 inf38 rfl HTC2.out.size HTC2.out.one ?_
        intro We hM
        replace HM := hM
        clear hM
        refine hK _ _ ⟨fun y => ∃ q : World, y = q, ⟨_, rfl⟩, fun _ h => h, ?_⟩
        clear hK K
        (try simp only [Act.put, List.setIfInBounds_toArray, List.set_cons_succ, List.set_cons_zero])
        refine wpQuiet_nil ?_
        refine wpOp_step rfl (fun K hK => ?_)
        rw [if_pos (by rfl)]
        refine wpOm_st HM 59 (.tmp 5) (.tmp 60) rfl rfl 2 rfl (acC k a bb v 0 (.slice ao1 0 c1)) rfl rfl 7 inf59 rfl rfl (acC_one _ _ _ _ _ _ _ _) ?_
        intro We hM
        replace HM := hM
        clear hM
        refine hK _ _ ⟨fun y => ∃ q : World, y = q, ⟨_, rfl⟩, fun _ h => h, ?_⟩
        clear hK K
        (try simp only [Act.put, List.setIfInBounds_toArray, List.set_cons_succ, List.set_cons_zero])
        repeat (go_big_quiet_step (fail))
        refine wpQuiet_nil ?_
        refine NoPanic.normal ?_
        go_wp2_with fail
        (try simp only [Exit.inBlock, Exit.then])
        refine bodyPost_ret (res_cct rfl _ _ _ _ _ _ _ rfl rfl rfl ((HM.out.hb 1 _ _ _ rfl).load38 HTC2.out.size) ((HM.out.hb 2 _ _ _ rfl).load59 rfl)) rfl ?_
        refine ⟨⟨C2, _, _, rfl, (HL2.out.mem (fun b hb => HMb.out.out_of hb) HM.out).weak (fun b hb _ => hb.1)⟩, (HM0.out.trans HM.out).bel⟩
      · refine wpOp_step rfl (fun K hK => ?_)
        rw [if_pos (by rfl)]
        refine wpOm_st HM 38 (.tmp 4) (.tmp 59) rfl rfl 1 rfl C2 rfl rfl 4 inf38 rfl HTC2.out.size HTC2.out.one ?_
        intro We hM
        replace HM := hM
        clear hM
        refine hK _ _ ⟨fun y => ∃ q : World, y = q, ⟨_, rfl⟩, fun _ h => h, ?_⟩
        clear hK K
        (try simp only [Act.put, List.setIfInBounds_toArray, List.set_cons_succ, List.set_cons_zero])
        refine wpQuiet_nil ?_
        refine wpOp_step rfl (fun K hK => ?_)
        rw [if_pos (by rfl)]
        refine wpOm_ld HM 59 (.tmp 11) rfl 60 rfl 5 rfl rfl 7 und59 inf59 rfl ?_
        refine hK _ _ ⟨fun y => ∃ q : World, y = q, ⟨_, rfl⟩, fun _ h => h, ?_⟩
        clear hK K
        (try simp only [Act.put, List.setIfInBounds_toArray, List.set_cons_succ, List.set_cons_zero])
        refine wpQuiet_nil ?_
        refine wpOp_step rfl (fun K hK => ?_)
        rw [if_pos (by rfl)]
        refine wpOm_st HM 59 (.tmp 5) (.tmp 60) rfl rfl 2 rfl (acC k a bb v 0 (.slice ao1 0 c1)) rfl rfl 7 inf59 rfl rfl (acC_one _ _ _ _ _ _ _ _) ?_
        intro We hM
        replace HM := hM
        clear hM
        refine hK _ _ ⟨fun y => ∃ q : World, y = q, ⟨_, rfl⟩, fun _ h => h, ?_⟩
        clear hK K
        (try simp only [Act.put, List.setIfInBounds_toArray, List.set_cons_succ, List.set_cons_zero])
        repeat (go_big_quiet_step (fail))
        refine wpQuiet_nil ?_
        refine NoPanic.normal ?_
        go_wp2_with fail
        (try simp only [Exit.inBlock, Exit.then])
        refine bodyPost_ret (res_cct rfl _ _ _ _ _ _ _ rfl rfl rfl ((HM.out.hb 1 _ _ _ rfl).load38 HTC2.out.size) ((HM.out.hb 2 _ _ _ rfl).load59 rfl)) rfl ?_
        refine ⟨⟨C2, _, _, rfl, (HL2.out.mem (fun b hb => HMb.out.out_of hb) HM.out).weak (fun b hb _ => hb.1)⟩, (HM0.out.trans HM.out).bel⟩
    · refine wpOp_step rfl (fun K hK => ?_)
      rw [if_pos (by rfl)]
      refine wpOm_ld HM 59 (.tmp 11) rfl 60 rfl 5 rfl rfl 7 und59 inf59 rfl ?_
      refine hK _ _ ⟨fun y => ∃ q : World, y = q, ⟨_, rfl⟩, fun _ h => h, ?_⟩
      clear hK K
      (try simp only [Act.put, List.setIfInBounds_toArray, List.set_cons_succ, List.set_cons_zero])
      refine wpQuiet_nil ?_
      refine wpOp_step rfl (fun K hK => ?_)
      rw [if_pos (by rfl)]
      refine wpOm_ld HM 38 (.tmp 2) rfl 59 rfl 0 rfl rfl 4 und38 inf38 HTC2.out.size ?_
      refine hK _ _ ⟨fun y => ∃ q : World, y = q, ⟨_, rfl⟩, fun _ h => h, ?_⟩
      clear hK K
      (try simp only [Act.put, List.setIfInBounds_toArray, List.set_cons_succ, List.set_cons_zero])
      refine wpQuiet_nil ?_
      refine wpOp_step rfl (fun K hK => ?_)
      rw [if_pos (by rfl)]
      refine wpOm_st HM 38 (.tmp 4) (.tmp 59) rfl rfl 1 rfl C2 rfl rfl 4 inf38 rfl HTC2.out.size HTC2.out.one ?_
      intro We hM
      replace HM := hM
      clear hM
      refine hK _ _ ⟨fun y => ∃ q : World, y = q, ⟨_, rfl⟩, fun _ h => h, ?_⟩
      clear hK K
      (try simp only [Act.put, List.setIfInBounds_toArray, List.set_cons_succ, List.set_cons_zero])
      refine wpQuiet_nil ?_
      refine wpOp_step rfl (fun K hK => ?_)
      rw [if_pos (by rfl)]
      refine wpOm_st HM 59 (.tmp 5) (.tmp 60) rfl rfl 2 rfl (acC k a bb v 0 (.slice ao1 0 c1)) rfl rfl 7 inf59 rfl rfl (acC_one _ _ _ _ _ _ _ _) ?_
      intro We hM
      replace HM := hM
      clear hM
      refine hK _ _ ⟨fun y => ∃ q : World, y = q, ⟨_, rfl⟩, fun _ h => h, ?_⟩
      clear hK K
      (try simp only [Act.put, List.setIfInBounds_toArray, List.set_cons_succ, List.set_cons_zero])
      repeat (go_big_quiet_step (fail))
      refine wpQuiet_nil ?_
      refine NoPanic.normal ?_
      go_wp2_with fail
      (try simp only [Exit.inBlock, Exit.then])
      refine bodyPost_ret (res_cct rfl _ _ _ _ _ _ _ rfl rfl rfl ((HM.out.hb 1 _ _ _ rfl).load38 HTC2.out.size) ((HM.out.hb 2 _ _ _ rfl).load59 rfl)) rfl ?_
      refine ⟨⟨C2, _, _, rfl, (HL2.out.mem (fun b hb => HMb.out.out_of hb) HM.out).weak (fun b hb _ => hb.1)⟩, (HM0.out.trans HM.out).bel⟩
set_option maxHeartbeats 4000000 in
set_option maxRecDepth 100000 in
theorem goes14pe {P : Nat → Prop} {C : Array Value} {c : Int} {f f2 : Fr} {x : Int} (w : World) (hP : ∀ b, w.heap.size ≤ b → P b) (hc : 0 ≤ c ∧ c < 4) (h : Live P w C c f x) (k a bb v : Int) (l : List Int) (hOk : OkA k a bb v l.length) (hk : k = 7)
    (hN : ∀ vv w, GotV w vv x → Calls Try.prog 19 #[.agg f.cells, vv] w fun e w' => AnsB w w' e f2 k a bb v l ∧ Below w.heap.size w w') :
    Calls Try.prog 55 #[.agg C, .bool false] w fun e w' => (∃ C', e = .returned (.tuple #[.agg C', .agg acZ, .bool false]) ∧ Dead P w' C' c l) ∧ Below w.heap.size w w' := by
  have HTC := Lib.hid h.task
  have HL := Lib.hid h
  obtain ⟨s, gv, rfl, hg⟩ := h.got
  have HG := Lib.hid hg
  have HN := Lib.hid hN
  have HP := Lib.hid hP
  have HOk := Lib.hid hOk
  have HK := Lib.hid hk
  have HM := Lib.hid (Mem.start w)
  clear h hg hN hP hOk hk
  go_enter Try.func55, Try.ntmps55
  go_wp2_with (first
    | (refine wpm_box HM rfl 38 (.tmp 0) rfl _ rfl ?_; intro W1 hM; (try simp only [List.cons_append, List.nil_append, List.set_cons_succ, List.set_cons_zero, Nat.reduceAdd] at hM); replace HM := hM; clear hM)
    | (refine wpm_al38 HM rfl rfl ?_; intro W2 hM; (try simp only [List.cons_append, List.nil_append, List.set_cons_succ, List.set_cons_zero, Nat.reduceAdd] at hM); replace HM := hM; clear hM)
    | (refine wpm_al59 HM rfl rfl ?_; intro W3 hM; (try simp only [List.cons_append, List.nil_append, List.set_cons_succ, List.set_cons_zero, Nat.reduceAdd] at hM); replace HM := hM; clear hM))
  go_loopw [7] (fun iv wr => (iv = .int .i64 0 ∧ wr = W3) ∨ (iv = .int .i64 1 ∧ ∃ C2, Mem (fun _ => False) w wr [(w.heap.size, C2, 38), (W1.heap.size, tkC 0 (.slice none 0 0) (.slice none 0 0) false, 38), (W2.heap.size, acZ, 59)] ∧ Dead (fun b => P b ∧ ¬ (b = w.heap.size ∨ b = W1.heap.size ∨ b = W2.heap.size)) wr C2 c l)) (fun iv _ => 1 - (intOf iv).toNat)
  case atStart => exact .inl ⟨rfl, rfl⟩
  case round =>
    rcases hrel with ⟨rfl, rfl⟩ | ⟨rfl, C2, hM, hD⟩
    · go_wp2_with (first
        | (refine wpm_ld38 HM rfl (.tmp 2) rfl 0 rfl rfl HTC.out ?_))
      refine (top_live _ (HL.out.mem (fun _ _ h => h) HM.out)).mono ?_
      rintro e W ⟨rfl, hb⟩
      replace HM := Lib.hid (HM.out.below hb)
      clear hb
      go_wp2_with (first
        | (refine wpm_al57 HM rfl rfl ?_; intro W hM; (try simp only [List.cons_append, List.nil_append, List.set_cons_succ, List.set_cons_zero, Nat.reduceAdd] at hM); replace HM := hM; clear hM)
        | (refine wpm_al59 HM rfl rfl ?_; intro W hM; (try simp only [List.cons_append, List.nil_append, List.set_cons_succ, List.set_cons_zero, Nat.reduceAdd] at hM); replace HM := hM; clear hM)
        | (refine wpm_st57 HM rfl (.tmp 8) (.tmp 22) rfl 3 rfl f rfl rfl ?_; intro W hM; (try simp only [List.cons_append, List.nil_append, List.set_cons_succ, List.set_cons_zero, Nat.reduceAdd] at hM); replace HM := hM; clear hM)
        | (refine wpm_ld57 HM rfl (.tmp 8) rfl 3 rfl rfl ?_)
        | (refine wpm_st57 HM rfl (.tmp 10) (.tmp 28) rfl 4 rfl f rfl rfl ?_; intro W hM; (try simp only [List.cons_append, List.nil_append, List.set_cons_succ, List.set_cons_zero, Nat.reduceAdd] at hM); replace HM := hM; clear hM)
        | (refine wpm_st59 HM rfl (.tmp 11) (.tmp 29) rfl 5 rfl rfl 0 0 0 0 0 none 0 0 rfl rfl ?_; intro W hM; (try simp only [List.cons_append, List.nil_append, List.set_cons_succ, List.set_cons_zero, Nat.reduceAdd] at hM); replace HM := hM; clear hM)
        | (refine wpm_ldc HM rfl 30 (.tmp 40) rfl lv30 0 2 rfl rfl _ rfl ?_))
      have HMc := HM
      refine (HN.out _ _ (HG.out.below HM.out.bel)).mono ?_
      rintro e W ⟨⟨ao1, n1, c1, rfl, hi⟩, hb⟩
      have HI := Lib.hid hi
      replace HM := Lib.hid (HM.out.below hb)
      clear hb hi
      have en : n1 = l.length := by
        obtain ⟨_, _, e, _⟩ := HI.out
        injection e
      subst en
      have HW9 := HM
      replace HM := Lib.hid HM.out.rebase
      go_wp2_with (first
        | (refine wpm_st57 HM rfl (.tmp 10) (.tmp 43) rfl 4 rfl f2 rfl rfl ?_; intro W hM; (try simp only [List.cons_append, List.nil_append, List.set_cons_succ, List.set_cons_zero, Nat.reduceAdd] at hM); replace HM := hM; clear hM)
        | (refine wpm_st59 HM rfl (.tmp 11) (.tmp 44) rfl 5 rfl rfl k a bb v 0 ao1 l.length c1 rfl rfl ?_; intro W hM; (try simp only [List.cons_append, List.nil_append, List.set_cons_succ, List.set_cons_zero, Nat.reduceAdd] at hM); replace HM := hM; clear hM)
        | (refine wpm_ld38 HM rfl (.tmp 2) rfl 0 rfl rfl HTC.out ?_)
        | (refine wpm_ld57 HM rfl (.tmp 10) rfl 4 rfl rfl ?_)
        | (refine wpm_ld59 HM rfl (.tmp 11) rfl 5 rfl rfl ?_))
      have HI2 := Lib.hid (HI.out.mem HM.out (fun b hb hx => by obtain ⟨i, C, t, hi⟩ := hx; have := HMc.out.lt hi; omega))
      replace HM := Lib.hid (HW9.out.trans HM.out)
      have HMb := HM
      refine (take_end (P := fun b => P b ∧ (b < w.heap.size ∨ _)) _ (fun b hb => ⟨HP.out b (Nat.le_trans HM.out.size hb), .inr hb⟩) hc ((HL.out.weak (Q := fun b => P b ∧ (b < w.heap.size ∨ _)) (fun b h hlt => ⟨h, .inl hlt⟩)).mem (fun _ _ h => h) HM.out) k a bb v _ l _ _ HOk.out HK.out HI2.out).mono ?_
      rintro e W ⟨⟨C2, rfl, hl⟩, hb⟩
      replace HM := Lib.hid (HM.out.below hb)
      have HM0 := HM
      replace HM := Lib.hid HM.out.rebase
      have HL2 := Lib.hid hl
      have HTC2 := Lib.hid hl.task
      clear hb hl
      go_wp2_with (first
        | (refine wpm_al38 HM rfl rfl ?_; intro W hM; (try simp only [List.cons_append, List.nil_append, List.set_cons_succ, List.set_cons_zero, Nat.reduceAdd] at hM); replace HM := hM; clear hM)
        | (refine wpm_st38 HM rfl (.tmp 12) (.tmp 50) rfl 6 rfl TaskC.zero.size C2 rfl rfl HTC2.out ?_; intro W hM; (try simp only [List.cons_append, List.nil_append, List.set_cons_succ, List.set_cons_zero, Nat.reduceAdd] at hM); replace HM := hM; clear hM)
        | (refine wpm_ld38 HM rfl (.tmp 12) rfl 6 rfl rfl HTC2.out ?_)
        | (refine wpm_st38 HM rfl (.tmp 2) (.tmp 57) rfl 0 rfl HTC.out.size C2 rfl rfl HTC2.out ?_; intro W hM; (try simp only [List.cons_append, List.nil_append, List.set_cons_succ, List.set_cons_zero, Nat.reduceAdd] at hM); replace HM := hM; clear hM))
      go_roundw
      case rel =>
        refine .inr ⟨rfl, C2, (HM0.out.trans HM.out).sub (fun i e hi => ?_), (HL2.out.mem (fun b hb => HMb.out.out_of hb) HM.out).weak (fun b hb _ => ⟨hb.1, fun e => ?_⟩)⟩
        · match i, hi with
          | 0, hi => exact hi
          | 1, hi => exact hi
          | 2, hi => exact hi
          | i + 3, hi => simp at hi
        · rcases e with rfl | rfl | rfl
          · exact HMb.out.out_of hb ⟨0, _, _, rfl⟩
          · exact HMb.out.out_of hb ⟨1, _, _, rfl⟩
          · exact HMb.out.out_of hb ⟨2, _, _, rfl⟩
      case measure => simp [intOf]
    · have HM := Lib.hid hM
      have HD := Lib.hid hD
      have HTC2 := Lib.hid hD.task
      clear hM hD
      go_wp2_with (first
        | (refine wpm_ld38 HM rfl (.tmp 2) rfl 0 rfl rfl HTC2.out ?_))
      refine (top_dead _ HD.out).mono ?_
      rintro e W ⟨rfl, hb⟩
      replace HM := Lib.hid (HM.out.below hb)
      replace HD := Lib.hid (HD.out.below hb)
      have HM0 := HM
      replace HM := Lib.hid HM.out.rebase
      clear hb
      go_wp2_with (first
        | (refine wpm_al57 HM rfl rfl ?_; intro W hM; (try simp only [List.cons_append, List.nil_append, List.set_cons_succ, List.set_cons_zero, Nat.reduceAdd] at hM); replace HM := hM; clear hM)
        | (refine wpm_st57 HM rfl (.tmp 8) (.tmp 22) rfl 3 rfl Fr.zero rfl rfl ?_; intro W hM; (try simp only [List.cons_append, List.nil_append, List.set_cons_succ, List.set_cons_zero, Nat.reduceAdd] at hM); replace HM := hM; clear hM)
        | (refine wpm_ld38 HM rfl (.tmp 2) rfl 0 rfl rfl HTC2.out ?_)
        | (refine wpm_st38 HM rfl (.tmp 4) (.tmp 26) rfl 1 rfl TaskC.zero.size C2 rfl rfl HTC2.out ?_; intro W hM; (try simp only [List.cons_append, List.nil_append, List.set_cons_succ, List.set_cons_zero, Nat.reduceAdd] at hM); replace HM := hM; clear hM)
        | (refine wpm_st59 HM rfl (.tmp 5) (.tmp 27) rfl 2 rfl rfl 0 0 0 0 0 none 0 0 rfl rfl ?_; intro W hM; (try simp only [List.cons_append, List.nil_append, List.set_cons_succ, List.set_cons_zero, Nat.reduceAdd] at hM); replace HM := hM; clear hM))
      (try simp only [Exit.inBlock, Exit.then])
      refine bodyPost_ret (res_cct rfl _ _ _ _ _ _ _ rfl rfl rfl ((HM.out.hb 1 _ _ _ rfl).load38 HTC2.out.size) ((HM.out.hb 2 _ _ _ rfl).load59 rfl)) rfl ?_
      refine ⟨⟨C2, rfl, (HD.out.mem (fun b hb hx => ?_) HM.out).weak (fun b hb _ => hb.1)⟩, (HM0.out.trans HM.out).bel⟩
      obtain ⟨i, C, t, hi⟩ := hx
      match i, hi with
      | 0, hi => simp at hi; exact hb.2 (.inl hi.1.symm)
      | 1, hi => simp at hi; exact hb.2 (.inr (.inl hi.1.symm))
      | 2, hi => simp at hi; exact hb.2 (.inr (.inr hi.1.symm))
      | i + 3, hi => simp at hi
set_option maxHeartbeats 4000000 in
set_option maxRecDepth 100000 in
theorem goes14rg {P : Nat → Prop} {C : Array Value} {c : Int} {f f2 : Fr} {x : Int} (w : World) (hP : ∀ b, w.heap.size ≤ b → P b) (hc : 0 ≤ c ∧ c < 4) (h : Live P w C c f x) (k a bb v : Int) (l : List Int) (hOk : OkA k a bb v l.length) (hk : k < 6)
    (hN : ∀ vv w, GotV w vv x → Calls Try.prog 20 #[.agg f.cells, vv] w fun e w' => AnsB w w' e f2 k a bb v l ∧ Below w.heap.size w w') :
    Calls Try.prog 55 #[.agg C, .bool true] w fun e w' => (∃ C' ao ac, e = .returned (.tuple #[.agg C', .agg (acC k a bb v 0 (.slice ao 0 ac)), .bool true]) ∧ Live P w' C' c f2 x) ∧ Below w.heap.size w w' := by
  have HTC := Lib.hid h.task
  have HL := Lib.hid h
  obtain ⟨s, gv, rfl, hg⟩ := h.got
  have HG := Lib.hid hg
  have HN := Lib.hid hN
  have HP := Lib.hid hP
  have HOk := Lib.hid hOk
  have HK := Lib.hid hk
  have HM := Lib.hid (Mem.start w)
  have hl0 : l = [] := by
    have : l.length = 0 := by rcases hOk with h | h | h | h <;> omega
    exact List.eq_nil_of_length_eq_zero this
  subst hl0
  clear h hg hN hP hOk hk
  go_enter Try.func55, Try.ntmps55
  go_wp2_with (first
    | (refine wpm_box HM rfl 38 (.tmp 0) rfl _ rfl ?_; intro W1 hM; (try simp only [List.cons_append, List.nil_append, List.set_cons_succ, List.set_cons_zero, Nat.reduceAdd] at hM); replace HM := hM; clear hM)
    | (refine wpm_al38 HM rfl rfl ?_; intro W2 hM; (try simp only [List.cons_append, List.nil_append, List.set_cons_succ, List.set_cons_zero, Nat.reduceAdd] at hM); replace HM := hM; clear hM)
    | (refine wpm_al59 HM rfl rfl ?_; intro W3 hM; (try simp only [List.cons_append, List.nil_append, List.set_cons_succ, List.set_cons_zero, Nat.reduceAdd] at hM); replace HM := hM; clear hM))
  go_loopw [7] (fun iv wr => iv = .int .i64 0 ∧ wr = W3) (fun _ _ => 0)
  case atStart => exact ⟨rfl, rfl⟩
  case round =>
    obtain ⟨rfl, rfl⟩ := hrel
    go_wp2_with (first
      | (refine wpm_ld38 HM rfl (.tmp 2) rfl 0 rfl rfl HTC.out ?_))
    refine (top_live _ (HL.out.mem (fun _ _ h => h) HM.out)).mono ?_
    rintro e W ⟨rfl, hb⟩
    replace HM := Lib.hid (HM.out.below hb)
    clear hb
    go_wp2_with (first
      | (refine wpm_al57 HM rfl rfl ?_; intro W hM; (try simp only [List.cons_append, List.nil_append, List.set_cons_succ, List.set_cons_zero, Nat.reduceAdd] at hM); replace HM := hM; clear hM)
      | (refine wpm_al59 HM rfl rfl ?_; intro W hM; (try simp only [List.cons_append, List.nil_append, List.set_cons_succ, List.set_cons_zero, Nat.reduceAdd] at hM); replace HM := hM; clear hM)
      | (refine wpm_st57 HM rfl (.tmp 8) (.tmp 22) rfl 3 rfl f rfl rfl ?_; intro W hM; (try simp only [List.cons_append, List.nil_append, List.set_cons_succ, List.set_cons_zero, Nat.reduceAdd] at hM); replace HM := hM; clear hM)
      | (refine wpm_ld57 HM rfl (.tmp 8) rfl 3 rfl rfl ?_)
      | (refine wpm_st57 HM rfl (.tmp 10) (.tmp 28) rfl 4 rfl f rfl rfl ?_; intro W hM; (try simp only [List.cons_append, List.nil_append, List.set_cons_succ, List.set_cons_zero, Nat.reduceAdd] at hM); replace HM := hM; clear hM)
      | (refine wpm_st59 HM rfl (.tmp 11) (.tmp 29) rfl 5 rfl rfl 0 0 0 0 0 none 0 0 rfl rfl ?_; intro W hM; (try simp only [List.cons_append, List.nil_append, List.set_cons_succ, List.set_cons_zero, Nat.reduceAdd] at hM); replace HM := hM; clear hM)
      | (refine wpm_ldc HM rfl 30 (.tmp 33) rfl lv30 0 2 rfl rfl _ rfl ?_))
    refine (HN.out _ _ (HG.out.below HM.out.bel)).mono ?_
    rintro e W ⟨⟨ao1, n1, c1, rfl, hi⟩, hb⟩
    have HI := Lib.hid hi
    replace HM := Lib.hid (HM.out.below hb)
    clear hb hi
    have en : n1 = 0 := by
      obtain ⟨_, _, e, _⟩ := HI.out
      injection e
    subst en
    go_wp2_with (first
      | (refine wpm_st57 HM rfl (.tmp 10) (.tmp 36) rfl 4 rfl f2 rfl rfl ?_; intro W hM; (try simp only [List.cons_append, List.nil_append, List.set_cons_succ, List.set_cons_zero, Nat.reduceAdd] at hM); replace HM := hM; clear hM)
      | (refine wpm_st59 HM rfl (.tmp 11) (.tmp 37) rfl 5 rfl rfl k a bb v 0 ao1 0 c1 rfl rfl ?_; intro W hM; (try simp only [List.cons_append, List.nil_append, List.set_cons_succ, List.set_cons_zero, Nat.reduceAdd] at hM); replace HM := hM; clear hM)
      | (refine wpm_ld38 HM rfl (.tmp 2) rfl 0 rfl rfl HTC.out ?_)
      | (refine wpm_ld57 HM rfl (.tmp 10) rfl 4 rfl rfl ?_)
      | (refine wpm_ld59 HM rfl (.tmp 11) rfl 5 rfl rfl ?_))
    have HMb := HM
    refine (take_go (P := fun b => P b ∧ (b < w.heap.size ∨ _)) _ (fun b hb => ⟨HP.out b (Nat.le_trans HM.out.size hb), .inr hb⟩) hc ((HL.out.weak (Q := fun b => P b ∧ (b < w.heap.size ∨ _)) (fun b h hlt => ⟨h, .inl hlt⟩)).mem (fun _ _ h => h) HM.out) k a bb v _ _ HOk.out HK.out).mono ?_
    rintro e W ⟨⟨C2, rfl, hl⟩, hb⟩
    replace HM := Lib.hid (HM.out.below hb)
    have HM0 := HM
    replace HM := Lib.hid HM.out.rebase
    have HL2 := Lib.hid hl
    have HTC2 := Lib.hid hl.task
    clear hb hl
    go_wp2_with (first
      | (refine wpm_al38 HM rfl rfl ?_; intro W hM; (try simp only [List.cons_append, List.nil_append, List.set_cons_succ, List.set_cons_zero, Nat.reduceAdd] at hM); replace HM := hM; clear hM)
      | (refine wpm_st38 HM rfl (.tmp 12) (.tmp 50) rfl 6 rfl TaskC.zero.size C2 rfl rfl HTC2.out ?_; intro W hM; (try simp only [List.cons_append, List.nil_append, List.set_cons_succ, List.set_cons_zero, Nat.reduceAdd] at hM); replace HM := hM; clear hM)
      | (refine wpm_ld38 HM rfl (.tmp 12) rfl 6 rfl rfl HTC2.out ?_)
      | (refine wpm_st38 HM rfl (.tmp 2) (.tmp 57) rfl 0 rfl HTC.out.size C2 rfl rfl HTC2.out ?_; intro W hM; (try simp only [List.cons_append, List.nil_append, List.set_cons_succ, List.set_cons_zero, Nat.reduceAdd] at hM); replace HM := hM; clear hM))
    replace HM := Lib.hid HM.out.drew
    (try simp only [Act.put, List.setIfInBounds_toArray, List.set_cons_succ, List.set_cons_zero])
    refine wp_region_noPanic ?_
    refine wp_region_plw (.step [] (.cons 0 (.step [] (.cons 1 (.step [] (.cons 2 (.step [] (.cons 3 (.last [false, false, false, false, true]) .nil)) .nil)) (.cons 2 (.step [] (.cons 1 (.step [] (.cons 3 (.last [false, false, false, false, true]) .nil)) .nil)) .nil))) (.cons 1 (.step [] (.cons 0 (.step [] (.cons 2 (.step [] (.cons 3 (.last [false, false, false, false, true]) .nil)) .nil)) .nil)) .nil))) (fun y => ∃ q : World, y = q) (by kernel_rfl) (by kernel_rfl) (by kernel_rfl) (fun _ _ _ _ _ _ _ h => h) ⟨_, rfl⟩ ?_
    simp only [wpPw, wpBw, selF, and_true]
    refine wpQuiet_nil ?_
    refine ⟨?_, ?_⟩
    · refine wpOp_step rfl (fun K hK => ?_)
      rw [if_pos (by rfl)]
      refine wpOm_ld HM 38 (.tmp 2) rfl 59 rfl 0 rfl rfl 4 und38 inf38 HTC2.out.size ?_
      refine hK _ _ ⟨fun y => ∃ q : World, y = q, ⟨_, rfl⟩, fun _ h => h, ?_⟩
      clear hK K
      (try simp only [Act.put, List.setIfInBounds_toArray, List.set_cons_succ, List.set_cons_zero])
      refine wpQuiet_nil ?_
      refine ⟨?_, ?_⟩
      · refine wpOp_step rfl (fun K hK => ?_)
        rw [if_pos (by rfl)]
        refine wpOm_ld HM 59 (.tmp 11) rfl 60 rfl 5 rfl rfl 7 und59 inf59 rfl ?_
        refine hK _ _ ⟨fun y => ∃ q : World, y = q, ⟨_, rfl⟩, fun _ h => h, ?_⟩
        clear hK K
        (try simp only [Act.put, List.setIfInBounds_toArray, List.set_cons_succ, List.set_cons_zero])
        refine wpQuiet_nil ?_
        refine wpOp_step rfl (fun K hK => ?_)
        rw [if_pos (by rfl)]
        refine wpOm_st HM 38 (.tmp 4) (.tmp 59) rfl rfl 1 rfl C2 rfl rfl 4 inf38 rfl HTC2.out.size HTC2.out.one ?_
        intro We hM
        replace HM := hM
        clear hM
        refine hK _ _ ⟨fun y => ∃ q : World, y = q, ⟨_, rfl⟩, fun _ h => h, ?_⟩
        clear hK K
        (try simp only [Act.put, List.setIfInBounds_toArray, List.set_cons_succ, List.set_cons_zero])
        refine wpQuiet_nil ?_
        refine wpOp_step rfl (fun K hK => ?_)
        rw [if_pos (by rfl)]
        refine wpOm_st HM 59 (.tmp 5) (.tmp 60) rfl rfl 2 rfl (acC k a bb v 0 (.slice ao1 0 c1)) rfl rfl 7 inf59 rfl rfl (acC_one _ _ _ _ _ _ _ _) ?_
        intro We hM
        replace HM := hM
        clear hM
        refine hK _ _ ⟨fun y => ∃ q : World, y = q, ⟨_, rfl⟩, fun _ h => h, ?_⟩
        clear hK K
        (try simp only [Act.put, List.setIfInBounds_toArray, List.set_cons_succ, List.set_cons_zero])
        repeat (go_big_quiet_step (fail))
        refine wpQuiet_nil ?_
        refine NoPanic.normal ?_
        go_wp2_with fail
        (try simp only [Exit.inBlock, Exit.then])
        refine bodyPost_ret (res_cct rfl _ _ _ _ _ _ _ rfl rfl rfl ((HM.out.hb 1 _ _ _ rfl).load38 HTC2.out.size) ((HM.out.hb 2 _ _ _ rfl).load59 rfl)) rfl ?_
        refine ⟨⟨C2, _, _, rfl, (HL2.out.mem (fun b hb => HMb.out.out_of hb) HM.out).weak (fun b hb _ => hb.1)⟩, (HM0.out.trans HM.out).bel⟩
      · refine wpOp_step rfl (fun K hK => ?_)
        rw [if_pos (by rfl)]
        refine wpOm_st HM 38 (.tmp 4) (.tmp 59) rfl rfl 1 rfl C2 rfl rfl 4 inf38 rfl HTC2.out.size HTC2.out.one ?_
        intro We hM
        replace HM := hM
        clear hM
        refine hK _ _ ⟨fun y => ∃ q : World, y = q, ⟨_, rfl⟩, fun _ h => h, ?_⟩
        clear hK K
        (try simp only [Act.put, List.setIfInBounds_toArray, List.set_cons_succ, List.set_cons_zero])
        refine wpQuiet_nil ?_
        refine wpOp_step rfl (fun K hK => ?_)
        rw [if_pos (by rfl)]
        refine wpOm_ld HM 59 (.tmp 11) rfl 60 rfl 5 rfl rfl 7 und59 inf59 rfl ?_
        refine hK _ _ ⟨fun y => ∃ q : World, y = q, ⟨_, rfl⟩, fun _ h => h, ?_⟩
        clear hK K
        (try simp only [Act.put, List.setIfInBounds_toArray, List.set_cons_succ, List.set_cons_zero])
        refine wpQuiet_nil ?_
        refine wpOp_step rfl (fun K hK => ?_)
        rw [if_pos (by rfl)]
        refine wpOm_st HM 59 (.tmp 5) (.tmp 60) rfl rfl 2 rfl (acC k a bb v 0 (.slice ao1 0 c1)) rfl rfl 7 inf59 rfl rfl (acC_one _ _ _ _ _ _ _ _) ?_
        intro We hM
        replace HM := hM
        clear hM
        refine hK _ _ ⟨fun y => ∃ q : World, y = q, ⟨_, rfl⟩, fun _ h => h, ?_⟩
        clear hK K
        (try simp only [Act.put, List.setIfInBounds_toArray, List.set_cons_succ, List.set_cons_zero])
        repeat (go_big_quiet_step (fail))
        refine wpQuiet_nil ?_
        refine NoPanic.normal ?_
        go_wp2_with fail
        (try simp only [Exit.inBlock, Exit.then])
        refine bodyPost_ret (res_cct rfl _ _ _ _ _ _ _ rfl rfl rfl ((HM.out.hb 1 _ _ _ rfl).load38 HTC2.out.size) ((HM.out.hb 2 _ _ _ rfl).load59 rfl)) rfl ?_
        refine ⟨⟨C2, _, _, rfl, (HL2.out.mem (fun b hb => HMb.out.out_of hb) HM.out).weak (fun b hb _ => hb.1)⟩, (HM0.out.trans HM.out).bel⟩
    · refine wpOp_step rfl (fun K hK => ?_)
      rw [if_pos (by rfl)]
      refine wpOm_ld HM 59 (.tmp 11) rfl 60 rfl 5 rfl rfl 7 und59 inf59 rfl ?_
      refine hK _ _ ⟨fun y => ∃ q : World, y = q, ⟨_, rfl⟩, fun _ h => h, ?_⟩
      clear hK K
      (try simp only [Act.put, List.setIfInBounds_toArray, List.set_cons_succ, List.set_cons_zero])
      refine wpQuiet_nil ?_
      refine wpOp_step rfl (fun K hK => ?_)
      rw [if_pos (by rfl)]
      refine wpOm_ld HM 38 (.tmp 2) rfl 59 rfl 0 rfl rfl 4 und38 inf38 HTC2.out.size ?_
      refine hK _ _ ⟨fun y => ∃ q : World, y = q, ⟨_, rfl⟩, fun _ h => h, ?_⟩
      clear hK K
      (try simp only [Act.put, List.setIfInBounds_toArray, List.set_cons_succ, List.set_cons_zero])
      refine wpQuiet_nil ?_
      refine wpOp_step rfl (fun K hK => ?_)
      rw [if_pos (by rfl)]
      refine wpOm_st HM 38 (.tmp 4) (.tmp 59) rfl rfl 1 rfl C2 rfl rfl 4 inf38 rfl HTC2.out.size HTC2.out.one ?_
      intro We hM
      replace HM := hM
      clear hM
      refine hK _ _ ⟨fun y => ∃ q : World, y = q, ⟨_, rfl⟩, fun _ h => h, ?_⟩
      clear hK K
      (try simp only [Act.put, List.setIfInBounds_toArray, List.set_cons_succ, List.set_cons_zero])
      refine wpQuiet_nil ?_
      refine wpOp_step rfl (fun K hK => ?_)
      rw [if_pos (by rfl)]
      refine wpOm_st HM 59 (.tmp 5) (.tmp 60) rfl rfl 2 rfl (acC k a bb v 0 (.slice ao1 0 c1)) rfl rfl 7 inf59 rfl rfl (acC_one _ _ _ _ _ _ _ _) ?_
      intro We hM
      replace HM := hM
      clear hM
      refine hK _ _ ⟨fun y => ∃ q : World, y = q, ⟨_, rfl⟩, fun _ h => h, ?_⟩
      clear hK K
      (try simp only [Act.put, List.setIfInBounds_toArray, List.set_cons_succ, List.set_cons_zero])
      repeat (go_big_quiet_step (fail))
      refine wpQuiet_nil ?_
      refine NoPanic.normal ?_
      go_wp2_with fail
      (try simp only [Exit.inBlock, Exit.then])
      refine bodyPost_ret (res_cct rfl _ _ _ _ _ _ _ rfl rfl rfl ((HM.out.hb 1 _ _ _ rfl).load38 HTC2.out.size) ((HM.out.hb 2 _ _ _ rfl).load59 rfl)) rfl ?_
      refine ⟨⟨C2, _, _, rfl, (HL2.out.mem (fun b hb => HMb.out.out_of hb) HM.out).weak (fun b hb _ => hb.1)⟩, (HM0.out.trans HM.out).bel⟩
set_option maxHeartbeats 4000000 in
set_option maxRecDepth 100000 in
theorem goes14re {P : Nat → Prop} {C : Array Value} {c : Int} {f f2 : Fr} {x : Int} (w : World) (hP : ∀ b, w.heap.size ≤ b → P b) (hc : 0 ≤ c ∧ c < 4) (h : Live P w C c f x) (k a bb v : Int) (l : List Int) (hOk : OkA k a bb v l.length) (hk : k = 7)
    (hN : ∀ vv w, GotV w vv x → Calls Try.prog 20 #[.agg f.cells, vv] w fun e w' => AnsB w w' e f2 k a bb v l ∧ Below w.heap.size w w') :
    Calls Try.prog 55 #[.agg C, .bool true] w fun e w' => (∃ C', e = .returned (.tuple #[.agg C', .agg acZ, .bool false]) ∧ Dead P w' C' c l) ∧ Below w.heap.size w w' := by
  have HTC := Lib.hid h.task
  have HL := Lib.hid h
  obtain ⟨s, gv, rfl, hg⟩ := h.got
  have HG := Lib.hid hg
  have HN := Lib.hid hN
  have HP := Lib.hid hP
  have HOk := Lib.hid hOk
  have HK := Lib.hid hk
  have HM := Lib.hid (Mem.start w)
  clear h hg hN hP hOk hk
  go_enter Try.func55, Try.ntmps55
  go_wp2_with (first
    | (refine wpm_box HM rfl 38 (.tmp 0) rfl _ rfl ?_; intro W1 hM; (try simp only [List.cons_append, List.nil_append, List.set_cons_succ, List.set_cons_zero, Nat.reduceAdd] at hM); replace HM := hM; clear hM)
    | (refine wpm_al38 HM rfl rfl ?_; intro W2 hM; (try simp only [List.cons_append, List.nil_append, List.set_cons_succ, List.set_cons_zero, Nat.reduceAdd] at hM); replace HM := hM; clear hM)
    | (refine wpm_al59 HM rfl rfl ?_; intro W3 hM; (try simp only [List.cons_append, List.nil_append, List.set_cons_succ, List.set_cons_zero, Nat.reduceAdd] at hM); replace HM := hM; clear hM))
  go_loopw [7] (fun iv wr => (iv = .int .i64 0 ∧ wr = W3) ∨ (iv = .int .i64 1 ∧ ∃ C2, Mem (fun _ => False) w wr [(w.heap.size, C2, 38), (W1.heap.size, tkC 0 (.slice none 0 0) (.slice none 0 0) false, 38), (W2.heap.size, acZ, 59)] ∧ Dead (fun b => P b ∧ ¬ (b = w.heap.size ∨ b = W1.heap.size ∨ b = W2.heap.size)) wr C2 c l)) (fun iv _ => 1 - (intOf iv).toNat)
  case atStart => exact .inl ⟨rfl, rfl⟩
  case round =>
    rcases hrel with ⟨rfl, rfl⟩ | ⟨rfl, C2, hM, hD⟩
    · go_wp2_with (first
        | (refine wpm_ld38 HM rfl (.tmp 2) rfl 0 rfl rfl HTC.out ?_))
      refine (top_live _ (HL.out.mem (fun _ _ h => h) HM.out)).mono ?_
      rintro e W ⟨rfl, hb⟩
      replace HM := Lib.hid (HM.out.below hb)
      clear hb
      go_wp2_with (first
        | (refine wpm_al57 HM rfl rfl ?_; intro W hM; (try simp only [List.cons_append, List.nil_append, List.set_cons_succ, List.set_cons_zero, Nat.reduceAdd] at hM); replace HM := hM; clear hM)
        | (refine wpm_al59 HM rfl rfl ?_; intro W hM; (try simp only [List.cons_append, List.nil_append, List.set_cons_succ, List.set_cons_zero, Nat.reduceAdd] at hM); replace HM := hM; clear hM)
        | (refine wpm_st57 HM rfl (.tmp 8) (.tmp 22) rfl 3 rfl f rfl rfl ?_; intro W hM; (try simp only [List.cons_append, List.nil_append, List.set_cons_succ, List.set_cons_zero, Nat.reduceAdd] at hM); replace HM := hM; clear hM)
        | (refine wpm_ld57 HM rfl (.tmp 8) rfl 3 rfl rfl ?_)
        | (refine wpm_st57 HM rfl (.tmp 10) (.tmp 28) rfl 4 rfl f rfl rfl ?_; intro W hM; (try simp only [List.cons_append, List.nil_append, List.set_cons_succ, List.set_cons_zero, Nat.reduceAdd] at hM); replace HM := hM; clear hM)
        | (refine wpm_st59 HM rfl (.tmp 11) (.tmp 29) rfl 5 rfl rfl 0 0 0 0 0 none 0 0 rfl rfl ?_; intro W hM; (try simp only [List.cons_append, List.nil_append, List.set_cons_succ, List.set_cons_zero, Nat.reduceAdd] at hM); replace HM := hM; clear hM)
        | (refine wpm_ldc HM rfl 30 (.tmp 33) rfl lv30 0 2 rfl rfl _ rfl ?_))
      have HMc := HM
      refine (HN.out _ _ (HG.out.below HM.out.bel)).mono ?_
      rintro e W ⟨⟨ao1, n1, c1, rfl, hi⟩, hb⟩
      have HI := Lib.hid hi
      replace HM := Lib.hid (HM.out.below hb)
      clear hb hi
      have en : n1 = l.length := by
        obtain ⟨_, _, e, _⟩ := HI.out
        injection e
      subst en
      have HW9 := HM
      replace HM := Lib.hid HM.out.rebase
      go_wp2_with (first
        | (refine wpm_st57 HM rfl (.tmp 10) (.tmp 36) rfl 4 rfl f2 rfl rfl ?_; intro W hM; (try simp only [List.cons_append, List.nil_append, List.set_cons_succ, List.set_cons_zero, Nat.reduceAdd] at hM); replace HM := hM; clear hM)
        | (refine wpm_st59 HM rfl (.tmp 11) (.tmp 37) rfl 5 rfl rfl k a bb v 0 ao1 l.length c1 rfl rfl ?_; intro W hM; (try simp only [List.cons_append, List.nil_append, List.set_cons_succ, List.set_cons_zero, Nat.reduceAdd] at hM); replace HM := hM; clear hM)
        | (refine wpm_ld38 HM rfl (.tmp 2) rfl 0 rfl rfl HTC.out ?_)
        | (refine wpm_ld57 HM rfl (.tmp 10) rfl 4 rfl rfl ?_)
        | (refine wpm_ld59 HM rfl (.tmp 11) rfl 5 rfl rfl ?_))
      have HI2 := Lib.hid (HI.out.mem HM.out (fun b hb hx => by obtain ⟨i, C, t, hi⟩ := hx; have := HMc.out.lt hi; omega))
      replace HM := Lib.hid (HW9.out.trans HM.out)
      have HMb := HM
      refine (take_end (P := fun b => P b ∧ (b < w.heap.size ∨ _)) _ (fun b hb => ⟨HP.out b (Nat.le_trans HM.out.size hb), .inr hb⟩) hc ((HL.out.weak (Q := fun b => P b ∧ (b < w.heap.size ∨ _)) (fun b h hlt => ⟨h, .inl hlt⟩)).mem (fun _ _ h => h) HM.out) k a bb v _ l _ _ HOk.out HK.out HI2.out).mono ?_
      rintro e W ⟨⟨C2, rfl, hl⟩, hb⟩
      replace HM := Lib.hid (HM.out.below hb)
      have HM0 := HM
      replace HM := Lib.hid HM.out.rebase
      have HL2 := Lib.hid hl
      have HTC2 := Lib.hid hl.task
      clear hb hl
      go_wp2_with (first
        | (refine wpm_al38 HM rfl rfl ?_; intro W hM; (try simp only [List.cons_append, List.nil_append, List.set_cons_succ, List.set_cons_zero, Nat.reduceAdd] at hM); replace HM := hM; clear hM)
        | (refine wpm_st38 HM rfl (.tmp 12) (.tmp 50) rfl 6 rfl TaskC.zero.size C2 rfl rfl HTC2.out ?_; intro W hM; (try simp only [List.cons_append, List.nil_append, List.set_cons_succ, List.set_cons_zero, Nat.reduceAdd] at hM); replace HM := hM; clear hM)
        | (refine wpm_ld38 HM rfl (.tmp 12) rfl 6 rfl rfl HTC2.out ?_)
        | (refine wpm_st38 HM rfl (.tmp 2) (.tmp 57) rfl 0 rfl HTC.out.size C2 rfl rfl HTC2.out ?_; intro W hM; (try simp only [List.cons_append, List.nil_append, List.set_cons_succ, List.set_cons_zero, Nat.reduceAdd] at hM); replace HM := hM; clear hM))
      go_roundw
      case rel =>
        refine .inr ⟨rfl, C2, (HM0.out.trans HM.out).sub (fun i e hi => ?_), (HL2.out.mem (fun b hb => HMb.out.out_of hb) HM.out).weak (fun b hb _ => ⟨hb.1, fun e => ?_⟩)⟩
        · match i, hi with
          | 0, hi => exact hi
          | 1, hi => exact hi
          | 2, hi => exact hi
          | i + 3, hi => simp at hi
        · rcases e with rfl | rfl | rfl
          · exact HMb.out.out_of hb ⟨0, _, _, rfl⟩
          · exact HMb.out.out_of hb ⟨1, _, _, rfl⟩
          · exact HMb.out.out_of hb ⟨2, _, _, rfl⟩
      case measure => simp [intOf]
    · have HM := Lib.hid hM
      have HD := Lib.hid hD
      have HTC2 := Lib.hid hD.task
      clear hM hD
      go_wp2_with (first
        | (refine wpm_ld38 HM rfl (.tmp 2) rfl 0 rfl rfl HTC2.out ?_))
      refine (top_dead _ HD.out).mono ?_
      rintro e W ⟨rfl, hb⟩
      replace HM := Lib.hid (HM.out.below hb)
      replace HD := Lib.hid (HD.out.below hb)
      have HM0 := HM
      replace HM := Lib.hid HM.out.rebase
      clear hb
      go_wp2_with (first
        | (refine wpm_al57 HM rfl rfl ?_; intro W hM; (try simp only [List.cons_append, List.nil_append, List.set_cons_succ, List.set_cons_zero, Nat.reduceAdd] at hM); replace HM := hM; clear hM)
        | (refine wpm_st57 HM rfl (.tmp 8) (.tmp 22) rfl 3 rfl Fr.zero rfl rfl ?_; intro W hM; (try simp only [List.cons_append, List.nil_append, List.set_cons_succ, List.set_cons_zero, Nat.reduceAdd] at hM); replace HM := hM; clear hM)
        | (refine wpm_ld38 HM rfl (.tmp 2) rfl 0 rfl rfl HTC2.out ?_)
        | (refine wpm_st38 HM rfl (.tmp 4) (.tmp 26) rfl 1 rfl TaskC.zero.size C2 rfl rfl HTC2.out ?_; intro W hM; (try simp only [List.cons_append, List.nil_append, List.set_cons_succ, List.set_cons_zero, Nat.reduceAdd] at hM); replace HM := hM; clear hM)
        | (refine wpm_st59 HM rfl (.tmp 5) (.tmp 27) rfl 2 rfl rfl 0 0 0 0 0 none 0 0 rfl rfl ?_; intro W hM; (try simp only [List.cons_append, List.nil_append, List.set_cons_succ, List.set_cons_zero, Nat.reduceAdd] at hM); replace HM := hM; clear hM))
      (try simp only [Exit.inBlock, Exit.then])
      refine bodyPost_ret (res_cct rfl _ _ _ _ _ _ _ rfl rfl rfl ((HM.out.hb 1 _ _ _ rfl).load38 HTC2.out.size) ((HM.out.hb 2 _ _ _ rfl).load59 rfl)) rfl ?_
      refine ⟨⟨C2, rfl, (HD.out.mem (fun b hb hx => ?_) HM.out).weak (fun b hb _ => hb.1)⟩, (HM0.out.trans HM.out).bel⟩
      obtain ⟨i, C, t, hi⟩ := hx
      match i, hi with
      | 0, hi => simp at hi; exact hb.2 (.inl hi.1.symm)
      | 1, hi => simp at hi; exact hb.2 (.inr (.inl hi.1.symm))
      | 2, hi => simp at hi; exact hb.2 (.inr (.inr hi.1.symm))
      | i + 3, hi => simp at hi
end Go.Proofs.Ytgpdknacnmapiaa
