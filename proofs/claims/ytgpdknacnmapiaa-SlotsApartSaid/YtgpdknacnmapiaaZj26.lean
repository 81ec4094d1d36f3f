/-
  Parts of a proof, put together: Pk0, Pk.
-/
import Derived.Test.YtgpdknacnmapiaaZj01
import Derived.Test.YtgpdknacnmapiaaZj02
import Derived.Test.YtgpdknacnmapiaaZj03
import Derived.Test.YtgpdknacnmapiaaZj04
import Derived.Test.YtgpdknacnmapiaaZj05
import Derived.Test.YtgpdknacnmapiaaZj06
import Derived.Test.YtgpdknacnmapiaaZj07
import Derived.Test.YtgpdknacnmapiaaZj08
import Derived.Test.YtgpdknacnmapiaaZj09
import Derived.Test.YtgpdknacnmapiaaZj10
import Derived.Test.YtgpdknacnmapiaaZj11
import Derived.Test.YtgpdknacnmapiaaZj12
import Derived.Test.YtgpdknacnmapiaaZj13
import Derived.Test.YtgpdknacnmapiaaZj14
import Derived.Test.YtgpdknacnmapiaaZj15
import Derived.Test.YtgpdknacnmapiaaZj16
import Derived.Test.YtgpdknacnmapiaaZj17
import Derived.Test.YtgpdknacnmapiaaZj18
import Derived.Test.YtgpdknacnmapiaaZj19
import Derived.Test.YtgpdknacnmapiaaZj20
import Derived.Test.YtgpdknacnmapiaaZj21
import Derived.Test.YtgpdknacnmapiaaZj22
import Derived.Test.YtgpdknacnmapiaaZj23
import Derived.Test.YtgpdknacnmapiaaZj24
import Derived.Test.YtgpdknacnmapiaaZj25
namespace Go.Proofs.Ytgpdknacnmapiaa
set_option linter.unusedVariables false
set_option linter.unusedSimpArgs false
open Go.RowKit
/-- blocks that are neither the run's, nor the clients', nor their slices' -/
def PH (R H : Nat) (h : HV) : Nat → Prop := fun b => b ≠ R ∧ b ≠ H ∧ ∀ i, i < 8 → (h.sl i).ownBlock ≠ some b
theorem Mem.startRH {w : World} {R H : Nat} {C D : Array Value} (hR : HB w R C 74) (hH : HB w H D 72) (hne : R ≠ H) : Mem (fun b => b = R ∨ b = H) w w [(R, C, 74), (H, D, 72)] := by
  refine ⟨rfl, rfl, rfl, Nat.le_refl _, fun _ _ _ => rfl, fun i b C' t' hi => ?_, fun i b C' t' hi => ?_, fun i j b C1 C2 t1 t2 hi hj => ?_⟩
  · match i, hi with
    | 0, hi => simp at hi; obtain ⟨rfl, rfl, rfl⟩ := hi; exact hR
    | 1, hi => simp at hi; obtain ⟨rfl, rfl, rfl⟩ := hi; exact hH
    | i + 2, hi => simp at hi
  · match i, hi with
    | 0, hi => simp at hi; exact .inl (.inl hi.1.symm)
    | 1, hi => simp at hi; exact .inl (.inr hi.1.symm)
    | i + 2, hi => simp at hi
  · match i, j, hi, hj with
    | 0, 0, _, _ => rfl
    | 1, 1, _, _ => rfl
    | 0, 1, hi, hj => simp at hi hj; exact absurd (hi.1.trans hj.1.symm) hne
    | 1, 0, hi, hj => simp at hi hj; exact absurd (hj.1.trans hi.1.symm) hne
    | i + 2, _, hi, _ => simp at hi
    | _, j + 2, _, hj => simp at hj
/-- a call that changes one of the blocks alone -/
theorem Mem.upR {X : Nat → Prop} {w0 W W' : World} {L : List (Nat × Array Value × TypeId)} {i R : Nat} {C C' : Array Value} {t : TypeId} (h : Mem X w0 W L) (hi : L[i]? = some (R, C, t)) (h2 : Mem (fun b => b = R) W W' [(R, C', t)]) : Mem X w0 W' (L.set i (R, C', t)) := by
  have hset : ∀ (j b2 : Nat) (C2 : Array Value) (t2 : TypeId), (L.set i (R, C', t))[j]? = some (b2, C2, t2) → (j = i ∧ b2 = R ∧ C2 = C' ∧ t2 = t) ∨ (j ≠ i ∧ L[j]? = some (b2, C2, t2)) := by
    intro j b2 C2 t2 hj
    rw [List.getElem?_set] at hj
    by_cases e : i = j
    · subst e
      have hl : i < L.length := (List.getElem?_eq_some_iff.1 hi).1
      rw [if_pos rfl, if_pos hl] at hj
      simp at hj
      exact .inl ⟨rfl, hj.1.symm, hj.2.1.symm, hj.2.2.symm⟩
    · rw [if_neg e] at hj
      exact .inr ⟨fun e2 => e e2.symm, hj⟩
  refine ⟨h2.os.trans h.os, h2.tape.trans h.tape, h2.output.trans h.output, Nat.le_trans h.size h2.size, fun k hk hx => ?_, fun j b2 C2 t2 hj => ?_, fun j b2 C2 t2 hj => ?_, fun j1 j2 b2 C1 C2 t1 t2 hj1 hj2 => ?_⟩
  · have : k ≠ R := by
      rintro rfl
      rcases h.st i _ _ _ hi with hx' | hx'
      · exact hx hx'
      · omega
    exact (h2.old k (Nat.lt_of_lt_of_le hk h.size) this).trans (h.old k hk hx)
  · rcases hset j b2 C2 t2 hj with ⟨rfl, rfl, rfl, rfl⟩ | ⟨hne, hk⟩
    · exact h2.hb 0 _ _ _ rfl
    · exact (h.hb j b2 C2 t2 hk).oth (h2.old b2 (h.lt hk) (by rintro rfl; exact hne (h.nd j i _ _ _ _ _ hk hi)))
  · rcases hset j b2 C2 t2 hj with ⟨rfl, rfl, rfl, rfl⟩ | ⟨hne, hk⟩
    · exact h.st _ _ _ _ hi
    · exact h.st _ _ _ _ hk
  · rcases hset j1 b2 C1 t1 hj1 with ⟨rfl, rfl, rfl, rfl⟩ | ⟨hne, hk1⟩
    · rcases hset j2 _ C2 t2 hj2 with ⟨rfl, _, _, _⟩ | ⟨hne2, hk2⟩
      · rfl
      · exact absurd (h.nd j2 _ _ _ _ _ _ hk2 hi) hne2
    · rcases hset j2 _ C2 t2 hj2 with ⟨rfl, rfl, rfl, rfl⟩ | ⟨hne2, hk2⟩
      · exact absurd (h.nd j1 _ _ _ _ _ _ hk1 hi) hne
      · exact h.nd _ _ _ _ _ _ _ hk1 hk2
theorem run_bsI3 (x y z : Int) (w : World) : (Instr.buildSlice 30 3 #[(0, .int .i64 x), (1, .int .i64 y), (2, .int .i64 z)]).run Try.prog w = .ok (.slice (some ⟨w.heap.size, 0, none⟩) 3 3) (w.alloc (.cells #[.int .i64 x, .int .i64 y, .int .i64 z] 3)) := by kernel_rfl
theorem run_bsI2 (x y : Int) (w : World) : (Instr.buildSlice 30 2 #[(0, .int .i64 x), (1, .int .i64 y)]).run Try.prog w = .ok (.slice (some ⟨w.heap.size, 0, none⟩) 2 2) (w.alloc (.cells #[.int .i64 x, .int .i64 y] 3)) := by kernel_rfl
section
variable {X : Nat → Prop} {w0 w : World} {L : List (Nat × Array Value × TypeId)} {ops : Array Oper} {rest : List Oper} {o : Oper} {a : Act} {Q : Exit → Act → World → Prop} {K : Act → World → Prop}
theorem wpm_bsI3 (HM : Hid (Mem X w0 w L)) (hg : o.guard = none) (p q r : Operand) (ho : o.op = .buildSlice 30 3 #[(0, p), (1, q), (2, r)]) (x y z : Int) (hp : a.eval p = .int .i64 x) (hq : a.eval q = .int .i64 y) (hr : a.eval r = .int .i64 z)
    (h : ∀ W, Hid (Mem X w0 W (L ++ [(w.heap.size, #[.int .i64 x, .int .i64 y, .int .i64 z], 3)])) → wpList Try.prog ops Q rest (a.put o.dst (.slice (some ⟨w.heap.size, 0, none⟩) 3 3)) W) : wpList Try.prog ops Q (o :: rest) a w := by
  refine wpList_plain hg fun K hK => ?_
  unfold Oper.wp execOp
  simp only [ho]
  have hr' := run_bsI3 x y z w
  simp [hp, hq, hr, hr', Sem.run_bind]
  exact hK _ _ (h _ (Lib.hid (HM.out.alloc _ _)))
theorem wpm_bsI2 (HM : Hid (Mem X w0 w L)) (hg : o.guard = none) (p q : Operand) (ho : o.op = .buildSlice 30 2 #[(0, p), (1, q)]) (x y : Int) (hp : a.eval p = .int .i64 x) (hq : a.eval q = .int .i64 y)
    (h : ∀ W, Hid (Mem X w0 W (L ++ [(w.heap.size, #[.int .i64 x, .int .i64 y], 3)])) → wpList Try.prog ops Q rest (a.put o.dst (.slice (some ⟨w.heap.size, 0, none⟩) 2 2)) W) : wpList Try.prog ops Q (o :: rest) a w := by
  refine wpList_plain hg fun K hK => ?_
  unfold Oper.wp execOp
  simp only [ho]
  have hr' := run_bsI2 x y w
  simp [hp, hq, hr', Sem.run_bind]
  exact hK _ _ (h _ (Lib.hid (HM.out.alloc _ _)))
end
/-- the slices of the clients -/
structure OwnV (B : Nat) (W : World) (h : HV) (hs : Nat → List Int) (ns : Nat → List Bool) : Prop where
  hl : ∀ c, c < 4 → W.ownsRow B 3 1 (h.sl (2 * c)) (hs c).length ((hs c).map (Value.int .i64))
  nl : ∀ c, c < 4 → W.ownsRow B 4 1 (h.sl (2 * c + 1)) (ns c).length ((ns c).map Value.bool)
  ds : ∀ i j b, i < 8 → j < 8 → i ≠ j → (h.sl i).ownBlock = some b → (h.sl j).ownBlock ≠ some b
theorem OwnV.lt {B : Nat} {W : World} {h : HV} {hs : Nat → List Int} {ns : Nat → List Bool} (ho : OwnV B W h hs ns) (i : Nat) (hi : i < 8) (b : Nat) (hb : (h.sl i).ownBlock = some b) : B ≤ b ∧ b < W.heap.size := by
  rcases Nat.mod_two_eq_zero_or_one i with h0 | h0
  · obtain ⟨c, rfl⟩ : ∃ c, i = 2 * c := ⟨i / 2, by omega⟩
    exact World.ownsRow.lt (ho.hl c (by omega)) b hb
  · obtain ⟨c, rfl⟩ : ∃ c, i = 2 * c + 1 := ⟨i / 2, by omega⟩
    exact World.ownsRow.lt (ho.nl c (by omega)) b hb
theorem PH.hP {R H B : Nat} {W : World} {h : HV} {hs : Nat → List Int} {ns : Nat → List Bool} (hR : R < W.heap.size) (hH : H < W.heap.size) (ho : OwnV B W h hs ns) {n : Nat} (hn : W.heap.size ≤ n) : ∀ b, n ≤ b → PH R H h b := fun b hb => ⟨by omega, by omega, fun i hi e => by have := ho.lt i hi b e; omega⟩
theorem OwnV.keep {B : Nat} {W W' : World} {h : HV} {hs : Nat → List Int} {ns : Nat → List Bool} (ho : OwnV B W h hs ns) (hk : ∀ b, B ≤ b → b < W.heap.size → W'.heap[b]? = W.heap[b]?) : OwnV B W' h hs ns := by
  have key : ∀ {e : TypeId} {v : Value} {n : Nat} {xs : List Value}, W.ownsRow B e 1 v n xs → W'.ownsRow B e 1 v n xs := fun {e v n xs} h => by
    refine ⟨h.1, ?_⟩
    rcases h.2 with hn | ⟨g, cap, cur, rfl, hb, hgg, rest⟩
    · exact .inl hn
    · exact .inr ⟨g, cap, cur, rfl, hb, by rw [hk g hb (Array.getElem?_eq_some_iff.1 hgg).1]; exact hgg, rest⟩
  exact ⟨fun c hc => key (ho.hl c hc), fun c hc => key (ho.nl c hc), ho.ds⟩
/-- what a pick leaves, of the run and of what clients have -/
structure PickV (R H B : Nat) (W : World) (C D : Array Value) (s : RS) (h : HV) (l : List Int) (hs : Nat → List Int) (ns : Nat → List Bool) : Prop where
  run : RunV (PH R H h) R W C s l
  hb : HB W H D 72
  hav : HavA D h
  own : OwnV B W h hs ns
  ne : R ≠ H
  lo : R < B ∧ H < B ∧ (B = R + 1 ∨ B = H + 1)
/-- what is left as it was -/
structure KeepP (R H : Nat) (h : HV) (w w' : World) : Prop where
  os : w'.os = w.os
  tape : w'.tape = w.tape
  output : w'.output = w.output
  size : w.heap.size ≤ w'.heap.size
  old : ∀ b, b < w.heap.size → PH R H h b → w'.heap[b]? = w.heap[b]?
def Picked (R H B : Nat) (h : HV) (w w' : World) (l : List Int) (hs : Nat → List Int) (ns : Nat → List Bool) (Pr : RS → HV → Prop) : Prop :=
  ∃ C' D' s' h', PickV R H B w' C' D' s' h' l hs ns ∧ KeepP R H h w w' ∧ Pr s' h'
theorem Mem.keepP {R H : Nat} {h : HV} {w w' : World} {L : List (Nat × Array Value × TypeId)} (hM : Mem (fun b => b = R ∨ b = H) w w' L) : KeepP R H h w w' :=
  ⟨hM.os, hM.tape, hM.output, hM.size, fun b hb hp => hM.old b hb (fun e => by rcases e with e | e; exact hp.1 e; exact hp.2.1 e)⟩
theorem ol_lt {X : Nat → Prop} {w0 W : World} {L : List (Nat × Array Value × TypeId)} (hM : Mem X w0 W L) {b : Nat} (hb : b < w0.heap.size) (hX : ¬ X b) : ¬ OL L b := by
  rintro ⟨i, C, t, hi⟩
  rcases hM.st i _ _ _ hi with h | h
  · exact hX h
  · omega
/-- a run's facts, at a later world whose own blocks are told -/
theorem RunV.mem {R H : Nat} {h : HV} {w W : World} {C : Array Value} {s : RS} {l : List Int} {L : List (Nat × Array Value × TypeId)} (hr : RunV (PH R H h) R w C s l) (hM : Mem (fun b => b = R ∨ b = H) w W L) (hR : HB W R C 74) : RunV (fun b => PH R H h b ∧ ¬ OL L b) R W C s l := by
  have hX : ∀ b, PH R H h b → ¬ (b = R ∨ b = H) := fun b hb e => by rcases e with e | e; exact hb.1 e; exact hb.2.1 e
  have h1 := hr.weak (Q := fun b => PH R H h b ∧ ¬ OL L b) (fun b hb hlt => ⟨hb, ol_lt hM hlt (hX b hb)⟩)
  refine h1.oth (fun b hb hlt => ?_)
  rcases hb with hb | rfl
  · exact hM.old b hlt (hX b hb.1)
  · exact hR.trans hr.hb.symm
theorem RunV.out {R H : Nat} {h : HV} {w W : World} {C C' : Array Value} {s : RS} {l : List Int} {L L2 : List (Nat × Array Value × TypeId)} (hr : RunV (fun b => PH R H h b ∧ ¬ OL L b) R w C s l) (hM : Mem (OL L) w W L2) (hR : HB W R C 74) : RunV (PH R H h) R W C s l := by
  refine (hr.oth (W' := W) (fun b hb hlt => ?_)).weak (fun b hb _ => hb.1)
  rcases hb with hb | rfl
  · exact hM.old b hlt hb.2
  · exact hR.trans hr.hb.symm
end Go.Proofs.Ytgpdknacnmapiaa
namespace Go.Proofs.Ytgpdknacnmapiaa
set_option linter.unusedVariables false
set_option linter.unusedSimpArgs false
open Go.RowKit
open Go
theorem OL.two {R H : Nat} {C C' D D' : Array Value} {t t' : TypeId} {L : List (Nat × Array Value × TypeId)} {b : Nat} (h : OL ((R, C', t) :: L) b) : OL ((R, C, t) :: L) b := by
  obtain ⟨i, E, u, hi⟩ := h
  match i, hi with
  | 0, hi => simp at hi; exact ⟨0, C, t, by rw [hi.1]; rfl⟩
  | i + 1, hi => exact ⟨i + 1, E, u, hi⟩
theorem RunV.out2 {R H : Nat} {h : HV} {w w3 W : World} {C C' : Array Value} {s : RS} {l : List Int} {L L2 : List (Nat × Array Value × TypeId)} {X : Nat → Prop} (hr : RunV (fun b => PH R H h b ∧ ¬ OL ((R, C, 74) :: L) b) R w3 C' s l) (hM0 : Mem X w w3 ((R, C', 74) :: L)) (hM : Mem (OL ((R, C', 74) :: L)) w3 W L2) (hR : HB W R C' 74) : RunV (PH R H h) R W C' s l := by
  refine (hr.oth (W' := W) (fun b hb hlt => ?_)).weak (fun b hb _ => hb.1)
  rcases hb with hb | rfl
  · exact hM.old b hlt (fun e => hb.2 (OL.two (H := 0) (D := #[]) (D' := #[]) (t' := 0) e))
  · exact hR.trans hr.hb.symm
theorem Live.out2 {R H : Nat} {h : HV} {w w2 w3 W : World} {C C' : Array Value} {L L2 : List (Nat × Array Value × TypeId)} {X : Nat → Prop} {T : Array Value} {c : Int} {f : Fr} {x : Int} (hr : Live (fun b => PH R H h b ∧ ¬ OL ((R, C, 74) :: L) b) w3 T c f x) (hM0 : Mem X w w3 ((R, C', 74) :: L)) (hMb : Mem X w w2 ((R, C, 74) :: L)) (hM : Mem (OL ((R, C', 74) :: L)) w3 W L2) : Live (PH R H h) W T c f x :=
  (hr.keep (fun b hb hlt => hM.old b hlt (fun e => hb.2 (OL.two (H := 0) (D := #[]) (D' := #[]) (t' := 0) e)))).weak (fun b hb _ => hb.1)
set_option maxHeartbeats 4000000 in
set_option maxRecDepth 100000 in
theorem pick_idle (c : Nat) (hc : c < 4) (cl dO nN m : Int) (ecl : (wrap64 (cl.tmod 4 + 4)).tmod 4 = (c : Int)) (hm : 1 ≤ m ∧ m ≤ 4) (R H B : Nat) (w : World) (C D : Array Value) (s : RS) (h : HV) (l : List Int) (hs : Nat → List Int) (ns : Nat → List Bool) (hV : PickV R H B w C D s h l hs ns) (hb : s.b c = false) (h0 : dO ≠ 0) (h1 : dO ≠ 1) (h2 : dO ≠ 2 ∨ hs c = []) :
    Calls Try.prog 24 #[.pointer (some ⟨R, 0, none⟩), .pointer (some ⟨H, 0, none⟩), .agg #[.int .i64 cl, .int .i64 dO, .int .i64 nN], .int .i64 m] w fun e w' => e = .returned (.bool true) ∧ Mem (fun b => b = R ∨ b = H) w w' [(R, C, 74), (H, D, 72)] := by
  have HWHO : Hid (∀ w, Calls Try.prog 23 #[.int .i64 cl] w fun e w' => e = .returned (.int .i64 c) ∧ w' = w) := Lib.hid (fun w => by
    obtain ⟨S, -, eS, hh⟩ := who_p cl w
    rw [ecl] at eS
    have : S = c := by omega
    rw [this] at hh; exact hh)
  have HV := Lib.hid hV
  have HM := Lib.hid (Mem.startRH hV.run.hb hV.hb hV.ne)
  have HD := Lib.hid hV.hav
  have HBZ := Lib.hid (by have h2 := hV.run.ra.b c hc; rw [hb] at h2; exact h2 : C[35 + c]? = some (.bool false))
  have d0 : (dO == 0) = false := by rw [beq_eq_false_iff_ne]; exact h0
  have d1 : (dO == 1) = false := by rw [beq_eq_false_iff_ne]; exact h1
  obtain ⟨ao, n, cap, esl, hn⟩ : ∃ ao n cap, h.sl (2 * c) = .slice ao n cap ∧ n = (hs c).length := by
    rcases (hV.own.hl c hc).2 with ⟨e, h0⟩ | ⟨g, cap, cur, e, -⟩
    · exact ⟨none, 0, 0, e, h0.symm⟩
    · exact ⟨_, _, _, e, rfl⟩
  have HSL := Lib.hid (by have h3 := hV.hav.hl c hc; rw [esl] at h3; exact h3 : D[c * 5]? = some (.slice ao n cap))
  have d2 : (dO == 2) = false ∨ ((dO == 2) = true ∧ n = 0) := by
    by_cases e : dO = 2
    · exact .inr ⟨by simpa using e, by rcases h2 with h2 | h2; exact absurd e h2; rw [hn, h2]; rfl⟩
    · exact .inl (by rw [beq_eq_false_iff_ne]; exact e)
  clear hV hb ecl hm h0 h1 h2 esl hn
  rcases d2 with d2 | ⟨d2, rfl⟩
  · go_enter Try.func24, Try.ntmps24
    go_wp2_with (first
      | (refine wpm_box HM rfl 69 (.tmp 2) rfl _ rfl ?_; intro U1 hM; (try simp only [List.cons_append, List.nil_append, List.set_cons_succ, List.set_cons_zero, Nat.reduceAdd] at hM); replace HM := hM; clear hM)
      | (refine wpm_ldc HM rfl 3 (.tmp 16) rfl lv3 2 0 rfl rfl _ rfl ?_))
    refine (HWHO.out _).mono ?_
    rintro e W1 ⟨rfl, rfl⟩
    have kb := (HM.out.hb 0 _ _ _ rfl).cell (k := 35 + c) HBZ.out
    have kx := (HM.out.hb 2 _ _ _ rfl).cell (k := 1) (v := .int .i64 dO) rfl
    have kh := (HM.out.hb 1 _ _ _ rfl).cell (k := c * 5) HSL.out
    go_wp2_with fail
    go_ret
    exact ⟨rfl, HM.out.sub (fun i e hi => by match i, hi with | 0, hi => exact hi | 1, hi => exact hi | i + 2, hi => simp at hi)⟩
  · go_enter Try.func24, Try.ntmps24
    go_wp2_with (first
      | (refine wpm_box HM rfl 69 (.tmp 2) rfl _ rfl ?_; intro U1 hM; (try simp only [List.cons_append, List.nil_append, List.set_cons_succ, List.set_cons_zero, Nat.reduceAdd] at hM); replace HM := hM; clear hM)
      | (refine wpm_ldc HM rfl 3 (.tmp 16) rfl lv3 2 0 rfl rfl _ rfl ?_))
    refine (HWHO.out _).mono ?_
    rintro e W1 ⟨rfl, rfl⟩
    have kb := (HM.out.hb 0 _ _ _ rfl).cell (k := 35 + c) HBZ.out
    have kx := (HM.out.hb 2 _ _ _ rfl).cell (k := 1) (v := .int .i64 dO) rfl
    have kh := (HM.out.hb 1 _ _ _ rfl).cell (k := c * 5) HSL.out
    go_wp2_with fail
    go_ret
    exact ⟨rfl, HM.out.sub (fun i e hi => by match i, hi with | 0, hi => exact hi | 1, hi => exact hi | i + 2, hi => simp at hi)⟩
set_option maxHeartbeats 4000000 in
set_option maxRecDepth 100000 in
theorem pick_allot0 (c : Nat) (hc : c < 4) (cl nN m : Int) (ecl : (wrap64 (cl.tmod 4 + 4)).tmod 4 = (c : Int)) (hm : 1 ≤ m ∧ m ≤ 4) (R H B : Nat) (w : World) (C D : Array Value) (s : RS) (h : HV) (l : List Int) (hs : Nat → List Int) (ns : Nat → List Bool) (hV : PickV R H B w C D s h l hs ns) (hb : s.b c = false) :
    Calls Try.prog 24 #[.pointer (some ⟨R, 0, none⟩), .pointer (some ⟨H, 0, none⟩), .agg #[.int .i64 cl, .int .i64 0, .int .i64 nN], .int .i64 m] w fun e w' => e = .returned (.bool true) ∧ Picked R H B h w w' l hs ns (fun s' h' => s'.b = upd s.b c true ∧ Live (PH R H h) w' (s'.m c) c (frG 56 [(c : Int) * m, m, 1]) 0 ∧ Live (PH R H h) w' (s'.h c) c (frG 56 [(c : Int) * m, m, 1]) 0 ∧ (∀ d, d ≠ c → s'.m d = s.m d ∧ s'.h d = s.h d) ∧ h' = h.setD c cl 0 nN) := by
  have HWHO : Hid (∀ w, Calls Try.prog 23 #[.int .i64 cl] w fun e w' => e = .returned (.int .i64 c) ∧ w' = w) := Lib.hid (fun w => by
    obtain ⟨S, -, eS, hh⟩ := who_p cl w
    rw [ecl] at eS
    have : S = c := by omega
    rw [this] at hh; exact hh)
  have HV := Lib.hid hV
  have HM := Lib.hid (Mem.startRH hV.run.hb hV.hb hV.ne)
  have HD := Lib.hid hV.hav
  obtain ⟨cm, ecm⟩ : ∃ cm, (c : Int) * m = cm := ⟨_, rfl⟩
  have e43 : wrap64 ((c : Int) * m) = cm := by
    have h0 : 0 ≤ (c : Int) * m := Int.mul_nonneg (by omega) (by omega)
    have h1 : (c : Int) * m ≤ 3 * 4 := Int.mul_le_mul (by omega) (by omega) (by omega) (by omega)
    unfold wrap64; omega
  have HBZ := Lib.hid (by have h2 := hV.run.ra.b c hc; rw [hb] at h2; exact h2 : C[35 + c]? = some (.bool false))
  have Hb0 := Lib.hid hb
  rw [ecm]
  clear hV hb ecl hm ecm
  go_enter Try.func24, Try.ntmps24
  go_wp2_with (first
    | (refine wpm_box HM rfl 69 (.tmp 2) rfl _ rfl ?_; intro U1 hM; (try simp only [List.cons_append, List.nil_append, List.set_cons_succ, List.set_cons_zero, Nat.reduceAdd] at hM); replace HM := hM; clear hM)
    | (refine wpm_ldc HM rfl 3 (.tmp 16) rfl lv3 2 0 rfl rfl _ rfl ?_))
  refine (HWHO.out _).mono ?_
  rintro e W1 ⟨rfl, rfl⟩
  have kb := (HM.out.hb 0 _ _ _ rfl).cell (k := 35 + c) HBZ.out
  have kx := (HM.out.hb 2 _ _ _ rfl).cell (k := 1) (v := .int .i64 0) rfl
  go_wp2_with (first
    | (refine wpm_bsI3 HM rfl (.tmp 43) (.tmp 44) (.tmp 45) rfl (wrap64 ((c : Int) * m)) m 1 rfl rfl rfl ?_; intro W2 hM; rw [e43] at hM; (try simp only [List.cons_append, List.nil_append, List.set_cons_succ, List.set_cons_zero, Nat.reduceAdd] at hM); replace HM := hM; clear hM kb kx))
  have HMb := HM
  refine (bg14 (P := fun b => PH R H h b ∧ ¬ OL _ b) c hc 56 (by omega) _ [cm, m, 1] 0 R C s l _ (fun b hb => ⟨PH.hP HV.out.run.hb.lt HV.out.hb.lt HV.out.own HM.out.size b hb, HM.out.notOwn hb⟩) (fun b hb => hb.1.1) ⟨_, _, rfl, Nat.le_refl _, fun i x hx => ⟨_, 0, rfl, Nat.zero_le _, ?_⟩⟩ (by simp) (HV.out.run.mem HM.out (HM.out.hb 0 _ _ _ rfl)) Hb0.out).mono ?_
  · match i, hx with
    | 0, hx => simp at hx; subst hx; exact (HM.out.hb 3 _ _ _ rfl).cell (k := 0) rfl
    | 1, hx => simp at hx; subst hx; exact (HM.out.hb 3 _ _ _ rfl).cell (k := 1) rfl
    | 2, hx => simp at hx; subst hx; exact (HM.out.hb 3 _ _ _ rfl).cell (k := 2) rfl
    | i + 3, hx => simp at hx
  rintro e W3 ⟨rfl, C', s', hR3, hM3, hb3, hT, hU, hoth⟩
  have HR3 := Lib.hid hR3
  have HT := Lib.hid hT
  have HU := Lib.hid hU
  have HOT := Lib.hid (And.intro hb3 hoth)
  have hM4 := HM.out.upR (i := 0) rfl hM3
  simp only [List.set_cons_zero] at hM4
  have HMT := Lib.hid hM4
  replace HM := Lib.hid hM4.re
  clear hR3 hT hU hb3 hoth hM3 hM4
  go_wp2_with fail
  replace HM := Lib.hid HM.out.drew
  have HF : Hid (∀ p ∈ ([(⟨w.heap.size, 0, none⟩, .int .i64 cl), (⟨w.heap.size, 1, none⟩, .int .i64 0), (⟨w.heap.size, 2, none⟩, .int .i64 nN)] : List (Addr × Value)), World.cell? _ p.1 = some p.2) := Lib.hid (allc ((HM.out.hb 2 _ _ _ rfl).cell (k := 0) rfl) (allc ((HM.out.hb 2 _ _ _ rfl).cell (k := 1) rfl) (allc ((HM.out.hb 2 _ _ _ rfl).cell (k := 2) rfl) (alln _))))
  haveI : Inhabited (CW [(⟨w.heap.size, 0, none⟩, .int .i64 cl), (⟨w.heap.size, 1, none⟩, .int .i64 0), (⟨w.heap.size, 2, none⟩, .int .i64 nN)]) := ⟨⟨_, HF.out⟩⟩
  have f0 : ∀ q : CW [(⟨w.heap.size, 0, none⟩, .int .i64 cl), (⟨w.heap.size, 1, none⟩, .int .i64 0), (⟨w.heap.size, 2, none⟩, .int .i64 nN)], q.1.cell? ⟨w.heap.size, 0, none⟩ = some (.int .i64 cl) := fun q => q.2 (⟨w.heap.size, 0, none⟩, .int .i64 cl) (by simp)
  have f1 : ∀ q : CW [(⟨w.heap.size, 0, none⟩, .int .i64 cl), (⟨w.heap.size, 1, none⟩, .int .i64 0), (⟨w.heap.size, 2, none⟩, .int .i64 nN)], q.1.cell? ⟨w.heap.size, 1, none⟩ = some (.int .i64 0) := fun q => q.2 (⟨w.heap.size, 1, none⟩, .int .i64 0) (by simp)
  have f2 : ∀ q : CW [(⟨w.heap.size, 0, none⟩, .int .i64 cl), (⟨w.heap.size, 1, none⟩, .int .i64 0), (⟨w.heap.size, 2, none⟩, .int .i64 nN)], q.1.cell? ⟨w.heap.size, 2, none⟩ = some (.int .i64 nN) := fun q => q.2 (⟨w.heap.size, 2, none⟩, .int .i64 nN) (by simp)
  (try simp only [Act.put, List.setIfInBounds_toArray, List.set_cons_succ, List.set_cons_zero])
  refine wp_region_noPanic ?_
  refine wp_region_plw (.step [true, true, true, true, true, true] (.cons 6 (.last []) .nil)) (fun y => ∃ q : CW [(⟨w.heap.size, 0, none⟩, .int .i64 cl), (⟨w.heap.size, 1, none⟩, .int .i64 0), (⟨w.heap.size, 2, none⟩, .int .i64 nN)], y = q.1) (by kernel_rfl) (by kernel_rfl) (by kernel_rfl) (fun _ _ _ _ _ _ _ h => h) ⟨⟨_, HF.out⟩, rfl⟩ ?_
  simp only [wpPw, wpBw, selF, and_true]
  generalize W3.drew = V1 at *
  repeat (go_big_quiet_step (fail))
  refine wpQuiet_nil ?_
  refine wpOp_step rfl (fun K hK => ?_)
  rw [if_pos (by rfl)]
  refine wpOm_stD HM HD (.tmp 53) (.tmp 50) rfl rfl 1 rfl c hc cl 0 nN rfl rfl ?_
  clear HD
  intro V2 V2d HD hM
  (try simp only [List.cons_append, List.nil_append, List.set_cons_succ, List.set_cons_zero, Nat.reduceAdd] at hM)
  replace HM := hM
  clear hM
  refine hK _ _ ⟨(fun y => ∃ q : CW [(⟨w.heap.size, 0, none⟩, .int .i64 cl), (⟨w.heap.size, 1, none⟩, .int .i64 0), (⟨w.heap.size, 2, none⟩, .int .i64 nN)], y = q.1), ⟨⟨_, (allc ((HM.out.hb 2 _ _ _ rfl).cell (k := 0) rfl) (allc ((HM.out.hb 2 _ _ _ rfl).cell (k := 1) rfl) (allc ((HM.out.hb 2 _ _ _ rfl).cell (k := 2) rfl) (alln _))))⟩, rfl⟩, fun _ h => h, ?_⟩
  clear hK K
  (try simp only [Act.put, List.setIfInBounds_toArray, List.set_cons_succ, List.set_cons_zero])
  refine wpQuiet_nil ?_
  refine NoPanic.normal ?_
  go_wp2_with fail
  go_ret
  have hMM := HMT.out.tr HM.out
  have hOwn := HV.out.own.keep (fun b h1 h2 => hMM.old b h2 (fun e => by have := HV.out.lo; rcases e with e | e <;> omega))
  refine ⟨rfl, _, _, s', h.setD c cl 0 nN, ⟨HR3.out.out2 HMT.out HM.out (HM.out.hb 0 _ _ _ rfl), HM.out.hb 1 _ _ _ rfl, HD.out, ⟨hOwn.hl, hOwn.nl, hOwn.ds⟩, HV.out.ne, HV.out.lo⟩, hMM.keepP, HOT.out.1, ?_, ?_, HOT.out.2, rfl⟩
  · exact Live.out2 HT.out HMT.out HMb.out HM.out
  · exact Live.out2 HU.out HMT.out HMb.out HM.out
set_option maxHeartbeats 4000000 in
set_option maxRecDepth 100000 in
theorem pick_allot1 (c : Nat) (hc : c < 4) (cl nN m : Int) (ecl : (wrap64 (cl.tmod 4 + 4)).tmod 4 = (c : Int)) (hm : 1 ≤ m ∧ m ≤ 4) (R H B : Nat) (w : World) (C D : Array Value) (s : RS) (h : HV) (l : List Int) (hs : Nat → List Int) (ns : Nat → List Bool) (hV : PickV R H B w C D s h l hs ns) (hb : s.b c = false) :
    Calls Try.prog 24 #[.pointer (some ⟨R, 0, none⟩), .pointer (some ⟨H, 0, none⟩), .agg #[.int .i64 cl, .int .i64 1, .int .i64 nN], .int .i64 m] w fun e w' => e = .returned (.bool true) ∧ Picked R H B h w w' l hs ns (fun s' h' => s'.b = upd s.b c true ∧ Live (PH R H h) w' (s'.m c) c (frG 56 [(c : Int) * m, m, 0]) 0 ∧ Live (PH R H h) w' (s'.h c) c (frG 56 [(c : Int) * m, m, 0]) 0 ∧ (∀ d, d ≠ c → s'.m d = s.m d ∧ s'.h d = s.h d) ∧ h' = h.setD c cl 1 nN) := by
  have HWHO : Hid (∀ w, Calls Try.prog 23 #[.int .i64 cl] w fun e w' => e = .returned (.int .i64 c) ∧ w' = w) := Lib.hid (fun w => by
    obtain ⟨S, -, eS, hh⟩ := who_p cl w
    rw [ecl] at eS
    have : S = c := by omega
    rw [this] at hh; exact hh)
  have HV := Lib.hid hV
  have HM := Lib.hid (Mem.startRH hV.run.hb hV.hb hV.ne)
  have HD := Lib.hid hV.hav
  obtain ⟨cm, ecm⟩ : ∃ cm, (c : Int) * m = cm := ⟨_, rfl⟩
  have e43 : wrap64 ((c : Int) * m) = cm := by
    have h0 : 0 ≤ (c : Int) * m := Int.mul_nonneg (by omega) (by omega)
    have h1 : (c : Int) * m ≤ 3 * 4 := Int.mul_le_mul (by omega) (by omega) (by omega) (by omega)
    unfold wrap64; omega
  have HBZ := Lib.hid (by have h2 := hV.run.ra.b c hc; rw [hb] at h2; exact h2 : C[35 + c]? = some (.bool false))
  have Hb0 := Lib.hid hb
  rw [ecm]
  clear hV hb ecl hm ecm
  go_enter Try.func24, Try.ntmps24
  go_wp2_with (first
    | (refine wpm_box HM rfl 69 (.tmp 2) rfl _ rfl ?_; intro U1 hM; (try simp only [List.cons_append, List.nil_append, List.set_cons_succ, List.set_cons_zero, Nat.reduceAdd] at hM); replace HM := hM; clear hM)
    | (refine wpm_ldc HM rfl 3 (.tmp 16) rfl lv3 2 0 rfl rfl _ rfl ?_))
  refine (HWHO.out _).mono ?_
  rintro e W1 ⟨rfl, rfl⟩
  have kb := (HM.out.hb 0 _ _ _ rfl).cell (k := 35 + c) HBZ.out
  have kx := (HM.out.hb 2 _ _ _ rfl).cell (k := 1) (v := .int .i64 1) rfl
  go_wp2_with (first
    | (refine wpm_bsI3 HM rfl (.tmp 43) (.tmp 44) (.tmp 45) rfl (wrap64 ((c : Int) * m)) m 0 rfl rfl rfl ?_; intro W2 hM; rw [e43] at hM; (try simp only [List.cons_append, List.nil_append, List.set_cons_succ, List.set_cons_zero, Nat.reduceAdd] at hM); replace HM := hM; clear hM kb kx))
  have HMb := HM
  refine (bg14 (P := fun b => PH R H h b ∧ ¬ OL _ b) c hc 56 (by omega) _ [cm, m, 0] 0 R C s l _ (fun b hb => ⟨PH.hP HV.out.run.hb.lt HV.out.hb.lt HV.out.own HM.out.size b hb, HM.out.notOwn hb⟩) (fun b hb => hb.1.1) ⟨_, _, rfl, Nat.le_refl _, fun i x hx => ⟨_, 0, rfl, Nat.zero_le _, ?_⟩⟩ (by simp) (HV.out.run.mem HM.out (HM.out.hb 0 _ _ _ rfl)) Hb0.out).mono ?_
  · match i, hx with
    | 0, hx => simp at hx; subst hx; exact (HM.out.hb 3 _ _ _ rfl).cell (k := 0) rfl
    | 1, hx => simp at hx; subst hx; exact (HM.out.hb 3 _ _ _ rfl).cell (k := 1) rfl
    | 2, hx => simp at hx; subst hx; exact (HM.out.hb 3 _ _ _ rfl).cell (k := 2) rfl
    | i + 3, hx => simp at hx
  rintro e W3 ⟨rfl, C', s', hR3, hM3, hb3, hT, hU, hoth⟩
  have HR3 := Lib.hid hR3
  have HT := Lib.hid hT
  have HU := Lib.hid hU
  have HOT := Lib.hid (And.intro hb3 hoth)
  have hM4 := HM.out.upR (i := 0) rfl hM3
  simp only [List.set_cons_zero] at hM4
  have HMT := Lib.hid hM4
  replace HM := Lib.hid hM4.re
  clear hR3 hT hU hb3 hoth hM3 hM4
  go_wp2_with fail
  replace HM := Lib.hid HM.out.drew
  have HF : Hid (∀ p ∈ ([(⟨w.heap.size, 0, none⟩, .int .i64 cl), (⟨w.heap.size, 1, none⟩, .int .i64 1), (⟨w.heap.size, 2, none⟩, .int .i64 nN)] : List (Addr × Value)), World.cell? _ p.1 = some p.2) := Lib.hid (allc ((HM.out.hb 2 _ _ _ rfl).cell (k := 0) rfl) (allc ((HM.out.hb 2 _ _ _ rfl).cell (k := 1) rfl) (allc ((HM.out.hb 2 _ _ _ rfl).cell (k := 2) rfl) (alln _))))
  haveI : Inhabited (CW [(⟨w.heap.size, 0, none⟩, .int .i64 cl), (⟨w.heap.size, 1, none⟩, .int .i64 1), (⟨w.heap.size, 2, none⟩, .int .i64 nN)]) := ⟨⟨_, HF.out⟩⟩
  have f0 : ∀ q : CW [(⟨w.heap.size, 0, none⟩, .int .i64 cl), (⟨w.heap.size, 1, none⟩, .int .i64 1), (⟨w.heap.size, 2, none⟩, .int .i64 nN)], q.1.cell? ⟨w.heap.size, 0, none⟩ = some (.int .i64 cl) := fun q => q.2 (⟨w.heap.size, 0, none⟩, .int .i64 cl) (by simp)
  have f1 : ∀ q : CW [(⟨w.heap.size, 0, none⟩, .int .i64 cl), (⟨w.heap.size, 1, none⟩, .int .i64 1), (⟨w.heap.size, 2, none⟩, .int .i64 nN)], q.1.cell? ⟨w.heap.size, 1, none⟩ = some (.int .i64 1) := fun q => q.2 (⟨w.heap.size, 1, none⟩, .int .i64 1) (by simp)
  have f2 : ∀ q : CW [(⟨w.heap.size, 0, none⟩, .int .i64 cl), (⟨w.heap.size, 1, none⟩, .int .i64 1), (⟨w.heap.size, 2, none⟩, .int .i64 nN)], q.1.cell? ⟨w.heap.size, 2, none⟩ = some (.int .i64 nN) := fun q => q.2 (⟨w.heap.size, 2, none⟩, .int .i64 nN) (by simp)
  (try simp only [Act.put, List.setIfInBounds_toArray, List.set_cons_succ, List.set_cons_zero])
  refine wp_region_noPanic ?_
  refine wp_region_plw (.step [true, true, true, true, true, true] (.cons 6 (.last []) .nil)) (fun y => ∃ q : CW [(⟨w.heap.size, 0, none⟩, .int .i64 cl), (⟨w.heap.size, 1, none⟩, .int .i64 1), (⟨w.heap.size, 2, none⟩, .int .i64 nN)], y = q.1) (by kernel_rfl) (by kernel_rfl) (by kernel_rfl) (fun _ _ _ _ _ _ _ h => h) ⟨⟨_, HF.out⟩, rfl⟩ ?_
  simp only [wpPw, wpBw, selF, and_true]
  generalize W3.drew = V3 at *
  repeat (go_big_quiet_step (fail))
  refine wpQuiet_nil ?_
  refine wpOp_step rfl (fun K hK => ?_)
  rw [if_pos (by rfl)]
  refine wpOm_stD HM HD (.tmp 53) (.tmp 50) rfl rfl 1 rfl c hc cl 1 nN rfl rfl ?_
  clear HD
  intro V4 V4d HD hM
  (try simp only [List.cons_append, List.nil_append, List.set_cons_succ, List.set_cons_zero, Nat.reduceAdd] at hM)
  replace HM := hM
  clear hM
  refine hK _ _ ⟨(fun y => ∃ q : CW [(⟨w.heap.size, 0, none⟩, .int .i64 cl), (⟨w.heap.size, 1, none⟩, .int .i64 1), (⟨w.heap.size, 2, none⟩, .int .i64 nN)], y = q.1), ⟨⟨_, (allc ((HM.out.hb 2 _ _ _ rfl).cell (k := 0) rfl) (allc ((HM.out.hb 2 _ _ _ rfl).cell (k := 1) rfl) (allc ((HM.out.hb 2 _ _ _ rfl).cell (k := 2) rfl) (alln _))))⟩, rfl⟩, fun _ h => h, ?_⟩
  clear hK K
  (try simp only [Act.put, List.setIfInBounds_toArray, List.set_cons_succ, List.set_cons_zero])
  refine wpQuiet_nil ?_
  refine NoPanic.normal ?_
  go_wp2_with fail
  go_ret
  have hMM := HMT.out.tr HM.out
  have hOwn := HV.out.own.keep (fun b h1 h2 => hMM.old b h2 (fun e => by have := HV.out.lo; rcases e with e | e <;> omega))
  refine ⟨rfl, _, _, s', h.setD c cl 1 nN, ⟨HR3.out.out2 HMT.out HM.out (HM.out.hb 0 _ _ _ rfl), HM.out.hb 1 _ _ _ rfl, HD.out, ⟨hOwn.hl, hOwn.nl, hOwn.ds⟩, HV.out.ne, HV.out.lo⟩, hMM.keepP, HOT.out.1, ?_, ?_, HOT.out.2, rfl⟩
  · exact Live.out2 HT.out HMT.out HMb.out HM.out
  · exact Live.out2 HU.out HMT.out HMb.out HM.out
end Go.Proofs.Ytgpdknacnmapiaa
