/-
  A task is begun (chapter 10's frame, New).
-/
import Derived.Test.YtgpdknacnmapiaaGo
namespace Go.Proofs.Ytgpdknacnmapiaa
set_option linter.unusedVariables false
set_option linter.unusedSimpArgs false
open Go.RowKit
/-- a program's first frame -/
def frG (pg : Int) (l : List Int) : Fr := ⟨pg, 0, fun i => l.getD i 0⟩
def frJ (pg : Int) (l : List Int) (j : Nat) : Fr := ⟨pg, 0, fun i => if i < j then l.getD i 0 else 0⟩
theorem Fr.ext_cells {f g : Fr} (h1 : f.pg = g.pg) (h2 : f.st = g.st) (h3 : ∀ i, i < 96 → f.r i = g.r i) : f.cells = g.cells := by
  apply Array.ext_getElem?
  intro k
  by_cases hk : k < 98
  · match k, hk with
    | 0, _ => rw [f.c0, g.c0, h1]
    | 1, _ => rw [f.c1, g.c1, h2]
    | k + 2, hk => rw [show k + 2 = 2 + k by omega, f.cr k (by omega), g.cr k (by omega), h3 k (by omega)]
  · rw [Array.getElem?_eq_none (by rw [Fr.size]; omega), Array.getElem?_eq_none (by rw [Fr.size]; omega)]
theorem frJ_set (pg : Int) (l : List Int) (j : Nat) (x : Int) (hx : l[j]? = some x) (hj : j < 96) : (frJ pg l j).cells.setIfInBounds (2 + j) (.int .i64 x) = (frJ pg l (j + 1)).cells := by
  rw [Fr.setr _ _ hj]
  refine Fr.ext_cells rfl rfl fun i hi => ?_
  simp only [Fr.reg, frJ]
  by_cases e : i = j
  · subst e; rw [if_pos rfl, if_pos (by omega), List.getD_eq_getElem?_getD, hx]; rfl
  · rw [if_neg e]
    by_cases h : i < j
    · rw [if_pos h, if_pos (by omega)]
    · rw [if_neg h, if_neg (by omega)]
theorem frJ_end (pg : Int) (l : List Int) : (frJ pg l l.length).cells = (frG pg l).cells := by
  refine Fr.ext_cells rfl rfl fun i hi => ?_
  simp only [frJ, frG]
  by_cases h : i < l.length
  · rw [if_pos h]
  · rw [if_neg h, List.getD_eq_getElem?_getD, List.getElem?_eq_none (by omega)]; rfl
theorem zset (pg : Int) (l : List Int) : Try.zeroCells57.setIfInBounds 0 (.int .i8 pg) = (frJ pg l 0).cells := by
  rw [z57, Fr.set0]
  exact Fr.ext_cells rfl rfl fun i hi => by simp [Fr.prog, Fr.zero, frJ]
theorem res_c {fn : Func} {p : Tmp} {ty : TypeId} (h : fn.results = #[.cell p ty]) (tmps : Array Value) (w : World) (b : Nat) (v : Value) (hp : tmps.getD p undef = .pointer (some ⟨b, 0, none⟩))
    (hl : (loadVar ty ⟨b, 0, none⟩).run Try.prog w = .ok v w) : (results fn tmps).run Try.prog w = .ok v w := by
  have hp' : tmps[p]?.getD undef = .pointer (some ⟨b, 0, none⟩) := by simpa using hp
  simp [results, h, hp', asAddr, hl]
section
variable {X : Nat → Prop} {w0 w : World} {L : List (Nat × Array Value × TypeId)} {ops : Array Oper} {rest : List Oper} {o : Oper} {a : Act} {Q : Exit → Act → World → Prop}
theorem wpm_bs36 (HM : Hid (Mem X w0 w L)) (hg : o.guard = none) (x : Operand) (ho : o.op = .buildSlice 36 1 #[(0, x)]) (f : Fr) (hx : a.eval x = .agg f.cells)
    (h : ∀ W, Hid (Mem X w0 W (L ++ [(w.heap.size, f.cells, 57)])) → wpList Try.prog ops Q rest (a.put o.dst (.slice (some ⟨w.heap.size, 0, none⟩) 1 1)) W) : wpList Try.prog ops Q (o :: rest) a w :=
  wp_bs36 hg x ho f hx (h _ (Lib.hid (HM.out.alloc _ _)))
end
set_option maxHeartbeats 2000000 in
set_option maxRecDepth 100000 in
theorem frame_p (pg : Int) (v : Value) (l : List Int) (B : Nat) (w : World) (hI : Ints B w v l) (hl : l.length ≤ 96) : Calls Try.prog 70 #[.int .i8 pg, v] w fun e w' => e = .returned (.agg (frG pg l).cells) ∧ Below w.heap.size w w' := by
  have HI := Lib.hid hI
  have HM := Lib.hid (Mem.start w)
  obtain ⟨ao, cap, rfl, hc, -⟩ := hI
  have HB := Lib.hid (zset pg l)
  obtain ⟨m, hm⟩ : ∃ m, l.length = m := ⟨_, rfl⟩
  have HLM := Lib.hid hm
  rw [hm] at hl hc ⊢
  clear hm
  go_enter Try.func70, Try.ntmps70
  go_wp2_with (first
    | (refine wpm_al57 (L := []) HM rfl rfl ?_; intro Wa hM; (try simp only [List.cons_append, List.nil_append, List.set_cons_succ, List.set_cons_zero, Nat.reduceAdd] at hM); replace HM := hM; clear hM)
    | (refine wpm_al57 (L := [_]) HM rfl rfl ?_; intro Wb hM; (try simp only [List.cons_append, List.nil_append, List.set_cons_succ, List.set_cons_zero, Nat.reduceAdd] at hM); replace HM := hM; clear hM)
    | (refine wpm_st57 HM rfl (.tmp 5) (.tmp 8) rfl 1 rfl (frJ pg l 0) rfl (congrArg Value.agg HB.out) ?_; intro W1 hM; (try simp only [List.cons_append, List.nil_append, List.set_cons_succ, List.set_cons_zero, Nat.reduceAdd] at hM); replace HM := hM; clear hM))
  go_loopw [6] (fun iv wr => ∃ j : Nat, j ≤ m ∧ iv = .int .i64 j ∧ Mem (fun _ => False) w wr [(w.heap.size, Fr.zero.cells, 57), (Wa.heap.size, (frJ pg l j).cells, 57)]) (fun iv _ => m - (intOf iv).toNat)
  case atStart => exact ⟨0, by omega, rfl, HM.out⟩
  case round =>
    clear HM
    obtain ⟨j, hj, rfl, hM⟩ := hrel
    have HM := Lib.hid hM
    clear hM
    by_cases hlt : j < m
    · obtain ⟨x, hx⟩ : ∃ x, l[j]? = some x := ⟨l[j]'(by rw [HLM.out]; exact hlt), List.getElem?_eq_getElem _⟩
      have HX := Lib.hid hx
      obtain ⟨b, off, rfl, hc1⟩ : ∃ b off, ao = some ⟨b, off, none⟩ ∧ w.cell? ⟨b, off + j, none⟩ = some (.int .i64 x) := by
        obtain ⟨_, _, e, _, h⟩ := HI.out
        injection e with e1 e2 e3
        subst e1
        obtain ⟨b, off, e, _, h⟩ := h j x hx
        exact ⟨b, off, e, h⟩
      have c1 := (HM.out.bel.cell (World.block_lt_of_cell? _ _ hc1)).trans hc1
      clear hx hc1
      go_wp2_with (first
        | (refine wpm_cell HM rfl 3 (.tmp 21) (.tmp 19) rfl Try.sizeOf3 1 (2 + j) rfl _ rfl rfl (.inl ⟨_, _, rfl⟩) (by rw [Fr.size]; omega) (frJ pg l (j + 1)).cells (frJ_set pg l j x HX.out (by omega)) ?_; intro W2 hM; (try simp only [List.cons_append, List.nil_append, List.set_cons_succ, List.set_cons_zero, Nat.reduceAdd] at hM); replace HM := hM; clear hM c1))
      go_roundw
      case rel => exact ⟨j + 1, hlt, rfl, HM.out⟩
      case measure => simp [intOf]; omega
    · have e : j = l.length := by have := HLM.out; omega
      have he : (frJ pg l j).cells = (frG pg l).cells := by rw [e, frJ_end]
      rw [he] at HM
      clear he e
      go_wp2_with (first
        | (refine wpm_ld57 HM rfl (.tmp 5) rfl 1 rfl rfl ?_)
        | (refine wpm_st57 HM rfl (.tmp 4) (.tmp 22) rfl 0 rfl (frG pg l) rfl rfl ?_; intro W1 hM; (try simp only [List.cons_append, List.nil_append, List.set_cons_succ, List.set_cons_zero, Nat.reduceAdd] at hM); replace HM := hM; clear hM))
      (try simp only [Exit.inBlock, Exit.then])
      refine bodyPost_ret (res_c rfl _ _ _ _ rfl (HM.out.hb 0 _ _ _ rfl).load57) rfl ?_
      exact ⟨rfl, HM.out.bel⟩
set_option maxHeartbeats 2000000 in
set_option maxRecDepth 100000 in
theorem new_p {P : Nat → Prop} (c : Int) (hc : 0 ≤ c ∧ c < 4) (pg : Int) (hp : 0 ≤ pg) (v : Value) (l : List Int) (B : Nat) (w : World) (hP : ∀ b, w.heap.size ≤ b → P b) (hI : Ints B w v l) (hl : l.length ≤ 96) :
    Calls Try.prog 37 #[.int .i64 c, .int .i8 pg, v] w fun e w' => (∃ C', e = .returned (.tuple #[.agg C', .int .i64 0]) ∧ Live P w' C' c (frG pg l) 0) ∧ Below w.heap.size w w' := by
  have HP := Lib.hid hP
  have HFR := Lib.hid (fun (w2 : World) (hb : Below w.heap.size w w2) => frame_p pg v l 0 w2 ((hI.low (Nat.zero_le _)).below hb) hl)
  have HM := Lib.hid (Mem.start w)
  obtain ⟨ao, cap, rfl, -, -⟩ := hI
  have c1 : decide (c < 0) = false := by simp; omega
  have c2 : decide ((4 : Int) ≤ c) = false := by simp; omega
  have p1 : decide (pg < 0) = false := by simp; omega
  have l1 : decide ((96 : Int) < (l.length : Int)) = false := by simp; omega
  clear hc hp hl hP
  go_enter Try.func37, Try.ntmps37
  go_wp2_with (first
    | (refine wpm_al38 HM rfl rfl ?_; intro W hM; (try simp only [List.cons_append, List.nil_append, List.set_cons_succ, List.set_cons_zero, Nat.reduceAdd] at hM); replace HM := hM; clear hM))
  refine (HFR.out _ HM.out.bel).mono ?_
  rintro e W2 ⟨rfl, hb⟩
  replace HM := Lib.hid (HM.out.below hb)
  clear hb
  go_wp2_with (first
    | (refine wpm_bs36 HM rfl (.tmp 27) rfl (frG pg l) rfl ?_; intro W3 hM; (try simp only [List.cons_append, List.nil_append, List.set_cons_succ, List.set_cons_zero, Nat.reduceAdd] at hM); replace HM := hM; clear hM)
    | (refine wpm_st38 HM rfl (.tmp 6) (.tmp 29) rfl 0 rfl TaskC.zero.size (tkC c (.slice (some ⟨W2.heap.size, 0, none⟩) 1 1) (.slice none 0 0) false) rfl rfl ⟨_, _, _, _, _, _, _, _, rfl⟩ ?_; intro W4 hM; (try simp only [List.cons_append, List.nil_append, List.set_cons_succ, List.set_cons_zero, Nat.reduceAdd] at hM); replace HM := hM; clear hM))
  (try simp only [Exit.inBlock, Exit.then])
  refine bodyPost_ret (res_ct rfl _ _ _ _ _ rfl rfl ((HM.out.hb 0 _ _ _ rfl).load38 rfl)) rfl ?_
  exact ⟨⟨_, rfl, W2.heap.size, 0, 1, none, 0, 0, rfl, Nat.le_refl _, by decide, HP.out _ (by rcases HM.out.st 1 _ _ _ rfl with h | h; exact h.elim; exact h), (HM.out.hb 1 _ _ _ rfl).range, .inl ⟨rfl, rfl, rfl, rfl⟩⟩, HM.out.bel⟩
end Go.Proofs.Ytgpdknacnmapiaa
