/-
  Parts of a proof, put together: Nw, Rn, Cn, Rl.
-/
import Derived.Test.YtgpdknacnmapiaaZj01
import Derived.Test.YtgpdknacnmapiaaZj02
import Derived.Test.YtgpdknacnmapiaaZj03
import Derived.Test.YtgpdknacnmapiaaZj04
import Derived.Test.YtgpdknacnmapiaaZj05
import Derived.Test.YtgpdknacnmapiaaZj06
import Derived.Test.YtgpdknacnmapiaaZj07
import Derived.Test.YtgpdknacnmapiaaZj08
import Derived.Test.YtgpdknacnmapiaaZj09
import Derived.Test.YtgpdknacnmapiaaZj10
import Derived.Test.YtgpdknacnmapiaaZj11
import Derived.Test.YtgpdknacnmapiaaZj12
import Derived.Test.YtgpdknacnmapiaaZj13
import Derived.Test.YtgpdknacnmapiaaZj14
import Derived.Test.YtgpdknacnmapiaaZj15
import Derived.Test.YtgpdknacnmapiaaZj16
import Derived.Test.YtgpdknacnmapiaaZj17
import Derived.Test.YtgpdknacnmapiaaZj18
import Derived.Test.YtgpdknacnmapiaaZj19
import Derived.Test.YtgpdknacnmapiaaZj20
namespace Go.Proofs.Ytgpdknacnmapiaa
set_option linter.unusedVariables false
set_option linter.unusedSimpArgs false
open Go.RowKit
/-- a program's first frame -/
def frG (pg : Int) (l : List Int) : Fr := ⟨pg, 0, fun i => l.getD i 0⟩
def frJ (pg : Int) (l : List Int) (j : Nat) : Fr := ⟨pg, 0, fun i => if i < j then l.getD i 0 else 0⟩
theorem Fr.ext_cells {f g : Fr} (h1 : f.pg = g.pg) (h2 : f.st = g.st) (h3 : ∀ i, i < 96 → f.r i = g.r i) : f.cells = g.cells := by
  apply Array.ext_getElem?
  intro k
  by_cases hk : k < 98
  · match k, hk with
    | 0, _ => rw [f.c0, g.c0, h1]
    | 1, _ => rw [f.c1, g.c1, h2]
    | k + 2, hk => rw [show k + 2 = 2 + k by omega, f.cr k (by omega), g.cr k (by omega), h3 k (by omega)]
  · rw [Array.getElem?_eq_none (by rw [Fr.size]; omega), Array.getElem?_eq_none (by rw [Fr.size]; omega)]
theorem frJ_set (pg : Int) (l : List Int) (j : Nat) (x : Int) (hx : l[j]? = some x) (hj : j < 96) : (frJ pg l j).cells.setIfInBounds (2 + j) (.int .i64 x) = (frJ pg l (j + 1)).cells := by
  rw [Fr.setr _ _ hj]
  refine Fr.ext_cells rfl rfl fun i hi => ?_
  simp only [Fr.reg, frJ]
  by_cases e : i = j
  · subst e; rw [if_pos rfl, if_pos (by omega), List.getD_eq_getElem?_getD, hx]; rfl
  · rw [if_neg e]
    by_cases h : i < j
    · rw [if_pos h, if_pos (by omega)]
    · rw [if_neg h, if_neg (by omega)]
theorem frJ_end (pg : Int) (l : List Int) : (frJ pg l l.length).cells = (frG pg l).cells := by
  refine Fr.ext_cells rfl rfl fun i hi => ?_
  simp only [frJ, frG]
  by_cases h : i < l.length
  · rw [if_pos h]
  · rw [if_neg h, List.getD_eq_getElem?_getD, List.getElem?_eq_none (by omega)]; rfl
theorem zset (pg : Int) (l : List Int) : Try.zeroCells57.setIfInBounds 0 (.int .i8 pg) = (frJ pg l 0).cells := by
  rw [z57, Fr.set0]
  exact Fr.ext_cells rfl rfl fun i hi => by simp [Fr.prog, Fr.zero, frJ]
theorem res_c {fn : Func} {p : Tmp} {ty : TypeId} (h : fn.results = #[.cell p ty]) (tmps : Array Value) (w : World) (b : Nat) (v : Value) (hp : tmps.getD p undef = .pointer (some ⟨b, 0, none⟩))
    (hl : (loadVar ty ⟨b, 0, none⟩).run Try.prog w = .ok v w) : (results fn tmps).run Try.prog w = .ok v w := by
  have hp' : tmps[p]?.getD undef = .pointer (some ⟨b, 0, none⟩) := by simpa using hp
  simp [results, h, hp', asAddr, hl]
section
variable {X : Nat → Prop} {w0 w : World} {L : List (Nat × Array Value × TypeId)} {ops : Array Oper} {rest : List Oper} {o : Oper} {a : Act} {Q : Exit → Act → World → Prop}
theorem wpm_bs36 (HM : Hid (Mem X w0 w L)) (hg : o.guard = none) (x : Operand) (ho : o.op = .buildSlice 36 1 #[(0, x)]) (f : Fr) (hx : a.eval x = .agg f.cells)
    (h : ∀ W, Hid (Mem X w0 W (L ++ [(w.heap.size, f.cells, 57)])) → wpList Try.prog ops Q rest (a.put o.dst (.slice (some ⟨w.heap.size, 0, none⟩) 1 1)) W) : wpList Try.prog ops Q (o :: rest) a w :=
  wp_bs36 hg x ho f hx (h _ (Lib.hid (HM.out.alloc _ _)))
end
set_option maxHeartbeats 2000000 in
set_option maxRecDepth 100000 in
theorem frame_p (pg : Int) (v : Value) (l : List Int) (B : Nat) (w : World) (hI : Ints B w v l) (hl : l.length ≤ 96) : Calls Try.prog 70 #[.int .i8 pg, v] w fun e w' => e = .returned (.agg (frG pg l).cells) ∧ Below w.heap.size w w' := by
  have HI := Lib.hid hI
  have HM := Lib.hid (Mem.start w)
  obtain ⟨ao, cap, rfl, hc, -⟩ := hI
  have HB := Lib.hid (zset pg l)
  obtain ⟨m, hm⟩ : ∃ m, l.length = m := ⟨_, rfl⟩
  have HLM := Lib.hid hm
  rw [hm] at hl hc ⊢
  clear hm
  go_enter Try.func70, Try.ntmps70
  go_wp2_with (first
    | (refine wpm_al57 (L := []) HM rfl rfl ?_; intro Wa hM; (try simp only [List.cons_append, List.nil_append, List.set_cons_succ, List.set_cons_zero, Nat.reduceAdd] at hM); replace HM := hM; clear hM)
    | (refine wpm_al57 (L := [_]) HM rfl rfl ?_; intro Wb hM; (try simp only [List.cons_append, List.nil_append, List.set_cons_succ, List.set_cons_zero, Nat.reduceAdd] at hM); replace HM := hM; clear hM)
    | (refine wpm_st57 HM rfl (.tmp 5) (.tmp 8) rfl 1 rfl (frJ pg l 0) rfl (congrArg Value.agg HB.out) ?_; intro W1 hM; (try simp only [List.cons_append, List.nil_append, List.set_cons_succ, List.set_cons_zero, Nat.reduceAdd] at hM); replace HM := hM; clear hM))
  go_loopw [6] (fun iv wr => ∃ j : Nat, j ≤ m ∧ iv = .int .i64 j ∧ Mem (fun _ => False) w wr [(w.heap.size, Fr.zero.cells, 57), (Wa.heap.size, (frJ pg l j).cells, 57)]) (fun iv _ => m - (intOf iv).toNat)
  case atStart => exact ⟨0, by omega, rfl, HM.out⟩
  case round =>
    clear HM
    obtain ⟨j, hj, rfl, hM⟩ := hrel
    have HM := Lib.hid hM
    clear hM
    by_cases hlt : j < m
    · obtain ⟨x, hx⟩ : ∃ x, l[j]? = some x := ⟨l[j]'(by rw [HLM.out]; exact hlt), List.getElem?_eq_getElem _⟩
      have HX := Lib.hid hx
      obtain ⟨b, off, rfl, hc1⟩ : ∃ b off, ao = some ⟨b, off, none⟩ ∧ w.cell? ⟨b, off + j, none⟩ = some (.int .i64 x) := by
        obtain ⟨_, _, e, _, h⟩ := HI.out
        injection e with e1 e2 e3
        subst e1
        obtain ⟨b, off, e, _, h⟩ := h j x hx
        exact ⟨b, off, e, h⟩
      have c1 := (HM.out.bel.cell (World.block_lt_of_cell? _ _ hc1)).trans hc1
      clear hx hc1
      go_wp2_with (first
        | (refine wpm_cell HM rfl 3 (.tmp 21) (.tmp 19) rfl Try.sizeOf3 1 (2 + j) rfl _ rfl rfl (.inl ⟨_, _, rfl⟩) (by rw [Fr.size]; omega) (frJ pg l (j + 1)).cells (frJ_set pg l j x HX.out (by omega)) ?_; intro W2 hM; (try simp only [List.cons_append, List.nil_append, List.set_cons_succ, List.set_cons_zero, Nat.reduceAdd] at hM); replace HM := hM; clear hM c1))
      go_roundw
      case rel => exact ⟨j + 1, hlt, rfl, HM.out⟩
      case measure => simp [intOf]; omega
    · have e : j = l.length := by have := HLM.out; omega
      have he : (frJ pg l j).cells = (frG pg l).cells := by rw [e, frJ_end]
      rw [he] at HM
      clear he e
      go_wp2_with (first
        | (refine wpm_ld57 HM rfl (.tmp 5) rfl 1 rfl rfl ?_)
        | (refine wpm_st57 HM rfl (.tmp 4) (.tmp 22) rfl 0 rfl (frG pg l) rfl rfl ?_; intro W1 hM; (try simp only [List.cons_append, List.nil_append, List.set_cons_succ, List.set_cons_zero, Nat.reduceAdd] at hM); replace HM := hM; clear hM))
      (try simp only [Exit.inBlock, Exit.then])
      refine bodyPost_ret (res_c rfl _ _ _ _ rfl (HM.out.hb 0 _ _ _ rfl).load57) rfl ?_
      exact ⟨rfl, HM.out.bel⟩
set_option maxHeartbeats 2000000 in
set_option maxRecDepth 100000 in
theorem new_p {P : Nat → Prop} (c : Int) (hc : 0 ≤ c ∧ c < 4) (pg : Int) (hp : 0 ≤ pg) (v : Value) (l : List Int) (B : Nat) (w : World) (hP : ∀ b, w.heap.size ≤ b → P b) (hI : Ints B w v l) (hl : l.length ≤ 96) :
    Calls Try.prog 37 #[.int .i64 c, .int .i8 pg, v] w fun e w' => (∃ C', e = .returned (.tuple #[.agg C', .int .i64 0]) ∧ Live P w' C' c (frG pg l) 0) ∧ Below w.heap.size w w' := by
  have HP := Lib.hid hP
  have HFR := Lib.hid (fun (w2 : World) (hb : Below w.heap.size w w2) => frame_p pg v l 0 w2 ((hI.low (Nat.zero_le _)).below hb) hl)
  have HM := Lib.hid (Mem.start w)
  obtain ⟨ao, cap, rfl, -, -⟩ := hI
  have c1 : decide (c < 0) = false := by simp; omega
  have c2 : decide ((4 : Int) ≤ c) = false := by simp; omega
  have p1 : decide (pg < 0) = false := by simp; omega
  have l1 : decide ((96 : Int) < (l.length : Int)) = false := by simp; omega
  clear hc hp hl hP
  go_enter Try.func37, Try.ntmps37
  go_wp2_with (first
    | (refine wpm_al38 HM rfl rfl ?_; intro W hM; (try simp only [List.cons_append, List.nil_append, List.set_cons_succ, List.set_cons_zero, Nat.reduceAdd] at hM); replace HM := hM; clear hM))
  refine (HFR.out _ HM.out.bel).mono ?_
  rintro e W2 ⟨rfl, hb⟩
  replace HM := Lib.hid (HM.out.below hb)
  clear hb
  go_wp2_with (first
    | (refine wpm_bs36 HM rfl (.tmp 27) rfl (frG pg l) rfl ?_; intro W3 hM; (try simp only [List.cons_append, List.nil_append, List.set_cons_succ, List.set_cons_zero, Nat.reduceAdd] at hM); replace HM := hM; clear hM)
    | (refine wpm_st38 HM rfl (.tmp 6) (.tmp 29) rfl 0 rfl TaskC.zero.size (tkC c (.slice (some ⟨W2.heap.size, 0, none⟩) 1 1) (.slice none 0 0) false) rfl rfl ⟨_, _, _, _, _, _, _, _, rfl⟩ ?_; intro W4 hM; (try simp only [List.cons_append, List.nil_append, List.set_cons_succ, List.set_cons_zero, Nat.reduceAdd] at hM); replace HM := hM; clear hM))
  (try simp only [Exit.inBlock, Exit.then])
  refine bodyPost_ret (res_ct rfl _ _ _ _ _ rfl rfl ((HM.out.hb 0 _ _ _ rfl).load38 rfl)) rfl ?_
  exact ⟨⟨_, rfl, W2.heap.size, 0, 1, none, 0, 0, rfl, Nat.le_refl _, by decide, HP.out _ (by rcases HM.out.st 1 _ _ _ rfl with h | h; exact h.elim; exact h), (HM.out.hb 1 _ _ _ rfl).range, .inl ⟨rfl, rfl, rfl, rfl⟩⟩, HM.out.bel⟩
end Go.Proofs.Ytgpdknacnmapiaa
namespace Go.Proofs.Ytgpdknacnmapiaa
set_option linter.unusedVariables false
set_option linter.unusedSimpArgs false
open Go.RowKit
/-- cells from o on are set -/
def setAll : Array Value → Nat → List Value → Array Value
  | C, _, [] => C
  | C, o, v :: vs => setAll (C.setIfInBounds o v) (o + 1) vs
theorem setAll_size (vs : List Value) : ∀ (C : Array Value) (o : Nat), (setAll C o vs).size = C.size := by
  induction vs with
  | nil => intro C o; rfl
  | cons v vs ih => intro C o; simp only [setAll]; rw [ih]; simp
theorem setAll_out (vs : List Value) : ∀ (C : Array Value) (o k : Nat), (k < o ∨ o + vs.length ≤ k) → (setAll C o vs)[k]? = C[k]? := by
  induction vs with
  | nil => intro C o k h; rfl
  | cons v vs ih =>
    intro C o k h
    simp only [setAll, List.length_cons] at h ⊢
    rw [ih _ _ _ (by omega), Array.getElem?_setIfInBounds, if_neg (by omega)]
theorem setAll_in (vs : List Value) : ∀ (C : Array Value) (o j : Nat), o + vs.length ≤ C.size → j < vs.length → (setAll C o vs)[o + j]? = vs[j]? := by
  induction vs with
  | nil => intro C o j h hj; simp at hj
  | cons v vs ih =>
    intro C o j h hj
    simp only [setAll, List.length_cons] at h hj ⊢
    cases j with
    | zero => rw [setAll_out _ _ _ _ (by omega), Array.getElem?_setIfInBounds, Nat.add_zero, if_pos rfl, if_pos (by omega)]; rfl
    | succ j =>
      have := ih (C.setIfInBounds o v) (o + 1) j (by simp; omega) (by omega)
      rw [show o + (j + 1) = o + 1 + j by omega, this]; rfl
theorem HB.setCells (vs : List Value) : ∀ (w : World) (b o : Nat) (C : Array Value) (t : TypeId), HB w b C t → HB (w.setCells b o vs) b (setAll C o vs) t := by
  induction vs with
  | nil => intro w b o C t h; exact h
  | cons v vs ih => intro w b o C t h; exact ih _ _ _ _ _ (Go.heap_setCell_same _ _ _ _ _ _ h)
theorem setCells_oth (vs : List Value) : ∀ (w : World) (b o k : Nat), k ≠ b → (w.setCells b o vs).heap[k]? = w.heap[k]? := by
  induction vs with
  | nil => intro w b o k h; rfl
  | cons v vs ih => intro w b o k h; exact (ih _ _ _ _ h).trans (heap_setCell_other _ _ _ _ h)
theorem setCells_size (vs : List Value) : ∀ (w : World) (b o : Nat), (w.setCells b o vs).heap.size = w.heap.size := by
  induction vs with
  | nil => intro w b o; rfl
  | cons v vs ih => intro w b o; exact (ih _ _ _).trans (World.size_setCell _ _ _)
theorem below_setCells (vs : List Value) : ∀ (w : World) (b o : Nat) (B : Nat), B ≤ b → Below B w (w.setCells b o vs) := by
  induction vs with
  | nil => intro w b o B h; exact Below.refl _ _
  | cons v vs ih => intro w b o B h; exact (below_set (Below.refl _ _) _ h _).trans ((ih _ _ _ _ h).mono (Nat.le_refl _))
section
variable {X : Nat → Prop} {w0 w : World} {L : List (Nat × Array Value × TypeId)} {ops : Array Oper} {rest : List Oper} {o : Oper} {a : Act} {Q : Exit → Act → World → Prop} {K : Act → World → Prop}
theorem Mem.stm (HM : Mem X w0 w L) {i b : Nat} {C : Array Value} {t : TypeId} (hi : L[i]? = some (b, C, t)) (p : Nat) (vs : List Value) : Mem X w0 (w.setCells b p vs) (L.set i (b, setAll C p vs, t)) :=
  HM.upd hi (fun B hB => below_setCells _ _ _ _ _ hB) (fun k hk => setCells_oth _ _ _ _ _ hk) (setCells_size _ _ _ _) (HB.setCells _ _ _ _ _ _ (HM.hb i b C t hi))
theorem Mem.there (HM : Mem X w0 w L) {i b : Nat} {C : Array Value} {t : TypeId} (hi : L[i]? = some (b, C, t)) (p n : Nat) (hp : p + n ≤ C.size) : w.there b p n := fun j hj =>
  ⟨by rw [(HM.hb i b C t hi).cell (Array.getElem?_eq_getElem (show p + j < C.size by omega))]; rfl, (HM.hb i b C t hi).fro⟩
theorem wpm_ldm (HM : Hid (Mem X w0 w L)) (hg : o.guard = none) (t : TypeId) (x : Operand) (ho : o.op = .load t x) (i p : Nat) {b : Nat} {C : Array Value} {t0 : TypeId} (hi : L[i]? = some (b, C, t0)) (hx : a.eval x = .pointer (some ⟨b, p, none⟩)) (S : Array Value) (hS : ∀ (j : Nat) (v : Value), S[j]? = some v → C[p + j]? = some v) (n : Nat) (hu : ∃ fs, Try.prog.underlying t = some (.struct fs)) (hn : (Try.prog.info? t).map (·.size) = some n) (hs : S.size = n)
    (h : wpList Try.prog ops Q rest (a.put o.dst (.agg S)) w) : wpList Try.prog ops Q (o :: rest) a w := by
  obtain ⟨fs, hu⟩ := hu
  exact wpList_load_mid hg t x ho b p hx S.toList (.struct fs) (fun j v hv => (HM.out.hb i b C t0 hi).cell (hS j v (by simpa using hv))) hu rfl (by rw [hn]; simp [hs]) (by simpa using h)
theorem wpm_stm (HM : Hid (Mem X w0 w L)) (hg : o.guard = none) (t : TypeId) (x y : Operand) (ho : o.op = .store t x y) (i p : Nat) {b : Nat} {C : Array Value} {t0 : TypeId} (hi : L[i]? = some (b, C, t0)) (S : Array Value) (hx : a.eval x = .pointer (some ⟨b, p, none⟩)) (hy : a.eval y = .agg S) (n : Nat) (hn : (Try.prog.info? t).map (·.size) = some n) (hs : S.size = n) (hp : p + n ≤ C.size) (h1 : S.all (·.oneCell') = true)
    (h : ∀ W, Hid (Mem X w0 W (L.set i (b, setAll C p S.toList, t0))) → wpList Try.prog ops Q rest (a.put o.dst undef) W) : wpList Try.prog ops Q (o :: rest) a w :=
  wpList_store_mid hg t x y ho b p S hx hy (HM.out.there hi p _ (by rw [hs]; exact hp)) (by rw [hn, hs]) h1 (h _ (Lib.hid (HM.out.stm hi p S.toList)))
theorem wpOm_stm (HM : Hid (Mem X w0 w L)) (t : TypeId) (x y : Operand) (ho : o.op = .store t x y) (hd : o.dst = none) (i p : Nat) {b : Nat} {C : Array Value} {t0 : TypeId} (hi : L[i]? = some (b, C, t0)) (S : Array Value) (hx : a.eval x = .pointer (some ⟨b, p, none⟩)) (hy : a.eval y = .agg S) (n : Nat) (hn : (Try.prog.info? t).map (·.size) = some n) (hs : S.size = n) (hp : p + n ≤ C.size) (h1 : S.all (·.oneCell') = true)
    (h : ∀ W, Hid (Mem X w0 W (L.set i (b, setAll C p S.toList, t0))) → K a W) : o.wp Try.prog a w K Q :=
  wp_store_mid t x y ho b p S hx hy (HM.out.there hi p _ (by rw [hs]; exact hp)) (by rw [hn, hs]) h1 (by rw [hd]; exact h _ (Lib.hid (HM.out.stm hi p S.toList)))
end
/-- what a run's block holds -/
structure RS where
  w : Nat → Value
  m : Nat → Array Value
  h : Nat → Array Value
  b : Nat → Bool
structure RunA (C : Array Value) (s : RS) : Prop where
  size : C.size = 39
  w : ∀ j, j < 3 → C[j]? = some (s.w j)
  m : ∀ c j, c < 4 → j < 4 → C[3 + c * 4 + j]? = (s.m c)[j]?
  h : ∀ c j, c < 4 → j < 4 → C[19 + c * 4 + j]? = (s.h c)[j]?
  b : ∀ c, c < 4 → C[35 + c]? = some (.bool (s.b c))
def upd {α : Type} (f : Nat → α) (c : Nat) (v : α) : Nat → α := fun k => if k = c then v else f k
def RS.setM (s : RS) (c : Nat) (T : Array Value) : RS := { s with m := upd s.m c T }
def RS.setH (s : RS) (c : Nat) (T : Array Value) : RS := { s with h := upd s.h c T }
def RS.setB (s : RS) (c : Nat) (y : Bool) : RS := { s with b := upd s.b c y }
def RS.setW (s : RS) (f : Nat → Value) : RS := { s with w := f }
theorem RunA.setM {C : Array Value} {s : RS} (h : RunA C s) (c : Nat) (hc : c < 4) (T : Array Value) (hT : T.size = 4) : RunA (setAll C (3 + c * 4) T.toList) (s.setM c T) := by
  have hl : T.toList.length = 4 := by simpa using hT
  have hs := h.size
  refine ⟨by rw [setAll_size, hs], fun j hj => ?_, fun c2 j hc2 hj => ?_, fun c2 j hc2 hj => ?_, fun c2 hc2 => ?_⟩
  · rw [setAll_out _ _ _ _ (by omega)]; exact h.w j hj
  · simp only [RS.setM, upd]
    by_cases e : c2 = c
    · subst e; rw [if_pos rfl, setAll_in _ _ _ _ (by omega) (by omega)]; simp
    · rw [if_neg e, setAll_out _ _ _ _ (by omega)]; exact h.m c2 j hc2 hj
  · rw [setAll_out _ _ _ _ (by omega)]; exact h.h c2 j hc2 hj
  · rw [setAll_out _ _ _ _ (by omega)]; exact h.b c2 hc2
theorem RunA.setH {C : Array Value} {s : RS} (h : RunA C s) (c : Nat) (hc : c < 4) (T : Array Value) (hT : T.size = 4) : RunA (setAll C (19 + c * 4) T.toList) (s.setH c T) := by
  have hl : T.toList.length = 4 := by simpa using hT
  have hs := h.size
  refine ⟨by rw [setAll_size, hs], fun j hj => ?_, fun c2 j hc2 hj => ?_, fun c2 j hc2 hj => ?_, fun c2 hc2 => ?_⟩
  · rw [setAll_out _ _ _ _ (by omega)]; exact h.w j hj
  · rw [setAll_out _ _ _ _ (by omega)]; exact h.m c2 j hc2 hj
  · simp only [RS.setH, upd]
    by_cases e : c2 = c
    · subst e; rw [if_pos rfl, setAll_in _ _ _ _ (by omega) (by omega)]; simp
    · rw [if_neg e, setAll_out _ _ _ _ (by omega)]; exact h.h c2 j hc2 hj
  · rw [setAll_out _ _ _ _ (by omega)]; exact h.b c2 hc2
theorem RunA.setB {C : Array Value} {s : RS} (h : RunA C s) (c : Nat) (hc : c < 4) (y : Bool) : RunA (C.setIfInBounds (35 + c) (.bool y)) (s.setB c y) := by
  have hs := h.size
  refine ⟨by simp [hs], fun j hj => ?_, fun c2 j hc2 hj => ?_, fun c2 j hc2 hj => ?_, fun c2 hc2 => ?_⟩
  · rw [Array.getElem?_setIfInBounds, if_neg (by omega)]; exact h.w j hj
  · rw [Array.getElem?_setIfInBounds, if_neg (by omega)]; exact h.m c2 j hc2 hj
  · rw [Array.getElem?_setIfInBounds, if_neg (by omega)]; exact h.h c2 j hc2 hj
  · simp only [RS.setB, upd]
    rw [Array.getElem?_setIfInBounds]
    by_cases e : c2 = c
    · subst e; rw [if_pos rfl, if_pos (by omega), if_pos rfl]
    · rw [if_neg (by omega), if_neg e]; exact h.b c2 hc2
theorem RunA.setW {C : Array Value} {s : RS} (h : RunA C s) (f : Nat → Value) : RunA (setAll C 0 [f 0, f 1, f 2]) (s.setW f) := by
  have hs := h.size
  refine ⟨by rw [setAll_size, hs], fun j hj => ?_, fun c2 j hc2 hj => ?_, fun c2 j hc2 hj => ?_, fun c2 hc2 => ?_⟩
  · have := setAll_in [f 0, f 1, f 2] C 0 j (by simp; omega) (by simpa using hj)
    rw [Nat.zero_add] at this
    rw [this]
    match j, hj with
    | 0, _ => rfl
    | 1, _ => rfl
    | 2, _ => rfl
  · rw [setAll_out _ _ _ _ (by simp; omega)]; exact h.m c2 j hc2 hj
  · rw [setAll_out _ _ _ _ (by simp; omega)]; exact h.h c2 j hc2 hj
  · rw [setAll_out _ _ _ _ (by simp; omega)]; exact h.b c2 hc2
theorem RunA.getM {C : Array Value} {s : RS} (h : RunA C s) (c : Nat) (hc : c < 4) {T : Array Value} (hT : s.m c = T) (h4 : T.size = 4) : ∀ (j : Nat) (v : Value), T[j]? = some v → C[3 + c * 4 + j]? = some v := fun j v hv => by
  have hj : j < 4 := by have := (Array.getElem?_eq_some_iff.1 hv).1; omega
  rw [h.m c j hc hj, hT]; exact hv
theorem RunA.getH {C : Array Value} {s : RS} (h : RunA C s) (c : Nat) (hc : c < 4) {T : Array Value} (hT : s.h c = T) (h4 : T.size = 4) : ∀ (j : Nat) (v : Value), T[j]? = some v → C[19 + c * 4 + j]? = some v := fun j v hv => by
  have hj : j < 4 := by have := (Array.getElem?_eq_some_iff.1 hv).1; omega
  rw [h.h c j hc hj, hT]; exact hv
end Go.Proofs.Ytgpdknacnmapiaa
namespace Go.Proofs.Ytgpdknacnmapiaa
set_option linter.unusedVariables false
set_option linter.unusedSimpArgs false
open Go.RowKit
/-- the blocks of a list -/
def OL (L : List (Nat × Array Value × TypeId)) : Nat → Prop := fun b => ∃ (i : Nat) (C : Array Value) (t : TypeId), L[i]? = some (b, C, t)
/-- blocks that are there, and are nobody's own -/
def Cn (P X : Nat → Prop) (n : Nat) : Nat → Prop := fun b => P b ∧ ¬ X b ∧ b < n
/-- blocks that are nobody's own -/
def Nw (P X : Nat → Prop) : Nat → Prop := fun b => P b ∧ ¬ X b
section
variable {P X : Nat → Prop} {w0 W : World} {L : List (Nat × Array Value × TypeId)}
theorem Mem.re (h : Mem X w0 W L) : Mem (OL L) W W L := h.rebase
theorem Mem.tr {W' : World} {L2 : List (Nat × Array Value × TypeId)} (h : Mem X w0 W L) (h2 : Mem (OL L) W W' L2) : Mem X w0 W' L2 := h.trans h2
theorem Mem.startR {w : World} {R : Nat} {C : Array Value} {t : TypeId} (h : HB w R C t) : Mem (fun b => b = R) w w [(R, C, t)] := by
  refine ⟨rfl, rfl, rfl, Nat.le_refl _, fun _ _ _ => rfl, fun i b C' t' hi => ?_, fun i b C' t' hi => ?_, fun i j b C1 C2 t1 t2 hi hj => ?_⟩
  · match i, hi with
    | 0, hi => simp at hi; obtain ⟨rfl, rfl, rfl⟩ := hi; exact h
    | i + 1, hi => simp at hi
  · match i, hi with
    | 0, hi => simp at hi; exact .inl hi.1.symm
    | i + 1, hi => simp at hi
  · match i, j, hi, hj with
    | 0, 0, _, _ => rfl
    | 0, j + 1, _, hj => simp at hj
    | i + 1, _, hi, _ => simp at hi
theorem Mem.notOwn (h : Mem X w0 W L) {b : Nat} (hb : W.heap.size ≤ b) : ¬ OL L b := by
  rintro ⟨i, C, t, hi⟩
  have := h.lt hi
  omega
theorem Mem.cn (h : Mem X w0 W L) {b : Nat} (hb : Cn P X w0.heap.size b) : ¬ OL L b := by
  rintro ⟨i, C, t, hi⟩
  rcases h.st i _ _ _ hi with h1 | h1
  · exact hb.2.1 h1
  · have := hb.2.2; omega
theorem Mem.nw (h : Mem X w0 W L) (hP : ∀ b, W.heap.size ≤ b → P b) : ∀ b, W.heap.size ≤ b → Nw P (OL L) b := fun b hb => ⟨hP b hb, h.notOwn hb⟩
theorem Live.now {C : Array Value} {c : Int} {f : Fr} {x : Int} (hl : Live (Cn P X w0.heap.size) w0 C c f x) (h : Mem X w0 W L) : Live (Nw P (OL L)) W C c f x := (hl.mem (fun b hb => hb.2.1) h).weak fun b hb _ => ⟨hb.1, h.cn hb⟩
theorem Live.step {C : Array Value} {c : Int} {f : Fr} {x : Int} (hl : Live (Cn P X w0.heap.size) w0 C c f x) (h : Mem X w0 W L) : Live (Cn P (OL L) W.heap.size) W C c f x := (hl.mem (fun b hb => hb.2.1) h).weak fun b hb hlt => ⟨hb.1, h.cn hb, hlt⟩
theorem Live.cn {C : Array Value} {c : Int} {f : Fr} {x : Int} (hl : Live (Nw P X) W C c f x) : Live (Cn P X W.heap.size) W C c f x := hl.weak fun b hb hlt => ⟨hb.1, hb.2, hlt⟩
theorem Dead.now {C : Array Value} {c : Int} {l : List Int} (hl : Dead (Cn P X w0.heap.size) w0 C c l) (h : Mem X w0 W L) : Dead (Nw P (OL L)) W C c l := (hl.mem (fun b hb => hb.2.1) h).weak fun b hb _ => ⟨hb.1, h.cn hb⟩
theorem Dead.step {C : Array Value} {c : Int} {l : List Int} (hl : Dead (Cn P X w0.heap.size) w0 C c l) (h : Mem X w0 W L) : Dead (Cn P (OL L) W.heap.size) W C c l := (hl.mem (fun b hb => hb.2.1) h).weak fun b hb hlt => ⟨hb.1, h.cn hb, hlt⟩
theorem Dead.cn {C : Array Value} {c : Int} {l : List Int} (hl : Dead (Nw P X) W C c l) : Dead (Cn P X W.heap.size) W C c l := hl.weak fun b hb hlt => ⟨hb.1, hb.2, hlt⟩
theorem CellsV.mem {v : Value} {l : List Int} (hl : CellsV P w0 v l) (hP : ∀ b, P b → ¬ X b) (h : Mem X w0 W L) : CellsV P W v l := hl.keep fun b hb hlt => h.old b hlt (hP b hb)
theorem CellsV.weak {Q : Nat → Prop} {v : Value} {l : List Int} (hl : CellsV P W v l) (hP : ∀ b, P b → b < W.heap.size → Q b) : CellsV Q W v l := by
  obtain ⟨b, o, cap, rfl, hp, h771, hc, hf⟩ := hl
  have hlt : b < W.heap.size := by
    obtain ⟨z, hz⟩ : ∃ z, l[0]? = some z := ⟨_, List.getElem?_eq_getElem (by omega)⟩
    exact World.block_lt_of_cell? _ _ (hc 0 z hz)
  exact ⟨b, o, cap, rfl, hP b hp hlt, h771, hc, hf⟩
theorem CellsV.now {v : Value} {l : List Int} (hl : CellsV (Cn P X w0.heap.size) w0 v l) (h : Mem X w0 W L) : CellsV (Nw P (OL L)) W v l := (hl.mem (fun b hb => hb.2.1) h).weak fun b hb _ => ⟨hb.1, h.cn hb⟩
theorem CellsV.step {v : Value} {l : List Int} (hl : CellsV (Cn P X w0.heap.size) w0 v l) (h : Mem X w0 W L) : CellsV (Cn P (OL L) W.heap.size) W v l := (hl.mem (fun b hb => hb.2.1) h).weak fun b hb hlt => ⟨hb.1, h.cn hb, hlt⟩
theorem CellsV.cn {v : Value} {l : List Int} (hl : CellsV (Nw P X) W v l) : CellsV (Cn P X W.heap.size) W v l := hl.weak fun b hb hlt => ⟨hb.1, hb.2, hlt⟩
theorem DiskV.mem {v : Value} (hl : DiskV P w0 v) (hP : ∀ b, P b → ¬ X b) (h : Mem X w0 W L) : DiskV P W v := hl.keep fun b hb hlt => h.old b hlt (hP b hb)
theorem DiskV.weak {Q : Nat → Prop} {v : Value} (hl : DiskV P W v) (hP : ∀ b, P b → b < W.heap.size → Q b) : DiskV Q W v := by
  obtain ⟨b, o, cap, rfl, hp, hc⟩ := hl
  exact ⟨b, o, cap, rfl, hP b hp (World.block_lt_of_cell? _ _ (hc 0 (by omega)).1), hc⟩
theorem DiskV.now {v : Value} (hl : DiskV (Cn P X w0.heap.size) w0 v) (h : Mem X w0 W L) : DiskV (Nw P (OL L)) W v := (hl.mem (fun b hb => hb.2.1) h).weak fun b hb _ => ⟨hb.1, h.cn hb⟩
theorem DiskV.step {v : Value} (hl : DiskV (Cn P X w0.heap.size) w0 v) (h : Mem X w0 W L) : DiskV (Cn P (OL L) W.heap.size) W v := (hl.mem (fun b hb => hb.2.1) h).weak fun b hb hlt => ⟨hb.1, h.cn hb, hlt⟩
end
end Go.Proofs.Ytgpdknacnmapiaa
namespace Go.Proofs.Ytgpdknacnmapiaa
set_option linter.unusedVariables false
set_option linter.unusedSimpArgs false
open Go.RowKit
section
variable {X : Nat → Prop} {w0 w : World} {L : List (Nat × Array Value × TypeId)} {ops : Array Oper} {rest : List Oper} {o : Oper} {a : Act} {Q : Exit → Act → World → Prop} {K : Act → World → Prop} {s : RS} {C : Array Value} {t0 : TypeId}
theorem wpOm_stM (HM : Hid (Mem X w0 w L)) (HA : Hid (RunA C s)) (x y : Operand) (ho : o.op = .store 38 x y) (hd : o.dst = none) (i : Nat) {b : Nat} (hi : L[i]? = some (b, C, t0)) (c : Nat) (hc : c < 4) (T : Array Value) (hx : a.eval x = .pointer (some ⟨b, 3 + c * 4, none⟩)) (hy : a.eval y = .agg T) (hT : TaskC T)
    (h : ∀ W C', Hid (RunA C' (s.setM c T)) → Hid (Mem X w0 W (L.set i (b, C', t0))) → K a W) : o.wp Try.prog a w K Q :=
  wpOm_stm HM 38 x y ho hd i _ hi T hx hy 4 inf38 hT.size (by rw [HA.out.size]; omega) hT.one fun W hM => h W _ (Lib.hid (HA.out.setM c hc T hT.size)) hM
theorem wpOm_stH (HM : Hid (Mem X w0 w L)) (HA : Hid (RunA C s)) (x y : Operand) (ho : o.op = .store 38 x y) (hd : o.dst = none) (i : Nat) {b : Nat} (hi : L[i]? = some (b, C, t0)) (c : Nat) (hc : c < 4) (T : Array Value) (hx : a.eval x = .pointer (some ⟨b, 19 + c * 4, none⟩)) (hy : a.eval y = .agg T) (hT : TaskC T)
    (h : ∀ W C', Hid (RunA C' (s.setH c T)) → Hid (Mem X w0 W (L.set i (b, C', t0))) → K a W) : o.wp Try.prog a w K Q :=
  wpOm_stm HM 38 x y ho hd i _ hi T hx hy 4 inf38 hT.size (by rw [HA.out.size]; omega) hT.one fun W hM => h W _ (Lib.hid (HA.out.setH c hc T hT.size)) hM
theorem wpm_stB (HM : Hid (Mem X w0 w L)) (HA : Hid (RunA C s)) (hg : o.guard = none) (x y : Operand) (ho : o.op = .store 4 x y) (i : Nat) {b : Nat} (hi : L[i]? = some (b, C, t0)) (c : Nat) (hc : c < 4) (z : Bool) (hx : a.eval x = .pointer (some ⟨b, 35 + c, none⟩)) (hy : a.eval y = .bool z)
    (h : ∀ W C', Hid (RunA C' (s.setB c z)) → Hid (Mem X w0 W (L.set i (b, C', t0))) → wpList Try.prog ops Q rest (a.put o.dst undef) W) : wpList Try.prog ops Q (o :: rest) a w :=
  wpm_cell HM hg 4 x y ho Try.sizeOf4 i (35 + c) hi (.bool z) hx hy (.inr (.inl ⟨_, rfl⟩)) (by rw [HA.out.size]; omega) _ rfl fun W hM => h W _ (Lib.hid (HA.out.setB c hc z)) hM
theorem wpm_stW (HM : Hid (Mem X w0 w L)) (HA : Hid (RunA C s)) (hg : o.guard = none) (x y : Operand) (ho : o.op = .store 35 x y) (i : Nat) {b : Nat} (hi : L[i]? = some (b, C, t0)) (ao bo co : Option Addr) (n c n2 c2 n3 c3 : Nat) (hx : a.eval x = .pointer (some ⟨b, 0, none⟩)) (hy : a.eval y = .agg #[.slice ao n c, .slice bo n2 c2, .slice co n3 c3]) (f : Nat → Value) (h0 : f 0 = .slice ao n c) (h1 : f 1 = .slice bo n2 c2) (h2 : f 2 = .slice co n3 c3)
    (h : ∀ W C', Hid (RunA C' (s.setW f)) → Hid (Mem X w0 W (L.set i (b, C', t0))) → wpList Try.prog ops Q rest (a.put o.dst undef) W) : wpList Try.prog ops Q (o :: rest) a w :=
  wpm_stm HM hg 35 x y ho i 0 hi _ hx hy 3 inf35 rfl (by rw [HA.out.size]; omega) (w35_one _ _ _ _ _ _ _ _ _) fun W hM => h W _ (Lib.hid (by have := HA.out.setW f; rw [h0, h1, h2] at this; exact this)) hM
/-- one's task is loaded -/
theorem wpm_ldM (HM : Hid (Mem X w0 w L)) (HA : Hid (RunA C s)) (hg : o.guard = none) (x : Operand) (ho : o.op = .load 38 x) (i : Nat) {b : Nat} (hi : L[i]? = some (b, C, t0)) (c : Nat) (hc : c < 4) (hx : a.eval x = .pointer (some ⟨b, 3 + c * 4, none⟩)) (T : Array Value) (hT : s.m c = T) (hTC : TaskC T)
    (h : wpList Try.prog ops Q rest (a.put o.dst (.agg T)) w) : wpList Try.prog ops Q (o :: rest) a w :=
  wpm_ldm HM hg 38 x ho i _ hi hx T (HA.out.getM c hc hT hTC.size) 4 und38 inf38 hTC.size h
theorem wpm_ldH (HM : Hid (Mem X w0 w L)) (HA : Hid (RunA C s)) (hg : o.guard = none) (x : Operand) (ho : o.op = .load 38 x) (i : Nat) {b : Nat} (hi : L[i]? = some (b, C, t0)) (c : Nat) (hc : c < 4) (hx : a.eval x = .pointer (some ⟨b, 19 + c * 4, none⟩)) (T : Array Value) (hT : s.h c = T) (hTC : TaskC T)
    (h : wpList Try.prog ops Q rest (a.put o.dst (.agg T)) w) : wpList Try.prog ops Q (o :: rest) a w :=
  wpm_ldm HM hg 38 x ho i _ hi hx T (HA.out.getH c hc hT hTC.size) 4 und38 inf38 hTC.size h
end
end Go.Proofs.Ytgpdknacnmapiaa
