/-
  Parts of a proof, put together: Mm.
-/
import Derived.Test.YtgpdknacnmapiaaZj01
import Derived.Test.YtgpdknacnmapiaaZj02
import Derived.Test.YtgpdknacnmapiaaZj03
import Derived.Test.YtgpdknacnmapiaaZj04
import Derived.Test.YtgpdknacnmapiaaZj05
import Derived.Test.YtgpdknacnmapiaaZj06
import Derived.Test.YtgpdknacnmapiaaZj07
import Derived.Test.YtgpdknacnmapiaaZj08
import Derived.Test.YtgpdknacnmapiaaZj09
import Derived.Test.YtgpdknacnmapiaaZj10
import Derived.Test.YtgpdknacnmapiaaZj11
import Derived.Test.YtgpdknacnmapiaaZj12
import Derived.Test.YtgpdknacnmapiaaZj13
import Derived.Test.YtgpdknacnmapiaaZj14
import Derived.Test.YtgpdknacnmapiaaZj15
import Derived.Test.YtgpdknacnmapiaaZj16
namespace Go.Proofs.Ytgpdknacnmapiaa
set_option linter.unusedVariables false
set_option linter.unusedSimpArgs false
open Go.RowKit
/-- a call's own blocks L; what was there before is kept, but for X -/
structure Mem (X : Nat → Prop) (w0 W : World) (L : List (Nat × Array Value × TypeId)) : Prop where
  os : W.os = w0.os
  tape : W.tape = w0.tape
  output : W.output = w0.output
  size : w0.heap.size ≤ W.heap.size
  old : ∀ k, k < w0.heap.size → ¬ X k → W.heap[k]? = w0.heap[k]?
  hb : ∀ (i b : Nat) (C : Array Value) (t : TypeId), L[i]? = some (b, C, t) → HB W b C t
  st : ∀ (i b : Nat) (C : Array Value) (t : TypeId), L[i]? = some (b, C, t) → X b ∨ w0.heap.size ≤ b
  nd : ∀ (i j b : Nat) (C C' : Array Value) (t t' : TypeId), L[i]? = some (b, C, t) → L[j]? = some (b, C', t') → i = j
theorem Mem.start (w : World) : Mem (fun _ => False) w w [] :=
  ⟨rfl, rfl, rfl, Nat.le_refl _, fun _ _ _ => rfl, fun i b C t h => by simp at h, fun i b C t h => by simp at h, fun i j b C C' t t' h => by simp at h⟩
section
variable {X : Nat → Prop} {w0 W W' : World} {L : List (Nat × Array Value × TypeId)}
theorem Mem.below (h : Mem X w0 W L) (hb : Below W.heap.size W W') : Mem X w0 W' L :=
  ⟨hb.os.trans h.os, hb.tape.trans h.tape, hb.output.trans h.output, Nat.le_trans h.size hb.size, fun k hk hx => (hb.block k (Nat.lt_of_lt_of_le hk h.size)).trans (h.old k hk hx),
    fun i b C t hi => (h.hb i b C t hi).below hb, h.st, h.nd⟩
theorem Mem.alloc (h : Mem X w0 W L) (C : Array Value) (t : TypeId) : Mem X w0 (W.alloc (.cells C t)) (L ++ [(W.heap.size, C, t)]) := by
  have hb : Below W.heap.size W (W.alloc (.cells C t)) := (Below.refl _ _).alloc (Nat.le_refl _) _
  have h' := h.below hb
  have hnew : ∀ (i b : Nat) (C' : Array Value) (t' : TypeId), (L ++ [(W.heap.size, C, t)])[i]? = some (b, C', t') → (i < L.length ∧ L[i]? = some (b, C', t')) ∨ (i = L.length ∧ b = W.heap.size ∧ C' = C ∧ t' = t) := by
    intro i b C' t' hi
    rcases Nat.lt_trichotomy i L.length with hl | hl | hl
    · rw [List.getElem?_append_left hl] at hi; exact .inl ⟨hl, hi⟩
    · subst hl
      rw [List.getElem?_append_right (Nat.le_refl _)] at hi
      simp at hi
      exact .inr ⟨rfl, hi.1.symm, hi.2.1.symm, hi.2.2.symm⟩
    · rw [List.getElem?_eq_none (by simp; omega)] at hi; cases hi
  refine ⟨h'.os, h'.tape, h'.output, h'.size, h'.old, fun i b C' t' hi => ?_, fun i b C' t' hi => ?_, fun i j b C1 C2 t1 t2 hi hj => ?_⟩
  · rcases hnew i b C' t' hi with ⟨_, hi⟩ | ⟨_, rfl, rfl, rfl⟩
    · exact h'.hb i b C' t' hi
    · exact heap_alloc_new _ _
  · rcases hnew i b C' t' hi with ⟨_, hi⟩ | ⟨_, rfl, rfl, rfl⟩
    · exact h.st i b C' t' hi
    · exact .inr h.size
  · rcases hnew i b C1 t1 hi with ⟨_, hi2⟩ | ⟨ei, rfl, rfl, rfl⟩
    · rcases hnew j b C2 t2 hj with ⟨_, hj⟩ | ⟨_, rfl, rfl, rfl⟩
      · exact h.nd i j b C1 C2 t1 t2 hi2 hj
      · exact absurd (h.hb i _ _ _ hi2).lt (Nat.lt_irrefl _)
    · rcases hnew j _ C2 t2 hj with ⟨_, hj2⟩ | ⟨ej, _, rfl, rfl⟩
      · exact absurd (h.hb j _ _ _ hj2).lt (Nat.lt_irrefl _)
      · omega
theorem Mem.upd (h : Mem X w0 W L) {i b : Nat} {C C' : Array Value} {t : TypeId} (hi : L[i]? = some (b, C, t)) (hb : ∀ B, B ≤ b → Below B W W') (ho : ∀ k, k ≠ b → W'.heap[k]? = W.heap[k]?) (hs : W'.heap.size = W.heap.size) (hn : HB W' b C' t) : Mem X w0 W' (L.set i (b, C', t)) := by
  have hset : ∀ (j b2 : Nat) (C2 : Array Value) (t2 : TypeId), (L.set i (b, C', t))[j]? = some (b2, C2, t2) → (j = i ∧ b2 = b ∧ C2 = C' ∧ t2 = t) ∨ (j ≠ i ∧ L[j]? = some (b2, C2, t2)) := by
    intro j b2 C2 t2 hj
    rw [List.getElem?_set] at hj
    by_cases e : i = j
    · subst e
      have hl : i < L.length := (List.getElem?_eq_some_iff.1 hi).1
      rw [if_pos rfl, if_pos hl] at hj
      simp at hj
      exact .inl ⟨rfl, hj.1.symm, hj.2.1.symm, hj.2.2.symm⟩
    · rw [if_neg e] at hj
      exact .inr ⟨fun e2 => e e2.symm, hj⟩
  have h0 := hb 0 (Nat.zero_le _)
  refine ⟨h0.os.trans h.os, h0.tape.trans h.tape, h0.output.trans h.output, by rw [hs]; exact h.size, fun k hk hx => ?_, fun j b2 C2 t2 hj => ?_, fun j b2 C2 t2 hj => ?_, fun j1 j2 b2 C1 C2 t1 t2 hj1 hj2 => ?_⟩
  · have : k ≠ b := by
      rintro rfl
      rcases h.st i _ _ _ hi with hx' | hx'
      · exact hx hx'
      · omega
    rw [ho k this]; exact h.old k hk hx
  · rcases hset j b2 C2 t2 hj with ⟨rfl, rfl, rfl, rfl⟩ | ⟨hne, hj2⟩
    · exact hn
    · exact (h.hb j b2 C2 t2 hj2).oth (ho _ (by rintro rfl; exact hne (h.nd j i _ _ _ _ _ hj2 hi)))
  · rcases hset j b2 C2 t2 hj with ⟨rfl, rfl, rfl, rfl⟩ | ⟨hne, hj2⟩
    · exact h.st _ _ _ _ hi
    · exact h.st _ _ _ _ hj2
  · rcases hset j1 b2 C1 t1 hj1 with ⟨rfl, rfl, rfl, rfl⟩ | ⟨hne, hk1⟩
    · rcases hset j2 _ C2 t2 hj2 with ⟨rfl, _, _, _⟩ | ⟨hne2, hk2⟩
      · rfl
      · exact absurd (h.nd j2 _ _ _ _ _ _ hk2 hi) hne2
    · rcases hset j2 _ C2 t2 hj2 with ⟨rfl, rfl, rfl, rfl⟩ | ⟨hne2, hk2⟩
      · exact absurd (h.nd j1 _ _ _ _ _ _ hk1 hi) hne
      · exact h.nd _ _ _ _ _ _ _ hk1 hk2
theorem Mem.rebase (h : Mem X w0 W L) : Mem (fun b => ∃ (i : Nat) (C : Array Value) (t : TypeId), L[i]? = some (b, C, t)) W W L :=
  ⟨rfl, rfl, rfl, Nat.le_refl _, fun _ _ _ => rfl, h.hb, fun i b C t hi => .inl ⟨i, C, t, hi⟩, h.nd⟩
theorem Mem.trans {L2 : List (Nat × Array Value × TypeId)} (h : Mem X w0 W L) (h2 : Mem (fun b => ∃ (i : Nat) (C : Array Value) (t : TypeId), L[i]? = some (b, C, t)) W W' L2) : Mem X w0 W' L2 := by
  refine ⟨h2.os.trans h.os, h2.tape.trans h.tape, h2.output.trans h.output, Nat.le_trans h.size h2.size, fun k hk hx => ?_, h2.hb, fun i b C t hi => ?_, h2.nd⟩
  · refine (h2.old k (Nat.lt_of_lt_of_le hk h.size) ?_).trans (h.old k hk hx)
    rintro ⟨i, C, t, hi⟩
    rcases h.st i _ _ _ hi with h1 | h1
    · exact hx h1
    · omega
  · rcases h2.st i b C t hi with ⟨j, C2, t2, hj⟩ | h1
    · exact h.st j b C2 t2 hj
    · exact .inr (Nat.le_trans h.size h1)
theorem Mem.bel (h : Mem (fun _ => False) w0 W L) : Below w0.heap.size w0 W := ⟨h.os, h.tape, h.output, h.size, fun k hk => h.old k hk (fun f => f)⟩
theorem Mem.lt (h : Mem X w0 W L) {i b : Nat} {C : Array Value} {t : TypeId} (hi : L[i]? = some (b, C, t)) : b < W.heap.size := (h.hb i b C t hi).lt
theorem Live.mem {P : Nat → Prop} {C : Array Value} {c : Int} {f : Fr} {x : Int} (hl : Live P w0 C c f x) (hP : ∀ b, P b → ¬ X b) (h : Mem X w0 W L) : Live P W C c f x := hl.keep fun b hb hlt => h.old b hlt (hP b hb)
theorem Dead.mem {P : Nat → Prop} {C : Array Value} {c : Int} {l : List Int} (hl : Dead P w0 C c l) (hP : ∀ b, P b → ¬ X b) (h : Mem X w0 W L) : Dead P W C c l := hl.keep fun b hb hlt => h.old b hlt (hP b hb)
theorem Live.weak {P Q : Nat → Prop} {C : Array Value} {c : Int} {f : Fr} {x : Int} (hl : Live P W C c f x) (hP : ∀ b, P b → b < W.heap.size → Q b) : Live Q W C c f x := by
  obtain ⟨b, o, cap, gao, gn, gcap, rfl, h1, h2, h3, h4, h5⟩ := hl
  have hlt : b < W.heap.size := World.block_lt_of_cell? _ _ (h4 0 (.int .i8 f.pg) (by have := f.c0; simpa using this))
  refine ⟨b, o, cap, gao, gn, gcap, rfl, h1, h2, hP b h3 hlt, h4, ?_⟩
  rcases h5 with h5 | ⟨gb, go, e1, e2, e3, e4⟩
  · exact .inl h5
  · exact .inr ⟨gb, go, e1, e2, hP gb e3 (World.block_lt_of_cell? _ _ e4), e4⟩
theorem Dead.weak {P Q : Nat → Prop} {C : Array Value} {c : Int} {l : List Int} (hl : Dead P W C c l) (hP : ∀ b, P b → b < W.heap.size → Q b) : Dead Q W C c l := by
  obtain ⟨sao, scap, gv, rfl, gao, gcap, rfl, h1, h2, h3⟩ := hl
  refine ⟨sao, scap, _, rfl, gao, gcap, rfl, h1, h2, fun i x hx => ?_⟩
  obtain ⟨b, off, e1, e2, e3⟩ := h3 i x hx
  exact ⟨b, off, e1, hP b e2 (World.block_lt_of_cell? _ _ e3), e3⟩
end
/-- a task's cells, of any task -/
def TaskC (C : Array Value) : Prop := ∃ c ao n cap gao gn gcap y, C = tkC c (.slice ao n cap) (.slice gao gn gcap) y
theorem Live.task {P : Nat → Prop} {W : World} {C : Array Value} {c : Int} {f : Fr} {x : Int} (hl : Live P W C c f x) : TaskC C := by
  obtain ⟨b, o, cap, gao, gn, gcap, rfl, -⟩ := hl
  exact ⟨_, _, _, _, _, _, _, _, rfl⟩
theorem Dead.task {P : Nat → Prop} {W : World} {C : Array Value} {c : Int} {l : List Int} (hl : Dead P W C c l) : TaskC C := by
  obtain ⟨sao, scap, gv, rfl, gao, gcap, rfl, -⟩ := hl
  exact ⟨_, _, _, _, _, _, _, _, rfl⟩
theorem TaskC.size {C : Array Value} (h : TaskC C) : C.size = 4 := by obtain ⟨_, _, _, _, _, _, _, _, rfl⟩ := h; rfl
theorem TaskC.one {C : Array Value} (h : TaskC C) : C.all (·.oneCell') = true := by obtain ⟨_, _, _, _, _, _, _, _, rfl⟩ := h; exact tkC_one _ _ _ _ _ _ _ _
theorem TaskC.zero : TaskC (tkC 0 (.slice none 0 0) (.slice none 0 0) false) := ⟨_, _, _, _, _, _, _, _, rfl⟩
section
variable {X : Nat → Prop} {w0 w : World} {L : List (Nat × Array Value × TypeId)} {ops : Array Oper} {rest : List Oper} {o : Oper} {a : Act} {Q : Exit → Act → World → Prop}
theorem wpm_al (HM : Hid (Mem X w0 w L)) (hg : o.guard = none) (t : TypeId) (ho : o.op = .alloc t) (Z : Array Value) (hz : ∀ w, (zeroValue t).run Try.prog w = .ok (.agg Z) w)
    (h : ∀ W, Hid (Mem X w0 W (L ++ [(w.heap.size, Z, t)])) → wpList Try.prog ops Q rest (a.put o.dst (.pointer (some ⟨w.heap.size, 0, none⟩))) W) : wpList Try.prog ops Q (o :: rest) a w := by
  refine wpList_plain hg fun K hK => ?_
  unfold Oper.wp execOp
  simp only [ho]
  simp [Instr.alloc, newVar, newRow, hz, Sem.run_bind, Value.cells]
  exact hK _ _ (h _ (Lib.hid (HM.out.alloc Z t)))
theorem wpm_box (HM : Hid (Mem X w0 w L)) (hg : o.guard = none) (t : TypeId) (x : Operand) (ho : o.op = .box t x) (C : Array Value) (hx : a.eval x = .agg C)
    (h : ∀ W, Hid (Mem X w0 W (L ++ [(w.heap.size, C, t)])) → wpList Try.prog ops Q rest (a.put o.dst (.pointer (some ⟨w.heap.size, 0, none⟩))) W) : wpList Try.prog ops Q (o :: rest) a w := by
  refine wpList_plain hg fun K hK => ?_
  unfold Oper.wp execOp
  simp only [ho, hx]
  simp [Instr.box, newVar, newRow, Sem.run_bind, Value.cells]
  exact hK _ _ (h _ (Lib.hid (HM.out.alloc C t)))
theorem wpm_ld (HM : Hid (Mem X w0 w L)) (hg : o.guard = none) (t : TypeId) (x : Operand) (ho : o.op = .load t x) (i : Nat) {b : Nat} {C : Array Value} (hi : L[i]? = some (b, C, t)) (hx : a.eval x = .pointer (some ⟨b, 0, none⟩)) (n : Nat) (hu : ∃ fs, Try.prog.underlying t = some (.struct fs)) (hn : (Try.prog.info? t).map (·.size) = some n) (hs : C.size = n)
    (h : wpList Try.prog ops Q rest (a.put o.dst (.agg C)) w) : wpList Try.prog ops Q (o :: rest) a w := by
  obtain ⟨fs, hu⟩ := hu
  exact wpList_load_mid hg t x ho b 0 hx C.toList (.struct fs) (HM.out.hb i b C t hi).range hu rfl (by rw [hn]; simp [hs]) (by simpa using h)
theorem wpm_st (HM : Hid (Mem X w0 w L)) (hg : o.guard = none) (t : TypeId) (x y : Operand) (ho : o.op = .store t x y) (i : Nat) {b : Nat} {C : Array Value} (hi : L[i]? = some (b, C, t)) (C' : Array Value) (hx : a.eval x = .pointer (some ⟨b, 0, none⟩)) (hy : a.eval y = .agg C') (n : Nat) (hn : (Try.prog.info? t).map (·.size) = some n) (hs : C.size = n) (hs' : C'.size = n) (h1 : C'.all (·.oneCell') = true)
    (h : ∀ W, Hid (Mem X w0 W (L.set i (b, C', t))) → wpList Try.prog ops Q rest (a.put o.dst undef) W) : wpList Try.prog ops Q (o :: rest) a w :=
  wpList_store_row hg t x y ho b C' hx hy t C (HM.out.hb i b C t hi) (by rw [hn, hs']) (by rw [hs, hs']) h1 (h _ (Lib.hid (HM.out.upd hi (fun B hB => below_row (Below.refl _ _) _ hB _) (fun k hk => setRow_other _ _ _ _ (fun e => hk e)) (by simp) (setRow_heap _ _ _ _ _ _ (HM.out.hb i b C t hi)))))
theorem wpm_cell (HM : Hid (Mem X w0 w L)) (hg : o.guard = none) (ty : TypeId) (x y : Operand) (ho : o.op = .store ty x y) (hsz : ∀ w, (sizeOf ty).run Try.prog w = .ok 1 w) (i k : Nat) {b : Nat} {C : Array Value} {t : TypeId} (hi : L[i]? = some (b, C, t)) (v : Value) (hx : a.eval x = .pointer (some ⟨b, k, none⟩)) (hy : a.eval y = v) (hne : (∃ k n, v = .int k n) ∨ (∃ y, v = .bool y) ∨ ∃ ao n c, v = .slice ao n c) (hk : k < C.size) (C' : Array Value) (hC : C.setIfInBounds k v = C')
    (h : ∀ W, Hid (Mem X w0 W (L.set i (b, C', t))) → wpList Try.prog ops Q rest (a.put o.dst undef) W) : wpList Try.prog ops Q (o :: rest) a w :=
  wp_cell hg ty x y ho hsz b k v hx hy hne C t (HM.out.hb i b C t hi) hk fun W hb ho' hF hs => h W (Lib.hid (HM.out.upd hi hb ho' hs (by rw [← hC]; exact hF)))
/-- frames -/
theorem wpm_al57 (HM : Hid (Mem X w0 w L)) (hg : o.guard = none) (ho : o.op = .alloc 57)
    (h : ∀ W, Hid (Mem X w0 W (L ++ [(w.heap.size, Fr.zero.cells, 57)])) → wpList Try.prog ops Q rest (a.put o.dst (.pointer (some ⟨w.heap.size, 0, none⟩))) W) : wpList Try.prog ops Q (o :: rest) a w := wpm_al HM hg 57 ho _ zer57 h
theorem wpm_ld57 (HM : Hid (Mem X w0 w L)) (hg : o.guard = none) (x : Operand) (ho : o.op = .load 57 x) (i : Nat) {b : Nat} {f : Fr} (hi : L[i]? = some (b, f.cells, 57)) (hx : a.eval x = .pointer (some ⟨b, 0, none⟩)) (h : wpList Try.prog ops Q rest (a.put o.dst (.agg f.cells)) w) : wpList Try.prog ops Q (o :: rest) a w :=
  wpm_ld HM hg 57 x ho i hi hx 98 und57 inf57 f.size h
theorem wpm_st57 (HM : Hid (Mem X w0 w L)) (hg : o.guard = none) (x y : Operand) (ho : o.op = .store 57 x y) (i : Nat) {b : Nat} {f : Fr} (hi : L[i]? = some (b, f.cells, 57)) (f' : Fr) (hx : a.eval x = .pointer (some ⟨b, 0, none⟩)) (hy : a.eval y = .agg f'.cells)
    (h : ∀ W, Hid (Mem X w0 W (L.set i (b, f'.cells, 57))) → wpList Try.prog ops Q rest (a.put o.dst undef) W) : wpList Try.prog ops Q (o :: rest) a w := wpm_st HM hg 57 x y ho i hi _ hx hy 98 inf57 f.size f'.size f'.one h
/-- actions -/
theorem wpm_al59 (HM : Hid (Mem X w0 w L)) (hg : o.guard = none) (ho : o.op = .alloc 59)
    (h : ∀ W, Hid (Mem X w0 W (L ++ [(w.heap.size, acZ, 59)])) → wpList Try.prog ops Q rest (a.put o.dst (.pointer (some ⟨w.heap.size, 0, none⟩))) W) : wpList Try.prog ops Q (o :: rest) a w := wpm_al HM hg 59 ho _ zer59 h
theorem wpm_ld59 (HM : Hid (Mem X w0 w L)) (hg : o.guard = none) (x : Operand) (ho : o.op = .load 59 x) (i : Nat) {b : Nat} {k1 k2 k3 k4 k5 : Int} {v : Value} (hi : L[i]? = some (b, acC k1 k2 k3 k4 k5 v, 59)) (hx : a.eval x = .pointer (some ⟨b, 0, none⟩)) (h : wpList Try.prog ops Q rest (a.put o.dst (.agg (acC k1 k2 k3 k4 k5 v))) w) : wpList Try.prog ops Q (o :: rest) a w :=
  wpm_ld HM hg 59 x ho i hi hx 7 und59 inf59 rfl h
theorem wpm_st59 (HM : Hid (Mem X w0 w L)) (hg : o.guard = none) (x y : Operand) (ho : o.op = .store 59 x y) (i : Nat) {b : Nat} {C : Array Value} (hi : L[i]? = some (b, C, 59)) (hC : C.size = 7) (k1 k2 k3 k4 k5 : Int) (ao : Option Addr) (n c : Nat) (hx : a.eval x = .pointer (some ⟨b, 0, none⟩)) (hy : a.eval y = .agg (acC k1 k2 k3 k4 k5 (.slice ao n c)))
    (h : ∀ W, Hid (Mem X w0 W (L.set i (b, acC k1 k2 k3 k4 k5 (.slice ao n c), 59))) → wpList Try.prog ops Q rest (a.put o.dst undef) W) : wpList Try.prog ops Q (o :: rest) a w := wpm_st HM hg 59 x y ho i hi _ hx hy 7 inf59 hC rfl (acC_one _ _ _ _ _ _ _ _) h
/-- tasks -/
theorem wpm_al38 (HM : Hid (Mem X w0 w L)) (hg : o.guard = none) (ho : o.op = .alloc 38)
    (h : ∀ W, Hid (Mem X w0 W (L ++ [(w.heap.size, tkC 0 (.slice none 0 0) (.slice none 0 0) false, 38)])) → wpList Try.prog ops Q rest (a.put o.dst (.pointer (some ⟨w.heap.size, 0, none⟩))) W) : wpList Try.prog ops Q (o :: rest) a w := wpm_al HM hg 38 ho _ zer38 h
theorem wpm_ld38 (HM : Hid (Mem X w0 w L)) (hg : o.guard = none) (x : Operand) (ho : o.op = .load 38 x) (i : Nat) {b : Nat} {C : Array Value} (hi : L[i]? = some (b, C, 38)) (hx : a.eval x = .pointer (some ⟨b, 0, none⟩)) (hC : TaskC C) (h : wpList Try.prog ops Q rest (a.put o.dst (.agg C)) w) : wpList Try.prog ops Q (o :: rest) a w :=
  wpm_ld HM hg 38 x ho i hi hx 4 und38 inf38 hC.size h
theorem wpm_st38 (HM : Hid (Mem X w0 w L)) (hg : o.guard = none) (x y : Operand) (ho : o.op = .store 38 x y) (i : Nat) {b : Nat} {C : Array Value} (hi : L[i]? = some (b, C, 38)) (hC : C.size = 4) (C' : Array Value) (hx : a.eval x = .pointer (some ⟨b, 0, none⟩)) (hy : a.eval y = .agg C') (hC' : TaskC C')
    (h : ∀ W, Hid (Mem X w0 W (L.set i (b, C', 38))) → wpList Try.prog ops Q rest (a.put o.dst undef) W) : wpList Try.prog ops Q (o :: rest) a w := wpm_st HM hg 38 x y ho i hi _ hx hy 4 inf38 hC hC'.size hC'.one h
end
end Go.Proofs.Ytgpdknacnmapiaa
