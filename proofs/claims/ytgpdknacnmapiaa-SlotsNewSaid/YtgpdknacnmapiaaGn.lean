/-
  What the programs do next, of any frame that stands well; general laws on frames and actions in memory (chapter 14).
-/
import Derived.Test.YtgpdknacnmapiaaRx
import Derived.Test.YtgpdknacnmapiaaNb
import Derived.Test.YtgpdknacnmapiaaNc
import Derived.Test.YtgpdknacnmapiaaNd
import Derived.Test.YtgpdknacnmapiaaNe
import Derived.Test.YtgpdknacnmapiaaSa
namespace Go.Proofs.Ytgpdknacnmapiaa
set_option linter.unusedVariables false
set_option linter.unusedSimpArgs false
open Go.RowKit
def nextG (f : Fr) (x : Int) : Rs := if f.pg = 56 then nextR f x else if f.st = 0 then dropR f else ⟨f, 7, 0, 0, []⟩
/-- a frame of slots that has taken at most j steps -/
structure Inv (f : Fr) (j : Nat) : Prop where
  pg : f.pg = 56 ∨ f.pg = 57
  s : f.st = 0 ∨ f.st = 1 ∨ f.st = 2
  s2 : f.pg = 57 → f.st ≠ 2
  l : f.pg = 56 → f.st = 1 → 0 ≤ lookC f
  r0 : 0 ≤ f.r 0 ∧ f.r 0 ≤ 300000
  r1 : 0 ≤ f.r 1 ∧ f.r 1 ≤ 255
  r2 : f.r 2 = 0 ∨ f.r 2 = 1
  r3 : 0 ≤ f.r 3 ∧ f.r 3 ≤ j
  r4 : 0 ≤ f.r 4 ∧ f.r 4 ≤ 1000000
theorem Inv.bd {f : Fr} {j : Nat} (h : Inv f j) (hj : j ≤ 900) : Bd f := ⟨h.s, h.r0, h.r1, h.r2, ⟨h.r3.1, by have := h.r3.2; omega⟩, h.r4⟩
theorem Inv.bd1 {f : Fr} {j : Nat} (h : Inv f j) (hj : j ≤ 900) : Bd (f.reg 3 (f.r 3 + 1)) := by
  have := h.r3
  refine ⟨h.s, h.r0, h.r1, h.r2, ⟨?_, ?_⟩, h.r4⟩ <;> simp only [Fr.reg] <;> omega
theorem Inv.next_p {f : Fr} {j : Nat} (h : Inv f j) (hj : j ≤ 900) (x : Int) (hx : 0 ≤ x ∧ x ≤ 4095) (v : Value) (w : World) (hg : GotV w v x) :
    Calls Try.prog 19 #[.agg f.cells, v] w fun e w' => Ans w w' e (nextG f x) ∧ Below w.heap.size w w' := by
  have hb := h.bd hj
  unfold nextG
  rcases h.pg with hp | hp
  · rw [if_pos hp]
    rcases h.s with hs | hs | hs
    · refine nx56_0 f x v w _ hp hs hg (fun w => ?_)
      unfold nextR; rw [if_pos hs]
      exact look_p f x w hb
    · refine nx56_1 f x v w _ hp hs hg (fun w => ?_)
      unfold nextR; rw [if_neg (by omega), if_pos hs]
      by_cases h2 : x % 2 = 1
      · rw [if_pos h2]
        exact seen_o f x w (h.bd1 hj) ⟨hb.r3.1, hb.r3.2⟩ h2
      · rw [if_neg h2]
        exact seen_e f x w hb (h.l hp hs) hx (by omega)
    · refine nx56_2 f x v w _ hp hs hg (fun w => ?_)
      unfold nextR; rw [if_neg (by omega), if_neg (by omega)]
      exact taken_p f x w
  · rw [if_neg (by omega)]
    rcases h.s with hs | hs | hs
    · rw [if_pos hs]
      exact nx57_0 f x v w _ hp hs hg (fun w => drop_p f x w hb)
    · rw [if_neg (by omega)]
      exact nx57_1 f x v w _ hp hs hg (fun w => dropped_p f x w)
    · exact absurd hs (h.s2 hp)
theorem Inv.next_r {f : Fr} {j : Nat} (h : Inv f j) (hj : j ≤ 900) (x : Int) (hx : 0 ≤ x ∧ x ≤ 4095) (v : Value) (w : World) (hg : GotV w v x) :
    Calls Try.prog 20 #[.agg f.cells, v] w fun e w' => Ans w w' e (refR (nextG f x)) ∧ Below w.heap.size w w' := by
  have hb := h.bd hj
  unfold nextG
  rcases h.pg with hp | hp
  · rw [if_pos hp]
    refine rx56 f x v w _ hp hg (fun w => ?_)
    unfold nextR
    rcases h.s with hs | hs | hs
    · rw [if_pos hs]
      exact allot0 f x w hs hb
    · rw [if_neg (by omega), if_pos hs]
      by_cases h2 : x % 2 = 1
      · rw [if_pos h2]
        exact allot1o f x w hs hb hx h2
      · rw [if_neg h2]
        exact allot1e f x w hs hb (h.l hp hs) hx (by omega)
    · rw [if_neg (by omega), if_neg (by omega)]
      exact allot2 f x w hs
  · rw [if_neg (by omega)]
    rcases h.s with hs | hs | hs
    · rw [if_pos hs]
      exact rx57_0 f v w hp hb hs
    · rw [if_neg (by omega)]
      exact rx57_1 f v w hp hb hs
    · exact absurd hs (h.s2 hp)
theorem lookR_inv {f : Fr} {j : Nat} (h : Inv f j) (hp : f.pg = 56) (hk : (lookR f).k ≠ 7) : Inv (lookR f).f j := by
  unfold lookR at *
  split at hk
  · exact absurd rfl hk
  · rename_i h1
    rw [if_neg h1]
    split at hk
    · exact absurd rfl hk
    · rename_i h2
      rw [if_neg h2]
      exact ⟨h.pg, .inr (.inl rfl), fun _ => by show (1 : Int) ≠ 2; omega, fun _ _ => by have : lookC (f.at_ 1) = lookC f := rfl; rw [this]; omega, h.r0, h.r1, h.r2, h.r3, h.r4⟩
theorem Inv.up {f : Fr} {i j : Nat} (h : Inv f i) (hij : i ≤ j) : Inv f j := ⟨h.pg, h.s, h.s2, h.l, h.r0, h.r1, h.r2, ⟨h.r3.1, by have := h.r3.2; omega⟩, h.r4⟩
theorem Inv.next {f : Fr} {j : Nat} (h : Inv f j) (hj : j ≤ 900) (x : Int) (hx : 0 ≤ x ∧ x ≤ 4095) (hk : (nextG f x).k ≠ 7) : Inv (nextG f x).f (j + 1) := by
  unfold nextG at *
  rcases h.pg with hp | hp
  · rw [if_pos hp] at hk ⊢
    unfold nextR at *
    rcases h.s with hs | hs | hs
    · rw [if_pos hs] at hk ⊢
      exact (lookR_inv h hp hk).up (by omega)
    · rw [if_neg (by omega), if_pos hs] at hk ⊢
      by_cases h2 : x % 2 = 1
      · rw [if_pos h2] at hk ⊢
        -- the frame goes on; its step is 1, whatever is loaded
        unfold lookR at *
        split at hk
        · exact absurd rfl hk
        · rename_i h1
          rw [if_neg h1]
          split at hk
          · exact absurd rfl hk
          · rename_i h3
            rw [if_neg h3]
            have hr3 := h.r3
            refine ⟨.inl hp, .inr (.inl rfl), fun _ => by show (1 : Int) ≠ 2; omega, fun _ _ => ?_, h.r0, h.r1, h.r2, ⟨?_, ?_⟩, h.r4⟩
            · have : lookC ((f.reg 3 (f.r 3 + 1)).at_ 1) = lookC (f.reg 3 (f.r 3 + 1)) := rfl
              rw [this]; omega
            · simp only [Fr.at_, Fr.reg]; omega
            · simp only [Fr.at_, Fr.reg]; omega
      · rw [if_neg h2] at hk ⊢
        have hg := aft_le (x / 2) (by omega)
        have hl := h.l hp hs
        have hs255 : slotOf f ≤ 255 := by
          rcases Int.lt_or_le 255 (slotOf f) with h3 | h3
          · unfold lookC at hl; rw [genC_big _ (by omega)] at hl; omega
          · exact h3
        have h0 : 0 ≤ slotOf f := by unfold slotOf; have := h.r0; have := h.r3; omega
        have hr3 := h.r3
        refine ⟨.inl hp, .inr (.inr rfl), fun e => by have : f.pg = 57 := e; omega, fun _ e => by have : (2 : Int) = 1 := e; omega, h.r0, h.r1, h.r2, ⟨hr3.1, ?_⟩, ?_⟩
        · show f.r 3 ≤ _; omega
        · show 0 ≤ aft (x / 2) * 256 + slotOf f ∧ aft (x / 2) * 256 + slotOf f ≤ 1000000
          omega
    · rw [if_neg (by omega), if_neg (by omega)] at hk
      exact absurd rfl hk
  · rw [if_neg (by omega)] at hk ⊢
    rcases h.s with hs | hs | hs
    · rw [if_pos hs] at hk ⊢
      unfold dropR at *
      split at hk
      · exact absurd rfl hk
      · rename_i h1
        rw [if_neg h1]
        exact ⟨.inr hp, .inr (.inl rfl), fun _ => by show (1 : Int) ≠ 2; omega, fun e => by have : f.pg = 56 := e; omega, h.r0, h.r1, h.r2, ⟨h.r3.1, by show f.r 3 ≤ _; have := h.r3.2; omega⟩, h.r4⟩
    · rw [if_neg (by omega)] at hk
      exact absurd rfl hk
    · exact absurd hs (h.s2 hp)
theorem refR_go {r : Rs} (h : r.k ≠ 7) : refR r = r := by unfold refR; rw [if_neg h]
theorem refR_k (r : Rs) : (refR r).k = r.k ∧ (refR r).a = r.a ∧ (refR r).v = r.v ∧ (refR r).l = r.l := by unfold refR; split <;> exact ⟨rfl, rfl, rfl, rfl⟩
theorem nextG_l (f : Fr) (x : Int) : (nextG f x).l.length ≤ 2 := by
  unfold nextG nextR lookR dropR
  repeat' split
  all_goals simp
theorem HB.oth {w w' : World} {b : Nat} {C : Array Value} {t : TypeId} (h : HB w b C t) (he : w'.heap[b]? = w.heap[b]?) : HB w' b C t := by
  unfold HB at *; rw [he]; exact h
section
variable {ops : Array Oper} {rest : List Oper} {o : Oper} {a : Act} {w : World} {Q : Exit → Act → World → Prop}
theorem wp_al57g (hg : o.guard = none) (ho : o.op = .alloc 57) (h : ∀ W, Below w.heap.size w W → HB W w.heap.size Fr.zero.cells 57 → wpList Try.prog ops Q rest (a.put o.dst (.pointer (some ⟨w.heap.size, 0, none⟩))) W) : wpList Try.prog ops Q (o :: rest) a w :=
  wp_al57 hg ho (h _ ((Below.refl _ _).alloc (Nat.le_refl _) _) (heap_alloc_new _ _))
theorem wp_al59g (hg : o.guard = none) (ho : o.op = .alloc 59) (h : ∀ W, Below w.heap.size w W → HB W w.heap.size acZ 59 → wpList Try.prog ops Q rest (a.put o.dst (.pointer (some ⟨w.heap.size, 0, none⟩))) W) : wpList Try.prog ops Q (o :: rest) a w := by
  refine wpList_plain hg fun K hK => ?_
  unfold Oper.wp execOp
  simp only [ho]
  have hz := fun w => zer59 w
  simp [Instr.alloc, newVar, newRow, hz, Sem.run_bind, Value.cells]
  exact hK _ _ (h _ ((Below.refl _ _).alloc (Nat.le_refl _) _) (heap_alloc_new _ _))
theorem wp_lda (hg : o.guard = none) (x : Operand) (ho : o.op = .load 59 x) (b : Nat) (hx : a.eval x = .pointer (some ⟨b, 0, none⟩)) (C : Array Value) (hs : C.size = 7) (hr : HB w b C 59)
    (h : wpList Try.prog ops Q rest (a.put o.dst (.agg C)) w) : wpList Try.prog ops Q (o :: rest) a w := by
  obtain ⟨fs, hu⟩ := und59
  exact wpList_load_mid hg 59 x ho b 0 hx C.toList (.struct fs) hr.range hu rfl (by rw [inf59]; simp [hs]) (by simpa using h)
theorem wp_stfg (hg : o.guard = none) (x y : Operand) (ho : o.op = .store 57 x y) (b : Nat) (f : Fr) (hx : a.eval x = .pointer (some ⟨b, 0, none⟩)) (hy : a.eval y = .agg f.cells) (f0 : Fr) (hb : HB w b f0.cells 57)
    (h : ∀ W, (∀ B, B ≤ b → Below B w W) → (∀ k, k ≠ b → W.heap[k]? = w.heap[k]?) → HB W b f.cells 57 → W.heap.size = w.heap.size → wpList Try.prog ops Q rest (a.put o.dst undef) W) : wpList Try.prog ops Q (o :: rest) a w :=
  wp_stf hg x y ho b f hx hy f0 hb (h _ (fun B hB => below_row (Below.refl _ _) _ hB _) (fun k hk => setRow_other _ _ _ _ (fun e => hk e)) (setRow_heap _ _ _ _ _ _ hb) (by simp))
theorem wp_stag (hg : o.guard = none) (x y : Operand) (ho : o.op = .store 59 x y) (b : Nat) (k1 k2 k3 k4 k5 : Int) (ao : Option Addr) (n c : Nat) (hx : a.eval x = .pointer (some ⟨b, 0, none⟩)) (hy : a.eval y = .agg (acC k1 k2 k3 k4 k5 (.slice ao n c))) (C0 : Array Value) (hb : HB w b C0 59) (h0 : C0.size = 7)
    (h : ∀ W, (∀ B, B ≤ b → Below B w W) → (∀ k, k ≠ b → W.heap[k]? = w.heap[k]?) → HB W b (acC k1 k2 k3 k4 k5 (.slice ao n c)) 59 → W.heap.size = w.heap.size → wpList Try.prog ops Q rest (a.put o.dst undef) W) : wpList Try.prog ops Q (o :: rest) a w :=
  wp_sta hg x y ho b _ C0 hx hy hb rfl h0 (acC_one _ _ _ _ _ _ _ _) (h _ (fun B hB => below_row (Below.refl _ _) _ hB _) (fun k hk => setRow_other _ _ _ _ (fun e => hk e)) (setRow_heap _ _ _ _ _ _ hb) (by simp))
theorem wp_setrg (hg : o.guard = none) (x y : Operand) (ho : o.op = .store 3 x y) (b i : Nat) (hi : i < 96) (v : Int) (hx : a.eval x = .pointer (some ⟨b, 2 + i, none⟩)) (hy : a.eval y = .int .i64 v) (f : Fr) (hb : HB w b f.cells 57)
    (h : ∀ W, (∀ B, B ≤ b → Below B w W) → (∀ k, k ≠ b → W.heap[k]? = w.heap[k]?) → HB W b (f.reg i v).cells 57 → W.heap.size = w.heap.size → wpList Try.prog ops Q rest (a.put o.dst undef) W) : wpList Try.prog ops Q (o :: rest) a w := by
  refine wpList_plain hg fun K hK => ?_
  have hc := hb.cell (f.cr i hi)
  have hf : w.frozen? ⟨b, 2 + i, none⟩ = false := hb.fro
  unfold Oper.wp execOp
  simp only [ho, hx, hy]
  simp [go_sem, hc, hf, Instr.storeAt, storeVar, Try.sizeOf3]
  exact hK _ _ (h _ (fun B hB => below_set (Below.refl _ _) _ hB _) (fun k hk => heap_setCell_other _ _ _ _ (fun e => hk e)) (by rw [← f.setr i hi v]; exact Go.heap_setCell_same _ _ _ _ _ _ hb) (World.size_setCell _ _ _))
def Fr.prog (f : Fr) (p : Int) : Fr := { f with pg := p }
theorem Fr.set0 (f : Fr) (p : Int) : f.cells.setIfInBounds 0 (.int .i8 p) = (f.prog p).cells := by
  apply Array.ext_getElem?
  intro k
  rw [Array.getElem?_setIfInBounds]
  by_cases h : 0 = k
  · subst h; rw [if_pos rfl, if_pos (by rw [Fr.size]; omega), Fr.c0]; rfl
  · rw [if_neg h]
    by_cases hk : k < 98
    · by_cases h0 : k = 1
      · subst h0; rw [Fr.c1, Fr.c1]; rfl
      · obtain ⟨i, rfl⟩ : ∃ i, k = 2 + i := ⟨k - 2, by omega⟩
        rw [Fr.cr _ _ (by omega), Fr.cr _ _ (by omega)]; rfl
    · rw [Array.getElem?_eq_none (by rw [Fr.size]; omega), Array.getElem?_eq_none (by rw [Fr.size]; omega)]
theorem wp_setpg (hg : o.guard = none) (x y : Operand) (ho : o.op = .store 46 x y) (b : Nat) (v : Int) (hx : a.eval x = .pointer (some ⟨b, 0, none⟩)) (hy : a.eval y = .int .i8 v) (f : Fr) (hb : HB w b f.cells 57)
    (h : ∀ W, (∀ B, B ≤ b → Below B w W) → (∀ k, k ≠ b → W.heap[k]? = w.heap[k]?) → HB W b (f.prog v).cells 57 → W.heap.size = w.heap.size → wpList Try.prog ops Q rest (a.put o.dst undef) W) : wpList Try.prog ops Q (o :: rest) a w := by
  refine wpList_plain hg fun K hK => ?_
  have hc := hb.cell f.c0
  have hf : w.frozen? ⟨b, 0, none⟩ = false := hb.fro
  unfold Oper.wp execOp
  simp only [ho, hx, hy]
  simp [go_sem, hc, hf, Instr.storeAt, storeVar, Try.sizeOf46]
  exact hK _ _ (h _ (fun B hB => below_set (Below.refl _ _) _ hB _) (fun k hk => heap_setCell_other _ _ _ _ (fun e => hk e)) (by rw [← f.set0 v]; exact Go.heap_setCell_same _ _ _ _ _ _ hb) (World.size_setCell _ _ _))
theorem wp_bld (t : TypeId) (hg : o.guard = none) (l : Array (Nat × Operand)) (l' : Array (Nat × Value)) (C : Array Value) (ho : o.op = .build t l) (hl : l.map (fun (i, x) => (i, a.eval x)) = l') (hr : ∀ w, (Instr.build t l').run Try.prog w = .ok (.agg C) w) (h : wpList Try.prog ops Q rest (a.put o.dst (.agg C)) w) : wpList Try.prog ops Q (o :: rest) a w := by
  refine wpList_plain hg fun K hK => ?_
  unfold Oper.wp execOp
  simp only [ho]
  have e : (l.map fun x => match x with | (i, x) => (i, a.eval x)) = l' := hl
  simp only [e]
  simp [hr, Sem.run_bind]
  exact hK _ _ h
end
end Go.Proofs.Ytgpdknacnmapiaa
