/-
  Parts of a proof, put together: Gn, Tl.
-/
import Derived.Test.YtgpdknacnmapiaaZj01
import Derived.Test.YtgpdknacnmapiaaZj02
import Derived.Test.YtgpdknacnmapiaaZj03
import Derived.Test.YtgpdknacnmapiaaZj04
import Derived.Test.YtgpdknacnmapiaaZj05
import Derived.Test.YtgpdknacnmapiaaZj06
import Derived.Test.YtgpdknacnmapiaaZj07
import Derived.Test.YtgpdknacnmapiaaZj08
import Derived.Test.YtgpdknacnmapiaaZj09
import Derived.Test.YtgpdknacnmapiaaZj10
import Derived.Test.YtgpdknacnmapiaaZj11
import Derived.Test.YtgpdknacnmapiaaZj12
import Derived.Test.YtgpdknacnmapiaaZj13
import Derived.Test.YtgpdknacnmapiaaZj14
namespace Go.Proofs.Ytgpdknacnmapiaa
set_option linter.unusedVariables false
set_option linter.unusedSimpArgs false
open Go.RowKit
def nextG (f : Fr) (x : Int) : Rs := if f.pg = 56 then nextR f x else if f.st = 0 then dropR f else ⟨f, 7, 0, 0, []⟩
/-- a frame of slots that has taken at most j steps -/
structure Inv (f : Fr) (j : Nat) : Prop where
  pg : f.pg = 56 ∨ f.pg = 57
  s : f.st = 0 ∨ f.st = 1 ∨ f.st = 2
  s2 : f.pg = 57 → f.st ≠ 2
  l : f.pg = 56 → f.st = 1 → 0 ≤ lookC f
  r0 : 0 ≤ f.r 0 ∧ f.r 0 ≤ 300000
  r1 : 0 ≤ f.r 1 ∧ f.r 1 ≤ 255
  r2 : f.r 2 = 0 ∨ f.r 2 = 1
  r3 : 0 ≤ f.r 3 ∧ f.r 3 ≤ j
  r4 : 0 ≤ f.r 4 ∧ f.r 4 ≤ 1000000
theorem Inv.bd {f : Fr} {j : Nat} (h : Inv f j) (hj : j ≤ 900) : Bd f := ⟨h.s, h.r0, h.r1, h.r2, ⟨h.r3.1, by have := h.r3.2; omega⟩, h.r4⟩
theorem Inv.bd1 {f : Fr} {j : Nat} (h : Inv f j) (hj : j ≤ 900) : Bd (f.reg 3 (f.r 3 + 1)) := by
  have := h.r3
  refine ⟨h.s, h.r0, h.r1, h.r2, ⟨?_, ?_⟩, h.r4⟩ <;> simp only [Fr.reg] <;> omega
theorem Inv.next_p {f : Fr} {j : Nat} (h : Inv f j) (hj : j ≤ 900) (x : Int) (hx : 0 ≤ x ∧ x ≤ 4095) (v : Value) (w : World) (hg : GotV w v x) :
    Calls Try.prog 19 #[.agg f.cells, v] w fun e w' => Ans w w' e (nextG f x) ∧ Below w.heap.size w w' := by
  have hb := h.bd hj
  unfold nextG
  rcases h.pg with hp | hp
  · rw [if_pos hp]
    rcases h.s with hs | hs | hs
    · refine nx56_0 f x v w _ hp hs hg (fun w => ?_)
      unfold nextR; rw [if_pos hs]
      exact look_p f x w hb
    · refine nx56_1 f x v w _ hp hs hg (fun w => ?_)
      unfold nextR; rw [if_neg (by omega), if_pos hs]
      by_cases h2 : x % 2 = 1
      · rw [if_pos h2]
        exact seen_o f x w (h.bd1 hj) ⟨hb.r3.1, hb.r3.2⟩ h2
      · rw [if_neg h2]
        exact seen_e f x w hb (h.l hp hs) hx (by omega)
    · refine nx56_2 f x v w _ hp hs hg (fun w => ?_)
      unfold nextR; rw [if_neg (by omega), if_neg (by omega)]
      exact taken_p f x w
  · rw [if_neg (by omega)]
    rcases h.s with hs | hs | hs
    · rw [if_pos hs]
      exact nx57_0 f x v w _ hp hs hg (fun w => drop_p f x w hb)
    · rw [if_neg (by omega)]
      exact nx57_1 f x v w _ hp hs hg (fun w => dropped_p f x w)
    · exact absurd hs (h.s2 hp)
theorem Inv.next_r {f : Fr} {j : Nat} (h : Inv f j) (hj : j ≤ 900) (x : Int) (hx : 0 ≤ x ∧ x ≤ 4095) (v : Value) (w : World) (hg : GotV w v x) :
    Calls Try.prog 20 #[.agg f.cells, v] w fun e w' => Ans w w' e (refR (nextG f x)) ∧ Below w.heap.size w w' := by
  have hb := h.bd hj
  unfold nextG
  rcases h.pg with hp | hp
  · rw [if_pos hp]
    refine rx56 f x v w _ hp hg (fun w => ?_)
    unfold nextR
    rcases h.s with hs | hs | hs
    · rw [if_pos hs]
      exact allot0 f x w hs hb
    · rw [if_neg (by omega), if_pos hs]
      by_cases h2 : x % 2 = 1
      · rw [if_pos h2]
        exact allot1o f x w hs hb hx h2
      · rw [if_neg h2]
        exact allot1e f x w hs hb (h.l hp hs) hx (by omega)
    · rw [if_neg (by omega), if_neg (by omega)]
      exact allot2 f x w hs
  · rw [if_neg (by omega)]
    rcases h.s with hs | hs | hs
    · rw [if_pos hs]
      exact rx57_0 f v w hp hb hs
    · rw [if_neg (by omega)]
      exact rx57_1 f v w hp hb hs
    · exact absurd hs (h.s2 hp)
theorem lookR_inv {f : Fr} {j : Nat} (h : Inv f j) (hp : f.pg = 56) (hk : (lookR f).k ≠ 7) : Inv (lookR f).f j := by
  unfold lookR at *
  split at hk
  · exact absurd rfl hk
  · rename_i h1
    rw [if_neg h1]
    split at hk
    · exact absurd rfl hk
    · rename_i h2
      rw [if_neg h2]
      exact ⟨h.pg, .inr (.inl rfl), fun _ => by show (1 : Int) ≠ 2; omega, fun _ _ => by have : lookC (f.at_ 1) = lookC f := rfl; rw [this]; omega, h.r0, h.r1, h.r2, h.r3, h.r4⟩
theorem Inv.up {f : Fr} {i j : Nat} (h : Inv f i) (hij : i ≤ j) : Inv f j := ⟨h.pg, h.s, h.s2, h.l, h.r0, h.r1, h.r2, ⟨h.r3.1, by have := h.r3.2; omega⟩, h.r4⟩
theorem Inv.next {f : Fr} {j : Nat} (h : Inv f j) (hj : j ≤ 900) (x : Int) (hx : 0 ≤ x ∧ x ≤ 4095) (hk : (nextG f x).k ≠ 7) : Inv (nextG f x).f (j + 1) := by
  unfold nextG at *
  rcases h.pg with hp | hp
  · rw [if_pos hp] at hk ⊢
    unfold nextR at *
    rcases h.s with hs | hs | hs
    · rw [if_pos hs] at hk ⊢
      exact (lookR_inv h hp hk).up (by omega)
    · rw [if_neg (by omega), if_pos hs] at hk ⊢
      by_cases h2 : x % 2 = 1
      · rw [if_pos h2] at hk ⊢
        -- the frame goes on; its step is 1, whatever is loaded
        unfold lookR at *
        split at hk
        · exact absurd rfl hk
        · rename_i h1
          rw [if_neg h1]
          split at hk
          · exact absurd rfl hk
          · rename_i h3
            rw [if_neg h3]
            have hr3 := h.r3
            refine ⟨.inl hp, .inr (.inl rfl), fun _ => by show (1 : Int) ≠ 2; omega, fun _ _ => ?_, h.r0, h.r1, h.r2, ⟨?_, ?_⟩, h.r4⟩
            · have : lookC ((f.reg 3 (f.r 3 + 1)).at_ 1) = lookC (f.reg 3 (f.r 3 + 1)) := rfl
              rw [this]; omega
            · simp only [Fr.at_, Fr.reg]; omega
            · simp only [Fr.at_, Fr.reg]; omega
      · rw [if_neg h2] at hk ⊢
        have hg := aft_le (x / 2) (by omega)
        have hl := h.l hp hs
        have hs255 : slotOf f ≤ 255 := by
          rcases Int.lt_or_le 255 (slotOf f) with h3 | h3
          · unfold lookC at hl; rw [genC_big _ (by omega)] at hl; omega
          · exact h3
        have h0 : 0 ≤ slotOf f := by unfold slotOf; have := h.r0; have := h.r3; omega
        have hr3 := h.r3
        refine ⟨.inl hp, .inr (.inr rfl), fun e => by have : f.pg = 57 := e; omega, fun _ e => by have : (2 : Int) = 1 := e; omega, h.r0, h.r1, h.r2, ⟨hr3.1, ?_⟩, ?_⟩
        · show f.r 3 ≤ _; omega
        · show 0 ≤ aft (x / 2) * 256 + slotOf f ∧ aft (x / 2) * 256 + slotOf f ≤ 1000000
          omega
    · rw [if_neg (by omega), if_neg (by omega)] at hk
      exact absurd rfl hk
  · rw [if_neg (by omega)] at hk ⊢
    rcases h.s with hs | hs | hs
    · rw [if_pos hs] at hk ⊢
      unfold dropR at *
      split at hk
      · exact absurd rfl hk
      · rename_i h1
        rw [if_neg h1]
        exact ⟨.inr hp, .inr (.inl rfl), fun _ => by show (1 : Int) ≠ 2; omega, fun e => by have : f.pg = 56 := e; omega, h.r0, h.r1, h.r2, ⟨h.r3.1, by show f.r 3 ≤ _; have := h.r3.2; omega⟩, h.r4⟩
    · rw [if_neg (by omega)] at hk
      exact absurd rfl hk
    · exact absurd hs (h.s2 hp)
theorem refR_go {r : Rs} (h : r.k ≠ 7) : refR r = r := by unfold refR; rw [if_neg h]
theorem HB.oth {w w' : World} {b : Nat} {C : Array Value} {t : TypeId} (h : HB w b C t) (he : w'.heap[b]? = w.heap[b]?) : HB w' b C t := by
  unfold HB at *; rw [he]; exact h
section
variable {ops : Array Oper} {rest : List Oper} {o : Oper} {a : Act} {w : World} {Q : Exit → Act → World → Prop}
theorem wp_al57g (hg : o.guard = none) (ho : o.op = .alloc 57) (h : ∀ W, Below w.heap.size w W → HB W w.heap.size Fr.zero.cells 57 → wpList Try.prog ops Q rest (a.put o.dst (.pointer (some ⟨w.heap.size, 0, none⟩))) W) : wpList Try.prog ops Q (o :: rest) a w :=
  wp_al57 hg ho (h _ ((Below.refl _ _).alloc (Nat.le_refl _) _) (heap_alloc_new _ _))
theorem wp_al59g (hg : o.guard = none) (ho : o.op = .alloc 59) (h : ∀ W, Below w.heap.size w W → HB W w.heap.size acZ 59 → wpList Try.prog ops Q rest (a.put o.dst (.pointer (some ⟨w.heap.size, 0, none⟩))) W) : wpList Try.prog ops Q (o :: rest) a w := by
  refine wpList_plain hg fun K hK => ?_
  unfold Oper.wp execOp
  simp only [ho]
  have hz := fun w => zer59 w
  simp [Instr.alloc, newVar, newRow, hz, Sem.run_bind, Value.cells]
  exact hK _ _ (h _ ((Below.refl _ _).alloc (Nat.le_refl _) _) (heap_alloc_new _ _))
theorem wp_lda (hg : o.guard = none) (x : Operand) (ho : o.op = .load 59 x) (b : Nat) (hx : a.eval x = .pointer (some ⟨b, 0, none⟩)) (C : Array Value) (hs : C.size = 7) (hr : HB w b C 59)
    (h : wpList Try.prog ops Q rest (a.put o.dst (.agg C)) w) : wpList Try.prog ops Q (o :: rest) a w := by
  obtain ⟨fs, hu⟩ := und59
  exact wpList_load_mid hg 59 x ho b 0 hx C.toList (.struct fs) hr.range hu rfl (by rw [inf59]; simp [hs]) (by simpa using h)
theorem wp_stfg (hg : o.guard = none) (x y : Operand) (ho : o.op = .store 57 x y) (b : Nat) (f : Fr) (hx : a.eval x = .pointer (some ⟨b, 0, none⟩)) (hy : a.eval y = .agg f.cells) (f0 : Fr) (hb : HB w b f0.cells 57)
    (h : ∀ W, (∀ B, B ≤ b → Below B w W) → (∀ k, k ≠ b → W.heap[k]? = w.heap[k]?) → HB W b f.cells 57 → W.heap.size = w.heap.size → wpList Try.prog ops Q rest (a.put o.dst undef) W) : wpList Try.prog ops Q (o :: rest) a w :=
  wp_stf hg x y ho b f hx hy f0 hb (h _ (fun B hB => below_row (Below.refl _ _) _ hB _) (fun k hk => setRow_other _ _ _ _ (fun e => hk e)) (setRow_heap _ _ _ _ _ _ hb) (by simp))
theorem wp_stag (hg : o.guard = none) (x y : Operand) (ho : o.op = .store 59 x y) (b : Nat) (k1 k2 k3 k4 k5 : Int) (ao : Option Addr) (n c : Nat) (hx : a.eval x = .pointer (some ⟨b, 0, none⟩)) (hy : a.eval y = .agg (acC k1 k2 k3 k4 k5 (.slice ao n c))) (C0 : Array Value) (hb : HB w b C0 59) (h0 : C0.size = 7)
    (h : ∀ W, (∀ B, B ≤ b → Below B w W) → (∀ k, k ≠ b → W.heap[k]? = w.heap[k]?) → HB W b (acC k1 k2 k3 k4 k5 (.slice ao n c)) 59 → W.heap.size = w.heap.size → wpList Try.prog ops Q rest (a.put o.dst undef) W) : wpList Try.prog ops Q (o :: rest) a w :=
  wp_sta hg x y ho b _ C0 hx hy hb rfl h0 (acC_one _ _ _ _ _ _ _ _) (h _ (fun B hB => below_row (Below.refl _ _) _ hB _) (fun k hk => setRow_other _ _ _ _ (fun e => hk e)) (setRow_heap _ _ _ _ _ _ hb) (by simp))
def Fr.prog (f : Fr) (p : Int) : Fr := { f with pg := p }
theorem Fr.set0 (f : Fr) (p : Int) : f.cells.setIfInBounds 0 (.int .i8 p) = (f.prog p).cells := by
  apply Array.ext_getElem?
  intro k
  rw [Array.getElem?_setIfInBounds]
  by_cases h : 0 = k
  · subst h; rw [if_pos rfl, if_pos (by rw [Fr.size]; omega), Fr.c0]; rfl
  · rw [if_neg h]
    by_cases hk : k < 98
    · by_cases h0 : k = 1
      · subst h0; rw [Fr.c1, Fr.c1]; rfl
      · obtain ⟨i, rfl⟩ : ∃ i, k = 2 + i := ⟨k - 2, by omega⟩
        rw [Fr.cr _ _ (by omega), Fr.cr _ _ (by omega)]; rfl
    · rw [Array.getElem?_eq_none (by rw [Fr.size]; omega), Array.getElem?_eq_none (by rw [Fr.size]; omega)]
end
end Go.Proofs.Ytgpdknacnmapiaa
namespace Go.Proofs.Ytgpdknacnmapiaa
set_option linter.unusedVariables false
set_option linter.unusedSimpArgs false
open Go.RowKit
/-- an action that may be, as far as it is needed here -/
def OkA (k a b v : Int) (n : Nat) : Prop := (k = 0 ∧ 0 ≤ a ∧ a ≤ 4095 ∧ b = 0 ∧ v = 0 ∧ n = 0) ∨ (k = 1 ∧ 0 ≤ a ∧ a ≤ 4095 ∧ b = 0 ∧ (-1 ≤ v ∧ v ≤ 1152921504606846976) ∧ n = 0) ∨
  (k = 2 ∧ 0 ≤ a ∧ a ≤ 4095 ∧ (-1 ≤ b ∧ b ≤ 1152921504606846976) ∧ (-1 ≤ v ∧ v ≤ 1152921504606846976) ∧ n = 0) ∨ (k = 7 ∧ a = 0 ∧ b = 0 ∧ v = 0 ∧ n ≤ 96)
theorem may_act (k a b v : Int) (ao : Option Addr) (n c : Nat) (w : World) (h : OkA k a b v n) : Calls Try.prog 94 #[.agg (acC k a b v 0 (.slice ao n c))] w fun e w' => e = .returned (.bool true) ∧ Below w.heap.size w w' := by
  rcases h with ⟨rfl, h1, h2, rfl, rfl, rfl⟩ | ⟨rfl, h1, h2, rfl, h3, rfl⟩ | ⟨rfl, h1, h2, h3, h4, rfl⟩ | ⟨rfl, rfl, rfl, rfl, h⟩
  · exact mayact0 a 0 0 ao 0 c w ⟨h1, h2⟩
  · exact mayact1 a 0 v ao 0 c w ⟨h1, h2⟩ h3
  · exact mayact2 a b v ao 0 c w ⟨h1, h2⟩ h3 h4
  · exact mayact7 0 0 0 ao n c w h
set_option maxHeartbeats 1000000 in
set_option maxRecDepth 100000 in
theorem atomic_p (k a b v : Int) (ao : Option Addr) (n c : Nat) (w : World) (h : OkA k a b v n) (y : Bool) (hy : decide (k < 6) = y) : Calls Try.prog 95 #[.agg (acC k a b v 0 (.slice ao n c))] w fun e w' => e = .returned (.bool y) ∧ Below w.heap.size w w' := by
  have HM := Lib.hid (fun w => may_act k a b v ao n c w h)
  have HB0 : Hid (Below w.heap.size w (w.alloc (.cells (acC k a b v 0 (.slice ao n c)) 59))) := Lib.hid ((Below.refl _ _).alloc (Nat.le_refl _) _)
  have HZ0 : Hid (HB (w.alloc (.cells (acC k a b v 0 (.slice ao n c)) 59)) w.heap.size (acC k a b v 0 (.slice ao n c)) 59) := Lib.hid (heap_alloc_new _ _)
  clear h
  go_enter Try.func95, Try.ntmps95
  go_wp2_with (refine wp_lda rfl (.tmp 1) rfl w.heap.size rfl (acC k a b v 0 (.slice ao n c)) rfl HZ0.out ?_)
  refine (HM.out _).mono ?_
  rintro e W ⟨rfl, hb⟩
  have hk := (HZ0.out.below hb).cell (k := 0) (v := .int .i8 k) rfl
  have HB1 := Lib.hid (HB0.out.trans (hb.mono HB0.out.size))
  clear hb
  go_wp2_with fail
  go_ret
  exact ⟨rfl, HB1.out⟩
/-- a task's cells -/
def tkC (c : Int) (s g : Value) (over : Bool) : Array Value := #[.int .i64 c, s, g, .bool over]
set_option maxHeartbeats 1000000 in
set_option maxRecDepth 100000 in
theorem may_task (c : Int) (b o cap : Nat) (gao : Option Addr) (gn gcap : Nat) (w : World) (hc : 0 ≤ c ∧ c < 4) (hg : gn ≤ 1) : Calls Try.prog 76 #[.agg (tkC c (.slice (some ⟨b, o, none⟩) 1 cap) (.slice gao gn gcap) false)] w fun e w' => e = .returned (.bool true) ∧ Below w.heap.size w w' := by
  have HB0 : Hid (Below w.heap.size w (w.alloc (.cells (tkC c (.slice (some ⟨b, o, none⟩) 1 cap) (.slice gao gn gcap) false) 38))) := Lib.hid ((Below.refl _ _).alloc (Nat.le_refl _) _)
  have c1 : decide (c < 0) = false := by simp; omega
  have c2 : decide ((4 : Int) ≤ c) = false := by simp; omega
  have g1 : decide ((96 : Int) < (gn : Int)) = false := by simp; omega
  unfold tkC at *
  clear hc hg
  go_enter Try.func76, Try.ntmps76
  go_wp2_with fail
  go_ret
  exact ⟨rfl, HB0.out⟩
theorem z57 : Try.zeroCells57 = Fr.zero.cells := by kernel_rfl
theorem inf38 : (Try.prog.info? 38).map (·.size) = some 4 := by kernel_rfl
theorem und38 : ∃ fs, Try.prog.underlying 38 = some (.struct fs) := ⟨_, Try.underlying38⟩
theorem zer38 (w : World) : (zeroValue 38).run Try.prog w = .ok (.agg (tkC 0 (.slice none 0 0) (.slice none 0 0) false)) w := by kernel_rfl
theorem HB.load57 {w : World} {b : Nat} {f : Fr} (h : HB w b f.cells 57) : (loadVar 57 ⟨b, 0, none⟩).run Try.prog w = .ok (.agg f.cells) w := by
  obtain ⟨fs, hu⟩ := und57
  exact run_loadVar_row (P := Try.prog) w b 57 57 f.cells (0, 0) (.struct fs) h hu rfl (by rw [inf57, Fr.size])
theorem HB.load59 {w : World} {b : Nat} {C : Array Value} (h : HB w b C 59) (hs : C.size = 7) : (loadVar 59 ⟨b, 0, none⟩).run Try.prog w = .ok (.agg C) w := by
  obtain ⟨fs, hu⟩ := und59
  exact run_loadVar_row (P := Try.prog) w b 59 59 C (0, 0) (.struct fs) h hu rfl (by rw [inf59, hs])
theorem HB.load38 {w : World} {b : Nat} {C : Array Value} (h : HB w b C 38) (hs : C.size = 4) : (loadVar 38 ⟨b, 0, none⟩).run Try.prog w = .ok (.agg C) w := by
  obtain ⟨fs, hu⟩ := und38
  exact run_loadVar_row (P := Try.prog) w b 38 38 C (0, 0) (.struct fs) h hu rfl (by rw [inf38, hs])
theorem res_ct {fn : Func} {p q : Tmp} {ty : TypeId} (h : fn.results = #[.cell p ty, .tmp q]) (tmps : Array Value) (w : World) (b : Nat) (v u : Value) (hp : tmps.getD p undef = .pointer (some ⟨b, 0, none⟩)) (hq : tmps.getD q undef = u)
    (hl : (loadVar ty ⟨b, 0, none⟩).run Try.prog w = .ok v w) : (results fn tmps).run Try.prog w = .ok (.tuple #[v, u]) w := by
  have hp' : tmps[p]?.getD undef = .pointer (some ⟨b, 0, none⟩) := by simpa using hp
  have hq' : tmps[q]?.getD undef = u := by simpa using hq
  simp [results, h, hp', hq', asAddr, hl]
theorem res_ctt {fn : Func} {p q r : Tmp} {ty : TypeId} (h : fn.results = #[.cell p ty, .tmp q, .tmp r]) (tmps : Array Value) (w : World) (b : Nat) (v u u2 : Value) (hp : tmps.getD p undef = .pointer (some ⟨b, 0, none⟩)) (hq : tmps.getD q undef = u) (hr : tmps.getD r undef = u2)
    (hl : (loadVar ty ⟨b, 0, none⟩).run Try.prog w = .ok v w) : (results fn tmps).run Try.prog w = .ok (.tuple #[v, u, u2]) w := by
  have hp' : tmps[p]?.getD undef = .pointer (some ⟨b, 0, none⟩) := by simpa using hp
  have hq' : tmps[q]?.getD undef = u := by simpa using hq
  have hr' : tmps[r]?.getD undef = u2 := by simpa using hr
  simp [results, h, hp', hq', hr', asAddr, hl]
theorem res_cct {fn : Func} {p q r : Tmp} {ty ty2 : TypeId} (h : fn.results = #[.cell p ty, .cell q ty2, .tmp r]) (tmps : Array Value) (w : World) (b b2 : Nat) (v u u2 : Value) (hp : tmps.getD p undef = .pointer (some ⟨b, 0, none⟩)) (hq : tmps.getD q undef = .pointer (some ⟨b2, 0, none⟩)) (hr : tmps.getD r undef = u2)
    (hl : (loadVar ty ⟨b, 0, none⟩).run Try.prog w = .ok v w) (hl2 : (loadVar ty2 ⟨b2, 0, none⟩).run Try.prog w = .ok u w) : (results fn tmps).run Try.prog w = .ok (.tuple #[v, u, u2]) w := by
  have hp' : tmps[p]?.getD undef = .pointer (some ⟨b, 0, none⟩) := by simpa using hp
  have hq' : tmps[q]?.getD undef = .pointer (some ⟨b2, 0, none⟩) := by simpa using hq
  have hr' : tmps[r]?.getD undef = u2 := by simpa using hr
  simp [results, h, hp', hq', hr', asAddr, hl, hl2]
section
variable {ops : Array Oper} {rest : List Oper} {o : Oper} {a : Act} {w : World} {Q : Exit → Act → World → Prop}
theorem wp_al38 (hg : o.guard = none) (ho : o.op = .alloc 38) (h : ∀ W, Below w.heap.size w W → HB W w.heap.size (tkC 0 (.slice none 0 0) (.slice none 0 0) false) 38 → W.heap.size = w.heap.size + 1 → wpList Try.prog ops Q rest (a.put o.dst (.pointer (some ⟨w.heap.size, 0, none⟩))) W) : wpList Try.prog ops Q (o :: rest) a w := by
  refine wpList_plain hg fun K hK => ?_
  unfold Oper.wp execOp
  simp only [ho]
  have hz := fun w => zer38 w
  simp [Instr.alloc, newVar, newRow, hz, Sem.run_bind, Value.cells]
  exact hK _ _ (h _ ((Below.refl _ _).alloc (Nat.le_refl _) _) (heap_alloc_new _ _) (by simp))
theorem wp_ld38 (hg : o.guard = none) (x : Operand) (ho : o.op = .load 38 x) (b p : Nat) (hx : a.eval x = .pointer (some ⟨b, p, none⟩)) (C : Array Value) (hs : C.size = 4) (hr : w.rangeAt b p C.toList)
    (h : wpList Try.prog ops Q rest (a.put o.dst (.agg C)) w) : wpList Try.prog ops Q (o :: rest) a w := by
  obtain ⟨fs, hu⟩ := und38
  exact wpList_load_mid hg 38 x ho b p hx C.toList (.struct fs) hr hu rfl (by rw [inf38]; simp [hs]) (by simpa using h)
theorem tkC_one (c : Int) (ao : Option Addr) (n cap : Nat) (go : Option Addr) (m gc : Nat) (y : Bool) : (tkC c (.slice ao n cap) (.slice go m gc) y).all (·.oneCell') = true := by simp [tkC, Value.oneCell']
theorem wp_st38 (hg : o.guard = none) (x y : Operand) (ho : o.op = .store 38 x y) (b : Nat) (c : Int) (ao : Option Addr) (n cap : Nat) (gao : Option Addr) (gn gcap : Nat) (over : Bool) (hx : a.eval x = .pointer (some ⟨b, 0, none⟩)) (hy : a.eval y = .agg (tkC c (.slice ao n cap) (.slice gao gn gcap) over)) (C0 : Array Value) (hb : HB w b C0 38) (h0 : C0.size = 4)
    (h : ∀ W, (∀ B, B ≤ b → Below B w W) → (∀ k, k ≠ b → W.heap[k]? = w.heap[k]?) → HB W b (tkC c (.slice ao n cap) (.slice gao gn gcap) over) 38 → W.heap.size = w.heap.size → wpList Try.prog ops Q rest (a.put o.dst undef) W) : wpList Try.prog ops Q (o :: rest) a w :=
  wpList_store_row hg 38 x y ho b _ hx hy 38 C0 hb (by rw [inf38]; rfl) (by rw [h0]; rfl) (tkC_one _ _ _ _ _ _ _ _) (h _ (fun B hB => below_row (Below.refl _ _) _ hB _) (fun k hk => setRow_other _ _ _ _ (fun e => hk e)) (setRow_heap _ _ _ _ _ _ hb) (by simp))
set_option maxRecDepth 100000 in
/-- one cell of a block is stored -/
theorem wp_cell (hg : o.guard = none) (ty : TypeId) (x y : Operand) (ho : o.op = .store ty x y) (hsz : ∀ w, (sizeOf ty).run Try.prog w = .ok 1 w) (b i : Nat) (v : Value) (hx : a.eval x = .pointer (some ⟨b, i, none⟩)) (hy : a.eval y = v) (hne : (∃ k n, v = .int k n) ∨ (∃ y, v = .bool y) ∨ ∃ ao n c, v = .slice ao n c) (C0 : Array Value) (t : TypeId) (hb : HB w b C0 t) (hi : i < C0.size)
    (h : ∀ W, (∀ B, B ≤ b → Below B w W) → (∀ k, k ≠ b → W.heap[k]? = w.heap[k]?) → HB W b (C0.setIfInBounds i v) t → W.heap.size = w.heap.size → wpList Try.prog ops Q rest (a.put o.dst undef) W) : wpList Try.prog ops Q (o :: rest) a w := by
  refine wpList_plain hg fun K hK => ?_
  have hc := hb.cell (Array.getElem?_eq_getElem hi)
  have hf : w.frozen? ⟨b, i, none⟩ = false := hb.fro
  unfold Oper.wp execOp
  simp only [ho, hx, hy]
  rcases hne with ⟨k, n, rfl⟩ | ⟨y, rfl⟩ | ⟨ao, n, c, rfl⟩ <;> (simp [go_sem, hc, hf, Instr.storeAt, storeVar, hsz]; exact hK _ _ (h _ (fun B hB => below_set (Below.refl _ _) _ hB _) (fun k hk => heap_setCell_other _ _ _ _ (fun e => hk e)) (Go.heap_setCell_same _ _ _ _ _ _ hb) (World.size_setCell _ _ _)))
/-- a frame in the middle of a block is loaded -/
theorem wp_ldfm (hg : o.guard = none) (x : Operand) (ho : o.op = .load 57 x) (b p : Nat) (hx : a.eval x = .pointer (some ⟨b, p, none⟩)) (f : Fr) (hr : w.rangeAt b p f.cells.toList)
    (h : wpList Try.prog ops Q rest (a.put o.dst (.agg f.cells)) w) : wpList Try.prog ops Q (o :: rest) a w := by
  obtain ⟨fs, hu⟩ := und57
  exact wpList_load_mid hg 57 x ho b p hx f.cells.toList (.struct fs) hr hu rfl (by rw [inf57]; simp [Fr.size]) (by simpa using h)
end
/-- a task on its way: client, frame, what came -/
def Live (P : Nat → Prop) (W : World) (C : Array Value) (c : Int) (f : Fr) (x : Int) : Prop := ∃ b o cap gao gn gcap, C = tkC c (.slice (some ⟨b, o, none⟩) 1 cap) (.slice gao gn gcap) false ∧ 1 ≤ cap ∧ cap ≤ maxLen ∧ P b ∧ W.rangeAt b o f.cells.toList ∧
  ((gao = none ∧ gn = 0 ∧ gcap = 0 ∧ x = 0) ∨ ∃ gb go, gao = some ⟨gb, go, none⟩ ∧ gn = 1 ∧ P gb ∧ W.cell? ⟨gb, go, none⟩ = some (.int .i64 x))
/-- a task that is over: its answer -/
def Dead (P : Nat → Prop) (W : World) (C : Array Value) (c : Int) (l : List Int) : Prop := ∃ sao scap gv, C = tkC c (.slice sao 0 scap) gv true ∧ ∃ gao gcap, gv = .slice gao l.length gcap ∧ l.length ≤ gcap ∧ gcap ≤ maxLen ∧ ∀ i x, l[i]? = some x → ∃ b off, gao = some ⟨b, off, none⟩ ∧ P b ∧ W.cell? ⟨b, off + i, none⟩ = some (.int .i64 x)
theorem Live.keep {P : Nat → Prop} {W W' : World} {C : Array Value} {c : Int} {f : Fr} {x : Int} (h : Live P W C c f x) (hk : ∀ b, P b → b < W.heap.size → W'.heap[b]? = W.heap[b]?) : Live P W' C c f x := by
  obtain ⟨b, o, cap, gao, gn, gcap, rfl, h1, h2, h3, h4, h5⟩ := h
  have hlt : b < W.heap.size := World.block_lt_of_cell? _ _ (h4 0 (.int .i8 f.pg) (by have := f.c0; simpa using this))
  refine ⟨b, o, cap, gao, gn, gcap, rfl, h1, h2, h3, fun j v hv => ?_, ?_⟩
  · rw [World.cell?_of_block (hk b h3 hlt)]; exact h4 j v hv
  · rcases h5 with h5 | ⟨gb, go, e1, e2, e3, e4⟩
    · exact .inl h5
    · exact .inr ⟨gb, go, e1, e2, e3, (World.cell?_of_block (hk gb e3 (World.block_lt_of_cell? _ _ e4))).trans e4⟩
theorem Live.below {P : Nat → Prop} {W W' : World} {C : Array Value} {c : Int} {f : Fr} {x : Int} (h : Live P W C c f x) (hb : Below W.heap.size W W') : Live P W' C c f x := h.keep fun b _ hl => hb.block b hl
theorem Dead.keep {P : Nat → Prop} {W W' : World} {C : Array Value} {c : Int} {l : List Int} (h : Dead P W C c l) (hk : ∀ b, P b → b < W.heap.size → W'.heap[b]? = W.heap[b]?) : Dead P W' C c l := by
  obtain ⟨sao, scap, gv, rfl, gao, gcap, rfl, h1, h2, h3⟩ := h
  refine ⟨sao, scap, _, rfl, gao, gcap, rfl, h1, h2, fun i x hx => ?_⟩
  obtain ⟨b, off, e1, e2, e3⟩ := h3 i x hx
  exact ⟨b, off, e1, e2, (World.cell?_of_block (hk b e2 (World.block_lt_of_cell? _ _ e3))).trans e3⟩
theorem Dead.below {P : Nat → Prop} {W W' : World} {C : Array Value} {c : Int} {l : List Int} (h : Dead P W C c l) (hb : Below W.heap.size W W') : Dead P W' C c l := h.keep fun b _ hl => hb.block b hl
theorem Live.got {P : Nat → Prop} {W : World} {C : Array Value} {c : Int} {f : Fr} {x : Int} (h : Live P W C c f x) : ∃ s gv, C = tkC c s gv false ∧ GotV W gv x := by
  obtain ⟨b, o, cap, gao, gn, gcap, rfl, h1, h2, h3, h4, h5⟩ := h
  refine ⟨_, _, rfl, ?_⟩
  rcases h5 with ⟨rfl, rfl, rfl, rfl⟩ | ⟨gb, go, rfl, rfl, e3, e4⟩
  · exact .inl ⟨rfl, rfl⟩
  · exact .inr ⟨_, _, rfl, e4⟩
set_option maxHeartbeats 1000000 in
set_option maxRecDepth 100000 in
theorem top_live {P : Nat → Prop} {C : Array Value} {c : Int} {f : Fr} {x : Int} (w : World) (h : Live P w C c f x) : Calls Try.prog 71 #[.agg C] w fun e w' => e = .returned (.tuple #[.agg f.cells, .bool true]) ∧ Below w.heap.size w w' := by
  obtain ⟨b, o, cap, gao, gn, gcap, rfl, h1, h2, h3, h4, h5⟩ := h
  have H4 := Lib.hid h4
  have HBB : Hid (b < w.heap.size) := Lib.hid (World.block_lt_of_cell? _ _ (h4 0 (.int .i8 f.pg) (by have := f.c0; simpa using this)))
  have HA : Hid (Below w.heap.size w (w.alloc (.cells (tkC c (.slice (some ⟨b, o, none⟩) 1 cap) (.slice gao gn gcap) false) 38))) := Lib.hid ((Below.refl _ _).alloc (Nat.le_refl _) _)
  unfold tkC at *
  have e1 : ((0 : Int) == 1) = false := by decide
  clear h4 h5
  go_enter Try.func71, Try.ntmps71
  go_wp2_with (first
    | (refine wp_al57g rfl rfl ?_; intro W hb hF; have HF := Lib.hid hF; have HB1 := Lib.hid (HA.out.trans (hb.mono HA.out.size)); have c1 := (hb.cell (World.block_lt_of_cell? _ _ (show (w.alloc (.cells #[.int .i64 c, .slice (some ⟨b, o, none⟩) 1 cap, .slice gao gn gcap, .bool false] 38)).cell? ⟨w.heap.size, 1, none⟩ = some (.slice (some ⟨b, o, none⟩) 1 cap) by simp [go_sem]))).trans (show (w.alloc (.cells #[.int .i64 c, .slice (some ⟨b, o, none⟩) 1 cap, .slice gao gn gcap, .bool false] 38)).cell? ⟨w.heap.size, 1, none⟩ = some (.slice (some ⟨b, o, none⟩) 1 cap) by simp [go_sem]); clear hb hF)
    | (refine wp_ldfm rfl (.tmp 15) rfl b o rfl f (fun j v hv => (World.cell?_of_block (HB1.out.block b HBB.out)).trans (H4.out j v hv)) ?_)
    | (refine wp_stfg rfl (.tmp 2) (.tmp 16) rfl (w.heap.size + 1) f rfl rfl Fr.zero (by have := HF.out; simpa using this) ?_; intro W2 hb ho hF2 hs; have HF2 := Lib.hid hF2; have HB2 := Lib.hid (HB1.out.trans (hb _ (by omega))); clear hb ho hF2 hs))
  (try simp only [Exit.inBlock, Exit.then])
  refine bodyPost_ret (res_ct rfl _ _ _ _ _ rfl rfl HF2.out.load57) rfl ?_
  exact ⟨rfl, HB2.out⟩
set_option maxHeartbeats 1000000 in
set_option maxRecDepth 100000 in
theorem top_dead {P : Nat → Prop} {C : Array Value} {c : Int} {l : List Int} (w : World) (h : Dead P w C c l) : Calls Try.prog 71 #[.agg C] w fun e w' => e = .returned (.tuple #[.agg Fr.zero.cells, .bool false]) ∧ Below w.heap.size w w' := by
  obtain ⟨sao, scap, gv, rfl, h1⟩ := h
  obtain ⟨gao, gcap, rfl, -⟩ := h1
  have HA : Hid (Below w.heap.size w (w.alloc (.cells (tkC c (.slice sao 0 scap) (.slice gao l.length gcap) true) 38))) := Lib.hid ((Below.refl _ _).alloc (Nat.le_refl _) _)
  unfold tkC at *
  generalize l.length = gn at *
  go_enter Try.func71, Try.ntmps71
  go_wp2_with (first
    | (refine wp_al57g rfl rfl ?_; intro W hb hF; have HF := Lib.hid hF; have HB1 := Lib.hid (HA.out.trans (hb.mono HA.out.size)); have c1 := (hb.cell (World.block_lt_of_cell? _ _ (show (w.alloc (.cells #[.int .i64 c, .slice sao 0 scap, .slice gao gn gcap, .bool true] 38)).cell? ⟨w.heap.size, 1, none⟩ = some (.slice sao 0 scap) by simp [go_sem]))).trans (show (w.alloc (.cells #[.int .i64 c, .slice sao 0 scap, .slice gao gn gcap, .bool true] 38)).cell? ⟨w.heap.size, 1, none⟩ = some (.slice sao 0 scap) by simp [go_sem]); clear hb hF)
    | (refine wp_stfg rfl (.tmp 2) (.tmp 8) rfl (w.heap.size + 1) Fr.zero rfl (congrArg Value.agg z57) Fr.zero (by have := HF.out; simpa using this) ?_; intro W2 hb ho hF2 hs; have HF2 := Lib.hid hF2; have HB2 := Lib.hid (HB1.out.trans (hb _ (by omega))); clear hb ho hF2 hs))
  (try simp only [Exit.inBlock, Exit.then])
  refine bodyPost_ret (res_ct rfl _ _ _ _ _ rfl rfl HF2.out.load57) rfl ?_
  exact ⟨rfl, HB2.out⟩
end Go.Proofs.Ytgpdknacnmapiaa
