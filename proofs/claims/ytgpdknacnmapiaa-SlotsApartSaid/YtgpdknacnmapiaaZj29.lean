/-
  Parts of a proof, put together: Pf0.
-/
import Derived.Test.YtgpdknacnmapiaaZj01
import Derived.Test.YtgpdknacnmapiaaZj02
import Derived.Test.YtgpdknacnmapiaaZj03
import Derived.Test.YtgpdknacnmapiaaZj04
import Derived.Test.YtgpdknacnmapiaaZj05
import Derived.Test.YtgpdknacnmapiaaZj06
import Derived.Test.YtgpdknacnmapiaaZj07
import Derived.Test.YtgpdknacnmapiaaZj08
import Derived.Test.YtgpdknacnmapiaaZj09
import Derived.Test.YtgpdknacnmapiaaZj10
import Derived.Test.YtgpdknacnmapiaaZj11
import Derived.Test.YtgpdknacnmapiaaZj12
import Derived.Test.YtgpdknacnmapiaaZj13
import Derived.Test.YtgpdknacnmapiaaZj14
import Derived.Test.YtgpdknacnmapiaaZj15
import Derived.Test.YtgpdknacnmapiaaZj16
import Derived.Test.YtgpdknacnmapiaaZj17
import Derived.Test.YtgpdknacnmapiaaZj18
import Derived.Test.YtgpdknacnmapiaaZj19
import Derived.Test.YtgpdknacnmapiaaZj20
import Derived.Test.YtgpdknacnmapiaaZj21
import Derived.Test.YtgpdknacnmapiaaZj22
import Derived.Test.YtgpdknacnmapiaaZj23
import Derived.Test.YtgpdknacnmapiaaZj24
import Derived.Test.YtgpdknacnmapiaaZj25
import Derived.Test.YtgpdknacnmapiaaZj26
import Derived.Test.YtgpdknacnmapiaaZj27
namespace Go.Proofs.Ytgpdknacnmapiaa
set_option linter.unusedVariables false
set_option linter.unusedSimpArgs false
open Go.RowKit
open Go
theorem OwnV.putH {B : Nat} {W W' : World} {h : HV} {hs : Nat → List Int} {ns : Nat → List Bool} (ho : OwnV B W h hs ns) (c : Nat) (hc : c < 4) (v : Value) (ys : List Int) (hv : W'.ownsRow B 3 1 v ys.length (ys.map (Value.int .i64))) (hob : v.ownBlock = (h.sl (2 * c)).ownBlock ∨ ∀ b, v.ownBlock = some b → W.heap.size ≤ b) (hg : ∀ b, b < W.heap.size → some b ≠ (h.sl (2 * c)).ownBlock → B ≤ b → W'.heap[b]? = W.heap[b]?) :
    OwnV B W' (h.setS (2 * c) v) (upd hs c ys) ns := by
  have hne : ∀ i, i < 8 → i ≠ 2 * c → ∀ b, (h.sl i).ownBlock = some b → v.ownBlock ≠ some b := by
    intro i hi hic b hb e
    rcases hob with h1 | h1
    · exact ho.ds i (2 * c) b hi (by omega) hic hb (h1.symm.trans e)
    · have := h1 b e; have := ho.lt i hi b hb; omega
  have old : ∀ i, i < 8 → i ≠ 2 * c → ∀ b, (h.sl i).ownBlock = some b → b < W.heap.size → W'.heap[b]? = W.heap[b]? := fun i hi hic b hb hlt => hg b hlt (fun e => ho.ds i (2 * c) b hi (by omega) hic hb e.symm) (ho.lt i hi b hb).1
  refine ⟨fun d hd => ?_, fun d hd => ?_, fun i j b hi hj hij hb => ?_⟩
  · simp only [HV.setS, upd]
    by_cases e : d = c
    · subst e; rw [if_pos rfl, if_pos rfl]
      exact hv
    · rw [if_neg (by omega), if_neg e]
      exact ownsRow_oth (ho.hl d hd) (old (2 * d) (by omega) (by omega))
  · simp only [HV.setS, upd]
    rw [if_neg (by omega)]
    exact ownsRow_oth (ho.nl d hd) (old (2 * d + 1) (by omega) (by omega))
  · simp only [HV.setS, upd] at hb ⊢
    by_cases e1 : i = 2 * c
    · rw [if_pos e1] at hb
      rw [if_neg (by omega)]
      exact fun e => hne j hj (by omega) b e hb
    · rw [if_neg e1] at hb
      by_cases e2 : j = 2 * c
      · rw [if_pos e2]; exact hne i hi e1 b hb
      · rw [if_neg e2]; exact ho.ds i j b hi hj hij hb
theorem OwnV.putN {B : Nat} {W W' : World} {h : HV} {hs : Nat → List Int} {ns : Nat → List Bool} (ho : OwnV B W h hs ns) (c : Nat) (hc : c < 4) (v : Value) (ys : List Bool) (hv : W'.ownsRow B 4 1 v ys.length (ys.map Value.bool)) (hob : v.ownBlock = (h.sl (2 * c + 1)).ownBlock ∨ ∀ b, v.ownBlock = some b → W.heap.size ≤ b) (hg : ∀ b, b < W.heap.size → some b ≠ (h.sl (2 * c + 1)).ownBlock → B ≤ b → W'.heap[b]? = W.heap[b]?) :
    OwnV B W' (h.setS (2 * c + 1) v) hs (upd ns c ys) := by
  have hne : ∀ i, i < 8 → i ≠ 2 * c + 1 → ∀ b, (h.sl i).ownBlock = some b → v.ownBlock ≠ some b := by
    intro i hi hic b hb e
    rcases hob with h1 | h1
    · exact ho.ds i (2 * c + 1) b hi (by omega) hic hb (h1.symm.trans e)
    · have := h1 b e; have := ho.lt i hi b hb; omega
  have old : ∀ i, i < 8 → i ≠ 2 * c + 1 → ∀ b, (h.sl i).ownBlock = some b → b < W.heap.size → W'.heap[b]? = W.heap[b]? := fun i hi hic b hb hlt => hg b hlt (fun e => ho.ds i (2 * c + 1) b hi (by omega) hic hb e.symm) (ho.lt i hi b hb).1
  refine ⟨fun d hd => ?_, fun d hd => ?_, fun i j b hi hj hij hb => ?_⟩
  · simp only [HV.setS, upd]
    rw [if_neg (by omega)]
    exact ownsRow_oth (ho.hl d hd) (old (2 * d) (by omega) (by omega))
  · simp only [HV.setS, upd]
    by_cases e : d = c
    · subst e; rw [if_pos rfl, if_pos rfl]
      exact hv
    · rw [if_neg (by omega), if_neg e]
      exact ownsRow_oth (ho.nl d hd) (old (2 * d + 1) (by omega) (by omega))
  · simp only [HV.setS, upd] at hb ⊢
    by_cases e1 : i = 2 * c + 1
    · rw [if_pos e1] at hb
      rw [if_neg (by omega)]
      exact fun e => hne j hj (by omega) b e hb
    · rw [if_neg e1] at hb
      by_cases e2 : j = 2 * c + 1
      · rw [if_pos e2]; exact hne i hi e1 b hb
      · rw [if_neg e2]; exact ho.ds i j b hi hj hij hb
theorem wpO_catI {w : World} {o : Oper} {a : Act} {Q : Exit → Act → World → Prop} {K : Act → World → Prop} (s x : Operand) (ho : o.op = .call { callee := .builtin .append, args := #[s, x], argTypes := #[30, 30] }) (d : Tmp) (hd : o.dst = some d) (B : Nat) (v : Value) (n : Nat) (xs : List Value) (hv : a.eval s = v) (hA : w.ownsRow B 3 1 v n xs) (hB : B ≤ w.heap.size) (g p m c : Nat) (hx : a.eval x = .slice (some ⟨g, p, none⟩) m c) (news : List Int) (hl : news.length = m) (hu : ∀ j u, news[j]? = some u → w.cell? ⟨g, p + j, none⟩ = some (Value.int .i64 u)) (h100 : n + m ≤ 100000)
    (h : ∀ W v', W.ownsRow B 3 1 v' (n + m) (xs ++ news.map (Value.int .i64)) → w.grownBy W v.ownBlock → K (a.put (some d) v') W) : o.wp Try.prog a w K Q := by
  obtain ⟨v', W, hr, h1, h2, -⟩ := run_append_own (P := Try.prog) w B 30 o.type 3 Try.t3 (.int .i64 0) 1 8 und30 (by kernel_rfl) (by kernel_rfl) (by kernel_rfl) (by kernel_rfl) rfl (by omega) v n xs hA ⟨g, p, none⟩ m c (news.map (Value.int .i64)) (by simp [hl])
    (fun j u hj => by
      rw [List.getElem?_map] at hj
      cases hn : news[j]? with
      | none => rw [hn] at hj; cases hj
      | some y => rw [hn] at hj; injection hj with hj; subst hj; rw [Addr.add_lit]; exact hu j y hn)
    (fun u hm => by obtain ⟨y, _, rfl⟩ := List.mem_map.1 hm; rfl) (by simp only [maxLen]; omega) (by omega) hB
  unfold Oper.wp execOp
  simp only [ho, resolve, invoke, builtin, Sem.run_bind, Sem.run_pure, Result.andThen_ok, List.map_toArray, List.map_cons, List.map_nil, hv, hx, hr]
  rw [← hd] at h
  exact h W v' h1 h2
theorem wpO_catB {w : World} {o : Oper} {a : Act} {Q : Exit → Act → World → Prop} {K : Act → World → Prop} (s x : Operand) (ho : o.op = .call { callee := .builtin .append, args := #[s, x], argTypes := #[67, 67] }) (d : Tmp) (hd : o.dst = some d) (B : Nat) (v : Value) (n : Nat) (xs : List Value) (hv : a.eval s = v) (hA : w.ownsRow B 4 1 v n xs) (hB : B ≤ w.heap.size) (g p m c : Nat) (hx : a.eval x = .slice (some ⟨g, p, none⟩) m c) (news : List Bool) (hl : news.length = m) (hu : ∀ j u, news[j]? = some u → w.cell? ⟨g, p + j, none⟩ = some (Value.bool u)) (h100 : n + m ≤ 100000)
    (h : ∀ W v', W.ownsRow B 4 1 v' (n + m) (xs ++ news.map (Value.bool)) → w.grownBy W v.ownBlock → K (a.put (some d) v') W) : o.wp Try.prog a w K Q := by
  obtain ⟨v', W, hr, h1, h2, -⟩ := run_append_own (P := Try.prog) w B 67 o.type 4 Try.t4 (.bool false) 1 1 und67 (by kernel_rfl) (by kernel_rfl) (by kernel_rfl) (by kernel_rfl) rfl (by omega) v n xs hA ⟨g, p, none⟩ m c (news.map (Value.bool)) (by simp [hl])
    (fun j u hj => by
      rw [List.getElem?_map] at hj
      cases hn : news[j]? with
      | none => rw [hn] at hj; cases hj
      | some y => rw [hn] at hj; injection hj with hj; subst hj; rw [Addr.add_lit]; exact hu j y hn)
    (fun u hm => by obtain ⟨y, _, rfl⟩ := List.mem_map.1 hm; rfl) (by simp only [maxLen]; omega) (by omega) hB
  unfold Oper.wp execOp
  simp only [ho, resolve, invoke, builtin, Sem.run_bind, Sem.run_pure, Result.andThen_ok, List.map_toArray, List.map_cons, List.map_nil, hv, hx, hr]
  rw [← hd] at h
  exact h W v' h1 h2
theorem owns_zero {w : World} {B e0 : Nat} {e : TypeId} (h : HB w e0 #[] e) (hB : B ≤ e0) : w.ownsRow B e 1 (.slice (some ⟨e0, 0, none⟩) 0 0) 0 [] := ⟨rfl, .inr ⟨e0, 0, #[], rfl, hB, h, Nat.le_refl _, by simp [maxLen], rfl, rfl⟩⟩
theorem wpOm_bsB0 {X : Nat → Prop} {w0 w : World} {L : List (Nat × Array Value × TypeId)} {o : Oper} {a : Act} {Q : Exit → Act → World → Prop} {K : Act → World → Prop} (HM : Hid (Mem X w0 w L)) (ho : o.op = .buildSlice 67 0 #[]) (d : Tmp) (hd : o.dst = some d)
    (h : ∀ W, Hid (Mem X w0 W (L ++ [(w.heap.size, #[], 4)])) → K (a.put (some d) (.slice (some ⟨w.heap.size, 0, none⟩) 0 0)) W) : o.wp Try.prog a w K Q := by
  unfold Oper.wp execOp
  have hr : (Instr.buildSlice 67 0 #[]).run Try.prog w = .ok (.slice (some ⟨w.heap.size, 0, none⟩) 0 0) (w.alloc (.cells #[] 4)) := by kernel_rfl
  simp only [ho]
  simp [hr, Sem.run_bind]
  have h' := h _ (Lib.hid (HM.out.alloc #[] 4))
  rw [← hd] at h'
  exact h'
theorem owns_mono {w : World} {B B' n : Nat} {e : TypeId} {v : Value} {xs : List Value} (h : w.ownsRow B e 1 v n xs) (hB : B' ≤ B) : w.ownsRow B' e 1 v n xs := by
  refine ⟨h.1, ?_⟩
  rcases h.2 with h2 | ⟨g, cap, cur, h2, h3, h4⟩
  · exact .inl h2
  · exact .inr ⟨g, cap, cur, h2, Nat.le_trans hB h3, h4⟩
theorem owns_ge {w : World} {B n : Nat} {e : TypeId} {v : Value} {xs : List Value} (h : w.ownsRow B e 1 v n xs) : ∀ b, v.ownBlock = some b → B ≤ b ∧ b < w.heap.size := fun b hb => World.ownsRow.lt h b hb
theorem erase_take {α : Type} (l : List α) (k : Nat) : l.take k ++ l.drop (k + 1) = l.eraseIdx k := (List.eraseIdx_eq_take_drop_succ l k).symm
end Go.Proofs.Ytgpdknacnmapiaa
