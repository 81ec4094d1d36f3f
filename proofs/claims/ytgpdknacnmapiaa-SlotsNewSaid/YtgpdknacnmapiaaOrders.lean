/-
  A region that draws its order: taken by a plan: what yields one and the same value in every world of a class is taken first; of the others each that may come up is carried out; behind it the class may be made narrower. (Over any program.)
-/
import Derived.OrdersHeld
import Derived.Deep.RegionHeld
import Derived.BigQuiet
import Derived.Deep.QuietTactic
import Derived.Lib.QuietBelow
namespace Go.Proofs.Ytgpdknacnmapiaa
set_option linter.unusedVariables false
set_option linter.unusedSimpArgs false
variable {P : Program} {md : Region.Mode} {ops : Array Oper} {Q : Exit → Act → World → Prop}
/-- an operation that yields a value, or ends the run -/
def valOp (o : Oper) : Bool := match o.op with
  | .move _ => true
  | .assign _ => true
  | .pick _ _ _ => true
  | .load _ _ => true
  | .binOp _ _ _ _ _ => true
  | .unOp _ _ _ => true
  | .convert _ _ _ => true
  | .slice _ _ _ _ _ => true
  | .fieldAddr _ _ _ => true
  | .field _ _ _ => true
  | .indexAddr _ _ _ => true
  | .index _ _ _ => true
  | .extract _ _ => true
  | .nilCheck _ => true
  | .build _ _ => true
  | .typeAssert _ _ _ _ => true
  | .lookup _ _ _ _ => true
  | .call c => match c.callee with
    | .builtin .len => true
    | .builtin .min => true
    | .builtin .max => true
    | _ => false
  | _ => false
theorem bindVal (s : Sem Value) (w : World) {x : Next} {w' : World} (h : (do pure (Next.value (← s)) : Sem Next).run P w = .ok x w') : ∃ u, x = .value u := by
  rw [Sem.run_bind] at h
  cases hs : s.run P w with
  | ok u w1 => rw [hs] at h; simp [Result.andThen, Sem.run_pure] at h; exact ⟨u, h.1.symm⟩
  | halt e w1 => rw [hs] at h; simp [Result.andThen] at h
theorem pureVal (u : Value) (w : World) {x : Next} {w' : World} (h : (pure (Next.value u) : Sem Next).run P w = .ok x w') : ∃ u, x = .value u := by
  simp [Sem.run_pure] at h; exact ⟨u, h.1.symm⟩
theorem andThenVal (s : Sem Value) (w : World) {x : Next} {w' : World} (h : ((s.run P w).andThen fun a w' => Result.ok (Next.value a) w') = .ok x w') : ∃ u, x = .value u := by
  cases hs : s.run P w with
  | ok u w1 => rw [hs] at h; simp only [Result.andThen, Result.ok.injEq] at h; exact ⟨u, h.1.symm⟩
  | halt e w1 => rw [hs] at h; simp [Result.andThen] at h
theorem deref_no (w : World) (x : Next) (w' : World) : ¬ (runtimePanic (α := Next) RuntimeError.nilDeref).run P w = .ok x w' := by
  intro h
  simp [runtimePanic, goPanic, go_sem] at h
theorem val_only {o : Oper} (h : valOp o = true) (ρ : Operand → Value) (w : World) {x : Next} {w' : World} (hr : (execOp ρ o).run P w = .ok x w') : ∃ u, x = .value u := by
  unfold valOp at h
  unfold execOp at hr
  split at h <;> rename_i heq
  all_goals try (rw [heq] at hr)
  all_goals try (exact pureVal _ _ hr)
  all_goals try (exact bindVal _ _ hr)
  all_goals try (cases h)
  · rename_i c a b
    rw [Sem.run_bind] at hr
    cases hs : (asBool (ρ c)).run P w with
    | ok u w1 => rw [hs] at hr; simp only [Result.andThen] at hr; exact pureVal _ _ hr
    | halt e w1 => rw [hs] at hr; simp [Result.andThen] at hr
  · simp only at hr
    split at hr
    all_goals try (exact absurd hr (deref_no w x w'))
    all_goals try (exact pureVal _ _ hr)
    split at hr
    all_goals try (exact absurd hr (deref_no w x w'))
    all_goals try (exact pureVal _ _ hr)
    rename_i t u hh
    simp only [Sem.run_bind, Result.andThen] at hr
    split at hr
    · split at hr
      · split at hr
        · simp [unsupported, go_sem] at hr
        · exact pureVal _ _ hr
      · cases hr
    · cases hr
  · rename_i c
    split at h <;> rename_i hc
    all_goals try (cases h)
    all_goals
      simp only [resolve, hc, Sem.run_bind, Sem.run_pure, Result.andThen_ok, invoke, builtin] at hr
      exact andThenVal _ _ hr

/-- the members that the flags name -/
def selF {α : Type} : List Bool → List α → List α
  | true :: bs, o :: l => o :: selF bs l
  | false :: bs, _ :: l => selF bs l
  | _, _ => []
/-- may the flagged operations be taken, one behind the other? what has come up behind them -/
def takeB (md : Region.Mode) (ops : Array Oper) : List Bool → Nat → Array Bool → Option (Array Bool)
  | [], _, listed => some listed
  | false :: bs, k, listed => takeB md ops bs (k + 1) listed
  | true :: bs, k, listed => if Region.free md ops listed k && (Region.ready md ops listed).contains k && ((ops[k]?).map valOp).getD false then takeB md ops bs (k + 1) (listed.setIfInBounds k true) else none
mutual
inductive Pl where
  | last (fl : List Bool)
  | step (fl : List Bool) (br : Br)
inductive Br where
  | nil
  | cons (c : Nat) (p : Pl) (r : Br)
end
def Br.ids : Br → List Nat
  | .nil => []
  | .cons c _ r => c :: r.ids
mutual
def plB (md : Region.Mode) (ops : Array Oper) (n : Nat) : Pl → Array Bool → Bool
  | .last fl, listed => match takeB md ops fl 0 listed with
    | some l' => (Region.ready md ops l').isEmpty && decide (fl.count true ≤ n)
    | none => false
  | .step fl br, listed => match takeB md ops fl 0 listed with
    | some l' => Region.ready md ops l' == br.ids && !br.ids.isEmpty && decide (fl.count true + 1 ≤ n) && brB md ops (n - fl.count true - 1) br l'
    | none => false
def brB (md : Region.Mode) (ops : Array Oper) (n : Nat) : Br → Array Bool → Bool
  | .nil, _ => true
  | .cons c p r, listed => plB md ops n p (listed.setIfInBounds c true) && brB md ops n r listed
end
mutual
def wpPl (P : Program) (ops : Array Oper) (l : List Oper) (Q : Exit → Act → World → Prop) : Pl → (World → Prop) → Act → Prop
  | .last fl, S, a => wpQuiet P ops S (fun a' => ∀ w, S w → Q .normal a' w) (selF fl l) a
  | .step fl br, S, a => wpQuiet P ops S (fun a' => ∀ w, S w → wpBr P ops l Q br S a' w) (selF fl l) a
def wpBr (P : Program) (ops : Array Oper) (l : List Oper) (Q : Exit → Act → World → Prop) : Br → (World → Prop) → Act → World → Prop
  | .nil, _, _, _ => True
  | .cons c p r, S, a, w => wpOp P ops Q c (fun a2 w2 => ∃ S' : World → Prop, S' w2 ∧ (∀ x, S' x → S x) ∧ wpPl P ops l Q p S' a2) a w ∧ wpBr P ops l Q r S a w
end

theorem anyMono {S S' : World → Prop} (hS : ∀ x, S' x → S x) : ∀ (fuel : Nat) (listed : Array Bool) (a : Act) (w : World), wpAnyH P md ops Q S' fuel listed a w → wpAnyH P md ops Q S fuel listed a w
  | 0, _, _, _, h => h
  | fuel + 1, listed, a, w, h => ⟨h.1, fun i hi => wpOp_mono (fun a' w' h' => ⟨hS _ h'.1, anyMono hS fuel _ _ _ h'.2⟩) (h.2 i hi)⟩
theorem quietMono {C : World → Prop} {K K' : Act → Prop} (h : ∀ a, K a → K' a) : ∀ (l : List Oper) (a : Act), wpQuiet P ops C K l a → wpQuiet P ops C K' l a
  | [], a, hh => h a hh
  | o :: l, a, hh => by
    unfold wpQuiet at *
    split
    · rename_i hw
      rw [if_pos hw] at hh
      exact Oper.quiet_mono (quietMono h l) hh
    · rename_i hw
      rw [if_neg hw] at hh
      exact quietMono h l _ hh
/-- the takes -/
theorem takesA {S : World → Prop} (hs : Region.noSelect ops = true) (hQ : ∀ c (a : Act) d v w, Q (.panic c) (a.put d v) w → Q (.panic c) a w) (K : Act → Prop) (w : World) (hw : S w) (fuel : Nat) :
    ∀ (fl : List Bool) (l : List Oper) (k : Nat) (listed l' : Array Bool) (a : Act), (∀ j, l[j]? = ops[k + j]?) → takeB md ops fl k listed = some l' → wpQuiet P ops S K (selF fl l) a →
      (∀ a', K a' → wpAnyH P md ops Q S fuel l' a' w) → wpAnyH P md ops Q S (fl.count true + fuel) listed a w
  | [], l, k, listed, l', a, hl, ht, hq, hK => by
    simp only [takeB, Option.some.injEq] at ht
    subst ht
    have : selF [] l = [] := by cases l <;> rfl
    rw [this] at hq
    simpa using hK a hq
  | false :: bs, [], k, listed, l', a, hl, ht, hq, hK => by
    have h0 : ops[k]? = none := by simpa using (hl 0).symm
    simp only [takeB] at ht
    have := takesA hs hQ K w hw fuel bs [] (k + 1) listed l' a (fun j => by
      have h1 : ops.size ≤ k := Array.getElem?_eq_none_iff.1 h0
      simp; omega) ht (by cases bs with | nil => exact hq | cons b bs => cases b <;> exact hq) hK
    simpa using this
  | false :: bs, o :: l, k, listed, l', a, hl, ht, hq, hK => by
    simp only [takeB] at ht
    have := takesA hs hQ K w hw fuel bs l (k + 1) listed l' a (fun j => by have := hl (j + 1); simpa [Nat.add_assoc, Nat.add_comm 1 j] using this) ht hq hK
    simpa using this
  | true :: bs, [], k, listed, l', a, hl, ht, hq, hK => by
    have h0 : ops[k]? = none := by simpa using (hl 0).symm
    simp [takeB, h0] at ht
  | true :: bs, o :: l, k, listed, l', a, hl, ht, hq, hK => by
    have h0 : ops[k]? = some o := by simpa using (hl 0).symm
    simp only [takeB, h0, Option.map_some, Option.getD_some] at ht
    split at ht
    · rename_i hc
      simp only [Bool.and_eq_true] at hc
      obtain ⟨⟨hf, hr⟩, hv⟩ := hc
      have ih := fun a' hq' => takesA hs hQ K w hw fuel bs l (k + 1) (listed.setIfInBounds k true) l' a' (fun j => by have := hl (j + 1); simpa [Nat.add_assoc, Nat.add_comm 1 j] using this) ht hq' hK
      have hq2 : ∃ v, YieldsIf P ops S o v a ∧ wpQuiet P ops S K (selF bs l) (a.put o.dst v) := by
        have hq1 : wpQuiet P ops S K (o :: selF bs l) a := hq
        unfold wpQuiet at hq1
        by_cases hwd : Region.wanted o (yielded ops a.tmps) = true
        · rw [if_pos hwd] at hq1
          obtain ⟨v, h1, h2⟩ := hq1
          refine ⟨v, .inl ⟨hwd, fun x hx => ?_⟩, h2⟩
          have h3 := h1 x hx
          unfold Oper.quietAt at h3
          cases hrun : (execOp a.eval o).run P x with
          | halt e x' => rw [hrun] at h3; simp only [Oper.quietUpon] at h3
          | ok n x' =>
            obtain ⟨u, rfl⟩ := val_only hv a.eval x hrun
            rw [hrun] at h3
            simp only [Oper.quietUpon] at h3
            rw [h3.1, h3.2]
        · rw [if_neg hwd] at hq1
          exact ⟨undef, .inr ⟨by simpa using hwd, rfl⟩, hq1⟩
      obtain ⟨v, hy, hq3⟩ := hq2
      have h5 := ih _ hq3
      rw [List.count_cons_self, show List.count true bs + 1 + fuel = (List.count true bs + fuel) + 1 by omega]
      exact wpAnyH_take h0 hs hf hr (fun c a w h => hQ c a o.dst v w h) hy hw h5
    · cases ht
mutual
theorem plA (hs : Region.noSelect ops = true) (hQ : ∀ c (a : Act) d v w, Q (.panic c) (a.put d v) w → Q (.panic c) a w) (l : List Oper) (hl : ∀ j : Nat, l[j]? = ops[j]?) :
    ∀ (p : Pl) (n : Nat) (S : World → Prop) (listed : Array Bool) (a : Act) (w : World), plB md ops n p listed = true → S w → wpPl P ops l Q p S a → wpAnyH P md ops Q S n listed a w
  | .last fl, n, S, listed, a, w, hb, hw, h => by
    unfold plB at hb
    unfold wpPl at h
    cases ht : takeB md ops fl 0 listed with
    | none => rw [ht] at hb; cases hb
    | some l' =>
      rw [ht] at hb
      simp only [Bool.and_eq_true, decide_eq_true_eq] at hb
      rw [show n = fl.count true + (n - fl.count true) by omega]
      refine takesA hs hQ _ w hw _ fl l 0 listed l' a (fun j => by simpa using hl j) ht h (fun a' ha' => ?_)
      exact wpAnyH_done (by simpa using hb.1) (ha' w hw) _
  | .step fl br, n, S, listed, a, w, hb, hw, h => by
    unfold plB at hb
    unfold wpPl at h
    cases ht : takeB md ops fl 0 listed with
    | none => rw [ht] at hb; cases hb
    | some l' =>
      rw [ht] at hb
      simp only [Bool.and_eq_true, decide_eq_true_eq, beq_iff_eq] at hb
      obtain ⟨⟨⟨h1, h4⟩, h2⟩, h3⟩ := hb
      rw [show n = fl.count true + ((n - fl.count true - 1) + 1) by omega]
      refine takesA (fuel := (n - fl.count true - 1) + 1) hs hQ _ w hw fl l 0 listed l' a (fun j => by simpa using hl j) ht h (fun a' ha' => ?_)
      exact wpAnyH_all h1 (by intro e; rw [e] at h4; cases h4) (fun i hi => brA hs hQ l hl br (n - fl.count true - 1) S l' a' w h3 hw (ha' w hw) i hi)
theorem brA (hs : Region.noSelect ops = true) (hQ : ∀ c (a : Act) d v w, Q (.panic c) (a.put d v) w → Q (.panic c) a w) (l : List Oper) (hl : ∀ j : Nat, l[j]? = ops[j]?) :
    ∀ (br : Br) (n : Nat) (S : World → Prop) (listed : Array Bool) (a : Act) (w : World), brB md ops n br listed = true → S w → wpBr P ops l Q br S a w →
      ∀ i ∈ br.ids, wpOp P ops Q i (fun a' w' => S w' ∧ wpAnyH P md ops Q S n (listed.setIfInBounds i true) a' w') a w
  | .nil, n, S, listed, a, w, hb, hw, h, i, hi => by cases hi
  | .cons c p r, n, S, listed, a, w, hb, hw, h, i, hi => by
    unfold brB at hb
    unfold wpBr at h
    simp only [Bool.and_eq_true] at hb
    rcases List.mem_cons.1 hi with rfl | hi
    · refine wpOp_mono (fun a2 w2 ⟨S', hS1, hS2, hp⟩ => ⟨hS2 _ hS1, ?_⟩) h.1
      exact anyMono hS2 _ _ _ _ (plA hs hQ l hl p n S' _ a2 w2 hb.1 hS1 hp)
    · exact brA hs hQ l hl r n S listed a w hb.2 hw h.2 i hi
end
/-- A REGION THAT DRAWS ITS ORDER, BY A PLAN. -/
theorem wp_region_pl {id : Nat} {a : Act} {w : World} {l : List Oper} (p : Pl) (S : World → Prop) (hm : P.follows .mixedOrders = true) (hs : Region.noSelect l.toArray = true)
    (hb : plB .any l.toArray l.toArray.size p (Array.replicate l.toArray.size false) = true) (hQ : ∀ c (a : Act) d v w, Q (.panic c) (a.put d v) w → Q (.panic c) a w) (hS : S w.drew)
    (h : wpPl P l.toArray l Q p S a) : (Code.region id l.toArray true).wp P Q a w :=
  wp_region_held (S := S) hm (plA (md := .any) hs hQ l (by simp) p l.toArray.size S _ a w.drew hb hS h)
open Go.Sort Go.RowKit
theorem over_self (w : World) : ∃ p : Regrown, w = grow (redrawn w p.d) p.os := ⟨⟨w.drawn, #[]⟩, by rw [grow_empty]; rfl⟩
theorem over_drew (w : World) : ∃ p : Regrown, w.drew = grow (redrawn w p.d) p.os := ⟨⟨w.drawn + 1, #[]⟩, by rw [grow_empty]; rfl⟩
theorem over_next {w w1 : World} (h : Below w.heap.size w w1) : ∀ x, (∃ p : Regrown, x = grow (redrawn w1 p.d) p.os) → ∃ p : Regrown, x = grow (redrawn w p.d) p.os := by
  rintro x ⟨p, rfl⟩
  exact regrown_of_below (h.trans ((below_regrown w1 p.d p.os).mono h.size))
end Go.Proofs.Ytgpdknacnmapiaa
