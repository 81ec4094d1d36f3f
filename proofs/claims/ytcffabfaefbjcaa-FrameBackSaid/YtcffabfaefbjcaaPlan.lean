/-
  A region that draws its order, holds calls that make memory, and reads: taken by a plan: what yields one and the same value in every world of a class is taken first; a call is carried out where nothing else may come up; behind it the class may be made narrower.
-/
import Derived.OrdersHeld
import Derived.Deep.RegionHeld
import Derived.BigQuiet
import Derived.Deep.QuietTactic
import Derived.Lib.QuietBelow
namespace Go.Proofs.Ytcffabfaefbjcaa
set_option linter.unusedVariables false
variable {P : Program} {md : Region.Mode} {ops : Array Oper} {Q : Exit → Act → World → Prop}
/-- an operation that yields a value, or ends the run -/
def valueOp (o : Oper) : Bool := match o.op with
  | .move _ => true
  | .assign _ => true
  | .pick _ _ _ => true
  | .load _ _ => true
  | .binOp _ _ _ _ _ => true
  | .unOp _ _ _ => true
  | .convert _ _ _ => true
  | .slice _ _ _ _ _ => true
  | .fieldAddr _ _ _ => true
  | .field _ _ _ => true
  | .indexAddr _ _ _ => true
  | .index _ _ _ => true
  | .extract _ _ => true
  | .call c => match c.callee with
    | .builtin .len => true
    | .builtin .min => true
    | .builtin .max => true
    | _ => false
  | _ => false
theorem bind_value (s : Sem Value) (w : World) {x : Next} {w' : World} (h : (do pure (Next.value (← s)) : Sem Next).run P w = .ok x w') : ∃ u, x = .value u := by
  rw [Sem.run_bind] at h
  cases hs : s.run P w with
  | ok u w1 => rw [hs] at h; simp [Result.andThen, Sem.run_pure] at h; exact ⟨u, h.1.symm⟩
  | halt e w1 => rw [hs] at h; simp [Result.andThen] at h
theorem pure_value (u : Value) (w : World) {x : Next} {w' : World} (h : (pure (Next.value u) : Sem Next).run P w = .ok x w') : ∃ u, x = .value u := by
  simp [Sem.run_pure] at h; exact ⟨u, h.1.symm⟩
theorem andThen_value (s : Sem Value) (w : World) {x : Next} {w' : World} (h : ((s.run P w).andThen fun a w' => Result.ok (Next.value a) w') = .ok x w') : ∃ u, x = .value u := by
  cases hs : s.run P w with
  | ok u w1 => rw [hs] at h; simp only [Result.andThen, Result.ok.injEq] at h; exact ⟨u, h.1.symm⟩
  | halt e w1 => rw [hs] at h; simp [Result.andThen] at h
theorem value_only {o : Oper} (h : valueOp o = true) (ρ : Operand → Value) (w : World) {x : Next} {w' : World} (hr : (execOp ρ o).run P w = .ok x w') : ∃ u, x = .value u := by
  unfold valueOp at h
  unfold execOp at hr
  split at h <;> rename_i heq
  all_goals try (rw [heq] at hr)
  all_goals try (exact pure_value _ _ hr)
  all_goals try (exact bind_value _ _ hr)
  all_goals try (cases h)
  · rename_i c a b
    rw [Sem.run_bind] at hr
    cases hs : (asBool (ρ c)).run P w with
    | ok u w1 => rw [hs] at hr; simp only [Result.andThen] at hr; exact pure_value _ _ hr
    | halt e w1 => rw [hs] at hr; simp [Result.andThen] at hr
  · rename_i c
    split at h <;> rename_i hc
    all_goals try (cases h)
    all_goals
      simp only [resolve, hc, Sem.run_bind, Sem.run_pure, Result.andThen_ok, invoke, builtin] at hr
      exact andThen_value _ _ hr

/-- the members that the flags name -/
def sel {α : Type} : List Bool → List α → List α
  | true :: bs, o :: l => o :: sel bs l
  | false :: bs, _ :: l => sel bs l
  | _, _ => []
/-- may the flagged operations be taken, one behind the other? what has come up behind them -/
def takesB (md : Region.Mode) (ops : Array Oper) : List Bool → Nat → Array Bool → Option (Array Bool)
  | [], _, listed => some listed
  | false :: bs, k, listed => takesB md ops bs (k + 1) listed
  | true :: bs, k, listed => if Region.free md ops listed k && (Region.ready md ops listed).contains k && ((ops[k]?).map valueOp).getD false then takesB md ops bs (k + 1) (listed.setIfInBounds k true) else none
def planB (md : Region.Mode) (ops : Array Oper) : List (List Bool × Nat) → List Bool → Array Bool → Bool
  | [], last, listed => match takesB md ops last 0 listed with
    | some l' => (Region.ready md ops l').isEmpty
    | none => false
  | (fl, c) :: r, last, listed => match takesB md ops fl 0 listed with
    | some l' => Region.ready md ops l' == [c] && planB md ops r last (l'.setIfInBounds c true)
    | none => false
def planLen : List (List Bool × Nat) → List Bool → Nat
  | [], last => last.count true
  | (fl, _) :: r, last => fl.count true + 1 + planLen r last
/-- the walk by a plan: takes in the class S; a call in whatever world of the class; behind it a class of one's own choice, narrower -/
def wpPlan (P : Program) (ops : Array Oper) (l : List Oper) (Q : Exit → Act → World → Prop) : List (List Bool × Nat) → List Bool → (World → Prop) → Act → Prop
  | [], last, S, a => wpQuiet P ops S (fun a' => ∀ w, S w → Q .normal a' w) (sel last l) a
  | (fl, c) :: r, last, S, a => wpQuiet P ops S (fun a' => ∀ w, S w → wpOp P ops Q c (fun a2 w2 => ∃ S' : World → Prop, S' w2 ∧ (∀ x, S' x → S x) ∧ wpPlan P ops l Q r last S' a2) a' w) (sel fl l) a

theorem wpAnyH_mono {S S' : World → Prop} (hS : ∀ x, S' x → S x) : ∀ (fuel : Nat) (listed : Array Bool) (a : Act) (w : World), wpAnyH P md ops Q S' fuel listed a w → wpAnyH P md ops Q S fuel listed a w
  | 0, _, _, _, h => h
  | fuel + 1, listed, a, w, h => ⟨h.1, fun i hi => wpOp_mono (fun a' w' h' => ⟨hS _ h'.1, wpAnyH_mono hS fuel _ _ _ h'.2⟩) (h.2 i hi)⟩
theorem wpQuiet_mono {C : World → Prop} {K K' : Act → Prop} (h : ∀ a, K a → K' a) : ∀ (l : List Oper) (a : Act), wpQuiet P ops C K l a → wpQuiet P ops C K' l a
  | [], a, hh => h a hh
  | o :: l, a, hh => by
    unfold wpQuiet at *
    split
    · rename_i hw
      rw [if_pos hw] at hh
      exact Oper.quiet_mono (wpQuiet_mono h l) hh
    · rename_i hw
      rw [if_neg hw] at hh
      exact wpQuiet_mono h l _ hh
/-- the takes -/
theorem takes_any {S : World → Prop} (hs : Region.noSelect ops = true) (hQ : ∀ c (a : Act) d v w, Q (.panic c) (a.put d v) w → Q (.panic c) a w) (K : Act → Prop) (w : World) (hw : S w) (fuel : Nat) :
    ∀ (fl : List Bool) (l : List Oper) (k : Nat) (listed l' : Array Bool) (a : Act), (∀ j, l[j]? = ops[k + j]?) → takesB md ops fl k listed = some l' → wpQuiet P ops S K (sel fl l) a →
      (∀ a', K a' → wpAnyH P md ops Q S fuel l' a' w) → wpAnyH P md ops Q S (fl.count true + fuel) listed a w
  | [], l, k, listed, l', a, hl, ht, hq, hK => by
    simp only [takesB, Option.some.injEq] at ht
    subst ht
    have : sel [] l = [] := by cases l <;> rfl
    rw [this] at hq
    simpa using hK a hq
  | false :: bs, [], k, listed, l', a, hl, ht, hq, hK => by
    have h0 : ops[k]? = none := by simpa using (hl 0).symm
    simp only [takesB] at ht
    have := takes_any hs hQ K w hw fuel bs [] (k + 1) listed l' a (fun j => by
      have h1 : ops.size ≤ k := Array.getElem?_eq_none_iff.1 h0
      simp; omega) ht (by cases bs with | nil => exact hq | cons b bs => cases b <;> exact hq) hK
    simpa using this
  | false :: bs, o :: l, k, listed, l', a, hl, ht, hq, hK => by
    simp only [takesB] at ht
    have := takes_any hs hQ K w hw fuel bs l (k + 1) listed l' a (fun j => by have := hl (j + 1); simpa [Nat.add_assoc, Nat.add_comm 1 j] using this) ht hq hK
    simpa using this
  | true :: bs, [], k, listed, l', a, hl, ht, hq, hK => by
    have h0 : ops[k]? = none := by simpa using (hl 0).symm
    simp [takesB, h0] at ht
  | true :: bs, o :: l, k, listed, l', a, hl, ht, hq, hK => by
    have h0 : ops[k]? = some o := by simpa using (hl 0).symm
    simp only [takesB, h0, Option.map_some, Option.getD_some] at ht
    split at ht
    · rename_i hc
      simp only [Bool.and_eq_true] at hc
      obtain ⟨⟨hf, hr⟩, hv⟩ := hc
      have ih := fun a' hq' => takes_any hs hQ K w hw fuel bs l (k + 1) (listed.setIfInBounds k true) l' a' (fun j => by have := hl (j + 1); simpa [Nat.add_assoc, Nat.add_comm 1 j] using this) ht hq' hK
      have hq2 : ∃ v, YieldsIf P ops S o v a ∧ wpQuiet P ops S K (sel bs l) (a.put o.dst v) := by
        have hq1 : wpQuiet P ops S K (o :: sel bs l) a := hq
        unfold wpQuiet at hq1
        by_cases hwd : Region.wanted o (yielded ops a.tmps) = true
        · rw [if_pos hwd] at hq1
          obtain ⟨v, h1, h2⟩ := hq1
          refine ⟨v, .inl ⟨hwd, fun x hx => ?_⟩, h2⟩
          have h3 := h1 x hx
          unfold Oper.quietAt at h3
          cases hrun : (execOp a.eval o).run P x with
          | halt e x' => rw [hrun] at h3; simp only [Oper.quietUpon] at h3
          | ok n x' =>
            obtain ⟨u, rfl⟩ := value_only hv a.eval x hrun
            rw [hrun] at h3
            simp only [Oper.quietUpon] at h3
            rw [h3.1, h3.2]
        · rw [if_neg hwd] at hq1
          exact ⟨undef, .inr ⟨by simpa using hwd, rfl⟩, hq1⟩
      obtain ⟨v, hy, hq3⟩ := hq2
      have h5 := ih _ hq3
      rw [List.count_cons_self, show List.count true bs + 1 + fuel = (List.count true bs + fuel) + 1 by omega]
      exact wpAnyH_take h0 hs hf hr (fun c a w h => hQ c a o.dst v w h) hy hw h5
    · cases ht
theorem plan_any (hs : Region.noSelect ops = true) (hQ : ∀ c (a : Act) d v w, Q (.panic c) (a.put d v) w → Q (.panic c) a w) (l : List Oper) (hl : ∀ j : Nat, l[j]? = ops[j]?) (k : Nat) :
    ∀ (plan : List (List Bool × Nat)) (last : List Bool) (S : World → Prop) (listed : Array Bool) (a : Act) (w : World), planB md ops plan last listed = true → S w → wpPlan P ops l Q plan last S a → wpAnyH P md ops Q S (planLen plan last + k) listed a w
  | [], last, S, listed, a, w, hb, hw, h => by
    unfold planB at hb
    cases ht : takesB md ops last 0 listed with
    | none => rw [ht] at hb; cases hb
    | some l' =>
      rw [ht] at hb
      refine takes_any hs hQ _ w hw k last l 0 listed l' a (fun j => by simpa using hl j) ht h (fun a' ha' => ?_)
      exact wpAnyH_done (by simpa using hb) (ha' w hw) k
  | (fl, c) :: r, last, S, listed, a, w, hb, hw, h => by
    unfold planB at hb
    cases ht : takesB md ops fl 0 listed with
    | none => rw [ht] at hb; cases hb
    | some l' =>
      rw [ht] at hb
      simp only [Bool.and_eq_true, beq_iff_eq] at hb
      obtain ⟨h1, h2⟩ := hb
      have := takes_any (fuel := planLen r last + k + 1) hs hQ _ w hw fl l 0 listed l' a (fun j => by simpa using hl j) ht h (fun a' ha' => by
        refine wpAnyH_all h1 (by simp) (fun i hi => ?_)
        have : i = c := by simpa using hi
        subst this
        refine wpOp_mono (fun a2 w2 ⟨S', hS1, hS2, hp⟩ => ⟨hS2 _ hS1, ?_⟩) (ha' w hw)
        exact wpAnyH_mono hS2 _ _ _ _ (plan_any hs hQ l hl k r last S' _ a2 w2 h2 hS1 hp))
      rw [planLen, show fl.count true + 1 + planLen r last + k = fl.count true + (planLen r last + k + 1) by omega]
      exact this
/-- A REGION THAT DRAWS ITS ORDER, BY A PLAN. -/
theorem wp_region_plan {id : Nat} {a : Act} {w : World} {l : List Oper} (plan : List (List Bool × Nat)) (last : List Bool) (S : World → Prop) (hm : P.follows .mixedOrders = true) (hs : Region.noSelect l.toArray = true)
    (hb : (planB .any l.toArray plan last (Array.replicate l.toArray.size false) && decide (planLen plan last ≤ l.toArray.size)) = true) (hQ : ∀ c (a : Act) d v w, Q (.panic c) (a.put d v) w → Q (.panic c) a w) (hS : S w.drew)
    (h : wpPlan P l.toArray l Q plan last S a) : (Code.region id l.toArray true).wp P Q a w := by
  simp only [Bool.and_eq_true, decide_eq_true_eq] at hb
  refine wp_region_held (S := S) hm ?_
  have := plan_any (md := .any) hs hQ l (by simp) (l.toArray.size - planLen plan last) plan last S _ a w.drew hb.1 hS h
  rwa [show planLen plan last + (l.toArray.size - planLen plan last) = l.toArray.size by omega] at this
open Go.Sort Go.RowKit
theorem above_self (w : World) : ∃ p : Regrown, w = grow (redrawn w p.d) p.os := ⟨⟨w.drawn, #[]⟩, by rw [grow_empty]; rfl⟩
theorem above_drew (w : World) : ∃ p : Regrown, w.drew = grow (redrawn w p.d) p.os := ⟨⟨w.drawn + 1, #[]⟩, by rw [grow_empty]; rfl⟩
theorem above_next {w w1 : World} (h : Below w.heap.size w w1) : ∀ x, (∃ p : Regrown, x = grow (redrawn w1 p.d) p.os) → ∃ p : Regrown, x = grow (redrawn w p.d) p.os := by
  rintro x ⟨p, rfl⟩
  exact regrown_of_below (h.trans ((below_regrown w1 p.d p.os).mono h.size))
end Go.Proofs.Ytcffabfaefbjcaa
