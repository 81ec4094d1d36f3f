/-
  A region that draws its order, by a plan, where it may panic in a function that defers: only what its own operations lay may turn.
-/
import Derived.Test.YtgpdknacnmapiaaOrders
import Derived.Defers
namespace Go.Proofs.Ytgpdknacnmapiaa
set_option linter.unusedVariables false
set_option linter.unusedSimpArgs false
variable {P : Program} {md : Region.Mode} {ops : Array Oper} {Q : Exit → Act → World → Prop}
/-- the takes -/
theorem takesD {S : World → Prop} (hs : Region.noSelect ops = true) (hQ : ∀ (k : Nat) (o : Oper), ops[k]? = some o → ∀ c (a : Act) v w, Q (.panic c) (a.put o.dst v) w → Q (.panic c) a w) (K : Act → Prop) (w : World) (hw : S w) (fuel : Nat) :
    ∀ (fl : List Bool) (l : List Oper) (k : Nat) (listed l' : Array Bool) (a : Act), (∀ j, l[j]? = ops[k + j]?) → takeB md ops fl k listed = some l' → wpQuiet P ops S K (selF fl l) a →
      (∀ a', K a' → wpAnyH P md ops Q S fuel l' a' w) → wpAnyH P md ops Q S (fl.count true + fuel) listed a w
  | [], l, k, listed, l', a, hl, ht, hq, hK => by
    simp only [takeB, Option.some.injEq] at ht
    subst ht
    have : selF [] l = [] := by cases l <;> rfl
    rw [this] at hq
    simpa using hK a hq
  | false :: bs, [], k, listed, l', a, hl, ht, hq, hK => by
    have h0 : ops[k]? = none := by simpa using (hl 0).symm
    simp only [takeB] at ht
    have := takesD hs hQ K w hw fuel bs [] (k + 1) listed l' a (fun j => by
      have h1 : ops.size ≤ k := Array.getElem?_eq_none_iff.1 h0
      simp; omega) ht (by cases bs with | nil => exact hq | cons b bs => cases b <;> exact hq) hK
    simpa using this
  | false :: bs, o :: l, k, listed, l', a, hl, ht, hq, hK => by
    simp only [takeB] at ht
    have := takesD hs hQ K w hw fuel bs l (k + 1) listed l' a (fun j => by have := hl (j + 1); simpa [Nat.add_assoc, Nat.add_comm 1 j] using this) ht hq hK
    simpa using this
  | true :: bs, [], k, listed, l', a, hl, ht, hq, hK => by
    have h0 : ops[k]? = none := by simpa using (hl 0).symm
    simp [takeB, h0] at ht
  | true :: bs, o :: l, k, listed, l', a, hl, ht, hq, hK => by
    have h0 : ops[k]? = some o := by simpa using (hl 0).symm
    simp only [takeB, h0, Option.map_some, Option.getD_some] at ht
    split at ht
    · rename_i hc
      simp only [Bool.and_eq_true] at hc
      obtain ⟨⟨hf, hr⟩, hv⟩ := hc
      have ih := fun a' hq' => takesD hs hQ K w hw fuel bs l (k + 1) (listed.setIfInBounds k true) l' a' (fun j => by have := hl (j + 1); simpa [Nat.add_assoc, Nat.add_comm 1 j] using this) ht hq' hK
      have hq2 : ∃ v, YieldsIf P ops S o v a ∧ wpQuiet P ops S K (selF bs l) (a.put o.dst v) := by
        have hq1 : wpQuiet P ops S K (o :: selF bs l) a := hq
        unfold wpQuiet at hq1
        by_cases hwd : Region.wanted o (yielded ops a.tmps) = true
        · rw [if_pos hwd] at hq1
          obtain ⟨v, h1, h2⟩ := hq1
          refine ⟨v, .inl ⟨hwd, fun x hx => ?_⟩, h2⟩
          have h3 := h1 x hx
          unfold Oper.quietAt at h3
          cases hrun : (execOp a.eval o).run P x with
          | halt e x' => rw [hrun] at h3; simp only [Oper.quietUpon] at h3
          | ok n x' =>
            obtain ⟨u, rfl⟩ := val_only hv a.eval x hrun
            rw [hrun] at h3
            simp only [Oper.quietUpon] at h3
            rw [h3.1, h3.2]
        · rw [if_neg hwd] at hq1
          exact ⟨undef, .inr ⟨by simpa using hwd, rfl⟩, hq1⟩
      obtain ⟨v, hy, hq3⟩ := hq2
      have h5 := ih _ hq3
      rw [List.count_cons_self, show List.count true bs + 1 + fuel = (List.count true bs + fuel) + 1 by omega]
      exact wpAnyH_take h0 hs hf hr (fun c a w h => hQ k o h0 c a v w h) hy hw h5
    · cases ht
mutual
def wpPw (P : Program) (ops : Array Oper) (l : List Oper) (Q : Exit → Act → World → Prop) : Pl → (World → Prop) → Act → World → Prop
  | .last fl, S, a, w => wpQuiet P ops S (fun a' => Q .normal a' w) (selF fl l) a
  | .step fl br, S, a, w => wpQuiet P ops S (fun a' => wpBw P ops l Q br S a' w) (selF fl l) a
def wpBw (P : Program) (ops : Array Oper) (l : List Oper) (Q : Exit → Act → World → Prop) : Br → (World → Prop) → Act → World → Prop
  | .nil, _, _, _ => True
  | .cons c p r, S, a, w => wpOp P ops Q c (fun a2 w2 => ∃ S' : World → Prop, S' w2 ∧ (∀ x, S' x → S x) ∧ wpPw P ops l Q p S' a2 w2) a w ∧ wpBw P ops l Q r S a w
end
mutual
theorem pwD (hs : Region.noSelect ops = true) (hQ : ∀ (k : Nat) (o : Oper), ops[k]? = some o → ∀ c (a : Act) v w, Q (.panic c) (a.put o.dst v) w → Q (.panic c) a w) (l : List Oper) (hl : ∀ j : Nat, l[j]? = ops[j]?) :
    ∀ (p : Pl) (n : Nat) (S : World → Prop) (listed : Array Bool) (a : Act) (w : World), plB md ops n p listed = true → S w → wpPw P ops l Q p S a w → wpAnyH P md ops Q S n listed a w
  | .last fl, n, S, listed, a, w, hb, hw, h => by
    unfold plB at hb
    unfold wpPw at h
    cases ht : takeB md ops fl 0 listed with
    | none => rw [ht] at hb; cases hb
    | some l' =>
      rw [ht] at hb
      simp only [Bool.and_eq_true, decide_eq_true_eq] at hb
      rw [show n = fl.count true + (n - fl.count true) by omega]
      refine takesD hs hQ _ w hw _ fl l 0 listed l' a (fun j => by simpa using hl j) ht h (fun a' ha' => ?_)
      exact wpAnyH_done (by simpa using hb.1) ha' _
  | .step fl br, n, S, listed, a, w, hb, hw, h => by
    unfold plB at hb
    unfold wpPw at h
    cases ht : takeB md ops fl 0 listed with
    | none => rw [ht] at hb; cases hb
    | some l' =>
      rw [ht] at hb
      simp only [Bool.and_eq_true, decide_eq_true_eq, beq_iff_eq] at hb
      obtain ⟨⟨⟨h1, h4⟩, h2⟩, h3⟩ := hb
      rw [show n = fl.count true + ((n - fl.count true - 1) + 1) by omega]
      refine takesD (fuel := (n - fl.count true - 1) + 1) hs hQ _ w hw fl l 0 listed l' a (fun j => by simpa using hl j) ht h (fun a' ha' => ?_)
      exact wpAnyH_all h1 (by intro e; rw [e] at h4; cases h4) (fun i hi => bwD hs hQ l hl br (n - fl.count true - 1) S l' a' w h3 hw ha' i hi)
theorem bwD (hs : Region.noSelect ops = true) (hQ : ∀ (k : Nat) (o : Oper), ops[k]? = some o → ∀ c (a : Act) v w, Q (.panic c) (a.put o.dst v) w → Q (.panic c) a w) (l : List Oper) (hl : ∀ j : Nat, l[j]? = ops[j]?) :
    ∀ (br : Br) (n : Nat) (S : World → Prop) (listed : Array Bool) (a : Act) (w : World), brB md ops n br listed = true → S w → wpBw P ops l Q br S a w →
      ∀ i ∈ br.ids, wpOp P ops Q i (fun a' w' => S w' ∧ wpAnyH P md ops Q S n (listed.setIfInBounds i true) a' w') a w
  | .nil, n, S, listed, a, w, hb, hw, h, i, hi => by cases hi
  | .cons c p r, n, S, listed, a, w, hb, hw, h, i, hi => by
    unfold brB at hb
    unfold wpBw at h
    simp only [Bool.and_eq_true] at hb
    rcases List.mem_cons.1 hi with rfl | hi
    · refine wpOp_mono (fun a2 w2 ⟨S', hS1, hS2, hp⟩ => ⟨hS2 _ hS1, ?_⟩) h.1
      exact anyMono hS2 _ _ _ _ (pwD hs hQ l hl p n S' _ a2 w2 hb.1 hS1 hp)
    · exact bwD hs hQ l hl r n S listed a w hb.2 hw h.2 i hi
end
/-- A REGION THAT DRAWS ITS ORDER, BY A PLAN, AT THE VERY WORLD. -/
theorem wp_region_plw {id : Nat} {a : Act} {w : World} {l : List Oper} (p : Pl) (S : World → Prop) (hm : P.follows .mixedOrders = true) (hs : Region.noSelect l.toArray = true)
    (hb : plB .any l.toArray l.toArray.size p (Array.replicate l.toArray.size false) = true) (hQ : ∀ (k : Nat) (o : Oper), l.toArray[k]? = some o → ∀ c (a : Act) v w, Q (.panic c) (a.put o.dst v) w → Q (.panic c) a w) (hS : S w.drew)
    (h : wpPw P l.toArray l Q p S a w.drew) : (Code.region id l.toArray true).wp P Q a w :=
  wp_region_held (S := S) hm (pwD (md := .any) hs hQ l (by simp) p l.toArray.size S _ a w.drew hb hS h)
/-- the deferred calls look at the frame through the results alone -/
theorem leaves_congr {fn : Func} {R : Ending → World → Prop} {t t' : Array Value} (h : ∀ w, (results fn t).run P w = (results fn t').run P w) :
    ∀ (ds : List Deferred) (u : FrameMode) (w : World), Leaves P fn t R ds u w → Leaves P fn t' R ds u w
  | [], .returning, w, hl => by
    obtain ⟨v, h1, h2⟩ := hl
    exact ⟨v, by rw [← h]; exact h1, h2⟩
  | [], .panicking chain, w, hl => hl
  | [], .run, w, hl => hl
  | d :: ds, u, w, hl => by
    obtain ⟨h1, fv, cap, f, args, h2, h3, h4⟩ := hl
    refine ⟨h1, fv, cap, f, args, h2, h3, h4.mono ?_⟩
    rintro e u' w' he
    cases e with
    | returned v => exact leaves_congr h ds _ w' he
    | panicked chain => exact leaves_congr h ds _ w' he
    | outgrown => exact he
end Go.Proofs.Ytgpdknacnmapiaa
