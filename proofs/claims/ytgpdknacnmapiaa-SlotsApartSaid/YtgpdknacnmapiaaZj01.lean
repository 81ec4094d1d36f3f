/-
  Parts of a proof, put together: Base, Orders, OrdersD.
-/
import Derived.WalkKit
import Derived.WalkLawsBesides
import Derived.WalkSpells
import Derived.Lib.Hide
import Derived.Laws.BytesArg
import Derived.Laws.CopyOwn
import Derived.Laws.AppendOwnNone
import Derived.ArgAppend
import Derived.OrdersHeld
import Derived.Deep.RegionHeld
import Derived.BigQuiet
import Derived.Deep.QuietTactic
import Derived.Lib.QuietBelow
import Derived.Defers
namespace Go.Proofs.Ytgpdknacnmapiaa
set_option linter.unusedVariables false
set_option linter.unusedSimpArgs false
open Go.RowKit
/-- the numbers are bytes -/
def IsBytes (l : List Nat) : Prop := ∀ x ∈ l, x < 256
theorem IsBytes.nil : IsBytes [] := by intro x hx; cases hx
theorem IsBytes.append {a b : List Nat} (ha : IsBytes a) (hb : IsBytes b) : IsBytes (a ++ b) := by
  intro x hx; rcases List.mem_append.1 hx with h | h
  · exact ha x h
  · exact hb x h
theorem IsBytes.one {x : Nat} (h : x < 256) : IsBytes [x] := by intro y hy; simp at hy; omega
theorem IsBytes.take {a : List Nat} (ha : IsBytes a) (k : Nat) : IsBytes (a.take k) := fun x hx => ha x (List.mem_of_mem_take hx)
theorem IsBytes.drop {a : List Nat} (ha : IsBytes a) (k : Nat) : IsBytes (a.drop k) := fun x hx => ha x (List.mem_of_mem_drop hx)
theorem IsBytes.getD {a : List Nat} (ha : IsBytes a) (k : Nat) : a.getD k 0 < 256 := by
  by_cases h : k < a.length
  · rw [List.getD, List.getElem?_eq_getElem h]; exact ha _ (List.getElem_mem h)
  · rw [List.getD, List.getElem?_eq_none (by omega)]; simp
/-- a byte's cell -/
def bv (n : Nat) : Value := .int .u8 (n : Int)
/-- the slice value v reads as the bytes l -/
def Sl (w : World) (v : Value) (l : List Nat) : Prop :=
  IsBytes l ∧ ∃ ao cap, v = .slice ao l.length cap ∧ l.length ≤ cap ∧ cap ≤ maxLen ∧ (ao = none → cap = 0) ∧
    (l.length = 0 ∨ ∃ b off, ao = some ⟨b, off, none⟩ ∧ ∀ i, i < l.length → w.cell? ⟨b, off + i, none⟩ = some (.int .u8 ((l.getD i 0 : Nat) : Int)))
theorem Sl.bytes {w : World} {v : Value} {l : List Nat} (h : Sl w v l) : IsBytes l := h.1
theorem Sl.len {w : World} {v : Value} {l : List Nat} (h : Sl w v l) : l.length ≤ maxLen := by
  obtain ⟨_, ao, cap, _, h1, h2, _⟩ := h; omega
theorem Sl.nil (w : World) : Sl w (.slice none 0 0) [] := ⟨IsBytes.nil, none, 0, rfl, Nat.le_refl _, Nat.zero_le _, fun _ => rfl, .inl rfl⟩
/-- what is read stays read behind whatever leaves old blocks alone -/
theorem Sl.below {B : Nat} {w w' : World} {v : Value} {l : List Nat} (h : Sl w v l) (hb : Below B w w') (hB : w.heap.size ≤ B) : Sl w' v l := by
  obtain ⟨h0, ao, cap, h1, h2, h3, h4, h5⟩ := h
  refine ⟨h0, ao, cap, h1, h2, h3, h4, ?_⟩
  rcases h5 with h5 | ⟨b, off, e, hc⟩
  · exact .inl h5
  · refine .inr ⟨b, off, e, fun i hi => ?_⟩
    have hlt := World.block_lt_of_cell? w _ (hc i hi)
    rw [hb.cell (p := ⟨b, off + i, none⟩) (by exact Nat.lt_of_lt_of_le hlt hB)]
    exact hc i hi
theorem Sl.alloc {w : World} {v : Value} {l : List Nat} (h : Sl w v l) (o : Obj) : Sl (w.alloc o) v l := h.below ((Below.refl w.heap.size w).alloc (Nat.le_refl _) o) (Nat.le_refl _)
theorem Sl.drew {w : World} {v : Value} {l : List Nat} (h : Sl w v l) : Sl w.drew v l := h
/-- v is a row of the call's own (blocks from B on) that holds the bytes l -/
def Own (T B : Nat) (w : World) (v : Value) (l : List Nat) : Prop := IsBytes l ∧ w.ownsRow B T 1 v l.length (l.map bv)
theorem Own.sl {T B : Nat} {w : World} {v : Value} {l : List Nat} (h : Own T B w v l) : Sl w v l := by
  obtain ⟨h0, h1, h2⟩ := h
  refine ⟨h0, ?_⟩
  rcases h2 with ⟨rfl, hn⟩ | ⟨g, cap, cur, rfl, hb, hg, hn, hm, hs, ht⟩
  · have : l = [] := List.eq_nil_of_length_eq_zero hn
    subst this
    exact ⟨none, 0, rfl, Nat.le_refl _, Nat.zero_le _, fun _ => rfl, .inl rfl⟩
  · refine ⟨some ⟨g, 0, none⟩, cap, rfl, hn, hm, fun e => (by cases e), .inr ⟨g, 0, rfl, fun i hi => ?_⟩⟩
    rw [cell_of_row w g (0 + i) cur T (0, 0) hg]
    have h3 : (l.map bv)[i]? = some (bv (l.getD i 0)) := by simp [List.getD, List.getElem?_eq_getElem hi]
    rw [← ht, List.getElem?_take] at h3
    split at h3
    · simpa [bv] using h3
    · cases h3
theorem Own.alloc {T B : Nat} {w : World} {v : Value} {l : List Nat} (h : Own T B w v l) (o : Obj) : Own T B (w.alloc o) v l := ⟨h.1, h.2.alloc o⟩
theorem Own.drew {T B : Nat} {w : World} {v : Value} {l : List Nat} (h : Own T B w v l) : Own T B w.drew v l := ⟨h.1, h.2⟩
theorem Own.mono {T B B' : Nat} {w : World} {v : Value} {l : List Nat} (h : Own T B w v l) (hB : B' ≤ B) : Own T B' w v l := by
  obtain ⟨h0, h1, h2⟩ := h
  refine ⟨h0, h1, ?_⟩
  rcases h2 with h2 | ⟨g, cap, cur, rfl, hb, r⟩
  · exact .inl h2
  · exact .inr ⟨g, cap, cur, rfl, by omega, r⟩
theorem Own.nil (T B : Nat) (w : World) : Own T B w (.slice none 0 0) [] := ⟨IsBytes.nil, World.ownsRow_nil _ _ _ _⟩
/-- a row of blocks below B0 stays behind what leaves these alone -/
theorem Own.below {T B B0 : Nat} {w w' : World} {v : Value} {l : List Nat} (h : Own T B w v l) (hb : Below B0 w w') (hB : w.heap.size ≤ B0) : Own T B w' v l := by
  obtain ⟨h0, h1, h2⟩ := h
  refine ⟨h0, h1, ?_⟩
  rcases h2 with h2 | ⟨g, cap, cur, rfl, hbg, hg, r⟩
  · exact .inl h2
  · have hlt := (Array.getElem?_eq_some_iff.1 hg).1
    exact .inr ⟨g, cap, cur, rfl, hbg, by rw [hb.block g (by omega)]; exact hg, r⟩
/-- the closed facts on []byte's type number T and byte's E -/
structure ByteT (P : Program) (T E : TypeId) : Prop where
  t : P.underlying T = some (.slice E)
  e : P.underlying E = some (.int .u8)
  i : (P.info? E).map (fun i => (i.zero, i.size, i.bytes)) = some (some (.int .u8 0), 1, 1)
section
variable {P : Program} {T E : TypeId}
/-- the bytes as a string -/
def strOf (l : List Nat) : ByteArray := ⟨(l.map UInt8.ofNat).toArray⟩
theorem strOf_nums (l : List Nat) : strOfNums (l.map fun n : Nat => (n : Int)) = strOf l := by
  simp [strOfNums, strOf]
theorem Sl.string (BT : ByteT P T E) {w : World} {v : Value} {l : List Nat} (h : Sl w v l) {dst : TypeId} (hd : P.underlying dst = some .string) :
    (convert T dst v).run P w = .ok (.string (strOf l)) w := by
  obtain ⟨h0, ao, cap, rfl, h1, h2, h3, h4⟩ := h
  rcases h4 with h4 | ⟨b, off, rfl, hc⟩
  · have hl : l = [] := List.eq_nil_of_length_eq_zero h4
    subst hl
    rw [run_convert_bytes_string w T dst E ao _ cap BT.t BT.e hd]
    cases ao with
    | none => simp [Conv.bytesToString]; rfl
    | some a =>
      rw [run_bytesToString w a _ cap [] (by simp [loadCells, loadCellsFrom])]
      rfl
  · rw [run_convert_bytes_arg (P := P) w T E BT.t BT.e b off l.length cap (l.map fun n : Nat => (n : Int)) (by simp) (fun i hi => by
      rw [hc i hi]; simp [List.getD, List.getElem?_eq_getElem hi]) dst hd, strOf_nums]
end
/-- the lowest k bytes of n, the lowest first -/
def le : Nat → Nat → List Nat
  | 0, _ => []
  | k + 1, n => n % 256 :: le k (n / 256)
end Go.Proofs.Ytgpdknacnmapiaa
namespace Go.Proofs.Ytgpdknacnmapiaa
set_option linter.unusedVariables false
set_option linter.unusedSimpArgs false
variable {P : Program} {md : Region.Mode} {ops : Array Oper} {Q : Exit → Act → World → Prop}
/-- an operation that yields a value, or ends the run -/
def valOp (o : Oper) : Bool := match o.op with
  | .move _ => true
  | .assign _ => true
  | .pick _ _ _ => true
  | .load _ _ => true
  | .binOp _ _ _ _ _ => true
  | .unOp _ _ _ => true
  | .convert _ _ _ => true
  | .slice _ _ _ _ _ => true
  | .fieldAddr _ _ _ => true
  | .field _ _ _ => true
  | .indexAddr _ _ _ => true
  | .index _ _ _ => true
  | .extract _ _ => true
  | .nilCheck _ => true
  | .build _ _ => true
  | .typeAssert _ _ _ _ => true
  | .lookup _ _ _ _ => true
  | .call c => match c.callee with
    | .builtin .len => true
    | .builtin .min => true
    | .builtin .max => true
    | _ => false
  | _ => false
theorem bindVal (s : Sem Value) (w : World) {x : Next} {w' : World} (h : (do pure (Next.value (← s)) : Sem Next).run P w = .ok x w') : ∃ u, x = .value u := by
  rw [Sem.run_bind] at h
  cases hs : s.run P w with
  | ok u w1 => rw [hs] at h; simp [Result.andThen, Sem.run_pure] at h; exact ⟨u, h.1.symm⟩
  | halt e w1 => rw [hs] at h; simp [Result.andThen] at h
theorem pureVal (u : Value) (w : World) {x : Next} {w' : World} (h : (pure (Next.value u) : Sem Next).run P w = .ok x w') : ∃ u, x = .value u := by
  simp [Sem.run_pure] at h; exact ⟨u, h.1.symm⟩
theorem andThenVal (s : Sem Value) (w : World) {x : Next} {w' : World} (h : ((s.run P w).andThen fun a w' => Result.ok (Next.value a) w') = .ok x w') : ∃ u, x = .value u := by
  cases hs : s.run P w with
  | ok u w1 => rw [hs] at h; simp only [Result.andThen, Result.ok.injEq] at h; exact ⟨u, h.1.symm⟩
  | halt e w1 => rw [hs] at h; simp [Result.andThen] at h
theorem deref_no (w : World) (x : Next) (w' : World) : ¬ (runtimePanic (α := Next) RuntimeError.nilDeref).run P w = .ok x w' := by
  intro h
  simp [runtimePanic, goPanic, go_sem] at h
theorem val_only {o : Oper} (h : valOp o = true) (ρ : Operand → Value) (w : World) {x : Next} {w' : World} (hr : (execOp ρ o).run P w = .ok x w') : ∃ u, x = .value u := by
  unfold valOp at h
  unfold execOp at hr
  split at h <;> rename_i heq
  all_goals try (rw [heq] at hr)
  all_goals try (exact pureVal _ _ hr)
  all_goals try (exact bindVal _ _ hr)
  all_goals try (cases h)
  · rename_i c a b
    rw [Sem.run_bind] at hr
    cases hs : (asBool (ρ c)).run P w with
    | ok u w1 => rw [hs] at hr; simp only [Result.andThen] at hr; exact pureVal _ _ hr
    | halt e w1 => rw [hs] at hr; simp [Result.andThen] at hr
  · simp only at hr
    split at hr
    all_goals try (exact absurd hr (deref_no w x w'))
    all_goals try (exact pureVal _ _ hr)
    split at hr
    all_goals try (exact absurd hr (deref_no w x w'))
    all_goals try (exact pureVal _ _ hr)
    rename_i t u hh
    simp only [Sem.run_bind, Result.andThen] at hr
    split at hr
    · split at hr
      · split at hr
        · simp [unsupported, go_sem] at hr
        · exact pureVal _ _ hr
      · cases hr
    · cases hr
  · rename_i c
    split at h <;> rename_i hc
    all_goals try (cases h)
    all_goals
      simp only [resolve, hc, Sem.run_bind, Sem.run_pure, Result.andThen_ok, invoke, builtin] at hr
      exact andThenVal _ _ hr
/-- the members that the flags name -/
def selF {α : Type} : List Bool → List α → List α
  | true :: bs, o :: l => o :: selF bs l
  | false :: bs, _ :: l => selF bs l
  | _, _ => []
/-- may the flagged operations be taken, one behind the other? what has come up behind them -/
def takeB (md : Region.Mode) (ops : Array Oper) : List Bool → Nat → Array Bool → Option (Array Bool)
  | [], _, listed => some listed
  | false :: bs, k, listed => takeB md ops bs (k + 1) listed
  | true :: bs, k, listed => if Region.free md ops listed k && (Region.ready md ops listed).contains k && ((ops[k]?).map valOp).getD false then takeB md ops bs (k + 1) (listed.setIfInBounds k true) else none
mutual
inductive Pl where
  | last (fl : List Bool)
  | step (fl : List Bool) (br : Br)
inductive Br where
  | nil
  | cons (c : Nat) (p : Pl) (r : Br)
end
def Br.ids : Br → List Nat
  | .nil => []
  | .cons c _ r => c :: r.ids
mutual
def plB (md : Region.Mode) (ops : Array Oper) (n : Nat) : Pl → Array Bool → Bool
  | .last fl, listed => match takeB md ops fl 0 listed with
    | some l' => (Region.ready md ops l').isEmpty && decide (fl.count true ≤ n)
    | none => false
  | .step fl br, listed => match takeB md ops fl 0 listed with
    | some l' => Region.ready md ops l' == br.ids && !br.ids.isEmpty && decide (fl.count true + 1 ≤ n) && brB md ops (n - fl.count true - 1) br l'
    | none => false
def brB (md : Region.Mode) (ops : Array Oper) (n : Nat) : Br → Array Bool → Bool
  | .nil, _ => true
  | .cons c p r, listed => plB md ops n p (listed.setIfInBounds c true) && brB md ops n r listed
end
mutual
def wpPl (P : Program) (ops : Array Oper) (l : List Oper) (Q : Exit → Act → World → Prop) : Pl → (World → Prop) → Act → Prop
  | .last fl, S, a => wpQuiet P ops S (fun a' => ∀ w, S w → Q .normal a' w) (selF fl l) a
  | .step fl br, S, a => wpQuiet P ops S (fun a' => ∀ w, S w → wpBr P ops l Q br S a' w) (selF fl l) a
def wpBr (P : Program) (ops : Array Oper) (l : List Oper) (Q : Exit → Act → World → Prop) : Br → (World → Prop) → Act → World → Prop
  | .nil, _, _, _ => True
  | .cons c p r, S, a, w => wpOp P ops Q c (fun a2 w2 => ∃ S' : World → Prop, S' w2 ∧ (∀ x, S' x → S x) ∧ wpPl P ops l Q p S' a2) a w ∧ wpBr P ops l Q r S a w
end
theorem anyMono {S S' : World → Prop} (hS : ∀ x, S' x → S x) : ∀ (fuel : Nat) (listed : Array Bool) (a : Act) (w : World), wpAnyH P md ops Q S' fuel listed a w → wpAnyH P md ops Q S fuel listed a w
  | 0, _, _, _, h => h
  | fuel + 1, listed, a, w, h => ⟨h.1, fun i hi => wpOp_mono (fun a' w' h' => ⟨hS _ h'.1, anyMono hS fuel _ _ _ h'.2⟩) (h.2 i hi)⟩
/-- the takes -/
theorem takesA {S : World → Prop} (hs : Region.noSelect ops = true) (hQ : ∀ c (a : Act) d v w, Q (.panic c) (a.put d v) w → Q (.panic c) a w) (K : Act → Prop) (w : World) (hw : S w) (fuel : Nat) :
    ∀ (fl : List Bool) (l : List Oper) (k : Nat) (listed l' : Array Bool) (a : Act), (∀ j, l[j]? = ops[k + j]?) → takeB md ops fl k listed = some l' → wpQuiet P ops S K (selF fl l) a →
      (∀ a', K a' → wpAnyH P md ops Q S fuel l' a' w) → wpAnyH P md ops Q S (fl.count true + fuel) listed a w
  | [], l, k, listed, l', a, hl, ht, hq, hK => by
    simp only [takeB, Option.some.injEq] at ht
    subst ht
    have : selF [] l = [] := by cases l <;> rfl
    rw [this] at hq
    simpa using hK a hq
  | false :: bs, [], k, listed, l', a, hl, ht, hq, hK => by
    have h0 : ops[k]? = none := by simpa using (hl 0).symm
    simp only [takeB] at ht
    have := takesA hs hQ K w hw fuel bs [] (k + 1) listed l' a (fun j => by
      have h1 : ops.size ≤ k := Array.getElem?_eq_none_iff.1 h0
      simp; omega) ht (by cases bs with | nil => exact hq | cons b bs => cases b <;> exact hq) hK
    simpa using this
  | false :: bs, o :: l, k, listed, l', a, hl, ht, hq, hK => by
    simp only [takeB] at ht
    have := takesA hs hQ K w hw fuel bs l (k + 1) listed l' a (fun j => by have := hl (j + 1); simpa [Nat.add_assoc, Nat.add_comm 1 j] using this) ht hq hK
    simpa using this
  | true :: bs, [], k, listed, l', a, hl, ht, hq, hK => by
    have h0 : ops[k]? = none := by simpa using (hl 0).symm
    simp [takeB, h0] at ht
  | true :: bs, o :: l, k, listed, l', a, hl, ht, hq, hK => by
    have h0 : ops[k]? = some o := by simpa using (hl 0).symm
    simp only [takeB, h0, Option.map_some, Option.getD_some] at ht
    split at ht
    · rename_i hc
      simp only [Bool.and_eq_true] at hc
      obtain ⟨⟨hf, hr⟩, hv⟩ := hc
      have ih := fun a' hq' => takesA hs hQ K w hw fuel bs l (k + 1) (listed.setIfInBounds k true) l' a' (fun j => by have := hl (j + 1); simpa [Nat.add_assoc, Nat.add_comm 1 j] using this) ht hq' hK
      have hq2 : ∃ v, YieldsIf P ops S o v a ∧ wpQuiet P ops S K (selF bs l) (a.put o.dst v) := by
        have hq1 : wpQuiet P ops S K (o :: selF bs l) a := hq
        unfold wpQuiet at hq1
        by_cases hwd : Region.wanted o (yielded ops a.tmps) = true
        · rw [if_pos hwd] at hq1
          obtain ⟨v, h1, h2⟩ := hq1
          refine ⟨v, .inl ⟨hwd, fun x hx => ?_⟩, h2⟩
          have h3 := h1 x hx
          unfold Oper.quietAt at h3
          cases hrun : (execOp a.eval o).run P x with
          | halt e x' => rw [hrun] at h3; simp only [Oper.quietUpon] at h3
          | ok n x' =>
            obtain ⟨u, rfl⟩ := val_only hv a.eval x hrun
            rw [hrun] at h3
            simp only [Oper.quietUpon] at h3
            rw [h3.1, h3.2]
        · rw [if_neg hwd] at hq1
          exact ⟨undef, .inr ⟨by simpa using hwd, rfl⟩, hq1⟩
      obtain ⟨v, hy, hq3⟩ := hq2
      have h5 := ih _ hq3
      rw [List.count_cons_self, show List.count true bs + 1 + fuel = (List.count true bs + fuel) + 1 by omega]
      exact wpAnyH_take h0 hs hf hr (fun c a w h => hQ c a o.dst v w h) hy hw h5
    · cases ht
mutual
theorem plA (hs : Region.noSelect ops = true) (hQ : ∀ c (a : Act) d v w, Q (.panic c) (a.put d v) w → Q (.panic c) a w) (l : List Oper) (hl : ∀ j : Nat, l[j]? = ops[j]?) :
    ∀ (p : Pl) (n : Nat) (S : World → Prop) (listed : Array Bool) (a : Act) (w : World), plB md ops n p listed = true → S w → wpPl P ops l Q p S a → wpAnyH P md ops Q S n listed a w
  | .last fl, n, S, listed, a, w, hb, hw, h => by
    unfold plB at hb
    unfold wpPl at h
    cases ht : takeB md ops fl 0 listed with
    | none => rw [ht] at hb; cases hb
    | some l' =>
      rw [ht] at hb
      simp only [Bool.and_eq_true, decide_eq_true_eq] at hb
      rw [show n = fl.count true + (n - fl.count true) by omega]
      refine takesA hs hQ _ w hw _ fl l 0 listed l' a (fun j => by simpa using hl j) ht h (fun a' ha' => ?_)
      exact wpAnyH_done (by simpa using hb.1) (ha' w hw) _
  | .step fl br, n, S, listed, a, w, hb, hw, h => by
    unfold plB at hb
    unfold wpPl at h
    cases ht : takeB md ops fl 0 listed with
    | none => rw [ht] at hb; cases hb
    | some l' =>
      rw [ht] at hb
      simp only [Bool.and_eq_true, decide_eq_true_eq, beq_iff_eq] at hb
      obtain ⟨⟨⟨h1, h4⟩, h2⟩, h3⟩ := hb
      rw [show n = fl.count true + ((n - fl.count true - 1) + 1) by omega]
      refine takesA (fuel := (n - fl.count true - 1) + 1) hs hQ _ w hw fl l 0 listed l' a (fun j => by simpa using hl j) ht h (fun a' ha' => ?_)
      exact wpAnyH_all h1 (by intro e; rw [e] at h4; cases h4) (fun i hi => brA hs hQ l hl br (n - fl.count true - 1) S l' a' w h3 hw (ha' w hw) i hi)
theorem brA (hs : Region.noSelect ops = true) (hQ : ∀ c (a : Act) d v w, Q (.panic c) (a.put d v) w → Q (.panic c) a w) (l : List Oper) (hl : ∀ j : Nat, l[j]? = ops[j]?) :
    ∀ (br : Br) (n : Nat) (S : World → Prop) (listed : Array Bool) (a : Act) (w : World), brB md ops n br listed = true → S w → wpBr P ops l Q br S a w →
      ∀ i ∈ br.ids, wpOp P ops Q i (fun a' w' => S w' ∧ wpAnyH P md ops Q S n (listed.setIfInBounds i true) a' w') a w
  | .nil, n, S, listed, a, w, hb, hw, h, i, hi => by cases hi
  | .cons c p r, n, S, listed, a, w, hb, hw, h, i, hi => by
    unfold brB at hb
    unfold wpBr at h
    simp only [Bool.and_eq_true] at hb
    rcases List.mem_cons.1 hi with rfl | hi
    · refine wpOp_mono (fun a2 w2 ⟨S', hS1, hS2, hp⟩ => ⟨hS2 _ hS1, ?_⟩) h.1
      exact anyMono hS2 _ _ _ _ (plA hs hQ l hl p n S' _ a2 w2 hb.1 hS1 hp)
    · exact brA hs hQ l hl r n S listed a w hb.2 hw h.2 i hi
end
open Go.Sort Go.RowKit
end Go.Proofs.Ytgpdknacnmapiaa
namespace Go.Proofs.Ytgpdknacnmapiaa
set_option linter.unusedVariables false
set_option linter.unusedSimpArgs false
variable {P : Program} {md : Region.Mode} {ops : Array Oper} {Q : Exit → Act → World → Prop}
/-- the takes -/
theorem takesD {S : World → Prop} (hs : Region.noSelect ops = true) (hQ : ∀ (k : Nat) (o : Oper), ops[k]? = some o → ∀ c (a : Act) v w, Q (.panic c) (a.put o.dst v) w → Q (.panic c) a w) (K : Act → Prop) (w : World) (hw : S w) (fuel : Nat) :
    ∀ (fl : List Bool) (l : List Oper) (k : Nat) (listed l' : Array Bool) (a : Act), (∀ j, l[j]? = ops[k + j]?) → takeB md ops fl k listed = some l' → wpQuiet P ops S K (selF fl l) a →
      (∀ a', K a' → wpAnyH P md ops Q S fuel l' a' w) → wpAnyH P md ops Q S (fl.count true + fuel) listed a w
  | [], l, k, listed, l', a, hl, ht, hq, hK => by
    simp only [takeB, Option.some.injEq] at ht
    subst ht
    have : selF [] l = [] := by cases l <;> rfl
    rw [this] at hq
    simpa using hK a hq
  | false :: bs, [], k, listed, l', a, hl, ht, hq, hK => by
    have h0 : ops[k]? = none := by simpa using (hl 0).symm
    simp only [takeB] at ht
    have := takesD hs hQ K w hw fuel bs [] (k + 1) listed l' a (fun j => by
      have h1 : ops.size ≤ k := Array.getElem?_eq_none_iff.1 h0
      simp; omega) ht (by cases bs with | nil => exact hq | cons b bs => cases b <;> exact hq) hK
    simpa using this
  | false :: bs, o :: l, k, listed, l', a, hl, ht, hq, hK => by
    simp only [takeB] at ht
    have := takesD hs hQ K w hw fuel bs l (k + 1) listed l' a (fun j => by have := hl (j + 1); simpa [Nat.add_assoc, Nat.add_comm 1 j] using this) ht hq hK
    simpa using this
  | true :: bs, [], k, listed, l', a, hl, ht, hq, hK => by
    have h0 : ops[k]? = none := by simpa using (hl 0).symm
    simp [takeB, h0] at ht
  | true :: bs, o :: l, k, listed, l', a, hl, ht, hq, hK => by
    have h0 : ops[k]? = some o := by simpa using (hl 0).symm
    simp only [takeB, h0, Option.map_some, Option.getD_some] at ht
    split at ht
    · rename_i hc
      simp only [Bool.and_eq_true] at hc
      obtain ⟨⟨hf, hr⟩, hv⟩ := hc
      have ih := fun a' hq' => takesD hs hQ K w hw fuel bs l (k + 1) (listed.setIfInBounds k true) l' a' (fun j => by have := hl (j + 1); simpa [Nat.add_assoc, Nat.add_comm 1 j] using this) ht hq' hK
      have hq2 : ∃ v, YieldsIf P ops S o v a ∧ wpQuiet P ops S K (selF bs l) (a.put o.dst v) := by
        have hq1 : wpQuiet P ops S K (o :: selF bs l) a := hq
        unfold wpQuiet at hq1
        by_cases hwd : Region.wanted o (yielded ops a.tmps) = true
        · rw [if_pos hwd] at hq1
          obtain ⟨v, h1, h2⟩ := hq1
          refine ⟨v, .inl ⟨hwd, fun x hx => ?_⟩, h2⟩
          have h3 := h1 x hx
          unfold Oper.quietAt at h3
          cases hrun : (execOp a.eval o).run P x with
          | halt e x' => rw [hrun] at h3; simp only [Oper.quietUpon] at h3
          | ok n x' =>
            obtain ⟨u, rfl⟩ := val_only hv a.eval x hrun
            rw [hrun] at h3
            simp only [Oper.quietUpon] at h3
            rw [h3.1, h3.2]
        · rw [if_neg hwd] at hq1
          exact ⟨undef, .inr ⟨by simpa using hwd, rfl⟩, hq1⟩
      obtain ⟨v, hy, hq3⟩ := hq2
      have h5 := ih _ hq3
      rw [List.count_cons_self, show List.count true bs + 1 + fuel = (List.count true bs + fuel) + 1 by omega]
      exact wpAnyH_take h0 hs hf hr (fun c a w h => hQ k o h0 c a v w h) hy hw h5
    · cases ht
mutual
def wpPw (P : Program) (ops : Array Oper) (l : List Oper) (Q : Exit → Act → World → Prop) : Pl → (World → Prop) → Act → World → Prop
  | .last fl, S, a, w => wpQuiet P ops S (fun a' => Q .normal a' w) (selF fl l) a
  | .step fl br, S, a, w => wpQuiet P ops S (fun a' => wpBw P ops l Q br S a' w) (selF fl l) a
def wpBw (P : Program) (ops : Array Oper) (l : List Oper) (Q : Exit → Act → World → Prop) : Br → (World → Prop) → Act → World → Prop
  | .nil, _, _, _ => True
  | .cons c p r, S, a, w => wpOp P ops Q c (fun a2 w2 => ∃ S' : World → Prop, S' w2 ∧ (∀ x, S' x → S x) ∧ wpPw P ops l Q p S' a2 w2) a w ∧ wpBw P ops l Q r S a w
end
mutual
theorem pwD (hs : Region.noSelect ops = true) (hQ : ∀ (k : Nat) (o : Oper), ops[k]? = some o → ∀ c (a : Act) v w, Q (.panic c) (a.put o.dst v) w → Q (.panic c) a w) (l : List Oper) (hl : ∀ j : Nat, l[j]? = ops[j]?) :
    ∀ (p : Pl) (n : Nat) (S : World → Prop) (listed : Array Bool) (a : Act) (w : World), plB md ops n p listed = true → S w → wpPw P ops l Q p S a w → wpAnyH P md ops Q S n listed a w
  | .last fl, n, S, listed, a, w, hb, hw, h => by
    unfold plB at hb
    unfold wpPw at h
    cases ht : takeB md ops fl 0 listed with
    | none => rw [ht] at hb; cases hb
    | some l' =>
      rw [ht] at hb
      simp only [Bool.and_eq_true, decide_eq_true_eq] at hb
      rw [show n = fl.count true + (n - fl.count true) by omega]
      refine takesD hs hQ _ w hw _ fl l 0 listed l' a (fun j => by simpa using hl j) ht h (fun a' ha' => ?_)
      exact wpAnyH_done (by simpa using hb.1) ha' _
  | .step fl br, n, S, listed, a, w, hb, hw, h => by
    unfold plB at hb
    unfold wpPw at h
    cases ht : takeB md ops fl 0 listed with
    | none => rw [ht] at hb; cases hb
    | some l' =>
      rw [ht] at hb
      simp only [Bool.and_eq_true, decide_eq_true_eq, beq_iff_eq] at hb
      obtain ⟨⟨⟨h1, h4⟩, h2⟩, h3⟩ := hb
      rw [show n = fl.count true + ((n - fl.count true - 1) + 1) by omega]
      refine takesD (fuel := (n - fl.count true - 1) + 1) hs hQ _ w hw fl l 0 listed l' a (fun j => by simpa using hl j) ht h (fun a' ha' => ?_)
      exact wpAnyH_all h1 (by intro e; rw [e] at h4; cases h4) (fun i hi => bwD hs hQ l hl br (n - fl.count true - 1) S l' a' w h3 hw ha' i hi)
theorem bwD (hs : Region.noSelect ops = true) (hQ : ∀ (k : Nat) (o : Oper), ops[k]? = some o → ∀ c (a : Act) v w, Q (.panic c) (a.put o.dst v) w → Q (.panic c) a w) (l : List Oper) (hl : ∀ j : Nat, l[j]? = ops[j]?) :
    ∀ (br : Br) (n : Nat) (S : World → Prop) (listed : Array Bool) (a : Act) (w : World), brB md ops n br listed = true → S w → wpBw P ops l Q br S a w →
      ∀ i ∈ br.ids, wpOp P ops Q i (fun a' w' => S w' ∧ wpAnyH P md ops Q S n (listed.setIfInBounds i true) a' w') a w
  | .nil, n, S, listed, a, w, hb, hw, h, i, hi => by cases hi
  | .cons c p r, n, S, listed, a, w, hb, hw, h, i, hi => by
    unfold brB at hb
    unfold wpBw at h
    simp only [Bool.and_eq_true] at hb
    rcases List.mem_cons.1 hi with rfl | hi
    · refine wpOp_mono (fun a2 w2 ⟨S', hS1, hS2, hp⟩ => ⟨hS2 _ hS1, ?_⟩) h.1
      exact anyMono hS2 _ _ _ _ (pwD hs hQ l hl p n S' _ a2 w2 hb.1 hS1 hp)
    · exact bwD hs hQ l hl r n S listed a w hb.2 hw h.2 i hi
end
/-- A REGION THAT DRAWS ITS ORDER, BY A PLAN, AT THE VERY WORLD. -/
theorem wp_region_plw {id : Nat} {a : Act} {w : World} {l : List Oper} (p : Pl) (S : World → Prop) (hm : P.follows .mixedOrders = true) (hs : Region.noSelect l.toArray = true)
    (hb : plB .any l.toArray l.toArray.size p (Array.replicate l.toArray.size false) = true) (hQ : ∀ (k : Nat) (o : Oper), l.toArray[k]? = some o → ∀ c (a : Act) v w, Q (.panic c) (a.put o.dst v) w → Q (.panic c) a w) (hS : S w.drew)
    (h : wpPw P l.toArray l Q p S a w.drew) : (Code.region id l.toArray true).wp P Q a w :=
  wp_region_held (S := S) hm (pwD (md := .any) hs hQ l (by simp) p l.toArray.size S _ a w.drew hb hS h)
end Go.Proofs.Ytgpdknacnmapiaa
