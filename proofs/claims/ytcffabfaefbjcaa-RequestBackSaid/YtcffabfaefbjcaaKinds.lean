/-
  What request.fields answers: a kind's fields (chapter 08): the walk.
-/
import Derived.Test.YtcffabfaefbjcaaFields
namespace Go.Proofs.Ytcffabfaefbjcaa
set_option linter.unusedVariables false
open Go.RowKit Go.Maps
/-- a kind's fields, by their numbers -/
def fieldsOf (k : Int) : List Nat := if k = 1 then [0, 1] else if k = 2 then [0, 1, 2] else if k = 3 then [0] else if k = 4 then [0] else if k = 5 then [3, 4, 5] else if k = 6 then [1] else []
/-- is it a kind? -/
def isKind (k : Int) : Bool := decide (0 ≤ k ∧ k ≤ 9)
/-- the slice v of w' has these fields; it lies in blocks from B on -/
def Fs (w' : World) (B : Nat) (v : Value) (l : List Nat) : Prop :=
  (l = [] ∧ v = .slice none 0 0) ∨ ∃ b, B ≤ b ∧ v = .slice (some ⟨b, 0, none⟩) l.length l.length ∧ w'.heap[b]? = some (.cells (l.map fun n : Nat => Value.int .i64 (n : Int)).toArray 3)
def FieldsPost (k : Int) (w : World) (e : Ending) (w' : World) : Prop :=
  ∃ v, e = .returned (.tuple #[v, .bool (isKind k)]) ∧ Fs w' w.heap.size v (fieldsOf k) ∧ Below w.heap.size w w'
def kk (n : Int) : Lit := .int .i8 n
theorem kk_key (n : Int) : WideAt.IsKeyLit (kk n) := by simp [kk, WideAt.IsKeyLit]
theorem kk_ne {m n : Int} (h : m ≠ n) : kk m ≠ kk n := fun e => h (by cases e; rfl)
def Dm (v1 v2 v3 v4 v5 v6 : Value) : DataW Value :=
  ((((((((((DataW.map []).put (kk 0) (.held (.slice none 0 0))).put (kk 1) (.held v1)).put (kk 2) (.held v2)).put (kk 3) (.held v3)).put (kk 4) (.held v4)).put (kk 5) (.held v5)).put (kk 6) (.held v6)).put (kk 7) (.held (.slice none 0 0))).put (kk 8) (.held (.slice none 0 0))).put (kk 9) (.held (.slice none 0 0))
theorem zero29 (w : World) : (zeroValue 29).run Try.prog w = .ok (.slice none 0 0) w := by kernel_rfl
/-- what a kind finds -/
theorem Dm_at (v1 v2 v3 v4 v5 v6 : Value) (k : Int) :
    (Dm v1 v2 v3 v4 v5 v6).atKey (kk k) (.held (.slice none 0 0)) = .held (if k = 1 then v1 else if k = 2 then v2 else if k = 3 then v3 else if k = 4 then v4 else if k = 5 then v5 else if k = 6 then v6 else .slice none 0 0) ∧
    Maps.has (Dm v1 v2 v3 v4 v5 v6) (kk k) = isKind k := by
  have step : ∀ (D : DataW Value), IsMap D → ∀ (n : Int) (d z : DataW Value), (D.put (kk n) d).atKey (kk k) z = (if k = n then d else D.atKey (kk k) z) ∧ Maps.has (D.put (kk n) d) (kk k) = (decide (k = n) || Maps.has D (kk k)) := by
    intro D hD n d z
    by_cases h : k = n
    · subst h
      rw [atKey_put_same hD (kk_key _), has_put_same hD (kk_key _)]
      simp
    · rw [atKey_put_other (kk_ne h), has_put_other (kk_ne h), if_neg h]
      simp [h]
  have m0 : IsMap (DataW.map [] : DataW Value) := isMap_empty
  unfold Dm
  have m1 := m0.put (kk 0) (.held (Value.slice none 0 0))
  have m2 := m1.put (kk 1) (.held v1)
  have m3 := m2.put (kk 2) (.held v2)
  have m4 := m3.put (kk 3) (.held v3)
  have m5 := m4.put (kk 4) (.held v4)
  have m6 := m5.put (kk 5) (.held v5)
  have m7 := m6.put (kk 6) (.held v6)
  have m8 := m7.put (kk 7) (.held (Value.slice none 0 0))
  have m9 := m8.put (kk 8) (.held (Value.slice none 0 0))
  constructor
  · rw [(step _ m9 _ _ _).1, (step _ m8 _ _ _).1, (step _ m7 _ _ _).1, (step _ m6 _ _ _).1, (step _ m5 _ _ _).1, (step _ m4 _ _ _).1, (step _ m3 _ _ _).1, (step _ m2 _ _ _).1, (step _ m1 _ _ _).1, (step _ m0 _ _ _).1]
    have e : (DataW.map [] : DataW Value).atKey (kk k) (.held (.slice none 0 0)) = .held (.slice none 0 0) := rfl
    rw [e]
    by_cases h1 : k = 1
    · subst h1; simp
    by_cases h2 : k = 2
    · subst h2; simp
    by_cases h3 : k = 3
    · subst h3; simp
    by_cases h4 : k = 4
    · subst h4; simp
    by_cases h5 : k = 5
    · subst h5; simp
    by_cases h6 : k = 6
    · subst h6; simp
    simp [h1, h2, h3, h4, h5, h6]
  · rw [(step _ m9 _ _ (.held (.slice none 0 0))).2, (step _ m8 _ _ (.held (.slice none 0 0))).2, (step _ m7 _ _ (.held (.slice none 0 0))).2, (step _ m6 _ _ (.held (.slice none 0 0))).2, (step _ m5 _ _ (.held (.slice none 0 0))).2, (step _ m4 _ _ (.held (.slice none 0 0))).2, (step _ m3 _ _ (.held (.slice none 0 0))).2, (step _ m2 _ _ (.held (.slice none 0 0))).2, (step _ m1 _ _ (.held (.slice none 0 0))).2, (step _ m0 _ _ (.held (.slice none 0 0))).2]
    have e : Maps.has (DataW.map [] : DataW Value) (kk k) = false := rfl
    rw [e]
    unfold isKind
    rw [Bool.eq_iff_iff]
    simp
    omega
theorem fs_of {w' : World} {B : Nat} (k : Int) (v : Value) (b1 b2 b3 b4 b5 b6 : Nat) (hv : v = (if k = 1 then .slice (some ⟨b1, 0, none⟩) 2 2 else if k = 2 then .slice (some ⟨b2, 0, none⟩) 3 3 else if k = 3 then .slice (some ⟨b3, 0, none⟩) 1 1 else if k = 4 then .slice (some ⟨b4, 0, none⟩) 1 1 else if k = 5 then .slice (some ⟨b5, 0, none⟩) 3 3 else if k = 6 then .slice (some ⟨b6, 0, none⟩) 1 1 else .slice none 0 0))
    (r1 : B ≤ b1 ∧ w'.heap[b1]? = some (.cells #[.int .i64 0, .int .i64 1] 3)) (r2 : B ≤ b2 ∧ w'.heap[b2]? = some (.cells #[.int .i64 0, .int .i64 1, .int .i64 2] 3)) (r3 : B ≤ b3 ∧ w'.heap[b3]? = some (.cells #[.int .i64 0] 3))
    (r4 : B ≤ b4 ∧ w'.heap[b4]? = some (.cells #[.int .i64 0] 3)) (r5 : B ≤ b5 ∧ w'.heap[b5]? = some (.cells #[.int .i64 3, .int .i64 4, .int .i64 5] 3)) (r6 : B ≤ b6 ∧ w'.heap[b6]? = some (.cells #[.int .i64 1] 3)) : Fs w' B v (fieldsOf k) := by
  subst hv
  unfold fieldsOf
  split
  · exact .inr ⟨b1, r1.1, rfl, r1.2⟩
  split
  · exact .inr ⟨b2, r2.1, rfl, r2.2⟩
  split
  · exact .inr ⟨b3, r3.1, rfl, r3.2⟩
  split
  · exact .inr ⟨b4, r4.1, rfl, r4.2⟩
  split
  · exact .inr ⟨b5, r5.1, rfl, r5.2⟩
  split
  · exact .inr ⟨b6, r6.1, rfl, r6.2⟩
  · exact .inl ⟨rfl, rfl⟩
set_option maxHeartbeats 1000000 in
theorem fields_any (k : Int) (hk : (Lit.int .i8 k).wf = true) (w : World) : Calls Try.prog 44 #[.int .i8 k] w (FieldsPost k w) := by
  have hmm := @run_makeMap Try.prog
  have HK := Lib.hid hk
  clear hk
  have HF := Fld.start w
  go_enter Try.func44, Try.ntmps44
  go_wp2_with (first
    | (refine wp_insert _ rfl (.tmp 7) (.const (.int .i8 0)) (.const (.slice none 0 0)) 81 rfl 32 29 law32 Try.underlying81 w.heap.size _ _ rfl HF.own (by unfold maxLen; decide) (.int .i8 0) (.slice none 0 0) (kk 0) rfl rfl (keyOf_int_mk Try.underlying32 (by decide)) ?_; intro w0 o1 g1; replace HF := HF.insert o1 g1; clear o1 g1)
    | (refine wp_insert _ rfl (.tmp 7) (.const (.int .i8 1)) (.tmp 8) 81 rfl 32 29 law32 Try.underlying81 w.heap.size _ _ rfl (HF.build #[.int .i64 0, .int .i64 1]).own (by unfold maxLen; decide) (.int .i8 1) (.slice (some ⟨w0.heap.size, 0, none⟩) 2 2) (kk 1) rfl rfl (keyOf_int_mk Try.underlying32 (by decide)) ?_; intro w1 o1 g1; replace HF := (HF.build #[.int .i64 0, .int .i64 1]).insert o1 g1; clear o1 g1)
    | (refine wp_insert _ rfl (.tmp 7) (.const (.int .i8 2)) (.tmp 9) 81 rfl 32 29 law32 Try.underlying81 w.heap.size _ _ rfl (HF.build #[.int .i64 0, .int .i64 1, .int .i64 2]).own (by unfold maxLen; decide) (.int .i8 2) (.slice (some ⟨w1.heap.size, 0, none⟩) 3 3) (kk 2) rfl rfl (keyOf_int_mk Try.underlying32 (by decide)) ?_; intro w2 o1 g1; replace HF := (HF.build #[.int .i64 0, .int .i64 1, .int .i64 2]).insert o1 g1; clear o1 g1)
    | (refine wp_insert _ rfl (.tmp 7) (.const (.int .i8 3)) (.tmp 10) 81 rfl 32 29 law32 Try.underlying81 w.heap.size _ _ rfl (HF.build #[.int .i64 0]).own (by unfold maxLen; decide) (.int .i8 3) (.slice (some ⟨w2.heap.size, 0, none⟩) 1 1) (kk 3) rfl rfl (keyOf_int_mk Try.underlying32 (by decide)) ?_; intro w3 o1 g1; replace HF := (HF.build #[.int .i64 0]).insert o1 g1; clear o1 g1)
    | (refine wp_insert _ rfl (.tmp 7) (.const (.int .i8 4)) (.tmp 11) 81 rfl 32 29 law32 Try.underlying81 w.heap.size _ _ rfl (HF.build #[.int .i64 0]).own (by unfold maxLen; decide) (.int .i8 4) (.slice (some ⟨w3.heap.size, 0, none⟩) 1 1) (kk 4) rfl rfl (keyOf_int_mk Try.underlying32 (by decide)) ?_; intro w4 o1 g1; replace HF := (HF.build #[.int .i64 0]).insert o1 g1; clear o1 g1)
    | (refine wp_insert _ rfl (.tmp 7) (.const (.int .i8 5)) (.tmp 12) 81 rfl 32 29 law32 Try.underlying81 w.heap.size _ _ rfl (HF.build #[.int .i64 3, .int .i64 4, .int .i64 5]).own (by unfold maxLen; decide) (.int .i8 5) (.slice (some ⟨w4.heap.size, 0, none⟩) 3 3) (kk 5) rfl rfl (keyOf_int_mk Try.underlying32 (by decide)) ?_; intro w5 o1 g1; replace HF := (HF.build #[.int .i64 3, .int .i64 4, .int .i64 5]).insert o1 g1; clear o1 g1)
    | (refine wp_insert _ rfl (.tmp 7) (.const (.int .i8 6)) (.tmp 13) 81 rfl 32 29 law32 Try.underlying81 w.heap.size _ _ rfl (HF.build #[.int .i64 1]).own (by unfold maxLen; decide) (.int .i8 6) (.slice (some ⟨w5.heap.size, 0, none⟩) 1 1) (kk 6) rfl rfl (keyOf_int_mk Try.underlying32 (by decide)) ?_; intro w6 o1 g1; replace HF := (HF.build #[.int .i64 1]).insert o1 g1; clear o1 g1)
    | (refine wp_insert _ rfl (.tmp 7) (.const (.int .i8 7)) (.const (.slice none 0 0)) 81 rfl 32 29 law32 Try.underlying81 w.heap.size _ _ rfl HF.own (by unfold maxLen; decide) (.int .i8 7) (.slice none 0 0) (kk 7) rfl rfl (keyOf_int_mk Try.underlying32 (by decide)) ?_; intro w7 o1 g1; replace HF := HF.insert o1 g1; clear o1 g1)
    | (refine wp_insert _ rfl (.tmp 7) (.const (.int .i8 8)) (.const (.slice none 0 0)) 81 rfl 32 29 law32 Try.underlying81 w.heap.size _ _ rfl HF.own (by unfold maxLen; decide) (.int .i8 8) (.slice none 0 0) (kk 8) rfl rfl (keyOf_int_mk Try.underlying32 (by decide)) ?_; intro w8 o1 g1; replace HF := HF.insert o1 g1; clear o1 g1)
    | (refine wp_insert _ rfl (.tmp 7) (.const (.int .i8 9)) (.const (.slice none 0 0)) 81 rfl 32 29 law32 Try.underlying81 w.heap.size _ _ rfl HF.own (by unfold maxLen; decide) (.int .i8 9) (.slice none 0 0) (kk 9) rfl rfl (keyOf_int_mk Try.underlying32 (by decide)) ?_; intro w9 o1 g1; replace HF := HF.insert o1 g1; clear o1 g1)
    | (have HG : World.ownsMap w9 Try.prog 32 rdSelf w.heap.size 10 (Dm (.slice (some ⟨w0.heap.size, 0, none⟩) 2 2) (.slice (some ⟨w1.heap.size, 0, none⟩) 3 3) (.slice (some ⟨w2.heap.size, 0, none⟩) 1 1) (.slice (some ⟨w3.heap.size, 0, none⟩) 1 1) (.slice (some ⟨w4.heap.size, 0, none⟩) 3 3) (.slice (some ⟨w5.heap.size, 0, none⟩) 1 1)) := (by unfold Dm; exact HF.own); refine wpList_lookup_own_ok _ rfl (.tmp 14) (.tmp 15) 81 rfl 32 29 law32 Try.underlying81 rdSelf (zero29 _) (.held (.slice none 0 0)) [] rfl w.heap.size 10 (Dm (.slice (some ⟨w0.heap.size, 0, none⟩) 2 2) (.slice (some ⟨w1.heap.size, 0, none⟩) 3 3) (.slice (some ⟨w2.heap.size, 0, none⟩) 1 1) (.slice (some ⟨w3.heap.size, 0, none⟩) 1 1) (.slice (some ⟨w4.heap.size, 0, none⟩) 3 3) (.slice (some ⟨w5.heap.size, 0, none⟩) 1 1)) rfl HG (.int .i8 k) (kk k) rfl (keyOf_int_mk Try.underlying32 HK.out) ?_; intro v ps hv; have HV := Lib.hid hv; clear hv; rw [(Dm_at (.slice (some ⟨w0.heap.size, 0, none⟩) 2 2) (.slice (some ⟨w1.heap.size, 0, none⟩) 3 3) (.slice (some ⟨w2.heap.size, 0, none⟩) 1 1) (.slice (some ⟨w3.heap.size, 0, none⟩) 1 1) (.slice (some ⟨w4.heap.size, 0, none⟩) 3 3) (.slice (some ⟨w5.heap.size, 0, none⟩) 1 1) k).2]))
  go_ret2
  have hv := HV.out
  rw [(Dm_at (.slice (some ⟨w0.heap.size, 0, none⟩) 2 2) (.slice (some ⟨w1.heap.size, 0, none⟩) 3 3) (.slice (some ⟨w2.heap.size, 0, none⟩) 1 1) (.slice (some ⟨w3.heap.size, 0, none⟩) 1 1) (.slice (some ⟨w4.heap.size, 0, none⟩) 3 3) (.slice (some ⟨w5.heap.size, 0, none⟩) 1 1) k).1] at hv
  simp only [rdSelf, Option.some.injEq, Prod.mk.injEq, DataW.held.injEq] at hv
  refine ⟨v, rfl, ?_, HF.below⟩
  have r1 := HF.rows (w0.heap.size, #[.int .i64 0, .int .i64 1]) (by simp)
  have r2 := HF.rows (w1.heap.size, #[.int .i64 0, .int .i64 1, .int .i64 2]) (by simp)
  have r3 := HF.rows (w2.heap.size, #[.int .i64 0]) (by simp)
  have r4 := HF.rows (w3.heap.size, #[.int .i64 0]) (by simp)
  have r5 := HF.rows (w4.heap.size, #[.int .i64 3, .int .i64 4, .int .i64 5]) (by simp)
  have r6 := HF.rows (w5.heap.size, #[.int .i64 1]) (by simp)
  exact fs_of k v _ _ _ _ _ _ hv.1 r1.2 r2.2 r3.2 r4.2 r5.2 r6.2
end Go.Proofs.Ytcffabfaefbjcaa
