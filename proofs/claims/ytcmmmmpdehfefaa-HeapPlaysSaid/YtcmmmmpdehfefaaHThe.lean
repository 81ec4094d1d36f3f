/-
  Plain: a row stays a heap (chapter 15).
-/
import Derived.Test.YtcmmmmpdehfefaaHKeep
namespace Go.Proofs.Ytcmmmmpdehfefaa
set_option linter.unusedVariables false
set_option linter.unusedSimpArgs false
theorem lessB_iff (a b : Pr) : lessB a b = true ↔ a.n < b.n ∨ (a.n = b.n ∧ a.c < b.c) := by unfold lessB; simp
theorem lessB_no (a b : Pr) : lessB a b = false ↔ ¬ (a.n < b.n ∨ (a.n = b.n ∧ a.c < b.c)) := by rw [← lessB_iff, Bool.not_eq_true]
theorem less_asym {a b : Pr} (h : lessB a b = true) : lessB b a = false := by rw [lessB_iff] at h; rw [lessB_no]; omega
theorem less_ntrans {a b c : Pr} (h : lessB a b = false) (k : lessB b c = false) : lessB a c = false := by rw [lessB_no] at *; omega
theorem less_under {a b c : Pr} (h : lessB a b = false) (k : lessB c b = true) : lessB a c = false := by rw [lessB_no] at *; rw [lessB_iff] at k; omega
/-- the first m places are a heap, but for those that R tells -/
def Hx (R : Nat → Prop) (L : List Pr) (m : Nat) : Prop := ∀ (k : Nat) (p q : Pr), 0 < k → k < m → ¬ R k → L[k]? = some p → L[(k - 1) / 2]? = some q → lessB p q = false
def IsHeap (L : List Pr) : Prop := Hx (fun _ => False) L L.length
/-- i's children are not ahead of i's parent -/
def Kids (L : List Pr) (m i : Nat) : Prop := ∀ (k : Nat) (p q : Pr), 0 < k → k < m → (k - 1) / 2 = i → 0 < i → L[k]? = some p → L[(i - 1) / 2]? = some q → lessB p q = false
theorem swap_get {L : List Pr} {i j : Nat} {p q : Pr} (hi : L[i]? = some p) (hj : L[j]? = some q) (k : Nat) : (swapL L i j p q)[k]? = if k = j then some p else if k = i then some q else L[k]? := by
  have h1 := (List.getElem?_eq_some_iff.1 hi).1
  have h2 := (List.getElem?_eq_some_iff.1 hj).1
  unfold swapL
  by_cases e : k = j
  · subst e; rw [if_pos rfl, List.getElem?_set_self (by rw [List.length_set]; exact h2)]
  · rw [if_neg e, List.getElem?_set_ne (Ne.symm e)]
    by_cases e2 : k = i
    · subst e2; rw [if_pos rfl, List.getElem?_set_self h1]
    · rw [if_neg e2, List.getElem?_set_ne (Ne.symm e2)]
theorem child_kid {L : List Pr} {i m j : Nat} {q : Pr} (h : child L i m = some (j, q)) : L[j]? = some q ∧ j < m ∧ 0 < j ∧ (j - 1) / 2 = i ∧ i < j ∧
    ∀ (k : Nat) (r : Pr), 0 < k → k < m → (k - 1) / 2 = i → k ≠ j → L[k]? = some r → lessB r q = false := by
  unfold child at h
  split at h
  · cases h
  · rename_i hm
    split at h
    · cases h
    · rename_i q1 hq1
      split at h
      · rename_i h2
        split at h
        · rename_i hn
          cases h
          refine ⟨hq1, by omega, by omega, by omega, by omega, fun k r h0 hk hp hne hr => ?_⟩
          have : k = 2 * i + 1 + 1 := by omega
          subst this
          rw [hn] at hr; cases hr
        · rename_i q2 hq2
          split at h
          · rename_i hl
            cases h
            refine ⟨hq2, by omega, by omega, by omega, by omega, fun k r h0 hk hp hne hr => ?_⟩
            have : k = 2 * i + 1 := by omega
            subst this
            rw [hq1] at hr; cases hr
            exact less_asym hl
          · rename_i hl
            cases h
            refine ⟨hq1, by omega, by omega, by omega, by omega, fun k r h0 hk hp hne hr => ?_⟩
            have : k = 2 * i + 1 + 1 := by omega
            subst this
            rw [hq2] at hr; cases hr
            simpa using hl
      · cases h
        exact ⟨hq1, by omega, by omega, by omega, by omega, fun k r h0 hk hp hne hr => by omega⟩
theorem child_no {L : List Pr} {i m : Nat} (hm : m ≤ L.length) (h : child L i m = none) : ∀ k, 0 < k → k < m → (k - 1) / 2 ≠ i := by
  intro k h0 hk e
  unfold child at h
  split at h
  · omega
  · rename_i hm2
    split at h
    · rename_i hn
      have := List.getElem?_eq_none_iff.1 hn
      omega
    · split at h
      · split at h
        · cases h
        · split at h <;> cases h
      · cases h
/-- i, and i's children -/
def At (i k : Nat) : Prop := k = i ∨ (k - 1) / 2 = i
theorem down_step {L : List Pr} {m i j : Nat} {p q : Pr} (ha : Hx (At i) L m) (hb : Kids L m i) (hp : L[i]? = some p) (hc : child L i m = some (j, q)) (hl : lessB q p = true) :
    Hx (fun k => (k - 1) / 2 = j) (swapL L i j p q) m ∧ Kids (swapL L i j p q) m j := by
  obtain ⟨hq, hjm, hj0, hjp, hij, hoth⟩ := child_kid hc
  have hg := swap_get hp hq
  constructor
  · intro k a b h0 hk hn h1 h2
    rw [hg] at h1 h2
    by_cases e : k = j
    · subst e
      rw [if_pos rfl] at h1
      rw [hjp, if_neg (by omega), if_pos rfl] at h2
      cases h1; cases h2
      exact less_asym hl
    · rw [if_neg e] at h1
      rw [if_neg hn] at h2
      by_cases e2 : k = i
      · subst e2
        rw [if_pos rfl] at h1
        rw [if_neg (by omega)] at h2
        cases h1
        exact hb j q b hj0 hjm hjp h0 hq h2
      · rw [if_neg e2] at h1
        by_cases e3 : (k - 1) / 2 = i
        · rw [if_pos e3] at h2
          cases h2
          exact hoth k a h0 hk e3 e h1
        · rw [if_neg e3] at h2
          exact ha k a b h0 hk (by unfold At; omega) h1 h2
  · intro k a b h0 hk hkj _ h1 h2
    rw [hg, if_neg (by omega), if_neg (by omega)] at h1
    rw [hg, hjp, if_neg (by omega), if_pos rfl] at h2
    cases h2
    exact ha k a q h0 hk (by unfold At; omega) h1 (by rw [hkj]; exact hq)
/-- what down leaves where it moves nothing -/
theorem down_stop {L : List Pr} {m i : Nat} {p : Pr} (hm : m ≤ L.length) (hp : L[i]? = some p) (hs : ∀ j q, child L i m = some (j, q) → lessB q p = false) :
    ∀ (k : Nat) (a : Pr), 0 < k → k < m → (k - 1) / 2 = i → L[k]? = some a → lessB a p = false := by
  intro k a h0 hk e h1
  cases hc : child L i m with
  | none => exact absurd e (child_no hm hc k h0 hk)
  | some jq =>
    obtain ⟨j, q⟩ := jq
    obtain ⟨hq, _, _, _, _, hoth⟩ := child_kid hc
    by_cases ej : k = j
    · subst ej; rw [hq] at h1; cases h1; exact hs _ _ hc
    · exact less_ntrans (hoth k a h0 hk e ej h1) (hs _ _ hc)
/-- down from a place that is not ahead of its parent -/
theorem down_heap : ∀ (f : Nat) (L : List Pr) (i m : Nat), m ≤ L.length → m ≤ i + f → i < L.length → Hx (fun k => (k - 1) / 2 = i) L m → Kids L m i → Hx (fun _ => False) (downL f L i m).1 m
  | 0, L, i, m, hm, hf, hi, ha, hb => by
    intro k p q h0 hk _ h1 h2
    exact ha k p q h0 hk (by omega) h1 h2
  | f + 1, L, i, m, hm, hf, hi, ha, hb => by
    obtain ⟨p, hp⟩ : ∃ p, L[i]? = some p := ⟨L[i], List.getElem?_eq_getElem hi⟩
    have stay : (∀ j q, child L i m = some (j, q) → lessB q p = false) → Hx (fun _ => False) L m := by
      intro hs k a b h0 hk _ h1 h2
      by_cases e : (k - 1) / 2 = i
      · rw [e, hp] at h2; cases h2
        exact down_stop hm hp hs k a h0 hk e h1
      · exact ha k a b h0 hk e h1 h2
    unfold downL
    rw [hp]
    cases hc : child L i m with
    | none => exact stay fun j q h => by rw [hc] at h; cases h
    | some jq =>
      obtain ⟨j, q⟩ := jq
      dsimp only
      split
      · rename_i hl
        obtain ⟨hq, hjm, hj0, hjp, hij, _⟩ := child_kid hc
        obtain ⟨s1, s2⟩ := down_step (fun k a b h0 hk hn => ha k a b h0 hk (fun e => hn (.inr e))) hb hp hc hl
        exact down_heap f _ j m (by rw [swapL_length]; exact hm) (by omega) (by rw [swapL_length]; omega) s1 s2
      · rename_i hl
        exact stay fun j' q' h => by rw [hc] at h; cases h; simpa using hl
theorem down_ge : ∀ (f : Nat) (L : List Pr) (i m : Nat), i ≤ (downL f L i m).2
  | 0, L, i, m => Nat.le_refl _
  | f + 1, L, i, m => by
    unfold downL
    split
    · rename_i p j q h1 h2
      split
      · have := (child_kid h2).2.2.2.2.1
        exact Nat.le_trans (by omega) (down_ge f _ j m)
      · exact Nat.le_refl _
    · exact Nat.le_refl _
/-- all but the pair of i and its parent -/
theorem down_any_heap (f : Nat) (L : List Pr) (i m : Nat) (hm : m ≤ L.length) (hf : m ≤ i + f) (hi : i < L.length) (ha : Hx (At i) L m) (hb : Kids L m i) :
    (i < (downL f L i m).2 ∧ Hx (fun _ => False) (downL f L i m).1 m) ∨ (¬ i < (downL f L i m).2 ∧ (downL f L i m).1 = L ∧ Hx (fun k => k = i) L m) := by
  obtain ⟨p, hp⟩ : ∃ p, L[i]? = some p := ⟨L[i], List.getElem?_eq_getElem hi⟩
  have stay : (∀ j q, child L i m = some (j, q) → lessB q p = false) → Hx (fun k => k = i) L m := by
    intro hs k a b h0 hk hn h1 h2
    by_cases e : (k - 1) / 2 = i
    · rw [e, hp] at h2; cases h2
      exact down_stop hm hp hs k a h0 hk e h1
    · exact ha k a b h0 hk (by unfold At; omega) h1 h2
  cases f with
  | zero =>
    refine .inr ⟨Nat.lt_irrefl _, rfl, ?_⟩
    intro k a b h0 hk hn h1 h2
    exact ha k a b h0 hk (by unfold At; omega) h1 h2
  | succ f =>
    unfold downL
    rw [hp]
    cases hc : child L i m with
    | none => exact .inr ⟨Nat.lt_irrefl _, rfl, stay fun j q h => by rw [hc] at h; cases h⟩
    | some jq =>
      obtain ⟨j, q⟩ := jq
      dsimp only
      by_cases hl : lessB q p = true
      · rw [if_pos hl]
        obtain ⟨hq, hjm, hj0, hjp, hij, _⟩ := child_kid hc
        obtain ⟨s1, s2⟩ := down_step ha hb hp hc hl
        exact .inl ⟨Nat.lt_of_lt_of_le hij (down_ge f _ j m), down_heap f _ j m (by rw [swapL_length]; exact hm) (by omega) (by rw [swapL_length]; omega) s1 s2⟩
      · rw [if_neg hl]
        exact .inr ⟨Nat.lt_irrefl _, rfl, stay fun j' q' h => by rw [hc] at h; cases h; simpa using hl⟩
theorem up_heap : ∀ (f : Nat) (L : List Pr) (i m : Nat), i ≤ f → i < L.length → i < m → Hx (fun k => k = i) L m → Kids L m i → Hx (fun _ => False) (upL f L i) m
  | 0, L, i, m, hf, hi, him, ha, hb => by
    intro k p q h0 hk _ h1 h2
    exact ha k p q h0 hk (by omega) h1 h2
  | f + 1, L, i, m, hf, hi, him, ha, hb => by
    unfold upL
    by_cases h0 : i = 0
    · rw [if_pos h0]
      intro k p q hk0 hk _ h1 h2
      exact ha k p q hk0 hk (by omega) h1 h2
    · rw [if_neg h0]
      obtain ⟨p, hp⟩ : ∃ p, L[i]? = some p := ⟨L[i], List.getElem?_eq_getElem hi⟩
      obtain ⟨j, hj⟩ : ∃ j, (i - 1) / 2 = j := ⟨_, rfl⟩
      have hji : j < i := by omega
      obtain ⟨q, hq⟩ : ∃ q, L[j]? = some q := ⟨L[j], List.getElem?_eq_getElem (by omega)⟩
      rw [hj, hp, hq]
      dsimp only
      split
      · rename_i hl
        have hg := swap_get hq hp
        refine up_heap f _ j m (by omega) (by rw [swapL_length]; omega) (by omega) ?_ ?_
        · intro k a b hk0 hk hn h1 h2
          rw [hg] at h1 h2
          by_cases e : k = i
          · subst e
            rw [if_pos rfl] at h1
            rw [hj, if_neg (by omega), if_pos rfl] at h2
            cases h1; cases h2
            exact less_asym hl
          · rw [if_neg e, if_neg hn] at h1
            by_cases e2 : (k - 1) / 2 = i
            · rw [if_pos e2] at h2
              cases h2
              exact hb k a q hk0 hk e2 (by omega) h1 (by rw [hj]; exact hq)
            · rw [if_neg e2] at h2
              by_cases e3 : (k - 1) / 2 = j
              · rw [if_pos e3] at h2
                cases h2
                exact less_under (ha k a q hk0 hk e h1 (by rw [e3]; exact hq)) hl
              · rw [if_neg e3] at h2
                exact ha k a b hk0 hk e h1 h2
        · intro k a b hk0 hk hkj hj0 h1 h2
          rw [hg] at h1 h2
          rw [if_neg (by omega), if_neg (by omega)] at h2
          have hqb : lessB q b = false := ha j q b hj0 (by omega) (by omega) hq h2
          by_cases e : k = i
          · subst e
            rw [if_pos rfl] at h1
            cases h1
            exact hqb
          · rw [if_neg e, if_neg (by omega)] at h1
            exact less_ntrans (ha k a q hk0 hk e h1 (by rw [hkj]; exact hq)) hqb
      · rename_i hl
        intro k a b hk0 hk _ h1 h2
        by_cases e : k = i
        · subst e
          rw [hp] at h1
          rw [hj, hq] at h2
          cases h1; cases h2
          simpa using hl
        · exact ha k a b hk0 hk e h1 h2
/-- down, and up where that moved nothing -/
theorem mend (f : Nat) (L : List Pr) (i m : Nat) (hm : m ≤ L.length) (hf : m ≤ i + f) (hi : i < m) (ha : Hx (At i) L m) (hb : Kids L m i) :
    Hx (fun _ => False) (if i < (downL f L i m).2 then (downL f L i m).1 else upL i (downL f L i m).1 i) m := by
  rcases down_any_heap f L i m hm hf (by omega) ha hb with ⟨h1, h2⟩ | ⟨h1, h2, h3⟩
  · rw [if_pos h1]; exact h2
  · rw [if_neg h1, h2]
    exact up_heap i L i m (Nat.le_refl _) (by omega) hi h3 hb
theorem Keeps.heap : Keeps IsHeap where
  nil := by intro k p q h0 hk; simp at hk
  push L p h := by
    unfold IsHeap
    have hl : (pushL L p).length = L.length + 1 := by rw [(pushL_perm L p).length_eq]; rfl
    rw [hl]
    refine up_heap L.length (L ++ [p]) L.length (L.length + 1) (Nat.le_refl _) (by simp) (by omega) ?_ ?_
    · intro k a b h0 hk hn h1 h2
      rw [List.getElem?_append_left (by omega)] at h1 h2
      exact h k a b h0 (by omega) (fun h => h) h1 h2
    · intro k a b h0 hk hp; omega
  fix L i p x hi h := by
    have hil := (List.getElem?_eq_some_iff.1 hi).1
    unfold IsHeap
    rw [fixL_length, List.length_set]
    unfold fixL
    have hg : ∀ k, k ≠ i → (L.set i ⟨p.pb, x, p.c⟩)[k]? = L[k]? := fun k hk => List.getElem?_set_ne (Ne.symm hk)
    rw [show (L.set i (⟨p.pb, x, p.c⟩ : Pr)).length = L.length from List.length_set ..]
    refine mend L.length _ i L.length (by rw [List.length_set]; exact Nat.le_refl _) (by omega) hil ?_ ?_
    · intro k a b h0 hk hn h1 h2
      unfold At at hn
      rw [hg k (by omega)] at h1
      rw [hg _ (by omega)] at h2
      exact h k a b h0 hk (fun h => h) h1 h2
    · intro k a b h0 hk hp hi0 h1 h2
      rw [hg k (by omega)] at h1
      rw [hg _ (by omega)] at h2
      exact less_ntrans (h k a p h0 hk (fun h => h) h1 (by rw [hp]; exact hi)) (h i p b hi0 hil (fun h => h) hi h2)
  bring L M i m p hm hi hx h := by
    have hil := (List.getElem?_eq_some_iff.1 hi).1
    have hml : M.length = m := by
      have := congrArg List.length hx
      rw [(bringL_perm m L i).length_eq, hm] at this
      simp at this; omega
    have key : Hx (fun _ => False) (bringL m L i) m := by
      unfold bringL
      split
      · intro k a b h0 hk hn h1 h2
        exact h k a b h0 (by omega) hn h1 h2
      · rename_i hne
        obtain ⟨q, hq⟩ : ∃ q, L[m]? = some q := ⟨L[m]'(by omega), List.getElem?_eq_getElem _⟩
        rw [hi, hq]
        have hg := swap_get hi hq
        refine mend m _ i m (by rw [swapL_length]; omega) (by omega) (by omega) ?_ ?_
        · intro k a b h0 hk hn h1 h2
          unfold At at hn
          rw [hg, if_neg (by omega), if_neg (by omega)] at h1
          rw [hg, if_neg (by omega), if_neg (by omega)] at h2
          exact h k a b h0 (by omega) (fun h => h) h1 h2
        · intro k a b h0 hk hp hi0 h1 h2
          rw [hg, if_neg (by omega), if_neg (by omega)] at h1
          rw [hg, if_neg (by omega), if_neg (by omega)] at h2
          exact less_ntrans (h k a p h0 (by omega) (fun h => h) h1 (by rw [hp]; exact hi)) (h i p b hi0 hil (fun h => h) hi h2)
    intro k a b h0 hk hn h1 h2
    rw [hml] at hk
    refine key k a b h0 hk hn ?_ ?_
    · rw [hx, List.getElem?_append_left (by omega)]; exact h1
    · rw [hx, List.getElem?_append_left (by omega)]; exact h2
/-- the first one is least -/
theorem heap_least {L : List Pr} (h : IsHeap L) {p : Pr} (hp : L[0]? = some p) : ∀ (k : Nat) (q : Pr), L[k]? = some q → lessB q p = false := by
  intro k
  induction k using Nat.strongRecOn with
  | ind k ih =>
    intro q hq
    by_cases h0 : k = 0
    · subst h0; rw [hp] at hq; cases hq; rw [lessB_no]; omega
    · have hk := (List.getElem?_eq_some_iff.1 hq).1
      obtain ⟨r, hr⟩ : ∃ r, L[(k - 1) / 2]? = some r := ⟨L[(k - 1) / 2]'(by omega), List.getElem?_eq_getElem _⟩
      exact less_ntrans (h k q r (by omega) hk (fun h => h) hq hr) (ih _ (by omega) r hr)
end Go.Proofs.Ytcmmmmpdehfefaa
