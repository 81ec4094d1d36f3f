/-
  Plain: up, down and their like change the order alone (chapter 15).
-/
import Derived.Test.YtcmmmmpdehfefaaHRem
namespace Go.Proofs.Ytcmmmmpdehfefaa
set_option linter.unusedVariables false
set_option linter.unusedSimpArgs false
theorem swapL_perm {L : List Pr} {i j : Nat} {p q : Pr} (hi : L[i]? = some p) (hj : L[j]? = some q) : (swapL L i j p q).Perm L := by
  obtain ⟨h1, rfl⟩ := List.getElem?_eq_some_iff.1 hi
  obtain ⟨h2, rfl⟩ := List.getElem?_eq_some_iff.1 hj
  exact List.set_set_perm h1 h2
theorem downL_perm : ∀ (f : Nat) (L : List Pr) (i m : Nat), (downL f L i m).1.Perm L
  | 0, L, i, m => List.Perm.refl _
  | f + 1, L, i, m => by
    unfold downL
    split
    · rename_i p j q h1 h2
      split
      · exact (downL_perm f _ _ _).trans (swapL_perm h1 (child_lt h2).2.2)
      · exact List.Perm.refl _
    · exact List.Perm.refl _
theorem upL_perm : ∀ (f : Nat) (L : List Pr) (i : Nat), (upL f L i).Perm L
  | 0, L, i => List.Perm.refl _
  | f + 1, L, i => by
    unfold upL
    split
    · exact List.Perm.refl _
    · split
      · rename_i p q h1 h2
        split
        · exact (upL_perm f _ _).trans (swapL_perm h2 h1)
        · exact List.Perm.refl _
      · exact List.Perm.refl _
theorem swapL_other {L : List Pr} {i j k : Nat} {p q : Pr} (hi : k ≠ i) (hj : k ≠ j) : (swapL L i j p q)[k]? = L[k]? := by
  unfold swapL
  rw [List.getElem?_set_ne (Ne.symm hj), List.getElem?_set_ne (Ne.symm hi)]
theorem downL_ge : ∀ (f : Nat) (L : List Pr) (i m k : Nat), m ≤ k → i < m → (downL f L i m).1[k]? = L[k]?
  | 0, L, i, m, k, _, _ => rfl
  | f + 1, L, i, m, k, hk, hi => by
    unfold downL
    split
    · rename_i p j q h1 h2
      have hc := child_lt h2
      split
      · rw [downL_ge f _ _ _ _ hk hc.2.1, swapL_other (by omega) (by omega)]
      · rfl
    · rfl
theorem upL_gt : ∀ (f : Nat) (L : List Pr) (i k : Nat), i < k → (upL f L i)[k]? = L[k]?
  | 0, L, i, k, _ => rfl
  | f + 1, L, i, k, hk => by
    unfold upL
    split
    · rfl
    · split
      · split
        · rw [upL_gt f _ _ _ (by omega), swapL_other (by omega) (by omega)]
        · rfl
      · rfl
theorem bringL_perm (m : Nat) (L : List Pr) (i : Nat) : (bringL m L i).Perm L := by
  unfold bringL
  split
  · exact List.Perm.refl _
  · split
    · rename_i p q h1 h2
      dsimp only
      split
      · exact (downL_perm _ _ _ _).trans (swapL_perm h1 h2)
      · exact (upL_perm _ _ _).trans ((downL_perm _ _ _ _).trans (swapL_perm h1 h2))
    · exact List.Perm.refl _
theorem bringL_get {m : Nat} {L : List Pr} {i : Nat} {p : Pr} (hm : L.length = m + 1) (hi : i ≤ m) (hp : L[i]? = some p) : (bringL m L i)[m]? = some p := by
  unfold bringL
  split
  · rename_i h; subst h; exact hp
  · rename_i hne
    obtain ⟨q, hq⟩ : ∃ q, L[m]? = some q := ⟨L[m]'(by omega), List.getElem?_eq_getElem _⟩
    rw [hp, hq]
    dsimp only
    have h1 : (swapL L i m p q)[m]? = some p := by
      unfold swapL
      rw [List.getElem?_set_self (by rw [List.length_set]; omega)]
    split
    · rw [downL_ge _ _ _ _ _ (Nat.le_refl _) (by omega)]; exact h1
    · rw [upL_gt _ _ _ _ (by omega), downL_ge _ _ _ _ _ (Nat.le_refl _) (by omega)]; exact h1
/-- what a removal leaves, and what it takes -/
theorem bring_last {m : Nat} {L : List Pr} {i : Nat} {p : Pr} (hm : L.length = m + 1) (hi : i ≤ m) (hp : L[i]? = some p) : ∃ M, bringL m L i = M ++ [p] ∧ (p :: M).Perm L ∧ M.length = m := by
  have hl : (bringL m L i).length = m + 1 := by rw [(bringL_perm m L i).length_eq]; exact hm
  have hg := bringL_get hm hi hp
  have hne : bringL m L i ≠ [] := by intro h; rw [h] at hl; simp at hl
  have hx := List.dropLast_concat_getLast hne
  have hlast : (bringL m L i).getLast hne = p := by
    rw [List.getLast_eq_getElem]
    have := List.getElem?_eq_some_iff.1 hg
    obtain ⟨h1, h2⟩ := this
    rw [← h2]; congr 1; omega
  rw [hlast] at hx
  refine ⟨(bringL m L i).dropLast, hx.symm, ?_, by rw [List.length_dropLast, hl]; rfl⟩
  exact (List.perm_append_comm (l₁ := [p])).trans (by rw [hx]; exact bringL_perm m L i)
theorem pushL_perm (L : List Pr) (p : Pr) : (pushL L p).Perm (p :: L) := (upL_perm _ _ _).trans (List.perm_append_comm (l₁ := L) (l₂ := [p]))
theorem fixL_perm (L : List Pr) (i : Nat) : (fixL L i).Perm L := by
  unfold fixL
  dsimp only
  split
  · exact downL_perm _ _ _ _
  · exact (upL_perm _ _ _).trans (downL_perm _ _ _ _)
end Go.Proofs.Ytcmmmmpdehfefaa
