/-
  Plain: the order that Sorted sorts by; one sorted list (chapter 15).
-/
import Derived.Test.YtcmmmmpdehfefaaPairs
import Derived.Shelf.SlSortCmp.NoneTotal
namespace Go.Proofs.Ytcmmmmpdehfefaa
set_option linter.unusedVariables false
set_option linter.unusedSimpArgs false
open Go.RowKit Go.Maps Go.Sort
/-- x is ahead of y -/
def ltP (x y : Int × Int) : Bool := decide (x.1 < y.1) || (x.1 == y.1 && decide (x.2 < y.2))
theorem ltP_iff (x y : Int × Int) : ltP x y = true ↔ x.1 < y.1 ∨ (x.1 = y.1 ∧ x.2 < y.2) := by
  unfold ltP; simp
theorem ltP_no (x y : Int × Int) : ltP x y = false ↔ ¬ (x.1 < y.1 ∨ (x.1 = y.1 ∧ x.2 < y.2)) := by
  rw [← ltP_iff, Bool.not_eq_true]
theorem ltOf_cfP : ltOf cfP = ltP := by
  funext x y
  rw [Bool.eq_iff_iff, ltP_iff]
  unfold ltOf cfP cmpI
  simp only [decide_eq_true_eq]
  split <;> split <;> (repeat' split) <;> omega
theorem swoP : SWO (ltOf cfP) := by
  rw [ltOf_cfP]
  refine ⟨fun x => ?_, fun x y z h1 h2 => ?_, fun x y z h1 h2 => ?_⟩
  · rw [ltP_no]; omega
  · rw [ltP_iff] at *; omega
  · rw [ltP_no] at *; omega
theorem totP (x y : Int × Int) (h1 : (ltOf cfP) x y = false) (h2 : (ltOf cfP) y x = false) : x = y := by
  rw [ltOf_cfP, ltP_no] at *
  apply Prod.ext <;> omega
theorem lessB_ltP (a b : Pr) : lessB a b = ltP (prP a) (prP b) := rfl
/-- the one sorted list -/
def sortP (l : List (Int × Int)) : List (Int × Int) := l.mergeSort fun x y => !ltP y x
theorem sortP_perm (l : List (Int × Int)) : (sortP l).Perm l := List.mergeSort_perm _ _
theorem leP_trans (a b c : Int × Int) (h1 : (!ltP b a) = true) (h2 : (!ltP c b) = true) : (!ltP c a) = true := by
  simp only [Bool.not_eq_true', ltP_no] at *; omega
theorem leP_total (a b : Int × Int) : ((!ltP b a) || (!ltP a b)) = true := by
  cases h : ltP b a
  · rfl
  · have : ltP a b = false := by rw [ltP_iff] at h; rw [ltP_no]; omega
    rw [this]; rfl
theorem leP_anti (a b : Int × Int) (h1 : (!ltP b a) = true) (h2 : (!ltP a b) = true) : a = b := by
  simp only [Bool.not_eq_true', ltP_no] at *
  apply Prod.ext <;> omega
theorem sortP_sorted (l : List (Int × Int)) : (sortP l).Pairwise fun a b => (!ltP b a) = true := List.pairwise_mergeSort leP_trans leP_total l
theorem sorted_eq {l m : List (Int × Int)} (h : l.Perm m) (hl : l.Pairwise fun a b => (!ltP b a) = true) (hm : m.Pairwise fun a b => (!ltP b a) = true) : l = m :=
  h.eq_of_pairwise (fun a b _ _ h1 h2 => leP_anti a b h1 h2) hl hm
theorem sortP_congr {l m : List (Int × Int)} (h : l.Perm m) : sortP l = sortP m :=
  sorted_eq ((sortP_perm l).trans (h.trans (sortP_perm m).symm)) (sortP_sorted l) (sortP_sorted m)
theorem sortP_len (l : List (Int × Int)) : (sortP l).length = l.length := (sortP_perm l).length_eq
end Go.Proofs.Ytcmmmmpdehfefaa
