/-
  What Open and its reference answer, in one form (chapter 02).
-/
import Derived.Test.YtcffabfaefbjcaaOpenR
namespace Go.Proofs.Ytcffabfaefbjcaa
set_option linter.unusedVariables false
open Go.RowKit Crc
/-- what Open answers -/
def opn (l : List Nat) : List Nat × Int := if l = sealed (l.take (l.length - 4)) then (l.take (l.length - 4), 0) else ([], 50)
theorem opn_sealed (u : List Nat) : opn (sealed u) = (u, 0) := by
  unfold opn
  rw [sealed_take, if_pos rfl]
theorem opn_not {l : List Nat} (h : ∀ u, l ≠ sealed u) : opn l = ([], 50) := by
  unfold opn
  rw [if_neg (h _)]
def OpnPost (w : World) (l : List Nat) (e : Ending) (w' : World) : Prop := ∃ v, e = .returned (.tuple #[v, .int .i64 (opn l).2]) ∧ Sl w' v (opn l).1 ∧ Below w.heap.size w w'
theorem open_opn (v : Value) (l : List Nat) (hlen : l.length < 35184372088832) (w : World) (hsl : Sl w v l) : Calls Try.prog 55 #[v] w (OpnPost w l) := by
  by_cases h : l = sealed (l.take (l.length - 4))
  · rw [h] at hsl hlen ⊢
    refine (open_any_yes v (l.take (l.length - 4)) (by rw [sealed_length] at hlen; omega) w hsl).mono ?_
    rintro e w' ⟨g, cap, rfl, h1, h2, h3, h4⟩
    unfold OpnPost
    rw [opn_sealed]
    exact ⟨_, rfl, h3.sl, h4⟩
  · have hno : ∀ u, l ≠ sealed u := fun u hu => h (by rw [hu, sealed_take])
    refine (open_any_no v l hlen w hsl hno).mono ?_
    rintro e w' ⟨rfl, h4⟩
    unfold OpnPost
    rw [opn_not hno]
    exact ⟨_, rfl, Sl.nil _, h4⟩
theorem openr_opn (v : Value) (l : List Nat) (hlen : l.length < 35184372088832) (w : World) (hsl : Sl w v l) : Calls Try.prog 57 #[v] w (OpnPost w l) := by
  by_cases h : l = sealed (l.take (l.length - 4))
  · rw [h] at hsl hlen ⊢
    refine (openr_any_yes v (l.take (l.length - 4)) (by rw [sealed_length] at hlen; omega) w hsl).mono ?_
    rintro e w' ⟨v', rfl, h3, h4⟩
    unfold OpnPost
    rw [opn_sealed]
    exact ⟨_, rfl, h3.sl, h4⟩
  · have hno : ∀ u, l ≠ sealed u := fun u hu => h (by rw [hu, sealed_take])
    refine (openr_any_no v l hlen w hsl hno).mono ?_
    rintro e w' ⟨rfl, h4⟩
    unfold OpnPost
    rw [opn_not hno]
    exact ⟨_, rfl, Sl.nil _, h4⟩
theorem opn_code (l : List Nat) : (Opens l → (opn l).2 = 0) ∧ (¬ Opens l → (opn l).2 = 50) := by
  unfold opn
  by_cases h : l = sealed (l.take (l.length - 4))
  · rw [if_pos h]
    refine ⟨fun _ => rfl, fun hn => (hn ⟨?_, h⟩).elim⟩
    have := congrArg List.length h
    rw [sealed_length] at this
    omega
  · rw [if_neg h]
    exact ⟨fun ho => (h ho.2).elim, fun _ => rfl⟩
end Go.Proofs.Ytcffabfaefbjcaa
