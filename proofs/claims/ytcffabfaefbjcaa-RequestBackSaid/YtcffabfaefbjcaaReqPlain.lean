/-
  Plain laws of requests: program and reference allow the same ones (chapter 08).
-/
import Derived.Test.YtcffabfaefbjcaaReqS
namespace Go.Proofs.Ytcffabfaefbjcaa
set_option linter.unusedVariables false
open Go.RowKit
theorem mayB_iff (r : Rq) : mayB r = true ↔ rightP r ∧ 0 ≤ r.y ∧ r.y < 24 := by
  unfold mayB rightB
  simp only [Bool.and_eq_true, decide_eq_true_eq]
theorem wrong_may (r : Rq) : (wrongE r == 0) = mayB r := by
  rw [Bool.eq_iff_iff, mayB_iff, beq_iff_eq]
  obtain ⟨k, t, y, v, p, f, o⟩ := r
  by_cases hk : 0 ≤ k ∧ k ≤ 9
  · have : k = 0 ∨ k = 1 ∨ k = 2 ∨ k = 3 ∨ k = 4 ∨ k = 5 ∨ k = 6 ∨ k = 7 ∨ k = 8 ∨ k = 9 := by omega
    rcases this with rfl | rfl | rfl | rfl | rfl | rfl | rfl | rfl | rfl | rfl
    all_goals
      simp [wrongE, isKind, fieldsOf, errT, errStep, othersB, Rq.num, lo, hi, rightP, ownB, keyB, List.range, List.range.loop]
    all_goals first
      | omega
      | ((repeat' split) <;> omega)
  · have h : isKind k = false := by simpa [isKind] using hk
    have e : wrongE ⟨k, t, y, v, p, f, o⟩ = 2 := by unfold wrongE; simp only; rw [h]; rfl
    rw [e]
    constructor
    · intro h; cases h
    · intro h; exact absurd h.1.1 hk
/-- a request's bytes, and the error -/
def BL (r : Rq) : List Nat := if mayB r then bytesT r (fieldsOf r.k) (fieldsOf r.k).length else []
def BE (r : Rq) : Int := if mayB r then 0 else 2
def BPost (L : List Nat) (E : Int) (w : World) (e : Ending) (w' : World) : Prop := ∃ v, e = .returned (.tuple #[v, .int .i64 E]) ∧ Sl w' v L ∧ Below w.heap.size w w'
/-- each number lies in its type -/
def Rq.wf (r : Rq) : Prop := (Lit.int .i8 r.k).wf = true ∧ ∀ f, -9223372036854775808 ≤ r.num f ∧ r.num f ≤ 9223372036854775807
theorem rqBytes_any (r : Rq) (h : r.wf) (w : World) : Calls Try.prog 17 #[.agg r.cells] w (BPost (BL r) (BE r) w) := by
  unfold BL BE
  cases hm : mayB r
  · refine (bytes_no r h.1 (by rw [wrong_may, hm]) w).mono ?_
    rintro e w' ⟨rfl, hb⟩
    exact ⟨_, rfl, Sl.nil _, hb⟩
  · refine (bytes_yes r h.1 (by rw [wrong_may, hm]) h.2 (bounds_of hm).2.2.2.2.2.2 w).mono ?_
    rintro e w' ⟨v, rfl, ho, hb⟩
    exact ⟨v, rfl, ho.sl, hb⟩
theorem rfBytes_any (r : Rq) (w : World) : Calls Try.prog 18 #[.agg r.cells] w (BPost (BL r) (BE r) w) := by
  unfold BL BE
  cases hm : mayB r
  · refine (bytesr_no r hm w).mono ?_
    rintro e w' ⟨rfl, hb⟩
    exact ⟨_, rfl, Sl.nil _, hb⟩
  · have hk := (bounds_of hm).1
    have key : ∀ (l : List Nat) (n : Nat), fieldsOf r.k = l → l.length = n → Calls Try.prog 18 #[.agg r.cells] w (PutPostE w (bytesT r l n) 0) → Calls Try.prog 18 #[.agg r.cells] w (BPost (bytesT r (fieldsOf r.k) (fieldsOf r.k).length) 0 w) := by
      intro l n e1 e2 hc
      subst e1 e2
      refine hc.mono ?_
      rintro e w' ⟨v, rfl, ho, hb⟩
      exact ⟨v, rfl, ho.sl, hb⟩
    have : r.k = 0 ∨ r.k = 1 ∨ r.k = 2 ∨ r.k = 3 ∨ r.k = 4 ∨ r.k = 5 ∨ r.k = 6 ∨ r.k = 7 ∨ r.k = 8 ∨ r.k = 9 := by omega
    rcases this with e | e | e | e | e | e | e | e | e | e
    · exact key _ _ (by rw [e]; rfl) rfl (bytesr_0 r hm e w)
    · exact key _ _ (by rw [e]; rfl) rfl (bytesr_1 r hm e w)
    · exact key _ _ (by rw [e]; rfl) rfl (bytesr_2 r hm e w)
    · exact key _ _ (by rw [e]; rfl) rfl (bytesr_3 r hm e w)
    · exact key _ _ (by rw [e]; rfl) rfl (bytesr_4 r hm e w)
    · exact key _ _ (by rw [e]; rfl) rfl (bytesr_5 r hm e w)
    · exact key _ _ (by rw [e]; rfl) rfl (bytesr_6 r hm e w)
    · exact key _ _ (by rw [e]; rfl) rfl (bytesr_7 r hm e w)
    · exact key _ _ (by rw [e]; rfl) rfl (bytesr_8 r hm e w)
    · exact key _ _ (by rw [e]; rfl) rfl (bytesr_9 r hm e w)
theorem rqMay_any (r : Rq) (h : r.wf) (w : World) : Calls Try.prog 19 #[.agg r.cells] w fun e w' => e = .returned (.bool (mayB r)) ∧ Below w.heap.size w w' := may_any r h.1 _ (wrong_may r) w
theorem Sl.text {w : World} {v : Value} {l : List Nat} (h : Sl w v l) : (convert 35 9 v).run Try.prog w = .ok (.string (strOf l)) w := h.string bt (dst := 9) (by kernel_rfl)
end Go.Proofs.Ytcffabfaefbjcaa
