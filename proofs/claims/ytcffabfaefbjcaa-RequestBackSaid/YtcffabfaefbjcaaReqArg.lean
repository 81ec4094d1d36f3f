/-
  A request that is handed in by value, opened (chapter 08).
-/
import Derived.Test.YtcffabfaefbjcaaReqPlain
import Derived.Deep.Fields
import Derived.OpenShut
import Derived.ChangeArms
namespace Go.Proofs.Ytcffabfaefbjcaa
open Go.ChangeShapes Go.WideShapes Go.RowKit Go.Deep
set_option linter.unusedVariables false
theorem range_i64 {n : Int} (h : (Lit.int .i64 n).wf = true) : -9223372036854775808 ≤ n ∧ n ≤ 9223372036854775807 := by
  simp [Lit.wf, IntKind.min, IntKind.max, IntKind.bits, IntKind.signed] at h
  omega
theorem one_field {H : Type} {enc : TypeId × Value → H} {P : Program} {w : World} {base : Nat} {spare : Nat → Bool} {held : Bool} {t : TypeId} {k : IntKind} (ht : P.underlying t = some (.int k)) {c : Value} {n : Nat} {y : DataW H × List MemPlace}
    (h : DataW.trod enc P w base spare held n t [c] = some y) : ∃ x, c = .int k x ∧ (Lit.int k x).wf = true := by
  obtain ⟨x, hc, _, hw⟩ := DataW.trod_int ht h
  simp at hc
  exact ⟨x, hc, hw⟩
theorem open_rq {H : Type} {enc : TypeId × Value → H} {w : World} {base : Nat} {spare : Nat → Bool} {held : Bool} {rr : Reach} {b0 : Nat} {v : Value} {d : DataW H} {p : List MemPlace}
    (hv : Value.okWide Try.prog w rr b0 34 v) (h : DataW.Trod enc Try.prog w base spare held 34 v d p) : ∃ r : Rq, v = .agg r.cells ∧ r.wf := by
  have hs := Try.underlying34
  have hone : oneCellFields Try.prog (match Try.prog.underlying 34 with | some (.struct fs) => fs | _ => #[]) = true := by kernel_rfl
  rw [hs] at hone
  obtain ⟨cs, rfl, hsz⟩ := okWide_struct hs hv
  obtain ⟨l⟩ := cs
  match l, hsz.trans (show Try.prog.cellsOf 34 = 7 by kernel_rfl) with
  | [c0, c1, c2, c3, c4, c5, c6], _ =>
    obtain ⟨fuel, hf⟩ := h
    obtain ⟨xs, n, _, hx, _, hlen, hg⟩ := DataW.trod_struct hs hf
    match xs, hlen with
    | [y0, y1, y2, y3, y4, y5, y6], _ =>
      have g : ∀ (i : Nat) (f : Field) (c : Value) (y : DataW H × List MemPlace), (#[] : Array Field).size ≤ i → True := fun _ _ _ _ _ => trivial
      clear g
      have h0 := hg 0 _ rfl
      have h1 := hg 1 _ rfl
      have h2 := hg 2 _ rfl
      have h3 := hg 3 _ rfl
      have h4 := hg 4 _ rfl
      have h5 := hg 5 _ rfl
      have h6 := hg 6 _ rfl
      rw [(hone_of hone 0 _ rfl).1, (hone_of hone 0 _ rfl).2] at h0
      rw [(hone_of hone 1 _ rfl).1, (hone_of hone 1 _ rfl).2] at h1
      rw [(hone_of hone 2 _ rfl).1, (hone_of hone 2 _ rfl).2] at h2
      rw [(hone_of hone 3 _ rfl).1, (hone_of hone 3 _ rfl).2] at h3
      rw [(hone_of hone 4 _ rfl).1, (hone_of hone 4 _ rfl).2] at h4
      rw [(hone_of hone 5 _ rfl).1, (hone_of hone 5 _ rfl).2] at h5
      rw [(hone_of hone 6 _ rfl).1, (hone_of hone 6 _ rfl).2] at h6
      obtain ⟨x0, rfl, e0⟩ := one_field (c := c0) Try.underlying32 (by simpa [Value.cells] using h0)
      obtain ⟨x1, rfl, e1⟩ := one_field (c := c1) Try.underlying3 (by simpa [Value.cells] using h1)
      obtain ⟨x2, rfl, e2⟩ := one_field (c := c2) Try.underlying3 (by simpa [Value.cells] using h2)
      obtain ⟨x3, rfl, e3⟩ := one_field (c := c3) Try.underlying3 (by simpa [Value.cells] using h3)
      obtain ⟨x4, rfl, e4⟩ := one_field (c := c4) Try.underlying3 (by simpa [Value.cells] using h4)
      obtain ⟨x5, rfl, e5⟩ := one_field (c := c5) Try.underlying3 (by simpa [Value.cells] using h5)
      obtain ⟨x6, rfl, e6⟩ := one_field (c := c6) Try.underlying3 (by simpa [Value.cells] using h6)
      refine ⟨⟨x0, x1, x2, x3, x4, x5, x6⟩, rfl, e0, fun f => ?_⟩
      match f with
      | 0 => exact range_i64 e1
      | 1 => exact range_i64 e2
      | 2 => exact range_i64 e3
      | 3 => exact range_i64 e4
      | 4 => exact range_i64 e5
      | n + 5 => exact range_i64 e6
end Go.Proofs.Ytcffabfaefbjcaa
