/-
  Acts that are handed in; what Put, Take, Pop, Least make of a heap's numbers (chapter 15).
-/
import Derived.Test.YtcmmmmpdehfefaaHOrd
import Derived.Deep.Fields
import Derived.OpenShut
import Derived.ChangeArms
namespace Go.Proofs.Ytcmmmmpdehfefaa
set_option linter.unusedVariables false
set_option linter.unusedSimpArgs false
open Go.RowKit Go.Maps Go.ChangeShapes Go.WideShapes Go.Deep
/-- an act: what, the client, the number -/
structure Ac where
  d : Int
  c : Int
  n : Int
def Ac.wf (a : Ac) : Prop := I64 a.d ∧ I64 a.c ∧ I64 a.n
def SlA (w : World) (v : Value) (l : List Ac) : Prop := (∀ x ∈ l, x.wf) ∧ ∃ ao cap, v = .slice ao l.length cap ∧ l.length ≤ cap ∧ cap ≤ maxLen ∧
  ∀ j x, l[j]? = some x → ∃ b off, ao = some ⟨b, off, none⟩ ∧ w.cell? ⟨b, off + j * 3, none⟩ = some (.int .i64 x.d) ∧ w.cell? ⟨b, off + j * 3 + 1, none⟩ = some (.int .i64 x.c) ∧ w.cell? ⟨b, off + j * 3 + 2, none⟩ = some (.int .i64 x.n)
theorem one_field {H : Type} {enc : TypeId × Value → H} {P : Program} {w : World} {base : Nat} {spare : Nat → Bool} {held : Bool} {t : TypeId} {k : IntKind} (ht : P.underlying t = some (.int k)) {c : Value} {n : Nat} {y : DataW H × List MemPlace}
    (h : DataW.trod enc P w base spare held n t [c] = some y) : ∃ x, c = .int k x ∧ (Lit.int k x).wf = true := by
  obtain ⟨x, hc, _, hw⟩ := DataW.trod_int ht h
  simp at hc
  exact ⟨x, hc, hw⟩
set_option maxRecDepth 100000 in
theorem open_act {H : Type} {enc : TypeId × Value → H} {w : World} {base : Nat} {spare : Nat → Bool} {held : Bool} {fuel : Nat} {cs : List Value} {y : DataW H × List MemPlace}
    (h : DataW.trod enc Try.prog w base spare held fuel 38 cs = some y) : ∃ x : Ac, x.wf ∧ cs = [.int .i64 x.d, .int .i64 x.c, .int .i64 x.n] := by
  have hs := Try.underlying38
  have hone : oneCellFields Try.prog (match Try.prog.underlying 38 with | some (.struct fs) => fs | _ => #[]) = true := by kernel_rfl
  rw [hs] at hone
  obtain ⟨xs, n, _, hx, hcl, hlen, hg⟩ := DataW.trod_struct hs h
  match cs, hcl.trans (show Try.prog.cellsOf 38 = 3 by kernel_rfl) with
  | [c0, c1, c2], _ =>
    match xs, hlen with
    | [y0, y1, y2], _ =>
      have h0 := hg 0 _ rfl
      have h1 := hg 1 _ rfl
      have h2 := hg 2 _ rfl
      rw [(hone_of hone 0 _ rfl).1, (hone_of hone 0 _ rfl).2] at h0
      rw [(hone_of hone 1 _ rfl).1, (hone_of hone 1 _ rfl).2] at h1
      rw [(hone_of hone 2 _ rfl).1, (hone_of hone 2 _ rfl).2] at h2
      obtain ⟨x0, rfl, e0⟩ := one_field (c := c0) Try.underlying3 (by simpa [Value.cells] using h0)
      obtain ⟨x1, rfl, e1⟩ := one_field (c := c1) Try.underlying3 (by simpa [Value.cells] using h1)
      obtain ⟨x2, rfl, e2⟩ := one_field (c := c2) Try.underlying3 (by simpa [Value.cells] using h2)
      exact ⟨⟨x0, x1, x2⟩, ⟨wf_i64 e0, wf_i64 e1, wf_i64 e2⟩, rfl⟩
theorem cells3 {w : World} {base : Nat} {a : Addr} {v0 v1 v2 : Value} (h : w.cells? base a 3 = some [v0, v1, v2]) : ∃ b off, a = ⟨b, off, none⟩ ∧ w.cell? ⟨b, off, none⟩ = some v0 ∧ w.cell? ⟨b, off + 1, none⟩ = some v1 ∧ w.cell? ⟨b, off + 2, none⟩ = some v2 := by
  obtain ⟨_, hl, hc⟩ := World.cells?_some h
  have h0 := hc 0 (by omega)
  have h1 := hc 1 (by omega)
  have h2 := hc 2 (by omega)
  obtain ⟨b, off, spot⟩ := a
  have hspot : spot = none := by simpa [Addr.add] using World.cell?_spot h0
  subst hspot
  rw [Addr.add_lit] at h0 h1 h2
  exact ⟨b, off, rfl, h0, h1, h2⟩
theorem open_acts {H : Type} {enc : TypeId × Value → H} {w : World} {base : Nat} {spare : Nat → Bool} {held : Bool} {rr : Reach} {b0 : Nat} {v : Value} {d : DataW H} {p : List MemPlace}
    (hv : Value.okWide Try.prog w rr b0 34 v) (h : DataW.Trod enc Try.prog w base spare held 34 v d p) : ∃ q : Value × List Ac, v = q.1 ∧ SlA w q.1 q.2 := by
  obtain ⟨ao, len, cap, rfl⟩ := okWide_slice Try.underlying34 hv
  suffices hl : ∃ l, SlA w (.slice ao len cap) l by
    obtain ⟨l, hl⟩ := hl
    exact ⟨(_, l), rfl, hl⟩
  obtain ⟨fuel, hf⟩ := h
  rcases DataW.trod_slice Try.underlying34 hf with ⟨h0, _⟩ | ⟨a, len', cap', elems, rest, n, _, h0, _, _, hl, hm, hlen, hel, _, _⟩
  · simp [Value.cells] at h0
    obtain ⟨rfl, rfl, rfl⟩ := h0
    exact ⟨[], (fun x hx => by cases hx), none, 0, rfl, Nat.le_refl _, Nat.zero_le _, fun j x hx => by simp at hx⟩
  · simp [Value.cells] at h0
    obtain ⟨rfl, rfl, rfl⟩ := h0
    have e38 : Try.prog.cellsOf 38 = 3 := by kernel_rfl
    rw [e38] at hel
    have each : ∀ i, i < len → ∃ x : Ac, x.wf ∧ w.cells? base (a.add (i * 3)) 3 = some [.int .i64 x.d, .int .i64 x.c, .int .i64 x.n] := by
      intro i hi
      have h1 := hel i hi
      rw [List.getElem?_eq_getElem (by omega)] at h1
      obtain ⟨cs, hc, hy⟩ := Option.bind_eq_some_iff.1 h1
      obtain ⟨x, hx, rfl⟩ := open_act hy
      exact ⟨x, hx, hc⟩
    have ⟨f, hf'⟩ : ∃ f : Nat → Ac, ∀ i, i < len → (f i).wf ∧ w.cells? base (a.add (i * 3)) 3 = some [.int .i64 (f i).d, .int .i64 (f i).c, .int .i64 (f i).n] := by
      refine ⟨fun i => if h : i < len then (each i h).choose else ⟨0, 0, 0⟩, fun i hi => ?_⟩
      simp only [hi, dite_true]
      exact (each i hi).choose_spec
    have hll : ((List.range len).map f).length = len := by simp
    refine ⟨(List.range len).map f, fun x hx => ?_, some a, cap, by rw [hll], by rw [hll]; exact hl, hm, fun j x hx => ?_⟩
    · obtain ⟨i, hi, rfl⟩ := List.mem_map.1 hx
      exact (hf' i (List.mem_range.1 hi)).1
    · have hj : j < len := by have := (List.getElem?_eq_some_iff.1 hx).1; omega
      have hxj : f j = x := by simpa [hj] using hx
      subst hxj
      obtain ⟨b0, o0, e0, _⟩ := cells3 (hf' 0 (by omega)).2
      obtain ⟨b, off, e, r⟩ := cells3 (hf' j hj).2
      have ha : a = ⟨b0, o0, none⟩ := by
        rw [← e0, Nat.zero_mul]; unfold Addr.add; split <;> simp_all
      subst ha
      rw [Addr.add_lit] at e
      cases e
      exact ⟨_, _, rfl, r⟩
end Go.Proofs.Ytcmmmmpdehfefaa
