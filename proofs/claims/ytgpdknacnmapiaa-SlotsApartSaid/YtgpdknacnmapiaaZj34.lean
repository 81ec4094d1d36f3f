/-
  Parts of a proof, put together: Qe.
-/
import Derived.Test.YtgpdknacnmapiaaZj01
import Derived.Test.YtgpdknacnmapiaaZj02
import Derived.Test.YtgpdknacnmapiaaZj03
import Derived.Test.YtgpdknacnmapiaaZj04
import Derived.Test.YtgpdknacnmapiaaZj05
import Derived.Test.YtgpdknacnmapiaaZj06
import Derived.Test.YtgpdknacnmapiaaZj07
import Derived.Test.YtgpdknacnmapiaaZj08
import Derived.Test.YtgpdknacnmapiaaZj09
import Derived.Test.YtgpdknacnmapiaaZj10
import Derived.Test.YtgpdknacnmapiaaZj11
import Derived.Test.YtgpdknacnmapiaaZj12
import Derived.Test.YtgpdknacnmapiaaZj13
import Derived.Test.YtgpdknacnmapiaaZj14
import Derived.Test.YtgpdknacnmapiaaZj15
import Derived.Test.YtgpdknacnmapiaaZj16
import Derived.Test.YtgpdknacnmapiaaZj17
import Derived.Test.YtgpdknacnmapiaaZj18
import Derived.Test.YtgpdknacnmapiaaZj19
import Derived.Test.YtgpdknacnmapiaaZj20
import Derived.Test.YtgpdknacnmapiaaZj21
import Derived.Test.YtgpdknacnmapiaaZj22
import Derived.Test.YtgpdknacnmapiaaZj23
import Derived.Test.YtgpdknacnmapiaaZj24
import Derived.Test.YtgpdknacnmapiaaZj25
import Derived.Test.YtgpdknacnmapiaaZj26
import Derived.Test.YtgpdknacnmapiaaZj27
import Derived.Test.YtgpdknacnmapiaaZj28
import Derived.Test.YtgpdknacnmapiaaZj29
import Derived.Test.YtgpdknacnmapiaaZj30
import Derived.Test.YtgpdknacnmapiaaZj31
import Derived.Test.YtgpdknacnmapiaaZj32
import Derived.Test.YtgpdknacnmapiaaZj33
import Derived.Deep.Fields
import Derived.OpenShut
import Derived.ChangeArms
namespace Go.Proofs.Ytgpdknacnmapiaa
set_option linter.unusedVariables false
set_option linter.unusedSimpArgs false
open Go.RowKit Go.ChangeShapes Go.WideShapes Go.Deep
open Go
def σ0 : P4 := ⟨newL 160, fun _ => none, fun _ => 0, fun _ => [], fun _ => []⟩
set_option maxRecDepth 100000 in
theorem J4.start (m : Nat) : J4 0 m σ0 :=
  ⟨newL_len 160, genOK_new, fun _ _ => rfl, fun _ _ => Nat.le_refl _, fun c _ k h nd e => (by have e2 : ([] : List Int)[k]? = some h := e; simp at e2), fun c _ j k h h' nd _ e => (by have e2 : ([] : List Int)[j]? = some h := e; simp at e2), fun c _ st e => (by cases (show (none : Option S4) = some st from e))⟩
set_option maxRecDepth 100000 in
theorem pv_start {m R N : Nat} {w W W2 : World} {d1 d2 : Value} {cur : Array Value} (h1 : DiskV (fun b => b ≠ R ∧ b ≠ N) W d1) (h2 : DiskV (fun b => b ≠ R ∧ b ≠ N) W d2) (hc : curOK cur (newL 160)) (hM : Mem (fun _ => False) w W [(N, cur, 3), (R, run0 (.slice (some ⟨N, 0, none⟩) 771 771) d1 d2, 74)]) (hM2 : Mem (fun _ => False) W W2 [(W.heap.size, have0, 72)]) : PV m R W.heap.size (W.heap.size + 1) W2 σ0 := by
  have hR := hM.hb 1 _ _ _ rfl
  have hN := hM.hb 0 _ _ _ rfl
  have hne : N ≠ R := fun e => by have := hM.nd 0 1 N _ _ _ _ rfl (by rw [e]; rfl); omega
  have hRl := hR.lt
  have hNl := hN.lt
  have old : ∀ b, b < W.heap.size → W2.heap[b]? = W.heap[b]? := fun b hb => hM2.old b hb id
  have hP : ∀ b, b ≠ R → b < W.heap.size → PH R W.heap.size hv0 b := fun b hb hlt => ⟨hb, by omega, fun i _ e => (by cases (show (none : Option Nat) = some b from e))⟩
  refine ⟨run0 (.slice (some ⟨N, 0, none⟩) 771 771) d1 d2, have0, rs0 (.slice (some ⟨N, 0, none⟩) 771 771) d1 d2, hv0, ⟨⟨hR.oth (old R hRl), run0_ok _ _ _, ⟨N, 0, 771, rfl, hP N hne hNl, newL_len 160, fun i x hx => ?_, newL_fit 160⟩, ?_, ?_⟩, hM2.hb 0 _ _ _ rfl, have0_ok, ⟨fun c hc => World.ownsRow_nil _ _ _ _, fun c hc => World.ownsRow_nil _ _ _ _, fun i j b _ _ _ e => (by cases (show (none : Option Nat) = some b from e))⟩, by omega, by omega⟩, fun c _ => rfl, fun c _ => rfl⟩
  · rw [Nat.zero_add]; exact (hN.oth (old N hNl)).cell (hc i x hx)
  · exact (h1.weak (Q := PH R W.heap.size hv0) fun b hb hlt => hP b hb.1 hlt).keep fun b _ hlt => old b hlt
  · exact (h2.weak (Q := PH R W.heap.size hv0) fun b hb hlt => hP b hb.1 hlt).keep fun b _ hlt => old b hlt
/-- a pick: the client, what -/
structure Pk3 where
  c : Int
  d : Int
  n : Int
def SlR (w : World) (v : Value) (l : List Pk3) : Prop := ∃ ao cap, v = .slice ao l.length cap ∧ l.length ≤ cap ∧ cap ≤ maxLen ∧
  ∀ j x, l[j]? = some x → ∃ b off, ao = some ⟨b, off, none⟩ ∧ w.cell? ⟨b, off + j * 3, none⟩ = some (.int .i64 x.c) ∧ w.cell? ⟨b, off + j * 3 + 1, none⟩ = some (.int .i64 x.d) ∧ w.cell? ⟨b, off + j * 3 + 2, none⟩ = some (.int .i64 x.n)
theorem one_field3 {H : Type} {enc : TypeId × Value → H} {P : Program} {w : World} {base : Nat} {spare : Nat → Bool} {held : Bool} {t : TypeId} {k : IntKind} (ht : P.underlying t = some (.int k)) {c : Value} {n : Nat} {y : DataW H × List MemPlace}
    (h : DataW.trod enc P w base spare held n t [c] = some y) : ∃ x, c = .int k x := by
  obtain ⟨x, hc, _, hw⟩ := DataW.trod_int ht h
  simp at hc
  exact ⟨x, hc⟩
set_option maxRecDepth 100000 in
theorem open_pick3 {H : Type} {enc : TypeId × Value → H} {w : World} {base : Nat} {spare : Nat → Bool} {held : Bool} {fuel : Nat} {cs : List Value} {y : DataW H × List MemPlace}
    (h : DataW.trod enc Try.prog w base spare held fuel 69 cs = some y) : ∃ x : Pk3, cs = [.int .i64 x.c, .int .i64 x.d, .int .i64 x.n] := by
  have hs := Try.underlying69
  have hone : oneCellFields Try.prog (match Try.prog.underlying 69 with | some (.struct fs) => fs | _ => #[]) = true := by kernel_rfl
  rw [hs] at hone
  obtain ⟨xs, n, _, hx, hcl, hlen, hg⟩ := DataW.trod_struct hs h
  match cs, hcl.trans (show Try.prog.cellsOf 69 = 3 by kernel_rfl) with
  | [c0, c1, c2], _ =>
    match xs, hlen with
    | [y0, y1, y2], _ =>
      have h0 := hg 0 _ rfl
      have h1 := hg 1 _ rfl
      have h2 := hg 2 _ rfl
      rw [(hone_of hone 0 _ rfl).1, (hone_of hone 0 _ rfl).2] at h0
      rw [(hone_of hone 1 _ rfl).1, (hone_of hone 1 _ rfl).2] at h1
      rw [(hone_of hone 2 _ rfl).1, (hone_of hone 2 _ rfl).2] at h2
      obtain ⟨x0, rfl⟩ := one_field3 (c := c0) Try.underlying3 (by simpa [Value.cells] using h0)
      obtain ⟨x1, rfl⟩ := one_field3 (c := c1) Try.underlying3 (by simpa [Value.cells] using h1)
      obtain ⟨x2, rfl⟩ := one_field3 (c := c2) Try.underlying3 (by simpa [Value.cells] using h2)
      exact ⟨⟨x0, x1, x2⟩, rfl⟩
theorem cellsq3 {w : World} {base : Nat} {a : Addr} {v0 v1 v2 : Value} (h : w.cells? base a 3 = some [v0, v1, v2]) : ∃ b off, a = ⟨b, off, none⟩ ∧ w.cell? ⟨b, off, none⟩ = some v0 ∧ w.cell? ⟨b, off + 1, none⟩ = some v1 ∧ w.cell? ⟨b, off + 2, none⟩ = some v2 := by
  obtain ⟨_, hl, hc⟩ := World.cells?_some h
  have h0 := hc 0 (by omega)
  have h1 := hc 1 (by omega)
  have h2 := hc 2 (by omega)
  obtain ⟨b, off, spot⟩ := a
  have hspot : spot = none := by simpa [Addr.add] using World.cell?_spot h0
  subst hspot
  rw [Addr.add_lit] at h0 h1 h2
  exact ⟨b, off, rfl, h0, h1, h2⟩
set_option maxRecDepth 100000 in
theorem open_picks3 {H : Type} {enc : TypeId × Value → H} {w : World} {base : Nat} {spare : Nat → Bool} {held : Bool} {rr : Reach} {b0 : Nat} {v : Value} {d : DataW H} {p : List MemPlace}
    (hv : Value.okWide Try.prog w rr b0 64 v) (h : DataW.Trod enc Try.prog w base spare held 64 v d p) : ∃ q : Value × List Pk3, v = q.1 ∧ SlR w q.1 q.2 := by
  obtain ⟨ao, len, cap, rfl⟩ := okWide_slice Try.underlying64 hv
  suffices hl : ∃ l, SlR w (.slice ao len cap) l by
    obtain ⟨l, hl⟩ := hl
    exact ⟨(_, l), rfl, hl⟩
  obtain ⟨fuel, hf⟩ := h
  rcases DataW.trod_slice Try.underlying64 hf with ⟨h0, _⟩ | ⟨a, len', cap', elems, rest, n, _, h0, _, _, hl, hm, hlen, hel, _, _⟩
  · simp [Value.cells] at h0
    obtain ⟨rfl, rfl, rfl⟩ := h0
    exact ⟨[], none, 0, rfl, Nat.le_refl _, Nat.zero_le _, fun j x hx => by simp at hx⟩
  · simp [Value.cells] at h0
    obtain ⟨rfl, rfl, rfl⟩ := h0
    have e38 : Try.prog.cellsOf 69 = 3 := by kernel_rfl
    rw [e38] at hel
    have each : ∀ i, i < len → ∃ x : Pk3, w.cells? base (a.add (i * 3)) 3 = some [.int .i64 x.c, .int .i64 x.d, .int .i64 x.n] := by
      intro i hi
      have h1 := hel i hi
      rw [List.getElem?_eq_getElem (by omega)] at h1
      obtain ⟨cs, hc, hy⟩ := Option.bind_eq_some_iff.1 h1
      obtain ⟨x, rfl⟩ := open_pick3 hy
      exact ⟨x, hc⟩
    have ⟨f, hf'⟩ : ∃ f : Nat → Pk3, ∀ i, i < len → w.cells? base (a.add (i * 3)) 3 = some [.int .i64 (f i).c, .int .i64 (f i).d, .int .i64 (f i).n] := by
      refine ⟨fun i => if h : i < len then (each i h).choose else ⟨0, 0, 0⟩, fun i hi => ?_⟩
      simp only [hi, dite_true]
      exact (each i hi).choose_spec
    have hll : ((List.range len).map f).length = len := by simp
    refine ⟨(List.range len).map f, some a, cap, by rw [hll], by rw [hll]; exact hl, hm, fun j x hx => ?_⟩
    have hj : j < len := by have := (List.getElem?_eq_some_iff.1 hx).1; omega
    have hxj : f j = x := by simpa [hj] using hx
    subst hxj
    obtain ⟨b0, o0, e0, _⟩ := cellsq3 (hf' 0 (by omega))
    obtain ⟨b, off, e, r⟩ := cellsq3 (hf' j hj)
    have ha : a = ⟨b0, o0, none⟩ := by
      rw [← e0, Nat.zero_mul]; unfold Addr.add; split <;> simp_all
    subst ha
    rw [Addr.add_lit] at e
    cases e
    exact ⟨_, _, rfl, r⟩
/-- a pick of the script is loaded -/
theorem wp_ldr {ops : Array Oper} {rest : List Oper} {o : Oper} {a : Act} {w : World} {Q : Exit → Act → World → Prop} (hg : o.guard = none) (x : Operand) (ho : o.op = .load 69 x) (b p : Nat) (hx : a.eval x = .pointer (some ⟨b, p, none⟩)) (v0 v1 v2 : Value) (h0 : w.cell? ⟨b, p, none⟩ = some v0) (h1 : w.cell? ⟨b, p + 1, none⟩ = some v1) (h2 : w.cell? ⟨b, p + 2, none⟩ = some v2)
    (h : wpList Try.prog ops Q rest (a.put o.dst (.agg #[v0, v1, v2])) w) : wpList Try.prog ops Q (o :: rest) a w := by
  obtain ⟨fs, hu⟩ := und69
  refine wpList_load_mid hg 69 x ho b p hx [v0, v1, v2] (.struct fs) (fun j v hv => ?_) hu rfl (by rw [inf69]; rfl) (by simpa using h)
  match j, hv with
  | 0, hv => simp at hv; subst hv; exact h0
  | 1, hv => simp at hv; subst hv; exact h1
  | 2, hv => simp at hv; subst hv; exact h2
  | j + 3, hv => simp at hv
theorem wpm_al72 {X : Nat → Prop} {w0 w : World} {L : List (Nat × Array Value × TypeId)} {ops : Array Oper} {rest : List Oper} {o : Oper} {a : Act} {Q : Exit → Act → World → Prop} (HM : Hid (Mem X w0 w L)) (hg : o.guard = none) (ho : o.op = .alloc 72)
    (h : ∀ W, Hid (Mem X w0 W (L ++ [(w.heap.size, have0, 72)])) → wpList Try.prog ops Q rest (a.put o.dst (.pointer (some ⟨w.heap.size, 0, none⟩))) W) : wpList Try.prog ops Q (o :: rest) a w := wpm_al HM hg 72 ho _ zer72 h
end Go.Proofs.Ytgpdknacnmapiaa
