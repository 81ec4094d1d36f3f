/-
  Parts of a proof, put together: Fn, Fj.
-/
import Derived.Test.YtgpdknacnmapiaaZh01
import Derived.Test.YtgpdknacnmapiaaZh02
import Derived.Test.YtgpdknacnmapiaaZh03
import Derived.Test.YtgpdknacnmapiaaZh04
import Derived.Test.YtgpdknacnmapiaaZh05
import Derived.Test.YtgpdknacnmapiaaZh06
import Derived.Test.YtgpdknacnmapiaaZh07
import Derived.Test.YtgpdknacnmapiaaZh08
import Derived.Test.YtgpdknacnmapiaaZh09
import Derived.Test.YtgpdknacnmapiaaZh10
import Derived.Test.YtgpdknacnmapiaaZh11
import Derived.Test.YtgpdknacnmapiaaZh12
import Derived.Test.YtgpdknacnmapiaaZh13
import Derived.Test.YtgpdknacnmapiaaZh14
import Derived.Test.YtgpdknacnmapiaaZh15
import Derived.Test.YtgpdknacnmapiaaZh16
import Derived.Test.YtgpdknacnmapiaaZh17
import Derived.Test.YtgpdknacnmapiaaZh18
import Derived.Test.YtgpdknacnmapiaaZh19
import Derived.Test.YtgpdknacnmapiaaZh20
import Derived.Test.YtgpdknacnmapiaaZh21
import Derived.Test.YtgpdknacnmapiaaZh22
import Derived.Test.YtgpdknacnmapiaaZh23
import Derived.Test.YtgpdknacnmapiaaZh24
import Derived.Test.YtgpdknacnmapiaaZh25
import Derived.Test.YtgpdknacnmapiaaZh26
import Derived.Test.YtgpdknacnmapiaaZh27
import Derived.Test.YtgpdknacnmapiaaZh28
import Derived.Test.YtgpdknacnmapiaaZh29
import Derived.Test.YtgpdknacnmapiaaZh30
import Derived.Deep.Fields
import Derived.OpenShut
import Derived.ChangeArms
import Derived.Deep.QuietTactic
namespace Go.Proofs.Ytgpdknacnmapiaa
set_option linter.unusedVariables false
set_option linter.unusedSimpArgs false
open Go.RowKit Go.ChangeShapes Go.WideShapes Go.Deep
open Go
/-- a pick: the client, what -/
structure Pk2 where
  c : Int
  d : Int
def SlQ (w : World) (v : Value) (l : List Pk2) : Prop := ∃ ao cap, v = .slice ao l.length cap ∧ l.length ≤ cap ∧ cap ≤ maxLen ∧
  ∀ j x, l[j]? = some x → ∃ b off, ao = some ⟨b, off, none⟩ ∧ w.cell? ⟨b, off + j * 2, none⟩ = some (.int .i64 x.c) ∧ w.cell? ⟨b, off + j * 2 + 1, none⟩ = some (.int .i64 x.d)
theorem one_field2 {H : Type} {enc : TypeId × Value → H} {P : Program} {w : World} {base : Nat} {spare : Nat → Bool} {held : Bool} {t : TypeId} {k : IntKind} (ht : P.underlying t = some (.int k)) {c : Value} {n : Nat} {y : DataW H × List MemPlace}
    (h : DataW.trod enc P w base spare held n t [c] = some y) : ∃ x, c = .int k x := by
  obtain ⟨x, hc, _, hw⟩ := DataW.trod_int ht h
  simp at hc
  exact ⟨x, hc⟩
set_option maxRecDepth 100000 in
theorem open_pick {H : Type} {enc : TypeId × Value → H} {w : World} {base : Nat} {spare : Nat → Bool} {held : Bool} {fuel : Nat} {cs : List Value} {y : DataW H × List MemPlace}
    (h : DataW.trod enc Try.prog w base spare held fuel 29 cs = some y) : ∃ x : Pk2, cs = [.int .i64 x.c, .int .i64 x.d] := by
  have hs := Try.underlying29
  have hone : oneCellFields Try.prog (match Try.prog.underlying 29 with | some (.struct fs) => fs | _ => #[]) = true := by kernel_rfl
  rw [hs] at hone
  obtain ⟨xs, n, _, hx, hcl, hlen, hg⟩ := DataW.trod_struct hs h
  match cs, hcl.trans (show Try.prog.cellsOf 29 = 2 by kernel_rfl) with
  | [c0, c1], _ =>
    match xs, hlen with
    | [y0, y1], _ =>
      have h0 := hg 0 _ rfl
      have h1 := hg 1 _ rfl
      rw [(hone_of hone 0 _ rfl).1, (hone_of hone 0 _ rfl).2] at h0
      rw [(hone_of hone 1 _ rfl).1, (hone_of hone 1 _ rfl).2] at h1
      obtain ⟨x0, rfl⟩ := one_field2 (c := c0) Try.underlying3 (by simpa [Value.cells] using h0)
      obtain ⟨x1, rfl⟩ := one_field2 (c := c1) Try.underlying3 (by simpa [Value.cells] using h1)
      exact ⟨⟨x0, x1⟩, rfl⟩
theorem cellsq2 {w : World} {base : Nat} {a : Addr} {v0 v1 : Value} (h : w.cells? base a 2 = some [v0, v1]) : ∃ b off, a = ⟨b, off, none⟩ ∧ w.cell? ⟨b, off, none⟩ = some v0 ∧ w.cell? ⟨b, off + 1, none⟩ = some v1 := by
  obtain ⟨_, hl, hc⟩ := World.cells?_some h
  have h0 := hc 0 (by omega)
  have h1 := hc 1 (by omega)
  obtain ⟨b, off, spot⟩ := a
  have hspot : spot = none := by simpa [Addr.add] using World.cell?_spot h0
  subst hspot
  rw [Addr.add_lit] at h0 h1
  exact ⟨b, off, rfl, h0, h1⟩
set_option maxRecDepth 100000 in
theorem open_picks {H : Type} {enc : TypeId × Value → H} {w : World} {base : Nat} {spare : Nat → Bool} {held : Bool} {rr : Reach} {b0 : Nat} {v : Value} {d : DataW H} {p : List MemPlace}
    (hv : Value.okWide Try.prog w rr b0 22 v) (h : DataW.Trod enc Try.prog w base spare held 22 v d p) : ∃ q : Value × List Pk2, v = q.1 ∧ SlQ w q.1 q.2 := by
  obtain ⟨ao, len, cap, rfl⟩ := okWide_slice Try.underlying22 hv
  suffices hl : ∃ l, SlQ w (.slice ao len cap) l by
    obtain ⟨l, hl⟩ := hl
    exact ⟨(_, l), rfl, hl⟩
  obtain ⟨fuel, hf⟩ := h
  rcases DataW.trod_slice Try.underlying22 hf with ⟨h0, _⟩ | ⟨a, len', cap', elems, rest, n, _, h0, _, _, hl, hm, hlen, hel, _, _⟩
  · simp [Value.cells] at h0
    obtain ⟨rfl, rfl, rfl⟩ := h0
    exact ⟨[], none, 0, rfl, Nat.le_refl _, Nat.zero_le _, fun j x hx => by simp at hx⟩
  · simp [Value.cells] at h0
    obtain ⟨rfl, rfl, rfl⟩ := h0
    have e38 : Try.prog.cellsOf 29 = 2 := by kernel_rfl
    rw [e38] at hel
    have each : ∀ i, i < len → ∃ x : Pk2, w.cells? base (a.add (i * 2)) 2 = some [.int .i64 x.c, .int .i64 x.d] := by
      intro i hi
      have h1 := hel i hi
      rw [List.getElem?_eq_getElem (by omega)] at h1
      obtain ⟨cs, hc, hy⟩ := Option.bind_eq_some_iff.1 h1
      obtain ⟨x, rfl⟩ := open_pick hy
      exact ⟨x, hc⟩
    have ⟨f, hf'⟩ : ∃ f : Nat → Pk2, ∀ i, i < len → w.cells? base (a.add (i * 2)) 2 = some [.int .i64 (f i).c, .int .i64 (f i).d] := by
      refine ⟨fun i => if h : i < len then (each i h).choose else ⟨0, 0⟩, fun i hi => ?_⟩
      simp only [hi, dite_true]
      exact (each i hi).choose_spec
    have hll : ((List.range len).map f).length = len := by simp
    refine ⟨(List.range len).map f, some a, cap, by rw [hll], by rw [hll]; exact hl, hm, fun j x hx => ?_⟩
    have hj : j < len := by have := (List.getElem?_eq_some_iff.1 hx).1; omega
    have hxj : f j = x := by simpa [hj] using hx
    subst hxj
    obtain ⟨b0, o0, e0, _⟩ := cellsq2 (hf' 0 (by omega))
    obtain ⟨b, off, e, r⟩ := cellsq2 (hf' j hj)
    have ha : a = ⟨b0, o0, none⟩ := by
      rw [← e0, Nat.zero_mul]; unfold Addr.add; split <;> simp_all
    subst ha
    rw [Addr.add_lit] at e
    cases e
    exact ⟨_, _, rfl, r⟩
theorem inf29 : (Try.prog.info? 29).map (·.size) = some 2 := by kernel_rfl
theorem und29 : ∃ fs, Try.prog.underlying 29 = some (.struct fs) := ⟨_, Try.underlying29⟩
theorem zer29 (w : World) : (zeroValue 29).run Try.prog w = .ok (.agg #[.int .i64 0, .int .i64 0]) w := by kernel_rfl
theorem zer26 (w : World) : (zeroValue 26).run Try.prog w = .ok (.agg #[.bool false, .bool false, .bool false, .bool false]) w := by kernel_rfl
theorem zer27 (w : World) : (zeroValue 27).run Try.prog w = .ok (.agg #[.int .i64 0, .int .i64 0, .int .i64 0, .int .i64 0]) w := by kernel_rfl
section
variable {X : Nat → Prop} {w0 w : World} {L : List (Nat × Array Value × TypeId)} {ops : Array Oper} {rest : List Oper} {o : Oper} {a : Act} {Q : Exit → Act → World → Prop}
/-- a pick of the script is loaded -/
theorem wp_ldq (hg : o.guard = none) (x : Operand) (ho : o.op = .load 29 x) (b p : Nat) (hx : a.eval x = .pointer (some ⟨b, p, none⟩)) (v0 v1 : Value) (h0 : w.cell? ⟨b, p, none⟩ = some v0) (h1 : w.cell? ⟨b, p + 1, none⟩ = some v1)
    (h : wpList Try.prog ops Q rest (a.put o.dst (.agg #[v0, v1])) w) : wpList Try.prog ops Q (o :: rest) a w := by
  obtain ⟨fs, hu⟩ := und29
  refine wpList_load_mid hg 29 x ho b p hx [v0, v1] (.struct fs) (fun j v hv => ?_) hu rfl (by rw [inf29]; rfl) (by simpa using h)
  match j, hv with
  | 0, hv => simp at hv; subst hv; exact h0
  | 1, hv => simp at hv; subst hv; exact h1
  | j + 2, hv => simp at hv
theorem wpm_al29 (HM : Hid (Mem X w0 w L)) (hg : o.guard = none) (ho : o.op = .alloc 29)
    (h : ∀ W, Hid (Mem X w0 W (L ++ [(w.heap.size, #[.int .i64 0, .int .i64 0], 29)])) → wpList Try.prog ops Q rest (a.put o.dst (.pointer (some ⟨w.heap.size, 0, none⟩))) W) : wpList Try.prog ops Q (o :: rest) a w := wpm_al HM hg 29 ho _ zer29 h
theorem wpm_ld29 (HM : Hid (Mem X w0 w L)) (hg : o.guard = none) (x : Operand) (ho : o.op = .load 29 x) (i : Nat) {b : Nat} {C : Array Value} (hi : L[i]? = some (b, C, 29)) (hx : a.eval x = .pointer (some ⟨b, 0, none⟩)) (hs : C.size = 2) (h : wpList Try.prog ops Q rest (a.put o.dst (.agg C)) w) : wpList Try.prog ops Q (o :: rest) a w :=
  wpm_ld HM hg 29 x ho i hi hx 2 und29 inf29 hs h
theorem wpm_st29 (HM : Hid (Mem X w0 w L)) (hg : o.guard = none) (x y : Operand) (ho : o.op = .store 29 x y) (i : Nat) {b : Nat} {C : Array Value} (hi : L[i]? = some (b, C, 29)) (hC : C.size = 2) (u v : Int) (hx : a.eval x = .pointer (some ⟨b, 0, none⟩)) (hy : a.eval y = .agg #[.int .i64 u, .int .i64 v])
    (h : ∀ W, Hid (Mem X w0 W (L.set i (b, #[.int .i64 u, .int .i64 v], 29))) → wpList Try.prog ops Q rest (a.put o.dst undef) W) : wpList Try.prog ops Q (o :: rest) a w := wpm_st HM hg 29 x y ho i hi _ hx hy 2 inf29 hC rfl (by simp [Value.oneCell']) h
theorem wpm_al26 (HM : Hid (Mem X w0 w L)) (hg : o.guard = none) (ho : o.op = .alloc 26)
    (h : ∀ W, Hid (Mem X w0 W (L ++ [(w.heap.size, #[.bool false, .bool false, .bool false, .bool false], 26)])) → wpList Try.prog ops Q rest (a.put o.dst (.pointer (some ⟨w.heap.size, 0, none⟩))) W) : wpList Try.prog ops Q (o :: rest) a w := wpm_al HM hg 26 ho _ zer26 h
theorem wpm_al27 (HM : Hid (Mem X w0 w L)) (hg : o.guard = none) (ho : o.op = .alloc 27)
    (h : ∀ W, Hid (Mem X w0 W (L ++ [(w.heap.size, #[.int .i64 0, .int .i64 0, .int .i64 0, .int .i64 0], 27)])) → wpList Try.prog ops Q rest (a.put o.dst (.pointer (some ⟨w.heap.size, 0, none⟩))) W) : wpList Try.prog ops Q (o :: rest) a w := wpm_al HM hg 27 ho _ zer27 h
end
/-- four booleans, four numbers -/
structure Bl4 (C : Array Value) (f : Nat → Bool) : Prop where
  size : C.size = 4
  get : ∀ i, i < 4 → C[i]? = some (.bool (f i))
structure In4 (C : Array Value) (f : Nat → Int) : Prop where
  size : C.size = 4
  get : ∀ i, i < 4 → C[i]? = some (.int .i64 (f i))
theorem Bl4.set {C : Array Value} {f : Nat → Bool} (h : Bl4 C f) (c : Nat) (y : Bool) : Bl4 (C.setIfInBounds c (.bool y)) (upd f c y) := by
  have := h.size
  refine ⟨by simp [h.size], fun i hi => ?_⟩
  rw [Array.getElem?_setIfInBounds]
  unfold upd
  by_cases e : c = i
  · subst e; rw [if_pos rfl, if_pos (by omega), if_pos rfl]
  · rw [if_neg e, if_neg (fun h => e h.symm)]; exact h.get i hi
theorem In4.set {C : Array Value} {f : Nat → Int} (h : In4 C f) (c : Nat) (y : Int) : In4 (C.setIfInBounds c (.int .i64 y)) (upd f c y) := by
  have := h.size
  refine ⟨by simp [h.size], fun i hi => ?_⟩
  rw [Array.getElem?_setIfInBounds]
  unfold upd
  by_cases e : c = i
  · subst e; rw [if_pos rfl, if_pos (by omega), if_pos rfl]
  · rw [if_neg e, if_neg (fun h => e h.symm)]; exact h.get i hi
theorem Bl4.zero : Bl4 #[.bool false, .bool false, .bool false, .bool false] (fun _ => false) := ⟨rfl, fun i hi => by
  match i, hi with
  | 0, _ => rfl
  | 1, _ => rfl
  | 2, _ => rfl
  | 3, _ => rfl⟩
theorem In4.zero : In4 #[.int .i64 0, .int .i64 0, .int .i64 0, .int .i64 0] (fun _ => 0) := ⟨rfl, fun i hi => by
  match i, hi with
  | 0, _ => rfl
  | 1, _ => rfl
  | 2, _ => rfl
  | 3, _ => rfl⟩
/-- a law's three blocks, and its run's -/
def X4 (R bp ba bd : Nat) : Nat → Prop := fun b => b = R ∨ b = bp ∨ b = ba ∨ b = bd
theorem Mem.start3 {w : World} {R bp ba bd : Nat} {Cp Ca Cd : Array Value} (h1 : HB w bp Cp 26) (h2 : HB w ba Ca 27) (h3 : HB w bd Cd 27) (n1 : bp ≠ ba) (n2 : bp ≠ bd) (n3 : ba ≠ bd) : Mem (X4 R bp ba bd) w w [(bp, Cp, 26), (ba, Ca, 27), (bd, Cd, 27)] := by
  refine ⟨rfl, rfl, rfl, Nat.le_refl _, fun _ _ _ => rfl, fun i b C t hi => ?_, fun i b C t hi => ?_, fun i j b C1 C2 t1 t2 hi hj => ?_⟩
  · match i, hi with
    | 0, hi => simp at hi; obtain ⟨rfl, rfl, rfl⟩ := hi; exact h1
    | 1, hi => simp at hi; obtain ⟨rfl, rfl, rfl⟩ := hi; exact h2
    | 2, hi => simp at hi; obtain ⟨rfl, rfl, rfl⟩ := hi; exact h3
    | i + 3, hi => simp at hi
  · match i, hi with
    | 0, hi => simp at hi; exact .inl (.inr (.inl hi.1.symm))
    | 1, hi => simp at hi; exact .inl (.inr (.inr (.inl hi.1.symm)))
    | 2, hi => simp at hi; exact .inl (.inr (.inr (.inr hi.1.symm)))
    | i + 3, hi => simp at hi
  · have key : ∀ k (C : Array Value) (t : TypeId), ([(bp, Cp, 26), (ba, Ca, 27), (bd, Cd, 27)] : List (Nat × Array Value × TypeId))[k]? = some (b, C, t) → (k = 0 ∧ b = bp) ∨ (k = 1 ∧ b = ba) ∨ (k = 2 ∧ b = bd) := fun k C t hk => by
      match k, hk with
      | 0, hk => simp at hk; exact .inl ⟨rfl, hk.1.symm⟩
      | 1, hk => simp at hk; exact .inr (.inl ⟨rfl, hk.1.symm⟩)
      | 2, hk => simp at hk; exact .inr (.inr ⟨rfl, hk.1.symm⟩)
      | k + 3, hk => simp at hk
    have a := key i _ _ hi
    have b := key j _ _ hj
    omega
theorem Mem.afterR {X : Nat → Prop} {w0 W W2 : World} {L : List (Nat × Array Value × TypeId)} {R : Nat} (h : Mem X w0 W L) (hk : KeepR R W W2) (hX : X R) (hL : ∀ (i b : Nat) (C : Array Value) (t : TypeId), L[i]? = some (b, C, t) → b ≠ R) : Mem X w0 W2 L :=
  ⟨hk.os.trans h.os, hk.tape.trans h.tape, hk.output.trans h.output, Nat.le_trans h.size hk.size, fun k hlt hx => (hk.old k (Nat.lt_of_lt_of_le hlt h.size) (fun e => hx (by rw [e]; exact hX))).trans (h.old k hlt hx),
    fun i b C t hi => by have hb := h.hb i b C t hi; unfold HB at hb ⊢; rw [hk.old b (Array.getElem?_eq_some_iff.1 hb).1 (hL i b C t hi)]; exact hb, h.st, h.nd⟩
/-- what a law leaves to a run -/
def PL4 (R bp ba bd N : Nat) : Nat → Prop := fun b => b ≠ R ∧ b ≠ bp ∧ b ≠ ba ∧ b ≠ bd ∧ b ≠ N
end Go.Proofs.Ytgpdknacnmapiaa
namespace Go.Proofs.Ytgpdknacnmapiaa
set_option linter.unusedVariables false
set_option linter.unusedSimpArgs false
open Go.RowKit
def Gw : Fr := ⟨52, 0, fun k => if k = 0 then 1 else 0⟩
def D55 : Array Value := (Array.range 96).map fun i => .int .i64 (Gw.r i)
def Gw2 : Fr := ((Gw.at_ 1).reg 1 7).at_ 2
set_option maxRecDepth 100000 in
theorem bm55 (w : World) : (Instr.build 55 #[(0, .int .i64 1)]).run Try.prog w = .ok (.agg D55) w := by kernel_rfl
set_option maxRecDepth 100000 in
theorem bm57 (w : World) : (Instr.build 57 #[(0, .int .i8 52), (2, .agg D55)]).run Try.prog w = .ok (.agg Gw.cells) w := by kernel_rfl
theorem wp_c55 {ops : Array Oper} {rest : List Oper} {o : Oper} {a : Act} {w : World} {Q : Exit → Act → World → Prop} (hg : o.guard = none) (ho : o.op = .build 55 #[(0, .const (.int .i64 1))]) (C : Array Value) (hC : ∀ w, (Instr.build 55 #[(0, .int .i64 1)]).run Try.prog w = .ok (.agg C) w) (h : wpList Try.prog ops Q rest (a.put o.dst (.agg C)) w) : wpList Try.prog ops Q (o :: rest) a w := by
  refine wpList_plain hg fun K hK => ?_
  unfold Oper.wp execOp
  simp only [ho]
  simp [hC, Sem.run_bind, Act.eval]
  exact hK _ _ h
theorem wp_c57 {ops : Array Oper} {rest : List Oper} {o : Oper} {a : Act} {w : World} {Q : Exit → Act → World → Prop} (hg : o.guard = none) (x : Operand) (ho : o.op = .build 57 #[(0, .const (.int .i8 52)), (2, x)]) (C : Array Value) (hx : a.eval x = .agg C) (F : Fr) (hC : ∀ w, (Instr.build 57 #[(0, .int .i8 52), (2, .agg C)]).run Try.prog w = .ok (.agg F.cells) w) (h : wpList Try.prog ops Q rest (a.put o.dst (.agg F.cells)) w) : wpList Try.prog ops Q (o :: rest) a w := by
  refine wpList_plain hg fun K hK => ?_
  unfold Oper.wp execOp
  simp only [ho]
  have e : a.eval (.const (.int .i8 52)) = .int .i8 52 := rfl
  simp [hx, e, hC, Sem.run_bind]
  exact hK _ _ h
theorem safe33 (e a : Int) (y : Bool) (w : World) (he : 0 ≤ e ∧ e ≤ 1000) (hy : decide (a < e - 1) = y) : Calls Try.prog 33 #[.int .i64 e, .int .i64 a] w fun r w' => r = .returned (.bool y) ∧ w' = w := by
  obtain ⟨h1, h2⟩ := he
  go_enter Try.func33, Try.ntmps33
  go_wp2_with fail
  go_ret
  exact ⟨rfl, rfl⟩
theorem gotM {X : Nat → Prop} {w W : World} {L : List (Nat × Array Value × TypeId)} (h : Mem X w W L) {i N : Nat} {x : Int} (hi : L[i]? = some (N, #[.int .i64 x], 3)) : GotV W (.slice (some ⟨N, 0, none⟩) 1 1) x := .inr ⟨_, _, rfl, (h.hb i _ _ _ hi).cell (k := 0) rfl⟩
set_option maxHeartbeats 2000000 in
set_option maxRecDepth 100000 in
theorem wakes_main13 (C : Array Value) (F F1 F2 : Fr) (hC : ∀ w, (Instr.build 55 #[(0, .int .i64 1)]).run Try.prog w = .ok (.agg C) w) (hW : ∀ w, (Instr.build 57 #[(0, .int .i8 52), (2, .agg C)]).run Try.prog w = .ok (.agg F.cells) w) (hp : F2.pg = 52)
    (hA : C32 F 0 F1 0 2 0 0 []) (hB : C32 F1 7 F2 1 6 0 8 [])
    (w : World) : Calls Try.prog 10 #[] w fun e w' => e = .returned (.bool true) ∧ Below w.heap.size w w' := by
  have HA := Lib.hid hA
  have HB := Lib.hid hB
  have H55 := Lib.hid hC
  have H57 := Lib.hid hW
  have HPG := Lib.hid (by rw [← hp]; exact F2.c0 : F2.cells[0]? = some (.int .i8 52))
  have HM := Lib.hid (Mem.start w)
  clear hA hB hC hW hp
  go_enter Try.func10, Try.ntmps10
  go_wp2_with (first
    | (refine wp_c55 rfl rfl C H55.out ?_)
    | (refine wp_c57 rfl (.tmp 6) rfl C rfl F H57.out ?_))
  refine (HA.out _ _ (.inl ⟨rfl, rfl⟩)).mono ?_
  rintro e W1 ⟨⟨ao1, n1, c1, rfl, hi⟩, hb⟩
  replace HM := Lib.hid (HM.out.below hb)
  clear hb hi
  go_wp2_with (first
    | (refine wpm_al57 HM rfl rfl ?_; intro A1 hM; (try simp only [List.cons_append, List.nil_append, List.set_cons_succ, List.set_cons_zero, Nat.reduceAdd] at hM); replace HM := hM; clear hM)
    | (refine wpm_al59 HM rfl rfl ?_; intro A2 hM; (try simp only [List.cons_append, List.nil_append, List.set_cons_succ, List.set_cons_zero, Nat.reduceAdd] at hM); replace HM := hM; clear hM)
    | (refine wpm_st57 HM rfl (.tmp 1) (.tmp 9) rfl 0 rfl F1 rfl rfl ?_; intro W hM; (try simp only [List.cons_append, List.nil_append, List.set_cons_succ, List.set_cons_zero, Nat.reduceAdd] at hM); replace HM := hM; clear hM)
    | (refine wpm_st59 HM rfl (.tmp 2) (.tmp 10) rfl 1 rfl rfl 0 2 0 0 0 ao1 n1 c1 rfl rfl ?_; intro W hM; (try simp only [List.cons_append, List.nil_append, List.set_cons_succ, List.set_cons_zero, Nat.reduceAdd] at hM); replace HM := hM; clear hM)
    | (refine wpm_ld57 HM rfl (.tmp 1) rfl 0 rfl rfl ?_)
    | (refine wpm_bsI1 HM rfl (.const (.int .i64 7)) rfl 7 rfl ?_; intro W5 hM; (try simp only [List.cons_append, List.nil_append, List.set_cons_succ, List.set_cons_zero, Nat.reduceAdd] at hM); replace HM := hM; clear hM))
  refine (HB.out _ _ (gotM HM.out (i := 2) rfl)).mono ?_
  rintro e W6 ⟨⟨ao2, n2, c2, rfl, hi⟩, hb⟩
  replace HM := Lib.hid (HM.out.below hb)
  clear hb hi
  go_wp2_with (first
    | (refine wpm_al57 HM rfl rfl ?_; intro A3 hM; (try simp only [List.cons_append, List.nil_append, List.set_cons_succ, List.set_cons_zero, Nat.reduceAdd] at hM); replace HM := hM; clear hM)
    | (refine wpm_al59 HM rfl rfl ?_; intro A4 hM; (try simp only [List.cons_append, List.nil_append, List.set_cons_succ, List.set_cons_zero, Nat.reduceAdd] at hM); replace HM := hM; clear hM)
    | (refine wpm_st57 HM rfl (.tmp 3) (.tmp 15) rfl 3 rfl F2 rfl rfl ?_; intro W hM; (try simp only [List.cons_append, List.nil_append, List.set_cons_succ, List.set_cons_zero, Nat.reduceAdd] at hM); replace HM := hM; clear hM)
    | (refine wpm_st59 HM rfl (.tmp 4) (.tmp 16) rfl 4 rfl rfl 1 6 0 8 0 ao2 n2 c2 rfl rfl ?_; intro W9 hM; (try simp only [List.cons_append, List.nil_append, List.set_cons_succ, List.set_cons_zero, Nat.reduceAdd] at hM); replace HM := hM; clear hM))
  replace HM := Lib.hid HM.out.drew
  have HF : Hid (∀ p ∈ ([(⟨A1.heap.size, 0, none⟩, .int .i8 0), (⟨A1.heap.size, 1, none⟩, .int .i64 2), (⟨A3.heap.size, 0, none⟩, .int .i8 1), (⟨A3.heap.size, 1, none⟩, .int .i64 6), (⟨A3.heap.size, 3, none⟩, .int .i64 8), (⟨W6.heap.size, 0, none⟩, .int .i8 52)] : List (Addr × Value)), World.cell? _ p.1 = some p.2) := Lib.hid (allc ((HM.out.hb 1 _ _ _ rfl).cell (k := 0) rfl) (allc ((HM.out.hb 1 _ _ _ rfl).cell (k := 1) rfl) (allc ((HM.out.hb 4 _ _ _ rfl).cell (k := 0) rfl) (allc ((HM.out.hb 4 _ _ _ rfl).cell (k := 1) rfl) (allc ((HM.out.hb 4 _ _ _ rfl).cell (k := 3) rfl) (allc ((HM.out.hb 3 _ _ _ rfl).cell (k := 0) HPG.out) (alln _)))))))
  haveI : Inhabited (CW [(⟨A1.heap.size, 0, none⟩, .int .i8 0), (⟨A1.heap.size, 1, none⟩, .int .i64 2), (⟨A3.heap.size, 0, none⟩, .int .i8 1), (⟨A3.heap.size, 1, none⟩, .int .i64 6), (⟨A3.heap.size, 3, none⟩, .int .i64 8), (⟨W6.heap.size, 0, none⟩, .int .i8 52)]) := ⟨⟨_, HF.out⟩⟩
  have f0 : ∀ q : CW [(⟨A1.heap.size, 0, none⟩, .int .i8 0), (⟨A1.heap.size, 1, none⟩, .int .i64 2), (⟨A3.heap.size, 0, none⟩, .int .i8 1), (⟨A3.heap.size, 1, none⟩, .int .i64 6), (⟨A3.heap.size, 3, none⟩, .int .i64 8), (⟨W6.heap.size, 0, none⟩, .int .i8 52)], q.1.cell? ⟨A1.heap.size, 0, none⟩ = some (.int .i8 0) := fun q => q.2 (⟨A1.heap.size, 0, none⟩, .int .i8 0) (by simp)
  have f1 : ∀ q : CW [(⟨A1.heap.size, 0, none⟩, .int .i8 0), (⟨A1.heap.size, 1, none⟩, .int .i64 2), (⟨A3.heap.size, 0, none⟩, .int .i8 1), (⟨A3.heap.size, 1, none⟩, .int .i64 6), (⟨A3.heap.size, 3, none⟩, .int .i64 8), (⟨W6.heap.size, 0, none⟩, .int .i8 52)], q.1.cell? ⟨A1.heap.size, 1, none⟩ = some (.int .i64 2) := fun q => q.2 (⟨A1.heap.size, 1, none⟩, .int .i64 2) (by simp)
  have f2 : ∀ q : CW [(⟨A1.heap.size, 0, none⟩, .int .i8 0), (⟨A1.heap.size, 1, none⟩, .int .i64 2), (⟨A3.heap.size, 0, none⟩, .int .i8 1), (⟨A3.heap.size, 1, none⟩, .int .i64 6), (⟨A3.heap.size, 3, none⟩, .int .i64 8), (⟨W6.heap.size, 0, none⟩, .int .i8 52)], q.1.cell? ⟨A3.heap.size, 0, none⟩ = some (.int .i8 1) := fun q => q.2 (⟨A3.heap.size, 0, none⟩, .int .i8 1) (by simp)
  have f3 : ∀ q : CW [(⟨A1.heap.size, 0, none⟩, .int .i8 0), (⟨A1.heap.size, 1, none⟩, .int .i64 2), (⟨A3.heap.size, 0, none⟩, .int .i8 1), (⟨A3.heap.size, 1, none⟩, .int .i64 6), (⟨A3.heap.size, 3, none⟩, .int .i64 8), (⟨W6.heap.size, 0, none⟩, .int .i8 52)], q.1.cell? ⟨A3.heap.size, 1, none⟩ = some (.int .i64 6) := fun q => q.2 (⟨A3.heap.size, 1, none⟩, .int .i64 6) (by simp)
  have f4 : ∀ q : CW [(⟨A1.heap.size, 0, none⟩, .int .i8 0), (⟨A1.heap.size, 1, none⟩, .int .i64 2), (⟨A3.heap.size, 0, none⟩, .int .i8 1), (⟨A3.heap.size, 1, none⟩, .int .i64 6), (⟨A3.heap.size, 3, none⟩, .int .i64 8), (⟨W6.heap.size, 0, none⟩, .int .i8 52)], q.1.cell? ⟨A3.heap.size, 3, none⟩ = some (.int .i64 8) := fun q => q.2 (⟨A3.heap.size, 3, none⟩, .int .i64 8) (by simp)
  have f5 : ∀ q : CW [(⟨A1.heap.size, 0, none⟩, .int .i8 0), (⟨A1.heap.size, 1, none⟩, .int .i64 2), (⟨A3.heap.size, 0, none⟩, .int .i8 1), (⟨A3.heap.size, 1, none⟩, .int .i64 6), (⟨A3.heap.size, 3, none⟩, .int .i64 8), (⟨W6.heap.size, 0, none⟩, .int .i8 52)], q.1.cell? ⟨W6.heap.size, 0, none⟩ = some (.int .i8 52) := fun q => q.2 (⟨W6.heap.size, 0, none⟩, .int .i8 52) (by simp)
  (try simp only [Act.put, List.setIfInBounds_toArray, List.set_cons_succ, List.set_cons_zero])
  refine wp_region_noPanic ?_
  refine wp_region_plw (.step [true, true, true, true, true, true, true, true, true, true, true, true, true, true, true, true] (.cons 16 (.step [false, false, false, false, false, false, false, false, false, false, false, false, false, false, false, false, false, true, true, true, true, true, true, true, true, true, true, true, true, true] (.cons 30 (.step [false, false, false, false, false, false, false, false, false, false, false, false, false, false, false, false, false, false, false, false, false, false, false, false, false, false, false, false, false, false, false, true, true] (.cons 33 (.last [false, false, false, false, false, false, false, false, false, false, false, false, false, false, false, false, false, false, false, false, false, false, false, false, false, false, false, false, false, false, false, false, false, false, true, true, true]) .nil)) .nil)) .nil)) (fun y => ∃ q : CW [(⟨A1.heap.size, 0, none⟩, .int .i8 0), (⟨A1.heap.size, 1, none⟩, .int .i64 2), (⟨A3.heap.size, 0, none⟩, .int .i8 1), (⟨A3.heap.size, 1, none⟩, .int .i64 6), (⟨A3.heap.size, 3, none⟩, .int .i64 8), (⟨W6.heap.size, 0, none⟩, .int .i8 52)], y = q.1) (by kernel_rfl) (by kernel_rfl) (by kernel_rfl) (fun _ _ _ _ _ _ _ h => h) ⟨⟨_, HF.out⟩, rfl⟩ ?_
  simp only [wpPw, wpBw, selF, and_true]
  generalize W9.drew = V1 at *
  repeat (go_big_quiet_step (fail))
  refine wpQuiet_nil ?_
  refine wpOp_step rfl (fun K hK => ?_)
  go_simp
  refine (pin13d 1 6 _ (by omega) rfl).mono ?_
  rintro e V2 ⟨rfl, rfl⟩
  refine hK _ _ ⟨(fun y => ∃ q : CW [(⟨A1.heap.size, 0, none⟩, .int .i8 0), (⟨A1.heap.size, 1, none⟩, .int .i64 2), (⟨A3.heap.size, 0, none⟩, .int .i8 1), (⟨A3.heap.size, 1, none⟩, .int .i64 6), (⟨A3.heap.size, 3, none⟩, .int .i64 8), (⟨W6.heap.size, 0, none⟩, .int .i8 52)], y = q.1), ⟨⟨_, (allc ((HM.out.hb 1 _ _ _ rfl).cell (k := 0) rfl) (allc ((HM.out.hb 1 _ _ _ rfl).cell (k := 1) rfl) (allc ((HM.out.hb 4 _ _ _ rfl).cell (k := 0) rfl) (allc ((HM.out.hb 4 _ _ _ rfl).cell (k := 1) rfl) (allc ((HM.out.hb 4 _ _ _ rfl).cell (k := 3) rfl) (allc ((HM.out.hb 3 _ _ _ rfl).cell (k := 0) HPG.out) (alln _)))))))⟩, rfl⟩, fun _ h => h, ?_⟩
  clear hK K
  (try simp only [Act.put, List.setIfInBounds_toArray, List.set_cons_succ, List.set_cons_zero])
  repeat (go_big_quiet_step (fail))
  refine wpQuiet_nil ?_
  refine wpOp_step rfl (fun K hK => ?_)
  go_simp
  refine (safe33 5 3 true _ (by omega) (by decide)).mono ?_
  rintro e V3 ⟨rfl, rfl⟩
  refine hK _ _ ⟨(fun y => ∃ q : CW [(⟨A1.heap.size, 0, none⟩, .int .i8 0), (⟨A1.heap.size, 1, none⟩, .int .i64 2), (⟨A3.heap.size, 0, none⟩, .int .i8 1), (⟨A3.heap.size, 1, none⟩, .int .i64 6), (⟨A3.heap.size, 3, none⟩, .int .i64 8), (⟨W6.heap.size, 0, none⟩, .int .i8 52)], y = q.1), ⟨⟨_, (allc ((HM.out.hb 1 _ _ _ rfl).cell (k := 0) rfl) (allc ((HM.out.hb 1 _ _ _ rfl).cell (k := 1) rfl) (allc ((HM.out.hb 4 _ _ _ rfl).cell (k := 0) rfl) (allc ((HM.out.hb 4 _ _ _ rfl).cell (k := 1) rfl) (allc ((HM.out.hb 4 _ _ _ rfl).cell (k := 3) rfl) (allc ((HM.out.hb 3 _ _ _ rfl).cell (k := 0) HPG.out) (alln _)))))))⟩, rfl⟩, fun _ h => h, ?_⟩
  clear hK K
  (try simp only [Act.put, List.setIfInBounds_toArray, List.set_cons_succ, List.set_cons_zero])
  repeat (go_big_quiet_step (fail))
  refine wpQuiet_nil ?_
  refine wpOp_step rfl (fun K hK => ?_)
  go_simp
  refine (safe33 5 4 false _ (by omega) (by decide)).mono ?_
  rintro e V4 ⟨rfl, rfl⟩
  refine hK _ _ ⟨(fun y => ∃ q : CW [(⟨A1.heap.size, 0, none⟩, .int .i8 0), (⟨A1.heap.size, 1, none⟩, .int .i64 2), (⟨A3.heap.size, 0, none⟩, .int .i8 1), (⟨A3.heap.size, 1, none⟩, .int .i64 6), (⟨A3.heap.size, 3, none⟩, .int .i64 8), (⟨W6.heap.size, 0, none⟩, .int .i8 52)], y = q.1), ⟨⟨_, (allc ((HM.out.hb 1 _ _ _ rfl).cell (k := 0) rfl) (allc ((HM.out.hb 1 _ _ _ rfl).cell (k := 1) rfl) (allc ((HM.out.hb 4 _ _ _ rfl).cell (k := 0) rfl) (allc ((HM.out.hb 4 _ _ _ rfl).cell (k := 1) rfl) (allc ((HM.out.hb 4 _ _ _ rfl).cell (k := 3) rfl) (allc ((HM.out.hb 3 _ _ _ rfl).cell (k := 0) HPG.out) (alln _)))))))⟩, rfl⟩, fun _ h => h, ?_⟩
  clear hK K
  (try simp only [Act.put, List.setIfInBounds_toArray, List.set_cons_succ, List.set_cons_zero])
  repeat (go_big_quiet_step (fail))
  refine wpQuiet_nil ?_
  refine NoPanic.normal ?_
  go_wp2_with fail
  go_ret
  exact ⟨rfl, HM.out.bel⟩
theorem wakes13 (w : World) : Calls Try.prog 10 #[] w fun e w' => e = .returned (.bool true) ∧ Below w.heap.size w w' := by
  refine wakes_main13 D55 Gw (Gw.at_ 1) Gw2 bm55 bm57 rfl (pn13_0 Gw 0 rfl rfl) ?_ w
  exact pn13_1 (Gw.at_ 1) 7 rfl rfl 1 rfl (by omega) (by omega)
end Go.Proofs.Ytgpdknacnmapiaa
