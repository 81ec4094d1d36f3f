/-
  A run of slots: a program begun, a step done, by what the run holds (chapter 14).
-/
import Derived.Test.YtgpdknacnmapiaaSt
import Derived.Test.YtgpdknacnmapiaaLv
namespace Go.Proofs.Ytgpdknacnmapiaa
set_option linter.unusedVariables false
set_option linter.unusedSimpArgs false
open Go.RowKit
theorem n19 {f : Fr} {j : Nat} (h : Inv f j) (hj : j ≤ 900) (x : Int) (hx : 0 ≤ x ∧ x ≤ 4095) {f2 : Fr} {k a v : Int} {l : List Int} (hr : nextG f x = ⟨f2, k, a, v, l⟩) :
    ∀ vv w, GotV w vv x → Calls Try.prog 19 #[.agg f.cells, vv] w fun e w' => AnsB w w' e f2 k a 0 v l ∧ Below w.heap.size w w' := fun vv w hg => by
  have := h.next_p hj x hx vv w hg
  rw [hr] at this
  exact this
theorem n20 {f : Fr} {j : Nat} (h : Inv f j) (hj : j ≤ 900) (x : Int) (hx : 0 ≤ x ∧ x ≤ 4095) {f2 : Fr} {k a v : Int} {l : List Int} (hr : nextG f x = ⟨f2, k, a, v, l⟩) (hk : k ≠ 7) :
    ∀ vv w, GotV w vv x → Calls Try.prog 20 #[.agg f.cells, vv] w fun e w' => AnsB w w' e f2 k a 0 v l ∧ Below w.heap.size w w' := fun vv w hg => by
  have := h.next_r hj x hx vv w hg
  rw [hr, refR_go (by exact hk)] at this
  exact this
theorem n20e {f : Fr} {j : Nat} (h : Inv f j) (hj : j ≤ 900) (x : Int) (hx : 0 ≤ x ∧ x ≤ 4095) {f2 : Fr} {k a v : Int} {l : List Int} (hr : nextG f x = ⟨f2, k, a, v, l⟩) (hk : k = 7) :
    ∀ vv w, GotV w vv x → Calls Try.prog 20 #[.agg f.cells, vv] w fun e w' => AnsB w w' e (f2.at_ 99) k a 0 v l ∧ Below w.heap.size w w' := fun vv w hg => by
  have := h.next_r hj x hx vv w hg
  rw [hr] at this
  unfold refR at this
  rw [if_pos (by exact hk)] at this
  exact this
theorem doC0 (n : Nat) (x : Int) (l : List Int) (hn : n < 771) (hx : l[n]? = some x) : DoC 0 n 0 x l l := fun Q w cv d1 d2 ao ac hP h0 h1 h2 => do_w0 w hP h0 h1 h2 n 0 0 x ao ac hn hx ⟨by omega, by omega⟩ ⟨by omega, by omega⟩
theorem doC1 (n : Nat) (v : Int) (l : List Int) (hn : n < 771) (hl : l.length = 771) (hv : -1152921504606846976 ≤ v ∧ v ≤ 1152921504606846976) : DoC 1 n v 0 l (l.set n v) := fun Q w cv d1 d2 ao ac hP h0 h1 h2 => do_w1 w hP h0 h1 h2 n 0 v _ ao ac hn (List.getElem?_eq_getElem (by omega)) ⟨by omega, by omega⟩ hv
/-- what a run holds -/
structure RunV (P : Nat → Prop) (R : Nat) (W : World) (C : Array Value) (s : RS) (l : List Int) : Prop where
  hb : HB W R C 74
  ra : RunA C s
  cv : CellsV P W (s.w 0) l
  d1 : DiskV P W (s.w 1)
  d2 : DiskV P W (s.w 2)
theorem RunV.keep {P : Nat → Prop} {R : Nat} {W W' : World} {C C' : Array Value} {s s' : RS} {l : List Int} (h : RunV P R W C s l) (hPR : ∀ b, P b → b ≠ R) (hM : Mem (fun b => b = R) W W' [(R, C', 74)]) (hA : RunA C' s') (hw : s'.w = s.w) : RunV P R W' C' s' l :=
  ⟨hM.hb 0 _ _ _ rfl, hA, by rw [hw]; exact h.cv.mem hPR hM, by rw [hw]; exact h.d1.mem hPR hM, by rw [hw]; exact h.d2.mem hPR hM⟩
theorem Mem.trR {R : Nat} {w1 w2 w3 : World} {C C' : Array Value} (h : Mem (fun b => b = R) w1 w2 [(R, C, 74)]) (h2 : Mem (fun b => b = R) w2 w3 [(R, C', 74)]) : Mem (fun b => b = R) w1 w3 [(R, C', 74)] := by
  refine ⟨h2.os.trans h.os, h2.tape.trans h.tape, h2.output.trans h.output, Nat.le_trans h.size h2.size, fun k hk hx => ?_, h2.hb, fun i b C t hi => ?_, h2.nd⟩
  · exact (h2.old k (Nat.lt_of_lt_of_le hk h.size) hx).trans (h.old k hk hx)
  · match i, hi with
    | 0, hi => simp at hi; exact .inl hi.1.symm
    | i + 1, hi => simp at hi
theorem Mem.belR {R B : Nat} {w w1 w2 : World} {L : List (Nat × Array Value × TypeId)} (h : Below B w w1) (hB : B ≤ R) (hw : B ≤ w1.heap.size) (h2 : Mem (fun b => b = R) w1 w2 L) : Below B w w2 :=
  ⟨h2.os.trans h.os, h2.tape.trans h.tape, h2.output.trans h.output, Nat.le_trans h.size h2.size, fun k hk => (h2.old k (by omega) (by omega)).trans (h.block k hk)⟩
/-- a program is begun -/
def BegunP (P : Nat → Prop) (R c : Nat) (s : RS) (l : List Int) (f : Fr) (w w' : World) : Prop :=
  ∃ C' s', RunV P R w' C' s' l ∧ Mem (fun b => b = R) w w' [(R, C', 74)] ∧ s'.b = upd s.b c true ∧ Live P w' (s'.m c) c f 0 ∧ Live P w' (s'.h c) c f 0 ∧ ∀ d, d ≠ c → s'.m d = s.m d ∧ s'.h d = s.h d
theorem bg14 {P : Nat → Prop} (c : Nat) (hc : c < 4) (pg : Int) (hp : 0 ≤ pg) (v : Value) (la : List Int) (B R : Nat) (C : Array Value) (s : RS) (l : List Int) (w : World) (hP : ∀ b, w.heap.size ≤ b → P b) (hPR : ∀ b, P b → b ≠ R) (hI : Ints B w v la) (hl : la.length ≤ 96) (h : RunV P R w C s l) (hb : s.b c = false) :
    Calls Try.prog 28 #[.pointer (some ⟨R, 0, none⟩), .int .i64 c, .int .i8 pg, v] w fun e w' => e = .returned (.tuple #[]) ∧ BegunP P R c s l (frG pg la) w w' := by
  refine (begin14 c hc pg hp v la B R C s w hP hI hl h.hb h.ra hb).mono ?_
  rintro e w' ⟨rfl, C', T, hM, hA, hL⟩
  refine ⟨rfl, C', _, h.keep hPR hM hA rfl, hM, rfl, ?_, ?_, ?_⟩
  · simpa [RS.setM, RS.setH, RS.setB, upd] using hL
  · simpa [RS.setM, RS.setH, RS.setB, upd] using hL
  · intro d hd
    simp [RS.setM, RS.setH, RS.setB, upd, hd]
/-- a step is done -/
def SteppedP (P : Nat → Prop) (R c : Nat) (s : RS) (l : List Int) (f g : Fr) (y : Int) (bs : Nat → Bool) (w w' : World) : Prop :=
  ∃ C' s', RunV P R w' C' s' l ∧ Mem (fun b => b = R) w w' [(R, C', 74)] ∧ s'.b = bs ∧ Live P w' (s'.m c) c f y ∧ Live P w' (s'.h c) c g y ∧ ∀ d, d ≠ c → s'.m d = s.m d ∧ s'.h d = s.h d
theorem StepE.go {P : Nat → Prop} {R c : Nat} {s : RS} {f g : Fr} {y : Int} {l : List Int} {w w' : World} (h : StepE P R c s f g y l false w w') : SteppedP P R c s l f g y s.b w w' := by
  obtain ⟨C', T, U, cv, hM, hA, hC, h1, h2, hT, hU⟩ := h
  rw [if_neg (by decide)] at hA
  refine ⟨C', _, ⟨hM.hb 0 _ _ _ rfl, hA, hC, h1, h2⟩, hM, rfl, ?_, ?_, ?_⟩
  · simpa [RS.setM, RS.setH, RS.setW, upd] using hT
  · simpa [RS.setM, RS.setH, RS.setW, upd] using hU
  · intro d hd
    simp [RS.setM, RS.setH, RS.setW, upd, hd]
theorem StepE.end {P : Nat → Prop} {R c : Nat} {s : RS} {f g : Fr} {y : Int} {l : List Int} {w w' : World} (h : StepE P R c s f g y l true w w') : SteppedP P R c s l f g y (upd s.b c false) w w' := by
  obtain ⟨C', T, U, cv, hM, hA, hC, h1, h2, hT, hU⟩ := h
  rw [if_pos rfl] at hA
  refine ⟨C', _, ⟨hM.hb 0 _ _ _ rfl, hA, hC, h1, h2⟩, hM, rfl, ?_, ?_, ?_⟩
  · simpa [RS.setM, RS.setH, RS.setW, RS.setB, upd] using hT
  · simpa [RS.setM, RS.setH, RS.setW, RS.setB, upd] using hU
  · intro d hd
    simp [RS.setM, RS.setH, RS.setW, RS.setB, upd, hd]
theorem st_go {P : Nat → Prop} (c : Nat) (hc : c < 4) (R : Nat) (C : Array Value) (s : RS) (l l2 : List Int) (w : World) (hP : ∀ b, w.heap.size ≤ b → P b) (hPR : ∀ b, P b → b ≠ R) (h : RunV P R w C s l) {f f2 f4 : Fr} {x y : Int} {j j2 : Nat} (hT : Live P w (s.m c) c f x) (hU : Live P w (s.h c) c f x)
    (hI : Inv f j) (hj : j ≤ 900) (hx : 0 ≤ x ∧ x ≤ 4095) {k a v : Int} (h1 : nextG f x = ⟨f2, k, a, v, []⟩) (hOk : OkA k a 0 v 0) (hk : k < 6) (hDo : DoC k a v y l l2) (hI2 : Inv f2 j2) (hj2 : j2 ≤ 900) (hy : 0 ≤ y ∧ y ≤ 4095) {k2 a2 v2 : Int} (h2 : nextG f2 y = ⟨f4, k2, a2, v2, []⟩) (hOk2 : OkA k2 a2 0 v2 0) (hk2 : k2 < 6) :
    Calls Try.prog 25 #[.pointer (some ⟨R, 0, none⟩), .int .i64 c] w fun e w' => e = .returned (.tuple #[.slice none 0 0, .bool false, .bool true]) ∧ SteppedP P R c s l2 f2 f2 y s.b w w' := by
  refine (step14_go c hc R C s w hP hPR h.hb h.ra f f f2 f2 f4 f4 x y l l2 hT hU h.cv h.d1 h.d2 k a v hOk hk k2 a2 v2 [] hOk2 hk2 (n19 hI hj x hx h1) (n20 hI hj x hx h1 (by omega)) (n19 hI2 hj2 y hy h2) (n20 hI2 hj2 y hy h2 (by omega)) hDo).mono ?_
  rintro e w' ⟨rfl, hE⟩
  exact ⟨rfl, hE.go⟩
theorem st_end {P : Nat → Prop} (c : Nat) (hc : c < 4) (R : Nat) (C : Array Value) (s : RS) (l l2 : List Int) (w : World) (hP : ∀ b, w.heap.size ≤ b → P b) (hPR : ∀ b, P b → b ≠ R) (h : RunV P R w C s l) {f f2 f4 : Fr} {x y : Int} {j j2 : Nat} (hT : Live P w (s.m c) c f x) (hU : Live P w (s.h c) c f x)
    (hI : Inv f j) (hj : j ≤ 900) (hx : 0 ≤ x ∧ x ≤ 4095) {k a v : Int} (h1 : nextG f x = ⟨f2, k, a, v, []⟩) (hOk : OkA k a 0 v 0) (hk : k < 6) (hDo : DoC k a v y l l2) (hI2 : Inv f2 j2) (hj2 : j2 ≤ 900) (hy : 0 ≤ y ∧ y ≤ 4095) {la : List Int} (h2 : nextG f2 y = ⟨f4, 7, 0, 0, la⟩) (hla : la.length ≤ 96) :
    Calls Try.prog 25 #[.pointer (some ⟨R, 0, none⟩), .int .i64 c] w fun e w' => (∃ ans, e = .returned (.tuple #[ans, .bool true, .bool true]) ∧ IntsP P w' ans la) ∧ SteppedP P R c s l2 f2 f2 y (upd s.b c false) w w' := by
  refine (step14_over c hc R C s w hP hPR h.hb h.ra f f f2 f2 f4 _ x y l l2 hT hU h.cv h.d1 h.d2 k a v hOk hk 7 0 0 la (.inr (.inr (.inr ⟨rfl, rfl, rfl, rfl, hla⟩))) rfl (n19 hI hj x hx h1) (n20 hI hj x hx h1 (by omega)) (n19 hI2 hj2 y hy h2) (n20e hI2 hj2 y hy h2 rfl) hDo).mono ?_
  rintro e w' ⟨ans, rfl, hI, hE⟩
  exact ⟨⟨ans, rfl, hI⟩, hE.end⟩
end Go.Proofs.Ytgpdknacnmapiaa
