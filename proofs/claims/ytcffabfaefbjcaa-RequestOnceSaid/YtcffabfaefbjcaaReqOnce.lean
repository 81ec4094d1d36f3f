/-
  The walk of RequestOnce (chapter 08).
-/
import Derived.Test.YtcffabfaefbjcaaReqWrites
import Derived.Test.YtcffabfaefbjcaaOncePlain
import Derived.Outline
namespace Go.Proofs.Ytcffabfaefbjcaa
set_option linter.unusedVariables false
open Go.RowKit
/-- the boxes of two requests, in a world later on -/
structure Box2 (a b : Rq) (w x : World) : Prop where
  one : ∀ i, x.cell? ⟨w.heap.size, i, none⟩ = a.cells[i]?
  two : ∀ i, x.cell? ⟨w.heap.size + 1, i, none⟩ = b.cells[i]?
  lt : w.heap.size + 1 < x.heap.size
  below : Below w.heap.size w x
theorem Box2.start {a b : Rq} {w x : World} (h : Below ((w.alloc (.cells a.cells 34)).alloc (.cells b.cells 34)).heap.size ((w.alloc (.cells a.cells 34)).alloc (.cells b.cells 34)) x) : Box2 a b w x := by
  refine ⟨fun i => ?_, fun i => ?_, by have := h.size; simp at this; omega, (((Below.refl _ _).alloc (Nat.le_refl _) _).alloc (by simp) _).trans (h.mono (by simp; omega))⟩
  · rw [h.cell (p := ⟨w.heap.size, i, none⟩) (by show w.heap.size < _; simp; omega)]
    simp
  · rw [h.cell (p := ⟨w.heap.size + 1, i, none⟩) (by show w.heap.size + 1 < _; simp)]
    simp
theorem Box2.later {a b : Rq} {w x x' : World} (h : Box2 a b w x) (hb : Below x.heap.size x x') : Box2 a b w x' := by
  refine ⟨fun i => ?_, fun i => ?_, Nat.lt_of_lt_of_le h.lt hb.size, h.below.trans (hb.mono (by have := h.lt; omega))⟩
  · rw [hb.cell (p := ⟨w.heap.size, i, none⟩) (by show w.heap.size < _; have := h.lt; omega)]; exact h.one i
  · rw [hb.cell (p := ⟨w.heap.size + 1, i, none⟩) h.lt]; exact h.two i
theorem Box2.alloc {a b : Rq} {w x : World} (h : Box2 a b w x) (o : Obj) : Box2 a b w (x.alloc o) := h.later ((Below.refl _ _).alloc (Nat.le_refl _) _)
theorem Box2.set {a b : Rq} {w x : World} (h : Box2 a b w x) {n i : Nat} (hn : w.heap.size + 1 < n) (v : Value) : Box2 a b w (x.setCell ⟨n, i, none⟩ v) := by
  have hb : Below (w.heap.size + 2) x (x.setCell ⟨n, i, none⟩ v) := (Below.refl _ _).setCell (by show w.heap.size + 2 ≤ n; omega) _
  refine ⟨fun i => ?_, fun i => ?_, by rw [World.size_setCell]; exact h.lt, h.below.trans (hb.mono (by omega))⟩
  · rw [hb.cell (p := ⟨w.heap.size, i, none⟩) (by show w.heap.size < _; omega)]; exact h.one i
  · rw [hb.cell (p := ⟨w.heap.size + 1, i, none⟩) (by show w.heap.size + 1 < _; omega)]; exact h.two i
/-- the third one's box -/
theorem box3 {w2 w3 : World} {cs : Array Value} (h : Below (w2.alloc (.cells cs 34)).heap.size (w2.alloc (.cells cs 34)) w3) : w3.heap[w2.heap.size]? = some (.cells cs 34 (0, 0)) := by
  rw [h.block _ (by simp)]; exact heap_alloc_new _ _
theorem Rq.wf_t (a : Rq) (h : a.wf) (n : Int) (hn : -9223372036854775808 ≤ n ∧ n ≤ 9223372036854775807) : Rq.wf { a with t := n } := by
  refine ⟨h.1, fun f => ?_⟩
  match f with
  | 0 => exact hn
  | 1 => exact h.2 1
  | 2 => exact h.2 2
  | 3 => exact h.2 3
  | 4 => exact h.2 4
  | n + 5 => exact h.2 5
theorem ne_ite {α : Type} (a b : Rq) (h : a ≠ b) (x y : α) : (if a.k = b.k then if a.t = b.t then if a.y = b.y then if a.v = b.v then if a.p = b.p then if a.f = b.f then if a.o = b.o then x else y else y else y else y else y else y else y) = y := by
  repeat' split
  all_goals first
    | rfl
    | (exfalso
       refine h ?_
       obtain ⟨k, t, y, v, p, f, o⟩ := a
       obtain ⟨k', t', y', v', p', f', o'⟩ := b
       simp only at *
       simp [*])
theorem once_bad (a b : Rq) (ha : a.wf) (hb : b.wf) (h : BE a = 0 ∧ BE b = 2 ∨ BE a = 2) (w : World) : Calls Try.prog 6 #[.agg a.cells, .agg b.cells] w fun e w' => e = .returned (.bool true) ∧ Below w.heap.size w w' := by
  have PA := Lib.hid (rqBytes_any a ha)
  have PB := Lib.hid (rqBytes_any b hb)
  have HRS := Lib.hid (fun w x => Box2.start (a := a) (b := b) (w := w) (x := x))
  rcases h with ⟨h1, h2⟩ | h1
  · rw [h1] at PA
    rw [h2] at PB
    clear h1 h2 ha hb
    unfold Rq.cells at *
    go_enter Try.func6, Try.ntmps6
    go_wp2_with fail
    refine (PA.out _).mono ?_
    rintro e w1 ⟨v1, rfl, hs1, hb1⟩
    have HX := Lib.hid (HRS.out _ _ hb1)
    clear hs1 hb1
    have hc0 : w1.cell? ⟨w.heap.size + 1, 0, none⟩ = some (.int .i8 b.k) := HX.out.two 0
    have hc1 : w1.cell? ⟨w.heap.size + 1, 1, none⟩ = some (.int .i64 b.t) := HX.out.two 1
    have hc2 : w1.cell? ⟨w.heap.size + 1, 2, none⟩ = some (.int .i64 b.y) := HX.out.two 2
    have hc3 : w1.cell? ⟨w.heap.size + 1, 3, none⟩ = some (.int .i64 b.v) := HX.out.two 3
    have hc4 : w1.cell? ⟨w.heap.size + 1, 4, none⟩ = some (.int .i64 b.p) := HX.out.two 4
    have hc5 : w1.cell? ⟨w.heap.size + 1, 5, none⟩ = some (.int .i64 b.f) := HX.out.two 5
    have hc6 : w1.cell? ⟨w.heap.size + 1, 6, none⟩ = some (.int .i64 b.o) := HX.out.two 6
    go_wp2_with fail
    refine (PB.out _).mono ?_
    rintro e w2 ⟨v2, rfl, hs2, hb2⟩
    have HX2 := Lib.hid (HX.out.later hb2)
    clear hs2 hb2 HX hc0 hc1 hc2 hc3 hc4 hc5 hc6
    go_wp2_with (go_at_call 25; refine (wakes08_any _).mono ?_; rintro e w3 ⟨rfl, hb3⟩)
    go_ret
    exact ⟨rfl, (HX2.out.later hb3).below⟩
  · rw [h1] at PA
    clear h1 ha hb
    obtain ⟨E, hE⟩ : ∃ E, BE b = E := ⟨_, rfl⟩
    rw [hE] at PB
    clear hE
    unfold Rq.cells at *
    go_enter Try.func6, Try.ntmps6
    go_wp2_with fail
    refine (PA.out _).mono ?_
    rintro e w1 ⟨v1, rfl, hs1, hb1⟩
    have HX := Lib.hid (HRS.out _ _ hb1)
    clear hs1 hb1
    have hc0 : w1.cell? ⟨w.heap.size + 1, 0, none⟩ = some (.int .i8 b.k) := HX.out.two 0
    have hc1 : w1.cell? ⟨w.heap.size + 1, 1, none⟩ = some (.int .i64 b.t) := HX.out.two 1
    have hc2 : w1.cell? ⟨w.heap.size + 1, 2, none⟩ = some (.int .i64 b.y) := HX.out.two 2
    have hc3 : w1.cell? ⟨w.heap.size + 1, 3, none⟩ = some (.int .i64 b.v) := HX.out.two 3
    have hc4 : w1.cell? ⟨w.heap.size + 1, 4, none⟩ = some (.int .i64 b.p) := HX.out.two 4
    have hc5 : w1.cell? ⟨w.heap.size + 1, 5, none⟩ = some (.int .i64 b.f) := HX.out.two 5
    have hc6 : w1.cell? ⟨w.heap.size + 1, 6, none⟩ = some (.int .i64 b.o) := HX.out.two 6
    go_wp2_with fail
    refine (PB.out _).mono ?_
    rintro e w2 ⟨v2, rfl, hs2, hb2⟩
    have HX2 := Lib.hid (HX.out.later hb2)
    clear hs2 hb2 HX hc0 hc1 hc2 hc3 hc4 hc5 hc6
    go_wp2_with (go_at_call 25; refine (wakes08_any _).mono ?_; rintro e w3 ⟨rfl, hb3⟩)
    go_ret
    exact ⟨rfl, (HX2.out.later hb3).below⟩
set_option maxHeartbeats 4000000 in
theorem once_own_eq (a b : Rq) (ha : a.wf) (hb : b.wf) (e1 : BE a = 0) (e2 : BE b = 0) (ho : ownB a.k = true) (he : a = b) (w : World) : Calls Try.prog 6 #[.agg a.cells, .agg b.cells] w fun e w' => e = .returned (.bool true) ∧ Below w.heap.size w w' := by
  subst he
  have PA := Lib.hid (rqBytes_any a ha)
  have PB := Lib.hid (rqBytes_any a ha)
  rw [e1] at PA
  rw [e1] at PB
  have PM := Lib.hid (rqMay_any { a with t := 0 } (a.wf_t ha 0 ⟨by omega, by omega⟩))
  rw [may_own a ho] at PM
  have HW := Lib.hid ha.1
  have PO := Lib.hid (own_any a.k ha.1)
  rw [ho] at PO
  have HRS := Lib.hid (fun w x => Box2.start (a := a) (b := a) (w := w) (x := x))
  clear ha hb e1 e2 ho
  unfold Rq.cells at *
  go_enter Try.func6, Try.ntmps6
  go_wp2_with fail
  refine (PA.out _).mono ?_
  rintro e w1 ⟨v1, rfl, hs1, hb1⟩
  have HX := Lib.hid (HRS.out _ _ hb1)
  have HS1 := Lib.hid hs1
  clear hs1 hb1
  have hc0 : w1.cell? ⟨w.heap.size + 1, 0, none⟩ = some (.int .i8 a.k) := HX.out.two 0
  have hc1 : w1.cell? ⟨w.heap.size + 1, 1, none⟩ = some (.int .i64 a.t) := HX.out.two 1
  have hc2 : w1.cell? ⟨w.heap.size + 1, 2, none⟩ = some (.int .i64 a.y) := HX.out.two 2
  have hc3 : w1.cell? ⟨w.heap.size + 1, 3, none⟩ = some (.int .i64 a.v) := HX.out.two 3
  have hc4 : w1.cell? ⟨w.heap.size + 1, 4, none⟩ = some (.int .i64 a.p) := HX.out.two 4
  have hc5 : w1.cell? ⟨w.heap.size + 1, 5, none⟩ = some (.int .i64 a.f) := HX.out.two 5
  have hc6 : w1.cell? ⟨w.heap.size + 1, 6, none⟩ = some (.int .i64 a.o) := HX.out.two 6
  go_wp2_with fail
  refine (PB.out _).mono ?_
  rintro e w2 ⟨v2, rfl, hs2, hb2⟩
  have HX2 := Lib.hid (HX.out.later hb2)
  have HT1 := Lib.hid (HS1.out.below hb2 (Nat.le_refl _))
  have HT2 := Lib.hid hs2
  clear hs2 hb2 HX HS1 hc0 hc1 hc2 hc3 hc4 hc5 hc6
  have ha0 : w2.cell? ⟨w.heap.size, 0, none⟩ = some (.int .i8 a.k) := HX2.out.one 0
  have ha1 : w2.cell? ⟨w.heap.size, 1, none⟩ = some (.int .i64 a.t) := HX2.out.one 1
  have ha2 : w2.cell? ⟨w.heap.size, 2, none⟩ = some (.int .i64 a.y) := HX2.out.one 2
  have ha3 : w2.cell? ⟨w.heap.size, 3, none⟩ = some (.int .i64 a.v) := HX2.out.one 3
  have ha4 : w2.cell? ⟨w.heap.size, 4, none⟩ = some (.int .i64 a.p) := HX2.out.one 4
  have ha5 : w2.cell? ⟨w.heap.size, 5, none⟩ = some (.int .i64 a.f) := HX2.out.one 5
  have ha6 : w2.cell? ⟨w.heap.size, 6, none⟩ = some (.int .i64 a.o) := HX2.out.one 6
  have hlt2 := HX2.out.lt
  have hlt1 : w.heap.size < w2.heap.size := by omega
  go_wp2_with fail
  refine (PO.out _).mono ?_
  rintro e w3 ⟨rfl, hb3⟩
  have hcc := cell_of_row _ _ 1 _ _ _ (box3 hb3)
  have hff := frozen_of_row _ _ 1 _ _ (box3 hb3)
  have HX4 := Lib.hid (((HX2.out.alloc _).later hb3).set (i := 1) hlt2 (.int .i64 0))
  have HC4 := Lib.hid (heap_setCell_same _ _ 1 _ _ (.int .i64 0) (box3 hb3))
  have HB4 := Lib.hid (((Below.refl w2.heap.size w2).alloc (Nat.le_refl _) _).trans (hb3.mono (by simp)) |>.setCell (p := ⟨w2.heap.size, 1, none⟩) (Nat.le_refl _) (.int .i64 0))
  have HU1 := Lib.hid (HT1.out.below HB4.out (Nat.le_refl _))
  have HU2 := Lib.hid (HT2.out.below HB4.out (Nat.le_refl _))
  clear hb3 HT1 HT2 ha0 ha1 ha2 ha3 ha4 ha5 ha6
  go_wp2_with fail
  clear hcc hff
  generalize w3.setCell ⟨w2.heap.size, 1, none⟩ (.int .i64 0) = w4 at *
  have ht1 := fun d os => (HU1.out.below (below_regrown w4 d os) (Nat.le_refl _)).text
  have ht2 := fun d os => (HU2.out.below (below_regrown w4 d os) (Nat.le_refl _)).text
  have ha0 : ∀ d os, (Go.Sort.grow (redrawn w4 d) os).cell? ⟨w.heap.size, 0, none⟩ = some (.int .i8 a.k) := fun d os => cell_regrown (HX4.out.one 0) d os
  have ha1 : ∀ d os, (Go.Sort.grow (redrawn w4 d) os).cell? ⟨w.heap.size, 1, none⟩ = some (.int .i64 a.t) := fun d os => cell_regrown (HX4.out.one 1) d os
  have ha2 : ∀ d os, (Go.Sort.grow (redrawn w4 d) os).cell? ⟨w.heap.size, 2, none⟩ = some (.int .i64 a.y) := fun d os => cell_regrown (HX4.out.one 2) d os
  have ha3 : ∀ d os, (Go.Sort.grow (redrawn w4 d) os).cell? ⟨w.heap.size, 3, none⟩ = some (.int .i64 a.v) := fun d os => cell_regrown (HX4.out.one 3) d os
  have ha4 : ∀ d os, (Go.Sort.grow (redrawn w4 d) os).cell? ⟨w.heap.size, 4, none⟩ = some (.int .i64 a.p) := fun d os => cell_regrown (HX4.out.one 4) d os
  have ha5 : ∀ d os, (Go.Sort.grow (redrawn w4 d) os).cell? ⟨w.heap.size, 5, none⟩ = some (.int .i64 a.f) := fun d os => cell_regrown (HX4.out.one 5) d os
  have ha6 : ∀ d os, (Go.Sort.grow (redrawn w4 d) os).cell? ⟨w.heap.size, 6, none⟩ = some (.int .i64 a.o) := fun d os => cell_regrown (HX4.out.one 6) d os
  have hb0 : ∀ d os, (Go.Sort.grow (redrawn w4 d) os).cell? ⟨w.heap.size + 1, 0, none⟩ = some (.int .i8 a.k) := fun d os => cell_regrown (HX4.out.two 0) d os
  have hb1 : ∀ d os, (Go.Sort.grow (redrawn w4 d) os).cell? ⟨w.heap.size + 1, 1, none⟩ = some (.int .i64 a.t) := fun d os => cell_regrown (HX4.out.two 1) d os
  have hb2 : ∀ d os, (Go.Sort.grow (redrawn w4 d) os).cell? ⟨w.heap.size + 1, 2, none⟩ = some (.int .i64 a.y) := fun d os => cell_regrown (HX4.out.two 2) d os
  have hb3 : ∀ d os, (Go.Sort.grow (redrawn w4 d) os).cell? ⟨w.heap.size + 1, 3, none⟩ = some (.int .i64 a.v) := fun d os => cell_regrown (HX4.out.two 3) d os
  have hb4 : ∀ d os, (Go.Sort.grow (redrawn w4 d) os).cell? ⟨w.heap.size + 1, 4, none⟩ = some (.int .i64 a.p) := fun d os => cell_regrown (HX4.out.two 4) d os
  have hb5 : ∀ d os, (Go.Sort.grow (redrawn w4 d) os).cell? ⟨w.heap.size + 1, 5, none⟩ = some (.int .i64 a.f) := fun d os => cell_regrown (HX4.out.two 5) d os
  have hb6 : ∀ d os, (Go.Sort.grow (redrawn w4 d) os).cell? ⟨w.heap.size + 1, 6, none⟩ = some (.int .i64 a.o) := fun d os => cell_regrown (HX4.out.two 6) d os
  have hc0 : ∀ d os, (Go.Sort.grow (redrawn w4 d) os).cell? ⟨w2.heap.size, 0, none⟩ = some (.int .i8 a.k) := fun d os => cell_regrown (by rw [cell_of_row _ _ _ _ _ _ HC4.out]; rfl) d os
  have hc1 : ∀ d os, (Go.Sort.grow (redrawn w4 d) os).cell? ⟨w2.heap.size, 1, none⟩ = some (.int .i64 0) := fun d os => cell_regrown (by rw [cell_of_row _ _ _ _ _ _ HC4.out]; rfl) d os
  have hc2 : ∀ d os, (Go.Sort.grow (redrawn w4 d) os).cell? ⟨w2.heap.size, 2, none⟩ = some (.int .i64 a.y) := fun d os => cell_regrown (by rw [cell_of_row _ _ _ _ _ _ HC4.out]; rfl) d os
  have hc3 : ∀ d os, (Go.Sort.grow (redrawn w4 d) os).cell? ⟨w2.heap.size, 3, none⟩ = some (.int .i64 a.v) := fun d os => cell_regrown (by rw [cell_of_row _ _ _ _ _ _ HC4.out]; rfl) d os
  have hc4 : ∀ d os, (Go.Sort.grow (redrawn w4 d) os).cell? ⟨w2.heap.size, 4, none⟩ = some (.int .i64 a.p) := fun d os => cell_regrown (by rw [cell_of_row _ _ _ _ _ _ HC4.out]; rfl) d os
  have hc5 : ∀ d os, (Go.Sort.grow (redrawn w4 d) os).cell? ⟨w2.heap.size, 5, none⟩ = some (.int .i64 a.f) := fun d os => cell_regrown (by rw [cell_of_row _ _ _ _ _ _ HC4.out]; rfl) d os
  have hc6 : ∀ d os, (Go.Sort.grow (redrawn w4 d) os).cell? ⟨w2.heap.size, 6, none⟩ = some (.int .i64 a.o) := fun d os => cell_regrown (by rw [cell_of_row _ _ _ _ _ _ HC4.out]; rfl) d os
  refine wp_region_noPanic ?_
  refine wp_region_pl (.step [true, true, true, true, true, true, true, true, true, true, true] (.cons 11 (.step [false, false, false, false, false, false, false, false, false, false, false, false, true, true, true] (.cons 15 (.last [false, false, false, false, false, false, false, false, false, false, false, false, false, false, false, false, true, true]) .nil)) .nil)) (fun x => ∃ p : Regrown, x = Go.Sort.grow (redrawn w4 p.d) p.os) (by kernel_rfl) (by kernel_rfl) (by kernel_rfl) (fun _ _ _ _ _ h => h) (over_drew w4) ?_
  simp only [wpPl, wpBr, selF, and_true]
  repeat (go_big_quiet_step (fail))
  refine wpQuiet_nil ?_
  rintro _ ⟨⟨d0, os0⟩, rfl⟩
  refine wpOp_step rfl (fun K hK => ?_)
  go_simp
  refine (PM.out _).mono ?_
  rintro e x ⟨rfl, hb⟩
  refine hK _ _ ⟨fun x => ∃ p : Regrown, x = Go.Sort.grow (redrawn w4 p.d) p.os, over_step ⟨⟨d0, os0⟩, rfl⟩ hb, fun _ h => h, ?_⟩
  clear hK K hb
  repeat (go_big_quiet_step (fail))
  refine wpQuiet_nil ?_
  rintro _ ⟨⟨d1, os1⟩, rfl⟩
  refine wpOp_step rfl (fun K hK => ?_)
  go_simp
  refine (wakes08_any _).mono ?_
  rintro e x ⟨rfl, hb⟩
  refine hK _ _ ⟨fun x => ∃ p : Regrown, x = Go.Sort.grow (redrawn w4 p.d) p.os, over_step ⟨⟨d1, os1⟩, rfl⟩ hb, fun _ h => h, ?_⟩
  clear hK K hb
  repeat (go_big_quiet_step (fail))
  refine wpQuiet_nil ?_
  rintro _ ⟨⟨d2, os2⟩, rfl⟩
  have HE := Lib.hid (HX4.out.below.trans ((below_regrown w4 d2 os2).mono (by have := HX4.out.lt; omega)))
  generalize Go.Sort.grow (redrawn w4 d2) os2 = x7 at *
  refine NoPanic.normal ?_
  go_wp2
  go_ret
  exact ⟨rfl, HE.out⟩
set_option maxHeartbeats 4000000 in
theorem once_own_ne (a b : Rq) (ha : a.wf) (hb : b.wf) (e1 : BE a = 0) (e2 : BE b = 0) (ho : ownB a.k = true) (he : a ≠ b) (w : World) : Calls Try.prog 6 #[.agg a.cells, .agg b.cells] w fun e w' => e = .returned (.bool true) ∧ Below w.heap.size w w' := by
  have hne := strOf_ne a b e1 e2 he
  have HNE := Lib.hid he
  clear he
  have PA := Lib.hid (rqBytes_any a ha)
  have PB := Lib.hid (rqBytes_any b hb)
  rw [e1] at PA
  rw [e2] at PB
  have PM := Lib.hid (rqMay_any { a with t := 0 } (a.wf_t ha 0 ⟨by omega, by omega⟩))
  rw [may_own a ho] at PM
  have HW := Lib.hid ha.1
  have PO := Lib.hid (own_any a.k ha.1)
  rw [ho] at PO
  have HRS := Lib.hid (fun w x => Box2.start (a := a) (b := b) (w := w) (x := x))
  clear ha hb e1 e2 ho
  unfold Rq.cells at *
  go_enter Try.func6, Try.ntmps6
  go_wp2_with fail
  refine (PA.out _).mono ?_
  rintro e w1 ⟨v1, rfl, hs1, hb1⟩
  have HX := Lib.hid (HRS.out _ _ hb1)
  have HS1 := Lib.hid hs1
  clear hs1 hb1
  have hc0 : w1.cell? ⟨w.heap.size + 1, 0, none⟩ = some (.int .i8 b.k) := HX.out.two 0
  have hc1 : w1.cell? ⟨w.heap.size + 1, 1, none⟩ = some (.int .i64 b.t) := HX.out.two 1
  have hc2 : w1.cell? ⟨w.heap.size + 1, 2, none⟩ = some (.int .i64 b.y) := HX.out.two 2
  have hc3 : w1.cell? ⟨w.heap.size + 1, 3, none⟩ = some (.int .i64 b.v) := HX.out.two 3
  have hc4 : w1.cell? ⟨w.heap.size + 1, 4, none⟩ = some (.int .i64 b.p) := HX.out.two 4
  have hc5 : w1.cell? ⟨w.heap.size + 1, 5, none⟩ = some (.int .i64 b.f) := HX.out.two 5
  have hc6 : w1.cell? ⟨w.heap.size + 1, 6, none⟩ = some (.int .i64 b.o) := HX.out.two 6
  go_wp2_with fail
  refine (PB.out _).mono ?_
  rintro e w2 ⟨v2, rfl, hs2, hb2⟩
  have HX2 := Lib.hid (HX.out.later hb2)
  have HT1 := Lib.hid (HS1.out.below hb2 (Nat.le_refl _))
  have HT2 := Lib.hid hs2
  clear hs2 hb2 HX HS1 hc0 hc1 hc2 hc3 hc4 hc5 hc6
  have ha0 : w2.cell? ⟨w.heap.size, 0, none⟩ = some (.int .i8 a.k) := HX2.out.one 0
  have ha1 : w2.cell? ⟨w.heap.size, 1, none⟩ = some (.int .i64 a.t) := HX2.out.one 1
  have ha2 : w2.cell? ⟨w.heap.size, 2, none⟩ = some (.int .i64 a.y) := HX2.out.one 2
  have ha3 : w2.cell? ⟨w.heap.size, 3, none⟩ = some (.int .i64 a.v) := HX2.out.one 3
  have ha4 : w2.cell? ⟨w.heap.size, 4, none⟩ = some (.int .i64 a.p) := HX2.out.one 4
  have ha5 : w2.cell? ⟨w.heap.size, 5, none⟩ = some (.int .i64 a.f) := HX2.out.one 5
  have ha6 : w2.cell? ⟨w.heap.size, 6, none⟩ = some (.int .i64 a.o) := HX2.out.one 6
  have hlt2 := HX2.out.lt
  have hlt1 : w.heap.size < w2.heap.size := by omega
  go_wp2_with fail
  refine (PO.out _).mono ?_
  rintro e w3 ⟨rfl, hb3⟩
  have hcc := cell_of_row _ _ 1 _ _ _ (box3 hb3)
  have hff := frozen_of_row _ _ 1 _ _ (box3 hb3)
  have HX4 := Lib.hid (((HX2.out.alloc _).later hb3).set (i := 1) hlt2 (.int .i64 0))
  have HC4 := Lib.hid (heap_setCell_same _ _ 1 _ _ (.int .i64 0) (box3 hb3))
  have HB4 := Lib.hid (((Below.refl w2.heap.size w2).alloc (Nat.le_refl _) _).trans (hb3.mono (by simp)) |>.setCell (p := ⟨w2.heap.size, 1, none⟩) (Nat.le_refl _) (.int .i64 0))
  have HU1 := Lib.hid (HT1.out.below HB4.out (Nat.le_refl _))
  have HU2 := Lib.hid (HT2.out.below HB4.out (Nat.le_refl _))
  clear hb3 HT1 HT2 ha0 ha1 ha2 ha3 ha4 ha5 ha6
  go_wp2_with fail
  clear hcc hff
  generalize w3.setCell ⟨w2.heap.size, 1, none⟩ (.int .i64 0) = w4 at *
  have ht1 := fun d os => (HU1.out.below (below_regrown w4 d os) (Nat.le_refl _)).text
  have ht2 := fun d os => (HU2.out.below (below_regrown w4 d os) (Nat.le_refl _)).text
  have ha0 : ∀ d os, (Go.Sort.grow (redrawn w4 d) os).cell? ⟨w.heap.size, 0, none⟩ = some (.int .i8 a.k) := fun d os => cell_regrown (HX4.out.one 0) d os
  have ha1 : ∀ d os, (Go.Sort.grow (redrawn w4 d) os).cell? ⟨w.heap.size, 1, none⟩ = some (.int .i64 a.t) := fun d os => cell_regrown (HX4.out.one 1) d os
  have ha2 : ∀ d os, (Go.Sort.grow (redrawn w4 d) os).cell? ⟨w.heap.size, 2, none⟩ = some (.int .i64 a.y) := fun d os => cell_regrown (HX4.out.one 2) d os
  have ha3 : ∀ d os, (Go.Sort.grow (redrawn w4 d) os).cell? ⟨w.heap.size, 3, none⟩ = some (.int .i64 a.v) := fun d os => cell_regrown (HX4.out.one 3) d os
  have ha4 : ∀ d os, (Go.Sort.grow (redrawn w4 d) os).cell? ⟨w.heap.size, 4, none⟩ = some (.int .i64 a.p) := fun d os => cell_regrown (HX4.out.one 4) d os
  have ha5 : ∀ d os, (Go.Sort.grow (redrawn w4 d) os).cell? ⟨w.heap.size, 5, none⟩ = some (.int .i64 a.f) := fun d os => cell_regrown (HX4.out.one 5) d os
  have ha6 : ∀ d os, (Go.Sort.grow (redrawn w4 d) os).cell? ⟨w.heap.size, 6, none⟩ = some (.int .i64 a.o) := fun d os => cell_regrown (HX4.out.one 6) d os
  have hb0 : ∀ d os, (Go.Sort.grow (redrawn w4 d) os).cell? ⟨w.heap.size + 1, 0, none⟩ = some (.int .i8 b.k) := fun d os => cell_regrown (HX4.out.two 0) d os
  have hb1 : ∀ d os, (Go.Sort.grow (redrawn w4 d) os).cell? ⟨w.heap.size + 1, 1, none⟩ = some (.int .i64 b.t) := fun d os => cell_regrown (HX4.out.two 1) d os
  have hb2 : ∀ d os, (Go.Sort.grow (redrawn w4 d) os).cell? ⟨w.heap.size + 1, 2, none⟩ = some (.int .i64 b.y) := fun d os => cell_regrown (HX4.out.two 2) d os
  have hb3 : ∀ d os, (Go.Sort.grow (redrawn w4 d) os).cell? ⟨w.heap.size + 1, 3, none⟩ = some (.int .i64 b.v) := fun d os => cell_regrown (HX4.out.two 3) d os
  have hb4 : ∀ d os, (Go.Sort.grow (redrawn w4 d) os).cell? ⟨w.heap.size + 1, 4, none⟩ = some (.int .i64 b.p) := fun d os => cell_regrown (HX4.out.two 4) d os
  have hb5 : ∀ d os, (Go.Sort.grow (redrawn w4 d) os).cell? ⟨w.heap.size + 1, 5, none⟩ = some (.int .i64 b.f) := fun d os => cell_regrown (HX4.out.two 5) d os
  have hb6 : ∀ d os, (Go.Sort.grow (redrawn w4 d) os).cell? ⟨w.heap.size + 1, 6, none⟩ = some (.int .i64 b.o) := fun d os => cell_regrown (HX4.out.two 6) d os
  have hc0 : ∀ d os, (Go.Sort.grow (redrawn w4 d) os).cell? ⟨w2.heap.size, 0, none⟩ = some (.int .i8 a.k) := fun d os => cell_regrown (by rw [cell_of_row _ _ _ _ _ _ HC4.out]; rfl) d os
  have hc1 : ∀ d os, (Go.Sort.grow (redrawn w4 d) os).cell? ⟨w2.heap.size, 1, none⟩ = some (.int .i64 0) := fun d os => cell_regrown (by rw [cell_of_row _ _ _ _ _ _ HC4.out]; rfl) d os
  have hc2 : ∀ d os, (Go.Sort.grow (redrawn w4 d) os).cell? ⟨w2.heap.size, 2, none⟩ = some (.int .i64 a.y) := fun d os => cell_regrown (by rw [cell_of_row _ _ _ _ _ _ HC4.out]; rfl) d os
  have hc3 : ∀ d os, (Go.Sort.grow (redrawn w4 d) os).cell? ⟨w2.heap.size, 3, none⟩ = some (.int .i64 a.v) := fun d os => cell_regrown (by rw [cell_of_row _ _ _ _ _ _ HC4.out]; rfl) d os
  have hc4 : ∀ d os, (Go.Sort.grow (redrawn w4 d) os).cell? ⟨w2.heap.size, 4, none⟩ = some (.int .i64 a.p) := fun d os => cell_regrown (by rw [cell_of_row _ _ _ _ _ _ HC4.out]; rfl) d os
  have hc5 : ∀ d os, (Go.Sort.grow (redrawn w4 d) os).cell? ⟨w2.heap.size, 5, none⟩ = some (.int .i64 a.f) := fun d os => cell_regrown (by rw [cell_of_row _ _ _ _ _ _ HC4.out]; rfl) d os
  have hc6 : ∀ d os, (Go.Sort.grow (redrawn w4 d) os).cell? ⟨w2.heap.size, 6, none⟩ = some (.int .i64 a.o) := fun d os => cell_regrown (by rw [cell_of_row _ _ _ _ _ _ HC4.out]; rfl) d os
  refine wp_region_noPanic ?_
  refine wp_region_pl (.step [true, true, true, true, true, true, true, true, true, true, true] (.cons 11 (.step [false, false, false, false, false, false, false, false, false, false, false, false, true, true, true] (.cons 15 (.last [false, false, false, false, false, false, false, false, false, false, false, false, false, false, false, false, true, true]) .nil)) .nil)) (fun x => ∃ p : Regrown, x = Go.Sort.grow (redrawn w4 p.d) p.os) (by kernel_rfl) (by kernel_rfl) (by kernel_rfl) (fun _ _ _ _ _ h => h) (over_drew w4) ?_
  simp only [wpPl, wpBr, selF, and_true]
  repeat (go_big_quiet_step (fail))
  refine wpQuiet_step (fun K hK => ?_)
  go_simp
  refine ⟨.bool false, fun q => ?_, hK _ ?_⟩
  · rw [ne_ite a b HNE.out]; exact ⟨rfl, rfl⟩
  clear hK K
  repeat (go_big_quiet_step (fail))
  refine wpQuiet_nil ?_
  rintro _ ⟨⟨d0, os0⟩, rfl⟩
  refine wpOp_step rfl (fun K hK => ?_)
  go_simp
  refine (PM.out _).mono ?_
  rintro e x ⟨rfl, hb⟩
  refine hK _ _ ⟨fun x => ∃ p : Regrown, x = Go.Sort.grow (redrawn w4 p.d) p.os, over_step ⟨⟨d0, os0⟩, rfl⟩ hb, fun _ h => h, ?_⟩
  clear hK K hb
  repeat (go_big_quiet_step (fail))
  refine wpQuiet_nil ?_
  rintro _ ⟨⟨d1, os1⟩, rfl⟩
  refine wpOp_step rfl (fun K hK => ?_)
  go_simp
  refine (wakes08_any _).mono ?_
  rintro e x ⟨rfl, hb⟩
  refine hK _ _ ⟨fun x => ∃ p : Regrown, x = Go.Sort.grow (redrawn w4 p.d) p.os, over_step ⟨⟨d1, os1⟩, rfl⟩ hb, fun _ h => h, ?_⟩
  clear hK K hb
  repeat (go_big_quiet_step (fail))
  refine wpQuiet_nil ?_
  rintro _ ⟨⟨d2, os2⟩, rfl⟩
  have HE := Lib.hid (HX4.out.below.trans ((below_regrown w4 d2 os2).mono (by have := HX4.out.lt; omega)))
  generalize Go.Sort.grow (redrawn w4 d2) os2 = x7 at *
  refine NoPanic.normal ?_
  go_wp2
  go_ret
  exact ⟨rfl, HE.out⟩
set_option maxHeartbeats 4000000 in
theorem once_free_eq (a b : Rq) (ha : a.wf) (hb : b.wf) (e1 : BE a = 0) (e2 : BE b = 0) (ho : ownB a.k = false) (he : a = b) (w : World) : Calls Try.prog 6 #[.agg a.cells, .agg b.cells] w fun e w' => e = .returned (.bool true) ∧ Below w.heap.size w w' := by
  subst he
  have PA := Lib.hid (rqBytes_any a ha)
  have PB := Lib.hid (rqBytes_any a ha)
  rw [e1] at PA
  rw [e1] at PB
  have PM := Lib.hid (rqMay_any { a with t := 1 } (a.wf_t ha 1 ⟨by omega, by omega⟩))
  rw [may_free a ho] at PM
  have HW := Lib.hid ha.1
  have PO := Lib.hid (own_any a.k ha.1)
  rw [ho] at PO
  have HRS := Lib.hid (fun w x => Box2.start (a := a) (b := a) (w := w) (x := x))
  clear ha hb e1 e2 ho
  unfold Rq.cells at *
  go_enter Try.func6, Try.ntmps6
  go_wp2_with fail
  refine (PA.out _).mono ?_
  rintro e w1 ⟨v1, rfl, hs1, hb1⟩
  have HX := Lib.hid (HRS.out _ _ hb1)
  have HS1 := Lib.hid hs1
  clear hs1 hb1
  have hc0 : w1.cell? ⟨w.heap.size + 1, 0, none⟩ = some (.int .i8 a.k) := HX.out.two 0
  have hc1 : w1.cell? ⟨w.heap.size + 1, 1, none⟩ = some (.int .i64 a.t) := HX.out.two 1
  have hc2 : w1.cell? ⟨w.heap.size + 1, 2, none⟩ = some (.int .i64 a.y) := HX.out.two 2
  have hc3 : w1.cell? ⟨w.heap.size + 1, 3, none⟩ = some (.int .i64 a.v) := HX.out.two 3
  have hc4 : w1.cell? ⟨w.heap.size + 1, 4, none⟩ = some (.int .i64 a.p) := HX.out.two 4
  have hc5 : w1.cell? ⟨w.heap.size + 1, 5, none⟩ = some (.int .i64 a.f) := HX.out.two 5
  have hc6 : w1.cell? ⟨w.heap.size + 1, 6, none⟩ = some (.int .i64 a.o) := HX.out.two 6
  go_wp2_with fail
  refine (PB.out _).mono ?_
  rintro e w2 ⟨v2, rfl, hs2, hb2⟩
  have HX2 := Lib.hid (HX.out.later hb2)
  have HT1 := Lib.hid (HS1.out.below hb2 (Nat.le_refl _))
  have HT2 := Lib.hid hs2
  clear hs2 hb2 HX HS1 hc0 hc1 hc2 hc3 hc4 hc5 hc6
  have ha0 : w2.cell? ⟨w.heap.size, 0, none⟩ = some (.int .i8 a.k) := HX2.out.one 0
  have ha1 : w2.cell? ⟨w.heap.size, 1, none⟩ = some (.int .i64 a.t) := HX2.out.one 1
  have ha2 : w2.cell? ⟨w.heap.size, 2, none⟩ = some (.int .i64 a.y) := HX2.out.one 2
  have ha3 : w2.cell? ⟨w.heap.size, 3, none⟩ = some (.int .i64 a.v) := HX2.out.one 3
  have ha4 : w2.cell? ⟨w.heap.size, 4, none⟩ = some (.int .i64 a.p) := HX2.out.one 4
  have ha5 : w2.cell? ⟨w.heap.size, 5, none⟩ = some (.int .i64 a.f) := HX2.out.one 5
  have ha6 : w2.cell? ⟨w.heap.size, 6, none⟩ = some (.int .i64 a.o) := HX2.out.one 6
  have hlt2 := HX2.out.lt
  have hlt1 : w.heap.size < w2.heap.size := by omega
  go_wp2_with fail
  refine (PO.out _).mono ?_
  rintro e w3 ⟨rfl, hb3⟩
  have hcc := cell_of_row _ _ 1 _ _ _ (box3 hb3)
  have hff := frozen_of_row _ _ 1 _ _ (box3 hb3)
  have HX4 := Lib.hid (((HX2.out.alloc _).later hb3).set (i := 1) hlt2 (.int .i64 1))
  have HC4 := Lib.hid (heap_setCell_same _ _ 1 _ _ (.int .i64 1) (box3 hb3))
  have HB4 := Lib.hid (((Below.refl w2.heap.size w2).alloc (Nat.le_refl _) _).trans (hb3.mono (by simp)) |>.setCell (p := ⟨w2.heap.size, 1, none⟩) (Nat.le_refl _) (.int .i64 1))
  have HU1 := Lib.hid (HT1.out.below HB4.out (Nat.le_refl _))
  have HU2 := Lib.hid (HT2.out.below HB4.out (Nat.le_refl _))
  clear hb3 HT1 HT2 ha0 ha1 ha2 ha3 ha4 ha5 ha6
  go_wp2_with fail
  clear hcc hff
  generalize w3.setCell ⟨w2.heap.size, 1, none⟩ (.int .i64 1) = w4 at *
  have ht1 := fun d os => (HU1.out.below (below_regrown w4 d os) (Nat.le_refl _)).text
  have ht2 := fun d os => (HU2.out.below (below_regrown w4 d os) (Nat.le_refl _)).text
  have ha0 : ∀ d os, (Go.Sort.grow (redrawn w4 d) os).cell? ⟨w.heap.size, 0, none⟩ = some (.int .i8 a.k) := fun d os => cell_regrown (HX4.out.one 0) d os
  have ha1 : ∀ d os, (Go.Sort.grow (redrawn w4 d) os).cell? ⟨w.heap.size, 1, none⟩ = some (.int .i64 a.t) := fun d os => cell_regrown (HX4.out.one 1) d os
  have ha2 : ∀ d os, (Go.Sort.grow (redrawn w4 d) os).cell? ⟨w.heap.size, 2, none⟩ = some (.int .i64 a.y) := fun d os => cell_regrown (HX4.out.one 2) d os
  have ha3 : ∀ d os, (Go.Sort.grow (redrawn w4 d) os).cell? ⟨w.heap.size, 3, none⟩ = some (.int .i64 a.v) := fun d os => cell_regrown (HX4.out.one 3) d os
  have ha4 : ∀ d os, (Go.Sort.grow (redrawn w4 d) os).cell? ⟨w.heap.size, 4, none⟩ = some (.int .i64 a.p) := fun d os => cell_regrown (HX4.out.one 4) d os
  have ha5 : ∀ d os, (Go.Sort.grow (redrawn w4 d) os).cell? ⟨w.heap.size, 5, none⟩ = some (.int .i64 a.f) := fun d os => cell_regrown (HX4.out.one 5) d os
  have ha6 : ∀ d os, (Go.Sort.grow (redrawn w4 d) os).cell? ⟨w.heap.size, 6, none⟩ = some (.int .i64 a.o) := fun d os => cell_regrown (HX4.out.one 6) d os
  have hb0 : ∀ d os, (Go.Sort.grow (redrawn w4 d) os).cell? ⟨w.heap.size + 1, 0, none⟩ = some (.int .i8 a.k) := fun d os => cell_regrown (HX4.out.two 0) d os
  have hb1 : ∀ d os, (Go.Sort.grow (redrawn w4 d) os).cell? ⟨w.heap.size + 1, 1, none⟩ = some (.int .i64 a.t) := fun d os => cell_regrown (HX4.out.two 1) d os
  have hb2 : ∀ d os, (Go.Sort.grow (redrawn w4 d) os).cell? ⟨w.heap.size + 1, 2, none⟩ = some (.int .i64 a.y) := fun d os => cell_regrown (HX4.out.two 2) d os
  have hb3 : ∀ d os, (Go.Sort.grow (redrawn w4 d) os).cell? ⟨w.heap.size + 1, 3, none⟩ = some (.int .i64 a.v) := fun d os => cell_regrown (HX4.out.two 3) d os
  have hb4 : ∀ d os, (Go.Sort.grow (redrawn w4 d) os).cell? ⟨w.heap.size + 1, 4, none⟩ = some (.int .i64 a.p) := fun d os => cell_regrown (HX4.out.two 4) d os
  have hb5 : ∀ d os, (Go.Sort.grow (redrawn w4 d) os).cell? ⟨w.heap.size + 1, 5, none⟩ = some (.int .i64 a.f) := fun d os => cell_regrown (HX4.out.two 5) d os
  have hb6 : ∀ d os, (Go.Sort.grow (redrawn w4 d) os).cell? ⟨w.heap.size + 1, 6, none⟩ = some (.int .i64 a.o) := fun d os => cell_regrown (HX4.out.two 6) d os
  have hc0 : ∀ d os, (Go.Sort.grow (redrawn w4 d) os).cell? ⟨w2.heap.size, 0, none⟩ = some (.int .i8 a.k) := fun d os => cell_regrown (by rw [cell_of_row _ _ _ _ _ _ HC4.out]; rfl) d os
  have hc1 : ∀ d os, (Go.Sort.grow (redrawn w4 d) os).cell? ⟨w2.heap.size, 1, none⟩ = some (.int .i64 1) := fun d os => cell_regrown (by rw [cell_of_row _ _ _ _ _ _ HC4.out]; rfl) d os
  have hc2 : ∀ d os, (Go.Sort.grow (redrawn w4 d) os).cell? ⟨w2.heap.size, 2, none⟩ = some (.int .i64 a.y) := fun d os => cell_regrown (by rw [cell_of_row _ _ _ _ _ _ HC4.out]; rfl) d os
  have hc3 : ∀ d os, (Go.Sort.grow (redrawn w4 d) os).cell? ⟨w2.heap.size, 3, none⟩ = some (.int .i64 a.v) := fun d os => cell_regrown (by rw [cell_of_row _ _ _ _ _ _ HC4.out]; rfl) d os
  have hc4 : ∀ d os, (Go.Sort.grow (redrawn w4 d) os).cell? ⟨w2.heap.size, 4, none⟩ = some (.int .i64 a.p) := fun d os => cell_regrown (by rw [cell_of_row _ _ _ _ _ _ HC4.out]; rfl) d os
  have hc5 : ∀ d os, (Go.Sort.grow (redrawn w4 d) os).cell? ⟨w2.heap.size, 5, none⟩ = some (.int .i64 a.f) := fun d os => cell_regrown (by rw [cell_of_row _ _ _ _ _ _ HC4.out]; rfl) d os
  have hc6 : ∀ d os, (Go.Sort.grow (redrawn w4 d) os).cell? ⟨w2.heap.size, 6, none⟩ = some (.int .i64 a.o) := fun d os => cell_regrown (by rw [cell_of_row _ _ _ _ _ _ HC4.out]; rfl) d os
  refine wp_region_noPanic ?_
  refine wp_region_pl (.step [true, true, true, true, true, true, true, true, true, true, true] (.cons 11 (.step [false, false, false, false, false, false, false, false, false, false, false, false, true, true, true] (.cons 15 (.last [false, false, false, false, false, false, false, false, false, false, false, false, false, false, false, false, true, true]) .nil)) .nil)) (fun x => ∃ p : Regrown, x = Go.Sort.grow (redrawn w4 p.d) p.os) (by kernel_rfl) (by kernel_rfl) (by kernel_rfl) (fun _ _ _ _ _ h => h) (over_drew w4) ?_
  simp only [wpPl, wpBr, selF, and_true]
  repeat (go_big_quiet_step (fail))
  refine wpQuiet_nil ?_
  rintro _ ⟨⟨d0, os0⟩, rfl⟩
  refine wpOp_step rfl (fun K hK => ?_)
  go_simp
  refine (PM.out _).mono ?_
  rintro e x ⟨rfl, hb⟩
  refine hK _ _ ⟨fun x => ∃ p : Regrown, x = Go.Sort.grow (redrawn w4 p.d) p.os, over_step ⟨⟨d0, os0⟩, rfl⟩ hb, fun _ h => h, ?_⟩
  clear hK K hb
  repeat (go_big_quiet_step (fail))
  refine wpQuiet_nil ?_
  rintro _ ⟨⟨d1, os1⟩, rfl⟩
  refine wpOp_step rfl (fun K hK => ?_)
  go_simp
  refine (wakes08_any _).mono ?_
  rintro e x ⟨rfl, hb⟩
  refine hK _ _ ⟨fun x => ∃ p : Regrown, x = Go.Sort.grow (redrawn w4 p.d) p.os, over_step ⟨⟨d1, os1⟩, rfl⟩ hb, fun _ h => h, ?_⟩
  clear hK K hb
  repeat (go_big_quiet_step (fail))
  refine wpQuiet_nil ?_
  rintro _ ⟨⟨d2, os2⟩, rfl⟩
  have HE := Lib.hid (HX4.out.below.trans ((below_regrown w4 d2 os2).mono (by have := HX4.out.lt; omega)))
  generalize Go.Sort.grow (redrawn w4 d2) os2 = x7 at *
  refine NoPanic.normal ?_
  go_wp2
  go_ret
  exact ⟨rfl, HE.out⟩
set_option maxHeartbeats 4000000 in
theorem once_free_ne (a b : Rq) (ha : a.wf) (hb : b.wf) (e1 : BE a = 0) (e2 : BE b = 0) (ho : ownB a.k = false) (he : a ≠ b) (w : World) : Calls Try.prog 6 #[.agg a.cells, .agg b.cells] w fun e w' => e = .returned (.bool true) ∧ Below w.heap.size w w' := by
  have hne := strOf_ne a b e1 e2 he
  have HNE := Lib.hid he
  clear he
  have PA := Lib.hid (rqBytes_any a ha)
  have PB := Lib.hid (rqBytes_any b hb)
  rw [e1] at PA
  rw [e2] at PB
  have PM := Lib.hid (rqMay_any { a with t := 1 } (a.wf_t ha 1 ⟨by omega, by omega⟩))
  rw [may_free a ho] at PM
  have HW := Lib.hid ha.1
  have PO := Lib.hid (own_any a.k ha.1)
  rw [ho] at PO
  have HRS := Lib.hid (fun w x => Box2.start (a := a) (b := b) (w := w) (x := x))
  clear ha hb e1 e2 ho
  unfold Rq.cells at *
  go_enter Try.func6, Try.ntmps6
  go_wp2_with fail
  refine (PA.out _).mono ?_
  rintro e w1 ⟨v1, rfl, hs1, hb1⟩
  have HX := Lib.hid (HRS.out _ _ hb1)
  have HS1 := Lib.hid hs1
  clear hs1 hb1
  have hc0 : w1.cell? ⟨w.heap.size + 1, 0, none⟩ = some (.int .i8 b.k) := HX.out.two 0
  have hc1 : w1.cell? ⟨w.heap.size + 1, 1, none⟩ = some (.int .i64 b.t) := HX.out.two 1
  have hc2 : w1.cell? ⟨w.heap.size + 1, 2, none⟩ = some (.int .i64 b.y) := HX.out.two 2
  have hc3 : w1.cell? ⟨w.heap.size + 1, 3, none⟩ = some (.int .i64 b.v) := HX.out.two 3
  have hc4 : w1.cell? ⟨w.heap.size + 1, 4, none⟩ = some (.int .i64 b.p) := HX.out.two 4
  have hc5 : w1.cell? ⟨w.heap.size + 1, 5, none⟩ = some (.int .i64 b.f) := HX.out.two 5
  have hc6 : w1.cell? ⟨w.heap.size + 1, 6, none⟩ = some (.int .i64 b.o) := HX.out.two 6
  go_wp2_with fail
  refine (PB.out _).mono ?_
  rintro e w2 ⟨v2, rfl, hs2, hb2⟩
  have HX2 := Lib.hid (HX.out.later hb2)
  have HT1 := Lib.hid (HS1.out.below hb2 (Nat.le_refl _))
  have HT2 := Lib.hid hs2
  clear hs2 hb2 HX HS1 hc0 hc1 hc2 hc3 hc4 hc5 hc6
  have ha0 : w2.cell? ⟨w.heap.size, 0, none⟩ = some (.int .i8 a.k) := HX2.out.one 0
  have ha1 : w2.cell? ⟨w.heap.size, 1, none⟩ = some (.int .i64 a.t) := HX2.out.one 1
  have ha2 : w2.cell? ⟨w.heap.size, 2, none⟩ = some (.int .i64 a.y) := HX2.out.one 2
  have ha3 : w2.cell? ⟨w.heap.size, 3, none⟩ = some (.int .i64 a.v) := HX2.out.one 3
  have ha4 : w2.cell? ⟨w.heap.size, 4, none⟩ = some (.int .i64 a.p) := HX2.out.one 4
  have ha5 : w2.cell? ⟨w.heap.size, 5, none⟩ = some (.int .i64 a.f) := HX2.out.one 5
  have ha6 : w2.cell? ⟨w.heap.size, 6, none⟩ = some (.int .i64 a.o) := HX2.out.one 6
  have hlt2 := HX2.out.lt
  have hlt1 : w.heap.size < w2.heap.size := by omega
  go_wp2_with fail
  refine (PO.out _).mono ?_
  rintro e w3 ⟨rfl, hb3⟩
  have hcc := cell_of_row _ _ 1 _ _ _ (box3 hb3)
  have hff := frozen_of_row _ _ 1 _ _ (box3 hb3)
  have HX4 := Lib.hid (((HX2.out.alloc _).later hb3).set (i := 1) hlt2 (.int .i64 1))
  have HC4 := Lib.hid (heap_setCell_same _ _ 1 _ _ (.int .i64 1) (box3 hb3))
  have HB4 := Lib.hid (((Below.refl w2.heap.size w2).alloc (Nat.le_refl _) _).trans (hb3.mono (by simp)) |>.setCell (p := ⟨w2.heap.size, 1, none⟩) (Nat.le_refl _) (.int .i64 1))
  have HU1 := Lib.hid (HT1.out.below HB4.out (Nat.le_refl _))
  have HU2 := Lib.hid (HT2.out.below HB4.out (Nat.le_refl _))
  clear hb3 HT1 HT2 ha0 ha1 ha2 ha3 ha4 ha5 ha6
  go_wp2_with fail
  clear hcc hff
  generalize w3.setCell ⟨w2.heap.size, 1, none⟩ (.int .i64 1) = w4 at *
  have ht1 := fun d os => (HU1.out.below (below_regrown w4 d os) (Nat.le_refl _)).text
  have ht2 := fun d os => (HU2.out.below (below_regrown w4 d os) (Nat.le_refl _)).text
  have ha0 : ∀ d os, (Go.Sort.grow (redrawn w4 d) os).cell? ⟨w.heap.size, 0, none⟩ = some (.int .i8 a.k) := fun d os => cell_regrown (HX4.out.one 0) d os
  have ha1 : ∀ d os, (Go.Sort.grow (redrawn w4 d) os).cell? ⟨w.heap.size, 1, none⟩ = some (.int .i64 a.t) := fun d os => cell_regrown (HX4.out.one 1) d os
  have ha2 : ∀ d os, (Go.Sort.grow (redrawn w4 d) os).cell? ⟨w.heap.size, 2, none⟩ = some (.int .i64 a.y) := fun d os => cell_regrown (HX4.out.one 2) d os
  have ha3 : ∀ d os, (Go.Sort.grow (redrawn w4 d) os).cell? ⟨w.heap.size, 3, none⟩ = some (.int .i64 a.v) := fun d os => cell_regrown (HX4.out.one 3) d os
  have ha4 : ∀ d os, (Go.Sort.grow (redrawn w4 d) os).cell? ⟨w.heap.size, 4, none⟩ = some (.int .i64 a.p) := fun d os => cell_regrown (HX4.out.one 4) d os
  have ha5 : ∀ d os, (Go.Sort.grow (redrawn w4 d) os).cell? ⟨w.heap.size, 5, none⟩ = some (.int .i64 a.f) := fun d os => cell_regrown (HX4.out.one 5) d os
  have ha6 : ∀ d os, (Go.Sort.grow (redrawn w4 d) os).cell? ⟨w.heap.size, 6, none⟩ = some (.int .i64 a.o) := fun d os => cell_regrown (HX4.out.one 6) d os
  have hb0 : ∀ d os, (Go.Sort.grow (redrawn w4 d) os).cell? ⟨w.heap.size + 1, 0, none⟩ = some (.int .i8 b.k) := fun d os => cell_regrown (HX4.out.two 0) d os
  have hb1 : ∀ d os, (Go.Sort.grow (redrawn w4 d) os).cell? ⟨w.heap.size + 1, 1, none⟩ = some (.int .i64 b.t) := fun d os => cell_regrown (HX4.out.two 1) d os
  have hb2 : ∀ d os, (Go.Sort.grow (redrawn w4 d) os).cell? ⟨w.heap.size + 1, 2, none⟩ = some (.int .i64 b.y) := fun d os => cell_regrown (HX4.out.two 2) d os
  have hb3 : ∀ d os, (Go.Sort.grow (redrawn w4 d) os).cell? ⟨w.heap.size + 1, 3, none⟩ = some (.int .i64 b.v) := fun d os => cell_regrown (HX4.out.two 3) d os
  have hb4 : ∀ d os, (Go.Sort.grow (redrawn w4 d) os).cell? ⟨w.heap.size + 1, 4, none⟩ = some (.int .i64 b.p) := fun d os => cell_regrown (HX4.out.two 4) d os
  have hb5 : ∀ d os, (Go.Sort.grow (redrawn w4 d) os).cell? ⟨w.heap.size + 1, 5, none⟩ = some (.int .i64 b.f) := fun d os => cell_regrown (HX4.out.two 5) d os
  have hb6 : ∀ d os, (Go.Sort.grow (redrawn w4 d) os).cell? ⟨w.heap.size + 1, 6, none⟩ = some (.int .i64 b.o) := fun d os => cell_regrown (HX4.out.two 6) d os
  have hc0 : ∀ d os, (Go.Sort.grow (redrawn w4 d) os).cell? ⟨w2.heap.size, 0, none⟩ = some (.int .i8 a.k) := fun d os => cell_regrown (by rw [cell_of_row _ _ _ _ _ _ HC4.out]; rfl) d os
  have hc1 : ∀ d os, (Go.Sort.grow (redrawn w4 d) os).cell? ⟨w2.heap.size, 1, none⟩ = some (.int .i64 1) := fun d os => cell_regrown (by rw [cell_of_row _ _ _ _ _ _ HC4.out]; rfl) d os
  have hc2 : ∀ d os, (Go.Sort.grow (redrawn w4 d) os).cell? ⟨w2.heap.size, 2, none⟩ = some (.int .i64 a.y) := fun d os => cell_regrown (by rw [cell_of_row _ _ _ _ _ _ HC4.out]; rfl) d os
  have hc3 : ∀ d os, (Go.Sort.grow (redrawn w4 d) os).cell? ⟨w2.heap.size, 3, none⟩ = some (.int .i64 a.v) := fun d os => cell_regrown (by rw [cell_of_row _ _ _ _ _ _ HC4.out]; rfl) d os
  have hc4 : ∀ d os, (Go.Sort.grow (redrawn w4 d) os).cell? ⟨w2.heap.size, 4, none⟩ = some (.int .i64 a.p) := fun d os => cell_regrown (by rw [cell_of_row _ _ _ _ _ _ HC4.out]; rfl) d os
  have hc5 : ∀ d os, (Go.Sort.grow (redrawn w4 d) os).cell? ⟨w2.heap.size, 5, none⟩ = some (.int .i64 a.f) := fun d os => cell_regrown (by rw [cell_of_row _ _ _ _ _ _ HC4.out]; rfl) d os
  have hc6 : ∀ d os, (Go.Sort.grow (redrawn w4 d) os).cell? ⟨w2.heap.size, 6, none⟩ = some (.int .i64 a.o) := fun d os => cell_regrown (by rw [cell_of_row _ _ _ _ _ _ HC4.out]; rfl) d os
  refine wp_region_noPanic ?_
  refine wp_region_pl (.step [true, true, true, true, true, true, true, true, true, true, true] (.cons 11 (.step [false, false, false, false, false, false, false, false, false, false, false, false, true, true, true] (.cons 15 (.last [false, false, false, false, false, false, false, false, false, false, false, false, false, false, false, false, true, true]) .nil)) .nil)) (fun x => ∃ p : Regrown, x = Go.Sort.grow (redrawn w4 p.d) p.os) (by kernel_rfl) (by kernel_rfl) (by kernel_rfl) (fun _ _ _ _ _ h => h) (over_drew w4) ?_
  simp only [wpPl, wpBr, selF, and_true]
  repeat (go_big_quiet_step (fail))
  refine wpQuiet_step (fun K hK => ?_)
  go_simp
  refine ⟨.bool false, fun q => ?_, hK _ ?_⟩
  · rw [ne_ite a b HNE.out]; exact ⟨rfl, rfl⟩
  clear hK K
  repeat (go_big_quiet_step (fail))
  refine wpQuiet_nil ?_
  rintro _ ⟨⟨d0, os0⟩, rfl⟩
  refine wpOp_step rfl (fun K hK => ?_)
  go_simp
  refine (PM.out _).mono ?_
  rintro e x ⟨rfl, hb⟩
  refine hK _ _ ⟨fun x => ∃ p : Regrown, x = Go.Sort.grow (redrawn w4 p.d) p.os, over_step ⟨⟨d0, os0⟩, rfl⟩ hb, fun _ h => h, ?_⟩
  clear hK K hb
  repeat (go_big_quiet_step (fail))
  refine wpQuiet_nil ?_
  rintro _ ⟨⟨d1, os1⟩, rfl⟩
  refine wpOp_step rfl (fun K hK => ?_)
  go_simp
  refine (wakes08_any _).mono ?_
  rintro e x ⟨rfl, hb⟩
  refine hK _ _ ⟨fun x => ∃ p : Regrown, x = Go.Sort.grow (redrawn w4 p.d) p.os, over_step ⟨⟨d1, os1⟩, rfl⟩ hb, fun _ h => h, ?_⟩
  clear hK K hb
  repeat (go_big_quiet_step (fail))
  refine wpQuiet_nil ?_
  rintro _ ⟨⟨d2, os2⟩, rfl⟩
  have HE := Lib.hid (HX4.out.below.trans ((below_regrown w4 d2 os2).mono (by have := HX4.out.lt; omega)))
  generalize Go.Sort.grow (redrawn w4 d2) os2 = x7 at *
  refine NoPanic.normal ?_
  go_wp2
  go_ret
  exact ⟨rfl, HE.out⟩
theorem BE_cases (r : Rq) : BE r = 0 ∨ BE r = 2 := by
  unfold BE
  split
  · exact .inl rfl
  · exact .inr rfl
theorem lawRequestOnce_walk (a b : Rq) (w : World) (ha : a.wf) (hb : b.wf) : Calls Try.prog 6 #[.agg a.cells, .agg b.cells] w fun e w' => e = .returned (.bool true) ∧ Below w.heap.size w w' := by
  rcases BE_cases a with e1 | e1
  · rcases BE_cases b with e2 | e2
    · cases ho : ownB a.k
      · by_cases he : a = b
        · exact once_free_eq a b ha hb e1 e2 ho he w
        · exact once_free_ne a b ha hb e1 e2 ho he w
      · by_cases he : a = b
        · exact once_own_eq a b ha hb e1 e2 ho he w
        · exact once_own_ne a b ha hb e1 e2 ho he w
    · exact once_bad a b ha hb (.inl ⟨e1, e2⟩) w
  · exact once_bad a b ha hb (.inr e1) w
end Go.Proofs.Ytcffabfaefbjcaa
