/-
  The walk of RequestWrites (chapter 08).
-/
import Derived.Test.YtcffabfaefbjcaaReqPlain
namespace Go.Proofs.Ytcffabfaefbjcaa
set_option linter.unusedVariables false
open Go.RowKit
theorem over_step {w x x' : World} (h : ∃ p : Regrown, x = Go.Sort.grow (redrawn w p.d) p.os) (hb : Below x.heap.size x x') : ∃ p : Regrown, x' = Go.Sort.grow (redrawn w p.d) p.os := by
  obtain ⟨p, rfl⟩ := h
  exact regrown_of_below ((below_regrown w p.d p.os).trans (hb.mono (below_regrown w p.d p.os).size))
def putRq : Rq := ⟨2, 1, 3, 7, 0, 0, 0⟩
theorem putRq_bytes : BL putRq = [2, 1, 0, 0, 3, 7] ∧ BE putRq = 0 := by
  have h : mayB putRq = true := by decide
  unfold BL BE
  rw [h]
  exact ⟨by decide, rfl⟩
theorem wakes08_any (w : World) : Calls Try.prog 25 #[] w fun e w' => e = .returned (.bool true) ∧ Below w.heap.size w w' := by
  have HB := Lib.hid (rqBytes_any putRq ⟨by decide, fun f => by unfold putRq Rq.num; split <;> simp⟩ w)
  rw [putRq_bytes.1, putRq_bytes.2] at HB
  have HZ := Lib.hid (show sizeE 5 = 14 by decide)
  unfold putRq Rq.cells at HB
  go_enter Try.func25, Try.ntmps25
  go_wp2_with fail
  refine HB.out.mono ?_
  rintro e w1 ⟨v, rfl, hs, hb⟩
  have hst := hs.text
  rw [show strOf [2, 1, 0, 0, 3, 7] = ⟨#[2, 1, 0, 0, 3, 7]⟩ from rfl] at hst
  have HB1 := Lib.hid hb
  clear hb hs
  go_wp2_with fail
  refine (size_any 5 (by decide) _).mono ?_
  rintro e w2 ⟨rfl, hb⟩
  have HB2 := Lib.hid hb
  clear hb hst
  rw [HZ.out]
  go_wp2
  go_ret
  exact ⟨rfl, HB1.out.trans (HB2.out.mono HB1.out.size)⟩
theorem sizer_w (k : Int) (w : World) : Calls Try.prog 22 #[.int .i8 k] w fun e w' => e = .returned (.int .i64 (sizeE k)) ∧ w = w' := (sizer_any k w).mono fun _ _ h => ⟨h.1, h.2.symm⟩
set_option maxHeartbeats 4000000 in
theorem lawRequestWrites_walk (r : Rq) (w : World) (hr : r.wf) : Calls Try.prog 5 #[.agg r.cells] w fun e w' => e = .returned (.bool true) ∧ Below w.heap.size w w' := by
  have PB := Lib.hid (rqBytes_any r hr)
  have FB := Lib.hid (rfBytes_any r)
  have PM := Lib.hid (rqMay_any r hr)
  have FM := Lib.hid (mayr_any r)
  have HW := Lib.hid hr.1
  have HRS := Lib.hid (fun w x => RBox.start (r := r) (w := w) (x := x))
  clear hr
  unfold Rq.cells at *
  go_enter Try.func5, Try.ntmps5
  go_wp2_with fail
  refine (PB.out _).mono ?_
  rintro e w1 ⟨v1, rfl, hs1, hb1⟩
  have HX1 := Lib.hid (HRS.out _ _ hb1)
  have HS1 := Lib.hid hs1
  clear hs1 hb1
  have hc0 : w1.cell? ⟨w.heap.size, 0, none⟩ = some (.int .i8 r.k) := HX1.out.1 0
  have hc1 : w1.cell? ⟨w.heap.size, 1, none⟩ = some (.int .i64 r.t) := HX1.out.1 1
  have hc2 : w1.cell? ⟨w.heap.size, 2, none⟩ = some (.int .i64 r.y) := HX1.out.1 2
  have hc3 : w1.cell? ⟨w.heap.size, 3, none⟩ = some (.int .i64 r.v) := HX1.out.1 3
  have hc4 : w1.cell? ⟨w.heap.size, 4, none⟩ = some (.int .i64 r.p) := HX1.out.1 4
  have hc5 : w1.cell? ⟨w.heap.size, 5, none⟩ = some (.int .i64 r.f) := HX1.out.1 5
  have hc6 : w1.cell? ⟨w.heap.size, 6, none⟩ = some (.int .i64 r.o) := HX1.out.1 6
  go_wp2_with fail
  refine (FB.out _).mono ?_
  rintro e w2 ⟨v2, rfl, hs2, hb2⟩
  have HX2 := Lib.hid (HX1.out.later hb2 HX1.out.2.1)
  have HT1 := Lib.hid (HS1.out.below hb2 (Nat.le_refl _))
  have HS2 := Lib.hid hs2
  clear hs2 hb2 hc0 hc1 hc2 hc3 hc4 hc5 hc6 HS1
  go_wp2_with fail
  have hc0 : ∀ d os, (Go.Sort.grow (redrawn w2 d) os).cell? ⟨w.heap.size, 0, none⟩ = some (.int .i8 r.k) := fun d os => cell_regrown (HX2.out.1 0) d os
  have hc1 : ∀ d os, (Go.Sort.grow (redrawn w2 d) os).cell? ⟨w.heap.size, 1, none⟩ = some (.int .i64 r.t) := fun d os => cell_regrown (HX2.out.1 1) d os
  have hc2 : ∀ d os, (Go.Sort.grow (redrawn w2 d) os).cell? ⟨w.heap.size, 2, none⟩ = some (.int .i64 r.y) := fun d os => cell_regrown (HX2.out.1 2) d os
  have hc3 : ∀ d os, (Go.Sort.grow (redrawn w2 d) os).cell? ⟨w.heap.size, 3, none⟩ = some (.int .i64 r.v) := fun d os => cell_regrown (HX2.out.1 3) d os
  have hc4 : ∀ d os, (Go.Sort.grow (redrawn w2 d) os).cell? ⟨w.heap.size, 4, none⟩ = some (.int .i64 r.p) := fun d os => cell_regrown (HX2.out.1 4) d os
  have hc5 : ∀ d os, (Go.Sort.grow (redrawn w2 d) os).cell? ⟨w.heap.size, 5, none⟩ = some (.int .i64 r.f) := fun d os => cell_regrown (HX2.out.1 5) d os
  have hc6 : ∀ d os, (Go.Sort.grow (redrawn w2 d) os).cell? ⟨w.heap.size, 6, none⟩ = some (.int .i64 r.o) := fun d os => cell_regrown (HX2.out.1 6) d os
  have ht1 := fun d os => (HT1.out.below (below_regrown w2 d os) (Nat.le_refl _)).text
  have ht2 := fun d os => (HS2.out.below (below_regrown w2 d os) (Nat.le_refl _)).text
  refine wp_region_noPanic ?_
  refine wp_region_pl (.step [true, true, true, true, true, true, true, true, true, true, true, true, false, true] (.cons 12 (.step [] (.cons 14 (.step [false, false, false, false, false, false, false, false, false, false, false, false, false, false, false, true, true, true, true, true, false, true, true] (.cons 20 (.step [] (.cons 23 (.step [false, false, false, false, false, false, false, false, false, false, false, false, false, false, false, false, false, false, false, false, false, false, false, false, true, true, true, true, true, false, true, true] (.cons 29 (.step [] (.cons 32 (.step [false, false, false, false, false, false, false, false, false, false, false, false, false, false, false, false, false, false, false, false, false, false, false, false, false, false, false, false, false, false, false, false, false, true, true, true] (.cons 36 (.last [false, false, false, false, false, false, false, false, false, false, false, false, false, false, false, false, false, false, false, false, false, false, false, false, false, false, false, false, false, false, false, false, false, false, false, false, false, true, true]) .nil)) .nil)) .nil)) .nil)) .nil)) .nil)) .nil)) (fun x => ∃ p : Regrown, x = Go.Sort.grow (redrawn w2 p.d) p.os) (by kernel_rfl) (by kernel_rfl) (by kernel_rfl) (fun _ _ _ _ _ h => h) (over_drew w2) ?_
  simp only [wpPl, wpBr, selF, and_true]
  repeat (go_big_quiet_step (fail))
  refine wpQuiet_nil ?_
  rintro _ ⟨⟨d0, os0⟩, rfl⟩
  refine wpOp_step rfl (fun K hK => ?_)
  go_simp
  refine (PM.out _).mono ?_
  rintro e x ⟨rfl, hb⟩
  refine hK _ _ ⟨fun x => ∃ p : Regrown, x = Go.Sort.grow (redrawn w2 p.d) p.os, over_step ⟨⟨d0, os0⟩, rfl⟩ hb, fun _ h => h, ?_⟩
  clear hK K hb
  repeat (go_big_quiet_step (fail))
  refine wpQuiet_nil ?_
  rintro _ ⟨⟨d1, os1⟩, rfl⟩
  refine wpOp_step rfl (fun K hK => ?_)
  go_simp
  refine (FM.out _).mono ?_
  rintro e x ⟨rfl, hb⟩
  refine hK _ _ ⟨fun x => ∃ p : Regrown, x = Go.Sort.grow (redrawn w2 p.d) p.os, over_step ⟨⟨d1, os1⟩, rfl⟩ hb, fun _ h => h, ?_⟩
  clear hK K hb
  repeat (go_big_quiet_step (fail))
  refine wpQuiet_nil ?_
  rintro _ ⟨⟨d2, os2⟩, rfl⟩
  refine wpOp_step rfl (fun K hK => ?_)
  go_simp
  refine (size_any r.k HW.out _).mono ?_
  rintro e x ⟨rfl, hb⟩
  refine hK _ _ ⟨fun x => ∃ p : Regrown, x = Go.Sort.grow (redrawn w2 p.d) p.os, over_step ⟨⟨d2, os2⟩, rfl⟩ hb, fun _ h => h, ?_⟩
  clear hK K hb
  repeat (go_big_quiet_step (fail))
  refine wpQuiet_nil ?_
  rintro _ ⟨⟨d3, os3⟩, rfl⟩
  refine wpOp_step rfl (fun K hK => ?_)
  go_simp
  refine (sizer_w r.k _).mono ?_
  rintro e x ⟨rfl, rfl⟩
  refine hK _ _ ⟨fun x => ∃ p : Regrown, x = Go.Sort.grow (redrawn w2 p.d) p.os, ⟨⟨d3, os3⟩, rfl⟩, fun _ h => h, ?_⟩
  clear hK K
  repeat (go_big_quiet_step (fail))
  refine wpQuiet_nil ?_
  rintro _ ⟨⟨d4, os4⟩, rfl⟩
  refine wpOp_step rfl (fun K hK => ?_)
  go_simp
  refine (own_any r.k HW.out _).mono ?_
  rintro e x ⟨rfl, hb⟩
  refine hK _ _ ⟨fun x => ∃ p : Regrown, x = Go.Sort.grow (redrawn w2 p.d) p.os, over_step ⟨⟨d4, os4⟩, rfl⟩ hb, fun _ h => h, ?_⟩
  clear hK K hb
  repeat (go_big_quiet_step (fail))
  refine wpQuiet_nil ?_
  rintro _ ⟨⟨d5, os5⟩, rfl⟩
  refine wpOp_step rfl (fun K hK => ?_)
  go_simp
  refine (ownr_w r.k _).mono ?_
  rintro e x ⟨rfl, rfl⟩
  refine hK _ _ ⟨fun x => ∃ p : Regrown, x = Go.Sort.grow (redrawn w2 p.d) p.os, ⟨⟨d5, os5⟩, rfl⟩, fun _ h => h, ?_⟩
  clear hK K
  repeat (go_big_quiet_step (fail))
  refine wpQuiet_nil ?_
  rintro _ ⟨⟨d6, os6⟩, rfl⟩
  refine wpOp_step rfl (fun K hK => ?_)
  go_simp
  refine (wakes08_any _).mono ?_
  rintro e x ⟨rfl, hb⟩
  refine hK _ _ ⟨fun x => ∃ p : Regrown, x = Go.Sort.grow (redrawn w2 p.d) p.os, over_step ⟨⟨d6, os6⟩, rfl⟩ hb, fun _ h => h, ?_⟩
  clear hK K hb
  repeat (go_big_quiet_step (fail))
  refine wpQuiet_nil ?_
  rintro _ ⟨⟨d7, os7⟩, rfl⟩
  have HE := Lib.hid (HX2.out.2.2.trans ((below_regrown w2 d7 os7).mono (Nat.le_of_lt HX2.out.2.1)))
  generalize Go.Sort.grow (redrawn w2 d7) os7 = x7 at *
  refine NoPanic.normal ?_
  go_wp2
  go_ret
  exact ⟨rfl, HE.out⟩
end Go.Proofs.Ytcffabfaefbjcaa
