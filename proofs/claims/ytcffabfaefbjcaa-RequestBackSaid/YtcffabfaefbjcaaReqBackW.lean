/-
  The walk of RequestBack (chapter 08).
-/
import Derived.Test.YtcffabfaefbjcaaBackPlain
import Derived.Test.YtcffabfaefbjcaaReqReads
import Derived.Outline
namespace Go.Proofs.Ytcffabfaefbjcaa
set_option linter.unusedVariables false
open Go.RowKit
theorem Sl.cutb {w : World} {ao : Option Addr} {n cap : Nat} {l : List Nat} (h : Sl w (.slice ao n cap) l) (k c : Nat) (hk : k ≤ n) (hc1 : k ≤ c) (hc2 : c ≤ cap) : Sl w (.slice ao k c) (l.take k) := by
  obtain ⟨h0, a, c', he, h1, h2, h3, h4⟩ := h
  cases he
  have hl : (l.take k).length = k := by rw [List.length_take]; omega
  refine ⟨h0.take k, ao, c, by rw [hl], by rw [hl]; exact hc1, by omega, fun e => by have := h3 e; omega, ?_⟩
  rcases h4 with h4 | ⟨b, off, rfl, hc⟩
  · exact .inl (by rw [hl]; omega)
  · refine .inr ⟨b, off, rfl, fun i hi => ?_⟩
    rw [hl] at hi
    rw [hc i (by omega)]
    simp [List.getD, hi]
theorem elemB35 : Try.prog.underlying 35 = some (.slice (Try.prog.elem 35)) := by rw [Try.underlying35]; rfl
theorem sizeB35 (w : World) : (Go.sizeOf (Try.prog.elem 35)).run Try.prog w = .ok 1 w := by
  obtain ⟨i0, hi, hz0, hz1, hz2⟩ := info_parts bt.i
  have he : Try.prog.elem 35 = 5 := by simp [Program.elem, Try.underlying35]
  rw [he]
  simp [Go.sizeOf, typeInfo, hi, hz1]
/-- 's[k:]' -/
theorem slice_toB (ao : Option Addr) (len cap k : Nat) (hk : k ≤ cap) (hc : 0 < cap) (w : World) : (Instr.slice 35 (.slice ao len cap) none (some (.int .i64 (k : Int))) none).run Try.prog w = .ok (.slice ao k cap) w := by
  rw [run_slice_h w 35 _ _ _ elemB35 .i64 _ (by omega) (by omega), sizeB35]
  by_cases h0 : k = 0
  · subst h0; cases ao <;> simp [Result.andThen, sliced, Addr.add] <;> omega
  · cases ao <;> simp [Result.andThen, sliced, Addr.add] <;> omega
theorem cut_range (c : Int) (n : Nat) (h : 1 ≤ n) : -(n : Int) < c.tmod n ∧ c.tmod n < n := by
  constructor
  · have h1 := Int.lt_tmod_of_pos c (show (0 : Int) < n by omega)
    omega
  · exact Int.tmod_lt_of_pos c (by omega)
theorem cut_nat (c : Int) (n : Nat) (h : 1 ≤ n) : ∃ m : Nat, (c.tmod ↑n + ↑n) % ↑n = (m : Int) ∧ (c.tmod ↑n + ↑n).tmod ↑n = (m : Int) ∧ m < n := by
  have hr := cut_range c n h
  have h1 : 0 ≤ (c.tmod ↑n + ↑n) % (n : Int) := Int.emod_nonneg _ (by omega)
  have h2 : (c.tmod ↑n + ↑n) % (n : Int) < n := Int.emod_lt_of_pos _ (by omega)
  refine ⟨((c.tmod ↑n + ↑n) % (n : Int)).toNat, by omega, ?_, by omega⟩
  rw [Int.tmod_eq_emod_of_nonneg (by omega)]
  omega
theorem may_wf {q : Rq} (h : mayB q = true) : q.wf := by
  obtain ⟨hk, ht, hy, hv, hp, hf, ho⟩ := bounds_of h
  refine ⟨by simp [Lit.wf, IntKind.min, IntKind.max, IntKind.bits, IntKind.signed]; omega, fun f => ?_⟩
  match f with
  | 0 => show _ ≤ q.t ∧ q.t ≤ _; omega
  | 1 => show _ ≤ q.y ∧ q.y ≤ _; omega
  | 2 => show _ ≤ q.v ∧ q.v ≤ _; omega
  | 3 => show _ ≤ q.p ∧ q.p ≤ _; omega
  | 4 => show _ ≤ q.f ∧ q.f ≤ _; omega
  | n + 5 => show _ ≤ q.o ∧ q.o ≤ _; omega
theorem BL_may {q : Rq} (h : mayB q = true) : BE q = 0 ∧ BL q = rqL q := ⟨by unfold BE; rw [h]; rfl, BL_rq q h⟩
theorem BL_not {q : Rq} (h : mayB q = false) : BE q = 2 ∧ BL q = [] := ⟨by unfold BE; rw [h]; rfl, by unfold BL; rw [h]; rfl⟩
set_option maxHeartbeats 2000000 in
theorem back_ok_no (r : Rq) (v0 : Value) (raw : List Nat) (cut : Int) (w : World) (hr : r.wf) (hsl : Sl w v0 raw) (hc : -9223372036854775808 ≤ cut ∧ cut ≤ 9223372036854775807) (hl : raw.length ≤ 4000) (hE : (rdQ raw).2 = 0) (hmr : mayB r = false) : Calls Try.prog 11 #[.agg r.cells, v0, .int .i64 cut] w fun e w' => e = .returned (.bool true) ∧ Below w.heap.size w w' := by
  obtain ⟨q, E, hq⟩ : ∃ q E, rdQ raw = (q, E) := ⟨_, _, rfl⟩
  obtain ⟨ao, cap, rfl, hcap1, hcap2⟩ := hsl.open
  have d0 : decide (4000 < raw.length) = false := by simpa using hl
  have d00 : decide ((4000 : Int) < (raw.length : Int)) = false := by simp; omega
  have PR := Lib.hid (fun w' (h : Sl w' (.slice ao raw.length cap) raw) => rdRead_any _ raw w' h (by omega))
  rw [hq] at PR
  have HS := Lib.hid hsl
  have PB := Lib.hid (rqBytes_any r hr)
  have PM := Lib.hid (rqMay_any r hr)
  have HKW := Lib.hid hr.1
  have HRS := Lib.hid (fun w x => RBox.start (r := r) (w := w) (x := x))
  rw [hq] at hE
  simp only at hE
  subst hE
  obtain ⟨hmq, hbq⟩ := rd_bwd hsl.bytes hq
  have PBQ := Lib.hid (rqBytes_any q (may_wf hmq))
  rw [(BL_may hmq).1, (BL_may hmq).2, hbq] at PBQ
  have PMQ := Lib.hid (rqMay_any q (may_wf hmq))
  rw [hmq] at PMQ
  have HQS := Lib.hid (fun w x => RBox.start (r := q) (w := w) (x := x))
  clear hmq hbq
  clear hq
  rw [(BL_not hmr).1, (BL_not hmr).2] at PB
  rw [hmr] at PM
  clear hmr
  clear hsl hl hr
  unfold Rq.cells at *
  go_enter Try.func11, Try.ntmps11
  go_wp2_with fail
  refine (PR.out _ (HS.out.alloc _)).mono ?_
  rintro e w1 ⟨rfl, hb1⟩
  have HX1 := Lib.hid (HRS.out _ _ hb1)
  have HS1 := Lib.hid ((HS.out.alloc _).below hb1 (Nat.le_refl _))
  have hlt1 := HX1.out.2.1
  clear hb1
  unfold Rq.cells
  go_wp2_with fail
  refine (PBQ.out _).mono ?_
  rintro e w2 ⟨v2, rfl, hs2, hb2⟩
  have HX2 := Lib.hid ((HX1.out.alloc _).later hb2 (HX1.out.alloc _).2.1)
  have HQ2 := Lib.hid (HQS.out _ _ hb2)
  have ht0 := ((HS1.out.alloc _).below hb2 (Nat.le_refl _)).text
  have ht2 := hs2.text
  clear hb2 hs2 HX1 hlt1
  have q0 : w2.cell? ⟨w1.heap.size, 0, none⟩ = some (.int .i8 q.k) := HQ2.out.1 0
  have q1 : w2.cell? ⟨w1.heap.size, 1, none⟩ = some (.int .i64 q.t) := HQ2.out.1 1
  have q2 : w2.cell? ⟨w1.heap.size, 2, none⟩ = some (.int .i64 q.y) := HQ2.out.1 2
  have q3 : w2.cell? ⟨w1.heap.size, 3, none⟩ = some (.int .i64 q.v) := HQ2.out.1 3
  have q4 : w2.cell? ⟨w1.heap.size, 4, none⟩ = some (.int .i64 q.p) := HQ2.out.1 4
  have q5 : w2.cell? ⟨w1.heap.size, 5, none⟩ = some (.int .i64 q.f) := HQ2.out.1 5
  have q6 : w2.cell? ⟨w1.heap.size, 6, none⟩ = some (.int .i64 q.o) := HQ2.out.1 6
  go_wp2_with fail
  refine (PMQ.out _).mono ?_
  rintro e w3 ⟨rfl, hb3⟩
  have HX := Lib.hid (HX2.out.later hb3 HX2.out.2.1)
  clear hb3 ht0 ht2
  clear q0 q1 q2 q3 q4 q5 q6
  have r0 : w3.cell? ⟨w.heap.size, 0, none⟩ = some (.int .i8 r.k) := HX.out.1 0
  have r1 : w3.cell? ⟨w.heap.size, 1, none⟩ = some (.int .i64 r.t) := HX.out.1 1
  have r2 : w3.cell? ⟨w.heap.size, 2, none⟩ = some (.int .i64 r.y) := HX.out.1 2
  have r3 : w3.cell? ⟨w.heap.size, 3, none⟩ = some (.int .i64 r.v) := HX.out.1 3
  have r4 : w3.cell? ⟨w.heap.size, 4, none⟩ = some (.int .i64 r.p) := HX.out.1 4
  have r5 : w3.cell? ⟨w.heap.size, 5, none⟩ = some (.int .i64 r.f) := HX.out.1 5
  have r6 : w3.cell? ⟨w.heap.size, 6, none⟩ = some (.int .i64 r.o) := HX.out.1 6
  go_wp2_with fail
  refine (PB.out _).mono ?_
  rintro e x3 ⟨v3, rfl, hs3, hb3⟩
  have HX3 := Lib.hid (HX.out.later hb3 HX.out.2.1)
  obtain ⟨ao3, cap3, rfl, hcap3, hcapm3⟩ := hs3.open
  clear hs3 hb3 HX
  clear r0 r1 r2 r3 r4 r5 r6
  have r0 : x3.cell? ⟨w.heap.size, 0, none⟩ = some (.int .i8 r.k) := HX3.out.1 0
  have r1 : x3.cell? ⟨w.heap.size, 1, none⟩ = some (.int .i64 r.t) := HX3.out.1 1
  have r2 : x3.cell? ⟨w.heap.size, 2, none⟩ = some (.int .i64 r.y) := HX3.out.1 2
  have r3 : x3.cell? ⟨w.heap.size, 3, none⟩ = some (.int .i64 r.v) := HX3.out.1 3
  have r4 : x3.cell? ⟨w.heap.size, 4, none⟩ = some (.int .i64 r.p) := HX3.out.1 4
  have r5 : x3.cell? ⟨w.heap.size, 5, none⟩ = some (.int .i64 r.f) := HX3.out.1 5
  have r6 : x3.cell? ⟨w.heap.size, 6, none⟩ = some (.int .i64 r.o) := HX3.out.1 6
  go_wp2_with fail
  refine (PM.out _).mono ?_
  rintro e x4 ⟨rfl, hb4⟩
  have HX4 := Lib.hid (HX3.out.later hb4 HX3.out.2.1)
  clear hb4
  go_wp2_with (go_at_call 25; refine (wakes08_any _).mono ?_; rintro e x5 ⟨rfl, hb5⟩)
  go_ret
  exact ⟨rfl, (HX4.out.later hb5 HX4.out.2.1).2.2⟩
set_option maxHeartbeats 2000000 in
theorem back_bad50_no (r : Rq) (v0 : Value) (raw : List Nat) (cut : Int) (w : World) (hr : r.wf) (hsl : Sl w v0 raw) (hc : -9223372036854775808 ≤ cut ∧ cut ≤ 9223372036854775807) (hl : raw.length ≤ 4000) (hE : (rdQ raw).2 = 50) (hmr : mayB r = false) : Calls Try.prog 11 #[.agg r.cells, v0, .int .i64 cut] w fun e w' => e = .returned (.bool true) ∧ Below w.heap.size w w' := by
  obtain ⟨q, E, hq⟩ : ∃ q E, rdQ raw = (q, E) := ⟨_, _, rfl⟩
  obtain ⟨ao, cap, rfl, hcap1, hcap2⟩ := hsl.open
  have d0 : decide (4000 < raw.length) = false := by simpa using hl
  have d00 : decide ((4000 : Int) < (raw.length : Int)) = false := by simp; omega
  have PR := Lib.hid (fun w' (h : Sl w' (.slice ao raw.length cap) raw) => rdRead_any _ raw w' h (by omega))
  rw [hq] at PR
  have HS := Lib.hid hsl
  have PB := Lib.hid (rqBytes_any r hr)
  have PM := Lib.hid (rqMay_any r hr)
  have HKW := Lib.hid hr.1
  have HRS := Lib.hid (fun w x => RBox.start (r := r) (w := w) (x := x))
  rw [hq] at hE
  simp only at hE
  subst hE
  obtain ⟨rfl, _⟩ := rd_else hsl.bytes hq (by omega)
  clear hq
  rw [(BL_not hmr).1, (BL_not hmr).2] at PB
  rw [hmr] at PM
  clear hmr
  clear hsl hl hr
  unfold Rq.cells at *
  go_enter Try.func11, Try.ntmps11
  go_wp2_with fail
  refine (PR.out _ (HS.out.alloc _)).mono ?_
  rintro e w1 ⟨rfl, hb1⟩
  have HX1 := Lib.hid (HRS.out _ _ hb1)
  have HS1 := Lib.hid ((HS.out.alloc _).below hb1 (Nat.le_refl _))
  have hlt1 := HX1.out.2.1
  clear hb1
  unfold Rq.cells
  unfold zrq
  have HX := Lib.hid (HX1.out.alloc (.cells zrq.cells 34))
  have r0 : w1.cell? ⟨w.heap.size, 0, none⟩ = some (.int .i8 r.k) := HX1.out.1 0
  have r1 : w1.cell? ⟨w.heap.size, 1, none⟩ = some (.int .i64 r.t) := HX1.out.1 1
  have r2 : w1.cell? ⟨w.heap.size, 2, none⟩ = some (.int .i64 r.y) := HX1.out.1 2
  have r3 : w1.cell? ⟨w.heap.size, 3, none⟩ = some (.int .i64 r.v) := HX1.out.1 3
  have r4 : w1.cell? ⟨w.heap.size, 4, none⟩ = some (.int .i64 r.p) := HX1.out.1 4
  have r5 : w1.cell? ⟨w.heap.size, 5, none⟩ = some (.int .i64 r.f) := HX1.out.1 5
  have r6 : w1.cell? ⟨w.heap.size, 6, none⟩ = some (.int .i64 r.o) := HX1.out.1 6
  go_wp2_with fail
  refine (PB.out _).mono ?_
  rintro e x3 ⟨v3, rfl, hs3, hb3⟩
  have HX3 := Lib.hid (HX.out.later hb3 HX.out.2.1)
  obtain ⟨ao3, cap3, rfl, hcap3, hcapm3⟩ := hs3.open
  clear hs3 hb3 HX
  clear r0 r1 r2 r3 r4 r5 r6
  have r0 : x3.cell? ⟨w.heap.size, 0, none⟩ = some (.int .i8 r.k) := HX3.out.1 0
  have r1 : x3.cell? ⟨w.heap.size, 1, none⟩ = some (.int .i64 r.t) := HX3.out.1 1
  have r2 : x3.cell? ⟨w.heap.size, 2, none⟩ = some (.int .i64 r.y) := HX3.out.1 2
  have r3 : x3.cell? ⟨w.heap.size, 3, none⟩ = some (.int .i64 r.v) := HX3.out.1 3
  have r4 : x3.cell? ⟨w.heap.size, 4, none⟩ = some (.int .i64 r.p) := HX3.out.1 4
  have r5 : x3.cell? ⟨w.heap.size, 5, none⟩ = some (.int .i64 r.f) := HX3.out.1 5
  have r6 : x3.cell? ⟨w.heap.size, 6, none⟩ = some (.int .i64 r.o) := HX3.out.1 6
  go_wp2_with fail
  refine (PM.out _).mono ?_
  rintro e x4 ⟨rfl, hb4⟩
  have HX4 := Lib.hid (HX3.out.later hb4 HX3.out.2.1)
  clear hb4
  go_wp2_with (go_at_call 25; refine (wakes08_any _).mono ?_; rintro e x5 ⟨rfl, hb5⟩)
  go_ret
  exact ⟨rfl, (HX4.out.later hb5 HX4.out.2.1).2.2⟩
set_option maxHeartbeats 2000000 in
theorem back_bad240_no (r : Rq) (v0 : Value) (raw : List Nat) (cut : Int) (w : World) (hr : r.wf) (hsl : Sl w v0 raw) (hc : -9223372036854775808 ≤ cut ∧ cut ≤ 9223372036854775807) (hl : raw.length ≤ 4000) (hE : (rdQ raw).2 = 240) (hmr : mayB r = false) : Calls Try.prog 11 #[.agg r.cells, v0, .int .i64 cut] w fun e w' => e = .returned (.bool true) ∧ Below w.heap.size w w' := by
  obtain ⟨q, E, hq⟩ : ∃ q E, rdQ raw = (q, E) := ⟨_, _, rfl⟩
  obtain ⟨ao, cap, rfl, hcap1, hcap2⟩ := hsl.open
  have d0 : decide (4000 < raw.length) = false := by simpa using hl
  have d00 : decide ((4000 : Int) < (raw.length : Int)) = false := by simp; omega
  have PR := Lib.hid (fun w' (h : Sl w' (.slice ao raw.length cap) raw) => rdRead_any _ raw w' h (by omega))
  rw [hq] at PR
  have HS := Lib.hid hsl
  have PB := Lib.hid (rqBytes_any r hr)
  have PM := Lib.hid (rqMay_any r hr)
  have HKW := Lib.hid hr.1
  have HRS := Lib.hid (fun w x => RBox.start (r := r) (w := w) (x := x))
  rw [hq] at hE
  simp only at hE
  subst hE
  obtain ⟨rfl, _⟩ := rd_else hsl.bytes hq (by omega)
  clear hq
  rw [(BL_not hmr).1, (BL_not hmr).2] at PB
  rw [hmr] at PM
  clear hmr
  clear hsl hl hr
  unfold Rq.cells at *
  go_enter Try.func11, Try.ntmps11
  go_wp2_with fail
  refine (PR.out _ (HS.out.alloc _)).mono ?_
  rintro e w1 ⟨rfl, hb1⟩
  have HX1 := Lib.hid (HRS.out _ _ hb1)
  have HS1 := Lib.hid ((HS.out.alloc _).below hb1 (Nat.le_refl _))
  have hlt1 := HX1.out.2.1
  clear hb1
  unfold Rq.cells
  unfold zrq
  have HX := Lib.hid (HX1.out.alloc (.cells zrq.cells 34))
  have r0 : w1.cell? ⟨w.heap.size, 0, none⟩ = some (.int .i8 r.k) := HX1.out.1 0
  have r1 : w1.cell? ⟨w.heap.size, 1, none⟩ = some (.int .i64 r.t) := HX1.out.1 1
  have r2 : w1.cell? ⟨w.heap.size, 2, none⟩ = some (.int .i64 r.y) := HX1.out.1 2
  have r3 : w1.cell? ⟨w.heap.size, 3, none⟩ = some (.int .i64 r.v) := HX1.out.1 3
  have r4 : w1.cell? ⟨w.heap.size, 4, none⟩ = some (.int .i64 r.p) := HX1.out.1 4
  have r5 : w1.cell? ⟨w.heap.size, 5, none⟩ = some (.int .i64 r.f) := HX1.out.1 5
  have r6 : w1.cell? ⟨w.heap.size, 6, none⟩ = some (.int .i64 r.o) := HX1.out.1 6
  go_wp2_with fail
  refine (PB.out _).mono ?_
  rintro e x3 ⟨v3, rfl, hs3, hb3⟩
  have HX3 := Lib.hid (HX.out.later hb3 HX.out.2.1)
  obtain ⟨ao3, cap3, rfl, hcap3, hcapm3⟩ := hs3.open
  clear hs3 hb3 HX
  clear r0 r1 r2 r3 r4 r5 r6
  have r0 : x3.cell? ⟨w.heap.size, 0, none⟩ = some (.int .i8 r.k) := HX3.out.1 0
  have r1 : x3.cell? ⟨w.heap.size, 1, none⟩ = some (.int .i64 r.t) := HX3.out.1 1
  have r2 : x3.cell? ⟨w.heap.size, 2, none⟩ = some (.int .i64 r.y) := HX3.out.1 2
  have r3 : x3.cell? ⟨w.heap.size, 3, none⟩ = some (.int .i64 r.v) := HX3.out.1 3
  have r4 : x3.cell? ⟨w.heap.size, 4, none⟩ = some (.int .i64 r.p) := HX3.out.1 4
  have r5 : x3.cell? ⟨w.heap.size, 5, none⟩ = some (.int .i64 r.f) := HX3.out.1 5
  have r6 : x3.cell? ⟨w.heap.size, 6, none⟩ = some (.int .i64 r.o) := HX3.out.1 6
  go_wp2_with fail
  refine (PM.out _).mono ?_
  rintro e x4 ⟨rfl, hb4⟩
  have HX4 := Lib.hid (HX3.out.later hb4 HX3.out.2.1)
  clear hb4
  go_wp2_with (go_at_call 25; refine (wakes08_any _).mono ?_; rintro e x5 ⟨rfl, hb5⟩)
  go_ret
  exact ⟨rfl, (HX4.out.later hb5 HX4.out.2.1).2.2⟩
set_option maxHeartbeats 2000000 in
theorem back_ok_yes (r : Rq) (v0 : Value) (raw : List Nat) (cut : Int) (w : World) (hr : r.wf) (hsl : Sl w v0 raw) (hc : -9223372036854775808 ≤ cut ∧ cut ≤ 9223372036854775807) (hl : raw.length ≤ 4000) (hE : (rdQ raw).2 = 0) (hmr : mayB r = true) : Calls Try.prog 11 #[.agg r.cells, v0, .int .i64 cut] w fun e w' => e = .returned (.bool true) ∧ Below w.heap.size w w' := by
  obtain ⟨q, E, hq⟩ : ∃ q E, rdQ raw = (q, E) := ⟨_, _, rfl⟩
  obtain ⟨ao, cap, rfl, hcap1, hcap2⟩ := hsl.open
  have d0 : decide (4000 < raw.length) = false := by simpa using hl
  have d00 : decide ((4000 : Int) < (raw.length : Int)) = false := by simp; omega
  have PR := Lib.hid (fun w' (h : Sl w' (.slice ao raw.length cap) raw) => rdRead_any _ raw w' h (by omega))
  rw [hq] at PR
  have HS := Lib.hid hsl
  have PB := Lib.hid (rqBytes_any r hr)
  have PM := Lib.hid (rqMay_any r hr)
  have HKW := Lib.hid hr.1
  have HRS := Lib.hid (fun w x => RBox.start (r := r) (w := w) (x := x))
  rw [hq] at hE
  simp only at hE
  subst hE
  obtain ⟨hmq, hbq⟩ := rd_bwd hsl.bytes hq
  have PBQ := Lib.hid (rqBytes_any q (may_wf hmq))
  rw [(BL_may hmq).1, (BL_may hmq).2, hbq] at PBQ
  have PMQ := Lib.hid (rqMay_any q (may_wf hmq))
  rw [hmq] at PMQ
  have HQS := Lib.hid (fun w x => RBox.start (r := q) (w := w) (x := x))
  clear hmq hbq
  clear hq
  rw [(BL_may hmr).1, (BL_may hmr).2] at PB
  rw [hmr] at PM
  obtain ⟨n, hn⟩ : ∃ n, (rqL r).length = n := ⟨_, rfl⟩
  have HLen := Lib.hid hn
  have hn1 : 1 ≤ n ∧ n ≤ 14 := by
    have h2 := (fwd_any hmr).2
    have hk := (bounds_of hmr).1
    rw [sizeE_of] at h2
    rw [hn] at h2
    repeat' split at h2
    all_goals omega
  have HSZ := Lib.hid (show sizeE r.k = (n : Int) by rw [← (fwd_any hmr).2, hn])
  have PRD := Lib.hid (fun v w' (h : Sl w' v (rqL r)) => rdRead_any v (rqL r) w' h (by omega))
  rw [rd_fwd hmr] at PRD
  have PCT := Lib.hid (fun m (hm : m < n) v w' (h : Sl w' v ((rqL r).take m)) => rdRead_any v ((rqL r).take m) w' h (by rw [List.length_take]; omega))
  have HCT := Lib.hid (fun m (hm : m < n) => rd_cut hmr m (by omega))
  have dn0 : (n == 0) = false := by simp; omega
  have dn1 : ((n : Int) == 0) = false := by rw [beq_eq_false_iff_ne]; omega
  clear hmr hn
  clear hsl hl hr
  unfold Rq.cells at *
  go_enter Try.func11, Try.ntmps11
  go_wp2_with fail
  refine (PR.out _ (HS.out.alloc _)).mono ?_
  rintro e w1 ⟨rfl, hb1⟩
  have HX1 := Lib.hid (HRS.out _ _ hb1)
  have HS1 := Lib.hid ((HS.out.alloc _).below hb1 (Nat.le_refl _))
  have hlt1 := HX1.out.2.1
  clear hb1
  unfold Rq.cells
  go_wp2_with fail
  refine (PBQ.out _).mono ?_
  rintro e w2 ⟨v2, rfl, hs2, hb2⟩
  have HX2 := Lib.hid ((HX1.out.alloc _).later hb2 (HX1.out.alloc _).2.1)
  have HQ2 := Lib.hid (HQS.out _ _ hb2)
  have ht0 := ((HS1.out.alloc _).below hb2 (Nat.le_refl _)).text
  have ht2 := hs2.text
  clear hb2 hs2 HX1 hlt1
  have q0 : w2.cell? ⟨w1.heap.size, 0, none⟩ = some (.int .i8 q.k) := HQ2.out.1 0
  have q1 : w2.cell? ⟨w1.heap.size, 1, none⟩ = some (.int .i64 q.t) := HQ2.out.1 1
  have q2 : w2.cell? ⟨w1.heap.size, 2, none⟩ = some (.int .i64 q.y) := HQ2.out.1 2
  have q3 : w2.cell? ⟨w1.heap.size, 3, none⟩ = some (.int .i64 q.v) := HQ2.out.1 3
  have q4 : w2.cell? ⟨w1.heap.size, 4, none⟩ = some (.int .i64 q.p) := HQ2.out.1 4
  have q5 : w2.cell? ⟨w1.heap.size, 5, none⟩ = some (.int .i64 q.f) := HQ2.out.1 5
  have q6 : w2.cell? ⟨w1.heap.size, 6, none⟩ = some (.int .i64 q.o) := HQ2.out.1 6
  go_wp2_with fail
  refine (PMQ.out _).mono ?_
  rintro e w3 ⟨rfl, hb3⟩
  have HX := Lib.hid (HX2.out.later hb3 HX2.out.2.1)
  clear hb3 ht0 ht2
  clear q0 q1 q2 q3 q4 q5 q6
  have r0 : w3.cell? ⟨w.heap.size, 0, none⟩ = some (.int .i8 r.k) := HX.out.1 0
  have r1 : w3.cell? ⟨w.heap.size, 1, none⟩ = some (.int .i64 r.t) := HX.out.1 1
  have r2 : w3.cell? ⟨w.heap.size, 2, none⟩ = some (.int .i64 r.y) := HX.out.1 2
  have r3 : w3.cell? ⟨w.heap.size, 3, none⟩ = some (.int .i64 r.v) := HX.out.1 3
  have r4 : w3.cell? ⟨w.heap.size, 4, none⟩ = some (.int .i64 r.p) := HX.out.1 4
  have r5 : w3.cell? ⟨w.heap.size, 5, none⟩ = some (.int .i64 r.f) := HX.out.1 5
  have r6 : w3.cell? ⟨w.heap.size, 6, none⟩ = some (.int .i64 r.o) := HX.out.1 6
  go_wp2_with fail
  refine (PB.out _).mono ?_
  rintro e x3 ⟨v3, rfl, hs3, hb3⟩
  have HX3 := Lib.hid (HX.out.later hb3 HX.out.2.1)
  obtain ⟨ao3, cap3, rfl, hcap3, hcapm3⟩ := hs3.open
  rw [HLen.out] at hs3 hcap3 ⊢
  have HS3 := Lib.hid hs3
  clear hs3 hb3 HX
  clear r0 r1 r2 r3 r4 r5 r6
  go_wp2_with fail
  refine (PRD.out _ _ HS3.out).mono ?_
  rintro e x4 ⟨rfl, hb4⟩
  unfold Rq.cells
  have HX4 := Lib.hid (HX3.out.later hb4 HX3.out.2.1)
  have HS4 := Lib.hid (HS3.out.below hb4 (Nat.le_refl _))
  have hlt4 := HX4.out.2.1
  clear hb4 HS3
  have r0 : x4.cell? ⟨w.heap.size, 0, none⟩ = some (.int .i8 r.k) := HX4.out.1 0
  have r1 : x4.cell? ⟨w.heap.size, 1, none⟩ = some (.int .i64 r.t) := HX4.out.1 1
  have r2 : x4.cell? ⟨w.heap.size, 2, none⟩ = some (.int .i64 r.y) := HX4.out.1 2
  have r3 : x4.cell? ⟨w.heap.size, 3, none⟩ = some (.int .i64 r.v) := HX4.out.1 3
  have r4 : x4.cell? ⟨w.heap.size, 4, none⟩ = some (.int .i64 r.p) := HX4.out.1 4
  have r5 : x4.cell? ⟨w.heap.size, 5, none⟩ = some (.int .i64 r.f) := HX4.out.1 5
  have r6 : x4.cell? ⟨w.heap.size, 6, none⟩ = some (.int .i64 r.o) := HX4.out.1 6
  go_wp2_with fail
  refine (size_any r.k HKW.out _).mono ?_
  rintro e x5 ⟨rfl, hb5⟩
  have HX5 := Lib.hid ((HX4.out.alloc _).later hb5 (HX4.out.alloc _).2.1)
  have HS5 := Lib.hid ((HS4.out.alloc _).below hb5 (Nat.le_refl _))
  rw [HSZ.out]
  clear hb5 hlt4
  clear r0 r1 r2 r3 r4 r5 r6
  obtain ⟨m, hm1, hm2, hmn⟩ := cut_nat cut n hn1.1
  have hb1 := cut_range cut n hn1.1
  have hsl := slice_toB ao3 n cap3 m (by omega) (by omega)
  have HC5 := Lib.hid (HS5.out.cutb m cap3 (by omega) (by omega) (Nat.le_refl _))
  have HPC := Lib.hid (PCT.out m hmn)
  rw [HCT.out m hmn] at HPC
  go_wp2_with fail
  refine (HPC.out _ _ HC5.out).mono ?_
  rintro e x6 ⟨rfl, hb6⟩
  unfold zrq Rq.cells
  have HX6 := Lib.hid (HX5.out.later hb6 HX5.out.2.1)
  clear hb6
  go_wp2_with (go_at_call 25; refine (wakes08_any _).mono ?_; rintro e x7 ⟨rfl, hb7⟩)
  go_ret
  exact ⟨rfl, ((HX6.out.alloc _).later hb7 (HX6.out.alloc _).2.1).2.2⟩
set_option maxHeartbeats 2000000 in
theorem back_bad50_yes (r : Rq) (v0 : Value) (raw : List Nat) (cut : Int) (w : World) (hr : r.wf) (hsl : Sl w v0 raw) (hc : -9223372036854775808 ≤ cut ∧ cut ≤ 9223372036854775807) (hl : raw.length ≤ 4000) (hE : (rdQ raw).2 = 50) (hmr : mayB r = true) : Calls Try.prog 11 #[.agg r.cells, v0, .int .i64 cut] w fun e w' => e = .returned (.bool true) ∧ Below w.heap.size w w' := by
  obtain ⟨q, E, hq⟩ : ∃ q E, rdQ raw = (q, E) := ⟨_, _, rfl⟩
  obtain ⟨ao, cap, rfl, hcap1, hcap2⟩ := hsl.open
  have d0 : decide (4000 < raw.length) = false := by simpa using hl
  have d00 : decide ((4000 : Int) < (raw.length : Int)) = false := by simp; omega
  have PR := Lib.hid (fun w' (h : Sl w' (.slice ao raw.length cap) raw) => rdRead_any _ raw w' h (by omega))
  rw [hq] at PR
  have HS := Lib.hid hsl
  have PB := Lib.hid (rqBytes_any r hr)
  have PM := Lib.hid (rqMay_any r hr)
  have HKW := Lib.hid hr.1
  have HRS := Lib.hid (fun w x => RBox.start (r := r) (w := w) (x := x))
  rw [hq] at hE
  simp only at hE
  subst hE
  obtain ⟨rfl, _⟩ := rd_else hsl.bytes hq (by omega)
  clear hq
  rw [(BL_may hmr).1, (BL_may hmr).2] at PB
  rw [hmr] at PM
  obtain ⟨n, hn⟩ : ∃ n, (rqL r).length = n := ⟨_, rfl⟩
  have HLen := Lib.hid hn
  have hn1 : 1 ≤ n ∧ n ≤ 14 := by
    have h2 := (fwd_any hmr).2
    have hk := (bounds_of hmr).1
    rw [sizeE_of] at h2
    rw [hn] at h2
    repeat' split at h2
    all_goals omega
  have HSZ := Lib.hid (show sizeE r.k = (n : Int) by rw [← (fwd_any hmr).2, hn])
  have PRD := Lib.hid (fun v w' (h : Sl w' v (rqL r)) => rdRead_any v (rqL r) w' h (by omega))
  rw [rd_fwd hmr] at PRD
  have PCT := Lib.hid (fun m (hm : m < n) v w' (h : Sl w' v ((rqL r).take m)) => rdRead_any v ((rqL r).take m) w' h (by rw [List.length_take]; omega))
  have HCT := Lib.hid (fun m (hm : m < n) => rd_cut hmr m (by omega))
  have dn0 : (n == 0) = false := by simp; omega
  have dn1 : ((n : Int) == 0) = false := by rw [beq_eq_false_iff_ne]; omega
  clear hmr hn
  clear hsl hl hr
  unfold Rq.cells at *
  go_enter Try.func11, Try.ntmps11
  go_wp2_with fail
  refine (PR.out _ (HS.out.alloc _)).mono ?_
  rintro e w1 ⟨rfl, hb1⟩
  have HX1 := Lib.hid (HRS.out _ _ hb1)
  have HS1 := Lib.hid ((HS.out.alloc _).below hb1 (Nat.le_refl _))
  have hlt1 := HX1.out.2.1
  clear hb1
  unfold Rq.cells
  unfold zrq
  have HX := Lib.hid (HX1.out.alloc (.cells zrq.cells 34))
  have r0 : w1.cell? ⟨w.heap.size, 0, none⟩ = some (.int .i8 r.k) := HX1.out.1 0
  have r1 : w1.cell? ⟨w.heap.size, 1, none⟩ = some (.int .i64 r.t) := HX1.out.1 1
  have r2 : w1.cell? ⟨w.heap.size, 2, none⟩ = some (.int .i64 r.y) := HX1.out.1 2
  have r3 : w1.cell? ⟨w.heap.size, 3, none⟩ = some (.int .i64 r.v) := HX1.out.1 3
  have r4 : w1.cell? ⟨w.heap.size, 4, none⟩ = some (.int .i64 r.p) := HX1.out.1 4
  have r5 : w1.cell? ⟨w.heap.size, 5, none⟩ = some (.int .i64 r.f) := HX1.out.1 5
  have r6 : w1.cell? ⟨w.heap.size, 6, none⟩ = some (.int .i64 r.o) := HX1.out.1 6
  go_wp2_with fail
  refine (PB.out _).mono ?_
  rintro e x3 ⟨v3, rfl, hs3, hb3⟩
  have HX3 := Lib.hid (HX.out.later hb3 HX.out.2.1)
  obtain ⟨ao3, cap3, rfl, hcap3, hcapm3⟩ := hs3.open
  rw [HLen.out] at hs3 hcap3 ⊢
  have HS3 := Lib.hid hs3
  clear hs3 hb3 HX
  clear r0 r1 r2 r3 r4 r5 r6
  go_wp2_with fail
  refine (PRD.out _ _ HS3.out).mono ?_
  rintro e x4 ⟨rfl, hb4⟩
  unfold Rq.cells
  have HX4 := Lib.hid (HX3.out.later hb4 HX3.out.2.1)
  have HS4 := Lib.hid (HS3.out.below hb4 (Nat.le_refl _))
  have hlt4 := HX4.out.2.1
  clear hb4 HS3
  have r0 : x4.cell? ⟨w.heap.size, 0, none⟩ = some (.int .i8 r.k) := HX4.out.1 0
  have r1 : x4.cell? ⟨w.heap.size, 1, none⟩ = some (.int .i64 r.t) := HX4.out.1 1
  have r2 : x4.cell? ⟨w.heap.size, 2, none⟩ = some (.int .i64 r.y) := HX4.out.1 2
  have r3 : x4.cell? ⟨w.heap.size, 3, none⟩ = some (.int .i64 r.v) := HX4.out.1 3
  have r4 : x4.cell? ⟨w.heap.size, 4, none⟩ = some (.int .i64 r.p) := HX4.out.1 4
  have r5 : x4.cell? ⟨w.heap.size, 5, none⟩ = some (.int .i64 r.f) := HX4.out.1 5
  have r6 : x4.cell? ⟨w.heap.size, 6, none⟩ = some (.int .i64 r.o) := HX4.out.1 6
  go_wp2_with fail
  refine (size_any r.k HKW.out _).mono ?_
  rintro e x5 ⟨rfl, hb5⟩
  have HX5 := Lib.hid ((HX4.out.alloc _).later hb5 (HX4.out.alloc _).2.1)
  have HS5 := Lib.hid ((HS4.out.alloc _).below hb5 (Nat.le_refl _))
  rw [HSZ.out]
  clear hb5 hlt4
  clear r0 r1 r2 r3 r4 r5 r6
  obtain ⟨m, hm1, hm2, hmn⟩ := cut_nat cut n hn1.1
  have hb1 := cut_range cut n hn1.1
  have hsl := slice_toB ao3 n cap3 m (by omega) (by omega)
  have HC5 := Lib.hid (HS5.out.cutb m cap3 (by omega) (by omega) (Nat.le_refl _))
  have HPC := Lib.hid (PCT.out m hmn)
  rw [HCT.out m hmn] at HPC
  go_wp2_with fail
  refine (HPC.out _ _ HC5.out).mono ?_
  rintro e x6 ⟨rfl, hb6⟩
  unfold zrq Rq.cells
  have HX6 := Lib.hid (HX5.out.later hb6 HX5.out.2.1)
  clear hb6
  go_wp2_with (go_at_call 25; refine (wakes08_any _).mono ?_; rintro e x7 ⟨rfl, hb7⟩)
  go_ret
  exact ⟨rfl, ((HX6.out.alloc _).later hb7 (HX6.out.alloc _).2.1).2.2⟩
set_option maxHeartbeats 2000000 in
theorem back_bad240_yes (r : Rq) (v0 : Value) (raw : List Nat) (cut : Int) (w : World) (hr : r.wf) (hsl : Sl w v0 raw) (hc : -9223372036854775808 ≤ cut ∧ cut ≤ 9223372036854775807) (hl : raw.length ≤ 4000) (hE : (rdQ raw).2 = 240) (hmr : mayB r = true) : Calls Try.prog 11 #[.agg r.cells, v0, .int .i64 cut] w fun e w' => e = .returned (.bool true) ∧ Below w.heap.size w w' := by
  obtain ⟨q, E, hq⟩ : ∃ q E, rdQ raw = (q, E) := ⟨_, _, rfl⟩
  obtain ⟨ao, cap, rfl, hcap1, hcap2⟩ := hsl.open
  have d0 : decide (4000 < raw.length) = false := by simpa using hl
  have d00 : decide ((4000 : Int) < (raw.length : Int)) = false := by simp; omega
  have PR := Lib.hid (fun w' (h : Sl w' (.slice ao raw.length cap) raw) => rdRead_any _ raw w' h (by omega))
  rw [hq] at PR
  have HS := Lib.hid hsl
  have PB := Lib.hid (rqBytes_any r hr)
  have PM := Lib.hid (rqMay_any r hr)
  have HKW := Lib.hid hr.1
  have HRS := Lib.hid (fun w x => RBox.start (r := r) (w := w) (x := x))
  rw [hq] at hE
  simp only at hE
  subst hE
  obtain ⟨rfl, _⟩ := rd_else hsl.bytes hq (by omega)
  clear hq
  rw [(BL_may hmr).1, (BL_may hmr).2] at PB
  rw [hmr] at PM
  obtain ⟨n, hn⟩ : ∃ n, (rqL r).length = n := ⟨_, rfl⟩
  have HLen := Lib.hid hn
  have hn1 : 1 ≤ n ∧ n ≤ 14 := by
    have h2 := (fwd_any hmr).2
    have hk := (bounds_of hmr).1
    rw [sizeE_of] at h2
    rw [hn] at h2
    repeat' split at h2
    all_goals omega
  have HSZ := Lib.hid (show sizeE r.k = (n : Int) by rw [← (fwd_any hmr).2, hn])
  have PRD := Lib.hid (fun v w' (h : Sl w' v (rqL r)) => rdRead_any v (rqL r) w' h (by omega))
  rw [rd_fwd hmr] at PRD
  have PCT := Lib.hid (fun m (hm : m < n) v w' (h : Sl w' v ((rqL r).take m)) => rdRead_any v ((rqL r).take m) w' h (by rw [List.length_take]; omega))
  have HCT := Lib.hid (fun m (hm : m < n) => rd_cut hmr m (by omega))
  have dn0 : (n == 0) = false := by simp; omega
  have dn1 : ((n : Int) == 0) = false := by rw [beq_eq_false_iff_ne]; omega
  clear hmr hn
  clear hsl hl hr
  unfold Rq.cells at *
  go_enter Try.func11, Try.ntmps11
  go_wp2_with fail
  refine (PR.out _ (HS.out.alloc _)).mono ?_
  rintro e w1 ⟨rfl, hb1⟩
  have HX1 := Lib.hid (HRS.out _ _ hb1)
  have HS1 := Lib.hid ((HS.out.alloc _).below hb1 (Nat.le_refl _))
  have hlt1 := HX1.out.2.1
  clear hb1
  unfold Rq.cells
  unfold zrq
  have HX := Lib.hid (HX1.out.alloc (.cells zrq.cells 34))
  have r0 : w1.cell? ⟨w.heap.size, 0, none⟩ = some (.int .i8 r.k) := HX1.out.1 0
  have r1 : w1.cell? ⟨w.heap.size, 1, none⟩ = some (.int .i64 r.t) := HX1.out.1 1
  have r2 : w1.cell? ⟨w.heap.size, 2, none⟩ = some (.int .i64 r.y) := HX1.out.1 2
  have r3 : w1.cell? ⟨w.heap.size, 3, none⟩ = some (.int .i64 r.v) := HX1.out.1 3
  have r4 : w1.cell? ⟨w.heap.size, 4, none⟩ = some (.int .i64 r.p) := HX1.out.1 4
  have r5 : w1.cell? ⟨w.heap.size, 5, none⟩ = some (.int .i64 r.f) := HX1.out.1 5
  have r6 : w1.cell? ⟨w.heap.size, 6, none⟩ = some (.int .i64 r.o) := HX1.out.1 6
  go_wp2_with fail
  refine (PB.out _).mono ?_
  rintro e x3 ⟨v3, rfl, hs3, hb3⟩
  have HX3 := Lib.hid (HX.out.later hb3 HX.out.2.1)
  obtain ⟨ao3, cap3, rfl, hcap3, hcapm3⟩ := hs3.open
  rw [HLen.out] at hs3 hcap3 ⊢
  have HS3 := Lib.hid hs3
  clear hs3 hb3 HX
  clear r0 r1 r2 r3 r4 r5 r6
  go_wp2_with fail
  refine (PRD.out _ _ HS3.out).mono ?_
  rintro e x4 ⟨rfl, hb4⟩
  unfold Rq.cells
  have HX4 := Lib.hid (HX3.out.later hb4 HX3.out.2.1)
  have HS4 := Lib.hid (HS3.out.below hb4 (Nat.le_refl _))
  have hlt4 := HX4.out.2.1
  clear hb4 HS3
  have r0 : x4.cell? ⟨w.heap.size, 0, none⟩ = some (.int .i8 r.k) := HX4.out.1 0
  have r1 : x4.cell? ⟨w.heap.size, 1, none⟩ = some (.int .i64 r.t) := HX4.out.1 1
  have r2 : x4.cell? ⟨w.heap.size, 2, none⟩ = some (.int .i64 r.y) := HX4.out.1 2
  have r3 : x4.cell? ⟨w.heap.size, 3, none⟩ = some (.int .i64 r.v) := HX4.out.1 3
  have r4 : x4.cell? ⟨w.heap.size, 4, none⟩ = some (.int .i64 r.p) := HX4.out.1 4
  have r5 : x4.cell? ⟨w.heap.size, 5, none⟩ = some (.int .i64 r.f) := HX4.out.1 5
  have r6 : x4.cell? ⟨w.heap.size, 6, none⟩ = some (.int .i64 r.o) := HX4.out.1 6
  go_wp2_with fail
  refine (size_any r.k HKW.out _).mono ?_
  rintro e x5 ⟨rfl, hb5⟩
  have HX5 := Lib.hid ((HX4.out.alloc _).later hb5 (HX4.out.alloc _).2.1)
  have HS5 := Lib.hid ((HS4.out.alloc _).below hb5 (Nat.le_refl _))
  rw [HSZ.out]
  clear hb5 hlt4
  clear r0 r1 r2 r3 r4 r5 r6
  obtain ⟨m, hm1, hm2, hmn⟩ := cut_nat cut n hn1.1
  have hb1 := cut_range cut n hn1.1
  have hsl := slice_toB ao3 n cap3 m (by omega) (by omega)
  have HC5 := Lib.hid (HS5.out.cutb m cap3 (by omega) (by omega) (Nat.le_refl _))
  have HPC := Lib.hid (PCT.out m hmn)
  rw [HCT.out m hmn] at HPC
  go_wp2_with fail
  refine (HPC.out _ _ HC5.out).mono ?_
  rintro e x6 ⟨rfl, hb6⟩
  unfold zrq Rq.cells
  have HX6 := Lib.hid (HX5.out.later hb6 HX5.out.2.1)
  clear hb6
  go_wp2_with (go_at_call 25; refine (wakes08_any _).mono ?_; rintro e x7 ⟨rfl, hb7⟩)
  go_ret
  exact ⟨rfl, ((HX6.out.alloc _).later hb7 (HX6.out.alloc _).2.1).2.2⟩
theorem back_long (r : Rq) (v0 : Value) (raw : List Nat) (cut : Int) (w : World) (hsl : Sl w v0 raw) (hl : 4000 < raw.length) : Calls Try.prog 11 #[.agg r.cells, v0, .int .i64 cut] w fun e w' => e = .returned (.bool true) ∧ Below w.heap.size w w' := by
  obtain ⟨ao, cap, rfl, hcap1, hcap2⟩ := hsl.open
  have d0 : decide (4000 < raw.length) = true := by simpa using hl
  have d00 : decide ((4000 : Int) < (raw.length : Int)) = true := by simp; omega
  clear hl
  unfold Rq.cells
  go_enter Try.func11, Try.ntmps11
  go_wp2_with (go_at_call 25; refine (wakes08_any _).mono ?_; rintro e x7 ⟨rfl, hb7⟩)
  go_ret
  exact ⟨rfl, ((Below.refl _ _).alloc (Nat.le_refl _) _).trans (hb7.mono (by simp))⟩
theorem lawRequestBack_walk (r : Rq) (v0 : Value) (raw : List Nat) (cut : Int) (w : World) (hr : r.wf) (hsl : Sl w v0 raw) (hc : (Lit.int .i64 cut).wf = true) : Calls Try.prog 11 #[.agg r.cells, v0, .int .i64 cut] w fun e w' => e = .returned (.bool true) ∧ Below w.heap.size w w' := by
  have hc' : -9223372036854775808 ≤ cut ∧ cut ≤ 9223372036854775807 := by
    simp [Lit.wf, IntKind.min, IntKind.max, IntKind.bits, IntKind.signed] at hc
    omega
  by_cases hl : 4000 < raw.length
  · exact back_long r v0 raw cut w hsl hl
  have hl' : raw.length ≤ 4000 := by omega
  have hE : (rdQ raw).2 = 0 ∨ (rdQ raw).2 = 50 ∨ (rdQ raw).2 = 240 := by
    by_cases h0 : (rdQ raw).2 = 0
    · exact .inl h0
    · exact .inr (rd_else (q := (rdQ raw).1) (E := (rdQ raw).2) hsl.bytes rfl h0).2
  cases hmr : mayB r
  · rcases hE with hE | hE | hE
    · exact back_ok_no r v0 raw cut w hr hsl hc' hl' hE hmr
    · exact back_bad50_no r v0 raw cut w hr hsl hc' hl' hE hmr
    · exact back_bad240_no r v0 raw cut w hr hsl hc' hl' hE hmr
  · rcases hE with hE | hE | hE
    · exact back_ok_yes r v0 raw cut w hr hsl hc' hl' hE hmr
    · exact back_bad50_yes r v0 raw cut w hr hsl hc' hl' hE hmr
    · exact back_bad240_yes r v0 raw cut w hr hsl hc' hl' hE hmr
end Go.Proofs.Ytcffabfaefbjcaa
