/-
  What the reference's Read tells, kind by kind (chapter 08).
-/
import Derived.Test.YtcffabfaefbjcaaFr0
namespace Go.Proofs.Ytcffabfaefbjcaa
set_option linter.unusedVariables false
open Go.RowKit
set_option maxHeartbeats 2000000 in
theorem rf_2_key (b off cap : Nat) (l : List Nat) (t y v : Int) (hl : l.length = 6) (hcap : 6 ≤ cap) (hm : cap ≤ 9223372036854775807) (w : World) (hsl : Sl w (.slice (some ⟨b, off, none⟩) 6 cap) l)
    (hc : ∀ i, i < 6 → w.cell? ⟨b, off + i, none⟩ = some (.int .u8 ((l.getD i 0 : Nat) : Int))) (h0 : l.getD 0 0 = 2) (gt : getV l 1 3 = t) (e_y : ((l.getD 4 0 : Nat) : Int) = y) (e_v : ((l.getD 5 0 : Nat) : Int) = v) (hv : 24 ≤ y) : Calls Try.prog 36 #[.slice (some ⟨b, off, none⟩) 6 cap] w (RPost zrq 240 w) := by
  have hk0 : w.cell? ⟨b, off + 0, none⟩ = some (.int .u8 2) := by rw [hc 0 (by omega), h0]; rfl
  have hk1 : w.cell? ⟨b, off, none⟩ = some (.int .u8 2) := hk0
  have hbl : b < w.heap.size := block_lt_of_cell hk0
  have hcy : w.cell? ⟨b, off + 4, none⟩ = some (.int .u8 y) := by rw [hc 4 (by omega), e_y]
  have hry : 0 ≤ y ∧ y < 256 := by rw [← e_y]; have := hsl.bytes.getD 4; omega
  have hcv : w.cell? ⟨b, off + 5, none⟩ = some (.int .u8 v) := by rw [hc 5 (by omega), e_v]
  have hrv : 0 ≤ v ∧ v < 256 := by rw [← e_v]; have := hsl.bytes.getD 5; omega
  have Gt := Lib.hid (fun w' (h : Sl w' (.slice (some ⟨b, off, none⟩) 6 cap) l) => getr_any (.slice (some ⟨b, off, none⟩) 6 cap) 1 3 (by omega) l w' h)
  rw [gt] at Gt
  have hrt : 0 ≤ t ∧ t < 281474976710656 := by rw [← gt]; exact getV_range hsl.bytes _ _ (by omega)
  generalize getE l.length 1 3 = Et at Gt
  have HS := Lib.hid hsl
  have HZ := Lib.hid (show sizeE 2 = 6 by decide)
  clear hc hsl h0 hl gt e_y e_v
  have d24 : decide (24 ≤ y) = true := by simpa using hv
  go_enter Try.func36, Try.ntmps36
  go_wp2_with (first | (go_at_call 22; refine (sizer_v _ _ HZ.out _).mono ?_; rintro e w' ⟨rfl, rfl⟩) | (go_at_call 24; refine (ownr_w _ _).mono ?_; rintro e w' ⟨rfl, rfl⟩) | (go_at_call 49; refine (keyr_w _ _).mono ?_; rintro e w' ⟨rfl, rfl⟩) | (go_at_call 58; (with_reducible refine (Gt.out _ ((HS.out.alloc _).alloc _)).mono ?_); rintro e w' ⟨rfl, rfl⟩))
  refine rf_end ?_ rfl rfl ?_
  · rw [heap_alloc_old _ _ (by simp)]; exact heap_alloc_new _ _
  · exact ((Below.refl _ _).alloc (Nat.le_refl _) _).alloc (by simp) _
set_option maxHeartbeats 2000000 in
theorem rf_2_bad (b off cap : Nat) (l : List Nat) (t y v : Int) (hl : l.length = 6) (hcap : 6 ≤ cap) (hm : cap ≤ 9223372036854775807) (w : World) (hsl : Sl w (.slice (some ⟨b, off, none⟩) 6 cap) l)
    (hc : ∀ i, i < 6 → w.cell? ⟨b, off + i, none⟩ = some (.int .u8 ((l.getD i 0 : Nat) : Int))) (h0 : l.getD 0 0 = 2) (gt : getV l 1 3 = t) (e_y : ((l.getD 4 0 : Nat) : Int) = y) (e_v : ((l.getD 5 0 : Nat) : Int) = v) (hv : rightB ⟨2, t, y, v, 0, 0, 0⟩ = false) (hy24 : y < 24) : Calls Try.prog 36 #[.slice (some ⟨b, off, none⟩) 6 cap] w (RPost zrq 50 w) := by
  have hk0 : w.cell? ⟨b, off + 0, none⟩ = some (.int .u8 2) := by rw [hc 0 (by omega), h0]; rfl
  have hk1 : w.cell? ⟨b, off, none⟩ = some (.int .u8 2) := hk0
  have hbl : b < w.heap.size := block_lt_of_cell hk0
  have hcy : w.cell? ⟨b, off + 4, none⟩ = some (.int .u8 y) := by rw [hc 4 (by omega), e_y]
  have hry : 0 ≤ y ∧ y < 256 := by rw [← e_y]; have := hsl.bytes.getD 4; omega
  have hcv : w.cell? ⟨b, off + 5, none⟩ = some (.int .u8 v) := by rw [hc 5 (by omega), e_v]
  have hrv : 0 ≤ v ∧ v < 256 := by rw [← e_v]; have := hsl.bytes.getD 5; omega
  have Gt := Lib.hid (fun w' (h : Sl w' (.slice (some ⟨b, off, none⟩) 6 cap) l) => getr_any (.slice (some ⟨b, off, none⟩) 6 cap) 1 3 (by omega) l w' h)
  rw [gt] at Gt
  have hrt : 0 ≤ t ∧ t < 281474976710656 := by rw [← gt]; exact getV_range hsl.bytes _ _ (by omega)
  generalize getE l.length 1 3 = Et at Gt
  have HS := Lib.hid hsl
  have PR := Lib.hid (right_any ⟨2, t, y, v, 0, 0, 0⟩)
  rw [hv] at PR
  have HZ := Lib.hid (show sizeE 2 = 6 by decide)
  clear hc hsl h0 hl gt e_y e_v hv
  have d24 : decide (24 ≤ y) = false := by simp; omega
  unfold Rq.cells at PR
  go_enter Try.func36, Try.ntmps36
  go_wp2_with (first | (go_at_call 22; refine (sizer_v _ _ HZ.out _).mono ?_; rintro e w' ⟨rfl, rfl⟩) | (go_at_call 24; refine (ownr_w _ _).mono ?_; rintro e w' ⟨rfl, rfl⟩) | (go_at_call 49; refine (keyr_w _ _).mono ?_; rintro e w' ⟨rfl, rfl⟩) | (go_at_call 58; (with_reducible refine (Gt.out _ ((HS.out.alloc _).alloc _)).mono ?_); rintro e w' ⟨rfl, rfl⟩))
  refine (PR.out _).mono ?_
  rintro e x ⟨rfl, hb⟩
  have HT := Lib.hid (two_cells (q1 := zrq) (q2 := ⟨2, t, y, v, 0, 0, 0⟩) hb)
  clear hb
  have hq1 := fun i => cell_of_row _ _ i _ _ _ HT.out.1
  have hq2 := fun i => cell_of_row _ _ i _ _ _ HT.out.2.1
  have fq := fun i => frozen_of_row _ _ i _ _ HT.out.1
  have c0 := hq1 0
  have c1 := hq1 1
  have c2 := hq1 2
  have c3 := hq1 3
  have c4 := hq1 4
  have c5 := hq1 5
  have c6 := hq1 6
  have e0 := hq2 0
  have e1 := hq2 1
  have e2 := hq2 2
  have e3 := hq2 3
  have e4 := hq2 4
  have e5 := hq2 5
  have e6 := hq2 6
  clear hq1 hq2
  simp [Rq.cells, zrq] at c0 c1 c2 c3 c4 c5 c6 e0 e1 e2 e3 e4 e5 e6
  go_wp2_with fail
  have h1 := storeQ_heap (q := zrq) HT.out.1
  have h2 := storeQ_below (q := zrq) HT.out.2.2 (Nat.le_refl _)
  generalize hw : storeQ x w.heap.size zrq = xx at h1 h2
  have hw2 : storeQ x w.heap.size zrq = (((((((x.setCell ⟨w.heap.size, 0, none⟩ (.int .i8 0)).setCell ⟨w.heap.size, 1, none⟩ (.int .i64 0)).setCell ⟨w.heap.size, 2, none⟩ (.int .i64 0)).setCell ⟨w.heap.size, 3, none⟩ (.int .i64 0)).setCell ⟨w.heap.size, 4, none⟩ (.int .i64 0)).setCell ⟨w.heap.size, 5, none⟩ (.int .i64 0)).setCell ⟨w.heap.size, 6, none⟩ (.int .i64 0)) := rfl
  rw [← hw2, hw]
  exact rf_end h1 rfl rfl h2
set_option maxHeartbeats 2000000 in
theorem rf_2_ok (b off cap : Nat) (l : List Nat) (t y v : Int) (hl : l.length = 6) (hcap : 6 ≤ cap) (hm : cap ≤ 9223372036854775807) (w : World) (hsl : Sl w (.slice (some ⟨b, off, none⟩) 6 cap) l)
    (hc : ∀ i, i < 6 → w.cell? ⟨b, off + i, none⟩ = some (.int .u8 ((l.getD i 0 : Nat) : Int))) (h0 : l.getD 0 0 = 2) (gt : getV l 1 3 = t) (e_y : ((l.getD 4 0 : Nat) : Int) = y) (e_v : ((l.getD 5 0 : Nat) : Int) = v) (hv : rightB ⟨2, t, y, v, 0, 0, 0⟩ = true) (hy24 : y < 24) : Calls Try.prog 36 #[.slice (some ⟨b, off, none⟩) 6 cap] w (RPost ⟨2, t, y, v, 0, 0, 0⟩ 0 w) := by
  have hk0 : w.cell? ⟨b, off + 0, none⟩ = some (.int .u8 2) := by rw [hc 0 (by omega), h0]; rfl
  have hk1 : w.cell? ⟨b, off, none⟩ = some (.int .u8 2) := hk0
  have hbl : b < w.heap.size := block_lt_of_cell hk0
  have hcy : w.cell? ⟨b, off + 4, none⟩ = some (.int .u8 y) := by rw [hc 4 (by omega), e_y]
  have hry : 0 ≤ y ∧ y < 256 := by rw [← e_y]; have := hsl.bytes.getD 4; omega
  have hcv : w.cell? ⟨b, off + 5, none⟩ = some (.int .u8 v) := by rw [hc 5 (by omega), e_v]
  have hrv : 0 ≤ v ∧ v < 256 := by rw [← e_v]; have := hsl.bytes.getD 5; omega
  have Gt := Lib.hid (fun w' (h : Sl w' (.slice (some ⟨b, off, none⟩) 6 cap) l) => getr_any (.slice (some ⟨b, off, none⟩) 6 cap) 1 3 (by omega) l w' h)
  rw [gt] at Gt
  have hrt : 0 ≤ t ∧ t < 281474976710656 := by rw [← gt]; exact getV_range hsl.bytes _ _ (by omega)
  generalize getE l.length 1 3 = Et at Gt
  have HS := Lib.hid hsl
  have PR := Lib.hid (right_any ⟨2, t, y, v, 0, 0, 0⟩)
  rw [hv] at PR
  have HZ := Lib.hid (show sizeE 2 = 6 by decide)
  clear hc hsl h0 hl gt e_y e_v hv
  have d24 : decide (24 ≤ y) = false := by simp; omega
  unfold Rq.cells at PR
  go_enter Try.func36, Try.ntmps36
  go_wp2_with (first | (go_at_call 22; refine (sizer_v _ _ HZ.out _).mono ?_; rintro e w' ⟨rfl, rfl⟩) | (go_at_call 24; refine (ownr_w _ _).mono ?_; rintro e w' ⟨rfl, rfl⟩) | (go_at_call 49; refine (keyr_w _ _).mono ?_; rintro e w' ⟨rfl, rfl⟩) | (go_at_call 58; (with_reducible refine (Gt.out _ ((HS.out.alloc _).alloc _)).mono ?_); rintro e w' ⟨rfl, rfl⟩))
  refine (PR.out _).mono ?_
  rintro e x ⟨rfl, hb⟩
  have HT := Lib.hid (two_cells (q1 := zrq) (q2 := ⟨2, t, y, v, 0, 0, 0⟩) hb)
  clear hb
  have hq1 := fun i => cell_of_row _ _ i _ _ _ HT.out.1
  have hq2 := fun i => cell_of_row _ _ i _ _ _ HT.out.2.1
  have fq := fun i => frozen_of_row _ _ i _ _ HT.out.1
  have c0 := hq1 0
  have c1 := hq1 1
  have c2 := hq1 2
  have c3 := hq1 3
  have c4 := hq1 4
  have c5 := hq1 5
  have c6 := hq1 6
  have e0 := hq2 0
  have e1 := hq2 1
  have e2 := hq2 2
  have e3 := hq2 3
  have e4 := hq2 4
  have e5 := hq2 5
  have e6 := hq2 6
  clear hq1 hq2
  simp [Rq.cells, zrq] at c0 c1 c2 c3 c4 c5 c6 e0 e1 e2 e3 e4 e5 e6
  go_wp2_with fail
  have h1 := storeQ_heap (q := ⟨2, t, y, v, 0, 0, 0⟩) HT.out.1
  have h2 := storeQ_below (q := ⟨2, t, y, v, 0, 0, 0⟩) HT.out.2.2 (Nat.le_refl _)
  generalize hw : storeQ x w.heap.size ⟨2, t, y, v, 0, 0, 0⟩ = xx at h1 h2
  have hw2 : storeQ x w.heap.size ⟨2, t, y, v, 0, 0, 0⟩ = (((((((x.setCell ⟨w.heap.size, 0, none⟩ (.int .i8 2)).setCell ⟨w.heap.size, 1, none⟩ (.int .i64 t)).setCell ⟨w.heap.size, 2, none⟩ (.int .i64 y)).setCell ⟨w.heap.size, 3, none⟩ (.int .i64 v)).setCell ⟨w.heap.size, 4, none⟩ (.int .i64 0)).setCell ⟨w.heap.size, 5, none⟩ (.int .i64 0)).setCell ⟨w.heap.size, 6, none⟩ (.int .i64 0)) := rfl
  rw [← hw2, hw]
  exact rf_end h1 rfl rfl h2
set_option maxHeartbeats 2000000 in
theorem rf_4_bad (b off cap : Nat) (l : List Nat) (t : Int) (hl : l.length = 4) (hcap : 4 ≤ cap) (hm : cap ≤ 9223372036854775807) (w : World) (hsl : Sl w (.slice (some ⟨b, off, none⟩) 4 cap) l)
    (hc : ∀ i, i < 4 → w.cell? ⟨b, off + i, none⟩ = some (.int .u8 ((l.getD i 0 : Nat) : Int))) (h0 : l.getD 0 0 = 4) (gt : getV l 1 3 = t) (hv : rightB ⟨4, t, 0, 0, 0, 0, 0⟩ = false) : Calls Try.prog 36 #[.slice (some ⟨b, off, none⟩) 4 cap] w (RPost zrq 50 w) := by
  have hk0 : w.cell? ⟨b, off + 0, none⟩ = some (.int .u8 4) := by rw [hc 0 (by omega), h0]; rfl
  have hk1 : w.cell? ⟨b, off, none⟩ = some (.int .u8 4) := hk0
  have hbl : b < w.heap.size := block_lt_of_cell hk0
  have Gt := Lib.hid (fun w' (h : Sl w' (.slice (some ⟨b, off, none⟩) 4 cap) l) => getr_any (.slice (some ⟨b, off, none⟩) 4 cap) 1 3 (by omega) l w' h)
  rw [gt] at Gt
  have hrt : 0 ≤ t ∧ t < 281474976710656 := by rw [← gt]; exact getV_range hsl.bytes _ _ (by omega)
  generalize getE l.length 1 3 = Et at Gt
  have HS := Lib.hid hsl
  have PR := Lib.hid (right_any ⟨4, t, 0, 0, 0, 0, 0⟩)
  rw [hv] at PR
  have HZ := Lib.hid (show sizeE 4 = 4 by decide)
  clear hc hsl h0 hl gt hv
  unfold Rq.cells at PR
  go_enter Try.func36, Try.ntmps36
  go_wp2_with (first | (go_at_call 22; refine (sizer_v _ _ HZ.out _).mono ?_; rintro e w' ⟨rfl, rfl⟩) | (go_at_call 24; refine (ownr_w _ _).mono ?_; rintro e w' ⟨rfl, rfl⟩) | (go_at_call 49; refine (keyr_w _ _).mono ?_; rintro e w' ⟨rfl, rfl⟩) | (go_at_call 58; (with_reducible refine (Gt.out _ ((HS.out.alloc _).alloc _)).mono ?_); rintro e w' ⟨rfl, rfl⟩))
  refine (PR.out _).mono ?_
  rintro e x ⟨rfl, hb⟩
  have HT := Lib.hid (two_cells (q1 := zrq) (q2 := ⟨4, t, 0, 0, 0, 0, 0⟩) hb)
  clear hb
  have hq1 := fun i => cell_of_row _ _ i _ _ _ HT.out.1
  have hq2 := fun i => cell_of_row _ _ i _ _ _ HT.out.2.1
  have fq := fun i => frozen_of_row _ _ i _ _ HT.out.1
  have c0 := hq1 0
  have c1 := hq1 1
  have c2 := hq1 2
  have c3 := hq1 3
  have c4 := hq1 4
  have c5 := hq1 5
  have c6 := hq1 6
  have e0 := hq2 0
  have e1 := hq2 1
  have e2 := hq2 2
  have e3 := hq2 3
  have e4 := hq2 4
  have e5 := hq2 5
  have e6 := hq2 6
  clear hq1 hq2
  simp [Rq.cells, zrq] at c0 c1 c2 c3 c4 c5 c6 e0 e1 e2 e3 e4 e5 e6
  go_wp2_with fail
  have h1 := storeQ_heap (q := zrq) HT.out.1
  have h2 := storeQ_below (q := zrq) HT.out.2.2 (Nat.le_refl _)
  generalize hw : storeQ x w.heap.size zrq = xx at h1 h2
  have hw2 : storeQ x w.heap.size zrq = (((((((x.setCell ⟨w.heap.size, 0, none⟩ (.int .i8 0)).setCell ⟨w.heap.size, 1, none⟩ (.int .i64 0)).setCell ⟨w.heap.size, 2, none⟩ (.int .i64 0)).setCell ⟨w.heap.size, 3, none⟩ (.int .i64 0)).setCell ⟨w.heap.size, 4, none⟩ (.int .i64 0)).setCell ⟨w.heap.size, 5, none⟩ (.int .i64 0)).setCell ⟨w.heap.size, 6, none⟩ (.int .i64 0)) := rfl
  rw [← hw2, hw]
  exact rf_end h1 rfl rfl h2
set_option maxHeartbeats 2000000 in
theorem rf_4_ok (b off cap : Nat) (l : List Nat) (t : Int) (hl : l.length = 4) (hcap : 4 ≤ cap) (hm : cap ≤ 9223372036854775807) (w : World) (hsl : Sl w (.slice (some ⟨b, off, none⟩) 4 cap) l)
    (hc : ∀ i, i < 4 → w.cell? ⟨b, off + i, none⟩ = some (.int .u8 ((l.getD i 0 : Nat) : Int))) (h0 : l.getD 0 0 = 4) (gt : getV l 1 3 = t) (hv : rightB ⟨4, t, 0, 0, 0, 0, 0⟩ = true) : Calls Try.prog 36 #[.slice (some ⟨b, off, none⟩) 4 cap] w (RPost ⟨4, t, 0, 0, 0, 0, 0⟩ 0 w) := by
  have hk0 : w.cell? ⟨b, off + 0, none⟩ = some (.int .u8 4) := by rw [hc 0 (by omega), h0]; rfl
  have hk1 : w.cell? ⟨b, off, none⟩ = some (.int .u8 4) := hk0
  have hbl : b < w.heap.size := block_lt_of_cell hk0
  have Gt := Lib.hid (fun w' (h : Sl w' (.slice (some ⟨b, off, none⟩) 4 cap) l) => getr_any (.slice (some ⟨b, off, none⟩) 4 cap) 1 3 (by omega) l w' h)
  rw [gt] at Gt
  have hrt : 0 ≤ t ∧ t < 281474976710656 := by rw [← gt]; exact getV_range hsl.bytes _ _ (by omega)
  generalize getE l.length 1 3 = Et at Gt
  have HS := Lib.hid hsl
  have PR := Lib.hid (right_any ⟨4, t, 0, 0, 0, 0, 0⟩)
  rw [hv] at PR
  have HZ := Lib.hid (show sizeE 4 = 4 by decide)
  clear hc hsl h0 hl gt hv
  unfold Rq.cells at PR
  go_enter Try.func36, Try.ntmps36
  go_wp2_with (first | (go_at_call 22; refine (sizer_v _ _ HZ.out _).mono ?_; rintro e w' ⟨rfl, rfl⟩) | (go_at_call 24; refine (ownr_w _ _).mono ?_; rintro e w' ⟨rfl, rfl⟩) | (go_at_call 49; refine (keyr_w _ _).mono ?_; rintro e w' ⟨rfl, rfl⟩) | (go_at_call 58; (with_reducible refine (Gt.out _ ((HS.out.alloc _).alloc _)).mono ?_); rintro e w' ⟨rfl, rfl⟩))
  refine (PR.out _).mono ?_
  rintro e x ⟨rfl, hb⟩
  have HT := Lib.hid (two_cells (q1 := zrq) (q2 := ⟨4, t, 0, 0, 0, 0, 0⟩) hb)
  clear hb
  have hq1 := fun i => cell_of_row _ _ i _ _ _ HT.out.1
  have hq2 := fun i => cell_of_row _ _ i _ _ _ HT.out.2.1
  have fq := fun i => frozen_of_row _ _ i _ _ HT.out.1
  have c0 := hq1 0
  have c1 := hq1 1
  have c2 := hq1 2
  have c3 := hq1 3
  have c4 := hq1 4
  have c5 := hq1 5
  have c6 := hq1 6
  have e0 := hq2 0
  have e1 := hq2 1
  have e2 := hq2 2
  have e3 := hq2 3
  have e4 := hq2 4
  have e5 := hq2 5
  have e6 := hq2 6
  clear hq1 hq2
  simp [Rq.cells, zrq] at c0 c1 c2 c3 c4 c5 c6 e0 e1 e2 e3 e4 e5 e6
  go_wp2_with fail
  have h1 := storeQ_heap (q := ⟨4, t, 0, 0, 0, 0, 0⟩) HT.out.1
  have h2 := storeQ_below (q := ⟨4, t, 0, 0, 0, 0, 0⟩) HT.out.2.2 (Nat.le_refl _)
  generalize hw : storeQ x w.heap.size ⟨4, t, 0, 0, 0, 0, 0⟩ = xx at h1 h2
  have hw2 : storeQ x w.heap.size ⟨4, t, 0, 0, 0, 0, 0⟩ = (((((((x.setCell ⟨w.heap.size, 0, none⟩ (.int .i8 4)).setCell ⟨w.heap.size, 1, none⟩ (.int .i64 t)).setCell ⟨w.heap.size, 2, none⟩ (.int .i64 0)).setCell ⟨w.heap.size, 3, none⟩ (.int .i64 0)).setCell ⟨w.heap.size, 4, none⟩ (.int .i64 0)).setCell ⟨w.heap.size, 5, none⟩ (.int .i64 0)).setCell ⟨w.heap.size, 6, none⟩ (.int .i64 0)) := rfl
  rw [← hw2, hw]
  exact rf_end h1 rfl rfl h2
set_option maxHeartbeats 2000000 in
theorem rf_8_bad (b off cap : Nat) (l : List Nat) (hl : l.length = 1) (hcap : 1 ≤ cap) (hm : cap ≤ 9223372036854775807) (w : World) (hsl : Sl w (.slice (some ⟨b, off, none⟩) 1 cap) l)
    (hc : ∀ i, i < 1 → w.cell? ⟨b, off + i, none⟩ = some (.int .u8 ((l.getD i 0 : Nat) : Int))) (h0 : l.getD 0 0 = 8) (hv : rightB ⟨8, 0, 0, 0, 0, 0, 0⟩ = false) : Calls Try.prog 36 #[.slice (some ⟨b, off, none⟩) 1 cap] w (RPost zrq 50 w) := by
  have hk0 : w.cell? ⟨b, off + 0, none⟩ = some (.int .u8 8) := by rw [hc 0 (by omega), h0]; rfl
  have hk1 : w.cell? ⟨b, off, none⟩ = some (.int .u8 8) := hk0
  have hbl : b < w.heap.size := block_lt_of_cell hk0
  have HS := Lib.hid hsl
  have PR := Lib.hid (right_any ⟨8, 0, 0, 0, 0, 0, 0⟩)
  rw [hv] at PR
  have HZ := Lib.hid (show sizeE 8 = 1 by decide)
  clear hc hsl h0 hl hv
  unfold Rq.cells at PR
  go_enter Try.func36, Try.ntmps36
  go_wp2_with (first | (go_at_call 22; refine (sizer_v _ _ HZ.out _).mono ?_; rintro e w' ⟨rfl, rfl⟩) | (go_at_call 24; refine (ownr_w _ _).mono ?_; rintro e w' ⟨rfl, rfl⟩) | (go_at_call 49; refine (keyr_w _ _).mono ?_; rintro e w' ⟨rfl, rfl⟩))
  refine (PR.out _).mono ?_
  rintro e x ⟨rfl, hb⟩
  have HT := Lib.hid (two_cells (q1 := zrq) (q2 := ⟨8, 0, 0, 0, 0, 0, 0⟩) hb)
  clear hb
  have hq1 := fun i => cell_of_row _ _ i _ _ _ HT.out.1
  have hq2 := fun i => cell_of_row _ _ i _ _ _ HT.out.2.1
  have fq := fun i => frozen_of_row _ _ i _ _ HT.out.1
  have c0 := hq1 0
  have c1 := hq1 1
  have c2 := hq1 2
  have c3 := hq1 3
  have c4 := hq1 4
  have c5 := hq1 5
  have c6 := hq1 6
  have e0 := hq2 0
  have e1 := hq2 1
  have e2 := hq2 2
  have e3 := hq2 3
  have e4 := hq2 4
  have e5 := hq2 5
  have e6 := hq2 6
  clear hq1 hq2
  simp [Rq.cells, zrq] at c0 c1 c2 c3 c4 c5 c6 e0 e1 e2 e3 e4 e5 e6
  go_wp2_with fail
  have h1 := storeQ_heap (q := zrq) HT.out.1
  have h2 := storeQ_below (q := zrq) HT.out.2.2 (Nat.le_refl _)
  generalize hw : storeQ x w.heap.size zrq = xx at h1 h2
  have hw2 : storeQ x w.heap.size zrq = (((((((x.setCell ⟨w.heap.size, 0, none⟩ (.int .i8 0)).setCell ⟨w.heap.size, 1, none⟩ (.int .i64 0)).setCell ⟨w.heap.size, 2, none⟩ (.int .i64 0)).setCell ⟨w.heap.size, 3, none⟩ (.int .i64 0)).setCell ⟨w.heap.size, 4, none⟩ (.int .i64 0)).setCell ⟨w.heap.size, 5, none⟩ (.int .i64 0)).setCell ⟨w.heap.size, 6, none⟩ (.int .i64 0)) := rfl
  rw [← hw2, hw]
  exact rf_end h1 rfl rfl h2
set_option maxHeartbeats 2000000 in
theorem rf_8_ok (b off cap : Nat) (l : List Nat) (hl : l.length = 1) (hcap : 1 ≤ cap) (hm : cap ≤ 9223372036854775807) (w : World) (hsl : Sl w (.slice (some ⟨b, off, none⟩) 1 cap) l)
    (hc : ∀ i, i < 1 → w.cell? ⟨b, off + i, none⟩ = some (.int .u8 ((l.getD i 0 : Nat) : Int))) (h0 : l.getD 0 0 = 8) (hv : rightB ⟨8, 0, 0, 0, 0, 0, 0⟩ = true) : Calls Try.prog 36 #[.slice (some ⟨b, off, none⟩) 1 cap] w (RPost ⟨8, 0, 0, 0, 0, 0, 0⟩ 0 w) := by
  have hk0 : w.cell? ⟨b, off + 0, none⟩ = some (.int .u8 8) := by rw [hc 0 (by omega), h0]; rfl
  have hk1 : w.cell? ⟨b, off, none⟩ = some (.int .u8 8) := hk0
  have hbl : b < w.heap.size := block_lt_of_cell hk0
  have HS := Lib.hid hsl
  have PR := Lib.hid (right_any ⟨8, 0, 0, 0, 0, 0, 0⟩)
  rw [hv] at PR
  have HZ := Lib.hid (show sizeE 8 = 1 by decide)
  clear hc hsl h0 hl hv
  unfold Rq.cells at PR
  go_enter Try.func36, Try.ntmps36
  go_wp2_with (first | (go_at_call 22; refine (sizer_v _ _ HZ.out _).mono ?_; rintro e w' ⟨rfl, rfl⟩) | (go_at_call 24; refine (ownr_w _ _).mono ?_; rintro e w' ⟨rfl, rfl⟩) | (go_at_call 49; refine (keyr_w _ _).mono ?_; rintro e w' ⟨rfl, rfl⟩))
  refine (PR.out _).mono ?_
  rintro e x ⟨rfl, hb⟩
  have HT := Lib.hid (two_cells (q1 := zrq) (q2 := ⟨8, 0, 0, 0, 0, 0, 0⟩) hb)
  clear hb
  have hq1 := fun i => cell_of_row _ _ i _ _ _ HT.out.1
  have hq2 := fun i => cell_of_row _ _ i _ _ _ HT.out.2.1
  have fq := fun i => frozen_of_row _ _ i _ _ HT.out.1
  have c0 := hq1 0
  have c1 := hq1 1
  have c2 := hq1 2
  have c3 := hq1 3
  have c4 := hq1 4
  have c5 := hq1 5
  have c6 := hq1 6
  have e0 := hq2 0
  have e1 := hq2 1
  have e2 := hq2 2
  have e3 := hq2 3
  have e4 := hq2 4
  have e5 := hq2 5
  have e6 := hq2 6
  clear hq1 hq2
  simp [Rq.cells, zrq] at c0 c1 c2 c3 c4 c5 c6 e0 e1 e2 e3 e4 e5 e6
  go_wp2_with fail
  have h1 := storeQ_heap (q := ⟨8, 0, 0, 0, 0, 0, 0⟩) HT.out.1
  have h2 := storeQ_below (q := ⟨8, 0, 0, 0, 0, 0, 0⟩) HT.out.2.2 (Nat.le_refl _)
  generalize hw : storeQ x w.heap.size ⟨8, 0, 0, 0, 0, 0, 0⟩ = xx at h1 h2
  have hw2 : storeQ x w.heap.size ⟨8, 0, 0, 0, 0, 0, 0⟩ = (((((((x.setCell ⟨w.heap.size, 0, none⟩ (.int .i8 8)).setCell ⟨w.heap.size, 1, none⟩ (.int .i64 0)).setCell ⟨w.heap.size, 2, none⟩ (.int .i64 0)).setCell ⟨w.heap.size, 3, none⟩ (.int .i64 0)).setCell ⟨w.heap.size, 4, none⟩ (.int .i64 0)).setCell ⟨w.heap.size, 5, none⟩ (.int .i64 0)).setCell ⟨w.heap.size, 6, none⟩ (.int .i64 0)) := rfl
  rw [← hw2, hw]
  exact rf_end h1 rfl rfl h2
end Go.Proofs.Ytcffabfaefbjcaa
