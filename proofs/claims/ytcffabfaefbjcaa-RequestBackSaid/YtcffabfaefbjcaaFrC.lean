/-
  What the reference's Read tells, kind by kind (chapter 08).
-/
import Derived.Test.YtcffabfaefbjcaaFr0
namespace Go.Proofs.Ytcffabfaefbjcaa
set_option linter.unusedVariables false
open Go.RowKit
set_option maxHeartbeats 2000000 in
theorem rf_5_bad (b off cap : Nat) (l : List Nat) (p f o : Int) (hl : l.length = 14) (hcap : 14 ≤ cap) (hm : cap ≤ 9223372036854775807) (w : World) (hsl : Sl w (.slice (some ⟨b, off, none⟩) 14 cap) l)
    (hc : ∀ i, i < 14 → w.cell? ⟨b, off + i, none⟩ = some (.int .u8 ((l.getD i 0 : Nat) : Int))) (h0 : l.getD 0 0 = 5) (gf : getV l 2 6 = f) (go : getV l 8 6 = o) (e_p : ((l.getD 1 0 : Nat) : Int) = p) (hv : rightB ⟨5, 0, 0, 0, p, f, (o - 1)⟩ = false) : Calls Try.prog 36 #[.slice (some ⟨b, off, none⟩) 14 cap] w (RPost zrq 50 w) := by
  have hk0 : w.cell? ⟨b, off + 0, none⟩ = some (.int .u8 5) := by rw [hc 0 (by omega), h0]; rfl
  have hk1 : w.cell? ⟨b, off, none⟩ = some (.int .u8 5) := hk0
  have hbl : b < w.heap.size := block_lt_of_cell hk0
  have hcp : w.cell? ⟨b, off + 1, none⟩ = some (.int .u8 p) := by rw [hc 1 (by omega), e_p]
  have hrp : 0 ≤ p ∧ p < 256 := by rw [← e_p]; have := hsl.bytes.getD 1; omega
  have Gf := Lib.hid (fun w' (h : Sl w' (.slice (some ⟨b, off, none⟩) 14 cap) l) => getr_any (.slice (some ⟨b, off, none⟩) 14 cap) 2 6 (by omega) l w' h)
  rw [gf] at Gf
  have hrf : 0 ≤ f ∧ f < 281474976710656 := by rw [← gf]; exact getV_range hsl.bytes _ _ (by omega)
  generalize getE l.length 2 6 = Ef at Gf
  have Go := Lib.hid (fun w' (h : Sl w' (.slice (some ⟨b, off, none⟩) 14 cap) l) => getr_any (.slice (some ⟨b, off, none⟩) 14 cap) 8 6 (by omega) l w' h)
  rw [go] at Go
  have hro : 0 ≤ o ∧ o < 281474976710656 := by rw [← go]; exact getV_range hsl.bytes _ _ (by omega)
  generalize getE l.length 8 6 = Eo at Go
  have HS := Lib.hid hsl
  have PR := Lib.hid (right_any ⟨5, 0, 0, 0, p, f, (o - 1)⟩)
  rw [hv] at PR
  have HZ := Lib.hid (show sizeE 5 = 14 by decide)
  clear hc hsl h0 hl gf go e_p hv
  unfold Rq.cells at PR
  go_enter Try.func36, Try.ntmps36
  go_wp2_with (first | (go_at_call 22; refine (sizer_v _ _ HZ.out _).mono ?_; rintro e w' ⟨rfl, rfl⟩) | (go_at_call 24; refine (ownr_w _ _).mono ?_; rintro e w' ⟨rfl, rfl⟩) | (go_at_call 49; refine (keyr_w _ _).mono ?_; rintro e w' ⟨rfl, rfl⟩) | (go_at_call 58; (with_reducible refine (Gf.out _ ((HS.out.alloc _).alloc _)).mono ?_); rintro e w' ⟨rfl, rfl⟩) | (go_at_call 58; (with_reducible refine (Go.out _ ((HS.out.alloc _).alloc _)).mono ?_); rintro e w' ⟨rfl, rfl⟩))
  refine (PR.out _).mono ?_
  rintro e x ⟨rfl, hb⟩
  have HT := Lib.hid (two_cells (q1 := zrq) (q2 := ⟨5, 0, 0, 0, p, f, (o - 1)⟩) hb)
  clear hb
  have hq1 := fun i => cell_of_row _ _ i _ _ _ HT.out.1
  have hq2 := fun i => cell_of_row _ _ i _ _ _ HT.out.2.1
  have fq := fun i => frozen_of_row _ _ i _ _ HT.out.1
  have c0 := hq1 0
  have c1 := hq1 1
  have c2 := hq1 2
  have c3 := hq1 3
  have c4 := hq1 4
  have c5 := hq1 5
  have c6 := hq1 6
  have e0 := hq2 0
  have e1 := hq2 1
  have e2 := hq2 2
  have e3 := hq2 3
  have e4 := hq2 4
  have e5 := hq2 5
  have e6 := hq2 6
  clear hq1 hq2
  simp [Rq.cells, zrq] at c0 c1 c2 c3 c4 c5 c6 e0 e1 e2 e3 e4 e5 e6
  go_wp2_with fail
  have h1 := storeQ_heap (q := zrq) HT.out.1
  have h2 := storeQ_below (q := zrq) HT.out.2.2 (Nat.le_refl _)
  generalize hw : storeQ x w.heap.size zrq = xx at h1 h2
  have hw2 : storeQ x w.heap.size zrq = (((((((x.setCell ⟨w.heap.size, 0, none⟩ (.int .i8 0)).setCell ⟨w.heap.size, 1, none⟩ (.int .i64 0)).setCell ⟨w.heap.size, 2, none⟩ (.int .i64 0)).setCell ⟨w.heap.size, 3, none⟩ (.int .i64 0)).setCell ⟨w.heap.size, 4, none⟩ (.int .i64 0)).setCell ⟨w.heap.size, 5, none⟩ (.int .i64 0)).setCell ⟨w.heap.size, 6, none⟩ (.int .i64 0)) := rfl
  rw [← hw2, hw]
  exact rf_end h1 rfl rfl h2
set_option maxHeartbeats 2000000 in
theorem rf_5_ok (b off cap : Nat) (l : List Nat) (p f o : Int) (hl : l.length = 14) (hcap : 14 ≤ cap) (hm : cap ≤ 9223372036854775807) (w : World) (hsl : Sl w (.slice (some ⟨b, off, none⟩) 14 cap) l)
    (hc : ∀ i, i < 14 → w.cell? ⟨b, off + i, none⟩ = some (.int .u8 ((l.getD i 0 : Nat) : Int))) (h0 : l.getD 0 0 = 5) (gf : getV l 2 6 = f) (go : getV l 8 6 = o) (e_p : ((l.getD 1 0 : Nat) : Int) = p) (hv : rightB ⟨5, 0, 0, 0, p, f, (o - 1)⟩ = true) : Calls Try.prog 36 #[.slice (some ⟨b, off, none⟩) 14 cap] w (RPost ⟨5, 0, 0, 0, p, f, (o - 1)⟩ 0 w) := by
  have hk0 : w.cell? ⟨b, off + 0, none⟩ = some (.int .u8 5) := by rw [hc 0 (by omega), h0]; rfl
  have hk1 : w.cell? ⟨b, off, none⟩ = some (.int .u8 5) := hk0
  have hbl : b < w.heap.size := block_lt_of_cell hk0
  have hcp : w.cell? ⟨b, off + 1, none⟩ = some (.int .u8 p) := by rw [hc 1 (by omega), e_p]
  have hrp : 0 ≤ p ∧ p < 256 := by rw [← e_p]; have := hsl.bytes.getD 1; omega
  have Gf := Lib.hid (fun w' (h : Sl w' (.slice (some ⟨b, off, none⟩) 14 cap) l) => getr_any (.slice (some ⟨b, off, none⟩) 14 cap) 2 6 (by omega) l w' h)
  rw [gf] at Gf
  have hrf : 0 ≤ f ∧ f < 281474976710656 := by rw [← gf]; exact getV_range hsl.bytes _ _ (by omega)
  generalize getE l.length 2 6 = Ef at Gf
  have Go := Lib.hid (fun w' (h : Sl w' (.slice (some ⟨b, off, none⟩) 14 cap) l) => getr_any (.slice (some ⟨b, off, none⟩) 14 cap) 8 6 (by omega) l w' h)
  rw [go] at Go
  have hro : 0 ≤ o ∧ o < 281474976710656 := by rw [← go]; exact getV_range hsl.bytes _ _ (by omega)
  generalize getE l.length 8 6 = Eo at Go
  have HS := Lib.hid hsl
  have PR := Lib.hid (right_any ⟨5, 0, 0, 0, p, f, (o - 1)⟩)
  rw [hv] at PR
  have HZ := Lib.hid (show sizeE 5 = 14 by decide)
  clear hc hsl h0 hl gf go e_p hv
  unfold Rq.cells at PR
  go_enter Try.func36, Try.ntmps36
  go_wp2_with (first | (go_at_call 22; refine (sizer_v _ _ HZ.out _).mono ?_; rintro e w' ⟨rfl, rfl⟩) | (go_at_call 24; refine (ownr_w _ _).mono ?_; rintro e w' ⟨rfl, rfl⟩) | (go_at_call 49; refine (keyr_w _ _).mono ?_; rintro e w' ⟨rfl, rfl⟩) | (go_at_call 58; (with_reducible refine (Gf.out _ ((HS.out.alloc _).alloc _)).mono ?_); rintro e w' ⟨rfl, rfl⟩) | (go_at_call 58; (with_reducible refine (Go.out _ ((HS.out.alloc _).alloc _)).mono ?_); rintro e w' ⟨rfl, rfl⟩))
  refine (PR.out _).mono ?_
  rintro e x ⟨rfl, hb⟩
  have HT := Lib.hid (two_cells (q1 := zrq) (q2 := ⟨5, 0, 0, 0, p, f, (o - 1)⟩) hb)
  clear hb
  have hq1 := fun i => cell_of_row _ _ i _ _ _ HT.out.1
  have hq2 := fun i => cell_of_row _ _ i _ _ _ HT.out.2.1
  have fq := fun i => frozen_of_row _ _ i _ _ HT.out.1
  have c0 := hq1 0
  have c1 := hq1 1
  have c2 := hq1 2
  have c3 := hq1 3
  have c4 := hq1 4
  have c5 := hq1 5
  have c6 := hq1 6
  have e0 := hq2 0
  have e1 := hq2 1
  have e2 := hq2 2
  have e3 := hq2 3
  have e4 := hq2 4
  have e5 := hq2 5
  have e6 := hq2 6
  clear hq1 hq2
  simp [Rq.cells, zrq] at c0 c1 c2 c3 c4 c5 c6 e0 e1 e2 e3 e4 e5 e6
  go_wp2_with fail
  have h1 := storeQ_heap (q := ⟨5, 0, 0, 0, p, f, (o - 1)⟩) HT.out.1
  have h2 := storeQ_below (q := ⟨5, 0, 0, 0, p, f, (o - 1)⟩) HT.out.2.2 (Nat.le_refl _)
  generalize hw : storeQ x w.heap.size ⟨5, 0, 0, 0, p, f, (o - 1)⟩ = xx at h1 h2
  have hw2 : storeQ x w.heap.size ⟨5, 0, 0, 0, p, f, (o - 1)⟩ = (((((((x.setCell ⟨w.heap.size, 0, none⟩ (.int .i8 5)).setCell ⟨w.heap.size, 1, none⟩ (.int .i64 0)).setCell ⟨w.heap.size, 2, none⟩ (.int .i64 0)).setCell ⟨w.heap.size, 3, none⟩ (.int .i64 0)).setCell ⟨w.heap.size, 4, none⟩ (.int .i64 p)).setCell ⟨w.heap.size, 5, none⟩ (.int .i64 f)).setCell ⟨w.heap.size, 6, none⟩ (.int .i64 (o - 1))) := rfl
  rw [← hw2, hw]
  exact rf_end h1 rfl rfl h2
set_option maxHeartbeats 2000000 in
theorem rf_6_key (b off cap : Nat) (l : List Nat) (y : Int) (hl : l.length = 2) (hcap : 2 ≤ cap) (hm : cap ≤ 9223372036854775807) (w : World) (hsl : Sl w (.slice (some ⟨b, off, none⟩) 2 cap) l)
    (hc : ∀ i, i < 2 → w.cell? ⟨b, off + i, none⟩ = some (.int .u8 ((l.getD i 0 : Nat) : Int))) (h0 : l.getD 0 0 = 6) (e_y : ((l.getD 1 0 : Nat) : Int) = y) (hv : 24 ≤ y) : Calls Try.prog 36 #[.slice (some ⟨b, off, none⟩) 2 cap] w (RPost zrq 240 w) := by
  have hk0 : w.cell? ⟨b, off + 0, none⟩ = some (.int .u8 6) := by rw [hc 0 (by omega), h0]; rfl
  have hk1 : w.cell? ⟨b, off, none⟩ = some (.int .u8 6) := hk0
  have hbl : b < w.heap.size := block_lt_of_cell hk0
  have hcy : w.cell? ⟨b, off + 1, none⟩ = some (.int .u8 y) := by rw [hc 1 (by omega), e_y]
  have hry : 0 ≤ y ∧ y < 256 := by rw [← e_y]; have := hsl.bytes.getD 1; omega
  have HS := Lib.hid hsl
  have HZ := Lib.hid (show sizeE 6 = 2 by decide)
  clear hc hsl h0 hl e_y
  have d24 : decide (24 ≤ y) = true := by simpa using hv
  go_enter Try.func36, Try.ntmps36
  go_wp2_with (first | (go_at_call 22; refine (sizer_v _ _ HZ.out _).mono ?_; rintro e w' ⟨rfl, rfl⟩) | (go_at_call 24; refine (ownr_w _ _).mono ?_; rintro e w' ⟨rfl, rfl⟩) | (go_at_call 49; refine (keyr_w _ _).mono ?_; rintro e w' ⟨rfl, rfl⟩))
  refine rf_end ?_ rfl rfl ?_
  · rw [heap_alloc_old _ _ (by simp)]; exact heap_alloc_new _ _
  · exact ((Below.refl _ _).alloc (Nat.le_refl _) _).alloc (by simp) _
set_option maxHeartbeats 2000000 in
theorem rf_6_bad (b off cap : Nat) (l : List Nat) (y : Int) (hl : l.length = 2) (hcap : 2 ≤ cap) (hm : cap ≤ 9223372036854775807) (w : World) (hsl : Sl w (.slice (some ⟨b, off, none⟩) 2 cap) l)
    (hc : ∀ i, i < 2 → w.cell? ⟨b, off + i, none⟩ = some (.int .u8 ((l.getD i 0 : Nat) : Int))) (h0 : l.getD 0 0 = 6) (e_y : ((l.getD 1 0 : Nat) : Int) = y) (hv : rightB ⟨6, 0, y, 0, 0, 0, 0⟩ = false) (hy24 : y < 24) : Calls Try.prog 36 #[.slice (some ⟨b, off, none⟩) 2 cap] w (RPost zrq 50 w) := by
  have hk0 : w.cell? ⟨b, off + 0, none⟩ = some (.int .u8 6) := by rw [hc 0 (by omega), h0]; rfl
  have hk1 : w.cell? ⟨b, off, none⟩ = some (.int .u8 6) := hk0
  have hbl : b < w.heap.size := block_lt_of_cell hk0
  have hcy : w.cell? ⟨b, off + 1, none⟩ = some (.int .u8 y) := by rw [hc 1 (by omega), e_y]
  have hry : 0 ≤ y ∧ y < 256 := by rw [← e_y]; have := hsl.bytes.getD 1; omega
  have HS := Lib.hid hsl
  have PR := Lib.hid (right_any ⟨6, 0, y, 0, 0, 0, 0⟩)
  rw [hv] at PR
  have HZ := Lib.hid (show sizeE 6 = 2 by decide)
  clear hc hsl h0 hl e_y hv
  have d24 : decide (24 ≤ y) = false := by simp; omega
  unfold Rq.cells at PR
  go_enter Try.func36, Try.ntmps36
  go_wp2_with (first | (go_at_call 22; refine (sizer_v _ _ HZ.out _).mono ?_; rintro e w' ⟨rfl, rfl⟩) | (go_at_call 24; refine (ownr_w _ _).mono ?_; rintro e w' ⟨rfl, rfl⟩) | (go_at_call 49; refine (keyr_w _ _).mono ?_; rintro e w' ⟨rfl, rfl⟩))
  refine (PR.out _).mono ?_
  rintro e x ⟨rfl, hb⟩
  have HT := Lib.hid (two_cells (q1 := zrq) (q2 := ⟨6, 0, y, 0, 0, 0, 0⟩) hb)
  clear hb
  have hq1 := fun i => cell_of_row _ _ i _ _ _ HT.out.1
  have hq2 := fun i => cell_of_row _ _ i _ _ _ HT.out.2.1
  have fq := fun i => frozen_of_row _ _ i _ _ HT.out.1
  have c0 := hq1 0
  have c1 := hq1 1
  have c2 := hq1 2
  have c3 := hq1 3
  have c4 := hq1 4
  have c5 := hq1 5
  have c6 := hq1 6
  have e0 := hq2 0
  have e1 := hq2 1
  have e2 := hq2 2
  have e3 := hq2 3
  have e4 := hq2 4
  have e5 := hq2 5
  have e6 := hq2 6
  clear hq1 hq2
  simp [Rq.cells, zrq] at c0 c1 c2 c3 c4 c5 c6 e0 e1 e2 e3 e4 e5 e6
  go_wp2_with fail
  have h1 := storeQ_heap (q := zrq) HT.out.1
  have h2 := storeQ_below (q := zrq) HT.out.2.2 (Nat.le_refl _)
  generalize hw : storeQ x w.heap.size zrq = xx at h1 h2
  have hw2 : storeQ x w.heap.size zrq = (((((((x.setCell ⟨w.heap.size, 0, none⟩ (.int .i8 0)).setCell ⟨w.heap.size, 1, none⟩ (.int .i64 0)).setCell ⟨w.heap.size, 2, none⟩ (.int .i64 0)).setCell ⟨w.heap.size, 3, none⟩ (.int .i64 0)).setCell ⟨w.heap.size, 4, none⟩ (.int .i64 0)).setCell ⟨w.heap.size, 5, none⟩ (.int .i64 0)).setCell ⟨w.heap.size, 6, none⟩ (.int .i64 0)) := rfl
  rw [← hw2, hw]
  exact rf_end h1 rfl rfl h2
set_option maxHeartbeats 2000000 in
theorem rf_6_ok (b off cap : Nat) (l : List Nat) (y : Int) (hl : l.length = 2) (hcap : 2 ≤ cap) (hm : cap ≤ 9223372036854775807) (w : World) (hsl : Sl w (.slice (some ⟨b, off, none⟩) 2 cap) l)
    (hc : ∀ i, i < 2 → w.cell? ⟨b, off + i, none⟩ = some (.int .u8 ((l.getD i 0 : Nat) : Int))) (h0 : l.getD 0 0 = 6) (e_y : ((l.getD 1 0 : Nat) : Int) = y) (hv : rightB ⟨6, 0, y, 0, 0, 0, 0⟩ = true) (hy24 : y < 24) : Calls Try.prog 36 #[.slice (some ⟨b, off, none⟩) 2 cap] w (RPost ⟨6, 0, y, 0, 0, 0, 0⟩ 0 w) := by
  have hk0 : w.cell? ⟨b, off + 0, none⟩ = some (.int .u8 6) := by rw [hc 0 (by omega), h0]; rfl
  have hk1 : w.cell? ⟨b, off, none⟩ = some (.int .u8 6) := hk0
  have hbl : b < w.heap.size := block_lt_of_cell hk0
  have hcy : w.cell? ⟨b, off + 1, none⟩ = some (.int .u8 y) := by rw [hc 1 (by omega), e_y]
  have hry : 0 ≤ y ∧ y < 256 := by rw [← e_y]; have := hsl.bytes.getD 1; omega
  have HS := Lib.hid hsl
  have PR := Lib.hid (right_any ⟨6, 0, y, 0, 0, 0, 0⟩)
  rw [hv] at PR
  have HZ := Lib.hid (show sizeE 6 = 2 by decide)
  clear hc hsl h0 hl e_y hv
  have d24 : decide (24 ≤ y) = false := by simp; omega
  unfold Rq.cells at PR
  go_enter Try.func36, Try.ntmps36
  go_wp2_with (first | (go_at_call 22; refine (sizer_v _ _ HZ.out _).mono ?_; rintro e w' ⟨rfl, rfl⟩) | (go_at_call 24; refine (ownr_w _ _).mono ?_; rintro e w' ⟨rfl, rfl⟩) | (go_at_call 49; refine (keyr_w _ _).mono ?_; rintro e w' ⟨rfl, rfl⟩))
  refine (PR.out _).mono ?_
  rintro e x ⟨rfl, hb⟩
  have HT := Lib.hid (two_cells (q1 := zrq) (q2 := ⟨6, 0, y, 0, 0, 0, 0⟩) hb)
  clear hb
  have hq1 := fun i => cell_of_row _ _ i _ _ _ HT.out.1
  have hq2 := fun i => cell_of_row _ _ i _ _ _ HT.out.2.1
  have fq := fun i => frozen_of_row _ _ i _ _ HT.out.1
  have c0 := hq1 0
  have c1 := hq1 1
  have c2 := hq1 2
  have c3 := hq1 3
  have c4 := hq1 4
  have c5 := hq1 5
  have c6 := hq1 6
  have e0 := hq2 0
  have e1 := hq2 1
  have e2 := hq2 2
  have e3 := hq2 3
  have e4 := hq2 4
  have e5 := hq2 5
  have e6 := hq2 6
  clear hq1 hq2
  simp [Rq.cells, zrq] at c0 c1 c2 c3 c4 c5 c6 e0 e1 e2 e3 e4 e5 e6
  go_wp2_with fail
  have h1 := storeQ_heap (q := ⟨6, 0, y, 0, 0, 0, 0⟩) HT.out.1
  have h2 := storeQ_below (q := ⟨6, 0, y, 0, 0, 0, 0⟩) HT.out.2.2 (Nat.le_refl _)
  generalize hw : storeQ x w.heap.size ⟨6, 0, y, 0, 0, 0, 0⟩ = xx at h1 h2
  have hw2 : storeQ x w.heap.size ⟨6, 0, y, 0, 0, 0, 0⟩ = (((((((x.setCell ⟨w.heap.size, 0, none⟩ (.int .i8 6)).setCell ⟨w.heap.size, 1, none⟩ (.int .i64 0)).setCell ⟨w.heap.size, 2, none⟩ (.int .i64 y)).setCell ⟨w.heap.size, 3, none⟩ (.int .i64 0)).setCell ⟨w.heap.size, 4, none⟩ (.int .i64 0)).setCell ⟨w.heap.size, 5, none⟩ (.int .i64 0)).setCell ⟨w.heap.size, 6, none⟩ (.int .i64 0)) := rfl
  rw [← hw2, hw]
  exact rf_end h1 rfl rfl h2
set_option maxHeartbeats 2000000 in
theorem rf_0_bad (b off cap : Nat) (l : List Nat) (hl : l.length = 1) (hcap : 1 ≤ cap) (hm : cap ≤ 9223372036854775807) (w : World) (hsl : Sl w (.slice (some ⟨b, off, none⟩) 1 cap) l)
    (hc : ∀ i, i < 1 → w.cell? ⟨b, off + i, none⟩ = some (.int .u8 ((l.getD i 0 : Nat) : Int))) (h0 : l.getD 0 0 = 0) (hv : rightB ⟨0, 0, 0, 0, 0, 0, 0⟩ = false) : Calls Try.prog 36 #[.slice (some ⟨b, off, none⟩) 1 cap] w (RPost zrq 50 w) := by
  have hk0 : w.cell? ⟨b, off + 0, none⟩ = some (.int .u8 0) := by rw [hc 0 (by omega), h0]; rfl
  have hk1 : w.cell? ⟨b, off, none⟩ = some (.int .u8 0) := hk0
  have hbl : b < w.heap.size := block_lt_of_cell hk0
  have HS := Lib.hid hsl
  have PR := Lib.hid (right_any ⟨0, 0, 0, 0, 0, 0, 0⟩)
  rw [hv] at PR
  have HZ := Lib.hid (show sizeE 0 = 1 by decide)
  clear hc hsl h0 hl hv
  unfold Rq.cells at PR
  go_enter Try.func36, Try.ntmps36
  go_wp2_with (first | (go_at_call 22; refine (sizer_v _ _ HZ.out _).mono ?_; rintro e w' ⟨rfl, rfl⟩) | (go_at_call 24; refine (ownr_w _ _).mono ?_; rintro e w' ⟨rfl, rfl⟩) | (go_at_call 49; refine (keyr_w _ _).mono ?_; rintro e w' ⟨rfl, rfl⟩))
  refine (PR.out _).mono ?_
  rintro e x ⟨rfl, hb⟩
  have HT := Lib.hid (two_cells (q1 := zrq) (q2 := ⟨0, 0, 0, 0, 0, 0, 0⟩) hb)
  clear hb
  have hq1 := fun i => cell_of_row _ _ i _ _ _ HT.out.1
  have hq2 := fun i => cell_of_row _ _ i _ _ _ HT.out.2.1
  have fq := fun i => frozen_of_row _ _ i _ _ HT.out.1
  have c0 := hq1 0
  have c1 := hq1 1
  have c2 := hq1 2
  have c3 := hq1 3
  have c4 := hq1 4
  have c5 := hq1 5
  have c6 := hq1 6
  have e0 := hq2 0
  have e1 := hq2 1
  have e2 := hq2 2
  have e3 := hq2 3
  have e4 := hq2 4
  have e5 := hq2 5
  have e6 := hq2 6
  clear hq1 hq2
  simp [Rq.cells, zrq] at c0 c1 c2 c3 c4 c5 c6 e0 e1 e2 e3 e4 e5 e6
  go_wp2_with fail
  have h1 := storeQ_heap (q := zrq) HT.out.1
  have h2 := storeQ_below (q := zrq) HT.out.2.2 (Nat.le_refl _)
  generalize hw : storeQ x w.heap.size zrq = xx at h1 h2
  have hw2 : storeQ x w.heap.size zrq = (((((((x.setCell ⟨w.heap.size, 0, none⟩ (.int .i8 0)).setCell ⟨w.heap.size, 1, none⟩ (.int .i64 0)).setCell ⟨w.heap.size, 2, none⟩ (.int .i64 0)).setCell ⟨w.heap.size, 3, none⟩ (.int .i64 0)).setCell ⟨w.heap.size, 4, none⟩ (.int .i64 0)).setCell ⟨w.heap.size, 5, none⟩ (.int .i64 0)).setCell ⟨w.heap.size, 6, none⟩ (.int .i64 0)) := rfl
  rw [← hw2, hw]
  exact rf_end h1 rfl rfl h2
set_option maxHeartbeats 2000000 in
theorem rf_0_ok (b off cap : Nat) (l : List Nat) (hl : l.length = 1) (hcap : 1 ≤ cap) (hm : cap ≤ 9223372036854775807) (w : World) (hsl : Sl w (.slice (some ⟨b, off, none⟩) 1 cap) l)
    (hc : ∀ i, i < 1 → w.cell? ⟨b, off + i, none⟩ = some (.int .u8 ((l.getD i 0 : Nat) : Int))) (h0 : l.getD 0 0 = 0) (hv : rightB ⟨0, 0, 0, 0, 0, 0, 0⟩ = true) : Calls Try.prog 36 #[.slice (some ⟨b, off, none⟩) 1 cap] w (RPost ⟨0, 0, 0, 0, 0, 0, 0⟩ 0 w) := by
  have hk0 : w.cell? ⟨b, off + 0, none⟩ = some (.int .u8 0) := by rw [hc 0 (by omega), h0]; rfl
  have hk1 : w.cell? ⟨b, off, none⟩ = some (.int .u8 0) := hk0
  have hbl : b < w.heap.size := block_lt_of_cell hk0
  have HS := Lib.hid hsl
  have PR := Lib.hid (right_any ⟨0, 0, 0, 0, 0, 0, 0⟩)
  rw [hv] at PR
  have HZ := Lib.hid (show sizeE 0 = 1 by decide)
  clear hc hsl h0 hl hv
  unfold Rq.cells at PR
  go_enter Try.func36, Try.ntmps36
  go_wp2_with (first | (go_at_call 22; refine (sizer_v _ _ HZ.out _).mono ?_; rintro e w' ⟨rfl, rfl⟩) | (go_at_call 24; refine (ownr_w _ _).mono ?_; rintro e w' ⟨rfl, rfl⟩) | (go_at_call 49; refine (keyr_w _ _).mono ?_; rintro e w' ⟨rfl, rfl⟩))
  refine (PR.out _).mono ?_
  rintro e x ⟨rfl, hb⟩
  have HT := Lib.hid (two_cells (q1 := zrq) (q2 := ⟨0, 0, 0, 0, 0, 0, 0⟩) hb)
  clear hb
  have hq1 := fun i => cell_of_row _ _ i _ _ _ HT.out.1
  have hq2 := fun i => cell_of_row _ _ i _ _ _ HT.out.2.1
  have fq := fun i => frozen_of_row _ _ i _ _ HT.out.1
  have c0 := hq1 0
  have c1 := hq1 1
  have c2 := hq1 2
  have c3 := hq1 3
  have c4 := hq1 4
  have c5 := hq1 5
  have c6 := hq1 6
  have e0 := hq2 0
  have e1 := hq2 1
  have e2 := hq2 2
  have e3 := hq2 3
  have e4 := hq2 4
  have e5 := hq2 5
  have e6 := hq2 6
  clear hq1 hq2
  simp [Rq.cells, zrq] at c0 c1 c2 c3 c4 c5 c6 e0 e1 e2 e3 e4 e5 e6
  go_wp2_with fail
  have h1 := storeQ_heap (q := ⟨0, 0, 0, 0, 0, 0, 0⟩) HT.out.1
  have h2 := storeQ_below (q := ⟨0, 0, 0, 0, 0, 0, 0⟩) HT.out.2.2 (Nat.le_refl _)
  generalize hw : storeQ x w.heap.size ⟨0, 0, 0, 0, 0, 0, 0⟩ = xx at h1 h2
  have hw2 : storeQ x w.heap.size ⟨0, 0, 0, 0, 0, 0, 0⟩ = (((((((x.setCell ⟨w.heap.size, 0, none⟩ (.int .i8 0)).setCell ⟨w.heap.size, 1, none⟩ (.int .i64 0)).setCell ⟨w.heap.size, 2, none⟩ (.int .i64 0)).setCell ⟨w.heap.size, 3, none⟩ (.int .i64 0)).setCell ⟨w.heap.size, 4, none⟩ (.int .i64 0)).setCell ⟨w.heap.size, 5, none⟩ (.int .i64 0)).setCell ⟨w.heap.size, 6, none⟩ (.int .i64 0)) := rfl
  rw [← hw2, hw]
  exact rf_end h1 rfl rfl h2
set_option maxHeartbeats 2000000 in
theorem rf_9_bad (b off cap : Nat) (l : List Nat) (hl : l.length = 1) (hcap : 1 ≤ cap) (hm : cap ≤ 9223372036854775807) (w : World) (hsl : Sl w (.slice (some ⟨b, off, none⟩) 1 cap) l)
    (hc : ∀ i, i < 1 → w.cell? ⟨b, off + i, none⟩ = some (.int .u8 ((l.getD i 0 : Nat) : Int))) (h0 : l.getD 0 0 = 9) (hv : rightB ⟨9, 0, 0, 0, 0, 0, 0⟩ = false) : Calls Try.prog 36 #[.slice (some ⟨b, off, none⟩) 1 cap] w (RPost zrq 50 w) := by
  have hk0 : w.cell? ⟨b, off + 0, none⟩ = some (.int .u8 9) := by rw [hc 0 (by omega), h0]; rfl
  have hk1 : w.cell? ⟨b, off, none⟩ = some (.int .u8 9) := hk0
  have hbl : b < w.heap.size := block_lt_of_cell hk0
  have HS := Lib.hid hsl
  have PR := Lib.hid (right_any ⟨9, 0, 0, 0, 0, 0, 0⟩)
  rw [hv] at PR
  have HZ := Lib.hid (show sizeE 9 = 1 by decide)
  clear hc hsl h0 hl hv
  unfold Rq.cells at PR
  go_enter Try.func36, Try.ntmps36
  go_wp2_with (first | (go_at_call 22; refine (sizer_v _ _ HZ.out _).mono ?_; rintro e w' ⟨rfl, rfl⟩) | (go_at_call 24; refine (ownr_w _ _).mono ?_; rintro e w' ⟨rfl, rfl⟩) | (go_at_call 49; refine (keyr_w _ _).mono ?_; rintro e w' ⟨rfl, rfl⟩))
  refine (PR.out _).mono ?_
  rintro e x ⟨rfl, hb⟩
  have HT := Lib.hid (two_cells (q1 := zrq) (q2 := ⟨9, 0, 0, 0, 0, 0, 0⟩) hb)
  clear hb
  have hq1 := fun i => cell_of_row _ _ i _ _ _ HT.out.1
  have hq2 := fun i => cell_of_row _ _ i _ _ _ HT.out.2.1
  have fq := fun i => frozen_of_row _ _ i _ _ HT.out.1
  have c0 := hq1 0
  have c1 := hq1 1
  have c2 := hq1 2
  have c3 := hq1 3
  have c4 := hq1 4
  have c5 := hq1 5
  have c6 := hq1 6
  have e0 := hq2 0
  have e1 := hq2 1
  have e2 := hq2 2
  have e3 := hq2 3
  have e4 := hq2 4
  have e5 := hq2 5
  have e6 := hq2 6
  clear hq1 hq2
  simp [Rq.cells, zrq] at c0 c1 c2 c3 c4 c5 c6 e0 e1 e2 e3 e4 e5 e6
  go_wp2_with fail
  have h1 := storeQ_heap (q := zrq) HT.out.1
  have h2 := storeQ_below (q := zrq) HT.out.2.2 (Nat.le_refl _)
  generalize hw : storeQ x w.heap.size zrq = xx at h1 h2
  have hw2 : storeQ x w.heap.size zrq = (((((((x.setCell ⟨w.heap.size, 0, none⟩ (.int .i8 0)).setCell ⟨w.heap.size, 1, none⟩ (.int .i64 0)).setCell ⟨w.heap.size, 2, none⟩ (.int .i64 0)).setCell ⟨w.heap.size, 3, none⟩ (.int .i64 0)).setCell ⟨w.heap.size, 4, none⟩ (.int .i64 0)).setCell ⟨w.heap.size, 5, none⟩ (.int .i64 0)).setCell ⟨w.heap.size, 6, none⟩ (.int .i64 0)) := rfl
  rw [← hw2, hw]
  exact rf_end h1 rfl rfl h2
set_option maxHeartbeats 2000000 in
theorem rf_9_ok (b off cap : Nat) (l : List Nat) (hl : l.length = 1) (hcap : 1 ≤ cap) (hm : cap ≤ 9223372036854775807) (w : World) (hsl : Sl w (.slice (some ⟨b, off, none⟩) 1 cap) l)
    (hc : ∀ i, i < 1 → w.cell? ⟨b, off + i, none⟩ = some (.int .u8 ((l.getD i 0 : Nat) : Int))) (h0 : l.getD 0 0 = 9) (hv : rightB ⟨9, 0, 0, 0, 0, 0, 0⟩ = true) : Calls Try.prog 36 #[.slice (some ⟨b, off, none⟩) 1 cap] w (RPost ⟨9, 0, 0, 0, 0, 0, 0⟩ 0 w) := by
  have hk0 : w.cell? ⟨b, off + 0, none⟩ = some (.int .u8 9) := by rw [hc 0 (by omega), h0]; rfl
  have hk1 : w.cell? ⟨b, off, none⟩ = some (.int .u8 9) := hk0
  have hbl : b < w.heap.size := block_lt_of_cell hk0
  have HS := Lib.hid hsl
  have PR := Lib.hid (right_any ⟨9, 0, 0, 0, 0, 0, 0⟩)
  rw [hv] at PR
  have HZ := Lib.hid (show sizeE 9 = 1 by decide)
  clear hc hsl h0 hl hv
  unfold Rq.cells at PR
  go_enter Try.func36, Try.ntmps36
  go_wp2_with (first | (go_at_call 22; refine (sizer_v _ _ HZ.out _).mono ?_; rintro e w' ⟨rfl, rfl⟩) | (go_at_call 24; refine (ownr_w _ _).mono ?_; rintro e w' ⟨rfl, rfl⟩) | (go_at_call 49; refine (keyr_w _ _).mono ?_; rintro e w' ⟨rfl, rfl⟩))
  refine (PR.out _).mono ?_
  rintro e x ⟨rfl, hb⟩
  have HT := Lib.hid (two_cells (q1 := zrq) (q2 := ⟨9, 0, 0, 0, 0, 0, 0⟩) hb)
  clear hb
  have hq1 := fun i => cell_of_row _ _ i _ _ _ HT.out.1
  have hq2 := fun i => cell_of_row _ _ i _ _ _ HT.out.2.1
  have fq := fun i => frozen_of_row _ _ i _ _ HT.out.1
  have c0 := hq1 0
  have c1 := hq1 1
  have c2 := hq1 2
  have c3 := hq1 3
  have c4 := hq1 4
  have c5 := hq1 5
  have c6 := hq1 6
  have e0 := hq2 0
  have e1 := hq2 1
  have e2 := hq2 2
  have e3 := hq2 3
  have e4 := hq2 4
  have e5 := hq2 5
  have e6 := hq2 6
  clear hq1 hq2
  simp [Rq.cells, zrq] at c0 c1 c2 c3 c4 c5 c6 e0 e1 e2 e3 e4 e5 e6
  go_wp2_with fail
  have h1 := storeQ_heap (q := ⟨9, 0, 0, 0, 0, 0, 0⟩) HT.out.1
  have h2 := storeQ_below (q := ⟨9, 0, 0, 0, 0, 0, 0⟩) HT.out.2.2 (Nat.le_refl _)
  generalize hw : storeQ x w.heap.size ⟨9, 0, 0, 0, 0, 0, 0⟩ = xx at h1 h2
  have hw2 : storeQ x w.heap.size ⟨9, 0, 0, 0, 0, 0, 0⟩ = (((((((x.setCell ⟨w.heap.size, 0, none⟩ (.int .i8 9)).setCell ⟨w.heap.size, 1, none⟩ (.int .i64 0)).setCell ⟨w.heap.size, 2, none⟩ (.int .i64 0)).setCell ⟨w.heap.size, 3, none⟩ (.int .i64 0)).setCell ⟨w.heap.size, 4, none⟩ (.int .i64 0)).setCell ⟨w.heap.size, 5, none⟩ (.int .i64 0)).setCell ⟨w.heap.size, 6, none⟩ (.int .i64 0)) := rfl
  rw [← hw2, hw]
  exact rf_end h1 rfl rfl h2
end Go.Proofs.Ytcffabfaefbjcaa
