/-
  What the reference's Bytes tells (chapter 08).
-/
import Derived.Test.YtcffabfaefbjcaaReqR2
import Derived.Test.YtcffabfaefbjcaaReqB
namespace Go.Proofs.Ytcffabfaefbjcaa
set_option linter.unusedVariables false
open Go.RowKit
theorem ownr_w (k : Int) (w : World) : Calls Try.prog 24 #[.int .i8 k] w fun e w' => e = .returned (.bool (ownB k)) ∧ w = w' := (ownr_any k w).mono fun _ _ h => ⟨h.1, h.2.symm⟩
theorem keyr_w (k : Int) (w : World) : Calls Try.prog 49 #[.int .i8 k] w fun e w' => e = .returned (.bool (keyB k)) ∧ w = w' := (keyr_any k w).mono fun _ _ h => ⟨h.1, h.2.symm⟩
theorem putL_one (b : List Nat) (y : Int) (h : 0 ≤ y ∧ y < 256) : putL b y 1 = b ++ [y.toNat] := by
  unfold putL
  rw [if_pos ⟨by omega, by omega, h.1, by simpa using h.2⟩]
  congr 1
  simp [le]
  omega
theorem bounds_of {r : Rq} (h : mayB r = true) : (0 ≤ r.k ∧ r.k ≤ 9) ∧ (0 ≤ r.t ∧ r.t ≤ 1048576) ∧ (0 ≤ r.y ∧ r.y < 24) ∧ (0 ≤ r.v ∧ r.v ≤ 255) ∧ (0 ≤ r.p ∧ r.p ≤ 7) ∧ (0 ≤ r.f ∧ r.f ≤ 1048575) ∧ (-1 ≤ r.o ∧ r.o ≤ 1048575) := by
  unfold mayB at h
  simp only [Bool.and_eq_true, decide_eq_true_eq] at h
  obtain ⟨h1, h2⟩ := h
  have hp : rightP r := by
    apply Decidable.byContradiction
    intro hn
    rw [rightB_no hn] at h1; cases h1
  obtain ⟨a, b, c, d, e, f, g⟩ := hp
  have b2 : 0 ≤ r.t ∧ r.t ≤ 1048576 := by rcases b with ⟨_, b1, b2⟩ | ⟨_, b1⟩ <;> omega
  exact ⟨a, b2, h2, by omega, by omega, by omega, by omega⟩
theorem bytesr_no (r : Rq) (hm : mayB r = false) (w : World) : Calls Try.prog 18 #[.agg r.cells] w fun e w' => e = .returned (.tuple #[.slice none 0 0, .int .i64 2]) ∧ Below w.heap.size w w' := by
  have HM := Lib.hid (mayr_any r)
  rw [hm] at HM
  clear hm
  unfold Rq.cells at *
  go_enter Try.func18, Try.ntmps18
  go_wp2_with fail
  refine (HM.out _).mono ?_
  rintro e w1 ⟨rfl, hb⟩
  have HB := Lib.hid hb
  clear hb
  go_wp2
  go_ret2
  exact ⟨rfl, ((Below.refl _ _).alloc (Nat.le_refl _) _).trans (HB.out.mono (by simp))⟩
/-- the box of a request, in a world later on -/
def RBox (r : Rq) (w x : World) : Prop := (∀ i, x.cell? ⟨w.heap.size, i, none⟩ = r.cells[i]?) ∧ w.heap.size < x.heap.size ∧ Below w.heap.size w x
theorem RBox.start {r : Rq} {w x : World} (h : Below (w.alloc (.cells r.cells 34)).heap.size (w.alloc (.cells r.cells 34)) x) : RBox r w x :=
  ⟨cells_below _ _ h, by have := h.size; simp at this; omega, ((Below.refl _ _).alloc (Nat.le_refl _) _).trans (h.mono (by simp))⟩
theorem RBox.later {r : Rq} {w x x' : World} {B : Nat} (h : RBox r w x) (hb : Below B x x') (hB : w.heap.size < B) : RBox r w x' := by
  refine ⟨fun i => ?_, Nat.lt_of_lt_of_le h.2.1 hb.size, h.2.2.trans (hb.mono (by omega))⟩
  rw [hb.cell (p := ⟨w.heap.size, i, none⟩) hB]; exact h.1 i
theorem RBox.alloc {r : Rq} {w x : World} (h : RBox r w x) (o : Obj) : RBox r w (x.alloc o) := h.later ((Below.refl x.heap.size x).alloc (Nat.le_refl _) o) h.2.1
theorem RBox.grown {r : Rq} {w x x' : World} {row : Option Nat} (h : RBox r w x) (hg : x.grownBy x' row) (hr : ∀ k, row = some k → w.heap.size < k) : RBox r w x' :=
  h.later (B := w.heap.size + 1) ((Below.refl _ _).grown hg h.2.1 (fun k hk => hr k hk)) (Nat.lt_succ_self _)
theorem own_start (r : Rq) (w1 : World) (hk : 0 ≤ r.k ∧ r.k ≤ 9) : Own 5 w1.heap.size (w1.alloc (.cells #[.int .u8 r.k] 5)) (.slice (some ⟨w1.heap.size, 0, none⟩) 1 1) [r.k.toNat] := by
  refine ⟨IsBytes.one (by omega), rfl, .inr ⟨w1.heap.size, 1, #[.int .u8 r.k], rfl, Nat.le_refl _, heap_alloc_new _ _, Nat.le_refl _, by unfold maxLen; omega, rfl, ?_⟩⟩
  simp [bv]; omega
theorem own_block {T B : Nat} {w : World} {v : Value} {l : List Nat} (h : Own T B w v l) : ∀ k, v.ownBlock = some k → B ≤ k := by
  rcases h.2.2 with ⟨rfl, _⟩ | ⟨g, cap, cur, rfl, hb, _⟩
  · intro k hk; cases hk
  · intro k hk; cases hk; exact hb
set_option maxHeartbeats 2000000 in
theorem bytesr_0 (r : Rq) (hm : mayB r = true) (hk : r.k = 0) (w : World) : Calls Try.prog 18 #[.agg r.cells] w (PutPostE w (bytesT r [] 0) 0) := by
  have HM := Lib.hid (mayr_any r)
  rw [hm] at HM
  have hr := bounds_of hm
  obtain ⟨k, t, y, v, p, f, o⟩ := r
  simp only at hk
  subst hk
  obtain ⟨-, ht, hy, hv, hp, hf, ho⟩ := hr
  simp only at ht hy hv hp hf ho
  have HE := Lib.hid (show bytesT ⟨0, t, y, v, p, f, o⟩ [] 0 = [0] from rfl)
  have HB0 := Lib.hid (show ∀ w1 : World, Own 5 w1.heap.size (w1.alloc (.cells #[.int .u8 0] 5)) (.slice (some ⟨w1.heap.size, 0, none⟩) 1 1) [0] from fun w1 => own_start ⟨0, t, y, v, p, f, o⟩ w1 (by simp))
  have HRS := Lib.hid (fun w x => RBox.start (r := ⟨0, t, y, v, p, f, o⟩) (w := w) (x := x))
  rw [HE.out]
  clear hm
  unfold Rq.cells at *
  go_enter Try.func18, Try.ntmps18
  go_wp2_with fail
  refine (HM.out _).mono ?_
  rintro e w1 ⟨rfl, hb⟩
  have HX := Lib.hid ((HRS.out _ _ hb).alloc (.cells #[.int .u8 0] 5))
  have HO := Lib.hid ((HB0.out w1).mono (B' := w.heap.size + 1) (by have := (HRS.out _ _ hb).2.1; omega))
  have hw1 : w.heap.size < w1.heap.size := (HRS.out _ _ hb).2.1
  have hc0 : w1.cell? ⟨w.heap.size, 0, none⟩ = some (.int .i8 0) := (HRS.out _ _ hb).1 0
  have hc1 : w1.cell? ⟨w.heap.size, 1, none⟩ = some (.int .i64 t) := (HRS.out _ _ hb).1 1
  have hc2 : w1.cell? ⟨w.heap.size, 2, none⟩ = some (.int .i64 y) := (HRS.out _ _ hb).1 2
  have hc3 : w1.cell? ⟨w.heap.size, 3, none⟩ = some (.int .i64 v) := (HRS.out _ _ hb).1 3
  have hc4 : w1.cell? ⟨w.heap.size, 4, none⟩ = some (.int .i64 p) := (HRS.out _ _ hb).1 4
  have hc5 : w1.cell? ⟨w.heap.size, 5, none⟩ = some (.int .i64 f) := (HRS.out _ _ hb).1 5
  have hc6 : w1.cell? ⟨w.heap.size, 6, none⟩ = some (.int .i64 o) := (HRS.out _ _ hb).1 6
  clear hb
  go_wp2_with (first | (go_at_call 24; refine (ownr_w _ _).mono ?_; rintro e w' ⟨rfl, rfl⟩) | (go_at_call 49; refine (keyr_w _ _).mono ?_; rintro e w' ⟨rfl, rfl⟩))
  go_ret2
  exact ⟨_, rfl, HO.out.mono (Nat.le_succ _), HX.out.2.2⟩
set_option maxHeartbeats 2000000 in
theorem bytesr_1 (r : Rq) (hm : mayB r = true) (hk : r.k = 1) (w : World) : Calls Try.prog 18 #[.agg r.cells] w (PutPostE w (bytesT r [0, 1] 2) 0) := by
  have HM := Lib.hid (mayr_any r)
  rw [hm] at HM
  have hr := bounds_of hm
  obtain ⟨k, t, y, v, p, f, o⟩ := r
  simp only at hk
  subst hk
  obtain ⟨-, ht, hy, hv, hp, hf, ho⟩ := hr
  simp only at ht hy hv hp hf ho
  have HE := Lib.hid (show bytesT ⟨1, t, y, v, p, f, o⟩ [0, 1] 2 = (putL (putL [1] t 3) y 1) from rfl)
  have HB0 := Lib.hid (show ∀ w1 : World, Own 5 w1.heap.size (w1.alloc (.cells #[.int .u8 1] 5)) (.slice (some ⟨w1.heap.size, 0, none⟩) 1 1) [1] from fun w1 => own_start ⟨1, t, y, v, p, f, o⟩ w1 (by simp))
  have HRS := Lib.hid (fun w x => RBox.start (r := ⟨1, t, y, v, p, f, o⟩) (w := w) (x := x))
  rw [HE.out]
  clear hm
  unfold Rq.cells at *
  go_enter Try.func18, Try.ntmps18
  go_wp2_with fail
  refine (HM.out _).mono ?_
  rintro e w1 ⟨rfl, hb⟩
  have HX := Lib.hid ((HRS.out _ _ hb).alloc (.cells #[.int .u8 1] 5))
  have HO := Lib.hid ((HB0.out w1).mono (B' := w.heap.size + 1) (by have := (HRS.out _ _ hb).2.1; omega))
  have hw1 : w.heap.size < w1.heap.size := (HRS.out _ _ hb).2.1
  have hc0 : w1.cell? ⟨w.heap.size, 0, none⟩ = some (.int .i8 1) := (HRS.out _ _ hb).1 0
  have hc1 : w1.cell? ⟨w.heap.size, 1, none⟩ = some (.int .i64 t) := (HRS.out _ _ hb).1 1
  have hc2 : w1.cell? ⟨w.heap.size, 2, none⟩ = some (.int .i64 y) := (HRS.out _ _ hb).1 2
  have hc3 : w1.cell? ⟨w.heap.size, 3, none⟩ = some (.int .i64 v) := (HRS.out _ _ hb).1 3
  have hc4 : w1.cell? ⟨w.heap.size, 4, none⟩ = some (.int .i64 p) := (HRS.out _ _ hb).1 4
  have hc5 : w1.cell? ⟨w.heap.size, 5, none⟩ = some (.int .i64 f) := (HRS.out _ _ hb).1 5
  have hc6 : w1.cell? ⟨w.heap.size, 6, none⟩ = some (.int .i64 o) := (HRS.out _ _ hb).1 6
  clear hb
  go_wp2_with (first | (go_at_call 24; refine (ownr_w _ _).mono ?_; rintro e w' ⟨rfl, rfl⟩) | (go_at_call 49; refine (keyr_w _ _).mono ?_; rintro e w' ⟨rfl, rfl⟩))
  have hl0 : ([1] : List Nat).length ≤ 1 := by simp
  have HL0 := Lib.hid hl0
  clear hl0
  refine (putr_any _ t 3 (by omega) [1] _ HO.out.sl (by have := HL0.out; omega)).mono ?_
  rintro e w2 ⟨v0, rfl, hown, hb⟩
  have HX' := Lib.hid (HX.out.later hb HX.out.2.1)
  have HO' := Lib.hid (hown.mono (B' := w.heap.size + 1) HX.out.2.1)
  clear HX HO hown hb
  have HX := HX'
  have HO := HO'
  clear HX' HO' hc0 hc1 hc2 hc3 hc4 hc5 hc6
  have hw2 : w.heap.size < w2.heap.size := HX.out.2.1
  have hc0 : w2.cell? ⟨w.heap.size, 0, none⟩ = some (.int .i8 1) := HX.out.1 0
  have hc1 : w2.cell? ⟨w.heap.size, 1, none⟩ = some (.int .i64 t) := HX.out.1 1
  have hc2 : w2.cell? ⟨w.heap.size, 2, none⟩ = some (.int .i64 y) := HX.out.1 2
  have hc3 : w2.cell? ⟨w.heap.size, 3, none⟩ = some (.int .i64 v) := HX.out.1 3
  have hc4 : w2.cell? ⟨w.heap.size, 4, none⟩ = some (.int .i64 p) := HX.out.1 4
  have hc5 : w2.cell? ⟨w.heap.size, 5, none⟩ = some (.int .i64 f) := HX.out.1 5
  have hc6 : w2.cell? ⟨w.heap.size, 6, none⟩ = some (.int .i64 o) := HX.out.1 6
  have hl1 : ((putL [1] t 3) : List Nat).length ≤ 7 := Nat.le_trans (putL_length _ _ _) (Nat.add_le_add_right HL0.out 6)
  have HL1 := Lib.hid hl1
  clear hl1
  have hy1 := putL_one (putL [1] t 3) y (by omega)
  have HY1 := Lib.hid hy1
  clear hy1
  have hyz1 : (y : Int) = ((y.toNat : Nat) : Int) := by omega
  have HYZ1 := Lib.hid hyz1
  clear hyz1
  go_wp2_with (first | (go_at_call 24; refine (ownr_w _ _).mono ?_; rintro e w' ⟨rfl, rfl⟩) | (go_at_call 49; refine (keyr_w _ _).mono ?_; rintro e w' ⟨rfl, rfl⟩) | (at_builtin; refine wp_push_own bt rfl (.tmp 25) (.tmp 29) rfl (w.heap.size + 1) _ (putL [1] t 3) rfl (HO.out.alloc _) _ 1 rfl y y.toNat (new_cell _ _ _) HYZ1.out (by omega) (by have := HL1.out; omega) (HX.out.alloc _).2.1 ?_; intro v1 w3 hown hgr; have HX' := Lib.hid ((HX.out.alloc _).grown hgr (own_block HO.out)); have HO' := Lib.hid hown; rw [← HY1.out] at HO'; clear HX HO hown hgr; have HX := HX'; have HO := HO'; clear HX' HO' hc0 hc1 hc2 hc3 hc4 hc5 hc6; have hw3 : w.heap.size < w3.heap.size := HX.out.2.1; have hc0 : w3.cell? ⟨w.heap.size, 0, none⟩ = some (.int .i8 1) := HX.out.1 0; have hc1 : w3.cell? ⟨w.heap.size, 1, none⟩ = some (.int .i64 t) := HX.out.1 1; have hc2 : w3.cell? ⟨w.heap.size, 2, none⟩ = some (.int .i64 y) := HX.out.1 2; have hc3 : w3.cell? ⟨w.heap.size, 3, none⟩ = some (.int .i64 v) := HX.out.1 3; have hc4 : w3.cell? ⟨w.heap.size, 4, none⟩ = some (.int .i64 p) := HX.out.1 4; have hc5 : w3.cell? ⟨w.heap.size, 5, none⟩ = some (.int .i64 f) := HX.out.1 5; have hc6 : w3.cell? ⟨w.heap.size, 6, none⟩ = some (.int .i64 o) := HX.out.1 6))
  go_ret2
  exact ⟨_, rfl, HO.out.mono (Nat.le_succ _), HX.out.2.2⟩
set_option maxHeartbeats 2000000 in
theorem bytesr_2 (r : Rq) (hm : mayB r = true) (hk : r.k = 2) (w : World) : Calls Try.prog 18 #[.agg r.cells] w (PutPostE w (bytesT r [0, 1, 2] 3) 0) := by
  have HM := Lib.hid (mayr_any r)
  rw [hm] at HM
  have hr := bounds_of hm
  obtain ⟨k, t, y, v, p, f, o⟩ := r
  simp only at hk
  subst hk
  obtain ⟨-, ht, hy, hv, hp, hf, ho⟩ := hr
  simp only at ht hy hv hp hf ho
  have HE := Lib.hid (show bytesT ⟨2, t, y, v, p, f, o⟩ [0, 1, 2] 3 = (putL (putL (putL [2] t 3) y 1) v 1) from rfl)
  have HB0 := Lib.hid (show ∀ w1 : World, Own 5 w1.heap.size (w1.alloc (.cells #[.int .u8 2] 5)) (.slice (some ⟨w1.heap.size, 0, none⟩) 1 1) [2] from fun w1 => own_start ⟨2, t, y, v, p, f, o⟩ w1 (by simp))
  have HRS := Lib.hid (fun w x => RBox.start (r := ⟨2, t, y, v, p, f, o⟩) (w := w) (x := x))
  rw [HE.out]
  clear hm
  unfold Rq.cells at *
  go_enter Try.func18, Try.ntmps18
  go_wp2_with fail
  refine (HM.out _).mono ?_
  rintro e w1 ⟨rfl, hb⟩
  have HX := Lib.hid ((HRS.out _ _ hb).alloc (.cells #[.int .u8 2] 5))
  have HO := Lib.hid ((HB0.out w1).mono (B' := w.heap.size + 1) (by have := (HRS.out _ _ hb).2.1; omega))
  have hw1 : w.heap.size < w1.heap.size := (HRS.out _ _ hb).2.1
  have hc0 : w1.cell? ⟨w.heap.size, 0, none⟩ = some (.int .i8 2) := (HRS.out _ _ hb).1 0
  have hc1 : w1.cell? ⟨w.heap.size, 1, none⟩ = some (.int .i64 t) := (HRS.out _ _ hb).1 1
  have hc2 : w1.cell? ⟨w.heap.size, 2, none⟩ = some (.int .i64 y) := (HRS.out _ _ hb).1 2
  have hc3 : w1.cell? ⟨w.heap.size, 3, none⟩ = some (.int .i64 v) := (HRS.out _ _ hb).1 3
  have hc4 : w1.cell? ⟨w.heap.size, 4, none⟩ = some (.int .i64 p) := (HRS.out _ _ hb).1 4
  have hc5 : w1.cell? ⟨w.heap.size, 5, none⟩ = some (.int .i64 f) := (HRS.out _ _ hb).1 5
  have hc6 : w1.cell? ⟨w.heap.size, 6, none⟩ = some (.int .i64 o) := (HRS.out _ _ hb).1 6
  clear hb
  go_wp2_with (first | (go_at_call 24; refine (ownr_w _ _).mono ?_; rintro e w' ⟨rfl, rfl⟩) | (go_at_call 49; refine (keyr_w _ _).mono ?_; rintro e w' ⟨rfl, rfl⟩))
  have hl0 : ([2] : List Nat).length ≤ 1 := by simp
  have HL0 := Lib.hid hl0
  clear hl0
  refine (putr_any _ t 3 (by omega) [2] _ HO.out.sl (by have := HL0.out; omega)).mono ?_
  rintro e w2 ⟨v0, rfl, hown, hb⟩
  have HX' := Lib.hid (HX.out.later hb HX.out.2.1)
  have HO' := Lib.hid (hown.mono (B' := w.heap.size + 1) HX.out.2.1)
  clear HX HO hown hb
  have HX := HX'
  have HO := HO'
  clear HX' HO' hc0 hc1 hc2 hc3 hc4 hc5 hc6
  have hw2 : w.heap.size < w2.heap.size := HX.out.2.1
  have hc0 : w2.cell? ⟨w.heap.size, 0, none⟩ = some (.int .i8 2) := HX.out.1 0
  have hc1 : w2.cell? ⟨w.heap.size, 1, none⟩ = some (.int .i64 t) := HX.out.1 1
  have hc2 : w2.cell? ⟨w.heap.size, 2, none⟩ = some (.int .i64 y) := HX.out.1 2
  have hc3 : w2.cell? ⟨w.heap.size, 3, none⟩ = some (.int .i64 v) := HX.out.1 3
  have hc4 : w2.cell? ⟨w.heap.size, 4, none⟩ = some (.int .i64 p) := HX.out.1 4
  have hc5 : w2.cell? ⟨w.heap.size, 5, none⟩ = some (.int .i64 f) := HX.out.1 5
  have hc6 : w2.cell? ⟨w.heap.size, 6, none⟩ = some (.int .i64 o) := HX.out.1 6
  have hl1 : ((putL [2] t 3) : List Nat).length ≤ 7 := Nat.le_trans (putL_length _ _ _) (Nat.add_le_add_right HL0.out 6)
  have HL1 := Lib.hid hl1
  clear hl1
  have hy1 := putL_one (putL [2] t 3) y (by omega)
  have HY1 := Lib.hid hy1
  clear hy1
  have hyz1 : (y : Int) = ((y.toNat : Nat) : Int) := by omega
  have HYZ1 := Lib.hid hyz1
  clear hyz1
  have hl2 : ((putL (putL [2] t 3) y 1) : List Nat).length ≤ 13 := Nat.le_trans (putL_length _ _ _) (Nat.add_le_add_right HL1.out 6)
  have HL2 := Lib.hid hl2
  clear hl2
  have hy2 := putL_one (putL (putL [2] t 3) y 1) v (by omega)
  have HY2 := Lib.hid hy2
  clear hy2
  have hyz2 : (v : Int) = ((v.toNat : Nat) : Int) := by omega
  have HYZ2 := Lib.hid hyz2
  clear hyz2
  go_wp2_with (first | (go_at_call 24; refine (ownr_w _ _).mono ?_; rintro e w' ⟨rfl, rfl⟩) | (go_at_call 49; refine (keyr_w _ _).mono ?_; rintro e w' ⟨rfl, rfl⟩) | (at_builtin; refine wp_push_own bt rfl (.tmp 25) (.tmp 29) rfl (w.heap.size + 1) _ (putL [2] t 3) rfl (HO.out.alloc _) _ 1 rfl y y.toNat (new_cell _ _ _) HYZ1.out (by omega) (by have := HL1.out; omega) (HX.out.alloc _).2.1 ?_; intro v1 w3 hown hgr; have HX' := Lib.hid ((HX.out.alloc _).grown hgr (own_block HO.out)); have HO' := Lib.hid hown; rw [← HY1.out] at HO'; clear HX HO hown hgr; have HX := HX'; have HO := HO'; clear HX' HO' hc0 hc1 hc2 hc3 hc4 hc5 hc6; have hw3 : w.heap.size < w3.heap.size := HX.out.2.1; have hc0 : w3.cell? ⟨w.heap.size, 0, none⟩ = some (.int .i8 2) := HX.out.1 0; have hc1 : w3.cell? ⟨w.heap.size, 1, none⟩ = some (.int .i64 t) := HX.out.1 1; have hc2 : w3.cell? ⟨w.heap.size, 2, none⟩ = some (.int .i64 y) := HX.out.1 2; have hc3 : w3.cell? ⟨w.heap.size, 3, none⟩ = some (.int .i64 v) := HX.out.1 3; have hc4 : w3.cell? ⟨w.heap.size, 4, none⟩ = some (.int .i64 p) := HX.out.1 4; have hc5 : w3.cell? ⟨w.heap.size, 5, none⟩ = some (.int .i64 f) := HX.out.1 5; have hc6 : w3.cell? ⟨w.heap.size, 6, none⟩ = some (.int .i64 o) := HX.out.1 6) | (at_builtin; refine wp_push_own bt rfl (.tmp 34) (.tmp 38) rfl (w.heap.size + 1) _ (putL (putL [2] t 3) y 1) rfl (HO.out.alloc _) _ 1 rfl v v.toNat (new_cell _ _ _) HYZ2.out (by omega) (by have := HL2.out; omega) (HX.out.alloc _).2.1 ?_; intro v2 w4 hown hgr; have HX' := Lib.hid ((HX.out.alloc _).grown hgr (own_block HO.out)); have HO' := Lib.hid hown; rw [← HY2.out] at HO'; clear HX HO hown hgr; have HX := HX'; have HO := HO'; clear HX' HO' hc0 hc1 hc2 hc3 hc4 hc5 hc6; have hw4 : w.heap.size < w4.heap.size := HX.out.2.1; have hc0 : w4.cell? ⟨w.heap.size, 0, none⟩ = some (.int .i8 2) := HX.out.1 0; have hc1 : w4.cell? ⟨w.heap.size, 1, none⟩ = some (.int .i64 t) := HX.out.1 1; have hc2 : w4.cell? ⟨w.heap.size, 2, none⟩ = some (.int .i64 y) := HX.out.1 2; have hc3 : w4.cell? ⟨w.heap.size, 3, none⟩ = some (.int .i64 v) := HX.out.1 3; have hc4 : w4.cell? ⟨w.heap.size, 4, none⟩ = some (.int .i64 p) := HX.out.1 4; have hc5 : w4.cell? ⟨w.heap.size, 5, none⟩ = some (.int .i64 f) := HX.out.1 5; have hc6 : w4.cell? ⟨w.heap.size, 6, none⟩ = some (.int .i64 o) := HX.out.1 6))
  go_ret2
  exact ⟨_, rfl, HO.out.mono (Nat.le_succ _), HX.out.2.2⟩
set_option maxHeartbeats 2000000 in
theorem bytesr_3 (r : Rq) (hm : mayB r = true) (hk : r.k = 3) (w : World) : Calls Try.prog 18 #[.agg r.cells] w (PutPostE w (bytesT r [0] 1) 0) := by
  have HM := Lib.hid (mayr_any r)
  rw [hm] at HM
  have hr := bounds_of hm
  obtain ⟨k, t, y, v, p, f, o⟩ := r
  simp only at hk
  subst hk
  obtain ⟨-, ht, hy, hv, hp, hf, ho⟩ := hr
  simp only at ht hy hv hp hf ho
  have HE := Lib.hid (show bytesT ⟨3, t, y, v, p, f, o⟩ [0] 1 = (putL [3] t 3) from rfl)
  have HB0 := Lib.hid (show ∀ w1 : World, Own 5 w1.heap.size (w1.alloc (.cells #[.int .u8 3] 5)) (.slice (some ⟨w1.heap.size, 0, none⟩) 1 1) [3] from fun w1 => own_start ⟨3, t, y, v, p, f, o⟩ w1 (by simp))
  have HRS := Lib.hid (fun w x => RBox.start (r := ⟨3, t, y, v, p, f, o⟩) (w := w) (x := x))
  rw [HE.out]
  clear hm
  unfold Rq.cells at *
  go_enter Try.func18, Try.ntmps18
  go_wp2_with fail
  refine (HM.out _).mono ?_
  rintro e w1 ⟨rfl, hb⟩
  have HX := Lib.hid ((HRS.out _ _ hb).alloc (.cells #[.int .u8 3] 5))
  have HO := Lib.hid ((HB0.out w1).mono (B' := w.heap.size + 1) (by have := (HRS.out _ _ hb).2.1; omega))
  have hw1 : w.heap.size < w1.heap.size := (HRS.out _ _ hb).2.1
  have hc0 : w1.cell? ⟨w.heap.size, 0, none⟩ = some (.int .i8 3) := (HRS.out _ _ hb).1 0
  have hc1 : w1.cell? ⟨w.heap.size, 1, none⟩ = some (.int .i64 t) := (HRS.out _ _ hb).1 1
  have hc2 : w1.cell? ⟨w.heap.size, 2, none⟩ = some (.int .i64 y) := (HRS.out _ _ hb).1 2
  have hc3 : w1.cell? ⟨w.heap.size, 3, none⟩ = some (.int .i64 v) := (HRS.out _ _ hb).1 3
  have hc4 : w1.cell? ⟨w.heap.size, 4, none⟩ = some (.int .i64 p) := (HRS.out _ _ hb).1 4
  have hc5 : w1.cell? ⟨w.heap.size, 5, none⟩ = some (.int .i64 f) := (HRS.out _ _ hb).1 5
  have hc6 : w1.cell? ⟨w.heap.size, 6, none⟩ = some (.int .i64 o) := (HRS.out _ _ hb).1 6
  clear hb
  go_wp2_with (first | (go_at_call 24; refine (ownr_w _ _).mono ?_; rintro e w' ⟨rfl, rfl⟩) | (go_at_call 49; refine (keyr_w _ _).mono ?_; rintro e w' ⟨rfl, rfl⟩))
  have hl0 : ([3] : List Nat).length ≤ 1 := by simp
  have HL0 := Lib.hid hl0
  clear hl0
  refine (putr_any _ t 3 (by omega) [3] _ HO.out.sl (by have := HL0.out; omega)).mono ?_
  rintro e w2 ⟨v0, rfl, hown, hb⟩
  have HX' := Lib.hid (HX.out.later hb HX.out.2.1)
  have HO' := Lib.hid (hown.mono (B' := w.heap.size + 1) HX.out.2.1)
  clear HX HO hown hb
  have HX := HX'
  have HO := HO'
  clear HX' HO' hc0 hc1 hc2 hc3 hc4 hc5 hc6
  have hw2 : w.heap.size < w2.heap.size := HX.out.2.1
  have hc0 : w2.cell? ⟨w.heap.size, 0, none⟩ = some (.int .i8 3) := HX.out.1 0
  have hc1 : w2.cell? ⟨w.heap.size, 1, none⟩ = some (.int .i64 t) := HX.out.1 1
  have hc2 : w2.cell? ⟨w.heap.size, 2, none⟩ = some (.int .i64 y) := HX.out.1 2
  have hc3 : w2.cell? ⟨w.heap.size, 3, none⟩ = some (.int .i64 v) := HX.out.1 3
  have hc4 : w2.cell? ⟨w.heap.size, 4, none⟩ = some (.int .i64 p) := HX.out.1 4
  have hc5 : w2.cell? ⟨w.heap.size, 5, none⟩ = some (.int .i64 f) := HX.out.1 5
  have hc6 : w2.cell? ⟨w.heap.size, 6, none⟩ = some (.int .i64 o) := HX.out.1 6
  go_wp2_with (first | (go_at_call 24; refine (ownr_w _ _).mono ?_; rintro e w' ⟨rfl, rfl⟩) | (go_at_call 49; refine (keyr_w _ _).mono ?_; rintro e w' ⟨rfl, rfl⟩))
  go_ret2
  exact ⟨_, rfl, HO.out.mono (Nat.le_succ _), HX.out.2.2⟩
set_option maxHeartbeats 2000000 in
theorem bytesr_4 (r : Rq) (hm : mayB r = true) (hk : r.k = 4) (w : World) : Calls Try.prog 18 #[.agg r.cells] w (PutPostE w (bytesT r [0] 1) 0) := by
  have HM := Lib.hid (mayr_any r)
  rw [hm] at HM
  have hr := bounds_of hm
  obtain ⟨k, t, y, v, p, f, o⟩ := r
  simp only at hk
  subst hk
  obtain ⟨-, ht, hy, hv, hp, hf, ho⟩ := hr
  simp only at ht hy hv hp hf ho
  have HE := Lib.hid (show bytesT ⟨4, t, y, v, p, f, o⟩ [0] 1 = (putL [4] t 3) from rfl)
  have HB0 := Lib.hid (show ∀ w1 : World, Own 5 w1.heap.size (w1.alloc (.cells #[.int .u8 4] 5)) (.slice (some ⟨w1.heap.size, 0, none⟩) 1 1) [4] from fun w1 => own_start ⟨4, t, y, v, p, f, o⟩ w1 (by simp))
  have HRS := Lib.hid (fun w x => RBox.start (r := ⟨4, t, y, v, p, f, o⟩) (w := w) (x := x))
  rw [HE.out]
  clear hm
  unfold Rq.cells at *
  go_enter Try.func18, Try.ntmps18
  go_wp2_with fail
  refine (HM.out _).mono ?_
  rintro e w1 ⟨rfl, hb⟩
  have HX := Lib.hid ((HRS.out _ _ hb).alloc (.cells #[.int .u8 4] 5))
  have HO := Lib.hid ((HB0.out w1).mono (B' := w.heap.size + 1) (by have := (HRS.out _ _ hb).2.1; omega))
  have hw1 : w.heap.size < w1.heap.size := (HRS.out _ _ hb).2.1
  have hc0 : w1.cell? ⟨w.heap.size, 0, none⟩ = some (.int .i8 4) := (HRS.out _ _ hb).1 0
  have hc1 : w1.cell? ⟨w.heap.size, 1, none⟩ = some (.int .i64 t) := (HRS.out _ _ hb).1 1
  have hc2 : w1.cell? ⟨w.heap.size, 2, none⟩ = some (.int .i64 y) := (HRS.out _ _ hb).1 2
  have hc3 : w1.cell? ⟨w.heap.size, 3, none⟩ = some (.int .i64 v) := (HRS.out _ _ hb).1 3
  have hc4 : w1.cell? ⟨w.heap.size, 4, none⟩ = some (.int .i64 p) := (HRS.out _ _ hb).1 4
  have hc5 : w1.cell? ⟨w.heap.size, 5, none⟩ = some (.int .i64 f) := (HRS.out _ _ hb).1 5
  have hc6 : w1.cell? ⟨w.heap.size, 6, none⟩ = some (.int .i64 o) := (HRS.out _ _ hb).1 6
  clear hb
  go_wp2_with (first | (go_at_call 24; refine (ownr_w _ _).mono ?_; rintro e w' ⟨rfl, rfl⟩) | (go_at_call 49; refine (keyr_w _ _).mono ?_; rintro e w' ⟨rfl, rfl⟩))
  have hl0 : ([4] : List Nat).length ≤ 1 := by simp
  have HL0 := Lib.hid hl0
  clear hl0
  refine (putr_any _ t 3 (by omega) [4] _ HO.out.sl (by have := HL0.out; omega)).mono ?_
  rintro e w2 ⟨v0, rfl, hown, hb⟩
  have HX' := Lib.hid (HX.out.later hb HX.out.2.1)
  have HO' := Lib.hid (hown.mono (B' := w.heap.size + 1) HX.out.2.1)
  clear HX HO hown hb
  have HX := HX'
  have HO := HO'
  clear HX' HO' hc0 hc1 hc2 hc3 hc4 hc5 hc6
  have hw2 : w.heap.size < w2.heap.size := HX.out.2.1
  have hc0 : w2.cell? ⟨w.heap.size, 0, none⟩ = some (.int .i8 4) := HX.out.1 0
  have hc1 : w2.cell? ⟨w.heap.size, 1, none⟩ = some (.int .i64 t) := HX.out.1 1
  have hc2 : w2.cell? ⟨w.heap.size, 2, none⟩ = some (.int .i64 y) := HX.out.1 2
  have hc3 : w2.cell? ⟨w.heap.size, 3, none⟩ = some (.int .i64 v) := HX.out.1 3
  have hc4 : w2.cell? ⟨w.heap.size, 4, none⟩ = some (.int .i64 p) := HX.out.1 4
  have hc5 : w2.cell? ⟨w.heap.size, 5, none⟩ = some (.int .i64 f) := HX.out.1 5
  have hc6 : w2.cell? ⟨w.heap.size, 6, none⟩ = some (.int .i64 o) := HX.out.1 6
  go_wp2_with (first | (go_at_call 24; refine (ownr_w _ _).mono ?_; rintro e w' ⟨rfl, rfl⟩) | (go_at_call 49; refine (keyr_w _ _).mono ?_; rintro e w' ⟨rfl, rfl⟩))
  go_ret2
  exact ⟨_, rfl, HO.out.mono (Nat.le_succ _), HX.out.2.2⟩
set_option maxHeartbeats 2000000 in
theorem bytesr_5 (r : Rq) (hm : mayB r = true) (hk : r.k = 5) (w : World) : Calls Try.prog 18 #[.agg r.cells] w (PutPostE w (bytesT r [3, 4, 5] 3) 0) := by
  have HM := Lib.hid (mayr_any r)
  rw [hm] at HM
  have hr := bounds_of hm
  obtain ⟨k, t, y, v, p, f, o⟩ := r
  simp only at hk
  subst hk
  obtain ⟨-, ht, hy, hv, hp, hf, ho⟩ := hr
  simp only at ht hy hv hp hf ho
  have HE := Lib.hid (show bytesT ⟨5, t, y, v, p, f, o⟩ [3, 4, 5] 3 = (putL (putL (putL [5] p 1) f 6) (o + 1) 6) from rfl)
  have HB0 := Lib.hid (show ∀ w1 : World, Own 5 w1.heap.size (w1.alloc (.cells #[.int .u8 5] 5)) (.slice (some ⟨w1.heap.size, 0, none⟩) 1 1) [5] from fun w1 => own_start ⟨5, t, y, v, p, f, o⟩ w1 (by simp))
  have HRS := Lib.hid (fun w x => RBox.start (r := ⟨5, t, y, v, p, f, o⟩) (w := w) (x := x))
  rw [HE.out]
  clear hm
  unfold Rq.cells at *
  go_enter Try.func18, Try.ntmps18
  go_wp2_with fail
  refine (HM.out _).mono ?_
  rintro e w1 ⟨rfl, hb⟩
  have HX := Lib.hid ((HRS.out _ _ hb).alloc (.cells #[.int .u8 5] 5))
  have HO := Lib.hid ((HB0.out w1).mono (B' := w.heap.size + 1) (by have := (HRS.out _ _ hb).2.1; omega))
  have hw1 : w.heap.size < w1.heap.size := (HRS.out _ _ hb).2.1
  have hc0 : w1.cell? ⟨w.heap.size, 0, none⟩ = some (.int .i8 5) := (HRS.out _ _ hb).1 0
  have hc1 : w1.cell? ⟨w.heap.size, 1, none⟩ = some (.int .i64 t) := (HRS.out _ _ hb).1 1
  have hc2 : w1.cell? ⟨w.heap.size, 2, none⟩ = some (.int .i64 y) := (HRS.out _ _ hb).1 2
  have hc3 : w1.cell? ⟨w.heap.size, 3, none⟩ = some (.int .i64 v) := (HRS.out _ _ hb).1 3
  have hc4 : w1.cell? ⟨w.heap.size, 4, none⟩ = some (.int .i64 p) := (HRS.out _ _ hb).1 4
  have hc5 : w1.cell? ⟨w.heap.size, 5, none⟩ = some (.int .i64 f) := (HRS.out _ _ hb).1 5
  have hc6 : w1.cell? ⟨w.heap.size, 6, none⟩ = some (.int .i64 o) := (HRS.out _ _ hb).1 6
  clear hb
  have hl0 : ([5] : List Nat).length ≤ 1 := by simp
  have HL0 := Lib.hid hl0
  clear hl0
  have hy0 := putL_one [5] p (by omega)
  have HY0 := Lib.hid hy0
  clear hy0
  have hyz0 : (p : Int) = ((p.toNat : Nat) : Int) := by omega
  have HYZ0 := Lib.hid hyz0
  clear hyz0
  go_wp2_with (first | (go_at_call 24; refine (ownr_w _ _).mono ?_; rintro e w' ⟨rfl, rfl⟩) | (go_at_call 49; refine (keyr_w _ _).mono ?_; rintro e w' ⟨rfl, rfl⟩) | (at_builtin; refine wp_push_own bt rfl (.tmp 43) (.tmp 47) rfl (w.heap.size + 1) _ [5] rfl (HO.out.alloc _) _ 1 rfl p p.toNat (by simp) HYZ0.out (by omega) (by have := HL0.out; omega) (HX.out.alloc _).2.1 ?_; intro v0 w2 hown hgr; have HX' := Lib.hid ((HX.out.alloc _).grown hgr (own_block HO.out)); have HO' := Lib.hid hown; rw [← HY0.out] at HO'; clear HX HO hown hgr; have HX := HX'; have HO := HO'; clear HX' HO' hc0 hc1 hc2 hc3 hc4 hc5 hc6; have hw2 : w.heap.size < w2.heap.size := HX.out.2.1; have hc0 : w2.cell? ⟨w.heap.size, 0, none⟩ = some (.int .i8 5) := HX.out.1 0; have hc1 : w2.cell? ⟨w.heap.size, 1, none⟩ = some (.int .i64 t) := HX.out.1 1; have hc2 : w2.cell? ⟨w.heap.size, 2, none⟩ = some (.int .i64 y) := HX.out.1 2; have hc3 : w2.cell? ⟨w.heap.size, 3, none⟩ = some (.int .i64 v) := HX.out.1 3; have hc4 : w2.cell? ⟨w.heap.size, 4, none⟩ = some (.int .i64 p) := HX.out.1 4; have hc5 : w2.cell? ⟨w.heap.size, 5, none⟩ = some (.int .i64 f) := HX.out.1 5; have hc6 : w2.cell? ⟨w.heap.size, 6, none⟩ = some (.int .i64 o) := HX.out.1 6))
  have hl1 : ((putL [5] p 1) : List Nat).length ≤ 7 := Nat.le_trans (putL_length _ _ _) (Nat.add_le_add_right HL0.out 6)
  have HL1 := Lib.hid hl1
  clear hl1
  refine (putr_any _ f 6 (by omega) (putL [5] p 1) _ HO.out.sl (by have := HL1.out; omega)).mono ?_
  rintro e w3 ⟨v1, rfl, hown, hb⟩
  have HX' := Lib.hid (HX.out.later hb HX.out.2.1)
  have HO' := Lib.hid (hown.mono (B' := w.heap.size + 1) HX.out.2.1)
  clear HX HO hown hb
  have HX := HX'
  have HO := HO'
  clear HX' HO' hc0 hc1 hc2 hc3 hc4 hc5 hc6
  have hw3 : w.heap.size < w3.heap.size := HX.out.2.1
  have hc0 : w3.cell? ⟨w.heap.size, 0, none⟩ = some (.int .i8 5) := HX.out.1 0
  have hc1 : w3.cell? ⟨w.heap.size, 1, none⟩ = some (.int .i64 t) := HX.out.1 1
  have hc2 : w3.cell? ⟨w.heap.size, 2, none⟩ = some (.int .i64 y) := HX.out.1 2
  have hc3 : w3.cell? ⟨w.heap.size, 3, none⟩ = some (.int .i64 v) := HX.out.1 3
  have hc4 : w3.cell? ⟨w.heap.size, 4, none⟩ = some (.int .i64 p) := HX.out.1 4
  have hc5 : w3.cell? ⟨w.heap.size, 5, none⟩ = some (.int .i64 f) := HX.out.1 5
  have hc6 : w3.cell? ⟨w.heap.size, 6, none⟩ = some (.int .i64 o) := HX.out.1 6
  go_wp2_with (first | (go_at_call 24; refine (ownr_w _ _).mono ?_; rintro e w' ⟨rfl, rfl⟩) | (go_at_call 49; refine (keyr_w _ _).mono ?_; rintro e w' ⟨rfl, rfl⟩))
  have hl2 : ((putL (putL [5] p 1) f 6) : List Nat).length ≤ 13 := Nat.le_trans (putL_length _ _ _) (Nat.add_le_add_right HL1.out 6)
  have HL2 := Lib.hid hl2
  clear hl2
  refine (putr_any _ (o + 1) 6 (by omega) (putL (putL [5] p 1) f 6) _ HO.out.sl (by have := HL2.out; omega)).mono ?_
  rintro e w4 ⟨v2, rfl, hown, hb⟩
  have HX' := Lib.hid (HX.out.later hb HX.out.2.1)
  have HO' := Lib.hid (hown.mono (B' := w.heap.size + 1) HX.out.2.1)
  clear HX HO hown hb
  have HX := HX'
  have HO := HO'
  clear HX' HO' hc0 hc1 hc2 hc3 hc4 hc5 hc6
  have hw4 : w.heap.size < w4.heap.size := HX.out.2.1
  have hc0 : w4.cell? ⟨w.heap.size, 0, none⟩ = some (.int .i8 5) := HX.out.1 0
  have hc1 : w4.cell? ⟨w.heap.size, 1, none⟩ = some (.int .i64 t) := HX.out.1 1
  have hc2 : w4.cell? ⟨w.heap.size, 2, none⟩ = some (.int .i64 y) := HX.out.1 2
  have hc3 : w4.cell? ⟨w.heap.size, 3, none⟩ = some (.int .i64 v) := HX.out.1 3
  have hc4 : w4.cell? ⟨w.heap.size, 4, none⟩ = some (.int .i64 p) := HX.out.1 4
  have hc5 : w4.cell? ⟨w.heap.size, 5, none⟩ = some (.int .i64 f) := HX.out.1 5
  have hc6 : w4.cell? ⟨w.heap.size, 6, none⟩ = some (.int .i64 o) := HX.out.1 6
  go_wp2_with (first | (go_at_call 24; refine (ownr_w _ _).mono ?_; rintro e w' ⟨rfl, rfl⟩) | (go_at_call 49; refine (keyr_w _ _).mono ?_; rintro e w' ⟨rfl, rfl⟩))
  go_ret2
  exact ⟨_, rfl, HO.out.mono (Nat.le_succ _), HX.out.2.2⟩
set_option maxHeartbeats 2000000 in
theorem bytesr_6 (r : Rq) (hm : mayB r = true) (hk : r.k = 6) (w : World) : Calls Try.prog 18 #[.agg r.cells] w (PutPostE w (bytesT r [1] 1) 0) := by
  have HM := Lib.hid (mayr_any r)
  rw [hm] at HM
  have hr := bounds_of hm
  obtain ⟨k, t, y, v, p, f, o⟩ := r
  simp only at hk
  subst hk
  obtain ⟨-, ht, hy, hv, hp, hf, ho⟩ := hr
  simp only at ht hy hv hp hf ho
  have HE := Lib.hid (show bytesT ⟨6, t, y, v, p, f, o⟩ [1] 1 = (putL [6] y 1) from rfl)
  have HB0 := Lib.hid (show ∀ w1 : World, Own 5 w1.heap.size (w1.alloc (.cells #[.int .u8 6] 5)) (.slice (some ⟨w1.heap.size, 0, none⟩) 1 1) [6] from fun w1 => own_start ⟨6, t, y, v, p, f, o⟩ w1 (by simp))
  have HRS := Lib.hid (fun w x => RBox.start (r := ⟨6, t, y, v, p, f, o⟩) (w := w) (x := x))
  rw [HE.out]
  clear hm
  unfold Rq.cells at *
  go_enter Try.func18, Try.ntmps18
  go_wp2_with fail
  refine (HM.out _).mono ?_
  rintro e w1 ⟨rfl, hb⟩
  have HX := Lib.hid ((HRS.out _ _ hb).alloc (.cells #[.int .u8 6] 5))
  have HO := Lib.hid ((HB0.out w1).mono (B' := w.heap.size + 1) (by have := (HRS.out _ _ hb).2.1; omega))
  have hw1 : w.heap.size < w1.heap.size := (HRS.out _ _ hb).2.1
  have hc0 : w1.cell? ⟨w.heap.size, 0, none⟩ = some (.int .i8 6) := (HRS.out _ _ hb).1 0
  have hc1 : w1.cell? ⟨w.heap.size, 1, none⟩ = some (.int .i64 t) := (HRS.out _ _ hb).1 1
  have hc2 : w1.cell? ⟨w.heap.size, 2, none⟩ = some (.int .i64 y) := (HRS.out _ _ hb).1 2
  have hc3 : w1.cell? ⟨w.heap.size, 3, none⟩ = some (.int .i64 v) := (HRS.out _ _ hb).1 3
  have hc4 : w1.cell? ⟨w.heap.size, 4, none⟩ = some (.int .i64 p) := (HRS.out _ _ hb).1 4
  have hc5 : w1.cell? ⟨w.heap.size, 5, none⟩ = some (.int .i64 f) := (HRS.out _ _ hb).1 5
  have hc6 : w1.cell? ⟨w.heap.size, 6, none⟩ = some (.int .i64 o) := (HRS.out _ _ hb).1 6
  clear hb
  have hl0 : ([6] : List Nat).length ≤ 1 := by simp
  have HL0 := Lib.hid hl0
  clear hl0
  have hy0 := putL_one [6] y (by omega)
  have HY0 := Lib.hid hy0
  clear hy0
  have hyz0 : (y : Int) = ((y.toNat : Nat) : Int) := by omega
  have HYZ0 := Lib.hid hyz0
  clear hyz0
  go_wp2_with (first | (go_at_call 24; refine (ownr_w _ _).mono ?_; rintro e w' ⟨rfl, rfl⟩) | (go_at_call 49; refine (keyr_w _ _).mono ?_; rintro e w' ⟨rfl, rfl⟩) | (at_builtin; refine wp_push_own bt rfl (.tmp 25) (.tmp 29) rfl (w.heap.size + 1) _ [6] rfl (HO.out.alloc _) _ 1 rfl y y.toNat (by simp) HYZ0.out (by omega) (by have := HL0.out; omega) (HX.out.alloc _).2.1 ?_; intro v0 w2 hown hgr; have HX' := Lib.hid ((HX.out.alloc _).grown hgr (own_block HO.out)); have HO' := Lib.hid hown; rw [← HY0.out] at HO'; clear HX HO hown hgr; have HX := HX'; have HO := HO'; clear HX' HO' hc0 hc1 hc2 hc3 hc4 hc5 hc6; have hw2 : w.heap.size < w2.heap.size := HX.out.2.1; have hc0 : w2.cell? ⟨w.heap.size, 0, none⟩ = some (.int .i8 6) := HX.out.1 0; have hc1 : w2.cell? ⟨w.heap.size, 1, none⟩ = some (.int .i64 t) := HX.out.1 1; have hc2 : w2.cell? ⟨w.heap.size, 2, none⟩ = some (.int .i64 y) := HX.out.1 2; have hc3 : w2.cell? ⟨w.heap.size, 3, none⟩ = some (.int .i64 v) := HX.out.1 3; have hc4 : w2.cell? ⟨w.heap.size, 4, none⟩ = some (.int .i64 p) := HX.out.1 4; have hc5 : w2.cell? ⟨w.heap.size, 5, none⟩ = some (.int .i64 f) := HX.out.1 5; have hc6 : w2.cell? ⟨w.heap.size, 6, none⟩ = some (.int .i64 o) := HX.out.1 6))
  go_ret2
  exact ⟨_, rfl, HO.out.mono (Nat.le_succ _), HX.out.2.2⟩
set_option maxHeartbeats 2000000 in
theorem bytesr_7 (r : Rq) (hm : mayB r = true) (hk : r.k = 7) (w : World) : Calls Try.prog 18 #[.agg r.cells] w (PutPostE w (bytesT r [] 0) 0) := by
  have HM := Lib.hid (mayr_any r)
  rw [hm] at HM
  have hr := bounds_of hm
  obtain ⟨k, t, y, v, p, f, o⟩ := r
  simp only at hk
  subst hk
  obtain ⟨-, ht, hy, hv, hp, hf, ho⟩ := hr
  simp only at ht hy hv hp hf ho
  have HE := Lib.hid (show bytesT ⟨7, t, y, v, p, f, o⟩ [] 0 = [7] from rfl)
  have HB0 := Lib.hid (show ∀ w1 : World, Own 5 w1.heap.size (w1.alloc (.cells #[.int .u8 7] 5)) (.slice (some ⟨w1.heap.size, 0, none⟩) 1 1) [7] from fun w1 => own_start ⟨7, t, y, v, p, f, o⟩ w1 (by simp))
  have HRS := Lib.hid (fun w x => RBox.start (r := ⟨7, t, y, v, p, f, o⟩) (w := w) (x := x))
  rw [HE.out]
  clear hm
  unfold Rq.cells at *
  go_enter Try.func18, Try.ntmps18
  go_wp2_with fail
  refine (HM.out _).mono ?_
  rintro e w1 ⟨rfl, hb⟩
  have HX := Lib.hid ((HRS.out _ _ hb).alloc (.cells #[.int .u8 7] 5))
  have HO := Lib.hid ((HB0.out w1).mono (B' := w.heap.size + 1) (by have := (HRS.out _ _ hb).2.1; omega))
  have hw1 : w.heap.size < w1.heap.size := (HRS.out _ _ hb).2.1
  have hc0 : w1.cell? ⟨w.heap.size, 0, none⟩ = some (.int .i8 7) := (HRS.out _ _ hb).1 0
  have hc1 : w1.cell? ⟨w.heap.size, 1, none⟩ = some (.int .i64 t) := (HRS.out _ _ hb).1 1
  have hc2 : w1.cell? ⟨w.heap.size, 2, none⟩ = some (.int .i64 y) := (HRS.out _ _ hb).1 2
  have hc3 : w1.cell? ⟨w.heap.size, 3, none⟩ = some (.int .i64 v) := (HRS.out _ _ hb).1 3
  have hc4 : w1.cell? ⟨w.heap.size, 4, none⟩ = some (.int .i64 p) := (HRS.out _ _ hb).1 4
  have hc5 : w1.cell? ⟨w.heap.size, 5, none⟩ = some (.int .i64 f) := (HRS.out _ _ hb).1 5
  have hc6 : w1.cell? ⟨w.heap.size, 6, none⟩ = some (.int .i64 o) := (HRS.out _ _ hb).1 6
  clear hb
  go_wp2_with (first | (go_at_call 24; refine (ownr_w _ _).mono ?_; rintro e w' ⟨rfl, rfl⟩) | (go_at_call 49; refine (keyr_w _ _).mono ?_; rintro e w' ⟨rfl, rfl⟩))
  go_ret2
  exact ⟨_, rfl, HO.out.mono (Nat.le_succ _), HX.out.2.2⟩
set_option maxHeartbeats 2000000 in
theorem bytesr_8 (r : Rq) (hm : mayB r = true) (hk : r.k = 8) (w : World) : Calls Try.prog 18 #[.agg r.cells] w (PutPostE w (bytesT r [] 0) 0) := by
  have HM := Lib.hid (mayr_any r)
  rw [hm] at HM
  have hr := bounds_of hm
  obtain ⟨k, t, y, v, p, f, o⟩ := r
  simp only at hk
  subst hk
  obtain ⟨-, ht, hy, hv, hp, hf, ho⟩ := hr
  simp only at ht hy hv hp hf ho
  have HE := Lib.hid (show bytesT ⟨8, t, y, v, p, f, o⟩ [] 0 = [8] from rfl)
  have HB0 := Lib.hid (show ∀ w1 : World, Own 5 w1.heap.size (w1.alloc (.cells #[.int .u8 8] 5)) (.slice (some ⟨w1.heap.size, 0, none⟩) 1 1) [8] from fun w1 => own_start ⟨8, t, y, v, p, f, o⟩ w1 (by simp))
  have HRS := Lib.hid (fun w x => RBox.start (r := ⟨8, t, y, v, p, f, o⟩) (w := w) (x := x))
  rw [HE.out]
  clear hm
  unfold Rq.cells at *
  go_enter Try.func18, Try.ntmps18
  go_wp2_with fail
  refine (HM.out _).mono ?_
  rintro e w1 ⟨rfl, hb⟩
  have HX := Lib.hid ((HRS.out _ _ hb).alloc (.cells #[.int .u8 8] 5))
  have HO := Lib.hid ((HB0.out w1).mono (B' := w.heap.size + 1) (by have := (HRS.out _ _ hb).2.1; omega))
  have hw1 : w.heap.size < w1.heap.size := (HRS.out _ _ hb).2.1
  have hc0 : w1.cell? ⟨w.heap.size, 0, none⟩ = some (.int .i8 8) := (HRS.out _ _ hb).1 0
  have hc1 : w1.cell? ⟨w.heap.size, 1, none⟩ = some (.int .i64 t) := (HRS.out _ _ hb).1 1
  have hc2 : w1.cell? ⟨w.heap.size, 2, none⟩ = some (.int .i64 y) := (HRS.out _ _ hb).1 2
  have hc3 : w1.cell? ⟨w.heap.size, 3, none⟩ = some (.int .i64 v) := (HRS.out _ _ hb).1 3
  have hc4 : w1.cell? ⟨w.heap.size, 4, none⟩ = some (.int .i64 p) := (HRS.out _ _ hb).1 4
  have hc5 : w1.cell? ⟨w.heap.size, 5, none⟩ = some (.int .i64 f) := (HRS.out _ _ hb).1 5
  have hc6 : w1.cell? ⟨w.heap.size, 6, none⟩ = some (.int .i64 o) := (HRS.out _ _ hb).1 6
  clear hb
  go_wp2_with (first | (go_at_call 24; refine (ownr_w _ _).mono ?_; rintro e w' ⟨rfl, rfl⟩) | (go_at_call 49; refine (keyr_w _ _).mono ?_; rintro e w' ⟨rfl, rfl⟩))
  go_ret2
  exact ⟨_, rfl, HO.out.mono (Nat.le_succ _), HX.out.2.2⟩
set_option maxHeartbeats 2000000 in
theorem bytesr_9 (r : Rq) (hm : mayB r = true) (hk : r.k = 9) (w : World) : Calls Try.prog 18 #[.agg r.cells] w (PutPostE w (bytesT r [] 0) 0) := by
  have HM := Lib.hid (mayr_any r)
  rw [hm] at HM
  have hr := bounds_of hm
  obtain ⟨k, t, y, v, p, f, o⟩ := r
  simp only at hk
  subst hk
  obtain ⟨-, ht, hy, hv, hp, hf, ho⟩ := hr
  simp only at ht hy hv hp hf ho
  have HE := Lib.hid (show bytesT ⟨9, t, y, v, p, f, o⟩ [] 0 = [9] from rfl)
  have HB0 := Lib.hid (show ∀ w1 : World, Own 5 w1.heap.size (w1.alloc (.cells #[.int .u8 9] 5)) (.slice (some ⟨w1.heap.size, 0, none⟩) 1 1) [9] from fun w1 => own_start ⟨9, t, y, v, p, f, o⟩ w1 (by simp))
  have HRS := Lib.hid (fun w x => RBox.start (r := ⟨9, t, y, v, p, f, o⟩) (w := w) (x := x))
  rw [HE.out]
  clear hm
  unfold Rq.cells at *
  go_enter Try.func18, Try.ntmps18
  go_wp2_with fail
  refine (HM.out _).mono ?_
  rintro e w1 ⟨rfl, hb⟩
  have HX := Lib.hid ((HRS.out _ _ hb).alloc (.cells #[.int .u8 9] 5))
  have HO := Lib.hid ((HB0.out w1).mono (B' := w.heap.size + 1) (by have := (HRS.out _ _ hb).2.1; omega))
  have hw1 : w.heap.size < w1.heap.size := (HRS.out _ _ hb).2.1
  have hc0 : w1.cell? ⟨w.heap.size, 0, none⟩ = some (.int .i8 9) := (HRS.out _ _ hb).1 0
  have hc1 : w1.cell? ⟨w.heap.size, 1, none⟩ = some (.int .i64 t) := (HRS.out _ _ hb).1 1
  have hc2 : w1.cell? ⟨w.heap.size, 2, none⟩ = some (.int .i64 y) := (HRS.out _ _ hb).1 2
  have hc3 : w1.cell? ⟨w.heap.size, 3, none⟩ = some (.int .i64 v) := (HRS.out _ _ hb).1 3
  have hc4 : w1.cell? ⟨w.heap.size, 4, none⟩ = some (.int .i64 p) := (HRS.out _ _ hb).1 4
  have hc5 : w1.cell? ⟨w.heap.size, 5, none⟩ = some (.int .i64 f) := (HRS.out _ _ hb).1 5
  have hc6 : w1.cell? ⟨w.heap.size, 6, none⟩ = some (.int .i64 o) := (HRS.out _ _ hb).1 6
  clear hb
  go_wp2_with (first | (go_at_call 24; refine (ownr_w _ _).mono ?_; rintro e w' ⟨rfl, rfl⟩) | (go_at_call 49; refine (keyr_w _ _).mono ?_; rintro e w' ⟨rfl, rfl⟩))
  go_ret2
  exact ⟨_, rfl, HO.out.mono (Nat.le_succ _), HX.out.2.2⟩
end Go.Proofs.Ytcffabfaefbjcaa
