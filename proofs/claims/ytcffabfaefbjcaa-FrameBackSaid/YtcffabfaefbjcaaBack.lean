/-
  A row of bytes that a text was turned into; bursts; what is left out or put behind a frame (chapter 04).
-/
import Derived.Test.YtcffabfaefbjcaaOf
namespace Go.Proofs.Ytcffabfaefbjcaa
set_option linter.unusedVariables false
open Go.RowKit Crc
theorem burst_and {D j : Nat} (hD : D < 4294967296) : bits BinOp.and IntKind.u32 ((D : Int) / 2 ^ j) 1 = ((D / 2 ^ j % 2 : Nat) : Int) := by
  have h := u32_and_nat (D / 2 ^ j) 1 (Nat.lt_of_le_of_lt (Nat.div_le_self _ _) hD) (by omega)
  rw [nat_mask1] at h
  rw [← h]
  simp
theorem burst_test {D j : Nat} (hD : D < 4294967296) (h : D / 2 ^ j % 2 = 1) : (bits BinOp.and IntKind.u32 ((D : Int) / 2 ^ j) 1 == 1) = true := by
  rw [burst_and hD, h]; rfl
theorem burst_test0 {D j : Nat} (hD : D < 4294967296) (h : D / 2 ^ j % 2 = 0) : (bits BinOp.and IntKind.u32 ((D : Int) / 2 ^ j) 1 == 1) = false := by
  rw [burst_and hD, h]; rfl
theorem burst_even {D j : Nat} (h : D / 2 ^ j % 2 = 0) : D % 2 ^ (j + 1) = D % 2 ^ j := by
  rw [burst_bit, h, Nat.mul_zero, Nat.xor_zero]
theorem burst_at (a : Int) (M : Int) (h0 : 0 < M) (hM : M < 1000000) : ∃ p : Nat, (wrap64 (a.tmod M + M)).tmod M = (p : Int) ∧ (p : Int) < M := by
  have h1 := Int.tmod_lt_of_pos a h0
  have h2 := Int.lt_tmod_of_pos a h0
  rw [IntWalk.wrap64_in _ ⟨by omega, by omega⟩, Int.tmod_eq_emod_of_nonneg (by omega)]
  have h3 := Int.emod_nonneg (a.tmod M + M) (b := M) (by omega)
  have h4 := Int.emod_lt_of_pos (a.tmod M + M) h0
  obtain ⟨p, hp⟩ := Int.eq_ofNat_of_zero_le h3
  exact ⟨p, hp, by omega⟩
/-- a row of bytes at the head of block g, whatever mark it bears behind them -/
def RowB (w : World) (g n : Nat) (l : List Nat) : Prop := IsBytes l ∧ l.length = n ∧ ∃ cur mk, w.heap[g]? = some (.cells cur 5 mk) ∧ n ≤ mk.1 ∧ n ≤ cur.size ∧ ∀ j, j < n → cur[j]? = some (bv (l.getD j 0))
theorem RowB.cell {w : World} {g n : Nat} {l : List Nat} (h : RowB w g n l) (j : Nat) (hj : j < n) : w.cell? ⟨g, j, none⟩ = some (.int .u8 ((l.getD j 0 : Nat) : Int)) := by
  obtain ⟨_, _, cur, mk, hg, _, _, hc⟩ := h
  simp [World.cell?, hg, hc j hj, bv]
theorem RowB.free {w : World} {g n : Nat} {l : List Nat} (h : RowB w g n l) (j : Nat) (hj : j < n) : w.frozen? ⟨g, j, none⟩ = false := by
  obtain ⟨_, _, cur, mk, hg, hm, _, _⟩ := h
  simp [World.frozen?, hg]
  omega
theorem RowB.set {w : World} {g n : Nat} {l : List Nat} (h : RowB w g n l) (j y : Nat) (hj : j < n) (hy : y < 256) : RowB (w.setCell ⟨g, j, none⟩ (.int .u8 (y : Int))) g n (l.set j y) := by
  obtain ⟨h0, h1, cur, mk, hg, hm, hn, hc⟩ := h
  refine ⟨?_, by rw [List.length_set]; exact h1, cur.setIfInBounds j (.int .u8 (y : Int)), mk, ?_, hm, by simpa using hn, ?_⟩
  · intro x hx
    rcases List.mem_or_eq_of_mem_set hx with h2 | rfl
    · exact h0 x h2
    · exact hy
  · simp [World.setCell, hg, Array.getElem?_modify]
  · intro i hi
    rw [Array.getElem?_setIfInBounds]
    by_cases he : j = i
    · subst he
      rw [if_pos rfl, if_pos (by omega)]
      simp [bv, List.getD, show j < l.length by omega]
    · rw [if_neg he, hc i hi]
      simp [List.getD, he]
theorem RowB.drew {w : World} {g n : Nat} {l : List Nat} (h : RowB w g n l) : RowB w.drew g n l := h
theorem RowB.sl {w : World} {g n cap : Nat} {l : List Nat} (h : RowB w g n l) (h1 : n ≤ cap) (h2 : cap ≤ 9223372036854775807) : Sl w (.slice (some ⟨g, 0, none⟩) n cap) l := by
  have hc := h.cell
  obtain ⟨h0, hl, _⟩ := h
  subst hl
  exact ⟨h0, _, cap, rfl, h1, by unfold maxLen; omega, fun e => (by cases e), .inr ⟨g, 0, rfl, fun i hi => by rw [Nat.zero_add]; exact hc i hi⟩⟩
theorem RowB.conv (w : World) (l : List Nat) (hl : IsBytes l) (n : Nat) (hn : l.length = n) : RowB (Lib.bytesWorld w 5 (strOf l)) w.heap.size n l := by
  subst hn
  have hs : (Lib.bytesCells w 5 (strOf l)).size = l.length + (grownCap w l.length 0 5 - l.length) := by
    unfold Lib.bytesCells
    rw [strOf_size]
    simp [strOf]
  refine ⟨hl, rfl, _, _, Lib.bytesWorld_at_new w 5 (strOf l), by rw [hs]; omega, by rw [hs]; omega, fun j hj => ?_⟩
  have hx2 : l[j] < 256 := by have := hl.getD j; simpa [List.getD, List.getElem?_eq_getElem hj] using this
  simp [Lib.bytesCells, Array.getElem?_append, strOf, hj, bv, List.getD]
  omega
def BackRel (w wr : World) (g n V : Nat) : Prop := Below w.heap.size w wr ∧ ∃ l', RowB wr g n l' ∧ val l' = V
theorem back_round {w wr : World} {g N V p D j q r x : Nat} {l' : List Nat} (hb : Below w.heap.size w wr) (ho : RowB wr g N l') (hv : val l' = V ^^^ 2 ^ p * (D % 2 ^ j)) (hx : l'.getD q 0 = x) (hqr : p + j = 8 * q + r) (hr : r < 8) (hq : q < N) (hg : w.heap.size ≤ g) (hbt : D / 2 ^ j % 2 = 1) :
    BackRel w ((wr.setCell ⟨g, q, none⟩ (.int .u8 (bits BinOp.xor IntKind.u8 (x : Int) (2 ^ r % 256)))).drew) g N (V ^^^ 2 ^ p * (D % 2 ^ (j + 1))) := by
  have hx2 : x < 256 := by rw [← hx]; exact ho.1.getD q
  have hr2 : 2 ^ r < 256 := Nat.lt_of_lt_of_le (Nat.pow_lt_pow_right (by omega) hr) (by decide)
  have hy : bits BinOp.xor IntKind.u8 (x : Int) (2 ^ r % 256) = ((x ^^^ 2 ^ r : Nat) : Int) := by
    rw [← u8_xor_nat x (2 ^ r) hx2 hr2]
    have h3 : ((2 : Int) ^ r) = ((2 ^ r : Nat) : Int) := by simp
    have h4 : ((2 ^ r : Nat) : Int) % 256 = ((2 ^ r : Nat) : Int) := by
      generalize 2 ^ r = z at hr2
      omega
    rw [h3, h4]
  have hy2 : x ^^^ 2 ^ r < 256 := Nat.xor_lt_two_pow (n := 8) hx2 hr2
  have hb2 := hb.setCell (p := (⟨g, q, none⟩ : Addr)) hg (.int .u8 ((x ^^^ 2 ^ r : Nat) : Int))
  rw [hy]
  refine ⟨below_drewN hb2 1, l'.set q (x ^^^ 2 ^ r), (ho.set q _ hq hy2).drew, ?_⟩
  rw [← hx, val_set l' q (2 ^ r) (by rw [ho.2.1]; exact hq), hv, burst_bit D j, hbt, Nat.mul_one, two_pow_mul_xor, ← Nat.pow_add, ← Nat.pow_add, ← hqr, Nat.xor_assoc]
theorem opn_take {t : List Nat} (h : (opn t).2 = 0) : t = sealed (t.take (t.length - 4)) := by
  unfold opn at h
  split at h
  · assumption
  · cases h
/-! what is left out or put behind -/
theorem rd_len (t : List Nat) (h : rdOk t) : t.length = num ((t.drop 6).take 2) + 12 := by
  obtain ⟨h0, h8, h2, _⟩ := h
  have hs := opn_zero h0
  have hl := congrArg List.length hs
  rw [sealed_length] at hl
  have e : ((opn t).1.drop 6).take 2 = (t.drop 6).take 2 := by
    conv => rhs; rw [hs]
    unfold sealed
    rw [List.drop_append_of_le_length (by omega), List.take_append_of_le_length (by rw [List.length_drop]; omega)]
  rw [e] at h2
  omega
theorem frm_head (n : Nat) (l x : List Nat) (k : Nat) (hk : 12 ≤ k) (h6 : l.length ≤ 600) : (((frm n l ++ x).take k).drop 6).take 2 = le 2 l.length := by
  have e : frm n l ++ x = le 6 n ++ (le 2 l.length ++ (l ++ le 4 (sumOf (body n l)) ++ x)) := by
    unfold frm sealed
    rw [show body n l ++ le 4 (sumOf (body n l)) = le 6 n ++ le 2 l.length ++ l ++ le 4 (sumOf (body n l)) from rfl]
    simp only [List.append_assoc]
  rw [e, List.take_append, List.take_of_length_le (l := le 6 n) (i := k) (by rw [le_length]; omega), List.drop_left' (le_length _ _), le_length, List.take_take, show min 2 (k - 6) = 2 by omega, List.take_left' (le_length _ _)]
theorem frm_less (n : Nat) (l : List Nat) (h6 : l.length ≤ 600) : ¬ rdOk ((frm n l).take (l.length + 11)) := by
  intro h
  have h1 := rd_len _ h
  have hl : ((frm n l).take (l.length + 11)).length = l.length + 11 := by rw [List.length_take, frm_length]; omega
  by_cases h0 : l.length = 0
  · rw [hl] at h1; omega
  · have h2 := frm_head n l [] (l.length + 11) (by omega) h6
    rw [List.append_nil] at h2
    rw [h2, hl, num_le 2 _ (by omega)] at h1
    omega
theorem frm_more (n : Nat) (l : List Nat) (h6 : l.length ≤ 600) : ¬ rdOk (frm n l ++ [0]) := by
  intro h
  have h1 := rd_len _ h
  have hl : (frm n l ++ [0]).length = l.length + 13 := by rw [List.length_append, frm_length]; rfl
  have h2 := frm_head n l [0] (l.length + 13) (by omega) h6
  rw [List.take_of_length_le (l := frm n l ++ [0]) (i := l.length + 13) (by omega)] at h2
  rw [h2, hl, num_le 2 _ (by omega)] at h1
  omega
/-- a burst is told -/
theorem frm_burst {n N p D j : Nat} {l t : List Nat} (hl : IsBytes l) (h1 : 1 ≤ n) (h2 : n ≤ 1048575) (h6 : l.length ≤ 600) (ht : IsBytes t) (hlt : t.length = N) (hN : (frm n l).length = N) (hv : val t = val (frm n l) ^^^ 2 ^ p * (D % 2 ^ j)) (hj : j ≤ 32) (hp : p ≤ 8 * N) : rdOk t ↔ t = frm n l := by
  have hD : D % 2 ^ j < 2 ^ 32 := Nat.lt_of_lt_of_le (Nat.mod_lt _ (Nat.two_pow_pos j)) (Nat.pow_le_pow_right (by omega) hj)
  have hb := body_bytes n hl
  have h := burst_told (body n l) t hb ht (by rw [hlt, ← hN]; rfl) (D % 2 ^ j) p hD (by rw [hlt]; exact hp) hv
  constructor
  · intro hr
    have ho : Opens t := ⟨by have := rd_len t hr; omega, opn_take hr.1⟩
    have h0 := h.1 ho
    rw [h0, Nat.mul_zero, Nat.xor_zero] at hv
    exact val_inj ht (frm_bytes n hl) (by rw [hlt, hN]) hv
  · rintro rfl
    exact (rd_of_frm n l hl h1 h2 h6).1
end Go.Proofs.Ytcffabfaefbjcaa
