/-
  Plain laws of reading a request: program and reference tell the same (chapter 08).
-/
import Derived.Test.YtcffabfaefbjcaaReadW
import Derived.Test.YtcffabfaefbjcaaReqPlain
namespace Go.Proofs.Ytcffabfaefbjcaa
set_option linter.unusedVariables false
open Go.RowKit
theorem getE_fits {n : Nat} {a k : Int} (ha : 0 ≤ a) (hk : 1 ≤ k ∧ k ≤ 6) (h : a + k ≤ n) : getE n a k = 0 := by
  unfold getE
  rw [if_neg (by omega), if_neg (by omega)]
theorem getE_short {n : Nat} {a k : Int} (ha : 0 ≤ a) (hk : 1 ≤ k ∧ k ≤ 6) (h : n < a + k) : ¬ getE n a k = 0 := by
  unfold getE
  rw [if_neg (by omega), if_pos (by omega)]
  omega
theorem getV_byte {l : List Nat} (i : Nat) (h : i + 1 ≤ l.length) : getV l i 1 = ((l.getD i 0 : Nat) : Int) := by
  unfold getV
  rw [if_pos (getE_fits (by omega) (by omega) (by omega))]
  have e : (l.drop (i : Int).toNat).take (1 : Int).toNat = [l.getD i 0] := by
    rw [Int.toNat_natCast, show (1 : Int).toNat = 1 from rfl, List.drop_eq_getElem_cons (show i < l.length by omega)]
    show [l[i]] = [l.getD i 0]
    rw [List.getD, List.getElem?_eq_getElem (show i < l.length by omega)]
    rfl
  rw [e]
  simp [num]
theorem getV_range {l : List Nat} (h : IsBytes l) (a wd' : Int) (hw : wd' ≤ 6) : 0 ≤ getV l a wd' ∧ getV l a wd' < 281474976710656 := by
  unfold getV
  split
  · have h1 := num_lt ((l.drop a.toNat).take wd'.toNat) ((h.drop _).take _)
    have h2 : ((l.drop a.toNat).take wd'.toNat).length ≤ 6 := by rw [List.length_take]; omega
    have h3 : (256 : Nat) ^ ((l.drop a.toNat).take wd'.toNat).length ≤ 256 ^ 6 := Nat.pow_le_pow_right (by omega) h2
    have h4 : (256 : Nat) ^ 6 = 281474976710656 := by decide
    omega
  · omega
/-- the reference's request -/
def rfParse (l : List Nat) (k : Int) : Rq :=
  if k = 1 then ⟨1, getV l 1 3, (l.getD 4 0 : Nat), 0, 0, 0, 0⟩
  else if k = 2 then ⟨2, getV l 1 3, (l.getD 4 0 : Nat), (l.getD 5 0 : Nat), 0, 0, 0⟩
  else if k = 3 then ⟨3, getV l 1 3, 0, 0, 0, 0, 0⟩
  else if k = 4 then ⟨4, getV l 1 3, 0, 0, 0, 0, 0⟩
  else if k = 5 then ⟨5, 0, 0, 0, (l.getD 1 0 : Nat), getV l 2 6, getV l 8 6 - 1⟩
  else if k = 6 then ⟨6, 0, (l.getD 1 0 : Nat), 0, 0, 0, 0⟩
  else ⟨k, 0, 0, 0, 0, 0, 0⟩
def rfEnd (q : Rq) : Rq × Int := if 24 ≤ q.y then (zrq, 240) else if rightB q then (q, 0) else (zrq, 50)
def rfQ (l : List Nat) : Rq × Int := if l.length = 0 ∨ 9 < l.getD 0 0 ∨ sizeE (l.getD 0 0 : Nat) ≠ l.length then (zrq, 50) else rfEnd (rfParse l (l.getD 0 0 : Nat))
theorem rightB_iff (r : Rq) : rightB r = true ↔ rightP r := by unfold rightB; exact decide_eq_true_iff
theorem end_eq (l : List Nat) (q : Rq) (a : Int) (ha : a = l.length) (hw : wrongE q = if 24 ≤ q.y then 240 else if rightB q then 0 else 50) : rdEnd l (some (q, a)) = rfEnd q := by
  simp only [rdEnd, rfEnd]
  rw [if_neg (by omega), hw]
  by_cases h : 24 ≤ q.y
  · rw [if_pos h, if_pos h, if_neg (by omega)]
  · rw [if_neg h, if_neg h]
    cases hr : rightB q
    · simp
    · simp
theorem wrong_0   : wrongE ⟨0, 0, 0, 0, 0, 0, 0⟩ = if 24 ≤ Rq.y ⟨0, 0, 0, 0, 0, 0, 0⟩ then 240 else if rightB ⟨0, 0, 0, 0, 0, 0, 0⟩ then 0 else 50 := by
  by_cases h : rightP ⟨0, 0, 0, 0, 0, 0, 0⟩
  · rw [rightB_yes h]
    simp [rightP, ownB, keyB, fieldsOf] at h
    simp [wrongE, isKind, fieldsOf, errT, errStep, othersB, Rq.num, lo, hi, List.range, List.range.loop]
    all_goals (repeat' split)
    all_goals omega
  · rw [rightB_no h]
    simp [rightP, ownB, keyB, fieldsOf] at h
    all_goals simp [wrongE, isKind, fieldsOf, errT, errStep, othersB, Rq.num, lo, hi, List.range, List.range.loop]
    all_goals (repeat' split)
    all_goals omega
theorem wrong_1 (t y : Int) (ht : 0 ≤ t) (hy : 0 ≤ y) : wrongE ⟨1, t, y, 0, 0, 0, 0⟩ = if 24 ≤ Rq.y ⟨1, t, y, 0, 0, 0, 0⟩ then 240 else if rightB ⟨1, t, y, 0, 0, 0, 0⟩ then 0 else 50 := by
  by_cases h : rightP ⟨1, t, y, 0, 0, 0, 0⟩
  · rw [rightB_yes h]
    simp [rightP, ownB, keyB, fieldsOf] at h
    simp [wrongE, isKind, fieldsOf, errT, errStep, othersB, Rq.num, lo, hi, List.range, List.range.loop]
    all_goals (repeat' split)
    all_goals omega
  · rw [rightB_no h]
    simp [rightP, ownB, keyB, fieldsOf] at h
    all_goals simp [wrongE, isKind, fieldsOf, errT, errStep, othersB, Rq.num, lo, hi, List.range, List.range.loop]
    all_goals (repeat' split)
    all_goals omega
theorem wrong_2 (t y v : Int) (ht : 0 ≤ t) (hy : 0 ≤ y) (hv : 0 ≤ v) : wrongE ⟨2, t, y, v, 0, 0, 0⟩ = if 24 ≤ Rq.y ⟨2, t, y, v, 0, 0, 0⟩ then 240 else if rightB ⟨2, t, y, v, 0, 0, 0⟩ then 0 else 50 := by
  by_cases h : rightP ⟨2, t, y, v, 0, 0, 0⟩
  · rw [rightB_yes h]
    simp [rightP, ownB, keyB, fieldsOf] at h
    simp [wrongE, isKind, fieldsOf, errT, errStep, othersB, Rq.num, lo, hi, List.range, List.range.loop]
    all_goals (repeat' split)
    all_goals omega
  · rw [rightB_no h]
    simp [rightP, ownB, keyB, fieldsOf] at h
    all_goals simp [wrongE, isKind, fieldsOf, errT, errStep, othersB, Rq.num, lo, hi, List.range, List.range.loop]
    all_goals (repeat' split)
    all_goals omega
theorem wrong_3 (t : Int) (ht : 0 ≤ t) : wrongE ⟨3, t, 0, 0, 0, 0, 0⟩ = if 24 ≤ Rq.y ⟨3, t, 0, 0, 0, 0, 0⟩ then 240 else if rightB ⟨3, t, 0, 0, 0, 0, 0⟩ then 0 else 50 := by
  by_cases h : rightP ⟨3, t, 0, 0, 0, 0, 0⟩
  · rw [rightB_yes h]
    simp [rightP, ownB, keyB, fieldsOf] at h
    simp [wrongE, isKind, fieldsOf, errT, errStep, othersB, Rq.num, lo, hi, List.range, List.range.loop]
    all_goals (repeat' split)
    all_goals omega
  · rw [rightB_no h]
    simp [rightP, ownB, keyB, fieldsOf] at h
    all_goals simp [wrongE, isKind, fieldsOf, errT, errStep, othersB, Rq.num, lo, hi, List.range, List.range.loop]
    all_goals (repeat' split)
    all_goals omega
theorem wrong_4 (t : Int) (ht : 0 ≤ t) : wrongE ⟨4, t, 0, 0, 0, 0, 0⟩ = if 24 ≤ Rq.y ⟨4, t, 0, 0, 0, 0, 0⟩ then 240 else if rightB ⟨4, t, 0, 0, 0, 0, 0⟩ then 0 else 50 := by
  by_cases h : rightP ⟨4, t, 0, 0, 0, 0, 0⟩
  · rw [rightB_yes h]
    simp [rightP, ownB, keyB, fieldsOf] at h
    simp [wrongE, isKind, fieldsOf, errT, errStep, othersB, Rq.num, lo, hi, List.range, List.range.loop]
    all_goals (repeat' split)
    all_goals omega
  · rw [rightB_no h]
    simp [rightP, ownB, keyB, fieldsOf] at h
    all_goals simp [wrongE, isKind, fieldsOf, errT, errStep, othersB, Rq.num, lo, hi, List.range, List.range.loop]
    all_goals (repeat' split)
    all_goals omega
theorem wrong_5 (p f o : Int)  : wrongE ⟨5, 0, 0, 0, p, f, o⟩ = if 24 ≤ Rq.y ⟨5, 0, 0, 0, p, f, o⟩ then 240 else if rightB ⟨5, 0, 0, 0, p, f, o⟩ then 0 else 50 := by
  by_cases h : rightP ⟨5, 0, 0, 0, p, f, o⟩
  · rw [rightB_yes h]
    simp [rightP, ownB, keyB, fieldsOf] at h
    simp [wrongE, isKind, fieldsOf, errT, errStep, othersB, Rq.num, lo, hi, List.range, List.range.loop]
    all_goals (repeat' split)
    all_goals omega
  · rw [rightB_no h]
    simp [rightP, ownB, keyB, fieldsOf] at h
    all_goals simp [wrongE, isKind, fieldsOf, errT, errStep, othersB, Rq.num, lo, hi, List.range, List.range.loop]
    all_goals (repeat' split)
    all_goals omega
theorem wrong_6 (y : Int) (hy : 0 ≤ y) : wrongE ⟨6, 0, y, 0, 0, 0, 0⟩ = if 24 ≤ Rq.y ⟨6, 0, y, 0, 0, 0, 0⟩ then 240 else if rightB ⟨6, 0, y, 0, 0, 0, 0⟩ then 0 else 50 := by
  by_cases h : rightP ⟨6, 0, y, 0, 0, 0, 0⟩
  · rw [rightB_yes h]
    simp [rightP, ownB, keyB, fieldsOf] at h
    simp [wrongE, isKind, fieldsOf, errT, errStep, othersB, Rq.num, lo, hi, List.range, List.range.loop]
    all_goals (repeat' split)
    all_goals omega
  · rw [rightB_no h]
    simp [rightP, ownB, keyB, fieldsOf] at h
    all_goals simp [wrongE, isKind, fieldsOf, errT, errStep, othersB, Rq.num, lo, hi, List.range, List.range.loop]
    all_goals (repeat' split)
    all_goals omega
theorem wrong_7   : wrongE ⟨7, 0, 0, 0, 0, 0, 0⟩ = if 24 ≤ Rq.y ⟨7, 0, 0, 0, 0, 0, 0⟩ then 240 else if rightB ⟨7, 0, 0, 0, 0, 0, 0⟩ then 0 else 50 := by
  by_cases h : rightP ⟨7, 0, 0, 0, 0, 0, 0⟩
  · rw [rightB_yes h]
    simp [rightP, ownB, keyB, fieldsOf] at h
    simp [wrongE, isKind, fieldsOf, errT, errStep, othersB, Rq.num, lo, hi, List.range, List.range.loop]
    all_goals (repeat' split)
    all_goals omega
  · rw [rightB_no h]
    simp [rightP, ownB, keyB, fieldsOf] at h
    all_goals simp [wrongE, isKind, fieldsOf, errT, errStep, othersB, Rq.num, lo, hi, List.range, List.range.loop]
    all_goals (repeat' split)
    all_goals omega
theorem wrong_8   : wrongE ⟨8, 0, 0, 0, 0, 0, 0⟩ = if 24 ≤ Rq.y ⟨8, 0, 0, 0, 0, 0, 0⟩ then 240 else if rightB ⟨8, 0, 0, 0, 0, 0, 0⟩ then 0 else 50 := by
  by_cases h : rightP ⟨8, 0, 0, 0, 0, 0, 0⟩
  · rw [rightB_yes h]
    simp [rightP, ownB, keyB, fieldsOf] at h
    simp [wrongE, isKind, fieldsOf, errT, errStep, othersB, Rq.num, lo, hi, List.range, List.range.loop]
    all_goals (repeat' split)
    all_goals omega
  · rw [rightB_no h]
    simp [rightP, ownB, keyB, fieldsOf] at h
    all_goals simp [wrongE, isKind, fieldsOf, errT, errStep, othersB, Rq.num, lo, hi, List.range, List.range.loop]
    all_goals (repeat' split)
    all_goals omega
theorem wrong_9   : wrongE ⟨9, 0, 0, 0, 0, 0, 0⟩ = if 24 ≤ Rq.y ⟨9, 0, 0, 0, 0, 0, 0⟩ then 240 else if rightB ⟨9, 0, 0, 0, 0, 0, 0⟩ then 0 else 50 := by
  by_cases h : rightP ⟨9, 0, 0, 0, 0, 0, 0⟩
  · rw [rightB_yes h]
    simp [rightP, ownB, keyB, fieldsOf] at h
    simp [wrongE, isKind, fieldsOf, errT, errStep, othersB, Rq.num, lo, hi, List.range, List.range.loop]
    all_goals (repeat' split)
    all_goals omega
  · rw [rightB_no h]
    simp [rightP, ownB, keyB, fieldsOf] at h
    all_goals simp [wrongE, isKind, fieldsOf, errT, errStep, othersB, Rq.num, lo, hi, List.range, List.range.loop]
    all_goals (repeat' split)
    all_goals omega
def sumWd : List Nat → Int
  | [] => 0
  | f :: fl => wd f + sumWd fl
theorem sumWd_pos : ∀ fl, 0 ≤ sumWd fl
  | [] => by simp [sumWd]
  | f :: fl => by have := sumWd_pos fl; have := wd_range f; unfold sumWd; omega
def rdFold (l : List Nat) : List Nat → Rq → Int → Rq
  | [], q, a => q
  | f :: fl, q, a => rdFold l fl (q.set f (q.num f + getV l a (wd f))) (a + wd f)
theorem rdLoop_none (l : List Nat) : ∀ (fl : List Nat) (q : Rq) (a : Int), 0 ≤ a → a ≤ l.length → (l.length : Int) < a + sumWd fl → rdLoop l fl q a = none
  | [], q, a, h0, h1, h => by simp [sumWd] at h; omega
  | f :: fl, q, a, h0, h1, h => by
    have hw := wd_range f
    unfold sumWd at h
    unfold rdLoop
    by_cases hs : (l.length : Int) < a + wd f
    · rw [if_neg (getE_short h0 hw hs)]
    · rw [if_pos (getE_fits h0 hw (by omega))]
      exact rdLoop_none l fl _ _ (by omega) (by omega) (by omega)
theorem rdLoop_some (l : List Nat) : ∀ (fl : List Nat) (q : Rq) (a : Int), 0 ≤ a → a + sumWd fl ≤ l.length → rdLoop l fl q a = some (rdFold l fl q a, a + sumWd fl)
  | [], q, a, h0, h => by simp [rdLoop, rdFold, sumWd]
  | f :: fl, q, a, h0, h => by
    have hw := wd_range f
    have hp := sumWd_pos fl
    unfold sumWd at h
    unfold rdLoop
    rw [if_pos (getE_fits h0 hw (by omega)), rdLoop_some l fl _ _ (by omega) (by omega)]
    simp only [rdFold, sumWd]
    rw [Int.add_assoc]
theorem wd_sum (k : Int) (hk : 0 ≤ k ∧ k ≤ 9) : sizeE k = 1 + sumWd (fieldsOf k) := by
  have : k = 0 ∨ k = 1 ∨ k = 2 ∨ k = 3 ∨ k = 4 ∨ k = 5 ∨ k = 6 ∨ k = 7 ∨ k = 8 ∨ k = 9 := by omega
  rcases this with rfl | rfl | rfl | rfl | rfl | rfl | rfl | rfl | rfl | rfl <;> rfl
theorem fold_parse {l : List Nat} (h : IsBytes l) (k : Int) (hk : 0 ≤ k ∧ k ≤ 9) (hl : (l.length : Int) = sizeE k) : rdFold l (fieldsOf k) (rdStart k) 1 = rfParse l k ∧ wrongE (rfParse l k) = (if 24 ≤ (rfParse l k).y then 240 else if rightB (rfParse l k) then 0 else 50) := by
  have g3 := (getV_range h 1 3 (by omega)).1
  have n4 : (0 : Int) ≤ ((l.getD 4 0 : Nat) : Int) := by omega
  have n5 : (0 : Int) ≤ ((l.getD 5 0 : Nat) : Int) := by omega
  have n1 : (0 : Int) ≤ ((l.getD 1 0 : Nat) : Int) := by omega
  have : k = 0 ∨ k = 1 ∨ k = 2 ∨ k = 3 ∨ k = 4 ∨ k = 5 ∨ k = 6 ∨ k = 7 ∨ k = 8 ∨ k = 9 := by omega
  rw [sizeE_of] at hl
  rcases this with rfl | rfl | rfl | rfl | rfl | rfl | rfl | rfl | rfl | rfl
  · exact ⟨rfl, wrong_0⟩
  · simp at hl
    have b4 := getV_byte (l := l) 4 (by omega)
    refine ⟨?_, wrong_1 _ _ g3 n4⟩
    show (⟨1, 0 + getV l 1 3, 0 + getV l 4 1, 0, 0, 0, 0⟩ : Rq) = ⟨1, getV l 1 3, _, 0, 0, 0, 0⟩
    have e : ((4 : Nat) : Int) = 4 := rfl
    rw [e] at b4
    rw [b4, Int.zero_add, Int.zero_add]
  · simp at hl
    have b4 := getV_byte (l := l) 4 (by omega)
    have b5 := getV_byte (l := l) 5 (by omega)
    refine ⟨?_, wrong_2 _ _ _ g3 n4 n5⟩
    show (⟨2, 0 + getV l 1 3, 0 + getV l 4 1, 0 + getV l 5 1, 0, 0, 0⟩ : Rq) = ⟨2, getV l 1 3, _, _, 0, 0, 0⟩
    have e : ((4 : Nat) : Int) = 4 := rfl
    have e5 : ((5 : Nat) : Int) = 5 := rfl
    rw [e] at b4
    rw [e5] at b5
    rw [b4, b5, Int.zero_add, Int.zero_add, Int.zero_add]
  · refine ⟨?_, wrong_3 _ g3⟩
    show (⟨3, 0 + getV l 1 3, 0, 0, 0, 0, 0⟩ : Rq) = ⟨3, getV l 1 3, 0, 0, 0, 0, 0⟩
    rw [Int.zero_add]
  · refine ⟨?_, wrong_4 _ g3⟩
    show (⟨4, 0 + getV l 1 3, 0, 0, 0, 0, 0⟩ : Rq) = ⟨4, getV l 1 3, 0, 0, 0, 0, 0⟩
    rw [Int.zero_add]
  · simp at hl
    have b1 := getV_byte (l := l) 1 (by omega)
    refine ⟨?_, wrong_5 _ _ _⟩
    show (⟨5, 0, 0, 0, 0 + getV l 1 1, 0 + getV l 2 6, -1 + getV l 8 6⟩ : Rq) = ⟨5, 0, 0, 0, _, getV l 2 6, getV l 8 6 - 1⟩
    have e : ((1 : Nat) : Int) = 1 := rfl
    rw [e] at b1
    rw [b1, Int.zero_add, Int.zero_add, Int.add_comm (-1)]
    rfl
  · simp at hl
    have b1 := getV_byte (l := l) 1 (by omega)
    refine ⟨?_, wrong_6 _ n1⟩
    show (⟨6, 0, 0 + getV l 1 1, 0, 0, 0, 0⟩ : Rq) = ⟨6, 0, _, 0, 0, 0, 0⟩
    have e : ((1 : Nat) : Int) = 1 := rfl
    rw [e] at b1
    rw [b1, Int.zero_add]
  · exact ⟨rfl, wrong_7⟩
  · exact ⟨rfl, wrong_8⟩
  · exact ⟨rfl, wrong_9⟩
/-- program and reference tell the same -/
theorem rd_rf {l : List Nat} (h : IsBytes l) : rdQ l = rfQ l := by
  unfold rdQ rfQ
  by_cases h0 : l.length = 0
  · rw [if_neg (getE_short (by omega) (by omega) (by omega)), if_pos (.inl h0)]
  · have hv := getV_byte (l := l) 0 (by omega)
    rw [if_pos (getE_fits (by omega) (by omega) (by omega))]
    have e : ((0 : Nat) : Int) = 0 := rfl
    rw [e] at hv
    rw [hv]
    by_cases h9 : 9 < l.getD 0 0
    · rw [if_pos (by omega), if_pos (.inr (.inl h9))]
    · rw [if_neg (by omega)]
      have hk : (0 : Int) ≤ ((l.getD 0 0 : Nat) : Int) ∧ ((l.getD 0 0 : Nat) : Int) ≤ 9 := by omega
      generalize hkk : ((l.getD 0 0 : Nat) : Int) = k at *
      have hs := wd_sum k hk
      by_cases hl : sizeE k = l.length
      · rw [if_neg (by simp only [not_or]; exact ⟨h0, h9, by omega⟩)]
        obtain ⟨f1, f2⟩ := fold_parse h k hk (by omega)
        rw [rdLoop_some l _ _ _ (by omega) (by omega), f1]
        exact end_eq l _ _ (by omega) f2
      · rw [if_pos (.inr (.inr hl))]
        by_cases hlt : (l.length : Int) < sizeE k
        · rw [rdLoop_none l _ _ _ (by omega) (by omega) (by omega)]
          rfl
        · rw [rdLoop_some l _ _ _ (by omega) (by omega)]
          simp only [rdEnd]
          rw [if_pos (by omega)]
end Go.Proofs.Ytcffabfaefbjcaa
