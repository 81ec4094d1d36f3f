/-
  Plain laws of RequestBack: a request's bytes are read as it, and no beginning of them; what is read has just those bytes (chapter 08).
-/
import Derived.Test.YtcffabfaefbjcaaOncePlain
import Derived.Test.YtcffabfaefbjcaaReadPlain
namespace Go.Proofs.Ytcffabfaefbjcaa
set_option linter.unusedVariables false
open Go.RowKit
theorem num3 (a b c : Nat) : num [a, b, c] = a + 256 * (b + 256 * c) := by simp [num]
theorem num6 (a b c d e f : Nat) : num [a, b, c, d, e, f] = a + 256 * (b + 256 * (c + 256 * (d + 256 * (e + 256 * f)))) := by simp [num]
theorem le3 (n : Nat) : le 3 n = [n % 256, n / 256 % 256, n / 256 / 256 % 256] := rfl
theorem le6 (n : Nat) : le 6 n = [n % 256, n / 256 % 256, n / 256 / 256 % 256, n / 256 / 256 / 256 % 256, n / 256 / 256 / 256 / 256 % 256, n / 256 / 256 / 256 / 256 / 256 % 256] := rfl
theorem le1 (n : Nat) : le 1 n = [n % 256] := rfl
theorem fwd_0  : rfParse (rqL ⟨0, 0, 0, 0, 0, 0, 0⟩) 0 = ⟨0, 0, 0, 0, 0, 0, 0⟩ ∧ (rqL ⟨0, 0, 0, 0, 0, 0, 0⟩).length = 1 := by
  exact ⟨rfl, rfl⟩
theorem fwd_1 (t y : Int) (ht : 0 ≤ t ∧ t < 16777216) (hy : 0 ≤ y ∧ y < 256) : rfParse (rqL ⟨1, t, y, 0, 0, 0, 0⟩) 1 = ⟨1, t, y, 0, 0, 0, 0⟩ ∧ (rqL ⟨1, t, y, 0, 0, 0, 0⟩).length = 5 := by
  have g3 : num [t.toNat % 256, t.toNat / 256 % 256, t.toNat / 256 / 256 % 256] = t.toNat := by rw [num3]; omega
  have e : rqL ⟨1, t, y, 0, 0, 0, 0⟩ = [1, t.toNat % 256, t.toNat / 256 % 256, t.toNat / 256 / 256 % 256, y.toNat % 256] := rfl
  refine ⟨?_, by rw [e]; rfl⟩
  rw [e]
  show (⟨1, ((num [t.toNat % 256, t.toNat / 256 % 256, t.toNat / 256 / 256 % 256] : Nat) : Int), ((y.toNat % 256 : Nat) : Int), 0, 0, 0, 0⟩ : Rq) = _
  rw [g3]
  rw [show ((t.toNat : Nat) : Int) = t by omega, show ((y.toNat % 256 : Nat) : Int) = y by omega]
theorem fwd_2 (t y v : Int) (ht : 0 ≤ t ∧ t < 16777216) (hy : 0 ≤ y ∧ y < 256) (hv : 0 ≤ v ∧ v < 256) : rfParse (rqL ⟨2, t, y, v, 0, 0, 0⟩) 2 = ⟨2, t, y, v, 0, 0, 0⟩ ∧ (rqL ⟨2, t, y, v, 0, 0, 0⟩).length = 6 := by
  have g3 : num [t.toNat % 256, t.toNat / 256 % 256, t.toNat / 256 / 256 % 256] = t.toNat := by rw [num3]; omega
  have e : rqL ⟨2, t, y, v, 0, 0, 0⟩ = [2, t.toNat % 256, t.toNat / 256 % 256, t.toNat / 256 / 256 % 256, y.toNat % 256, v.toNat % 256] := rfl
  refine ⟨?_, by rw [e]; rfl⟩
  rw [e]
  show (⟨2, ((num [t.toNat % 256, t.toNat / 256 % 256, t.toNat / 256 / 256 % 256] : Nat) : Int), ((y.toNat % 256 : Nat) : Int), ((v.toNat % 256 : Nat) : Int), 0, 0, 0⟩ : Rq) = _
  rw [g3]
  rw [show ((t.toNat : Nat) : Int) = t by omega, show ((y.toNat % 256 : Nat) : Int) = y by omega, show ((v.toNat % 256 : Nat) : Int) = v by omega]
theorem fwd_3 (t : Int) (ht : 0 ≤ t ∧ t < 16777216) : rfParse (rqL ⟨3, t, 0, 0, 0, 0, 0⟩) 3 = ⟨3, t, 0, 0, 0, 0, 0⟩ ∧ (rqL ⟨3, t, 0, 0, 0, 0, 0⟩).length = 4 := by
  have g3 : num [t.toNat % 256, t.toNat / 256 % 256, t.toNat / 256 / 256 % 256] = t.toNat := by rw [num3]; omega
  have e : rqL ⟨3, t, 0, 0, 0, 0, 0⟩ = [3, t.toNat % 256, t.toNat / 256 % 256, t.toNat / 256 / 256 % 256] := rfl
  refine ⟨?_, by rw [e]; rfl⟩
  rw [e]
  show (⟨3, ((num [t.toNat % 256, t.toNat / 256 % 256, t.toNat / 256 / 256 % 256] : Nat) : Int), 0, 0, 0, 0, 0⟩ : Rq) = _
  rw [g3]
  rw [show ((t.toNat : Nat) : Int) = t by omega]
theorem fwd_4 (t : Int) (ht : 0 ≤ t ∧ t < 16777216) : rfParse (rqL ⟨4, t, 0, 0, 0, 0, 0⟩) 4 = ⟨4, t, 0, 0, 0, 0, 0⟩ ∧ (rqL ⟨4, t, 0, 0, 0, 0, 0⟩).length = 4 := by
  have g3 : num [t.toNat % 256, t.toNat / 256 % 256, t.toNat / 256 / 256 % 256] = t.toNat := by rw [num3]; omega
  have e : rqL ⟨4, t, 0, 0, 0, 0, 0⟩ = [4, t.toNat % 256, t.toNat / 256 % 256, t.toNat / 256 / 256 % 256] := rfl
  refine ⟨?_, by rw [e]; rfl⟩
  rw [e]
  show (⟨4, ((num [t.toNat % 256, t.toNat / 256 % 256, t.toNat / 256 / 256 % 256] : Nat) : Int), 0, 0, 0, 0, 0⟩ : Rq) = _
  rw [g3]
  rw [show ((t.toNat : Nat) : Int) = t by omega]
theorem fwd_5 (p f o : Int) (hp : 0 ≤ p ∧ p < 256) (hf : 0 ≤ f ∧ f < 281474976710656) (ho : -1 ≤ o ∧ o < 281474976710655) : rfParse (rqL ⟨5, 0, 0, 0, p, f, o⟩) 5 = ⟨5, 0, 0, 0, p, f, o⟩ ∧ (rqL ⟨5, 0, 0, 0, p, f, o⟩).length = 14 := by
  have gf : num [f.toNat % 256, f.toNat / 256 % 256, f.toNat / 256 / 256 % 256, f.toNat / 256 / 256 / 256 % 256, f.toNat / 256 / 256 / 256 / 256 % 256, f.toNat / 256 / 256 / 256 / 256 / 256 % 256] = f.toNat := by rw [num6]; omega
  have go' : num [(o + 1).toNat % 256, (o + 1).toNat / 256 % 256, (o + 1).toNat / 256 / 256 % 256, (o + 1).toNat / 256 / 256 / 256 % 256, (o + 1).toNat / 256 / 256 / 256 / 256 % 256, (o + 1).toNat / 256 / 256 / 256 / 256 / 256 % 256] = (o + 1).toNat := by rw [num6]; omega
  have e : rqL ⟨5, 0, 0, 0, p, f, o⟩ = [5, p.toNat % 256, f.toNat % 256, f.toNat / 256 % 256, f.toNat / 256 / 256 % 256, f.toNat / 256 / 256 / 256 % 256, f.toNat / 256 / 256 / 256 / 256 % 256, f.toNat / 256 / 256 / 256 / 256 / 256 % 256, (o + 1).toNat % 256, (o + 1).toNat / 256 % 256, (o + 1).toNat / 256 / 256 % 256, (o + 1).toNat / 256 / 256 / 256 % 256, (o + 1).toNat / 256 / 256 / 256 / 256 % 256, (o + 1).toNat / 256 / 256 / 256 / 256 / 256 % 256] := rfl
  refine ⟨?_, by rw [e]; rfl⟩
  rw [e]
  show (⟨5, 0, 0, 0, ((p.toNat % 256 : Nat) : Int), ((num [f.toNat % 256, f.toNat / 256 % 256, f.toNat / 256 / 256 % 256, f.toNat / 256 / 256 / 256 % 256, f.toNat / 256 / 256 / 256 / 256 % 256, f.toNat / 256 / 256 / 256 / 256 / 256 % 256] : Nat) : Int), ((num [(o + 1).toNat % 256, (o + 1).toNat / 256 % 256, (o + 1).toNat / 256 / 256 % 256, (o + 1).toNat / 256 / 256 / 256 % 256, (o + 1).toNat / 256 / 256 / 256 / 256 % 256, (o + 1).toNat / 256 / 256 / 256 / 256 / 256 % 256] : Nat) : Int) - 1⟩ : Rq) = _
  rw [gf, go', show ((p.toNat % 256 : Nat) : Int) = p by omega, show ((f.toNat : Nat) : Int) = f by omega, show (((o + 1).toNat : Nat) : Int) - 1 = o by omega]
theorem fwd_6 (y : Int) (hy : 0 ≤ y ∧ y < 256) : rfParse (rqL ⟨6, 0, y, 0, 0, 0, 0⟩) 6 = ⟨6, 0, y, 0, 0, 0, 0⟩ ∧ (rqL ⟨6, 0, y, 0, 0, 0, 0⟩).length = 2 := by
  have e : rqL ⟨6, 0, y, 0, 0, 0, 0⟩ = [6, y.toNat % 256] := rfl
  refine ⟨?_, by rw [e]; rfl⟩
  rw [e]
  show (⟨6, 0, ((y.toNat % 256 : Nat) : Int), 0, 0, 0, 0⟩ : Rq) = _
  rw [show ((y.toNat % 256 : Nat) : Int) = y by omega]
theorem fwd_7  : rfParse (rqL ⟨7, 0, 0, 0, 0, 0, 0⟩) 7 = ⟨7, 0, 0, 0, 0, 0, 0⟩ ∧ (rqL ⟨7, 0, 0, 0, 0, 0, 0⟩).length = 1 := by
  exact ⟨rfl, rfl⟩
theorem fwd_8  : rfParse (rqL ⟨8, 0, 0, 0, 0, 0, 0⟩) 8 = ⟨8, 0, 0, 0, 0, 0, 0⟩ ∧ (rqL ⟨8, 0, 0, 0, 0, 0, 0⟩).length = 1 := by
  exact ⟨rfl, rfl⟩
theorem fwd_9  : rfParse (rqL ⟨9, 0, 0, 0, 0, 0, 0⟩) 9 = ⟨9, 0, 0, 0, 0, 0, 0⟩ ∧ (rqL ⟨9, 0, 0, 0, 0, 0, 0⟩).length = 1 := by
  exact ⟨rfl, rfl⟩
theorem bwd_0 (l : List Nat) (h : IsBytes l) (hl : l.length = 1) (h0 : l.getD 0 0 = 0) : rqL (rfParse l 0) = l := by
  match l, hl with
  | [a0], _ =>
    have b0 : a0 < 256 := h a0 (by simp)
    have e0 : a0 = 0 := h0
    subst e0
    rfl
theorem bwd_1 (l : List Nat) (h : IsBytes l) (hl : l.length = 5) (h0 : l.getD 0 0 = 1) : rqL (rfParse l 1) = l := by
  match l, hl with
  | [a0, a1, a2, a3, a4], _ =>
    have b0 : a0 < 256 := h a0 (by simp)
    have b1 : a1 < 256 := h a1 (by simp)
    have b2 : a2 < 256 := h a2 (by simp)
    have b3 : a3 < 256 := h a3 (by simp)
    have b4 : a4 < 256 := h a4 (by simp)
    have e0 : a0 = 1 := h0
    show 1 :: ((le 3 ((num [a1, a2, a3] : Nat) : Int).toNat) ++ (le 1 ((a4 : Nat) : Int).toNat) ++ [] ++ []) = _
    rw [num3]
    simp only [le3, le1, Int.toNat_natCast, List.cons_append, List.nil_append, List.append_nil, List.cons.injEq]
    refine ⟨e0.symm, by omega, by omega, by omega, by omega, trivial⟩
theorem bwd_2 (l : List Nat) (h : IsBytes l) (hl : l.length = 6) (h0 : l.getD 0 0 = 2) : rqL (rfParse l 2) = l := by
  match l, hl with
  | [a0, a1, a2, a3, a4, a5], _ =>
    have b0 : a0 < 256 := h a0 (by simp)
    have b1 : a1 < 256 := h a1 (by simp)
    have b2 : a2 < 256 := h a2 (by simp)
    have b3 : a3 < 256 := h a3 (by simp)
    have b4 : a4 < 256 := h a4 (by simp)
    have b5 : a5 < 256 := h a5 (by simp)
    have e0 : a0 = 2 := h0
    show 2 :: ((le 3 ((num [a1, a2, a3] : Nat) : Int).toNat) ++ (le 1 ((a4 : Nat) : Int).toNat) ++ (le 1 ((a5 : Nat) : Int).toNat) ++ []) = _
    rw [num3]
    simp only [le3, le1, Int.toNat_natCast, List.cons_append, List.nil_append, List.append_nil, List.cons.injEq]
    refine ⟨e0.symm, by omega, by omega, by omega, by omega, by omega, trivial⟩
theorem bwd_3 (l : List Nat) (h : IsBytes l) (hl : l.length = 4) (h0 : l.getD 0 0 = 3) : rqL (rfParse l 3) = l := by
  match l, hl with
  | [a0, a1, a2, a3], _ =>
    have b0 : a0 < 256 := h a0 (by simp)
    have b1 : a1 < 256 := h a1 (by simp)
    have b2 : a2 < 256 := h a2 (by simp)
    have b3 : a3 < 256 := h a3 (by simp)
    have e0 : a0 = 3 := h0
    show 3 :: ((le 3 ((num [a1, a2, a3] : Nat) : Int).toNat) ++ [] ++ [] ++ []) = _
    rw [num3]
    simp only [le3, le1, Int.toNat_natCast, List.cons_append, List.nil_append, List.append_nil, List.cons.injEq]
    refine ⟨e0.symm, by omega, by omega, by omega, trivial⟩
theorem bwd_4 (l : List Nat) (h : IsBytes l) (hl : l.length = 4) (h0 : l.getD 0 0 = 4) : rqL (rfParse l 4) = l := by
  match l, hl with
  | [a0, a1, a2, a3], _ =>
    have b0 : a0 < 256 := h a0 (by simp)
    have b1 : a1 < 256 := h a1 (by simp)
    have b2 : a2 < 256 := h a2 (by simp)
    have b3 : a3 < 256 := h a3 (by simp)
    have e0 : a0 = 4 := h0
    show 4 :: ((le 3 ((num [a1, a2, a3] : Nat) : Int).toNat) ++ [] ++ [] ++ []) = _
    rw [num3]
    simp only [le3, le1, Int.toNat_natCast, List.cons_append, List.nil_append, List.append_nil, List.cons.injEq]
    refine ⟨e0.symm, by omega, by omega, by omega, trivial⟩
theorem bwd_5 (l : List Nat) (h : IsBytes l) (hl : l.length = 14) (h0 : l.getD 0 0 = 5) : rqL (rfParse l 5) = l := by
  match l, hl with
  | [a0, a1, a2, a3, a4, a5, a6, a7, a8, a9, a10, a11, a12, a13], _ =>
    have b0 : a0 < 256 := h a0 (by simp)
    have b1 : a1 < 256 := h a1 (by simp)
    have b2 : a2 < 256 := h a2 (by simp)
    have b3 : a3 < 256 := h a3 (by simp)
    have b4 : a4 < 256 := h a4 (by simp)
    have b5 : a5 < 256 := h a5 (by simp)
    have b6 : a6 < 256 := h a6 (by simp)
    have b7 : a7 < 256 := h a7 (by simp)
    have b8 : a8 < 256 := h a8 (by simp)
    have b9 : a9 < 256 := h a9 (by simp)
    have b10 : a10 < 256 := h a10 (by simp)
    have b11 : a11 < 256 := h a11 (by simp)
    have b12 : a12 < 256 := h a12 (by simp)
    have b13 : a13 < 256 := h a13 (by simp)
    have e0 : a0 = 5 := h0
    show 5 :: ([] ++ [] ++ [] ++ ((le 1 ((a1 : Nat) : Int).toNat) ++ (le 6 ((num [a2, a3, a4, a5, a6, a7] : Nat) : Int).toNat) ++ (le 6 (((num [a8, a9, a10, a11, a12, a13] : Nat) : Int) - 1 + 1).toNat))) = _
    rw [Int.sub_add_cancel, num6, num6]
    simp only [le1, le6, Int.toNat_natCast, List.cons_append, List.nil_append, List.append_nil, List.cons.injEq]
    refine ⟨e0.symm, by omega, by omega, by omega, by omega, by omega, by omega, by omega, by omega, by omega, by omega, by omega, by omega, by omega, trivial⟩
theorem bwd_6 (l : List Nat) (h : IsBytes l) (hl : l.length = 2) (h0 : l.getD 0 0 = 6) : rqL (rfParse l 6) = l := by
  match l, hl with
  | [a0, a1], _ =>
    have b0 : a0 < 256 := h a0 (by simp)
    have b1 : a1 < 256 := h a1 (by simp)
    have e0 : a0 = 6 := h0
    show 6 :: ([] ++ (le 1 ((a1 : Nat) : Int).toNat) ++ [] ++ []) = _
    simp only [le1, Int.toNat_natCast, List.cons_append, List.nil_append, List.append_nil, List.cons.injEq]
    exact ⟨e0.symm, by omega, trivial⟩
theorem bwd_7 (l : List Nat) (h : IsBytes l) (hl : l.length = 1) (h0 : l.getD 0 0 = 7) : rqL (rfParse l 7) = l := by
  match l, hl with
  | [a0], _ =>
    have b0 : a0 < 256 := h a0 (by simp)
    have e0 : a0 = 7 := h0
    subst e0
    rfl
theorem bwd_8 (l : List Nat) (h : IsBytes l) (hl : l.length = 1) (h0 : l.getD 0 0 = 8) : rqL (rfParse l 8) = l := by
  match l, hl with
  | [a0], _ =>
    have b0 : a0 < 256 := h a0 (by simp)
    have e0 : a0 = 8 := h0
    subst e0
    rfl
theorem bwd_9 (l : List Nat) (h : IsBytes l) (hl : l.length = 1) (h0 : l.getD 0 0 = 9) : rqL (rfParse l 9) = l := by
  match l, hl with
  | [a0], _ =>
    have b0 : a0 < 256 := h a0 (by simp)
    have e0 : a0 = 9 := h0
    subst e0
    rfl
theorem rqL_head (r : Rq) : (rqL r).getD 0 0 = r.k.toNat := rfl
theorem fwd_any {r : Rq} (h : mayB r = true) : rfParse (rqL r) r.k = r ∧ (((rqL r).length : Nat) : Int) = sizeE r.k := by
  have hb := bounds_of h
  have hm := ((mayB_iff r).1 h).1
  obtain ⟨k, t, y, v, p, f, o⟩ := r
  obtain ⟨hk, ht, hy, hv, hp, hf, ho⟩ := hb
  obtain ⟨_, q1, q2, q3, q4, q5, q6⟩ := hm
  simp only at hk ht hy hv hp hf ho q1 q2 q3 q4 q5 q6 ⊢
  have e : k = 0 ∨ k = 1 ∨ k = 2 ∨ k = 3 ∨ k = 4 ∨ k = 5 ∨ k = 6 ∨ k = 7 ∨ k = 8 ∨ k = 9 := by omega
  rcases e with rfl | rfl | rfl | rfl | rfl | rfl | rfl | rfl | rfl | rfl
  all_goals simp [ownB, keyB, fieldsOf] at q1 q2 q3 q4 q5 q6
  · obtain rfl : t = 0 := by omega
    obtain rfl : y = 0 := by omega
    obtain rfl : v = 0 := by omega
    obtain rfl : p = 0 := by omega
    obtain rfl : f = 0 := by omega
    obtain rfl : o = 0 := by omega
    obtain ⟨h1, h2⟩ := fwd_0  
    exact ⟨h1, by rw [h2]; decide⟩
  · obtain rfl : v = 0 := by omega
    obtain rfl : p = 0 := by omega
    obtain rfl : f = 0 := by omega
    obtain rfl : o = 0 := by omega
    obtain ⟨h1, h2⟩ := fwd_1 t y ⟨by omega, by omega⟩ ⟨by omega, by omega⟩
    exact ⟨h1, by rw [h2]; decide⟩
  · obtain rfl : p = 0 := by omega
    obtain rfl : f = 0 := by omega
    obtain rfl : o = 0 := by omega
    obtain ⟨h1, h2⟩ := fwd_2 t y v ⟨by omega, by omega⟩ ⟨by omega, by omega⟩ ⟨by omega, by omega⟩
    exact ⟨h1, by rw [h2]; decide⟩
  · obtain rfl : y = 0 := by omega
    obtain rfl : v = 0 := by omega
    obtain rfl : p = 0 := by omega
    obtain rfl : f = 0 := by omega
    obtain rfl : o = 0 := by omega
    obtain ⟨h1, h2⟩ := fwd_3 t ⟨by omega, by omega⟩
    exact ⟨h1, by rw [h2]; decide⟩
  · obtain rfl : y = 0 := by omega
    obtain rfl : v = 0 := by omega
    obtain rfl : p = 0 := by omega
    obtain rfl : f = 0 := by omega
    obtain rfl : o = 0 := by omega
    obtain ⟨h1, h2⟩ := fwd_4 t ⟨by omega, by omega⟩
    exact ⟨h1, by rw [h2]; decide⟩
  · obtain rfl : t = 0 := by omega
    obtain rfl : y = 0 := by omega
    obtain rfl : v = 0 := by omega
    obtain ⟨h1, h2⟩ := fwd_5 p f o ⟨by omega, by omega⟩ ⟨by omega, by omega⟩ ⟨by omega, by omega⟩
    exact ⟨h1, by rw [h2]; decide⟩
  · obtain rfl : t = 0 := by omega
    obtain rfl : v = 0 := by omega
    obtain rfl : p = 0 := by omega
    obtain rfl : f = 0 := by omega
    obtain rfl : o = 0 := by omega
    obtain ⟨h1, h2⟩ := fwd_6 y ⟨by omega, by omega⟩
    exact ⟨h1, by rw [h2]; decide⟩
  · obtain rfl : t = 0 := by omega
    obtain rfl : y = 0 := by omega
    obtain rfl : v = 0 := by omega
    obtain rfl : p = 0 := by omega
    obtain rfl : f = 0 := by omega
    obtain rfl : o = 0 := by omega
    obtain ⟨h1, h2⟩ := fwd_7  
    exact ⟨h1, by rw [h2]; decide⟩
  · obtain rfl : t = 0 := by omega
    obtain rfl : y = 0 := by omega
    obtain rfl : v = 0 := by omega
    obtain rfl : p = 0 := by omega
    obtain rfl : f = 0 := by omega
    obtain rfl : o = 0 := by omega
    obtain ⟨h1, h2⟩ := fwd_8  
    exact ⟨h1, by rw [h2]; decide⟩
  · obtain rfl : t = 0 := by omega
    obtain rfl : y = 0 := by omega
    obtain rfl : v = 0 := by omega
    obtain rfl : p = 0 := by omega
    obtain rfl : f = 0 := by omega
    obtain rfl : o = 0 := by omega
    obtain ⟨h1, h2⟩ := fwd_9  
    exact ⟨h1, by rw [h2]; decide⟩
theorem bwd_any {l : List Nat} (h : IsBytes l) (k : Int) (hk : 0 ≤ k ∧ k ≤ 9) (h0 : ((l.getD 0 0 : Nat) : Int) = k) (hl : ((l.length : Nat) : Int) = sizeE k) : rqL (rfParse l k) = l := by
  have e : k = 0 ∨ k = 1 ∨ k = 2 ∨ k = 3 ∨ k = 4 ∨ k = 5 ∨ k = 6 ∨ k = 7 ∨ k = 8 ∨ k = 9 := by omega
  rw [sizeE_of] at hl
  rcases e with rfl | rfl | rfl | rfl | rfl | rfl | rfl | rfl | rfl | rfl
  all_goals simp at hl
  · exact bwd_0 l h (by omega) (by omega)
  · exact bwd_1 l h (by omega) (by omega)
  · exact bwd_2 l h (by omega) (by omega)
  · exact bwd_3 l h (by omega) (by omega)
  · exact bwd_4 l h (by omega) (by omega)
  · exact bwd_5 l h (by omega) (by omega)
  · exact bwd_6 l h (by omega) (by omega)
  · exact bwd_7 l h (by omega) (by omega)
  · exact bwd_8 l h (by omega) (by omega)
  · exact bwd_9 l h (by omega) (by omega)
theorem parse_key {l : List Nat} (k : Int) (hk : 0 ≤ k ∧ k ≤ 9) : 0 ≤ (rfParse l k).y ∧ (rfParse l k).k = k := by
  have e : k = 0 ∨ k = 1 ∨ k = 2 ∨ k = 3 ∨ k = 4 ∨ k = 5 ∨ k = 6 ∨ k = 7 ∨ k = 8 ∨ k = 9 := by omega
  rcases e with rfl | rfl | rfl | rfl | rfl | rfl | rfl | rfl | rfl | rfl
  all_goals simp [rfParse]
/-- what is written is read -/
theorem rd_fwd {r : Rq} (h : mayB r = true) : rdQ (rqL r) = (r, 0) := by
  have hk := (bounds_of h).1
  have hy := (bounds_of h).2.2.1
  obtain ⟨h1, h2⟩ := fwd_any h
  have hm := ((mayB_iff r).1 h).1
  rw [rd_rf (rqL_bytes h)]
  unfold rfQ
  have e0 : (((rqL r).getD 0 0 : Nat) : Int) = r.k := by rw [rqL_head]; omega
  rw [e0, if_neg (by simp only [not_or]; refine ⟨by unfold rqL; simp, by omega, by omega⟩), h1]
  unfold rfEnd
  rw [if_neg (by omega), if_pos (rightB_yes hm)]
/-- no beginning of it is read -/
theorem rd_cut {r : Rq} (h : mayB r = true) (m : Nat) (hm : m < (rqL r).length) : rdQ ((rqL r).take m) = (zrq, 50) := by
  have hk := (bounds_of h).1
  obtain ⟨_, h2⟩ := fwd_any h
  rw [rd_rf ((rqL_bytes h).take m)]
  unfold rfQ
  have hl : ((rqL r).take m).length = m := by rw [List.length_take]; omega
  by_cases h0 : m = 0
  · rw [if_pos (.inl (by omega))]
  · have e0 : ((((rqL r).take m).getD 0 0 : Nat) : Int) = r.k := by
      have : ((rqL r).take m).getD 0 0 = (rqL r).getD 0 0 := by
        rw [List.getD, List.getD, List.getElem?_take_of_lt (by omega)]
      rw [this, rqL_head]; omega
    rw [e0, if_pos (.inr (.inr (by omega)))]
/-- what is read has just those bytes -/
theorem rd_bwd {l : List Nat} {q : Rq} (h : IsBytes l) (hq : rdQ l = (q, 0)) : mayB q = true ∧ rqL q = l := by
  rw [rd_rf h] at hq
  unfold rfQ at hq
  split at hq
  · cases hq
  · rename_i hn
    simp only [not_or] at hn
    obtain ⟨h0, h9, hs⟩ := hn
    have hk : (0 : Int) ≤ ((l.getD 0 0 : Nat) : Int) ∧ ((l.getD 0 0 : Nat) : Int) ≤ 9 := by omega
    unfold rfEnd at hq
    split at hq
    · cases hq
    · rename_i hy
      split at hq
      · rename_i hr
        simp only [Prod.mk.injEq, and_true] at hq
        have hp := parse_key (l := l) _ hk
        have hb := bwd_any h _ hk rfl (by omega)
        rw [hq] at hy hr hp hb
        refine ⟨(mayB_iff q).2 ⟨(rightB_iff q).1 hr, by omega, by omega⟩, hb⟩
      · cases hq
theorem rd_else {l : List Nat} {q : Rq} {E : Int} (h : IsBytes l) (hq : rdQ l = (q, E)) (hE : E ≠ 0) : q = zrq ∧ (E = 50 ∨ E = 240) := by
  rw [rd_rf h] at hq
  unfold rfQ at hq
  split at hq
  · cases hq; exact ⟨rfl, .inl rfl⟩
  · unfold rfEnd at hq
    split at hq
    · cases hq; exact ⟨rfl, .inr rfl⟩
    · split at hq
      · simp only [Prod.mk.injEq] at hq
        exact absurd hq.2.symm hE
      · cases hq; exact ⟨rfl, .inl rfl⟩
end Go.Proofs.Ytcffabfaefbjcaa
