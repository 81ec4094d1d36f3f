/-
  Plain laws of requests: unlike ones have unlike bytes; one with another kind's field may not be (chapter 08).
-/
import Derived.Test.YtcffabfaefbjcaaReqPlain
namespace Go.Proofs.Ytcffabfaefbjcaa
set_option linter.unusedVariables false
open Go.RowKit
theorem may_own (a : Rq) (h : ownB a.k = true) : mayB { a with t := 0 } = false := by
  rw [Bool.eq_false_iff]
  intro hm
  obtain ⟨⟨_, h2, _⟩, _⟩ := (mayB_iff _).1 hm
  rcases h2 with ⟨_, h3, _⟩ | ⟨h3, _⟩
  · simp at h3
  · simp [h] at h3
theorem may_free (a : Rq) (h : ownB a.k = false) : mayB { a with t := 1 } = false := by
  rw [Bool.eq_false_iff]
  intro hm
  obtain ⟨⟨_, h2, _⟩, _⟩ := (mayB_iff _).1 hm
  rcases h2 with ⟨h3, _⟩ | ⟨_, h3⟩
  · simp [h] at h3
  · simp at h3
theorem putL_le {l : List Nat} {n k : Int} (hk : 1 ≤ k ∧ k ≤ 6) (h0 : 0 ≤ n) (h : n < (256 : Int) ^ k.toNat) : putL l n k = l ++ le k.toNat n.toNat := by
  unfold putL
  rw [if_pos ⟨hk.1, hk.2, h0, h⟩]
theorem le_eq : ∀ (k m n : Nat), m < 256 ^ k → n < 256 ^ k → le k m = le k n → m = n
  | 0, m, n, hm, hn, _ => by simp at hm hn; omega
  | k + 1, m, n, hm, hn, h => by
    simp only [le, List.cons.injEq] at h
    have hk : (256 : Nat) ^ (k + 1) = 256 ^ k * 256 := Nat.pow_succ ..
    have := le_eq k (m / 256) (n / 256) (by omega) (by omega) h.2
    omega
/-- the bytes of a request that may be, field by field -/
def rqL (r : Rq) : List Nat :=
  r.k.toNat :: ((if ownB r.k then le 3 r.t.toNat else []) ++ (if keyB r.k then le 1 r.y.toNat else []) ++ (if r.k = 2 then le 1 r.v.toNat else []) ++ (if r.k = 5 then le 1 r.p.toNat ++ le 6 r.f.toNat ++ le 6 (r.o + 1).toNat else []))
theorem BL_rq (r : Rq) (h : mayB r = true) : BL r = rqL r := by
  have hb := bounds_of h
  have hm := ((mayB_iff r).1 h).1
  unfold BL
  rw [h]
  simp only [if_true]
  obtain ⟨k, t, y, v, p, f, o⟩ := r
  obtain ⟨hk, ht, hy, hv, hp, hf, ho⟩ := hb
  simp only at hk ht hy hv hp hf ho
  have e : k = 0 ∨ k = 1 ∨ k = 2 ∨ k = 3 ∨ k = 4 ∨ k = 5 ∨ k = 6 ∨ k = 7 ∨ k = 8 ∨ k = 9 := by omega
  have p3 : ((256 : Int) ^ (3 : Int).toNat) = 16777216 := by decide
  have p1 : ((256 : Int) ^ (1 : Int).toNat) = 256 := by decide
  have p6 : ((256 : Int) ^ (6 : Int).toNat) = 281474976710656 := by decide
  have a3 : ∀ l, putL l t 3 = l ++ le 3 t.toNat := fun l => putL_le (by omega) (by omega) (by rw [p3]; omega)
  have ay : ∀ l, putL l y 1 = l ++ le 1 y.toNat := fun l => putL_le (by omega) (by omega) (by rw [p1]; omega)
  have av : ∀ l, putL l v 1 = l ++ le 1 v.toNat := fun l => putL_le (by omega) (by omega) (by rw [p1]; omega)
  have ap : ∀ l, putL l p 1 = l ++ le 1 p.toNat := fun l => putL_le (by omega) (by omega) (by rw [p1]; omega)
  have af : ∀ l, putL l f 6 = l ++ le 6 f.toNat := fun l => putL_le (by omega) (by omega) (by rw [p6]; omega)
  have ao : ∀ l, putL l (o + 1) 6 = l ++ le 6 (o + 1).toNat := fun l => putL_le (by omega) (by omega) (by rw [p6]; omega)
  rcases e with rfl | rfl | rfl | rfl | rfl | rfl | rfl | rfl | rfl | rfl
  · rfl
  · show putL (putL [1] t 3) y 1 = _
    rw [a3, ay]; rfl
  · show putL (putL (putL [2] t 3) y 1) v 1 = _
    rw [a3, ay, av]; rfl
  · show putL [3] t 3 = _
    rw [a3]; rfl
  · show putL [4] t 3 = _
    rw [a3]; rfl
  · show putL (putL (putL [5] p 1) f 6) (o + 1) 6 = _
    rw [ap, af, ao]; rfl
  · show putL [6] y 1 = _
    rw [ay]; rfl
  · rfl
  · rfl
  · rfl
theorem seg_len (c : Bool) (x y : List Nat) (h : x.length = y.length) : (if c then x else []).length = (if c then y else []).length := by cases c <;> simp [h]
theorem rqL_inj {a b : Rq} (ha : mayB a = true) (hb : mayB b = true) (h : rqL a = rqL b) : a = b := by
  have b1 := bounds_of ha
  have b2 := bounds_of hb
  have m1 := ((mayB_iff a).1 ha).1
  have m2 := ((mayB_iff b).1 hb).1
  clear ha hb
  obtain ⟨k, t, y, v, p, f, o⟩ := a
  obtain ⟨k', t', y', v', p', f', o'⟩ := b
  obtain ⟨hk, ht, hy, hv, hp, hf, ho⟩ := b1
  obtain ⟨hk', ht', hy', hv', hp', hf', ho'⟩ := b2
  unfold rqL at h
  simp only [List.cons.injEq] at h hk ht hy hv hp hf ho hk' ht' hy' hv' hp' hf' ho'
  obtain ⟨h0, h⟩ := h
  obtain rfl : k = k' := by omega
  have hk1 : ∀ (c : Prop) [Decidable c] (x y : List Nat), x.length = y.length → (if c then x else []).length = (if c then y else []).length := by
    intro c _ x y h; split <;> simp [h]
  obtain ⟨h, h5⟩ := List.append_inj' h (hk1 _ _ _ (by simp [le_length]))
  obtain ⟨h, h2⟩ := List.append_inj' h (hk1 _ _ _ (by simp [le_length]))
  obtain ⟨ht3, hy1⟩ := List.append_inj' h (hk1 _ _ _ (by simp [le_length]))
  obtain ⟨_, q1, q2, q3, q4, q5, q6⟩ := m1
  obtain ⟨_, r1, r2, r3, r4, r5, r6⟩ := m2
  simp only at q1 q2 q3 q4 q5 q6 r1 r2 r3 r4 r5 r6
  have et : t = t' := by
    cases hc : ownB k
    · rw [hc] at q1 r1
      simp only [Bool.false_eq_true, false_and, true_and, false_or] at q1 r1
      omega
    · rw [if_pos hc, if_pos hc] at ht3
      have := le_eq 3 _ _ (by rw [show (256 : Nat) ^ 3 = 16777216 from rfl]; omega) (by rw [show (256 : Nat) ^ 3 = 16777216 from rfl]; omega) ht3
      omega
  have ey : y = y' := by
    cases hc : keyB k
    · have := q2 hc; have := r2 hc; omega
    · rw [if_pos hc, if_pos hc] at hy1
      have := le_eq 1 _ _ (by omega) (by omega) hy1
      omega
  have ev : v = v' := by
    by_cases hc : k = 2
    · rw [if_pos hc, if_pos hc] at h2
      have := le_eq 1 _ _ (by omega) (by omega) h2
      omega
    · have := q4 hc; have := r4 hc; omega
  have e3 : p = p' ∧ f = f' ∧ o = o' := by
    by_cases hc : k = 5
    · rw [if_pos hc, if_pos hc] at h5
      obtain ⟨h5, h7⟩ := List.append_inj' h5 (by simp [le_length])
      obtain ⟨h5, h6⟩ := List.append_inj' h5 (by simp [le_length])
      have g1 := le_eq 1 _ _ (by omega) (by omega) h5
      have g2 := le_eq 6 _ _ (by rw [show (256 : Nat) ^ 6 = 281474976710656 from rfl]; omega) (by rw [show (256 : Nat) ^ 6 = 281474976710656 from rfl]; omega) h6
      have g3 := le_eq 6 _ _ (by rw [show (256 : Nat) ^ 6 = 281474976710656 from rfl]; omega) (by rw [show (256 : Nat) ^ 6 = 281474976710656 from rfl]; omega) h7
      omega
    · have := q6 hc; have := r6 hc; omega
  obtain ⟨e3, e4, e5⟩ := e3
  rw [et, ey, ev, e3, e4, e5]
theorem rqL_bytes {r : Rq} (h : mayB r = true) : IsBytes (rqL r) := by
  have hb := (bounds_of h).1
  unfold rqL
  intro x hx
  have key : IsBytes ((if ownB r.k then le 3 r.t.toNat else []) ++ (if keyB r.k then le 1 r.y.toNat else []) ++ (if r.k = 2 then le 1 r.v.toNat else []) ++ (if r.k = 5 then le 1 r.p.toNat ++ le 6 r.f.toNat ++ le 6 (r.o + 1).toNat else [])) := by
    refine ((IsBytes.append ?_ ?_).append ?_).append ?_
    all_goals split
    all_goals first
      | exact IsBytes.nil
      | exact le_bytes _ _
      | exact ((le_bytes _ _).append (le_bytes _ _)).append (le_bytes _ _)
  rcases List.mem_cons.1 hx with rfl | hx
  · omega
  · exact key x hx
theorem may_of_BE {r : Rq} (h : BE r = 0) : mayB r = true := by
  unfold BE at h
  split at h
  · assumption
  · cases h
theorem strOf_ne (a b : Rq) (h1 : BE a = 0) (h2 : BE b = 0) (h : a ≠ b) : ((strOf (BL a)).toList == (strOf (BL b)).toList) = false := by
  have m1 := may_of_BE h1
  have m2 := may_of_BE h2
  rw [BL_rq a m1, BL_rq b m2, str_beq (rqL_bytes m1) (rqL_bytes m2)]
  exact decide_eq_false fun e => h (rqL_inj m1 m2 e)
end Go.Proofs.Ytcffabfaefbjcaa
