/-
  container/heap's down (chapter 15).
-/
import Derived.Test.YtcmmmmpdehfefaaHUp
namespace Go.Proofs.Ytcmmmmpdehfefaa
set_option linter.unusedVariables false
set_option linter.unusedSimpArgs false
open Go.RowKit
/-- the child that is ahead -/
def child (L : List Pr) (i m : Nat) : Option (Nat × Pr) :=
  if m ≤ 2 * i + 1 then none else match L[2 * i + 1]? with
    | none => none
    | some q1 => if 2 * i + 1 + 1 < m then match L[2 * i + 1 + 1]? with
        | none => some (2 * i + 1, q1)
        | some q2 => if lessB q2 q1 then some (2 * i + 1 + 1, q2) else some (2 * i + 1, q1)
      else some (2 * i + 1, q1)
/-- down, by definition -/
def downL : Nat → List Pr → Nat → Nat → List Pr × Nat
  | 0, L, i, _ => (L, i)
  | f + 1, L, i, m => match L[i]?, child L i m with
    | some p, some (j, q) => if lessB q p then downL f (swapL L i j p q) j m else (L, i)
    | _, _ => (L, i)
/-- on the way down -/
structure DnRel (w wr : World) (hb mb rb cap n m i0 : Nat) (L : List Pr) (R : List Pr × Nat) (i : Nat) (L' : List Pr) (f : Nat) : Prop where
  top : HTop wr hb mb rb n cap
  row : HRow wr rb cap L'
  len : L'.length = n
  lt : i < n
  ge : i0 ≤ i
  fuel : m ≤ i + f
  to : downL f L' i m = R
  touch : Touch (RowSet rb L) w wr
  sub : ∀ k, RowSet rb L' k → RowSet rb L k
theorem DnRel.stop {w wr : World} {hb mb rb cap n m i0 : Nat} {L L' : List Pr} {R : List Pr × Nat} {i f : Nat} (h : DnRel w wr hb mb rb cap n m i0 L R i L' f) (hs : child L' i m = none ∨ ∃ p j q, L'[i]? = some p ∧ child L' i m = some (j, q) ∧ lessB q p = false) : R = (L', i) := by
  have ht := h.to
  cases f with
  | zero => exact ht.symm
  | succ g =>
    rw [downL] at ht
    rcases hs with h0 | ⟨p, j, q, hp, hq, hl⟩
    · rw [h0] at ht
      split at ht
      · rename_i h2; cases h2
      · exact ht.symm
    · simp only [hp, hq, hl, Bool.false_eq_true, if_false] at ht
      exact ht.symm
theorem child_lt {L : List Pr} {i m j : Nat} {q : Pr} (h : child L i m = some (j, q)) : i < j ∧ j < m ∧ L[j]? = some q := by
  unfold child at h
  split at h
  · cases h
  · split at h
    · cases h
    · rename_i q1 h1
      split at h
      · split at h
        · cases h; exact ⟨by omega, by omega, h1⟩
        · rename_i q2 h2
          split at h
          · cases h; exact ⟨by omega, by omega, h2⟩
          · cases h; exact ⟨by omega, by omega, h1⟩
      · cases h; exact ⟨by omega, by omega, h1⟩
theorem DnRel.step {w wr w0 w1 : World} {hb mb rb cap n m i0 : Nat} {L L' : List Pr} {R : List Pr × Nat} {i f j : Nat} {p q : Pr} (h : DnRel w wr hb mb rb cap n m i0 L R i L' f) (hm : m ≤ n) (hp : L'[i]? = some p) (hq : child L' i m = some (j, q)) (hl : lessB q p = true)
    (ht0 : HTop w0 hb mb rb n cap) (hr0 : HRow w0 rb cap L') (hto : Touch (RowSet rb L) w w0) (hr : HRow w1 rb cap (swapL L' i j p q)) (ht : Touch (RowSet rb L') w0 w1) : DnRel w w1 hb mb rb cap n m i0 L R j (swapL L' i j p q) (f - 1) := by
  obtain ⟨c1, c2, c3⟩ := child_lt hq
  have hf := h.fuel
  have hge := h.ge
  have hto' := h.to
  obtain ⟨g, rfl⟩ : ∃ g, f = g + 1 := ⟨f - 1, by omega⟩
  refine ⟨ht0.touch hr0 ht, hr, by rw [swapL_length]; exact h.len, by omega, by omega, by simp; omega, ?_, hto.trans (ht.mono h.sub), fun x hx => h.sub x (swapL_set hp c3 x hx)⟩
  rw [downL] at hto'
  simp only [hp, hq, hl, if_true] at hto'
  exact hto'
theorem down_ret (a b : Nat) : Ending.returned (.bool (decide ((a : Int) < (b : Int)))) = Ending.returned (.bool (decide (a < b))) := by simp
set_option maxHeartbeats 4000000 in
set_option maxRecDepth 100000 in
theorem down_any (hb mb rb cap n m i0 : Nat) (L : List Pr) (w : World) (ht : HTop w hb mb rb n cap) (h : HRow w rb cap L) (hn : L.length = n) (hi : i0 < n) (hm : m ≤ n) (hsm : n ≤ 1000000) :
    Calls Try.prog 36 #[.iface 60 (.pointer (some ⟨hb, 0, none⟩)), .int .i64 (i0 : Int), .int .i64 (m : Int)] w fun e w' => e = .returned (.bool (decide (i0 < (downL m L i0 m).2))) ∧ HRow w' rb cap (downL m L i0 m).1 ∧ Touch (RowSet rb L) w w' := by
  have HS := Lib.hid (show DnRel w w hb mb rb cap n m i0 L (downL m L i0 m) i0 L m from ⟨ht, h, hn, hi, Nat.le_refl _, by omega, rfl, Touch.refl _ _, fun _ h => h⟩)
  generalize downL m L i0 m = R at *
  clear ht h hn
  go_enter Try.func36, Try.ntmps36
  go_wp2_with fail
  go_loopw [7] (fun iv wr => ∃ (i : Nat) (L' : List Pr) (f : Nat), iv = .int .i64 i ∧ DnRel w wr hb mb rb cap n m i0 L R i L' f) (fun iv _ => n - (intOf iv).toNat)
  case atStart => exact ⟨i0, L, m, rfl, HS.out⟩
  case round =>
    obtain ⟨i, L', f, rfl, hr⟩ := hrel
    have HR := Lib.hid hr
    have hin := hr.lt
    have hge := hr.ge
    clear hr
    obtain ⟨j1, hj1⟩ : ∃ j1, 2 * i + 1 = j1 := ⟨_, rfl⟩
    have hc1 : 2 * (i : Int) + 1 = (j1 : Int) := by omega
    have HJ1 := Lib.hid hj1
    by_cases b1 : m ≤ j1
    · have HE := Lib.hid (HR.out.stop (.inl (by unfold child; rw [if_pos (by omega)])))
      clear hj1
      go_wp2_with fail
      go_ret
      exact ⟨by rw [HE.out]; first | rfl | exact down_ret _ _, by rw [HE.out]; exact HR.out.row, HR.out.touch⟩
    · have hj1n : j1 < n := by omega
      obtain ⟨p, hp⟩ : ∃ p, L'[i]? = some p := ⟨L'[i]'(by rw [HR.out.len]; exact hin), List.getElem?_eq_getElem _⟩
      obtain ⟨q1, hq1⟩ : ∃ q, L'[j1]? = some q := ⟨L'[j1]'(by rw [HR.out.len]; exact hj1n), List.getElem?_eq_getElem _⟩
      have HP := Lib.hid hp
      have HQ1 := Lib.hid hq1
      obtain ⟨j2, hj2⟩ : ∃ j2, j1 + 1 = j2 := ⟨_, rfl⟩
      have hc2 : (j1 : Int) + 1 = (j2 : Int) := by omega
      have HJ2 := Lib.hid hj2
      have hm1 := met_less _ _ _ HR.out.top.cell
      clear hp hq1
      by_cases b2 : j2 < m
      · obtain ⟨q2, hq2⟩ : ∃ q, L'[j2]? = some q := ⟨L'[j2]'(by rw [HR.out.len]; omega), List.getElem?_eq_getElem _⟩
        have HQ2 := Lib.hid hq2
        by_cases hl2 : lessB q2 q1 = true
        · have HC := Lib.hid (show child L' i m = some (j2, q2) by unfold child; rw [if_neg (by omega), hj1]; simp only [HQ1.out]; rw [if_pos (by omega), hj2]; simp only [hq2, hl2, if_true])
          clear hq2 hj1 hj2
          go_wp2_with fail
          refine (less_any rb cap j2 j1 n L' q2 q1 wr HR.out.row HR.out.len HQ2.out HQ1.out).mono ?_
          rintro e wl ⟨rfl, ml, hwl⟩
          rw [hl2]
          have HT1 := Lib.hid (show HTop wl hb mb rb n cap by rw [hwl]; exact HR.out.top.drewN ml)
          have HR1 := Lib.hid (show HRow wl rb cap L' by rw [hwl]; exact HR.out.row.drewN ml)
          have HU1 := Lib.hid (show Touch (RowSet rb L) w wl by rw [hwl]; exact HR.out.touch.drewN ml)
          have hm2 := met_less _ _ _ HT1.out.cell
          clear hl2 hwl hm1
          by_cases hl : lessB q2 p = true
          · have HL := Lib.hid hl
            go_wp2_with fail
            refine (less_any rb cap j2 i n L' q2 p wl HR1.out HR.out.len HQ2.out HP.out).mono ?_
            rintro e w1 ⟨rfl, m1, hw1⟩
            rw [hl]
            have HT2 := Lib.hid (show HTop w1 hb mb rb n cap by rw [hw1]; exact HT1.out.drewN m1)
            have HR2 := Lib.hid (show HRow w1 rb cap L' by rw [hw1]; exact HR1.out.drewN m1)
            have HU2 := Lib.hid (show Touch (RowSet rb L) w w1 by rw [hw1]; exact HU1.out.drewN m1)
            have hm3 := met_swap _ _ _ HT2.out.cell
            clear hl hw1 hm2
            go_wp2_with fail
            refine (swap_any rb cap i j2 n L' p q2 w1 HR2.out HR.out.len HP.out HQ2.out (by have := HJ1.out; have := HJ2.out; omega)).mono ?_
            rintro e w2 ⟨rfl, hr2, ht2⟩
            have HN := Lib.hid (HR.out.step hm HP.out HC.out HL.out HT2.out HR2.out HU2.out hr2 ht2)
            have HIJ := Lib.hid (child_lt HC.out)
            clear hr2 ht2 hm3
            go_wp2_with fail
            go_roundw
            case rel => exact ⟨j2, _, _, rfl, HN.out⟩
            case measure => simp [intOf]; have := HIJ.out; omega
          · rw [Bool.not_eq_true] at hl
            have HE := Lib.hid (HR.out.stop (.inr ⟨p, j2, q2, HP.out, HC.out, hl⟩))
            go_wp2_with fail
            refine (less_any rb cap j2 i n L' q2 p wl HR1.out HR.out.len HQ2.out HP.out).mono ?_
            rintro e w1 ⟨rfl, m1, hw1⟩
            rw [hl]
            have HR2 := Lib.hid (show HRow w1 rb cap L' by rw [hw1]; exact HR1.out.drewN m1)
            have HU2 := Lib.hid (show Touch (RowSet rb L) w w1 by rw [hw1]; exact HU1.out.drewN m1)
            clear hl hw1 hm2
            go_wp2_with fail
            go_ret
            exact ⟨by rw [HE.out]; first | rfl | exact down_ret _ _, by rw [HE.out]; exact HR2.out, HU2.out⟩
        · rw [Bool.not_eq_true] at hl2
          have HC := Lib.hid (show child L' i m = some (j1, q1) by unfold child; rw [if_neg (by omega), hj1]; simp only [HQ1.out]; rw [if_pos (by omega), hj2]; simp only [hq2, hl2, Bool.false_eq_true, if_false])
          clear hq2 hj1 hj2
          go_wp2_with fail
          refine (less_any rb cap j2 j1 n L' q2 q1 wr HR.out.row HR.out.len HQ2.out HQ1.out).mono ?_
          rintro e wl ⟨rfl, ml, hwl⟩
          rw [hl2]
          have HT1 := Lib.hid (show HTop wl hb mb rb n cap by rw [hwl]; exact HR.out.top.drewN ml)
          have HR1 := Lib.hid (show HRow wl rb cap L' by rw [hwl]; exact HR.out.row.drewN ml)
          have HU1 := Lib.hid (show Touch (RowSet rb L) w wl by rw [hwl]; exact HR.out.touch.drewN ml)
          have hm2 := met_less _ _ _ HT1.out.cell
          clear hl2 hwl hm1
          by_cases hl : lessB q1 p = true
          · have HL := Lib.hid hl
            go_wp2_with fail
            refine (less_any rb cap j1 i n L' q1 p wl HR1.out HR.out.len HQ1.out HP.out).mono ?_
            rintro e w1 ⟨rfl, m1, hw1⟩
            rw [hl]
            have HT2 := Lib.hid (show HTop w1 hb mb rb n cap by rw [hw1]; exact HT1.out.drewN m1)
            have HR2 := Lib.hid (show HRow w1 rb cap L' by rw [hw1]; exact HR1.out.drewN m1)
            have HU2 := Lib.hid (show Touch (RowSet rb L) w w1 by rw [hw1]; exact HU1.out.drewN m1)
            have hm3 := met_swap _ _ _ HT2.out.cell
            clear hl hw1 hm2
            go_wp2_with fail
            refine (swap_any rb cap i j1 n L' p q1 w1 HR2.out HR.out.len HP.out HQ1.out (by have := HJ1.out; have := HJ2.out; omega)).mono ?_
            rintro e w2 ⟨rfl, hr2, ht2⟩
            have HN := Lib.hid (HR.out.step hm HP.out HC.out HL.out HT2.out HR2.out HU2.out hr2 ht2)
            have HIJ := Lib.hid (child_lt HC.out)
            clear hr2 ht2 hm3
            go_wp2_with fail
            go_roundw
            case rel => exact ⟨j1, _, _, rfl, HN.out⟩
            case measure => simp [intOf]; have := HIJ.out; omega
          · rw [Bool.not_eq_true] at hl
            have HE := Lib.hid (HR.out.stop (.inr ⟨p, j1, q1, HP.out, HC.out, hl⟩))
            go_wp2_with fail
            refine (less_any rb cap j1 i n L' q1 p wl HR1.out HR.out.len HQ1.out HP.out).mono ?_
            rintro e w1 ⟨rfl, m1, hw1⟩
            rw [hl]
            have HR2 := Lib.hid (show HRow w1 rb cap L' by rw [hw1]; exact HR1.out.drewN m1)
            have HU2 := Lib.hid (show Touch (RowSet rb L) w w1 by rw [hw1]; exact HU1.out.drewN m1)
            clear hl hw1 hm2
            go_wp2_with fail
            go_ret
            exact ⟨by rw [HE.out]; first | rfl | exact down_ret _ _, by rw [HE.out]; exact HR2.out, HU2.out⟩
      · have HC := Lib.hid (show child L' i m = some (j1, q1) by unfold child; rw [if_neg (by omega), hj1]; simp only [HQ1.out]; rw [if_neg (by omega)])
        clear hj1 hj2
        have HT1 := Lib.hid HR.out.top
        have HR1 := Lib.hid HR.out.row
        have HU1 := Lib.hid HR.out.touch
        by_cases hl : lessB q1 p = true
        · have HL := Lib.hid hl
          go_wp2_with fail
          refine (less_any rb cap j1 i n L' q1 p wr HR1.out HR.out.len HQ1.out HP.out).mono ?_
          rintro e w1 ⟨rfl, m1, hw1⟩
          rw [hl]
          have HT2 := Lib.hid (show HTop w1 hb mb rb n cap by rw [hw1]; exact HT1.out.drewN m1)
          have HR2 := Lib.hid (show HRow w1 rb cap L' by rw [hw1]; exact HR1.out.drewN m1)
          have HU2 := Lib.hid (show Touch (RowSet rb L) w w1 by rw [hw1]; exact HU1.out.drewN m1)
          have hm3 := met_swap _ _ _ HT2.out.cell
          clear hl hw1 hm1
          go_wp2_with fail
          refine (swap_any rb cap i j1 n L' p q1 w1 HR2.out HR.out.len HP.out HQ1.out (by have := HJ1.out; have := HJ2.out; omega)).mono ?_
          rintro e w2 ⟨rfl, hr2, ht2⟩
          have HN := Lib.hid (HR.out.step hm HP.out HC.out HL.out HT2.out HR2.out HU2.out hr2 ht2)
          have HIJ := Lib.hid (child_lt HC.out)
          clear hr2 ht2 hm3
          go_wp2_with fail
          go_roundw
          case rel => exact ⟨j1, _, _, rfl, HN.out⟩
          case measure => simp [intOf]; have := HIJ.out; omega
        · rw [Bool.not_eq_true] at hl
          have HE := Lib.hid (HR.out.stop (.inr ⟨p, j1, q1, HP.out, HC.out, hl⟩))
          go_wp2_with fail
          refine (less_any rb cap j1 i n L' q1 p wr HR1.out HR.out.len HQ1.out HP.out).mono ?_
          rintro e w1 ⟨rfl, m1, hw1⟩
          rw [hl]
          have HR2 := Lib.hid (show HRow w1 rb cap L' by rw [hw1]; exact HR1.out.drewN m1)
          have HU2 := Lib.hid (show Touch (RowSet rb L) w w1 by rw [hw1]; exact HU1.out.drewN m1)
          clear hl hw1 hm1
          go_wp2_with fail
          go_ret
          exact ⟨by rw [HE.out]; first | rfl | exact down_ret _ _, by rw [HE.out]; exact HR2.out, HU2.out⟩
end Go.Proofs.Ytcmmmmpdehfefaa
