/-
  container/heap's up (chapter 15).
-/
import Derived.Test.YtcmmmmpdehfefaaHSwap
namespace Go.Proofs.Ytcmmmmpdehfefaa
set_option linter.unusedVariables false
set_option linter.unusedSimpArgs false
open Go.RowKit
/-- the heap's own block -/
def HTop (w : World) (hb mb rb n cap : Nat) : Prop := w.heap[hb]? = some (.cells #[.slice (some ⟨rb, 0, none⟩) n cap, .map (some mb)] 54 (0, 0))
theorem HTop.cell {w : World} {hb mb rb n cap : Nat} (h : HTop w hb mb rb n cap) : w.cell? ⟨hb, 0, none⟩ = some (.slice (some ⟨rb, 0, none⟩) n cap) := by rw [cell_of_row _ _ _ _ _ _ h]; rfl
theorem HTop.drewN {w : World} {hb mb rb n cap : Nat} (h : HTop w hb mb rb n cap) (m : Nat) : HTop (w.drewN m) hb mb rb n cap := h
theorem HTop.not_in {w : World} {hb mb rb n cap cap' : Nat} {L : List Pr} (h : HTop w hb mb rb n cap) (hr : HRow w rb cap' L) : ¬ RowSet rb L hb := by
  unfold HTop at h
  rintro (rfl | ⟨p, hp, rfl⟩)
  · obtain ⟨cur, hc, _, _⟩ := hr.row
    rw [h] at hc
    injection hc with hc
    injection hc with _ h2 _
    cases h2
  · obtain ⟨i, hi⟩ := List.getElem?_of_mem hp
    have := hr.pair i p hi
    rw [h] at this
    injection this with hc
    injection hc with _ h2 _
    cases h2
theorem HTop.touch {w w' : World} {hb mb rb n cap cap' : Nat} {L : List Pr} (h : HTop w hb mb rb n cap) (hr : HRow w rb cap' L) (ht : Touch (RowSet rb L) w w') : HTop w' hb mb rb n cap := by
  have := h.not_in hr
  unfold HTop at *
  rw [ht.block _ this]; exact h
theorem swapL_length (L : List Pr) (i j : Nat) (p q : Pr) : (swapL L i j p q).length = L.length := by unfold swapL; rw [List.length_set, List.length_set]
theorem swapL_set {rb : Nat} {L : List Pr} {i j : Nat} {p q : Pr} (hi : L[i]? = some p) (hj : L[j]? = some q) : ∀ k, RowSet rb (swapL L i j p q) k → RowSet rb L k := by
  rintro k (rfl | ⟨r, hr, rfl⟩)
  · exact .inl rfl
  · refine .inr ⟨r, ?_, rfl⟩
    unfold swapL at hr
    rcases List.mem_or_eq_of_mem_set hr with hr | rfl
    · rcases List.mem_or_eq_of_mem_set hr with hr | rfl
      · exact hr
      · exact List.mem_of_getElem? hj
    · exact List.mem_of_getElem? hi
/-- up, by definition -/
def upL : Nat → List Pr → Nat → List Pr
  | 0, L, _ => L
  | f + 1, L, j => if j = 0 then L else match L[j]?, L[(j - 1) / 2]? with
    | some p, some q => if lessB p q then upL f (swapL L ((j - 1) / 2) j q p) ((j - 1) / 2) else L
    | _, _ => L
/-- on the way up -/
structure UpRel (w wr : World) (hb mb rb cap n : Nat) (L R : List Pr) (k : Nat) (L' : List Pr) (f : Nat) : Prop where
  top : HTop wr hb mb rb n cap
  row : HRow wr rb cap L'
  len : L'.length = n
  lt : k < n
  fuel : k ≤ f
  to : upL f L' k = R
  touch : Touch (RowSet rb L) w wr
  sub : ∀ k, RowSet rb L' k → RowSet rb L k
theorem UpRel.step {w wr w1 : World} {hb mb rb cap n : Nat} {L R L' : List Pr} {k f m : Nat} {p q : Pr} (h : UpRel w wr hb mb rb cap n L R k L' f) (h0 : k ≠ 0) (hp : L'[k]? = some p) (hq : L'[(k - 1) / 2]? = some q) (hl : lessB p q = true)
    (hr : HRow w1 rb cap (swapL L' ((k - 1) / 2) k q p)) (ht : Touch (RowSet rb L') (wr.drewN m) w1) : UpRel w w1 hb mb rb cap n L R ((k - 1) / 2) (swapL L' ((k - 1) / 2) k q p) (f - 1) := by
  have hlt := h.lt
  have hf := h.fuel
  refine ⟨(h.top.drewN m).touch (h.row.drewN m) ht, hr, by rw [swapL_length]; exact h.len, by omega, by omega, ?_, ((h.touch.drewN m)).trans (ht.mono h.sub), fun x hx => h.sub x (swapL_set hq hp x hx)⟩
  have := h.to
  obtain ⟨g, rfl⟩ : ∃ g, f = g + 1 := ⟨f - 1, by omega⟩
  rw [upL, if_neg h0] at this
  simp only [hp, hq, hl, if_true] at this
  exact this
theorem UpRel.stop {w wr : World} {hb mb rb cap n : Nat} {L R L' : List Pr} {k f : Nat} (h : UpRel w wr hb mb rb cap n L R k L' f) (hs : k = 0 ∨ ∃ p q, L'[k]? = some p ∧ L'[(k - 1) / 2]? = some q ∧ lessB p q = false) : L' = R := by
  have ht := h.to
  cases f with
  | zero => exact ht
  | succ g =>
    rw [upL] at ht
    rcases hs with h0 | ⟨p, q, hp, hq, hl⟩
    · rw [if_pos h0] at ht; exact ht
    · by_cases h0 : k = 0
      · rw [if_pos h0] at ht; exact ht
      · rw [if_neg h0] at ht
        simp only [hp, hq, hl, Bool.false_eq_true, if_false] at ht
        exact ht
set_option maxHeartbeats 1000000 in
theorem up_any (hb mb rb cap n j : Nat) (L : List Pr) (w : World) (ht : HTop w hb mb rb n cap) (h : HRow w rb cap L) (hn : L.length = n) (hj : j < n) :
    Calls Try.prog 37 #[.iface 60 (.pointer (some ⟨hb, 0, none⟩)), .int .i64 (j : Int)] w fun e w' => e = .returned (.tuple #[]) ∧ HRow w' rb cap (upL j L j) ∧ Touch (RowSet rb L) w w' := by
  have hmax := h.max
  have hlen := h.len
  have hnb : n ≤ 9223372036854775807 := by omega
  have HS := Lib.hid (show UpRel w w hb mb rb cap n L (upL j L j) j L j from ⟨ht, h, hn, hj, Nat.le_refl _, rfl, Touch.refl _ _, fun _ h => h⟩)
  generalize upL j L j = R at *
  clear ht h hlen hn
  go_enter Try.func37, Try.ntmps37
  go_wp2_with fail
  go_loopw [1] (fun jv wr => ∃ (k : Nat) (L' : List Pr) (f : Nat), jv = .int .i64 k ∧ UpRel w wr hb mb rb cap n L R k L' f) (fun jv _ => (intOf jv).toNat)
  case atStart => exact ⟨j, L, j, rfl, HS.out⟩
  case round =>
    obtain ⟨k, L', f, rfl, hr⟩ := hrel
    have HR := Lib.hid hr
    have hk := hr.lt
    clear hr
    by_cases h0 : k = 0
    · have HE := Lib.hid (HR.out.stop (.inl h0))
      subst h0
      go_wp2_with fail
      go_end0
      exact ⟨rfl, by rw [← HE.out]; exact HR.out.row, HR.out.touch⟩
    · obtain ⟨i, hi⟩ : ∃ i, (k - 1) / 2 = i := ⟨_, rfl⟩
      have hik : i < k := by omega
      have hdiv : ((k : Int) - 1) / 2 = (i : Int) := by omega
      have e1 : ((i : Int) == (k : Int)) = false := by rw [beq_eq_false_iff_ne]; omega
      have e2 : (i == k) = false := by rw [beq_eq_false_iff_ne]; omega
      have hk1 : 1 ≤ k := by omega
      obtain ⟨p, hp⟩ : ∃ p, L'[k]? = some p := ⟨L'[k]'(by rw [HR.out.len]; exact hk), List.getElem?_eq_getElem _⟩
      obtain ⟨q, hq⟩ : ∃ q, L'[i]? = some q := ⟨L'[i]'(by rw [HR.out.len]; omega), List.getElem?_eq_getElem _⟩
      have HP := Lib.hid hp
      have HQ := Lib.hid hq
      have HI := Lib.hid hi
      have hm1 := met_less _ _ _ HR.out.top.cell
      clear hp hq hi
      by_cases hl : lessB p q = true
      · have HL := Lib.hid hl
        go_wp2_with fail
        refine (less_any rb cap k i n L' p q wr HR.out.row HR.out.len HP.out HQ.out).mono ?_
        rintro e w1 ⟨rfl, m, hw1⟩
        rw [hl]
        have HT1 := Lib.hid (show HTop w1 hb mb rb n cap by rw [hw1]; exact HR.out.top.drewN m)
        have HR1 := Lib.hid (show HRow w1 rb cap L' by rw [hw1]; exact HR.out.row.drewN m)
        have HW1 := Lib.hid hw1
        have hm2 := met_swap _ _ _ HT1.out.cell
        clear hl hw1 hm1
        go_wp2_with fail
        refine (swap_any rb cap i k n L' q p w1 HR1.out HR.out.len HQ.out HP.out (by omega)).mono ?_
        rintro e w2 ⟨rfl, hr2, ht2⟩
        have HN := Lib.hid (HR.out.step (m := m) (w1 := w2) h0 HP.out (by rw [HI.out]; exact HQ.out) HL.out (by rw [HI.out]; exact hr2) (by rw [← HW1.out]; exact ht2))
        clear hr2 ht2 hm2
        go_wp2_with fail
        go_roundw
        case rel => exact ⟨i, _, _, rfl, by have := HN.out; rw [HI.out] at this; exact this⟩
        case measure => simp [intOf]; omega
      · rw [Bool.not_eq_true] at hl
        have HE := Lib.hid (HR.out.stop (.inr ⟨p, q, HP.out, by rw [HI.out]; exact HQ.out, hl⟩))
        go_wp2_with fail
        refine (less_any rb cap k i n L' p q wr HR.out.row HR.out.len HP.out HQ.out).mono ?_
        rintro e w1 ⟨rfl, m, hw1⟩
        rw [hl]
        have HR1 := Lib.hid (show HRow w1 rb cap L' by rw [hw1]; exact HR.out.row.drewN m)
        have HT := Lib.hid (show Touch (RowSet rb L) w w1 by rw [hw1]; exact HR.out.touch.drewN m)
        clear hl hw1 hm1
        go_wp2_with fail
        go_end0
        exact ⟨rfl, by rw [← HE.out]; exact HR1.out, HT.out⟩
end Go.Proofs.Ytcmmmmpdehfefaa
