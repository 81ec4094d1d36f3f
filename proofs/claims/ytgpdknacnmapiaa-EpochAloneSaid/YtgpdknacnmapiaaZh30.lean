/-
  Parts of a proof, put together: Fl, Fm.
-/
import Derived.Test.YtgpdknacnmapiaaZh01
import Derived.Test.YtgpdknacnmapiaaZh02
import Derived.Test.YtgpdknacnmapiaaZh03
import Derived.Test.YtgpdknacnmapiaaZh04
import Derived.Test.YtgpdknacnmapiaaZh05
import Derived.Test.YtgpdknacnmapiaaZh06
import Derived.Test.YtgpdknacnmapiaaZh07
import Derived.Test.YtgpdknacnmapiaaZh08
import Derived.Test.YtgpdknacnmapiaaZh09
import Derived.Test.YtgpdknacnmapiaaZh10
import Derived.Test.YtgpdknacnmapiaaZh11
import Derived.Test.YtgpdknacnmapiaaZh12
import Derived.Test.YtgpdknacnmapiaaZh13
import Derived.Test.YtgpdknacnmapiaaZh14
import Derived.Test.YtgpdknacnmapiaaZh15
import Derived.Test.YtgpdknacnmapiaaZh16
import Derived.Test.YtgpdknacnmapiaaZh17
import Derived.Test.YtgpdknacnmapiaaZh18
import Derived.Test.YtgpdknacnmapiaaZh19
import Derived.Test.YtgpdknacnmapiaaZh20
import Derived.Test.YtgpdknacnmapiaaZh21
import Derived.Test.YtgpdknacnmapiaaZh22
import Derived.Test.YtgpdknacnmapiaaZh23
import Derived.Test.YtgpdknacnmapiaaZh24
import Derived.Test.YtgpdknacnmapiaaZh25
import Derived.Test.YtgpdknacnmapiaaZh26
import Derived.Test.YtgpdknacnmapiaaZh27
import Derived.Test.YtgpdknacnmapiaaZh28
import Derived.Test.YtgpdknacnmapiaaZh29
import Derived.Deep.QuietTactic
namespace Go.Proofs.Ytgpdknacnmapiaa
set_option linter.unusedVariables false
set_option linter.unusedSimpArgs false
open Go.RowKit
open Go
/-- the epoch and the pins of the cells -/
structure Sh (l : List Int) (E : Int) (pv : Nat → Int) : Prop where
  len : l.length = 771
  e : l.getD 2 0 = E
  p : ∀ i, i < 4 → l.getD (5 + i) 0 = pv i
theorem Sh.setE {l : List Int} {E : Int} {pv : Nat → Int} (h : Sh l E pv) (v : Int) : Sh (l.set 2 v) v pv := by
  have := h.len
  refine ⟨by simp [h.len], by rw [getD_set _ _ _ _ (by omega), if_pos rfl], fun i hi => ?_⟩
  rw [getD_set _ _ _ _ (by omega), if_neg (by omega)]; exact h.p i hi
theorem Sh.setP {l : List Int} {E : Int} {pv : Nat → Int} (h : Sh l E pv) (c : Nat) (hc : c < 4) (v : Int) : Sh (l.set (5 + c) v) E (upd pv c v) := by
  have := h.len
  refine ⟨by simp [h.len], by rw [getD_set _ _ _ _ (by omega), if_neg (by omega)]; exact h.e, fun i hi => ?_⟩
  rw [getD_set _ _ _ _ (by omega)]
  unfold upd
  by_cases e : i = c
  · subst e; rw [if_pos rfl, if_pos rfl]
  · rw [if_neg (by omega), if_neg e]; exact h.p i hi
section
variable (c n : Nat) (l : List Int)
theorem al_a0 : alone c (n + 1) .a0 l = alone c n (.a1 (l.getD 2 0)) l := by
  rw [alone_succ]; rfl
theorem al_a1 (e : Int) (h : l.getD 5 0 = 0 ∨ l.getD 5 0 = e + 1) : alone c (n + 1) (.a1 e) l = alone c n (.a2 e 0 (l.getD 5 0)) l := by
  rw [alone_succ]
  show aloneM c n l (aftS (.a1 e) (l.getD 5 0)) = _
  simp only [aftS]; rw [if_pos h]; rfl
theorem al_a1f (e : Int) (h : ¬ (l.getD 5 0 = 0 ∨ l.getD 5 0 = e + 1)) : alone c (n + 1) (.a1 e) l = some (l, [0]) := by
  rw [alone_succ]
  show aloneM c n l (aftS (.a1 e) (l.getD 5 0)) = _
  simp only [aftS]; rw [if_neg h]; rfl
theorem al_a2 (e x : Int) (i : Nat) (hi : i + 1 < 4) (h : l.getD (5 + (i + 1)) 0 = 0 ∨ l.getD (5 + (i + 1)) 0 = e + 1) : alone c (n + 1) (.a2 e i x) l = alone c n (.a2 e (i + 1) (l.getD (5 + (i + 1)) 0)) l := by
  rw [alone_succ]
  have e1 : yS c (.a2 e i x) l = l.getD (5 + (i + 1)) 0 := by simp only [yS, acK, acA, if_pos hi, if_true]
  have e2 : lS c (.a2 e i x) l = l := by simp only [lS, acK, if_pos hi, if_true]
  rw [e1, e2]
  simp only [aftS]; rw [if_pos hi, if_pos h]; rfl
theorem al_a2f (e x : Int) (i : Nat) (hi : i + 1 < 4) (h : ¬ (l.getD (5 + (i + 1)) 0 = 0 ∨ l.getD (5 + (i + 1)) 0 = e + 1)) : alone c (n + 1) (.a2 e i x) l = some (l, [0]) := by
  rw [alone_succ]
  have e1 : yS c (.a2 e i x) l = l.getD (5 + (i + 1)) 0 := by simp only [yS, acK, acA, if_pos hi, if_true]
  have e2 : lS c (.a2 e i x) l = l := by simp only [lS, acK, if_pos hi, if_true]
  rw [e1, e2]
  simp only [aftS]; rw [if_pos hi, if_neg h]; rfl
theorem al_a2e (e x : Int) (h : l.getD 2 0 = e) : alone c (n + 1) (.a2 e 3 x) l = some (l.set 2 (e + 1), [1]) := by
  rw [alone_succ]
  have e1 : yS c (.a2 e 3 x) l = 1 := by
    show (if l.getD 2 0 = e then (1 : Int) else 0) = 1
    rw [if_pos h]
  have e2 : lS c (.a2 e 3 x) l = l.set 2 (e + 1) := by
    show (if l.getD 2 0 = e then l.set 2 (e + 1) else l) = _
    rw [if_pos h]
  rw [e1, e2]; rfl
end
theorem advT {l : List Int} {E : Int} {pv : Nat → Int} (c : Nat) (h : Sh l E pv) (ha : ∀ i, i < 4 → pv i = 0 ∨ pv i = E + 1) : alone c 6 .a0 l = some (l.set 2 (E + 1), [1]) := by
  have p := fun i hi => (h.p i hi).symm ▸ ha i hi
  rw [al_a0, h.e, al_a1 _ _ _ _ (p 0 (by omega)), al_a2 _ _ _ _ _ _ (by omega) (p 1 (by omega)), al_a2 _ _ _ _ _ _ (by omega) (p 2 (by omega)), al_a2 _ _ _ _ _ _ (by omega) (p 3 (by omega)), al_a2e _ _ _ _ _ h.e]
theorem advF {l : List Int} {E : Int} {pv : Nat → Int} (c : Nat) (h : Sh l E pv) (ha : ∃ i, i < 4 ∧ ¬ (pv i = 0 ∨ pv i = E + 1)) : alone c 6 .a0 l = some (l, [0]) := by
  obtain ⟨i, hi, hn⟩ := ha
  have p : ∀ i, i < 4 → ¬ (l.getD (5 + i) 0 = 0 ∨ l.getD (5 + i) 0 = E + 1) → ¬ (pv i = 0 ∨ pv i = E + 1) := fun i hi h2 => by rw [← h.p i hi]; exact h2
  rw [← h.p i hi] at hn
  rw [al_a0, h.e]
  by_cases h0 : l.getD 5 0 = 0 ∨ l.getD 5 0 = E + 1
  · rw [al_a1 _ _ _ _ h0]
    by_cases h1 : l.getD (5 + (0 + 1)) 0 = 0 ∨ l.getD (5 + (0 + 1)) 0 = E + 1
    · rw [al_a2 _ _ _ _ _ _ (by omega) h1]
      by_cases h2 : l.getD (5 + (0 + 1 + 1)) 0 = 0 ∨ l.getD (5 + (0 + 1 + 1)) 0 = E + 1
      · rw [al_a2 _ _ _ _ _ _ (by omega) h2]
        have h3 : ¬ (l.getD (5 + (0 + 1 + 1 + 1)) 0 = 0 ∨ l.getD (5 + (0 + 1 + 1 + 1)) 0 = E + 1) := by
          match i, hi, hn with
          | 0, _, hn => exact absurd h0 hn
          | 1, _, hn => exact absurd h1 hn
          | 2, _, hn => exact absurd h2 hn
          | 3, _, hn => exact hn
        rw [al_a2f _ _ _ _ _ _ (by omega) h3]
      · rw [al_a2f _ _ _ _ _ _ (by omega) h2]
    · rw [al_a2f _ _ _ _ _ _ (by omega) h1]
  · rw [al_a1f _ _ _ _ h0]
theorem pinT {l : List Int} {E : Int} {pv : Nat → Int} (c : Nat) (hc : c < 4) (h : Sh l E pv) : alone c 3 .p0 l = some (l.set (5 + c) (E + 1), [E]) := by
  have h2 := (h.setP c hc (E + 1)).e
  rw [alone_succ]
  show alone c 2 (.p1 (l.getD 2 0)) l = _
  rw [h.e, alone_succ]
  show alone c 1 (.p2 E) (l.set (5 + c) (E + 1)) = _
  rw [alone_succ]
  show aloneM c 0 (l.set (5 + c) (E + 1)) (aftS (.p2 E) ((l.set (5 + c) (E + 1)).getD 2 0)) = _
  rw [h2]
  simp only [aftS, if_true]; rfl
theorem unpinT (l : List Int) (c : Nat) : alone c 1 .u0 l = some (l.set (5 + c) 0, []) := rfl
/-- a run at rest -/
def WG (R : Nat) (w : World) (E : Int) (pv : Nat → Int) : Prop := ∃ l, WV (fun b => b ≠ R) R w l (fun _ => none) ∧ Sh l E pv ∧ CB 1000 l
theorem WG.lt {R : Nat} {w : World} {E : Int} {pv : Nat → Int} (h : WG R w E pv) : R < w.heap.size := by obtain ⟨l, h, -⟩ := h; exact h.lt
theorem WG.cell {R : Nat} {w : World} {E : Int} {pv : Nat → Int} (h : WG R w E pv) : ∃ b o cap, w.cell? ⟨R, 0, none⟩ = some (.slice (some ⟨b, o, none⟩) 771 cap) ∧ w.cell? ⟨b, o + 2, none⟩ = some (.int .i64 E) := by
  obtain ⟨l, h, hs, -⟩ := h
  obtain ⟨b, o, cap, h1, h2⟩ := h.cell
  exact ⟨b, o, cap, h1, by rw [h2 2 (by omega), hs.e]⟩
theorem newL_getD (k : Nat) (hk : k < 292) (h1 : k ≠ 1) : (newL 160).getD k 0 = 0 := by
  rw [List.getD_eq_getElem?_getD, newL_get 160 k (by omega), if_neg h1, if_neg (by omega)]; rfl
theorem newL_cb (N : Int) (hN : 0 ≤ N) : CB N (newL 160) := fun i h1 h2 => by rw [newL_getD i (by omega) (by omega)]; omega
theorem newRun3 (w : World) : Calls Try.prog 11 #[] w fun e w' => ∃ R, e = .returned (.pointer (some ⟨R, 0, none⟩)) ∧ w.heap.size ≤ R ∧ Below w.heap.size w w' ∧ WV (fun b => b ≠ R) R w' (newL 160) (fun _ => none) := by
  refine (new_run13 w).mono ?_
  rintro e w' ⟨R, cv, d1, d2, N, cur, rfl, h1, h2, rfl, hc, hM⟩
  have hR := hM.hb 1 _ _ _ rfl
  have hne : N ≠ R := fun e => by have := hM.nd 0 1 N _ _ _ _ rfl (by rw [e]; rfl); omega
  refine ⟨R, rfl, (hM.st 1 _ _ _ rfl).elim (fun f => f.elim) id, hM.bel, newL_len 160, _, _, ⟨hR, run0_ok _ _ _, ⟨N, 0, 771, rfl, hne, newL_len 160, fun i x hx => ?_, newL_fit 160⟩, h1.weak fun b hb _ => hb.1, h2.weak fun b hb _ => hb.1⟩, fun c hc => ?_⟩
  · rw [Nat.zero_add]; exact (hM.hb 0 _ _ _ rfl).cell (hc i x hx)
  · rfl
theorem KeepR.bel {R B : Nat} {w1 w2 : World} (h : KeepR R w1 w2) (hB : B ≤ R) (hw : B ≤ w1.heap.size) : Below B w1 w2 :=
  ⟨h.os, h.tape, h.output, h.size, fun k hk => h.old k (by omega) (by omega)⟩
end Go.Proofs.Ytgpdknacnmapiaa
namespace Go.Proofs.Ytgpdknacnmapiaa
set_option linter.unusedVariables false
set_option linter.unusedSimpArgs false
/-- which program -/
def kdS : S3 → Int
  | .p0 => 0
  | .p1 _ => 0
  | .p2 _ => 0
  | .p3 _ _ => 0
  | .u0 => 1
  | .a0 => 2
  | .a1 _ => 2
  | .a2 _ _ _ => 2
structure HI (N : Int) (l : List Int) (os : Nat → Option S3) (pin : Nat → Bool) (at_ does : Nat → Int) : Prop where
  len : l.length = 771
  cb : CB N l
  bd : ∀ c st, c < 4 → os c = some st → Bs3 N st
  kd : ∀ c st, c < 4 → os c = some st → kdS st = does c
  pn : ∀ i, i < 4 → pin i = true → 0 ≤ at_ i ∧ l.getD 2 0 ≤ at_ i + 1 ∧ l.getD (5 + i) 0 = at_ i + 1 ∧ ∀ st, os i = some st → kdS st = 2
  p2 : ∀ c e, c < 4 → os c = some (.p2 e) → l.getD (5 + c) 0 = e + 1
  a1 : ∀ c e, c < 4 → os c = some (.a1 e) → e ≤ l.getD 2 0
  a2 : ∀ c e m x, c < 4 → os c = some (.a2 e m x) → e ≤ l.getD 2 0 ∧ ∀ i, i < 4 → pin i = true → at_ i + 1 ≤ e → m < i
section
variable {N : Int} {l : List Int} {os : Nat → Option S3} {pin : Nat → Bool} {at_ does : Nat → Int}
theorem upd_oth {α : Type} (f : Nat → α) (c : Nat) (a : α) {k : Nat} (h : k ≠ c) : upd f c a k = f k := by unfold upd; rw [if_neg h]
theorem HI.mono (h : HI N l os pin at_ does) {M : Int} (hm : N ≤ M) : HI M l os pin at_ does := ⟨h.len, h.cb.mono hm, fun c st hc ho => (h.bd c st hc ho).mono hm, h.kd, h.pn, h.p2, h.a1, h.a2⟩
theorem HI.move (h : HI N l os pin at_ does) (c : Nat) (hc : c < 4) (st s' : S3) (ho : os c = some st) (hk : kdS s' = kdS st) (hb : Bs3 N s') (h2 : ∀ e, s' = .p2 e → l.getD (5 + c) 0 = e + 1) (h3 : ∀ e, s' = .a1 e → e ≤ l.getD 2 0) (h4 : ∀ e m x, s' = .a2 e m x → e ≤ l.getD 2 0 ∧ ∀ i, i < 4 → pin i = true → at_ i + 1 ≤ e → m < i) : HI N l (upd os c (some s')) pin at_ does := by
  refine ⟨h.len, h.cb, fun d st2 hd e => ?_, fun d st2 hd e => ?_, fun i hi hp => ?_, fun d e2 hd e => ?_, fun d e2 hd e => ?_, fun d e2 m x hd e => ?_⟩
  · by_cases ed : d = c
    · subst ed; rw [upd_self] at e; injection e with e; subst e; exact hb
    · rw [upd_oth _ _ _ ed] at e; exact h.bd d st2 hd e
  · by_cases ed : d = c
    · subst ed; rw [upd_self] at e; injection e with e; subst e; rw [hk]; exact h.kd d st hd ho
    · rw [upd_oth _ _ _ ed] at e; exact h.kd d st2 hd e
  · obtain ⟨g1, g2, g3, g4⟩ := h.pn i hi hp
    refine ⟨g1, g2, g3, fun st2 e => ?_⟩
    by_cases ed : i = c
    · subst ed; rw [upd_self] at e; injection e with e; subst e; rw [hk]; exact g4 st ho
    · rw [upd_oth _ _ _ ed] at e; exact g4 st2 e
  · by_cases ed : d = c
    · subst ed; rw [upd_self] at e; injection e with e; exact h2 e2 e
    · rw [upd_oth _ _ _ ed] at e; exact h.p2 d e2 hd e
  · by_cases ed : d = c
    · subst ed; rw [upd_self] at e; injection e with e; exact h3 e2 e
    · rw [upd_oth _ _ _ ed] at e; exact h.a1 d e2 hd e
  · by_cases ed : d = c
    · subst ed; rw [upd_self] at e; injection e with e; exact h4 e2 m x e
    · rw [upd_oth _ _ _ ed] at e; exact h.a2 d e2 m x hd e
theorem HI.drop (h : HI N l os pin at_ does) (c : Nat) : HI N l (upd os c none) pin at_ does := by
  have key : ∀ d st, upd os c none d = some st → os d = some st := fun d st e => by
    by_cases ed : d = c
    · subst ed; rw [upd_self] at e; cases e
    · rw [upd_oth _ _ _ ed] at e; exact e
  refine ⟨h.len, h.cb, fun d st2 hd e => h.bd d st2 hd (key d _ e), fun d st2 hd e => h.kd d st2 hd (key d _ e), fun i hi hp => ?_, fun d e2 hd e => h.p2 d e2 hd (key d _ e), fun d e2 hd e => h.a1 d e2 hd (key d _ e), fun d e2 m x hd e => h.a2 d e2 m x hd (key d _ e)⟩
  obtain ⟨g1, g2, g3, g4⟩ := h.pn i hi hp
  exact ⟨g1, g2, g3, fun st e => g4 st (key i _ e)⟩
theorem HI.setP (h : HI N l os pin at_ does) (c : Nat) (hc : c < 4) (hpin : pin c = false) (hno : ∀ e, os c ≠ some (.p2 e)) (v : Int) (hv : 0 ≤ v ∧ v ≤ N) : HI N (l.set (5 + c) v) os pin at_ does := by
  have hl := h.len
  have e2 : (l.set (5 + c) v).getD 2 0 = l.getD 2 0 := by rw [getD_set _ _ _ _ (by omega), if_neg (by omega)]
  have ep : ∀ i, i < 4 → i ≠ c → (l.set (5 + c) v).getD (5 + i) 0 = l.getD (5 + i) 0 := fun i hi hne => by rw [getD_set _ _ _ _ (by omega), if_neg (by omega)]
  refine ⟨by simp [hl], h.cb.set _ _ (by omega) hv, h.bd, h.kd, fun i hi hp => ?_, fun d e hd e3 => ?_, fun d e hd e3 => by rw [e2]; exact h.a1 d e hd e3, fun d e m x hd e3 => by rw [e2]; exact h.a2 d e m x hd e3⟩
  · have hne : i ≠ c := fun e => by rw [e, hpin] at hp; cases hp
    obtain ⟨g1, g2, g3, g4⟩ := h.pn i hi hp
    exact ⟨g1, by rw [e2]; exact g2, by rw [ep i hi hne]; exact g3, g4⟩
  · have hne : d ≠ c := fun e' => by subst e'; exact hno e e3
    rw [ep d hd hne]; exact h.p2 d e hd e3
theorem HI.setE (h : HI N l os pin at_ does) (hN : l.getD 2 0 + 1 ≤ N) (hp : ∀ i, i < 4 → pin i = true → l.getD 2 0 ≤ at_ i) : HI N (l.set 2 (l.getD 2 0 + 1)) os pin at_ does := by
  have hl := h.len
  have e2 : (l.set 2 (l.getD 2 0 + 1)).getD 2 0 = l.getD 2 0 + 1 := by rw [getD_set _ _ _ _ (by omega), if_pos rfl]
  have ep : ∀ i, (l.set 2 (l.getD 2 0 + 1)).getD (5 + i) 0 = l.getD (5 + i) 0 := fun i => by rw [getD_set _ _ _ _ (by omega), if_neg (by omega)]
  have h0 := (h.cb 2 (by omega) (by omega)).1
  refine ⟨by simp [hl], h.cb.set _ _ (by omega) (by omega), h.bd, h.kd, fun i hi hpi => ?_, fun d e hd e3 => by rw [ep]; exact h.p2 d e hd e3, fun d e hd e3 => by rw [e2]; have := h.a1 d e hd e3; omega, fun d e m x hd e3 => ?_⟩
  · obtain ⟨g1, g2, g3, g4⟩ := h.pn i hi hpi
    exact ⟨g1, by rw [e2]; have := hp i hi hpi; omega, by rw [ep]; exact g3, g4⟩
  · obtain ⟨g1, g2⟩ := h.a2 d e m x hd e3
    exact ⟨by rw [e2]; omega, g2⟩
theorem HI.pinned (h : HI N l os pin at_ does) (c : Nat) (hc : c < 4) (ho : os c = none) (hcell : l.getD (5 + c) 0 = l.getD 2 0 + 1) : HI N l os (upd pin c true) (upd at_ c (l.getD 2 0)) does := by
  have h0 := (h.cb 2 (by omega) (by omega)).1
  refine ⟨h.len, h.cb, h.bd, h.kd, fun i hi hp => ?_, h.p2, h.a1, fun d e m x hd e3 => ?_⟩
  · by_cases ei : i = c
    · subst ei
      rw [upd_self]
      exact ⟨h0, by omega, hcell, fun st e => by rw [ho] at e; cases e⟩
    · rw [upd_oth _ _ _ ei] at hp ⊢; exact h.pn i hi hp
  · obtain ⟨g1, g2⟩ := h.a2 d e m x hd e3
    refine ⟨g1, fun i hi hp hat => ?_⟩
    by_cases ei : i = c
    · subst ei; rw [upd_self] at hat; omega
    · rw [upd_oth _ _ _ ei] at hp hat; exact g2 i hi hp hat
theorem HI.begin (h : HI N l os pin at_ does) (c : Nat) (hc : c < 4) (dO : Int) (hd : 0 ≤ dO ∧ dO ≤ 2) (ho : os c = none) : HI N l (upd os c (some (iniD dO))) (if dO < 2 then upd pin c false else pin) at_ (upd does c dO) := by
  have hk : kdS (iniD dO) = dO := by
    unfold iniD
    split
    · next e => rw [e]; rfl
    · split
      · next e => rw [e]; rfl
      · show (2 : Int) = dO; omega
  have hb : Bs3 N (iniD dO) := by unfold iniD; split; trivial; split <;> trivial
  have hpin : ∀ i, (if dO < 2 then upd pin c false else pin) i = true → pin i = true ∧ (i = c → dO = 2) := fun i hp => by
    split at hp
    · by_cases ei : i = c
      · subst ei; rw [upd_self] at hp; cases hp
      · rw [upd_oth _ _ _ ei] at hp; exact ⟨hp, fun e => absurd e ei⟩
    · exact ⟨hp, fun _ => by omega⟩
  have hini : ∀ st, iniD dO = st → (∀ e, st ≠ .p2 e) ∧ (∀ e, st ≠ .a1 e) ∧ ∀ e m x, st ≠ .a2 e m x := fun st e => by
    subst e; unfold iniD
    split
    · exact ⟨fun _ h => (by cases h), fun _ h => (by cases h), fun _ _ _ h => by cases h⟩
    · split
      · exact ⟨fun _ h => (by cases h), fun _ h => (by cases h), fun _ _ _ h => by cases h⟩
      · exact ⟨fun _ h => (by cases h), fun _ h => (by cases h), fun _ _ _ h => by cases h⟩
  refine ⟨h.len, h.cb, fun d st2 hd e => ?_, fun d st2 hd e => ?_, fun i hi hp => ?_, fun d e2 hd e => ?_, fun d e2 hd e => ?_, fun d e2 m x hd e => ?_⟩
  · by_cases ed : d = c
    · subst ed; rw [upd_self] at e; injection e with e; subst e; exact hb
    · rw [upd_oth _ _ _ ed] at e; exact h.bd d st2 hd e
  · by_cases ed : d = c
    · subst ed; rw [upd_self] at e; injection e with e; subst e; rw [upd_self]; exact hk
    · rw [upd_oth _ _ _ ed] at e; rw [upd_oth _ _ _ ed]; exact h.kd d st2 hd e
  · obtain ⟨hp1, hp2⟩ := hpin i hp
    obtain ⟨g1, g2, g3, g4⟩ := h.pn i hi hp1
    refine ⟨g1, g2, g3, fun st2 e => ?_⟩
    by_cases ed : i = c
    · subst ed; rw [upd_self] at e; injection e with e; subst e; rw [hk]; exact hp2 rfl
    · rw [upd_oth _ _ _ ed] at e; exact g4 st2 e
  · by_cases ed : d = c
    · subst ed; rw [upd_self] at e; injection e with e; exact absurd rfl ((hini _ e).1 e2)
    · rw [upd_oth _ _ _ ed] at e; exact h.p2 d e2 hd e
  · by_cases ed : d = c
    · subst ed; rw [upd_self] at e; injection e with e; exact absurd rfl ((hini _ e).2.1 e2)
    · rw [upd_oth _ _ _ ed] at e; exact h.a1 d e2 hd e
  · by_cases ed : d = c
    · subst ed; rw [upd_self] at e; injection e with e; exact absurd rfl ((hini _ e).2.2 e2 m x)
    · rw [upd_oth _ _ _ ed] at e
      obtain ⟨g1, g2⟩ := h.a2 d e2 m x hd e
      exact ⟨g1, fun i hi hp hat => g2 i hi (hpin i hp).1 hat⟩
/-- what a step leaves -/
def StepOK (N : Int) (l l' : List Int) (os' : Nat → Option S3) (pin : Nat → Bool) (at_ does : Nat → Int) (c : Nat) (la : Option (List Int)) : Prop :=
  (l'.getD 2 0 = l.getD 2 0 ∨ l'.getD 2 0 = l.getD 2 0 + 1) ∧
  match la with
  | none => HI (N + 1) l' os' pin at_ does
  | some la => if does c = 0 then (∃ x, la = [x] ∧ HI (N + 1) l' os' (upd pin c true) (upd at_ c x) does) else HI (N + 1) l' os' pin at_ does
theorem pin_no (h : HI N l os pin at_ does) (c : Nat) (hc : c < 4) (st : S3) (ho : os c = some st) (hk : kdS st ≠ 2) : pin c = false := by
  cases hp : pin c with
  | false => rfl
  | true => exact absurd ((h.pn c hc hp).2.2.2 st ho) hk
theorem pass_next (h : HI N l os pin at_ does) {e : Int} (he : e ≤ l.getD 2 0) (k : Nat) (hk : k < 4) (hx : l.getD (5 + k) 0 = 0 ∨ l.getD (5 + k) 0 = e + 1) (hold : ∀ i, i < 4 → pin i = true → at_ i + 1 ≤ e → k ≤ i) : ∀ i, i < 4 → pin i = true → at_ i + 1 ≤ e → k < i := by
  intro i hi hp hat
  have h1 := hold i hi hp hat
  rcases Nat.lt_or_eq_of_le h1 with h2 | h2
  · exact h2
  · subst h2
    obtain ⟨g1, g2, g3, g4⟩ := h.pn k hk hp
    omega
theorem hold_step (h : HI N l os pin at_ does) (hN : 0 ≤ N) (c : Nat) (hc : c < 4) (st : S3) (ho : os c = some st) :
    match aftS st (yS c st l) with
    | .inl s' => StepOK N l (lS c st l) (upd os c (some s')) pin at_ does c none
    | .inr la => StepOK N l (lS c st l) (upd os c none) pin at_ does c (some la) := by
  have hm := h.mono (show N ≤ N + 1 by omega)
  have hkd := h.kd c st hc ho
  have hbd := h.bd c st hc ho
  have hE := h.cb 2 (by omega) (by omega)
  have hl := h.len
  cases st with
  | p0 =>
    exact ⟨.inl rfl, hm.move c hc _ (.p1 (l.getD 2 0)) ho rfl ⟨hE.1, by omega⟩ (fun e h => by cases h) (fun e h => by cases h) (fun e m x h => by cases h)⟩
  | p1 e =>
    have hp := hm.setP c hc (pin_no h c hc _ ho (show (0 : Int) ≠ 2 by decide)) (fun e h => by rw [ho] at h; cases h) (e + 1) ⟨by have := hbd.1; omega, by have := hbd.2; omega⟩
    refine ⟨.inl ?_, hp.move c hc _ (.p2 e) ho rfl ⟨hbd.1, by have := hbd.2; omega⟩ (fun e2 h => ?_) (fun e h => by cases h) (fun e m x h => by cases h)⟩
    · show (l.set (5 + c) (e + 1)).getD 2 0 = _
      rw [getD_set _ _ _ _ (by omega), if_neg (by omega)]
    · injection h with h; subst h
      rw [getD_set _ _ _ _ (by omega), if_pos rfl]
  | p2 e =>
    have hcell := h.p2 c e hc ho
    show match aftS (.p2 e) (l.getD 2 0) with
      | .inl s' => StepOK N l l (upd os c (some s')) pin at_ does c none
      | .inr la => StepOK N l l (upd os c none) pin at_ does c (some la)
    by_cases e1 : l.getD 2 0 = e
    · simp only [aftS]; rw [if_pos e1]
      refine ⟨.inl rfl, ?_⟩
      show if does c = 0 then _ else _
      rw [if_pos (by rw [← hkd]; rfl)]
      exact ⟨l.getD 2 0, rfl, (hm.drop c).pinned c hc (upd_self _ _ _) (by rw [hcell, e1])⟩
    · simp only [aftS]; rw [if_neg e1]
      exact ⟨.inl rfl, hm.move c hc _ (.p3 e (l.getD 2 0)) ho rfl ⟨⟨hbd.1, by have := hbd.2; omega⟩, hE.1, by omega⟩ (fun e h => by cases h) (fun e h => by cases h) (fun e m x h => by cases h)⟩
  | p3 e x =>
    have hp := hm.setP c hc (pin_no h c hc _ ho (show (0 : Int) ≠ 2 by decide)) (fun e h => by rw [ho] at h; cases h) (x + 1) ⟨by have := hbd.2.1; omega, by have := hbd.2.2; omega⟩
    refine ⟨.inl ?_, hp.move c hc _ (.p2 x) ho rfl ⟨hbd.2.1, by have := hbd.2.2; omega⟩ (fun e2 h => ?_) (fun e h => by cases h) (fun e m x h => by cases h)⟩
    · show (l.set (5 + c) (x + 1)).getD 2 0 = _
      rw [getD_set _ _ _ _ (by omega), if_neg (by omega)]
    · injection h with h; subst h
      rw [getD_set _ _ _ _ (by omega), if_pos rfl]
  | u0 =>
    have hp := hm.setP c hc (pin_no h c hc _ ho (by decide)) (fun e h => by rw [ho] at h; cases h) 0 ⟨by omega, by omega⟩
    refine ⟨.inl ?_, ?_⟩
    · show (l.set (5 + c) 0).getD 2 0 = _
      rw [getD_set _ _ _ _ (by omega), if_neg (by omega)]
    · show if does c = 0 then _ else _
      rw [if_neg (by rw [← hkd]; decide)]
      exact hp.drop c
  | a0 =>
    exact ⟨.inl rfl, hm.move c hc _ (.a1 (l.getD 2 0)) ho rfl ⟨hE.1, by omega⟩ (fun e h => by cases h) (fun e h => by injection h with h; omega) (fun e m x h => by cases h)⟩
  | a1 e =>
    have h1 := h.a1 c e hc ho
    show match aftS (.a1 e) (l.getD 5 0) with
      | .inl s' => StepOK N l l (upd os c (some s')) pin at_ does c none
      | .inr la => StepOK N l l (upd os c none) pin at_ does c (some la)
    by_cases e1 : l.getD 5 0 = 0 ∨ l.getD 5 0 = e + 1
    · simp only [aftS]; rw [if_pos e1]
      refine ⟨.inl rfl, hm.move c hc _ (.a2 e 0 (l.getD 5 0)) ho rfl ⟨⟨hbd.1, by have := hbd.2; omega⟩, by omega, e1⟩ (fun e h => by cases h) (fun e h => by cases h) (fun e2 m x hh => ?_)⟩
      injection hh with he hm2 hx
      subst he; subst hm2
      exact ⟨h1, pass_next h h1 0 (by omega) e1 (fun i _ _ _ => Nat.zero_le _)⟩
    · simp only [aftS]; rw [if_neg e1]
      refine ⟨.inl rfl, ?_⟩
      show if does c = 0 then _ else _
      rw [if_neg (by rw [← hkd]; show ¬ ((2 : Int) = 0); decide)]
      exact hm.drop c
  | a2 e m x =>
    obtain ⟨h1, h2⟩ := h.a2 c e m x hc ho
    by_cases e4 : m + 1 < 4
    · have ey : yS c (.a2 e m x) l = l.getD (5 + (m + 1)) 0 := by simp only [yS, acK, acA, if_pos e4, if_true]
      have el : lS c (.a2 e m x) l = l := by simp only [lS, acK, if_pos e4, if_true]
      rw [ey, el]
      by_cases e1 : l.getD (5 + (m + 1)) 0 = 0 ∨ l.getD (5 + (m + 1)) 0 = e + 1
      · simp only [aftS]; rw [if_pos e4, if_pos e1]
        refine ⟨.inl rfl, hm.move c hc _ (.a2 e (m + 1) (l.getD (5 + (m + 1)) 0)) ho rfl ⟨⟨hbd.1.1, by have := hbd.1.2; omega⟩, e4, e1⟩ (fun e h => by cases h) (fun e h => by cases h) (fun e2 m2 x2 hh => ?_)⟩
        injection hh with he hm2 hx
        subst he; subst hm2
        exact ⟨h1, pass_next h h1 (m + 1) e4 e1 (fun i hi hp hat => h2 i hi hp hat)⟩
      · simp only [aftS]; rw [if_pos e4, if_neg e1]
        refine ⟨.inl rfl, ?_⟩
        show if does c = 0 then _ else _
        rw [if_neg (by rw [← hkd]; show ¬ ((2 : Int) = 0); decide)]
        exact hm.drop c
    · have m3 : m = 3 := by have := hbd.2.1; omega
      subst m3
      have key : ∀ i, i < 4 → pin i = true → e ≤ at_ i := fun i hi hp => by
        rcases Int.lt_or_le (at_ i) e with h3 | h3
        · have := h2 i hi hp (by omega); omega
        · exact h3
      by_cases he : l.getD 2 0 = e
      · have ey : yS c (.a2 e 3 x) l = 1 := by
          show (if l.getD 2 0 = e then (1 : Int) else 0) = 1
          rw [if_pos he]
        have el : lS c (.a2 e 3 x) l = l.set 2 (e + 1) := by
          show (if l.getD 2 0 = e then l.set 2 (e + 1) else l) = _
          rw [if_pos he]
        rw [ey, el]
        show StepOK N l (l.set 2 (e + 1)) (upd os c none) pin at_ does c (some [1])
        refine ⟨.inr ?_, ?_⟩
        · rw [getD_set _ _ _ _ (by omega), if_pos rfl, he]
        · show if does c = 0 then _ else _
          rw [if_neg (by rw [← hkd]; show ¬ ((2 : Int) = 0); decide)]
          have := (hm.setE (by omega) (fun i hi hp => by rw [he]; exact key i hi hp)).drop c
          rw [he] at this
          exact this
      · have ey : yS c (.a2 e 3 x) l = 0 := by
          show (if l.getD 2 0 = e then (1 : Int) else 0) = 0
          rw [if_neg he]
        have el : lS c (.a2 e 3 x) l = l := by
          show (if l.getD 2 0 = e then l.set 2 (e + 1) else l) = _
          rw [if_neg he]
        rw [ey, el]
        show StepOK N l l (upd os c none) pin at_ does c (some [0])
        refine ⟨.inl rfl, ?_⟩
        show if does c = 0 then _ else _
        rw [if_neg (by rw [← hkd]; show ¬ ((2 : Int) = 0); decide)]
        exact hm.drop c
/-- what a pick leaves -/
theorem hold_pick (h : HI N l os pin at_ does) (hN : 0 ≤ N) (c : Nat) (hc : c < 4) (dO : Int) :
    StepOK N l (pkS c dO l os).l (pkS c dO l os).os (if (0 ≤ dO ∧ dO ≤ 2) ∧ os c = none ∧ dO < 2 then upd pin c false else pin) at_ (if (0 ≤ dO ∧ dO ≤ 2) ∧ os c = none then upd does c dO else does) c (pkS c dO l os).la := by
  have hm := h.mono (show N ≤ N + 1 by omega)
  unfold pkS
  cases ho : os c with
  | none =>
    by_cases hd : 0 ≤ dO ∧ dO ≤ 2
    · simp only [if_pos hd]
      refine ⟨.inl rfl, ?_⟩
      have := hm.begin c hc dO hd ho
      simp only [hd, true_and, and_self, if_true]
      exact this
    · simp only [if_neg hd]
      rw [if_neg (fun hh => hd hh.1), if_neg (fun hh => hd hh.1)]
      exact ⟨.inl rfl, hm⟩
  | some st =>
    have en1 : ¬ ((0 ≤ dO ∧ dO ≤ 2) ∧ some st = none ∧ dO < 2) := fun hh => by cases hh.2.1
    have en2 : ¬ ((0 ≤ dO ∧ dO ≤ 2) ∧ some st = none) := fun hh => by cases hh.2
    simp only [if_neg en1, if_neg en2]
    by_cases hd : 0 ≤ dO ∧ dO ≤ 2
    · simp only [if_pos hd]
      exact ⟨.inl rfl, hm⟩
    · simp only [if_neg hd]
      have := hold_step h hN c hc st ho
      cases hr : aftS st (yS c st l) with
      | inl s' => rw [hr] at this; exact this
      | inr la => rw [hr] at this; exact this
end
theorem HI.start : HI 0 (newL 160) (fun _ => none) (fun _ => false) (fun _ => 0) (fun _ => 0) :=
  ⟨newL_len 160, newL_cb 0 (by omega), fun c st _ h => (by cases h), fun c st _ h => (by cases h), fun i _ h => (by cases h), fun c e _ h => (by cases h), fun c e _ h => (by cases h), fun c e m x _ h => by cases h⟩
end Go.Proofs.Ytgpdknacnmapiaa
