/-
  Parts of a proof, put together: Fk, Fl.
-/
import Derived.Test.YtgpdknacnmapiaaZg01
import Derived.Test.YtgpdknacnmapiaaZg02
import Derived.Test.YtgpdknacnmapiaaZg03
import Derived.Test.YtgpdknacnmapiaaZg04
import Derived.Test.YtgpdknacnmapiaaZg05
import Derived.Test.YtgpdknacnmapiaaZg06
import Derived.Test.YtgpdknacnmapiaaZg07
import Derived.Test.YtgpdknacnmapiaaZg08
import Derived.Test.YtgpdknacnmapiaaZg09
import Derived.Test.YtgpdknacnmapiaaZg10
import Derived.Test.YtgpdknacnmapiaaZg11
import Derived.Test.YtgpdknacnmapiaaZg12
import Derived.Test.YtgpdknacnmapiaaZg13
import Derived.Test.YtgpdknacnmapiaaZg14
import Derived.Test.YtgpdknacnmapiaaZg15
import Derived.Test.YtgpdknacnmapiaaZg16
import Derived.Test.YtgpdknacnmapiaaZg17
import Derived.Test.YtgpdknacnmapiaaZg18
import Derived.Test.YtgpdknacnmapiaaZg19
import Derived.Test.YtgpdknacnmapiaaZg20
import Derived.Test.YtgpdknacnmapiaaZg21
import Derived.Test.YtgpdknacnmapiaaZg22
import Derived.Test.YtgpdknacnmapiaaZg23
import Derived.Test.YtgpdknacnmapiaaZg24
import Derived.Test.YtgpdknacnmapiaaZg25
import Derived.Test.YtgpdknacnmapiaaZg26
import Derived.Test.YtgpdknacnmapiaaZg27
import Derived.Test.YtgpdknacnmapiaaZg28
import Derived.Deep.QuietTactic
namespace Go.Proofs.Ytgpdknacnmapiaa
set_option linter.unusedVariables false
set_option linter.unusedSimpArgs false
open Go.RowKit
open Go
/-- the cells and the answer behind a program that goes on alone, of at most so many steps -/
def alone (c : Nat) : Nat → S3 → List Int → Option (List Int × List Int)
  | 0, _, _ => none
  | n + 1, st, l => match aftS st (yS c st l) with
    | .inl s' => alone c n s' (lS c st l)
    | .inr la => some (lS c st l, la)
def aloneM (c n : Nat) (l2 : List Int) : S3 ⊕ List Int → Option (List Int × List Int)
  | .inl s' => alone c n s' l2
  | .inr la => some (l2, la)
theorem alone_succ (c n : Nat) (st : S3) (l : List Int) : alone c (n + 1) st l = aloneM c n (lS c st l) (aftS st (yS c st l)) := by
  simp only [alone]
  cases aftS st (yS c st l) <;> rfl
theorem upd_upd {α : Type} (f : Nat → α) (c : Nat) (a b : α) : upd (upd f c a) c b = upd f c b := by
  funext k; unfold upd; split <;> rfl
theorem upd_self {α : Type} (f : Nat → α) (c : Nat) (a : α) : upd f c a c = a := by unfold upd; rw [if_pos rfl]
set_option maxHeartbeats 4000000 in
set_option maxRecDepth 100000 in
theorem whole3 {P : Nat → Prop} (c : Nat) (hc : c < 4) (pg : Int) (hp : pg = 52 ∨ pg = 53 ∨ pg = 54) (R : Nat) (w : World) (l : List Int) (os : Nat → Option S3) (hP : ∀ b, w.heap.size ≤ b → P b) (hPR : ∀ b, P b → b ≠ R) (hW : WV P R w l os) (ho : os c = none) (N : Int) (hN : 0 ≤ N ∧ N ≤ 999000) (hcb : CB N l) (k : Nat) (hk : k ≤ 20) (l2 la : List Int) (hal : alone c k (ini pg) l = some (l2, la)) :
    Calls Try.prog 17 #[.pointer (some ⟨R, 0, none⟩), .int .i64 c, .int .i8 pg] w fun e w' => e = .returned (.bool true) ∧ KeepR R w w' ∧ WV P R w' l2 (upd os c none) := by
  have HM := Lib.hid (Mem.start w)
  have HP := Lib.hid hP
  have HPR := Lib.hid hPR
  have HW := Lib.hid hW
  have HPP := Lib.hid hp
  have HOS := Lib.hid ho
  have HAL := Lib.hid hal
  have HN := Lib.hid hN
  have HCB := Lib.hid hcb
  have HK := Lib.hid hk
  have hbi : Bs3 N (ini pg) := by rcases hp with rfl | rfl | rfl <;> trivial
  have HBI := Lib.hid hbi
  clear hP hPR hW hp ho hal hN hcb hbi
  go_enter Try.func17, Try.ntmps17
  go_wp2_with (first
    | (refine wpm_bsI1 HM rfl (.tmp 14) rfl (c : Int) rfl ?_; intro W5 hM; (try simp only [List.cons_append, List.nil_append, List.set_cons_succ, List.set_cons_zero, Nat.reduceAdd] at hM); replace HM := hM; clear hM))
  refine (begin3 c hc pg HPP.out _ w.heap.size R _ l os (fun b hb => HP.out b (Nat.le_trans HM.out.size hb)) HPR.out (ints_one0 HM.out (i := 0) rfl) (HW.out.below HM.out.bel) HOS.out).mono ?_
  rintro e W2 ⟨rfl, hk2, hw2⟩
  have HK2 := Lib.hid ((KeepR.of_below (R := R) HM.out.bel).trans hk2)
  have HW2 := Lib.hid hw2
  clear hk2 hw2 HM
  go_wp2_with fail
  go_loopw [7] (fun iv wr => ∃ (j : Nat) (l' : List Int) (o' : Option S3), iv = .int .i64 j ∧ j ≤ k ∧ KeepR R w wr ∧ WV P R wr l' (upd os c o') ∧ (∀ st', o' = some st' → alone c (k - j) st' l' = some (l2, la) ∧ Bs3 (N + j) st' ∧ CB (N + j) l') ∧ (o' = none → l' = l2)) (fun iv _ => k + 1 - (intOf iv).toNat)
  case atStart => exact ⟨0, l, some (ini pg), rfl, Nat.zero_le _, HK2.out, HW2.out, fun st' e => (by injection e with e; subst e; exact ⟨HAL.out, by simpa using HBI.out, by simpa using HCB.out⟩), fun e => by cases e⟩
  case round =>
    clear HK2 HW2 HW HOS HAL HCB HBI
    obtain ⟨j, l', o', rfl, hj, hkr, hw, hs, hn⟩ := hrel
    have HKR := Lib.hid hkr
    have HWW := Lib.hid hw
    have hbz := hw.busy c hc
    rw [upd_self] at hbz
    have HS := Lib.hid hs
    have HNN := Lib.hid hn
    clear hkr hw hs hn
    cases o' with
    | none =>
      simp only [Option.isSome_none] at hbz
      have e := HNN.out rfl
      subst e
      go_wp2_with fail
      go_ret
      exact ⟨rfl, HKR.out, HWW.out⟩
    | some st' =>
      simp only [Option.isSome_some] at hbz
      obtain ⟨h1, h2, h3⟩ := HS.out st' rfl
      have hlt : j < k := by
        rcases Nat.lt_or_ge j k with h | h
        · exact h
        · rw [show k - j = 0 by omega] at h1; cases h1
      have d20 : decide ((20 : Int) < (j : Int)) = false := by simp; omega
      have hNj : N + j ≤ 999998 := by have := HN.out; omega
      have HST := Lib.hid (step3 (P := P) c hc R wr l' _ (fun b hb => HP.out b (Nat.le_trans HKR.out.size hb)) HPR.out HWW.out st' (upd_self _ _ _) (h2.mono hNj) (h3.mono hNj))
      have HH := Lib.hid (And.intro h1 (And.intro h2 h3))
      have HHN := Lib.hid (show 0 ≤ N + j by have := HN.out; omega)
      have HNX : Hid (aloneM c (k - (j + 1)) (lS c st' l') (aftS st' (yS c st' l')) = some (l2, la)) := Lib.hid (by
        have := HH.out.1
        rw [show k - j = (k - (j + 1)) + 1 by omega, alone_succ] at this
        exact this)
      have HBD := Lib.hid (fun s' (e : aftS st' (yS c st' l') = .inl s') => aft_bd st' (N + j + 1) (yS c st' l') (h2.mono (by omega)) (by have := yS_le c hc st' l' (N + j + 1) (by have := HHN.out; omega) (h3.mono (by omega)); exact this) s' e)
      have HLC := Lib.hid (lS_cb c hc st' l' HWW.out.1 (N + j) HHN.out h2 h3)
      clear h1 h2 h3 hNj HH HS HNN
      go_wp2_with fail
      refine HST.out.mono ?_
      rintro e W3 ⟨hk3, hm⟩
      have HK3 := Lib.hid (HKR.out.trans hk3)
      clear HST hk3 hbz
      cases hr : aftS st' (yS c st' l') with
      | inl s' =>
        rw [hr] at hm
        obtain ⟨rfl, hw3⟩ := hm
        have HW3 := Lib.hid hw3
        rw [hr] at HNX
        have HX : Hid (alone c (k - (j + 1)) s' (lS c st' l') = some (l2, la)) := Lib.hid HNX.out
        have HY := Lib.hid (HBD.out s' hr)
        clear hr hw3 HNX HBD
        go_wp2_with fail
        go_roundw
        case rel =>
          refine ⟨j + 1, _, some s', rfl, hlt, HK3.out, by have := HW3.out; rw [upd_upd] at this; exact this, fun s2 e => ?_, fun e => by cases e⟩
          injection e with e
          subst e
          exact ⟨HX.out, HY.out.mono (by omega), HLC.out.mono (by omega)⟩
        case measure => simp [intOf]; omega
      | inr la2 =>
        rw [hr] at hm
        obtain ⟨⟨ans, rfl, hi⟩, hw3⟩ := hm
        obtain ⟨ao, cap, rfl, -, -⟩ := hi
        have HW3 := Lib.hid hw3
        rw [hr] at HNX
        have HX : Hid (some (lS c st' l', la2) = some (l2, la)) := Lib.hid HNX.out
        clear hr hw3 HNX HBD
        go_wp2_with fail
        go_roundw
        case rel =>
          refine ⟨j + 1, _, none, rfl, hlt, HK3.out, by have := HW3.out; rw [upd_upd] at this; exact this, fun s2 e => (by cases e), fun _ => ?_⟩
          have := HX.out
          simp only [Option.some.injEq, Prod.mk.injEq] at this
          exact this.1
        case measure => simp [intOf]; omega
end Go.Proofs.Ytgpdknacnmapiaa
namespace Go.Proofs.Ytgpdknacnmapiaa
set_option linter.unusedVariables false
set_option linter.unusedSimpArgs false
open Go.RowKit
open Go
/-- the epoch and the pins of the cells -/
structure Sh (l : List Int) (E : Int) (pv : Nat → Int) : Prop where
  len : l.length = 771
  e : l.getD 2 0 = E
  p : ∀ i, i < 4 → l.getD (5 + i) 0 = pv i
theorem Sh.setE {l : List Int} {E : Int} {pv : Nat → Int} (h : Sh l E pv) (v : Int) : Sh (l.set 2 v) v pv := by
  have := h.len
  refine ⟨by simp [h.len], by rw [getD_set _ _ _ _ (by omega), if_pos rfl], fun i hi => ?_⟩
  rw [getD_set _ _ _ _ (by omega), if_neg (by omega)]; exact h.p i hi
theorem Sh.setP {l : List Int} {E : Int} {pv : Nat → Int} (h : Sh l E pv) (c : Nat) (hc : c < 4) (v : Int) : Sh (l.set (5 + c) v) E (upd pv c v) := by
  have := h.len
  refine ⟨by simp [h.len], by rw [getD_set _ _ _ _ (by omega), if_neg (by omega)]; exact h.e, fun i hi => ?_⟩
  rw [getD_set _ _ _ _ (by omega)]
  unfold upd
  by_cases e : i = c
  · subst e; rw [if_pos rfl, if_pos rfl]
  · rw [if_neg (by omega), if_neg e]; exact h.p i hi
section
variable (c n : Nat) (l : List Int)
theorem al_a0 : alone c (n + 1) .a0 l = alone c n (.a1 (l.getD 2 0)) l := by
  rw [alone_succ]; rfl
theorem al_a1 (e : Int) (h : l.getD 5 0 = 0 ∨ l.getD 5 0 = e + 1) : alone c (n + 1) (.a1 e) l = alone c n (.a2 e 0 (l.getD 5 0)) l := by
  rw [alone_succ]
  show aloneM c n l (aftS (.a1 e) (l.getD 5 0)) = _
  simp only [aftS]; rw [if_pos h]; rfl
theorem al_a1f (e : Int) (h : ¬ (l.getD 5 0 = 0 ∨ l.getD 5 0 = e + 1)) : alone c (n + 1) (.a1 e) l = some (l, [0]) := by
  rw [alone_succ]
  show aloneM c n l (aftS (.a1 e) (l.getD 5 0)) = _
  simp only [aftS]; rw [if_neg h]; rfl
theorem al_a2 (e x : Int) (i : Nat) (hi : i + 1 < 4) (h : l.getD (5 + (i + 1)) 0 = 0 ∨ l.getD (5 + (i + 1)) 0 = e + 1) : alone c (n + 1) (.a2 e i x) l = alone c n (.a2 e (i + 1) (l.getD (5 + (i + 1)) 0)) l := by
  rw [alone_succ]
  have e1 : yS c (.a2 e i x) l = l.getD (5 + (i + 1)) 0 := by simp only [yS, acK, acA, if_pos hi, if_true]
  have e2 : lS c (.a2 e i x) l = l := by simp only [lS, acK, if_pos hi, if_true]
  rw [e1, e2]
  simp only [aftS]; rw [if_pos hi, if_pos h]; rfl
theorem al_a2f (e x : Int) (i : Nat) (hi : i + 1 < 4) (h : ¬ (l.getD (5 + (i + 1)) 0 = 0 ∨ l.getD (5 + (i + 1)) 0 = e + 1)) : alone c (n + 1) (.a2 e i x) l = some (l, [0]) := by
  rw [alone_succ]
  have e1 : yS c (.a2 e i x) l = l.getD (5 + (i + 1)) 0 := by simp only [yS, acK, acA, if_pos hi, if_true]
  have e2 : lS c (.a2 e i x) l = l := by simp only [lS, acK, if_pos hi, if_true]
  rw [e1, e2]
  simp only [aftS]; rw [if_pos hi, if_neg h]; rfl
theorem al_a2e (e x : Int) (h : l.getD 2 0 = e) : alone c (n + 1) (.a2 e 3 x) l = some (l.set 2 (e + 1), [1]) := by
  rw [alone_succ]
  have e1 : yS c (.a2 e 3 x) l = 1 := by
    show (if l.getD 2 0 = e then (1 : Int) else 0) = 1
    rw [if_pos h]
  have e2 : lS c (.a2 e 3 x) l = l.set 2 (e + 1) := by
    show (if l.getD 2 0 = e then l.set 2 (e + 1) else l) = _
    rw [if_pos h]
  rw [e1, e2]; rfl
end
theorem advT {l : List Int} {E : Int} {pv : Nat → Int} (c : Nat) (h : Sh l E pv) (ha : ∀ i, i < 4 → pv i = 0 ∨ pv i = E + 1) : alone c 6 .a0 l = some (l.set 2 (E + 1), [1]) := by
  have p := fun i hi => (h.p i hi).symm ▸ ha i hi
  rw [al_a0, h.e, al_a1 _ _ _ _ (p 0 (by omega)), al_a2 _ _ _ _ _ _ (by omega) (p 1 (by omega)), al_a2 _ _ _ _ _ _ (by omega) (p 2 (by omega)), al_a2 _ _ _ _ _ _ (by omega) (p 3 (by omega)), al_a2e _ _ _ _ _ h.e]
theorem advF {l : List Int} {E : Int} {pv : Nat → Int} (c : Nat) (h : Sh l E pv) (ha : ∃ i, i < 4 ∧ ¬ (pv i = 0 ∨ pv i = E + 1)) : alone c 6 .a0 l = some (l, [0]) := by
  obtain ⟨i, hi, hn⟩ := ha
  have p : ∀ i, i < 4 → ¬ (l.getD (5 + i) 0 = 0 ∨ l.getD (5 + i) 0 = E + 1) → ¬ (pv i = 0 ∨ pv i = E + 1) := fun i hi h2 => by rw [← h.p i hi]; exact h2
  rw [← h.p i hi] at hn
  rw [al_a0, h.e]
  by_cases h0 : l.getD 5 0 = 0 ∨ l.getD 5 0 = E + 1
  · rw [al_a1 _ _ _ _ h0]
    by_cases h1 : l.getD (5 + (0 + 1)) 0 = 0 ∨ l.getD (5 + (0 + 1)) 0 = E + 1
    · rw [al_a2 _ _ _ _ _ _ (by omega) h1]
      by_cases h2 : l.getD (5 + (0 + 1 + 1)) 0 = 0 ∨ l.getD (5 + (0 + 1 + 1)) 0 = E + 1
      · rw [al_a2 _ _ _ _ _ _ (by omega) h2]
        have h3 : ¬ (l.getD (5 + (0 + 1 + 1 + 1)) 0 = 0 ∨ l.getD (5 + (0 + 1 + 1 + 1)) 0 = E + 1) := by
          match i, hi, hn with
          | 0, _, hn => exact absurd h0 hn
          | 1, _, hn => exact absurd h1 hn
          | 2, _, hn => exact absurd h2 hn
          | 3, _, hn => exact hn
        rw [al_a2f _ _ _ _ _ _ (by omega) h3]
      · rw [al_a2f _ _ _ _ _ _ (by omega) h2]
    · rw [al_a2f _ _ _ _ _ _ (by omega) h1]
  · rw [al_a1f _ _ _ _ h0]
theorem pinT {l : List Int} {E : Int} {pv : Nat → Int} (c : Nat) (hc : c < 4) (h : Sh l E pv) : alone c 3 .p0 l = some (l.set (5 + c) (E + 1), [E]) := by
  have h2 := (h.setP c hc (E + 1)).e
  rw [alone_succ]
  show alone c 2 (.p1 (l.getD 2 0)) l = _
  rw [h.e, alone_succ]
  show alone c 1 (.p2 E) (l.set (5 + c) (E + 1)) = _
  rw [alone_succ]
  show aloneM c 0 (l.set (5 + c) (E + 1)) (aftS (.p2 E) ((l.set (5 + c) (E + 1)).getD 2 0)) = _
  rw [h2]
  simp only [aftS, if_true]; rfl
theorem unpinT (l : List Int) (c : Nat) : alone c 1 .u0 l = some (l.set (5 + c) 0, []) := rfl
/-- a run at rest -/
def WG (R : Nat) (w : World) (E : Int) (pv : Nat → Int) : Prop := ∃ l, WV (fun b => b ≠ R) R w l (fun _ => none) ∧ Sh l E pv ∧ CB 1000 l
theorem WG.lt {R : Nat} {w : World} {E : Int} {pv : Nat → Int} (h : WG R w E pv) : R < w.heap.size := by obtain ⟨l, h, -⟩ := h; exact h.lt
theorem WG.cell {R : Nat} {w : World} {E : Int} {pv : Nat → Int} (h : WG R w E pv) : ∃ b o cap, w.cell? ⟨R, 0, none⟩ = some (.slice (some ⟨b, o, none⟩) 771 cap) ∧ w.cell? ⟨b, o + 2, none⟩ = some (.int .i64 E) := by
  obtain ⟨l, h, hs, -⟩ := h
  obtain ⟨b, o, cap, h1, h2⟩ := h.cell
  exact ⟨b, o, cap, h1, by rw [h2 2 (by omega), hs.e]⟩
theorem upd_none (c : Nat) : upd (fun _ => none : Nat → Option S3) c none = fun _ => none := by funext k; unfold upd; split <;> rfl
theorem wholeG (c : Nat) (hc : c < 4) (pg : Int) (hp : pg = 52 ∨ pg = 53 ∨ pg = 54) (R : Nat) (w : World) (hR : R < w.heap.size) (l : List Int) (hW : WV (fun b => b ≠ R) R w l (fun _ => none)) (hcb : CB 1000 l) (k : Nat) (hk : k ≤ 20) (l2 la : List Int) (hal : alone c k (ini pg) l = some (l2, la)) :
    Calls Try.prog 17 #[.pointer (some ⟨R, 0, none⟩), .int .i64 c, .int .i8 pg] w fun e w' => e = .returned (.bool true) ∧ KeepR R w w' ∧ WV (fun b => b ≠ R) R w' l2 (fun _ => none) := by
  refine (whole3 c hc pg hp R w l (fun _ => none) (fun b hb => by omega) (fun b hb => hb) hW rfl 1000 (by omega) hcb k hk l2 la hal).mono ?_
  rintro e w' ⟨h1, h2, h3⟩
  exact ⟨h1, h2, by rw [← upd_none c]; exact h3⟩
theorem wholeA (c : Nat) (hc : c < 4) (R : Nat) (w : World) (E : Int) (pv : Nat → Int) (h : WG R w E pv) (hE : 0 ≤ E ∧ E ≤ 900) (ha : ∀ i, i < 4 → pv i = 0 ∨ pv i = E + 1) :
    Calls Try.prog 17 #[.pointer (some ⟨R, 0, none⟩), .int .i64 c, .int .i8 54] w fun e w' => e = .returned (.bool true) ∧ KeepR R w w' ∧ WG R w' (E + 1) pv := by
  have hR := h.lt
  obtain ⟨l, hW, hs, hcb⟩ := h
  refine (wholeG c hc 54 (by omega) R w hR l hW hcb 6 (by omega) _ _ (advT c hs ha)).mono ?_
  rintro e w' ⟨h1, h2, h3⟩
  exact ⟨h1, h2, _, h3, hs.setE _, hcb.set 2 (E + 1) (by rw [hs.len]; omega) (by omega)⟩
theorem wholeB (c : Nat) (hc : c < 4) (R : Nat) (w : World) (E : Int) (pv : Nat → Int) (h : WG R w E pv) (ha : ∃ i, i < 4 ∧ ¬ (pv i = 0 ∨ pv i = E + 1)) :
    Calls Try.prog 17 #[.pointer (some ⟨R, 0, none⟩), .int .i64 c, .int .i8 54] w fun e w' => e = .returned (.bool true) ∧ KeepR R w w' ∧ WG R w' E pv := by
  have hR := h.lt
  obtain ⟨l, hW, hs, hcb⟩ := h
  refine (wholeG c hc 54 (by omega) R w hR l hW hcb 6 (by omega) _ _ (advF c hs ha)).mono ?_
  rintro e w' ⟨h1, h2, h3⟩
  exact ⟨h1, h2, _, h3, hs, hcb⟩
theorem wholeP (c : Nat) (hc : c < 4) (R : Nat) (w : World) (E : Int) (pv : Nat → Int) (h : WG R w E pv) (hE : 0 ≤ E ∧ E ≤ 900) :
    Calls Try.prog 17 #[.pointer (some ⟨R, 0, none⟩), .int .i64 c, .int .i8 52] w fun e w' => e = .returned (.bool true) ∧ KeepR R w w' ∧ WG R w' E (upd pv c (E + 1)) := by
  have hR := h.lt
  obtain ⟨l, hW, hs, hcb⟩ := h
  refine (wholeG c hc 52 (by omega) R w hR l hW hcb 3 (by omega) _ _ (pinT c hc hs)).mono ?_
  rintro e w' ⟨h1, h2, h3⟩
  exact ⟨h1, h2, _, h3, hs.setP c hc _, hcb.set (5 + c) (E + 1) (by rw [hs.len]; omega) (by omega)⟩
theorem wholeU (c : Nat) (hc : c < 4) (R : Nat) (w : World) (E : Int) (pv : Nat → Int) (h : WG R w E pv) :
    Calls Try.prog 17 #[.pointer (some ⟨R, 0, none⟩), .int .i64 c, .int .i8 53] w fun e w' => e = .returned (.bool true) ∧ KeepR R w w' ∧ WG R w' E (upd pv c 0) := by
  have hR := h.lt
  obtain ⟨l, hW, hs, hcb⟩ := h
  refine (wholeG c hc 53 (by omega) R w hR l hW hcb 1 (by omega) _ _ (unpinT l c)).mono ?_
  rintro e w' ⟨h1, h2, h3⟩
  exact ⟨h1, h2, _, h3, hs.setP c hc _, hcb.set (5 + c) 0 (by rw [hs.len]; omega) (by omega)⟩
theorem newL_getD (k : Nat) (hk : k < 292) (h1 : k ≠ 1) : (newL 160).getD k 0 = 0 := by
  rw [List.getD_eq_getElem?_getD, newL_get 160 k (by omega), if_neg h1, if_neg (by omega)]; rfl
theorem newL_cb (N : Int) (hN : 0 ≤ N) : CB N (newL 160) := fun i h1 h2 => by rw [newL_getD i (by omega) (by omega)]; omega
theorem newL_sh : Sh (newL 160) 0 (fun _ => 0) := ⟨newL_len 160, newL_getD 2 (by omega) (by omega), fun i hi => newL_getD _ (by omega) (by omega)⟩
theorem newRun3 (w : World) : Calls Try.prog 11 #[] w fun e w' => ∃ R, e = .returned (.pointer (some ⟨R, 0, none⟩)) ∧ w.heap.size ≤ R ∧ Below w.heap.size w w' ∧ WV (fun b => b ≠ R) R w' (newL 160) (fun _ => none) := by
  refine (new_run13 w).mono ?_
  rintro e w' ⟨R, cv, d1, d2, N, cur, rfl, h1, h2, rfl, hc, hM⟩
  have hR := hM.hb 1 _ _ _ rfl
  have hne : N ≠ R := fun e => by have := hM.nd 0 1 N _ _ _ _ rfl (by rw [e]; rfl); omega
  refine ⟨R, rfl, (hM.st 1 _ _ _ rfl).elim (fun f => f.elim) id, hM.bel, newL_len 160, _, _, ⟨hR, run0_ok _ _ _, ⟨N, 0, 771, rfl, hne, newL_len 160, fun i x hx => ?_, newL_fit 160⟩, h1.weak fun b hb _ => hb.1, h2.weak fun b hb _ => hb.1⟩, fun c hc => ?_⟩
  · rw [Nat.zero_add]; exact (hM.hb 0 _ _ _ rfl).cell (hc i x hx)
  · rfl
theorem newRunG (w : World) : Calls Try.prog 11 #[] w fun e w' => ∃ R, e = .returned (.pointer (some ⟨R, 0, none⟩)) ∧ w.heap.size ≤ R ∧ Below w.heap.size w w' ∧ WG R w' 0 (fun _ => 0) := by
  refine (newRun3 w).mono ?_
  rintro e w' ⟨R, h1, h2, h3, h4⟩
  exact ⟨R, h1, h2, h3, _, h4, newL_sh, newL_cb 1000 (by omega)⟩
theorem KeepR.bel {R B : Nat} {w1 w2 : World} (h : KeepR R w1 w2) (hB : B ≤ R) (hw : B ≤ w1.heap.size) : Below B w1 w2 :=
  ⟨h.os, h.tape, h.output, h.size, fun k hk => h.old k (by omega) (by omega)⟩
end Go.Proofs.Ytgpdknacnmapiaa
