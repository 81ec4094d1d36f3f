/-
  Parts of a proof, put together: EpochAlone.
-/
import Derived.Test.YtgpdknacnmapiaaZh01
import Derived.Test.YtgpdknacnmapiaaZh02
import Derived.Test.YtgpdknacnmapiaaZh03
import Derived.Test.YtgpdknacnmapiaaZh04
import Derived.Test.YtgpdknacnmapiaaZh05
import Derived.Test.YtgpdknacnmapiaaZh06
import Derived.Test.YtgpdknacnmapiaaZh07
import Derived.Test.YtgpdknacnmapiaaZh08
import Derived.Test.YtgpdknacnmapiaaZh09
import Derived.Test.YtgpdknacnmapiaaZh10
import Derived.Test.YtgpdknacnmapiaaZh11
import Derived.Test.YtgpdknacnmapiaaZh12
import Derived.Test.YtgpdknacnmapiaaZh13
import Derived.Test.YtgpdknacnmapiaaZh14
import Derived.Test.YtgpdknacnmapiaaZh15
import Derived.Test.YtgpdknacnmapiaaZh16
import Derived.Test.YtgpdknacnmapiaaZh17
import Derived.Test.YtgpdknacnmapiaaZh18
import Derived.Test.YtgpdknacnmapiaaZh19
import Derived.Test.YtgpdknacnmapiaaZh20
import Derived.Test.YtgpdknacnmapiaaZh21
import Derived.Test.YtgpdknacnmapiaaZh22
import Derived.Test.YtgpdknacnmapiaaZh23
import Derived.Test.YtgpdknacnmapiaaZh24
import Derived.Test.YtgpdknacnmapiaaZh25
import Derived.Test.YtgpdknacnmapiaaZh26
import Derived.Test.YtgpdknacnmapiaaZh27
import Derived.Test.YtgpdknacnmapiaaZh28
import Derived.Test.YtgpdknacnmapiaaZh29
import Derived.Test.YtgpdknacnmapiaaZh30
import Derived.Test.YtgpdknacnmapiaaZh31
import Derived.Deep.QuietTactic
namespace Go.Proofs.Ytgpdknacnmapiaa
set_option linter.unusedVariables false
set_option linter.unusedSimpArgs false
open Go.RowKit
open Go
theorem KeepR.drew {R : Nat} {w w' : World} (h : KeepR R w w') : KeepR R w w'.drew := h.trans (KeepR.of_below (below_drew _))
theorem WV.drew {P : Nat → Prop} {R : Nat} {w : World} {l : List Int} {os : Nat → Option S3} (h : WV P R w l os) : WV P R w.drew l os := h.below (below_drew _)
theorem KeepR.cell {R : Nat} {w w' : World} (h : KeepR R w w') {b o : Nat} {v : Value} (hb : b ≠ R) (hc : w.cell? ⟨b, o, none⟩ = some v) : w'.cell? ⟨b, o, none⟩ = some v := (World.cell?_of_block (h.old b (World.block_lt_of_cell? _ _ hc) hb)).trans hc
theorem prog_lit (k p : Int) (h : (k = 0 ∧ p = 52) ∨ (k = 1 ∧ p = 53) ∨ (k = 2 ∧ p = 54)) (w : World) : Calls Try.prog 14 #[.int .i64 k] w fun e w' => e = .returned (.tuple #[.int .i8 p, .bool true]) ∧ w' = w := by
  obtain ⟨q, y, hp, h1, h2⟩ := progs_p k
  cases y with
  | false => have := h2 rfl; omega
  | true =>
    have h3 := h1 rfl
    have : q = p := by omega
    subst this
    exact hp w
/-- a client's program is left as it is -/
theorem WV.idle {P : Nat → Prop} {R : Nat} {w W : World} {C C' : Array Value} {s : RS} {l : List Int} {os : Nat → Option S3} {c : Nat} (hl : l.length = 771) (hr : RunV3 P R w C s l) (hcl : ∀ c, c < 4 → ClV P w s c (os c)) (hPR : ∀ b, P b → b ≠ R) (hM : Mem (fun b => b = R) w W [(R, C', 41)]) (hA : RunA C' (s.setB c false)) : WV P R W l (upd os c none) := by
  refine ⟨hl, C', _, ⟨hM.hb 0 _ _ _ rfl, hA, hr.cv.mem hPR hM, hr.d1.mem hPR hM, hr.d2.mem hPR hM⟩, fun d hd => ?_⟩
  by_cases e : d = c
  · subst e
    rw [upd_self]
    show (RS.b _ d = false)
    simp [RS.setB, upd]
  · rw [upd_oth _ _ _ e]
    refine (hcl d hd).keep (fun b hb hlt => hM.old b hlt (hPR b hb)) ?_ ?_ ?_ <;> simp [RS.setB, upd, e]
def allT (pv : Nat → Int) (E : Int) (m : Nat) : Bool := decide (∀ i, i < m → pv i = 0 ∨ pv i = E + 1)
theorem allT_succ (pv : Nat → Int) (E : Int) (m : Nat) : allT pv E (m + 1) = (allT pv E m && (pv m == 0 || pv m == E + 1)) := by
  unfold allT
  by_cases h : ∀ i, i < m → pv i = 0 ∨ pv i = E + 1
  · by_cases h2 : pv m = 0 ∨ pv m = E + 1
    · have h3 : ∀ i, i < m + 1 → pv i = 0 ∨ pv i = E + 1 := fun i hi => by
        rcases Nat.lt_or_eq_of_le (Nat.le_of_lt_succ hi) with h4 | h4
        · exact h i h4
        · rw [h4]; exact h2
      rw [decide_eq_true h3, decide_eq_true h]
      rcases h2 with h2 | h2 <;> simp [h2]
    · have h3 : ¬ ∀ i, i < m + 1 → pv i = 0 ∨ pv i = E + 1 := fun h4 => h2 (h4 m (by omega))
      rw [decide_eq_false h3]
      simp only [not_or] at h2
      simp [h2.1, h2.2]
  · have h3 : ¬ ∀ i, i < m + 1 → pv i = 0 ∨ pv i = E + 1 := fun h4 => h fun i hi => h4 i (by omega)
    rw [decide_eq_false h3, decide_eq_false h]
    rfl
theorem StepOK.ex {N : Int} {l l' : List Int} {os' : Nat → Option S3} {pin : Nat → Bool} {at_ does : Nat → Int} {c : Nat} {la : Option (List Int)} (h : StepOK N l l' os' pin at_ does c la) : ∃ pin2 at2 does2, HI (N + 1) l' os' pin2 at2 does2 := by
  cases la with
  | none => exact ⟨_, _, _, h.2⟩
  | some la =>
    have h2 := h.2
    simp only at h2
    by_cases hd : does c = 0
    · rw [if_pos hd] at h2
      obtain ⟨x, -, h3⟩ := h2
      exact ⟨_, _, _, h3⟩
    · rw [if_neg hd] at h2
      exact ⟨_, _, _, h2⟩
/-- a step of a program that goes on alone -/
theorem alone_step {c k j : Nat} {st : S3} {l l2 la : List Int} (h : alone c (k - j) st l = some (l2, la)) : j < k ∧ aloneM c (k - (j + 1)) (lS c st l) (aftS st (yS c st l)) = some (l2, la) := by
  rcases Nat.lt_or_ge j k with hj | hj
  · rw [show k - j = (k - (j + 1)) + 1 by omega, alone_succ] at h
    exact ⟨hj, h⟩
  · rw [show k - j = 0 by omega] at h; cases h
set_option maxHeartbeats 16000000 in
set_option maxRecDepth 100000 in
theorem lawEpochAlone_walk (q0 : Value × List Pk2) (a1 : Int) (w : World) (w0 : SlQ w q0.1 q0.2) (w1 : (Lit.int .i64 a1).wf = true) : Calls Try.prog 4 #[q0.1, .int .i64 a1] w fun e w' => e = .returned (.bool true) ∧ Below w.heap.size w w' := by
  obtain ⟨v, pl⟩ := q0
  obtain ⟨ao, cap, e, hcap, hmax, hcell⟩ := w0
  simp only at e hcell hcap ⊢
  subst e
  obtain ⟨n, hn⟩ : ∃ n, pl.length = n := ⟨_, rfl⟩
  rw [hn] at hcap ⊢
  have HCELL := Lib.hid hcell
  have HLEN := Lib.hid hn
  clear hcell hn w1
  by_cases h300 : 300 < n
  · have dl : decide ((300 : Int) < (n : Int)) = true := by simp; omega
    clear h300
    go_enter Try.func4, Try.ntmps4
    go_wp2_with fail
    refine (wakes13 _).mono ?_
    rintro e Y ⟨rfl, hb⟩
    have HY := Lib.hid hb
    clear hb
    go_wp2_with fail
    go_ret
    exact ⟨rfl, HY.out⟩
  have dl : decide ((300 : Int) < (n : Int)) = false := by simp; omega
  obtain ⟨c, hc, ec⟩ := norm_rem a1 4 ⟨by omega, by omega⟩
  have hc4 : c < 4 := by omega
  have HC4 := Lib.hid hc4
  clear hc
  go_enter Try.func4, Try.ntmps4
  go_wp2_with fail
  refine (newRun3 _).mono ?_
  rintro e W1 ⟨R, rfl, hR, hb, hw⟩
  have HB1 := Lib.hid hb
  have HW1 := Lib.hid hw
  have HRR := Lib.hid hR
  clear hb hw hR
  go_wp2_with fail
  go_loopw [33] (fun iv wr => ∃ (j : Nat) (l : List Int) (os : Nat → Option S3) (pin : Nat → Bool) (at_ does : Nat → Int), j ≤ n ∧ iv = .int .i64 j ∧ Below w.heap.size w wr ∧ WV (fun b => b ≠ R) R wr l os ∧ HI j l os pin at_ does) (fun iv _ => n - (intOf iv).toNat)
  case atStart => exact ⟨0, _, _, _, _, _, Nat.zero_le _, rfl, HB1.out, HW1.out, HI.start⟩
  case round =>
    clear HB1 HW1
    obtain ⟨j, l, os, pin, at_, does, hj, rfl, hbl, hwv, hhi⟩ := hrel
    have HBL := Lib.hid hbl
    have HWV := Lib.hid hwv
    have HHI := Lib.hid hhi
    clear hbl hwv hhi
    by_cases hlt : j < n
    · have dj : decide ((j : Int) < (n : Int)) = true := by simp; omega
      obtain ⟨⟨cl, dO⟩, hx⟩ : ∃ x, pl[j]? = some x := ⟨_, List.getElem?_eq_getElem (by rw [HLEN.out]; exact hlt)⟩
      obtain ⟨xb, xo, eao, c0, c1⟩ := HCELL.out j _ hx
      subst eao
      have kx0 := (HBL.out.cell (World.block_lt_of_cell? _ _ c0)).trans c0
      have kx1 := (HBL.out.cell (World.block_lt_of_cell? _ _ c1)).trans c1
      obtain ⟨c2, hc2, ec2⟩ := norm_rem cl 4 ⟨by omega, by omega⟩
      have hc24 : c2 < 4 := by omega
      have HJ : Hid ((j : Int) ≤ 300) := Lib.hid (by omega)
      have HPK := Lib.hid (hold_pick HHI.out (by omega) c2 hc24 dO)
      have HM := Lib.hid (Mem.start wr)
      have HEC := Lib.hid ec2
      clear c0 c1 hx hc2 ec2
      go_wp2_with (first
        | (refine wp_ldq rfl (.tmp 35) rfl xb (xo + j * 2) rfl _ _ kx0 kx1 ?_)
        | (refine wpm_al29 HM rfl rfl ?_; intro W4 hM; (try simp only [List.cons_append, List.nil_append, List.set_cons_succ, List.set_cons_zero, Nat.reduceAdd] at hM); replace HM := hM; clear hM)
        | (refine wpm_st29 HM rfl (.tmp 7) (.tmp 36) rfl 0 rfl rfl cl dO rfl rfl ?_; intro W5 hM; (try simp only [List.cons_append, List.nil_append, List.set_cons_succ, List.set_cons_zero, Nat.reduceAdd] at hM); replace HM := hM; clear hM kx0 kx1)
        | (refine wpm_ld29 HM rfl (.tmp 7) rfl 0 rfl rfl rfl ?_))
      refine (pick3 (P := fun b => b ≠ R) c2 hc24 cl dO HEC.out R _ l os (fun b hb => by have := HWV.out.lt; have := HM.out.size; omega) (fun b hb => hb) (HWV.out.below HM.out.bel) (fun st ho => (HHI.out.bd c2 st hc24 ho).mono (by have := HJ.out; omega)) (HHI.out.cb.mono (by have := HJ.out; omega))).mono ?_
      rintro e W8 ⟨hk, hw2, hpa⟩
      have HK := Lib.hid ((KeepR.of_below (R := R) HM.out.bel).trans hk)
      have HW2 := Lib.hid hw2
      clear hk hw2
      generalize hr : pkS c2 dO l os = r at *
      clear hr
      obtain ⟨l2, os2, la⟩ := r
      simp only at hpa HW2 HPK
      cases la with
      | none =>
        unfold PkA at hpa
        subst hpa
        go_wp2_with fail
        go_roundw
        case rel => exact ⟨j + 1, l2, os2, _, at_, _, hlt, rfl, HBL.out.trans ((HK.out.bel (Nat.le_refl _) (Nat.le_of_lt HWV.out.lt)).mono HRR.out), HW2.out, by have := HPK.out.2; rw [show ((j + 1 : Nat) : Int) = (j : Int) + 1 by omega]; exact this⟩
        case measure => simp [intOf]; omega
      | some la =>
        obtain ⟨ans, rfl, hint⟩ := hpa
        obtain ⟨ao2, cap2, rfl, -, -⟩ := hint
        have HIX : Hid (∃ pin2 at2 does2, HI ((j : Int) + 1) l2 os2 pin2 at2 does2) := Lib.hid HPK.out.ex
        go_wp2_with fail
        go_roundw
        case rel =>
          obtain ⟨pin2, at2, does2, hif⟩ := HIX.out
          exact ⟨j + 1, l2, os2, pin2, at2, does2, hlt, rfl, HBL.out.trans ((HK.out.bel (Nat.le_refl _) (Nat.le_of_lt HWV.out.lt)).mono HRR.out), HW2.out, by rw [show ((j + 1 : Nat) : Int) = (j : Int) + 1 by omega]; exact hif⟩
        case measure => simp [intOf]; omega
    · have e : j = n := by omega
      subst e
      have dj : decide ((j : Int) < (j : Int)) = false := by simp
      have HN9 : Hid ((j : Int) ≤ 300) := Lib.hid (by omega)
      have HCB : Hid (CB 300 l) := Lib.hid (HHI.out.cb.mono HN9.out)
      obtain ⟨hl, C, s, hr, hcl⟩ := HWV.out
      have HL := Lib.hid hl
      have HR3 := Lib.hid hr
      have HCL := Lib.hid hcl
      have HA := Lib.hid hr.ra
      have HM := Lib.hid (Mem.startR hr.hb)
      clear hl hr hcl HHI HN9
      go_wp2_with (first
        | (refine wpm_stB HM HA rfl (.tmp 56) (.const (.bool false)) rfl 0 rfl c hc4 false rfl rfl ?_; clear HA; intro W2 C2 HA hM; (try simp only [List.cons_append, List.nil_append, List.set_cons_succ, List.set_cons_zero, Nat.reduceAdd] at hM); replace HM := hM; clear hM; have HWI := Lib.hid (WV.idle HL.out HR3.out HCL.out (fun b hb => hb) HM.out HA.out); have HBI := Lib.hid (HBL.out.trans (((KeepR.of HM.out).bel (Nat.le_refl _) (Nat.le_of_lt HWV.out.lt)).mono HRR.out)); clear HM HA HWV HBL HL HR3 HCL; have HM := Lib.hid (Mem.start W2))
        | (refine wpm_bsI3 HM rfl (.const (.int .i64 3)) (.const (.int .i64 1)) (.const (.int .i64 6)) rfl 3 1 6 rfl rfl rfl ?_; intro W3 hM; (try simp only [List.cons_append, List.nil_append, List.set_cons_succ, List.set_cons_zero, Nat.reduceAdd] at hM); replace HM := hM; clear hM))
      have HN3 : Hid (W2.heap.size ≠ R) := Lib.hid (by have := HWI.out.lt; omega)
      have HWS := Lib.hid ((HWI.out.below HM.out.bel).weak (Q := fun b => b ≠ R) (fun b hb _ => hb))
      have HW3 : Hid (WV (fun b => b ≠ R ∧ b ≠ W2.heap.size) R W3 l (upd os c none)) := Lib.hid ((HWI.out.weak (fun b hb hlt => ⟨hb, by omega⟩)).below HM.out.bel)
      have HB3 := Lib.hid (HBI.out.trans (HM.out.bel.mono HBI.out.size))
      have k30 : W3.cell? ⟨W2.heap.size, 0, none⟩ = some (.int .i64 3) := (HM.out.hb 0 _ _ _ rfl).cell (k := 0) rfl
      have k31 : W3.cell? ⟨W2.heap.size, 1, none⟩ = some (.int .i64 1) := (HM.out.hb 0 _ _ _ rfl).cell (k := 1) rfl
      have k32 : W3.cell? ⟨W2.heap.size, 2, none⟩ = some (.int .i64 6) := (HM.out.hb 0 _ _ _ rfl).cell (k := 2) rfl
      have H3 := Lib.hid (And.intro k30 (And.intro k31 k32))
      have HNL : Hid (W2.heap.size < W3.heap.size) := Lib.hid (HM.out.lt (i := 0) rfl)
      clear HM HWI HBI HWS k30 k31 k32
      generalize W2.heap.size = N3 at *
      go_loopw [59] (fun iv wr => ∃ (i : Int) (l : List Int) (os : Nat → Option S3) (E : Int) (pv : Nat → Int), (i = 0 ∨ i = 1 ∨ i = 2 ∨ i = 3) ∧ iv = .int .i64 i ∧ Below w.heap.size w wr ∧ WV (fun b => b ≠ R ∧ b ≠ N3) R wr l os ∧ os c = none ∧ Sh l E pv ∧ CB (400 + i) l ∧ N3 < wr.heap.size ∧ wr.cell? ⟨N3, 0, none⟩ = some (.int .i64 3) ∧ wr.cell? ⟨N3, 1, none⟩ = some (.int .i64 1) ∧ wr.cell? ⟨N3, 2, none⟩ = some (.int .i64 6)) (fun iv _ => 3 - (intOf iv).toNat)
      case atStart => exact ⟨0, l, _, l.getD 2 0, fun i => l.getD (5 + i) 0, .inl rfl, rfl, HB3.out, HW3.out, upd_self _ _ _, ⟨HW3.out.1, rfl, fun _ _ => rfl⟩, HCB.out.mono (by omega), HNL.out, H3.out.1, H3.out.2.1, H3.out.2.2⟩
      case round =>
        clear HB3 HW3 H3 HNL HCB
        obtain ⟨i, l, os, E, pv, hi, rfl, hbl, hwv, ho, hsh, hcb, hnl, h30, h31, h32⟩ := hrel
        obtain ⟨wo, hwo⟩ : ∃ x, x = wr := ⟨_, rfl⟩
        subst hwo
        have HBL := Lib.hid hbl
        have HWV := Lib.hid hwv
        have HO := Lib.hid ho
        have HSH := Lib.hid hsh
        have HCB := Lib.hid hcb
        have HNL := Lib.hid hnl
        have H3 := Lib.hid (And.intro h30 (And.intro h31 h32))
        have hE9 := hcb 2 (by omega) (by omega)
        rw [hsh.e] at hE9
        have eb1 : 0 ≤ E := hE9.1
        have eb2 : E ≤ 500 := by have := hE9.2; omega
        obtain ⟨cb, co, cc, k0, kk⟩ := hwv.cell
        have KK := Lib.hid kk
        have K0 := Lib.hid k0
        have k2 := kk 2 (by omega)
        rw [hsh.e] at k2
        clear hbl hwv ho hsh hcb hnl hE9 kk
        rcases hi with rfl | rfl | rfl | rfl
        · as_aux_lemma =>
            go_wp2_with fail
            clear h30 h31 h32 k0 k2
            go_loopw [16, 17] (fun av iv wx => ∃ m : Nat, m ≤ 4 ∧ iv = .int .i64 m ∧ av = .bool (allT pv E m) ∧ Below wo.heap.size wo wx) (fun _ iv _ => 4 - (intOf iv).toNat)
            case atStart => exact ⟨0, by omega, rfl, by simp [allT], Below.refl _ _⟩
            case round =>
              obtain ⟨m, hm, rfl, rfl, hbx⟩ := hrel
              have HBX := Lib.hid hbx
              clear hbx
              by_cases hm4 : m < 4
              · have dm : decide ((m : Int) < 4) = true := by simp; omega
                have HM4 : Hid (0 ≤ (m : Int) ∧ (m : Int) < 4) := Lib.hid ⟨by omega, by omega⟩
                go_wp2_with fail
                have G0 : Hid (World.cell? wr.drew ⟨R, 0, none⟩ = some (.slice (some ⟨cb, co, none⟩) 771 cc)) := Lib.hid ((HBX.out.cell (World.block_lt_of_cell? _ _ K0.out)).trans K0.out)
                have G1 : Hid (World.cell? wr.drew ⟨cb, co + (5 + m), none⟩ = some (.int .i64 (pv m))) := Lib.hid ((HBX.out.cell (World.block_lt_of_cell? _ _ (KK.out (5 + m) (by omega)))).trans (by rw [KK.out (5 + m) (by omega), HSH.out.p m hm4]))
                replace HBX := Lib.hid (HBX.out.trans ((below_drew _).mono HBX.out.size))
                have HF : Hid (∀ p ∈ ([(⟨R, 0, none⟩, .slice (some ⟨cb, co, none⟩) 771 cc), (⟨cb, co + (5 + m), none⟩, .int .i64 (pv m))] : List (Addr × Value)), World.cell? wr.drew p.1 = some p.2) := Lib.hid (allc G0.out (allc G1.out (alln _)))
                haveI : Inhabited (CW [(⟨R, 0, none⟩, .slice (some ⟨cb, co, none⟩) 771 cc), (⟨cb, co + (5 + m), none⟩, .int .i64 (pv m))]) := ⟨⟨_, HF.out⟩⟩
                have f0 : ∀ q : CW [(⟨R, 0, none⟩, .slice (some ⟨cb, co, none⟩) 771 cc), (⟨cb, co + (5 + m), none⟩, .int .i64 (pv m))], q.1.cell? ⟨R, 0, none⟩ = some (.slice (some ⟨cb, co, none⟩) 771 cc) := fun q => q.2 (⟨R, 0, none⟩, .slice (some ⟨cb, co, none⟩) 771 cc) (by simp)
                have f1 : ∀ q : CW [(⟨R, 0, none⟩, .slice (some ⟨cb, co, none⟩) 771 cc), (⟨cb, co + (5 + m), none⟩, .int .i64 (pv m))], q.1.cell? ⟨cb, co + (5 + m), none⟩ = some (.int .i64 (pv m)) := fun q => q.2 (⟨cb, co + (5 + m), none⟩, .int .i64 (pv m)) (by simp)
                (try simp only [Act.put, List.setIfInBounds_toArray, List.set_cons_succ, List.set_cons_zero])
                refine wp_region_noPanic ?_
                refine wp_region_plw (.step [true, true, true, true, true, true] (.cons 6 (.last [false, false, false, false, false, false, false, true, true, true]) .nil)) (fun y => ∃ q : CW [(⟨R, 0, none⟩, .slice (some ⟨cb, co, none⟩) 771 cc), (⟨cb, co + (5 + m), none⟩, .int .i64 (pv m))], y = q.1) (by kernel_rfl) (by kernel_rfl) (by kernel_rfl) (fun _ _ _ _ _ _ _ h => h) ⟨⟨_, HF.out⟩, rfl⟩ ?_
                simp only [wpPw, wpBw, selF, and_true]
                generalize wr.drew = V1 at *
                repeat (go_big_quiet_step (fail))
                refine wpQuiet_nil ?_
                refine wpOp_step rfl (fun K hK => ?_)
                go_simp
                refine (pin13d (m : Int) (((5 + m : Nat)) : Int) _ HM4.out (by omega)).mono ?_
                rintro e V2 ⟨rfl, rfl⟩
                refine hK _ _ ⟨(fun y => ∃ q : CW [(⟨R, 0, none⟩, .slice (some ⟨cb, co, none⟩) 771 cc), (⟨cb, co + (5 + m), none⟩, .int .i64 (pv m))], y = q.1), ⟨⟨_, (allc G0.out (allc G1.out (alln _)))⟩, rfl⟩, fun _ h => h, ?_⟩
                clear hK K
                (try simp only [Act.put, List.setIfInBounds_toArray, List.set_cons_succ, List.set_cons_zero])
                repeat (go_big_quiet_step (fail))
                refine wpQuiet_nil ?_
                refine NoPanic.normal ?_
                clear HF f0 f1
                have hp0 : (pv m == 0) = true ∨ (pv m == 0) = false := by cases (pv m == 0) <;> simp
                have hpe : (pv m == E + 1) = true ∨ (pv m == E + 1) = false := by cases (pv m == E + 1) <;> simp
                have HAS := Lib.hid (allT_succ pv E m)
                cases hal : allT pv E m with
                | false =>
                  rw [hal] at HAS
                  go_wp2_with fail
                  go_roundw
                  case rel => exact ⟨m + 1, by omega, rfl, by rw [HAS.out]; rfl, HBX.out⟩
                  case measure => simp [intOf]; omega
                | true =>
                  rw [hal] at HAS
                  rcases hp0 with hp0 | hp0
                  · rw [hp0] at HAS
                    clear hpe
                    go_wp2_with fail
                    go_roundw
                    case rel => exact ⟨m + 1, by omega, rfl, by rw [HAS.out]; rfl, HBX.out⟩
                    case measure => simp [intOf]; omega
                  · rcases hpe with hpe | hpe
                    · rw [hp0, hpe] at HAS
                      go_wp2_with fail
                      go_roundw
                      case rel => exact ⟨m + 1, by omega, rfl, by rw [HAS.out]; rfl, HBX.out⟩
                      case measure => simp [intOf]; omega
                    · rw [hp0, hpe] at HAS
                      go_wp2_with fail
                      go_roundw
                      case rel => exact ⟨m + 1, by omega, rfl, by rw [HAS.out]; rfl, HBX.out⟩
                      case measure => simp [intOf]; omega
              · have e4 : m = 4 := by omega
                subst e4
                have dm : decide (((4 : Nat) : Int) < 4) = false := by decide
                obtain ⟨al, hal⟩ : ∃ y, allT pv E 4 = y := ⟨_, rfl⟩
                have HAL := Lib.hid hal
                rw [hal]
                clear hal
                go_wp2_with fail
                refine (prog_lit 0 52 (by omega) _).mono ?_
                rintro e Wp ⟨rfl, rfl⟩
                have HM := Lib.hid (Mem.start Wp)
                go_wp2_with (first
                  | (refine wpm_bsI1 HM rfl (.tmp 103) rfl (c : Int) rfl ?_; intro W5 hM; (try simp only [List.cons_append, List.nil_append, List.set_cons_succ, List.set_cons_zero, Nat.reduceAdd] at hM); replace HM := hM; clear hM))
                have HBY := Lib.hid (HBX.out.trans (HM.out.bel.mono HBX.out.size))
                refine (begin3 c hc4 52 (by omega) _ _ R _ l os (fun b hb => by have := HWV.out.lt; have := HBY.out.size; have := HNL.out; omega) (fun b hb => hb.1) (ints_one0 HM.out (i := 0) rfl) (HWV.out.below HBY.out) HO.out).mono ?_
                rintro e W6 ⟨rfl, hk, hw6⟩
                have HK := Lib.hid ((KeepR.of_below (R := R) HBY.out).trans hk)
                have HW6 := Lib.hid hw6
                clear hk hw6 HM HBX HBY
                obtain ⟨l2, la, hal2, HL2⟩ : ∃ l2 la, alone c 3 (ini 52) l = some (l2, la) ∧ Hid (la = [E] ∧ Sh l2 E (upd pv c (E + 1)) ∧ CB 401 l2) := ⟨_, _, pinT c hc4 HSH.out, Lib.hid ⟨rfl, HSH.out.setP c hc4 _, (HCB.out.mono (by omega)).set _ _ (by rw [HSH.out.len]; omega) ⟨by omega, by have := HCB.out 2 (by omega) (by omega); rw [HSH.out.e] at this; omega⟩⟩⟩
                have HA2 := Lib.hid hal2
                clear hal2
                have HBI : Hid (Bs3 450 (ini 52)) := Lib.hid trivial
                go_wp2_with fail
                go_loopw [21, 22] (fun ev iv wx => ∃ (j : Nat) (l' : List Int) (o' : Option S3), iv = .int .i64 j ∧ j ≤ 3 ∧ KeepR R wo wx ∧ WV (fun b => b ≠ R ∧ b ≠ N3) R wx l' (upd os c o') ∧ (∀ st', o' = some st' → ev = .bool false ∧ alone c (3 - j) st' l' = some (l2, la) ∧ Bs3 (450 + j) st' ∧ CB (450 + j) l') ∧ (o' = none → ev = .bool true ∧ l' = l2)) (fun _ iv _ => 3 + 1 - (intOf iv).toNat)
                case atStart => exact ⟨0, l, some (ini 52), rfl, Nat.zero_le _, HK.out, HW6.out, fun st' e => (by injection e with e; subst e; exact ⟨rfl, HA2.out, by simpa using HBI.out, by simpa using HCB.out.mono (by omega)⟩), fun e => by cases e⟩
                case round =>
                  clear HK HW6 HA2 HBI
                  obtain ⟨j, l', o', rfl, hj, hkr, hw, hs, hn⟩ := hrel
                  have HKR := Lib.hid hkr
                  have HWW := Lib.hid hw
                  have HS := Lib.hid hs
                  have HNN := Lib.hid hn
                  clear hkr hw hs hn
                  cases o' with
                  | none =>
                    obtain ⟨rfl, rfl⟩ := HNN.out rfl
                    have hdl : decide ((j : Int) < 3) = true ∨ decide ((j : Int) < 3) = false := by cases decide ((j : Int) < 3) <;> simp
                    rcases hdl with hdl | hdl
                    all_goals
                      go_wp2_with fail
                      go_roundw
                      case rel =>
                        have hk := HKR.out
                        refine ⟨1, l', _, _, _, by omega, rfl, HBL.out.trans ((hk.bel (Nat.le_refl _) (Nat.le_of_lt HWV.out.lt)).mono HRR.out), HWW.out, upd_self _ _ _, HL2.out.2.1, HL2.out.2.2, Nat.lt_of_lt_of_le HNL.out hk.size, hk.cell HN3.out H3.out.1, hk.cell HN3.out H3.out.2.1, hk.cell HN3.out H3.out.2.2⟩
                      case measure => simp [intOf]
                  | some st' =>
                    obtain ⟨rfl, h1, h2, h3⟩ := HS.out st' rfl
                    obtain ⟨hlt, hx⟩ := alone_step h1
                    have HNX := Lib.hid hx
                    have hdl : decide ((j : Int) < 3) = true := by simp; omega
                    have HST := Lib.hid (fun (W : World) (h : WV (fun b => b ≠ R ∧ b ≠ N3) R W l' (upd os c (some st'))) (hP : ∀ b, W.heap.size ≤ b → b ≠ R ∧ b ≠ N3) => step3 (P := fun b => b ≠ R ∧ b ≠ N3) c hc4 R W l' _ hP (fun b hb => hb.1) h st' (upd_self _ _ _) (h2.mono (by omega)) (h3.mono (by omega)))
                    have HBD := Lib.hid (fun s' (e : aftS st' (yS c st' l') = .inl s') => aft_bd st' (450 + j + 1) (yS c st' l') (h2.mono (by omega)) (yS_le c hc4 st' l' (450 + j + 1) (by omega) (h3.mono (by omega))) s' e)
                    have HLC := Lib.hid (lS_cb c hc4 st' l' HWW.out.1 (450 + j) (by omega) h2 h3)
                    clear h1 h2 h3 hx HS HNN
                    go_wp2_with fail
                    refine (HST.out _ HWW.out (fun b hb => by have := HKR.out.size; have := HNL.out; have := HWV.out.lt; omega)).mono ?_
                    rintro e W7 ⟨hk3, hm⟩
                    have HK3 := Lib.hid (HKR.out.trans hk3)
                    clear HST hk3
                    cases hr : aftS st' (yS c st' l') with
                    | inl s' =>
                      rw [hr] at hm HNX
                      obtain ⟨rfl, hw3⟩ := hm
                      have HW3 := Lib.hid hw3
                      have HX : Hid (alone c (3 - (j + 1)) s' (lS c st' l') = some (l2, la)) := Lib.hid HNX.out
                      have HY := Lib.hid (HBD.out s' hr)
                      clear hr hw3 HNX HBD
                      go_wp2_with fail
                      replace HK3 := Lib.hid HK3.out.drew
                      replace HW3 := Lib.hid HW3.out.drew
                      have HF : Hid (∀ p ∈ ([] : List (Addr × Value)), World.cell? W7.drew p.1 = some p.2) := Lib.hid (alln _)
                      haveI : Inhabited (CW []) := ⟨⟨_, HF.out⟩⟩
                      (try simp only [Act.put, List.setIfInBounds_toArray, List.set_cons_succ, List.set_cons_zero])
                      refine wp_region_noPanic ?_
                      refine wp_region_plw (.step [true, true, true, true, true, true, true, true, true, true, true, true, true, true, true, true, true, true, true, true, true, true, true, false, false, false, true, true] (.cons 23 (.last [false, false, false, false, false, false, false, false, false, false, false, false, false, false, false, false, false, false, false, false, false, false, false, false, true, true, false, false, true, true, true]) .nil)) (fun y => ∃ q : CW [], y = q.1) (by kernel_rfl) (by kernel_rfl) (by kernel_rfl) (fun _ _ _ _ _ _ _ h => h) ⟨⟨_, HF.out⟩, rfl⟩ ?_
                      simp only [wpPw, wpBw, selF, and_true]
                      generalize W7.drew = V3 at *
                      repeat (go_big_quiet_step (fail))
                      refine wpQuiet_nil ?_
                      refine wpOp_step rfl (fun K hK => ?_)
                      go_simp
                      refine hK _ _ ⟨(fun y => ∃ q : CW [], y = q.1), ⟨⟨_, (alln _)⟩, rfl⟩, fun _ h => h, ?_⟩
                      clear hK K
                      (try simp only [Act.put, List.setIfInBounds_toArray, List.set_cons_succ, List.set_cons_zero])
                      repeat (go_big_quiet_step (fail))
                      refine wpQuiet_nil ?_
                      refine NoPanic.normal ?_
                      clear HF
                      go_wp2_with fail
                      replace HK3 := Lib.hid HK3.out.drew
                      replace HW3 := Lib.hid HW3.out.drew
                      have HF : Hid (∀ p ∈ ([] : List (Addr × Value)), World.cell? V3.drew p.1 = some p.2) := Lib.hid (alln _)
                      haveI : Inhabited (CW []) := ⟨⟨_, HF.out⟩⟩
                      (try simp only [Act.put, List.setIfInBounds_toArray, List.set_cons_succ, List.set_cons_zero])
                      refine wp_region_noPanic ?_
                      refine wp_region_plw (.step [true, true, true, true, true, true, true, true, true, true, true, true] (.cons 12 (.last [false, false, false, false, false, false, false, false, false, false, false, false, false, true, true, true, true]) .nil)) (fun y => ∃ q : CW [], y = q.1) (by kernel_rfl) (by kernel_rfl) (by kernel_rfl) (fun _ _ _ _ _ _ _ h => h) ⟨⟨_, HF.out⟩, rfl⟩ ?_
                      simp only [wpPw, wpBw, selF, and_true]
                      generalize V3.drew = V4 at *
                      repeat (go_big_quiet_step (fail))
                      refine wpQuiet_nil ?_
                      refine wpOp_step rfl (fun K hK => ?_)
                      go_simp
                      refine hK _ _ ⟨(fun y => ∃ q : CW [], y = q.1), ⟨⟨_, (alln _)⟩, rfl⟩, fun _ h => h, ?_⟩
                      clear hK K
                      (try simp only [Act.put, List.setIfInBounds_toArray, List.set_cons_succ, List.set_cons_zero])
                      repeat (go_big_quiet_step (fail))
                      refine wpQuiet_nil ?_
                      refine NoPanic.normal ?_
                      clear HF
                      go_wp2_with fail
                      go_roundw
                      case rel =>
                        refine ⟨j + 1, _, some s', rfl, hlt, HK3.out, by have := HW3.out; rw [upd_upd] at this; exact this, fun s2 e => ?_, fun e => by cases e⟩
                        injection e with e
                        subst e
                        exact ⟨rfl, HX.out, HY.out.mono (by omega), HLC.out.mono (by omega)⟩
                      case measure => simp [intOf]; omega
                    | inr la2 =>
                      rw [hr] at hm HNX
                      obtain ⟨⟨ans, rfl, hint⟩, hw3⟩ := hm
                      have hxx : some (lS c st' l', la2) = some (l2, la) := HNX.out
                      simp only [Option.some.injEq, Prod.mk.injEq] at hxx
                      obtain ⟨e1, e2⟩ := hxx
                      rw [e1, upd_upd] at hw3
                      rw [e2] at hint
                      have HW3 := Lib.hid hw3
                      clear hr hw3 HNX HBD e1 e2
                      rw [HL2.out.1] at hint
                      obtain ⟨ao2, cap2, rfl, hcp, hX⟩ := hint
                      obtain ⟨ab, ai, rfl, ph, kc⟩ := hX 0 E rfl
                      simp only [List.length_cons, List.length_nil, Nat.zero_add, Nat.add_zero] at kc hcp ⊢
                      have KC := Lib.hid kc
                      obtain ⟨cb2, co2, cc2, k02, kk2⟩ := HW3.out.cell
                      have kp := kk2 (5 + c) (by omega)
                      rw [HL2.out.2.1.p c hc4, upd_self] at kp
                      have K02 := Lib.hid k02
                      have KP := Lib.hid kp
                      clear kc hX ph k02 kk2 kp
                      go_wp2_with fail
                      replace HK3 := Lib.hid HK3.out.drew
                      replace HW3 := Lib.hid HW3.out.drew
                      replace KC : Hid (World.cell? W7.drew ⟨ab, ai, none⟩ = some (.int .i64 E)) := Lib.hid KC.out
                      replace K02 : Hid (World.cell? W7.drew ⟨R, 0, none⟩ = some (.slice (some ⟨cb2, co2, none⟩) 771 cc2)) := Lib.hid K02.out
                      replace KP : Hid (World.cell? W7.drew ⟨cb2, co2 + (5 + c), none⟩ = some (.int .i64 (E + 1))) := Lib.hid KP.out
                      have ee : (E != E) = false := by simp
                      have ee1 : (E + 1 != E + 1) = false := by simp
                      have HC5 : Hid (0 ≤ (c : Int) ∧ (c : Int) < 4) := Lib.hid ⟨by omega, by omega⟩
                      have HF : Hid (∀ p ∈ ([(⟨ab, ai, none⟩, .int .i64 E), (⟨R, 0, none⟩, .slice (some ⟨cb2, co2, none⟩) 771 cc2), (⟨cb2, co2 + (5 + c), none⟩, .int .i64 (E + 1))] : List (Addr × Value)), World.cell? W7.drew p.1 = some p.2) := Lib.hid (allc KC.out (allc K02.out (allc KP.out (alln _))))
                      haveI : Inhabited (CW [(⟨ab, ai, none⟩, .int .i64 E), (⟨R, 0, none⟩, .slice (some ⟨cb2, co2, none⟩) 771 cc2), (⟨cb2, co2 + (5 + c), none⟩, .int .i64 (E + 1))]) := ⟨⟨_, HF.out⟩⟩
                      have f0 : ∀ q : CW [(⟨ab, ai, none⟩, .int .i64 E), (⟨R, 0, none⟩, .slice (some ⟨cb2, co2, none⟩) 771 cc2), (⟨cb2, co2 + (5 + c), none⟩, .int .i64 (E + 1))], q.1.cell? ⟨ab, ai, none⟩ = some (.int .i64 E) := fun q => q.2 (⟨ab, ai, none⟩, .int .i64 E) (by simp)
                      have f1 : ∀ q : CW [(⟨ab, ai, none⟩, .int .i64 E), (⟨R, 0, none⟩, .slice (some ⟨cb2, co2, none⟩) 771 cc2), (⟨cb2, co2 + (5 + c), none⟩, .int .i64 (E + 1))], q.1.cell? ⟨R, 0, none⟩ = some (.slice (some ⟨cb2, co2, none⟩) 771 cc2) := fun q => q.2 (⟨R, 0, none⟩, .slice (some ⟨cb2, co2, none⟩) 771 cc2) (by simp)
                      have f2 : ∀ q : CW [(⟨ab, ai, none⟩, .int .i64 E), (⟨R, 0, none⟩, .slice (some ⟨cb2, co2, none⟩) 771 cc2), (⟨cb2, co2 + (5 + c), none⟩, .int .i64 (E + 1))], q.1.cell? ⟨cb2, co2 + (5 + c), none⟩ = some (.int .i64 (E + 1)) := fun q => q.2 (⟨cb2, co2 + (5 + c), none⟩, .int .i64 (E + 1)) (by simp)
                      (try simp only [Act.put, List.setIfInBounds_toArray, List.set_cons_succ, List.set_cons_zero])
                      refine wp_region_noPanic ?_
                      refine wp_region_plw (.step [true, true, true, true, true, true, true, true, true, true, true, true, true, true, true, true, true, true, true, true, true, true, true, false, false, false, true, true] (.cons 23 (.last [false, false, false, false, false, false, false, false, false, false, false, false, false, false, false, false, false, false, false, false, false, false, false, false, true, true, false, false, true, true, true]) .nil)) (fun y => ∃ q : CW [(⟨ab, ai, none⟩, .int .i64 E), (⟨R, 0, none⟩, .slice (some ⟨cb2, co2, none⟩) 771 cc2), (⟨cb2, co2 + (5 + c), none⟩, .int .i64 (E + 1))], y = q.1) (by kernel_rfl) (by kernel_rfl) (by kernel_rfl) (fun _ _ _ _ _ _ _ h => h) ⟨⟨_, HF.out⟩, rfl⟩ ?_
                      simp only [wpPw, wpBw, selF, and_true]
                      generalize W7.drew = V5 at *
                      repeat (go_big_quiet_step (fail))
                      refine wpQuiet_nil ?_
                      refine wpOp_step rfl (fun K hK => ?_)
                      go_simp
                      refine (pin13d (c : Int) ((5 + c : Nat) : Int) _ HC5.out (by omega)).mono ?_
                      rintro e V6 ⟨rfl, rfl⟩
                      refine hK _ _ ⟨(fun y => ∃ q : CW [(⟨ab, ai, none⟩, .int .i64 E), (⟨R, 0, none⟩, .slice (some ⟨cb2, co2, none⟩) 771 cc2), (⟨cb2, co2 + (5 + c), none⟩, .int .i64 (E + 1))], y = q.1), ⟨⟨_, (allc KC.out (allc K02.out (allc KP.out (alln _))))⟩, rfl⟩, fun _ h => h, ?_⟩
                      clear hK K
                      (try simp only [Act.put, List.setIfInBounds_toArray, List.set_cons_succ, List.set_cons_zero])
                      repeat (go_big_quiet_step (fail))
                      refine wpQuiet_nil ?_
                      refine NoPanic.normal ?_
                      clear HF f0 f1 f2
                      go_wp2_with fail
                      replace HK3 := Lib.hid HK3.out.drew
                      replace HW3 := Lib.hid HW3.out.drew
                      have HF : Hid (∀ p ∈ ([] : List (Addr × Value)), World.cell? V6.drew p.1 = some p.2) := Lib.hid (alln _)
                      haveI : Inhabited (CW []) := ⟨⟨_, HF.out⟩⟩
                      (try simp only [Act.put, List.setIfInBounds_toArray, List.set_cons_succ, List.set_cons_zero])
                      refine wp_region_noPanic ?_
                      refine wp_region_plw (.step [true, true, true, true, true, true, true, true, true, true, true, true] (.cons 12 (.last [false, false, false, false, false, false, false, false, false, false, false, false, false, true, true, true, true]) .nil)) (fun y => ∃ q : CW [], y = q.1) (by kernel_rfl) (by kernel_rfl) (by kernel_rfl) (fun _ _ _ _ _ _ _ h => h) ⟨⟨_, HF.out⟩, rfl⟩ ?_
                      simp only [wpPw, wpBw, selF, and_true]
                      generalize V6.drew = V7 at *
                      repeat (go_big_quiet_step (fail))
                      refine wpQuiet_nil ?_
                      refine wpOp_step rfl (fun K hK => ?_)
                      go_simp
                      refine hK _ _ ⟨(fun y => ∃ q : CW [], y = q.1), ⟨⟨_, (alln _)⟩, rfl⟩, fun _ h => h, ?_⟩
                      clear hK K
                      (try simp only [Act.put, List.setIfInBounds_toArray, List.set_cons_succ, List.set_cons_zero])
                      repeat (go_big_quiet_step (fail))
                      refine wpQuiet_nil ?_
                      refine NoPanic.normal ?_
                      clear HF
                      go_wp2_with fail
                      go_roundw
                      case rel => exact ⟨j + 1, l2, none, rfl, hlt, HK3.out, HW3.out, fun s2 e => (by cases e), fun _ => ⟨rfl, rfl⟩⟩
                      case measure => simp [intOf]; omega
        · as_aux_lemma =>
            go_wp2_with fail
            clear h30 h31 h32 k0 k2
            go_loopw [16, 17] (fun av iv wx => ∃ m : Nat, m ≤ 4 ∧ iv = .int .i64 m ∧ av = .bool (allT pv E m) ∧ Below wo.heap.size wo wx) (fun _ iv _ => 4 - (intOf iv).toNat)
            case atStart => exact ⟨0, by omega, rfl, by simp [allT], Below.refl _ _⟩
            case round =>
              obtain ⟨m, hm, rfl, rfl, hbx⟩ := hrel
              have HBX := Lib.hid hbx
              clear hbx
              by_cases hm4 : m < 4
              · have dm : decide ((m : Int) < 4) = true := by simp; omega
                have HM4 : Hid (0 ≤ (m : Int) ∧ (m : Int) < 4) := Lib.hid ⟨by omega, by omega⟩
                go_wp2_with fail
                have G0 : Hid (World.cell? wr.drew ⟨R, 0, none⟩ = some (.slice (some ⟨cb, co, none⟩) 771 cc)) := Lib.hid ((HBX.out.cell (World.block_lt_of_cell? _ _ K0.out)).trans K0.out)
                have G1 : Hid (World.cell? wr.drew ⟨cb, co + (5 + m), none⟩ = some (.int .i64 (pv m))) := Lib.hid ((HBX.out.cell (World.block_lt_of_cell? _ _ (KK.out (5 + m) (by omega)))).trans (by rw [KK.out (5 + m) (by omega), HSH.out.p m hm4]))
                replace HBX := Lib.hid (HBX.out.trans ((below_drew _).mono HBX.out.size))
                have HF : Hid (∀ p ∈ ([(⟨R, 0, none⟩, .slice (some ⟨cb, co, none⟩) 771 cc), (⟨cb, co + (5 + m), none⟩, .int .i64 (pv m))] : List (Addr × Value)), World.cell? wr.drew p.1 = some p.2) := Lib.hid (allc G0.out (allc G1.out (alln _)))
                haveI : Inhabited (CW [(⟨R, 0, none⟩, .slice (some ⟨cb, co, none⟩) 771 cc), (⟨cb, co + (5 + m), none⟩, .int .i64 (pv m))]) := ⟨⟨_, HF.out⟩⟩
                have f0 : ∀ q : CW [(⟨R, 0, none⟩, .slice (some ⟨cb, co, none⟩) 771 cc), (⟨cb, co + (5 + m), none⟩, .int .i64 (pv m))], q.1.cell? ⟨R, 0, none⟩ = some (.slice (some ⟨cb, co, none⟩) 771 cc) := fun q => q.2 (⟨R, 0, none⟩, .slice (some ⟨cb, co, none⟩) 771 cc) (by simp)
                have f1 : ∀ q : CW [(⟨R, 0, none⟩, .slice (some ⟨cb, co, none⟩) 771 cc), (⟨cb, co + (5 + m), none⟩, .int .i64 (pv m))], q.1.cell? ⟨cb, co + (5 + m), none⟩ = some (.int .i64 (pv m)) := fun q => q.2 (⟨cb, co + (5 + m), none⟩, .int .i64 (pv m)) (by simp)
                (try simp only [Act.put, List.setIfInBounds_toArray, List.set_cons_succ, List.set_cons_zero])
                refine wp_region_noPanic ?_
                refine wp_region_plw (.step [true, true, true, true, true, true] (.cons 6 (.last [false, false, false, false, false, false, false, true, true, true]) .nil)) (fun y => ∃ q : CW [(⟨R, 0, none⟩, .slice (some ⟨cb, co, none⟩) 771 cc), (⟨cb, co + (5 + m), none⟩, .int .i64 (pv m))], y = q.1) (by kernel_rfl) (by kernel_rfl) (by kernel_rfl) (fun _ _ _ _ _ _ _ h => h) ⟨⟨_, HF.out⟩, rfl⟩ ?_
                simp only [wpPw, wpBw, selF, and_true]
                generalize wr.drew = V8 at *
                repeat (go_big_quiet_step (fail))
                refine wpQuiet_nil ?_
                refine wpOp_step rfl (fun K hK => ?_)
                go_simp
                refine (pin13d (m : Int) (((5 + m : Nat)) : Int) _ HM4.out (by omega)).mono ?_
                rintro e V9 ⟨rfl, rfl⟩
                refine hK _ _ ⟨(fun y => ∃ q : CW [(⟨R, 0, none⟩, .slice (some ⟨cb, co, none⟩) 771 cc), (⟨cb, co + (5 + m), none⟩, .int .i64 (pv m))], y = q.1), ⟨⟨_, (allc G0.out (allc G1.out (alln _)))⟩, rfl⟩, fun _ h => h, ?_⟩
                clear hK K
                (try simp only [Act.put, List.setIfInBounds_toArray, List.set_cons_succ, List.set_cons_zero])
                repeat (go_big_quiet_step (fail))
                refine wpQuiet_nil ?_
                refine NoPanic.normal ?_
                clear HF f0 f1
                have hp0 : (pv m == 0) = true ∨ (pv m == 0) = false := by cases (pv m == 0) <;> simp
                have hpe : (pv m == E + 1) = true ∨ (pv m == E + 1) = false := by cases (pv m == E + 1) <;> simp
                have HAS := Lib.hid (allT_succ pv E m)
                cases hal : allT pv E m with
                | false =>
                  rw [hal] at HAS
                  go_wp2_with fail
                  go_roundw
                  case rel => exact ⟨m + 1, by omega, rfl, by rw [HAS.out]; rfl, HBX.out⟩
                  case measure => simp [intOf]; omega
                | true =>
                  rw [hal] at HAS
                  rcases hp0 with hp0 | hp0
                  · rw [hp0] at HAS
                    clear hpe
                    go_wp2_with fail
                    go_roundw
                    case rel => exact ⟨m + 1, by omega, rfl, by rw [HAS.out]; rfl, HBX.out⟩
                    case measure => simp [intOf]; omega
                  · rcases hpe with hpe | hpe
                    · rw [hp0, hpe] at HAS
                      go_wp2_with fail
                      go_roundw
                      case rel => exact ⟨m + 1, by omega, rfl, by rw [HAS.out]; rfl, HBX.out⟩
                      case measure => simp [intOf]; omega
                    · rw [hp0, hpe] at HAS
                      go_wp2_with fail
                      go_roundw
                      case rel => exact ⟨m + 1, by omega, rfl, by rw [HAS.out]; rfl, HBX.out⟩
                      case measure => simp [intOf]; omega
              · have e4 : m = 4 := by omega
                subst e4
                have dm : decide (((4 : Nat) : Int) < 4) = false := by decide
                obtain ⟨al, hal⟩ : ∃ y, allT pv E 4 = y := ⟨_, rfl⟩
                have HAL := Lib.hid hal
                rw [hal]
                clear hal
                go_wp2_with fail
                refine (prog_lit 1 53 (by omega) _).mono ?_
                rintro e Wp ⟨rfl, rfl⟩
                have HM := Lib.hid (Mem.start Wp)
                go_wp2_with (first
                  | (refine wpm_bsI1 HM rfl (.tmp 103) rfl (c : Int) rfl ?_; intro W5 hM; (try simp only [List.cons_append, List.nil_append, List.set_cons_succ, List.set_cons_zero, Nat.reduceAdd] at hM); replace HM := hM; clear hM))
                have HBY := Lib.hid (HBX.out.trans (HM.out.bel.mono HBX.out.size))
                refine (begin3 c hc4 53 (by omega) _ _ R _ l os (fun b hb => by have := HWV.out.lt; have := HBY.out.size; have := HNL.out; omega) (fun b hb => hb.1) (ints_one0 HM.out (i := 0) rfl) (HWV.out.below HBY.out) HO.out).mono ?_
                rintro e W6 ⟨rfl, hk, hw6⟩
                have HK := Lib.hid ((KeepR.of_below (R := R) HBY.out).trans hk)
                have HW6 := Lib.hid hw6
                clear hk hw6 HM HBX HBY
                obtain ⟨l2, la, hal2, HL2⟩ : ∃ l2 la, alone c 1 (ini 53) l = some (l2, la) ∧ Hid (la = [] ∧ Sh l2 E (upd pv c 0) ∧ CB 402 l2) := ⟨_, _, unpinT l c, Lib.hid ⟨rfl, HSH.out.setP c hc4 _, (HCB.out.mono (by omega)).set _ _ (by rw [HSH.out.len]; omega) ⟨by omega, by omega⟩⟩⟩
                have HA2 := Lib.hid hal2
                clear hal2
                have HBI : Hid (Bs3 450 (ini 53)) := Lib.hid trivial
                go_wp2_with fail
                go_loopw [21, 22] (fun ev iv wx => ∃ (j : Nat) (l' : List Int) (o' : Option S3), iv = .int .i64 j ∧ j ≤ 1 ∧ KeepR R wo wx ∧ WV (fun b => b ≠ R ∧ b ≠ N3) R wx l' (upd os c o') ∧ (∀ st', o' = some st' → ev = .bool false ∧ alone c (1 - j) st' l' = some (l2, la) ∧ Bs3 (450 + j) st' ∧ CB (450 + j) l') ∧ (o' = none → ev = .bool true ∧ l' = l2)) (fun _ iv _ => 1 + 1 - (intOf iv).toNat)
                case atStart => exact ⟨0, l, some (ini 53), rfl, Nat.zero_le _, HK.out, HW6.out, fun st' e => (by injection e with e; subst e; exact ⟨rfl, HA2.out, by simpa using HBI.out, by simpa using HCB.out.mono (by omega)⟩), fun e => by cases e⟩
                case round =>
                  clear HK HW6 HA2 HBI
                  obtain ⟨j, l', o', rfl, hj, hkr, hw, hs, hn⟩ := hrel
                  have HKR := Lib.hid hkr
                  have HWW := Lib.hid hw
                  have HS := Lib.hid hs
                  have HNN := Lib.hid hn
                  clear hkr hw hs hn
                  cases o' with
                  | none =>
                    obtain ⟨rfl, rfl⟩ := HNN.out rfl
                    have hdl : decide ((j : Int) < 1) = true ∨ decide ((j : Int) < 1) = false := by cases decide ((j : Int) < 1) <;> simp
                    rcases hdl with hdl | hdl
                    all_goals
                      go_wp2_with fail
                      go_roundw
                      case rel =>
                        have hk := HKR.out
                        refine ⟨2, l', _, _, _, by omega, rfl, HBL.out.trans ((hk.bel (Nat.le_refl _) (Nat.le_of_lt HWV.out.lt)).mono HRR.out), HWW.out, upd_self _ _ _, HL2.out.2.1, HL2.out.2.2, Nat.lt_of_lt_of_le HNL.out hk.size, hk.cell HN3.out H3.out.1, hk.cell HN3.out H3.out.2.1, hk.cell HN3.out H3.out.2.2⟩
                      case measure => simp [intOf]
                  | some st' =>
                    obtain ⟨rfl, h1, h2, h3⟩ := HS.out st' rfl
                    obtain ⟨hlt, hx⟩ := alone_step h1
                    have HNX := Lib.hid hx
                    have hdl : decide ((j : Int) < 1) = true := by simp; omega
                    have HST := Lib.hid (fun (W : World) (h : WV (fun b => b ≠ R ∧ b ≠ N3) R W l' (upd os c (some st'))) (hP : ∀ b, W.heap.size ≤ b → b ≠ R ∧ b ≠ N3) => step3 (P := fun b => b ≠ R ∧ b ≠ N3) c hc4 R W l' _ hP (fun b hb => hb.1) h st' (upd_self _ _ _) (h2.mono (by omega)) (h3.mono (by omega)))
                    have HBD := Lib.hid (fun s' (e : aftS st' (yS c st' l') = .inl s') => aft_bd st' (450 + j + 1) (yS c st' l') (h2.mono (by omega)) (yS_le c hc4 st' l' (450 + j + 1) (by omega) (h3.mono (by omega))) s' e)
                    have HLC := Lib.hid (lS_cb c hc4 st' l' HWW.out.1 (450 + j) (by omega) h2 h3)
                    clear h1 h2 h3 hx HS HNN
                    go_wp2_with fail
                    refine (HST.out _ HWW.out (fun b hb => by have := HKR.out.size; have := HNL.out; have := HWV.out.lt; omega)).mono ?_
                    rintro e W7 ⟨hk3, hm⟩
                    have HK3 := Lib.hid (HKR.out.trans hk3)
                    clear HST hk3
                    cases hr : aftS st' (yS c st' l') with
                    | inl s' =>
                      rw [hr] at hm HNX
                      obtain ⟨rfl, hw3⟩ := hm
                      have HW3 := Lib.hid hw3
                      have HX : Hid (alone c (1 - (j + 1)) s' (lS c st' l') = some (l2, la)) := Lib.hid HNX.out
                      have HY := Lib.hid (HBD.out s' hr)
                      clear hr hw3 HNX HBD
                      go_wp2_with fail
                      replace HK3 := Lib.hid HK3.out.drew
                      replace HW3 := Lib.hid HW3.out.drew
                      have HF : Hid (∀ p ∈ ([] : List (Addr × Value)), World.cell? W7.drew p.1 = some p.2) := Lib.hid (alln _)
                      haveI : Inhabited (CW []) := ⟨⟨_, HF.out⟩⟩
                      (try simp only [Act.put, List.setIfInBounds_toArray, List.set_cons_succ, List.set_cons_zero])
                      refine wp_region_noPanic ?_
                      refine wp_region_plw (.step [true, true, true, true, true, true, true, true, true, true, true, true, true, true, true, true, true, true, true, true, true, true, true, false, false, false, true, true] (.cons 23 (.last [false, false, false, false, false, false, false, false, false, false, false, false, false, false, false, false, false, false, false, false, false, false, false, false, true, true, false, false, true, true, true]) .nil)) (fun y => ∃ q : CW [], y = q.1) (by kernel_rfl) (by kernel_rfl) (by kernel_rfl) (fun _ _ _ _ _ _ _ h => h) ⟨⟨_, HF.out⟩, rfl⟩ ?_
                      simp only [wpPw, wpBw, selF, and_true]
                      generalize W7.drew = V10 at *
                      repeat (go_big_quiet_step (fail))
                      refine wpQuiet_nil ?_
                      refine wpOp_step rfl (fun K hK => ?_)
                      go_simp
                      refine hK _ _ ⟨(fun y => ∃ q : CW [], y = q.1), ⟨⟨_, (alln _)⟩, rfl⟩, fun _ h => h, ?_⟩
                      clear hK K
                      (try simp only [Act.put, List.setIfInBounds_toArray, List.set_cons_succ, List.set_cons_zero])
                      repeat (go_big_quiet_step (fail))
                      refine wpQuiet_nil ?_
                      refine NoPanic.normal ?_
                      clear HF
                      go_wp2_with fail
                      replace HK3 := Lib.hid HK3.out.drew
                      replace HW3 := Lib.hid HW3.out.drew
                      have HF : Hid (∀ p ∈ ([] : List (Addr × Value)), World.cell? V10.drew p.1 = some p.2) := Lib.hid (alln _)
                      haveI : Inhabited (CW []) := ⟨⟨_, HF.out⟩⟩
                      (try simp only [Act.put, List.setIfInBounds_toArray, List.set_cons_succ, List.set_cons_zero])
                      refine wp_region_noPanic ?_
                      refine wp_region_plw (.step [true, true, true, true, true, true, true, true, true, true, true, true] (.cons 12 (.last [false, false, false, false, false, false, false, false, false, false, false, false, false, true, true, true, true]) .nil)) (fun y => ∃ q : CW [], y = q.1) (by kernel_rfl) (by kernel_rfl) (by kernel_rfl) (fun _ _ _ _ _ _ _ h => h) ⟨⟨_, HF.out⟩, rfl⟩ ?_
                      simp only [wpPw, wpBw, selF, and_true]
                      generalize V10.drew = V11 at *
                      repeat (go_big_quiet_step (fail))
                      refine wpQuiet_nil ?_
                      refine wpOp_step rfl (fun K hK => ?_)
                      go_simp
                      refine hK _ _ ⟨(fun y => ∃ q : CW [], y = q.1), ⟨⟨_, (alln _)⟩, rfl⟩, fun _ h => h, ?_⟩
                      clear hK K
                      (try simp only [Act.put, List.setIfInBounds_toArray, List.set_cons_succ, List.set_cons_zero])
                      repeat (go_big_quiet_step (fail))
                      refine wpQuiet_nil ?_
                      refine NoPanic.normal ?_
                      clear HF
                      go_wp2_with fail
                      go_roundw
                      case rel =>
                        refine ⟨j + 1, _, some s', rfl, hlt, HK3.out, by have := HW3.out; rw [upd_upd] at this; exact this, fun s2 e => ?_, fun e => by cases e⟩
                        injection e with e
                        subst e
                        exact ⟨rfl, HX.out, HY.out.mono (by omega), HLC.out.mono (by omega)⟩
                      case measure => simp [intOf]; omega
                    | inr la2 =>
                      rw [hr] at hm HNX
                      obtain ⟨⟨ans, rfl, hint⟩, hw3⟩ := hm
                      have hxx : some (lS c st' l', la2) = some (l2, la) := HNX.out
                      simp only [Option.some.injEq, Prod.mk.injEq] at hxx
                      obtain ⟨e1, e2⟩ := hxx
                      rw [e1, upd_upd] at hw3
                      rw [e2] at hint
                      have HW3 := Lib.hid hw3
                      clear hr hw3 HNX HBD e1 e2
                      rw [HL2.out.1] at hint
                      obtain ⟨ao2, cap2, rfl, hcp, hX⟩ := hint
                      simp only [List.length_nil] at hcp ⊢
                      obtain ⟨cb2, co2, cc2, k02, kk2⟩ := HW3.out.cell
                      have kp := kk2 (5 + c) (by omega)
                      rw [HL2.out.2.1.p c hc4, upd_self] at kp
                      have K02 := Lib.hid k02
                      have KP := Lib.hid kp
                      clear hX k02 kk2 kp
                      go_wp2_with fail
                      replace HK3 := Lib.hid HK3.out.drew
                      replace HW3 := Lib.hid HW3.out.drew
                      replace K02 : Hid (World.cell? W7.drew ⟨R, 0, none⟩ = some (.slice (some ⟨cb2, co2, none⟩) 771 cc2)) := Lib.hid K02.out
                      replace KP : Hid (World.cell? W7.drew ⟨cb2, co2 + (5 + c), none⟩ = some (.int .i64 0)) := Lib.hid KP.out
                      have HF : Hid (∀ p ∈ ([] : List (Addr × Value)), World.cell? W7.drew p.1 = some p.2) := Lib.hid (alln _)
                      haveI : Inhabited (CW []) := ⟨⟨_, HF.out⟩⟩
                      (try simp only [Act.put, List.setIfInBounds_toArray, List.set_cons_succ, List.set_cons_zero])
                      refine wp_region_noPanic ?_
                      refine wp_region_plw (.step [true, true, true, true, true, true, true, true, true, true, true, true, true, true, true, true, true, true, true, true, true, true, true, false, false, false, true, true] (.cons 23 (.last [false, false, false, false, false, false, false, false, false, false, false, false, false, false, false, false, false, false, false, false, false, false, false, false, true, true, false, false, true, true, true]) .nil)) (fun y => ∃ q : CW [], y = q.1) (by kernel_rfl) (by kernel_rfl) (by kernel_rfl) (fun _ _ _ _ _ _ _ h => h) ⟨⟨_, HF.out⟩, rfl⟩ ?_
                      simp only [wpPw, wpBw, selF, and_true]
                      generalize W7.drew = V12 at *
                      repeat (go_big_quiet_step (fail))
                      refine wpQuiet_nil ?_
                      refine wpOp_step rfl (fun K hK => ?_)
                      go_simp
                      refine hK _ _ ⟨(fun y => ∃ q : CW [], y = q.1), ⟨⟨_, (alln _)⟩, rfl⟩, fun _ h => h, ?_⟩
                      clear hK K
                      (try simp only [Act.put, List.setIfInBounds_toArray, List.set_cons_succ, List.set_cons_zero])
                      repeat (go_big_quiet_step (fail))
                      refine wpQuiet_nil ?_
                      refine NoPanic.normal ?_
                      clear HF
                      go_wp2_with fail
                      replace HK3 := Lib.hid HK3.out.drew
                      replace HW3 := Lib.hid HW3.out.drew
                      replace K02 : Hid (World.cell? V12.drew ⟨R, 0, none⟩ = some (.slice (some ⟨cb2, co2, none⟩) 771 cc2)) := Lib.hid K02.out
                      replace KP : Hid (World.cell? V12.drew ⟨cb2, co2 + (5 + c), none⟩ = some (.int .i64 0)) := Lib.hid KP.out
                      have HC5 : Hid (0 ≤ (c : Int) ∧ (c : Int) < 4) := Lib.hid ⟨by omega, by omega⟩
                      have HF : Hid (∀ p ∈ ([(⟨R, 0, none⟩, .slice (some ⟨cb2, co2, none⟩) 771 cc2), (⟨cb2, co2 + (5 + c), none⟩, .int .i64 0)] : List (Addr × Value)), World.cell? V12.drew p.1 = some p.2) := Lib.hid (allc K02.out (allc KP.out (alln _)))
                      haveI : Inhabited (CW [(⟨R, 0, none⟩, .slice (some ⟨cb2, co2, none⟩) 771 cc2), (⟨cb2, co2 + (5 + c), none⟩, .int .i64 0)]) := ⟨⟨_, HF.out⟩⟩
                      have f0 : ∀ q : CW [(⟨R, 0, none⟩, .slice (some ⟨cb2, co2, none⟩) 771 cc2), (⟨cb2, co2 + (5 + c), none⟩, .int .i64 0)], q.1.cell? ⟨R, 0, none⟩ = some (.slice (some ⟨cb2, co2, none⟩) 771 cc2) := fun q => q.2 (⟨R, 0, none⟩, .slice (some ⟨cb2, co2, none⟩) 771 cc2) (by simp)
                      have f1 : ∀ q : CW [(⟨R, 0, none⟩, .slice (some ⟨cb2, co2, none⟩) 771 cc2), (⟨cb2, co2 + (5 + c), none⟩, .int .i64 0)], q.1.cell? ⟨cb2, co2 + (5 + c), none⟩ = some (.int .i64 0) := fun q => q.2 (⟨cb2, co2 + (5 + c), none⟩, .int .i64 0) (by simp)
                      (try simp only [Act.put, List.setIfInBounds_toArray, List.set_cons_succ, List.set_cons_zero])
                      refine wp_region_noPanic ?_
                      refine wp_region_plw (.step [true, true, true, true, true, true, true, true, true, true, true, true] (.cons 12 (.last [false, false, false, false, false, false, false, false, false, false, false, false, false, true, true, true, true]) .nil)) (fun y => ∃ q : CW [(⟨R, 0, none⟩, .slice (some ⟨cb2, co2, none⟩) 771 cc2), (⟨cb2, co2 + (5 + c), none⟩, .int .i64 0)], y = q.1) (by kernel_rfl) (by kernel_rfl) (by kernel_rfl) (fun _ _ _ _ _ _ _ h => h) ⟨⟨_, HF.out⟩, rfl⟩ ?_
                      simp only [wpPw, wpBw, selF, and_true]
                      generalize V12.drew = V13 at *
                      repeat (go_big_quiet_step (fail))
                      refine wpQuiet_nil ?_
                      refine wpOp_step rfl (fun K hK => ?_)
                      go_simp
                      refine (pin13d (c : Int) ((5 + c : Nat) : Int) _ HC5.out (by omega)).mono ?_
                      rintro e V14 ⟨rfl, rfl⟩
                      refine hK _ _ ⟨(fun y => ∃ q : CW [(⟨R, 0, none⟩, .slice (some ⟨cb2, co2, none⟩) 771 cc2), (⟨cb2, co2 + (5 + c), none⟩, .int .i64 0)], y = q.1), ⟨⟨_, (allc K02.out (allc KP.out (alln _)))⟩, rfl⟩, fun _ h => h, ?_⟩
                      clear hK K
                      (try simp only [Act.put, List.setIfInBounds_toArray, List.set_cons_succ, List.set_cons_zero])
                      repeat (go_big_quiet_step (fail))
                      refine wpQuiet_nil ?_
                      refine NoPanic.normal ?_
                      clear HF f0 f1
                      go_wp2_with fail
                      go_roundw
                      case rel => exact ⟨j + 1, l2, none, rfl, hlt, HK3.out, HW3.out, fun s2 e => (by cases e), fun _ => ⟨rfl, rfl⟩⟩
                      case measure => simp [intOf]; omega
        · as_aux_lemma =>
            go_wp2_with fail
            clear h30 h31 h32 k0 k2
            go_loopw [16, 17] (fun av iv wx => ∃ m : Nat, m ≤ 4 ∧ iv = .int .i64 m ∧ av = .bool (allT pv E m) ∧ Below wo.heap.size wo wx) (fun _ iv _ => 4 - (intOf iv).toNat)
            case atStart => exact ⟨0, by omega, rfl, by simp [allT], Below.refl _ _⟩
            case round =>
              obtain ⟨m, hm, rfl, rfl, hbx⟩ := hrel
              have HBX := Lib.hid hbx
              clear hbx
              by_cases hm4 : m < 4
              · have dm : decide ((m : Int) < 4) = true := by simp; omega
                have HM4 : Hid (0 ≤ (m : Int) ∧ (m : Int) < 4) := Lib.hid ⟨by omega, by omega⟩
                go_wp2_with fail
                have G0 : Hid (World.cell? wr.drew ⟨R, 0, none⟩ = some (.slice (some ⟨cb, co, none⟩) 771 cc)) := Lib.hid ((HBX.out.cell (World.block_lt_of_cell? _ _ K0.out)).trans K0.out)
                have G1 : Hid (World.cell? wr.drew ⟨cb, co + (5 + m), none⟩ = some (.int .i64 (pv m))) := Lib.hid ((HBX.out.cell (World.block_lt_of_cell? _ _ (KK.out (5 + m) (by omega)))).trans (by rw [KK.out (5 + m) (by omega), HSH.out.p m hm4]))
                replace HBX := Lib.hid (HBX.out.trans ((below_drew _).mono HBX.out.size))
                have HF : Hid (∀ p ∈ ([(⟨R, 0, none⟩, .slice (some ⟨cb, co, none⟩) 771 cc), (⟨cb, co + (5 + m), none⟩, .int .i64 (pv m))] : List (Addr × Value)), World.cell? wr.drew p.1 = some p.2) := Lib.hid (allc G0.out (allc G1.out (alln _)))
                haveI : Inhabited (CW [(⟨R, 0, none⟩, .slice (some ⟨cb, co, none⟩) 771 cc), (⟨cb, co + (5 + m), none⟩, .int .i64 (pv m))]) := ⟨⟨_, HF.out⟩⟩
                have f0 : ∀ q : CW [(⟨R, 0, none⟩, .slice (some ⟨cb, co, none⟩) 771 cc), (⟨cb, co + (5 + m), none⟩, .int .i64 (pv m))], q.1.cell? ⟨R, 0, none⟩ = some (.slice (some ⟨cb, co, none⟩) 771 cc) := fun q => q.2 (⟨R, 0, none⟩, .slice (some ⟨cb, co, none⟩) 771 cc) (by simp)
                have f1 : ∀ q : CW [(⟨R, 0, none⟩, .slice (some ⟨cb, co, none⟩) 771 cc), (⟨cb, co + (5 + m), none⟩, .int .i64 (pv m))], q.1.cell? ⟨cb, co + (5 + m), none⟩ = some (.int .i64 (pv m)) := fun q => q.2 (⟨cb, co + (5 + m), none⟩, .int .i64 (pv m)) (by simp)
                (try simp only [Act.put, List.setIfInBounds_toArray, List.set_cons_succ, List.set_cons_zero])
                refine wp_region_noPanic ?_
                refine wp_region_plw (.step [true, true, true, true, true, true] (.cons 6 (.last [false, false, false, false, false, false, false, true, true, true]) .nil)) (fun y => ∃ q : CW [(⟨R, 0, none⟩, .slice (some ⟨cb, co, none⟩) 771 cc), (⟨cb, co + (5 + m), none⟩, .int .i64 (pv m))], y = q.1) (by kernel_rfl) (by kernel_rfl) (by kernel_rfl) (fun _ _ _ _ _ _ _ h => h) ⟨⟨_, HF.out⟩, rfl⟩ ?_
                simp only [wpPw, wpBw, selF, and_true]
                generalize wr.drew = V15 at *
                repeat (go_big_quiet_step (fail))
                refine wpQuiet_nil ?_
                refine wpOp_step rfl (fun K hK => ?_)
                go_simp
                refine (pin13d (m : Int) (((5 + m : Nat)) : Int) _ HM4.out (by omega)).mono ?_
                rintro e V16 ⟨rfl, rfl⟩
                refine hK _ _ ⟨(fun y => ∃ q : CW [(⟨R, 0, none⟩, .slice (some ⟨cb, co, none⟩) 771 cc), (⟨cb, co + (5 + m), none⟩, .int .i64 (pv m))], y = q.1), ⟨⟨_, (allc G0.out (allc G1.out (alln _)))⟩, rfl⟩, fun _ h => h, ?_⟩
                clear hK K
                (try simp only [Act.put, List.setIfInBounds_toArray, List.set_cons_succ, List.set_cons_zero])
                repeat (go_big_quiet_step (fail))
                refine wpQuiet_nil ?_
                refine NoPanic.normal ?_
                clear HF f0 f1
                have hp0 : (pv m == 0) = true ∨ (pv m == 0) = false := by cases (pv m == 0) <;> simp
                have hpe : (pv m == E + 1) = true ∨ (pv m == E + 1) = false := by cases (pv m == E + 1) <;> simp
                have HAS := Lib.hid (allT_succ pv E m)
                cases hal : allT pv E m with
                | false =>
                  rw [hal] at HAS
                  go_wp2_with fail
                  go_roundw
                  case rel => exact ⟨m + 1, by omega, rfl, by rw [HAS.out]; rfl, HBX.out⟩
                  case measure => simp [intOf]; omega
                | true =>
                  rw [hal] at HAS
                  rcases hp0 with hp0 | hp0
                  · rw [hp0] at HAS
                    clear hpe
                    go_wp2_with fail
                    go_roundw
                    case rel => exact ⟨m + 1, by omega, rfl, by rw [HAS.out]; rfl, HBX.out⟩
                    case measure => simp [intOf]; omega
                  · rcases hpe with hpe | hpe
                    · rw [hp0, hpe] at HAS
                      go_wp2_with fail
                      go_roundw
                      case rel => exact ⟨m + 1, by omega, rfl, by rw [HAS.out]; rfl, HBX.out⟩
                      case measure => simp [intOf]; omega
                    · rw [hp0, hpe] at HAS
                      go_wp2_with fail
                      go_roundw
                      case rel => exact ⟨m + 1, by omega, rfl, by rw [HAS.out]; rfl, HBX.out⟩
                      case measure => simp [intOf]; omega
              · have e4 : m = 4 := by omega
                subst e4
                have dm : decide (((4 : Nat) : Int) < 4) = false := by decide
                obtain ⟨al, hal⟩ : ∃ y, allT pv E 4 = y := ⟨_, rfl⟩
                have HAL := Lib.hid hal
                rw [hal]
                clear hal
                go_wp2_with fail
                refine (prog_lit 2 54 (by omega) _).mono ?_
                rintro e Wp ⟨rfl, rfl⟩
                have HM := Lib.hid (Mem.start Wp)
                go_wp2_with (first
                  | (refine wpm_bsI1 HM rfl (.tmp 103) rfl (c : Int) rfl ?_; intro W5 hM; (try simp only [List.cons_append, List.nil_append, List.set_cons_succ, List.set_cons_zero, Nat.reduceAdd] at hM); replace HM := hM; clear hM))
                have HBY := Lib.hid (HBX.out.trans (HM.out.bel.mono HBX.out.size))
                refine (begin3 c hc4 54 (by omega) _ _ R _ l os (fun b hb => by have := HWV.out.lt; have := HBY.out.size; have := HNL.out; omega) (fun b hb => hb.1) (ints_one0 HM.out (i := 0) rfl) (HWV.out.below HBY.out) HO.out).mono ?_
                rintro e W6 ⟨rfl, hk, hw6⟩
                have HK := Lib.hid ((KeepR.of_below (R := R) HBY.out).trans hk)
                have HW6 := Lib.hid hw6
                clear hk hw6 HM HBX HBY
                obtain ⟨l2, la, hal2, HL2⟩ : ∃ l2 la, alone c 6 (ini 54) l = some (l2, la) ∧ Hid (la.length = 1 ∧ Sh l2 (if al = true then E + 1 else E) pv ∧ CB 403 l2) := by
                  cases al with
                  | true => exact ⟨_, _, advT c HSH.out (of_decide_eq_true HAL.out), Lib.hid ⟨rfl, by rw [if_pos rfl]; exact HSH.out.setE _, (HCB.out.mono (by omega)).set _ _ (by rw [HSH.out.len]; omega) ⟨by omega, by have := HCB.out 2 (by omega) (by omega); rw [HSH.out.e] at this; omega⟩⟩⟩
                  | false => exact ⟨_, _, advF c HSH.out (by have h := of_decide_eq_false HAL.out; simp only [Classical.not_forall] at h; obtain ⟨i, hi, h⟩ := h; exact ⟨i, hi, h⟩), Lib.hid ⟨rfl, by rw [if_neg (by decide)]; exact HSH.out, HCB.out.mono (by omega)⟩⟩
                have HA2 := Lib.hid hal2
                clear hal2
                have HBI : Hid (Bs3 450 (ini 54)) := Lib.hid trivial
                go_wp2_with fail
                go_loopw [21, 22] (fun ev iv wx => ∃ (j : Nat) (l' : List Int) (o' : Option S3), iv = .int .i64 j ∧ j ≤ 6 ∧ KeepR R wo wx ∧ WV (fun b => b ≠ R ∧ b ≠ N3) R wx l' (upd os c o') ∧ (∀ st', o' = some st' → ev = .bool false ∧ alone c (6 - j) st' l' = some (l2, la) ∧ Bs3 (450 + j) st' ∧ CB (450 + j) l') ∧ (o' = none → ev = .bool true ∧ l' = l2)) (fun _ iv _ => 6 + 1 - (intOf iv).toNat)
                case atStart => exact ⟨0, l, some (ini 54), rfl, Nat.zero_le _, HK.out, HW6.out, fun st' e => (by injection e with e; subst e; exact ⟨rfl, HA2.out, by simpa using HBI.out, by simpa using HCB.out.mono (by omega)⟩), fun e => by cases e⟩
                case round =>
                  clear HK HW6 HA2 HBI
                  obtain ⟨j, l', o', rfl, hj, hkr, hw, hs, hn⟩ := hrel
                  have HKR := Lib.hid hkr
                  have HWW := Lib.hid hw
                  have HS := Lib.hid hs
                  have HNN := Lib.hid hn
                  clear hkr hw hs hn
                  cases o' with
                  | none =>
                    obtain ⟨rfl, rfl⟩ := HNN.out rfl
                    have hdl : decide ((j : Int) < 6) = true ∨ decide ((j : Int) < 6) = false := by cases decide ((j : Int) < 6) <;> simp
                    rcases hdl with hdl | hdl
                    all_goals
                      go_wp2_with fail
                      go_roundw
                      case rel =>
                        have hk := HKR.out
                        refine ⟨3, l', _, _, _, by omega, rfl, HBL.out.trans ((hk.bel (Nat.le_refl _) (Nat.le_of_lt HWV.out.lt)).mono HRR.out), HWW.out, upd_self _ _ _, HL2.out.2.1, HL2.out.2.2, Nat.lt_of_lt_of_le HNL.out hk.size, hk.cell HN3.out H3.out.1, hk.cell HN3.out H3.out.2.1, hk.cell HN3.out H3.out.2.2⟩
                      case measure => simp [intOf]
                  | some st' =>
                    obtain ⟨rfl, h1, h2, h3⟩ := HS.out st' rfl
                    obtain ⟨hlt, hx⟩ := alone_step h1
                    have HNX := Lib.hid hx
                    have hdl : decide ((j : Int) < 6) = true := by simp; omega
                    have HST := Lib.hid (fun (W : World) (h : WV (fun b => b ≠ R ∧ b ≠ N3) R W l' (upd os c (some st'))) (hP : ∀ b, W.heap.size ≤ b → b ≠ R ∧ b ≠ N3) => step3 (P := fun b => b ≠ R ∧ b ≠ N3) c hc4 R W l' _ hP (fun b hb => hb.1) h st' (upd_self _ _ _) (h2.mono (by omega)) (h3.mono (by omega)))
                    have HBD := Lib.hid (fun s' (e : aftS st' (yS c st' l') = .inl s') => aft_bd st' (450 + j + 1) (yS c st' l') (h2.mono (by omega)) (yS_le c hc4 st' l' (450 + j + 1) (by omega) (h3.mono (by omega))) s' e)
                    have HLC := Lib.hid (lS_cb c hc4 st' l' HWW.out.1 (450 + j) (by omega) h2 h3)
                    clear h1 h2 h3 hx HS HNN
                    go_wp2_with fail
                    refine (HST.out _ HWW.out (fun b hb => by have := HKR.out.size; have := HNL.out; have := HWV.out.lt; omega)).mono ?_
                    rintro e W7 ⟨hk3, hm⟩
                    have HK3 := Lib.hid (HKR.out.trans hk3)
                    clear HST hk3
                    cases hr : aftS st' (yS c st' l') with
                    | inl s' =>
                      rw [hr] at hm HNX
                      obtain ⟨rfl, hw3⟩ := hm
                      have HW3 := Lib.hid hw3
                      have HX : Hid (alone c (6 - (j + 1)) s' (lS c st' l') = some (l2, la)) := Lib.hid HNX.out
                      have HY := Lib.hid (HBD.out s' hr)
                      clear hr hw3 HNX HBD
                      go_wp2_with fail
                      replace HK3 := Lib.hid HK3.out.drew
                      replace HW3 := Lib.hid HW3.out.drew
                      have HF : Hid (∀ p ∈ ([] : List (Addr × Value)), World.cell? W7.drew p.1 = some p.2) := Lib.hid (alln _)
                      haveI : Inhabited (CW []) := ⟨⟨_, HF.out⟩⟩
                      (try simp only [Act.put, List.setIfInBounds_toArray, List.set_cons_succ, List.set_cons_zero])
                      refine wp_region_noPanic ?_
                      refine wp_region_plw (.step [true, true, true, true, true, true, true, true, true, true, true, true, true, true, true, true, true, true, true, true, true, true, true, false, false, false, true, true] (.cons 23 (.last [false, false, false, false, false, false, false, false, false, false, false, false, false, false, false, false, false, false, false, false, false, false, false, false, true, true, false, false, true, true, true]) .nil)) (fun y => ∃ q : CW [], y = q.1) (by kernel_rfl) (by kernel_rfl) (by kernel_rfl) (fun _ _ _ _ _ _ _ h => h) ⟨⟨_, HF.out⟩, rfl⟩ ?_
                      simp only [wpPw, wpBw, selF, and_true]
                      generalize W7.drew = V17 at *
                      repeat (go_big_quiet_step (fail))
                      refine wpQuiet_nil ?_
                      refine wpOp_step rfl (fun K hK => ?_)
                      go_simp
                      refine hK _ _ ⟨(fun y => ∃ q : CW [], y = q.1), ⟨⟨_, (alln _)⟩, rfl⟩, fun _ h => h, ?_⟩
                      clear hK K
                      (try simp only [Act.put, List.setIfInBounds_toArray, List.set_cons_succ, List.set_cons_zero])
                      repeat (go_big_quiet_step (fail))
                      refine wpQuiet_nil ?_
                      refine NoPanic.normal ?_
                      clear HF
                      go_wp2_with fail
                      replace HK3 := Lib.hid HK3.out.drew
                      replace HW3 := Lib.hid HW3.out.drew
                      have HF : Hid (∀ p ∈ ([] : List (Addr × Value)), World.cell? V17.drew p.1 = some p.2) := Lib.hid (alln _)
                      haveI : Inhabited (CW []) := ⟨⟨_, HF.out⟩⟩
                      (try simp only [Act.put, List.setIfInBounds_toArray, List.set_cons_succ, List.set_cons_zero])
                      refine wp_region_noPanic ?_
                      refine wp_region_plw (.step [true, true, true, true, true, true, true, true, true, true, true, true] (.cons 12 (.last [false, false, false, false, false, false, false, false, false, false, false, false, false, true, true, true, true]) .nil)) (fun y => ∃ q : CW [], y = q.1) (by kernel_rfl) (by kernel_rfl) (by kernel_rfl) (fun _ _ _ _ _ _ _ h => h) ⟨⟨_, HF.out⟩, rfl⟩ ?_
                      simp only [wpPw, wpBw, selF, and_true]
                      generalize V17.drew = V18 at *
                      repeat (go_big_quiet_step (fail))
                      refine wpQuiet_nil ?_
                      refine wpOp_step rfl (fun K hK => ?_)
                      go_simp
                      refine hK _ _ ⟨(fun y => ∃ q : CW [], y = q.1), ⟨⟨_, (alln _)⟩, rfl⟩, fun _ h => h, ?_⟩
                      clear hK K
                      (try simp only [Act.put, List.setIfInBounds_toArray, List.set_cons_succ, List.set_cons_zero])
                      repeat (go_big_quiet_step (fail))
                      refine wpQuiet_nil ?_
                      refine NoPanic.normal ?_
                      clear HF
                      go_wp2_with fail
                      go_roundw
                      case rel =>
                        refine ⟨j + 1, _, some s', rfl, hlt, HK3.out, by have := HW3.out; rw [upd_upd] at this; exact this, fun s2 e => ?_, fun e => by cases e⟩
                        injection e with e
                        subst e
                        exact ⟨rfl, HX.out, HY.out.mono (by omega), HLC.out.mono (by omega)⟩
                      case measure => simp [intOf]; omega
                    | inr la2 =>
                      rw [hr] at hm HNX
                      obtain ⟨⟨ans, rfl, hint⟩, hw3⟩ := hm
                      have hxx : some (lS c st' l', la2) = some (l2, la) := HNX.out
                      simp only [Option.some.injEq, Prod.mk.injEq] at hxx
                      obtain ⟨e1, e2⟩ := hxx
                      rw [e1, upd_upd] at hw3
                      rw [e2] at hint
                      have HW3 := Lib.hid hw3
                      clear hr hw3 HNX HBD e1 e2
                      obtain ⟨ao2, cap2, rfl, hcp, hX⟩ := hint
                      rw [HL2.out.1] at hcp ⊢
                      clear hX
                      go_wp2_with fail
                      replace HK3 := Lib.hid HK3.out.drew
                      replace HW3 := Lib.hid HW3.out.drew
                      have HF : Hid (∀ p ∈ ([] : List (Addr × Value)), World.cell? W7.drew p.1 = some p.2) := Lib.hid (alln _)
                      haveI : Inhabited (CW []) := ⟨⟨_, HF.out⟩⟩
                      (try simp only [Act.put, List.setIfInBounds_toArray, List.set_cons_succ, List.set_cons_zero])
                      refine wp_region_noPanic ?_
                      refine wp_region_plw (.step [true, true, true, true, true, true, true, true, true, true, true, true, true, true, true, true, true, true, true, true, true, true, true, false, false, false, true, true] (.cons 23 (.last [false, false, false, false, false, false, false, false, false, false, false, false, false, false, false, false, false, false, false, false, false, false, false, false, true, true, false, false, true, true, true]) .nil)) (fun y => ∃ q : CW [], y = q.1) (by kernel_rfl) (by kernel_rfl) (by kernel_rfl) (fun _ _ _ _ _ _ _ h => h) ⟨⟨_, HF.out⟩, rfl⟩ ?_
                      simp only [wpPw, wpBw, selF, and_true]
                      generalize W7.drew = V19 at *
                      repeat (go_big_quiet_step (fail))
                      refine wpQuiet_nil ?_
                      refine wpOp_step rfl (fun K hK => ?_)
                      go_simp
                      refine hK _ _ ⟨(fun y => ∃ q : CW [], y = q.1), ⟨⟨_, (alln _)⟩, rfl⟩, fun _ h => h, ?_⟩
                      clear hK K
                      (try simp only [Act.put, List.setIfInBounds_toArray, List.set_cons_succ, List.set_cons_zero])
                      repeat (go_big_quiet_step (fail))
                      refine wpQuiet_nil ?_
                      refine NoPanic.normal ?_
                      clear HF
                      go_wp2_with fail
                      replace HK3 := Lib.hid HK3.out.drew
                      replace HW3 := Lib.hid HW3.out.drew
                      have HF : Hid (∀ p ∈ ([] : List (Addr × Value)), World.cell? V19.drew p.1 = some p.2) := Lib.hid (alln _)
                      haveI : Inhabited (CW []) := ⟨⟨_, HF.out⟩⟩
                      (try simp only [Act.put, List.setIfInBounds_toArray, List.set_cons_succ, List.set_cons_zero])
                      refine wp_region_noPanic ?_
                      refine wp_region_plw (.step [true, true, true, true, true, true, true, true, true, true, true, true] (.cons 12 (.last [false, false, false, false, false, false, false, false, false, false, false, false, false, true, true, true, true]) .nil)) (fun y => ∃ q : CW [], y = q.1) (by kernel_rfl) (by kernel_rfl) (by kernel_rfl) (fun _ _ _ _ _ _ _ h => h) ⟨⟨_, HF.out⟩, rfl⟩ ?_
                      simp only [wpPw, wpBw, selF, and_true]
                      generalize V19.drew = V20 at *
                      repeat (go_big_quiet_step (fail))
                      refine wpQuiet_nil ?_
                      refine wpOp_step rfl (fun K hK => ?_)
                      go_simp
                      refine hK _ _ ⟨(fun y => ∃ q : CW [], y = q.1), ⟨⟨_, (alln _)⟩, rfl⟩, fun _ h => h, ?_⟩
                      clear hK K
                      (try simp only [Act.put, List.setIfInBounds_toArray, List.set_cons_succ, List.set_cons_zero])
                      repeat (go_big_quiet_step (fail))
                      refine wpQuiet_nil ?_
                      refine NoPanic.normal ?_
                      clear HF
                      obtain ⟨cb2, co2, cc2, k02, kk2⟩ := HW3.out.cell
                      have kp := kk2 2 (by omega)
                      rw [HL2.out.2.1.e] at kp
                      clear kk2
                      cases al with
                      | true =>
                        rw [if_pos rfl] at kp
                        have ee1 : (E + 1 == E + 1) = true := by simp
                        go_wp2_with fail
                        go_roundw
                        case rel => exact ⟨j + 1, l2, none, rfl, hlt, HK3.out, HW3.out, fun s2 e => (by cases e), fun _ => ⟨rfl, rfl⟩⟩
                        case measure => simp [intOf]; omega
                      | false =>
                        rw [if_neg (by decide)] at kp
                        have ee1 : (E == E + 1) = false := by rw [beq_eq_false_iff_ne]; omega
                        go_wp2_with fail
                        go_roundw
                        case rel => exact ⟨j + 1, l2, none, rfl, hlt, HK3.out, HW3.out, fun s2 e => (by cases e), fun _ => ⟨rfl, rfl⟩⟩
                        case measure => simp [intOf]; omega
        · clear h30 h31 h32 k0 k2
          go_wp2_with fail
          refine (wakes13 _).mono ?_
          rintro e Y ⟨rfl, hb⟩
          have HY := Lib.hid (HBL.out.trans (hb.mono HBL.out.size))
          clear hb
          go_wp2_with fail
          go_ret
          exact ⟨rfl, HY.out⟩
end Go.Proofs.Ytgpdknacnmapiaa
