/-
  Parts of a proof, put together: EpochHolds.
-/
import Derived.Test.YtgpdknacnmapiaaZh01
import Derived.Test.YtgpdknacnmapiaaZh02
import Derived.Test.YtgpdknacnmapiaaZh03
import Derived.Test.YtgpdknacnmapiaaZh04
import Derived.Test.YtgpdknacnmapiaaZh05
import Derived.Test.YtgpdknacnmapiaaZh06
import Derived.Test.YtgpdknacnmapiaaZh07
import Derived.Test.YtgpdknacnmapiaaZh08
import Derived.Test.YtgpdknacnmapiaaZh09
import Derived.Test.YtgpdknacnmapiaaZh10
import Derived.Test.YtgpdknacnmapiaaZh11
import Derived.Test.YtgpdknacnmapiaaZh12
import Derived.Test.YtgpdknacnmapiaaZh13
import Derived.Test.YtgpdknacnmapiaaZh14
import Derived.Test.YtgpdknacnmapiaaZh15
import Derived.Test.YtgpdknacnmapiaaZh16
import Derived.Test.YtgpdknacnmapiaaZh17
import Derived.Test.YtgpdknacnmapiaaZh18
import Derived.Test.YtgpdknacnmapiaaZh19
import Derived.Test.YtgpdknacnmapiaaZh20
import Derived.Test.YtgpdknacnmapiaaZh21
import Derived.Test.YtgpdknacnmapiaaZh22
import Derived.Test.YtgpdknacnmapiaaZh23
import Derived.Test.YtgpdknacnmapiaaZh24
import Derived.Test.YtgpdknacnmapiaaZh25
import Derived.Test.YtgpdknacnmapiaaZh26
import Derived.Test.YtgpdknacnmapiaaZh27
import Derived.Test.YtgpdknacnmapiaaZh28
import Derived.Test.YtgpdknacnmapiaaZh29
import Derived.Test.YtgpdknacnmapiaaZh30
import Derived.Test.YtgpdknacnmapiaaZh31
import Derived.Deep.QuietTactic
namespace Go.Proofs.Ytgpdknacnmapiaa
set_option linter.unusedVariables false
set_option linter.unusedSimpArgs false
open Go.RowKit
open Go
def PB4 (R bp ba bd : Nat) : Nat → Prop := fun b => b ≠ R ∧ b ≠ bp ∧ b ≠ ba ∧ b ≠ bd
/-- what holds at a round's head -/
structure LI (w : World) (R bp ba bd j : Nat) (wr : World) (l : List Int) (os : Nat → Option S3) (pin : Nat → Bool) (at_ does : Nat → Int) (Cp Ca Cd : Array Value) : Prop where
  bel : Below w.heap.size w wr
  wv : WV (PB4 R bp ba bd) R wr l os
  hp : HB wr bp Cp 26
  ha : HB wr ba Ca 27
  hd : HB wr bd Cd 27
  bl : Bl4 Cp pin
  ia : In4 Ca at_
  id : In4 Cd does
  hi : HI j l os pin at_ does
/-- the blocks are the law's own, and unlike -/
structure Bks (w : World) (R bp ba bd : Nat) : Prop where
  r : w.heap.size ≤ R
  p : w.heap.size ≤ bp
  a : w.heap.size ≤ ba
  d : w.heap.size ≤ bd
  n1 : bp ≠ ba
  n2 : bp ≠ bd
  n3 : ba ≠ bd
  r1 : bp ≠ R
  r2 : ba ≠ R
  r3 : bd ≠ R
def X3 (bp ba bd : Nat) : Nat → Prop := fun b => b = bp ∨ b = ba ∨ b = bd
theorem Mem.start3b {w : World} {bp ba bd : Nat} {Cp Ca Cd : Array Value} (h1 : HB w bp Cp 26) (h2 : HB w ba Ca 27) (h3 : HB w bd Cd 27) (n1 : bp ≠ ba) (n2 : bp ≠ bd) (n3 : ba ≠ bd) : Mem (X3 bp ba bd) w w [(bp, Cp, 26), (ba, Ca, 27), (bd, Cd, 27)] := by
  have h := Mem.start3 (R := bp) h1 h2 h3 n1 n2 n3
  exact h.wx fun b hb => by rcases hb with hb | hb; exact .inl hb; exact hb
theorem WV.mem3 {R bp ba bd : Nat} {wr W : World} {L : List (Nat × Array Value × TypeId)} {l : List Int} {os : Nat → Option S3} (h : WV (PB4 R bp ba bd) R wr l os) (hM : Mem (X3 bp ba bd) wr W L) (r1 : bp ≠ R) (r2 : ba ≠ R) (r3 : bd ≠ R) : WV (PL4 R bp ba bd wr.heap.size) R W l os := by
  refine ((h.weak (Q := PL4 R bp ba bd wr.heap.size) fun b hb hlt => ⟨hb.1, hb.2.1, hb.2.2.1, hb.2.2.2, by omega⟩)).keep fun b hb hlt => hM.old b hlt ?_
  rintro (e | e | e) <;> rcases hb with hb | hb
  · exact hb.2.1 e
  · exact r1 (e.symm.trans hb)
  · exact hb.2.2.1 e
  · exact r2 (e.symm.trans hb)
  · exact hb.2.2.2.1 e
  · exact r3 (e.symm.trans hb)
theorem WV.memO {R bp ba bd N : Nat} {W W' : World} {L L' : List (Nat × Array Value × TypeId)} {l : List Int} {os : Nat → Option S3} (h : WV (PL4 R bp ba bd N) R W l os) (hM : Mem (OL L) W W' L') (hL : ∀ b, OL L b → b = bp ∨ b = ba ∨ b = bd ∨ b = N) (hR : ¬ OL L R) : WV (PB4 R bp ba bd) R W' l os := by
  refine (h.keep fun b hb hlt => hM.old b hlt fun ho => ?_).weak fun b hb _ => ⟨hb.1, hb.2.1, hb.2.2.1, hb.2.2.2.1⟩
  rcases hb with hb | hb
  · rcases hL b ho with e | e | e | e
    · exact hb.2.1 e
    · exact hb.2.2.1 e
    · exact hb.2.2.2.1 e
    · exact hb.2.2.2.2 e
  · exact hR (hb ▸ ho)
theorem Mem.belB {X : Nat → Prop} {wr W : World} {L : List (Nat × Array Value × TypeId)} {B : Nat} (h : Mem X wr W L) (hX : ∀ b, X b → B ≤ b) (hB : B ≤ wr.heap.size) : Below B wr W :=
  ⟨h.os, h.tape, h.output, h.size, fun k hk => h.old k (by omega) fun hx => by have := hX k hx; omega⟩
theorem OL4 {b b0 b1 b2 b3 : Nat} {C0 C1 C2 C3 : Array Value} {t0 t1 t2 t3 : TypeId} (h : OL [(b0, C0, t0), (b1, C1, t1), (b2, C2, t2), (b3, C3, t3)] b) : b = b0 ∨ b = b1 ∨ b = b2 ∨ b = b3 := by
  obtain ⟨i, C, t, hi⟩ := h
  match i, hi with
  | 0, hi => simp at hi; exact .inl hi.1.symm
  | 1, hi => simp at hi; exact .inr (.inl hi.1.symm)
  | 2, hi => simp at hi; exact .inr (.inr (.inl hi.1.symm))
  | 3, hi => simp at hi; exact .inr (.inr (.inr hi.1.symm))
  | i + 4, hi => simp at hi
theorem L4_ne {R b0 b1 b2 b3 : Nat} {C0 C1 C2 C3 : Array Value} {t0 t1 t2 t3 : TypeId} (h0 : b0 ≠ R) (h1 : b1 ≠ R) (h2 : b2 ≠ R) (h3 : b3 ≠ R) : ∀ (i b : Nat) (C : Array Value) (t : TypeId), ([(b0, C0, t0), (b1, C1, t1), (b2, C2, t2), (b3, C3, t3)] : List (Nat × Array Value × TypeId))[i]? = some (b, C, t) → b ≠ R := fun i b C t hi => by
  have := OL4 ⟨i, C, t, hi⟩
  omega
set_option maxHeartbeats 16000000 in
set_option maxRecDepth 100000 in
theorem lawEpochHolds_walk (q0 : Value × List Pk2) (w : World) (w0 : SlQ w q0.1 q0.2) : Calls Try.prog 3 #[q0.1] w fun e w' => e = .returned (.bool true) ∧ Below w.heap.size w w' := by
  obtain ⟨v, pl⟩ := q0
  obtain ⟨ao, cap, e, hcap, hmax, hcell⟩ := w0
  simp only at e hcell hcap ⊢
  subst e
  obtain ⟨n, hn⟩ : ∃ n, pl.length = n := ⟨_, rfl⟩
  rw [hn] at hcap ⊢
  have HCELL := Lib.hid hcell
  have HLEN := Lib.hid hn
  clear hcell hn
  by_cases h300 : 300 < n
  · have dl : decide ((300 : Int) < (n : Int)) = true := by simp; omega
    clear h300
    go_enter Try.func3, Try.ntmps3
    go_wp2_with fail
    refine (wakes13 _).mono ?_
    rintro e Y ⟨rfl, hb⟩
    have HY := Lib.hid hb
    clear hb
    go_wp2_with fail
    go_ret
    exact ⟨rfl, HY.out⟩
  have dl : decide ((300 : Int) < (n : Int)) = false := by simp; omega
  go_enter Try.func3, Try.ntmps3
  go_wp2_with fail
  refine (newRun3 _).mono ?_
  rintro e W1 ⟨R, rfl, hR, hb, hw⟩
  have HM := Lib.hid (Mem.start W1)
  have HB1 := Lib.hid hb
  have HW1 := Lib.hid hw
  have HRR := Lib.hid hR
  clear hb hw hR
  go_wp2_with (first
    | (refine wpm_al26 HM rfl rfl ?_; intro A1 hM; (try simp only [List.cons_append, List.nil_append, List.set_cons_succ, List.set_cons_zero, Nat.reduceAdd] at hM); replace HM := hM; clear hM)
    | (refine wpm_al27 HM rfl rfl ?_; intro A2 hM; (try simp only [List.cons_append, List.nil_append, List.set_cons_succ, List.set_cons_zero, Nat.reduceAdd] at hM); replace HM := hM; clear hM; have HS2 := Lib.hid HM.out.size))
  rename_i A2x hs2x K9 a9
  have HBK : Hid (Bks w R W1.heap.size A1.heap.size A2x.heap.size) := Lib.hid (by
    have s0 := HB1.out.size
    have s1 := HW1.out.lt
    have l0 := HM.out.lt (i := 0) rfl
    have n1 : W1.heap.size ≠ A1.heap.size := fun e => by have := HM.out.nd 0 1 _ _ _ _ _ rfl (by rw [e]; rfl); omega
    have n2 : W1.heap.size ≠ A2x.heap.size := fun e => by have := HM.out.nd 0 2 _ _ _ _ _ rfl (by rw [e]; rfl); omega
    have n3 : A1.heap.size ≠ A2x.heap.size := fun e => by have := HM.out.nd 1 2 _ _ _ _ _ rfl (by rw [e]; rfl); omega
    have g1 := (HM.out.st 1 _ _ _ rfl).elim (fun f => f.elim) id
    have g2 := (HM.out.st 2 _ _ _ rfl).elim (fun f => f.elim) id
    have hr := HRR.out
    exact ⟨hr, s0, by omega, by omega, n1, n2, n3, by omega, by omega, by omega⟩)
  have HLI : Hid (LI w R W1.heap.size A1.heap.size A2x.heap.size 0 A2 (newL 160) (fun _ => none) (fun _ => false) (fun _ => 0) (fun _ => 0) _ _ _) := Lib.hid ⟨HB1.out.trans (HM.out.bel.mono HB1.out.size), (HW1.out.weak (fun b hb hlt => ⟨hb, by omega, by have := (HM.out.st 1 _ _ _ rfl).elim (fun f => f.elim) id; omega, by have := (HM.out.st 2 _ _ _ rfl).elim (fun f => f.elim) id; omega⟩)).below HM.out.bel, HM.out.hb 0 _ _ _ rfl, HM.out.hb 1 _ _ _ rfl, HM.out.hb 2 _ _ _ rfl, Bl4.zero, In4.zero, In4.zero, HI.start⟩
  generalize W1.heap.size = bp at *
  generalize A1.heap.size = ba at *
  generalize A2x.heap.size = bd at *
  clear HM HB1 HW1 hs2x HS2
  go_loopw [23] (fun iv wr => ∃ (j : Nat) (l : List Int) (os : Nat → Option S3) (pin : Nat → Bool) (at_ does : Nat → Int) (Cp Ca Cd : Array Value), j ≤ n ∧ iv = .int .i64 j ∧ LI w R bp ba bd j wr l os pin at_ does Cp Ca Cd) (fun iv _ => n - (intOf iv).toNat)
  case atStart => exact ⟨0, _, _, _, _, _, _, _, _, Nat.zero_le _, rfl, HLI.out⟩
  case round =>
    clear HLI
    obtain ⟨j, l, os, pin, at_, does, Cp, Ca, Cd, hj, rfl, hli⟩ := hrel
    have HLI := Lib.hid hli
    clear hli
    by_cases hlt : j < n
    · have dj : decide ((j : Int) < (n : Int)) = true := by simp; omega
      obtain ⟨⟨cl, dO⟩, hx⟩ : ∃ x, pl[j]? = some x := ⟨_, List.getElem?_eq_getElem (by rw [HLEN.out]; exact hlt)⟩
      obtain ⟨xb, xo, eao, c0, c1⟩ := HCELL.out j _ hx
      subst eao
      have kx0 := (HLI.out.bel.cell (World.block_lt_of_cell? _ _ c0)).trans c0
      have kx1 := (HLI.out.bel.cell (World.block_lt_of_cell? _ _ c1)).trans c1
      obtain ⟨c, hc, ec⟩ := norm_rem cl 4 ⟨by omega, by omega⟩
      have hc4 : c < 4 := by omega
      have HC4 := Lib.hid hc4
      have HEC := Lib.hid ec
      have HJ : Hid ((j : Int) ≤ 300) := Lib.hid (by omega)
      obtain ⟨E, hE⟩ : ∃ x, l.getD 2 0 = x := ⟨_, rfl⟩
      have HEE := Lib.hid hE
      have hE9 := HLI.out.hi.cb 2 (by omega) (by omega)
      rw [hE] at hE9
      obtain ⟨eb1, eb2⟩ : 0 ≤ E ∧ E ≤ 1000 := ⟨hE9.1, by have := hE9.2; have := HJ.out; omega⟩
      have HPK := Lib.hid (hold_pick HLI.out.hi (by omega) c hc4 dO)
      have HLEN2 := HLEN
      have HM := Lib.hid (Mem.start3b HLI.out.hp HLI.out.ha HLI.out.hd HBK.out.n1 HBK.out.n2 HBK.out.n3)
      clear c0 c1 hx hc hE hE9
      obtain ⟨bz, hbz⟩ : ∃ y, (os c).isSome = y := ⟨_, rfl⟩
      have HBZ := Lib.hid hbz
      clear hbz
      have hcase : (dO < 0 ∨ (0 ≤ dO ∧ ¬ dO ≤ 2)) ∨ ((0 ≤ dO ∧ dO ≤ 2) ∧ bz = true) ∨ ((0 ≤ dO ∧ dO < 2) ∧ bz = false) ∨ (dO = 2 ∧ bz = false) := by cases bz <;> simp <;> omega
      rcases hcase with (h0 | ⟨h0, h2⟩) | ⟨⟨h0, h2⟩, rfl⟩ | ⟨⟨h0, h2⟩, rfl⟩ | ⟨rfl, rfl⟩
      · have d0 : decide ((0 : Int) ≤ dO) = false := by simp; omega
        have hn1 : ¬ ((0 ≤ dO ∧ dO ≤ 2) ∧ os c = none ∧ dO < 2) := fun h => by have := h.1; omega
        have hn2 : ¬ ((0 ≤ dO ∧ dO ≤ 2) ∧ os c = none) := fun h => by have := h.1; omega
        have hpk := HPK.out
        rw [if_neg hn1, if_neg hn2] at hpk
        replace HPK := Lib.hid hpk
        clear hpk hn1 hn2 h0
        have HBL := Lib.hid HLI.out.bl
        have HID := Lib.hid HLI.out.id
        go_wp2_with (first
          | (refine wp_ldq rfl (.tmp 25) rfl xb (xo + j * 2) rfl _ _ kx0 kx1 ?_)
          | (refine wpm_al29 HM rfl rfl ?_; intro W4 hM; (try simp only [List.cons_append, List.nil_append, List.set_cons_succ, List.set_cons_zero, Nat.reduceAdd] at hM); replace HM := hM; clear hM)
          | (refine wpm_st29 HM rfl (.tmp 8) (.tmp 26) rfl 3 rfl rfl cl (dO) rfl rfl ?_; intro W5 hM; (try simp only [List.cons_append, List.nil_append, List.set_cons_succ, List.set_cons_zero, Nat.reduceAdd] at hM); replace HM := hM; clear hM kx0 kx1; have HWV := Lib.hid (HLI.out.wv.mem3 HM.out HBK.out.r1 HBK.out.r2 HBK.out.r3); obtain ⟨cb, co, cc, k0, k2⟩ := HWV.out.cell; replace k2 := k2 2 (by omega); rw [HEE.out] at k2; have kb := HWV.out.busy c HC4.out; rw [HBZ.out] at kb; have y0 := (HM.out.hb 3 _ _ _ rfl).cell (k := 0) (v := .int .i64 cl) rfl; have y1 := (HM.out.hb 3 _ _ _ rfl).cell (k := 1) (v := .int .i64 (dO)) rfl)
          | (refine wpm_ld29 HM rfl (.tmp 8) rfl 3 rfl rfl rfl ?_))
        refine (pick3 (P := PL4 R bp ba bd wr.heap.size) c HC4.out cl (dO) HEC.out R _ l os (fun b hb => by
          have h0 := HM.out.lt (i := 0) rfl
          have h1 := HM.out.lt (i := 1) rfl
          have h2 := HM.out.lt (i := 2) rfl
          have h3 := HM.out.lt (i := 3) rfl
          have h4 := HLI.out.wv.lt
          have h5 := HM.out.size
          exact ⟨by omega, by omega, by omega, by omega, by omega⟩) (fun b hb => hb.1) (HLI.out.wv.mem3 HM.out HBK.out.r1 HBK.out.r2 HBK.out.r3) (fun st ho => (HLI.out.hi.bd c st HC4.out ho).mono (by have := HJ.out; omega)) (HLI.out.hi.cb.mono (by have := HJ.out; omega))).mono ?_
        rintro e W8 ⟨hk, hw2, hpa⟩
        clear y0 y1 k0 k2 kb
        have HM4 := Lib.hid ((HM.out.wx (Y := X4 R bp ba bd) (fun b h => .inr h)).afterR hk (.inl rfl) (L4_ne HBK.out.r1 HBK.out.r2 HBK.out.r3 (by have := HLI.out.wv.lt; omega)))
        have HW2 := Lib.hid hw2
        clear hk hw2
        generalize hr : pkS c (dO) l os = r at *
        clear hr
        obtain ⟨l2, os2, la⟩ := r
        simp only at hpa HW2 HPK
        obtain ⟨E2, hE2⟩ : ∃ x, l2.getD 2 0 = x := ⟨_, rfl⟩
        have HE2 := Lib.hid hE2
        have hpk := HPK.out.1
        rw [hE2, HEE.out] at hpk
        obtain ⟨cb, co, cc, k0, k2⟩ := HW2.out.cell
        replace k2 := k2 2 (by omega)
        rw [hE2] at k2
        clear hE2
        cases la with
        | none =>
          unfold PkA at hpa
          subst hpa
          rcases hpk with hpk | hpk
          · have en1 : (E2 != E) = false := by simp [hpk]
            clear hpk
            have HIF : Hid (HI ((j + 1 : Nat) : Int) l2 os2 (pin) at_ (does)) := Lib.hid (by have := HPK.out.2; rw [show ((j + 1 : Nat) : Int) = (j : Int) + 1 by omega]; exact this)
            have HIA := Lib.hid HLI.out.ia
            go_wp2_with fail
            clear k0 k2 en1
            (try clear en2)
            go_loopw [110] (fun iv wx => ∃ i : Nat, i ≤ 4 ∧ iv = .int .i64 i ∧ wx = W8) (fun iv _ => 4 - (intOf iv).toNat)
            case atStart => exact ⟨0, by omega, rfl, rfl⟩
            case round =>
              obtain ⟨i, hi, rfl, rfl⟩ := hrel
              by_cases hi4 : i < 4
              · have dl4 : decide ((i : Int) < 4) = true := by simp; omega
                have kp := (HM4.out.hb 0 _ _ _ rfl).cell (k := i) (HBL.out.get i hi4)
                cases hpi : (pin) i with
                | false =>
                  rw [hpi] at kp
                  clear hpi
                  go_wp2_with fail
                  go_roundw
                  case rel => exact ⟨i + 1, by omega, rfl, by first | trivial | rfl⟩
                  case measure => simp [intOf]; omega
                | true =>
                  rw [hpi] at kp
                  have hpn := HIF.out.pn i hi4 hpi
                  have hcb5 := HIF.out.cb (5 + i) (by omega) (by omega)
                  have ka := (HM4.out.hb 1 _ _ _ rfl).cell (k := i) (HIA.out.get i hi4)
                  generalize (at_) i = av at *
                  have dgt : decide (av + 1 < E2) = false := by simp; have := hpn.2.1; have := HE2.out; omega
                  have av1 : 0 ≤ av := hpn.1
                  have av2 : av ≤ 1000 := by have := hpn.2.2.1; have := hcb5.2; omega
                  clear hpi hpn hcb5
                  go_wp2_with fail
                  go_roundw
                  case rel => exact ⟨i + 1, by omega, rfl, by first | trivial | rfl⟩
                  case measure => simp [intOf]; omega
              · have e4 : i = 4 := by omega
                subst e4
                have dl4 : decide (((4 : Nat) : Int) < 4) = false := by decide
                go_wp2_with fail
                go_roundw
                case rel => exact ⟨j + 1, l2, os2, pin, at_, does, _, _, _, hlt, rfl, ⟨HLI.out.bel.trans ((HM4.out.belB (fun b hb => by rcases hb with rfl | rfl | rfl | rfl; exact HBK.out.r; exact HBK.out.p; exact HBK.out.a; exact HBK.out.d) HLI.out.bel.size).mono (Nat.le_refl _)), (HW2.out.memO HM4.out.re (fun b => OL4) (fun h => L4_ne HBK.out.r1 HBK.out.r2 HBK.out.r3 (by have := HLI.out.wv.lt; omega) _ _ _ _ h.choose_spec.choose_spec.choose_spec rfl)), HM4.out.hb 0 _ _ _ rfl, HM4.out.hb 1 _ _ _ rfl, HM4.out.hb 2 _ _ _ rfl, HBL.out, HLI.out.ia, HID.out, HIF.out⟩⟩
                case measure => simp [intOf]; omega
          · have en1 : (E2 != E) = true := by simp [hpk]; omega
            have en2 : (E2 != E + 1) = false := by simp [hpk]
            clear hpk
            have HIF : Hid (HI ((j + 1 : Nat) : Int) l2 os2 (pin) at_ (does)) := Lib.hid (by have := HPK.out.2; rw [show ((j + 1 : Nat) : Int) = (j : Int) + 1 by omega]; exact this)
            have HIA := Lib.hid HLI.out.ia
            go_wp2_with fail
            clear k0 k2 en1
            (try clear en2)
            go_loopw [110] (fun iv wx => ∃ i : Nat, i ≤ 4 ∧ iv = .int .i64 i ∧ wx = W8) (fun iv _ => 4 - (intOf iv).toNat)
            case atStart => exact ⟨0, by omega, rfl, rfl⟩
            case round =>
              obtain ⟨i, hi, rfl, rfl⟩ := hrel
              by_cases hi4 : i < 4
              · have dl4 : decide ((i : Int) < 4) = true := by simp; omega
                have kp := (HM4.out.hb 0 _ _ _ rfl).cell (k := i) (HBL.out.get i hi4)
                cases hpi : (pin) i with
                | false =>
                  rw [hpi] at kp
                  clear hpi
                  go_wp2_with fail
                  go_roundw
                  case rel => exact ⟨i + 1, by omega, rfl, by first | trivial | rfl⟩
                  case measure => simp [intOf]; omega
                | true =>
                  rw [hpi] at kp
                  have hpn := HIF.out.pn i hi4 hpi
                  have hcb5 := HIF.out.cb (5 + i) (by omega) (by omega)
                  have ka := (HM4.out.hb 1 _ _ _ rfl).cell (k := i) (HIA.out.get i hi4)
                  generalize (at_) i = av at *
                  have dgt : decide (av + 1 < E2) = false := by simp; have := hpn.2.1; have := HE2.out; omega
                  have av1 : 0 ≤ av := hpn.1
                  have av2 : av ≤ 1000 := by have := hpn.2.2.1; have := hcb5.2; omega
                  clear hpi hpn hcb5
                  go_wp2_with fail
                  go_roundw
                  case rel => exact ⟨i + 1, by omega, rfl, by first | trivial | rfl⟩
                  case measure => simp [intOf]; omega
              · have e4 : i = 4 := by omega
                subst e4
                have dl4 : decide (((4 : Nat) : Int) < 4) = false := by decide
                go_wp2_with fail
                go_roundw
                case rel => exact ⟨j + 1, l2, os2, pin, at_, does, _, _, _, hlt, rfl, ⟨HLI.out.bel.trans ((HM4.out.belB (fun b hb => by rcases hb with rfl | rfl | rfl | rfl; exact HBK.out.r; exact HBK.out.p; exact HBK.out.a; exact HBK.out.d) HLI.out.bel.size).mono (Nat.le_refl _)), (HW2.out.memO HM4.out.re (fun b => OL4) (fun h => L4_ne HBK.out.r1 HBK.out.r2 HBK.out.r3 (by have := HLI.out.wv.lt; omega) _ _ _ _ h.choose_spec.choose_spec.choose_spec rfl)), HM4.out.hb 0 _ _ _ rfl, HM4.out.hb 1 _ _ _ rfl, HM4.out.hb 2 _ _ _ rfl, HBL.out, HLI.out.ia, HID.out, HIF.out⟩⟩
                case measure => simp [intOf]; omega
        | some la =>
          obtain ⟨ans, rfl, hint⟩ := hpa
          have HINT := Lib.hid hint
          obtain ⟨ao2, cap2, rfl, -, -⟩ := hint
          have hst := HPK.out.2
          simp only at hst
          obtain ⟨dv, hdv⟩ : ∃ x, (does) c = x := ⟨_, rfl⟩
          have kd := (HM4.out.hb 2 _ _ _ rfl).cell (k := c) (HID.out.get c HC4.out)
          rw [hdv] at kd
          rw [hdv] at hst
          by_cases hz : dv = 0
          · have dz : (dv == 0) = true := by simp [hz]
            rw [if_pos hz] at hst
            obtain ⟨x, rfl, hif⟩ := hst
            have HIF : Hid (HI ((j + 1 : Nat) : Int) l2 os2 (upd pin c true) (upd at_ c x) does) := Lib.hid (by rw [show ((j + 1 : Nat) : Int) = (j : Int) + 1 by omega]; exact hif)
            obtain ⟨aoX, capX, eX, -, hX⟩ := HINT.out
            obtain ⟨ab, ai, e1, ph, kc⟩ := hX 0 x rfl
            subst e1
            simp only [List.length_cons, List.length_nil, Nat.zero_add, Nat.add_zero, Value.slice.injEq] at eX kc ⊢
            obtain ⟨rfl, -, -⟩ := eX
            have HPH := Lib.hid ph
            have HKC := Lib.hid kc
            clear hif hz hX hdv ph
            rcases hpk with hpk | hpk
            · have en1 : (E2 != E) = false := by simp [hpk]
              clear hpk
              have HM5 := Lib.hid HM4.out.re
              go_wp2_with (first
                | (refine wpm_cell HM5 rfl 4 (.tmp 104) (.const (.bool true)) rfl Try.sizeOf4 0 c rfl (.bool true) rfl rfl (.inr (.inl ⟨_, rfl⟩)) (by rw [HBL.out.size]; exact HC4.out) _ rfl ?_; intro W9 hM; (try simp only [List.cons_append, List.nil_append, List.set_cons_succ, List.set_cons_zero, Nat.reduceAdd] at hM); replace HM5 := hM; clear hM kc kd k0 k2; have kc : W9.cell? ⟨ab, ai, none⟩ = some (.int .i64 x) := (World.cell?_of_block (HM5.out.old ab (World.block_lt_of_cell? _ _ HKC.out) (fun ho => by have := OL4 ho; have := HPH.out; unfold PL4 at this; omega))).trans HKC.out)
                | (refine wpm_cell HM5 rfl 3 (.tmp 109) (.tmp 108) rfl Try.sizeOf3 1 c rfl (.int .i64 x) rfl rfl (.inl ⟨_, _, rfl⟩) (by rw [HLI.out.ia.size]; exact HC4.out) _ rfl ?_; intro W10 hM; (try simp only [List.cons_append, List.nil_append, List.set_cons_succ, List.set_cons_zero, Nat.reduceAdd] at hM); replace HM5 := hM; clear hM kc))
              have HBL5 := Lib.hid (HBL.out.set c true)
              have HIA5 := Lib.hid (HLI.out.ia.set c x)
              clear en1
              (try clear en2)
              go_loopw [110] (fun iv wx => ∃ i : Nat, i ≤ 4 ∧ iv = .int .i64 i ∧ wx = W10) (fun iv _ => 4 - (intOf iv).toNat)
              case atStart => exact ⟨0, by omega, rfl, rfl⟩
              case round =>
                obtain ⟨i, hi, rfl, rfl⟩ := hrel
                by_cases hi4 : i < 4
                · have dl4 : decide ((i : Int) < 4) = true := by simp; omega
                  have kp := (HM5.out.hb 0 _ _ _ rfl).cell (k := i) (HBL5.out.get i hi4)
                  cases hpi : (upd pin c true) i with
                  | false =>
                    rw [hpi] at kp
                    clear hpi
                    go_wp2_with fail
                    go_roundw
                    case rel => exact ⟨i + 1, by omega, rfl, by first | trivial | rfl⟩
                    case measure => simp [intOf]; omega
                  | true =>
                    rw [hpi] at kp
                    have hpn := HIF.out.pn i hi4 hpi
                    have hcb5 := HIF.out.cb (5 + i) (by omega) (by omega)
                    have ka := (HM5.out.hb 1 _ _ _ rfl).cell (k := i) (HIA5.out.get i hi4)
                    generalize (upd at_ c x) i = av at *
                    have dgt : decide (av + 1 < E2) = false := by simp; have := hpn.2.1; have := HE2.out; omega
                    have av1 : 0 ≤ av := hpn.1
                    have av2 : av ≤ 1000 := by have := hpn.2.2.1; have := hcb5.2; omega
                    clear hpi hpn hcb5
                    go_wp2_with fail
                    go_roundw
                    case rel => exact ⟨i + 1, by omega, rfl, by first | trivial | rfl⟩
                    case measure => simp [intOf]; omega
                · have e4 : i = 4 := by omega
                  subst e4
                  have dl4 : decide (((4 : Nat) : Int) < 4) = false := by decide
                  go_wp2_with fail
                  go_roundw
                  case rel => exact ⟨j + 1, l2, os2, upd pin c true, upd at_ c x, does, _, _, _, hlt, rfl, ⟨HLI.out.bel.trans (((HM4.out.tr HM5.out).belB (fun b hb => by rcases hb with rfl | rfl | rfl | rfl; exact HBK.out.r; exact HBK.out.p; exact HBK.out.a; exact HBK.out.d) HLI.out.bel.size).mono (Nat.le_refl _)), (HW2.out.memO HM5.out (fun b => OL4) (fun h => L4_ne HBK.out.r1 HBK.out.r2 HBK.out.r3 (by have := HLI.out.wv.lt; omega) _ _ _ _ h.choose_spec.choose_spec.choose_spec rfl)), HM5.out.hb 0 _ _ _ rfl, HM5.out.hb 1 _ _ _ rfl, HM5.out.hb 2 _ _ _ rfl, HBL5.out, HIA5.out, HID.out, HIF.out⟩⟩
                  case measure => simp [intOf]; omega
            · have en1 : (E2 != E) = true := by simp [hpk]; omega
              have en2 : (E2 != E + 1) = false := by simp [hpk]
              clear hpk
              have HM5 := Lib.hid HM4.out.re
              go_wp2_with (first
                | (refine wpm_cell HM5 rfl 4 (.tmp 104) (.const (.bool true)) rfl Try.sizeOf4 0 c rfl (.bool true) rfl rfl (.inr (.inl ⟨_, rfl⟩)) (by rw [HBL.out.size]; exact HC4.out) _ rfl ?_; intro W9 hM; (try simp only [List.cons_append, List.nil_append, List.set_cons_succ, List.set_cons_zero, Nat.reduceAdd] at hM); replace HM5 := hM; clear hM kc kd k0 k2; have kc : W9.cell? ⟨ab, ai, none⟩ = some (.int .i64 x) := (World.cell?_of_block (HM5.out.old ab (World.block_lt_of_cell? _ _ HKC.out) (fun ho => by have := OL4 ho; have := HPH.out; unfold PL4 at this; omega))).trans HKC.out)
                | (refine wpm_cell HM5 rfl 3 (.tmp 109) (.tmp 108) rfl Try.sizeOf3 1 c rfl (.int .i64 x) rfl rfl (.inl ⟨_, _, rfl⟩) (by rw [HLI.out.ia.size]; exact HC4.out) _ rfl ?_; intro W10 hM; (try simp only [List.cons_append, List.nil_append, List.set_cons_succ, List.set_cons_zero, Nat.reduceAdd] at hM); replace HM5 := hM; clear hM kc))
              have HBL5 := Lib.hid (HBL.out.set c true)
              have HIA5 := Lib.hid (HLI.out.ia.set c x)
              clear en1
              (try clear en2)
              go_loopw [110] (fun iv wx => ∃ i : Nat, i ≤ 4 ∧ iv = .int .i64 i ∧ wx = W10) (fun iv _ => 4 - (intOf iv).toNat)
              case atStart => exact ⟨0, by omega, rfl, rfl⟩
              case round =>
                obtain ⟨i, hi, rfl, rfl⟩ := hrel
                by_cases hi4 : i < 4
                · have dl4 : decide ((i : Int) < 4) = true := by simp; omega
                  have kp := (HM5.out.hb 0 _ _ _ rfl).cell (k := i) (HBL5.out.get i hi4)
                  cases hpi : (upd pin c true) i with
                  | false =>
                    rw [hpi] at kp
                    clear hpi
                    go_wp2_with fail
                    go_roundw
                    case rel => exact ⟨i + 1, by omega, rfl, by first | trivial | rfl⟩
                    case measure => simp [intOf]; omega
                  | true =>
                    rw [hpi] at kp
                    have hpn := HIF.out.pn i hi4 hpi
                    have hcb5 := HIF.out.cb (5 + i) (by omega) (by omega)
                    have ka := (HM5.out.hb 1 _ _ _ rfl).cell (k := i) (HIA5.out.get i hi4)
                    generalize (upd at_ c x) i = av at *
                    have dgt : decide (av + 1 < E2) = false := by simp; have := hpn.2.1; have := HE2.out; omega
                    have av1 : 0 ≤ av := hpn.1
                    have av2 : av ≤ 1000 := by have := hpn.2.2.1; have := hcb5.2; omega
                    clear hpi hpn hcb5
                    go_wp2_with fail
                    go_roundw
                    case rel => exact ⟨i + 1, by omega, rfl, by first | trivial | rfl⟩
                    case measure => simp [intOf]; omega
                · have e4 : i = 4 := by omega
                  subst e4
                  have dl4 : decide (((4 : Nat) : Int) < 4) = false := by decide
                  go_wp2_with fail
                  go_roundw
                  case rel => exact ⟨j + 1, l2, os2, upd pin c true, upd at_ c x, does, _, _, _, hlt, rfl, ⟨HLI.out.bel.trans (((HM4.out.tr HM5.out).belB (fun b hb => by rcases hb with rfl | rfl | rfl | rfl; exact HBK.out.r; exact HBK.out.p; exact HBK.out.a; exact HBK.out.d) HLI.out.bel.size).mono (Nat.le_refl _)), (HW2.out.memO HM5.out (fun b => OL4) (fun h => L4_ne HBK.out.r1 HBK.out.r2 HBK.out.r3 (by have := HLI.out.wv.lt; omega) _ _ _ _ h.choose_spec.choose_spec.choose_spec rfl)), HM5.out.hb 0 _ _ _ rfl, HM5.out.hb 1 _ _ _ rfl, HM5.out.hb 2 _ _ _ rfl, HBL5.out, HIA5.out, HID.out, HIF.out⟩⟩
                  case measure => simp [intOf]; omega
          · have dz : (dv == 0) = false := by rw [beq_eq_false_iff_ne]; exact hz
            rw [if_neg hz] at hst
            have HIF : Hid (HI ((j + 1 : Nat) : Int) l2 os2 (pin) at_ (does)) := Lib.hid (by rw [show ((j + 1 : Nat) : Int) = (j : Int) + 1 by omega]; exact hst)
            have HIA := Lib.hid HLI.out.ia
            clear hst hz hdv
            rcases hpk with hpk | hpk
            · have en1 : (E2 != E) = false := by simp [hpk]
              clear hpk
              go_wp2_with fail
              clear k0 k2 kd en1
              (try clear en2)
              go_loopw [110] (fun iv wx => ∃ i : Nat, i ≤ 4 ∧ iv = .int .i64 i ∧ wx = W8) (fun iv _ => 4 - (intOf iv).toNat)
              case atStart => exact ⟨0, by omega, rfl, rfl⟩
              case round =>
                obtain ⟨i, hi, rfl, rfl⟩ := hrel
                by_cases hi4 : i < 4
                · have dl4 : decide ((i : Int) < 4) = true := by simp; omega
                  have kp := (HM4.out.hb 0 _ _ _ rfl).cell (k := i) (HBL.out.get i hi4)
                  cases hpi : (pin) i with
                  | false =>
                    rw [hpi] at kp
                    clear hpi
                    go_wp2_with fail
                    go_roundw
                    case rel => exact ⟨i + 1, by omega, rfl, by first | trivial | rfl⟩
                    case measure => simp [intOf]; omega
                  | true =>
                    rw [hpi] at kp
                    have hpn := HIF.out.pn i hi4 hpi
                    have hcb5 := HIF.out.cb (5 + i) (by omega) (by omega)
                    have ka := (HM4.out.hb 1 _ _ _ rfl).cell (k := i) (HIA.out.get i hi4)
                    generalize (at_) i = av at *
                    have dgt : decide (av + 1 < E2) = false := by simp; have := hpn.2.1; have := HE2.out; omega
                    have av1 : 0 ≤ av := hpn.1
                    have av2 : av ≤ 1000 := by have := hpn.2.2.1; have := hcb5.2; omega
                    clear hpi hpn hcb5
                    go_wp2_with fail
                    go_roundw
                    case rel => exact ⟨i + 1, by omega, rfl, by first | trivial | rfl⟩
                    case measure => simp [intOf]; omega
                · have e4 : i = 4 := by omega
                  subst e4
                  have dl4 : decide (((4 : Nat) : Int) < 4) = false := by decide
                  go_wp2_with fail
                  go_roundw
                  case rel => exact ⟨j + 1, l2, os2, pin, at_, does, _, _, _, hlt, rfl, ⟨HLI.out.bel.trans ((HM4.out.belB (fun b hb => by rcases hb with rfl | rfl | rfl | rfl; exact HBK.out.r; exact HBK.out.p; exact HBK.out.a; exact HBK.out.d) HLI.out.bel.size).mono (Nat.le_refl _)), (HW2.out.memO HM4.out.re (fun b => OL4) (fun h => L4_ne HBK.out.r1 HBK.out.r2 HBK.out.r3 (by have := HLI.out.wv.lt; omega) _ _ _ _ h.choose_spec.choose_spec.choose_spec rfl)), HM4.out.hb 0 _ _ _ rfl, HM4.out.hb 1 _ _ _ rfl, HM4.out.hb 2 _ _ _ rfl, HBL.out, HLI.out.ia, HID.out, HIF.out⟩⟩
                  case measure => simp [intOf]; omega
            · have en1 : (E2 != E) = true := by simp [hpk]; omega
              have en2 : (E2 != E + 1) = false := by simp [hpk]
              clear hpk
              go_wp2_with fail
              clear k0 k2 kd en1
              (try clear en2)
              go_loopw [110] (fun iv wx => ∃ i : Nat, i ≤ 4 ∧ iv = .int .i64 i ∧ wx = W8) (fun iv _ => 4 - (intOf iv).toNat)
              case atStart => exact ⟨0, by omega, rfl, rfl⟩
              case round =>
                obtain ⟨i, hi, rfl, rfl⟩ := hrel
                by_cases hi4 : i < 4
                · have dl4 : decide ((i : Int) < 4) = true := by simp; omega
                  have kp := (HM4.out.hb 0 _ _ _ rfl).cell (k := i) (HBL.out.get i hi4)
                  cases hpi : (pin) i with
                  | false =>
                    rw [hpi] at kp
                    clear hpi
                    go_wp2_with fail
                    go_roundw
                    case rel => exact ⟨i + 1, by omega, rfl, by first | trivial | rfl⟩
                    case measure => simp [intOf]; omega
                  | true =>
                    rw [hpi] at kp
                    have hpn := HIF.out.pn i hi4 hpi
                    have hcb5 := HIF.out.cb (5 + i) (by omega) (by omega)
                    have ka := (HM4.out.hb 1 _ _ _ rfl).cell (k := i) (HIA.out.get i hi4)
                    generalize (at_) i = av at *
                    have dgt : decide (av + 1 < E2) = false := by simp; have := hpn.2.1; have := HE2.out; omega
                    have av1 : 0 ≤ av := hpn.1
                    have av2 : av ≤ 1000 := by have := hpn.2.2.1; have := hcb5.2; omega
                    clear hpi hpn hcb5
                    go_wp2_with fail
                    go_roundw
                    case rel => exact ⟨i + 1, by omega, rfl, by first | trivial | rfl⟩
                    case measure => simp [intOf]; omega
                · have e4 : i = 4 := by omega
                  subst e4
                  have dl4 : decide (((4 : Nat) : Int) < 4) = false := by decide
                  go_wp2_with fail
                  go_roundw
                  case rel => exact ⟨j + 1, l2, os2, pin, at_, does, _, _, _, hlt, rfl, ⟨HLI.out.bel.trans ((HM4.out.belB (fun b hb => by rcases hb with rfl | rfl | rfl | rfl; exact HBK.out.r; exact HBK.out.p; exact HBK.out.a; exact HBK.out.d) HLI.out.bel.size).mono (Nat.le_refl _)), (HW2.out.memO HM4.out.re (fun b => OL4) (fun h => L4_ne HBK.out.r1 HBK.out.r2 HBK.out.r3 (by have := HLI.out.wv.lt; omega) _ _ _ _ h.choose_spec.choose_spec.choose_spec rfl)), HM4.out.hb 0 _ _ _ rfl, HM4.out.hb 1 _ _ _ rfl, HM4.out.hb 2 _ _ _ rfl, HBL.out, HLI.out.ia, HID.out, HIF.out⟩⟩
                  case measure => simp [intOf]; omega
      · have d0 : decide ((0 : Int) ≤ dO) = true := by simp; omega
        have d2 : decide (dO ≤ 2) = false := by simp; omega
        have hn1 : ¬ ((0 ≤ dO ∧ dO ≤ 2) ∧ os c = none ∧ dO < 2) := fun h => h2 h.1.2
        have hn2 : ¬ ((0 ≤ dO ∧ dO ≤ 2) ∧ os c = none) := fun h => h2 h.1.2
        have hpk := HPK.out
        rw [if_neg hn1, if_neg hn2] at hpk
        replace HPK := Lib.hid hpk
        clear hpk hn1 hn2 h0 h2
        have HBL := Lib.hid HLI.out.bl
        have HID := Lib.hid HLI.out.id
        go_wp2_with (first
          | (refine wp_ldq rfl (.tmp 25) rfl xb (xo + j * 2) rfl _ _ kx0 kx1 ?_)
          | (refine wpm_al29 HM rfl rfl ?_; intro W4 hM; (try simp only [List.cons_append, List.nil_append, List.set_cons_succ, List.set_cons_zero, Nat.reduceAdd] at hM); replace HM := hM; clear hM)
          | (refine wpm_st29 HM rfl (.tmp 8) (.tmp 26) rfl 3 rfl rfl cl (dO) rfl rfl ?_; intro W5 hM; (try simp only [List.cons_append, List.nil_append, List.set_cons_succ, List.set_cons_zero, Nat.reduceAdd] at hM); replace HM := hM; clear hM kx0 kx1; have HWV := Lib.hid (HLI.out.wv.mem3 HM.out HBK.out.r1 HBK.out.r2 HBK.out.r3); obtain ⟨cb, co, cc, k0, k2⟩ := HWV.out.cell; replace k2 := k2 2 (by omega); rw [HEE.out] at k2; have kb := HWV.out.busy c HC4.out; rw [HBZ.out] at kb; have y0 := (HM.out.hb 3 _ _ _ rfl).cell (k := 0) (v := .int .i64 cl) rfl; have y1 := (HM.out.hb 3 _ _ _ rfl).cell (k := 1) (v := .int .i64 (dO)) rfl)
          | (refine wpm_ld29 HM rfl (.tmp 8) rfl 3 rfl rfl rfl ?_))
        refine (pick3 (P := PL4 R bp ba bd wr.heap.size) c HC4.out cl (dO) HEC.out R _ l os (fun b hb => by
          have h0 := HM.out.lt (i := 0) rfl
          have h1 := HM.out.lt (i := 1) rfl
          have h2 := HM.out.lt (i := 2) rfl
          have h3 := HM.out.lt (i := 3) rfl
          have h4 := HLI.out.wv.lt
          have h5 := HM.out.size
          exact ⟨by omega, by omega, by omega, by omega, by omega⟩) (fun b hb => hb.1) (HLI.out.wv.mem3 HM.out HBK.out.r1 HBK.out.r2 HBK.out.r3) (fun st ho => (HLI.out.hi.bd c st HC4.out ho).mono (by have := HJ.out; omega)) (HLI.out.hi.cb.mono (by have := HJ.out; omega))).mono ?_
        rintro e W8 ⟨hk, hw2, hpa⟩
        clear y0 y1 k0 k2 kb
        have HM4 := Lib.hid ((HM.out.wx (Y := X4 R bp ba bd) (fun b h => .inr h)).afterR hk (.inl rfl) (L4_ne HBK.out.r1 HBK.out.r2 HBK.out.r3 (by have := HLI.out.wv.lt; omega)))
        have HW2 := Lib.hid hw2
        clear hk hw2
        generalize hr : pkS c (dO) l os = r at *
        clear hr
        obtain ⟨l2, os2, la⟩ := r
        simp only at hpa HW2 HPK
        obtain ⟨E2, hE2⟩ : ∃ x, l2.getD 2 0 = x := ⟨_, rfl⟩
        have HE2 := Lib.hid hE2
        have hpk := HPK.out.1
        rw [hE2, HEE.out] at hpk
        obtain ⟨cb, co, cc, k0, k2⟩ := HW2.out.cell
        replace k2 := k2 2 (by omega)
        rw [hE2] at k2
        clear hE2
        cases la with
        | none =>
          unfold PkA at hpa
          subst hpa
          rcases hpk with hpk | hpk
          · have en1 : (E2 != E) = false := by simp [hpk]
            clear hpk
            have HIF : Hid (HI ((j + 1 : Nat) : Int) l2 os2 (pin) at_ (does)) := Lib.hid (by have := HPK.out.2; rw [show ((j + 1 : Nat) : Int) = (j : Int) + 1 by omega]; exact this)
            have HIA := Lib.hid HLI.out.ia
            go_wp2_with fail
            clear k0 k2 en1
            (try clear en2)
            go_loopw [110] (fun iv wx => ∃ i : Nat, i ≤ 4 ∧ iv = .int .i64 i ∧ wx = W8) (fun iv _ => 4 - (intOf iv).toNat)
            case atStart => exact ⟨0, by omega, rfl, rfl⟩
            case round =>
              obtain ⟨i, hi, rfl, rfl⟩ := hrel
              by_cases hi4 : i < 4
              · have dl4 : decide ((i : Int) < 4) = true := by simp; omega
                have kp := (HM4.out.hb 0 _ _ _ rfl).cell (k := i) (HBL.out.get i hi4)
                cases hpi : (pin) i with
                | false =>
                  rw [hpi] at kp
                  clear hpi
                  go_wp2_with fail
                  go_roundw
                  case rel => exact ⟨i + 1, by omega, rfl, by first | trivial | rfl⟩
                  case measure => simp [intOf]; omega
                | true =>
                  rw [hpi] at kp
                  have hpn := HIF.out.pn i hi4 hpi
                  have hcb5 := HIF.out.cb (5 + i) (by omega) (by omega)
                  have ka := (HM4.out.hb 1 _ _ _ rfl).cell (k := i) (HIA.out.get i hi4)
                  generalize (at_) i = av at *
                  have dgt : decide (av + 1 < E2) = false := by simp; have := hpn.2.1; have := HE2.out; omega
                  have av1 : 0 ≤ av := hpn.1
                  have av2 : av ≤ 1000 := by have := hpn.2.2.1; have := hcb5.2; omega
                  clear hpi hpn hcb5
                  go_wp2_with fail
                  go_roundw
                  case rel => exact ⟨i + 1, by omega, rfl, by first | trivial | rfl⟩
                  case measure => simp [intOf]; omega
              · have e4 : i = 4 := by omega
                subst e4
                have dl4 : decide (((4 : Nat) : Int) < 4) = false := by decide
                go_wp2_with fail
                go_roundw
                case rel => exact ⟨j + 1, l2, os2, pin, at_, does, _, _, _, hlt, rfl, ⟨HLI.out.bel.trans ((HM4.out.belB (fun b hb => by rcases hb with rfl | rfl | rfl | rfl; exact HBK.out.r; exact HBK.out.p; exact HBK.out.a; exact HBK.out.d) HLI.out.bel.size).mono (Nat.le_refl _)), (HW2.out.memO HM4.out.re (fun b => OL4) (fun h => L4_ne HBK.out.r1 HBK.out.r2 HBK.out.r3 (by have := HLI.out.wv.lt; omega) _ _ _ _ h.choose_spec.choose_spec.choose_spec rfl)), HM4.out.hb 0 _ _ _ rfl, HM4.out.hb 1 _ _ _ rfl, HM4.out.hb 2 _ _ _ rfl, HBL.out, HLI.out.ia, HID.out, HIF.out⟩⟩
                case measure => simp [intOf]; omega
          · have en1 : (E2 != E) = true := by simp [hpk]; omega
            have en2 : (E2 != E + 1) = false := by simp [hpk]
            clear hpk
            have HIF : Hid (HI ((j + 1 : Nat) : Int) l2 os2 (pin) at_ (does)) := Lib.hid (by have := HPK.out.2; rw [show ((j + 1 : Nat) : Int) = (j : Int) + 1 by omega]; exact this)
            have HIA := Lib.hid HLI.out.ia
            go_wp2_with fail
            clear k0 k2 en1
            (try clear en2)
            go_loopw [110] (fun iv wx => ∃ i : Nat, i ≤ 4 ∧ iv = .int .i64 i ∧ wx = W8) (fun iv _ => 4 - (intOf iv).toNat)
            case atStart => exact ⟨0, by omega, rfl, rfl⟩
            case round =>
              obtain ⟨i, hi, rfl, rfl⟩ := hrel
              by_cases hi4 : i < 4
              · have dl4 : decide ((i : Int) < 4) = true := by simp; omega
                have kp := (HM4.out.hb 0 _ _ _ rfl).cell (k := i) (HBL.out.get i hi4)
                cases hpi : (pin) i with
                | false =>
                  rw [hpi] at kp
                  clear hpi
                  go_wp2_with fail
                  go_roundw
                  case rel => exact ⟨i + 1, by omega, rfl, by first | trivial | rfl⟩
                  case measure => simp [intOf]; omega
                | true =>
                  rw [hpi] at kp
                  have hpn := HIF.out.pn i hi4 hpi
                  have hcb5 := HIF.out.cb (5 + i) (by omega) (by omega)
                  have ka := (HM4.out.hb 1 _ _ _ rfl).cell (k := i) (HIA.out.get i hi4)
                  generalize (at_) i = av at *
                  have dgt : decide (av + 1 < E2) = false := by simp; have := hpn.2.1; have := HE2.out; omega
                  have av1 : 0 ≤ av := hpn.1
                  have av2 : av ≤ 1000 := by have := hpn.2.2.1; have := hcb5.2; omega
                  clear hpi hpn hcb5
                  go_wp2_with fail
                  go_roundw
                  case rel => exact ⟨i + 1, by omega, rfl, by first | trivial | rfl⟩
                  case measure => simp [intOf]; omega
              · have e4 : i = 4 := by omega
                subst e4
                have dl4 : decide (((4 : Nat) : Int) < 4) = false := by decide
                go_wp2_with fail
                go_roundw
                case rel => exact ⟨j + 1, l2, os2, pin, at_, does, _, _, _, hlt, rfl, ⟨HLI.out.bel.trans ((HM4.out.belB (fun b hb => by rcases hb with rfl | rfl | rfl | rfl; exact HBK.out.r; exact HBK.out.p; exact HBK.out.a; exact HBK.out.d) HLI.out.bel.size).mono (Nat.le_refl _)), (HW2.out.memO HM4.out.re (fun b => OL4) (fun h => L4_ne HBK.out.r1 HBK.out.r2 HBK.out.r3 (by have := HLI.out.wv.lt; omega) _ _ _ _ h.choose_spec.choose_spec.choose_spec rfl)), HM4.out.hb 0 _ _ _ rfl, HM4.out.hb 1 _ _ _ rfl, HM4.out.hb 2 _ _ _ rfl, HBL.out, HLI.out.ia, HID.out, HIF.out⟩⟩
                case measure => simp [intOf]; omega
        | some la =>
          obtain ⟨ans, rfl, hint⟩ := hpa
          have HINT := Lib.hid hint
          obtain ⟨ao2, cap2, rfl, -, -⟩ := hint
          have hst := HPK.out.2
          simp only at hst
          obtain ⟨dv, hdv⟩ : ∃ x, (does) c = x := ⟨_, rfl⟩
          have kd := (HM4.out.hb 2 _ _ _ rfl).cell (k := c) (HID.out.get c HC4.out)
          rw [hdv] at kd
          rw [hdv] at hst
          by_cases hz : dv = 0
          · have dz : (dv == 0) = true := by simp [hz]
            rw [if_pos hz] at hst
            obtain ⟨x, rfl, hif⟩ := hst
            have HIF : Hid (HI ((j + 1 : Nat) : Int) l2 os2 (upd pin c true) (upd at_ c x) does) := Lib.hid (by rw [show ((j + 1 : Nat) : Int) = (j : Int) + 1 by omega]; exact hif)
            obtain ⟨aoX, capX, eX, -, hX⟩ := HINT.out
            obtain ⟨ab, ai, e1, ph, kc⟩ := hX 0 x rfl
            subst e1
            simp only [List.length_cons, List.length_nil, Nat.zero_add, Nat.add_zero, Value.slice.injEq] at eX kc ⊢
            obtain ⟨rfl, -, -⟩ := eX
            have HPH := Lib.hid ph
            have HKC := Lib.hid kc
            clear hif hz hX hdv ph
            rcases hpk with hpk | hpk
            · have en1 : (E2 != E) = false := by simp [hpk]
              clear hpk
              have HM5 := Lib.hid HM4.out.re
              go_wp2_with (first
                | (refine wpm_cell HM5 rfl 4 (.tmp 104) (.const (.bool true)) rfl Try.sizeOf4 0 c rfl (.bool true) rfl rfl (.inr (.inl ⟨_, rfl⟩)) (by rw [HBL.out.size]; exact HC4.out) _ rfl ?_; intro W9 hM; (try simp only [List.cons_append, List.nil_append, List.set_cons_succ, List.set_cons_zero, Nat.reduceAdd] at hM); replace HM5 := hM; clear hM kc kd k0 k2; have kc : W9.cell? ⟨ab, ai, none⟩ = some (.int .i64 x) := (World.cell?_of_block (HM5.out.old ab (World.block_lt_of_cell? _ _ HKC.out) (fun ho => by have := OL4 ho; have := HPH.out; unfold PL4 at this; omega))).trans HKC.out)
                | (refine wpm_cell HM5 rfl 3 (.tmp 109) (.tmp 108) rfl Try.sizeOf3 1 c rfl (.int .i64 x) rfl rfl (.inl ⟨_, _, rfl⟩) (by rw [HLI.out.ia.size]; exact HC4.out) _ rfl ?_; intro W10 hM; (try simp only [List.cons_append, List.nil_append, List.set_cons_succ, List.set_cons_zero, Nat.reduceAdd] at hM); replace HM5 := hM; clear hM kc))
              have HBL5 := Lib.hid (HBL.out.set c true)
              have HIA5 := Lib.hid (HLI.out.ia.set c x)
              clear en1
              (try clear en2)
              go_loopw [110] (fun iv wx => ∃ i : Nat, i ≤ 4 ∧ iv = .int .i64 i ∧ wx = W10) (fun iv _ => 4 - (intOf iv).toNat)
              case atStart => exact ⟨0, by omega, rfl, rfl⟩
              case round =>
                obtain ⟨i, hi, rfl, rfl⟩ := hrel
                by_cases hi4 : i < 4
                · have dl4 : decide ((i : Int) < 4) = true := by simp; omega
                  have kp := (HM5.out.hb 0 _ _ _ rfl).cell (k := i) (HBL5.out.get i hi4)
                  cases hpi : (upd pin c true) i with
                  | false =>
                    rw [hpi] at kp
                    clear hpi
                    go_wp2_with fail
                    go_roundw
                    case rel => exact ⟨i + 1, by omega, rfl, by first | trivial | rfl⟩
                    case measure => simp [intOf]; omega
                  | true =>
                    rw [hpi] at kp
                    have hpn := HIF.out.pn i hi4 hpi
                    have hcb5 := HIF.out.cb (5 + i) (by omega) (by omega)
                    have ka := (HM5.out.hb 1 _ _ _ rfl).cell (k := i) (HIA5.out.get i hi4)
                    generalize (upd at_ c x) i = av at *
                    have dgt : decide (av + 1 < E2) = false := by simp; have := hpn.2.1; have := HE2.out; omega
                    have av1 : 0 ≤ av := hpn.1
                    have av2 : av ≤ 1000 := by have := hpn.2.2.1; have := hcb5.2; omega
                    clear hpi hpn hcb5
                    go_wp2_with fail
                    go_roundw
                    case rel => exact ⟨i + 1, by omega, rfl, by first | trivial | rfl⟩
                    case measure => simp [intOf]; omega
                · have e4 : i = 4 := by omega
                  subst e4
                  have dl4 : decide (((4 : Nat) : Int) < 4) = false := by decide
                  go_wp2_with fail
                  go_roundw
                  case rel => exact ⟨j + 1, l2, os2, upd pin c true, upd at_ c x, does, _, _, _, hlt, rfl, ⟨HLI.out.bel.trans (((HM4.out.tr HM5.out).belB (fun b hb => by rcases hb with rfl | rfl | rfl | rfl; exact HBK.out.r; exact HBK.out.p; exact HBK.out.a; exact HBK.out.d) HLI.out.bel.size).mono (Nat.le_refl _)), (HW2.out.memO HM5.out (fun b => OL4) (fun h => L4_ne HBK.out.r1 HBK.out.r2 HBK.out.r3 (by have := HLI.out.wv.lt; omega) _ _ _ _ h.choose_spec.choose_spec.choose_spec rfl)), HM5.out.hb 0 _ _ _ rfl, HM5.out.hb 1 _ _ _ rfl, HM5.out.hb 2 _ _ _ rfl, HBL5.out, HIA5.out, HID.out, HIF.out⟩⟩
                  case measure => simp [intOf]; omega
            · have en1 : (E2 != E) = true := by simp [hpk]; omega
              have en2 : (E2 != E + 1) = false := by simp [hpk]
              clear hpk
              have HM5 := Lib.hid HM4.out.re
              go_wp2_with (first
                | (refine wpm_cell HM5 rfl 4 (.tmp 104) (.const (.bool true)) rfl Try.sizeOf4 0 c rfl (.bool true) rfl rfl (.inr (.inl ⟨_, rfl⟩)) (by rw [HBL.out.size]; exact HC4.out) _ rfl ?_; intro W9 hM; (try simp only [List.cons_append, List.nil_append, List.set_cons_succ, List.set_cons_zero, Nat.reduceAdd] at hM); replace HM5 := hM; clear hM kc kd k0 k2; have kc : W9.cell? ⟨ab, ai, none⟩ = some (.int .i64 x) := (World.cell?_of_block (HM5.out.old ab (World.block_lt_of_cell? _ _ HKC.out) (fun ho => by have := OL4 ho; have := HPH.out; unfold PL4 at this; omega))).trans HKC.out)
                | (refine wpm_cell HM5 rfl 3 (.tmp 109) (.tmp 108) rfl Try.sizeOf3 1 c rfl (.int .i64 x) rfl rfl (.inl ⟨_, _, rfl⟩) (by rw [HLI.out.ia.size]; exact HC4.out) _ rfl ?_; intro W10 hM; (try simp only [List.cons_append, List.nil_append, List.set_cons_succ, List.set_cons_zero, Nat.reduceAdd] at hM); replace HM5 := hM; clear hM kc))
              have HBL5 := Lib.hid (HBL.out.set c true)
              have HIA5 := Lib.hid (HLI.out.ia.set c x)
              clear en1
              (try clear en2)
              go_loopw [110] (fun iv wx => ∃ i : Nat, i ≤ 4 ∧ iv = .int .i64 i ∧ wx = W10) (fun iv _ => 4 - (intOf iv).toNat)
              case atStart => exact ⟨0, by omega, rfl, rfl⟩
              case round =>
                obtain ⟨i, hi, rfl, rfl⟩ := hrel
                by_cases hi4 : i < 4
                · have dl4 : decide ((i : Int) < 4) = true := by simp; omega
                  have kp := (HM5.out.hb 0 _ _ _ rfl).cell (k := i) (HBL5.out.get i hi4)
                  cases hpi : (upd pin c true) i with
                  | false =>
                    rw [hpi] at kp
                    clear hpi
                    go_wp2_with fail
                    go_roundw
                    case rel => exact ⟨i + 1, by omega, rfl, by first | trivial | rfl⟩
                    case measure => simp [intOf]; omega
                  | true =>
                    rw [hpi] at kp
                    have hpn := HIF.out.pn i hi4 hpi
                    have hcb5 := HIF.out.cb (5 + i) (by omega) (by omega)
                    have ka := (HM5.out.hb 1 _ _ _ rfl).cell (k := i) (HIA5.out.get i hi4)
                    generalize (upd at_ c x) i = av at *
                    have dgt : decide (av + 1 < E2) = false := by simp; have := hpn.2.1; have := HE2.out; omega
                    have av1 : 0 ≤ av := hpn.1
                    have av2 : av ≤ 1000 := by have := hpn.2.2.1; have := hcb5.2; omega
                    clear hpi hpn hcb5
                    go_wp2_with fail
                    go_roundw
                    case rel => exact ⟨i + 1, by omega, rfl, by first | trivial | rfl⟩
                    case measure => simp [intOf]; omega
                · have e4 : i = 4 := by omega
                  subst e4
                  have dl4 : decide (((4 : Nat) : Int) < 4) = false := by decide
                  go_wp2_with fail
                  go_roundw
                  case rel => exact ⟨j + 1, l2, os2, upd pin c true, upd at_ c x, does, _, _, _, hlt, rfl, ⟨HLI.out.bel.trans (((HM4.out.tr HM5.out).belB (fun b hb => by rcases hb with rfl | rfl | rfl | rfl; exact HBK.out.r; exact HBK.out.p; exact HBK.out.a; exact HBK.out.d) HLI.out.bel.size).mono (Nat.le_refl _)), (HW2.out.memO HM5.out (fun b => OL4) (fun h => L4_ne HBK.out.r1 HBK.out.r2 HBK.out.r3 (by have := HLI.out.wv.lt; omega) _ _ _ _ h.choose_spec.choose_spec.choose_spec rfl)), HM5.out.hb 0 _ _ _ rfl, HM5.out.hb 1 _ _ _ rfl, HM5.out.hb 2 _ _ _ rfl, HBL5.out, HIA5.out, HID.out, HIF.out⟩⟩
                  case measure => simp [intOf]; omega
          · have dz : (dv == 0) = false := by rw [beq_eq_false_iff_ne]; exact hz
            rw [if_neg hz] at hst
            have HIF : Hid (HI ((j + 1 : Nat) : Int) l2 os2 (pin) at_ (does)) := Lib.hid (by rw [show ((j + 1 : Nat) : Int) = (j : Int) + 1 by omega]; exact hst)
            have HIA := Lib.hid HLI.out.ia
            clear hst hz hdv
            rcases hpk with hpk | hpk
            · have en1 : (E2 != E) = false := by simp [hpk]
              clear hpk
              go_wp2_with fail
              clear k0 k2 kd en1
              (try clear en2)
              go_loopw [110] (fun iv wx => ∃ i : Nat, i ≤ 4 ∧ iv = .int .i64 i ∧ wx = W8) (fun iv _ => 4 - (intOf iv).toNat)
              case atStart => exact ⟨0, by omega, rfl, rfl⟩
              case round =>
                obtain ⟨i, hi, rfl, rfl⟩ := hrel
                by_cases hi4 : i < 4
                · have dl4 : decide ((i : Int) < 4) = true := by simp; omega
                  have kp := (HM4.out.hb 0 _ _ _ rfl).cell (k := i) (HBL.out.get i hi4)
                  cases hpi : (pin) i with
                  | false =>
                    rw [hpi] at kp
                    clear hpi
                    go_wp2_with fail
                    go_roundw
                    case rel => exact ⟨i + 1, by omega, rfl, by first | trivial | rfl⟩
                    case measure => simp [intOf]; omega
                  | true =>
                    rw [hpi] at kp
                    have hpn := HIF.out.pn i hi4 hpi
                    have hcb5 := HIF.out.cb (5 + i) (by omega) (by omega)
                    have ka := (HM4.out.hb 1 _ _ _ rfl).cell (k := i) (HIA.out.get i hi4)
                    generalize (at_) i = av at *
                    have dgt : decide (av + 1 < E2) = false := by simp; have := hpn.2.1; have := HE2.out; omega
                    have av1 : 0 ≤ av := hpn.1
                    have av2 : av ≤ 1000 := by have := hpn.2.2.1; have := hcb5.2; omega
                    clear hpi hpn hcb5
                    go_wp2_with fail
                    go_roundw
                    case rel => exact ⟨i + 1, by omega, rfl, by first | trivial | rfl⟩
                    case measure => simp [intOf]; omega
                · have e4 : i = 4 := by omega
                  subst e4
                  have dl4 : decide (((4 : Nat) : Int) < 4) = false := by decide
                  go_wp2_with fail
                  go_roundw
                  case rel => exact ⟨j + 1, l2, os2, pin, at_, does, _, _, _, hlt, rfl, ⟨HLI.out.bel.trans ((HM4.out.belB (fun b hb => by rcases hb with rfl | rfl | rfl | rfl; exact HBK.out.r; exact HBK.out.p; exact HBK.out.a; exact HBK.out.d) HLI.out.bel.size).mono (Nat.le_refl _)), (HW2.out.memO HM4.out.re (fun b => OL4) (fun h => L4_ne HBK.out.r1 HBK.out.r2 HBK.out.r3 (by have := HLI.out.wv.lt; omega) _ _ _ _ h.choose_spec.choose_spec.choose_spec rfl)), HM4.out.hb 0 _ _ _ rfl, HM4.out.hb 1 _ _ _ rfl, HM4.out.hb 2 _ _ _ rfl, HBL.out, HLI.out.ia, HID.out, HIF.out⟩⟩
                  case measure => simp [intOf]; omega
            · have en1 : (E2 != E) = true := by simp [hpk]; omega
              have en2 : (E2 != E + 1) = false := by simp [hpk]
              clear hpk
              go_wp2_with fail
              clear k0 k2 kd en1
              (try clear en2)
              go_loopw [110] (fun iv wx => ∃ i : Nat, i ≤ 4 ∧ iv = .int .i64 i ∧ wx = W8) (fun iv _ => 4 - (intOf iv).toNat)
              case atStart => exact ⟨0, by omega, rfl, rfl⟩
              case round =>
                obtain ⟨i, hi, rfl, rfl⟩ := hrel
                by_cases hi4 : i < 4
                · have dl4 : decide ((i : Int) < 4) = true := by simp; omega
                  have kp := (HM4.out.hb 0 _ _ _ rfl).cell (k := i) (HBL.out.get i hi4)
                  cases hpi : (pin) i with
                  | false =>
                    rw [hpi] at kp
                    clear hpi
                    go_wp2_with fail
                    go_roundw
                    case rel => exact ⟨i + 1, by omega, rfl, by first | trivial | rfl⟩
                    case measure => simp [intOf]; omega
                  | true =>
                    rw [hpi] at kp
                    have hpn := HIF.out.pn i hi4 hpi
                    have hcb5 := HIF.out.cb (5 + i) (by omega) (by omega)
                    have ka := (HM4.out.hb 1 _ _ _ rfl).cell (k := i) (HIA.out.get i hi4)
                    generalize (at_) i = av at *
                    have dgt : decide (av + 1 < E2) = false := by simp; have := hpn.2.1; have := HE2.out; omega
                    have av1 : 0 ≤ av := hpn.1
                    have av2 : av ≤ 1000 := by have := hpn.2.2.1; have := hcb5.2; omega
                    clear hpi hpn hcb5
                    go_wp2_with fail
                    go_roundw
                    case rel => exact ⟨i + 1, by omega, rfl, by first | trivial | rfl⟩
                    case measure => simp [intOf]; omega
                · have e4 : i = 4 := by omega
                  subst e4
                  have dl4 : decide (((4 : Nat) : Int) < 4) = false := by decide
                  go_wp2_with fail
                  go_roundw
                  case rel => exact ⟨j + 1, l2, os2, pin, at_, does, _, _, _, hlt, rfl, ⟨HLI.out.bel.trans ((HM4.out.belB (fun b hb => by rcases hb with rfl | rfl | rfl | rfl; exact HBK.out.r; exact HBK.out.p; exact HBK.out.a; exact HBK.out.d) HLI.out.bel.size).mono (Nat.le_refl _)), (HW2.out.memO HM4.out.re (fun b => OL4) (fun h => L4_ne HBK.out.r1 HBK.out.r2 HBK.out.r3 (by have := HLI.out.wv.lt; omega) _ _ _ _ h.choose_spec.choose_spec.choose_spec rfl)), HM4.out.hb 0 _ _ _ rfl, HM4.out.hb 1 _ _ _ rfl, HM4.out.hb 2 _ _ _ rfl, HBL.out, HLI.out.ia, HID.out, HIF.out⟩⟩
                  case measure => simp [intOf]; omega
      · have d0 : decide ((0 : Int) ≤ dO) = true := by simp; omega
        have d2 : decide (dO ≤ 2) = true := by simp; omega
        have hso : os c ≠ none := fun h => by have := HBZ.out; rw [h] at this; cases this
        have hn1 : ¬ ((0 ≤ dO ∧ dO ≤ 2) ∧ os c = none ∧ dO < 2) := fun h => hso h.2.1
        have hn2 : ¬ ((0 ≤ dO ∧ dO ≤ 2) ∧ os c = none) := fun h => hso h.2
        have hla : (pkS c dO l os).la = none := by
          unfold pkS
          cases ho : os c with
          | none => exact absurd ho hso
          | some st => simp only; rw [if_pos ⟨h0, h2⟩]
        have HLA := Lib.hid hla
        clear hla
        have hpk := HPK.out
        rw [if_neg hn1, if_neg hn2] at hpk
        replace HPK := Lib.hid hpk
        clear hpk hn1 hn2 h0 h2 hso
        have HBL := Lib.hid HLI.out.bl
        have HID := Lib.hid HLI.out.id
        go_wp2_with (first
          | (refine wp_ldq rfl (.tmp 25) rfl xb (xo + j * 2) rfl _ _ kx0 kx1 ?_)
          | (refine wpm_al29 HM rfl rfl ?_; intro W4 hM; (try simp only [List.cons_append, List.nil_append, List.set_cons_succ, List.set_cons_zero, Nat.reduceAdd] at hM); replace HM := hM; clear hM)
          | (refine wpm_st29 HM rfl (.tmp 8) (.tmp 26) rfl 3 rfl rfl cl (dO) rfl rfl ?_; intro W5 hM; (try simp only [List.cons_append, List.nil_append, List.set_cons_succ, List.set_cons_zero, Nat.reduceAdd] at hM); replace HM := hM; clear hM kx0 kx1; have HWV := Lib.hid (HLI.out.wv.mem3 HM.out HBK.out.r1 HBK.out.r2 HBK.out.r3); obtain ⟨cb, co, cc, k0, k2⟩ := HWV.out.cell; replace k2 := k2 2 (by omega); rw [HEE.out] at k2; have kb := HWV.out.busy c HC4.out; rw [HBZ.out] at kb; have y0 := (HM.out.hb 3 _ _ _ rfl).cell (k := 0) (v := .int .i64 cl) rfl; have y1 := (HM.out.hb 3 _ _ _ rfl).cell (k := 1) (v := .int .i64 (dO)) rfl)
          | (refine wpm_ld29 HM rfl (.tmp 8) rfl 3 rfl rfl rfl ?_))
        refine (pick3 (P := PL4 R bp ba bd wr.heap.size) c HC4.out cl (dO) HEC.out R _ l os (fun b hb => by
          have h0 := HM.out.lt (i := 0) rfl
          have h1 := HM.out.lt (i := 1) rfl
          have h2 := HM.out.lt (i := 2) rfl
          have h3 := HM.out.lt (i := 3) rfl
          have h4 := HLI.out.wv.lt
          have h5 := HM.out.size
          exact ⟨by omega, by omega, by omega, by omega, by omega⟩) (fun b hb => hb.1) (HLI.out.wv.mem3 HM.out HBK.out.r1 HBK.out.r2 HBK.out.r3) (fun st ho => (HLI.out.hi.bd c st HC4.out ho).mono (by have := HJ.out; omega)) (HLI.out.hi.cb.mono (by have := HJ.out; omega))).mono ?_
        rintro e W8 ⟨hk, hw2, hpa⟩
        clear y0 y1 k0 k2 kb
        have HM4 := Lib.hid ((HM.out.wx (Y := X4 R bp ba bd) (fun b h => .inr h)).afterR hk (.inl rfl) (L4_ne HBK.out.r1 HBK.out.r2 HBK.out.r3 (by have := HLI.out.wv.lt; omega)))
        have HW2 := Lib.hid hw2
        clear hk hw2
        rw [HLA.out] at hpa
        have hpk := HPK.out
        rw [HLA.out] at hpk
        replace HPK := Lib.hid hpk
        clear hpk HLA
        generalize hr : pkS c (dO) l os = r at *
        clear hr
        obtain ⟨l2, os2, la⟩ := r
        simp only at hpa HW2 HPK
        obtain ⟨E2, hE2⟩ : ∃ x, l2.getD 2 0 = x := ⟨_, rfl⟩
        have HE2 := Lib.hid hE2
        have hpk := HPK.out.1
        rw [hE2, HEE.out] at hpk
        obtain ⟨cb, co, cc, k0, k2⟩ := HW2.out.cell
        replace k2 := k2 2 (by omega)
        rw [hE2] at k2
        clear hE2
        unfold PkA at hpa
        subst hpa
        rcases hpk with hpk | hpk
        · have en1 : (E2 != E) = false := by simp [hpk]
          clear hpk
          have HIF : Hid (HI ((j + 1 : Nat) : Int) l2 os2 (pin) at_ (does)) := Lib.hid (by have := HPK.out.2; rw [show ((j + 1 : Nat) : Int) = (j : Int) + 1 by omega]; exact this)
          have HIA := Lib.hid HLI.out.ia
          go_wp2_with fail
          clear k0 k2 en1
          (try clear en2)
          go_loopw [110] (fun iv wx => ∃ i : Nat, i ≤ 4 ∧ iv = .int .i64 i ∧ wx = W8) (fun iv _ => 4 - (intOf iv).toNat)
          case atStart => exact ⟨0, by omega, rfl, rfl⟩
          case round =>
            obtain ⟨i, hi, rfl, rfl⟩ := hrel
            by_cases hi4 : i < 4
            · have dl4 : decide ((i : Int) < 4) = true := by simp; omega
              have kp := (HM4.out.hb 0 _ _ _ rfl).cell (k := i) (HBL.out.get i hi4)
              cases hpi : (pin) i with
              | false =>
                rw [hpi] at kp
                clear hpi
                go_wp2_with fail
                go_roundw
                case rel => exact ⟨i + 1, by omega, rfl, by first | trivial | rfl⟩
                case measure => simp [intOf]; omega
              | true =>
                rw [hpi] at kp
                have hpn := HIF.out.pn i hi4 hpi
                have hcb5 := HIF.out.cb (5 + i) (by omega) (by omega)
                have ka := (HM4.out.hb 1 _ _ _ rfl).cell (k := i) (HIA.out.get i hi4)
                generalize (at_) i = av at *
                have dgt : decide (av + 1 < E2) = false := by simp; have := hpn.2.1; have := HE2.out; omega
                have av1 : 0 ≤ av := hpn.1
                have av2 : av ≤ 1000 := by have := hpn.2.2.1; have := hcb5.2; omega
                clear hpi hpn hcb5
                go_wp2_with fail
                go_roundw
                case rel => exact ⟨i + 1, by omega, rfl, by first | trivial | rfl⟩
                case measure => simp [intOf]; omega
            · have e4 : i = 4 := by omega
              subst e4
              have dl4 : decide (((4 : Nat) : Int) < 4) = false := by decide
              go_wp2_with fail
              go_roundw
              case rel => exact ⟨j + 1, l2, os2, pin, at_, does, _, _, _, hlt, rfl, ⟨HLI.out.bel.trans ((HM4.out.belB (fun b hb => by rcases hb with rfl | rfl | rfl | rfl; exact HBK.out.r; exact HBK.out.p; exact HBK.out.a; exact HBK.out.d) HLI.out.bel.size).mono (Nat.le_refl _)), (HW2.out.memO HM4.out.re (fun b => OL4) (fun h => L4_ne HBK.out.r1 HBK.out.r2 HBK.out.r3 (by have := HLI.out.wv.lt; omega) _ _ _ _ h.choose_spec.choose_spec.choose_spec rfl)), HM4.out.hb 0 _ _ _ rfl, HM4.out.hb 1 _ _ _ rfl, HM4.out.hb 2 _ _ _ rfl, HBL.out, HLI.out.ia, HID.out, HIF.out⟩⟩
              case measure => simp [intOf]; omega
        · have en1 : (E2 != E) = true := by simp [hpk]; omega
          have en2 : (E2 != E + 1) = false := by simp [hpk]
          clear hpk
          have HIF : Hid (HI ((j + 1 : Nat) : Int) l2 os2 (pin) at_ (does)) := Lib.hid (by have := HPK.out.2; rw [show ((j + 1 : Nat) : Int) = (j : Int) + 1 by omega]; exact this)
          have HIA := Lib.hid HLI.out.ia
          go_wp2_with fail
          clear k0 k2 en1
          (try clear en2)
          go_loopw [110] (fun iv wx => ∃ i : Nat, i ≤ 4 ∧ iv = .int .i64 i ∧ wx = W8) (fun iv _ => 4 - (intOf iv).toNat)
          case atStart => exact ⟨0, by omega, rfl, rfl⟩
          case round =>
            obtain ⟨i, hi, rfl, rfl⟩ := hrel
            by_cases hi4 : i < 4
            · have dl4 : decide ((i : Int) < 4) = true := by simp; omega
              have kp := (HM4.out.hb 0 _ _ _ rfl).cell (k := i) (HBL.out.get i hi4)
              cases hpi : (pin) i with
              | false =>
                rw [hpi] at kp
                clear hpi
                go_wp2_with fail
                go_roundw
                case rel => exact ⟨i + 1, by omega, rfl, by first | trivial | rfl⟩
                case measure => simp [intOf]; omega
              | true =>
                rw [hpi] at kp
                have hpn := HIF.out.pn i hi4 hpi
                have hcb5 := HIF.out.cb (5 + i) (by omega) (by omega)
                have ka := (HM4.out.hb 1 _ _ _ rfl).cell (k := i) (HIA.out.get i hi4)
                generalize (at_) i = av at *
                have dgt : decide (av + 1 < E2) = false := by simp; have := hpn.2.1; have := HE2.out; omega
                have av1 : 0 ≤ av := hpn.1
                have av2 : av ≤ 1000 := by have := hpn.2.2.1; have := hcb5.2; omega
                clear hpi hpn hcb5
                go_wp2_with fail
                go_roundw
                case rel => exact ⟨i + 1, by omega, rfl, by first | trivial | rfl⟩
                case measure => simp [intOf]; omega
            · have e4 : i = 4 := by omega
              subst e4
              have dl4 : decide (((4 : Nat) : Int) < 4) = false := by decide
              go_wp2_with fail
              go_roundw
              case rel => exact ⟨j + 1, l2, os2, pin, at_, does, _, _, _, hlt, rfl, ⟨HLI.out.bel.trans ((HM4.out.belB (fun b hb => by rcases hb with rfl | rfl | rfl | rfl; exact HBK.out.r; exact HBK.out.p; exact HBK.out.a; exact HBK.out.d) HLI.out.bel.size).mono (Nat.le_refl _)), (HW2.out.memO HM4.out.re (fun b => OL4) (fun h => L4_ne HBK.out.r1 HBK.out.r2 HBK.out.r3 (by have := HLI.out.wv.lt; omega) _ _ _ _ h.choose_spec.choose_spec.choose_spec rfl)), HM4.out.hb 0 _ _ _ rfl, HM4.out.hb 1 _ _ _ rfl, HM4.out.hb 2 _ _ _ rfl, HBL.out, HLI.out.ia, HID.out, HIF.out⟩⟩
              case measure => simp [intOf]; omega
      · have d0 : decide ((0 : Int) ≤ dO) = true := by simp; omega
        have d2 : decide (dO ≤ 2) = true := by simp; omega
        have d1 : decide (dO < 2) = true := by simp; omega
        have hso : os c = none := by have := HBZ.out; revert this; cases os c; intro _; rfl; intro h; cases h
        have hn1 : (0 ≤ dO ∧ dO ≤ 2) ∧ os c = none ∧ dO < 2 := ⟨by omega, hso, h2⟩
        have hn2 : (0 ≤ dO ∧ dO ≤ 2) ∧ os c = none := ⟨by omega, hso⟩
        have hla : (pkS c dO l os).la = none := by
          unfold pkS
          rw [hso]
          simp only
          rw [if_pos (by omega)]
        have HLA := Lib.hid hla
        clear hla
        have hpk := HPK.out
        rw [if_pos hn1, if_pos hn2] at hpk
        replace HPK := Lib.hid hpk
        clear hpk hn1 hn2 h0 h2 hso
        have HBL := Lib.hid (HLI.out.bl.set c false)
        have HID := Lib.hid (HLI.out.id.set c dO)
        go_wp2_with (first
          | (refine wp_ldq rfl (.tmp 25) rfl xb (xo + j * 2) rfl _ _ kx0 kx1 ?_)
          | (refine wpm_al29 HM rfl rfl ?_; intro W4 hM; (try simp only [List.cons_append, List.nil_append, List.set_cons_succ, List.set_cons_zero, Nat.reduceAdd] at hM); replace HM := hM; clear hM)
          | (refine wpm_st29 HM rfl (.tmp 8) (.tmp 26) rfl 3 rfl rfl cl (dO) rfl rfl ?_; intro W5 hM; (try simp only [List.cons_append, List.nil_append, List.set_cons_succ, List.set_cons_zero, Nat.reduceAdd] at hM); replace HM := hM; clear hM kx0 kx1; have HWV := Lib.hid (HLI.out.wv.mem3 HM.out HBK.out.r1 HBK.out.r2 HBK.out.r3); obtain ⟨cb, co, cc, k0, k2⟩ := HWV.out.cell; replace k2 := k2 2 (by omega); rw [HEE.out] at k2; have kb := HWV.out.busy c HC4.out; rw [HBZ.out] at kb; have y0 := (HM.out.hb 3 _ _ _ rfl).cell (k := 0) (v := .int .i64 cl) rfl; have y1 := (HM.out.hb 3 _ _ _ rfl).cell (k := 1) (v := .int .i64 (dO)) rfl)
          | (refine wpm_cell HM rfl 3 (.tmp 59) (.tmp 58) rfl Try.sizeOf3 2 c rfl (.int .i64 (dO)) rfl rfl (.inl ⟨_, _, rfl⟩) (by rw [HLI.out.id.size]; exact HC4.out) _ rfl ?_; intro W6 hM; (try simp only [List.cons_append, List.nil_append, List.set_cons_succ, List.set_cons_zero, Nat.reduceAdd] at hM); replace HM := hM; clear hM y0 y1 k0 k2 kb; have y0 := (HM.out.hb 3 _ _ _ rfl).cell (k := 0) (v := .int .i64 cl) rfl; have y1 := (HM.out.hb 3 _ _ _ rfl).cell (k := 1) (v := .int .i64 (dO)) rfl)
          | (refine wpm_cell HM rfl 4 (.tmp 64) (.const (.bool false)) rfl Try.sizeOf4 0 c rfl (.bool false) rfl rfl (.inr (.inl ⟨_, rfl⟩)) (by rw [HLI.out.bl.size]; exact HC4.out) _ rfl ?_; intro W7 hM; (try simp only [List.cons_append, List.nil_append, List.set_cons_succ, List.set_cons_zero, Nat.reduceAdd] at hM); replace HM := hM; clear hM y0 y1; have y0 := (HM.out.hb 3 _ _ _ rfl).cell (k := 0) (v := .int .i64 cl) rfl; have y1 := (HM.out.hb 3 _ _ _ rfl).cell (k := 1) (v := .int .i64 (dO)) rfl)
          | (refine wpm_ld29 HM rfl (.tmp 8) rfl 3 rfl rfl rfl ?_))
        refine (pick3 (P := PL4 R bp ba bd wr.heap.size) c HC4.out cl (dO) HEC.out R _ l os (fun b hb => by
          have h0 := HM.out.lt (i := 0) rfl
          have h1 := HM.out.lt (i := 1) rfl
          have h2 := HM.out.lt (i := 2) rfl
          have h3 := HM.out.lt (i := 3) rfl
          have h4 := HLI.out.wv.lt
          have h5 := HM.out.size
          exact ⟨by omega, by omega, by omega, by omega, by omega⟩) (fun b hb => hb.1) (HLI.out.wv.mem3 HM.out HBK.out.r1 HBK.out.r2 HBK.out.r3) (fun st ho => (HLI.out.hi.bd c st HC4.out ho).mono (by have := HJ.out; omega)) (HLI.out.hi.cb.mono (by have := HJ.out; omega))).mono ?_
        rintro e W8 ⟨hk, hw2, hpa⟩
        clear y0 y1
        have HM4 := Lib.hid ((HM.out.wx (Y := X4 R bp ba bd) (fun b h => .inr h)).afterR hk (.inl rfl) (L4_ne HBK.out.r1 HBK.out.r2 HBK.out.r3 (by have := HLI.out.wv.lt; omega)))
        have HW2 := Lib.hid hw2
        clear hk hw2
        rw [HLA.out] at hpa
        have hpk := HPK.out
        rw [HLA.out] at hpk
        replace HPK := Lib.hid hpk
        clear hpk HLA
        generalize hr : pkS c (dO) l os = r at *
        clear hr
        obtain ⟨l2, os2, la⟩ := r
        simp only at hpa HW2 HPK
        obtain ⟨E2, hE2⟩ : ∃ x, l2.getD 2 0 = x := ⟨_, rfl⟩
        have HE2 := Lib.hid hE2
        have hpk := HPK.out.1
        rw [hE2, HEE.out] at hpk
        obtain ⟨cb, co, cc, k0, k2⟩ := HW2.out.cell
        replace k2 := k2 2 (by omega)
        rw [hE2] at k2
        clear hE2
        unfold PkA at hpa
        subst hpa
        rcases hpk with hpk | hpk
        · have en1 : (E2 != E) = false := by simp [hpk]
          clear hpk
          have HIF : Hid (HI ((j + 1 : Nat) : Int) l2 os2 (upd pin c false) at_ (upd does c dO)) := Lib.hid (by have := HPK.out.2; rw [show ((j + 1 : Nat) : Int) = (j : Int) + 1 by omega]; exact this)
          have HIA := Lib.hid HLI.out.ia
          go_wp2_with fail
          clear k0 k2 en1
          (try clear en2)
          go_loopw [110] (fun iv wx => ∃ i : Nat, i ≤ 4 ∧ iv = .int .i64 i ∧ wx = W8) (fun iv _ => 4 - (intOf iv).toNat)
          case atStart => exact ⟨0, by omega, rfl, rfl⟩
          case round =>
            obtain ⟨i, hi, rfl, rfl⟩ := hrel
            by_cases hi4 : i < 4
            · have dl4 : decide ((i : Int) < 4) = true := by simp; omega
              have kp := (HM4.out.hb 0 _ _ _ rfl).cell (k := i) (HBL.out.get i hi4)
              cases hpi : (upd pin c false) i with
              | false =>
                rw [hpi] at kp
                clear hpi
                go_wp2_with fail
                go_roundw
                case rel => exact ⟨i + 1, by omega, rfl, by first | trivial | rfl⟩
                case measure => simp [intOf]; omega
              | true =>
                rw [hpi] at kp
                have hpn := HIF.out.pn i hi4 hpi
                have hcb5 := HIF.out.cb (5 + i) (by omega) (by omega)
                have ka := (HM4.out.hb 1 _ _ _ rfl).cell (k := i) (HIA.out.get i hi4)
                generalize (at_) i = av at *
                have dgt : decide (av + 1 < E2) = false := by simp; have := hpn.2.1; have := HE2.out; omega
                have av1 : 0 ≤ av := hpn.1
                have av2 : av ≤ 1000 := by have := hpn.2.2.1; have := hcb5.2; omega
                clear hpi hpn hcb5
                go_wp2_with fail
                go_roundw
                case rel => exact ⟨i + 1, by omega, rfl, by first | trivial | rfl⟩
                case measure => simp [intOf]; omega
            · have e4 : i = 4 := by omega
              subst e4
              have dl4 : decide (((4 : Nat) : Int) < 4) = false := by decide
              go_wp2_with fail
              go_roundw
              case rel => exact ⟨j + 1, l2, os2, upd pin c false, at_, upd does c dO, _, _, _, hlt, rfl, ⟨HLI.out.bel.trans ((HM4.out.belB (fun b hb => by rcases hb with rfl | rfl | rfl | rfl; exact HBK.out.r; exact HBK.out.p; exact HBK.out.a; exact HBK.out.d) HLI.out.bel.size).mono (Nat.le_refl _)), (HW2.out.memO HM4.out.re (fun b => OL4) (fun h => L4_ne HBK.out.r1 HBK.out.r2 HBK.out.r3 (by have := HLI.out.wv.lt; omega) _ _ _ _ h.choose_spec.choose_spec.choose_spec rfl)), HM4.out.hb 0 _ _ _ rfl, HM4.out.hb 1 _ _ _ rfl, HM4.out.hb 2 _ _ _ rfl, HBL.out, HLI.out.ia, HID.out, HIF.out⟩⟩
              case measure => simp [intOf]; omega
        · have en1 : (E2 != E) = true := by simp [hpk]; omega
          have en2 : (E2 != E + 1) = false := by simp [hpk]
          clear hpk
          have HIF : Hid (HI ((j + 1 : Nat) : Int) l2 os2 (upd pin c false) at_ (upd does c dO)) := Lib.hid (by have := HPK.out.2; rw [show ((j + 1 : Nat) : Int) = (j : Int) + 1 by omega]; exact this)
          have HIA := Lib.hid HLI.out.ia
          go_wp2_with fail
          clear k0 k2 en1
          (try clear en2)
          go_loopw [110] (fun iv wx => ∃ i : Nat, i ≤ 4 ∧ iv = .int .i64 i ∧ wx = W8) (fun iv _ => 4 - (intOf iv).toNat)
          case atStart => exact ⟨0, by omega, rfl, rfl⟩
          case round =>
            obtain ⟨i, hi, rfl, rfl⟩ := hrel
            by_cases hi4 : i < 4
            · have dl4 : decide ((i : Int) < 4) = true := by simp; omega
              have kp := (HM4.out.hb 0 _ _ _ rfl).cell (k := i) (HBL.out.get i hi4)
              cases hpi : (upd pin c false) i with
              | false =>
                rw [hpi] at kp
                clear hpi
                go_wp2_with fail
                go_roundw
                case rel => exact ⟨i + 1, by omega, rfl, by first | trivial | rfl⟩
                case measure => simp [intOf]; omega
              | true =>
                rw [hpi] at kp
                have hpn := HIF.out.pn i hi4 hpi
                have hcb5 := HIF.out.cb (5 + i) (by omega) (by omega)
                have ka := (HM4.out.hb 1 _ _ _ rfl).cell (k := i) (HIA.out.get i hi4)
                generalize (at_) i = av at *
                have dgt : decide (av + 1 < E2) = false := by simp; have := hpn.2.1; have := HE2.out; omega
                have av1 : 0 ≤ av := hpn.1
                have av2 : av ≤ 1000 := by have := hpn.2.2.1; have := hcb5.2; omega
                clear hpi hpn hcb5
                go_wp2_with fail
                go_roundw
                case rel => exact ⟨i + 1, by omega, rfl, by first | trivial | rfl⟩
                case measure => simp [intOf]; omega
            · have e4 : i = 4 := by omega
              subst e4
              have dl4 : decide (((4 : Nat) : Int) < 4) = false := by decide
              go_wp2_with fail
              go_roundw
              case rel => exact ⟨j + 1, l2, os2, upd pin c false, at_, upd does c dO, _, _, _, hlt, rfl, ⟨HLI.out.bel.trans ((HM4.out.belB (fun b hb => by rcases hb with rfl | rfl | rfl | rfl; exact HBK.out.r; exact HBK.out.p; exact HBK.out.a; exact HBK.out.d) HLI.out.bel.size).mono (Nat.le_refl _)), (HW2.out.memO HM4.out.re (fun b => OL4) (fun h => L4_ne HBK.out.r1 HBK.out.r2 HBK.out.r3 (by have := HLI.out.wv.lt; omega) _ _ _ _ h.choose_spec.choose_spec.choose_spec rfl)), HM4.out.hb 0 _ _ _ rfl, HM4.out.hb 1 _ _ _ rfl, HM4.out.hb 2 _ _ _ rfl, HBL.out, HLI.out.ia, HID.out, HIF.out⟩⟩
              case measure => simp [intOf]; omega
      · have hso : os c = none := by have := HBZ.out; revert this; cases os c; intro _; rfl; intro h; cases h
        have hn1 : ¬ ((0 ≤ (2 : Int) ∧ (2 : Int) ≤ 2) ∧ os c = none ∧ (2 : Int) < 2) := fun h => by have := h.2.2; omega
        have hn2 : (0 ≤ (2 : Int) ∧ (2 : Int) ≤ 2) ∧ os c = none := ⟨by omega, hso⟩
        have hla : (pkS c 2 l os).la = none := by
          unfold pkS
          rw [hso]
          simp only
          rw [if_pos (by omega)]
        have HLA := Lib.hid hla
        clear hla
        have hpk := HPK.out
        rw [if_neg hn1, if_pos hn2] at hpk
        replace HPK := Lib.hid hpk
        clear hpk hn1 hn2 hso
        have HBL := Lib.hid HLI.out.bl
        have HID := Lib.hid (HLI.out.id.set c 2)
        go_wp2_with (first
          | (refine wp_ldq rfl (.tmp 25) rfl xb (xo + j * 2) rfl _ _ kx0 kx1 ?_)
          | (refine wpm_al29 HM rfl rfl ?_; intro W4 hM; (try simp only [List.cons_append, List.nil_append, List.set_cons_succ, List.set_cons_zero, Nat.reduceAdd] at hM); replace HM := hM; clear hM)
          | (refine wpm_st29 HM rfl (.tmp 8) (.tmp 26) rfl 3 rfl rfl cl (2) rfl rfl ?_; intro W5 hM; (try simp only [List.cons_append, List.nil_append, List.set_cons_succ, List.set_cons_zero, Nat.reduceAdd] at hM); replace HM := hM; clear hM kx0 kx1; have HWV := Lib.hid (HLI.out.wv.mem3 HM.out HBK.out.r1 HBK.out.r2 HBK.out.r3); obtain ⟨cb, co, cc, k0, k2⟩ := HWV.out.cell; replace k2 := k2 2 (by omega); rw [HEE.out] at k2; have kb := HWV.out.busy c HC4.out; rw [HBZ.out] at kb; have y0 := (HM.out.hb 3 _ _ _ rfl).cell (k := 0) (v := .int .i64 cl) rfl; have y1 := (HM.out.hb 3 _ _ _ rfl).cell (k := 1) (v := .int .i64 (2)) rfl)
          | (refine wpm_cell HM rfl 3 (.tmp 59) (.tmp 58) rfl Try.sizeOf3 2 c rfl (.int .i64 (2)) rfl rfl (.inl ⟨_, _, rfl⟩) (by rw [HLI.out.id.size]; exact HC4.out) _ rfl ?_; intro W6 hM; (try simp only [List.cons_append, List.nil_append, List.set_cons_succ, List.set_cons_zero, Nat.reduceAdd] at hM); replace HM := hM; clear hM y0 y1 k0 k2 kb; have y0 := (HM.out.hb 3 _ _ _ rfl).cell (k := 0) (v := .int .i64 cl) rfl; have y1 := (HM.out.hb 3 _ _ _ rfl).cell (k := 1) (v := .int .i64 (2)) rfl)
          | (refine wpm_ld29 HM rfl (.tmp 8) rfl 3 rfl rfl rfl ?_))
        refine (pick3 (P := PL4 R bp ba bd wr.heap.size) c HC4.out cl (2) HEC.out R _ l os (fun b hb => by
          have h0 := HM.out.lt (i := 0) rfl
          have h1 := HM.out.lt (i := 1) rfl
          have h2 := HM.out.lt (i := 2) rfl
          have h3 := HM.out.lt (i := 3) rfl
          have h4 := HLI.out.wv.lt
          have h5 := HM.out.size
          exact ⟨by omega, by omega, by omega, by omega, by omega⟩) (fun b hb => hb.1) (HLI.out.wv.mem3 HM.out HBK.out.r1 HBK.out.r2 HBK.out.r3) (fun st ho => (HLI.out.hi.bd c st HC4.out ho).mono (by have := HJ.out; omega)) (HLI.out.hi.cb.mono (by have := HJ.out; omega))).mono ?_
        rintro e W8 ⟨hk, hw2, hpa⟩
        clear y0 y1
        have HM4 := Lib.hid ((HM.out.wx (Y := X4 R bp ba bd) (fun b h => .inr h)).afterR hk (.inl rfl) (L4_ne HBK.out.r1 HBK.out.r2 HBK.out.r3 (by have := HLI.out.wv.lt; omega)))
        have HW2 := Lib.hid hw2
        clear hk hw2
        rw [HLA.out] at hpa
        have hpk := HPK.out
        rw [HLA.out] at hpk
        replace HPK := Lib.hid hpk
        clear hpk HLA
        generalize hr : pkS c (2) l os = r at *
        clear hr
        obtain ⟨l2, os2, la⟩ := r
        simp only at hpa HW2 HPK
        obtain ⟨E2, hE2⟩ : ∃ x, l2.getD 2 0 = x := ⟨_, rfl⟩
        have HE2 := Lib.hid hE2
        have hpk := HPK.out.1
        rw [hE2, HEE.out] at hpk
        obtain ⟨cb, co, cc, k0, k2⟩ := HW2.out.cell
        replace k2 := k2 2 (by omega)
        rw [hE2] at k2
        clear hE2
        unfold PkA at hpa
        subst hpa
        rcases hpk with hpk | hpk
        · have en1 : (E2 != E) = false := by simp [hpk]
          clear hpk
          have HIF : Hid (HI ((j + 1 : Nat) : Int) l2 os2 (pin) at_ (upd does c 2)) := Lib.hid (by have := HPK.out.2; rw [show ((j + 1 : Nat) : Int) = (j : Int) + 1 by omega]; exact this)
          have HIA := Lib.hid HLI.out.ia
          go_wp2_with fail
          clear k0 k2 en1
          (try clear en2)
          go_loopw [110] (fun iv wx => ∃ i : Nat, i ≤ 4 ∧ iv = .int .i64 i ∧ wx = W8) (fun iv _ => 4 - (intOf iv).toNat)
          case atStart => exact ⟨0, by omega, rfl, rfl⟩
          case round =>
            obtain ⟨i, hi, rfl, rfl⟩ := hrel
            by_cases hi4 : i < 4
            · have dl4 : decide ((i : Int) < 4) = true := by simp; omega
              have kp := (HM4.out.hb 0 _ _ _ rfl).cell (k := i) (HBL.out.get i hi4)
              cases hpi : (pin) i with
              | false =>
                rw [hpi] at kp
                clear hpi
                go_wp2_with fail
                go_roundw
                case rel => exact ⟨i + 1, by omega, rfl, by first | trivial | rfl⟩
                case measure => simp [intOf]; omega
              | true =>
                rw [hpi] at kp
                have hpn := HIF.out.pn i hi4 hpi
                have hcb5 := HIF.out.cb (5 + i) (by omega) (by omega)
                have ka := (HM4.out.hb 1 _ _ _ rfl).cell (k := i) (HIA.out.get i hi4)
                generalize (at_) i = av at *
                have dgt : decide (av + 1 < E2) = false := by simp; have := hpn.2.1; have := HE2.out; omega
                have av1 : 0 ≤ av := hpn.1
                have av2 : av ≤ 1000 := by have := hpn.2.2.1; have := hcb5.2; omega
                clear hpi hpn hcb5
                go_wp2_with fail
                go_roundw
                case rel => exact ⟨i + 1, by omega, rfl, by first | trivial | rfl⟩
                case measure => simp [intOf]; omega
            · have e4 : i = 4 := by omega
              subst e4
              have dl4 : decide (((4 : Nat) : Int) < 4) = false := by decide
              go_wp2_with fail
              go_roundw
              case rel => exact ⟨j + 1, l2, os2, pin, at_, upd does c 2, _, _, _, hlt, rfl, ⟨HLI.out.bel.trans ((HM4.out.belB (fun b hb => by rcases hb with rfl | rfl | rfl | rfl; exact HBK.out.r; exact HBK.out.p; exact HBK.out.a; exact HBK.out.d) HLI.out.bel.size).mono (Nat.le_refl _)), (HW2.out.memO HM4.out.re (fun b => OL4) (fun h => L4_ne HBK.out.r1 HBK.out.r2 HBK.out.r3 (by have := HLI.out.wv.lt; omega) _ _ _ _ h.choose_spec.choose_spec.choose_spec rfl)), HM4.out.hb 0 _ _ _ rfl, HM4.out.hb 1 _ _ _ rfl, HM4.out.hb 2 _ _ _ rfl, HBL.out, HLI.out.ia, HID.out, HIF.out⟩⟩
              case measure => simp [intOf]; omega
        · have en1 : (E2 != E) = true := by simp [hpk]; omega
          have en2 : (E2 != E + 1) = false := by simp [hpk]
          clear hpk
          have HIF : Hid (HI ((j + 1 : Nat) : Int) l2 os2 (pin) at_ (upd does c 2)) := Lib.hid (by have := HPK.out.2; rw [show ((j + 1 : Nat) : Int) = (j : Int) + 1 by omega]; exact this)
          have HIA := Lib.hid HLI.out.ia
          go_wp2_with fail
          clear k0 k2 en1
          (try clear en2)
          go_loopw [110] (fun iv wx => ∃ i : Nat, i ≤ 4 ∧ iv = .int .i64 i ∧ wx = W8) (fun iv _ => 4 - (intOf iv).toNat)
          case atStart => exact ⟨0, by omega, rfl, rfl⟩
          case round =>
            obtain ⟨i, hi, rfl, rfl⟩ := hrel
            by_cases hi4 : i < 4
            · have dl4 : decide ((i : Int) < 4) = true := by simp; omega
              have kp := (HM4.out.hb 0 _ _ _ rfl).cell (k := i) (HBL.out.get i hi4)
              cases hpi : (pin) i with
              | false =>
                rw [hpi] at kp
                clear hpi
                go_wp2_with fail
                go_roundw
                case rel => exact ⟨i + 1, by omega, rfl, by first | trivial | rfl⟩
                case measure => simp [intOf]; omega
              | true =>
                rw [hpi] at kp
                have hpn := HIF.out.pn i hi4 hpi
                have hcb5 := HIF.out.cb (5 + i) (by omega) (by omega)
                have ka := (HM4.out.hb 1 _ _ _ rfl).cell (k := i) (HIA.out.get i hi4)
                generalize (at_) i = av at *
                have dgt : decide (av + 1 < E2) = false := by simp; have := hpn.2.1; have := HE2.out; omega
                have av1 : 0 ≤ av := hpn.1
                have av2 : av ≤ 1000 := by have := hpn.2.2.1; have := hcb5.2; omega
                clear hpi hpn hcb5
                go_wp2_with fail
                go_roundw
                case rel => exact ⟨i + 1, by omega, rfl, by first | trivial | rfl⟩
                case measure => simp [intOf]; omega
            · have e4 : i = 4 := by omega
              subst e4
              have dl4 : decide (((4 : Nat) : Int) < 4) = false := by decide
              go_wp2_with fail
              go_roundw
              case rel => exact ⟨j + 1, l2, os2, pin, at_, upd does c 2, _, _, _, hlt, rfl, ⟨HLI.out.bel.trans ((HM4.out.belB (fun b hb => by rcases hb with rfl | rfl | rfl | rfl; exact HBK.out.r; exact HBK.out.p; exact HBK.out.a; exact HBK.out.d) HLI.out.bel.size).mono (Nat.le_refl _)), (HW2.out.memO HM4.out.re (fun b => OL4) (fun h => L4_ne HBK.out.r1 HBK.out.r2 HBK.out.r3 (by have := HLI.out.wv.lt; omega) _ _ _ _ h.choose_spec.choose_spec.choose_spec rfl)), HM4.out.hb 0 _ _ _ rfl, HM4.out.hb 1 _ _ _ rfl, HM4.out.hb 2 _ _ _ rfl, HBL.out, HLI.out.ia, HID.out, HIF.out⟩⟩
              case measure => simp [intOf]; omega
    · have e : j = n := by omega
      subst e
      have dj : decide ((j : Int) < (j : Int)) = false := by simp
      go_wp2_with fail
      refine (wakes13 _).mono ?_
      rintro e Y ⟨rfl, hb⟩
      have HY := Lib.hid (HLI.out.bel.trans (hb.mono HLI.out.bel.size))
      clear hb
      go_wp2_with fail
      go_ret
      exact ⟨rfl, HY.out⟩
end Go.Proofs.Ytgpdknacnmapiaa
