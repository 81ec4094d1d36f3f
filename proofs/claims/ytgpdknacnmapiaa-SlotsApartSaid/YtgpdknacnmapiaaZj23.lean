/-
  Parts of a proof, put together: St.
-/
import Derived.Test.YtgpdknacnmapiaaZj01
import Derived.Test.YtgpdknacnmapiaaZj02
import Derived.Test.YtgpdknacnmapiaaZj03
import Derived.Test.YtgpdknacnmapiaaZj04
import Derived.Test.YtgpdknacnmapiaaZj05
import Derived.Test.YtgpdknacnmapiaaZj06
import Derived.Test.YtgpdknacnmapiaaZj07
import Derived.Test.YtgpdknacnmapiaaZj08
import Derived.Test.YtgpdknacnmapiaaZj09
import Derived.Test.YtgpdknacnmapiaaZj10
import Derived.Test.YtgpdknacnmapiaaZj11
import Derived.Test.YtgpdknacnmapiaaZj12
import Derived.Test.YtgpdknacnmapiaaZj13
import Derived.Test.YtgpdknacnmapiaaZj14
import Derived.Test.YtgpdknacnmapiaaZj15
import Derived.Test.YtgpdknacnmapiaaZj16
import Derived.Test.YtgpdknacnmapiaaZj17
import Derived.Test.YtgpdknacnmapiaaZj18
import Derived.Test.YtgpdknacnmapiaaZj19
import Derived.Test.YtgpdknacnmapiaaZj20
import Derived.Test.YtgpdknacnmapiaaZj21
import Derived.Test.YtgpdknacnmapiaaZj22
namespace Go.Proofs.Ytgpdknacnmapiaa
set_option linter.unusedVariables false
set_option linter.unusedSimpArgs false
open Go.RowKit
set_option maxHeartbeats 2000000 in
set_option maxRecDepth 100000 in
theorem ints_same29 {B1 B2 : Nat} (v1 v2 : Value) (l : List Int) (w : World) (h1 : Ints B1 w v1 l) (h2 : Ints B2 w v2 l) (hlen : l.length ≤ 100000) :
    Calls Try.prog 29 #[v1, v2] w fun e w' => e = .returned (.bool true) ∧ ∃ n, w' = w.drewN n := by
  obtain ⟨ao1, cap1, rfl, hc1, hr1⟩ := h1
  obtain ⟨ao2, cap2, rfl, hc2, hr2⟩ := h2
  have HR1 := Lib.hid hr1
  have HR2 := Lib.hid hr2
  obtain ⟨m, hm⟩ : ∃ m, l.length = m := ⟨_, rfl⟩
  have HM := Lib.hid hm
  rw [hm] at hc1 hc2 hlen ⊢
  have hm63 : m ≤ 9223372036854775807 := by omega
  have e0 : ((m : Int) == (m : Int)) = true := by simp
  clear hr1 hr2 hm
  go_enter Try.func29, Try.ntmps29
  go_wp2_with fail
  go_loopw [5] (fun iv wr => ∃ j k : Nat, j ≤ m ∧ iv = .int .i64 j ∧ wr = w.drewN k) (fun iv _ => m - (intOf iv).toNat)
  case atStart => exact ⟨0, 0, Nat.zero_le _, rfl, rfl⟩
  case round =>
    obtain ⟨j, k, hj, rfl, rfl⟩ := hrel
    by_cases hlt : j < m
    · obtain ⟨x, hx⟩ : ∃ x, l[j]? = some x := ⟨l[j]'(by rw [HM.out]; exact hlt), List.getElem?_eq_getElem _⟩
      obtain ⟨b1, o1, rfl, _, r1⟩ := HR1.out j x hx
      obtain ⟨b2, o2, rfl, _, r2⟩ := HR2.out j x hx
      have ex1 : (x == x) = true := by simp
      clear hx
      go_wp2_with fail
      go_quiet (fail)
      go_wp2_with fail
      go_roundw
      case rel => exact ⟨j + 1, _, hlt, rfl, rfl⟩
      case measure => simp [intOf]; omega
    · have e : j = m := by omega
      subst e
      go_wp2_with fail
      go_ret
      exact ⟨rfl, _, rfl⟩
/-- what is answered to a step -/
def DoC (k a v y : Int) (l l2 : List Int) : Prop := ∀ (Q : Nat → Prop) (w : World) (cv d1 d2 : Value) (ao : Option Addr) (ac : Nat), (∀ b, w.heap.size ≤ b → Q b) → CellsV Q w cv l → DiskV Q w d1 → DiskV Q w d2 →
  Calls Try.prog 40 #[.agg #[cv, d1, d2], .agg (acC k a 0 v 0 (.slice ao 0 ac))] w fun e w' => (∃ cv', e = .returned (.tuple #[.agg #[cv', d1, d2], .int .i64 y, .int .i64 0]) ∧ CellsV Q w' cv' l2) ∧ Below w.heap.size w w'
/-- what a step leaves: the world's cells, the client's tasks -/
def StepE (P : Nat → Prop) (R c : Nat) (s : RS) (f : Fr) (g : Fr) (y : Int) (l : List Int) (over : Bool) (w w' : World) : Prop :=
  ∃ C' T U cv, Mem (fun b => b = R) w w' [(R, C', 74)] ∧ RunA C' (if over = true then (((s.setW fun j => if j = 0 then cv else s.w j).setM c T).setH c U).setB c false else ((s.setW fun j => if j = 0 then cv else s.w j).setM c T).setH c U) ∧ CellsV P w' cv l ∧ DiskV P w' (s.w 1) ∧ DiskV P w' (s.w 2) ∧ Live P w' T c f y ∧ Live P w' U c g y
/-- numbers in blocks of a kind -/
def IntsP (P : Nat → Prop) (w : World) (v : Value) (l : List Int) : Prop := ∃ ao cap, v = .slice ao l.length cap ∧ l.length ≤ cap ∧ ∀ (i : Nat) (x : Int), l[i]? = some x → ∃ b off, ao = some ⟨b, off, none⟩ ∧ P b ∧ w.cell? ⟨b, off + i, none⟩ = some (.int .i64 x)
theorem Dead.intsP {P : Nat → Prop} {W : World} {c c' : Int} {s : Value} {ga : Option Addr} {n gc : Nat} {y : Bool} {l : List Int} (h : Dead P W (tkC c s (.slice ga n gc) y) c' l) : IntsP P W (.slice ga n gc) l := by
  obtain ⟨sao, scap, gv, e, gao, gcap, rfl, h1, h2, h3⟩ := h
  simp only [tkC, Array.mk.injEq, List.cons.injEq, Value.slice.injEq] at e
  obtain ⟨-, -, ⟨rfl, rfl, rfl⟩, -, -⟩ := e
  exact ⟨_, _, rfl, h1, h3⟩
theorem Dead.ints {P : Nat → Prop} {W : World} {c c' : Int} {s : Value} {ga : Option Addr} {n gc : Nat} {y : Bool} {l : List Int} (h : Dead P W (tkC c s (.slice ga n gc) y) c' l) : Ints 0 W (.slice ga n gc) l := by
  obtain ⟨sao, scap, gv, e, gao, gcap, rfl, h1, h2, h3⟩ := h
  simp only [tkC, Array.mk.injEq, List.cons.injEq, Value.slice.injEq] at e
  obtain ⟨-, -, ⟨rfl, rfl, rfl⟩, -, -⟩ := e
  refine ⟨_, _, rfl, h1, fun i x hx => ?_⟩
  obtain ⟨b, off, e1, e2, e3⟩ := h3 i x hx
  exact ⟨b, off, e1, Nat.zero_le _, e3⟩
theorem res_ttt {fn : Func} {p q r : Tmp} (h : fn.results = #[.tmp p, .tmp q, .tmp r]) (tmps : Array Value) (w : World) (v u u2 : Value) (hp : tmps.getD p undef = v) (hq : tmps.getD q undef = u) (hr : tmps.getD r undef = u2) : (results fn tmps).run Try.prog w = .ok (.tuple #[v, u, u2]) w := by
  have hp' : tmps[p]?.getD undef = v := by simpa using hp
  have hq' : tmps[q]?.getD undef = u := by simpa using hq
  have hr' : tmps[r]?.getD undef = u2 := by simpa using hr
  simp [results, h, hp', hq', hr']
theorem ints0 (B : Nat) (w : World) (ao : Option Addr) (ac : Nat) : Ints B w (.slice ao 0 ac) [] := ⟨ao, ac, rfl, Nat.zero_le _, fun i x hx => by simp at hx⟩
set_option maxHeartbeats 8000000 in
set_option maxRecDepth 100000 in
theorem step14_go {P : Nat → Prop} (c : Nat) (hc : c < 4) (R : Nat) (C : Array Value) (s : RS) (w : World) (hP : ∀ b, w.heap.size ≤ b → P b) (hPR : ∀ b, P b → b ≠ R) (hR : HB w R C 74) (hA : RunA C s) (f g f2 g2 f4 g4 : Fr) (x y : Int) (lw lw2 : List Int)
    (hTm : Live P w (s.m c) c f x) (hTh : Live P w (s.h c) c g x) (hCv : CellsV P w (s.w 0) lw) (hD1 : DiskV P w (s.w 1)) (hD2 : DiskV P w (s.w 2)) (k a v : Int) (hOk : OkA k a 0 v 0) (hk : k < 6) (k2 a2 v2 : Int) (l2 : List Int) (hOk2 : OkA k2 a2 0 v2 l2.length) (hk2 : k2 < 6)
    (hN1 : ∀ vv w, GotV w vv x → Calls Try.prog 19 #[.agg f.cells, vv] w fun e w' => AnsB w w' e f2 k a 0 v [] ∧ Below w.heap.size w w')
    (hR1 : ∀ vv w, GotV w vv x → Calls Try.prog 20 #[.agg g.cells, vv] w fun e w' => AnsB w w' e g2 k a 0 v [] ∧ Below w.heap.size w w')
    (hN2 : ∀ vv w, GotV w vv y → Calls Try.prog 19 #[.agg f2.cells, vv] w fun e w' => AnsB w w' e f4 k2 a2 0 v2 l2 ∧ Below w.heap.size w w')
    (hR2 : ∀ vv w, GotV w vv y → Calls Try.prog 20 #[.agg g2.cells, vv] w fun e w' => AnsB w w' e g4 k2 a2 0 v2 l2 ∧ Below w.heap.size w w')
    (hDo : DoC k a v y lw lw2) : Calls Try.prog 25 #[.pointer (some ⟨R, 0, none⟩), .int .i64 c] w fun e w' => e = .returned (.tuple #[.slice none 0 0, .bool false, .bool true]) ∧ StepE P R c s f2 g2 y lw2 false w w' := by
  have HMT := Lib.hid (Mem.startR hR)
  have HM := Lib.hid HMT.out.re
  have HOL : Hid (∀ b, P b → b < w.heap.size → Cn P (OL [(R, C, 74)]) w.heap.size b) := Lib.hid (fun b hb hlt => ⟨hb, (by rintro ⟨i, C2, t2, hi⟩; match i, hi with | 0, hi => simp at hi; exact hPR b hb hi.1.symm | i + 1, hi => simp at hi), hlt⟩)
  have HP := Lib.hid hP
  have HA := Lib.hid hA
  have HTmc := Lib.hid hTm.task
  have HThc := Lib.hid hTh.task
  have HTm := Lib.hid (hTm.weak HOL.out)
  have HTh := Lib.hid (hTh.weak HOL.out)
  have HCv := Lib.hid (hCv.weak HOL.out)
  have HD1 := Lib.hid (hD1.weak HOL.out)
  have HD2 := Lib.hid (hD2.weak HOL.out)
  have HOk := Lib.hid hOk
  have HOk2 := Lib.hid hOk2
  have HL2 : Hid (l2.length ≤ 96) := Lib.hid (by rcases hOk2 with h | h | h | h <;> omega)
  have HK := Lib.hid hk
  have HK2 := Lib.hid hk2
  have HN1 := Lib.hid hN1
  have HR1 := Lib.hid hR1
  have HN2 := Lib.hid hN2
  have HR2 := Lib.hid hR2
  have HDo := Lib.hid hDo
  have hc4 : (0 : Int) ≤ (c : Int) ∧ (c : Int) < 4 := ⟨by omega, by omega⟩
  have HC4 := Lib.hid hc4
  obtain ⟨Tm, eTm⟩ : ∃ T, s.m c = T := ⟨_, rfl⟩
  obtain ⟨Th, eTh⟩ : ∃ T, s.h c = T := ⟨_, rfl⟩
  obtain ⟨cv, ecv⟩ : ∃ T, s.w 0 = T := ⟨_, rfl⟩
  obtain ⟨d1, ed1⟩ : ∃ T, s.w 1 = T := ⟨_, rfl⟩
  obtain ⟨d2, ed2⟩ : ∃ T, s.w 2 = T := ⟨_, rfl⟩
  rw [eTm] at HTm HTmc
  rw [eTh] at HTh HThc
  rw [ecv] at HCv
  rw [ed1] at HD1
  rw [ed2] at HD2
  have ETm := Lib.hid eTm
  have ETh := Lib.hid eTh
  obtain ⟨b0, o0, p0, rfl, -⟩ := HCv.out
  obtain ⟨b1, o1, p1, rfl, -⟩ := HD1.out
  obtain ⟨b2, o2, p2, rfl, -⟩ := HD2.out
  have ECv := Lib.hid (And.intro ecv (And.intro ed1 ed2))
  have HW0 : Hid (C[0]? = some (.slice (some ⟨b0, o0, none⟩) 771 p0)) := Lib.hid (by rw [HA.out.w 0 (by omega), ecv])
  have HW1 : Hid (C[1]? = some (.slice (some ⟨b1, o1, none⟩) 33 p1)) := Lib.hid (by rw [HA.out.w 1 (by omega), ed1])
  have HW2 : Hid (C[2]? = some (.slice (some ⟨b2, o2, none⟩) 33 p2)) := Lib.hid (by rw [HA.out.w 2 (by omega), ed2])
  clear hP hPR hR hA hTm hTh hCv hD1 hD2 hOk hk hOk2 hk2 hN1 hR1 hN2 hR2 hDo hc4 eTm eTh ecv ed1 ed2 HOL
  go_enter Try.func25, Try.ntmps25
  go_wp2_with (first
    | (refine wpm_ldM HM HA rfl (.tmp 21) rfl 0 rfl c hc rfl Tm ETm.out HTmc.out ?_))
  refine (goes14pg _ (HM.out.nw (fun b hb => HP.out b (Nat.le_trans HMT.out.size (Nat.le_trans HM.out.size hb)))) HC4.out (HTm.out.now HM.out) k a 0 v [] HOk.out HK.out HN1.out).mono ?_
  rintro e W1 ⟨⟨T1, ao1, ac1, rfl, hl⟩, hb⟩
  replace HM := Lib.hid (HM.out.below hb)
  replace HTm := Lib.hid (HTm.out.step HM.out)
  replace HTh := Lib.hid (HTh.out.step HM.out)
  replace HCv := Lib.hid (HCv.out.step HM.out)
  replace HD1 := Lib.hid (HD1.out.step HM.out)
  replace HD2 := Lib.hid (HD2.out.step HM.out)
  replace HMT := Lib.hid (HMT.out.tr HM.out)
  replace HM := Lib.hid HM.out.re
  have HT1 := Lib.hid hl.cn
  have HT1c := Lib.hid hl.task
  clear hb hl
  go_wp2_with (first
    | (refine wpm_al38 HM rfl rfl ?_; intro A7 hM; (try simp only [List.cons_append, List.nil_append, List.set_cons_succ, List.set_cons_zero, Nat.reduceAdd] at hM); replace HM := hM; clear hM)
    | (refine wpm_al59 HM rfl rfl ?_; intro A8 hM; (try simp only [List.cons_append, List.nil_append, List.set_cons_succ, List.set_cons_zero, Nat.reduceAdd] at hM); replace HM := hM; clear hM)
    | (refine wpm_st38 HM rfl (.tmp 7) (.tmp 24) rfl 1 rfl TaskC.zero.size T1 rfl rfl HT1c.out ?_; intro W hM; (try simp only [List.cons_append, List.nil_append, List.set_cons_succ, List.set_cons_zero, Nat.reduceAdd] at hM); replace HM := hM; clear hM)
    | (refine wpm_st59 HM rfl (.tmp 8) (.tmp 25) rfl 2 rfl rfl k a 0 v 0 ao1 0 ac1 rfl rfl ?_; intro W hM; (try simp only [List.cons_append, List.nil_append, List.set_cons_succ, List.set_cons_zero, Nat.reduceAdd] at hM); replace HM := hM; clear hM)
    | (refine wpm_ldH HM HA rfl (.tmp 32) rfl 0 rfl c hc rfl Th ETh.out HThc.out ?_))
  refine (goes14rg _ (HM.out.nw (fun b hb => HP.out b (Nat.le_trans HMT.out.size (Nat.le_trans HM.out.size hb)))) HC4.out (HTh.out.now HM.out) k a 0 v [] HOk.out HK.out HR1.out).mono ?_
  rintro e W2 ⟨⟨U1, ao2, ac2, rfl, hl⟩, hb⟩
  replace HM := Lib.hid (HM.out.below hb)
  replace HTm := Lib.hid (HTm.out.step HM.out)
  replace HTh := Lib.hid (HTh.out.step HM.out)
  replace HCv := Lib.hid (HCv.out.step HM.out)
  replace HD1 := Lib.hid (HD1.out.step HM.out)
  replace HD2 := Lib.hid (HD2.out.step HM.out)
  replace HT1 := Lib.hid (HT1.out.step HM.out)
  replace HMT := Lib.hid (HMT.out.tr HM.out)
  replace HM := Lib.hid HM.out.re
  have HU1 := Lib.hid hl.cn
  have HU1c := Lib.hid hl.task
  clear hb hl
  go_wp2_with (first
    | (refine wpm_al38 HM rfl rfl ?_; intro A10 hM; (try simp only [List.cons_append, List.nil_append, List.set_cons_succ, List.set_cons_zero, Nat.reduceAdd] at hM); replace HM := hM; clear hM)
    | (refine wpm_al59 HM rfl rfl ?_; intro A11 hM; (try simp only [List.cons_append, List.nil_append, List.set_cons_succ, List.set_cons_zero, Nat.reduceAdd] at hM); replace HM := hM; clear hM)
    | (refine wpm_st38 HM rfl (.tmp 10) (.tmp 35) rfl 3 rfl TaskC.zero.size U1 rfl rfl HU1c.out ?_; intro W hM; (try simp only [List.cons_append, List.nil_append, List.set_cons_succ, List.set_cons_zero, Nat.reduceAdd] at hM); replace HM := hM; clear hM)
    | (refine wpm_st59 HM rfl (.tmp 11) (.tmp 36) rfl 4 rfl rfl k a 0 v 0 ao2 0 ac2 rfl rfl ?_; intro W hM; (try simp only [List.cons_append, List.nil_append, List.set_cons_succ, List.set_cons_zero, Nat.reduceAdd] at hM); replace HM := hM; clear hM; have p0 := (HM.out.hb 2 _ _ _ rfl).cell (k := 0) (v := .int .i8 k) rfl; have p1 := (HM.out.hb 2 _ _ _ rfl).cell (k := 1) (v := .int .i64 a) rfl; have p2 := (HM.out.hb 2 _ _ _ rfl).cell (k := 2) (v := .int .i64 0) rfl; have p3 := (HM.out.hb 2 _ _ _ rfl).cell (k := 3) (v := .int .i64 v) rfl; have p4 := (HM.out.hb 2 _ _ _ rfl).cell (k := 4) (v := .int .i64 0) rfl; have p5 := (HM.out.hb 2 _ _ _ rfl).cell (k := 5) (v := .string ByteArray.empty) rfl; have p6 := (HM.out.hb 2 _ _ _ rfl).cell (k := 6) (v := .slice ao1 0 ac1) rfl; have q0 := (HM.out.hb 4 _ _ _ rfl).cell (k := 0) (v := .int .i8 k) rfl; have q1 := (HM.out.hb 4 _ _ _ rfl).cell (k := 1) (v := .int .i64 a) rfl; have q2 := (HM.out.hb 4 _ _ _ rfl).cell (k := 2) (v := .int .i64 0) rfl; have q3 := (HM.out.hb 4 _ _ _ rfl).cell (k := 3) (v := .int .i64 v) rfl; have q4 := (HM.out.hb 4 _ _ _ rfl).cell (k := 4) (v := .int .i64 0) rfl; have q5 := (HM.out.hb 4 _ _ _ rfl).cell (k := 5) (v := .string ByteArray.empty) rfl; have q6 := (HM.out.hb 4 _ _ _ rfl).cell (k := 6) (v := .slice ao2 0 ac2) rfl))
  refine (same_act k a v (.slice ao1 0 ac1) (.slice ao2 0 ac2) [] _ (ints0 0 _ ao1 ac1) (ints0 0 _ ao2 ac2) (by simp)).mono ?_
  rintro e W4 ⟨rfl, hb⟩
  clear p0 p1 p2 p3 p4 p5 p6 q0 q1 q2 q3 q4 q5 q6
  replace HM := Lib.hid (HM.out.below hb)
  clear hb
  go_wp2_with fail
  replace HM := Lib.hid HM.out.drew
  have HF : Hid (∀ p ∈ ([(⟨R, 0, none⟩, .slice (some ⟨b0, o0, none⟩) 771 p0), (⟨R, 1, none⟩, .slice (some ⟨b1, o1, none⟩) 33 p1), (⟨R, 2, none⟩, .slice (some ⟨b2, o2, none⟩) 33 p2), (⟨A7.heap.size, 0, none⟩, .int .i8 k), (⟨A7.heap.size, 1, none⟩, .int .i64 a), (⟨A7.heap.size, 2, none⟩, .int .i64 0), (⟨A7.heap.size, 3, none⟩, .int .i64 v), (⟨A7.heap.size, 4, none⟩, .int .i64 0), (⟨A7.heap.size, 5, none⟩, .string ByteArray.empty), (⟨A7.heap.size, 6, none⟩, .slice ao1 0 ac1)] : List (Addr × Value)), World.cell? _ p.1 = some p.2) := Lib.hid (allc ((HM.out.hb 0 _ _ _ rfl).cell (k := 0) HW0.out) (allc ((HM.out.hb 0 _ _ _ rfl).cell (k := 1) HW1.out) (allc ((HM.out.hb 0 _ _ _ rfl).cell (k := 2) HW2.out) (allc ((HM.out.hb 2 _ _ _ rfl).cell (k := 0) rfl) (allc ((HM.out.hb 2 _ _ _ rfl).cell (k := 1) rfl) (allc ((HM.out.hb 2 _ _ _ rfl).cell (k := 2) rfl) (allc ((HM.out.hb 2 _ _ _ rfl).cell (k := 3) rfl) (allc ((HM.out.hb 2 _ _ _ rfl).cell (k := 4) rfl) (allc ((HM.out.hb 2 _ _ _ rfl).cell (k := 5) rfl) (allc ((HM.out.hb 2 _ _ _ rfl).cell (k := 6) rfl) (alln _)))))))))))
  haveI : Inhabited (CW [(⟨R, 0, none⟩, .slice (some ⟨b0, o0, none⟩) 771 p0), (⟨R, 1, none⟩, .slice (some ⟨b1, o1, none⟩) 33 p1), (⟨R, 2, none⟩, .slice (some ⟨b2, o2, none⟩) 33 p2), (⟨A7.heap.size, 0, none⟩, .int .i8 k), (⟨A7.heap.size, 1, none⟩, .int .i64 a), (⟨A7.heap.size, 2, none⟩, .int .i64 0), (⟨A7.heap.size, 3, none⟩, .int .i64 v), (⟨A7.heap.size, 4, none⟩, .int .i64 0), (⟨A7.heap.size, 5, none⟩, .string ByteArray.empty), (⟨A7.heap.size, 6, none⟩, .slice ao1 0 ac1)]) := ⟨⟨_, HF.out⟩⟩
  have f0 : ∀ q : CW [(⟨R, 0, none⟩, .slice (some ⟨b0, o0, none⟩) 771 p0), (⟨R, 1, none⟩, .slice (some ⟨b1, o1, none⟩) 33 p1), (⟨R, 2, none⟩, .slice (some ⟨b2, o2, none⟩) 33 p2), (⟨A7.heap.size, 0, none⟩, .int .i8 k), (⟨A7.heap.size, 1, none⟩, .int .i64 a), (⟨A7.heap.size, 2, none⟩, .int .i64 0), (⟨A7.heap.size, 3, none⟩, .int .i64 v), (⟨A7.heap.size, 4, none⟩, .int .i64 0), (⟨A7.heap.size, 5, none⟩, .string ByteArray.empty), (⟨A7.heap.size, 6, none⟩, .slice ao1 0 ac1)], q.1.cell? ⟨R, 0, none⟩ = some (.slice (some ⟨b0, o0, none⟩) 771 p0) := fun q => q.2 (⟨R, 0, none⟩, .slice (some ⟨b0, o0, none⟩) 771 p0) (by simp)
  have f1 : ∀ q : CW [(⟨R, 0, none⟩, .slice (some ⟨b0, o0, none⟩) 771 p0), (⟨R, 1, none⟩, .slice (some ⟨b1, o1, none⟩) 33 p1), (⟨R, 2, none⟩, .slice (some ⟨b2, o2, none⟩) 33 p2), (⟨A7.heap.size, 0, none⟩, .int .i8 k), (⟨A7.heap.size, 1, none⟩, .int .i64 a), (⟨A7.heap.size, 2, none⟩, .int .i64 0), (⟨A7.heap.size, 3, none⟩, .int .i64 v), (⟨A7.heap.size, 4, none⟩, .int .i64 0), (⟨A7.heap.size, 5, none⟩, .string ByteArray.empty), (⟨A7.heap.size, 6, none⟩, .slice ao1 0 ac1)], q.1.cell? ⟨R, 1, none⟩ = some (.slice (some ⟨b1, o1, none⟩) 33 p1) := fun q => q.2 (⟨R, 1, none⟩, .slice (some ⟨b1, o1, none⟩) 33 p1) (by simp)
  have f2 : ∀ q : CW [(⟨R, 0, none⟩, .slice (some ⟨b0, o0, none⟩) 771 p0), (⟨R, 1, none⟩, .slice (some ⟨b1, o1, none⟩) 33 p1), (⟨R, 2, none⟩, .slice (some ⟨b2, o2, none⟩) 33 p2), (⟨A7.heap.size, 0, none⟩, .int .i8 k), (⟨A7.heap.size, 1, none⟩, .int .i64 a), (⟨A7.heap.size, 2, none⟩, .int .i64 0), (⟨A7.heap.size, 3, none⟩, .int .i64 v), (⟨A7.heap.size, 4, none⟩, .int .i64 0), (⟨A7.heap.size, 5, none⟩, .string ByteArray.empty), (⟨A7.heap.size, 6, none⟩, .slice ao1 0 ac1)], q.1.cell? ⟨R, 2, none⟩ = some (.slice (some ⟨b2, o2, none⟩) 33 p2) := fun q => q.2 (⟨R, 2, none⟩, .slice (some ⟨b2, o2, none⟩) 33 p2) (by simp)
  have f3 : ∀ q : CW [(⟨R, 0, none⟩, .slice (some ⟨b0, o0, none⟩) 771 p0), (⟨R, 1, none⟩, .slice (some ⟨b1, o1, none⟩) 33 p1), (⟨R, 2, none⟩, .slice (some ⟨b2, o2, none⟩) 33 p2), (⟨A7.heap.size, 0, none⟩, .int .i8 k), (⟨A7.heap.size, 1, none⟩, .int .i64 a), (⟨A7.heap.size, 2, none⟩, .int .i64 0), (⟨A7.heap.size, 3, none⟩, .int .i64 v), (⟨A7.heap.size, 4, none⟩, .int .i64 0), (⟨A7.heap.size, 5, none⟩, .string ByteArray.empty), (⟨A7.heap.size, 6, none⟩, .slice ao1 0 ac1)], q.1.cell? ⟨A7.heap.size, 0, none⟩ = some (.int .i8 k) := fun q => q.2 (⟨A7.heap.size, 0, none⟩, .int .i8 k) (by simp)
  have f4 : ∀ q : CW [(⟨R, 0, none⟩, .slice (some ⟨b0, o0, none⟩) 771 p0), (⟨R, 1, none⟩, .slice (some ⟨b1, o1, none⟩) 33 p1), (⟨R, 2, none⟩, .slice (some ⟨b2, o2, none⟩) 33 p2), (⟨A7.heap.size, 0, none⟩, .int .i8 k), (⟨A7.heap.size, 1, none⟩, .int .i64 a), (⟨A7.heap.size, 2, none⟩, .int .i64 0), (⟨A7.heap.size, 3, none⟩, .int .i64 v), (⟨A7.heap.size, 4, none⟩, .int .i64 0), (⟨A7.heap.size, 5, none⟩, .string ByteArray.empty), (⟨A7.heap.size, 6, none⟩, .slice ao1 0 ac1)], q.1.cell? ⟨A7.heap.size, 1, none⟩ = some (.int .i64 a) := fun q => q.2 (⟨A7.heap.size, 1, none⟩, .int .i64 a) (by simp)
  have f5 : ∀ q : CW [(⟨R, 0, none⟩, .slice (some ⟨b0, o0, none⟩) 771 p0), (⟨R, 1, none⟩, .slice (some ⟨b1, o1, none⟩) 33 p1), (⟨R, 2, none⟩, .slice (some ⟨b2, o2, none⟩) 33 p2), (⟨A7.heap.size, 0, none⟩, .int .i8 k), (⟨A7.heap.size, 1, none⟩, .int .i64 a), (⟨A7.heap.size, 2, none⟩, .int .i64 0), (⟨A7.heap.size, 3, none⟩, .int .i64 v), (⟨A7.heap.size, 4, none⟩, .int .i64 0), (⟨A7.heap.size, 5, none⟩, .string ByteArray.empty), (⟨A7.heap.size, 6, none⟩, .slice ao1 0 ac1)], q.1.cell? ⟨A7.heap.size, 2, none⟩ = some (.int .i64 0) := fun q => q.2 (⟨A7.heap.size, 2, none⟩, .int .i64 0) (by simp)
  have f6 : ∀ q : CW [(⟨R, 0, none⟩, .slice (some ⟨b0, o0, none⟩) 771 p0), (⟨R, 1, none⟩, .slice (some ⟨b1, o1, none⟩) 33 p1), (⟨R, 2, none⟩, .slice (some ⟨b2, o2, none⟩) 33 p2), (⟨A7.heap.size, 0, none⟩, .int .i8 k), (⟨A7.heap.size, 1, none⟩, .int .i64 a), (⟨A7.heap.size, 2, none⟩, .int .i64 0), (⟨A7.heap.size, 3, none⟩, .int .i64 v), (⟨A7.heap.size, 4, none⟩, .int .i64 0), (⟨A7.heap.size, 5, none⟩, .string ByteArray.empty), (⟨A7.heap.size, 6, none⟩, .slice ao1 0 ac1)], q.1.cell? ⟨A7.heap.size, 3, none⟩ = some (.int .i64 v) := fun q => q.2 (⟨A7.heap.size, 3, none⟩, .int .i64 v) (by simp)
  have f7 : ∀ q : CW [(⟨R, 0, none⟩, .slice (some ⟨b0, o0, none⟩) 771 p0), (⟨R, 1, none⟩, .slice (some ⟨b1, o1, none⟩) 33 p1), (⟨R, 2, none⟩, .slice (some ⟨b2, o2, none⟩) 33 p2), (⟨A7.heap.size, 0, none⟩, .int .i8 k), (⟨A7.heap.size, 1, none⟩, .int .i64 a), (⟨A7.heap.size, 2, none⟩, .int .i64 0), (⟨A7.heap.size, 3, none⟩, .int .i64 v), (⟨A7.heap.size, 4, none⟩, .int .i64 0), (⟨A7.heap.size, 5, none⟩, .string ByteArray.empty), (⟨A7.heap.size, 6, none⟩, .slice ao1 0 ac1)], q.1.cell? ⟨A7.heap.size, 4, none⟩ = some (.int .i64 0) := fun q => q.2 (⟨A7.heap.size, 4, none⟩, .int .i64 0) (by simp)
  have f8 : ∀ q : CW [(⟨R, 0, none⟩, .slice (some ⟨b0, o0, none⟩) 771 p0), (⟨R, 1, none⟩, .slice (some ⟨b1, o1, none⟩) 33 p1), (⟨R, 2, none⟩, .slice (some ⟨b2, o2, none⟩) 33 p2), (⟨A7.heap.size, 0, none⟩, .int .i8 k), (⟨A7.heap.size, 1, none⟩, .int .i64 a), (⟨A7.heap.size, 2, none⟩, .int .i64 0), (⟨A7.heap.size, 3, none⟩, .int .i64 v), (⟨A7.heap.size, 4, none⟩, .int .i64 0), (⟨A7.heap.size, 5, none⟩, .string ByteArray.empty), (⟨A7.heap.size, 6, none⟩, .slice ao1 0 ac1)], q.1.cell? ⟨A7.heap.size, 5, none⟩ = some (.string ByteArray.empty) := fun q => q.2 (⟨A7.heap.size, 5, none⟩, .string ByteArray.empty) (by simp)
  have f9 : ∀ q : CW [(⟨R, 0, none⟩, .slice (some ⟨b0, o0, none⟩) 771 p0), (⟨R, 1, none⟩, .slice (some ⟨b1, o1, none⟩) 33 p1), (⟨R, 2, none⟩, .slice (some ⟨b2, o2, none⟩) 33 p2), (⟨A7.heap.size, 0, none⟩, .int .i8 k), (⟨A7.heap.size, 1, none⟩, .int .i64 a), (⟨A7.heap.size, 2, none⟩, .int .i64 0), (⟨A7.heap.size, 3, none⟩, .int .i64 v), (⟨A7.heap.size, 4, none⟩, .int .i64 0), (⟨A7.heap.size, 5, none⟩, .string ByteArray.empty), (⟨A7.heap.size, 6, none⟩, .slice ao1 0 ac1)], q.1.cell? ⟨A7.heap.size, 6, none⟩ = some (.slice ao1 0 ac1) := fun q => q.2 (⟨A7.heap.size, 6, none⟩, .slice ao1 0 ac1) (by simp)
  (try simp only [Act.put, List.setIfInBounds_toArray, List.set_cons_succ, List.set_cons_zero])
  refine wp_region_noPanic ?_
  refine wp_region_plw (.step [true, true, true, true, true] (.cons 5 (.step [false, false, false, false, false, false, true, true, true, true] (.cons 10 (.step [] (.cons 11 (.last [false, false, false, false, false, false, false, false, false, false, false, false, true, true]) .nil)) .nil)) (.cons 10 (.step [] (.cons 5 (.step [false, false, false, false, false, false, true, true, true, true] (.cons 11 (.last [false, false, false, false, false, false, false, false, false, false, false, false, true, true]) .nil)) .nil)) .nil))) (fun y => ∃ q : CW [(⟨R, 0, none⟩, .slice (some ⟨b0, o0, none⟩) 771 p0), (⟨R, 1, none⟩, .slice (some ⟨b1, o1, none⟩) 33 p1), (⟨R, 2, none⟩, .slice (some ⟨b2, o2, none⟩) 33 p2), (⟨A7.heap.size, 0, none⟩, .int .i8 k), (⟨A7.heap.size, 1, none⟩, .int .i64 a), (⟨A7.heap.size, 2, none⟩, .int .i64 0), (⟨A7.heap.size, 3, none⟩, .int .i64 v), (⟨A7.heap.size, 4, none⟩, .int .i64 0), (⟨A7.heap.size, 5, none⟩, .string ByteArray.empty), (⟨A7.heap.size, 6, none⟩, .slice ao1 0 ac1)], y = q.1) (by kernel_rfl) (by kernel_rfl) (by kernel_rfl) (fun _ _ _ _ _ _ _ h => h) ⟨⟨_, HF.out⟩, rfl⟩ ?_
  simp only [wpPw, wpBw, selF, and_true]
  generalize W4.drew = V1 at *
  repeat (go_big_quiet_step (fail))
  refine wpQuiet_nil ?_
  refine ⟨?_, ?_⟩
  · refine wpOp_step rfl (fun K hK => ?_)
    go_simp
    refine (HDo.out _ _ _ _ _ ao1 ac1 (HM.out.nw (fun b hb => HP.out b (Nat.le_trans HMT.out.size (Nat.le_trans HM.out.size hb)))) (HCv.out.now HM.out) (HD1.out.now HM.out) (HD2.out.now HM.out)).mono ?_
    rintro e V2 ⟨⟨cv2, rfl, hcv⟩, hb⟩
    replace HM := Lib.hid (HM.out.below hb)
    replace HTm := Lib.hid (HTm.out.step HM.out)
    replace HTh := Lib.hid (HTh.out.step HM.out)
    replace HCv := Lib.hid (HCv.out.step HM.out)
    replace HD1 := Lib.hid (HD1.out.step HM.out)
    replace HD2 := Lib.hid (HD2.out.step HM.out)
    replace HT1 := Lib.hid (HT1.out.step HM.out)
    replace HU1 := Lib.hid (HU1.out.step HM.out)
    replace HMT := Lib.hid (HMT.out.tr HM.out)
    replace HM := Lib.hid HM.out.re
    clear hb
    have HCx := Lib.hid hcv.cn
    obtain ⟨b3, o3, p3, rfl, -⟩ := hcv
    refine hK _ _ ⟨(fun y => ∃ q : CW [(⟨R, 0, none⟩, .slice (some ⟨b0, o0, none⟩) 771 p0), (⟨R, 1, none⟩, .slice (some ⟨b1, o1, none⟩) 33 p1), (⟨R, 2, none⟩, .slice (some ⟨b2, o2, none⟩) 33 p2), (⟨A7.heap.size, 0, none⟩, .int .i8 k), (⟨A7.heap.size, 1, none⟩, .int .i64 a), (⟨A7.heap.size, 2, none⟩, .int .i64 0), (⟨A7.heap.size, 3, none⟩, .int .i64 v), (⟨A7.heap.size, 4, none⟩, .int .i64 0), (⟨A7.heap.size, 5, none⟩, .string ByteArray.empty), (⟨A7.heap.size, 6, none⟩, .slice ao1 0 ac1)], y = q.1), ⟨⟨_, (allc ((HM.out.hb 0 _ _ _ rfl).cell (k := 0) HW0.out) (allc ((HM.out.hb 0 _ _ _ rfl).cell (k := 1) HW1.out) (allc ((HM.out.hb 0 _ _ _ rfl).cell (k := 2) HW2.out) (allc ((HM.out.hb 2 _ _ _ rfl).cell (k := 0) rfl) (allc ((HM.out.hb 2 _ _ _ rfl).cell (k := 1) rfl) (allc ((HM.out.hb 2 _ _ _ rfl).cell (k := 2) rfl) (allc ((HM.out.hb 2 _ _ _ rfl).cell (k := 3) rfl) (allc ((HM.out.hb 2 _ _ _ rfl).cell (k := 4) rfl) (allc ((HM.out.hb 2 _ _ _ rfl).cell (k := 5) rfl) (allc ((HM.out.hb 2 _ _ _ rfl).cell (k := 6) rfl) (alln _)))))))))))⟩, rfl⟩, fun _ h => h, ?_⟩
    clear hK K
    (try simp only [Act.put, List.setIfInBounds_toArray, List.set_cons_succ, List.set_cons_zero])
    repeat (go_big_quiet_step (fail))
    refine wpQuiet_nil ?_
    refine wpOp_step rfl (fun K hK => ?_)
    rw [if_pos (by rfl)]
    refine wpOm_al HM 35 rfl 13 rfl _ zer35 ?_
    intro V3 hM
    (try simp only [List.cons_append, List.nil_append, List.set_cons_succ, List.set_cons_zero, Nat.reduceAdd] at hM)
    replace HM := hM
    clear hM
    refine hK _ _ ⟨(fun y => ∃ q : CW [(⟨R, 0, none⟩, .slice (some ⟨b0, o0, none⟩) 771 p0), (⟨R, 1, none⟩, .slice (some ⟨b1, o1, none⟩) 33 p1), (⟨R, 2, none⟩, .slice (some ⟨b2, o2, none⟩) 33 p2), (⟨A7.heap.size, 0, none⟩, .int .i8 k), (⟨A7.heap.size, 1, none⟩, .int .i64 a), (⟨A7.heap.size, 2, none⟩, .int .i64 0), (⟨A7.heap.size, 3, none⟩, .int .i64 v), (⟨A7.heap.size, 4, none⟩, .int .i64 0), (⟨A7.heap.size, 5, none⟩, .string ByteArray.empty), (⟨A7.heap.size, 6, none⟩, .slice ao1 0 ac1)], y = q.1), ⟨⟨_, (allc ((HM.out.hb 0 _ _ _ rfl).cell (k := 0) HW0.out) (allc ((HM.out.hb 0 _ _ _ rfl).cell (k := 1) HW1.out) (allc ((HM.out.hb 0 _ _ _ rfl).cell (k := 2) HW2.out) (allc ((HM.out.hb 2 _ _ _ rfl).cell (k := 0) rfl) (allc ((HM.out.hb 2 _ _ _ rfl).cell (k := 1) rfl) (allc ((HM.out.hb 2 _ _ _ rfl).cell (k := 2) rfl) (allc ((HM.out.hb 2 _ _ _ rfl).cell (k := 3) rfl) (allc ((HM.out.hb 2 _ _ _ rfl).cell (k := 4) rfl) (allc ((HM.out.hb 2 _ _ _ rfl).cell (k := 5) rfl) (allc ((HM.out.hb 2 _ _ _ rfl).cell (k := 6) rfl) (alln _)))))))))))⟩, rfl⟩, fun _ h => h, ?_⟩
    clear hK K
    (try simp only [Act.put, List.setIfInBounds_toArray, List.set_cons_succ, List.set_cons_zero])
    refine wpQuiet_nil ?_
    refine wpOp_step rfl (fun K hK => ?_)
    rw [if_pos (by rfl)]
    refine wpOm_st HM 35 (.tmp 13) (.tmp 83) rfl rfl 5 rfl #[.slice (some ⟨b3, o3, none⟩) 771 p3, .slice (some ⟨b1, o1, none⟩) 33 p1, .slice (some ⟨b2, o2, none⟩) 33 p2] rfl rfl 3 inf35 rfl rfl (w35_one _ _ _ _ _ _ _ _ _) ?_
    intro V4 hM
    (try simp only [List.cons_append, List.nil_append, List.set_cons_succ, List.set_cons_zero, Nat.reduceAdd] at hM)
    replace HM := hM
    clear hM
    refine hK _ _ ⟨(fun y => ∃ q : CW [(⟨R, 0, none⟩, .slice (some ⟨b0, o0, none⟩) 771 p0), (⟨R, 1, none⟩, .slice (some ⟨b1, o1, none⟩) 33 p1), (⟨R, 2, none⟩, .slice (some ⟨b2, o2, none⟩) 33 p2), (⟨A7.heap.size, 0, none⟩, .int .i8 k), (⟨A7.heap.size, 1, none⟩, .int .i64 a), (⟨A7.heap.size, 2, none⟩, .int .i64 0), (⟨A7.heap.size, 3, none⟩, .int .i64 v), (⟨A7.heap.size, 4, none⟩, .int .i64 0), (⟨A7.heap.size, 5, none⟩, .string ByteArray.empty), (⟨A7.heap.size, 6, none⟩, .slice ao1 0 ac1)], y = q.1), ⟨⟨_, (allc ((HM.out.hb 0 _ _ _ rfl).cell (k := 0) HW0.out) (allc ((HM.out.hb 0 _ _ _ rfl).cell (k := 1) HW1.out) (allc ((HM.out.hb 0 _ _ _ rfl).cell (k := 2) HW2.out) (allc ((HM.out.hb 2 _ _ _ rfl).cell (k := 0) rfl) (allc ((HM.out.hb 2 _ _ _ rfl).cell (k := 1) rfl) (allc ((HM.out.hb 2 _ _ _ rfl).cell (k := 2) rfl) (allc ((HM.out.hb 2 _ _ _ rfl).cell (k := 3) rfl) (allc ((HM.out.hb 2 _ _ _ rfl).cell (k := 4) rfl) (allc ((HM.out.hb 2 _ _ _ rfl).cell (k := 5) rfl) (allc ((HM.out.hb 2 _ _ _ rfl).cell (k := 6) rfl) (alln _)))))))))))⟩, rfl⟩, fun _ h => h, ?_⟩
    clear hK K
    (try simp only [Act.put, List.setIfInBounds_toArray, List.set_cons_succ, List.set_cons_zero])
    repeat (go_big_quiet_step (fail))
    refine wpQuiet_nil ?_
    refine NoPanic.normal ?_
    clear f0 f1 f2 f3 f4 f5 f6 f7 f8 f9 HF
    go_wp2_with (first
      | (refine wpm_ld35 HM rfl (.tmp 13) rfl 5 rfl rfl rfl ?_)
      | (refine wpm_stW HM HA rfl (.tmp 91) (.tmp 89) rfl 0 rfl _ _ _ _ _ _ _ _ _ rfl rfl (fun j => if j = 0 then .slice (some ⟨b3, o3, none⟩) 771 p3 else s.w j) rfl ECv.out.2.1 ECv.out.2.2 ?_; clear HA HW0 HW1 HW2; intro W11 C11 HA hM; (try simp only [List.cons_append, List.nil_append, List.set_cons_succ, List.set_cons_zero, Nat.reduceAdd] at hM); replace HM := hM; clear hM))
    obtain ⟨tac, taao, tan, tacap, tago, tagn, tagc, tay, rfl⟩ := HT1c.out
    replace HM := Lib.hid HM.out.drew
    have HF : Hid (∀ p ∈ ([(⟨W1.heap.size, 0, none⟩, .int .i64 tac), (⟨W1.heap.size, 1, none⟩, .slice taao tan tacap), (⟨W1.heap.size, 2, none⟩, .slice tago tagn tagc), (⟨W1.heap.size, 3, none⟩, .bool tay)] : List (Addr × Value)), World.cell? _ p.1 = some p.2) := Lib.hid (allc ((HM.out.hb 1 _ _ _ rfl).cell (k := 0) rfl) (allc ((HM.out.hb 1 _ _ _ rfl).cell (k := 1) rfl) (allc ((HM.out.hb 1 _ _ _ rfl).cell (k := 2) rfl) (allc ((HM.out.hb 1 _ _ _ rfl).cell (k := 3) rfl) (alln _)))))
    haveI : Inhabited (CW [(⟨W1.heap.size, 0, none⟩, .int .i64 tac), (⟨W1.heap.size, 1, none⟩, .slice taao tan tacap), (⟨W1.heap.size, 2, none⟩, .slice tago tagn tagc), (⟨W1.heap.size, 3, none⟩, .bool tay)]) := ⟨⟨_, HF.out⟩⟩
    have f0 : ∀ q : CW [(⟨W1.heap.size, 0, none⟩, .int .i64 tac), (⟨W1.heap.size, 1, none⟩, .slice taao tan tacap), (⟨W1.heap.size, 2, none⟩, .slice tago tagn tagc), (⟨W1.heap.size, 3, none⟩, .bool tay)], q.1.cell? ⟨W1.heap.size, 0, none⟩ = some (.int .i64 tac) := fun q => q.2 (⟨W1.heap.size, 0, none⟩, .int .i64 tac) (by simp)
    have f1 : ∀ q : CW [(⟨W1.heap.size, 0, none⟩, .int .i64 tac), (⟨W1.heap.size, 1, none⟩, .slice taao tan tacap), (⟨W1.heap.size, 2, none⟩, .slice tago tagn tagc), (⟨W1.heap.size, 3, none⟩, .bool tay)], q.1.cell? ⟨W1.heap.size, 1, none⟩ = some (.slice taao tan tacap) := fun q => q.2 (⟨W1.heap.size, 1, none⟩, .slice taao tan tacap) (by simp)
    have f2 : ∀ q : CW [(⟨W1.heap.size, 0, none⟩, .int .i64 tac), (⟨W1.heap.size, 1, none⟩, .slice taao tan tacap), (⟨W1.heap.size, 2, none⟩, .slice tago tagn tagc), (⟨W1.heap.size, 3, none⟩, .bool tay)], q.1.cell? ⟨W1.heap.size, 2, none⟩ = some (.slice tago tagn tagc) := fun q => q.2 (⟨W1.heap.size, 2, none⟩, .slice tago tagn tagc) (by simp)
    have f3 : ∀ q : CW [(⟨W1.heap.size, 0, none⟩, .int .i64 tac), (⟨W1.heap.size, 1, none⟩, .slice taao tan tacap), (⟨W1.heap.size, 2, none⟩, .slice tago tagn tagc), (⟨W1.heap.size, 3, none⟩, .bool tay)], q.1.cell? ⟨W1.heap.size, 3, none⟩ = some (.bool tay) := fun q => q.2 (⟨W1.heap.size, 3, none⟩, .bool tay) (by simp)
    (try simp only [Act.put, List.setIfInBounds_toArray, List.set_cons_succ, List.set_cons_zero])
    refine wp_region_noPanic ?_
    refine wp_region_plw (.step [true, true, true, true, false, false, false, false, true, true] (.cons 4 (.step [false, false, false, false, false, true, true, true, false, false, true] (.cons 11 (.last []) .nil)) .nil)) (fun y => ∃ q : CW [(⟨W1.heap.size, 0, none⟩, .int .i64 tac), (⟨W1.heap.size, 1, none⟩, .slice taao tan tacap), (⟨W1.heap.size, 2, none⟩, .slice tago tagn tagc), (⟨W1.heap.size, 3, none⟩, .bool tay)], y = q.1) (by kernel_rfl) (by kernel_rfl) (by kernel_rfl) (fun _ _ _ _ _ _ _ h => h) ⟨⟨_, HF.out⟩, rfl⟩ ?_
    simp only [wpPw, wpBw, selF, and_true]
    generalize W11.drew = V5 at *
    repeat (go_big_quiet_step (fail))
    refine wpQuiet_nil ?_
    refine wpOp_step rfl (fun K hK => ?_)
    go_simp
    refine (give_p _ (HM.out.nw (fun b hb => HP.out b (Nat.le_trans HMT.out.size (Nat.le_trans HM.out.size hb)))) HC4.out (HT1.out.now HM.out) y).mono ?_
    rintro e V6 ⟨⟨HT2v, rfl, hl⟩, hb⟩
    replace HM := Lib.hid (HM.out.below hb)
    replace HTm := Lib.hid (HTm.out.step HM.out)
    replace HTh := Lib.hid (HTh.out.step HM.out)
    replace HCv := Lib.hid (HCv.out.step HM.out)
    replace HD1 := Lib.hid (HD1.out.step HM.out)
    replace HD2 := Lib.hid (HD2.out.step HM.out)
    replace HT1 := Lib.hid (HT1.out.step HM.out)
    replace HU1 := Lib.hid (HU1.out.step HM.out)
    replace HCx := Lib.hid (HCx.out.step HM.out)
    replace HMT := Lib.hid (HMT.out.tr HM.out)
    replace HM := Lib.hid HM.out.re
    have HT2 := Lib.hid hl.cn
    have HT2c := Lib.hid hl.task
    clear hb hl
    refine hK _ _ ⟨(fun y => ∃ q : CW [(⟨W1.heap.size, 0, none⟩, .int .i64 tac), (⟨W1.heap.size, 1, none⟩, .slice taao tan tacap), (⟨W1.heap.size, 2, none⟩, .slice tago tagn tagc), (⟨W1.heap.size, 3, none⟩, .bool tay)], y = q.1), ⟨⟨_, (allc ((HM.out.hb 1 _ _ _ rfl).cell (k := 0) rfl) (allc ((HM.out.hb 1 _ _ _ rfl).cell (k := 1) rfl) (allc ((HM.out.hb 1 _ _ _ rfl).cell (k := 2) rfl) (allc ((HM.out.hb 1 _ _ _ rfl).cell (k := 3) rfl) (alln _)))))⟩, rfl⟩, fun _ h => h, ?_⟩
    clear hK K
    (try simp only [Act.put, List.setIfInBounds_toArray, List.set_cons_succ, List.set_cons_zero])
    repeat (go_big_quiet_step (fail))
    refine wpQuiet_nil ?_
    refine wpOp_step rfl (fun K hK => ?_)
    rw [if_pos (by rfl)]
    refine wpOm_stM HM HA (.tmp 102) (.tmp 98) rfl rfl 0 rfl c hc _ rfl rfl HT2c.out ?_
    clear HA
    intro V7 V7c HA hM
    (try simp only [List.cons_append, List.nil_append, List.set_cons_succ, List.set_cons_zero, Nat.reduceAdd] at hM)
    replace HM := hM
    clear hM
    refine hK _ _ ⟨(fun y => ∃ q : CW [(⟨W1.heap.size, 0, none⟩, .int .i64 tac), (⟨W1.heap.size, 1, none⟩, .slice taao tan tacap), (⟨W1.heap.size, 2, none⟩, .slice tago tagn tagc), (⟨W1.heap.size, 3, none⟩, .bool tay)], y = q.1), ⟨⟨_, (allc ((HM.out.hb 1 _ _ _ rfl).cell (k := 0) rfl) (allc ((HM.out.hb 1 _ _ _ rfl).cell (k := 1) rfl) (allc ((HM.out.hb 1 _ _ _ rfl).cell (k := 2) rfl) (allc ((HM.out.hb 1 _ _ _ rfl).cell (k := 3) rfl) (alln _)))))⟩, rfl⟩, fun _ h => h, ?_⟩
    clear hK K
    (try simp only [Act.put, List.setIfInBounds_toArray, List.set_cons_succ, List.set_cons_zero])
    refine wpQuiet_nil ?_
    refine NoPanic.normal ?_
    clear f0 f1 f2 f3 HF
    go_wp2_with fail
    obtain ⟨uac, uaao, uan, uacap, uago, uagn, uagc, uay, rfl⟩ := HU1c.out
    replace HM := Lib.hid HM.out.drew
    have HF : Hid (∀ p ∈ ([(⟨W2.heap.size, 0, none⟩, .int .i64 uac), (⟨W2.heap.size, 1, none⟩, .slice uaao uan uacap), (⟨W2.heap.size, 2, none⟩, .slice uago uagn uagc), (⟨W2.heap.size, 3, none⟩, .bool uay)] : List (Addr × Value)), World.cell? _ p.1 = some p.2) := Lib.hid (allc ((HM.out.hb 3 _ _ _ rfl).cell (k := 0) rfl) (allc ((HM.out.hb 3 _ _ _ rfl).cell (k := 1) rfl) (allc ((HM.out.hb 3 _ _ _ rfl).cell (k := 2) rfl) (allc ((HM.out.hb 3 _ _ _ rfl).cell (k := 3) rfl) (alln _)))))
    haveI : Inhabited (CW [(⟨W2.heap.size, 0, none⟩, .int .i64 uac), (⟨W2.heap.size, 1, none⟩, .slice uaao uan uacap), (⟨W2.heap.size, 2, none⟩, .slice uago uagn uagc), (⟨W2.heap.size, 3, none⟩, .bool uay)]) := ⟨⟨_, HF.out⟩⟩
    have f0 : ∀ q : CW [(⟨W2.heap.size, 0, none⟩, .int .i64 uac), (⟨W2.heap.size, 1, none⟩, .slice uaao uan uacap), (⟨W2.heap.size, 2, none⟩, .slice uago uagn uagc), (⟨W2.heap.size, 3, none⟩, .bool uay)], q.1.cell? ⟨W2.heap.size, 0, none⟩ = some (.int .i64 uac) := fun q => q.2 (⟨W2.heap.size, 0, none⟩, .int .i64 uac) (by simp)
    have f1 : ∀ q : CW [(⟨W2.heap.size, 0, none⟩, .int .i64 uac), (⟨W2.heap.size, 1, none⟩, .slice uaao uan uacap), (⟨W2.heap.size, 2, none⟩, .slice uago uagn uagc), (⟨W2.heap.size, 3, none⟩, .bool uay)], q.1.cell? ⟨W2.heap.size, 1, none⟩ = some (.slice uaao uan uacap) := fun q => q.2 (⟨W2.heap.size, 1, none⟩, .slice uaao uan uacap) (by simp)
    have f2 : ∀ q : CW [(⟨W2.heap.size, 0, none⟩, .int .i64 uac), (⟨W2.heap.size, 1, none⟩, .slice uaao uan uacap), (⟨W2.heap.size, 2, none⟩, .slice uago uagn uagc), (⟨W2.heap.size, 3, none⟩, .bool uay)], q.1.cell? ⟨W2.heap.size, 2, none⟩ = some (.slice uago uagn uagc) := fun q => q.2 (⟨W2.heap.size, 2, none⟩, .slice uago uagn uagc) (by simp)
    have f3 : ∀ q : CW [(⟨W2.heap.size, 0, none⟩, .int .i64 uac), (⟨W2.heap.size, 1, none⟩, .slice uaao uan uacap), (⟨W2.heap.size, 2, none⟩, .slice uago uagn uagc), (⟨W2.heap.size, 3, none⟩, .bool uay)], q.1.cell? ⟨W2.heap.size, 3, none⟩ = some (.bool uay) := fun q => q.2 (⟨W2.heap.size, 3, none⟩, .bool uay) (by simp)
    (try simp only [Act.put, List.setIfInBounds_toArray, List.set_cons_succ, List.set_cons_zero])
    refine wp_region_noPanic ?_
    refine wp_region_plw (.step [true, true, true, true, false, false, false, false, true, true] (.cons 4 (.step [false, false, false, false, false, true, true, true, false, false, true] (.cons 11 (.last []) .nil)) .nil)) (fun y => ∃ q : CW [(⟨W2.heap.size, 0, none⟩, .int .i64 uac), (⟨W2.heap.size, 1, none⟩, .slice uaao uan uacap), (⟨W2.heap.size, 2, none⟩, .slice uago uagn uagc), (⟨W2.heap.size, 3, none⟩, .bool uay)], y = q.1) (by kernel_rfl) (by kernel_rfl) (by kernel_rfl) (fun _ _ _ _ _ _ _ h => h) ⟨⟨_, HF.out⟩, rfl⟩ ?_
    simp only [wpPw, wpBw, selF, and_true]
    generalize V7.drew = V8 at *
    repeat (go_big_quiet_step (fail))
    refine wpQuiet_nil ?_
    refine wpOp_step rfl (fun K hK => ?_)
    go_simp
    refine (give_p _ (HM.out.nw (fun b hb => HP.out b (Nat.le_trans HMT.out.size (Nat.le_trans HM.out.size hb)))) HC4.out (HU1.out.now HM.out) y).mono ?_
    rintro e V9 ⟨⟨HU2v, rfl, hl⟩, hb⟩
    replace HM := Lib.hid (HM.out.below hb)
    replace HTm := Lib.hid (HTm.out.step HM.out)
    replace HTh := Lib.hid (HTh.out.step HM.out)
    replace HCv := Lib.hid (HCv.out.step HM.out)
    replace HD1 := Lib.hid (HD1.out.step HM.out)
    replace HD2 := Lib.hid (HD2.out.step HM.out)
    replace HT1 := Lib.hid (HT1.out.step HM.out)
    replace HU1 := Lib.hid (HU1.out.step HM.out)
    replace HCx := Lib.hid (HCx.out.step HM.out)
    replace HT2 := Lib.hid (HT2.out.step HM.out)
    replace HMT := Lib.hid (HMT.out.tr HM.out)
    replace HM := Lib.hid HM.out.re
    have HU2 := Lib.hid hl.cn
    have HU2c := Lib.hid hl.task
    clear hb hl
    refine hK _ _ ⟨(fun y => ∃ q : CW [(⟨W2.heap.size, 0, none⟩, .int .i64 uac), (⟨W2.heap.size, 1, none⟩, .slice uaao uan uacap), (⟨W2.heap.size, 2, none⟩, .slice uago uagn uagc), (⟨W2.heap.size, 3, none⟩, .bool uay)], y = q.1), ⟨⟨_, (allc ((HM.out.hb 3 _ _ _ rfl).cell (k := 0) rfl) (allc ((HM.out.hb 3 _ _ _ rfl).cell (k := 1) rfl) (allc ((HM.out.hb 3 _ _ _ rfl).cell (k := 2) rfl) (allc ((HM.out.hb 3 _ _ _ rfl).cell (k := 3) rfl) (alln _)))))⟩, rfl⟩, fun _ h => h, ?_⟩
    clear hK K
    (try simp only [Act.put, List.setIfInBounds_toArray, List.set_cons_succ, List.set_cons_zero])
    repeat (go_big_quiet_step (fail))
    refine wpQuiet_nil ?_
    refine wpOp_step rfl (fun K hK => ?_)
    rw [if_pos (by rfl)]
    refine wpOm_stH HM HA (.tmp 113) (.tmp 109) rfl rfl 0 rfl c hc _ rfl rfl HU2c.out ?_
    clear HA
    intro V10 V10c HA hM
    (try simp only [List.cons_append, List.nil_append, List.set_cons_succ, List.set_cons_zero, Nat.reduceAdd] at hM)
    replace HM := hM
    clear hM
    refine hK _ _ ⟨(fun y => ∃ q : CW [(⟨W2.heap.size, 0, none⟩, .int .i64 uac), (⟨W2.heap.size, 1, none⟩, .slice uaao uan uacap), (⟨W2.heap.size, 2, none⟩, .slice uago uagn uagc), (⟨W2.heap.size, 3, none⟩, .bool uay)], y = q.1), ⟨⟨_, (allc ((HM.out.hb 3 _ _ _ rfl).cell (k := 0) rfl) (allc ((HM.out.hb 3 _ _ _ rfl).cell (k := 1) rfl) (allc ((HM.out.hb 3 _ _ _ rfl).cell (k := 2) rfl) (allc ((HM.out.hb 3 _ _ _ rfl).cell (k := 3) rfl) (alln _)))))⟩, rfl⟩, fun _ h => h, ?_⟩
    clear hK K
    (try simp only [Act.put, List.setIfInBounds_toArray, List.set_cons_succ, List.set_cons_zero])
    refine wpQuiet_nil ?_
    refine NoPanic.normal ?_
    clear f0 f1 f2 f3 HF
    go_wp2_with (first
      | (refine wpm_ldM HM HA rfl (.tmp 119) rfl 0 rfl c hc rfl HT2v (by simp [RS.setM, RS.setH, RS.setW, upd]) HT2c.out ?_))
    refine (goes14pg _ (HM.out.nw (fun b hb => HP.out b (Nat.le_trans HMT.out.size (Nat.le_trans HM.out.size hb)))) HC4.out (HT2.out.now HM.out) k2 a2 0 v2 l2 HOk2.out HK2.out HN2.out).mono ?_
    rintro e W13 ⟨⟨T3, ao3, ac3, rfl, hl⟩, hb⟩
    replace HM := Lib.hid (HM.out.below hb)
    replace HTm := Lib.hid (HTm.out.step HM.out)
    replace HTh := Lib.hid (HTh.out.step HM.out)
    replace HCv := Lib.hid (HCv.out.step HM.out)
    replace HD1 := Lib.hid (HD1.out.step HM.out)
    replace HD2 := Lib.hid (HD2.out.step HM.out)
    replace HT1 := Lib.hid (HT1.out.step HM.out)
    replace HU1 := Lib.hid (HU1.out.step HM.out)
    replace HCx := Lib.hid (HCx.out.step HM.out)
    replace HT2 := Lib.hid (HT2.out.step HM.out)
    replace HU2 := Lib.hid (HU2.out.step HM.out)
    replace HMT := Lib.hid (HMT.out.tr HM.out)
    replace HM := Lib.hid HM.out.re
    have HT3 := Lib.hid hl.cn
    have HT3c := Lib.hid hl.task
    clear hb hl
    go_wp2_with (first
      | (refine wpm_st38 HM rfl (.tmp 7) (.tmp 122) rfl 1 rfl HT1c.out.size T3 rfl rfl HT3c.out ?_; intro W hM; (try simp only [List.cons_append, List.nil_append, List.set_cons_succ, List.set_cons_zero, Nat.reduceAdd] at hM); replace HM := hM; clear hM)
      | (refine wpm_st59 HM rfl (.tmp 8) (.tmp 123) rfl 2 rfl rfl k2 a2 0 v2 0 ao3 0 ac3 rfl rfl ?_; intro W hM; (try simp only [List.cons_append, List.nil_append, List.set_cons_succ, List.set_cons_zero, Nat.reduceAdd] at hM); replace HM := hM; clear hM)
      | (refine wpm_ldH HM HA rfl (.tmp 130) rfl 0 rfl c hc rfl HU2v (by simp [RS.setM, RS.setH, RS.setW, upd]) HU2c.out ?_))
    refine (goes14rg _ (HM.out.nw (fun b hb => HP.out b (Nat.le_trans HMT.out.size (Nat.le_trans HM.out.size hb)))) HC4.out (HU2.out.now HM.out) k2 a2 0 v2 l2 HOk2.out HK2.out HR2.out).mono ?_
    rintro e W14 ⟨⟨U3, ao4, ac4, rfl, hl⟩, hb⟩
    replace HM := Lib.hid (HM.out.below hb)
    replace HTm := Lib.hid (HTm.out.step HM.out)
    replace HTh := Lib.hid (HTh.out.step HM.out)
    replace HCv := Lib.hid (HCv.out.step HM.out)
    replace HD1 := Lib.hid (HD1.out.step HM.out)
    replace HD2 := Lib.hid (HD2.out.step HM.out)
    replace HT1 := Lib.hid (HT1.out.step HM.out)
    replace HU1 := Lib.hid (HU1.out.step HM.out)
    replace HCx := Lib.hid (HCx.out.step HM.out)
    replace HT2 := Lib.hid (HT2.out.step HM.out)
    replace HU2 := Lib.hid (HU2.out.step HM.out)
    replace HT3 := Lib.hid (HT3.out.step HM.out)
    replace HMT := Lib.hid (HMT.out.tr HM.out)
    replace HM := Lib.hid HM.out.re
    have HU3 := Lib.hid hl.cn
    have HU3c := Lib.hid hl.task
    clear hb hl
    go_wp2_with (first
      | (refine wpm_st38 HM rfl (.tmp 10) (.tmp 133) rfl 3 rfl HU1c.out.size U3 rfl rfl HU3c.out ?_; intro W hM; (try simp only [List.cons_append, List.nil_append, List.set_cons_succ, List.set_cons_zero, Nat.reduceAdd] at hM); replace HM := hM; clear hM)
      | (refine wpm_st59 HM rfl (.tmp 11) (.tmp 134) rfl 4 rfl rfl k2 a2 0 v2 0 ao4 0 ac4 rfl rfl ?_; intro W hM; (try simp only [List.cons_append, List.nil_append, List.set_cons_succ, List.set_cons_zero, Nat.reduceAdd] at hM); replace HM := hM; clear hM; have p0 := (HM.out.hb 2 _ _ _ rfl).cell (k := 0) (v := .int .i8 k2) rfl; have p1 := (HM.out.hb 2 _ _ _ rfl).cell (k := 1) (v := .int .i64 a2) rfl; have p2 := (HM.out.hb 2 _ _ _ rfl).cell (k := 2) (v := .int .i64 0) rfl; have p3 := (HM.out.hb 2 _ _ _ rfl).cell (k := 3) (v := .int .i64 v2) rfl; have p4 := (HM.out.hb 2 _ _ _ rfl).cell (k := 4) (v := .int .i64 0) rfl; have p5 := (HM.out.hb 2 _ _ _ rfl).cell (k := 5) (v := .string ByteArray.empty) rfl; have p6 := (HM.out.hb 2 _ _ _ rfl).cell (k := 6) (v := .slice ao3 0 ac3) rfl; have q0 := (HM.out.hb 4 _ _ _ rfl).cell (k := 0) (v := .int .i8 k2) rfl; have q1 := (HM.out.hb 4 _ _ _ rfl).cell (k := 1) (v := .int .i64 a2) rfl; have q2 := (HM.out.hb 4 _ _ _ rfl).cell (k := 2) (v := .int .i64 0) rfl; have q3 := (HM.out.hb 4 _ _ _ rfl).cell (k := 3) (v := .int .i64 v2) rfl; have q4 := (HM.out.hb 4 _ _ _ rfl).cell (k := 4) (v := .int .i64 0) rfl; have q5 := (HM.out.hb 4 _ _ _ rfl).cell (k := 5) (v := .string ByteArray.empty) rfl; have q6 := (HM.out.hb 4 _ _ _ rfl).cell (k := 6) (v := .slice ao4 0 ac4) rfl))
    refine (same_act k2 a2 v2 (.slice ao3 0 ac3) (.slice ao4 0 ac4) [] _ (ints0 0 _ ao3 ac3) (ints0 0 _ ao4 ac4) (by simp)).mono ?_
    rintro e W15 ⟨rfl, hb⟩
    clear p0 p1 p2 p3 p4 p5 p6 q0 q1 q2 q3 q4 q5 q6
    replace HM := Lib.hid (HM.out.below hb)
    clear hb
    go_wp2_with fail
    (try simp only [Exit.inBlock, Exit.then])
    refine bodyPost_ret (res_ttt rfl _ _ _ _ _ rfl rfl rfl) rfl ?_
    refine ⟨rfl, ?_⟩
    unfold StepE
    refine ⟨_, HT2v, HU2v, _, (HMT.out.tr HM.out).sub (fun i e hi => by match i, hi with | 0, hi => exact hi | i + 1, hi => simp at hi), HA.out, (HCx.out.mem (fun b hb => hb.2.1) HM.out).weak fun b hb _ => hb.1, ?_, ?_, (HT2.out.mem (fun b hb => hb.2.1) HM.out).weak fun b hb _ => hb.1, (HU2.out.mem (fun b hb => hb.2.1) HM.out).weak fun b hb _ => hb.1⟩
    · rw [ECv.out.2.1]; exact (HD1.out.mem (fun b hb => hb.2.1) HM.out).weak fun b hb _ => hb.1
    · rw [ECv.out.2.2]; exact (HD2.out.mem (fun b hb => hb.2.1) HM.out).weak fun b hb _ => hb.1
  · refine wpOp_step rfl (fun K hK => ?_)
    rw [if_pos (by rfl)]
    refine wpOm_al HM 35 rfl 13 rfl _ zer35 ?_
    intro V11 hM
    (try simp only [List.cons_append, List.nil_append, List.set_cons_succ, List.set_cons_zero, Nat.reduceAdd] at hM)
    replace HM := hM
    clear hM
    refine hK _ _ ⟨(fun y => ∃ q : CW [(⟨R, 0, none⟩, .slice (some ⟨b0, o0, none⟩) 771 p0), (⟨R, 1, none⟩, .slice (some ⟨b1, o1, none⟩) 33 p1), (⟨R, 2, none⟩, .slice (some ⟨b2, o2, none⟩) 33 p2), (⟨A7.heap.size, 0, none⟩, .int .i8 k), (⟨A7.heap.size, 1, none⟩, .int .i64 a), (⟨A7.heap.size, 2, none⟩, .int .i64 0), (⟨A7.heap.size, 3, none⟩, .int .i64 v), (⟨A7.heap.size, 4, none⟩, .int .i64 0), (⟨A7.heap.size, 5, none⟩, .string ByteArray.empty), (⟨A7.heap.size, 6, none⟩, .slice ao1 0 ac1)], y = q.1), ⟨⟨_, (allc ((HM.out.hb 0 _ _ _ rfl).cell (k := 0) HW0.out) (allc ((HM.out.hb 0 _ _ _ rfl).cell (k := 1) HW1.out) (allc ((HM.out.hb 0 _ _ _ rfl).cell (k := 2) HW2.out) (allc ((HM.out.hb 2 _ _ _ rfl).cell (k := 0) rfl) (allc ((HM.out.hb 2 _ _ _ rfl).cell (k := 1) rfl) (allc ((HM.out.hb 2 _ _ _ rfl).cell (k := 2) rfl) (allc ((HM.out.hb 2 _ _ _ rfl).cell (k := 3) rfl) (allc ((HM.out.hb 2 _ _ _ rfl).cell (k := 4) rfl) (allc ((HM.out.hb 2 _ _ _ rfl).cell (k := 5) rfl) (allc ((HM.out.hb 2 _ _ _ rfl).cell (k := 6) rfl) (alln _)))))))))))⟩, rfl⟩, fun _ h => h, ?_⟩
    clear hK K
    (try simp only [Act.put, List.setIfInBounds_toArray, List.set_cons_succ, List.set_cons_zero])
    refine wpQuiet_nil ?_
    refine wpOp_step rfl (fun K hK => ?_)
    go_simp
    refine (HDo.out _ _ _ _ _ ao1 ac1 (HM.out.nw (fun b hb => HP.out b (Nat.le_trans HMT.out.size (Nat.le_trans HM.out.size hb)))) (HCv.out.now HM.out) (HD1.out.now HM.out) (HD2.out.now HM.out)).mono ?_
    rintro e V12 ⟨⟨cv2, rfl, hcv⟩, hb⟩
    replace HM := Lib.hid (HM.out.below hb)
    replace HTm := Lib.hid (HTm.out.step HM.out)
    replace HTh := Lib.hid (HTh.out.step HM.out)
    replace HCv := Lib.hid (HCv.out.step HM.out)
    replace HD1 := Lib.hid (HD1.out.step HM.out)
    replace HD2 := Lib.hid (HD2.out.step HM.out)
    replace HT1 := Lib.hid (HT1.out.step HM.out)
    replace HU1 := Lib.hid (HU1.out.step HM.out)
    replace HMT := Lib.hid (HMT.out.tr HM.out)
    replace HM := Lib.hid HM.out.re
    clear hb
    have HCx := Lib.hid hcv.cn
    obtain ⟨b3, o3, p3, rfl, -⟩ := hcv
    refine hK _ _ ⟨(fun y => ∃ q : CW [(⟨R, 0, none⟩, .slice (some ⟨b0, o0, none⟩) 771 p0), (⟨R, 1, none⟩, .slice (some ⟨b1, o1, none⟩) 33 p1), (⟨R, 2, none⟩, .slice (some ⟨b2, o2, none⟩) 33 p2), (⟨A7.heap.size, 0, none⟩, .int .i8 k), (⟨A7.heap.size, 1, none⟩, .int .i64 a), (⟨A7.heap.size, 2, none⟩, .int .i64 0), (⟨A7.heap.size, 3, none⟩, .int .i64 v), (⟨A7.heap.size, 4, none⟩, .int .i64 0), (⟨A7.heap.size, 5, none⟩, .string ByteArray.empty), (⟨A7.heap.size, 6, none⟩, .slice ao1 0 ac1)], y = q.1), ⟨⟨_, (allc ((HM.out.hb 0 _ _ _ rfl).cell (k := 0) HW0.out) (allc ((HM.out.hb 0 _ _ _ rfl).cell (k := 1) HW1.out) (allc ((HM.out.hb 0 _ _ _ rfl).cell (k := 2) HW2.out) (allc ((HM.out.hb 2 _ _ _ rfl).cell (k := 0) rfl) (allc ((HM.out.hb 2 _ _ _ rfl).cell (k := 1) rfl) (allc ((HM.out.hb 2 _ _ _ rfl).cell (k := 2) rfl) (allc ((HM.out.hb 2 _ _ _ rfl).cell (k := 3) rfl) (allc ((HM.out.hb 2 _ _ _ rfl).cell (k := 4) rfl) (allc ((HM.out.hb 2 _ _ _ rfl).cell (k := 5) rfl) (allc ((HM.out.hb 2 _ _ _ rfl).cell (k := 6) rfl) (alln _)))))))))))⟩, rfl⟩, fun _ h => h, ?_⟩
    clear hK K
    (try simp only [Act.put, List.setIfInBounds_toArray, List.set_cons_succ, List.set_cons_zero])
    repeat (go_big_quiet_step (fail))
    refine wpQuiet_nil ?_
    refine wpOp_step rfl (fun K hK => ?_)
    rw [if_pos (by rfl)]
    refine wpOm_st HM 35 (.tmp 13) (.tmp 83) rfl rfl 5 rfl #[.slice (some ⟨b3, o3, none⟩) 771 p3, .slice (some ⟨b1, o1, none⟩) 33 p1, .slice (some ⟨b2, o2, none⟩) 33 p2] rfl rfl 3 inf35 rfl rfl (w35_one _ _ _ _ _ _ _ _ _) ?_
    intro V13 hM
    (try simp only [List.cons_append, List.nil_append, List.set_cons_succ, List.set_cons_zero, Nat.reduceAdd] at hM)
    replace HM := hM
    clear hM
    refine hK _ _ ⟨(fun y => ∃ q : CW [(⟨R, 0, none⟩, .slice (some ⟨b0, o0, none⟩) 771 p0), (⟨R, 1, none⟩, .slice (some ⟨b1, o1, none⟩) 33 p1), (⟨R, 2, none⟩, .slice (some ⟨b2, o2, none⟩) 33 p2), (⟨A7.heap.size, 0, none⟩, .int .i8 k), (⟨A7.heap.size, 1, none⟩, .int .i64 a), (⟨A7.heap.size, 2, none⟩, .int .i64 0), (⟨A7.heap.size, 3, none⟩, .int .i64 v), (⟨A7.heap.size, 4, none⟩, .int .i64 0), (⟨A7.heap.size, 5, none⟩, .string ByteArray.empty), (⟨A7.heap.size, 6, none⟩, .slice ao1 0 ac1)], y = q.1), ⟨⟨_, (allc ((HM.out.hb 0 _ _ _ rfl).cell (k := 0) HW0.out) (allc ((HM.out.hb 0 _ _ _ rfl).cell (k := 1) HW1.out) (allc ((HM.out.hb 0 _ _ _ rfl).cell (k := 2) HW2.out) (allc ((HM.out.hb 2 _ _ _ rfl).cell (k := 0) rfl) (allc ((HM.out.hb 2 _ _ _ rfl).cell (k := 1) rfl) (allc ((HM.out.hb 2 _ _ _ rfl).cell (k := 2) rfl) (allc ((HM.out.hb 2 _ _ _ rfl).cell (k := 3) rfl) (allc ((HM.out.hb 2 _ _ _ rfl).cell (k := 4) rfl) (allc ((HM.out.hb 2 _ _ _ rfl).cell (k := 5) rfl) (allc ((HM.out.hb 2 _ _ _ rfl).cell (k := 6) rfl) (alln _)))))))))))⟩, rfl⟩, fun _ h => h, ?_⟩
    clear hK K
    (try simp only [Act.put, List.setIfInBounds_toArray, List.set_cons_succ, List.set_cons_zero])
    repeat (go_big_quiet_step (fail))
    refine wpQuiet_nil ?_
    refine NoPanic.normal ?_
    clear f0 f1 f2 f3 f4 f5 f6 f7 f8 f9 HF
    go_wp2_with (first
      | (refine wpm_ld35 HM rfl (.tmp 13) rfl 5 rfl rfl rfl ?_)
      | (refine wpm_stW HM HA rfl (.tmp 91) (.tmp 89) rfl 0 rfl _ _ _ _ _ _ _ _ _ rfl rfl (fun j => if j = 0 then .slice (some ⟨b3, o3, none⟩) 771 p3 else s.w j) rfl ECv.out.2.1 ECv.out.2.2 ?_; clear HA HW0 HW1 HW2; intro W11 C11 HA hM; (try simp only [List.cons_append, List.nil_append, List.set_cons_succ, List.set_cons_zero, Nat.reduceAdd] at hM); replace HM := hM; clear hM))
    obtain ⟨tac, taao, tan, tacap, tago, tagn, tagc, tay, rfl⟩ := HT1c.out
    replace HM := Lib.hid HM.out.drew
    have HF : Hid (∀ p ∈ ([(⟨W1.heap.size, 0, none⟩, .int .i64 tac), (⟨W1.heap.size, 1, none⟩, .slice taao tan tacap), (⟨W1.heap.size, 2, none⟩, .slice tago tagn tagc), (⟨W1.heap.size, 3, none⟩, .bool tay)] : List (Addr × Value)), World.cell? _ p.1 = some p.2) := Lib.hid (allc ((HM.out.hb 1 _ _ _ rfl).cell (k := 0) rfl) (allc ((HM.out.hb 1 _ _ _ rfl).cell (k := 1) rfl) (allc ((HM.out.hb 1 _ _ _ rfl).cell (k := 2) rfl) (allc ((HM.out.hb 1 _ _ _ rfl).cell (k := 3) rfl) (alln _)))))
    haveI : Inhabited (CW [(⟨W1.heap.size, 0, none⟩, .int .i64 tac), (⟨W1.heap.size, 1, none⟩, .slice taao tan tacap), (⟨W1.heap.size, 2, none⟩, .slice tago tagn tagc), (⟨W1.heap.size, 3, none⟩, .bool tay)]) := ⟨⟨_, HF.out⟩⟩
    have f0 : ∀ q : CW [(⟨W1.heap.size, 0, none⟩, .int .i64 tac), (⟨W1.heap.size, 1, none⟩, .slice taao tan tacap), (⟨W1.heap.size, 2, none⟩, .slice tago tagn tagc), (⟨W1.heap.size, 3, none⟩, .bool tay)], q.1.cell? ⟨W1.heap.size, 0, none⟩ = some (.int .i64 tac) := fun q => q.2 (⟨W1.heap.size, 0, none⟩, .int .i64 tac) (by simp)
    have f1 : ∀ q : CW [(⟨W1.heap.size, 0, none⟩, .int .i64 tac), (⟨W1.heap.size, 1, none⟩, .slice taao tan tacap), (⟨W1.heap.size, 2, none⟩, .slice tago tagn tagc), (⟨W1.heap.size, 3, none⟩, .bool tay)], q.1.cell? ⟨W1.heap.size, 1, none⟩ = some (.slice taao tan tacap) := fun q => q.2 (⟨W1.heap.size, 1, none⟩, .slice taao tan tacap) (by simp)
    have f2 : ∀ q : CW [(⟨W1.heap.size, 0, none⟩, .int .i64 tac), (⟨W1.heap.size, 1, none⟩, .slice taao tan tacap), (⟨W1.heap.size, 2, none⟩, .slice tago tagn tagc), (⟨W1.heap.size, 3, none⟩, .bool tay)], q.1.cell? ⟨W1.heap.size, 2, none⟩ = some (.slice tago tagn tagc) := fun q => q.2 (⟨W1.heap.size, 2, none⟩, .slice tago tagn tagc) (by simp)
    have f3 : ∀ q : CW [(⟨W1.heap.size, 0, none⟩, .int .i64 tac), (⟨W1.heap.size, 1, none⟩, .slice taao tan tacap), (⟨W1.heap.size, 2, none⟩, .slice tago tagn tagc), (⟨W1.heap.size, 3, none⟩, .bool tay)], q.1.cell? ⟨W1.heap.size, 3, none⟩ = some (.bool tay) := fun q => q.2 (⟨W1.heap.size, 3, none⟩, .bool tay) (by simp)
    (try simp only [Act.put, List.setIfInBounds_toArray, List.set_cons_succ, List.set_cons_zero])
    refine wp_region_noPanic ?_
    refine wp_region_plw (.step [true, true, true, true, false, false, false, false, true, true] (.cons 4 (.step [false, false, false, false, false, true, true, true, false, false, true] (.cons 11 (.last []) .nil)) .nil)) (fun y => ∃ q : CW [(⟨W1.heap.size, 0, none⟩, .int .i64 tac), (⟨W1.heap.size, 1, none⟩, .slice taao tan tacap), (⟨W1.heap.size, 2, none⟩, .slice tago tagn tagc), (⟨W1.heap.size, 3, none⟩, .bool tay)], y = q.1) (by kernel_rfl) (by kernel_rfl) (by kernel_rfl) (fun _ _ _ _ _ _ _ h => h) ⟨⟨_, HF.out⟩, rfl⟩ ?_
    simp only [wpPw, wpBw, selF, and_true]
    generalize W11.drew = V14 at *
    repeat (go_big_quiet_step (fail))
    refine wpQuiet_nil ?_
    refine wpOp_step rfl (fun K hK => ?_)
    go_simp
    refine (give_p _ (HM.out.nw (fun b hb => HP.out b (Nat.le_trans HMT.out.size (Nat.le_trans HM.out.size hb)))) HC4.out (HT1.out.now HM.out) y).mono ?_
    rintro e V15 ⟨⟨HT2v, rfl, hl⟩, hb⟩
    replace HM := Lib.hid (HM.out.below hb)
    replace HTm := Lib.hid (HTm.out.step HM.out)
    replace HTh := Lib.hid (HTh.out.step HM.out)
    replace HCv := Lib.hid (HCv.out.step HM.out)
    replace HD1 := Lib.hid (HD1.out.step HM.out)
    replace HD2 := Lib.hid (HD2.out.step HM.out)
    replace HT1 := Lib.hid (HT1.out.step HM.out)
    replace HU1 := Lib.hid (HU1.out.step HM.out)
    replace HCx := Lib.hid (HCx.out.step HM.out)
    replace HMT := Lib.hid (HMT.out.tr HM.out)
    replace HM := Lib.hid HM.out.re
    have HT2 := Lib.hid hl.cn
    have HT2c := Lib.hid hl.task
    clear hb hl
    refine hK _ _ ⟨(fun y => ∃ q : CW [(⟨W1.heap.size, 0, none⟩, .int .i64 tac), (⟨W1.heap.size, 1, none⟩, .slice taao tan tacap), (⟨W1.heap.size, 2, none⟩, .slice tago tagn tagc), (⟨W1.heap.size, 3, none⟩, .bool tay)], y = q.1), ⟨⟨_, (allc ((HM.out.hb 1 _ _ _ rfl).cell (k := 0) rfl) (allc ((HM.out.hb 1 _ _ _ rfl).cell (k := 1) rfl) (allc ((HM.out.hb 1 _ _ _ rfl).cell (k := 2) rfl) (allc ((HM.out.hb 1 _ _ _ rfl).cell (k := 3) rfl) (alln _)))))⟩, rfl⟩, fun _ h => h, ?_⟩
    clear hK K
    (try simp only [Act.put, List.setIfInBounds_toArray, List.set_cons_succ, List.set_cons_zero])
    repeat (go_big_quiet_step (fail))
    refine wpQuiet_nil ?_
    refine wpOp_step rfl (fun K hK => ?_)
    rw [if_pos (by rfl)]
    refine wpOm_stM HM HA (.tmp 102) (.tmp 98) rfl rfl 0 rfl c hc _ rfl rfl HT2c.out ?_
    clear HA
    intro V16 V16c HA hM
    (try simp only [List.cons_append, List.nil_append, List.set_cons_succ, List.set_cons_zero, Nat.reduceAdd] at hM)
    replace HM := hM
    clear hM
    refine hK _ _ ⟨(fun y => ∃ q : CW [(⟨W1.heap.size, 0, none⟩, .int .i64 tac), (⟨W1.heap.size, 1, none⟩, .slice taao tan tacap), (⟨W1.heap.size, 2, none⟩, .slice tago tagn tagc), (⟨W1.heap.size, 3, none⟩, .bool tay)], y = q.1), ⟨⟨_, (allc ((HM.out.hb 1 _ _ _ rfl).cell (k := 0) rfl) (allc ((HM.out.hb 1 _ _ _ rfl).cell (k := 1) rfl) (allc ((HM.out.hb 1 _ _ _ rfl).cell (k := 2) rfl) (allc ((HM.out.hb 1 _ _ _ rfl).cell (k := 3) rfl) (alln _)))))⟩, rfl⟩, fun _ h => h, ?_⟩
    clear hK K
    (try simp only [Act.put, List.setIfInBounds_toArray, List.set_cons_succ, List.set_cons_zero])
    refine wpQuiet_nil ?_
    refine NoPanic.normal ?_
    clear f0 f1 f2 f3 HF
    go_wp2_with fail
    obtain ⟨uac, uaao, uan, uacap, uago, uagn, uagc, uay, rfl⟩ := HU1c.out
    replace HM := Lib.hid HM.out.drew
    have HF : Hid (∀ p ∈ ([(⟨W2.heap.size, 0, none⟩, .int .i64 uac), (⟨W2.heap.size, 1, none⟩, .slice uaao uan uacap), (⟨W2.heap.size, 2, none⟩, .slice uago uagn uagc), (⟨W2.heap.size, 3, none⟩, .bool uay)] : List (Addr × Value)), World.cell? _ p.1 = some p.2) := Lib.hid (allc ((HM.out.hb 3 _ _ _ rfl).cell (k := 0) rfl) (allc ((HM.out.hb 3 _ _ _ rfl).cell (k := 1) rfl) (allc ((HM.out.hb 3 _ _ _ rfl).cell (k := 2) rfl) (allc ((HM.out.hb 3 _ _ _ rfl).cell (k := 3) rfl) (alln _)))))
    haveI : Inhabited (CW [(⟨W2.heap.size, 0, none⟩, .int .i64 uac), (⟨W2.heap.size, 1, none⟩, .slice uaao uan uacap), (⟨W2.heap.size, 2, none⟩, .slice uago uagn uagc), (⟨W2.heap.size, 3, none⟩, .bool uay)]) := ⟨⟨_, HF.out⟩⟩
    have f0 : ∀ q : CW [(⟨W2.heap.size, 0, none⟩, .int .i64 uac), (⟨W2.heap.size, 1, none⟩, .slice uaao uan uacap), (⟨W2.heap.size, 2, none⟩, .slice uago uagn uagc), (⟨W2.heap.size, 3, none⟩, .bool uay)], q.1.cell? ⟨W2.heap.size, 0, none⟩ = some (.int .i64 uac) := fun q => q.2 (⟨W2.heap.size, 0, none⟩, .int .i64 uac) (by simp)
    have f1 : ∀ q : CW [(⟨W2.heap.size, 0, none⟩, .int .i64 uac), (⟨W2.heap.size, 1, none⟩, .slice uaao uan uacap), (⟨W2.heap.size, 2, none⟩, .slice uago uagn uagc), (⟨W2.heap.size, 3, none⟩, .bool uay)], q.1.cell? ⟨W2.heap.size, 1, none⟩ = some (.slice uaao uan uacap) := fun q => q.2 (⟨W2.heap.size, 1, none⟩, .slice uaao uan uacap) (by simp)
    have f2 : ∀ q : CW [(⟨W2.heap.size, 0, none⟩, .int .i64 uac), (⟨W2.heap.size, 1, none⟩, .slice uaao uan uacap), (⟨W2.heap.size, 2, none⟩, .slice uago uagn uagc), (⟨W2.heap.size, 3, none⟩, .bool uay)], q.1.cell? ⟨W2.heap.size, 2, none⟩ = some (.slice uago uagn uagc) := fun q => q.2 (⟨W2.heap.size, 2, none⟩, .slice uago uagn uagc) (by simp)
    have f3 : ∀ q : CW [(⟨W2.heap.size, 0, none⟩, .int .i64 uac), (⟨W2.heap.size, 1, none⟩, .slice uaao uan uacap), (⟨W2.heap.size, 2, none⟩, .slice uago uagn uagc), (⟨W2.heap.size, 3, none⟩, .bool uay)], q.1.cell? ⟨W2.heap.size, 3, none⟩ = some (.bool uay) := fun q => q.2 (⟨W2.heap.size, 3, none⟩, .bool uay) (by simp)
    (try simp only [Act.put, List.setIfInBounds_toArray, List.set_cons_succ, List.set_cons_zero])
    refine wp_region_noPanic ?_
    refine wp_region_plw (.step [true, true, true, true, false, false, false, false, true, true] (.cons 4 (.step [false, false, false, false, false, true, true, true, false, false, true] (.cons 11 (.last []) .nil)) .nil)) (fun y => ∃ q : CW [(⟨W2.heap.size, 0, none⟩, .int .i64 uac), (⟨W2.heap.size, 1, none⟩, .slice uaao uan uacap), (⟨W2.heap.size, 2, none⟩, .slice uago uagn uagc), (⟨W2.heap.size, 3, none⟩, .bool uay)], y = q.1) (by kernel_rfl) (by kernel_rfl) (by kernel_rfl) (fun _ _ _ _ _ _ _ h => h) ⟨⟨_, HF.out⟩, rfl⟩ ?_
    simp only [wpPw, wpBw, selF, and_true]
    generalize V16.drew = V17 at *
    repeat (go_big_quiet_step (fail))
    refine wpQuiet_nil ?_
    refine wpOp_step rfl (fun K hK => ?_)
    go_simp
    refine (give_p _ (HM.out.nw (fun b hb => HP.out b (Nat.le_trans HMT.out.size (Nat.le_trans HM.out.size hb)))) HC4.out (HU1.out.now HM.out) y).mono ?_
    rintro e V18 ⟨⟨HU2v, rfl, hl⟩, hb⟩
    replace HM := Lib.hid (HM.out.below hb)
    replace HTm := Lib.hid (HTm.out.step HM.out)
    replace HTh := Lib.hid (HTh.out.step HM.out)
    replace HCv := Lib.hid (HCv.out.step HM.out)
    replace HD1 := Lib.hid (HD1.out.step HM.out)
    replace HD2 := Lib.hid (HD2.out.step HM.out)
    replace HT1 := Lib.hid (HT1.out.step HM.out)
    replace HU1 := Lib.hid (HU1.out.step HM.out)
    replace HCx := Lib.hid (HCx.out.step HM.out)
    replace HT2 := Lib.hid (HT2.out.step HM.out)
    replace HMT := Lib.hid (HMT.out.tr HM.out)
    replace HM := Lib.hid HM.out.re
    have HU2 := Lib.hid hl.cn
    have HU2c := Lib.hid hl.task
    clear hb hl
    refine hK _ _ ⟨(fun y => ∃ q : CW [(⟨W2.heap.size, 0, none⟩, .int .i64 uac), (⟨W2.heap.size, 1, none⟩, .slice uaao uan uacap), (⟨W2.heap.size, 2, none⟩, .slice uago uagn uagc), (⟨W2.heap.size, 3, none⟩, .bool uay)], y = q.1), ⟨⟨_, (allc ((HM.out.hb 3 _ _ _ rfl).cell (k := 0) rfl) (allc ((HM.out.hb 3 _ _ _ rfl).cell (k := 1) rfl) (allc ((HM.out.hb 3 _ _ _ rfl).cell (k := 2) rfl) (allc ((HM.out.hb 3 _ _ _ rfl).cell (k := 3) rfl) (alln _)))))⟩, rfl⟩, fun _ h => h, ?_⟩
    clear hK K
    (try simp only [Act.put, List.setIfInBounds_toArray, List.set_cons_succ, List.set_cons_zero])
    repeat (go_big_quiet_step (fail))
    refine wpQuiet_nil ?_
    refine wpOp_step rfl (fun K hK => ?_)
    rw [if_pos (by rfl)]
    refine wpOm_stH HM HA (.tmp 113) (.tmp 109) rfl rfl 0 rfl c hc _ rfl rfl HU2c.out ?_
    clear HA
    intro V19 V19c HA hM
    (try simp only [List.cons_append, List.nil_append, List.set_cons_succ, List.set_cons_zero, Nat.reduceAdd] at hM)
    replace HM := hM
    clear hM
    refine hK _ _ ⟨(fun y => ∃ q : CW [(⟨W2.heap.size, 0, none⟩, .int .i64 uac), (⟨W2.heap.size, 1, none⟩, .slice uaao uan uacap), (⟨W2.heap.size, 2, none⟩, .slice uago uagn uagc), (⟨W2.heap.size, 3, none⟩, .bool uay)], y = q.1), ⟨⟨_, (allc ((HM.out.hb 3 _ _ _ rfl).cell (k := 0) rfl) (allc ((HM.out.hb 3 _ _ _ rfl).cell (k := 1) rfl) (allc ((HM.out.hb 3 _ _ _ rfl).cell (k := 2) rfl) (allc ((HM.out.hb 3 _ _ _ rfl).cell (k := 3) rfl) (alln _)))))⟩, rfl⟩, fun _ h => h, ?_⟩
    clear hK K
    (try simp only [Act.put, List.setIfInBounds_toArray, List.set_cons_succ, List.set_cons_zero])
    refine wpQuiet_nil ?_
    refine NoPanic.normal ?_
    clear f0 f1 f2 f3 HF
    go_wp2_with (first
      | (refine wpm_ldM HM HA rfl (.tmp 119) rfl 0 rfl c hc rfl HT2v (by simp [RS.setM, RS.setH, RS.setW, upd]) HT2c.out ?_))
    refine (goes14pg _ (HM.out.nw (fun b hb => HP.out b (Nat.le_trans HMT.out.size (Nat.le_trans HM.out.size hb)))) HC4.out (HT2.out.now HM.out) k2 a2 0 v2 l2 HOk2.out HK2.out HN2.out).mono ?_
    rintro e W13 ⟨⟨T3, ao3, ac3, rfl, hl⟩, hb⟩
    replace HM := Lib.hid (HM.out.below hb)
    replace HTm := Lib.hid (HTm.out.step HM.out)
    replace HTh := Lib.hid (HTh.out.step HM.out)
    replace HCv := Lib.hid (HCv.out.step HM.out)
    replace HD1 := Lib.hid (HD1.out.step HM.out)
    replace HD2 := Lib.hid (HD2.out.step HM.out)
    replace HT1 := Lib.hid (HT1.out.step HM.out)
    replace HU1 := Lib.hid (HU1.out.step HM.out)
    replace HCx := Lib.hid (HCx.out.step HM.out)
    replace HT2 := Lib.hid (HT2.out.step HM.out)
    replace HU2 := Lib.hid (HU2.out.step HM.out)
    replace HMT := Lib.hid (HMT.out.tr HM.out)
    replace HM := Lib.hid HM.out.re
    have HT3 := Lib.hid hl.cn
    have HT3c := Lib.hid hl.task
    clear hb hl
    go_wp2_with (first
      | (refine wpm_st38 HM rfl (.tmp 7) (.tmp 122) rfl 1 rfl HT1c.out.size T3 rfl rfl HT3c.out ?_; intro W hM; (try simp only [List.cons_append, List.nil_append, List.set_cons_succ, List.set_cons_zero, Nat.reduceAdd] at hM); replace HM := hM; clear hM)
      | (refine wpm_st59 HM rfl (.tmp 8) (.tmp 123) rfl 2 rfl rfl k2 a2 0 v2 0 ao3 0 ac3 rfl rfl ?_; intro W hM; (try simp only [List.cons_append, List.nil_append, List.set_cons_succ, List.set_cons_zero, Nat.reduceAdd] at hM); replace HM := hM; clear hM)
      | (refine wpm_ldH HM HA rfl (.tmp 130) rfl 0 rfl c hc rfl HU2v (by simp [RS.setM, RS.setH, RS.setW, upd]) HU2c.out ?_))
    refine (goes14rg _ (HM.out.nw (fun b hb => HP.out b (Nat.le_trans HMT.out.size (Nat.le_trans HM.out.size hb)))) HC4.out (HU2.out.now HM.out) k2 a2 0 v2 l2 HOk2.out HK2.out HR2.out).mono ?_
    rintro e W14 ⟨⟨U3, ao4, ac4, rfl, hl⟩, hb⟩
    replace HM := Lib.hid (HM.out.below hb)
    replace HTm := Lib.hid (HTm.out.step HM.out)
    replace HTh := Lib.hid (HTh.out.step HM.out)
    replace HCv := Lib.hid (HCv.out.step HM.out)
    replace HD1 := Lib.hid (HD1.out.step HM.out)
    replace HD2 := Lib.hid (HD2.out.step HM.out)
    replace HT1 := Lib.hid (HT1.out.step HM.out)
    replace HU1 := Lib.hid (HU1.out.step HM.out)
    replace HCx := Lib.hid (HCx.out.step HM.out)
    replace HT2 := Lib.hid (HT2.out.step HM.out)
    replace HU2 := Lib.hid (HU2.out.step HM.out)
    replace HT3 := Lib.hid (HT3.out.step HM.out)
    replace HMT := Lib.hid (HMT.out.tr HM.out)
    replace HM := Lib.hid HM.out.re
    have HU3 := Lib.hid hl.cn
    have HU3c := Lib.hid hl.task
    clear hb hl
    go_wp2_with (first
      | (refine wpm_st38 HM rfl (.tmp 10) (.tmp 133) rfl 3 rfl HU1c.out.size U3 rfl rfl HU3c.out ?_; intro W hM; (try simp only [List.cons_append, List.nil_append, List.set_cons_succ, List.set_cons_zero, Nat.reduceAdd] at hM); replace HM := hM; clear hM)
      | (refine wpm_st59 HM rfl (.tmp 11) (.tmp 134) rfl 4 rfl rfl k2 a2 0 v2 0 ao4 0 ac4 rfl rfl ?_; intro W hM; (try simp only [List.cons_append, List.nil_append, List.set_cons_succ, List.set_cons_zero, Nat.reduceAdd] at hM); replace HM := hM; clear hM; have p0 := (HM.out.hb 2 _ _ _ rfl).cell (k := 0) (v := .int .i8 k2) rfl; have p1 := (HM.out.hb 2 _ _ _ rfl).cell (k := 1) (v := .int .i64 a2) rfl; have p2 := (HM.out.hb 2 _ _ _ rfl).cell (k := 2) (v := .int .i64 0) rfl; have p3 := (HM.out.hb 2 _ _ _ rfl).cell (k := 3) (v := .int .i64 v2) rfl; have p4 := (HM.out.hb 2 _ _ _ rfl).cell (k := 4) (v := .int .i64 0) rfl; have p5 := (HM.out.hb 2 _ _ _ rfl).cell (k := 5) (v := .string ByteArray.empty) rfl; have p6 := (HM.out.hb 2 _ _ _ rfl).cell (k := 6) (v := .slice ao3 0 ac3) rfl; have q0 := (HM.out.hb 4 _ _ _ rfl).cell (k := 0) (v := .int .i8 k2) rfl; have q1 := (HM.out.hb 4 _ _ _ rfl).cell (k := 1) (v := .int .i64 a2) rfl; have q2 := (HM.out.hb 4 _ _ _ rfl).cell (k := 2) (v := .int .i64 0) rfl; have q3 := (HM.out.hb 4 _ _ _ rfl).cell (k := 3) (v := .int .i64 v2) rfl; have q4 := (HM.out.hb 4 _ _ _ rfl).cell (k := 4) (v := .int .i64 0) rfl; have q5 := (HM.out.hb 4 _ _ _ rfl).cell (k := 5) (v := .string ByteArray.empty) rfl; have q6 := (HM.out.hb 4 _ _ _ rfl).cell (k := 6) (v := .slice ao4 0 ac4) rfl))
    refine (same_act k2 a2 v2 (.slice ao3 0 ac3) (.slice ao4 0 ac4) [] _ (ints0 0 _ ao3 ac3) (ints0 0 _ ao4 ac4) (by simp)).mono ?_
    rintro e W15 ⟨rfl, hb⟩
    clear p0 p1 p2 p3 p4 p5 p6 q0 q1 q2 q3 q4 q5 q6
    replace HM := Lib.hid (HM.out.below hb)
    clear hb
    go_wp2_with fail
    (try simp only [Exit.inBlock, Exit.then])
    refine bodyPost_ret (res_ttt rfl _ _ _ _ _ rfl rfl rfl) rfl ?_
    refine ⟨rfl, ?_⟩
    unfold StepE
    refine ⟨_, HT2v, HU2v, _, (HMT.out.tr HM.out).sub (fun i e hi => by match i, hi with | 0, hi => exact hi | i + 1, hi => simp at hi), HA.out, (HCx.out.mem (fun b hb => hb.2.1) HM.out).weak fun b hb _ => hb.1, ?_, ?_, (HT2.out.mem (fun b hb => hb.2.1) HM.out).weak fun b hb _ => hb.1, (HU2.out.mem (fun b hb => hb.2.1) HM.out).weak fun b hb _ => hb.1⟩
    · rw [ECv.out.2.1]; exact (HD1.out.mem (fun b hb => hb.2.1) HM.out).weak fun b hb _ => hb.1
    · rw [ECv.out.2.2]; exact (HD2.out.mem (fun b hb => hb.2.1) HM.out).weak fun b hb _ => hb.1
set_option maxHeartbeats 8000000 in
set_option maxRecDepth 100000 in
theorem step14_over {P : Nat → Prop} (c : Nat) (hc : c < 4) (R : Nat) (C : Array Value) (s : RS) (w : World) (hP : ∀ b, w.heap.size ≤ b → P b) (hPR : ∀ b, P b → b ≠ R) (hR : HB w R C 74) (hA : RunA C s) (f g f2 g2 f4 g4 : Fr) (x y : Int) (lw lw2 : List Int)
    (hTm : Live P w (s.m c) c f x) (hTh : Live P w (s.h c) c g x) (hCv : CellsV P w (s.w 0) lw) (hD1 : DiskV P w (s.w 1)) (hD2 : DiskV P w (s.w 2)) (k a v : Int) (hOk : OkA k a 0 v 0) (hk : k < 6) (k2 a2 v2 : Int) (l2 : List Int) (hOk2 : OkA k2 a2 0 v2 l2.length) (hk2 : k2 = 7)
    (hN1 : ∀ vv w, GotV w vv x → Calls Try.prog 19 #[.agg f.cells, vv] w fun e w' => AnsB w w' e f2 k a 0 v [] ∧ Below w.heap.size w w')
    (hR1 : ∀ vv w, GotV w vv x → Calls Try.prog 20 #[.agg g.cells, vv] w fun e w' => AnsB w w' e g2 k a 0 v [] ∧ Below w.heap.size w w')
    (hN2 : ∀ vv w, GotV w vv y → Calls Try.prog 19 #[.agg f2.cells, vv] w fun e w' => AnsB w w' e f4 k2 a2 0 v2 l2 ∧ Below w.heap.size w w')
    (hR2 : ∀ vv w, GotV w vv y → Calls Try.prog 20 #[.agg g2.cells, vv] w fun e w' => AnsB w w' e g4 k2 a2 0 v2 l2 ∧ Below w.heap.size w w')
    (hDo : DoC k a v y lw lw2) : Calls Try.prog 25 #[.pointer (some ⟨R, 0, none⟩), .int .i64 c] w fun e w' => ∃ ans, e = .returned (.tuple #[ans, .bool true, .bool true]) ∧ IntsP P w' ans l2 ∧ StepE P R c s f2 g2 y lw2 true w w' := by
  have HMT := Lib.hid (Mem.startR hR)
  have HM := Lib.hid HMT.out.re
  have HOL : Hid (∀ b, P b → b < w.heap.size → Cn P (OL [(R, C, 74)]) w.heap.size b) := Lib.hid (fun b hb hlt => ⟨hb, (by rintro ⟨i, C2, t2, hi⟩; match i, hi with | 0, hi => simp at hi; exact hPR b hb hi.1.symm | i + 1, hi => simp at hi), hlt⟩)
  have HP := Lib.hid hP
  have HA := Lib.hid hA
  have HTmc := Lib.hid hTm.task
  have HThc := Lib.hid hTh.task
  have HTm := Lib.hid (hTm.weak HOL.out)
  have HTh := Lib.hid (hTh.weak HOL.out)
  have HCv := Lib.hid (hCv.weak HOL.out)
  have HD1 := Lib.hid (hD1.weak HOL.out)
  have HD2 := Lib.hid (hD2.weak HOL.out)
  have HOk := Lib.hid hOk
  have HOk2 := Lib.hid hOk2
  have HL2 : Hid (l2.length ≤ 96) := Lib.hid (by rcases hOk2 with h | h | h | h <;> omega)
  have HK := Lib.hid hk
  have HK2 := Lib.hid hk2
  have HN1 := Lib.hid hN1
  have HR1 := Lib.hid hR1
  have HN2 := Lib.hid hN2
  have HR2 := Lib.hid hR2
  have HDo := Lib.hid hDo
  have hc4 : (0 : Int) ≤ (c : Int) ∧ (c : Int) < 4 := ⟨by omega, by omega⟩
  have HC4 := Lib.hid hc4
  obtain ⟨Tm, eTm⟩ : ∃ T, s.m c = T := ⟨_, rfl⟩
  obtain ⟨Th, eTh⟩ : ∃ T, s.h c = T := ⟨_, rfl⟩
  obtain ⟨cv, ecv⟩ : ∃ T, s.w 0 = T := ⟨_, rfl⟩
  obtain ⟨d1, ed1⟩ : ∃ T, s.w 1 = T := ⟨_, rfl⟩
  obtain ⟨d2, ed2⟩ : ∃ T, s.w 2 = T := ⟨_, rfl⟩
  rw [eTm] at HTm HTmc
  rw [eTh] at HTh HThc
  rw [ecv] at HCv
  rw [ed1] at HD1
  rw [ed2] at HD2
  have ETm := Lib.hid eTm
  have ETh := Lib.hid eTh
  obtain ⟨b0, o0, p0, rfl, -⟩ := HCv.out
  obtain ⟨b1, o1, p1, rfl, -⟩ := HD1.out
  obtain ⟨b2, o2, p2, rfl, -⟩ := HD2.out
  have ECv := Lib.hid (And.intro ecv (And.intro ed1 ed2))
  have HW0 : Hid (C[0]? = some (.slice (some ⟨b0, o0, none⟩) 771 p0)) := Lib.hid (by rw [HA.out.w 0 (by omega), ecv])
  have HW1 : Hid (C[1]? = some (.slice (some ⟨b1, o1, none⟩) 33 p1)) := Lib.hid (by rw [HA.out.w 1 (by omega), ed1])
  have HW2 : Hid (C[2]? = some (.slice (some ⟨b2, o2, none⟩) 33 p2)) := Lib.hid (by rw [HA.out.w 2 (by omega), ed2])
  clear hP hPR hR hA hTm hTh hCv hD1 hD2 hOk hk hOk2 hk2 hN1 hR1 hN2 hR2 hDo hc4 eTm eTh ecv ed1 ed2 HOL
  go_enter Try.func25, Try.ntmps25
  go_wp2_with (first
    | (refine wpm_ldM HM HA rfl (.tmp 21) rfl 0 rfl c hc rfl Tm ETm.out HTmc.out ?_))
  refine (goes14pg _ (HM.out.nw (fun b hb => HP.out b (Nat.le_trans HMT.out.size (Nat.le_trans HM.out.size hb)))) HC4.out (HTm.out.now HM.out) k a 0 v [] HOk.out HK.out HN1.out).mono ?_
  rintro e W1 ⟨⟨T1, ao1, ac1, rfl, hl⟩, hb⟩
  replace HM := Lib.hid (HM.out.below hb)
  replace HTm := Lib.hid (HTm.out.step HM.out)
  replace HTh := Lib.hid (HTh.out.step HM.out)
  replace HCv := Lib.hid (HCv.out.step HM.out)
  replace HD1 := Lib.hid (HD1.out.step HM.out)
  replace HD2 := Lib.hid (HD2.out.step HM.out)
  replace HMT := Lib.hid (HMT.out.tr HM.out)
  replace HM := Lib.hid HM.out.re
  have HT1 := Lib.hid hl.cn
  have HT1c := Lib.hid hl.task
  clear hb hl
  go_wp2_with (first
    | (refine wpm_al38 HM rfl rfl ?_; intro A7 hM; (try simp only [List.cons_append, List.nil_append, List.set_cons_succ, List.set_cons_zero, Nat.reduceAdd] at hM); replace HM := hM; clear hM)
    | (refine wpm_al59 HM rfl rfl ?_; intro A8 hM; (try simp only [List.cons_append, List.nil_append, List.set_cons_succ, List.set_cons_zero, Nat.reduceAdd] at hM); replace HM := hM; clear hM)
    | (refine wpm_st38 HM rfl (.tmp 7) (.tmp 24) rfl 1 rfl TaskC.zero.size T1 rfl rfl HT1c.out ?_; intro W hM; (try simp only [List.cons_append, List.nil_append, List.set_cons_succ, List.set_cons_zero, Nat.reduceAdd] at hM); replace HM := hM; clear hM)
    | (refine wpm_st59 HM rfl (.tmp 8) (.tmp 25) rfl 2 rfl rfl k a 0 v 0 ao1 0 ac1 rfl rfl ?_; intro W hM; (try simp only [List.cons_append, List.nil_append, List.set_cons_succ, List.set_cons_zero, Nat.reduceAdd] at hM); replace HM := hM; clear hM)
    | (refine wpm_ldH HM HA rfl (.tmp 32) rfl 0 rfl c hc rfl Th ETh.out HThc.out ?_))
  refine (goes14rg _ (HM.out.nw (fun b hb => HP.out b (Nat.le_trans HMT.out.size (Nat.le_trans HM.out.size hb)))) HC4.out (HTh.out.now HM.out) k a 0 v [] HOk.out HK.out HR1.out).mono ?_
  rintro e W2 ⟨⟨U1, ao2, ac2, rfl, hl⟩, hb⟩
  replace HM := Lib.hid (HM.out.below hb)
  replace HTm := Lib.hid (HTm.out.step HM.out)
  replace HTh := Lib.hid (HTh.out.step HM.out)
  replace HCv := Lib.hid (HCv.out.step HM.out)
  replace HD1 := Lib.hid (HD1.out.step HM.out)
  replace HD2 := Lib.hid (HD2.out.step HM.out)
  replace HT1 := Lib.hid (HT1.out.step HM.out)
  replace HMT := Lib.hid (HMT.out.tr HM.out)
  replace HM := Lib.hid HM.out.re
  have HU1 := Lib.hid hl.cn
  have HU1c := Lib.hid hl.task
  clear hb hl
  go_wp2_with (first
    | (refine wpm_al38 HM rfl rfl ?_; intro A10 hM; (try simp only [List.cons_append, List.nil_append, List.set_cons_succ, List.set_cons_zero, Nat.reduceAdd] at hM); replace HM := hM; clear hM)
    | (refine wpm_al59 HM rfl rfl ?_; intro A11 hM; (try simp only [List.cons_append, List.nil_append, List.set_cons_succ, List.set_cons_zero, Nat.reduceAdd] at hM); replace HM := hM; clear hM)
    | (refine wpm_st38 HM rfl (.tmp 10) (.tmp 35) rfl 3 rfl TaskC.zero.size U1 rfl rfl HU1c.out ?_; intro W hM; (try simp only [List.cons_append, List.nil_append, List.set_cons_succ, List.set_cons_zero, Nat.reduceAdd] at hM); replace HM := hM; clear hM)
    | (refine wpm_st59 HM rfl (.tmp 11) (.tmp 36) rfl 4 rfl rfl k a 0 v 0 ao2 0 ac2 rfl rfl ?_; intro W hM; (try simp only [List.cons_append, List.nil_append, List.set_cons_succ, List.set_cons_zero, Nat.reduceAdd] at hM); replace HM := hM; clear hM; have p0 := (HM.out.hb 2 _ _ _ rfl).cell (k := 0) (v := .int .i8 k) rfl; have p1 := (HM.out.hb 2 _ _ _ rfl).cell (k := 1) (v := .int .i64 a) rfl; have p2 := (HM.out.hb 2 _ _ _ rfl).cell (k := 2) (v := .int .i64 0) rfl; have p3 := (HM.out.hb 2 _ _ _ rfl).cell (k := 3) (v := .int .i64 v) rfl; have p4 := (HM.out.hb 2 _ _ _ rfl).cell (k := 4) (v := .int .i64 0) rfl; have p5 := (HM.out.hb 2 _ _ _ rfl).cell (k := 5) (v := .string ByteArray.empty) rfl; have p6 := (HM.out.hb 2 _ _ _ rfl).cell (k := 6) (v := .slice ao1 0 ac1) rfl; have q0 := (HM.out.hb 4 _ _ _ rfl).cell (k := 0) (v := .int .i8 k) rfl; have q1 := (HM.out.hb 4 _ _ _ rfl).cell (k := 1) (v := .int .i64 a) rfl; have q2 := (HM.out.hb 4 _ _ _ rfl).cell (k := 2) (v := .int .i64 0) rfl; have q3 := (HM.out.hb 4 _ _ _ rfl).cell (k := 3) (v := .int .i64 v) rfl; have q4 := (HM.out.hb 4 _ _ _ rfl).cell (k := 4) (v := .int .i64 0) rfl; have q5 := (HM.out.hb 4 _ _ _ rfl).cell (k := 5) (v := .string ByteArray.empty) rfl; have q6 := (HM.out.hb 4 _ _ _ rfl).cell (k := 6) (v := .slice ao2 0 ac2) rfl))
  refine (same_act k a v (.slice ao1 0 ac1) (.slice ao2 0 ac2) [] _ (ints0 0 _ ao1 ac1) (ints0 0 _ ao2 ac2) (by simp)).mono ?_
  rintro e W4 ⟨rfl, hb⟩
  clear p0 p1 p2 p3 p4 p5 p6 q0 q1 q2 q3 q4 q5 q6
  replace HM := Lib.hid (HM.out.below hb)
  clear hb
  go_wp2_with fail
  replace HM := Lib.hid HM.out.drew
  have HF : Hid (∀ p ∈ ([(⟨R, 0, none⟩, .slice (some ⟨b0, o0, none⟩) 771 p0), (⟨R, 1, none⟩, .slice (some ⟨b1, o1, none⟩) 33 p1), (⟨R, 2, none⟩, .slice (some ⟨b2, o2, none⟩) 33 p2), (⟨A7.heap.size, 0, none⟩, .int .i8 k), (⟨A7.heap.size, 1, none⟩, .int .i64 a), (⟨A7.heap.size, 2, none⟩, .int .i64 0), (⟨A7.heap.size, 3, none⟩, .int .i64 v), (⟨A7.heap.size, 4, none⟩, .int .i64 0), (⟨A7.heap.size, 5, none⟩, .string ByteArray.empty), (⟨A7.heap.size, 6, none⟩, .slice ao1 0 ac1)] : List (Addr × Value)), World.cell? _ p.1 = some p.2) := Lib.hid (allc ((HM.out.hb 0 _ _ _ rfl).cell (k := 0) HW0.out) (allc ((HM.out.hb 0 _ _ _ rfl).cell (k := 1) HW1.out) (allc ((HM.out.hb 0 _ _ _ rfl).cell (k := 2) HW2.out) (allc ((HM.out.hb 2 _ _ _ rfl).cell (k := 0) rfl) (allc ((HM.out.hb 2 _ _ _ rfl).cell (k := 1) rfl) (allc ((HM.out.hb 2 _ _ _ rfl).cell (k := 2) rfl) (allc ((HM.out.hb 2 _ _ _ rfl).cell (k := 3) rfl) (allc ((HM.out.hb 2 _ _ _ rfl).cell (k := 4) rfl) (allc ((HM.out.hb 2 _ _ _ rfl).cell (k := 5) rfl) (allc ((HM.out.hb 2 _ _ _ rfl).cell (k := 6) rfl) (alln _)))))))))))
  haveI : Inhabited (CW [(⟨R, 0, none⟩, .slice (some ⟨b0, o0, none⟩) 771 p0), (⟨R, 1, none⟩, .slice (some ⟨b1, o1, none⟩) 33 p1), (⟨R, 2, none⟩, .slice (some ⟨b2, o2, none⟩) 33 p2), (⟨A7.heap.size, 0, none⟩, .int .i8 k), (⟨A7.heap.size, 1, none⟩, .int .i64 a), (⟨A7.heap.size, 2, none⟩, .int .i64 0), (⟨A7.heap.size, 3, none⟩, .int .i64 v), (⟨A7.heap.size, 4, none⟩, .int .i64 0), (⟨A7.heap.size, 5, none⟩, .string ByteArray.empty), (⟨A7.heap.size, 6, none⟩, .slice ao1 0 ac1)]) := ⟨⟨_, HF.out⟩⟩
  have f0 : ∀ q : CW [(⟨R, 0, none⟩, .slice (some ⟨b0, o0, none⟩) 771 p0), (⟨R, 1, none⟩, .slice (some ⟨b1, o1, none⟩) 33 p1), (⟨R, 2, none⟩, .slice (some ⟨b2, o2, none⟩) 33 p2), (⟨A7.heap.size, 0, none⟩, .int .i8 k), (⟨A7.heap.size, 1, none⟩, .int .i64 a), (⟨A7.heap.size, 2, none⟩, .int .i64 0), (⟨A7.heap.size, 3, none⟩, .int .i64 v), (⟨A7.heap.size, 4, none⟩, .int .i64 0), (⟨A7.heap.size, 5, none⟩, .string ByteArray.empty), (⟨A7.heap.size, 6, none⟩, .slice ao1 0 ac1)], q.1.cell? ⟨R, 0, none⟩ = some (.slice (some ⟨b0, o0, none⟩) 771 p0) := fun q => q.2 (⟨R, 0, none⟩, .slice (some ⟨b0, o0, none⟩) 771 p0) (by simp)
  have f1 : ∀ q : CW [(⟨R, 0, none⟩, .slice (some ⟨b0, o0, none⟩) 771 p0), (⟨R, 1, none⟩, .slice (some ⟨b1, o1, none⟩) 33 p1), (⟨R, 2, none⟩, .slice (some ⟨b2, o2, none⟩) 33 p2), (⟨A7.heap.size, 0, none⟩, .int .i8 k), (⟨A7.heap.size, 1, none⟩, .int .i64 a), (⟨A7.heap.size, 2, none⟩, .int .i64 0), (⟨A7.heap.size, 3, none⟩, .int .i64 v), (⟨A7.heap.size, 4, none⟩, .int .i64 0), (⟨A7.heap.size, 5, none⟩, .string ByteArray.empty), (⟨A7.heap.size, 6, none⟩, .slice ao1 0 ac1)], q.1.cell? ⟨R, 1, none⟩ = some (.slice (some ⟨b1, o1, none⟩) 33 p1) := fun q => q.2 (⟨R, 1, none⟩, .slice (some ⟨b1, o1, none⟩) 33 p1) (by simp)
  have f2 : ∀ q : CW [(⟨R, 0, none⟩, .slice (some ⟨b0, o0, none⟩) 771 p0), (⟨R, 1, none⟩, .slice (some ⟨b1, o1, none⟩) 33 p1), (⟨R, 2, none⟩, .slice (some ⟨b2, o2, none⟩) 33 p2), (⟨A7.heap.size, 0, none⟩, .int .i8 k), (⟨A7.heap.size, 1, none⟩, .int .i64 a), (⟨A7.heap.size, 2, none⟩, .int .i64 0), (⟨A7.heap.size, 3, none⟩, .int .i64 v), (⟨A7.heap.size, 4, none⟩, .int .i64 0), (⟨A7.heap.size, 5, none⟩, .string ByteArray.empty), (⟨A7.heap.size, 6, none⟩, .slice ao1 0 ac1)], q.1.cell? ⟨R, 2, none⟩ = some (.slice (some ⟨b2, o2, none⟩) 33 p2) := fun q => q.2 (⟨R, 2, none⟩, .slice (some ⟨b2, o2, none⟩) 33 p2) (by simp)
  have f3 : ∀ q : CW [(⟨R, 0, none⟩, .slice (some ⟨b0, o0, none⟩) 771 p0), (⟨R, 1, none⟩, .slice (some ⟨b1, o1, none⟩) 33 p1), (⟨R, 2, none⟩, .slice (some ⟨b2, o2, none⟩) 33 p2), (⟨A7.heap.size, 0, none⟩, .int .i8 k), (⟨A7.heap.size, 1, none⟩, .int .i64 a), (⟨A7.heap.size, 2, none⟩, .int .i64 0), (⟨A7.heap.size, 3, none⟩, .int .i64 v), (⟨A7.heap.size, 4, none⟩, .int .i64 0), (⟨A7.heap.size, 5, none⟩, .string ByteArray.empty), (⟨A7.heap.size, 6, none⟩, .slice ao1 0 ac1)], q.1.cell? ⟨A7.heap.size, 0, none⟩ = some (.int .i8 k) := fun q => q.2 (⟨A7.heap.size, 0, none⟩, .int .i8 k) (by simp)
  have f4 : ∀ q : CW [(⟨R, 0, none⟩, .slice (some ⟨b0, o0, none⟩) 771 p0), (⟨R, 1, none⟩, .slice (some ⟨b1, o1, none⟩) 33 p1), (⟨R, 2, none⟩, .slice (some ⟨b2, o2, none⟩) 33 p2), (⟨A7.heap.size, 0, none⟩, .int .i8 k), (⟨A7.heap.size, 1, none⟩, .int .i64 a), (⟨A7.heap.size, 2, none⟩, .int .i64 0), (⟨A7.heap.size, 3, none⟩, .int .i64 v), (⟨A7.heap.size, 4, none⟩, .int .i64 0), (⟨A7.heap.size, 5, none⟩, .string ByteArray.empty), (⟨A7.heap.size, 6, none⟩, .slice ao1 0 ac1)], q.1.cell? ⟨A7.heap.size, 1, none⟩ = some (.int .i64 a) := fun q => q.2 (⟨A7.heap.size, 1, none⟩, .int .i64 a) (by simp)
  have f5 : ∀ q : CW [(⟨R, 0, none⟩, .slice (some ⟨b0, o0, none⟩) 771 p0), (⟨R, 1, none⟩, .slice (some ⟨b1, o1, none⟩) 33 p1), (⟨R, 2, none⟩, .slice (some ⟨b2, o2, none⟩) 33 p2), (⟨A7.heap.size, 0, none⟩, .int .i8 k), (⟨A7.heap.size, 1, none⟩, .int .i64 a), (⟨A7.heap.size, 2, none⟩, .int .i64 0), (⟨A7.heap.size, 3, none⟩, .int .i64 v), (⟨A7.heap.size, 4, none⟩, .int .i64 0), (⟨A7.heap.size, 5, none⟩, .string ByteArray.empty), (⟨A7.heap.size, 6, none⟩, .slice ao1 0 ac1)], q.1.cell? ⟨A7.heap.size, 2, none⟩ = some (.int .i64 0) := fun q => q.2 (⟨A7.heap.size, 2, none⟩, .int .i64 0) (by simp)
  have f6 : ∀ q : CW [(⟨R, 0, none⟩, .slice (some ⟨b0, o0, none⟩) 771 p0), (⟨R, 1, none⟩, .slice (some ⟨b1, o1, none⟩) 33 p1), (⟨R, 2, none⟩, .slice (some ⟨b2, o2, none⟩) 33 p2), (⟨A7.heap.size, 0, none⟩, .int .i8 k), (⟨A7.heap.size, 1, none⟩, .int .i64 a), (⟨A7.heap.size, 2, none⟩, .int .i64 0), (⟨A7.heap.size, 3, none⟩, .int .i64 v), (⟨A7.heap.size, 4, none⟩, .int .i64 0), (⟨A7.heap.size, 5, none⟩, .string ByteArray.empty), (⟨A7.heap.size, 6, none⟩, .slice ao1 0 ac1)], q.1.cell? ⟨A7.heap.size, 3, none⟩ = some (.int .i64 v) := fun q => q.2 (⟨A7.heap.size, 3, none⟩, .int .i64 v) (by simp)
  have f7 : ∀ q : CW [(⟨R, 0, none⟩, .slice (some ⟨b0, o0, none⟩) 771 p0), (⟨R, 1, none⟩, .slice (some ⟨b1, o1, none⟩) 33 p1), (⟨R, 2, none⟩, .slice (some ⟨b2, o2, none⟩) 33 p2), (⟨A7.heap.size, 0, none⟩, .int .i8 k), (⟨A7.heap.size, 1, none⟩, .int .i64 a), (⟨A7.heap.size, 2, none⟩, .int .i64 0), (⟨A7.heap.size, 3, none⟩, .int .i64 v), (⟨A7.heap.size, 4, none⟩, .int .i64 0), (⟨A7.heap.size, 5, none⟩, .string ByteArray.empty), (⟨A7.heap.size, 6, none⟩, .slice ao1 0 ac1)], q.1.cell? ⟨A7.heap.size, 4, none⟩ = some (.int .i64 0) := fun q => q.2 (⟨A7.heap.size, 4, none⟩, .int .i64 0) (by simp)
  have f8 : ∀ q : CW [(⟨R, 0, none⟩, .slice (some ⟨b0, o0, none⟩) 771 p0), (⟨R, 1, none⟩, .slice (some ⟨b1, o1, none⟩) 33 p1), (⟨R, 2, none⟩, .slice (some ⟨b2, o2, none⟩) 33 p2), (⟨A7.heap.size, 0, none⟩, .int .i8 k), (⟨A7.heap.size, 1, none⟩, .int .i64 a), (⟨A7.heap.size, 2, none⟩, .int .i64 0), (⟨A7.heap.size, 3, none⟩, .int .i64 v), (⟨A7.heap.size, 4, none⟩, .int .i64 0), (⟨A7.heap.size, 5, none⟩, .string ByteArray.empty), (⟨A7.heap.size, 6, none⟩, .slice ao1 0 ac1)], q.1.cell? ⟨A7.heap.size, 5, none⟩ = some (.string ByteArray.empty) := fun q => q.2 (⟨A7.heap.size, 5, none⟩, .string ByteArray.empty) (by simp)
  have f9 : ∀ q : CW [(⟨R, 0, none⟩, .slice (some ⟨b0, o0, none⟩) 771 p0), (⟨R, 1, none⟩, .slice (some ⟨b1, o1, none⟩) 33 p1), (⟨R, 2, none⟩, .slice (some ⟨b2, o2, none⟩) 33 p2), (⟨A7.heap.size, 0, none⟩, .int .i8 k), (⟨A7.heap.size, 1, none⟩, .int .i64 a), (⟨A7.heap.size, 2, none⟩, .int .i64 0), (⟨A7.heap.size, 3, none⟩, .int .i64 v), (⟨A7.heap.size, 4, none⟩, .int .i64 0), (⟨A7.heap.size, 5, none⟩, .string ByteArray.empty), (⟨A7.heap.size, 6, none⟩, .slice ao1 0 ac1)], q.1.cell? ⟨A7.heap.size, 6, none⟩ = some (.slice ao1 0 ac1) := fun q => q.2 (⟨A7.heap.size, 6, none⟩, .slice ao1 0 ac1) (by simp)
  (try simp only [Act.put, List.setIfInBounds_toArray, List.set_cons_succ, List.set_cons_zero])
  refine wp_region_noPanic ?_
  refine wp_region_plw (.step [true, true, true, true, true] (.cons 5 (.step [false, false, false, false, false, false, true, true, true, true] (.cons 10 (.step [] (.cons 11 (.last [false, false, false, false, false, false, false, false, false, false, false, false, true, true]) .nil)) .nil)) (.cons 10 (.step [] (.cons 5 (.step [false, false, false, false, false, false, true, true, true, true] (.cons 11 (.last [false, false, false, false, false, false, false, false, false, false, false, false, true, true]) .nil)) .nil)) .nil))) (fun y => ∃ q : CW [(⟨R, 0, none⟩, .slice (some ⟨b0, o0, none⟩) 771 p0), (⟨R, 1, none⟩, .slice (some ⟨b1, o1, none⟩) 33 p1), (⟨R, 2, none⟩, .slice (some ⟨b2, o2, none⟩) 33 p2), (⟨A7.heap.size, 0, none⟩, .int .i8 k), (⟨A7.heap.size, 1, none⟩, .int .i64 a), (⟨A7.heap.size, 2, none⟩, .int .i64 0), (⟨A7.heap.size, 3, none⟩, .int .i64 v), (⟨A7.heap.size, 4, none⟩, .int .i64 0), (⟨A7.heap.size, 5, none⟩, .string ByteArray.empty), (⟨A7.heap.size, 6, none⟩, .slice ao1 0 ac1)], y = q.1) (by kernel_rfl) (by kernel_rfl) (by kernel_rfl) (fun _ _ _ _ _ _ _ h => h) ⟨⟨_, HF.out⟩, rfl⟩ ?_
  simp only [wpPw, wpBw, selF, and_true]
  generalize W4.drew = V20 at *
  repeat (go_big_quiet_step (fail))
  refine wpQuiet_nil ?_
  refine ⟨?_, ?_⟩
  · refine wpOp_step rfl (fun K hK => ?_)
    go_simp
    refine (HDo.out _ _ _ _ _ ao1 ac1 (HM.out.nw (fun b hb => HP.out b (Nat.le_trans HMT.out.size (Nat.le_trans HM.out.size hb)))) (HCv.out.now HM.out) (HD1.out.now HM.out) (HD2.out.now HM.out)).mono ?_
    rintro e V21 ⟨⟨cv2, rfl, hcv⟩, hb⟩
    replace HM := Lib.hid (HM.out.below hb)
    replace HTm := Lib.hid (HTm.out.step HM.out)
    replace HTh := Lib.hid (HTh.out.step HM.out)
    replace HCv := Lib.hid (HCv.out.step HM.out)
    replace HD1 := Lib.hid (HD1.out.step HM.out)
    replace HD2 := Lib.hid (HD2.out.step HM.out)
    replace HT1 := Lib.hid (HT1.out.step HM.out)
    replace HU1 := Lib.hid (HU1.out.step HM.out)
    replace HMT := Lib.hid (HMT.out.tr HM.out)
    replace HM := Lib.hid HM.out.re
    clear hb
    have HCx := Lib.hid hcv.cn
    obtain ⟨b3, o3, p3, rfl, -⟩ := hcv
    refine hK _ _ ⟨(fun y => ∃ q : CW [(⟨R, 0, none⟩, .slice (some ⟨b0, o0, none⟩) 771 p0), (⟨R, 1, none⟩, .slice (some ⟨b1, o1, none⟩) 33 p1), (⟨R, 2, none⟩, .slice (some ⟨b2, o2, none⟩) 33 p2), (⟨A7.heap.size, 0, none⟩, .int .i8 k), (⟨A7.heap.size, 1, none⟩, .int .i64 a), (⟨A7.heap.size, 2, none⟩, .int .i64 0), (⟨A7.heap.size, 3, none⟩, .int .i64 v), (⟨A7.heap.size, 4, none⟩, .int .i64 0), (⟨A7.heap.size, 5, none⟩, .string ByteArray.empty), (⟨A7.heap.size, 6, none⟩, .slice ao1 0 ac1)], y = q.1), ⟨⟨_, (allc ((HM.out.hb 0 _ _ _ rfl).cell (k := 0) HW0.out) (allc ((HM.out.hb 0 _ _ _ rfl).cell (k := 1) HW1.out) (allc ((HM.out.hb 0 _ _ _ rfl).cell (k := 2) HW2.out) (allc ((HM.out.hb 2 _ _ _ rfl).cell (k := 0) rfl) (allc ((HM.out.hb 2 _ _ _ rfl).cell (k := 1) rfl) (allc ((HM.out.hb 2 _ _ _ rfl).cell (k := 2) rfl) (allc ((HM.out.hb 2 _ _ _ rfl).cell (k := 3) rfl) (allc ((HM.out.hb 2 _ _ _ rfl).cell (k := 4) rfl) (allc ((HM.out.hb 2 _ _ _ rfl).cell (k := 5) rfl) (allc ((HM.out.hb 2 _ _ _ rfl).cell (k := 6) rfl) (alln _)))))))))))⟩, rfl⟩, fun _ h => h, ?_⟩
    clear hK K
    (try simp only [Act.put, List.setIfInBounds_toArray, List.set_cons_succ, List.set_cons_zero])
    repeat (go_big_quiet_step (fail))
    refine wpQuiet_nil ?_
    refine wpOp_step rfl (fun K hK => ?_)
    rw [if_pos (by rfl)]
    refine wpOm_al HM 35 rfl 13 rfl _ zer35 ?_
    intro V22 hM
    (try simp only [List.cons_append, List.nil_append, List.set_cons_succ, List.set_cons_zero, Nat.reduceAdd] at hM)
    replace HM := hM
    clear hM
    refine hK _ _ ⟨(fun y => ∃ q : CW [(⟨R, 0, none⟩, .slice (some ⟨b0, o0, none⟩) 771 p0), (⟨R, 1, none⟩, .slice (some ⟨b1, o1, none⟩) 33 p1), (⟨R, 2, none⟩, .slice (some ⟨b2, o2, none⟩) 33 p2), (⟨A7.heap.size, 0, none⟩, .int .i8 k), (⟨A7.heap.size, 1, none⟩, .int .i64 a), (⟨A7.heap.size, 2, none⟩, .int .i64 0), (⟨A7.heap.size, 3, none⟩, .int .i64 v), (⟨A7.heap.size, 4, none⟩, .int .i64 0), (⟨A7.heap.size, 5, none⟩, .string ByteArray.empty), (⟨A7.heap.size, 6, none⟩, .slice ao1 0 ac1)], y = q.1), ⟨⟨_, (allc ((HM.out.hb 0 _ _ _ rfl).cell (k := 0) HW0.out) (allc ((HM.out.hb 0 _ _ _ rfl).cell (k := 1) HW1.out) (allc ((HM.out.hb 0 _ _ _ rfl).cell (k := 2) HW2.out) (allc ((HM.out.hb 2 _ _ _ rfl).cell (k := 0) rfl) (allc ((HM.out.hb 2 _ _ _ rfl).cell (k := 1) rfl) (allc ((HM.out.hb 2 _ _ _ rfl).cell (k := 2) rfl) (allc ((HM.out.hb 2 _ _ _ rfl).cell (k := 3) rfl) (allc ((HM.out.hb 2 _ _ _ rfl).cell (k := 4) rfl) (allc ((HM.out.hb 2 _ _ _ rfl).cell (k := 5) rfl) (allc ((HM.out.hb 2 _ _ _ rfl).cell (k := 6) rfl) (alln _)))))))))))⟩, rfl⟩, fun _ h => h, ?_⟩
    clear hK K
    (try simp only [Act.put, List.setIfInBounds_toArray, List.set_cons_succ, List.set_cons_zero])
    refine wpQuiet_nil ?_
    refine wpOp_step rfl (fun K hK => ?_)
    rw [if_pos (by rfl)]
    refine wpOm_st HM 35 (.tmp 13) (.tmp 83) rfl rfl 5 rfl #[.slice (some ⟨b3, o3, none⟩) 771 p3, .slice (some ⟨b1, o1, none⟩) 33 p1, .slice (some ⟨b2, o2, none⟩) 33 p2] rfl rfl 3 inf35 rfl rfl (w35_one _ _ _ _ _ _ _ _ _) ?_
    intro V23 hM
    (try simp only [List.cons_append, List.nil_append, List.set_cons_succ, List.set_cons_zero, Nat.reduceAdd] at hM)
    replace HM := hM
    clear hM
    refine hK _ _ ⟨(fun y => ∃ q : CW [(⟨R, 0, none⟩, .slice (some ⟨b0, o0, none⟩) 771 p0), (⟨R, 1, none⟩, .slice (some ⟨b1, o1, none⟩) 33 p1), (⟨R, 2, none⟩, .slice (some ⟨b2, o2, none⟩) 33 p2), (⟨A7.heap.size, 0, none⟩, .int .i8 k), (⟨A7.heap.size, 1, none⟩, .int .i64 a), (⟨A7.heap.size, 2, none⟩, .int .i64 0), (⟨A7.heap.size, 3, none⟩, .int .i64 v), (⟨A7.heap.size, 4, none⟩, .int .i64 0), (⟨A7.heap.size, 5, none⟩, .string ByteArray.empty), (⟨A7.heap.size, 6, none⟩, .slice ao1 0 ac1)], y = q.1), ⟨⟨_, (allc ((HM.out.hb 0 _ _ _ rfl).cell (k := 0) HW0.out) (allc ((HM.out.hb 0 _ _ _ rfl).cell (k := 1) HW1.out) (allc ((HM.out.hb 0 _ _ _ rfl).cell (k := 2) HW2.out) (allc ((HM.out.hb 2 _ _ _ rfl).cell (k := 0) rfl) (allc ((HM.out.hb 2 _ _ _ rfl).cell (k := 1) rfl) (allc ((HM.out.hb 2 _ _ _ rfl).cell (k := 2) rfl) (allc ((HM.out.hb 2 _ _ _ rfl).cell (k := 3) rfl) (allc ((HM.out.hb 2 _ _ _ rfl).cell (k := 4) rfl) (allc ((HM.out.hb 2 _ _ _ rfl).cell (k := 5) rfl) (allc ((HM.out.hb 2 _ _ _ rfl).cell (k := 6) rfl) (alln _)))))))))))⟩, rfl⟩, fun _ h => h, ?_⟩
    clear hK K
    (try simp only [Act.put, List.setIfInBounds_toArray, List.set_cons_succ, List.set_cons_zero])
    repeat (go_big_quiet_step (fail))
    refine wpQuiet_nil ?_
    refine NoPanic.normal ?_
    clear f0 f1 f2 f3 f4 f5 f6 f7 f8 f9 HF
    go_wp2_with (first
      | (refine wpm_ld35 HM rfl (.tmp 13) rfl 5 rfl rfl rfl ?_)
      | (refine wpm_stW HM HA rfl (.tmp 91) (.tmp 89) rfl 0 rfl _ _ _ _ _ _ _ _ _ rfl rfl (fun j => if j = 0 then .slice (some ⟨b3, o3, none⟩) 771 p3 else s.w j) rfl ECv.out.2.1 ECv.out.2.2 ?_; clear HA HW0 HW1 HW2; intro W11 C11 HA hM; (try simp only [List.cons_append, List.nil_append, List.set_cons_succ, List.set_cons_zero, Nat.reduceAdd] at hM); replace HM := hM; clear hM))
    obtain ⟨tac, taao, tan, tacap, tago, tagn, tagc, tay, rfl⟩ := HT1c.out
    replace HM := Lib.hid HM.out.drew
    have HF : Hid (∀ p ∈ ([(⟨W1.heap.size, 0, none⟩, .int .i64 tac), (⟨W1.heap.size, 1, none⟩, .slice taao tan tacap), (⟨W1.heap.size, 2, none⟩, .slice tago tagn tagc), (⟨W1.heap.size, 3, none⟩, .bool tay)] : List (Addr × Value)), World.cell? _ p.1 = some p.2) := Lib.hid (allc ((HM.out.hb 1 _ _ _ rfl).cell (k := 0) rfl) (allc ((HM.out.hb 1 _ _ _ rfl).cell (k := 1) rfl) (allc ((HM.out.hb 1 _ _ _ rfl).cell (k := 2) rfl) (allc ((HM.out.hb 1 _ _ _ rfl).cell (k := 3) rfl) (alln _)))))
    haveI : Inhabited (CW [(⟨W1.heap.size, 0, none⟩, .int .i64 tac), (⟨W1.heap.size, 1, none⟩, .slice taao tan tacap), (⟨W1.heap.size, 2, none⟩, .slice tago tagn tagc), (⟨W1.heap.size, 3, none⟩, .bool tay)]) := ⟨⟨_, HF.out⟩⟩
    have f0 : ∀ q : CW [(⟨W1.heap.size, 0, none⟩, .int .i64 tac), (⟨W1.heap.size, 1, none⟩, .slice taao tan tacap), (⟨W1.heap.size, 2, none⟩, .slice tago tagn tagc), (⟨W1.heap.size, 3, none⟩, .bool tay)], q.1.cell? ⟨W1.heap.size, 0, none⟩ = some (.int .i64 tac) := fun q => q.2 (⟨W1.heap.size, 0, none⟩, .int .i64 tac) (by simp)
    have f1 : ∀ q : CW [(⟨W1.heap.size, 0, none⟩, .int .i64 tac), (⟨W1.heap.size, 1, none⟩, .slice taao tan tacap), (⟨W1.heap.size, 2, none⟩, .slice tago tagn tagc), (⟨W1.heap.size, 3, none⟩, .bool tay)], q.1.cell? ⟨W1.heap.size, 1, none⟩ = some (.slice taao tan tacap) := fun q => q.2 (⟨W1.heap.size, 1, none⟩, .slice taao tan tacap) (by simp)
    have f2 : ∀ q : CW [(⟨W1.heap.size, 0, none⟩, .int .i64 tac), (⟨W1.heap.size, 1, none⟩, .slice taao tan tacap), (⟨W1.heap.size, 2, none⟩, .slice tago tagn tagc), (⟨W1.heap.size, 3, none⟩, .bool tay)], q.1.cell? ⟨W1.heap.size, 2, none⟩ = some (.slice tago tagn tagc) := fun q => q.2 (⟨W1.heap.size, 2, none⟩, .slice tago tagn tagc) (by simp)
    have f3 : ∀ q : CW [(⟨W1.heap.size, 0, none⟩, .int .i64 tac), (⟨W1.heap.size, 1, none⟩, .slice taao tan tacap), (⟨W1.heap.size, 2, none⟩, .slice tago tagn tagc), (⟨W1.heap.size, 3, none⟩, .bool tay)], q.1.cell? ⟨W1.heap.size, 3, none⟩ = some (.bool tay) := fun q => q.2 (⟨W1.heap.size, 3, none⟩, .bool tay) (by simp)
    (try simp only [Act.put, List.setIfInBounds_toArray, List.set_cons_succ, List.set_cons_zero])
    refine wp_region_noPanic ?_
    refine wp_region_plw (.step [true, true, true, true, false, false, false, false, true, true] (.cons 4 (.step [false, false, false, false, false, true, true, true, false, false, true] (.cons 11 (.last []) .nil)) .nil)) (fun y => ∃ q : CW [(⟨W1.heap.size, 0, none⟩, .int .i64 tac), (⟨W1.heap.size, 1, none⟩, .slice taao tan tacap), (⟨W1.heap.size, 2, none⟩, .slice tago tagn tagc), (⟨W1.heap.size, 3, none⟩, .bool tay)], y = q.1) (by kernel_rfl) (by kernel_rfl) (by kernel_rfl) (fun _ _ _ _ _ _ _ h => h) ⟨⟨_, HF.out⟩, rfl⟩ ?_
    simp only [wpPw, wpBw, selF, and_true]
    generalize W11.drew = V24 at *
    repeat (go_big_quiet_step (fail))
    refine wpQuiet_nil ?_
    refine wpOp_step rfl (fun K hK => ?_)
    go_simp
    refine (give_p _ (HM.out.nw (fun b hb => HP.out b (Nat.le_trans HMT.out.size (Nat.le_trans HM.out.size hb)))) HC4.out (HT1.out.now HM.out) y).mono ?_
    rintro e V25 ⟨⟨HT2v, rfl, hl⟩, hb⟩
    replace HM := Lib.hid (HM.out.below hb)
    replace HTm := Lib.hid (HTm.out.step HM.out)
    replace HTh := Lib.hid (HTh.out.step HM.out)
    replace HCv := Lib.hid (HCv.out.step HM.out)
    replace HD1 := Lib.hid (HD1.out.step HM.out)
    replace HD2 := Lib.hid (HD2.out.step HM.out)
    replace HT1 := Lib.hid (HT1.out.step HM.out)
    replace HU1 := Lib.hid (HU1.out.step HM.out)
    replace HCx := Lib.hid (HCx.out.step HM.out)
    replace HMT := Lib.hid (HMT.out.tr HM.out)
    replace HM := Lib.hid HM.out.re
    have HT2 := Lib.hid hl.cn
    have HT2c := Lib.hid hl.task
    clear hb hl
    refine hK _ _ ⟨(fun y => ∃ q : CW [(⟨W1.heap.size, 0, none⟩, .int .i64 tac), (⟨W1.heap.size, 1, none⟩, .slice taao tan tacap), (⟨W1.heap.size, 2, none⟩, .slice tago tagn tagc), (⟨W1.heap.size, 3, none⟩, .bool tay)], y = q.1), ⟨⟨_, (allc ((HM.out.hb 1 _ _ _ rfl).cell (k := 0) rfl) (allc ((HM.out.hb 1 _ _ _ rfl).cell (k := 1) rfl) (allc ((HM.out.hb 1 _ _ _ rfl).cell (k := 2) rfl) (allc ((HM.out.hb 1 _ _ _ rfl).cell (k := 3) rfl) (alln _)))))⟩, rfl⟩, fun _ h => h, ?_⟩
    clear hK K
    (try simp only [Act.put, List.setIfInBounds_toArray, List.set_cons_succ, List.set_cons_zero])
    repeat (go_big_quiet_step (fail))
    refine wpQuiet_nil ?_
    refine wpOp_step rfl (fun K hK => ?_)
    rw [if_pos (by rfl)]
    refine wpOm_stM HM HA (.tmp 102) (.tmp 98) rfl rfl 0 rfl c hc _ rfl rfl HT2c.out ?_
    clear HA
    intro V26 V26c HA hM
    (try simp only [List.cons_append, List.nil_append, List.set_cons_succ, List.set_cons_zero, Nat.reduceAdd] at hM)
    replace HM := hM
    clear hM
    refine hK _ _ ⟨(fun y => ∃ q : CW [(⟨W1.heap.size, 0, none⟩, .int .i64 tac), (⟨W1.heap.size, 1, none⟩, .slice taao tan tacap), (⟨W1.heap.size, 2, none⟩, .slice tago tagn tagc), (⟨W1.heap.size, 3, none⟩, .bool tay)], y = q.1), ⟨⟨_, (allc ((HM.out.hb 1 _ _ _ rfl).cell (k := 0) rfl) (allc ((HM.out.hb 1 _ _ _ rfl).cell (k := 1) rfl) (allc ((HM.out.hb 1 _ _ _ rfl).cell (k := 2) rfl) (allc ((HM.out.hb 1 _ _ _ rfl).cell (k := 3) rfl) (alln _)))))⟩, rfl⟩, fun _ h => h, ?_⟩
    clear hK K
    (try simp only [Act.put, List.setIfInBounds_toArray, List.set_cons_succ, List.set_cons_zero])
    refine wpQuiet_nil ?_
    refine NoPanic.normal ?_
    clear f0 f1 f2 f3 HF
    go_wp2_with fail
    obtain ⟨uac, uaao, uan, uacap, uago, uagn, uagc, uay, rfl⟩ := HU1c.out
    replace HM := Lib.hid HM.out.drew
    have HF : Hid (∀ p ∈ ([(⟨W2.heap.size, 0, none⟩, .int .i64 uac), (⟨W2.heap.size, 1, none⟩, .slice uaao uan uacap), (⟨W2.heap.size, 2, none⟩, .slice uago uagn uagc), (⟨W2.heap.size, 3, none⟩, .bool uay)] : List (Addr × Value)), World.cell? _ p.1 = some p.2) := Lib.hid (allc ((HM.out.hb 3 _ _ _ rfl).cell (k := 0) rfl) (allc ((HM.out.hb 3 _ _ _ rfl).cell (k := 1) rfl) (allc ((HM.out.hb 3 _ _ _ rfl).cell (k := 2) rfl) (allc ((HM.out.hb 3 _ _ _ rfl).cell (k := 3) rfl) (alln _)))))
    haveI : Inhabited (CW [(⟨W2.heap.size, 0, none⟩, .int .i64 uac), (⟨W2.heap.size, 1, none⟩, .slice uaao uan uacap), (⟨W2.heap.size, 2, none⟩, .slice uago uagn uagc), (⟨W2.heap.size, 3, none⟩, .bool uay)]) := ⟨⟨_, HF.out⟩⟩
    have f0 : ∀ q : CW [(⟨W2.heap.size, 0, none⟩, .int .i64 uac), (⟨W2.heap.size, 1, none⟩, .slice uaao uan uacap), (⟨W2.heap.size, 2, none⟩, .slice uago uagn uagc), (⟨W2.heap.size, 3, none⟩, .bool uay)], q.1.cell? ⟨W2.heap.size, 0, none⟩ = some (.int .i64 uac) := fun q => q.2 (⟨W2.heap.size, 0, none⟩, .int .i64 uac) (by simp)
    have f1 : ∀ q : CW [(⟨W2.heap.size, 0, none⟩, .int .i64 uac), (⟨W2.heap.size, 1, none⟩, .slice uaao uan uacap), (⟨W2.heap.size, 2, none⟩, .slice uago uagn uagc), (⟨W2.heap.size, 3, none⟩, .bool uay)], q.1.cell? ⟨W2.heap.size, 1, none⟩ = some (.slice uaao uan uacap) := fun q => q.2 (⟨W2.heap.size, 1, none⟩, .slice uaao uan uacap) (by simp)
    have f2 : ∀ q : CW [(⟨W2.heap.size, 0, none⟩, .int .i64 uac), (⟨W2.heap.size, 1, none⟩, .slice uaao uan uacap), (⟨W2.heap.size, 2, none⟩, .slice uago uagn uagc), (⟨W2.heap.size, 3, none⟩, .bool uay)], q.1.cell? ⟨W2.heap.size, 2, none⟩ = some (.slice uago uagn uagc) := fun q => q.2 (⟨W2.heap.size, 2, none⟩, .slice uago uagn uagc) (by simp)
    have f3 : ∀ q : CW [(⟨W2.heap.size, 0, none⟩, .int .i64 uac), (⟨W2.heap.size, 1, none⟩, .slice uaao uan uacap), (⟨W2.heap.size, 2, none⟩, .slice uago uagn uagc), (⟨W2.heap.size, 3, none⟩, .bool uay)], q.1.cell? ⟨W2.heap.size, 3, none⟩ = some (.bool uay) := fun q => q.2 (⟨W2.heap.size, 3, none⟩, .bool uay) (by simp)
    (try simp only [Act.put, List.setIfInBounds_toArray, List.set_cons_succ, List.set_cons_zero])
    refine wp_region_noPanic ?_
    refine wp_region_plw (.step [true, true, true, true, false, false, false, false, true, true] (.cons 4 (.step [false, false, false, false, false, true, true, true, false, false, true] (.cons 11 (.last []) .nil)) .nil)) (fun y => ∃ q : CW [(⟨W2.heap.size, 0, none⟩, .int .i64 uac), (⟨W2.heap.size, 1, none⟩, .slice uaao uan uacap), (⟨W2.heap.size, 2, none⟩, .slice uago uagn uagc), (⟨W2.heap.size, 3, none⟩, .bool uay)], y = q.1) (by kernel_rfl) (by kernel_rfl) (by kernel_rfl) (fun _ _ _ _ _ _ _ h => h) ⟨⟨_, HF.out⟩, rfl⟩ ?_
    simp only [wpPw, wpBw, selF, and_true]
    generalize V26.drew = V27 at *
    repeat (go_big_quiet_step (fail))
    refine wpQuiet_nil ?_
    refine wpOp_step rfl (fun K hK => ?_)
    go_simp
    refine (give_p _ (HM.out.nw (fun b hb => HP.out b (Nat.le_trans HMT.out.size (Nat.le_trans HM.out.size hb)))) HC4.out (HU1.out.now HM.out) y).mono ?_
    rintro e V28 ⟨⟨HU2v, rfl, hl⟩, hb⟩
    replace HM := Lib.hid (HM.out.below hb)
    replace HTm := Lib.hid (HTm.out.step HM.out)
    replace HTh := Lib.hid (HTh.out.step HM.out)
    replace HCv := Lib.hid (HCv.out.step HM.out)
    replace HD1 := Lib.hid (HD1.out.step HM.out)
    replace HD2 := Lib.hid (HD2.out.step HM.out)
    replace HT1 := Lib.hid (HT1.out.step HM.out)
    replace HU1 := Lib.hid (HU1.out.step HM.out)
    replace HCx := Lib.hid (HCx.out.step HM.out)
    replace HT2 := Lib.hid (HT2.out.step HM.out)
    replace HMT := Lib.hid (HMT.out.tr HM.out)
    replace HM := Lib.hid HM.out.re
    have HU2 := Lib.hid hl.cn
    have HU2c := Lib.hid hl.task
    clear hb hl
    refine hK _ _ ⟨(fun y => ∃ q : CW [(⟨W2.heap.size, 0, none⟩, .int .i64 uac), (⟨W2.heap.size, 1, none⟩, .slice uaao uan uacap), (⟨W2.heap.size, 2, none⟩, .slice uago uagn uagc), (⟨W2.heap.size, 3, none⟩, .bool uay)], y = q.1), ⟨⟨_, (allc ((HM.out.hb 3 _ _ _ rfl).cell (k := 0) rfl) (allc ((HM.out.hb 3 _ _ _ rfl).cell (k := 1) rfl) (allc ((HM.out.hb 3 _ _ _ rfl).cell (k := 2) rfl) (allc ((HM.out.hb 3 _ _ _ rfl).cell (k := 3) rfl) (alln _)))))⟩, rfl⟩, fun _ h => h, ?_⟩
    clear hK K
    (try simp only [Act.put, List.setIfInBounds_toArray, List.set_cons_succ, List.set_cons_zero])
    repeat (go_big_quiet_step (fail))
    refine wpQuiet_nil ?_
    refine wpOp_step rfl (fun K hK => ?_)
    rw [if_pos (by rfl)]
    refine wpOm_stH HM HA (.tmp 113) (.tmp 109) rfl rfl 0 rfl c hc _ rfl rfl HU2c.out ?_
    clear HA
    intro V29 V29c HA hM
    (try simp only [List.cons_append, List.nil_append, List.set_cons_succ, List.set_cons_zero, Nat.reduceAdd] at hM)
    replace HM := hM
    clear hM
    refine hK _ _ ⟨(fun y => ∃ q : CW [(⟨W2.heap.size, 0, none⟩, .int .i64 uac), (⟨W2.heap.size, 1, none⟩, .slice uaao uan uacap), (⟨W2.heap.size, 2, none⟩, .slice uago uagn uagc), (⟨W2.heap.size, 3, none⟩, .bool uay)], y = q.1), ⟨⟨_, (allc ((HM.out.hb 3 _ _ _ rfl).cell (k := 0) rfl) (allc ((HM.out.hb 3 _ _ _ rfl).cell (k := 1) rfl) (allc ((HM.out.hb 3 _ _ _ rfl).cell (k := 2) rfl) (allc ((HM.out.hb 3 _ _ _ rfl).cell (k := 3) rfl) (alln _)))))⟩, rfl⟩, fun _ h => h, ?_⟩
    clear hK K
    (try simp only [Act.put, List.setIfInBounds_toArray, List.set_cons_succ, List.set_cons_zero])
    refine wpQuiet_nil ?_
    refine NoPanic.normal ?_
    clear f0 f1 f2 f3 HF
    go_wp2_with (first
      | (refine wpm_ldM HM HA rfl (.tmp 119) rfl 0 rfl c hc rfl HT2v (by simp [RS.setM, RS.setH, RS.setW, upd]) HT2c.out ?_))
    refine (goes14pe _ (HM.out.nw (fun b hb => HP.out b (Nat.le_trans HMT.out.size (Nat.le_trans HM.out.size hb)))) HC4.out (HT2.out.now HM.out) k2 a2 0 v2 l2 HOk2.out HK2.out HN2.out).mono ?_
    rintro e W13 ⟨⟨T3, rfl, hl⟩, hb⟩
    replace HM := Lib.hid (HM.out.below hb)
    replace HTm := Lib.hid (HTm.out.step HM.out)
    replace HTh := Lib.hid (HTh.out.step HM.out)
    replace HCv := Lib.hid (HCv.out.step HM.out)
    replace HD1 := Lib.hid (HD1.out.step HM.out)
    replace HD2 := Lib.hid (HD2.out.step HM.out)
    replace HT1 := Lib.hid (HT1.out.step HM.out)
    replace HU1 := Lib.hid (HU1.out.step HM.out)
    replace HCx := Lib.hid (HCx.out.step HM.out)
    replace HT2 := Lib.hid (HT2.out.step HM.out)
    replace HU2 := Lib.hid (HU2.out.step HM.out)
    replace HMT := Lib.hid (HMT.out.tr HM.out)
    replace HM := Lib.hid HM.out.re
    have HT3 := Lib.hid hl.cn
    have HT3c := Lib.hid hl.task
    clear hb hl
    go_wp2_with (first
      | (refine wpm_st38 HM rfl (.tmp 7) (.tmp 122) rfl 1 rfl HT1c.out.size T3 rfl rfl HT3c.out ?_; intro W hM; (try simp only [List.cons_append, List.nil_append, List.set_cons_succ, List.set_cons_zero, Nat.reduceAdd] at hM); replace HM := hM; clear hM)
      | (refine wpm_st59 HM rfl (.tmp 8) (.tmp 123) rfl 2 rfl rfl 0 0 0 0 0 none 0 0 rfl rfl ?_; intro W hM; (try simp only [List.cons_append, List.nil_append, List.set_cons_succ, List.set_cons_zero, Nat.reduceAdd] at hM); replace HM := hM; clear hM)
      | (refine wpm_ldH HM HA rfl (.tmp 130) rfl 0 rfl c hc rfl HU2v (by simp [RS.setM, RS.setH, RS.setW, upd]) HU2c.out ?_))
    refine (goes14re _ (HM.out.nw (fun b hb => HP.out b (Nat.le_trans HMT.out.size (Nat.le_trans HM.out.size hb)))) HC4.out (HU2.out.now HM.out) k2 a2 0 v2 l2 HOk2.out HK2.out HR2.out).mono ?_
    rintro e W14 ⟨⟨U3, rfl, hl⟩, hb⟩
    replace HM := Lib.hid (HM.out.below hb)
    replace HTm := Lib.hid (HTm.out.step HM.out)
    replace HTh := Lib.hid (HTh.out.step HM.out)
    replace HCv := Lib.hid (HCv.out.step HM.out)
    replace HD1 := Lib.hid (HD1.out.step HM.out)
    replace HD2 := Lib.hid (HD2.out.step HM.out)
    replace HT1 := Lib.hid (HT1.out.step HM.out)
    replace HU1 := Lib.hid (HU1.out.step HM.out)
    replace HCx := Lib.hid (HCx.out.step HM.out)
    replace HT2 := Lib.hid (HT2.out.step HM.out)
    replace HU2 := Lib.hid (HU2.out.step HM.out)
    replace HT3 := Lib.hid (HT3.out.step HM.out)
    replace HMT := Lib.hid (HMT.out.tr HM.out)
    replace HM := Lib.hid HM.out.re
    have HU3 := Lib.hid hl.cn
    have HU3c := Lib.hid hl.task
    clear hb hl
    go_wp2_with (first
      | (refine wpm_st38 HM rfl (.tmp 10) (.tmp 133) rfl 3 rfl HU1c.out.size U3 rfl rfl HU3c.out ?_; intro W hM; (try simp only [List.cons_append, List.nil_append, List.set_cons_succ, List.set_cons_zero, Nat.reduceAdd] at hM); replace HM := hM; clear hM)
      | (refine wpm_st59 HM rfl (.tmp 11) (.tmp 134) rfl 4 rfl rfl 0 0 0 0 0 none 0 0 rfl rfl ?_; intro W hM; (try simp only [List.cons_append, List.nil_append, List.set_cons_succ, List.set_cons_zero, Nat.reduceAdd] at hM); replace HM := hM; clear hM)
      | (refine wpm_stB HM HA rfl (.tmp 153) (.const (.bool false)) rfl 0 rfl c hc false rfl rfl ?_; clear HA; intro W20 C20 HA hM; (try simp only [List.cons_append, List.nil_append, List.set_cons_succ, List.set_cons_zero, Nat.reduceAdd] at hM); replace HM := hM; clear hM))
    obtain ⟨sa, sc, gv, rfl, ga, gc, rfl, -⟩ := HT3.out
    obtain ⟨sb, sd, gw, rfl, gb, gd, rfl, -⟩ := HU3.out
    replace HM := Lib.hid HM.out.drew
    have HF : Hid (∀ p ∈ ([(⟨W1.heap.size, 0, none⟩, .int .i64 c), (⟨W1.heap.size, 1, none⟩, .slice sa 0 sc), (⟨W1.heap.size, 2, none⟩, .slice ga l2.length gc), (⟨W1.heap.size, 3, none⟩, .bool true), (⟨W2.heap.size, 0, none⟩, .int .i64 c), (⟨W2.heap.size, 1, none⟩, .slice sb 0 sd), (⟨W2.heap.size, 2, none⟩, .slice gb l2.length gd), (⟨W2.heap.size, 3, none⟩, .bool true)] : List (Addr × Value)), World.cell? _ p.1 = some p.2) := Lib.hid (allc ((HM.out.hb 1 _ _ _ rfl).cell (k := 0) rfl) (allc ((HM.out.hb 1 _ _ _ rfl).cell (k := 1) rfl) (allc ((HM.out.hb 1 _ _ _ rfl).cell (k := 2) rfl) (allc ((HM.out.hb 1 _ _ _ rfl).cell (k := 3) rfl) (allc ((HM.out.hb 3 _ _ _ rfl).cell (k := 0) rfl) (allc ((HM.out.hb 3 _ _ _ rfl).cell (k := 1) rfl) (allc ((HM.out.hb 3 _ _ _ rfl).cell (k := 2) rfl) (allc ((HM.out.hb 3 _ _ _ rfl).cell (k := 3) rfl) (alln _)))))))))
    haveI : Inhabited (CW [(⟨W1.heap.size, 0, none⟩, .int .i64 c), (⟨W1.heap.size, 1, none⟩, .slice sa 0 sc), (⟨W1.heap.size, 2, none⟩, .slice ga l2.length gc), (⟨W1.heap.size, 3, none⟩, .bool true), (⟨W2.heap.size, 0, none⟩, .int .i64 c), (⟨W2.heap.size, 1, none⟩, .slice sb 0 sd), (⟨W2.heap.size, 2, none⟩, .slice gb l2.length gd), (⟨W2.heap.size, 3, none⟩, .bool true)]) := ⟨⟨_, HF.out⟩⟩
    have f0 : ∀ q : CW [(⟨W1.heap.size, 0, none⟩, .int .i64 c), (⟨W1.heap.size, 1, none⟩, .slice sa 0 sc), (⟨W1.heap.size, 2, none⟩, .slice ga l2.length gc), (⟨W1.heap.size, 3, none⟩, .bool true), (⟨W2.heap.size, 0, none⟩, .int .i64 c), (⟨W2.heap.size, 1, none⟩, .slice sb 0 sd), (⟨W2.heap.size, 2, none⟩, .slice gb l2.length gd), (⟨W2.heap.size, 3, none⟩, .bool true)], q.1.cell? ⟨W1.heap.size, 0, none⟩ = some (.int .i64 c) := fun q => q.2 (⟨W1.heap.size, 0, none⟩, .int .i64 c) (by simp)
    have f1 : ∀ q : CW [(⟨W1.heap.size, 0, none⟩, .int .i64 c), (⟨W1.heap.size, 1, none⟩, .slice sa 0 sc), (⟨W1.heap.size, 2, none⟩, .slice ga l2.length gc), (⟨W1.heap.size, 3, none⟩, .bool true), (⟨W2.heap.size, 0, none⟩, .int .i64 c), (⟨W2.heap.size, 1, none⟩, .slice sb 0 sd), (⟨W2.heap.size, 2, none⟩, .slice gb l2.length gd), (⟨W2.heap.size, 3, none⟩, .bool true)], q.1.cell? ⟨W1.heap.size, 1, none⟩ = some (.slice sa 0 sc) := fun q => q.2 (⟨W1.heap.size, 1, none⟩, .slice sa 0 sc) (by simp)
    have f2 : ∀ q : CW [(⟨W1.heap.size, 0, none⟩, .int .i64 c), (⟨W1.heap.size, 1, none⟩, .slice sa 0 sc), (⟨W1.heap.size, 2, none⟩, .slice ga l2.length gc), (⟨W1.heap.size, 3, none⟩, .bool true), (⟨W2.heap.size, 0, none⟩, .int .i64 c), (⟨W2.heap.size, 1, none⟩, .slice sb 0 sd), (⟨W2.heap.size, 2, none⟩, .slice gb l2.length gd), (⟨W2.heap.size, 3, none⟩, .bool true)], q.1.cell? ⟨W1.heap.size, 2, none⟩ = some (.slice ga l2.length gc) := fun q => q.2 (⟨W1.heap.size, 2, none⟩, .slice ga l2.length gc) (by simp)
    have f3 : ∀ q : CW [(⟨W1.heap.size, 0, none⟩, .int .i64 c), (⟨W1.heap.size, 1, none⟩, .slice sa 0 sc), (⟨W1.heap.size, 2, none⟩, .slice ga l2.length gc), (⟨W1.heap.size, 3, none⟩, .bool true), (⟨W2.heap.size, 0, none⟩, .int .i64 c), (⟨W2.heap.size, 1, none⟩, .slice sb 0 sd), (⟨W2.heap.size, 2, none⟩, .slice gb l2.length gd), (⟨W2.heap.size, 3, none⟩, .bool true)], q.1.cell? ⟨W1.heap.size, 3, none⟩ = some (.bool true) := fun q => q.2 (⟨W1.heap.size, 3, none⟩, .bool true) (by simp)
    have f4 : ∀ q : CW [(⟨W1.heap.size, 0, none⟩, .int .i64 c), (⟨W1.heap.size, 1, none⟩, .slice sa 0 sc), (⟨W1.heap.size, 2, none⟩, .slice ga l2.length gc), (⟨W1.heap.size, 3, none⟩, .bool true), (⟨W2.heap.size, 0, none⟩, .int .i64 c), (⟨W2.heap.size, 1, none⟩, .slice sb 0 sd), (⟨W2.heap.size, 2, none⟩, .slice gb l2.length gd), (⟨W2.heap.size, 3, none⟩, .bool true)], q.1.cell? ⟨W2.heap.size, 0, none⟩ = some (.int .i64 c) := fun q => q.2 (⟨W2.heap.size, 0, none⟩, .int .i64 c) (by simp)
    have f5 : ∀ q : CW [(⟨W1.heap.size, 0, none⟩, .int .i64 c), (⟨W1.heap.size, 1, none⟩, .slice sa 0 sc), (⟨W1.heap.size, 2, none⟩, .slice ga l2.length gc), (⟨W1.heap.size, 3, none⟩, .bool true), (⟨W2.heap.size, 0, none⟩, .int .i64 c), (⟨W2.heap.size, 1, none⟩, .slice sb 0 sd), (⟨W2.heap.size, 2, none⟩, .slice gb l2.length gd), (⟨W2.heap.size, 3, none⟩, .bool true)], q.1.cell? ⟨W2.heap.size, 1, none⟩ = some (.slice sb 0 sd) := fun q => q.2 (⟨W2.heap.size, 1, none⟩, .slice sb 0 sd) (by simp)
    have f6 : ∀ q : CW [(⟨W1.heap.size, 0, none⟩, .int .i64 c), (⟨W1.heap.size, 1, none⟩, .slice sa 0 sc), (⟨W1.heap.size, 2, none⟩, .slice ga l2.length gc), (⟨W1.heap.size, 3, none⟩, .bool true), (⟨W2.heap.size, 0, none⟩, .int .i64 c), (⟨W2.heap.size, 1, none⟩, .slice sb 0 sd), (⟨W2.heap.size, 2, none⟩, .slice gb l2.length gd), (⟨W2.heap.size, 3, none⟩, .bool true)], q.1.cell? ⟨W2.heap.size, 2, none⟩ = some (.slice gb l2.length gd) := fun q => q.2 (⟨W2.heap.size, 2, none⟩, .slice gb l2.length gd) (by simp)
    have f7 : ∀ q : CW [(⟨W1.heap.size, 0, none⟩, .int .i64 c), (⟨W1.heap.size, 1, none⟩, .slice sa 0 sc), (⟨W1.heap.size, 2, none⟩, .slice ga l2.length gc), (⟨W1.heap.size, 3, none⟩, .bool true), (⟨W2.heap.size, 0, none⟩, .int .i64 c), (⟨W2.heap.size, 1, none⟩, .slice sb 0 sd), (⟨W2.heap.size, 2, none⟩, .slice gb l2.length gd), (⟨W2.heap.size, 3, none⟩, .bool true)], q.1.cell? ⟨W2.heap.size, 3, none⟩ = some (.bool true) := fun q => q.2 (⟨W2.heap.size, 3, none⟩, .bool true) (by simp)
    (try simp only [Act.put, List.setIfInBounds_toArray, List.set_cons_succ, List.set_cons_zero])
    refine wp_region_noPanic ?_
    refine wp_region_plw (.step [true, true, true, true, true, true, true, true, true, true, true, true, true, true, true, true, true] (.cons 17 (.last [false, false, false, false, false, false, false, false, false, false, false, false, false, false, false, false, false, false, true, true, true, true]) .nil)) (fun y => ∃ q : CW [(⟨W1.heap.size, 0, none⟩, .int .i64 c), (⟨W1.heap.size, 1, none⟩, .slice sa 0 sc), (⟨W1.heap.size, 2, none⟩, .slice ga l2.length gc), (⟨W1.heap.size, 3, none⟩, .bool true), (⟨W2.heap.size, 0, none⟩, .int .i64 c), (⟨W2.heap.size, 1, none⟩, .slice sb 0 sd), (⟨W2.heap.size, 2, none⟩, .slice gb l2.length gd), (⟨W2.heap.size, 3, none⟩, .bool true)], y = q.1) (by kernel_rfl) (by kernel_rfl) (by kernel_rfl) (fun _ _ _ _ _ _ _ h => h) ⟨⟨_, HF.out⟩, rfl⟩ ?_
    simp only [wpPw, wpBw, selF, and_true]
    generalize W20.drew = V30 at *
    repeat (go_big_quiet_step (fail))
    refine wpQuiet_nil ?_
    refine wpOp_step rfl (fun K hK => ?_)
    go_simp
    refine (ints_same29 _ _ l2 _ (HT3.out.now HM.out).ints (HU3.out.now HM.out).ints (by have := HL2.out; omega)).mono ?_
    rintro e V21 ⟨rfl, n21, hV⟩
    replace HM := Lib.hid (show Mem _ _ V21 _ from by rw [hV]; exact HM.out.drewN n21)
    clear hV
    refine hK _ _ ⟨(fun y => ∃ q : CW [(⟨W1.heap.size, 0, none⟩, .int .i64 c), (⟨W1.heap.size, 1, none⟩, .slice sa 0 sc), (⟨W1.heap.size, 2, none⟩, .slice ga l2.length gc), (⟨W1.heap.size, 3, none⟩, .bool true), (⟨W2.heap.size, 0, none⟩, .int .i64 c), (⟨W2.heap.size, 1, none⟩, .slice sb 0 sd), (⟨W2.heap.size, 2, none⟩, .slice gb l2.length gd), (⟨W2.heap.size, 3, none⟩, .bool true)], y = q.1), ⟨⟨_, (allc ((HM.out.hb 1 _ _ _ rfl).cell (k := 0) rfl) (allc ((HM.out.hb 1 _ _ _ rfl).cell (k := 1) rfl) (allc ((HM.out.hb 1 _ _ _ rfl).cell (k := 2) rfl) (allc ((HM.out.hb 1 _ _ _ rfl).cell (k := 3) rfl) (allc ((HM.out.hb 3 _ _ _ rfl).cell (k := 0) rfl) (allc ((HM.out.hb 3 _ _ _ rfl).cell (k := 1) rfl) (allc ((HM.out.hb 3 _ _ _ rfl).cell (k := 2) rfl) (allc ((HM.out.hb 3 _ _ _ rfl).cell (k := 3) rfl) (alln _)))))))))⟩, rfl⟩, fun _ h => h, ?_⟩
    clear hK K
    (try simp only [Act.put, List.setIfInBounds_toArray, List.set_cons_succ, List.set_cons_zero])
    repeat (go_big_quiet_step (fail))
    refine wpQuiet_nil ?_
    refine NoPanic.normal ?_
    go_wp2_with fail
    (try simp only [Exit.inBlock, Exit.then])
    refine bodyPost_ret (res_ttt rfl _ _ _ _ _ rfl rfl rfl) rfl ?_
    refine ⟨_, rfl, (Dead.weak (Q := P) (HT3.out.mem (fun b hb => hb.2.1) HM.out) fun b hb _ => hb.1).intsP, ?_⟩
    unfold StepE
    refine ⟨_, HT2v, HU2v, _, (HMT.out.tr HM.out).sub (fun i e hi => by match i, hi with | 0, hi => exact hi | i + 1, hi => simp at hi), HA.out, (HCx.out.mem (fun b hb => hb.2.1) HM.out).weak fun b hb _ => hb.1, ?_, ?_, (HT2.out.mem (fun b hb => hb.2.1) HM.out).weak fun b hb _ => hb.1, (HU2.out.mem (fun b hb => hb.2.1) HM.out).weak fun b hb _ => hb.1⟩
    · rw [ECv.out.2.1]; exact (HD1.out.mem (fun b hb => hb.2.1) HM.out).weak fun b hb _ => hb.1
    · rw [ECv.out.2.2]; exact (HD2.out.mem (fun b hb => hb.2.1) HM.out).weak fun b hb _ => hb.1
  · refine wpOp_step rfl (fun K hK => ?_)
    rw [if_pos (by rfl)]
    refine wpOm_al HM 35 rfl 13 rfl _ zer35 ?_
    intro V31 hM
    (try simp only [List.cons_append, List.nil_append, List.set_cons_succ, List.set_cons_zero, Nat.reduceAdd] at hM)
    replace HM := hM
    clear hM
    refine hK _ _ ⟨(fun y => ∃ q : CW [(⟨R, 0, none⟩, .slice (some ⟨b0, o0, none⟩) 771 p0), (⟨R, 1, none⟩, .slice (some ⟨b1, o1, none⟩) 33 p1), (⟨R, 2, none⟩, .slice (some ⟨b2, o2, none⟩) 33 p2), (⟨A7.heap.size, 0, none⟩, .int .i8 k), (⟨A7.heap.size, 1, none⟩, .int .i64 a), (⟨A7.heap.size, 2, none⟩, .int .i64 0), (⟨A7.heap.size, 3, none⟩, .int .i64 v), (⟨A7.heap.size, 4, none⟩, .int .i64 0), (⟨A7.heap.size, 5, none⟩, .string ByteArray.empty), (⟨A7.heap.size, 6, none⟩, .slice ao1 0 ac1)], y = q.1), ⟨⟨_, (allc ((HM.out.hb 0 _ _ _ rfl).cell (k := 0) HW0.out) (allc ((HM.out.hb 0 _ _ _ rfl).cell (k := 1) HW1.out) (allc ((HM.out.hb 0 _ _ _ rfl).cell (k := 2) HW2.out) (allc ((HM.out.hb 2 _ _ _ rfl).cell (k := 0) rfl) (allc ((HM.out.hb 2 _ _ _ rfl).cell (k := 1) rfl) (allc ((HM.out.hb 2 _ _ _ rfl).cell (k := 2) rfl) (allc ((HM.out.hb 2 _ _ _ rfl).cell (k := 3) rfl) (allc ((HM.out.hb 2 _ _ _ rfl).cell (k := 4) rfl) (allc ((HM.out.hb 2 _ _ _ rfl).cell (k := 5) rfl) (allc ((HM.out.hb 2 _ _ _ rfl).cell (k := 6) rfl) (alln _)))))))))))⟩, rfl⟩, fun _ h => h, ?_⟩
    clear hK K
    (try simp only [Act.put, List.setIfInBounds_toArray, List.set_cons_succ, List.set_cons_zero])
    refine wpQuiet_nil ?_
    refine wpOp_step rfl (fun K hK => ?_)
    go_simp
    refine (HDo.out _ _ _ _ _ ao1 ac1 (HM.out.nw (fun b hb => HP.out b (Nat.le_trans HMT.out.size (Nat.le_trans HM.out.size hb)))) (HCv.out.now HM.out) (HD1.out.now HM.out) (HD2.out.now HM.out)).mono ?_
    rintro e V32 ⟨⟨cv2, rfl, hcv⟩, hb⟩
    replace HM := Lib.hid (HM.out.below hb)
    replace HTm := Lib.hid (HTm.out.step HM.out)
    replace HTh := Lib.hid (HTh.out.step HM.out)
    replace HCv := Lib.hid (HCv.out.step HM.out)
    replace HD1 := Lib.hid (HD1.out.step HM.out)
    replace HD2 := Lib.hid (HD2.out.step HM.out)
    replace HT1 := Lib.hid (HT1.out.step HM.out)
    replace HU1 := Lib.hid (HU1.out.step HM.out)
    replace HMT := Lib.hid (HMT.out.tr HM.out)
    replace HM := Lib.hid HM.out.re
    clear hb
    have HCx := Lib.hid hcv.cn
    obtain ⟨b3, o3, p3, rfl, -⟩ := hcv
    refine hK _ _ ⟨(fun y => ∃ q : CW [(⟨R, 0, none⟩, .slice (some ⟨b0, o0, none⟩) 771 p0), (⟨R, 1, none⟩, .slice (some ⟨b1, o1, none⟩) 33 p1), (⟨R, 2, none⟩, .slice (some ⟨b2, o2, none⟩) 33 p2), (⟨A7.heap.size, 0, none⟩, .int .i8 k), (⟨A7.heap.size, 1, none⟩, .int .i64 a), (⟨A7.heap.size, 2, none⟩, .int .i64 0), (⟨A7.heap.size, 3, none⟩, .int .i64 v), (⟨A7.heap.size, 4, none⟩, .int .i64 0), (⟨A7.heap.size, 5, none⟩, .string ByteArray.empty), (⟨A7.heap.size, 6, none⟩, .slice ao1 0 ac1)], y = q.1), ⟨⟨_, (allc ((HM.out.hb 0 _ _ _ rfl).cell (k := 0) HW0.out) (allc ((HM.out.hb 0 _ _ _ rfl).cell (k := 1) HW1.out) (allc ((HM.out.hb 0 _ _ _ rfl).cell (k := 2) HW2.out) (allc ((HM.out.hb 2 _ _ _ rfl).cell (k := 0) rfl) (allc ((HM.out.hb 2 _ _ _ rfl).cell (k := 1) rfl) (allc ((HM.out.hb 2 _ _ _ rfl).cell (k := 2) rfl) (allc ((HM.out.hb 2 _ _ _ rfl).cell (k := 3) rfl) (allc ((HM.out.hb 2 _ _ _ rfl).cell (k := 4) rfl) (allc ((HM.out.hb 2 _ _ _ rfl).cell (k := 5) rfl) (allc ((HM.out.hb 2 _ _ _ rfl).cell (k := 6) rfl) (alln _)))))))))))⟩, rfl⟩, fun _ h => h, ?_⟩
    clear hK K
    (try simp only [Act.put, List.setIfInBounds_toArray, List.set_cons_succ, List.set_cons_zero])
    repeat (go_big_quiet_step (fail))
    refine wpQuiet_nil ?_
    refine wpOp_step rfl (fun K hK => ?_)
    rw [if_pos (by rfl)]
    refine wpOm_st HM 35 (.tmp 13) (.tmp 83) rfl rfl 5 rfl #[.slice (some ⟨b3, o3, none⟩) 771 p3, .slice (some ⟨b1, o1, none⟩) 33 p1, .slice (some ⟨b2, o2, none⟩) 33 p2] rfl rfl 3 inf35 rfl rfl (w35_one _ _ _ _ _ _ _ _ _) ?_
    intro V33 hM
    (try simp only [List.cons_append, List.nil_append, List.set_cons_succ, List.set_cons_zero, Nat.reduceAdd] at hM)
    replace HM := hM
    clear hM
    refine hK _ _ ⟨(fun y => ∃ q : CW [(⟨R, 0, none⟩, .slice (some ⟨b0, o0, none⟩) 771 p0), (⟨R, 1, none⟩, .slice (some ⟨b1, o1, none⟩) 33 p1), (⟨R, 2, none⟩, .slice (some ⟨b2, o2, none⟩) 33 p2), (⟨A7.heap.size, 0, none⟩, .int .i8 k), (⟨A7.heap.size, 1, none⟩, .int .i64 a), (⟨A7.heap.size, 2, none⟩, .int .i64 0), (⟨A7.heap.size, 3, none⟩, .int .i64 v), (⟨A7.heap.size, 4, none⟩, .int .i64 0), (⟨A7.heap.size, 5, none⟩, .string ByteArray.empty), (⟨A7.heap.size, 6, none⟩, .slice ao1 0 ac1)], y = q.1), ⟨⟨_, (allc ((HM.out.hb 0 _ _ _ rfl).cell (k := 0) HW0.out) (allc ((HM.out.hb 0 _ _ _ rfl).cell (k := 1) HW1.out) (allc ((HM.out.hb 0 _ _ _ rfl).cell (k := 2) HW2.out) (allc ((HM.out.hb 2 _ _ _ rfl).cell (k := 0) rfl) (allc ((HM.out.hb 2 _ _ _ rfl).cell (k := 1) rfl) (allc ((HM.out.hb 2 _ _ _ rfl).cell (k := 2) rfl) (allc ((HM.out.hb 2 _ _ _ rfl).cell (k := 3) rfl) (allc ((HM.out.hb 2 _ _ _ rfl).cell (k := 4) rfl) (allc ((HM.out.hb 2 _ _ _ rfl).cell (k := 5) rfl) (allc ((HM.out.hb 2 _ _ _ rfl).cell (k := 6) rfl) (alln _)))))))))))⟩, rfl⟩, fun _ h => h, ?_⟩
    clear hK K
    (try simp only [Act.put, List.setIfInBounds_toArray, List.set_cons_succ, List.set_cons_zero])
    repeat (go_big_quiet_step (fail))
    refine wpQuiet_nil ?_
    refine NoPanic.normal ?_
    clear f0 f1 f2 f3 f4 f5 f6 f7 f8 f9 HF
    go_wp2_with (first
      | (refine wpm_ld35 HM rfl (.tmp 13) rfl 5 rfl rfl rfl ?_)
      | (refine wpm_stW HM HA rfl (.tmp 91) (.tmp 89) rfl 0 rfl _ _ _ _ _ _ _ _ _ rfl rfl (fun j => if j = 0 then .slice (some ⟨b3, o3, none⟩) 771 p3 else s.w j) rfl ECv.out.2.1 ECv.out.2.2 ?_; clear HA HW0 HW1 HW2; intro W11 C11 HA hM; (try simp only [List.cons_append, List.nil_append, List.set_cons_succ, List.set_cons_zero, Nat.reduceAdd] at hM); replace HM := hM; clear hM))
    obtain ⟨tac, taao, tan, tacap, tago, tagn, tagc, tay, rfl⟩ := HT1c.out
    replace HM := Lib.hid HM.out.drew
    have HF : Hid (∀ p ∈ ([(⟨W1.heap.size, 0, none⟩, .int .i64 tac), (⟨W1.heap.size, 1, none⟩, .slice taao tan tacap), (⟨W1.heap.size, 2, none⟩, .slice tago tagn tagc), (⟨W1.heap.size, 3, none⟩, .bool tay)] : List (Addr × Value)), World.cell? _ p.1 = some p.2) := Lib.hid (allc ((HM.out.hb 1 _ _ _ rfl).cell (k := 0) rfl) (allc ((HM.out.hb 1 _ _ _ rfl).cell (k := 1) rfl) (allc ((HM.out.hb 1 _ _ _ rfl).cell (k := 2) rfl) (allc ((HM.out.hb 1 _ _ _ rfl).cell (k := 3) rfl) (alln _)))))
    haveI : Inhabited (CW [(⟨W1.heap.size, 0, none⟩, .int .i64 tac), (⟨W1.heap.size, 1, none⟩, .slice taao tan tacap), (⟨W1.heap.size, 2, none⟩, .slice tago tagn tagc), (⟨W1.heap.size, 3, none⟩, .bool tay)]) := ⟨⟨_, HF.out⟩⟩
    have f0 : ∀ q : CW [(⟨W1.heap.size, 0, none⟩, .int .i64 tac), (⟨W1.heap.size, 1, none⟩, .slice taao tan tacap), (⟨W1.heap.size, 2, none⟩, .slice tago tagn tagc), (⟨W1.heap.size, 3, none⟩, .bool tay)], q.1.cell? ⟨W1.heap.size, 0, none⟩ = some (.int .i64 tac) := fun q => q.2 (⟨W1.heap.size, 0, none⟩, .int .i64 tac) (by simp)
    have f1 : ∀ q : CW [(⟨W1.heap.size, 0, none⟩, .int .i64 tac), (⟨W1.heap.size, 1, none⟩, .slice taao tan tacap), (⟨W1.heap.size, 2, none⟩, .slice tago tagn tagc), (⟨W1.heap.size, 3, none⟩, .bool tay)], q.1.cell? ⟨W1.heap.size, 1, none⟩ = some (.slice taao tan tacap) := fun q => q.2 (⟨W1.heap.size, 1, none⟩, .slice taao tan tacap) (by simp)
    have f2 : ∀ q : CW [(⟨W1.heap.size, 0, none⟩, .int .i64 tac), (⟨W1.heap.size, 1, none⟩, .slice taao tan tacap), (⟨W1.heap.size, 2, none⟩, .slice tago tagn tagc), (⟨W1.heap.size, 3, none⟩, .bool tay)], q.1.cell? ⟨W1.heap.size, 2, none⟩ = some (.slice tago tagn tagc) := fun q => q.2 (⟨W1.heap.size, 2, none⟩, .slice tago tagn tagc) (by simp)
    have f3 : ∀ q : CW [(⟨W1.heap.size, 0, none⟩, .int .i64 tac), (⟨W1.heap.size, 1, none⟩, .slice taao tan tacap), (⟨W1.heap.size, 2, none⟩, .slice tago tagn tagc), (⟨W1.heap.size, 3, none⟩, .bool tay)], q.1.cell? ⟨W1.heap.size, 3, none⟩ = some (.bool tay) := fun q => q.2 (⟨W1.heap.size, 3, none⟩, .bool tay) (by simp)
    (try simp only [Act.put, List.setIfInBounds_toArray, List.set_cons_succ, List.set_cons_zero])
    refine wp_region_noPanic ?_
    refine wp_region_plw (.step [true, true, true, true, false, false, false, false, true, true] (.cons 4 (.step [false, false, false, false, false, true, true, true, false, false, true] (.cons 11 (.last []) .nil)) .nil)) (fun y => ∃ q : CW [(⟨W1.heap.size, 0, none⟩, .int .i64 tac), (⟨W1.heap.size, 1, none⟩, .slice taao tan tacap), (⟨W1.heap.size, 2, none⟩, .slice tago tagn tagc), (⟨W1.heap.size, 3, none⟩, .bool tay)], y = q.1) (by kernel_rfl) (by kernel_rfl) (by kernel_rfl) (fun _ _ _ _ _ _ _ h => h) ⟨⟨_, HF.out⟩, rfl⟩ ?_
    simp only [wpPw, wpBw, selF, and_true]
    generalize W11.drew = V34 at *
    repeat (go_big_quiet_step (fail))
    refine wpQuiet_nil ?_
    refine wpOp_step rfl (fun K hK => ?_)
    go_simp
    refine (give_p _ (HM.out.nw (fun b hb => HP.out b (Nat.le_trans HMT.out.size (Nat.le_trans HM.out.size hb)))) HC4.out (HT1.out.now HM.out) y).mono ?_
    rintro e V35 ⟨⟨HT2v, rfl, hl⟩, hb⟩
    replace HM := Lib.hid (HM.out.below hb)
    replace HTm := Lib.hid (HTm.out.step HM.out)
    replace HTh := Lib.hid (HTh.out.step HM.out)
    replace HCv := Lib.hid (HCv.out.step HM.out)
    replace HD1 := Lib.hid (HD1.out.step HM.out)
    replace HD2 := Lib.hid (HD2.out.step HM.out)
    replace HT1 := Lib.hid (HT1.out.step HM.out)
    replace HU1 := Lib.hid (HU1.out.step HM.out)
    replace HCx := Lib.hid (HCx.out.step HM.out)
    replace HMT := Lib.hid (HMT.out.tr HM.out)
    replace HM := Lib.hid HM.out.re
    have HT2 := Lib.hid hl.cn
    have HT2c := Lib.hid hl.task
    clear hb hl
    refine hK _ _ ⟨(fun y => ∃ q : CW [(⟨W1.heap.size, 0, none⟩, .int .i64 tac), (⟨W1.heap.size, 1, none⟩, .slice taao tan tacap), (⟨W1.heap.size, 2, none⟩, .slice tago tagn tagc), (⟨W1.heap.size, 3, none⟩, .bool tay)], y = q.1), ⟨⟨_, (allc ((HM.out.hb 1 _ _ _ rfl).cell (k := 0) rfl) (allc ((HM.out.hb 1 _ _ _ rfl).cell (k := 1) rfl) (allc ((HM.out.hb 1 _ _ _ rfl).cell (k := 2) rfl) (allc ((HM.out.hb 1 _ _ _ rfl).cell (k := 3) rfl) (alln _)))))⟩, rfl⟩, fun _ h => h, ?_⟩
    clear hK K
    (try simp only [Act.put, List.setIfInBounds_toArray, List.set_cons_succ, List.set_cons_zero])
    repeat (go_big_quiet_step (fail))
    refine wpQuiet_nil ?_
    refine wpOp_step rfl (fun K hK => ?_)
    rw [if_pos (by rfl)]
    refine wpOm_stM HM HA (.tmp 102) (.tmp 98) rfl rfl 0 rfl c hc _ rfl rfl HT2c.out ?_
    clear HA
    intro V36 V36c HA hM
    (try simp only [List.cons_append, List.nil_append, List.set_cons_succ, List.set_cons_zero, Nat.reduceAdd] at hM)
    replace HM := hM
    clear hM
    refine hK _ _ ⟨(fun y => ∃ q : CW [(⟨W1.heap.size, 0, none⟩, .int .i64 tac), (⟨W1.heap.size, 1, none⟩, .slice taao tan tacap), (⟨W1.heap.size, 2, none⟩, .slice tago tagn tagc), (⟨W1.heap.size, 3, none⟩, .bool tay)], y = q.1), ⟨⟨_, (allc ((HM.out.hb 1 _ _ _ rfl).cell (k := 0) rfl) (allc ((HM.out.hb 1 _ _ _ rfl).cell (k := 1) rfl) (allc ((HM.out.hb 1 _ _ _ rfl).cell (k := 2) rfl) (allc ((HM.out.hb 1 _ _ _ rfl).cell (k := 3) rfl) (alln _)))))⟩, rfl⟩, fun _ h => h, ?_⟩
    clear hK K
    (try simp only [Act.put, List.setIfInBounds_toArray, List.set_cons_succ, List.set_cons_zero])
    refine wpQuiet_nil ?_
    refine NoPanic.normal ?_
    clear f0 f1 f2 f3 HF
    go_wp2_with fail
    obtain ⟨uac, uaao, uan, uacap, uago, uagn, uagc, uay, rfl⟩ := HU1c.out
    replace HM := Lib.hid HM.out.drew
    have HF : Hid (∀ p ∈ ([(⟨W2.heap.size, 0, none⟩, .int .i64 uac), (⟨W2.heap.size, 1, none⟩, .slice uaao uan uacap), (⟨W2.heap.size, 2, none⟩, .slice uago uagn uagc), (⟨W2.heap.size, 3, none⟩, .bool uay)] : List (Addr × Value)), World.cell? _ p.1 = some p.2) := Lib.hid (allc ((HM.out.hb 3 _ _ _ rfl).cell (k := 0) rfl) (allc ((HM.out.hb 3 _ _ _ rfl).cell (k := 1) rfl) (allc ((HM.out.hb 3 _ _ _ rfl).cell (k := 2) rfl) (allc ((HM.out.hb 3 _ _ _ rfl).cell (k := 3) rfl) (alln _)))))
    haveI : Inhabited (CW [(⟨W2.heap.size, 0, none⟩, .int .i64 uac), (⟨W2.heap.size, 1, none⟩, .slice uaao uan uacap), (⟨W2.heap.size, 2, none⟩, .slice uago uagn uagc), (⟨W2.heap.size, 3, none⟩, .bool uay)]) := ⟨⟨_, HF.out⟩⟩
    have f0 : ∀ q : CW [(⟨W2.heap.size, 0, none⟩, .int .i64 uac), (⟨W2.heap.size, 1, none⟩, .slice uaao uan uacap), (⟨W2.heap.size, 2, none⟩, .slice uago uagn uagc), (⟨W2.heap.size, 3, none⟩, .bool uay)], q.1.cell? ⟨W2.heap.size, 0, none⟩ = some (.int .i64 uac) := fun q => q.2 (⟨W2.heap.size, 0, none⟩, .int .i64 uac) (by simp)
    have f1 : ∀ q : CW [(⟨W2.heap.size, 0, none⟩, .int .i64 uac), (⟨W2.heap.size, 1, none⟩, .slice uaao uan uacap), (⟨W2.heap.size, 2, none⟩, .slice uago uagn uagc), (⟨W2.heap.size, 3, none⟩, .bool uay)], q.1.cell? ⟨W2.heap.size, 1, none⟩ = some (.slice uaao uan uacap) := fun q => q.2 (⟨W2.heap.size, 1, none⟩, .slice uaao uan uacap) (by simp)
    have f2 : ∀ q : CW [(⟨W2.heap.size, 0, none⟩, .int .i64 uac), (⟨W2.heap.size, 1, none⟩, .slice uaao uan uacap), (⟨W2.heap.size, 2, none⟩, .slice uago uagn uagc), (⟨W2.heap.size, 3, none⟩, .bool uay)], q.1.cell? ⟨W2.heap.size, 2, none⟩ = some (.slice uago uagn uagc) := fun q => q.2 (⟨W2.heap.size, 2, none⟩, .slice uago uagn uagc) (by simp)
    have f3 : ∀ q : CW [(⟨W2.heap.size, 0, none⟩, .int .i64 uac), (⟨W2.heap.size, 1, none⟩, .slice uaao uan uacap), (⟨W2.heap.size, 2, none⟩, .slice uago uagn uagc), (⟨W2.heap.size, 3, none⟩, .bool uay)], q.1.cell? ⟨W2.heap.size, 3, none⟩ = some (.bool uay) := fun q => q.2 (⟨W2.heap.size, 3, none⟩, .bool uay) (by simp)
    (try simp only [Act.put, List.setIfInBounds_toArray, List.set_cons_succ, List.set_cons_zero])
    refine wp_region_noPanic ?_
    refine wp_region_plw (.step [true, true, true, true, false, false, false, false, true, true] (.cons 4 (.step [false, false, false, false, false, true, true, true, false, false, true] (.cons 11 (.last []) .nil)) .nil)) (fun y => ∃ q : CW [(⟨W2.heap.size, 0, none⟩, .int .i64 uac), (⟨W2.heap.size, 1, none⟩, .slice uaao uan uacap), (⟨W2.heap.size, 2, none⟩, .slice uago uagn uagc), (⟨W2.heap.size, 3, none⟩, .bool uay)], y = q.1) (by kernel_rfl) (by kernel_rfl) (by kernel_rfl) (fun _ _ _ _ _ _ _ h => h) ⟨⟨_, HF.out⟩, rfl⟩ ?_
    simp only [wpPw, wpBw, selF, and_true]
    generalize V36.drew = V37 at *
    repeat (go_big_quiet_step (fail))
    refine wpQuiet_nil ?_
    refine wpOp_step rfl (fun K hK => ?_)
    go_simp
    refine (give_p _ (HM.out.nw (fun b hb => HP.out b (Nat.le_trans HMT.out.size (Nat.le_trans HM.out.size hb)))) HC4.out (HU1.out.now HM.out) y).mono ?_
    rintro e V38 ⟨⟨HU2v, rfl, hl⟩, hb⟩
    replace HM := Lib.hid (HM.out.below hb)
    replace HTm := Lib.hid (HTm.out.step HM.out)
    replace HTh := Lib.hid (HTh.out.step HM.out)
    replace HCv := Lib.hid (HCv.out.step HM.out)
    replace HD1 := Lib.hid (HD1.out.step HM.out)
    replace HD2 := Lib.hid (HD2.out.step HM.out)
    replace HT1 := Lib.hid (HT1.out.step HM.out)
    replace HU1 := Lib.hid (HU1.out.step HM.out)
    replace HCx := Lib.hid (HCx.out.step HM.out)
    replace HT2 := Lib.hid (HT2.out.step HM.out)
    replace HMT := Lib.hid (HMT.out.tr HM.out)
    replace HM := Lib.hid HM.out.re
    have HU2 := Lib.hid hl.cn
    have HU2c := Lib.hid hl.task
    clear hb hl
    refine hK _ _ ⟨(fun y => ∃ q : CW [(⟨W2.heap.size, 0, none⟩, .int .i64 uac), (⟨W2.heap.size, 1, none⟩, .slice uaao uan uacap), (⟨W2.heap.size, 2, none⟩, .slice uago uagn uagc), (⟨W2.heap.size, 3, none⟩, .bool uay)], y = q.1), ⟨⟨_, (allc ((HM.out.hb 3 _ _ _ rfl).cell (k := 0) rfl) (allc ((HM.out.hb 3 _ _ _ rfl).cell (k := 1) rfl) (allc ((HM.out.hb 3 _ _ _ rfl).cell (k := 2) rfl) (allc ((HM.out.hb 3 _ _ _ rfl).cell (k := 3) rfl) (alln _)))))⟩, rfl⟩, fun _ h => h, ?_⟩
    clear hK K
    (try simp only [Act.put, List.setIfInBounds_toArray, List.set_cons_succ, List.set_cons_zero])
    repeat (go_big_quiet_step (fail))
    refine wpQuiet_nil ?_
    refine wpOp_step rfl (fun K hK => ?_)
    rw [if_pos (by rfl)]
    refine wpOm_stH HM HA (.tmp 113) (.tmp 109) rfl rfl 0 rfl c hc _ rfl rfl HU2c.out ?_
    clear HA
    intro V39 V39c HA hM
    (try simp only [List.cons_append, List.nil_append, List.set_cons_succ, List.set_cons_zero, Nat.reduceAdd] at hM)
    replace HM := hM
    clear hM
    refine hK _ _ ⟨(fun y => ∃ q : CW [(⟨W2.heap.size, 0, none⟩, .int .i64 uac), (⟨W2.heap.size, 1, none⟩, .slice uaao uan uacap), (⟨W2.heap.size, 2, none⟩, .slice uago uagn uagc), (⟨W2.heap.size, 3, none⟩, .bool uay)], y = q.1), ⟨⟨_, (allc ((HM.out.hb 3 _ _ _ rfl).cell (k := 0) rfl) (allc ((HM.out.hb 3 _ _ _ rfl).cell (k := 1) rfl) (allc ((HM.out.hb 3 _ _ _ rfl).cell (k := 2) rfl) (allc ((HM.out.hb 3 _ _ _ rfl).cell (k := 3) rfl) (alln _)))))⟩, rfl⟩, fun _ h => h, ?_⟩
    clear hK K
    (try simp only [Act.put, List.setIfInBounds_toArray, List.set_cons_succ, List.set_cons_zero])
    refine wpQuiet_nil ?_
    refine NoPanic.normal ?_
    clear f0 f1 f2 f3 HF
    go_wp2_with (first
      | (refine wpm_ldM HM HA rfl (.tmp 119) rfl 0 rfl c hc rfl HT2v (by simp [RS.setM, RS.setH, RS.setW, upd]) HT2c.out ?_))
    refine (goes14pe _ (HM.out.nw (fun b hb => HP.out b (Nat.le_trans HMT.out.size (Nat.le_trans HM.out.size hb)))) HC4.out (HT2.out.now HM.out) k2 a2 0 v2 l2 HOk2.out HK2.out HN2.out).mono ?_
    rintro e W13 ⟨⟨T3, rfl, hl⟩, hb⟩
    replace HM := Lib.hid (HM.out.below hb)
    replace HTm := Lib.hid (HTm.out.step HM.out)
    replace HTh := Lib.hid (HTh.out.step HM.out)
    replace HCv := Lib.hid (HCv.out.step HM.out)
    replace HD1 := Lib.hid (HD1.out.step HM.out)
    replace HD2 := Lib.hid (HD2.out.step HM.out)
    replace HT1 := Lib.hid (HT1.out.step HM.out)
    replace HU1 := Lib.hid (HU1.out.step HM.out)
    replace HCx := Lib.hid (HCx.out.step HM.out)
    replace HT2 := Lib.hid (HT2.out.step HM.out)
    replace HU2 := Lib.hid (HU2.out.step HM.out)
    replace HMT := Lib.hid (HMT.out.tr HM.out)
    replace HM := Lib.hid HM.out.re
    have HT3 := Lib.hid hl.cn
    have HT3c := Lib.hid hl.task
    clear hb hl
    go_wp2_with (first
      | (refine wpm_st38 HM rfl (.tmp 7) (.tmp 122) rfl 1 rfl HT1c.out.size T3 rfl rfl HT3c.out ?_; intro W hM; (try simp only [List.cons_append, List.nil_append, List.set_cons_succ, List.set_cons_zero, Nat.reduceAdd] at hM); replace HM := hM; clear hM)
      | (refine wpm_st59 HM rfl (.tmp 8) (.tmp 123) rfl 2 rfl rfl 0 0 0 0 0 none 0 0 rfl rfl ?_; intro W hM; (try simp only [List.cons_append, List.nil_append, List.set_cons_succ, List.set_cons_zero, Nat.reduceAdd] at hM); replace HM := hM; clear hM)
      | (refine wpm_ldH HM HA rfl (.tmp 130) rfl 0 rfl c hc rfl HU2v (by simp [RS.setM, RS.setH, RS.setW, upd]) HU2c.out ?_))
    refine (goes14re _ (HM.out.nw (fun b hb => HP.out b (Nat.le_trans HMT.out.size (Nat.le_trans HM.out.size hb)))) HC4.out (HU2.out.now HM.out) k2 a2 0 v2 l2 HOk2.out HK2.out HR2.out).mono ?_
    rintro e W14 ⟨⟨U3, rfl, hl⟩, hb⟩
    replace HM := Lib.hid (HM.out.below hb)
    replace HTm := Lib.hid (HTm.out.step HM.out)
    replace HTh := Lib.hid (HTh.out.step HM.out)
    replace HCv := Lib.hid (HCv.out.step HM.out)
    replace HD1 := Lib.hid (HD1.out.step HM.out)
    replace HD2 := Lib.hid (HD2.out.step HM.out)
    replace HT1 := Lib.hid (HT1.out.step HM.out)
    replace HU1 := Lib.hid (HU1.out.step HM.out)
    replace HCx := Lib.hid (HCx.out.step HM.out)
    replace HT2 := Lib.hid (HT2.out.step HM.out)
    replace HU2 := Lib.hid (HU2.out.step HM.out)
    replace HT3 := Lib.hid (HT3.out.step HM.out)
    replace HMT := Lib.hid (HMT.out.tr HM.out)
    replace HM := Lib.hid HM.out.re
    have HU3 := Lib.hid hl.cn
    have HU3c := Lib.hid hl.task
    clear hb hl
    go_wp2_with (first
      | (refine wpm_st38 HM rfl (.tmp 10) (.tmp 133) rfl 3 rfl HU1c.out.size U3 rfl rfl HU3c.out ?_; intro W hM; (try simp only [List.cons_append, List.nil_append, List.set_cons_succ, List.set_cons_zero, Nat.reduceAdd] at hM); replace HM := hM; clear hM)
      | (refine wpm_st59 HM rfl (.tmp 11) (.tmp 134) rfl 4 rfl rfl 0 0 0 0 0 none 0 0 rfl rfl ?_; intro W hM; (try simp only [List.cons_append, List.nil_append, List.set_cons_succ, List.set_cons_zero, Nat.reduceAdd] at hM); replace HM := hM; clear hM)
      | (refine wpm_stB HM HA rfl (.tmp 153) (.const (.bool false)) rfl 0 rfl c hc false rfl rfl ?_; clear HA; intro W20 C20 HA hM; (try simp only [List.cons_append, List.nil_append, List.set_cons_succ, List.set_cons_zero, Nat.reduceAdd] at hM); replace HM := hM; clear hM))
    obtain ⟨sa, sc, gv, rfl, ga, gc, rfl, -⟩ := HT3.out
    obtain ⟨sb, sd, gw, rfl, gb, gd, rfl, -⟩ := HU3.out
    replace HM := Lib.hid HM.out.drew
    have HF : Hid (∀ p ∈ ([(⟨W1.heap.size, 0, none⟩, .int .i64 c), (⟨W1.heap.size, 1, none⟩, .slice sa 0 sc), (⟨W1.heap.size, 2, none⟩, .slice ga l2.length gc), (⟨W1.heap.size, 3, none⟩, .bool true), (⟨W2.heap.size, 0, none⟩, .int .i64 c), (⟨W2.heap.size, 1, none⟩, .slice sb 0 sd), (⟨W2.heap.size, 2, none⟩, .slice gb l2.length gd), (⟨W2.heap.size, 3, none⟩, .bool true)] : List (Addr × Value)), World.cell? _ p.1 = some p.2) := Lib.hid (allc ((HM.out.hb 1 _ _ _ rfl).cell (k := 0) rfl) (allc ((HM.out.hb 1 _ _ _ rfl).cell (k := 1) rfl) (allc ((HM.out.hb 1 _ _ _ rfl).cell (k := 2) rfl) (allc ((HM.out.hb 1 _ _ _ rfl).cell (k := 3) rfl) (allc ((HM.out.hb 3 _ _ _ rfl).cell (k := 0) rfl) (allc ((HM.out.hb 3 _ _ _ rfl).cell (k := 1) rfl) (allc ((HM.out.hb 3 _ _ _ rfl).cell (k := 2) rfl) (allc ((HM.out.hb 3 _ _ _ rfl).cell (k := 3) rfl) (alln _)))))))))
    haveI : Inhabited (CW [(⟨W1.heap.size, 0, none⟩, .int .i64 c), (⟨W1.heap.size, 1, none⟩, .slice sa 0 sc), (⟨W1.heap.size, 2, none⟩, .slice ga l2.length gc), (⟨W1.heap.size, 3, none⟩, .bool true), (⟨W2.heap.size, 0, none⟩, .int .i64 c), (⟨W2.heap.size, 1, none⟩, .slice sb 0 sd), (⟨W2.heap.size, 2, none⟩, .slice gb l2.length gd), (⟨W2.heap.size, 3, none⟩, .bool true)]) := ⟨⟨_, HF.out⟩⟩
    have f0 : ∀ q : CW [(⟨W1.heap.size, 0, none⟩, .int .i64 c), (⟨W1.heap.size, 1, none⟩, .slice sa 0 sc), (⟨W1.heap.size, 2, none⟩, .slice ga l2.length gc), (⟨W1.heap.size, 3, none⟩, .bool true), (⟨W2.heap.size, 0, none⟩, .int .i64 c), (⟨W2.heap.size, 1, none⟩, .slice sb 0 sd), (⟨W2.heap.size, 2, none⟩, .slice gb l2.length gd), (⟨W2.heap.size, 3, none⟩, .bool true)], q.1.cell? ⟨W1.heap.size, 0, none⟩ = some (.int .i64 c) := fun q => q.2 (⟨W1.heap.size, 0, none⟩, .int .i64 c) (by simp)
    have f1 : ∀ q : CW [(⟨W1.heap.size, 0, none⟩, .int .i64 c), (⟨W1.heap.size, 1, none⟩, .slice sa 0 sc), (⟨W1.heap.size, 2, none⟩, .slice ga l2.length gc), (⟨W1.heap.size, 3, none⟩, .bool true), (⟨W2.heap.size, 0, none⟩, .int .i64 c), (⟨W2.heap.size, 1, none⟩, .slice sb 0 sd), (⟨W2.heap.size, 2, none⟩, .slice gb l2.length gd), (⟨W2.heap.size, 3, none⟩, .bool true)], q.1.cell? ⟨W1.heap.size, 1, none⟩ = some (.slice sa 0 sc) := fun q => q.2 (⟨W1.heap.size, 1, none⟩, .slice sa 0 sc) (by simp)
    have f2 : ∀ q : CW [(⟨W1.heap.size, 0, none⟩, .int .i64 c), (⟨W1.heap.size, 1, none⟩, .slice sa 0 sc), (⟨W1.heap.size, 2, none⟩, .slice ga l2.length gc), (⟨W1.heap.size, 3, none⟩, .bool true), (⟨W2.heap.size, 0, none⟩, .int .i64 c), (⟨W2.heap.size, 1, none⟩, .slice sb 0 sd), (⟨W2.heap.size, 2, none⟩, .slice gb l2.length gd), (⟨W2.heap.size, 3, none⟩, .bool true)], q.1.cell? ⟨W1.heap.size, 2, none⟩ = some (.slice ga l2.length gc) := fun q => q.2 (⟨W1.heap.size, 2, none⟩, .slice ga l2.length gc) (by simp)
    have f3 : ∀ q : CW [(⟨W1.heap.size, 0, none⟩, .int .i64 c), (⟨W1.heap.size, 1, none⟩, .slice sa 0 sc), (⟨W1.heap.size, 2, none⟩, .slice ga l2.length gc), (⟨W1.heap.size, 3, none⟩, .bool true), (⟨W2.heap.size, 0, none⟩, .int .i64 c), (⟨W2.heap.size, 1, none⟩, .slice sb 0 sd), (⟨W2.heap.size, 2, none⟩, .slice gb l2.length gd), (⟨W2.heap.size, 3, none⟩, .bool true)], q.1.cell? ⟨W1.heap.size, 3, none⟩ = some (.bool true) := fun q => q.2 (⟨W1.heap.size, 3, none⟩, .bool true) (by simp)
    have f4 : ∀ q : CW [(⟨W1.heap.size, 0, none⟩, .int .i64 c), (⟨W1.heap.size, 1, none⟩, .slice sa 0 sc), (⟨W1.heap.size, 2, none⟩, .slice ga l2.length gc), (⟨W1.heap.size, 3, none⟩, .bool true), (⟨W2.heap.size, 0, none⟩, .int .i64 c), (⟨W2.heap.size, 1, none⟩, .slice sb 0 sd), (⟨W2.heap.size, 2, none⟩, .slice gb l2.length gd), (⟨W2.heap.size, 3, none⟩, .bool true)], q.1.cell? ⟨W2.heap.size, 0, none⟩ = some (.int .i64 c) := fun q => q.2 (⟨W2.heap.size, 0, none⟩, .int .i64 c) (by simp)
    have f5 : ∀ q : CW [(⟨W1.heap.size, 0, none⟩, .int .i64 c), (⟨W1.heap.size, 1, none⟩, .slice sa 0 sc), (⟨W1.heap.size, 2, none⟩, .slice ga l2.length gc), (⟨W1.heap.size, 3, none⟩, .bool true), (⟨W2.heap.size, 0, none⟩, .int .i64 c), (⟨W2.heap.size, 1, none⟩, .slice sb 0 sd), (⟨W2.heap.size, 2, none⟩, .slice gb l2.length gd), (⟨W2.heap.size, 3, none⟩, .bool true)], q.1.cell? ⟨W2.heap.size, 1, none⟩ = some (.slice sb 0 sd) := fun q => q.2 (⟨W2.heap.size, 1, none⟩, .slice sb 0 sd) (by simp)
    have f6 : ∀ q : CW [(⟨W1.heap.size, 0, none⟩, .int .i64 c), (⟨W1.heap.size, 1, none⟩, .slice sa 0 sc), (⟨W1.heap.size, 2, none⟩, .slice ga l2.length gc), (⟨W1.heap.size, 3, none⟩, .bool true), (⟨W2.heap.size, 0, none⟩, .int .i64 c), (⟨W2.heap.size, 1, none⟩, .slice sb 0 sd), (⟨W2.heap.size, 2, none⟩, .slice gb l2.length gd), (⟨W2.heap.size, 3, none⟩, .bool true)], q.1.cell? ⟨W2.heap.size, 2, none⟩ = some (.slice gb l2.length gd) := fun q => q.2 (⟨W2.heap.size, 2, none⟩, .slice gb l2.length gd) (by simp)
    have f7 : ∀ q : CW [(⟨W1.heap.size, 0, none⟩, .int .i64 c), (⟨W1.heap.size, 1, none⟩, .slice sa 0 sc), (⟨W1.heap.size, 2, none⟩, .slice ga l2.length gc), (⟨W1.heap.size, 3, none⟩, .bool true), (⟨W2.heap.size, 0, none⟩, .int .i64 c), (⟨W2.heap.size, 1, none⟩, .slice sb 0 sd), (⟨W2.heap.size, 2, none⟩, .slice gb l2.length gd), (⟨W2.heap.size, 3, none⟩, .bool true)], q.1.cell? ⟨W2.heap.size, 3, none⟩ = some (.bool true) := fun q => q.2 (⟨W2.heap.size, 3, none⟩, .bool true) (by simp)
    (try simp only [Act.put, List.setIfInBounds_toArray, List.set_cons_succ, List.set_cons_zero])
    refine wp_region_noPanic ?_
    refine wp_region_plw (.step [true, true, true, true, true, true, true, true, true, true, true, true, true, true, true, true, true] (.cons 17 (.last [false, false, false, false, false, false, false, false, false, false, false, false, false, false, false, false, false, false, true, true, true, true]) .nil)) (fun y => ∃ q : CW [(⟨W1.heap.size, 0, none⟩, .int .i64 c), (⟨W1.heap.size, 1, none⟩, .slice sa 0 sc), (⟨W1.heap.size, 2, none⟩, .slice ga l2.length gc), (⟨W1.heap.size, 3, none⟩, .bool true), (⟨W2.heap.size, 0, none⟩, .int .i64 c), (⟨W2.heap.size, 1, none⟩, .slice sb 0 sd), (⟨W2.heap.size, 2, none⟩, .slice gb l2.length gd), (⟨W2.heap.size, 3, none⟩, .bool true)], y = q.1) (by kernel_rfl) (by kernel_rfl) (by kernel_rfl) (fun _ _ _ _ _ _ _ h => h) ⟨⟨_, HF.out⟩, rfl⟩ ?_
    simp only [wpPw, wpBw, selF, and_true]
    generalize W20.drew = V40 at *
    repeat (go_big_quiet_step (fail))
    refine wpQuiet_nil ?_
    refine wpOp_step rfl (fun K hK => ?_)
    go_simp
    refine (ints_same29 _ _ l2 _ (HT3.out.now HM.out).ints (HU3.out.now HM.out).ints (by have := HL2.out; omega)).mono ?_
    rintro e V21 ⟨rfl, n21, hV⟩
    replace HM := Lib.hid (show Mem _ _ V21 _ from by rw [hV]; exact HM.out.drewN n21)
    clear hV
    refine hK _ _ ⟨(fun y => ∃ q : CW [(⟨W1.heap.size, 0, none⟩, .int .i64 c), (⟨W1.heap.size, 1, none⟩, .slice sa 0 sc), (⟨W1.heap.size, 2, none⟩, .slice ga l2.length gc), (⟨W1.heap.size, 3, none⟩, .bool true), (⟨W2.heap.size, 0, none⟩, .int .i64 c), (⟨W2.heap.size, 1, none⟩, .slice sb 0 sd), (⟨W2.heap.size, 2, none⟩, .slice gb l2.length gd), (⟨W2.heap.size, 3, none⟩, .bool true)], y = q.1), ⟨⟨_, (allc ((HM.out.hb 1 _ _ _ rfl).cell (k := 0) rfl) (allc ((HM.out.hb 1 _ _ _ rfl).cell (k := 1) rfl) (allc ((HM.out.hb 1 _ _ _ rfl).cell (k := 2) rfl) (allc ((HM.out.hb 1 _ _ _ rfl).cell (k := 3) rfl) (allc ((HM.out.hb 3 _ _ _ rfl).cell (k := 0) rfl) (allc ((HM.out.hb 3 _ _ _ rfl).cell (k := 1) rfl) (allc ((HM.out.hb 3 _ _ _ rfl).cell (k := 2) rfl) (allc ((HM.out.hb 3 _ _ _ rfl).cell (k := 3) rfl) (alln _)))))))))⟩, rfl⟩, fun _ h => h, ?_⟩
    clear hK K
    (try simp only [Act.put, List.setIfInBounds_toArray, List.set_cons_succ, List.set_cons_zero])
    repeat (go_big_quiet_step (fail))
    refine wpQuiet_nil ?_
    refine NoPanic.normal ?_
    go_wp2_with fail
    (try simp only [Exit.inBlock, Exit.then])
    refine bodyPost_ret (res_ttt rfl _ _ _ _ _ rfl rfl rfl) rfl ?_
    refine ⟨_, rfl, (Dead.weak (Q := P) (HT3.out.mem (fun b hb => hb.2.1) HM.out) fun b hb _ => hb.1).intsP, ?_⟩
    unfold StepE
    refine ⟨_, HT2v, HU2v, _, (HMT.out.tr HM.out).sub (fun i e hi => by match i, hi with | 0, hi => exact hi | i + 1, hi => simp at hi), HA.out, (HCx.out.mem (fun b hb => hb.2.1) HM.out).weak fun b hb _ => hb.1, ?_, ?_, (HT2.out.mem (fun b hb => hb.2.1) HM.out).weak fun b hb _ => hb.1, (HU2.out.mem (fun b hb => hb.2.1) HM.out).weak fun b hb _ => hb.1⟩
    · rw [ECv.out.2.1]; exact (HD1.out.mem (fun b hb => hb.2.1) HM.out).weak fun b hb _ => hb.1
    · rw [ECv.out.2.2]; exact (HD2.out.mem (fun b hb => hb.2.1) HM.out).weak fun b hb _ => hb.1
end Go.Proofs.Ytgpdknacnmapiaa
