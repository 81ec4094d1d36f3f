/-
  Parts of a proof, put together: Wk, Sp, Ed.
-/
import Derived.Test.YtgpdknacnmapiaaZh01
import Derived.Test.YtgpdknacnmapiaaZh02
import Derived.Test.YtgpdknacnmapiaaZh03
import Derived.Test.YtgpdknacnmapiaaZh04
import Derived.Test.YtgpdknacnmapiaaZh05
import Derived.Test.YtgpdknacnmapiaaZh06
import Derived.Test.YtgpdknacnmapiaaZh07
import Derived.Test.YtgpdknacnmapiaaZh08
import Derived.Test.YtgpdknacnmapiaaZh09
import Derived.Test.YtgpdknacnmapiaaZh10
import Derived.Test.YtgpdknacnmapiaaZh11
import Derived.Test.YtgpdknacnmapiaaZh12
import Derived.Deep.QuietTactic
namespace Go.Proofs.Ytgpdknacnmapiaa
set_option linter.unusedVariables false
set_option linter.unusedSimpArgs false
open Go.RowKit
def r02 : Nat → Int := fun k => if k = 1 then 2 else 0
def Fw : Fr := ⟨56, 0, r02⟩
def F1 : Fr := Fw.at_ 1
def F2 : Fr := (F1.at_ 2).reg 4 256
end Go.Proofs.Ytgpdknacnmapiaa
namespace Go.Proofs.Ytgpdknacnmapiaa
set_option linter.unusedVariables false
set_option linter.unusedSimpArgs false
open Go.RowKit
/-- what a run holds -/
structure RunV (P : Nat → Prop) (R : Nat) (W : World) (C : Array Value) (s : RS) (l : List Int) : Prop where
  hb : HB W R C 74
  ra : RunA C s
  cv : CellsV P W (s.w 0) l
  d1 : DiskV P W (s.w 1)
  d2 : DiskV P W (s.w 2)
theorem RunV.keep {P : Nat → Prop} {R : Nat} {W W' : World} {C C' : Array Value} {s s' : RS} {l : List Int} (h : RunV P R W C s l) (hPR : ∀ b, P b → b ≠ R) (hM : Mem (fun b => b = R) W W' [(R, C', 74)]) (hA : RunA C' s') (hw : s'.w = s.w) : RunV P R W' C' s' l :=
  ⟨hM.hb 0 _ _ _ rfl, hA, by rw [hw]; exact h.cv.mem hPR hM, by rw [hw]; exact h.d1.mem hPR hM, by rw [hw]; exact h.d2.mem hPR hM⟩
/-- a step is done -/
def SteppedP (P : Nat → Prop) (R c : Nat) (s : RS) (l : List Int) (f g : Fr) (y : Int) (bs : Nat → Bool) (w w' : World) : Prop :=
  ∃ C' s', RunV P R w' C' s' l ∧ Mem (fun b => b = R) w w' [(R, C', 74)] ∧ s'.b = bs ∧ Live P w' (s'.m c) c f y ∧ Live P w' (s'.h c) c g y ∧ ∀ d, d ≠ c → s'.m d = s.m d ∧ s'.h d = s.h d
theorem StepE.go {P : Nat → Prop} {R c : Nat} {s : RS} {f g : Fr} {y : Int} {l : List Int} {w w' : World} (h : StepE P R c s f g y l false w w') : SteppedP P R c s l f g y s.b w w' := by
  obtain ⟨C', T, U, cv, hM, hA, hC, h1, h2, hT, hU⟩ := h
  rw [if_neg (by decide)] at hA
  refine ⟨C', _, ⟨hM.hb 0 _ _ _ rfl, hA, hC, h1, h2⟩, hM, rfl, ?_, ?_, ?_⟩
  · simpa [RS.setM, RS.setH, RS.setW, upd] using hT
  · simpa [RS.setM, RS.setH, RS.setW, upd] using hU
  · intro d hd
    simp [RS.setM, RS.setH, RS.setW, upd, hd]
theorem StepE.end {P : Nat → Prop} {R c : Nat} {s : RS} {f g : Fr} {y : Int} {l : List Int} {w w' : World} (h : StepE P R c s f g y l true w w') : SteppedP P R c s l f g y (upd s.b c false) w w' := by
  obtain ⟨C', T, U, cv, hM, hA, hC, h1, h2, hT, hU⟩ := h
  rw [if_pos rfl] at hA
  refine ⟨C', _, ⟨hM.hb 0 _ _ _ rfl, hA, hC, h1, h2⟩, hM, rfl, ?_, ?_, ?_⟩
  · simpa [RS.setM, RS.setH, RS.setW, RS.setB, upd] using hT
  · simpa [RS.setM, RS.setH, RS.setW, RS.setB, upd] using hU
  · intro d hd
    simp [RS.setM, RS.setH, RS.setW, RS.setB, upd, hd]
end Go.Proofs.Ytgpdknacnmapiaa
namespace Go.Proofs.Ytgpdknacnmapiaa
set_option linter.unusedVariables false
set_option linter.unusedSimpArgs false
open Go.RowKit
set_option maxHeartbeats 2000000 in
set_option maxRecDepth 100000 in
theorem ints_same39 {B1 B2 : Nat} (v1 v2 : Value) (l : List Int) (w : World) (h1 : Ints B1 w v1 l) (h2 : Ints B2 w v2 l) (hlen : l.length ≤ 100000) :
    Calls Try.prog 39 #[v1, v2] w fun e w' => e = .returned (.bool true) ∧ ∃ n, w' = w.drewN n := by
  obtain ⟨ao1, cap1, rfl, hc1, hr1⟩ := h1
  obtain ⟨ao2, cap2, rfl, hc2, hr2⟩ := h2
  have HR1 := Lib.hid hr1
  have HR2 := Lib.hid hr2
  obtain ⟨m, hm⟩ : ∃ m, l.length = m := ⟨_, rfl⟩
  have HM := Lib.hid hm
  rw [hm] at hc1 hc2 hlen ⊢
  have hm63 : m ≤ 9223372036854775807 := by omega
  have e0 : ((m : Int) == (m : Int)) = true := by simp
  clear hr1 hr2 hm
  go_enter Try.func39, Try.ntmps39
  go_wp2_with fail
  go_loopw [5] (fun iv wr => ∃ j k : Nat, j ≤ m ∧ iv = .int .i64 j ∧ wr = w.drewN k) (fun iv _ => m - (intOf iv).toNat)
  case atStart => exact ⟨0, 0, Nat.zero_le _, rfl, rfl⟩
  case round =>
    obtain ⟨j, k, hj, rfl, rfl⟩ := hrel
    by_cases hlt : j < m
    · obtain ⟨x, hx⟩ : ∃ x, l[j]? = some x := ⟨l[j]'(by rw [HM.out]; exact hlt), List.getElem?_eq_getElem _⟩
      obtain ⟨b1, o1, rfl, _, r1⟩ := HR1.out j x hx
      obtain ⟨b2, o2, rfl, _, r2⟩ := HR2.out j x hx
      have ex1 : (x == x) = true := by simp
      clear hx
      go_wp2_with fail
      go_quiet (fail)
      go_wp2_with fail
      go_roundw
      case rel => exact ⟨j + 1, _, hlt, rfl, rfl⟩
      case measure => simp [intOf]; omega
    · have e : j = m := by omega
      subst e
      go_wp2_with fail
      go_ret
      exact ⟨rfl, _, rfl⟩
set_option maxHeartbeats 4000000 in
set_option maxRecDepth 100000 in
theorem same_actB {B1 B2 : Nat} (k a b v : Int) (v1 v2 : Value) (l : List Int) (w : World) (h1 : Ints B1 w v1 l) (h2 : Ints B2 w v2 l) (hlen : l.length ≤ 100000) :
    Calls Try.prog 21 #[.agg (acC k a b v 0 v1), .agg (acC k a b v 0 v2)] w fun e w' => e = .returned (.bool true) ∧ Below w.heap.size w w' := by
  have HB : ∀ W, Below w.heap.size w W → Ints 0 W v1 l ∧ Ints 0 W v2 l := fun W hb => ⟨(h1.low (Nat.zero_le _)).below hb, (h2.low (Nat.zero_le _)).below hb⟩
  have HH := Lib.hid HB
  have e1 : (k == k) = true := by simp
  have e2 : (a == a) = true := by simp
  have e4 : (b == b) = true := by simp
  have e3 : (v == v) = true := by simp
  have HBa : Hid (Below w.heap.size w ((w.alloc (.cells (acC k a b v 0 v1) 59)).alloc (.cells (acC k a b v 0 v2) 59))) := Lib.hid (((Below.refl _ _).alloc (Nat.le_refl _) _).alloc (by simp) _)
  unfold acC at *
  obtain ⟨ao1, c1, rfl, -, -⟩ := h1
  obtain ⟨ao2, c2, rfl, -, -⟩ := h2
  clear HB
  go_enter Try.func21, Try.ntmps21
  go_wp2_with fail
  refine (ints_same _ _ l _ (HH.out _ HBa.out).1 (HH.out _ HBa.out).2 hlen).mono ?_
  rintro e W ⟨rfl, n, rfl⟩
  go_wp2_with fail
  go_ret
  exact ⟨rfl, HBa.out.trans ((below_drewN _ _).mono (HBa.out.size))⟩
/-- what is answered to a step -/
def DoB (k a b v y : Int) (l l2 : List Int) : Prop := ∀ (Q : Nat → Prop) (w : World) (cv d1 d2 : Value) (ao : Option Addr) (ac : Nat), (∀ b, w.heap.size ≤ b → Q b) → CellsV Q w cv l → DiskV Q w d1 → DiskV Q w d2 →
  Calls Try.prog 40 #[.agg #[cv, d1, d2], .agg (acC k a b v 0 (.slice ao 0 ac))] w fun e w' => (∃ cv', e = .returned (.tuple #[.agg #[cv', d1, d2], .int .i64 y, .int .i64 0]) ∧ CellsV Q w' cv' l2) ∧ Below w.heap.size w w'
/-- what the end's look leaves -/
def EndE (P : Nat → Prop) (R c : Nat) (C : Array Value) (s : RS) (over : Bool) (w w' : World) : Prop :=
  ∃ C', Mem (fun b => b = R) w w' [(R, C', 41)] ∧ RunA C' (if over = true then s.setB c false else s)
/-- what a step leaves -/
def Step13 (P : Nat → Prop) (R c : Nat) (s : RS) (f : Fr) (g : Fr) (y : Int) (l : List Int) (over : Bool) (w w' : World) : Prop :=
  ∃ C' T U cv, Mem (fun b => b = R) w w' [(R, C', 41)] ∧ RunA C' (if over = true then (((s.setW fun j => if j = 0 then cv else s.w j).setM c T).setH c U).setB c false else ((s.setW fun j => if j = 0 then cv else s.w j).setM c T).setH c U) ∧ CellsV P w' cv l ∧ DiskV P w' (s.w 1) ∧ DiskV P w' (s.w 2) ∧ Live P w' T c f y ∧ Live P w' U c g y
set_option maxHeartbeats 8000000 in
set_option maxRecDepth 100000 in
theorem end13_go {P : Nat → Prop} (c : Nat) (hc : c < 4) (R : Nat) (C : Array Value) (s : RS) (w : World) (hP : ∀ b, w.heap.size ≤ b → P b) (hPR : ∀ b, P b → b ≠ R) (hR : HB w R C 41) (hA : RunA C s) (f g f4 g4 : Fr) (y : Int)
    (hTm : Live P w (s.m c) c f y) (hTh : Live P w (s.h c) c g y) (k2 a2 b2 v2 : Int) (l2 : List Int) (hOk2 : OkA k2 a2 b2 v2 l2.length) (hk2 : k2 < 6)
    (hN2 : ∀ vv w, GotV w vv y → Calls Try.prog 32 #[.agg f.cells, vv] w fun e w' => AnsB w w' e f4 k2 a2 b2 v2 l2 ∧ Below w.heap.size w w')
    (hR2 : ∀ vv w, GotV w vv y → Calls Try.prog 53 #[.agg g.cells, vv] w fun e w' => AnsB w w' e g4 k2 a2 b2 v2 l2 ∧ Below w.heap.size w w') :
    Calls Try.prog 42 #[.pointer (some ⟨R, 0, none⟩), .int .i64 c] w fun e w' => e = .returned (.tuple #[.slice none 0 0, .bool false, .bool true]) ∧ EndE P R c C s false w w' := by
  have HMT := Lib.hid (Mem.startR hR)
  have HM := Lib.hid HMT.out.re
  have HOL : Hid (∀ b, P b → b < w.heap.size → Cn P (OL [(R, C, 41)]) w.heap.size b) := Lib.hid (fun b hb hlt => ⟨hb, (by rintro ⟨i, C2, t2, hi⟩; match i, hi with | 0, hi => simp at hi; exact hPR b hb hi.1.symm | i + 1, hi => simp at hi), hlt⟩)
  have HP := Lib.hid hP
  have HPR := Lib.hid hPR
  have HA := Lib.hid hA
  have HTmc := Lib.hid hTm.task
  have HThc := Lib.hid hTh.task
  have HTm := Lib.hid (hTm.weak HOL.out)
  have HTh := Lib.hid (hTh.weak HOL.out)
  have hc4 : (0 : Int) ≤ (c : Int) ∧ (c : Int) < 4 := ⟨by omega, by omega⟩
  have HC4 := Lib.hid hc4
  obtain ⟨Tm, eTm⟩ : ∃ T, s.m c = T := ⟨_, rfl⟩
  obtain ⟨Th, eTh⟩ : ∃ T, s.h c = T := ⟨_, rfl⟩
  rw [eTm] at HTm HTmc
  rw [eTh] at HTh HThc
  have ETm := Lib.hid eTm
  have ETh := Lib.hid eTh
  have HOk2 := Lib.hid hOk2
  have HL2 : Hid (l2.length ≤ 96) := Lib.hid (by rcases hOk2 with h | h | h | h <;> omega)
  have HK2 := Lib.hid hk2
  have HN2 := Lib.hid hN2
  have HR2 := Lib.hid hR2
  clear hP hPR hR hA hTm hTh hOk2 hk2 hN2 hR2 hc4 eTm eTh HOL
  go_enter Try.func42, Try.ntmps42
  go_wp2_with (first
    | (refine wpm_ldM HM HA rfl (.tmp 18) rfl 0 rfl c hc rfl Tm ETm.out HTmc.out ?_))
  refine (goes13pg _ (HM.out.nw (fun b hb => HP.out b (Nat.le_trans HMT.out.size (Nat.le_trans HM.out.size hb)))) HC4.out (HTm.out.now HM.out) k2 a2 b2 v2 l2 HOk2.out HK2.out HN2.out).mono ?_
  rintro e W1 ⟨⟨T3, ao3, ac3, rfl, hl⟩, hb⟩
  replace HM := Lib.hid (HM.out.below hb)
  replace HTm := Lib.hid (HTm.out.step HM.out)
  replace HTh := Lib.hid (HTh.out.step HM.out)
  replace HMT := Lib.hid (HMT.out.tr HM.out)
  replace HM := Lib.hid HM.out.re
  have HT3 := Lib.hid hl.cn
  have HT3c := Lib.hid hl.task
  clear hb hl
  go_wp2_with (first
    | (refine wpm_al38 HM rfl rfl ?_; intro A7 hM; (try simp only [List.cons_append, List.nil_append, List.set_cons_succ, List.set_cons_zero, Nat.reduceAdd] at hM); replace HM := hM; clear hM)
    | (refine wpm_al59 HM rfl rfl ?_; intro A8 hM; (try simp only [List.cons_append, List.nil_append, List.set_cons_succ, List.set_cons_zero, Nat.reduceAdd] at hM); replace HM := hM; clear hM)
    | (refine wpm_st38 HM rfl (.tmp 7) (.tmp 21) rfl 1 rfl TaskC.zero.size T3 rfl rfl HT3c.out ?_; intro W hM; (try simp only [List.cons_append, List.nil_append, List.set_cons_succ, List.set_cons_zero, Nat.reduceAdd] at hM); replace HM := hM; clear hM)
    | (refine wpm_st59 HM rfl (.tmp 8) (.tmp 22) rfl 2 rfl rfl k2 a2 b2 v2 0 ao3 0 ac3 rfl rfl ?_; intro W hM; (try simp only [List.cons_append, List.nil_append, List.set_cons_succ, List.set_cons_zero, Nat.reduceAdd] at hM); replace HM := hM; clear hM)
    | (refine wpm_ldH HM HA rfl (.tmp 29) rfl 0 rfl c hc rfl Th ETh.out HThc.out ?_))
  refine (goes13rg _ (HM.out.nw (fun b hb => HP.out b (Nat.le_trans HMT.out.size (Nat.le_trans HM.out.size hb)))) HC4.out (HTh.out.now HM.out) k2 a2 b2 v2 l2 HOk2.out HK2.out HR2.out).mono ?_
  rintro e W2 ⟨⟨U3, ao4, ac4, rfl, hl⟩, hb⟩
  replace HM := Lib.hid (HM.out.below hb)
  replace HTm := Lib.hid (HTm.out.step HM.out)
  replace HTh := Lib.hid (HTh.out.step HM.out)
  replace HT3 := Lib.hid (HT3.out.step HM.out)
  replace HMT := Lib.hid (HMT.out.tr HM.out)
  replace HM := Lib.hid HM.out.re
  have HU3 := Lib.hid hl.cn
  have HU3c := Lib.hid hl.task
  clear hb hl
  go_wp2_with (first
    | (refine wpm_al38 HM rfl rfl ?_; intro A10 hM; (try simp only [List.cons_append, List.nil_append, List.set_cons_succ, List.set_cons_zero, Nat.reduceAdd] at hM); replace HM := hM; clear hM)
    | (refine wpm_al59 HM rfl rfl ?_; intro A11 hM; (try simp only [List.cons_append, List.nil_append, List.set_cons_succ, List.set_cons_zero, Nat.reduceAdd] at hM); replace HM := hM; clear hM)
    | (refine wpm_st38 HM rfl (.tmp 10) (.tmp 32) rfl 3 rfl TaskC.zero.size U3 rfl rfl HU3c.out ?_; intro W hM; (try simp only [List.cons_append, List.nil_append, List.set_cons_succ, List.set_cons_zero, Nat.reduceAdd] at hM); replace HM := hM; clear hM)
    | (refine wpm_st59 HM rfl (.tmp 11) (.tmp 33) rfl 4 rfl rfl k2 a2 b2 v2 0 ao4 0 ac4 rfl rfl ?_; intro W hM; (try simp only [List.cons_append, List.nil_append, List.set_cons_succ, List.set_cons_zero, Nat.reduceAdd] at hM); replace HM := hM; clear hM; have p0 := (HM.out.hb 2 _ _ _ rfl).cell (k := 0) (v := .int .i8 k2) rfl; have p1 := (HM.out.hb 2 _ _ _ rfl).cell (k := 1) (v := .int .i64 a2) rfl; have p2 := (HM.out.hb 2 _ _ _ rfl).cell (k := 2) (v := .int .i64 b2) rfl; have p3 := (HM.out.hb 2 _ _ _ rfl).cell (k := 3) (v := .int .i64 v2) rfl; have p4 := (HM.out.hb 2 _ _ _ rfl).cell (k := 4) (v := .int .i64 0) rfl; have p5 := (HM.out.hb 2 _ _ _ rfl).cell (k := 5) (v := .string ByteArray.empty) rfl; have p6 := (HM.out.hb 2 _ _ _ rfl).cell (k := 6) (v := .slice ao3 0 ac3) rfl; have q0 := (HM.out.hb 4 _ _ _ rfl).cell (k := 0) (v := .int .i8 k2) rfl; have q1 := (HM.out.hb 4 _ _ _ rfl).cell (k := 1) (v := .int .i64 a2) rfl; have q2 := (HM.out.hb 4 _ _ _ rfl).cell (k := 2) (v := .int .i64 b2) rfl; have q3 := (HM.out.hb 4 _ _ _ rfl).cell (k := 3) (v := .int .i64 v2) rfl; have q4 := (HM.out.hb 4 _ _ _ rfl).cell (k := 4) (v := .int .i64 0) rfl; have q5 := (HM.out.hb 4 _ _ _ rfl).cell (k := 5) (v := .string ByteArray.empty) rfl; have q6 := (HM.out.hb 4 _ _ _ rfl).cell (k := 6) (v := .slice ao4 0 ac4) rfl))
  refine (same_actB k2 a2 b2 v2 (.slice ao3 0 ac3) (.slice ao4 0 ac4) [] _ (ints0 0 _ ao3 ac3) (ints0 0 _ ao4 ac4) (by simp)).mono ?_
  rintro e W4 ⟨rfl, hb⟩
  clear p0 p1 p2 p3 p4 p5 p6 q0 q1 q2 q3 q4 q5 q6
  replace HM := Lib.hid (HM.out.below hb)
  clear hb
  go_wp2_with fail
  (try simp only [Exit.inBlock, Exit.then])
  refine bodyPost_ret (res_ttt rfl _ _ _ _ _ rfl rfl rfl) rfl ?_
  refine ⟨rfl, ?_⟩
  unfold EndE
  exact ⟨_, (HMT.out.tr HM.out).sub (fun i e hi => by match i, hi with | 0, hi => exact hi | i + 1, hi => simp at hi), HA.out⟩
set_option maxHeartbeats 8000000 in
set_option maxRecDepth 100000 in
theorem end13_over {P : Nat → Prop} (c : Nat) (hc : c < 4) (R : Nat) (C : Array Value) (s : RS) (w : World) (hP : ∀ b, w.heap.size ≤ b → P b) (hPR : ∀ b, P b → b ≠ R) (hR : HB w R C 41) (hA : RunA C s) (f g f4 g4 : Fr) (y : Int)
    (hTm : Live P w (s.m c) c f y) (hTh : Live P w (s.h c) c g y) (k2 a2 b2 v2 : Int) (l2 : List Int) (hOk2 : OkA k2 a2 b2 v2 l2.length) (hk2 : k2 = 7)
    (hN2 : ∀ vv w, GotV w vv y → Calls Try.prog 32 #[.agg f.cells, vv] w fun e w' => AnsB w w' e f4 k2 a2 b2 v2 l2 ∧ Below w.heap.size w w')
    (hR2 : ∀ vv w, GotV w vv y → Calls Try.prog 53 #[.agg g.cells, vv] w fun e w' => AnsB w w' e g4 k2 a2 b2 v2 l2 ∧ Below w.heap.size w w') :
    Calls Try.prog 42 #[.pointer (some ⟨R, 0, none⟩), .int .i64 c] w fun e w' => (∃ ans, e = .returned (.tuple #[ans, .bool true, .bool true]) ∧ IntsP P w' ans l2) ∧ EndE P R c C s true w w' := by
  have HMT := Lib.hid (Mem.startR hR)
  have HM := Lib.hid HMT.out.re
  have HOL : Hid (∀ b, P b → b < w.heap.size → Cn P (OL [(R, C, 41)]) w.heap.size b) := Lib.hid (fun b hb hlt => ⟨hb, (by rintro ⟨i, C2, t2, hi⟩; match i, hi with | 0, hi => simp at hi; exact hPR b hb hi.1.symm | i + 1, hi => simp at hi), hlt⟩)
  have HP := Lib.hid hP
  have HPR := Lib.hid hPR
  have HA := Lib.hid hA
  have HTmc := Lib.hid hTm.task
  have HThc := Lib.hid hTh.task
  have HTm := Lib.hid (hTm.weak HOL.out)
  have HTh := Lib.hid (hTh.weak HOL.out)
  have hc4 : (0 : Int) ≤ (c : Int) ∧ (c : Int) < 4 := ⟨by omega, by omega⟩
  have HC4 := Lib.hid hc4
  obtain ⟨Tm, eTm⟩ : ∃ T, s.m c = T := ⟨_, rfl⟩
  obtain ⟨Th, eTh⟩ : ∃ T, s.h c = T := ⟨_, rfl⟩
  rw [eTm] at HTm HTmc
  rw [eTh] at HTh HThc
  have ETm := Lib.hid eTm
  have ETh := Lib.hid eTh
  have HOk2 := Lib.hid hOk2
  have HL2 : Hid (l2.length ≤ 96) := Lib.hid (by rcases hOk2 with h | h | h | h <;> omega)
  have HK2 := Lib.hid hk2
  have HN2 := Lib.hid hN2
  have HR2 := Lib.hid hR2
  clear hP hPR hR hA hTm hTh hOk2 hk2 hN2 hR2 hc4 eTm eTh HOL
  go_enter Try.func42, Try.ntmps42
  go_wp2_with (first
    | (refine wpm_ldM HM HA rfl (.tmp 18) rfl 0 rfl c hc rfl Tm ETm.out HTmc.out ?_))
  refine (goes13pe _ (HM.out.nw (fun b hb => HP.out b (Nat.le_trans HMT.out.size (Nat.le_trans HM.out.size hb)))) HC4.out (HTm.out.now HM.out) k2 a2 b2 v2 l2 HOk2.out HK2.out HN2.out).mono ?_
  rintro e W1 ⟨⟨T3, rfl, hl⟩, hb⟩
  replace HM := Lib.hid (HM.out.below hb)
  replace HTm := Lib.hid (HTm.out.step HM.out)
  replace HTh := Lib.hid (HTh.out.step HM.out)
  replace HMT := Lib.hid (HMT.out.tr HM.out)
  replace HM := Lib.hid HM.out.re
  have HT3 := Lib.hid hl.cn
  have HT3c := Lib.hid hl.task
  clear hb hl
  go_wp2_with (first
    | (refine wpm_al38 HM rfl rfl ?_; intro A7 hM; (try simp only [List.cons_append, List.nil_append, List.set_cons_succ, List.set_cons_zero, Nat.reduceAdd] at hM); replace HM := hM; clear hM)
    | (refine wpm_al59 HM rfl rfl ?_; intro A8 hM; (try simp only [List.cons_append, List.nil_append, List.set_cons_succ, List.set_cons_zero, Nat.reduceAdd] at hM); replace HM := hM; clear hM)
    | (refine wpm_st38 HM rfl (.tmp 7) (.tmp 21) rfl 1 rfl TaskC.zero.size T3 rfl rfl HT3c.out ?_; intro W hM; (try simp only [List.cons_append, List.nil_append, List.set_cons_succ, List.set_cons_zero, Nat.reduceAdd] at hM); replace HM := hM; clear hM)
    | (refine wpm_st59 HM rfl (.tmp 8) (.tmp 22) rfl 2 rfl rfl 0 0 0 0 0 none 0 0 rfl rfl ?_; intro W hM; (try simp only [List.cons_append, List.nil_append, List.set_cons_succ, List.set_cons_zero, Nat.reduceAdd] at hM); replace HM := hM; clear hM)
    | (refine wpm_ldH HM HA rfl (.tmp 29) rfl 0 rfl c hc rfl Th ETh.out HThc.out ?_))
  refine (goes13re _ (HM.out.nw (fun b hb => HP.out b (Nat.le_trans HMT.out.size (Nat.le_trans HM.out.size hb)))) HC4.out (HTh.out.now HM.out) k2 a2 b2 v2 l2 HOk2.out HK2.out HR2.out).mono ?_
  rintro e W2 ⟨⟨U3, rfl, hl⟩, hb⟩
  replace HM := Lib.hid (HM.out.below hb)
  replace HTm := Lib.hid (HTm.out.step HM.out)
  replace HTh := Lib.hid (HTh.out.step HM.out)
  replace HT3 := Lib.hid (HT3.out.step HM.out)
  replace HMT := Lib.hid (HMT.out.tr HM.out)
  replace HM := Lib.hid HM.out.re
  have HU3 := Lib.hid hl.cn
  have HU3c := Lib.hid hl.task
  clear hb hl
  go_wp2_with (first
    | (refine wpm_al38 HM rfl rfl ?_; intro A10 hM; (try simp only [List.cons_append, List.nil_append, List.set_cons_succ, List.set_cons_zero, Nat.reduceAdd] at hM); replace HM := hM; clear hM)
    | (refine wpm_al59 HM rfl rfl ?_; intro A11 hM; (try simp only [List.cons_append, List.nil_append, List.set_cons_succ, List.set_cons_zero, Nat.reduceAdd] at hM); replace HM := hM; clear hM)
    | (refine wpm_st38 HM rfl (.tmp 10) (.tmp 32) rfl 3 rfl TaskC.zero.size U3 rfl rfl HU3c.out ?_; intro W hM; (try simp only [List.cons_append, List.nil_append, List.set_cons_succ, List.set_cons_zero, Nat.reduceAdd] at hM); replace HM := hM; clear hM)
    | (refine wpm_st59 HM rfl (.tmp 11) (.tmp 33) rfl 4 rfl rfl 0 0 0 0 0 none 0 0 rfl rfl ?_; intro W hM; (try simp only [List.cons_append, List.nil_append, List.set_cons_succ, List.set_cons_zero, Nat.reduceAdd] at hM); replace HM := hM; clear hM)
    | (refine wpm_stB HM HA rfl (.tmp 52) (.const (.bool false)) rfl 0 rfl c hc false rfl rfl ?_; clear HA; intro W20 C20 HA hM; (try simp only [List.cons_append, List.nil_append, List.set_cons_succ, List.set_cons_zero, Nat.reduceAdd] at hM); replace HM := hM; clear hM))
  obtain ⟨sa, sc, gv, rfl, ga, gc, rfl, -⟩ := HT3.out
  obtain ⟨sb, sd, gw, rfl, gb, gd, rfl, -⟩ := HU3.out
  replace HM := Lib.hid HM.out.drew
  have HF : Hid (∀ p ∈ ([(⟨W1.heap.size, 0, none⟩, .int .i64 c), (⟨W1.heap.size, 1, none⟩, .slice sa 0 sc), (⟨W1.heap.size, 2, none⟩, .slice ga l2.length gc), (⟨W1.heap.size, 3, none⟩, .bool true), (⟨W2.heap.size, 0, none⟩, .int .i64 c), (⟨W2.heap.size, 1, none⟩, .slice sb 0 sd), (⟨W2.heap.size, 2, none⟩, .slice gb l2.length gd), (⟨W2.heap.size, 3, none⟩, .bool true)] : List (Addr × Value)), World.cell? _ p.1 = some p.2) := Lib.hid (allc ((HM.out.hb 1 _ _ _ rfl).cell (k := 0) rfl) (allc ((HM.out.hb 1 _ _ _ rfl).cell (k := 1) rfl) (allc ((HM.out.hb 1 _ _ _ rfl).cell (k := 2) rfl) (allc ((HM.out.hb 1 _ _ _ rfl).cell (k := 3) rfl) (allc ((HM.out.hb 3 _ _ _ rfl).cell (k := 0) rfl) (allc ((HM.out.hb 3 _ _ _ rfl).cell (k := 1) rfl) (allc ((HM.out.hb 3 _ _ _ rfl).cell (k := 2) rfl) (allc ((HM.out.hb 3 _ _ _ rfl).cell (k := 3) rfl) (alln _)))))))))
  haveI : Inhabited (CW [(⟨W1.heap.size, 0, none⟩, .int .i64 c), (⟨W1.heap.size, 1, none⟩, .slice sa 0 sc), (⟨W1.heap.size, 2, none⟩, .slice ga l2.length gc), (⟨W1.heap.size, 3, none⟩, .bool true), (⟨W2.heap.size, 0, none⟩, .int .i64 c), (⟨W2.heap.size, 1, none⟩, .slice sb 0 sd), (⟨W2.heap.size, 2, none⟩, .slice gb l2.length gd), (⟨W2.heap.size, 3, none⟩, .bool true)]) := ⟨⟨_, HF.out⟩⟩
  have f0 : ∀ q : CW [(⟨W1.heap.size, 0, none⟩, .int .i64 c), (⟨W1.heap.size, 1, none⟩, .slice sa 0 sc), (⟨W1.heap.size, 2, none⟩, .slice ga l2.length gc), (⟨W1.heap.size, 3, none⟩, .bool true), (⟨W2.heap.size, 0, none⟩, .int .i64 c), (⟨W2.heap.size, 1, none⟩, .slice sb 0 sd), (⟨W2.heap.size, 2, none⟩, .slice gb l2.length gd), (⟨W2.heap.size, 3, none⟩, .bool true)], q.1.cell? ⟨W1.heap.size, 0, none⟩ = some (.int .i64 c) := fun q => q.2 (⟨W1.heap.size, 0, none⟩, .int .i64 c) (by simp)
  have f1 : ∀ q : CW [(⟨W1.heap.size, 0, none⟩, .int .i64 c), (⟨W1.heap.size, 1, none⟩, .slice sa 0 sc), (⟨W1.heap.size, 2, none⟩, .slice ga l2.length gc), (⟨W1.heap.size, 3, none⟩, .bool true), (⟨W2.heap.size, 0, none⟩, .int .i64 c), (⟨W2.heap.size, 1, none⟩, .slice sb 0 sd), (⟨W2.heap.size, 2, none⟩, .slice gb l2.length gd), (⟨W2.heap.size, 3, none⟩, .bool true)], q.1.cell? ⟨W1.heap.size, 1, none⟩ = some (.slice sa 0 sc) := fun q => q.2 (⟨W1.heap.size, 1, none⟩, .slice sa 0 sc) (by simp)
  have f2 : ∀ q : CW [(⟨W1.heap.size, 0, none⟩, .int .i64 c), (⟨W1.heap.size, 1, none⟩, .slice sa 0 sc), (⟨W1.heap.size, 2, none⟩, .slice ga l2.length gc), (⟨W1.heap.size, 3, none⟩, .bool true), (⟨W2.heap.size, 0, none⟩, .int .i64 c), (⟨W2.heap.size, 1, none⟩, .slice sb 0 sd), (⟨W2.heap.size, 2, none⟩, .slice gb l2.length gd), (⟨W2.heap.size, 3, none⟩, .bool true)], q.1.cell? ⟨W1.heap.size, 2, none⟩ = some (.slice ga l2.length gc) := fun q => q.2 (⟨W1.heap.size, 2, none⟩, .slice ga l2.length gc) (by simp)
  have f3 : ∀ q : CW [(⟨W1.heap.size, 0, none⟩, .int .i64 c), (⟨W1.heap.size, 1, none⟩, .slice sa 0 sc), (⟨W1.heap.size, 2, none⟩, .slice ga l2.length gc), (⟨W1.heap.size, 3, none⟩, .bool true), (⟨W2.heap.size, 0, none⟩, .int .i64 c), (⟨W2.heap.size, 1, none⟩, .slice sb 0 sd), (⟨W2.heap.size, 2, none⟩, .slice gb l2.length gd), (⟨W2.heap.size, 3, none⟩, .bool true)], q.1.cell? ⟨W1.heap.size, 3, none⟩ = some (.bool true) := fun q => q.2 (⟨W1.heap.size, 3, none⟩, .bool true) (by simp)
  have f4 : ∀ q : CW [(⟨W1.heap.size, 0, none⟩, .int .i64 c), (⟨W1.heap.size, 1, none⟩, .slice sa 0 sc), (⟨W1.heap.size, 2, none⟩, .slice ga l2.length gc), (⟨W1.heap.size, 3, none⟩, .bool true), (⟨W2.heap.size, 0, none⟩, .int .i64 c), (⟨W2.heap.size, 1, none⟩, .slice sb 0 sd), (⟨W2.heap.size, 2, none⟩, .slice gb l2.length gd), (⟨W2.heap.size, 3, none⟩, .bool true)], q.1.cell? ⟨W2.heap.size, 0, none⟩ = some (.int .i64 c) := fun q => q.2 (⟨W2.heap.size, 0, none⟩, .int .i64 c) (by simp)
  have f5 : ∀ q : CW [(⟨W1.heap.size, 0, none⟩, .int .i64 c), (⟨W1.heap.size, 1, none⟩, .slice sa 0 sc), (⟨W1.heap.size, 2, none⟩, .slice ga l2.length gc), (⟨W1.heap.size, 3, none⟩, .bool true), (⟨W2.heap.size, 0, none⟩, .int .i64 c), (⟨W2.heap.size, 1, none⟩, .slice sb 0 sd), (⟨W2.heap.size, 2, none⟩, .slice gb l2.length gd), (⟨W2.heap.size, 3, none⟩, .bool true)], q.1.cell? ⟨W2.heap.size, 1, none⟩ = some (.slice sb 0 sd) := fun q => q.2 (⟨W2.heap.size, 1, none⟩, .slice sb 0 sd) (by simp)
  have f6 : ∀ q : CW [(⟨W1.heap.size, 0, none⟩, .int .i64 c), (⟨W1.heap.size, 1, none⟩, .slice sa 0 sc), (⟨W1.heap.size, 2, none⟩, .slice ga l2.length gc), (⟨W1.heap.size, 3, none⟩, .bool true), (⟨W2.heap.size, 0, none⟩, .int .i64 c), (⟨W2.heap.size, 1, none⟩, .slice sb 0 sd), (⟨W2.heap.size, 2, none⟩, .slice gb l2.length gd), (⟨W2.heap.size, 3, none⟩, .bool true)], q.1.cell? ⟨W2.heap.size, 2, none⟩ = some (.slice gb l2.length gd) := fun q => q.2 (⟨W2.heap.size, 2, none⟩, .slice gb l2.length gd) (by simp)
  have f7 : ∀ q : CW [(⟨W1.heap.size, 0, none⟩, .int .i64 c), (⟨W1.heap.size, 1, none⟩, .slice sa 0 sc), (⟨W1.heap.size, 2, none⟩, .slice ga l2.length gc), (⟨W1.heap.size, 3, none⟩, .bool true), (⟨W2.heap.size, 0, none⟩, .int .i64 c), (⟨W2.heap.size, 1, none⟩, .slice sb 0 sd), (⟨W2.heap.size, 2, none⟩, .slice gb l2.length gd), (⟨W2.heap.size, 3, none⟩, .bool true)], q.1.cell? ⟨W2.heap.size, 3, none⟩ = some (.bool true) := fun q => q.2 (⟨W2.heap.size, 3, none⟩, .bool true) (by simp)
  (try simp only [Act.put, List.setIfInBounds_toArray, List.set_cons_succ, List.set_cons_zero])
  refine wp_region_noPanic ?_
  refine wp_region_plw (.step [true, true, true, true, true, true, true, true, true, true, true, true, true, true, true, true, true] (.cons 17 (.last [false, false, false, false, false, false, false, false, false, false, false, false, false, false, false, false, false, false, true, true, true, true]) .nil)) (fun y => ∃ q : CW [(⟨W1.heap.size, 0, none⟩, .int .i64 c), (⟨W1.heap.size, 1, none⟩, .slice sa 0 sc), (⟨W1.heap.size, 2, none⟩, .slice ga l2.length gc), (⟨W1.heap.size, 3, none⟩, .bool true), (⟨W2.heap.size, 0, none⟩, .int .i64 c), (⟨W2.heap.size, 1, none⟩, .slice sb 0 sd), (⟨W2.heap.size, 2, none⟩, .slice gb l2.length gd), (⟨W2.heap.size, 3, none⟩, .bool true)], y = q.1) (by kernel_rfl) (by kernel_rfl) (by kernel_rfl) (fun _ _ _ _ _ _ _ h => h) ⟨⟨_, HF.out⟩, rfl⟩ ?_
  simp only [wpPw, wpBw, selF, and_true]
  generalize W20.drew = V1 at *
  repeat (go_big_quiet_step (fail))
  refine wpQuiet_nil ?_
  refine wpOp_step rfl (fun K hK => ?_)
  go_simp
  refine (ints_same39 _ _ l2 _ (HT3.out.now HM.out).ints (HU3.out.now HM.out).ints (by have := HL2.out; omega)).mono ?_
  rintro e V21 ⟨rfl, n21, hV⟩
  replace HM := Lib.hid (show Mem _ _ V21 _ from by rw [hV]; exact HM.out.drewN n21)
  clear hV
  refine hK _ _ ⟨(fun y => ∃ q : CW [(⟨W1.heap.size, 0, none⟩, .int .i64 c), (⟨W1.heap.size, 1, none⟩, .slice sa 0 sc), (⟨W1.heap.size, 2, none⟩, .slice ga l2.length gc), (⟨W1.heap.size, 3, none⟩, .bool true), (⟨W2.heap.size, 0, none⟩, .int .i64 c), (⟨W2.heap.size, 1, none⟩, .slice sb 0 sd), (⟨W2.heap.size, 2, none⟩, .slice gb l2.length gd), (⟨W2.heap.size, 3, none⟩, .bool true)], y = q.1), ⟨⟨_, (allc ((HM.out.hb 1 _ _ _ rfl).cell (k := 0) rfl) (allc ((HM.out.hb 1 _ _ _ rfl).cell (k := 1) rfl) (allc ((HM.out.hb 1 _ _ _ rfl).cell (k := 2) rfl) (allc ((HM.out.hb 1 _ _ _ rfl).cell (k := 3) rfl) (allc ((HM.out.hb 3 _ _ _ rfl).cell (k := 0) rfl) (allc ((HM.out.hb 3 _ _ _ rfl).cell (k := 1) rfl) (allc ((HM.out.hb 3 _ _ _ rfl).cell (k := 2) rfl) (allc ((HM.out.hb 3 _ _ _ rfl).cell (k := 3) rfl) (alln _)))))))))⟩, rfl⟩, fun _ h => h, ?_⟩
  clear hK K
  (try simp only [Act.put, List.setIfInBounds_toArray, List.set_cons_succ, List.set_cons_zero])
  repeat (go_big_quiet_step (fail))
  refine wpQuiet_nil ?_
  refine NoPanic.normal ?_
  go_wp2_with fail
  (try simp only [Exit.inBlock, Exit.then])
  refine bodyPost_ret (res_ttt rfl _ _ _ _ _ rfl rfl rfl) rfl ?_
  refine ⟨⟨_, rfl, (Dead.weak (Q := P) (HT3.out.mem (fun b hb => hb.2.1) HM.out) fun b hb _ => hb.1).intsP⟩, ?_⟩
  unfold EndE
  exact ⟨_, (HMT.out.tr HM.out).sub (fun i e hi => by match i, hi with | 0, hi => exact hi | i + 1, hi => simp at hi), HA.out⟩
end Go.Proofs.Ytgpdknacnmapiaa
