/-
  Parts of a proof, put together: S3.
-/
import Derived.Test.YtgpdknacnmapiaaZh01
import Derived.Test.YtgpdknacnmapiaaZh02
import Derived.Test.YtgpdknacnmapiaaZh03
import Derived.Test.YtgpdknacnmapiaaZh04
import Derived.Test.YtgpdknacnmapiaaZh05
import Derived.Test.YtgpdknacnmapiaaZh06
import Derived.Test.YtgpdknacnmapiaaZh07
import Derived.Test.YtgpdknacnmapiaaZh08
import Derived.Test.YtgpdknacnmapiaaZh09
import Derived.Test.YtgpdknacnmapiaaZh10
import Derived.Test.YtgpdknacnmapiaaZh11
import Derived.Test.YtgpdknacnmapiaaZh12
import Derived.Test.YtgpdknacnmapiaaZh13
import Derived.Test.YtgpdknacnmapiaaZh14
import Derived.Deep.QuietTactic
namespace Go.Proofs.Ytgpdknacnmapiaa
set_option linter.unusedVariables false
set_option linter.unusedSimpArgs false
open Go.RowKit
theorem live_of {P : Nat → Prop} {W : World} {T T' : Array Value} {c : Int} {f : Fr} {x : Int} (e : T' = T) (h : Live P W T c f x) : Live P W T' c f x := e ▸ h
theorem IntsP.weak {P Q : Nat → Prop} {w : World} {v : Value} {l : List Int} (h : IntsP P w v l) (hpq : ∀ b, P b → Q b) : IntsP Q w v l := by
  obtain ⟨ao, cap, rfl, hc, hr⟩ := h
  refine ⟨ao, cap, rfl, hc, fun i x hx => ?_⟩
  obtain ⟨b, off, e1, e2, e3⟩ := hr i x hx
  exact ⟨b, off, e1, hpq b e2, e3⟩
set_option maxHeartbeats 8000000 in
set_option maxRecDepth 100000 in
theorem step13_go {P : Nat → Prop} (c : Nat) (hc : c < 4) (R : Nat) (C : Array Value) (s : RS) (w : World) (hP : ∀ b, w.heap.size ≤ b → P b) (hPR : ∀ b, P b → b ≠ R) (hR : HB w R C 41) (hA : RunA C s) (f g f2 g2 f4 g4 : Fr) (x y : Int) (lw lw2 : List Int)
    (hTm : Live P w (s.m c) c f x) (hTh : Live P w (s.h c) c g x) (hCv : CellsV P w (s.w 0) lw) (hD1 : DiskV P w (s.w 1)) (hD2 : DiskV P w (s.w 2)) (k a bb v : Int) (hOk : OkA k a bb v 0) (hk : k < 6) (k2 a2 b2 v2 : Int) (l2 : List Int) (hOk2 : OkA k2 a2 b2 v2 l2.length) (hk2 : k2 < 6)
    (hN1 : ∀ vv w, GotV w vv x → Calls Try.prog 32 #[.agg f.cells, vv] w fun e w' => AnsB w w' e f2 k a bb v [] ∧ Below w.heap.size w w')
    (hR1 : ∀ vv w, GotV w vv x → Calls Try.prog 53 #[.agg g.cells, vv] w fun e w' => AnsB w w' e g2 k a bb v [] ∧ Below w.heap.size w w')
    (hN2 : ∀ vv w, GotV w vv y → Calls Try.prog 32 #[.agg f2.cells, vv] w fun e w' => AnsB w w' e f4 k2 a2 b2 v2 l2 ∧ Below w.heap.size w w')
    (hR2 : ∀ vv w, GotV w vv y → Calls Try.prog 53 #[.agg g2.cells, vv] w fun e w' => AnsB w w' e g4 k2 a2 b2 v2 l2 ∧ Below w.heap.size w w')
    (hDo : DoB k a bb v y lw lw2) : Calls Try.prog 16 #[.pointer (some ⟨R, 0, none⟩), .int .i64 c] w fun e w' => e = .returned (.tuple #[.slice none 0 0, .bool false, .bool true]) ∧ Step13 P R c s f2 g2 y lw2 false w w' := by
  have HMT := Lib.hid (Mem.startR hR)
  have HM := Lib.hid HMT.out.re
  have HOL : Hid (∀ b, P b → b < w.heap.size → Cn P (OL [(R, C, 41)]) w.heap.size b) := Lib.hid (fun b hb hlt => ⟨hb, (by rintro ⟨i, C2, t2, hi⟩; match i, hi with | 0, hi => simp at hi; exact hPR b hb hi.1.symm | i + 1, hi => simp at hi), hlt⟩)
  have HP := Lib.hid hP
  have HPR := Lib.hid hPR
  have HA := Lib.hid hA
  have HTmc := Lib.hid hTm.task
  have HThc := Lib.hid hTh.task
  have HTm := Lib.hid (hTm.weak HOL.out)
  have HTh := Lib.hid (hTh.weak HOL.out)
  have hc4 : (0 : Int) ≤ (c : Int) ∧ (c : Int) < 4 := ⟨by omega, by omega⟩
  have HC4 := Lib.hid hc4
  obtain ⟨Tm, eTm⟩ : ∃ T, s.m c = T := ⟨_, rfl⟩
  obtain ⟨Th, eTh⟩ : ∃ T, s.h c = T := ⟨_, rfl⟩
  rw [eTm] at HTm HTmc
  rw [eTh] at HTh HThc
  have ETm := Lib.hid eTm
  have ETh := Lib.hid eTh
  have HCv := Lib.hid (hCv.weak HOL.out)
  have HD1 := Lib.hid (hD1.weak HOL.out)
  have HD2 := Lib.hid (hD2.weak HOL.out)
  have HOk := Lib.hid hOk
  have HOk2 := Lib.hid hOk2
  have HK := Lib.hid hk
  have HK2 := Lib.hid hk2
  have HN1 := Lib.hid hN1
  have HR1 := Lib.hid hR1
  have HN2 := Lib.hid hN2
  have HR2 := Lib.hid hR2
  have HDo := Lib.hid hDo
  obtain ⟨cv, ecv⟩ : ∃ T, s.w 0 = T := ⟨_, rfl⟩
  obtain ⟨d1, ed1⟩ : ∃ T, s.w 1 = T := ⟨_, rfl⟩
  obtain ⟨d2, ed2⟩ : ∃ T, s.w 2 = T := ⟨_, rfl⟩
  rw [ecv] at HCv
  rw [ed1] at HD1
  rw [ed2] at HD2
  obtain ⟨b0, o0, p0, rfl, -⟩ := HCv.out
  obtain ⟨b1, o1, p1, rfl, -⟩ := HD1.out
  obtain ⟨b2_, o2, p2, rfl, -⟩ := HD2.out
  have ECv := Lib.hid (And.intro ecv (And.intro ed1 ed2))
  have HW0 : Hid (C[0]? = some (.slice (some ⟨b0, o0, none⟩) 771 p0)) := Lib.hid (by rw [HA.out.w 0 (by omega), ecv])
  have HW1 : Hid (C[1]? = some (.slice (some ⟨b1, o1, none⟩) 33 p1)) := Lib.hid (by rw [HA.out.w 1 (by omega), ed1])
  have HW2 : Hid (C[2]? = some (.slice (some ⟨b2_, o2, none⟩) 33 p2)) := Lib.hid (by rw [HA.out.w 2 (by omega), ed2])
  clear hP hPR hR hA hTm hTh hCv hD1 hD2 hOk hk hOk2 hk2 hN1 hR1 hN2 hR2 hDo hc4 eTm eTh ecv ed1 ed2 HOL
  go_enter Try.func16, Try.ntmps16
  go_wp2_with (first
    | (refine wpm_ldM HM HA rfl (.tmp 21) rfl 0 rfl c hc rfl Tm ETm.out HTmc.out ?_))
  refine (goes13pg _ (HM.out.nw (fun b hb => HP.out b (Nat.le_trans HMT.out.size (Nat.le_trans HM.out.size hb)))) HC4.out (HTm.out.now HM.out) k a bb v [] HOk.out HK.out HN1.out).mono ?_
  rintro e W1 ⟨⟨T1, ao1, ac1, rfl, hl⟩, hb⟩
  replace HM := Lib.hid (HM.out.below hb)
  replace HTm := Lib.hid (HTm.out.step HM.out)
  replace HTh := Lib.hid (HTh.out.step HM.out)
  replace HCv := Lib.hid (HCv.out.step HM.out)
  replace HD1 := Lib.hid (HD1.out.step HM.out)
  replace HD2 := Lib.hid (HD2.out.step HM.out)
  replace HMT := Lib.hid (HMT.out.tr HM.out)
  replace HM := Lib.hid HM.out.re
  have HT1 := Lib.hid hl.cn
  have HT1c := Lib.hid hl.task
  clear hb hl
  go_wp2_with (first
    | (refine wpm_al38 HM rfl rfl ?_; intro A7 hM; (try simp only [List.cons_append, List.nil_append, List.set_cons_succ, List.set_cons_zero, Nat.reduceAdd] at hM); replace HM := hM; clear hM)
    | (refine wpm_al59 HM rfl rfl ?_; intro A8 hM; (try simp only [List.cons_append, List.nil_append, List.set_cons_succ, List.set_cons_zero, Nat.reduceAdd] at hM); replace HM := hM; clear hM)
    | (refine wpm_st38 HM rfl (.tmp 7) (.tmp 24) rfl 1 rfl TaskC.zero.size T1 rfl rfl HT1c.out ?_; intro W hM; (try simp only [List.cons_append, List.nil_append, List.set_cons_succ, List.set_cons_zero, Nat.reduceAdd] at hM); replace HM := hM; clear hM)
    | (refine wpm_st59 HM rfl (.tmp 8) (.tmp 25) rfl 2 rfl rfl k a bb v 0 ao1 0 ac1 rfl rfl ?_; intro W hM; (try simp only [List.cons_append, List.nil_append, List.set_cons_succ, List.set_cons_zero, Nat.reduceAdd] at hM); replace HM := hM; clear hM)
    | (refine wpm_ldH HM HA rfl (.tmp 32) rfl 0 rfl c hc rfl Th ETh.out HThc.out ?_))
  refine (goes13rg _ (HM.out.nw (fun b hb => HP.out b (Nat.le_trans HMT.out.size (Nat.le_trans HM.out.size hb)))) HC4.out (HTh.out.now HM.out) k a bb v [] HOk.out HK.out HR1.out).mono ?_
  rintro e W2 ⟨⟨U1, ao2, ac2, rfl, hl⟩, hb⟩
  replace HM := Lib.hid (HM.out.below hb)
  replace HTm := Lib.hid (HTm.out.step HM.out)
  replace HTh := Lib.hid (HTh.out.step HM.out)
  replace HCv := Lib.hid (HCv.out.step HM.out)
  replace HD1 := Lib.hid (HD1.out.step HM.out)
  replace HD2 := Lib.hid (HD2.out.step HM.out)
  replace HT1 := Lib.hid (HT1.out.step HM.out)
  replace HMT := Lib.hid (HMT.out.tr HM.out)
  replace HM := Lib.hid HM.out.re
  have HU1 := Lib.hid hl.cn
  have HU1c := Lib.hid hl.task
  clear hb hl
  go_wp2_with (first
    | (refine wpm_al38 HM rfl rfl ?_; intro A10 hM; (try simp only [List.cons_append, List.nil_append, List.set_cons_succ, List.set_cons_zero, Nat.reduceAdd] at hM); replace HM := hM; clear hM)
    | (refine wpm_al59 HM rfl rfl ?_; intro A11 hM; (try simp only [List.cons_append, List.nil_append, List.set_cons_succ, List.set_cons_zero, Nat.reduceAdd] at hM); replace HM := hM; clear hM)
    | (refine wpm_st38 HM rfl (.tmp 10) (.tmp 35) rfl 3 rfl TaskC.zero.size U1 rfl rfl HU1c.out ?_; intro W hM; (try simp only [List.cons_append, List.nil_append, List.set_cons_succ, List.set_cons_zero, Nat.reduceAdd] at hM); replace HM := hM; clear hM)
    | (refine wpm_st59 HM rfl (.tmp 11) (.tmp 36) rfl 4 rfl rfl k a bb v 0 ao2 0 ac2 rfl rfl ?_; intro W hM; (try simp only [List.cons_append, List.nil_append, List.set_cons_succ, List.set_cons_zero, Nat.reduceAdd] at hM); replace HM := hM; clear hM; have p0 := (HM.out.hb 2 _ _ _ rfl).cell (k := 0) (v := .int .i8 k) rfl; have p1 := (HM.out.hb 2 _ _ _ rfl).cell (k := 1) (v := .int .i64 a) rfl; have p2 := (HM.out.hb 2 _ _ _ rfl).cell (k := 2) (v := .int .i64 bb) rfl; have p3 := (HM.out.hb 2 _ _ _ rfl).cell (k := 3) (v := .int .i64 v) rfl; have p4 := (HM.out.hb 2 _ _ _ rfl).cell (k := 4) (v := .int .i64 0) rfl; have p5 := (HM.out.hb 2 _ _ _ rfl).cell (k := 5) (v := .string ByteArray.empty) rfl; have p6 := (HM.out.hb 2 _ _ _ rfl).cell (k := 6) (v := .slice ao1 0 ac1) rfl; have q0 := (HM.out.hb 4 _ _ _ rfl).cell (k := 0) (v := .int .i8 k) rfl; have q1 := (HM.out.hb 4 _ _ _ rfl).cell (k := 1) (v := .int .i64 a) rfl; have q2 := (HM.out.hb 4 _ _ _ rfl).cell (k := 2) (v := .int .i64 bb) rfl; have q3 := (HM.out.hb 4 _ _ _ rfl).cell (k := 3) (v := .int .i64 v) rfl; have q4 := (HM.out.hb 4 _ _ _ rfl).cell (k := 4) (v := .int .i64 0) rfl; have q5 := (HM.out.hb 4 _ _ _ rfl).cell (k := 5) (v := .string ByteArray.empty) rfl; have q6 := (HM.out.hb 4 _ _ _ rfl).cell (k := 6) (v := .slice ao2 0 ac2) rfl))
  refine (same_actB k a bb v (.slice ao1 0 ac1) (.slice ao2 0 ac2) [] _ (ints0 0 _ ao1 ac1) (ints0 0 _ ao2 ac2) (by simp)).mono ?_
  rintro e W4 ⟨rfl, hb⟩
  clear p0 p1 p2 p3 p4 p5 p6 q0 q1 q2 q3 q4 q5 q6
  replace HM := Lib.hid (HM.out.below hb)
  clear hb
  go_wp2_with fail
  replace HM := Lib.hid HM.out.drew
  have HF : Hid (∀ p ∈ ([(⟨R, 0, none⟩, .slice (some ⟨b0, o0, none⟩) 771 p0), (⟨R, 1, none⟩, .slice (some ⟨b1, o1, none⟩) 33 p1), (⟨R, 2, none⟩, .slice (some ⟨b2_, o2, none⟩) 33 p2), (⟨A7.heap.size, 0, none⟩, .int .i8 k), (⟨A7.heap.size, 1, none⟩, .int .i64 a), (⟨A7.heap.size, 2, none⟩, .int .i64 bb), (⟨A7.heap.size, 3, none⟩, .int .i64 v), (⟨A7.heap.size, 4, none⟩, .int .i64 0), (⟨A7.heap.size, 5, none⟩, .string ByteArray.empty), (⟨A7.heap.size, 6, none⟩, .slice ao1 0 ac1)] : List (Addr × Value)), World.cell? _ p.1 = some p.2) := Lib.hid (allc ((HM.out.hb 0 _ _ _ rfl).cell (k := 0) HW0.out) (allc ((HM.out.hb 0 _ _ _ rfl).cell (k := 1) HW1.out) (allc ((HM.out.hb 0 _ _ _ rfl).cell (k := 2) HW2.out) (allc ((HM.out.hb 2 _ _ _ rfl).cell (k := 0) rfl) (allc ((HM.out.hb 2 _ _ _ rfl).cell (k := 1) rfl) (allc ((HM.out.hb 2 _ _ _ rfl).cell (k := 2) rfl) (allc ((HM.out.hb 2 _ _ _ rfl).cell (k := 3) rfl) (allc ((HM.out.hb 2 _ _ _ rfl).cell (k := 4) rfl) (allc ((HM.out.hb 2 _ _ _ rfl).cell (k := 5) rfl) (allc ((HM.out.hb 2 _ _ _ rfl).cell (k := 6) rfl) (alln _)))))))))))
  haveI : Inhabited (CW [(⟨R, 0, none⟩, .slice (some ⟨b0, o0, none⟩) 771 p0), (⟨R, 1, none⟩, .slice (some ⟨b1, o1, none⟩) 33 p1), (⟨R, 2, none⟩, .slice (some ⟨b2_, o2, none⟩) 33 p2), (⟨A7.heap.size, 0, none⟩, .int .i8 k), (⟨A7.heap.size, 1, none⟩, .int .i64 a), (⟨A7.heap.size, 2, none⟩, .int .i64 bb), (⟨A7.heap.size, 3, none⟩, .int .i64 v), (⟨A7.heap.size, 4, none⟩, .int .i64 0), (⟨A7.heap.size, 5, none⟩, .string ByteArray.empty), (⟨A7.heap.size, 6, none⟩, .slice ao1 0 ac1)]) := ⟨⟨_, HF.out⟩⟩
  have f0 : ∀ q : CW [(⟨R, 0, none⟩, .slice (some ⟨b0, o0, none⟩) 771 p0), (⟨R, 1, none⟩, .slice (some ⟨b1, o1, none⟩) 33 p1), (⟨R, 2, none⟩, .slice (some ⟨b2_, o2, none⟩) 33 p2), (⟨A7.heap.size, 0, none⟩, .int .i8 k), (⟨A7.heap.size, 1, none⟩, .int .i64 a), (⟨A7.heap.size, 2, none⟩, .int .i64 bb), (⟨A7.heap.size, 3, none⟩, .int .i64 v), (⟨A7.heap.size, 4, none⟩, .int .i64 0), (⟨A7.heap.size, 5, none⟩, .string ByteArray.empty), (⟨A7.heap.size, 6, none⟩, .slice ao1 0 ac1)], q.1.cell? ⟨R, 0, none⟩ = some (.slice (some ⟨b0, o0, none⟩) 771 p0) := fun q => q.2 (⟨R, 0, none⟩, .slice (some ⟨b0, o0, none⟩) 771 p0) (by simp)
  have f1 : ∀ q : CW [(⟨R, 0, none⟩, .slice (some ⟨b0, o0, none⟩) 771 p0), (⟨R, 1, none⟩, .slice (some ⟨b1, o1, none⟩) 33 p1), (⟨R, 2, none⟩, .slice (some ⟨b2_, o2, none⟩) 33 p2), (⟨A7.heap.size, 0, none⟩, .int .i8 k), (⟨A7.heap.size, 1, none⟩, .int .i64 a), (⟨A7.heap.size, 2, none⟩, .int .i64 bb), (⟨A7.heap.size, 3, none⟩, .int .i64 v), (⟨A7.heap.size, 4, none⟩, .int .i64 0), (⟨A7.heap.size, 5, none⟩, .string ByteArray.empty), (⟨A7.heap.size, 6, none⟩, .slice ao1 0 ac1)], q.1.cell? ⟨R, 1, none⟩ = some (.slice (some ⟨b1, o1, none⟩) 33 p1) := fun q => q.2 (⟨R, 1, none⟩, .slice (some ⟨b1, o1, none⟩) 33 p1) (by simp)
  have f2 : ∀ q : CW [(⟨R, 0, none⟩, .slice (some ⟨b0, o0, none⟩) 771 p0), (⟨R, 1, none⟩, .slice (some ⟨b1, o1, none⟩) 33 p1), (⟨R, 2, none⟩, .slice (some ⟨b2_, o2, none⟩) 33 p2), (⟨A7.heap.size, 0, none⟩, .int .i8 k), (⟨A7.heap.size, 1, none⟩, .int .i64 a), (⟨A7.heap.size, 2, none⟩, .int .i64 bb), (⟨A7.heap.size, 3, none⟩, .int .i64 v), (⟨A7.heap.size, 4, none⟩, .int .i64 0), (⟨A7.heap.size, 5, none⟩, .string ByteArray.empty), (⟨A7.heap.size, 6, none⟩, .slice ao1 0 ac1)], q.1.cell? ⟨R, 2, none⟩ = some (.slice (some ⟨b2_, o2, none⟩) 33 p2) := fun q => q.2 (⟨R, 2, none⟩, .slice (some ⟨b2_, o2, none⟩) 33 p2) (by simp)
  have f3 : ∀ q : CW [(⟨R, 0, none⟩, .slice (some ⟨b0, o0, none⟩) 771 p0), (⟨R, 1, none⟩, .slice (some ⟨b1, o1, none⟩) 33 p1), (⟨R, 2, none⟩, .slice (some ⟨b2_, o2, none⟩) 33 p2), (⟨A7.heap.size, 0, none⟩, .int .i8 k), (⟨A7.heap.size, 1, none⟩, .int .i64 a), (⟨A7.heap.size, 2, none⟩, .int .i64 bb), (⟨A7.heap.size, 3, none⟩, .int .i64 v), (⟨A7.heap.size, 4, none⟩, .int .i64 0), (⟨A7.heap.size, 5, none⟩, .string ByteArray.empty), (⟨A7.heap.size, 6, none⟩, .slice ao1 0 ac1)], q.1.cell? ⟨A7.heap.size, 0, none⟩ = some (.int .i8 k) := fun q => q.2 (⟨A7.heap.size, 0, none⟩, .int .i8 k) (by simp)
  have f4 : ∀ q : CW [(⟨R, 0, none⟩, .slice (some ⟨b0, o0, none⟩) 771 p0), (⟨R, 1, none⟩, .slice (some ⟨b1, o1, none⟩) 33 p1), (⟨R, 2, none⟩, .slice (some ⟨b2_, o2, none⟩) 33 p2), (⟨A7.heap.size, 0, none⟩, .int .i8 k), (⟨A7.heap.size, 1, none⟩, .int .i64 a), (⟨A7.heap.size, 2, none⟩, .int .i64 bb), (⟨A7.heap.size, 3, none⟩, .int .i64 v), (⟨A7.heap.size, 4, none⟩, .int .i64 0), (⟨A7.heap.size, 5, none⟩, .string ByteArray.empty), (⟨A7.heap.size, 6, none⟩, .slice ao1 0 ac1)], q.1.cell? ⟨A7.heap.size, 1, none⟩ = some (.int .i64 a) := fun q => q.2 (⟨A7.heap.size, 1, none⟩, .int .i64 a) (by simp)
  have f5 : ∀ q : CW [(⟨R, 0, none⟩, .slice (some ⟨b0, o0, none⟩) 771 p0), (⟨R, 1, none⟩, .slice (some ⟨b1, o1, none⟩) 33 p1), (⟨R, 2, none⟩, .slice (some ⟨b2_, o2, none⟩) 33 p2), (⟨A7.heap.size, 0, none⟩, .int .i8 k), (⟨A7.heap.size, 1, none⟩, .int .i64 a), (⟨A7.heap.size, 2, none⟩, .int .i64 bb), (⟨A7.heap.size, 3, none⟩, .int .i64 v), (⟨A7.heap.size, 4, none⟩, .int .i64 0), (⟨A7.heap.size, 5, none⟩, .string ByteArray.empty), (⟨A7.heap.size, 6, none⟩, .slice ao1 0 ac1)], q.1.cell? ⟨A7.heap.size, 2, none⟩ = some (.int .i64 bb) := fun q => q.2 (⟨A7.heap.size, 2, none⟩, .int .i64 bb) (by simp)
  have f6 : ∀ q : CW [(⟨R, 0, none⟩, .slice (some ⟨b0, o0, none⟩) 771 p0), (⟨R, 1, none⟩, .slice (some ⟨b1, o1, none⟩) 33 p1), (⟨R, 2, none⟩, .slice (some ⟨b2_, o2, none⟩) 33 p2), (⟨A7.heap.size, 0, none⟩, .int .i8 k), (⟨A7.heap.size, 1, none⟩, .int .i64 a), (⟨A7.heap.size, 2, none⟩, .int .i64 bb), (⟨A7.heap.size, 3, none⟩, .int .i64 v), (⟨A7.heap.size, 4, none⟩, .int .i64 0), (⟨A7.heap.size, 5, none⟩, .string ByteArray.empty), (⟨A7.heap.size, 6, none⟩, .slice ao1 0 ac1)], q.1.cell? ⟨A7.heap.size, 3, none⟩ = some (.int .i64 v) := fun q => q.2 (⟨A7.heap.size, 3, none⟩, .int .i64 v) (by simp)
  have f7 : ∀ q : CW [(⟨R, 0, none⟩, .slice (some ⟨b0, o0, none⟩) 771 p0), (⟨R, 1, none⟩, .slice (some ⟨b1, o1, none⟩) 33 p1), (⟨R, 2, none⟩, .slice (some ⟨b2_, o2, none⟩) 33 p2), (⟨A7.heap.size, 0, none⟩, .int .i8 k), (⟨A7.heap.size, 1, none⟩, .int .i64 a), (⟨A7.heap.size, 2, none⟩, .int .i64 bb), (⟨A7.heap.size, 3, none⟩, .int .i64 v), (⟨A7.heap.size, 4, none⟩, .int .i64 0), (⟨A7.heap.size, 5, none⟩, .string ByteArray.empty), (⟨A7.heap.size, 6, none⟩, .slice ao1 0 ac1)], q.1.cell? ⟨A7.heap.size, 4, none⟩ = some (.int .i64 0) := fun q => q.2 (⟨A7.heap.size, 4, none⟩, .int .i64 0) (by simp)
  have f8 : ∀ q : CW [(⟨R, 0, none⟩, .slice (some ⟨b0, o0, none⟩) 771 p0), (⟨R, 1, none⟩, .slice (some ⟨b1, o1, none⟩) 33 p1), (⟨R, 2, none⟩, .slice (some ⟨b2_, o2, none⟩) 33 p2), (⟨A7.heap.size, 0, none⟩, .int .i8 k), (⟨A7.heap.size, 1, none⟩, .int .i64 a), (⟨A7.heap.size, 2, none⟩, .int .i64 bb), (⟨A7.heap.size, 3, none⟩, .int .i64 v), (⟨A7.heap.size, 4, none⟩, .int .i64 0), (⟨A7.heap.size, 5, none⟩, .string ByteArray.empty), (⟨A7.heap.size, 6, none⟩, .slice ao1 0 ac1)], q.1.cell? ⟨A7.heap.size, 5, none⟩ = some (.string ByteArray.empty) := fun q => q.2 (⟨A7.heap.size, 5, none⟩, .string ByteArray.empty) (by simp)
  have f9 : ∀ q : CW [(⟨R, 0, none⟩, .slice (some ⟨b0, o0, none⟩) 771 p0), (⟨R, 1, none⟩, .slice (some ⟨b1, o1, none⟩) 33 p1), (⟨R, 2, none⟩, .slice (some ⟨b2_, o2, none⟩) 33 p2), (⟨A7.heap.size, 0, none⟩, .int .i8 k), (⟨A7.heap.size, 1, none⟩, .int .i64 a), (⟨A7.heap.size, 2, none⟩, .int .i64 bb), (⟨A7.heap.size, 3, none⟩, .int .i64 v), (⟨A7.heap.size, 4, none⟩, .int .i64 0), (⟨A7.heap.size, 5, none⟩, .string ByteArray.empty), (⟨A7.heap.size, 6, none⟩, .slice ao1 0 ac1)], q.1.cell? ⟨A7.heap.size, 6, none⟩ = some (.slice ao1 0 ac1) := fun q => q.2 (⟨A7.heap.size, 6, none⟩, .slice ao1 0 ac1) (by simp)
  (try simp only [Act.put, List.setIfInBounds_toArray, List.set_cons_succ, List.set_cons_zero])
  refine wp_region_noPanic ?_
  refine wp_region_plw (.step [true, true, true, true, true] (.cons 5 (.step [false, false, false, false, false, false, true, true, true, true] (.cons 10 (.step [] (.cons 11 (.last [false, false, false, false, false, false, false, false, false, false, false, false, true, true]) .nil)) .nil)) (.cons 10 (.step [] (.cons 5 (.step [false, false, false, false, false, false, true, true, true, true] (.cons 11 (.last [false, false, false, false, false, false, false, false, false, false, false, false, true, true]) .nil)) .nil)) .nil))) (fun y => ∃ q : CW [(⟨R, 0, none⟩, .slice (some ⟨b0, o0, none⟩) 771 p0), (⟨R, 1, none⟩, .slice (some ⟨b1, o1, none⟩) 33 p1), (⟨R, 2, none⟩, .slice (some ⟨b2_, o2, none⟩) 33 p2), (⟨A7.heap.size, 0, none⟩, .int .i8 k), (⟨A7.heap.size, 1, none⟩, .int .i64 a), (⟨A7.heap.size, 2, none⟩, .int .i64 bb), (⟨A7.heap.size, 3, none⟩, .int .i64 v), (⟨A7.heap.size, 4, none⟩, .int .i64 0), (⟨A7.heap.size, 5, none⟩, .string ByteArray.empty), (⟨A7.heap.size, 6, none⟩, .slice ao1 0 ac1)], y = q.1) (by kernel_rfl) (by kernel_rfl) (by kernel_rfl) (fun _ _ _ _ _ _ _ h => h) ⟨⟨_, HF.out⟩, rfl⟩ ?_
  simp only [wpPw, wpBw, selF, and_true]
  generalize W4.drew = V1 at *
  repeat (go_big_quiet_step (fail))
  refine wpQuiet_nil ?_
  refine ⟨?_, ?_⟩
  · refine wpOp_step rfl (fun K hK => ?_)
    go_simp
    refine (HDo.out _ _ _ _ _ ao1 ac1 (HM.out.nw (fun b hb => HP.out b (Nat.le_trans HMT.out.size (Nat.le_trans HM.out.size hb)))) (HCv.out.now HM.out) (HD1.out.now HM.out) (HD2.out.now HM.out)).mono ?_
    rintro e V2 ⟨⟨cv2, rfl, hcv⟩, hb⟩
    replace HM := Lib.hid (HM.out.below hb)
    replace HTm := Lib.hid (HTm.out.step HM.out)
    replace HTh := Lib.hid (HTh.out.step HM.out)
    replace HCv := Lib.hid (HCv.out.step HM.out)
    replace HD1 := Lib.hid (HD1.out.step HM.out)
    replace HD2 := Lib.hid (HD2.out.step HM.out)
    replace HT1 := Lib.hid (HT1.out.step HM.out)
    replace HU1 := Lib.hid (HU1.out.step HM.out)
    replace HMT := Lib.hid (HMT.out.tr HM.out)
    replace HM := Lib.hid HM.out.re
    clear hb
    have HCx := Lib.hid hcv.cn
    obtain ⟨b3, o3, p3, rfl, -⟩ := hcv
    refine hK _ _ ⟨(fun y => ∃ q : CW [(⟨R, 0, none⟩, .slice (some ⟨b0, o0, none⟩) 771 p0), (⟨R, 1, none⟩, .slice (some ⟨b1, o1, none⟩) 33 p1), (⟨R, 2, none⟩, .slice (some ⟨b2_, o2, none⟩) 33 p2), (⟨A7.heap.size, 0, none⟩, .int .i8 k), (⟨A7.heap.size, 1, none⟩, .int .i64 a), (⟨A7.heap.size, 2, none⟩, .int .i64 bb), (⟨A7.heap.size, 3, none⟩, .int .i64 v), (⟨A7.heap.size, 4, none⟩, .int .i64 0), (⟨A7.heap.size, 5, none⟩, .string ByteArray.empty), (⟨A7.heap.size, 6, none⟩, .slice ao1 0 ac1)], y = q.1), ⟨⟨_, (allc ((HM.out.hb 0 _ _ _ rfl).cell (k := 0) HW0.out) (allc ((HM.out.hb 0 _ _ _ rfl).cell (k := 1) HW1.out) (allc ((HM.out.hb 0 _ _ _ rfl).cell (k := 2) HW2.out) (allc ((HM.out.hb 2 _ _ _ rfl).cell (k := 0) rfl) (allc ((HM.out.hb 2 _ _ _ rfl).cell (k := 1) rfl) (allc ((HM.out.hb 2 _ _ _ rfl).cell (k := 2) rfl) (allc ((HM.out.hb 2 _ _ _ rfl).cell (k := 3) rfl) (allc ((HM.out.hb 2 _ _ _ rfl).cell (k := 4) rfl) (allc ((HM.out.hb 2 _ _ _ rfl).cell (k := 5) rfl) (allc ((HM.out.hb 2 _ _ _ rfl).cell (k := 6) rfl) (alln _)))))))))))⟩, rfl⟩, fun _ h => h, ?_⟩
    clear hK K
    (try simp only [Act.put, List.setIfInBounds_toArray, List.set_cons_succ, List.set_cons_zero])
    repeat (go_big_quiet_step (fail))
    refine wpQuiet_nil ?_
    refine wpOp_step rfl (fun K hK => ?_)
    rw [if_pos (by rfl)]
    refine wpOm_al HM 35 rfl 13 rfl _ zer35 ?_
    intro V3 hM
    (try simp only [List.cons_append, List.nil_append, List.set_cons_succ, List.set_cons_zero, Nat.reduceAdd] at hM)
    replace HM := hM
    clear hM
    refine hK _ _ ⟨(fun y => ∃ q : CW [(⟨R, 0, none⟩, .slice (some ⟨b0, o0, none⟩) 771 p0), (⟨R, 1, none⟩, .slice (some ⟨b1, o1, none⟩) 33 p1), (⟨R, 2, none⟩, .slice (some ⟨b2_, o2, none⟩) 33 p2), (⟨A7.heap.size, 0, none⟩, .int .i8 k), (⟨A7.heap.size, 1, none⟩, .int .i64 a), (⟨A7.heap.size, 2, none⟩, .int .i64 bb), (⟨A7.heap.size, 3, none⟩, .int .i64 v), (⟨A7.heap.size, 4, none⟩, .int .i64 0), (⟨A7.heap.size, 5, none⟩, .string ByteArray.empty), (⟨A7.heap.size, 6, none⟩, .slice ao1 0 ac1)], y = q.1), ⟨⟨_, (allc ((HM.out.hb 0 _ _ _ rfl).cell (k := 0) HW0.out) (allc ((HM.out.hb 0 _ _ _ rfl).cell (k := 1) HW1.out) (allc ((HM.out.hb 0 _ _ _ rfl).cell (k := 2) HW2.out) (allc ((HM.out.hb 2 _ _ _ rfl).cell (k := 0) rfl) (allc ((HM.out.hb 2 _ _ _ rfl).cell (k := 1) rfl) (allc ((HM.out.hb 2 _ _ _ rfl).cell (k := 2) rfl) (allc ((HM.out.hb 2 _ _ _ rfl).cell (k := 3) rfl) (allc ((HM.out.hb 2 _ _ _ rfl).cell (k := 4) rfl) (allc ((HM.out.hb 2 _ _ _ rfl).cell (k := 5) rfl) (allc ((HM.out.hb 2 _ _ _ rfl).cell (k := 6) rfl) (alln _)))))))))))⟩, rfl⟩, fun _ h => h, ?_⟩
    clear hK K
    (try simp only [Act.put, List.setIfInBounds_toArray, List.set_cons_succ, List.set_cons_zero])
    refine wpQuiet_nil ?_
    refine wpOp_step rfl (fun K hK => ?_)
    rw [if_pos (by rfl)]
    refine wpOm_st HM 35 (.tmp 13) (.tmp 81) rfl rfl 5 rfl #[.slice (some ⟨b3, o3, none⟩) 771 p3, .slice (some ⟨b1, o1, none⟩) 33 p1, .slice (some ⟨b2_, o2, none⟩) 33 p2] rfl rfl 3 inf35 rfl rfl (w35_one _ _ _ _ _ _ _ _ _) ?_
    intro V4 hM
    (try simp only [List.cons_append, List.nil_append, List.set_cons_succ, List.set_cons_zero, Nat.reduceAdd] at hM)
    replace HM := hM
    clear hM
    refine hK _ _ ⟨(fun y => ∃ q : CW [(⟨R, 0, none⟩, .slice (some ⟨b0, o0, none⟩) 771 p0), (⟨R, 1, none⟩, .slice (some ⟨b1, o1, none⟩) 33 p1), (⟨R, 2, none⟩, .slice (some ⟨b2_, o2, none⟩) 33 p2), (⟨A7.heap.size, 0, none⟩, .int .i8 k), (⟨A7.heap.size, 1, none⟩, .int .i64 a), (⟨A7.heap.size, 2, none⟩, .int .i64 bb), (⟨A7.heap.size, 3, none⟩, .int .i64 v), (⟨A7.heap.size, 4, none⟩, .int .i64 0), (⟨A7.heap.size, 5, none⟩, .string ByteArray.empty), (⟨A7.heap.size, 6, none⟩, .slice ao1 0 ac1)], y = q.1), ⟨⟨_, (allc ((HM.out.hb 0 _ _ _ rfl).cell (k := 0) HW0.out) (allc ((HM.out.hb 0 _ _ _ rfl).cell (k := 1) HW1.out) (allc ((HM.out.hb 0 _ _ _ rfl).cell (k := 2) HW2.out) (allc ((HM.out.hb 2 _ _ _ rfl).cell (k := 0) rfl) (allc ((HM.out.hb 2 _ _ _ rfl).cell (k := 1) rfl) (allc ((HM.out.hb 2 _ _ _ rfl).cell (k := 2) rfl) (allc ((HM.out.hb 2 _ _ _ rfl).cell (k := 3) rfl) (allc ((HM.out.hb 2 _ _ _ rfl).cell (k := 4) rfl) (allc ((HM.out.hb 2 _ _ _ rfl).cell (k := 5) rfl) (allc ((HM.out.hb 2 _ _ _ rfl).cell (k := 6) rfl) (alln _)))))))))))⟩, rfl⟩, fun _ h => h, ?_⟩
    clear hK K
    (try simp only [Act.put, List.setIfInBounds_toArray, List.set_cons_succ, List.set_cons_zero])
    repeat (go_big_quiet_step (fail))
    refine wpQuiet_nil ?_
    refine NoPanic.normal ?_
    clear f0 f1 f2 f3 f4 f5 f6 f7 f8 f9 HF
    go_wp2_with (first
      | (refine wpm_ld35 HM rfl (.tmp 13) rfl 5 rfl rfl rfl ?_)
      | (refine wpm_stW HM HA rfl (.tmp 89) (.tmp 87) rfl 0 rfl _ _ _ _ _ _ _ _ _ rfl rfl (fun j => if j = 0 then .slice (some ⟨b3, o3, none⟩) 771 p3 else s.w j) rfl ECv.out.2.1 ECv.out.2.2 ?_; clear HA HW0 HW1 HW2; intro W11 C11 HA hM; (try simp only [List.cons_append, List.nil_append, List.set_cons_succ, List.set_cons_zero, Nat.reduceAdd] at hM); replace HM := hM; clear hM))
    obtain ⟨tac, taao, tan, tacap, tago, tagn, tagc, tay, rfl⟩ := HT1c.out
    replace HM := Lib.hid HM.out.drew
    have HF : Hid (∀ p ∈ ([(⟨W1.heap.size, 0, none⟩, .int .i64 tac), (⟨W1.heap.size, 1, none⟩, .slice taao tan tacap), (⟨W1.heap.size, 2, none⟩, .slice tago tagn tagc), (⟨W1.heap.size, 3, none⟩, .bool tay)] : List (Addr × Value)), World.cell? _ p.1 = some p.2) := Lib.hid (allc ((HM.out.hb 1 _ _ _ rfl).cell (k := 0) rfl) (allc ((HM.out.hb 1 _ _ _ rfl).cell (k := 1) rfl) (allc ((HM.out.hb 1 _ _ _ rfl).cell (k := 2) rfl) (allc ((HM.out.hb 1 _ _ _ rfl).cell (k := 3) rfl) (alln _)))))
    haveI : Inhabited (CW [(⟨W1.heap.size, 0, none⟩, .int .i64 tac), (⟨W1.heap.size, 1, none⟩, .slice taao tan tacap), (⟨W1.heap.size, 2, none⟩, .slice tago tagn tagc), (⟨W1.heap.size, 3, none⟩, .bool tay)]) := ⟨⟨_, HF.out⟩⟩
    have f0 : ∀ q : CW [(⟨W1.heap.size, 0, none⟩, .int .i64 tac), (⟨W1.heap.size, 1, none⟩, .slice taao tan tacap), (⟨W1.heap.size, 2, none⟩, .slice tago tagn tagc), (⟨W1.heap.size, 3, none⟩, .bool tay)], q.1.cell? ⟨W1.heap.size, 0, none⟩ = some (.int .i64 tac) := fun q => q.2 (⟨W1.heap.size, 0, none⟩, .int .i64 tac) (by simp)
    have f1 : ∀ q : CW [(⟨W1.heap.size, 0, none⟩, .int .i64 tac), (⟨W1.heap.size, 1, none⟩, .slice taao tan tacap), (⟨W1.heap.size, 2, none⟩, .slice tago tagn tagc), (⟨W1.heap.size, 3, none⟩, .bool tay)], q.1.cell? ⟨W1.heap.size, 1, none⟩ = some (.slice taao tan tacap) := fun q => q.2 (⟨W1.heap.size, 1, none⟩, .slice taao tan tacap) (by simp)
    have f2 : ∀ q : CW [(⟨W1.heap.size, 0, none⟩, .int .i64 tac), (⟨W1.heap.size, 1, none⟩, .slice taao tan tacap), (⟨W1.heap.size, 2, none⟩, .slice tago tagn tagc), (⟨W1.heap.size, 3, none⟩, .bool tay)], q.1.cell? ⟨W1.heap.size, 2, none⟩ = some (.slice tago tagn tagc) := fun q => q.2 (⟨W1.heap.size, 2, none⟩, .slice tago tagn tagc) (by simp)
    have f3 : ∀ q : CW [(⟨W1.heap.size, 0, none⟩, .int .i64 tac), (⟨W1.heap.size, 1, none⟩, .slice taao tan tacap), (⟨W1.heap.size, 2, none⟩, .slice tago tagn tagc), (⟨W1.heap.size, 3, none⟩, .bool tay)], q.1.cell? ⟨W1.heap.size, 3, none⟩ = some (.bool tay) := fun q => q.2 (⟨W1.heap.size, 3, none⟩, .bool tay) (by simp)
    (try simp only [Act.put, List.setIfInBounds_toArray, List.set_cons_succ, List.set_cons_zero])
    refine wp_region_noPanic ?_
    refine wp_region_plw (.step [true, true, true, true, false, false, false, false, true, true] (.cons 4 (.step [false, false, false, false, false, true, true, true, false, false, true] (.cons 11 (.last []) .nil)) .nil)) (fun y => ∃ q : CW [(⟨W1.heap.size, 0, none⟩, .int .i64 tac), (⟨W1.heap.size, 1, none⟩, .slice taao tan tacap), (⟨W1.heap.size, 2, none⟩, .slice tago tagn tagc), (⟨W1.heap.size, 3, none⟩, .bool tay)], y = q.1) (by kernel_rfl) (by kernel_rfl) (by kernel_rfl) (fun _ _ _ _ _ _ _ h => h) ⟨⟨_, HF.out⟩, rfl⟩ ?_
    simp only [wpPw, wpBw, selF, and_true]
    generalize W11.drew = V5 at *
    repeat (go_big_quiet_step (fail))
    refine wpQuiet_nil ?_
    refine wpOp_step rfl (fun K hK => ?_)
    go_simp
    refine (give_p _ (HM.out.nw (fun b hb => HP.out b (Nat.le_trans HMT.out.size (Nat.le_trans HM.out.size hb)))) HC4.out (HT1.out.now HM.out) y).mono ?_
    rintro e V6 ⟨⟨HT2v, rfl, hl⟩, hb⟩
    replace HM := Lib.hid (HM.out.below hb)
    replace HTm := Lib.hid (HTm.out.step HM.out)
    replace HTh := Lib.hid (HTh.out.step HM.out)
    replace HCv := Lib.hid (HCv.out.step HM.out)
    replace HD1 := Lib.hid (HD1.out.step HM.out)
    replace HD2 := Lib.hid (HD2.out.step HM.out)
    replace HT1 := Lib.hid (HT1.out.step HM.out)
    replace HU1 := Lib.hid (HU1.out.step HM.out)
    replace HCx := Lib.hid (HCx.out.step HM.out)
    replace HMT := Lib.hid (HMT.out.tr HM.out)
    replace HM := Lib.hid HM.out.re
    have HT2 := Lib.hid hl.cn
    have HT2c := Lib.hid hl.task
    clear hb hl
    refine hK _ _ ⟨(fun y => ∃ q : CW [(⟨W1.heap.size, 0, none⟩, .int .i64 tac), (⟨W1.heap.size, 1, none⟩, .slice taao tan tacap), (⟨W1.heap.size, 2, none⟩, .slice tago tagn tagc), (⟨W1.heap.size, 3, none⟩, .bool tay)], y = q.1), ⟨⟨_, (allc ((HM.out.hb 1 _ _ _ rfl).cell (k := 0) rfl) (allc ((HM.out.hb 1 _ _ _ rfl).cell (k := 1) rfl) (allc ((HM.out.hb 1 _ _ _ rfl).cell (k := 2) rfl) (allc ((HM.out.hb 1 _ _ _ rfl).cell (k := 3) rfl) (alln _)))))⟩, rfl⟩, fun _ h => h, ?_⟩
    clear hK K
    (try simp only [Act.put, List.setIfInBounds_toArray, List.set_cons_succ, List.set_cons_zero])
    repeat (go_big_quiet_step (fail))
    refine wpQuiet_nil ?_
    refine wpOp_step rfl (fun K hK => ?_)
    rw [if_pos (by rfl)]
    refine wpOm_stM HM HA (.tmp 100) (.tmp 96) rfl rfl 0 rfl c hc _ rfl rfl HT2c.out ?_
    clear HA
    intro V7 V7c HA hM
    (try simp only [List.cons_append, List.nil_append, List.set_cons_succ, List.set_cons_zero, Nat.reduceAdd] at hM)
    replace HM := hM
    clear hM
    refine hK _ _ ⟨(fun y => ∃ q : CW [(⟨W1.heap.size, 0, none⟩, .int .i64 tac), (⟨W1.heap.size, 1, none⟩, .slice taao tan tacap), (⟨W1.heap.size, 2, none⟩, .slice tago tagn tagc), (⟨W1.heap.size, 3, none⟩, .bool tay)], y = q.1), ⟨⟨_, (allc ((HM.out.hb 1 _ _ _ rfl).cell (k := 0) rfl) (allc ((HM.out.hb 1 _ _ _ rfl).cell (k := 1) rfl) (allc ((HM.out.hb 1 _ _ _ rfl).cell (k := 2) rfl) (allc ((HM.out.hb 1 _ _ _ rfl).cell (k := 3) rfl) (alln _)))))⟩, rfl⟩, fun _ h => h, ?_⟩
    clear hK K
    (try simp only [Act.put, List.setIfInBounds_toArray, List.set_cons_succ, List.set_cons_zero])
    refine wpQuiet_nil ?_
    refine NoPanic.normal ?_
    clear f0 f1 f2 f3 HF
    go_wp2_with fail
    obtain ⟨uac, uaao, uan, uacap, uago, uagn, uagc, uay, rfl⟩ := HU1c.out
    replace HM := Lib.hid HM.out.drew
    have HF : Hid (∀ p ∈ ([(⟨W2.heap.size, 0, none⟩, .int .i64 uac), (⟨W2.heap.size, 1, none⟩, .slice uaao uan uacap), (⟨W2.heap.size, 2, none⟩, .slice uago uagn uagc), (⟨W2.heap.size, 3, none⟩, .bool uay)] : List (Addr × Value)), World.cell? _ p.1 = some p.2) := Lib.hid (allc ((HM.out.hb 3 _ _ _ rfl).cell (k := 0) rfl) (allc ((HM.out.hb 3 _ _ _ rfl).cell (k := 1) rfl) (allc ((HM.out.hb 3 _ _ _ rfl).cell (k := 2) rfl) (allc ((HM.out.hb 3 _ _ _ rfl).cell (k := 3) rfl) (alln _)))))
    haveI : Inhabited (CW [(⟨W2.heap.size, 0, none⟩, .int .i64 uac), (⟨W2.heap.size, 1, none⟩, .slice uaao uan uacap), (⟨W2.heap.size, 2, none⟩, .slice uago uagn uagc), (⟨W2.heap.size, 3, none⟩, .bool uay)]) := ⟨⟨_, HF.out⟩⟩
    have f0 : ∀ q : CW [(⟨W2.heap.size, 0, none⟩, .int .i64 uac), (⟨W2.heap.size, 1, none⟩, .slice uaao uan uacap), (⟨W2.heap.size, 2, none⟩, .slice uago uagn uagc), (⟨W2.heap.size, 3, none⟩, .bool uay)], q.1.cell? ⟨W2.heap.size, 0, none⟩ = some (.int .i64 uac) := fun q => q.2 (⟨W2.heap.size, 0, none⟩, .int .i64 uac) (by simp)
    have f1 : ∀ q : CW [(⟨W2.heap.size, 0, none⟩, .int .i64 uac), (⟨W2.heap.size, 1, none⟩, .slice uaao uan uacap), (⟨W2.heap.size, 2, none⟩, .slice uago uagn uagc), (⟨W2.heap.size, 3, none⟩, .bool uay)], q.1.cell? ⟨W2.heap.size, 1, none⟩ = some (.slice uaao uan uacap) := fun q => q.2 (⟨W2.heap.size, 1, none⟩, .slice uaao uan uacap) (by simp)
    have f2 : ∀ q : CW [(⟨W2.heap.size, 0, none⟩, .int .i64 uac), (⟨W2.heap.size, 1, none⟩, .slice uaao uan uacap), (⟨W2.heap.size, 2, none⟩, .slice uago uagn uagc), (⟨W2.heap.size, 3, none⟩, .bool uay)], q.1.cell? ⟨W2.heap.size, 2, none⟩ = some (.slice uago uagn uagc) := fun q => q.2 (⟨W2.heap.size, 2, none⟩, .slice uago uagn uagc) (by simp)
    have f3 : ∀ q : CW [(⟨W2.heap.size, 0, none⟩, .int .i64 uac), (⟨W2.heap.size, 1, none⟩, .slice uaao uan uacap), (⟨W2.heap.size, 2, none⟩, .slice uago uagn uagc), (⟨W2.heap.size, 3, none⟩, .bool uay)], q.1.cell? ⟨W2.heap.size, 3, none⟩ = some (.bool uay) := fun q => q.2 (⟨W2.heap.size, 3, none⟩, .bool uay) (by simp)
    (try simp only [Act.put, List.setIfInBounds_toArray, List.set_cons_succ, List.set_cons_zero])
    refine wp_region_noPanic ?_
    refine wp_region_plw (.step [true, true, true, true, false, false, false, false, true, true] (.cons 4 (.step [false, false, false, false, false, true, true, true, false, false, true] (.cons 11 (.last []) .nil)) .nil)) (fun y => ∃ q : CW [(⟨W2.heap.size, 0, none⟩, .int .i64 uac), (⟨W2.heap.size, 1, none⟩, .slice uaao uan uacap), (⟨W2.heap.size, 2, none⟩, .slice uago uagn uagc), (⟨W2.heap.size, 3, none⟩, .bool uay)], y = q.1) (by kernel_rfl) (by kernel_rfl) (by kernel_rfl) (fun _ _ _ _ _ _ _ h => h) ⟨⟨_, HF.out⟩, rfl⟩ ?_
    simp only [wpPw, wpBw, selF, and_true]
    generalize V7.drew = V8 at *
    repeat (go_big_quiet_step (fail))
    refine wpQuiet_nil ?_
    refine wpOp_step rfl (fun K hK => ?_)
    go_simp
    refine (give_p _ (HM.out.nw (fun b hb => HP.out b (Nat.le_trans HMT.out.size (Nat.le_trans HM.out.size hb)))) HC4.out (HU1.out.now HM.out) y).mono ?_
    rintro e V9 ⟨⟨HU2v, rfl, hl⟩, hb⟩
    replace HM := Lib.hid (HM.out.below hb)
    replace HTm := Lib.hid (HTm.out.step HM.out)
    replace HTh := Lib.hid (HTh.out.step HM.out)
    replace HCv := Lib.hid (HCv.out.step HM.out)
    replace HD1 := Lib.hid (HD1.out.step HM.out)
    replace HD2 := Lib.hid (HD2.out.step HM.out)
    replace HT1 := Lib.hid (HT1.out.step HM.out)
    replace HU1 := Lib.hid (HU1.out.step HM.out)
    replace HCx := Lib.hid (HCx.out.step HM.out)
    replace HT2 := Lib.hid (HT2.out.step HM.out)
    replace HMT := Lib.hid (HMT.out.tr HM.out)
    replace HM := Lib.hid HM.out.re
    have HU2 := Lib.hid hl.cn
    have HU2c := Lib.hid hl.task
    clear hb hl
    refine hK _ _ ⟨(fun y => ∃ q : CW [(⟨W2.heap.size, 0, none⟩, .int .i64 uac), (⟨W2.heap.size, 1, none⟩, .slice uaao uan uacap), (⟨W2.heap.size, 2, none⟩, .slice uago uagn uagc), (⟨W2.heap.size, 3, none⟩, .bool uay)], y = q.1), ⟨⟨_, (allc ((HM.out.hb 3 _ _ _ rfl).cell (k := 0) rfl) (allc ((HM.out.hb 3 _ _ _ rfl).cell (k := 1) rfl) (allc ((HM.out.hb 3 _ _ _ rfl).cell (k := 2) rfl) (allc ((HM.out.hb 3 _ _ _ rfl).cell (k := 3) rfl) (alln _)))))⟩, rfl⟩, fun _ h => h, ?_⟩
    clear hK K
    (try simp only [Act.put, List.setIfInBounds_toArray, List.set_cons_succ, List.set_cons_zero])
    repeat (go_big_quiet_step (fail))
    refine wpQuiet_nil ?_
    refine wpOp_step rfl (fun K hK => ?_)
    rw [if_pos (by rfl)]
    refine wpOm_stH HM HA (.tmp 111) (.tmp 107) rfl rfl 0 rfl c hc _ rfl rfl HU2c.out ?_
    clear HA
    intro V10 V10c HA hM
    (try simp only [List.cons_append, List.nil_append, List.set_cons_succ, List.set_cons_zero, Nat.reduceAdd] at hM)
    replace HM := hM
    clear hM
    refine hK _ _ ⟨(fun y => ∃ q : CW [(⟨W2.heap.size, 0, none⟩, .int .i64 uac), (⟨W2.heap.size, 1, none⟩, .slice uaao uan uacap), (⟨W2.heap.size, 2, none⟩, .slice uago uagn uagc), (⟨W2.heap.size, 3, none⟩, .bool uay)], y = q.1), ⟨⟨_, (allc ((HM.out.hb 3 _ _ _ rfl).cell (k := 0) rfl) (allc ((HM.out.hb 3 _ _ _ rfl).cell (k := 1) rfl) (allc ((HM.out.hb 3 _ _ _ rfl).cell (k := 2) rfl) (allc ((HM.out.hb 3 _ _ _ rfl).cell (k := 3) rfl) (alln _)))))⟩, rfl⟩, fun _ h => h, ?_⟩
    clear hK K
    (try simp only [Act.put, List.setIfInBounds_toArray, List.set_cons_succ, List.set_cons_zero])
    refine wpQuiet_nil ?_
    refine NoPanic.normal ?_
    clear f0 f1 f2 f3 HF
    go_wp2_with fail
    refine (end13_go c hc R _ _ _ (HM.out.nw (fun b hb => HP.out b (Nat.le_trans HMT.out.size (Nat.le_trans HM.out.size hb)))) (fun b hb => HPR.out b hb.1) (HM.out.hb 0 _ _ _ rfl) HA.out f2 g2 f4 g4 y (live_of (by simp [RS.setM, RS.setH, RS.setW, upd]) (HT2.out.now HM.out)) (live_of (by simp [RS.setM, RS.setH, RS.setW, upd]) (HU2.out.now HM.out)) k2 a2 b2 v2 l2 HOk2.out HK2.out HN2.out HR2.out).mono ?_
    rintro e W14 ⟨rfl, C6, hMe, hAe⟩
    have hM5 := HM.out.upR (i := 0) rfl hMe
    simp only [List.set_cons_zero] at hM5
    replace HM := Lib.hid hM5
    have HAE := Lib.hid hAe
    clear hMe hAe hM5
    go_wp2_with fail
    (try simp only [Exit.inBlock, Exit.then])
    refine bodyPost_ret (res_ttt rfl _ _ _ _ _ rfl rfl rfl) rfl ?_
    refine ⟨rfl, ?_⟩
    unfold Step13
    refine ⟨C6, HT2v, HU2v, _, (HMT.out.tr HM.out).sub (fun i e hi => by match i, hi with | 0, hi => exact hi | i + 1, hi => simp at hi), HAE.out, (HCx.out.mem (fun b hb => hb.2.1) HM.out).weak fun b hb _ => hb.1, ?_, ?_, (HT2.out.mem (fun b hb => hb.2.1) HM.out).weak fun b hb _ => hb.1, (HU2.out.mem (fun b hb => hb.2.1) HM.out).weak fun b hb _ => hb.1⟩
    · rw [ECv.out.2.1]; exact (HD1.out.mem (fun b hb => hb.2.1) HM.out).weak fun b hb _ => hb.1
    · rw [ECv.out.2.2]; exact (HD2.out.mem (fun b hb => hb.2.1) HM.out).weak fun b hb _ => hb.1
  · refine wpOp_step rfl (fun K hK => ?_)
    rw [if_pos (by rfl)]
    refine wpOm_al HM 35 rfl 13 rfl _ zer35 ?_
    intro V11 hM
    (try simp only [List.cons_append, List.nil_append, List.set_cons_succ, List.set_cons_zero, Nat.reduceAdd] at hM)
    replace HM := hM
    clear hM
    refine hK _ _ ⟨(fun y => ∃ q : CW [(⟨R, 0, none⟩, .slice (some ⟨b0, o0, none⟩) 771 p0), (⟨R, 1, none⟩, .slice (some ⟨b1, o1, none⟩) 33 p1), (⟨R, 2, none⟩, .slice (some ⟨b2_, o2, none⟩) 33 p2), (⟨A7.heap.size, 0, none⟩, .int .i8 k), (⟨A7.heap.size, 1, none⟩, .int .i64 a), (⟨A7.heap.size, 2, none⟩, .int .i64 bb), (⟨A7.heap.size, 3, none⟩, .int .i64 v), (⟨A7.heap.size, 4, none⟩, .int .i64 0), (⟨A7.heap.size, 5, none⟩, .string ByteArray.empty), (⟨A7.heap.size, 6, none⟩, .slice ao1 0 ac1)], y = q.1), ⟨⟨_, (allc ((HM.out.hb 0 _ _ _ rfl).cell (k := 0) HW0.out) (allc ((HM.out.hb 0 _ _ _ rfl).cell (k := 1) HW1.out) (allc ((HM.out.hb 0 _ _ _ rfl).cell (k := 2) HW2.out) (allc ((HM.out.hb 2 _ _ _ rfl).cell (k := 0) rfl) (allc ((HM.out.hb 2 _ _ _ rfl).cell (k := 1) rfl) (allc ((HM.out.hb 2 _ _ _ rfl).cell (k := 2) rfl) (allc ((HM.out.hb 2 _ _ _ rfl).cell (k := 3) rfl) (allc ((HM.out.hb 2 _ _ _ rfl).cell (k := 4) rfl) (allc ((HM.out.hb 2 _ _ _ rfl).cell (k := 5) rfl) (allc ((HM.out.hb 2 _ _ _ rfl).cell (k := 6) rfl) (alln _)))))))))))⟩, rfl⟩, fun _ h => h, ?_⟩
    clear hK K
    (try simp only [Act.put, List.setIfInBounds_toArray, List.set_cons_succ, List.set_cons_zero])
    refine wpQuiet_nil ?_
    refine wpOp_step rfl (fun K hK => ?_)
    go_simp
    refine (HDo.out _ _ _ _ _ ao1 ac1 (HM.out.nw (fun b hb => HP.out b (Nat.le_trans HMT.out.size (Nat.le_trans HM.out.size hb)))) (HCv.out.now HM.out) (HD1.out.now HM.out) (HD2.out.now HM.out)).mono ?_
    rintro e V12 ⟨⟨cv2, rfl, hcv⟩, hb⟩
    replace HM := Lib.hid (HM.out.below hb)
    replace HTm := Lib.hid (HTm.out.step HM.out)
    replace HTh := Lib.hid (HTh.out.step HM.out)
    replace HCv := Lib.hid (HCv.out.step HM.out)
    replace HD1 := Lib.hid (HD1.out.step HM.out)
    replace HD2 := Lib.hid (HD2.out.step HM.out)
    replace HT1 := Lib.hid (HT1.out.step HM.out)
    replace HU1 := Lib.hid (HU1.out.step HM.out)
    replace HMT := Lib.hid (HMT.out.tr HM.out)
    replace HM := Lib.hid HM.out.re
    clear hb
    have HCx := Lib.hid hcv.cn
    obtain ⟨b3, o3, p3, rfl, -⟩ := hcv
    refine hK _ _ ⟨(fun y => ∃ q : CW [(⟨R, 0, none⟩, .slice (some ⟨b0, o0, none⟩) 771 p0), (⟨R, 1, none⟩, .slice (some ⟨b1, o1, none⟩) 33 p1), (⟨R, 2, none⟩, .slice (some ⟨b2_, o2, none⟩) 33 p2), (⟨A7.heap.size, 0, none⟩, .int .i8 k), (⟨A7.heap.size, 1, none⟩, .int .i64 a), (⟨A7.heap.size, 2, none⟩, .int .i64 bb), (⟨A7.heap.size, 3, none⟩, .int .i64 v), (⟨A7.heap.size, 4, none⟩, .int .i64 0), (⟨A7.heap.size, 5, none⟩, .string ByteArray.empty), (⟨A7.heap.size, 6, none⟩, .slice ao1 0 ac1)], y = q.1), ⟨⟨_, (allc ((HM.out.hb 0 _ _ _ rfl).cell (k := 0) HW0.out) (allc ((HM.out.hb 0 _ _ _ rfl).cell (k := 1) HW1.out) (allc ((HM.out.hb 0 _ _ _ rfl).cell (k := 2) HW2.out) (allc ((HM.out.hb 2 _ _ _ rfl).cell (k := 0) rfl) (allc ((HM.out.hb 2 _ _ _ rfl).cell (k := 1) rfl) (allc ((HM.out.hb 2 _ _ _ rfl).cell (k := 2) rfl) (allc ((HM.out.hb 2 _ _ _ rfl).cell (k := 3) rfl) (allc ((HM.out.hb 2 _ _ _ rfl).cell (k := 4) rfl) (allc ((HM.out.hb 2 _ _ _ rfl).cell (k := 5) rfl) (allc ((HM.out.hb 2 _ _ _ rfl).cell (k := 6) rfl) (alln _)))))))))))⟩, rfl⟩, fun _ h => h, ?_⟩
    clear hK K
    (try simp only [Act.put, List.setIfInBounds_toArray, List.set_cons_succ, List.set_cons_zero])
    repeat (go_big_quiet_step (fail))
    refine wpQuiet_nil ?_
    refine wpOp_step rfl (fun K hK => ?_)
    rw [if_pos (by rfl)]
    refine wpOm_st HM 35 (.tmp 13) (.tmp 81) rfl rfl 5 rfl #[.slice (some ⟨b3, o3, none⟩) 771 p3, .slice (some ⟨b1, o1, none⟩) 33 p1, .slice (some ⟨b2_, o2, none⟩) 33 p2] rfl rfl 3 inf35 rfl rfl (w35_one _ _ _ _ _ _ _ _ _) ?_
    intro V13 hM
    (try simp only [List.cons_append, List.nil_append, List.set_cons_succ, List.set_cons_zero, Nat.reduceAdd] at hM)
    replace HM := hM
    clear hM
    refine hK _ _ ⟨(fun y => ∃ q : CW [(⟨R, 0, none⟩, .slice (some ⟨b0, o0, none⟩) 771 p0), (⟨R, 1, none⟩, .slice (some ⟨b1, o1, none⟩) 33 p1), (⟨R, 2, none⟩, .slice (some ⟨b2_, o2, none⟩) 33 p2), (⟨A7.heap.size, 0, none⟩, .int .i8 k), (⟨A7.heap.size, 1, none⟩, .int .i64 a), (⟨A7.heap.size, 2, none⟩, .int .i64 bb), (⟨A7.heap.size, 3, none⟩, .int .i64 v), (⟨A7.heap.size, 4, none⟩, .int .i64 0), (⟨A7.heap.size, 5, none⟩, .string ByteArray.empty), (⟨A7.heap.size, 6, none⟩, .slice ao1 0 ac1)], y = q.1), ⟨⟨_, (allc ((HM.out.hb 0 _ _ _ rfl).cell (k := 0) HW0.out) (allc ((HM.out.hb 0 _ _ _ rfl).cell (k := 1) HW1.out) (allc ((HM.out.hb 0 _ _ _ rfl).cell (k := 2) HW2.out) (allc ((HM.out.hb 2 _ _ _ rfl).cell (k := 0) rfl) (allc ((HM.out.hb 2 _ _ _ rfl).cell (k := 1) rfl) (allc ((HM.out.hb 2 _ _ _ rfl).cell (k := 2) rfl) (allc ((HM.out.hb 2 _ _ _ rfl).cell (k := 3) rfl) (allc ((HM.out.hb 2 _ _ _ rfl).cell (k := 4) rfl) (allc ((HM.out.hb 2 _ _ _ rfl).cell (k := 5) rfl) (allc ((HM.out.hb 2 _ _ _ rfl).cell (k := 6) rfl) (alln _)))))))))))⟩, rfl⟩, fun _ h => h, ?_⟩
    clear hK K
    (try simp only [Act.put, List.setIfInBounds_toArray, List.set_cons_succ, List.set_cons_zero])
    repeat (go_big_quiet_step (fail))
    refine wpQuiet_nil ?_
    refine NoPanic.normal ?_
    clear f0 f1 f2 f3 f4 f5 f6 f7 f8 f9 HF
    go_wp2_with (first
      | (refine wpm_ld35 HM rfl (.tmp 13) rfl 5 rfl rfl rfl ?_)
      | (refine wpm_stW HM HA rfl (.tmp 89) (.tmp 87) rfl 0 rfl _ _ _ _ _ _ _ _ _ rfl rfl (fun j => if j = 0 then .slice (some ⟨b3, o3, none⟩) 771 p3 else s.w j) rfl ECv.out.2.1 ECv.out.2.2 ?_; clear HA HW0 HW1 HW2; intro W11 C11 HA hM; (try simp only [List.cons_append, List.nil_append, List.set_cons_succ, List.set_cons_zero, Nat.reduceAdd] at hM); replace HM := hM; clear hM))
    obtain ⟨tac, taao, tan, tacap, tago, tagn, tagc, tay, rfl⟩ := HT1c.out
    replace HM := Lib.hid HM.out.drew
    have HF : Hid (∀ p ∈ ([(⟨W1.heap.size, 0, none⟩, .int .i64 tac), (⟨W1.heap.size, 1, none⟩, .slice taao tan tacap), (⟨W1.heap.size, 2, none⟩, .slice tago tagn tagc), (⟨W1.heap.size, 3, none⟩, .bool tay)] : List (Addr × Value)), World.cell? _ p.1 = some p.2) := Lib.hid (allc ((HM.out.hb 1 _ _ _ rfl).cell (k := 0) rfl) (allc ((HM.out.hb 1 _ _ _ rfl).cell (k := 1) rfl) (allc ((HM.out.hb 1 _ _ _ rfl).cell (k := 2) rfl) (allc ((HM.out.hb 1 _ _ _ rfl).cell (k := 3) rfl) (alln _)))))
    haveI : Inhabited (CW [(⟨W1.heap.size, 0, none⟩, .int .i64 tac), (⟨W1.heap.size, 1, none⟩, .slice taao tan tacap), (⟨W1.heap.size, 2, none⟩, .slice tago tagn tagc), (⟨W1.heap.size, 3, none⟩, .bool tay)]) := ⟨⟨_, HF.out⟩⟩
    have f0 : ∀ q : CW [(⟨W1.heap.size, 0, none⟩, .int .i64 tac), (⟨W1.heap.size, 1, none⟩, .slice taao tan tacap), (⟨W1.heap.size, 2, none⟩, .slice tago tagn tagc), (⟨W1.heap.size, 3, none⟩, .bool tay)], q.1.cell? ⟨W1.heap.size, 0, none⟩ = some (.int .i64 tac) := fun q => q.2 (⟨W1.heap.size, 0, none⟩, .int .i64 tac) (by simp)
    have f1 : ∀ q : CW [(⟨W1.heap.size, 0, none⟩, .int .i64 tac), (⟨W1.heap.size, 1, none⟩, .slice taao tan tacap), (⟨W1.heap.size, 2, none⟩, .slice tago tagn tagc), (⟨W1.heap.size, 3, none⟩, .bool tay)], q.1.cell? ⟨W1.heap.size, 1, none⟩ = some (.slice taao tan tacap) := fun q => q.2 (⟨W1.heap.size, 1, none⟩, .slice taao tan tacap) (by simp)
    have f2 : ∀ q : CW [(⟨W1.heap.size, 0, none⟩, .int .i64 tac), (⟨W1.heap.size, 1, none⟩, .slice taao tan tacap), (⟨W1.heap.size, 2, none⟩, .slice tago tagn tagc), (⟨W1.heap.size, 3, none⟩, .bool tay)], q.1.cell? ⟨W1.heap.size, 2, none⟩ = some (.slice tago tagn tagc) := fun q => q.2 (⟨W1.heap.size, 2, none⟩, .slice tago tagn tagc) (by simp)
    have f3 : ∀ q : CW [(⟨W1.heap.size, 0, none⟩, .int .i64 tac), (⟨W1.heap.size, 1, none⟩, .slice taao tan tacap), (⟨W1.heap.size, 2, none⟩, .slice tago tagn tagc), (⟨W1.heap.size, 3, none⟩, .bool tay)], q.1.cell? ⟨W1.heap.size, 3, none⟩ = some (.bool tay) := fun q => q.2 (⟨W1.heap.size, 3, none⟩, .bool tay) (by simp)
    (try simp only [Act.put, List.setIfInBounds_toArray, List.set_cons_succ, List.set_cons_zero])
    refine wp_region_noPanic ?_
    refine wp_region_plw (.step [true, true, true, true, false, false, false, false, true, true] (.cons 4 (.step [false, false, false, false, false, true, true, true, false, false, true] (.cons 11 (.last []) .nil)) .nil)) (fun y => ∃ q : CW [(⟨W1.heap.size, 0, none⟩, .int .i64 tac), (⟨W1.heap.size, 1, none⟩, .slice taao tan tacap), (⟨W1.heap.size, 2, none⟩, .slice tago tagn tagc), (⟨W1.heap.size, 3, none⟩, .bool tay)], y = q.1) (by kernel_rfl) (by kernel_rfl) (by kernel_rfl) (fun _ _ _ _ _ _ _ h => h) ⟨⟨_, HF.out⟩, rfl⟩ ?_
    simp only [wpPw, wpBw, selF, and_true]
    generalize W11.drew = V14 at *
    repeat (go_big_quiet_step (fail))
    refine wpQuiet_nil ?_
    refine wpOp_step rfl (fun K hK => ?_)
    go_simp
    refine (give_p _ (HM.out.nw (fun b hb => HP.out b (Nat.le_trans HMT.out.size (Nat.le_trans HM.out.size hb)))) HC4.out (HT1.out.now HM.out) y).mono ?_
    rintro e V15 ⟨⟨HT2v, rfl, hl⟩, hb⟩
    replace HM := Lib.hid (HM.out.below hb)
    replace HTm := Lib.hid (HTm.out.step HM.out)
    replace HTh := Lib.hid (HTh.out.step HM.out)
    replace HCv := Lib.hid (HCv.out.step HM.out)
    replace HD1 := Lib.hid (HD1.out.step HM.out)
    replace HD2 := Lib.hid (HD2.out.step HM.out)
    replace HT1 := Lib.hid (HT1.out.step HM.out)
    replace HU1 := Lib.hid (HU1.out.step HM.out)
    replace HCx := Lib.hid (HCx.out.step HM.out)
    replace HMT := Lib.hid (HMT.out.tr HM.out)
    replace HM := Lib.hid HM.out.re
    have HT2 := Lib.hid hl.cn
    have HT2c := Lib.hid hl.task
    clear hb hl
    refine hK _ _ ⟨(fun y => ∃ q : CW [(⟨W1.heap.size, 0, none⟩, .int .i64 tac), (⟨W1.heap.size, 1, none⟩, .slice taao tan tacap), (⟨W1.heap.size, 2, none⟩, .slice tago tagn tagc), (⟨W1.heap.size, 3, none⟩, .bool tay)], y = q.1), ⟨⟨_, (allc ((HM.out.hb 1 _ _ _ rfl).cell (k := 0) rfl) (allc ((HM.out.hb 1 _ _ _ rfl).cell (k := 1) rfl) (allc ((HM.out.hb 1 _ _ _ rfl).cell (k := 2) rfl) (allc ((HM.out.hb 1 _ _ _ rfl).cell (k := 3) rfl) (alln _)))))⟩, rfl⟩, fun _ h => h, ?_⟩
    clear hK K
    (try simp only [Act.put, List.setIfInBounds_toArray, List.set_cons_succ, List.set_cons_zero])
    repeat (go_big_quiet_step (fail))
    refine wpQuiet_nil ?_
    refine wpOp_step rfl (fun K hK => ?_)
    rw [if_pos (by rfl)]
    refine wpOm_stM HM HA (.tmp 100) (.tmp 96) rfl rfl 0 rfl c hc _ rfl rfl HT2c.out ?_
    clear HA
    intro V16 V16c HA hM
    (try simp only [List.cons_append, List.nil_append, List.set_cons_succ, List.set_cons_zero, Nat.reduceAdd] at hM)
    replace HM := hM
    clear hM
    refine hK _ _ ⟨(fun y => ∃ q : CW [(⟨W1.heap.size, 0, none⟩, .int .i64 tac), (⟨W1.heap.size, 1, none⟩, .slice taao tan tacap), (⟨W1.heap.size, 2, none⟩, .slice tago tagn tagc), (⟨W1.heap.size, 3, none⟩, .bool tay)], y = q.1), ⟨⟨_, (allc ((HM.out.hb 1 _ _ _ rfl).cell (k := 0) rfl) (allc ((HM.out.hb 1 _ _ _ rfl).cell (k := 1) rfl) (allc ((HM.out.hb 1 _ _ _ rfl).cell (k := 2) rfl) (allc ((HM.out.hb 1 _ _ _ rfl).cell (k := 3) rfl) (alln _)))))⟩, rfl⟩, fun _ h => h, ?_⟩
    clear hK K
    (try simp only [Act.put, List.setIfInBounds_toArray, List.set_cons_succ, List.set_cons_zero])
    refine wpQuiet_nil ?_
    refine NoPanic.normal ?_
    clear f0 f1 f2 f3 HF
    go_wp2_with fail
    obtain ⟨uac, uaao, uan, uacap, uago, uagn, uagc, uay, rfl⟩ := HU1c.out
    replace HM := Lib.hid HM.out.drew
    have HF : Hid (∀ p ∈ ([(⟨W2.heap.size, 0, none⟩, .int .i64 uac), (⟨W2.heap.size, 1, none⟩, .slice uaao uan uacap), (⟨W2.heap.size, 2, none⟩, .slice uago uagn uagc), (⟨W2.heap.size, 3, none⟩, .bool uay)] : List (Addr × Value)), World.cell? _ p.1 = some p.2) := Lib.hid (allc ((HM.out.hb 3 _ _ _ rfl).cell (k := 0) rfl) (allc ((HM.out.hb 3 _ _ _ rfl).cell (k := 1) rfl) (allc ((HM.out.hb 3 _ _ _ rfl).cell (k := 2) rfl) (allc ((HM.out.hb 3 _ _ _ rfl).cell (k := 3) rfl) (alln _)))))
    haveI : Inhabited (CW [(⟨W2.heap.size, 0, none⟩, .int .i64 uac), (⟨W2.heap.size, 1, none⟩, .slice uaao uan uacap), (⟨W2.heap.size, 2, none⟩, .slice uago uagn uagc), (⟨W2.heap.size, 3, none⟩, .bool uay)]) := ⟨⟨_, HF.out⟩⟩
    have f0 : ∀ q : CW [(⟨W2.heap.size, 0, none⟩, .int .i64 uac), (⟨W2.heap.size, 1, none⟩, .slice uaao uan uacap), (⟨W2.heap.size, 2, none⟩, .slice uago uagn uagc), (⟨W2.heap.size, 3, none⟩, .bool uay)], q.1.cell? ⟨W2.heap.size, 0, none⟩ = some (.int .i64 uac) := fun q => q.2 (⟨W2.heap.size, 0, none⟩, .int .i64 uac) (by simp)
    have f1 : ∀ q : CW [(⟨W2.heap.size, 0, none⟩, .int .i64 uac), (⟨W2.heap.size, 1, none⟩, .slice uaao uan uacap), (⟨W2.heap.size, 2, none⟩, .slice uago uagn uagc), (⟨W2.heap.size, 3, none⟩, .bool uay)], q.1.cell? ⟨W2.heap.size, 1, none⟩ = some (.slice uaao uan uacap) := fun q => q.2 (⟨W2.heap.size, 1, none⟩, .slice uaao uan uacap) (by simp)
    have f2 : ∀ q : CW [(⟨W2.heap.size, 0, none⟩, .int .i64 uac), (⟨W2.heap.size, 1, none⟩, .slice uaao uan uacap), (⟨W2.heap.size, 2, none⟩, .slice uago uagn uagc), (⟨W2.heap.size, 3, none⟩, .bool uay)], q.1.cell? ⟨W2.heap.size, 2, none⟩ = some (.slice uago uagn uagc) := fun q => q.2 (⟨W2.heap.size, 2, none⟩, .slice uago uagn uagc) (by simp)
    have f3 : ∀ q : CW [(⟨W2.heap.size, 0, none⟩, .int .i64 uac), (⟨W2.heap.size, 1, none⟩, .slice uaao uan uacap), (⟨W2.heap.size, 2, none⟩, .slice uago uagn uagc), (⟨W2.heap.size, 3, none⟩, .bool uay)], q.1.cell? ⟨W2.heap.size, 3, none⟩ = some (.bool uay) := fun q => q.2 (⟨W2.heap.size, 3, none⟩, .bool uay) (by simp)
    (try simp only [Act.put, List.setIfInBounds_toArray, List.set_cons_succ, List.set_cons_zero])
    refine wp_region_noPanic ?_
    refine wp_region_plw (.step [true, true, true, true, false, false, false, false, true, true] (.cons 4 (.step [false, false, false, false, false, true, true, true, false, false, true] (.cons 11 (.last []) .nil)) .nil)) (fun y => ∃ q : CW [(⟨W2.heap.size, 0, none⟩, .int .i64 uac), (⟨W2.heap.size, 1, none⟩, .slice uaao uan uacap), (⟨W2.heap.size, 2, none⟩, .slice uago uagn uagc), (⟨W2.heap.size, 3, none⟩, .bool uay)], y = q.1) (by kernel_rfl) (by kernel_rfl) (by kernel_rfl) (fun _ _ _ _ _ _ _ h => h) ⟨⟨_, HF.out⟩, rfl⟩ ?_
    simp only [wpPw, wpBw, selF, and_true]
    generalize V16.drew = V17 at *
    repeat (go_big_quiet_step (fail))
    refine wpQuiet_nil ?_
    refine wpOp_step rfl (fun K hK => ?_)
    go_simp
    refine (give_p _ (HM.out.nw (fun b hb => HP.out b (Nat.le_trans HMT.out.size (Nat.le_trans HM.out.size hb)))) HC4.out (HU1.out.now HM.out) y).mono ?_
    rintro e V18 ⟨⟨HU2v, rfl, hl⟩, hb⟩
    replace HM := Lib.hid (HM.out.below hb)
    replace HTm := Lib.hid (HTm.out.step HM.out)
    replace HTh := Lib.hid (HTh.out.step HM.out)
    replace HCv := Lib.hid (HCv.out.step HM.out)
    replace HD1 := Lib.hid (HD1.out.step HM.out)
    replace HD2 := Lib.hid (HD2.out.step HM.out)
    replace HT1 := Lib.hid (HT1.out.step HM.out)
    replace HU1 := Lib.hid (HU1.out.step HM.out)
    replace HCx := Lib.hid (HCx.out.step HM.out)
    replace HT2 := Lib.hid (HT2.out.step HM.out)
    replace HMT := Lib.hid (HMT.out.tr HM.out)
    replace HM := Lib.hid HM.out.re
    have HU2 := Lib.hid hl.cn
    have HU2c := Lib.hid hl.task
    clear hb hl
    refine hK _ _ ⟨(fun y => ∃ q : CW [(⟨W2.heap.size, 0, none⟩, .int .i64 uac), (⟨W2.heap.size, 1, none⟩, .slice uaao uan uacap), (⟨W2.heap.size, 2, none⟩, .slice uago uagn uagc), (⟨W2.heap.size, 3, none⟩, .bool uay)], y = q.1), ⟨⟨_, (allc ((HM.out.hb 3 _ _ _ rfl).cell (k := 0) rfl) (allc ((HM.out.hb 3 _ _ _ rfl).cell (k := 1) rfl) (allc ((HM.out.hb 3 _ _ _ rfl).cell (k := 2) rfl) (allc ((HM.out.hb 3 _ _ _ rfl).cell (k := 3) rfl) (alln _)))))⟩, rfl⟩, fun _ h => h, ?_⟩
    clear hK K
    (try simp only [Act.put, List.setIfInBounds_toArray, List.set_cons_succ, List.set_cons_zero])
    repeat (go_big_quiet_step (fail))
    refine wpQuiet_nil ?_
    refine wpOp_step rfl (fun K hK => ?_)
    rw [if_pos (by rfl)]
    refine wpOm_stH HM HA (.tmp 111) (.tmp 107) rfl rfl 0 rfl c hc _ rfl rfl HU2c.out ?_
    clear HA
    intro V19 V19c HA hM
    (try simp only [List.cons_append, List.nil_append, List.set_cons_succ, List.set_cons_zero, Nat.reduceAdd] at hM)
    replace HM := hM
    clear hM
    refine hK _ _ ⟨(fun y => ∃ q : CW [(⟨W2.heap.size, 0, none⟩, .int .i64 uac), (⟨W2.heap.size, 1, none⟩, .slice uaao uan uacap), (⟨W2.heap.size, 2, none⟩, .slice uago uagn uagc), (⟨W2.heap.size, 3, none⟩, .bool uay)], y = q.1), ⟨⟨_, (allc ((HM.out.hb 3 _ _ _ rfl).cell (k := 0) rfl) (allc ((HM.out.hb 3 _ _ _ rfl).cell (k := 1) rfl) (allc ((HM.out.hb 3 _ _ _ rfl).cell (k := 2) rfl) (allc ((HM.out.hb 3 _ _ _ rfl).cell (k := 3) rfl) (alln _)))))⟩, rfl⟩, fun _ h => h, ?_⟩
    clear hK K
    (try simp only [Act.put, List.setIfInBounds_toArray, List.set_cons_succ, List.set_cons_zero])
    refine wpQuiet_nil ?_
    refine NoPanic.normal ?_
    clear f0 f1 f2 f3 HF
    go_wp2_with fail
    refine (end13_go c hc R _ _ _ (HM.out.nw (fun b hb => HP.out b (Nat.le_trans HMT.out.size (Nat.le_trans HM.out.size hb)))) (fun b hb => HPR.out b hb.1) (HM.out.hb 0 _ _ _ rfl) HA.out f2 g2 f4 g4 y (live_of (by simp [RS.setM, RS.setH, RS.setW, upd]) (HT2.out.now HM.out)) (live_of (by simp [RS.setM, RS.setH, RS.setW, upd]) (HU2.out.now HM.out)) k2 a2 b2 v2 l2 HOk2.out HK2.out HN2.out HR2.out).mono ?_
    rintro e W14 ⟨rfl, C6, hMe, hAe⟩
    have hM5 := HM.out.upR (i := 0) rfl hMe
    simp only [List.set_cons_zero] at hM5
    replace HM := Lib.hid hM5
    have HAE := Lib.hid hAe
    clear hMe hAe hM5
    go_wp2_with fail
    (try simp only [Exit.inBlock, Exit.then])
    refine bodyPost_ret (res_ttt rfl _ _ _ _ _ rfl rfl rfl) rfl ?_
    refine ⟨rfl, ?_⟩
    unfold Step13
    refine ⟨C6, HT2v, HU2v, _, (HMT.out.tr HM.out).sub (fun i e hi => by match i, hi with | 0, hi => exact hi | i + 1, hi => simp at hi), HAE.out, (HCx.out.mem (fun b hb => hb.2.1) HM.out).weak fun b hb _ => hb.1, ?_, ?_, (HT2.out.mem (fun b hb => hb.2.1) HM.out).weak fun b hb _ => hb.1, (HU2.out.mem (fun b hb => hb.2.1) HM.out).weak fun b hb _ => hb.1⟩
    · rw [ECv.out.2.1]; exact (HD1.out.mem (fun b hb => hb.2.1) HM.out).weak fun b hb _ => hb.1
    · rw [ECv.out.2.2]; exact (HD2.out.mem (fun b hb => hb.2.1) HM.out).weak fun b hb _ => hb.1
set_option maxHeartbeats 8000000 in
set_option maxRecDepth 100000 in
theorem step13_over {P : Nat → Prop} (c : Nat) (hc : c < 4) (R : Nat) (C : Array Value) (s : RS) (w : World) (hP : ∀ b, w.heap.size ≤ b → P b) (hPR : ∀ b, P b → b ≠ R) (hR : HB w R C 41) (hA : RunA C s) (f g f2 g2 f4 g4 : Fr) (x y : Int) (lw lw2 : List Int)
    (hTm : Live P w (s.m c) c f x) (hTh : Live P w (s.h c) c g x) (hCv : CellsV P w (s.w 0) lw) (hD1 : DiskV P w (s.w 1)) (hD2 : DiskV P w (s.w 2)) (k a bb v : Int) (hOk : OkA k a bb v 0) (hk : k < 6) (k2 a2 b2 v2 : Int) (l2 : List Int) (hOk2 : OkA k2 a2 b2 v2 l2.length) (hk2 : k2 = 7)
    (hN1 : ∀ vv w, GotV w vv x → Calls Try.prog 32 #[.agg f.cells, vv] w fun e w' => AnsB w w' e f2 k a bb v [] ∧ Below w.heap.size w w')
    (hR1 : ∀ vv w, GotV w vv x → Calls Try.prog 53 #[.agg g.cells, vv] w fun e w' => AnsB w w' e g2 k a bb v [] ∧ Below w.heap.size w w')
    (hN2 : ∀ vv w, GotV w vv y → Calls Try.prog 32 #[.agg f2.cells, vv] w fun e w' => AnsB w w' e f4 k2 a2 b2 v2 l2 ∧ Below w.heap.size w w')
    (hR2 : ∀ vv w, GotV w vv y → Calls Try.prog 53 #[.agg g2.cells, vv] w fun e w' => AnsB w w' e g4 k2 a2 b2 v2 l2 ∧ Below w.heap.size w w')
    (hDo : DoB k a bb v y lw lw2) : Calls Try.prog 16 #[.pointer (some ⟨R, 0, none⟩), .int .i64 c] w fun e w' => (∃ ans, e = .returned (.tuple #[ans, .bool true, .bool true]) ∧ IntsP P w' ans l2) ∧ Step13 P R c s f2 g2 y lw2 true w w' := by
  have HMT := Lib.hid (Mem.startR hR)
  have HM := Lib.hid HMT.out.re
  have HOL : Hid (∀ b, P b → b < w.heap.size → Cn P (OL [(R, C, 41)]) w.heap.size b) := Lib.hid (fun b hb hlt => ⟨hb, (by rintro ⟨i, C2, t2, hi⟩; match i, hi with | 0, hi => simp at hi; exact hPR b hb hi.1.symm | i + 1, hi => simp at hi), hlt⟩)
  have HP := Lib.hid hP
  have HPR := Lib.hid hPR
  have HA := Lib.hid hA
  have HTmc := Lib.hid hTm.task
  have HThc := Lib.hid hTh.task
  have HTm := Lib.hid (hTm.weak HOL.out)
  have HTh := Lib.hid (hTh.weak HOL.out)
  have hc4 : (0 : Int) ≤ (c : Int) ∧ (c : Int) < 4 := ⟨by omega, by omega⟩
  have HC4 := Lib.hid hc4
  obtain ⟨Tm, eTm⟩ : ∃ T, s.m c = T := ⟨_, rfl⟩
  obtain ⟨Th, eTh⟩ : ∃ T, s.h c = T := ⟨_, rfl⟩
  rw [eTm] at HTm HTmc
  rw [eTh] at HTh HThc
  have ETm := Lib.hid eTm
  have ETh := Lib.hid eTh
  have HCv := Lib.hid (hCv.weak HOL.out)
  have HD1 := Lib.hid (hD1.weak HOL.out)
  have HD2 := Lib.hid (hD2.weak HOL.out)
  have HOk := Lib.hid hOk
  have HOk2 := Lib.hid hOk2
  have HK := Lib.hid hk
  have HK2 := Lib.hid hk2
  have HN1 := Lib.hid hN1
  have HR1 := Lib.hid hR1
  have HN2 := Lib.hid hN2
  have HR2 := Lib.hid hR2
  have HDo := Lib.hid hDo
  obtain ⟨cv, ecv⟩ : ∃ T, s.w 0 = T := ⟨_, rfl⟩
  obtain ⟨d1, ed1⟩ : ∃ T, s.w 1 = T := ⟨_, rfl⟩
  obtain ⟨d2, ed2⟩ : ∃ T, s.w 2 = T := ⟨_, rfl⟩
  rw [ecv] at HCv
  rw [ed1] at HD1
  rw [ed2] at HD2
  obtain ⟨b0, o0, p0, rfl, -⟩ := HCv.out
  obtain ⟨b1, o1, p1, rfl, -⟩ := HD1.out
  obtain ⟨b2_, o2, p2, rfl, -⟩ := HD2.out
  have ECv := Lib.hid (And.intro ecv (And.intro ed1 ed2))
  have HW0 : Hid (C[0]? = some (.slice (some ⟨b0, o0, none⟩) 771 p0)) := Lib.hid (by rw [HA.out.w 0 (by omega), ecv])
  have HW1 : Hid (C[1]? = some (.slice (some ⟨b1, o1, none⟩) 33 p1)) := Lib.hid (by rw [HA.out.w 1 (by omega), ed1])
  have HW2 : Hid (C[2]? = some (.slice (some ⟨b2_, o2, none⟩) 33 p2)) := Lib.hid (by rw [HA.out.w 2 (by omega), ed2])
  clear hP hPR hR hA hTm hTh hCv hD1 hD2 hOk hk hOk2 hk2 hN1 hR1 hN2 hR2 hDo hc4 eTm eTh ecv ed1 ed2 HOL
  go_enter Try.func16, Try.ntmps16
  go_wp2_with (first
    | (refine wpm_ldM HM HA rfl (.tmp 21) rfl 0 rfl c hc rfl Tm ETm.out HTmc.out ?_))
  refine (goes13pg _ (HM.out.nw (fun b hb => HP.out b (Nat.le_trans HMT.out.size (Nat.le_trans HM.out.size hb)))) HC4.out (HTm.out.now HM.out) k a bb v [] HOk.out HK.out HN1.out).mono ?_
  rintro e W1 ⟨⟨T1, ao1, ac1, rfl, hl⟩, hb⟩
  replace HM := Lib.hid (HM.out.below hb)
  replace HTm := Lib.hid (HTm.out.step HM.out)
  replace HTh := Lib.hid (HTh.out.step HM.out)
  replace HCv := Lib.hid (HCv.out.step HM.out)
  replace HD1 := Lib.hid (HD1.out.step HM.out)
  replace HD2 := Lib.hid (HD2.out.step HM.out)
  replace HMT := Lib.hid (HMT.out.tr HM.out)
  replace HM := Lib.hid HM.out.re
  have HT1 := Lib.hid hl.cn
  have HT1c := Lib.hid hl.task
  clear hb hl
  go_wp2_with (first
    | (refine wpm_al38 HM rfl rfl ?_; intro A7 hM; (try simp only [List.cons_append, List.nil_append, List.set_cons_succ, List.set_cons_zero, Nat.reduceAdd] at hM); replace HM := hM; clear hM)
    | (refine wpm_al59 HM rfl rfl ?_; intro A8 hM; (try simp only [List.cons_append, List.nil_append, List.set_cons_succ, List.set_cons_zero, Nat.reduceAdd] at hM); replace HM := hM; clear hM)
    | (refine wpm_st38 HM rfl (.tmp 7) (.tmp 24) rfl 1 rfl TaskC.zero.size T1 rfl rfl HT1c.out ?_; intro W hM; (try simp only [List.cons_append, List.nil_append, List.set_cons_succ, List.set_cons_zero, Nat.reduceAdd] at hM); replace HM := hM; clear hM)
    | (refine wpm_st59 HM rfl (.tmp 8) (.tmp 25) rfl 2 rfl rfl k a bb v 0 ao1 0 ac1 rfl rfl ?_; intro W hM; (try simp only [List.cons_append, List.nil_append, List.set_cons_succ, List.set_cons_zero, Nat.reduceAdd] at hM); replace HM := hM; clear hM)
    | (refine wpm_ldH HM HA rfl (.tmp 32) rfl 0 rfl c hc rfl Th ETh.out HThc.out ?_))
  refine (goes13rg _ (HM.out.nw (fun b hb => HP.out b (Nat.le_trans HMT.out.size (Nat.le_trans HM.out.size hb)))) HC4.out (HTh.out.now HM.out) k a bb v [] HOk.out HK.out HR1.out).mono ?_
  rintro e W2 ⟨⟨U1, ao2, ac2, rfl, hl⟩, hb⟩
  replace HM := Lib.hid (HM.out.below hb)
  replace HTm := Lib.hid (HTm.out.step HM.out)
  replace HTh := Lib.hid (HTh.out.step HM.out)
  replace HCv := Lib.hid (HCv.out.step HM.out)
  replace HD1 := Lib.hid (HD1.out.step HM.out)
  replace HD2 := Lib.hid (HD2.out.step HM.out)
  replace HT1 := Lib.hid (HT1.out.step HM.out)
  replace HMT := Lib.hid (HMT.out.tr HM.out)
  replace HM := Lib.hid HM.out.re
  have HU1 := Lib.hid hl.cn
  have HU1c := Lib.hid hl.task
  clear hb hl
  go_wp2_with (first
    | (refine wpm_al38 HM rfl rfl ?_; intro A10 hM; (try simp only [List.cons_append, List.nil_append, List.set_cons_succ, List.set_cons_zero, Nat.reduceAdd] at hM); replace HM := hM; clear hM)
    | (refine wpm_al59 HM rfl rfl ?_; intro A11 hM; (try simp only [List.cons_append, List.nil_append, List.set_cons_succ, List.set_cons_zero, Nat.reduceAdd] at hM); replace HM := hM; clear hM)
    | (refine wpm_st38 HM rfl (.tmp 10) (.tmp 35) rfl 3 rfl TaskC.zero.size U1 rfl rfl HU1c.out ?_; intro W hM; (try simp only [List.cons_append, List.nil_append, List.set_cons_succ, List.set_cons_zero, Nat.reduceAdd] at hM); replace HM := hM; clear hM)
    | (refine wpm_st59 HM rfl (.tmp 11) (.tmp 36) rfl 4 rfl rfl k a bb v 0 ao2 0 ac2 rfl rfl ?_; intro W hM; (try simp only [List.cons_append, List.nil_append, List.set_cons_succ, List.set_cons_zero, Nat.reduceAdd] at hM); replace HM := hM; clear hM; have p0 := (HM.out.hb 2 _ _ _ rfl).cell (k := 0) (v := .int .i8 k) rfl; have p1 := (HM.out.hb 2 _ _ _ rfl).cell (k := 1) (v := .int .i64 a) rfl; have p2 := (HM.out.hb 2 _ _ _ rfl).cell (k := 2) (v := .int .i64 bb) rfl; have p3 := (HM.out.hb 2 _ _ _ rfl).cell (k := 3) (v := .int .i64 v) rfl; have p4 := (HM.out.hb 2 _ _ _ rfl).cell (k := 4) (v := .int .i64 0) rfl; have p5 := (HM.out.hb 2 _ _ _ rfl).cell (k := 5) (v := .string ByteArray.empty) rfl; have p6 := (HM.out.hb 2 _ _ _ rfl).cell (k := 6) (v := .slice ao1 0 ac1) rfl; have q0 := (HM.out.hb 4 _ _ _ rfl).cell (k := 0) (v := .int .i8 k) rfl; have q1 := (HM.out.hb 4 _ _ _ rfl).cell (k := 1) (v := .int .i64 a) rfl; have q2 := (HM.out.hb 4 _ _ _ rfl).cell (k := 2) (v := .int .i64 bb) rfl; have q3 := (HM.out.hb 4 _ _ _ rfl).cell (k := 3) (v := .int .i64 v) rfl; have q4 := (HM.out.hb 4 _ _ _ rfl).cell (k := 4) (v := .int .i64 0) rfl; have q5 := (HM.out.hb 4 _ _ _ rfl).cell (k := 5) (v := .string ByteArray.empty) rfl; have q6 := (HM.out.hb 4 _ _ _ rfl).cell (k := 6) (v := .slice ao2 0 ac2) rfl))
  refine (same_actB k a bb v (.slice ao1 0 ac1) (.slice ao2 0 ac2) [] _ (ints0 0 _ ao1 ac1) (ints0 0 _ ao2 ac2) (by simp)).mono ?_
  rintro e W4 ⟨rfl, hb⟩
  clear p0 p1 p2 p3 p4 p5 p6 q0 q1 q2 q3 q4 q5 q6
  replace HM := Lib.hid (HM.out.below hb)
  clear hb
  go_wp2_with fail
  replace HM := Lib.hid HM.out.drew
  have HF : Hid (∀ p ∈ ([(⟨R, 0, none⟩, .slice (some ⟨b0, o0, none⟩) 771 p0), (⟨R, 1, none⟩, .slice (some ⟨b1, o1, none⟩) 33 p1), (⟨R, 2, none⟩, .slice (some ⟨b2_, o2, none⟩) 33 p2), (⟨A7.heap.size, 0, none⟩, .int .i8 k), (⟨A7.heap.size, 1, none⟩, .int .i64 a), (⟨A7.heap.size, 2, none⟩, .int .i64 bb), (⟨A7.heap.size, 3, none⟩, .int .i64 v), (⟨A7.heap.size, 4, none⟩, .int .i64 0), (⟨A7.heap.size, 5, none⟩, .string ByteArray.empty), (⟨A7.heap.size, 6, none⟩, .slice ao1 0 ac1)] : List (Addr × Value)), World.cell? _ p.1 = some p.2) := Lib.hid (allc ((HM.out.hb 0 _ _ _ rfl).cell (k := 0) HW0.out) (allc ((HM.out.hb 0 _ _ _ rfl).cell (k := 1) HW1.out) (allc ((HM.out.hb 0 _ _ _ rfl).cell (k := 2) HW2.out) (allc ((HM.out.hb 2 _ _ _ rfl).cell (k := 0) rfl) (allc ((HM.out.hb 2 _ _ _ rfl).cell (k := 1) rfl) (allc ((HM.out.hb 2 _ _ _ rfl).cell (k := 2) rfl) (allc ((HM.out.hb 2 _ _ _ rfl).cell (k := 3) rfl) (allc ((HM.out.hb 2 _ _ _ rfl).cell (k := 4) rfl) (allc ((HM.out.hb 2 _ _ _ rfl).cell (k := 5) rfl) (allc ((HM.out.hb 2 _ _ _ rfl).cell (k := 6) rfl) (alln _)))))))))))
  haveI : Inhabited (CW [(⟨R, 0, none⟩, .slice (some ⟨b0, o0, none⟩) 771 p0), (⟨R, 1, none⟩, .slice (some ⟨b1, o1, none⟩) 33 p1), (⟨R, 2, none⟩, .slice (some ⟨b2_, o2, none⟩) 33 p2), (⟨A7.heap.size, 0, none⟩, .int .i8 k), (⟨A7.heap.size, 1, none⟩, .int .i64 a), (⟨A7.heap.size, 2, none⟩, .int .i64 bb), (⟨A7.heap.size, 3, none⟩, .int .i64 v), (⟨A7.heap.size, 4, none⟩, .int .i64 0), (⟨A7.heap.size, 5, none⟩, .string ByteArray.empty), (⟨A7.heap.size, 6, none⟩, .slice ao1 0 ac1)]) := ⟨⟨_, HF.out⟩⟩
  have f0 : ∀ q : CW [(⟨R, 0, none⟩, .slice (some ⟨b0, o0, none⟩) 771 p0), (⟨R, 1, none⟩, .slice (some ⟨b1, o1, none⟩) 33 p1), (⟨R, 2, none⟩, .slice (some ⟨b2_, o2, none⟩) 33 p2), (⟨A7.heap.size, 0, none⟩, .int .i8 k), (⟨A7.heap.size, 1, none⟩, .int .i64 a), (⟨A7.heap.size, 2, none⟩, .int .i64 bb), (⟨A7.heap.size, 3, none⟩, .int .i64 v), (⟨A7.heap.size, 4, none⟩, .int .i64 0), (⟨A7.heap.size, 5, none⟩, .string ByteArray.empty), (⟨A7.heap.size, 6, none⟩, .slice ao1 0 ac1)], q.1.cell? ⟨R, 0, none⟩ = some (.slice (some ⟨b0, o0, none⟩) 771 p0) := fun q => q.2 (⟨R, 0, none⟩, .slice (some ⟨b0, o0, none⟩) 771 p0) (by simp)
  have f1 : ∀ q : CW [(⟨R, 0, none⟩, .slice (some ⟨b0, o0, none⟩) 771 p0), (⟨R, 1, none⟩, .slice (some ⟨b1, o1, none⟩) 33 p1), (⟨R, 2, none⟩, .slice (some ⟨b2_, o2, none⟩) 33 p2), (⟨A7.heap.size, 0, none⟩, .int .i8 k), (⟨A7.heap.size, 1, none⟩, .int .i64 a), (⟨A7.heap.size, 2, none⟩, .int .i64 bb), (⟨A7.heap.size, 3, none⟩, .int .i64 v), (⟨A7.heap.size, 4, none⟩, .int .i64 0), (⟨A7.heap.size, 5, none⟩, .string ByteArray.empty), (⟨A7.heap.size, 6, none⟩, .slice ao1 0 ac1)], q.1.cell? ⟨R, 1, none⟩ = some (.slice (some ⟨b1, o1, none⟩) 33 p1) := fun q => q.2 (⟨R, 1, none⟩, .slice (some ⟨b1, o1, none⟩) 33 p1) (by simp)
  have f2 : ∀ q : CW [(⟨R, 0, none⟩, .slice (some ⟨b0, o0, none⟩) 771 p0), (⟨R, 1, none⟩, .slice (some ⟨b1, o1, none⟩) 33 p1), (⟨R, 2, none⟩, .slice (some ⟨b2_, o2, none⟩) 33 p2), (⟨A7.heap.size, 0, none⟩, .int .i8 k), (⟨A7.heap.size, 1, none⟩, .int .i64 a), (⟨A7.heap.size, 2, none⟩, .int .i64 bb), (⟨A7.heap.size, 3, none⟩, .int .i64 v), (⟨A7.heap.size, 4, none⟩, .int .i64 0), (⟨A7.heap.size, 5, none⟩, .string ByteArray.empty), (⟨A7.heap.size, 6, none⟩, .slice ao1 0 ac1)], q.1.cell? ⟨R, 2, none⟩ = some (.slice (some ⟨b2_, o2, none⟩) 33 p2) := fun q => q.2 (⟨R, 2, none⟩, .slice (some ⟨b2_, o2, none⟩) 33 p2) (by simp)
  have f3 : ∀ q : CW [(⟨R, 0, none⟩, .slice (some ⟨b0, o0, none⟩) 771 p0), (⟨R, 1, none⟩, .slice (some ⟨b1, o1, none⟩) 33 p1), (⟨R, 2, none⟩, .slice (some ⟨b2_, o2, none⟩) 33 p2), (⟨A7.heap.size, 0, none⟩, .int .i8 k), (⟨A7.heap.size, 1, none⟩, .int .i64 a), (⟨A7.heap.size, 2, none⟩, .int .i64 bb), (⟨A7.heap.size, 3, none⟩, .int .i64 v), (⟨A7.heap.size, 4, none⟩, .int .i64 0), (⟨A7.heap.size, 5, none⟩, .string ByteArray.empty), (⟨A7.heap.size, 6, none⟩, .slice ao1 0 ac1)], q.1.cell? ⟨A7.heap.size, 0, none⟩ = some (.int .i8 k) := fun q => q.2 (⟨A7.heap.size, 0, none⟩, .int .i8 k) (by simp)
  have f4 : ∀ q : CW [(⟨R, 0, none⟩, .slice (some ⟨b0, o0, none⟩) 771 p0), (⟨R, 1, none⟩, .slice (some ⟨b1, o1, none⟩) 33 p1), (⟨R, 2, none⟩, .slice (some ⟨b2_, o2, none⟩) 33 p2), (⟨A7.heap.size, 0, none⟩, .int .i8 k), (⟨A7.heap.size, 1, none⟩, .int .i64 a), (⟨A7.heap.size, 2, none⟩, .int .i64 bb), (⟨A7.heap.size, 3, none⟩, .int .i64 v), (⟨A7.heap.size, 4, none⟩, .int .i64 0), (⟨A7.heap.size, 5, none⟩, .string ByteArray.empty), (⟨A7.heap.size, 6, none⟩, .slice ao1 0 ac1)], q.1.cell? ⟨A7.heap.size, 1, none⟩ = some (.int .i64 a) := fun q => q.2 (⟨A7.heap.size, 1, none⟩, .int .i64 a) (by simp)
  have f5 : ∀ q : CW [(⟨R, 0, none⟩, .slice (some ⟨b0, o0, none⟩) 771 p0), (⟨R, 1, none⟩, .slice (some ⟨b1, o1, none⟩) 33 p1), (⟨R, 2, none⟩, .slice (some ⟨b2_, o2, none⟩) 33 p2), (⟨A7.heap.size, 0, none⟩, .int .i8 k), (⟨A7.heap.size, 1, none⟩, .int .i64 a), (⟨A7.heap.size, 2, none⟩, .int .i64 bb), (⟨A7.heap.size, 3, none⟩, .int .i64 v), (⟨A7.heap.size, 4, none⟩, .int .i64 0), (⟨A7.heap.size, 5, none⟩, .string ByteArray.empty), (⟨A7.heap.size, 6, none⟩, .slice ao1 0 ac1)], q.1.cell? ⟨A7.heap.size, 2, none⟩ = some (.int .i64 bb) := fun q => q.2 (⟨A7.heap.size, 2, none⟩, .int .i64 bb) (by simp)
  have f6 : ∀ q : CW [(⟨R, 0, none⟩, .slice (some ⟨b0, o0, none⟩) 771 p0), (⟨R, 1, none⟩, .slice (some ⟨b1, o1, none⟩) 33 p1), (⟨R, 2, none⟩, .slice (some ⟨b2_, o2, none⟩) 33 p2), (⟨A7.heap.size, 0, none⟩, .int .i8 k), (⟨A7.heap.size, 1, none⟩, .int .i64 a), (⟨A7.heap.size, 2, none⟩, .int .i64 bb), (⟨A7.heap.size, 3, none⟩, .int .i64 v), (⟨A7.heap.size, 4, none⟩, .int .i64 0), (⟨A7.heap.size, 5, none⟩, .string ByteArray.empty), (⟨A7.heap.size, 6, none⟩, .slice ao1 0 ac1)], q.1.cell? ⟨A7.heap.size, 3, none⟩ = some (.int .i64 v) := fun q => q.2 (⟨A7.heap.size, 3, none⟩, .int .i64 v) (by simp)
  have f7 : ∀ q : CW [(⟨R, 0, none⟩, .slice (some ⟨b0, o0, none⟩) 771 p0), (⟨R, 1, none⟩, .slice (some ⟨b1, o1, none⟩) 33 p1), (⟨R, 2, none⟩, .slice (some ⟨b2_, o2, none⟩) 33 p2), (⟨A7.heap.size, 0, none⟩, .int .i8 k), (⟨A7.heap.size, 1, none⟩, .int .i64 a), (⟨A7.heap.size, 2, none⟩, .int .i64 bb), (⟨A7.heap.size, 3, none⟩, .int .i64 v), (⟨A7.heap.size, 4, none⟩, .int .i64 0), (⟨A7.heap.size, 5, none⟩, .string ByteArray.empty), (⟨A7.heap.size, 6, none⟩, .slice ao1 0 ac1)], q.1.cell? ⟨A7.heap.size, 4, none⟩ = some (.int .i64 0) := fun q => q.2 (⟨A7.heap.size, 4, none⟩, .int .i64 0) (by simp)
  have f8 : ∀ q : CW [(⟨R, 0, none⟩, .slice (some ⟨b0, o0, none⟩) 771 p0), (⟨R, 1, none⟩, .slice (some ⟨b1, o1, none⟩) 33 p1), (⟨R, 2, none⟩, .slice (some ⟨b2_, o2, none⟩) 33 p2), (⟨A7.heap.size, 0, none⟩, .int .i8 k), (⟨A7.heap.size, 1, none⟩, .int .i64 a), (⟨A7.heap.size, 2, none⟩, .int .i64 bb), (⟨A7.heap.size, 3, none⟩, .int .i64 v), (⟨A7.heap.size, 4, none⟩, .int .i64 0), (⟨A7.heap.size, 5, none⟩, .string ByteArray.empty), (⟨A7.heap.size, 6, none⟩, .slice ao1 0 ac1)], q.1.cell? ⟨A7.heap.size, 5, none⟩ = some (.string ByteArray.empty) := fun q => q.2 (⟨A7.heap.size, 5, none⟩, .string ByteArray.empty) (by simp)
  have f9 : ∀ q : CW [(⟨R, 0, none⟩, .slice (some ⟨b0, o0, none⟩) 771 p0), (⟨R, 1, none⟩, .slice (some ⟨b1, o1, none⟩) 33 p1), (⟨R, 2, none⟩, .slice (some ⟨b2_, o2, none⟩) 33 p2), (⟨A7.heap.size, 0, none⟩, .int .i8 k), (⟨A7.heap.size, 1, none⟩, .int .i64 a), (⟨A7.heap.size, 2, none⟩, .int .i64 bb), (⟨A7.heap.size, 3, none⟩, .int .i64 v), (⟨A7.heap.size, 4, none⟩, .int .i64 0), (⟨A7.heap.size, 5, none⟩, .string ByteArray.empty), (⟨A7.heap.size, 6, none⟩, .slice ao1 0 ac1)], q.1.cell? ⟨A7.heap.size, 6, none⟩ = some (.slice ao1 0 ac1) := fun q => q.2 (⟨A7.heap.size, 6, none⟩, .slice ao1 0 ac1) (by simp)
  (try simp only [Act.put, List.setIfInBounds_toArray, List.set_cons_succ, List.set_cons_zero])
  refine wp_region_noPanic ?_
  refine wp_region_plw (.step [true, true, true, true, true] (.cons 5 (.step [false, false, false, false, false, false, true, true, true, true] (.cons 10 (.step [] (.cons 11 (.last [false, false, false, false, false, false, false, false, false, false, false, false, true, true]) .nil)) .nil)) (.cons 10 (.step [] (.cons 5 (.step [false, false, false, false, false, false, true, true, true, true] (.cons 11 (.last [false, false, false, false, false, false, false, false, false, false, false, false, true, true]) .nil)) .nil)) .nil))) (fun y => ∃ q : CW [(⟨R, 0, none⟩, .slice (some ⟨b0, o0, none⟩) 771 p0), (⟨R, 1, none⟩, .slice (some ⟨b1, o1, none⟩) 33 p1), (⟨R, 2, none⟩, .slice (some ⟨b2_, o2, none⟩) 33 p2), (⟨A7.heap.size, 0, none⟩, .int .i8 k), (⟨A7.heap.size, 1, none⟩, .int .i64 a), (⟨A7.heap.size, 2, none⟩, .int .i64 bb), (⟨A7.heap.size, 3, none⟩, .int .i64 v), (⟨A7.heap.size, 4, none⟩, .int .i64 0), (⟨A7.heap.size, 5, none⟩, .string ByteArray.empty), (⟨A7.heap.size, 6, none⟩, .slice ao1 0 ac1)], y = q.1) (by kernel_rfl) (by kernel_rfl) (by kernel_rfl) (fun _ _ _ _ _ _ _ h => h) ⟨⟨_, HF.out⟩, rfl⟩ ?_
  simp only [wpPw, wpBw, selF, and_true]
  generalize W4.drew = V20 at *
  repeat (go_big_quiet_step (fail))
  refine wpQuiet_nil ?_
  refine ⟨?_, ?_⟩
  · refine wpOp_step rfl (fun K hK => ?_)
    go_simp
    refine (HDo.out _ _ _ _ _ ao1 ac1 (HM.out.nw (fun b hb => HP.out b (Nat.le_trans HMT.out.size (Nat.le_trans HM.out.size hb)))) (HCv.out.now HM.out) (HD1.out.now HM.out) (HD2.out.now HM.out)).mono ?_
    rintro e V21 ⟨⟨cv2, rfl, hcv⟩, hb⟩
    replace HM := Lib.hid (HM.out.below hb)
    replace HTm := Lib.hid (HTm.out.step HM.out)
    replace HTh := Lib.hid (HTh.out.step HM.out)
    replace HCv := Lib.hid (HCv.out.step HM.out)
    replace HD1 := Lib.hid (HD1.out.step HM.out)
    replace HD2 := Lib.hid (HD2.out.step HM.out)
    replace HT1 := Lib.hid (HT1.out.step HM.out)
    replace HU1 := Lib.hid (HU1.out.step HM.out)
    replace HMT := Lib.hid (HMT.out.tr HM.out)
    replace HM := Lib.hid HM.out.re
    clear hb
    have HCx := Lib.hid hcv.cn
    obtain ⟨b3, o3, p3, rfl, -⟩ := hcv
    refine hK _ _ ⟨(fun y => ∃ q : CW [(⟨R, 0, none⟩, .slice (some ⟨b0, o0, none⟩) 771 p0), (⟨R, 1, none⟩, .slice (some ⟨b1, o1, none⟩) 33 p1), (⟨R, 2, none⟩, .slice (some ⟨b2_, o2, none⟩) 33 p2), (⟨A7.heap.size, 0, none⟩, .int .i8 k), (⟨A7.heap.size, 1, none⟩, .int .i64 a), (⟨A7.heap.size, 2, none⟩, .int .i64 bb), (⟨A7.heap.size, 3, none⟩, .int .i64 v), (⟨A7.heap.size, 4, none⟩, .int .i64 0), (⟨A7.heap.size, 5, none⟩, .string ByteArray.empty), (⟨A7.heap.size, 6, none⟩, .slice ao1 0 ac1)], y = q.1), ⟨⟨_, (allc ((HM.out.hb 0 _ _ _ rfl).cell (k := 0) HW0.out) (allc ((HM.out.hb 0 _ _ _ rfl).cell (k := 1) HW1.out) (allc ((HM.out.hb 0 _ _ _ rfl).cell (k := 2) HW2.out) (allc ((HM.out.hb 2 _ _ _ rfl).cell (k := 0) rfl) (allc ((HM.out.hb 2 _ _ _ rfl).cell (k := 1) rfl) (allc ((HM.out.hb 2 _ _ _ rfl).cell (k := 2) rfl) (allc ((HM.out.hb 2 _ _ _ rfl).cell (k := 3) rfl) (allc ((HM.out.hb 2 _ _ _ rfl).cell (k := 4) rfl) (allc ((HM.out.hb 2 _ _ _ rfl).cell (k := 5) rfl) (allc ((HM.out.hb 2 _ _ _ rfl).cell (k := 6) rfl) (alln _)))))))))))⟩, rfl⟩, fun _ h => h, ?_⟩
    clear hK K
    (try simp only [Act.put, List.setIfInBounds_toArray, List.set_cons_succ, List.set_cons_zero])
    repeat (go_big_quiet_step (fail))
    refine wpQuiet_nil ?_
    refine wpOp_step rfl (fun K hK => ?_)
    rw [if_pos (by rfl)]
    refine wpOm_al HM 35 rfl 13 rfl _ zer35 ?_
    intro V22 hM
    (try simp only [List.cons_append, List.nil_append, List.set_cons_succ, List.set_cons_zero, Nat.reduceAdd] at hM)
    replace HM := hM
    clear hM
    refine hK _ _ ⟨(fun y => ∃ q : CW [(⟨R, 0, none⟩, .slice (some ⟨b0, o0, none⟩) 771 p0), (⟨R, 1, none⟩, .slice (some ⟨b1, o1, none⟩) 33 p1), (⟨R, 2, none⟩, .slice (some ⟨b2_, o2, none⟩) 33 p2), (⟨A7.heap.size, 0, none⟩, .int .i8 k), (⟨A7.heap.size, 1, none⟩, .int .i64 a), (⟨A7.heap.size, 2, none⟩, .int .i64 bb), (⟨A7.heap.size, 3, none⟩, .int .i64 v), (⟨A7.heap.size, 4, none⟩, .int .i64 0), (⟨A7.heap.size, 5, none⟩, .string ByteArray.empty), (⟨A7.heap.size, 6, none⟩, .slice ao1 0 ac1)], y = q.1), ⟨⟨_, (allc ((HM.out.hb 0 _ _ _ rfl).cell (k := 0) HW0.out) (allc ((HM.out.hb 0 _ _ _ rfl).cell (k := 1) HW1.out) (allc ((HM.out.hb 0 _ _ _ rfl).cell (k := 2) HW2.out) (allc ((HM.out.hb 2 _ _ _ rfl).cell (k := 0) rfl) (allc ((HM.out.hb 2 _ _ _ rfl).cell (k := 1) rfl) (allc ((HM.out.hb 2 _ _ _ rfl).cell (k := 2) rfl) (allc ((HM.out.hb 2 _ _ _ rfl).cell (k := 3) rfl) (allc ((HM.out.hb 2 _ _ _ rfl).cell (k := 4) rfl) (allc ((HM.out.hb 2 _ _ _ rfl).cell (k := 5) rfl) (allc ((HM.out.hb 2 _ _ _ rfl).cell (k := 6) rfl) (alln _)))))))))))⟩, rfl⟩, fun _ h => h, ?_⟩
    clear hK K
    (try simp only [Act.put, List.setIfInBounds_toArray, List.set_cons_succ, List.set_cons_zero])
    refine wpQuiet_nil ?_
    refine wpOp_step rfl (fun K hK => ?_)
    rw [if_pos (by rfl)]
    refine wpOm_st HM 35 (.tmp 13) (.tmp 81) rfl rfl 5 rfl #[.slice (some ⟨b3, o3, none⟩) 771 p3, .slice (some ⟨b1, o1, none⟩) 33 p1, .slice (some ⟨b2_, o2, none⟩) 33 p2] rfl rfl 3 inf35 rfl rfl (w35_one _ _ _ _ _ _ _ _ _) ?_
    intro V23 hM
    (try simp only [List.cons_append, List.nil_append, List.set_cons_succ, List.set_cons_zero, Nat.reduceAdd] at hM)
    replace HM := hM
    clear hM
    refine hK _ _ ⟨(fun y => ∃ q : CW [(⟨R, 0, none⟩, .slice (some ⟨b0, o0, none⟩) 771 p0), (⟨R, 1, none⟩, .slice (some ⟨b1, o1, none⟩) 33 p1), (⟨R, 2, none⟩, .slice (some ⟨b2_, o2, none⟩) 33 p2), (⟨A7.heap.size, 0, none⟩, .int .i8 k), (⟨A7.heap.size, 1, none⟩, .int .i64 a), (⟨A7.heap.size, 2, none⟩, .int .i64 bb), (⟨A7.heap.size, 3, none⟩, .int .i64 v), (⟨A7.heap.size, 4, none⟩, .int .i64 0), (⟨A7.heap.size, 5, none⟩, .string ByteArray.empty), (⟨A7.heap.size, 6, none⟩, .slice ao1 0 ac1)], y = q.1), ⟨⟨_, (allc ((HM.out.hb 0 _ _ _ rfl).cell (k := 0) HW0.out) (allc ((HM.out.hb 0 _ _ _ rfl).cell (k := 1) HW1.out) (allc ((HM.out.hb 0 _ _ _ rfl).cell (k := 2) HW2.out) (allc ((HM.out.hb 2 _ _ _ rfl).cell (k := 0) rfl) (allc ((HM.out.hb 2 _ _ _ rfl).cell (k := 1) rfl) (allc ((HM.out.hb 2 _ _ _ rfl).cell (k := 2) rfl) (allc ((HM.out.hb 2 _ _ _ rfl).cell (k := 3) rfl) (allc ((HM.out.hb 2 _ _ _ rfl).cell (k := 4) rfl) (allc ((HM.out.hb 2 _ _ _ rfl).cell (k := 5) rfl) (allc ((HM.out.hb 2 _ _ _ rfl).cell (k := 6) rfl) (alln _)))))))))))⟩, rfl⟩, fun _ h => h, ?_⟩
    clear hK K
    (try simp only [Act.put, List.setIfInBounds_toArray, List.set_cons_succ, List.set_cons_zero])
    repeat (go_big_quiet_step (fail))
    refine wpQuiet_nil ?_
    refine NoPanic.normal ?_
    clear f0 f1 f2 f3 f4 f5 f6 f7 f8 f9 HF
    go_wp2_with (first
      | (refine wpm_ld35 HM rfl (.tmp 13) rfl 5 rfl rfl rfl ?_)
      | (refine wpm_stW HM HA rfl (.tmp 89) (.tmp 87) rfl 0 rfl _ _ _ _ _ _ _ _ _ rfl rfl (fun j => if j = 0 then .slice (some ⟨b3, o3, none⟩) 771 p3 else s.w j) rfl ECv.out.2.1 ECv.out.2.2 ?_; clear HA HW0 HW1 HW2; intro W11 C11 HA hM; (try simp only [List.cons_append, List.nil_append, List.set_cons_succ, List.set_cons_zero, Nat.reduceAdd] at hM); replace HM := hM; clear hM))
    obtain ⟨tac, taao, tan, tacap, tago, tagn, tagc, tay, rfl⟩ := HT1c.out
    replace HM := Lib.hid HM.out.drew
    have HF : Hid (∀ p ∈ ([(⟨W1.heap.size, 0, none⟩, .int .i64 tac), (⟨W1.heap.size, 1, none⟩, .slice taao tan tacap), (⟨W1.heap.size, 2, none⟩, .slice tago tagn tagc), (⟨W1.heap.size, 3, none⟩, .bool tay)] : List (Addr × Value)), World.cell? _ p.1 = some p.2) := Lib.hid (allc ((HM.out.hb 1 _ _ _ rfl).cell (k := 0) rfl) (allc ((HM.out.hb 1 _ _ _ rfl).cell (k := 1) rfl) (allc ((HM.out.hb 1 _ _ _ rfl).cell (k := 2) rfl) (allc ((HM.out.hb 1 _ _ _ rfl).cell (k := 3) rfl) (alln _)))))
    haveI : Inhabited (CW [(⟨W1.heap.size, 0, none⟩, .int .i64 tac), (⟨W1.heap.size, 1, none⟩, .slice taao tan tacap), (⟨W1.heap.size, 2, none⟩, .slice tago tagn tagc), (⟨W1.heap.size, 3, none⟩, .bool tay)]) := ⟨⟨_, HF.out⟩⟩
    have f0 : ∀ q : CW [(⟨W1.heap.size, 0, none⟩, .int .i64 tac), (⟨W1.heap.size, 1, none⟩, .slice taao tan tacap), (⟨W1.heap.size, 2, none⟩, .slice tago tagn tagc), (⟨W1.heap.size, 3, none⟩, .bool tay)], q.1.cell? ⟨W1.heap.size, 0, none⟩ = some (.int .i64 tac) := fun q => q.2 (⟨W1.heap.size, 0, none⟩, .int .i64 tac) (by simp)
    have f1 : ∀ q : CW [(⟨W1.heap.size, 0, none⟩, .int .i64 tac), (⟨W1.heap.size, 1, none⟩, .slice taao tan tacap), (⟨W1.heap.size, 2, none⟩, .slice tago tagn tagc), (⟨W1.heap.size, 3, none⟩, .bool tay)], q.1.cell? ⟨W1.heap.size, 1, none⟩ = some (.slice taao tan tacap) := fun q => q.2 (⟨W1.heap.size, 1, none⟩, .slice taao tan tacap) (by simp)
    have f2 : ∀ q : CW [(⟨W1.heap.size, 0, none⟩, .int .i64 tac), (⟨W1.heap.size, 1, none⟩, .slice taao tan tacap), (⟨W1.heap.size, 2, none⟩, .slice tago tagn tagc), (⟨W1.heap.size, 3, none⟩, .bool tay)], q.1.cell? ⟨W1.heap.size, 2, none⟩ = some (.slice tago tagn tagc) := fun q => q.2 (⟨W1.heap.size, 2, none⟩, .slice tago tagn tagc) (by simp)
    have f3 : ∀ q : CW [(⟨W1.heap.size, 0, none⟩, .int .i64 tac), (⟨W1.heap.size, 1, none⟩, .slice taao tan tacap), (⟨W1.heap.size, 2, none⟩, .slice tago tagn tagc), (⟨W1.heap.size, 3, none⟩, .bool tay)], q.1.cell? ⟨W1.heap.size, 3, none⟩ = some (.bool tay) := fun q => q.2 (⟨W1.heap.size, 3, none⟩, .bool tay) (by simp)
    (try simp only [Act.put, List.setIfInBounds_toArray, List.set_cons_succ, List.set_cons_zero])
    refine wp_region_noPanic ?_
    refine wp_region_plw (.step [true, true, true, true, false, false, false, false, true, true] (.cons 4 (.step [false, false, false, false, false, true, true, true, false, false, true] (.cons 11 (.last []) .nil)) .nil)) (fun y => ∃ q : CW [(⟨W1.heap.size, 0, none⟩, .int .i64 tac), (⟨W1.heap.size, 1, none⟩, .slice taao tan tacap), (⟨W1.heap.size, 2, none⟩, .slice tago tagn tagc), (⟨W1.heap.size, 3, none⟩, .bool tay)], y = q.1) (by kernel_rfl) (by kernel_rfl) (by kernel_rfl) (fun _ _ _ _ _ _ _ h => h) ⟨⟨_, HF.out⟩, rfl⟩ ?_
    simp only [wpPw, wpBw, selF, and_true]
    generalize W11.drew = V24 at *
    repeat (go_big_quiet_step (fail))
    refine wpQuiet_nil ?_
    refine wpOp_step rfl (fun K hK => ?_)
    go_simp
    refine (give_p _ (HM.out.nw (fun b hb => HP.out b (Nat.le_trans HMT.out.size (Nat.le_trans HM.out.size hb)))) HC4.out (HT1.out.now HM.out) y).mono ?_
    rintro e V25 ⟨⟨HT2v, rfl, hl⟩, hb⟩
    replace HM := Lib.hid (HM.out.below hb)
    replace HTm := Lib.hid (HTm.out.step HM.out)
    replace HTh := Lib.hid (HTh.out.step HM.out)
    replace HCv := Lib.hid (HCv.out.step HM.out)
    replace HD1 := Lib.hid (HD1.out.step HM.out)
    replace HD2 := Lib.hid (HD2.out.step HM.out)
    replace HT1 := Lib.hid (HT1.out.step HM.out)
    replace HU1 := Lib.hid (HU1.out.step HM.out)
    replace HCx := Lib.hid (HCx.out.step HM.out)
    replace HMT := Lib.hid (HMT.out.tr HM.out)
    replace HM := Lib.hid HM.out.re
    have HT2 := Lib.hid hl.cn
    have HT2c := Lib.hid hl.task
    clear hb hl
    refine hK _ _ ⟨(fun y => ∃ q : CW [(⟨W1.heap.size, 0, none⟩, .int .i64 tac), (⟨W1.heap.size, 1, none⟩, .slice taao tan tacap), (⟨W1.heap.size, 2, none⟩, .slice tago tagn tagc), (⟨W1.heap.size, 3, none⟩, .bool tay)], y = q.1), ⟨⟨_, (allc ((HM.out.hb 1 _ _ _ rfl).cell (k := 0) rfl) (allc ((HM.out.hb 1 _ _ _ rfl).cell (k := 1) rfl) (allc ((HM.out.hb 1 _ _ _ rfl).cell (k := 2) rfl) (allc ((HM.out.hb 1 _ _ _ rfl).cell (k := 3) rfl) (alln _)))))⟩, rfl⟩, fun _ h => h, ?_⟩
    clear hK K
    (try simp only [Act.put, List.setIfInBounds_toArray, List.set_cons_succ, List.set_cons_zero])
    repeat (go_big_quiet_step (fail))
    refine wpQuiet_nil ?_
    refine wpOp_step rfl (fun K hK => ?_)
    rw [if_pos (by rfl)]
    refine wpOm_stM HM HA (.tmp 100) (.tmp 96) rfl rfl 0 rfl c hc _ rfl rfl HT2c.out ?_
    clear HA
    intro V26 V26c HA hM
    (try simp only [List.cons_append, List.nil_append, List.set_cons_succ, List.set_cons_zero, Nat.reduceAdd] at hM)
    replace HM := hM
    clear hM
    refine hK _ _ ⟨(fun y => ∃ q : CW [(⟨W1.heap.size, 0, none⟩, .int .i64 tac), (⟨W1.heap.size, 1, none⟩, .slice taao tan tacap), (⟨W1.heap.size, 2, none⟩, .slice tago tagn tagc), (⟨W1.heap.size, 3, none⟩, .bool tay)], y = q.1), ⟨⟨_, (allc ((HM.out.hb 1 _ _ _ rfl).cell (k := 0) rfl) (allc ((HM.out.hb 1 _ _ _ rfl).cell (k := 1) rfl) (allc ((HM.out.hb 1 _ _ _ rfl).cell (k := 2) rfl) (allc ((HM.out.hb 1 _ _ _ rfl).cell (k := 3) rfl) (alln _)))))⟩, rfl⟩, fun _ h => h, ?_⟩
    clear hK K
    (try simp only [Act.put, List.setIfInBounds_toArray, List.set_cons_succ, List.set_cons_zero])
    refine wpQuiet_nil ?_
    refine NoPanic.normal ?_
    clear f0 f1 f2 f3 HF
    go_wp2_with fail
    obtain ⟨uac, uaao, uan, uacap, uago, uagn, uagc, uay, rfl⟩ := HU1c.out
    replace HM := Lib.hid HM.out.drew
    have HF : Hid (∀ p ∈ ([(⟨W2.heap.size, 0, none⟩, .int .i64 uac), (⟨W2.heap.size, 1, none⟩, .slice uaao uan uacap), (⟨W2.heap.size, 2, none⟩, .slice uago uagn uagc), (⟨W2.heap.size, 3, none⟩, .bool uay)] : List (Addr × Value)), World.cell? _ p.1 = some p.2) := Lib.hid (allc ((HM.out.hb 3 _ _ _ rfl).cell (k := 0) rfl) (allc ((HM.out.hb 3 _ _ _ rfl).cell (k := 1) rfl) (allc ((HM.out.hb 3 _ _ _ rfl).cell (k := 2) rfl) (allc ((HM.out.hb 3 _ _ _ rfl).cell (k := 3) rfl) (alln _)))))
    haveI : Inhabited (CW [(⟨W2.heap.size, 0, none⟩, .int .i64 uac), (⟨W2.heap.size, 1, none⟩, .slice uaao uan uacap), (⟨W2.heap.size, 2, none⟩, .slice uago uagn uagc), (⟨W2.heap.size, 3, none⟩, .bool uay)]) := ⟨⟨_, HF.out⟩⟩
    have f0 : ∀ q : CW [(⟨W2.heap.size, 0, none⟩, .int .i64 uac), (⟨W2.heap.size, 1, none⟩, .slice uaao uan uacap), (⟨W2.heap.size, 2, none⟩, .slice uago uagn uagc), (⟨W2.heap.size, 3, none⟩, .bool uay)], q.1.cell? ⟨W2.heap.size, 0, none⟩ = some (.int .i64 uac) := fun q => q.2 (⟨W2.heap.size, 0, none⟩, .int .i64 uac) (by simp)
    have f1 : ∀ q : CW [(⟨W2.heap.size, 0, none⟩, .int .i64 uac), (⟨W2.heap.size, 1, none⟩, .slice uaao uan uacap), (⟨W2.heap.size, 2, none⟩, .slice uago uagn uagc), (⟨W2.heap.size, 3, none⟩, .bool uay)], q.1.cell? ⟨W2.heap.size, 1, none⟩ = some (.slice uaao uan uacap) := fun q => q.2 (⟨W2.heap.size, 1, none⟩, .slice uaao uan uacap) (by simp)
    have f2 : ∀ q : CW [(⟨W2.heap.size, 0, none⟩, .int .i64 uac), (⟨W2.heap.size, 1, none⟩, .slice uaao uan uacap), (⟨W2.heap.size, 2, none⟩, .slice uago uagn uagc), (⟨W2.heap.size, 3, none⟩, .bool uay)], q.1.cell? ⟨W2.heap.size, 2, none⟩ = some (.slice uago uagn uagc) := fun q => q.2 (⟨W2.heap.size, 2, none⟩, .slice uago uagn uagc) (by simp)
    have f3 : ∀ q : CW [(⟨W2.heap.size, 0, none⟩, .int .i64 uac), (⟨W2.heap.size, 1, none⟩, .slice uaao uan uacap), (⟨W2.heap.size, 2, none⟩, .slice uago uagn uagc), (⟨W2.heap.size, 3, none⟩, .bool uay)], q.1.cell? ⟨W2.heap.size, 3, none⟩ = some (.bool uay) := fun q => q.2 (⟨W2.heap.size, 3, none⟩, .bool uay) (by simp)
    (try simp only [Act.put, List.setIfInBounds_toArray, List.set_cons_succ, List.set_cons_zero])
    refine wp_region_noPanic ?_
    refine wp_region_plw (.step [true, true, true, true, false, false, false, false, true, true] (.cons 4 (.step [false, false, false, false, false, true, true, true, false, false, true] (.cons 11 (.last []) .nil)) .nil)) (fun y => ∃ q : CW [(⟨W2.heap.size, 0, none⟩, .int .i64 uac), (⟨W2.heap.size, 1, none⟩, .slice uaao uan uacap), (⟨W2.heap.size, 2, none⟩, .slice uago uagn uagc), (⟨W2.heap.size, 3, none⟩, .bool uay)], y = q.1) (by kernel_rfl) (by kernel_rfl) (by kernel_rfl) (fun _ _ _ _ _ _ _ h => h) ⟨⟨_, HF.out⟩, rfl⟩ ?_
    simp only [wpPw, wpBw, selF, and_true]
    generalize V26.drew = V27 at *
    repeat (go_big_quiet_step (fail))
    refine wpQuiet_nil ?_
    refine wpOp_step rfl (fun K hK => ?_)
    go_simp
    refine (give_p _ (HM.out.nw (fun b hb => HP.out b (Nat.le_trans HMT.out.size (Nat.le_trans HM.out.size hb)))) HC4.out (HU1.out.now HM.out) y).mono ?_
    rintro e V28 ⟨⟨HU2v, rfl, hl⟩, hb⟩
    replace HM := Lib.hid (HM.out.below hb)
    replace HTm := Lib.hid (HTm.out.step HM.out)
    replace HTh := Lib.hid (HTh.out.step HM.out)
    replace HCv := Lib.hid (HCv.out.step HM.out)
    replace HD1 := Lib.hid (HD1.out.step HM.out)
    replace HD2 := Lib.hid (HD2.out.step HM.out)
    replace HT1 := Lib.hid (HT1.out.step HM.out)
    replace HU1 := Lib.hid (HU1.out.step HM.out)
    replace HCx := Lib.hid (HCx.out.step HM.out)
    replace HT2 := Lib.hid (HT2.out.step HM.out)
    replace HMT := Lib.hid (HMT.out.tr HM.out)
    replace HM := Lib.hid HM.out.re
    have HU2 := Lib.hid hl.cn
    have HU2c := Lib.hid hl.task
    clear hb hl
    refine hK _ _ ⟨(fun y => ∃ q : CW [(⟨W2.heap.size, 0, none⟩, .int .i64 uac), (⟨W2.heap.size, 1, none⟩, .slice uaao uan uacap), (⟨W2.heap.size, 2, none⟩, .slice uago uagn uagc), (⟨W2.heap.size, 3, none⟩, .bool uay)], y = q.1), ⟨⟨_, (allc ((HM.out.hb 3 _ _ _ rfl).cell (k := 0) rfl) (allc ((HM.out.hb 3 _ _ _ rfl).cell (k := 1) rfl) (allc ((HM.out.hb 3 _ _ _ rfl).cell (k := 2) rfl) (allc ((HM.out.hb 3 _ _ _ rfl).cell (k := 3) rfl) (alln _)))))⟩, rfl⟩, fun _ h => h, ?_⟩
    clear hK K
    (try simp only [Act.put, List.setIfInBounds_toArray, List.set_cons_succ, List.set_cons_zero])
    repeat (go_big_quiet_step (fail))
    refine wpQuiet_nil ?_
    refine wpOp_step rfl (fun K hK => ?_)
    rw [if_pos (by rfl)]
    refine wpOm_stH HM HA (.tmp 111) (.tmp 107) rfl rfl 0 rfl c hc _ rfl rfl HU2c.out ?_
    clear HA
    intro V29 V29c HA hM
    (try simp only [List.cons_append, List.nil_append, List.set_cons_succ, List.set_cons_zero, Nat.reduceAdd] at hM)
    replace HM := hM
    clear hM
    refine hK _ _ ⟨(fun y => ∃ q : CW [(⟨W2.heap.size, 0, none⟩, .int .i64 uac), (⟨W2.heap.size, 1, none⟩, .slice uaao uan uacap), (⟨W2.heap.size, 2, none⟩, .slice uago uagn uagc), (⟨W2.heap.size, 3, none⟩, .bool uay)], y = q.1), ⟨⟨_, (allc ((HM.out.hb 3 _ _ _ rfl).cell (k := 0) rfl) (allc ((HM.out.hb 3 _ _ _ rfl).cell (k := 1) rfl) (allc ((HM.out.hb 3 _ _ _ rfl).cell (k := 2) rfl) (allc ((HM.out.hb 3 _ _ _ rfl).cell (k := 3) rfl) (alln _)))))⟩, rfl⟩, fun _ h => h, ?_⟩
    clear hK K
    (try simp only [Act.put, List.setIfInBounds_toArray, List.set_cons_succ, List.set_cons_zero])
    refine wpQuiet_nil ?_
    refine NoPanic.normal ?_
    clear f0 f1 f2 f3 HF
    go_wp2_with fail
    refine (end13_over c hc R _ _ _ (HM.out.nw (fun b hb => HP.out b (Nat.le_trans HMT.out.size (Nat.le_trans HM.out.size hb)))) (fun b hb => HPR.out b hb.1) (HM.out.hb 0 _ _ _ rfl) HA.out f2 g2 f4 g4 y (live_of (by simp [RS.setM, RS.setH, RS.setW, upd]) (HT2.out.now HM.out)) (live_of (by simp [RS.setM, RS.setH, RS.setW, upd]) (HU2.out.now HM.out)) k2 a2 b2 v2 l2 HOk2.out HK2.out HN2.out HR2.out).mono ?_
    rintro e W14 ⟨⟨ans, rfl, hIn⟩, C6, hMe, hAe⟩
    have hM5 := HM.out.upR (i := 0) rfl hMe
    simp only [List.set_cons_zero] at hM5
    replace HM := Lib.hid hM5
    have HAE := Lib.hid hAe
    have HIN := Lib.hid hIn
    clear hIn
    clear hMe hAe hM5
    go_wp2_with fail
    (try simp only [Exit.inBlock, Exit.then])
    refine bodyPost_ret (res_ttt rfl _ _ _ _ _ rfl rfl rfl) rfl ?_
    refine ⟨⟨_, rfl, HIN.out.weak (fun b hb => hb.1)⟩, ?_⟩
    unfold Step13
    refine ⟨C6, HT2v, HU2v, _, (HMT.out.tr HM.out).sub (fun i e hi => by match i, hi with | 0, hi => exact hi | i + 1, hi => simp at hi), HAE.out, (HCx.out.mem (fun b hb => hb.2.1) HM.out).weak fun b hb _ => hb.1, ?_, ?_, (HT2.out.mem (fun b hb => hb.2.1) HM.out).weak fun b hb _ => hb.1, (HU2.out.mem (fun b hb => hb.2.1) HM.out).weak fun b hb _ => hb.1⟩
    · rw [ECv.out.2.1]; exact (HD1.out.mem (fun b hb => hb.2.1) HM.out).weak fun b hb _ => hb.1
    · rw [ECv.out.2.2]; exact (HD2.out.mem (fun b hb => hb.2.1) HM.out).weak fun b hb _ => hb.1
  · refine wpOp_step rfl (fun K hK => ?_)
    rw [if_pos (by rfl)]
    refine wpOm_al HM 35 rfl 13 rfl _ zer35 ?_
    intro V30 hM
    (try simp only [List.cons_append, List.nil_append, List.set_cons_succ, List.set_cons_zero, Nat.reduceAdd] at hM)
    replace HM := hM
    clear hM
    refine hK _ _ ⟨(fun y => ∃ q : CW [(⟨R, 0, none⟩, .slice (some ⟨b0, o0, none⟩) 771 p0), (⟨R, 1, none⟩, .slice (some ⟨b1, o1, none⟩) 33 p1), (⟨R, 2, none⟩, .slice (some ⟨b2_, o2, none⟩) 33 p2), (⟨A7.heap.size, 0, none⟩, .int .i8 k), (⟨A7.heap.size, 1, none⟩, .int .i64 a), (⟨A7.heap.size, 2, none⟩, .int .i64 bb), (⟨A7.heap.size, 3, none⟩, .int .i64 v), (⟨A7.heap.size, 4, none⟩, .int .i64 0), (⟨A7.heap.size, 5, none⟩, .string ByteArray.empty), (⟨A7.heap.size, 6, none⟩, .slice ao1 0 ac1)], y = q.1), ⟨⟨_, (allc ((HM.out.hb 0 _ _ _ rfl).cell (k := 0) HW0.out) (allc ((HM.out.hb 0 _ _ _ rfl).cell (k := 1) HW1.out) (allc ((HM.out.hb 0 _ _ _ rfl).cell (k := 2) HW2.out) (allc ((HM.out.hb 2 _ _ _ rfl).cell (k := 0) rfl) (allc ((HM.out.hb 2 _ _ _ rfl).cell (k := 1) rfl) (allc ((HM.out.hb 2 _ _ _ rfl).cell (k := 2) rfl) (allc ((HM.out.hb 2 _ _ _ rfl).cell (k := 3) rfl) (allc ((HM.out.hb 2 _ _ _ rfl).cell (k := 4) rfl) (allc ((HM.out.hb 2 _ _ _ rfl).cell (k := 5) rfl) (allc ((HM.out.hb 2 _ _ _ rfl).cell (k := 6) rfl) (alln _)))))))))))⟩, rfl⟩, fun _ h => h, ?_⟩
    clear hK K
    (try simp only [Act.put, List.setIfInBounds_toArray, List.set_cons_succ, List.set_cons_zero])
    refine wpQuiet_nil ?_
    refine wpOp_step rfl (fun K hK => ?_)
    go_simp
    refine (HDo.out _ _ _ _ _ ao1 ac1 (HM.out.nw (fun b hb => HP.out b (Nat.le_trans HMT.out.size (Nat.le_trans HM.out.size hb)))) (HCv.out.now HM.out) (HD1.out.now HM.out) (HD2.out.now HM.out)).mono ?_
    rintro e V31 ⟨⟨cv2, rfl, hcv⟩, hb⟩
    replace HM := Lib.hid (HM.out.below hb)
    replace HTm := Lib.hid (HTm.out.step HM.out)
    replace HTh := Lib.hid (HTh.out.step HM.out)
    replace HCv := Lib.hid (HCv.out.step HM.out)
    replace HD1 := Lib.hid (HD1.out.step HM.out)
    replace HD2 := Lib.hid (HD2.out.step HM.out)
    replace HT1 := Lib.hid (HT1.out.step HM.out)
    replace HU1 := Lib.hid (HU1.out.step HM.out)
    replace HMT := Lib.hid (HMT.out.tr HM.out)
    replace HM := Lib.hid HM.out.re
    clear hb
    have HCx := Lib.hid hcv.cn
    obtain ⟨b3, o3, p3, rfl, -⟩ := hcv
    refine hK _ _ ⟨(fun y => ∃ q : CW [(⟨R, 0, none⟩, .slice (some ⟨b0, o0, none⟩) 771 p0), (⟨R, 1, none⟩, .slice (some ⟨b1, o1, none⟩) 33 p1), (⟨R, 2, none⟩, .slice (some ⟨b2_, o2, none⟩) 33 p2), (⟨A7.heap.size, 0, none⟩, .int .i8 k), (⟨A7.heap.size, 1, none⟩, .int .i64 a), (⟨A7.heap.size, 2, none⟩, .int .i64 bb), (⟨A7.heap.size, 3, none⟩, .int .i64 v), (⟨A7.heap.size, 4, none⟩, .int .i64 0), (⟨A7.heap.size, 5, none⟩, .string ByteArray.empty), (⟨A7.heap.size, 6, none⟩, .slice ao1 0 ac1)], y = q.1), ⟨⟨_, (allc ((HM.out.hb 0 _ _ _ rfl).cell (k := 0) HW0.out) (allc ((HM.out.hb 0 _ _ _ rfl).cell (k := 1) HW1.out) (allc ((HM.out.hb 0 _ _ _ rfl).cell (k := 2) HW2.out) (allc ((HM.out.hb 2 _ _ _ rfl).cell (k := 0) rfl) (allc ((HM.out.hb 2 _ _ _ rfl).cell (k := 1) rfl) (allc ((HM.out.hb 2 _ _ _ rfl).cell (k := 2) rfl) (allc ((HM.out.hb 2 _ _ _ rfl).cell (k := 3) rfl) (allc ((HM.out.hb 2 _ _ _ rfl).cell (k := 4) rfl) (allc ((HM.out.hb 2 _ _ _ rfl).cell (k := 5) rfl) (allc ((HM.out.hb 2 _ _ _ rfl).cell (k := 6) rfl) (alln _)))))))))))⟩, rfl⟩, fun _ h => h, ?_⟩
    clear hK K
    (try simp only [Act.put, List.setIfInBounds_toArray, List.set_cons_succ, List.set_cons_zero])
    repeat (go_big_quiet_step (fail))
    refine wpQuiet_nil ?_
    refine wpOp_step rfl (fun K hK => ?_)
    rw [if_pos (by rfl)]
    refine wpOm_st HM 35 (.tmp 13) (.tmp 81) rfl rfl 5 rfl #[.slice (some ⟨b3, o3, none⟩) 771 p3, .slice (some ⟨b1, o1, none⟩) 33 p1, .slice (some ⟨b2_, o2, none⟩) 33 p2] rfl rfl 3 inf35 rfl rfl (w35_one _ _ _ _ _ _ _ _ _) ?_
    intro V32 hM
    (try simp only [List.cons_append, List.nil_append, List.set_cons_succ, List.set_cons_zero, Nat.reduceAdd] at hM)
    replace HM := hM
    clear hM
    refine hK _ _ ⟨(fun y => ∃ q : CW [(⟨R, 0, none⟩, .slice (some ⟨b0, o0, none⟩) 771 p0), (⟨R, 1, none⟩, .slice (some ⟨b1, o1, none⟩) 33 p1), (⟨R, 2, none⟩, .slice (some ⟨b2_, o2, none⟩) 33 p2), (⟨A7.heap.size, 0, none⟩, .int .i8 k), (⟨A7.heap.size, 1, none⟩, .int .i64 a), (⟨A7.heap.size, 2, none⟩, .int .i64 bb), (⟨A7.heap.size, 3, none⟩, .int .i64 v), (⟨A7.heap.size, 4, none⟩, .int .i64 0), (⟨A7.heap.size, 5, none⟩, .string ByteArray.empty), (⟨A7.heap.size, 6, none⟩, .slice ao1 0 ac1)], y = q.1), ⟨⟨_, (allc ((HM.out.hb 0 _ _ _ rfl).cell (k := 0) HW0.out) (allc ((HM.out.hb 0 _ _ _ rfl).cell (k := 1) HW1.out) (allc ((HM.out.hb 0 _ _ _ rfl).cell (k := 2) HW2.out) (allc ((HM.out.hb 2 _ _ _ rfl).cell (k := 0) rfl) (allc ((HM.out.hb 2 _ _ _ rfl).cell (k := 1) rfl) (allc ((HM.out.hb 2 _ _ _ rfl).cell (k := 2) rfl) (allc ((HM.out.hb 2 _ _ _ rfl).cell (k := 3) rfl) (allc ((HM.out.hb 2 _ _ _ rfl).cell (k := 4) rfl) (allc ((HM.out.hb 2 _ _ _ rfl).cell (k := 5) rfl) (allc ((HM.out.hb 2 _ _ _ rfl).cell (k := 6) rfl) (alln _)))))))))))⟩, rfl⟩, fun _ h => h, ?_⟩
    clear hK K
    (try simp only [Act.put, List.setIfInBounds_toArray, List.set_cons_succ, List.set_cons_zero])
    repeat (go_big_quiet_step (fail))
    refine wpQuiet_nil ?_
    refine NoPanic.normal ?_
    clear f0 f1 f2 f3 f4 f5 f6 f7 f8 f9 HF
    go_wp2_with (first
      | (refine wpm_ld35 HM rfl (.tmp 13) rfl 5 rfl rfl rfl ?_)
      | (refine wpm_stW HM HA rfl (.tmp 89) (.tmp 87) rfl 0 rfl _ _ _ _ _ _ _ _ _ rfl rfl (fun j => if j = 0 then .slice (some ⟨b3, o3, none⟩) 771 p3 else s.w j) rfl ECv.out.2.1 ECv.out.2.2 ?_; clear HA HW0 HW1 HW2; intro W11 C11 HA hM; (try simp only [List.cons_append, List.nil_append, List.set_cons_succ, List.set_cons_zero, Nat.reduceAdd] at hM); replace HM := hM; clear hM))
    obtain ⟨tac, taao, tan, tacap, tago, tagn, tagc, tay, rfl⟩ := HT1c.out
    replace HM := Lib.hid HM.out.drew
    have HF : Hid (∀ p ∈ ([(⟨W1.heap.size, 0, none⟩, .int .i64 tac), (⟨W1.heap.size, 1, none⟩, .slice taao tan tacap), (⟨W1.heap.size, 2, none⟩, .slice tago tagn tagc), (⟨W1.heap.size, 3, none⟩, .bool tay)] : List (Addr × Value)), World.cell? _ p.1 = some p.2) := Lib.hid (allc ((HM.out.hb 1 _ _ _ rfl).cell (k := 0) rfl) (allc ((HM.out.hb 1 _ _ _ rfl).cell (k := 1) rfl) (allc ((HM.out.hb 1 _ _ _ rfl).cell (k := 2) rfl) (allc ((HM.out.hb 1 _ _ _ rfl).cell (k := 3) rfl) (alln _)))))
    haveI : Inhabited (CW [(⟨W1.heap.size, 0, none⟩, .int .i64 tac), (⟨W1.heap.size, 1, none⟩, .slice taao tan tacap), (⟨W1.heap.size, 2, none⟩, .slice tago tagn tagc), (⟨W1.heap.size, 3, none⟩, .bool tay)]) := ⟨⟨_, HF.out⟩⟩
    have f0 : ∀ q : CW [(⟨W1.heap.size, 0, none⟩, .int .i64 tac), (⟨W1.heap.size, 1, none⟩, .slice taao tan tacap), (⟨W1.heap.size, 2, none⟩, .slice tago tagn tagc), (⟨W1.heap.size, 3, none⟩, .bool tay)], q.1.cell? ⟨W1.heap.size, 0, none⟩ = some (.int .i64 tac) := fun q => q.2 (⟨W1.heap.size, 0, none⟩, .int .i64 tac) (by simp)
    have f1 : ∀ q : CW [(⟨W1.heap.size, 0, none⟩, .int .i64 tac), (⟨W1.heap.size, 1, none⟩, .slice taao tan tacap), (⟨W1.heap.size, 2, none⟩, .slice tago tagn tagc), (⟨W1.heap.size, 3, none⟩, .bool tay)], q.1.cell? ⟨W1.heap.size, 1, none⟩ = some (.slice taao tan tacap) := fun q => q.2 (⟨W1.heap.size, 1, none⟩, .slice taao tan tacap) (by simp)
    have f2 : ∀ q : CW [(⟨W1.heap.size, 0, none⟩, .int .i64 tac), (⟨W1.heap.size, 1, none⟩, .slice taao tan tacap), (⟨W1.heap.size, 2, none⟩, .slice tago tagn tagc), (⟨W1.heap.size, 3, none⟩, .bool tay)], q.1.cell? ⟨W1.heap.size, 2, none⟩ = some (.slice tago tagn tagc) := fun q => q.2 (⟨W1.heap.size, 2, none⟩, .slice tago tagn tagc) (by simp)
    have f3 : ∀ q : CW [(⟨W1.heap.size, 0, none⟩, .int .i64 tac), (⟨W1.heap.size, 1, none⟩, .slice taao tan tacap), (⟨W1.heap.size, 2, none⟩, .slice tago tagn tagc), (⟨W1.heap.size, 3, none⟩, .bool tay)], q.1.cell? ⟨W1.heap.size, 3, none⟩ = some (.bool tay) := fun q => q.2 (⟨W1.heap.size, 3, none⟩, .bool tay) (by simp)
    (try simp only [Act.put, List.setIfInBounds_toArray, List.set_cons_succ, List.set_cons_zero])
    refine wp_region_noPanic ?_
    refine wp_region_plw (.step [true, true, true, true, false, false, false, false, true, true] (.cons 4 (.step [false, false, false, false, false, true, true, true, false, false, true] (.cons 11 (.last []) .nil)) .nil)) (fun y => ∃ q : CW [(⟨W1.heap.size, 0, none⟩, .int .i64 tac), (⟨W1.heap.size, 1, none⟩, .slice taao tan tacap), (⟨W1.heap.size, 2, none⟩, .slice tago tagn tagc), (⟨W1.heap.size, 3, none⟩, .bool tay)], y = q.1) (by kernel_rfl) (by kernel_rfl) (by kernel_rfl) (fun _ _ _ _ _ _ _ h => h) ⟨⟨_, HF.out⟩, rfl⟩ ?_
    simp only [wpPw, wpBw, selF, and_true]
    generalize W11.drew = V33 at *
    repeat (go_big_quiet_step (fail))
    refine wpQuiet_nil ?_
    refine wpOp_step rfl (fun K hK => ?_)
    go_simp
    refine (give_p _ (HM.out.nw (fun b hb => HP.out b (Nat.le_trans HMT.out.size (Nat.le_trans HM.out.size hb)))) HC4.out (HT1.out.now HM.out) y).mono ?_
    rintro e V34 ⟨⟨HT2v, rfl, hl⟩, hb⟩
    replace HM := Lib.hid (HM.out.below hb)
    replace HTm := Lib.hid (HTm.out.step HM.out)
    replace HTh := Lib.hid (HTh.out.step HM.out)
    replace HCv := Lib.hid (HCv.out.step HM.out)
    replace HD1 := Lib.hid (HD1.out.step HM.out)
    replace HD2 := Lib.hid (HD2.out.step HM.out)
    replace HT1 := Lib.hid (HT1.out.step HM.out)
    replace HU1 := Lib.hid (HU1.out.step HM.out)
    replace HCx := Lib.hid (HCx.out.step HM.out)
    replace HMT := Lib.hid (HMT.out.tr HM.out)
    replace HM := Lib.hid HM.out.re
    have HT2 := Lib.hid hl.cn
    have HT2c := Lib.hid hl.task
    clear hb hl
    refine hK _ _ ⟨(fun y => ∃ q : CW [(⟨W1.heap.size, 0, none⟩, .int .i64 tac), (⟨W1.heap.size, 1, none⟩, .slice taao tan tacap), (⟨W1.heap.size, 2, none⟩, .slice tago tagn tagc), (⟨W1.heap.size, 3, none⟩, .bool tay)], y = q.1), ⟨⟨_, (allc ((HM.out.hb 1 _ _ _ rfl).cell (k := 0) rfl) (allc ((HM.out.hb 1 _ _ _ rfl).cell (k := 1) rfl) (allc ((HM.out.hb 1 _ _ _ rfl).cell (k := 2) rfl) (allc ((HM.out.hb 1 _ _ _ rfl).cell (k := 3) rfl) (alln _)))))⟩, rfl⟩, fun _ h => h, ?_⟩
    clear hK K
    (try simp only [Act.put, List.setIfInBounds_toArray, List.set_cons_succ, List.set_cons_zero])
    repeat (go_big_quiet_step (fail))
    refine wpQuiet_nil ?_
    refine wpOp_step rfl (fun K hK => ?_)
    rw [if_pos (by rfl)]
    refine wpOm_stM HM HA (.tmp 100) (.tmp 96) rfl rfl 0 rfl c hc _ rfl rfl HT2c.out ?_
    clear HA
    intro V35 V35c HA hM
    (try simp only [List.cons_append, List.nil_append, List.set_cons_succ, List.set_cons_zero, Nat.reduceAdd] at hM)
    replace HM := hM
    clear hM
    refine hK _ _ ⟨(fun y => ∃ q : CW [(⟨W1.heap.size, 0, none⟩, .int .i64 tac), (⟨W1.heap.size, 1, none⟩, .slice taao tan tacap), (⟨W1.heap.size, 2, none⟩, .slice tago tagn tagc), (⟨W1.heap.size, 3, none⟩, .bool tay)], y = q.1), ⟨⟨_, (allc ((HM.out.hb 1 _ _ _ rfl).cell (k := 0) rfl) (allc ((HM.out.hb 1 _ _ _ rfl).cell (k := 1) rfl) (allc ((HM.out.hb 1 _ _ _ rfl).cell (k := 2) rfl) (allc ((HM.out.hb 1 _ _ _ rfl).cell (k := 3) rfl) (alln _)))))⟩, rfl⟩, fun _ h => h, ?_⟩
    clear hK K
    (try simp only [Act.put, List.setIfInBounds_toArray, List.set_cons_succ, List.set_cons_zero])
    refine wpQuiet_nil ?_
    refine NoPanic.normal ?_
    clear f0 f1 f2 f3 HF
    go_wp2_with fail
    obtain ⟨uac, uaao, uan, uacap, uago, uagn, uagc, uay, rfl⟩ := HU1c.out
    replace HM := Lib.hid HM.out.drew
    have HF : Hid (∀ p ∈ ([(⟨W2.heap.size, 0, none⟩, .int .i64 uac), (⟨W2.heap.size, 1, none⟩, .slice uaao uan uacap), (⟨W2.heap.size, 2, none⟩, .slice uago uagn uagc), (⟨W2.heap.size, 3, none⟩, .bool uay)] : List (Addr × Value)), World.cell? _ p.1 = some p.2) := Lib.hid (allc ((HM.out.hb 3 _ _ _ rfl).cell (k := 0) rfl) (allc ((HM.out.hb 3 _ _ _ rfl).cell (k := 1) rfl) (allc ((HM.out.hb 3 _ _ _ rfl).cell (k := 2) rfl) (allc ((HM.out.hb 3 _ _ _ rfl).cell (k := 3) rfl) (alln _)))))
    haveI : Inhabited (CW [(⟨W2.heap.size, 0, none⟩, .int .i64 uac), (⟨W2.heap.size, 1, none⟩, .slice uaao uan uacap), (⟨W2.heap.size, 2, none⟩, .slice uago uagn uagc), (⟨W2.heap.size, 3, none⟩, .bool uay)]) := ⟨⟨_, HF.out⟩⟩
    have f0 : ∀ q : CW [(⟨W2.heap.size, 0, none⟩, .int .i64 uac), (⟨W2.heap.size, 1, none⟩, .slice uaao uan uacap), (⟨W2.heap.size, 2, none⟩, .slice uago uagn uagc), (⟨W2.heap.size, 3, none⟩, .bool uay)], q.1.cell? ⟨W2.heap.size, 0, none⟩ = some (.int .i64 uac) := fun q => q.2 (⟨W2.heap.size, 0, none⟩, .int .i64 uac) (by simp)
    have f1 : ∀ q : CW [(⟨W2.heap.size, 0, none⟩, .int .i64 uac), (⟨W2.heap.size, 1, none⟩, .slice uaao uan uacap), (⟨W2.heap.size, 2, none⟩, .slice uago uagn uagc), (⟨W2.heap.size, 3, none⟩, .bool uay)], q.1.cell? ⟨W2.heap.size, 1, none⟩ = some (.slice uaao uan uacap) := fun q => q.2 (⟨W2.heap.size, 1, none⟩, .slice uaao uan uacap) (by simp)
    have f2 : ∀ q : CW [(⟨W2.heap.size, 0, none⟩, .int .i64 uac), (⟨W2.heap.size, 1, none⟩, .slice uaao uan uacap), (⟨W2.heap.size, 2, none⟩, .slice uago uagn uagc), (⟨W2.heap.size, 3, none⟩, .bool uay)], q.1.cell? ⟨W2.heap.size, 2, none⟩ = some (.slice uago uagn uagc) := fun q => q.2 (⟨W2.heap.size, 2, none⟩, .slice uago uagn uagc) (by simp)
    have f3 : ∀ q : CW [(⟨W2.heap.size, 0, none⟩, .int .i64 uac), (⟨W2.heap.size, 1, none⟩, .slice uaao uan uacap), (⟨W2.heap.size, 2, none⟩, .slice uago uagn uagc), (⟨W2.heap.size, 3, none⟩, .bool uay)], q.1.cell? ⟨W2.heap.size, 3, none⟩ = some (.bool uay) := fun q => q.2 (⟨W2.heap.size, 3, none⟩, .bool uay) (by simp)
    (try simp only [Act.put, List.setIfInBounds_toArray, List.set_cons_succ, List.set_cons_zero])
    refine wp_region_noPanic ?_
    refine wp_region_plw (.step [true, true, true, true, false, false, false, false, true, true] (.cons 4 (.step [false, false, false, false, false, true, true, true, false, false, true] (.cons 11 (.last []) .nil)) .nil)) (fun y => ∃ q : CW [(⟨W2.heap.size, 0, none⟩, .int .i64 uac), (⟨W2.heap.size, 1, none⟩, .slice uaao uan uacap), (⟨W2.heap.size, 2, none⟩, .slice uago uagn uagc), (⟨W2.heap.size, 3, none⟩, .bool uay)], y = q.1) (by kernel_rfl) (by kernel_rfl) (by kernel_rfl) (fun _ _ _ _ _ _ _ h => h) ⟨⟨_, HF.out⟩, rfl⟩ ?_
    simp only [wpPw, wpBw, selF, and_true]
    generalize V35.drew = V36 at *
    repeat (go_big_quiet_step (fail))
    refine wpQuiet_nil ?_
    refine wpOp_step rfl (fun K hK => ?_)
    go_simp
    refine (give_p _ (HM.out.nw (fun b hb => HP.out b (Nat.le_trans HMT.out.size (Nat.le_trans HM.out.size hb)))) HC4.out (HU1.out.now HM.out) y).mono ?_
    rintro e V37 ⟨⟨HU2v, rfl, hl⟩, hb⟩
    replace HM := Lib.hid (HM.out.below hb)
    replace HTm := Lib.hid (HTm.out.step HM.out)
    replace HTh := Lib.hid (HTh.out.step HM.out)
    replace HCv := Lib.hid (HCv.out.step HM.out)
    replace HD1 := Lib.hid (HD1.out.step HM.out)
    replace HD2 := Lib.hid (HD2.out.step HM.out)
    replace HT1 := Lib.hid (HT1.out.step HM.out)
    replace HU1 := Lib.hid (HU1.out.step HM.out)
    replace HCx := Lib.hid (HCx.out.step HM.out)
    replace HT2 := Lib.hid (HT2.out.step HM.out)
    replace HMT := Lib.hid (HMT.out.tr HM.out)
    replace HM := Lib.hid HM.out.re
    have HU2 := Lib.hid hl.cn
    have HU2c := Lib.hid hl.task
    clear hb hl
    refine hK _ _ ⟨(fun y => ∃ q : CW [(⟨W2.heap.size, 0, none⟩, .int .i64 uac), (⟨W2.heap.size, 1, none⟩, .slice uaao uan uacap), (⟨W2.heap.size, 2, none⟩, .slice uago uagn uagc), (⟨W2.heap.size, 3, none⟩, .bool uay)], y = q.1), ⟨⟨_, (allc ((HM.out.hb 3 _ _ _ rfl).cell (k := 0) rfl) (allc ((HM.out.hb 3 _ _ _ rfl).cell (k := 1) rfl) (allc ((HM.out.hb 3 _ _ _ rfl).cell (k := 2) rfl) (allc ((HM.out.hb 3 _ _ _ rfl).cell (k := 3) rfl) (alln _)))))⟩, rfl⟩, fun _ h => h, ?_⟩
    clear hK K
    (try simp only [Act.put, List.setIfInBounds_toArray, List.set_cons_succ, List.set_cons_zero])
    repeat (go_big_quiet_step (fail))
    refine wpQuiet_nil ?_
    refine wpOp_step rfl (fun K hK => ?_)
    rw [if_pos (by rfl)]
    refine wpOm_stH HM HA (.tmp 111) (.tmp 107) rfl rfl 0 rfl c hc _ rfl rfl HU2c.out ?_
    clear HA
    intro V38 V38c HA hM
    (try simp only [List.cons_append, List.nil_append, List.set_cons_succ, List.set_cons_zero, Nat.reduceAdd] at hM)
    replace HM := hM
    clear hM
    refine hK _ _ ⟨(fun y => ∃ q : CW [(⟨W2.heap.size, 0, none⟩, .int .i64 uac), (⟨W2.heap.size, 1, none⟩, .slice uaao uan uacap), (⟨W2.heap.size, 2, none⟩, .slice uago uagn uagc), (⟨W2.heap.size, 3, none⟩, .bool uay)], y = q.1), ⟨⟨_, (allc ((HM.out.hb 3 _ _ _ rfl).cell (k := 0) rfl) (allc ((HM.out.hb 3 _ _ _ rfl).cell (k := 1) rfl) (allc ((HM.out.hb 3 _ _ _ rfl).cell (k := 2) rfl) (allc ((HM.out.hb 3 _ _ _ rfl).cell (k := 3) rfl) (alln _)))))⟩, rfl⟩, fun _ h => h, ?_⟩
    clear hK K
    (try simp only [Act.put, List.setIfInBounds_toArray, List.set_cons_succ, List.set_cons_zero])
    refine wpQuiet_nil ?_
    refine NoPanic.normal ?_
    clear f0 f1 f2 f3 HF
    go_wp2_with fail
    refine (end13_over c hc R _ _ _ (HM.out.nw (fun b hb => HP.out b (Nat.le_trans HMT.out.size (Nat.le_trans HM.out.size hb)))) (fun b hb => HPR.out b hb.1) (HM.out.hb 0 _ _ _ rfl) HA.out f2 g2 f4 g4 y (live_of (by simp [RS.setM, RS.setH, RS.setW, upd]) (HT2.out.now HM.out)) (live_of (by simp [RS.setM, RS.setH, RS.setW, upd]) (HU2.out.now HM.out)) k2 a2 b2 v2 l2 HOk2.out HK2.out HN2.out HR2.out).mono ?_
    rintro e W14 ⟨⟨ans, rfl, hIn⟩, C6, hMe, hAe⟩
    have hM5 := HM.out.upR (i := 0) rfl hMe
    simp only [List.set_cons_zero] at hM5
    replace HM := Lib.hid hM5
    have HAE := Lib.hid hAe
    have HIN := Lib.hid hIn
    clear hIn
    clear hMe hAe hM5
    go_wp2_with fail
    (try simp only [Exit.inBlock, Exit.then])
    refine bodyPost_ret (res_ttt rfl _ _ _ _ _ rfl rfl rfl) rfl ?_
    refine ⟨⟨_, rfl, HIN.out.weak (fun b hb => hb.1)⟩, ?_⟩
    unfold Step13
    refine ⟨C6, HT2v, HU2v, _, (HMT.out.tr HM.out).sub (fun i e hi => by match i, hi with | 0, hi => exact hi | i + 1, hi => simp at hi), HAE.out, (HCx.out.mem (fun b hb => hb.2.1) HM.out).weak fun b hb _ => hb.1, ?_, ?_, (HT2.out.mem (fun b hb => hb.2.1) HM.out).weak fun b hb _ => hb.1, (HU2.out.mem (fun b hb => hb.2.1) HM.out).weak fun b hb _ => hb.1⟩
    · rw [ECv.out.2.1]; exact (HD1.out.mem (fun b hb => hb.2.1) HM.out).weak fun b hb _ => hb.1
    · rw [ECv.out.2.2]; exact (HD2.out.mem (fun b hb => hb.2.1) HM.out).weak fun b hb _ => hb.1
end Go.Proofs.Ytgpdknacnmapiaa
