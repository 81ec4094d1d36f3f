/-
  Parts of a proof, put together: Pf.
-/
import Derived.Test.YtgpdknacnmapiaaZj01
import Derived.Test.YtgpdknacnmapiaaZj02
import Derived.Test.YtgpdknacnmapiaaZj03
import Derived.Test.YtgpdknacnmapiaaZj04
import Derived.Test.YtgpdknacnmapiaaZj05
import Derived.Test.YtgpdknacnmapiaaZj06
import Derived.Test.YtgpdknacnmapiaaZj07
import Derived.Test.YtgpdknacnmapiaaZj08
import Derived.Test.YtgpdknacnmapiaaZj09
import Derived.Test.YtgpdknacnmapiaaZj10
import Derived.Test.YtgpdknacnmapiaaZj11
import Derived.Test.YtgpdknacnmapiaaZj12
import Derived.Test.YtgpdknacnmapiaaZj13
import Derived.Test.YtgpdknacnmapiaaZj14
import Derived.Test.YtgpdknacnmapiaaZj15
import Derived.Test.YtgpdknacnmapiaaZj16
import Derived.Test.YtgpdknacnmapiaaZj17
import Derived.Test.YtgpdknacnmapiaaZj18
import Derived.Test.YtgpdknacnmapiaaZj19
import Derived.Test.YtgpdknacnmapiaaZj20
import Derived.Test.YtgpdknacnmapiaaZj21
import Derived.Test.YtgpdknacnmapiaaZj22
import Derived.Test.YtgpdknacnmapiaaZj23
import Derived.Test.YtgpdknacnmapiaaZj24
import Derived.Test.YtgpdknacnmapiaaZj25
import Derived.Test.YtgpdknacnmapiaaZj26
import Derived.Test.YtgpdknacnmapiaaZj27
import Derived.Test.YtgpdknacnmapiaaZj29
namespace Go.Proofs.Ytgpdknacnmapiaa
set_option linter.unusedVariables false
set_option linter.unusedSimpArgs false
open Go.RowKit
open Go
theorem Mem.but {X : Nat → Prop} {w0 W W' : World} {R H x y : Nat} {C D D' XX YY : Array Value} {t0 t1 t2 t3 : TypeId} (h : Mem X w0 W [(R, C, t0), (H, D, t1), (x, XX, t2), (y, YY, t3)]) (h2 : Mem (OL [(R, C, t0), (H, D, t1), (x, XX, t2), (y, YY, t3)]) W W' [(R, C, t0), (H, D', t1), (x, XX, t2), (y, YY, t3)]) : ∀ b, b < W.heap.size → b ≠ H → W'.heap[b]? = W.heap[b]? := by
  intro b hlt hne
  by_cases ho : OL [(R, C, t0), (H, D, t1), (x, XX, t2), (y, YY, t3)] b
  · obtain ⟨i, E, u, hi⟩ := ho
    match i, hi with
    | 0, hi => simp at hi; obtain ⟨rfl, rfl, rfl⟩ := hi; exact (h2.hb 0 _ _ _ rfl).trans (h.hb 0 _ _ _ rfl).symm
    | 1, hi => simp at hi; exact absurd hi.1.symm hne
    | 2, hi => simp at hi; obtain ⟨rfl, rfl, rfl⟩ := hi; exact (h2.hb 2 _ _ _ rfl).trans (h.hb 2 _ _ _ rfl).symm
    | 3, hi => simp at hi; obtain ⟨rfl, rfl, rfl⟩ := hi; exact (h2.hb 3 _ _ _ rfl).trans (h.hb 3 _ _ _ rfl).symm
    | i + 4, hi => simp at hi
  · exact h2.old b hlt ho
set_option maxHeartbeats 4000000 in
set_option maxRecDepth 100000 in
theorem pick_free0 (c : Nat) (hc : c < 4) (cl nN m : Int) (ecl : (wrap64 (cl.tmod 4 + 4)).tmod 4 = (c : Int)) (hm : 1 ≤ m ∧ m ≤ 4) (R H B : Nat) (w : World) (C D : Array Value) (s : RS) (h : HV) (l : List Int) (hs : Nat → List Int) (ns : Nat → List Bool) (hV : PickV R H B w C D s h l hs ns) (hb : s.b c = false) (k : Nat) (hdl : Int) (hkh : (hs c)[k]? = some hdl) (hkn : (ns c)[k]? = some false) (hln : (ns c).length = (hs c).length) (hlen : (hs c).length ≤ 1000) (ek : (wrap64 (nN.tmod ((hs c).length : Int) + ((hs c).length : Int))).tmod ((hs c).length : Int) = (k : Int)) :
    Calls Try.prog 24 #[.pointer (some ⟨R, 0, none⟩), .pointer (some ⟨H, 0, none⟩), .agg #[.int .i64 cl, .int .i64 2, .int .i64 nN], .int .i64 m] w fun e w' => e = .returned (.bool true) ∧ Picked R H B h w w' l (upd hs c ((hs c).eraseIdx k)) (upd ns c ((ns c).eraseIdx k)) (fun s' h' => s'.b = upd s.b c true ∧ Live (PH R H h') w' (s'.m c) c (frG 57 [hdl, 0]) 0 ∧ Live (PH R H h') w' (s'.h c) c (frG 57 [hdl, 0]) 0 ∧ (∀ d, d ≠ c → s'.m d = s.m d ∧ s'.h d = s.h d) ∧ h'.dd = upd h.dd c 2 ∧ ∀ b, PH R H h b → b < w.heap.size → PH R H h' b) := by
  have HWHO : Hid (∀ w, Calls Try.prog 23 #[.int .i64 cl] w fun e w' => e = .returned (.int .i64 c) ∧ w' = w) := Lib.hid (fun w => by
    obtain ⟨S, -, eS, hh⟩ := who_p cl w
    rw [ecl] at eS
    have : S = c := by omega
    rw [this] at hh; exact hh)
  have HV := Lib.hid hV
  have HM := Lib.hid (Mem.startRH hV.run.hb hV.hb hV.ne)
  have HD := Lib.hid hV.hav
  have HBZ := Lib.hid (by have h2 := hV.run.ra.b c hc; rw [hb] at h2; exact h2 : C[35 + c]? = some (.bool false))
  have Hb0 := Lib.hid hb
  have hk : k < (hs c).length := (List.getElem?_eq_some_iff.1 hkh).1
  obtain ⟨n, hn⟩ : ∃ n, (hs c).length = n := ⟨_, rfl⟩
  obtain ⟨g1, cap1, cur1, e1, hB1, hg1, hc1, hcm1, hcs1, htk1⟩ : ∃ g cap cur, h.sl (2 * c) = .slice (some ⟨g, 0, none⟩) n cap ∧ B ≤ g ∧ w.heap[g]? = some (.cells cur 3 (0, 0)) ∧ n ≤ cap ∧ cap ≤ maxLen ∧ cur.size = cap * 1 ∧ cur.toList.take (n * 1) = (hs c).map (Value.int .i64) := by
    rcases (hV.own.hl c hc).2 with ⟨e, h0⟩ | ⟨g, cap, cur, e, r⟩
    · omega
    · rw [hn] at e r; exact ⟨g, cap, cur, e, r⟩
  obtain ⟨g2, cap2, cur2, e2, hB2, hg2, hc2, hcm2, hcs2, htk2⟩ : ∃ g cap cur, h.sl (2 * c + 1) = .slice (some ⟨g, 0, none⟩) n cap ∧ B ≤ g ∧ w.heap[g]? = some (.cells cur 4 (0, 0)) ∧ n ≤ cap ∧ cap ≤ maxLen ∧ cur.size = cap * 1 ∧ cur.toList.take (n * 1) = (ns c).map Value.bool := by
    rcases (hV.own.nl c hc).2 with ⟨e, h0⟩ | ⟨g, cap, cur, e, r⟩
    · omega
    · rw [hln, hn] at e r; exact ⟨g, cap, cur, e, r⟩
  have HCH : Hid (∀ (i : Nat) (x : Int), (hs c)[i]? = some x → w.cell? ⟨g1, i, none⟩ = some (.int .i64 x)) := Lib.hid (fun i x hx => by
    have := World.ownsRow.cells (hV.own.hl c hc) (g := g1) (by rw [e1]; rfl) i (.int .i64 x) (by rw [List.getElem?_map, hx]; rfl)
    rwa [Addr.add_lit, Nat.zero_add] at this)
  have HCN : Hid (∀ (i : Nat) (x : Bool), (ns c)[i]? = some x → w.cell? ⟨g2, i, none⟩ = some (.bool x)) := Lib.hid (fun i x hx => by
    have := World.ownsRow.cells (hV.own.nl c hc) (g := g2) (by rw [e2]; rfl) i (.bool x) (by rw [List.getElem?_map, hx]; rfl)
    rwa [Addr.add_lit, Nat.zero_add] at this)
  have HSL := Lib.hid (by have h3 := hV.hav.hl c hc; rw [e1] at h3; exact h3 : D[c * 5]? = some (.slice (some ⟨g1, 0, none⟩) n cap1))
  have HNL := Lib.hid (by have h3 := hV.hav.nl c hc; rw [e2] at h3; exact h3 : D[c * 5 + 1]? = some (.slice (some ⟨g2, 0, none⟩) n cap2))
  have HKH := Lib.hid hkh
  have HKN := Lib.hid hkn
  have HLN := Lib.hid (And.intro hn hln)
  rw [hn] at ek hk hlen
  have n0 : ((n : Int) == 0) = false := by rw [beq_eq_false_iff_ne]; omega
  have np : decide ((0 : Int) < (n : Int)) = true := by simp; omega
  have HG1 := Lib.hid (And.intro e1 (And.intro hB1 (And.intro hc1 hcm1)))
  have HG2 := Lib.hid (And.intro e2 (And.intro hB2 (And.intro hc2 hcm2)))
  have HGL : Hid (g1 < w.heap.size ∧ g2 < w.heap.size) := Lib.hid ⟨(Array.getElem?_eq_some_iff.1 hg1).1, (Array.getElem?_eq_some_iff.1 hg2).1⟩
  clear hV hb ecl hm hkh hkn hln hn e1 e2 hB1 hB2 hcm1 hcm2 hcs1 hcs2 htk1 htk2 hg1 hg2
  go_enter Try.func24, Try.ntmps24
  go_wp2_with (first
    | (refine wpm_box HM rfl 69 (.tmp 2) rfl _ rfl ?_; intro U1 hM; (try simp only [List.cons_append, List.nil_append, List.set_cons_succ, List.set_cons_zero, Nat.reduceAdd] at hM); replace HM := hM; clear hM)
    | (refine wpm_ldc HM rfl 3 (.tmp 16) rfl lv3 2 0 rfl rfl _ rfl ?_))
  refine (HWHO.out _).mono ?_
  rintro e W1 ⟨rfl, rfl⟩
  have kb := (HM.out.hb 0 _ _ _ rfl).cell (k := 35 + c) HBZ.out
  have kx := (HM.out.hb 2 _ _ _ rfl).cell (k := 1) (v := .int .i64 2) rfl
  have kh := (HM.out.hb 1 _ _ _ rfl).cell (k := c * 5) HSL.out
  go_wp2_with fail
  clear kb kx kh
  replace HM := Lib.hid HM.out.drew
  have HF : Hid (∀ p ∈ ([(⟨w.heap.size, 2, none⟩, .int .i64 nN), (⟨H, c * 5, none⟩, .slice (some ⟨g1, 0, none⟩) n cap1)] : List (Addr × Value)), World.cell? _ p.1 = some p.2) := Lib.hid (allc ((HM.out.hb 2 _ _ _ rfl).cell (k := 2) rfl) (allc ((HM.out.hb 1 _ _ _ rfl).cell (k := c * 5) HSL.out) (alln _)))
  haveI : Inhabited (CW [(⟨w.heap.size, 2, none⟩, .int .i64 nN), (⟨H, c * 5, none⟩, .slice (some ⟨g1, 0, none⟩) n cap1)]) := ⟨⟨_, HF.out⟩⟩
  have f0 : ∀ q : CW [(⟨w.heap.size, 2, none⟩, .int .i64 nN), (⟨H, c * 5, none⟩, .slice (some ⟨g1, 0, none⟩) n cap1)], q.1.cell? ⟨w.heap.size, 2, none⟩ = some (.int .i64 nN) := fun q => q.2 (⟨w.heap.size, 2, none⟩, .int .i64 nN) (by simp)
  have f1 : ∀ q : CW [(⟨w.heap.size, 2, none⟩, .int .i64 nN), (⟨H, c * 5, none⟩, .slice (some ⟨g1, 0, none⟩) n cap1)], q.1.cell? ⟨H, c * 5, none⟩ = some (.slice (some ⟨g1, 0, none⟩) n cap1) := fun q => q.2 (⟨H, c * 5, none⟩, .slice (some ⟨g1, 0, none⟩) n cap1) (by simp)
  (try simp only [Act.put, List.setIfInBounds_toArray, List.set_cons_succ, List.set_cons_zero])
  refine wp_region_noPanic ?_
  refine wp_region_plw (.last [true, true, true, true, true, true, true, true, true, true, true, true, true, true, true, true, true, true, true, true, true, true, true, true, true, true, true]) (fun y => ∃ q : CW [(⟨w.heap.size, 2, none⟩, .int .i64 nN), (⟨H, c * 5, none⟩, .slice (some ⟨g1, 0, none⟩) n cap1)], y = q.1) (by kernel_rfl) (by kernel_rfl) (by kernel_rfl) (fun _ _ _ _ _ _ _ h => h) ⟨⟨_, HF.out⟩, rfl⟩ ?_
  simp only [wpPw, wpBw, selF, and_true]
  generalize W1.drew = V1 at *
  repeat (go_big_quiet_step (fail))
  refine wpQuiet_nil ?_
  refine NoPanic.normal ?_
  clear HF f0 f1
  have kn := (HM.out.hb 1 _ _ _ rfl).cell (k := c * 5 + 1) HNL.out
  have kh := (HM.out.hb 1 _ _ _ rfl).cell (k := c * 5) HSL.out
  have kk := (World.cell?_of_block (HM.out.old g2 HGL.out.2 (fun e => by have := HV.out.lo; have := HG2.out.2.1; rcases e with e | e <;> omega))).trans (HCN.out k _ HKN.out)
  have kj := (World.cell?_of_block (HM.out.old g1 HGL.out.1 (fun e => by have := HV.out.lo; have := HG1.out.2.1; rcases e with e | e <;> omega))).trans (HCH.out k _ HKH.out)
  go_wp2_with (first
    | (refine wpm_bsI2 HM rfl (.tmp 121) (.tmp 122) rfl hdl 0 rfl rfl ?_; intro W2 hM; (try simp only [List.cons_append, List.nil_append, List.set_cons_succ, List.set_cons_zero, Nat.reduceAdd] at hM); replace HM := hM; clear hM kn kh kk kj))
  have HMb := HM
  refine (bg14 (P := fun b => PH R H h b ∧ ¬ OL _ b) c hc 57 (by omega) _ [hdl, 0] 0 R C s l _ (fun b hb => ⟨PH.hP HV.out.run.hb.lt HV.out.hb.lt HV.out.own HM.out.size b hb, HM.out.notOwn hb⟩) (fun b hb => hb.1.1) ⟨_, _, rfl, Nat.le_refl _, fun i x hx => ⟨_, 0, rfl, Nat.zero_le _, ?_⟩⟩ (by simp) (HV.out.run.mem HM.out (HM.out.hb 0 _ _ _ rfl)) Hb0.out).mono ?_
  · match i, hx with
    | 0, hx => simp at hx; subst hx; exact (HM.out.hb 3 _ _ _ rfl).cell (k := 0) rfl
    | 1, hx => simp at hx; subst hx; exact (HM.out.hb 3 _ _ _ rfl).cell (k := 1) rfl
    | i + 2, hx => simp at hx
  rintro e W3 ⟨rfl, C', s', hR3, hM3, hb3, hT, hU, hoth⟩
  have HR3 := Lib.hid hR3
  have HT := Lib.hid hT
  have HU := Lib.hid hU
  have HOT := Lib.hid (And.intro hb3 hoth)
  have hM4 := HM.out.upR (i := 0) rfl hM3
  simp only [List.set_cons_zero] at hM4
  have HMT := Lib.hid hM4
  replace HM := Lib.hid hM4.re
  clear hR3 hT hU hb3 hoth hM3 hM4
  go_wp2_with fail
  rename_i K9 hK9
  have HLL1 := Lib.hid HLN.out.1
  have HLL2 : Hid ((ns c).length = n) := Lib.hid (HLN.out.2.trans HLN.out.1)
  have HSZ3 := Lib.hid HMT.out.size
  obtain ⟨p1, hp1, hq1⟩ : ∃ p, Value.slice (if cap1 = k + 1 then some (⟨g1, 0, none⟩ : Addr) else some ⟨g1, k + 1, none⟩) (n - (k + 1)) (cap1 - (k + 1)) = .slice (some ⟨g1, p, none⟩) (n - (k + 1)) (cap1 - (k + 1)) ∧ (cap1 = k + 1 ∨ p = k + 1) := by
    by_cases e : cap1 = k + 1
    · exact ⟨0, by rw [if_pos e], .inl e⟩
    · exact ⟨k + 1, by rw [if_neg e], .inr rfl⟩
  have HP1 := Lib.hid hp1
  have HQ1 := Lib.hid hq1
  clear hp1 hq1
  obtain ⟨p2, hp2, hq2⟩ : ∃ p, Value.slice (if cap2 = k + 1 then some (⟨g2, 0, none⟩ : Addr) else some ⟨g2, k + 1, none⟩) (n - (k + 1)) (cap2 - (k + 1)) = .slice (some ⟨g2, p, none⟩) (n - (k + 1)) (cap2 - (k + 1)) ∧ (cap2 = k + 1 ∨ p = k + 1) := by
    by_cases e : cap2 = k + 1
    · exact ⟨0, by rw [if_pos e], .inl e⟩
    · exact ⟨k + 1, by rw [if_neg e], .inr rfl⟩
  have HP2 := Lib.hid hp2
  have HQ2 := Lib.hid hq2
  clear hp2 hq2
  have HL0 : Hid (∀ b, OL [(R, C', 74), (H, D, 72), (w.heap.size, #[.int .i64 cl, .int .i64 2, .int .i64 nN], 69), (V1.heap.size, #[.int .i64 hdl, .int .i64 0], 3)] b → b < W3.heap.size) := Lib.hid (fun b ⟨i, E, u, hi⟩ => HM.out.lt hi)
  have HX1 : Hid (¬ (g1 = R ∨ g1 = H) ∧ ¬ (g2 = R ∨ g2 = H)) := Lib.hid (by have := HV.out.lo; have := HG1.out.2.1; have := HG2.out.2.1; omega)
  have HN1 : Hid (¬ OL [(R, C', 74), (H, D, 72), (w.heap.size, #[.int .i64 cl, .int .i64 2, .int .i64 nN], 69), (V1.heap.size, #[.int .i64 hdl, .int .i64 0], 3)] g1 ∧ ¬ OL [(R, C', 74), (H, D, 72), (w.heap.size, #[.int .i64 cl, .int .i64 2, .int .i64 nN], 69), (V1.heap.size, #[.int .i64 hdl, .int .i64 0], 3)] g2) := Lib.hid ⟨ol_lt HMT.out HGL.out.1 HX1.out.1, ol_lt HMT.out HGL.out.2 HX1.out.2⟩
  have HGW1I : Hid (g1 < W3.heap.size ∧ ¬ OL [(R, C', 74), (H, D, 72), (w.heap.size, #[.int .i64 cl, .int .i64 2, .int .i64 nN], 69), (V1.heap.size, #[.int .i64 hdl, .int .i64 0], 3)] g1) := Lib.hid ⟨Nat.lt_of_lt_of_le HGL.out.1 HSZ3.out, HN1.out.1⟩
  have HGC1I := Lib.hid (HMT.out.old g1 HGL.out.1 HX1.out.1)
  have HHLI : Hid (H < W3.heap.size) := Lib.hid (HM.out.lt (i := 1) rfl)
  have HCONT : ∀ (z125 z126 z127 z128 z129 z130 z131 z132 z133 z134 z135 z136 z137 z138 z139 z140 z141 z142 z143 z144 z145 z146 z147 z148 z149 : Value) (W : World) (va : Option Addr) (vn vc : Nat), Hid (Mem (OL [(R, C', 74), (H, D, 72), (w.heap.size, #[.int .i64 cl, .int .i64 2, .int .i64 nN], 69), (V1.heap.size, #[.int .i64 hdl, .int .i64 0], 3)]) W3 W [(R, C', 74), (H, (D.setIfInBounds (c * 5) (.slice va vn vc)), 72), (w.heap.size, #[.int .i64 cl, .int .i64 2, .int .i64 nN], 69), (V1.heap.size, #[.int .i64 hdl, .int .i64 0], 3)]) → Hid (W.ownsRow W3.heap.size 3 1 (.slice va vn vc) ((hs c).eraseIdx k).length (((hs c).eraseIdx k).map (Value.int .i64))) → K9 { tmps := #[Value.pointer (some { block := R, off := 0 }), Value.pointer (some { block := H, off := 0 }), Value.agg #[Value.int IntKind.i64 cl, Value.int IntKind.i64 2, Value.int IntKind.i64 nN], Value.int IntKind.i64 m, undef, undef, Value.pointer (some { block := w.heap.size, off := 0 }), undef, Value.bool false, Value.int IntKind.i64 ↑c, undef, Value.int IntKind.i64 ↑k, Value.int IntKind.i64 0, undef, undef, undef, Value.pointer (some { block := w.heap.size, off := 0 }), Value.int IntKind.i64 cl, Value.int IntKind.i64 ↑c, Value.pointer (some { block := R, off := 0 }), Value.int IntKind.i64 ↑c, Value.pointer (some { block := R, off := 0 }), Value.pointer (some { block := R, off := 35 }), Value.pointer (some { block := R, off := 35 + c }), Value.bool false, Value.bool true, Value.bool true, Value.pointer (some { block := w.heap.size, off := 1 }), Value.int IntKind.i64 2, Value.bool false, Value.bool false, Value.pointer (some { block := w.heap.size, off := 1 }), Value.int IntKind.i64 2, Value.bool false, Value.bool false, Value.bool false, undef, undef, undef, undef, undef, undef, undef, undef, undef, undef, undef, undef, undef, undef, undef, undef, undef, undef, Value.pointer (some { block := R, off := 0 }), Value.int IntKind.i64 ↑c, Value.pointer (some { block := R, off := 0 }), Value.pointer (some { block := R, off := 35 }), Value.pointer (some { block := R, off := 35 + c }), Value.bool false, Value.bool true, Value.bool true, Value.pointer (some { block := w.heap.size, off := 1 }), Value.int IntKind.i64 2, Value.bool true, Value.bool true, Value.bool true, Value.pointer (some { block := H, off := 0 }), Value.int IntKind.i64 ↑c, Value.pointer (some { block := H, off := 0 }), Value.pointer (some { block := H, off := c * 5 }), Value.pointer (some { block := H, off := c * 5 }), Value.slice (some { block := g1, off := 0 }) n cap1, Value.int IntKind.i64 ↑n, Value.bool true, Value.bool true, Value.pointer (some { block := w.heap.size, off := 2 }), Value.int IntKind.i64 nN, Value.pointer (some { block := H, off := 0 }), Value.int IntKind.i64 ↑c, Value.pointer (some { block := H, off := 0 }), Value.pointer (some { block := H, off := c * 5 }), Value.pointer (some { block := H, off := c * 5 }), Value.slice (some { block := g1, off := 0 }) n cap1, Value.int IntKind.i64 ↑n, Value.int IntKind.i64 (nN.tmod ↑n), Value.pointer (some { block := H, off := 0 }), Value.int IntKind.i64 ↑c, Value.pointer (some { block := H, off := 0 }), Value.pointer (some { block := H, off := c * 5 }), Value.pointer (some { block := H, off := c * 5 }), Value.slice (some { block := g1, off := 0 }) n cap1, Value.int IntKind.i64 ↑n, Value.int IntKind.i64 (wrap64 (nN.tmod ↑n + ↑n)), Value.pointer (some { block := H, off := 0 }), Value.int IntKind.i64 ↑c, Value.pointer (some { block := H, off := 0 }), Value.pointer (some { block := H, off := c * 5 }), Value.pointer (some { block := H, off := c * 5 }), Value.slice (some { block := g1, off := 0 }) n cap1, Value.int IntKind.i64 ↑n, Value.int IntKind.i64 ↑k, Value.pointer (some { block := H, off := 0 }), Value.int IntKind.i64 ↑c, Value.pointer (some { block := H, off := 0 }), Value.pointer (some { block := H, off := c * 5 }), Value.pointer (some { block := H, off := c * 5 + 1 }), Value.slice (some { block := g2, off := 0 }) n cap2, Value.int IntKind.i64 ↑k, Value.pointer (some { block := g2, off := k }), Value.bool false, Value.pointer (some { block := R, off := 0 }), Value.int IntKind.i64 ↑c, Value.pointer (some { block := H, off := 0 }), Value.int IntKind.i64 ↑c, Value.pointer (some { block := H, off := 0 }), Value.pointer (some { block := H, off := c * 5 }), Value.pointer (some { block := H, off := c * 5 }), Value.slice (some { block := g1, off := 0 }) n cap1, Value.int IntKind.i64 ↑k, Value.pointer (some { block := g1, off := k }), Value.int IntKind.i64 hdl, Value.int IntKind.i64 0, Value.slice (some { block := V1.heap.size, off := 0 }) 2 2, Value.tuple #[], z125, z126, z127, z128, z129, z130, z131, z132, z133, z134, z135, z136, z137, z138, z139, z140, z141, z142, z143, z144, z145, z146, z147, z148, z149, undef, undef, undef, undef, undef, undef, undef, undef, undef, undef, undef, undef, undef, undef, undef, undef, undef, undef, undef, undef, undef, undef, undef, undef, undef, undef, undef, undef, undef, undef, undef, undef, undef, undef, undef, undef, undef, undef, undef, undef, undef, undef, undef, undef, undef, undef, undef, undef, undef, undef, undef, undef, undef, undef, undef, undef, undef, undef, undef, undef, undef, undef, undef, undef, undef, undef, undef, undef, undef, undef, undef, undef, undef, undef, undef, undef, undef, undef, undef, undef, undef, undef, undef, undef, undef, undef, undef, undef, undef, undef, undef, undef, undef, undef, undef, undef, undef, undef, undef, undef, undef, undef, undef, undef, undef, undef, undef, undef], defers := [] } W := by
    intro z125 z126 z127 z128 z129 z130 z131 z132 z133 z134 z135 z136 z137 z138 z139 z140 z141 z142 z143 z144 z145 z146 z147 z148 z149 W13 va vn vc HM13 HO13
    have HD1 := Lib.hid (HD.out.setH c hc (.slice va vn vc))
    have HNLb : Hid ((D.setIfInBounds (c * 5) (.slice va vn vc))[c * 5 + 1]? = some (.slice (some ⟨g2, 0, none⟩) n cap2)) := Lib.hid (by rw [Array.getElem?_setIfInBounds, if_neg (by omega)]; exact HNL.out)
    generalize D.setIfInBounds (c * 5) (Value.slice va vn vc) = D1 at *
    have HT13 := Lib.hid (HMT.out.tr HM13.out)
    have HM := Lib.hid HM13.out.re
    have HL3 : Hid (∀ b, OL [(R, C', 74), (H, D1, 72), (w.heap.size, #[.int .i64 cl, .int .i64 2, .int .i64 nN], 69), (V1.heap.size, #[.int .i64 hdl, .int .i64 0], 3)] b → b < W13.heap.size) := Lib.hid (fun b ⟨i, E, u, hi⟩ => HM.out.lt hi)
    have HGW2B : Hid (g2 < W13.heap.size ∧ ¬ OL [(R, C', 74), (H, D1, 72), (w.heap.size, #[.int .i64 cl, .int .i64 2, .int .i64 nN], 69), (V1.heap.size, #[.int .i64 hdl, .int .i64 0], 3)] g2) := Lib.hid ⟨Nat.lt_of_lt_of_le HGL.out.2 HT13.out.size, ol_lt HT13.out HGL.out.2 HX1.out.2⟩
    have HGC2B := Lib.hid (HT13.out.old g2 HGL.out.2 HX1.out.2)
    have HHLB : Hid (H < W13.heap.size) := Lib.hid (HM.out.lt (i := 1) rfl)
    refine hK9 _ _ ?_
    go_wp2_with fail
    rename_i K10 hK10
    have HCONT2 : ∀ (y150 y151 y152 y153 y154 y155 y156 y157 y158 y159 y160 y161 y162 y163 y164 y165 y166 y167 y168 y169 y170 y171 y172 y173 y174 : Value) (W : World) (vb : Option Addr) (vm vd : Nat), Hid (Mem (OL [(R, C', 74), (H, D1, 72), (w.heap.size, #[.int .i64 cl, .int .i64 2, .int .i64 nN], 69), (V1.heap.size, #[.int .i64 hdl, .int .i64 0], 3)]) W13 W [(R, C', 74), (H, (D1.setIfInBounds (c * 5 + 1) (.slice vb vm vd)), 72), (w.heap.size, #[.int .i64 cl, .int .i64 2, .int .i64 nN], 69), (V1.heap.size, #[.int .i64 hdl, .int .i64 0], 3)]) → Hid (W.ownsRow W13.heap.size 4 1 (.slice vb vm vd) ((ns c).eraseIdx k).length (((ns c).eraseIdx k).map Value.bool)) → K10 { tmps := #[Value.pointer (some { block := R, off := 0 }), Value.pointer (some { block := H, off := 0 }), Value.agg #[Value.int IntKind.i64 cl, Value.int IntKind.i64 2, Value.int IntKind.i64 nN], Value.int IntKind.i64 m, undef, undef, Value.pointer (some { block := w.heap.size, off := 0 }), undef, Value.bool false, Value.int IntKind.i64 ↑c, undef, Value.int IntKind.i64 ↑k, Value.int IntKind.i64 0, undef, undef, undef, Value.pointer (some { block := w.heap.size, off := 0 }), Value.int IntKind.i64 cl, Value.int IntKind.i64 ↑c, Value.pointer (some { block := R, off := 0 }), Value.int IntKind.i64 ↑c, Value.pointer (some { block := R, off := 0 }), Value.pointer (some { block := R, off := 35 }), Value.pointer (some { block := R, off := 35 + c }), Value.bool false, Value.bool true, Value.bool true, Value.pointer (some { block := w.heap.size, off := 1 }), Value.int IntKind.i64 2, Value.bool false, Value.bool false, Value.pointer (some { block := w.heap.size, off := 1 }), Value.int IntKind.i64 2, Value.bool false, Value.bool false, Value.bool false, undef, undef, undef, undef, undef, undef, undef, undef, undef, undef, undef, undef, undef, undef, undef, undef, undef, undef, Value.pointer (some { block := R, off := 0 }), Value.int IntKind.i64 ↑c, Value.pointer (some { block := R, off := 0 }), Value.pointer (some { block := R, off := 35 }), Value.pointer (some { block := R, off := 35 + c }), Value.bool false, Value.bool true, Value.bool true, Value.pointer (some { block := w.heap.size, off := 1 }), Value.int IntKind.i64 2, Value.bool true, Value.bool true, Value.bool true, Value.pointer (some { block := H, off := 0 }), Value.int IntKind.i64 ↑c, Value.pointer (some { block := H, off := 0 }), Value.pointer (some { block := H, off := c * 5 }), Value.pointer (some { block := H, off := c * 5 }), Value.slice (some { block := g1, off := 0 }) n cap1, Value.int IntKind.i64 ↑n, Value.bool true, Value.bool true, Value.pointer (some { block := w.heap.size, off := 2 }), Value.int IntKind.i64 nN, Value.pointer (some { block := H, off := 0 }), Value.int IntKind.i64 ↑c, Value.pointer (some { block := H, off := 0 }), Value.pointer (some { block := H, off := c * 5 }), Value.pointer (some { block := H, off := c * 5 }), Value.slice (some { block := g1, off := 0 }) n cap1, Value.int IntKind.i64 ↑n, Value.int IntKind.i64 (nN.tmod ↑n), Value.pointer (some { block := H, off := 0 }), Value.int IntKind.i64 ↑c, Value.pointer (some { block := H, off := 0 }), Value.pointer (some { block := H, off := c * 5 }), Value.pointer (some { block := H, off := c * 5 }), Value.slice (some { block := g1, off := 0 }) n cap1, Value.int IntKind.i64 ↑n, Value.int IntKind.i64 (wrap64 (nN.tmod ↑n + ↑n)), Value.pointer (some { block := H, off := 0 }), Value.int IntKind.i64 ↑c, Value.pointer (some { block := H, off := 0 }), Value.pointer (some { block := H, off := c * 5 }), Value.pointer (some { block := H, off := c * 5 }), Value.slice (some { block := g1, off := 0 }) n cap1, Value.int IntKind.i64 ↑n, Value.int IntKind.i64 ↑k, Value.pointer (some { block := H, off := 0 }), Value.int IntKind.i64 ↑c, Value.pointer (some { block := H, off := 0 }), Value.pointer (some { block := H, off := c * 5 }), Value.pointer (some { block := H, off := c * 5 + 1 }), Value.slice (some { block := g2, off := 0 }) n cap2, Value.int IntKind.i64 ↑k, Value.pointer (some { block := g2, off := k }), Value.bool false, Value.pointer (some { block := R, off := 0 }), Value.int IntKind.i64 ↑c, Value.pointer (some { block := H, off := 0 }), Value.int IntKind.i64 ↑c, Value.pointer (some { block := H, off := 0 }), Value.pointer (some { block := H, off := c * 5 }), Value.pointer (some { block := H, off := c * 5 }), Value.slice (some { block := g1, off := 0 }) n cap1, Value.int IntKind.i64 ↑k, Value.pointer (some { block := g1, off := k }), Value.int IntKind.i64 hdl, Value.int IntKind.i64 0, Value.slice (some { block := V1.heap.size, off := 0 }) 2 2, Value.tuple #[], z125, z126, z127, z128, z129, z130, z131, z132, z133, z134, z135, z136, z137, z138, z139, z140, z141, z142, z143, z144, z145, z146, z147, z148, z149, y150, y151, y152, y153, y154, y155, y156, y157, y158, y159, y160, y161, y162, y163, y164, y165, y166, y167, y168, y169, y170, y171, y172, y173, y174, undef, undef, undef, undef, undef, undef, undef, undef, undef, undef, undef, undef, undef, undef, undef, undef, undef, undef, undef, undef, undef, undef, undef, undef, undef, undef, undef, undef, undef, undef, undef, undef, undef, undef, undef, undef, undef, undef, undef, undef, undef, undef, undef, undef, undef, undef, undef, undef, undef, undef, undef, undef, undef, undef, undef, undef, undef, undef, undef, undef, undef, undef, undef, undef, undef, undef, undef, undef, undef, undef, undef, undef, undef, undef, undef, undef, undef, undef, undef, undef, undef, undef, undef], defers := [] } W := by
      intro y150 y151 y152 y153 y154 y155 y156 y157 y158 y159 y160 y161 y162 y163 y164 y165 y166 y167 y168 y169 y170 y171 y172 y173 y174 W14 vb vm vd HM14 HO14
      have HD2 := Lib.hid (HD1.out.setN c hc (.slice vb vm vd))
      have HMx := Lib.hid HM14.out
      generalize D1.setIfInBounds (c * 5 + 1) (Value.slice vb vm vd) = D2 at *
      have HM := Lib.hid HM14.out.re
      refine hK10 _ _ ?_
      go_wp2_with fail
      replace HM := Lib.hid HM.out.drew
      have HF : Hid (∀ p ∈ ([(⟨w.heap.size, 0, none⟩, .int .i64 cl), (⟨w.heap.size, 1, none⟩, .int .i64 2), (⟨w.heap.size, 2, none⟩, .int .i64 nN)] : List (Addr × Value)), World.cell? W14.drew p.1 = some p.2) := Lib.hid (allc ((HM.out.hb 2 _ _ _ rfl).cell (k := 0) rfl) (allc ((HM.out.hb 2 _ _ _ rfl).cell (k := 1) rfl) (allc ((HM.out.hb 2 _ _ _ rfl).cell (k := 2) rfl) (alln _))))
      haveI : Inhabited (CW [(⟨w.heap.size, 0, none⟩, .int .i64 cl), (⟨w.heap.size, 1, none⟩, .int .i64 2), (⟨w.heap.size, 2, none⟩, .int .i64 nN)]) := ⟨⟨_, HF.out⟩⟩
      have f0 : ∀ q : CW [(⟨w.heap.size, 0, none⟩, .int .i64 cl), (⟨w.heap.size, 1, none⟩, .int .i64 2), (⟨w.heap.size, 2, none⟩, .int .i64 nN)], q.1.cell? ⟨w.heap.size, 0, none⟩ = some (.int .i64 cl) := fun q => q.2 (⟨w.heap.size, 0, none⟩, .int .i64 cl) (by simp)
      have f1 : ∀ q : CW [(⟨w.heap.size, 0, none⟩, .int .i64 cl), (⟨w.heap.size, 1, none⟩, .int .i64 2), (⟨w.heap.size, 2, none⟩, .int .i64 nN)], q.1.cell? ⟨w.heap.size, 1, none⟩ = some (.int .i64 2) := fun q => q.2 (⟨w.heap.size, 1, none⟩, .int .i64 2) (by simp)
      have f2 : ∀ q : CW [(⟨w.heap.size, 0, none⟩, .int .i64 cl), (⟨w.heap.size, 1, none⟩, .int .i64 2), (⟨w.heap.size, 2, none⟩, .int .i64 nN)], q.1.cell? ⟨w.heap.size, 2, none⟩ = some (.int .i64 nN) := fun q => q.2 (⟨w.heap.size, 2, none⟩, .int .i64 nN) (by simp)
      (try simp only [Act.put, List.setIfInBounds_toArray, List.set_cons_succ, List.set_cons_zero])
      refine wp_region_noPanic ?_
      refine wp_region_plw (.step [true, true, true, true, true, true] (.cons 6 (.last []) .nil)) (fun y => ∃ q : CW [(⟨w.heap.size, 0, none⟩, .int .i64 cl), (⟨w.heap.size, 1, none⟩, .int .i64 2), (⟨w.heap.size, 2, none⟩, .int .i64 nN)], y = q.1) (by kernel_rfl) (by kernel_rfl) (by kernel_rfl) (fun _ _ _ _ _ _ _ h => h) ⟨⟨_, HF.out⟩, rfl⟩ ?_
      simp only [wpPw, wpBw, selF, and_true]
      generalize W14.drew = V2 at *
      repeat (go_big_quiet_step (fail))
      refine wpQuiet_nil ?_
      refine wpOp_step rfl (fun K hK => ?_)
      rw [if_pos (by rfl)]
      refine wpOm_stD HM HD2 (.tmp 180) (.tmp 177) rfl rfl 1 rfl c hc cl 2 nN rfl rfl ?_
      clear HD2
      intro V3 V3d HD2 hM
      (try simp only [List.cons_append, List.nil_append, List.set_cons_succ, List.set_cons_zero, Nat.reduceAdd] at hM)
      replace HM := hM
      clear hM
      refine hK _ _ ⟨(fun y => ∃ q : CW [(⟨w.heap.size, 0, none⟩, .int .i64 cl), (⟨w.heap.size, 1, none⟩, .int .i64 2), (⟨w.heap.size, 2, none⟩, .int .i64 nN)], y = q.1), ⟨⟨_, (allc ((HM.out.hb 2 _ _ _ rfl).cell (k := 0) rfl) (allc ((HM.out.hb 2 _ _ _ rfl).cell (k := 1) rfl) (allc ((HM.out.hb 2 _ _ _ rfl).cell (k := 2) rfl) (alln _))))⟩, rfl⟩, fun _ h => h, ?_⟩
      clear hK K
      (try simp only [Act.put, List.setIfInBounds_toArray, List.set_cons_succ, List.set_cons_zero])
      refine wpQuiet_nil ?_
      refine NoPanic.normal ?_
      clear HF f0 f1 f2
      go_wp2_with fail
      go_ret
      have hT := (HM13.out.tr HM14.out).tr HM.out
      have hMM := HMT.out.tr hT
      have b13 := Mem.but HMT.out HM13.out
      have b14 := Mem.but (HMT.out.tr HM13.out) HM14.out
      have b15 := Mem.but ((HMT.out.tr HM13.out).tr HM14.out) HM.out
      have hlo := HV.out.lo
      have hB3 : B ≤ W3.heap.size := by have := HV.out.run.hb.lt; have := HV.out.hb.lt; have := HSZ3.out; omega
      have hB13 : B ≤ W13.heap.size := Nat.le_trans hB3 HM13.out.size
      have o13 := HV.out.own.putH (W' := W13) c hc (.slice va vn vc) ((hs c).eraseIdx k) (owns_mono HO13.out hB3) (.inr fun b hb => Nat.le_trans HSZ3.out (owns_ge HO13.out b hb).1) (fun b hlt _ hBb => HT13.out.old b hlt (fun e => by rcases e with e | e <;> omega))
      have o14 := o13.putN (W' := W14) c hc (.slice vb vm vd) ((ns c).eraseIdx k) (owns_mono HO14.out hB13) (.inr fun b hb => (owns_ge HO14.out b hb).1) (fun b hlt _ hBb => b14 b hlt (by omega))
      have o15 := o14.keep (fun b hBb hlt => b15 b hlt (by omega))
      have hPS : ∀ b, PH R H h b → b < W3.heap.size → PH R H (((h.setS (2 * c) (.slice va vn vc)).setS (2 * c + 1) (.slice vb vm vd)).setD c cl 2 nN) b := fun b hb hlt => by
        have h1 := PH.set (h := h) (i0 := 2 * c) (v := .slice va vn vc) (n := W3.heap.size) (.inr fun b hb => (owns_ge HO13.out b hb).1) (by omega) b hb hlt
        have h2 := PH.set (h := h.setS (2 * c) (.slice va vn vc)) (i0 := 2 * c + 1) (v := .slice vb vm vd) (n := W3.heap.size) (.inr fun b hb => Nat.le_trans HM13.out.size (owns_ge HO14.out b hb).1) (by omega) b h1 hlt
        exact h2
      refine ⟨rfl, C', _, s', ((h.setS (2 * c) (.slice va vn vc)).setS (2 * c + 1) (.slice vb vm vd)).setD c cl 2 nN, ⟨(HR3.out.weak (Q := fun b => PH R H (((h.setS (2 * c) (.slice va vn vc)).setS (2 * c + 1) (.slice vb vm vd)).setD c cl 2 nN) b ∧ ¬ OL [(R, C, 74), (H, D, 72), (w.heap.size, #[.int .i64 cl, .int .i64 2, .int .i64 nN], 69), (V1.heap.size, #[.int .i64 hdl, .int .i64 0], 3)] b) (fun b hb hlt => ⟨hPS b hb.1 hlt, hb.2⟩)).out2 HMT.out hT (HM.out.hb 0 _ _ _ rfl), HM.out.hb 1 _ _ _ rfl, HD2.out, ⟨o15.hl, o15.nl, o15.ds⟩, HV.out.ne, HV.out.lo⟩, hMM.keepP, HOT.out.1, ?_, ?_, HOT.out.2, rfl, fun b hb hlt => hPS b hb (Nat.lt_of_lt_of_le hlt HSZ3.out)⟩
      · exact Live.out2 (HT.out.weak (Q := fun b => PH R H (((h.setS (2 * c) (.slice va vn vc)).setS (2 * c + 1) (.slice vb vm vd)).setD c cl 2 nN) b ∧ ¬ OL [(R, C, 74), (H, D, 72), (w.heap.size, #[.int .i64 cl, .int .i64 2, .int .i64 nN], 69), (V1.heap.size, #[.int .i64 hdl, .int .i64 0], 3)] b) (fun b hb hlt => ⟨hPS b hb.1 hlt, hb.2⟩)) HMT.out HMb.out hT
      · exact Live.out2 (HU.out.weak (Q := fun b => PH R H (((h.setS (2 * c) (.slice va vn vc)).setS (2 * c + 1) (.slice vb vm vd)).setD c cl 2 nN) b ∧ ¬ OL [(R, C, 74), (H, D, 72), (w.heap.size, #[.int .i64 cl, .int .i64 2, .int .i64 nN], 69), (V1.heap.size, #[.int .i64 hdl, .int .i64 0], 3)] b) (fun b hb hlt => ⟨hPS b hb.1 hlt, hb.2⟩)) HMT.out HMb.out hT
    replace HM := Lib.hid HM.out.drew
    have HF : Hid (∀ p ∈ ([] : List (Addr × Value)), World.cell? W13.drew p.1 = some p.2) := Lib.hid (alln _)
    haveI : Inhabited (CW []) := ⟨⟨_, HF.out⟩⟩
    (try simp only [Act.put, List.setIfInBounds_toArray, List.set_cons_succ, List.set_cons_zero])
    refine wp_region_noPanic ?_
    refine wp_region_plw (.step [true, true, false, true, true, true, true, true, false, true, false, false, true, true, true, true, true, false, true, true, false, false, true] (.cons 2 (.step [] (.cons 8 (.step [false, false, false, false, false, false, false, false, false, false, true] (.cons 11 (.step [] (.cons 17 (.step [false, false, false, false, false, false, false, false, false, false, false, false, false, false, false, false, false, false, false, false, true] (.cons 21 (.step [false, false, false, false, false, false, false, false, false, false, false, false, false, false, false, false, false, false, false, false, false, false, false, true, true] (.cons 25 (.last []) .nil)) .nil)) .nil)) (.cons 17 (.step [false, false, false, false, false, false, false, false, false, false, false, false, false, false, false, false, false, false, false, false, true] (.cons 11 (.step [] (.cons 21 (.step [false, false, false, false, false, false, false, false, false, false, false, false, false, false, false, false, false, false, false, false, false, false, false, true, true] (.cons 25 (.last []) .nil)) .nil)) .nil)) .nil))) (.cons 17 (.step [false, false, false, false, false, false, false, false, false, false, false, false, false, false, false, false, false, false, false, false, true] (.cons 8 (.step [false, false, false, false, false, false, false, false, false, false, true] (.cons 11 (.step [] (.cons 21 (.step [false, false, false, false, false, false, false, false, false, false, false, false, false, false, false, false, false, false, false, false, false, false, false, true, true] (.cons 25 (.last []) .nil)) .nil)) .nil)) .nil)) .nil))) (.cons 8 (.step [false, false, false, false, false, false, false, false, false, false, true] (.cons 2 (.step [] (.cons 11 (.step [] (.cons 17 (.step [false, false, false, false, false, false, false, false, false, false, false, false, false, false, false, false, false, false, false, false, true] (.cons 21 (.step [false, false, false, false, false, false, false, false, false, false, false, false, false, false, false, false, false, false, false, false, false, false, false, true, true] (.cons 25 (.last []) .nil)) .nil)) .nil)) (.cons 17 (.step [false, false, false, false, false, false, false, false, false, false, false, false, false, false, false, false, false, false, false, false, true] (.cons 11 (.step [] (.cons 21 (.step [false, false, false, false, false, false, false, false, false, false, false, false, false, false, false, false, false, false, false, false, false, false, false, true, true] (.cons 25 (.last []) .nil)) .nil)) .nil)) .nil))) (.cons 17 (.step [false, false, false, false, false, false, false, false, false, false, false, false, false, false, false, false, false, false, false, false, true] (.cons 2 (.step [] (.cons 11 (.step [] (.cons 21 (.step [false, false, false, false, false, false, false, false, false, false, false, false, false, false, false, false, false, false, false, false, false, false, false, true, true] (.cons 25 (.last []) .nil)) .nil)) .nil)) .nil)) .nil))) (.cons 17 (.step [false, false, false, false, false, false, false, false, false, false, false, false, false, false, false, false, false, false, false, false, true] (.cons 2 (.step [] (.cons 8 (.step [false, false, false, false, false, false, false, false, false, false, true] (.cons 11 (.step [] (.cons 21 (.step [false, false, false, false, false, false, false, false, false, false, false, false, false, false, false, false, false, false, false, false, false, false, false, true, true] (.cons 25 (.last []) .nil)) .nil)) .nil)) .nil)) (.cons 8 (.step [false, false, false, false, false, false, false, false, false, false, true] (.cons 2 (.step [] (.cons 11 (.step [] (.cons 21 (.step [false, false, false, false, false, false, false, false, false, false, false, false, false, false, false, false, false, false, false, false, false, false, false, true, true] (.cons 25 (.last []) .nil)) .nil)) .nil)) .nil)) .nil))) .nil)))) (fun y => ∃ q : CW [], y = q.1) (by kernel_rfl) (by kernel_rfl) (by kernel_rfl) (fun _ _ _ _ _ _ _ h => h) ⟨⟨_, HF.out⟩, rfl⟩ ?_
    simp only [wpPw, wpBw, selF, and_true]
    generalize W13.drew = V4 at *
    repeat (go_big_quiet_step (fail))
    refine wpQuiet_nil ?_
    refine ⟨?_, ?_, ?_⟩
    · refine wpOp_step rfl (fun K hK => ?_)
      rw [if_pos (by rfl)]
      have HE0 := Lib.hid HM.out.size
      refine wpOm_bsB0 HM rfl 152 rfl ?_
      intro V5 hM
      (try simp only [List.cons_append, List.nil_append, List.set_cons_succ, List.set_cons_zero, Nat.reduceAdd] at hM)
      have HOv : Hid (V5.ownsRow W13.heap.size 4 1 _ 0 []) := Lib.hid (owns_zero (hM.out.hb 4 _ _ _ rfl) HE0.out)
      replace HM := Lib.hid (hM.out.sub (L2 := [(R, C', 74), (H, D1, 72), (w.heap.size, #[.int .i64 cl, .int .i64 2, .int .i64 nN], 69), (V1.heap.size, #[.int .i64 hdl, .int .i64 0], 3)]) (fun i e hi => by match i, hi with | 0, hi => exact hi | 1, hi => exact hi | 2, hi => exact hi | 3, hi => exact hi | i + 4, hi => simp at hi))
      clear hM
      refine hK _ _ ⟨(fun y => ∃ q : CW [], y = q.1), ⟨⟨_, (alln _)⟩, rfl⟩, fun _ h => h, ?_⟩
      clear hK K
      (try simp only [Act.put, List.setIfInBounds_toArray, List.set_cons_succ, List.set_cons_zero])
      refine wpQuiet_nil ?_
      refine ⟨?_, ?_⟩
      · refine wpOp_step rfl (fun K hK => ?_)
        rw [if_pos (by rfl)]
        refine wpOm_ldc HM 67 (.tmp 157) rfl 158 rfl lv67 1 (c * 5 + 1) rfl rfl _ HNLb.out ?_
        refine hK _ _ ⟨(fun y => ∃ q : CW [], y = q.1), ⟨⟨_, (alln _)⟩, rfl⟩, fun _ h => h, ?_⟩
        clear hK K
        (try simp only [Act.put, List.setIfInBounds_toArray, List.set_cons_succ, List.set_cons_zero])
        repeat (go_big_quiet_step (fail))
        refine wpQuiet_nil ?_
        refine ⟨?_, ?_⟩
        · refine wpOp_step rfl (fun K hK => ?_)
          rw [if_pos (by rfl)]
          refine wpO_catB (.tmp 152) (.tmp 160) rfl 161 rfl W13.heap.size _ 0 [] rfl HOv.out HM.out.size g2 0 k cap2 rfl ((ns c).take k) (by rw [List.length_take, HLL2.out]; omega) (fun j u hj => by
            rw [List.getElem?_take] at hj
            split at hj
            · rw [Nat.zero_add]
              exact (World.cell?_of_block ((HM.out.old g2 HGW2B.out.1 HGW2B.out.2).trans HGC2B.out)).trans (HCN.out _ u hj)
            · cases hj) (by omega) ?_
          intro V6 v1B ho1 hgr
          replace HM := Lib.hid (HM.out.grow hgr (fun g hg => ⟨.inr (owns_ge HOv.out g hg).1, fun ho => by have := (owns_ge HOv.out g hg).1; have := HL3.out g ho; omega⟩))
          replace HOv := Lib.hid ho1
          clear ho1 hgr
          refine hK _ _ ⟨(fun y => ∃ q : CW [], y = q.1), ⟨⟨_, (alln _)⟩, rfl⟩, fun _ h => h, ?_⟩
          clear hK K
          (try simp only [Act.put, List.setIfInBounds_toArray, List.set_cons_succ, List.set_cons_zero])
          refine wpQuiet_nil ?_
          refine wpOp_step rfl (fun K hK => ?_)
          rw [if_pos (by rfl)]
          refine wpOm_ldc HM 67 (.tmp 166) rfl 167 rfl lv67 1 (c * 5 + 1) rfl rfl _ HNLb.out ?_
          refine hK _ _ ⟨(fun y => ∃ q : CW [], y = q.1), ⟨⟨_, (alln _)⟩, rfl⟩, fun _ h => h, ?_⟩
          clear hK K
          (try simp only [Act.put, List.setIfInBounds_toArray, List.set_cons_succ, List.set_cons_zero])
          repeat (go_big_quiet_step (fail))
          refine wpQuiet_nil ?_
          refine wpOp_step rfl (fun K hK => ?_)
          rw [if_pos (by rfl)]
          refine wpO_catB (.tmp 161) (.tmp 170) rfl 171 rfl W13.heap.size _ (0 + k) _ rfl HOv.out HM.out.size g2 p2 (n - (k + 1)) (cap2 - (k + 1)) HP2.out ((ns c).drop (k + 1)) (by rw [List.length_drop, HLL2.out]) (fun j u hj => by
            rcases HQ2.out with hq | hq
            · have := (List.getElem?_eq_some_iff.1 hj).1
              rw [List.length_drop, HLL2.out] at this
              omega
            · rw [List.getElem?_drop] at hj
              rw [hq]
              exact (World.cell?_of_block ((HM.out.old g2 HGW2B.out.1 HGW2B.out.2).trans HGC2B.out)).trans (HCN.out _ u hj)) (by omega) ?_
          intro V7 v2B ho1 hgr
          replace HM := Lib.hid (HM.out.grow hgr (fun g hg => ⟨.inr (owns_ge HOv.out g hg).1, fun ho => by have := (owns_ge HOv.out g hg).1; have := HL3.out g ho; omega⟩))
          obtain ⟨vb, vm, vd, rfl⟩ := ownsRow_form ho1
          have HO2 : Hid (V7.ownsRow W13.heap.size 4 1 (.slice vb vm vd) ((ns c).eraseIdx k).length (((ns c).eraseIdx k).map (Value.bool))) := Lib.hid (by
            have h := ho1
            rw [List.nil_append, ← List.map_append, erase_take] at h
            rw [show ((ns c).eraseIdx k).length = 0 + k + (n - (k + 1)) by rw [List.length_eraseIdx, HLL2.out, if_pos hk]; omega]
            exact h)
          clear ho1 hgr
          refine hK _ _ ⟨(fun y => ∃ q : CW [], y = q.1), ⟨⟨_, (alln _)⟩, rfl⟩, fun _ h => h, ?_⟩
          clear hK K
          (try simp only [Act.put, List.setIfInBounds_toArray, List.set_cons_succ, List.set_cons_zero])
          repeat (go_big_quiet_step (fail))
          refine wpQuiet_nil ?_
          refine wpOp_step rfl (fun K hK => ?_)
          rw [if_pos (by rfl)]
          refine wpOm_stS HM 67 (.tmp 174) (.tmp 171) rfl rfl sizeOf67 1 (c * 5 + 1) rfl vb vm vd rfl rfl (by rw [HD1.out.size]; omega) ?_
          intro V8 hoth hsz hM
          (try simp only [List.cons_append, List.nil_append, List.set_cons_succ, List.set_cons_zero, Nat.reduceAdd] at hM)
          replace HM := hM
          have HO3 := Lib.hid (ownsRow_oth (W' := V8) HO2.out (fun b hb _ => hoth b (by have h1 := (owns_ge HO2.out b hb).1; have h2 := HHLB.out; omega)))
          clear hM hoth hsz
          refine hK _ _ ⟨(fun y => ∃ q : CW [], y = q.1), ⟨⟨_, (alln _)⟩, rfl⟩, fun _ h => h, ?_⟩
          clear hK K
          (try simp only [Act.put, List.setIfInBounds_toArray, List.set_cons_succ, List.set_cons_zero])
          refine wpQuiet_nil ?_
          refine NoPanic.normal ?_
          exact HCONT2 _ _ _ _ _ _ _ _ _ _ _ _ _ _ _ _ _ _ _ _ _ _ _ _ _ _ _ _ _ HM HO3
        · refine wpOp_step rfl (fun K hK => ?_)
          rw [if_pos (by rfl)]
          refine wpOm_ldc HM 67 (.tmp 166) rfl 167 rfl lv67 1 (c * 5 + 1) rfl rfl _ HNLb.out ?_
          refine hK _ _ ⟨(fun y => ∃ q : CW [], y = q.1), ⟨⟨_, (alln _)⟩, rfl⟩, fun _ h => h, ?_⟩
          clear hK K
          (try simp only [Act.put, List.setIfInBounds_toArray, List.set_cons_succ, List.set_cons_zero])
          repeat (go_big_quiet_step (fail))
          refine wpQuiet_nil ?_
          refine wpOp_step rfl (fun K hK => ?_)
          rw [if_pos (by rfl)]
          refine wpO_catB (.tmp 152) (.tmp 160) rfl 161 rfl W13.heap.size _ 0 [] rfl HOv.out HM.out.size g2 0 k cap2 rfl ((ns c).take k) (by rw [List.length_take, HLL2.out]; omega) (fun j u hj => by
            rw [List.getElem?_take] at hj
            split at hj
            · rw [Nat.zero_add]
              exact (World.cell?_of_block ((HM.out.old g2 HGW2B.out.1 HGW2B.out.2).trans HGC2B.out)).trans (HCN.out _ u hj)
            · cases hj) (by omega) ?_
          intro V9 v1B ho1 hgr
          replace HM := Lib.hid (HM.out.grow hgr (fun g hg => ⟨.inr (owns_ge HOv.out g hg).1, fun ho => by have := (owns_ge HOv.out g hg).1; have := HL3.out g ho; omega⟩))
          replace HOv := Lib.hid ho1
          clear ho1 hgr
          refine hK _ _ ⟨(fun y => ∃ q : CW [], y = q.1), ⟨⟨_, (alln _)⟩, rfl⟩, fun _ h => h, ?_⟩
          clear hK K
          (try simp only [Act.put, List.setIfInBounds_toArray, List.set_cons_succ, List.set_cons_zero])
          refine wpQuiet_nil ?_
          refine wpOp_step rfl (fun K hK => ?_)
          rw [if_pos (by rfl)]
          refine wpO_catB (.tmp 161) (.tmp 170) rfl 171 rfl W13.heap.size _ (0 + k) _ rfl HOv.out HM.out.size g2 p2 (n - (k + 1)) (cap2 - (k + 1)) HP2.out ((ns c).drop (k + 1)) (by rw [List.length_drop, HLL2.out]) (fun j u hj => by
            rcases HQ2.out with hq | hq
            · have := (List.getElem?_eq_some_iff.1 hj).1
              rw [List.length_drop, HLL2.out] at this
              omega
            · rw [List.getElem?_drop] at hj
              rw [hq]
              exact (World.cell?_of_block ((HM.out.old g2 HGW2B.out.1 HGW2B.out.2).trans HGC2B.out)).trans (HCN.out _ u hj)) (by omega) ?_
          intro V10 v2B ho1 hgr
          replace HM := Lib.hid (HM.out.grow hgr (fun g hg => ⟨.inr (owns_ge HOv.out g hg).1, fun ho => by have := (owns_ge HOv.out g hg).1; have := HL3.out g ho; omega⟩))
          obtain ⟨vb, vm, vd, rfl⟩ := ownsRow_form ho1
          have HO2 : Hid (V10.ownsRow W13.heap.size 4 1 (.slice vb vm vd) ((ns c).eraseIdx k).length (((ns c).eraseIdx k).map (Value.bool))) := Lib.hid (by
            have h := ho1
            rw [List.nil_append, ← List.map_append, erase_take] at h
            rw [show ((ns c).eraseIdx k).length = 0 + k + (n - (k + 1)) by rw [List.length_eraseIdx, HLL2.out, if_pos hk]; omega]
            exact h)
          clear ho1 hgr
          refine hK _ _ ⟨(fun y => ∃ q : CW [], y = q.1), ⟨⟨_, (alln _)⟩, rfl⟩, fun _ h => h, ?_⟩
          clear hK K
          (try simp only [Act.put, List.setIfInBounds_toArray, List.set_cons_succ, List.set_cons_zero])
          repeat (go_big_quiet_step (fail))
          refine wpQuiet_nil ?_
          refine wpOp_step rfl (fun K hK => ?_)
          rw [if_pos (by rfl)]
          refine wpOm_stS HM 67 (.tmp 174) (.tmp 171) rfl rfl sizeOf67 1 (c * 5 + 1) rfl vb vm vd rfl rfl (by rw [HD1.out.size]; omega) ?_
          intro V11 hoth hsz hM
          (try simp only [List.cons_append, List.nil_append, List.set_cons_succ, List.set_cons_zero, Nat.reduceAdd] at hM)
          replace HM := hM
          have HO3 := Lib.hid (ownsRow_oth (W' := V11) HO2.out (fun b hb _ => hoth b (by have h1 := (owns_ge HO2.out b hb).1; have h2 := HHLB.out; omega)))
          clear hM hoth hsz
          refine hK _ _ ⟨(fun y => ∃ q : CW [], y = q.1), ⟨⟨_, (alln _)⟩, rfl⟩, fun _ h => h, ?_⟩
          clear hK K
          (try simp only [Act.put, List.setIfInBounds_toArray, List.set_cons_succ, List.set_cons_zero])
          refine wpQuiet_nil ?_
          refine NoPanic.normal ?_
          exact HCONT2 _ _ _ _ _ _ _ _ _ _ _ _ _ _ _ _ _ _ _ _ _ _ _ _ _ _ _ _ _ HM HO3
      · refine wpOp_step rfl (fun K hK => ?_)
        rw [if_pos (by rfl)]
        refine wpOm_ldc HM 67 (.tmp 166) rfl 167 rfl lv67 1 (c * 5 + 1) rfl rfl _ HNLb.out ?_
        refine hK _ _ ⟨(fun y => ∃ q : CW [], y = q.1), ⟨⟨_, (alln _)⟩, rfl⟩, fun _ h => h, ?_⟩
        clear hK K
        (try simp only [Act.put, List.setIfInBounds_toArray, List.set_cons_succ, List.set_cons_zero])
        repeat (go_big_quiet_step (fail))
        refine wpQuiet_nil ?_
        refine wpOp_step rfl (fun K hK => ?_)
        rw [if_pos (by rfl)]
        refine wpOm_ldc HM 67 (.tmp 157) rfl 158 rfl lv67 1 (c * 5 + 1) rfl rfl _ HNLb.out ?_
        refine hK _ _ ⟨(fun y => ∃ q : CW [], y = q.1), ⟨⟨_, (alln _)⟩, rfl⟩, fun _ h => h, ?_⟩
        clear hK K
        (try simp only [Act.put, List.setIfInBounds_toArray, List.set_cons_succ, List.set_cons_zero])
        repeat (go_big_quiet_step (fail))
        refine wpQuiet_nil ?_
        refine wpOp_step rfl (fun K hK => ?_)
        rw [if_pos (by rfl)]
        refine wpO_catB (.tmp 152) (.tmp 160) rfl 161 rfl W13.heap.size _ 0 [] rfl HOv.out HM.out.size g2 0 k cap2 rfl ((ns c).take k) (by rw [List.length_take, HLL2.out]; omega) (fun j u hj => by
          rw [List.getElem?_take] at hj
          split at hj
          · rw [Nat.zero_add]
            exact (World.cell?_of_block ((HM.out.old g2 HGW2B.out.1 HGW2B.out.2).trans HGC2B.out)).trans (HCN.out _ u hj)
          · cases hj) (by omega) ?_
        intro V12 v1B ho1 hgr
        replace HM := Lib.hid (HM.out.grow hgr (fun g hg => ⟨.inr (owns_ge HOv.out g hg).1, fun ho => by have := (owns_ge HOv.out g hg).1; have := HL3.out g ho; omega⟩))
        replace HOv := Lib.hid ho1
        clear ho1 hgr
        refine hK _ _ ⟨(fun y => ∃ q : CW [], y = q.1), ⟨⟨_, (alln _)⟩, rfl⟩, fun _ h => h, ?_⟩
        clear hK K
        (try simp only [Act.put, List.setIfInBounds_toArray, List.set_cons_succ, List.set_cons_zero])
        refine wpQuiet_nil ?_
        refine wpOp_step rfl (fun K hK => ?_)
        rw [if_pos (by rfl)]
        refine wpO_catB (.tmp 161) (.tmp 170) rfl 171 rfl W13.heap.size _ (0 + k) _ rfl HOv.out HM.out.size g2 p2 (n - (k + 1)) (cap2 - (k + 1)) HP2.out ((ns c).drop (k + 1)) (by rw [List.length_drop, HLL2.out]) (fun j u hj => by
          rcases HQ2.out with hq | hq
          · have := (List.getElem?_eq_some_iff.1 hj).1
            rw [List.length_drop, HLL2.out] at this
            omega
          · rw [List.getElem?_drop] at hj
            rw [hq]
            exact (World.cell?_of_block ((HM.out.old g2 HGW2B.out.1 HGW2B.out.2).trans HGC2B.out)).trans (HCN.out _ u hj)) (by omega) ?_
        intro V13 v2B ho1 hgr
        replace HM := Lib.hid (HM.out.grow hgr (fun g hg => ⟨.inr (owns_ge HOv.out g hg).1, fun ho => by have := (owns_ge HOv.out g hg).1; have := HL3.out g ho; omega⟩))
        obtain ⟨vb, vm, vd, rfl⟩ := ownsRow_form ho1
        have HO2 : Hid (V13.ownsRow W13.heap.size 4 1 (.slice vb vm vd) ((ns c).eraseIdx k).length (((ns c).eraseIdx k).map (Value.bool))) := Lib.hid (by
          have h := ho1
          rw [List.nil_append, ← List.map_append, erase_take] at h
          rw [show ((ns c).eraseIdx k).length = 0 + k + (n - (k + 1)) by rw [List.length_eraseIdx, HLL2.out, if_pos hk]; omega]
          exact h)
        clear ho1 hgr
        refine hK _ _ ⟨(fun y => ∃ q : CW [], y = q.1), ⟨⟨_, (alln _)⟩, rfl⟩, fun _ h => h, ?_⟩
        clear hK K
        (try simp only [Act.put, List.setIfInBounds_toArray, List.set_cons_succ, List.set_cons_zero])
        repeat (go_big_quiet_step (fail))
        refine wpQuiet_nil ?_
        refine wpOp_step rfl (fun K hK => ?_)
        rw [if_pos (by rfl)]
        refine wpOm_stS HM 67 (.tmp 174) (.tmp 171) rfl rfl sizeOf67 1 (c * 5 + 1) rfl vb vm vd rfl rfl (by rw [HD1.out.size]; omega) ?_
        intro V14 hoth hsz hM
        (try simp only [List.cons_append, List.nil_append, List.set_cons_succ, List.set_cons_zero, Nat.reduceAdd] at hM)
        replace HM := hM
        have HO3 := Lib.hid (ownsRow_oth (W' := V14) HO2.out (fun b hb _ => hoth b (by have h1 := (owns_ge HO2.out b hb).1; have h2 := HHLB.out; omega)))
        clear hM hoth hsz
        refine hK _ _ ⟨(fun y => ∃ q : CW [], y = q.1), ⟨⟨_, (alln _)⟩, rfl⟩, fun _ h => h, ?_⟩
        clear hK K
        (try simp only [Act.put, List.setIfInBounds_toArray, List.set_cons_succ, List.set_cons_zero])
        refine wpQuiet_nil ?_
        refine NoPanic.normal ?_
        exact HCONT2 _ _ _ _ _ _ _ _ _ _ _ _ _ _ _ _ _ _ _ _ _ _ _ _ _ _ _ _ _ HM HO3
    · refine wpOp_step rfl (fun K hK => ?_)
      rw [if_pos (by rfl)]
      refine wpOm_ldc HM 67 (.tmp 157) rfl 158 rfl lv67 1 (c * 5 + 1) rfl rfl _ HNLb.out ?_
      refine hK _ _ ⟨(fun y => ∃ q : CW [], y = q.1), ⟨⟨_, (alln _)⟩, rfl⟩, fun _ h => h, ?_⟩
      clear hK K
      (try simp only [Act.put, List.setIfInBounds_toArray, List.set_cons_succ, List.set_cons_zero])
      repeat (go_big_quiet_step (fail))
      refine wpQuiet_nil ?_
      refine ⟨?_, ?_⟩
      · refine wpOp_step rfl (fun K hK => ?_)
        rw [if_pos (by rfl)]
        have HE0 := Lib.hid HM.out.size
        refine wpOm_bsB0 HM rfl 152 rfl ?_
        intro V15 hM
        (try simp only [List.cons_append, List.nil_append, List.set_cons_succ, List.set_cons_zero, Nat.reduceAdd] at hM)
        have HOv : Hid (V15.ownsRow W13.heap.size 4 1 _ 0 []) := Lib.hid (owns_zero (hM.out.hb 4 _ _ _ rfl) HE0.out)
        replace HM := Lib.hid (hM.out.sub (L2 := [(R, C', 74), (H, D1, 72), (w.heap.size, #[.int .i64 cl, .int .i64 2, .int .i64 nN], 69), (V1.heap.size, #[.int .i64 hdl, .int .i64 0], 3)]) (fun i e hi => by match i, hi with | 0, hi => exact hi | 1, hi => exact hi | 2, hi => exact hi | 3, hi => exact hi | i + 4, hi => simp at hi))
        clear hM
        refine hK _ _ ⟨(fun y => ∃ q : CW [], y = q.1), ⟨⟨_, (alln _)⟩, rfl⟩, fun _ h => h, ?_⟩
        clear hK K
        (try simp only [Act.put, List.setIfInBounds_toArray, List.set_cons_succ, List.set_cons_zero])
        refine wpQuiet_nil ?_
        refine ⟨?_, ?_⟩
        · refine wpOp_step rfl (fun K hK => ?_)
          rw [if_pos (by rfl)]
          refine wpO_catB (.tmp 152) (.tmp 160) rfl 161 rfl W13.heap.size _ 0 [] rfl HOv.out HM.out.size g2 0 k cap2 rfl ((ns c).take k) (by rw [List.length_take, HLL2.out]; omega) (fun j u hj => by
            rw [List.getElem?_take] at hj
            split at hj
            · rw [Nat.zero_add]
              exact (World.cell?_of_block ((HM.out.old g2 HGW2B.out.1 HGW2B.out.2).trans HGC2B.out)).trans (HCN.out _ u hj)
            · cases hj) (by omega) ?_
          intro V16 v1B ho1 hgr
          replace HM := Lib.hid (HM.out.grow hgr (fun g hg => ⟨.inr (owns_ge HOv.out g hg).1, fun ho => by have := (owns_ge HOv.out g hg).1; have := HL3.out g ho; omega⟩))
          replace HOv := Lib.hid ho1
          clear ho1 hgr
          refine hK _ _ ⟨(fun y => ∃ q : CW [], y = q.1), ⟨⟨_, (alln _)⟩, rfl⟩, fun _ h => h, ?_⟩
          clear hK K
          (try simp only [Act.put, List.setIfInBounds_toArray, List.set_cons_succ, List.set_cons_zero])
          refine wpQuiet_nil ?_
          refine wpOp_step rfl (fun K hK => ?_)
          rw [if_pos (by rfl)]
          refine wpOm_ldc HM 67 (.tmp 166) rfl 167 rfl lv67 1 (c * 5 + 1) rfl rfl _ HNLb.out ?_
          refine hK _ _ ⟨(fun y => ∃ q : CW [], y = q.1), ⟨⟨_, (alln _)⟩, rfl⟩, fun _ h => h, ?_⟩
          clear hK K
          (try simp only [Act.put, List.setIfInBounds_toArray, List.set_cons_succ, List.set_cons_zero])
          repeat (go_big_quiet_step (fail))
          refine wpQuiet_nil ?_
          refine wpOp_step rfl (fun K hK => ?_)
          rw [if_pos (by rfl)]
          refine wpO_catB (.tmp 161) (.tmp 170) rfl 171 rfl W13.heap.size _ (0 + k) _ rfl HOv.out HM.out.size g2 p2 (n - (k + 1)) (cap2 - (k + 1)) HP2.out ((ns c).drop (k + 1)) (by rw [List.length_drop, HLL2.out]) (fun j u hj => by
            rcases HQ2.out with hq | hq
            · have := (List.getElem?_eq_some_iff.1 hj).1
              rw [List.length_drop, HLL2.out] at this
              omega
            · rw [List.getElem?_drop] at hj
              rw [hq]
              exact (World.cell?_of_block ((HM.out.old g2 HGW2B.out.1 HGW2B.out.2).trans HGC2B.out)).trans (HCN.out _ u hj)) (by omega) ?_
          intro V17 v2B ho1 hgr
          replace HM := Lib.hid (HM.out.grow hgr (fun g hg => ⟨.inr (owns_ge HOv.out g hg).1, fun ho => by have := (owns_ge HOv.out g hg).1; have := HL3.out g ho; omega⟩))
          obtain ⟨vb, vm, vd, rfl⟩ := ownsRow_form ho1
          have HO2 : Hid (V17.ownsRow W13.heap.size 4 1 (.slice vb vm vd) ((ns c).eraseIdx k).length (((ns c).eraseIdx k).map (Value.bool))) := Lib.hid (by
            have h := ho1
            rw [List.nil_append, ← List.map_append, erase_take] at h
            rw [show ((ns c).eraseIdx k).length = 0 + k + (n - (k + 1)) by rw [List.length_eraseIdx, HLL2.out, if_pos hk]; omega]
            exact h)
          clear ho1 hgr
          refine hK _ _ ⟨(fun y => ∃ q : CW [], y = q.1), ⟨⟨_, (alln _)⟩, rfl⟩, fun _ h => h, ?_⟩
          clear hK K
          (try simp only [Act.put, List.setIfInBounds_toArray, List.set_cons_succ, List.set_cons_zero])
          repeat (go_big_quiet_step (fail))
          refine wpQuiet_nil ?_
          refine wpOp_step rfl (fun K hK => ?_)
          rw [if_pos (by rfl)]
          refine wpOm_stS HM 67 (.tmp 174) (.tmp 171) rfl rfl sizeOf67 1 (c * 5 + 1) rfl vb vm vd rfl rfl (by rw [HD1.out.size]; omega) ?_
          intro V18 hoth hsz hM
          (try simp only [List.cons_append, List.nil_append, List.set_cons_succ, List.set_cons_zero, Nat.reduceAdd] at hM)
          replace HM := hM
          have HO3 := Lib.hid (ownsRow_oth (W' := V18) HO2.out (fun b hb _ => hoth b (by have h1 := (owns_ge HO2.out b hb).1; have h2 := HHLB.out; omega)))
          clear hM hoth hsz
          refine hK _ _ ⟨(fun y => ∃ q : CW [], y = q.1), ⟨⟨_, (alln _)⟩, rfl⟩, fun _ h => h, ?_⟩
          clear hK K
          (try simp only [Act.put, List.setIfInBounds_toArray, List.set_cons_succ, List.set_cons_zero])
          refine wpQuiet_nil ?_
          refine NoPanic.normal ?_
          exact HCONT2 _ _ _ _ _ _ _ _ _ _ _ _ _ _ _ _ _ _ _ _ _ _ _ _ _ _ _ _ _ HM HO3
        · refine wpOp_step rfl (fun K hK => ?_)
          rw [if_pos (by rfl)]
          refine wpOm_ldc HM 67 (.tmp 166) rfl 167 rfl lv67 1 (c * 5 + 1) rfl rfl _ HNLb.out ?_
          refine hK _ _ ⟨(fun y => ∃ q : CW [], y = q.1), ⟨⟨_, (alln _)⟩, rfl⟩, fun _ h => h, ?_⟩
          clear hK K
          (try simp only [Act.put, List.setIfInBounds_toArray, List.set_cons_succ, List.set_cons_zero])
          repeat (go_big_quiet_step (fail))
          refine wpQuiet_nil ?_
          refine wpOp_step rfl (fun K hK => ?_)
          rw [if_pos (by rfl)]
          refine wpO_catB (.tmp 152) (.tmp 160) rfl 161 rfl W13.heap.size _ 0 [] rfl HOv.out HM.out.size g2 0 k cap2 rfl ((ns c).take k) (by rw [List.length_take, HLL2.out]; omega) (fun j u hj => by
            rw [List.getElem?_take] at hj
            split at hj
            · rw [Nat.zero_add]
              exact (World.cell?_of_block ((HM.out.old g2 HGW2B.out.1 HGW2B.out.2).trans HGC2B.out)).trans (HCN.out _ u hj)
            · cases hj) (by omega) ?_
          intro V19 v1B ho1 hgr
          replace HM := Lib.hid (HM.out.grow hgr (fun g hg => ⟨.inr (owns_ge HOv.out g hg).1, fun ho => by have := (owns_ge HOv.out g hg).1; have := HL3.out g ho; omega⟩))
          replace HOv := Lib.hid ho1
          clear ho1 hgr
          refine hK _ _ ⟨(fun y => ∃ q : CW [], y = q.1), ⟨⟨_, (alln _)⟩, rfl⟩, fun _ h => h, ?_⟩
          clear hK K
          (try simp only [Act.put, List.setIfInBounds_toArray, List.set_cons_succ, List.set_cons_zero])
          refine wpQuiet_nil ?_
          refine wpOp_step rfl (fun K hK => ?_)
          rw [if_pos (by rfl)]
          refine wpO_catB (.tmp 161) (.tmp 170) rfl 171 rfl W13.heap.size _ (0 + k) _ rfl HOv.out HM.out.size g2 p2 (n - (k + 1)) (cap2 - (k + 1)) HP2.out ((ns c).drop (k + 1)) (by rw [List.length_drop, HLL2.out]) (fun j u hj => by
            rcases HQ2.out with hq | hq
            · have := (List.getElem?_eq_some_iff.1 hj).1
              rw [List.length_drop, HLL2.out] at this
              omega
            · rw [List.getElem?_drop] at hj
              rw [hq]
              exact (World.cell?_of_block ((HM.out.old g2 HGW2B.out.1 HGW2B.out.2).trans HGC2B.out)).trans (HCN.out _ u hj)) (by omega) ?_
          intro V20 v2B ho1 hgr
          replace HM := Lib.hid (HM.out.grow hgr (fun g hg => ⟨.inr (owns_ge HOv.out g hg).1, fun ho => by have := (owns_ge HOv.out g hg).1; have := HL3.out g ho; omega⟩))
          obtain ⟨vb, vm, vd, rfl⟩ := ownsRow_form ho1
          have HO2 : Hid (V20.ownsRow W13.heap.size 4 1 (.slice vb vm vd) ((ns c).eraseIdx k).length (((ns c).eraseIdx k).map (Value.bool))) := Lib.hid (by
            have h := ho1
            rw [List.nil_append, ← List.map_append, erase_take] at h
            rw [show ((ns c).eraseIdx k).length = 0 + k + (n - (k + 1)) by rw [List.length_eraseIdx, HLL2.out, if_pos hk]; omega]
            exact h)
          clear ho1 hgr
          refine hK _ _ ⟨(fun y => ∃ q : CW [], y = q.1), ⟨⟨_, (alln _)⟩, rfl⟩, fun _ h => h, ?_⟩
          clear hK K
          (try simp only [Act.put, List.setIfInBounds_toArray, List.set_cons_succ, List.set_cons_zero])
          repeat (go_big_quiet_step (fail))
          refine wpQuiet_nil ?_
          refine wpOp_step rfl (fun K hK => ?_)
          rw [if_pos (by rfl)]
          refine wpOm_stS HM 67 (.tmp 174) (.tmp 171) rfl rfl sizeOf67 1 (c * 5 + 1) rfl vb vm vd rfl rfl (by rw [HD1.out.size]; omega) ?_
          intro V21 hoth hsz hM
          (try simp only [List.cons_append, List.nil_append, List.set_cons_succ, List.set_cons_zero, Nat.reduceAdd] at hM)
          replace HM := hM
          have HO3 := Lib.hid (ownsRow_oth (W' := V21) HO2.out (fun b hb _ => hoth b (by have h1 := (owns_ge HO2.out b hb).1; have h2 := HHLB.out; omega)))
          clear hM hoth hsz
          refine hK _ _ ⟨(fun y => ∃ q : CW [], y = q.1), ⟨⟨_, (alln _)⟩, rfl⟩, fun _ h => h, ?_⟩
          clear hK K
          (try simp only [Act.put, List.setIfInBounds_toArray, List.set_cons_succ, List.set_cons_zero])
          refine wpQuiet_nil ?_
          refine NoPanic.normal ?_
          exact HCONT2 _ _ _ _ _ _ _ _ _ _ _ _ _ _ _ _ _ _ _ _ _ _ _ _ _ _ _ _ _ HM HO3
      · refine wpOp_step rfl (fun K hK => ?_)
        rw [if_pos (by rfl)]
        refine wpOm_ldc HM 67 (.tmp 166) rfl 167 rfl lv67 1 (c * 5 + 1) rfl rfl _ HNLb.out ?_
        refine hK _ _ ⟨(fun y => ∃ q : CW [], y = q.1), ⟨⟨_, (alln _)⟩, rfl⟩, fun _ h => h, ?_⟩
        clear hK K
        (try simp only [Act.put, List.setIfInBounds_toArray, List.set_cons_succ, List.set_cons_zero])
        repeat (go_big_quiet_step (fail))
        refine wpQuiet_nil ?_
        refine wpOp_step rfl (fun K hK => ?_)
        rw [if_pos (by rfl)]
        have HE0 := Lib.hid HM.out.size
        refine wpOm_bsB0 HM rfl 152 rfl ?_
        intro V22 hM
        (try simp only [List.cons_append, List.nil_append, List.set_cons_succ, List.set_cons_zero, Nat.reduceAdd] at hM)
        have HOv : Hid (V22.ownsRow W13.heap.size 4 1 _ 0 []) := Lib.hid (owns_zero (hM.out.hb 4 _ _ _ rfl) HE0.out)
        replace HM := Lib.hid (hM.out.sub (L2 := [(R, C', 74), (H, D1, 72), (w.heap.size, #[.int .i64 cl, .int .i64 2, .int .i64 nN], 69), (V1.heap.size, #[.int .i64 hdl, .int .i64 0], 3)]) (fun i e hi => by match i, hi with | 0, hi => exact hi | 1, hi => exact hi | 2, hi => exact hi | 3, hi => exact hi | i + 4, hi => simp at hi))
        clear hM
        refine hK _ _ ⟨(fun y => ∃ q : CW [], y = q.1), ⟨⟨_, (alln _)⟩, rfl⟩, fun _ h => h, ?_⟩
        clear hK K
        (try simp only [Act.put, List.setIfInBounds_toArray, List.set_cons_succ, List.set_cons_zero])
        refine wpQuiet_nil ?_
        refine wpOp_step rfl (fun K hK => ?_)
        rw [if_pos (by rfl)]
        refine wpO_catB (.tmp 152) (.tmp 160) rfl 161 rfl W13.heap.size _ 0 [] rfl HOv.out HM.out.size g2 0 k cap2 rfl ((ns c).take k) (by rw [List.length_take, HLL2.out]; omega) (fun j u hj => by
          rw [List.getElem?_take] at hj
          split at hj
          · rw [Nat.zero_add]
            exact (World.cell?_of_block ((HM.out.old g2 HGW2B.out.1 HGW2B.out.2).trans HGC2B.out)).trans (HCN.out _ u hj)
          · cases hj) (by omega) ?_
        intro V23 v1B ho1 hgr
        replace HM := Lib.hid (HM.out.grow hgr (fun g hg => ⟨.inr (owns_ge HOv.out g hg).1, fun ho => by have := (owns_ge HOv.out g hg).1; have := HL3.out g ho; omega⟩))
        replace HOv := Lib.hid ho1
        clear ho1 hgr
        refine hK _ _ ⟨(fun y => ∃ q : CW [], y = q.1), ⟨⟨_, (alln _)⟩, rfl⟩, fun _ h => h, ?_⟩
        clear hK K
        (try simp only [Act.put, List.setIfInBounds_toArray, List.set_cons_succ, List.set_cons_zero])
        refine wpQuiet_nil ?_
        refine wpOp_step rfl (fun K hK => ?_)
        rw [if_pos (by rfl)]
        refine wpO_catB (.tmp 161) (.tmp 170) rfl 171 rfl W13.heap.size _ (0 + k) _ rfl HOv.out HM.out.size g2 p2 (n - (k + 1)) (cap2 - (k + 1)) HP2.out ((ns c).drop (k + 1)) (by rw [List.length_drop, HLL2.out]) (fun j u hj => by
          rcases HQ2.out with hq | hq
          · have := (List.getElem?_eq_some_iff.1 hj).1
            rw [List.length_drop, HLL2.out] at this
            omega
          · rw [List.getElem?_drop] at hj
            rw [hq]
            exact (World.cell?_of_block ((HM.out.old g2 HGW2B.out.1 HGW2B.out.2).trans HGC2B.out)).trans (HCN.out _ u hj)) (by omega) ?_
        intro V24 v2B ho1 hgr
        replace HM := Lib.hid (HM.out.grow hgr (fun g hg => ⟨.inr (owns_ge HOv.out g hg).1, fun ho => by have := (owns_ge HOv.out g hg).1; have := HL3.out g ho; omega⟩))
        obtain ⟨vb, vm, vd, rfl⟩ := ownsRow_form ho1
        have HO2 : Hid (V24.ownsRow W13.heap.size 4 1 (.slice vb vm vd) ((ns c).eraseIdx k).length (((ns c).eraseIdx k).map (Value.bool))) := Lib.hid (by
          have h := ho1
          rw [List.nil_append, ← List.map_append, erase_take] at h
          rw [show ((ns c).eraseIdx k).length = 0 + k + (n - (k + 1)) by rw [List.length_eraseIdx, HLL2.out, if_pos hk]; omega]
          exact h)
        clear ho1 hgr
        refine hK _ _ ⟨(fun y => ∃ q : CW [], y = q.1), ⟨⟨_, (alln _)⟩, rfl⟩, fun _ h => h, ?_⟩
        clear hK K
        (try simp only [Act.put, List.setIfInBounds_toArray, List.set_cons_succ, List.set_cons_zero])
        repeat (go_big_quiet_step (fail))
        refine wpQuiet_nil ?_
        refine wpOp_step rfl (fun K hK => ?_)
        rw [if_pos (by rfl)]
        refine wpOm_stS HM 67 (.tmp 174) (.tmp 171) rfl rfl sizeOf67 1 (c * 5 + 1) rfl vb vm vd rfl rfl (by rw [HD1.out.size]; omega) ?_
        intro V25 hoth hsz hM
        (try simp only [List.cons_append, List.nil_append, List.set_cons_succ, List.set_cons_zero, Nat.reduceAdd] at hM)
        replace HM := hM
        have HO3 := Lib.hid (ownsRow_oth (W' := V25) HO2.out (fun b hb _ => hoth b (by have h1 := (owns_ge HO2.out b hb).1; have h2 := HHLB.out; omega)))
        clear hM hoth hsz
        refine hK _ _ ⟨(fun y => ∃ q : CW [], y = q.1), ⟨⟨_, (alln _)⟩, rfl⟩, fun _ h => h, ?_⟩
        clear hK K
        (try simp only [Act.put, List.setIfInBounds_toArray, List.set_cons_succ, List.set_cons_zero])
        refine wpQuiet_nil ?_
        refine NoPanic.normal ?_
        exact HCONT2 _ _ _ _ _ _ _ _ _ _ _ _ _ _ _ _ _ _ _ _ _ _ _ _ _ _ _ _ _ HM HO3
    · refine wpOp_step rfl (fun K hK => ?_)
      rw [if_pos (by rfl)]
      refine wpOm_ldc HM 67 (.tmp 166) rfl 167 rfl lv67 1 (c * 5 + 1) rfl rfl _ HNLb.out ?_
      refine hK _ _ ⟨(fun y => ∃ q : CW [], y = q.1), ⟨⟨_, (alln _)⟩, rfl⟩, fun _ h => h, ?_⟩
      clear hK K
      (try simp only [Act.put, List.setIfInBounds_toArray, List.set_cons_succ, List.set_cons_zero])
      repeat (go_big_quiet_step (fail))
      refine wpQuiet_nil ?_
      refine ⟨?_, ?_⟩
      · refine wpOp_step rfl (fun K hK => ?_)
        rw [if_pos (by rfl)]
        have HE0 := Lib.hid HM.out.size
        refine wpOm_bsB0 HM rfl 152 rfl ?_
        intro V26 hM
        (try simp only [List.cons_append, List.nil_append, List.set_cons_succ, List.set_cons_zero, Nat.reduceAdd] at hM)
        have HOv : Hid (V26.ownsRow W13.heap.size 4 1 _ 0 []) := Lib.hid (owns_zero (hM.out.hb 4 _ _ _ rfl) HE0.out)
        replace HM := Lib.hid (hM.out.sub (L2 := [(R, C', 74), (H, D1, 72), (w.heap.size, #[.int .i64 cl, .int .i64 2, .int .i64 nN], 69), (V1.heap.size, #[.int .i64 hdl, .int .i64 0], 3)]) (fun i e hi => by match i, hi with | 0, hi => exact hi | 1, hi => exact hi | 2, hi => exact hi | 3, hi => exact hi | i + 4, hi => simp at hi))
        clear hM
        refine hK _ _ ⟨(fun y => ∃ q : CW [], y = q.1), ⟨⟨_, (alln _)⟩, rfl⟩, fun _ h => h, ?_⟩
        clear hK K
        (try simp only [Act.put, List.setIfInBounds_toArray, List.set_cons_succ, List.set_cons_zero])
        refine wpQuiet_nil ?_
        refine wpOp_step rfl (fun K hK => ?_)
        rw [if_pos (by rfl)]
        refine wpOm_ldc HM 67 (.tmp 157) rfl 158 rfl lv67 1 (c * 5 + 1) rfl rfl _ HNLb.out ?_
        refine hK _ _ ⟨(fun y => ∃ q : CW [], y = q.1), ⟨⟨_, (alln _)⟩, rfl⟩, fun _ h => h, ?_⟩
        clear hK K
        (try simp only [Act.put, List.setIfInBounds_toArray, List.set_cons_succ, List.set_cons_zero])
        repeat (go_big_quiet_step (fail))
        refine wpQuiet_nil ?_
        refine wpOp_step rfl (fun K hK => ?_)
        rw [if_pos (by rfl)]
        refine wpO_catB (.tmp 152) (.tmp 160) rfl 161 rfl W13.heap.size _ 0 [] rfl HOv.out HM.out.size g2 0 k cap2 rfl ((ns c).take k) (by rw [List.length_take, HLL2.out]; omega) (fun j u hj => by
          rw [List.getElem?_take] at hj
          split at hj
          · rw [Nat.zero_add]
            exact (World.cell?_of_block ((HM.out.old g2 HGW2B.out.1 HGW2B.out.2).trans HGC2B.out)).trans (HCN.out _ u hj)
          · cases hj) (by omega) ?_
        intro V27 v1B ho1 hgr
        replace HM := Lib.hid (HM.out.grow hgr (fun g hg => ⟨.inr (owns_ge HOv.out g hg).1, fun ho => by have := (owns_ge HOv.out g hg).1; have := HL3.out g ho; omega⟩))
        replace HOv := Lib.hid ho1
        clear ho1 hgr
        refine hK _ _ ⟨(fun y => ∃ q : CW [], y = q.1), ⟨⟨_, (alln _)⟩, rfl⟩, fun _ h => h, ?_⟩
        clear hK K
        (try simp only [Act.put, List.setIfInBounds_toArray, List.set_cons_succ, List.set_cons_zero])
        refine wpQuiet_nil ?_
        refine wpOp_step rfl (fun K hK => ?_)
        rw [if_pos (by rfl)]
        refine wpO_catB (.tmp 161) (.tmp 170) rfl 171 rfl W13.heap.size _ (0 + k) _ rfl HOv.out HM.out.size g2 p2 (n - (k + 1)) (cap2 - (k + 1)) HP2.out ((ns c).drop (k + 1)) (by rw [List.length_drop, HLL2.out]) (fun j u hj => by
          rcases HQ2.out with hq | hq
          · have := (List.getElem?_eq_some_iff.1 hj).1
            rw [List.length_drop, HLL2.out] at this
            omega
          · rw [List.getElem?_drop] at hj
            rw [hq]
            exact (World.cell?_of_block ((HM.out.old g2 HGW2B.out.1 HGW2B.out.2).trans HGC2B.out)).trans (HCN.out _ u hj)) (by omega) ?_
        intro V28 v2B ho1 hgr
        replace HM := Lib.hid (HM.out.grow hgr (fun g hg => ⟨.inr (owns_ge HOv.out g hg).1, fun ho => by have := (owns_ge HOv.out g hg).1; have := HL3.out g ho; omega⟩))
        obtain ⟨vb, vm, vd, rfl⟩ := ownsRow_form ho1
        have HO2 : Hid (V28.ownsRow W13.heap.size 4 1 (.slice vb vm vd) ((ns c).eraseIdx k).length (((ns c).eraseIdx k).map (Value.bool))) := Lib.hid (by
          have h := ho1
          rw [List.nil_append, ← List.map_append, erase_take] at h
          rw [show ((ns c).eraseIdx k).length = 0 + k + (n - (k + 1)) by rw [List.length_eraseIdx, HLL2.out, if_pos hk]; omega]
          exact h)
        clear ho1 hgr
        refine hK _ _ ⟨(fun y => ∃ q : CW [], y = q.1), ⟨⟨_, (alln _)⟩, rfl⟩, fun _ h => h, ?_⟩
        clear hK K
        (try simp only [Act.put, List.setIfInBounds_toArray, List.set_cons_succ, List.set_cons_zero])
        repeat (go_big_quiet_step (fail))
        refine wpQuiet_nil ?_
        refine wpOp_step rfl (fun K hK => ?_)
        rw [if_pos (by rfl)]
        refine wpOm_stS HM 67 (.tmp 174) (.tmp 171) rfl rfl sizeOf67 1 (c * 5 + 1) rfl vb vm vd rfl rfl (by rw [HD1.out.size]; omega) ?_
        intro V29 hoth hsz hM
        (try simp only [List.cons_append, List.nil_append, List.set_cons_succ, List.set_cons_zero, Nat.reduceAdd] at hM)
        replace HM := hM
        have HO3 := Lib.hid (ownsRow_oth (W' := V29) HO2.out (fun b hb _ => hoth b (by have h1 := (owns_ge HO2.out b hb).1; have h2 := HHLB.out; omega)))
        clear hM hoth hsz
        refine hK _ _ ⟨(fun y => ∃ q : CW [], y = q.1), ⟨⟨_, (alln _)⟩, rfl⟩, fun _ h => h, ?_⟩
        clear hK K
        (try simp only [Act.put, List.setIfInBounds_toArray, List.set_cons_succ, List.set_cons_zero])
        refine wpQuiet_nil ?_
        refine NoPanic.normal ?_
        exact HCONT2 _ _ _ _ _ _ _ _ _ _ _ _ _ _ _ _ _ _ _ _ _ _ _ _ _ _ _ _ _ HM HO3
      · refine wpOp_step rfl (fun K hK => ?_)
        rw [if_pos (by rfl)]
        refine wpOm_ldc HM 67 (.tmp 157) rfl 158 rfl lv67 1 (c * 5 + 1) rfl rfl _ HNLb.out ?_
        refine hK _ _ ⟨(fun y => ∃ q : CW [], y = q.1), ⟨⟨_, (alln _)⟩, rfl⟩, fun _ h => h, ?_⟩
        clear hK K
        (try simp only [Act.put, List.setIfInBounds_toArray, List.set_cons_succ, List.set_cons_zero])
        repeat (go_big_quiet_step (fail))
        refine wpQuiet_nil ?_
        refine wpOp_step rfl (fun K hK => ?_)
        rw [if_pos (by rfl)]
        have HE0 := Lib.hid HM.out.size
        refine wpOm_bsB0 HM rfl 152 rfl ?_
        intro V30 hM
        (try simp only [List.cons_append, List.nil_append, List.set_cons_succ, List.set_cons_zero, Nat.reduceAdd] at hM)
        have HOv : Hid (V30.ownsRow W13.heap.size 4 1 _ 0 []) := Lib.hid (owns_zero (hM.out.hb 4 _ _ _ rfl) HE0.out)
        replace HM := Lib.hid (hM.out.sub (L2 := [(R, C', 74), (H, D1, 72), (w.heap.size, #[.int .i64 cl, .int .i64 2, .int .i64 nN], 69), (V1.heap.size, #[.int .i64 hdl, .int .i64 0], 3)]) (fun i e hi => by match i, hi with | 0, hi => exact hi | 1, hi => exact hi | 2, hi => exact hi | 3, hi => exact hi | i + 4, hi => simp at hi))
        clear hM
        refine hK _ _ ⟨(fun y => ∃ q : CW [], y = q.1), ⟨⟨_, (alln _)⟩, rfl⟩, fun _ h => h, ?_⟩
        clear hK K
        (try simp only [Act.put, List.setIfInBounds_toArray, List.set_cons_succ, List.set_cons_zero])
        refine wpQuiet_nil ?_
        refine wpOp_step rfl (fun K hK => ?_)
        rw [if_pos (by rfl)]
        refine wpO_catB (.tmp 152) (.tmp 160) rfl 161 rfl W13.heap.size _ 0 [] rfl HOv.out HM.out.size g2 0 k cap2 rfl ((ns c).take k) (by rw [List.length_take, HLL2.out]; omega) (fun j u hj => by
          rw [List.getElem?_take] at hj
          split at hj
          · rw [Nat.zero_add]
            exact (World.cell?_of_block ((HM.out.old g2 HGW2B.out.1 HGW2B.out.2).trans HGC2B.out)).trans (HCN.out _ u hj)
          · cases hj) (by omega) ?_
        intro V31 v1B ho1 hgr
        replace HM := Lib.hid (HM.out.grow hgr (fun g hg => ⟨.inr (owns_ge HOv.out g hg).1, fun ho => by have := (owns_ge HOv.out g hg).1; have := HL3.out g ho; omega⟩))
        replace HOv := Lib.hid ho1
        clear ho1 hgr
        refine hK _ _ ⟨(fun y => ∃ q : CW [], y = q.1), ⟨⟨_, (alln _)⟩, rfl⟩, fun _ h => h, ?_⟩
        clear hK K
        (try simp only [Act.put, List.setIfInBounds_toArray, List.set_cons_succ, List.set_cons_zero])
        refine wpQuiet_nil ?_
        refine wpOp_step rfl (fun K hK => ?_)
        rw [if_pos (by rfl)]
        refine wpO_catB (.tmp 161) (.tmp 170) rfl 171 rfl W13.heap.size _ (0 + k) _ rfl HOv.out HM.out.size g2 p2 (n - (k + 1)) (cap2 - (k + 1)) HP2.out ((ns c).drop (k + 1)) (by rw [List.length_drop, HLL2.out]) (fun j u hj => by
          rcases HQ2.out with hq | hq
          · have := (List.getElem?_eq_some_iff.1 hj).1
            rw [List.length_drop, HLL2.out] at this
            omega
          · rw [List.getElem?_drop] at hj
            rw [hq]
            exact (World.cell?_of_block ((HM.out.old g2 HGW2B.out.1 HGW2B.out.2).trans HGC2B.out)).trans (HCN.out _ u hj)) (by omega) ?_
        intro V32 v2B ho1 hgr
        replace HM := Lib.hid (HM.out.grow hgr (fun g hg => ⟨.inr (owns_ge HOv.out g hg).1, fun ho => by have := (owns_ge HOv.out g hg).1; have := HL3.out g ho; omega⟩))
        obtain ⟨vb, vm, vd, rfl⟩ := ownsRow_form ho1
        have HO2 : Hid (V32.ownsRow W13.heap.size 4 1 (.slice vb vm vd) ((ns c).eraseIdx k).length (((ns c).eraseIdx k).map (Value.bool))) := Lib.hid (by
          have h := ho1
          rw [List.nil_append, ← List.map_append, erase_take] at h
          rw [show ((ns c).eraseIdx k).length = 0 + k + (n - (k + 1)) by rw [List.length_eraseIdx, HLL2.out, if_pos hk]; omega]
          exact h)
        clear ho1 hgr
        refine hK _ _ ⟨(fun y => ∃ q : CW [], y = q.1), ⟨⟨_, (alln _)⟩, rfl⟩, fun _ h => h, ?_⟩
        clear hK K
        (try simp only [Act.put, List.setIfInBounds_toArray, List.set_cons_succ, List.set_cons_zero])
        repeat (go_big_quiet_step (fail))
        refine wpQuiet_nil ?_
        refine wpOp_step rfl (fun K hK => ?_)
        rw [if_pos (by rfl)]
        refine wpOm_stS HM 67 (.tmp 174) (.tmp 171) rfl rfl sizeOf67 1 (c * 5 + 1) rfl vb vm vd rfl rfl (by rw [HD1.out.size]; omega) ?_
        intro V33 hoth hsz hM
        (try simp only [List.cons_append, List.nil_append, List.set_cons_succ, List.set_cons_zero, Nat.reduceAdd] at hM)
        replace HM := hM
        have HO3 := Lib.hid (ownsRow_oth (W' := V33) HO2.out (fun b hb _ => hoth b (by have h1 := (owns_ge HO2.out b hb).1; have h2 := HHLB.out; omega)))
        clear hM hoth hsz
        refine hK _ _ ⟨(fun y => ∃ q : CW [], y = q.1), ⟨⟨_, (alln _)⟩, rfl⟩, fun _ h => h, ?_⟩
        clear hK K
        (try simp only [Act.put, List.setIfInBounds_toArray, List.set_cons_succ, List.set_cons_zero])
        refine wpQuiet_nil ?_
        refine NoPanic.normal ?_
        exact HCONT2 _ _ _ _ _ _ _ _ _ _ _ _ _ _ _ _ _ _ _ _ _ _ _ _ _ _ _ _ _ HM HO3
  replace HM := Lib.hid HM.out.drew
  have HF : Hid (∀ p ∈ ([] : List (Addr × Value)), World.cell? W3.drew p.1 = some p.2) := Lib.hid (alln _)
  haveI : Inhabited (CW []) := ⟨⟨_, HF.out⟩⟩
  (try simp only [Act.put, List.setIfInBounds_toArray, List.set_cons_succ, List.set_cons_zero])
  refine wp_region_noPanic ?_
  refine wp_region_plw (.step [true, true, false, true, true, true, true, true, false, true, false, false, true, true, true, true, true, false, true, true, false, false, true] (.cons 2 (.step [] (.cons 8 (.step [false, false, false, false, false, false, false, false, false, false, true] (.cons 11 (.step [] (.cons 17 (.step [false, false, false, false, false, false, false, false, false, false, false, false, false, false, false, false, false, false, false, false, true] (.cons 21 (.step [false, false, false, false, false, false, false, false, false, false, false, false, false, false, false, false, false, false, false, false, false, false, false, true, true] (.cons 25 (.last []) .nil)) .nil)) .nil)) (.cons 17 (.step [false, false, false, false, false, false, false, false, false, false, false, false, false, false, false, false, false, false, false, false, true] (.cons 11 (.step [] (.cons 21 (.step [false, false, false, false, false, false, false, false, false, false, false, false, false, false, false, false, false, false, false, false, false, false, false, true, true] (.cons 25 (.last []) .nil)) .nil)) .nil)) .nil))) (.cons 17 (.step [false, false, false, false, false, false, false, false, false, false, false, false, false, false, false, false, false, false, false, false, true] (.cons 8 (.step [false, false, false, false, false, false, false, false, false, false, true] (.cons 11 (.step [] (.cons 21 (.step [false, false, false, false, false, false, false, false, false, false, false, false, false, false, false, false, false, false, false, false, false, false, false, true, true] (.cons 25 (.last []) .nil)) .nil)) .nil)) .nil)) .nil))) (.cons 8 (.step [false, false, false, false, false, false, false, false, false, false, true] (.cons 2 (.step [] (.cons 11 (.step [] (.cons 17 (.step [false, false, false, false, false, false, false, false, false, false, false, false, false, false, false, false, false, false, false, false, true] (.cons 21 (.step [false, false, false, false, false, false, false, false, false, false, false, false, false, false, false, false, false, false, false, false, false, false, false, true, true] (.cons 25 (.last []) .nil)) .nil)) .nil)) (.cons 17 (.step [false, false, false, false, false, false, false, false, false, false, false, false, false, false, false, false, false, false, false, false, true] (.cons 11 (.step [] (.cons 21 (.step [false, false, false, false, false, false, false, false, false, false, false, false, false, false, false, false, false, false, false, false, false, false, false, true, true] (.cons 25 (.last []) .nil)) .nil)) .nil)) .nil))) (.cons 17 (.step [false, false, false, false, false, false, false, false, false, false, false, false, false, false, false, false, false, false, false, false, true] (.cons 2 (.step [] (.cons 11 (.step [] (.cons 21 (.step [false, false, false, false, false, false, false, false, false, false, false, false, false, false, false, false, false, false, false, false, false, false, false, true, true] (.cons 25 (.last []) .nil)) .nil)) .nil)) .nil)) .nil))) (.cons 17 (.step [false, false, false, false, false, false, false, false, false, false, false, false, false, false, false, false, false, false, false, false, true] (.cons 2 (.step [] (.cons 8 (.step [false, false, false, false, false, false, false, false, false, false, true] (.cons 11 (.step [] (.cons 21 (.step [false, false, false, false, false, false, false, false, false, false, false, false, false, false, false, false, false, false, false, false, false, false, false, true, true] (.cons 25 (.last []) .nil)) .nil)) .nil)) .nil)) (.cons 8 (.step [false, false, false, false, false, false, false, false, false, false, true] (.cons 2 (.step [] (.cons 11 (.step [] (.cons 21 (.step [false, false, false, false, false, false, false, false, false, false, false, false, false, false, false, false, false, false, false, false, false, false, false, true, true] (.cons 25 (.last []) .nil)) .nil)) .nil)) .nil)) .nil))) .nil)))) (fun y => ∃ q : CW [], y = q.1) (by kernel_rfl) (by kernel_rfl) (by kernel_rfl) (fun _ _ _ _ _ _ _ h => h) ⟨⟨_, HF.out⟩, rfl⟩ ?_
  simp only [wpPw, wpBw, selF, and_true]
  generalize W3.drew = V34 at *
  repeat (go_big_quiet_step (fail))
  refine wpQuiet_nil ?_
  refine ⟨?_, ?_, ?_⟩
  · refine wpOp_step rfl (fun K hK => ?_)
    rw [if_pos (by rfl)]
    have HE0 := Lib.hid HM.out.size
    refine wpOm_bs0 HM rfl 127 rfl ?_
    intro V35 hM
    (try simp only [List.cons_append, List.nil_append, List.set_cons_succ, List.set_cons_zero, Nat.reduceAdd] at hM)
    have HOv : Hid (V35.ownsRow W3.heap.size 3 1 _ 0 []) := Lib.hid (owns_zero (hM.out.hb 4 _ _ _ rfl) HE0.out)
    replace HM := Lib.hid (hM.out.sub (L2 := [(R, C', 74), (H, D, 72), (w.heap.size, #[.int .i64 cl, .int .i64 2, .int .i64 nN], 69), (V1.heap.size, #[.int .i64 hdl, .int .i64 0], 3)]) (fun i e hi => by match i, hi with | 0, hi => exact hi | 1, hi => exact hi | 2, hi => exact hi | 3, hi => exact hi | i + 4, hi => simp at hi))
    clear hM
    refine hK _ _ ⟨(fun y => ∃ q : CW [], y = q.1), ⟨⟨_, (alln _)⟩, rfl⟩, fun _ h => h, ?_⟩
    clear hK K
    (try simp only [Act.put, List.setIfInBounds_toArray, List.set_cons_succ, List.set_cons_zero])
    refine wpQuiet_nil ?_
    refine ⟨?_, ?_⟩
    · refine wpOp_step rfl (fun K hK => ?_)
      rw [if_pos (by rfl)]
      refine wpOm_ldc HM 30 (.tmp 132) rfl 133 rfl lv30 1 (c * 5) rfl rfl _ HSL.out ?_
      refine hK _ _ ⟨(fun y => ∃ q : CW [], y = q.1), ⟨⟨_, (alln _)⟩, rfl⟩, fun _ h => h, ?_⟩
      clear hK K
      (try simp only [Act.put, List.setIfInBounds_toArray, List.set_cons_succ, List.set_cons_zero])
      repeat (go_big_quiet_step (fail))
      refine wpQuiet_nil ?_
      refine ⟨?_, ?_⟩
      · refine wpOp_step rfl (fun K hK => ?_)
        rw [if_pos (by rfl)]
        refine wpO_catI (.tmp 127) (.tmp 135) rfl 136 rfl W3.heap.size _ 0 [] rfl HOv.out HM.out.size g1 0 k cap1 rfl ((hs c).take k) (by rw [List.length_take, HLL1.out]; omega) (fun j u hj => by
          rw [List.getElem?_take] at hj
          split at hj
          · rw [Nat.zero_add]
            exact (World.cell?_of_block ((HM.out.old g1 HGW1I.out.1 HGW1I.out.2).trans HGC1I.out)).trans (HCH.out _ u hj)
          · cases hj) (by omega) ?_
        intro V36 v1I ho1 hgr
        replace HM := Lib.hid (HM.out.grow hgr (fun g hg => ⟨.inr (owns_ge HOv.out g hg).1, fun ho => by have := (owns_ge HOv.out g hg).1; have := HL0.out g ho; omega⟩))
        replace HOv := Lib.hid ho1
        clear ho1 hgr
        refine hK _ _ ⟨(fun y => ∃ q : CW [], y = q.1), ⟨⟨_, (alln _)⟩, rfl⟩, fun _ h => h, ?_⟩
        clear hK K
        (try simp only [Act.put, List.setIfInBounds_toArray, List.set_cons_succ, List.set_cons_zero])
        refine wpQuiet_nil ?_
        refine wpOp_step rfl (fun K hK => ?_)
        rw [if_pos (by rfl)]
        refine wpOm_ldc HM 30 (.tmp 141) rfl 142 rfl lv30 1 (c * 5) rfl rfl _ HSL.out ?_
        refine hK _ _ ⟨(fun y => ∃ q : CW [], y = q.1), ⟨⟨_, (alln _)⟩, rfl⟩, fun _ h => h, ?_⟩
        clear hK K
        (try simp only [Act.put, List.setIfInBounds_toArray, List.set_cons_succ, List.set_cons_zero])
        repeat (go_big_quiet_step (fail))
        refine wpQuiet_nil ?_
        refine wpOp_step rfl (fun K hK => ?_)
        rw [if_pos (by rfl)]
        refine wpO_catI (.tmp 136) (.tmp 145) rfl 146 rfl W3.heap.size _ (0 + k) _ rfl HOv.out HM.out.size g1 p1 (n - (k + 1)) (cap1 - (k + 1)) HP1.out ((hs c).drop (k + 1)) (by rw [List.length_drop, HLL1.out]) (fun j u hj => by
          rcases HQ1.out with hq | hq
          · have := (List.getElem?_eq_some_iff.1 hj).1
            rw [List.length_drop, HLL1.out] at this
            omega
          · rw [List.getElem?_drop] at hj
            rw [hq]
            exact (World.cell?_of_block ((HM.out.old g1 HGW1I.out.1 HGW1I.out.2).trans HGC1I.out)).trans (HCH.out _ u hj)) (by omega) ?_
        intro V37 v2I ho1 hgr
        replace HM := Lib.hid (HM.out.grow hgr (fun g hg => ⟨.inr (owns_ge HOv.out g hg).1, fun ho => by have := (owns_ge HOv.out g hg).1; have := HL0.out g ho; omega⟩))
        obtain ⟨va, vn, vc, rfl⟩ := ownsRow_form ho1
        have HO2 : Hid (V37.ownsRow W3.heap.size 3 1 (.slice va vn vc) ((hs c).eraseIdx k).length (((hs c).eraseIdx k).map (Value.int .i64))) := Lib.hid (by
          have h := ho1
          rw [List.nil_append, ← List.map_append, erase_take] at h
          rw [show ((hs c).eraseIdx k).length = 0 + k + (n - (k + 1)) by rw [List.length_eraseIdx, HLL1.out, if_pos hk]; omega]
          exact h)
        clear ho1 hgr
        refine hK _ _ ⟨(fun y => ∃ q : CW [], y = q.1), ⟨⟨_, (alln _)⟩, rfl⟩, fun _ h => h, ?_⟩
        clear hK K
        (try simp only [Act.put, List.setIfInBounds_toArray, List.set_cons_succ, List.set_cons_zero])
        repeat (go_big_quiet_step (fail))
        refine wpQuiet_nil ?_
        refine wpOp_step rfl (fun K hK => ?_)
        rw [if_pos (by rfl)]
        refine wpOm_stS HM 30 (.tmp 149) (.tmp 146) rfl rfl Try.sizeOf30 1 (c * 5) rfl va vn vc rfl rfl (by rw [HD.out.size]; omega) ?_
        intro V38 hoth hsz hM
        (try simp only [List.cons_append, List.nil_append, List.set_cons_succ, List.set_cons_zero, Nat.reduceAdd] at hM)
        replace HM := hM
        have HO3 := Lib.hid (ownsRow_oth (W' := V38) HO2.out (fun b hb _ => hoth b (by have h1 := (owns_ge HO2.out b hb).1; have h2 := HHLI.out; omega)))
        clear hM hoth hsz
        refine hK _ _ ⟨(fun y => ∃ q : CW [], y = q.1), ⟨⟨_, (alln _)⟩, rfl⟩, fun _ h => h, ?_⟩
        clear hK K
        (try simp only [Act.put, List.setIfInBounds_toArray, List.set_cons_succ, List.set_cons_zero])
        refine wpQuiet_nil ?_
        refine NoPanic.normal ?_
        exact HCONT _ _ _ _ _ _ _ _ _ _ _ _ _ _ _ _ _ _ _ _ _ _ _ _ _ _ _ _ _ HM HO3
      · refine wpOp_step rfl (fun K hK => ?_)
        rw [if_pos (by rfl)]
        refine wpOm_ldc HM 30 (.tmp 141) rfl 142 rfl lv30 1 (c * 5) rfl rfl _ HSL.out ?_
        refine hK _ _ ⟨(fun y => ∃ q : CW [], y = q.1), ⟨⟨_, (alln _)⟩, rfl⟩, fun _ h => h, ?_⟩
        clear hK K
        (try simp only [Act.put, List.setIfInBounds_toArray, List.set_cons_succ, List.set_cons_zero])
        repeat (go_big_quiet_step (fail))
        refine wpQuiet_nil ?_
        refine wpOp_step rfl (fun K hK => ?_)
        rw [if_pos (by rfl)]
        refine wpO_catI (.tmp 127) (.tmp 135) rfl 136 rfl W3.heap.size _ 0 [] rfl HOv.out HM.out.size g1 0 k cap1 rfl ((hs c).take k) (by rw [List.length_take, HLL1.out]; omega) (fun j u hj => by
          rw [List.getElem?_take] at hj
          split at hj
          · rw [Nat.zero_add]
            exact (World.cell?_of_block ((HM.out.old g1 HGW1I.out.1 HGW1I.out.2).trans HGC1I.out)).trans (HCH.out _ u hj)
          · cases hj) (by omega) ?_
        intro V39 v1I ho1 hgr
        replace HM := Lib.hid (HM.out.grow hgr (fun g hg => ⟨.inr (owns_ge HOv.out g hg).1, fun ho => by have := (owns_ge HOv.out g hg).1; have := HL0.out g ho; omega⟩))
        replace HOv := Lib.hid ho1
        clear ho1 hgr
        refine hK _ _ ⟨(fun y => ∃ q : CW [], y = q.1), ⟨⟨_, (alln _)⟩, rfl⟩, fun _ h => h, ?_⟩
        clear hK K
        (try simp only [Act.put, List.setIfInBounds_toArray, List.set_cons_succ, List.set_cons_zero])
        refine wpQuiet_nil ?_
        refine wpOp_step rfl (fun K hK => ?_)
        rw [if_pos (by rfl)]
        refine wpO_catI (.tmp 136) (.tmp 145) rfl 146 rfl W3.heap.size _ (0 + k) _ rfl HOv.out HM.out.size g1 p1 (n - (k + 1)) (cap1 - (k + 1)) HP1.out ((hs c).drop (k + 1)) (by rw [List.length_drop, HLL1.out]) (fun j u hj => by
          rcases HQ1.out with hq | hq
          · have := (List.getElem?_eq_some_iff.1 hj).1
            rw [List.length_drop, HLL1.out] at this
            omega
          · rw [List.getElem?_drop] at hj
            rw [hq]
            exact (World.cell?_of_block ((HM.out.old g1 HGW1I.out.1 HGW1I.out.2).trans HGC1I.out)).trans (HCH.out _ u hj)) (by omega) ?_
        intro V40 v2I ho1 hgr
        replace HM := Lib.hid (HM.out.grow hgr (fun g hg => ⟨.inr (owns_ge HOv.out g hg).1, fun ho => by have := (owns_ge HOv.out g hg).1; have := HL0.out g ho; omega⟩))
        obtain ⟨va, vn, vc, rfl⟩ := ownsRow_form ho1
        have HO2 : Hid (V40.ownsRow W3.heap.size 3 1 (.slice va vn vc) ((hs c).eraseIdx k).length (((hs c).eraseIdx k).map (Value.int .i64))) := Lib.hid (by
          have h := ho1
          rw [List.nil_append, ← List.map_append, erase_take] at h
          rw [show ((hs c).eraseIdx k).length = 0 + k + (n - (k + 1)) by rw [List.length_eraseIdx, HLL1.out, if_pos hk]; omega]
          exact h)
        clear ho1 hgr
        refine hK _ _ ⟨(fun y => ∃ q : CW [], y = q.1), ⟨⟨_, (alln _)⟩, rfl⟩, fun _ h => h, ?_⟩
        clear hK K
        (try simp only [Act.put, List.setIfInBounds_toArray, List.set_cons_succ, List.set_cons_zero])
        repeat (go_big_quiet_step (fail))
        refine wpQuiet_nil ?_
        refine wpOp_step rfl (fun K hK => ?_)
        rw [if_pos (by rfl)]
        refine wpOm_stS HM 30 (.tmp 149) (.tmp 146) rfl rfl Try.sizeOf30 1 (c * 5) rfl va vn vc rfl rfl (by rw [HD.out.size]; omega) ?_
        intro V41 hoth hsz hM
        (try simp only [List.cons_append, List.nil_append, List.set_cons_succ, List.set_cons_zero, Nat.reduceAdd] at hM)
        replace HM := hM
        have HO3 := Lib.hid (ownsRow_oth (W' := V41) HO2.out (fun b hb _ => hoth b (by have h1 := (owns_ge HO2.out b hb).1; have h2 := HHLI.out; omega)))
        clear hM hoth hsz
        refine hK _ _ ⟨(fun y => ∃ q : CW [], y = q.1), ⟨⟨_, (alln _)⟩, rfl⟩, fun _ h => h, ?_⟩
        clear hK K
        (try simp only [Act.put, List.setIfInBounds_toArray, List.set_cons_succ, List.set_cons_zero])
        refine wpQuiet_nil ?_
        refine NoPanic.normal ?_
        exact HCONT _ _ _ _ _ _ _ _ _ _ _ _ _ _ _ _ _ _ _ _ _ _ _ _ _ _ _ _ _ HM HO3
    · refine wpOp_step rfl (fun K hK => ?_)
      rw [if_pos (by rfl)]
      refine wpOm_ldc HM 30 (.tmp 141) rfl 142 rfl lv30 1 (c * 5) rfl rfl _ HSL.out ?_
      refine hK _ _ ⟨(fun y => ∃ q : CW [], y = q.1), ⟨⟨_, (alln _)⟩, rfl⟩, fun _ h => h, ?_⟩
      clear hK K
      (try simp only [Act.put, List.setIfInBounds_toArray, List.set_cons_succ, List.set_cons_zero])
      repeat (go_big_quiet_step (fail))
      refine wpQuiet_nil ?_
      refine wpOp_step rfl (fun K hK => ?_)
      rw [if_pos (by rfl)]
      refine wpOm_ldc HM 30 (.tmp 132) rfl 133 rfl lv30 1 (c * 5) rfl rfl _ HSL.out ?_
      refine hK _ _ ⟨(fun y => ∃ q : CW [], y = q.1), ⟨⟨_, (alln _)⟩, rfl⟩, fun _ h => h, ?_⟩
      clear hK K
      (try simp only [Act.put, List.setIfInBounds_toArray, List.set_cons_succ, List.set_cons_zero])
      repeat (go_big_quiet_step (fail))
      refine wpQuiet_nil ?_
      refine wpOp_step rfl (fun K hK => ?_)
      rw [if_pos (by rfl)]
      refine wpO_catI (.tmp 127) (.tmp 135) rfl 136 rfl W3.heap.size _ 0 [] rfl HOv.out HM.out.size g1 0 k cap1 rfl ((hs c).take k) (by rw [List.length_take, HLL1.out]; omega) (fun j u hj => by
        rw [List.getElem?_take] at hj
        split at hj
        · rw [Nat.zero_add]
          exact (World.cell?_of_block ((HM.out.old g1 HGW1I.out.1 HGW1I.out.2).trans HGC1I.out)).trans (HCH.out _ u hj)
        · cases hj) (by omega) ?_
      intro V42 v1I ho1 hgr
      replace HM := Lib.hid (HM.out.grow hgr (fun g hg => ⟨.inr (owns_ge HOv.out g hg).1, fun ho => by have := (owns_ge HOv.out g hg).1; have := HL0.out g ho; omega⟩))
      replace HOv := Lib.hid ho1
      clear ho1 hgr
      refine hK _ _ ⟨(fun y => ∃ q : CW [], y = q.1), ⟨⟨_, (alln _)⟩, rfl⟩, fun _ h => h, ?_⟩
      clear hK K
      (try simp only [Act.put, List.setIfInBounds_toArray, List.set_cons_succ, List.set_cons_zero])
      refine wpQuiet_nil ?_
      refine wpOp_step rfl (fun K hK => ?_)
      rw [if_pos (by rfl)]
      refine wpO_catI (.tmp 136) (.tmp 145) rfl 146 rfl W3.heap.size _ (0 + k) _ rfl HOv.out HM.out.size g1 p1 (n - (k + 1)) (cap1 - (k + 1)) HP1.out ((hs c).drop (k + 1)) (by rw [List.length_drop, HLL1.out]) (fun j u hj => by
        rcases HQ1.out with hq | hq
        · have := (List.getElem?_eq_some_iff.1 hj).1
          rw [List.length_drop, HLL1.out] at this
          omega
        · rw [List.getElem?_drop] at hj
          rw [hq]
          exact (World.cell?_of_block ((HM.out.old g1 HGW1I.out.1 HGW1I.out.2).trans HGC1I.out)).trans (HCH.out _ u hj)) (by omega) ?_
      intro V43 v2I ho1 hgr
      replace HM := Lib.hid (HM.out.grow hgr (fun g hg => ⟨.inr (owns_ge HOv.out g hg).1, fun ho => by have := (owns_ge HOv.out g hg).1; have := HL0.out g ho; omega⟩))
      obtain ⟨va, vn, vc, rfl⟩ := ownsRow_form ho1
      have HO2 : Hid (V43.ownsRow W3.heap.size 3 1 (.slice va vn vc) ((hs c).eraseIdx k).length (((hs c).eraseIdx k).map (Value.int .i64))) := Lib.hid (by
        have h := ho1
        rw [List.nil_append, ← List.map_append, erase_take] at h
        rw [show ((hs c).eraseIdx k).length = 0 + k + (n - (k + 1)) by rw [List.length_eraseIdx, HLL1.out, if_pos hk]; omega]
        exact h)
      clear ho1 hgr
      refine hK _ _ ⟨(fun y => ∃ q : CW [], y = q.1), ⟨⟨_, (alln _)⟩, rfl⟩, fun _ h => h, ?_⟩
      clear hK K
      (try simp only [Act.put, List.setIfInBounds_toArray, List.set_cons_succ, List.set_cons_zero])
      repeat (go_big_quiet_step (fail))
      refine wpQuiet_nil ?_
      refine wpOp_step rfl (fun K hK => ?_)
      rw [if_pos (by rfl)]
      refine wpOm_stS HM 30 (.tmp 149) (.tmp 146) rfl rfl Try.sizeOf30 1 (c * 5) rfl va vn vc rfl rfl (by rw [HD.out.size]; omega) ?_
      intro V44 hoth hsz hM
      (try simp only [List.cons_append, List.nil_append, List.set_cons_succ, List.set_cons_zero, Nat.reduceAdd] at hM)
      replace HM := hM
      have HO3 := Lib.hid (ownsRow_oth (W' := V44) HO2.out (fun b hb _ => hoth b (by have h1 := (owns_ge HO2.out b hb).1; have h2 := HHLI.out; omega)))
      clear hM hoth hsz
      refine hK _ _ ⟨(fun y => ∃ q : CW [], y = q.1), ⟨⟨_, (alln _)⟩, rfl⟩, fun _ h => h, ?_⟩
      clear hK K
      (try simp only [Act.put, List.setIfInBounds_toArray, List.set_cons_succ, List.set_cons_zero])
      refine wpQuiet_nil ?_
      refine NoPanic.normal ?_
      exact HCONT _ _ _ _ _ _ _ _ _ _ _ _ _ _ _ _ _ _ _ _ _ _ _ _ _ _ _ _ _ HM HO3
  · refine wpOp_step rfl (fun K hK => ?_)
    rw [if_pos (by rfl)]
    refine wpOm_ldc HM 30 (.tmp 132) rfl 133 rfl lv30 1 (c * 5) rfl rfl _ HSL.out ?_
    refine hK _ _ ⟨(fun y => ∃ q : CW [], y = q.1), ⟨⟨_, (alln _)⟩, rfl⟩, fun _ h => h, ?_⟩
    clear hK K
    (try simp only [Act.put, List.setIfInBounds_toArray, List.set_cons_succ, List.set_cons_zero])
    repeat (go_big_quiet_step (fail))
    refine wpQuiet_nil ?_
    refine ⟨?_, ?_⟩
    · refine wpOp_step rfl (fun K hK => ?_)
      rw [if_pos (by rfl)]
      have HE0 := Lib.hid HM.out.size
      refine wpOm_bs0 HM rfl 127 rfl ?_
      intro V45 hM
      (try simp only [List.cons_append, List.nil_append, List.set_cons_succ, List.set_cons_zero, Nat.reduceAdd] at hM)
      have HOv : Hid (V45.ownsRow W3.heap.size 3 1 _ 0 []) := Lib.hid (owns_zero (hM.out.hb 4 _ _ _ rfl) HE0.out)
      replace HM := Lib.hid (hM.out.sub (L2 := [(R, C', 74), (H, D, 72), (w.heap.size, #[.int .i64 cl, .int .i64 2, .int .i64 nN], 69), (V1.heap.size, #[.int .i64 hdl, .int .i64 0], 3)]) (fun i e hi => by match i, hi with | 0, hi => exact hi | 1, hi => exact hi | 2, hi => exact hi | 3, hi => exact hi | i + 4, hi => simp at hi))
      clear hM
      refine hK _ _ ⟨(fun y => ∃ q : CW [], y = q.1), ⟨⟨_, (alln _)⟩, rfl⟩, fun _ h => h, ?_⟩
      clear hK K
      (try simp only [Act.put, List.setIfInBounds_toArray, List.set_cons_succ, List.set_cons_zero])
      refine wpQuiet_nil ?_
      refine ⟨?_, ?_⟩
      · refine wpOp_step rfl (fun K hK => ?_)
        rw [if_pos (by rfl)]
        refine wpO_catI (.tmp 127) (.tmp 135) rfl 136 rfl W3.heap.size _ 0 [] rfl HOv.out HM.out.size g1 0 k cap1 rfl ((hs c).take k) (by rw [List.length_take, HLL1.out]; omega) (fun j u hj => by
          rw [List.getElem?_take] at hj
          split at hj
          · rw [Nat.zero_add]
            exact (World.cell?_of_block ((HM.out.old g1 HGW1I.out.1 HGW1I.out.2).trans HGC1I.out)).trans (HCH.out _ u hj)
          · cases hj) (by omega) ?_
        intro V46 v1I ho1 hgr
        replace HM := Lib.hid (HM.out.grow hgr (fun g hg => ⟨.inr (owns_ge HOv.out g hg).1, fun ho => by have := (owns_ge HOv.out g hg).1; have := HL0.out g ho; omega⟩))
        replace HOv := Lib.hid ho1
        clear ho1 hgr
        refine hK _ _ ⟨(fun y => ∃ q : CW [], y = q.1), ⟨⟨_, (alln _)⟩, rfl⟩, fun _ h => h, ?_⟩
        clear hK K
        (try simp only [Act.put, List.setIfInBounds_toArray, List.set_cons_succ, List.set_cons_zero])
        refine wpQuiet_nil ?_
        refine wpOp_step rfl (fun K hK => ?_)
        rw [if_pos (by rfl)]
        refine wpOm_ldc HM 30 (.tmp 141) rfl 142 rfl lv30 1 (c * 5) rfl rfl _ HSL.out ?_
        refine hK _ _ ⟨(fun y => ∃ q : CW [], y = q.1), ⟨⟨_, (alln _)⟩, rfl⟩, fun _ h => h, ?_⟩
        clear hK K
        (try simp only [Act.put, List.setIfInBounds_toArray, List.set_cons_succ, List.set_cons_zero])
        repeat (go_big_quiet_step (fail))
        refine wpQuiet_nil ?_
        refine wpOp_step rfl (fun K hK => ?_)
        rw [if_pos (by rfl)]
        refine wpO_catI (.tmp 136) (.tmp 145) rfl 146 rfl W3.heap.size _ (0 + k) _ rfl HOv.out HM.out.size g1 p1 (n - (k + 1)) (cap1 - (k + 1)) HP1.out ((hs c).drop (k + 1)) (by rw [List.length_drop, HLL1.out]) (fun j u hj => by
          rcases HQ1.out with hq | hq
          · have := (List.getElem?_eq_some_iff.1 hj).1
            rw [List.length_drop, HLL1.out] at this
            omega
          · rw [List.getElem?_drop] at hj
            rw [hq]
            exact (World.cell?_of_block ((HM.out.old g1 HGW1I.out.1 HGW1I.out.2).trans HGC1I.out)).trans (HCH.out _ u hj)) (by omega) ?_
        intro V47 v2I ho1 hgr
        replace HM := Lib.hid (HM.out.grow hgr (fun g hg => ⟨.inr (owns_ge HOv.out g hg).1, fun ho => by have := (owns_ge HOv.out g hg).1; have := HL0.out g ho; omega⟩))
        obtain ⟨va, vn, vc, rfl⟩ := ownsRow_form ho1
        have HO2 : Hid (V47.ownsRow W3.heap.size 3 1 (.slice va vn vc) ((hs c).eraseIdx k).length (((hs c).eraseIdx k).map (Value.int .i64))) := Lib.hid (by
          have h := ho1
          rw [List.nil_append, ← List.map_append, erase_take] at h
          rw [show ((hs c).eraseIdx k).length = 0 + k + (n - (k + 1)) by rw [List.length_eraseIdx, HLL1.out, if_pos hk]; omega]
          exact h)
        clear ho1 hgr
        refine hK _ _ ⟨(fun y => ∃ q : CW [], y = q.1), ⟨⟨_, (alln _)⟩, rfl⟩, fun _ h => h, ?_⟩
        clear hK K
        (try simp only [Act.put, List.setIfInBounds_toArray, List.set_cons_succ, List.set_cons_zero])
        repeat (go_big_quiet_step (fail))
        refine wpQuiet_nil ?_
        refine wpOp_step rfl (fun K hK => ?_)
        rw [if_pos (by rfl)]
        refine wpOm_stS HM 30 (.tmp 149) (.tmp 146) rfl rfl Try.sizeOf30 1 (c * 5) rfl va vn vc rfl rfl (by rw [HD.out.size]; omega) ?_
        intro V48 hoth hsz hM
        (try simp only [List.cons_append, List.nil_append, List.set_cons_succ, List.set_cons_zero, Nat.reduceAdd] at hM)
        replace HM := hM
        have HO3 := Lib.hid (ownsRow_oth (W' := V48) HO2.out (fun b hb _ => hoth b (by have h1 := (owns_ge HO2.out b hb).1; have h2 := HHLI.out; omega)))
        clear hM hoth hsz
        refine hK _ _ ⟨(fun y => ∃ q : CW [], y = q.1), ⟨⟨_, (alln _)⟩, rfl⟩, fun _ h => h, ?_⟩
        clear hK K
        (try simp only [Act.put, List.setIfInBounds_toArray, List.set_cons_succ, List.set_cons_zero])
        refine wpQuiet_nil ?_
        refine NoPanic.normal ?_
        exact HCONT _ _ _ _ _ _ _ _ _ _ _ _ _ _ _ _ _ _ _ _ _ _ _ _ _ _ _ _ _ HM HO3
      · refine wpOp_step rfl (fun K hK => ?_)
        rw [if_pos (by rfl)]
        refine wpOm_ldc HM 30 (.tmp 141) rfl 142 rfl lv30 1 (c * 5) rfl rfl _ HSL.out ?_
        refine hK _ _ ⟨(fun y => ∃ q : CW [], y = q.1), ⟨⟨_, (alln _)⟩, rfl⟩, fun _ h => h, ?_⟩
        clear hK K
        (try simp only [Act.put, List.setIfInBounds_toArray, List.set_cons_succ, List.set_cons_zero])
        repeat (go_big_quiet_step (fail))
        refine wpQuiet_nil ?_
        refine wpOp_step rfl (fun K hK => ?_)
        rw [if_pos (by rfl)]
        refine wpO_catI (.tmp 127) (.tmp 135) rfl 136 rfl W3.heap.size _ 0 [] rfl HOv.out HM.out.size g1 0 k cap1 rfl ((hs c).take k) (by rw [List.length_take, HLL1.out]; omega) (fun j u hj => by
          rw [List.getElem?_take] at hj
          split at hj
          · rw [Nat.zero_add]
            exact (World.cell?_of_block ((HM.out.old g1 HGW1I.out.1 HGW1I.out.2).trans HGC1I.out)).trans (HCH.out _ u hj)
          · cases hj) (by omega) ?_
        intro V49 v1I ho1 hgr
        replace HM := Lib.hid (HM.out.grow hgr (fun g hg => ⟨.inr (owns_ge HOv.out g hg).1, fun ho => by have := (owns_ge HOv.out g hg).1; have := HL0.out g ho; omega⟩))
        replace HOv := Lib.hid ho1
        clear ho1 hgr
        refine hK _ _ ⟨(fun y => ∃ q : CW [], y = q.1), ⟨⟨_, (alln _)⟩, rfl⟩, fun _ h => h, ?_⟩
        clear hK K
        (try simp only [Act.put, List.setIfInBounds_toArray, List.set_cons_succ, List.set_cons_zero])
        refine wpQuiet_nil ?_
        refine wpOp_step rfl (fun K hK => ?_)
        rw [if_pos (by rfl)]
        refine wpO_catI (.tmp 136) (.tmp 145) rfl 146 rfl W3.heap.size _ (0 + k) _ rfl HOv.out HM.out.size g1 p1 (n - (k + 1)) (cap1 - (k + 1)) HP1.out ((hs c).drop (k + 1)) (by rw [List.length_drop, HLL1.out]) (fun j u hj => by
          rcases HQ1.out with hq | hq
          · have := (List.getElem?_eq_some_iff.1 hj).1
            rw [List.length_drop, HLL1.out] at this
            omega
          · rw [List.getElem?_drop] at hj
            rw [hq]
            exact (World.cell?_of_block ((HM.out.old g1 HGW1I.out.1 HGW1I.out.2).trans HGC1I.out)).trans (HCH.out _ u hj)) (by omega) ?_
        intro V50 v2I ho1 hgr
        replace HM := Lib.hid (HM.out.grow hgr (fun g hg => ⟨.inr (owns_ge HOv.out g hg).1, fun ho => by have := (owns_ge HOv.out g hg).1; have := HL0.out g ho; omega⟩))
        obtain ⟨va, vn, vc, rfl⟩ := ownsRow_form ho1
        have HO2 : Hid (V50.ownsRow W3.heap.size 3 1 (.slice va vn vc) ((hs c).eraseIdx k).length (((hs c).eraseIdx k).map (Value.int .i64))) := Lib.hid (by
          have h := ho1
          rw [List.nil_append, ← List.map_append, erase_take] at h
          rw [show ((hs c).eraseIdx k).length = 0 + k + (n - (k + 1)) by rw [List.length_eraseIdx, HLL1.out, if_pos hk]; omega]
          exact h)
        clear ho1 hgr
        refine hK _ _ ⟨(fun y => ∃ q : CW [], y = q.1), ⟨⟨_, (alln _)⟩, rfl⟩, fun _ h => h, ?_⟩
        clear hK K
        (try simp only [Act.put, List.setIfInBounds_toArray, List.set_cons_succ, List.set_cons_zero])
        repeat (go_big_quiet_step (fail))
        refine wpQuiet_nil ?_
        refine wpOp_step rfl (fun K hK => ?_)
        rw [if_pos (by rfl)]
        refine wpOm_stS HM 30 (.tmp 149) (.tmp 146) rfl rfl Try.sizeOf30 1 (c * 5) rfl va vn vc rfl rfl (by rw [HD.out.size]; omega) ?_
        intro V51 hoth hsz hM
        (try simp only [List.cons_append, List.nil_append, List.set_cons_succ, List.set_cons_zero, Nat.reduceAdd] at hM)
        replace HM := hM
        have HO3 := Lib.hid (ownsRow_oth (W' := V51) HO2.out (fun b hb _ => hoth b (by have h1 := (owns_ge HO2.out b hb).1; have h2 := HHLI.out; omega)))
        clear hM hoth hsz
        refine hK _ _ ⟨(fun y => ∃ q : CW [], y = q.1), ⟨⟨_, (alln _)⟩, rfl⟩, fun _ h => h, ?_⟩
        clear hK K
        (try simp only [Act.put, List.setIfInBounds_toArray, List.set_cons_succ, List.set_cons_zero])
        refine wpQuiet_nil ?_
        refine NoPanic.normal ?_
        exact HCONT _ _ _ _ _ _ _ _ _ _ _ _ _ _ _ _ _ _ _ _ _ _ _ _ _ _ _ _ _ HM HO3
    · refine wpOp_step rfl (fun K hK => ?_)
      rw [if_pos (by rfl)]
      refine wpOm_ldc HM 30 (.tmp 141) rfl 142 rfl lv30 1 (c * 5) rfl rfl _ HSL.out ?_
      refine hK _ _ ⟨(fun y => ∃ q : CW [], y = q.1), ⟨⟨_, (alln _)⟩, rfl⟩, fun _ h => h, ?_⟩
      clear hK K
      (try simp only [Act.put, List.setIfInBounds_toArray, List.set_cons_succ, List.set_cons_zero])
      repeat (go_big_quiet_step (fail))
      refine wpQuiet_nil ?_
      refine wpOp_step rfl (fun K hK => ?_)
      rw [if_pos (by rfl)]
      have HE0 := Lib.hid HM.out.size
      refine wpOm_bs0 HM rfl 127 rfl ?_
      intro V52 hM
      (try simp only [List.cons_append, List.nil_append, List.set_cons_succ, List.set_cons_zero, Nat.reduceAdd] at hM)
      have HOv : Hid (V52.ownsRow W3.heap.size 3 1 _ 0 []) := Lib.hid (owns_zero (hM.out.hb 4 _ _ _ rfl) HE0.out)
      replace HM := Lib.hid (hM.out.sub (L2 := [(R, C', 74), (H, D, 72), (w.heap.size, #[.int .i64 cl, .int .i64 2, .int .i64 nN], 69), (V1.heap.size, #[.int .i64 hdl, .int .i64 0], 3)]) (fun i e hi => by match i, hi with | 0, hi => exact hi | 1, hi => exact hi | 2, hi => exact hi | 3, hi => exact hi | i + 4, hi => simp at hi))
      clear hM
      refine hK _ _ ⟨(fun y => ∃ q : CW [], y = q.1), ⟨⟨_, (alln _)⟩, rfl⟩, fun _ h => h, ?_⟩
      clear hK K
      (try simp only [Act.put, List.setIfInBounds_toArray, List.set_cons_succ, List.set_cons_zero])
      refine wpQuiet_nil ?_
      refine wpOp_step rfl (fun K hK => ?_)
      rw [if_pos (by rfl)]
      refine wpO_catI (.tmp 127) (.tmp 135) rfl 136 rfl W3.heap.size _ 0 [] rfl HOv.out HM.out.size g1 0 k cap1 rfl ((hs c).take k) (by rw [List.length_take, HLL1.out]; omega) (fun j u hj => by
        rw [List.getElem?_take] at hj
        split at hj
        · rw [Nat.zero_add]
          exact (World.cell?_of_block ((HM.out.old g1 HGW1I.out.1 HGW1I.out.2).trans HGC1I.out)).trans (HCH.out _ u hj)
        · cases hj) (by omega) ?_
      intro V53 v1I ho1 hgr
      replace HM := Lib.hid (HM.out.grow hgr (fun g hg => ⟨.inr (owns_ge HOv.out g hg).1, fun ho => by have := (owns_ge HOv.out g hg).1; have := HL0.out g ho; omega⟩))
      replace HOv := Lib.hid ho1
      clear ho1 hgr
      refine hK _ _ ⟨(fun y => ∃ q : CW [], y = q.1), ⟨⟨_, (alln _)⟩, rfl⟩, fun _ h => h, ?_⟩
      clear hK K
      (try simp only [Act.put, List.setIfInBounds_toArray, List.set_cons_succ, List.set_cons_zero])
      refine wpQuiet_nil ?_
      refine wpOp_step rfl (fun K hK => ?_)
      rw [if_pos (by rfl)]
      refine wpO_catI (.tmp 136) (.tmp 145) rfl 146 rfl W3.heap.size _ (0 + k) _ rfl HOv.out HM.out.size g1 p1 (n - (k + 1)) (cap1 - (k + 1)) HP1.out ((hs c).drop (k + 1)) (by rw [List.length_drop, HLL1.out]) (fun j u hj => by
        rcases HQ1.out with hq | hq
        · have := (List.getElem?_eq_some_iff.1 hj).1
          rw [List.length_drop, HLL1.out] at this
          omega
        · rw [List.getElem?_drop] at hj
          rw [hq]
          exact (World.cell?_of_block ((HM.out.old g1 HGW1I.out.1 HGW1I.out.2).trans HGC1I.out)).trans (HCH.out _ u hj)) (by omega) ?_
      intro V54 v2I ho1 hgr
      replace HM := Lib.hid (HM.out.grow hgr (fun g hg => ⟨.inr (owns_ge HOv.out g hg).1, fun ho => by have := (owns_ge HOv.out g hg).1; have := HL0.out g ho; omega⟩))
      obtain ⟨va, vn, vc, rfl⟩ := ownsRow_form ho1
      have HO2 : Hid (V54.ownsRow W3.heap.size 3 1 (.slice va vn vc) ((hs c).eraseIdx k).length (((hs c).eraseIdx k).map (Value.int .i64))) := Lib.hid (by
        have h := ho1
        rw [List.nil_append, ← List.map_append, erase_take] at h
        rw [show ((hs c).eraseIdx k).length = 0 + k + (n - (k + 1)) by rw [List.length_eraseIdx, HLL1.out, if_pos hk]; omega]
        exact h)
      clear ho1 hgr
      refine hK _ _ ⟨(fun y => ∃ q : CW [], y = q.1), ⟨⟨_, (alln _)⟩, rfl⟩, fun _ h => h, ?_⟩
      clear hK K
      (try simp only [Act.put, List.setIfInBounds_toArray, List.set_cons_succ, List.set_cons_zero])
      repeat (go_big_quiet_step (fail))
      refine wpQuiet_nil ?_
      refine wpOp_step rfl (fun K hK => ?_)
      rw [if_pos (by rfl)]
      refine wpOm_stS HM 30 (.tmp 149) (.tmp 146) rfl rfl Try.sizeOf30 1 (c * 5) rfl va vn vc rfl rfl (by rw [HD.out.size]; omega) ?_
      intro V55 hoth hsz hM
      (try simp only [List.cons_append, List.nil_append, List.set_cons_succ, List.set_cons_zero, Nat.reduceAdd] at hM)
      replace HM := hM
      have HO3 := Lib.hid (ownsRow_oth (W' := V55) HO2.out (fun b hb _ => hoth b (by have h1 := (owns_ge HO2.out b hb).1; have h2 := HHLI.out; omega)))
      clear hM hoth hsz
      refine hK _ _ ⟨(fun y => ∃ q : CW [], y = q.1), ⟨⟨_, (alln _)⟩, rfl⟩, fun _ h => h, ?_⟩
      clear hK K
      (try simp only [Act.put, List.setIfInBounds_toArray, List.set_cons_succ, List.set_cons_zero])
      refine wpQuiet_nil ?_
      refine NoPanic.normal ?_
      exact HCONT _ _ _ _ _ _ _ _ _ _ _ _ _ _ _ _ _ _ _ _ _ _ _ _ _ _ _ _ _ HM HO3
  · refine wpOp_step rfl (fun K hK => ?_)
    rw [if_pos (by rfl)]
    refine wpOm_ldc HM 30 (.tmp 141) rfl 142 rfl lv30 1 (c * 5) rfl rfl _ HSL.out ?_
    refine hK _ _ ⟨(fun y => ∃ q : CW [], y = q.1), ⟨⟨_, (alln _)⟩, rfl⟩, fun _ h => h, ?_⟩
    clear hK K
    (try simp only [Act.put, List.setIfInBounds_toArray, List.set_cons_succ, List.set_cons_zero])
    repeat (go_big_quiet_step (fail))
    refine wpQuiet_nil ?_
    refine ⟨?_, ?_⟩
    · refine wpOp_step rfl (fun K hK => ?_)
      rw [if_pos (by rfl)]
      have HE0 := Lib.hid HM.out.size
      refine wpOm_bs0 HM rfl 127 rfl ?_
      intro V56 hM
      (try simp only [List.cons_append, List.nil_append, List.set_cons_succ, List.set_cons_zero, Nat.reduceAdd] at hM)
      have HOv : Hid (V56.ownsRow W3.heap.size 3 1 _ 0 []) := Lib.hid (owns_zero (hM.out.hb 4 _ _ _ rfl) HE0.out)
      replace HM := Lib.hid (hM.out.sub (L2 := [(R, C', 74), (H, D, 72), (w.heap.size, #[.int .i64 cl, .int .i64 2, .int .i64 nN], 69), (V1.heap.size, #[.int .i64 hdl, .int .i64 0], 3)]) (fun i e hi => by match i, hi with | 0, hi => exact hi | 1, hi => exact hi | 2, hi => exact hi | 3, hi => exact hi | i + 4, hi => simp at hi))
      clear hM
      refine hK _ _ ⟨(fun y => ∃ q : CW [], y = q.1), ⟨⟨_, (alln _)⟩, rfl⟩, fun _ h => h, ?_⟩
      clear hK K
      (try simp only [Act.put, List.setIfInBounds_toArray, List.set_cons_succ, List.set_cons_zero])
      refine wpQuiet_nil ?_
      refine wpOp_step rfl (fun K hK => ?_)
      rw [if_pos (by rfl)]
      refine wpOm_ldc HM 30 (.tmp 132) rfl 133 rfl lv30 1 (c * 5) rfl rfl _ HSL.out ?_
      refine hK _ _ ⟨(fun y => ∃ q : CW [], y = q.1), ⟨⟨_, (alln _)⟩, rfl⟩, fun _ h => h, ?_⟩
      clear hK K
      (try simp only [Act.put, List.setIfInBounds_toArray, List.set_cons_succ, List.set_cons_zero])
      repeat (go_big_quiet_step (fail))
      refine wpQuiet_nil ?_
      refine wpOp_step rfl (fun K hK => ?_)
      rw [if_pos (by rfl)]
      refine wpO_catI (.tmp 127) (.tmp 135) rfl 136 rfl W3.heap.size _ 0 [] rfl HOv.out HM.out.size g1 0 k cap1 rfl ((hs c).take k) (by rw [List.length_take, HLL1.out]; omega) (fun j u hj => by
        rw [List.getElem?_take] at hj
        split at hj
        · rw [Nat.zero_add]
          exact (World.cell?_of_block ((HM.out.old g1 HGW1I.out.1 HGW1I.out.2).trans HGC1I.out)).trans (HCH.out _ u hj)
        · cases hj) (by omega) ?_
      intro V57 v1I ho1 hgr
      replace HM := Lib.hid (HM.out.grow hgr (fun g hg => ⟨.inr (owns_ge HOv.out g hg).1, fun ho => by have := (owns_ge HOv.out g hg).1; have := HL0.out g ho; omega⟩))
      replace HOv := Lib.hid ho1
      clear ho1 hgr
      refine hK _ _ ⟨(fun y => ∃ q : CW [], y = q.1), ⟨⟨_, (alln _)⟩, rfl⟩, fun _ h => h, ?_⟩
      clear hK K
      (try simp only [Act.put, List.setIfInBounds_toArray, List.set_cons_succ, List.set_cons_zero])
      refine wpQuiet_nil ?_
      refine wpOp_step rfl (fun K hK => ?_)
      rw [if_pos (by rfl)]
      refine wpO_catI (.tmp 136) (.tmp 145) rfl 146 rfl W3.heap.size _ (0 + k) _ rfl HOv.out HM.out.size g1 p1 (n - (k + 1)) (cap1 - (k + 1)) HP1.out ((hs c).drop (k + 1)) (by rw [List.length_drop, HLL1.out]) (fun j u hj => by
        rcases HQ1.out with hq | hq
        · have := (List.getElem?_eq_some_iff.1 hj).1
          rw [List.length_drop, HLL1.out] at this
          omega
        · rw [List.getElem?_drop] at hj
          rw [hq]
          exact (World.cell?_of_block ((HM.out.old g1 HGW1I.out.1 HGW1I.out.2).trans HGC1I.out)).trans (HCH.out _ u hj)) (by omega) ?_
      intro V58 v2I ho1 hgr
      replace HM := Lib.hid (HM.out.grow hgr (fun g hg => ⟨.inr (owns_ge HOv.out g hg).1, fun ho => by have := (owns_ge HOv.out g hg).1; have := HL0.out g ho; omega⟩))
      obtain ⟨va, vn, vc, rfl⟩ := ownsRow_form ho1
      have HO2 : Hid (V58.ownsRow W3.heap.size 3 1 (.slice va vn vc) ((hs c).eraseIdx k).length (((hs c).eraseIdx k).map (Value.int .i64))) := Lib.hid (by
        have h := ho1
        rw [List.nil_append, ← List.map_append, erase_take] at h
        rw [show ((hs c).eraseIdx k).length = 0 + k + (n - (k + 1)) by rw [List.length_eraseIdx, HLL1.out, if_pos hk]; omega]
        exact h)
      clear ho1 hgr
      refine hK _ _ ⟨(fun y => ∃ q : CW [], y = q.1), ⟨⟨_, (alln _)⟩, rfl⟩, fun _ h => h, ?_⟩
      clear hK K
      (try simp only [Act.put, List.setIfInBounds_toArray, List.set_cons_succ, List.set_cons_zero])
      repeat (go_big_quiet_step (fail))
      refine wpQuiet_nil ?_
      refine wpOp_step rfl (fun K hK => ?_)
      rw [if_pos (by rfl)]
      refine wpOm_stS HM 30 (.tmp 149) (.tmp 146) rfl rfl Try.sizeOf30 1 (c * 5) rfl va vn vc rfl rfl (by rw [HD.out.size]; omega) ?_
      intro V59 hoth hsz hM
      (try simp only [List.cons_append, List.nil_append, List.set_cons_succ, List.set_cons_zero, Nat.reduceAdd] at hM)
      replace HM := hM
      have HO3 := Lib.hid (ownsRow_oth (W' := V59) HO2.out (fun b hb _ => hoth b (by have h1 := (owns_ge HO2.out b hb).1; have h2 := HHLI.out; omega)))
      clear hM hoth hsz
      refine hK _ _ ⟨(fun y => ∃ q : CW [], y = q.1), ⟨⟨_, (alln _)⟩, rfl⟩, fun _ h => h, ?_⟩
      clear hK K
      (try simp only [Act.put, List.setIfInBounds_toArray, List.set_cons_succ, List.set_cons_zero])
      refine wpQuiet_nil ?_
      refine NoPanic.normal ?_
      exact HCONT _ _ _ _ _ _ _ _ _ _ _ _ _ _ _ _ _ _ _ _ _ _ _ _ _ _ _ _ _ HM HO3
    · refine wpOp_step rfl (fun K hK => ?_)
      rw [if_pos (by rfl)]
      refine wpOm_ldc HM 30 (.tmp 132) rfl 133 rfl lv30 1 (c * 5) rfl rfl _ HSL.out ?_
      refine hK _ _ ⟨(fun y => ∃ q : CW [], y = q.1), ⟨⟨_, (alln _)⟩, rfl⟩, fun _ h => h, ?_⟩
      clear hK K
      (try simp only [Act.put, List.setIfInBounds_toArray, List.set_cons_succ, List.set_cons_zero])
      repeat (go_big_quiet_step (fail))
      refine wpQuiet_nil ?_
      refine wpOp_step rfl (fun K hK => ?_)
      rw [if_pos (by rfl)]
      have HE0 := Lib.hid HM.out.size
      refine wpOm_bs0 HM rfl 127 rfl ?_
      intro V60 hM
      (try simp only [List.cons_append, List.nil_append, List.set_cons_succ, List.set_cons_zero, Nat.reduceAdd] at hM)
      have HOv : Hid (V60.ownsRow W3.heap.size 3 1 _ 0 []) := Lib.hid (owns_zero (hM.out.hb 4 _ _ _ rfl) HE0.out)
      replace HM := Lib.hid (hM.out.sub (L2 := [(R, C', 74), (H, D, 72), (w.heap.size, #[.int .i64 cl, .int .i64 2, .int .i64 nN], 69), (V1.heap.size, #[.int .i64 hdl, .int .i64 0], 3)]) (fun i e hi => by match i, hi with | 0, hi => exact hi | 1, hi => exact hi | 2, hi => exact hi | 3, hi => exact hi | i + 4, hi => simp at hi))
      clear hM
      refine hK _ _ ⟨(fun y => ∃ q : CW [], y = q.1), ⟨⟨_, (alln _)⟩, rfl⟩, fun _ h => h, ?_⟩
      clear hK K
      (try simp only [Act.put, List.setIfInBounds_toArray, List.set_cons_succ, List.set_cons_zero])
      refine wpQuiet_nil ?_
      refine wpOp_step rfl (fun K hK => ?_)
      rw [if_pos (by rfl)]
      refine wpO_catI (.tmp 127) (.tmp 135) rfl 136 rfl W3.heap.size _ 0 [] rfl HOv.out HM.out.size g1 0 k cap1 rfl ((hs c).take k) (by rw [List.length_take, HLL1.out]; omega) (fun j u hj => by
        rw [List.getElem?_take] at hj
        split at hj
        · rw [Nat.zero_add]
          exact (World.cell?_of_block ((HM.out.old g1 HGW1I.out.1 HGW1I.out.2).trans HGC1I.out)).trans (HCH.out _ u hj)
        · cases hj) (by omega) ?_
      intro V61 v1I ho1 hgr
      replace HM := Lib.hid (HM.out.grow hgr (fun g hg => ⟨.inr (owns_ge HOv.out g hg).1, fun ho => by have := (owns_ge HOv.out g hg).1; have := HL0.out g ho; omega⟩))
      replace HOv := Lib.hid ho1
      clear ho1 hgr
      refine hK _ _ ⟨(fun y => ∃ q : CW [], y = q.1), ⟨⟨_, (alln _)⟩, rfl⟩, fun _ h => h, ?_⟩
      clear hK K
      (try simp only [Act.put, List.setIfInBounds_toArray, List.set_cons_succ, List.set_cons_zero])
      refine wpQuiet_nil ?_
      refine wpOp_step rfl (fun K hK => ?_)
      rw [if_pos (by rfl)]
      refine wpO_catI (.tmp 136) (.tmp 145) rfl 146 rfl W3.heap.size _ (0 + k) _ rfl HOv.out HM.out.size g1 p1 (n - (k + 1)) (cap1 - (k + 1)) HP1.out ((hs c).drop (k + 1)) (by rw [List.length_drop, HLL1.out]) (fun j u hj => by
        rcases HQ1.out with hq | hq
        · have := (List.getElem?_eq_some_iff.1 hj).1
          rw [List.length_drop, HLL1.out] at this
          omega
        · rw [List.getElem?_drop] at hj
          rw [hq]
          exact (World.cell?_of_block ((HM.out.old g1 HGW1I.out.1 HGW1I.out.2).trans HGC1I.out)).trans (HCH.out _ u hj)) (by omega) ?_
      intro V62 v2I ho1 hgr
      replace HM := Lib.hid (HM.out.grow hgr (fun g hg => ⟨.inr (owns_ge HOv.out g hg).1, fun ho => by have := (owns_ge HOv.out g hg).1; have := HL0.out g ho; omega⟩))
      obtain ⟨va, vn, vc, rfl⟩ := ownsRow_form ho1
      have HO2 : Hid (V62.ownsRow W3.heap.size 3 1 (.slice va vn vc) ((hs c).eraseIdx k).length (((hs c).eraseIdx k).map (Value.int .i64))) := Lib.hid (by
        have h := ho1
        rw [List.nil_append, ← List.map_append, erase_take] at h
        rw [show ((hs c).eraseIdx k).length = 0 + k + (n - (k + 1)) by rw [List.length_eraseIdx, HLL1.out, if_pos hk]; omega]
        exact h)
      clear ho1 hgr
      refine hK _ _ ⟨(fun y => ∃ q : CW [], y = q.1), ⟨⟨_, (alln _)⟩, rfl⟩, fun _ h => h, ?_⟩
      clear hK K
      (try simp only [Act.put, List.setIfInBounds_toArray, List.set_cons_succ, List.set_cons_zero])
      repeat (go_big_quiet_step (fail))
      refine wpQuiet_nil ?_
      refine wpOp_step rfl (fun K hK => ?_)
      rw [if_pos (by rfl)]
      refine wpOm_stS HM 30 (.tmp 149) (.tmp 146) rfl rfl Try.sizeOf30 1 (c * 5) rfl va vn vc rfl rfl (by rw [HD.out.size]; omega) ?_
      intro V63 hoth hsz hM
      (try simp only [List.cons_append, List.nil_append, List.set_cons_succ, List.set_cons_zero, Nat.reduceAdd] at hM)
      replace HM := hM
      have HO3 := Lib.hid (ownsRow_oth (W' := V63) HO2.out (fun b hb _ => hoth b (by have h1 := (owns_ge HO2.out b hb).1; have h2 := HHLI.out; omega)))
      clear hM hoth hsz
      refine hK _ _ ⟨(fun y => ∃ q : CW [], y = q.1), ⟨⟨_, (alln _)⟩, rfl⟩, fun _ h => h, ?_⟩
      clear hK K
      (try simp only [Act.put, List.setIfInBounds_toArray, List.set_cons_succ, List.set_cons_zero])
      refine wpQuiet_nil ?_
      refine NoPanic.normal ?_
      exact HCONT _ _ _ _ _ _ _ _ _ _ _ _ _ _ _ _ _ _ _ _ _ _ _ _ _ _ _ _ _ HM HO3
end Go.Proofs.Ytgpdknacnmapiaa
