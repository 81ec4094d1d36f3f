/-
  Parts of a proof, put together: Pm.
-/
import Derived.Test.YtgpdknacnmapiaaZj01
import Derived.Test.YtgpdknacnmapiaaZj02
import Derived.Test.YtgpdknacnmapiaaZj03
import Derived.Test.YtgpdknacnmapiaaZj04
import Derived.Test.YtgpdknacnmapiaaZj05
import Derived.Test.YtgpdknacnmapiaaZj06
import Derived.Test.YtgpdknacnmapiaaZj07
import Derived.Test.YtgpdknacnmapiaaZj08
import Derived.Test.YtgpdknacnmapiaaZj09
import Derived.Test.YtgpdknacnmapiaaZj10
import Derived.Test.YtgpdknacnmapiaaZj11
import Derived.Test.YtgpdknacnmapiaaZj12
import Derived.Test.YtgpdknacnmapiaaZj13
import Derived.Test.YtgpdknacnmapiaaZj14
import Derived.Test.YtgpdknacnmapiaaZj15
import Derived.Test.YtgpdknacnmapiaaZj16
import Derived.Test.YtgpdknacnmapiaaZj17
import Derived.Test.YtgpdknacnmapiaaZj18
import Derived.Test.YtgpdknacnmapiaaZj19
import Derived.Test.YtgpdknacnmapiaaZj20
import Derived.Test.YtgpdknacnmapiaaZj21
import Derived.Test.YtgpdknacnmapiaaZj22
import Derived.Test.YtgpdknacnmapiaaZj23
import Derived.Test.YtgpdknacnmapiaaZj24
import Derived.Test.YtgpdknacnmapiaaZj25
import Derived.Test.YtgpdknacnmapiaaZj26
import Derived.Test.YtgpdknacnmapiaaZj27
namespace Go.Proofs.Ytgpdknacnmapiaa
set_option linter.unusedVariables false
set_option linter.unusedSimpArgs false
open Go.RowKit
open Go
set_option maxHeartbeats 4000000 in
set_option maxRecDepth 100000 in
theorem pick_more (c : Nat) (hc : c < 4) (cl dO nN m : Int) (ecl : (wrap64 (cl.tmod 4 + 4)).tmod 4 = (c : Int)) (hm : 1 ≤ m ∧ m ≤ 4) (R H B : Nat) (w : World) (C D : Array Value) (s : RS) (h : HV) (l : List Int) (hs : Nat → List Int) (ns : Nat → List Bool) (hV : PickV R H B w C D s h l hs ns) (hb : s.b c = true) {f : Fr} {x : Int} {j : Nat} (hT : Live (PH R H h) w (s.m c) c f x) (hU : Live (PH R H h) w (s.h c) c f x) (hl : l.length = 771) (hg : GenOK l) (hI : Inv f j) (hj : j ≤ 800) (hx : 0 ≤ x ∧ x ≤ 4095) (hk : (nextG f x).k ≠ 7) {f4 : Fr} {hdl : Int} (h2 : nextG (nextG f x).f (stY l (nextG f x)) = ⟨f4, 7, 0, 0, [0, hdl]⟩) (hq : h.dd c < 2) (hlen : (hs c).length ≤ 100000 ∧ (ns c).length ≤ 100000) :
    Calls Try.prog 24 #[.pointer (some ⟨R, 0, none⟩), .pointer (some ⟨H, 0, none⟩), .agg #[.int .i64 cl, .int .i64 dO, .int .i64 nN], .int .i64 m] w fun e w' => e = .returned (.bool true) ∧ Picked R H B h w w' (stL l (nextG f x)) (upd hs c (hs c ++ [hdl])) (upd ns c (ns c ++ [h.dd c == 0])) (fun s' h' => s'.b = upd s.b c false ∧ (∀ d, d ≠ c → s'.m d = s.m d ∧ s'.h d = s.h d) ∧ h'.dd = h.dd ∧ ∀ b, PH R H h b → b < w.heap.size → PH R H h' b) := by
  have HWHO : Hid (∀ w, Calls Try.prog 23 #[.int .i64 cl] w fun e w' => e = .returned (.int .i64 c) ∧ w' = w) := Lib.hid (fun w => by
    obtain ⟨S, -, eS, hh⟩ := who_p cl w
    rw [ecl] at eS
    have : S = c := by omega
    rw [this] at hh; exact hh)
  have HV := Lib.hid hV
  have HM := Lib.hid (Mem.startRH hV.run.hb hV.hb hV.ne)
  have HD := Lib.hid hV.hav
  have HBZ := Lib.hid (by have h2 := hV.run.ra.b c hc; rw [hb] at h2; exact h2 : C[35 + c]? = some (.bool true))
  have HT := Lib.hid hT
  have HU := Lib.hid hU
  have HL := Lib.hid hl
  have HGO := Lib.hid hg
  have HIN := Lib.hid hI
  have HX := Lib.hid hx
  have HK := Lib.hid hk
  have HN2 := Lib.hid h2
  have HLN := Lib.hid hlen
  have HDD := Lib.hid (hV.hav.dd c hc)
  obtain ⟨dd, edd⟩ : ∃ dd, h.dd c = dd := ⟨_, rfl⟩
  have HED := Lib.hid edd
  rw [edd] at hq HDD
  have hd1 : decide (dd < 2) = true := by simpa using hq
  obtain ⟨slv, eslv⟩ : ∃ v, h.sl (2 * c) = v := ⟨_, rfl⟩
  obtain ⟨nlv, enlv⟩ : ∃ v, h.sl (2 * c + 1) = v := ⟨_, rfl⟩
  have HSL := Lib.hid (hV.hav.hl c hc)
  have HNL := Lib.hid (hV.hav.nl c hc)
  have HOH := Lib.hid (hV.own.hl c hc)
  have HON := Lib.hid (hV.own.nl c hc)
  rw [eslv] at HSL HOH
  rw [enlv] at HNL HON
  have HES := Lib.hid (And.intro eslv enlv)
  rw [edd]
  clear hV hb ecl hm hT hU hl hg hI hx hk h2 hq edd hlen eslv enlv
  go_enter Try.func24, Try.ntmps24
  go_wp2_with (first
    | (refine wpm_box HM rfl 69 (.tmp 2) rfl _ rfl ?_; intro U1 hM; (try simp only [List.cons_append, List.nil_append, List.set_cons_succ, List.set_cons_zero, Nat.reduceAdd] at hM); replace HM := hM; clear hM)
    | (refine wpm_ldc HM rfl 3 (.tmp 16) rfl lv3 2 0 rfl rfl _ rfl ?_))
  refine (HWHO.out _).mono ?_
  rintro e W1 ⟨rfl, rfl⟩
  have kb := (HM.out.hb 0 _ _ _ rfl).cell (k := 35 + c) HBZ.out
  go_wp2_with fail
  have HLR := HM
  refine (step_end (P := fun b => PH R H h b ∧ ¬ OL _ b) c hc R C s _ (fun b hb => ⟨PH.hP HV.out.run.hb.lt HV.out.hb.lt HV.out.own HM.out.size b hb, HM.out.notOwn hb⟩) (fun b hb => hb.1.1) (HV.out.run.mem HM.out (HM.out.hb 0 _ _ _ rfl)) HL.out HGO.out (HT.out.mem2 HM.out) (HU.out.mem2 HM.out) HIN.out hj HX.out HK.out HN2.out (by simp)).mono ?_
  rintro e W2 ⟨⟨ans, rfl, hIn⟩, C', s', hR2, hM2, hb2, hT2, hU2, hoth⟩
  obtain ⟨ao1, anc, rfl, -, hcells⟩ := hIn
  obtain ⟨ab, aof, rfl, hPab, hc0⟩ := hcells 0 0 rfl
  obtain ⟨ab2, aof2, e12, -, hc1⟩ := hcells 1 _ rfl
  injection e12 with e12
  injection e12 with e13 e14 _
  subst e13 e14
  have HR2 := Lib.hid hR2
  have HT2 := Lib.hid hT2
  have HU2 := Lib.hid hU2
  have HOT := Lib.hid (And.intro hb2 hoth)
  have hM4 := HM.out.upR (i := 0) rfl hM2
  simp only [List.set_cons_zero] at hM4
  replace HM := Lib.hid hM4
  clear hR2 hT2 hU2 hb2 hoth hM2 hM4
  have HC1 := Lib.hid hc1
  have HMT := HM
  replace HM := Lib.hid (HM.out.re.wx (Y := fun b => OL [(R, C', 74), (H, D, 72), (w.heap.size, #[.int .i64 cl, .int .i64 dO, .int .i64 nN], 69)] b ∨ OwnB h b) (fun b hb => .inl hb))
  have HAB : Hid (ab < W2.heap.size ∧ ¬ (OL [(R, C', 74), (H, D, 72), (w.heap.size, #[.int .i64 cl, .int .i64 dO, .int .i64 nN], 69)] ab ∨ OwnB h ab)) := Lib.hid ⟨World.block_lt_of_cell? _ _ hc1, fun e => by
    rcases e with e | ⟨i, hi, e⟩
    · exact hPab.2 (OL.two (H := 0) (D := #[]) (D' := #[]) (t' := 0) e)
    · exact hPab.1.2.2 i hi e⟩
  have HOL : Hid (∀ b, OwnB h b → B ≤ b ∧ b < w.heap.size) := Lib.hid (fun b hb => by obtain ⟨i, hi, e⟩ := hb; exact HV.out.own.lt i hi b e)
  have HOX : Hid (∀ b, B ≤ b → b < w.heap.size → b ≠ R ∧ b ≠ H ∧ b ≠ w.heap.size) := Lib.hid (fun b h1 h2 => by have := HV.out.lo; omega)
  have HO2 : Hid (OwnV B W2 h hs ns) := Lib.hid (HV.out.own.keep (fun b h1 h2 => HMT.out.old b h2 (fun e => by have := HV.out.lo; rcases e with e | e <;> omega)))
  have HB2 : Hid (B ≤ W2.heap.size) := Lib.hid (by have := HV.out.lo; have := HV.out.run.hb.lt; have := HV.out.hb.lt; have := HMT.out.size; omega)
  have HBw : Hid (Below W2.heap.size W2 W2) := Lib.hid (Below.refl _ _)
  have kc0 : W2.cell? ⟨ab, aof, none⟩ = some (.int .i64 0) := by simpa using hc0
  have kd := (HM.out.hb 1 _ _ _ rfl).cell (k := c * 5 + 3) HDD.out
  clear hcells hc0 hc1 hPab kb
  go_wp2_with fail
  clear kc0 kd
  replace HM := Lib.hid HM.out.drew
  replace HBw := Lib.hid (HBw.out.trans ((below_drew W2).mono HBw.out.size))
  have HF : Hid (∀ p ∈ ([(⟨ab, aof + 1, none⟩, .int .i64 hdl)] : List (Addr × Value)), World.cell? (W2).drew p.1 = some p.2) := Lib.hid (allc ((World.cell?_of_block (HM.out.old ab HAB.out.1 HAB.out.2)).trans HC1.out) (alln _))
  haveI : Inhabited (CW [(⟨ab, aof + 1, none⟩, .int .i64 hdl)]) := ⟨⟨_, HF.out⟩⟩
  have f0 : ∀ q : CW [(⟨ab, aof + 1, none⟩, .int .i64 hdl)], q.1.cell? ⟨ab, aof + 1, none⟩ = some (.int .i64 hdl) := fun q => q.2 (⟨ab, aof + 1, none⟩, .int .i64 hdl) (by simp)
  clear HF
  (try simp only [Act.put, List.setIfInBounds_toArray, List.set_cons_succ, List.set_cons_zero])
  refine wp_region_noPanic ?_
  refine wp_region_plw (.step [true, true, true, true, true, true, true, false, true, true, true, false, false, true] (.cons 7 (.step [] (.cons 11 (.step [] (.cons 12 (.step [false, false, false, false, false, false, false, false, false, false, false, false, false, false, true, true] (.cons 16 (.last []) .nil)) .nil)) .nil)) (.cons 11 (.step [] (.cons 7 (.step [] (.cons 12 (.step [false, false, false, false, false, false, false, false, false, false, false, false, false, false, true, true] (.cons 16 (.last []) .nil)) .nil)) .nil)) .nil))) (fun y => ∃ q : CW [(⟨ab, aof + 1, none⟩, .int .i64 hdl)], y = q.1) (by kernel_rfl) (by kernel_rfl) (by kernel_rfl) (fun _ _ _ _ _ _ _ h => h) ⟨⟨_, (allc ((World.cell?_of_block (HM.out.old ab HAB.out.1 HAB.out.2)).trans HC1.out) (alln _))⟩, rfl⟩ ?_
  simp only [wpPw, wpBw, selF, and_true]
  generalize (W2).drew = V1 at *
  repeat (go_big_quiet_step (fail))
  refine wpQuiet_nil ?_
  refine ⟨?_, ?_⟩
  · refine wpOp_step rfl (fun K hK => ?_)
    rw [if_pos (by rfl)]
    refine wpOm_ldc HM 30 (.tmp 226) rfl 227 rfl lv30 1 (c * 5) rfl rfl _ HSL.out ?_
    refine hK _ _ ⟨(fun y => ∃ q : CW [(⟨ab, aof + 1, none⟩, .int .i64 hdl)], y = q.1), ⟨⟨_, (allc ((World.cell?_of_block (HM.out.old ab HAB.out.1 HAB.out.2)).trans HC1.out) (alln _))⟩, rfl⟩, fun _ h => h, ?_⟩
    clear hK K
    (try simp only [Act.put, List.setIfInBounds_toArray, List.set_cons_succ, List.set_cons_zero])
    refine wpQuiet_nil ?_
    refine wpOp_step rfl (fun K hK => ?_)
    rw [if_pos (by rfl)]
    have HNB := Lib.hid HBw.out.size
    refine wpOm_bsI1 HM (.tmp 230) rfl 231 rfl hdl rfl ?_
    intro V2 hbe hM
    (try simp only [List.cons_append, List.nil_append, List.set_cons_succ, List.set_cons_zero, Nat.reduceAdd] at hM)
    replace HM := hM
    replace HBw := Lib.hid (HBw.out.trans (hbe.mono HBw.out.size))
    clear hM hbe
    refine hK _ _ ⟨(fun y => ∃ q : CW [(⟨ab, aof + 1, none⟩, .int .i64 hdl)], y = q.1), ⟨⟨_, (allc ((World.cell?_of_block (HM.out.old ab HAB.out.1 HAB.out.2)).trans HC1.out) (alln _))⟩, rfl⟩, fun _ h => h, ?_⟩
    clear hK K
    (try simp only [Act.put, List.setIfInBounds_toArray, List.set_cons_succ, List.set_cons_zero])
    refine wpQuiet_nil ?_
    refine wpOp_step rfl (fun K hK => ?_)
    rw [if_pos (by rfl)]
    have HOv : Hid (OwnV B V2 h hs ns) := Lib.hid (HO2.out.keep (fun b _ h2 => HBw.out.block b h2))
    refine wpO_pushI (.tmp 227) (.tmp 231) rfl 232 rfl B slv (hs c).length _ rfl (by have := HOv.out.hl c hc; rwa [HES.out.1] at this) (Nat.le_trans HB2.out HBw.out.size) (V1.heap.size) 1 rfl hdl ((HM.out.hb 3 _ _ _ rfl).cell (k := 0) rfl) HLN.out.1 ?_
    intro V3 v1 ho1 hob hgr
    have HP1 := Lib.hid (HOv.out.pushH (W' := V3) c hc v1 hdl ho1 (by rw [HES.out.1]; rcases hob with h1 | h1; exact .inl h1; exact .inr (fun b hb => by rw [h1] at hb; injection hb with hb; omega)) (fun b hlt hne _ => hgr.block b hlt (by rw [HES.out.1] at hne; exact hne)))
    have HO1 := Lib.hid (show v1.ownBlock = (h.sl (2 * c)).ownBlock ∨ ∀ b, v1.ownBlock = some b → W2.heap.size ≤ b by rw [HES.out.1]; rcases hob with h1 | h1; exact .inl h1; exact .inr (fun b hb => by rw [h1] at hb; injection hb with hb; have := HBw.out.size; omega))
    replace HM := Lib.hid (HM.out.grow hgr (fun g hg => by
      have hown : OwnB h g := ⟨2 * c, (by omega), (by rw [HES.out.1]; exact hg)⟩
      have h1 := HOL.out g hown
      have h2 := HOX.out g h1.1 h1.2
      refine ⟨.inl (.inr hown), ?_⟩
      rintro ⟨i, E, u, hi⟩
      have h3 := HMT.out.size
      match i, hi with
      | 0, hi => simp at hi; exact h2.1 hi.1.symm
      | 1, hi => simp at hi; exact h2.2.1 hi.1.symm
      | 2, hi => simp at hi; exact h2.2.2 hi.1.symm
      | 3, hi => simp at hi; have := HNB.out; omega
      | i + 4, hi => simp at hi))
    obtain ⟨va, vn, vc, rfl⟩ := ownsRow_form ho1
    clear ho1 hob hgr HOv HBw
    refine hK _ _ ⟨(fun y => ∃ q : CW [(⟨ab, aof + 1, none⟩, .int .i64 hdl)], y = q.1), ⟨⟨_, (allc ((World.cell?_of_block (HM.out.old ab HAB.out.1 HAB.out.2)).trans HC1.out) (alln _))⟩, rfl⟩, fun _ h => h, ?_⟩
    clear hK K
    (try simp only [Act.put, List.setIfInBounds_toArray, List.set_cons_succ, List.set_cons_zero])
    repeat (go_big_quiet_step (fail))
    refine wpQuiet_nil ?_
    refine wpOp_step rfl (fun K hK => ?_)
    rw [if_pos (by rfl)]
    refine wpOm_stS HM 30 (.tmp 235) (.tmp 232) rfl rfl Try.sizeOf30 1 (c * 5) rfl va vn vc rfl rfl (by rw [HD.out.size]; omega) ?_
    intro V4 hoth hsz hM
    (try simp only [List.cons_append, List.nil_append, List.set_cons_succ, List.set_cons_zero, Nat.reduceAdd] at hM)
    replace HM := hM
    have HD1 := Lib.hid (HD.out.setH c hc (.slice va vn vc))
    have HP2 := Lib.hid (HP1.out.keep (W' := V4) (fun b h1 h2 => hoth b (by have := HV.out.lo; omega)))
    clear hM hoth hsz
    refine hK _ _ ⟨(fun y => ∃ q : CW [(⟨ab, aof + 1, none⟩, .int .i64 hdl)], y = q.1), ⟨⟨_, (allc ((World.cell?_of_block (HM.out.old ab HAB.out.1 HAB.out.2)).trans HC1.out) (alln _))⟩, rfl⟩, fun _ h => h, ?_⟩
    clear hK K
    (try simp only [Act.put, List.setIfInBounds_toArray, List.set_cons_succ, List.set_cons_zero])
    refine wpQuiet_nil ?_
    refine NoPanic.normal ?_
    clear f0
    have HDD1 := Lib.hid (HD1.out.dd c hc)
    have HNL1 := Lib.hid (HD1.out.nl c hc)
    have eN : (h.setS (2 * c) (.slice va vn vc)).sl (2 * c + 1) = nlv := by simp only [Go.Proofs.Ytgpdknacnmapiaa.HV.setS, upd]; rw [if_neg (by omega)]; exact HES.out.2
    have HH1 : Hid ((h.setS (2 * c) (.slice va vn vc)).sl (2 * c + 1) = nlv ∧ (h.setS (2 * c) (.slice va vn vc)).dd = h.dd ∧ ∀ b, PH R H h b → b < W2.heap.size → PH R H (h.setS (2 * c) (.slice va vn vc)) b) := Lib.hid ⟨eN, rfl, PH.set HO1.out (by omega)⟩
    have HXX : Hid (∀ b, OwnB (h.setS (2 * c) (.slice va vn vc)) b → b ≠ w.heap.size) := Lib.hid (fun b hb => by
      obtain ⟨i, hi, e⟩ := hb
      simp only [Go.Proofs.Ytgpdknacnmapiaa.HV.setS, upd] at e
      have hx2 := HMT.out.lt (i := 2) rfl
      by_cases ei : i = 2 * c
      · rw [if_pos ei] at e
        rcases HO1.out with h1 | h1
        · rw [h1] at e; have := HOL.out b ⟨2 * c, by omega, e⟩; omega
        · have := h1 b e; omega
      · rw [if_neg ei] at e; have := HOL.out b ⟨i, hi, e⟩; omega)
    rw [eN] at HNL1
    rw [show (h.setS (2 * c) (.slice va vn vc)).dd c = dd from HED.out] at HDD1
    clear eN HO1 HP1
    generalize D.setIfInBounds (c * 5) (Value.slice va vn vc) = D1 at *
    generalize h.setS (2 * c) (Value.slice va vn vc) = h1 at *
    have HMU := Lib.hid (HM.out.sub (L2 := [(R, C', 74), (H, D1, 72), (w.heap.size, #[.int .i64 cl, .int .i64 dO, .int .i64 nN], 69)]) (fun i e hi => by match i, hi with | 0, hi => exact hi | 1, hi => exact hi | 2, hi => exact hi | i + 3, hi => simp at hi))
    have HOS : Hid (∀ b, OwnB h1 b → B ≤ b ∧ b < V4.heap.size) := Lib.hid (fun b hb => by obtain ⟨i, hi, e⟩ := hb; exact HP2.out.lt i hi b e)
    have HB3 : Hid (B ≤ V4.heap.size ∧ W2.heap.size ≤ V4.heap.size) := Lib.hid ⟨Nat.le_trans HB2.out HM.out.size, HM.out.size⟩
    replace HM := Lib.hid (HMU.out.re.wx (Y := fun b => OL [(R, C', 74), (H, D1, 72), (w.heap.size, #[.int .i64 cl, .int .i64 dO, .int .i64 nN], 69)] b ∨ OwnB h1 b) (fun b hb => .inl hb))
    have HBw : Hid (Below V4.heap.size V4 V4) := Lib.hid (Below.refl _ _)
    go_wp2_with fail
    replace HM := Lib.hid HM.out.drew
    replace HBw := Lib.hid (HBw.out.trans ((below_drew V4).mono HBw.out.size))
    have HF : Hid (∀ p ∈ ([(⟨H, c * 5 + 3, none⟩, .int .i64 dd)] : List (Addr × Value)), World.cell? (V4).drew p.1 = some p.2) := Lib.hid (allc ((HM.out.hb 1 _ _ _ rfl).cell (k := c * 5 + 3) HDD1.out) (alln _))
    haveI : Inhabited (CW [(⟨H, c * 5 + 3, none⟩, .int .i64 dd)]) := ⟨⟨_, HF.out⟩⟩
    have f0 : ∀ q : CW [(⟨H, c * 5 + 3, none⟩, .int .i64 dd)], q.1.cell? ⟨H, c * 5 + 3, none⟩ = some (.int .i64 dd) := fun q => q.2 (⟨H, c * 5 + 3, none⟩, .int .i64 dd) (by simp)
    clear HF
    (try simp only [Act.put, List.setIfInBounds_toArray, List.set_cons_succ, List.set_cons_zero])
    refine wp_region_noPanic ?_
    refine wp_region_plw (.step [true, true, true, true, true, true, true, false, true, true, true, true, true, true, true, true, false, false, true] (.cons 7 (.step [] (.cons 16 (.step [] (.cons 17 (.step [false, false, false, false, false, false, false, false, false, false, false, false, false, false, false, false, false, false, false, true, true] (.cons 21 (.last []) .nil)) .nil)) .nil)) (.cons 16 (.step [] (.cons 7 (.step [] (.cons 17 (.step [false, false, false, false, false, false, false, false, false, false, false, false, false, false, false, false, false, false, false, true, true] (.cons 21 (.last []) .nil)) .nil)) .nil)) .nil))) (fun y => ∃ q : CW [(⟨H, c * 5 + 3, none⟩, .int .i64 dd)], y = q.1) (by kernel_rfl) (by kernel_rfl) (by kernel_rfl) (fun _ _ _ _ _ _ _ h => h) ⟨⟨_, (allc ((HM.out.hb 1 _ _ _ rfl).cell (k := c * 5 + 3) HDD1.out) (alln _))⟩, rfl⟩ ?_
    simp only [wpPw, wpBw, selF, and_true]
    generalize (V4).drew = V5 at *
    repeat (go_big_quiet_step (fail))
    refine wpQuiet_nil ?_
    refine ⟨?_, ?_⟩
    · refine wpOp_step rfl (fun K hK => ?_)
      rw [if_pos (by rfl)]
      refine wpOm_ldc HM 67 (.tmp 242) rfl 243 rfl lv67 1 (c * 5 + 1) rfl rfl _ HNL1.out ?_
      refine hK _ _ ⟨(fun y => ∃ q : CW [(⟨H, c * 5 + 3, none⟩, .int .i64 dd)], y = q.1), ⟨⟨_, (allc ((HM.out.hb 1 _ _ _ rfl).cell (k := c * 5 + 3) HDD1.out) (alln _))⟩, rfl⟩, fun _ h => h, ?_⟩
      clear hK K
      (try simp only [Act.put, List.setIfInBounds_toArray, List.set_cons_succ, List.set_cons_zero])
      refine wpQuiet_nil ?_
      refine wpOp_step rfl (fun K hK => ?_)
      rw [if_pos (by rfl)]
      have HNB2 := Lib.hid HBw.out.size
      refine wpOm_bsB1 HM (.tmp 251) rfl 252 rfl (dd == 0) rfl ?_
      intro V6 hbe hM
      (try simp only [List.cons_append, List.nil_append, List.set_cons_succ, List.set_cons_zero, Nat.reduceAdd] at hM)
      replace HM := hM
      replace HBw := Lib.hid (HBw.out.trans (hbe.mono HBw.out.size))
      clear hM hbe
      refine hK _ _ ⟨(fun y => ∃ q : CW [(⟨H, c * 5 + 3, none⟩, .int .i64 dd)], y = q.1), ⟨⟨_, (allc ((HM.out.hb 1 _ _ _ rfl).cell (k := c * 5 + 3) HDD1.out) (alln _))⟩, rfl⟩, fun _ h => h, ?_⟩
      clear hK K
      (try simp only [Act.put, List.setIfInBounds_toArray, List.set_cons_succ, List.set_cons_zero])
      refine wpQuiet_nil ?_
      refine wpOp_step rfl (fun K hK => ?_)
      rw [if_pos (by rfl)]
      have HOv : Hid (OwnV B V6 h1 (upd hs c (hs c ++ [hdl])) ns) := Lib.hid (HP2.out.keep (fun b _ h2 => HBw.out.block b h2))
      refine wpO_pushB (.tmp 243) (.tmp 252) rfl 253 rfl B nlv (ns c).length _ rfl (by have := HOv.out.nl c hc; rwa [HH1.out.1] at this) (Nat.le_trans HB3.out.1 HBw.out.size) _ 1 rfl (dd == 0) ((HM.out.hb 3 _ _ _ rfl).cell (k := 0) rfl) HLN.out.2 ?_
      intro V7 v2 ho1 hob hgr
      have HP3 := Lib.hid (HOv.out.pushN (W' := V7) c hc v2 (dd == 0) ho1 (by rw [HH1.out.1]; rcases hob with h1 | h1; exact .inl h1; exact .inr (fun b hb => by rw [h1] at hb; injection hb with hb; omega)) (fun b hlt hne _ => hgr.block b hlt (by rw [HH1.out.1] at hne; exact hne)))
      have HO2b := Lib.hid (show v2.ownBlock = (h1.sl (2 * c + 1)).ownBlock ∨ ∀ b, v2.ownBlock = some b → W2.heap.size ≤ b by rw [HH1.out.1]; rcases hob with h1 | h1; exact .inl h1; exact .inr (fun b hb => by rw [h1] at hb; injection hb with hb; have := HBw.out.size; have := HB3.out.2; omega))
      replace HM := Lib.hid (HM.out.grow hgr (fun g hg => by
        have hown : OwnB h1 g := ⟨2 * c + 1, (by omega), (by rw [HH1.out.1]; exact hg)⟩
        have h1 := HOS.out g hown
        have h2 := HXX.out g hown
        have h4 := HV.out.lo
        refine ⟨.inl (.inr hown), ?_⟩
        rintro ⟨i, E, u, hi⟩
        match i, hi with
        | 0, hi => simp at hi; omega
        | 1, hi => simp at hi; omega
        | 2, hi => simp at hi; exact h2 hi.1.symm
        | 3, hi => simp at hi; have := HNB2.out; omega
        | i + 4, hi => simp at hi))
      obtain ⟨vb, vm, vd, rfl⟩ := ownsRow_form ho1
      clear ho1 hob hgr HOv HBw
      refine hK _ _ ⟨(fun y => ∃ q : CW [(⟨H, c * 5 + 3, none⟩, .int .i64 dd)], y = q.1), ⟨⟨_, (allc ((HM.out.hb 1 _ _ _ rfl).cell (k := c * 5 + 3) HDD1.out) (alln _))⟩, rfl⟩, fun _ h => h, ?_⟩
      clear hK K
      (try simp only [Act.put, List.setIfInBounds_toArray, List.set_cons_succ, List.set_cons_zero])
      repeat (go_big_quiet_step (fail))
      refine wpQuiet_nil ?_
      refine wpOp_step rfl (fun K hK => ?_)
      rw [if_pos (by rfl)]
      refine wpOm_stS HM 67 (.tmp 256) (.tmp 253) rfl rfl sizeOf67 1 (c * 5 + 1) rfl vb vm vd rfl rfl (by rw [HD1.out.size]; omega) ?_
      intro V8 hoth hsz hM
      (try simp only [List.cons_append, List.nil_append, List.set_cons_succ, List.set_cons_zero, Nat.reduceAdd] at hM)
      replace HM := hM
      have HD2 := Lib.hid (HD1.out.setN c hc (.slice vb vm vd))
      have HP4 := Lib.hid (HP3.out.keep (W' := V8) (fun b h1 h2 => hoth b (by have := HV.out.lo; omega)))
      have HDD2 := Lib.hid (HD2.out.dd c hc)
      rw [show (h1.setS (2 * c + 1) (.slice vb vm vd)).dd c = dd from (congrFun HH1.out.2.1 c).trans HED.out] at HDD2
      clear hM hoth hsz
      refine hK _ _ ⟨(fun y => ∃ q : CW [(⟨H, c * 5 + 3, none⟩, .int .i64 dd)], y = q.1), ⟨⟨_, (allc ((HM.out.hb 1 _ _ _ rfl).cell (k := c * 5 + 3) HDD2.out) (alln _))⟩, rfl⟩, fun _ h => h, ?_⟩
      clear hK K
      (try simp only [Act.put, List.setIfInBounds_toArray, List.set_cons_succ, List.set_cons_zero])
      refine wpQuiet_nil ?_
      refine NoPanic.normal ?_
      clear f0
      go_wp2_with fail
      go_ret
      have hPS := PH.set (R := R) (H := H) (h := h1) HO2b.out (i0 := 2 * c + 1) (by omega)
      have hpm : ∀ b, b < W2.heap.size → PH R H h b → ¬ OL [(R, C', 74), (H, D, 72), (w.heap.size, #[.int .i64 cl, .int .i64 dO, .int .i64 nN], 69)] b → V8.heap[b]? = W2.heap[b]? := fun b hlt hb hno => by
        have e1 := HMU.out.old b hlt (fun e => by
          rcases e with e | ⟨i, hi, e⟩
          · exact hno e
          · exact hb.2.2 i hi e)
        have hb1 := HH1.out.2.2 b hb hlt
        have e2 := HM.out.old b (Nat.lt_of_lt_of_le hlt HB3.out.2) (fun e => by
          rcases e with e | ⟨i, hi, e⟩
          · refine hno ?_
            obtain ⟨i, E, u, hi⟩ := e
            match i, hi with
            | 0, hi => exact ⟨0, E, u, hi⟩
            | 1, hi => simp at hi; exact ⟨1, D, 72, by rw [hi.1]; rfl⟩
            | 2, hi => exact ⟨2, E, u, hi⟩
            | i + 3, hi => simp at hi
          · exact hb1.2.2 i hi e)
        exact e2.trans e1
      refine ⟨rfl, C', _, s', h1.setS (2 * c + 1) (.slice vb vm vd), ⟨?_, HM.out.hb 1 _ _ _ rfl, HD2.out, HP4.out, HV.out.ne, HV.out.lo⟩, ⟨HM.out.os.trans (HMU.out.os.trans HMT.out.os), HM.out.tape.trans (HMU.out.tape.trans HMT.out.tape), HM.out.output.trans (HMU.out.output.trans HMT.out.output), Nat.le_trans HMT.out.size (Nat.le_trans HMU.out.size HM.out.size), fun b hlt hb => ?_⟩, HOT.out.1, HOT.out.2, HH1.out.2.1, fun b hb hlt => hPS b (HH1.out.2.2 b hb (Nat.lt_of_lt_of_le hlt HMT.out.size)) (Nat.lt_of_lt_of_le hlt HMT.out.size)⟩
      · have h1w := HR2.out.weak (Q := fun b => (PH R H h b ∧ ¬ OL [(R, C', 74), (H, D, 72), (w.heap.size, #[.int .i64 cl, .int .i64 dO, .int .i64 nN], 69)] b) ∧ PH R H (h1.setS (2 * c + 1) (.slice vb vm vd)) b) (fun b hb hlt => ⟨⟨hb.1, fun e => hb.2 (OL.two (H := 0) (D := #[]) (D' := #[]) (t' := 0) e)⟩, hPS b (HH1.out.2.2 b hb.1 hlt) hlt⟩)
        refine (h1w.oth (W' := V8) (fun b hb hlt => ?_)).weak (fun b hb _ => hb.2)
        rcases hb with hb | rfl
        · exact hpm b hlt hb.1.1 hb.1.2
        · exact (HM.out.hb 0 _ _ _ rfl).trans HR2.out.hb.symm
      · have hX : ¬ (b = R ∨ b = H) := fun e => by rcases e with e | e; exact hb.1 e; exact hb.2.1 e
        exact (hpm b (Nat.lt_of_lt_of_le hlt HMT.out.size) hb (ol_lt HMT.out hlt hX)).trans (HMT.out.old b hlt hX)
    · refine wpOp_step rfl (fun K hK => ?_)
      rw [if_pos (by rfl)]
      have HNB2 := Lib.hid HBw.out.size
      refine wpOm_bsB1 HM (.tmp 251) rfl 252 rfl (dd == 0) rfl ?_
      intro V9 hbe hM
      (try simp only [List.cons_append, List.nil_append, List.set_cons_succ, List.set_cons_zero, Nat.reduceAdd] at hM)
      replace HM := hM
      replace HBw := Lib.hid (HBw.out.trans (hbe.mono HBw.out.size))
      clear hM hbe
      refine hK _ _ ⟨(fun y => ∃ q : CW [(⟨H, c * 5 + 3, none⟩, .int .i64 dd)], y = q.1), ⟨⟨_, (allc ((HM.out.hb 1 _ _ _ rfl).cell (k := c * 5 + 3) HDD1.out) (alln _))⟩, rfl⟩, fun _ h => h, ?_⟩
      clear hK K
      (try simp only [Act.put, List.setIfInBounds_toArray, List.set_cons_succ, List.set_cons_zero])
      refine wpQuiet_nil ?_
      refine wpOp_step rfl (fun K hK => ?_)
      rw [if_pos (by rfl)]
      refine wpOm_ldc HM 67 (.tmp 242) rfl 243 rfl lv67 1 (c * 5 + 1) rfl rfl _ HNL1.out ?_
      refine hK _ _ ⟨(fun y => ∃ q : CW [(⟨H, c * 5 + 3, none⟩, .int .i64 dd)], y = q.1), ⟨⟨_, (allc ((HM.out.hb 1 _ _ _ rfl).cell (k := c * 5 + 3) HDD1.out) (alln _))⟩, rfl⟩, fun _ h => h, ?_⟩
      clear hK K
      (try simp only [Act.put, List.setIfInBounds_toArray, List.set_cons_succ, List.set_cons_zero])
      refine wpQuiet_nil ?_
      refine wpOp_step rfl (fun K hK => ?_)
      rw [if_pos (by rfl)]
      have HOv : Hid (OwnV B V9 h1 (upd hs c (hs c ++ [hdl])) ns) := Lib.hid (HP2.out.keep (fun b _ h2 => HBw.out.block b h2))
      refine wpO_pushB (.tmp 243) (.tmp 252) rfl 253 rfl B nlv (ns c).length _ rfl (by have := HOv.out.nl c hc; rwa [HH1.out.1] at this) (Nat.le_trans HB3.out.1 HBw.out.size) _ 1 rfl (dd == 0) ((HM.out.hb 3 _ _ _ rfl).cell (k := 0) rfl) HLN.out.2 ?_
      intro V10 v2 ho1 hob hgr
      have HP3 := Lib.hid (HOv.out.pushN (W' := V10) c hc v2 (dd == 0) ho1 (by rw [HH1.out.1]; rcases hob with h1 | h1; exact .inl h1; exact .inr (fun b hb => by rw [h1] at hb; injection hb with hb; omega)) (fun b hlt hne _ => hgr.block b hlt (by rw [HH1.out.1] at hne; exact hne)))
      have HO2b := Lib.hid (show v2.ownBlock = (h1.sl (2 * c + 1)).ownBlock ∨ ∀ b, v2.ownBlock = some b → W2.heap.size ≤ b by rw [HH1.out.1]; rcases hob with h1 | h1; exact .inl h1; exact .inr (fun b hb => by rw [h1] at hb; injection hb with hb; have := HBw.out.size; have := HB3.out.2; omega))
      replace HM := Lib.hid (HM.out.grow hgr (fun g hg => by
        have hown : OwnB h1 g := ⟨2 * c + 1, (by omega), (by rw [HH1.out.1]; exact hg)⟩
        have h1 := HOS.out g hown
        have h2 := HXX.out g hown
        have h4 := HV.out.lo
        refine ⟨.inl (.inr hown), ?_⟩
        rintro ⟨i, E, u, hi⟩
        match i, hi with
        | 0, hi => simp at hi; omega
        | 1, hi => simp at hi; omega
        | 2, hi => simp at hi; exact h2 hi.1.symm
        | 3, hi => simp at hi; have := HNB2.out; omega
        | i + 4, hi => simp at hi))
      obtain ⟨vb, vm, vd, rfl⟩ := ownsRow_form ho1
      clear ho1 hob hgr HOv HBw
      refine hK _ _ ⟨(fun y => ∃ q : CW [(⟨H, c * 5 + 3, none⟩, .int .i64 dd)], y = q.1), ⟨⟨_, (allc ((HM.out.hb 1 _ _ _ rfl).cell (k := c * 5 + 3) HDD1.out) (alln _))⟩, rfl⟩, fun _ h => h, ?_⟩
      clear hK K
      (try simp only [Act.put, List.setIfInBounds_toArray, List.set_cons_succ, List.set_cons_zero])
      repeat (go_big_quiet_step (fail))
      refine wpQuiet_nil ?_
      refine wpOp_step rfl (fun K hK => ?_)
      rw [if_pos (by rfl)]
      refine wpOm_stS HM 67 (.tmp 256) (.tmp 253) rfl rfl sizeOf67 1 (c * 5 + 1) rfl vb vm vd rfl rfl (by rw [HD1.out.size]; omega) ?_
      intro V11 hoth hsz hM
      (try simp only [List.cons_append, List.nil_append, List.set_cons_succ, List.set_cons_zero, Nat.reduceAdd] at hM)
      replace HM := hM
      have HD2 := Lib.hid (HD1.out.setN c hc (.slice vb vm vd))
      have HP4 := Lib.hid (HP3.out.keep (W' := V11) (fun b h1 h2 => hoth b (by have := HV.out.lo; omega)))
      have HDD2 := Lib.hid (HD2.out.dd c hc)
      rw [show (h1.setS (2 * c + 1) (.slice vb vm vd)).dd c = dd from (congrFun HH1.out.2.1 c).trans HED.out] at HDD2
      clear hM hoth hsz
      refine hK _ _ ⟨(fun y => ∃ q : CW [(⟨H, c * 5 + 3, none⟩, .int .i64 dd)], y = q.1), ⟨⟨_, (allc ((HM.out.hb 1 _ _ _ rfl).cell (k := c * 5 + 3) HDD2.out) (alln _))⟩, rfl⟩, fun _ h => h, ?_⟩
      clear hK K
      (try simp only [Act.put, List.setIfInBounds_toArray, List.set_cons_succ, List.set_cons_zero])
      refine wpQuiet_nil ?_
      refine NoPanic.normal ?_
      clear f0
      go_wp2_with fail
      go_ret
      have hPS := PH.set (R := R) (H := H) (h := h1) HO2b.out (i0 := 2 * c + 1) (by omega)
      have hpm : ∀ b, b < W2.heap.size → PH R H h b → ¬ OL [(R, C', 74), (H, D, 72), (w.heap.size, #[.int .i64 cl, .int .i64 dO, .int .i64 nN], 69)] b → V11.heap[b]? = W2.heap[b]? := fun b hlt hb hno => by
        have e1 := HMU.out.old b hlt (fun e => by
          rcases e with e | ⟨i, hi, e⟩
          · exact hno e
          · exact hb.2.2 i hi e)
        have hb1 := HH1.out.2.2 b hb hlt
        have e2 := HM.out.old b (Nat.lt_of_lt_of_le hlt HB3.out.2) (fun e => by
          rcases e with e | ⟨i, hi, e⟩
          · refine hno ?_
            obtain ⟨i, E, u, hi⟩ := e
            match i, hi with
            | 0, hi => exact ⟨0, E, u, hi⟩
            | 1, hi => simp at hi; exact ⟨1, D, 72, by rw [hi.1]; rfl⟩
            | 2, hi => exact ⟨2, E, u, hi⟩
            | i + 3, hi => simp at hi
          · exact hb1.2.2 i hi e)
        exact e2.trans e1
      refine ⟨rfl, C', _, s', h1.setS (2 * c + 1) (.slice vb vm vd), ⟨?_, HM.out.hb 1 _ _ _ rfl, HD2.out, HP4.out, HV.out.ne, HV.out.lo⟩, ⟨HM.out.os.trans (HMU.out.os.trans HMT.out.os), HM.out.tape.trans (HMU.out.tape.trans HMT.out.tape), HM.out.output.trans (HMU.out.output.trans HMT.out.output), Nat.le_trans HMT.out.size (Nat.le_trans HMU.out.size HM.out.size), fun b hlt hb => ?_⟩, HOT.out.1, HOT.out.2, HH1.out.2.1, fun b hb hlt => hPS b (HH1.out.2.2 b hb (Nat.lt_of_lt_of_le hlt HMT.out.size)) (Nat.lt_of_lt_of_le hlt HMT.out.size)⟩
      · have h1w := HR2.out.weak (Q := fun b => (PH R H h b ∧ ¬ OL [(R, C', 74), (H, D, 72), (w.heap.size, #[.int .i64 cl, .int .i64 dO, .int .i64 nN], 69)] b) ∧ PH R H (h1.setS (2 * c + 1) (.slice vb vm vd)) b) (fun b hb hlt => ⟨⟨hb.1, fun e => hb.2 (OL.two (H := 0) (D := #[]) (D' := #[]) (t' := 0) e)⟩, hPS b (HH1.out.2.2 b hb.1 hlt) hlt⟩)
        refine (h1w.oth (W' := V11) (fun b hb hlt => ?_)).weak (fun b hb _ => hb.2)
        rcases hb with hb | rfl
        · exact hpm b hlt hb.1.1 hb.1.2
        · exact (HM.out.hb 0 _ _ _ rfl).trans HR2.out.hb.symm
      · have hX : ¬ (b = R ∨ b = H) := fun e => by rcases e with e | e; exact hb.1 e; exact hb.2.1 e
        exact (hpm b (Nat.lt_of_lt_of_le hlt HMT.out.size) hb (ol_lt HMT.out hlt hX)).trans (HMT.out.old b hlt hX)
  · refine wpOp_step rfl (fun K hK => ?_)
    rw [if_pos (by rfl)]
    have HNB := Lib.hid HBw.out.size
    refine wpOm_bsI1 HM (.tmp 230) rfl 231 rfl hdl rfl ?_
    intro V12 hbe hM
    (try simp only [List.cons_append, List.nil_append, List.set_cons_succ, List.set_cons_zero, Nat.reduceAdd] at hM)
    replace HM := hM
    replace HBw := Lib.hid (HBw.out.trans (hbe.mono HBw.out.size))
    clear hM hbe
    refine hK _ _ ⟨(fun y => ∃ q : CW [(⟨ab, aof + 1, none⟩, .int .i64 hdl)], y = q.1), ⟨⟨_, (allc ((World.cell?_of_block (HM.out.old ab HAB.out.1 HAB.out.2)).trans HC1.out) (alln _))⟩, rfl⟩, fun _ h => h, ?_⟩
    clear hK K
    (try simp only [Act.put, List.setIfInBounds_toArray, List.set_cons_succ, List.set_cons_zero])
    refine wpQuiet_nil ?_
    refine wpOp_step rfl (fun K hK => ?_)
    rw [if_pos (by rfl)]
    refine wpOm_ldc HM 30 (.tmp 226) rfl 227 rfl lv30 1 (c * 5) rfl rfl _ HSL.out ?_
    refine hK _ _ ⟨(fun y => ∃ q : CW [(⟨ab, aof + 1, none⟩, .int .i64 hdl)], y = q.1), ⟨⟨_, (allc ((World.cell?_of_block (HM.out.old ab HAB.out.1 HAB.out.2)).trans HC1.out) (alln _))⟩, rfl⟩, fun _ h => h, ?_⟩
    clear hK K
    (try simp only [Act.put, List.setIfInBounds_toArray, List.set_cons_succ, List.set_cons_zero])
    refine wpQuiet_nil ?_
    refine wpOp_step rfl (fun K hK => ?_)
    rw [if_pos (by rfl)]
    have HOv : Hid (OwnV B V12 h hs ns) := Lib.hid (HO2.out.keep (fun b _ h2 => HBw.out.block b h2))
    refine wpO_pushI (.tmp 227) (.tmp 231) rfl 232 rfl B slv (hs c).length _ rfl (by have := HOv.out.hl c hc; rwa [HES.out.1] at this) (Nat.le_trans HB2.out HBw.out.size) (V1.heap.size) 1 rfl hdl ((HM.out.hb 3 _ _ _ rfl).cell (k := 0) rfl) HLN.out.1 ?_
    intro V13 v1 ho1 hob hgr
    have HP1 := Lib.hid (HOv.out.pushH (W' := V13) c hc v1 hdl ho1 (by rw [HES.out.1]; rcases hob with h1 | h1; exact .inl h1; exact .inr (fun b hb => by rw [h1] at hb; injection hb with hb; omega)) (fun b hlt hne _ => hgr.block b hlt (by rw [HES.out.1] at hne; exact hne)))
    have HO1 := Lib.hid (show v1.ownBlock = (h.sl (2 * c)).ownBlock ∨ ∀ b, v1.ownBlock = some b → W2.heap.size ≤ b by rw [HES.out.1]; rcases hob with h1 | h1; exact .inl h1; exact .inr (fun b hb => by rw [h1] at hb; injection hb with hb; have := HBw.out.size; omega))
    replace HM := Lib.hid (HM.out.grow hgr (fun g hg => by
      have hown : OwnB h g := ⟨2 * c, (by omega), (by rw [HES.out.1]; exact hg)⟩
      have h1 := HOL.out g hown
      have h2 := HOX.out g h1.1 h1.2
      refine ⟨.inl (.inr hown), ?_⟩
      rintro ⟨i, E, u, hi⟩
      have h3 := HMT.out.size
      match i, hi with
      | 0, hi => simp at hi; exact h2.1 hi.1.symm
      | 1, hi => simp at hi; exact h2.2.1 hi.1.symm
      | 2, hi => simp at hi; exact h2.2.2 hi.1.symm
      | 3, hi => simp at hi; have := HNB.out; omega
      | i + 4, hi => simp at hi))
    obtain ⟨va, vn, vc, rfl⟩ := ownsRow_form ho1
    clear ho1 hob hgr HOv HBw
    refine hK _ _ ⟨(fun y => ∃ q : CW [(⟨ab, aof + 1, none⟩, .int .i64 hdl)], y = q.1), ⟨⟨_, (allc ((World.cell?_of_block (HM.out.old ab HAB.out.1 HAB.out.2)).trans HC1.out) (alln _))⟩, rfl⟩, fun _ h => h, ?_⟩
    clear hK K
    (try simp only [Act.put, List.setIfInBounds_toArray, List.set_cons_succ, List.set_cons_zero])
    repeat (go_big_quiet_step (fail))
    refine wpQuiet_nil ?_
    refine wpOp_step rfl (fun K hK => ?_)
    rw [if_pos (by rfl)]
    refine wpOm_stS HM 30 (.tmp 235) (.tmp 232) rfl rfl Try.sizeOf30 1 (c * 5) rfl va vn vc rfl rfl (by rw [HD.out.size]; omega) ?_
    intro V14 hoth hsz hM
    (try simp only [List.cons_append, List.nil_append, List.set_cons_succ, List.set_cons_zero, Nat.reduceAdd] at hM)
    replace HM := hM
    have HD1 := Lib.hid (HD.out.setH c hc (.slice va vn vc))
    have HP2 := Lib.hid (HP1.out.keep (W' := V14) (fun b h1 h2 => hoth b (by have := HV.out.lo; omega)))
    clear hM hoth hsz
    refine hK _ _ ⟨(fun y => ∃ q : CW [(⟨ab, aof + 1, none⟩, .int .i64 hdl)], y = q.1), ⟨⟨_, (allc ((World.cell?_of_block (HM.out.old ab HAB.out.1 HAB.out.2)).trans HC1.out) (alln _))⟩, rfl⟩, fun _ h => h, ?_⟩
    clear hK K
    (try simp only [Act.put, List.setIfInBounds_toArray, List.set_cons_succ, List.set_cons_zero])
    refine wpQuiet_nil ?_
    refine NoPanic.normal ?_
    clear f0
    have HDD1 := Lib.hid (HD1.out.dd c hc)
    have HNL1 := Lib.hid (HD1.out.nl c hc)
    have eN : (h.setS (2 * c) (.slice va vn vc)).sl (2 * c + 1) = nlv := by simp only [Go.Proofs.Ytgpdknacnmapiaa.HV.setS, upd]; rw [if_neg (by omega)]; exact HES.out.2
    have HH1 : Hid ((h.setS (2 * c) (.slice va vn vc)).sl (2 * c + 1) = nlv ∧ (h.setS (2 * c) (.slice va vn vc)).dd = h.dd ∧ ∀ b, PH R H h b → b < W2.heap.size → PH R H (h.setS (2 * c) (.slice va vn vc)) b) := Lib.hid ⟨eN, rfl, PH.set HO1.out (by omega)⟩
    have HXX : Hid (∀ b, OwnB (h.setS (2 * c) (.slice va vn vc)) b → b ≠ w.heap.size) := Lib.hid (fun b hb => by
      obtain ⟨i, hi, e⟩ := hb
      simp only [Go.Proofs.Ytgpdknacnmapiaa.HV.setS, upd] at e
      have hx2 := HMT.out.lt (i := 2) rfl
      by_cases ei : i = 2 * c
      · rw [if_pos ei] at e
        rcases HO1.out with h1 | h1
        · rw [h1] at e; have := HOL.out b ⟨2 * c, by omega, e⟩; omega
        · have := h1 b e; omega
      · rw [if_neg ei] at e; have := HOL.out b ⟨i, hi, e⟩; omega)
    rw [eN] at HNL1
    rw [show (h.setS (2 * c) (.slice va vn vc)).dd c = dd from HED.out] at HDD1
    clear eN HO1 HP1
    generalize D.setIfInBounds (c * 5) (Value.slice va vn vc) = D1 at *
    generalize h.setS (2 * c) (Value.slice va vn vc) = h1 at *
    have HMU := Lib.hid (HM.out.sub (L2 := [(R, C', 74), (H, D1, 72), (w.heap.size, #[.int .i64 cl, .int .i64 dO, .int .i64 nN], 69)]) (fun i e hi => by match i, hi with | 0, hi => exact hi | 1, hi => exact hi | 2, hi => exact hi | i + 3, hi => simp at hi))
    have HOS : Hid (∀ b, OwnB h1 b → B ≤ b ∧ b < V14.heap.size) := Lib.hid (fun b hb => by obtain ⟨i, hi, e⟩ := hb; exact HP2.out.lt i hi b e)
    have HB3 : Hid (B ≤ V14.heap.size ∧ W2.heap.size ≤ V14.heap.size) := Lib.hid ⟨Nat.le_trans HB2.out HM.out.size, HM.out.size⟩
    replace HM := Lib.hid (HMU.out.re.wx (Y := fun b => OL [(R, C', 74), (H, D1, 72), (w.heap.size, #[.int .i64 cl, .int .i64 dO, .int .i64 nN], 69)] b ∨ OwnB h1 b) (fun b hb => .inl hb))
    have HBw : Hid (Below V14.heap.size V14 V14) := Lib.hid (Below.refl _ _)
    go_wp2_with fail
    replace HM := Lib.hid HM.out.drew
    replace HBw := Lib.hid (HBw.out.trans ((below_drew V14).mono HBw.out.size))
    have HF : Hid (∀ p ∈ ([(⟨H, c * 5 + 3, none⟩, .int .i64 dd)] : List (Addr × Value)), World.cell? (V14).drew p.1 = some p.2) := Lib.hid (allc ((HM.out.hb 1 _ _ _ rfl).cell (k := c * 5 + 3) HDD1.out) (alln _))
    haveI : Inhabited (CW [(⟨H, c * 5 + 3, none⟩, .int .i64 dd)]) := ⟨⟨_, HF.out⟩⟩
    have f0 : ∀ q : CW [(⟨H, c * 5 + 3, none⟩, .int .i64 dd)], q.1.cell? ⟨H, c * 5 + 3, none⟩ = some (.int .i64 dd) := fun q => q.2 (⟨H, c * 5 + 3, none⟩, .int .i64 dd) (by simp)
    clear HF
    (try simp only [Act.put, List.setIfInBounds_toArray, List.set_cons_succ, List.set_cons_zero])
    refine wp_region_noPanic ?_
    refine wp_region_plw (.step [true, true, true, true, true, true, true, false, true, true, true, true, true, true, true, true, false, false, true] (.cons 7 (.step [] (.cons 16 (.step [] (.cons 17 (.step [false, false, false, false, false, false, false, false, false, false, false, false, false, false, false, false, false, false, false, true, true] (.cons 21 (.last []) .nil)) .nil)) .nil)) (.cons 16 (.step [] (.cons 7 (.step [] (.cons 17 (.step [false, false, false, false, false, false, false, false, false, false, false, false, false, false, false, false, false, false, false, true, true] (.cons 21 (.last []) .nil)) .nil)) .nil)) .nil))) (fun y => ∃ q : CW [(⟨H, c * 5 + 3, none⟩, .int .i64 dd)], y = q.1) (by kernel_rfl) (by kernel_rfl) (by kernel_rfl) (fun _ _ _ _ _ _ _ h => h) ⟨⟨_, (allc ((HM.out.hb 1 _ _ _ rfl).cell (k := c * 5 + 3) HDD1.out) (alln _))⟩, rfl⟩ ?_
    simp only [wpPw, wpBw, selF, and_true]
    generalize (V14).drew = V15 at *
    repeat (go_big_quiet_step (fail))
    refine wpQuiet_nil ?_
    refine ⟨?_, ?_⟩
    · refine wpOp_step rfl (fun K hK => ?_)
      rw [if_pos (by rfl)]
      refine wpOm_ldc HM 67 (.tmp 242) rfl 243 rfl lv67 1 (c * 5 + 1) rfl rfl _ HNL1.out ?_
      refine hK _ _ ⟨(fun y => ∃ q : CW [(⟨H, c * 5 + 3, none⟩, .int .i64 dd)], y = q.1), ⟨⟨_, (allc ((HM.out.hb 1 _ _ _ rfl).cell (k := c * 5 + 3) HDD1.out) (alln _))⟩, rfl⟩, fun _ h => h, ?_⟩
      clear hK K
      (try simp only [Act.put, List.setIfInBounds_toArray, List.set_cons_succ, List.set_cons_zero])
      refine wpQuiet_nil ?_
      refine wpOp_step rfl (fun K hK => ?_)
      rw [if_pos (by rfl)]
      have HNB2 := Lib.hid HBw.out.size
      refine wpOm_bsB1 HM (.tmp 251) rfl 252 rfl (dd == 0) rfl ?_
      intro V16 hbe hM
      (try simp only [List.cons_append, List.nil_append, List.set_cons_succ, List.set_cons_zero, Nat.reduceAdd] at hM)
      replace HM := hM
      replace HBw := Lib.hid (HBw.out.trans (hbe.mono HBw.out.size))
      clear hM hbe
      refine hK _ _ ⟨(fun y => ∃ q : CW [(⟨H, c * 5 + 3, none⟩, .int .i64 dd)], y = q.1), ⟨⟨_, (allc ((HM.out.hb 1 _ _ _ rfl).cell (k := c * 5 + 3) HDD1.out) (alln _))⟩, rfl⟩, fun _ h => h, ?_⟩
      clear hK K
      (try simp only [Act.put, List.setIfInBounds_toArray, List.set_cons_succ, List.set_cons_zero])
      refine wpQuiet_nil ?_
      refine wpOp_step rfl (fun K hK => ?_)
      rw [if_pos (by rfl)]
      have HOv : Hid (OwnV B V16 h1 (upd hs c (hs c ++ [hdl])) ns) := Lib.hid (HP2.out.keep (fun b _ h2 => HBw.out.block b h2))
      refine wpO_pushB (.tmp 243) (.tmp 252) rfl 253 rfl B nlv (ns c).length _ rfl (by have := HOv.out.nl c hc; rwa [HH1.out.1] at this) (Nat.le_trans HB3.out.1 HBw.out.size) _ 1 rfl (dd == 0) ((HM.out.hb 3 _ _ _ rfl).cell (k := 0) rfl) HLN.out.2 ?_
      intro V17 v2 ho1 hob hgr
      have HP3 := Lib.hid (HOv.out.pushN (W' := V17) c hc v2 (dd == 0) ho1 (by rw [HH1.out.1]; rcases hob with h1 | h1; exact .inl h1; exact .inr (fun b hb => by rw [h1] at hb; injection hb with hb; omega)) (fun b hlt hne _ => hgr.block b hlt (by rw [HH1.out.1] at hne; exact hne)))
      have HO2b := Lib.hid (show v2.ownBlock = (h1.sl (2 * c + 1)).ownBlock ∨ ∀ b, v2.ownBlock = some b → W2.heap.size ≤ b by rw [HH1.out.1]; rcases hob with h1 | h1; exact .inl h1; exact .inr (fun b hb => by rw [h1] at hb; injection hb with hb; have := HBw.out.size; have := HB3.out.2; omega))
      replace HM := Lib.hid (HM.out.grow hgr (fun g hg => by
        have hown : OwnB h1 g := ⟨2 * c + 1, (by omega), (by rw [HH1.out.1]; exact hg)⟩
        have h1 := HOS.out g hown
        have h2 := HXX.out g hown
        have h4 := HV.out.lo
        refine ⟨.inl (.inr hown), ?_⟩
        rintro ⟨i, E, u, hi⟩
        match i, hi with
        | 0, hi => simp at hi; omega
        | 1, hi => simp at hi; omega
        | 2, hi => simp at hi; exact h2 hi.1.symm
        | 3, hi => simp at hi; have := HNB2.out; omega
        | i + 4, hi => simp at hi))
      obtain ⟨vb, vm, vd, rfl⟩ := ownsRow_form ho1
      clear ho1 hob hgr HOv HBw
      refine hK _ _ ⟨(fun y => ∃ q : CW [(⟨H, c * 5 + 3, none⟩, .int .i64 dd)], y = q.1), ⟨⟨_, (allc ((HM.out.hb 1 _ _ _ rfl).cell (k := c * 5 + 3) HDD1.out) (alln _))⟩, rfl⟩, fun _ h => h, ?_⟩
      clear hK K
      (try simp only [Act.put, List.setIfInBounds_toArray, List.set_cons_succ, List.set_cons_zero])
      repeat (go_big_quiet_step (fail))
      refine wpQuiet_nil ?_
      refine wpOp_step rfl (fun K hK => ?_)
      rw [if_pos (by rfl)]
      refine wpOm_stS HM 67 (.tmp 256) (.tmp 253) rfl rfl sizeOf67 1 (c * 5 + 1) rfl vb vm vd rfl rfl (by rw [HD1.out.size]; omega) ?_
      intro V18 hoth hsz hM
      (try simp only [List.cons_append, List.nil_append, List.set_cons_succ, List.set_cons_zero, Nat.reduceAdd] at hM)
      replace HM := hM
      have HD2 := Lib.hid (HD1.out.setN c hc (.slice vb vm vd))
      have HP4 := Lib.hid (HP3.out.keep (W' := V18) (fun b h1 h2 => hoth b (by have := HV.out.lo; omega)))
      have HDD2 := Lib.hid (HD2.out.dd c hc)
      rw [show (h1.setS (2 * c + 1) (.slice vb vm vd)).dd c = dd from (congrFun HH1.out.2.1 c).trans HED.out] at HDD2
      clear hM hoth hsz
      refine hK _ _ ⟨(fun y => ∃ q : CW [(⟨H, c * 5 + 3, none⟩, .int .i64 dd)], y = q.1), ⟨⟨_, (allc ((HM.out.hb 1 _ _ _ rfl).cell (k := c * 5 + 3) HDD2.out) (alln _))⟩, rfl⟩, fun _ h => h, ?_⟩
      clear hK K
      (try simp only [Act.put, List.setIfInBounds_toArray, List.set_cons_succ, List.set_cons_zero])
      refine wpQuiet_nil ?_
      refine NoPanic.normal ?_
      clear f0
      go_wp2_with fail
      go_ret
      have hPS := PH.set (R := R) (H := H) (h := h1) HO2b.out (i0 := 2 * c + 1) (by omega)
      have hpm : ∀ b, b < W2.heap.size → PH R H h b → ¬ OL [(R, C', 74), (H, D, 72), (w.heap.size, #[.int .i64 cl, .int .i64 dO, .int .i64 nN], 69)] b → V18.heap[b]? = W2.heap[b]? := fun b hlt hb hno => by
        have e1 := HMU.out.old b hlt (fun e => by
          rcases e with e | ⟨i, hi, e⟩
          · exact hno e
          · exact hb.2.2 i hi e)
        have hb1 := HH1.out.2.2 b hb hlt
        have e2 := HM.out.old b (Nat.lt_of_lt_of_le hlt HB3.out.2) (fun e => by
          rcases e with e | ⟨i, hi, e⟩
          · refine hno ?_
            obtain ⟨i, E, u, hi⟩ := e
            match i, hi with
            | 0, hi => exact ⟨0, E, u, hi⟩
            | 1, hi => simp at hi; exact ⟨1, D, 72, by rw [hi.1]; rfl⟩
            | 2, hi => exact ⟨2, E, u, hi⟩
            | i + 3, hi => simp at hi
          · exact hb1.2.2 i hi e)
        exact e2.trans e1
      refine ⟨rfl, C', _, s', h1.setS (2 * c + 1) (.slice vb vm vd), ⟨?_, HM.out.hb 1 _ _ _ rfl, HD2.out, HP4.out, HV.out.ne, HV.out.lo⟩, ⟨HM.out.os.trans (HMU.out.os.trans HMT.out.os), HM.out.tape.trans (HMU.out.tape.trans HMT.out.tape), HM.out.output.trans (HMU.out.output.trans HMT.out.output), Nat.le_trans HMT.out.size (Nat.le_trans HMU.out.size HM.out.size), fun b hlt hb => ?_⟩, HOT.out.1, HOT.out.2, HH1.out.2.1, fun b hb hlt => hPS b (HH1.out.2.2 b hb (Nat.lt_of_lt_of_le hlt HMT.out.size)) (Nat.lt_of_lt_of_le hlt HMT.out.size)⟩
      · have h1w := HR2.out.weak (Q := fun b => (PH R H h b ∧ ¬ OL [(R, C', 74), (H, D, 72), (w.heap.size, #[.int .i64 cl, .int .i64 dO, .int .i64 nN], 69)] b) ∧ PH R H (h1.setS (2 * c + 1) (.slice vb vm vd)) b) (fun b hb hlt => ⟨⟨hb.1, fun e => hb.2 (OL.two (H := 0) (D := #[]) (D' := #[]) (t' := 0) e)⟩, hPS b (HH1.out.2.2 b hb.1 hlt) hlt⟩)
        refine (h1w.oth (W' := V18) (fun b hb hlt => ?_)).weak (fun b hb _ => hb.2)
        rcases hb with hb | rfl
        · exact hpm b hlt hb.1.1 hb.1.2
        · exact (HM.out.hb 0 _ _ _ rfl).trans HR2.out.hb.symm
      · have hX : ¬ (b = R ∨ b = H) := fun e => by rcases e with e | e; exact hb.1 e; exact hb.2.1 e
        exact (hpm b (Nat.lt_of_lt_of_le hlt HMT.out.size) hb (ol_lt HMT.out hlt hX)).trans (HMT.out.old b hlt hX)
    · refine wpOp_step rfl (fun K hK => ?_)
      rw [if_pos (by rfl)]
      have HNB2 := Lib.hid HBw.out.size
      refine wpOm_bsB1 HM (.tmp 251) rfl 252 rfl (dd == 0) rfl ?_
      intro V19 hbe hM
      (try simp only [List.cons_append, List.nil_append, List.set_cons_succ, List.set_cons_zero, Nat.reduceAdd] at hM)
      replace HM := hM
      replace HBw := Lib.hid (HBw.out.trans (hbe.mono HBw.out.size))
      clear hM hbe
      refine hK _ _ ⟨(fun y => ∃ q : CW [(⟨H, c * 5 + 3, none⟩, .int .i64 dd)], y = q.1), ⟨⟨_, (allc ((HM.out.hb 1 _ _ _ rfl).cell (k := c * 5 + 3) HDD1.out) (alln _))⟩, rfl⟩, fun _ h => h, ?_⟩
      clear hK K
      (try simp only [Act.put, List.setIfInBounds_toArray, List.set_cons_succ, List.set_cons_zero])
      refine wpQuiet_nil ?_
      refine wpOp_step rfl (fun K hK => ?_)
      rw [if_pos (by rfl)]
      refine wpOm_ldc HM 67 (.tmp 242) rfl 243 rfl lv67 1 (c * 5 + 1) rfl rfl _ HNL1.out ?_
      refine hK _ _ ⟨(fun y => ∃ q : CW [(⟨H, c * 5 + 3, none⟩, .int .i64 dd)], y = q.1), ⟨⟨_, (allc ((HM.out.hb 1 _ _ _ rfl).cell (k := c * 5 + 3) HDD1.out) (alln _))⟩, rfl⟩, fun _ h => h, ?_⟩
      clear hK K
      (try simp only [Act.put, List.setIfInBounds_toArray, List.set_cons_succ, List.set_cons_zero])
      refine wpQuiet_nil ?_
      refine wpOp_step rfl (fun K hK => ?_)
      rw [if_pos (by rfl)]
      have HOv : Hid (OwnV B V19 h1 (upd hs c (hs c ++ [hdl])) ns) := Lib.hid (HP2.out.keep (fun b _ h2 => HBw.out.block b h2))
      refine wpO_pushB (.tmp 243) (.tmp 252) rfl 253 rfl B nlv (ns c).length _ rfl (by have := HOv.out.nl c hc; rwa [HH1.out.1] at this) (Nat.le_trans HB3.out.1 HBw.out.size) _ 1 rfl (dd == 0) ((HM.out.hb 3 _ _ _ rfl).cell (k := 0) rfl) HLN.out.2 ?_
      intro V20 v2 ho1 hob hgr
      have HP3 := Lib.hid (HOv.out.pushN (W' := V20) c hc v2 (dd == 0) ho1 (by rw [HH1.out.1]; rcases hob with h1 | h1; exact .inl h1; exact .inr (fun b hb => by rw [h1] at hb; injection hb with hb; omega)) (fun b hlt hne _ => hgr.block b hlt (by rw [HH1.out.1] at hne; exact hne)))
      have HO2b := Lib.hid (show v2.ownBlock = (h1.sl (2 * c + 1)).ownBlock ∨ ∀ b, v2.ownBlock = some b → W2.heap.size ≤ b by rw [HH1.out.1]; rcases hob with h1 | h1; exact .inl h1; exact .inr (fun b hb => by rw [h1] at hb; injection hb with hb; have := HBw.out.size; have := HB3.out.2; omega))
      replace HM := Lib.hid (HM.out.grow hgr (fun g hg => by
        have hown : OwnB h1 g := ⟨2 * c + 1, (by omega), (by rw [HH1.out.1]; exact hg)⟩
        have h1 := HOS.out g hown
        have h2 := HXX.out g hown
        have h4 := HV.out.lo
        refine ⟨.inl (.inr hown), ?_⟩
        rintro ⟨i, E, u, hi⟩
        match i, hi with
        | 0, hi => simp at hi; omega
        | 1, hi => simp at hi; omega
        | 2, hi => simp at hi; exact h2 hi.1.symm
        | 3, hi => simp at hi; have := HNB2.out; omega
        | i + 4, hi => simp at hi))
      obtain ⟨vb, vm, vd, rfl⟩ := ownsRow_form ho1
      clear ho1 hob hgr HOv HBw
      refine hK _ _ ⟨(fun y => ∃ q : CW [(⟨H, c * 5 + 3, none⟩, .int .i64 dd)], y = q.1), ⟨⟨_, (allc ((HM.out.hb 1 _ _ _ rfl).cell (k := c * 5 + 3) HDD1.out) (alln _))⟩, rfl⟩, fun _ h => h, ?_⟩
      clear hK K
      (try simp only [Act.put, List.setIfInBounds_toArray, List.set_cons_succ, List.set_cons_zero])
      repeat (go_big_quiet_step (fail))
      refine wpQuiet_nil ?_
      refine wpOp_step rfl (fun K hK => ?_)
      rw [if_pos (by rfl)]
      refine wpOm_stS HM 67 (.tmp 256) (.tmp 253) rfl rfl sizeOf67 1 (c * 5 + 1) rfl vb vm vd rfl rfl (by rw [HD1.out.size]; omega) ?_
      intro V21 hoth hsz hM
      (try simp only [List.cons_append, List.nil_append, List.set_cons_succ, List.set_cons_zero, Nat.reduceAdd] at hM)
      replace HM := hM
      have HD2 := Lib.hid (HD1.out.setN c hc (.slice vb vm vd))
      have HP4 := Lib.hid (HP3.out.keep (W' := V21) (fun b h1 h2 => hoth b (by have := HV.out.lo; omega)))
      have HDD2 := Lib.hid (HD2.out.dd c hc)
      rw [show (h1.setS (2 * c + 1) (.slice vb vm vd)).dd c = dd from (congrFun HH1.out.2.1 c).trans HED.out] at HDD2
      clear hM hoth hsz
      refine hK _ _ ⟨(fun y => ∃ q : CW [(⟨H, c * 5 + 3, none⟩, .int .i64 dd)], y = q.1), ⟨⟨_, (allc ((HM.out.hb 1 _ _ _ rfl).cell (k := c * 5 + 3) HDD2.out) (alln _))⟩, rfl⟩, fun _ h => h, ?_⟩
      clear hK K
      (try simp only [Act.put, List.setIfInBounds_toArray, List.set_cons_succ, List.set_cons_zero])
      refine wpQuiet_nil ?_
      refine NoPanic.normal ?_
      clear f0
      go_wp2_with fail
      go_ret
      have hPS := PH.set (R := R) (H := H) (h := h1) HO2b.out (i0 := 2 * c + 1) (by omega)
      have hpm : ∀ b, b < W2.heap.size → PH R H h b → ¬ OL [(R, C', 74), (H, D, 72), (w.heap.size, #[.int .i64 cl, .int .i64 dO, .int .i64 nN], 69)] b → V21.heap[b]? = W2.heap[b]? := fun b hlt hb hno => by
        have e1 := HMU.out.old b hlt (fun e => by
          rcases e with e | ⟨i, hi, e⟩
          · exact hno e
          · exact hb.2.2 i hi e)
        have hb1 := HH1.out.2.2 b hb hlt
        have e2 := HM.out.old b (Nat.lt_of_lt_of_le hlt HB3.out.2) (fun e => by
          rcases e with e | ⟨i, hi, e⟩
          · refine hno ?_
            obtain ⟨i, E, u, hi⟩ := e
            match i, hi with
            | 0, hi => exact ⟨0, E, u, hi⟩
            | 1, hi => simp at hi; exact ⟨1, D, 72, by rw [hi.1]; rfl⟩
            | 2, hi => exact ⟨2, E, u, hi⟩
            | i + 3, hi => simp at hi
          · exact hb1.2.2 i hi e)
        exact e2.trans e1
      refine ⟨rfl, C', _, s', h1.setS (2 * c + 1) (.slice vb vm vd), ⟨?_, HM.out.hb 1 _ _ _ rfl, HD2.out, HP4.out, HV.out.ne, HV.out.lo⟩, ⟨HM.out.os.trans (HMU.out.os.trans HMT.out.os), HM.out.tape.trans (HMU.out.tape.trans HMT.out.tape), HM.out.output.trans (HMU.out.output.trans HMT.out.output), Nat.le_trans HMT.out.size (Nat.le_trans HMU.out.size HM.out.size), fun b hlt hb => ?_⟩, HOT.out.1, HOT.out.2, HH1.out.2.1, fun b hb hlt => hPS b (HH1.out.2.2 b hb (Nat.lt_of_lt_of_le hlt HMT.out.size)) (Nat.lt_of_lt_of_le hlt HMT.out.size)⟩
      · have h1w := HR2.out.weak (Q := fun b => (PH R H h b ∧ ¬ OL [(R, C', 74), (H, D, 72), (w.heap.size, #[.int .i64 cl, .int .i64 dO, .int .i64 nN], 69)] b) ∧ PH R H (h1.setS (2 * c + 1) (.slice vb vm vd)) b) (fun b hb hlt => ⟨⟨hb.1, fun e => hb.2 (OL.two (H := 0) (D := #[]) (D' := #[]) (t' := 0) e)⟩, hPS b (HH1.out.2.2 b hb.1 hlt) hlt⟩)
        refine (h1w.oth (W' := V21) (fun b hb hlt => ?_)).weak (fun b hb _ => hb.2)
        rcases hb with hb | rfl
        · exact hpm b hlt hb.1.1 hb.1.2
        · exact (HM.out.hb 0 _ _ _ rfl).trans HR2.out.hb.symm
      · have hX : ¬ (b = R ∨ b = H) := fun e => by rcases e with e | e; exact hb.1 e; exact hb.2.1 e
        exact (hpm b (Nat.lt_of_lt_of_le hlt HMT.out.size) hb (ol_lt HMT.out hlt hX)).trans (HMT.out.old b hlt hX)
end Go.Proofs.Ytgpdknacnmapiaa
