/-
  Parts of a proof, put together: SlotsPlay.
-/
import Derived.Test.YtgpdknacnmapiaaZi01
import Derived.Test.YtgpdknacnmapiaaZi02
import Derived.Test.YtgpdknacnmapiaaZi03
import Derived.Test.YtgpdknacnmapiaaZi04
import Derived.Test.YtgpdknacnmapiaaZi05
import Derived.Test.YtgpdknacnmapiaaZi06
import Derived.Test.YtgpdknacnmapiaaZi07
import Derived.Test.YtgpdknacnmapiaaZi08
import Derived.Test.YtgpdknacnmapiaaZi09
import Derived.Test.YtgpdknacnmapiaaZi10
import Derived.Test.YtgpdknacnmapiaaZi11
import Derived.Test.YtgpdknacnmapiaaZi12
import Derived.Test.YtgpdknacnmapiaaZi13
import Derived.Test.YtgpdknacnmapiaaZi14
import Derived.Test.YtgpdknacnmapiaaZi15
import Derived.Test.YtgpdknacnmapiaaZi16
import Derived.Test.YtgpdknacnmapiaaZi17
import Derived.Test.YtgpdknacnmapiaaZi18
import Derived.Test.YtgpdknacnmapiaaZi19
import Derived.Test.YtgpdknacnmapiaaZi20
import Derived.Test.YtgpdknacnmapiaaZi21
import Derived.Test.YtgpdknacnmapiaaZi22
import Derived.Test.YtgpdknacnmapiaaZi23
import Derived.Test.YtgpdknacnmapiaaZi24
import Derived.Test.YtgpdknacnmapiaaZi25
import Derived.Test.YtgpdknacnmapiaaZi26
import Derived.Test.YtgpdknacnmapiaaZi27
import Derived.Test.YtgpdknacnmapiaaZi28
import Derived.Test.YtgpdknacnmapiaaZi29
import Derived.Test.YtgpdknacnmapiaaZi30
import Derived.Test.YtgpdknacnmapiaaZi31
import Derived.Test.YtgpdknacnmapiaaZi32
import Derived.Test.YtgpdknacnmapiaaZi33
import Derived.Test.YtgpdknacnmapiaaZi34
import Derived.Deep.QuietTactic
namespace Go.Proofs.Ytgpdknacnmapiaa
set_option linter.unusedVariables false
set_option linter.unusedSimpArgs false
open Go.RowKit
open Go
open Go.Deep
theorem many_p (a : Int) : ∃ m : Nat, (1 ≤ m ∧ m ≤ 4) ∧ wrap64 (1 + bits .and .i64 a 3) = (m : Int) := by
  have h : bits .and .i64 a 3 = a % 4 := and_mask a 2 (by omega)
  rw [h]
  refine ⟨(1 + a % 4).toNat, by omega, ?_⟩
  unfold wrap64
  omega
theorem cell_dN {w : World} {n b o : Nat} {v : Value} (h : w.cell? ⟨b, o, none⟩ = some v) : (w.drewN n).cell? ⟨b, o, none⟩ = some v := ((below_drewN w n).cell (World.block_lt_of_cell? _ _ h)).trans h
theorem cell_bel {w w' : World} (hb : Below w.heap.size w w') {b o : Nat} {v : Value} (h : w.cell? ⟨b, o, none⟩ = some v) : w'.cell? ⟨b, o, none⟩ = some v := (hb.cell (World.block_lt_of_cell? _ _ h)).trans h
theorem rng3 {w : World} {b o : Nat} {v0 v1 v2 : Value} (h0 : w.cell? ⟨b, o, none⟩ = some v0) (h1 : w.cell? ⟨b, o + 1, none⟩ = some v1) (h2 : w.cell? ⟨b, o + 2, none⟩ = some v2) : w.rangeAt b o [v0, v1, v2] := fun j v hv => by
  match j, hv with
  | 0, hv => simp at hv; subst hv; exact h0
  | 1, hv => simp at hv; subst hv; exact h1
  | 2, hv => simp at hv; subst hv; exact h2
  | j + 3, hv => simp at hv
set_option maxHeartbeats 16000000 in
set_option maxRecDepth 100000 in
theorem lawSlotsPlay_walk (q0 : Value × List Pk3) (a1 : Int) (w : World) (w0 : SlR w q0.1 q0.2) (w1 : (Lit.int .i64 a1).wf = true) : Calls Try.prog 9 #[q0.1, .int .i64 a1] w fun e w' => e = .returned (.bool true) ∧ Below w.heap.size w w' := by
  obtain ⟨v, pl⟩ := q0
  obtain ⟨ao, cap, e, hcap, hmax, hcell⟩ := w0
  simp only at e hcell hcap ⊢
  subst e
  obtain ⟨n, hn⟩ : ∃ n, pl.length = n := ⟨_, rfl⟩
  rw [hn] at hcap ⊢
  have HCELL := Lib.hid hcell
  have HLEN := Lib.hid hn
  clear hcell hn w1
  by_cases h300 : 300 < n
  · have dl : decide ((300 : Int) < (n : Int)) = true := by simp; omega
    clear h300
    go_enter Try.func9, Try.ntmps9
    go_wp2_with fail
    refine (wakes14 _).mono ?_
    rintro e Y ⟨rfl, hb⟩
    have HY := Lib.hid hb
    clear hb
    go_wp2_with fail
    go_ret
    exact ⟨rfl, HY.out⟩
  have dl : decide ((300 : Int) < (n : Int)) = false := by simp; omega
  obtain ⟨m, hm, em⟩ := many_p a1
  have HMM := Lib.hid hm
  clear hm
  go_enter Try.func9, Try.ntmps9
  go_wp2_with fail
  refine (new_run14 _).mono ?_
  rintro e W1 ⟨R, cv, d1, d2, N, cur, rfl, h1, h2, rfl, hcur, hM0⟩
  have H0 := Lib.hid (And.intro h1 (And.intro h2 (And.intro hcur hM0)))
  clear h1 h2 hcur hM0
  have HM := Lib.hid (Mem.start W1)
  go_wp2_with (first
    | (refine wpm_al72 HM rfl rfl ?_; intro W2 hM; (try simp only [List.cons_append, List.nil_append, List.set_cons_succ, List.set_cons_zero, Nat.reduceAdd] at hM); replace HM := hM; clear hM))
  have HPV := Lib.hid (pv_start (m := m) H0.out.1 H0.out.2.1 H0.out.2.2.1 H0.out.2.2.2 HM.out)
  have HRR : Hid (w.heap.size ≤ W1.heap.size + 1 ∧ w.heap.size ≤ R ∧ w.heap.size ≤ W1.heap.size) := Lib.hid ⟨by have := H0.out.2.2.2.size; omega, (H0.out.2.2.2.st 1 _ _ _ rfl).elim False.elim id, H0.out.2.2.2.size⟩
  have HBL := Lib.hid (H0.out.2.2.2.bel.trans (HM.out.bel.mono H0.out.2.2.2.size))
  clear HM H0
  generalize W1.heap.size + 1 = B at *
  generalize W1.heap.size = H at *
  clear em
  go_loopw [7] (fun iv wr => ∃ (j : Nat) (σ : P4), j ≤ n ∧ iv = .int .i64 j ∧ Below w.heap.size w wr ∧ PV m R H B wr σ ∧ J4 j m σ) (fun iv _ => n - (intOf iv).toNat)
  case atStart => exact ⟨0, _, Nat.zero_le _, rfl, HBL.out, HPV.out, J4.start m⟩
  case round =>
    clear HBL HPV
    obtain ⟨j, σ, hj, rfl, hbl, hpv, hjj⟩ := hrel
    have HBL := Lib.hid hbl
    have HPV := Lib.hid hpv
    have HJ := Lib.hid hjj
    clear hbl hpv hjj
    by_cases hlt : j < n
    · have dj : decide ((j : Int) < (n : Int)) = true := by simp; omega
      obtain ⟨⟨cl, dO, nN⟩, hx⟩ : ∃ x, pl[j]? = some x := ⟨_, List.getElem?_eq_getElem (by rw [HLEN.out]; exact hlt)⟩
      obtain ⟨xb, xo, eao, c0, c1, c2⟩ := HCELL.out j _ hx
      subst eao
      have kx0 := cell_bel HBL.out c0
      have kx1 := cell_bel HBL.out c1
      have kx2 := cell_bel HBL.out c2
      obtain ⟨c, hc4, ec, hwho⟩ := who_p cl wr
      clear c0 c1 c2 hx hwho
      go_wp2_with fail
      (try simp only [Act.put, List.setIfInBounds_toArray, List.set_cons_succ, List.set_cons_zero])
      refine wp_region_noPanic ?_
      refine wp_region_plw (.step [true, true, true, true, false, true] (.cons 4 (.step [] (.cons 6 (.step [false, false, false, false, false, false, false, true, true, true, true, true, true, true, false, true, true, true, true, true] (.cons 14 (.step [] (.cons 20 (.step [] (.cons 21 (.step [false, false, false, false, false, false, false, false, false, false, false, false, false, false, false, false, false, false, false, false, false, false, true, true, true, true, true, true, true, true, false, true, true, true, true, true] (.cons 30 (.step [] (.cons 36 (.step [] (.cons 37 (.last [false, false, false, false, false, false, false, false, false, false, false, false, false, false, false, false, false, false, false, false, false, false, false, false, false, false, false, false, false, false, false, false, false, false, false, false, false, false, true, true]) .nil)) .nil)) .nil)) .nil)) .nil)) .nil)) .nil)) .nil)) (fun _ => True) (by kernel_rfl) (by kernel_rfl) (by kernel_rfl) (fun _ _ _ _ _ _ _ h => h) trivial ?_
      simp only [wpPw, wpBw, selF, and_true]
      repeat (go_big_quiet_step (fail))
      refine wpQuiet_nil ?_
      refine wpOp_step rfl (fun K hK => ?_)
      rw [if_pos (by rfl)]
      obtain ⟨fs69, hu69⟩ := und69
      refine wp_load_mid 69 (.tmp 25) rfl xb (xo + j * 3) rfl [.int .i64 cl, .int .i64 dO, .int .i64 nN] (.struct fs69) (rng3 kx0 kx1 kx2) hu69 rfl (by rw [inf69]; rfl) ?_
      refine hK _ _ ⟨fun _ => True, trivial, fun _ h => h, ?_⟩
      clear hK K hu69 fs69
      (try simp only [Act.put, List.setIfInBounds_toArray, List.set_cons_succ, List.set_cons_zero])
      refine wpQuiet_nil ?_
      refine wpOp_step rfl (fun K hK => ?_)
      go_simp
      refine (pick14 c hc4 cl dO nN m ec HMM.out R H B _ σ (HPV.out.below (below_drew _)) (HJ.out.ok HMM.out (by omega))).mono ?_
      rintro e W4 ⟨rfl, hk, hpv⟩
      have HBW := Lib.hid ((HBL.out.trans ((below_drew _).mono HBL.out.size)).trans (hk.below HRR.out.1 HRR.out.2.1 HRR.out.2.2 (Nat.le_trans HBL.out.size (Nat.le_refl _))))
      have HJ2 := Lib.hid (HJ.out.pick HMM.out (by omega) c hc4 dO nN)
      replace HPV := Lib.hid hpv
      clear hk hpv HJ HBL kx0 kx1 kx2
      generalize pk4 m c dO nN σ = σ2 at *
      obtain ⟨PP, cv, kc0, hcv⟩ := HPV.out.cells
      have HCV := Lib.hid hcv
      obtain ⟨cb, co, cc, rfl, -⟩ := hcv
      have G0 : Hid (World.cell? W4 ⟨R, 0, none⟩ = some (.slice (some ⟨cb, co, none⟩) 771 cc)) := Lib.hid kc0
      have HB4 : Hid (Below W4.heap.size W4 W4) := Lib.hid (Below.refl _ _)
      clear kc0
      haveI : Inhabited (CW [(⟨R, 0, none⟩, .slice (some ⟨cb, co, none⟩) 771 cc)]) := ⟨⟨_, (allc G0.out (alln _))⟩⟩
      have f0 : ∀ q : CW [(⟨R, 0, none⟩, .slice (some ⟨cb, co, none⟩) 771 cc)], q.1.cell? ⟨R, 0, none⟩ = some (.slice (some ⟨cb, co, none⟩) 771 cc) := fun q => q.2 (⟨R, 0, none⟩, .slice (some ⟨cb, co, none⟩) 771 cc) (by simp)
      refine hK _ _ ⟨(fun y => ∃ q : CW [(⟨R, 0, none⟩, .slice (some ⟨cb, co, none⟩) 771 cc)], y = q.1), ⟨⟨_, (allc G0.out (alln _))⟩, rfl⟩, fun _ _ => trivial, ?_⟩
      clear hK K
      (try simp only [Act.put, List.setIfInBounds_toArray, List.set_cons_succ, List.set_cons_zero])
      repeat (go_big_quiet_step (fail))
      refine wpQuiet_nil ?_
      refine wpOp_step rfl (fun K hK => ?_)
      go_simp
      refine (used_p true _ (HCV.out.below HB4.out)).mono ?_
      rintro e V1 ⟨⟨v1, rfl, hv1⟩, hbu⟩
      replace HB4 := Lib.hid (HB4.out.trans (hbu.mono HB4.out.size))
      replace G0 := Lib.hid (cell_bel hbu G0.out)
      have Hv1 := Lib.hid hv1
      clear hv1 hbu
      obtain ⟨aov1, capv1, rfl⟩ := Hv1.out.form2
      refine hK _ _ ⟨(fun y => ∃ q : CW [(⟨R, 0, none⟩, .slice (some ⟨cb, co, none⟩) 771 cc)], y = q.1), ⟨⟨_, (allc G0.out (alln _))⟩, rfl⟩, fun _ h => h, ?_⟩
      clear hK K
      (try simp only [Act.put, List.setIfInBounds_toArray, List.set_cons_succ, List.set_cons_zero])
      refine wpQuiet_nil ?_
      refine wpOp_step rfl (fun K hK => ?_)
      go_simp
      refine (used_r_true _ (HCV.out.below HB4.out)).mono ?_
      rintro e V2 ⟨⟨v2, rfl, hv2⟩, hbu⟩
      replace HB4 := Lib.hid (HB4.out.trans (hbu.mono HB4.out.size))
      replace G0 := Lib.hid (cell_bel hbu G0.out)
      replace Hv1 := Lib.hid (Hv1.out.below hbu)
      have Hv2 := Lib.hid hv2
      clear hv2 hbu
      obtain ⟨aov2, capv2, rfl⟩ := Hv2.out.form2
      refine hK _ _ ⟨(fun y => ∃ q : CW [(⟨R, 0, none⟩, .slice (some ⟨cb, co, none⟩) 771 cc)], y = q.1), ⟨⟨_, (allc G0.out (alln _))⟩, rfl⟩, fun _ h => h, ?_⟩
      clear hK K
      (try simp only [Act.put, List.setIfInBounds_toArray, List.set_cons_succ, List.set_cons_zero])
      refine wpQuiet_nil ?_
      refine wpOp_step rfl (fun K hK => ?_)
      go_simp
      refine (ints_same29 _ _ _ _ Hv1.out.ints Hv2.out.ints (Nat.le_trans (usedL_len _ _ _) (by have := most_le true; omega))).mono ?_
      rintro e V3 ⟨rfl, nq, rfl⟩
      replace HB4 := Lib.hid (HB4.out.trans ((below_drewN _ nq).mono HB4.out.size))
      replace G0 := Lib.hid (cell_dN (n := nq) G0.out)
      clear Hv1 Hv2
      refine hK _ _ ⟨(fun y => ∃ q : CW [(⟨R, 0, none⟩, .slice (some ⟨cb, co, none⟩) 771 cc)], y = q.1), ⟨⟨_, (allc G0.out (alln _))⟩, rfl⟩, fun _ h => h, ?_⟩
      clear hK K
      (try simp only [Act.put, List.setIfInBounds_toArray, List.set_cons_succ, List.set_cons_zero])
      repeat (go_big_quiet_step (fail))
      refine wpQuiet_nil ?_
      refine wpOp_step rfl (fun K hK => ?_)
      go_simp
      refine (used_p false _ (HCV.out.below HB4.out)).mono ?_
      rintro e V4 ⟨⟨v3, rfl, hv3⟩, hbu⟩
      replace HB4 := Lib.hid (HB4.out.trans (hbu.mono HB4.out.size))
      replace G0 := Lib.hid (cell_bel hbu G0.out)
      have Hv3 := Lib.hid hv3
      clear hv3 hbu
      obtain ⟨aov3, capv3, rfl⟩ := Hv3.out.form2
      refine hK _ _ ⟨(fun y => ∃ q : CW [(⟨R, 0, none⟩, .slice (some ⟨cb, co, none⟩) 771 cc)], y = q.1), ⟨⟨_, (allc G0.out (alln _))⟩, rfl⟩, fun _ h => h, ?_⟩
      clear hK K
      (try simp only [Act.put, List.setIfInBounds_toArray, List.set_cons_succ, List.set_cons_zero])
      refine wpQuiet_nil ?_
      refine wpOp_step rfl (fun K hK => ?_)
      go_simp
      refine (used_r_false _ (HCV.out.below HB4.out)).mono ?_
      rintro e V5 ⟨⟨v4, rfl, hv4⟩, hbu⟩
      replace HB4 := Lib.hid (HB4.out.trans (hbu.mono HB4.out.size))
      replace G0 := Lib.hid (cell_bel hbu G0.out)
      replace Hv3 := Lib.hid (Hv3.out.below hbu)
      have Hv4 := Lib.hid hv4
      clear hv4 hbu
      obtain ⟨aov4, capv4, rfl⟩ := Hv4.out.form2
      refine hK _ _ ⟨(fun y => ∃ q : CW [(⟨R, 0, none⟩, .slice (some ⟨cb, co, none⟩) 771 cc)], y = q.1), ⟨⟨_, (allc G0.out (alln _))⟩, rfl⟩, fun _ h => h, ?_⟩
      clear hK K
      (try simp only [Act.put, List.setIfInBounds_toArray, List.set_cons_succ, List.set_cons_zero])
      refine wpQuiet_nil ?_
      refine wpOp_step rfl (fun K hK => ?_)
      go_simp
      refine (ints_same29 _ _ _ _ Hv3.out.ints Hv4.out.ints (Nat.le_trans (usedL_len _ _ _) (by have := most_le false; omega))).mono ?_
      rintro e V6 ⟨rfl, nq, rfl⟩
      replace HB4 := Lib.hid (HB4.out.trans ((below_drewN _ nq).mono HB4.out.size))
      replace G0 := Lib.hid (cell_dN (n := nq) G0.out)
      clear Hv3 Hv4
      refine hK _ _ ⟨(fun y => ∃ q : CW [(⟨R, 0, none⟩, .slice (some ⟨cb, co, none⟩) 771 cc)], y = q.1), ⟨⟨_, (allc G0.out (alln _))⟩, rfl⟩, fun _ h => h, ?_⟩
      clear hK K
      (try simp only [Act.put, List.setIfInBounds_toArray, List.set_cons_succ, List.set_cons_zero])
      repeat (go_big_quiet_step (fail))
      refine wpQuiet_nil ?_
      refine NoPanic.normal ?_
      clear f0 G0
      go_wp2_with fail
      go_roundw
      case rel => exact ⟨j + 1, σ2, hlt, rfl, HBW.out.trans (HB4.out.mono HBW.out.size), HPV.out.below HB4.out, HJ2.out⟩
      case measure => simp [intOf]; omega
    · have e : j = n := by omega
      subst e
      have dj : decide ((j : Int) < (j : Int)) = false := by simp
      go_wp2_with fail
      refine (wakes14 _).mono ?_
      rintro e Y ⟨rfl, hb⟩
      have HY := Lib.hid (HBL.out.trans (hb.mono HBL.out.size))
      clear hb
      go_wp2_with fail
      go_ret
      exact ⟨rfl, HY.out⟩
end Go.Proofs.Ytgpdknacnmapiaa
