/-
  Parts of a proof, put together: SlotsApart.
-/
import Derived.Test.YtgpdknacnmapiaaZj01
import Derived.Test.YtgpdknacnmapiaaZj02
import Derived.Test.YtgpdknacnmapiaaZj03
import Derived.Test.YtgpdknacnmapiaaZj04
import Derived.Test.YtgpdknacnmapiaaZj05
import Derived.Test.YtgpdknacnmapiaaZj06
import Derived.Test.YtgpdknacnmapiaaZj07
import Derived.Test.YtgpdknacnmapiaaZj08
import Derived.Test.YtgpdknacnmapiaaZj09
import Derived.Test.YtgpdknacnmapiaaZj10
import Derived.Test.YtgpdknacnmapiaaZj11
import Derived.Test.YtgpdknacnmapiaaZj12
import Derived.Test.YtgpdknacnmapiaaZj13
import Derived.Test.YtgpdknacnmapiaaZj14
import Derived.Test.YtgpdknacnmapiaaZj15
import Derived.Test.YtgpdknacnmapiaaZj16
import Derived.Test.YtgpdknacnmapiaaZj17
import Derived.Test.YtgpdknacnmapiaaZj18
import Derived.Test.YtgpdknacnmapiaaZj19
import Derived.Test.YtgpdknacnmapiaaZj20
import Derived.Test.YtgpdknacnmapiaaZj21
import Derived.Test.YtgpdknacnmapiaaZj22
import Derived.Test.YtgpdknacnmapiaaZj23
import Derived.Test.YtgpdknacnmapiaaZj24
import Derived.Test.YtgpdknacnmapiaaZj25
import Derived.Test.YtgpdknacnmapiaaZj26
import Derived.Test.YtgpdknacnmapiaaZj27
import Derived.Test.YtgpdknacnmapiaaZj28
import Derived.Test.YtgpdknacnmapiaaZj29
import Derived.Test.YtgpdknacnmapiaaZj30
import Derived.Test.YtgpdknacnmapiaaZj31
import Derived.Test.YtgpdknacnmapiaaZj32
import Derived.Test.YtgpdknacnmapiaaZj33
import Derived.Test.YtgpdknacnmapiaaZj34
namespace Go.Proofs.Ytgpdknacnmapiaa
set_option linter.unusedVariables false
set_option linter.unusedSimpArgs false
open Go.RowKit
open Go
theorem many_p (a : Int) : ∃ m : Nat, (1 ≤ m ∧ m ≤ 4) ∧ wrap64 (1 + bits .and .i64 a 3) = (m : Int) := by
  have h : bits .and .i64 a 3 = a % 4 := and_mask a 2 (by omega)
  rw [h]
  refine ⟨(1 + a % 4).toNat, by omega, ?_⟩
  unfold wrap64
  omega
theorem cell_dN {w : World} {n b o : Nat} {v : Value} (h : w.cell? ⟨b, o, none⟩ = some v) : (w.drewN n).cell? ⟨b, o, none⟩ = some v := ((below_drewN w n).cell (World.block_lt_of_cell? _ _ h)).trans h
theorem cell_bel {w w' : World} (hb : Below w.heap.size w w') {b o : Nat} {v : Value} (h : w.cell? ⟨b, o, none⟩ = some v) : w'.cell? ⟨b, o, none⟩ = some v := (hb.cell (World.block_lt_of_cell? _ _ h)).trans h
theorem J4.slot {N m : Nat} {σ : P4} (hJ : J4 N m σ) (hm : 1 ≤ m ∧ m ≤ 4) {c : Nat} (hc : c < 4) (k : Nat) (x : Int) (nd : Bool) (h1 : (σ.hs c)[k]? = some x) (h2 : (σ.ns c)[k]? = some nd) : ∃ s p q : Nat, bits .and .i64 x 255 = (s : Int) ∧ wrap64 ((c : Int) * (m : Int)) = (p : Int) ∧ wrap64 ((p : Int) + (m : Int)) = (q : Int) ∧ decide ((s : Int) < (p : Int)) = false ∧ decide ((q : Int) ≤ (s : Int)) = false ∧ decide (s < p) = false ∧ decide (q ≤ s) = false ∧ x % 256 = s := by
  obtain ⟨s, e1, e2, e3, e4, -⟩ := (hJ.hd c hc k x nd h1 h2).mod hc hm
  have hcm := cm_lt hc hm
  refine ⟨s, c * m, c * m + m, by rw [and_255]; exact e1, ?_, ?_, ?_, ?_, ?_, ?_, e1⟩
  · rw [cm_cast]; unfold wrap64; omega
  · unfold wrap64; omega
  · simp only [decide_eq_false_iff_not]; omega
  · simp only [decide_eq_false_iff_not]; omega
  · simp only [decide_eq_false_iff_not]; omega
  · simp only [decide_eq_false_iff_not]; omega
theorem J4.freed {N m : Nat} {σ : P4} (hJ : J4 N m σ) (hm : 1 ≤ m ∧ m ≤ 4) {c : Nat} (hc : c < 4) (x : Int) (nd : Bool) (ho : σ.os c = some (.fr0 x nd)) : J4 N m { σ with l := l4 c m σ.l (.fr0 x nd), os := upd σ.os c none } := by
  obtain ⟨h1, h2, h3⟩ := hJ.st c hc _ ho
  simp only [l4]
  obtain ⟨g, s, rfl, g1, g2, g3, g4, g5⟩ := h2
  have e1 : (g * 256 + (s : Int)) % 256 = s := by have := rng_16 hc hm g4; omega
  have e2 : (g * 256 + (s : Int)) / 256 = g := by have := rng_16 hc hm g4; omega
  rw [e1, e2, Int.toNat_natCast]
  exact hJ.store hm c hc nd s g3 g4 (g * 2) ⟨by omega, by omega⟩ (fun k x f1 f2 => by have := h3 k x f1 f2; rwa [e1] at this)
theorem pk4_free {m c : Nat} {nN : Int} {σ : P4} (ho : σ.os c = none) (hne : σ.hs c ≠ []) {hdl : Int} {nd : Bool} (h1 : (σ.hs c)[kOf nN (σ.hs c).length]? = some hdl) (h2 : (σ.ns c)[kOf nN (σ.hs c).length]? = some nd) : (pk4 m c 2 nN σ).os c = some (.fr0 hdl nd) := by
  unfold pk4
  rw [ho]
  dsimp only
  rw [if_neg (by decide), if_neg (by decide), if_pos ⟨rfl, hne⟩]
  show upd σ.os c _ c = _
  rw [upd_same, List.getD_eq_getElem?_getD, List.getD_eq_getElem?_getD, h1, h2]
  rfl
set_option maxHeartbeats 16000000 in
set_option maxRecDepth 100000 in
theorem lawSlotsApart_walk (q0 : Value × List Pk3) (a1 : Int) (w : World) (w0 : SlR w q0.1 q0.2) (w1 : (Lit.int .i64 a1).wf = true) : Calls Try.prog 7 #[q0.1, .int .i64 a1] w fun e w' => e = .returned (.bool true) ∧ Below w.heap.size w w' := by
  obtain ⟨v, pl⟩ := q0
  obtain ⟨ao, cap, e, hcap, hmax, hcell⟩ := w0
  simp only at e hcell hcap ⊢
  subst e
  obtain ⟨n, hn⟩ : ∃ n, pl.length = n := ⟨_, rfl⟩
  rw [hn] at hcap ⊢
  have HCELL := Lib.hid hcell
  have HLEN := Lib.hid hn
  clear hcell hn w1
  by_cases h300 : 300 < n
  · have dl : decide ((300 : Int) < (n : Int)) = true := by simp; omega
    clear h300
    go_enter Try.func7, Try.ntmps7
    go_wp2_with fail
    refine (wakes14 _).mono ?_
    rintro e Y ⟨rfl, hb⟩
    have HY := Lib.hid hb
    clear hb
    go_wp2_with fail
    go_ret
    exact ⟨rfl, HY.out⟩
  have dl : decide ((300 : Int) < (n : Int)) = false := by simp; omega
  obtain ⟨m, hm, em⟩ := many_p a1
  have HMM := Lib.hid hm
  clear hm
  go_enter Try.func7, Try.ntmps7
  go_wp2_with fail
  refine (new_run14 _).mono ?_
  rintro e W1 ⟨R, cv, d1, d2, N, cur, rfl, h1, h2, rfl, hcur, hM0⟩
  have H0 := Lib.hid (And.intro h1 (And.intro h2 (And.intro hcur hM0)))
  clear h1 h2 hcur hM0
  have HM := Lib.hid (Mem.start W1)
  go_wp2_with (first
    | (refine wpm_al72 HM rfl rfl ?_; intro W2 hM; (try simp only [List.cons_append, List.nil_append, List.set_cons_succ, List.set_cons_zero, Nat.reduceAdd] at hM); replace HM := hM; clear hM))
  have HPV := Lib.hid (pv_start (m := m) H0.out.1 H0.out.2.1 H0.out.2.2.1 H0.out.2.2.2 HM.out)
  have HRR : Hid (w.heap.size ≤ W1.heap.size + 1 ∧ w.heap.size ≤ R ∧ w.heap.size ≤ W1.heap.size) := Lib.hid ⟨by have := H0.out.2.2.2.size; omega, (H0.out.2.2.2.st 1 _ _ _ rfl).elim False.elim id, H0.out.2.2.2.size⟩
  have HBL := Lib.hid (H0.out.2.2.2.bel.trans (HM.out.bel.mono H0.out.2.2.2.size))
  clear HM H0
  generalize W1.heap.size + 1 = B at *
  generalize W1.heap.size = H at *
  clear em
  go_loopw [7] (fun iv wr => ∃ (j : Nat) (σ : P4), j ≤ n ∧ iv = .int .i64 j ∧ Below w.heap.size w wr ∧ PV m R H B wr σ ∧ J4 j m σ) (fun iv _ => n - (intOf iv).toNat)
  case atStart => exact ⟨0, _, Nat.zero_le _, rfl, HBL.out, HPV.out, J4.start m⟩
  case round =>
    clear HBL HPV
    obtain ⟨j, σ, hj, rfl, hbl, hpv, hjj⟩ := hrel
    have HBL := Lib.hid hbl
    have HPV := Lib.hid hpv
    have HJ := Lib.hid hjj
    clear hbl hpv hjj
    by_cases hlt : j < n
    · have dj : decide ((j : Int) < (n : Int)) = true := by simp; omega
      obtain ⟨⟨cl, dO, nN⟩, hx⟩ : ∃ x, pl[j]? = some x := ⟨_, List.getElem?_eq_getElem (by rw [HLEN.out]; exact hlt)⟩
      obtain ⟨xb, xo, eao, c0, c1, c2⟩ := HCELL.out j _ hx
      subst eao
      have kx0 := cell_bel HBL.out c0
      have kx1 := cell_bel HBL.out c1
      have kx2 := cell_bel HBL.out c2
      obtain ⟨c, hc4, ec, hwho⟩ := who_p cl wr
      have HWHO := Lib.hid hwho
      obtain ⟨ao, cap, kh, hcp, hxs⟩ := HPV.out.hs c hc4
      obtain ⟨ao2, cap2, kn, hcp2, hxn⟩ := HPV.out.ns c hc4
      have hln := HJ.out.hn c hc4
      rw [hln] at kn hcp2
      have kb := HPV.out.busy c hc4
      have HXS := Lib.hid hxs
      have HXN := Lib.hid hxn
      have HN := Lib.hid hln
      clear c0 c1 c2 hx hwho hxs hxn hln
      cases ho : σ.os c with
      | some st =>
        rw [ho] at kb
        simp only [Option.isSome] at kb
        clear kn
        obtain ⟨nh, hnh⟩ : ∃ nh, (σ.hs c).length = nh := ⟨_, rfl⟩
        rw [hnh] at kh hcp
        clear hnh
        as_aux_lemma =>
          go_wp2_with fail
          refine HWHO.out.mono ?_
          rintro e W3 ⟨rfl, rfl⟩
          clear HWHO
          go_wp2_with (first
            | (refine wp_ldr rfl (.tmp 91) rfl xb (xo + j * 3) rfl _ _ _ kx0 kx1 kx2 ?_))
          refine (pick14 c hc4 cl dO nN m ec HMM.out R H B _ σ HPV.out (HJ.out.ok HMM.out (by omega))).mono ?_
          rintro e W4 ⟨rfl, hk, hpv⟩
          have HBW := Lib.hid (HBL.out.trans (hk.below HRR.out.1 HRR.out.2.1 HRR.out.2.2 HBL.out.size))
          have HJ2 := Lib.hid (HJ.out.pick HMM.out (by omega) c hc4 dO nN)
          replace HPV := Lib.hid hpv
          clear hk hpv HJ HBL
          generalize pk4 m c dO nN σ = σ2 at *
          clear kx0 kx1 kx2 kh kb HXS HXN
          clear ho HN
          go_wp2_with fail
          generalize HWO : W4 = wo at *
          clear HWO
          go_loopw [14] (fun iv wx => ∃ a : Nat, a ≤ 4 ∧ iv = .int .i64 a ∧ Below wo.heap.size wo wx) (fun iv _ => 4 - (intOf iv).toNat)
          case atStart => exact ⟨0, by omega, rfl, Below.refl _ _⟩
          case round =>
            obtain ⟨a, ha, rfl, hbx⟩ := hrel
            have HBX := Lib.hid hbx
            clear hbx
            by_cases ha4 : a < 4
            · have da : decide ((a : Int) < 4) = true := by simp; omega
              obtain ⟨ao, cap, kh0, hcp, hxs⟩ := HPV.out.hs a ha4
              obtain ⟨ao2, cap2, kn0, hcp2, hxn⟩ := HPV.out.ns a ha4
              have hlen := HJ2.out.hn a ha4
              rw [hlen] at kn0 hcp2
              obtain ⟨nh, hnh⟩ : ∃ nh, (σ2.hs a).length = nh := ⟨_, rfl⟩
              rw [hnh] at kh0 kn0 hcp hcp2 hlen
              have KH := Lib.hid kh0
              have KN := Lib.hid kn0
              have HXS := Lib.hid hxs
              have HXN := Lib.hid hxn
              have HNH := Lib.hid (And.intro hnh hlen)
              have hle3 : nh ≤ 301 := by have := HJ2.out.le a ha4; omega
              clear kh0 kn0 hxs hxn hnh hlen
              go_wp2_with fail
              go_loopw [15] (fun iv wx => ∃ k : Nat, k ≤ nh ∧ iv = .int .i64 k ∧ Below wo.heap.size wo wx) (fun iv _ => nh - (intOf iv).toNat)
              case atStart => exact ⟨0, by omega, rfl, HBX.out⟩
              case round =>
                clear HBX
                obtain ⟨k, hk, rfl, hbx⟩ := hrel
                have HBX := Lib.hid hbx
                clear hbx
                have kh := cell_bel HBX.out KH.out
                by_cases hlt2 : k < nh
                · have dk : decide ((k : Int) < (nh : Int)) = true := by simp; omega
                  obtain ⟨x, hx⟩ : ∃ x, (σ2.hs a)[k]? = some x := ⟨_, List.getElem?_eq_getElem (by rw [HNH.out.1]; exact hlt2)⟩
                  obtain ⟨nd, hn⟩ : ∃ nd, (σ2.ns a)[k]? = some nd := ⟨_, List.getElem?_eq_getElem (by rw [HNH.out.2]; exact hlt2)⟩
                  obtain ⟨g, rfl, kx0⟩ := HXS.out k x hx
                  obtain ⟨g2, rfl, kn1⟩ := HXN.out k nd hn
                  have KX := Lib.hid kx0
                  have KN1 := Lib.hid kn1
                  have HX := Lib.hid (And.intro hx hn)
                  obtain ⟨s, p, q, e1, e2, e3, d1, d2, d3, d4, em⟩ := HJ2.out.slot HMM.out ha4 k x nd hx hn
                  have HEM := Lib.hid em
                  have kx := cell_bel HBX.out KX.out
                  clear kx0 kn1 hx hn em
                  obtain ⟨PP, cv, kc0, hcv⟩ := HPV.out.cells
                  have HCV := Lib.hid hcv
                  obtain ⟨cb, co, cc, rfl, -⟩ := hcv
                  have KC := Lib.hid kc0
                  clear kc0
                  go_wp2_with fail
                  clear kh kx
                  replace HBX := Lib.hid (HBX.out.trans ((below_drew _).mono HBX.out.size))
                  have G0 : Hid (World.cell? wr.drew ⟨R, 0, none⟩ = some (.slice (some ⟨cb, co, none⟩) 771 cc)) := Lib.hid (cell_bel HBX.out KC.out)
                  have G1 : Hid (World.cell? wr.drew ⟨H, a * 5, none⟩ = some (.slice (some ⟨g, 0, none⟩) nh cap)) := Lib.hid (cell_bel HBX.out KH.out)
                  have G2 : Hid (World.cell? wr.drew ⟨g, k, none⟩ = some (.int .i64 x)) := Lib.hid (cell_bel HBX.out KX.out)
                  have G3 : Hid (World.cell? wr.drew ⟨H, a * 5 + 1, none⟩ = some (.slice (some ⟨g2, 0, none⟩) nh cap2)) := Lib.hid (cell_bel HBX.out KN.out)
                  have G4 : Hid (World.cell? wr.drew ⟨g2, k, none⟩ = some (.bool nd)) := Lib.hid (cell_bel HBX.out KN1.out)
                  have HF : Hid (∀ p ∈ ([(⟨R, 0, none⟩, .slice (some ⟨cb, co, none⟩) 771 cc), (⟨H, a * 5, none⟩, .slice (some ⟨g, 0, none⟩) nh cap), (⟨g, k, none⟩, .int .i64 x), (⟨H, a * 5 + 1, none⟩, .slice (some ⟨g2, 0, none⟩) nh cap2), (⟨g2, k, none⟩, .bool nd)] : List (Addr × Value)), World.cell? wr.drew p.1 = some p.2) := Lib.hid (allc G0.out (allc G1.out (allc G2.out (allc G3.out (allc G4.out (alln _))))))
                  haveI : Inhabited (CW [(⟨R, 0, none⟩, .slice (some ⟨cb, co, none⟩) 771 cc), (⟨H, a * 5, none⟩, .slice (some ⟨g, 0, none⟩) nh cap), (⟨g, k, none⟩, .int .i64 x), (⟨H, a * 5 + 1, none⟩, .slice (some ⟨g2, 0, none⟩) nh cap2), (⟨g2, k, none⟩, .bool nd)]) := ⟨⟨_, HF.out⟩⟩
                  have f0 : ∀ q : CW [(⟨R, 0, none⟩, .slice (some ⟨cb, co, none⟩) 771 cc), (⟨H, a * 5, none⟩, .slice (some ⟨g, 0, none⟩) nh cap), (⟨g, k, none⟩, .int .i64 x), (⟨H, a * 5 + 1, none⟩, .slice (some ⟨g2, 0, none⟩) nh cap2), (⟨g2, k, none⟩, .bool nd)], q.1.cell? ⟨R, 0, none⟩ = some (.slice (some ⟨cb, co, none⟩) 771 cc) := fun q => q.2 (⟨R, 0, none⟩, .slice (some ⟨cb, co, none⟩) 771 cc) (by simp)
                  have f1 : ∀ q : CW [(⟨R, 0, none⟩, .slice (some ⟨cb, co, none⟩) 771 cc), (⟨H, a * 5, none⟩, .slice (some ⟨g, 0, none⟩) nh cap), (⟨g, k, none⟩, .int .i64 x), (⟨H, a * 5 + 1, none⟩, .slice (some ⟨g2, 0, none⟩) nh cap2), (⟨g2, k, none⟩, .bool nd)], q.1.cell? ⟨H, a * 5, none⟩ = some (.slice (some ⟨g, 0, none⟩) nh cap) := fun q => q.2 (⟨H, a * 5, none⟩, .slice (some ⟨g, 0, none⟩) nh cap) (by simp)
                  have f2 : ∀ q : CW [(⟨R, 0, none⟩, .slice (some ⟨cb, co, none⟩) 771 cc), (⟨H, a * 5, none⟩, .slice (some ⟨g, 0, none⟩) nh cap), (⟨g, k, none⟩, .int .i64 x), (⟨H, a * 5 + 1, none⟩, .slice (some ⟨g2, 0, none⟩) nh cap2), (⟨g2, k, none⟩, .bool nd)], q.1.cell? ⟨g, k, none⟩ = some (.int .i64 x) := fun q => q.2 (⟨g, k, none⟩, .int .i64 x) (by simp)
                  have f3 : ∀ q : CW [(⟨R, 0, none⟩, .slice (some ⟨cb, co, none⟩) 771 cc), (⟨H, a * 5, none⟩, .slice (some ⟨g, 0, none⟩) nh cap), (⟨g, k, none⟩, .int .i64 x), (⟨H, a * 5 + 1, none⟩, .slice (some ⟨g2, 0, none⟩) nh cap2), (⟨g2, k, none⟩, .bool nd)], q.1.cell? ⟨H, a * 5 + 1, none⟩ = some (.slice (some ⟨g2, 0, none⟩) nh cap2) := fun q => q.2 (⟨H, a * 5 + 1, none⟩, .slice (some ⟨g2, 0, none⟩) nh cap2) (by simp)
                  have f4 : ∀ q : CW [(⟨R, 0, none⟩, .slice (some ⟨cb, co, none⟩) 771 cc), (⟨H, a * 5, none⟩, .slice (some ⟨g, 0, none⟩) nh cap), (⟨g, k, none⟩, .int .i64 x), (⟨H, a * 5 + 1, none⟩, .slice (some ⟨g2, 0, none⟩) nh cap2), (⟨g2, k, none⟩, .bool nd)], q.1.cell? ⟨g2, k, none⟩ = some (.bool nd) := fun q => q.2 (⟨g2, k, none⟩, .bool nd) (by simp)
                  (try simp only [Act.put, List.setIfInBounds_toArray, List.set_cons_succ, List.set_cons_zero])
                  refine wp_region_noPanic ?_
                  refine wp_region_plw (.step [true, true, true, true, true, true, true, true, true, true, true, true, true, true, true, true, true, true, true] (.cons 19 (.last [false, false, false, false, false, false, false, false, false, false, false, false, false, false, false, false, false, false, false, false, true, true, true, true, true, true, true, true, true, true, true, true, true, true, true, true, true]) .nil)) (fun y => ∃ q : CW [(⟨R, 0, none⟩, .slice (some ⟨cb, co, none⟩) 771 cc), (⟨H, a * 5, none⟩, .slice (some ⟨g, 0, none⟩) nh cap), (⟨g, k, none⟩, .int .i64 x), (⟨H, a * 5 + 1, none⟩, .slice (some ⟨g2, 0, none⟩) nh cap2), (⟨g2, k, none⟩, .bool nd)], y = q.1) (by kernel_rfl) (by kernel_rfl) (by kernel_rfl) (fun _ _ _ _ _ _ _ h => h) ⟨⟨_, HF.out⟩, rfl⟩ ?_
                  simp only [wpPw, wpBw, selF, and_true]
                  generalize wr.drew = V1 at *
                  repeat (go_big_quiet_step (fail))
                  refine wpQuiet_nil ?_
                  refine wpOp_step rfl (fun K hK => ?_)
                  go_simp
                  refine (live14 HJ2.out HMM.out ha4 k x nd HX.out.1 HX.out.2 _ (HCV.out.below HBX.out)).mono ?_
                  rintro e V2 ⟨rfl, nq, rfl⟩
                  replace HBX := Lib.hid (HBX.out.trans ((below_drewN _ nq).mono HBX.out.size))
                  replace G0 := Lib.hid (cell_dN (n := nq) G0.out)
                  replace G1 := Lib.hid (cell_dN (n := nq) G1.out)
                  replace G2 := Lib.hid (cell_dN (n := nq) G2.out)
                  replace G3 := Lib.hid (cell_dN (n := nq) G3.out)
                  replace G4 := Lib.hid (cell_dN (n := nq) G4.out)
                  refine hK _ _ ⟨(fun y => ∃ q : CW [(⟨R, 0, none⟩, .slice (some ⟨cb, co, none⟩) 771 cc), (⟨H, a * 5, none⟩, .slice (some ⟨g, 0, none⟩) nh cap), (⟨g, k, none⟩, .int .i64 x), (⟨H, a * 5 + 1, none⟩, .slice (some ⟨g2, 0, none⟩) nh cap2), (⟨g2, k, none⟩, .bool nd)], y = q.1), ⟨⟨_, (allc G0.out (allc G1.out (allc G2.out (allc G3.out (allc G4.out (alln _))))))⟩, rfl⟩, fun _ h => h, ?_⟩
                  clear hK K
                  (try simp only [Act.put, List.setIfInBounds_toArray, List.set_cons_succ, List.set_cons_zero])
                  repeat (go_big_quiet_step (fail))
                  refine wpQuiet_nil ?_
                  refine NoPanic.normal ?_
                  clear HF f0 f1 f2 f3 f4
                  clear G0 G1 G2 G3 G4
                  go_wp2_with fail
                  clear e1 e2 e3 d1 d2 d3 d4
                  go_loopw [17] (fun iv wx => ∃ i : Nat, i ≤ k ∧ iv = .int .i64 i ∧ Below wo.heap.size wo wx) (fun iv _ => k - (intOf iv).toNat)
                  case atStart => exact ⟨0, by omega, rfl, HBX.out⟩
                  case round =>
                    clear HBX
                    obtain ⟨i, hi, rfl, hbx⟩ := hrel
                    have HBX := Lib.hid hbx
                    clear hbx
                    by_cases hik : i < k
                    · have di : decide ((i : Int) < (k : Int)) = true := by simp; omega
                      have hil : i < nh := by omega
                      obtain ⟨x2, hx2⟩ : ∃ x, (σ2.hs a)[i]? = some x := ⟨_, List.getElem?_eq_getElem (by rw [HNH.out.1]; exact hil)⟩
                      obtain ⟨nd2, hn2⟩ : ∃ nd, (σ2.ns a)[i]? = some nd := ⟨_, List.getElem?_eq_getElem (by rw [HNH.out.2]; exact hil)⟩
                      obtain ⟨_, eg, kx0⟩ := HXS.out i x2 hx2
                      obtain ⟨_, eg2, kn1⟩ := HXN.out i nd2 hn2
                      cases eg
                      cases eg2
                      obtain ⟨s2, -, -, e12, -, -, -, -, -, -, em2⟩ := HJ2.out.slot HMM.out ha4 i x2 nd2 hx2 hn2
                      have hun := fun e : nd2 = nd => HJ2.out.un a ha4 i k x2 x nd hik hx2 HX.out.1 (e ▸ hn2) HX.out.2
                      rw [em2, HEM.out] at hun
                      have HUN := Lib.hid hun
                      clear hx2 hn2 em2 hun
                      have kh := cell_bel HBX.out KH.out
                      have kn := cell_bel HBX.out KN.out
                      have kx2 := cell_bel HBX.out kx0
                      have kn2 := cell_bel HBX.out kn1
                      have kn3 := cell_bel HBX.out KN1.out
                      clear kx0 kn1
                      cases nd <;> cases nd2
                      · have hne : ((s2 : Int) == (s : Int)) = false := by rw [beq_eq_false_iff_ne]; exact HUN.out rfl
                        go_wp2_with fail
                        go_quiet (fail)
                        clear kn3 kn2 kn kh kx2 hne e12
                        replace HBX := Lib.hid (HBX.out.trans ((below_drewN _ nq).mono HBX.out.size))
                        go_wp2_with fail
                        go_roundw
                        case rel => exact ⟨i + 1, by omega, rfl, HBX.out⟩
                        case measure => simp [intOf]; omega
                      · have hne := 0
                        go_wp2_with fail
                        go_quiet (fail)
                        clear kn3 kn2 kn kh kx2 hne e12
                        replace HBX := Lib.hid (HBX.out.trans ((below_drewN _ nq).mono HBX.out.size))
                        go_wp2_with fail
                        go_roundw
                        case rel => exact ⟨i + 1, by omega, rfl, HBX.out⟩
                        case measure => simp [intOf]; omega
                      · have hne := 0
                        go_wp2_with fail
                        go_quiet (fail)
                        clear kn3 kn2 kn kh kx2 hne e12
                        replace HBX := Lib.hid (HBX.out.trans ((below_drewN _ nq).mono HBX.out.size))
                        go_wp2_with fail
                        go_roundw
                        case rel => exact ⟨i + 1, by omega, rfl, HBX.out⟩
                        case measure => simp [intOf]; omega
                      · have hne : ((s2 : Int) == (s : Int)) = false := by rw [beq_eq_false_iff_ne]; exact HUN.out rfl
                        go_wp2_with fail
                        go_quiet (fail)
                        clear kn3 kn2 kn kh kx2 hne e12
                        replace HBX := Lib.hid (HBX.out.trans ((below_drewN _ nq).mono HBX.out.size))
                        go_wp2_with fail
                        go_roundw
                        case rel => exact ⟨i + 1, by omega, rfl, HBX.out⟩
                        case measure => simp [intOf]; omega
                    · have e : i = k := by omega
                      subst e
                      have di : decide ((i : Int) < (i : Int)) = false := by simp
                      go_wp2_with fail
                      go_roundw
                      case rel => exact ⟨i + 1, by omega, rfl, HBX.out⟩
                      case measure => simp [intOf]; omega
                · have e : k = nh := by omega
                  subst e
                  have dk : decide ((k : Int) < (k : Int)) = false := by simp
                  go_wp2_with fail
                  go_roundw
                  case rel => exact ⟨a + 1, by omega, rfl, HBX.out⟩
                  case measure => simp [intOf]; omega
            · have e : a = 4 := by omega
              subst e
              have da : decide (((4 : Nat) : Int) < 4) = false := by decide
              go_wp2_with fail
              go_roundw
              case rel => exact ⟨j + 1, σ2, hlt, rfl, HBW.out.trans (HBX.out.mono HBW.out.size), HPV.out.below HBX.out, HJ2.out⟩
              case measure => simp [intOf]; omega
      | none =>
        rw [ho] at kb
        simp only [Option.isSome] at kb
        by_cases h2 : dO = 2
        · subst h2
          by_cases hne : σ.hs c = []
          · clear kn
            rw [hne] at kh hcp
            simp only [List.length_nil] at kh hcp
            as_aux_lemma =>
              go_wp2_with fail
              refine HWHO.out.mono ?_
              rintro e W3 ⟨rfl, rfl⟩
              clear HWHO
              go_wp2_with (first
                | (refine wp_ldr rfl (.tmp 91) rfl xb (xo + j * 3) rfl _ _ _ kx0 kx1 kx2 ?_))
              refine (pick14 c hc4 cl 2 nN m ec HMM.out R H B _ σ HPV.out (HJ.out.ok HMM.out (by omega))).mono ?_
              rintro e W4 ⟨rfl, hk, hpv⟩
              have HBW := Lib.hid (HBL.out.trans (hk.below HRR.out.1 HRR.out.2.1 HRR.out.2.2 HBL.out.size))
              have HJ2 := Lib.hid (HJ.out.pick HMM.out (by omega) c hc4 2 nN)
              replace HPV := Lib.hid hpv
              clear hk hpv HJ HBL
              generalize pk4 m c 2 nN σ = σ2 at *
              clear kx0 kx1 kx2 kh kb HXS HXN
              clear ho HN
              go_wp2_with fail
              generalize HWO : W4 = wo at *
              clear HWO
              go_loopw [14] (fun iv wx => ∃ a : Nat, a ≤ 4 ∧ iv = .int .i64 a ∧ Below wo.heap.size wo wx) (fun iv _ => 4 - (intOf iv).toNat)
              case atStart => exact ⟨0, by omega, rfl, Below.refl _ _⟩
              case round =>
                obtain ⟨a, ha, rfl, hbx⟩ := hrel
                have HBX := Lib.hid hbx
                clear hbx
                by_cases ha4 : a < 4
                · have da : decide ((a : Int) < 4) = true := by simp; omega
                  obtain ⟨ao, cap, kh0, hcp, hxs⟩ := HPV.out.hs a ha4
                  obtain ⟨ao2, cap2, kn0, hcp2, hxn⟩ := HPV.out.ns a ha4
                  have hlen := HJ2.out.hn a ha4
                  rw [hlen] at kn0 hcp2
                  obtain ⟨nh, hnh⟩ : ∃ nh, (σ2.hs a).length = nh := ⟨_, rfl⟩
                  rw [hnh] at kh0 kn0 hcp hcp2 hlen
                  have KH := Lib.hid kh0
                  have KN := Lib.hid kn0
                  have HXS := Lib.hid hxs
                  have HXN := Lib.hid hxn
                  have HNH := Lib.hid (And.intro hnh hlen)
                  have hle3 : nh ≤ 301 := by have := HJ2.out.le a ha4; omega
                  clear kh0 kn0 hxs hxn hnh hlen
                  go_wp2_with fail
                  go_loopw [15] (fun iv wx => ∃ k : Nat, k ≤ nh ∧ iv = .int .i64 k ∧ Below wo.heap.size wo wx) (fun iv _ => nh - (intOf iv).toNat)
                  case atStart => exact ⟨0, by omega, rfl, HBX.out⟩
                  case round =>
                    clear HBX
                    obtain ⟨k, hk, rfl, hbx⟩ := hrel
                    have HBX := Lib.hid hbx
                    clear hbx
                    have kh := cell_bel HBX.out KH.out
                    by_cases hlt2 : k < nh
                    · have dk : decide ((k : Int) < (nh : Int)) = true := by simp; omega
                      obtain ⟨x, hx⟩ : ∃ x, (σ2.hs a)[k]? = some x := ⟨_, List.getElem?_eq_getElem (by rw [HNH.out.1]; exact hlt2)⟩
                      obtain ⟨nd, hn⟩ : ∃ nd, (σ2.ns a)[k]? = some nd := ⟨_, List.getElem?_eq_getElem (by rw [HNH.out.2]; exact hlt2)⟩
                      obtain ⟨g, rfl, kx0⟩ := HXS.out k x hx
                      obtain ⟨g2, rfl, kn1⟩ := HXN.out k nd hn
                      have KX := Lib.hid kx0
                      have KN1 := Lib.hid kn1
                      have HX := Lib.hid (And.intro hx hn)
                      obtain ⟨s, p, q, e1, e2, e3, d1, d2, d3, d4, em⟩ := HJ2.out.slot HMM.out ha4 k x nd hx hn
                      have HEM := Lib.hid em
                      have kx := cell_bel HBX.out KX.out
                      clear kx0 kn1 hx hn em
                      obtain ⟨PP, cv, kc0, hcv⟩ := HPV.out.cells
                      have HCV := Lib.hid hcv
                      obtain ⟨cb, co, cc, rfl, -⟩ := hcv
                      have KC := Lib.hid kc0
                      clear kc0
                      go_wp2_with fail
                      clear kh kx
                      replace HBX := Lib.hid (HBX.out.trans ((below_drew _).mono HBX.out.size))
                      have G0 : Hid (World.cell? wr.drew ⟨R, 0, none⟩ = some (.slice (some ⟨cb, co, none⟩) 771 cc)) := Lib.hid (cell_bel HBX.out KC.out)
                      have G1 : Hid (World.cell? wr.drew ⟨H, a * 5, none⟩ = some (.slice (some ⟨g, 0, none⟩) nh cap)) := Lib.hid (cell_bel HBX.out KH.out)
                      have G2 : Hid (World.cell? wr.drew ⟨g, k, none⟩ = some (.int .i64 x)) := Lib.hid (cell_bel HBX.out KX.out)
                      have G3 : Hid (World.cell? wr.drew ⟨H, a * 5 + 1, none⟩ = some (.slice (some ⟨g2, 0, none⟩) nh cap2)) := Lib.hid (cell_bel HBX.out KN.out)
                      have G4 : Hid (World.cell? wr.drew ⟨g2, k, none⟩ = some (.bool nd)) := Lib.hid (cell_bel HBX.out KN1.out)
                      have HF : Hid (∀ p ∈ ([(⟨R, 0, none⟩, .slice (some ⟨cb, co, none⟩) 771 cc), (⟨H, a * 5, none⟩, .slice (some ⟨g, 0, none⟩) nh cap), (⟨g, k, none⟩, .int .i64 x), (⟨H, a * 5 + 1, none⟩, .slice (some ⟨g2, 0, none⟩) nh cap2), (⟨g2, k, none⟩, .bool nd)] : List (Addr × Value)), World.cell? wr.drew p.1 = some p.2) := Lib.hid (allc G0.out (allc G1.out (allc G2.out (allc G3.out (allc G4.out (alln _))))))
                      haveI : Inhabited (CW [(⟨R, 0, none⟩, .slice (some ⟨cb, co, none⟩) 771 cc), (⟨H, a * 5, none⟩, .slice (some ⟨g, 0, none⟩) nh cap), (⟨g, k, none⟩, .int .i64 x), (⟨H, a * 5 + 1, none⟩, .slice (some ⟨g2, 0, none⟩) nh cap2), (⟨g2, k, none⟩, .bool nd)]) := ⟨⟨_, HF.out⟩⟩
                      have f0 : ∀ q : CW [(⟨R, 0, none⟩, .slice (some ⟨cb, co, none⟩) 771 cc), (⟨H, a * 5, none⟩, .slice (some ⟨g, 0, none⟩) nh cap), (⟨g, k, none⟩, .int .i64 x), (⟨H, a * 5 + 1, none⟩, .slice (some ⟨g2, 0, none⟩) nh cap2), (⟨g2, k, none⟩, .bool nd)], q.1.cell? ⟨R, 0, none⟩ = some (.slice (some ⟨cb, co, none⟩) 771 cc) := fun q => q.2 (⟨R, 0, none⟩, .slice (some ⟨cb, co, none⟩) 771 cc) (by simp)
                      have f1 : ∀ q : CW [(⟨R, 0, none⟩, .slice (some ⟨cb, co, none⟩) 771 cc), (⟨H, a * 5, none⟩, .slice (some ⟨g, 0, none⟩) nh cap), (⟨g, k, none⟩, .int .i64 x), (⟨H, a * 5 + 1, none⟩, .slice (some ⟨g2, 0, none⟩) nh cap2), (⟨g2, k, none⟩, .bool nd)], q.1.cell? ⟨H, a * 5, none⟩ = some (.slice (some ⟨g, 0, none⟩) nh cap) := fun q => q.2 (⟨H, a * 5, none⟩, .slice (some ⟨g, 0, none⟩) nh cap) (by simp)
                      have f2 : ∀ q : CW [(⟨R, 0, none⟩, .slice (some ⟨cb, co, none⟩) 771 cc), (⟨H, a * 5, none⟩, .slice (some ⟨g, 0, none⟩) nh cap), (⟨g, k, none⟩, .int .i64 x), (⟨H, a * 5 + 1, none⟩, .slice (some ⟨g2, 0, none⟩) nh cap2), (⟨g2, k, none⟩, .bool nd)], q.1.cell? ⟨g, k, none⟩ = some (.int .i64 x) := fun q => q.2 (⟨g, k, none⟩, .int .i64 x) (by simp)
                      have f3 : ∀ q : CW [(⟨R, 0, none⟩, .slice (some ⟨cb, co, none⟩) 771 cc), (⟨H, a * 5, none⟩, .slice (some ⟨g, 0, none⟩) nh cap), (⟨g, k, none⟩, .int .i64 x), (⟨H, a * 5 + 1, none⟩, .slice (some ⟨g2, 0, none⟩) nh cap2), (⟨g2, k, none⟩, .bool nd)], q.1.cell? ⟨H, a * 5 + 1, none⟩ = some (.slice (some ⟨g2, 0, none⟩) nh cap2) := fun q => q.2 (⟨H, a * 5 + 1, none⟩, .slice (some ⟨g2, 0, none⟩) nh cap2) (by simp)
                      have f4 : ∀ q : CW [(⟨R, 0, none⟩, .slice (some ⟨cb, co, none⟩) 771 cc), (⟨H, a * 5, none⟩, .slice (some ⟨g, 0, none⟩) nh cap), (⟨g, k, none⟩, .int .i64 x), (⟨H, a * 5 + 1, none⟩, .slice (some ⟨g2, 0, none⟩) nh cap2), (⟨g2, k, none⟩, .bool nd)], q.1.cell? ⟨g2, k, none⟩ = some (.bool nd) := fun q => q.2 (⟨g2, k, none⟩, .bool nd) (by simp)
                      (try simp only [Act.put, List.setIfInBounds_toArray, List.set_cons_succ, List.set_cons_zero])
                      refine wp_region_noPanic ?_
                      refine wp_region_plw (.step [true, true, true, true, true, true, true, true, true, true, true, true, true, true, true, true, true, true, true] (.cons 19 (.last [false, false, false, false, false, false, false, false, false, false, false, false, false, false, false, false, false, false, false, false, true, true, true, true, true, true, true, true, true, true, true, true, true, true, true, true, true]) .nil)) (fun y => ∃ q : CW [(⟨R, 0, none⟩, .slice (some ⟨cb, co, none⟩) 771 cc), (⟨H, a * 5, none⟩, .slice (some ⟨g, 0, none⟩) nh cap), (⟨g, k, none⟩, .int .i64 x), (⟨H, a * 5 + 1, none⟩, .slice (some ⟨g2, 0, none⟩) nh cap2), (⟨g2, k, none⟩, .bool nd)], y = q.1) (by kernel_rfl) (by kernel_rfl) (by kernel_rfl) (fun _ _ _ _ _ _ _ h => h) ⟨⟨_, HF.out⟩, rfl⟩ ?_
                      simp only [wpPw, wpBw, selF, and_true]
                      generalize wr.drew = V3 at *
                      repeat (go_big_quiet_step (fail))
                      refine wpQuiet_nil ?_
                      refine wpOp_step rfl (fun K hK => ?_)
                      go_simp
                      refine (live14 HJ2.out HMM.out ha4 k x nd HX.out.1 HX.out.2 _ (HCV.out.below HBX.out)).mono ?_
                      rintro e V4 ⟨rfl, nq, rfl⟩
                      replace HBX := Lib.hid (HBX.out.trans ((below_drewN _ nq).mono HBX.out.size))
                      replace G0 := Lib.hid (cell_dN (n := nq) G0.out)
                      replace G1 := Lib.hid (cell_dN (n := nq) G1.out)
                      replace G2 := Lib.hid (cell_dN (n := nq) G2.out)
                      replace G3 := Lib.hid (cell_dN (n := nq) G3.out)
                      replace G4 := Lib.hid (cell_dN (n := nq) G4.out)
                      refine hK _ _ ⟨(fun y => ∃ q : CW [(⟨R, 0, none⟩, .slice (some ⟨cb, co, none⟩) 771 cc), (⟨H, a * 5, none⟩, .slice (some ⟨g, 0, none⟩) nh cap), (⟨g, k, none⟩, .int .i64 x), (⟨H, a * 5 + 1, none⟩, .slice (some ⟨g2, 0, none⟩) nh cap2), (⟨g2, k, none⟩, .bool nd)], y = q.1), ⟨⟨_, (allc G0.out (allc G1.out (allc G2.out (allc G3.out (allc G4.out (alln _))))))⟩, rfl⟩, fun _ h => h, ?_⟩
                      clear hK K
                      (try simp only [Act.put, List.setIfInBounds_toArray, List.set_cons_succ, List.set_cons_zero])
                      repeat (go_big_quiet_step (fail))
                      refine wpQuiet_nil ?_
                      refine NoPanic.normal ?_
                      clear HF f0 f1 f2 f3 f4
                      clear G0 G1 G2 G3 G4
                      go_wp2_with fail
                      clear e1 e2 e3 d1 d2 d3 d4
                      go_loopw [17] (fun iv wx => ∃ i : Nat, i ≤ k ∧ iv = .int .i64 i ∧ Below wo.heap.size wo wx) (fun iv _ => k - (intOf iv).toNat)
                      case atStart => exact ⟨0, by omega, rfl, HBX.out⟩
                      case round =>
                        clear HBX
                        obtain ⟨i, hi, rfl, hbx⟩ := hrel
                        have HBX := Lib.hid hbx
                        clear hbx
                        by_cases hik : i < k
                        · have di : decide ((i : Int) < (k : Int)) = true := by simp; omega
                          have hil : i < nh := by omega
                          obtain ⟨x2, hx2⟩ : ∃ x, (σ2.hs a)[i]? = some x := ⟨_, List.getElem?_eq_getElem (by rw [HNH.out.1]; exact hil)⟩
                          obtain ⟨nd2, hn2⟩ : ∃ nd, (σ2.ns a)[i]? = some nd := ⟨_, List.getElem?_eq_getElem (by rw [HNH.out.2]; exact hil)⟩
                          obtain ⟨_, eg, kx0⟩ := HXS.out i x2 hx2
                          obtain ⟨_, eg2, kn1⟩ := HXN.out i nd2 hn2
                          cases eg
                          cases eg2
                          obtain ⟨s2, -, -, e12, -, -, -, -, -, -, em2⟩ := HJ2.out.slot HMM.out ha4 i x2 nd2 hx2 hn2
                          have hun := fun e : nd2 = nd => HJ2.out.un a ha4 i k x2 x nd hik hx2 HX.out.1 (e ▸ hn2) HX.out.2
                          rw [em2, HEM.out] at hun
                          have HUN := Lib.hid hun
                          clear hx2 hn2 em2 hun
                          have kh := cell_bel HBX.out KH.out
                          have kn := cell_bel HBX.out KN.out
                          have kx2 := cell_bel HBX.out kx0
                          have kn2 := cell_bel HBX.out kn1
                          have kn3 := cell_bel HBX.out KN1.out
                          clear kx0 kn1
                          cases nd <;> cases nd2
                          · have hne : ((s2 : Int) == (s : Int)) = false := by rw [beq_eq_false_iff_ne]; exact HUN.out rfl
                            go_wp2_with fail
                            go_quiet (fail)
                            clear kn3 kn2 kn kh kx2 hne e12
                            replace HBX := Lib.hid (HBX.out.trans ((below_drewN _ nq).mono HBX.out.size))
                            go_wp2_with fail
                            go_roundw
                            case rel => exact ⟨i + 1, by omega, rfl, HBX.out⟩
                            case measure => simp [intOf]; omega
                          · have hne := 0
                            go_wp2_with fail
                            go_quiet (fail)
                            clear kn3 kn2 kn kh kx2 hne e12
                            replace HBX := Lib.hid (HBX.out.trans ((below_drewN _ nq).mono HBX.out.size))
                            go_wp2_with fail
                            go_roundw
                            case rel => exact ⟨i + 1, by omega, rfl, HBX.out⟩
                            case measure => simp [intOf]; omega
                          · have hne := 0
                            go_wp2_with fail
                            go_quiet (fail)
                            clear kn3 kn2 kn kh kx2 hne e12
                            replace HBX := Lib.hid (HBX.out.trans ((below_drewN _ nq).mono HBX.out.size))
                            go_wp2_with fail
                            go_roundw
                            case rel => exact ⟨i + 1, by omega, rfl, HBX.out⟩
                            case measure => simp [intOf]; omega
                          · have hne : ((s2 : Int) == (s : Int)) = false := by rw [beq_eq_false_iff_ne]; exact HUN.out rfl
                            go_wp2_with fail
                            go_quiet (fail)
                            clear kn3 kn2 kn kh kx2 hne e12
                            replace HBX := Lib.hid (HBX.out.trans ((below_drewN _ nq).mono HBX.out.size))
                            go_wp2_with fail
                            go_roundw
                            case rel => exact ⟨i + 1, by omega, rfl, HBX.out⟩
                            case measure => simp [intOf]; omega
                        · have e : i = k := by omega
                          subst e
                          have di : decide ((i : Int) < (i : Int)) = false := by simp
                          go_wp2_with fail
                          go_roundw
                          case rel => exact ⟨i + 1, by omega, rfl, HBX.out⟩
                          case measure => simp [intOf]; omega
                    · have e : k = nh := by omega
                      subst e
                      have dk : decide ((k : Int) < (k : Int)) = false := by simp
                      go_wp2_with fail
                      go_roundw
                      case rel => exact ⟨a + 1, by omega, rfl, HBX.out⟩
                      case measure => simp [intOf]; omega
                · have e : a = 4 := by omega
                  subst e
                  have da : decide (((4 : Nat) : Int) < 4) = false := by decide
                  go_wp2_with fail
                  go_roundw
                  case rel => exact ⟨j + 1, σ2, hlt, rfl, HBW.out.trans (HBX.out.mono HBW.out.size), HPV.out.below HBX.out, HJ2.out⟩
                  case measure => simp [intOf]; omega
          · obtain ⟨nh, hnh⟩ : ∃ nh, (σ.hs c).length = nh := ⟨_, rfl⟩
            have hpos : 1 ≤ nh := by
              rcases Nat.eq_zero_or_pos nh with h | h
              · exact absurd (List.eq_nil_of_length_eq_zero (hnh.trans h)) hne
              · exact h
            have hle : nh ≤ 300 := by have := HJ.out.le c hc4; omega
            obtain ⟨ek, hk⟩ := kOf_eq nN nh ⟨hpos, by omega⟩
            obtain ⟨hdl, hk1⟩ : ∃ x, (σ.hs c)[kOf nN (σ.hs c).length]? = some x := ⟨_, List.getElem?_eq_getElem (by rw [hnh]; exact hk)⟩
            obtain ⟨nd, hk2⟩ : ∃ x, (σ.ns c)[kOf nN (σ.hs c).length]? = some x := ⟨_, List.getElem?_eq_getElem (by rw [HN.out, hnh]; exact hk)⟩
            have HK1 := Lib.hid hk1
            have HK2 := Lib.hid hk2
            obtain ⟨g, rfl, kk⟩ := HXS.out _ hdl hk1
            obtain ⟨g2, rfl, kj⟩ := HXN.out _ nd hk2
            rw [hnh] at kh hcp kn hcp2 kk kj
            have n0 : ((nh : Int) == 0) = false := by rw [beq_eq_false_iff_ne]; omega
            have np : decide ((0 : Int) < (nh : Int)) = true := by simp; omega
            have HNE := Lib.hid hne
            clear hk1 hk2 hne hnh
            generalize kOf nN nh = k0 at *
            as_aux_lemma =>
              go_wp2_with fail
              refine HWHO.out.mono ?_
              rintro e W3 ⟨rfl, rfl⟩
              clear HWHO
              go_wp2_with (first
                | (refine wp_ldr rfl (.tmp 91) rfl xb (xo + j * 3) rfl _ _ _ kx0 kx1 kx2 ?_))
              refine (pick14 c hc4 cl 2 nN m ec HMM.out R H B _ σ HPV.out (HJ.out.ok HMM.out (by omega))).mono ?_
              rintro e W4 ⟨rfl, hk, hpv⟩
              have HBW := Lib.hid (HBL.out.trans (hk.below HRR.out.1 HRR.out.2.1 HRR.out.2.2 HBL.out.size))
              have HJ2 := Lib.hid (HJ.out.pick HMM.out (by omega) c hc4 2 nN)
              have HO2 := Lib.hid (pk4_free (m := m) (nN := nN) ho HNE.out HK1.out HK2.out)
              have HF0 := HJ2.out.st c hc4 _ HO2.out
              have hf0 : (hdl != 0) = true := by
                obtain ⟨-, ⟨g', s', rfl, g1, -⟩, -⟩ := HF0
                rw [bne_iff_ne]; omega
              clear HF0
              replace HPV := Lib.hid hpv
              clear hk hpv HJ HBL
              generalize pk4 m c 2 nN σ = σ1 at *
              clear kk kj kn HK1 HK2 HNE kx0 kx1 kx2 kh kb HXS HXN
              clear ho HN
              go_wp2_with fail
              refine (step14_fr c hc4 HMM.out HPV.out (HJ2.out.ok HMM.out (by omega)) hdl nd HO2.out).mono ?_
              rintro e W5 ⟨⟨v, rfl⟩, hk, hpv⟩
              replace HBW := Lib.hid (HBW.out.trans (hk.below HRR.out.1 HRR.out.2.1 HRR.out.2.2 HBW.out.size))
              replace HPV := Lib.hid hpv
              clear hk hpv
              obtain ⟨PP, cv, kc0, hcv⟩ := HPV.out.cells
              have HCV := Lib.hid hcv
              obtain ⟨cb, co, cc, rfl, -⟩ := hcv
              go_wp2_with fail
              refine (dead14 (l := []) HJ2.out HMM.out hc4 hdl nd HO2.out _ HCV.out).mono ?_
              rintro e W4 ⟨rfl, nq, rfl⟩
              have HJ3 := Lib.hid (HJ2.out.freed HMM.out hc4 hdl nd HO2.out)
              replace HPV := Lib.hid (HPV.out.below (below_drewN _ nq))
              replace HBW := Lib.hid (HBW.out.trans ((below_drewN _ nq).mono HBW.out.size))
              generalize World.drewN _ nq = W4 at *
              clear kc0 HCV HJ2 hf0
              have HJ2 := HJ3
              clear HJ3 HO2
              generalize ({ σ1 with l := l4 c m σ1.l (.fr0 hdl nd), os := upd σ1.os c none } : P4) = σ2 at *
              go_wp2_with fail
              generalize HWO : W4 = wo at *
              clear HWO
              go_loopw [14] (fun iv wx => ∃ a : Nat, a ≤ 4 ∧ iv = .int .i64 a ∧ Below wo.heap.size wo wx) (fun iv _ => 4 - (intOf iv).toNat)
              case atStart => exact ⟨0, by omega, rfl, Below.refl _ _⟩
              case round =>
                obtain ⟨a, ha, rfl, hbx⟩ := hrel
                have HBX := Lib.hid hbx
                clear hbx
                by_cases ha4 : a < 4
                · have da : decide ((a : Int) < 4) = true := by simp; omega
                  obtain ⟨ao, cap, kh0, hcp, hxs⟩ := HPV.out.hs a ha4
                  obtain ⟨ao2, cap2, kn0, hcp2, hxn⟩ := HPV.out.ns a ha4
                  have hlen := HJ2.out.hn a ha4
                  rw [hlen] at kn0 hcp2
                  obtain ⟨nh, hnh⟩ : ∃ nh, (σ2.hs a).length = nh := ⟨_, rfl⟩
                  rw [hnh] at kh0 kn0 hcp hcp2 hlen
                  have KH := Lib.hid kh0
                  have KN := Lib.hid kn0
                  have HXS := Lib.hid hxs
                  have HXN := Lib.hid hxn
                  have HNH := Lib.hid (And.intro hnh hlen)
                  have hle3 : nh ≤ 301 := by have := HJ2.out.le a ha4; omega
                  clear kh0 kn0 hxs hxn hnh hlen
                  go_wp2_with fail
                  go_loopw [15] (fun iv wx => ∃ k : Nat, k ≤ nh ∧ iv = .int .i64 k ∧ Below wo.heap.size wo wx) (fun iv _ => nh - (intOf iv).toNat)
                  case atStart => exact ⟨0, by omega, rfl, HBX.out⟩
                  case round =>
                    clear HBX
                    obtain ⟨k, hk, rfl, hbx⟩ := hrel
                    have HBX := Lib.hid hbx
                    clear hbx
                    have kh := cell_bel HBX.out KH.out
                    by_cases hlt2 : k < nh
                    · have dk : decide ((k : Int) < (nh : Int)) = true := by simp; omega
                      obtain ⟨x, hx⟩ : ∃ x, (σ2.hs a)[k]? = some x := ⟨_, List.getElem?_eq_getElem (by rw [HNH.out.1]; exact hlt2)⟩
                      obtain ⟨nd, hn⟩ : ∃ nd, (σ2.ns a)[k]? = some nd := ⟨_, List.getElem?_eq_getElem (by rw [HNH.out.2]; exact hlt2)⟩
                      obtain ⟨g, rfl, kx0⟩ := HXS.out k x hx
                      obtain ⟨g2, rfl, kn1⟩ := HXN.out k nd hn
                      have KX := Lib.hid kx0
                      have KN1 := Lib.hid kn1
                      have HX := Lib.hid (And.intro hx hn)
                      obtain ⟨s, p, q, e1, e2, e3, d1, d2, d3, d4, em⟩ := HJ2.out.slot HMM.out ha4 k x nd hx hn
                      have HEM := Lib.hid em
                      have kx := cell_bel HBX.out KX.out
                      clear kx0 kn1 hx hn em
                      obtain ⟨PP, cv, kc0, hcv⟩ := HPV.out.cells
                      have HCV := Lib.hid hcv
                      obtain ⟨cb, co, cc, rfl, -⟩ := hcv
                      have KC := Lib.hid kc0
                      clear kc0
                      go_wp2_with fail
                      clear kh kx
                      replace HBX := Lib.hid (HBX.out.trans ((below_drew _).mono HBX.out.size))
                      have G0 : Hid (World.cell? wr.drew ⟨R, 0, none⟩ = some (.slice (some ⟨cb, co, none⟩) 771 cc)) := Lib.hid (cell_bel HBX.out KC.out)
                      have G1 : Hid (World.cell? wr.drew ⟨H, a * 5, none⟩ = some (.slice (some ⟨g, 0, none⟩) nh cap)) := Lib.hid (cell_bel HBX.out KH.out)
                      have G2 : Hid (World.cell? wr.drew ⟨g, k, none⟩ = some (.int .i64 x)) := Lib.hid (cell_bel HBX.out KX.out)
                      have G3 : Hid (World.cell? wr.drew ⟨H, a * 5 + 1, none⟩ = some (.slice (some ⟨g2, 0, none⟩) nh cap2)) := Lib.hid (cell_bel HBX.out KN.out)
                      have G4 : Hid (World.cell? wr.drew ⟨g2, k, none⟩ = some (.bool nd)) := Lib.hid (cell_bel HBX.out KN1.out)
                      have HF : Hid (∀ p ∈ ([(⟨R, 0, none⟩, .slice (some ⟨cb, co, none⟩) 771 cc), (⟨H, a * 5, none⟩, .slice (some ⟨g, 0, none⟩) nh cap), (⟨g, k, none⟩, .int .i64 x), (⟨H, a * 5 + 1, none⟩, .slice (some ⟨g2, 0, none⟩) nh cap2), (⟨g2, k, none⟩, .bool nd)] : List (Addr × Value)), World.cell? wr.drew p.1 = some p.2) := Lib.hid (allc G0.out (allc G1.out (allc G2.out (allc G3.out (allc G4.out (alln _))))))
                      haveI : Inhabited (CW [(⟨R, 0, none⟩, .slice (some ⟨cb, co, none⟩) 771 cc), (⟨H, a * 5, none⟩, .slice (some ⟨g, 0, none⟩) nh cap), (⟨g, k, none⟩, .int .i64 x), (⟨H, a * 5 + 1, none⟩, .slice (some ⟨g2, 0, none⟩) nh cap2), (⟨g2, k, none⟩, .bool nd)]) := ⟨⟨_, HF.out⟩⟩
                      have f0 : ∀ q : CW [(⟨R, 0, none⟩, .slice (some ⟨cb, co, none⟩) 771 cc), (⟨H, a * 5, none⟩, .slice (some ⟨g, 0, none⟩) nh cap), (⟨g, k, none⟩, .int .i64 x), (⟨H, a * 5 + 1, none⟩, .slice (some ⟨g2, 0, none⟩) nh cap2), (⟨g2, k, none⟩, .bool nd)], q.1.cell? ⟨R, 0, none⟩ = some (.slice (some ⟨cb, co, none⟩) 771 cc) := fun q => q.2 (⟨R, 0, none⟩, .slice (some ⟨cb, co, none⟩) 771 cc) (by simp)
                      have f1 : ∀ q : CW [(⟨R, 0, none⟩, .slice (some ⟨cb, co, none⟩) 771 cc), (⟨H, a * 5, none⟩, .slice (some ⟨g, 0, none⟩) nh cap), (⟨g, k, none⟩, .int .i64 x), (⟨H, a * 5 + 1, none⟩, .slice (some ⟨g2, 0, none⟩) nh cap2), (⟨g2, k, none⟩, .bool nd)], q.1.cell? ⟨H, a * 5, none⟩ = some (.slice (some ⟨g, 0, none⟩) nh cap) := fun q => q.2 (⟨H, a * 5, none⟩, .slice (some ⟨g, 0, none⟩) nh cap) (by simp)
                      have f2 : ∀ q : CW [(⟨R, 0, none⟩, .slice (some ⟨cb, co, none⟩) 771 cc), (⟨H, a * 5, none⟩, .slice (some ⟨g, 0, none⟩) nh cap), (⟨g, k, none⟩, .int .i64 x), (⟨H, a * 5 + 1, none⟩, .slice (some ⟨g2, 0, none⟩) nh cap2), (⟨g2, k, none⟩, .bool nd)], q.1.cell? ⟨g, k, none⟩ = some (.int .i64 x) := fun q => q.2 (⟨g, k, none⟩, .int .i64 x) (by simp)
                      have f3 : ∀ q : CW [(⟨R, 0, none⟩, .slice (some ⟨cb, co, none⟩) 771 cc), (⟨H, a * 5, none⟩, .slice (some ⟨g, 0, none⟩) nh cap), (⟨g, k, none⟩, .int .i64 x), (⟨H, a * 5 + 1, none⟩, .slice (some ⟨g2, 0, none⟩) nh cap2), (⟨g2, k, none⟩, .bool nd)], q.1.cell? ⟨H, a * 5 + 1, none⟩ = some (.slice (some ⟨g2, 0, none⟩) nh cap2) := fun q => q.2 (⟨H, a * 5 + 1, none⟩, .slice (some ⟨g2, 0, none⟩) nh cap2) (by simp)
                      have f4 : ∀ q : CW [(⟨R, 0, none⟩, .slice (some ⟨cb, co, none⟩) 771 cc), (⟨H, a * 5, none⟩, .slice (some ⟨g, 0, none⟩) nh cap), (⟨g, k, none⟩, .int .i64 x), (⟨H, a * 5 + 1, none⟩, .slice (some ⟨g2, 0, none⟩) nh cap2), (⟨g2, k, none⟩, .bool nd)], q.1.cell? ⟨g2, k, none⟩ = some (.bool nd) := fun q => q.2 (⟨g2, k, none⟩, .bool nd) (by simp)
                      (try simp only [Act.put, List.setIfInBounds_toArray, List.set_cons_succ, List.set_cons_zero])
                      refine wp_region_noPanic ?_
                      refine wp_region_plw (.step [true, true, true, true, true, true, true, true, true, true, true, true, true, true, true, true, true, true, true] (.cons 19 (.last [false, false, false, false, false, false, false, false, false, false, false, false, false, false, false, false, false, false, false, false, true, true, true, true, true, true, true, true, true, true, true, true, true, true, true, true, true]) .nil)) (fun y => ∃ q : CW [(⟨R, 0, none⟩, .slice (some ⟨cb, co, none⟩) 771 cc), (⟨H, a * 5, none⟩, .slice (some ⟨g, 0, none⟩) nh cap), (⟨g, k, none⟩, .int .i64 x), (⟨H, a * 5 + 1, none⟩, .slice (some ⟨g2, 0, none⟩) nh cap2), (⟨g2, k, none⟩, .bool nd)], y = q.1) (by kernel_rfl) (by kernel_rfl) (by kernel_rfl) (fun _ _ _ _ _ _ _ h => h) ⟨⟨_, HF.out⟩, rfl⟩ ?_
                      simp only [wpPw, wpBw, selF, and_true]
                      generalize wr.drew = V5 at *
                      repeat (go_big_quiet_step (fail))
                      refine wpQuiet_nil ?_
                      refine wpOp_step rfl (fun K hK => ?_)
                      go_simp
                      refine (live14 HJ2.out HMM.out ha4 k x nd HX.out.1 HX.out.2 _ (HCV.out.below HBX.out)).mono ?_
                      rintro e V6 ⟨rfl, nq, rfl⟩
                      replace HBX := Lib.hid (HBX.out.trans ((below_drewN _ nq).mono HBX.out.size))
                      replace G0 := Lib.hid (cell_dN (n := nq) G0.out)
                      replace G1 := Lib.hid (cell_dN (n := nq) G1.out)
                      replace G2 := Lib.hid (cell_dN (n := nq) G2.out)
                      replace G3 := Lib.hid (cell_dN (n := nq) G3.out)
                      replace G4 := Lib.hid (cell_dN (n := nq) G4.out)
                      refine hK _ _ ⟨(fun y => ∃ q : CW [(⟨R, 0, none⟩, .slice (some ⟨cb, co, none⟩) 771 cc), (⟨H, a * 5, none⟩, .slice (some ⟨g, 0, none⟩) nh cap), (⟨g, k, none⟩, .int .i64 x), (⟨H, a * 5 + 1, none⟩, .slice (some ⟨g2, 0, none⟩) nh cap2), (⟨g2, k, none⟩, .bool nd)], y = q.1), ⟨⟨_, (allc G0.out (allc G1.out (allc G2.out (allc G3.out (allc G4.out (alln _))))))⟩, rfl⟩, fun _ h => h, ?_⟩
                      clear hK K
                      (try simp only [Act.put, List.setIfInBounds_toArray, List.set_cons_succ, List.set_cons_zero])
                      repeat (go_big_quiet_step (fail))
                      refine wpQuiet_nil ?_
                      refine NoPanic.normal ?_
                      clear HF f0 f1 f2 f3 f4
                      clear G0 G1 G2 G3 G4
                      go_wp2_with fail
                      clear e1 e2 e3 d1 d2 d3 d4
                      go_loopw [17] (fun iv wx => ∃ i : Nat, i ≤ k ∧ iv = .int .i64 i ∧ Below wo.heap.size wo wx) (fun iv _ => k - (intOf iv).toNat)
                      case atStart => exact ⟨0, by omega, rfl, HBX.out⟩
                      case round =>
                        clear HBX
                        obtain ⟨i, hi, rfl, hbx⟩ := hrel
                        have HBX := Lib.hid hbx
                        clear hbx
                        by_cases hik : i < k
                        · have di : decide ((i : Int) < (k : Int)) = true := by simp; omega
                          have hil : i < nh := by omega
                          obtain ⟨x2, hx2⟩ : ∃ x, (σ2.hs a)[i]? = some x := ⟨_, List.getElem?_eq_getElem (by rw [HNH.out.1]; exact hil)⟩
                          obtain ⟨nd2, hn2⟩ : ∃ nd, (σ2.ns a)[i]? = some nd := ⟨_, List.getElem?_eq_getElem (by rw [HNH.out.2]; exact hil)⟩
                          obtain ⟨_, eg, kx0⟩ := HXS.out i x2 hx2
                          obtain ⟨_, eg2, kn1⟩ := HXN.out i nd2 hn2
                          cases eg
                          cases eg2
                          obtain ⟨s2, -, -, e12, -, -, -, -, -, -, em2⟩ := HJ2.out.slot HMM.out ha4 i x2 nd2 hx2 hn2
                          have hun := fun e : nd2 = nd => HJ2.out.un a ha4 i k x2 x nd hik hx2 HX.out.1 (e ▸ hn2) HX.out.2
                          rw [em2, HEM.out] at hun
                          have HUN := Lib.hid hun
                          clear hx2 hn2 em2 hun
                          have kh := cell_bel HBX.out KH.out
                          have kn := cell_bel HBX.out KN.out
                          have kx2 := cell_bel HBX.out kx0
                          have kn2 := cell_bel HBX.out kn1
                          have kn3 := cell_bel HBX.out KN1.out
                          clear kx0 kn1
                          cases nd <;> cases nd2
                          · have hne : ((s2 : Int) == (s : Int)) = false := by rw [beq_eq_false_iff_ne]; exact HUN.out rfl
                            go_wp2_with fail
                            go_quiet (fail)
                            clear kn3 kn2 kn kh kx2 hne e12
                            replace HBX := Lib.hid (HBX.out.trans ((below_drewN _ nq).mono HBX.out.size))
                            go_wp2_with fail
                            go_roundw
                            case rel => exact ⟨i + 1, by omega, rfl, HBX.out⟩
                            case measure => simp [intOf]; omega
                          · have hne := 0
                            go_wp2_with fail
                            go_quiet (fail)
                            clear kn3 kn2 kn kh kx2 hne e12
                            replace HBX := Lib.hid (HBX.out.trans ((below_drewN _ nq).mono HBX.out.size))
                            go_wp2_with fail
                            go_roundw
                            case rel => exact ⟨i + 1, by omega, rfl, HBX.out⟩
                            case measure => simp [intOf]; omega
                          · have hne := 0
                            go_wp2_with fail
                            go_quiet (fail)
                            clear kn3 kn2 kn kh kx2 hne e12
                            replace HBX := Lib.hid (HBX.out.trans ((below_drewN _ nq).mono HBX.out.size))
                            go_wp2_with fail
                            go_roundw
                            case rel => exact ⟨i + 1, by omega, rfl, HBX.out⟩
                            case measure => simp [intOf]; omega
                          · have hne : ((s2 : Int) == (s : Int)) = false := by rw [beq_eq_false_iff_ne]; exact HUN.out rfl
                            go_wp2_with fail
                            go_quiet (fail)
                            clear kn3 kn2 kn kh kx2 hne e12
                            replace HBX := Lib.hid (HBX.out.trans ((below_drewN _ nq).mono HBX.out.size))
                            go_wp2_with fail
                            go_roundw
                            case rel => exact ⟨i + 1, by omega, rfl, HBX.out⟩
                            case measure => simp [intOf]; omega
                        · have e : i = k := by omega
                          subst e
                          have di : decide ((i : Int) < (i : Int)) = false := by simp
                          go_wp2_with fail
                          go_roundw
                          case rel => exact ⟨i + 1, by omega, rfl, HBX.out⟩
                          case measure => simp [intOf]; omega
                    · have e : k = nh := by omega
                      subst e
                      have dk : decide ((k : Int) < (k : Int)) = false := by simp
                      go_wp2_with fail
                      go_roundw
                      case rel => exact ⟨a + 1, by omega, rfl, HBX.out⟩
                      case measure => simp [intOf]; omega
                · have e : a = 4 := by omega
                  subst e
                  have da : decide (((4 : Nat) : Int) < 4) = false := by decide
                  go_wp2_with fail
                  go_roundw
                  case rel => exact ⟨j + 1, σ2, hlt, rfl, HBW.out.trans (HBX.out.mono HBW.out.size), HPV.out.below HBX.out, HJ2.out⟩
                  case measure => simp [intOf]; omega
        · have d2 : (dO == 2) = false := by rw [beq_eq_false_iff_ne]; exact h2
          clear h2 kn
          obtain ⟨nh, hnh⟩ : ∃ nh, (σ.hs c).length = nh := ⟨_, rfl⟩
          rw [hnh] at kh hcp
          clear hnh
          as_aux_lemma =>
            go_wp2_with fail
            refine HWHO.out.mono ?_
            rintro e W3 ⟨rfl, rfl⟩
            clear HWHO
            go_wp2_with (first
              | (refine wp_ldr rfl (.tmp 91) rfl xb (xo + j * 3) rfl _ _ _ kx0 kx1 kx2 ?_))
            refine (pick14 c hc4 cl dO nN m ec HMM.out R H B _ σ HPV.out (HJ.out.ok HMM.out (by omega))).mono ?_
            rintro e W4 ⟨rfl, hk, hpv⟩
            have HBW := Lib.hid (HBL.out.trans (hk.below HRR.out.1 HRR.out.2.1 HRR.out.2.2 HBL.out.size))
            have HJ2 := Lib.hid (HJ.out.pick HMM.out (by omega) c hc4 dO nN)
            replace HPV := Lib.hid hpv
            clear hk hpv HJ HBL
            generalize pk4 m c dO nN σ = σ2 at *
            clear kx0 kx1 kx2 kh kb HXS HXN
            clear ho HN
            go_wp2_with fail
            generalize HWO : W4 = wo at *
            clear HWO
            go_loopw [14] (fun iv wx => ∃ a : Nat, a ≤ 4 ∧ iv = .int .i64 a ∧ Below wo.heap.size wo wx) (fun iv _ => 4 - (intOf iv).toNat)
            case atStart => exact ⟨0, by omega, rfl, Below.refl _ _⟩
            case round =>
              obtain ⟨a, ha, rfl, hbx⟩ := hrel
              have HBX := Lib.hid hbx
              clear hbx
              by_cases ha4 : a < 4
              · have da : decide ((a : Int) < 4) = true := by simp; omega
                obtain ⟨ao, cap, kh0, hcp, hxs⟩ := HPV.out.hs a ha4
                obtain ⟨ao2, cap2, kn0, hcp2, hxn⟩ := HPV.out.ns a ha4
                have hlen := HJ2.out.hn a ha4
                rw [hlen] at kn0 hcp2
                obtain ⟨nh, hnh⟩ : ∃ nh, (σ2.hs a).length = nh := ⟨_, rfl⟩
                rw [hnh] at kh0 kn0 hcp hcp2 hlen
                have KH := Lib.hid kh0
                have KN := Lib.hid kn0
                have HXS := Lib.hid hxs
                have HXN := Lib.hid hxn
                have HNH := Lib.hid (And.intro hnh hlen)
                have hle3 : nh ≤ 301 := by have := HJ2.out.le a ha4; omega
                clear kh0 kn0 hxs hxn hnh hlen
                go_wp2_with fail
                go_loopw [15] (fun iv wx => ∃ k : Nat, k ≤ nh ∧ iv = .int .i64 k ∧ Below wo.heap.size wo wx) (fun iv _ => nh - (intOf iv).toNat)
                case atStart => exact ⟨0, by omega, rfl, HBX.out⟩
                case round =>
                  clear HBX
                  obtain ⟨k, hk, rfl, hbx⟩ := hrel
                  have HBX := Lib.hid hbx
                  clear hbx
                  have kh := cell_bel HBX.out KH.out
                  by_cases hlt2 : k < nh
                  · have dk : decide ((k : Int) < (nh : Int)) = true := by simp; omega
                    obtain ⟨x, hx⟩ : ∃ x, (σ2.hs a)[k]? = some x := ⟨_, List.getElem?_eq_getElem (by rw [HNH.out.1]; exact hlt2)⟩
                    obtain ⟨nd, hn⟩ : ∃ nd, (σ2.ns a)[k]? = some nd := ⟨_, List.getElem?_eq_getElem (by rw [HNH.out.2]; exact hlt2)⟩
                    obtain ⟨g, rfl, kx0⟩ := HXS.out k x hx
                    obtain ⟨g2, rfl, kn1⟩ := HXN.out k nd hn
                    have KX := Lib.hid kx0
                    have KN1 := Lib.hid kn1
                    have HX := Lib.hid (And.intro hx hn)
                    obtain ⟨s, p, q, e1, e2, e3, d1, d2, d3, d4, em⟩ := HJ2.out.slot HMM.out ha4 k x nd hx hn
                    have HEM := Lib.hid em
                    have kx := cell_bel HBX.out KX.out
                    clear kx0 kn1 hx hn em
                    obtain ⟨PP, cv, kc0, hcv⟩ := HPV.out.cells
                    have HCV := Lib.hid hcv
                    obtain ⟨cb, co, cc, rfl, -⟩ := hcv
                    have KC := Lib.hid kc0
                    clear kc0
                    go_wp2_with fail
                    clear kh kx
                    replace HBX := Lib.hid (HBX.out.trans ((below_drew _).mono HBX.out.size))
                    have G0 : Hid (World.cell? wr.drew ⟨R, 0, none⟩ = some (.slice (some ⟨cb, co, none⟩) 771 cc)) := Lib.hid (cell_bel HBX.out KC.out)
                    have G1 : Hid (World.cell? wr.drew ⟨H, a * 5, none⟩ = some (.slice (some ⟨g, 0, none⟩) nh cap)) := Lib.hid (cell_bel HBX.out KH.out)
                    have G2 : Hid (World.cell? wr.drew ⟨g, k, none⟩ = some (.int .i64 x)) := Lib.hid (cell_bel HBX.out KX.out)
                    have G3 : Hid (World.cell? wr.drew ⟨H, a * 5 + 1, none⟩ = some (.slice (some ⟨g2, 0, none⟩) nh cap2)) := Lib.hid (cell_bel HBX.out KN.out)
                    have G4 : Hid (World.cell? wr.drew ⟨g2, k, none⟩ = some (.bool nd)) := Lib.hid (cell_bel HBX.out KN1.out)
                    have HF : Hid (∀ p ∈ ([(⟨R, 0, none⟩, .slice (some ⟨cb, co, none⟩) 771 cc), (⟨H, a * 5, none⟩, .slice (some ⟨g, 0, none⟩) nh cap), (⟨g, k, none⟩, .int .i64 x), (⟨H, a * 5 + 1, none⟩, .slice (some ⟨g2, 0, none⟩) nh cap2), (⟨g2, k, none⟩, .bool nd)] : List (Addr × Value)), World.cell? wr.drew p.1 = some p.2) := Lib.hid (allc G0.out (allc G1.out (allc G2.out (allc G3.out (allc G4.out (alln _))))))
                    haveI : Inhabited (CW [(⟨R, 0, none⟩, .slice (some ⟨cb, co, none⟩) 771 cc), (⟨H, a * 5, none⟩, .slice (some ⟨g, 0, none⟩) nh cap), (⟨g, k, none⟩, .int .i64 x), (⟨H, a * 5 + 1, none⟩, .slice (some ⟨g2, 0, none⟩) nh cap2), (⟨g2, k, none⟩, .bool nd)]) := ⟨⟨_, HF.out⟩⟩
                    have f0 : ∀ q : CW [(⟨R, 0, none⟩, .slice (some ⟨cb, co, none⟩) 771 cc), (⟨H, a * 5, none⟩, .slice (some ⟨g, 0, none⟩) nh cap), (⟨g, k, none⟩, .int .i64 x), (⟨H, a * 5 + 1, none⟩, .slice (some ⟨g2, 0, none⟩) nh cap2), (⟨g2, k, none⟩, .bool nd)], q.1.cell? ⟨R, 0, none⟩ = some (.slice (some ⟨cb, co, none⟩) 771 cc) := fun q => q.2 (⟨R, 0, none⟩, .slice (some ⟨cb, co, none⟩) 771 cc) (by simp)
                    have f1 : ∀ q : CW [(⟨R, 0, none⟩, .slice (some ⟨cb, co, none⟩) 771 cc), (⟨H, a * 5, none⟩, .slice (some ⟨g, 0, none⟩) nh cap), (⟨g, k, none⟩, .int .i64 x), (⟨H, a * 5 + 1, none⟩, .slice (some ⟨g2, 0, none⟩) nh cap2), (⟨g2, k, none⟩, .bool nd)], q.1.cell? ⟨H, a * 5, none⟩ = some (.slice (some ⟨g, 0, none⟩) nh cap) := fun q => q.2 (⟨H, a * 5, none⟩, .slice (some ⟨g, 0, none⟩) nh cap) (by simp)
                    have f2 : ∀ q : CW [(⟨R, 0, none⟩, .slice (some ⟨cb, co, none⟩) 771 cc), (⟨H, a * 5, none⟩, .slice (some ⟨g, 0, none⟩) nh cap), (⟨g, k, none⟩, .int .i64 x), (⟨H, a * 5 + 1, none⟩, .slice (some ⟨g2, 0, none⟩) nh cap2), (⟨g2, k, none⟩, .bool nd)], q.1.cell? ⟨g, k, none⟩ = some (.int .i64 x) := fun q => q.2 (⟨g, k, none⟩, .int .i64 x) (by simp)
                    have f3 : ∀ q : CW [(⟨R, 0, none⟩, .slice (some ⟨cb, co, none⟩) 771 cc), (⟨H, a * 5, none⟩, .slice (some ⟨g, 0, none⟩) nh cap), (⟨g, k, none⟩, .int .i64 x), (⟨H, a * 5 + 1, none⟩, .slice (some ⟨g2, 0, none⟩) nh cap2), (⟨g2, k, none⟩, .bool nd)], q.1.cell? ⟨H, a * 5 + 1, none⟩ = some (.slice (some ⟨g2, 0, none⟩) nh cap2) := fun q => q.2 (⟨H, a * 5 + 1, none⟩, .slice (some ⟨g2, 0, none⟩) nh cap2) (by simp)
                    have f4 : ∀ q : CW [(⟨R, 0, none⟩, .slice (some ⟨cb, co, none⟩) 771 cc), (⟨H, a * 5, none⟩, .slice (some ⟨g, 0, none⟩) nh cap), (⟨g, k, none⟩, .int .i64 x), (⟨H, a * 5 + 1, none⟩, .slice (some ⟨g2, 0, none⟩) nh cap2), (⟨g2, k, none⟩, .bool nd)], q.1.cell? ⟨g2, k, none⟩ = some (.bool nd) := fun q => q.2 (⟨g2, k, none⟩, .bool nd) (by simp)
                    (try simp only [Act.put, List.setIfInBounds_toArray, List.set_cons_succ, List.set_cons_zero])
                    refine wp_region_noPanic ?_
                    refine wp_region_plw (.step [true, true, true, true, true, true, true, true, true, true, true, true, true, true, true, true, true, true, true] (.cons 19 (.last [false, false, false, false, false, false, false, false, false, false, false, false, false, false, false, false, false, false, false, false, true, true, true, true, true, true, true, true, true, true, true, true, true, true, true, true, true]) .nil)) (fun y => ∃ q : CW [(⟨R, 0, none⟩, .slice (some ⟨cb, co, none⟩) 771 cc), (⟨H, a * 5, none⟩, .slice (some ⟨g, 0, none⟩) nh cap), (⟨g, k, none⟩, .int .i64 x), (⟨H, a * 5 + 1, none⟩, .slice (some ⟨g2, 0, none⟩) nh cap2), (⟨g2, k, none⟩, .bool nd)], y = q.1) (by kernel_rfl) (by kernel_rfl) (by kernel_rfl) (fun _ _ _ _ _ _ _ h => h) ⟨⟨_, HF.out⟩, rfl⟩ ?_
                    simp only [wpPw, wpBw, selF, and_true]
                    generalize wr.drew = V7 at *
                    repeat (go_big_quiet_step (fail))
                    refine wpQuiet_nil ?_
                    refine wpOp_step rfl (fun K hK => ?_)
                    go_simp
                    refine (live14 HJ2.out HMM.out ha4 k x nd HX.out.1 HX.out.2 _ (HCV.out.below HBX.out)).mono ?_
                    rintro e V8 ⟨rfl, nq, rfl⟩
                    replace HBX := Lib.hid (HBX.out.trans ((below_drewN _ nq).mono HBX.out.size))
                    replace G0 := Lib.hid (cell_dN (n := nq) G0.out)
                    replace G1 := Lib.hid (cell_dN (n := nq) G1.out)
                    replace G2 := Lib.hid (cell_dN (n := nq) G2.out)
                    replace G3 := Lib.hid (cell_dN (n := nq) G3.out)
                    replace G4 := Lib.hid (cell_dN (n := nq) G4.out)
                    refine hK _ _ ⟨(fun y => ∃ q : CW [(⟨R, 0, none⟩, .slice (some ⟨cb, co, none⟩) 771 cc), (⟨H, a * 5, none⟩, .slice (some ⟨g, 0, none⟩) nh cap), (⟨g, k, none⟩, .int .i64 x), (⟨H, a * 5 + 1, none⟩, .slice (some ⟨g2, 0, none⟩) nh cap2), (⟨g2, k, none⟩, .bool nd)], y = q.1), ⟨⟨_, (allc G0.out (allc G1.out (allc G2.out (allc G3.out (allc G4.out (alln _))))))⟩, rfl⟩, fun _ h => h, ?_⟩
                    clear hK K
                    (try simp only [Act.put, List.setIfInBounds_toArray, List.set_cons_succ, List.set_cons_zero])
                    repeat (go_big_quiet_step (fail))
                    refine wpQuiet_nil ?_
                    refine NoPanic.normal ?_
                    clear HF f0 f1 f2 f3 f4
                    clear G0 G1 G2 G3 G4
                    go_wp2_with fail
                    clear e1 e2 e3 d1 d2 d3 d4
                    go_loopw [17] (fun iv wx => ∃ i : Nat, i ≤ k ∧ iv = .int .i64 i ∧ Below wo.heap.size wo wx) (fun iv _ => k - (intOf iv).toNat)
                    case atStart => exact ⟨0, by omega, rfl, HBX.out⟩
                    case round =>
                      clear HBX
                      obtain ⟨i, hi, rfl, hbx⟩ := hrel
                      have HBX := Lib.hid hbx
                      clear hbx
                      by_cases hik : i < k
                      · have di : decide ((i : Int) < (k : Int)) = true := by simp; omega
                        have hil : i < nh := by omega
                        obtain ⟨x2, hx2⟩ : ∃ x, (σ2.hs a)[i]? = some x := ⟨_, List.getElem?_eq_getElem (by rw [HNH.out.1]; exact hil)⟩
                        obtain ⟨nd2, hn2⟩ : ∃ nd, (σ2.ns a)[i]? = some nd := ⟨_, List.getElem?_eq_getElem (by rw [HNH.out.2]; exact hil)⟩
                        obtain ⟨_, eg, kx0⟩ := HXS.out i x2 hx2
                        obtain ⟨_, eg2, kn1⟩ := HXN.out i nd2 hn2
                        cases eg
                        cases eg2
                        obtain ⟨s2, -, -, e12, -, -, -, -, -, -, em2⟩ := HJ2.out.slot HMM.out ha4 i x2 nd2 hx2 hn2
                        have hun := fun e : nd2 = nd => HJ2.out.un a ha4 i k x2 x nd hik hx2 HX.out.1 (e ▸ hn2) HX.out.2
                        rw [em2, HEM.out] at hun
                        have HUN := Lib.hid hun
                        clear hx2 hn2 em2 hun
                        have kh := cell_bel HBX.out KH.out
                        have kn := cell_bel HBX.out KN.out
                        have kx2 := cell_bel HBX.out kx0
                        have kn2 := cell_bel HBX.out kn1
                        have kn3 := cell_bel HBX.out KN1.out
                        clear kx0 kn1
                        cases nd <;> cases nd2
                        · have hne : ((s2 : Int) == (s : Int)) = false := by rw [beq_eq_false_iff_ne]; exact HUN.out rfl
                          go_wp2_with fail
                          go_quiet (fail)
                          clear kn3 kn2 kn kh kx2 hne e12
                          replace HBX := Lib.hid (HBX.out.trans ((below_drewN _ nq).mono HBX.out.size))
                          go_wp2_with fail
                          go_roundw
                          case rel => exact ⟨i + 1, by omega, rfl, HBX.out⟩
                          case measure => simp [intOf]; omega
                        · have hne := 0
                          go_wp2_with fail
                          go_quiet (fail)
                          clear kn3 kn2 kn kh kx2 hne e12
                          replace HBX := Lib.hid (HBX.out.trans ((below_drewN _ nq).mono HBX.out.size))
                          go_wp2_with fail
                          go_roundw
                          case rel => exact ⟨i + 1, by omega, rfl, HBX.out⟩
                          case measure => simp [intOf]; omega
                        · have hne := 0
                          go_wp2_with fail
                          go_quiet (fail)
                          clear kn3 kn2 kn kh kx2 hne e12
                          replace HBX := Lib.hid (HBX.out.trans ((below_drewN _ nq).mono HBX.out.size))
                          go_wp2_with fail
                          go_roundw
                          case rel => exact ⟨i + 1, by omega, rfl, HBX.out⟩
                          case measure => simp [intOf]; omega
                        · have hne : ((s2 : Int) == (s : Int)) = false := by rw [beq_eq_false_iff_ne]; exact HUN.out rfl
                          go_wp2_with fail
                          go_quiet (fail)
                          clear kn3 kn2 kn kh kx2 hne e12
                          replace HBX := Lib.hid (HBX.out.trans ((below_drewN _ nq).mono HBX.out.size))
                          go_wp2_with fail
                          go_roundw
                          case rel => exact ⟨i + 1, by omega, rfl, HBX.out⟩
                          case measure => simp [intOf]; omega
                      · have e : i = k := by omega
                        subst e
                        have di : decide ((i : Int) < (i : Int)) = false := by simp
                        go_wp2_with fail
                        go_roundw
                        case rel => exact ⟨i + 1, by omega, rfl, HBX.out⟩
                        case measure => simp [intOf]; omega
                  · have e : k = nh := by omega
                    subst e
                    have dk : decide ((k : Int) < (k : Int)) = false := by simp
                    go_wp2_with fail
                    go_roundw
                    case rel => exact ⟨a + 1, by omega, rfl, HBX.out⟩
                    case measure => simp [intOf]; omega
              · have e : a = 4 := by omega
                subst e
                have da : decide (((4 : Nat) : Int) < 4) = false := by decide
                go_wp2_with fail
                go_roundw
                case rel => exact ⟨j + 1, σ2, hlt, rfl, HBW.out.trans (HBX.out.mono HBW.out.size), HPV.out.below HBX.out, HJ2.out⟩
                case measure => simp [intOf]; omega
    · have e : j = n := by omega
      subst e
      have dj : decide ((j : Int) < (j : Int)) = false := by simp
      go_wp2_with fail
      refine (wakes14 _).mono ?_
      rintro e Y ⟨rfl, hb⟩
      have HY := Lib.hid (HBL.out.trans (hb.mono HBL.out.size))
      clear hb
      go_wp2_with fail
      go_ret
      exact ⟨rfl, HY.out⟩
end Go.Proofs.Ytgpdknacnmapiaa
