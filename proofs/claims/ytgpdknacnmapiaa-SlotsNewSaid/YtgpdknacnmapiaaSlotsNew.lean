/-
  A slot allotted and freed, again and again (chapter 14's SlotsNew).
-/
import Derived.Test.YtgpdknacnmapiaaSw
namespace Go.Proofs.Ytgpdknacnmapiaa
set_option linter.unusedVariables false
set_option linter.unusedSimpArgs false
open Go.RowKit
theorem ol2 {n r : Nat} {c c2 : Array Value} {t t2 : TypeId} {b : Nat} (h : OL [(n, c, t), (r, c2, t2)] b) : b = n ∨ b = r := by
  obtain ⟨i, C, u, hi⟩ := h
  match i, hi with
  | 0, hi => simp at hi; exact .inl hi.1.symm
  | 1, hi => simp at hi; exact .inr hi.1.symm
  | i + 2, hi => simp at hi
theorem AllV.form {R : Nat} {W : World} {v : Value} {hs : List Int} (h : AllV R W v hs) : ∃ ao cap, v = .slice ao hs.length cap := by
  rcases h.2 with ⟨rfl, h0⟩ | ⟨g, cap, cur, rfl, -⟩
  · exact ⟨none, 0, by rw [h0]⟩
  · exact ⟨_, _, rfl⟩
/-- blocks that are neither the run's nor the list's -/
def PA (R : Nat) (av : Value) : Nat → Prop := fun b => b ≠ R ∧ some b ≠ av.ownBlock
theorem PA.hP {R : Nat} {W : World} {av : Value} {hs : List Int} (hR : R < W.heap.size) (hA : AllV R W av hs) {n : Nat} (hn : W.heap.size ≤ n) : ∀ b, n ≤ b → PA R av b := fun b hb => ⟨by omega, fun e => by have := hA.lt b e; omega⟩
set_option maxHeartbeats 8000000 in
set_option maxRecDepth 100000 in
theorem slots_new_false (a0 a1 a2 : Int) (w : World) : Calls Try.prog 8 #[.int .i64 a0, .int .i64 a1, .int .i64 a2, .bool false] w fun e w' => e = .returned (.bool true) ∧ Below w.heap.size w w' := by
  obtain ⟨S, hS, eS⟩ := norm_rem a0 16 ⟨by omega, by omega⟩
  have hS255 : 0 ≤ (S : Int) ∧ (S : Int) ≤ 255 := ⟨by omega, by omega⟩
  have HS255 := Lib.hid hS255
  obtain ⟨k, hk, hk7⟩ : ∃ k : Nat, genC (S : Int) false = (k : Int) ∧ k < 771 := ⟨99 + S * 12, by unfold genC; simp; omega, by omega⟩
  have HK := Lib.hid hk
  have HCR := Lib.hid (fun w => cell_r (S : Int) false w ⟨by omega, by omega⟩)
  rw [show (S : Int) % 256 = S by omega, hk] at HCR
  have eg := and_1023 a1
  obtain ⟨g0, hg0⟩ : ∃ g, a1 % 1024 = g := ⟨_, rfl⟩
  rw [hg0] at eg
  have g1 : 0 ≤ g0 := by omega
  have g2 : g0 ≤ 1023 := by omega
  have HG := Lib.hid (And.intro g1 g2)
  have et := and_127 a2
  obtain ⟨t, ht⟩ : ∃ t : Nat, a2 % 128 = (t : Int) := ⟨(a2 % 128).toNat, by omega⟩
  rw [ht] at et
  have ht128 : t < 128 := by omega
  obtain ⟨L0, hL0⟩ : ∃ L, newL 160 = L := ⟨_, rfl⟩
  have HL0 : Hid (L0.length = 771 ∧ ∀ x ∈ L0, -1152921504606846976 ≤ x ∧ x ≤ 1152921504606846976) := Lib.hid (by rw [← hL0]; exact ⟨newL_len _, newL_fit _⟩)
  clear hS hS255 hk hg0 ht
  go_enter Try.func8, Try.ntmps8
  go_wp2_with fail
  refine (new_run14 _).mono ?_
  rintro e W1 ⟨R, cv, d1, d2, N, cur, rfl, hd1, hd2, rfl, hcur, hM⟩
  rw [hL0] at hcur
  have HM0 := Lib.hid hM
  have HM := Lib.hid hM.re
  have HD := Lib.hid (And.intro hd1 hd2)
  have HCU := Lib.hid hcur
  have HNR : Hid (N ≠ R ∧ w.heap.size ≤ R) := Lib.hid ⟨fun e => by subst e; have := hM.nd 0 1 _ _ _ _ _ rfl rfl; omega, by rcases hM.st 1 _ _ _ rfl with h | h; exact h.elim; exact h⟩
  clear hd1 hd2 hcur hM hL0
  go_wp2_with fail
  replace HM := Lib.hid HM.out.drew
  have HF : Hid (∀ p ∈ ([(⟨R, 0, none⟩, .slice (some ⟨N, 0, none⟩) 771 771)] : List (Addr × Value)), World.cell? _ p.1 = some p.2) := Lib.hid (allc ((HM.out.hb 1 _ _ _ rfl).cell (k := 0) rfl) (alln _))
  haveI : Inhabited (CW [(⟨R, 0, none⟩, .slice (some ⟨N, 0, none⟩) 771 771)]) := ⟨⟨_, HF.out⟩⟩
  have f0 : ∀ q : CW [(⟨R, 0, none⟩, .slice (some ⟨N, 0, none⟩) 771 771)], q.1.cell? ⟨R, 0, none⟩ = some (.slice (some ⟨N, 0, none⟩) 771 771) := fun q => q.2 (⟨R, 0, none⟩, .slice (some ⟨N, 0, none⟩) 771 771) (by simp)
  (try simp only [Act.put, List.setIfInBounds_toArray, List.set_cons_succ, List.set_cons_zero])
  refine wp_region_noPanic ?_
  refine wp_region_plw (.step [true, true, true, true, true, true, true, false, true, true, true] (.cons 7 (.step [false, false, false, false, false, false, false, false, false, false, false, true] (.cons 12 (.last []) .nil)) .nil)) (fun y => ∃ q : CW [(⟨R, 0, none⟩, .slice (some ⟨N, 0, none⟩) 771 771)], y = q.1) (by kernel_rfl) (by kernel_rfl) (by kernel_rfl) (fun _ _ _ _ _ _ _ h => h) ⟨⟨_, HF.out⟩, rfl⟩ ?_
  simp only [wpPw, wpBw, selF, and_true]
  generalize W1.drew = V1 at *
  repeat (go_big_quiet_step (fail))
  refine wpQuiet_nil ?_
  refine wpOp_step rfl (fun K hK => ?_)
  go_simp
  refine (HCR.out _).mono ?_
  rintro e V2 ⟨rfl, rfl⟩
  refine hK _ _ ⟨(fun y => ∃ q : CW [(⟨R, 0, none⟩, .slice (some ⟨N, 0, none⟩) 771 771)], y = q.1), ⟨⟨_, (allc ((HM.out.hb 1 _ _ _ rfl).cell (k := 0) rfl) (alln _))⟩, rfl⟩, fun _ h => h, ?_⟩
  clear hK K
  (try simp only [Act.put, List.setIfInBounds_toArray, List.set_cons_succ, List.set_cons_zero])
  repeat (go_big_quiet_step (fail))
  refine wpQuiet_nil ?_
  refine wpOp_step rfl (fun K hK => ?_)
  rw [if_pos (by rfl)]
  refine wpO_cell 3 (.tmp 40) (.tmp 39) rfl rfl Try.sizeOf3 N k (2 * g0) rfl rfl cur 3 (HM.out.hb 0 _ _ _ rfl) (Array.getElem?_eq_some_iff.1 (HCU.out k _ (List.getElem?_eq_getElem (by rw [HL0.out.1]; exact hk7)))).1 ?_
  intro W2 hb ho hF hs
  replace HM := Lib.hid (HM.out.upd (i := 0) rfl hb ho hs hF)
  (try simp only [List.set_cons_zero] at HM)
  clear hb ho hF hs
  refine hK _ _ ⟨(fun y => ∃ q : CW [(⟨R, 0, none⟩, .slice (some ⟨N, 0, none⟩) 771 771)], y = q.1), ⟨⟨_, (allc ((HM.out.hb 1 _ _ _ rfl).cell (k := 0) rfl) (alln _))⟩, rfl⟩, fun _ h => h, ?_⟩
  clear hK K
  (try simp only [Act.put, List.setIfInBounds_toArray, List.set_cons_succ, List.set_cons_zero])
  refine wpQuiet_nil ?_
  refine NoPanic.normal ?_
  clear f0 HF
  have HRV : Hid (RunV (PA R (.slice none 0 0)) R W2 (run0 (.slice (some ⟨N, 0, none⟩) 771 771) d1 d2) (rs0 (.slice (some ⟨N, 0, none⟩) 771 771) d1 d2) (L0.set k (2 * itg g0 0))) := Lib.hid (by
    have hq : ∀ b, (b ≠ R ∧ b ≠ N) → ¬ OL [(N, cur, 3), (R, run0 (.slice (some ⟨N, 0, none⟩) 771 771) d1 d2, 74)] b := fun b hb h => by rcases ol2 h with e | e; exact hb.2 e; exact hb.1 e
    refine ⟨HM.out.hb 1 _ _ _ rfl, run0_ok _ _ _, ⟨N, 0, 771, rfl, ⟨HNR.out.1, by simp [Value.ownBlock]⟩, by simp [HL0.out.1], fun i x hx => ?_, fun x hx => ?_⟩, ?_, ?_⟩
    · rw [Nat.zero_add]
      exact (HM.out.hb 0 _ _ _ rfl).cell (HCU.out.set k (2 * g0) (by rw [HL0.out.1]; exact hk7) i x hx)
    · rcases List.mem_or_eq_of_mem_set hx with h | rfl
      · exact HL0.out.2 x h
      · show _ ≤ 2 * g0 ∧ 2 * g0 ≤ _; omega
    · exact (HD.out.1.mem hq HM.out).weak fun b hb _ => ⟨hb.1, by simp [Value.ownBlock]⟩
    · exact (HD.out.2.mem hq HM.out).weak fun b hb _ => ⟨hb.1, by simp [Value.ownBlock]⟩)
  have HBW : Hid (Below w.heap.size w W2) := Lib.hid (HM0.out.tr HM.out).bel
  clear HM HM0 HD HCU HCR
  go_wp2_with fail
  go_loopw [12, 13] (fun av iv wr => ∃ (j : Nat) (C : Array Value) (s : RS) (hs : List Int), j ≤ t + 1 ∧ iv = .int .i64 j ∧ RunV (PA R av) R wr C s (L0.set k (2 * itg g0 j)) ∧ s.b 0 = false ∧ Below w.heap.size w wr ∧ AllV R wr av hs ∧ hs = (List.range j).map fun i => itg g0 (i + 1) * 256 + S) (fun _ iv _ => t + 1 - (intOf iv).toNat)
  case atStart => exact ⟨0, _, _, [], Nat.zero_le _, rfl, HRV.out, rfl, HBW.out, AllV.nil _ _, rfl⟩
  case round =>
    clear HRV HBW
    obtain ⟨j, C, s, hs, hj, rfl, hRun, hb0, hB, hAll, ehs⟩ := hrel
    obtain ⟨aao, acap, rfl⟩ := hAll.form
    have hlen : hs.length = j := by rw [ehs]; simp
    have HR0 := Lib.hid hRun
    have HB0 := Lib.hid hB
    have HA0 := Lib.hid hAll
    have HEH := Lib.hid ehs
    have HLN := Lib.hid hlen
    have Hb0 := Lib.hid hb0
    clear hRun hB hAll ehs hb0
    rw [hlen] at HR0 HA0
    rw [hlen]
    clear hlen
    by_cases hlt : j < t + 1
    · have d0 : decide ((j : Int) < (t : Int) + 1) = true := by simp; omega
      have HJ : Hid (j ≤ 127) := Lib.hid (by omega)
      have HRL : Hid (R < wr.heap.size) := Lib.hid HR0.out.hb.lt
      have HBa : Hid (Below wr.heap.size wr (wr.alloc (.cells #[.int .i64 (S : Int), .int .i64 1, .int .i64 0] 3))) := Lib.hid ((Below.refl _ _).alloc (Nat.le_refl _) _)
      have HIA : Hid (Ints 0 (wr.alloc (.cells #[.int .i64 (S : Int), .int .i64 1, .int .i64 0] 3)) (.slice (some ⟨wr.heap.size, 0, none⟩) 3 3) [(S : Int), 1, 0]) := Lib.hid ⟨_, _, rfl, Nat.le_refl _, fun i x hx => ⟨_, 0, rfl, Nat.zero_le _, by
        match i, hx with
        | 0, hx => simp at hx; subst hx; simp [go_sem]
        | 1, hx => simp at hx; subst hx; simp [go_sem]
        | 2, hx => simp at hx; subst hx; simp [go_sem]
        | i + 3, hx => simp at hx⟩⟩
      have HGJ := Lib.hid (itg_le g0 HG.out j)
      obtain ⟨g, eg0⟩ : ∃ g, itg g0 j = g := ⟨_, rfl⟩
      have HGE := Lib.hid eg0
      rw [eg0] at HR0 HGJ
      have HN2 := Lib.hid (aft_le g HGJ.out.1)
      clear eg0
      go_wp2_with fail
      refine (bg14 (P := PA R (.slice aao j acap)) 0 (by omega) 56 (by omega) _ _ 0 R C s _ _ (PA.hP HRL.out HA0.out (by simp)) (fun b hb => hb.1) HIA.out (by simp) (HR0.out.below HBa.out) Hb0.out).mono ?_
      rintro e W3 ⟨rfl, C1, s1, hR1, hM1, hb1, hT1, hU1, -⟩
      have HK1 := Lib.hid (((Mem.startR HR0.out.hb).below HBa.out).trR hM1)
      have HP1 : Hid (∀ b, W3.heap.size ≤ b → PA R (.slice aao j acap) b) := Lib.hid (PA.hP HRL.out HA0.out HK1.out.size)
      clear hM1 HBa HIA
      go_wp2_with fail
      refine wp_loop_rounds 3 ?_
      rw [rounds_succ]
      go_wp2_with fail
      refine (st_go (P := PA R (.slice aao j acap)) 0 (by omega) R C1 s1 _ _ W3 HP1.out (fun b hb => hb.1) hR1 hT1 hU1 (fA_inv (node := false) HS255.out) (by omega) ⟨by omega, by omega⟩ (sn_a0 0 HK.out (by omega)) (.inl ⟨rfl, by omega, by omega, rfl, rfl, rfl⟩) (by omega) (doC0 k (2 * g) _ hk7 (List.getElem?_set_self (by rw [HL0.out.1]; exact hk7))) (fA1_inv HS255.out HK.out (by omega)) (by omega) ⟨by have := HGJ.out; omega, by have := HGJ.out; omega⟩ (sn_a1 g HK.out) (.inr (.inl ⟨rfl, by omega, by omega, rfl, ⟨by have := HN2.out; omega, by have := HN2.out; omega⟩, rfl⟩)) (by omega)).mono ?_
      rintro e W4 ⟨rfl, C2, s2, hR2, hM2, hb2, hT2, hU2, -⟩
      have HK2 := Lib.hid (HK1.out.trR hM2)
      have HP2 : Hid (∀ b, W4.heap.size ≤ b → PA R (.slice aao j acap) b) := Lib.hid (PA.hP HRL.out HA0.out HK2.out.size)
      clear hM2 hR1 hT1 hU1 HK1 HP1
      go_wp2_with fail
      rw [rounds_succ]
      go_wp2_with fail
      refine (st_end (P := PA R (.slice aao j acap)) 0 (by omega) R C2 s2 _ _ W4 HP2.out (fun b hb => hb.1) hR2 hT2 hU2 (fA1_inv (node := false) HS255.out HK.out (by omega)) (by omega) ⟨by have := HGJ.out; omega, by have := HGJ.out; omega⟩ (sn_a1 g HK.out) (.inr (.inl ⟨rfl, by omega, by omega, rfl, ⟨by have := HN2.out; omega, by have := HN2.out; omega⟩, rfl⟩)) (by omega) (doC1 k (aft g * 2 + 1) _ hk7 (by simp [HL0.out.1]) ⟨by have := HN2.out; omega, by have := HN2.out; omega⟩) (fA2_inv HS255.out HK.out (by omega) g HGJ.out) (by omega) ⟨by omega, by omega⟩ (sn_a2 g 0) (by simp)).mono ?_
      rintro e W5 ⟨⟨ans, rfl, hIn⟩, C3, s3, hR3, hM3, hb3, -, -, -⟩
      have HK3 := Lib.hid (HK2.out.trR hM3)
      have HR3 := Lib.hid hR3
      have HI3 := Lib.hid hIn
      have Hb3 : Hid (s3.b 0 = false) := Lib.hid (by rw [hb3]; rfl)
      clear hM3 hR2 hT2 hU2 HK2 HP2 hR3 hb3
      go_wp2_with fail
      rw [rounds_succ]
      go_wp2_with fail
      obtain ⟨ao1, anc, rfl, -, hcells⟩ := HI3.out
      obtain ⟨ab, aof, rfl, hPab, hc0⟩ := hcells 0 0 rfl
      obtain ⟨ab2, aof2, e12, -, hc1⟩ := hcells 1 _ rfl
      injection e12 with e12
      injection e12 with e13 e14 _
      subst e13 e14
      obtain ⟨hn, ehn⟩ : ∃ z : Int, aft g * 256 + S = z := ⟨_, rfl⟩
      rw [ehn] at hc1 HI3
      obtain ⟨nb, no, np, ecv, -⟩ := HR3.out.cv
      have HC0 : Hid (W5.cell? ⟨ab, aof, none⟩ = some (.int .i64 0)) := Lib.hid (by simpa using hc0)
      have HC1 := Lib.hid hc1
      have HPB := Lib.hid hPab
      have HEN := Lib.hid ehn
      have HW : Hid (C3[0]? = some (.slice (some ⟨nb, no, none⟩) 771 np)) := Lib.hid (by rw [HR3.out.ra.w 0 (by omega), ecv])
      have HCV : Hid (CellsV (PA R (.slice aao j acap)) W5 (.slice (some ⟨nb, no, none⟩) 771 np) ((L0.set k (2 * g)).set k (aft g * 2 + 1))) := Lib.hid (by have := HR3.out.cv; rw [ecv] at this; exact this)
      have HGT : Hid (((L0.set k (2 * g)).set k (aft g * 2 + 1))[k]? = some (aft g * 2 + 1)) := Lib.hid (List.getElem?_set_self (by rw [List.length_set, HL0.out.1]; exact hk7))
      have HLT : Hid (∀ W, CellsV (PA R (.slice aao j acap)) W (.slice (some ⟨nb, no, none⟩) 771 np) ((L0.set k (2 * g)).set k (aft g * 2 + 1)) → Calls Try.prog 26 #[.slice (some ⟨nb, no, none⟩) 771 np, .int .i64 hn, .bool false] W fun e w' => e = .returned (.bool true) ∧ ∃ n, w' = W.drewN n) := Lib.hid (fun W hC => by
        have := live_p (aft g) S false k (aft g * 2 + 1) W HN2.out HS255.out HK.out hC HGT.out
        rw [HEN.out] at this
        simpa only [beq_self_eq_true] using this)
      have HA5 : Hid (AllV R W5 (.slice aao j acap) hs) := Lib.hid (HA0.out.keep (fun b h1 h2 => HK3.out.old b h2 (by omega)))
      clear hcells hc0 hc1 hPab ecv ehn
      have HF : Hid (∀ p ∈ ([(⟨R, 0, none⟩, .slice (some ⟨nb, no, none⟩) 771 np), (⟨ab, aof, none⟩, .int .i64 0), (⟨ab, aof + 1, none⟩, .int .i64 hn)] : List (Addr × Value)), World.cell? (W5).drew p.1 = some p.2) := Lib.hid (cw_below (allc (HR3.out.hb.cell HW.out) (allc HC0.out (allc HC1.out (alln _)))) (below_drew _))
      haveI : Inhabited (CW [(⟨R, 0, none⟩, .slice (some ⟨nb, no, none⟩) 771 np), (⟨ab, aof, none⟩, .int .i64 0), (⟨ab, aof + 1, none⟩, .int .i64 hn)]) := ⟨⟨_, HF.out⟩⟩
      have f0 : ∀ q : CW [(⟨R, 0, none⟩, .slice (some ⟨nb, no, none⟩) 771 np), (⟨ab, aof, none⟩, .int .i64 0), (⟨ab, aof + 1, none⟩, .int .i64 hn)], q.1.cell? ⟨R, 0, none⟩ = some (.slice (some ⟨nb, no, none⟩) 771 np) := fun q => q.2 (⟨R, 0, none⟩, .slice (some ⟨nb, no, none⟩) 771 np) (by simp)
      have f1 : ∀ q : CW [(⟨R, 0, none⟩, .slice (some ⟨nb, no, none⟩) 771 np), (⟨ab, aof, none⟩, .int .i64 0), (⟨ab, aof + 1, none⟩, .int .i64 hn)], q.1.cell? ⟨ab, aof, none⟩ = some (.int .i64 0) := fun q => q.2 (⟨ab, aof, none⟩, .int .i64 0) (by simp)
      have f2 : ∀ q : CW [(⟨R, 0, none⟩, .slice (some ⟨nb, no, none⟩) 771 np), (⟨ab, aof, none⟩, .int .i64 0), (⟨ab, aof + 1, none⟩, .int .i64 hn)], q.1.cell? ⟨ab, aof + 1, none⟩ = some (.int .i64 hn) := fun q => q.2 (⟨ab, aof + 1, none⟩, .int .i64 hn) (by simp)
      (try simp only [Act.put, List.setIfInBounds_toArray, List.set_cons_succ, List.set_cons_zero])
      refine wp_region_noPanic ?_
      refine wp_region_plw (.step [true, true, true, true, true, true, true, true, true, true, true, true, true, true, true, true, true, true, true] (.cons 19 (.last [false, false, false, false, false, false, false, false, false, false, false, false, false, false, false, false, false, false, false, false, true, true]) .nil)) (fun y => ∃ q : CW [(⟨R, 0, none⟩, .slice (some ⟨nb, no, none⟩) 771 np), (⟨ab, aof, none⟩, .int .i64 0), (⟨ab, aof + 1, none⟩, .int .i64 hn)], y = q.1) (by kernel_rfl) (by kernel_rfl) (by kernel_rfl) (fun _ _ _ _ _ _ _ h => h) ⟨⟨_, HF.out⟩, rfl⟩ ?_
      simp only [wpPw, wpBw, selF, and_true]
      repeat (go_big_quiet_step (fail))
      refine wpQuiet_nil ?_
      refine wpOp_step rfl (fun K hK => ?_)
      go_simp
      refine (HLT.out _ (HCV.out.below (below_drew _))).mono ?_
      rintro e W6 ⟨rfl, nd, hV⟩
      have hbV : Below (W5).drew.heap.size (W5).drew W6 := by rw [hV]; exact below_drewN _ _
      replace HF := Lib.hid (cw_below HF.out hbV)
      have HB_W6 : Hid (Below (W5).heap.size (W5) W6) := Lib.hid ((below_drew _).trans (hbV.mono (Nat.le_refl _)))
      clear hV hbV
      refine hK _ _ ⟨(fun y => ∃ q : CW [(⟨R, 0, none⟩, .slice (some ⟨nb, no, none⟩) 771 np), (⟨ab, aof, none⟩, .int .i64 0), (⟨ab, aof + 1, none⟩, .int .i64 hn)], y = q.1), ⟨⟨_, HF.out⟩, rfl⟩, fun _ h => h, ?_⟩
      clear hK K
      (try simp only [Act.put, List.setIfInBounds_toArray, List.set_cons_succ, List.set_cons_zero])
      repeat (go_big_quiet_step (fail))
      refine wpQuiet_nil ?_
      refine NoPanic.normal ?_
      clear f0 f1 f2 HF
      go_wp2_with fail
      go_loopw [19] (fun iv wx => ∃ i : Nat, i ≤ j ∧ iv = .int .i64 i ∧ Below W5.heap.size W5 wx) (fun iv _ => j - (intOf iv).toNat)
      case atStart => exact ⟨0, Nat.zero_le _, rfl, HB_W6.out⟩
      case round =>
        clear HB_W6
        obtain ⟨i, hi, rfl, hbx⟩ := hrel
        have HBX := Lib.hid hbx
        clear hbx
        by_cases hil : i < j
        · have hget : hs[i]? = some (itg g0 (i + 1) * 256 + S) := by rw [HEH.out, List.getElem?_map, List.getElem?_range hil]; rfl
          obtain ⟨ag, ac2, e, hcell⟩ := HA5.out.get i _ hget
          rw [HLN.out] at e
          injection e with e1 e2 e3
          subst e1
          obtain ⟨ho, eho⟩ : ∃ z : Int, itg g0 (i + 1) * 256 + S = z := ⟨_, rfl⟩
          rw [eho] at hcell
          have HCL := Lib.hid hcell
          have hne := itg_ne g0 HG.out i j hil (by have := HJ.out; omega)
          have hne2 : itg g0 (i + 1) ≠ aft g := fun e => hne (by rw [e]; show aft g = aft (itg g0 j); rw [HGE.out])
          have dne : (ho == hn) = false := by rw [beq_eq_false_iff_ne, ← eho, ← HEN.out]; omega
          have HLO : Hid (∀ W, CellsV (PA R (.slice (some ⟨ag, 0, none⟩) j acap)) W (.slice (some ⟨nb, no, none⟩) 771 np) ((L0.set k (2 * g)).set k (aft g * 2 + 1)) → Calls Try.prog 26 #[.slice (some ⟨nb, no, none⟩) 771 np, .int .i64 ho, .bool false] W fun e w' => e = .returned (.bool false) ∧ ∃ n, w' = W.drewN n) := Lib.hid (fun W hC => by
            have := live_p (itg g0 (i + 1)) S false k (aft g * 2 + 1) W (aft_le _ (itg_le g0 HG.out i).1) HS255.out HK.out hC HGT.out
            rw [eho, show ((aft g * 2 + 1 == itg g0 (i + 1) * 2 + 1) = false) by rw [beq_eq_false_iff_ne]; omega] at this
            exact this)
          have di : decide ((i : Int) < (j : Int)) = true := by simp; omega
          clear hget e2 e3 hcell hne hne2 eho
          go_wp2_with fail
          have HF : Hid (∀ p ∈ ([(⟨R, 0, none⟩, .slice (some ⟨nb, no, none⟩) 771 np), (⟨ag, i, none⟩, .int .i64 ho), (⟨ab, aof + 1, none⟩, .int .i64 hn)] : List (Addr × Value)), World.cell? (wr).drew p.1 = some p.2) := Lib.hid (cw_below (cw_below (allc (HR3.out.hb.cell HW.out) (allc HCL.out (allc HC1.out (alln _)))) HBX.out) (below_drew _))
          haveI : Inhabited (CW [(⟨R, 0, none⟩, .slice (some ⟨nb, no, none⟩) 771 np), (⟨ag, i, none⟩, .int .i64 ho), (⟨ab, aof + 1, none⟩, .int .i64 hn)]) := ⟨⟨_, HF.out⟩⟩
          have f0 : ∀ q : CW [(⟨R, 0, none⟩, .slice (some ⟨nb, no, none⟩) 771 np), (⟨ag, i, none⟩, .int .i64 ho), (⟨ab, aof + 1, none⟩, .int .i64 hn)], q.1.cell? ⟨R, 0, none⟩ = some (.slice (some ⟨nb, no, none⟩) 771 np) := fun q => q.2 (⟨R, 0, none⟩, .slice (some ⟨nb, no, none⟩) 771 np) (by simp)
          have f1 : ∀ q : CW [(⟨R, 0, none⟩, .slice (some ⟨nb, no, none⟩) 771 np), (⟨ag, i, none⟩, .int .i64 ho), (⟨ab, aof + 1, none⟩, .int .i64 hn)], q.1.cell? ⟨ag, i, none⟩ = some (.int .i64 ho) := fun q => q.2 (⟨ag, i, none⟩, .int .i64 ho) (by simp)
          have f2 : ∀ q : CW [(⟨R, 0, none⟩, .slice (some ⟨nb, no, none⟩) 771 np), (⟨ag, i, none⟩, .int .i64 ho), (⟨ab, aof + 1, none⟩, .int .i64 hn)], q.1.cell? ⟨ab, aof + 1, none⟩ = some (.int .i64 hn) := fun q => q.2 (⟨ab, aof + 1, none⟩, .int .i64 hn) (by simp)
          (try simp only [Act.put, List.setIfInBounds_toArray, List.set_cons_succ, List.set_cons_zero])
          refine wp_region_noPanic ?_
          refine wp_region_plw (.step [true, true, true, true, true, true, true, true, true, true, true, true, true, true, true, true, true, true, true] (.cons 19 (.last [false, false, false, false, false, false, false, false, false, false, false, false, false, false, false, false, false, false, false, false, true]) .nil)) (fun y => ∃ q : CW [(⟨R, 0, none⟩, .slice (some ⟨nb, no, none⟩) 771 np), (⟨ag, i, none⟩, .int .i64 ho), (⟨ab, aof + 1, none⟩, .int .i64 hn)], y = q.1) (by kernel_rfl) (by kernel_rfl) (by kernel_rfl) (fun _ _ _ _ _ _ _ h => h) ⟨⟨_, HF.out⟩, rfl⟩ ?_
          simp only [wpPw, wpBw, selF, and_true]
          repeat (go_big_quiet_step (fail))
          refine wpQuiet_nil ?_
          refine wpOp_step rfl (fun K hK => ?_)
          go_simp
          refine (HLO.out _ ((HCV.out.below HBX.out).below (below_drew _))).mono ?_
          rintro e W7 ⟨rfl, nd, hV⟩
          have hbV : Below (wr).drew.heap.size (wr).drew W7 := by rw [hV]; exact below_drewN _ _
          replace HF := Lib.hid (cw_below HF.out hbV)
          have HB_W7 : Hid (Below (wr).heap.size (wr) W7) := Lib.hid ((below_drew _).trans (hbV.mono (Nat.le_refl _)))
          clear hV hbV
          refine hK _ _ ⟨(fun y => ∃ q : CW [(⟨R, 0, none⟩, .slice (some ⟨nb, no, none⟩) 771 np), (⟨ag, i, none⟩, .int .i64 ho), (⟨ab, aof + 1, none⟩, .int .i64 hn)], y = q.1), ⟨⟨_, HF.out⟩, rfl⟩, fun _ h => h, ?_⟩
          clear hK K
          (try simp only [Act.put, List.setIfInBounds_toArray, List.set_cons_succ, List.set_cons_zero])
          repeat (go_big_quiet_step (fail))
          refine wpQuiet_nil ?_
          refine NoPanic.normal ?_
          go_wp2_with fail
          go_roundw
          case rel => exact ⟨i + 1, hil, rfl, HBX.out.trans (HB_W7.out.mono HBX.out.size)⟩
          case measure => simp [intOf]; omega
        · have e : i = j := by omega
          subst e
          have di : decide ((i : Int) < (i : Int)) = false := by simp
          have c1 := HBX.out.cell (World.block_lt_of_cell? _ _ HC1.out)
          rw [HC1.out] at c1
          have HBXa : Hid (Below W5.heap.size W5 (wr.alloc (.cells #[.int .i64 hn] 3))) := Lib.hid (HBX.out.alloc HBX.out.size _)
          have HAx : Hid (AllV R (wr.alloc (.cells #[.int .i64 hn] 3)) (.slice aao i acap) hs) := Lib.hid (HA5.out.below HBXa.out)
          have HCx : Hid ((wr.alloc (.cells #[.int .i64 hn] 3)).cell? ⟨wr.heap.size, 0, none⟩ = some (.int .i64 hn)) := Lib.hid (by simp [go_sem])
          have HRx : Hid (R < (wr.alloc (.cells #[.int .i64 hn] 3)).heap.size) := Lib.hid (Nat.lt_of_lt_of_le HR3.out.hb.lt HBXa.out.size)
          go_wp2_with (refine wp_pushI rfl (.tmp 114) (.tmp 118) rfl R _ hs rfl HAx.out HRx.out wr.heap.size 1 rfl hn HCx.out (by have := HLN.out; have := HJ.out; omega) ?_; intro W8 av8 hA8 hob hgr; have HA8 := Lib.hid hA8; have HOB := Lib.hid hob; have HGR := Lib.hid hgr; have c8 : W8.cell? ⟨ab, aof + 1, none⟩ = some (.int .i64 hn) := (World.cell?_of_block (hgr.block ab (Nat.lt_of_lt_of_le (World.block_lt_of_cell? _ _ HC1.out) HBXa.out.size) HPB.out.2)).trans ((HBXa.out.cell (World.block_lt_of_cell? _ _ HC1.out)).trans HC1.out); clear hA8 hob hgr c1)
          have HR8 : Hid (RunV (PA R av8) R W8 C3 s3 ((L0.set k (2 * g)).set k (aft g * 2 + 1))) := Lib.hid (by
            have h1 := (HR3.out.below HBXa.out).weak (Q := fun b => (b ≠ R ∧ some b ≠ (Value.slice aao i acap).ownBlock) ∧ some b ≠ av8.ownBlock) (fun b hb hlt => ⟨hb, fun e => by
              rcases HOB.out with h | h
              · exact hb.2 (e.trans h)
              · rw [h] at e; injection e with e; omega⟩)
            have h2 := h1.oth (W' := W8) (fun b hb hlt => HGR.out.block b hlt (by
              rcases hb with hb | rfl
              · exact hb.1.2
              · intro e; have := HAx.out.lt b e; omega))
            exact h2.weak (fun b hb _ => ⟨hb.1.1, hb.2⟩))
          have HRL8 : Hid (R < W8.heap.size) := Lib.hid HR8.out.hb.lt
          have HBW8 : Hid (Below w.heap.size w W8) := Lib.hid (by
            have h1 := Mem.belR HB0.out HNR.out.2 HB0.out.size HK3.out
            have h2 := h1.trans (HBXa.out.mono h1.size)
            exact ⟨HGR.out.os.trans h2.os, HGR.out.tape.trans h2.tape, HGR.out.output.trans h2.output, Nat.le_trans h2.size HGR.out.size, fun b hb => (HGR.out.block b (Nat.lt_of_lt_of_le hb h2.size) (fun e => by have := HAx.out.lt b e; have := HNR.out.2; omega)).trans (h2.block b hb)⟩)
          have HBb : Hid (Below W8.heap.size W8 (W8.alloc (.cells #[.int .i64 hn, .int .i64 0] 3))) := Lib.hid ((Below.refl _ _).alloc (Nat.le_refl _) _)
          have HIB : Hid (Ints 0 (W8.alloc (.cells #[.int .i64 hn, .int .i64 0] 3)) (.slice (some ⟨W8.heap.size, 0, none⟩) 2 2) [hn, 0]) := Lib.hid ⟨_, _, rfl, Nat.le_refl _, fun i x hx => ⟨_, 0, rfl, Nat.zero_le _, by
            match i, hx with
            | 0, hx => simp at hx; subst hx; simp [go_sem]
            | 1, hx => simp at hx; subst hx; simp [go_sem]
            | i + 2, hx => simp at hx⟩⟩
          have HD0 : Hid (nextG (fD hn false) 0 = ⟨(fD hn false).at_ 1, 1, k, aft g * 2, []⟩) := Lib.hid (by rw [← HEN.out]; exact sn_d0 (aft g) 0 HS255.out HK.out (by omega))
          have HDI : Hid (Inv ((fD hn false).at_ 1) 1) := Lib.hid (by rw [← HEN.out]; exact fD1_inv (aft g) ⟨by have := HN2.out; omega, by have := HN2.out; omega⟩ HS255.out HK.out (by omega))
          have HHN : Hid (0 ≤ hn ∧ hn ≤ 300000) := Lib.hid (by have := HN2.out; have := HS255.out; have := HEN.out; omega)
          have HC8 := Lib.hid c8
          refine (bg14 (P := PA R av8) 0 (by omega) 57 (by omega) _ _ 0 R C3 s3 _ _ (PA.hP HRL8.out HA8.out (by simp)) (fun b hb => hb.1) HIB.out (by simp) (HR8.out.below HBb.out) Hb3.out).mono ?_
          rintro e W9 ⟨rfl, C4, s4, hR4, hM4, hb4, hT4, hU4, -⟩
          have HK9 := Lib.hid (((Mem.startR HR8.out.hb).below HBb.out).trR hM4)
          have HP9 : Hid (∀ b, W9.heap.size ≤ b → PA R av8 b) := Lib.hid (PA.hP HRL8.out HA8.out HK9.out.size)
          clear hM4 c8
          go_wp2_with fail
          refine (st_end (P := PA R av8) 0 (by omega) R C4 s4 _ _ W9 HP9.out (fun b hb => hb.1) hR4 hT4 hU4 (fD_inv (node := false) hn HHN.out) (by omega) ⟨by omega, by omega⟩ HD0.out (.inr (.inl ⟨rfl, by omega, by omega, rfl, ⟨by have := HN2.out; omega, by have := HN2.out; omega⟩, rfl⟩)) (by omega) (doC1 k (aft g * 2) _ hk7 (by simp [HL0.out.1]) ⟨by have := HN2.out; omega, by have := HN2.out; omega⟩) HDI.out (by omega) ⟨by omega, by omega⟩ (sn_d1 hn 0) (by simp)).mono ?_
          rintro e W10 ⟨⟨ans2, rfl, -⟩, C5, s5, hR5, hM5, hb5, -, -, -⟩
          have HK10 := Lib.hid (HK9.out.trR hM5)
          have HR10 := Lib.hid hR5
          have Hb5 : Hid (s5.b 0 = false) := Lib.hid (by rw [hb5]; rfl)
          have HC10 : Hid (W10.cell? ⟨ab, aof + 1, none⟩ = some (.int .i64 hn)) := Lib.hid ((World.cell?_of_block (HK10.out.old ab (World.block_lt_of_cell? _ _ HC8.out) HPB.out.1)).trans HC8.out)
          obtain ⟨nb5, no5, np5, ecv5, -⟩ := HR10.out.cv
          have HW5 : Hid (C5[0]? = some (.slice (some ⟨nb5, no5, none⟩) 771 np5)) := Lib.hid (by rw [HR10.out.ra.w 0 (by omega), ecv5])
          have HCV5 : Hid (CellsV (PA R av8) W10 (.slice (some ⟨nb5, no5, none⟩) 771 np5) (((L0.set k (2 * g)).set k (aft g * 2 + 1)).set k (aft g * 2))) := Lib.hid (by have := HR10.out.cv; rw [ecv5] at this; exact this)
          have HLF : Hid (∀ W, CellsV (PA R av8) W (.slice (some ⟨nb5, no5, none⟩) 771 np5) (((L0.set k (2 * g)).set k (aft g * 2 + 1)).set k (aft g * 2)) → Calls Try.prog 26 #[.slice (some ⟨nb5, no5, none⟩) 771 np5, .int .i64 hn, .bool false] W fun e w' => e = .returned (.bool false) ∧ ∃ n, w' = W.drewN n) := Lib.hid (fun W hC => by
            have := live_p (aft g) S false k (aft g * 2) W HN2.out HS255.out HK.out hC (List.getElem?_set_self (by rw [List.length_set, List.length_set, HL0.out.1]; exact hk7))
            rw [HEN.out, show ((aft g * 2 == aft g * 2 + 1) = false) by rw [beq_eq_false_iff_ne]; omega] at this
            exact this)
          clear hR4 hT4 hU4 hM5 hR5 hb5 hb4 ecv5 HK9 HP9
          go_wp2_with fail
          have HF : Hid (∀ p ∈ ([(⟨R, 0, none⟩, .slice (some ⟨nb5, no5, none⟩) 771 np5), (⟨ab, aof + 1, none⟩, .int .i64 hn)] : List (Addr × Value)), World.cell? (W10).drew p.1 = some p.2) := Lib.hid (cw_below (allc (HR10.out.hb.cell HW5.out) (allc HC10.out (alln _))) (below_drew _))
          haveI : Inhabited (CW [(⟨R, 0, none⟩, .slice (some ⟨nb5, no5, none⟩) 771 np5), (⟨ab, aof + 1, none⟩, .int .i64 hn)]) := ⟨⟨_, HF.out⟩⟩
          have f0 : ∀ q : CW [(⟨R, 0, none⟩, .slice (some ⟨nb5, no5, none⟩) 771 np5), (⟨ab, aof + 1, none⟩, .int .i64 hn)], q.1.cell? ⟨R, 0, none⟩ = some (.slice (some ⟨nb5, no5, none⟩) 771 np5) := fun q => q.2 (⟨R, 0, none⟩, .slice (some ⟨nb5, no5, none⟩) 771 np5) (by simp)
          have f1 : ∀ q : CW [(⟨R, 0, none⟩, .slice (some ⟨nb5, no5, none⟩) 771 np5), (⟨ab, aof + 1, none⟩, .int .i64 hn)], q.1.cell? ⟨ab, aof + 1, none⟩ = some (.int .i64 hn) := fun q => q.2 (⟨ab, aof + 1, none⟩, .int .i64 hn) (by simp)
          (try simp only [Act.put, List.setIfInBounds_toArray, List.set_cons_succ, List.set_cons_zero])
          refine wp_region_noPanic ?_
          refine wp_region_plw (.step [true, true, true, true, true, true, true, true, true] (.cons 9 (.last []) .nil)) (fun y => ∃ q : CW [(⟨R, 0, none⟩, .slice (some ⟨nb5, no5, none⟩) 771 np5), (⟨ab, aof + 1, none⟩, .int .i64 hn)], y = q.1) (by kernel_rfl) (by kernel_rfl) (by kernel_rfl) (fun _ _ _ _ _ _ _ h => h) ⟨⟨_, HF.out⟩, rfl⟩ ?_
          simp only [wpPw, wpBw, selF, and_true]
          repeat (go_big_quiet_step (fail))
          refine wpQuiet_nil ?_
          refine wpOp_step rfl (fun K hK => ?_)
          go_simp
          refine (HLF.out _ (HCV5.out.below (below_drew _))).mono ?_
          rintro e W11 ⟨rfl, nd, hV⟩
          have hbV : Below (W10).drew.heap.size (W10).drew W11 := by rw [hV]; exact below_drewN _ _
          replace HF := Lib.hid (cw_below HF.out hbV)
          have HB_W11 : Hid (Below (W10).heap.size (W10) W11) := Lib.hid ((below_drew _).trans (hbV.mono (Nat.le_refl _)))
          clear hV hbV
          refine hK _ _ ⟨(fun y => ∃ q : CW [(⟨R, 0, none⟩, .slice (some ⟨nb5, no5, none⟩) 771 np5), (⟨ab, aof + 1, none⟩, .int .i64 hn)], y = q.1), ⟨⟨_, HF.out⟩, rfl⟩, fun _ h => h, ?_⟩
          clear hK K
          (try simp only [Act.put, List.setIfInBounds_toArray, List.set_cons_succ, List.set_cons_zero])
          refine wpQuiet_nil ?_
          refine NoPanic.normal ?_
          go_wp2_with fail
          go_roundw
          case rel =>
            refine ⟨i + 1, C5, s5, hs ++ [hn], hlt, rfl, ?_, Hb5.out, ?_, ?_, ?_⟩
            · have := HR10.out.below HB_W11.out
              rw [List.set_set, List.set_set, Int.mul_comm (aft g) 2] at this
              have e : itg g0 (i + 1) = aft g := by show aft (itg g0 i) = aft g; rw [HGE.out]
              rw [e]
              exact this
            · have h1 := Mem.belR HBW8.out HNR.out.2 HBW8.out.size HK10.out
              exact h1.trans (HB_W11.out.mono h1.size)
            · exact (HA8.out.keep (fun b h1 h2 => HK10.out.old b h2 (by omega))).below HB_W11.out
            · have e : itg g0 (i + 1) = aft g := by show aft (itg g0 i) = aft g; rw [HGE.out]
              rw [HEH.out, List.range_succ, List.map_append, List.map_singleton, e, HEN.out]
          case measure => simp [intOf]; omega
    · have d0 : decide ((j : Int) < (t : Int) + 1) = false := by simp; omega
      go_wp2_with fail
      refine (wakes14 _).mono ?_
      rintro e Y ⟨rfl, hb⟩
      have HY := Lib.hid (HB0.out.trans (hb.mono HB0.out.size))
      clear hb
      go_wp2_with fail
      go_ret
      exact ⟨rfl, HY.out⟩
set_option maxHeartbeats 8000000 in
set_option maxRecDepth 100000 in
theorem slots_new_true (a0 a1 a2 : Int) (w : World) : Calls Try.prog 8 #[.int .i64 a0, .int .i64 a1, .int .i64 a2, .bool true] w fun e w' => e = .returned (.bool true) ∧ Below w.heap.size w w' := by
  obtain ⟨S, hS, eS⟩ := norm_rem a0 160 ⟨by omega, by omega⟩
  have hS255 : 0 ≤ (S : Int) ∧ (S : Int) ≤ 255 := ⟨by omega, by omega⟩
  have HS255 := Lib.hid hS255
  obtain ⟨k, hk, hk7⟩ : ∃ k : Nat, genC (S : Int) true = (k : Int) ∧ k < 771 := ⟨291 + S * 3, by unfold genC; simp; omega, by omega⟩
  have HK := Lib.hid hk
  have HCR := Lib.hid (fun w => cell_r (S : Int) true w ⟨by omega, by omega⟩)
  rw [show (S : Int) % 256 = S by omega, hk] at HCR
  have eg := and_1023 a1
  obtain ⟨g0, hg0⟩ : ∃ g, a1 % 1024 = g := ⟨_, rfl⟩
  rw [hg0] at eg
  have g1 : 0 ≤ g0 := by omega
  have g2 : g0 ≤ 1023 := by omega
  have HG := Lib.hid (And.intro g1 g2)
  have et := and_127 a2
  obtain ⟨t, ht⟩ : ∃ t : Nat, a2 % 128 = (t : Int) := ⟨(a2 % 128).toNat, by omega⟩
  rw [ht] at et
  have ht128 : t < 128 := by omega
  obtain ⟨L0, hL0⟩ : ∃ L, newL 160 = L := ⟨_, rfl⟩
  have HL0 : Hid (L0.length = 771 ∧ ∀ x ∈ L0, -1152921504606846976 ≤ x ∧ x ≤ 1152921504606846976) := Lib.hid (by rw [← hL0]; exact ⟨newL_len _, newL_fit _⟩)
  clear hS hS255 hk hg0 ht
  go_enter Try.func8, Try.ntmps8
  go_wp2_with fail
  refine (new_run14 _).mono ?_
  rintro e W1 ⟨R, cv, d1, d2, N, cur, rfl, hd1, hd2, rfl, hcur, hM⟩
  rw [hL0] at hcur
  have HM0 := Lib.hid hM
  have HM := Lib.hid hM.re
  have HD := Lib.hid (And.intro hd1 hd2)
  have HCU := Lib.hid hcur
  have HNR : Hid (N ≠ R ∧ w.heap.size ≤ R) := Lib.hid ⟨fun e => by subst e; have := hM.nd 0 1 _ _ _ _ _ rfl rfl; omega, by rcases hM.st 1 _ _ _ rfl with h | h; exact h.elim; exact h⟩
  clear hd1 hd2 hcur hM hL0
  go_wp2_with fail
  replace HM := Lib.hid HM.out.drew
  have HF : Hid (∀ p ∈ ([(⟨R, 0, none⟩, .slice (some ⟨N, 0, none⟩) 771 771)] : List (Addr × Value)), World.cell? _ p.1 = some p.2) := Lib.hid (allc ((HM.out.hb 1 _ _ _ rfl).cell (k := 0) rfl) (alln _))
  haveI : Inhabited (CW [(⟨R, 0, none⟩, .slice (some ⟨N, 0, none⟩) 771 771)]) := ⟨⟨_, HF.out⟩⟩
  have f0 : ∀ q : CW [(⟨R, 0, none⟩, .slice (some ⟨N, 0, none⟩) 771 771)], q.1.cell? ⟨R, 0, none⟩ = some (.slice (some ⟨N, 0, none⟩) 771 771) := fun q => q.2 (⟨R, 0, none⟩, .slice (some ⟨N, 0, none⟩) 771 771) (by simp)
  (try simp only [Act.put, List.setIfInBounds_toArray, List.set_cons_succ, List.set_cons_zero])
  refine wp_region_noPanic ?_
  refine wp_region_plw (.step [true, true, true, true, true, true, true, false, true, true, true] (.cons 7 (.step [false, false, false, false, false, false, false, false, false, false, false, true] (.cons 12 (.last []) .nil)) .nil)) (fun y => ∃ q : CW [(⟨R, 0, none⟩, .slice (some ⟨N, 0, none⟩) 771 771)], y = q.1) (by kernel_rfl) (by kernel_rfl) (by kernel_rfl) (fun _ _ _ _ _ _ _ h => h) ⟨⟨_, HF.out⟩, rfl⟩ ?_
  simp only [wpPw, wpBw, selF, and_true]
  generalize W1.drew = V3 at *
  repeat (go_big_quiet_step (fail))
  refine wpQuiet_nil ?_
  refine wpOp_step rfl (fun K hK => ?_)
  go_simp
  refine (HCR.out _).mono ?_
  rintro e V4 ⟨rfl, rfl⟩
  refine hK _ _ ⟨(fun y => ∃ q : CW [(⟨R, 0, none⟩, .slice (some ⟨N, 0, none⟩) 771 771)], y = q.1), ⟨⟨_, (allc ((HM.out.hb 1 _ _ _ rfl).cell (k := 0) rfl) (alln _))⟩, rfl⟩, fun _ h => h, ?_⟩
  clear hK K
  (try simp only [Act.put, List.setIfInBounds_toArray, List.set_cons_succ, List.set_cons_zero])
  repeat (go_big_quiet_step (fail))
  refine wpQuiet_nil ?_
  refine wpOp_step rfl (fun K hK => ?_)
  rw [if_pos (by rfl)]
  refine wpO_cell 3 (.tmp 40) (.tmp 39) rfl rfl Try.sizeOf3 N k (2 * g0) rfl rfl cur 3 (HM.out.hb 0 _ _ _ rfl) (Array.getElem?_eq_some_iff.1 (HCU.out k _ (List.getElem?_eq_getElem (by rw [HL0.out.1]; exact hk7)))).1 ?_
  intro W2 hb ho hF hs
  replace HM := Lib.hid (HM.out.upd (i := 0) rfl hb ho hs hF)
  (try simp only [List.set_cons_zero] at HM)
  clear hb ho hF hs
  refine hK _ _ ⟨(fun y => ∃ q : CW [(⟨R, 0, none⟩, .slice (some ⟨N, 0, none⟩) 771 771)], y = q.1), ⟨⟨_, (allc ((HM.out.hb 1 _ _ _ rfl).cell (k := 0) rfl) (alln _))⟩, rfl⟩, fun _ h => h, ?_⟩
  clear hK K
  (try simp only [Act.put, List.setIfInBounds_toArray, List.set_cons_succ, List.set_cons_zero])
  refine wpQuiet_nil ?_
  refine NoPanic.normal ?_
  clear f0 HF
  have HRV : Hid (RunV (PA R (.slice none 0 0)) R W2 (run0 (.slice (some ⟨N, 0, none⟩) 771 771) d1 d2) (rs0 (.slice (some ⟨N, 0, none⟩) 771 771) d1 d2) (L0.set k (2 * itg g0 0))) := Lib.hid (by
    have hq : ∀ b, (b ≠ R ∧ b ≠ N) → ¬ OL [(N, cur, 3), (R, run0 (.slice (some ⟨N, 0, none⟩) 771 771) d1 d2, 74)] b := fun b hb h => by rcases ol2 h with e | e; exact hb.2 e; exact hb.1 e
    refine ⟨HM.out.hb 1 _ _ _ rfl, run0_ok _ _ _, ⟨N, 0, 771, rfl, ⟨HNR.out.1, by simp [Value.ownBlock]⟩, by simp [HL0.out.1], fun i x hx => ?_, fun x hx => ?_⟩, ?_, ?_⟩
    · rw [Nat.zero_add]
      exact (HM.out.hb 0 _ _ _ rfl).cell (HCU.out.set k (2 * g0) (by rw [HL0.out.1]; exact hk7) i x hx)
    · rcases List.mem_or_eq_of_mem_set hx with h | rfl
      · exact HL0.out.2 x h
      · show _ ≤ 2 * g0 ∧ 2 * g0 ≤ _; omega
    · exact (HD.out.1.mem hq HM.out).weak fun b hb _ => ⟨hb.1, by simp [Value.ownBlock]⟩
    · exact (HD.out.2.mem hq HM.out).weak fun b hb _ => ⟨hb.1, by simp [Value.ownBlock]⟩)
  have HBW : Hid (Below w.heap.size w W2) := Lib.hid (HM0.out.tr HM.out).bel
  clear HM HM0 HD HCU HCR
  go_wp2_with fail
  go_loopw [12, 13] (fun av iv wr => ∃ (j : Nat) (C : Array Value) (s : RS) (hs : List Int), j ≤ t + 1 ∧ iv = .int .i64 j ∧ RunV (PA R av) R wr C s (L0.set k (2 * itg g0 j)) ∧ s.b 0 = false ∧ Below w.heap.size w wr ∧ AllV R wr av hs ∧ hs = (List.range j).map fun i => itg g0 (i + 1) * 256 + S) (fun _ iv _ => t + 1 - (intOf iv).toNat)
  case atStart => exact ⟨0, _, _, [], Nat.zero_le _, rfl, HRV.out, rfl, HBW.out, AllV.nil _ _, rfl⟩
  case round =>
    clear HRV HBW
    obtain ⟨j, C, s, hs, hj, rfl, hRun, hb0, hB, hAll, ehs⟩ := hrel
    obtain ⟨aao, acap, rfl⟩ := hAll.form
    have hlen : hs.length = j := by rw [ehs]; simp
    have HR0 := Lib.hid hRun
    have HB0 := Lib.hid hB
    have HA0 := Lib.hid hAll
    have HEH := Lib.hid ehs
    have HLN := Lib.hid hlen
    have Hb0 := Lib.hid hb0
    clear hRun hB hAll ehs hb0
    rw [hlen] at HR0 HA0
    rw [hlen]
    clear hlen
    by_cases hlt : j < t + 1
    · have d0 : decide ((j : Int) < (t : Int) + 1) = true := by simp; omega
      have HJ : Hid (j ≤ 127) := Lib.hid (by omega)
      have HRL : Hid (R < wr.heap.size) := Lib.hid HR0.out.hb.lt
      have HBa : Hid (Below wr.heap.size wr (wr.alloc (.cells #[.int .i64 (S : Int), .int .i64 1, .int .i64 1] 3))) := Lib.hid ((Below.refl _ _).alloc (Nat.le_refl _) _)
      have HIA : Hid (Ints 0 (wr.alloc (.cells #[.int .i64 (S : Int), .int .i64 1, .int .i64 1] 3)) (.slice (some ⟨wr.heap.size, 0, none⟩) 3 3) [(S : Int), 1, 1]) := Lib.hid ⟨_, _, rfl, Nat.le_refl _, fun i x hx => ⟨_, 0, rfl, Nat.zero_le _, by
        match i, hx with
        | 0, hx => simp at hx; subst hx; simp [go_sem]
        | 1, hx => simp at hx; subst hx; simp [go_sem]
        | 2, hx => simp at hx; subst hx; simp [go_sem]
        | i + 3, hx => simp at hx⟩⟩
      have HGJ := Lib.hid (itg_le g0 HG.out j)
      obtain ⟨g, eg0⟩ : ∃ g, itg g0 j = g := ⟨_, rfl⟩
      have HGE := Lib.hid eg0
      rw [eg0] at HR0 HGJ
      have HN2 := Lib.hid (aft_le g HGJ.out.1)
      clear eg0
      go_wp2_with fail
      refine (bg14 (P := PA R (.slice aao j acap)) 0 (by omega) 56 (by omega) _ _ 0 R C s _ _ (PA.hP HRL.out HA0.out (by simp)) (fun b hb => hb.1) HIA.out (by simp) (HR0.out.below HBa.out) Hb0.out).mono ?_
      rintro e W3 ⟨rfl, C1, s1, hR1, hM1, hb1, hT1, hU1, -⟩
      have HK1 := Lib.hid (((Mem.startR HR0.out.hb).below HBa.out).trR hM1)
      have HP1 : Hid (∀ b, W3.heap.size ≤ b → PA R (.slice aao j acap) b) := Lib.hid (PA.hP HRL.out HA0.out HK1.out.size)
      clear hM1 HBa HIA
      go_wp2_with fail
      refine wp_loop_rounds 3 ?_
      rw [rounds_succ]
      go_wp2_with fail
      refine (st_go (P := PA R (.slice aao j acap)) 0 (by omega) R C1 s1 _ _ W3 HP1.out (fun b hb => hb.1) hR1 hT1 hU1 (fA_inv (node := true) HS255.out) (by omega) ⟨by omega, by omega⟩ (sn_a0 0 HK.out (by omega)) (.inl ⟨rfl, by omega, by omega, rfl, rfl, rfl⟩) (by omega) (doC0 k (2 * g) _ hk7 (List.getElem?_set_self (by rw [HL0.out.1]; exact hk7))) (fA1_inv HS255.out HK.out (by omega)) (by omega) ⟨by have := HGJ.out; omega, by have := HGJ.out; omega⟩ (sn_a1 g HK.out) (.inr (.inl ⟨rfl, by omega, by omega, rfl, ⟨by have := HN2.out; omega, by have := HN2.out; omega⟩, rfl⟩)) (by omega)).mono ?_
      rintro e W4 ⟨rfl, C2, s2, hR2, hM2, hb2, hT2, hU2, -⟩
      have HK2 := Lib.hid (HK1.out.trR hM2)
      have HP2 : Hid (∀ b, W4.heap.size ≤ b → PA R (.slice aao j acap) b) := Lib.hid (PA.hP HRL.out HA0.out HK2.out.size)
      clear hM2 hR1 hT1 hU1 HK1 HP1
      go_wp2_with fail
      rw [rounds_succ]
      go_wp2_with fail
      refine (st_end (P := PA R (.slice aao j acap)) 0 (by omega) R C2 s2 _ _ W4 HP2.out (fun b hb => hb.1) hR2 hT2 hU2 (fA1_inv (node := true) HS255.out HK.out (by omega)) (by omega) ⟨by have := HGJ.out; omega, by have := HGJ.out; omega⟩ (sn_a1 g HK.out) (.inr (.inl ⟨rfl, by omega, by omega, rfl, ⟨by have := HN2.out; omega, by have := HN2.out; omega⟩, rfl⟩)) (by omega) (doC1 k (aft g * 2 + 1) _ hk7 (by simp [HL0.out.1]) ⟨by have := HN2.out; omega, by have := HN2.out; omega⟩) (fA2_inv HS255.out HK.out (by omega) g HGJ.out) (by omega) ⟨by omega, by omega⟩ (sn_a2 g 0) (by simp)).mono ?_
      rintro e W5 ⟨⟨ans, rfl, hIn⟩, C3, s3, hR3, hM3, hb3, -, -, -⟩
      have HK3 := Lib.hid (HK2.out.trR hM3)
      have HR3 := Lib.hid hR3
      have HI3 := Lib.hid hIn
      have Hb3 : Hid (s3.b 0 = false) := Lib.hid (by rw [hb3]; rfl)
      clear hM3 hR2 hT2 hU2 HK2 HP2 hR3 hb3
      go_wp2_with fail
      rw [rounds_succ]
      go_wp2_with fail
      obtain ⟨ao1, anc, rfl, -, hcells⟩ := HI3.out
      obtain ⟨ab, aof, rfl, hPab, hc0⟩ := hcells 0 0 rfl
      obtain ⟨ab2, aof2, e12, -, hc1⟩ := hcells 1 _ rfl
      injection e12 with e12
      injection e12 with e13 e14 _
      subst e13 e14
      obtain ⟨hn, ehn⟩ : ∃ z : Int, aft g * 256 + S = z := ⟨_, rfl⟩
      rw [ehn] at hc1 HI3
      obtain ⟨nb, no, np, ecv, -⟩ := HR3.out.cv
      have HC0 : Hid (W5.cell? ⟨ab, aof, none⟩ = some (.int .i64 0)) := Lib.hid (by simpa using hc0)
      have HC1 := Lib.hid hc1
      have HPB := Lib.hid hPab
      have HEN := Lib.hid ehn
      have HW : Hid (C3[0]? = some (.slice (some ⟨nb, no, none⟩) 771 np)) := Lib.hid (by rw [HR3.out.ra.w 0 (by omega), ecv])
      have HCV : Hid (CellsV (PA R (.slice aao j acap)) W5 (.slice (some ⟨nb, no, none⟩) 771 np) ((L0.set k (2 * g)).set k (aft g * 2 + 1))) := Lib.hid (by have := HR3.out.cv; rw [ecv] at this; exact this)
      have HGT : Hid (((L0.set k (2 * g)).set k (aft g * 2 + 1))[k]? = some (aft g * 2 + 1)) := Lib.hid (List.getElem?_set_self (by rw [List.length_set, HL0.out.1]; exact hk7))
      have HLT : Hid (∀ W, CellsV (PA R (.slice aao j acap)) W (.slice (some ⟨nb, no, none⟩) 771 np) ((L0.set k (2 * g)).set k (aft g * 2 + 1)) → Calls Try.prog 26 #[.slice (some ⟨nb, no, none⟩) 771 np, .int .i64 hn, .bool true] W fun e w' => e = .returned (.bool true) ∧ ∃ n, w' = W.drewN n) := Lib.hid (fun W hC => by
        have := live_p (aft g) S true k (aft g * 2 + 1) W HN2.out HS255.out HK.out hC HGT.out
        rw [HEN.out] at this
        simpa only [beq_self_eq_true] using this)
      have HA5 : Hid (AllV R W5 (.slice aao j acap) hs) := Lib.hid (HA0.out.keep (fun b h1 h2 => HK3.out.old b h2 (by omega)))
      clear hcells hc0 hc1 hPab ecv ehn
      have HF : Hid (∀ p ∈ ([(⟨R, 0, none⟩, .slice (some ⟨nb, no, none⟩) 771 np), (⟨ab, aof, none⟩, .int .i64 0), (⟨ab, aof + 1, none⟩, .int .i64 hn)] : List (Addr × Value)), World.cell? (W5).drew p.1 = some p.2) := Lib.hid (cw_below (allc (HR3.out.hb.cell HW.out) (allc HC0.out (allc HC1.out (alln _)))) (below_drew _))
      haveI : Inhabited (CW [(⟨R, 0, none⟩, .slice (some ⟨nb, no, none⟩) 771 np), (⟨ab, aof, none⟩, .int .i64 0), (⟨ab, aof + 1, none⟩, .int .i64 hn)]) := ⟨⟨_, HF.out⟩⟩
      have f0 : ∀ q : CW [(⟨R, 0, none⟩, .slice (some ⟨nb, no, none⟩) 771 np), (⟨ab, aof, none⟩, .int .i64 0), (⟨ab, aof + 1, none⟩, .int .i64 hn)], q.1.cell? ⟨R, 0, none⟩ = some (.slice (some ⟨nb, no, none⟩) 771 np) := fun q => q.2 (⟨R, 0, none⟩, .slice (some ⟨nb, no, none⟩) 771 np) (by simp)
      have f1 : ∀ q : CW [(⟨R, 0, none⟩, .slice (some ⟨nb, no, none⟩) 771 np), (⟨ab, aof, none⟩, .int .i64 0), (⟨ab, aof + 1, none⟩, .int .i64 hn)], q.1.cell? ⟨ab, aof, none⟩ = some (.int .i64 0) := fun q => q.2 (⟨ab, aof, none⟩, .int .i64 0) (by simp)
      have f2 : ∀ q : CW [(⟨R, 0, none⟩, .slice (some ⟨nb, no, none⟩) 771 np), (⟨ab, aof, none⟩, .int .i64 0), (⟨ab, aof + 1, none⟩, .int .i64 hn)], q.1.cell? ⟨ab, aof + 1, none⟩ = some (.int .i64 hn) := fun q => q.2 (⟨ab, aof + 1, none⟩, .int .i64 hn) (by simp)
      (try simp only [Act.put, List.setIfInBounds_toArray, List.set_cons_succ, List.set_cons_zero])
      refine wp_region_noPanic ?_
      refine wp_region_plw (.step [true, true, true, true, true, true, true, true, true, true, true, true, true, true, true, true, true, true, true] (.cons 19 (.last [false, false, false, false, false, false, false, false, false, false, false, false, false, false, false, false, false, false, false, false, true, true]) .nil)) (fun y => ∃ q : CW [(⟨R, 0, none⟩, .slice (some ⟨nb, no, none⟩) 771 np), (⟨ab, aof, none⟩, .int .i64 0), (⟨ab, aof + 1, none⟩, .int .i64 hn)], y = q.1) (by kernel_rfl) (by kernel_rfl) (by kernel_rfl) (fun _ _ _ _ _ _ _ h => h) ⟨⟨_, HF.out⟩, rfl⟩ ?_
      simp only [wpPw, wpBw, selF, and_true]
      repeat (go_big_quiet_step (fail))
      refine wpQuiet_nil ?_
      refine wpOp_step rfl (fun K hK => ?_)
      go_simp
      refine (HLT.out _ (HCV.out.below (below_drew _))).mono ?_
      rintro e W6 ⟨rfl, nd, hV⟩
      have hbV : Below (W5).drew.heap.size (W5).drew W6 := by rw [hV]; exact below_drewN _ _
      replace HF := Lib.hid (cw_below HF.out hbV)
      have HB_W6 : Hid (Below (W5).heap.size (W5) W6) := Lib.hid ((below_drew _).trans (hbV.mono (Nat.le_refl _)))
      clear hV hbV
      refine hK _ _ ⟨(fun y => ∃ q : CW [(⟨R, 0, none⟩, .slice (some ⟨nb, no, none⟩) 771 np), (⟨ab, aof, none⟩, .int .i64 0), (⟨ab, aof + 1, none⟩, .int .i64 hn)], y = q.1), ⟨⟨_, HF.out⟩, rfl⟩, fun _ h => h, ?_⟩
      clear hK K
      (try simp only [Act.put, List.setIfInBounds_toArray, List.set_cons_succ, List.set_cons_zero])
      repeat (go_big_quiet_step (fail))
      refine wpQuiet_nil ?_
      refine NoPanic.normal ?_
      clear f0 f1 f2 HF
      go_wp2_with fail
      go_loopw [19] (fun iv wx => ∃ i : Nat, i ≤ j ∧ iv = .int .i64 i ∧ Below W5.heap.size W5 wx) (fun iv _ => j - (intOf iv).toNat)
      case atStart => exact ⟨0, Nat.zero_le _, rfl, HB_W6.out⟩
      case round =>
        clear HB_W6
        obtain ⟨i, hi, rfl, hbx⟩ := hrel
        have HBX := Lib.hid hbx
        clear hbx
        by_cases hil : i < j
        · have hget : hs[i]? = some (itg g0 (i + 1) * 256 + S) := by rw [HEH.out, List.getElem?_map, List.getElem?_range hil]; rfl
          obtain ⟨ag, ac2, e, hcell⟩ := HA5.out.get i _ hget
          rw [HLN.out] at e
          injection e with e1 e2 e3
          subst e1
          obtain ⟨ho, eho⟩ : ∃ z : Int, itg g0 (i + 1) * 256 + S = z := ⟨_, rfl⟩
          rw [eho] at hcell
          have HCL := Lib.hid hcell
          have hne := itg_ne g0 HG.out i j hil (by have := HJ.out; omega)
          have hne2 : itg g0 (i + 1) ≠ aft g := fun e => hne (by rw [e]; show aft g = aft (itg g0 j); rw [HGE.out])
          have dne : (ho == hn) = false := by rw [beq_eq_false_iff_ne, ← eho, ← HEN.out]; omega
          have HLO : Hid (∀ W, CellsV (PA R (.slice (some ⟨ag, 0, none⟩) j acap)) W (.slice (some ⟨nb, no, none⟩) 771 np) ((L0.set k (2 * g)).set k (aft g * 2 + 1)) → Calls Try.prog 26 #[.slice (some ⟨nb, no, none⟩) 771 np, .int .i64 ho, .bool true] W fun e w' => e = .returned (.bool false) ∧ ∃ n, w' = W.drewN n) := Lib.hid (fun W hC => by
            have := live_p (itg g0 (i + 1)) S true k (aft g * 2 + 1) W (aft_le _ (itg_le g0 HG.out i).1) HS255.out HK.out hC HGT.out
            rw [eho, show ((aft g * 2 + 1 == itg g0 (i + 1) * 2 + 1) = false) by rw [beq_eq_false_iff_ne]; omega] at this
            exact this)
          have di : decide ((i : Int) < (j : Int)) = true := by simp; omega
          clear hget e2 e3 hcell hne hne2 eho
          go_wp2_with fail
          have HF : Hid (∀ p ∈ ([(⟨R, 0, none⟩, .slice (some ⟨nb, no, none⟩) 771 np), (⟨ag, i, none⟩, .int .i64 ho), (⟨ab, aof + 1, none⟩, .int .i64 hn)] : List (Addr × Value)), World.cell? (wr).drew p.1 = some p.2) := Lib.hid (cw_below (cw_below (allc (HR3.out.hb.cell HW.out) (allc HCL.out (allc HC1.out (alln _)))) HBX.out) (below_drew _))
          haveI : Inhabited (CW [(⟨R, 0, none⟩, .slice (some ⟨nb, no, none⟩) 771 np), (⟨ag, i, none⟩, .int .i64 ho), (⟨ab, aof + 1, none⟩, .int .i64 hn)]) := ⟨⟨_, HF.out⟩⟩
          have f0 : ∀ q : CW [(⟨R, 0, none⟩, .slice (some ⟨nb, no, none⟩) 771 np), (⟨ag, i, none⟩, .int .i64 ho), (⟨ab, aof + 1, none⟩, .int .i64 hn)], q.1.cell? ⟨R, 0, none⟩ = some (.slice (some ⟨nb, no, none⟩) 771 np) := fun q => q.2 (⟨R, 0, none⟩, .slice (some ⟨nb, no, none⟩) 771 np) (by simp)
          have f1 : ∀ q : CW [(⟨R, 0, none⟩, .slice (some ⟨nb, no, none⟩) 771 np), (⟨ag, i, none⟩, .int .i64 ho), (⟨ab, aof + 1, none⟩, .int .i64 hn)], q.1.cell? ⟨ag, i, none⟩ = some (.int .i64 ho) := fun q => q.2 (⟨ag, i, none⟩, .int .i64 ho) (by simp)
          have f2 : ∀ q : CW [(⟨R, 0, none⟩, .slice (some ⟨nb, no, none⟩) 771 np), (⟨ag, i, none⟩, .int .i64 ho), (⟨ab, aof + 1, none⟩, .int .i64 hn)], q.1.cell? ⟨ab, aof + 1, none⟩ = some (.int .i64 hn) := fun q => q.2 (⟨ab, aof + 1, none⟩, .int .i64 hn) (by simp)
          (try simp only [Act.put, List.setIfInBounds_toArray, List.set_cons_succ, List.set_cons_zero])
          refine wp_region_noPanic ?_
          refine wp_region_plw (.step [true, true, true, true, true, true, true, true, true, true, true, true, true, true, true, true, true, true, true] (.cons 19 (.last [false, false, false, false, false, false, false, false, false, false, false, false, false, false, false, false, false, false, false, false, true]) .nil)) (fun y => ∃ q : CW [(⟨R, 0, none⟩, .slice (some ⟨nb, no, none⟩) 771 np), (⟨ag, i, none⟩, .int .i64 ho), (⟨ab, aof + 1, none⟩, .int .i64 hn)], y = q.1) (by kernel_rfl) (by kernel_rfl) (by kernel_rfl) (fun _ _ _ _ _ _ _ h => h) ⟨⟨_, HF.out⟩, rfl⟩ ?_
          simp only [wpPw, wpBw, selF, and_true]
          repeat (go_big_quiet_step (fail))
          refine wpQuiet_nil ?_
          refine wpOp_step rfl (fun K hK => ?_)
          go_simp
          refine (HLO.out _ ((HCV.out.below HBX.out).below (below_drew _))).mono ?_
          rintro e W7 ⟨rfl, nd, hV⟩
          have hbV : Below (wr).drew.heap.size (wr).drew W7 := by rw [hV]; exact below_drewN _ _
          replace HF := Lib.hid (cw_below HF.out hbV)
          have HB_W7 : Hid (Below (wr).heap.size (wr) W7) := Lib.hid ((below_drew _).trans (hbV.mono (Nat.le_refl _)))
          clear hV hbV
          refine hK _ _ ⟨(fun y => ∃ q : CW [(⟨R, 0, none⟩, .slice (some ⟨nb, no, none⟩) 771 np), (⟨ag, i, none⟩, .int .i64 ho), (⟨ab, aof + 1, none⟩, .int .i64 hn)], y = q.1), ⟨⟨_, HF.out⟩, rfl⟩, fun _ h => h, ?_⟩
          clear hK K
          (try simp only [Act.put, List.setIfInBounds_toArray, List.set_cons_succ, List.set_cons_zero])
          repeat (go_big_quiet_step (fail))
          refine wpQuiet_nil ?_
          refine NoPanic.normal ?_
          go_wp2_with fail
          go_roundw
          case rel => exact ⟨i + 1, hil, rfl, HBX.out.trans (HB_W7.out.mono HBX.out.size)⟩
          case measure => simp [intOf]; omega
        · have e : i = j := by omega
          subst e
          have di : decide ((i : Int) < (i : Int)) = false := by simp
          have c1 := HBX.out.cell (World.block_lt_of_cell? _ _ HC1.out)
          rw [HC1.out] at c1
          have HBXa : Hid (Below W5.heap.size W5 (wr.alloc (.cells #[.int .i64 hn] 3))) := Lib.hid (HBX.out.alloc HBX.out.size _)
          have HAx : Hid (AllV R (wr.alloc (.cells #[.int .i64 hn] 3)) (.slice aao i acap) hs) := Lib.hid (HA5.out.below HBXa.out)
          have HCx : Hid ((wr.alloc (.cells #[.int .i64 hn] 3)).cell? ⟨wr.heap.size, 0, none⟩ = some (.int .i64 hn)) := Lib.hid (by simp [go_sem])
          have HRx : Hid (R < (wr.alloc (.cells #[.int .i64 hn] 3)).heap.size) := Lib.hid (Nat.lt_of_lt_of_le HR3.out.hb.lt HBXa.out.size)
          go_wp2_with (refine wp_pushI rfl (.tmp 114) (.tmp 118) rfl R _ hs rfl HAx.out HRx.out wr.heap.size 1 rfl hn HCx.out (by have := HLN.out; have := HJ.out; omega) ?_; intro W8 av8 hA8 hob hgr; have HA8 := Lib.hid hA8; have HOB := Lib.hid hob; have HGR := Lib.hid hgr; have c8 : W8.cell? ⟨ab, aof + 1, none⟩ = some (.int .i64 hn) := (World.cell?_of_block (hgr.block ab (Nat.lt_of_lt_of_le (World.block_lt_of_cell? _ _ HC1.out) HBXa.out.size) HPB.out.2)).trans ((HBXa.out.cell (World.block_lt_of_cell? _ _ HC1.out)).trans HC1.out); clear hA8 hob hgr c1)
          have HR8 : Hid (RunV (PA R av8) R W8 C3 s3 ((L0.set k (2 * g)).set k (aft g * 2 + 1))) := Lib.hid (by
            have h1 := (HR3.out.below HBXa.out).weak (Q := fun b => (b ≠ R ∧ some b ≠ (Value.slice aao i acap).ownBlock) ∧ some b ≠ av8.ownBlock) (fun b hb hlt => ⟨hb, fun e => by
              rcases HOB.out with h | h
              · exact hb.2 (e.trans h)
              · rw [h] at e; injection e with e; omega⟩)
            have h2 := h1.oth (W' := W8) (fun b hb hlt => HGR.out.block b hlt (by
              rcases hb with hb | rfl
              · exact hb.1.2
              · intro e; have := HAx.out.lt b e; omega))
            exact h2.weak (fun b hb _ => ⟨hb.1.1, hb.2⟩))
          have HRL8 : Hid (R < W8.heap.size) := Lib.hid HR8.out.hb.lt
          have HBW8 : Hid (Below w.heap.size w W8) := Lib.hid (by
            have h1 := Mem.belR HB0.out HNR.out.2 HB0.out.size HK3.out
            have h2 := h1.trans (HBXa.out.mono h1.size)
            exact ⟨HGR.out.os.trans h2.os, HGR.out.tape.trans h2.tape, HGR.out.output.trans h2.output, Nat.le_trans h2.size HGR.out.size, fun b hb => (HGR.out.block b (Nat.lt_of_lt_of_le hb h2.size) (fun e => by have := HAx.out.lt b e; have := HNR.out.2; omega)).trans (h2.block b hb)⟩)
          have HBb : Hid (Below W8.heap.size W8 (W8.alloc (.cells #[.int .i64 hn, .int .i64 1] 3))) := Lib.hid ((Below.refl _ _).alloc (Nat.le_refl _) _)
          have HIB : Hid (Ints 0 (W8.alloc (.cells #[.int .i64 hn, .int .i64 1] 3)) (.slice (some ⟨W8.heap.size, 0, none⟩) 2 2) [hn, 1]) := Lib.hid ⟨_, _, rfl, Nat.le_refl _, fun i x hx => ⟨_, 0, rfl, Nat.zero_le _, by
            match i, hx with
            | 0, hx => simp at hx; subst hx; simp [go_sem]
            | 1, hx => simp at hx; subst hx; simp [go_sem]
            | i + 2, hx => simp at hx⟩⟩
          have HD0 : Hid (nextG (fD hn true) 0 = ⟨(fD hn true).at_ 1, 1, k, aft g * 2, []⟩) := Lib.hid (by rw [← HEN.out]; exact sn_d0 (aft g) 0 HS255.out HK.out (by omega))
          have HDI : Hid (Inv ((fD hn true).at_ 1) 1) := Lib.hid (by rw [← HEN.out]; exact fD1_inv (aft g) ⟨by have := HN2.out; omega, by have := HN2.out; omega⟩ HS255.out HK.out (by omega))
          have HHN : Hid (0 ≤ hn ∧ hn ≤ 300000) := Lib.hid (by have := HN2.out; have := HS255.out; have := HEN.out; omega)
          have HC8 := Lib.hid c8
          refine (bg14 (P := PA R av8) 0 (by omega) 57 (by omega) _ _ 0 R C3 s3 _ _ (PA.hP HRL8.out HA8.out (by simp)) (fun b hb => hb.1) HIB.out (by simp) (HR8.out.below HBb.out) Hb3.out).mono ?_
          rintro e W9 ⟨rfl, C4, s4, hR4, hM4, hb4, hT4, hU4, -⟩
          have HK9 := Lib.hid (((Mem.startR HR8.out.hb).below HBb.out).trR hM4)
          have HP9 : Hid (∀ b, W9.heap.size ≤ b → PA R av8 b) := Lib.hid (PA.hP HRL8.out HA8.out HK9.out.size)
          clear hM4 c8
          go_wp2_with fail
          refine (st_end (P := PA R av8) 0 (by omega) R C4 s4 _ _ W9 HP9.out (fun b hb => hb.1) hR4 hT4 hU4 (fD_inv (node := true) hn HHN.out) (by omega) ⟨by omega, by omega⟩ HD0.out (.inr (.inl ⟨rfl, by omega, by omega, rfl, ⟨by have := HN2.out; omega, by have := HN2.out; omega⟩, rfl⟩)) (by omega) (doC1 k (aft g * 2) _ hk7 (by simp [HL0.out.1]) ⟨by have := HN2.out; omega, by have := HN2.out; omega⟩) HDI.out (by omega) ⟨by omega, by omega⟩ (sn_d1 hn 0) (by simp)).mono ?_
          rintro e W10 ⟨⟨ans2, rfl, -⟩, C5, s5, hR5, hM5, hb5, -, -, -⟩
          have HK10 := Lib.hid (HK9.out.trR hM5)
          have HR10 := Lib.hid hR5
          have Hb5 : Hid (s5.b 0 = false) := Lib.hid (by rw [hb5]; rfl)
          have HC10 : Hid (W10.cell? ⟨ab, aof + 1, none⟩ = some (.int .i64 hn)) := Lib.hid ((World.cell?_of_block (HK10.out.old ab (World.block_lt_of_cell? _ _ HC8.out) HPB.out.1)).trans HC8.out)
          obtain ⟨nb5, no5, np5, ecv5, -⟩ := HR10.out.cv
          have HW5 : Hid (C5[0]? = some (.slice (some ⟨nb5, no5, none⟩) 771 np5)) := Lib.hid (by rw [HR10.out.ra.w 0 (by omega), ecv5])
          have HCV5 : Hid (CellsV (PA R av8) W10 (.slice (some ⟨nb5, no5, none⟩) 771 np5) (((L0.set k (2 * g)).set k (aft g * 2 + 1)).set k (aft g * 2))) := Lib.hid (by have := HR10.out.cv; rw [ecv5] at this; exact this)
          have HLF : Hid (∀ W, CellsV (PA R av8) W (.slice (some ⟨nb5, no5, none⟩) 771 np5) (((L0.set k (2 * g)).set k (aft g * 2 + 1)).set k (aft g * 2)) → Calls Try.prog 26 #[.slice (some ⟨nb5, no5, none⟩) 771 np5, .int .i64 hn, .bool true] W fun e w' => e = .returned (.bool false) ∧ ∃ n, w' = W.drewN n) := Lib.hid (fun W hC => by
            have := live_p (aft g) S true k (aft g * 2) W HN2.out HS255.out HK.out hC (List.getElem?_set_self (by rw [List.length_set, List.length_set, HL0.out.1]; exact hk7))
            rw [HEN.out, show ((aft g * 2 == aft g * 2 + 1) = false) by rw [beq_eq_false_iff_ne]; omega] at this
            exact this)
          clear hR4 hT4 hU4 hM5 hR5 hb5 hb4 ecv5 HK9 HP9
          go_wp2_with fail
          have HF : Hid (∀ p ∈ ([(⟨R, 0, none⟩, .slice (some ⟨nb5, no5, none⟩) 771 np5), (⟨ab, aof + 1, none⟩, .int .i64 hn)] : List (Addr × Value)), World.cell? (W10).drew p.1 = some p.2) := Lib.hid (cw_below (allc (HR10.out.hb.cell HW5.out) (allc HC10.out (alln _))) (below_drew _))
          haveI : Inhabited (CW [(⟨R, 0, none⟩, .slice (some ⟨nb5, no5, none⟩) 771 np5), (⟨ab, aof + 1, none⟩, .int .i64 hn)]) := ⟨⟨_, HF.out⟩⟩
          have f0 : ∀ q : CW [(⟨R, 0, none⟩, .slice (some ⟨nb5, no5, none⟩) 771 np5), (⟨ab, aof + 1, none⟩, .int .i64 hn)], q.1.cell? ⟨R, 0, none⟩ = some (.slice (some ⟨nb5, no5, none⟩) 771 np5) := fun q => q.2 (⟨R, 0, none⟩, .slice (some ⟨nb5, no5, none⟩) 771 np5) (by simp)
          have f1 : ∀ q : CW [(⟨R, 0, none⟩, .slice (some ⟨nb5, no5, none⟩) 771 np5), (⟨ab, aof + 1, none⟩, .int .i64 hn)], q.1.cell? ⟨ab, aof + 1, none⟩ = some (.int .i64 hn) := fun q => q.2 (⟨ab, aof + 1, none⟩, .int .i64 hn) (by simp)
          (try simp only [Act.put, List.setIfInBounds_toArray, List.set_cons_succ, List.set_cons_zero])
          refine wp_region_noPanic ?_
          refine wp_region_plw (.step [true, true, true, true, true, true, true, true, true] (.cons 9 (.last []) .nil)) (fun y => ∃ q : CW [(⟨R, 0, none⟩, .slice (some ⟨nb5, no5, none⟩) 771 np5), (⟨ab, aof + 1, none⟩, .int .i64 hn)], y = q.1) (by kernel_rfl) (by kernel_rfl) (by kernel_rfl) (fun _ _ _ _ _ _ _ h => h) ⟨⟨_, HF.out⟩, rfl⟩ ?_
          simp only [wpPw, wpBw, selF, and_true]
          repeat (go_big_quiet_step (fail))
          refine wpQuiet_nil ?_
          refine wpOp_step rfl (fun K hK => ?_)
          go_simp
          refine (HLF.out _ (HCV5.out.below (below_drew _))).mono ?_
          rintro e W11 ⟨rfl, nd, hV⟩
          have hbV : Below (W10).drew.heap.size (W10).drew W11 := by rw [hV]; exact below_drewN _ _
          replace HF := Lib.hid (cw_below HF.out hbV)
          have HB_W11 : Hid (Below (W10).heap.size (W10) W11) := Lib.hid ((below_drew _).trans (hbV.mono (Nat.le_refl _)))
          clear hV hbV
          refine hK _ _ ⟨(fun y => ∃ q : CW [(⟨R, 0, none⟩, .slice (some ⟨nb5, no5, none⟩) 771 np5), (⟨ab, aof + 1, none⟩, .int .i64 hn)], y = q.1), ⟨⟨_, HF.out⟩, rfl⟩, fun _ h => h, ?_⟩
          clear hK K
          (try simp only [Act.put, List.setIfInBounds_toArray, List.set_cons_succ, List.set_cons_zero])
          refine wpQuiet_nil ?_
          refine NoPanic.normal ?_
          go_wp2_with fail
          go_roundw
          case rel =>
            refine ⟨i + 1, C5, s5, hs ++ [hn], hlt, rfl, ?_, Hb5.out, ?_, ?_, ?_⟩
            · have := HR10.out.below HB_W11.out
              rw [List.set_set, List.set_set, Int.mul_comm (aft g) 2] at this
              have e : itg g0 (i + 1) = aft g := by show aft (itg g0 i) = aft g; rw [HGE.out]
              rw [e]
              exact this
            · have h1 := Mem.belR HBW8.out HNR.out.2 HBW8.out.size HK10.out
              exact h1.trans (HB_W11.out.mono h1.size)
            · exact (HA8.out.keep (fun b h1 h2 => HK10.out.old b h2 (by omega))).below HB_W11.out
            · have e : itg g0 (i + 1) = aft g := by show aft (itg g0 i) = aft g; rw [HGE.out]
              rw [HEH.out, List.range_succ, List.map_append, List.map_singleton, e, HEN.out]
          case measure => simp [intOf]; omega
    · have d0 : decide ((j : Int) < (t : Int) + 1) = false := by simp; omega
      go_wp2_with fail
      refine (wakes14 _).mono ?_
      rintro e Y ⟨rfl, hb⟩
      have HY := Lib.hid (HB0.out.trans (hb.mono HB0.out.size))
      clear hb
      go_wp2_with fail
      go_ret
      exact ⟨rfl, HY.out⟩
theorem lawSlotsNew_walk (a0 a1 a2 : Int) (a3 : Bool) (w : World) (w0 : (Lit.int .i64 a0).wf = true) (w1 : (Lit.int .i64 a1).wf = true) (w2 : (Lit.int .i64 a2).wf = true) : Calls Try.prog 8 #[.int .i64 a0, .int .i64 a1, .int .i64 a2, .bool a3] w fun e w' => e = .returned (.bool true) ∧ Below w.heap.size w w' := by
  cases a3
  · exact slots_new_false a0 a1 a2 w
  · exact slots_new_true a0 a1 a2 w
end Go.Proofs.Ytgpdknacnmapiaa
