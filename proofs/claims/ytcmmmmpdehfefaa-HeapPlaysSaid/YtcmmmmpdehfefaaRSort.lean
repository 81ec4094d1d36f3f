/-
  The document's Sorted (chapter 15).
-/
import Derived.Test.YtcmmmmpdehfefaaRSPl
namespace Go.Proofs.Ytcmmmmpdehfefaa
set_option linter.unusedVariables false
set_option linter.unusedSimpArgs false
open Go.RowKit Go.Maps
theorem und31 : Try.prog.underlying 31 = some (.slice 47) := u31
set_option maxHeartbeats 4000000 in
set_option maxRecDepth 100000 in
theorem rsorted_any {w : World} {rb : Nat} {T : Nat → Prop} {l : List (Int × Int)} (h : RH w rb T l) (hlen : l.length ≤ 90000) :
    Calls Try.prog 26 #[.pointer (some ⟨rb, 0, none⟩)] w fun e w' => ∃ v, e = .returned v ∧ SlP w' v (sortP l) ∧ (∀ k, v.ownBlock = some k → w.heap.size ≤ k) ∧ Below w.heap.size w w' := by
  obtain ⟨ao, cap0, r0, hlc, hcm, hr⟩ := h.reads
  have HR := Lib.hid hr
  obtain ⟨i0, hi, hz0, hz1, hz2⟩ := info_parts i47
  have HI := Lib.hid hi
  have HZ0 := Lib.hid hz0
  have HZ1 := Lib.hid hz1
  have HZ2 := Lib.hid hz2
  have HEND := Lib.hid (outL_end l)
  have HLEN := Lib.hid (outL_len l)
  obtain ⟨m, hm⟩ : ∃ m, l.length = m := ⟨_, rfl⟩
  have HM := Lib.hid hm
  rw [hm] at r0 hlc hlen HEND HLEN HR
  unfold maxLen at hcm
  clear h hr hm hi hz0 hz1 hz2
  go_enter Try.func26, Try.ntmps26
  go_wp2_with fail
  go_loopw [3, 4] (fun ov iv wr => ∃ j : Nat, j ≤ m ∧ iv = .int .i64 j ∧ SRel w wr ov (outL l j)) (fun _ iv _ => m - (intOf iv).toNat)
  case atStart => exact ⟨0, Nat.zero_le _, rfl, SRel.start w⟩
  case round =>
    obtain ⟨j, hj, rfl, hA⟩ := hrel
    have R0 := (hA.1.cell (World.block_lt_of_cell? w _ r0)).trans r0
    by_cases hlt : j < m
    · obtain ⟨x, hx⟩ : ∃ x, l[j]? = some x := ⟨l[j]'(by rw [HM.out]; exact hlt), List.getElem?_eq_getElem _⟩
      obtain ⟨a', c', ev, _, hrd⟩ := HR.out
      injection ev with ev1 ev2 ev3
      subst ev1
      clear ev2 ev3
      obtain ⟨b, rfl, r1, r2⟩ := hrd j x hx
      have HSU := Lib.hid (outL_succ hx)
      have HQ := Lib.hid (HLEN.out j (by omega))
      clear hrd hx
      obtain ⟨o, ho⟩ : ∃ o, outL l j = o := ⟨_, rfl⟩
      rw [ho] at HSU HQ hA
      clear ho
      obtain ⟨N, hN⟩ : ∃ N, pre x o = N := ⟨_, rfl⟩
      have hNj : N ≤ j := by rw [← hN, ← HQ.out]; exact pre_le x o
      have HPRE := Lib.hid hN
      have HLT : Hid (∀ (i : Nat) (a : Int × Int), i < N → o[i]? = some a → ltP a x = true) := Lib.hid (by rw [← hN]; exact fun i a h1 h2 => pre_lt h1 h2)
      have HST : Hid (∀ (i : Nat) (a : Int × Int), i ≤ N → o[i]? = some a → ltP a x = false → i = N) := Lib.hid (fun i a h1 h2 h3 => by
        rcases Nat.lt_or_ge i N with h4 | h4
        · rw [HLT.out i a h4 h2] at h3; cases h3
        · omega)
      have HGO : Hid (∀ (i : Nat) (a : Int × Int), i ≤ N → o[i]? = some a → ltP a x = true → i < N) := Lib.hid (by
        rw [← hN]
        intro i a h1 h2 h3
        rcases Nat.lt_or_ge i (pre x o) with h4 | h4
        · exact h4
        · have e : i = pre x o := by omega
          subst e
          rw [pre_stop h2] at h3; cases h3)
      clear hN
      have HA := Lib.hid hA
      rcases hA.2.2 with ⟨rfl, h0⟩ | ⟨g, cap, cur, rfl, hbg, hg, hc1, hc2, _⟩
      · have hj0 : j = 0 := by rw [← HQ.out]; exact h0
        subst hj0
        have hN0 : N = 0 := by omega
        have HPRE := Lib.hid (HPRE.out.trans hN0)
        clear hA h0
        go_wp2_with fail
        go_loopw [5] (fun kv wr => ∃ kk : Nat, kk = 0 ∧ kv = .int .i64 kk ∧ SRel w wr (.slice none 0 0) o) (fun kv _ => 1 - (intOf kv).toNat)
        case atStart => exact ⟨0, rfl, rfl, HA.out⟩
        case round =>
          obtain ⟨kk, hkk, rfl, hI⟩ := hrel
          subst hkk
          have HO := Lib.hid hI
          clear hI
          have HQO : Hid (o.length = 0) := HQ
          go_wp2_with fail
          go_quiet (fail)
          obtain ⟨w9, hw9⟩ : ∃ w9, wr.drewN nq = w9 := ⟨_, rfl⟩
          have HN : Hid (SRel w w9 (.slice none 0 0) o) := Lib.hid (HO.out.below (by rw [← hw9]; exact ⟨rfl, rfl, rfl, Nat.le_refl _, fun _ _ => rfl⟩))
          rw [hw9]
          clear hw9
          have R0 := (HN.out.1.cell (World.block_lt_of_cell? w _ r0)).trans r0
          have R1 := (HN.out.1.cell (World.block_lt_of_cell? w _ r1)).trans r1
          have R2 := (HN.out.1.cell (World.block_lt_of_cell? w _ r2)).trans r2
          have HT1 : Hid ((encL (o.take 0)).length = 0 * 2) := Lib.hid (by rw [encL_len, List.length_take, HQ.out]; simp)
          have HT2 : Hid ((encL (o.drop 0)).length = 0 * 2) := Lib.hid (by rw [encL_len, List.length_drop, HQ.out])
          go_wp2_with (first
            | (at_builtin; (refine wpList_append_both rfl (.tmp 38) (.tmp 41) 31 rfl w9.heap.size 47 i0 (.agg #[.int .i64 0, .int .i64 0]) 2 16 und31 HI.out HZ0.out HZ1.out HZ2.out rfl (by decide) (.slice none 0 0) 0 [] rfl (World.ownsRow_nil _ _ _ _) none 0 0 (encL (o.take 0)) rfl HT1.out (.inl ⟨rfl, rfl, rfl⟩) (encL_one _) (by decide) (by omega) (Nat.le_refl _) ?_; intro v1 w1 hown1 hgr1; have R0' := hgr1.cell R0 (by simp [Value.ownBlock]); have R1' := hgr1.cell R1 (by simp [Value.ownBlock]); have R2' := hgr1.cell R2 (by simp [Value.ownBlock]); have HO1 := Lib.hid hown1; have HGR1 := Lib.hid hgr1; have HSZ1 := Lib.hid hgr1.size; clear R0 R1 R2 hown1 hgr1))
            | (at_builtin; (refine wpList_append_own _ rfl (.tmp 43) (.tmp 51) 31 rfl w9.heap.size 47 i0 (.agg #[.int .i64 0, .int .i64 0]) 2 16 und31 HI.out HZ0.out HZ1.out HZ2.out rfl (by decide) v1 (0 + 0) ([] ++ encL (o.take 0)) rfl (HO1.out.alloc _) ⟨w1.heap.size, 0, none⟩ 1 1 [.int .i64 x.1, .int .i64 x.2] rfl rfl (by intro j u hu; match j, hu with | 0, hu => simp at hu; subst hu; simp [go_sem, Addr.add] | 1, hu => simp at hu; subst hu; simp [go_sem, Addr.add]) (by intro u hu; simp at hu; rcases hu with rfl | rfl <;> rfl) (by unfold maxLen; omega) (by omega) (by have := HSZ1.out; simp; omega) ?_; intro v2 w2 hown2 hgr2 _; have HO2 := Lib.hid hown2; have HGR2 := Lib.hid hgr2; have HSZ2 : Hid (w1.heap.size < w2.heap.size) := Lib.hid (Nat.lt_of_lt_of_le (by simp) hgr2.size); clear R0' R1' R2' hown2 hgr2))
            | (at_builtin; (refine wpList_append_both rfl (.tmp 53) (.tmp 56) 31 rfl w9.heap.size 47 i0 (.agg #[.int .i64 0, .int .i64 0]) 2 16 und31 HI.out HZ0.out HZ1.out HZ2.out rfl (by decide) v2 _ _ rfl HO2.out none 0 0 (encL (o.drop 0)) rfl HT2.out (.inl ⟨rfl, rfl, rfl⟩) (encL_one _) (by unfold maxLen; omega) (by omega) (by have := HSZ1.out; have := HSZ2.out; omega) ?_; intro v3 w3 hown3 hgr3; obtain ⟨ao3, cap3, hv3⟩ := own_shape hown3; subst hv3; have HO3 := Lib.hid hown3; have HGR3 := Lib.hid hgr3; clear hown3 hgr3)))
          all_goals
            go_roundw
            case rel =>
              refine ⟨0 + 1, hlt, rfl, ?_⟩
              rw [HSU.out]
              have hin : ins x o = o.take 0 ++ [x] ++ o.drop 0 := by unfold ins; rw [HPRE.out]
              have hlen2 : (ins x o).length = 0 + 0 + 1 + 0 := by rw [hin]; simp only [List.length_append, List.length_take, List.length_drop, List.length_singleton, HQ.out]; omega
              refine ⟨?_, ?_⟩
              · have b1 := HN.out.1.grown HGR1.out HN.out.1.size (fun k hk => by simp [Value.ownBlock] at hk)
                have b2 := (b1.alloc (by have := HSZ1.out; have := HN.out.1.size; omega) (.cells #[.int .i64 x.1, .int .i64 x.2] 47)).grown HGR2.out (by have := HSZ1.out; have := HN.out.1.size; simp; omega) (fun k hk => by have := (HO1.out.lt k hk).1; have := HN.out.1.size; omega)
                exact b2.grown HGR3.out (by have := HSZ2.out; have := HSZ1.out; have := HN.out.1.size; omega) (fun k hk => by have := (HO2.out.lt k hk).1; have := HN.out.1.size; omega)
              · rw [hlen2, hin, encL_append, encL_append]
                first | exact ownsRow_mono HO3.out HN.out.1.size | (have h9 := ownsRow_mono HO3.out HN.out.1.size; simp only [Nat.zero_add, List.nil_append] at h9 ⊢; exact h9)
            case measure => simp [intOf]; omega
      · obtain ⟨capv, hv⟩ : ∃ capv, cap = capv := ⟨_, rfl⟩
        have hjl : o.length = j := HQ.out
        have hcapj : j ≤ cap := by omega
        have hcap63 : cap ≤ 9223372036854775807 := by unfold maxLen at hc2; omega
        rw [hjl] at HA
        rw [hjl]
        clear hA hv hc1 hc2 hg hbg
        have HQO : Hid (∀ wr : World, wr.ownsRow w.heap.size 47 2 (.slice (some ⟨g, 0, none⟩) j cap) o.length (encL o) → wr.ownsRow w.heap.size 47 2 (.slice (some ⟨g, 0, none⟩) o.length cap) o.length (encL o)) := Lib.hid (fun wr h => by rw [hjl] at h ⊢; exact h)
        have HQO := fun {wr} h => HQO.out wr h
        go_wp2_with fail
        go_loopw [5] (fun kv wr => ∃ kk : Nat, kk ≤ N ∧ kv = .int .i64 kk ∧ SRel w wr (.slice (some ⟨g, 0, none⟩) j cap) o) (fun kv _ => N - (intOf kv).toNat)
        case atStart => exact ⟨0, Nat.zero_le _, rfl, HA.out⟩
        case round =>
          obtain ⟨kk, hkk, rfl, hI⟩ := hrel
          have HO := Lib.hid hI
          clear hI
          by_cases hkj : kk < j
          · obtain ⟨a, ha⟩ : ∃ a, o[kk]? = some a := ⟨o[kk]'(by rw [hjl]; exact hkj), List.getElem?_eq_getElem _⟩
            have HAT := Lib.hid ha
            obtain ⟨_, _, ev, _, hrd⟩ := SlP.of_own (HQO HO.out.2)
            injection ev with ev1 ev2 ev3
            subst ev1
            clear ev2 ev3
            obtain ⟨b', eb, a1, a2⟩ := hrd kk a ha
            cases eb
            have R0 := (HO.out.1.cell (World.block_lt_of_cell? w _ r0)).trans r0
            have R1 := (HO.out.1.cell (World.block_lt_of_cell? w _ r1)).trans r1
            have R2 := (HO.out.1.cell (World.block_lt_of_cell? w _ r2)).trans r2
            have dk : decide ((kk : Int) < (j : Int)) = true := by simp; omega
            clear hrd ha
            by_cases hab : ltP a x = true
            · go_wp2_with fail
              refine wp_region_noPanic ?_
              refine wp_region_plw (.step [true, true, true, true, true, true, true, true, false, true, true, true, false, true] (.cons 8 (.step [] (.cons 12 (.step [false, false, false, false, false, false, false, false, false, false, false, false, false, false, true] (.cons 15 (.step [] (.cons 16 (.last [false, false, false, false, false, false, false, false, false, false, false, false, false, false, false, false, false, true]) .nil)) .nil)) .nil)) (.cons 12 (.step [false, false, false, false, false, false, false, false, false, false, false, false, false, false, true] (.cons 8 (.step [] (.cons 15 (.step [] (.cons 16 (.last [false, false, false, false, false, false, false, false, false, false, false, false, false, false, false, false, false, true]) .nil)) .nil)) (.cons 15 (.step [] (.cons 8 (.step [] (.cons 16 (.last [false, false, false, false, false, false, false, false, false, false, false, false, false, false, false, false, false, true]) .nil)) .nil)) .nil))) .nil))) (fun _ => True) (by kernel_rfl) (by kernel_rfl) (by kernel_rfl) (fun _ _ _ _ _ _ _ h => h) trivial ?_
              simp only [wpPw, wpBw, selF, and_true]
              repeat (go_big_quiet_step (fail))
              refine wpQuiet_nil ?_
              refine ⟨?_, ?_⟩
              · refine wpOp_step rfl (fun K hK => ?_)
                go_simp
                refine hK _ _ ⟨fun _ => True, trivial, fun _ h => h, ?_⟩
                clear hK K
                repeat (go_big_quiet_step (fail))
                refine wpQuiet_nil ?_
                refine wpOp_step rfl (fun K hK => ?_)
                go_simp
                refine hK _ _ ⟨fun _ => True, trivial, fun _ h => h, ?_⟩
                clear hK K
                repeat (go_big_quiet_step (fail))
                refine wpQuiet_nil ?_
                refine wpOp_step rfl (fun K hK => ?_)
                go_simp
                refine hK _ _ ⟨fun _ => True, trivial, fun _ h => h, ?_⟩
                clear hK K
                repeat (go_big_quiet_step (fail))
                refine wpQuiet_nil ?_
                refine wpOp_step rfl (fun K hK => ?_)
                go_simp
                refine (less_ref a x _).mono ?_
                rintro e w9 ⟨rfl, hb9⟩
                rw [hab]
                refine hK _ _ ⟨fun _ => True, trivial, fun _ h => h, ?_⟩
                clear hK K
                have HN := Lib.hid (HO.out.below (w' := w9) ⟨hb9.os, hb9.tape, hb9.output, hb9.size, hb9.block⟩)
                clear hb9
                repeat (go_big_quiet_step (fail))
                refine wpQuiet_nil ?_
                refine NoPanic.normal ?_
                go_wp2
                go_roundw
                case rel => exact ⟨kk + 1, HGO.out kk a hkk HAT.out hab, rfl, HN.out⟩
                case measure => have := HGO.out kk a hkk HAT.out hab; simp [intOf]; omega
              · refine wpOp_step rfl (fun K hK => ?_)
                go_simp
                refine hK _ _ ⟨fun _ => True, trivial, fun _ h => h, ?_⟩
                clear hK K
                repeat (go_big_quiet_step (fail))
                refine wpQuiet_nil ?_
                refine ⟨?_, ?_⟩
                · refine wpOp_step rfl (fun K hK => ?_)
                  go_simp
                  refine hK _ _ ⟨fun _ => True, trivial, fun _ h => h, ?_⟩
                  clear hK K
                  repeat (go_big_quiet_step (fail))
                  refine wpQuiet_nil ?_
                  refine wpOp_step rfl (fun K hK => ?_)
                  go_simp
                  refine hK _ _ ⟨fun _ => True, trivial, fun _ h => h, ?_⟩
                  clear hK K
                  repeat (go_big_quiet_step (fail))
                  refine wpQuiet_nil ?_
                  refine wpOp_step rfl (fun K hK => ?_)
                  go_simp
                  refine (less_ref a x _).mono ?_
                  rintro e w9 ⟨rfl, hb9⟩
                  rw [hab]
                  refine hK _ _ ⟨fun _ => True, trivial, fun _ h => h, ?_⟩
                  clear hK K
                  have HN := Lib.hid (HO.out.below (w' := w9) ⟨hb9.os, hb9.tape, hb9.output, hb9.size, hb9.block⟩)
                  clear hb9
                  repeat (go_big_quiet_step (fail))
                  refine wpQuiet_nil ?_
                  refine NoPanic.normal ?_
                  go_wp2
                  go_roundw
                  case rel => exact ⟨kk + 1, HGO.out kk a hkk HAT.out hab, rfl, HN.out⟩
                  case measure => have := HGO.out kk a hkk HAT.out hab; simp [intOf]; omega
                · refine wpOp_step rfl (fun K hK => ?_)
                  go_simp
                  refine hK _ _ ⟨fun _ => True, trivial, fun _ h => h, ?_⟩
                  clear hK K
                  repeat (go_big_quiet_step (fail))
                  refine wpQuiet_nil ?_
                  refine wpOp_step rfl (fun K hK => ?_)
                  go_simp
                  refine hK _ _ ⟨fun _ => True, trivial, fun _ h => h, ?_⟩
                  clear hK K
                  repeat (go_big_quiet_step (fail))
                  refine wpQuiet_nil ?_
                  refine wpOp_step rfl (fun K hK => ?_)
                  go_simp
                  refine (less_ref a x _).mono ?_
                  rintro e w9 ⟨rfl, hb9⟩
                  rw [hab]
                  refine hK _ _ ⟨fun _ => True, trivial, fun _ h => h, ?_⟩
                  clear hK K
                  have HN := Lib.hid (HO.out.below (w' := w9) ⟨hb9.os, hb9.tape, hb9.output, hb9.size, hb9.block⟩)
                  clear hb9
                  repeat (go_big_quiet_step (fail))
                  refine wpQuiet_nil ?_
                  refine NoPanic.normal ?_
                  go_wp2
                  go_roundw
                  case rel => exact ⟨kk + 1, HGO.out kk a hkk HAT.out hab, rfl, HN.out⟩
                  case measure => have := HGO.out kk a hkk HAT.out hab; simp [intOf]; omega
            · rw [Bool.not_eq_true] at hab
              have hEQ := Lib.hid (HST.out kk a hkk HAT.out hab)
              go_wp2_with fail
              refine wp_region_noPanic ?_
              refine wp_region_plw (.step [true, true, true, true, true, true, true, true, false, true, true, true, false, true] (.cons 8 (.step [] (.cons 12 (.step [false, false, false, false, false, false, false, false, false, false, false, false, false, false, true] (.cons 15 (.step [] (.cons 16 (.last [false, false, false, false, false, false, false, false, false, false, false, false, false, false, false, false, false, true]) .nil)) .nil)) .nil)) (.cons 12 (.step [false, false, false, false, false, false, false, false, false, false, false, false, false, false, true] (.cons 8 (.step [] (.cons 15 (.step [] (.cons 16 (.last [false, false, false, false, false, false, false, false, false, false, false, false, false, false, false, false, false, true]) .nil)) .nil)) (.cons 15 (.step [] (.cons 8 (.step [] (.cons 16 (.last [false, false, false, false, false, false, false, false, false, false, false, false, false, false, false, false, false, true]) .nil)) .nil)) .nil))) .nil))) (fun _ => True) (by kernel_rfl) (by kernel_rfl) (by kernel_rfl) (fun _ _ _ _ _ _ _ h => h) trivial ?_
              simp only [wpPw, wpBw, selF, and_true]
              repeat (go_big_quiet_step (fail))
              refine wpQuiet_nil ?_
              refine ⟨?_, ?_⟩
              · refine wpOp_step rfl (fun K hK => ?_)
                go_simp
                refine hK _ _ ⟨fun _ => True, trivial, fun _ h => h, ?_⟩
                clear hK K
                repeat (go_big_quiet_step (fail))
                refine wpQuiet_nil ?_
                refine wpOp_step rfl (fun K hK => ?_)
                go_simp
                refine hK _ _ ⟨fun _ => True, trivial, fun _ h => h, ?_⟩
                clear hK K
                repeat (go_big_quiet_step (fail))
                refine wpQuiet_nil ?_
                refine wpOp_step rfl (fun K hK => ?_)
                go_simp
                refine hK _ _ ⟨fun _ => True, trivial, fun _ h => h, ?_⟩
                clear hK K
                repeat (go_big_quiet_step (fail))
                refine wpQuiet_nil ?_
                refine wpOp_step rfl (fun K hK => ?_)
                go_simp
                refine (less_ref a x _).mono ?_
                rintro e w9 ⟨rfl, hb9⟩
                rw [hab]
                refine hK _ _ ⟨fun _ => True, trivial, fun _ h => h, ?_⟩
                clear hK K
                have HN := Lib.hid (HO.out.below (w' := w9) ⟨hb9.os, hb9.tape, hb9.output, hb9.size, hb9.block⟩)
                clear hb9
                repeat (go_big_quiet_step (fail))
                refine wpQuiet_nil ?_
                refine NoPanic.normal ?_
                clear R0 R1 R2 a1 a2 dk
                have e : kk = N := hEQ.out
                subst e
                have R0 := (HN.out.1.cell (World.block_lt_of_cell? w _ r0)).trans r0
                have R1 := (HN.out.1.cell (World.block_lt_of_cell? w _ r1)).trans r1
                have R2 := (HN.out.1.cell (World.block_lt_of_cell? w _ r2)).trans r2
                have HT1 : Hid ((encL (o.take kk)).length = kk * 2) := Lib.hid (by rw [encL_len, List.length_take, HQ.out]; omega)
                have HT2 : Hid ((encL (o.drop kk)).length = (j - kk) * 2) := Lib.hid (by rw [encL_len, List.length_drop, HQ.out]; omega)
                have HS1 := Lib.hid (take_src (HQO HN.out.2) kk)
                obtain ⟨ad, had, hn2⟩ := drop_src (HQO HN.out.2) kk (by rw [HQ.out]; omega)
                have HAD := Lib.hid had
                have HS3 := Lib.hid (drop_src2 (HQO HN.out.2) kk)
                have HS2 := Lib.hid hn2
                have hg9 : g < w9.heap.size := ((HQO HN.out.2).lt g rfl).2
                have HG9 := Lib.hid hg9
                clear had hn2 hg9
                go_wp2_with (first
                  | (at_builtin; (refine wpList_append_both rfl (.tmp 38) (.tmp 41) 31 rfl w9.heap.size 47 i0 (.agg #[.int .i64 0, .int .i64 0]) 2 16 und31 HI.out HZ0.out HZ1.out HZ2.out rfl (by decide) (.slice none 0 0) 0 [] rfl (World.ownsRow_nil _ _ _ _) (some ⟨g, 0, none⟩) kk cap (encL (o.take kk)) rfl HT1.out (.inr ⟨_, rfl, HS1.out⟩) (encL_one _) (by unfold maxLen; omega) (by omega) (Nat.le_refl _) ?_; intro v1 w1 hown1 hgr1; have R0' := hgr1.cell R0 (by simp [Value.ownBlock]); have R1' := hgr1.cell R1 (by simp [Value.ownBlock]); have R2' := hgr1.cell R2 (by simp [Value.ownBlock]); have HO1 := Lib.hid hown1; have HGR1 := Lib.hid hgr1; have HSZ1 := Lib.hid hgr1.size; clear R0 R1 R2 hown1 hgr1))
                  | (at_builtin; (refine wpList_append_own _ rfl (.tmp 43) (.tmp 51) 31 rfl w9.heap.size 47 i0 (.agg #[.int .i64 0, .int .i64 0]) 2 16 und31 HI.out HZ0.out HZ1.out HZ2.out rfl (by decide) v1 (0 + kk) ([] ++ encL (o.take kk)) rfl (HO1.out.alloc _) ⟨w1.heap.size, 0, none⟩ 1 1 [.int .i64 x.1, .int .i64 x.2] rfl rfl (by intro j u hu; match j, hu with | 0, hu => simp at hu; subst hu; simp [go_sem, Addr.add] | 1, hu => simp at hu; subst hu; simp [go_sem, Addr.add]) (by intro u hu; simp at hu; rcases hu with rfl | rfl <;> rfl) (by unfold maxLen; omega) (by omega) (by have := HSZ1.out; simp; omega) ?_; intro v2 w2 hown2 hgr2 _; have HO2 := Lib.hid hown2; have HGR2 := Lib.hid hgr2; have HSZ2 : Hid (w1.heap.size < w2.heap.size) := Lib.hid (Nat.lt_of_lt_of_le (by simp) hgr2.size); clear R0' R1' R2' hown2 hgr2))
                  | (at_builtin; (refine wpList_append_both rfl (.tmp 53) (.tmp 56) 31 rfl w9.heap.size 47 i0 (.agg #[.int .i64 0, .int .i64 0]) 2 16 und31 HI.out HZ0.out HZ1.out HZ2.out rfl (by decide) v2 _ _ rfl HO2.out (some ad) (j - kk) (cap - kk) (encL (o.drop kk)) (congrArg (fun z => Value.slice z (j - kk) (cap - kk)) HAD.out) HT2.out (.inr ⟨ad, rfl, fun j u hu => by have h1 := HGR1.out.cell (HS2.out j u hu) (by simp [Value.ownBlock]); have h2 : (w1.alloc (.cells #[.int .i64 x.1, .int .i64 x.2] 47)).cell? (ad.add j) = some u := (by rw [World.cell?_alloc_some _ _ _ (by rw [h1]; rfl)]; exact h1); exact HGR2.out.cell h2 (fun e => by have h3 := World.block_lt_of_cell? w9 _ (HS2.out j u hu); have h4 := (HO1.out.lt _ e.symm).1; omega)⟩) (encL_one _) (by unfold maxLen; omega) (by omega) (by have := HSZ1.out; have := HSZ2.out; omega) ?_; intro v3 w3 hown3 hgr3; obtain ⟨ao3, cap3, hv3⟩ := own_shape hown3; subst hv3; have HO3 := Lib.hid hown3; have HGR3 := Lib.hid hgr3; clear hown3 hgr3))
                  | (at_builtin; (refine wpList_append_both rfl (.tmp 53) (.tmp 56) 31 rfl w9.heap.size 47 i0 (.agg #[.int .i64 0, .int .i64 0]) 2 16 und31 HI.out HZ0.out HZ1.out HZ2.out rfl (by decide) v2 _ _ rfl HO2.out (some ⟨g, kk * 2, none⟩) (j - kk) (cap - kk) (encL (o.drop kk)) rfl HT2.out (.inr ⟨_, rfl, fun j u hu => by have h1 := HGR1.out.cell (HS3.out j u hu) (by simp [Value.ownBlock]); have h2 : (w1.alloc (.cells #[.int .i64 x.1, .int .i64 x.2] 47)).cell? ((⟨g, kk * 2, none⟩ : Addr).add j) = some u := (by rw [World.cell?_alloc_some _ _ _ (by rw [h1]; rfl)]; exact h1); exact HGR2.out.cell h2 (fun e => by have h3 := World.block_lt_of_cell? w9 _ (HS3.out j u hu); have h4 := (HO1.out.lt _ e.symm).1; omega)⟩) (encL_one _) (by unfold maxLen; omega) (by omega) (by have := HSZ1.out; have := HSZ2.out; omega) ?_; intro v3 w3 hown3 hgr3; obtain ⟨ao3, cap3, hv3⟩ := own_shape hown3; subst hv3; have HO3 := Lib.hid hown3; have HGR3 := Lib.hid hgr3; clear hown3 hgr3))
                  | (at_builtin; (refine wpList_append_both rfl (.tmp 53) (.tmp 56) 31 rfl w9.heap.size 47 i0 (.agg #[.int .i64 0, .int .i64 0]) 2 16 und31 HI.out HZ0.out HZ1.out HZ2.out rfl (by decide) v2 _ _ rfl HO2.out (some ⟨g, 0, none⟩) (j - kk) 0 (encL (o.drop kk)) rfl HT2.out (.inr ⟨_, rfl, fun j' u hu => by have h5 := HT2.out; have h6 := (List.getElem?_eq_some_iff.1 hu).1; exfalso; omega⟩) (encL_one _) (by unfold maxLen; omega) (by omega) (by have := HSZ1.out; have := HSZ2.out; omega) ?_; intro v3 w3 hown3 hgr3; obtain ⟨ao3, cap3, hv3⟩ := own_shape hown3; subst hv3; have HO3 := Lib.hid hown3; have HGR3 := Lib.hid hgr3; clear hown3 hgr3)))
                all_goals
                  go_roundw
                  case rel =>
                    refine ⟨j + 1, hlt, rfl, ?_⟩
                    rw [HSU.out]
                    have hin : ins x o = o.take kk ++ [x] ++ o.drop kk := by unfold ins; rw [HPRE.out]
                    have hlen2 : (ins x o).length = 0 + kk + 1 + (j - kk) := by rw [hin]; simp only [List.length_append, List.length_take, List.length_drop, List.length_singleton, HQ.out]; omega
                    refine ⟨?_, ?_⟩
                    · have b1 := HN.out.1.grown HGR1.out HN.out.1.size (fun k hk => by simp [Value.ownBlock] at hk)
                      have b2 := (b1.alloc (by have := HSZ1.out; have := HN.out.1.size; omega) (.cells #[.int .i64 x.1, .int .i64 x.2] 47)).grown HGR2.out (by have := HSZ1.out; have := HN.out.1.size; simp; omega) (fun k hk => by have := (HO1.out.lt k hk).1; have := HN.out.1.size; omega)
                      exact b2.grown HGR3.out (by have := HSZ2.out; have := HSZ1.out; have := HN.out.1.size; omega) (fun k hk => by have := (HO2.out.lt k hk).1; have := HN.out.1.size; omega)
                    · rw [hlen2, hin, encL_append, encL_append]
                      first | exact ownsRow_mono HO3.out HN.out.1.size | (have h9 := ownsRow_mono HO3.out HN.out.1.size; simp only [Nat.zero_add, List.nil_append] at h9 ⊢; exact h9)
                  case measure => simp [intOf]; omega
              · refine wpOp_step rfl (fun K hK => ?_)
                go_simp
                refine hK _ _ ⟨fun _ => True, trivial, fun _ h => h, ?_⟩
                clear hK K
                repeat (go_big_quiet_step (fail))
                refine wpQuiet_nil ?_
                refine ⟨?_, ?_⟩
                · refine wpOp_step rfl (fun K hK => ?_)
                  go_simp
                  refine hK _ _ ⟨fun _ => True, trivial, fun _ h => h, ?_⟩
                  clear hK K
                  repeat (go_big_quiet_step (fail))
                  refine wpQuiet_nil ?_
                  refine wpOp_step rfl (fun K hK => ?_)
                  go_simp
                  refine hK _ _ ⟨fun _ => True, trivial, fun _ h => h, ?_⟩
                  clear hK K
                  repeat (go_big_quiet_step (fail))
                  refine wpQuiet_nil ?_
                  refine wpOp_step rfl (fun K hK => ?_)
                  go_simp
                  refine (less_ref a x _).mono ?_
                  rintro e w9 ⟨rfl, hb9⟩
                  rw [hab]
                  refine hK _ _ ⟨fun _ => True, trivial, fun _ h => h, ?_⟩
                  clear hK K
                  have HN := Lib.hid (HO.out.below (w' := w9) ⟨hb9.os, hb9.tape, hb9.output, hb9.size, hb9.block⟩)
                  clear hb9
                  repeat (go_big_quiet_step (fail))
                  refine wpQuiet_nil ?_
                  refine NoPanic.normal ?_
                  clear R0 R1 R2 a1 a2 dk
                  have e : kk = N := hEQ.out
                  subst e
                  have R0 := (HN.out.1.cell (World.block_lt_of_cell? w _ r0)).trans r0
                  have R1 := (HN.out.1.cell (World.block_lt_of_cell? w _ r1)).trans r1
                  have R2 := (HN.out.1.cell (World.block_lt_of_cell? w _ r2)).trans r2
                  have HT1 : Hid ((encL (o.take kk)).length = kk * 2) := Lib.hid (by rw [encL_len, List.length_take, HQ.out]; omega)
                  have HT2 : Hid ((encL (o.drop kk)).length = (j - kk) * 2) := Lib.hid (by rw [encL_len, List.length_drop, HQ.out]; omega)
                  have HS1 := Lib.hid (take_src (HQO HN.out.2) kk)
                  obtain ⟨ad, had, hn2⟩ := drop_src (HQO HN.out.2) kk (by rw [HQ.out]; omega)
                  have HAD := Lib.hid had
                  have HS3 := Lib.hid (drop_src2 (HQO HN.out.2) kk)
                  have HS2 := Lib.hid hn2
                  have hg9 : g < w9.heap.size := ((HQO HN.out.2).lt g rfl).2
                  have HG9 := Lib.hid hg9
                  clear had hn2 hg9
                  go_wp2_with (first
                    | (at_builtin; (refine wpList_append_both rfl (.tmp 38) (.tmp 41) 31 rfl w9.heap.size 47 i0 (.agg #[.int .i64 0, .int .i64 0]) 2 16 und31 HI.out HZ0.out HZ1.out HZ2.out rfl (by decide) (.slice none 0 0) 0 [] rfl (World.ownsRow_nil _ _ _ _) (some ⟨g, 0, none⟩) kk cap (encL (o.take kk)) rfl HT1.out (.inr ⟨_, rfl, HS1.out⟩) (encL_one _) (by unfold maxLen; omega) (by omega) (Nat.le_refl _) ?_; intro v1 w1 hown1 hgr1; have R0' := hgr1.cell R0 (by simp [Value.ownBlock]); have R1' := hgr1.cell R1 (by simp [Value.ownBlock]); have R2' := hgr1.cell R2 (by simp [Value.ownBlock]); have HO1 := Lib.hid hown1; have HGR1 := Lib.hid hgr1; have HSZ1 := Lib.hid hgr1.size; clear R0 R1 R2 hown1 hgr1))
                    | (at_builtin; (refine wpList_append_own _ rfl (.tmp 43) (.tmp 51) 31 rfl w9.heap.size 47 i0 (.agg #[.int .i64 0, .int .i64 0]) 2 16 und31 HI.out HZ0.out HZ1.out HZ2.out rfl (by decide) v1 (0 + kk) ([] ++ encL (o.take kk)) rfl (HO1.out.alloc _) ⟨w1.heap.size, 0, none⟩ 1 1 [.int .i64 x.1, .int .i64 x.2] rfl rfl (by intro j u hu; match j, hu with | 0, hu => simp at hu; subst hu; simp [go_sem, Addr.add] | 1, hu => simp at hu; subst hu; simp [go_sem, Addr.add]) (by intro u hu; simp at hu; rcases hu with rfl | rfl <;> rfl) (by unfold maxLen; omega) (by omega) (by have := HSZ1.out; simp; omega) ?_; intro v2 w2 hown2 hgr2 _; have HO2 := Lib.hid hown2; have HGR2 := Lib.hid hgr2; have HSZ2 : Hid (w1.heap.size < w2.heap.size) := Lib.hid (Nat.lt_of_lt_of_le (by simp) hgr2.size); clear R0' R1' R2' hown2 hgr2))
                    | (at_builtin; (refine wpList_append_both rfl (.tmp 53) (.tmp 56) 31 rfl w9.heap.size 47 i0 (.agg #[.int .i64 0, .int .i64 0]) 2 16 und31 HI.out HZ0.out HZ1.out HZ2.out rfl (by decide) v2 _ _ rfl HO2.out (some ad) (j - kk) (cap - kk) (encL (o.drop kk)) (congrArg (fun z => Value.slice z (j - kk) (cap - kk)) HAD.out) HT2.out (.inr ⟨ad, rfl, fun j u hu => by have h1 := HGR1.out.cell (HS2.out j u hu) (by simp [Value.ownBlock]); have h2 : (w1.alloc (.cells #[.int .i64 x.1, .int .i64 x.2] 47)).cell? (ad.add j) = some u := (by rw [World.cell?_alloc_some _ _ _ (by rw [h1]; rfl)]; exact h1); exact HGR2.out.cell h2 (fun e => by have h3 := World.block_lt_of_cell? w9 _ (HS2.out j u hu); have h4 := (HO1.out.lt _ e.symm).1; omega)⟩) (encL_one _) (by unfold maxLen; omega) (by omega) (by have := HSZ1.out; have := HSZ2.out; omega) ?_; intro v3 w3 hown3 hgr3; obtain ⟨ao3, cap3, hv3⟩ := own_shape hown3; subst hv3; have HO3 := Lib.hid hown3; have HGR3 := Lib.hid hgr3; clear hown3 hgr3))
                    | (at_builtin; (refine wpList_append_both rfl (.tmp 53) (.tmp 56) 31 rfl w9.heap.size 47 i0 (.agg #[.int .i64 0, .int .i64 0]) 2 16 und31 HI.out HZ0.out HZ1.out HZ2.out rfl (by decide) v2 _ _ rfl HO2.out (some ⟨g, kk * 2, none⟩) (j - kk) (cap - kk) (encL (o.drop kk)) rfl HT2.out (.inr ⟨_, rfl, fun j u hu => by have h1 := HGR1.out.cell (HS3.out j u hu) (by simp [Value.ownBlock]); have h2 : (w1.alloc (.cells #[.int .i64 x.1, .int .i64 x.2] 47)).cell? ((⟨g, kk * 2, none⟩ : Addr).add j) = some u := (by rw [World.cell?_alloc_some _ _ _ (by rw [h1]; rfl)]; exact h1); exact HGR2.out.cell h2 (fun e => by have h3 := World.block_lt_of_cell? w9 _ (HS3.out j u hu); have h4 := (HO1.out.lt _ e.symm).1; omega)⟩) (encL_one _) (by unfold maxLen; omega) (by omega) (by have := HSZ1.out; have := HSZ2.out; omega) ?_; intro v3 w3 hown3 hgr3; obtain ⟨ao3, cap3, hv3⟩ := own_shape hown3; subst hv3; have HO3 := Lib.hid hown3; have HGR3 := Lib.hid hgr3; clear hown3 hgr3))
                    | (at_builtin; (refine wpList_append_both rfl (.tmp 53) (.tmp 56) 31 rfl w9.heap.size 47 i0 (.agg #[.int .i64 0, .int .i64 0]) 2 16 und31 HI.out HZ0.out HZ1.out HZ2.out rfl (by decide) v2 _ _ rfl HO2.out (some ⟨g, 0, none⟩) (j - kk) 0 (encL (o.drop kk)) rfl HT2.out (.inr ⟨_, rfl, fun j' u hu => by have h5 := HT2.out; have h6 := (List.getElem?_eq_some_iff.1 hu).1; exfalso; omega⟩) (encL_one _) (by unfold maxLen; omega) (by omega) (by have := HSZ1.out; have := HSZ2.out; omega) ?_; intro v3 w3 hown3 hgr3; obtain ⟨ao3, cap3, hv3⟩ := own_shape hown3; subst hv3; have HO3 := Lib.hid hown3; have HGR3 := Lib.hid hgr3; clear hown3 hgr3)))
                  all_goals
                    go_roundw
                    case rel =>
                      refine ⟨j + 1, hlt, rfl, ?_⟩
                      rw [HSU.out]
                      have hin : ins x o = o.take kk ++ [x] ++ o.drop kk := by unfold ins; rw [HPRE.out]
                      have hlen2 : (ins x o).length = 0 + kk + 1 + (j - kk) := by rw [hin]; simp only [List.length_append, List.length_take, List.length_drop, List.length_singleton, HQ.out]; omega
                      refine ⟨?_, ?_⟩
                      · have b1 := HN.out.1.grown HGR1.out HN.out.1.size (fun k hk => by simp [Value.ownBlock] at hk)
                        have b2 := (b1.alloc (by have := HSZ1.out; have := HN.out.1.size; omega) (.cells #[.int .i64 x.1, .int .i64 x.2] 47)).grown HGR2.out (by have := HSZ1.out; have := HN.out.1.size; simp; omega) (fun k hk => by have := (HO1.out.lt k hk).1; have := HN.out.1.size; omega)
                        exact b2.grown HGR3.out (by have := HSZ2.out; have := HSZ1.out; have := HN.out.1.size; omega) (fun k hk => by have := (HO2.out.lt k hk).1; have := HN.out.1.size; omega)
                      · rw [hlen2, hin, encL_append, encL_append]
                        first | exact ownsRow_mono HO3.out HN.out.1.size | (have h9 := ownsRow_mono HO3.out HN.out.1.size; simp only [Nat.zero_add, List.nil_append] at h9 ⊢; exact h9)
                    case measure => simp [intOf]; omega
                · refine wpOp_step rfl (fun K hK => ?_)
                  go_simp
                  refine hK _ _ ⟨fun _ => True, trivial, fun _ h => h, ?_⟩
                  clear hK K
                  repeat (go_big_quiet_step (fail))
                  refine wpQuiet_nil ?_
                  refine wpOp_step rfl (fun K hK => ?_)
                  go_simp
                  refine hK _ _ ⟨fun _ => True, trivial, fun _ h => h, ?_⟩
                  clear hK K
                  repeat (go_big_quiet_step (fail))
                  refine wpQuiet_nil ?_
                  refine wpOp_step rfl (fun K hK => ?_)
                  go_simp
                  refine (less_ref a x _).mono ?_
                  rintro e w9 ⟨rfl, hb9⟩
                  rw [hab]
                  refine hK _ _ ⟨fun _ => True, trivial, fun _ h => h, ?_⟩
                  clear hK K
                  have HN := Lib.hid (HO.out.below (w' := w9) ⟨hb9.os, hb9.tape, hb9.output, hb9.size, hb9.block⟩)
                  clear hb9
                  repeat (go_big_quiet_step (fail))
                  refine wpQuiet_nil ?_
                  refine NoPanic.normal ?_
                  clear R0 R1 R2 a1 a2 dk
                  have e : kk = N := hEQ.out
                  subst e
                  have R0 := (HN.out.1.cell (World.block_lt_of_cell? w _ r0)).trans r0
                  have R1 := (HN.out.1.cell (World.block_lt_of_cell? w _ r1)).trans r1
                  have R2 := (HN.out.1.cell (World.block_lt_of_cell? w _ r2)).trans r2
                  have HT1 : Hid ((encL (o.take kk)).length = kk * 2) := Lib.hid (by rw [encL_len, List.length_take, HQ.out]; omega)
                  have HT2 : Hid ((encL (o.drop kk)).length = (j - kk) * 2) := Lib.hid (by rw [encL_len, List.length_drop, HQ.out]; omega)
                  have HS1 := Lib.hid (take_src (HQO HN.out.2) kk)
                  obtain ⟨ad, had, hn2⟩ := drop_src (HQO HN.out.2) kk (by rw [HQ.out]; omega)
                  have HAD := Lib.hid had
                  have HS3 := Lib.hid (drop_src2 (HQO HN.out.2) kk)
                  have HS2 := Lib.hid hn2
                  have hg9 : g < w9.heap.size := ((HQO HN.out.2).lt g rfl).2
                  have HG9 := Lib.hid hg9
                  clear had hn2 hg9
                  go_wp2_with (first
                    | (at_builtin; (refine wpList_append_both rfl (.tmp 38) (.tmp 41) 31 rfl w9.heap.size 47 i0 (.agg #[.int .i64 0, .int .i64 0]) 2 16 und31 HI.out HZ0.out HZ1.out HZ2.out rfl (by decide) (.slice none 0 0) 0 [] rfl (World.ownsRow_nil _ _ _ _) (some ⟨g, 0, none⟩) kk cap (encL (o.take kk)) rfl HT1.out (.inr ⟨_, rfl, HS1.out⟩) (encL_one _) (by unfold maxLen; omega) (by omega) (Nat.le_refl _) ?_; intro v1 w1 hown1 hgr1; have R0' := hgr1.cell R0 (by simp [Value.ownBlock]); have R1' := hgr1.cell R1 (by simp [Value.ownBlock]); have R2' := hgr1.cell R2 (by simp [Value.ownBlock]); have HO1 := Lib.hid hown1; have HGR1 := Lib.hid hgr1; have HSZ1 := Lib.hid hgr1.size; clear R0 R1 R2 hown1 hgr1))
                    | (at_builtin; (refine wpList_append_own _ rfl (.tmp 43) (.tmp 51) 31 rfl w9.heap.size 47 i0 (.agg #[.int .i64 0, .int .i64 0]) 2 16 und31 HI.out HZ0.out HZ1.out HZ2.out rfl (by decide) v1 (0 + kk) ([] ++ encL (o.take kk)) rfl (HO1.out.alloc _) ⟨w1.heap.size, 0, none⟩ 1 1 [.int .i64 x.1, .int .i64 x.2] rfl rfl (by intro j u hu; match j, hu with | 0, hu => simp at hu; subst hu; simp [go_sem, Addr.add] | 1, hu => simp at hu; subst hu; simp [go_sem, Addr.add]) (by intro u hu; simp at hu; rcases hu with rfl | rfl <;> rfl) (by unfold maxLen; omega) (by omega) (by have := HSZ1.out; simp; omega) ?_; intro v2 w2 hown2 hgr2 _; have HO2 := Lib.hid hown2; have HGR2 := Lib.hid hgr2; have HSZ2 : Hid (w1.heap.size < w2.heap.size) := Lib.hid (Nat.lt_of_lt_of_le (by simp) hgr2.size); clear R0' R1' R2' hown2 hgr2))
                    | (at_builtin; (refine wpList_append_both rfl (.tmp 53) (.tmp 56) 31 rfl w9.heap.size 47 i0 (.agg #[.int .i64 0, .int .i64 0]) 2 16 und31 HI.out HZ0.out HZ1.out HZ2.out rfl (by decide) v2 _ _ rfl HO2.out (some ad) (j - kk) (cap - kk) (encL (o.drop kk)) (congrArg (fun z => Value.slice z (j - kk) (cap - kk)) HAD.out) HT2.out (.inr ⟨ad, rfl, fun j u hu => by have h1 := HGR1.out.cell (HS2.out j u hu) (by simp [Value.ownBlock]); have h2 : (w1.alloc (.cells #[.int .i64 x.1, .int .i64 x.2] 47)).cell? (ad.add j) = some u := (by rw [World.cell?_alloc_some _ _ _ (by rw [h1]; rfl)]; exact h1); exact HGR2.out.cell h2 (fun e => by have h3 := World.block_lt_of_cell? w9 _ (HS2.out j u hu); have h4 := (HO1.out.lt _ e.symm).1; omega)⟩) (encL_one _) (by unfold maxLen; omega) (by omega) (by have := HSZ1.out; have := HSZ2.out; omega) ?_; intro v3 w3 hown3 hgr3; obtain ⟨ao3, cap3, hv3⟩ := own_shape hown3; subst hv3; have HO3 := Lib.hid hown3; have HGR3 := Lib.hid hgr3; clear hown3 hgr3))
                    | (at_builtin; (refine wpList_append_both rfl (.tmp 53) (.tmp 56) 31 rfl w9.heap.size 47 i0 (.agg #[.int .i64 0, .int .i64 0]) 2 16 und31 HI.out HZ0.out HZ1.out HZ2.out rfl (by decide) v2 _ _ rfl HO2.out (some ⟨g, kk * 2, none⟩) (j - kk) (cap - kk) (encL (o.drop kk)) rfl HT2.out (.inr ⟨_, rfl, fun j u hu => by have h1 := HGR1.out.cell (HS3.out j u hu) (by simp [Value.ownBlock]); have h2 : (w1.alloc (.cells #[.int .i64 x.1, .int .i64 x.2] 47)).cell? ((⟨g, kk * 2, none⟩ : Addr).add j) = some u := (by rw [World.cell?_alloc_some _ _ _ (by rw [h1]; rfl)]; exact h1); exact HGR2.out.cell h2 (fun e => by have h3 := World.block_lt_of_cell? w9 _ (HS3.out j u hu); have h4 := (HO1.out.lt _ e.symm).1; omega)⟩) (encL_one _) (by unfold maxLen; omega) (by omega) (by have := HSZ1.out; have := HSZ2.out; omega) ?_; intro v3 w3 hown3 hgr3; obtain ⟨ao3, cap3, hv3⟩ := own_shape hown3; subst hv3; have HO3 := Lib.hid hown3; have HGR3 := Lib.hid hgr3; clear hown3 hgr3))
                    | (at_builtin; (refine wpList_append_both rfl (.tmp 53) (.tmp 56) 31 rfl w9.heap.size 47 i0 (.agg #[.int .i64 0, .int .i64 0]) 2 16 und31 HI.out HZ0.out HZ1.out HZ2.out rfl (by decide) v2 _ _ rfl HO2.out (some ⟨g, 0, none⟩) (j - kk) 0 (encL (o.drop kk)) rfl HT2.out (.inr ⟨_, rfl, fun j' u hu => by have h5 := HT2.out; have h6 := (List.getElem?_eq_some_iff.1 hu).1; exfalso; omega⟩) (encL_one _) (by unfold maxLen; omega) (by omega) (by have := HSZ1.out; have := HSZ2.out; omega) ?_; intro v3 w3 hown3 hgr3; obtain ⟨ao3, cap3, hv3⟩ := own_shape hown3; subst hv3; have HO3 := Lib.hid hown3; have HGR3 := Lib.hid hgr3; clear hown3 hgr3)))
                  all_goals
                    go_roundw
                    case rel =>
                      refine ⟨j + 1, hlt, rfl, ?_⟩
                      rw [HSU.out]
                      have hin : ins x o = o.take kk ++ [x] ++ o.drop kk := by unfold ins; rw [HPRE.out]
                      have hlen2 : (ins x o).length = 0 + kk + 1 + (j - kk) := by rw [hin]; simp only [List.length_append, List.length_take, List.length_drop, List.length_singleton, HQ.out]; omega
                      refine ⟨?_, ?_⟩
                      · have b1 := HN.out.1.grown HGR1.out HN.out.1.size (fun k hk => by simp [Value.ownBlock] at hk)
                        have b2 := (b1.alloc (by have := HSZ1.out; have := HN.out.1.size; omega) (.cells #[.int .i64 x.1, .int .i64 x.2] 47)).grown HGR2.out (by have := HSZ1.out; have := HN.out.1.size; simp; omega) (fun k hk => by have := (HO1.out.lt k hk).1; have := HN.out.1.size; omega)
                        exact b2.grown HGR3.out (by have := HSZ2.out; have := HSZ1.out; have := HN.out.1.size; omega) (fun k hk => by have := (HO2.out.lt k hk).1; have := HN.out.1.size; omega)
                      · rw [hlen2, hin, encL_append, encL_append]
                        first | exact ownsRow_mono HO3.out HN.out.1.size | (have h9 := ownsRow_mono HO3.out HN.out.1.size; simp only [Nat.zero_add, List.nil_append] at h9 ⊢; exact h9)
                    case measure => simp [intOf]; omega
          · have dk : decide ((kk : Int) < (j : Int)) = false := by simp; omega
            have hEQ : Hid (kk = N) := Lib.hid (by omega)
            go_wp2_with fail
            go_quiet (fail)
            clear dk
            obtain ⟨w9, hw9⟩ : ∃ w9, wr.drewN nq = w9 := ⟨_, rfl⟩
            have HN : Hid (SRel w w9 (.slice (some ⟨g, 0, none⟩) j cap) o) := Lib.hid (HO.out.below (by rw [← hw9]; exact ⟨rfl, rfl, rfl, Nat.le_refl _, fun _ _ => rfl⟩))
            rw [hw9]
            clear hw9
            have e : kk = N := hEQ.out
            subst e
            have R0 := (HN.out.1.cell (World.block_lt_of_cell? w _ r0)).trans r0
            have R1 := (HN.out.1.cell (World.block_lt_of_cell? w _ r1)).trans r1
            have R2 := (HN.out.1.cell (World.block_lt_of_cell? w _ r2)).trans r2
            have HT1 : Hid ((encL (o.take kk)).length = kk * 2) := Lib.hid (by rw [encL_len, List.length_take, HQ.out]; omega)
            have HT2 : Hid ((encL (o.drop kk)).length = (j - kk) * 2) := Lib.hid (by rw [encL_len, List.length_drop, HQ.out]; omega)
            have HS1 := Lib.hid (take_src (HQO HN.out.2) kk)
            obtain ⟨ad, had, hn2⟩ := drop_src (HQO HN.out.2) kk (by rw [HQ.out]; omega)
            have HAD := Lib.hid had
            have HS3 := Lib.hid (drop_src2 (HQO HN.out.2) kk)
            have HS2 := Lib.hid hn2
            have hg9 : g < w9.heap.size := ((HQO HN.out.2).lt g rfl).2
            have HG9 := Lib.hid hg9
            clear had hn2 hg9
            go_wp2_with (first
              | (at_builtin; (refine wpList_append_both rfl (.tmp 38) (.tmp 41) 31 rfl w9.heap.size 47 i0 (.agg #[.int .i64 0, .int .i64 0]) 2 16 und31 HI.out HZ0.out HZ1.out HZ2.out rfl (by decide) (.slice none 0 0) 0 [] rfl (World.ownsRow_nil _ _ _ _) (some ⟨g, 0, none⟩) kk cap (encL (o.take kk)) rfl HT1.out (.inr ⟨_, rfl, HS1.out⟩) (encL_one _) (by unfold maxLen; omega) (by omega) (Nat.le_refl _) ?_; intro v1 w1 hown1 hgr1; have R0' := hgr1.cell R0 (by simp [Value.ownBlock]); have R1' := hgr1.cell R1 (by simp [Value.ownBlock]); have R2' := hgr1.cell R2 (by simp [Value.ownBlock]); have HO1 := Lib.hid hown1; have HGR1 := Lib.hid hgr1; have HSZ1 := Lib.hid hgr1.size; clear R0 R1 R2 hown1 hgr1))
              | (at_builtin; (refine wpList_append_own _ rfl (.tmp 43) (.tmp 51) 31 rfl w9.heap.size 47 i0 (.agg #[.int .i64 0, .int .i64 0]) 2 16 und31 HI.out HZ0.out HZ1.out HZ2.out rfl (by decide) v1 (0 + kk) ([] ++ encL (o.take kk)) rfl (HO1.out.alloc _) ⟨w1.heap.size, 0, none⟩ 1 1 [.int .i64 x.1, .int .i64 x.2] rfl rfl (by intro j u hu; match j, hu with | 0, hu => simp at hu; subst hu; simp [go_sem, Addr.add] | 1, hu => simp at hu; subst hu; simp [go_sem, Addr.add]) (by intro u hu; simp at hu; rcases hu with rfl | rfl <;> rfl) (by unfold maxLen; omega) (by omega) (by have := HSZ1.out; simp; omega) ?_; intro v2 w2 hown2 hgr2 _; have HO2 := Lib.hid hown2; have HGR2 := Lib.hid hgr2; have HSZ2 : Hid (w1.heap.size < w2.heap.size) := Lib.hid (Nat.lt_of_lt_of_le (by simp) hgr2.size); clear R0' R1' R2' hown2 hgr2))
              | (at_builtin; (refine wpList_append_both rfl (.tmp 53) (.tmp 56) 31 rfl w9.heap.size 47 i0 (.agg #[.int .i64 0, .int .i64 0]) 2 16 und31 HI.out HZ0.out HZ1.out HZ2.out rfl (by decide) v2 _ _ rfl HO2.out (some ad) (j - kk) (cap - kk) (encL (o.drop kk)) (congrArg (fun z => Value.slice z (j - kk) (cap - kk)) HAD.out) HT2.out (.inr ⟨ad, rfl, fun j u hu => by have h1 := HGR1.out.cell (HS2.out j u hu) (by simp [Value.ownBlock]); have h2 : (w1.alloc (.cells #[.int .i64 x.1, .int .i64 x.2] 47)).cell? (ad.add j) = some u := (by rw [World.cell?_alloc_some _ _ _ (by rw [h1]; rfl)]; exact h1); exact HGR2.out.cell h2 (fun e => by have h3 := World.block_lt_of_cell? w9 _ (HS2.out j u hu); have h4 := (HO1.out.lt _ e.symm).1; omega)⟩) (encL_one _) (by unfold maxLen; omega) (by omega) (by have := HSZ1.out; have := HSZ2.out; omega) ?_; intro v3 w3 hown3 hgr3; obtain ⟨ao3, cap3, hv3⟩ := own_shape hown3; subst hv3; have HO3 := Lib.hid hown3; have HGR3 := Lib.hid hgr3; clear hown3 hgr3))
              | (at_builtin; (refine wpList_append_both rfl (.tmp 53) (.tmp 56) 31 rfl w9.heap.size 47 i0 (.agg #[.int .i64 0, .int .i64 0]) 2 16 und31 HI.out HZ0.out HZ1.out HZ2.out rfl (by decide) v2 _ _ rfl HO2.out (some ⟨g, kk * 2, none⟩) (j - kk) (cap - kk) (encL (o.drop kk)) rfl HT2.out (.inr ⟨_, rfl, fun j u hu => by have h1 := HGR1.out.cell (HS3.out j u hu) (by simp [Value.ownBlock]); have h2 : (w1.alloc (.cells #[.int .i64 x.1, .int .i64 x.2] 47)).cell? ((⟨g, kk * 2, none⟩ : Addr).add j) = some u := (by rw [World.cell?_alloc_some _ _ _ (by rw [h1]; rfl)]; exact h1); exact HGR2.out.cell h2 (fun e => by have h3 := World.block_lt_of_cell? w9 _ (HS3.out j u hu); have h4 := (HO1.out.lt _ e.symm).1; omega)⟩) (encL_one _) (by unfold maxLen; omega) (by omega) (by have := HSZ1.out; have := HSZ2.out; omega) ?_; intro v3 w3 hown3 hgr3; obtain ⟨ao3, cap3, hv3⟩ := own_shape hown3; subst hv3; have HO3 := Lib.hid hown3; have HGR3 := Lib.hid hgr3; clear hown3 hgr3))
              | (at_builtin; (refine wpList_append_both rfl (.tmp 53) (.tmp 56) 31 rfl w9.heap.size 47 i0 (.agg #[.int .i64 0, .int .i64 0]) 2 16 und31 HI.out HZ0.out HZ1.out HZ2.out rfl (by decide) v2 _ _ rfl HO2.out (some ⟨g, 0, none⟩) (j - kk) 0 (encL (o.drop kk)) rfl HT2.out (.inr ⟨_, rfl, fun j' u hu => by have h5 := HT2.out; have h6 := (List.getElem?_eq_some_iff.1 hu).1; exfalso; omega⟩) (encL_one _) (by unfold maxLen; omega) (by omega) (by have := HSZ1.out; have := HSZ2.out; omega) ?_; intro v3 w3 hown3 hgr3; obtain ⟨ao3, cap3, hv3⟩ := own_shape hown3; subst hv3; have HO3 := Lib.hid hown3; have HGR3 := Lib.hid hgr3; clear hown3 hgr3)))
            all_goals
              go_roundw
              case rel =>
                refine ⟨j + 1, hlt, rfl, ?_⟩
                rw [HSU.out]
                have hin : ins x o = o.take kk ++ [x] ++ o.drop kk := by unfold ins; rw [HPRE.out]
                have hlen2 : (ins x o).length = 0 + kk + 1 + (j - kk) := by rw [hin]; simp only [List.length_append, List.length_take, List.length_drop, List.length_singleton, HQ.out]; omega
                refine ⟨?_, ?_⟩
                · have b1 := HN.out.1.grown HGR1.out HN.out.1.size (fun k hk => by simp [Value.ownBlock] at hk)
                  have b2 := (b1.alloc (by have := HSZ1.out; have := HN.out.1.size; omega) (.cells #[.int .i64 x.1, .int .i64 x.2] 47)).grown HGR2.out (by have := HSZ1.out; have := HN.out.1.size; simp; omega) (fun k hk => by have := (HO1.out.lt k hk).1; have := HN.out.1.size; omega)
                  exact b2.grown HGR3.out (by have := HSZ2.out; have := HSZ1.out; have := HN.out.1.size; omega) (fun k hk => by have := (HO2.out.lt k hk).1; have := HN.out.1.size; omega)
                · rw [hlen2, hin, encL_append, encL_append]
                  first | exact ownsRow_mono HO3.out HN.out.1.size | (have h9 := ownsRow_mono HO3.out HN.out.1.size; simp only [Nat.zero_add, List.nil_append] at h9 ⊢; exact h9)
              case measure => simp [intOf]; omega
    · have e : j = m := by omega
      subst e
      rw [HEND.out] at hA
      have HA := Lib.hid hA
      clear hA
      go_wp2_with fail
      go_ret
      exact ⟨_, rfl, SlP.of_own HA.out.2, fun k hk => (HA.out.2.lt k hk).1, HA.out.1⟩
end Go.Proofs.Ytcmmmmpdehfefaa
