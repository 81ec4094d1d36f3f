/-
  Parts of a proof, put together: D2.
-/
import Derived.Test.YtgpdknacnmapiaaZh01
import Derived.Test.YtgpdknacnmapiaaZh02
import Derived.Test.YtgpdknacnmapiaaZh03
import Derived.Test.YtgpdknacnmapiaaZh04
import Derived.Test.YtgpdknacnmapiaaZh05
import Derived.Test.YtgpdknacnmapiaaZh06
import Derived.Test.YtgpdknacnmapiaaZh07
namespace Go.Proofs.Ytgpdknacnmapiaa
set_option linter.unusedVariables false
set_option linter.unusedSimpArgs false
open Go.RowKit
set_option maxHeartbeats 8000000 in
set_option maxRecDepth 100000 in
theorem do_w2t {P : Nat → Prop} {cv d1 d2 : Value} {l : List Int} (w : World) (hP : ∀ b, w.heap.size ≤ b → P b) (h0 : CellsV P w cv l) (h1 : DiskV P w d1) (h2 : DiskV P w d2) (n : Nat) (bb v x : Int) (ao : Option Addr) (ac : Nat) (hn : n < 771) (hx : l[n]? = some x) (hb : -1152921504606846976 ≤ bb ∧ bb ≤ 1152921504606846976) (hv : -1152921504606846976 ≤ v ∧ v ≤ 1152921504606846976) (hxb : x = bb) :
    Calls Try.prog 40 #[.agg #[cv, d1, d2], .agg (acC 2 n bb v 0 (.slice ao 0 ac))] w fun e w' => (∃ cv', e = .returned (.tuple #[.agg #[cv', d1, d2], .int .i64 1, .int .i64 0]) ∧ CellsV P w' cv' (l.set n v)) ∧ Below w.heap.size w w' := by
  have HMA := Lib.hid (fun (w : World) h0 h1 h2 => may_w2 (P := P) (cv := cv) (d1 := d1) (d2 := d2) (l := l) w h0 h1 h2 n bb v ao ac ⟨by omega, by omega⟩ hb hv)
  have HM := Lib.hid (Mem.start w)
  have HP := Lib.hid hP
  have H0 := Lib.hid h0
  have H1 := Lib.hid h1
  have H2 := Lib.hid h2
  have HX := Lib.hid hx
  obtain ⟨b1, o1, cap1, rfl, -, -⟩ := h1
  obtain ⟨b2, o2, cap2, rfl, -, -⟩ := h2
  obtain ⟨b, o, cap, rfl, -, hll, hcc, hff⟩ := h0
  have HLL := Lib.hid hll
  have HCC := Lib.hid hcc
  have HSF : Hid (∀ y ∈ l.set n v, -1152921504606846976 ≤ y ∧ y ≤ 1152921504606846976) := Lib.hid (fun y hy => by rcases List.mem_or_eq_of_mem_set hy with h | rfl; exact hff y h; exact hv)
  have exb : (x == bb) = true := by simpa using hxb
  clear hxb
  clear hll hcc hff hb hv hP hx
  go_enter Try.func40, Try.ntmps40
  go_wp2_with (first
    | (refine wpm_box HM rfl 35 (.tmp 0) rfl _ rfl ?_; intro U1 hM; (try simp only [List.cons_append, List.nil_append, List.set_cons_succ, List.set_cons_zero, Nat.reduceAdd] at hM); replace HM := hM; clear hM)
    | (refine wpm_box HM rfl 59 (.tmp 1) rfl _ rfl ?_; intro U2 hM; (try simp only [List.cons_append, List.nil_append, List.set_cons_succ, List.set_cons_zero, Nat.reduceAdd] at hM); replace HM := hM; clear hM)
    | (refine wpm_al35 HM rfl rfl ?_; intro W hM; (try simp only [List.cons_append, List.nil_append, List.set_cons_succ, List.set_cons_zero, Nat.reduceAdd] at hM); replace HM := hM; clear hM)
    | (refine wpm_ld35 HM rfl (.tmp 2) rfl 0 rfl rfl rfl ?_)
    | (refine wpm_ld59 HM rfl (.tmp 3) rfl 1 rfl rfl ?_))
  refine (HMA.out _ (H0.out.below HM.out.bel) (H1.out.below HM.out.bel) (H2.out.below HM.out.bel)).mono ?_
  rintro e W2 ⟨rfl, hb⟩
  replace HM := Lib.hid (HM.out.below hb)
  clear hb
  go_wp2_with fail
  replace HM := Lib.hid HM.out.drew
  have HF : Hid (∀ p ∈ ([(⟨w.heap.size, 0, none⟩, .slice (some ⟨b, o, none⟩) 771 cap), (⟨w.heap.size, 1, none⟩, .slice (some ⟨b1, o1, none⟩) 33 cap1), (⟨w.heap.size, 2, none⟩, .slice (some ⟨b2, o2, none⟩) 33 cap2)] : List (Addr × Value)), World.cell? _ p.1 = some p.2) := Lib.hid (allc ((HM.out.hb 0 _ _ _ rfl).cell (k := 0) rfl) (allc ((HM.out.hb 0 _ _ _ rfl).cell (k := 1) rfl) (allc ((HM.out.hb 0 _ _ _ rfl).cell (k := 2) rfl) (alln _))))
  haveI : Inhabited (CW [(⟨w.heap.size, 0, none⟩, .slice (some ⟨b, o, none⟩) 771 cap), (⟨w.heap.size, 1, none⟩, .slice (some ⟨b1, o1, none⟩) 33 cap1), (⟨w.heap.size, 2, none⟩, .slice (some ⟨b2, o2, none⟩) 33 cap2)]) := ⟨⟨_, HF.out⟩⟩
  have f0 : ∀ q : CW [(⟨w.heap.size, 0, none⟩, .slice (some ⟨b, o, none⟩) 771 cap), (⟨w.heap.size, 1, none⟩, .slice (some ⟨b1, o1, none⟩) 33 cap1), (⟨w.heap.size, 2, none⟩, .slice (some ⟨b2, o2, none⟩) 33 cap2)], q.1.cell? ⟨w.heap.size, 0, none⟩ = some (.slice (some ⟨b, o, none⟩) 771 cap) := fun q => q.2 (⟨w.heap.size, 0, none⟩, .slice (some ⟨b, o, none⟩) 771 cap) (by simp)
  have f1 : ∀ q : CW [(⟨w.heap.size, 0, none⟩, .slice (some ⟨b, o, none⟩) 771 cap), (⟨w.heap.size, 1, none⟩, .slice (some ⟨b1, o1, none⟩) 33 cap1), (⟨w.heap.size, 2, none⟩, .slice (some ⟨b2, o2, none⟩) 33 cap2)], q.1.cell? ⟨w.heap.size, 1, none⟩ = some (.slice (some ⟨b1, o1, none⟩) 33 cap1) := fun q => q.2 (⟨w.heap.size, 1, none⟩, .slice (some ⟨b1, o1, none⟩) 33 cap1) (by simp)
  have f2 : ∀ q : CW [(⟨w.heap.size, 0, none⟩, .slice (some ⟨b, o, none⟩) 771 cap), (⟨w.heap.size, 1, none⟩, .slice (some ⟨b1, o1, none⟩) 33 cap1), (⟨w.heap.size, 2, none⟩, .slice (some ⟨b2, o2, none⟩) 33 cap2)], q.1.cell? ⟨w.heap.size, 2, none⟩ = some (.slice (some ⟨b2, o2, none⟩) 33 cap2) := fun q => q.2 (⟨w.heap.size, 2, none⟩, .slice (some ⟨b2, o2, none⟩) 33 cap2) (by simp)
  (try simp only [Act.put, List.setIfInBounds_toArray, List.set_cons_succ, List.set_cons_zero])
  refine wp_region_noPanic ?_
  refine wp_region_plw (.step [false, true, true, false, true, true] (.cons 0 (.step [] (.cons 3 (.step [false, false, false, false, false, false, true] (.cons 7 (.step [] (.cons 8 (.last []) .nil)) .nil)) (.cons 7 (.step [] (.cons 3 (.step [false, false, false, false, false, false, true] (.cons 8 (.last []) .nil)) .nil)) .nil))) (.cons 7 (.step [] (.cons 0 (.step [] (.cons 3 (.step [false, false, false, false, false, false, true] (.cons 8 (.last []) .nil)) .nil)) .nil)) .nil))) (fun y => ∃ q : CW [(⟨w.heap.size, 0, none⟩, .slice (some ⟨b, o, none⟩) 771 cap), (⟨w.heap.size, 1, none⟩, .slice (some ⟨b1, o1, none⟩) 33 cap1), (⟨w.heap.size, 2, none⟩, .slice (some ⟨b2, o2, none⟩) 33 cap2)], y = q.1) (by kernel_rfl) (by kernel_rfl) (by kernel_rfl) (fun _ _ _ _ _ _ _ h => h) ⟨⟨_, HF.out⟩, rfl⟩ ?_
  simp only [wpPw, wpBw, selF, and_true]
  generalize W2.drew = V1 at *
  repeat (go_big_quiet_step (fail))
  refine wpQuiet_nil ?_
  refine ⟨?_, ?_⟩
  · refine wpOp_step rfl (fun K hK => ?_)
    rw [if_pos (by rfl)]
    refine wpOm_bs0 HM rfl 18 rfl ?_
    intro V2 hM
    (try simp only [List.cons_append, List.nil_append, List.set_cons_succ, List.set_cons_zero, Nat.reduceAdd] at hM)
    replace HM := hM
    clear hM
    refine hK _ _ ⟨(fun y => ∃ q : CW [(⟨w.heap.size, 0, none⟩, .slice (some ⟨b, o, none⟩) 771 cap), (⟨w.heap.size, 1, none⟩, .slice (some ⟨b1, o1, none⟩) 33 cap1), (⟨w.heap.size, 2, none⟩, .slice (some ⟨b2, o2, none⟩) 33 cap2)], y = q.1), ⟨⟨_, (allc ((HM.out.hb 0 _ _ _ rfl).cell (k := 0) rfl) (allc ((HM.out.hb 0 _ _ _ rfl).cell (k := 1) rfl) (allc ((HM.out.hb 0 _ _ _ rfl).cell (k := 2) rfl) (alln _))))⟩, rfl⟩, fun _ h => h, ?_⟩
    clear hK K
    (try simp only [Act.put, List.setIfInBounds_toArray, List.set_cons_succ, List.set_cons_zero])
    refine wpQuiet_nil ?_
    refine ⟨?_, ?_⟩
    · refine wpOp_step rfl (fun K hK => ?_)
      rw [if_pos (by rfl)]
      refine wpOm_copy HM (.tmp 18) (.tmp 20) rfl 21 rfl _ rfl b o cap rfl l HLL.out (fun i z hz => (HM.out.bel.cell (World.block_lt_of_cell? _ _ (HCC.out i z hz))).trans (HCC.out i z hz)) ?_
      intro V3 cur gc hcur hM
      (try simp only [List.cons_append, List.nil_append, List.set_cons_succ, List.set_cons_zero, Nat.reduceAdd] at hM)
      have HCU := Lib.hid hcur
      have HGN : Hid (w.heap.size ≤ _) := Lib.hid HM.out.size
      replace HM := hM
      clear hM hcur
      refine hK _ _ ⟨(fun y => ∃ q : CW [(⟨w.heap.size, 0, none⟩, .slice (some ⟨b, o, none⟩) 771 cap), (⟨w.heap.size, 1, none⟩, .slice (some ⟨b1, o1, none⟩) 33 cap1), (⟨w.heap.size, 2, none⟩, .slice (some ⟨b2, o2, none⟩) 33 cap2)], y = q.1), ⟨⟨_, (allc ((HM.out.hb 0 _ _ _ rfl).cell (k := 0) rfl) (allc ((HM.out.hb 0 _ _ _ rfl).cell (k := 1) rfl) (allc ((HM.out.hb 0 _ _ _ rfl).cell (k := 2) rfl) (alln _))))⟩, rfl⟩, fun _ h => h, ?_⟩
      clear hK K
      (try simp only [Act.put, List.setIfInBounds_toArray, List.set_cons_succ, List.set_cons_zero])
      repeat (go_big_quiet_step (fail))
      refine wpQuiet_nil ?_
      refine wpOp_step rfl (fun K hK => ?_)
      rw [if_pos (by rfl)]
      refine wpOm_al HM 35 rfl 7 rfl _ zer35 ?_
      intro V4 hM
      (try simp only [List.cons_append, List.nil_append, List.set_cons_succ, List.set_cons_zero, Nat.reduceAdd] at hM)
      replace HM := hM
      clear hM
      refine hK _ _ ⟨(fun y => ∃ q : CW [(⟨w.heap.size, 0, none⟩, .slice (some ⟨b, o, none⟩) 771 cap), (⟨w.heap.size, 1, none⟩, .slice (some ⟨b1, o1, none⟩) 33 cap1), (⟨w.heap.size, 2, none⟩, .slice (some ⟨b2, o2, none⟩) 33 cap2)], y = q.1), ⟨⟨_, (allc ((HM.out.hb 0 _ _ _ rfl).cell (k := 0) rfl) (allc ((HM.out.hb 0 _ _ _ rfl).cell (k := 1) rfl) (allc ((HM.out.hb 0 _ _ _ rfl).cell (k := 2) rfl) (alln _))))⟩, rfl⟩, fun _ h => h, ?_⟩
      clear hK K
      (try simp only [Act.put, List.setIfInBounds_toArray, List.set_cons_succ, List.set_cons_zero])
      refine wpQuiet_nil ?_
      refine wpOp_step rfl (fun K hK => ?_)
      rw [if_pos (by rfl)]
      refine wpOm_st HM 35 (.tmp 7) (.tmp 24) rfl rfl 5 rfl #[.slice (some ⟨_, 0, none⟩) 771 gc, .slice (some ⟨b1, o1, none⟩) 33 cap1, .slice (some ⟨b2, o2, none⟩) 33 cap2] rfl rfl 3 inf35 rfl rfl (w35_one _ _ _ _ _ _ _ _ _) ?_
      intro V5 hM
      (try simp only [List.cons_append, List.nil_append, List.set_cons_succ, List.set_cons_zero, Nat.reduceAdd] at hM)
      replace HM := hM
      clear hM
      refine hK _ _ ⟨(fun y => ∃ q : CW [(⟨w.heap.size, 0, none⟩, .slice (some ⟨b, o, none⟩) 771 cap), (⟨w.heap.size, 1, none⟩, .slice (some ⟨b1, o1, none⟩) 33 cap1), (⟨w.heap.size, 2, none⟩, .slice (some ⟨b2, o2, none⟩) 33 cap2)], y = q.1), ⟨⟨_, (allc ((HM.out.hb 0 _ _ _ rfl).cell (k := 0) rfl) (allc ((HM.out.hb 0 _ _ _ rfl).cell (k := 1) rfl) (allc ((HM.out.hb 0 _ _ _ rfl).cell (k := 2) rfl) (alln _))))⟩, rfl⟩, fun _ h => h, ?_⟩
      clear hK K
      (try simp only [Act.put, List.setIfInBounds_toArray, List.set_cons_succ, List.set_cons_zero])
      refine wpQuiet_nil ?_
      refine NoPanic.normal ?_
      have i0 := (HM.out.hb 1 _ _ _ rfl).cell (k := 0) (v := .int .i8 2) rfl
      have i1 := (HM.out.hb 1 _ _ _ rfl).cell (k := 1) (v := .int .i64 (n : Int)) rfl
      have i2 := (HM.out.hb 1 _ _ _ rfl).cell (k := 2) (v := .int .i64 bb) rfl
      have i3 := (HM.out.hb 1 _ _ _ rfl).cell (k := 3) (v := .int .i64 v) rfl
      have j0 := (HM.out.hb 5 _ _ _ rfl).cell (k := 0) rfl
      have j1 := (HM.out.hb 4 _ _ _ rfl).cell (HCU.out n x HX.out)
      go_wp2_with fail
      go_quiet (fail)
      replace HM := Lib.hid (HM.out.drewN nq)
      clear j0 j1 i0 i1 i2 i3
      have i1 := (HM.out.hb 1 _ _ _ rfl).cell (k := 1) (v := .int .i64 (n : Int)) rfl
      have i3 := (HM.out.hb 1 _ _ _ rfl).cell (k := 3) (v := .int .i64 v) rfl
      go_wp2_with (first
        | (refine wpm_ldc HM rfl 30 (.tmp 58) rfl lv30 5 0 rfl rfl _ rfl ?_)
        | (refine wpm_cell HM rfl 3 (.tmp 64) (.tmp 63) rfl Try.sizeOf3 4 n rfl _ rfl rfl (.inl ⟨_, _, rfl⟩) (Array.getElem?_eq_some_iff.1 (HCU.out n _ (List.getElem?_eq_getElem (by rw [HLL.out]; exact hn)))).1 _ rfl ?_; intro W hM; (try simp only [List.cons_append, List.nil_append, List.set_cons_succ, List.set_cons_zero, Nat.reduceAdd] at hM); replace HM := hM; clear hM; clear i1 i3)
        | (refine wpm_ld35 HM rfl (.tmp 7) rfl 5 rfl rfl rfl ?_)
        | (refine wpm_st35 HM rfl (.tmp 4) (.tmp 65) rfl 2 rfl rfl _ _ _ _ _ _ _ _ _ rfl rfl ?_; intro W hM; (try simp only [List.cons_append, List.nil_append, List.set_cons_succ, List.set_cons_zero, Nat.reduceAdd] at hM); replace HM := hM; clear hM))
      (try simp only [Exit.inBlock, Exit.then])
      refine bodyPost_ret (res_ctt rfl _ _ _ _ _ _ rfl rfl rfl ((HM.out.hb 2 _ _ _ rfl).load35 rfl)) rfl ?_
      refine ⟨⟨_, rfl, _, 0, gc, rfl, HP.out _ HGN.out, by simp [HLL.out], fun i z hz => ?_, HSF.out⟩, HM.out.bel⟩
      rw [Nat.zero_add]
      exact (HM.out.hb 4 _ _ _ rfl).cell (HCU.out.set n v (by rw [HLL.out]; exact hn) i z hz)
    · refine wpOp_step rfl (fun K hK => ?_)
      rw [if_pos (by rfl)]
      refine wpOm_al HM 35 rfl 7 rfl _ zer35 ?_
      intro V6 hM
      (try simp only [List.cons_append, List.nil_append, List.set_cons_succ, List.set_cons_zero, Nat.reduceAdd] at hM)
      replace HM := hM
      clear hM
      refine hK _ _ ⟨(fun y => ∃ q : CW [(⟨w.heap.size, 0, none⟩, .slice (some ⟨b, o, none⟩) 771 cap), (⟨w.heap.size, 1, none⟩, .slice (some ⟨b1, o1, none⟩) 33 cap1), (⟨w.heap.size, 2, none⟩, .slice (some ⟨b2, o2, none⟩) 33 cap2)], y = q.1), ⟨⟨_, (allc ((HM.out.hb 0 _ _ _ rfl).cell (k := 0) rfl) (allc ((HM.out.hb 0 _ _ _ rfl).cell (k := 1) rfl) (allc ((HM.out.hb 0 _ _ _ rfl).cell (k := 2) rfl) (alln _))))⟩, rfl⟩, fun _ h => h, ?_⟩
      clear hK K
      (try simp only [Act.put, List.setIfInBounds_toArray, List.set_cons_succ, List.set_cons_zero])
      refine wpQuiet_nil ?_
      refine wpOp_step rfl (fun K hK => ?_)
      rw [if_pos (by rfl)]
      refine wpOm_copy HM (.tmp 18) (.tmp 20) rfl 21 rfl _ rfl b o cap rfl l HLL.out (fun i z hz => (HM.out.bel.cell (World.block_lt_of_cell? _ _ (HCC.out i z hz))).trans (HCC.out i z hz)) ?_
      intro V7 cur gc hcur hM
      (try simp only [List.cons_append, List.nil_append, List.set_cons_succ, List.set_cons_zero, Nat.reduceAdd] at hM)
      have HCU := Lib.hid hcur
      have HGN : Hid (w.heap.size ≤ _) := Lib.hid HM.out.size
      replace HM := hM
      clear hM hcur
      refine hK _ _ ⟨(fun y => ∃ q : CW [(⟨w.heap.size, 0, none⟩, .slice (some ⟨b, o, none⟩) 771 cap), (⟨w.heap.size, 1, none⟩, .slice (some ⟨b1, o1, none⟩) 33 cap1), (⟨w.heap.size, 2, none⟩, .slice (some ⟨b2, o2, none⟩) 33 cap2)], y = q.1), ⟨⟨_, (allc ((HM.out.hb 0 _ _ _ rfl).cell (k := 0) rfl) (allc ((HM.out.hb 0 _ _ _ rfl).cell (k := 1) rfl) (allc ((HM.out.hb 0 _ _ _ rfl).cell (k := 2) rfl) (alln _))))⟩, rfl⟩, fun _ h => h, ?_⟩
      clear hK K
      (try simp only [Act.put, List.setIfInBounds_toArray, List.set_cons_succ, List.set_cons_zero])
      repeat (go_big_quiet_step (fail))
      refine wpQuiet_nil ?_
      refine wpOp_step rfl (fun K hK => ?_)
      rw [if_pos (by rfl)]
      refine wpOm_st HM 35 (.tmp 7) (.tmp 24) rfl rfl 4 rfl #[.slice (some ⟨_, 0, none⟩) 771 gc, .slice (some ⟨b1, o1, none⟩) 33 cap1, .slice (some ⟨b2, o2, none⟩) 33 cap2] rfl rfl 3 inf35 rfl rfl (w35_one _ _ _ _ _ _ _ _ _) ?_
      intro V8 hM
      (try simp only [List.cons_append, List.nil_append, List.set_cons_succ, List.set_cons_zero, Nat.reduceAdd] at hM)
      replace HM := hM
      clear hM
      refine hK _ _ ⟨(fun y => ∃ q : CW [(⟨w.heap.size, 0, none⟩, .slice (some ⟨b, o, none⟩) 771 cap), (⟨w.heap.size, 1, none⟩, .slice (some ⟨b1, o1, none⟩) 33 cap1), (⟨w.heap.size, 2, none⟩, .slice (some ⟨b2, o2, none⟩) 33 cap2)], y = q.1), ⟨⟨_, (allc ((HM.out.hb 0 _ _ _ rfl).cell (k := 0) rfl) (allc ((HM.out.hb 0 _ _ _ rfl).cell (k := 1) rfl) (allc ((HM.out.hb 0 _ _ _ rfl).cell (k := 2) rfl) (alln _))))⟩, rfl⟩, fun _ h => h, ?_⟩
      clear hK K
      (try simp only [Act.put, List.setIfInBounds_toArray, List.set_cons_succ, List.set_cons_zero])
      refine wpQuiet_nil ?_
      refine NoPanic.normal ?_
      have i0 := (HM.out.hb 1 _ _ _ rfl).cell (k := 0) (v := .int .i8 2) rfl
      have i1 := (HM.out.hb 1 _ _ _ rfl).cell (k := 1) (v := .int .i64 (n : Int)) rfl
      have i2 := (HM.out.hb 1 _ _ _ rfl).cell (k := 2) (v := .int .i64 bb) rfl
      have i3 := (HM.out.hb 1 _ _ _ rfl).cell (k := 3) (v := .int .i64 v) rfl
      have j0 := (HM.out.hb 4 _ _ _ rfl).cell (k := 0) rfl
      have j1 := (HM.out.hb 5 _ _ _ rfl).cell (HCU.out n x HX.out)
      go_wp2_with fail
      go_quiet (fail)
      replace HM := Lib.hid (HM.out.drewN nq)
      clear j0 j1 i0 i1 i2 i3
      have i1 := (HM.out.hb 1 _ _ _ rfl).cell (k := 1) (v := .int .i64 (n : Int)) rfl
      have i3 := (HM.out.hb 1 _ _ _ rfl).cell (k := 3) (v := .int .i64 v) rfl
      go_wp2_with (first
        | (refine wpm_ldc HM rfl 30 (.tmp 58) rfl lv30 4 0 rfl rfl _ rfl ?_)
        | (refine wpm_cell HM rfl 3 (.tmp 64) (.tmp 63) rfl Try.sizeOf3 5 n rfl _ rfl rfl (.inl ⟨_, _, rfl⟩) (Array.getElem?_eq_some_iff.1 (HCU.out n _ (List.getElem?_eq_getElem (by rw [HLL.out]; exact hn)))).1 _ rfl ?_; intro W hM; (try simp only [List.cons_append, List.nil_append, List.set_cons_succ, List.set_cons_zero, Nat.reduceAdd] at hM); replace HM := hM; clear hM; clear i1 i3)
        | (refine wpm_ld35 HM rfl (.tmp 7) rfl 4 rfl rfl rfl ?_)
        | (refine wpm_st35 HM rfl (.tmp 4) (.tmp 65) rfl 2 rfl rfl _ _ _ _ _ _ _ _ _ rfl rfl ?_; intro W hM; (try simp only [List.cons_append, List.nil_append, List.set_cons_succ, List.set_cons_zero, Nat.reduceAdd] at hM); replace HM := hM; clear hM))
      (try simp only [Exit.inBlock, Exit.then])
      refine bodyPost_ret (res_ctt rfl _ _ _ _ _ _ rfl rfl rfl ((HM.out.hb 2 _ _ _ rfl).load35 rfl)) rfl ?_
      refine ⟨⟨_, rfl, _, 0, gc, rfl, HP.out _ HGN.out, by simp [HLL.out], fun i z hz => ?_, HSF.out⟩, HM.out.bel⟩
      rw [Nat.zero_add]
      exact (HM.out.hb 5 _ _ _ rfl).cell (HCU.out.set n v (by rw [HLL.out]; exact hn) i z hz)
  · refine wpOp_step rfl (fun K hK => ?_)
    rw [if_pos (by rfl)]
    refine wpOm_al HM 35 rfl 7 rfl _ zer35 ?_
    intro V9 hM
    (try simp only [List.cons_append, List.nil_append, List.set_cons_succ, List.set_cons_zero, Nat.reduceAdd] at hM)
    replace HM := hM
    clear hM
    refine hK _ _ ⟨(fun y => ∃ q : CW [(⟨w.heap.size, 0, none⟩, .slice (some ⟨b, o, none⟩) 771 cap), (⟨w.heap.size, 1, none⟩, .slice (some ⟨b1, o1, none⟩) 33 cap1), (⟨w.heap.size, 2, none⟩, .slice (some ⟨b2, o2, none⟩) 33 cap2)], y = q.1), ⟨⟨_, (allc ((HM.out.hb 0 _ _ _ rfl).cell (k := 0) rfl) (allc ((HM.out.hb 0 _ _ _ rfl).cell (k := 1) rfl) (allc ((HM.out.hb 0 _ _ _ rfl).cell (k := 2) rfl) (alln _))))⟩, rfl⟩, fun _ h => h, ?_⟩
    clear hK K
    (try simp only [Act.put, List.setIfInBounds_toArray, List.set_cons_succ, List.set_cons_zero])
    refine wpQuiet_nil ?_
    refine wpOp_step rfl (fun K hK => ?_)
    rw [if_pos (by rfl)]
    refine wpOm_bs0 HM rfl 18 rfl ?_
    intro V10 hM
    (try simp only [List.cons_append, List.nil_append, List.set_cons_succ, List.set_cons_zero, Nat.reduceAdd] at hM)
    replace HM := hM
    clear hM
    refine hK _ _ ⟨(fun y => ∃ q : CW [(⟨w.heap.size, 0, none⟩, .slice (some ⟨b, o, none⟩) 771 cap), (⟨w.heap.size, 1, none⟩, .slice (some ⟨b1, o1, none⟩) 33 cap1), (⟨w.heap.size, 2, none⟩, .slice (some ⟨b2, o2, none⟩) 33 cap2)], y = q.1), ⟨⟨_, (allc ((HM.out.hb 0 _ _ _ rfl).cell (k := 0) rfl) (allc ((HM.out.hb 0 _ _ _ rfl).cell (k := 1) rfl) (allc ((HM.out.hb 0 _ _ _ rfl).cell (k := 2) rfl) (alln _))))⟩, rfl⟩, fun _ h => h, ?_⟩
    clear hK K
    (try simp only [Act.put, List.setIfInBounds_toArray, List.set_cons_succ, List.set_cons_zero])
    refine wpQuiet_nil ?_
    refine wpOp_step rfl (fun K hK => ?_)
    rw [if_pos (by rfl)]
    refine wpOm_copy HM (.tmp 18) (.tmp 20) rfl 21 rfl _ rfl b o cap rfl l HLL.out (fun i z hz => (HM.out.bel.cell (World.block_lt_of_cell? _ _ (HCC.out i z hz))).trans (HCC.out i z hz)) ?_
    intro V11 cur gc hcur hM
    (try simp only [List.cons_append, List.nil_append, List.set_cons_succ, List.set_cons_zero, Nat.reduceAdd] at hM)
    have HCU := Lib.hid hcur
    have HGN : Hid (w.heap.size ≤ _) := Lib.hid HM.out.size
    replace HM := hM
    clear hM hcur
    refine hK _ _ ⟨(fun y => ∃ q : CW [(⟨w.heap.size, 0, none⟩, .slice (some ⟨b, o, none⟩) 771 cap), (⟨w.heap.size, 1, none⟩, .slice (some ⟨b1, o1, none⟩) 33 cap1), (⟨w.heap.size, 2, none⟩, .slice (some ⟨b2, o2, none⟩) 33 cap2)], y = q.1), ⟨⟨_, (allc ((HM.out.hb 0 _ _ _ rfl).cell (k := 0) rfl) (allc ((HM.out.hb 0 _ _ _ rfl).cell (k := 1) rfl) (allc ((HM.out.hb 0 _ _ _ rfl).cell (k := 2) rfl) (alln _))))⟩, rfl⟩, fun _ h => h, ?_⟩
    clear hK K
    (try simp only [Act.put, List.setIfInBounds_toArray, List.set_cons_succ, List.set_cons_zero])
    repeat (go_big_quiet_step (fail))
    refine wpQuiet_nil ?_
    refine wpOp_step rfl (fun K hK => ?_)
    rw [if_pos (by rfl)]
    refine wpOm_st HM 35 (.tmp 7) (.tmp 24) rfl rfl 3 rfl #[.slice (some ⟨_, 0, none⟩) 771 gc, .slice (some ⟨b1, o1, none⟩) 33 cap1, .slice (some ⟨b2, o2, none⟩) 33 cap2] rfl rfl 3 inf35 rfl rfl (w35_one _ _ _ _ _ _ _ _ _) ?_
    intro V12 hM
    (try simp only [List.cons_append, List.nil_append, List.set_cons_succ, List.set_cons_zero, Nat.reduceAdd] at hM)
    replace HM := hM
    clear hM
    refine hK _ _ ⟨(fun y => ∃ q : CW [(⟨w.heap.size, 0, none⟩, .slice (some ⟨b, o, none⟩) 771 cap), (⟨w.heap.size, 1, none⟩, .slice (some ⟨b1, o1, none⟩) 33 cap1), (⟨w.heap.size, 2, none⟩, .slice (some ⟨b2, o2, none⟩) 33 cap2)], y = q.1), ⟨⟨_, (allc ((HM.out.hb 0 _ _ _ rfl).cell (k := 0) rfl) (allc ((HM.out.hb 0 _ _ _ rfl).cell (k := 1) rfl) (allc ((HM.out.hb 0 _ _ _ rfl).cell (k := 2) rfl) (alln _))))⟩, rfl⟩, fun _ h => h, ?_⟩
    clear hK K
    (try simp only [Act.put, List.setIfInBounds_toArray, List.set_cons_succ, List.set_cons_zero])
    refine wpQuiet_nil ?_
    refine NoPanic.normal ?_
    have i0 := (HM.out.hb 1 _ _ _ rfl).cell (k := 0) (v := .int .i8 2) rfl
    have i1 := (HM.out.hb 1 _ _ _ rfl).cell (k := 1) (v := .int .i64 (n : Int)) rfl
    have i2 := (HM.out.hb 1 _ _ _ rfl).cell (k := 2) (v := .int .i64 bb) rfl
    have i3 := (HM.out.hb 1 _ _ _ rfl).cell (k := 3) (v := .int .i64 v) rfl
    have j0 := (HM.out.hb 3 _ _ _ rfl).cell (k := 0) rfl
    have j1 := (HM.out.hb 5 _ _ _ rfl).cell (HCU.out n x HX.out)
    go_wp2_with fail
    go_quiet (fail)
    replace HM := Lib.hid (HM.out.drewN nq)
    clear j0 j1 i0 i1 i2 i3
    have i1 := (HM.out.hb 1 _ _ _ rfl).cell (k := 1) (v := .int .i64 (n : Int)) rfl
    have i3 := (HM.out.hb 1 _ _ _ rfl).cell (k := 3) (v := .int .i64 v) rfl
    go_wp2_with (first
      | (refine wpm_ldc HM rfl 30 (.tmp 58) rfl lv30 3 0 rfl rfl _ rfl ?_)
      | (refine wpm_cell HM rfl 3 (.tmp 64) (.tmp 63) rfl Try.sizeOf3 5 n rfl _ rfl rfl (.inl ⟨_, _, rfl⟩) (Array.getElem?_eq_some_iff.1 (HCU.out n _ (List.getElem?_eq_getElem (by rw [HLL.out]; exact hn)))).1 _ rfl ?_; intro W hM; (try simp only [List.cons_append, List.nil_append, List.set_cons_succ, List.set_cons_zero, Nat.reduceAdd] at hM); replace HM := hM; clear hM; clear i1 i3)
      | (refine wpm_ld35 HM rfl (.tmp 7) rfl 3 rfl rfl rfl ?_)
      | (refine wpm_st35 HM rfl (.tmp 4) (.tmp 65) rfl 2 rfl rfl _ _ _ _ _ _ _ _ _ rfl rfl ?_; intro W hM; (try simp only [List.cons_append, List.nil_append, List.set_cons_succ, List.set_cons_zero, Nat.reduceAdd] at hM); replace HM := hM; clear hM))
    (try simp only [Exit.inBlock, Exit.then])
    refine bodyPost_ret (res_ctt rfl _ _ _ _ _ _ rfl rfl rfl ((HM.out.hb 2 _ _ _ rfl).load35 rfl)) rfl ?_
    refine ⟨⟨_, rfl, _, 0, gc, rfl, HP.out _ HGN.out, by simp [HLL.out], fun i z hz => ?_, HSF.out⟩, HM.out.bel⟩
    rw [Nat.zero_add]
    exact (HM.out.hb 5 _ _ _ rfl).cell (HCU.out.set n v (by rw [HLL.out]; exact hn) i z hz)
set_option maxHeartbeats 8000000 in
set_option maxRecDepth 100000 in
theorem do_w2f {P : Nat → Prop} {cv d1 d2 : Value} {l : List Int} (w : World) (hP : ∀ b, w.heap.size ≤ b → P b) (h0 : CellsV P w cv l) (h1 : DiskV P w d1) (h2 : DiskV P w d2) (n : Nat) (bb v x : Int) (ao : Option Addr) (ac : Nat) (hn : n < 771) (hx : l[n]? = some x) (hb : -1152921504606846976 ≤ bb ∧ bb ≤ 1152921504606846976) (hv : -1152921504606846976 ≤ v ∧ v ≤ 1152921504606846976) (hxb : x ≠ bb) :
    Calls Try.prog 40 #[.agg #[cv, d1, d2], .agg (acC 2 n bb v 0 (.slice ao 0 ac))] w fun e w' => (∃ cv', e = .returned (.tuple #[.agg #[cv', d1, d2], .int .i64 0, .int .i64 0]) ∧ CellsV P w' cv' l) ∧ Below w.heap.size w w' := by
  have HMA := Lib.hid (fun (w : World) h0 h1 h2 => may_w2 (P := P) (cv := cv) (d1 := d1) (d2 := d2) (l := l) w h0 h1 h2 n bb v ao ac ⟨by omega, by omega⟩ hb hv)
  have HM := Lib.hid (Mem.start w)
  have HP := Lib.hid hP
  have H0 := Lib.hid h0
  have H1 := Lib.hid h1
  have H2 := Lib.hid h2
  have HX := Lib.hid hx
  obtain ⟨b1, o1, cap1, rfl, -, -⟩ := h1
  obtain ⟨b2, o2, cap2, rfl, -, -⟩ := h2
  obtain ⟨b, o, cap, rfl, -, hll, hcc, hff⟩ := h0
  have HLL := Lib.hid hll
  have HCC := Lib.hid hcc
  have HSF := Lib.hid hff
  have exb : (x == bb) = false := by rw [beq_eq_false_iff_ne]; exact hxb
  clear hxb
  clear hll hcc hff hb hv hP hx
  go_enter Try.func40, Try.ntmps40
  go_wp2_with (first
    | (refine wpm_box HM rfl 35 (.tmp 0) rfl _ rfl ?_; intro U1 hM; (try simp only [List.cons_append, List.nil_append, List.set_cons_succ, List.set_cons_zero, Nat.reduceAdd] at hM); replace HM := hM; clear hM)
    | (refine wpm_box HM rfl 59 (.tmp 1) rfl _ rfl ?_; intro U2 hM; (try simp only [List.cons_append, List.nil_append, List.set_cons_succ, List.set_cons_zero, Nat.reduceAdd] at hM); replace HM := hM; clear hM)
    | (refine wpm_al35 HM rfl rfl ?_; intro W hM; (try simp only [List.cons_append, List.nil_append, List.set_cons_succ, List.set_cons_zero, Nat.reduceAdd] at hM); replace HM := hM; clear hM)
    | (refine wpm_ld35 HM rfl (.tmp 2) rfl 0 rfl rfl rfl ?_)
    | (refine wpm_ld59 HM rfl (.tmp 3) rfl 1 rfl rfl ?_))
  refine (HMA.out _ (H0.out.below HM.out.bel) (H1.out.below HM.out.bel) (H2.out.below HM.out.bel)).mono ?_
  rintro e W2 ⟨rfl, hb⟩
  replace HM := Lib.hid (HM.out.below hb)
  clear hb
  go_wp2_with fail
  replace HM := Lib.hid HM.out.drew
  have HF : Hid (∀ p ∈ ([(⟨w.heap.size, 0, none⟩, .slice (some ⟨b, o, none⟩) 771 cap), (⟨w.heap.size, 1, none⟩, .slice (some ⟨b1, o1, none⟩) 33 cap1), (⟨w.heap.size, 2, none⟩, .slice (some ⟨b2, o2, none⟩) 33 cap2)] : List (Addr × Value)), World.cell? _ p.1 = some p.2) := Lib.hid (allc ((HM.out.hb 0 _ _ _ rfl).cell (k := 0) rfl) (allc ((HM.out.hb 0 _ _ _ rfl).cell (k := 1) rfl) (allc ((HM.out.hb 0 _ _ _ rfl).cell (k := 2) rfl) (alln _))))
  haveI : Inhabited (CW [(⟨w.heap.size, 0, none⟩, .slice (some ⟨b, o, none⟩) 771 cap), (⟨w.heap.size, 1, none⟩, .slice (some ⟨b1, o1, none⟩) 33 cap1), (⟨w.heap.size, 2, none⟩, .slice (some ⟨b2, o2, none⟩) 33 cap2)]) := ⟨⟨_, HF.out⟩⟩
  have f0 : ∀ q : CW [(⟨w.heap.size, 0, none⟩, .slice (some ⟨b, o, none⟩) 771 cap), (⟨w.heap.size, 1, none⟩, .slice (some ⟨b1, o1, none⟩) 33 cap1), (⟨w.heap.size, 2, none⟩, .slice (some ⟨b2, o2, none⟩) 33 cap2)], q.1.cell? ⟨w.heap.size, 0, none⟩ = some (.slice (some ⟨b, o, none⟩) 771 cap) := fun q => q.2 (⟨w.heap.size, 0, none⟩, .slice (some ⟨b, o, none⟩) 771 cap) (by simp)
  have f1 : ∀ q : CW [(⟨w.heap.size, 0, none⟩, .slice (some ⟨b, o, none⟩) 771 cap), (⟨w.heap.size, 1, none⟩, .slice (some ⟨b1, o1, none⟩) 33 cap1), (⟨w.heap.size, 2, none⟩, .slice (some ⟨b2, o2, none⟩) 33 cap2)], q.1.cell? ⟨w.heap.size, 1, none⟩ = some (.slice (some ⟨b1, o1, none⟩) 33 cap1) := fun q => q.2 (⟨w.heap.size, 1, none⟩, .slice (some ⟨b1, o1, none⟩) 33 cap1) (by simp)
  have f2 : ∀ q : CW [(⟨w.heap.size, 0, none⟩, .slice (some ⟨b, o, none⟩) 771 cap), (⟨w.heap.size, 1, none⟩, .slice (some ⟨b1, o1, none⟩) 33 cap1), (⟨w.heap.size, 2, none⟩, .slice (some ⟨b2, o2, none⟩) 33 cap2)], q.1.cell? ⟨w.heap.size, 2, none⟩ = some (.slice (some ⟨b2, o2, none⟩) 33 cap2) := fun q => q.2 (⟨w.heap.size, 2, none⟩, .slice (some ⟨b2, o2, none⟩) 33 cap2) (by simp)
  (try simp only [Act.put, List.setIfInBounds_toArray, List.set_cons_succ, List.set_cons_zero])
  refine wp_region_noPanic ?_
  refine wp_region_plw (.step [false, true, true, false, true, true] (.cons 0 (.step [] (.cons 3 (.step [false, false, false, false, false, false, true] (.cons 7 (.step [] (.cons 8 (.last []) .nil)) .nil)) (.cons 7 (.step [] (.cons 3 (.step [false, false, false, false, false, false, true] (.cons 8 (.last []) .nil)) .nil)) .nil))) (.cons 7 (.step [] (.cons 0 (.step [] (.cons 3 (.step [false, false, false, false, false, false, true] (.cons 8 (.last []) .nil)) .nil)) .nil)) .nil))) (fun y => ∃ q : CW [(⟨w.heap.size, 0, none⟩, .slice (some ⟨b, o, none⟩) 771 cap), (⟨w.heap.size, 1, none⟩, .slice (some ⟨b1, o1, none⟩) 33 cap1), (⟨w.heap.size, 2, none⟩, .slice (some ⟨b2, o2, none⟩) 33 cap2)], y = q.1) (by kernel_rfl) (by kernel_rfl) (by kernel_rfl) (fun _ _ _ _ _ _ _ h => h) ⟨⟨_, HF.out⟩, rfl⟩ ?_
  simp only [wpPw, wpBw, selF, and_true]
  generalize W2.drew = V13 at *
  repeat (go_big_quiet_step (fail))
  refine wpQuiet_nil ?_
  refine ⟨?_, ?_⟩
  · refine wpOp_step rfl (fun K hK => ?_)
    rw [if_pos (by rfl)]
    refine wpOm_bs0 HM rfl 18 rfl ?_
    intro V14 hM
    (try simp only [List.cons_append, List.nil_append, List.set_cons_succ, List.set_cons_zero, Nat.reduceAdd] at hM)
    replace HM := hM
    clear hM
    refine hK _ _ ⟨(fun y => ∃ q : CW [(⟨w.heap.size, 0, none⟩, .slice (some ⟨b, o, none⟩) 771 cap), (⟨w.heap.size, 1, none⟩, .slice (some ⟨b1, o1, none⟩) 33 cap1), (⟨w.heap.size, 2, none⟩, .slice (some ⟨b2, o2, none⟩) 33 cap2)], y = q.1), ⟨⟨_, (allc ((HM.out.hb 0 _ _ _ rfl).cell (k := 0) rfl) (allc ((HM.out.hb 0 _ _ _ rfl).cell (k := 1) rfl) (allc ((HM.out.hb 0 _ _ _ rfl).cell (k := 2) rfl) (alln _))))⟩, rfl⟩, fun _ h => h, ?_⟩
    clear hK K
    (try simp only [Act.put, List.setIfInBounds_toArray, List.set_cons_succ, List.set_cons_zero])
    refine wpQuiet_nil ?_
    refine ⟨?_, ?_⟩
    · refine wpOp_step rfl (fun K hK => ?_)
      rw [if_pos (by rfl)]
      refine wpOm_copy HM (.tmp 18) (.tmp 20) rfl 21 rfl _ rfl b o cap rfl l HLL.out (fun i z hz => (HM.out.bel.cell (World.block_lt_of_cell? _ _ (HCC.out i z hz))).trans (HCC.out i z hz)) ?_
      intro V15 cur gc hcur hM
      (try simp only [List.cons_append, List.nil_append, List.set_cons_succ, List.set_cons_zero, Nat.reduceAdd] at hM)
      have HCU := Lib.hid hcur
      have HGN : Hid (w.heap.size ≤ _) := Lib.hid HM.out.size
      replace HM := hM
      clear hM hcur
      refine hK _ _ ⟨(fun y => ∃ q : CW [(⟨w.heap.size, 0, none⟩, .slice (some ⟨b, o, none⟩) 771 cap), (⟨w.heap.size, 1, none⟩, .slice (some ⟨b1, o1, none⟩) 33 cap1), (⟨w.heap.size, 2, none⟩, .slice (some ⟨b2, o2, none⟩) 33 cap2)], y = q.1), ⟨⟨_, (allc ((HM.out.hb 0 _ _ _ rfl).cell (k := 0) rfl) (allc ((HM.out.hb 0 _ _ _ rfl).cell (k := 1) rfl) (allc ((HM.out.hb 0 _ _ _ rfl).cell (k := 2) rfl) (alln _))))⟩, rfl⟩, fun _ h => h, ?_⟩
      clear hK K
      (try simp only [Act.put, List.setIfInBounds_toArray, List.set_cons_succ, List.set_cons_zero])
      repeat (go_big_quiet_step (fail))
      refine wpQuiet_nil ?_
      refine wpOp_step rfl (fun K hK => ?_)
      rw [if_pos (by rfl)]
      refine wpOm_al HM 35 rfl 7 rfl _ zer35 ?_
      intro V16 hM
      (try simp only [List.cons_append, List.nil_append, List.set_cons_succ, List.set_cons_zero, Nat.reduceAdd] at hM)
      replace HM := hM
      clear hM
      refine hK _ _ ⟨(fun y => ∃ q : CW [(⟨w.heap.size, 0, none⟩, .slice (some ⟨b, o, none⟩) 771 cap), (⟨w.heap.size, 1, none⟩, .slice (some ⟨b1, o1, none⟩) 33 cap1), (⟨w.heap.size, 2, none⟩, .slice (some ⟨b2, o2, none⟩) 33 cap2)], y = q.1), ⟨⟨_, (allc ((HM.out.hb 0 _ _ _ rfl).cell (k := 0) rfl) (allc ((HM.out.hb 0 _ _ _ rfl).cell (k := 1) rfl) (allc ((HM.out.hb 0 _ _ _ rfl).cell (k := 2) rfl) (alln _))))⟩, rfl⟩, fun _ h => h, ?_⟩
      clear hK K
      (try simp only [Act.put, List.setIfInBounds_toArray, List.set_cons_succ, List.set_cons_zero])
      refine wpQuiet_nil ?_
      refine wpOp_step rfl (fun K hK => ?_)
      rw [if_pos (by rfl)]
      refine wpOm_st HM 35 (.tmp 7) (.tmp 24) rfl rfl 5 rfl #[.slice (some ⟨_, 0, none⟩) 771 gc, .slice (some ⟨b1, o1, none⟩) 33 cap1, .slice (some ⟨b2, o2, none⟩) 33 cap2] rfl rfl 3 inf35 rfl rfl (w35_one _ _ _ _ _ _ _ _ _) ?_
      intro V17 hM
      (try simp only [List.cons_append, List.nil_append, List.set_cons_succ, List.set_cons_zero, Nat.reduceAdd] at hM)
      replace HM := hM
      clear hM
      refine hK _ _ ⟨(fun y => ∃ q : CW [(⟨w.heap.size, 0, none⟩, .slice (some ⟨b, o, none⟩) 771 cap), (⟨w.heap.size, 1, none⟩, .slice (some ⟨b1, o1, none⟩) 33 cap1), (⟨w.heap.size, 2, none⟩, .slice (some ⟨b2, o2, none⟩) 33 cap2)], y = q.1), ⟨⟨_, (allc ((HM.out.hb 0 _ _ _ rfl).cell (k := 0) rfl) (allc ((HM.out.hb 0 _ _ _ rfl).cell (k := 1) rfl) (allc ((HM.out.hb 0 _ _ _ rfl).cell (k := 2) rfl) (alln _))))⟩, rfl⟩, fun _ h => h, ?_⟩
      clear hK K
      (try simp only [Act.put, List.setIfInBounds_toArray, List.set_cons_succ, List.set_cons_zero])
      refine wpQuiet_nil ?_
      refine NoPanic.normal ?_
      have i0 := (HM.out.hb 1 _ _ _ rfl).cell (k := 0) (v := .int .i8 2) rfl
      have i1 := (HM.out.hb 1 _ _ _ rfl).cell (k := 1) (v := .int .i64 (n : Int)) rfl
      have i2 := (HM.out.hb 1 _ _ _ rfl).cell (k := 2) (v := .int .i64 bb) rfl
      have i3 := (HM.out.hb 1 _ _ _ rfl).cell (k := 3) (v := .int .i64 v) rfl
      have j0 := (HM.out.hb 5 _ _ _ rfl).cell (k := 0) rfl
      have j1 := (HM.out.hb 4 _ _ _ rfl).cell (HCU.out n x HX.out)
      go_wp2_with fail
      go_quiet (fail)
      replace HM := Lib.hid (HM.out.drewN nq)
      go_wp2_with (first
        | (refine wpm_ld35 HM rfl (.tmp 7) rfl 5 rfl rfl rfl ?_)
        | (refine wpm_st35 HM rfl (.tmp 4) (.tmp 57) rfl 2 rfl rfl _ _ _ _ _ _ _ _ _ rfl rfl ?_; intro W hM; (try simp only [List.cons_append, List.nil_append, List.set_cons_succ, List.set_cons_zero, Nat.reduceAdd] at hM); replace HM := hM; clear hM))
      (try simp only [Exit.inBlock, Exit.then])
      refine bodyPost_ret (res_ctt rfl _ _ _ _ _ _ rfl rfl rfl ((HM.out.hb 2 _ _ _ rfl).load35 rfl)) rfl ?_
      refine ⟨⟨_, rfl, _, 0, gc, rfl, HP.out _ HGN.out, by simp [HLL.out], fun i z hz => ?_, HSF.out⟩, HM.out.bel⟩
      rw [Nat.zero_add]
      exact (HM.out.hb 4 _ _ _ rfl).cell (HCU.out i z hz)
    · refine wpOp_step rfl (fun K hK => ?_)
      rw [if_pos (by rfl)]
      refine wpOm_al HM 35 rfl 7 rfl _ zer35 ?_
      intro V18 hM
      (try simp only [List.cons_append, List.nil_append, List.set_cons_succ, List.set_cons_zero, Nat.reduceAdd] at hM)
      replace HM := hM
      clear hM
      refine hK _ _ ⟨(fun y => ∃ q : CW [(⟨w.heap.size, 0, none⟩, .slice (some ⟨b, o, none⟩) 771 cap), (⟨w.heap.size, 1, none⟩, .slice (some ⟨b1, o1, none⟩) 33 cap1), (⟨w.heap.size, 2, none⟩, .slice (some ⟨b2, o2, none⟩) 33 cap2)], y = q.1), ⟨⟨_, (allc ((HM.out.hb 0 _ _ _ rfl).cell (k := 0) rfl) (allc ((HM.out.hb 0 _ _ _ rfl).cell (k := 1) rfl) (allc ((HM.out.hb 0 _ _ _ rfl).cell (k := 2) rfl) (alln _))))⟩, rfl⟩, fun _ h => h, ?_⟩
      clear hK K
      (try simp only [Act.put, List.setIfInBounds_toArray, List.set_cons_succ, List.set_cons_zero])
      refine wpQuiet_nil ?_
      refine wpOp_step rfl (fun K hK => ?_)
      rw [if_pos (by rfl)]
      refine wpOm_copy HM (.tmp 18) (.tmp 20) rfl 21 rfl _ rfl b o cap rfl l HLL.out (fun i z hz => (HM.out.bel.cell (World.block_lt_of_cell? _ _ (HCC.out i z hz))).trans (HCC.out i z hz)) ?_
      intro V19 cur gc hcur hM
      (try simp only [List.cons_append, List.nil_append, List.set_cons_succ, List.set_cons_zero, Nat.reduceAdd] at hM)
      have HCU := Lib.hid hcur
      have HGN : Hid (w.heap.size ≤ _) := Lib.hid HM.out.size
      replace HM := hM
      clear hM hcur
      refine hK _ _ ⟨(fun y => ∃ q : CW [(⟨w.heap.size, 0, none⟩, .slice (some ⟨b, o, none⟩) 771 cap), (⟨w.heap.size, 1, none⟩, .slice (some ⟨b1, o1, none⟩) 33 cap1), (⟨w.heap.size, 2, none⟩, .slice (some ⟨b2, o2, none⟩) 33 cap2)], y = q.1), ⟨⟨_, (allc ((HM.out.hb 0 _ _ _ rfl).cell (k := 0) rfl) (allc ((HM.out.hb 0 _ _ _ rfl).cell (k := 1) rfl) (allc ((HM.out.hb 0 _ _ _ rfl).cell (k := 2) rfl) (alln _))))⟩, rfl⟩, fun _ h => h, ?_⟩
      clear hK K
      (try simp only [Act.put, List.setIfInBounds_toArray, List.set_cons_succ, List.set_cons_zero])
      repeat (go_big_quiet_step (fail))
      refine wpQuiet_nil ?_
      refine wpOp_step rfl (fun K hK => ?_)
      rw [if_pos (by rfl)]
      refine wpOm_st HM 35 (.tmp 7) (.tmp 24) rfl rfl 4 rfl #[.slice (some ⟨_, 0, none⟩) 771 gc, .slice (some ⟨b1, o1, none⟩) 33 cap1, .slice (some ⟨b2, o2, none⟩) 33 cap2] rfl rfl 3 inf35 rfl rfl (w35_one _ _ _ _ _ _ _ _ _) ?_
      intro V20 hM
      (try simp only [List.cons_append, List.nil_append, List.set_cons_succ, List.set_cons_zero, Nat.reduceAdd] at hM)
      replace HM := hM
      clear hM
      refine hK _ _ ⟨(fun y => ∃ q : CW [(⟨w.heap.size, 0, none⟩, .slice (some ⟨b, o, none⟩) 771 cap), (⟨w.heap.size, 1, none⟩, .slice (some ⟨b1, o1, none⟩) 33 cap1), (⟨w.heap.size, 2, none⟩, .slice (some ⟨b2, o2, none⟩) 33 cap2)], y = q.1), ⟨⟨_, (allc ((HM.out.hb 0 _ _ _ rfl).cell (k := 0) rfl) (allc ((HM.out.hb 0 _ _ _ rfl).cell (k := 1) rfl) (allc ((HM.out.hb 0 _ _ _ rfl).cell (k := 2) rfl) (alln _))))⟩, rfl⟩, fun _ h => h, ?_⟩
      clear hK K
      (try simp only [Act.put, List.setIfInBounds_toArray, List.set_cons_succ, List.set_cons_zero])
      refine wpQuiet_nil ?_
      refine NoPanic.normal ?_
      have i0 := (HM.out.hb 1 _ _ _ rfl).cell (k := 0) (v := .int .i8 2) rfl
      have i1 := (HM.out.hb 1 _ _ _ rfl).cell (k := 1) (v := .int .i64 (n : Int)) rfl
      have i2 := (HM.out.hb 1 _ _ _ rfl).cell (k := 2) (v := .int .i64 bb) rfl
      have i3 := (HM.out.hb 1 _ _ _ rfl).cell (k := 3) (v := .int .i64 v) rfl
      have j0 := (HM.out.hb 4 _ _ _ rfl).cell (k := 0) rfl
      have j1 := (HM.out.hb 5 _ _ _ rfl).cell (HCU.out n x HX.out)
      go_wp2_with fail
      go_quiet (fail)
      replace HM := Lib.hid (HM.out.drewN nq)
      go_wp2_with (first
        | (refine wpm_ld35 HM rfl (.tmp 7) rfl 4 rfl rfl rfl ?_)
        | (refine wpm_st35 HM rfl (.tmp 4) (.tmp 57) rfl 2 rfl rfl _ _ _ _ _ _ _ _ _ rfl rfl ?_; intro W hM; (try simp only [List.cons_append, List.nil_append, List.set_cons_succ, List.set_cons_zero, Nat.reduceAdd] at hM); replace HM := hM; clear hM))
      (try simp only [Exit.inBlock, Exit.then])
      refine bodyPost_ret (res_ctt rfl _ _ _ _ _ _ rfl rfl rfl ((HM.out.hb 2 _ _ _ rfl).load35 rfl)) rfl ?_
      refine ⟨⟨_, rfl, _, 0, gc, rfl, HP.out _ HGN.out, by simp [HLL.out], fun i z hz => ?_, HSF.out⟩, HM.out.bel⟩
      rw [Nat.zero_add]
      exact (HM.out.hb 5 _ _ _ rfl).cell (HCU.out i z hz)
  · refine wpOp_step rfl (fun K hK => ?_)
    rw [if_pos (by rfl)]
    refine wpOm_al HM 35 rfl 7 rfl _ zer35 ?_
    intro V21 hM
    (try simp only [List.cons_append, List.nil_append, List.set_cons_succ, List.set_cons_zero, Nat.reduceAdd] at hM)
    replace HM := hM
    clear hM
    refine hK _ _ ⟨(fun y => ∃ q : CW [(⟨w.heap.size, 0, none⟩, .slice (some ⟨b, o, none⟩) 771 cap), (⟨w.heap.size, 1, none⟩, .slice (some ⟨b1, o1, none⟩) 33 cap1), (⟨w.heap.size, 2, none⟩, .slice (some ⟨b2, o2, none⟩) 33 cap2)], y = q.1), ⟨⟨_, (allc ((HM.out.hb 0 _ _ _ rfl).cell (k := 0) rfl) (allc ((HM.out.hb 0 _ _ _ rfl).cell (k := 1) rfl) (allc ((HM.out.hb 0 _ _ _ rfl).cell (k := 2) rfl) (alln _))))⟩, rfl⟩, fun _ h => h, ?_⟩
    clear hK K
    (try simp only [Act.put, List.setIfInBounds_toArray, List.set_cons_succ, List.set_cons_zero])
    refine wpQuiet_nil ?_
    refine wpOp_step rfl (fun K hK => ?_)
    rw [if_pos (by rfl)]
    refine wpOm_bs0 HM rfl 18 rfl ?_
    intro V22 hM
    (try simp only [List.cons_append, List.nil_append, List.set_cons_succ, List.set_cons_zero, Nat.reduceAdd] at hM)
    replace HM := hM
    clear hM
    refine hK _ _ ⟨(fun y => ∃ q : CW [(⟨w.heap.size, 0, none⟩, .slice (some ⟨b, o, none⟩) 771 cap), (⟨w.heap.size, 1, none⟩, .slice (some ⟨b1, o1, none⟩) 33 cap1), (⟨w.heap.size, 2, none⟩, .slice (some ⟨b2, o2, none⟩) 33 cap2)], y = q.1), ⟨⟨_, (allc ((HM.out.hb 0 _ _ _ rfl).cell (k := 0) rfl) (allc ((HM.out.hb 0 _ _ _ rfl).cell (k := 1) rfl) (allc ((HM.out.hb 0 _ _ _ rfl).cell (k := 2) rfl) (alln _))))⟩, rfl⟩, fun _ h => h, ?_⟩
    clear hK K
    (try simp only [Act.put, List.setIfInBounds_toArray, List.set_cons_succ, List.set_cons_zero])
    refine wpQuiet_nil ?_
    refine wpOp_step rfl (fun K hK => ?_)
    rw [if_pos (by rfl)]
    refine wpOm_copy HM (.tmp 18) (.tmp 20) rfl 21 rfl _ rfl b o cap rfl l HLL.out (fun i z hz => (HM.out.bel.cell (World.block_lt_of_cell? _ _ (HCC.out i z hz))).trans (HCC.out i z hz)) ?_
    intro V23 cur gc hcur hM
    (try simp only [List.cons_append, List.nil_append, List.set_cons_succ, List.set_cons_zero, Nat.reduceAdd] at hM)
    have HCU := Lib.hid hcur
    have HGN : Hid (w.heap.size ≤ _) := Lib.hid HM.out.size
    replace HM := hM
    clear hM hcur
    refine hK _ _ ⟨(fun y => ∃ q : CW [(⟨w.heap.size, 0, none⟩, .slice (some ⟨b, o, none⟩) 771 cap), (⟨w.heap.size, 1, none⟩, .slice (some ⟨b1, o1, none⟩) 33 cap1), (⟨w.heap.size, 2, none⟩, .slice (some ⟨b2, o2, none⟩) 33 cap2)], y = q.1), ⟨⟨_, (allc ((HM.out.hb 0 _ _ _ rfl).cell (k := 0) rfl) (allc ((HM.out.hb 0 _ _ _ rfl).cell (k := 1) rfl) (allc ((HM.out.hb 0 _ _ _ rfl).cell (k := 2) rfl) (alln _))))⟩, rfl⟩, fun _ h => h, ?_⟩
    clear hK K
    (try simp only [Act.put, List.setIfInBounds_toArray, List.set_cons_succ, List.set_cons_zero])
    repeat (go_big_quiet_step (fail))
    refine wpQuiet_nil ?_
    refine wpOp_step rfl (fun K hK => ?_)
    rw [if_pos (by rfl)]
    refine wpOm_st HM 35 (.tmp 7) (.tmp 24) rfl rfl 3 rfl #[.slice (some ⟨_, 0, none⟩) 771 gc, .slice (some ⟨b1, o1, none⟩) 33 cap1, .slice (some ⟨b2, o2, none⟩) 33 cap2] rfl rfl 3 inf35 rfl rfl (w35_one _ _ _ _ _ _ _ _ _) ?_
    intro V24 hM
    (try simp only [List.cons_append, List.nil_append, List.set_cons_succ, List.set_cons_zero, Nat.reduceAdd] at hM)
    replace HM := hM
    clear hM
    refine hK _ _ ⟨(fun y => ∃ q : CW [(⟨w.heap.size, 0, none⟩, .slice (some ⟨b, o, none⟩) 771 cap), (⟨w.heap.size, 1, none⟩, .slice (some ⟨b1, o1, none⟩) 33 cap1), (⟨w.heap.size, 2, none⟩, .slice (some ⟨b2, o2, none⟩) 33 cap2)], y = q.1), ⟨⟨_, (allc ((HM.out.hb 0 _ _ _ rfl).cell (k := 0) rfl) (allc ((HM.out.hb 0 _ _ _ rfl).cell (k := 1) rfl) (allc ((HM.out.hb 0 _ _ _ rfl).cell (k := 2) rfl) (alln _))))⟩, rfl⟩, fun _ h => h, ?_⟩
    clear hK K
    (try simp only [Act.put, List.setIfInBounds_toArray, List.set_cons_succ, List.set_cons_zero])
    refine wpQuiet_nil ?_
    refine NoPanic.normal ?_
    have i0 := (HM.out.hb 1 _ _ _ rfl).cell (k := 0) (v := .int .i8 2) rfl
    have i1 := (HM.out.hb 1 _ _ _ rfl).cell (k := 1) (v := .int .i64 (n : Int)) rfl
    have i2 := (HM.out.hb 1 _ _ _ rfl).cell (k := 2) (v := .int .i64 bb) rfl
    have i3 := (HM.out.hb 1 _ _ _ rfl).cell (k := 3) (v := .int .i64 v) rfl
    have j0 := (HM.out.hb 3 _ _ _ rfl).cell (k := 0) rfl
    have j1 := (HM.out.hb 5 _ _ _ rfl).cell (HCU.out n x HX.out)
    go_wp2_with fail
    go_quiet (fail)
    replace HM := Lib.hid (HM.out.drewN nq)
    go_wp2_with (first
      | (refine wpm_ld35 HM rfl (.tmp 7) rfl 3 rfl rfl rfl ?_)
      | (refine wpm_st35 HM rfl (.tmp 4) (.tmp 57) rfl 2 rfl rfl _ _ _ _ _ _ _ _ _ rfl rfl ?_; intro W hM; (try simp only [List.cons_append, List.nil_append, List.set_cons_succ, List.set_cons_zero, Nat.reduceAdd] at hM); replace HM := hM; clear hM))
    (try simp only [Exit.inBlock, Exit.then])
    refine bodyPost_ret (res_ctt rfl _ _ _ _ _ _ rfl rfl rfl ((HM.out.hb 2 _ _ _ rfl).load35 rfl)) rfl ?_
    refine ⟨⟨_, rfl, _, 0, gc, rfl, HP.out _ HGN.out, by simp [HLL.out], fun i z hz => ?_, HSF.out⟩, HM.out.bel⟩
    rw [Nat.zero_add]
    exact (HM.out.hb 5 _ _ _ rfl).cell (HCU.out i z hz)
end Go.Proofs.Ytgpdknacnmapiaa
