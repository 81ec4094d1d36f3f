/-
  Parts of a proof, put together: Do.
-/
import Derived.Test.YtgpdknacnmapiaaZh01
import Derived.Test.YtgpdknacnmapiaaZh02
import Derived.Test.YtgpdknacnmapiaaZh03
import Derived.Test.YtgpdknacnmapiaaZh04
import Derived.Test.YtgpdknacnmapiaaZh05
namespace Go.Proofs.Ytgpdknacnmapiaa
set_option linter.unusedVariables false
set_option linter.unusedSimpArgs false
open Go.RowKit
set_option maxHeartbeats 2000000 in
set_option maxRecDepth 100000 in
theorem may_w0 {P : Nat → Prop} {cv d1 d2 : Value} {l : List Int} (w : World) (h0 : CellsV P w cv l) (h1 : DiskV P w d1) (h2 : DiskV P w d2) (a bb v : Int) (ao : Option Addr) (ac : Nat) (ha : 0 ≤ a ∧ a < 771) (hb : -1152921504606846976 ≤ (0 : Int) ∧ (0 : Int) ≤ 1152921504606846976) (hv : -1152921504606846976 ≤ (0 : Int) ∧ (0 : Int) ≤ 1152921504606846976) :
    Calls Try.prog 73 #[.agg #[cv, d1, d2], .agg (acC 0 a (0 : Int) (0 : Int) 0 (.slice ao 0 ac))] w fun e w' => e = .returned (.bool true) ∧ Below w.heap.size w w' := by
  have HM := Lib.hid (Mem.start w)
  have H0 := Lib.hid h0
  have H1 := Lib.hid h1
  have H2 := Lib.hid h2
  have HV := Lib.hid hv
  have HB := Lib.hid hb
  have a1 : decide (a < 0) = false := by simp; omega
  have a2 : decide ((771 : Int) ≤ a) = false := by simp; omega
  obtain ⟨b1, o1, cap1, rfl, -, -⟩ := h1
  obtain ⟨b2, o2, cap2, rfl, -, -⟩ := h2
  obtain ⟨b, o, cap, rfl, -, -, -, -⟩ := h0
  clear ha hb hv
  go_enter Try.func73, Try.ntmps73
  go_wp2_with (first
    | (refine wpm_box HM rfl 35 (.tmp 0) rfl _ rfl ?_; intro W1 hM; (try simp only [List.cons_append, List.nil_append, List.set_cons_succ, List.set_cons_zero, Nat.reduceAdd] at hM); replace HM := hM; clear hM)
    | (refine wpm_box HM rfl 59 (.tmp 1) rfl _ rfl ?_; intro W hM; (try simp only [List.cons_append, List.nil_append, List.set_cons_succ, List.set_cons_zero, Nat.reduceAdd] at hM); replace HM := hM; clear hM; have k0 : W.cell? ⟨w.heap.size, 0, none⟩ = some (.slice (some ⟨b, o, none⟩) 771 cap) := (HM.out.hb 0 _ _ _ rfl).cell (k := 0) rfl; have k1 : W.cell? ⟨w.heap.size, 1, none⟩ = some (.slice (some ⟨b1, o1, none⟩) 33 cap1) := (HM.out.hb 0 _ _ _ rfl).cell (k := 1) rfl; have k2 : W.cell? ⟨w.heap.size, 2, none⟩ = some (.slice (some ⟨b2, o2, none⟩) 33 cap2) := (HM.out.hb 0 _ _ _ rfl).cell (k := 2) rfl))
  refine (check_world _ (H0.out.below HM.out.bel) (H1.out.below HM.out.bel) (H2.out.below HM.out.bel)).mono ?_
  rintro e W2 ⟨rfl, hb⟩
  replace HM := Lib.hid (HM.out.below hb)
  clear hb k0 k1 k2
  have k0 : W2.cell? ⟨w.heap.size, 0, none⟩ = some (.slice (some ⟨b, o, none⟩) 771 cap) := (HM.out.hb 0 _ _ _ rfl).cell (k := 0) rfl
  have i0 : W2.cell? ⟨W1.heap.size, 0, none⟩ = some (.int .i8 0) := (HM.out.hb 1 _ _ _ rfl).cell (k := 0) rfl
  have i1 : W2.cell? ⟨W1.heap.size, 1, none⟩ = some (.int .i64 a) := (HM.out.hb 1 _ _ _ rfl).cell (k := 1) rfl
  have i2 : W2.cell? ⟨W1.heap.size, 2, none⟩ = some (.int .i64 (0 : Int)) := (HM.out.hb 1 _ _ _ rfl).cell (k := 2) rfl
  have i3 : W2.cell? ⟨W1.heap.size, 3, none⟩ = some (.int .i64 (0 : Int)) := (HM.out.hb 1 _ _ _ rfl).cell (k := 3) rfl
  have i4 : W2.cell? ⟨W1.heap.size, 4, none⟩ = some (.int .i64 0) := (HM.out.hb 1 _ _ _ rfl).cell (k := 4) rfl
  have i5 : W2.cell? ⟨W1.heap.size, 5, none⟩ = some (.string ByteArray.empty) := (HM.out.hb 1 _ _ _ rfl).cell (k := 5) rfl
  have i6 : W2.cell? ⟨W1.heap.size, 6, none⟩ = some (.slice ao 0 ac) := (HM.out.hb 1 _ _ _ rfl).cell (k := 6) rfl
  go_wp2_with fail
  refine (fits_ok _ _ HB.out).mono ?_
  rintro e W3 ⟨rfl, rfl⟩
  go_wp2_with fail
  refine (fits_ok _ _ HV.out).mono ?_
  rintro e W4 ⟨rfl, rfl⟩
  go_wp2_with fail
  go_ret
  exact ⟨rfl, HM.out.bel⟩
set_option maxHeartbeats 2000000 in
set_option maxRecDepth 100000 in
theorem may_w1 {P : Nat → Prop} {cv d1 d2 : Value} {l : List Int} (w : World) (h0 : CellsV P w cv l) (h1 : DiskV P w d1) (h2 : DiskV P w d2) (a bb v : Int) (ao : Option Addr) (ac : Nat) (ha : 0 ≤ a ∧ a < 771) (hb : -1152921504606846976 ≤ (0 : Int) ∧ (0 : Int) ≤ 1152921504606846976) (hv : -1152921504606846976 ≤ v ∧ v ≤ 1152921504606846976) :
    Calls Try.prog 73 #[.agg #[cv, d1, d2], .agg (acC 1 a (0 : Int) v 0 (.slice ao 0 ac))] w fun e w' => e = .returned (.bool true) ∧ Below w.heap.size w w' := by
  have HM := Lib.hid (Mem.start w)
  have H0 := Lib.hid h0
  have H1 := Lib.hid h1
  have H2 := Lib.hid h2
  have HV := Lib.hid hv
  have HB := Lib.hid hb
  have a1 : decide (a < 0) = false := by simp; omega
  have a2 : decide ((771 : Int) ≤ a) = false := by simp; omega
  obtain ⟨b1, o1, cap1, rfl, -, -⟩ := h1
  obtain ⟨b2, o2, cap2, rfl, -, -⟩ := h2
  obtain ⟨b, o, cap, rfl, -, -, -, -⟩ := h0
  clear ha hb hv
  go_enter Try.func73, Try.ntmps73
  go_wp2_with (first
    | (refine wpm_box HM rfl 35 (.tmp 0) rfl _ rfl ?_; intro W1 hM; (try simp only [List.cons_append, List.nil_append, List.set_cons_succ, List.set_cons_zero, Nat.reduceAdd] at hM); replace HM := hM; clear hM)
    | (refine wpm_box HM rfl 59 (.tmp 1) rfl _ rfl ?_; intro W hM; (try simp only [List.cons_append, List.nil_append, List.set_cons_succ, List.set_cons_zero, Nat.reduceAdd] at hM); replace HM := hM; clear hM; have k0 : W.cell? ⟨w.heap.size, 0, none⟩ = some (.slice (some ⟨b, o, none⟩) 771 cap) := (HM.out.hb 0 _ _ _ rfl).cell (k := 0) rfl; have k1 : W.cell? ⟨w.heap.size, 1, none⟩ = some (.slice (some ⟨b1, o1, none⟩) 33 cap1) := (HM.out.hb 0 _ _ _ rfl).cell (k := 1) rfl; have k2 : W.cell? ⟨w.heap.size, 2, none⟩ = some (.slice (some ⟨b2, o2, none⟩) 33 cap2) := (HM.out.hb 0 _ _ _ rfl).cell (k := 2) rfl))
  refine (check_world _ (H0.out.below HM.out.bel) (H1.out.below HM.out.bel) (H2.out.below HM.out.bel)).mono ?_
  rintro e W2 ⟨rfl, hb⟩
  replace HM := Lib.hid (HM.out.below hb)
  clear hb k0 k1 k2
  have k0 : W2.cell? ⟨w.heap.size, 0, none⟩ = some (.slice (some ⟨b, o, none⟩) 771 cap) := (HM.out.hb 0 _ _ _ rfl).cell (k := 0) rfl
  have i0 : W2.cell? ⟨W1.heap.size, 0, none⟩ = some (.int .i8 1) := (HM.out.hb 1 _ _ _ rfl).cell (k := 0) rfl
  have i1 : W2.cell? ⟨W1.heap.size, 1, none⟩ = some (.int .i64 a) := (HM.out.hb 1 _ _ _ rfl).cell (k := 1) rfl
  have i2 : W2.cell? ⟨W1.heap.size, 2, none⟩ = some (.int .i64 (0 : Int)) := (HM.out.hb 1 _ _ _ rfl).cell (k := 2) rfl
  have i3 : W2.cell? ⟨W1.heap.size, 3, none⟩ = some (.int .i64 v) := (HM.out.hb 1 _ _ _ rfl).cell (k := 3) rfl
  have i4 : W2.cell? ⟨W1.heap.size, 4, none⟩ = some (.int .i64 0) := (HM.out.hb 1 _ _ _ rfl).cell (k := 4) rfl
  have i5 : W2.cell? ⟨W1.heap.size, 5, none⟩ = some (.string ByteArray.empty) := (HM.out.hb 1 _ _ _ rfl).cell (k := 5) rfl
  have i6 : W2.cell? ⟨W1.heap.size, 6, none⟩ = some (.slice ao 0 ac) := (HM.out.hb 1 _ _ _ rfl).cell (k := 6) rfl
  go_wp2_with fail
  refine (fits_ok _ _ HB.out).mono ?_
  rintro e W3 ⟨rfl, rfl⟩
  go_wp2_with fail
  refine (fits_ok _ _ HV.out).mono ?_
  rintro e W4 ⟨rfl, rfl⟩
  go_wp2_with fail
  go_ret
  exact ⟨rfl, HM.out.bel⟩
set_option maxHeartbeats 2000000 in
set_option maxRecDepth 100000 in
theorem may_w2 {P : Nat → Prop} {cv d1 d2 : Value} {l : List Int} (w : World) (h0 : CellsV P w cv l) (h1 : DiskV P w d1) (h2 : DiskV P w d2) (a bb v : Int) (ao : Option Addr) (ac : Nat) (ha : 0 ≤ a ∧ a < 771) (hb : -1152921504606846976 ≤ bb ∧ bb ≤ 1152921504606846976) (hv : -1152921504606846976 ≤ v ∧ v ≤ 1152921504606846976) :
    Calls Try.prog 73 #[.agg #[cv, d1, d2], .agg (acC 2 a bb v 0 (.slice ao 0 ac))] w fun e w' => e = .returned (.bool true) ∧ Below w.heap.size w w' := by
  have HM := Lib.hid (Mem.start w)
  have H0 := Lib.hid h0
  have H1 := Lib.hid h1
  have H2 := Lib.hid h2
  have HV := Lib.hid hv
  have HB := Lib.hid hb
  have a1 : decide (a < 0) = false := by simp; omega
  have a2 : decide ((771 : Int) ≤ a) = false := by simp; omega
  obtain ⟨b1, o1, cap1, rfl, -, -⟩ := h1
  obtain ⟨b2, o2, cap2, rfl, -, -⟩ := h2
  obtain ⟨b, o, cap, rfl, -, -, -, -⟩ := h0
  clear ha hb hv
  go_enter Try.func73, Try.ntmps73
  go_wp2_with (first
    | (refine wpm_box HM rfl 35 (.tmp 0) rfl _ rfl ?_; intro W1 hM; (try simp only [List.cons_append, List.nil_append, List.set_cons_succ, List.set_cons_zero, Nat.reduceAdd] at hM); replace HM := hM; clear hM)
    | (refine wpm_box HM rfl 59 (.tmp 1) rfl _ rfl ?_; intro W hM; (try simp only [List.cons_append, List.nil_append, List.set_cons_succ, List.set_cons_zero, Nat.reduceAdd] at hM); replace HM := hM; clear hM; have k0 : W.cell? ⟨w.heap.size, 0, none⟩ = some (.slice (some ⟨b, o, none⟩) 771 cap) := (HM.out.hb 0 _ _ _ rfl).cell (k := 0) rfl; have k1 : W.cell? ⟨w.heap.size, 1, none⟩ = some (.slice (some ⟨b1, o1, none⟩) 33 cap1) := (HM.out.hb 0 _ _ _ rfl).cell (k := 1) rfl; have k2 : W.cell? ⟨w.heap.size, 2, none⟩ = some (.slice (some ⟨b2, o2, none⟩) 33 cap2) := (HM.out.hb 0 _ _ _ rfl).cell (k := 2) rfl))
  refine (check_world _ (H0.out.below HM.out.bel) (H1.out.below HM.out.bel) (H2.out.below HM.out.bel)).mono ?_
  rintro e W2 ⟨rfl, hb⟩
  replace HM := Lib.hid (HM.out.below hb)
  clear hb k0 k1 k2
  have k0 : W2.cell? ⟨w.heap.size, 0, none⟩ = some (.slice (some ⟨b, o, none⟩) 771 cap) := (HM.out.hb 0 _ _ _ rfl).cell (k := 0) rfl
  have i0 : W2.cell? ⟨W1.heap.size, 0, none⟩ = some (.int .i8 2) := (HM.out.hb 1 _ _ _ rfl).cell (k := 0) rfl
  have i1 : W2.cell? ⟨W1.heap.size, 1, none⟩ = some (.int .i64 a) := (HM.out.hb 1 _ _ _ rfl).cell (k := 1) rfl
  have i2 : W2.cell? ⟨W1.heap.size, 2, none⟩ = some (.int .i64 bb) := (HM.out.hb 1 _ _ _ rfl).cell (k := 2) rfl
  have i3 : W2.cell? ⟨W1.heap.size, 3, none⟩ = some (.int .i64 v) := (HM.out.hb 1 _ _ _ rfl).cell (k := 3) rfl
  have i4 : W2.cell? ⟨W1.heap.size, 4, none⟩ = some (.int .i64 0) := (HM.out.hb 1 _ _ _ rfl).cell (k := 4) rfl
  have i5 : W2.cell? ⟨W1.heap.size, 5, none⟩ = some (.string ByteArray.empty) := (HM.out.hb 1 _ _ _ rfl).cell (k := 5) rfl
  have i6 : W2.cell? ⟨W1.heap.size, 6, none⟩ = some (.slice ao 0 ac) := (HM.out.hb 1 _ _ _ rfl).cell (k := 6) rfl
  go_wp2_with fail
  refine (fits_ok _ _ HB.out).mono ?_
  rintro e W3 ⟨rfl, rfl⟩
  go_wp2_with fail
  refine (fits_ok _ _ HV.out).mono ?_
  rintro e W4 ⟨rfl, rfl⟩
  go_wp2_with fail
  go_ret
  exact ⟨rfl, HM.out.bel⟩
end Go.Proofs.Ytgpdknacnmapiaa
