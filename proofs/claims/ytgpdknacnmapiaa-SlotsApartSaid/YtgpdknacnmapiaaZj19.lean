/-
  Parts of a proof, put together: Ck, Do.
-/
import Derived.Test.YtgpdknacnmapiaaZj01
import Derived.Test.YtgpdknacnmapiaaZj02
import Derived.Test.YtgpdknacnmapiaaZj03
import Derived.Test.YtgpdknacnmapiaaZj04
import Derived.Test.YtgpdknacnmapiaaZj05
import Derived.Test.YtgpdknacnmapiaaZj06
import Derived.Test.YtgpdknacnmapiaaZj07
import Derived.Test.YtgpdknacnmapiaaZj08
import Derived.Test.YtgpdknacnmapiaaZj09
import Derived.Test.YtgpdknacnmapiaaZj10
import Derived.Test.YtgpdknacnmapiaaZj11
import Derived.Test.YtgpdknacnmapiaaZj12
import Derived.Test.YtgpdknacnmapiaaZj13
import Derived.Test.YtgpdknacnmapiaaZj14
import Derived.Test.YtgpdknacnmapiaaZj15
import Derived.Test.YtgpdknacnmapiaaZj16
import Derived.Test.YtgpdknacnmapiaaZj17
import Derived.Test.YtgpdknacnmapiaaZj18
namespace Go.Proofs.Ytgpdknacnmapiaa
set_option linter.unusedVariables false
set_option linter.unusedSimpArgs false
open Go.RowKit
/-- a disk's row of empty sectors -/
def DiskV (P : Nat → Prop) (W : World) (d : Value) : Prop := ∃ b o cap, d = .slice (some ⟨b, o, none⟩) 33 cap ∧ P b ∧ ∀ i : Nat, i < 33 → W.cell? ⟨b, o + i * 2, none⟩ = some (.int .i64 0) ∧ W.cell? ⟨b, o + i * 2 + 1, none⟩ = some (.string ByteArray.empty)
theorem DiskV.keep {P : Nat → Prop} {W W' : World} {d : Value} (h : DiskV P W d) (hk : ∀ b, P b → b < W.heap.size → W'.heap[b]? = W.heap[b]?) : DiskV P W' d := by
  obtain ⟨b, o, cap, rfl, hp, hc⟩ := h
  have hlt := World.block_lt_of_cell? _ _ (hc 0 (by omega)).1
  exact ⟨b, o, cap, rfl, hp, fun i hi => ⟨(World.cell?_of_block (hk b hp hlt)).trans (hc i hi).1, (World.cell?_of_block (hk b hp hlt)).trans (hc i hi).2⟩⟩
theorem DiskV.below {P : Nat → Prop} {W W' : World} {d : Value} (h : DiskV P W d) (hb : Below W.heap.size W W') : DiskV P W' d := h.keep fun b _ hl => hb.block b hl
set_option maxHeartbeats 1000000 in
set_option maxRecDepth 100000 in
theorem row_ok {P : Nat → Prop} {d : Value} (w : World) (h : DiskV P w d) : Calls Try.prog 109 #[d] w fun e w' => e = .returned (.bool true) ∧ w' = w := by
  obtain ⟨b, o, cap, rfl, -, hc⟩ := h
  have HC := Lib.hid hc
  clear hc
  go_enter Try.func109, Try.ntmps109
  go_wp2_with fail
  go_loopw [3] (fun iv wr => ∃ j : Nat, j ≤ 33 ∧ iv = .int .i64 j ∧ wr = w) (fun iv _ => 33 - (intOf iv).toNat)
  case atStart => exact ⟨0, by omega, rfl, rfl⟩
  case round =>
    obtain ⟨j, hj, rfl, rfl⟩ := hrel
    by_cases hlt : j < 33
    · obtain ⟨c0, c1⟩ := HC.out j hlt
      have d0 : decide ((j : Int) < 33) = true := by simp; omega
      go_wp2_with fail
      go_roundw
      case rel => exact ⟨j + 1, hlt, rfl, by trivial⟩
      case measure => simp [intOf]; omega
    · have e : j = 33 := by omega
      subst e
      go_wp2_with fail
      go_ret
      exact ⟨rfl, rfl⟩
theorem fits_ok (n : Int) (w : World) (h : -1152921504606846976 ≤ n ∧ n ≤ 1152921504606846976) : Calls Try.prog 97 #[.int .i64 n] w fun e w' => e = .returned (.bool true) ∧ w' = w := by
  have d1 : decide ((-1152921504606846976 : Int) ≤ n) = true := by simp; omega
  have d2 : decide (n ≤ (1152921504606846976 : Int)) = true := by simp; omega
  clear h
  go_enter Try.func97, Try.ntmps97
  go_wp2_with fail
  go_ret
  exact ⟨rfl, rfl⟩
theorem Mem.drewN {X : Nat → Prop} {w0 W : World} {L : List (Nat × Array Value × TypeId)} (h : Mem X w0 W L) (n : Nat) : Mem X w0 (W.drewN n) L := h.below (below_drewN W n)
set_option maxHeartbeats 1000000 in
set_option maxRecDepth 100000 in
theorem check_disk {P : Nat → Prop} {d1 d2 : Value} (w : World) (h1 : DiskV P w d1) (h2 : DiskV P w d2) : Calls Try.prog 98 #[.agg #[d1, d2]] w fun e w' => e = .returned (.int .i64 0) ∧ Below w.heap.size w w' := by
  have HM := Lib.hid (Mem.start w)
  have H1 := Lib.hid h1
  have H2 := Lib.hid h2
  obtain ⟨b1, o1, cap1, rfl, -, -⟩ := h1
  obtain ⟨b2, o2, cap2, rfl, -, -⟩ := h2
  go_enter Try.func98, Try.ntmps98
  go_wp2_with (first
    | (refine wpm_box HM rfl 33 (.tmp 0) rfl _ rfl ?_; intro W hM; (try simp only [List.cons_append, List.nil_append, List.set_cons_succ, List.set_cons_zero, Nat.reduceAdd] at hM); replace HM := hM; clear hM; have k0 : W.cell? ⟨w.heap.size, 0, none⟩ = some (.slice (some ⟨b1, o1, none⟩) 33 cap1) := (HM.out.hb 0 _ _ _ rfl).cell (k := 0) rfl; have k1 : W.cell? ⟨w.heap.size, 1, none⟩ = some (.slice (some ⟨b2, o2, none⟩) 33 cap2) := (HM.out.hb 0 _ _ _ rfl).cell (k := 1) rfl))
  refine (row_ok _ (H1.out.below HM.out.bel)).mono ?_
  rintro e W2 ⟨rfl, rfl⟩
  go_wp2_with fail
  refine (row_ok _ (H2.out.below HM.out.bel)).mono ?_
  rintro e W3 ⟨rfl, rfl⟩
  have HC1 : Hid (∀ i : Nat, i < 33 → W3.cell? ⟨b1, o1 + i * 2, none⟩ = some (.int .i64 0)) := Lib.hid (by obtain ⟨_, _, _, e, _, h⟩ := H1.out.below HM.out.bel; injection e with e _ _; injection e with e; injection e with e1 e2 _; subst e1 e2; exact fun i hi => (h i hi).1)
  have HC2 : Hid (∀ i : Nat, i < 33 → W3.cell? ⟨b2, o2 + i * 2, none⟩ = some (.int .i64 0)) := Lib.hid (by obtain ⟨_, _, _, e, _, h⟩ := H2.out.below HM.out.bel; injection e with e _ _; injection e with e; injection e with e1 e2 _; subst e1 e2; exact fun i hi => (h i hi).1)
  go_wp2_with fail
  go_loopw [3] (fun iv wr => ∃ j n : Nat, j ≤ 33 ∧ iv = .int .i64 j ∧ wr = W3.drewN n) (fun iv _ => 33 - (intOf iv).toNat)
  case atStart => exact ⟨0, 0, by omega, rfl, rfl⟩
  case round =>
    obtain ⟨j, n, hj, rfl, rfl⟩ := hrel
    by_cases hlt : j < 33
    · have c1 := HC1.out j hlt
      have c2 := HC2.out j hlt
      have d0 : decide ((j : Int) < 33) = true := by simp; omega
      go_wp2_with fail
      go_quiet (fail)
      go_wp2_with fail
      go_roundw
      case rel => exact ⟨j + 1, _, hlt, rfl, rfl⟩
      case measure => simp [intOf]; omega
    · have e : j = 33 := by omega
      subst e
      go_wp2_with fail
      go_ret
      exact ⟨rfl, (HM.out.drewN n).bel⟩
/-- the cells of a world -/
def CellsV (P : Nat → Prop) (W : World) (v : Value) (l : List Int) : Prop := ∃ b o cap, v = .slice (some ⟨b, o, none⟩) 771 cap ∧ P b ∧ l.length = 771 ∧ (∀ (i : Nat) (x : Int), l[i]? = some x → W.cell? ⟨b, o + i, none⟩ = some (.int .i64 x)) ∧ ∀ x ∈ l, -1152921504606846976 ≤ x ∧ x ≤ 1152921504606846976
theorem CellsV.keep {P : Nat → Prop} {W W' : World} {v : Value} {l : List Int} (h : CellsV P W v l) (hk : ∀ b, P b → b < W.heap.size → W'.heap[b]? = W.heap[b]?) : CellsV P W' v l := by
  obtain ⟨b, o, cap, rfl, hp, hl, hc, hf⟩ := h
  exact ⟨b, o, cap, rfl, hp, hl, fun i x hi => (World.cell?_of_block (hk b hp (World.block_lt_of_cell? _ _ (hc i x hi)))).trans (hc i x hi), hf⟩
theorem CellsV.below {P : Nat → Prop} {W W' : World} {v : Value} {l : List Int} (h : CellsV P W v l) (hb : Below W.heap.size W W') : CellsV P W' v l := h.keep fun b _ hl => hb.block b hl
set_option maxHeartbeats 1000000 in
set_option maxRecDepth 100000 in
theorem check_world {P : Nat → Prop} {cv d1 d2 : Value} {l : List Int} (w : World) (h0 : CellsV P w cv l) (h1 : DiskV P w d1) (h2 : DiskV P w d2) : Calls Try.prog 96 #[.agg #[cv, d1, d2]] w fun e w' => e = .returned (.int .i64 0) ∧ Below w.heap.size w w' := by
  have HM := Lib.hid (Mem.start w)
  have H1 := Lib.hid h1
  have H2 := Lib.hid h2
  obtain ⟨b1, o1, cap1, rfl, -, -⟩ := h1
  obtain ⟨b2, o2, cap2, rfl, -, -⟩ := h2
  obtain ⟨b, o, cap, rfl, -, hl, hc, hf⟩ := h0
  have HL := Lib.hid hl
  have HC := Lib.hid hc
  have HF := Lib.hid hf
  clear hl hc hf
  go_enter Try.func96, Try.ntmps96
  go_wp2_with (first
    | (refine wpm_box HM rfl 35 (.tmp 0) rfl _ rfl ?_; intro W hM; (try simp only [List.cons_append, List.nil_append, List.set_cons_succ, List.set_cons_zero, Nat.reduceAdd] at hM); replace HM := hM; clear hM; have k0 : W.cell? ⟨w.heap.size, 0, none⟩ = some (.slice (some ⟨b, o, none⟩) 771 cap) := (HM.out.hb 0 _ _ _ rfl).cell (k := 0) rfl; have k1 : W.cell? ⟨w.heap.size, 1, none⟩ = some (.slice (some ⟨b1, o1, none⟩) 33 cap1) := (HM.out.hb 0 _ _ _ rfl).cell (k := 1) rfl; have k2 : W.cell? ⟨w.heap.size, 2, none⟩ = some (.slice (some ⟨b2, o2, none⟩) 33 cap2) := (HM.out.hb 0 _ _ _ rfl).cell (k := 2) rfl))
  go_loopw [3] (fun iv wr => ∃ j : Nat, j ≤ 771 ∧ iv = .int .i64 j ∧ wr = W) (fun iv _ => 771 - (intOf iv).toNat)
  case atStart => exact ⟨0, by omega, rfl, rfl⟩
  case round =>
    obtain ⟨j, hj, rfl, rfl⟩ := hrel
    by_cases hlt : j < 771
    · obtain ⟨x, hx⟩ : ∃ x, l[j]? = some x := ⟨l[j]'(by rw [HL.out]; exact hlt), List.getElem?_eq_getElem _⟩
      have c1 : wr.cell? ⟨b, o + j, none⟩ = some (.int .i64 x) := (HM.out.bel.cell (World.block_lt_of_cell? _ _ (HC.out j x hx))).trans (HC.out j x hx)
      have hfx := HF.out x (List.mem_of_getElem? hx)
      have d0 : decide ((j : Int) < 771) = true := by simp; omega
      clear hx
      go_wp2_with fail
      refine (fits_ok x _ hfx).mono ?_
      rintro e W4 ⟨rfl, rfl⟩
      go_wp2_with fail
      go_roundw
      case rel => exact ⟨j + 1, hlt, rfl, by trivial⟩
      case measure => simp [intOf]; omega
    · have e : j = 771 := by omega
      subst e
      go_wp2_with fail
      refine (check_disk _ (H1.out.below HM.out.bel) (H2.out.below HM.out.bel)).mono ?_
      rintro e W4 ⟨rfl, hb⟩
      replace HM := Lib.hid (HM.out.below hb)
      clear hb k0 k1 k2
      go_wp2_with fail
      go_ret
      exact ⟨rfl, HM.out.bel⟩
end Go.Proofs.Ytgpdknacnmapiaa
namespace Go.Proofs.Ytgpdknacnmapiaa
set_option linter.unusedVariables false
set_option linter.unusedSimpArgs false
open Go.RowKit
set_option maxHeartbeats 2000000 in
set_option maxRecDepth 100000 in
theorem may_w0 {P : Nat → Prop} {cv d1 d2 : Value} {l : List Int} (w : World) (h0 : CellsV P w cv l) (h1 : DiskV P w d1) (h2 : DiskV P w d2) (a bb v : Int) (ao : Option Addr) (ac : Nat) (ha : 0 ≤ a ∧ a < 771) (hb : -1152921504606846976 ≤ (0 : Int) ∧ (0 : Int) ≤ 1152921504606846976) (hv : -1152921504606846976 ≤ (0 : Int) ∧ (0 : Int) ≤ 1152921504606846976) :
    Calls Try.prog 73 #[.agg #[cv, d1, d2], .agg (acC 0 a (0 : Int) (0 : Int) 0 (.slice ao 0 ac))] w fun e w' => e = .returned (.bool true) ∧ Below w.heap.size w w' := by
  have HM := Lib.hid (Mem.start w)
  have H0 := Lib.hid h0
  have H1 := Lib.hid h1
  have H2 := Lib.hid h2
  have HV := Lib.hid hv
  have HB := Lib.hid hb
  have a1 : decide (a < 0) = false := by simp; omega
  have a2 : decide ((771 : Int) ≤ a) = false := by simp; omega
  obtain ⟨b1, o1, cap1, rfl, -, -⟩ := h1
  obtain ⟨b2, o2, cap2, rfl, -, -⟩ := h2
  obtain ⟨b, o, cap, rfl, -, -, -, -⟩ := h0
  clear ha hb hv
  go_enter Try.func73, Try.ntmps73
  go_wp2_with (first
    | (refine wpm_box HM rfl 35 (.tmp 0) rfl _ rfl ?_; intro W1 hM; (try simp only [List.cons_append, List.nil_append, List.set_cons_succ, List.set_cons_zero, Nat.reduceAdd] at hM); replace HM := hM; clear hM)
    | (refine wpm_box HM rfl 59 (.tmp 1) rfl _ rfl ?_; intro W hM; (try simp only [List.cons_append, List.nil_append, List.set_cons_succ, List.set_cons_zero, Nat.reduceAdd] at hM); replace HM := hM; clear hM; have k0 : W.cell? ⟨w.heap.size, 0, none⟩ = some (.slice (some ⟨b, o, none⟩) 771 cap) := (HM.out.hb 0 _ _ _ rfl).cell (k := 0) rfl; have k1 : W.cell? ⟨w.heap.size, 1, none⟩ = some (.slice (some ⟨b1, o1, none⟩) 33 cap1) := (HM.out.hb 0 _ _ _ rfl).cell (k := 1) rfl; have k2 : W.cell? ⟨w.heap.size, 2, none⟩ = some (.slice (some ⟨b2, o2, none⟩) 33 cap2) := (HM.out.hb 0 _ _ _ rfl).cell (k := 2) rfl))
  refine (check_world _ (H0.out.below HM.out.bel) (H1.out.below HM.out.bel) (H2.out.below HM.out.bel)).mono ?_
  rintro e W2 ⟨rfl, hb⟩
  replace HM := Lib.hid (HM.out.below hb)
  clear hb k0 k1 k2
  have k0 : W2.cell? ⟨w.heap.size, 0, none⟩ = some (.slice (some ⟨b, o, none⟩) 771 cap) := (HM.out.hb 0 _ _ _ rfl).cell (k := 0) rfl
  have i0 : W2.cell? ⟨W1.heap.size, 0, none⟩ = some (.int .i8 0) := (HM.out.hb 1 _ _ _ rfl).cell (k := 0) rfl
  have i1 : W2.cell? ⟨W1.heap.size, 1, none⟩ = some (.int .i64 a) := (HM.out.hb 1 _ _ _ rfl).cell (k := 1) rfl
  have i2 : W2.cell? ⟨W1.heap.size, 2, none⟩ = some (.int .i64 (0 : Int)) := (HM.out.hb 1 _ _ _ rfl).cell (k := 2) rfl
  have i3 : W2.cell? ⟨W1.heap.size, 3, none⟩ = some (.int .i64 (0 : Int)) := (HM.out.hb 1 _ _ _ rfl).cell (k := 3) rfl
  have i4 : W2.cell? ⟨W1.heap.size, 4, none⟩ = some (.int .i64 0) := (HM.out.hb 1 _ _ _ rfl).cell (k := 4) rfl
  have i5 : W2.cell? ⟨W1.heap.size, 5, none⟩ = some (.string ByteArray.empty) := (HM.out.hb 1 _ _ _ rfl).cell (k := 5) rfl
  have i6 : W2.cell? ⟨W1.heap.size, 6, none⟩ = some (.slice ao 0 ac) := (HM.out.hb 1 _ _ _ rfl).cell (k := 6) rfl
  go_wp2_with fail
  refine (fits_ok _ _ HB.out).mono ?_
  rintro e W3 ⟨rfl, rfl⟩
  go_wp2_with fail
  refine (fits_ok _ _ HV.out).mono ?_
  rintro e W4 ⟨rfl, rfl⟩
  go_wp2_with fail
  go_ret
  exact ⟨rfl, HM.out.bel⟩
set_option maxHeartbeats 2000000 in
set_option maxRecDepth 100000 in
theorem may_w1 {P : Nat → Prop} {cv d1 d2 : Value} {l : List Int} (w : World) (h0 : CellsV P w cv l) (h1 : DiskV P w d1) (h2 : DiskV P w d2) (a bb v : Int) (ao : Option Addr) (ac : Nat) (ha : 0 ≤ a ∧ a < 771) (hb : -1152921504606846976 ≤ (0 : Int) ∧ (0 : Int) ≤ 1152921504606846976) (hv : -1152921504606846976 ≤ v ∧ v ≤ 1152921504606846976) :
    Calls Try.prog 73 #[.agg #[cv, d1, d2], .agg (acC 1 a (0 : Int) v 0 (.slice ao 0 ac))] w fun e w' => e = .returned (.bool true) ∧ Below w.heap.size w w' := by
  have HM := Lib.hid (Mem.start w)
  have H0 := Lib.hid h0
  have H1 := Lib.hid h1
  have H2 := Lib.hid h2
  have HV := Lib.hid hv
  have HB := Lib.hid hb
  have a1 : decide (a < 0) = false := by simp; omega
  have a2 : decide ((771 : Int) ≤ a) = false := by simp; omega
  obtain ⟨b1, o1, cap1, rfl, -, -⟩ := h1
  obtain ⟨b2, o2, cap2, rfl, -, -⟩ := h2
  obtain ⟨b, o, cap, rfl, -, -, -, -⟩ := h0
  clear ha hb hv
  go_enter Try.func73, Try.ntmps73
  go_wp2_with (first
    | (refine wpm_box HM rfl 35 (.tmp 0) rfl _ rfl ?_; intro W1 hM; (try simp only [List.cons_append, List.nil_append, List.set_cons_succ, List.set_cons_zero, Nat.reduceAdd] at hM); replace HM := hM; clear hM)
    | (refine wpm_box HM rfl 59 (.tmp 1) rfl _ rfl ?_; intro W hM; (try simp only [List.cons_append, List.nil_append, List.set_cons_succ, List.set_cons_zero, Nat.reduceAdd] at hM); replace HM := hM; clear hM; have k0 : W.cell? ⟨w.heap.size, 0, none⟩ = some (.slice (some ⟨b, o, none⟩) 771 cap) := (HM.out.hb 0 _ _ _ rfl).cell (k := 0) rfl; have k1 : W.cell? ⟨w.heap.size, 1, none⟩ = some (.slice (some ⟨b1, o1, none⟩) 33 cap1) := (HM.out.hb 0 _ _ _ rfl).cell (k := 1) rfl; have k2 : W.cell? ⟨w.heap.size, 2, none⟩ = some (.slice (some ⟨b2, o2, none⟩) 33 cap2) := (HM.out.hb 0 _ _ _ rfl).cell (k := 2) rfl))
  refine (check_world _ (H0.out.below HM.out.bel) (H1.out.below HM.out.bel) (H2.out.below HM.out.bel)).mono ?_
  rintro e W2 ⟨rfl, hb⟩
  replace HM := Lib.hid (HM.out.below hb)
  clear hb k0 k1 k2
  have k0 : W2.cell? ⟨w.heap.size, 0, none⟩ = some (.slice (some ⟨b, o, none⟩) 771 cap) := (HM.out.hb 0 _ _ _ rfl).cell (k := 0) rfl
  have i0 : W2.cell? ⟨W1.heap.size, 0, none⟩ = some (.int .i8 1) := (HM.out.hb 1 _ _ _ rfl).cell (k := 0) rfl
  have i1 : W2.cell? ⟨W1.heap.size, 1, none⟩ = some (.int .i64 a) := (HM.out.hb 1 _ _ _ rfl).cell (k := 1) rfl
  have i2 : W2.cell? ⟨W1.heap.size, 2, none⟩ = some (.int .i64 (0 : Int)) := (HM.out.hb 1 _ _ _ rfl).cell (k := 2) rfl
  have i3 : W2.cell? ⟨W1.heap.size, 3, none⟩ = some (.int .i64 v) := (HM.out.hb 1 _ _ _ rfl).cell (k := 3) rfl
  have i4 : W2.cell? ⟨W1.heap.size, 4, none⟩ = some (.int .i64 0) := (HM.out.hb 1 _ _ _ rfl).cell (k := 4) rfl
  have i5 : W2.cell? ⟨W1.heap.size, 5, none⟩ = some (.string ByteArray.empty) := (HM.out.hb 1 _ _ _ rfl).cell (k := 5) rfl
  have i6 : W2.cell? ⟨W1.heap.size, 6, none⟩ = some (.slice ao 0 ac) := (HM.out.hb 1 _ _ _ rfl).cell (k := 6) rfl
  go_wp2_with fail
  refine (fits_ok _ _ HB.out).mono ?_
  rintro e W3 ⟨rfl, rfl⟩
  go_wp2_with fail
  refine (fits_ok _ _ HV.out).mono ?_
  rintro e W4 ⟨rfl, rfl⟩
  go_wp2_with fail
  go_ret
  exact ⟨rfl, HM.out.bel⟩
end Go.Proofs.Ytgpdknacnmapiaa
