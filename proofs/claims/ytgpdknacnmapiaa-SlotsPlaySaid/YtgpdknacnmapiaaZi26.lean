/-
  Parts of a proof, put together: Us, Hv.
-/
import Derived.Test.YtgpdknacnmapiaaZi01
import Derived.Test.YtgpdknacnmapiaaZi02
import Derived.Test.YtgpdknacnmapiaaZi03
import Derived.Test.YtgpdknacnmapiaaZi04
import Derived.Test.YtgpdknacnmapiaaZi05
import Derived.Test.YtgpdknacnmapiaaZi06
import Derived.Test.YtgpdknacnmapiaaZi07
import Derived.Test.YtgpdknacnmapiaaZi08
import Derived.Test.YtgpdknacnmapiaaZi09
import Derived.Test.YtgpdknacnmapiaaZi10
import Derived.Test.YtgpdknacnmapiaaZi11
import Derived.Test.YtgpdknacnmapiaaZi12
import Derived.Test.YtgpdknacnmapiaaZi13
import Derived.Test.YtgpdknacnmapiaaZi14
import Derived.Test.YtgpdknacnmapiaaZi15
import Derived.Test.YtgpdknacnmapiaaZi16
import Derived.Test.YtgpdknacnmapiaaZi17
import Derived.Test.YtgpdknacnmapiaaZi18
import Derived.Test.YtgpdknacnmapiaaZi19
import Derived.Test.YtgpdknacnmapiaaZi20
import Derived.Test.YtgpdknacnmapiaaZi21
import Derived.Test.YtgpdknacnmapiaaZi22
import Derived.Test.YtgpdknacnmapiaaZi23
import Derived.Test.YtgpdknacnmapiaaZi24
import Derived.Test.YtgpdknacnmapiaaZi25
import Derived.Deep.QuietTactic
namespace Go.Proofs.Ytgpdknacnmapiaa
set_option linter.unusedVariables false
set_option linter.unusedSimpArgs false
open Go.RowKit
open Go
def most (nd : Bool) : Nat := if nd then 160 else 16
theorem most_le (nd : Bool) : most nd ≤ 160 := by unfold most; split <;> omega
theorem genC_most (nd : Bool) (s : Nat) (hs : s < most nd) : genC (s : Int) nd = (gk nd s : Nat) := by
  unfold most at hs
  unfold genC gk
  cases nd <;> simp at hs ⊢ <;> omega
theorem genC_end (nd : Bool) : genC ((most nd : Nat) : Int) nd = -1 := by
  unfold genC most
  cases nd <;> simp
theorem gk_most (nd : Bool) (s : Nat) (hs : s < most nd) : gk nd s < 771 := by
  unfold most at hs
  unfold gk
  cases nd <;> simp at hs ⊢ <;> omega
/-- the slots below j that are in use -/
def usedL (l : List Int) (nd : Bool) : Nat → List Int
  | 0 => []
  | j + 1 => if l.getD (gk nd j) 0 % 2 = 1 then usedL l nd j ++ [(j : Int)] else usedL l nd j
theorem usedL_len (l : List Int) (nd : Bool) : ∀ j, (usedL l nd j).length ≤ j
  | 0 => Nat.le_refl _
  | j + 1 => by
    have := usedL_len l nd j
    unfold usedL
    split
    · simp; omega
    · omega
theorem AllV.form2 {R : Nat} {W : World} {v : Value} {hs : List Int} (h : AllV R W v hs) : ∃ ao cap, v = .slice ao hs.length cap := by
  rcases h.2 with ⟨rfl, h0⟩ | ⟨g, cap, cur, rfl, -⟩
  · exact ⟨none, 0, by rw [h0]⟩
  · exact ⟨_, _, rfl⟩
theorem AllV.ints {R : Nat} {W : World} {v : Value} {hs : List Int} (h : AllV R W v hs) : Ints 0 W v hs := by
  have h2 := h
  rcases h2.2 with ⟨rfl, h0⟩ | ⟨g, cap, cur, rfl, -, -, h3, -⟩
  · refine ⟨none, 0, by rw [h0], by omega, fun i x hx => ?_⟩
    have : i < hs.length := (List.getElem?_eq_some_iff.1 hx).1
    omega
  · refine ⟨_, _, rfl, h3, fun i x hx => ?_⟩
    obtain ⟨g', cap', e, hc⟩ := h.get i x hx
    injection e with e1 e2 e3
    injection e1 with e1
    injection e1 with e1
    subst e1
    exact ⟨g, 0, rfl, Nat.zero_le _, by rw [Nat.zero_add]; exact hc⟩
theorem below_pushI {w wr w' : World} {v : Value} {hs : List Int} (hB : Below w.heap.size w wr) (hs0 : 0 < w.heap.size) (hA : AllV (w.heap.size - 1) wr v hs) (hg : wr.grownBy w' v.ownBlock) : Below w.heap.size w w' :=
  ⟨hg.os.trans hB.os, hg.tape.trans hB.tape, hg.output.trans hB.output, Nat.le_trans hB.size hg.size, fun b hb => (hg.block b (Nat.lt_of_lt_of_le hb hB.size) (fun e => by have := hA.lt b e; omega)).trans (hB.block b hb)⟩
set_option maxHeartbeats 1000000 in
set_option maxRecDepth 100000 in
theorem used_p {P : Nat → Prop} {cv : Value} {l : List Int} (nd : Bool) (w : World) (hC : CellsV P w cv l) : Calls Try.prog 30 #[cv, .bool nd] w fun e w' => (∃ v, e = .returned v ∧ AllV (w.heap.size - 1) w' v (usedL l nd (most nd))) ∧ Below w.heap.size w w' := by
  obtain ⟨b, o, cap, rfl, -, hl, hc, -⟩ := hC
  have hsz : 0 < w.heap.size := by
    have := World.block_lt_of_cell? _ _ (hc 0 _ (List.getElem?_eq_getElem (by omega)))
    omega
  have HC := Lib.hid hc
  have HL := Lib.hid hl
  have HS := Lib.hid hsz
  obtain ⟨M, hM⟩ : ∃ M, most nd = M := ⟨_, rfl⟩
  have HM := Lib.hid hM
  have hM160 : M ≤ 160 := by rw [← hM]; exact most_le nd
  rw [hM]
  clear hl hc hsz hM
  go_enter Try.func30, Try.ntmps30
  go_wp2_with fail
  go_loopw [4, 5] (fun ov iv wr => ∃ j : Nat, j ≤ M ∧ iv = .int .i64 j ∧ Below w.heap.size w wr ∧ AllV (w.heap.size - 1) wr ov (usedL l nd j)) (fun _ iv _ => M - (intOf iv).toNat)
  case atStart => exact ⟨0, Nat.zero_le _, rfl, Below.refl _ _, AllV.nil _ _⟩
  case round =>
    obtain ⟨j, hj, rfl, hb, ha⟩ := hrel
    obtain ⟨ao, acap, rfl⟩ := ha.form2
    have HB := Lib.hid hb
    have HA := Lib.hid ha
    have HUL := Lib.hid (usedL_len l nd j)
    clear hb ha
    by_cases hlt : j < M
    · have HCP : Hid (∀ w, Calls Try.prog 56 #[.int .i64 j, .int .i64 0, .bool nd] w fun e w' => e = .returned (.int .i64 (gk nd j : Nat)) ∧ w' = w) := Lib.hid (fun w => by
        have := cell_p j nd w ⟨by omega, by omega⟩
        rwa [show (j : Int) % 256 = j by omega, genC_most nd j (by rw [HM.out]; exact hlt)] at this)
      have hk := gk_most nd j (by rw [HM.out]; exact hlt)
      obtain ⟨x, hx⟩ : ∃ x, l[gk nd j]? = some x := ⟨_, List.getElem?_eq_getElem (by rw [HL.out]; exact hk)⟩
      have HX : Hid (usedL l nd (j + 1) = if x % 2 = 1 then usedL l nd j ++ [(j : Int)] else usedL l nd j) := Lib.hid (by
        show (if l.getD (gk nd j) 0 % 2 = 1 then _ else _) = _
        rw [List.getD_eq_getElem?_getD, hx]; rfl)
      have cx := HB.out.cell (World.block_lt_of_cell? _ _ (HC.out _ x hx))
      rw [HC.out _ x hx] at cx
      generalize gk nd j = k at *
      have dk : decide ((0 : Int) ≤ (k : Int)) = true := by simp
      have j255 : ((j : Int) == 255) = false := by rw [beq_eq_false_iff_ne]; omega
      have ea := and_1 x
      clear hx
      by_cases hp : x % 2 = 1
      · have ep : (x % 2 == 1) = true := by rw [hp]; rfl
        have HN : Hid (usedL l nd (j + 1) = usedL l nd j ++ [(j : Int)]) := Lib.hid (by rw [HX.out, if_pos hp])
        clear hp
        go_wp2_with fail
        refine (HCP.out _).mono ?_
        rintro e W1 ⟨rfl, rfl⟩
        go_wp2_with fail
        refine (HCP.out _).mono ?_
        rintro e W2 ⟨rfl, rfl⟩
        have HBa : Hid (Below W2.heap.size W2 (W2.alloc (.cells #[.int .i64 j] 3))) := Lib.hid ((Below.refl _ _).alloc (Nat.le_refl _) _)
        have HAx := Lib.hid (HA.out.below HBa.out)
        have HBx := Lib.hid (HB.out.alloc HB.out.size (.cells #[.int .i64 j] 3))
        go_wp2_with (refine wp_pushI rfl (.tmp 23) (.tmp 25) rfl (w.heap.size - 1) _ (usedL l nd j) rfl HAx.out (by have := HBx.out.size; have := HS.out; omega) W2.heap.size 1 rfl j (by simp [go_sem]) (by have := HUL.out; omega) ?_; intro W8 av8 hA8 hob hgr; have HA8 := Lib.hid hA8; have HB8 := Lib.hid (below_pushI HBx.out HS.out HAx.out hgr); clear hA8 hob hgr)
        go_roundw
        case rel => exact ⟨j + 1, hlt, rfl, HB8.out, by rw [HN.out]; exact HA8.out⟩
        case measure => simp [intOf]; omega
      · have ep : (x % 2 == 1) = false := by rw [beq_eq_false_iff_ne]; exact hp
        have HN : Hid (usedL l nd (j + 1) = usedL l nd j) := Lib.hid (by rw [HX.out, if_neg hp])
        clear hp
        go_wp2_with fail
        refine (HCP.out _).mono ?_
        rintro e W1 ⟨rfl, rfl⟩
        go_wp2_with fail
        refine (HCP.out _).mono ?_
        rintro e W2 ⟨rfl, rfl⟩
        go_wp2_with fail
        go_roundw
        case rel => exact ⟨j + 1, hlt, rfl, HB.out, by rw [HN.out]; exact HA.out⟩
        case measure => simp [intOf]; omega
    · have e : j = M := by omega
      subst e
      have HCP : Hid (∀ w, Calls Try.prog 56 #[.int .i64 j, .int .i64 0, .bool nd] w fun e w' => e = .returned (.int .i64 (-1)) ∧ w' = w) := Lib.hid (fun w => by
        have := cell_p j nd w ⟨by omega, by omega⟩
        rwa [show (j : Int) % 256 = j by omega, ← HM.out, genC_end nd, HM.out] at this)
      go_wp2_with fail
      refine (HCP.out _).mono ?_
      rintro e W1 ⟨rfl, rfl⟩
      go_wp2_with fail
      go_ret
      exact ⟨⟨_, rfl, HA.out⟩, HB.out⟩
set_option maxHeartbeats 1000000 in
set_option maxRecDepth 100000 in
theorem used_r_true {P : Nat → Prop} {cv : Value} {l : List Int} (w : World) (hC : CellsV P w cv l) : Calls Try.prog 31 #[cv, .bool true] w fun e w' => (∃ v, e = .returned v ∧ AllV (w.heap.size - 1) w' v (usedL l true (most true))) ∧ Below w.heap.size w w' := by
  obtain ⟨b, o, cap, rfl, -, hl, hc, -⟩ := hC
  have hsz : 0 < w.heap.size := by
    have := World.block_lt_of_cell? _ _ (hc 0 _ (List.getElem?_eq_getElem (by omega)))
    omega
  have HC := Lib.hid hc
  have HL := Lib.hid hl
  have HS := Lib.hid hsz
  obtain ⟨M, hM⟩ : ∃ M, most true = M := ⟨_, rfl⟩
  have HM := Lib.hid hM
  have hM160 : M ≤ 160 := by rw [← hM]; exact most_le _
  have eM : (M : Int) = 160 := by rw [← hM]; rfl
  rw [hM]
  clear hl hc hsz hM
  go_enter Try.func31, Try.ntmps31
  go_wp2_with fail
  rw [← eM]
  clear eM
  go_loopw [6, 7] (fun ov iv wr => ∃ j : Nat, j ≤ M ∧ iv = .int .i64 j ∧ Below w.heap.size w wr ∧ AllV (w.heap.size - 1) wr ov (usedL l true j)) (fun _ iv _ => M - (intOf iv).toNat)
  case atStart => exact ⟨0, Nat.zero_le _, rfl, Below.refl _ _, AllV.nil _ _⟩
  case round =>
    obtain ⟨j, hj, rfl, hb, ha⟩ := hrel
    obtain ⟨ao, acap, rfl⟩ := ha.form2
    have HB := Lib.hid hb
    have HA := Lib.hid ha
    have HUL := Lib.hid (usedL_len l true j)
    clear hb ha
    by_cases hlt : j < M
    · have dj : decide ((j : Int) < (M : Int)) = true := by simp; omega
      have HCP : Hid (∀ w, Calls Try.prog 27 #[.int .i64 j, .int .i64 0, .bool true] w fun e w' => e = .returned (.int .i64 (gk true j : Nat)) ∧ w' = w) := Lib.hid (fun w => by
        have := cell_r j true w ⟨by omega, by omega⟩
        rwa [show (j : Int) % 256 = j by omega, genC_most true j (by rw [HM.out]; exact hlt)] at this)
      have hk := gk_most true j (by rw [HM.out]; exact hlt)
      obtain ⟨x, hx⟩ : ∃ x, l[gk true j]? = some x := ⟨_, List.getElem?_eq_getElem (by rw [HL.out]; exact hk)⟩
      have HX : Hid (usedL l true (j + 1) = if x % 2 = 1 then usedL l true j ++ [(j : Int)] else usedL l true j) := Lib.hid (by
        show (if l.getD (gk true j) 0 % 2 = 1 then _ else _) = _
        rw [List.getD_eq_getElem?_getD, hx]; rfl)
      have cx := HB.out.cell (World.block_lt_of_cell? _ _ (HC.out _ x hx))
      rw [HC.out _ x hx] at cx
      generalize gk true j = k at *
      have ea := and_1 x
      clear hx
      by_cases hp : x % 2 = 1
      · have ep : (x % 2 == 1) = true := by rw [hp]; rfl
        have HN : Hid (usedL l true (j + 1) = usedL l true j ++ [(j : Int)]) := Lib.hid (by rw [HX.out, if_pos hp])
        clear hp
        go_wp2_with fail
        refine (HCP.out _).mono ?_
        rintro e W1 ⟨rfl, rfl⟩
        have HBa : Hid (Below W1.heap.size W1 (W1.alloc (.cells #[.int .i64 j] 3))) := Lib.hid ((Below.refl _ _).alloc (Nat.le_refl _) _)
        have HAx := Lib.hid (HA.out.below HBa.out)
        have HBx := Lib.hid (HB.out.alloc HB.out.size (.cells #[.int .i64 j] 3))
        go_wp2_with (refine wp_pushI rfl (.tmp 26) (.tmp 28) rfl (w.heap.size - 1) _ (usedL l true j) rfl HAx.out (by have := HBx.out.size; have := HS.out; omega) W1.heap.size 1 rfl j (by simp [go_sem]) (by have := HUL.out; omega) ?_; intro W8 av8 hA8 hob hgr; have HA8 := Lib.hid hA8; have HB8 := Lib.hid (below_pushI HBx.out HS.out HAx.out hgr); clear hA8 hob hgr)
        go_roundw
        case rel => exact ⟨j + 1, hlt, rfl, HB8.out, by rw [HN.out]; exact HA8.out⟩
        case measure => simp [intOf]; omega
      · have ep : (x % 2 == 1) = false := by rw [beq_eq_false_iff_ne]; exact hp
        have HN : Hid (usedL l true (j + 1) = usedL l true j) := Lib.hid (by rw [HX.out, if_neg hp])
        clear hp
        go_wp2_with fail
        refine (HCP.out _).mono ?_
        rintro e W1 ⟨rfl, rfl⟩
        go_wp2_with fail
        go_roundw
        case rel => exact ⟨j + 1, hlt, rfl, HB.out, by rw [HN.out]; exact HA.out⟩
        case measure => simp [intOf]; omega
    · have e : j = M := by omega
      subst e
      have dj : decide ((j : Int) < (j : Int)) = false := by simp
      go_wp2_with fail
      go_ret
      exact ⟨⟨_, rfl, HA.out⟩, HB.out⟩
set_option maxHeartbeats 1000000 in
set_option maxRecDepth 100000 in
theorem used_r_false {P : Nat → Prop} {cv : Value} {l : List Int} (w : World) (hC : CellsV P w cv l) : Calls Try.prog 31 #[cv, .bool false] w fun e w' => (∃ v, e = .returned v ∧ AllV (w.heap.size - 1) w' v (usedL l false (most false))) ∧ Below w.heap.size w w' := by
  obtain ⟨b, o, cap, rfl, -, hl, hc, -⟩ := hC
  have hsz : 0 < w.heap.size := by
    have := World.block_lt_of_cell? _ _ (hc 0 _ (List.getElem?_eq_getElem (by omega)))
    omega
  have HC := Lib.hid hc
  have HL := Lib.hid hl
  have HS := Lib.hid hsz
  obtain ⟨M, hM⟩ : ∃ M, most false = M := ⟨_, rfl⟩
  have HM := Lib.hid hM
  have hM160 : M ≤ 160 := by rw [← hM]; exact most_le _
  have eM : (M : Int) = 16 := by rw [← hM]; rfl
  rw [hM]
  clear hl hc hsz hM
  go_enter Try.func31, Try.ntmps31
  go_wp2_with fail
  rw [← eM]
  clear eM
  go_loopw [6, 7] (fun ov iv wr => ∃ j : Nat, j ≤ M ∧ iv = .int .i64 j ∧ Below w.heap.size w wr ∧ AllV (w.heap.size - 1) wr ov (usedL l false j)) (fun _ iv _ => M - (intOf iv).toNat)
  case atStart => exact ⟨0, Nat.zero_le _, rfl, Below.refl _ _, AllV.nil _ _⟩
  case round =>
    obtain ⟨j, hj, rfl, hb, ha⟩ := hrel
    obtain ⟨ao, acap, rfl⟩ := ha.form2
    have HB := Lib.hid hb
    have HA := Lib.hid ha
    have HUL := Lib.hid (usedL_len l false j)
    clear hb ha
    by_cases hlt : j < M
    · have dj : decide ((j : Int) < (M : Int)) = true := by simp; omega
      have HCP : Hid (∀ w, Calls Try.prog 27 #[.int .i64 j, .int .i64 0, .bool false] w fun e w' => e = .returned (.int .i64 (gk false j : Nat)) ∧ w' = w) := Lib.hid (fun w => by
        have := cell_r j false w ⟨by omega, by omega⟩
        rwa [show (j : Int) % 256 = j by omega, genC_most false j (by rw [HM.out]; exact hlt)] at this)
      have hk := gk_most false j (by rw [HM.out]; exact hlt)
      obtain ⟨x, hx⟩ : ∃ x, l[gk false j]? = some x := ⟨_, List.getElem?_eq_getElem (by rw [HL.out]; exact hk)⟩
      have HX : Hid (usedL l false (j + 1) = if x % 2 = 1 then usedL l false j ++ [(j : Int)] else usedL l false j) := Lib.hid (by
        show (if l.getD (gk false j) 0 % 2 = 1 then _ else _) = _
        rw [List.getD_eq_getElem?_getD, hx]; rfl)
      have cx := HB.out.cell (World.block_lt_of_cell? _ _ (HC.out _ x hx))
      rw [HC.out _ x hx] at cx
      generalize gk false j = k at *
      have ea := and_1 x
      clear hx
      by_cases hp : x % 2 = 1
      · have ep : (x % 2 == 1) = true := by rw [hp]; rfl
        have HN : Hid (usedL l false (j + 1) = usedL l false j ++ [(j : Int)]) := Lib.hid (by rw [HX.out, if_pos hp])
        clear hp
        go_wp2_with fail
        refine (HCP.out _).mono ?_
        rintro e W1 ⟨rfl, rfl⟩
        have HBa : Hid (Below W1.heap.size W1 (W1.alloc (.cells #[.int .i64 j] 3))) := Lib.hid ((Below.refl _ _).alloc (Nat.le_refl _) _)
        have HAx := Lib.hid (HA.out.below HBa.out)
        have HBx := Lib.hid (HB.out.alloc HB.out.size (.cells #[.int .i64 j] 3))
        go_wp2_with (refine wp_pushI rfl (.tmp 26) (.tmp 28) rfl (w.heap.size - 1) _ (usedL l false j) rfl HAx.out (by have := HBx.out.size; have := HS.out; omega) W1.heap.size 1 rfl j (by simp [go_sem]) (by have := HUL.out; omega) ?_; intro W8 av8 hA8 hob hgr; have HA8 := Lib.hid hA8; have HB8 := Lib.hid (below_pushI HBx.out HS.out HAx.out hgr); clear hA8 hob hgr)
        go_roundw
        case rel => exact ⟨j + 1, hlt, rfl, HB8.out, by rw [HN.out]; exact HA8.out⟩
        case measure => simp [intOf]; omega
      · have ep : (x % 2 == 1) = false := by rw [beq_eq_false_iff_ne]; exact hp
        have HN : Hid (usedL l false (j + 1) = usedL l false j) := Lib.hid (by rw [HX.out, if_neg hp])
        clear hp
        go_wp2_with fail
        refine (HCP.out _).mono ?_
        rintro e W1 ⟨rfl, rfl⟩
        go_wp2_with fail
        go_roundw
        case rel => exact ⟨j + 1, hlt, rfl, HB.out, by rw [HN.out]; exact HA.out⟩
        case measure => simp [intOf]; omega
    · have e : j = M := by omega
      subst e
      have dj : decide ((j : Int) < (j : Int)) = false := by simp
      go_wp2_with fail
      go_ret
      exact ⟨⟨_, rfl, HA.out⟩, HB.out⟩
end Go.Proofs.Ytgpdknacnmapiaa
namespace Go.Proofs.Ytgpdknacnmapiaa
set_option linter.unusedVariables false
set_option linter.unusedSimpArgs false
open Go.RowKit
/-- what a client's place holds: its slices (2c: handles, 2c+1: nodes), what it does -/
structure HV where
  sl : Nat → Value
  dc : Nat → Int
  dd : Nat → Int
  dn : Nat → Int
structure HavA (C : Array Value) (h : HV) : Prop where
  size : C.size = 20
  hl : ∀ c, c < 4 → C[c * 5]? = some (h.sl (2 * c))
  nl : ∀ c, c < 4 → C[c * 5 + 1]? = some (h.sl (2 * c + 1))
  dc : ∀ c, c < 4 → C[c * 5 + 2]? = some (.int .i64 (h.dc c))
  dd : ∀ c, c < 4 → C[c * 5 + 3]? = some (.int .i64 (h.dd c))
  dn : ∀ c, c < 4 → C[c * 5 + 4]? = some (.int .i64 (h.dn c))
def HV.setS (h : HV) (i : Nat) (v : Value) : HV := { h with sl := upd h.sl i v }
def HV.setD (h : HV) (c : Nat) (a b d : Int) : HV := { h with dc := upd h.dc c a, dd := upd h.dd c b, dn := upd h.dn c d }
theorem HavA.setH {C : Array Value} {h : HV} (hA : HavA C h) (c : Nat) (hc : c < 4) (v : Value) : HavA (C.setIfInBounds (c * 5) v) (h.setS (2 * c) v) := by
  have hs := hA.size
  refine ⟨by simp [hs], fun d hd => ?_, fun d hd => ?_, fun d hd => ?_, fun d hd => ?_, fun d hd => ?_⟩ <;> simp only [HV.setS, upd] <;> rw [Array.getElem?_setIfInBounds]
  · by_cases e : d = c
    · subst e; rw [if_pos rfl, if_pos (by omega), if_pos rfl]
    · rw [if_neg (by omega), if_neg (by omega)]; exact hA.hl d hd
  · rw [if_neg (by omega), if_neg (by omega)]; exact hA.nl d hd
  · rw [if_neg (by omega)]; exact hA.dc d hd
  · rw [if_neg (by omega)]; exact hA.dd d hd
  · rw [if_neg (by omega)]; exact hA.dn d hd
theorem HavA.setN {C : Array Value} {h : HV} (hA : HavA C h) (c : Nat) (hc : c < 4) (v : Value) : HavA (C.setIfInBounds (c * 5 + 1) v) (h.setS (2 * c + 1) v) := by
  have hs := hA.size
  refine ⟨by simp [hs], fun d hd => ?_, fun d hd => ?_, fun d hd => ?_, fun d hd => ?_, fun d hd => ?_⟩ <;> simp only [HV.setS, upd] <;> rw [Array.getElem?_setIfInBounds]
  · rw [if_neg (by omega), if_neg (by omega)]; exact hA.hl d hd
  · by_cases e : d = c
    · subst e; rw [if_pos rfl, if_pos (by omega), if_pos rfl]
    · rw [if_neg (by omega), if_neg (by omega)]; exact hA.nl d hd
  · rw [if_neg (by omega)]; exact hA.dc d hd
  · rw [if_neg (by omega)]; exact hA.dd d hd
  · rw [if_neg (by omega)]; exact hA.dn d hd
theorem HavA.setD {C : Array Value} {h : HV} (hA : HavA C h) (c : Nat) (hc : c < 4) (x y z : Int) : HavA (setAll C (c * 5 + 2) [.int .i64 x, .int .i64 y, .int .i64 z]) (h.setD c x y z) := by
  have hs := hA.size
  refine ⟨by rw [setAll_size, hs], fun d hd => ?_, fun d hd => ?_, fun d hd => ?_, fun d hd => ?_, fun d hd => ?_⟩
  · rw [setAll_out _ _ _ _ (by simp; omega)]; exact hA.hl d hd
  · rw [setAll_out _ _ _ _ (by simp; omega)]; exact hA.nl d hd
  · simp only [HV.setD, upd]
    by_cases e : d = c
    · subst e; rw [if_pos rfl]; exact setAll_in [.int .i64 x, .int .i64 y, .int .i64 z] C (d * 5 + 2) 0 (by simp; omega) (by simp)
    · rw [if_neg e, setAll_out _ _ _ _ (by simp; omega)]; exact hA.dc d hd
  · simp only [HV.setD, upd]
    by_cases e : d = c
    · subst e; rw [if_pos rfl]; exact setAll_in [.int .i64 x, .int .i64 y, .int .i64 z] C (d * 5 + 2) 1 (by simp; omega) (by simp)
    · rw [if_neg e, setAll_out _ _ _ _ (by simp; omega)]; exact hA.dd d hd
  · simp only [HV.setD, upd]
    by_cases e : d = c
    · subst e; rw [if_pos rfl]; exact setAll_in [.int .i64 x, .int .i64 y, .int .i64 z] C (d * 5 + 2) 2 (by simp; omega) (by simp)
    · rw [if_neg e, setAll_out _ _ _ _ (by simp; omega)]; exact hA.dn d hd
theorem inf69 : (Try.prog.info? 69).map (·.size) = some 3 := by kernel_rfl
theorem und69 : ∃ fs, Try.prog.underlying 69 = some (.struct fs) := ⟨_, Try.underlying69⟩
def have0 : Array Value := #[.slice none 0 0, .slice none 0 0, .int .i64 0, .int .i64 0, .int .i64 0, .slice none 0 0, .slice none 0 0, .int .i64 0, .int .i64 0, .int .i64 0, .slice none 0 0, .slice none 0 0, .int .i64 0, .int .i64 0, .int .i64 0, .slice none 0 0, .slice none 0 0, .int .i64 0, .int .i64 0, .int .i64 0]
theorem zer72 (w : World) : (zeroValue 72).run Try.prog w = .ok (.agg have0) w := by kernel_rfl
def hv0 : HV := ⟨fun _ => .slice none 0 0, fun _ => 0, fun _ => 0, fun _ => 0⟩
theorem have0_ok : HavA have0 hv0 := by
  refine ⟨rfl, fun c hc => ?_, fun c hc => ?_, fun c hc => ?_, fun c hc => ?_, fun c hc => ?_⟩ <;> rcases (by omega : c = 0 ∨ c = 1 ∨ c = 2 ∨ c = 3) with rfl | rfl | rfl | rfl <;> rfl
theorem lv67 (w : World) (ad : Addr) (v : Value) (h : w.cell? ad = some v) : (loadVar 67 ad).run Try.prog w = .ok v w := by simp [go_sem, loadVar, h]
theorem wpOm_stD {X : Nat → Prop} {w0 w : World} {L : List (Nat × Array Value × TypeId)} {o : Oper} {a : Act} {Q : Exit → Act → World → Prop} {K : Act → World → Prop} {h : HV} {C : Array Value} {t0 : TypeId}
    (HM : Hid (Mem X w0 w L)) (HA : Hid (HavA C h)) (x y : Operand) (ho : o.op = .store 69 x y) (hd : o.dst = none) (i : Nat) {b : Nat} (hi : L[i]? = some (b, C, t0)) (c : Nat) (hc : c < 4) (p q r : Int) (hx : a.eval x = .pointer (some ⟨b, c * 5 + 2, none⟩)) (hy : a.eval y = .agg #[.int .i64 p, .int .i64 q, .int .i64 r])
    (hk : ∀ W C', Hid (HavA C' (h.setD c p q r)) → Hid (Mem X w0 W (L.set i (b, C', t0))) → K a W) : o.wp Try.prog a w K Q :=
  wpOm_stm HM 69 x y ho hd i _ hi #[.int .i64 p, .int .i64 q, .int .i64 r] hx hy 3 inf69 rfl (by rw [HA.out.size]; omega) (by simp [Value.oneCell']) fun W hM => hk W _ (Lib.hid (HA.out.setD c hc p q r)) hM
end Go.Proofs.Ytgpdknacnmapiaa
