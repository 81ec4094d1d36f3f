/-
  Is a handle live (chapter 14's Live); what the programs do, both at once.
-/
import Derived.Test.YtgpdknacnmapiaaWk
import Derived.Test.YtgpdknacnmapiaaCk
import Derived.Deep.QuietTactic
namespace Go.Proofs.Ytgpdknacnmapiaa
set_option linter.unusedVariables false
set_option linter.unusedSimpArgs false
open Go.RowKit
theorem field_p (h : Int) (w : World) (hh : 0 ≤ h ∧ h ≤ 1000000) : Calls Try.prog 88 #[.int .i64 h, .int .i64 8, .int .i64 12] w fun e w' => e = .returned (.int .i64 (h / 256 % 4096)) ∧ ∃ n, w' = w.drewN n := by
  have h1 : decide (h < 0) = false := by simp; omega
  have h2 : decide ((1099510841343 : Int) < h) = false := by simp; omega
  have ea := and_4095 (h / 256)
  clear hh
  go_enter Try.func88, Try.ntmps88
  go_wp2_with fail
  go_quiet (fail)
  go_wp2_with fail
  go_ret
  exact ⟨rfl, _, rfl⟩
theorem gen_p (g s : Int) (w : World) (hg : 1 ≤ g ∧ g ≤ 1023) (hs : 0 ≤ s ∧ s ≤ 255) : Calls Try.prog 57 #[.int .i64 (g * 256 + s)] w fun e w' => e = .returned (.int .i64 g) ∧ ∃ n, w' = w.drewN n := by
  have HF := Lib.hid (fun w => field_p (g * 256 + s) w ⟨by omega, by omega⟩)
  have e : (g * 256 + s) / 256 % 4096 = g := by omega
  rw [e] at HF
  clear hg hs e
  generalize g * 256 + s = h at *
  go_enter Try.func57, Try.ntmps57
  go_wp2_with fail
  refine (HF.out _).mono ?_
  rintro e W ⟨rfl, n, rfl⟩
  go_wp2_with fail
  go_ret
  exact ⟨rfl, _, rfl⟩
set_option maxHeartbeats 1000000 in
theorem live_p {P : Nat → Prop} {cv : Value} {l : List Int} (g s : Int) (node : Bool) (k : Nat) (y : Int) (w : World) (hg : 1 ≤ g ∧ g ≤ 1023) (hs : 0 ≤ s ∧ s ≤ 255) (hk : genC s node = (k : Int)) (hC : CellsV P w cv l) (hy : l[k]? = some y) :
    Calls Try.prog 26 #[cv, .int .i64 (g * 256 + s), .bool node] w fun e w' => e = .returned (.bool (y == g * 2 + 1)) ∧ ∃ n, w' = w.drewN n := by
  have HC1 := Lib.hid (fun w => cell_p (g * 256 + s) node w ⟨by omega, by omega⟩)
  have e1 : (g * 256 + s) % 256 = s := by omega
  rw [e1, hk] at HC1
  have HG := Lib.hid (fun w => gen_p g s w hg hs)
  have e2 : (g * 256 + s) / 256 = g := by omega
  have g1 : decide ((0 : Int) < g) = true := by simp; omega
  have g2 : decide (g ≤ (1023 : Int)) = true := by simp; omega
  have k1 : decide ((0 : Int) ≤ (k : Int)) = true := by simp
  obtain ⟨b, o, cap, rfl, -, hl, hc, -⟩ := hC
  have c1 := hc k y hy
  have hk7 : k < 771 := by have := (List.getElem?_eq_some_iff.1 hy).1; omega
  have eg : (g == g) = true := by simp
  obtain ⟨hg1, hg2⟩ := hg
  clear hs hk hl hc hy e1
  generalize g * 256 + s = h at *
  go_enter Try.func26, Try.ntmps26
  go_wp2_with fail
  refine (HC1.out _).mono ?_
  rintro e W ⟨rfl, rfl⟩
  go_wp2_with fail
  refine (HG.out _).mono ?_
  rintro e W2 ⟨rfl, n, rfl⟩
  go_wp2_with fail
  go_ret
  exact ⟨rfl, _, rfl⟩
end Go.Proofs.Ytgpdknacnmapiaa
