/-
  What the reference's Read tells of any bytes (chapter 08).
-/
import Derived.Test.YtcffabfaefbjcaaFrA
import Derived.Test.YtcffabfaefbjcaaFrB
import Derived.Test.YtcffabfaefbjcaaFrC
namespace Go.Proofs.Ytcffabfaefbjcaa
set_option linter.unusedVariables false
open Go.RowKit
theorem rf_empty (v0 : Value) (l : List Nat) (w : World) (hsl : Sl w v0 l) (h : l.length = 0) : Calls Try.prog 36 #[v0] w (RPost zrq 50 w) := by
  obtain ⟨ao, cap, rfl, hcap1, hcap2⟩ := hsl.open
  rw [h]
  clear hsl hcap1 h
  go_enter Try.func36, Try.ntmps36
  go_wp2
  refine rf_end (q := zrq) ?_ rfl rfl ?_
  · exact heap_alloc_new _ _
  · exact (Below.refl _ _).alloc (Nat.le_refl _) _
theorem rf_great (b off cap : Nat) (l : List Nat) (n : Nat) (y : Int) (hn : 0 < n) (hcap : n ≤ cap) (hm : cap ≤ 9223372036854775807) (w : World) (hk0 : w.cell? ⟨b, off + 0, none⟩ = some (.int .u8 y)) (h9 : 9 < y) : Calls Try.prog 36 #[.slice (some ⟨b, off, none⟩) n cap] w (RPost zrq 50 w) := by
  have hk1 : w.cell? ⟨b, off, none⟩ = some (.int .u8 y) := hk0
  have hbl : b < w.heap.size := block_lt_of_cell hk0
  have hn1 : (0 : Int) < (n : Int) := by omega
  have d0 : (n == 0) = false := by simp; omega
  have d1 : ((n : Int) == 0) = false := by rw [beq_eq_false_iff_ne]; omega
  go_enter Try.func36, Try.ntmps36
  go_wp2
  refine rf_end (q := zrq) ?_ rfl rfl ?_
  · exact heap_alloc_new _ _
  · exact (Below.refl _ _).alloc (Nat.le_refl _) _
theorem rf_size (b off cap : Nat) (l : List Nat) (n : Nat) (y s : Int) (hn : 0 < n) (hcap : n ≤ cap) (hm : cap ≤ 9223372036854775807) (w : World) (hk0 : w.cell? ⟨b, off + 0, none⟩ = some (.int .u8 y)) (h9 : 0 ≤ y ∧ y ≤ 9) (hs : sizeE y = s) (hne : s ≠ (n : Int)) : Calls Try.prog 36 #[.slice (some ⟨b, off, none⟩) n cap] w (RPost zrq 50 w) := by
  have hk1 : w.cell? ⟨b, off, none⟩ = some (.int .u8 y) := hk0
  have hbl : b < w.heap.size := block_lt_of_cell hk0
  have hn1 : (0 : Int) < (n : Int) := by omega
  have d0 : (n == 0) = false := by simp; omega
  have d1 : ((n : Int) == 0) = false := by rw [beq_eq_false_iff_ne]; omega
  have d2 : (s != (n : Int)) = true := by rw [bne_iff_ne]; exact hne
  have HZ := Lib.hid hs
  clear hs hne
  go_enter Try.func36, Try.ntmps36
  go_wp2_with (go_at_call 22; refine (sizer_v _ _ HZ.out _).mono ?_; rintro e w' ⟨rfl, rfl⟩)
  refine rf_end (q := zrq) ?_ rfl rfl ?_
  · exact heap_alloc_new _ _
  · exact (Below.refl _ _).alloc (Nat.le_refl _) _
end Go.Proofs.Ytcffabfaefbjcaa
