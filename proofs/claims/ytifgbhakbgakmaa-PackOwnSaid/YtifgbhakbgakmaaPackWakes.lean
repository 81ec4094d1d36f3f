/-
  The law's own check of the document's example ('wakes' of chapter 01) returns true; two small laws on quiet worlds.
-/
import Derived.Test.YtifgbhakbgakmaaPackWords
namespace Go.Proofs.Ytifgbhakbgakmaa
set_option linter.unusedVariables false
open Go.RowKit
theorem handle_1_3 (w : World) : Calls Try.prog 24 #[.int .i64 1, .int .i64 3] w fun e w' => e = .returned (.tuple #[.int .i64 259, .int .i64 0]) ∧ w = w' := handle_any 1 3 w
theorem word_2_259 (w : World) : Calls Try.prog 26 #[.int .i64 2, .int .i64 259] w fun e w' => e = .returned (.tuple #[.int .i64 2097411, .int .i64 0]) ∧ w = w' := word_any 2 259 w
theorem Sl.quiet {w w' : World} {v : Value} {l : List Nat} (h : Sl w v l) (hq : Quiet w w') : Sl w' v l := by
  obtain ⟨n, rfl⟩ := hq
  exact h.below (B := w.heap.size) (below_drewN (Below.refl _ _) n) (Nat.le_refl _)
theorem Quiet.below {B : Nat} {w w' : World} (hq : Quiet w w') : Below B w w' := by
  obtain ⟨n, rfl⟩ := hq
  exact below_drewN (Below.refl _ _) n
theorem Quiet.trans {a b c : World} (h1 : Quiet a b) (h2 : Quiet b c) : Quiet a c := by
  obtain ⟨n, rfl⟩ := h1
  obtain ⟨m, rfl⟩ := h2
  exact ⟨n + m, by rw [World.drewN_drewN]⟩
theorem lit_9 (w : World) : Sl (w.alloc (.cells #[.int .u8 9] 5)) (.slice (some ⟨w.heap.size, 0, none⟩) 1 1) [9] := by
  refine ⟨IsBytes.one (by omega), some ⟨w.heap.size, 0, none⟩, 1, rfl, Nat.le_refl _, by decide, fun e => (by cases e), .inr ⟨_, 0, rfl, fun i hi => ?_⟩⟩
  have : i = 0 := by simp at hi; omega
  subst this; exact new_cell _ _ _
theorem put_258 (w : World) : Calls Try.prog 31 #[.slice (some ⟨w.heap.size, 0, none⟩) 1 1, .int .i64 258, .int .i64 2] (w.alloc (.cells #[.int .u8 9] 5)) (PutPostE (w.alloc (.cells #[.int .u8 9] 5)) [9, 2, 1] 0) :=
  put_any _ 258 2 [9] _ (lit_9 w) (by simp)
theorem place_w (w : World) : Calls Try.prog 27 #[.int .i64 2097411] w fun e w' => e = .returned (.int .i64 2) ∧ Quiet w w' := place_any 2097411 w
theorem slot_w (w : World) : Calls Try.prog 29 #[.int .i64 2097411] w fun e w' => e = .returned (.int .i64 3) ∧ Quiet w w' := slot_any 2097411 w
theorem gen_w (w : World) : Calls Try.prog 28 #[.int .i64 2097411] w fun e w' => e = .returned (.int .i64 1) ∧ Quiet w w' := gen_any 2097411 w
theorem bare_w (w : World) : Calls Try.prog 30 #[.int .i64 2097411] w fun e w' => e = .returned (.int .i64 259) ∧ Quiet w w' := bare_any 2097411 w
theorem wakes01_any (w : World) : Calls Try.prog 25 #[] w fun e w' => e = .returned (.bool true) ∧ Below w.heap.size w w' := by
  go_enter Try.func25, Try.ntmps25
  go_wp2_with (first | (go_at_call 24; refine (handle_1_3 _).mono ?_; rintro e w' ⟨rfl, rfl⟩) | (go_at_call 26; refine (word_2_259 _).mono ?_; rintro e w' ⟨rfl, rfl⟩))
  refine (put_258 w).mono ?_
  rintro e w1 ⟨v, rfl, hown, hb⟩
  go_wp2_with fail
  refine (place_w w1).mono ?_
  rintro e w2 ⟨rfl, h2⟩
  go_wp2_with fail
  refine (slot_w w2).mono ?_
  rintro e w3 ⟨rfl, h3⟩
  go_wp2_with fail
  refine (gen_w w3).mono ?_
  rintro e w4 ⟨rfl, h4⟩
  go_wp2_with fail
  refine (bare_w w4).mono ?_
  rintro e w5 ⟨rfl, h5⟩
  have hsl : Sl w5 v [9, 2, 1] := (((hown.sl.quiet h2).quiet h3).quiet h4).quiet h5
  have hbel : Below w.heap.size w w5 := ((Below.refl w.heap.size w).alloc (Nat.le_refl _) _).trans ((hb.mono (by simp)).trans ((((h2.trans h3).trans h4).trans h5).below))
  have hstr := hsl.string bt (dst := 9) (by kernel_rfl)
  clear hsl hown hb h2 h3 h4 h5
  have HB := Lib.hid hbel; clear hbel
  go_wp2_with fail
  have hs : ((strOf [9, 2, 1]).toList == [9, 2, 1]) = true := by rw [ByteArray.toList_eq, strOf_toList]; rfl
  go_ret
  exact ⟨congrArg (fun z => Ending.returned (.bool z)) hs, HB.out⟩
end Go.Proofs.Ytifgbhakbgakmaa
