/-
  Texts as lists of bytes; what frame.join, frame.Size and its reference compute (chapter 04).
-/
import Derived.Test.YtcffabfaefbjcaaOpenR
import Derived.Test.YtcffabfaefbjcaaPackAny
import Derived.Lib.ConvBytes
import Derived.Lib.SmallJoins
namespace Go.Proofs.Ytcffabfaefbjcaa
set_option linter.unusedVariables false
open Go.RowKit Crc
/-- every text is one of bytes -/
theorem text_list (s : ByteArray) : ∃ l, IsBytes l ∧ s = strOf l ∧ l.length = s.size := by
  refine ⟨s.data.toList.map UInt8.toNat, ?_, ?_, by rw [List.length_map]; rfl⟩
  · intro x hx
    obtain ⟨b, _, rfl⟩ := List.mem_map.1 hx
    exact b.toNat_lt
  · apply ByteArray.ext
    apply Array.toList_inj.1
    rw [strOf_toList, List.map_map]
    have : UInt8.ofNat ∘ UInt8.toNat = id := by funext b; simp
    rw [this, List.map_id]
theorem conv_run (l : List Nat) (n : Nat) (hn : l.length = n) (w : World) : (convert 9 35 (.string (strOf l))).run Try.prog w = .ok (.slice (some ⟨w.heap.size, 0, none⟩) n (grownCap w n 0 5)) (Lib.bytesWorld w 5 (strOf l)) := by
  have := Lib.run_convert_string_bytes w 9 35 5 (strOf l) Try.underlying9 Try.underlying35 Try.underlying5
  rwa [strOf_size, hn] at this
theorem conv_cap (w : World) (n : Nat) (hn : n ≤ 1000000) : n ≤ grownCap w n 0 5 ∧ grownCap w n 0 5 ≤ 9223372036854775807 := by
  have h1 := grownCap_ge w n 0 5
  have h2 := grownCap_le_maxLen w n 0 5 (by unfold maxLen; omega)
  unfold maxLen at h2
  exact ⟨h1, by omega⟩
theorem conv_sl (l : List Nat) (hl : IsBytes l) (n : Nat) (hn : l.length = n) (h : n ≤ 1000000) (w : World) : Sl (Lib.bytesWorld w 5 (strOf l)) (.slice (some ⟨w.heap.size, 0, none⟩) n (grownCap w n 0 5)) l := by
  subst hn
  have hc := conv_cap w l.length h
  refine ⟨hl, _, _, rfl, hc.1, by unfold maxLen; omega, fun e => (by cases e), .inr ⟨_, 0, rfl, fun i hi => ?_⟩⟩
  rw [Nat.zero_add, Lib.bytesWorld_cell w 5 (strOf l) i (by rw [strOf_size]; exact hi), strOf_toList]
  have hx : l.getD i 0 < 256 := hl.getD i
  have hx2 : l[i] < 256 := by simpa [List.getD, List.getElem?_eq_getElem hi] using hx
  simp [List.getD, List.getElem?_eq_getElem hi]
  omega
theorem conv_below (w : World) (s : ByteArray) : Below w.heap.size w (Lib.bytesWorld w 5 s) := Go.Joins.below_bytesWorld _ _ _ _ (Nat.le_refl _)
/-- three rows, one behind the other -/
theorem join3 (b : Nat) (v0 v1 v2 : Value) (l0 l1 l2 : List Nat) (w : World) (c0 : w.cell? ⟨b, 0, none⟩ = some v0) (c1 : w.cell? ⟨b, 1, none⟩ = some v1) (c2 : w.cell? ⟨b, 2, none⟩ = some v2) (h0 : Sl w v0 l0) (h1 : Sl w v1 l1) (h2 : Sl w v2 l2)
    (k0 : l0.length ≤ 1000000) (k1 : l1.length ≤ 1000000) (k2 : l2.length ≤ 1000000) : Calls Try.prog 53 #[.slice (some ⟨b, 0, none⟩) 3 3] w (NewPost w (l0 ++ l1 ++ l2)) := by
  have hb := World.block_lt_of_cell? w _ c0
  have C1 := Lib.hid (fun w' (h : Below w.heap.size w w') => (h.cell (p := ⟨b, 1, none⟩) (by exact hb)).trans c1)
  have C2 := Lib.hid (fun w' (h : Below w.heap.size w w') => (h.cell (p := ⟨b, 2, none⟩) (by exact hb)).trans c2)
  have H0 := Lib.hid h0
  have H1 := Lib.hid h1
  have H2 := Lib.hid h2
  have K1 := Lib.hid (show ([] : List Nat).length + l0.length ≤ 70368744177664 by rw [List.length_nil]; omega)
  have K2 := Lib.hid (show ([] ++ l0).length + l1.length ≤ 70368744177664 by rw [List.nil_append]; omega)
  have K3 := Lib.hid (show ([] ++ l0 ++ l1).length + l2.length ≤ 70368744177664 by rw [List.nil_append, List.length_append]; omega)
  clear h0 h1 h2 c1 c2
  go_enter Try.func53, Try.ntmps53
  go_wp2
  refine wp_loop_rounds 4 ?_
  rw [rounds_succ]
  go_wp2_with (at_builtin; refine wp_cat_own bt rfl (.tmp 11) (.tmp 12) rfl w.heap.size _ [] rfl (Own.nil _ _ _) _ l0 rfl H0.out K1.out (Nat.le_refl _) ?_; intro u1 w1 ho1 hg1)
  have B1 := Lib.hid ((Below.refl w.heap.size w).grown hg1 (Nat.le_refl _) (fun k hk => by cases hk))
  have O1 := Lib.hid ho1
  clear hg1 ho1
  have e1 := C1.out w1 B1.out
  rw [rounds_succ]
  go_wp2_with (at_builtin; refine wp_cat_own bt rfl (.tmp 11) (.tmp 12) rfl w.heap.size _ ([] ++ l0) rfl O1.out _ l1 rfl (H1.out.below B1.out (Nat.le_refl _)) K2.out B1.out.size ?_; intro u2 w2 ho2 hg2)
  have B2 := Lib.hid (B1.out.grown hg2 B1.out.size (fun k hk => (O1.out.2.lt k hk).1))
  have O2 := Lib.hid ho2
  clear hg2 ho2 e1
  have e2 := C2.out w2 B2.out
  rw [rounds_succ]
  go_wp2_with (at_builtin; refine wp_cat_own bt rfl (.tmp 11) (.tmp 12) rfl w.heap.size _ ([] ++ l0 ++ l1) rfl O2.out _ l2 rfl (H2.out.below B2.out (Nat.le_refl _)) K3.out B2.out.size ?_; intro u3 w3 ho3 hg3)
  have B3 := Lib.hid (B2.out.grown hg3 B2.out.size (fun k hk => (O2.out.2.lt k hk).1))
  rw [List.nil_append] at ho3
  have O3 := Lib.hid ho3
  clear hg3 ho3 e2
  rw [rounds_succ]
  go_wp2
  go_ret
  exact ⟨_, rfl, O3.out, B3.out⟩
/-! how long -/
def sizeV (n : Int) : Int := if n < 0 ∨ 600 < n then 0 else n + 12
theorem size_any (n : Int) (w : World) : Calls Try.prog 33 #[.int .i64 n] w fun e w' => e = .returned (.int .i64 (sizeV n)) ∧ w = w' := by
  unfold sizeV
  by_cases h1 : n < 0
  · have d1 : decide (n < 0) = true := by simpa using h1
    rw [if_pos (Or.inl h1)]
    go_enter Try.func33, Try.ntmps33
    go_wp2
    go_ret
    exact ⟨rfl, rfl⟩
  have d1 : decide (n < 0) = false := by simpa using h1
  by_cases h2 : 600 < n
  · have d2 : decide (600 < n) = true := by simpa using h2
    rw [if_pos (Or.inr h2)]
    go_enter Try.func33, Try.ntmps33
    go_wp2
    go_ret
    exact ⟨rfl, rfl⟩
  have d2 : decide (600 < n) = false := by simpa using h2
  rw [if_neg (by omega)]
  go_enter Try.func33, Try.ntmps33
  go_wp2
  go_ret
  exact ⟨congrArg (fun z => Ending.returned (.int .i64 z)) (by omega), rfl⟩
theorem sizer_any (n : Int) (w : World) : Calls Try.prog 34 #[.int .i64 n] w fun e w' => e = .returned (.int .i64 (sizeV n)) ∧ w = w' := by
  unfold sizeV
  by_cases h1 : n < 0
  · have d1 : decide (n < 0) = true := by simpa using h1
    rw [if_pos (Or.inl h1)]
    go_enter Try.func34, Try.ntmps34
    go_wp2
    go_ret
    exact ⟨rfl, rfl⟩
  have d1 : decide (n < 0) = false := by simpa using h1
  by_cases h2 : 600 < n
  · have d2 : decide (600 < n) = true := by simpa using h2
    rw [if_pos (Or.inr h2)]
    go_enter Try.func34, Try.ntmps34
    go_wp2
    go_ret
    exact ⟨rfl, rfl⟩
  have d2 : decide (600 < n) = false := by simpa using h2
  rw [if_neg (by omega)]
  go_enter Try.func34, Try.ntmps34
  go_wp2
  go_ret
  exact ⟨rfl, rfl⟩
end Go.Proofs.Ytcffabfaefbjcaa
