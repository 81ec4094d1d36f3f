/-
  What Open and its reference compute (chapter 02).
-/
import Derived.Test.YtcffabfaefbjcaaOpen
import Derived.BigQuiet
import Derived.Deep.QuietTactic
import Derived.Test.YtcffabfaefbjcaaPlan
import Derived.Deep.RegionHeld3
import Derived.Outline
namespace Go.Proofs.Ytcffabfaefbjcaa
set_option linter.unusedVariables false
open Go.RowKit Crc
theorem openr_yes (b off cap n : Nat) (u x : List Nat) (hu : u.length = n) (hx : x.length = 4) (hxb : IsBytes x) (hlen : n < 35184372088832) (w : World) (hsl : Sl w (.slice (some ⟨b, off, none⟩) (n + 4) cap) (u ++ x)) (hcap : n + 4 ≤ cap) (hm : cap ≤ 9223372036854775807) (heqx : x = le 4 (sumOf u)) :
    Calls Try.prog 57 #[.slice (some ⟨b, off, none⟩) (n + 4) cap] w (OpenPostV w u) := by
  have d1 : decide ((n : Int) < 0) = false := by simp
  have heq : ((strOf (sealed u)).toList == (strOf (u ++ x)).toList) = true := by
    rw [heqx]; exact beq_self_eq_true _
  clear heqx
  have HT := Lib.hid (fun w' (hb : Below w.heap.size w w') => (hsl.below hb (Nat.le_refl _)).str)
  have HU := Lib.hid (fun w' (hb : Below w.heap.size w w') => (hsl.below hb (Nat.le_refl _)).cutc n cap (by omega) (by omega) (Nat.le_refl _))
  rw [List.take_left' hu] at HU
  clear hsl
  have HUL := Lib.hid hu
  clear hu
  go_enter Try.func57, Try.ntmps57
  go_wp2
  have s2 := slice_to (some ⟨b, off, none⟩) (n + 4) cap n (by omega) (by omega)
  have hA := fun d os => HT.out _ (below_regrown w d os)
  refine wp_region_noPanic ?_
  refine wp_region_plan [([true, true, true, true, true, true, false, false, true, true], 6)] [false, false, false, false, false, false, false, true, false, false, true, true] (fun w' => ∃ p : Regrown, w' = Go.Sort.grow (redrawn w p.d) p.os) (by kernel_rfl) (by kernel_rfl) (by kernel_rfl) (fun _ _ _ _ _ h => h) (above_drew w) ?_
  simp only [wpPlan, sel]
  repeat (go_big_quiet_step (fail))
  refine wpQuiet_nil ?_
  rintro _ ⟨⟨d, os⟩, rfl⟩
  refine wpOp_step rfl (fun K hK => ?_)
  go_simp
  refine (sealr_n _ u n _ (HU.out _ (below_regrown w d os)) HUL.out hlen).mono ?_
  rintro e w1 ⟨g, cv, rfl, hv1, hv2, hown, hb⟩
  have hbb := (below_regrown w d os).trans (hb.mono (below_regrown w d os).size)
  have hs := fun d os => (hown.sl.below (below_regrown w1 d os) (Nat.le_refl _)).str
  refine hK _ _ ⟨fun w' => ∃ p : Regrown, w' = Go.Sort.grow (redrawn w1 p.d) p.os, above_self w1, above_next hbb, ?_⟩
  clear hK K hA
  repeat (go_big_quiet_step (fail))
  refine wpQuiet_nil ?_
  rintro _ ⟨⟨d2, os2⟩, rfl⟩
  have hb2 := hbb.trans ((below_regrown w1 d2 os2).mono hbb.size)
  generalize Go.Sort.grow (redrawn w1 d2) os2 = w2 at *
  clear hs hown
  have HB2 := Lib.hid hb2
  clear hb2 hbb
  refine NoPanic.normal ?_
  have hHU := HU.out _ HB2.out
  have hlen2 : ([] : List Nat).length + u.length ≤ 70368744177664 := by rw [HUL.out, List.length_nil]; omega
  go_wp2_with (at_builtin; refine wp_cat_own bt rfl (.tmp 21) (.tmp 24) rfl w.heap.size _ [] rfl (Own.nil _ _ _) _ u rfl hHU hlen2 HB2.out.size ?_; intro v' w3 hown3 hgr3)
  rw [List.nil_append] at hown3
  have hbE := HB2.out.grown hgr3 HB2.out.size (fun k hk => by cases hk)
  clear hgr3
  go_ret2
  exact ⟨_, rfl, hown3, hbE⟩
/-- what comes back of bytes of any length -/
theorem sl_parts {w : World} {v : Value} {l : List Nat} (h : Sl w v l) (h4 : 4 ≤ l.length) : ∃ b off cap, v = .slice (some ⟨b, off, none⟩) (l.length - 4 + 4) cap ∧ l.length - 4 + 4 ≤ cap ∧ cap ≤ 9223372036854775807 := by
  obtain ⟨h0, ao, cap, rfl, h1, h2, h3, h5⟩ := h
  unfold maxLen at h2
  rcases h5 with h5 | ⟨b, off, rfl, hc⟩
  · omega
  · exact ⟨b, off, cap, by rw [Nat.sub_add_cancel h4], by omega, by omega⟩
theorem open_any_no (v : Value) (l : List Nat) (hlen : l.length < 35184372088832) (w : World) (hsl : Sl w v l) (hno : ∀ u, l ≠ sealed u) : Calls Try.prog 55 #[v] w fun e w' => e = .returned (.tuple #[.slice none 0 0, .int .i64 50]) ∧ Below w.heap.size w w' := by
  by_cases h4 : l.length < 4
  · exact open_short v l h4 w hsl
  · obtain ⟨b, off, cap, rfl, h1, h2⟩ := sl_parts hsl (by omega)
    have hsp : l.take (l.length - 4) ++ l.drop (l.length - 4) = l := List.take_append_drop ..
    refine open_no b off cap (l.length - 4) (l.take (l.length - 4)) (l.drop (l.length - 4)) (by rw [List.length_take]; omega) (by rw [List.length_drop]; omega) (hsl.bytes.drop _) (by omega) w (by rw [hsp]; exact hsl) h1 h2 ?_
    intro he
    refine hno (l.take (l.length - 4)) ?_
    unfold sealed
    rw [← he, hsp]
theorem openr_any_no (v : Value) (l : List Nat) (hlen : l.length < 35184372088832) (w : World) (hsl : Sl w v l) (hno : ∀ u, l ≠ sealed u) : Calls Try.prog 57 #[v] w fun e w' => e = .returned (.tuple #[.slice none 0 0, .int .i64 50]) ∧ Below w.heap.size w w' := by
  by_cases h4 : l.length < 4
  · exact openr_short v l h4 w hsl
  · obtain ⟨b, off, cap, rfl, h1, h2⟩ := sl_parts hsl (by omega)
    have hsp : l.take (l.length - 4) ++ l.drop (l.length - 4) = l := List.take_append_drop ..
    refine openr_no b off cap (l.length - 4) (l.take (l.length - 4)) (l.drop (l.length - 4)) (by rw [List.length_take]; omega) (by rw [List.length_drop]; omega) (hsl.bytes.drop _) (by omega) w (by rw [hsp]; exact hsl) h1 h2 ?_
    intro he
    refine hno (l.take (l.length - 4)) ?_
    unfold sealed
    rw [← he, hsp]
theorem open_any_yes (v : Value) (u : List Nat) (hlen : u.length < 35184372088832) (w : World) (hsl : Sl w v (sealed u)) : Calls Try.prog 55 #[v] w (OpenPost w u.length u) := by
  obtain ⟨b, off, cap, rfl, h1, h2⟩ := sl_parts hsl (by rw [sealed_length]; omega)
  rw [sealed_length, show u.length + 4 - 4 = u.length by omega] at h1 hsl ⊢
  exact open_yes b off cap u.length u (le 4 (sumOf u)) rfl (le_length _ _) (le_bytes _ _) hlen w hsl h1 h2 rfl
theorem openr_any_yes (v : Value) (u : List Nat) (hlen : u.length < 35184372088832) (w : World) (hsl : Sl w v (sealed u)) : Calls Try.prog 57 #[v] w (OpenPostV w u) := by
  obtain ⟨b, off, cap, rfl, h1, h2⟩ := sl_parts hsl (by rw [sealed_length]; omega)
  rw [sealed_length, show u.length + 4 - 4 = u.length by omega] at h1 hsl ⊢
  exact openr_yes b off cap u.length u (le 4 (sumOf u)) rfl (le_length _ _) (le_bytes _ _) hlen w hsl h1 h2 rfl
end Go.Proofs.Ytcffabfaefbjcaa
