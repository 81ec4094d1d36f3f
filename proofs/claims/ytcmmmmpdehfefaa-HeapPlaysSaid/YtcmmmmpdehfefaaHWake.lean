/-
  wakes (chapter 15).
-/
import Derived.Test.YtcmmmmpdehfefaaHPopH
namespace Go.Proofs.Ytcmmmmpdehfefaa
set_option linter.unusedVariables false
set_option linter.unusedSimpArgs false
open Go.RowKit Go.Maps
theorem push1 (a : Nat) : pushL [] ⟨a, 5, 1⟩ = [⟨a, 5, 1⟩] := rfl
theorem push2 (a b : Nat) : pushL [⟨a, 5, 1⟩] ⟨b, 3, 2⟩ = [⟨b, 3, 2⟩, ⟨a, 5, 1⟩] := by simp [pushL, upL, lessB, swapL]
theorem fix2 (a b : Nat) : fixL ([(⟨b, 3, 2⟩ : Pr), ⟨a, 5, 1⟩].set 0 ⟨b, 9, 2⟩) 0 = [⟨a, 5, 1⟩, ⟨b, 9, 2⟩] := rfl
theorem Hp.grow_in {S S' : Nat → Prop} {mb : Nat} {w0 w w' : World} (hs : ∀ k, S k → w0.heap.size ≤ k) (hm : w0.heap.size ≤ mb) (h0 : Grow (fun _ => False) w0 w) (hg : Grow (own S mb) w w') : Grow (fun _ => False) w0 w' :=
  h0.trans (hg.mono fun k hk hh => .inr (hh.elim (hs k) (fun e => e ▸ hm)))
set_option maxHeartbeats 2000000 in
set_option maxRecDepth 100000 in
theorem wakes_any (w : World) : Calls Try.prog 9 #[] w fun e w' => e = .returned (.bool true) ∧ Grow (fun _ => False) w w' := by
  go_enter Try.func9, Try.ntmps9
  go_wp2_with fail
  refine (new_any w).mono ?_
  rintro e w0 ⟨rfl, hw0⟩
  have H0 : Hid (Hp w0 (w.heap.size + 1) w.heap.size (fun k => k = w.heap.size + 1) 0 []) := Lib.hid (by rw [hw0]; exact Hp.new w)
  have G0 : Hid (Grow (fun _ => False) w w0) := Lib.hid (by rw [hw0]; exact ⟨rfl, rfl, rfl, by simp; omega, fun k hk _ => by rw [heap_alloc_old _ _ (by simp; omega), heap_alloc_old _ _ hk]⟩)
  clear hw0
  go_wp2_with fail
  refine (put_new (w.heap.size + 1) w.heap.size 0 _ [] 1 5 w0 H0.out (by decide) (by decide) (by decide) (by simp)).mono ?_
  rintro e w1 ⟨rfl, a, S1, h1, hs1, hg1⟩
  have H1 : Hid (Hp w1 (w.heap.size + 1) w.heap.size S1 1 [⟨a, 5, 1⟩]) := Lib.hid h1
  have hS1 : Hid (∀ k, S1 k → w.heap.size ≤ k) := Lib.hid (fun k hk => (hs1 k hk).elim (fun e => by omega) (fun e => Nat.le_trans G0.out.size e))
  have G1 : Hid (Grow (fun _ => False) w w1) := Lib.hid (Hp.grow_in (S' := S1) (fun k hk => by omega) (Nat.le_refl _) G0.out hg1)
  clear h1 hs1 hg1
  go_wp2_with fail
  refine (put_new (w.heap.size + 1) w.heap.size 1 S1 [⟨a, 5, 1⟩] 2 3 w1 H1.out (by simp) (by decide) (by decide) (by simp)).mono ?_
  rintro e w2 ⟨rfl, b, S2, h2, hs2, hg2⟩
  have H2 : Hid (Hp w2 (w.heap.size + 1) w.heap.size S2 2 [⟨b, 3, 2⟩, ⟨a, 5, 1⟩]) := Lib.hid (by rw [push2] at h2; exact h2)
  have hS2 : Hid (∀ k, S2 k → w.heap.size ≤ k) := Lib.hid (fun k hk => (hs2 k hk).elim (hS1.out k) (fun e => Nat.le_trans G1.out.size e))
  have G2 : Hid (Grow (fun _ => False) w w2) := Lib.hid (Hp.grow_in (S' := S2) hS1.out (Nat.le_refl _) G1.out hg2)
  clear h2 hs2 hg2
  go_wp2_with fail
  refine (least_some (w.heap.size + 1) w.heap.size S2 _ ⟨b, 3, 2⟩ w2 H2.out.hg rfl).mono ?_
  rintro e w3 ⟨rfl, k, hw3⟩
  have H3 : Hid (Hp w3 (w.heap.size + 1) w.heap.size S2 2 [⟨b, 3, 2⟩, ⟨a, 5, 1⟩]) := Lib.hid (by rw [hw3]; exact H2.out.drewN k)
  have G3 : Hid (Grow (fun _ => False) w w3) := Lib.hid (by rw [hw3]; exact G2.out.drewN k)
  clear hw3
  go_wp2_with fail
  refine (put_old (w.heap.size + 1) w.heap.size 2 0 S2 [⟨b, 3, 2⟩, ⟨a, 5, 1⟩] ⟨b, 3, 2⟩ 9 w3 H3.out (by simp) rfl).mono ?_
  rintro e w4 ⟨rfl, S4, h4, hs4, hg4⟩
  have H4 : Hid (Hp w4 (w.heap.size + 1) w.heap.size S4 2 [⟨a, 5, 1⟩, ⟨b, 9, 2⟩]) := Lib.hid (by rw [fix2] at h4; exact h4)
  have G4 : Hid (Grow (fun _ => False) w w4) := Lib.hid (Hp.grow_in (S' := S4) hS2.out (Nat.le_refl _) G3.out hg4)
  clear h4 hs4 hg4
  go_wp2_with fail
  refine (least_some (w.heap.size + 1) w.heap.size S4 _ ⟨a, 5, 1⟩ w4 H4.out.hg rfl).mono ?_
  rintro e w5 ⟨rfl, k5, hw5⟩
  have H5 : Hid (Hp w5 (w.heap.size + 1) w.heap.size S4 2 [⟨a, 5, 1⟩, ⟨b, 9, 2⟩]) := Lib.hid (by rw [hw5]; exact H4.out.drewN k5)
  have G5 : Hid (Grow (fun _ => False) w w5) := Lib.hid (by rw [hw5]; exact G4.out.drewN k5)
  clear hw5
  go_wp2_with fail
  refine (hlen_any (w.heap.size + 1) w.heap.size S4 _ w5 H5.out.hg).mono ?_
  rintro e w6 ⟨rfl, rfl⟩
  go_wp2_with fail
  go_ret
  exact ⟨rfl, G5.out⟩
end Go.Proofs.Ytcmmmmpdehfefaa
