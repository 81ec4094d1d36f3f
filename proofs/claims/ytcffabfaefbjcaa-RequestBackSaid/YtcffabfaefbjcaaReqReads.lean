/-
  The walk of RequestReads (chapter 08).
-/
import Derived.Test.YtcffabfaefbjcaaFrAll
import Derived.Test.YtcffabfaefbjcaaReqRead
import Derived.Test.YtcffabfaefbjcaaReqWrites
import Derived.Test.YtcffabfaefbjcaaReadPlain
namespace Go.Proofs.Ytcffabfaefbjcaa
set_option linter.unusedVariables false
open Go.RowKit
theorem rdRead_any (v0 : Value) (l : List Nat) (w : World) (hsl : Sl w v0 l) (hl : l.length ≤ 1000000) : Calls Try.prog 35 #[v0] w (RPost (rdQ l).1 (rdQ l).2 w) := by
  by_cases he : getE l.length 0 1 = 0
  · exact read_some v0 l w hsl hl he
  · have h1 : (rdQ l) = (zrq, 50) := by unfold rdQ; rw [if_neg he]
    rw [h1]
    exact read_first v0 l w hsl (getE_else (by omega) (by omega) he)
theorem rfRead_any (v0 : Value) (l : List Nat) (w : World) (hsl : Sl w v0 l) : Calls Try.prog 36 #[v0] w (RPost (rfQ l).1 (rfQ l).2 w) := by
  by_cases h0 : l.length = 0
  · have h1 : rfQ l = (zrq, 50) := by unfold rfQ; rw [if_pos (.inl h0)]
    rw [h1]
    exact rf_empty v0 l w hsl h0
  obtain ⟨hby, ao, cap, rfl, hcap, hm, _, hc⟩ := hsl
  rcases hc with hc | ⟨b, off, rfl, hc⟩
  · exact absurd hc h0
  unfold maxLen at hm
  have hsl : Sl w (.slice (some ⟨b, off, none⟩) l.length cap) l := ⟨hby, _, cap, rfl, hcap, by unfold maxLen; exact hm, by (intro h; cases h), .inr ⟨b, off, rfl, hc⟩⟩
  have hk0 := hc 0 (by omega)
  by_cases h9 : 9 < l.getD 0 0
  · have h1 : rfQ l = (zrq, 50) := by unfold rfQ; rw [if_pos (.inr (.inl h9))]
    rw [h1]
    exact rf_great b off cap l l.length _ (by omega) hcap hm w hk0 (by omega)
  by_cases hs : sizeE (l.getD 0 0 : Nat) = l.length
  · have h1 : rfQ l = rfEnd (rfParse l (l.getD 0 0 : Nat)) := by unfold rfQ; rw [if_neg (by simp only [not_or]; exact ⟨h0, h9, by omega⟩)]
    rw [h1]
    clear h1
    have hk : l.getD 0 0 = 0 ∨ l.getD 0 0 = 1 ∨ l.getD 0 0 = 2 ∨ l.getD 0 0 = 3 ∨ l.getD 0 0 = 4 ∨ l.getD 0 0 = 5 ∨ l.getD 0 0 = 6 ∨ l.getD 0 0 = 7 ∨ l.getD 0 0 = 8 ∨ l.getD 0 0 = 9 := by omega
    rcases hk with e | e | e | e | e | e | e | e | e | e
    · rw [e] at hs
      have hz : sizeE (((0 : Nat)) : Int) = 1 := by decide
      have hl : l.length = 1 := by omega
      have hp : rfParse l (l.getD 0 0 : Nat) = ⟨0, 0, 0, 0, 0, 0, 0⟩ := by rw [e]; rfl
      rw [hp]
      rw [hl] at hsl hc hcap ⊢
      unfold rfEnd
      rw [if_neg (show ¬ (24 : Int) ≤ 0 by decide)]
      cases hr : rightB ⟨0, 0, 0, 0, 0, 0, 0⟩
      · rw [if_neg (by simp)]
        exact rf_0_bad b off cap l  hl hcap hm w hsl hc e  hr
      · rw [if_pos rfl]
        exact rf_0_ok b off cap l  hl hcap hm w hsl hc e  hr
    · rw [e] at hs
      have hz : sizeE (((1 : Nat)) : Int) = 5 := by decide
      have hl : l.length = 5 := by omega
      have hp : rfParse l (l.getD 0 0 : Nat) = ⟨1, getV l 1 3, (l.getD 4 0 : Nat), 0, 0, 0, 0⟩ := by rw [e]; rfl
      rw [hp]
      rw [hl] at hsl hc hcap ⊢
      unfold rfEnd
      by_cases hy : (24 : Int) ≤ (l.getD 4 0 : Nat)
      · rw [if_pos hy]
        exact rf_1_key b off cap l _ _ hl hcap hm w hsl hc e rfl rfl hy
      · rw [if_neg hy]
        cases hr : rightB ⟨1, getV l 1 3, (l.getD 4 0 : Nat), 0, 0, 0, 0⟩
        · rw [if_neg (by simp)]
          exact rf_1_bad b off cap l _ _ hl hcap hm w hsl hc e rfl rfl hr (by omega)
        · rw [if_pos rfl]
          exact rf_1_ok b off cap l _ _ hl hcap hm w hsl hc e rfl rfl hr (by omega)
    · rw [e] at hs
      have hz : sizeE (((2 : Nat)) : Int) = 6 := by decide
      have hl : l.length = 6 := by omega
      have hp : rfParse l (l.getD 0 0 : Nat) = ⟨2, getV l 1 3, (l.getD 4 0 : Nat), (l.getD 5 0 : Nat), 0, 0, 0⟩ := by rw [e]; rfl
      rw [hp]
      rw [hl] at hsl hc hcap ⊢
      unfold rfEnd
      by_cases hy : (24 : Int) ≤ (l.getD 4 0 : Nat)
      · rw [if_pos hy]
        exact rf_2_key b off cap l _ _ _ hl hcap hm w hsl hc e rfl rfl rfl hy
      · rw [if_neg hy]
        cases hr : rightB ⟨2, getV l 1 3, (l.getD 4 0 : Nat), (l.getD 5 0 : Nat), 0, 0, 0⟩
        · rw [if_neg (by simp)]
          exact rf_2_bad b off cap l _ _ _ hl hcap hm w hsl hc e rfl rfl rfl hr (by omega)
        · rw [if_pos rfl]
          exact rf_2_ok b off cap l _ _ _ hl hcap hm w hsl hc e rfl rfl rfl hr (by omega)
    · rw [e] at hs
      have hz : sizeE (((3 : Nat)) : Int) = 4 := by decide
      have hl : l.length = 4 := by omega
      have hp : rfParse l (l.getD 0 0 : Nat) = ⟨3, getV l 1 3, 0, 0, 0, 0, 0⟩ := by rw [e]; rfl
      rw [hp]
      rw [hl] at hsl hc hcap ⊢
      unfold rfEnd
      rw [if_neg (show ¬ (24 : Int) ≤ 0 by decide)]
      cases hr : rightB ⟨3, getV l 1 3, 0, 0, 0, 0, 0⟩
      · rw [if_neg (by simp)]
        exact rf_3_bad b off cap l _ hl hcap hm w hsl hc e rfl hr
      · rw [if_pos rfl]
        exact rf_3_ok b off cap l _ hl hcap hm w hsl hc e rfl hr
    · rw [e] at hs
      have hz : sizeE (((4 : Nat)) : Int) = 4 := by decide
      have hl : l.length = 4 := by omega
      have hp : rfParse l (l.getD 0 0 : Nat) = ⟨4, getV l 1 3, 0, 0, 0, 0, 0⟩ := by rw [e]; rfl
      rw [hp]
      rw [hl] at hsl hc hcap ⊢
      unfold rfEnd
      rw [if_neg (show ¬ (24 : Int) ≤ 0 by decide)]
      cases hr : rightB ⟨4, getV l 1 3, 0, 0, 0, 0, 0⟩
      · rw [if_neg (by simp)]
        exact rf_4_bad b off cap l _ hl hcap hm w hsl hc e rfl hr
      · rw [if_pos rfl]
        exact rf_4_ok b off cap l _ hl hcap hm w hsl hc e rfl hr
    · rw [e] at hs
      have hz : sizeE (((5 : Nat)) : Int) = 14 := by decide
      have hl : l.length = 14 := by omega
      have hp : rfParse l (l.getD 0 0 : Nat) = ⟨5, 0, 0, 0, (l.getD 1 0 : Nat), getV l 2 6, getV l 8 6 - 1⟩ := by rw [e]; rfl
      rw [hp]
      rw [hl] at hsl hc hcap ⊢
      unfold rfEnd
      rw [if_neg (show ¬ (24 : Int) ≤ 0 by decide)]
      cases hr : rightB ⟨5, 0, 0, 0, (l.getD 1 0 : Nat), getV l 2 6, getV l 8 6 - 1⟩
      · rw [if_neg (by simp)]
        exact rf_5_bad b off cap l _ _ _ hl hcap hm w hsl hc e rfl rfl rfl hr
      · rw [if_pos rfl]
        exact rf_5_ok b off cap l _ _ _ hl hcap hm w hsl hc e rfl rfl rfl hr
    · rw [e] at hs
      have hz : sizeE (((6 : Nat)) : Int) = 2 := by decide
      have hl : l.length = 2 := by omega
      have hp : rfParse l (l.getD 0 0 : Nat) = ⟨6, 0, (l.getD 1 0 : Nat), 0, 0, 0, 0⟩ := by rw [e]; rfl
      rw [hp]
      rw [hl] at hsl hc hcap ⊢
      unfold rfEnd
      by_cases hy : (24 : Int) ≤ (l.getD 1 0 : Nat)
      · rw [if_pos hy]
        exact rf_6_key b off cap l _ hl hcap hm w hsl hc e rfl hy
      · rw [if_neg hy]
        cases hr : rightB ⟨6, 0, (l.getD 1 0 : Nat), 0, 0, 0, 0⟩
        · rw [if_neg (by simp)]
          exact rf_6_bad b off cap l _ hl hcap hm w hsl hc e rfl hr (by omega)
        · rw [if_pos rfl]
          exact rf_6_ok b off cap l _ hl hcap hm w hsl hc e rfl hr (by omega)
    · rw [e] at hs
      have hz : sizeE (((7 : Nat)) : Int) = 1 := by decide
      have hl : l.length = 1 := by omega
      have hp : rfParse l (l.getD 0 0 : Nat) = ⟨7, 0, 0, 0, 0, 0, 0⟩ := by rw [e]; rfl
      rw [hp]
      rw [hl] at hsl hc hcap ⊢
      unfold rfEnd
      rw [if_neg (show ¬ (24 : Int) ≤ 0 by decide)]
      cases hr : rightB ⟨7, 0, 0, 0, 0, 0, 0⟩
      · rw [if_neg (by simp)]
        exact rf_7_bad b off cap l  hl hcap hm w hsl hc e  hr
      · rw [if_pos rfl]
        exact rf_7_ok b off cap l  hl hcap hm w hsl hc e  hr
    · rw [e] at hs
      have hz : sizeE (((8 : Nat)) : Int) = 1 := by decide
      have hl : l.length = 1 := by omega
      have hp : rfParse l (l.getD 0 0 : Nat) = ⟨8, 0, 0, 0, 0, 0, 0⟩ := by rw [e]; rfl
      rw [hp]
      rw [hl] at hsl hc hcap ⊢
      unfold rfEnd
      rw [if_neg (show ¬ (24 : Int) ≤ 0 by decide)]
      cases hr : rightB ⟨8, 0, 0, 0, 0, 0, 0⟩
      · rw [if_neg (by simp)]
        exact rf_8_bad b off cap l  hl hcap hm w hsl hc e  hr
      · rw [if_pos rfl]
        exact rf_8_ok b off cap l  hl hcap hm w hsl hc e  hr
    · rw [e] at hs
      have hz : sizeE (((9 : Nat)) : Int) = 1 := by decide
      have hl : l.length = 1 := by omega
      have hp : rfParse l (l.getD 0 0 : Nat) = ⟨9, 0, 0, 0, 0, 0, 0⟩ := by rw [e]; rfl
      rw [hp]
      rw [hl] at hsl hc hcap ⊢
      unfold rfEnd
      rw [if_neg (show ¬ (24 : Int) ≤ 0 by decide)]
      cases hr : rightB ⟨9, 0, 0, 0, 0, 0, 0⟩
      · rw [if_neg (by simp)]
        exact rf_9_bad b off cap l  hl hcap hm w hsl hc e  hr
      · rw [if_pos rfl]
        exact rf_9_ok b off cap l  hl hcap hm w hsl hc e  hr
  · have h1 : rfQ l = (zrq, 50) := by unfold rfQ; rw [if_pos (.inr (.inr hs))]
    rw [h1]
    exact rf_size b off cap l l.length _ _ (by omega) hcap hm w hk0 (by omega) rfl (by omega)
set_option maxHeartbeats 2000000 in
theorem lawRequestReads_walk (v0 : Value) (l : List Nat) (w : World) (hsl : Sl w v0 l) : Calls Try.prog 10 #[v0] w fun e w' => e = .returned (.bool true) ∧ Below w.heap.size w w' := by
  have heq := rd_rf hsl.bytes
  obtain ⟨ao, cap, rfl, hcap1, hcap2⟩ := hsl.open
  by_cases hl : 4000 < l.length
  · have d0 : decide (4000 < l.length) = true := by simpa using hl
    have d1 : decide ((4000 : Int) < (l.length : Int)) = true := by simp; omega
    clear hl heq
    go_enter Try.func10, Try.ntmps10
    go_wp2_with (go_at_call 25; refine (wakes08_any _).mono ?_; rintro e w1 ⟨rfl, hb⟩)
    go_ret
    exact ⟨rfl, hb⟩
  · have d0 : decide (4000 < l.length) = false := by simpa using hl
    have d1 : decide ((4000 : Int) < (l.length : Int)) = false := by simp; omega
    have PR := Lib.hid (fun w' (h : Sl w' (.slice ao l.length cap) l) => rdRead_any _ l w' h (by omega))
    have FR := Lib.hid (fun w' (h : Sl w' (.slice ao l.length cap) l) => rfRead_any _ l w' h)
    have HS := Lib.hid hsl
    rw [heq] at PR
    generalize (rfQ l).1 = q at PR FR
    generalize (rfQ l).2 = E at PR FR
    clear heq hsl hl
    go_enter Try.func10, Try.ntmps10
    go_wp2_with fail
    refine (PR.out w HS.out).mono ?_
    rintro e w1 ⟨rfl, hb⟩
    have HB1 := Lib.hid hb
    unfold Rq.cells
    clear hb
    go_wp2_with fail
    refine (FR.out _ ((HS.out.below HB1.out (Nat.le_refl _)).alloc _)).mono ?_
    rintro e w2 ⟨rfl, hb⟩
    have HB2 := Lib.hid (HB1.out.trans (((Below.refl _ _).alloc HB1.out.size _).trans (hb.mono (by have := HB1.out.size; simp; omega))))
    have hc := fun i (hi : i < 7) => hb.cell (p := ⟨w1.heap.size, i, none⟩) (by simp)
    have c0 := hc 0 (by omega)
    have c1 := hc 1 (by omega)
    have c2 := hc 2 (by omega)
    have c3 := hc 3 (by omega)
    have c4 := hc 4 (by omega)
    have c5 := hc 5 (by omega)
    have c6 := hc 6 (by omega)
    have hlt : w1.heap.size < w2.heap.size := by have := hb.size; simp at this; omega
    clear hb hc
    unfold Rq.cells
    simp at c0 c1 c2 c3 c4 c5 c6
    go_wp2_with (go_at_call 25; refine (wakes08_any _).mono ?_; rintro e w3 ⟨rfl, hb⟩)
    go_ret
    exact ⟨rfl, (HB2.out.alloc HB2.out.size _).trans (hb.mono (by have := HB2.out.size; simp; omega))⟩
end Go.Proofs.Ytcffabfaefbjcaa
