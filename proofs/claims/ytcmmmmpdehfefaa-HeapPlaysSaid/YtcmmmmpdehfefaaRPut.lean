/-
  The document's Put (chapter 15).
-/
import Derived.Test.YtcmmmmpdehfefaaRTake
namespace Go.Proofs.Ytcmmmmpdehfefaa
set_option linter.unusedVariables false
set_option linter.unusedSimpArgs false
open Go.RowKit Go.Maps
theorem rtake_any {w : World} {rb : Nat} {T : Nat → Prop} {l : List (Int × Int)} (h : RH w rb T l) (c : Int) (hlen : l.length ≤ 100000) :
    Calls Try.prog 19 #[.pointer (some ⟨rb, 0, none⟩), .int .i64 c] w fun e w' => e = .returned (.tuple #[.int .i64 ((findK c l).elim 0 Prod.fst), .bool (findK c l).isSome]) ∧ ∃ T', RH w' rb T' (delK c l) ∧ Stp T T' w w' := by
  rw [find_first]
  cases hy : l[firstN c l]? with
  | none =>
    have e : firstN c l = l.length := by have := firstN_le c l; have := List.getElem?_eq_none_iff.1 hy; omega
    refine (rtake_no h c e).mono ?_
    rintro e' w' ⟨he, rfl⟩
    refine ⟨he, T, ?_, Stp.refl _ _⟩
    have : delK c l = l := by unfold delK; rw [e, List.take_length, List.drop_of_length_le (by omega), List.append_nil]
    rw [this]; exact h
  | some y => exact rtake_yes h c hlen y hy
def rputK (c x : Int) (l : List (Int × Int)) : List (Int × Int) := if c < 0 ∨ 1000 < c then l else delK c l ++ [(x, c)]
theorem delK_len (c : Int) (l : List (Int × Int)) : (delK c l).length ≤ l.length := by unfold delK; rw [List.length_append, List.length_take, List.length_drop]; omega
set_option maxHeartbeats 2000000 in
set_option maxRecDepth 100000 in
theorem rput_any {w : World} {rb : Nat} {T : Nat → Prop} {l : List (Int × Int)} (h : RH w rb T l) (c x : Int) (hlen : l.length ≤ 90000) :
    Calls Try.prog 17 #[.pointer (some ⟨rb, 0, none⟩), .int .i64 c, .int .i64 x] w fun e w' => e = .returned (.int .i64 (putE c)) ∧ ∃ T', RH w' rb T' (rputK c x l) ∧ Stp T T' w w' := by
  by_cases hr : c < 0 ∨ 1000 < c
  · have e0 : putE c = 2 := by unfold putE; rw [if_pos hr]
    have e1 : rputK c x l = l := by unfold rputK; rw [if_pos hr]
    rw [e0, e1]
    have H := Lib.hid h
    clear e0 e1 h
    by_cases h0 : c < 0
    · have d0 : decide (c < 0) = true := by simpa using h0
      clear hr h0
      go_enter Try.func17, Try.ntmps17
      go_wp2
      go_ret
      exact ⟨rfl, T, H.out, Stp.refl _ _⟩
    · have d0 : decide (c < 0) = false := by simpa using h0
      have d1 : decide (1000 < c) = true := by simp; omega
      clear hr h0
      go_enter Try.func17, Try.ntmps17
      go_wp2
      go_ret
      exact ⟨rfl, T, H.out, Stp.refl _ _⟩
  · have e0 : putE c = 0 := by unfold putE; rw [if_neg hr]
    have e1 : rputK c x l = delK c l ++ [(x, c)] := by unfold rputK; rw [if_neg hr]
    rw [e0, e1]
    have d0 : decide (c < 0) = false := by simp; omega
    have d1 : decide (1000 < c) = false := by simp; omega
    have HT := Lib.hid (rtake_any h c (by omega))
    have hdl : (delK c l).length ≤ 90000 := Nat.le_trans (delK_len c l) hlen
    obtain ⟨i0, hi, hz0, hz1, hz2⟩ := info_parts i47
    have HI := Lib.hid hi
    have HZ0 := Lib.hid hz0
    have HZ1 := Lib.hid hz1
    have HZ2 := Lib.hid hz2
    generalize delK c l = k at *
    clear h hr e0 e1 hi hz0 hz1 hz2
    go_enter Try.func17, Try.ntmps17
    go_wp2_with fail
    refine HT.out.mono ?_
    rintro e w1 ⟨rfl, T1, h1, hst⟩
    have H1 := Lib.hid h1
    have HST := Lib.hid hst
    obtain ⟨⟨v, htop, hown, hvT⟩, hrT, hTl⟩ := h1
    obtain ⟨ao, cap, hv⟩ := own_shape hown
    subst hv
    have hrb : rb < w1.heap.size := hTl rb hrT
    have hne : (Value.slice ao k.length cap).ownBlock ≠ some rb := fun e => by
      rcases hown.2 with ⟨e1, _⟩ | ⟨g, cap', cur, e1, _, hg, _⟩
      · rw [e1] at e; simp [Value.ownBlock] at e
      · rw [e1] at e; simp [Value.ownBlock] at e; subst e; rw [htop] at hg; injection hg with hg; injection hg with _ h6; cases h6
    have c0 : w1.cell? ⟨rb, 0, none⟩ = some (.slice ao k.length cap) := by rw [cell_of_row _ _ _ _ _ _ htop]; rfl
    have c1 : (w1.alloc (.cells #[.int .i64 x, .int .i64 c] 47)).cell? ⟨rb, 0, none⟩ = some (.slice ao k.length cap) := by rw [World.cell?_alloc_some _ _ _ (by rw [c0]; rfl)]; exact c0
    have HO := Lib.hid hown
    have HVT := Lib.hid hvT
    have HNE := Lib.hid hne
    have HTOP := Lib.hid htop
    have HRB := Lib.hid hrb
    clear hst htop hown hvT hrT hTl hne
    go_wp2_with (at_builtin; go_loud (refine wpList_append_keeps _ rfl (.tmp 22) (.tmp 26) 31 rfl 47 i0 (.agg #[.int .i64 0, .int .i64 0]) 2 16 u31 HI.out HZ0.out HZ1.out HZ2.out rfl (by decide) (.slice ao k.length cap) k.length (encL k) rfl (HO.out.alloc _) ⟨w1.heap.size, 0, none⟩ 1 1 [.int .i64 x, .int .i64 c] rfl rfl (by intro j u hu; match j, hu with | 0, hu => simp at hu; subst hu; simp [go_sem, Addr.add] | 1, hu => simp at hu; subst hu; simp [go_sem, Addr.add]) (by intro u hu; simp at hu; rcases hu with rfl | rfl <;> rfl) (by decide) (by unfold maxLen; omega) (by omega) ?_; intro v2 w2 hown2 hgr2 hk2; obtain ⟨ao2, cap2, hv2⟩ := own_shape hown2; subst hv2; have HO2 := Lib.hid hown2; have HGR2 := Lib.hid hgr2; have HK2 := Lib.hid hk2; have HRB2 : Hid (w2.heap[rb]? = some (.cells #[.slice ao k.length cap] 66 (0, 0))) := Lib.hid (by rw [hgr2.block rb (by simp; have := HRB.out; omega) (fun e => HNE.out e.symm), heap_alloc_old _ _ HRB.out]; exact HTOP.out); have c2 : w2.cell? ⟨rb, 0, none⟩ = some (.slice ao k.length cap) := (by rw [cell_of_row _ _ _ _ _ _ HRB2.out]; rfl); have f2 : w2.frozen? ⟨rb, 0, none⟩ = false := frozen_of_row _ _ _ _ _ HRB2.out; clear c0 c1 hown2 hgr2 hk2))
    all_goals
      go_ret
      have hnew : ∀ k', (Value.slice ao2 (k.length + 1) cap2).ownBlock = some k' → T1 k' ∨ w1.heap.size ≤ k' := fun k' hk' => (HK2.out k' hk').elim (fun h => .inl (HVT.out k' h)) (fun h => .inr (by simp at h; omega))
      have hsz : w1.heap.size < w2.heap.size := Nat.lt_of_lt_of_le (by simp) HGR2.out.size
      have hv : (Value.slice ao2 (k.length + 1) cap2).ownBlock ≠ some rb := fun e => by
        rcases HK2.out rb e with h | h
        · exact HNE.out h
        · simp at h; have := HRB.out; omega
      refine ⟨rfl, fun k' => k' = rb ∨ (Value.slice ao2 (k.length + 1) cap2).ownBlock = some k', ⟨⟨_, Go.heap_setCell_same _ _ _ _ _ _ HRB2.out, ?_, fun k hk => .inr hk⟩, .inl rfl, fun k' hk => ?_⟩, HST.out.trans ⟨fun k' hk => ?_, ?_⟩⟩
      · rw [encL_append]
        have e : (k ++ [(x, c)]).length = k.length + 1 := by simp
        rw [e]
        exact ownsRow_set (ownsRow_low HO2.out) (a := ⟨rb, 0, none⟩) hv _
      · rw [World.size_setCell]
        rcases hk with rfl | hk
        · exact Nat.lt_trans HRB.out hsz
        · exact (HO2.out.lt k' hk).2
      · rcases hk with rfl | hk
        · exact .inl H1.out.rT
        · exact hnew k' hk
      · refine ⟨HGR2.out.os, HGR2.out.tape, HGR2.out.output, by rw [World.size_setCell]; omega, fun k' hk hn => ?_⟩
        rw [heap_setCell_other _ _ _ _ (fun e => hn (by have e2 : rb = k' := (by first | exact e | exact e.symm); rw [← e2]; exact H1.out.rT)), HGR2.out.block k' (by simp; omega) (fun e => hn (HVT.out k' e.symm)), heap_alloc_old _ _ hk]
end Go.Proofs.Ytcmmmmpdehfefaa
