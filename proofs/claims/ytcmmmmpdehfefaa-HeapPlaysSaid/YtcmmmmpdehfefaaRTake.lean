/-
  The document's Take (chapter 15).
-/
import Derived.Test.YtcmmmmpdehfefaaRH
namespace Go.Proofs.Ytcmmmmpdehfefaa
set_option linter.unusedVariables false
set_option linter.unusedSimpArgs false
open Go.RowKit Go.Maps
theorem encL_append (a b : List (Int × Int)) : encL (a ++ b) = encL a ++ encL b := by unfold encL; simp
theorem encL_one (l : List (Int × Int)) : ∀ u ∈ encL l, u.oneCell' = true := by
  intro u hu
  unfold encL at hu
  obtain ⟨x, _, hx⟩ := List.mem_flatMap.1 hu
  simp [encP] at hx
  rcases hx with rfl | rfl <;> rfl
theorem encL_cells {w : World} {g o : Nat} {l : List (Int × Int)} (h : ∀ (j : Nat) (x : Int × Int), l[j]? = some x → w.cell? ⟨g, o + j * 2, none⟩ = some (.int .i64 x.1) ∧ w.cell? ⟨g, o + (j * 2 + 1), none⟩ = some (.int .i64 x.2)) :
    ∀ (j : Nat) (u : Value), (encL l)[j]? = some u → w.cell? ((⟨g, o, none⟩ : Addr).add j) = some u := by
  intro j u hu
  have hj : j < l.length * 2 := by have := (List.getElem?_eq_some_iff.1 hu).1; rw [encL_len] at this; omega
  have hi : j / 2 < l.length := by omega
  obtain ⟨x, hx⟩ : ∃ x, l[j / 2]? = some x := ⟨l[j / 2], List.getElem?_eq_getElem hi⟩
  obtain ⟨e1, e2⟩ := encL_get l (j / 2) x hx
  obtain ⟨c1, c2⟩ := h (j / 2) x hx
  rw [Addr.add_lit]
  rcases Nat.mod_two_eq_zero_or_one j with h0 | h0
  · rw [show 2 * (j / 2) = j by omega] at e1
    rw [hu] at e1; cases e1
    rw [show j = j / 2 * 2 by omega]; exact c1
  · rw [show 2 * (j / 2) + 1 = j by omega] at e2
    rw [hu] at e2; cases e2
    rw [show j = j / 2 * 2 + 1 by omega]; exact c2
/-- all but one client's first -/
def delK (c : Int) (l : List (Int × Int)) : List (Int × Int) := l.take (firstN c l) ++ l.drop (firstN c l + 1)
theorem delK_perm {c : Int} {l : List (Int × Int)} (h : (l.map Prod.snd).Nodup) : (delK c l).Perm (oth c l) := by
  unfold delK
  by_cases hlt : firstN c l < l.length
  · obtain ⟨y, hy⟩ : ∃ y, l[firstN c l]? = some y := ⟨l[firstN c l], List.getElem?_eq_getElem hlt⟩
    have hyc := (firstN_yes c l y hy).1
    have e : l = l.take (firstN c l) ++ y :: l.drop (firstN c l + 1) := by
      obtain ⟨_, h2⟩ := List.getElem?_eq_some_iff.1 hy
      rw [← h2, List.getElem_cons_drop, List.take_append_drop]
    have hp : (y :: (l.take (firstN c l) ++ l.drop (firstN c l + 1))).Perm l := by
      conv => rhs; rw [e]
      exact List.perm_middle.symm
    have hn := ((hp.map Prod.snd).nodup_iff).2 h
    rw [List.map_cons, List.nodup_cons] at hn
    have h2 := oth_perm (c := c) hp
    rw [show y = (y.1, c) from Prod.ext rfl hyc, oth_cons] at h2
    refine List.Perm.trans ?_ h2
    rw [oth_self]
    intro z hz ez
    have h9 := List.mem_map_of_mem (f := Prod.snd) hz
    rw [ez] at h9
    exact hn.1 (by rw [hyc]; exact h9)
  · have e : firstN c l = l.length := by have := firstN_le c l; omega
    rw [e, List.take_length, List.drop_of_length_le (by omega), List.append_nil]
    rw [oth_self]
    intro z hz ez
    obtain ⟨i, hi⟩ := List.getElem?_of_mem hz
    exact firstN_no c l i (by rw [e]; exact (List.getElem?_eq_some_iff.1 hi).1) z hi ez
theorem find_first {c : Int} {l : List (Int × Int)} : findK c l = l[firstN c l]? := by
  cases h : l[firstN c l]? with
  | none =>
    refine find_no fun z hz ez => ?_
    obtain ⟨i, hi⟩ := List.getElem?_of_mem hz
    have := List.getElem?_eq_none_iff.1 h
    exact firstN_no c l i (by have := (List.getElem?_eq_some_iff.1 hi).1; omega) z hi ez
  | some y =>
    unfold findK
    have hyc := (firstN_yes c l y h).1
    obtain ⟨h1, h2⟩ := List.getElem?_eq_some_iff.1 h
    refine List.find?_eq_some_iff_getElem.2 ⟨by simp [hyc], firstN c l, h1, h2, fun j hj => ?_⟩
    have := firstN_no c l j hj l[j] (List.getElem?_eq_getElem _)
    simp [this]
set_option maxHeartbeats 1000000 in
set_option maxRecDepth 100000 in
theorem rtake_no {w : World} {rb : Nat} {T : Nat → Prop} {l : List (Int × Int)} (h : RH w rb T l) (c : Int) (hno : firstN c l = l.length) :
    Calls Try.prog 19 #[.pointer (some ⟨rb, 0, none⟩), .int .i64 c] w fun e w' => e = .returned (.tuple #[.int .i64 0, .bool false]) ∧ w = w' := by
  have HAT := at_any h c
  rw [firstN_end c l hno] at HAT
  clear h hno
  go_enter Try.func19, Try.ntmps19
  go_wp2_with fail
  refine HAT.mono ?_
  rintro e w1 ⟨rfl, rfl⟩
  go_wp2_with fail
  go_ret2
  exact ⟨rfl, rfl⟩
theorem RH.parts {w : World} {rb : Nat} {T : Nat → Prop} {l : List (Int × Int)} (h : RH w rb T l) (hl : 0 < l.length) : ∃ g cap, w.heap[rb]? = some (.cells #[.slice (some ⟨g, 0, none⟩) l.length cap] 66 (0, 0)) ∧ T g ∧ g < w.heap.size ∧ rb < w.heap.size ∧ rb ≠ g ∧ l.length ≤ cap ∧ cap ≤ maxLen ∧
    ∀ (j : Nat) (x : Int × Int), l[j]? = some x → w.cell? ⟨g, 0 + j * 2, none⟩ = some (.int .i64 x.1) ∧ w.cell? ⟨g, 0 + (j * 2 + 1), none⟩ = some (.int .i64 x.2) := by
  obtain ⟨⟨v, h1, h2, h3⟩, h4, h5⟩ := h
  have hs := SlP.of_own h2
  obtain ⟨ao, cap, rfl, hc, hr⟩ := hs
  rcases h2.2 with ⟨e, e0⟩ | ⟨g, cap', cur, e, hb, hg, _, hm, _⟩
  · omega
  · injection e with e1 _ e3
    subst e1
    subst e3
    refine ⟨g, cap, h1, h3 g rfl, h5 g (h3 g rfl), h5 rb h4, fun e => ?_, hc, hm, fun j x hx => ?_⟩
    · subst e; rw [h1] at hg; injection hg with hg; injection hg with _ h6; cases h6
    · obtain ⟨b, eb, c1, c2⟩ := hr j x hx
      cases eb
      exact ⟨by rw [Nat.zero_add]; exact c1, by rw [Nat.zero_add]; exact c2⟩
set_option maxHeartbeats 2000000 in
set_option maxRecDepth 100000 in
theorem rtake_yes {w : World} {rb : Nat} {T : Nat → Prop} {l : List (Int × Int)} (h : RH w rb T l) (c : Int) (hlen : l.length ≤ 100000) (y : Int × Int) (hy : l[firstN c l]? = some y) :
    Calls Try.prog 19 #[.pointer (some ⟨rb, 0, none⟩), .int .i64 c] w fun e w' => e = .returned (.tuple #[.int .i64 y.1, .bool true]) ∧ ∃ T', RH w' rb T' (delK c l) ∧ Stp T T' w w' := by
  have HAT := Lib.hid (at_any h c)
  rw [(firstN_yes c l y hy).2] at HAT
  have hlt := (List.getElem?_eq_some_iff.1 hy).1
  obtain ⟨g, cap, htop, hTg, hg, hrb, hne, hcap, hmax, hcells⟩ := h.parts (by omega)
  obtain ⟨k, hk⟩ : ∃ k, firstN c l = k := ⟨_, rfl⟩
  obtain ⟨m, hm⟩ : ∃ m, l.length = m := ⟨_, rfl⟩
  have HD : Hid (delK c l = l.take k ++ l.drop (k + 1)) := Lib.hid (by rw [← hk]; rfl)
  rw [hk] at hy hlt HAT
  rw [hm] at hlt hcap htop hlen
  have c0 : w.cell? ⟨rb, 0, none⟩ = some (.slice (some ⟨g, 0, none⟩) m cap) := by rw [cell_of_row _ _ _ _ _ _ htop]; rfl
  have cy := (hcells k y hy).1
  rw [Nat.zero_add] at cy
  obtain ⟨i0, hi, hz0, hz1, hz2⟩ := info_parts i47
  have HI := Lib.hid hi
  have HZ0 := Lib.hid hz0
  have HZ1 := Lib.hid hz1
  have HZ2 := Lib.hid hz2
  have HC := Lib.hid hcells
  have HH := Lib.hid h
  have HTG := Lib.hid hTg
  have HTOP := Lib.hid htop
  have HM := Lib.hid hm
  have HG := Lib.hid hg
  have HRB := Lib.hid hrb
  have HNE := Lib.hid hne
  have HT1 : Hid ((encL (l.take k)).length = k * 2) := Lib.hid (by rw [encL_len, List.length_take]; omega)
  have HT2 : Hid ((encL (l.drop (k + 1))).length = (m - (k + 1)) * 2) := Lib.hid (by rw [encL_len, List.length_drop]; omega)
  have HN1 := Lib.hid (encL_cells (w := w) (g := g) (o := 0) (l := l.take k) fun j x hx => hcells j x (by rw [List.getElem?_take] at hx; split at hx; exact hx; cases hx))
  have HN2 := Lib.hid (encL_cells (w := w) (g := g) (o := (k + 1) * 2) (l := l.drop (k + 1)) fun j x hx => by
    have := hcells (k + 1 + j) x (by rw [List.getElem?_drop] at hx; exact hx)
    rw [show (k + 1) * 2 + j * 2 = 0 + (k + 1 + j) * 2 by omega, show (k + 1) * 2 + (j * 2 + 1) = 0 + ((k + 1 + j) * 2 + 1) by omega]
    exact this)
  obtain ⟨ad, had, hn2⟩ : ∃ ad : Addr, (if cap = k + 1 then some (⟨g, 0, none⟩ : Addr) else some ⟨g, (k + 1) * 2, none⟩) = some ad ∧ ∀ (j : Nat) (u : Value), (encL (l.drop (k + 1)))[j]? = some u → w.cell? (ad.add j) = some u := by
    by_cases hck : cap = k + 1
    · refine ⟨⟨g, 0, none⟩, by rw [if_pos hck], fun j u hu => ?_⟩
      rw [List.drop_of_length_le (by omega)] at hu
      simp [encL] at hu
    · exact ⟨_, by rw [if_neg hck], HN2.out⟩
  have HAD := Lib.hid had
  have HNA := Lib.hid hn2
  unfold maxLen at hmax
  clear had hn2
  clear h hy hi hz0 hz1 hz2 hcells hTg htop hk hm hne
  go_enter Try.func19, Try.ntmps19
  go_wp2_with fail
  refine HAT.out.mono ?_
  rintro e w1 ⟨rfl, rfl⟩
  go_wp2_with (first
    | (at_builtin; go_loud (refine wpList_append_own _ rfl (.tmp 24) (.tmp 30) 31 rfl w.heap.size 47 i0 (.agg #[.int .i64 0, .int .i64 0]) 2 16 u31 HI.out HZ0.out HZ1.out HZ2.out rfl (by decide) (.slice none 0 0) 0 [] rfl (World.ownsRow_nil _ _ _ _) ⟨g, 0, none⟩ k cap (encL (l.take k)) rfl HT1.out HN1.out (encL_one _) (by unfold maxLen; omega) (by omega) (Nat.le_refl _) ?_; intro v1 w1 hown1 hgr1 _; have c1 : w1.cell? ⟨rb, 0, none⟩ = some (.slice (some ⟨g, 0, none⟩) m cap) := hgr1.cell c0 (by simp [Value.ownBlock]); have HO1 := Lib.hid hown1; have HGR1 := Lib.hid hgr1; have HSZ1 := Lib.hid hgr1.size; have HN3 := Lib.hid (fun (j : Nat) (u : Value) (hu : (encL (l.drop (k + 1)))[j]? = some u) => hgr1.cell (HNA.out j u hu) (by simp [Value.ownBlock])); clear c0 cy hown1 hgr1))
    | (at_builtin; go_loud (refine wpList_append_own _ rfl (.tmp 33) (.tmp 40) 31 rfl w.heap.size 47 i0 (.agg #[.int .i64 0, .int .i64 0]) 2 16 u31 HI.out HZ0.out HZ1.out HZ2.out rfl (by decide) v1 (0 + k) ([] ++ encL (l.take k)) rfl HO1.out ad (m - (k + 1)) (cap - (k + 1)) (encL (l.drop (k + 1))) (congrArg (fun z => Value.slice z (m - (k + 1)) (cap - (k + 1))) HAD.out) HT2.out HN3.out (encL_one _) (by unfold maxLen; omega) (by omega) HSZ1.out ?_; intro v2 w2 hown2 hgr2 _; simp only [Nat.zero_add] at hown2; obtain ⟨ao2, cap2, hv2⟩ := own_shape hown2; subst hv2; have HO2 := Lib.hid hown2; have HGR2 := Lib.hid hgr2; clear c1 hown2 hgr2; have HRB2 : Hid (w2.heap[rb]? = some (.cells #[.slice (some ⟨g, 0, none⟩) m cap] 66 (0, 0))) := Lib.hid (by rw [HGR2.out.block rb (Nat.lt_of_lt_of_le HRB.out HSZ1.out) (fun e => by have := (HO1.out.lt rb e.symm).1; have := HRB.out; omega), HGR1.out.block rb HRB.out (by simp [Value.ownBlock])]; exact HTOP.out); have c2 : w2.cell? ⟨rb, 0, none⟩ = some (.slice (some ⟨g, 0, none⟩) m cap) := (by rw [cell_of_row _ _ _ _ _ _ HRB2.out]; rfl); have f2 : w2.frozen? ⟨rb, 0, none⟩ = false := frozen_of_row _ _ _ _ _ HRB2.out)))
  all_goals
    go_ret2
    have hv : (Value.slice ao2 (k + (m - (k + 1))) cap2).ownBlock ≠ some rb := fun e => by have := (HO2.out.lt rb e).1; have := HRB.out; omega
    refine ⟨rfl, fun k' => k' = rb ∨ (Value.slice ao2 (k + (m - (k + 1))) cap2).ownBlock = some k', ⟨⟨_, Go.heap_setCell_same _ _ _ _ _ _ HRB2.out, ?_, fun k hk => .inr hk⟩, .inl rfl, fun k hk => ?_⟩, fun k hk => ?_, ?_⟩
    · rw [HD.out, encL_append]
      have e : (l.take k ++ l.drop (k + 1)).length = k + (m - (k + 1)) := by rw [List.length_append, List.length_take, List.length_drop, HM.out]; omega
      rw [e]
      have h9 := ownsRow_set (ownsRow_low HO2.out) (a := ⟨rb, 0, none⟩) hv (.slice ao2 (k + (m - (k + 1))) cap2)
      simpa using h9
    · rw [World.size_setCell]
      rcases hk with rfl | hk
      · exact Nat.lt_of_lt_of_le (Nat.lt_of_lt_of_le HRB.out HSZ1.out) HGR2.out.size
      · exact (HO2.out.lt k hk).2
    · rcases hk with rfl | hk
      · exact .inl HH.out.rT
      · exact .inr (HO2.out.lt k hk).1
    · refine ⟨HGR2.out.os.trans HGR1.out.os, HGR2.out.tape.trans HGR1.out.tape, HGR2.out.output.trans HGR1.out.output, by rw [World.size_setCell]; exact Nat.le_trans HSZ1.out HGR2.out.size, fun k hk hn => ?_⟩
      rw [heap_setCell_other _ _ _ _ (fun e => hn (by have e2 : rb = k := (by first | exact e | exact e.symm); rw [← e2]; exact HH.out.rT)), HGR2.out.block k (Nat.lt_of_lt_of_le hk HSZ1.out) (fun e => by have := (HO1.out.lt k e.symm).1; omega), HGR1.out.block k hk (by simp [Value.ownBlock])]
end Go.Proofs.Ytcmmmmpdehfefaa
