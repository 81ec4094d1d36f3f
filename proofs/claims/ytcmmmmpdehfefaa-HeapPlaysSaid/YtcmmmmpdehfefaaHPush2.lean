/-
  Push over the heap's state (chapter 15).
-/
import Derived.Test.YtcmmmmpdehfefaaHState
namespace Go.Proofs.Ytcmmmmpdehfefaa
set_option linter.unusedVariables false
set_option linter.unusedSimpArgs false
open Go.RowKit
theorem HG.row {w : World} {hb mb : Nat} {S : Nat → Prop} {L : List Pr} (h : HG w hb mb S L) (hn : L ≠ []) : ∃ rb cap, HTop w hb mb rb L.length cap ∧ HRow w rb cap L ∧ S rb := by
  obtain ⟨⟨v, h1, h2, h3⟩, h4, h5⟩ := h
  rcases h2 with ⟨_, h2⟩ | ⟨rb, cap, rfl, hr⟩
  · exact absurd h2 hn
  · exact ⟨rb, cap, h1, hr, h3 _ rfl⟩
theorem HG.of_row {w : World} {hb mb rb n cap : Nat} {S : Nat → Prop} {L : List Pr} (ht : HTop w hb mb rb n cap) (hr : HRow w rb cap L) (hn : L.length = n) (hb1 : S hb) (hrb : S rb) (hp : ∀ p ∈ L, S p.pb) : HG w hb mb S L := by
  subst hn
  exact ⟨⟨_, ht, .inr ⟨rb, cap, rfl, hr⟩, fun k hk => by cases hk; exact hrb⟩, hb1, hp⟩
theorem HG.lt {w : World} {hb mb : Nat} {S : Nat → Prop} {L : List Pr} (h : HG w hb mb S L) : hb < w.heap.size := by
  obtain ⟨⟨v, h1, h2, h3⟩, h4, h5⟩ := h
  exact (Array.getElem?_eq_some_iff.1 h1).1
set_option maxHeartbeats 1000000 in
theorem push_any (hb mb pb : Nat) (S : Nat → Prop) (L : List Pr) (n c : Int) (y : Value) (w : World) (h : HG w hb mb S L) (hlen : L.length ≤ 100000)
    (hp : w.heap[pb]? = some (.cells #[.int .i64 n, .int .i64 c, y] 58 (0, 0))) (hnew : ∀ p ∈ L, p.pb ≠ pb) (hS : S pb) :
    Calls Try.prog 79 #[.pointer (some ⟨hb, 0, none⟩), .iface 55 (.pointer (some ⟨pb, 0, none⟩))] w fun e w' => e = .returned (.tuple #[]) ∧ HG w' hb mb (more S w) (L ++ [⟨pb, n, c⟩]) ∧ Grow S w w' := by
  obtain ⟨⟨v, h1, h2, h3⟩, h4, h5⟩ := h
  have hown := h2.owns
  obtain ⟨ao, cap, rfl⟩ := own_shape hown
  have hne : hb ≠ pb := by
    rintro rfl
    rw [h1] at hp
    injection hp with hp
    injection hp with _ hp _
    cases hp
  have hro : (Value.slice ao L.length cap).ownBlock ≠ some pb := by
    intro he
    obtain ⟨cur, hc⟩ := h2.block he
    rw [hp] at hc
    injection hc with hp
    injection hp with _ hp _
    cases hp
  have hrh : (Value.slice ao L.length cap).ownBlock ≠ some hb := by
    intro he
    obtain ⟨cur, hc⟩ := h2.block he
    rw [h1] at hc
    injection hc with hp
    injection hp with _ hp _
    cases hp
  have hlb : hb < w.heap.size := (Array.getElem?_eq_some_iff.1 h1).1
  have hlp : pb < w.heap.size := (Array.getElem?_eq_some_iff.1 hp).1
  refine (push_raw hb pb L.length cap ao (L.map Pr.val) y w (by rw [cell_of_row _ _ _ _ _ _ h1]; rfl) (frozen_of_row _ _ _ _ _ h1) hown (by rw [cell_of_row _ _ _ _ _ _ hp]; rfl) (frozen_of_row _ _ _ _ _ hp) hne hro hrh hlen).mono ?_
  rintro e w' ⟨rfl, v', w1, hown1, hg, rfl, hk'⟩
  have hbk : ∀ k, k < w.heap.size → some k ≠ (Value.slice ao L.length cap).ownBlock → k ≠ hb → (w1.setCell ⟨hb, 0, none⟩ v').heap[k]? = (w.setCell ⟨pb, 2, none⟩ (.int .i64 (L.length : Int))).heap[k]? := by
    intro k hk1 hk2 hk3
    rw [heap_setCell_other _ _ _ _ hk3, hg.block k (by simp; omega) hk2, heap_alloc_old _ _ (by simpa using hk1)]
  have hw1 : w1.heap[hb]? = some (.cells #[.slice ao L.length cap, .map (some mb)] 54 (0, 0)) := by
    rw [hg.block hb (by simp; omega) (Ne.symm hrh), heap_alloc_old _ _ (by simpa using hlb), heap_setCell_other _ _ _ _ hne]; exact h1
  have hpb' : (w1.setCell ⟨hb, 0, none⟩ v').heap[pb]? = some (.cells (Pr.cells ⟨pb, n, c⟩ L.length) 58 (0, 0)) := by
    rw [hbk pb hlp (Ne.symm hro) (Ne.symm hne), Go.heap_setCell_same _ _ _ _ _ _ hp]; rfl
  have hlp' : ∀ (p : Pr), p ∈ L → (w1.setCell ⟨hb, 0, none⟩ v').heap[p.pb]? = w.heap[p.pb]? := by
    intro p hpm
    obtain ⟨i, hi⟩ := List.getElem?_of_mem hpm
    have hpc := h2.pair i p hi
    have e1 : p.pb ≠ hb := by
      intro e; rw [e, h1] at hpc
      injection hpc with hpc
      injection hpc with _ hpc _
      cases hpc
    have e2 : some p.pb ≠ (Value.slice ao L.length cap).ownBlock := by
      intro e
      obtain ⟨cur, hc⟩ := h2.block e.symm
      rw [hpc] at hc
      injection hc with hp
      injection hp with _ hp _
      cases hp
    rw [hbk _ (Array.getElem?_eq_some_iff.1 hpc).1 e2 e1, heap_setCell_other _ _ _ _ (hnew p hpm)]
  refine ⟨rfl, ⟨⟨v', ?_, ?_, ?_⟩, .inl h4, ?_⟩, ⟨?_, ?_, ?_, ?_, ?_⟩⟩
  · rw [Go.heap_setCell_same _ _ _ _ _ _ hw1]; rfl
  · refine RowV.of_owns ?_ ?_ ?_
    · have hno : v'.ownBlock ≠ some hb := by
        intro hh
        rcases hk' _ hh with h9 | h9
        · exact hrh h9
        · omega
      have := ownsRow_set hown1 (a := ⟨hb, 0, none⟩) hno v'
      simpa [Pr.val] using this
    · intro i p hi
      rw [List.getElem?_append] at hi
      split at hi
      · rw [hlp' p (List.mem_of_getElem? hi)]
        exact h2.pair i p hi
      · rename_i hge
        have : i - L.length = 0 := by
          rcases Nat.eq_zero_or_pos (i - L.length) with h0 | h0
          · exact h0
          · rw [List.getElem?_eq_none (by simp; omega)] at hi; cases hi
        rw [this] at hi
        cases hi
        have : i = L.length := by omega
        subst this
        exact hpb'
    · intro i j p q hi hj hpq
      rw [List.getElem?_append] at hi hj
      split at hi
      · split at hj
        · exact h2.apart i j p q hi hj hpq
        · have := List.mem_of_getElem? hj
          simp at this
          subst this
          exact absurd hpq (hnew p (List.mem_of_getElem? hi))
      · split at hj
        · have := List.mem_of_getElem? hi
          simp at this
          subst this
          exact absurd hpq.symm (hnew q (List.mem_of_getElem? hj))
        · have h8 := (List.getElem?_eq_some_iff.1 hi).1
          have h9 := (List.getElem?_eq_some_iff.1 hj).1
          simp at h8 h9
          omega
  · intro k hk
    rcases hk' k hk with h9 | h9
    · exact .inl (h3 k h9)
    · exact .inr h9
  · intro p hpm
    rcases List.mem_append.1 hpm with hpm | hpm
    · exact .inl (h5 p hpm)
    · cases List.mem_singleton.1 hpm
      exact .inl hS
  · exact hg.os
  · exact hg.tape
  · exact hg.output
  · rw [World.size_setCell]; exact Nat.le_trans (by simp) hg.size
  · intro k hk hs
    rw [hbk k hk (fun hh => hs (h3 k hh.symm)) (fun hh => hs (by rw [hh]; exact h4)), heap_setCell_other _ _ _ _ (fun hh => hs (by rw [hh]; exact hS))]
end Go.Proofs.Ytcmmmmpdehfefaa
