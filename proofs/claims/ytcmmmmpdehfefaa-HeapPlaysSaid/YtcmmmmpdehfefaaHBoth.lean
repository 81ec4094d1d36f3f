/-
  The heap and the document's heap, side by side (chapter 15).
-/
import Derived.Test.YtcmmmmpdehfefaaRPop
import Derived.Test.YtcmmmmpdehfefaaHPops
namespace Go.Proofs.Ytcmmmmpdehfefaa
set_option linter.unusedVariables false
set_option linter.unusedSimpArgs false
open Go.RowKit Go.Maps
structure BSt (w wr : World) (hb mb rb n : Nat) (L : List Pr) (S : Nat → Prop) (l : List (Int × Int)) (T : Nat → Prop) : Prop where
  one : One w wr hb mb n L S
  heap : IsHeap L
  ref : RH wr rb T l
  apart : ∀ k, own S mb k → ¬ T k
  tw : ∀ k, T k → w.heap.size ≤ k
theorem BSt.left {w wr w' : World} {hb mb rb n n' : Nat} {L L' : List Pr} {S S' : Nat → Prop} {l : List (Int × Int)} {T : Nat → Prop} (h : BSt w wr hb mb rb n L S l T) (ho : One w w' hb mb n' L' S') (hs : Step S S' mb wr w') (hh : IsHeap L') : BSt w w' hb mb rb n' L' S' l T := by
  refine ⟨ho, hh, h.ref.kept hs.2.size fun k hk ht => hs.2.block k hk fun hx => h.apart k hx ht, fun k hk ht => ?_, h.tw⟩
  have := h.ref.lt k ht
  exact (hs.1 k hk).elim (fun h1 => h.apart k h1 ht) (fun h1 => by omega)
theorem BSt.right {w wr w' : World} {hb mb rb n : Nat} {L : List Pr} {S : Nat → Prop} {l l' : List (Int × Int)} {T T' : Nat → Prop} (h : BSt w wr hb mb rb n L S l T) (hr : RH w' rb T' l') (hs : Stp T T' wr w') : BSt w w' hb mb rb n L S l' T' := by
  have hsz := h.one.sz.size
  have hne : ∀ k, T k → w.heap.size ≤ k := h.tw
  refine ⟨⟨h.one.1.kept hs.2.size fun k hk ho => hs.2.block k hk fun ht => h.apart k ho ht, h.one.2.1, ⟨hs.2.os.trans h.one.sz.os, hs.2.tape.trans h.one.sz.tape, hs.2.output.trans h.one.sz.output, Nat.le_trans hsz hs.2.size, fun k hk => ?_⟩⟩, h.heap, hr, fun k hk ht => ?_, fun k hk => ?_⟩
  · rw [hs.2.block k (by omega) (fun ht => by have := hne k ht; omega)]
    exact h.one.sz.block k hk
  · have := h.one.1.own_lt k hk
    exact (hs.1 k ht).elim (fun h1 => h.apart k hk h1) (fun h1 => by omega)
  · exact (hs.1 k hk).elim (fun h1 => h.tw k h1) (fun h1 => Nat.le_trans hsz h1)
theorem BSt.below {w wr w' : World} {hb mb rb n : Nat} {L : List Pr} {S : Nat → Prop} {l : List (Int × Int)} {T : Nat → Prop} (h : BSt w wr hb mb rb n L S l T) (hb' : Below wr.heap.size wr w') : BSt w w' hb mb rb n L S l T :=
  ⟨h.one.below hb', h.heap, h.ref.below hb', h.apart, h.tw⟩
theorem XB.stp {w w' : World} {b : Nat} {x : Ac} {T T' : Nat → Prop} (h : XB w b x) (ho : ¬ T b) (hs : Stp T T' w w') : XB w' b x := by
  unfold XB at *
  rw [hs.2.block b (Array.getElem?_eq_some_iff.1 h).1 ho]; exact h
theorem XB.below {w w' : World} {b : Nat} {x : Ac} (h : XB w b x) (hb : Below w.heap.size w w') : XB w' b x := by
  unfold XB at *
  rw [hb.block b (Array.getElem?_eq_some_iff.1 h).1]; exact h
/-- of a list of unlike clients -/
theorem find_in {c : Int} {l : List (Int × Int)} {y : Int × Int} (ho : (l.map Prod.snd).Nodup) (hy : y ∈ l) (hc : y.2 = c) : findK c l = some y := by
  induction l with
  | nil => cases hy
  | cons z l ih =>
    rw [List.map_cons, List.nodup_cons] at ho
    unfold findK
    rw [List.find?_cons]
    by_cases he : z.2 = c
    · have : (z.2 == c) = true := by simp [he]
      rw [this]
      rcases List.mem_cons.1 hy with rfl | hy
      · rfl
      · exact absurd (show z.2 ∈ l.map Prod.snd from by rw [he, ← hc]; exact List.mem_map_of_mem hy) ho.1
    · have : (z.2 == c) = false := by simp [he]
      rw [this]
      rcases List.mem_cons.1 hy with rfl | hy
      · exact absurd hc he
      · exact ih ho.2 hy
theorem find_perm {c : Int} {l m : List (Int × Int)} (ho : (l.map Prod.snd).Nodup) (h : l.Perm m) : findK c l = findK c m := by
  cases hf : findK c m with
  | none =>
    refine find_no fun y hy e => ?_
    have := List.find?_eq_none.1 hf y (h.mem_iff.1 hy)
    simp [e] at this
  | some y =>
    have h1 : (y.2 == c) = true := List.find?_some (p := fun z : Int × Int => z.2 == c) hf
    exact find_in ho (h.mem_iff.2 (List.mem_of_find?_eq_some hf)) (by simpa using h1)
theorem One.nodup {w wr : World} {hb mb n : Nat} {L : List Pr} {S : Nat → Prop} (h : One w wr hb mb n L S) : ((L.map prP).map Prod.snd).Nodup := by
  rw [List.map_map]; exact h.1.one
theorem rputK_perm {c x : Int} {l m : List (Int × Int)} (h : l.Perm m) (ho : (l.map Prod.snd).Nodup) : (putK c x l).Perm (rputK c x m) := by
  unfold putK rputK
  split
  · exact h
  · have hom : (m.map Prod.snd).Nodup := ((h.map Prod.snd).nodup_iff).1 ho
    refine (((oth_perm h).trans (delK_perm hom).symm).cons _).trans ?_
    exact List.perm_append_comm (l₁ := [(x, c)])
theorem hd_rhd {L : List Pr} {l : List (Int × Int)} (hh : IsHeap L) (h : (L.map prP).Perm l) : hd L = rhd l ∧
    ((L.tail).map prP).Perm (match sortP l with | [] => l | y :: _ => oth y.2 l) ∨ ¬ ((L.map prP).map Prod.snd).Nodup := by
  by_cases hn : ((L.map prP).map Prod.snd).Nodup
  · left
    have hs := sortP_perm l
    have hst := sortP_sorted l
    unfold rhd
    cases hsl : sortP l with
    | nil =>
      rw [hsl] at hs
      have hl : l = [] := hs.symm.eq_nil
      rw [hl] at h
      have hL : L = [] := by have := h.length_eq; simpa using this
      subst hL
      subst hl
      exact ⟨rfl, List.Perm.refl _⟩
    | cons y rest =>
      rw [hsl] at hs hst
      cases L with
      | nil => have h1 := h.length_eq; have h2 := hs.length_eq; simp at h1 h2; omega
      | cons p M =>
        have hp : ((p :: M).map prP).Perm (y :: rest) := h.trans hs.symm
        have hy := pop_least hh hp hst
        have e1 : p.c = y.2 := congrArg Prod.snd hy
        have e2 : p.n = y.1 := congrArg Prod.fst hy
        refine ⟨by unfold hd; simp only [e1, e2], ?_⟩
        have h3 := oth_perm (c := y.2) h
        have h4 : oth y.2 ((p :: M).map prP) = M.map prP := by
          rw [List.map_cons, hy, show y = (y.1, y.2) from rfl, oth_cons]
          refine oth_self fun z hz e => ?_
          rw [List.map_cons, List.map_cons, List.nodup_cons] at hn
          exact hn.1 (by rw [hy, ← e]; exact List.mem_map_of_mem hz)
        rw [h4] at h3
        exact h3
  · right; exact hn
/-- what the document's Pop leaves -/
def rpopL (l : List (Int × Int)) : List (Int × Int) := match sortP l with | [] => l | y :: _ => delK y.2 l
theorem rpop2 {w : World} {rb : Nat} {T : Nat → Prop} {l : List (Int × Int)} (h : RH w rb T l) (hlen : l.length ≤ 90000) :
    Calls Try.prog 21 #[.pointer (some ⟨rb, 0, none⟩)] w fun e w' => e = .returned (rhd l) ∧ ∃ T', RH w' rb T' (rpopL l) ∧ Stp T T' w w' := rpop_any h hlen
theorem hd_rhd2 {L : List Pr} {l : List (Int × Int)} (hh : IsHeap L) (h : (L.map prP).Perm l) (hn : ((L.map prP).map Prod.snd).Nodup) : hd L = rhd l ∧ ((L.tail).map prP).Perm (rpopL l) := by
  obtain ⟨h1, h2⟩ := (hd_rhd hh h).resolve_right (fun hx => hx hn)
  refine ⟨h1, h2.trans ?_⟩
  have hnl := ((h.map Prod.snd).nodup_iff).1 hn
  unfold rpopL
  cases sortP l with
  | nil => exact List.Perm.refl _
  | cons y rest => exact (delK_perm hnl).symm
theorem BSt.new (w w1 w2 : World) (h1 : w1 = (w.alloc (.map #[] 0)).alloc (.cells #[.slice none 0 0, .map (some w.heap.size)] 54)) (h2 : w2 = w1.alloc (.cells #[.slice none 0 0] 66)) :
    BSt w w2 (w.heap.size + 1) w.heap.size (w.heap.size + 1 + 1) 0 [] (fun k => k = w.heap.size + 1) [] (fun k => k = w.heap.size + 1 + 1) := by
  have o := One.new w
  rw [← h1] at o
  have hsz : w1.heap.size = w.heap.size + 1 + 1 := by rw [h1]; simp
  have b2 : Below w1.heap.size w1 w2 := by rw [h2]; exact (Below.refl w1.heap.size w1).alloc (Nat.le_refl _) _
  have r := RH.new w1
  rw [hsz, ← h2] at r
  exact ⟨o.below b2, Keeps.heap.nil, r, fun k hk ht => by rcases hk with hk | hk <;> omega, fun k hk => by omega⟩
end Go.Proofs.Ytcmmmmpdehfefaa
