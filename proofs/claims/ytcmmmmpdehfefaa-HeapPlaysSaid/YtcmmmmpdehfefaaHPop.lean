/-
  (*rows).Pop, first, ahead (chapter 15).
-/
import Derived.Test.YtcmmmmpdehfefaaHPush2
namespace Go.Proofs.Ytcmmmmpdehfefaa
set_option linter.unusedVariables false
set_option linter.unusedSimpArgs false
open Go.RowKit
set_option maxHeartbeats 1000000 in
set_option maxRecDepth 100000 in
theorem pop_raw (hb rb m cap : Nat) (p : Value) (w : World) (hc : w.cell? ⟨hb, 0, none⟩ = some (.slice (some ⟨rb, 0, none⟩) (m + 1) cap)) (hf : w.frozen? ⟨hb, 0, none⟩ = false) (hp : w.cell? ⟨rb, m, none⟩ = some p) (hpp : ∃ a, p = .pointer a) (hle : m + 1 ≤ cap) (hm : cap ≤ 9223372036854775807) :
    Calls Try.prog 78 #[.pointer (some ⟨hb, 0, none⟩)] w fun e w' => e = .returned (.iface 55 p) ∧ w' = w.setCell ⟨hb, 0, none⟩ (.slice (some ⟨rb, 0, none⟩) m cap) := by
  obtain ⟨a, rfl⟩ := hpp
  have h1 : ((m + 1 : Nat) : Int) - 1 = (m : Int) := by omega
  have h2 : (m : Int) ≤ 9223372036854775806 := by omega
  have h3 : m ≤ cap := by omega
  have h4 : (m : Int) < ((m + 1 : Nat) : Int) := by omega
  go_enter Try.func78, Try.ntmps78
  go_wp2
  go_ret
  exact ⟨rfl, rfl⟩
theorem HRow.front {w : World} {rb cap : Nat} {L : List Pr} {p : Pr} (h : HRow w rb cap (L ++ [p])) : HRow w rb cap L := by
  obtain ⟨⟨cur, h1, h2, h3⟩, h4, h5, h6, h7⟩ := h
  have hi : ∀ (i : Nat) (q : Pr), L[i]? = some q → (L ++ [p])[i]? = some q := fun i q hq => by
    rw [List.getElem?_append_left (List.getElem?_eq_some_iff.1 hq).1]; exact hq
  refine ⟨⟨cur, h1, h2, fun i hl => ?_⟩, by simp at h4; omega, h5, fun i q hq => h6 i q (hi i q hq), fun i j q r hq hr => h7 i j q r (hi i q hq) (hi j r hr)⟩
  rw [h3 i (by simp; omega), List.getElem?_append_left hl]
theorem pop_any (hb mb : Nat) (S : Nat → Prop) (L : List Pr) (p : Pr) (w : World) (h : HG w hb mb S (L ++ [p])) :
    Calls Try.prog 78 #[.pointer (some ⟨hb, 0, none⟩)] w fun e w' => e = .returned (.iface 55 p.val) ∧ HG w' hb mb S L ∧ Touch (fun k => k = hb) w w' ∧ w'.heap[p.pb]? = some (.cells (p.cells L.length) 58 (0, 0)) := by
  obtain ⟨rb, cap, ht, hr, hrb⟩ := h.row (by simp)
  have hlen := hr.len
  simp only [List.length_append, List.length_cons, List.length_nil] at hlen
  have hc := ht.cell
  simp only [List.length_append, List.length_cons, List.length_nil] at hc
  have hp : (L ++ [p])[L.length]? = some p := by simp
  refine (pop_raw hb rb L.length cap p.val w hc (frozen_of_row _ _ _ _ _ ht) (hr.cell hp).1 ⟨_, rfl⟩ hlen hr.max).mono ?_
  rintro e w' ⟨rfl, rfl⟩
  have hto : Touch (fun k => k = hb) w (w.setCell ⟨hb, 0, none⟩ (.slice (some ⟨rb, 0, none⟩) L.length cap)) := (Touch.refl (fun k => k = hb) w).setCell (p := ⟨hb, 0, none⟩) (show hb = hb from rfl) _
  refine ⟨rfl, HG.of_row (rb := rb) (n := L.length) (cap := cap) ?_ ?_ rfl h.hbS hrb (fun q hq => h.prS q (List.mem_append_left _ hq)), hto, ?_⟩
  · unfold HTop
    rw [Go.heap_setCell_same _ _ _ _ _ _ ht]; rfl
  · refine hr.front.kept fun k hk => hto.block k ?_
    intro he
    refine ht.not_in hr (he ▸ ?_)
    rcases hk with rfl | ⟨q, hq, rfl⟩
    · exact .inl rfl
    · exact .inr ⟨q, List.mem_append_left _ hq, rfl⟩
  · rw [hto.block _ (fun he => ht.not_in hr (he ▸ .inr ⟨p, by simp, rfl⟩))]
    exact hr.pair _ _ hp
set_option maxRecDepth 100000 in
theorem first_raw (hb rb n cap : Nat) (p : Value) (w : World) (hc : w.cell? ⟨hb, 0, none⟩ = some (.slice (some ⟨rb, 0, none⟩) n cap)) (hp : w.cell? ⟨rb, 0, none⟩ = some p) (hpp : ∃ a, p = .pointer a) (hn : 0 < n) (hm : n ≤ 9223372036854775807) :
    Calls Try.prog 80 #[.pointer (some ⟨hb, 0, none⟩)] w fun e w' => e = .returned p ∧ w' = w := by
  obtain ⟨a, rfl⟩ := hpp
  have h4 : (0 : Int) < (n : Int) := by omega
  go_enter Try.func80, Try.ntmps80
  go_wp2
  go_ret
  exact ⟨rfl, rfl⟩
set_option maxRecDepth 100000 in
theorem ahead_any (hb mb : Nat) (S : Nat → Prop) (L : List Pr) (p : Pr) (w : World) (h : HG w hb mb S L) (hp : L[0]? = some p) :
    Calls Try.prog 34 #[.iface 60 (.pointer (some ⟨hb, 0, none⟩))] w fun e w' => e = .returned p.val ∧ w' = w := by
  have hlt := (List.getElem?_eq_some_iff.1 hp).1
  obtain ⟨rb, cap, ht, hr, hrb⟩ := h.row (by rintro rfl; simp at hlt)
  have hlen := hr.len
  have hmax := hr.max
  have HF := Lib.hid (first_raw hb rb L.length cap p.val w ht.cell (hr.cell hp).1 ⟨_, rfl⟩ hlt (by omega))
  have hm := met_first ⟨hb, 0, none⟩ w
  simp [Try.t60] at hm
  clear hlt ht hr hrb hlen hmax h hp
  go_enter Try.func34, Try.ntmps34
  go_wp2_with fail
  refine HF.out.mono ?_
  rintro e w' ⟨rfl, rfl⟩
  unfold Pr.val
  go_wp2_with fail
  go_ret
  exact ⟨rfl, rfl⟩
end Go.Proofs.Ytcmmmmpdehfefaa
