/-
  What request.Bytes tells (chapter 08).
-/
import Derived.Test.YtcffabfaefbjcaaReqW
namespace Go.Proofs.Ytcffabfaefbjcaa
set_option linter.unusedVariables false
open Go.RowKit
/-- a request whose To is one more -/
def Rq.up (r : Rq) : Rq := { r with o := r.o + 1 }
def bytesStep (r : Rq) (b : List Nat) (f : Nat) : List Nat := putL b (r.up.num f) (wd f)
def bytesT (r : Rq) (l : List Nat) (j : Nat) : List Nat := (l.take j).foldl (bytesStep r) [r.k.toNat]
theorem bytesT_succ (r : Rq) (l : List Nat) (j f : Nat) (h : l[j]? = some f) : bytesT r l (j + 1) = putL (bytesT r l j) (r.up.num f) (wd f) := by
  obtain ⟨hlt, rfl⟩ := List.getElem?_eq_some_iff.1 h
  unfold bytesT
  rw [List.take_succ_eq_append_getElem hlt, List.foldl_append]
  rfl
theorem le_len : ∀ (k n : Nat), (le k n).length = k := le_length
theorem putL_length (l : List Nat) (n k : Int) : (putL l n k).length ≤ l.length + 6 := by
  unfold putL
  split
  · rename_i h
    rw [List.length_append, le_length]; omega
  · simp
theorem bytesT_length (r : Rq) (l : List Nat) : ∀ j, (bytesT r l j).length ≤ 1 + 6 * j
  | 0 => by simp [bytesT]
  | j + 1 => by
    have h := bytesT_length r l j
    cases hf : l[j]? with
    | some f => rw [bytesT_succ r l j f hf]; have := putL_length (bytesT r l j) (r.up.num f) (wd f); omega
    | none =>
      have hl : l.length ≤ j := List.getElem?_eq_none_iff.1 hf
      have e : bytesT r l (j + 1) = bytesT r l j := by unfold bytesT; rw [List.take_of_length_le (by omega), List.take_of_length_le hl]
      rw [e]; omega
/-- the world at the loop's head -/
structure BStart (r : Rq) (w w3 : World) (l : List Nat) (b : Nat) : Prop where
  box : ∀ i, w3.cell? ⟨w.heap.size, i, none⟩ = r.up.cells[i]?
  below : Below w.heap.size w w3
  lt : w.heap.size < w3.heap.size
  own : w3.heap[b]? = some (.cells (l.map fun n : Nat => Value.int .i64 (n : Int)).toArray 3)
theorem bstart {r : Rq} {w w1 w2 : World} {cs : Array Value} {t : TypeId} {l : List Nat} {b : Nat} (h1 : Below (w.alloc (.cells r.cells 34)).heap.size (w.alloc (.cells r.cells 34)) w1) (h2 : Below (w1.alloc (.cells cs t)).heap.size (w1.alloc (.cells cs t)) w2)
    (hc : w2.heap[b]? = some (.cells (l.map fun n : Nat => Value.int .i64 (n : Int)).toArray 3)) : BStart r w (w2.setCell ⟨w.heap.size, 6, none⟩ (.int .i64 (r.o + 1))) l b := by
  have s1 : w.heap.size < w1.heap.size := by have := h1.size; simp at this; omega
  have s2 : w1.heap.size < w2.heap.size := by have := h2.size; simp at this; omega
  have e1 : w1.heap[w.heap.size]? = some (.cells r.cells 34 (0, 0)) := by rw [h1.block _ (by simp)]; exact heap_alloc_new _ _
  have e2 : w2.heap[w.heap.size]? = some (.cells r.cells 34 (0, 0)) := by rw [h2.block _ (by simp; omega), heap_alloc_old _ _ s1]; exact e1
  have e3 := heap_setCell_same w2 w.heap.size 6 r.cells 34 (.int .i64 (r.o + 1)) e2
  refine ⟨fun i => ?_, ?_, by rw [World.size_setCell]; omega, ?_⟩
  · rw [cell_of_row _ _ _ _ _ _ e3]; rfl
  · exact ((((Below.refl _ _).alloc (Nat.le_refl _) _).trans (h1.mono (by simp))).trans ((((Below.refl _ _).alloc (Nat.le_refl _) _).trans (h2.mono (by simp))).mono (by omega))).setCell (Nat.le_refl _) _
  · rw [heap_setCell_other _ _ _ _ (by show b ≠ w.heap.size; intro e; subst e; rw [e2] at hc; injection hc with hc; injection hc with _ h34 _; cases h34)]; exact hc
theorem bbelow {r : Rq} {w w1 w2 : World} {cs : Array Value} {t : TypeId} (h1 : Below (w.alloc (.cells r.cells 34)).heap.size (w.alloc (.cells r.cells 34)) w1) (h2 : Below (w1.alloc (.cells cs t)).heap.size (w1.alloc (.cells cs t)) w2) (x : Value) :
    Below w.heap.size w (w2.setCell ⟨w.heap.size, 6, none⟩ x) := by
  have s1 : w.heap.size < w1.heap.size := by have := h1.size; simp at this; omega
  exact ((((Below.refl _ _).alloc (Nat.le_refl _) _).trans (h1.mono (by simp))).trans ((((Below.refl _ _).alloc (Nat.le_refl _) _).trans (h2.mono (by simp))).mono (by omega))).setCell (Nat.le_refl _) _
theorem bbox {r : Rq} {w w1 w2 : World} {cs : Array Value} {t : TypeId} (h1 : Below (w.alloc (.cells r.cells 34)).heap.size (w.alloc (.cells r.cells 34)) w1) (h2 : Below (w1.alloc (.cells cs t)).heap.size (w1.alloc (.cells cs t)) w2) :
    w2.cell? ⟨w.heap.size, 6, none⟩ = some (.int .i64 r.o) ∧ w2.frozen? ⟨w.heap.size, 6, none⟩ = false ∧ w.heap.size < w2.heap.size := by
  have s1 : w.heap.size < w1.heap.size := by have := h1.size; simp at this; omega
  have s2 : w1.heap.size < w2.heap.size := by have := h2.size; simp at this; omega
  have e1 : w1.heap[w.heap.size]? = some (.cells r.cells 34 (0, 0)) := by rw [h1.block _ (by simp)]; exact heap_alloc_new _ _
  have e2 : w2.heap[w.heap.size]? = some (.cells r.cells 34 (0, 0)) := by rw [h2.block _ (by simp; omega), heap_alloc_old _ _ s1]; exact e1
  exact ⟨by rw [cell_of_row _ _ _ _ _ _ e2]; rfl, frozen_of_row _ _ _ _ _ e2, by omega⟩
theorem bown {r : Rq} {w w1 w2 : World} {x : Value} (hk : 0 ≤ r.k ∧ r.k ≤ 9) (h1 : Below (w.alloc (.cells r.cells 34)).heap.size (w.alloc (.cells r.cells 34)) w1) (h2 : Below (w1.alloc (.cells #[.int .u8 r.k] 5)).heap.size (w1.alloc (.cells #[.int .u8 r.k] 5)) w2) :
    Own 5 w.heap.size (w2.setCell ⟨w.heap.size, 6, none⟩ x) (.slice (some ⟨w1.heap.size, 0, none⟩) 1 1) [r.k.toNat] := by
  have s1 : w.heap.size < w1.heap.size := by have := h1.size; simp at this; omega
  refine ⟨IsBytes.one (by omega), rfl, .inr ⟨w1.heap.size, 1, #[.int .u8 r.k], rfl, by omega, ?_, Nat.le_refl _, by unfold maxLen; omega, rfl, ?_⟩⟩
  · rw [heap_setCell_other _ _ _ _ (by show w1.heap.size ≠ w.heap.size; omega), h2.block _ (by simp)]
    exact heap_alloc_new _ _
  · simp [bv]; omega
theorem BStart.num {r : Rq} {w w3 wr : World} {l : List Nat} {b f : Nat} (h : BStart r w w3 l b) (hb : Below w3.heap.size w3 wr) (hf : f < 6) : wr.cell? ⟨w.heap.size, f + 1, none⟩ = some (.int .i64 (r.up.num f)) := num_cell h.box h.lt hb hf
theorem BStart.field {r : Rq} {w w3 wr : World} {l : List Nat} {b j f : Nat} (h : BStart r w w3 l b) (hb : Below w3.heap.size w3 wr) (hf : l[j]? = some f) : wr.cell? ⟨b, j, none⟩ = some (.int .i64 (f : Int)) := field_cell h.own hb hf
theorem num_up_range (r : Rq) (h : ∀ f, -9223372036854775808 ≤ r.num f ∧ r.num f ≤ 9223372036854775807) (ho : -1 ≤ r.o ∧ r.o ≤ 1048575) (f : Nat) : -9223372036854775808 ≤ r.up.num f ∧ r.up.num f ≤ 9223372036854775807 := by
  match f with
  | 0 => exact h 0
  | 1 => exact h 1
  | 2 => exact h 2
  | 3 => exact h 3
  | 4 => exact h 4
  | n + 5 => show -9223372036854775808 ≤ r.o + 1 ∧ r.o + 1 ≤ 9223372036854775807; omega
theorem bytes_no (r : Rq) (hk : (Lit.int .i8 r.k).wf = true) (hw : (wrongE r == 0) = false) (w : World) : Calls Try.prog 17 #[.agg r.cells] w fun e w' => e = .returned (.tuple #[.slice none 0 0, .int .i64 2]) ∧ Below w.heap.size w w' := by
  have HM := Lib.hid (may_any r hk false hw)
  clear hk hw
  unfold Rq.cells at *
  go_enter Try.func17, Try.ntmps17
  go_wp2_with fail
  refine (HM.out _).mono ?_
  rintro e w1 ⟨rfl, hb⟩
  have HB := Lib.hid hb
  clear hb
  go_wp2
  go_ret2
  exact ⟨rfl, ((Below.refl _ _).alloc (Nat.le_refl _) _).trans (HB.out.mono (by simp))⟩
set_option maxHeartbeats 2000000 in
theorem bytes_yes (r : Rq) (hk : (Lit.int .i8 r.k).wf = true) (hw : (wrongE r == 0) = true) (hnr : ∀ f, -9223372036854775808 ≤ r.num f ∧ r.num f ≤ 9223372036854775807) (ho : -1 ≤ r.o ∧ r.o ≤ 1048575) (w : World) :
    Calls Try.prog 17 #[.agg r.cells] w (PutPostE w (bytesT r (fieldsOf r.k) (fieldsOf r.k).length) 0) := by
  have hK : isKind r.k = true := by
    unfold wrongE at hw
    cases h : isKind r.k
    · rw [h] at hw; simp at hw
    · rfl
  have HM := Lib.hid (may_any r hk true hw)
  obtain ⟨l, hl⟩ : ∃ l, fieldsOf r.k = l := ⟨_, rfl⟩
  obtain ⟨n, hn⟩ : ∃ n, l.length = n := ⟨_, rfl⟩
  have hn3 : n ≤ 3 := by rw [← hn, ← hl]; exact fields_len r.k
  have FA := Lib.hid (fields_n r.k l n hk hl hn hK)
  have hk9 : 0 ≤ r.k ∧ r.k ≤ 9 := by simpa [isKind] using hK
  have HFl := Lib.hid (fun f (h : f ∈ l) => fields_lt r.k f (by rw [hl]; exact h))
  have HGet := Lib.hid (fun j (h : j < n) => (⟨l[j]'(by rw [hn]; exact h), List.getElem?_eq_getElem (by rw [hn]; exact h)⟩ : ∃ f, l[j]? = some f))
  rw [hl, hn]
  have HU := Lib.hid (fun f => num_up_range r hnr ho f)
  clear hl hn hK hk hw hnr
  unfold Rq.cells at *
  go_enter Try.func17, Try.ntmps17
  go_wp2_with fail
  refine (HM.out _).mono ?_
  rintro e w1 ⟨rfl, hb⟩
  have HB1 := Lib.hid hb
  have HQ := Lib.hid (cells_below (W := w) _ _ hb)
  clear hb
  have hc0 : w1.cell? ⟨w.heap.size, 0, none⟩ = some (.int .i8 r.k) := HQ.out 0
  have hw1 : w.heap.size < w1.heap.size := by have := HB1.out.size; simp at this; omega
  go_wp2_with fail
  refine (FA.out _).mono ?_
  rintro e w2 ⟨v, rfl, hv, hb⟩
  have HB2 := Lib.hid hb
  clear hb
  have hb6 := (bbox HB1.out HB2.out).1
  have hb7 := (bbox HB1.out HB2.out).2.1
  have hb8 := (bbox HB1.out HB2.out).2.2
  have HOw := Lib.hid (bown (x := .int .i64 (r.o + 1)) hk9 HB1.out HB2.out)
  rcases hv with ⟨rfl, rfl⟩ | ⟨b, rfl, hcells⟩
  · have HS := Lib.hid (bbelow HB1.out HB2.out (.int .i64 (r.o + 1)))
    clear hn3
    go_wp2
    refine wp_loop_rounds 1 ?_
    rw [rounds_succ]
    go_wp2
    go_ret2
    exact ⟨_, rfl, HOw.out, HS.out⟩
  · have HBS := Lib.hid (bstart (l := l) HB1.out HB2.out hcells)
    clear hcells
    go_wp2_with fail
    generalize w2.setCell ⟨w.heap.size, 6, none⟩ (.int .i64 (r.o + 1)) = w3 at *
    clear hb6 hb7 hb8 hc0 hw1
    go_loopw [4, 28] (fun bv i wr => ∃ j : Nat, j ≤ n ∧ i = .int .i64 j ∧ Own 5 w.heap.size wr bv (bytesT r l j) ∧ Below w3.heap.size w3 wr) (fun _ i _ => n - (intOf i).toNat)
    case atStart => exact ⟨0, Nat.zero_le _, rfl, HOw.out, Below.refl _ _⟩
    case round =>
      obtain ⟨j, hj, rfl, ho', hr⟩ := hrel
      have HR := Lib.hid hr
      have HO := Lib.hid ho'
      clear hr ho'
      by_cases hlt : j < n
      · obtain ⟨f, hf⟩ := HGet.out j hlt
        have hf6 : f < 6 := HFl.out f (List.mem_of_getElem? hf)
        have hcell := HBS.out.field HR.out hf
        have HF := Lib.hid (bytesT_succ r l j f hf)
        have HL := Lib.hid (bytesT_length r l j)
        have hix := ptrs_at w.heap.size f hf6
        clear hf
        have hru : -9223372036854775808 ≤ r.up.num f ∧ r.up.num f ≤ 9223372036854775807 := HU.out f
        go_wp2_with fail
        refine wp_region_noPanic ?_
        refine wp_region_pl (.step [true, false, true, false, false, false, true] (.cons 1 (.step [false, false, false, true, true, true] (.cons 7 (.step [] (.cons 8 (.last [false, false, false, false, false, false, false, false, false, true, true, true, true]) .nil)) .nil)) .nil)) (fun x => ∃ p : Regrown, x = Go.Sort.grow (redrawn wr p.d) p.os) (by kernel_rfl) (by kernel_rfl) (by kernel_rfl) (fun _ _ _ _ _ h => h) (over_drew wr) ?_
        simp only [wpPl, wpBr, selF, and_true]
        repeat (go_big_quiet_step (fail))
        refine wpQuiet_nil ?_
        rintro _ ⟨⟨d, os⟩, rfl⟩
        refine wpOp_step rfl (fun K hK => ?_)
        go_simp
        refine (numbers_any _ _).mono ?_
        rintro e x1 ⟨rfl, hb⟩
        have hbb := (below_regrown wr d os).trans (hb.mono (below_regrown wr d os).size)
        have HX1 := Lib.hid (HR.out.trans (hbb.mono HR.out.size))
        have HWX := Lib.hid hbb
        have hnc := fun d os => HBS.out.num (HX1.out.trans ((below_regrown x1 d os).mono HX1.out.size)) hf6
        refine hK _ _ ⟨fun x => ∃ p : Regrown, x = Go.Sort.grow (redrawn x1 p.d) p.os, over_self x1, over_next hbb, ?_⟩
        clear hK K hb hbb
        repeat (go_big_quiet_step (fail))
        refine wpQuiet_nil ?_
        rintro _ ⟨⟨d2, os2⟩, rfl⟩
        refine wpOp_step rfl (fun K hK => ?_)
        go_simp
        refine (widths_any f hf6 _).mono ?_
        rintro e x2 ⟨rfl, rfl⟩
        refine hK _ _ ⟨fun x => ∃ p : Regrown, x = Go.Sort.grow (redrawn x1 p.d) p.os, ⟨⟨d2, os2⟩, rfl⟩, fun _ h => h, ?_⟩
        clear hK K
        refine wpQuiet_nil ?_
        rintro _ ⟨⟨d3, os3⟩, rfl⟩
        refine wpOp_step rfl (fun K hK => ?_)
        go_simp
        have hB3 := (below_regrown x1 d3 os3)
        refine (put_any u4 (r.up.num f) (wd f) (bytesT r l j) _ ?_ ?_).mono ?_
        · exact (HO.out.sl.below HWX.out (Nat.le_refl _)).below hB3 (Nat.le_refl _)
        · have := HL.out; omega
        rintro e x4 ⟨v, rfl, hown4, hb4⟩
        have HX4 := Lib.hid ((HX1.out.trans (hB3.mono HX1.out.size)).trans (hb4.mono ((HX1.out.trans (hB3.mono HX1.out.size)).size)))
        have HO4 := Lib.hid (hown4.mono (B' := w.heap.size) (by have := HBS.out.lt; have := (HX1.out.trans (hB3.mono HX1.out.size)).size; omega))
        refine hK _ _ ⟨fun x => ∃ p : Regrown, x = Go.Sort.grow (redrawn x4 p.d) p.os, over_self x4, fun x hx => over_next hB3 x (over_next hb4 x hx), ?_⟩
        clear hK K hown4 hb4
        repeat (go_big_quiet_step (fail))
        refine wpQuiet_nil ?_
        rintro _ ⟨⟨d5, os5⟩, rfl⟩
        have HX5 := Lib.hid (HX4.out.trans ((below_regrown x4 d5 os5).mono HX4.out.size))
        have HO5 := Lib.hid (HO4.out.below (below_regrown x4 d5 os5) (Nat.le_refl _))
        generalize Go.Sort.grow (redrawn x4 d5) os5 = x5 at *
        refine NoPanic.normal ?_
        go_wp2
        go_roundw
        case rel => exact ⟨j + 1, by omega, by go_num, by rw [HF.out]; exact HO5.out, HX5.out⟩
        case measure => simp [intOf]; omega
      · obtain rfl : j = n := by omega
        go_wp2
        go_ret2
        exact ⟨_, rfl, HO.out, HBS.out.below.trans (HR.out.mono (Nat.le_of_lt HBS.out.lt))⟩
end Go.Proofs.Ytcffabfaefbjcaa
