/-
  Swap of a heap's rows (chapter 15).
-/
import Derived.Test.YtcmmmmpdehfefaaHRow
namespace Go.Proofs.Ytcmmmmpdehfefaa
set_option linter.unusedVariables false
set_option linter.unusedSimpArgs false
open Go.RowKit
set_option maxHeartbeats 1000000 in
theorem swap_raw (rb cap i j n bp bq : Nat) (x y : Value) (w : World) (hi : i < n) (hj : j < n) (hn : n ≤ cap) (hm : cap ≤ 9223372036854775807) (hij : i ≠ j)
    (ci : w.cell? ⟨rb, i, none⟩ = some (.pointer (some ⟨bp, 0, none⟩))) (cj : w.cell? ⟨rb, j, none⟩ = some (.pointer (some ⟨bq, 0, none⟩))) (fi : w.frozen? ⟨rb, i, none⟩ = false) (fj : w.frozen? ⟨rb, j, none⟩ = false) (hrp : rb ≠ bp) (hrq : rb ≠ bq) (hpq : bp ≠ bq)
    (cp : w.cell? ⟨bp, 2, none⟩ = some x) (cq : w.cell? ⟨bq, 2, none⟩ = some y) (fp : w.frozen? ⟨bp, 2, none⟩ = false) (fq : w.frozen? ⟨bq, 2, none⟩ = false) :
    Calls Try.prog 77 #[.slice (some ⟨rb, 0, none⟩) n cap, .int .i64 (i : Int), .int .i64 (j : Int)] w fun e w' => e = .returned (.tuple #[]) ∧ ∃ m, w' = ((((w.setCell ⟨rb, i, none⟩ (.pointer (some ⟨bq, 0, none⟩))).setCell ⟨rb, j, none⟩ (.pointer (some ⟨bp, 0, none⟩))).setCell ⟨bq, 2, none⟩ (.int .i64 (i : Int))).setCell ⟨bp, 2, none⟩ (.int .i64 (j : Int))).drewN m := by
  have i1 : (0 : Int) ≤ (i : Int) := by omega
  have i2 : (i : Int) < (n : Int) := by omega
  have j1 : (0 : Int) ≤ (j : Int) := by omega
  have j2 : (j : Int) < (n : Int) := by omega
  have hji : j ≠ i := Ne.symm hij
  go_enter Try.func77, Try.ntmps77
  go_wp2
  refine wp_region_noPanic ?_
  refine wp_region_plw (.step [true, true, true, true, true, true, true, false, true, true, true] (.cons 7 (.step [] (.cons 11 (.step [false, false, false, false, false, false, false, false, false, false, false, false, true] (.cons 13 (.step [false, false, false, false, false, false, false, false, false, false, false, false, false, false, true] (.cons 15 (.last []) .nil)) .nil)) .nil)) (.cons 11 (.step [] (.cons 7 (.step [false, false, false, false, false, false, false, false, false, false, false, false, true] (.cons 13 (.step [false, false, false, false, false, false, false, false, false, false, false, false, false, false, true] (.cons 15 (.last []) .nil)) .nil)) .nil)) .nil))) (fun _ => True) (by kernel_rfl) (by kernel_rfl) (by kernel_rfl) (fun _ _ _ _ _ _ _ h => h) trivial ?_
  simp only [wpPw, wpBw, selF, and_true]
  repeat (go_big_quiet_step (fail))
  refine wpQuiet_nil ?_
  refine ⟨?_, ?_⟩
  all_goals
    refine wpOp_step rfl (fun K hK => ?_)
    go_simp
    refine hK _ _ ⟨fun _ => True, trivial, fun _ h => h, ?_⟩
    clear hK K
    repeat (go_big_quiet_step (fail))
    refine wpQuiet_nil ?_
    refine wpOp_step rfl (fun K hK => ?_)
    go_simp
    refine hK _ _ ⟨fun _ => True, trivial, fun _ h => h, ?_⟩
    clear hK K
    repeat (go_big_quiet_step (fail))
    refine wpQuiet_nil ?_
    refine wpOp_step rfl (fun K hK => ?_)
    go_simp
    refine hK _ _ ⟨fun _ => True, trivial, fun _ h => h, ?_⟩
    clear hK K
    repeat (go_big_quiet_step (fail))
    refine wpQuiet_nil ?_
    refine wpOp_step rfl (fun K hK => ?_)
    go_simp
    refine hK _ _ ⟨fun _ => True, trivial, fun _ h => h, ?_⟩
    clear hK K
    repeat (go_big_quiet_step (fail))
    refine wpQuiet_nil ?_
    refine NoPanic.normal ?_
  all_goals
    go_wp2
    have a1 : ((w.setCell ⟨rb, i, none⟩ (.pointer (some ⟨bq, 0, none⟩))).setCell ⟨rb, j, none⟩ (.pointer (some ⟨bp, 0, none⟩))).cell? ⟨rb, i, none⟩ = some (.pointer (some ⟨bq, 0, none⟩)) := by simp [go_sem, ci, cj, hij, hji]
    have a2 : ((w.setCell ⟨rb, i, none⟩ (.pointer (some ⟨bq, 0, none⟩))).setCell ⟨rb, j, none⟩ (.pointer (some ⟨bp, 0, none⟩))).cell? ⟨rb, j, none⟩ = some (.pointer (some ⟨bp, 0, none⟩)) := by simp [go_sem, ci, cj, hij, hji]
    have a3 : ((w.setCell ⟨rb, i, none⟩ (.pointer (some ⟨bq, 0, none⟩))).setCell ⟨rb, j, none⟩ (.pointer (some ⟨bp, 0, none⟩))).cell? ⟨bp, 2, none⟩ = some x := by simp [go_sem, cp, hrp, Ne.symm hrp]
    have a4 : ((w.setCell ⟨rb, i, none⟩ (.pointer (some ⟨bq, 0, none⟩))).setCell ⟨rb, j, none⟩ (.pointer (some ⟨bp, 0, none⟩))).cell? ⟨bq, 2, none⟩ = some y := by simp [go_sem, cq, hrq, Ne.symm hrq]
    have a5 : ((w.setCell ⟨rb, i, none⟩ (.pointer (some ⟨bq, 0, none⟩))).setCell ⟨rb, j, none⟩ (.pointer (some ⟨bp, 0, none⟩))).frozen? ⟨bp, 2, none⟩ = false := by simp [go_sem, fp]
    have a6 : ((w.setCell ⟨rb, i, none⟩ (.pointer (some ⟨bq, 0, none⟩))).setCell ⟨rb, j, none⟩ (.pointer (some ⟨bp, 0, none⟩))).frozen? ⟨bq, 2, none⟩ = false := by simp [go_sem, fq]
    clear ci cj fi fj cp cq fp fq
    generalize hwA : ((w.setCell ⟨rb, i, none⟩ (.pointer (some ⟨bq, 0, none⟩))).setCell ⟨rb, j, none⟩ (.pointer (some ⟨bp, 0, none⟩))) = wA at a1 a2 a3 a4 a5 a6 ⊢
    have HWA := Lib.hid hwA
    clear hwA
    have hqp : bq ≠ bp := Ne.symm hpq
    refine wp_region_noPanic ?_
    refine wp_region_plw (.step [true, true, true, false, true, true, true, false, true, true] (.cons 3 (.step [] (.cons 7 (.step [false, false, false, false, false, false, false, false, false, false, true, true] (.cons 12 (.step [false, false, false, false, false, false, false, false, false, false, false, false, false, true, true] (.cons 15 (.last []) .nil)) .nil)) .nil)) (.cons 7 (.step [] (.cons 3 (.step [false, false, false, false, false, false, false, false, false, false, true, true] (.cons 12 (.step [false, false, false, false, false, false, false, false, false, false, false, false, false, true, true] (.cons 15 (.last []) .nil)) .nil)) .nil)) .nil))) (fun _ => True) (by kernel_rfl) (by kernel_rfl) (by kernel_rfl) (fun _ _ _ _ _ _ _ h => h) trivial ?_
    simp only [wpPw, wpBw, selF, and_true]
    repeat (go_big_quiet_step (fail))
    refine wpQuiet_nil ?_
    refine ⟨?_, ?_⟩
    all_goals
      refine wpOp_step rfl (fun K hK => ?_)
      go_simp
      refine hK _ _ ⟨fun _ => True, trivial, fun _ h => h, ?_⟩
      clear hK K
      repeat (go_big_quiet_step (fail))
      refine wpQuiet_nil ?_
      refine wpOp_step rfl (fun K hK => ?_)
      go_simp
      refine hK _ _ ⟨fun _ => True, trivial, fun _ h => h, ?_⟩
      clear hK K
      repeat (go_big_quiet_step (fail))
      refine wpQuiet_nil ?_
      refine wpOp_step rfl (fun K hK => ?_)
      go_simp
      refine hK _ _ ⟨fun _ => True, trivial, fun _ h => h, ?_⟩
      clear hK K
      repeat (go_big_quiet_step (fail))
      refine wpQuiet_nil ?_
      refine wpOp_step rfl (fun K hK => ?_)
      go_simp
      refine hK _ _ ⟨fun _ => True, trivial, fun _ h => h, ?_⟩
      clear hK K
      repeat (go_big_quiet_step (fail))
      refine wpQuiet_nil ?_
      refine NoPanic.normal ?_
    all_goals
      go_wp2
      go_end0
      exact ⟨rfl, 2, by rw [HWA.out]; rfl⟩
/-- nothing but the blocks of S has turned -/
structure Touch (S : Nat → Prop) (w w' : World) : Prop where
  os : w'.os = w.os
  tape : w'.tape = w.tape
  output : w'.output = w.output
  size : w'.heap.size = w.heap.size
  block : ∀ k, ¬ S k → w'.heap[k]? = w.heap[k]?
theorem Touch.refl (S : Nat → Prop) (w : World) : Touch S w w := ⟨rfl, rfl, rfl, rfl, fun _ _ => rfl⟩
theorem Touch.trans {S : Nat → Prop} {a b c : World} (h : Touch S a b) (k : Touch S b c) : Touch S a c :=
  ⟨k.os.trans h.os, k.tape.trans h.tape, k.output.trans h.output, k.size.trans h.size, fun i hi => (k.block i hi).trans (h.block i hi)⟩
theorem Touch.mono {S T : Nat → Prop} {a b : World} (h : Touch S a b) (hs : ∀ k, S k → T k) : Touch T a b := ⟨h.os, h.tape, h.output, h.size, fun k hk => h.block k fun hh => hk (hs k hh)⟩
theorem Touch.setCell {S : Nat → Prop} {a b : World} (h : Touch S a b) {p : Addr} (hp : S p.block) (x : Value) : Touch S a (b.setCell p x) :=
  ⟨h.os, h.tape, h.output, by rw [World.size_setCell]; exact h.size, fun k hk => by rw [heap_setCell_other _ _ _ _ (fun e => hk (by rw [e]; exact hp))]; exact h.block k hk⟩
theorem Touch.drewN {S : Nat → Prop} {a b : World} (h : Touch S a b) (n : Nat) : Touch S a (b.drewN n) := ⟨h.os, h.tape, h.output, h.size, h.block⟩
theorem Touch.below {S : Nat → Prop} {B : Nat} {a b : World} (h : Touch S a b) (hs : ∀ k, S k → B ≤ k) : Below B a b := ⟨h.os, h.tape, h.output, by rw [h.size]; exact Nat.le_refl _, fun k hk => h.block k fun hh => by have := hs k hh; omega⟩
def RowSet (rb : Nat) (L : List Pr) (k : Nat) : Prop := k = rb ∨ ∃ p ∈ L, k = p.pb
def swapL (L : List Pr) (i j : Nat) (p q : Pr) : List Pr := (L.set i q).set j p
theorem rb_ne {w : World} {rb cap : Nat} {L : List Pr} (h : HRow w rb cap L) {i : Nat} {p : Pr} (hi : L[i]? = some p) : rb ≠ p.pb := by
  intro e
  obtain ⟨cur, hr, _, _⟩ := h.row
  have hp := h.pair i p hi
  rw [← e, hr] at hp
  injection hp with hp
  injection hp with _ h2 _
  cases h2
theorem swap_any (rb cap i j n : Nat) (L : List Pr) (p q : Pr) (w : World) (h : HRow w rb cap L) (hn : L.length = n) (hi : L[i]? = some p) (hj : L[j]? = some q) (hij : i ≠ j) :
    Calls Try.prog 77 #[.slice (some ⟨rb, 0, none⟩) n cap, .int .i64 (i : Int), .int .i64 (j : Int)] w fun e w' => e = .returned (.tuple #[]) ∧ HRow w' rb cap (swapL L i j p q) ∧ Touch (RowSet rb L) w w' := by
  have hil := (List.getElem?_eq_some_iff.1 hi).1
  have hjl := (List.getElem?_eq_some_iff.1 hj).1
  have hpq : p.pb ≠ q.pb := fun e => hij (h.apart i j p q hi hj e)
  have hrp := rb_ne h hi
  have hrq := rb_ne h hj
  have hmp : p ∈ L := List.mem_of_getElem? hi
  have hmq : q ∈ L := List.mem_of_getElem? hj
  refine (swap_raw rb cap i j n p.pb q.pb _ _ w (by omega) (by omega) (by have := h.len; omega) h.max hij (h.cell hi).1 (h.cell hj).1 (h.cell hi).2 (h.cell hj).2 hrp hrq hpq (h.num hi).2.2.1 (h.num hj).2.2.1 (h.num hi).2.2.2.1 (h.num hj).2.2.2.1).mono ?_
  rintro e w' ⟨rfl, m, rfl⟩
  obtain ⟨cur, hr, hcs, hcur⟩ := h.row
  have hlen : (swapL L i j p q).length = L.length := by unfold swapL; rw [List.length_set, List.length_set]
  have hget : ∀ k, (swapL L i j p q)[k]? = if k = j then some p else if k = i then some q else L[k]? := by
    intro k
    unfold swapL
    by_cases h1 : k = j
    · subst h1
      rw [List.getElem?_set_self (by rw [List.length_set]; exact hjl), if_pos rfl]
    · rw [List.getElem?_set_ne (fun e => h1 e.symm), if_neg h1]
      by_cases h2 : k = i
      · subst h2
        rw [List.getElem?_set_self hil, if_pos rfl]
      · rw [List.getElem?_set_ne (fun e => h2 e.symm), if_neg h2]
  have r1 := heap_setCell_same w rb i cur 55 (.pointer (some ⟨q.pb, 0, none⟩)) hr
  have r2 := heap_setCell_same _ rb j _ 55 (.pointer (some ⟨p.pb, 0, none⟩)) r1
  have pq : ∀ (k : Nat) (r : Pr), L[k]? = some r → (((w.setCell ⟨rb, i, none⟩ (.pointer (some ⟨q.pb, 0, none⟩))).setCell ⟨rb, j, none⟩ (.pointer (some ⟨p.pb, 0, none⟩)))).heap[r.pb]? = some (.cells (r.cells k) 58 (0, 0)) := by
    intro k r hk
    have hne := rb_ne h hk
    rw [heap_setCell_other _ _ _ _ (by show r.pb ≠ rb; exact fun e => hne e.symm), heap_setCell_other _ _ _ _ (by show r.pb ≠ rb; exact fun e => hne e.symm)]
    exact h.pair k r hk
  refine ⟨rfl, HRow.drewN ⟨⟨(cur.setIfInBounds i q.val).setIfInBounds j p.val, ?_, by simp [hcs], fun k hk => ?_⟩, by rw [hlen]; exact h.len, h.max, fun k r hk => ?_, fun a b x y ha hb e => ?_⟩ m, ?_⟩
  · rw [heap_setCell_other _ _ _ _ (by show rb ≠ p.pb; exact hrp), heap_setCell_other _ _ _ _ (by show rb ≠ q.pb; exact hrq)]
    exact r2
  · rw [hlen] at hk
    have hkc : k < cur.size := by have := h.len; omega
    rw [hget k]
    by_cases h1 : k = j
    · subst h1
      rw [if_pos rfl, Array.getElem?_setIfInBounds, if_pos rfl]
      simp; omega
    · rw [if_neg h1, Array.getElem?_setIfInBounds, if_neg (fun e => h1 e.symm)]
      by_cases h2 : k = i
      · subst h2
        rw [if_pos rfl, Array.getElem?_setIfInBounds, if_pos rfl]
        simp; omega
      · rw [if_neg h2, Array.getElem?_setIfInBounds, if_neg (fun e => h2 e.symm)]
        exact hcur k hk
  · rw [hget k] at hk
    by_cases h1 : k = j
    · rw [if_pos h1] at hk
      cases hk
      subst h1
      refine (heap_setCell_same _ p.pb 2 (p.cells i) 58 (.int .i64 (k : Int)) ?_).trans rfl
      rw [heap_setCell_other _ _ _ _ (by show p.pb ≠ q.pb; exact hpq)]
      exact pq i p hi
    · rw [if_neg h1] at hk
      by_cases h2 : k = i
      · rw [if_pos h2] at hk
        cases hk
        subst h2
        rw [heap_setCell_other _ _ _ _ (by show q.pb ≠ p.pb; exact fun e => hpq e.symm)]
        exact (heap_setCell_same _ q.pb 2 (q.cells j) 58 (.int .i64 (k : Int)) (pq j q hj)).trans rfl
      · rw [if_neg h2] at hk
        have e1 : r.pb ≠ p.pb := fun e => h2 (h.apart k i r p hk hi e)
        have e2 : r.pb ≠ q.pb := fun e => h1 (h.apart k j r q hk hj e)
        rw [heap_setCell_other _ _ _ _ (by show r.pb ≠ p.pb; exact e1), heap_setCell_other _ _ _ _ (by show r.pb ≠ q.pb; exact e2)]
        exact pq k r hk
  · have back : ∀ a x, (swapL L i j p q)[a]? = some x → L[if a = j then i else if a = i then j else a]? = some x := by
      intro a x ha
      rw [hget a] at ha
      by_cases h1 : a = j
      · rw [if_pos h1] at ha ⊢; rw [← ha]; exact hi
      · rw [if_neg h1] at ha ⊢
        by_cases h2 : a = i
        · rw [if_pos h2] at ha ⊢; rw [← ha]; exact hj
        · rw [if_neg h2] at ha ⊢; exact ha
    have := h.apart _ _ x y (back a x ha) (back b y hb) e
    split at this <;> split at this <;> (try split at this) <;> (try split at this) <;> omega
  · exact (((((Touch.refl _ _).setCell (p := ⟨rb, i, none⟩) (.inl rfl) _).setCell (p := ⟨rb, j, none⟩) (.inl rfl) _).setCell (p := ⟨q.pb, 2, none⟩) (.inr ⟨q, hmq, rfl⟩) _).setCell (p := ⟨p.pb, 2, none⟩) (.inr ⟨p, hmp, rfl⟩) _).drewN m
end Go.Proofs.Ytcmmmmpdehfefaa
