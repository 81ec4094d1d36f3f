/-
  Heap.Sorted: what it collects (chapter 15).
-/
import Derived.Test.YtcmmmmpdehfefaaSClo
namespace Go.Proofs.Ytcmmmmpdehfefaa
set_option linter.unusedVariables false
set_option linter.unusedSimpArgs false
open Go.RowKit Go.Maps
def prP (p : Pr) : Int × Int := (p.n, p.c)
/-- the cells of pairs one behind the other -/
def encL (l : List (Int × Int)) : List Value := l.flatMap encP
theorem encL_snoc (l : List (Int × Int)) (x : Int × Int) : encL (l ++ [x]) = encL l ++ [.int .i64 x.1, .int .i64 x.2] := by unfold encL; simp [encP]
theorem take_map_snoc {L : List Pr} {j : Nat} {p : Pr} (h : L[j]? = some p) : (L.map prP).take (j + 1) = (L.map prP).take j ++ [prP p] := by
  rw [List.take_add_one, List.getElem?_map, h]; rfl
theorem i47 : (Try.prog.info? 47).map (fun i => (i.zero, i.size, i.bytes)) = some (some (.agg #[.int .i64 0, .int .i64 0]), 2, 16) := by kernel_rfl
theorem u31 : Try.prog.underlying 31 = some (.slice 47) := by kernel_rfl
/-- the row's cells, as Sorted reads them -/
theorem HG.reads {w : World} {hb mb : Nat} {S : Nat → Prop} {L : List Pr} (h : HG w hb mb S L) : ∃ ao cap, w.cell? ⟨hb, 0, none⟩ = some (.slice ao L.length cap) ∧
    ∀ j p, L[j]? = some p → ∃ rb, ao = some ⟨rb, 0, none⟩ ∧ w.cell? ⟨rb, j, none⟩ = some (.pointer (some ⟨p.pb, 0, none⟩)) ∧ w.cell? ⟨p.pb, 0, none⟩ = some (.int .i64 p.n) ∧ w.cell? ⟨p.pb, 1, none⟩ = some (.int .i64 p.c) := by
  by_cases h0 : L = []
  · obtain ⟨ao, cap, h1, _⟩ := h.len
    exact ⟨ao, cap, h1, fun j p hp => by subst h0; simp at hp⟩
  · obtain ⟨rb, cap, ht, hr, hrb⟩ := h.row h0
    exact ⟨_, cap, ht.cell, fun j p hp => ⟨rb, rfl, (hr.cell hp).1, (hr.num hp).1, (hr.num hp).2.1⟩⟩
/-- what SortFunc does -/
def Sorts (f : List (Int × Int) → List (Int × Int)) : Prop := ∀ (B : Nat) (v : Value) (l : List (Int × Int)) (w : World), w.ownsRow B 47 2 v l.length (encL l) → l.length ≤ 100000 →
  Calls Try.prog 29 #[v, .func (.func 30) #[] #[]] w fun e w' => e = .returned (.tuple #[]) ∧ w'.ownsRow B 47 2 v l.length (encL (f l)) ∧ w.grownBy w' v.ownBlock
def SRel (w wr : World) (v : Value) (l : List (Int × Int)) : Prop := Below w.heap.size w wr ∧ wr.ownsRow w.heap.size 47 2 v l.length (encL l)
theorem SRel.start (w : World) : SRel w w (.slice none 0 0) [] := ⟨Below.refl _ _, World.ownsRow_nil _ _ _ _⟩
theorem SRel.push {w wr w' : World} {v v' : Value} {l : List (Int × Int)} {x : Int × Int} {o : Obj} {n : Nat} (h : SRel w wr v l) (ho : w'.ownsRow w.heap.size 47 2 v' (l.length + 1) (encL l ++ [.int .i64 x.1, .int .i64 x.2])) (hg : ((wr.drewN n).alloc o).grownBy w' v.ownBlock) : SRel w w' v' (l ++ [x]) := by
  have hb : Below w.heap.size w (wr.drewN n) := ⟨h.1.os, h.1.tape, h.1.output, h.1.size, h.1.block⟩
  exact ⟨(hb.alloc h.1.size o).grown hg (by have := h.1.size; simp; omega) (fun k hk => (h.2.lt k hk).1), by rw [encL_snoc, List.length_append]; exact ho⟩
set_option maxHeartbeats 2000000 in
set_option maxRecDepth 100000 in
theorem sorted_any {f : List (Int × Int) → List (Int × Int)} (HS : Sorts f) (hb mb : Nat) (S : Nat → Prop) (L : List Pr) (w : World) (h : HG w hb mb S L) (hlen : L.length ≤ 100000) :
    Calls Try.prog 15 #[.pointer (some ⟨hb, 0, none⟩)] w fun e w' => ∃ v, e = .returned v ∧ w'.ownsRow w.heap.size 47 2 v L.length (encL (f (L.map prP))) ∧ Below w.heap.size w w' := by
  obtain ⟨ao, cap, hc, hr⟩ := h.reads
  have HR := Lib.hid hr
  have HSS := Lib.hid HS
  obtain ⟨i0, hi, hz0, hz1, hz2⟩ := info_parts i47
  have HI := Lib.hid hi
  have HZ0 := Lib.hid hz0
  have HZ1 := Lib.hid hz1
  have HZ2 := Lib.hid hz2
  clear hi hz0 hz1 hz2
  have HL := Lib.hid hlen
  obtain ⟨m, hm⟩ : ∃ m, L.length = m := ⟨_, rfl⟩
  have HM := Lib.hid hm
  rw [hm] at hc hlen ⊢
  have hm63 : m ≤ 9223372036854775807 := by omega
  clear h hr hm HS
  go_enter Try.func15, Try.ntmps15
  go_wp2_with fail
  go_loopw [2, 12] (fun ov iv wr => ∃ j : Nat, j ≤ m ∧ iv = .int .i64 j ∧ SRel w wr ov ((L.map prP).take j)) (fun _ iv _ => m - (intOf iv).toNat)
  case atStart => exact ⟨0, Nat.zero_le _, rfl, SRel.start w⟩
  case round =>
    obtain ⟨j, hj, rfl, hA⟩ := hrel
    by_cases hlt : j < m
    · obtain ⟨p, hp⟩ : ∃ p, L[j]? = some p := ⟨L[j]'(by rw [HM.out]; exact hlt), List.getElem?_eq_getElem _⟩
      obtain ⟨rb, rfl, r1, r2, r3⟩ := HR.out j p hp
      have r1' := (hA.1.cell (World.block_lt_of_cell? w _ r1)).trans r1
      have r2' := (hA.1.cell (World.block_lt_of_cell? w _ r2)).trans r2
      have r3' := (hA.1.cell (World.block_lt_of_cell? w _ r3)).trans r3
      have HA := Lib.hid hA
      have HT := Lib.hid (take_map_snoc hp)
      have HTL : Hid (((L.map prP).take j).length = j) := Lib.hid (by rw [List.length_take, List.length_map, HM.out]; omega)
      have HOW : Hid (wr.ownsRow w.heap.size 47 2 u2 j (encL ((L.map prP).take j))) := Lib.hid (by have := hA.2; rw [HTL.out] at this; exact this)
      clear hA hp r1 r2 r3
      go_wp2_with fail
      refine wp_region_noPanic ?_
      refine wp_region_plw (.step [true, true, true, true, false, true, true, true] (.cons 4 (.step [] (.cons 8 (.step [false, false, false, false, false, false, false, false, false, true] (.cons 10 (.step [] (.cons 11 (.last [false, false, false, false, false, false, false, false, false, false, false, false, true]) .nil)) .nil)) .nil)) (.cons 8 (.step [] (.cons 4 (.step [false, false, false, false, false, false, false, false, false, true] (.cons 10 (.step [] (.cons 11 (.last [false, false, false, false, false, false, false, false, false, false, false, false, true]) .nil)) .nil)) .nil)) .nil))) (fun _ => True) (by kernel_rfl) (by kernel_rfl) (by kernel_rfl) (fun _ _ _ _ _ _ _ h => h) trivial ?_
      simp only [wpPw, wpBw, selF, and_true]
      repeat (go_big_quiet_step (fail))
      refine wpQuiet_nil ?_
      refine ⟨?_, ?_⟩
      all_goals
        refine wpOp_step rfl (fun K hK => ?_)
        go_simp
        refine hK _ _ ⟨fun _ => True, trivial, fun _ h => h, ?_⟩
        clear hK K
        repeat (go_big_quiet_step (fail))
        refine wpQuiet_nil ?_
        refine wpOp_step rfl (fun K hK => ?_)
        go_simp
        refine hK _ _ ⟨fun _ => True, trivial, fun _ h => h, ?_⟩
        clear hK K
        repeat (go_big_quiet_step (fail))
        refine wpQuiet_nil ?_
        refine wpOp_step rfl (fun K hK => ?_)
        go_simp
        refine hK _ _ ⟨fun _ => True, trivial, fun _ h => h, ?_⟩
        clear hK K
        repeat (go_big_quiet_step (fail))
        refine wpQuiet_nil ?_
        refine wpOp_step rfl (fun K hK => ?_)
        rw [if_pos (by rfl)]
        refine wp_append_own _ (.tmp 16) (.tmp 26) 31 rfl w.heap.size 47 i0 (.agg #[.int .i64 0, .int .i64 0]) 2 16 u31 HI.out HZ0.out HZ1.out HZ2.out rfl (by decide) u2 j (encL ((L.map prP).take j)) rfl (HOW.out.alloc _) ⟨wr.heap.size, 0, none⟩ 1 1 [.int .i64 p.n, .int .i64 p.c] rfl rfl ?_ (by intro u hu; simp at hu; rcases hu with rfl | rfl <;> rfl) (by unfold maxLen; omega) (by omega) (by have := HA.out.1.size; simp; omega) ?_
        · intro k u hk
          match k, hk with
          | 0, hk => simp at hk; subst hk; simp [go_sem, Addr.add]
          | 1, hk => simp at hk; subst hk; simp [go_sem, Addr.add]
        intro v2 w2 hown2 hgr2 _
        refine hK _ _ ⟨fun _ => True, trivial, fun _ h => h, ?_⟩
        have HN := Lib.hid (HA.out.push (n := 1) (x := prP p) (by rw [HTL.out]; exact hown2) hgr2)
        clear hK K hown2 hgr2
        simp [Act.put]
        repeat (go_big_quiet_step (fail))
        refine wpQuiet_nil ?_
        refine NoPanic.normal ?_
        go_wp2
        go_roundw
        case rel => exact ⟨j + 1, hlt, rfl, by rw [HT.out]; exact HN.out⟩
        case measure => simp [intOf]; omega
    · have e : j = m := by omega
      subst e
      have hfull : (L.map prP).take j = L.map prP := List.take_of_length_le (by rw [List.length_map, HM.out]; exact Nat.le_refl _)
      rw [hfull] at hA
      have hll : (L.map prP).length = j := by rw [List.length_map]; exact HM.out
      have HA := Lib.hid hA
      clear hA hfull
      go_wp2_with fail
      refine (HSS.out w.heap.size u2 (L.map prP) wr HA.out.2 (by omega)).mono ?_
      rintro e w2 ⟨rfl, hown, hgr⟩
      have HO := Lib.hid hown
      have HG := Lib.hid hgr
      clear hown hgr
      go_wp2
      go_ret
      exact ⟨_, rfl, by have := HO.out; rw [hll] at this; exact this, HA.out.1.grown HG.out HA.out.1.size (fun k hk => (HA.out.2.lt k hk).1)⟩
end Go.Proofs.Ytcmmmmpdehfefaa
