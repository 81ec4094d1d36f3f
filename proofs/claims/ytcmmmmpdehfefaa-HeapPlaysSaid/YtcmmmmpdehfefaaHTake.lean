/-
  Heap.Take (chapter 15).
-/
import Derived.Test.YtcmmmmpdehfefaaHMap
import Derived.Test.YtcmmmmpdehfefaaHPerm
import Derived.Test.YtcmmmmpdehfefaaOrdersD
namespace Go.Proofs.Ytcmmmmpdehfefaa
set_option linter.unusedVariables false
set_option linter.unusedSimpArgs false
open Go.RowKit Go.Maps
theorem look_none {D : DataW Value} {L : List Pr} (h : KV D L) {c : Int} (hc : ∀ p ∈ L, p.c ≠ c) : has D (kc c) = false := h.no c hc
theorem atKey_none {D : DataW Value} {k : Lit} (h : has D k = false) (hD : IsMap D) (z : DataW Value) : D.atKey k z = z := by
  rw [← del_of_not_has h]; exact atKey_del_same z
set_option maxRecDepth 100000 in
theorem take_nil (c : Int) (w : World) : Calls Try.prog 18 #[.pointer none, .int .i64 c] w fun e w' => e = .returned (.tuple #[.int .i64 0, .bool false]) ∧ w' = w := by
  go_enter Try.func18, Try.ntmps18
  go_wp2
  go_ret2
  exact ⟨rfl, rfl⟩
set_option maxHeartbeats 1000000 in
set_option maxRecDepth 100000 in
theorem take_none (hb mb n : Nat) (S : Nat → Prop) (L : List Pr) (c : Int) (w : World) (h : Hp w hb mb S n L) (hcw : I64 c) (hc : ∀ p ∈ L, p.c ≠ c) :
    Calls Try.prog 18 #[.pointer (some ⟨hb, 0, none⟩), .int .i64 c] w fun e w' => e = .returned (.tuple #[.int .i64 0, .bool false]) ∧ w' = w := by
  obtain ⟨ao, cap, hc1, hc2⟩ := h.hg.len
  obtain ⟨D, hD, hk⟩ := h.map
  have HD := Lib.hid hD
  have HW := Lib.hid hcw.wf
  have hh := hk.no c hc
  clear h hD hk hc hc1
  go_enter Try.func18, Try.ntmps18
  go_wp2_with (at_lookup; go_loud (refine wpList_lookup_own_ok _ rfl (.tmp 14) (.tmp 15) 50 rfl 3 55 law3 u50 rdSelf (zero55 _) (.held (.pointer none)) [] rfl mb n D rfl HD.out (.int .i64 c) (kc c) rfl (keyOf_int_mk u3 HW.out) ?_; intro v ps hv; rw [hh]; simp only [rdSelf, Option.some.injEq, Prod.mk.injEq] at hv; clear hv))
  go_ret2
  exact ⟨rfl, rfl⟩
/-- the heap's blocks, and its map's -/
def own (S : Nat → Prop) (mb k : Nat) : Prop := S k ∨ k = mb
theorem HG.cut {w : World} {hb mb : Nat} {S : Nat → Prop} {L : List Pr} (h : HG w hb mb S L) : HG w hb mb (fun k => S k ∧ k < w.heap.size) L := by
  obtain ⟨⟨v, h1, h2, h3⟩, h4, h5⟩ := h
  refine ⟨⟨v, h1, h2, fun k hk => ⟨h3 k hk, ?_⟩⟩, ⟨h4, (Array.getElem?_eq_some_iff.1 h1).1⟩, fun p hp => ⟨h5 p hp, ?_⟩⟩
  · obtain ⟨cur, hc⟩ := h2.block hk
    exact (Array.getElem?_eq_some_iff.1 hc).1
  · obtain ⟨i, hi⟩ := List.getElem?_of_mem hp
    exact (Array.getElem?_eq_some_iff.1 (h2.pair i p hi)).1
theorem KV.del {D : DataW Value} {L M : List Pr} {p : Pr} (h : KV D L) (hp : (p :: M).Perm L) (ho : (L.map Pr.c).Nodup) : KV (D.del (kc p.c)) M := by
  have ho' : ((p :: M).map Pr.c).Nodup := (hp.map Pr.c).nodup_iff.2 ho
  rw [List.map_cons, List.nodup_cons] at ho'
  have hne : ∀ q ∈ M, q.c ≠ p.c := fun q hq e => ho'.1 (List.mem_map.2 ⟨q, hq, e⟩)
  refine ⟨fun c hc => ?_, fun q hq => ?_⟩
  · by_cases he : c = p.c
    · subst he; exact has_del_same
    · rw [has_del_other (kc_ne he)]
      refine h.no c fun r hr => ?_
      rcases List.mem_cons.1 (hp.mem_iff.2 hr) with rfl | hr
      · exact Ne.symm he
      · exact hc r hr
  · have hm := hp.mem_iff.1 (List.mem_cons_of_mem _ hq)
    refine ⟨by rw [has_del_other (kc_ne (hne q hq))]; exact (h.yes q hm).1, fun z => by rw [atKey_del_other (kc_ne (hne q hq))]; exact (h.yes q hm).2 z⟩
theorem ownsMap_block {w w' : World} {b n : Nat} {D : DataW Value} (h : w.ownsMap Try.prog 3 rdSelf b n D) (hk : w'.heap[b]? = w.heap[b]?) : w'.ownsMap Try.prog 3 rdSelf b n D := by
  obtain ⟨es, clock, hb, F, hs, hD⟩ := h
  exact ⟨es, clock, hk.trans hb, F, hs, hD⟩
theorem take_end {w w1 w2 : World} {hb mb n : Nat} {S : Nat → Prop} {L M : List Pr} {p : Pr} {D : DataW Value} (h : Hp w hb mb S n L) (ho : w1.ownsMap Try.prog 3 rdSelf mb n (D.del (kc p.c))) (ht : w.mapTurned w1 mb) (hk : KV D L) (hpm : (p :: M).Perm L) (h2 : HG w2 hb mb S M) (hg : Grow S w1 w2) :
    Ending.returned (.tuple #[.int .i64 p.n, .bool true]) = Ending.returned (.tuple #[.int .i64 p.n, .bool true]) ∧ ∃ S', Hp w2 hb mb S' n M ∧ (∀ k, S' k → S k) ∧ Grow (own S mb) w w2 := by
  have hgt := ht.grown
  have hno : ((p :: M).map Pr.c).Nodup := (hpm.map Pr.c).nodup_iff.2 h.one
  rw [List.map_cons, List.nodup_cons] at hno
  refine ⟨rfl, fun k => S k ∧ k < w2.heap.size, ⟨h2.cut, ⟨_, ?_, hk.del hpm h.one⟩, fun hh => h.mS hh.1, fun k hh => hh.2, fun q hq => h.wfc q (hpm.mem_iff.1 (List.mem_cons_of_mem _ hq)), hno.2⟩, fun k hh => hh.1, ?_⟩
  · exact ownsMap_block ho (hg.block mb ho.lt h.mS)
  · exact ⟨hg.os.trans hgt.os, hg.tape.trans hgt.tape, hg.output.trans hgt.output, Nat.le_trans hgt.size hg.size, fun k hk hs => (hg.block k (Nat.lt_of_lt_of_le hk hgt.size) (fun hh => hs (.inl hh))).trans (hgt.block k hk (fun e => hs (.inr (by cases e; rfl))))⟩
set_option maxHeartbeats 2000000 in
set_option maxRecDepth 100000 in
theorem take_some (hb mb n m i : Nat) (S : Nat → Prop) (L M : List Pr) (p : Pr) (w : World) (h : Hp w hb mb S n L) (hlen : L.length ≤ 100000) (hm : L.length = m + 1) (hi : L[i]? = some p) (hx : bringL m L i = M ++ [p]) (hpm : (p :: M).Perm L) :
    Calls Try.prog 18 #[.pointer (some ⟨hb, 0, none⟩), .int .i64 p.c] w fun e w' => e = .returned (.tuple #[.int .i64 p.n, .bool true]) ∧ ∃ S', Hp w' hb mb S' n M ∧ (∀ k, S' k → S k) ∧ Grow (own S mb) w w' := by
  obtain ⟨ao, cap, hc1, hc2⟩ := h.hg.len
  obtain ⟨D, hD, hk⟩ := h.map
  have hmem := List.mem_of_getElem? hi
  have HD := Lib.hid hD
  have HW := Lib.hid (I64.wf (n := p.c) (by have := h.wfc p hmem; constructor <;> omega))
  have hh := (hk.yes p hmem).1
  have hat := (hk.yes p hmem).2
  have HH := Lib.hid h
  have HK := Lib.hid hk
  have hil := (List.getElem?_eq_some_iff.1 hi).1
  have HRM := Lib.hid (fun w' (hw : HG w' hb mb S L) => remove_any hb mb i m S L M p w' hw hlen hm (by omega) hx)
  have HHI := Lib.hid hi
  clear h hD hk hc1 hx hm hlen hil hmem hi
  go_enter Try.func18, Try.ntmps18
  go_wp2_with (first
    | (at_lookup; go_loud (refine wpList_lookup_own_ok _ rfl (.tmp 14) (.tmp 15) 50 rfl 3 55 law3 u50 rdSelf (zero55 _) (.held (.pointer none)) [] rfl mb n D rfl HD.out (.int .i64 p.c) (kc p.c) rfl (keyOf_int_mk u3 HW.out) ?_; intro v ps hv; rw [hh]; rw [hat] at hv; simp only [rdSelf, Option.some.injEq, Prod.mk.injEq, DataW.held.injEq] at hv; obtain ⟨rfl, _⟩ := hv; unfold Pr.val; clear hh hat))
    | (at_delete; go_loud (refine wpList_delete_own _ rfl (.tmp 24) (.tmp 25) 50 3 rfl 55 law3 u50 rdSelf mb n D rfl HD.out (.int .i64 p.c) (kc p.c) rfl (keyOf_int_mk u3 HW.out) ?_; intro w1 hown1 hturn1; have HO1 := Lib.hid hown1; have HT1 := Lib.hid hturn1; clear hown1 hturn1 hc2)))
  have HG1 := Lib.hid (HH.out.hg.kept (w' := w1) (fun k hk hs => HT1.out.grown.block k hk (by intro e; cases e; exact HH.out.mS hs)))
  have hp2 : w1.cell? ⟨p.pb, 2, none⟩ = some (.int .i64 (i : Int)) := by
    obtain ⟨rb, cap, _, hr, _⟩ := HG1.out.row (by intro e; have := HHI.out; rw [e] at this; simp at this)
    exact (hr.num HHI.out).2.2.1
  simp only [Act.put]
  refine wp_region_noPanic ?_
  refine wp_region_plw (.step [true, true, true, false, true, true, true] (.cons 3 (.step [] (.cons 7 (.step [] (.cons 8 (.last []) .nil)) .nil)) (.cons 7 (.step [] (.cons 3 (.step [] (.cons 8 (.last []) .nil)) .nil)) .nil))) (fun _ => True) (by kernel_rfl) (by kernel_rfl) (by kernel_rfl) (fun _ _ _ _ _ _ _ h => h) trivial ?_
  simp only [wpPw, wpBw, selF, and_true]
  repeat (go_big_quiet_step (fail))
  refine wpQuiet_nil ?_
  refine ⟨?_, ?_⟩
  all_goals
    refine wpOp_step rfl (fun K hK => ?_)
    go_simp
    refine hK _ _ ⟨fun _ => True, trivial, fun _ h => h, ?_⟩
    clear hK K
    repeat (go_big_quiet_step (fail))
    refine wpQuiet_nil ?_
    refine wpOp_step rfl (fun K hK => ?_)
    go_simp
    refine hK _ _ ⟨fun _ => True, trivial, fun _ h => h, ?_⟩
    clear hK K
    repeat (go_big_quiet_step (fail))
    refine wpQuiet_nil ?_
    refine wpOp_step rfl (fun K hK => ?_)
    go_simp
    refine (HRM.out _ (HG1.out.drewN 1)).mono ?_
    rintro e w2 ⟨rfl, h2, hg2, hq2⟩
    refine hK _ _ ⟨fun _ => True, trivial, fun _ h => h, ?_⟩
    have hcp : w2.cell? ⟨p.pb, 0, none⟩ = some (.int .i64 p.n) := by rw [cell_of_row _ _ _ _ _ _ hq2]; rfl
    have H2 := Lib.hid h2
    have HG2 := Lib.hid hg2
    clear hK K h2 hg2 hq2 hp2
    refine wpQuiet_nil ?_
    refine NoPanic.normal ?_
    go_wp2
    go_ret2
    have HGR : Grow S w1 w2 := ⟨HG2.out.os, HG2.out.tape, HG2.out.output, HG2.out.size, HG2.out.block⟩
    exact take_end HH.out HO1.out HT1.out HK.out hpm H2.out HGR
end Go.Proofs.Ytcmmmmpdehfefaa
