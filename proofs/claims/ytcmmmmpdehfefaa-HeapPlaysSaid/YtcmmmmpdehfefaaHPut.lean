/-
  Heap.Put (chapter 15).
-/
import Derived.Test.YtcmmmmpdehfefaaHTake
namespace Go.Proofs.Ytcmmmmpdehfefaa
set_option linter.unusedVariables false
set_option linter.unusedSimpArgs false
open Go.RowKit Go.Maps
set_option maxRecDepth 100000 in
theorem put_nil (c n : Int) (w : World) : Calls Try.prog 13 #[.pointer none, .int .i64 c, .int .i64 n] w fun e w' => e = .returned (.int .i64 1) ∧ w' = w := by
  go_enter Try.func13, Try.ntmps13
  go_wp2
  go_ret
  exact ⟨rfl, rfl⟩
set_option maxRecDepth 100000 in
theorem put_arg (hb : Nat) (c n : Int) (hc : c < 0 ∨ 1000 < c) (w : World) : Calls Try.prog 13 #[.pointer (some ⟨hb, 0, none⟩), .int .i64 c, .int .i64 n] w fun e w' => e = .returned (.int .i64 2) ∧ w' = w := by
  by_cases h0 : c < 0
  · clear hc
    go_enter Try.func13, Try.ntmps13
    go_wp2
    go_ret
    exact ⟨rfl, rfl⟩
  · have h1 : 1000 < c := by omega
    clear hc
    go_enter Try.func13, Try.ntmps13
    go_wp2
    go_ret
    exact ⟨rfl, rfl⟩
theorem KV.put {D : DataW Value} {L M : List Pr} {p : Pr} (h : KV D L) (hD : IsMap D) (hp : M.Perm (p :: L)) (hno : ∀ q ∈ L, q.c ≠ p.c) : KV (D.put (kc p.c) (.held p.val)) M := by
  refine ⟨fun c hc => ?_, fun q hq => ?_⟩
  · have h1 : c ≠ p.c := fun e => hc p (hp.mem_iff.2 List.mem_cons_self) e.symm
    rw [has_put_other (kc_ne h1)]
    exact h.no c fun r hr => hc r (hp.mem_iff.2 (List.mem_cons_of_mem _ hr))
  · rcases List.mem_cons.1 (hp.mem_iff.1 hq) with rfl | hq
    · exact ⟨has_put_same hD (k := kc q.c) (show WideAt.IsKeyLit (.int _ _) from trivial) _, fun z => atKey_put_same hD (k := kc q.c) (show WideAt.IsKeyLit (.int _ _) from trivial) _ _⟩
    · have h1 := hno q hq
      exact ⟨by rw [has_put_other (kc_ne h1)]; exact (h.yes q hq).1, fun z => by rw [atKey_put_other (kc_ne h1)]; exact (h.yes q hq).2 z⟩
theorem put_end {w w2 w3 : World} {hb mb n : Nat} {S : Nat → Prop} {L : List Pr} {p : Pr} {D : DataW Value} (h : Hp w hb mb S n L) (hc : 0 ≤ p.c ∧ p.c ≤ 1000) (hno : ∀ q ∈ L, q.c ≠ p.c) (hpb : p.pb = w.heap.size) (ho : w2.ownsMap Try.prog 3 rdSelf mb (n + 1) (D.put (kc p.c) (.held p.val))) (hD : IsMap D) (hk : KV D L)
    (ht : w.grownBy w2 (some mb)) (hlt : w.heap.size < w2.heap.size) (h2 : HG w3 hb mb (more (fun k => S k ∨ k = p.pb) w2) (pushL L p)) (hg : Grow (fun k => S k ∨ k = p.pb) w2 w3) :
    ∃ S', Hp w3 hb mb S' (n + 1) (pushL L p) ∧ (∀ k, S' k → S k ∨ w.heap.size ≤ k) ∧ Grow (own S mb) w w3 := by
  have hpm := pushL_perm L p
  obtain ⟨D0, hD0, _⟩ := h.map
  have hmb := hD0.lt
  have hm2 : ¬ (S mb ∨ mb = p.pb) := by rintro (hh | hh); exact h.mS hh; omega
  have hsz := ht.size
  refine ⟨fun k => more (fun k => S k ∨ k = p.pb) w2 k ∧ k < w3.heap.size, ⟨h2.cut, ⟨_, ownsMap_block ho (hg.block mb ho.lt hm2), hk.put hD hpm hno⟩, ?_, fun k hh => hh.2, fun q hq => ?_, ?_⟩, ?_, ?_⟩
  · rintro ⟨hh | hh, _⟩
    · exact hm2 hh
    · omega
  · rcases List.mem_cons.1 (hpm.mem_iff.1 hq) with rfl | hq
    · exact hc
    · exact h.wfc q hq
  · rw [(hpm.map Pr.c).nodup_iff, List.map_cons, List.nodup_cons]
    exact ⟨fun hh => by obtain ⟨q, hq, e⟩ := List.mem_map.1 hh; exact hno q hq e, h.one⟩
  · rintro k ⟨(hh | hh) | hh, _⟩
    · exact .inl hh
    · exact .inr (by omega)
    · exact .inr (by omega)
  · exact ⟨hg.os.trans ht.os, hg.tape.trans ht.tape, hg.output.trans ht.output, Nat.le_trans ht.size hg.size, fun k hk hs => (hg.block k (Nat.lt_of_lt_of_le hk ht.size) (fun hh => hh.elim (fun hh => hs (.inl hh)) (fun hh => by omega))).trans (ht.block k hk (fun e => hs (.inr (by cases e; rfl))))⟩
set_option maxHeartbeats 2000000 in
set_option maxRecDepth 100000 in
theorem put_new (hb mb n : Nat) (S : Nat → Prop) (L : List Pr) (c x : Int) (w : World) (h : Hp w hb mb S n L) (hlen : L.length ≤ 100000) (hn : n ≤ 100000) (hc : 0 ≤ c ∧ c ≤ 1000) (hno : ∀ q ∈ L, q.c ≠ c) :
    Calls Try.prog 13 #[.pointer (some ⟨hb, 0, none⟩), .int .i64 c, .int .i64 x] w fun e w' => e = .returned (.int .i64 0) ∧ ∃ pb S', Hp w' hb mb S' (n + 1) (pushL L ⟨pb, x, c⟩) ∧ (∀ k, S' k → S k ∨ w.heap.size ≤ k) ∧ Grow (own S mb) w w' := by
  obtain ⟨ao, cap, hc1, hc2⟩ := h.hg.len
  obtain ⟨D, hD, hk⟩ := h.map
  have hbl := h.hg.lt
  have HD := Lib.hid hD
  have HW := Lib.hid (I64.wf (n := c) (by constructor <;> omega))
  have hh := hk.no c hno
  have HH := Lib.hid h
  have HK := Lib.hid hk
  have HN := Lib.hid hno
  have HC := Lib.hid hc
  have HL := Lib.hid hlen
  have HNN := Lib.hid hn
  have hm1 : n < maxLen := by unfold maxLen; omega
  have HM := Lib.hid hm1
  have g1 : 0 ≤ c := hc.1
  have g2 : c ≤ 1000 := hc.2
  clear h hD hk hlen hno hn hc1 hc hm1
  have hc3 : (w.alloc (.cells #[.int .i64 x, .int .i64 c, .int .i64 0] 58)).cell? ⟨hb, 1, none⟩ = some (.map (some mb)) := by rw [World.cell?_alloc_some _ _ _ (by rw [hc2]; rfl)]; exact hc2
  go_enter Try.func13, Try.ntmps13
  go_wp2_with (first
    | (at_lookup; go_loud (refine wpList_lookup_own_ok _ rfl (.tmp 22) (.tmp 23) 50 rfl 3 55 law3 u50 rdSelf (zero55 _) (.held (.pointer none)) [] rfl mb n D rfl HD.out (.int .i64 c) (kc c) rfl (keyOf_int_mk u3 HW.out) ?_; intro v ps hv; rw [hh]; clear hv hh))
    | (at_mapUpdate; go_loud (refine wpList_mapUpdate_own _ rfl (.tmp 48) (.tmp 49) (.tmp 50) 50 rfl 3 55 law3 u50 rdSelf mb n D rfl (HD.out.alloc _) HM.out (.int .i64 c) (.pointer (some ⟨w.heap.size, 0, none⟩)) (kc c) rfl rfl (keyOf_int_mk u3 HW.out) (.held (.pointer (some ⟨w.heap.size, 0, none⟩))) [] rfl ?_; intro w2 hown2 hgr2; have HO2 := Lib.hid hown2; have HG2 := Lib.hid hgr2; clear hown2 hgr2 hc2 hc3)))
  have HGT : Hid (w.grownBy w2 (some mb)) := Lib.hid ⟨HG2.out.os, HG2.out.tape, HG2.out.output, Nat.le_trans (by simp) HG2.out.size, fun k hk hne => (HG2.out.block k (by simp; omega) hne).trans (heap_alloc_old _ _ hk)⟩
  have HSZ : Hid (w.heap.size < w2.heap.size) := Lib.hid (Nat.lt_of_lt_of_le (by simp) HG2.out.size)
  have HPB : Hid (w2.heap[w.heap.size]? = some (.cells #[.int .i64 x, .int .i64 c, .int .i64 0] 58 (0, 0))) := Lib.hid ((HG2.out.block _ (by simp) (fun e => by have := HD.out.lt; cases e; omega)).trans (heap_alloc_new _ _))
  have HGG : Hid (HG w2 hb mb (fun k => S k ∨ k = w.heap.size) L) := Lib.hid ((HH.out.hg.kept (w' := w2) (fun k hk hs => HGT.out.block k hk (fun e => by cases e; exact HH.out.mS hs))).mono fun k hk => .inl hk)
  refine (hpush_any hb mb w.heap.size (fun k => S k ∨ k = w.heap.size) L x c (.int .i64 0) w2 HGG.out HL.out HPB.out (fun p hp e => by have := HH.out.lt _ (HH.out.hg.prS p hp); omega) (.inr rfl)).mono ?_
  rintro e w3 ⟨rfl, h3, hg3⟩
  have HR : Hid (∃ S', Hp w3 hb mb S' (n + 1) (pushL L ⟨w.heap.size, x, c⟩) ∧ (∀ k, S' k → S k ∨ w.heap.size ≤ k) ∧ Grow (own S mb) w w3) :=
    Lib.hid (put_end (p := ⟨w.heap.size, x, c⟩) HH.out HC.out HN.out rfl HO2.out HD.out.isMap HK.out HGT.out HSZ.out h3 hg3)
  clear h3 hg3
  go_wp2_with fail
  go_ret
  exact ⟨rfl, _, HR.out⟩
theorem HG.set {w : World} {hb mb i : Nat} {S : Nat → Prop} {L : List Pr} {p : Pr} (h : HG w hb mb S L) (hi : L[i]? = some p) (x : Int) :
    HG (w.setCell ⟨p.pb, 0, none⟩ (.int .i64 x)) hb mb S (L.set i ⟨p.pb, x, p.c⟩) ∧ Grow S w (w.setCell ⟨p.pb, 0, none⟩ (.int .i64 x)) := by
  have hil := (List.getElem?_eq_some_iff.1 hi).1
  obtain ⟨rb, cap, ht, hr, hrb⟩ := h.row (by rintro rfl; simp at hil)
  have hto : Touch (RowSet rb L) w (w.setCell ⟨p.pb, 0, none⟩ (.int .i64 x)) := (Touch.refl (RowSet rb L) w).setCell (p := ⟨p.pb, 0, none⟩) (show RowSet rb L p.pb from .inr ⟨p, List.mem_of_getElem? hi, rfl⟩) _
  have hrp := rb_ne hr hi
  have hval : ∀ j : Nat, (L.set i ⟨p.pb, x, p.c⟩)[j]?.map Pr.val = L[j]?.map Pr.val := by
    intro j
    by_cases hj : j = i
    · subst hj; rw [List.getElem?_set_self hil, hi]; rfl
    · rw [List.getElem?_set_ne (Ne.symm hj)]
  have hget : ∀ (j : Nat) (q : Pr), (L.set i ⟨p.pb, x, p.c⟩)[j]? = some q → ∃ q0, L[j]? = some q0 ∧ q0.pb = q.pb ∧ (j = i → q = ⟨p.pb, x, p.c⟩) ∧ (j ≠ i → q = q0) := by
    intro j q hq
    by_cases hj : j = i
    · subst hj; rw [List.getElem?_set_self hil] at hq; cases hq; exact ⟨p, hi, rfl, fun _ => rfl, fun h => absurd rfl h⟩
    · rw [List.getElem?_set_ne (Ne.symm hj)] at hq; exact ⟨q, hq, rfl, fun h => absurd h hj, fun _ => rfl⟩
  obtain ⟨cur, c1, c2, c3⟩ := hr.row
  refine ⟨HG.of_row (n := L.length) (cap := cap) (rb := rb) (ht.touch hr hto) ⟨⟨cur, ?_, c2, fun j hj => ?_⟩, by rw [List.length_set]; exact hr.len, hr.max, fun j q hq => ?_, fun j k q r hq hrr e => ?_⟩ (List.length_set ..) h.hbS hrb (fun q hq => ?_), (hto.grow).mono ?_⟩
  · rw [heap_setCell_other _ _ _ _ hrp]; exact c1
  · rw [c3 j (by rw [List.length_set] at hj; exact hj), hval j]
  · obtain ⟨q0, h0, h1, h2, h3⟩ := hget j q hq
    by_cases hj : j = i
    · subst hj
      rw [h2 rfl]
      exact Go.heap_setCell_same _ _ _ _ _ _ (hr.pair _ _ hi)
    · rw [h3 hj, heap_setCell_other _ _ _ _ (fun e => hj (hr.apart _ _ _ _ h0 hi e))]
      exact hr.pair _ _ h0
  · obtain ⟨q0, h0, h1, _⟩ := hget j q hq
    obtain ⟨r0, h4, h5, _⟩ := hget k r hrr
    exact hr.apart _ _ _ _ h0 h4 (by rw [h1, h5]; exact e)
  · rcases List.mem_or_eq_of_mem_set hq with hq | rfl
    · exact h.prS q hq
    · exact h.prS p (List.mem_of_getElem? hi)
  · rintro k _ (rfl | ⟨q, hq, rfl⟩)
    · exact hrb
    · exact h.prS q hq
theorem old_end {w w3 : World} {hb mb n i : Nat} {S : Nat → Prop} {L : List Pr} {p : Pr} {x : Int} {D : DataW Value} (h : Hp w hb mb S n L) (hi : L[i]? = some p) (hD : w.ownsMap Try.prog 3 rdSelf mb n D) (hk : KV D L)
    (h1 : Grow S w (w.setCell ⟨p.pb, 0, none⟩ (.int .i64 x))) (h3 : HG w3 hb mb S (fixL (L.set i ⟨p.pb, x, p.c⟩) i)) (hg : Grow S (w.setCell ⟨p.pb, 0, none⟩ (.int .i64 x)) w3) :
    ∃ S', Hp w3 hb mb S' n (fixL (L.set i ⟨p.pb, x, p.c⟩) i) ∧ (∀ k, S' k → S k ∨ w.heap.size ≤ k) ∧ Grow (own S mb) w w3 := by
  have hil := (List.getElem?_eq_some_iff.1 hi).1
  have hpm := fixL_perm (L.set i ⟨p.pb, x, p.c⟩) i
  have hgg := h1.trans' hg
  have hc : (L.set i ⟨p.pb, x, p.c⟩).map Pr.c = L.map Pr.c := by
    rw [List.map_set]
    apply List.ext_getElem?
    intro j
    by_cases hj : j = i
    · subst hj; rw [List.getElem?_set_self (by simpa using hil), List.getElem?_map, hi]; rfl
    · rw [List.getElem?_set_ne (Ne.symm hj)]
  have hset : ∀ q ∈ L.set i ⟨p.pb, x, p.c⟩, ∃ q0 ∈ L, q0.c = q.c ∧ q0.val = q.val := by
    intro q hq
    rcases List.mem_or_eq_of_mem_set hq with hq | rfl
    · exact ⟨q, hq, rfl, rfl⟩
    · exact ⟨p, List.mem_of_getElem? hi, rfl, rfl⟩
  refine ⟨fun k => S k ∧ k < w3.heap.size, ⟨h3.cut, ⟨D, ownsMap_block hD (hgg.block mb hD.lt h.mS), fun c hc1 => hk.no c fun q hq => ?_, fun q hq => ?_⟩, fun hh => h.mS hh.1, fun k hh => hh.2, fun q hq => ?_, ?_⟩, fun k hh => .inl hh.1, hgg.mono fun k _ hh => .inl hh⟩
  · have : q.c ∈ (L.set i ⟨p.pb, x, p.c⟩).map Pr.c := by rw [hc]; exact List.mem_map.2 ⟨q, hq, rfl⟩
    obtain ⟨r, hr, e⟩ := List.mem_map.1 this
    rw [← e]
    exact hc1 r (hpm.mem_iff.2 hr)
  · obtain ⟨q0, h0, e1, e2⟩ := hset q (hpm.mem_iff.1 hq)
    rw [← e1, ← e2]
    exact hk.yes q0 h0
  · obtain ⟨q0, h0, e1, e2⟩ := hset q (hpm.mem_iff.1 hq)
    rw [← e1]
    exact h.wfc q0 h0
  · rw [(hpm.map Pr.c).nodup_iff, hc]; exact h.one
set_option maxHeartbeats 2000000 in
set_option maxRecDepth 100000 in
theorem put_old (hb mb n i : Nat) (S : Nat → Prop) (L : List Pr) (p : Pr) (x : Int) (w : World) (h : Hp w hb mb S n L) (hlen : L.length ≤ 100000) (hi : L[i]? = some p) :
    Calls Try.prog 13 #[.pointer (some ⟨hb, 0, none⟩), .int .i64 p.c, .int .i64 x] w fun e w' => e = .returned (.int .i64 0) ∧ ∃ S', Hp w' hb mb S' n (fixL (L.set i ⟨p.pb, x, p.c⟩) i) ∧ (∀ k, S' k → S k ∨ w.heap.size ≤ k) ∧ Grow (own S mb) w w' := by
  obtain ⟨ao, cap, hc1, hc2⟩ := h.hg.len
  obtain ⟨D, hD, hk⟩ := h.map
  have hmem := List.mem_of_getElem? hi
  have hil := (List.getElem?_eq_some_iff.1 hi).1
  have HD := Lib.hid hD
  have HW := Lib.hid (I64.wf (n := p.c) (by have := h.wfc p hmem; constructor <;> omega))
  have hh := (hk.yes p hmem).1
  have hat := (hk.yes p hmem).2
  have g1 := (h.wfc p hmem).1
  have g2 := (h.wfc p hmem).2
  obtain ⟨hs1, hs2⟩ := h.hg.set hi x
  have HS1 := Lib.hid hs1
  have HS2 := Lib.hid hs2
  have HH := Lib.hid h
  have HK := Lib.hid hk
  have HHI := Lib.hid hi
  obtain ⟨rb, cap', ht, hr, hrb⟩ := h.hg.row (by rintro rfl; simp at hil)
  have hp0 := (hr.num hi).1
  have hf0 := (hr.num hi).2.2.2.2
  have hp2 := (hr.num hi).2.2.1
  have hp2' : (w.setCell ⟨p.pb, 0, none⟩ (.int .i64 x)).cell? ⟨p.pb, 2, none⟩ = some (.int .i64 (i : Int)) := by simp [go_sem, hp2]
  have HF := Lib.hid (fun w' (hw : HG w' hb mb S (L.set i ⟨p.pb, x, p.c⟩)) => fix_any hb mb i S (L.set i ⟨p.pb, x, p.c⟩) w' hw (by rw [List.length_set]; exact hlen) (by rw [List.length_set]; exact hil))
  clear h hD hk hc1 hlen hil hmem hi ht hr hrb hs1 hs2 hp2
  go_enter Try.func13, Try.ntmps13
  go_wp2_with (at_lookup; go_loud (refine wpList_lookup_own_ok _ rfl (.tmp 22) (.tmp 23) 50 rfl 3 55 law3 u50 rdSelf (zero55 _) (.held (.pointer none)) [] rfl mb n D rfl HD.out (.int .i64 p.c) (kc p.c) rfl (keyOf_int_mk u3 HW.out) ?_; intro v ps hv; rw [hh]; rw [hat] at hv; simp only [rdSelf, Option.some.injEq, Prod.mk.injEq, DataW.held.injEq] at hv; obtain ⟨rfl, _⟩ := hv; unfold Pr.val; clear hh hat))
  clear hp0 hf0 hc2
  refine wp_region_noPanic ?_
  refine wp_region_plw (.step [true, true, true, false, true, true, true] (.cons 3 (.step [] (.cons 7 (.step [] (.cons 8 (.last []) .nil)) .nil)) (.cons 7 (.step [] (.cons 3 (.step [] (.cons 8 (.last []) .nil)) .nil)) .nil))) (fun _ => True) (by kernel_rfl) (by kernel_rfl) (by kernel_rfl) (fun _ _ _ _ _ _ _ h => h) trivial ?_
  simp only [wpPw, wpBw, selF, and_true]
  repeat (go_big_quiet_step (fail))
  refine wpQuiet_nil ?_
  refine ⟨?_, ?_⟩
  all_goals
    refine wpOp_step rfl (fun K hK => ?_)
    go_simp
    refine hK _ _ ⟨fun _ => True, trivial, fun _ h => h, ?_⟩
    clear hK K
    repeat (go_big_quiet_step (fail))
    refine wpQuiet_nil ?_
    refine wpOp_step rfl (fun K hK => ?_)
    go_simp
    refine hK _ _ ⟨fun _ => True, trivial, fun _ h => h, ?_⟩
    clear hK K
    repeat (go_big_quiet_step (fail))
    refine wpQuiet_nil ?_
    refine wpOp_step rfl (fun K hK => ?_)
    go_simp
    refine (HF.out _ (HS1.out.drewN 1)).mono ?_
    rintro e w2 ⟨rfl, h2, hg2⟩
    refine hK _ _ ⟨fun _ => True, trivial, fun _ h => h, ?_⟩
    have H2 := Lib.hid h2
    have HG2 := Lib.hid hg2
    clear hK K h2 hg2 hp2'
    refine wpQuiet_nil ?_
    refine NoPanic.normal ?_
    go_wp2
    go_ret
    have HGR : Grow S (w.setCell ⟨p.pb, 0, none⟩ (.int .i64 x)) w2 := ⟨HG2.out.os, HG2.out.tape, HG2.out.output, HG2.out.size, HG2.out.block⟩
    exact ⟨rfl, old_end HH.out HHI.out HD.out HK.out HS2.out H2.out HGR⟩
end Go.Proofs.Ytcmmmmpdehfefaa
