/-
  Maps from numbers, as functions; a heap beside them (chapter 15).
-/
import Derived.Test.YtcmmmmpdehfefaaHThe
import Derived.Test.YtcmmmmpdehfefaaHTurn
namespace Go.Proofs.Ytcmmmmpdehfefaa
set_option linter.unusedVariables false
set_option linter.unusedSimpArgs false
open Go.RowKit Go.Maps
theorem u45 : Try.prog.underlying 45 = some (.map 3 3) := by kernel_rfl
theorem u46 : Try.prog.underlying 46 = some (.map 3 4) := by kernel_rfl
theorem zero3 (w : World) : (zeroValue 3).run Try.prog w = .ok (.int .i64 0) w := by kernel_rfl
theorem zero4 (w : World) : (zeroValue 4).run Try.prog w = .ok (.bool false) w := by kernel_rfl
/-- the map in block b reads as f; z where there is nothing -/
def MapF (w : World) (b n : Nat) (z : Value) (f : Int → Value) : Prop := ∃ D : DataW Value, w.ownsMap Try.prog 3 rdSelf b n D ∧ ∀ c, D.atKey (kc c) (.held z) = .held (f c)
theorem MapF.lt {w : World} {b n : Nat} {z : Value} {f : Int → Value} (h : MapF w b n z f) : b < w.heap.size := by
  obtain ⟨D, h1, _⟩ := h; exact h1.lt
theorem MapF.made (w : World) (z : Value) : MapF (w.alloc (.map #[] 0)) w.heap.size 0 z (fun _ => z) := ⟨_, World.ownsMap_made w Try.prog 3 rdSelf, fun c => rfl⟩
theorem MapF.block {w w' : World} {b n : Nat} {z : Value} {f : Int → Value} (h : MapF w b n z f) (hk : w'.heap[b]? = w.heap[b]?) : MapF w' b n z f := by
  obtain ⟨D, h1, h2⟩ := h
  exact ⟨D, ownsMap_block h1 hk, h2⟩
theorem MapF.look {w : World} {b n : Nat} {z : Value} {f : Int → Value} {t e : TypeId} (h : MapF w b n z f) (ht : Try.prog.underlying t = some (.map 3 e)) (hz : (zeroValue e).run Try.prog w = .ok z w) {c : Int} (hc : I64 c) :
    (Instr.lookup t (.map (some b)) (.int .i64 c) false).run Try.prog w = .ok (f c) w := by
  obtain ⟨D, h1, h2⟩ := h
  obtain ⟨v, ps, hrun, hv⟩ := h1.lookup law3 ht hz (zd := .held z) (zp := []) rfl (keyOf_int_mk u3 hc.wf)
  rw [show (Lit.int IntKind.i64 c) = kc c from rfl, h2] at hv
  simp only [rdSelf, Option.some.injEq, Prod.mk.injEq, DataW.held.injEq] at hv
  rw [hrun, hv.1]
theorem MapF.update {w : World} {b n : Nat} {z : Value} {f : Int → Value} {t e : TypeId} (h : MapF w b n z f) (ht : Try.prog.underlying t = some (.map 3 e)) (hn : n ≤ 100000) {c : Int} (hc : I64 c) (v : Value) :
    ∃ w', (Instr.mapUpdate t (.map (some b)) (.int .i64 c) v).run Try.prog w = .ok () w' ∧ MapF w' b (n + 1) z (fun k => if k = c then v else f k) ∧ w.grownBy w' (some b) := by
  obtain ⟨D, h1, h2⟩ := h
  obtain ⟨w', hrun, hown, hg⟩ := h1.update law3 ht (by unfold maxLen; omega) (keyOf_int_mk u3 hc.wf) (val := v) (d := .held v) (ps := []) rfl
  refine ⟨w', hrun, ⟨_, hown, fun k => ?_⟩, hg⟩
  show _ = DataW.held (if k = c then v else f k)
  by_cases e : k = c
  · subst e
    rw [if_pos rfl]
    exact atKey_put_same h1.isMap (k := kc k) (show WideAt.IsKeyLit (.int _ _) from trivial) _ _
  · rw [if_neg e, ← h2 k]
    exact atKey_put_other (kc_ne e) _ _
theorem One.grown {w wr w' : World} {hb mb n b : Nat} {L : List Pr} {S : Nat → Prop} (h : One w wr hb mb n L S) (hg : wr.grownBy w' (some b)) (hb' : ¬ own S mb b) (hw : w.heap.size ≤ b) : One w w' hb mb n L S := by
  refine ⟨h.1.kept hg.size fun k hk ho => hg.block k hk (fun e => by cases e; exact hb' ho), h.2.1, h.2.2.grown hg h.2.2.size fun k hk => ?_⟩
  cases hk; exact hw
/-- what the maps say of a heap's numbers -/
structure PSpec (l : List (Int × Int)) (fk : Int → Int) (fi : Int → Bool) : Prop where
  yes : ∀ y ∈ l, fi y.2 = true ∧ fk y.2 = y.1
  no : ∀ c, (∀ y ∈ l, y.2 ≠ c) → fi c = false
theorem PSpec.perm {l m : List (Int × Int)} {fk : Int → Int} {fi : Int → Bool} (h : PSpec l fk fi) (hp : m.Perm l) : PSpec m fk fi := ⟨fun y hy => h.yes y (hp.mem_iff.1 hy), fun c hc => h.no c fun y hy => hc y (hp.mem_iff.2 hy)⟩
theorem PSpec.fi {l : List (Int × Int)} {fk : Int → Int} {fi : Int → Bool} (h : PSpec l fk fi) (c : Int) : fi c = (findK c l).isSome := by
  cases hf : findK c l with
  | none =>
    refine h.no c fun y hy e => ?_
    have := List.find?_eq_none.1 hf y hy
    simp [e] at this
  | some y =>
    have h1 : (y.2 == c) = true := List.find?_some (p := fun z : Int × Int => z.2 == c) hf
    have h2 := (h.yes y (List.mem_of_find?_eq_some hf)).1
    rw [show y.2 = c by simpa using h1] at h2
    exact h2
theorem PSpec.fk {l : List (Int × Int)} {fk : Int → Int} {fi : Int → Bool} (h : PSpec l fk fi) {c : Int} {y : Int × Int} (hf : findK c l = some y) : fk c = y.1 := by
  have h1 : (y.2 == c) = true := List.find?_some (p := fun z : Int × Int => z.2 == c) hf
  have h2 := (h.yes y (List.mem_of_find?_eq_some hf)).2
  rw [show y.2 = c by simpa using h1] at h2
  exact h2
theorem PSpec.put {l : List (Int × Int)} {fk : Int → Int} {fi : Int → Bool} (h : PSpec l fk fi) (c x : Int) : PSpec ((x, c) :: oth c l) (fun k => if k = c then x else fk k) (fun k => if k = c then true else fi k) := by
  refine ⟨fun y hy => ?_, fun k hk => ?_⟩
  · rcases List.mem_cons.1 hy with rfl | hy
    · simp
    · obtain ⟨h1, h2⟩ := List.mem_filter.1 hy
      have h3 : y.2 ≠ c := by simpa using h2
      simp only [h3, if_false]
      exact h.yes y h1
  · have h1 : k ≠ c := fun e => hk (x, c) List.mem_cons_self e.symm
    simp only [h1, if_false]
    refine h.no k fun y hy e => ?_
    exact hk y (List.mem_cons_of_mem _ (List.mem_filter.2 ⟨hy, by simp [e, h1]⟩)) e
theorem PSpec.del {l : List (Int × Int)} {fk : Int → Int} {fi : Int → Bool} (h : PSpec l fk fi) (c : Int) : PSpec (oth c l) fk (fun k => if k = c then false else fi k) := by
  refine ⟨fun y hy => ?_, fun k hk => ?_⟩
  · obtain ⟨h1, h2⟩ := List.mem_filter.1 hy
    have h3 : y.2 ≠ c := by simpa using h2
    simp only [h3, if_false]
    exact h.yes y h1
  · by_cases h1 : k = c
    · simp [h1]
    · simp only [h1, if_false]
      refine h.no k fun y hy e => ?_
      exact hk y (List.mem_filter.2 ⟨hy, by simp [e, h1]⟩) e
/-- a heap, and beside it what is kept, and who is in -/
structure PSt (w wr : World) (hb mb bk bi n L' : Nat) (L : List Pr) (S : Nat → Prop) (fk : Int → Int) (fi : Int → Bool) (nk ni : Nat) : Prop where
  one : One w wr hb mb n L S
  heap : IsHeap L
  kept : MapF wr bk nk (.int .i64 0) (fun c => .int .i64 (fk c))
  isin : MapF wr bi ni (.bool false) (fun c => .bool (fi c))
  ne : bk ≠ bi
  ak : ¬ own S mb bk
  ai : ¬ own S mb bi
  wk : w.heap.size ≤ bk
  wi : w.heap.size ≤ bi
  spec : PSpec (L.map prP) fk fi
  len : L.length = L'
theorem PSt.step {w wr w' : World} {hb mb bk bi n L' n' : Nat} {L M : List Pr} {S S' : Nat → Prop} {fk : Int → Int} {fi : Int → Bool} {nk ni : Nat} (h : PSt w wr hb mb bk bi n L' L S fk fi nk ni)
    (ho : One w w' hb mb n' M S') (hs : Step S S' mb wr w') (hh : IsHeap M) (hp : (M.map prP).Perm (L.map prP)) : PSt w w' hb mb bk bi n' L' M S' fk fi nk ni :=
  ⟨ho, hh, h.kept.block (hs.2.block _ h.kept.lt h.ak), h.isin.block (hs.2.block _ h.isin.lt h.ai), h.ne, hs.apart h.kept.lt h.ak, hs.apart h.isin.lt h.ai, h.wk, h.wi, h.spec.perm hp, by rw [← h.len]; have := hp.length_eq; simpa using this⟩
theorem PSt.below {w wr w' : World} {hb mb bk bi n L' : Nat} {L : List Pr} {S : Nat → Prop} {fk : Int → Int} {fi : Int → Bool} {nk ni : Nat} (h : PSt w wr hb mb bk bi n L' L S fk fi nk ni) (hb' : Below wr.heap.size wr w') : PSt w w' hb mb bk bi n L' L S fk fi nk ni :=
  ⟨h.one.below hb', h.heap, h.kept.block (hb'.block _ h.kept.lt), h.isin.block (hb'.block _ h.isin.lt), h.ne, h.ak, h.ai, h.wk, h.wi, h.spec, h.len⟩
/-- a heap whose numbers the maps do not tell yet: what Put, Take, Pop leave -/
structure PMid (w wr : World) (hb mb bk bi n : Nat) (L : List Pr) (S : Nat → Prop) (l : List (Int × Int)) (fk : Int → Int) (fi : Int → Bool) (nk ni : Nat) : Prop where
  one : One w wr hb mb n L S
  heap : IsHeap L
  kept : MapF wr bk nk (.int .i64 0) (fun c => .int .i64 (fk c))
  isin : MapF wr bi ni (.bool false) (fun c => .bool (fi c))
  ne : bk ≠ bi
  ak : ¬ own S mb bk
  ai : ¬ own S mb bi
  wk : w.heap.size ≤ bk
  wi : w.heap.size ≤ bi
  to : (L.map prP).Perm l
theorem PSt.mid {w wr w' : World} {hb mb bk bi n L' n' : Nat} {L M : List Pr} {S S' : Nat → Prop} {l : List (Int × Int)} {fk : Int → Int} {fi : Int → Bool} {nk ni : Nat} (h : PSt w wr hb mb bk bi n L' L S fk fi nk ni)
    (ho : One w w' hb mb n' M S') (hs : Step S S' mb wr w') (hh : IsHeap M) (hp : (M.map prP).Perm l) : PMid w w' hb mb bk bi n' M S' l fk fi nk ni :=
  ⟨ho, hh, h.kept.block (hs.2.block _ h.kept.lt h.ak), h.isin.block (hs.2.block _ h.isin.lt h.ai), h.ne, hs.apart h.kept.lt h.ak, hs.apart h.isin.lt h.ai, h.wk, h.wi, hp⟩
theorem PMid.keep {w wr : World} {hb mb bk bi n : Nat} {L : List Pr} {S : Nat → Prop} {l : List (Int × Int)} {fk : Int → Int} {fi : Int → Bool} {nk ni : Nat} (h : PMid w wr hb mb bk bi n L S l fk fi nk ni) (hn : nk ≤ 100000) {c : Int} (hc : I64 c) (x : Int) :
    ∃ w', (Instr.mapUpdate 45 (.map (some bk)) (.int .i64 c) (.int .i64 x)).run Try.prog wr = .ok () w' ∧ wr.grownBy w' (some bk) ∧ PMid w w' hb mb bk bi n L S l (fun k => if k = c then x else fk k) fi (nk + 1) ni := by
  obtain ⟨w', hrun, hm, hg⟩ := h.kept.update u45 hn hc (.int .i64 x)
  refine ⟨w', hrun, hg, h.one.grown hg h.ak h.wk, h.heap, ?_, h.isin.block (hg.block _ h.isin.lt (fun e => by cases e; exact h.ne rfl)), h.ne, h.ak, h.ai, h.wk, h.wi, h.to⟩
  have e : (fun k => if k = c then Value.int .i64 x else .int .i64 (fk k)) = (fun k => Value.int .i64 (if k = c then x else fk k)) := by funext k; split <;> rfl
  rw [← e]; exact hm
theorem PMid.mark {w wr : World} {hb mb bk bi n : Nat} {L : List Pr} {S : Nat → Prop} {l : List (Int × Int)} {fk : Int → Int} {fi : Int → Bool} {nk ni : Nat} (h : PMid w wr hb mb bk bi n L S l fk fi nk ni) (hn : ni ≤ 100000) {c : Int} (hc : I64 c) (x : Bool) :
    ∃ w', (Instr.mapUpdate 46 (.map (some bi)) (.int .i64 c) (.bool x)).run Try.prog wr = .ok () w' ∧ wr.grownBy w' (some bi) ∧ PMid w w' hb mb bk bi n L S l fk (fun k => if k = c then x else fi k) nk (ni + 1) := by
  obtain ⟨w', hrun, hm, hg⟩ := h.isin.update u46 hn hc (.bool x)
  refine ⟨w', hrun, hg, h.one.grown hg h.ai h.wi, h.heap, h.kept.block (hg.block _ h.kept.lt (fun e => by cases e; exact h.ne rfl)), ?_, h.ne, h.ak, h.ai, h.wk, h.wi, h.to⟩
  have e : (fun k => if k = c then Value.bool x else .bool (fi k)) = (fun k => Value.bool (if k = c then x else fi k)) := by funext k; split <;> rfl
  rw [← e]; exact hm
theorem PMid.st {w wr : World} {hb mb bk bi n : Nat} {L : List Pr} {S : Nat → Prop} {l : List (Int × Int)} {fk : Int → Int} {fi : Int → Bool} {nk ni : Nat} (h : PMid w wr hb mb bk bi n L S l fk fi nk ni) (hs : PSpec l fk fi) : PSt w wr hb mb bk bi n l.length L S fk fi nk ni :=
  ⟨h.one, h.heap, h.kept, h.isin, h.ne, h.ak, h.ai, h.wk, h.wi, hs.perm h.to, perm_len h.to⟩
theorem PMid.lookK {w wr : World} {hb mb bk bi n : Nat} {L : List Pr} {S : Nat → Prop} {l : List (Int × Int)} {fk : Int → Int} {fi : Int → Bool} {nk ni : Nat} (h : PMid w wr hb mb bk bi n L S l fk fi nk ni) {c : Int} (hc : I64 c) : (Instr.lookup 45 (.map (some bk)) (.int .i64 c) false).run Try.prog wr = .ok (.int .i64 (fk c)) wr := h.kept.look u45 (zero3 _) hc
theorem PMid.lookI {w wr : World} {hb mb bk bi n : Nat} {L : List Pr} {S : Nat → Prop} {l : List (Int × Int)} {fk : Int → Int} {fi : Int → Bool} {nk ni : Nat} (h : PMid w wr hb mb bk bi n L S l fk fi nk ni) {c : Int} (hc : I64 c) : (Instr.lookup 46 (.map (some bi)) (.int .i64 c) false).run Try.prog wr = .ok (.bool (fi c)) wr := h.isin.look u46 (zero4 _) hc
theorem PSt.new (w w1 w2 : World) (h1 : w1 = (w.alloc (.map #[] 0)).alloc (.cells #[.slice none 0 0, .map (some w.heap.size)] 54)) (h2 : w2 = (w1.alloc (.map #[] 0)).alloc (.map #[] 0)) :
    PSt w w2 (w.heap.size + 1) w.heap.size (w.heap.size + 1 + 1) (w.heap.size + 1 + 1 + 1) 0 0 [] (fun k => k = w.heap.size + 1) (fun _ => 0) (fun _ => false) 0 0 := by
  have o := One.new w
  rw [← h1] at o
  have hsz : w1.heap.size = w.heap.size + 1 + 1 := by rw [h1]; simp
  have b2 : Below w1.heap.size w1 w2 := by rw [h2]; exact ((Below.refl w1.heap.size w1).alloc (Nat.le_refl _) _).alloc (by simp) _
  have k1 := MapF.made w1 (.int .i64 0)
  have k2 := MapF.made (w1.alloc (.map #[] 0)) (.bool false)
  rw [hsz] at k1
  have e2 : (w1.alloc (.map #[] 0)).heap.size = w.heap.size + 1 + 1 + 1 := by simp [hsz]
  rw [e2, ← h2] at k2
  refine ⟨o.below b2, Keeps.heap.nil, ?_, k2, by omega, ?_, ?_, by omega, by omega, ⟨(fun y hy => by cases hy), fun c _ => rfl⟩, rfl⟩
  · rw [h2]; exact k1.block (heap_alloc_old _ _ (by simp [hsz]))
  · rintro (h | h) <;> omega
  · rintro (h | h) <;> omega
theorem PMid.below {w wr w' : World} {hb mb bk bi n : Nat} {L : List Pr} {S : Nat → Prop} {l : List (Int × Int)} {fk : Int → Int} {fi : Int → Bool} {nk ni : Nat} (h : PMid w wr hb mb bk bi n L S l fk fi nk ni) (hb' : Below wr.heap.size wr w') : PMid w w' hb mb bk bi n L S l fk fi nk ni :=
  ⟨h.one.below hb', h.heap, h.kept.block (hb'.block _ h.kept.lt), h.isin.block (hb'.block _ h.isin.lt), h.ne, h.ak, h.ai, h.wk, h.wi, h.to⟩
theorem PMid.mid {w wr w' : World} {hb mb bk bi n n' : Nat} {L M : List Pr} {S S' : Nat → Prop} {l m : List (Int × Int)} {fk : Int → Int} {fi : Int → Bool} {nk ni : Nat} (h : PMid w wr hb mb bk bi n L S l fk fi nk ni)
    (ho : One w w' hb mb n' M S') (hs : Step S S' mb wr w') (hh : IsHeap M) (hp : (M.map prP).Perm m) : PMid w w' hb mb bk bi n' M S' m fk fi nk ni :=
  ⟨ho, hh, h.kept.block (hs.2.block _ h.kept.lt h.ak), h.isin.block (hs.2.block _ h.isin.lt h.ai), h.ne, hs.apart h.kept.lt h.ak, hs.apart h.isin.lt h.ai, h.wk, h.wi, hp⟩
theorem pop_least {p : Pr} {M : List Pr} {y : Int × Int} {rest : List (Int × Int)} (h : IsHeap (p :: M)) (hp : ((p :: M).map prP).Perm (y :: rest)) (hs : (y :: rest).Pairwise fun a b => (!ltP b a) = true) : prP p = y := by
  apply leP_anti
  · obtain ⟨q, hq, e⟩ := List.mem_map.1 (hp.mem_iff.2 List.mem_cons_self)
    obtain ⟨k, hk⟩ := List.getElem?_of_mem hq
    have := heap_least h (p := p) rfl k q hk
    rw [lessB_ltP, e] at this
    simp [this]
  · rcases List.mem_cons.1 (hp.mem_iff.1 (show prP p ∈ (p :: M).map prP from List.mem_cons_self)) with e | hm
    · rw [e, Bool.not_eq_true', ltP_no]; omega
    · exact (List.pairwise_cons.1 hs).1 _ hm
/-- a sorted list of unlike clients goes up -/
theorem sort_up {l : List (Int × Int)} (ho : (l.map Prod.snd).Nodup) {k : Nat} {z y : Int × Int} (hz : (sortP l)[k]? = some z) (hy : (sortP l)[k + 1]? = some y) : z.1 < y.1 ∨ (z.1 = y.1 ∧ z.2 < y.2) := by
  have hk := (List.getElem?_eq_some_iff.1 hy).1
  have h1 := List.pairwise_iff_getElem.1 (sortP_sorted l) k (k + 1) (by omega) hk (by omega)
  have e1 : (sortP l)[k] = z := by have := List.getElem?_eq_some_iff.1 hz; obtain ⟨_, h⟩ := this; exact h
  have e2 : (sortP l)[k + 1] = y := by have := List.getElem?_eq_some_iff.1 hy; obtain ⟨_, h⟩ := this; exact h
  rw [e1, e2, Bool.not_eq_true', ltP_no] at h1
  have hn : ((sortP l).map Prod.snd).Nodup := (((sortP_perm l).map Prod.snd).nodup_iff).2 ho
  have h2 : z.2 ≠ y.2 := by
    intro e
    have h3 := List.pairwise_iff_getElem.1 hn k (k + 1) (by rw [List.length_map]; omega) (by rw [List.length_map]; exact hk) (by omega)
    apply h3
    simp only [List.getElem_map, e1, e2, e]
  omega
/-- an act's own block -/
def XB (w : World) (b : Nat) (x : Ac) : Prop := w.heap[b]? = some (.cells #[.int .i64 x.d, .int .i64 x.c, .int .i64 x.n] 38 (0, 0))
theorem XB.cells {w : World} {b : Nat} {x : Ac} (h : XB w b x) : w.cell? ⟨b, 0, none⟩ = some (.int .i64 x.d) ∧ w.cell? ⟨b, 1, none⟩ = some (.int .i64 x.c) ∧ w.cell? ⟨b, 2, none⟩ = some (.int .i64 x.n) := by
  unfold XB at h
  refine ⟨?_, ?_, ?_⟩ <;> (rw [cell_of_row _ _ _ _ _ _ h]; rfl)
theorem XB.step {w w' : World} {b mb : Nat} {x : Ac} {S S' : Nat → Prop} (h : XB w b x) (ho : ¬ own S mb b) (hs : Step S S' mb w w') : XB w' b x := by
  unfold XB at *
  rw [hs.2.block b (Array.getElem?_eq_some_iff.1 h).1 ho]; exact h
theorem XB.grown {w w' : World} {b r : Nat} {x : Ac} (h : XB w b x) (hg : w.grownBy w' (some r)) (hr : b ≠ r) : XB w' b x := by
  unfold XB at *
  rw [hg.block b (Array.getElem?_eq_some_iff.1 h).1 (fun e => hr (by cases e; rfl))]; exact h
end Go.Proofs.Ytcmmmmpdehfefaa
