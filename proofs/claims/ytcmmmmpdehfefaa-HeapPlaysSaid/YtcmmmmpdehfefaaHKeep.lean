/-
  Put, Take, Pop, Least, in words of the numbers that a heap has (chapter 15).
-/
import Derived.Test.YtcmmmmpdehfefaaHAct
namespace Go.Proofs.Ytcmmmmpdehfefaa
set_option linter.unusedVariables false
set_option linter.unusedSimpArgs false
open Go.RowKit Go.Maps
/-- what the operations keep of a row -/
structure Keeps (Q : List Pr → Prop) : Prop where
  nil : Q []
  push : ∀ L p, Q L → Q (pushL L p)
  fix : ∀ L i p x, L[i]? = some p → Q L → Q (fixL (L.set i ⟨p.pb, x, p.c⟩) i)
  bring : ∀ L M i m p, L.length = m + 1 → L[i]? = some p → bringL m L i = M ++ [p] → Q L → Q M
theorem Keeps.any : Keeps (fun _ => True) := ⟨trivial, fun _ _ _ => trivial, fun _ _ _ _ _ _ => trivial, fun _ _ _ _ _ _ _ _ _ => trivial⟩
/-- a client's others -/
def oth (c : Int) (l : List (Int × Int)) : List (Int × Int) := l.filter fun y => !(y.2 == c)
def putE (c : Int) : Int := if c < 0 ∨ 1000 < c then 2 else 0
def putK (c x : Int) (l : List (Int × Int)) : List (Int × Int) := if c < 0 ∨ 1000 < c then l else (x, c) :: oth c l
def findK (c : Int) (l : List (Int × Int)) : Option (Int × Int) := l.find? fun y => y.2 == c
/-- what an operation does to the heap's blocks -/
def Step (S S' : Nat → Prop) (mb : Nat) (w w' : World) : Prop := (∀ k, own S' mb k → own S mb k ∨ w.heap.size ≤ k) ∧ Grow (own S mb) w w'
theorem Step.refl (S : Nat → Prop) (mb : Nat) (w : World) : Step S S mb w w := ⟨fun k h => .inl h, Grow.refl _ _⟩
theorem Step.trans {S S' S'' : Nat → Prop} {mb : Nat} {a b c : World} (h : Step S S' mb a b) (k : Step S' S'' mb b c) : Step S S'' mb a c :=
  ⟨fun i hi => (k.1 i hi).elim (h.1 i) (fun hh => .inr (Nat.le_trans h.2.size hh)), h.2.trans (k.2.mono fun i _ hi => h.1 i hi)⟩
theorem Step.of {S S' : Nat → Prop} {mb : Nat} {w w' : World} (hs : ∀ k, S' k → S k ∨ w.heap.size ≤ k) (hg : Grow (own S mb) w w') : Step S S' mb w w' :=
  ⟨fun k hk => hk.elim (fun h => (hs k h).imp_left .inl) (fun h => .inl (.inr h)), hg⟩
theorem Step.below {S : Nat → Prop} {mb : Nat} {w w' : World} (h : Below w.heap.size w w') : Step S S mb w w' := ⟨fun k h => .inl h, ⟨h.os, h.tape, h.output, h.size, fun k hk _ => h.block k hk⟩⟩
theorem Step.drewN (S : Nat → Prop) (mb : Nat) (w : World) (n : Nat) : Step S S mb w (w.drewN n) := ⟨fun k h => .inl h, (Grow.refl _ _).drewN n⟩
theorem oth_perm {c : Int} {l m : List (Int × Int)} (h : l.Perm m) : (oth c l).Perm (oth c m) := h.filter _
theorem oth_self {c : Int} {l : List (Int × Int)} (h : ∀ y ∈ l, y.2 ≠ c) : oth c l = l := List.filter_eq_self.2 fun y hy => by simp [h y hy]
theorem oth_cons {c x : Int} {l : List (Int × Int)} : oth c ((x, c) :: l) = oth c l := by unfold oth; simp
theorem no_of {L : List Pr} {c : Int} (h : ∀ q ∈ L, q.c ≠ c) : ∀ y ∈ L.map prP, y.2 ≠ c := by
  intro y hy
  obtain ⟨q, hq, rfl⟩ := List.mem_map.1 hy
  exact h q hq
theorem find_no {c : Int} {l : List (Int × Int)} (h : ∀ y ∈ l, y.2 ≠ c) : findK c l = none := List.find?_eq_none.2 fun y hy => by simp [h y hy]
/-- of one with a client there is one -/
theorem one_split {L M : List Pr} {p : Pr} (hp : (p :: M).Perm L) (ho : (L.map Pr.c).Nodup) : ∀ q ∈ M, q.c ≠ p.c := by
  have h1 := ((hp.map Pr.c).nodup_iff).2 ho
  rw [List.map_cons, List.nodup_cons] at h1
  intro q hq e
  exact h1.1 (by rw [← e]; exact List.mem_map.2 ⟨q, hq, rfl⟩)
theorem oth_split {L M : List Pr} {p : Pr} (hp : (p :: M).Perm L) (ho : (L.map Pr.c).Nodup) : (oth p.c (L.map prP)).Perm (M.map prP) := by
  have h := oth_perm (c := p.c) (hp.map prP)
  rw [List.map_cons, show prP p = (p.n, p.c) from rfl, oth_cons, oth_self (no_of (one_split hp ho))] at h
  exact h.symm
theorem find_at {L : List Pr} {p : Pr} (hp : p ∈ L) (ho : (L.map Pr.c).Nodup) : findK p.c (L.map prP) = some (prP p) := by
  induction L with
  | nil => cases hp
  | cons q L ih =>
    rw [List.map_cons, List.nodup_cons] at ho
    unfold findK
    rw [List.map_cons, List.find?_cons]
    by_cases he : q.c = p.c
    · have : (prP q).2 == p.c := by simp [prP, he]
      rw [this]
      rcases List.mem_cons.1 hp with rfl | hp
      · rfl
      · exact absurd (show q.c ∈ L.map Pr.c from by rw [he]; exact List.mem_map.2 ⟨p, hp, rfl⟩) ho.1
    · have : ((prP q).2 == p.c) = false := by simp [prP, he]
      rw [this]
      rcases List.mem_cons.1 hp with rfl | hp
      · exact absurd rfl he
      · exact ih hp ho.2
theorem has_or {L : List Pr} (c : Int) : (∃ (i : Nat) (p : Pr), L[i]? = some p ∧ p.c = c) ∨ ∀ q ∈ L, q.c ≠ c := by
  by_cases h : ∃ q ∈ L, q.c = c
  · obtain ⟨q, hq, e⟩ := h
    obtain ⟨i, hi⟩ := List.getElem?_of_mem hq
    exact .inl ⟨i, q, hi, e⟩
  · exact .inr fun q hq e => h ⟨q, hq, e⟩
theorem set_perm {L : List Pr} {i : Nat} {p : Pr} (hi : L[i]? = some p) (q : Pr) : ∃ M, (p :: M).Perm L ∧ (q :: M).Perm (L.set i q) := by
  obtain ⟨hlt, rfl⟩ := List.getElem?_eq_some_iff.1 hi
  have h1 : L = L.take i ++ L[i] :: L.drop (i + 1) := by rw [List.getElem_cons_drop, List.take_append_drop]
  refine ⟨L.take i ++ L.drop (i + 1), ?_, ?_⟩
  · conv => rhs; rw [h1]
    exact List.perm_middle.symm
  · rw [List.set_eq_take_append_cons_drop, if_pos hlt]
    exact List.perm_middle.symm
theorem kput {Q : List Pr → Prop} (K : Keeps Q) {w wr : World} {hb mb n : Nat} {L : List Pr} {S : Nat → Prop} (h : One w wr hb mb n L S) (hQ : Q L) (hlen : L.length ≤ 90000) (hn : n ≤ 90000) (c x : Int) :
    Calls Try.prog 13 #[.pointer (some ⟨hb, 0, none⟩), .int .i64 c, .int .i64 x] wr fun e w' => e = .returned (.int .i64 (putE c)) ∧ ∃ n' L' S', One w w' hb mb n' L' S' ∧ Step S S' mb wr w' ∧ Q L' ∧ n' ≤ n + 1 ∧ (L'.map prP).Perm (putK c x (L.map prP)) := by
  by_cases hc : c < 0 ∨ 1000 < c
  · refine (put_arg hb c x hc wr).mono ?_
    rintro e w' ⟨he, rfl⟩
    exact ⟨by rw [he]; unfold putE; rw [if_pos hc], n, L, S, h, Step.refl _ _ _, hQ, Nat.le_succ _, by unfold putK; rw [if_pos hc]⟩
  · have e1 : putE c = 0 := by unfold putE; rw [if_neg hc]
    have e2 : putK c x (L.map prP) = (x, c) :: oth c (L.map prP) := by unfold putK; rw [if_neg hc]
    rw [e1, e2]
    rcases has_or (L := L) c with ⟨i, p, hi, rfl⟩ | hno
    · refine (put_old hb mb n i S L p x wr h.1 (by omega) hi).mono ?_
      rintro e w' ⟨he, S', h', hs, hg⟩
      refine ⟨he, n, _, S', h.next h' hs hg, Step.of hs hg, K.fix L i p x hi hQ, Nat.le_succ _, ?_⟩
      obtain ⟨M, m1, m2⟩ := set_perm hi ⟨p.pb, x, p.c⟩
      refine ((fixL_perm _ _).map prP).trans ((m2.symm.map prP).trans ?_)
      exact (oth_split m1 h.1.one).symm.cons (x, p.c)
    · refine (put_new hb mb n S L c x wr h.1 (by omega) (by omega) (by omega) hno).mono ?_
      rintro e w' ⟨he, pb, S', h', hs, hg⟩
      refine ⟨he, n + 1, _, S', h.next h' hs hg, Step.of hs hg, K.push L _ hQ, Nat.le_refl _, ?_⟩
      rw [oth_self (no_of hno)]
      exact (pushL_perm L ⟨pb, x, c⟩).map prP
theorem ktake {Q : List Pr → Prop} (K : Keeps Q) {w wr : World} {hb mb n : Nat} {L : List Pr} {S : Nat → Prop} (h : One w wr hb mb n L S) (hQ : Q L) (hlen : L.length ≤ 90000) (c : Int) (hc : I64 c) :
    Calls Try.prog 18 #[.pointer (some ⟨hb, 0, none⟩), .int .i64 c] wr fun e w' => e = .returned (.tuple #[.int .i64 ((findK c (L.map prP)).elim 0 Prod.fst), .bool (findK c (L.map prP)).isSome]) ∧ ∃ L' S', One w w' hb mb n L' S' ∧ Step S S' mb wr w' ∧ Q L' ∧ (L'.map prP).Perm (oth c (L.map prP)) := by
  rcases has_or (L := L) c with ⟨i, p, hi, rfl⟩ | hno
  · have hil := (List.getElem?_eq_some_iff.1 hi).1
    obtain ⟨m, hm⟩ : ∃ m, L.length = m + 1 := ⟨L.length - 1, by omega⟩
    obtain ⟨M, hx, hpm, hml⟩ := bring_last hm (by omega) hi
    rw [find_at (List.mem_of_getElem? hi) h.1.one]
    refine (take_some hb mb n m i S L M p wr h.1 (by omega) hm hi hx hpm).mono ?_
    rintro e w' ⟨he, S', h', hs, hg⟩
    exact ⟨he, M, S', h.next h' (fun k hk => .inl (hs k hk)) hg, Step.of (fun k hk => .inl (hs k hk)) hg, K.bring L M i m p hm hi hx hQ, (oth_split hpm h.1.one).symm⟩
  · rw [find_no (no_of hno), oth_self (no_of hno)]
    refine (take_none hb mb n S L c wr h.1 hc hno).mono ?_
    rintro e w' ⟨he, rfl⟩
    exact ⟨he, L, S, h, Step.refl _ _ _, hQ, List.Perm.refl _⟩
theorem One.drewN {w wr : World} {hb mb n : Nat} {L : List Pr} {S : Nat → Prop} (h : One w wr hb mb n L S) (m : Nat) : One w (wr.drewN m) hb mb n L S := by
  obtain ⟨h1, h2, h3⟩ := h
  exact ⟨h1.drewN m, h2, ⟨h3.os, h3.tape, h3.output, h3.size, h3.block⟩⟩
/-- who is ahead: the row's first one -/
def hd (L : List Pr) : Value := match L with | [] => .tuple #[.int .i64 0, .int .i64 0, .bool false] | p :: _ => .tuple #[.int .i64 p.c, .int .i64 p.n, .bool true]
theorem kleast {w wr : World} {hb mb n : Nat} {L : List Pr} {S : Nat → Prop} (h : One w wr hb mb n L S) :
    Calls Try.prog 22 #[.pointer (some ⟨hb, 0, none⟩)] wr fun e w' => e = .returned (hd L) ∧ One w w' hb mb n L S ∧ Step S S mb wr w' := by
  cases L with
  | nil =>
    refine (least_none hb mb S wr h.1.hg).mono ?_
    rintro e w' ⟨he, rfl⟩
    exact ⟨he, h, Step.refl _ _ _⟩
  | cons p L =>
    refine (least_some hb mb S (p :: L) p wr h.1.hg rfl).mono ?_
    rintro e w' ⟨he, m, rfl⟩
    exact ⟨he, h.drewN m, Step.drewN _ _ _ _⟩
theorem kpop {Q : List Pr → Prop} (K : Keeps Q) {w wr : World} {hb mb n : Nat} {L : List Pr} {S : Nat → Prop} (h : One w wr hb mb n L S) (hQ : Q L) (hlen : L.length ≤ 90000) :
    Calls Try.prog 20 #[.pointer (some ⟨hb, 0, none⟩)] wr fun e w' => e = .returned (hd L) ∧ ∃ L' S', One w w' hb mb n L' S' ∧ Step S S' mb wr w' ∧ Q L' ∧ L'.Perm L.tail := by
  cases L with
  | nil =>
    refine (hpop_none hb mb S wr h.1.hg).mono ?_
    rintro e w' ⟨he, rfl⟩
    exact ⟨he, [], S, h, Step.refl _ _ _, hQ, List.Perm.refl _⟩
  | cons p L =>
    obtain ⟨M, hx, hpm, hml⟩ := bring_last (m := L.length) (L := p :: L) (i := 0) (p := p) rfl (Nat.zero_le _) rfl
    refine (hpop_some hb mb n L.length S (p :: L) M p wr h.1 (by omega) rfl rfl hx hpm).mono ?_
    rintro e w' ⟨he, S', h', hs, hg⟩
    exact ⟨he, M, S', h.next h' (fun k hk => .inl (hs k hk)) hg, Step.of (fun k hk => .inl (hs k hk)) hg, K.bring (p :: L) M 0 L.length p rfl rfl hx hQ, hpm.cons_inv⟩
theorem klen {w wr : World} {hb mb n : Nat} {L : List Pr} {S : Nat → Prop} (h : One w wr hb mb n L S) : Calls Try.prog 24 #[.pointer (some ⟨hb, 0, none⟩)] wr fun e w' => e = .returned (.int .i64 (L.length : Int)) ∧ w' = wr :=
  hlen_any hb mb S L wr h.1.hg
theorem One.sz {w wr : World} {hb mb n : Nat} {L : List Pr} {S : Nat → Prop} (h : One w wr hb mb n L S) : Below w.heap.size w wr := h.2.2
theorem ksorted {w wr : World} {hb mb n : Nat} {L : List Pr} {S : Nat → Prop} (h : One w wr hb mb n L S) (hlen : L.length ≤ 90000) :
    Calls Try.prog 15 #[.pointer (some ⟨hb, 0, none⟩)] wr fun e w' => ∃ v, e = .returned v ∧ SlP w' v (sortP (L.map prP)) ∧ (∀ k, v.ownBlock = some k → wr.heap.size ≤ k) ∧ One w w' hb mb n L S ∧ Below wr.heap.size wr w' := by
  refine (sorted_any sort_any hb mb S L wr h.1.hg (by omega)).mono ?_
  rintro e w' ⟨v, he, ho, hb⟩
  exact ⟨v, he, SlP.of_own (B := wr.heap.size) (by rw [sortP_len, List.length_map]; exact ho), fun k hk => (ho.lt k hk).1, h.below hb, hb⟩
/-- a slice that shares nothing with the heap stands -/
theorem SlP.step {w w' : World} {v : Value} {l : List (Int × Int)} {S S' : Nat → Prop} {mb : Nat} (h : SlP w v l) (ho : ∀ k, v.ownBlock = some k → ¬ own S mb k) (hs : Step S S' mb w w') : SlP w' v l := by
  obtain ⟨ao, cap, rfl, hc, hr⟩ := h
  refine ⟨ao, cap, rfl, hc, fun j x hx => ?_⟩
  obtain ⟨b, rfl, h1, h2⟩ := hr j x hx
  have hlt := World.block_lt_of_cell? _ _ h1
  have hk := hs.2.block b hlt (ho b rfl)
  have e : ∀ o, w'.cell? ⟨b, o, none⟩ = w.cell? ⟨b, o, none⟩ := fun o => World.cell?_of_block hk
  exact ⟨b, rfl, (e _).trans h1, (e _).trans h2⟩
theorem Step.apart {S S' : Nat → Prop} {mb k : Nat} {w w' : World} (hs : Step S S' mb w w') (hk : k < w.heap.size) (h : ¬ own S mb k) : ¬ own S' mb k := fun hh => (hs.1 k hh).elim h (fun h2 => by omega)
theorem find_split {w wr : World} {hb mb n : Nat} {L : List Pr} {S : Nat → Prop} (h : One w wr hb mb n L S) {c : Int} {y : Int × Int} (hf : findK c (L.map prP) = some y) : (y :: oth c (L.map prP)).Perm (L.map prP) ∧ y.2 = c ∧ 0 ≤ c ∧ c ≤ 1000 := by
  have h1 : (y.2 == c) = true := List.find?_some (p := fun z : Int × Int => z.2 == c) hf
  have h2 := List.mem_of_find?_eq_some hf
  obtain ⟨p, hp, rfl⟩ := List.mem_map.1 h2
  have hc : p.c = c := by simpa [prP] using h1
  subst hc
  obtain ⟨i, hi⟩ := List.getElem?_of_mem hp
  obtain ⟨M, m1, _⟩ := set_perm hi p
  exact ⟨((oth_split m1 h.1.one).cons (prP p)).trans (m1.map prP), rfl, (h.1.wfc p hp).1, (h.1.wfc p hp).2⟩
theorem find_none {c : Int} {l : List (Int × Int)} (h : findK c l = none) : oth c l = l := oth_self fun y hy e => by
  have := List.find?_eq_none.1 h y hy
  simp [e] at this
theorem oth_len (c : Int) (l : List (Int × Int)) : (oth c l).length ≤ l.length := List.length_filter_le _ _
theorem putK_len (c x : Int) (l : List (Int × Int)) : (putK c x l).length ≤ l.length + 1 := by
  unfold putK; split
  · omega
  · have := oth_len c l; simp; omega
end Go.Proofs.Ytcmmmmpdehfefaa
