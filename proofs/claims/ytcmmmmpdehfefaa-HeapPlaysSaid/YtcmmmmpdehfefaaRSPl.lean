/-
  The document's Sorted (chapter 15).
-/
import Derived.Test.YtcmmmmpdehfefaaRPut
namespace Go.Proofs.Ytcmmmmpdehfefaa
set_option linter.unusedVariables false
set_option linter.unusedSimpArgs false
open Go.RowKit Go.Maps
/-- how many are ahead of x, from the first on -/
def pre (x : Int × Int) (o : List (Int × Int)) : Nat := (o.takeWhile fun y => ltP y x).length
def ins (x : Int × Int) (o : List (Int × Int)) : List (Int × Int) := o.take (pre x o) ++ [x] ++ o.drop (pre x o)
theorem pre_le (x : Int × Int) (o : List (Int × Int)) : pre x o ≤ o.length := by
  unfold pre; exact (List.takeWhile_sublist _).length_le
theorem take_pre (x : Int × Int) : ∀ (o : List (Int × Int)), o.take (pre x o) = o.takeWhile fun y => ltP y x
  | [] => rfl
  | y :: o => by
    unfold pre
    by_cases h : ltP y x = true
    · rw [List.takeWhile_cons, if_pos h, List.length_cons, List.take_succ_cons]
      congr 1
      exact take_pre x o
    · rw [List.takeWhile_cons, if_neg h]; rfl
theorem drop_pre (x : Int × Int) : ∀ (o : List (Int × Int)), o.drop (pre x o) = o.dropWhile fun y => ltP y x
  | [] => rfl
  | y :: o => by
    unfold pre
    by_cases h : ltP y x = true
    · rw [List.takeWhile_cons, List.dropWhile_cons, if_pos h, if_pos h, List.length_cons, List.drop_succ_cons]
      exact drop_pre x o
    · rw [List.takeWhile_cons, List.dropWhile_cons, if_neg h, if_neg h]; rfl
theorem pre_lt {x : Int × Int} {o : List (Int × Int)} {j : Nat} (h : j < pre x o) {a : Int × Int} (ha : o[j]? = some a) : ltP a x = true := by
  have h1 : (o.take (pre x o))[j]? = some a := by rw [List.getElem?_take, if_pos h]; exact ha
  rw [take_pre] at h1
  have h2 := List.all_takeWhile (p := fun y => ltP y x) (l := o)
  exact List.all_eq_true.1 h2 a (List.mem_of_getElem? h1)
theorem pre_stop {x : Int × Int} {o : List (Int × Int)} {a : Int × Int} (ha : o[pre x o]? = some a) : ltP a x = false := by
  have h1 : (o.drop (pre x o))[0]? = some a := by rw [List.getElem?_drop]; exact ha
  rw [drop_pre] at h1
  have hne : (o.dropWhile fun y => ltP y x) ≠ [] := by intro e; rw [e] at h1; simp at h1
  have h2 := List.head_dropWhile_not (fun y => ltP y x) hne
  rw [List.head_eq_getElem] at h2
  obtain ⟨h3, h4⟩ := List.getElem?_eq_some_iff.1 h1
  rw [h4] at h2
  simpa using h2
theorem ins_perm (x : Int × Int) (o : List (Int × Int)) : (ins x o).Perm (x :: o) := by
  unfold ins
  rw [List.append_assoc, List.singleton_append]
  conv => rhs; rw [← List.take_append_drop (pre x o) o]
  exact List.perm_middle
theorem ltP_trans {a b c : Int × Int} (h : ltP a b = false) (k : ltP b c = false) : ltP a c = false := by rw [ltP_no] at *; omega
theorem ins_sorted {x : Int × Int} {o : List (Int × Int)} (h : o.Pairwise fun a b => (!ltP b a) = true) : (ins x o).Pairwise fun a b => (!ltP b a) = true := by
  have hall : ∀ a ∈ o.take (pre x o), ltP a x = true := fun a ha => by
    obtain ⟨j, hj⟩ := List.getElem?_of_mem ha
    rw [List.getElem?_take] at hj
    split at hj
    · rename_i hlt; exact pre_lt hlt hj
    · cases hj
  have hd : ∀ b ∈ o.drop (pre x o), ltP b x = false := fun b hb => by
    obtain ⟨j, hj⟩ := List.getElem?_of_mem hb
    rw [List.getElem?_drop] at hj
    have hlen := (List.getElem?_eq_some_iff.1 hj).1
    obtain ⟨a, ha⟩ : ∃ a, o[pre x o]? = some a := ⟨o[pre x o]'(by omega), List.getElem?_eq_getElem _⟩
    have hs := pre_stop ha
    rcases Nat.eq_zero_or_pos j with h0 | h0
    · subst h0; rw [Nat.add_zero, ha] at hj; cases hj; exact hs
    · have h1 := List.pairwise_iff_getElem.1 h (pre x o) (pre x o + j) (by omega) hlen (by omega)
      have e1 : o[pre x o] = a := (List.getElem?_eq_some_iff.1 ha).2
      have e2 : o[pre x o + j] = b := (List.getElem?_eq_some_iff.1 hj).2
      rw [e1, e2] at h1
      exact ltP_trans (by simpa using h1) hs
  unfold ins
  rw [List.append_assoc, List.singleton_append, List.pairwise_append]
  refine ⟨h.sublist (List.take_sublist _ _), List.pairwise_cons.2 ⟨fun b hb => by rw [hd b hb]; rfl, h.sublist (List.drop_sublist _ _)⟩, fun a ha b hb => ?_⟩
  have h1 := hall a ha
  rcases List.mem_cons.1 hb with rfl | hb
  · rw [Bool.not_eq_true', ltP_no]; rw [ltP_iff] at h1; omega
  · have h2 := hd b hb
    rw [Bool.not_eq_true', ltP_no]; rw [ltP_iff] at h1; rw [ltP_no] at h2; omega
/-- what is out behind j rounds -/
def outL (l : List (Int × Int)) (j : Nat) : List (Int × Int) := (l.take j).foldl (fun o x => ins x o) []
theorem outL_succ {l : List (Int × Int)} {j : Nat} {x : Int × Int} (h : l[j]? = some x) : outL l (j + 1) = ins x (outL l j) := by
  unfold outL
  rw [List.take_add_one, h, List.foldl_append]; rfl
theorem outL_ok (l : List (Int × Int)) : ∀ j, j ≤ l.length → (outL l j).Perm (l.take j) ∧ (outL l j).Pairwise fun a b => (!ltP b a) = true
  | 0, _ => ⟨List.Perm.refl _, List.Pairwise.nil⟩
  | j + 1, h => by
    obtain ⟨h1, h2⟩ := outL_ok l j (by omega)
    obtain ⟨x, hx⟩ : ∃ x, l[j]? = some x := ⟨l[j]'(by omega), List.getElem?_eq_getElem _⟩
    rw [outL_succ hx]
    refine ⟨(ins_perm x _).trans ((h1.cons x).trans ?_), ins_sorted h2⟩
    rw [List.take_add_one, hx]
    exact List.perm_append_comm (l₁ := [x])
theorem outL_len (l : List (Int × Int)) (j : Nat) (h : j ≤ l.length) : (outL l j).length = j := by
  rw [(outL_ok l j h).1.length_eq, List.length_take]; omega
theorem outL_end (l : List (Int × Int)) : outL l l.length = sortP l := by
  obtain ⟨h1, h2⟩ := outL_ok l l.length (Nat.le_refl _)
  rw [List.take_length] at h1
  exact sorted_eq (h1.trans (sortP_perm l).symm) h2 (sortP_sorted l)
/-- append what a slice reads as, a nil one too -/
theorem wpList_append_both {P : Program} {w : World} {ops : Array Oper} {rest : List Oper} {o : Oper} {a : Act} {Q : Exit → Act → World → Prop} (hgd : o.guard = none) (s x : Operand) (t : TypeId)
    (ho : o.op = .call { callee := .builtin .append, args := #[s, x], argTypes := #[t, t] })
    (base : Nat) (e : TypeId) (i : TypeInfo) (z : Value) (size bytes : Nat) (ht : P.underlying t = some (.slice e)) (hi : P.info? e = some i) (hz : i.zero = some z)
    (hsize : i.size = size) (hby : i.bytes = bytes) (hzs : z.cells.size = size) (hsz : 0 < size)
    (v : Value) (n : Nat) (xs : List Value) (hs : a.eval s = v) (hown : w.ownsRow base e size v n xs)
    (ao : Option Addr) (m c : Nat) (news : List Value) (hx : a.eval x = .slice ao m c) (hl : news.length = m * size)
    (hsrc : (ao = none ∧ m = 0 ∧ c = 0) ∨ ∃ ad, ao = some ad ∧ ∀ j u, news[j]? = some u → w.cell? (ad.add j) = some u) (h1 : ∀ u ∈ news, u.oneCell' = true)
    (h63 : n + m ≤ maxLen) (hbytes : (n + m) * bytes ≤ 140737488355328) (hbase : base ≤ w.heap.size)
    (h : ∀ v' w', w'.ownsRow base e size v' (n + m) (xs ++ news) → w.grownBy w' v.ownBlock → wpList P ops Q rest (a.put o.dst v') w') : wpList P ops Q (o :: rest) a w := by
  rcases hsrc with ⟨rfl, rfl, rfl⟩ | ⟨ad, rfl, hc⟩
  · obtain rfl : news = [] := List.eq_nil_of_length_eq_zero (by rw [hl, Nat.zero_mul])
    refine wpList_append_own_none hgd s x t ho base e i size ht hi v n xs hs hown hx ?_
    exact h v w (by simpa using hown) (World.grownBy.refl w _)
  · exact wpList_append_own w hgd s x t ho base e i z size bytes ht hi hz hsize hby hzs hsz v n xs hs hown ad m c news hx hl hc h1 h63 hbytes hbase fun v' w' h2 h3 _ => h v' w' h2 h3
theorem ownsRow_mono {w : World} {B B' : Nat} {e : TypeId} {size : Nat} {v : Value} {n : Nat} {xs : List Value} (h : w.ownsRow B e size v n xs) (hb : B' ≤ B) : w.ownsRow B' e size v n xs := by
  rcases h with ⟨h1, h2 | ⟨g, cap, cur, h2, h3, h4⟩⟩
  · exact ⟨h1, .inl h2⟩
  · exact ⟨h1, .inr ⟨g, cap, cur, h2, by omega, h4⟩⟩
theorem SRel.below {w wr w' : World} {v : Value} {l : List (Int × Int)} (h : SRel w wr v l) (hb : Below wr.heap.size wr w') : SRel w w' v l := by
  refine ⟨h.1.trans (hb.mono h.1.size), h.2.1, ?_⟩
  rcases h.2.2 with h2 | ⟨g, cap, cur, rfl, hbg, hg, r⟩
  · exact .inl h2
  · have hlt := (Array.getElem?_eq_some_iff.1 hg).1
    exact .inr ⟨g, cap, cur, rfl, hbg, by rw [hb.block g hlt]; exact hg, r⟩
theorem drop_src {w : World} {B g cap : Nat} {l : List (Int × Int)} (h : w.ownsRow B 47 2 (.slice (some ⟨g, 0, none⟩) l.length cap) l.length (encL l)) (N : Nat) (hN : N ≤ l.length) :
    ∃ ad : Addr, (if cap = N then some (⟨g, 0, none⟩ : Addr) else some ⟨g, N * 2, none⟩) = some ad ∧ ∀ (j : Nat) (u : Value), (encL (l.drop N))[j]? = some u → w.cell? (ad.add j) = some u := by
  have hr := h.cells (g := g) rfl
  have e : encL (l.drop N) = (encL l).drop (N * 2) := by
    conv => rhs; rw [← List.take_append_drop N l]
    rw [encL_append, List.drop_left' (by rw [encL_len, List.length_take]; omega)]
  by_cases hck : cap = N
  · refine ⟨⟨g, 0, none⟩, by rw [if_pos hck], fun j u hu => ?_⟩
    have hcl : l.length ≤ cap := by
      rcases h.2 with ⟨e, _⟩ | ⟨g', cap', cur, e, _, _, h2, _⟩
      · cases e
      · injection e with _ _ e3; omega
    rw [List.drop_of_length_le (by omega)] at hu
    simp [encL] at hu
  · refine ⟨⟨g, N * 2, none⟩, by rw [if_neg hck], fun j u hu => ?_⟩
    rw [e, List.getElem?_drop] at hu
    have := hr (N * 2 + j) u hu
    rw [Addr.add_lit] at this ⊢
    rw [← this]; congr 2; omega
theorem drop_src2 {w : World} {B g cap : Nat} {l : List (Int × Int)} (h : w.ownsRow B 47 2 (.slice (some ⟨g, 0, none⟩) l.length cap) l.length (encL l)) (N : Nat) :
    ∀ (j : Nat) (u : Value), (encL (l.drop N))[j]? = some u → w.cell? ((⟨g, N * 2, none⟩ : Addr).add j) = some u := by
  intro j u hu
  by_cases hN : N ≤ l.length
  · have e : encL (l.drop N) = (encL l).drop (N * 2) := by
      conv => rhs; rw [← List.take_append_drop N l]
      rw [encL_append, List.drop_left' (by rw [encL_len, List.length_take]; omega)]
    rw [e, List.getElem?_drop] at hu
    have := h.cells (g := g) rfl (N * 2 + j) u hu
    rw [Addr.add_lit] at this ⊢
    rw [← this]; congr 2; omega
  · rw [List.drop_of_length_le (by omega)] at hu
    simp [encL] at hu
theorem take_src {w : World} {B g cap : Nat} {l : List (Int × Int)} (h : w.ownsRow B 47 2 (.slice (some ⟨g, 0, none⟩) l.length cap) l.length (encL l)) (N : Nat) :
    ∀ (j : Nat) (u : Value), (encL (l.take N))[j]? = some u → w.cell? ((⟨g, 0, none⟩ : Addr).add j) = some u := by
  intro j u hu
  have e : encL l = encL (l.take N) ++ encL (l.drop N) := by rw [← encL_append, List.take_append_drop]
  refine h.cells (g := g) rfl j u ?_
  rw [e, List.getElem?_append_left (List.getElem?_eq_some_iff.1 hu).1]; exact hu

end Go.Proofs.Ytcmmmmpdehfefaa
