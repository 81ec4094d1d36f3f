/-
  What a walk over byte slices is told, over any program: 'Sl w v l' (the slice value v reads as the bytes l), 'Own B w v l' (v is a row of the call's own, of blocks from B on), the laws of append, copy, make, string(b) in these words.
-/
import Derived.WalkKit
import Derived.WalkLawsBesides
import Derived.WalkSpells
import Derived.Lib.Hide
import Derived.Laws.BytesArg
import Derived.Laws.CopyOwn
import Derived.Laws.AppendOwnNone
import Derived.ArgAppend
namespace Go.Proofs.Ytgpdknacnmapiaa
set_option linter.unusedVariables false
set_option linter.unusedSimpArgs false
open Go.RowKit

/-- the numbers are bytes -/
def IsBytes (l : List Nat) : Prop := ∀ x ∈ l, x < 256
theorem IsBytes.nil : IsBytes [] := by intro x hx; cases hx
theorem IsBytes.append {a b : List Nat} (ha : IsBytes a) (hb : IsBytes b) : IsBytes (a ++ b) := by
  intro x hx; rcases List.mem_append.1 hx with h | h
  · exact ha x h
  · exact hb x h
theorem IsBytes.one {x : Nat} (h : x < 256) : IsBytes [x] := by intro y hy; simp at hy; omega
theorem IsBytes.take {a : List Nat} (ha : IsBytes a) (k : Nat) : IsBytes (a.take k) := fun x hx => ha x (List.mem_of_mem_take hx)
theorem IsBytes.drop {a : List Nat} (ha : IsBytes a) (k : Nat) : IsBytes (a.drop k) := fun x hx => ha x (List.mem_of_mem_drop hx)
theorem IsBytes.getD {a : List Nat} (ha : IsBytes a) (k : Nat) : a.getD k 0 < 256 := by
  by_cases h : k < a.length
  · rw [List.getD, List.getElem?_eq_getElem h]; exact ha _ (List.getElem_mem h)
  · rw [List.getD, List.getElem?_eq_none (by omega)]; simp

/-- a byte's cell -/
def bv (n : Nat) : Value := .int .u8 (n : Int)

/-- the slice value v reads as the bytes l -/
def Sl (w : World) (v : Value) (l : List Nat) : Prop :=
  IsBytes l ∧ ∃ ao cap, v = .slice ao l.length cap ∧ l.length ≤ cap ∧ cap ≤ maxLen ∧ (ao = none → cap = 0) ∧
    (l.length = 0 ∨ ∃ b off, ao = some ⟨b, off, none⟩ ∧ ∀ i, i < l.length → w.cell? ⟨b, off + i, none⟩ = some (.int .u8 ((l.getD i 0 : Nat) : Int)))

theorem Sl.bytes {w : World} {v : Value} {l : List Nat} (h : Sl w v l) : IsBytes l := h.1
theorem Sl.len {w : World} {v : Value} {l : List Nat} (h : Sl w v l) : l.length ≤ maxLen := by
  obtain ⟨_, ao, cap, _, h1, h2, _⟩ := h; omega
theorem Sl.nil (w : World) : Sl w (.slice none 0 0) [] := ⟨IsBytes.nil, none, 0, rfl, Nat.le_refl _, Nat.zero_le _, fun _ => rfl, .inl rfl⟩
/-- an argument's reading, as the frame of a law opens it -/
theorem Sl.of_ints {w : World} {x : Addr} {len cap : Nat} {zs : List Int} (hl : len ≤ cap) (hm : cap ≤ maxLen) (hz : zs.length = cap) (hcell : ∀ i, i < zs.length → w.cell? (x.add i) = some (.int .u8 (zs.getD i 0))) (hwz : ∀ n ∈ zs, (Lit.int .u8 n).wf = true) :
    ∃ l, Sl w (.slice (some x) len cap) l := by
  have hzb : ∀ n ∈ zs, 0 ≤ n ∧ n < 256 := by
    intro n hn
    have := hwz n hn
    simp [Lit.wf, IntKind.min, IntKind.max, IntKind.bits, IntKind.signed] at this
    omega
  have hlen : ((zs.take len).map Int.toNat).length = len := by rw [List.length_map, List.length_take]; omega
  refine ⟨(zs.take len).map Int.toNat, ?_, some x, cap, by rw [hlen], by rw [hlen]; exact hl, hm, fun e => (by cases e), ?_⟩
  · intro y hy
    obtain ⟨n, hn, rfl⟩ := List.mem_map.1 hy
    have := hzb n (List.mem_of_mem_take hn)
    omega
  · rw [hlen]
    by_cases h0 : len = 0
    · exact .inl h0
    · obtain ⟨b, off, spot⟩ := x
      have h00 := hcell 0 (by omega)
      have hspot : spot = none := by simpa [Addr.add] using World.cell?_spot h00
      subst hspot
      refine .inr ⟨b, off, rfl, fun i hi => ?_⟩
      have hi' : i < zs.length := by omega
      have := hcell i hi'
      rw [Addr.add_lit] at this
      rw [this]
      have hb := hzb (zs[i]) (List.getElem_mem hi')
      simp [List.getD, List.getElem?_eq_getElem hi', hi]
      omega
/-- what is read stays read behind whatever leaves old blocks alone -/
theorem Sl.below {B : Nat} {w w' : World} {v : Value} {l : List Nat} (h : Sl w v l) (hb : Below B w w') (hB : w.heap.size ≤ B) : Sl w' v l := by
  obtain ⟨h0, ao, cap, h1, h2, h3, h4, h5⟩ := h
  refine ⟨h0, ao, cap, h1, h2, h3, h4, ?_⟩
  rcases h5 with h5 | ⟨b, off, e, hc⟩
  · exact .inl h5
  · refine .inr ⟨b, off, e, fun i hi => ?_⟩
    have hlt := World.block_lt_of_cell? w _ (hc i hi)
    rw [hb.cell (p := ⟨b, off + i, none⟩) (by exact Nat.lt_of_lt_of_le hlt hB)]
    exact hc i hi

theorem Sl.alloc {w : World} {v : Value} {l : List Nat} (h : Sl w v l) (o : Obj) : Sl (w.alloc o) v l := h.below ((Below.refl w.heap.size w).alloc (Nat.le_refl _) o) (Nat.le_refl _)
theorem Sl.drew {w : World} {v : Value} {l : List Nat} (h : Sl w v l) : Sl w.drew v l := h
/-- 'b[:len(b):len(b)]' -/
theorem Sl.full {w : World} {ao : Option Addr} {cap : Nat} {l : List Nat} (h : Sl w (.slice ao l.length cap) l) : Sl w (.slice ao l.length l.length) l := by
  obtain ⟨h0, a, c, he, h1, h2, h3, h4⟩ := h
  cases he
  exact ⟨h0, ao, l.length, rfl, Nat.le_refl _, by omega, fun e => by have := h3 e; omega, h4⟩

/-- v is a row of the call's own (blocks from B on) that holds the bytes l -/
def Own (T B : Nat) (w : World) (v : Value) (l : List Nat) : Prop := IsBytes l ∧ w.ownsRow B T 1 v l.length (l.map bv)

theorem Own.sl {T B : Nat} {w : World} {v : Value} {l : List Nat} (h : Own T B w v l) : Sl w v l := by
  obtain ⟨h0, h1, h2⟩ := h
  refine ⟨h0, ?_⟩
  rcases h2 with ⟨rfl, hn⟩ | ⟨g, cap, cur, rfl, hb, hg, hn, hm, hs, ht⟩
  · have : l = [] := List.eq_nil_of_length_eq_zero hn
    subst this
    exact ⟨none, 0, rfl, Nat.le_refl _, Nat.zero_le _, fun _ => rfl, .inl rfl⟩
  · refine ⟨some ⟨g, 0, none⟩, cap, rfl, hn, hm, fun e => (by cases e), .inr ⟨g, 0, rfl, fun i hi => ?_⟩⟩
    rw [cell_of_row w g (0 + i) cur T (0, 0) hg]
    have h3 : (l.map bv)[i]? = some (bv (l.getD i 0)) := by simp [List.getD, List.getElem?_eq_getElem hi]
    rw [← ht, List.getElem?_take] at h3
    split at h3
    · simpa [bv] using h3
    · cases h3
theorem Own.alloc {T B : Nat} {w : World} {v : Value} {l : List Nat} (h : Own T B w v l) (o : Obj) : Own T B (w.alloc o) v l := ⟨h.1, h.2.alloc o⟩
theorem Own.drew {T B : Nat} {w : World} {v : Value} {l : List Nat} (h : Own T B w v l) : Own T B w.drew v l := ⟨h.1, h.2⟩
theorem Own.mono {T B B' : Nat} {w : World} {v : Value} {l : List Nat} (h : Own T B w v l) (hB : B' ≤ B) : Own T B' w v l := by
  obtain ⟨h0, h1, h2⟩ := h
  refine ⟨h0, h1, ?_⟩
  rcases h2 with h2 | ⟨g, cap, cur, rfl, hb, r⟩
  · exact .inl h2
  · exact .inr ⟨g, cap, cur, rfl, by omega, r⟩
theorem Own.nil (T B : Nat) (w : World) : Own T B w (.slice none 0 0) [] := ⟨IsBytes.nil, World.ownsRow_nil _ _ _ _⟩
/-- a row of blocks below B0 stays behind what leaves these alone -/
theorem Own.below {T B B0 : Nat} {w w' : World} {v : Value} {l : List Nat} (h : Own T B w v l) (hb : Below B0 w w') (hB : w.heap.size ≤ B0) : Own T B w' v l := by
  obtain ⟨h0, h1, h2⟩ := h
  refine ⟨h0, h1, ?_⟩
  rcases h2 with h2 | ⟨g, cap, cur, rfl, hbg, hg, r⟩
  · exact .inl h2
  · have hlt := (Array.getElem?_eq_some_iff.1 hg).1
    exact .inr ⟨g, cap, cur, rfl, hbg, by rw [hb.block g (by omega)]; exact hg, r⟩

/-- the closed facts on []byte's type number T and byte's E -/
structure ByteT (P : Program) (T E : TypeId) : Prop where
  t : P.underlying T = some (.slice E)
  e : P.underlying E = some (.int .u8)
  i : (P.info? E).map (fun i => (i.zero, i.size, i.bytes)) = some (some (.int .u8 0), 1, 1)

section
variable {P : Program} {T E : TypeId}

theorem cell_one {w : World} {ad : Addr} {u : Value} (hc : w.cell? ad = some u) : ∀ j x, [u][j]? = some x → w.cell? (ad.add j) = some x := by
  intro j x hj
  match j, hj with
  | 0, hj =>
    simp at hj; subst hj
    have : ad.add 0 = ad := by unfold Addr.add; split <;> simp_all
    rw [this]; exact hc

theorem new_cell (w : World) (u : Value) (e : TypeId) : (w.alloc (.cells #[u] e)).cell? ⟨w.heap.size, 0, none⟩ = some u := by simp
/-- 'out = append(out, x)', out nil or the call's own -/
theorem wp_push_own (BT : ByteT P T E) {w : World} {ops : Array Oper} {rest : List Oper} {o : Oper} {a : Act} {Q : Exit → Act → World → Prop} (hgd : o.guard = none) (s x : Operand)
    (ho : o.op = .call { callee := .builtin .append, args := #[s, x], argTypes := #[T, T] })
    (B : Nat) (v : Value) (l : List Nat) (hs : a.eval s = v) (hown : Own E B w v l) (ad : Addr) (c : Nat) (hx : a.eval x = .slice (some ad) 1 c) (y : Int) (y' : Nat) (hc : w.cell? ad = some (.int .u8 y)) (hy : y = (y' : Int)) (hy' : y' < 256)
    (hlen : l.length < 70368744177664) (hB : B ≤ w.heap.size)
    (h : ∀ v' w', Own E B w' v' (l ++ [y']) → w.grownBy w' v.ownBlock → wpList P ops Q rest (a.put o.dst v') w') : wpList P ops Q (o :: rest) a w := by
  subst hy
  obtain ⟨i0, hi, hz0, hz1, hz2⟩ := info_parts BT.i
  refine wpList_append_own _ hgd s x T ho B E i0 (.int .u8 0) 1 1 BT.t hi hz0 hz1 hz2 rfl (by decide) v l.length (l.map bv) hs hown.2 ad 1 c [bv y'] hx rfl (cell_one hc) ?_ ?_ ?_ hB ?_
  · intro u hu; simp at hu; subst hu; rfl
  · unfold maxLen; omega
  · omega
  · intro v' w' h1 h2 _
    exact h v' w' ⟨hown.1.append (IsBytes.one hy'), by simpa using h1⟩ h2

/-- 'append(b, x)', b full: it moves into a new row -/
theorem wp_push_grow (BT : ByteT P T E) {w : World} {ops : Array Oper} {rest : List Oper} {o : Oper} {a : Act} {Q : Exit → Act → World → Prop} (hgd : o.guard = none) (s x : Operand)
    (ho : o.op = .call { callee := .builtin .append, args := #[s, x], argTypes := #[T, T] })
    (ao : Option Addr) (l : List Nat) (hs : a.eval s = .slice ao l.length l.length) (hsl : Sl w (.slice ao l.length l.length) l) (ad : Addr) (c : Nat) (hx : a.eval x = .slice (some ad) 1 c) (y : Int) (y' : Nat) (hc : w.cell? ad = some (.int .u8 y)) (hy : y = (y' : Int)) (hy' : y' < 256)
    (hlen : l.length < 70368744177664)
    (h : ∀ v' w', Own E w.heap.size w' v' (l ++ [y']) → w.grownBy w' none → wpList P ops Q rest (a.put o.dst v') w') : wpList P ops Q (o :: rest) a w := by
  subst hy
  obtain ⟨i0, hi, hz0, hz1, hz2⟩ := info_parts BT.i
  obtain ⟨h0, ao', cap, he, h1, h2, h3, h4⟩ := hsl
  cases he
  refine wpList_append_grows _ hgd s x T ho E i0 (.int .u8 0) 1 1 BT.t hi hz0 hz1 hz2 rfl (by decide) ao l.length l.length (l.map bv) hs (fun e => ⟨h3 e, h3 e⟩) (by simp) ?_ ad 1 c [bv y'] hx rfl (cell_one hc) ?_ (by omega) ?_ ?_ ?_
  · intro b hb j u hj
    rcases h4 with h4 | ⟨g, off, e, hcell⟩
    · have : l = [] := List.eq_nil_of_length_eq_zero h4
      subst this; simp at hj
    · rw [e] at hb; cases hb
      have hjl : j < l.length := by
        rcases Nat.lt_or_ge j l.length with h | h
        · exact h
        · simp [List.getElem?_eq_none (show (l.map bv).length ≤ j by simpa using h)] at hj
      rw [Addr.add_lit, hcell j hjl]
      simp [List.getElem?_eq_getElem hjl] at hj
      subst hj
      simp [bv, List.getD, List.getElem?_eq_getElem hjl]
  · intro u hu; simp at hu; subst hu; rfl
  · unfold maxLen; omega
  · omega
  · intro v' w' h1 h2
    exact h v' w' ⟨h0.append (IsBytes.one hy'), by simpa using h1⟩ h2

/-- 'out = append(out, b...)', out nil or the call's own -/
theorem wp_cat_own (BT : ByteT P T E) {w : World} {ops : Array Oper} {rest : List Oper} {o : Oper} {a : Act} {Q : Exit → Act → World → Prop} (hgd : o.guard = none) (s x : Operand)
    (ho : o.op = .call { callee := .builtin .append, args := #[s, x], argTypes := #[T, T] })
    (B : Nat) (v : Value) (l : List Nat) (hs : a.eval s = v) (hown : Own E B w v l) (u : Value) (r : List Nat) (hx : a.eval x = u) (hsl : Sl w u r)
    (hlen : l.length + r.length ≤ 70368744177664) (hB : B ≤ w.heap.size)
    (h : ∀ v' w', Own E B w' v' (l ++ r) → w.grownBy w' v.ownBlock → wpList P ops Q rest (a.put o.dst v') w') : wpList P ops Q (o :: rest) a w := by
  obtain ⟨i0, hi, hz0, hz1, hz2⟩ := info_parts BT.i
  obtain ⟨h0, ao, cap, rfl, h1, h2, h3, h4⟩ := hsl
  cases ao with
  | none =>
    have hc : cap = 0 := h3 rfl
    subst hc
    have hr0 : r.length = 0 := by omega
    have hr : r = [] := List.eq_nil_of_length_eq_zero hr0
    subst hr
    refine wpList_append_own_none hgd s x T ho B E i0 1 BT.t hi v l.length (l.map bv) hs hown.2 hx ?_
    exact h v w (by simpa using hown) (World.grownBy.refl w _)
  | some ad =>
    have hcells : ∀ j q, (r.map bv)[j]? = some q → w.cell? (ad.add j) = some q := by
      intro j q hj
      have hjl : j < r.length := by
        rcases Nat.lt_or_ge j r.length with h | h
        · exact h
        · simp [List.getElem?_eq_none (show (r.map bv).length ≤ j by simpa using h)] at hj
      rcases h4 with h4 | ⟨g, off, e, hcell⟩
      · omega
      · cases e
        rw [Addr.add_lit, hcell j hjl]
        simp [List.getElem?_eq_getElem hjl] at hj
        subst hj
        simp [bv, List.getD, List.getElem?_eq_getElem hjl]
    refine wpList_append_own _ hgd s x T ho B E i0 (.int .u8 0) 1 1 BT.t hi hz0 hz1 hz2 rfl (by decide) v l.length (l.map bv) hs hown.2 ad r.length cap (r.map bv) hx (by simp) hcells ?_ ?_ ?_ hB ?_
    · intro q hq
      obtain ⟨n, _, rfl⟩ := List.mem_map.1 hq
      rfl
    · unfold maxLen; omega
    · omega
    · intro v' w' h5 h6 _
      exact h v' w' ⟨hown.1.append h0, by simpa using h5⟩ h6

/-- 'make([]byte, n, c)' -/
theorem wp_make (BT : ByteT P T E) {w : World} {ops : Array Oper} {rest : List Oper} {o : Oper} {a : Act} {Q : Exit → Act → World → Prop} (hg : o.guard = none) (l c : Operand) (hop : o.op = Op.makeSlice T l c)
    (B : Nat) (n m : Nat) (N M : Int) (hl : a.eval l = .int .i64 N) (hc : a.eval c = .int .i64 M) (hN : N = (n : Int)) (hM : M = (m : Int)) (hnm : n ≤ m) (hm : m ≤ 70368744177664) (hB : B ≤ w.heap.size)
    (hK : ∀ w', Own E B w' (.slice (some ⟨w.heap.size, 0, none⟩) n m) (List.replicate n 0) → w.grownBy w' none → wpList P ops Q rest (a.put o.dst (.slice (some ⟨w.heap.size, 0, none⟩) n m)) w') :
    wpList P ops Q (o :: rest) a w := by
  subst hN
  subst hM
  obtain ⟨i0, hi, hz0, hz1, hz2⟩ := info_parts BT.i
  refine wpList_plain hg fun K hK' => ?_
  have hrun := run_make (P := P) w T E i0 (.int .u8 0) BT.t hi hz0 .i64 .i64 (n : Int) (m : Int) (by omega) (by omega) (by rw [hz2]; omega) (by omega)
  unfold Oper.wp
  simp [execOp, hop, hl, hc, hrun, Result.andThen]
  refine hK' _ _ (hK _ ⟨?_, ?_, ?_⟩ ?_)
  · intro x hx; have := List.eq_of_mem_replicate hx; omega
  · simp
  · refine .inr ⟨w.heap.size, m, _, by simp, hB, heap_alloc_new w _, by simpa using hnm, by unfold maxLen; omega, ?_, ?_⟩
    · rw [size_madeCells, hz1]
    · rw [hz1]
      apply List.ext_getElem?
      intro i
      by_cases hi' : i < n
      · simp [madeCells, Value.cells, hi', bv]
        exact ⟨i, List.getElem?_range (by omega), by rw [Nat.mod_one]; rfl⟩
      · simp [hi']
        omega
  · exact World.grownBy_alloc w _ none

/-- 'copy(out, b)', out a row of the call's own -/
theorem wp_copy_own (BT : ByteT P T E) {w : World} {ops : Array Oper} {rest : List Oper} {o : Oper} {a : Act} {Q : Exit → Act → World → Prop} (hgd : o.guard = none) (d s : Operand)
    (ho : o.op = .call { callee := .builtin .copy, args := #[d, s], argTypes := #[T, T] })
    (B g cap : Nat) (l : List Nat) (hd : a.eval d = .slice (some ⟨g, 0, none⟩) l.length cap) (hown : Own E B w (.slice (some ⟨g, 0, none⟩) l.length cap) l) (u : Value) (r : List Nat) (hx : a.eval s = u) (hsl : Sl w u r)
    (h : ∀ w', Own E B w' (.slice (some ⟨g, 0, none⟩) l.length cap) (r.take (Nat.min r.length l.length) ++ l.drop (Nat.min r.length l.length)) → w.grownBy w' (some g) → wpList P ops Q rest (a.put o.dst (goInt (Nat.min r.length l.length))) w') : wpList P ops Q (o :: rest) a w := by
  obtain ⟨i0, hi, hz0, hz1, hz2⟩ := info_parts BT.i
  have hsz : (P.info? E).map (·.size) = some 1 := by rw [hi]; simp [hz1]
  obtain ⟨h0, ao, cap', rfl, h1, h2, h3, h4⟩ := hsl
  obtain ⟨hb, hol, hor⟩ := hown
  rcases hor with ⟨he, _⟩ | ⟨g', c', cur, he, hBg, hg, hnc, hcm, hcs, ht⟩
  · cases he
  cases he
  by_cases hmin : Nat.min r.length l.length = 0
  · refine wpList_copy_nothing hgd d s T T ho E BT.t hsz _ _ _ _ _ _ hd hx hmin ?_
    have hK := h w ⟨?_, ?_, ?_⟩ (World.grownBy.refl w _)
    · rw [hmin] at hK; exact hK
    · rw [hmin]; simpa using hb
    · simp
    · rw [hmin]
      refine .inr ⟨g, cap, cur, ?_, hBg, hg, ?_, hcm, hcs, ?_⟩
      · simp
      · simpa using hnc
      · simpa using ht
  · have hmr : Nat.min r.length l.length ≤ r.length := Nat.min_le_left _ _
    have hmn : Nat.min r.length l.length ≤ l.length := Nat.min_le_right _ _
    obtain ⟨b, off, rfl, hcell⟩ := h4.resolve_left (by omega)
    have hcl : ((r.take (Nat.min r.length l.length)).map bv).length = Nat.min r.length l.length := by simp only [List.length_map, List.length_take]; omega
    obtain ⟨M, hM⟩ : ∃ M, M = Nat.min r.length l.length := ⟨_, rfl⟩
    rw [← hM] at hmin hmr hmn hcl h
    refine wpList_copy_own hgd d s T T ho E BT.t hsz g 0 l.length cap ⟨b, off, none⟩ r.length cap' hd hx cur E hg ((r.take M).map bv) (by rw [hcl, hM]) ?_ ?_ ?_ ?_
    · intro j v hj
      have hjl : j < M := by
        rcases Nat.lt_or_ge j M with hh | hh
        · exact hh
        · rw [List.getElem?_eq_none (show ((r.take M).map bv).length ≤ j by rw [hcl]; exact hh)] at hj; cases hj
      rw [Addr.add_lit, hcell j (by omega)]
      have hjr : j < r.length := by omega
      simp [hjl, List.getElem?_eq_getElem hjr] at hj
      subst hj
      simp [bv, List.getD, List.getElem?_eq_getElem hjr]
    · rw [hcl]; omega
    · intro q hq
      obtain ⟨x, _, rfl⟩ := List.mem_map.1 hq
      rfl
    · rw [hcl]
      have hfit : (cur.toList.take 0 ++ ((r.take M).map bv ++ cur.toList.drop (0 + M))).toArray.size = cur.size := by
        simp [List.length_take]; omega
      refine h _ ⟨(h0.take M).append (hb.drop M), ?_, ?_⟩ ?_
      · simp
      · refine .inr ⟨g, cap, _, ?_, hBg, setRow_heap w g cur _ E _ hg, ?_, hcm, ?_, ?_⟩
        · simp [List.length_take]; omega
        · simp [List.length_take]; omega
        · rw [hfit]; exact hcs
        · have hlen2 : (r.take M ++ l.drop M).length * 1 = l.length := by simp [List.length_take]; omega
          rw [hlen2]
          simp only [List.take_zero, List.nil_append, Nat.zero_add, List.map_append]
          rw [List.take_append, hcl, List.take_of_length_le (by rw [hcl]; exact hmn), List.take_drop]
          congr 1
          rw [show M + (l.length - M) = l.length by omega]
          have : cur.toList.take l.length = l.map bv := by simpa using ht
          rw [this, List.map_drop]
      · exact ⟨rfl, rfl, rfl, by simp, fun k _ hk => setRow_other w g k _ (fun e => hk (by simp [e]))⟩

/-- the bytes as a string -/
def strOf (l : List Nat) : ByteArray := ⟨(l.map UInt8.ofNat).toArray⟩
theorem strOf_nums (l : List Nat) : strOfNums (l.map fun n : Nat => (n : Int)) = strOf l := by
  simp [strOfNums, strOf]
theorem strOf_size (l : List Nat) : (strOf l).size = l.length := by simp [strOf, ByteArray.size]
theorem strOf_toList (l : List Nat) : (strOf l).data.toList = l.map UInt8.ofNat := rfl
theorem strOf_inj {a b : List Nat} (ha : IsBytes a) (hb : IsBytes b) (h : a.map UInt8.ofNat = b.map UInt8.ofNat) : a = b := by
  have e : ∀ {c : List Nat}, IsBytes c → (c.map UInt8.ofNat).map UInt8.toNat = c := by
    intro c hc
    rw [List.map_map]
    conv => rhs; rw [← List.map_id c]
    apply List.map_congr_left
    intro x hx
    have := hc x hx
    simp [UInt8.toNat_ofNat', Nat.mod_eq_of_lt this]
  rw [← e ha, ← e hb, h]

theorem strOf_append (a b : List Nat) : strOf (a ++ b) = strOf a ++ strOf b := by
  apply ByteArray.ext
  apply Array.toList_inj.1
  simp [strOf]
theorem str_beq {a b : List Nat} (ha : IsBytes a) (hb : IsBytes b) : ((strOf a).toList == (strOf b).toList) = decide (a = b) := by
  rw [ByteArray.toList_eq, ByteArray.toList_eq, strOf_toList, strOf_toList, Bool.eq_iff_iff]
  simp only [beq_iff_eq, decide_eq_true_eq]
  exact ⟨strOf_inj ha hb, fun h => by rw [h]⟩
theorem Sl.string (BT : ByteT P T E) {w : World} {v : Value} {l : List Nat} (h : Sl w v l) {dst : TypeId} (hd : P.underlying dst = some .string) :
    (convert T dst v).run P w = .ok (.string (strOf l)) w := by
  obtain ⟨h0, ao, cap, rfl, h1, h2, h3, h4⟩ := h
  rcases h4 with h4 | ⟨b, off, rfl, hc⟩
  · have hl : l = [] := List.eq_nil_of_length_eq_zero h4
    subst hl
    rw [run_convert_bytes_string w T dst E ao _ cap BT.t BT.e hd]
    cases ao with
    | none => simp [Conv.bytesToString]; rfl
    | some a =>
      rw [run_bytesToString w a _ cap [] (by simp [loadCells, loadCellsFrom])]
      rfl
  · rw [run_convert_bytes_arg (P := P) w T E BT.t BT.e b off l.length cap (l.map fun n : Nat => (n : Int)) (by simp) (fun i hi => by
      rw [hc i hi]; simp [List.getD, List.getElem?_eq_getElem hi]) dst hd, strOf_nums]
end

/-- the lowest k bytes of n, the lowest first -/
def le : Nat → Nat → List Nat
  | 0, _ => []
  | k + 1, n => n % 256 :: le k (n / 256)
theorem le_length (k n : Nat) : (le k n).length = k := by
  induction k generalizing n with
  | zero => rfl
  | succ k ih => simp [le, ih]
theorem le_bytes (k n : Nat) : IsBytes (le k n) := by
  induction k generalizing n with
  | zero => exact IsBytes.nil
  | succ k ih =>
    intro x hx
    simp only [le, List.mem_cons] at hx
    rcases hx with rfl | hx
    · omega
    · exact ih _ x hx
theorem le_snoc (k n : Nat) : le (k + 1) n = le k n ++ [n / 256 ^ k % 256] := by
  induction k generalizing n with
  | zero => simp [le]
  | succ k ih =>
    rw [le, ih, le, List.cons_append, Nat.pow_succ', Nat.div_div_eq_div_mul]
end Go.Proofs.Ytgpdknacnmapiaa
