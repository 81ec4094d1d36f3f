/-
  (*rows).Push (chapter 15).
-/
import Derived.Test.YtcmmmmpdehfefaaHDown
import Derived.Deep.DeepAppendRoom
import Derived.ArgAppend
import Derived.Maps.AppendAt
namespace Go.Proofs.Ytcmmmmpdehfefaa
set_option linter.unusedVariables false
set_option linter.unusedSimpArgs false
open Go.RowKit
theorem ta55 (v : Value) (w : World) : (Instr.typeAssert (.iface 55 v) 20 55 true).run Try.prog w = .ok (.tuple #[v, .bool true]) w := by kernel_rfl
theorem u52 : Try.prog.underlying 52 = some (.slice 55) := by kernel_rfl
theorem i55 : (Try.prog.info? 55).map (fun i => (i.zero, i.size, i.bytes)) = some (some (.pointer none), 1, 8) := by kernel_rfl
theorem ownsRow_set {w : World} {e : TypeId} {size : Nat} {v : Value} {n : Nat} {xs : List Value} (h : w.ownsRow 0 e size v n xs) {a : Addr} (hne : v.ownBlock ≠ some a.block) (x : Value) : (w.setCell a x).ownsRow 0 e size v n xs := by
  refine h.kept (row := some a.block) ⟨rfl, rfl, rfl, by rw [World.size_setCell]; exact Nat.le_refl _, fun k hk hne => ?_⟩ (.inr hne)
  exact heap_setCell_other _ _ _ _ (fun hh => hne (by rw [hh]))
theorem own_shape {w : World} {B : Nat} {e : TypeId} {size : Nat} {v : Value} {n : Nat} {xs : List Value} (h : w.ownsRow B e size v n xs) : ∃ ao cap, v = .slice ao n cap := by
  rcases h.2 with ⟨rfl, rfl⟩ | ⟨g, cap, cur, rfl, _⟩
  · exact ⟨_, _, rfl⟩
  · exact ⟨_, _, rfl⟩
theorem frozen_grown {w w' : World} {row : Option Nat} (hg : w.grownBy w' row) {a : Addr} (hlt : a.block < w.heap.size) (hne : some a.block ≠ row) : w'.frozen? a = w.frozen? a := World.frozen?_of_block (hg.block a.block hlt hne)
theorem ownsRow_low {w : World} {B : Nat} {e : TypeId} {size : Nat} {v : Value} {n : Nat} {xs : List Value} (h : w.ownsRow B e size v n xs) : w.ownsRow 0 e size v n xs := by
  rcases h with ⟨h1, h2 | ⟨g, cap, cur, h2, h3, h4⟩⟩
  · exact ⟨h1, .inl h2⟩
  · exact ⟨h1, .inr ⟨g, cap, cur, h2, Nat.zero_le _, h4⟩⟩
/-- append to a row that is ours: the row stays where it is, or it is new -/
theorem wpList_append_keeps {P : Program} (w : World) {ops : Array Oper} {rest : List Oper} {o : Oper} {a : Act} {Q : Exit → Act → World → Prop} (hgd : o.guard = none) (s x : Operand) (t : TypeId)
    (ho : o.op = .call { callee := .builtin .append, args := #[s, x], argTypes := #[t, t] })
    (e : TypeId) (i : TypeInfo) (z : Value) (size bytes : Nat) (ht : P.underlying t = some (.slice e)) (hi : P.info? e = some i) (hz : i.zero = some z)
    (hsize : i.size = size) (hby : i.bytes = bytes) (hzs : z.cells.size = size) (hsz : 0 < size)
    (v : Value) (n : Nat) (xs : List Value) (hs : a.eval s = v) (hown : w.ownsRow 0 e size v n xs)
    (ad : Addr) (m c : Nat) (news : List Value) (hx : a.eval x = .slice (some ad) m c) (hl : news.length = m * size) (hnews : ∀ j u, news[j]? = some u → w.cell? (ad.add j) = some u) (h1 : ∀ u ∈ news, u.oneCell' = true)
    (hm0 : 0 < m) (h63 : n + m ≤ maxLen) (hbytes : (n + m) * bytes ≤ 140737488355328)
    (h : ∀ v' w', w'.ownsRow 0 e size v' (n + m) (xs ++ news) → w.grownBy w' v.ownBlock → (∀ k, v'.ownBlock = some k → v.ownBlock = some k ∨ w.heap.size ≤ k) → wpList P ops Q rest (a.put o.dst v') w') : wpList P ops Q (o :: rest) a w := by
  have hg : ∀ v' w', w'.ownsRow w.heap.size e size v' (n + m) (xs ++ news) → w.grownBy w' none → wpList P ops Q rest (a.put o.dst v') w' := by
    intro v' w' ho1 hg1
    refine h v' w' (ownsRow_low ho1) ⟨hg1.os, hg1.tape, hg1.output, hg1.size, fun k hk _ => hg1.block k hk (by simp)⟩ fun k hk => .inr (ho1.lt k hk).1
  rcases hown.2 with ⟨rfl, rfl⟩ | ⟨g, cap, cur, rfl, hb0, hcur, hnc, hcm, hcs, htake⟩
  · obtain rfl : xs = [] := List.eq_nil_of_length_eq_zero (by simpa using hown.1)
    exact wpList_append_grows w hgd s x t ho e i z size bytes ht hi hz hsize hby hzs hsz none 0 0 [] hs (fun _ => ⟨rfl, rfl⟩) (by simp) (fun b hb => by cases hb) ad m c news hx hl hnews h1 (by omega) h63 hbytes hg
  · by_cases hroom : n + m ≤ cap
    · refine wpList_append_own_spare w hgd s x t ho 0 e i size ht hi hsize g n cap xs hs hown ad m c news hx hl hnews h1 hroom fun w' ho1 hg1 => h _ w' ho1 hg1 fun k hk => .inl hk
    · exact wpList_append_grows w hgd s x t ho e i z size bytes ht hi hz hsize hby hzs hsz (some ⟨g, 0, none⟩) n cap xs hs (fun hh => by cases hh) hown.1 (fun b hb => by cases hb; exact hown.cells (g := g) rfl) ad m c news hx hl hnews h1 (by omega) h63 hbytes hg
set_option maxHeartbeats 1000000 in
set_option maxRecDepth 100000 in
theorem push_raw (hb pb n cap : Nat) (ao : Option Addr) (xs : List Value) (y : Value) (w : World) (hc : w.cell? ⟨hb, 0, none⟩ = some (.slice ao n cap)) (hf : w.frozen? ⟨hb, 0, none⟩ = false)
    (hown : w.ownsRow 0 55 1 (.slice ao n cap) n xs) (hp : w.cell? ⟨pb, 2, none⟩ = some y) (hpf : w.frozen? ⟨pb, 2, none⟩ = false) (hne : hb ≠ pb) (hro : (Value.slice ao n cap).ownBlock ≠ some pb) (hrh : (Value.slice ao n cap).ownBlock ≠ some hb) (hn : n ≤ 100000) :
    Calls Try.prog 79 #[.pointer (some ⟨hb, 0, none⟩), .iface 55 (.pointer (some ⟨pb, 0, none⟩))] w fun e w' => e = .returned (.tuple #[]) ∧ ∃ v' w1, w1.ownsRow 0 55 1 v' (n + 1) (xs ++ [.pointer (some ⟨pb, 0, none⟩)]) ∧
      ((w.setCell ⟨pb, 2, none⟩ (.int .i64 (n : Int))).alloc (.cells #[.pointer (some ⟨pb, 0, none⟩)] 55)).grownBy w1 (Value.slice ao n cap).ownBlock ∧ w' = w1.setCell ⟨hb, 0, none⟩ v' ∧ (∀ k, v'.ownBlock = some k → (Value.slice ao n cap).ownBlock = some k ∨ w.heap.size ≤ k) := by
  have hn0 : n ≤ 9223372036854775807 := by omega
  obtain ⟨i0, hi, hz0, hz1, hz2⟩ := info_parts i55
  have HI := Lib.hid hi
  have HZ0 := Lib.hid hz0
  have HZ1 := Lib.hid hz1
  have HZ2 := Lib.hid hz2
  have HO := Lib.hid hown
  have HR := Lib.hid hro
  have HH := Lib.hid hrh
  have HN := Lib.hid hn
  have HC := Lib.hid hc
  have HF := Lib.hid hf
  clear hown hro hrh hn hi hz0 hz1 hz2
  have HCA := Lib.hid (show ((w.setCell ⟨pb, 2, none⟩ (.int .i64 (n : Int))).alloc (.cells #[.pointer (some ⟨pb, 0, none⟩)] 55)).cell? ⟨hb, 0, none⟩ = some (.slice ao n cap) by
    have h0 : (w.setCell ⟨pb, 2, none⟩ (.int .i64 (n : Int))).cell? ⟨hb, 0, none⟩ = some (.slice ao n cap) := (World.cell?_setCell_far _ _ _ _ (Ne.symm hne)).trans hc
    rw [World.cell?_alloc_some _ _ _ (by rw [h0]; rfl), h0])
  have HFA := Lib.hid (show ((w.setCell ⟨pb, 2, none⟩ (.int .i64 (n : Int))).alloc (.cells #[.pointer (some ⟨pb, 0, none⟩)] 55)).frozen? ⟨hb, 0, none⟩ = false by rw [frozen?_alloc_cells, World.frozen?_setCell]; exact hf)
  have hta := ta55 (.pointer (some ⟨pb, 0, none⟩)) w
  go_enter Try.func79, Try.ntmps79
  go_wp2_with (at_builtin; go_loud (refine wpList_append_keeps _ rfl (.tmp 22) (.tmp 24) 52 rfl 55 i0 (.pointer none) 1 8 u52 HI.out HZ0.out HZ1.out HZ2.out rfl (by decide) (.slice ao n cap) n xs rfl ((ownsRow_set HO.out (a := ⟨pb, 2, none⟩) HR.out _).alloc _) ⟨w.heap.size, 0, none⟩ 1 1 [.pointer (some ⟨pb, 0, none⟩)] rfl rfl (by have h9 := cell_one_new (w.setCell ⟨pb, 2, none⟩ (.int .i64 (n : Int))) (.pointer (some ⟨pb, 0, none⟩)) 55; rw [World.size_setCell] at h9; exact h9) (by intro u hu; cases List.mem_singleton.1 hu; rfl) (by decide) (by have := HN.out; unfold maxLen; omega) (by have := HN.out; omega) ?_; intro v1 w1 hown1 hgr1 hk1; have HK1 := Lib.hid hk1; clear hk1; obtain ⟨ao1, cap1, hv1⟩ := own_shape hown1; subst hv1; have hc1 : w1.cell? ⟨hb, 0, none⟩ = some (.slice ao n cap) := hgr1.cell HCA.out (Ne.symm HH.out); have hf1 : w1.frozen? ⟨hb, 0, none⟩ = false := (frozen_grown hgr1 (World.block_lt_of_cell? _ _ HCA.out) (Ne.symm HH.out)).trans HFA.out; have HG := Lib.hid hgr1; have HO1 := Lib.hid hown1; clear hgr1 hown1 hc hf hp hpf))
  go_end0
  exact ⟨rfl, _, _, HO1.out, HG.out, rfl, fun k hk => (HK1.out k hk).imp_right fun hh => Nat.le_trans (by simp) hh⟩
end Go.Proofs.Ytcmmmmpdehfefaa
