/-
  What is given to a task, what a task takes (chapter 10's Give, Take).
-/
import Derived.Test.YtgpdknacnmapiaaTl
import Derived.Laws.AppendOwn
import Derived.Great.BuildSlice
namespace Go.Proofs.Ytgpdknacnmapiaa
set_option linter.unusedVariables false
set_option linter.unusedSimpArgs false
open Go.RowKit
set_option maxRecDepth 100000 in
theorem run_bs36 (f : Fr) (w : World) : (Instr.buildSlice 36 1 #[(0, .agg f.cells)]).run Try.prog w = .ok (.slice (some ⟨w.heap.size, 0, none⟩) 1 1) (w.alloc (.cells f.cells 57)) := by kernel_rfl
theorem und36 : Try.prog.underlying 36 = some (.slice 57) := by kernel_rfl
theorem und30 : Try.prog.underlying 30 = some (.slice 3) := by kernel_rfl
theorem fr_range {W : World} {g : Nat} {f : Fr} {n cap : Nat} {v : Value} (h : W.ownsRow n 57 98 v 1 f.cells.toList) : ∃ g cap, v = .slice (some ⟨g, 0, none⟩) 1 cap ∧ n ≤ g ∧ 1 ≤ cap ∧ cap ≤ maxLen ∧ W.rangeAt g 0 f.cells.toList := by
  rcases h.2 with ⟨_, h0⟩ | ⟨g, cap, cur, rfl, h1, h2, h3, h4, h5, h6⟩
  · omega
  · refine ⟨g, cap, rfl, h1, h3, h4, fun j u hu => ?_⟩
    have := h.cells (g := g) rfl j u hu
    rwa [Addr.add_lit] at this
section
variable {ops : Array Oper} {rest : List Oper} {o : Oper} {a : Act} {w : World} {Q : Exit → Act → World → Prop}
theorem wp_bs36 (hg : o.guard = none) (x : Operand) (ho : o.op = .buildSlice 36 1 #[(0, x)]) (f : Fr) (hx : a.eval x = .agg f.cells) (h : wpList Try.prog ops Q rest (a.put o.dst (.slice (some ⟨w.heap.size, 0, none⟩) 1 1)) (w.alloc (.cells f.cells 57))) : wpList Try.prog ops Q (o :: rest) a w := by
  refine wpList_plain hg fun K hK => ?_
  unfold Oper.wp execOp
  simp only [ho]
  have hr := run_bs36 f w
  simp [hx, hr, Sem.run_bind]
  exact hK _ _ h
/-- nothing is joined to nothing -/
theorem wp_app0 (hg : o.guard = none) (s x : Operand) (ho : o.op = .call { callee := .builtin .append, args := #[s, x], argTypes := #[36, 36] }) (hs : a.eval s = .slice none 0 0) (ad : Addr) (c : Nat) (hx : a.eval x = .slice (some ad) 0 c)
    (h : wpList Try.prog ops Q rest (a.put o.dst (.slice none 0 0)) w) : wpList Try.prog ops Q (o :: rest) a w := by
  refine wpList_plain hg fun K hK => ?_
  obtain ⟨i, hi⟩ : ∃ i, Try.prog.info? 57 = some i := ⟨Try.t57, by kernel_rfl⟩
  have hr : (Builtin.append_ #[36, 36] o.type #[.slice none 0 0, .slice (some ad) 0 c]).run Try.prog w = .ok (.slice none 0 0) w := by
    simp [Builtin.append_, run_underlying und36, sizeOf, typeInfo, hi, Builtin.lenOf, Builtin.firstCells, loadCells, loadCellsFrom]
  unfold Oper.wp execOp
  simp only [ho, resolve, invoke, builtin, Sem.run_bind, Sem.run_pure, Result.andThen_ok, List.map_toArray, List.map_cons, List.map_nil, hs, hx, hr]
  exact hK _ _ h
/-- a frame is joined to nothing -/
theorem wp_app1 (hg : o.guard = none) (s x : Operand) (ho : o.op = .call { callee := .builtin .append, args := #[s, x], argTypes := #[36, 36] }) (hs : a.eval s = .slice none 0 0) (g c : Nat) (hx : a.eval x = .slice (some ⟨g, 0, none⟩) 1 c) (f : Fr) (hf : w.rangeAt g 0 f.cells.toList)
    (h : ∀ W b cap, Below w.heap.size w W → w.heap.size ≤ b → 1 ≤ cap → cap ≤ maxLen → W.rangeAt b 0 f.cells.toList → wpList Try.prog ops Q rest (a.put o.dst (.slice (some ⟨b, 0, none⟩) 1 cap)) W) : wpList Try.prog ops Q (o :: rest) a w := by
  refine wpList_append_own w hg s x 36 ho w.heap.size 57 Try.t57 (.agg Fr.zero.cells) 98 784 und36 (by kernel_rfl) (by kernel_rfl) (by kernel_rfl) (by kernel_rfl) (Fr.size _) (by decide) (.slice none 0 0) 0 [] hs (World.ownsRow_nil _ _ _ _)
    ⟨g, 0, none⟩ 1 c f.cells.toList hx (by simp [Fr.size]) (fun j u hu => by rw [Addr.add_lit]; exact hf j u hu) (fun u hu => Array.all_eq_true_iff_forall_mem.1 f.one u (by simpa using hu)) (by decide) (by decide) (Nat.le_refl _) fun v' w' ho hgr _ => ?_
  obtain ⟨b, cap, rfl, h1, h2, h3, h4⟩ := fr_range (g := 0) (cap := 0) (by simpa using ho)
  exact h w' b cap ⟨hgr.os, hgr.tape, hgr.output, hgr.size, fun k hk => hgr.block k hk (by simp [Value.ownBlock])⟩ h1 h2 h3 h4
/-- numbers are joined to nothing -/
theorem wp_appI (hg : o.guard = none) (s x : Operand) (ho : o.op = .call { callee := .builtin .append, args := #[s, x], argTypes := #[30, 30] }) (hs : a.eval s = .slice none 0 0) (ao : Option Addr) (n c : Nat) (hx : a.eval x = .slice ao n c) (l : List Int) (B : Nat) (hl : Ints B w (.slice ao n c) l) (h100 : n ≤ 100000)
    (h : ∀ W ao' cap, Below w.heap.size w W → Ints w.heap.size W (.slice ao' n cap) l → cap ≤ maxLen → wpList Try.prog ops Q rest (a.put o.dst (.slice ao' n cap)) W) : wpList Try.prog ops Q (o :: rest) a w := by
  obtain ⟨ao1, cap1, e, hc1, hr1⟩ := hl
  injection e with e1 e2 e3
  subst e1 e2 e3
  cases ao with
  | none =>
    have hl0 : l = [] := by
      cases l with
      | nil => rfl
      | cons x l => obtain ⟨b, off, e, _⟩ := hr1 0 x rfl; cases e
    subst hl0
    refine wpList_plain hg fun K hK => ?_
    obtain ⟨i, hi⟩ : ∃ i, Try.prog.info? 3 = some i := ⟨Try.t3, by kernel_rfl⟩
    have hr : (Builtin.append_ #[30, 30] o.type #[.slice none 0 0, .slice none 0 c]).run Try.prog w = .ok (.slice none 0 0) w := by
      simp [Builtin.append_, run_underlying und30, sizeOf, typeInfo, hi, Builtin.lenOf, Builtin.firstCells, loadCells, loadCellsFrom]
    unfold Oper.wp execOp
    simp only [ho, resolve, invoke, builtin, Sem.run_bind, Sem.run_pure, Result.andThen_ok, List.map_toArray, List.map_cons, List.map_nil, hs, hx, List.length_nil, hr]
    exact hK _ _ (h w none 0 (Below.refl _ _) (Ints.nil _ _) (Nat.zero_le _))
  | some ad =>
    have hcells : ∀ j u, (l.map (Value.int .i64))[j]? = some u → w.cell? (ad.add j) = some u := fun j u hu => by
      rw [List.getElem?_map] at hu
      cases hx2 : l[j]? with
      | none => rw [hx2] at hu; cases hu
      | some z =>
        rw [hx2] at hu
        obtain ⟨b, off, e, _, h2⟩ := hr1 j z hx2
        injection e with e; subst e
        rw [Addr.add_lit, h2]; simpa using hu
    refine wpList_append_own w hg s x 30 ho w.heap.size 3 Try.t3 (.int .i64 0) 1 8 und30 (by kernel_rfl) (by kernel_rfl) (by kernel_rfl) (by kernel_rfl) rfl (by decide) (.slice none 0 0) 0 [] hs (World.ownsRow_nil _ _ _ _)
      ad l.length c (l.map (Value.int .i64)) hx (by simp) hcells (fun u hu => by obtain ⟨z, _, rfl⟩ := List.mem_map.1 hu; rfl) (by simp only [maxLen]; omega) (by omega) (Nat.le_refl _) fun v' w' ho hgr _ => ?_
    have hbl : Below w.heap.size w w' := ⟨hgr.os, hgr.tape, hgr.output, hgr.size, fun k hk => hgr.block k hk (by simp [Value.ownBlock])⟩
    rcases ho.2 with ⟨rfl, h0⟩ | ⟨g, cap, cur, rfl, h1, h2, h3, h4, h5, h6⟩
    · have hl0 : l = [] := List.eq_nil_of_length_eq_zero (by omega)
      subst hl0
      exact h w' none 0 hbl (Ints.nil _ _) (Nat.zero_le _)
    · simp only [Nat.zero_add] at h2 h3 ⊢
      refine h w' _ cap hbl ⟨_, _, rfl, h3, fun i z hz => ⟨g, 0, rfl, h1, ?_⟩⟩ h4
      have := ho.cells (g := g) rfl i (.int .i64 z) (by simp [hz])
      rwa [Addr.add_lit] at this
end
set_option maxHeartbeats 1000000 in
set_option maxRecDepth 100000 in
theorem give_p {P : Nat → Prop} {C : Array Value} {c : Int} {f : Fr} {x : Int} (w : World) (hP : ∀ b, w.heap.size ≤ b → P b) (hc : 0 ≤ c ∧ c < 4) (h : Live P w C c f x) (y : Int) :
    Calls Try.prog 41 #[.agg C, .int .i64 y] w fun e w' => (∃ C', e = .returned (.tuple #[.agg C', .int .i64 0]) ∧ Live P w' C' c f y) ∧ Below w.heap.size w w' := by
  obtain ⟨b, o, cap, gao, gn, gcap, rfl, h1, h2, h3, h4, h5⟩ := h
  have hgn : gn ≤ 1 := by rcases h5 with ⟨_, h, _⟩ | ⟨_, _, _, h, _⟩ <;> omega
  have HM := Lib.hid (fun w => may_task c b o cap gao gn gcap w hc hgn)
  have H4 := Lib.hid h4
  have HP := Lib.hid hP
  have HBB : Hid (b < w.heap.size) := Lib.hid (World.block_lt_of_cell? _ _ (h4 0 (.int .i8 f.pg) (by have := f.c0; simpa using this)))
  have QB0 : Hid (Below w.heap.size w (w.alloc (.cells (tkC c (.slice (some ⟨b, o, none⟩) 1 cap) (.slice gao gn gcap) false) 38))) := Lib.hid ((Below.refl _ _).alloc (Nat.le_refl _) _)
  have QN0 : Hid (HB (w.alloc (.cells (tkC c (.slice (some ⟨b, o, none⟩) 1 cap) (.slice gao gn gcap) false) 38)) w.heap.size (tkC c (.slice (some ⟨b, o, none⟩) 1 cap) (.slice gao gn gcap) false) 38) := Lib.hid (heap_alloc_new _ _)
  have QS0 : Hid ((w.alloc (.cells (tkC c (.slice (some ⟨b, o, none⟩) 1 cap) (.slice gao gn gcap) false) 38)).heap.size = w.heap.size + 1) := Lib.hid (by simp)
  clear h4 h5 hP hc hgn
  go_enter Try.func41, Try.ntmps41
  go_wp2_with (first
    | (refine wp_al38 rfl rfl ?_; intro W1 hb hF hs; rw [QS0.out] at hF; have QM1 := Lib.hid hF; have QB1 := Lib.hid (QB0.out.trans (hb.mono QB0.out.size)); have QN1 := Lib.hid (QN0.out.below hb); clear hb hF hs)
    | (refine wp_ld38 rfl (.tmp 2) rfl w.heap.size 0 rfl _ rfl QN1.out.range ?_))
  refine (HM.out _).mono ?_
  rintro e W2 ⟨rfl, hb⟩
  have QB2 := Lib.hid (QB1.out.trans (hb.mono QB1.out.size))
  have QN2 := Lib.hid (QN1.out.below hb)
  have QM2 := Lib.hid (QM1.out.below hb)
  have k3 : W2.cell? ⟨w.heap.size, 3, none⟩ = some (.bool false) := QN2.out.cell (k := 3) rfl
  have QB3 : Hid (Below w.heap.size w (W2.alloc (.cells #[.int .i64 y] 3))) := Lib.hid (QB2.out.alloc QB2.out.size _)
  have QA3 : Hid (Below W2.heap.size W2 (W2.alloc (.cells #[.int .i64 y] 3))) := Lib.hid ((Below.refl _ _).alloc (Nat.le_refl _) _)
  have QN3 := Lib.hid (QN2.out.below QA3.out)
  have QM3 := Lib.hid (QM2.out.below QA3.out)
  have QG3 : Hid ((W2.alloc (.cells #[.int .i64 y] 3)).cell? ⟨W2.heap.size, 0, none⟩ = some (.int .i64 y)) := Lib.hid (by simp [go_sem])
  have QL2 : Hid (w.heap.size + 1 < W2.heap.size) := Lib.hid QM2.out.lt
  clear hb
  go_wp2_with (first
    | (refine wp_cell rfl 30 (.tmp 16) (.tmp 15) rfl Try.sizeOf30 w.heap.size 2 _ rfl rfl (.inr (.inr ⟨_, _, _, rfl⟩)) _ 38 QN3.out (show (2 : Nat) < 4 by omega) ?_; intro W4 hb ho hF hs; have QB4 := Lib.hid (QB3.out.trans (hb _ (Nat.le_refl _))); have QN4 : Hid (HB W4 w.heap.size (tkC c (.slice (some ⟨b, o, none⟩) 1 cap) (.slice (some ⟨W2.heap.size, 0, none⟩) 1 1) false) 38) := Lib.hid hF; have QM4 := Lib.hid (QM3.out.oth (ho _ (by omega))); have QG4 := Lib.hid ((World.cell?_of_block (ho _ (by have := QL2.out; show W2.heap.size ≠ _; omega))).trans QG3.out); clear hb ho hF hs)
    | (refine wp_ld38 rfl (.tmp 2) rfl w.heap.size 0 rfl _ rfl QN4.out.range ?_)
    | (refine wp_st38 rfl (.tmp 4) (.tmp 17) rfl (w.heap.size + 1) c (some ⟨b, o, none⟩) 1 cap (some ⟨W2.heap.size, 0, none⟩) 1 1 false rfl rfl _ QM4.out rfl ?_; intro W5 hb ho hF hs; have QB5 := Lib.hid (QB4.out.trans (hb _ (by omega))); have QM5 := Lib.hid hF; have QG5 := Lib.hid ((World.cell?_of_block (ho _ (by have := QL2.out; show W2.heap.size ≠ _; omega))).trans QG4.out); clear hb ho hF hs))
  (try simp only [Exit.inBlock, Exit.then])
  refine bodyPost_ret (res_ct rfl _ _ _ _ _ rfl rfl (QM5.out.load38 rfl)) rfl ?_
  exact ⟨⟨_, rfl, b, o, cap, some ⟨W2.heap.size, 0, none⟩, 1, 1, rfl, h1, h2, h3, fun j v hv => (World.cell?_of_block (QB5.out.block b HBB.out)).trans (H4.out j v hv), .inr ⟨W2.heap.size, 0, rfl, rfl, HP.out _ (by have := QL2.out; omega), QG5.out⟩⟩, QB5.out⟩
end Go.Proofs.Ytgpdknacnmapiaa
