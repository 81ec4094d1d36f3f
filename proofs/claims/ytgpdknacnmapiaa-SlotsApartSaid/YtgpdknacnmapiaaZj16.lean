/-
  Parts of a proof, put together: Tm, Tn.
-/
import Derived.Test.YtgpdknacnmapiaaZj01
import Derived.Test.YtgpdknacnmapiaaZj02
import Derived.Test.YtgpdknacnmapiaaZj03
import Derived.Test.YtgpdknacnmapiaaZj04
import Derived.Test.YtgpdknacnmapiaaZj05
import Derived.Test.YtgpdknacnmapiaaZj06
import Derived.Test.YtgpdknacnmapiaaZj07
import Derived.Test.YtgpdknacnmapiaaZj08
import Derived.Test.YtgpdknacnmapiaaZj09
import Derived.Test.YtgpdknacnmapiaaZj10
import Derived.Test.YtgpdknacnmapiaaZj11
import Derived.Test.YtgpdknacnmapiaaZj12
import Derived.Test.YtgpdknacnmapiaaZj13
import Derived.Test.YtgpdknacnmapiaaZj14
import Derived.Test.YtgpdknacnmapiaaZj15
import Derived.Laws.AppendOwn
import Derived.Great.BuildSlice
namespace Go.Proofs.Ytgpdknacnmapiaa
set_option linter.unusedVariables false
set_option linter.unusedSimpArgs false
open Go.RowKit
set_option maxRecDepth 100000 in
theorem run_bs36 (f : Fr) (w : World) : (Instr.buildSlice 36 1 #[(0, .agg f.cells)]).run Try.prog w = .ok (.slice (some ⟨w.heap.size, 0, none⟩) 1 1) (w.alloc (.cells f.cells 57)) := by kernel_rfl
theorem und36 : Try.prog.underlying 36 = some (.slice 57) := by kernel_rfl
theorem und30 : Try.prog.underlying 30 = some (.slice 3) := by kernel_rfl
theorem fr_range {W : World} {g : Nat} {f : Fr} {n cap : Nat} {v : Value} (h : W.ownsRow n 57 98 v 1 f.cells.toList) : ∃ g cap, v = .slice (some ⟨g, 0, none⟩) 1 cap ∧ n ≤ g ∧ 1 ≤ cap ∧ cap ≤ maxLen ∧ W.rangeAt g 0 f.cells.toList := by
  rcases h.2 with ⟨_, h0⟩ | ⟨g, cap, cur, rfl, h1, h2, h3, h4, h5, h6⟩
  · omega
  · refine ⟨g, cap, rfl, h1, h3, h4, fun j u hu => ?_⟩
    have := h.cells (g := g) rfl j u hu
    rwa [Addr.add_lit] at this
section
variable {ops : Array Oper} {rest : List Oper} {o : Oper} {a : Act} {w : World} {Q : Exit → Act → World → Prop}
theorem wp_bs36 (hg : o.guard = none) (x : Operand) (ho : o.op = .buildSlice 36 1 #[(0, x)]) (f : Fr) (hx : a.eval x = .agg f.cells) (h : wpList Try.prog ops Q rest (a.put o.dst (.slice (some ⟨w.heap.size, 0, none⟩) 1 1)) (w.alloc (.cells f.cells 57))) : wpList Try.prog ops Q (o :: rest) a w := by
  refine wpList_plain hg fun K hK => ?_
  unfold Oper.wp execOp
  simp only [ho]
  have hr := run_bs36 f w
  simp [hx, hr, Sem.run_bind]
  exact hK _ _ h
/-- nothing is joined to nothing -/
theorem wp_app0 (hg : o.guard = none) (s x : Operand) (ho : o.op = .call { callee := .builtin .append, args := #[s, x], argTypes := #[36, 36] }) (hs : a.eval s = .slice none 0 0) (ad : Addr) (c : Nat) (hx : a.eval x = .slice (some ad) 0 c)
    (h : wpList Try.prog ops Q rest (a.put o.dst (.slice none 0 0)) w) : wpList Try.prog ops Q (o :: rest) a w := by
  refine wpList_plain hg fun K hK => ?_
  obtain ⟨i, hi⟩ : ∃ i, Try.prog.info? 57 = some i := ⟨Try.t57, by kernel_rfl⟩
  have hr : (Builtin.append_ #[36, 36] o.type #[.slice none 0 0, .slice (some ad) 0 c]).run Try.prog w = .ok (.slice none 0 0) w := by
    simp [Builtin.append_, run_underlying und36, sizeOf, typeInfo, hi, Builtin.lenOf, Builtin.firstCells, loadCells, loadCellsFrom]
  unfold Oper.wp execOp
  simp only [ho, resolve, invoke, builtin, Sem.run_bind, Sem.run_pure, Result.andThen_ok, List.map_toArray, List.map_cons, List.map_nil, hs, hx, hr]
  exact hK _ _ h
/-- a frame is joined to nothing -/
theorem wp_app1 (hg : o.guard = none) (s x : Operand) (ho : o.op = .call { callee := .builtin .append, args := #[s, x], argTypes := #[36, 36] }) (hs : a.eval s = .slice none 0 0) (g c : Nat) (hx : a.eval x = .slice (some ⟨g, 0, none⟩) 1 c) (f : Fr) (hf : w.rangeAt g 0 f.cells.toList)
    (h : ∀ W b cap, Below w.heap.size w W → w.heap.size ≤ b → 1 ≤ cap → cap ≤ maxLen → W.rangeAt b 0 f.cells.toList → wpList Try.prog ops Q rest (a.put o.dst (.slice (some ⟨b, 0, none⟩) 1 cap)) W) : wpList Try.prog ops Q (o :: rest) a w := by
  refine wpList_append_own w hg s x 36 ho w.heap.size 57 Try.t57 (.agg Fr.zero.cells) 98 784 und36 (by kernel_rfl) (by kernel_rfl) (by kernel_rfl) (by kernel_rfl) (Fr.size _) (by decide) (.slice none 0 0) 0 [] hs (World.ownsRow_nil _ _ _ _)
    ⟨g, 0, none⟩ 1 c f.cells.toList hx (by simp [Fr.size]) (fun j u hu => by rw [Addr.add_lit]; exact hf j u hu) (fun u hu => Array.all_eq_true_iff_forall_mem.1 f.one u (by simpa using hu)) (by decide) (by decide) (Nat.le_refl _) fun v' w' ho hgr _ => ?_
  obtain ⟨b, cap, rfl, h1, h2, h3, h4⟩ := fr_range (g := 0) (cap := 0) (by simpa using ho)
  exact h w' b cap ⟨hgr.os, hgr.tape, hgr.output, hgr.size, fun k hk => hgr.block k hk (by simp [Value.ownBlock])⟩ h1 h2 h3 h4
/-- numbers are joined to nothing -/
theorem wp_appI (hg : o.guard = none) (s x : Operand) (ho : o.op = .call { callee := .builtin .append, args := #[s, x], argTypes := #[30, 30] }) (hs : a.eval s = .slice none 0 0) (ao : Option Addr) (n c : Nat) (hx : a.eval x = .slice ao n c) (l : List Int) (B : Nat) (hl : Ints B w (.slice ao n c) l) (h100 : n ≤ 100000)
    (h : ∀ W ao' cap, Below w.heap.size w W → Ints w.heap.size W (.slice ao' n cap) l → cap ≤ maxLen → wpList Try.prog ops Q rest (a.put o.dst (.slice ao' n cap)) W) : wpList Try.prog ops Q (o :: rest) a w := by
  obtain ⟨ao1, cap1, e, hc1, hr1⟩ := hl
  injection e with e1 e2 e3
  subst e1 e2 e3
  cases ao with
  | none =>
    have hl0 : l = [] := by
      cases l with
      | nil => rfl
      | cons x l => obtain ⟨b, off, e, _⟩ := hr1 0 x rfl; cases e
    subst hl0
    refine wpList_plain hg fun K hK => ?_
    obtain ⟨i, hi⟩ : ∃ i, Try.prog.info? 3 = some i := ⟨Try.t3, by kernel_rfl⟩
    have hr : (Builtin.append_ #[30, 30] o.type #[.slice none 0 0, .slice none 0 c]).run Try.prog w = .ok (.slice none 0 0) w := by
      simp [Builtin.append_, run_underlying und30, sizeOf, typeInfo, hi, Builtin.lenOf, Builtin.firstCells, loadCells, loadCellsFrom]
    unfold Oper.wp execOp
    simp only [ho, resolve, invoke, builtin, Sem.run_bind, Sem.run_pure, Result.andThen_ok, List.map_toArray, List.map_cons, List.map_nil, hs, hx, List.length_nil, hr]
    exact hK _ _ (h w none 0 (Below.refl _ _) (Ints.nil _ _) (Nat.zero_le _))
  | some ad =>
    have hcells : ∀ j u, (l.map (Value.int .i64))[j]? = some u → w.cell? (ad.add j) = some u := fun j u hu => by
      rw [List.getElem?_map] at hu
      cases hx2 : l[j]? with
      | none => rw [hx2] at hu; cases hu
      | some z =>
        rw [hx2] at hu
        obtain ⟨b, off, e, _, h2⟩ := hr1 j z hx2
        injection e with e; subst e
        rw [Addr.add_lit, h2]; simpa using hu
    refine wpList_append_own w hg s x 30 ho w.heap.size 3 Try.t3 (.int .i64 0) 1 8 und30 (by kernel_rfl) (by kernel_rfl) (by kernel_rfl) (by kernel_rfl) rfl (by decide) (.slice none 0 0) 0 [] hs (World.ownsRow_nil _ _ _ _)
      ad l.length c (l.map (Value.int .i64)) hx (by simp) hcells (fun u hu => by obtain ⟨z, _, rfl⟩ := List.mem_map.1 hu; rfl) (by simp only [maxLen]; omega) (by omega) (Nat.le_refl _) fun v' w' ho hgr _ => ?_
    have hbl : Below w.heap.size w w' := ⟨hgr.os, hgr.tape, hgr.output, hgr.size, fun k hk => hgr.block k hk (by simp [Value.ownBlock])⟩
    rcases ho.2 with ⟨rfl, h0⟩ | ⟨g, cap, cur, rfl, h1, h2, h3, h4, h5, h6⟩
    · have hl0 : l = [] := List.eq_nil_of_length_eq_zero (by omega)
      subst hl0
      exact h w' none 0 hbl (Ints.nil _ _) (Nat.zero_le _)
    · simp only [Nat.zero_add] at h2 h3 ⊢
      refine h w' _ cap hbl ⟨_, _, rfl, h3, fun i z hz => ⟨g, 0, rfl, h1, ?_⟩⟩ h4
      have := ho.cells (g := g) rfl i (.int .i64 z) (by simp [hz])
      rwa [Addr.add_lit] at this
end
set_option maxHeartbeats 1000000 in
set_option maxRecDepth 100000 in
theorem give_p {P : Nat → Prop} {C : Array Value} {c : Int} {f : Fr} {x : Int} (w : World) (hP : ∀ b, w.heap.size ≤ b → P b) (hc : 0 ≤ c ∧ c < 4) (h : Live P w C c f x) (y : Int) :
    Calls Try.prog 41 #[.agg C, .int .i64 y] w fun e w' => (∃ C', e = .returned (.tuple #[.agg C', .int .i64 0]) ∧ Live P w' C' c f y) ∧ Below w.heap.size w w' := by
  obtain ⟨b, o, cap, gao, gn, gcap, rfl, h1, h2, h3, h4, h5⟩ := h
  have hgn : gn ≤ 1 := by rcases h5 with ⟨_, h, _⟩ | ⟨_, _, _, h, _⟩ <;> omega
  have HM := Lib.hid (fun w => may_task c b o cap gao gn gcap w hc hgn)
  have H4 := Lib.hid h4
  have HP := Lib.hid hP
  have HBB : Hid (b < w.heap.size) := Lib.hid (World.block_lt_of_cell? _ _ (h4 0 (.int .i8 f.pg) (by have := f.c0; simpa using this)))
  have QB0 : Hid (Below w.heap.size w (w.alloc (.cells (tkC c (.slice (some ⟨b, o, none⟩) 1 cap) (.slice gao gn gcap) false) 38))) := Lib.hid ((Below.refl _ _).alloc (Nat.le_refl _) _)
  have QN0 : Hid (HB (w.alloc (.cells (tkC c (.slice (some ⟨b, o, none⟩) 1 cap) (.slice gao gn gcap) false) 38)) w.heap.size (tkC c (.slice (some ⟨b, o, none⟩) 1 cap) (.slice gao gn gcap) false) 38) := Lib.hid (heap_alloc_new _ _)
  have QS0 : Hid ((w.alloc (.cells (tkC c (.slice (some ⟨b, o, none⟩) 1 cap) (.slice gao gn gcap) false) 38)).heap.size = w.heap.size + 1) := Lib.hid (by simp)
  clear h4 h5 hP hc hgn
  go_enter Try.func41, Try.ntmps41
  go_wp2_with (first
    | (refine wp_al38 rfl rfl ?_; intro W1 hb hF hs; rw [QS0.out] at hF; have QM1 := Lib.hid hF; have QB1 := Lib.hid (QB0.out.trans (hb.mono QB0.out.size)); have QN1 := Lib.hid (QN0.out.below hb); clear hb hF hs)
    | (refine wp_ld38 rfl (.tmp 2) rfl w.heap.size 0 rfl _ rfl QN1.out.range ?_))
  refine (HM.out _).mono ?_
  rintro e W2 ⟨rfl, hb⟩
  have QB2 := Lib.hid (QB1.out.trans (hb.mono QB1.out.size))
  have QN2 := Lib.hid (QN1.out.below hb)
  have QM2 := Lib.hid (QM1.out.below hb)
  have k3 : W2.cell? ⟨w.heap.size, 3, none⟩ = some (.bool false) := QN2.out.cell (k := 3) rfl
  have QB3 : Hid (Below w.heap.size w (W2.alloc (.cells #[.int .i64 y] 3))) := Lib.hid (QB2.out.alloc QB2.out.size _)
  have QA3 : Hid (Below W2.heap.size W2 (W2.alloc (.cells #[.int .i64 y] 3))) := Lib.hid ((Below.refl _ _).alloc (Nat.le_refl _) _)
  have QN3 := Lib.hid (QN2.out.below QA3.out)
  have QM3 := Lib.hid (QM2.out.below QA3.out)
  have QG3 : Hid ((W2.alloc (.cells #[.int .i64 y] 3)).cell? ⟨W2.heap.size, 0, none⟩ = some (.int .i64 y)) := Lib.hid (by simp [go_sem])
  have QL2 : Hid (w.heap.size + 1 < W2.heap.size) := Lib.hid QM2.out.lt
  clear hb
  go_wp2_with (first
    | (refine wp_cell rfl 30 (.tmp 16) (.tmp 15) rfl Try.sizeOf30 w.heap.size 2 _ rfl rfl (.inr (.inr ⟨_, _, _, rfl⟩)) _ 38 QN3.out (show (2 : Nat) < 4 by omega) ?_; intro W4 hb ho hF hs; have QB4 := Lib.hid (QB3.out.trans (hb _ (Nat.le_refl _))); have QN4 : Hid (HB W4 w.heap.size (tkC c (.slice (some ⟨b, o, none⟩) 1 cap) (.slice (some ⟨W2.heap.size, 0, none⟩) 1 1) false) 38) := Lib.hid hF; have QM4 := Lib.hid (QM3.out.oth (ho _ (by omega))); have QG4 := Lib.hid ((World.cell?_of_block (ho _ (by have := QL2.out; show W2.heap.size ≠ _; omega))).trans QG3.out); clear hb ho hF hs)
    | (refine wp_ld38 rfl (.tmp 2) rfl w.heap.size 0 rfl _ rfl QN4.out.range ?_)
    | (refine wp_st38 rfl (.tmp 4) (.tmp 17) rfl (w.heap.size + 1) c (some ⟨b, o, none⟩) 1 cap (some ⟨W2.heap.size, 0, none⟩) 1 1 false rfl rfl _ QM4.out rfl ?_; intro W5 hb ho hF hs; have QB5 := Lib.hid (QB4.out.trans (hb _ (by omega))); have QM5 := Lib.hid hF; have QG5 := Lib.hid ((World.cell?_of_block (ho _ (by have := QL2.out; show W2.heap.size ≠ _; omega))).trans QG4.out); clear hb ho hF hs))
  (try simp only [Exit.inBlock, Exit.then])
  refine bodyPost_ret (res_ct rfl _ _ _ _ _ rfl rfl (QM5.out.load38 rfl)) rfl ?_
  exact ⟨⟨_, rfl, b, o, cap, some ⟨W2.heap.size, 0, none⟩, 1, 1, rfl, h1, h2, h3, fun j v hv => (World.cell?_of_block (QB5.out.block b HBB.out)).trans (H4.out j v hv), .inr ⟨W2.heap.size, 0, rfl, rfl, HP.out _ (by have := QL2.out; omega), QG5.out⟩⟩, QB5.out⟩
end Go.Proofs.Ytgpdknacnmapiaa
namespace Go.Proofs.Ytgpdknacnmapiaa
set_option linter.unusedVariables false
set_option linter.unusedSimpArgs false
open Go.RowKit
theorem T3.upd0 {w W W' : World} {N : Nat} {C0 C0' : Array Value} {t0 : TypeId} {C1 C2 : Array Value} (h : T3 w W N C0 t0 C1 C2) (hb : ∀ B, B ≤ N → Below B W W') (ho : ∀ k, k ≠ N → W'.heap[k]? = W.heap[k]?) (hn : HB W' N C0' t0) : T3 w W' N C0' t0 C1 C2 :=
  ⟨h.bel.trans (hb _ (by have := h.n; omega)), h.n, hn, h.b1.oth (ho _ (by omega)), h.b2.oth (ho _ (by omega))⟩
theorem T3.oth {w W W' : World} {N b : Nat} {C0 : Array Value} {t0 : TypeId} {C1 C2 : Array Value} (h : T3 w W N C0 t0 C1 C2) (hN : N + 1 + 1 < b) (hb : ∀ B, B ≤ b → Below B W W') (ho : ∀ k, k ≠ b → W'.heap[k]? = W.heap[k]?) : T3 w W' N C0 t0 C1 C2 :=
  ⟨h.bel.trans (hb _ (by have := h.n; omega)), h.n, h.b0.oth (ho _ (by omega)), h.b1.oth (ho _ (by omega)), h.b2.oth (ho _ (by omega))⟩
theorem Ints.keepo {B : Nat} {w w' : World} {v : Value} {l : List Int} (h : Ints B w v l) (hk : ∀ b, B ≤ b → w'.heap[b]? = w.heap[b]?) : Ints B w' v l := by
  obtain ⟨ao, cap, rfl, hc, hr⟩ := h
  refine ⟨ao, cap, rfl, hc, fun i x hx => ?_⟩
  obtain ⟨b, off, e1, e2, e3⟩ := hr i x hx
  exact ⟨b, off, e1, e2, (World.cell?_of_block (hk b e2)).trans e3⟩
set_option maxHeartbeats 2000000 in
set_option maxRecDepth 100000 in
theorem take_go {P : Nat → Prop} {C : Array Value} {c : Int} {f0 f : Fr} {x : Int} (w : World) (hP : ∀ b, w.heap.size ≤ b → P b) (hc : 0 ≤ c ∧ c < 4) (h : Live P w C c f0 x) (k a bb v : Int) (ao : Option Addr) (ac : Nat) (hOk : OkA k a bb v 0) (hk : k < 6) :
    Calls Try.prog 72 #[.agg C, .agg f.cells, .agg (acC k a bb v 0 (.slice ao 0 ac))] w fun e w' => (∃ C', e = .returned (.tuple #[.agg C', .bool true, .int .i64 0]) ∧ Live P w' C' c f x) ∧ Below w.heap.size w w' := by
  obtain ⟨b, o, cap, gao, gn, gcap, rfl, h1, h2, h3, h4, h5⟩ := h
  have hgn : gn ≤ 1 := by rcases h5 with ⟨_, h, _⟩ | ⟨_, _, _, h, _⟩ <;> omega
  have HM := Lib.hid (fun w => may_task c b o cap gao gn gcap w hc hgn)
  have HA := Lib.hid (fun w => may_act k a bb v ao 0 ac w hOk)
  have HT := Lib.hid (fun w => atomic_p k a bb v ao 0 ac w hOk true (by simp; omega))
  have H5 := Lib.hid h5
  have HP := Lib.hid hP
  have QT0 := Lib.hid (T3.start w (tkC c (.slice (some ⟨b, o, none⟩) 1 cap) (.slice gao gn gcap) false) 38 f.cells (acC k a bb v 0 (.slice ao 0 ac)))
  have QS0 : Hid ((((w.alloc (.cells (tkC c (.slice (some ⟨b, o, none⟩) 1 cap) (.slice gao gn gcap) false) 38)).alloc (.cells f.cells 57)).alloc (.cells (acC k a bb v 0 (.slice ao 0 ac)) 59)).heap.size = w.heap.size + 1 + 1 + 1) := Lib.hid (by simp)
  skip
  have hk6 : (k == 6) = false := by simp; omega
  clear h4 h5 hP hc hgn hOk hk 
  go_enter Try.func72, Try.ntmps72
  go_wp2_with (first
    | (refine wp_al38 rfl rfl ?_; intro W1 hb hF hs; rw [QS0.out] at hF; have QM1 := Lib.hid hF; have QT1 := Lib.hid (QT0.out.below hb); clear hb hF hs)
    | (refine wp_ld38 rfl (.tmp 3) rfl w.heap.size 0 rfl _ rfl QT1.out.b0.range ?_))
  refine (HM.out _).mono ?_
  rintro e W2 ⟨rfl, hb⟩
  have QT2 := Lib.hid (QT1.out.below hb)
  have QM2 := Lib.hid (QM1.out.below hb)
  have q0 : W2.cell? ⟨w.heap.size + 1 + 1, 0, none⟩ = some (.int .i8 k) := QT2.out.b2.cell (k := 0) rfl
  have q1 : W2.cell? ⟨w.heap.size + 1 + 1, 1, none⟩ = some (.int .i64 a) := QT2.out.b2.cell (k := 1) rfl
  have q2 : W2.cell? ⟨w.heap.size + 1 + 1, 2, none⟩ = some (.int .i64 bb) := QT2.out.b2.cell (k := 2) rfl
  have q3 : W2.cell? ⟨w.heap.size + 1 + 1, 3, none⟩ = some (.int .i64 v) := QT2.out.b2.cell (k := 3) rfl
  have q4 : W2.cell? ⟨w.heap.size + 1 + 1, 4, none⟩ = some (.int .i64 0) := QT2.out.b2.cell (k := 4) rfl
  have q5 : W2.cell? ⟨w.heap.size + 1 + 1, 5, none⟩ = some (.string ByteArray.empty) := QT2.out.b2.cell (k := 5) rfl
  have q6 : W2.cell? ⟨w.heap.size + 1 + 1, 6, none⟩ = some (.slice ao 0 ac) := QT2.out.b2.cell (k := 6) rfl
  clear hb
  go_wp2_with fail
  refine (HA.out _).mono ?_
  rintro e W3 ⟨rfl, hb⟩
  have QT3 := Lib.hid (QT2.out.below hb)
  have QM3 := Lib.hid (QM2.out.below hb)
  have k3 : W3.cell? ⟨w.heap.size, 3, none⟩ = some (.bool false) := QT3.out.b0.cell (k := 3) rfl
  have k1 : W3.cell? ⟨w.heap.size, 1, none⟩ = some (.slice (some ⟨b, o, none⟩) 1 cap) := QT3.out.b0.cell (k := 1) rfl
  have QN3 : Hid (w.heap.size + 1 + 1 + 1 < W3.heap.size) := Lib.hid QM3.out.lt
  have QA3 : Hid (Below W3.heap.size W3 (W3.alloc (.cells f.cells 57))) := Lib.hid ((Below.refl _ _).alloc (Nat.le_refl _) _)
  have QF3 : Hid ((W3.alloc (.cells f.cells 57)).rangeAt W3.heap.size 0 f.cells.toList) := Lib.hid (HB.range (t := 57) (heap_alloc_new _ _))
  clear hb q0 q1 q2 q3 q4 q5 q6
  go_wp2_with (first
    | (refine wp_app0 rfl (.tmp 28) (.tmp 32) rfl rfl ⟨b, o, none⟩ _ rfl ?_)
    | (refine wp_ldf rfl (.tmp 4) rfl (w.heap.size + 1) rfl f QT3.out.b1.range ?_)
    | (refine wp_bs36 rfl (.tmp 35) rfl f rfl ?_)
    | (refine wp_app1 rfl (.tmp 34) (.tmp 36) rfl rfl W3.heap.size 1 rfl f QF3.out ?_; intro W4 nb ncap hb q1 q2 q3 q4; have QT4 := Lib.hid ((QT3.out.below QA3.out).below hb); have QM4 := Lib.hid ((QM3.out.below QA3.out).below hb); have QR4 := Lib.hid q4; have HNB : Hid (w.heap.size + 1 + 1 + 1 < nb) := Lib.hid (by have := QN3.out; have : W3.heap.size ≤ (W3.alloc (.cells f.cells 57)).heap.size := QA3.out.size; omega); clear hb q1 q4 k1 k3)
    | (refine wp_cell rfl 36 (.tmp 39) (.tmp 38) rfl Try.sizeOf36 w.heap.size 1 _ rfl rfl (.inr (.inr ⟨_, _, _, rfl⟩)) _ 38 QT4.out.b0 (show (1 : Nat) < 4 by omega) ?_; intro W5 hb ho hF hs; have QT5 : Hid (T3 w W5 w.heap.size (tkC c (.slice (some ⟨nb, 0, none⟩) 1 ncap) (.slice gao gn gcap) false) 38 f.cells (acC k a bb v 0 (.slice ao 0 ac))) := Lib.hid (QT4.out.upd0 hb ho hF); have QM5 := Lib.hid (QM4.out.oth (ho _ (by omega))); have QR5 : Hid (W5.rangeAt nb 0 f.cells.toList) := Lib.hid (fun j u hu => (World.cell?_of_block (ho nb (by have := HNB.out; omega))).trans (QR4.out j u hu)); clear hb ho hF hs)
    | (refine wp_lda rfl (.tmp 5) rfl (w.heap.size + 1 + 1) rfl _ rfl QT5.out.b2 ?_))
  refine (HT.out _).mono ?_
  rintro e W6 ⟨rfl, hb⟩
  have QT6 := Lib.hid (QT5.out.below hb)
  have QM6 := Lib.hid (QM5.out.below hb)
  have QR6 : Hid (W6.rangeAt nb 0 f.cells.toList) := Lib.hid (fun j u hu => (hb.cell (World.block_lt_of_cell? _ _ (QR5.out j u hu))).trans (QR5.out j u hu))
  clear hb
  go_wp2_with (first
    | (refine wp_ld38 rfl (.tmp 3) rfl w.heap.size 0 rfl _ rfl QT6.out.b0.range ?_)
    | (refine wp_st38 rfl (.tmp 6) (.tmp 42) rfl (w.heap.size + 1 + 1 + 1) c (some ⟨nb, 0, none⟩) 1 ncap gao gn gcap false rfl rfl _ QM6.out rfl ?_; intro W7 hb ho hF hs; have QT7 := Lib.hid (QT6.out.oth (by omega) hb ho); have QM7 := Lib.hid hF; have QR7 : Hid (W7.rangeAt nb 0 f.cells.toList) := Lib.hid (fun j u hu => (World.cell?_of_block (ho nb (by have := HNB.out; omega))).trans (QR6.out j u hu)); clear hb ho hF hs))
  (try simp only [Exit.inBlock, Exit.then])
  refine bodyPost_ret (res_ctt rfl _ _ _ _ _ _ rfl rfl rfl (QM7.out.load38 rfl)) rfl ?_
  refine ⟨⟨_, rfl, nb, 0, ncap, gao, gn, gcap, rfl, q2, q3, HP.out _ (by have := HNB.out; omega), QR7.out, ?_⟩, QT7.out.bel⟩
  rcases H5.out with h5 | ⟨gb, go, e1, e2, e3, e4⟩
  · exact .inl h5
  · exact .inr ⟨gb, go, e1, e2, e3, (QT7.out.bel.cell (World.block_lt_of_cell? _ _ e4)).trans e4⟩
set_option maxHeartbeats 2000000 in
set_option maxRecDepth 100000 in
theorem take_end {P : Nat → Prop} {C : Array Value} {c : Int} {f0 f : Fr} {x : Int} (w : World) (hP : ∀ b, w.heap.size ≤ b → P b) (hc : 0 ≤ c ∧ c < 4) (h : Live P w C c f0 x) (k a bb v : Int) (ao : Option Addr) (l : List Int) (B ac : Nat) (hOk : OkA k a bb v l.length) (hk : k = 7) (hI : Ints B w (.slice ao l.length ac) l) :
    Calls Try.prog 72 #[.agg C, .agg f.cells, .agg (acC k a bb v 0 (.slice ao l.length ac))] w fun e w' => (∃ C', e = .returned (.tuple #[.agg C', .bool false, .int .i64 0]) ∧ Dead P w' C' c l) ∧ Below w.heap.size w w' := by
  have hl96 : l.length ≤ 96 := by rcases hOk with h | h | h | h <;> omega
  obtain ⟨b, o, cap, gao, gn, gcap, rfl, h1, h2, h3, h4, h5⟩ := h
  have hgn : gn ≤ 1 := by rcases h5 with ⟨_, h, _⟩ | ⟨_, _, _, h, _⟩ <;> omega
  have HM := Lib.hid (fun w => may_task c b o cap gao gn gcap w hc hgn)
  have HA := Lib.hid (fun w => may_act k a bb v ao l.length ac w hOk)
  have HT := Lib.hid (fun w => atomic_p k a bb v ao l.length ac w hOk false (by subst hk; rfl))
  have H5 := Lib.hid h5
  have HP := Lib.hid hP
  have QT0 := Lib.hid (T3.start w (tkC c (.slice (some ⟨b, o, none⟩) 1 cap) (.slice gao gn gcap) false) 38 f.cells (acC k a bb v 0 (.slice ao l.length ac)))
  have QS0 : Hid ((((w.alloc (.cells (tkC c (.slice (some ⟨b, o, none⟩) 1 cap) (.slice gao gn gcap) false) 38)).alloc (.cells f.cells 57)).alloc (.cells (acC k a bb v 0 (.slice ao l.length ac)) 59)).heap.size = w.heap.size + 1 + 1 + 1) := Lib.hid (by simp)
  have HI := Lib.hid hI; have hn1 : ((0 : Int) == 0) = true := rfl
  have hk6 : (k == 6) = false := by simp; omega
  clear h4 h5 hP hc hgn hOk hk hI
  go_enter Try.func72, Try.ntmps72
  go_wp2_with (first
    | (refine wp_al38 rfl rfl ?_; intro W1 hb hF hs; rw [QS0.out] at hF; have QM1 := Lib.hid hF; have QT1 := Lib.hid (QT0.out.below hb); clear hb hF hs)
    | (refine wp_ld38 rfl (.tmp 3) rfl w.heap.size 0 rfl _ rfl QT1.out.b0.range ?_))
  refine (HM.out _).mono ?_
  rintro e W2 ⟨rfl, hb⟩
  have QT2 := Lib.hid (QT1.out.below hb)
  have QM2 := Lib.hid (QM1.out.below hb)
  have q0 : W2.cell? ⟨w.heap.size + 1 + 1, 0, none⟩ = some (.int .i8 k) := QT2.out.b2.cell (k := 0) rfl
  have q1 : W2.cell? ⟨w.heap.size + 1 + 1, 1, none⟩ = some (.int .i64 a) := QT2.out.b2.cell (k := 1) rfl
  have q2 : W2.cell? ⟨w.heap.size + 1 + 1, 2, none⟩ = some (.int .i64 bb) := QT2.out.b2.cell (k := 2) rfl
  have q3 : W2.cell? ⟨w.heap.size + 1 + 1, 3, none⟩ = some (.int .i64 v) := QT2.out.b2.cell (k := 3) rfl
  have q4 : W2.cell? ⟨w.heap.size + 1 + 1, 4, none⟩ = some (.int .i64 0) := QT2.out.b2.cell (k := 4) rfl
  have q5 : W2.cell? ⟨w.heap.size + 1 + 1, 5, none⟩ = some (.string ByteArray.empty) := QT2.out.b2.cell (k := 5) rfl
  have q6 : W2.cell? ⟨w.heap.size + 1 + 1, 6, none⟩ = some (.slice ao l.length ac) := QT2.out.b2.cell (k := 6) rfl
  clear hb
  go_wp2_with fail
  refine (HA.out _).mono ?_
  rintro e W3 ⟨rfl, hb⟩
  have QT3 := Lib.hid (QT2.out.below hb)
  have QM3 := Lib.hid (QM2.out.below hb)
  have k3 : W3.cell? ⟨w.heap.size, 3, none⟩ = some (.bool false) := QT3.out.b0.cell (k := 3) rfl
  have k1 : W3.cell? ⟨w.heap.size, 1, none⟩ = some (.slice (some ⟨b, o, none⟩) 1 cap) := QT3.out.b0.cell (k := 1) rfl
  have QN3 : Hid (w.heap.size + 1 + 1 + 1 < W3.heap.size) := Lib.hid QM3.out.lt
  have QA3 : Hid (Below W3.heap.size W3 (W3.alloc (.cells f.cells 57))) := Lib.hid ((Below.refl _ _).alloc (Nat.le_refl _) _)
  have QF3 : Hid ((W3.alloc (.cells f.cells 57)).rangeAt W3.heap.size 0 f.cells.toList) := Lib.hid (HB.range (t := 57) (heap_alloc_new _ _))
  clear hb q0 q1 q2 q3 q4 q5 q6
  go_wp2_with (first
    | (refine wp_app0 rfl (.tmp 28) (.tmp 32) rfl rfl ⟨b, o, none⟩ _ rfl ?_)
    | (refine wp_ldf rfl (.tmp 4) rfl (w.heap.size + 1) rfl f QT3.out.b1.range ?_)
    | (refine wp_bs36 rfl (.tmp 35) rfl f rfl ?_)
    | (refine wp_app1 rfl (.tmp 34) (.tmp 36) rfl rfl W3.heap.size 1 rfl f QF3.out ?_; intro W4 nb ncap hb q1 q2 q3 q4; have QT4 := Lib.hid ((QT3.out.below QA3.out).below hb); have QM4 := Lib.hid ((QM3.out.below QA3.out).below hb); have QR4 := Lib.hid q4; have HNB : Hid (w.heap.size + 1 + 1 + 1 < nb) := Lib.hid (by have := QN3.out; have : W3.heap.size ≤ (W3.alloc (.cells f.cells 57)).heap.size := QA3.out.size; omega); clear hb q1 q4 k1 k3)
    | (refine wp_cell rfl 36 (.tmp 39) (.tmp 38) rfl Try.sizeOf36 w.heap.size 1 _ rfl rfl (.inr (.inr ⟨_, _, _, rfl⟩)) _ 38 QT4.out.b0 (show (1 : Nat) < 4 by omega) ?_; intro W5 hb ho hF hs; have QT5 : Hid (T3 w W5 w.heap.size (tkC c (.slice (some ⟨nb, 0, none⟩) 1 ncap) (.slice gao gn gcap) false) 38 f.cells (acC k a bb v 0 (.slice ao l.length ac))) := Lib.hid (QT4.out.upd0 hb ho hF); have QM5 := Lib.hid (QM4.out.oth (ho _ (by omega))); have QR5 : Hid (W5.rangeAt nb 0 f.cells.toList) := Lib.hid (fun j u hu => (World.cell?_of_block (ho nb (by have := HNB.out; omega))).trans (QR4.out j u hu)); clear hb ho hF hs)
    | (refine wp_lda rfl (.tmp 5) rfl (w.heap.size + 1 + 1) rfl _ rfl QT5.out.b2 ?_))
  refine (HT.out _).mono ?_
  rintro e W6 ⟨rfl, hb⟩
  have QT6 := Lib.hid (QT5.out.below hb)
  have QM6 := Lib.hid (QM5.out.below hb)
  have QR6 : Hid (W6.rangeAt nb 0 f.cells.toList) := Lib.hid (fun j u hu => (hb.cell (World.block_lt_of_cell? _ _ (QR5.out j u hu))).trans (QR5.out j u hu))
  clear hb
  have k0 : W6.cell? ⟨w.heap.size + 1 + 1, 0, none⟩ = some (.int .i8 k) := QT6.out.b2.cell (k := 0) rfl
  go_wp2_with (first
    | (refine wp_cell rfl 36 (.tmp 65) (.tmp 64) rfl Try.sizeOf36 w.heap.size 1 _ rfl rfl (.inr (.inr ⟨_, _, _, rfl⟩)) _ 38 QT6.out.b0 (show (1 : Nat) < 4 by omega) ?_; intro W7 hb ho hF hs; have QT7 : Hid (T3 w W7 w.heap.size (tkC c (.slice (some ⟨nb, 0, none⟩) 0 ncap) (.slice gao gn gcap) false) 38 f.cells (acC k a bb v 0 (.slice ao l.length ac))) := Lib.hid (QT6.out.upd0 hb ho hF); have QM7 := Lib.hid (QM6.out.oth (ho _ (by omega))); clear hb ho hF hs)
    | (refine wp_cell rfl 30 (.tmp 66) (.const (.slice none 0 0)) rfl Try.sizeOf30 w.heap.size 2 _ rfl rfl (.inr (.inr ⟨_, _, _, rfl⟩)) _ 38 QT7.out.b0 (show (2 : Nat) < 4 by omega) ?_; intro W8 hb ho hF hs; have QT8 : Hid (T3 w W8 w.heap.size (tkC c (.slice (some ⟨nb, 0, none⟩) 0 ncap) (.slice none 0 0) false) 38 f.cells (acC k a bb v 0 (.slice ao l.length ac))) := Lib.hid (QT7.out.upd0 hb ho hF); have QM8 := Lib.hid (QM7.out.oth (ho _ (by omega))); have j2 : W8.cell? ⟨w.heap.size, 2, none⟩ = some (.slice none 0 0) := QT8.out.b0.cell (k := 2) rfl; have j6 : W8.cell? ⟨w.heap.size + 1 + 1, 6, none⟩ = some (.slice ao l.length ac) := QT8.out.b2.cell (k := 6) rfl; clear hb ho hF hs)
    | (refine wp_appI rfl (.tmp 68) (.tmp 70) rfl rfl ao l.length ac rfl l 0 ((HI.out.low (Nat.zero_le _)).below QT8.out.bel) (by omega) ?_; intro W9 ao9 c9 hb hI9 hc9; have QT9 := Lib.hid (QT8.out.below hb); have QM9 := Lib.hid (QM8.out.below hb); have QI9 := Lib.hid (hI9.low (B' := w.heap.size + 1 + 1 + 1 + 1) QM8.out.lt); clear hb hI9 j2 j6 k0)
    | (refine wp_cell rfl 30 (.tmp 72) (.tmp 71) rfl Try.sizeOf30 w.heap.size 2 _ rfl rfl (.inr (.inr ⟨_, _, _, rfl⟩)) _ 38 QT9.out.b0 (show (2 : Nat) < 4 by omega) ?_; intro W10 hb ho hF hs; have QT10 : Hid (T3 w W10 w.heap.size (tkC c (.slice (some ⟨nb, 0, none⟩) 0 ncap) (.slice ao9 l.length c9) false) 38 f.cells (acC k a bb v 0 (.slice ao l.length ac))) := Lib.hid (QT9.out.upd0 hb ho hF); have QM10 := Lib.hid (QM9.out.oth (ho _ (by omega))); have QI10 := Lib.hid (QI9.out.keepo (fun b hb => ho b (by omega))); clear hb ho hF hs)
    | (refine wp_cell rfl 4 (.tmp 75) (.tmp 74) rfl Try.sizeOf4 w.heap.size 3 (.bool true) rfl rfl (.inr (.inl ⟨_, rfl⟩)) _ 38 QT10.out.b0 (show (3 : Nat) < 4 by omega) ?_; intro W11 hb ho hF hs; have QT11 : Hid (T3 w W11 w.heap.size (tkC c (.slice (some ⟨nb, 0, none⟩) 0 ncap) (.slice ao9 l.length c9) true) 38 f.cells (acC k a bb v 0 (.slice ao l.length ac))) := Lib.hid (QT10.out.upd0 hb ho hF); have QM11 := Lib.hid (QM10.out.oth (ho _ (by omega))); have QI11 := Lib.hid (QI10.out.keepo (fun b hb => ho b (by omega))); clear hb ho hF hs)
    | (refine wp_ld38 rfl (.tmp 3) rfl w.heap.size 0 rfl _ rfl QT11.out.b0.range ?_)
    | (refine wp_st38 rfl (.tmp 6) (.tmp 76) rfl (w.heap.size + 1 + 1 + 1) c (some ⟨nb, 0, none⟩) 0 ncap ao9 l.length c9 true rfl rfl _ QM11.out rfl ?_; intro W12 hb ho hF hs; have QT12 := Lib.hid (QT11.out.oth (by omega) hb ho); have QM12 := Lib.hid hF; have QI12 := Lib.hid (QI11.out.keepo (fun b hb => ho b (by omega))); clear hb ho hF hs))
  (try simp only [Exit.inBlock, Exit.then])
  refine bodyPost_ret (res_ctt rfl _ _ _ _ _ _ rfl rfl rfl (QM12.out.load38 rfl)) rfl ?_
  refine ⟨⟨_, rfl, _, _, _, rfl, ao9, c9, rfl, ?_, hc9, ?_⟩, QT12.out.bel⟩
  · obtain ⟨_, _, e, h, _⟩ := QI12.out
    injection e with e1 e2 e3
    omega
  · intro i z hz
    obtain ⟨_, _, e, _, h⟩ := QI12.out
    injection e with e1 e2 e3
    subst e1
    obtain ⟨b, off, e1, e2, e3⟩ := h i z hz
    exact ⟨b, off, e1, HP.out _ (by omega), e3⟩
end Go.Proofs.Ytgpdknacnmapiaa
