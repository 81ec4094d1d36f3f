/-
  Parts of a proof, put together: Wk, Lv, Sp, Pn, Sw.
-/
import Derived.Test.YtgpdknacnmapiaaZj01
import Derived.Test.YtgpdknacnmapiaaZj02
import Derived.Test.YtgpdknacnmapiaaZj03
import Derived.Test.YtgpdknacnmapiaaZj04
import Derived.Test.YtgpdknacnmapiaaZj05
import Derived.Test.YtgpdknacnmapiaaZj06
import Derived.Test.YtgpdknacnmapiaaZj07
import Derived.Test.YtgpdknacnmapiaaZj08
import Derived.Test.YtgpdknacnmapiaaZj09
import Derived.Test.YtgpdknacnmapiaaZj10
import Derived.Test.YtgpdknacnmapiaaZj11
import Derived.Test.YtgpdknacnmapiaaZj12
import Derived.Test.YtgpdknacnmapiaaZj13
import Derived.Test.YtgpdknacnmapiaaZj14
import Derived.Test.YtgpdknacnmapiaaZj15
import Derived.Test.YtgpdknacnmapiaaZj16
import Derived.Test.YtgpdknacnmapiaaZj17
import Derived.Test.YtgpdknacnmapiaaZj18
import Derived.Test.YtgpdknacnmapiaaZj19
import Derived.Test.YtgpdknacnmapiaaZj20
import Derived.Test.YtgpdknacnmapiaaZj21
import Derived.Test.YtgpdknacnmapiaaZj22
import Derived.Test.YtgpdknacnmapiaaZj23
import Derived.Deep.QuietTactic
namespace Go.Proofs.Ytgpdknacnmapiaa
set_option linter.unusedVariables false
set_option linter.unusedSimpArgs false
open Go.RowKit
def r02 : Nat → Int := fun k => if k = 1 then 2 else 0
def C55 : Array Value := (Array.range 96).map fun i => .int .i64 (r02 i)
def Fw : Fr := ⟨56, 0, r02⟩
set_option maxRecDepth 100000 in
theorem bl55 (w : World) : (Instr.build 55 #[(0, .int .i64 0), (1, .int .i64 2)]).run Try.prog w = .ok (.agg C55) w := by kernel_rfl
set_option maxRecDepth 100000 in
theorem bl57 (w : World) : (Instr.build 57 #[(0, .int .i8 56), (2, .agg C55)]).run Try.prog w = .ok (.agg Fw.cells) w := by kernel_rfl
theorem Fw_inv : Inv Fw 0 := ⟨.inl rfl, .inl rfl, fun e => by have : (56 : Int) = 57 := e; omega, fun _ e => by have : (0 : Int) = 1 := e; omega, by decide, by decide, .inl rfl, by decide, by decide⟩
def F1 : Fr := Fw.at_ 1
def F2 : Fr := (F1.at_ 2).reg 4 256
theorem nx1 : nextG Fw 0 = ⟨F1, 0, 99, 0, []⟩ := by
  unfold nextG; rw [if_pos (show Fw.pg = 56 from rfl)]; unfold nextR; rw [if_pos (show Fw.st = 0 from rfl)]; unfold lookR
  have e : lookC Fw = 99 := by decide
  rw [if_neg (by decide), e, if_neg (by decide)]; rfl
theorem nx2 : nextG F1 0 = ⟨F2, 1, 99, 3, []⟩ := by
  have e : lookC F1 = 99 := by decide
  have e2 : aft (0 / 2) * 256 + slotOf F1 = 256 := by decide
  have e3 : aft (0 / 2) * 2 + 1 = 3 := by decide
  unfold nextG; rw [if_pos (show F1.pg = 56 from rfl)]; unfold nextR; rw [if_neg (by decide), if_pos (show F1.st = 1 from rfl), if_neg (by decide), e, e2, e3]; rfl
theorem nx3 : nextG F2 0 = ⟨F2, 7, 0, 0, [0, 256]⟩ := by
  unfold nextG; rw [if_pos (show F2.pg = 56 from rfl)]; unfold nextR; rw [if_neg (by decide), if_neg (by decide)]; rfl
theorem F1_inv : Inv F1 1 := by have := Fw_inv.next (by omega) 0 (by omega) (by rw [nx1]; decide); rw [nx1] at this; exact this
theorem F2_inv : Inv F2 2 := by have := F1_inv.next (by omega) 0 (by omega) (by rw [nx2]; decide); rw [nx2] at this; exact this
theorem got_one (w : World) (x : Int) : GotV (w.alloc (.cells #[.int .i64 x] 3)) (.slice (some ⟨w.heap.size, 0, none⟩) 1 1) x := .inr ⟨_, _, rfl, by simp [go_sem]⟩
theorem wp_b55 {ops : Array Oper} {rest : List Oper} {o : Oper} {a : Act} {w : World} {Q : Exit → Act → World → Prop} (hg : o.guard = none) (ho : o.op = .build 55 #[(0, .const (.int .i64 0)), (1, .const (.int .i64 2))]) (C : Array Value) (hC : ∀ w, (Instr.build 55 #[(0, .int .i64 0), (1, .int .i64 2)]).run Try.prog w = .ok (.agg C) w) (h : wpList Try.prog ops Q rest (a.put o.dst (.agg C)) w) : wpList Try.prog ops Q (o :: rest) a w := by
  refine wpList_plain hg fun K hK => ?_
  unfold Oper.wp execOp
  simp only [ho]
  simp [hC, Sem.run_bind, Act.eval]
  exact hK _ _ h
theorem wp_b57 {ops : Array Oper} {rest : List Oper} {o : Oper} {a : Act} {w : World} {Q : Exit → Act → World → Prop} (hg : o.guard = none) (x : Operand) (ho : o.op = .build 57 #[(0, .const (.int .i8 56)), (2, x)]) (C : Array Value) (hx : a.eval x = .agg C) (F : Fr) (hC : ∀ w, (Instr.build 57 #[(0, .int .i8 56), (2, .agg C)]).run Try.prog w = .ok (.agg F.cells) w) (h : wpList Try.prog ops Q rest (a.put o.dst (.agg F.cells)) w) : wpList Try.prog ops Q (o :: rest) a w := by
  refine wpList_plain hg fun K hK => ?_
  unfold Oper.wp execOp
  simp only [ho]
  have e : a.eval (.const (.int .i8 56)) = .int .i8 56 := rfl
  simp [hx, e, hC, Sem.run_bind]
  exact hK _ _ h
set_option maxHeartbeats 4000000 in
set_option maxRecDepth 100000 in
theorem wakes_main (C : Array Value) (Fw F1 F2 : Fr) (hC : ∀ w, (Instr.build 55 #[(0, .int .i64 0), (1, .int .i64 2)]).run Try.prog w = .ok (.agg C) w) (hW : ∀ w, (Instr.build 57 #[(0, .int .i8 56), (2, .agg C)]).run Try.prog w = .ok (.agg Fw.cells) w)
    (hA : ∀ v w, GotV w v 0 → Calls Try.prog 19 #[.agg Fw.cells, v] w fun e w' => Ans w w' e ⟨F1, 0, 99, 0, []⟩ ∧ Below w.heap.size w w')
    (hB : ∀ v w, GotV w v 0 → Calls Try.prog 19 #[.agg F1.cells, v] w fun e w' => Ans w w' e ⟨F2, 1, 99, 3, []⟩ ∧ Below w.heap.size w w')
    (hD : ∀ v w, GotV w v 0 → Calls Try.prog 19 #[.agg F2.cells, v] w fun e w' => Ans w w' e ⟨F2, 7, 0, 0, [0, 256]⟩ ∧ Below w.heap.size w w')
    (w : World) : Calls Try.prog 18 #[] w fun e w' => e = .returned (.bool true) ∧ Below w.heap.size w w' := by
  have HA := Lib.hid hA
  have HB := Lib.hid hB
  have HC := Lib.hid hD
  have H55 := Lib.hid hC
  have H57 := Lib.hid hW
  clear hA hB hD hC hW
  go_enter Try.func18, Try.ntmps18
  go_wp2_with (first
    | (refine wp_b55 rfl rfl C H55.out ?_)
    | (refine wp_b57 rfl (.tmp 7) rfl C rfl Fw H57.out ?_))
  refine (HA.out _ _ (.inl ⟨rfl, rfl⟩)).mono ?_
  rintro e w1 ⟨⟨ao, n, c, rfl, hi⟩, hb1⟩
  clear hi
  have HB1 := Lib.hid hb1
  clear hb1
  go_wp2_with (first
    | (refine wp_al57g rfl rfl ?_; intro W2 hb hF; have HB2 := Lib.hid (HB1.out.trans (hb.mono HB1.out.size)); have HF2 := Lib.hid hF; clear hb hF)
    | (refine wp_al59g rfl rfl ?_; intro W3 hb hA; have HB3 := Lib.hid (HB2.out.trans (hb.mono HB2.out.size)); have HF3 := Lib.hid (HF2.out.below hb); have HA3 := Lib.hid hA; clear hb hA)
    | (refine wp_stfg rfl (.tmp 1) (.tmp 10) rfl w1.heap.size F1 rfl rfl Fr.zero HF3.out ?_; intro W4 hb ho hF hs; have HB4 := Lib.hid (HB3.out.trans (hb _ HB1.out.size)); have HF4 := Lib.hid hF; have HA4 := Lib.hid (HA3.out.oth (ho _ (Nat.ne_of_gt HF2.out.lt))); clear hb ho hF hs)
    | (refine wp_stag rfl (.tmp 2) (.tmp 11) rfl W2.heap.size 0 99 0 0 0 ao n c rfl rfl acZ HA4.out rfl ?_; intro W5 hb ho hA hs; have HB5 := Lib.hid (HB4.out.trans (hb _ HB2.out.size)); have HF5 := Lib.hid (HF4.out.oth (ho _ (Nat.ne_of_lt HF2.out.lt))); have HA5 := Lib.hid hA; clear hb ho hA hs)
    | (refine wp_ldf rfl (.tmp 1) rfl w1.heap.size rfl F1 HF5.out.range ?_))
  have HN6 := Lib.hid (below_one W5 0)
  refine (HB.out _ _ (got_one W5 0)).mono ?_
  rintro e W6 ⟨⟨ao2, n2, c2, rfl, hi⟩, hb⟩
  clear hi
  have HB6 := Lib.hid (HB5.out.trans ((HN6.out.trans (hb.mono HN6.out.size)).mono HB5.out.size))
  have HF6 := Lib.hid ((HF5.out.below HN6.out).below hb)
  have HA6 := Lib.hid ((HA5.out.below HN6.out).below hb)
  clear hb
  go_wp2_with (first
    | (refine wp_al59g rfl rfl ?_; intro W7 hb hA; have HB7 := Lib.hid (HB6.out.trans (hb.mono HB6.out.size)); have HF7 := Lib.hid (HF6.out.below hb); have HA7 := Lib.hid (HA6.out.below hb); have HC7 := Lib.hid hA; clear hb hA)
    | (refine wp_stfg rfl (.tmp 1) (.tmp 16) rfl w1.heap.size F2 rfl rfl F1 HF7.out ?_; intro W8 hb ho hF hs; have HB8 := Lib.hid (HB7.out.trans (hb _ HB1.out.size)); have HF8 := Lib.hid hF; have HA8 := Lib.hid (HA7.out.oth (ho _ (Nat.ne_of_gt HF2.out.lt))); have HC8 := Lib.hid (HC7.out.oth (ho _ (Nat.ne_of_gt HF6.out.lt))); clear hb ho hF hs)
    | (refine wp_stag rfl (.tmp 3) (.tmp 17) rfl W6.heap.size 1 99 0 3 0 ao2 n2 c2 rfl rfl acZ HC8.out rfl ?_; intro W9 hb ho hA hs; have HB9 := Lib.hid (HB8.out.trans (hb _ HB6.out.size)); have HF9 := Lib.hid (HF8.out.oth (ho _ (Nat.ne_of_lt HF6.out.lt))); have HA9 := Lib.hid (HA8.out.oth (ho _ (Nat.ne_of_lt HA6.out.lt))); have HC9 := Lib.hid hA; clear hb ho hA hs)
    | (refine wp_ldf rfl (.tmp 1) rfl w1.heap.size rfl F2 HF9.out.range ?_))
  have HN9 := Lib.hid (below_one W9 0)
  refine (HC.out _ _ (got_one W9 0)).mono ?_
  rintro e X1 ⟨⟨ao3, n3, c3, rfl, hi⟩, hb⟩
  have HX1 := Lib.hid (HB9.out.trans ((HN9.out.trans (hb.mono HN9.out.size)).mono HB9.out.size))
  have HI := Lib.hid hi
  have HAx := Lib.hid ((HA9.out.below HN9.out).below hb)
  have HCx := Lib.hid ((HC9.out.below HN9.out).below hb)
  clear hb hi
  obtain ⟨ao4, n4, h4, h5, h6⟩ := HI.out
  obtain ⟨b5, o5, h7, h8, h9⟩ := h6 1 256 rfl
  subst h7
  simp only [Value.slice.injEq] at h4
  obtain ⟨h40, h41, h42⟩ := h4
  simp only [List.length_cons, List.length_nil] at h41
  subst h40 h41 h42
  have HE := Lib.hid h9
  have h10 : 2 ≤ c3 := h5
  have HL5 : Hid (b5 < X1.heap.size) := Lib.hid (World.block_lt_of_cell? _ _ h9)
  clear h6 h8 h9 h5
  go_wp2_with (first
    | (refine wp_al57g rfl rfl ?_; intro X2 hb hF; have HX2 := Lib.hid (HX1.out.trans (hb.mono HX1.out.size)); have HY2 := Lib.hid hF; have HAx2 := Lib.hid (HAx.out.below hb); have HCx2 := Lib.hid (HCx.out.below hb); have HE2 := Lib.hid ((hb.cell HL5.out).trans HE.out); clear hb hF)
    | (refine wp_al59g rfl rfl ?_; intro X3 hb hF; have HX3 := Lib.hid (HX2.out.trans (hb.mono HX2.out.size)); have HY3 := Lib.hid (HY2.out.below hb); have HZ3 := Lib.hid hF; have HAx3 := Lib.hid (HAx2.out.below hb); have HCx3 := Lib.hid (HCx2.out.below hb); have HE3 := Lib.hid ((hb.cell (World.block_lt_of_cell? _ _ HE2.out)).trans HE2.out); clear hb hF)
    | (refine wp_stfg rfl (.tmp 4) (.tmp 22) rfl X1.heap.size F2 rfl rfl Fr.zero HY3.out ?_; intro X4 hb ho hF hs; have HX4 := Lib.hid (HX3.out.trans (hb _ HX1.out.size)); have HZ4 := Lib.hid (HZ3.out.oth (ho _ (Nat.ne_of_gt HY2.out.lt))); have HAx4 := Lib.hid (HAx3.out.oth (ho _ (Nat.ne_of_lt HAx.out.lt))); have HCx4 := Lib.hid (HCx3.out.oth (ho _ (Nat.ne_of_lt HCx.out.lt))); have HE4 := Lib.hid ((World.cell?_of_block (ho _ (Nat.ne_of_lt HL5.out))).trans HE3.out); clear hb ho hF hs)
    | (refine wp_stag rfl (.tmp 5) (.tmp 23) rfl X2.heap.size 7 0 0 0 0 (some ⟨b5, o5, none⟩) 2 c3 rfl rfl acZ HZ4.out rfl ?_; intro X5 hb ho hF hs; have HX5 := Lib.hid (HX4.out.trans (hb _ HX2.out.size)); have HZ5 := Lib.hid hF; have HAx5 := Lib.hid (HAx4.out.oth (ho _ (Nat.ne_of_lt HAx2.out.lt))); have HCx5 := Lib.hid (HCx4.out.oth (ho _ (Nat.ne_of_lt HCx2.out.lt))); have HE5 := Lib.hid ((World.cell?_of_block (ho _ (Nat.ne_of_lt (World.block_lt_of_cell? _ _ HE2.out)))).trans HE4.out); have k20 := HAx5.out.cell (k := 0) (v := .int .i8 0) rfl; have k21 := HAx5.out.cell (k := 1) (v := .int .i64 99) rfl; have k30 := HCx5.out.cell (k := 0) (v := .int .i8 1) rfl; have k31 := HCx5.out.cell (k := 1) (v := .int .i64 99) rfl; have k33 := HCx5.out.cell (k := 3) (v := .int .i64 3) rfl; have k50 := HZ5.out.cell (k := 0) (v := .int .i8 7) rfl; have k56 := HZ5.out.cell (k := 6) (v := .slice (some ⟨b5, o5, none⟩) 2 c3) rfl; have k57 := HE5.out; clear hb ho hF hs))
  go_ret
  exact ⟨rfl, HX5.out⟩
theorem wakes14 (w : World) : Calls Try.prog 18 #[] w fun e w' => e = .returned (.bool true) ∧ Below w.heap.size w w' := by
  refine wakes_main C55 Fw F1 F2 bl55 bl57 (fun v w hg => ?_) (fun v w hg => ?_) (fun v w hg => ?_) w
  · have := Fw_inv.next_p (by omega) 0 (by omega) v w hg
    rw [nx1] at this; exact this
  · have := F1_inv.next_p (by omega) 0 (by omega) v w hg
    rw [nx2] at this; exact this
  · have := F2_inv.next_p (by omega) 0 (by omega) v w hg
    rw [nx3] at this; exact this
end Go.Proofs.Ytgpdknacnmapiaa
namespace Go.Proofs.Ytgpdknacnmapiaa
set_option linter.unusedVariables false
set_option linter.unusedSimpArgs false
open Go.RowKit
theorem field_p (h : Int) (w : World) (hh : 0 ≤ h ∧ h ≤ 1000000) : Calls Try.prog 88 #[.int .i64 h, .int .i64 8, .int .i64 12] w fun e w' => e = .returned (.int .i64 (h / 256 % 4096)) ∧ ∃ n, w' = w.drewN n := by
  have h1 : decide (h < 0) = false := by simp; omega
  have h2 : decide ((1099510841343 : Int) < h) = false := by simp; omega
  have ea := and_4095 (h / 256)
  clear hh
  go_enter Try.func88, Try.ntmps88
  go_wp2_with fail
  go_quiet (fail)
  go_wp2_with fail
  go_ret
  exact ⟨rfl, _, rfl⟩
theorem gen_p (g s : Int) (w : World) (hg : 1 ≤ g ∧ g ≤ 1023) (hs : 0 ≤ s ∧ s ≤ 255) : Calls Try.prog 57 #[.int .i64 (g * 256 + s)] w fun e w' => e = .returned (.int .i64 g) ∧ ∃ n, w' = w.drewN n := by
  have HF := Lib.hid (fun w => field_p (g * 256 + s) w ⟨by omega, by omega⟩)
  have e : (g * 256 + s) / 256 % 4096 = g := by omega
  rw [e] at HF
  clear hg hs e
  generalize g * 256 + s = h at *
  go_enter Try.func57, Try.ntmps57
  go_wp2_with fail
  refine (HF.out _).mono ?_
  rintro e W ⟨rfl, n, rfl⟩
  go_wp2_with fail
  go_ret
  exact ⟨rfl, _, rfl⟩
set_option maxHeartbeats 1000000 in
theorem live_p {P : Nat → Prop} {cv : Value} {l : List Int} (g s : Int) (node : Bool) (k : Nat) (y : Int) (w : World) (hg : 1 ≤ g ∧ g ≤ 1023) (hs : 0 ≤ s ∧ s ≤ 255) (hk : genC s node = (k : Int)) (hC : CellsV P w cv l) (hy : l[k]? = some y) :
    Calls Try.prog 26 #[cv, .int .i64 (g * 256 + s), .bool node] w fun e w' => e = .returned (.bool (y == g * 2 + 1)) ∧ ∃ n, w' = w.drewN n := by
  have HC1 := Lib.hid (fun w => cell_p (g * 256 + s) node w ⟨by omega, by omega⟩)
  have e1 : (g * 256 + s) % 256 = s := by omega
  rw [e1, hk] at HC1
  have HG := Lib.hid (fun w => gen_p g s w hg hs)
  have e2 : (g * 256 + s) / 256 = g := by omega
  have g1 : decide ((0 : Int) < g) = true := by simp; omega
  have g2 : decide (g ≤ (1023 : Int)) = true := by simp; omega
  have k1 : decide ((0 : Int) ≤ (k : Int)) = true := by simp
  obtain ⟨b, o, cap, rfl, -, hl, hc, -⟩ := hC
  have c1 := hc k y hy
  have hk7 : k < 771 := by have := (List.getElem?_eq_some_iff.1 hy).1; omega
  have eg : (g == g) = true := by simp
  obtain ⟨hg1, hg2⟩ := hg
  clear hs hk hl hc hy e1
  generalize g * 256 + s = h at *
  go_enter Try.func26, Try.ntmps26
  go_wp2_with fail
  refine (HC1.out _).mono ?_
  rintro e W ⟨rfl, rfl⟩
  go_wp2_with fail
  refine (HG.out _).mono ?_
  rintro e W2 ⟨rfl, n, rfl⟩
  go_wp2_with fail
  go_ret
  exact ⟨rfl, _, rfl⟩
end Go.Proofs.Ytgpdknacnmapiaa
namespace Go.Proofs.Ytgpdknacnmapiaa
set_option linter.unusedVariables false
set_option linter.unusedSimpArgs false
open Go.RowKit
theorem n19 {f : Fr} {j : Nat} (h : Inv f j) (hj : j ≤ 900) (x : Int) (hx : 0 ≤ x ∧ x ≤ 4095) {f2 : Fr} {k a v : Int} {l : List Int} (hr : nextG f x = ⟨f2, k, a, v, l⟩) :
    ∀ vv w, GotV w vv x → Calls Try.prog 19 #[.agg f.cells, vv] w fun e w' => AnsB w w' e f2 k a 0 v l ∧ Below w.heap.size w w' := fun vv w hg => by
  have := h.next_p hj x hx vv w hg
  rw [hr] at this
  exact this
theorem n20 {f : Fr} {j : Nat} (h : Inv f j) (hj : j ≤ 900) (x : Int) (hx : 0 ≤ x ∧ x ≤ 4095) {f2 : Fr} {k a v : Int} {l : List Int} (hr : nextG f x = ⟨f2, k, a, v, l⟩) (hk : k ≠ 7) :
    ∀ vv w, GotV w vv x → Calls Try.prog 20 #[.agg f.cells, vv] w fun e w' => AnsB w w' e f2 k a 0 v l ∧ Below w.heap.size w w' := fun vv w hg => by
  have := h.next_r hj x hx vv w hg
  rw [hr, refR_go (by exact hk)] at this
  exact this
theorem n20e {f : Fr} {j : Nat} (h : Inv f j) (hj : j ≤ 900) (x : Int) (hx : 0 ≤ x ∧ x ≤ 4095) {f2 : Fr} {k a v : Int} {l : List Int} (hr : nextG f x = ⟨f2, k, a, v, l⟩) (hk : k = 7) :
    ∀ vv w, GotV w vv x → Calls Try.prog 20 #[.agg f.cells, vv] w fun e w' => AnsB w w' e (f2.at_ 99) k a 0 v l ∧ Below w.heap.size w w' := fun vv w hg => by
  have := h.next_r hj x hx vv w hg
  rw [hr] at this
  unfold refR at this
  rw [if_pos (by exact hk)] at this
  exact this
theorem doC0 (n : Nat) (x : Int) (l : List Int) (hn : n < 771) (hx : l[n]? = some x) : DoC 0 n 0 x l l := fun Q w cv d1 d2 ao ac hP h0 h1 h2 => do_w0 w hP h0 h1 h2 n 0 0 x ao ac hn hx ⟨by omega, by omega⟩ ⟨by omega, by omega⟩
theorem doC1 (n : Nat) (v : Int) (l : List Int) (hn : n < 771) (hl : l.length = 771) (hv : -1152921504606846976 ≤ v ∧ v ≤ 1152921504606846976) : DoC 1 n v 0 l (l.set n v) := fun Q w cv d1 d2 ao ac hP h0 h1 h2 => do_w1 w hP h0 h1 h2 n 0 v _ ao ac hn (List.getElem?_eq_getElem (by omega)) ⟨by omega, by omega⟩ hv
/-- what a run holds -/
structure RunV (P : Nat → Prop) (R : Nat) (W : World) (C : Array Value) (s : RS) (l : List Int) : Prop where
  hb : HB W R C 74
  ra : RunA C s
  cv : CellsV P W (s.w 0) l
  d1 : DiskV P W (s.w 1)
  d2 : DiskV P W (s.w 2)
theorem RunV.keep {P : Nat → Prop} {R : Nat} {W W' : World} {C C' : Array Value} {s s' : RS} {l : List Int} (h : RunV P R W C s l) (hPR : ∀ b, P b → b ≠ R) (hM : Mem (fun b => b = R) W W' [(R, C', 74)]) (hA : RunA C' s') (hw : s'.w = s.w) : RunV P R W' C' s' l :=
  ⟨hM.hb 0 _ _ _ rfl, hA, by rw [hw]; exact h.cv.mem hPR hM, by rw [hw]; exact h.d1.mem hPR hM, by rw [hw]; exact h.d2.mem hPR hM⟩
/-- a program is begun -/
def BegunP (P : Nat → Prop) (R c : Nat) (s : RS) (l : List Int) (f : Fr) (w w' : World) : Prop :=
  ∃ C' s', RunV P R w' C' s' l ∧ Mem (fun b => b = R) w w' [(R, C', 74)] ∧ s'.b = upd s.b c true ∧ Live P w' (s'.m c) c f 0 ∧ Live P w' (s'.h c) c f 0 ∧ ∀ d, d ≠ c → s'.m d = s.m d ∧ s'.h d = s.h d
theorem bg14 {P : Nat → Prop} (c : Nat) (hc : c < 4) (pg : Int) (hp : 0 ≤ pg) (v : Value) (la : List Int) (B R : Nat) (C : Array Value) (s : RS) (l : List Int) (w : World) (hP : ∀ b, w.heap.size ≤ b → P b) (hPR : ∀ b, P b → b ≠ R) (hI : Ints B w v la) (hl : la.length ≤ 96) (h : RunV P R w C s l) (hb : s.b c = false) :
    Calls Try.prog 28 #[.pointer (some ⟨R, 0, none⟩), .int .i64 c, .int .i8 pg, v] w fun e w' => e = .returned (.tuple #[]) ∧ BegunP P R c s l (frG pg la) w w' := by
  refine (begin14 c hc pg hp v la B R C s w hP hI hl h.hb h.ra hb).mono ?_
  rintro e w' ⟨rfl, C', T, hM, hA, hL⟩
  refine ⟨rfl, C', _, h.keep hPR hM hA rfl, hM, rfl, ?_, ?_, ?_⟩
  · simpa [RS.setM, RS.setH, RS.setB, upd] using hL
  · simpa [RS.setM, RS.setH, RS.setB, upd] using hL
  · intro d hd
    simp [RS.setM, RS.setH, RS.setB, upd, hd]
/-- a step is done -/
def SteppedP (P : Nat → Prop) (R c : Nat) (s : RS) (l : List Int) (f g : Fr) (y : Int) (bs : Nat → Bool) (w w' : World) : Prop :=
  ∃ C' s', RunV P R w' C' s' l ∧ Mem (fun b => b = R) w w' [(R, C', 74)] ∧ s'.b = bs ∧ Live P w' (s'.m c) c f y ∧ Live P w' (s'.h c) c g y ∧ ∀ d, d ≠ c → s'.m d = s.m d ∧ s'.h d = s.h d
theorem StepE.go {P : Nat → Prop} {R c : Nat} {s : RS} {f g : Fr} {y : Int} {l : List Int} {w w' : World} (h : StepE P R c s f g y l false w w') : SteppedP P R c s l f g y s.b w w' := by
  obtain ⟨C', T, U, cv, hM, hA, hC, h1, h2, hT, hU⟩ := h
  rw [if_neg (by decide)] at hA
  refine ⟨C', _, ⟨hM.hb 0 _ _ _ rfl, hA, hC, h1, h2⟩, hM, rfl, ?_, ?_, ?_⟩
  · simpa [RS.setM, RS.setH, RS.setW, upd] using hT
  · simpa [RS.setM, RS.setH, RS.setW, upd] using hU
  · intro d hd
    simp [RS.setM, RS.setH, RS.setW, upd, hd]
theorem StepE.end {P : Nat → Prop} {R c : Nat} {s : RS} {f g : Fr} {y : Int} {l : List Int} {w w' : World} (h : StepE P R c s f g y l true w w') : SteppedP P R c s l f g y (upd s.b c false) w w' := by
  obtain ⟨C', T, U, cv, hM, hA, hC, h1, h2, hT, hU⟩ := h
  rw [if_pos rfl] at hA
  refine ⟨C', _, ⟨hM.hb 0 _ _ _ rfl, hA, hC, h1, h2⟩, hM, rfl, ?_, ?_, ?_⟩
  · simpa [RS.setM, RS.setH, RS.setW, RS.setB, upd] using hT
  · simpa [RS.setM, RS.setH, RS.setW, RS.setB, upd] using hU
  · intro d hd
    simp [RS.setM, RS.setH, RS.setW, RS.setB, upd, hd]
theorem st_go {P : Nat → Prop} (c : Nat) (hc : c < 4) (R : Nat) (C : Array Value) (s : RS) (l l2 : List Int) (w : World) (hP : ∀ b, w.heap.size ≤ b → P b) (hPR : ∀ b, P b → b ≠ R) (h : RunV P R w C s l) {f f2 f4 : Fr} {x y : Int} {j j2 : Nat} (hT : Live P w (s.m c) c f x) (hU : Live P w (s.h c) c f x)
    (hI : Inv f j) (hj : j ≤ 900) (hx : 0 ≤ x ∧ x ≤ 4095) {k a v : Int} (h1 : nextG f x = ⟨f2, k, a, v, []⟩) (hOk : OkA k a 0 v 0) (hk : k < 6) (hDo : DoC k a v y l l2) (hI2 : Inv f2 j2) (hj2 : j2 ≤ 900) (hy : 0 ≤ y ∧ y ≤ 4095) {k2 a2 v2 : Int} (h2 : nextG f2 y = ⟨f4, k2, a2, v2, []⟩) (hOk2 : OkA k2 a2 0 v2 0) (hk2 : k2 < 6) :
    Calls Try.prog 25 #[.pointer (some ⟨R, 0, none⟩), .int .i64 c] w fun e w' => e = .returned (.tuple #[.slice none 0 0, .bool false, .bool true]) ∧ SteppedP P R c s l2 f2 f2 y s.b w w' := by
  refine (step14_go c hc R C s w hP hPR h.hb h.ra f f f2 f2 f4 f4 x y l l2 hT hU h.cv h.d1 h.d2 k a v hOk hk k2 a2 v2 [] hOk2 hk2 (n19 hI hj x hx h1) (n20 hI hj x hx h1 (by omega)) (n19 hI2 hj2 y hy h2) (n20 hI2 hj2 y hy h2 (by omega)) hDo).mono ?_
  rintro e w' ⟨rfl, hE⟩
  exact ⟨rfl, hE.go⟩
theorem st_end {P : Nat → Prop} (c : Nat) (hc : c < 4) (R : Nat) (C : Array Value) (s : RS) (l l2 : List Int) (w : World) (hP : ∀ b, w.heap.size ≤ b → P b) (hPR : ∀ b, P b → b ≠ R) (h : RunV P R w C s l) {f f2 f4 : Fr} {x y : Int} {j j2 : Nat} (hT : Live P w (s.m c) c f x) (hU : Live P w (s.h c) c f x)
    (hI : Inv f j) (hj : j ≤ 900) (hx : 0 ≤ x ∧ x ≤ 4095) {k a v : Int} (h1 : nextG f x = ⟨f2, k, a, v, []⟩) (hOk : OkA k a 0 v 0) (hk : k < 6) (hDo : DoC k a v y l l2) (hI2 : Inv f2 j2) (hj2 : j2 ≤ 900) (hy : 0 ≤ y ∧ y ≤ 4095) {la : List Int} (h2 : nextG f2 y = ⟨f4, 7, 0, 0, la⟩) (hla : la.length ≤ 96) :
    Calls Try.prog 25 #[.pointer (some ⟨R, 0, none⟩), .int .i64 c] w fun e w' => (∃ ans, e = .returned (.tuple #[ans, .bool true, .bool true]) ∧ IntsP P w' ans la) ∧ SteppedP P R c s l2 f2 f2 y (upd s.b c false) w w' := by
  refine (step14_over c hc R C s w hP hPR h.hb h.ra f f f2 f2 f4 _ x y l l2 hT hU h.cv h.d1 h.d2 k a v hOk hk 7 0 0 la (.inr (.inr (.inr ⟨rfl, rfl, rfl, rfl, hla⟩))) rfl (n19 hI hj x hx h1) (n20 hI hj x hx h1 (by omega)) (n19 hI2 hj2 y hy h2) (n20e hI2 hj2 y hy h2 rfl) hDo).mono ?_
  rintro e w' ⟨ans, rfl, hI, hE⟩
  exact ⟨⟨ans, rfl, hI⟩, hE.end⟩
end Go.Proofs.Ytgpdknacnmapiaa
namespace Go.Proofs.Ytgpdknacnmapiaa
set_option linter.unusedVariables false
set_option linter.unusedSimpArgs false
open Go.RowKit
theorem nextG_56 {f : Fr} {x : Int} (h : f.pg = 56) : nextG f x = nextR f x := if_pos h
theorem nextG_57 {f : Fr} {x : Int} (h : f.pg = 57) (h2 : f.st = 0) : nextG f x = dropR f := by unfold nextG; rw [if_neg (by omega), if_pos h2]
theorem nextG_57e {f : Fr} {x : Int} (h : f.pg = 57) (h2 : f.st ≠ 0) : nextG f x = ⟨f, 7, 0, 0, []⟩ := by unfold nextG; rw [if_neg (by omega), if_neg h2]
theorem nextR_0 {f : Fr} {x : Int} (h : f.st = 0) : nextR f x = lookR f := if_pos h
theorem nextR_1o {f : Fr} {x : Int} (h : f.st = 1) (hx : x % 2 = 1) : nextR f x = lookR (f.reg 3 (f.r 3 + 1)) := by unfold nextR; rw [if_neg (by omega), if_pos h, if_pos hx]
theorem nextR_1e {f : Fr} {x : Int} (h : f.st = 1) (hx : x % 2 ≠ 1) : nextR f x = ⟨(f.at_ 2).reg 4 (aft (x / 2) * 256 + slotOf f), 1, lookC f, aft (x / 2) * 2 + 1, []⟩ := by unfold nextR; rw [if_neg (by omega), if_pos h, if_neg hx]
theorem nextR_2 {f : Fr} {x : Int} (h : f.st = 2) : nextR f x = ⟨f, 7, 0, 0, [0, f.r 4]⟩ := by unfold nextR; rw [if_neg (by omega), if_neg (by omega)]
def nn (node : Bool) : Int := if node then 1 else 0
theorem nn_eq (node : Bool) : (nn node == 1) = node := by cases node <;> rfl
theorem nn_01 (node : Bool) : nn node = 0 ∨ nn node = 1 := by cases node <;> simp [nn]
section
variable {sl : Int} {node : Bool} {k : Int}
end
end Go.Proofs.Ytgpdknacnmapiaa
namespace Go.Proofs.Ytgpdknacnmapiaa
set_option linter.unusedVariables false
set_option linter.unusedSimpArgs false
open Go.RowKit
open Go
theorem norm_rem (a m : Int) (hm : 1 ≤ m ∧ m ≤ 1000) : ∃ S : Nat, (S : Int) < m ∧ (wrap64 (a.tmod m + m)).tmod m = (S : Int) := by
  have h1 := Int.tmod_lt_of_pos a (show 0 < m by omega)
  have h2 := Int.tmod_lt_of_pos (-a) (show 0 < m by omega)
  rw [Int.neg_tmod] at h2
  generalize a.tmod m = t at *
  have e : wrap64 (t + m) = t + m := by unfold wrap64; omega
  rw [e, Int.tmod_eq_emod_of_nonneg (by omega)]
  have h3 := Int.emod_nonneg (t + m) (show m ≠ 0 by omega)
  have h4 := Int.emod_lt_of_pos (t + m) (show 0 < m by omega)
  exact ⟨((t + m) % m).toNat, by omega, by omega⟩
theorem RunV.below {P : Nat → Prop} {R : Nat} {W W' : World} {C : Array Value} {s : RS} {l : List Int} (h : RunV P R W C s l) (hb : Below W.heap.size W W') : RunV P R W' C s l :=
  ⟨h.hb.below hb, h.ra, h.cv.below hb, h.d1.below hb, h.d2.below hb⟩
theorem RunV.weak {P Q : Nat → Prop} {R : Nat} {W : World} {C : Array Value} {s : RS} {l : List Int} (h : RunV P R W C s l) (hPQ : ∀ b, P b → b < W.heap.size → Q b) : RunV Q R W C s l :=
  ⟨h.hb, h.ra, h.cv.weak hPQ, h.d1.weak hPQ, h.d2.weak hPQ⟩
theorem RunV.oth {P : Nat → Prop} {R : Nat} {W W' : World} {C : Array Value} {s : RS} {l : List Int} (h : RunV P R W C s l) (hk : ∀ b, (P b ∨ b = R) → b < W.heap.size → W'.heap[b]? = W.heap[b]?) : RunV P R W' C s l :=
  ⟨h.hb.oth (hk _ (.inr rfl) h.hb.lt), h.ra, h.cv.keep (fun b hb hl => hk b (.inl hb) hl), h.d1.keep (fun b hb hl => hk b (.inl hb) hl), h.d2.keep (fun b hb hl => hk b (.inl hb) hl)⟩
theorem IntsP.keep {P : Nat → Prop} {w w' : World} {v : Value} {l : List Int} (h : IntsP P w v l) (hk : ∀ b, P b → b < w.heap.size → w'.heap[b]? = w.heap[b]?) : IntsP P w' v l := by
  obtain ⟨ao, cap, rfl, hc, hr⟩ := h
  refine ⟨ao, cap, rfl, hc, fun i x hx => ?_⟩
  obtain ⟨b, off, e1, e2, e3⟩ := hr i x hx
  exact ⟨b, off, e1, e2, (World.cell?_of_block (hk b e2 (World.block_lt_of_cell? _ _ e3))).trans e3⟩
theorem IntsP.below {P : Nat → Prop} {w w' : World} {v : Value} {l : List Int} (h : IntsP P w v l) (hb : Below w.heap.size w w') : IntsP P w' v l := h.keep fun b _ hl => hb.block b hl
theorem below_drew (w : World) : Below w.heap.size w w.drew := ⟨rfl, rfl, rfl, Nat.le_refl _, fun _ _ => rfl⟩
/-- numbers in a slice of one's own, above R -/
def AllV (R : Nat) (W : World) (v : Value) (hs : List Int) : Prop := W.ownsRow (R + 1) 3 1 v hs.length (hs.map (Value.int .i64))
theorem AllV.nil (R : Nat) (W : World) : AllV R W (.slice none 0 0) [] := World.ownsRow_nil _ _ _ _
theorem AllV.lt {R : Nat} {W : World} {v : Value} {hs : List Int} (h : AllV R W v hs) : ∀ b, some b = v.ownBlock → R < b ∧ b < W.heap.size := fun b hb => by
  have := World.ownsRow.lt h b hb.symm
  omega
theorem AllV.keep {R : Nat} {W W' : World} {v : Value} {hs : List Int} (h : AllV R W v hs) (hk : ∀ b, R < b → b < W.heap.size → W'.heap[b]? = W.heap[b]?) : AllV R W' v hs := by
  refine ⟨h.1, ?_⟩
  rcases h.2 with hn | ⟨g, cap, cur, rfl, hb, hgg, rest⟩
  · exact .inl hn
  · exact .inr ⟨g, cap, cur, rfl, hb, by rw [hk g (by omega) (Array.getElem?_eq_some_iff.1 hgg).1]; exact hgg, rest⟩
theorem AllV.below {R : Nat} {W W' : World} {v : Value} {hs : List Int} (h : AllV R W v hs) (hb : Below W.heap.size W W') : AllV R W' v hs := h.keep fun b _ hl => hb.block b hl
section
variable {ops : Array Oper} {rest : List Oper} {o : Oper} {a : Act} {w : World} {Q : Exit → Act → World → Prop} {K : Act → World → Prop}
end
end Go.Proofs.Ytgpdknacnmapiaa
