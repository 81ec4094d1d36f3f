/-
  flumelaw14's wakes (chapter 14).
-/
import Derived.Test.YtgpdknacnmapiaaGn
namespace Go.Proofs.Ytgpdknacnmapiaa
set_option linter.unusedVariables false
set_option linter.unusedSimpArgs false
open Go.RowKit
def r02 : Nat → Int := fun k => if k = 1 then 2 else 0
def C55 : Array Value := (Array.range 96).map fun i => .int .i64 (r02 i)
def Fw : Fr := ⟨56, 0, r02⟩
set_option maxRecDepth 100000 in
theorem bl55 (w : World) : (Instr.build 55 #[(0, .int .i64 0), (1, .int .i64 2)]).run Try.prog w = .ok (.agg C55) w := by kernel_rfl
set_option maxRecDepth 100000 in
theorem bl57 (w : World) : (Instr.build 57 #[(0, .int .i8 56), (2, .agg C55)]).run Try.prog w = .ok (.agg Fw.cells) w := by kernel_rfl
theorem Fw_inv : Inv Fw 0 := ⟨.inl rfl, .inl rfl, fun e => by have : (56 : Int) = 57 := e; omega, fun _ e => by have : (0 : Int) = 1 := e; omega, by decide, by decide, .inl rfl, by decide, by decide⟩
def F1 : Fr := Fw.at_ 1
def F2 : Fr := (F1.at_ 2).reg 4 256
theorem nx1 : nextG Fw 0 = ⟨F1, 0, 99, 0, []⟩ := by
  unfold nextG; rw [if_pos (show Fw.pg = 56 from rfl)]; unfold nextR; rw [if_pos (show Fw.st = 0 from rfl)]; unfold lookR
  have e : lookC Fw = 99 := by decide
  rw [if_neg (by decide), e, if_neg (by decide)]; rfl
theorem nx2 : nextG F1 0 = ⟨F2, 1, 99, 3, []⟩ := by
  have e : lookC F1 = 99 := by decide
  have e2 : aft (0 / 2) * 256 + slotOf F1 = 256 := by decide
  have e3 : aft (0 / 2) * 2 + 1 = 3 := by decide
  unfold nextG; rw [if_pos (show F1.pg = 56 from rfl)]; unfold nextR; rw [if_neg (by decide), if_pos (show F1.st = 1 from rfl), if_neg (by decide), e, e2, e3]; rfl
theorem nx3 : nextG F2 0 = ⟨F2, 7, 0, 0, [0, 256]⟩ := by
  unfold nextG; rw [if_pos (show F2.pg = 56 from rfl)]; unfold nextR; rw [if_neg (by decide), if_neg (by decide)]; rfl
theorem F1_inv : Inv F1 1 := by have := Fw_inv.next (by omega) 0 (by omega) (by rw [nx1]; decide); rw [nx1] at this; exact this
theorem F2_inv : Inv F2 2 := by have := F1_inv.next (by omega) 0 (by omega) (by rw [nx2]; decide); rw [nx2] at this; exact this
theorem got_one (w : World) (x : Int) : GotV (w.alloc (.cells #[.int .i64 x] 3)) (.slice (some ⟨w.heap.size, 0, none⟩) 1 1) x := .inr ⟨_, _, rfl, by simp [go_sem]⟩
theorem wp_b55 {ops : Array Oper} {rest : List Oper} {o : Oper} {a : Act} {w : World} {Q : Exit → Act → World → Prop} (hg : o.guard = none) (ho : o.op = .build 55 #[(0, .const (.int .i64 0)), (1, .const (.int .i64 2))]) (C : Array Value) (hC : ∀ w, (Instr.build 55 #[(0, .int .i64 0), (1, .int .i64 2)]).run Try.prog w = .ok (.agg C) w) (h : wpList Try.prog ops Q rest (a.put o.dst (.agg C)) w) : wpList Try.prog ops Q (o :: rest) a w := by
  refine wpList_plain hg fun K hK => ?_
  unfold Oper.wp execOp
  simp only [ho]
  simp [hC, Sem.run_bind, Act.eval]
  exact hK _ _ h
theorem wp_b57 {ops : Array Oper} {rest : List Oper} {o : Oper} {a : Act} {w : World} {Q : Exit → Act → World → Prop} (hg : o.guard = none) (x : Operand) (ho : o.op = .build 57 #[(0, .const (.int .i8 56)), (2, x)]) (C : Array Value) (hx : a.eval x = .agg C) (F : Fr) (hC : ∀ w, (Instr.build 57 #[(0, .int .i8 56), (2, .agg C)]).run Try.prog w = .ok (.agg F.cells) w) (h : wpList Try.prog ops Q rest (a.put o.dst (.agg F.cells)) w) : wpList Try.prog ops Q (o :: rest) a w := by
  refine wpList_plain hg fun K hK => ?_
  unfold Oper.wp execOp
  simp only [ho]
  have e : a.eval (.const (.int .i8 56)) = .int .i8 56 := rfl
  simp [hx, e, hC, Sem.run_bind]
  exact hK _ _ h
set_option maxHeartbeats 4000000 in
set_option maxRecDepth 100000 in
theorem wakes_main (C : Array Value) (Fw F1 F2 : Fr) (hC : ∀ w, (Instr.build 55 #[(0, .int .i64 0), (1, .int .i64 2)]).run Try.prog w = .ok (.agg C) w) (hW : ∀ w, (Instr.build 57 #[(0, .int .i8 56), (2, .agg C)]).run Try.prog w = .ok (.agg Fw.cells) w)
    (hA : ∀ v w, GotV w v 0 → Calls Try.prog 19 #[.agg Fw.cells, v] w fun e w' => Ans w w' e ⟨F1, 0, 99, 0, []⟩ ∧ Below w.heap.size w w')
    (hB : ∀ v w, GotV w v 0 → Calls Try.prog 19 #[.agg F1.cells, v] w fun e w' => Ans w w' e ⟨F2, 1, 99, 3, []⟩ ∧ Below w.heap.size w w')
    (hD : ∀ v w, GotV w v 0 → Calls Try.prog 19 #[.agg F2.cells, v] w fun e w' => Ans w w' e ⟨F2, 7, 0, 0, [0, 256]⟩ ∧ Below w.heap.size w w')
    (w : World) : Calls Try.prog 18 #[] w fun e w' => e = .returned (.bool true) ∧ Below w.heap.size w w' := by
  have HA := Lib.hid hA
  have HB := Lib.hid hB
  have HC := Lib.hid hD
  have H55 := Lib.hid hC
  have H57 := Lib.hid hW
  clear hA hB hD hC hW
  go_enter Try.func18, Try.ntmps18
  go_wp2_with (first
    | (refine wp_b55 rfl rfl C H55.out ?_)
    | (refine wp_b57 rfl (.tmp 7) rfl C rfl Fw H57.out ?_))
  refine (HA.out _ _ (.inl ⟨rfl, rfl⟩)).mono ?_
  rintro e w1 ⟨⟨ao, n, c, rfl, hi⟩, hb1⟩
  clear hi
  have HB1 := Lib.hid hb1
  clear hb1
  go_wp2_with (first
    | (refine wp_al57g rfl rfl ?_; intro W2 hb hF; have HB2 := Lib.hid (HB1.out.trans (hb.mono HB1.out.size)); have HF2 := Lib.hid hF; clear hb hF)
    | (refine wp_al59g rfl rfl ?_; intro W3 hb hA; have HB3 := Lib.hid (HB2.out.trans (hb.mono HB2.out.size)); have HF3 := Lib.hid (HF2.out.below hb); have HA3 := Lib.hid hA; clear hb hA)
    | (refine wp_stfg rfl (.tmp 1) (.tmp 10) rfl w1.heap.size F1 rfl rfl Fr.zero HF3.out ?_; intro W4 hb ho hF hs; have HB4 := Lib.hid (HB3.out.trans (hb _ HB1.out.size)); have HF4 := Lib.hid hF; have HA4 := Lib.hid (HA3.out.oth (ho _ (Nat.ne_of_gt HF2.out.lt))); clear hb ho hF hs)
    | (refine wp_stag rfl (.tmp 2) (.tmp 11) rfl W2.heap.size 0 99 0 0 0 ao n c rfl rfl acZ HA4.out rfl ?_; intro W5 hb ho hA hs; have HB5 := Lib.hid (HB4.out.trans (hb _ HB2.out.size)); have HF5 := Lib.hid (HF4.out.oth (ho _ (Nat.ne_of_lt HF2.out.lt))); have HA5 := Lib.hid hA; clear hb ho hA hs)
    | (refine wp_ldf rfl (.tmp 1) rfl w1.heap.size rfl F1 HF5.out.range ?_))
  have HN6 := Lib.hid (below_one W5 0)
  refine (HB.out _ _ (got_one W5 0)).mono ?_
  rintro e W6 ⟨⟨ao2, n2, c2, rfl, hi⟩, hb⟩
  clear hi
  have HB6 := Lib.hid (HB5.out.trans ((HN6.out.trans (hb.mono HN6.out.size)).mono HB5.out.size))
  have HF6 := Lib.hid ((HF5.out.below HN6.out).below hb)
  have HA6 := Lib.hid ((HA5.out.below HN6.out).below hb)
  clear hb
  go_wp2_with (first
    | (refine wp_al59g rfl rfl ?_; intro W7 hb hA; have HB7 := Lib.hid (HB6.out.trans (hb.mono HB6.out.size)); have HF7 := Lib.hid (HF6.out.below hb); have HA7 := Lib.hid (HA6.out.below hb); have HC7 := Lib.hid hA; clear hb hA)
    | (refine wp_stfg rfl (.tmp 1) (.tmp 16) rfl w1.heap.size F2 rfl rfl F1 HF7.out ?_; intro W8 hb ho hF hs; have HB8 := Lib.hid (HB7.out.trans (hb _ HB1.out.size)); have HF8 := Lib.hid hF; have HA8 := Lib.hid (HA7.out.oth (ho _ (Nat.ne_of_gt HF2.out.lt))); have HC8 := Lib.hid (HC7.out.oth (ho _ (Nat.ne_of_gt HF6.out.lt))); clear hb ho hF hs)
    | (refine wp_stag rfl (.tmp 3) (.tmp 17) rfl W6.heap.size 1 99 0 3 0 ao2 n2 c2 rfl rfl acZ HC8.out rfl ?_; intro W9 hb ho hA hs; have HB9 := Lib.hid (HB8.out.trans (hb _ HB6.out.size)); have HF9 := Lib.hid (HF8.out.oth (ho _ (Nat.ne_of_lt HF6.out.lt))); have HA9 := Lib.hid (HA8.out.oth (ho _ (Nat.ne_of_lt HA6.out.lt))); have HC9 := Lib.hid hA; clear hb ho hA hs)
    | (refine wp_ldf rfl (.tmp 1) rfl w1.heap.size rfl F2 HF9.out.range ?_))
  have HN9 := Lib.hid (below_one W9 0)
  refine (HC.out _ _ (got_one W9 0)).mono ?_
  rintro e X1 ⟨⟨ao3, n3, c3, rfl, hi⟩, hb⟩
  have HX1 := Lib.hid (HB9.out.trans ((HN9.out.trans (hb.mono HN9.out.size)).mono HB9.out.size))
  have HI := Lib.hid hi
  have HAx := Lib.hid ((HA9.out.below HN9.out).below hb)
  have HCx := Lib.hid ((HC9.out.below HN9.out).below hb)
  clear hb hi
  obtain ⟨ao4, n4, h4, h5, h6⟩ := HI.out
  obtain ⟨b5, o5, h7, h8, h9⟩ := h6 1 256 rfl
  subst h7
  simp only [Value.slice.injEq] at h4
  obtain ⟨h40, h41, h42⟩ := h4
  simp only [List.length_cons, List.length_nil] at h41
  subst h40 h41 h42
  have HE := Lib.hid h9
  have h10 : 2 ≤ c3 := h5
  have HL5 : Hid (b5 < X1.heap.size) := Lib.hid (World.block_lt_of_cell? _ _ h9)
  clear h6 h8 h9 h5
  go_wp2_with (first
    | (refine wp_al57g rfl rfl ?_; intro X2 hb hF; have HX2 := Lib.hid (HX1.out.trans (hb.mono HX1.out.size)); have HY2 := Lib.hid hF; have HAx2 := Lib.hid (HAx.out.below hb); have HCx2 := Lib.hid (HCx.out.below hb); have HE2 := Lib.hid ((hb.cell HL5.out).trans HE.out); clear hb hF)
    | (refine wp_al59g rfl rfl ?_; intro X3 hb hF; have HX3 := Lib.hid (HX2.out.trans (hb.mono HX2.out.size)); have HY3 := Lib.hid (HY2.out.below hb); have HZ3 := Lib.hid hF; have HAx3 := Lib.hid (HAx2.out.below hb); have HCx3 := Lib.hid (HCx2.out.below hb); have HE3 := Lib.hid ((hb.cell (World.block_lt_of_cell? _ _ HE2.out)).trans HE2.out); clear hb hF)
    | (refine wp_stfg rfl (.tmp 4) (.tmp 22) rfl X1.heap.size F2 rfl rfl Fr.zero HY3.out ?_; intro X4 hb ho hF hs; have HX4 := Lib.hid (HX3.out.trans (hb _ HX1.out.size)); have HZ4 := Lib.hid (HZ3.out.oth (ho _ (Nat.ne_of_gt HY2.out.lt))); have HAx4 := Lib.hid (HAx3.out.oth (ho _ (Nat.ne_of_lt HAx.out.lt))); have HCx4 := Lib.hid (HCx3.out.oth (ho _ (Nat.ne_of_lt HCx.out.lt))); have HE4 := Lib.hid ((World.cell?_of_block (ho _ (Nat.ne_of_lt HL5.out))).trans HE3.out); clear hb ho hF hs)
    | (refine wp_stag rfl (.tmp 5) (.tmp 23) rfl X2.heap.size 7 0 0 0 0 (some ⟨b5, o5, none⟩) 2 c3 rfl rfl acZ HZ4.out rfl ?_; intro X5 hb ho hF hs; have HX5 := Lib.hid (HX4.out.trans (hb _ HX2.out.size)); have HZ5 := Lib.hid hF; have HAx5 := Lib.hid (HAx4.out.oth (ho _ (Nat.ne_of_lt HAx2.out.lt))); have HCx5 := Lib.hid (HCx4.out.oth (ho _ (Nat.ne_of_lt HCx2.out.lt))); have HE5 := Lib.hid ((World.cell?_of_block (ho _ (Nat.ne_of_lt (World.block_lt_of_cell? _ _ HE2.out)))).trans HE4.out); have k20 := HAx5.out.cell (k := 0) (v := .int .i8 0) rfl; have k21 := HAx5.out.cell (k := 1) (v := .int .i64 99) rfl; have k30 := HCx5.out.cell (k := 0) (v := .int .i8 1) rfl; have k31 := HCx5.out.cell (k := 1) (v := .int .i64 99) rfl; have k33 := HCx5.out.cell (k := 3) (v := .int .i64 3) rfl; have k50 := HZ5.out.cell (k := 0) (v := .int .i8 7) rfl; have k56 := HZ5.out.cell (k := 6) (v := .slice (some ⟨b5, o5, none⟩) 2 c3) rfl; have k57 := HE5.out; clear hb ho hF hs))
  go_ret
  exact ⟨rfl, HX5.out⟩
theorem wakes14 (w : World) : Calls Try.prog 18 #[] w fun e w' => e = .returned (.bool true) ∧ Below w.heap.size w w' := by
  refine wakes_main C55 Fw F1 F2 bl55 bl57 (fun v w hg => ?_) (fun v w hg => ?_) (fun v w hg => ?_) w
  · have := Fw_inv.next_p (by omega) 0 (by omega) v w hg
    rw [nx1] at this; exact this
  · have := F1_inv.next_p (by omega) 0 (by omega) v w hg
    rw [nx2] at this; exact this
  · have := F2_inv.next_p (by omega) 0 (by omega) v w hg
    rw [nx3] at this; exact this
end Go.Proofs.Ytgpdknacnmapiaa
