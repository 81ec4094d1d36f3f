/-
  Parts of a proof, put together: Al1, Op.
-/
import Derived.Test.YtgpdknacnmapiaaZj01
import Derived.Test.YtgpdknacnmapiaaZj02
import Derived.Test.YtgpdknacnmapiaaZj03
import Derived.Test.YtgpdknacnmapiaaZj04
import Derived.Test.YtgpdknacnmapiaaZj05
namespace Go.Proofs.Ytgpdknacnmapiaa
set_option linter.unusedVariables false
set_option linter.unusedSimpArgs false
open Go.RowKit
theorem Fr.set5 (f : Fr) (v : Int) : f.cells.setIfInBounds 5 (.int .i64 v) = (f.reg 3 v).cells := f.setr 3 (by omega) v
theorem Fr.set6 (f : Fr) (v : Int) : f.cells.setIfInBounds 6 (.int .i64 v) = (f.reg 4 v).cells := f.setr 4 (by omega) v
theorem pgC_set5 (f : Fr) (x v : Int) : (pgC f x).setIfInBounds 5 (.int .i64 v) = pgC (f.reg 3 v) x := pgC_setr f x 3 (by omega) v
theorem pgC_set6 (f : Fr) (x v : Int) : (pgC f x).setIfInBounds 6 (.int .i64 v) = pgC (f.reg 4 v) x := pgC_setr f x 4 (by omega) v
set_option maxHeartbeats 4000000 in
set_option maxRecDepth 100000 in
theorem allot1e (f : Fr) (x : Int) (w : World) (hs : f.st = 1) (h : Bd f) (hl : 0 ≤ lookC f) (hx : 0 ≤ x ∧ x ≤ 4095) (hx2 : x % 2 = 0) : Calls Try.prog 49 #[.agg f.cells, .int .i64 x] w fun e w' => Ans w w' e ⟨(f.at_ 2).reg 4 (aft (x / 2) * 256 + slotOf f), 1, lookC f, aft (x / 2) * 2 + 1, []⟩ ∧ Below w.heap.size w w' := by
  obtain ⟨r0, hr0⟩ : ∃ r0, f.r 0 = r0 := ⟨_, rfl⟩
  obtain ⟨r1, hr1⟩ : ∃ r1, f.r 1 = r1 := ⟨_, rfl⟩
  obtain ⟨r2, hr2⟩ : ∃ r2, f.r 2 = r2 := ⟨_, rfl⟩
  obtain ⟨r3, hr3⟩ : ∃ r3, f.r 3 = r3 := ⟨_, rfl⟩
  have hb0 := h.r0
  have hb3 := h.r3
  rw [hr0] at hb0
  rw [hr3] at hb3
  have hsl : slotOf f = r0 + r3 := by unfold slotOf; rw [hr0, hr3]
  have hs255 : r0 + r3 ≤ 255 := by
    rcases Int.lt_or_le 255 (r0 + r3) with h3 | h3
    · unfold lookC at hl; rw [hsl, genC_big _ (by omega)] at hl; omega
    · exact h3
  have hlc : lookC f = genC ((r0 + r3) % 256) (r2 == 1) := by unfold lookC; rw [hsl, hr2, Int.emod_eq_of_lt (by omega) (by omega)]
  rw [hsl]
  rw [hlc] at hl ⊢
  have HF := Lib.hid (And.intro hs (And.intro hr0 (And.intro hr1 (And.intro hr2 hr3))))
  have HCR := Lib.hid (fun w => cell_r (r0 + r3) (r2 == 1) w (by omega))
  have HAF := Lib.hid (fun w => after_r (x / 2) w)
  have hg := aft_le (x / 2) (by omega)
  generalize genC ((r0 + r3) % 256) (r2 == 1) = ac at *
  generalize aft (x / 2) = g at *
  obtain ⟨g1, g2⟩ := hg
  obtain ⟨b1, b2⟩ := hb0
  obtain ⟨b3, b4⟩ := hb3
  obtain ⟨x1, x2⟩ := hx
  have dsl : decide (0 ≤ r0 + r3) = true := by simp; omega
  have dac : decide (0 ≤ ac) = true := by simpa using hl
  have ea := and_1 x
  have eb : (x % 2 == 0) = true := by simpa using hx2
  clear hs hr0 hr1 hr2 hr3 h hsl hlc hl hx2
  go_enter Try.func49, Try.ntmps49
  go_wp2_with (first
    | (refine wp_al57 rfl rfl ?_)
    | (refine wp_al59 (f.cells) 57 rfl rfl rfl ?_; intro W hT; have HT := Lib.hid hT; have c1 := hT.b0.cell (k := 1) f.c1; have c2 := hT.b0.cell (k := 2) (f.cr 0 (by omega)); have c3 := hT.b0.cell (k := 3) (f.cr 1 (by omega)); have c4 := hT.b0.cell (k := 4) (f.cr 2 (by omega)); have c5 := hT.b0.cell (k := 5) (f.cr 3 (by omega)); rw [HF.out.1] at c1; rw [HF.out.2.1] at c2; rw [HF.out.2.2.1] at c3; rw [HF.out.2.2.2.1] at c4; rw [HF.out.2.2.2.2] at c5; clear hT))
  refine (HCR.out _).mono ?_
  rintro e W1 ⟨rfl, rfl⟩
  go_wp2_with fail
  refine (HAF.out _).mono ?_
  rintro e W2 ⟨rfl, rfl⟩
  go_wp2_with (first
    | (refine wp_set0 HT rfl (.tmp 55) (.tmp 53) rfl 6 (g * 256 + (r0 + r3)) rfl rfl (by rw [Fr.size]; omega) ?_; intro W3 ho hT; rw [Fr.set6] at hT; have HTa := Lib.hid hT; clear hT ho c1 c2 c3 c4 c5)
    | (refine wp_ldf rfl (.tmp 2) rfl w.heap.size rfl (f.reg 4 (g * 256 + (r0 + r3))) HTa.out.b0.range ?_))
  refine (store_r (f.reg 4 (g * 256 + (r0 + r3))) 2 ac (g * 2 + 1) _).mono ?_
  rintro e Wb ⟨rfl, hb1⟩
  have HTb := Lib.hid (HTa.out.below hb1)
  clear hb1
  go_wp2_with (first
    | (refine wp_st1 HTb rfl (.tmp 4) (.tmp 62) rfl (Fr.at_ (f.reg 4 (g * 256 + (r0 + r3))) 2) rfl rfl ?_; intro W3 ho hT; have HTc := Lib.hid hT; clear hT ho)
    | (refine wp_st2 HTc rfl (.tmp 5) (.tmp 63) rfl 1 ac 0 (g * 2 + 1) 0 _ _ _ rfl rfl ?_; intro W4 ho hT; have HTd := Lib.hid hT; clear hT ho))
  (try simp only [Exit.inBlock, Exit.then])
  refine bodyPost_ret (HTd.out.ret rfl _ rfl rfl rfl) rfl ?_
  exact ⟨⟨_, _, _, rfl, Ints.nil _ _⟩, HTd.out.bel⟩
set_option maxHeartbeats 4000000 in
set_option maxRecDepth 100000 in
theorem allot1o (f : Fr) (x : Int) (w : World) (hs : f.st = 1) (h : Bd f) (hx : 0 ≤ x ∧ x ≤ 4095) (hx2 : x % 2 = 1) : Calls Try.prog 49 #[.agg f.cells, .int .i64 x] w fun e w' => Ans w w' e (refR (lookR (f.reg 3 (f.r 3 + 1)))) ∧ Below w.heap.size w w' := by
  obtain ⟨r0, hr0⟩ : ∃ r0, f.r 0 = r0 := ⟨_, rfl⟩
  obtain ⟨r1, hr1⟩ : ∃ r1, f.r 1 = r1 := ⟨_, rfl⟩
  obtain ⟨r2, hr2⟩ : ∃ r2, f.r 2 = r2 := ⟨_, rfl⟩
  obtain ⟨r3, hr3⟩ : ∃ r3, f.r 3 = r3 := ⟨_, rfl⟩
  have hb0 := h.r0
  have hb3 := h.r3
  rw [hr0] at hb0
  rw [hr3] at hb3 ⊢
  have HFG : Hid ((f.reg 3 (r3 + 1)).r 1 = r1 ∧ (f.reg 3 (r3 + 1)).r 2 = r2 ∧ (f.reg 3 (r3 + 1)).r 3 = r3 + 1) := Lib.hid ⟨hr1, hr2, rfl⟩
  have hg0 : (f.reg 3 (r3 + 1)).r 0 = r0 := hr0
  have HLR := Lib.hid (refR_look (f.reg 3 (r3 + 1)))
  rw [HFG.out.1, HFG.out.2.2] at HLR
  have hlc : lookC (f.reg 3 (r3 + 1)) = genC (r0 + r3 + 1) (r2 == 1) := by unfold lookC slotOf; rw [hg0, HFG.out.2.1, HFG.out.2.2]; congr 1; omega
  have HLB : Hid (lookC (f.reg 3 (r3 + 1)) < 0 → ¬ genC ((r0 + r3 + 1) % 256) (r2 == 1) < 0 → 255 < r0 + r3 + 1) := Lib.hid (by
    intro h1 h2
    rw [hlc] at h1
    rcases Int.lt_or_le 255 (r0 + r3 + 1) with h3 | h3
    · exact h3
    · rw [Int.emod_eq_of_lt (by omega) (by omega)] at h2; omega)
  have HLD : Hid (¬ lookC (f.reg 3 (r3 + 1)) < 0 → 0 ≤ genC ((r0 + r3 + 1) % 256) (r2 == 1) ∧ r0 + r3 + 1 ≤ 255 ∧ lookC (f.reg 3 (r3 + 1)) = genC ((r0 + r3 + 1) % 256) (r2 == 1)) := Lib.hid (by
    intro h1
    rw [hlc] at *
    rcases Int.lt_or_le 255 (r0 + r3 + 1) with h3 | h3
    · rw [genC_big _ (by omega)] at h1; omega
    · rw [Int.emod_eq_of_lt (by omega) (by omega)]; omega)
  have HF := Lib.hid (And.intro hs (And.intro hr0 (And.intro hr1 (And.intro hr2 hr3))))
  have HCR := Lib.hid (fun w => cell_r (r0 + r3) (r2 == 1) w (by omega))
  have HCR2 := Lib.hid (fun w => cell_r (r0 + r3 + 1) (r2 == 1) w (by omega))
  generalize refR (lookR (f.reg 3 (r3 + 1))) = R at *
  generalize lookC (f.reg 3 (r3 + 1)) = LC at *
  generalize genC ((r0 + r3 + 1) % 256) (r2 == 1) = ac at *
  generalize genC ((r0 + r3) % 256) (r2 == 1) = ac0 at *
  obtain ⟨b1, b2⟩ := hb0
  obtain ⟨b3, b4⟩ := hb3
  have dsl : decide (0 ≤ r0 + r3) = true := by simp; omega
  have ea := and_1 x
  have eb : (x % 2 == 0) = false := by rw [beq_eq_false_iff_ne]; omega
  clear hs hr0 hr1 hr2 hr3 h hlc hg0 hx2
  by_cases hA : r1 ≤ r3 + 1
  · have d1 : decide (r1 ≤ r3 + 1) = true := by simpa using hA
    rw [if_pos hA] at HLR
    clear hA
    go_enter Try.func49, Try.ntmps49
    go_wp2_with (first
      | (refine wp_al57 rfl rfl ?_)
      | (refine wp_al59 (f.cells) 57 rfl rfl rfl ?_; intro W hT; have HT := Lib.hid hT; have c1 := hT.b0.cell (k := 1) f.c1; have c2 := hT.b0.cell (k := 2) (f.cr 0 (by omega)); have c3 := hT.b0.cell (k := 3) (f.cr 1 (by omega)); have c4 := hT.b0.cell (k := 4) (f.cr 2 (by omega)); have c5 := hT.b0.cell (k := 5) (f.cr 3 (by omega)); rw [HF.out.1] at c1; rw [HF.out.2.1] at c2; rw [HF.out.2.2.1] at c3; rw [HF.out.2.2.2.1] at c4; rw [HF.out.2.2.2.2] at c5; clear hT))
    refine (HCR.out _).mono ?_
    rintro e W1 ⟨rfl, rfl⟩
    go_wp2_with (refine wp_set0 HT rfl (.tmp 72) (.tmp 70) rfl 5 (r3 + 1) rfl rfl (by rw [Fr.size]; omega) ?_; intro W3 ho hT; rw [Fr.set5] at hT; have HTa := Lib.hid hT; have c3' := hT.b0.cell (k := 3) (Fr.cr (f.reg 3 (r3 + 1)) 1 (by omega)); have c4' := hT.b0.cell (k := 4) (Fr.cr (f.reg 3 (r3 + 1)) 2 (by omega)); have c5' := hT.b0.cell (k := 5) (Fr.cr (f.reg 3 (r3 + 1)) 3 (by omega)); rw [HFG.out.1] at c3'; rw [HFG.out.2.1] at c4'; rw [HFG.out.2.2] at c5'; clear hT ho c1 c2 c3 c4 c5)
    refine (HCR2.out _).mono ?_
    rintro e W4 ⟨rfl, rfl⟩
    go_wp2_with (refine wp_ldf rfl (.tmp 2) rfl w.heap.size rfl (f.reg 3 (r3 + 1)) HTa.out.b0.range ?_)
    have HB2 := Lib.hid (below_one W4 120)
    have HI2 := Lib.hid ((ints_one W4 120).low HTa.out.big)
    have HTx := Lib.hid (HTa.out.below HB2.out)
    refine (end_r (f.reg 3 (r3 + 1)) _ _ _ _).mono ?_
    rintro e Wb ⟨rfl, hb1⟩
    have HTb := Lib.hid (HTx.out.below hb1)
    have HI3 := Lib.hid (HI2.out.below hb1)
    clear hb1
    go_wp2_with (first
      | (refine wp_st1 HTb rfl (.tmp 4) (.tmp 91) rfl (Fr.at_ (f.reg 3 (r3 + 1)) 99) rfl rfl ?_; intro W3 ho hT; have HTc := Lib.hid hT; have HI4 := Lib.hid (HI3.out.oth fun b hb => ho b hb); clear hT ho)
        | (refine wp_st2 HTc rfl (.tmp 5) (.tmp 92) rfl 7 0 0 0 0 _ _ _ rfl rfl ?_; intro W4 ho hT; have HTd := Lib.hid hT; have HI5 := Lib.hid (HI4.out.oth fun b hb => ho b hb); clear hT ho))
    (try simp only [Exit.inBlock, Exit.then])
    refine bodyPost_ret (HTd.out.ret rfl _ rfl rfl rfl) rfl ?_
    rw [HLR.out]
    exact ⟨⟨_, _, _, rfl, HI5.out.low (by omega)⟩, HTd.out.bel⟩
  · have d1 : decide (r1 ≤ r3 + 1) = false := by simpa using hA
    rw [if_neg hA] at HLR
    clear hA
    by_cases hB : LC < 0
    · rw [if_pos hB] at HLR
      by_cases hC : ac < 0
      · have d2 : decide (ac < 0) = true := by simpa using hC
        clear hB hC
        go_enter Try.func49, Try.ntmps49
        go_wp2_with (first
          | (refine wp_al57 rfl rfl ?_)
          | (refine wp_al59 (f.cells) 57 rfl rfl rfl ?_; intro W hT; have HT := Lib.hid hT; have c1 := hT.b0.cell (k := 1) f.c1; have c2 := hT.b0.cell (k := 2) (f.cr 0 (by omega)); have c3 := hT.b0.cell (k := 3) (f.cr 1 (by omega)); have c4 := hT.b0.cell (k := 4) (f.cr 2 (by omega)); have c5 := hT.b0.cell (k := 5) (f.cr 3 (by omega)); rw [HF.out.1] at c1; rw [HF.out.2.1] at c2; rw [HF.out.2.2.1] at c3; rw [HF.out.2.2.2.1] at c4; rw [HF.out.2.2.2.2] at c5; clear hT))
        refine (HCR.out _).mono ?_
        rintro e W1 ⟨rfl, rfl⟩
        go_wp2_with (refine wp_set0 HT rfl (.tmp 72) (.tmp 70) rfl 5 (r3 + 1) rfl rfl (by rw [Fr.size]; omega) ?_; intro W3 ho hT; rw [Fr.set5] at hT; have HTa := Lib.hid hT; have c3' := hT.b0.cell (k := 3) (Fr.cr (f.reg 3 (r3 + 1)) 1 (by omega)); have c4' := hT.b0.cell (k := 4) (Fr.cr (f.reg 3 (r3 + 1)) 2 (by omega)); have c5' := hT.b0.cell (k := 5) (Fr.cr (f.reg 3 (r3 + 1)) 3 (by omega)); rw [HFG.out.1] at c3'; rw [HFG.out.2.1] at c4'; rw [HFG.out.2.2] at c5'; clear hT ho c1 c2 c3 c4 c5)
        refine (HCR2.out _).mono ?_
        rintro e W4 ⟨rfl, rfl⟩
        go_wp2_with (refine wp_ldf rfl (.tmp 2) rfl w.heap.size rfl (f.reg 3 (r3 + 1)) HTa.out.b0.range ?_)
        have HB2 := Lib.hid (below_one W4 2)
        have HI2 := Lib.hid ((ints_one W4 2).low HTa.out.big)
        have HTx := Lib.hid (HTa.out.below HB2.out)
        refine (end_r (f.reg 3 (r3 + 1)) _ _ _ _).mono ?_
        rintro e Wb ⟨rfl, hb1⟩
        have HTb := Lib.hid (HTx.out.below hb1)
        have HI3 := Lib.hid (HI2.out.below hb1)
        clear hb1
        go_wp2_with (first
          | (refine wp_st1 HTb rfl (.tmp 4) (.tmp 102) rfl (Fr.at_ (f.reg 3 (r3 + 1)) 99) rfl rfl ?_; intro W3 ho hT; have HTc := Lib.hid hT; have HI4 := Lib.hid (HI3.out.oth fun b hb => ho b hb); clear hT ho)
            | (refine wp_st2 HTc rfl (.tmp 5) (.tmp 103) rfl 7 0 0 0 0 _ _ _ rfl rfl ?_; intro W4 ho hT; have HTd := Lib.hid hT; have HI5 := Lib.hid (HI4.out.oth fun b hb => ho b hb); clear hT ho))
        (try simp only [Exit.inBlock, Exit.then])
        refine bodyPost_ret (HTd.out.ret rfl _ rfl rfl rfl) rfl ?_
        rw [HLR.out]
        exact ⟨⟨_, _, _, rfl, HI5.out.low (by omega)⟩, HTd.out.bel⟩
      · have d2 : decide (ac < 0) = false := by simpa using hC
        have d3 : decide (255 < r0 + r3 + 1) = true := by have := HLB.out hB hC; simp; omega
        clear hB hC
        go_enter Try.func49, Try.ntmps49
        go_wp2_with (first
          | (refine wp_al57 rfl rfl ?_)
          | (refine wp_al59 (f.cells) 57 rfl rfl rfl ?_; intro W hT; have HT := Lib.hid hT; have c1 := hT.b0.cell (k := 1) f.c1; have c2 := hT.b0.cell (k := 2) (f.cr 0 (by omega)); have c3 := hT.b0.cell (k := 3) (f.cr 1 (by omega)); have c4 := hT.b0.cell (k := 4) (f.cr 2 (by omega)); have c5 := hT.b0.cell (k := 5) (f.cr 3 (by omega)); rw [HF.out.1] at c1; rw [HF.out.2.1] at c2; rw [HF.out.2.2.1] at c3; rw [HF.out.2.2.2.1] at c4; rw [HF.out.2.2.2.2] at c5; clear hT))
        refine (HCR.out _).mono ?_
        rintro e W1 ⟨rfl, rfl⟩
        go_wp2_with (refine wp_set0 HT rfl (.tmp 72) (.tmp 70) rfl 5 (r3 + 1) rfl rfl (by rw [Fr.size]; omega) ?_; intro W3 ho hT; rw [Fr.set5] at hT; have HTa := Lib.hid hT; have c3' := hT.b0.cell (k := 3) (Fr.cr (f.reg 3 (r3 + 1)) 1 (by omega)); have c4' := hT.b0.cell (k := 4) (Fr.cr (f.reg 3 (r3 + 1)) 2 (by omega)); have c5' := hT.b0.cell (k := 5) (Fr.cr (f.reg 3 (r3 + 1)) 3 (by omega)); rw [HFG.out.1] at c3'; rw [HFG.out.2.1] at c4'; rw [HFG.out.2.2] at c5'; clear hT ho c1 c2 c3 c4 c5)
        refine (HCR2.out _).mono ?_
        rintro e W4 ⟨rfl, rfl⟩
        go_wp2_with (refine wp_ldf rfl (.tmp 2) rfl w.heap.size rfl (f.reg 3 (r3 + 1)) HTa.out.b0.range ?_)
        have HB2 := Lib.hid (below_one W4 2)
        have HI2 := Lib.hid ((ints_one W4 2).low HTa.out.big)
        have HTx := Lib.hid (HTa.out.below HB2.out)
        refine (end_r (f.reg 3 (r3 + 1)) _ _ _ _).mono ?_
        rintro e Wb ⟨rfl, hb1⟩
        have HTb := Lib.hid (HTx.out.below hb1)
        have HI3 := Lib.hid (HI2.out.below hb1)
        clear hb1
        go_wp2_with (first
          | (refine wp_st1 HTb rfl (.tmp 4) (.tmp 102) rfl (Fr.at_ (f.reg 3 (r3 + 1)) 99) rfl rfl ?_; intro W3 ho hT; have HTc := Lib.hid hT; have HI4 := Lib.hid (HI3.out.oth fun b hb => ho b hb); clear hT ho)
            | (refine wp_st2 HTc rfl (.tmp 5) (.tmp 103) rfl 7 0 0 0 0 _ _ _ rfl rfl ?_; intro W4 ho hT; have HTd := Lib.hid hT; have HI5 := Lib.hid (HI4.out.oth fun b hb => ho b hb); clear hT ho))
        (try simp only [Exit.inBlock, Exit.then])
        refine bodyPost_ret (HTd.out.ret rfl _ rfl rfl rfl) rfl ?_
        rw [HLR.out]
        exact ⟨⟨_, _, _, rfl, HI5.out.low (by omega)⟩, HTd.out.bel⟩
    · have d2 : decide (ac < 0) = false := by have := (HLD.out hB).1; simp; omega
      have d3 : decide (255 < r0 + r3 + 1) = false := by have := (HLD.out hB).2.1; simp; omega
      have HLC := Lib.hid (HLD.out hB).2.2
      rw [if_neg hB] at HLR
      clear hB
      go_enter Try.func49, Try.ntmps49
      go_wp2_with (first
        | (refine wp_al57 rfl rfl ?_)
        | (refine wp_al59 (f.cells) 57 rfl rfl rfl ?_; intro W hT; have HT := Lib.hid hT; have c1 := hT.b0.cell (k := 1) f.c1; have c2 := hT.b0.cell (k := 2) (f.cr 0 (by omega)); have c3 := hT.b0.cell (k := 3) (f.cr 1 (by omega)); have c4 := hT.b0.cell (k := 4) (f.cr 2 (by omega)); have c5 := hT.b0.cell (k := 5) (f.cr 3 (by omega)); rw [HF.out.1] at c1; rw [HF.out.2.1] at c2; rw [HF.out.2.2.1] at c3; rw [HF.out.2.2.2.1] at c4; rw [HF.out.2.2.2.2] at c5; clear hT))
      refine (HCR.out _).mono ?_
      rintro e W1 ⟨rfl, rfl⟩
      go_wp2_with (refine wp_set0 HT rfl (.tmp 72) (.tmp 70) rfl 5 (r3 + 1) rfl rfl (by rw [Fr.size]; omega) ?_; intro W3 ho hT; rw [Fr.set5] at hT; have HTa := Lib.hid hT; have c3' := hT.b0.cell (k := 3) (Fr.cr (f.reg 3 (r3 + 1)) 1 (by omega)); have c4' := hT.b0.cell (k := 4) (Fr.cr (f.reg 3 (r3 + 1)) 2 (by omega)); have c5' := hT.b0.cell (k := 5) (Fr.cr (f.reg 3 (r3 + 1)) 3 (by omega)); rw [HFG.out.1] at c3'; rw [HFG.out.2.1] at c4'; rw [HFG.out.2.2] at c5'; clear hT ho c1 c2 c3 c4 c5)
      refine (HCR2.out _).mono ?_
      rintro e W4 ⟨rfl, rfl⟩
      go_wp2_with (refine wp_ldf rfl (.tmp 2) rfl w.heap.size rfl (f.reg 3 (r3 + 1)) HTa.out.b0.range ?_)
      refine (load_r (f.reg 3 (r3 + 1)) 1 ac _).mono ?_
      rintro e Wb ⟨rfl, hb1⟩
      have HTb := Lib.hid (HTa.out.below hb1)
      clear hb1
      go_wp2_with (first
        | (refine wp_st1 HTb rfl (.tmp 4) (.tmp 107) rfl (Fr.at_ (f.reg 3 (r3 + 1)) 1) rfl rfl ?_; intro W3 ho hT; have HTc := Lib.hid hT; clear hT ho)
          | (refine wp_st2 HTc rfl (.tmp 5) (.tmp 108) rfl 0 ac 0 0 0 _ _ _ rfl rfl ?_; intro W4 ho hT; have HTd := Lib.hid hT; clear hT ho))
      (try simp only [Exit.inBlock, Exit.then])
      refine bodyPost_ret (HTd.out.ret rfl _ rfl rfl rfl) rfl ?_
      rw [HLR.out]
      rw [HLC.out]
      exact ⟨⟨_, _, _, rfl, Ints.nil _ _⟩, HTd.out.bel⟩
end Go.Proofs.Ytgpdknacnmapiaa
namespace Go.Proofs.Ytgpdknacnmapiaa
set_option linter.unusedVariables false
set_option linter.unusedSimpArgs false
open Go.RowKit
section
variable {o : Oper} {a : Act} {w : World} {K : Act → World → Prop} {Q : Exit → Act → World → Prop}
theorem wpO_ldf (x : Operand) (ho : o.op = .load 57 x) (d : Tmp) (hd : o.dst = some d) (b : Nat) (hx : a.eval x = .pointer (some ⟨b, 0, none⟩)) (f : Fr) (hr : w.rangeAt b 0 f.cells.toList) (h : K (a.put (some d) (.agg f.cells)) w) : o.wp Try.prog a w K Q := by
  obtain ⟨fs, hu⟩ := und57
  exact wp_load_mid 57 x ho b 0 hx f.cells.toList (.struct fs) hr hu rfl (by rw [inf57]; simp [Fr.size]) (by rw [hd]; simpa using h)
theorem wpO_ldp (x : Operand) (ho : o.op = .load 95 x) (d : Tmp) (hd : o.dst = some d) (b : Nat) (hx : a.eval x = .pointer (some ⟨b, 0, none⟩)) (f : Fr) (y : Int) (hr : HB w b (pgC f y) 95) (h : K (a.put (some d) (.agg (pgC f y))) w) : o.wp Try.prog a w K Q := by
  obtain ⟨fs, hu⟩ := und95
  exact wp_load_mid 95 x ho b 0 hx (pgC f y).toList (.struct fs) hr.range hu rfl (by rw [inf95]; simp [pgC_size]) (by rw [hd]; simpa using h)
theorem wpO_st1 {w0 : World} {N : Nat} {C0 C2 : Array Value} {t0 : TypeId} {f0 : Fr} (HT : Hid (T3 w0 w N C0 t0 f0.cells C2)) (x y : Operand) (ho : o.op = .store 57 x y) (hd : o.dst = none) (f : Fr) (hx : a.eval x = .pointer (some ⟨N + 1, 0, none⟩)) (hy : a.eval y = .agg f.cells)
    (h : ∀ W, (∀ b, N + 1 + 1 < b → W.heap[b]? = w.heap[b]?) → T3 w0 W N C0 t0 f.cells C2 → K a W) : o.wp Try.prog a w K Q :=
  wp_store_row 57 x y ho (N + 1) f.cells hx hy 57 f0.cells HT.out.b1 (by rw [inf57, Fr.size]) (by rw [Fr.size, Fr.size]) f.one (by rw [hd]; exact h _ (fun b hb => setRow_other _ _ _ _ (by omega)) (HT.out.row1 f.cells))
theorem wpO_st2 {w0 : World} {N : Nat} {C0 C1 : Array Value} {t0 : TypeId} (HT : Hid (T3 w0 w N C0 t0 C1 acZ)) (x y : Operand) (ho : o.op = .store 59 x y) (hd : o.dst = none) (k1 k2 k3 k4 k5 : Int) (ao : Option Addr) (n c : Nat) (hx : a.eval x = .pointer (some ⟨N + 1 + 1, 0, none⟩)) (hy : a.eval y = .agg (acC k1 k2 k3 k4 k5 (.slice ao n c)))
    (h : ∀ W, (∀ b, N + 1 + 1 < b → W.heap[b]? = w.heap[b]?) → T3 w0 W N C0 t0 C1 (acC k1 k2 k3 k4 k5 (.slice ao n c)) → K a W) : o.wp Try.prog a w K Q :=
  wp_store_row 59 x y ho (N + 1 + 1) _ hx hy 59 acZ HT.out.b2 (by rw [inf59]; rfl) rfl (acC_one _ _ _ _ _ _ _ _) (by rw [hd]; exact h _ (fun b hb => setRow_other _ _ _ _ (by omega)) (HT.out.row2 _))
end
theorem T3.drew {w W : World} {N : Nat} {C0 : Array Value} {t0 : TypeId} {C1 C2 : Array Value} (h : T3 w W N C0 t0 C1 C2) : T3 w W.drew N C0 t0 C1 C2 := h.below ⟨rfl, rfl, rfl, Nat.le_refl _, fun _ _ => rfl⟩
end Go.Proofs.Ytgpdknacnmapiaa
