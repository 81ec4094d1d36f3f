/-
  Parts of a proof, put together: Al.
-/
import Derived.Test.YtgpdknacnmapiaaZj01
import Derived.Test.YtgpdknacnmapiaaZj02
import Derived.Test.YtgpdknacnmapiaaZj03
import Derived.Test.YtgpdknacnmapiaaZj04
namespace Go.Proofs.Ytgpdknacnmapiaa
set_option linter.unusedVariables false
set_option linter.unusedSimpArgs false
open Go.RowKit
set_option maxRecDepth 100000 in
theorem after_r (g : Int) (w : World) : Calls Try.prog 79 #[.int .i64 g] w fun e w' => e = .returned (.int .i64 (aft g)) ∧ w' = w := by
  by_cases h0 : g < 0
  · have d0 : decide (g < 0) = true := by simpa using h0
    have e : aft g = 1 := by unfold aft; rw [if_pos (.inl h0)]
    rw [e]; clear h0 e
    go_enter Try.func79, Try.ntmps79
    go_wp2
    go_ret
    exact ⟨rfl, rfl⟩
  · have d0 : decide (g < 0) = false := by simpa using h0
    by_cases h1 : 1023 ≤ g
    · have d1 : decide (1023 ≤ g) = true := by simpa using h1
      have e : aft g = 1 := by unfold aft; rw [if_pos (.inr h1)]
      rw [e]; clear h0 h1 e
      go_enter Try.func79, Try.ntmps79
      go_wp2
      go_ret
      exact ⟨rfl, rfl⟩
    · have d1 : decide (1023 ≤ g) = false := by simpa using h1
      have e : aft g = g + 1 := by unfold aft; rw [if_neg (by omega)]
      rw [e]
      have h2 : g < 1023 := by omega
      have h3 : 0 ≤ g := by omega
      clear h0 h1 e
      go_enter Try.func79, Try.ntmps79
      go_wp2
      go_ret
      exact ⟨rfl, rfl⟩
theorem aft_le (g : Int) (h : 0 ≤ g) : 1 ≤ aft g ∧ aft g ≤ 1023 := by unfold aft; split <;> omega
/-- what an allotment does next -/
def nextR (f : Fr) (x : Int) : Rs :=
  if f.st = 0 then lookR f
  else if f.st = 1 then (if x % 2 = 1 then lookR (f.reg 3 (f.r 3 + 1)) else ⟨(f.at_ 2).reg 4 (aft (x / 2) * 256 + slotOf f), 1, lookC f, aft (x / 2) * 2 + 1, []⟩)
  else ⟨f, 7, 0, 0, [0, f.r 4]⟩
/-- the document's frame at an end -/
def refR (r : Rs) : Rs := if r.k = 7 then { r with f := r.f.at_ 99 } else r
theorem refR_look (f : Fr) : refR (lookR f) = if f.r 1 ≤ f.r 3 then ⟨f.at_ 99, 7, 0, 0, [120]⟩ else if lookC f < 0 then ⟨f.at_ 99, 7, 0, 0, [2]⟩ else ⟨f.at_ 1, 0, lookC f, 0, []⟩ := by
  unfold lookR
  split
  · rfl
  · split
    · rfl
    · rfl
set_option maxHeartbeats 2000000 in
set_option maxRecDepth 100000 in
theorem allot2 (f : Fr) (x : Int) (w : World) (hs : f.st = 2) : Calls Try.prog 49 #[.agg f.cells, .int .i64 x] w fun e w' => Ans w w' e ⟨f.at_ 99, 7, 0, 0, [0, f.r 4]⟩ ∧ Below w.heap.size w w' := by
  obtain ⟨r0, hr0⟩ : ∃ r0, f.r 0 = r0 := ⟨_, rfl⟩
  obtain ⟨r1, hr1⟩ : ∃ r1, f.r 1 = r1 := ⟨_, rfl⟩
  obtain ⟨r2, hr2⟩ : ∃ r2, f.r 2 = r2 := ⟨_, rfl⟩
  obtain ⟨r3, hr3⟩ : ∃ r3, f.r 3 = r3 := ⟨_, rfl⟩
  obtain ⟨r4, hr4⟩ : ∃ r4, f.r 4 = r4 := ⟨_, rfl⟩
  rw [hr4]
  have HF := Lib.hid (And.intro hs (And.intro hr0 (And.intro hr1 (And.intro hr2 (And.intro hr3 hr4)))))
  clear hs hr0 hr1 hr2 hr3 hr4
  go_enter Try.func49, Try.ntmps49
  go_wp2_with (first
    | (refine wp_al57 rfl rfl ?_)
    | (refine wp_al59 (f.cells) 57 rfl rfl rfl ?_; intro W hT; have HT := Lib.hid hT; have c1 := hT.b0.cell (k := 1) f.c1; have c2 := hT.b0.cell (k := 2) (f.cr 0 (by omega)); have c3 := hT.b0.cell (k := 3) (f.cr 1 (by omega)); have c4 := hT.b0.cell (k := 4) (f.cr 2 (by omega)); have c5 := hT.b0.cell (k := 5) (f.cr 3 (by omega)); have c6 := hT.b0.cell (k := 6) (f.cr 4 (by omega)); rw [HF.out.1] at c1; rw [HF.out.2.1] at c2; rw [HF.out.2.2.1] at c3; rw [HF.out.2.2.2.1] at c4; rw [HF.out.2.2.2.2.1] at c5; rw [HF.out.2.2.2.2.2] at c6; clear hT)
    | (refine wp_ldf rfl (.tmp 2) rfl w.heap.size rfl f HT.out.b0.range ?_))
  have HB2 := Lib.hid (below_two W 0 r4)
  have HI2 := Lib.hid ((ints_two W 0 r4).low HT.out.big)
  have HTx := Lib.hid (HT.out.below HB2.out)
  refine (end_r f _ _ _ _).mono ?_
  rintro e Wb ⟨rfl, hb1⟩
  have HTb := Lib.hid (HTx.out.below hb1)
  have HI3 := Lib.hid (HI2.out.below hb1)
  clear hb1
  go_wp2_with (first
    | (refine wp_st1 HTb rfl (.tmp 4) (.tmp 18) rfl (Fr.at_ f 99) rfl rfl ?_; intro W3 ho hT; have HTc := Lib.hid hT; have HI4 := Lib.hid (HI3.out.oth fun b hb => ho b hb); clear hT ho)
      | (refine wp_st2 HTc rfl (.tmp 5) (.tmp 19) rfl 7 0 0 0 0 _ _ _ rfl rfl ?_; intro W4 ho hT; have HTd := Lib.hid hT; have HI5 := Lib.hid (HI4.out.oth fun b hb => ho b hb); clear hT ho))
  (try simp only [Exit.inBlock, Exit.then])
  refine bodyPost_ret (HTd.out.ret rfl _ rfl rfl rfl) rfl ?_
  exact ⟨⟨_, _, _, rfl, HI5.out.low (by omega)⟩, HTd.out.bel⟩
set_option maxHeartbeats 4000000 in
set_option maxRecDepth 100000 in
theorem allot0 (f : Fr) (x : Int) (w : World) (hs : f.st = 0) (h : Bd f) : Calls Try.prog 49 #[.agg f.cells, .int .i64 x] w fun e w' => Ans w w' e (refR (lookR f)) ∧ Below w.heap.size w w' := by
  obtain ⟨r0, hr0⟩ : ∃ r0, f.r 0 = r0 := ⟨_, rfl⟩
  obtain ⟨r1, hr1⟩ : ∃ r1, f.r 1 = r1 := ⟨_, rfl⟩
  obtain ⟨r2, hr2⟩ : ∃ r2, f.r 2 = r2 := ⟨_, rfl⟩
  obtain ⟨r3, hr3⟩ : ∃ r3, f.r 3 = r3 := ⟨_, rfl⟩
  obtain ⟨r4, hr4⟩ : ∃ r4, f.r 4 = r4 := ⟨_, rfl⟩
  have hb0 := h.r0
  have hb3 := h.r3
  rw [hr0] at hb0
  rw [hr3] at hb3
  have HLR := Lib.hid (refR_look f)
  rw [hr1, hr3] at HLR
  have HLB : Hid (lookC f < 0 → ¬ genC ((r0 + r3) % 256) (r2 == 1) < 0 → 255 < r0 + r3) := Lib.hid (by
    intro h1 h2
    unfold lookC slotOf at h1
    rw [hr0, hr2, hr3] at h1
    rcases Int.lt_or_le 255 (r0 + r3) with h3 | h3
    · exact h3
    · rw [Int.emod_eq_of_lt (by omega) (by omega)] at h2; omega)
  have HLD : Hid (¬ lookC f < 0 → 0 ≤ genC ((r0 + r3) % 256) (r2 == 1) ∧ r0 + r3 ≤ 255 ∧ lookC f = genC ((r0 + r3) % 256) (r2 == 1)) := Lib.hid (by
    intro h1
    unfold lookC slotOf at *
    rw [hr0, hr2, hr3] at *
    rcases Int.lt_or_le 255 (r0 + r3) with h3 | h3
    · rw [genC_big _ (by omega)] at h1; omega
    · rw [Int.emod_eq_of_lt (by omega) (by omega)]; omega)
  have HF := Lib.hid (And.intro hs (And.intro hr0 (And.intro hr1 (And.intro hr2 (And.intro hr3 hr4)))))
  have HCR := Lib.hid (fun w => cell_r (r0 + r3) (r2 == 1) w (by omega))
  generalize refR (lookR f) = R at *
  generalize lookC f = LC at *
  generalize genC ((r0 + r3) % 256) (r2 == 1) = ac at *
  obtain ⟨b1, b2⟩ := hb0
  obtain ⟨b3, b4⟩ := hb3
  have dsl : decide (0 ≤ r0 + r3) = true := by simp; omega
  clear hs hr0 hr1 hr2 hr3 hr4 h
  by_cases hA : r1 ≤ r3
  · have d1 : decide (r1 ≤ r3) = true := by simpa using hA
    rw [if_pos hA] at HLR
    clear hA
    go_enter Try.func49, Try.ntmps49
    go_wp2_with (first
      | (refine wp_al57 rfl rfl ?_)
      | (refine wp_al59 (f.cells) 57 rfl rfl rfl ?_; intro W hT; have HT := Lib.hid hT; have c1 := hT.b0.cell (k := 1) f.c1; have c2 := hT.b0.cell (k := 2) (f.cr 0 (by omega)); have c3 := hT.b0.cell (k := 3) (f.cr 1 (by omega)); have c4 := hT.b0.cell (k := 4) (f.cr 2 (by omega)); have c5 := hT.b0.cell (k := 5) (f.cr 3 (by omega)); have c6 := hT.b0.cell (k := 6) (f.cr 4 (by omega)); rw [HF.out.1] at c1; rw [HF.out.2.1] at c2; rw [HF.out.2.2.1] at c3; rw [HF.out.2.2.2.1] at c4; rw [HF.out.2.2.2.2.1] at c5; rw [HF.out.2.2.2.2.2] at c6; clear hT)
      | (refine wp_ldf rfl (.tmp 2) rfl w.heap.size rfl f HT.out.b0.range ?_))
    refine (HCR.out _).mono ?_
    rintro e W1 ⟨rfl, rfl⟩
    go_wp2_with (refine wp_ldf rfl (.tmp 2) rfl w.heap.size rfl f HT.out.b0.range ?_)
    have HB2 := Lib.hid (below_one W1 120)
    have HI2 := Lib.hid ((ints_one W1 120).low HT.out.big)
    have HTx := Lib.hid (HT.out.below HB2.out)
    refine (end_r f _ _ _ _).mono ?_
    rintro e Wb ⟨rfl, hb1⟩
    have HTb := Lib.hid (HTx.out.below hb1)
    have HI3 := Lib.hid (HI2.out.below hb1)
    clear hb1
    go_wp2_with (first
      | (refine wp_st1 HTb rfl (.tmp 4) (.tmp 91) rfl (Fr.at_ f 99) rfl rfl ?_; intro W3 ho hT; have HTc := Lib.hid hT; have HI4 := Lib.hid (HI3.out.oth fun b hb => ho b hb); clear hT ho)
        | (refine wp_st2 HTc rfl (.tmp 5) (.tmp 92) rfl 7 0 0 0 0 _ _ _ rfl rfl ?_; intro W4 ho hT; have HTd := Lib.hid hT; have HI5 := Lib.hid (HI4.out.oth fun b hb => ho b hb); clear hT ho))
    (try simp only [Exit.inBlock, Exit.then])
    refine bodyPost_ret (HTd.out.ret rfl _ rfl rfl rfl) rfl ?_
    rw [HLR.out]
    exact ⟨⟨_, _, _, rfl, HI5.out.low (by omega)⟩, HTd.out.bel⟩
  · have d1 : decide (r1 ≤ r3) = false := by simpa using hA
    rw [if_neg hA] at HLR
    clear hA
    by_cases hB : LC < 0
    · rw [if_pos hB] at HLR
      by_cases hC : ac < 0
      · have d2 : decide (ac < 0) = true := by simpa using hC
        clear hB hC
        go_enter Try.func49, Try.ntmps49
        go_wp2_with (first
          | (refine wp_al57 rfl rfl ?_)
          | (refine wp_al59 (f.cells) 57 rfl rfl rfl ?_; intro W hT; have HT := Lib.hid hT; have c1 := hT.b0.cell (k := 1) f.c1; have c2 := hT.b0.cell (k := 2) (f.cr 0 (by omega)); have c3 := hT.b0.cell (k := 3) (f.cr 1 (by omega)); have c4 := hT.b0.cell (k := 4) (f.cr 2 (by omega)); have c5 := hT.b0.cell (k := 5) (f.cr 3 (by omega)); have c6 := hT.b0.cell (k := 6) (f.cr 4 (by omega)); rw [HF.out.1] at c1; rw [HF.out.2.1] at c2; rw [HF.out.2.2.1] at c3; rw [HF.out.2.2.2.1] at c4; rw [HF.out.2.2.2.2.1] at c5; rw [HF.out.2.2.2.2.2] at c6; clear hT)
          | (refine wp_ldf rfl (.tmp 2) rfl w.heap.size rfl f HT.out.b0.range ?_))
        refine (HCR.out _).mono ?_
        rintro e W1 ⟨rfl, rfl⟩
        go_wp2_with (refine wp_ldf rfl (.tmp 2) rfl w.heap.size rfl f HT.out.b0.range ?_)
        have HB2 := Lib.hid (below_one W1 2)
        have HI2 := Lib.hid ((ints_one W1 2).low HT.out.big)
        have HTx := Lib.hid (HT.out.below HB2.out)
        refine (end_r f _ _ _ _).mono ?_
        rintro e Wb ⟨rfl, hb1⟩
        have HTb := Lib.hid (HTx.out.below hb1)
        have HI3 := Lib.hid (HI2.out.below hb1)
        clear hb1
        go_wp2_with (first
          | (refine wp_st1 HTb rfl (.tmp 4) (.tmp 102) rfl (Fr.at_ f 99) rfl rfl ?_; intro W3 ho hT; have HTc := Lib.hid hT; have HI4 := Lib.hid (HI3.out.oth fun b hb => ho b hb); clear hT ho)
            | (refine wp_st2 HTc rfl (.tmp 5) (.tmp 103) rfl 7 0 0 0 0 _ _ _ rfl rfl ?_; intro W4 ho hT; have HTd := Lib.hid hT; have HI5 := Lib.hid (HI4.out.oth fun b hb => ho b hb); clear hT ho))
        (try simp only [Exit.inBlock, Exit.then])
        refine bodyPost_ret (HTd.out.ret rfl _ rfl rfl rfl) rfl ?_
        rw [HLR.out]
        exact ⟨⟨_, _, _, rfl, HI5.out.low (by omega)⟩, HTd.out.bel⟩
      · have d2 : decide (ac < 0) = false := by simpa using hC
        have d3 : decide (255 < r0 + r3) = true := by have := HLB.out hB hC; simp; omega
        clear hB hC
        go_enter Try.func49, Try.ntmps49
        go_wp2_with (first
          | (refine wp_al57 rfl rfl ?_)
          | (refine wp_al59 (f.cells) 57 rfl rfl rfl ?_; intro W hT; have HT := Lib.hid hT; have c1 := hT.b0.cell (k := 1) f.c1; have c2 := hT.b0.cell (k := 2) (f.cr 0 (by omega)); have c3 := hT.b0.cell (k := 3) (f.cr 1 (by omega)); have c4 := hT.b0.cell (k := 4) (f.cr 2 (by omega)); have c5 := hT.b0.cell (k := 5) (f.cr 3 (by omega)); have c6 := hT.b0.cell (k := 6) (f.cr 4 (by omega)); rw [HF.out.1] at c1; rw [HF.out.2.1] at c2; rw [HF.out.2.2.1] at c3; rw [HF.out.2.2.2.1] at c4; rw [HF.out.2.2.2.2.1] at c5; rw [HF.out.2.2.2.2.2] at c6; clear hT)
          | (refine wp_ldf rfl (.tmp 2) rfl w.heap.size rfl f HT.out.b0.range ?_))
        refine (HCR.out _).mono ?_
        rintro e W1 ⟨rfl, rfl⟩
        go_wp2_with (refine wp_ldf rfl (.tmp 2) rfl w.heap.size rfl f HT.out.b0.range ?_)
        have HB2 := Lib.hid (below_one W1 2)
        have HI2 := Lib.hid ((ints_one W1 2).low HT.out.big)
        have HTx := Lib.hid (HT.out.below HB2.out)
        refine (end_r f _ _ _ _).mono ?_
        rintro e Wb ⟨rfl, hb1⟩
        have HTb := Lib.hid (HTx.out.below hb1)
        have HI3 := Lib.hid (HI2.out.below hb1)
        clear hb1
        go_wp2_with (first
          | (refine wp_st1 HTb rfl (.tmp 4) (.tmp 102) rfl (Fr.at_ f 99) rfl rfl ?_; intro W3 ho hT; have HTc := Lib.hid hT; have HI4 := Lib.hid (HI3.out.oth fun b hb => ho b hb); clear hT ho)
            | (refine wp_st2 HTc rfl (.tmp 5) (.tmp 103) rfl 7 0 0 0 0 _ _ _ rfl rfl ?_; intro W4 ho hT; have HTd := Lib.hid hT; have HI5 := Lib.hid (HI4.out.oth fun b hb => ho b hb); clear hT ho))
        (try simp only [Exit.inBlock, Exit.then])
        refine bodyPost_ret (HTd.out.ret rfl _ rfl rfl rfl) rfl ?_
        rw [HLR.out]
        exact ⟨⟨_, _, _, rfl, HI5.out.low (by omega)⟩, HTd.out.bel⟩
    · have d2 : decide (ac < 0) = false := by have := (HLD.out hB).1; simp; omega
      have d3 : decide (255 < r0 + r3) = false := by have := (HLD.out hB).2.1; simp; omega
      have HLC := Lib.hid (HLD.out hB).2.2
      rw [if_neg hB] at HLR
      clear hB
      go_enter Try.func49, Try.ntmps49
      go_wp2_with (first
        | (refine wp_al57 rfl rfl ?_)
        | (refine wp_al59 (f.cells) 57 rfl rfl rfl ?_; intro W hT; have HT := Lib.hid hT; have c1 := hT.b0.cell (k := 1) f.c1; have c2 := hT.b0.cell (k := 2) (f.cr 0 (by omega)); have c3 := hT.b0.cell (k := 3) (f.cr 1 (by omega)); have c4 := hT.b0.cell (k := 4) (f.cr 2 (by omega)); have c5 := hT.b0.cell (k := 5) (f.cr 3 (by omega)); have c6 := hT.b0.cell (k := 6) (f.cr 4 (by omega)); rw [HF.out.1] at c1; rw [HF.out.2.1] at c2; rw [HF.out.2.2.1] at c3; rw [HF.out.2.2.2.1] at c4; rw [HF.out.2.2.2.2.1] at c5; rw [HF.out.2.2.2.2.2] at c6; clear hT)
        | (refine wp_ldf rfl (.tmp 2) rfl w.heap.size rfl f HT.out.b0.range ?_))
      refine (HCR.out _).mono ?_
      rintro e W1 ⟨rfl, rfl⟩
      go_wp2_with (refine wp_ldf rfl (.tmp 2) rfl w.heap.size rfl f HT.out.b0.range ?_)
      refine (load_r f 1 ac _).mono ?_
      rintro e Wb ⟨rfl, hb1⟩
      have HTb := Lib.hid (HT.out.below hb1)
      clear hb1
      go_wp2_with (first
        | (refine wp_st1 HTb rfl (.tmp 4) (.tmp 107) rfl (Fr.at_ f 1) rfl rfl ?_; intro W3 ho hT; have HTc := Lib.hid hT; clear hT ho)
          | (refine wp_st2 HTc rfl (.tmp 5) (.tmp 108) rfl 0 ac 0 0 0 _ _ _ rfl rfl ?_; intro W4 ho hT; have HTd := Lib.hid hT; clear hT ho))
      (try simp only [Exit.inBlock, Exit.then])
      refine bodyPost_ret (HTd.out.ret rfl _ rfl rfl rfl) rfl ?_
      rw [HLR.out]
      rw [HLC.out]
      exact ⟨⟨_, _, _, rfl, Ints.nil _ _⟩, HTd.out.bel⟩
end Go.Proofs.Ytgpdknacnmapiaa
