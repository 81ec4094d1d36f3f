/-
  Parts of a proof, put together: Pg, Rf.
-/
import Derived.Test.YtgpdknacnmapiaaZj01
import Derived.Test.YtgpdknacnmapiaaZj02
import Derived.Test.YtgpdknacnmapiaaZj03
namespace Go.Proofs.Ytgpdknacnmapiaa
set_option linter.unusedVariables false
set_option linter.unusedSimpArgs false
open Go.RowKit
/-- the slice value v reads as the numbers l -/
def Ints (B : Nat) (w : World) (v : Value) (l : List Int) : Prop := ∃ ao cap, v = .slice ao l.length cap ∧ l.length ≤ cap ∧ ∀ i x, l[i]? = some x → ∃ b off, ao = some ⟨b, off, none⟩ ∧ B ≤ b ∧ w.cell? ⟨b, off + i, none⟩ = some (.int .i64 x)
theorem Ints.nil (B : Nat) (w : World) : Ints B w (.slice none 0 0) [] := ⟨none, 0, rfl, Nat.le_refl _, fun i x hx => by simp at hx⟩
theorem Ints.low {B B' : Nat} {w : World} {v : Value} {l : List Int} (h : Ints B w v l) (hb : B' ≤ B) : Ints B' w v l := by
  obtain ⟨ao, cap, rfl, hc, hr⟩ := h
  refine ⟨ao, cap, rfl, hc, fun i x hx => ?_⟩
  obtain ⟨b, off, e, h0, h1⟩ := hr i x hx
  exact ⟨b, off, e, Nat.le_trans hb h0, h1⟩
theorem Ints.oth {B : Nat} {w w' : World} {v : Value} {l : List Int} (h : Ints B w v l) (hb : ∀ b, B ≤ b → w'.heap[b]? = w.heap[b]?) : Ints B w' v l := by
  obtain ⟨ao, cap, rfl, hc, hr⟩ := h
  refine ⟨ao, cap, rfl, hc, fun i x hx => ?_⟩
  obtain ⟨b, off, e, h0, h1⟩ := hr i x hx
  exact ⟨b, off, e, h0, (World.cell?_of_block (hb b h0)).trans h1⟩
theorem Ints.below {B : Nat} {w w' : World} {v : Value} {l : List Int} (h : Ints B w v l) (hb : Below w.heap.size w w') : Ints B w' v l := by
  obtain ⟨ao, cap, rfl, hc, hr⟩ := h
  refine ⟨ao, cap, rfl, hc, fun i x hx => ?_⟩
  obtain ⟨b, off, e, h0, h1⟩ := hr i x hx
  exact ⟨b, off, e, h0, (hb.cell (World.block_lt_of_cell? _ _ h1)).trans h1⟩
/-- what a program does next: its frame, its action -/
structure Rs where
  f : Fr
  k : Int
  a : Int
  v : Int
  l : List Int
def Ans (w w' : World) (e : Ending) (r : Rs) : Prop := ∃ ao n c, e = .returned (.tuple #[.agg r.f.cells, .agg (acC r.k r.a 0 r.v 0 (.slice ao n c))]) ∧ Ints w.heap.size w' (.slice ao n c) r.l
/-- a frame of slots, in bounds -/
structure Bd (f : Fr) : Prop where
  s : f.st = 0 ∨ f.st = 1 ∨ f.st = 2
  r0 : 0 ≤ f.r 0 ∧ f.r 0 ≤ 300000
  r1 : 0 ≤ f.r 1 ∧ f.r 1 ≤ 255
  r2 : f.r 2 = 0 ∨ f.r 2 = 1
  r3 : 0 ≤ f.r 3 ∧ f.r 3 ≤ 1000
  r4 : 0 ≤ f.r 4 ∧ f.r 4 ≤ 1000000
def slotOf (f : Fr) : Int := f.r 0 + f.r 3
def lookC (f : Fr) : Int := genC (slotOf f) (f.r 2 == 1)
theorem genC_big {s : Int} (b : Bool) (h : 256 ≤ s) : genC s b = -1 := by unfold genC; split <;> rw [if_neg (by omega)]
set_option maxRecDepth 100000 in
theorem cellm_p (f : Fr) (x : Int) (w : World) (h : Bd f) : Calls Try.prog 77 #[.agg (pgC f x)] w fun e w' => e = .returned (.int .i64 (lookC f)) ∧ Below w.heap.size w w' := by
  have hb : HB (w.alloc (.cells (pgC f x) 95)) w.heap.size (pgC f x) 95 := heap_alloc_new _ _
  have c0 := hb.cell (k := 2) (by rw [pgC_get _ _ _ (by omega)]; exact f.cr 0 (by omega))
  have c2 := hb.cell (k := 4) (by rw [pgC_get _ _ _ (by omega)]; exact f.cr 2 (by omega))
  have c3 := hb.cell (k := 5) (by rw [pgC_get _ _ _ (by omega)]; exact f.cr 3 (by omega))
  have HBL : Hid (Below w.heap.size w (w.alloc (.cells (pgC f x) 95))) := Lib.hid ((Below.refl w.heap.size w).alloc (Nat.le_refl _) _)
  obtain ⟨r01, r02⟩ := h.r0
  obtain ⟨r31, r32⟩ := h.r3
  have HC : Hid (lookC f = genC (f.r 0 + f.r 3) (f.r 2 == 1)) := Lib.hid rfl
  have d0 : decide (f.r 0 + f.r 3 < 0) = false := by simp; omega
  clear hb h
  generalize f.r 0 = r0 at *
  generalize f.r 2 = r2 at *
  generalize f.r 3 = r3 at *
  by_cases hs : 256 ≤ r0 + r3
  · have d1 : decide (256 ≤ r0 + r3) = true := by simpa using hs
    have HE : Hid (lookC f = -1) := Lib.hid (by rw [HC.out]; exact genC_big _ hs)
    clear hs
    go_enter Try.func77, Try.ntmps77
    go_wp2_with fail
    go_ret
    exact ⟨by rw [HE.out]; rfl, HBL.out⟩
  · have d1 : decide (256 ≤ r0 + r3) = false := by simpa using hs
    have HP := Lib.hid (fun w' => cell_p (r0 + r3) (r2 == 1) w' (by omega))
    rw [show (r0 + r3) % 256 = r0 + r3 from Int.emod_eq_of_lt (by omega) (by omega), ← HC.out] at HP
    clear hs
    go_enter Try.func77, Try.ntmps77
    go_wp2_with fail
    refine (HP.out _).mono ?_
    rintro e w1 ⟨rfl, rfl⟩
    go_wp2_with fail
    go_ret
    exact ⟨rfl, HBL.out⟩
theorem below_one (w : World) (x : Int) : Below w.heap.size w (w.alloc (.cells #[.int .i64 x] 3)) := (Below.refl _ _).alloc (Nat.le_refl _) _
theorem ints_one (w : World) (x : Int) : Ints w.heap.size (w.alloc (.cells #[.int .i64 x] 3)) (.slice (some ⟨w.heap.size, 0, none⟩) 1 1) [x] := by
  refine ⟨_, 1, rfl, Nat.le_refl _, fun i y hy => ⟨_, _, rfl, Nat.le_refl _, ?_⟩⟩
  match i, hy with
  | 0, hy => simp at hy; subst hy; simp [go_sem]
theorem below_two (w : World) (x y : Int) : Below w.heap.size w (w.alloc (.cells #[.int .i64 x, .int .i64 y] 3)) := (Below.refl _ _).alloc (Nat.le_refl _) _
theorem ints_two (w : World) (x y : Int) : Ints w.heap.size (w.alloc (.cells #[.int .i64 x, .int .i64 y] 3)) (.slice (some ⟨w.heap.size, 0, none⟩) 2 2) [x, y] := by
  refine ⟨_, 2, rfl, Nat.le_refl _, fun i z hz => ⟨_, _, rfl, Nat.le_refl _, ?_⟩⟩
  match i, hz with
  | 0, hz => simp at hz; subst hz; simp [go_sem]
  | 1, hz => simp at hz; subst hz; simp [go_sem]
set_option maxHeartbeats 1000000 in
set_option maxRecDepth 100000 in
theorem taken_p (f : Fr) (x : Int) (w : World) : Calls Try.prog 45 #[.agg (pgC f x)] w fun e w' => Ans w w' e ⟨f, 7, 0, 0, [0, f.r 4]⟩ ∧ Below w.heap.size w w' := by
  obtain ⟨r4, hr4⟩ : ∃ r4, f.r 4 = r4 := ⟨_, rfl⟩
  have HR4 := Lib.hid hr4
  clear hr4
  go_enter Try.func45, Try.ntmps45
  go_wp2_with (first
    | (refine wp_al57 rfl rfl ?_)
    | (refine wp_al59 (pgC f x) 95 rfl rfl rfl ?_; intro W hT; have HT := Lib.hid hT; have c4 := hT.b0.cell (k := 6) (by rw [pgC_get _ _ _ (by omega)]; exact f.cr 4 (by omega)); rw [HR4.out] at c4; clear hT)
    | (refine wp_ldp rfl (.tmp 1) rfl w.heap.size rfl f x HT.out.b0 ?_))
  have HB2 := Lib.hid (below_two W 0 r4)
  have HI2 := Lib.hid ((ints_two W 0 r4).low HT.out.big)
  have HT1 := Lib.hid (HT.out.below HB2.out)
  refine (end_p f x _ _ _ _).mono ?_
  rintro e W1 ⟨rfl, hb1⟩
  have HT2 := Lib.hid (HT1.out.below hb1)
  have HI3 := Lib.hid (HI2.out.below hb1)
  clear hb1
  go_wp2_with (first
    | (refine wp_st1 HT2 rfl (.tmp 2) (.tmp 11) rfl f rfl rfl ?_; intro W3 ho hT; have HT3 := Lib.hid hT; have HI4 := Lib.hid (HI3.out.oth fun b hb => ho b hb); clear hT ho)
    | (refine wp_st2 HT3 rfl (.tmp 3) (.tmp 12) rfl 7 0 0 0 0 _ _ _ rfl rfl ?_; intro W4 ho hT; have HT4 := Lib.hid hT; have HI5 := Lib.hid (HI4.out.oth fun b hb => ho b hb); clear hT ho))
  (try simp only [Exit.inBlock, Exit.then])
  refine bodyPost_ret (HT4.out.ret rfl _ rfl rfl rfl) rfl ?_
  exact ⟨⟨_, _, _, rfl, by rw [HR4.out]; exact HI5.out.low (by omega)⟩, HT4.out.bel⟩
set_option maxHeartbeats 1000000 in
set_option maxRecDepth 100000 in
theorem dropped_p (f : Fr) (x : Int) (w : World) : Calls Try.prog 47 #[.agg (pgC f x)] w fun e w' => Ans w w' e ⟨f, 7, 0, 0, []⟩ ∧ Below w.heap.size w w' := by
  go_enter Try.func47, Try.ntmps47
  go_wp2_with (first
    | (refine wp_al57 rfl rfl ?_)
    | (refine wp_al59 (pgC f x) 95 rfl rfl rfl ?_; intro W hT; have HT := Lib.hid hT; clear hT)
    | (refine wp_ldp rfl (.tmp 1) rfl w.heap.size rfl f x HT.out.b0 ?_))
  refine (end_p f x _ _ _ _).mono ?_
  rintro e W1 ⟨rfl, hb1⟩
  have HT2 := Lib.hid (HT.out.below hb1)
  clear hb1
  go_wp2_with (first
    | (refine wp_st1 HT2 rfl (.tmp 2) (.tmp 6) rfl f rfl rfl ?_; intro W3 ho hT; have HTc := Lib.hid hT; clear hT ho)
    | (refine wp_st2 HTc rfl (.tmp 3) (.tmp 7) rfl 7 0 0 0 0 _ _ _ rfl rfl ?_; intro W4 ho hT; have HTd := Lib.hid hT; clear hT ho))
  (try simp only [Exit.inBlock, Exit.then])
  refine bodyPost_ret (HTd.out.ret rfl _ rfl rfl rfl) rfl ?_
  exact ⟨⟨_, _, _, rfl, Ints.nil _ _⟩, HTd.out.bel⟩
def lookR (f : Fr) : Rs := if f.r 1 ≤ f.r 3 then ⟨f, 7, 0, 0, [120]⟩ else if lookC f < 0 then ⟨f, 7, 0, 0, [2]⟩ else ⟨f.at_ 1, 0, lookC f, 0, []⟩
set_option maxHeartbeats 2000000 in
set_option maxRecDepth 100000 in
theorem look_p (f : Fr) (x : Int) (w : World) (h : Bd f) : Calls Try.prog 43 #[.agg (pgC f x)] w fun e w' => Ans w w' e (lookR f) ∧ Below w.heap.size w w' := by
  have HC := Lib.hid (fun w => cellm_p f x w h)
  obtain ⟨r1, hr1⟩ : ∃ r1, f.r 1 = r1 := ⟨_, rfl⟩
  obtain ⟨r3, hr3⟩ : ∃ r3, f.r 3 = r3 := ⟨_, rfl⟩
  have HLR : Hid (lookR f = if r1 ≤ r3 then ⟨f, 7, 0, 0, [120]⟩ else if lookC f < 0 then ⟨f, 7, 0, 0, [2]⟩ else ⟨f.at_ 1, 0, lookC f, 0, []⟩) := Lib.hid (by rw [← hr1, ← hr3]; rfl)
  generalize lookR f = R at *
  generalize lookC f = c at *
  have HR1 := Lib.hid hr1
  have HR3 := Lib.hid hr3
  clear hr1 hr3 h
  by_cases hA : r1 ≤ r3
  · have d1 : decide (r1 ≤ r3) = true := by simpa using hA
    rw [if_pos hA] at HLR
    clear hA
    go_enter Try.func43, Try.ntmps43
    go_wp2_with (first
      | (refine wp_al57 rfl rfl ?_)
      | (refine wp_al59 (pgC f x) 95 rfl rfl rfl ?_; intro W hT; have HT := Lib.hid hT; clear hT)
      | (refine wp_ldp rfl (.tmp 1) rfl w.heap.size rfl f x HT.out.b0 ?_))
    refine (HC.out _).mono ?_
    rintro e W1 ⟨rfl, hb1⟩
    have HT1 := Lib.hid (HT.out.below hb1)
    have c1 := HT1.out.b0.cell (k := 3) (by rw [pgC_get _ _ _ (by omega)]; exact f.cr 1 (by omega))
    have c3 := HT1.out.b0.cell (k := 5) (by rw [pgC_get _ _ _ (by omega)]; exact f.cr 3 (by omega))
    rw [HR1.out] at c1
    rw [HR3.out] at c3
    clear hb1
    go_wp2_with (refine wp_ldp rfl (.tmp 1) rfl w.heap.size rfl f x HT1.out.b0 ?_)
    have HB2 := Lib.hid (below_one W1 120)
    have HI2 := Lib.hid ((ints_one W1 120).low HT1.out.big)
    have HTa := Lib.hid (HT1.out.below HB2.out)
    refine (end_p f x _ _ _ _).mono ?_
    rintro e Wb ⟨rfl, hb1⟩
    have HTb := Lib.hid (HTa.out.below hb1)
    have HI3 := Lib.hid (HI2.out.below hb1)
    clear hb1
    go_wp2_with (first
        | (refine wp_st1 HTb rfl (.tmp 2) (.tmp 20) rfl f rfl rfl ?_; intro W3 ho hT; have HTc := Lib.hid hT; have HI4 := Lib.hid (HI3.out.oth fun b hb => ho b hb); clear hT ho)
        | (refine wp_st2 HTc rfl (.tmp 3) (.tmp 21) rfl 7 0 0 0 0 _ _ _ rfl rfl ?_; intro W4 ho hT; have HTd := Lib.hid hT; have HI5 := Lib.hid (HI4.out.oth fun b hb => ho b hb); clear hT ho))
    (try simp only [Exit.inBlock, Exit.then])
    refine bodyPost_ret (HTd.out.ret rfl _ rfl rfl rfl) rfl ?_
    rw [HLR.out]
    exact ⟨⟨_, _, _, rfl, HI5.out.low (by omega)⟩, HTd.out.bel⟩
  · have d1 : decide (r1 ≤ r3) = false := by simpa using hA
    rw [if_neg hA] at HLR
    clear hA
    by_cases hB : c < 0
    · have d2 : decide (c < 0) = true := by simpa using hB
      rw [if_pos hB] at HLR
      clear hB
      go_enter Try.func43, Try.ntmps43
      go_wp2_with (first
        | (refine wp_al57 rfl rfl ?_)
        | (refine wp_al59 (pgC f x) 95 rfl rfl rfl ?_; intro W hT; have HT := Lib.hid hT; clear hT)
        | (refine wp_ldp rfl (.tmp 1) rfl w.heap.size rfl f x HT.out.b0 ?_))
      refine (HC.out _).mono ?_
      rintro e W1 ⟨rfl, hb1⟩
      have HT1 := Lib.hid (HT.out.below hb1)
      have c1 := HT1.out.b0.cell (k := 3) (by rw [pgC_get _ _ _ (by omega)]; exact f.cr 1 (by omega))
      have c3 := HT1.out.b0.cell (k := 5) (by rw [pgC_get _ _ _ (by omega)]; exact f.cr 3 (by omega))
      rw [HR1.out] at c1
      rw [HR3.out] at c3
      clear hb1
      go_wp2_with (refine wp_ldp rfl (.tmp 1) rfl w.heap.size rfl f x HT1.out.b0 ?_)
      have HB2 := Lib.hid (below_one W1 2)
      have HI2 := Lib.hid ((ints_one W1 2).low HT1.out.big)
      have HTa := Lib.hid (HT1.out.below HB2.out)
      refine (end_p f x _ _ _ _).mono ?_
      rintro e Wb ⟨rfl, hb1⟩
      have HTb := Lib.hid (HTa.out.below hb1)
      have HI3 := Lib.hid (HI2.out.below hb1)
      clear hb1
      go_wp2_with (first
          | (refine wp_st1 HTb rfl (.tmp 2) (.tmp 28) rfl f rfl rfl ?_; intro W3 ho hT; have HTc := Lib.hid hT; have HI4 := Lib.hid (HI3.out.oth fun b hb => ho b hb); clear hT ho)
          | (refine wp_st2 HTc rfl (.tmp 3) (.tmp 29) rfl 7 0 0 0 0 _ _ _ rfl rfl ?_; intro W4 ho hT; have HTd := Lib.hid hT; have HI5 := Lib.hid (HI4.out.oth fun b hb => ho b hb); clear hT ho))
      (try simp only [Exit.inBlock, Exit.then])
      refine bodyPost_ret (HTd.out.ret rfl _ rfl rfl rfl) rfl ?_
      rw [HLR.out]
      exact ⟨⟨_, _, _, rfl, HI5.out.low (by omega)⟩, HTd.out.bel⟩
    · have d2 : decide (c < 0) = false := by simpa using hB
      rw [if_neg hB] at HLR
      clear hB
      go_enter Try.func43, Try.ntmps43
      go_wp2_with (first
        | (refine wp_al57 rfl rfl ?_)
        | (refine wp_al59 (pgC f x) 95 rfl rfl rfl ?_; intro W hT; have HT := Lib.hid hT; clear hT)
        | (refine wp_ldp rfl (.tmp 1) rfl w.heap.size rfl f x HT.out.b0 ?_))
      refine (HC.out _).mono ?_
      rintro e W1 ⟨rfl, hb1⟩
      have HT1 := Lib.hid (HT.out.below hb1)
      have c1 := HT1.out.b0.cell (k := 3) (by rw [pgC_get _ _ _ (by omega)]; exact f.cr 1 (by omega))
      have c3 := HT1.out.b0.cell (k := 5) (by rw [pgC_get _ _ _ (by omega)]; exact f.cr 3 (by omega))
      rw [HR1.out] at c1
      rw [HR3.out] at c3
      clear hb1
      go_wp2_with (first
        | (refine wp_set0 HT1 rfl (.tmp 31) (.const (.int .i64 1)) rfl 1 1 rfl rfl (by rw [pgC_size]; omega) ?_; intro W2 ho hT; rw [pgC_set1] at hT; have HTa := Lib.hid hT; clear hT ho c1 c3)
        | (refine wp_ldf rfl (.tmp 32) rfl w.heap.size rfl (f.at_ 1) HTa.out.b0.frame ?_)
        | (refine wp_st1 HTa rfl (.tmp 2) (.tmp 33) rfl (f.at_ 1) rfl rfl ?_; intro W3 ho hT; have HTc := Lib.hid hT; clear hT ho)
          | (refine wp_st2 HTc rfl (.tmp 3) (.tmp 35) rfl 0 c 0 0 0 _ _ _ rfl rfl ?_; intro W4 ho hT; have HTd := Lib.hid hT; clear hT ho))
      (try simp only [Exit.inBlock, Exit.then])
      refine bodyPost_ret (HTd.out.ret rfl _ rfl rfl rfl) rfl ?_
      rw [HLR.out]
      exact ⟨⟨_, _, _, rfl, Ints.nil _ _⟩, HTd.out.bel⟩
end Go.Proofs.Ytgpdknacnmapiaa
namespace Go.Proofs.Ytgpdknacnmapiaa
set_option linter.unusedVariables false
set_option linter.unusedSimpArgs false
open Go.RowKit
set_option maxHeartbeats 1000000 in
set_option maxRecDepth 100000 in
theorem end_r (f : Fr) (ao : Option Addr) (n c : Nat) (w : World) : Calls Try.prog 51 #[.agg f.cells, .slice ao n c] w fun e w' => e = .returned (.tuple #[.agg (f.at_ 99).cells, .agg (acC 7 0 0 0 0 (.slice ao n c))]) ∧ Below w.heap.size w w' := by
  go_enter Try.func51, Try.ntmps51
  go_wp2_with (first
    | (refine wp_al57 rfl rfl ?_)
    | (refine wp_al59 (f.cells) 57 rfl rfl rfl ?_; intro W hT; have HT := Lib.hid hT; clear hT)
    | (refine wp_set0 HT rfl (.tmp 6) (.const (.int .i64 99)) rfl 1 99 rfl rfl (by rw [Fr.size]; omega) ?_; intro W2 ho hT; rw [Fr.set1] at hT; have HTa := Lib.hid hT; clear hT ho)
    | (refine wp_ldf rfl (.tmp 2) rfl w.heap.size rfl (f.at_ 99) HTa.out.b0.range ?_)
    | (refine wp_st1 HTa rfl (.tmp 4) (.tmp 7) rfl (f.at_ 99) rfl rfl ?_; intro W3 ho hT; have HTc := Lib.hid hT; clear hT ho)
    | (refine wp_st2 HTc rfl (.tmp 5) (.tmp 9) rfl 7 0 0 0 0 _ _ _ rfl rfl ?_; intro W4 ho hT; have HTd := Lib.hid hT; clear hT ho))
  (try simp only [Exit.inBlock, Exit.then])
  refine bodyPost_ret (HTd.out.ret rfl _ rfl rfl rfl) rfl ?_
  exact ⟨rfl, HTd.out.bel⟩
set_option maxHeartbeats 1000000 in
set_option maxRecDepth 100000 in
theorem store_r (f : Fr) (s a v : Int) (w : World) : Calls Try.prog 52 #[.agg f.cells, .int .i64 s, .int .i64 a, .int .i64 v, .int .i64 0] w fun e w' => e = .returned (.tuple #[.agg (f.at_ s).cells, .agg (acC 1 a 0 v 0 (.slice none 0 0))]) ∧ Below w.heap.size w w' := by
  go_enter Try.func52, Try.ntmps52
  go_wp2_with (first
    | (refine wp_al57 rfl rfl ?_)
    | (refine wp_al59 (f.cells) 57 rfl rfl rfl ?_; intro W hT; have HT := Lib.hid hT; clear hT)
    | (refine wp_set0 HT rfl (.tmp 13) (.tmp 12) rfl 1 s rfl rfl (by rw [Fr.size]; omega) ?_; intro W2 ho hT; rw [Fr.set1] at hT; have HTa := Lib.hid hT; clear hT ho)
    | (refine wp_ldf rfl (.tmp 5) rfl w.heap.size rfl (f.at_ s) HTa.out.b0.range ?_)
    | (refine wp_st1 HTa rfl (.tmp 10) (.tmp 14) rfl (f.at_ s) rfl rfl ?_; intro W3 ho hT; have HTc := Lib.hid hT; clear hT ho)
    | (refine wp_st2 HTc rfl (.tmp 11) (.tmp 18) rfl 1 a 0 v 0 _ _ _ rfl rfl ?_; intro W4 ho hT; have HTd := Lib.hid hT; clear hT ho))
  (try simp only [Exit.inBlock, Exit.then])
  refine bodyPost_ret (HTd.out.ret rfl _ rfl rfl rfl) rfl ?_
  exact ⟨rfl, HTd.out.bel⟩
set_option maxHeartbeats 1000000 in
set_option maxRecDepth 100000 in
theorem load_r (f : Fr) (s a : Int) (w : World) : Calls Try.prog 80 #[.agg f.cells, .int .i64 s, .int .i64 a, .int .i64 0] w fun e w' => e = .returned (.tuple #[.agg (f.at_ s).cells, .agg (acC 0 a 0 0 0 (.slice none 0 0))]) ∧ Below w.heap.size w w' := by
  go_enter Try.func80, Try.ntmps80
  go_wp2_with (first
    | (refine wp_al57 rfl rfl ?_)
    | (refine wp_al59 (f.cells) 57 rfl rfl rfl ?_; intro W hT; have HT := Lib.hid hT; clear hT)
    | (refine wp_set0 HT rfl (.tmp 11) (.tmp 10) rfl 1 s rfl rfl (by rw [Fr.size]; omega) ?_; intro W2 ho hT; rw [Fr.set1] at hT; have HTa := Lib.hid hT; clear hT ho)
    | (refine wp_ldf rfl (.tmp 4) rfl w.heap.size rfl (f.at_ s) HTa.out.b0.range ?_)
    | (refine wp_st1 HTa rfl (.tmp 8) (.tmp 12) rfl (f.at_ s) rfl rfl ?_; intro W3 ho hT; have HTc := Lib.hid hT; clear hT ho)
    | (refine wp_st2 HTc rfl (.tmp 9) (.tmp 15) rfl 0 a 0 0 0 _ _ _ rfl rfl ?_; intro W4 ho hT; have HTd := Lib.hid hT; clear hT ho))
  (try simp only [Exit.inBlock, Exit.then])
  refine bodyPost_ret (HTd.out.ret rfl _ rfl rfl rfl) rfl ?_
  exact ⟨rfl, HTd.out.bel⟩
end Go.Proofs.Ytgpdknacnmapiaa
