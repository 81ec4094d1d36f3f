/-
  What the programs of slots do next (chapter 14's law SlotsStep): the walk.
-/
import Derived.Test.YtgpdknacnmapiaaWk
namespace Go.Proofs.Ytgpdknacnmapiaa
set_option linter.unusedVariables false
open Go.RowKit
/-- the slice value v reads as the numbers l -/
def SlI (q : IntKind) (w : World) (v : Value) (l : List Int) : Prop :=
  (∀ z ∈ l, (Lit.int q z).wf = true) ∧ ∃ ao cap, v = .slice ao l.length cap ∧ l.length ≤ cap ∧ cap ≤ maxLen ∧
    (l.length = 0 ∨ ∃ b off, ao = some ⟨b, off, none⟩ ∧ ∀ i, i < l.length → w.cell? ⟨b, off + i, none⟩ = some (.int q (l.getD i 0)))
theorem SlI.nil (q : IntKind) (w : World) : SlI q w (.slice none 0 0) [] := ⟨fun z hz => (by cases hz), none, 0, rfl, Nat.le_refl _, Nat.zero_le _, .inl rfl⟩
theorem SlI.of_ints {q : IntKind} {w : World} {x : Addr} {len cap : Nat} {zs : List Int} (hl : len ≤ cap) (hm : cap ≤ maxLen) (hz : zs.length = cap) (hcell : ∀ i, i < zs.length → w.cell? (x.add i) = some (.int q (zs.getD i 0))) (hwz : ∀ n ∈ zs, (Lit.int q n).wf = true) :
    ∃ l, SlI q w (.slice (some x) len cap) l := by
  have hlen : (zs.take len).length = len := by rw [List.length_take]; omega
  refine ⟨zs.take len, fun z hz => hwz z (List.mem_of_mem_take hz), some x, cap, by rw [hlen], by rw [hlen]; exact hl, hm, ?_⟩
  rw [hlen]
  by_cases h0 : len = 0
  · exact .inl h0
  · obtain ⟨b, off, spot⟩ := x
    have h00 := hcell 0 (by omega)
    have hspot : spot = none := by simpa [Addr.add] using World.cell?_spot h00
    subst hspot
    refine .inr ⟨b, off, rfl, fun i hi => ?_⟩
    have := hcell i (by omega)
    rw [Addr.add_lit] at this
    rw [this]
    simp [List.getD, hi]

theorem bounds_i64 {n : Int} (h : (Lit.int .i64 n).wf = true) : -9223372036854775808 ≤ n ∧ n < 9223372036854775808 := by
  simp [Lit.wf, IntKind.min, IntKind.max, IntKind.bits, IntKind.signed] at h
  omega
theorem wf_i64 {n : Int} (h : (Lit.int .i64 n).wf = true) : I64 n := by
  have := bounds_i64 h
  unfold I64; omega
theorem wp_b57z {ops : Array Oper} {rest : List Oper} {o : Oper} {a : Act} {w : World} {Q : Exit → Act → World → Prop} (hg : o.guard = none) (ho : o.op = .build 57 #[(0, .const (.int .i8 56))]) (F : Fr) (hC : ∀ w, (Instr.build 57 #[(0, .int .i8 56)]).run Try.prog w = .ok (.agg F.cells) w) (h : wpList Try.prog ops Q rest (a.put o.dst (.agg F.cells)) w) : wpList Try.prog ops Q (o :: rest) a w := by
  refine wpList_plain hg fun K hK => ?_
  unfold Oper.wp execOp
  simp only [ho]
  have e : a.eval (.const (.int .i8 56)) = .int .i8 56 := rfl
  simp [e, hC, Sem.run_bind]
  exact hK _ _ h
/-- registers filled from a list's head -/
def fillF (f : Fr) (L : List Int) (j : Nat) : Fr := { f with r := fun k => if k < j then L.getD k 0 else f.r k }
theorem fillF_0 (f : Fr) (L : List Int) : fillF f L 0 = f := rfl
theorem fillF_s (f : Fr) (L : List Int) (j : Nat) (x : Int) (h : L[j]? = some x) : (fillF f L j).reg j x = fillF f L (j + 1) := by
  unfold fillF Fr.reg
  congr 1
  funext k
  by_cases h1 : k = j
  · subst h1; rw [if_pos rfl, if_pos (by omega)]; simp [List.getD, h]
  · rw [if_neg h1]
    by_cases h2 : k < j
    · show (if k < j then L.getD k 0 else f.r k) = _
      rw [if_pos h2, if_pos (by omega)]
    · show (if k < j then L.getD k 0 else f.r k) = _
      rw [if_neg h2, if_neg (by omega)]
def F56 : Fr := ⟨56, 0, fun _ => 0⟩
def argL (free node : Bool) (a b : Int) : List Int := if free then [a % 262144, if node then 1 else 0] else [a % 256, b % 256, if node then 1 else 0]
def startF (F : Fr) (free node : Bool) (a b : Int) : Fr := fillF (if free then F.prog 57 else F) (argL free node a b) (if free then 2 else 3)
theorem start_inv (free node : Bool) (a b : Int) : Inv (startF F56 free node a b) 0 := by
  have h1 := Int.emod_nonneg a (show (262144 : Int) ≠ 0 by omega)
  have h2 := Int.emod_lt_of_pos a (show (0 : Int) < 262144 by omega)
  have h3 := Int.emod_nonneg a (show (256 : Int) ≠ 0 by omega)
  have h4 := Int.emod_lt_of_pos a (show (0 : Int) < 256 by omega)
  have h5 := Int.emod_nonneg b (show (256 : Int) ≠ 0 by omega)
  have h6 := Int.emod_lt_of_pos b (show (0 : Int) < 256 by omega)
  cases free <;> cases node
  · refine ⟨.inl rfl, .inl rfl, fun e => by have : (56 : Int) = 57 := e; omega, fun _ e => by have : (0 : Int) = 1 := e; omega, ⟨h3, ?_⟩, ⟨h5, ?_⟩, .inl rfl, ⟨Int.le_refl _, Int.le_refl _⟩, ⟨Int.le_refl _, show (0 : Int) ≤ _ by omega⟩⟩
    · show a % 256 ≤ _; omega
    · show b % 256 ≤ _; omega
  · refine ⟨.inl rfl, .inl rfl, fun e => by have : (56 : Int) = 57 := e; omega, fun _ e => by have : (0 : Int) = 1 := e; omega, ⟨h3, ?_⟩, ⟨h5, ?_⟩, .inr rfl, ⟨Int.le_refl _, Int.le_refl _⟩, ⟨Int.le_refl _, show (0 : Int) ≤ _ by omega⟩⟩
    · show a % 256 ≤ _; omega
    · show b % 256 ≤ _; omega
  · refine ⟨.inr rfl, .inl rfl, fun _ => by show (0 : Int) ≠ 2; omega, fun e => by have : (57 : Int) = 56 := e; omega, ⟨h1, ?_⟩, ⟨show (0 : Int) ≤ 0 by omega, show (0 : Int) ≤ 255 by omega⟩, .inl rfl, ⟨Int.le_refl _, Int.le_refl _⟩, ⟨Int.le_refl _, show (0 : Int) ≤ _ by omega⟩⟩
    show a % 262144 ≤ _; omega
  · refine ⟨.inr rfl, .inl rfl, fun _ => by show (0 : Int) ≠ 2; omega, fun e => by have : (57 : Int) = 56 := e; omega, ⟨h1, ?_⟩, ⟨show (0 : Int) ≤ 1 by omega, show (1 : Int) ≤ 255 by omega⟩, .inl rfl, ⟨Int.le_refl _, Int.le_refl _⟩, ⟨Int.le_refl _, show (0 : Int) ≤ _ by omega⟩⟩
    show a % 262144 ≤ _; omega
set_option maxRecDepth 100000 in
theorem bl56 (w : World) : (Instr.build 57 #[(0, .int .i8 56)]).run Try.prog w = .ok (.agg F56.cells) w := by kernel_rfl
/-- the first of what came, in a block between B and N -/
def GotB (B N : Nat) (w : World) (v : Value) (x : Int) : Prop := (v = .slice none 0 0 ∧ x = 0) ∨ ∃ b o c, v = .slice (some ⟨b, o, none⟩) 1 c ∧ B < b ∧ b < N ∧ w.cell? ⟨b, o, none⟩ = some (.int .i64 x)
theorem GotB.got {B N : Nat} {w : World} {v : Value} {x : Int} (h : GotB B N w v x) : GotV w v x := by
  rcases h with h | ⟨b, o, c, e, _, _, h⟩
  · exact .inl h
  · exact .inr ⟨_, c, e, h⟩
theorem GotB.keep {B N : Nat} {w w' : World} {v : Value} {x : Int} (h : GotB B N w v x) (hk : ∀ b, B < b → b < N → w'.heap[b]? = w.heap[b]?) : GotB B N w' v x := by
  rcases h with h | ⟨b, o, c, e, h1, h2, h⟩
  · exact .inl h
  · exact .inr ⟨b, o, c, e, h1, h2, (World.cell?_of_block (hk b h1 h2)).trans h⟩
theorem GotB.below {B N : Nat} {w w' : World} {v : Value} {x : Int} (h : GotB B N w v x) (hb : Below w.heap.size w w') : GotB B N w' v x := by
  rcases h with h | ⟨b, o, c, e, h1, h2, h⟩
  · exact .inl h
  · exact .inr ⟨b, o, c, e, h1, h2, (hb.cell (World.block_lt_of_cell? _ _ h)).trans h⟩
theorem GotB.up {B N N' : Nat} {w : World} {v : Value} {x : Int} (h : GotB B N w v x) (hn : N ≤ N') : GotB B N' w v x := by
  rcases h with h | ⟨b, o, c, e, h1, h2, h⟩
  · exact .inl h
  · exact .inr ⟨b, o, c, e, h1, Nat.lt_of_lt_of_le h2 hn, h⟩
/-- both go the same step -/
theorem both_step {f : Fr} {j : Nat} (h : Inv f j) (hj : j ≤ 900) (x : Int) (hx : 0 ≤ x ∧ x ≤ 4095) : ∃ f2 f3 k a v l,
    (∀ vv w, GotV w vv x → Calls Try.prog 19 #[.agg f.cells, vv] w fun e w' => Ans w w' e ⟨f2, k, a, v, l⟩ ∧ Below w.heap.size w w') ∧
    (∀ vv w, GotV w vv x → Calls Try.prog 20 #[.agg f.cells, vv] w fun e w' => Ans w w' e ⟨f3, k, a, v, l⟩ ∧ Below w.heap.size w w') ∧
    (k ≠ 7 → f3 = f2 ∧ Inv f2 (j + 1)) ∧ l.length ≤ 2 := by
  have h1 := fun vv w hg => h.next_p hj x hx vv w hg
  have h2 := fun vv w hg => h.next_r hj x hx vv w hg
  have h3 := h.next hj x hx
  have h4 := nextG_l f x
  have h5 := refR_k (nextG f x)
  have h6 := refR_go (r := nextG f x)
  generalize hR : nextG f x = R at *
  generalize hR' : refR R = R' at *
  obtain ⟨f2, k, a, v, l⟩ := R
  obtain ⟨f3, k', a', v', l'⟩ := R'
  simp only at h3 h4 h5 h6
  obtain ⟨rfl, rfl, rfl, rfl⟩ := h5
  exact ⟨f2, f3, _, _, _, _, h1, h2, fun hk => ⟨by have := h6 hk; injection this, h3 hk⟩, h4⟩
set_option maxHeartbeats 8000000 in
set_option maxRecDepth 100000 in
theorem step_ff (a2 a3 : Int) (v : Value) (l4 : List Int) (w : World) (h4 : SlI .i64 w v l4) (hm : l4.length ≤ 60) (F : Fr) (hF : ∀ w, (Instr.build 57 #[(0, .int .i8 56)]).run Try.prog w = .ok (.agg F.cells) w) (hin : Inv (startF F false false a2 a3) 0) : Calls Try.prog 6 #[.bool false, .bool false, .int .i64 a2, .int .i64 a3, v] w fun e w' => e = .returned (.bool true) ∧ Below w.heap.size w w' := by
  obtain ⟨hwf, ao, cap, rfl, hcap, hmax, hcl⟩ := h4
  have HCL := Lib.hid hcl
  obtain ⟨m, hM⟩ : ∃ m, l4.length = m := ⟨_, rfl⟩
  have HM := Lib.hid hM
  rw [hM] at hm hcap hcl ⊢
  have d0 : decide ((60 : Int) < (m : Int)) = false := by simp; omega
  have ea := and_255 a2
  have eb := and_255 a3
  have ec := and_18 a2
  have HFF := Lib.hid hF
  have HIV := Lib.hid hin
  clear hF hin hcl hM hwf
  have HB0 : Hid (Below w.heap.size w (w.alloc (.cells #[.int .i64 (a2 % 256), .int .i64 (a3 % 256), .int .i64 0] 3))) := Lib.hid ((Below.refl _ _).alloc (Nat.le_refl _) _)
  have HAC : Hid (∀ k x, ([a2 % 256, a3 % 256, 0] : List Int)[k]? = some x → (w.alloc (.cells #[.int .i64 (a2 % 256), .int .i64 (a3 % 256), .int .i64 0] 3)).cell? ⟨w.heap.size, k, none⟩ = some (.int .i64 x)) := Lib.hid (by
    intro k x hk
    match k, hk with
    | 0, hk => simp at hk; subst hk; simp [go_sem]
    | 1, hk => simp at hk; subst hk; simp [go_sem]
    | 2, hk => simp at hk; subst hk; simp [go_sem]
    | k + 3, hk => simp at hk)
  go_enter Try.func6, Try.ntmps6
  go_wp2_with (first
    | (refine wp_b57z rfl rfl F HFF.out ?_)
    | (refine wp_al57g rfl rfl ?_; intro W1 hb hZ; have HB1 := Lib.hid (HB0.out.trans (hb.mono HB0.out.size)); have HC1 := Lib.hid (fun k x hk => (hb.cell (World.block_lt_of_cell? _ _ (HAC.out k x hk))).trans (HAC.out k x hk)); have HZ1 := Lib.hid hZ; clear hb hZ)
    | (refine wp_stfg rfl (.tmp 12) (.tmp 38) rfl (w.alloc (.cells #[.int .i64 (a2 % 256), .int .i64 (a3 % 256), .int .i64 0] 3)).heap.size F rfl rfl Fr.zero HZ1.out ?_; intro W2 hb ho hF hs; have HB2 := Lib.hid (HB1.out.trans (hb _ HB0.out.size)); have HC2 := Lib.hid (fun k x hk => (World.cell?_of_block (ho _ (Nat.ne_of_lt (World.block_lt_of_cell? _ _ (HAC.out k x hk))))).trans (HC1.out k x hk)); simp only [World.size_alloc] at hF; have HZ2 := Lib.hid hF; clear hb ho hF hs)
  )
  have HFB : Hid (w.heap.size ≤ (w.heap.size + 1) ∧ w.heap.size < (w.heap.size + 1)) := Lib.hid (by omega)
  clear HAC HB0 HZ1
  go_loopw [13] (fun iv wr => ∃ j : Nat, j ≤ 3 ∧ iv = .int .i64 j ∧ Below w.heap.size w wr ∧ HB wr (w.heap.size + 1) (fillF F [a2 % 256, a3 % 256, 0] j).cells 57 ∧ ∀ k x, ([a2 % 256, a3 % 256, 0] : List Int)[k]? = some x → wr.cell? ⟨w.heap.size, k, none⟩ = some (.int .i64 x)) (fun iv _ => 3 - (intOf iv).toNat)
  case atStart => exact ⟨0, Nat.zero_le _, rfl, HB2.out, HZ2.out, HC2.out⟩
  case round =>
    obtain ⟨j, hj, rfl, hB, hZ, hC⟩ := hrel
    have HBr := Lib.hid hB
    have HZr := Lib.hid hZ
    have HCr := Lib.hid hC
    clear hB hZ hC
    by_cases hlt : j < 3
    · obtain ⟨x, hx⟩ : ∃ x, ([a2 % 256, a3 % 256, 0] : List Int)[j]? = some x := ⟨([a2 % 256, a3 % 256, 0] : List Int)[j]'(by simpa using hlt), List.getElem?_eq_getElem _⟩
      have hcell := HCr.out j x hx
      have hj3 : (j : Int) < 3 := by omega
      have hj96 : (j : Int) < 96 := by omega
      have HX := Lib.hid hx
      clear hx
      go_wp2_with (refine wp_setrg rfl (.tmp 53) (.tmp 51) rfl (w.heap.size + 1) j (by omega) x rfl rfl _ HZr.out ?_; intro W5 hb ho hF hs; rw [fillF_s _ _ _ _ HX.out] at hF; have HB5 := Lib.hid (HBr.out.trans (hb _ HFB.out.1)); have HC5 := Lib.hid (fun k x hk => (World.cell?_of_block (ho _ (Nat.ne_of_lt HFB.out.2))).trans (HCr.out k x hk)); have HZ5 := Lib.hid hF; clear hb ho hF hs)
      go_roundw
      case rel => exact ⟨j + 1, hlt, rfl, HB5.out, HZ5.out, HC5.out⟩
      case measure => simp [intOf]; omega
    · have e : j = 3 := by omega
      subst e
      clear hlt hj HCr
      have HSF : Hid (fillF F [a2 % 256, a3 % 256, 0] 3 = startF F false false a2 a3) := Lib.hid rfl
      rw [HSF.out] at HZr
      have HIN := Lib.hid (HIV.out : Inv (startF F false false a2 a3) 0)
      generalize startF F false false a2 a3 = SF at *
      clear HSF HIV
      go_wp2_with (first
        | (refine wp_ldf rfl (.tmp 12) rfl (w.heap.size + 1) rfl SF HZr.out.range ?_)
        | (refine wp_al57g rfl rfl ?_; intro W6 hb hZ; have HB6 := Lib.hid (HBr.out.trans (hb.mono HBr.out.size)); have HZ6 := Lib.hid (HZr.out.below hb); have HY6 := Lib.hid hZ; clear hb hZ)
        | (refine wp_stfg rfl (.tmp 14) (.tmp 54) rfl wr.heap.size SF rfl rfl Fr.zero HY6.out ?_; intro W7 hb ho hF hs; have HB7 := Lib.hid (HB6.out.trans (hb _ HBr.out.size)); have HZ7 := Lib.hid (HZ6.out.oth (ho _ (Nat.ne_of_lt HZr.out.lt))); have HY7 := Lib.hid hF; clear hb ho hF hs))
      have HFG : Hid ((w.heap.size + 1) < wr.heap.size ∧ w.heap.size ≤ wr.heap.size) := Lib.hid ⟨HZr.out.lt, HBr.out.size⟩
      clear HZ6 HY6 HB6 HZr HBr
      generalize wr.heap.size = gb at *
      go_loopw [15, 16] (fun xv iv wr => ∃ (j : Nat) (f : Fr) (x : Int), j ≤ m ∧ iv = .int .i64 j ∧ Inv f j ∧ HB wr (w.heap.size + 1) f.cells 57 ∧ HB wr gb f.cells 57 ∧ GotB gb wr.heap.size wr xv x ∧ 0 ≤ x ∧ x ≤ 4095 ∧ Below w.heap.size w wr) (fun _ iv _ => m - (intOf iv).toNat)
      case atStart => exact ⟨0, SF, 0, Nat.zero_le _, rfl, HIN.out, HZ7.out, HY7.out, .inl ⟨rfl, rfl⟩, by omega, by omega, HB7.out⟩
      case round =>
        obtain ⟨j, f, x, hj, rfl, hI, hZ, hY, hG, hx1, hx2, hB⟩ := hrel
        have QZ0 := Lib.hid hZ
        have QY0 := Lib.hid hY
        have QG0 := Lib.hid hG
        have QB0 := Lib.hid hB
        by_cases hlt : j < m
        · obtain ⟨gb', go', rfl, hcell⟩ := HCL.out.resolve_left (by rw [HM.out]; omega)
          have hcj := hcell j (by rw [HM.out]; exact hlt)
          have QC0 := Lib.hid ((QB0.out.cell (World.block_lt_of_cell? _ _ hcj)).trans hcj)
          have QCL : Hid (gb' < w.heap.size) := Lib.hid (World.block_lt_of_cell? _ _ hcj)
          generalize l4.getD j 0 = z at *
          have ez := and_4095 z
          obtain ⟨f2, f3, k, a, v, l, hp, hq, hn, hl⟩ := both_step hI (by omega) x ⟨hx1, hx2⟩
          have HP := Lib.hid hp
          have HQ := Lib.hid hq
          have HN := Lib.hid hn
          have HL := Lib.hid hl
          clear hcell hcj hI hZ hY hG hB hp hq hn hl HZ7 HY7 HB7 HIN
          go_wp2_with (first
            | (refine wp_al59g rfl rfl ?_; intro X2 hb hA; have QA2 := Lib.hid (QA1.out.below hb); have QB2 := Lib.hid (QB1.out.trans (hb.mono QB1.out.size)); have QZ2 := Lib.hid (QZ1.out.below hb); have QY2 := Lib.hid (QY1.out.below hb); have QG2 := Lib.hid (QG1.out.below hb); have QC2 := Lib.hid ((hb.cell (World.block_lt_of_cell? _ _ QC1.out)).trans QC1.out); have QD2 := Lib.hid hA; clear hb hA)
            | (refine wp_al59g rfl rfl ?_; intro X1 hb hA; have QB1 := Lib.hid (QB0.out.trans (hb.mono QB0.out.size)); have QZ1 := Lib.hid (QZ0.out.below hb); have QY1 := Lib.hid (QY0.out.below hb); have QG1 := Lib.hid (QG0.out.below hb); have QC1 := Lib.hid ((hb.cell (World.block_lt_of_cell? _ _ QC0.out)).trans QC0.out); have QA1 := Lib.hid hA; clear hb hA)
            | (refine wp_ldf rfl (.tmp 12) rfl (w.heap.size + 1) rfl f QZ2.out.range ?_))
          refine (HP.out _ _ QG2.out.got).mono ?_
          rintro e X3 ⟨⟨ao1, n1, c1, rfl, hi⟩, hb⟩
          have QA3 := Lib.hid (QA2.out.below hb)
          have QB3 := Lib.hid (QB2.out.trans (hb.mono QB2.out.size))
          have QZ3 := Lib.hid (QZ2.out.below hb)
          have QY3 := Lib.hid (QY2.out.below hb)
          have QG3 := Lib.hid (QG2.out.below hb)
          have QC3 := Lib.hid ((hb.cell (World.block_lt_of_cell? _ _ QC2.out)).trans QC2.out)
          have QD3 := Lib.hid (QD2.out.below hb)
          have QI3 := Lib.hid hi
          have HSX : Hid (X2.heap.size ≤ X3.heap.size) := Lib.hid hb.size
          have HS2 : Hid (gb < wr.heap.size ∧ wr.heap.size < X1.heap.size ∧ X1.heap.size < X2.heap.size) := Lib.hid ⟨QY0.out.lt, QA1.out.lt, QD2.out.lt⟩
          clear hb hi
          go_wp2_with (first
            | (refine wp_stfg rfl (.tmp 12) (.tmp 65) rfl (w.heap.size + 1) f2 rfl rfl f QZ3.out ?_; intro X4 hb ho hF hs; have QB4 := Lib.hid (QB3.out.trans (hb _ HFB.out.1)); have QZ4 := Lib.hid hF; have QY4 := Lib.hid (QY3.out.oth (ho _ (by have := HFG.out; omega))); have QA4 := Lib.hid (QA3.out.oth (ho _ (by have := HFG.out; have := HS2.out; omega))); have QD4 := Lib.hid (QD3.out.oth (ho _ (by have := HFG.out; have := HS2.out; omega))); have QG4 := Lib.hid (QG3.out.keep fun b h1 h2 => ho b (by have := HFG.out; omega)); have QC4 := Lib.hid ((World.cell?_of_block (ho gb' (by have := QCL.out; omega))).trans QC3.out); have QI4 := Lib.hid (QI3.out.oth fun b hb => ho b (by have := HFG.out; have := HS2.out; omega)); rw [← hs] at HSX; clear hb ho hF hs)
            | (refine wp_stag rfl (.tmp 17) (.tmp 66) rfl wr.heap.size k a 0 v 0 ao1 n1 c1 rfl rfl acZ QA4.out rfl ?_; intro X5 hb ho hF hs; have QB5 := Lib.hid (QB4.out.trans (hb _ QB0.out.size)); have QA5 := Lib.hid hF; have QZ5 := Lib.hid (QZ4.out.oth (ho _ (by have := HFG.out; have := HS2.out; omega))); have QY5 := Lib.hid (QY4.out.oth (ho _ (by have := HS2.out; omega))); have QD5 := Lib.hid (QD4.out.oth (ho _ (by have := HS2.out; omega))); have QG5 := Lib.hid (QG4.out.keep fun b h1 h2 => ho b (by omega)); have QC5 := Lib.hid ((World.cell?_of_block (ho gb' (by have := QCL.out; have := QB0.out.size; omega))).trans QC4.out); have QI5 := Lib.hid (QI4.out.oth fun b hb => ho b (by have := HS2.out; omega)); rw [← hs] at HSX; clear hb ho hF hs)
            | (refine wp_ldf rfl (.tmp 14) rfl gb rfl f QY5.out.range ?_))
          have HS5 : Hid (X2.heap.size ≤ X5.heap.size) := Lib.hid HSX.out
          refine (HQ.out _ _ QG5.out.got).mono ?_
          rintro e X6 ⟨⟨ao2, n2, c2, rfl, hi⟩, hb⟩
          have QA6 := Lib.hid (QA5.out.below hb)
          have QB6 := Lib.hid (QB5.out.trans (hb.mono QB5.out.size))
          have QZ6 := Lib.hid (QZ5.out.below hb)
          have QY6 := Lib.hid (QY5.out.below hb)
          have QC6 := Lib.hid ((hb.cell (World.block_lt_of_cell? _ _ QC5.out)).trans QC5.out)
          have QD6 := Lib.hid (QD5.out.below hb)
          have QI6 := Lib.hid (QI5.out.below hb)
          have QJ6 := Lib.hid (hi.low (B' := X2.heap.size) HS5.out)
          clear hb hi
          go_wp2_with (first
            | (refine wp_stfg rfl (.tmp 14) (.tmp 71) rfl gb f3 rfl rfl f QY6.out ?_; intro X7 hb ho hF hs; have QB7 := Lib.hid (QB6.out.trans (hb _ HFG.out.2)); have QY7 := Lib.hid hF; have QZ7 := Lib.hid (QZ6.out.oth (ho _ (by have := HFG.out; omega))); have QA7 := Lib.hid (QA6.out.oth (ho _ (by have := HS2.out; omega))); have QD7 := Lib.hid (QD6.out.oth (ho _ (by have := HS2.out; omega))); have QC7 := Lib.hid ((World.cell?_of_block (ho gb' (by have := QCL.out; have := HFG.out; omega))).trans QC6.out); have QI7 := Lib.hid (QI6.out.oth fun b hb => ho b (by have := HS2.out; omega)); have QJ7 := Lib.hid (QJ6.out.oth fun b hb => ho b (by have := HS2.out; omega)); clear hb ho hF hs)
            | (refine wp_stag rfl (.tmp 18) (.tmp 72) rfl X1.heap.size k a 0 v 0 ao2 n2 c2 rfl rfl acZ QD7.out rfl ?_; intro X8 hb ho hF hs; have QB8 := Lib.hid (QB7.out.trans (hb _ (by have := HS2.out; have := HFG.out; omega))); have QD8 := Lib.hid hF; have QZ8 := Lib.hid (QZ7.out.oth (ho _ (by have := HFG.out; have := HS2.out; omega))); have QY8 := Lib.hid (QY7.out.oth (ho _ (by have := HS2.out; omega))); have QA8 := Lib.hid (QA7.out.oth (ho _ (by have := HS2.out; omega))); have QC8 := (World.cell?_of_block (ho gb' (by have := QCL.out; have := HS2.out; have := HFG.out; omega))).trans QC7.out; have QI8 := Lib.hid (QI7.out.oth fun b hb => ho b (by have := HS2.out; omega)); have QJ8 := Lib.hid (QJ7.out.oth fun b hb => ho b (by have := HS2.out; omega)); have QN8 := Lib.hid (below_one X8 (z % 4096)); clear hb ho hF hs)
            | (refine wp_lda rfl (.tmp 17) rfl wr.heap.size rfl (acC k a 0 v 0 (.slice ao1 n1 c1)) rfl (QA8.out.below QN8.out) ?_)
            | (refine wp_lda rfl (.tmp 18) rfl X1.heap.size rfl (acC k a 0 v 0 (.slice ao2 n2 c2)) rfl (QD8.out.below QN8.out) ?_))
          refine (same_act k a v _ _ l _ (QI8.out.below QN8.out) (QJ8.out.below QN8.out) (by have := HL.out; omega)).mono ?_
          rintro e X9 ⟨rfl, hb⟩
          have hN := QN8.out.trans (hb.mono QN8.out.size)
          have QB9 := Lib.hid (QB8.out.trans (hN.mono QB8.out.size))
          have QZ9 := Lib.hid (QZ8.out.below hN)
          have QY9 := Lib.hid (QY8.out.below hN)
          have QG9 : Hid (GotB gb X9.heap.size X9 (.slice (some ⟨X8.heap.size, 0, none⟩) 1 1) (z % 4096)) := Lib.hid (.inr ⟨X8.heap.size, 0, 1, rfl, QY8.out.lt, Nat.lt_of_lt_of_le (by simp) hb.size, (hb.cell (by simp)).trans (by simp [go_sem])⟩)
          have kA := (QA8.out.below hN).cell (k := 0) (v := .int .i8 k) rfl
          clear hN hb QC8
          by_cases hk : k = 7
          · have d7 : (k == 7) = true := by simpa using hk
            clear hk
            go_wp2_with fail
            refine (wakes14 _).mono ?_
            rintro e Y ⟨rfl, hb⟩
            have HY := Lib.hid (QB9.out.trans (hb.mono QB9.out.size))
            clear hb
            go_wp2_with fail
            go_ret
            exact ⟨rfl, HY.out⟩
          · have d7 : (k == 7) = false := by simpa using hk
            obtain ⟨e3, hI2⟩ := HN.out hk
            rw [e3] at QY9
            have HI2 := Lib.hid hI2
            clear hk hI2 e3
            go_wp2_with fail
            go_roundw
            case rel => exact ⟨j + 1, f2, z % 4096, hlt, rfl, HI2.out, QZ9.out, QY9.out, QG9.out, Int.emod_nonneg _ (by omega), by have := Int.emod_lt_of_pos z (show (0 : Int) < 4096 by omega); omega, QB9.out⟩
            case measure => simp [intOf]; omega
        · have e : j = m := by omega
          subst e
          clear hI hZ hY hG hB
          go_wp2_with fail
          refine (wakes14 _).mono ?_
          rintro e Y ⟨rfl, hb⟩
          have HY := Lib.hid (QB0.out.trans (hb.mono QB0.out.size))
          clear hb
          go_wp2_with fail
          go_ret
          exact ⟨rfl, HY.out⟩
set_option maxHeartbeats 8000000 in
set_option maxRecDepth 100000 in
theorem step_ft (a2 a3 : Int) (v : Value) (l4 : List Int) (w : World) (h4 : SlI .i64 w v l4) (hm : l4.length ≤ 60) (F : Fr) (hF : ∀ w, (Instr.build 57 #[(0, .int .i8 56)]).run Try.prog w = .ok (.agg F.cells) w) (hin : Inv (startF F false true a2 a3) 0) : Calls Try.prog 6 #[.bool false, .bool true, .int .i64 a2, .int .i64 a3, v] w fun e w' => e = .returned (.bool true) ∧ Below w.heap.size w w' := by
  obtain ⟨hwf, ao, cap, rfl, hcap, hmax, hcl⟩ := h4
  have HCL := Lib.hid hcl
  obtain ⟨m, hM⟩ : ∃ m, l4.length = m := ⟨_, rfl⟩
  have HM := Lib.hid hM
  rw [hM] at hm hcap hcl ⊢
  have d0 : decide ((60 : Int) < (m : Int)) = false := by simp; omega
  have ea := and_255 a2
  have eb := and_255 a3
  have ec := and_18 a2
  have HFF := Lib.hid hF
  have HIV := Lib.hid hin
  clear hF hin hcl hM hwf
  have HB0 : Hid (Below w.heap.size w (w.alloc (.cells #[.int .i64 (a2 % 256), .int .i64 (a3 % 256), .int .i64 1] 3))) := Lib.hid ((Below.refl _ _).alloc (Nat.le_refl _) _)
  have HAC : Hid (∀ k x, ([a2 % 256, a3 % 256, 1] : List Int)[k]? = some x → (w.alloc (.cells #[.int .i64 (a2 % 256), .int .i64 (a3 % 256), .int .i64 1] 3)).cell? ⟨w.heap.size, k, none⟩ = some (.int .i64 x)) := Lib.hid (by
    intro k x hk
    match k, hk with
    | 0, hk => simp at hk; subst hk; simp [go_sem]
    | 1, hk => simp at hk; subst hk; simp [go_sem]
    | 2, hk => simp at hk; subst hk; simp [go_sem]
    | k + 3, hk => simp at hk)
  go_enter Try.func6, Try.ntmps6
  go_wp2_with (first
    | (refine wp_b57z rfl rfl F HFF.out ?_)
    | (refine wp_al57g rfl rfl ?_; intro W1 hb hZ; have HB1 := Lib.hid (HB0.out.trans (hb.mono HB0.out.size)); have HC1 := Lib.hid (fun k x hk => (hb.cell (World.block_lt_of_cell? _ _ (HAC.out k x hk))).trans (HAC.out k x hk)); have HZ1 := Lib.hid hZ; clear hb hZ)
    | (refine wp_stfg rfl (.tmp 12) (.tmp 38) rfl (w.alloc (.cells #[.int .i64 (a2 % 256), .int .i64 (a3 % 256), .int .i64 1] 3)).heap.size F rfl rfl Fr.zero HZ1.out ?_; intro W2 hb ho hF hs; have HB2 := Lib.hid (HB1.out.trans (hb _ HB0.out.size)); have HC2 := Lib.hid (fun k x hk => (World.cell?_of_block (ho _ (Nat.ne_of_lt (World.block_lt_of_cell? _ _ (HAC.out k x hk))))).trans (HC1.out k x hk)); simp only [World.size_alloc] at hF; have HZ2 := Lib.hid hF; clear hb ho hF hs)
  )
  have HFB : Hid (w.heap.size ≤ (w.heap.size + 1) ∧ w.heap.size < (w.heap.size + 1)) := Lib.hid (by omega)
  clear HAC HB0 HZ1
  go_loopw [13] (fun iv wr => ∃ j : Nat, j ≤ 3 ∧ iv = .int .i64 j ∧ Below w.heap.size w wr ∧ HB wr (w.heap.size + 1) (fillF F [a2 % 256, a3 % 256, 1] j).cells 57 ∧ ∀ k x, ([a2 % 256, a3 % 256, 1] : List Int)[k]? = some x → wr.cell? ⟨w.heap.size, k, none⟩ = some (.int .i64 x)) (fun iv _ => 3 - (intOf iv).toNat)
  case atStart => exact ⟨0, Nat.zero_le _, rfl, HB2.out, HZ2.out, HC2.out⟩
  case round =>
    obtain ⟨j, hj, rfl, hB, hZ, hC⟩ := hrel
    have HBr := Lib.hid hB
    have HZr := Lib.hid hZ
    have HCr := Lib.hid hC
    clear hB hZ hC
    by_cases hlt : j < 3
    · obtain ⟨x, hx⟩ : ∃ x, ([a2 % 256, a3 % 256, 1] : List Int)[j]? = some x := ⟨([a2 % 256, a3 % 256, 1] : List Int)[j]'(by simpa using hlt), List.getElem?_eq_getElem _⟩
      have hcell := HCr.out j x hx
      have hj3 : (j : Int) < 3 := by omega
      have hj96 : (j : Int) < 96 := by omega
      have HX := Lib.hid hx
      clear hx
      go_wp2_with (refine wp_setrg rfl (.tmp 53) (.tmp 51) rfl (w.heap.size + 1) j (by omega) x rfl rfl _ HZr.out ?_; intro W5 hb ho hF hs; rw [fillF_s _ _ _ _ HX.out] at hF; have HB5 := Lib.hid (HBr.out.trans (hb _ HFB.out.1)); have HC5 := Lib.hid (fun k x hk => (World.cell?_of_block (ho _ (Nat.ne_of_lt HFB.out.2))).trans (HCr.out k x hk)); have HZ5 := Lib.hid hF; clear hb ho hF hs)
      go_roundw
      case rel => exact ⟨j + 1, hlt, rfl, HB5.out, HZ5.out, HC5.out⟩
      case measure => simp [intOf]; omega
    · have e : j = 3 := by omega
      subst e
      clear hlt hj HCr
      have HSF : Hid (fillF F [a2 % 256, a3 % 256, 1] 3 = startF F false true a2 a3) := Lib.hid rfl
      rw [HSF.out] at HZr
      have HIN := Lib.hid (HIV.out : Inv (startF F false true a2 a3) 0)
      generalize startF F false true a2 a3 = SF at *
      clear HSF HIV
      go_wp2_with (first
        | (refine wp_ldf rfl (.tmp 12) rfl (w.heap.size + 1) rfl SF HZr.out.range ?_)
        | (refine wp_al57g rfl rfl ?_; intro W6 hb hZ; have HB6 := Lib.hid (HBr.out.trans (hb.mono HBr.out.size)); have HZ6 := Lib.hid (HZr.out.below hb); have HY6 := Lib.hid hZ; clear hb hZ)
        | (refine wp_stfg rfl (.tmp 14) (.tmp 54) rfl wr.heap.size SF rfl rfl Fr.zero HY6.out ?_; intro W7 hb ho hF hs; have HB7 := Lib.hid (HB6.out.trans (hb _ HBr.out.size)); have HZ7 := Lib.hid (HZ6.out.oth (ho _ (Nat.ne_of_lt HZr.out.lt))); have HY7 := Lib.hid hF; clear hb ho hF hs))
      have HFG : Hid ((w.heap.size + 1) < wr.heap.size ∧ w.heap.size ≤ wr.heap.size) := Lib.hid ⟨HZr.out.lt, HBr.out.size⟩
      clear HZ6 HY6 HB6 HZr HBr
      generalize wr.heap.size = gb at *
      go_loopw [15, 16] (fun xv iv wr => ∃ (j : Nat) (f : Fr) (x : Int), j ≤ m ∧ iv = .int .i64 j ∧ Inv f j ∧ HB wr (w.heap.size + 1) f.cells 57 ∧ HB wr gb f.cells 57 ∧ GotB gb wr.heap.size wr xv x ∧ 0 ≤ x ∧ x ≤ 4095 ∧ Below w.heap.size w wr) (fun _ iv _ => m - (intOf iv).toNat)
      case atStart => exact ⟨0, SF, 0, Nat.zero_le _, rfl, HIN.out, HZ7.out, HY7.out, .inl ⟨rfl, rfl⟩, by omega, by omega, HB7.out⟩
      case round =>
        obtain ⟨j, f, x, hj, rfl, hI, hZ, hY, hG, hx1, hx2, hB⟩ := hrel
        have QZ0 := Lib.hid hZ
        have QY0 := Lib.hid hY
        have QG0 := Lib.hid hG
        have QB0 := Lib.hid hB
        by_cases hlt : j < m
        · obtain ⟨gb', go', rfl, hcell⟩ := HCL.out.resolve_left (by rw [HM.out]; omega)
          have hcj := hcell j (by rw [HM.out]; exact hlt)
          have QC0 := Lib.hid ((QB0.out.cell (World.block_lt_of_cell? _ _ hcj)).trans hcj)
          have QCL : Hid (gb' < w.heap.size) := Lib.hid (World.block_lt_of_cell? _ _ hcj)
          generalize l4.getD j 0 = z at *
          have ez := and_4095 z
          obtain ⟨f2, f3, k, a, v, l, hp, hq, hn, hl⟩ := both_step hI (by omega) x ⟨hx1, hx2⟩
          have HP := Lib.hid hp
          have HQ := Lib.hid hq
          have HN := Lib.hid hn
          have HL := Lib.hid hl
          clear hcell hcj hI hZ hY hG hB hp hq hn hl HZ7 HY7 HB7 HIN
          go_wp2_with (first
            | (refine wp_al59g rfl rfl ?_; intro X2 hb hA; have QA2 := Lib.hid (QA1.out.below hb); have QB2 := Lib.hid (QB1.out.trans (hb.mono QB1.out.size)); have QZ2 := Lib.hid (QZ1.out.below hb); have QY2 := Lib.hid (QY1.out.below hb); have QG2 := Lib.hid (QG1.out.below hb); have QC2 := Lib.hid ((hb.cell (World.block_lt_of_cell? _ _ QC1.out)).trans QC1.out); have QD2 := Lib.hid hA; clear hb hA)
            | (refine wp_al59g rfl rfl ?_; intro X1 hb hA; have QB1 := Lib.hid (QB0.out.trans (hb.mono QB0.out.size)); have QZ1 := Lib.hid (QZ0.out.below hb); have QY1 := Lib.hid (QY0.out.below hb); have QG1 := Lib.hid (QG0.out.below hb); have QC1 := Lib.hid ((hb.cell (World.block_lt_of_cell? _ _ QC0.out)).trans QC0.out); have QA1 := Lib.hid hA; clear hb hA)
            | (refine wp_ldf rfl (.tmp 12) rfl (w.heap.size + 1) rfl f QZ2.out.range ?_))
          refine (HP.out _ _ QG2.out.got).mono ?_
          rintro e X3 ⟨⟨ao1, n1, c1, rfl, hi⟩, hb⟩
          have QA3 := Lib.hid (QA2.out.below hb)
          have QB3 := Lib.hid (QB2.out.trans (hb.mono QB2.out.size))
          have QZ3 := Lib.hid (QZ2.out.below hb)
          have QY3 := Lib.hid (QY2.out.below hb)
          have QG3 := Lib.hid (QG2.out.below hb)
          have QC3 := Lib.hid ((hb.cell (World.block_lt_of_cell? _ _ QC2.out)).trans QC2.out)
          have QD3 := Lib.hid (QD2.out.below hb)
          have QI3 := Lib.hid hi
          have HSX : Hid (X2.heap.size ≤ X3.heap.size) := Lib.hid hb.size
          have HS2 : Hid (gb < wr.heap.size ∧ wr.heap.size < X1.heap.size ∧ X1.heap.size < X2.heap.size) := Lib.hid ⟨QY0.out.lt, QA1.out.lt, QD2.out.lt⟩
          clear hb hi
          go_wp2_with (first
            | (refine wp_stfg rfl (.tmp 12) (.tmp 65) rfl (w.heap.size + 1) f2 rfl rfl f QZ3.out ?_; intro X4 hb ho hF hs; have QB4 := Lib.hid (QB3.out.trans (hb _ HFB.out.1)); have QZ4 := Lib.hid hF; have QY4 := Lib.hid (QY3.out.oth (ho _ (by have := HFG.out; omega))); have QA4 := Lib.hid (QA3.out.oth (ho _ (by have := HFG.out; have := HS2.out; omega))); have QD4 := Lib.hid (QD3.out.oth (ho _ (by have := HFG.out; have := HS2.out; omega))); have QG4 := Lib.hid (QG3.out.keep fun b h1 h2 => ho b (by have := HFG.out; omega)); have QC4 := Lib.hid ((World.cell?_of_block (ho gb' (by have := QCL.out; omega))).trans QC3.out); have QI4 := Lib.hid (QI3.out.oth fun b hb => ho b (by have := HFG.out; have := HS2.out; omega)); rw [← hs] at HSX; clear hb ho hF hs)
            | (refine wp_stag rfl (.tmp 17) (.tmp 66) rfl wr.heap.size k a 0 v 0 ao1 n1 c1 rfl rfl acZ QA4.out rfl ?_; intro X5 hb ho hF hs; have QB5 := Lib.hid (QB4.out.trans (hb _ QB0.out.size)); have QA5 := Lib.hid hF; have QZ5 := Lib.hid (QZ4.out.oth (ho _ (by have := HFG.out; have := HS2.out; omega))); have QY5 := Lib.hid (QY4.out.oth (ho _ (by have := HS2.out; omega))); have QD5 := Lib.hid (QD4.out.oth (ho _ (by have := HS2.out; omega))); have QG5 := Lib.hid (QG4.out.keep fun b h1 h2 => ho b (by omega)); have QC5 := Lib.hid ((World.cell?_of_block (ho gb' (by have := QCL.out; have := QB0.out.size; omega))).trans QC4.out); have QI5 := Lib.hid (QI4.out.oth fun b hb => ho b (by have := HS2.out; omega)); rw [← hs] at HSX; clear hb ho hF hs)
            | (refine wp_ldf rfl (.tmp 14) rfl gb rfl f QY5.out.range ?_))
          have HS5 : Hid (X2.heap.size ≤ X5.heap.size) := Lib.hid HSX.out
          refine (HQ.out _ _ QG5.out.got).mono ?_
          rintro e X6 ⟨⟨ao2, n2, c2, rfl, hi⟩, hb⟩
          have QA6 := Lib.hid (QA5.out.below hb)
          have QB6 := Lib.hid (QB5.out.trans (hb.mono QB5.out.size))
          have QZ6 := Lib.hid (QZ5.out.below hb)
          have QY6 := Lib.hid (QY5.out.below hb)
          have QC6 := Lib.hid ((hb.cell (World.block_lt_of_cell? _ _ QC5.out)).trans QC5.out)
          have QD6 := Lib.hid (QD5.out.below hb)
          have QI6 := Lib.hid (QI5.out.below hb)
          have QJ6 := Lib.hid (hi.low (B' := X2.heap.size) HS5.out)
          clear hb hi
          go_wp2_with (first
            | (refine wp_stfg rfl (.tmp 14) (.tmp 71) rfl gb f3 rfl rfl f QY6.out ?_; intro X7 hb ho hF hs; have QB7 := Lib.hid (QB6.out.trans (hb _ HFG.out.2)); have QY7 := Lib.hid hF; have QZ7 := Lib.hid (QZ6.out.oth (ho _ (by have := HFG.out; omega))); have QA7 := Lib.hid (QA6.out.oth (ho _ (by have := HS2.out; omega))); have QD7 := Lib.hid (QD6.out.oth (ho _ (by have := HS2.out; omega))); have QC7 := Lib.hid ((World.cell?_of_block (ho gb' (by have := QCL.out; have := HFG.out; omega))).trans QC6.out); have QI7 := Lib.hid (QI6.out.oth fun b hb => ho b (by have := HS2.out; omega)); have QJ7 := Lib.hid (QJ6.out.oth fun b hb => ho b (by have := HS2.out; omega)); clear hb ho hF hs)
            | (refine wp_stag rfl (.tmp 18) (.tmp 72) rfl X1.heap.size k a 0 v 0 ao2 n2 c2 rfl rfl acZ QD7.out rfl ?_; intro X8 hb ho hF hs; have QB8 := Lib.hid (QB7.out.trans (hb _ (by have := HS2.out; have := HFG.out; omega))); have QD8 := Lib.hid hF; have QZ8 := Lib.hid (QZ7.out.oth (ho _ (by have := HFG.out; have := HS2.out; omega))); have QY8 := Lib.hid (QY7.out.oth (ho _ (by have := HS2.out; omega))); have QA8 := Lib.hid (QA7.out.oth (ho _ (by have := HS2.out; omega))); have QC8 := (World.cell?_of_block (ho gb' (by have := QCL.out; have := HS2.out; have := HFG.out; omega))).trans QC7.out; have QI8 := Lib.hid (QI7.out.oth fun b hb => ho b (by have := HS2.out; omega)); have QJ8 := Lib.hid (QJ7.out.oth fun b hb => ho b (by have := HS2.out; omega)); have QN8 := Lib.hid (below_one X8 (z % 4096)); clear hb ho hF hs)
            | (refine wp_lda rfl (.tmp 17) rfl wr.heap.size rfl (acC k a 0 v 0 (.slice ao1 n1 c1)) rfl (QA8.out.below QN8.out) ?_)
            | (refine wp_lda rfl (.tmp 18) rfl X1.heap.size rfl (acC k a 0 v 0 (.slice ao2 n2 c2)) rfl (QD8.out.below QN8.out) ?_))
          refine (same_act k a v _ _ l _ (QI8.out.below QN8.out) (QJ8.out.below QN8.out) (by have := HL.out; omega)).mono ?_
          rintro e X9 ⟨rfl, hb⟩
          have hN := QN8.out.trans (hb.mono QN8.out.size)
          have QB9 := Lib.hid (QB8.out.trans (hN.mono QB8.out.size))
          have QZ9 := Lib.hid (QZ8.out.below hN)
          have QY9 := Lib.hid (QY8.out.below hN)
          have QG9 : Hid (GotB gb X9.heap.size X9 (.slice (some ⟨X8.heap.size, 0, none⟩) 1 1) (z % 4096)) := Lib.hid (.inr ⟨X8.heap.size, 0, 1, rfl, QY8.out.lt, Nat.lt_of_lt_of_le (by simp) hb.size, (hb.cell (by simp)).trans (by simp [go_sem])⟩)
          have kA := (QA8.out.below hN).cell (k := 0) (v := .int .i8 k) rfl
          clear hN hb QC8
          by_cases hk : k = 7
          · have d7 : (k == 7) = true := by simpa using hk
            clear hk
            go_wp2_with fail
            refine (wakes14 _).mono ?_
            rintro e Y ⟨rfl, hb⟩
            have HY := Lib.hid (QB9.out.trans (hb.mono QB9.out.size))
            clear hb
            go_wp2_with fail
            go_ret
            exact ⟨rfl, HY.out⟩
          · have d7 : (k == 7) = false := by simpa using hk
            obtain ⟨e3, hI2⟩ := HN.out hk
            rw [e3] at QY9
            have HI2 := Lib.hid hI2
            clear hk hI2 e3
            go_wp2_with fail
            go_roundw
            case rel => exact ⟨j + 1, f2, z % 4096, hlt, rfl, HI2.out, QZ9.out, QY9.out, QG9.out, Int.emod_nonneg _ (by omega), by have := Int.emod_lt_of_pos z (show (0 : Int) < 4096 by omega); omega, QB9.out⟩
            case measure => simp [intOf]; omega
        · have e : j = m := by omega
          subst e
          clear hI hZ hY hG hB
          go_wp2_with fail
          refine (wakes14 _).mono ?_
          rintro e Y ⟨rfl, hb⟩
          have HY := Lib.hid (QB0.out.trans (hb.mono QB0.out.size))
          clear hb
          go_wp2_with fail
          go_ret
          exact ⟨rfl, HY.out⟩
set_option maxHeartbeats 8000000 in
set_option maxRecDepth 100000 in
theorem step_tf (a2 a3 : Int) (v : Value) (l4 : List Int) (w : World) (h4 : SlI .i64 w v l4) (hm : l4.length ≤ 60) (F : Fr) (hF : ∀ w, (Instr.build 57 #[(0, .int .i8 56)]).run Try.prog w = .ok (.agg F.cells) w) (hin : Inv (startF F true false a2 a3) 0) : Calls Try.prog 6 #[.bool true, .bool false, .int .i64 a2, .int .i64 a3, v] w fun e w' => e = .returned (.bool true) ∧ Below w.heap.size w w' := by
  obtain ⟨hwf, ao, cap, rfl, hcap, hmax, hcl⟩ := h4
  have HCL := Lib.hid hcl
  obtain ⟨m, hM⟩ : ∃ m, l4.length = m := ⟨_, rfl⟩
  have HM := Lib.hid hM
  rw [hM] at hm hcap hcl ⊢
  have d0 : decide ((60 : Int) < (m : Int)) = false := by simp; omega
  have ea := and_255 a2
  have eb := and_255 a3
  have ec := and_18 a2
  have HFF := Lib.hid hF
  have HIV := Lib.hid hin
  clear hF hin hcl hM hwf
  have HB0 : Hid (Below w.heap.size w ((w.alloc (.cells #[.int .i64 (a2 % 256), .int .i64 (a3 % 256), .int .i64 0] 3)).alloc (.cells #[.int .i64 (a2 % 262144), .int .i64 0] 3))) := Lib.hid (((Below.refl _ _).alloc (Nat.le_refl _) _).alloc (by simp) _)
  have HAC : Hid (∀ k x, ([a2 % 262144, 0] : List Int)[k]? = some x → ((w.alloc (.cells #[.int .i64 (a2 % 256), .int .i64 (a3 % 256), .int .i64 0] 3)).alloc (.cells #[.int .i64 (a2 % 262144), .int .i64 0] 3)).cell? ⟨w.heap.size + 1, k, none⟩ = some (.int .i64 x)) := Lib.hid (by
    intro k x hk
    match k, hk with
    | 0, hk => simp at hk; subst hk; simp [go_sem]
    | 1, hk => simp at hk; subst hk; simp [go_sem]
    | k + 2, hk => simp at hk)
  go_enter Try.func6, Try.ntmps6
  go_wp2_with (first
    | (refine wp_b57z rfl rfl F HFF.out ?_)
    | (refine wp_al57g rfl rfl ?_; intro W1 hb hZ; have HB1 := Lib.hid (HB0.out.trans (hb.mono HB0.out.size)); have HC1 := Lib.hid (fun k x hk => (hb.cell (World.block_lt_of_cell? _ _ (HAC.out k x hk))).trans (HAC.out k x hk)); have HZ1 := Lib.hid hZ; clear hb hZ)
    | (refine wp_stfg rfl (.tmp 12) (.tmp 38) rfl ((w.alloc (.cells #[.int .i64 (a2 % 256), .int .i64 (a3 % 256), .int .i64 0] 3)).alloc (.cells #[.int .i64 (a2 % 262144), .int .i64 0] 3)).heap.size F rfl rfl Fr.zero HZ1.out ?_; intro W2 hb ho hF hs; have HB2 := Lib.hid (HB1.out.trans (hb _ HB0.out.size)); have HC2 := Lib.hid (fun k x hk => (World.cell?_of_block (ho _ (Nat.ne_of_lt (World.block_lt_of_cell? _ _ (HAC.out k x hk))))).trans (HC1.out k x hk)); simp only [World.size_alloc] at hF; have HZ2 := Lib.hid hF; clear hb ho hF hs)
    | (refine wp_setpg rfl (.tmp 40) (.const (.int .i8 57)) rfl (w.heap.size + 1 + 1) 57 rfl rfl F HZ2.out ?_; intro W3 hb ho hF hs; have HB3 := Lib.hid (HB2.out.trans (hb _ (by omega))); have HC3 := Lib.hid (fun k x hk => (World.cell?_of_block (ho _ (Nat.ne_of_lt (Nat.lt_succ_self _)))).trans (HC2.out k x hk)); have HZ3 := Lib.hid hF; clear hb ho hF hs)
  )
  have HFB : Hid (w.heap.size ≤ (w.heap.size + 1 + 1) ∧ w.heap.size + 1 < (w.heap.size + 1 + 1)) := Lib.hid (by omega)
  clear HAC HB0 HZ1
  go_loopw [13] (fun iv wr => ∃ j : Nat, j ≤ 2 ∧ iv = .int .i64 j ∧ Below w.heap.size w wr ∧ HB wr (w.heap.size + 1 + 1) (fillF (F.prog 57) [a2 % 262144, 0] j).cells 57 ∧ ∀ k x, ([a2 % 262144, 0] : List Int)[k]? = some x → wr.cell? ⟨w.heap.size + 1, k, none⟩ = some (.int .i64 x)) (fun iv _ => 2 - (intOf iv).toNat)
  case atStart => exact ⟨0, Nat.zero_le _, rfl, HB3.out, HZ3.out, HC3.out⟩
  case round =>
    obtain ⟨j, hj, rfl, hB, hZ, hC⟩ := hrel
    have HBr := Lib.hid hB
    have HZr := Lib.hid hZ
    have HCr := Lib.hid hC
    clear hB hZ hC
    by_cases hlt : j < 2
    · obtain ⟨x, hx⟩ : ∃ x, ([a2 % 262144, 0] : List Int)[j]? = some x := ⟨([a2 % 262144, 0] : List Int)[j]'(by simpa using hlt), List.getElem?_eq_getElem _⟩
      have hcell := HCr.out j x hx
      have hj3 : (j : Int) < 2 := by omega
      have hj96 : (j : Int) < 96 := by omega
      have HX := Lib.hid hx
      clear hx
      go_wp2_with (refine wp_setrg rfl (.tmp 53) (.tmp 51) rfl (w.heap.size + 1 + 1) j (by omega) x rfl rfl _ HZr.out ?_; intro W5 hb ho hF hs; rw [fillF_s _ _ _ _ HX.out] at hF; have HB5 := Lib.hid (HBr.out.trans (hb _ HFB.out.1)); have HC5 := Lib.hid (fun k x hk => (World.cell?_of_block (ho _ (Nat.ne_of_lt HFB.out.2))).trans (HCr.out k x hk)); have HZ5 := Lib.hid hF; clear hb ho hF hs)
      go_roundw
      case rel => exact ⟨j + 1, hlt, rfl, HB5.out, HZ5.out, HC5.out⟩
      case measure => simp [intOf]; omega
    · have e : j = 2 := by omega
      subst e
      clear hlt hj HCr
      have HSF : Hid (fillF (F.prog 57) [a2 % 262144, 0] 2 = startF F true false a2 a3) := Lib.hid rfl
      rw [HSF.out] at HZr
      have HIN := Lib.hid (HIV.out : Inv (startF F true false a2 a3) 0)
      generalize startF F true false a2 a3 = SF at *
      clear HSF HIV
      go_wp2_with (first
        | (refine wp_ldf rfl (.tmp 12) rfl (w.heap.size + 1 + 1) rfl SF HZr.out.range ?_)
        | (refine wp_al57g rfl rfl ?_; intro W6 hb hZ; have HB6 := Lib.hid (HBr.out.trans (hb.mono HBr.out.size)); have HZ6 := Lib.hid (HZr.out.below hb); have HY6 := Lib.hid hZ; clear hb hZ)
        | (refine wp_stfg rfl (.tmp 14) (.tmp 54) rfl wr.heap.size SF rfl rfl Fr.zero HY6.out ?_; intro W7 hb ho hF hs; have HB7 := Lib.hid (HB6.out.trans (hb _ HBr.out.size)); have HZ7 := Lib.hid (HZ6.out.oth (ho _ (Nat.ne_of_lt HZr.out.lt))); have HY7 := Lib.hid hF; clear hb ho hF hs))
      have HFG : Hid ((w.heap.size + 1 + 1) < wr.heap.size ∧ w.heap.size ≤ wr.heap.size) := Lib.hid ⟨HZr.out.lt, HBr.out.size⟩
      clear HZ6 HY6 HB6 HZr HBr
      generalize wr.heap.size = gb at *
      go_loopw [15, 16] (fun xv iv wr => ∃ (j : Nat) (f : Fr) (x : Int), j ≤ m ∧ iv = .int .i64 j ∧ Inv f j ∧ HB wr (w.heap.size + 1 + 1) f.cells 57 ∧ HB wr gb f.cells 57 ∧ GotB gb wr.heap.size wr xv x ∧ 0 ≤ x ∧ x ≤ 4095 ∧ Below w.heap.size w wr) (fun _ iv _ => m - (intOf iv).toNat)
      case atStart => exact ⟨0, SF, 0, Nat.zero_le _, rfl, HIN.out, HZ7.out, HY7.out, .inl ⟨rfl, rfl⟩, by omega, by omega, HB7.out⟩
      case round =>
        obtain ⟨j, f, x, hj, rfl, hI, hZ, hY, hG, hx1, hx2, hB⟩ := hrel
        have QZ0 := Lib.hid hZ
        have QY0 := Lib.hid hY
        have QG0 := Lib.hid hG
        have QB0 := Lib.hid hB
        by_cases hlt : j < m
        · obtain ⟨gb', go', rfl, hcell⟩ := HCL.out.resolve_left (by rw [HM.out]; omega)
          have hcj := hcell j (by rw [HM.out]; exact hlt)
          have QC0 := Lib.hid ((QB0.out.cell (World.block_lt_of_cell? _ _ hcj)).trans hcj)
          have QCL : Hid (gb' < w.heap.size) := Lib.hid (World.block_lt_of_cell? _ _ hcj)
          generalize l4.getD j 0 = z at *
          have ez := and_4095 z
          obtain ⟨f2, f3, k, a, v, l, hp, hq, hn, hl⟩ := both_step hI (by omega) x ⟨hx1, hx2⟩
          have HP := Lib.hid hp
          have HQ := Lib.hid hq
          have HN := Lib.hid hn
          have HL := Lib.hid hl
          clear hcell hcj hI hZ hY hG hB hp hq hn hl HZ7 HY7 HB7 HIN
          go_wp2_with (first
            | (refine wp_al59g rfl rfl ?_; intro X2 hb hA; have QA2 := Lib.hid (QA1.out.below hb); have QB2 := Lib.hid (QB1.out.trans (hb.mono QB1.out.size)); have QZ2 := Lib.hid (QZ1.out.below hb); have QY2 := Lib.hid (QY1.out.below hb); have QG2 := Lib.hid (QG1.out.below hb); have QC2 := Lib.hid ((hb.cell (World.block_lt_of_cell? _ _ QC1.out)).trans QC1.out); have QD2 := Lib.hid hA; clear hb hA)
            | (refine wp_al59g rfl rfl ?_; intro X1 hb hA; have QB1 := Lib.hid (QB0.out.trans (hb.mono QB0.out.size)); have QZ1 := Lib.hid (QZ0.out.below hb); have QY1 := Lib.hid (QY0.out.below hb); have QG1 := Lib.hid (QG0.out.below hb); have QC1 := Lib.hid ((hb.cell (World.block_lt_of_cell? _ _ QC0.out)).trans QC0.out); have QA1 := Lib.hid hA; clear hb hA)
            | (refine wp_ldf rfl (.tmp 12) rfl (w.heap.size + 1 + 1) rfl f QZ2.out.range ?_))
          refine (HP.out _ _ QG2.out.got).mono ?_
          rintro e X3 ⟨⟨ao1, n1, c1, rfl, hi⟩, hb⟩
          have QA3 := Lib.hid (QA2.out.below hb)
          have QB3 := Lib.hid (QB2.out.trans (hb.mono QB2.out.size))
          have QZ3 := Lib.hid (QZ2.out.below hb)
          have QY3 := Lib.hid (QY2.out.below hb)
          have QG3 := Lib.hid (QG2.out.below hb)
          have QC3 := Lib.hid ((hb.cell (World.block_lt_of_cell? _ _ QC2.out)).trans QC2.out)
          have QD3 := Lib.hid (QD2.out.below hb)
          have QI3 := Lib.hid hi
          have HSX : Hid (X2.heap.size ≤ X3.heap.size) := Lib.hid hb.size
          have HS2 : Hid (gb < wr.heap.size ∧ wr.heap.size < X1.heap.size ∧ X1.heap.size < X2.heap.size) := Lib.hid ⟨QY0.out.lt, QA1.out.lt, QD2.out.lt⟩
          clear hb hi
          go_wp2_with (first
            | (refine wp_stfg rfl (.tmp 12) (.tmp 65) rfl (w.heap.size + 1 + 1) f2 rfl rfl f QZ3.out ?_; intro X4 hb ho hF hs; have QB4 := Lib.hid (QB3.out.trans (hb _ HFB.out.1)); have QZ4 := Lib.hid hF; have QY4 := Lib.hid (QY3.out.oth (ho _ (by have := HFG.out; omega))); have QA4 := Lib.hid (QA3.out.oth (ho _ (by have := HFG.out; have := HS2.out; omega))); have QD4 := Lib.hid (QD3.out.oth (ho _ (by have := HFG.out; have := HS2.out; omega))); have QG4 := Lib.hid (QG3.out.keep fun b h1 h2 => ho b (by have := HFG.out; omega)); have QC4 := Lib.hid ((World.cell?_of_block (ho gb' (by have := QCL.out; omega))).trans QC3.out); have QI4 := Lib.hid (QI3.out.oth fun b hb => ho b (by have := HFG.out; have := HS2.out; omega)); rw [← hs] at HSX; clear hb ho hF hs)
            | (refine wp_stag rfl (.tmp 17) (.tmp 66) rfl wr.heap.size k a 0 v 0 ao1 n1 c1 rfl rfl acZ QA4.out rfl ?_; intro X5 hb ho hF hs; have QB5 := Lib.hid (QB4.out.trans (hb _ QB0.out.size)); have QA5 := Lib.hid hF; have QZ5 := Lib.hid (QZ4.out.oth (ho _ (by have := HFG.out; have := HS2.out; omega))); have QY5 := Lib.hid (QY4.out.oth (ho _ (by have := HS2.out; omega))); have QD5 := Lib.hid (QD4.out.oth (ho _ (by have := HS2.out; omega))); have QG5 := Lib.hid (QG4.out.keep fun b h1 h2 => ho b (by omega)); have QC5 := Lib.hid ((World.cell?_of_block (ho gb' (by have := QCL.out; have := QB0.out.size; omega))).trans QC4.out); have QI5 := Lib.hid (QI4.out.oth fun b hb => ho b (by have := HS2.out; omega)); rw [← hs] at HSX; clear hb ho hF hs)
            | (refine wp_ldf rfl (.tmp 14) rfl gb rfl f QY5.out.range ?_))
          have HS5 : Hid (X2.heap.size ≤ X5.heap.size) := Lib.hid HSX.out
          refine (HQ.out _ _ QG5.out.got).mono ?_
          rintro e X6 ⟨⟨ao2, n2, c2, rfl, hi⟩, hb⟩
          have QA6 := Lib.hid (QA5.out.below hb)
          have QB6 := Lib.hid (QB5.out.trans (hb.mono QB5.out.size))
          have QZ6 := Lib.hid (QZ5.out.below hb)
          have QY6 := Lib.hid (QY5.out.below hb)
          have QC6 := Lib.hid ((hb.cell (World.block_lt_of_cell? _ _ QC5.out)).trans QC5.out)
          have QD6 := Lib.hid (QD5.out.below hb)
          have QI6 := Lib.hid (QI5.out.below hb)
          have QJ6 := Lib.hid (hi.low (B' := X2.heap.size) HS5.out)
          clear hb hi
          go_wp2_with (first
            | (refine wp_stfg rfl (.tmp 14) (.tmp 71) rfl gb f3 rfl rfl f QY6.out ?_; intro X7 hb ho hF hs; have QB7 := Lib.hid (QB6.out.trans (hb _ HFG.out.2)); have QY7 := Lib.hid hF; have QZ7 := Lib.hid (QZ6.out.oth (ho _ (by have := HFG.out; omega))); have QA7 := Lib.hid (QA6.out.oth (ho _ (by have := HS2.out; omega))); have QD7 := Lib.hid (QD6.out.oth (ho _ (by have := HS2.out; omega))); have QC7 := Lib.hid ((World.cell?_of_block (ho gb' (by have := QCL.out; have := HFG.out; omega))).trans QC6.out); have QI7 := Lib.hid (QI6.out.oth fun b hb => ho b (by have := HS2.out; omega)); have QJ7 := Lib.hid (QJ6.out.oth fun b hb => ho b (by have := HS2.out; omega)); clear hb ho hF hs)
            | (refine wp_stag rfl (.tmp 18) (.tmp 72) rfl X1.heap.size k a 0 v 0 ao2 n2 c2 rfl rfl acZ QD7.out rfl ?_; intro X8 hb ho hF hs; have QB8 := Lib.hid (QB7.out.trans (hb _ (by have := HS2.out; have := HFG.out; omega))); have QD8 := Lib.hid hF; have QZ8 := Lib.hid (QZ7.out.oth (ho _ (by have := HFG.out; have := HS2.out; omega))); have QY8 := Lib.hid (QY7.out.oth (ho _ (by have := HS2.out; omega))); have QA8 := Lib.hid (QA7.out.oth (ho _ (by have := HS2.out; omega))); have QC8 := (World.cell?_of_block (ho gb' (by have := QCL.out; have := HS2.out; have := HFG.out; omega))).trans QC7.out; have QI8 := Lib.hid (QI7.out.oth fun b hb => ho b (by have := HS2.out; omega)); have QJ8 := Lib.hid (QJ7.out.oth fun b hb => ho b (by have := HS2.out; omega)); have QN8 := Lib.hid (below_one X8 (z % 4096)); clear hb ho hF hs)
            | (refine wp_lda rfl (.tmp 17) rfl wr.heap.size rfl (acC k a 0 v 0 (.slice ao1 n1 c1)) rfl (QA8.out.below QN8.out) ?_)
            | (refine wp_lda rfl (.tmp 18) rfl X1.heap.size rfl (acC k a 0 v 0 (.slice ao2 n2 c2)) rfl (QD8.out.below QN8.out) ?_))
          refine (same_act k a v _ _ l _ (QI8.out.below QN8.out) (QJ8.out.below QN8.out) (by have := HL.out; omega)).mono ?_
          rintro e X9 ⟨rfl, hb⟩
          have hN := QN8.out.trans (hb.mono QN8.out.size)
          have QB9 := Lib.hid (QB8.out.trans (hN.mono QB8.out.size))
          have QZ9 := Lib.hid (QZ8.out.below hN)
          have QY9 := Lib.hid (QY8.out.below hN)
          have QG9 : Hid (GotB gb X9.heap.size X9 (.slice (some ⟨X8.heap.size, 0, none⟩) 1 1) (z % 4096)) := Lib.hid (.inr ⟨X8.heap.size, 0, 1, rfl, QY8.out.lt, Nat.lt_of_lt_of_le (by simp) hb.size, (hb.cell (by simp)).trans (by simp [go_sem])⟩)
          have kA := (QA8.out.below hN).cell (k := 0) (v := .int .i8 k) rfl
          clear hN hb QC8
          by_cases hk : k = 7
          · have d7 : (k == 7) = true := by simpa using hk
            clear hk
            go_wp2_with fail
            refine (wakes14 _).mono ?_
            rintro e Y ⟨rfl, hb⟩
            have HY := Lib.hid (QB9.out.trans (hb.mono QB9.out.size))
            clear hb
            go_wp2_with fail
            go_ret
            exact ⟨rfl, HY.out⟩
          · have d7 : (k == 7) = false := by simpa using hk
            obtain ⟨e3, hI2⟩ := HN.out hk
            rw [e3] at QY9
            have HI2 := Lib.hid hI2
            clear hk hI2 e3
            go_wp2_with fail
            go_roundw
            case rel => exact ⟨j + 1, f2, z % 4096, hlt, rfl, HI2.out, QZ9.out, QY9.out, QG9.out, Int.emod_nonneg _ (by omega), by have := Int.emod_lt_of_pos z (show (0 : Int) < 4096 by omega); omega, QB9.out⟩
            case measure => simp [intOf]; omega
        · have e : j = m := by omega
          subst e
          clear hI hZ hY hG hB
          go_wp2_with fail
          refine (wakes14 _).mono ?_
          rintro e Y ⟨rfl, hb⟩
          have HY := Lib.hid (QB0.out.trans (hb.mono QB0.out.size))
          clear hb
          go_wp2_with fail
          go_ret
          exact ⟨rfl, HY.out⟩
set_option maxHeartbeats 8000000 in
set_option maxRecDepth 100000 in
theorem step_tt (a2 a3 : Int) (v : Value) (l4 : List Int) (w : World) (h4 : SlI .i64 w v l4) (hm : l4.length ≤ 60) (F : Fr) (hF : ∀ w, (Instr.build 57 #[(0, .int .i8 56)]).run Try.prog w = .ok (.agg F.cells) w) (hin : Inv (startF F true true a2 a3) 0) : Calls Try.prog 6 #[.bool true, .bool true, .int .i64 a2, .int .i64 a3, v] w fun e w' => e = .returned (.bool true) ∧ Below w.heap.size w w' := by
  obtain ⟨hwf, ao, cap, rfl, hcap, hmax, hcl⟩ := h4
  have HCL := Lib.hid hcl
  obtain ⟨m, hM⟩ : ∃ m, l4.length = m := ⟨_, rfl⟩
  have HM := Lib.hid hM
  rw [hM] at hm hcap hcl ⊢
  have d0 : decide ((60 : Int) < (m : Int)) = false := by simp; omega
  have ea := and_255 a2
  have eb := and_255 a3
  have ec := and_18 a2
  have HFF := Lib.hid hF
  have HIV := Lib.hid hin
  clear hF hin hcl hM hwf
  have HB0 : Hid (Below w.heap.size w ((w.alloc (.cells #[.int .i64 (a2 % 256), .int .i64 (a3 % 256), .int .i64 1] 3)).alloc (.cells #[.int .i64 (a2 % 262144), .int .i64 1] 3))) := Lib.hid (((Below.refl _ _).alloc (Nat.le_refl _) _).alloc (by simp) _)
  have HAC : Hid (∀ k x, ([a2 % 262144, 1] : List Int)[k]? = some x → ((w.alloc (.cells #[.int .i64 (a2 % 256), .int .i64 (a3 % 256), .int .i64 1] 3)).alloc (.cells #[.int .i64 (a2 % 262144), .int .i64 1] 3)).cell? ⟨w.heap.size + 1, k, none⟩ = some (.int .i64 x)) := Lib.hid (by
    intro k x hk
    match k, hk with
    | 0, hk => simp at hk; subst hk; simp [go_sem]
    | 1, hk => simp at hk; subst hk; simp [go_sem]
    | k + 2, hk => simp at hk)
  go_enter Try.func6, Try.ntmps6
  go_wp2_with (first
    | (refine wp_b57z rfl rfl F HFF.out ?_)
    | (refine wp_al57g rfl rfl ?_; intro W1 hb hZ; have HB1 := Lib.hid (HB0.out.trans (hb.mono HB0.out.size)); have HC1 := Lib.hid (fun k x hk => (hb.cell (World.block_lt_of_cell? _ _ (HAC.out k x hk))).trans (HAC.out k x hk)); have HZ1 := Lib.hid hZ; clear hb hZ)
    | (refine wp_stfg rfl (.tmp 12) (.tmp 38) rfl ((w.alloc (.cells #[.int .i64 (a2 % 256), .int .i64 (a3 % 256), .int .i64 1] 3)).alloc (.cells #[.int .i64 (a2 % 262144), .int .i64 1] 3)).heap.size F rfl rfl Fr.zero HZ1.out ?_; intro W2 hb ho hF hs; have HB2 := Lib.hid (HB1.out.trans (hb _ HB0.out.size)); have HC2 := Lib.hid (fun k x hk => (World.cell?_of_block (ho _ (Nat.ne_of_lt (World.block_lt_of_cell? _ _ (HAC.out k x hk))))).trans (HC1.out k x hk)); simp only [World.size_alloc] at hF; have HZ2 := Lib.hid hF; clear hb ho hF hs)
    | (refine wp_setpg rfl (.tmp 40) (.const (.int .i8 57)) rfl (w.heap.size + 1 + 1) 57 rfl rfl F HZ2.out ?_; intro W3 hb ho hF hs; have HB3 := Lib.hid (HB2.out.trans (hb _ (by omega))); have HC3 := Lib.hid (fun k x hk => (World.cell?_of_block (ho _ (Nat.ne_of_lt (Nat.lt_succ_self _)))).trans (HC2.out k x hk)); have HZ3 := Lib.hid hF; clear hb ho hF hs)
  )
  have HFB : Hid (w.heap.size ≤ (w.heap.size + 1 + 1) ∧ w.heap.size + 1 < (w.heap.size + 1 + 1)) := Lib.hid (by omega)
  clear HAC HB0 HZ1
  go_loopw [13] (fun iv wr => ∃ j : Nat, j ≤ 2 ∧ iv = .int .i64 j ∧ Below w.heap.size w wr ∧ HB wr (w.heap.size + 1 + 1) (fillF (F.prog 57) [a2 % 262144, 1] j).cells 57 ∧ ∀ k x, ([a2 % 262144, 1] : List Int)[k]? = some x → wr.cell? ⟨w.heap.size + 1, k, none⟩ = some (.int .i64 x)) (fun iv _ => 2 - (intOf iv).toNat)
  case atStart => exact ⟨0, Nat.zero_le _, rfl, HB3.out, HZ3.out, HC3.out⟩
  case round =>
    obtain ⟨j, hj, rfl, hB, hZ, hC⟩ := hrel
    have HBr := Lib.hid hB
    have HZr := Lib.hid hZ
    have HCr := Lib.hid hC
    clear hB hZ hC
    by_cases hlt : j < 2
    · obtain ⟨x, hx⟩ : ∃ x, ([a2 % 262144, 1] : List Int)[j]? = some x := ⟨([a2 % 262144, 1] : List Int)[j]'(by simpa using hlt), List.getElem?_eq_getElem _⟩
      have hcell := HCr.out j x hx
      have hj3 : (j : Int) < 2 := by omega
      have hj96 : (j : Int) < 96 := by omega
      have HX := Lib.hid hx
      clear hx
      go_wp2_with (refine wp_setrg rfl (.tmp 53) (.tmp 51) rfl (w.heap.size + 1 + 1) j (by omega) x rfl rfl _ HZr.out ?_; intro W5 hb ho hF hs; rw [fillF_s _ _ _ _ HX.out] at hF; have HB5 := Lib.hid (HBr.out.trans (hb _ HFB.out.1)); have HC5 := Lib.hid (fun k x hk => (World.cell?_of_block (ho _ (Nat.ne_of_lt HFB.out.2))).trans (HCr.out k x hk)); have HZ5 := Lib.hid hF; clear hb ho hF hs)
      go_roundw
      case rel => exact ⟨j + 1, hlt, rfl, HB5.out, HZ5.out, HC5.out⟩
      case measure => simp [intOf]; omega
    · have e : j = 2 := by omega
      subst e
      clear hlt hj HCr
      have HSF : Hid (fillF (F.prog 57) [a2 % 262144, 1] 2 = startF F true true a2 a3) := Lib.hid rfl
      rw [HSF.out] at HZr
      have HIN := Lib.hid (HIV.out : Inv (startF F true true a2 a3) 0)
      generalize startF F true true a2 a3 = SF at *
      clear HSF HIV
      go_wp2_with (first
        | (refine wp_ldf rfl (.tmp 12) rfl (w.heap.size + 1 + 1) rfl SF HZr.out.range ?_)
        | (refine wp_al57g rfl rfl ?_; intro W6 hb hZ; have HB6 := Lib.hid (HBr.out.trans (hb.mono HBr.out.size)); have HZ6 := Lib.hid (HZr.out.below hb); have HY6 := Lib.hid hZ; clear hb hZ)
        | (refine wp_stfg rfl (.tmp 14) (.tmp 54) rfl wr.heap.size SF rfl rfl Fr.zero HY6.out ?_; intro W7 hb ho hF hs; have HB7 := Lib.hid (HB6.out.trans (hb _ HBr.out.size)); have HZ7 := Lib.hid (HZ6.out.oth (ho _ (Nat.ne_of_lt HZr.out.lt))); have HY7 := Lib.hid hF; clear hb ho hF hs))
      have HFG : Hid ((w.heap.size + 1 + 1) < wr.heap.size ∧ w.heap.size ≤ wr.heap.size) := Lib.hid ⟨HZr.out.lt, HBr.out.size⟩
      clear HZ6 HY6 HB6 HZr HBr
      generalize wr.heap.size = gb at *
      go_loopw [15, 16] (fun xv iv wr => ∃ (j : Nat) (f : Fr) (x : Int), j ≤ m ∧ iv = .int .i64 j ∧ Inv f j ∧ HB wr (w.heap.size + 1 + 1) f.cells 57 ∧ HB wr gb f.cells 57 ∧ GotB gb wr.heap.size wr xv x ∧ 0 ≤ x ∧ x ≤ 4095 ∧ Below w.heap.size w wr) (fun _ iv _ => m - (intOf iv).toNat)
      case atStart => exact ⟨0, SF, 0, Nat.zero_le _, rfl, HIN.out, HZ7.out, HY7.out, .inl ⟨rfl, rfl⟩, by omega, by omega, HB7.out⟩
      case round =>
        obtain ⟨j, f, x, hj, rfl, hI, hZ, hY, hG, hx1, hx2, hB⟩ := hrel
        have QZ0 := Lib.hid hZ
        have QY0 := Lib.hid hY
        have QG0 := Lib.hid hG
        have QB0 := Lib.hid hB
        by_cases hlt : j < m
        · obtain ⟨gb', go', rfl, hcell⟩ := HCL.out.resolve_left (by rw [HM.out]; omega)
          have hcj := hcell j (by rw [HM.out]; exact hlt)
          have QC0 := Lib.hid ((QB0.out.cell (World.block_lt_of_cell? _ _ hcj)).trans hcj)
          have QCL : Hid (gb' < w.heap.size) := Lib.hid (World.block_lt_of_cell? _ _ hcj)
          generalize l4.getD j 0 = z at *
          have ez := and_4095 z
          obtain ⟨f2, f3, k, a, v, l, hp, hq, hn, hl⟩ := both_step hI (by omega) x ⟨hx1, hx2⟩
          have HP := Lib.hid hp
          have HQ := Lib.hid hq
          have HN := Lib.hid hn
          have HL := Lib.hid hl
          clear hcell hcj hI hZ hY hG hB hp hq hn hl HZ7 HY7 HB7 HIN
          go_wp2_with (first
            | (refine wp_al59g rfl rfl ?_; intro X2 hb hA; have QA2 := Lib.hid (QA1.out.below hb); have QB2 := Lib.hid (QB1.out.trans (hb.mono QB1.out.size)); have QZ2 := Lib.hid (QZ1.out.below hb); have QY2 := Lib.hid (QY1.out.below hb); have QG2 := Lib.hid (QG1.out.below hb); have QC2 := Lib.hid ((hb.cell (World.block_lt_of_cell? _ _ QC1.out)).trans QC1.out); have QD2 := Lib.hid hA; clear hb hA)
            | (refine wp_al59g rfl rfl ?_; intro X1 hb hA; have QB1 := Lib.hid (QB0.out.trans (hb.mono QB0.out.size)); have QZ1 := Lib.hid (QZ0.out.below hb); have QY1 := Lib.hid (QY0.out.below hb); have QG1 := Lib.hid (QG0.out.below hb); have QC1 := Lib.hid ((hb.cell (World.block_lt_of_cell? _ _ QC0.out)).trans QC0.out); have QA1 := Lib.hid hA; clear hb hA)
            | (refine wp_ldf rfl (.tmp 12) rfl (w.heap.size + 1 + 1) rfl f QZ2.out.range ?_))
          refine (HP.out _ _ QG2.out.got).mono ?_
          rintro e X3 ⟨⟨ao1, n1, c1, rfl, hi⟩, hb⟩
          have QA3 := Lib.hid (QA2.out.below hb)
          have QB3 := Lib.hid (QB2.out.trans (hb.mono QB2.out.size))
          have QZ3 := Lib.hid (QZ2.out.below hb)
          have QY3 := Lib.hid (QY2.out.below hb)
          have QG3 := Lib.hid (QG2.out.below hb)
          have QC3 := Lib.hid ((hb.cell (World.block_lt_of_cell? _ _ QC2.out)).trans QC2.out)
          have QD3 := Lib.hid (QD2.out.below hb)
          have QI3 := Lib.hid hi
          have HSX : Hid (X2.heap.size ≤ X3.heap.size) := Lib.hid hb.size
          have HS2 : Hid (gb < wr.heap.size ∧ wr.heap.size < X1.heap.size ∧ X1.heap.size < X2.heap.size) := Lib.hid ⟨QY0.out.lt, QA1.out.lt, QD2.out.lt⟩
          clear hb hi
          go_wp2_with (first
            | (refine wp_stfg rfl (.tmp 12) (.tmp 65) rfl (w.heap.size + 1 + 1) f2 rfl rfl f QZ3.out ?_; intro X4 hb ho hF hs; have QB4 := Lib.hid (QB3.out.trans (hb _ HFB.out.1)); have QZ4 := Lib.hid hF; have QY4 := Lib.hid (QY3.out.oth (ho _ (by have := HFG.out; omega))); have QA4 := Lib.hid (QA3.out.oth (ho _ (by have := HFG.out; have := HS2.out; omega))); have QD4 := Lib.hid (QD3.out.oth (ho _ (by have := HFG.out; have := HS2.out; omega))); have QG4 := Lib.hid (QG3.out.keep fun b h1 h2 => ho b (by have := HFG.out; omega)); have QC4 := Lib.hid ((World.cell?_of_block (ho gb' (by have := QCL.out; omega))).trans QC3.out); have QI4 := Lib.hid (QI3.out.oth fun b hb => ho b (by have := HFG.out; have := HS2.out; omega)); rw [← hs] at HSX; clear hb ho hF hs)
            | (refine wp_stag rfl (.tmp 17) (.tmp 66) rfl wr.heap.size k a 0 v 0 ao1 n1 c1 rfl rfl acZ QA4.out rfl ?_; intro X5 hb ho hF hs; have QB5 := Lib.hid (QB4.out.trans (hb _ QB0.out.size)); have QA5 := Lib.hid hF; have QZ5 := Lib.hid (QZ4.out.oth (ho _ (by have := HFG.out; have := HS2.out; omega))); have QY5 := Lib.hid (QY4.out.oth (ho _ (by have := HS2.out; omega))); have QD5 := Lib.hid (QD4.out.oth (ho _ (by have := HS2.out; omega))); have QG5 := Lib.hid (QG4.out.keep fun b h1 h2 => ho b (by omega)); have QC5 := Lib.hid ((World.cell?_of_block (ho gb' (by have := QCL.out; have := QB0.out.size; omega))).trans QC4.out); have QI5 := Lib.hid (QI4.out.oth fun b hb => ho b (by have := HS2.out; omega)); rw [← hs] at HSX; clear hb ho hF hs)
            | (refine wp_ldf rfl (.tmp 14) rfl gb rfl f QY5.out.range ?_))
          have HS5 : Hid (X2.heap.size ≤ X5.heap.size) := Lib.hid HSX.out
          refine (HQ.out _ _ QG5.out.got).mono ?_
          rintro e X6 ⟨⟨ao2, n2, c2, rfl, hi⟩, hb⟩
          have QA6 := Lib.hid (QA5.out.below hb)
          have QB6 := Lib.hid (QB5.out.trans (hb.mono QB5.out.size))
          have QZ6 := Lib.hid (QZ5.out.below hb)
          have QY6 := Lib.hid (QY5.out.below hb)
          have QC6 := Lib.hid ((hb.cell (World.block_lt_of_cell? _ _ QC5.out)).trans QC5.out)
          have QD6 := Lib.hid (QD5.out.below hb)
          have QI6 := Lib.hid (QI5.out.below hb)
          have QJ6 := Lib.hid (hi.low (B' := X2.heap.size) HS5.out)
          clear hb hi
          go_wp2_with (first
            | (refine wp_stfg rfl (.tmp 14) (.tmp 71) rfl gb f3 rfl rfl f QY6.out ?_; intro X7 hb ho hF hs; have QB7 := Lib.hid (QB6.out.trans (hb _ HFG.out.2)); have QY7 := Lib.hid hF; have QZ7 := Lib.hid (QZ6.out.oth (ho _ (by have := HFG.out; omega))); have QA7 := Lib.hid (QA6.out.oth (ho _ (by have := HS2.out; omega))); have QD7 := Lib.hid (QD6.out.oth (ho _ (by have := HS2.out; omega))); have QC7 := Lib.hid ((World.cell?_of_block (ho gb' (by have := QCL.out; have := HFG.out; omega))).trans QC6.out); have QI7 := Lib.hid (QI6.out.oth fun b hb => ho b (by have := HS2.out; omega)); have QJ7 := Lib.hid (QJ6.out.oth fun b hb => ho b (by have := HS2.out; omega)); clear hb ho hF hs)
            | (refine wp_stag rfl (.tmp 18) (.tmp 72) rfl X1.heap.size k a 0 v 0 ao2 n2 c2 rfl rfl acZ QD7.out rfl ?_; intro X8 hb ho hF hs; have QB8 := Lib.hid (QB7.out.trans (hb _ (by have := HS2.out; have := HFG.out; omega))); have QD8 := Lib.hid hF; have QZ8 := Lib.hid (QZ7.out.oth (ho _ (by have := HFG.out; have := HS2.out; omega))); have QY8 := Lib.hid (QY7.out.oth (ho _ (by have := HS2.out; omega))); have QA8 := Lib.hid (QA7.out.oth (ho _ (by have := HS2.out; omega))); have QC8 := (World.cell?_of_block (ho gb' (by have := QCL.out; have := HS2.out; have := HFG.out; omega))).trans QC7.out; have QI8 := Lib.hid (QI7.out.oth fun b hb => ho b (by have := HS2.out; omega)); have QJ8 := Lib.hid (QJ7.out.oth fun b hb => ho b (by have := HS2.out; omega)); have QN8 := Lib.hid (below_one X8 (z % 4096)); clear hb ho hF hs)
            | (refine wp_lda rfl (.tmp 17) rfl wr.heap.size rfl (acC k a 0 v 0 (.slice ao1 n1 c1)) rfl (QA8.out.below QN8.out) ?_)
            | (refine wp_lda rfl (.tmp 18) rfl X1.heap.size rfl (acC k a 0 v 0 (.slice ao2 n2 c2)) rfl (QD8.out.below QN8.out) ?_))
          refine (same_act k a v _ _ l _ (QI8.out.below QN8.out) (QJ8.out.below QN8.out) (by have := HL.out; omega)).mono ?_
          rintro e X9 ⟨rfl, hb⟩
          have hN := QN8.out.trans (hb.mono QN8.out.size)
          have QB9 := Lib.hid (QB8.out.trans (hN.mono QB8.out.size))
          have QZ9 := Lib.hid (QZ8.out.below hN)
          have QY9 := Lib.hid (QY8.out.below hN)
          have QG9 : Hid (GotB gb X9.heap.size X9 (.slice (some ⟨X8.heap.size, 0, none⟩) 1 1) (z % 4096)) := Lib.hid (.inr ⟨X8.heap.size, 0, 1, rfl, QY8.out.lt, Nat.lt_of_lt_of_le (by simp) hb.size, (hb.cell (by simp)).trans (by simp [go_sem])⟩)
          have kA := (QA8.out.below hN).cell (k := 0) (v := .int .i8 k) rfl
          clear hN hb QC8
          by_cases hk : k = 7
          · have d7 : (k == 7) = true := by simpa using hk
            clear hk
            go_wp2_with fail
            refine (wakes14 _).mono ?_
            rintro e Y ⟨rfl, hb⟩
            have HY := Lib.hid (QB9.out.trans (hb.mono QB9.out.size))
            clear hb
            go_wp2_with fail
            go_ret
            exact ⟨rfl, HY.out⟩
          · have d7 : (k == 7) = false := by simpa using hk
            obtain ⟨e3, hI2⟩ := HN.out hk
            rw [e3] at QY9
            have HI2 := Lib.hid hI2
            clear hk hI2 e3
            go_wp2_with fail
            go_roundw
            case rel => exact ⟨j + 1, f2, z % 4096, hlt, rfl, HI2.out, QZ9.out, QY9.out, QG9.out, Int.emod_nonneg _ (by omega), by have := Int.emod_lt_of_pos z (show (0 : Int) < 4096 by omega); omega, QB9.out⟩
            case measure => simp [intOf]; omega
        · have e : j = m := by omega
          subst e
          clear hI hZ hY hG hB
          go_wp2_with fail
          refine (wakes14 _).mono ?_
          rintro e Y ⟨rfl, hb⟩
          have HY := Lib.hid (QB0.out.trans (hb.mono QB0.out.size))
          clear hb
          go_wp2_with fail
          go_ret
          exact ⟨rfl, HY.out⟩
set_option maxHeartbeats 2000000 in
set_option maxRecDepth 100000 in
theorem step_big (a0 a1 : Bool) (a2 a3 : Int) (v : Value) (l4 : List Int) (w : World) (h4 : SlI .i64 w v l4) (hm : 60 < l4.length) : Calls Try.prog 6 #[.bool a0, .bool a1, .int .i64 a2, .int .i64 a3, v] w fun e w' => e = .returned (.bool true) ∧ Below w.heap.size w w' := by
  obtain ⟨hwf, ao, cap, rfl, hcap, hmax, hcl⟩ := h4
  generalize l4.length = m at *
  have d0 : decide ((60 : Int) < (m : Int)) = true := by simp; omega
  clear hcl hwf
  go_enter Try.func6, Try.ntmps6
  go_wp2_with fail
  refine (wakes14 _).mono ?_
  rintro e Y ⟨rfl, hb⟩
  have HY := Lib.hid hb
  clear hb
  go_wp2_with fail
  go_ret
  exact ⟨rfl, HY.out⟩
theorem lawSlotsStep_walk (a0 a1 : Bool) (a2 a3 : Int) (v4 : Value) (l4 : List Int) (w : World) (w2 : (Lit.int .i64 a2).wf = true) (w3 : (Lit.int .i64 a3).wf = true) (w4 : SlI .i64 w v4 l4) : Calls Try.prog 6 #[.bool a0, .bool a1, .int .i64 a2, .int .i64 a3, v4] w fun e w' => e = .returned (.bool true) ∧ Below w.heap.size w w' := by
  by_cases hm : l4.length ≤ 60
  · cases a0 <;> cases a1
    · exact step_ff a2 a3 v4 l4 w w4 hm F56 bl56 (start_inv _ _ _ _)
    · exact step_ft a2 a3 v4 l4 w w4 hm F56 bl56 (start_inv _ _ _ _)
    · exact step_tf a2 a3 v4 l4 w w4 hm F56 bl56 (start_inv _ _ _ _)
    · exact step_tt a2 a3 v4 l4 w w4 hm F56 bl56 (start_inv _ _ _ _)
  · exact step_big a0 a1 a2 a3 v4 l4 w w4 (by omega)
end Go.Proofs.Ytgpdknacnmapiaa
