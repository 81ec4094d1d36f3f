/-
  The walk of SumsBurst (chapter 02).
-/
import Derived.Test.YtifgbhakbgakmaaSumsTell
namespace Go.Proofs.Ytifgbhakbgakmaa
set_option linter.unusedVariables false
open Go.RowKit Go.ChangeShapes Go.WideShapes Crc
theorem Own.lit0 (T B : Nat) (w : World) (hB : B ≤ w.heap.size) : Own T B (w.alloc (.cells #[] T)) (.slice (some ⟨w.heap.size, 0, none⟩) 0 0) [] :=
  ⟨IsBytes.nil, rfl, .inr ⟨w.heap.size, 0, #[], rfl, hB, heap_alloc_new w _, Nat.le_refl _, Nat.zero_le _, rfl, rfl⟩⟩
theorem Own.setCell {T B : Nat} {w : World} {v : Value} {l : List Nat} (h : Own T B w v l) {a : Addr} (ha : a.block < B) (u : Value) : Own T B (w.setCell a u) v l := ⟨h.1, ownsRow_setCell_below h.2 ha u⟩
theorem Own.cell {T B g cap : Nat} {w : World} {l : List Nat} (h : Own T B w (.slice (some ⟨g, 0, none⟩) l.length cap) l) (j : Nat) (hj : j < l.length) : w.cell? ⟨g, j, none⟩ = some (.int .u8 ((l.getD j 0 : Nat) : Int)) := by
  have := h.2.cellAt j (by omega)
  rw [this]
  simp [bv, List.getD, List.getElem?_eq_getElem hj]
theorem Own.free {T B g cap : Nat} {w : World} {l : List Nat} (h : Own T B w (.slice (some ⟨g, 0, none⟩) l.length cap) l) (j : Nat) : w.frozen? ⟨g, j, none⟩ = false := h.2.frozenAt j
theorem Own.set {T B g cap : Nat} {w : World} {l : List Nat} (h : Own T B w (.slice (some ⟨g, 0, none⟩) l.length cap) l) (j y : Nat) (hy : y < 256) : Own T B (w.setCell ⟨g, j, none⟩ (.int .u8 (y : Int))) (.slice (some ⟨g, 0, none⟩) l.length cap) (l.set j y) := by
  refine ⟨?_, ?_⟩
  · intro x hx
    rcases List.mem_or_eq_of_mem_set hx with h1 | rfl
    · exact h.1 x h1
    · exact hy
  · have := h.2.stored j (bv y)
    rw [List.length_set, List.map_set]
    exact this.1

theorem own_cell {T B g n cap : Nat} {w : World} {l : List Nat} (h : Own T B w (.slice (some ⟨g, 0, none⟩) n cap) l) (hl : l.length = n) (j : Nat) (hj : j < n) : w.cell? ⟨g, j, none⟩ = some (.int .u8 ((l.getD j 0 : Nat) : Int)) := by
  subst hl; exact h.cell j hj
theorem own_free {T B g n cap : Nat} {w : World} {l : List Nat} (h : Own T B w (.slice (some ⟨g, 0, none⟩) n cap) l) (hl : l.length = n) (j : Nat) : w.frozen? ⟨g, j, none⟩ = false := by
  subst hl; exact h.free j
/-- 'out = append(out, b...)', of more than no bytes: the slice written out -/
theorem cat_own {P : Program} {T E : TypeId} (BT : ByteT P T E) {w : World} {ops : Array Oper} {rest : List Oper} {o : Oper} {a : Act} {Q : Exit → Act → World → Prop} (hgd : o.guard = none) (s x : Operand)
    (ho : o.op = .call { callee := .builtin .append, args := #[s, x], argTypes := #[T, T] })
    (B : Nat) (v : Value) (l : List Nat) (hs : a.eval s = v) (hown : Own E B w v l) (u : Value) (r : List Nat) (hx : a.eval x = u) (hsl : Sl w u r)
    (hlen : l.length + r.length ≤ 70368744177664) (hB : B ≤ w.heap.size) (N : Nat) (hN : l.length + r.length = N) (h0 : 0 < N)
    (h : ∀ g cap w', B ≤ g → g < w'.heap.size → N ≤ cap → cap ≤ 9223372036854775807 → Own E B w' (.slice (some ⟨g, 0, none⟩) N cap) (l ++ r) → w.grownBy w' v.ownBlock → wpList P ops Q rest (a.put o.dst (.slice (some ⟨g, 0, none⟩) N cap)) w') : wpList P ops Q (o :: rest) a w := by
  refine wp_cat_own BT hgd s x ho B v l hs hown u r hx hsl hlen hB ?_
  intro v' w' h1 h2
  have hl : (l ++ r).length = N := by rw [List.length_append, hN]
  obtain ⟨h0', h3, h4⟩ := h1
  rcases h4 with ⟨rfl, h4⟩ | ⟨g, cap, cur, rfl, hb, hg, hc, hm, hs', ht⟩
  · omega
  · have hO : Own E B w' (.slice (some ⟨g, 0, none⟩) (l ++ r).length cap) (l ++ r) := ⟨h0', h3, .inr ⟨g, cap, cur, rfl, hb, hg, hc, hm, hs', ht⟩⟩
    rw [hl] at hc hO ⊢
    exact h g cap w' hb (Array.getElem?_eq_some_iff.1 hg).1 hc (by unfold maxLen at hm; omega) hO h2
def BurstRel (w wr : World) (g N cap : Nat) (V : Nat) : Prop := Below w.heap.size w wr ∧ ∃ l', l'.length = N ∧ Own 5 w.heap.size wr (.slice (some ⟨g, 0, none⟩) N cap) l' ∧ val l' = V
theorem burst_and {D j : Nat} (hD : D < 4294967296) : bits BinOp.and IntKind.u32 ((D : Int) / 2 ^ j) 1 = ((D / 2 ^ j % 2 : Nat) : Int) := by
  have h := u32_and_nat (D / 2 ^ j) 1 (Nat.lt_of_le_of_lt (Nat.div_le_self _ _) hD) (by omega)
  rw [nat_mask1] at h
  rw [← h]
  simp
theorem burst_test {D j : Nat} (hD : D < 4294967296) (h : D / 2 ^ j % 2 = 1) : (bits BinOp.and IntKind.u32 ((D : Int) / 2 ^ j) 1 == 1) = true := by
  rw [burst_and hD, h]; rfl
theorem burst_test0 {D j : Nat} (hD : D < 4294967296) (h : D / 2 ^ j % 2 = 0) : (bits BinOp.and IntKind.u32 ((D : Int) / 2 ^ j) 1 == 1) = false := by
  rw [burst_and hD, h]; rfl
theorem burst_even {D j : Nat} (h : D / 2 ^ j % 2 = 0) : D % 2 ^ (j + 1) = D % 2 ^ j := by
  rw [burst_bit, h, Nat.mul_zero, Nat.xor_zero]
theorem burst_at (a : Int) (M : Int) (h0 : 0 < M) (hM : M < 1000000) : ∃ p : Nat, (wrap64 (a.tmod M + M)).tmod M = (p : Int) ∧ (p : Int) < M := by
  have h1 := Int.tmod_lt_of_pos a h0
  have h2 := Int.lt_tmod_of_pos a h0
  rw [IntWalk.wrap64_in _ ⟨by omega, by omega⟩, Int.tmod_eq_emod_of_nonneg (by omega)]
  have h3 := Int.emod_nonneg (a.tmod M + M) (b := M) (by omega)
  have h4 := Int.emod_lt_of_pos (a.tmod M + M) h0
  obtain ⟨p, hp⟩ := Int.eq_ofNat_of_zero_le h3
  exact ⟨p, hp, by omega⟩
theorem burst_start {w wb wc : World} (hb : Below w.heap.size w wb) (hg : (wb.alloc (.cells #[] 5)).grownBy wc (Value.slice (some ⟨wb.heap.size, 0, none⟩) 0 0).ownBlock) : Below w.heap.size w wc :=
  (hb.alloc hb.size _).grown hg (by have := hb.size; simp; omega) (fun k hk => by simp [Value.ownBlock] at hk; have := hb.size; omega)
theorem burst_round {w wr : World} {g N cap V p D j q r x : Nat} {l' : List Nat} (hb : Below w.heap.size w wr) (ho : Own 5 w.heap.size wr (.slice (some ⟨g, 0, none⟩) N cap) l') (hl : l'.length = N) (hv : val l' = V ^^^ 2 ^ p * (D % 2 ^ j)) (hx : l'.getD q 0 = x) (hqr : p + j = 8 * q + r) (hr : r < 8) (hq : q < N) (hg : w.heap.size ≤ g) (hbt : D / 2 ^ j % 2 = 1) :
    BurstRel w ((wr.setCell ⟨g, q, none⟩ (.int .u8 (bits BinOp.xor IntKind.u8 (x : Int) (2 ^ r % 256)))).drew) g N cap (V ^^^ 2 ^ p * (D % 2 ^ (j + 1))) ∧ D % 2 ^ (j + 1) ≠ 0 := by
  subst hl
  have hx2 : x < 256 := by rw [← hx]; exact ho.1.getD q
  have hr2 : 2 ^ r < 256 := Nat.lt_of_lt_of_le (Nat.pow_lt_pow_right (by omega) hr) (by decide)
  have hy : bits BinOp.xor IntKind.u8 (x : Int) (2 ^ r % 256) = ((x ^^^ 2 ^ r : Nat) : Int) := by
    rw [← u8_xor_nat x (2 ^ r) hx2 hr2]
    have h3 : ((2 : Int) ^ r) = ((2 ^ r : Nat) : Int) := by simp
    have h4 : ((2 ^ r : Nat) : Int) % 256 = ((2 ^ r : Nat) : Int) := by
      generalize 2 ^ r = z at hr2
      omega
    rw [h3, h4]
  have hy2 : x ^^^ 2 ^ r < 256 := Nat.xor_lt_two_pow (n := 8) hx2 hr2
  have hb2 := hb.setCell (p := (⟨g, q, none⟩ : Addr)) hg (.int .u8 ((x ^^^ 2 ^ r : Nat) : Int))
  have ho2 := ho.set q (x ^^^ 2 ^ r) hy2
  rw [hy]
  refine ⟨⟨below_drewN hb2 1, l'.set q (x ^^^ 2 ^ r), by simp, ho2.below (below_drewN (Below.refl _ _) 1) (Nat.le_refl _), ?_⟩, ?_⟩
  · rw [← hx, val_set l' q (2 ^ r) hq, hv, burst_bit D j, hbt, Nat.mul_one, two_pow_mul_xor, ← Nat.pow_add, ← Nat.pow_add, ← hqr, Nat.xor_assoc]
  · rw [Nat.pow_succ, Nat.mod_mul, hbt]
    have := Nat.two_pow_pos j
    omega
theorem opn_code (l : List Nat) : (Opens l → (opn l).2 = 0) ∧ (¬ Opens l → (opn l).2 = 50) := by
  unfold opn
  by_cases h : l = sealed (l.take (l.length - 4))
  · rw [if_pos h]
    refine ⟨fun _ => rfl, fun hn => (hn ⟨?_, h⟩).elim⟩
    have := congrArg List.length h
    rw [sealed_length] at this
    omega
  · rw [if_neg h]
    exact ⟨fun ho => (h ho.2).elim, fun _ => rfl⟩
theorem burst_code {l0 l' : List Nat} {N p D j : Nat} (hb : IsBytes l0) (hs : (sealed l0).length = N) (hl : l'.length = N) (hl' : IsBytes l') (hv : val l' = val (sealed l0) ^^^ 2 ^ p * (D % 2 ^ j)) (hj : j ≤ 32) (hp : p ≤ 8 * N) :
    (D % 2 ^ j = 0 → (opn l').2 = 0) ∧ (D % 2 ^ j ≠ 0 → (opn l').2 = 50) := by
  have hD : D % 2 ^ j < 2 ^ 32 := Nat.lt_of_lt_of_le (Nat.mod_lt _ (Nat.two_pow_pos j)) (Nat.pow_le_pow_right (by omega) hj)
  have h := burst_told l0 l' hb hl' (by rw [hl, hs]) (D % 2 ^ j) p hD (by rw [hl]; exact hp) hv
  exact ⟨fun h0 => (opn_code l').1 (h.2 h0), fun h0 => (opn_code l').2 (fun ho => h0 (h.1 ho))⟩
set_option maxHeartbeats 1000000 in
theorem lawSumsBurst_walk (v0 : Value) (l0 : List Nat) (a1 a2 : Int) (w : World) (w0 : Sl w v0 l0) (w1 : (Lit.int .i64 a1).wf = true) (w2 : (Lit.int .u32 a2).wf = true) :
    Calls Try.prog 6 #[v0, .int .i64 a1, .int .u32 a2] w fun e w' => e = .returned (.bool true) ∧ Below w.heap.size w w' := by
  obtain ⟨ao0, cap0, rfl, hc0, hm0⟩ := w0.shape
  have b2 := bounds_u32 w2
  have b1 := bounds_i64 w1
  clear w2 w1
  obtain ⟨D, rfl⟩ := Int.eq_ofNat_of_zero_le b2.1
  have hD := Lib.hid (show D < 4294967296 by omega)
  clear b2
  by_cases hlen : 4000 < l0.length
  · have d0 : decide ((4000 : Int) < (l0.length : Int)) = true := by simp; omega
    have B0 := Lib.hid (Below.refl w.heap.size w)
    clear w0
    go_enter Try.func6, Try.ntmps6
    go_wp2_with fail
    refine (wakes02_any _).mono ?_
    rintro e w' ⟨rfl, rfl⟩
    go_wp2_with fail
    go_ret
    exact ⟨rfl, B0.out⟩
  have d0 : decide ((4000 : Int) < (l0.length : Int)) = false := by simp; omega
  have W0 := Lib.hid w0
  have hb0 := Lib.hid w0.bytes
  clear w0
  obtain ⟨n, hn⟩ : ∃ n, n = l0.length := ⟨_, rfl⟩
  have HN := Lib.hid hn
  rw [← hn] at hlen d0 hc0 ⊢
  rw [← hn] at W0
  clear hn
  go_enter Try.func6, Try.ntmps6
  go_wp2_with fail
  refine (seal_n _ l0 n w W0.out HN.out.symm (by omega)).mono ?_
  rintro e wa ⟨g0, cs, rfl, hs1, hs2, hs, hba⟩
  have HS := Lib.hid hs.sl
  have BA := Lib.hid hba
  clear hs hba
  go_wp2_with fail
  have HSL := Lib.hid (show (sealed l0).length = n + 4 by rw [sealed_length, HN.out])
  refine (open_opn _ (sealed l0) (by rw [HSL.out]; omega) wa HS.out).mono ?_
  rintro e wb ⟨vx, rfl, hx, hbb⟩
  rw [opn_sealed] at hx
  have hsx := hx.str
  have hsy := (W0.out.below (BA.out.trans (hbb.mono BA.out.size)) (Nat.le_refl _)).str
  have HS2 := Lib.hid (HS.out.below hbb (Nat.le_refl _))
  have BB := Lib.hid (BA.out.trans (hbb.mono BA.out.size))
  clear hx hbb BA HS
  rw [opn_sealed]
  obtain ⟨p, hp, hp2⟩ := burst_at a1 (8 * ((n : Int) + 4)) (by omega) (by omega)
  go_wp2_with (at_builtin; refine cat_own bt rfl (.tmp 54) (.tmp 55) rfl w.heap.size _ [] rfl (Own.lit0 5 _ _ BB.out.size) _ (sealed l0) rfl (HS2.out.alloc _) (by rw [HSL.out, List.length_nil]; omega) (by have := BB.out.size; simp; omega) (n + 4) (by rw [HSL.out, List.length_nil]; omega) (by omega) ?_; intro g cap wc hg1 hg2 hg3 hg4 hown hgr)
  rw [List.nil_append] at hown
  have HR := Lib.hid (⟨burst_start BB.out hgr, sealed l0, HSL.out, hown, rfl⟩ : BurstRel w wc g (n + 4) cap (val (sealed l0)))
  have hp3 : p < 8 * (n + 4) := by omega
  clear hgr hown hp hp2 BB HS2 hsx hsy W0
  obtain ⟨V, hV⟩ : ∃ V, V = val (sealed l0) := ⟨_, rfl⟩
  rw [← hV] at HR
  have HV := Lib.hid hV
  clear hV
  go_loopw [12, 13] (fun tu i wr => ∃ j : Nat, j ≤ 32 ∧ p + j ≤ 8 * (n + 4) ∧ i = .int .i64 j ∧ tu = .bool (decide (D % 2 ^ j ≠ 0)) ∧ BurstRel w wr g (n + 4) cap (V ^^^ 2 ^ p * (D % 2 ^ j))) (fun _ i _ => 32 - (intOf i).toNat)
  case atStart => exact ⟨0, by omega, by omega, rfl, by rw [Nat.pow_zero, Nat.mod_one]; rfl, by rw [Nat.pow_zero, Nat.mod_one, Nat.mul_zero, Nat.xor_zero]; exact HR.out⟩
  case round =>
    obtain ⟨j, hj, hpj, rfl, rfl, hb, l', hl', ho', hv⟩ := hrel
    by_cases hlt : j < 32 ∧ p + j < 8 * (n + 4)
    · have d1 : decide ((j : Int) < 32) = true := by simp; omega
      have d2 : decide ((p : Int) + (j : Int) < 8 * ((n : Int) + 4)) = true := by simp; omega
      obtain ⟨q, r, hqr, hr⟩ : ∃ q r, p + j = 8 * q + r ∧ r < 8 := ⟨(p + j) / 8, (p + j) % 8, by omega, by omega⟩
      have hq1 : ((p : Int) + (j : Int)) / 8 = (q : Int) := by omega
      have hr1 : ((p : Int) + (j : Int)) % 8 = (r : Int) := by omega
      have hcell := own_cell ho' hl' q (by omega)
      have hfree := own_free ho' hl' q
      have HO := Lib.hid ho'
      have HB := Lib.hid hb
      have HV2 := Lib.hid hv
      clear ho' hb hv HR
      have hx := Lib.hid (HO.out.1.getD q)
      generalize hxx : l'.getD q 0 = x at *
      have HX := Lib.hid hxx
      clear hxx
      rcases (show D / 2 ^ j % 2 = 1 ∨ D / 2 ^ j % 2 = 0 by omega) with hbt | hbt
      · have hbit : (bits BinOp.and IntKind.u32 ((D : Int) / 2 ^ j) 1 == 1) = true := burst_test hD.out hbt
        go_wp2
        go_region
        go_wp2
        have hR := burst_round HB.out HO.out hl' HV2.out HX.out hqr hr (by omega) hg1 hbt
        go_roundw
        case rel => exact ⟨j + 1, by omega, by omega, by go_num, by rw [decide_eq_true hR.2], hR.1⟩
        case measure => simp [intOf]; omega
      · have hbit : (bits BinOp.and IntKind.u32 ((D : Int) / 2 ^ j) 1 == 1) = false := burst_test0 hD.out hbt
        go_wp2
        go_roundw
        case rel => exact ⟨j + 1, by omega, by omega, by go_num, by rw [burst_even hbt], by rw [burst_even hbt]; exact ⟨HB.out, l', hl', HO.out, HV2.out⟩⟩
        case measure => simp [intOf]; omega
    · have hcode := burst_code hb0.out HSL.out hl' ho'.1 (by rw [← HV.out]; exact hv) (show j ≤ 32 from hj) (show p ≤ 8 * (n + 4) by omega)
      have HO := Lib.hid ho'.sl
      have HB := Lib.hid hb
      clear hb ho' hv HR
      have hEnd : ∀ wz, Below w.heap.size w wr → Below wr.heap.size wr wz → Below w.heap.size w wz := fun wz h1 h2 => h1.trans (h2.mono h1.size)
      have HE := Lib.hid hEnd
      clear hEnd
      rcases (show j = 32 ∨ (j < 32 ∧ p + j = 8 * (n + 4)) by omega) with hj32 | hj32
      · have d1 : decide ((j : Int) < 32) = false := by simp; omega
        rcases (show D % 2 ^ j = 0 ∨ D % 2 ^ j ≠ 0 by omega) with hz | hz
        · have hc := hcode.1 hz
          have dz : decide (D % 2 ^ j ≠ 0) = false := decide_eq_false (fun h => h hz)
          rw [dz]
          clear hcode hz dz
          go_wp2_with fail
          refine (open_opn _ l' (by rw [hl']; omega) wr HO.out).mono ?_
          rintro e wz ⟨vt, rfl, hvt, hbz⟩
          have HZ := Lib.hid (HE.out wz HB.out hbz)
          clear hvt hbz
          rw [hc]
          go_wp2_with fail
          refine (wakes02_any _).mono ?_
          rintro e w' ⟨rfl, rfl⟩
          go_wp2_with fail
          go_ret
          exact ⟨rfl, HZ.out⟩
        · have hc := hcode.2 hz
          have dz : decide (D % 2 ^ j ≠ 0) = true := decide_eq_true hz
          rw [dz]
          clear hcode hz dz
          go_wp2_with fail
          refine (open_opn _ l' (by rw [hl']; omega) wr HO.out).mono ?_
          rintro e wz ⟨vt, rfl, hvt, hbz⟩
          have HZ := Lib.hid (HE.out wz HB.out hbz)
          clear hvt hbz
          rw [hc]
          go_wp2_with fail
          refine (wakes02_any _).mono ?_
          rintro e w' ⟨rfl, rfl⟩
          go_wp2_with fail
          go_ret
          exact ⟨rfl, HZ.out⟩
      · have d1 : decide ((j : Int) < 32) = true := by simp; omega
        have d2 : decide ((p : Int) + (j : Int) < 8 * ((n : Int) + 4)) = false := by simp; omega
        rcases (show D % 2 ^ j = 0 ∨ D % 2 ^ j ≠ 0 by omega) with hz | hz
        · have hc := hcode.1 hz
          have dz : decide (D % 2 ^ j ≠ 0) = false := decide_eq_false (fun h => h hz)
          rw [dz]
          clear hcode hz dz
          go_wp2_with fail
          refine (open_opn _ l' (by rw [hl']; omega) wr HO.out).mono ?_
          rintro e wz ⟨vt, rfl, hvt, hbz⟩
          have HZ := Lib.hid (HE.out wz HB.out hbz)
          clear hvt hbz
          rw [hc]
          go_wp2_with fail
          refine (wakes02_any _).mono ?_
          rintro e w' ⟨rfl, rfl⟩
          go_wp2_with fail
          go_ret
          exact ⟨rfl, HZ.out⟩
        · have hc := hcode.2 hz
          have dz : decide (D % 2 ^ j ≠ 0) = true := decide_eq_true hz
          rw [dz]
          clear hcode hz dz
          go_wp2_with fail
          refine (open_opn _ l' (by rw [hl']; omega) wr HO.out).mono ?_
          rintro e wz ⟨vt, rfl, hvt, hbz⟩
          have HZ := Lib.hid (HE.out wz HB.out hbz)
          clear hvt hbz
          rw [hc]
          go_wp2_with fail
          refine (wakes02_any _).mono ?_
          rintro e w' ⟨rfl, rfl⟩
          go_wp2_with fail
          go_ret
          exact ⟨rfl, HZ.out⟩
end Go.Proofs.Ytifgbhakbgakmaa
