/-
  The walks of PackBack and PackOwn (chapter 01).
-/
import Derived.Test.YtifgbhakbgakmaaPackLaws3
import Derived.Lib.QuietBelow
namespace Go.Proofs.Ytifgbhakbgakmaa
set_option linter.unusedVariables false
open Go.RowKit Go.ChangeShapes
theorem put_goodN (v0 : Value) (m k : Nat) (h1 : 1 ≤ k) (h2 : k ≤ 6) (hm : m < 256 ^ k) (l : List Nat) (w : World) (hsl : Sl w v0 l) (hlen : l.length < 35184372088832) (n q : Int) (hn : n = (m : Int)) (hq : q = (k : Int)) (N : Nat) (hN : N = l.length + k) :
    Calls Try.prog 31 #[v0, .int .i64 n, .int .i64 q] w (PutPostN w N (l ++ le k m) 0) := by
  subst hN
  refine (put_good v0 m k h1 h2 hm l w hsl hlen n q hn hq).mono ?_
  rintro e w' ⟨ao, cap, he, r⟩
  rw [List.length_append, le_length] at he r
  exact ⟨ao, cap, he, r⟩
theorem Sl.cut {w : World} {ao : Option Addr} {n cap : Nat} {l : List Nat} (h : Sl w (.slice ao n cap) l) (k : Nat) (hk : k ≤ n) : Sl w (.slice ao k cap) (l.take k) := by
  obtain ⟨h0, a, c, he, h1, h2, h3, h4⟩ := h
  cases he
  have hl : (l.take k).length = k := by rw [List.length_take]; omega
  refine ⟨h0.take k, ao, cap, by rw [hl], by rw [hl]; omega, h2, h3, ?_⟩
  rcases h4 with h4 | ⟨b, off, rfl, hc⟩
  · exact .inl (by rw [hl]; omega)
  · refine .inr ⟨b, off, rfl, fun i hi => ?_⟩
    rw [hl] at hi
    rw [hc i (by omega)]
    simp [List.getD, hi]
theorem Own.lit0 (T B : Nat) (w : World) (hB : B ≤ w.heap.size) : Own T B (w.alloc (.cells #[] T)) (.slice (some ⟨w.heap.size, 0, none⟩) 0 0) [] :=
  ⟨IsBytes.nil, rfl, .inr ⟨w.heap.size, 0, #[], rfl, hB, heap_alloc_new w _, Nat.le_refl _, Nat.zero_le _, rfl, rfl⟩⟩
theorem str_draws {w : World} {v : Value} {l : List Nat} (h : Sl w v l) (n : Nat) : (convert 22 9 v).run Try.prog (w.drewN n) = .ok (.string (strOf l)) (w.drewN n) :=
  (h.quiet ⟨n, rfl⟩).string bt (dst := 9) (by kernel_rfl)
theorem back_below1 {w wa wb : World} {q : Nat} {o : Obj} (h : Below w.heap.size w wa) (hg : ((wa.drewN q).alloc o).grownBy wb (Value.slice (some ⟨(wa.drewN q).heap.size, 0, none⟩) 0 0).ownBlock) : Below w.heap.size w wb := by
  have h1 := h.trans (Quiet.below (B := w.heap.size) ⟨q, rfl⟩)
  exact (h1.alloc (by exact h1.size) o).grown hg (by have := h1.size; simp at this ⊢; omega) (fun k hk => by
    simp [Value.ownBlock] at hk
    have := h.size
    omega)
theorem back_below2 {w wb wc : World} {v : Value} {l : List Nat} (h : Below w.heap.size w wb) (ho : Own 5 w.heap.size wb v l) (hg : wb.grownBy wc v.ownBlock) : Below w.heap.size w wc :=
  h.grown hg h.size (fun k hk => (ho.2.lt k hk).1)
theorem num_of_le (k m : Nat) (h : m < 256 ^ k) : num (le k m) = m := by
  induction k generalizing m with
  | zero => simp [le, num]; simp at h; omega
  | succ k ih =>
    rw [le, num, ih (m / 256) (by rw [Nat.pow_succ] at h; omega)]; omega
theorem back_num (l0 l1 : List Nat) (m K : Nat) (h : m < 256 ^ K) : num (((([] ++ (l0 ++ le K m)) ++ l1).drop l0.length).take K) = m := by
  rw [List.nil_append, List.append_assoc, List.drop_left' rfl, List.take_left' (le_length K m), num_of_le K m h]
theorem lawPackBack_walk (v0 : Value) (l0 : List Nat) (v1 : Value) (l1 : List Nat) (a2 a3 : Int) (w : World) (w0 : Sl w v0 l0) (w1 : Sl w v1 l1) (w2 : (Lit.int .i64 a2).wf = true) (w3 : (Lit.int .i64 a3).wf = true) :
    Calls Try.prog 11 #[v0, v1, .int .i64 a2, .int .i64 a3] w fun e w' => e = .returned (.bool true) ∧ Below w.heap.size w w' := by
  have b2 := bounds_i64 w2
  clear w2 w3
  obtain ⟨ao, cap, rfl, hc1, hc2⟩ := w0.open
  obtain ⟨ao1, cap1, rfl, hd1, hd2⟩ := w1.open
  by_cases hlen : 2000 < l0.length
  · have d0 : decide (2000 < l0.length) = true := by simp; omega
    go_enter Try.func11, Try.ntmps11
    go_wp2_with (go_at_call 25; refine (wakes01_any _).mono ?_; rintro e w' ⟨rfl, hb⟩)
    go_ret
    exact ⟨rfl, hb⟩
  have d0 : decide (2000 < l0.length) = false := by simp; omega
  by_cases hlen1 : 2000 < l1.length
  · have d1 : decide (2000 < l1.length) = true := by simp; omega
    go_enter Try.func11, Try.ntmps11
    go_wp2_with (go_at_call 25; refine (wakes01_any _).mono ?_; rintro e w' ⟨rfl, hb⟩)
    go_ret
    exact ⟨rfl, hb⟩
  have d1 : decide (2000 < l1.length) = false := by simp; omega
  by_cases h3 : 1 ≤ a3 ∧ a3 ≤ 6 ∧ 0 ≤ a2 ∧ a2 < (256 : Int) ^ a3.toNat
  · obtain ⟨K, rfl⟩ := Int.eq_ofNat_of_zero_le (show 0 ≤ a3 by omega)
    obtain ⟨m, rfl⟩ := Int.eq_ofNat_of_zero_le h3.2.2.1
    have hK : 1 ≤ K ∧ K ≤ 6 := by omega
    have hm : m < 256 ^ K := by
      have := h3.2.2.2
      rw [Int.toNat_natCast, show (256 : Int) ^ K = ((256 ^ K : Nat) : Int) by simp] at this
      omega
    clear h3
    obtain ⟨N, hN⟩ : ∃ N, N = l0.length + K := ⟨_, rfl⟩
    have hNK : ((N : Int) != (l0.length : Int) + (K : Int)) = false := by rw [bne_eq_false_iff_eq]; omega
    have P1 := Lib.hid (put_goodN (.slice ao l0.length cap) m K hK.1 hK.2 hm l0 w w0 (by omega) (m : Int) (K : Int) rfl rfl N hN)
    have HN := Lib.hid hN
    have HM := Lib.hid hm
    clear hm hN
    go_enter Try.func11, Try.ntmps11
    go_wp2_with fail
    refine P1.out.mono ?_
    rintro e wa ⟨aoa, ca, rfl, ha1, ha2, oa, ba⟩
    have hle : l0.length ≤ ca := by have := HN.out; omega
    have s1 := str_draws (oa.sl.cut l0.length (by have := HN.out; omega))
    have s2 := str_draws (w0.below ba (Nat.le_refl _))
    rw [List.take_left' rfl] at s1
    go_wp2_with fail
    go_quiet (fail)
    have HL := Lib.hid (oa.sl)
    have HW1 := Lib.hid (w1.below ba (Nat.le_refl _))
    clear s1 s2 oa
    have hsz := ba.size
    have W1 := Lib.hid w1
    have BA := Lib.hid ba
    clear w1 ba
    go_wp2_with (first | (at_builtin; refine wp_cat_own bt rfl (.tmp 61) (.tmp 62) rfl w.heap.size _ [] rfl (Own.lit0 5 _ _ (by simpa using hsz)) _ _ rfl ((HL.out.quiet ⟨_, rfl⟩).alloc _) (by simp [le_length]; omega) (by simp; omega) ?_; intro v' wb hown1 hgr1; have BB := Lib.hid (back_below1 BA.out hgr1); have O1 := Lib.hid hown1; clear hown1 hgr1) | (at_builtin; go_loud (refine wp_cat_own bt rfl (.tmp 63) (.tmp 64) rfl w.heap.size _ _ rfl O1.out _ _ rfl (W1.out.below BB.out (Nat.le_refl _)) (by simp [le_length]; omega) BB.out.size ?_; intro v2 wc hown2 hgr2; have BC := Lib.hid (back_below2 BB.out O1.out hgr2); have O2 := Lib.hid hown2.sl; clear hown2 hgr2)))
    refine (get_good _ l0.length K hK.1 hK.2 _ _ O2.out (by simp [le_length]) _ _ rfl rfl).mono ?_
    rintro e w' ⟨rfl, rfl⟩
    rw [back_num l0 l1 m K HM.out]
    go_wp2_with (go_at_call 25; refine (wakes01_any _).mono ?_; rintro e w' ⟨rfl, hb⟩)
    go_ret
    exact ⟨rfl, BC.out.trans (hb.mono BC.out.size)⟩
  · have F1 := Lib.hid (fits_no a2 a3 (noFit_of h3))
    have P1 := Lib.hid (put_no (.slice ao l0.length cap) a2 a3 (noFit_of h3))
    clear h3
    go_enter Try.func11, Try.ntmps11
    go_wp2_with fail
    refine (P1.out _).mono ?_
    rintro e w' ⟨rfl, rfl⟩
    go_wp2_with fail
    refine (F1.out _).mono ?_
    rintro e w' ⟨rfl, rfl⟩
    go_wp2_with (go_at_call 25; refine (wakes01_any _).mono ?_; rintro e w' ⟨rfl, hb⟩)
    go_ret
    exact ⟨rfl, hb⟩

theorem Own.open {T B : Nat} {w : World} {v : Value} {l : List Nat} (h : Own T B w v l) : ∃ ao cap, v = .slice ao l.length cap ∧ l.length ≤ cap ∧ cap ≤ 9223372036854775807 ∧ (l.length = 0 ∨ ∃ g, ao = some ⟨g, 0, none⟩ ∧ B ≤ g ∧ g < w.heap.size) := by
  obtain ⟨h0, h1, h2⟩ := h
  rcases h2 with ⟨rfl, hn⟩ | ⟨g, cap, cur, rfl, hb, hg, hn, hm, hs, ht⟩
  · exact ⟨none, 0, by rw [hn], by omega, by omega, .inl hn⟩
  · exact ⟨_, cap, rfl, hn, by unfold maxLen at hm; omega, .inr ⟨g, rfl, hb, (Array.getElem?_eq_some_iff.1 hg).1⟩⟩
theorem Own.setCell {T B : Nat} {w : World} {v : Value} {l : List Nat} (h : Own T B w v l) {a : Addr} (ha : a.block < B) (u : Value) : Own T B (w.setCell a u) v l := ⟨h.1, ownsRow_setCell_below h.2 ha u⟩
theorem Own.cell {T B g cap : Nat} {w : World} {l : List Nat} (h : Own T B w (.slice (some ⟨g, 0, none⟩) l.length cap) l) (j : Nat) (hj : j < l.length) : w.cell? ⟨g, j, none⟩ = some (.int .u8 ((l.getD j 0 : Nat) : Int)) := by
  have := h.2.cellAt j (by omega)
  rw [this]
  simp [bv, List.getD, List.getElem?_eq_getElem hj]
theorem Own.free {T B g cap : Nat} {w : World} {l : List Nat} (h : Own T B w (.slice (some ⟨g, 0, none⟩) l.length cap) l) (j : Nat) : w.frozen? ⟨g, j, none⟩ = false := h.2.frozenAt j
theorem Own.set {T B g cap : Nat} {w : World} {l : List Nat} (h : Own T B w (.slice (some ⟨g, 0, none⟩) l.length cap) l) (j y : Nat) (hy : y < 256) : Own T B (w.setCell ⟨g, j, none⟩ (.int .u8 (y : Int))) (.slice (some ⟨g, 0, none⟩) l.length cap) (l.set j y) := by
  refine ⟨?_, ?_⟩
  · intro x hx
    rcases List.mem_or_eq_of_mem_set hx with h1 | rfl
    · exact h.1 x h1
    · exact hy
  · have := h.2.stored j (bv y)
    rw [List.length_set, List.map_set]
    exact this.1

/-- 'out = append(out, b...)', the value behind it written out -/
theorem wp_cat_ownS {P : Program} {T E : TypeId} (BT : ByteT P T E) {w : World} {ops : Array Oper} {rest : List Oper} {o : Oper} {a : Act} {Q : Exit → Act → World → Prop} (hgd : o.guard = none) (s x : Operand)
    (ho : o.op = .call { callee := .builtin .append, args := #[s, x], argTypes := #[T, T] })
    (B : Nat) (v : Value) (l : List Nat) (hs : a.eval s = v) (hown : Own E B w v l) (u : Value) (r : List Nat) (hx : a.eval x = u) (hsl : Sl w u r)
    (hlen : l.length + r.length ≤ 70368744177664) (hB : B ≤ w.heap.size) (N : Nat) (hN : l.length + r.length = N)
    (h : ∀ ao cap w', N ≤ cap → cap ≤ 9223372036854775807 → Own E B w' (.slice ao N cap) (l ++ r) → w.grownBy w' v.ownBlock → wpList P ops Q rest (a.put o.dst (.slice ao N cap)) w') : wpList P ops Q (o :: rest) a w := by
  refine wp_cat_own BT hgd s x ho B v l hs hown u r hx hsl hlen hB ?_
  intro v' w' h1 h2
  obtain ⟨ao, cap, rfl, h3, h4, _⟩ := h1.open
  rw [List.length_append, hN] at h1 h3 ⊢
  exact h ao cap w' h3 h4 h1 h2

theorem own_below1 {w wb : World} {o : Obj} {g : Nat} (hg : (w.alloc o).grownBy wb (Value.slice (some ⟨w.heap.size, 0, none⟩) 0 g).ownBlock) : Below w.heap.size w wb :=
  ((Below.refl _ _).alloc (Nat.le_refl _) o).grown hg (by simp) (fun k hk => by simp [Value.ownBlock] at hk; omega)
def OwnRel (w : World) (Bx : Nat) (vm vx : Value) (n : Nat) (lx : List Nat) (wr : World) : Prop := Below w.heap.size w wr ∧ Own 5 Bx wr vx lx ∧ ∃ l', l'.length = n ∧ Own 5 w.heap.size wr vm l'
theorem Own.addr {T B : Nat} {w : World} {ao : Option Addr} {n cap : Nat} {l : List Nat} (h : Own T B w (.slice ao n cap) l) : n = 0 ∨ ∃ g, ao = some ⟨g, 0, none⟩ ∧ B ≤ g ∧ g < w.heap.size := by
  obtain ⟨a, c, e, _, _, h4⟩ := h.open
  cases e
  exact h4
theorem own_xor (l' : List Nat) (a : Int) (ha : 0 ≤ a ∧ a ≤ 255) (j : Nat) (hb : IsBytes l') : ∃ y : Nat, bits BinOp.xor IntKind.u8 ((l'.getD j 0 : Nat) : Int) a = (y : Int) ∧ y < 256 := by
  obtain ⟨A, rfl⟩ := Int.eq_ofNat_of_zero_le ha.1
  have h1 := hb.getD j
  exact ⟨_, u8_xor_nat _ _ h1 (by omega), Nat.xor_lt_two_pow (n := 8) h1 (by omega)⟩
theorem own_cell {T B g n cap : Nat} {w : World} {l : List Nat} (h : Own T B w (.slice (some ⟨g, 0, none⟩) n cap) l) (hl : l.length = n) (j : Nat) (hj : j < n) : w.cell? ⟨g, j, none⟩ = some (.int .u8 ((l.getD j 0 : Nat) : Int)) := by
  subst hl; exact h.cell j hj
theorem own_free {T B g n cap : Nat} {w : World} {l : List Nat} (h : Own T B w (.slice (some ⟨g, 0, none⟩) n cap) l) (hl : l.length = n) (j : Nat) : w.frozen? ⟨g, j, none⟩ = false := by
  subst hl; exact h.free j
theorem own_rel {w wr : World} {Bx g n cm : Nat} {vx : Value} {lx l' : List Nat} (hb : Below w.heap.size w wr) (ho : Own 5 Bx wr vx lx) (ho' : Own 5 w.heap.size wr (.slice (some ⟨g, 0, none⟩) n cm) l') (hl' : l'.length = n) (hg1 : w.heap.size ≤ g) (hg2 : g < Bx) (j y : Nat) (hy : y < 256) :
    OwnRel w Bx (.slice (some ⟨g, 0, none⟩) n cm) vx n lx (wr.setCell ⟨g, j, none⟩ (.int .u8 (y : Int))) := by
  subst hl'
  exact ⟨hb.setCell (by exact hg1) _, ho.setCell (by exact hg2) _, l'.set j y, by simp, ho'.set j y hy⟩
theorem str_grown {w : World} {v : Value} {l : List Nat} (h : Sl w v l) (d : Nat) (os : Array Obj) : (convert 22 9 v).run Try.prog (Go.Sort.grow (redrawn w d) os) = .ok (.string (strOf l)) (Go.Sort.grow (redrawn w d) os) :=
  (h.below (below_regrown w d os) (Nat.le_refl _)).string bt (dst := 9) (by kernel_rfl)
set_option maxHeartbeats 1000000 in
theorem lawPackOwn_walk (v0 : Value) (l0 : List Nat) (a1 a2 a3 : Int) (w : World) (w0 : Sl w v0 l0) (w1 : (Lit.int .i64 a1).wf = true) (w2 : (Lit.int .i64 a2).wf = true) (w3 : (Lit.int .u8 a3).wf = true) :
    Calls Try.prog 8 #[v0, .int .i64 a1, .int .i64 a2, .int .u8 a3] w fun e w' => e = .returned (.bool true) ∧ Below w.heap.size w w' := by
  have b3 := bounds_u8 w3
  clear w1 w2 w3
  obtain ⟨ao, cap, rfl, hc1, hc2⟩ := w0.open
  by_cases hlen : 2000 < l0.length
  · have d0 : decide (2000 < l0.length) = true := by simp; omega
    go_enter Try.func8, Try.ntmps8
    go_wp2_with (go_at_call 25; refine (wakes01_any _).mono ?_; rintro e w' ⟨rfl, hb⟩)
    go_ret
    exact ⟨rfl, hb⟩
  have d0 : decide (2000 < l0.length) = false := by simp; omega
  have W0 := Lib.hid w0
  clear w0
  by_cases h3 : 1 ≤ a2 ∧ a2 ≤ 6 ∧ 0 ≤ a1 ∧ a1 < (256 : Int) ^ a2.toNat
  · obtain ⟨K, rfl⟩ := Int.eq_ofNat_of_zero_le (show 0 ≤ a2 by omega)
    obtain ⟨m, rfl⟩ := Int.eq_ofNat_of_zero_le h3.2.2.1
    have hK : 1 ≤ K ∧ K ≤ 6 := by omega
    have hm : m < 256 ^ K := by
      have := h3.2.2.2
      rw [Int.toNat_natCast, show (256 : Int) ^ K = ((256 ^ K : Nat) : Int) by simp] at this
      omega
    clear h3
    obtain ⟨N, hN⟩ : ∃ N, N = l0.length + K := ⟨_, rfl⟩
    have P1 := Lib.hid (fun v w hsl => put_goodN v m K hK.1 hK.2 hm l0 w hsl (by omega) (m : Int) (K : Int) rfl rfl N hN)
    have hN2 : l0.length ≤ N := by omega
    have HL := Lib.hid (le_length K m)
    clear hm hN
    go_enter Try.func8, Try.ntmps8
    go_wp2_with (first | (at_builtin; refine wp_cat_ownS bt rfl (.tmp 17) (.tmp 18) rfl w.heap.size _ [] rfl (Own.lit0 5 _ _ (Nat.le_refl _)) _ _ rfl (W0.out.alloc _) (by simp; omega) (by simp) l0.length (by simp) ?_; intro am cm wm hm1 hm2 hown1 hgr1))
    rw [List.nil_append] at hown1
    have hb1 := own_below1 hgr1
    have HA := Lib.hid hown1.addr
    clear hgr1
    refine (P1.out _ _ hown1.sl.full).mono ?_
    rintro e wx ⟨ax, cx, rfl, hx1, hx2, hox, hbx⟩
    have hcx : l0.length ≤ cx := by omega
    go_wp2_with fail
    have HO := Lib.hid (⟨hb1.trans (hbx.mono hb1.size), hox, l0, rfl, hown1.below hbx (Nat.le_refl _)⟩ : OwnRel w wm.heap.size (.slice am l0.length cm) (.slice ax N cx) l0.length (l0 ++ le K m) wx)
    clear hb1 hown1 hox hbx
    go_loopw [12, 34] (fun _ i wr => ∃ j : Nat, j ≤ l0.length ∧ i = .int .i64 j ∧ OwnRel w wm.heap.size (.slice am l0.length cm) (.slice ax N cx) l0.length (l0 ++ le K m) wr) (fun _ i _ => l0.length - (intOf i).toNat)
    case atStart => exact ⟨0, Nat.zero_le _, rfl, HO.out⟩
    case round =>
      obtain ⟨j, hj, rfl, hb, ho, l', hl', ho'⟩ := hrel
      by_cases hlt : j < l0.length
      · obtain ⟨g, rfl, hg1, hg2⟩ := HA.out.resolve_left (by omega)
        obtain ⟨y, hy, hy2⟩ := own_xor l' a3 b3 j ho'.1
        have hcell := own_cell ho' hl' j hlt
        have hfree := own_free ho' hl' j
        have HR := Lib.hid (own_rel hb ho ho' hl' hg1 hg2 j y hy2)
        clear hb ho ho' hl'
        generalize l'.getD j 0 = x at *
        go_wp2
        go_roundw
        case rel => exact ⟨j + 1, by omega, by go_num, HR.out⟩
        case measure => simp [intOf]; omega
      · have hs1 := str_grown (ho.sl.cut l0.length hN2)
        have hs2 := str_grown (W0.out.below hb (Nat.le_refl _))
        rw [List.take_left' rfl] at hs1
        clear ho ho'
        go_wp2_with fail
        refine wp_region_quiet_below (by kernel_rfl) (by kernel_rfl) ?_
        repeat (go_big_quiet_step ((go_at_call 25; exact Calls.regrown_of (wakes01_any _))))
        refine wpQuiet_nil ?_
        intro _ hw'
        obtain ⟨⟨dq, osq⟩, hw''⟩ := hw'
        subst hw''
        go_wp2
        go_ret
        exact ⟨rfl, hb.trans ((below_regrown wr dq osq).mono hb.size)⟩
  · have P1 := Lib.hid (put_no · a1 a2 (noFit_of h3))
    clear h3
    go_enter Try.func8, Try.ntmps8
    go_wp2_with (first | (at_builtin; refine wp_cat_ownS bt rfl (.tmp 17) (.tmp 18) rfl w.heap.size _ [] rfl (Own.lit0 5 _ _ (Nat.le_refl _)) _ _ rfl (W0.out.alloc _) (by simp; omega) (by simp) l0.length (by simp) ?_; intro am cm wm hm1 hm2 hown1 hgr1))
    rw [List.nil_append] at hown1
    have hb1 := own_below1 hgr1
    have HA := Lib.hid hown1.addr
    clear hgr1
    refine (P1.out _ _).mono ?_
    rintro e w' ⟨rfl, rfl⟩
    go_wp2_with fail
    have HO := Lib.hid (⟨hb1, Own.nil _ _ _, l0, rfl, hown1⟩ : OwnRel w wm.heap.size (.slice am l0.length cm) (.slice none 0 0) l0.length [] wm)
    clear hb1 hown1
    go_loopw [12, 34] (fun _ i wr => ∃ j : Nat, j ≤ l0.length ∧ i = .int .i64 j ∧ OwnRel w wm.heap.size (.slice am l0.length cm) (.slice none 0 0) l0.length [] wr) (fun _ i _ => l0.length - (intOf i).toNat)
    case atStart => exact ⟨0, Nat.zero_le _, rfl, HO.out⟩
    case round =>
      obtain ⟨j, hj, rfl, hb, ho, l', hl', ho'⟩ := hrel
      by_cases hlt : j < l0.length
      · obtain ⟨g, rfl, hg1, hg2⟩ := HA.out.resolve_left (by omega)
        obtain ⟨y, hy, hy2⟩ := own_xor l' a3 b3 j ho'.1
        have hcell := own_cell ho' hl' j hlt
        have hfree := own_free ho' hl' j
        have HR := Lib.hid (own_rel hb ho ho' hl' hg1 hg2 j y hy2)
        clear hb ho ho' hl'
        generalize l'.getD j 0 = x at *
        go_wp2
        go_roundw
        case rel => exact ⟨j + 1, by omega, by go_num, HR.out⟩
        case measure => simp [intOf]; omega
      · clear ho ho'
        go_wp2_with fail
        refine wp_region_quiet_below (by kernel_rfl) (by kernel_rfl) ?_
        repeat (go_big_quiet_step ((go_at_call 25; exact Calls.regrown_of (wakes01_any _))))
        refine wpQuiet_nil ?_
        intro _ hw'
        obtain ⟨⟨dq, osq⟩, hw''⟩ := hw'
        subst hw''
        go_wp2
        go_ret
        exact ⟨rfl, hb.trans ((below_regrown wr dq osq).mono hb.size)⟩
end Go.Proofs.Ytifgbhakbgakmaa
