/-
  The walk of LeaseAll (chapter 20).
-/
import Derived.Test.YtcffabfaefbjcaaGiven
import Derived.Test.YtcffabfaefbjcaaLeaseHolds
import Derived.Laws.AppendOwn
import Derived.OpenShut
namespace Go.Proofs.Ytcffabfaefbjcaa
set_option linter.unusedVariables false
open Go.RowKit Go.Maps Go.ChangeShapes
/-- the slice value v reads as the numbers l -/
def SlI (q : IntKind) (w : World) (v : Value) (l : List Int) : Prop :=
  (∀ z ∈ l, (Lit.int q z).wf = true) ∧ ∃ ao cap, v = .slice ao l.length cap ∧ l.length ≤ cap ∧ cap ≤ maxLen ∧
    (l.length = 0 ∨ ∃ b off, ao = some ⟨b, off, none⟩ ∧ ∀ i, i < l.length → w.cell? ⟨b, off + i, none⟩ = some (.int q (l.getD i 0)))
theorem SlI.nil (q : IntKind) (w : World) : SlI q w (.slice none 0 0) [] := ⟨fun z hz => (by cases hz), none, 0, rfl, Nat.le_refl _, Nat.zero_le _, .inl rfl⟩
theorem SlI.of_ints {q : IntKind} {w : World} {x : Addr} {len cap : Nat} {zs : List Int} (hl : len ≤ cap) (hm : cap ≤ maxLen) (hz : zs.length = cap) (hcell : ∀ i, i < zs.length → w.cell? (x.add i) = some (.int q (zs.getD i 0))) (hwz : ∀ n ∈ zs, (Lit.int q n).wf = true) :
    ∃ l, SlI q w (.slice (some x) len cap) l := by
  have hlen : (zs.take len).length = len := by rw [List.length_take]; omega
  refine ⟨zs.take len, fun z hz => hwz z (List.mem_of_mem_take hz), some x, cap, by rw [hlen], by rw [hlen]; exact hl, hm, ?_⟩
  rw [hlen]
  by_cases h0 : len = 0
  · exact .inl h0
  · obtain ⟨b, off, spot⟩ := x
    have h00 := hcell 0 (by omega)
    have hspot : spot = none := by simpa [Addr.add] using World.cell?_spot h00
    subst hspot
    refine .inr ⟨b, off, rfl, fun i hi => ?_⟩
    have := hcell i (by omega)
    rw [Addr.add_lit] at this
    rw [this]
    simp [List.getD, hi]
/-- 1, .., m -/
def PL (m : Nat) : List Value := (List.range m).map fun (i : Nat) => Value.int .i64 ((i : Int) + 1)
theorem PL_len (m : Nat) : (PL m).length = m := by simp [PL]
theorem PL_snoc (m : Nat) : PL (m + 1) = PL m ++ [.int .i64 ((m : Int) + 1)] := by simp [PL, List.range_succ]
theorem PL_get (m i : Nat) (h : i < m) : (PL m)[i]? = some (.int .i64 ((i : Int) + 1)) := by simp [PL, h]
/-- 'all = append(all, x)' -/
theorem wp_push_int {P : Program} {T E : TypeId} (hT : P.underlying T = some (.slice E)) (hE : (P.info? E).map (fun i => (i.zero, i.size, i.bytes)) = some (some (.int .i64 0), 1, 8)) {w : World} {ops : Array Oper} {rest : List Oper} {o : Oper} {a : Act} {Q : Exit → Act → World → Prop} (hgd : o.guard = none) (s x : Operand)
    (ho : o.op = .call { callee := .builtin .append, args := #[s, x], argTypes := #[T, T] })
    (B : Nat) (v : Value) (n : Nat) (xs : List Value) (hs : a.eval s = v) (hown : w.ownsRow B E 1 v n xs) (ad : Addr) (c : Nat) (hx : a.eval x = .slice (some ad) 1 c) (y : Int) (hc : w.cell? ad = some (.int .i64 y))
    (hlen : n < 1000000) (hB : B ≤ w.heap.size)
    (h : ∀ v' w', w'.ownsRow B E 1 v' (n + 1) (xs ++ [.int .i64 y]) → w.grownBy w' v.ownBlock → wpList P ops Q rest (a.put o.dst v') w') : wpList P ops Q (o :: rest) a w := by
  obtain ⟨i0, hi, hz0, hz1, hz2⟩ := info_parts hE
  refine wpList_append_own _ hgd s x T ho B E i0 (.int .i64 0) 1 8 hT hi hz0 hz1 hz2 rfl (by decide) v n xs hs hown ad 1 c [.int .i64 y] hx rfl (cell_one hc) ?_ ?_ ?_ hB ?_
  · intro u hu; simp at hu; subst hu; rfl
  · unfold maxLen; omega
  · omega
  · intro v' w' h1 h2 _
    exact h v' w' h1 h2
theorem int3 : (Try.prog.info? 3).map (fun i => (i.zero, i.size, i.bytes)) = some (some (.int .i64 0), 1, 8) := by kernel_rfl
theorem row_below {T B B0 n : Nat} {w w' : World} {v : Value} {xs : List Value} (h : w.ownsRow B T 1 v n xs) (hb : Below B0 w w') (hB : w.heap.size ≤ B0) : w'.ownsRow B T 1 v n xs := by
  obtain ⟨h1, h2⟩ := h
  refine ⟨h1, ?_⟩
  rcases h2 with h2 | ⟨g, cap, cur, rfl, hbg, hg, r⟩
  · exact .inl h2
  · have hlt := (Array.getElem?_eq_some_iff.1 hg).1
    exact .inr ⟨g, cap, cur, rfl, hbg, by rw [hb.block g (by omega)]; exact hg, r⟩
def AllRel (w wr : World) (v : Value) (m : Nat) : Prop := Below w.heap.size w wr ∧ wr.ownsRow w.heap.size 3 1 v m (PL m)
theorem AllRel.start (w : World) : AllRel w w (.slice none 0 0) 0 := ⟨Below.refl _ _, World.ownsRow_nil _ _ _ _⟩
theorem AllRel.below {w wr w' : World} {v : Value} {m : Nat} (h : AllRel w wr v m) (hb : Below wr.heap.size wr w') : AllRel w w' v m :=
  ⟨h.1.trans (hb.mono h.1.size), row_below h.2 hb (Nat.le_refl _)⟩
theorem AllRel.push {w wr w' : World} {v v' : Value} {m : Nat} {o : Obj} (h : AllRel w wr v m) (ho : w'.ownsRow w.heap.size 3 1 v' (m + 1) (PL m ++ [.int .i64 ((m : Int) + 1)])) (hg : (wr.alloc o).grownBy w' v.ownBlock) : AllRel w w' v' (m + 1) :=
  ⟨(h.1.alloc h.1.size o).grown hg (by have := h.1.size; simp; omega) (fun k hk => (h.2.lt k hk).1), by rw [PL_snoc]; exact ho⟩
theorem given_all (F K m : Nat) (hf : fitsB F 0 K = true) (hFm : F ≤ m) (hmK : m ≤ F + K) (w wr : World) (v : Value) (h : AllRel w wr v m) :
    Calls Try.prog 16 #[v, .int .i64 (F : Int), .int .i64 (K : Int)] wr fun e w' => e = .returned (.bool true) ∧ AllRel w w' v m := by
  obtain ⟨h1, h2⟩ := id h
  obtain ⟨hlen, h3⟩ := h2
  rcases h3 with ⟨rfl, hm0⟩ | ⟨g, cap, cur, rfl, hb, hg, hc, hm, hs, ht⟩
  · exact (given_none F K hf wr).mono fun e w' ⟨he, hb⟩ => ⟨he, h.below hb⟩
  · refine (given_seq F K m g 0 cap hf hFm hmK wr (Array.getElem?_eq_some_iff.1 hg).1 hc (by unfold maxLen at hm; omega) ?_).mono fun e w' ⟨he, hb⟩ => ⟨he, h.below hb⟩
    intro i hi
    have := h.2.cellAt i (by omega)
    rw [Nat.zero_add, this, PL_get m i hi]
theorem issue_tail (m F K : Nat) (hf : fitsB F F K = true) (hm : m ≤ 300) (hF : F ≤ 300) (h : m + 1 ≤ F + K) (w : World) : Calls Try.prog 12 #[.int .i64 ((m : Int) + 1), .int .i64 (F : Int), .int .i64 (F : Int), .int .i64 (K : Int)] w fun e w' => e = .returned (.int .i64 0) ∧ Below w.heap.size w w' := by
  have hb := (fitsB_iff F F K).1 hf
  have e : issueE ((m : Int) + 1) F F K = 0 := by
    unfold issueE
    rw [if_neg (by simp [hf]; omega), if_neg (by omega), if_neg (by omega), if_neg (by simp [roomB, inB]; omega)]
  have := issue_any ((m : Int) + 1) F F K w
  rwa [e] at this
theorem issue_late (m F K : Nat) (hf : fitsB F F K = true) (h : F + K < m + 1) (w : World) : Calls Try.prog 12 #[.int .i64 ((m : Int) + 1), .int .i64 (F : Int), .int .i64 (F : Int), .int .i64 (K : Int)] w fun e w' => e = .returned (.int .i64 170) ∧ Below w.heap.size w w' := by
  have e : issueE ((m : Int) + 1) F F K = 170 := by
    unfold issueE
    rw [if_neg (by simp [hf]; omega), if_pos (by omega)]
  have := issue_any ((m : Int) + 1) F F K w
  rwa [e] at this
theorem fits_all (F K : Nat) (hF : F ≤ 300) (hK : 2 ≤ K ∧ K ≤ 8) (c : Int) (hc : 0 ≤ c ∧ c ≤ 300) : fitsB F c K = true := by
  rw [fitsB_iff]; omega
set_option maxHeartbeats 1000000 in
theorem lawLeaseAll_walk (v0 : Value) (l0 : List Int) (a1 : Int) (w : World) (w0 : SlI .i64 w v0 l0) (w1 : (Lit.int .i64 a1).wf = true) :
    Calls Try.prog 4 #[v0, .int .i64 a1] w fun e w' => e = .returned (.bool true) ∧ Below w.heap.size w w' := by
  obtain ⟨hwf, ao, cap, rfl, hc1, hc2, hcell⟩ := w0
  unfold maxLen at hc2
  have b1 := bounds_i64 w1
  clear w1 hwf
  have HC := Lib.hid hcell
  clear hcell
  by_cases hl : 200 < l0.length
  · have d0 : decide ((200 : Int) < (l0.length : Int)) = true := by simp; omega
    go_enter Try.func4, Try.ntmps4
    go_wp2_with (go_at_call 14; refine (wakes20_any _).mono ?_; rintro e w2 ⟨rfl, h2⟩)
    go_ret
    exact ⟨rfl, h2⟩
  have d0 : decide ((200 : Int) < (l0.length : Int)) = false := by simp; omega
  by_cases hw1 : a1 < 2
  · have d1 : decide (a1 < 2) = true := by simpa using hw1
    go_enter Try.func4, Try.ntmps4
    go_wp2_with (go_at_call 14; refine (wakes20_any _).mono ?_; rintro e w2 ⟨rfl, h2⟩)
    go_ret
    exact ⟨rfl, h2⟩
  have d1 : decide (a1 < 2) = false := by simpa using hw1
  by_cases hw2 : 8 < a1
  · have d2 : decide (8 < a1) = true := by simpa using hw2
    go_enter Try.func4, Try.ntmps4
    go_wp2_with (go_at_call 14; refine (wakes20_any _).mono ?_; rintro e w2 ⟨rfl, h2⟩)
    go_ret
    exact ⟨rfl, h2⟩
  have d2 : decide (8 < a1) = false := by simpa using hw2
  obtain ⟨K, rfl⟩ := Int.eq_ofNat_of_zero_le (show 0 ≤ a1 by omega)
  have hK : 2 ≤ K ∧ K ≤ 8 := by omega
  obtain ⟨n, hn⟩ : ∃ n, n = l0.length := ⟨_, rfl⟩
  rw [← hn] at hl d0 hc1 HC ⊢
  have hn2 : n ≤ 200 := by omega
  clear hn hl hw1 hw2 b1
  obtain ⟨hK1, hK2⟩ := hK
  go_enter Try.func4, Try.ntmps4
  go_wp2_with fail
  go_loopw [5, 6, 7, 8] (fun fr tl al i wr => ∃ j m F : Nat, j ≤ n ∧ i = .int .i64 j ∧ tl = .int .i64 ((m : Int) + 1) ∧ fr = .int .i64 F ∧ m ≤ j ∧ F ≤ m ∧ m ≤ F + K ∧ AllRel w wr al m) (fun _ _ _ i _ => n - (intOf i).toNat)
  case atStart => exact ⟨0, 0, 0, Nat.zero_le _, rfl, rfl, rfl, Nat.le_refl _, Nat.le_refl _, Nat.zero_le _, AllRel.start w⟩
  case round =>
    obtain ⟨j, m, F, hj, rfl, rfl, rfl, hmj, hFm, hmK, hA⟩ := hrel
    by_cases hlt : j < n
    · obtain ⟨b, off, rfl, hcell⟩ := HC.out.resolve_left (by omega)
      have hcj := (hA.1.cell (World.block_lt_of_cell? w _ (hcell j hlt))).trans (hcell j hlt)
      have HA := Lib.hid hA
      clear hcell hA
      generalize l0.getD j 0 = x at *
      by_cases hx : x = 0
      · have dx : (x == 0) = true := by simpa using hx
        subst hx
        by_cases hT : m + 1 ≤ F + K
        · have dT : decide ((m : Int) + 1 - (F : Int) ≤ (K : Int)) = true := by simp; omega
          go_wp2_with fail
          refine (issue_tail m F K (fits_all F K (by omega) ⟨hK1, hK2⟩ F (by omega)) (by omega) (by omega) hT wr).mono ?_
          rintro e wx ⟨rfl, hbx⟩
          have HAx := Lib.hid (HA.out.below hbx)
          clear hbx
          go_wp2_with (at_builtin; refine wp_push_int Try.underlying29 int3 rfl _ _ rfl w.heap.size _ m (PL m) rfl (HAx.out.2.alloc _) ⟨wx.heap.size, 0, none⟩ 1 rfl _ (new_cell _ _ _) (by omega) (by have := HAx.out.1.size; simp; omega) ?_; intro v' w3 hown3 hgr3)
          have HA3 := Lib.hid (HAx.out.push hown3 hgr3)
          clear hown3 hgr3
          refine (base_good F K (by omega) (by omega) (by omega) _ rfl _).mono ?_
          rintro e wb ⟨rfl, rfl⟩
          have hG := given_all (F) K (m + 1) (fits_all (F) K (by omega) ⟨hK1, hK2⟩ 0 (by omega)) (by omega) (by omega) w _ _ HA3.out
          have d9 : decide (F + (K : Int) < ((m : Int) + 1)) = false := by simp; omega
          have HG := Lib.hid hG
          clear hG
          go_wp2_with fail
          refine HG.out.mono ?_
          rintro e wz ⟨rfl, hA4⟩
          have HA4 := Lib.hid hA4
          clear hA4
          go_wp2_with fail
          go_roundw
          case rel => exact ⟨j + 1, m + 1, F, by omega, by go_num, by go_num, by go_num, by omega, by omega, by omega, HA4.out⟩
          case measure => simp [intOf]; omega
        · have dT : decide ((m : Int) + 1 - (F : Int) ≤ (K : Int)) = false := by simp; omega
          go_wp2_with fail
          refine (issue_late m F K (fits_all F K (by omega) ⟨hK1, hK2⟩ F (by omega)) (by omega) wr).mono ?_
          rintro e wx ⟨rfl, hbx⟩
          have HA3 := Lib.hid (HA.out.below hbx)
          clear hbx
          go_wp2_with fail
          refine (base_good F K (by omega) (by omega) (by omega) _ rfl _).mono ?_
          rintro e wb ⟨rfl, rfl⟩
          have hG := given_all (F) K (m) (fits_all (F) K (by omega) ⟨hK1, hK2⟩ 0 (by omega)) (by omega) (by omega) w _ _ HA3.out
          have d9 : decide (F + (K : Int) < (m : Int)) = false := by simp; omega
          have HG := Lib.hid hG
          clear hG
          go_wp2_with fail
          refine HG.out.mono ?_
          rintro e wz ⟨rfl, hA4⟩
          have HA4 := Lib.hid hA4
          clear hA4
          go_wp2_with fail
          go_roundw
          case rel => exact ⟨j + 1, m, F, by omega, by go_num, by go_num, by go_num, by omega, by omega, by omega, HA4.out⟩
          case measure => simp [intOf]; omega
      · have dx : (x == 0) = false := by simpa using hx
        have HA3 := HA
        by_cases hT : F < m
        · have dT : decide ((F : Int) < (m : Int)) = true := by simp; omega
          go_wp2_with fail
          refine (base_good ((F : Int) + 1) K (by omega) (by omega) (by omega) _ rfl _).mono ?_
          rintro e wb ⟨rfl, rfl⟩
          have hG := given_all (F + 1) K (m) (fits_all (F + 1) K (by omega) ⟨hK1, hK2⟩ 0 (by omega)) (by omega) (by omega) w _ _ HA3.out
          have d9 : decide (((F : Int) + 1) + (K : Int) < (m : Int)) = false := by simp; omega
          have HG := Lib.hid hG
          clear hG
          go_wp2_with fail
          refine HG.out.mono ?_
          rintro e wz ⟨rfl, hA4⟩
          have HA4 := Lib.hid hA4
          clear hA4
          go_wp2_with fail
          go_roundw
          case rel => exact ⟨j + 1, m, F + 1, by omega, by go_num, by go_num, by go_num, by omega, by omega, by omega, HA4.out⟩
          case measure => simp [intOf]; omega
        · have dT : decide ((F : Int) < (m : Int)) = false := by simp; omega
          go_wp2_with fail
          refine (base_good F K (by omega) (by omega) (by omega) _ rfl _).mono ?_
          rintro e wb ⟨rfl, rfl⟩
          have hG := given_all (F) K (m) (fits_all (F) K (by omega) ⟨hK1, hK2⟩ 0 (by omega)) (by omega) (by omega) w _ _ HA3.out
          have d9 : decide (F + (K : Int) < (m : Int)) = false := by simp; omega
          have HG := Lib.hid hG
          clear hG
          go_wp2_with fail
          refine HG.out.mono ?_
          rintro e wz ⟨rfl, hA4⟩
          have HA4 := Lib.hid hA4
          clear hA4
          go_wp2_with fail
          go_roundw
          case rel => exact ⟨j + 1, m, F, by omega, by go_num, by go_num, by go_num, by omega, by omega, by omega, HA4.out⟩
          case measure => simp [intOf]; omega
    · obtain rfl : j = n := by omega
      have HA := Lib.hid hA
      clear hA
      go_wp2_with fail
      refine (wakes20_any _).mono ?_
      rintro e w2 ⟨rfl, h2⟩
      have HB := Lib.hid (HA.out.below h2).1
      clear h2
      go_wp2_with fail
      go_ret
      exact ⟨rfl, HB.out⟩
end Go.Proofs.Ytcffabfaefbjcaa
