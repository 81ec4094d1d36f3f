/-
  Slices of numbers; Floor (chapter 15).
-/
import Derived.Test.YtcmmmmpdehfefaaHeapNil
namespace Go.Proofs.Ytcmmmmpdehfefaa
set_option linter.unusedVariables false
set_option linter.unusedSimpArgs false
open Go.RowKit Go.Maps
/-- the slice value v reads as the numbers l -/
def SlI (q : IntKind) (w : World) (v : Value) (l : List Int) : Prop :=
  (∀ z ∈ l, (Lit.int q z).wf = true) ∧ ∃ ao cap, v = .slice ao l.length cap ∧ l.length ≤ cap ∧ cap ≤ maxLen ∧
    (l.length = 0 ∨ ∃ b off, ao = some ⟨b, off, none⟩ ∧ ∀ i, i < l.length → w.cell? ⟨b, off + i, none⟩ = some (.int q (l.getD i 0)))
theorem SlI.nil (q : IntKind) (w : World) : SlI q w (.slice none 0 0) [] := ⟨fun z hz => (by cases hz), none, 0, rfl, Nat.le_refl _, Nat.zero_le _, .inl rfl⟩
theorem SlI.of_ints {q : IntKind} {w : World} {x : Addr} {len cap : Nat} {zs : List Int} (hl : len ≤ cap) (hm : cap ≤ maxLen) (hz : zs.length = cap) (hcell : ∀ i, i < zs.length → w.cell? (x.add i) = some (.int q (zs.getD i 0))) (hwz : ∀ n ∈ zs, (Lit.int q n).wf = true) :
    ∃ l, SlI q w (.slice (some x) len cap) l := by
  have hlen : (zs.take len).length = len := by rw [List.length_take]; omega
  refine ⟨zs.take len, fun z hz => hwz z (List.mem_of_mem_take hz), some x, cap, by rw [hlen], by rw [hlen]; exact hl, hm, ?_⟩
  rw [hlen]
  by_cases h0 : len = 0
  · exact .inl h0
  · obtain ⟨b, off, spot⟩ := x
    have h00 := hcell 0 (by omega)
    have hspot : spot = none := by simpa [Addr.add] using World.cell?_spot h00
    subst hspot
    refine .inr ⟨b, off, rfl, fun i hi => ?_⟩
    have := hcell i (by omega)
    rw [Addr.add_lit] at this
    rw [this]
    simp [List.getD, hi]

/-- one start more -/
def fl (a s : Int) : Int := if 0 < s then min a (s - 1) else a
def floorL (n : Int) (l : List Int) : Int := l.foldl fl n
theorem floorL_take (n : Int) (l : List Int) (j : Nat) (hj : j < l.length) : floorL n (l.take (j + 1)) = fl (floorL n (l.take j)) (l.getD j 0) := by
  unfold floorL
  rw [List.take_add_one, List.getElem?_eq_getElem hj, List.foldl_append]
  simp [List.getD, hj]
theorem fl_le (a s : Int) : fl a s ≤ a := by unfold fl; split <;> omega
theorem fl_le' (a s : Int) (h : 0 < s) : fl a s ≤ s - 1 := by unfold fl; rw [if_pos h]; omega
theorem fl_i64 {a s : Int} (ha : I64 a) (hs : I64 s) : I64 (fl a s) := by
  unfold I64 at *
  unfold fl
  split <;> omega
theorem bounds_i64 {n : Int} (h : (Lit.int .i64 n).wf = true) : -9223372036854775808 ≤ n ∧ n < 9223372036854775808 := by
  simp [Lit.wf, IntKind.min, IntKind.max, IntKind.bits, IntKind.signed] at h
  omega
theorem wf_i64 {n : Int} (h : (Lit.int .i64 n).wf = true) : I64 n := by
  have := bounds_i64 h
  unfold I64; omega
theorem floorL_i64 : ∀ (l : List Int) (n : Int), I64 n → (∀ z ∈ l, (Lit.int .i64 z).wf = true) → I64 (floorL n l)
  | [], n, hn, _ => hn
  | s :: l, n, hn, h => floorL_i64 l (fl n s) (fl_i64 hn (wf_i64 (h s List.mem_cons_self))) fun z hz => h z (List.mem_cons_of_mem _ hz)
theorem floorL_le : ∀ (l : List Int) (n : Int), floorL n l ≤ n
  | [], n => Int.le_refl _
  | s :: l, n => Int.le_trans (floorL_le l (fl n s)) (fl_le n s)
theorem floorL_mem : ∀ (l : List Int) (n s : Int), s ∈ l → 0 < s → floorL n l ≤ s - 1
  | t :: l, n, s, hm, hs => by
    rcases List.mem_cons.1 hm with rfl | hm
    · exact Int.le_trans (floorL_le l _) (fl_le' n s hs)
    · exact floorL_mem l _ s hm hs
set_option maxHeartbeats 1000000 in
set_option maxRecDepth 100000 in
theorem floor_any (v : Value) (l : List Int) (n : Int) (w : World) (hn : I64 n) (h : SlI .i64 w v l) :
    Calls Try.prog 10 #[.int .i64 n, v] w fun e w' => e = .returned (.int .i64 (floorL n l)) ∧ w' = w := by
  have HW := Lib.hid h.1
  have HN := Lib.hid hn
  obtain ⟨hwf, ao, cap, rfl, hc1, hc2, hcell⟩ := h
  unfold maxLen at hc2
  have HC := Lib.hid hcell
  have HT := Lib.hid (floorL_take n l)
  have HI := Lib.hid (fun j => floorL_i64 (l.take j) n hn fun z hz => hwf z (List.mem_of_mem_take hz))
  have HE : Hid (floorL n (l.take l.length) = floorL n l) := Lib.hid (by rw [List.take_length])
  have HG := Lib.hid (show ∀ j, j < l.length → (Lit.int .i64 (l.getD j 0)).wf = true from fun j hj => by
    rw [List.getD, List.getElem?_eq_getElem hj]; exact hwf _ (List.getElem_mem hj))
  obtain ⟨m, hm⟩ : ∃ m, l.length = m := ⟨_, rfl⟩
  rw [hm] at hc1 HC HT HE HG ⊢
  clear hcell hwf hn hm
  go_enter Try.func10, Try.ntmps10
  go_wp2_with fail
  go_loopw [0, 6, 9] (fun nv sv iv wr => ∃ j : Nat, j ≤ m ∧ iv = .int .i64 j ∧ nv = .int .i64 (floorL n (l.take j)) ∧ wr = w) (fun _ _ iv _ => m - (intOf iv).toNat)
  case atStart => exact ⟨0, Nat.zero_le _, rfl, rfl, rfl⟩
  case round =>
    obtain ⟨j, hj, rfl, rfl, rfl⟩ := hrel
    by_cases hlt : j < m
    · obtain ⟨b, off, rfl, hcell⟩ := HC.out.resolve_left (by omega)
      have hcj := hcell j hlt
      have hx := wf_i64 (HG.out j hlt)
      have ha := HI.out j
      have hs := HT.out j hlt
      have HM := Lib.hid (show I64 (fl (floorL n (l.take j)) (l.getD j 0)) from fl_i64 ha hx)
      clear hcell
      generalize l.getD j 0 = x at *
      generalize floorL n (l.take j) = y at *
      have HS := Lib.hid hs
      unfold I64 at hx ha
      obtain ⟨hx1, hx2⟩ := hx
      obtain ⟨ha1, ha2⟩ := ha
      clear hs
      by_cases hp : 0 < x
      · have d1 : decide (0 < x) = true := by simpa using hp
        have hx3 : -9223372036854775808 ≤ x - 1 := by omega
        go_wp2_with fail
        go_roundw
        case rel =>
          refine ⟨j + 1, hlt, rfl, ?_⟩
          rw [HS.out]; unfold fl; rw [if_pos hp]
          refine ⟨?_, trivial⟩
          congr 1
          split <;> omega
        case measure => simp [intOf]; omega
      · have d1 : decide (0 < x) = false := by simpa using hp
        go_wp2_with fail
        go_roundw
        case rel => exact ⟨j + 1, hlt, rfl, by rw [HS.out]; unfold fl; rw [if_neg hp]; exact ⟨rfl, trivial⟩⟩
        case measure => simp [intOf]; omega
    · have e : j = m := by omega
      subst e
      have HE2 := HE.out
      rw [HE2]
      go_wp2_with fail
      go_ret
      exact ⟨rfl, rfl⟩
set_option maxHeartbeats 1000000 in
set_option maxRecDepth 100000 in
theorem floor_ref (v : Value) (l : List Int) (n : Int) (w : World) (hn : I64 n) (h : SlI .i64 w v l) :
    Calls Try.prog 11 #[.int .i64 n, v] w fun e w' => e = .returned (.int .i64 (floorL n l)) ∧ w' = w := by
  have HW := Lib.hid h.1
  have HN := Lib.hid hn
  obtain ⟨hwf, ao, cap, rfl, hc1, hc2, hcell⟩ := h
  unfold maxLen at hc2
  have HC := Lib.hid hcell
  have HT := Lib.hid (floorL_take n l)
  have HI := Lib.hid (fun j => floorL_i64 (l.take j) n hn fun z hz => hwf z (List.mem_of_mem_take hz))
  have HE : Hid (floorL n (l.take l.length) = floorL n l) := Lib.hid (by rw [List.take_length])
  have HG := Lib.hid (show ∀ j, j < l.length → (Lit.int .i64 (l.getD j 0)).wf = true from fun j hj => by
    rw [List.getD, List.getElem?_eq_getElem hj]; exact hwf _ (List.getElem_mem hj))
  obtain ⟨m, hm⟩ : ∃ m, l.length = m := ⟨_, rfl⟩
  rw [hm] at hc1 HC HT HE HG ⊢
  clear hcell hwf hn hm
  go_enter Try.func11, Try.ntmps11
  go_wp2_with fail
  go_loopw [0, 5] (fun nv iv wr => ∃ j : Nat, j ≤ m ∧ iv = .int .i64 j ∧ nv = .int .i64 (floorL n (l.take j)) ∧ wr = w) (fun _ iv _ => m - (intOf iv).toNat)
  case atStart => exact ⟨0, Nat.zero_le _, rfl, rfl, rfl⟩
  case round =>
    obtain ⟨j, hj, rfl, rfl, rfl⟩ := hrel
    by_cases hlt : j < m
    · obtain ⟨b, off, rfl, hcell⟩ := HC.out.resolve_left (by omega)
      have hcj := hcell j hlt
      have hx := wf_i64 (HG.out j hlt)
      have ha := HI.out j
      have hs := HT.out j hlt
      have HM := Lib.hid (show I64 (fl (floorL n (l.take j)) (l.getD j 0)) from fl_i64 ha hx)
      clear hcell
      generalize l.getD j 0 = x at *
      generalize floorL n (l.take j) = y at *
      have HS := Lib.hid hs
      unfold I64 at hx ha
      obtain ⟨hx1, hx2⟩ := hx
      obtain ⟨ha1, ha2⟩ := ha
      clear hs
      by_cases hp : 0 < x
      · have d1 : decide (0 < x) = true := by simpa using hp
        have hx3 : -9223372036854775808 ≤ x - 1 := by omega
        by_cases hp2 : x - 1 < y
        · have d2 : decide (x - 1 < y) = true := by simpa using hp2
          go_wp2_with fail
          go_roundw
          case rel => exact ⟨j + 1, hlt, rfl, by rw [HS.out]; unfold fl; rw [if_pos hp]; exact ⟨by congr 1; omega, trivial⟩⟩
          case measure => simp [intOf]; omega
        · have d2 : decide (x - 1 < y) = false := by simpa using hp2
          go_wp2_with fail
          go_roundw
          case rel => exact ⟨j + 1, hlt, rfl, by rw [HS.out]; unfold fl; rw [if_pos hp]; exact ⟨by congr 1; omega, trivial⟩⟩
          case measure => simp [intOf]; omega
      · have d1 : decide (0 < x) = false := by simpa using hp
        go_wp2_with fail
        go_roundw
        case rel => exact ⟨j + 1, hlt, rfl, by rw [HS.out]; unfold fl; rw [if_neg hp]; exact ⟨rfl, trivial⟩⟩
        case measure => simp [intOf]; omega
    · have e : j = m := by omega
      subst e
      have HE2 := HE.out
      rw [HE2]
      go_wp2_with fail
      go_ret
      exact ⟨rfl, rfl⟩
set_option maxHeartbeats 1000000 in
set_option maxRecDepth 100000 in
theorem lawHeapFloor_walk (a0 : Int) (v1 : Value) (l1 : List Int) (w : World) (w0 : (Lit.int .i64 a0).wf = true) (w1 : SlI .i64 w v1 l1) :
    Calls Try.prog 3 #[.int .i64 a0, v1] w fun e w' => e = .returned (.bool true) ∧ Below w.heap.size w w' := by
  have HS1 := Lib.hid (floor_any v1 l1 a0 w (wf_i64 w0) w1)
  have HS2 := Lib.hid (floor_ref v1 l1 a0 w (wf_i64 w0) w1)
  obtain ⟨hwf, ao, cap, rfl, hc1, hc2, hcell⟩ := w1
  unfold maxLen at hc2
  have HC := Lib.hid hcell
  have HLE : floorL a0 l1 ≤ a0 := floorL_le l1 a0
  have HM := Lib.hid (show ∀ j, j < l1.length → 0 < l1.getD j 0 → floorL a0 l1 ≤ l1.getD j 0 - 1 from fun j hj h => floorL_mem l1 a0 _ (by rw [List.getD, List.getElem?_eq_getElem hj]; exact List.getElem_mem hj) h)
  have HG := Lib.hid (show ∀ j, j < l1.length → (Lit.int .i64 (l1.getD j 0)).wf = true from fun j hj => by
    rw [List.getD, List.getElem?_eq_getElem hj]; exact hwf _ (List.getElem_mem hj))
  have HF := Lib.hid (floorL_i64 l1 a0 (wf_i64 w0) hwf)
  clear hcell hwf w0
  by_cases hl : 200 < l1.length
  · have d0 : decide ((200 : Int) < (l1.length : Int)) = true := by simp; omega
    generalize l1.length = m at *
    clear HLE
    go_enter Try.func3, Try.ntmps3
    go_wp2_with fail
    refine (wakes_any _).mono ?_
    rintro e w2 ⟨rfl, h2⟩
    go_wp2_with fail
    go_ret
    exact ⟨rfl, h2.below⟩
  have d0 : decide ((200 : Int) < (l1.length : Int)) = false := by simp; omega
  generalize floorL a0 l1 = F at *
  obtain ⟨m, hm⟩ : ∃ m, l1.length = m := ⟨_, rfl⟩
  rw [hm] at hl d0 hc1 HC HM HG HS1 HS2 ⊢
  clear hm
  have d1 : decide (a0 < F) = false := by simpa using HLE
  go_enter Try.func3, Try.ntmps3
  go_wp2_with fail
  refine HS1.out.mono ?_
  rintro e w2 ⟨rfl, rfl⟩
  go_wp2_with fail
  refine HS2.out.mono ?_
  rintro e w2 ⟨rfl, rfl⟩
  go_wp2_with fail
  go_loopw [27] (fun iv wr => ∃ j : Nat, j ≤ m ∧ iv = .int .i64 j ∧ wr = w2) (fun iv _ => m - (intOf iv).toNat)
  case atStart => exact ⟨0, Nat.zero_le _, rfl, rfl⟩
  case round =>
    obtain ⟨j, hj, rfl, rfl⟩ := hrel
    by_cases hlt : j < m
    · obtain ⟨b, off, rfl, hcell⟩ := HC.out.resolve_left (by omega)
      have hcj := hcell j hlt
      have hx := wf_i64 (HG.out j hlt)
      have hM := HM.out j hlt
      clear hcell
      generalize l1.getD j 0 = x at *
      unfold I64 at hx
      obtain ⟨hx1, hx2⟩ := hx
      by_cases hp : 0 < x
      · have d2 : decide (0 < x) = true := by simpa using hp
        have hx3 : -9223372036854775808 ≤ x - 1 := by omega
        have hM2 := hM hp
        have d3 : decide (x - 1 < F) = false := by simpa using hM2
        clear hM
        go_wp2_with fail
        go_roundw
        case rel => exact ⟨j + 1, hlt, rfl, trivial⟩
        case measure => simp [intOf]; omega
      · have d2 : decide (0 < x) = false := by simpa using hp
        clear hM
        go_wp2_with fail
        go_roundw
        case rel => exact ⟨j + 1, hlt, rfl, trivial⟩
        case measure => simp [intOf]; omega
    · have e : j = m := by omega
      subst e
      go_wp2_with fail
      refine (wakes_any _).mono ?_
      rintro e w2 ⟨rfl, h2⟩
      go_wp2_with fail
      go_ret
      exact ⟨rfl, h2.below⟩
end Go.Proofs.Ytcmmmmpdehfefaa
