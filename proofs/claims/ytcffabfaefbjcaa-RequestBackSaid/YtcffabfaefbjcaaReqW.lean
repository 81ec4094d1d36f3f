/-
  What request's May, Size, Own, Bytes tell (chapter 08).
-/
import Derived.Test.YtcffabfaefbjcaaWrong
import Derived.Test.YtcffabfaefbjcaaPackAny
namespace Go.Proofs.Ytcffabfaefbjcaa
set_option linter.unusedVariables false
open Go.RowKit
theorem may_any (r : Rq) (hk : (Lit.int .i8 r.k).wf = true) (c : Bool) (hc : (wrongE r == 0) = c) (w : World) : Calls Try.prog 19 #[.agg r.cells] w fun e w' => e = .returned (.bool c) ∧ Below w.heap.size w w' := by
  have HC := wrong_any r hk
  have HH := Lib.hid HC
  clear HC
  unfold Rq.cells at *
  go_enter Try.func19, Try.ntmps19
  go_wp2_with fail
  refine (HH.out _).mono ?_
  rintro e w1 ⟨rfl, hb⟩
  have HB := Lib.hid hb
  clear hb
  go_wp2
  go_ret
  exact ⟨rfl, ((Below.refl _ _).alloc (Nat.le_refl _) _).trans (HB.out.mono (by simp))⟩
def sumW (l : List Nat) (j : Nat) : Int := (l.take j).foldl (fun n f => n + wd f) 1
theorem sumW_succ (l : List Nat) (j f : Nat) (h : l[j]? = some f) : sumW l (j + 1) = sumW l j + wd f := by
  obtain ⟨hlt, rfl⟩ := List.getElem?_eq_some_iff.1 h
  unfold sumW
  rw [List.take_succ_eq_append_getElem hlt, List.foldl_append]
  rfl
theorem wd_range (f : Nat) : 1 ≤ wd f ∧ wd f ≤ 6 := by unfold wd; split <;> omega
theorem sumW_range (l : List Nat) : ∀ j, 1 ≤ sumW l j ∧ sumW l j ≤ 1 + 6 * j
  | 0 => ⟨by show (1 : Int) ≤ 1; omega, by show (1 : Int) ≤ 1 + 6 * 0; omega⟩
  | j + 1 => by
    have h := sumW_range l j
    cases hf : l[j]? with
    | some f => rw [sumW_succ l j f hf]; have := wd_range f; omega
    | none =>
      have hl : l.length ≤ j := List.getElem?_eq_none_iff.1 hf
      have e : sumW l (j + 1) = sumW l j := by unfold sumW; rw [List.take_of_length_le (by omega), List.take_of_length_le hl]
      rw [e]; omega
def sizeE (k : Int) : Int := if isKind k then sumW (fieldsOf k) (fieldsOf k).length else 0
set_option maxHeartbeats 1000000 in
theorem size_any (k : Int) (hk : (Lit.int .i8 k).wf = true) (w : World) : Calls Try.prog 21 #[.int .i8 k] w fun e w' => e = .returned (.int .i64 (sizeE k)) ∧ Below w.heap.size w w' := by
  by_cases hK : isKind k = true
  · obtain ⟨l, hl⟩ : ∃ l, fieldsOf k = l := ⟨_, rfl⟩
    obtain ⟨n, hn⟩ : ∃ n, l.length = n := ⟨_, rfl⟩
    have hn3 : n ≤ 3 := by rw [← hn, ← hl]; exact fields_len k
    have FA := Lib.hid (fields_n k l n hk hl hn hK)
    have HFl := Lib.hid (fun f (h : f ∈ l) => fields_lt k f (by rw [hl]; exact h))
    have HGet := Lib.hid (fun j (h : j < n) => (⟨l[j]'(by rw [hn]; exact h), List.getElem?_eq_getElem (by rw [hn]; exact h)⟩ : ∃ f, l[j]? = some f))
    have HW := Lib.hid (show sizeE k = sumW l n by unfold sizeE; rw [hK, hl, hn]; rfl)
    have HS := Lib.hid (sumW_succ l)
    have HR := Lib.hid (sumW_range l)
    have H0 := Lib.hid (show sumW l 0 = 1 from rfl)
    clear hl hn hK hk
    go_enter Try.func21, Try.ntmps21
    go_wp2_with fail
    refine (FA.out _).mono ?_
    rintro e w1 ⟨v, rfl, hv, hb⟩
    have HB := Lib.hid hb
    clear hb
    rcases hv with ⟨rfl, rfl⟩ | ⟨b, rfl, hcells⟩
    · clear hn3
      go_wp2
      refine wp_loop_rounds 1 ?_
      rw [rounds_succ]
      go_wp2
      go_ret
      exact ⟨ret_int ((HW.out.trans H0.out).symm), HB.out⟩
    · have HC := Lib.hid hcells
      clear hcells
      go_wp2_with fail
      go_loop [5, 17] (fun e i => ∃ j : Nat, j ≤ n ∧ i = .int .i64 j ∧ e = .int .i64 (sumW l j)) (fun _ i => n - (intOf i).toNat)
      case atStart => exact ⟨0, Nat.zero_le _, rfl, rfl⟩
      case round =>
        obtain ⟨j, hj, rfl, rfl⟩ := hrel
        have hr := HR.out j
        by_cases hlt : j < n
        · obtain ⟨f, hf⟩ := HGet.out j hlt
          have hf6 : f < 6 := HFl.out f (List.mem_of_getElem? hf)
          have hcell := field_cell HC.out (Below.refl _ _) hf
          have HF := Lib.hid (HS.out j f hf)
          have hwd := wd_range f
          clear hf
          go_wp2_with (go_at_call 47; refine (widths_any f hf6 _).mono ?_; rintro e w2 ⟨rfl, rfl⟩)
          go_round
          case rel => exact ⟨j + 1, by omega, by go_num, congrArg (Value.int .i64) HF.out.symm⟩
          case measure => simp [intOf]; omega
        · obtain rfl : j = n := by omega
          go_wp2
          go_ret
          exact ⟨ret_int HW.out.symm, HB.out⟩
  · go_enter Try.func21, Try.ntmps21
    go_wp2_with fail
    refine (fields_any k hk _).mono ?_
    rintro e w1 ⟨v, rfl, hv, hb⟩
    rw [Bool.not_eq_true] at hK
    rw [hK]
    have HE := Lib.hid (show sizeE k = 0 by unfold sizeE; rw [hK]; rfl)
    have HB := Lib.hid hb
    clear hb hK hk hv
    go_wp2
    go_ret
    exact ⟨ret_int HE.out.symm, HB.out⟩
def ownB (k : Int) : Bool := (fieldsOf k).head? == some 0
theorem fields_l (k : Int) (l : List Nat) (n : Nat) (hk : (Lit.int .i8 k).wf = true) (hl : fieldsOf k = l) (hn : l.length = n) (w : World) :
    Calls Try.prog 44 #[.int .i8 k] w fun e w' => ∃ v, e = .returned (.tuple #[v, .bool (isKind k)]) ∧ ((n = 0 ∧ v = .slice none 0 0) ∨ ∃ b, v = .slice (some ⟨b, 0, none⟩) n n ∧ w'.heap[b]? = some (.cells (l.map fun n : Nat => Value.int .i64 (n : Int)).toArray 3)) ∧ Below w.heap.size w w' := by
  subst hl hn
  refine (fields_any k hk w).mono ?_
  rintro e w' ⟨v, rfl, hv, hb⟩
  refine ⟨v, rfl, ?_, hb⟩
  rcases hv with ⟨h1, h2⟩ | ⟨b, _, h2, h3⟩
  · exact .inl ⟨by rw [h1]; rfl, h2⟩
  · exact .inr ⟨b, h2, h3⟩
set_option maxHeartbeats 1000000 in
theorem own_any (k : Int) (hk : (Lit.int .i8 k).wf = true) (w : World) : Calls Try.prog 23 #[.int .i8 k] w fun e w' => e = .returned (.bool (ownB k)) ∧ Below w.heap.size w w' := by
  obtain ⟨l, hl⟩ : ∃ l, fieldsOf k = l := ⟨_, rfl⟩
  obtain ⟨n, hn⟩ : ∃ n, l.length = n := ⟨_, rfl⟩
  have hn3 : n ≤ 3 := by rw [← hn, ← hl]; exact fields_len k
  have FA := Lib.hid (fields_l k l n hk hl hn)
  unfold ownB
  rw [hl]
  clear hl hk
  match l with
  | [] =>
    obtain rfl : n = 0 := by rw [← hn]; rfl
    clear hn hn3
    go_enter Try.func23, Try.ntmps23
    go_wp2_with fail
    refine (FA.out w).mono ?_
    rintro e w1 ⟨v, rfl, hv, hb⟩
    have HB := Lib.hid hb
    clear hb
    generalize isKind k = ik
    rcases hv with ⟨_, rfl⟩ | ⟨b, rfl, hcells⟩
    · go_wp2
      go_ret
      exact ⟨rfl, HB.out⟩
    · go_wp2
      go_ret
      exact ⟨rfl, HB.out⟩
  | f :: l =>
    have hn0 : 0 < n := by rw [← hn]; simp
    have hn1 : (0 : Int) < (n : Int) := by omega
    clear hn
    by_cases hf : f = 0
    · have h1 : ((f : Int) == 0) = true := by simpa using hf
      have h2 : ((f :: l).head? == some 0) = true := by simp [hf]
      rw [h2]
      clear h2 hf
      go_enter Try.func23, Try.ntmps23
      go_wp2_with fail
      refine (FA.out w).mono ?_
      rintro e w1 ⟨v, rfl, hv, hb⟩
      have HB := Lib.hid hb
      clear hb
      generalize isKind k = ik
      rcases hv with ⟨hz, rfl⟩ | ⟨b, rfl, hcells⟩
      · omega
      · have hcell := field_cell hcells (Below.refl _ _) (j := 0) (f := f) rfl
        have HC := Lib.hid hcells
        clear hcells
        go_wp2
        go_ret
        exact ⟨rfl, HB.out⟩
    · have h1 : ((f : Int) == 0) = false := by simpa using hf
      have h2 : ((f :: l).head? == some 0) = false := by simp [hf]
      rw [h2]
      clear h2 hf
      go_enter Try.func23, Try.ntmps23
      go_wp2_with fail
      refine (FA.out w).mono ?_
      rintro e w1 ⟨v, rfl, hv, hb⟩
      have HB := Lib.hid hb
      clear hb
      generalize isKind k = ik
      rcases hv with ⟨hz, rfl⟩ | ⟨b, rfl, hcells⟩
      · omega
      · have hcell := field_cell hcells (Below.refl _ _) (j := 0) (f := f) rfl
        have HC := Lib.hid hcells
        clear hcells
        go_wp2
        go_ret
        exact ⟨rfl, HB.out⟩
end Go.Proofs.Ytcffabfaefbjcaa
