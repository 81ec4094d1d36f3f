/-
  What request.wrong tells (chapter 08).
-/
import Derived.Test.YtcffabfaefbjcaaReq
import Derived.Lib.SmallJoins
import Derived.Outline
namespace Go.Proofs.Ytcffabfaefbjcaa
set_option linter.unusedVariables false
open Go.RowKit
/-- a request -/
structure Rq where
  k : Int
  t : Int
  y : Int
  v : Int
  p : Int
  f : Int
  o : Int
def Rq.cells (r : Rq) : Array Value := #[.int .i8 r.k, .int .i64 r.t, .int .i64 r.y, .int .i64 r.v, .int .i64 r.p, .int .i64 r.f, .int .i64 r.o]
def Rq.num (r : Rq) : Nat → Int | 0 => r.t | 1 => r.y | 2 => r.v | 3 => r.p | 4 => r.f | _ => r.o
theorem Rq.cell (r : Rq) (f : Nat) (hf : f < 6) : r.cells[f + 1]? = some (.int .i64 (r.num f)) := by
  match f, hf with
  | 0, _ | 1, _ | 2, _ | 3, _ | 4, _ | 5, _ => rfl
theorem ptrs_at0 (b : Nat) (w : World) : (Instr.index 68 (ptrs b) (.int .i64 0)).run Try.prog w = .ok (.pointer (some ⟨b, 1, none⟩)) w := by kernel_rfl
theorem ptrs_at1 (b : Nat) (w : World) : (Instr.index 68 (ptrs b) (.int .i64 1)).run Try.prog w = .ok (.pointer (some ⟨b, 2, none⟩)) w := by kernel_rfl
theorem ptrs_at2 (b : Nat) (w : World) : (Instr.index 68 (ptrs b) (.int .i64 2)).run Try.prog w = .ok (.pointer (some ⟨b, 3, none⟩)) w := by kernel_rfl
theorem ptrs_at3 (b : Nat) (w : World) : (Instr.index 68 (ptrs b) (.int .i64 3)).run Try.prog w = .ok (.pointer (some ⟨b, 4, none⟩)) w := by kernel_rfl
theorem ptrs_at4 (b : Nat) (w : World) : (Instr.index 68 (ptrs b) (.int .i64 4)).run Try.prog w = .ok (.pointer (some ⟨b, 5, none⟩)) w := by kernel_rfl
theorem ptrs_at5 (b : Nat) (w : World) : (Instr.index 68 (ptrs b) (.int .i64 5)).run Try.prog w = .ok (.pointer (some ⟨b, 6, none⟩)) w := by kernel_rfl
theorem ptrs_at (b f : Nat) (hf : f < 6) (w : World) : (Instr.index 68 (ptrs b) (.int .i64 (f : Int))).run Try.prog w = .ok (.pointer (some ⟨b, f + 1, none⟩)) w := by
  match f, hf with
  | 0, _ => exact ptrs_at0 b w
  | 1, _ => exact ptrs_at1 b w
  | 2, _ => exact ptrs_at2 b w
  | 3, _ => exact ptrs_at3 b w
  | 4, _ => exact ptrs_at4 b w
  | 5, _ => exact ptrs_at5 b w
theorem fields_lt (k : Int) : ∀ f ∈ fieldsOf k, f < 6 := by
  unfold fieldsOf
  intro f hf
  repeat' split at hf
  all_goals simp at hf
  all_goals omega
theorem fields_len (k : Int) : (fieldsOf k).length ≤ 3 := by
  unfold fieldsOf
  repeat' split
  all_goals simp
def errStep (r : Rq) (e : Int) (f : Nat) : Int := if r.num f < lo f ∨ hi f < r.num f then (if f = 1 then 240 else max e 50) else e
def errT (r : Rq) (l : List Nat) (j : Nat) : Int := (l.take j).foldl (errStep r) 0
theorem errStep_in {r : Rq} {e : Int} {f : Nat} (h : lo f ≤ r.num f ∧ r.num f ≤ hi f) : errStep r e f = e := by
  unfold errStep
  rw [if_neg (by omega)]
theorem errStep_key {r : Rq} {e : Int} {f : Nat} (h : r.num f < lo f ∨ hi f < r.num f) (hf : ((f : Int) == 1) = true) : errStep r e f = 240 := by
  rw [beq_iff_eq] at hf
  unfold errStep
  rw [if_pos h, if_pos (by omega)]
theorem errStep_out {r : Rq} {e : Int} {f : Nat} (h : r.num f < lo f ∨ hi f < r.num f) (hf : ((f : Int) == 1) = false) : errStep r e f = if e < 50 then 50 else e := by
  rw [beq_eq_false_iff_ne] at hf
  unfold errStep
  rw [if_pos h, if_neg (by omega)]
  split <;> omega
theorem errT_succ (r : Rq) (l : List Nat) (j f : Nat) (h : l[j]? = some f) : errT r l (j + 1) = errStep r (errT r l j) f := by
  obtain ⟨hlt, rfl⟩ := List.getElem?_eq_some_iff.1 h
  unfold errT
  rw [List.take_succ_eq_append_getElem hlt, List.foldl_append]
  rfl
theorem errStep_range (r : Rq) (e : Int) (f : Nat) (h : 0 ≤ e ∧ e ≤ 240) : 0 ≤ errStep r e f ∧ errStep r e f ≤ 240 := by
  unfold errStep
  split
  · split <;> omega
  · exact h
theorem foldl_range (r : Rq) : ∀ (l : List Nat) (e : Int), 0 ≤ e ∧ e ≤ 240 → 0 ≤ l.foldl (errStep r) e ∧ l.foldl (errStep r) e ≤ 240
  | [], e, h => h
  | f :: l, e, h => foldl_range r l _ (errStep_range r e f h)
theorem errT_range (r : Rq) (l : List Nat) (j : Nat) : 0 ≤ errT r l j ∧ errT r l j ≤ 240 := foldl_range r _ 0 ⟨by omega, by omega⟩
def hasArr (l : List Nat) : Array Value := #[.bool (l.contains 0), .bool (l.contains 1), .bool (l.contains 2), .bool (l.contains 3), .bool (l.contains 4), .bool (l.contains 5)]
theorem hasArr_at (l : List Nat) (f : Nat) (hf : f < 6) : (hasArr l)[f]? = some (.bool (l.contains f)) := by
  match f, hf with
  | 0, _ | 1, _ | 2, _ | 3, _ | 4, _ | 5, _ => rfl
theorem hasArr_set (l : List Nat) (f : Nat) (hf : f < 6) : (hasArr l).setIfInBounds f (.bool true) = hasArr (l ++ [f]) := by
  match f, hf with
  | 0, _ | 1, _ | 2, _ | 3, _ | 4, _ | 5, _ => simp [hasArr]
/-- the block of 'has' behind these fields -/
def HasRel (w1 wr : World) (l : List Nat) : Prop := Below w1.heap.size w1 wr ∧ wr.heap[w1.heap.size]? = some (.cells (hasArr l) 84 (0, 0))
theorem HasRel.below {w1 wr w' : World} {l : List Nat} (h : HasRel w1 wr l) (hb : Below wr.heap.size wr w') : HasRel w1 w' l := by
  refine ⟨h.1.trans (hb.mono h.1.size), ?_⟩
  rw [hb.block _ (Array.getElem?_eq_some_iff.1 h.2).1]
  exact h.2
theorem HasRel.set {w1 wr : World} {l : List Nat} (h : HasRel w1 wr l) (f : Nat) (hf : f < 6) : HasRel w1 (wr.setCell ⟨w1.heap.size, f, none⟩ (.bool true)) (l ++ [f]) := by
  refine ⟨h.1.setCell (Nat.le_refl _) _, ?_⟩
  rw [heap_setCell_same _ _ _ _ _ _ h.2, hasArr_set l f hf]
theorem HasRel.start (w1 : World) : HasRel w1 (w1.alloc (.cells #[.bool false, .bool false, .bool false, .bool false, .bool false, .bool false] 84)) [] :=
  ⟨(Below.refl _ _).alloc (Nat.le_refl _) _, heap_alloc_new _ _⟩
theorem HasRel.start' (w1 : World) (l : List Nat) (h : l = []) : HasRel w1 (w1.alloc (.cells #[.bool false, .bool false, .bool false, .bool false, .bool false, .bool false] 84)) l := by
  subst h
  exact HasRel.start w1
theorem HasRel.cell {w1 wr : World} {l : List Nat} (h : HasRel w1 wr l) (f : Nat) (hf : f < 6) : wr.cell? ⟨w1.heap.size, f, none⟩ = some (.bool (l.contains f)) ∧ wr.frozen? ⟨w1.heap.size, f, none⟩ = false := by
  exact ⟨by rw [cell_of_row _ _ _ _ _ _ h.2]; exact hasArr_at l f hf, frozen_of_row _ _ _ _ _ h.2⟩
def othersZero (r : Rq) : Prop := ∀ f < 6, (fieldsOf r.k).contains f = false → r.num f = 0
def othersB (r : Rq) (j : Nat) : Bool := (List.range j).all fun f => (fieldsOf r.k).contains f || r.num f == 0
def wrongE (r : Rq) : Int := if isKind r.k then (if othersB r 6 then errT r (fieldsOf r.k) (fieldsOf r.k).length else 2) else 2
theorem others_succ (r : Rq) (j : Nat) : othersB r (j + 1) = (othersB r j && ((fieldsOf r.k).contains j || r.num j == 0)) := by
  unfold othersB
  rw [List.range_succ, List.all_append]
  simp
theorem others_stop (r : Rq) (j : Nat) (hj : j < 6) (h : ((fieldsOf r.k).contains j || r.num j == 0) = false) : othersB r 6 = false := by
  unfold othersB
  rw [Bool.eq_false_iff]
  intro h2
  rw [List.all_eq_true] at h2
  have := h2 j (List.mem_range.2 hj)
  rw [h] at this
  cases this
theorem wrongE_no (r : Rq) (j : Nat) (hj : j < 6) (h : ((fieldsOf r.k).contains j || r.num j == 0) = false) : wrongE r = 2 := by
  unfold wrongE
  rw [others_stop r j hj h]
  simp
theorem wrongE_yes (r : Rq) (hk : isKind r.k = true) (h : othersB r 6 = true) : wrongE r = errT r (fieldsOf r.k) (fieldsOf r.k).length := by
  unfold wrongE
  rw [hk, h]
  simp
/-- so far none but a kind's own fields bears a number -/
def OthersP (r : Rq) (j : Nat) : Prop := othersB r j = true
theorem others_zero (r : Rq) : OthersP r 0 := rfl
theorem others_step (r : Rq) (j : Nat) (h : OthersP r j) (hc : ((fieldsOf r.k).contains j || r.num j == 0) = true) : OthersP r (j + 1) := by
  unfold OthersP at *
  rw [others_succ, h, hc]
  rfl
theorem wrong_below {w w1 w3 : World} {cs : Array Value} {t : TypeId} (h1 : Below (w.alloc (.cells cs t)).heap.size (w.alloc (.cells cs t)) w1) (h2 : Below w1.heap.size w1 w3) : Below w.heap.size w w3 :=
  (((Below.refl _ _).alloc (Nat.le_refl _) _).trans (h1.mono (by simp))).trans (h2.mono (by have := h1.size; simp at this; omega))
theorem ret_int {k : IntKind} {a b : Int} (h : a = b) : Ending.returned (.int k a) = .returned (.int k b) := by rw [h]
theorem cells_below {W w1 : World} (cs : Array Value) (t : TypeId) (hb : Below (W.alloc (.cells cs t)).heap.size (W.alloc (.cells cs t)) w1) : ∀ i, w1.cell? ⟨W.heap.size, i, none⟩ = cs[i]? := by
  intro i
  rw [hb.cell (p := ⟨W.heap.size, i, none⟩) (by show W.heap.size < (W.alloc _).heap.size; simp)]
  exact World.cell?_alloc_at _ _ _ _ rfl
theorem fields_n (k : Int) (l : List Nat) (n : Nat) (hk : (Lit.int .i8 k).wf = true) (hl : fieldsOf k = l) (hn : l.length = n) (hi : isKind k = true) (w : World) :
    Calls Try.prog 44 #[.int .i8 k] w fun e w' => ∃ v, e = .returned (.tuple #[v, .bool true]) ∧ ((n = 0 ∧ v = .slice none 0 0) ∨ ∃ b, v = .slice (some ⟨b, 0, none⟩) n n ∧ w'.heap[b]? = some (.cells (l.map fun n : Nat => Value.int .i64 (n : Int)).toArray 3)) ∧ Below w.heap.size w w' := by
  subst hl hn
  refine (fields_any k hk w).mono ?_
  rintro e w' ⟨v, rfl, hv, hb⟩
  rw [hi]
  refine ⟨v, rfl, ?_, hb⟩
  rcases hv with ⟨h1, h2⟩ | ⟨b, _, h2, h3⟩
  · exact .inl ⟨by rw [h1]; rfl, h2⟩
  · exact .inr ⟨b, h2, h3⟩
/-- a field's cell -/
theorem field_cell {w1 wr : World} {b j f : Nat} {l : List Nat} (hc : w1.heap[b]? = some (.cells (l.map fun n : Nat => Value.int .i64 (n : Int)).toArray 3)) (hb : Below w1.heap.size w1 wr) (hf : l[j]? = some f) : wr.cell? ⟨b, j, none⟩ = some (.int .i64 (f : Int)) := by
  rw [hb.cell (p := ⟨b, j, none⟩) (Array.getElem?_eq_some_iff.1 hc).1, cell_of_row _ _ _ _ _ _ hc]
  simp [hf]
theorem num_cell {w1 wr : World} {b0 f : Nat} {r : Rq} (hq : ∀ i, w1.cell? ⟨b0, i, none⟩ = r.cells[i]?) (h0 : b0 < w1.heap.size) (hb : Below w1.heap.size w1 wr) (hf : f < 6) : wr.cell? ⟨b0, f + 1, none⟩ = some (.int .i64 (r.num f)) := by
  rw [hb.cell (p := ⟨b0, f + 1, none⟩) h0, hq]
  exact r.cell f hf
theorem round_end {w1 wr w2 w3 : World} {l : List Nat} {j f : Nat} (h : HasRel w1 wr (l.take j)) (hf : l[j]? = some f) (hf6 : f < 6) (hb : Below (wr.setCell ⟨w1.heap.size, f, none⟩ (.bool true)).heap.size (wr.setCell ⟨w1.heap.size, f, none⟩ (.bool true)) w2) (hb2 : Below w2.heap.size w2 w3) : HasRel w1 w3 (l.take (j + 1)) := by
  have e : l.take (j + 1) = l.take j ++ [f] := by
    obtain ⟨hlt, he⟩ := List.getElem?_eq_some_iff.1 hf
    rw [List.take_succ_eq_append_getElem hlt, he]
  rw [e]
  exact ((h.set f hf6).below hb).below hb2
set_option maxHeartbeats 2000000 in
theorem wrong_any (r : Rq) (hk : (Lit.int .i8 r.k).wf = true) (w : World) : Calls Try.prog 50 #[.agg r.cells] w fun e w' => e = .returned (.int .i64 (wrongE r)) ∧ Below w.heap.size w w' := by
  unfold Rq.cells
  by_cases hK : isKind r.k = true
  · obtain ⟨l, hl⟩ : ∃ l, fieldsOf r.k = l := ⟨_, rfl⟩
    obtain ⟨n, hn⟩ : ∃ n, l.length = n := ⟨_, rfl⟩
    have hn3 : n ≤ 3 := by rw [← hn, ← hl]; exact fields_len r.k
    have FA := Lib.hid (fields_n r.k l n hk hl hn hK)
    have HFl := Lib.hid (fun f (h : f ∈ l) => fields_lt r.k f (by rw [hl]; exact h))
    have HEs := Lib.hid (errT_succ r l)
    have HER := Lib.hid (errT_range r l)
    have HGet := Lib.hid (fun j (h : j < n) => (⟨l[j]'(by rw [hn]; exact h), List.getElem?_eq_getElem (by rw [hn]; exact h)⟩ : ∃ f, l[j]? = some f))
    have HW := Lib.hid (wrongE_yes r hK)
    have HW2 := Lib.hid (wrongE_no r)
    have HOS := Lib.hid (others_step r)
    rw [hl] at HW2 HOS
    rw [hl] at HW
    rw [hn] at HW
    have HT := Lib.hid (show l.take n = l by rw [← hn]; exact List.take_length ..)
    have HN0 := Lib.hid (fun h : n = 0 => List.eq_nil_of_length_eq_zero (hn.trans h))
    have H0 := Lib.hid (show errT r l 0 = 0 from rfl)
    clear hl hn hK hk
    go_enter Try.func50, Try.ntmps50
    go_wp2_with fail
    refine (FA.out _).mono ?_
    rintro e w1 ⟨v, rfl, hv, hb⟩
    have HQ := Lib.hid (cells_below (W := w) _ _ hb)
    have HB := Lib.hid hb
    clear hb
    have HS := Lib.hid (HasRel.start w1)
    have hw1 : w.heap.size < w1.heap.size := by have := HB.out.size; simp at this; omega
    rcases hv with ⟨rfl, rfl⟩ | ⟨b, rfl, hcells⟩
    · clear hn3
      have HSl := Lib.hid (HasRel.start' w1 l (HN0.out rfl))
      go_wp2
      refine wp_loop_rounds 1 ?_
      rw [rounds_succ]
      go_wp2_with fail
      have HR := HSl
      refine (numbers_any _ _).mono ?_
      rintro e w3 ⟨rfl, hb3⟩
      have HR3 := Lib.hid (HR.out.below hb3)
      clear hb3
      have HBe := Lib.hid (HR3.out.1)
      go_wp2_with fail
      go_loop [54] (fun i => ∃ j : Nat, j ≤ 6 ∧ i = .int .i64 j ∧ OthersP r j) (fun i => 6 - (intOf i).toNat)
      case atStart => exact ⟨0, Nat.zero_le _, rfl, others_zero r⟩
      case round =>
        obtain ⟨j, hj, rfl, ho⟩ := hrel
        have HO := Lib.hid ho
        clear ho
        by_cases hlt : j < 6
        · have hh := (HR3.out.cell j hlt).1
          have hnc := num_cell HQ.out hw1 HR3.out.1 hlt
          have hix := ptrs_at w.heap.size j hlt
          by_cases c1 : l.contains j = true
          · rw [c1] at hh
            have HC1 := Lib.hid (show (l.contains j || r.num j == 0) = true by rw [c1]; rfl)
            clear c1
            go_wp2
            go_round
            case rel => exact ⟨j + 1, by omega, by go_num, HOS.out j HO.out HC1.out⟩
            case measure => simp [intOf]; omega
          · rw [Bool.not_eq_true] at c1
            rw [c1] at hh
            by_cases c2 : r.num j = 0
            · have HC1 := Lib.hid (show (l.contains j || r.num j == 0) = true by rw [c1, c2]; rfl)
              rw [c2] at hnc
              clear c1 c2
              go_wp2
              go_round
              case rel => exact ⟨j + 1, by omega, by go_num, HOS.out j HO.out HC1.out⟩
              case measure => simp [intOf]; omega
            · have HC1 := Lib.hid (show (l.contains j || r.num j == 0) = false by rw [c1]; simpa using c2)
              have z1 : (r.num j == 0) = false := by simpa using c2
              clear c1 c2
              go_wp2
              go_ret
              exact ⟨ret_int (HW2.out j hlt HC1.out).symm, (wrong_below HB.out HBe.out)⟩
        · obtain rfl : j = 6 := by omega
          go_wp2
          go_ret
          exact ⟨ret_int (((HW.out HO.out).trans H0.out).symm), (wrong_below HB.out HBe.out)⟩
    · have HC := Lib.hid hcells
      clear hcells
      go_wp2_with fail
      go_loopw [6, 24] (fun e i wr => ∃ j : Nat, j ≤ n ∧ i = .int .i64 j ∧ e = .int .i64 (errT r l j) ∧ HasRel w1 wr (l.take j)) (fun _ i _ => n - (intOf i).toNat)
      case atStart => exact ⟨0, Nat.zero_le _, rfl, rfl, HS.out⟩
      case round =>
        obtain ⟨j, hj, rfl, rfl, hr⟩ := hrel
        have HR := Lib.hid hr
        clear hr
        by_cases hlt : j < n
        · obtain ⟨f, hf⟩ := HGet.out j hlt
          have hf6 : f < 6 := HFl.out f (List.mem_of_getElem? hf)
          have hcell := field_cell HC.out HR.out.1 hf
          have hes := HEs.out j f hf
          have HES := Lib.hid hes
          have HF := Lib.hid hf
          clear hes hf
          have hh1 := (HR.out.cell f hf6).1
          have hh2 := (HR.out.cell f hf6).2
          obtain ⟨E, hE⟩ : ∃ E, errT r l j = E := ⟨_, rfl⟩
          have hEr := HER.out j
          rw [hE] at HES hEr
          rw [hE]
          clear hE
          go_wp2_with fail
          refine (bounds_any f hf6 _).mono ?_
          rintro e w2 ⟨rfl, hb2⟩
          have HB2 := Lib.hid hb2
          clear hb2
          go_wp2_with fail
          refine (numbers_any _ w2).mono ?_
          rintro e w3 ⟨rfl, hb3⟩
          have HRE := Lib.hid (round_end HR.out HF.out hf6 HB2.out hb3)
          clear hb3
          have hnc := num_cell HQ.out hw1 HRE.out.1 hf6
          have hix := ptrs_at w.heap.size f hf6
          go_wp2
          all_goals
            go_roundw
            case rel =>
              refine ⟨j + 1, by omega, by go_num, congrArg (Value.int .i64) ?_, HRE.out⟩
              first
                | exact (HES.out.trans (errStep_in (by omega))).symm
                | exact (HES.out.trans (errStep_out (by omega) (by assumption))).symm
                | exact (HES.out.trans (errStep_key (by omega) (by assumption))).symm
            case measure => simp [intOf]; omega
        · obtain rfl : j = n := by omega
          go_wp2_with fail
          refine (numbers_any _ _).mono ?_
          rintro e w3 ⟨rfl, hb3⟩
          have hR := HR.out
          rw [HT.out] at hR
          have HR3 := Lib.hid (hR.below hb3)
          clear hR
          clear hb3
          have HBe := Lib.hid (HR3.out.1)
          go_wp2_with fail
          go_loop [54] (fun i => ∃ j : Nat, j ≤ 6 ∧ i = .int .i64 j ∧ OthersP r j) (fun i => 6 - (intOf i).toNat)
          case atStart => exact ⟨0, Nat.zero_le _, rfl, others_zero r⟩
          case round =>
            obtain ⟨j, hj, rfl, ho⟩ := hrel
            have HO := Lib.hid ho
            clear ho
            by_cases hlt : j < 6
            · have hh := (HR3.out.cell j hlt).1
              have hnc := num_cell HQ.out hw1 HR3.out.1 hlt
              have hix := ptrs_at w.heap.size j hlt
              by_cases c1 : l.contains j = true
              · rw [c1] at hh
                have HC1 := Lib.hid (show (l.contains j || r.num j == 0) = true by rw [c1]; rfl)
                clear c1
                go_wp2
                go_round
                case rel => exact ⟨j + 1, by omega, by go_num, HOS.out j HO.out HC1.out⟩
                case measure => simp [intOf]; omega
              · rw [Bool.not_eq_true] at c1
                rw [c1] at hh
                by_cases c2 : r.num j = 0
                · have HC1 := Lib.hid (show (l.contains j || r.num j == 0) = true by rw [c1, c2]; rfl)
                  rw [c2] at hnc
                  clear c1 c2
                  go_wp2
                  go_round
                  case rel => exact ⟨j + 1, by omega, by go_num, HOS.out j HO.out HC1.out⟩
                  case measure => simp [intOf]; omega
                · have HC1 := Lib.hid (show (l.contains j || r.num j == 0) = false by rw [c1]; simpa using c2)
                  have z1 : (r.num j == 0) = false := by simpa using c2
                  clear c1 c2
                  go_wp2
                  go_ret
                  exact ⟨ret_int (HW2.out j hlt HC1.out).symm, (wrong_below HB.out HBe.out)⟩
            · obtain rfl : j = 6 := by omega
              go_wp2
              go_ret
              exact ⟨ret_int ((HW.out HO.out).symm), (wrong_below HB.out HBe.out)⟩
  · go_enter Try.func50, Try.ntmps50
    go_wp2_with fail
    refine (fields_any r.k hk _).mono ?_
    rintro e w1 ⟨v, rfl, hv, hb⟩
    rw [Bool.not_eq_true] at hK
    rw [hK]
    have HE := Lib.hid (show wrongE r = 2 by unfold wrongE; rw [hK]; rfl)
    have HB := Lib.hid hb
    clear hb hK hk hv
    go_wp2
    go_ret
    exact ⟨ret_int HE.out.symm, ((Below.refl _ _).alloc (Nat.le_refl _) _).trans (HB.out.mono (by simp))⟩
end Go.Proofs.Ytcffabfaefbjcaa
