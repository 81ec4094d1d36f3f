/-
  What lease.Given answers of the places 1 .. m (chapter 20).
-/
import Derived.Test.YtcffabfaefbjcaaLease
import Derived.Test.YtcffabfaefbjcaaBase
import Derived.Maps.OwnOps
import Derived.Maps.Views
namespace Go.Proofs.Ytcffabfaefbjcaa
set_option linter.unusedVariables false
open Go.RowKit Go.Maps
/-- 'm[k]' at elements that are bools -/
theorem wp_look_bool {H : Type} {P : Program} (w : World) {ops : Array Oper} {rest : List Oper} {o : Oper} {a : Act} {Q : Exit → Act → World → Prop}
    (hg : o.guard = none) (m x : Operand) (t : TypeId) (hop : o.op = Op.lookup t m x false)
    (k e : TypeId) (K : Keyed P k) (ht : P.underlying t = some (.map k e)) (he : P.underlying e = some .bool) (hz : (zeroValue e).run P w = .ok (.bool false) w) (b n : Nat) (D : DataW H)
    (hm : a.eval m = .map (some b)) (hown : w.ownsMap P k (plainElem P e) b n D) (key : Value) (kl : Lit) (hx : a.eval x = key) (hkey : keyOf P k key = some kl) (c : Bool) (hat : D.atKey kl (.lit (.bool false)) = .lit (.bool c))
    (hK : wpList P ops Q rest (a.put o.dst (.bool c)) w) :
    wpList P ops Q (o :: rest) a w := by
  refine wpList_plain hg fun K' hK' => ?_
  obtain ⟨v, ps, hrun, hv⟩ := hown.lookup K ht hz (plainElem_bool he false) hkey
  rw [hat] at hv
  have hvc : v = .bool c := by
    unfold plainElem at hv
    rw [he] at hv
    cases v <;> simp at hv
    rw [hv.1]
  subst hvc
  unfold Oper.wp
  simp [execOp, hop, hm, hx, hrun, Result.andThen]
  exact hK' _ _ hK
theorem wf_small (n : Int) (h : -9223372036854775808 ≤ n ∧ n ≤ 9223372036854775807) : (Lit.int .i64 n).wf = true := by
  have := wrap64_wf n
  rwa [IntWalk.wrap64_in n h] at this
theorem lawK : Keyed Try.prog 3 := int_keyed Try.underlying3
theorem zero4 (w : World) : (zeroValue 4).run Try.prog w = .ok (.bool false) w := by kernel_rfl
/-- the map has none of the keys behind j -/
def NoneBehind (D : DataW Unit) (j : Nat) : Prop := ∀ k : Nat, j < k → D.atKey (.int .i64 (k : Int)) (.lit (.bool false)) = .lit (.bool false)
theorem NoneBehind.step {D : DataW Unit} {j : Nat} (h : NoneBehind D j) (x : Int) (hx : x = ((j + 1 : Nat) : Int)) (d : DataW Unit) : NoneBehind (D.put (.int .i64 x) d) (j + 1) := by
  intro k hk
  rw [atKey_put_other (by intro e; cases e; omega)]
  exact h k (by omega)
def SeenRel (w wr : World) (mb j : Nat) : Prop := Below w.heap.size w wr ∧ w.heap.size ≤ mb ∧ ∃ D : DataW Unit, wr.ownsMap Try.prog 3 (plainElem Try.prog 4) mb j D ∧ NoneBehind D j
theorem seen_start (w : World) : SeenRel w (w.alloc (.map #[] 0)) w.heap.size 0 :=
  ⟨(Below.refl _ _).alloc (Nat.le_refl _) _, Nat.le_refl _, .map [], World.ownsMap_made _ _ _ _, fun k _ => by rfl⟩
theorem given_none (F K : Int) (hf : fitsB F 0 K = true) (w : World) : Calls Try.prog 16 #[.slice none 0 0, .int .i64 F, .int .i64 K] w fun e w' => e = .returned (.bool true) ∧ Below w.heap.size w w' := by
  have hmm := @run_makeMap Try.prog
  have HF := Lib.hid hf
  have hb := (fitsB_iff F 0 K).1 hf
  clear hf
  obtain ⟨hb1, hb2, _, _, hb3, hb4⟩ := hb
  go_enter Try.func16, Try.ntmps16
  go_wp2_with fail
  refine (fits_any F 0 K w).mono ?_
  rintro e w' ⟨rfl, rfl⟩
  rw [HF.out]
  go_wp2
  refine wp_loop_rounds 1 ?_
  rw [rounds_succ]
  go_wp2
  go_ret
  exact ⟨rfl, (Below.refl _ _).alloc (Nat.le_refl _) _⟩
theorem given_seq (F K m g off cap : Nat) (hf : fitsB F 0 K = true) (hFm : F ≤ m) (hmK : m ≤ F + K) (w : World) (hg : g < w.heap.size) (hm : m ≤ cap) (hcap : cap ≤ 9223372036854775807) (hc : ∀ i, i < m → w.cell? ⟨g, off + i, none⟩ = some (.int .i64 ((i : Int) + 1))) :
    Calls Try.prog 16 #[.slice (some ⟨g, off, none⟩) m cap, .int .i64 (F : Int), .int .i64 (K : Int)] w fun e w' => e = .returned (.bool true) ∧ Below w.heap.size w w' := by
  have hmm := @run_makeMap Try.prog
  have HF := Lib.hid hf
  have hb := (fitsB_iff F 0 K).1 hf
  have HC := Lib.hid hc
  clear hf hc
  obtain ⟨hb1, hb2, _, _, hb3, hb4⟩ := hb
  go_enter Try.func16, Try.ntmps16
  go_wp2_with fail
  refine (fits_any F 0 K w).mono ?_
  rintro e w' ⟨rfl, rfl⟩
  rw [HF.out]
  go_wp2
  go_loopw [8, 9, 20] (fun ab gr i wr => ∃ j : Nat, j ≤ m ∧ i = .int .i64 j ∧ ab = .int .i64 ((j - F : Nat) : Int) ∧ gr = .int .i64 ((max F j : Nat) : Int) ∧ SeenRel w wr w.heap.size j) (fun _ _ i _ => m - (intOf i).toNat)
  case atStart => exact ⟨0, Nat.zero_le _, rfl, by simp, by simp, seen_start w⟩
  case round =>
    obtain ⟨j, hj, rfl, rfl, rfl, hb, hmb, D, hown, hnone⟩ := hrel
    by_cases hlt : j < m
    · have hcell : wr.cell? ⟨g, off + j, none⟩ = some (.int .i64 ((j : Int) + 1)) := (hb.cell (by exact hg)).trans (HC.out j hlt)
      have hkey : keyOf Try.prog 3 (.int .i64 ((j : Int) + 1)) = some (.int .i64 ((j : Int) + 1)) := keyOf_int_mk Try.underlying3 (wf_small _ ⟨by omega, by omega⟩)
      have hat : D.atKey (.int .i64 ((j : Int) + 1)) (.lit (.bool false)) = .lit (.bool false) := by have := hnone (j + 1) (by omega); simpa using this
      have hin : inB ((j : Int) + 1) 1 ((F : Int) + (K : Int)) = true := by simp [inB]; omega
      have HO := Lib.hid hown
      have HN := Lib.hid (fun d => hnone.step ((j : Int) + 1) (by simp) d)
      have HB := Lib.hid hb
      clear hown hnone hb
      rcases (show F < j + 1 ∨ j + 1 ≤ F by omega) with hlt2 | hlt2
      · have d1 : decide ((F : Int) < (j : Int) + 1) = true := by simp; omega
        have hm1 : ((max F j : Nat) : Int) = (j : Int) := by rw [Nat.max_eq_right (by omega)]
        have hm2 : ((max F (j + 1) : Nat) : Int) = (j : Int) + 1 := by rw [Nat.max_eq_right (by omega)]; simp
        have hm3 : ((j + 1 - F : Nat) : Int) = ((j - F : Nat) : Int) + 1 := by omega
        have HM := Lib.hid hm2
        have HM3 := Lib.hid hm3
        rw [hm1]
        clear hm1 hm2 hm3
        have hsm : ((j - F : Nat) : Int) < 2000000 := by omega
        generalize j - F = q at *
        go_wp2_with (first
          | (at_lookup; refine wp_look_bool _ rfl _ _ 63 rfl 3 4 lawK Try.underlying63 Try.underlying4 (zero4 _) w.heap.size j D rfl HO.out _ _ rfl hkey false hat ?_)
          | (go_at_call 43; refine (in_any _ _ _ _).mono ?_; rintro e w' ⟨rfl, rfl⟩; rw [hin])
          | (at_mapUpdate; refine wpList_mapUpdate_own _ rfl _ _ _ 63 rfl 3 4 lawK Try.underlying63 _ w.heap.size j D rfl HO.out (by unfold maxLen; omega) _ _ _ rfl rfl hkey (.lit (.bool true)) [] (plainElem_bool Try.underlying4 true) ?_; intro w1 hown1 hgrow1))
        go_roundw
        case rel => exact ⟨j + 1, by omega, by go_num, congrArg (Value.int .i64) HM3.out.symm, congrArg (Value.int .i64) HM.out.symm, HB.out.grown hgrow1 HB.out.size (fun k hk => by cases hk; exact Nat.le_refl _), hmb, _, hown1, HN.out _⟩
        case measure => simp [intOf]; omega
      · have d1 : decide ((F : Int) < (j : Int) + 1) = false := by simp; omega
        have hm1 : ((max F j : Nat) : Int) = (F : Int) := by rw [Nat.max_eq_left (by omega)]
        have hm2 : ((max F (j + 1) : Nat) : Int) = (F : Int) := by rw [Nat.max_eq_left (by omega)]
        have hm3 : ((j + 1 - F : Nat) : Int) = ((j - F : Nat) : Int) := by omega
        have HM := Lib.hid hm2
        have HM3 := Lib.hid hm3
        rw [hm1]
        clear hm1 hm2 hm3
        generalize j - F = q at *
        go_wp2_with (first
          | (at_lookup; refine wp_look_bool _ rfl _ _ 63 rfl 3 4 lawK Try.underlying63 Try.underlying4 (zero4 _) w.heap.size j D rfl HO.out _ _ rfl hkey false hat ?_)
          | (go_at_call 43; refine (in_any _ _ _ _).mono ?_; rintro e w' ⟨rfl, rfl⟩; rw [hin])
          | (at_mapUpdate; refine wpList_mapUpdate_own _ rfl _ _ _ 63 rfl 3 4 lawK Try.underlying63 _ w.heap.size j D rfl HO.out (by unfold maxLen; omega) _ _ _ rfl rfl hkey (.lit (.bool true)) [] (plainElem_bool Try.underlying4 true) ?_; intro w1 hown1 hgrow1))
        go_roundw
        case rel => exact ⟨j + 1, by omega, by go_num, congrArg (Value.int .i64) HM3.out.symm, congrArg (Value.int .i64) HM.out.symm, HB.out.grown hgrow1 HB.out.size (fun k hk => by cases hk; exact Nat.le_refl _), hmb, _, hown1, HN.out _⟩
        case measure => simp [intOf]; omega
    · obtain rfl : j = m := by omega
      have hm1 : ((max F j : Nat) : Int) = (j : Int) := by rw [Nat.max_eq_right (by omega)]
      have he : ((j : Int) == (F : Int) + ((j - F : Nat) : Int)) = true := by rw [beq_iff_eq]; omega
      have hsm : ((j - F : Nat) : Int) < 2000000 := by omega
      rw [hm1]
      clear hm1 hown hnone
      have HB := Lib.hid hb
      clear hb
      generalize j - F = q at *
      go_wp2
      go_ret
      exact ⟨rfl, HB.out⟩
end Go.Proofs.Ytcffabfaefbjcaa
