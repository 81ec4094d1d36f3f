/-
  The document's Least and Pop (chapter 15).
-/
import Derived.Test.YtcmmmmpdehfefaaRSort
namespace Go.Proofs.Ytcmmmmpdehfefaa
set_option linter.unusedVariables false
set_option linter.unusedSimpArgs false
open Go.RowKit Go.Maps
/-- who is ahead, of the sorted ones -/
def rhd (l : List (Int × Int)) : Value := match sortP l with | [] => .tuple #[.int .i64 0, .int .i64 0, .bool false] | y :: _ => .tuple #[.int .i64 y.2, .int .i64 y.1, .bool true]
set_option maxHeartbeats 2000000 in
set_option maxRecDepth 100000 in
theorem rleast_any {w : World} {rb : Nat} {T : Nat → Prop} {l : List (Int × Int)} (h : RH w rb T l) (hlen : l.length ≤ 90000) :
    Calls Try.prog 23 #[.pointer (some ⟨rb, 0, none⟩)] w fun e w' => e = .returned (rhd l) ∧ RH w' rb T l ∧ Stp T T w w' := by
  have HS := Lib.hid (rsorted_any h hlen)
  have HH := Lib.hid h
  unfold rhd
  generalize sortP l = sl at *
  clear h
  cases sl with
  | nil =>
    go_enter Try.func23, Try.ntmps23
    go_wp2_with fail
    refine HS.out.mono ?_
    rintro e w1 ⟨v, rfl, hv, _, hb⟩
    obtain ⟨ao, cap, rfl, hc, hr⟩ := hv
    have HB := Lib.hid hb
    clear hb hr
    simp only [List.length_nil]
    go_wp2_with fail
    go_ret3
    exact ⟨rfl, HH.out.below HB.out, Stp.below HB.out⟩
  | cons y rest =>
    go_enter Try.func23, Try.ntmps23
    go_wp2_with fail
    refine HS.out.mono ?_
    rintro e w1 ⟨v, rfl, hv, _, hb⟩
    obtain ⟨ao, cap, rfl, hc, hr⟩ := hv
    obtain ⟨b, rfl, c0, c1⟩ := hr 0 y rfl
    have HB := Lib.hid hb
    obtain ⟨m, hm⟩ : ∃ m, (y :: rest).length = m := ⟨_, rfl⟩
    have hm1 : 0 < m := by rw [← hm]; simp
    have d0 : ((m : Int) == 0) = false := by rw [beq_eq_false_iff_ne]; omega
    rw [hm] at hc ⊢
    clear hb hr hm
    simp only [Nat.zero_mul, Nat.zero_add] at c0 c1
    go_wp2_with fail
    go_quiet (fail)
    go_wp2
    go_ret3
    exact ⟨rfl, ⟨(HH.out.below HB.out).top, HH.out.rT, (HH.out.below HB.out).lt⟩, ⟨fun k h => .inl h, ((Stp.below (T := T) HB.out).2.drewN _)⟩⟩
set_option maxHeartbeats 2000000 in
set_option maxRecDepth 100000 in
theorem rpop_any {w : World} {rb : Nat} {T : Nat → Prop} {l : List (Int × Int)} (h : RH w rb T l) (hlen : l.length ≤ 90000) :
    Calls Try.prog 21 #[.pointer (some ⟨rb, 0, none⟩)] w fun e w' => e = .returned (rhd l) ∧ ∃ T', RH w' rb T' (match sortP l with | [] => l | y :: _ => delK y.2 l) ∧ Stp T T' w w' := by
  have HS := Lib.hid (rleast_any h hlen)
  have HT := Lib.hid (fun c (w' : World) (hw : RH w' rb T l) => rtake_any hw c (by omega))
  unfold rhd at *
  generalize sortP l = sl at *
  clear h
  cases sl with
  | nil =>
    go_enter Try.func21, Try.ntmps21
    go_wp2_with fail
    refine HS.out.mono ?_
    rintro e w1 ⟨rfl, h1, hs1⟩
    have H1 := Lib.hid h1
    have HS1 := Lib.hid hs1
    clear h1 hs1
    simp only
    go_wp2_with fail
    go_ret3
    exact ⟨rfl, T, H1.out, HS1.out⟩
  | cons y rest =>
    go_enter Try.func21, Try.ntmps21
    go_wp2_with fail
    refine HS.out.mono ?_
    rintro e w1 ⟨rfl, h1, hs1⟩
    have H1 := Lib.hid h1
    have HS1 := Lib.hid hs1
    clear h1 hs1
    simp only
    go_wp2_with fail
    refine (HT.out y.2 w1 H1.out).mono ?_
    rintro e w2 ⟨rfl, T', h2, hs2⟩
    have H2 := Lib.hid h2
    have HS2 := Lib.hid hs2
    clear h2 hs2
    generalize findK y.2 l = fy
    go_wp2_with fail
    go_ret3
    exact ⟨rfl, T', H2.out, HS1.out.trans HS2.out⟩
end Go.Proofs.Ytcmmmmpdehfefaa
