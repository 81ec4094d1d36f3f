/-
  The walk of SumsTurns (chapter 02).
-/
import Derived.Test.YtifgbhakbgakmaaSumsLaws
import Derived.OpenShut
namespace Go.Proofs.Ytifgbhakbgakmaa
set_option linter.unusedVariables false
open Go.RowKit Go.ChangeShapes Go.WideShapes Crc
theorem more_lt {n : Nat} {l : List Nat} (hn : n < 4294967296) (hb : IsBytes l) : moreOf n l < 4294967296 := moreOf_lt hn hb
theorem more_eq {a b : Nat} {l : List Nat} (ha : a < 4294967296) (hb : b < 4294967296) : moreOf a l = moreOf b l ↔ a = b := by
  constructor
  · intro h
    unfold moreOf at h
    have h1 := onB_inj (by simpa using inv_lt ha) (by simpa using inv_lt hb) (inv_inj h)
    exact inv_inj h1
  · rintro rfl; rfl
theorem stp_eq {a b : Nat} (ha : a < 4294967296) (hb : b < 4294967296) : stp a = stp b ↔ a = b :=
  ⟨fun h => stp_inj (by simpa using ha) (by simpa using hb) h, fun h => by rw [h]⟩
theorem same_eq {a b c d : Nat} (h : a = b ↔ c = d) : ((((a : Nat) : Int) == ((b : Nat) : Int)) == (((c : Nat) : Int) == ((d : Nat) : Int))) = true := by
  rw [beq_iff_eq]
  by_cases hc : c = d
  · have hab := h.2 hc
    rw [hc, hab]; simp
  · have hab : ¬ a = b := fun x => hc (h.1 x)
    have h1 : (((a : Nat) : Int) == ((b : Nat) : Int)) = false := by rw [beq_eq_false_iff_ne]; omega
    have h2 : (((c : Nat) : Int) == ((d : Nat) : Int)) = false := by rw [beq_eq_false_iff_ne]; omega
    rw [h1, h2]
theorem stp_top (n : Nat) (hn : n < 4294967296) (h : n % 2 = 1) : stp n / 2147483648 = 1 ∧ stp n ^^^ 3988292384 = n / 2 := by
  have e : stp n = (n / 2) ^^^ 3988292384 := by unfold stp poly; rw [h, Nat.one_mul]
  constructor
  · rw [e]
    have := Nat.xor_div_two_pow (a := n / 2) (b := 3988292384) (n := 31)
    rw [show (2 : Nat) ^ 31 = 2147483648 from rfl] at this
    rw [this, show n / 2 / 2147483648 = 0 by omega]
    decide
  · rw [e, Nat.xor_assoc, Nat.xor_self, Nat.xor_zero]
theorem stp_low (n : Nat) (hn : n < 4294967296) (h : n % 2 = 0) : stp n = n / 2 := by
  unfold stp; rw [h, Nat.zero_mul, Nat.xor_zero]
theorem lawSumsTurns_walk (a0 a1 : Int) (v2 : Value) (l2 : List Nat) (w : World) (w0 : (Lit.int .u32 a0).wf = true) (w1 : (Lit.int .u32 a1).wf = true) (w2 : Sl w v2 l2) :
    Calls Try.prog 4 #[.int .u32 a0, .int .u32 a1, v2] w fun e w' => e = .returned (.bool true) ∧ Below w.heap.size w w' := by
  obtain ⟨ao2, cap2, rfl, hc2, hm2⟩ := w2.shape
  have b0 := bounds_u32 w0
  have b1 := bounds_u32 w1
  clear w0 w1
  obtain ⟨A, rfl⟩ := Int.eq_ofNat_of_zero_le b0.1
  obtain ⟨B, rfl⟩ := Int.eq_ofNat_of_zero_le b1.1
  have hA : A < 4294967296 := by omega
  have hB : B < 4294967296 := by omega
  clear b0 b1
  have B0 := Lib.hid (Below.refl w.heap.size w)
  by_cases hlen : 4000 < l2.length
  · have d0 : decide ((4000 : Int) < (l2.length : Int)) = true := by simp; omega
    clear w2
    go_enter Try.func4, Try.ntmps4
    go_wp2_with fail
    refine (wakes02_any _).mono ?_
    rintro e w' ⟨rfl, rfl⟩
    go_wp2_with fail
    go_ret
    exact ⟨rfl, B0.out⟩
  have d0 : decide ((4000 : Int) < (l2.length : Int)) = false := by simp; omega
  have M0 := Lib.hid (more_any A hA (.slice ao2 l2.length cap2) l2 w w2)
  have M1 := Lib.hid (more_any B hB (.slice ao2 l2.length cap2) l2 w w2)
  have hb2 := Lib.hid w2.bytes
  clear w2
  have S0 := Lib.hid (step_any A hA w)
  have S1 := Lib.hid (step_any B hB w)
  have E1 := same_eq (stp_eq hA hB)
  have E2 := same_eq (more_eq (l := l2) hA hB)
  have F1 := Lib.hid (fun h : A % 2 = 1 => stp_top A hA h)
  have F0 := Lib.hid (fun h : A % 2 = 0 => stp_low A hA h)
  have hX : stp A < 4294967296 := by simpa using stp_lt (n := A) (by simpa using hA)
  generalize moreOf A l2 = mA at M0 E2
  generalize moreOf B l2 = mB at M1 E2
  generalize stp A = X at S0 E1 F1 F0 hX
  generalize stp B = Y at S1 E1
  rcases (show A % 2 = 1 ∨ A % 2 = 0 by omega) with hp | hp
  · obtain ⟨f1, f2⟩ := F1.out hp
    clear F1 F0
    have t1 : ((X : Int) / 2147483648 == 1) = true := by rw [beq_iff_eq]; omega
    have t2 : bits BinOp.xor IntKind.u32 (X : Int) 3988292384 = ((A / 2 : Nat) : Int) := by
      have := u32_xor_nat X 3988292384 hX (by omega)
      rw [f2] at this
      exact this
    have t3 : (bits BinOp.or IntKind.u32 ((A : Int) / 2 * 2) 1 == (A : Int)) = true := by
      rw [beq_iff_eq]
      have := u32_or_nat (A / 2 * 2) 1 (by omega) (by omega)
      rw [show ((A / 2 * 2 : Nat) : Int) = (A : Int) / 2 * 2 by omega, show ((1 : Nat) : Int) = 1 from rfl] at this
      rw [this]
      have ho := Nat.two_pow_add_eq_or_of_lt (i := 1) (b := 1) (by omega) (A / 2)
      rw [Nat.mul_comm (A / 2) 2, show (2 : Nat) * (A / 2) = 2 ^ 1 * (A / 2) by omega, ← ho]
      omega
    clear f1 f2
    go_enter Try.func4, Try.ntmps4
    go_wp2_with fail
    refine S0.out.mono ?_
    rintro e w' ⟨rfl, rfl⟩
    go_wp2_with fail
    refine S1.out.mono ?_
    rintro e w' ⟨rfl, rfl⟩
    go_wp2_with fail
    refine M0.out.mono ?_
    rintro e w' ⟨rfl, rfl⟩
    go_wp2_with fail
    refine M1.out.mono ?_
    rintro e w' ⟨rfl, rfl⟩
    go_wp2_with fail
    refine (wakes02_any _).mono ?_
    rintro e w' ⟨rfl, rfl⟩
    go_wp2_with fail
    go_ret
    exact ⟨rfl, B0.out⟩
  · have f1 := F0.out hp
    clear F1 F0
    have t1 : ((X : Int) / 2147483648 == 1) = false := by rw [beq_eq_false_iff_ne]; omega
    have t3 : ((X : Int) * 2 % 4294967296 == (A : Int)) = true := by rw [beq_iff_eq]; omega
    clear f1
    go_enter Try.func4, Try.ntmps4
    go_wp2_with fail
    refine S0.out.mono ?_
    rintro e w' ⟨rfl, rfl⟩
    go_wp2_with fail
    refine S1.out.mono ?_
    rintro e w' ⟨rfl, rfl⟩
    go_wp2_with fail
    refine M0.out.mono ?_
    rintro e w' ⟨rfl, rfl⟩
    go_wp2_with fail
    refine M1.out.mono ?_
    rintro e w' ⟨rfl, rfl⟩
    go_wp2_with fail
    refine (wakes02_any _).mono ?_
    rintro e w' ⟨rfl, rfl⟩
    go_wp2_with fail
    go_ret
    exact ⟨rfl, B0.out⟩
end Go.Proofs.Ytifgbhakbgakmaa
