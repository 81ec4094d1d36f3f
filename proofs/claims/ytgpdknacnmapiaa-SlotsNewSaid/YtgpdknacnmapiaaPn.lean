/-
  What the programs of slots do, one slot (chapter 14): plain.
-/
import Derived.Test.YtgpdknacnmapiaaGn
import Derived.Test.YtgpdknacnmapiaaNw
namespace Go.Proofs.Ytgpdknacnmapiaa
set_option linter.unusedVariables false
set_option linter.unusedSimpArgs false
open Go.RowKit
theorem nextG_56 {f : Fr} {x : Int} (h : f.pg = 56) : nextG f x = nextR f x := if_pos h
theorem nextG_57 {f : Fr} {x : Int} (h : f.pg = 57) (h2 : f.st = 0) : nextG f x = dropR f := by unfold nextG; rw [if_neg (by omega), if_pos h2]
theorem nextG_57e {f : Fr} {x : Int} (h : f.pg = 57) (h2 : f.st ≠ 0) : nextG f x = ⟨f, 7, 0, 0, []⟩ := by unfold nextG; rw [if_neg (by omega), if_neg h2]
theorem nextR_0 {f : Fr} {x : Int} (h : f.st = 0) : nextR f x = lookR f := if_pos h
theorem nextR_1o {f : Fr} {x : Int} (h : f.st = 1) (hx : x % 2 = 1) : nextR f x = lookR (f.reg 3 (f.r 3 + 1)) := by unfold nextR; rw [if_neg (by omega), if_pos h, if_pos hx]
theorem nextR_1e {f : Fr} {x : Int} (h : f.st = 1) (hx : x % 2 ≠ 1) : nextR f x = ⟨(f.at_ 2).reg 4 (aft (x / 2) * 256 + slotOf f), 1, lookC f, aft (x / 2) * 2 + 1, []⟩ := by unfold nextR; rw [if_neg (by omega), if_pos h, if_neg hx]
theorem nextR_2 {f : Fr} {x : Int} (h : f.st = 2) : nextR f x = ⟨f, 7, 0, 0, [0, f.r 4]⟩ := by unfold nextR; rw [if_neg (by omega), if_neg (by omega)]
def nn (node : Bool) : Int := if node then 1 else 0
theorem nn_eq (node : Bool) : (nn node == 1) = node := by cases node <;> rfl
theorem nn_01 (node : Bool) : nn node = 0 ∨ nn node = 1 := by cases node <;> simp [nn]
/-- an allotment's frame, of one slot -/
def fA (sl : Int) (node : Bool) : Fr := frG 56 [sl, 1, nn node]
/-- a freeing's frame -/
def fD (h : Int) (node : Bool) : Fr := frG 57 [h, nn node]
section
variable {sl : Int} {node : Bool} {k : Int}
theorem fA_r0 : (fA sl node).r 0 = sl := rfl
theorem fA_r1 : (fA sl node).r 1 = 1 := rfl
theorem fA_r2 : (fA sl node).r 2 = nn node := rfl
theorem fA_r3 : (fA sl node).r 3 = 0 := rfl
theorem fA_look (hk : genC sl node = k) : lookC (fA sl node) = k := by
  unfold lookC slotOf
  rw [fA_r0, fA_r2, fA_r3, nn_eq, Int.add_zero, hk]
theorem sn_a0 (x : Int) (hk : genC sl node = k) (h0 : 0 ≤ k) : nextG (fA sl node) x = ⟨(fA sl node).at_ 1, 0, k, 0, []⟩ := by
  rw [nextG_56 rfl, nextR_0 rfl]
  unfold lookR
  rw [fA_r1, fA_r3, fA_look hk, if_neg (by omega), if_neg (by omega)]
/-- the frame behind a load -/
def fA2 (sl : Int) (node : Bool) (g : Int) : Fr := (((fA sl node).at_ 1).at_ 2).reg 4 (aft g * 256 + sl)
theorem sn_a1 (g : Int) (hk : genC sl node = k) : nextG ((fA sl node).at_ 1) (2 * g) = ⟨fA2 sl node g, 1, k, aft g * 2 + 1, []⟩ := by
  have e1 : lookC ((fA sl node).at_ 1) = lookC (fA sl node) := rfl
  have e2 : slotOf ((fA sl node).at_ 1) = sl := by
    have : slotOf ((fA sl node).at_ 1) = sl + 0 := rfl
    omega
  rw [nextG_56 rfl, nextR_1e rfl (by omega), e1, e2, fA_look hk, show 2 * g / 2 = g by omega]
  rfl
theorem sn_a2 (g x : Int) : nextG (fA2 sl node g) x = ⟨fA2 sl node g, 7, 0, 0, [0, aft g * 256 + sl]⟩ := by
  rw [nextG_56 rfl, nextR_2 rfl]
  rfl
theorem fA_inv (hs : 0 ≤ sl ∧ sl ≤ 255) : Inv (fA sl node) 0 := by
  refine ⟨.inl rfl, .inl rfl, fun h => ?_, fun _ h => ?_, ?_, ?_, ?_, ?_, ?_⟩
  · show (0 : Int) ≠ 2; omega
  · have : (0 : Int) = 1 := h; omega
  · rw [fA_r0]; omega
  · rw [fA_r1]; omega
  · rw [fA_r2]; exact nn_01 node
  · rw [fA_r3]; omega
  · have : (fA sl node).r 4 = 0 := rfl
    omega
theorem fA1_inv (hs : 0 ≤ sl ∧ sl ≤ 255) (hk : genC sl node = k) (h0 : 0 ≤ k) : Inv ((fA sl node).at_ 1) 1 := by
  have := (fA_inv (node := node) hs).next (by omega) 0 (by omega) (by rw [sn_a0 0 hk h0]; show (0 : Int) ≠ 7; omega)
  rw [sn_a0 0 hk h0] at this
  exact this
theorem fA2_inv (hs : 0 ≤ sl ∧ sl ≤ 255) (hk : genC sl node = k) (h0 : 0 ≤ k) (g : Int) (hg : 0 ≤ g ∧ g ≤ 1023) : Inv (fA2 sl node g) 2 := by
  have := (fA1_inv (node := node) hs hk h0).next (by omega) (2 * g) (by omega) (by rw [sn_a1 g hk]; show (1 : Int) ≠ 7; omega)
  rw [sn_a1 g hk] at this
  exact this
theorem sn_d0 (g x : Int) (hs : 0 ≤ sl ∧ sl ≤ 255) (hk : genC sl node = k) (h0 : 0 ≤ k) : nextG (fD (g * 256 + sl) node) x = ⟨(fD (g * 256 + sl) node).at_ 1, 1, k, g * 2, []⟩ := by
  have e0 : (fD (g * 256 + sl) node).r 0 = g * 256 + sl := rfl
  have e1 : (fD (g * 256 + sl) node).r 1 = nn node := rfl
  have hp : (fD (g * 256 + sl) node).pg = 57 := rfl
  have e2 : dropC (fD (g * 256 + sl) node) = k := by
    unfold dropC
    rw [e0, e1, nn_eq, show (g * 256 + sl) % 256 = sl by omega, hk]
  rw [nextG_57 hp rfl]
  unfold dropR
  rw [e2, e0, if_neg (by omega), show (g * 256 + sl) / 256 = g by omega]
theorem sn_d1 (h x : Int) : nextG ((fD h node).at_ 1) x = ⟨(fD h node).at_ 1, 7, 0, 0, []⟩ := by
  have hp : ((fD h node).at_ 1).pg = 57 := rfl
  rw [nextG_57e hp (by show (1 : Int) ≠ 0; omega)]
theorem fD_inv (h : Int) (hh : 0 ≤ h ∧ h ≤ 300000) : Inv (fD h node) 0 := by
  refine ⟨.inr rfl, .inl rfl, fun h => ?_, fun e _ => ?_, hh, ?_, ?_, ?_, ?_⟩
  · show (0 : Int) ≠ 2; omega
  · have : (57 : Int) = 56 := e; omega
  · have e1 : (fD h node).r 1 = nn node := rfl
    rw [e1]; have := nn_01 node; omega
  · exact .inl rfl
  · have : (fD h node).r 3 = 0 := rfl
    omega
  · have : (fD h node).r 4 = 0 := rfl
    omega
theorem fD1_inv (g : Int) (hg : 0 ≤ g ∧ g ≤ 1023) (hs : 0 ≤ sl ∧ sl ≤ 255) (hk : genC sl node = k) (h0 : 0 ≤ k) : Inv ((fD (g * 256 + sl) node).at_ 1) 1 := by
  have := (fD_inv (node := node) (g * 256 + sl) (by omega)).next (by omega) 0 (by omega) (by rw [sn_d0 g 0 hs hk h0]; show (1 : Int) ≠ 7; omega)
  rw [sn_d0 g 0 hs hk h0] at this
  exact this
end
end Go.Proofs.Ytgpdknacnmapiaa
