/-
  Facts that a call's own blocks leave alone (chapters 13, 14).
-/
import Derived.Test.YtgpdknacnmapiaaRn
namespace Go.Proofs.Ytgpdknacnmapiaa
set_option linter.unusedVariables false
set_option linter.unusedSimpArgs false
open Go.RowKit
/-- the blocks of a list -/
def OL (L : List (Nat × Array Value × TypeId)) : Nat → Prop := fun b => ∃ (i : Nat) (C : Array Value) (t : TypeId), L[i]? = some (b, C, t)
/-- blocks that are there, and are nobody's own -/
def Cn (P X : Nat → Prop) (n : Nat) : Nat → Prop := fun b => P b ∧ ¬ X b ∧ b < n
/-- blocks that are nobody's own -/
def Nw (P X : Nat → Prop) : Nat → Prop := fun b => P b ∧ ¬ X b
section
variable {P X : Nat → Prop} {w0 W : World} {L : List (Nat × Array Value × TypeId)}
theorem Mem.re (h : Mem X w0 W L) : Mem (OL L) W W L := h.rebase
theorem Mem.tr {W' : World} {L2 : List (Nat × Array Value × TypeId)} (h : Mem X w0 W L) (h2 : Mem (OL L) W W' L2) : Mem X w0 W' L2 := h.trans h2
theorem Mem.startR {w : World} {R : Nat} {C : Array Value} {t : TypeId} (h : HB w R C t) : Mem (fun b => b = R) w w [(R, C, t)] := by
  refine ⟨rfl, rfl, rfl, Nat.le_refl _, fun _ _ _ => rfl, fun i b C' t' hi => ?_, fun i b C' t' hi => ?_, fun i j b C1 C2 t1 t2 hi hj => ?_⟩
  · match i, hi with
    | 0, hi => simp at hi; obtain ⟨rfl, rfl, rfl⟩ := hi; exact h
    | i + 1, hi => simp at hi
  · match i, hi with
    | 0, hi => simp at hi; exact .inl hi.1.symm
    | i + 1, hi => simp at hi
  · match i, j, hi, hj with
    | 0, 0, _, _ => rfl
    | 0, j + 1, _, hj => simp at hj
    | i + 1, _, hi, _ => simp at hi
theorem Mem.notOwn (h : Mem X w0 W L) {b : Nat} (hb : W.heap.size ≤ b) : ¬ OL L b := by
  rintro ⟨i, C, t, hi⟩
  have := h.lt hi
  omega
theorem Mem.cn (h : Mem X w0 W L) {b : Nat} (hb : Cn P X w0.heap.size b) : ¬ OL L b := by
  rintro ⟨i, C, t, hi⟩
  rcases h.st i _ _ _ hi with h1 | h1
  · exact hb.2.1 h1
  · have := hb.2.2; omega
theorem Mem.nw (h : Mem X w0 W L) (hP : ∀ b, W.heap.size ≤ b → P b) : ∀ b, W.heap.size ≤ b → Nw P (OL L) b := fun b hb => ⟨hP b hb, h.notOwn hb⟩
theorem Live.now {C : Array Value} {c : Int} {f : Fr} {x : Int} (hl : Live (Cn P X w0.heap.size) w0 C c f x) (h : Mem X w0 W L) : Live (Nw P (OL L)) W C c f x := (hl.mem (fun b hb => hb.2.1) h).weak fun b hb _ => ⟨hb.1, h.cn hb⟩
theorem Live.step {C : Array Value} {c : Int} {f : Fr} {x : Int} (hl : Live (Cn P X w0.heap.size) w0 C c f x) (h : Mem X w0 W L) : Live (Cn P (OL L) W.heap.size) W C c f x := (hl.mem (fun b hb => hb.2.1) h).weak fun b hb hlt => ⟨hb.1, h.cn hb, hlt⟩
theorem Live.cn {C : Array Value} {c : Int} {f : Fr} {x : Int} (hl : Live (Nw P X) W C c f x) : Live (Cn P X W.heap.size) W C c f x := hl.weak fun b hb hlt => ⟨hb.1, hb.2, hlt⟩
theorem Dead.now {C : Array Value} {c : Int} {l : List Int} (hl : Dead (Cn P X w0.heap.size) w0 C c l) (h : Mem X w0 W L) : Dead (Nw P (OL L)) W C c l := (hl.mem (fun b hb => hb.2.1) h).weak fun b hb _ => ⟨hb.1, h.cn hb⟩
theorem Dead.step {C : Array Value} {c : Int} {l : List Int} (hl : Dead (Cn P X w0.heap.size) w0 C c l) (h : Mem X w0 W L) : Dead (Cn P (OL L) W.heap.size) W C c l := (hl.mem (fun b hb => hb.2.1) h).weak fun b hb hlt => ⟨hb.1, h.cn hb, hlt⟩
theorem Dead.cn {C : Array Value} {c : Int} {l : List Int} (hl : Dead (Nw P X) W C c l) : Dead (Cn P X W.heap.size) W C c l := hl.weak fun b hb hlt => ⟨hb.1, hb.2, hlt⟩
theorem CellsV.mem {v : Value} {l : List Int} (hl : CellsV P w0 v l) (hP : ∀ b, P b → ¬ X b) (h : Mem X w0 W L) : CellsV P W v l := hl.keep fun b hb hlt => h.old b hlt (hP b hb)
theorem CellsV.weak {Q : Nat → Prop} {v : Value} {l : List Int} (hl : CellsV P W v l) (hP : ∀ b, P b → b < W.heap.size → Q b) : CellsV Q W v l := by
  obtain ⟨b, o, cap, rfl, hp, h771, hc, hf⟩ := hl
  have hlt : b < W.heap.size := by
    obtain ⟨z, hz⟩ : ∃ z, l[0]? = some z := ⟨_, List.getElem?_eq_getElem (by omega)⟩
    exact World.block_lt_of_cell? _ _ (hc 0 z hz)
  exact ⟨b, o, cap, rfl, hP b hp hlt, h771, hc, hf⟩
theorem CellsV.now {v : Value} {l : List Int} (hl : CellsV (Cn P X w0.heap.size) w0 v l) (h : Mem X w0 W L) : CellsV (Nw P (OL L)) W v l := (hl.mem (fun b hb => hb.2.1) h).weak fun b hb _ => ⟨hb.1, h.cn hb⟩
theorem CellsV.step {v : Value} {l : List Int} (hl : CellsV (Cn P X w0.heap.size) w0 v l) (h : Mem X w0 W L) : CellsV (Cn P (OL L) W.heap.size) W v l := (hl.mem (fun b hb => hb.2.1) h).weak fun b hb hlt => ⟨hb.1, h.cn hb, hlt⟩
theorem CellsV.cn {v : Value} {l : List Int} (hl : CellsV (Nw P X) W v l) : CellsV (Cn P X W.heap.size) W v l := hl.weak fun b hb hlt => ⟨hb.1, hb.2, hlt⟩
theorem DiskV.mem {v : Value} (hl : DiskV P w0 v) (hP : ∀ b, P b → ¬ X b) (h : Mem X w0 W L) : DiskV P W v := hl.keep fun b hb hlt => h.old b hlt (hP b hb)
theorem DiskV.weak {Q : Nat → Prop} {v : Value} (hl : DiskV P W v) (hP : ∀ b, P b → b < W.heap.size → Q b) : DiskV Q W v := by
  obtain ⟨b, o, cap, rfl, hp, hc⟩ := hl
  exact ⟨b, o, cap, rfl, hP b hp (World.block_lt_of_cell? _ _ (hc 0 (by omega)).1), hc⟩
theorem DiskV.now {v : Value} (hl : DiskV (Cn P X w0.heap.size) w0 v) (h : Mem X w0 W L) : DiskV (Nw P (OL L)) W v := (hl.mem (fun b hb => hb.2.1) h).weak fun b hb _ => ⟨hb.1, h.cn hb⟩
theorem DiskV.step {v : Value} (hl : DiskV (Cn P X w0.heap.size) w0 v) (h : Mem X w0 W L) : DiskV (Cn P (OL L) W.heap.size) W v := (hl.mem (fun b hb => hb.2.1) h).weak fun b hb hlt => ⟨hb.1, h.cn hb, hlt⟩
end
end Go.Proofs.Ytgpdknacnmapiaa
