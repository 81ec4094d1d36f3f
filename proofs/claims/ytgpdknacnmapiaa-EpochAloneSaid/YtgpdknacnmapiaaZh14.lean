/-
  Parts of a proof, put together: Sw, Sg, Hv, Pk0.
-/
import Derived.Test.YtgpdknacnmapiaaZh01
import Derived.Test.YtgpdknacnmapiaaZh02
import Derived.Test.YtgpdknacnmapiaaZh03
import Derived.Test.YtgpdknacnmapiaaZh04
import Derived.Test.YtgpdknacnmapiaaZh05
import Derived.Test.YtgpdknacnmapiaaZh06
import Derived.Test.YtgpdknacnmapiaaZh07
import Derived.Test.YtgpdknacnmapiaaZh08
import Derived.Test.YtgpdknacnmapiaaZh09
import Derived.Test.YtgpdknacnmapiaaZh13
import Derived.Deep.QuietTactic
namespace Go.Proofs.Ytgpdknacnmapiaa
set_option linter.unusedVariables false
set_option linter.unusedSimpArgs false
open Go.RowKit
open Go
theorem norm_rem (a m : Int) (hm : 1 ≤ m ∧ m ≤ 1000) : ∃ S : Nat, (S : Int) < m ∧ (wrap64 (a.tmod m + m)).tmod m = (S : Int) := by
  have h1 := Int.tmod_lt_of_pos a (show 0 < m by omega)
  have h2 := Int.tmod_lt_of_pos (-a) (show 0 < m by omega)
  rw [Int.neg_tmod] at h2
  generalize a.tmod m = t at *
  have e : wrap64 (t + m) = t + m := by unfold wrap64; omega
  rw [e, Int.tmod_eq_emod_of_nonneg (by omega)]
  have h3 := Int.emod_nonneg (t + m) (show m ≠ 0 by omega)
  have h4 := Int.emod_lt_of_pos (t + m) (show 0 < m by omega)
  exact ⟨((t + m) % m).toNat, by omega, by omega⟩
theorem RunV.below {P : Nat → Prop} {R : Nat} {W W' : World} {C : Array Value} {s : RS} {l : List Int} (h : RunV P R W C s l) (hb : Below W.heap.size W W') : RunV P R W' C s l :=
  ⟨h.hb.below hb, h.ra, h.cv.below hb, h.d1.below hb, h.d2.below hb⟩
theorem RunV.weak {P Q : Nat → Prop} {R : Nat} {W : World} {C : Array Value} {s : RS} {l : List Int} (h : RunV P R W C s l) (hPQ : ∀ b, P b → b < W.heap.size → Q b) : RunV Q R W C s l :=
  ⟨h.hb, h.ra, h.cv.weak hPQ, h.d1.weak hPQ, h.d2.weak hPQ⟩
theorem RunV.oth {P : Nat → Prop} {R : Nat} {W W' : World} {C : Array Value} {s : RS} {l : List Int} (h : RunV P R W C s l) (hk : ∀ b, (P b ∨ b = R) → b < W.heap.size → W'.heap[b]? = W.heap[b]?) : RunV P R W' C s l :=
  ⟨h.hb.oth (hk _ (.inr rfl) h.hb.lt), h.ra, h.cv.keep (fun b hb hl => hk b (.inl hb) hl), h.d1.keep (fun b hb hl => hk b (.inl hb) hl), h.d2.keep (fun b hb hl => hk b (.inl hb) hl)⟩
theorem IntsP.keep {P : Nat → Prop} {w w' : World} {v : Value} {l : List Int} (h : IntsP P w v l) (hk : ∀ b, P b → b < w.heap.size → w'.heap[b]? = w.heap[b]?) : IntsP P w' v l := by
  obtain ⟨ao, cap, rfl, hc, hr⟩ := h
  refine ⟨ao, cap, rfl, hc, fun i x hx => ?_⟩
  obtain ⟨b, off, e1, e2, e3⟩ := hr i x hx
  exact ⟨b, off, e1, e2, (World.cell?_of_block (hk b e2 (World.block_lt_of_cell? _ _ e3))).trans e3⟩
theorem IntsP.below {P : Nat → Prop} {w w' : World} {v : Value} {l : List Int} (h : IntsP P w v l) (hb : Below w.heap.size w w') : IntsP P w' v l := h.keep fun b _ hl => hb.block b hl
theorem below_drew (w : World) : Below w.heap.size w w.drew := ⟨rfl, rfl, rfl, Nat.le_refl _, fun _ _ => rfl⟩
/-- numbers in a slice of one's own, above R -/
def AllV (R : Nat) (W : World) (v : Value) (hs : List Int) : Prop := W.ownsRow (R + 1) 3 1 v hs.length (hs.map (Value.int .i64))
theorem AllV.nil (R : Nat) (W : World) : AllV R W (.slice none 0 0) [] := World.ownsRow_nil _ _ _ _
theorem AllV.lt {R : Nat} {W : World} {v : Value} {hs : List Int} (h : AllV R W v hs) : ∀ b, some b = v.ownBlock → R < b ∧ b < W.heap.size := fun b hb => by
  have := World.ownsRow.lt h b hb.symm
  omega
theorem AllV.keep {R : Nat} {W W' : World} {v : Value} {hs : List Int} (h : AllV R W v hs) (hk : ∀ b, R < b → b < W.heap.size → W'.heap[b]? = W.heap[b]?) : AllV R W' v hs := by
  refine ⟨h.1, ?_⟩
  rcases h.2 with hn | ⟨g, cap, cur, rfl, hb, hgg, rest⟩
  · exact .inl hn
  · exact .inr ⟨g, cap, cur, rfl, hb, by rw [hk g (by omega) (Array.getElem?_eq_some_iff.1 hgg).1]; exact hgg, rest⟩
theorem AllV.below {R : Nat} {W W' : World} {v : Value} {hs : List Int} (h : AllV R W v hs) (hb : Below W.heap.size W W') : AllV R W' v hs := h.keep fun b _ hl => hb.block b hl
theorem AllV.get {R : Nat} {W : World} {v : Value} {hs : List Int} (h : AllV R W v hs) (i : Nat) (x : Int) (hx : hs[i]? = some x) : ∃ g cap, v = .slice (some ⟨g, 0, none⟩) hs.length cap ∧ W.cell? ⟨g, i, none⟩ = some (.int .i64 x) := by
  rcases h.2 with ⟨_, h0⟩ | ⟨g, cap, cur, rfl, hb, hgg, _, _, _, htake⟩
  · have : i < hs.length := (List.getElem?_eq_some_iff.1 hx).1
    omega
  · refine ⟨g, cap, rfl, ?_⟩
    have := World.ownsRow.cells h (g := g) rfl i (.int .i64 x) (by simp [hx])
    rwa [Addr.add_lit, Nat.zero_add] at this
section
variable {ops : Array Oper} {rest : List Oper} {o : Oper} {a : Act} {w : World} {Q : Exit → Act → World → Prop} {K : Act → World → Prop}
theorem wpO_cell (ty : TypeId) (x y : Operand) (ho : o.op = .store ty x y) (hd : o.dst = none) (hsz : ∀ w, (sizeOf ty).run Try.prog w = .ok 1 w) (b i : Nat) (n : Int) (hx : a.eval x = .pointer (some ⟨b, i, none⟩)) (hy : a.eval y = .int .i64 n) (C0 : Array Value) (t : TypeId) (hb : HB w b C0 t) (hi : i < C0.size)
    (h : ∀ W, (∀ B, B ≤ b → Below B w W) → (∀ k, k ≠ b → W.heap[k]? = w.heap[k]?) → HB W b (C0.setIfInBounds i (.int .i64 n)) t → W.heap.size = w.heap.size → K a W) : o.wp Try.prog a w K Q := by
  have hc := hb.cell (Array.getElem?_eq_getElem hi)
  have hf : w.frozen? ⟨b, i, none⟩ = false := hb.fro
  have h' := h _ (fun B hB => below_set (Below.refl _ _) _ hB _) (fun k hk => heap_setCell_other _ _ _ _ (fun e => hk e)) (Go.heap_setCell_same _ _ _ _ _ _ hb) (World.size_setCell _ _ _)
  unfold Oper.wp execOp
  simp only [ho, hx, hy]
  simp [go_sem, hc, hf, Instr.storeAt, storeVar, hsz]
  have e : a.put o.dst undef = a := by rw [hd]; rfl
  show K (a.put o.dst undef) _
  rw [e]
  exact h'
end
end Go.Proofs.Ytgpdknacnmapiaa
namespace Go.Proofs.Ytgpdknacnmapiaa
set_option linter.unusedVariables false
set_option linter.unusedSimpArgs false
open Go.RowKit
open Go
/-- the cells of generations hold small numbers -/
def GenOK (l : List Int) : Prop := ∀ (s : Int) (b : Bool) (k : Nat) (y : Int), genC s b = (k : Int) → l[k]? = some y → 0 ≤ y ∧ y ≤ 4095
theorem GenOK.set {l : List Int} (h : GenOK l) (k : Nat) (v : Int) (hv : 0 ≤ v ∧ v ≤ 4095) : GenOK (l.set k v) := by
  intro s b k2 y hk hy
  rw [List.getElem?_set] at hy
  by_cases e : k = k2
  · rw [if_pos e] at hy
    split at hy
    · injection hy with hy; omega
    · cases hy
  · rw [if_neg e] at hy
    exact h s b k2 y hk hy
section
variable {P : Nat → Prop} {f : Fr} {x : Int} {j : Nat} {l : List Int}
end
end Go.Proofs.Ytgpdknacnmapiaa
namespace Go.Proofs.Ytgpdknacnmapiaa
set_option linter.unusedVariables false
set_option linter.unusedSimpArgs false
open Go.RowKit
/-- what a client's place holds: its slices (2c: handles, 2c+1: nodes), what it does -/
structure HV where
  sl : Nat → Value
  dc : Nat → Int
  dd : Nat → Int
  dn : Nat → Int
structure HavA (C : Array Value) (h : HV) : Prop where
  size : C.size = 20
  hl : ∀ c, c < 4 → C[c * 5]? = some (h.sl (2 * c))
  nl : ∀ c, c < 4 → C[c * 5 + 1]? = some (h.sl (2 * c + 1))
  dc : ∀ c, c < 4 → C[c * 5 + 2]? = some (.int .i64 (h.dc c))
  dd : ∀ c, c < 4 → C[c * 5 + 3]? = some (.int .i64 (h.dd c))
  dn : ∀ c, c < 4 → C[c * 5 + 4]? = some (.int .i64 (h.dn c))
def HV.setS (h : HV) (i : Nat) (v : Value) : HV := { h with sl := upd h.sl i v }
theorem HavA.setH {C : Array Value} {h : HV} (hA : HavA C h) (c : Nat) (hc : c < 4) (v : Value) : HavA (C.setIfInBounds (c * 5) v) (h.setS (2 * c) v) := by
  have hs := hA.size
  refine ⟨by simp [hs], fun d hd => ?_, fun d hd => ?_, fun d hd => ?_, fun d hd => ?_, fun d hd => ?_⟩ <;> simp only [HV.setS, upd] <;> rw [Array.getElem?_setIfInBounds]
  · by_cases e : d = c
    · subst e; rw [if_pos rfl, if_pos (by omega), if_pos rfl]
    · rw [if_neg (by omega), if_neg (by omega)]; exact hA.hl d hd
  · rw [if_neg (by omega), if_neg (by omega)]; exact hA.nl d hd
  · rw [if_neg (by omega)]; exact hA.dc d hd
  · rw [if_neg (by omega)]; exact hA.dd d hd
  · rw [if_neg (by omega)]; exact hA.dn d hd
end Go.Proofs.Ytgpdknacnmapiaa
namespace Go.Proofs.Ytgpdknacnmapiaa
set_option linter.unusedVariables false
set_option linter.unusedSimpArgs false
open Go.RowKit
/-- blocks that are neither the run's, nor the clients', nor their slices' -/
def PH (R H : Nat) (h : HV) : Nat → Prop := fun b => b ≠ R ∧ b ≠ H ∧ ∀ i, i < 8 → (h.sl i).ownBlock ≠ some b
/-- a call that changes one of the blocks alone -/
theorem Mem.upR {X : Nat → Prop} {w0 W W' : World} {L : List (Nat × Array Value × TypeId)} {i R : Nat} {C C' : Array Value} {t : TypeId} (h : Mem X w0 W L) (hi : L[i]? = some (R, C, t)) (h2 : Mem (fun b => b = R) W W' [(R, C', t)]) : Mem X w0 W' (L.set i (R, C', t)) := by
  have hset : ∀ (j b2 : Nat) (C2 : Array Value) (t2 : TypeId), (L.set i (R, C', t))[j]? = some (b2, C2, t2) → (j = i ∧ b2 = R ∧ C2 = C' ∧ t2 = t) ∨ (j ≠ i ∧ L[j]? = some (b2, C2, t2)) := by
    intro j b2 C2 t2 hj
    rw [List.getElem?_set] at hj
    by_cases e : i = j
    · subst e
      have hl : i < L.length := (List.getElem?_eq_some_iff.1 hi).1
      rw [if_pos rfl, if_pos hl] at hj
      simp at hj
      exact .inl ⟨rfl, hj.1.symm, hj.2.1.symm, hj.2.2.symm⟩
    · rw [if_neg e] at hj
      exact .inr ⟨fun e2 => e e2.symm, hj⟩
  refine ⟨h2.os.trans h.os, h2.tape.trans h.tape, h2.output.trans h.output, Nat.le_trans h.size h2.size, fun k hk hx => ?_, fun j b2 C2 t2 hj => ?_, fun j b2 C2 t2 hj => ?_, fun j1 j2 b2 C1 C2 t1 t2 hj1 hj2 => ?_⟩
  · have : k ≠ R := by
      rintro rfl
      rcases h.st i _ _ _ hi with hx' | hx'
      · exact hx hx'
      · omega
    exact (h2.old k (Nat.lt_of_lt_of_le hk h.size) this).trans (h.old k hk hx)
  · rcases hset j b2 C2 t2 hj with ⟨rfl, rfl, rfl, rfl⟩ | ⟨hne, hk⟩
    · exact h2.hb 0 _ _ _ rfl
    · exact (h.hb j b2 C2 t2 hk).oth (h2.old b2 (h.lt hk) (by rintro rfl; exact hne (h.nd j i _ _ _ _ _ hk hi)))
  · rcases hset j b2 C2 t2 hj with ⟨rfl, rfl, rfl, rfl⟩ | ⟨hne, hk⟩
    · exact h.st _ _ _ _ hi
    · exact h.st _ _ _ _ hk
  · rcases hset j1 b2 C1 t1 hj1 with ⟨rfl, rfl, rfl, rfl⟩ | ⟨hne, hk1⟩
    · rcases hset j2 _ C2 t2 hj2 with ⟨rfl, _, _, _⟩ | ⟨hne2, hk2⟩
      · rfl
      · exact absurd (h.nd j2 _ _ _ _ _ _ hk2 hi) hne2
    · rcases hset j2 _ C2 t2 hj2 with ⟨rfl, rfl, rfl, rfl⟩ | ⟨hne2, hk2⟩
      · exact absurd (h.nd j1 _ _ _ _ _ _ hk1 hi) hne
      · exact h.nd _ _ _ _ _ _ _ hk1 hk2
theorem run_bsI3 (x y z : Int) (w : World) : (Instr.buildSlice 30 3 #[(0, .int .i64 x), (1, .int .i64 y), (2, .int .i64 z)]).run Try.prog w = .ok (.slice (some ⟨w.heap.size, 0, none⟩) 3 3) (w.alloc (.cells #[.int .i64 x, .int .i64 y, .int .i64 z] 3)) := by kernel_rfl
section
variable {X : Nat → Prop} {w0 w : World} {L : List (Nat × Array Value × TypeId)} {ops : Array Oper} {rest : List Oper} {o : Oper} {a : Act} {Q : Exit → Act → World → Prop} {K : Act → World → Prop}
theorem wpm_bsI3 (HM : Hid (Mem X w0 w L)) (hg : o.guard = none) (p q r : Operand) (ho : o.op = .buildSlice 30 3 #[(0, p), (1, q), (2, r)]) (x y z : Int) (hp : a.eval p = .int .i64 x) (hq : a.eval q = .int .i64 y) (hr : a.eval r = .int .i64 z)
    (h : ∀ W, Hid (Mem X w0 W (L ++ [(w.heap.size, #[.int .i64 x, .int .i64 y, .int .i64 z], 3)])) → wpList Try.prog ops Q rest (a.put o.dst (.slice (some ⟨w.heap.size, 0, none⟩) 3 3)) W) : wpList Try.prog ops Q (o :: rest) a w := by
  refine wpList_plain hg fun K hK => ?_
  unfold Oper.wp execOp
  simp only [ho]
  have hr' := run_bsI3 x y z w
  simp [hp, hq, hr, hr', Sem.run_bind]
  exact hK _ _ (h _ (Lib.hid (HM.out.alloc _ _)))
end
/-- the slices of the clients -/
structure OwnV (B : Nat) (W : World) (h : HV) (hs : Nat → List Int) (ns : Nat → List Bool) : Prop where
  hl : ∀ c, c < 4 → W.ownsRow B 3 1 (h.sl (2 * c)) (hs c).length ((hs c).map (Value.int .i64))
  nl : ∀ c, c < 4 → W.ownsRow B 4 1 (h.sl (2 * c + 1)) (ns c).length ((ns c).map Value.bool)
  ds : ∀ i j b, i < 8 → j < 8 → i ≠ j → (h.sl i).ownBlock = some b → (h.sl j).ownBlock ≠ some b
theorem OwnV.lt {B : Nat} {W : World} {h : HV} {hs : Nat → List Int} {ns : Nat → List Bool} (ho : OwnV B W h hs ns) (i : Nat) (hi : i < 8) (b : Nat) (hb : (h.sl i).ownBlock = some b) : B ≤ b ∧ b < W.heap.size := by
  rcases Nat.mod_two_eq_zero_or_one i with h0 | h0
  · obtain ⟨c, rfl⟩ : ∃ c, i = 2 * c := ⟨i / 2, by omega⟩
    exact World.ownsRow.lt (ho.hl c (by omega)) b hb
  · obtain ⟨c, rfl⟩ : ∃ c, i = 2 * c + 1 := ⟨i / 2, by omega⟩
    exact World.ownsRow.lt (ho.nl c (by omega)) b hb
theorem PH.hP {R H B : Nat} {W : World} {h : HV} {hs : Nat → List Int} {ns : Nat → List Bool} (hR : R < W.heap.size) (hH : H < W.heap.size) (ho : OwnV B W h hs ns) {n : Nat} (hn : W.heap.size ≤ n) : ∀ b, n ≤ b → PH R H h b := fun b hb => ⟨by omega, by omega, fun i hi e => by have := ho.lt i hi b e; omega⟩
theorem OwnV.keep {B : Nat} {W W' : World} {h : HV} {hs : Nat → List Int} {ns : Nat → List Bool} (ho : OwnV B W h hs ns) (hk : ∀ b, B ≤ b → b < W.heap.size → W'.heap[b]? = W.heap[b]?) : OwnV B W' h hs ns := by
  have key : ∀ {e : TypeId} {v : Value} {n : Nat} {xs : List Value}, W.ownsRow B e 1 v n xs → W'.ownsRow B e 1 v n xs := fun {e v n xs} h => by
    refine ⟨h.1, ?_⟩
    rcases h.2 with hn | ⟨g, cap, cur, rfl, hb, hgg, rest⟩
    · exact .inl hn
    · exact .inr ⟨g, cap, cur, rfl, hb, by rw [hk g hb (Array.getElem?_eq_some_iff.1 hgg).1]; exact hgg, rest⟩
  exact ⟨fun c hc => key (ho.hl c hc), fun c hc => key (ho.nl c hc), ho.ds⟩
theorem ol_lt {X : Nat → Prop} {w0 W : World} {L : List (Nat × Array Value × TypeId)} (hM : Mem X w0 W L) {b : Nat} (hb : b < w0.heap.size) (hX : ¬ X b) : ¬ OL L b := by
  rintro ⟨i, C, t, hi⟩
  rcases hM.st i _ _ _ hi with h | h
  · exact hX h
  · omega
/-- a run's facts, at a later world whose own blocks are told -/
theorem RunV.mem {R H : Nat} {h : HV} {w W : World} {C : Array Value} {s : RS} {l : List Int} {L : List (Nat × Array Value × TypeId)} (hr : RunV (PH R H h) R w C s l) (hM : Mem (fun b => b = R ∨ b = H) w W L) (hR : HB W R C 74) : RunV (fun b => PH R H h b ∧ ¬ OL L b) R W C s l := by
  have hX : ∀ b, PH R H h b → ¬ (b = R ∨ b = H) := fun b hb e => by rcases e with e | e; exact hb.1 e; exact hb.2.1 e
  have h1 := hr.weak (Q := fun b => PH R H h b ∧ ¬ OL L b) (fun b hb hlt => ⟨hb, ol_lt hM hlt (hX b hb)⟩)
  refine h1.oth (fun b hb hlt => ?_)
  rcases hb with hb | rfl
  · exact hM.old b hlt (hX b hb.1)
  · exact hR.trans hr.hb.symm
theorem RunV.out {R H : Nat} {h : HV} {w W : World} {C C' : Array Value} {s : RS} {l : List Int} {L L2 : List (Nat × Array Value × TypeId)} (hr : RunV (fun b => PH R H h b ∧ ¬ OL L b) R w C s l) (hM : Mem (OL L) w W L2) (hR : HB W R C 74) : RunV (PH R H h) R W C s l := by
  refine (hr.oth (W' := W) (fun b hb hlt => ?_)).weak (fun b hb _ => hb.1)
  rcases hb with hb | rfl
  · exact hM.old b hlt hb.2
  · exact hR.trans hr.hb.symm
end Go.Proofs.Ytgpdknacnmapiaa
