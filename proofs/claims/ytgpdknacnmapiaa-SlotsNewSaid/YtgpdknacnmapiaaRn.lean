/-
  A run's block: a world, two tasks of each client, who is busy (chapters 13, 14).
-/
import Derived.Test.YtgpdknacnmapiaaDn
import Derived.Test.YtgpdknacnmapiaaNw
namespace Go.Proofs.Ytgpdknacnmapiaa
set_option linter.unusedVariables false
set_option linter.unusedSimpArgs false
open Go.RowKit
/-- cells from o on are set -/
def setAll : Array Value → Nat → List Value → Array Value
  | C, _, [] => C
  | C, o, v :: vs => setAll (C.setIfInBounds o v) (o + 1) vs
theorem setAll_size (vs : List Value) : ∀ (C : Array Value) (o : Nat), (setAll C o vs).size = C.size := by
  induction vs with
  | nil => intro C o; rfl
  | cons v vs ih => intro C o; simp only [setAll]; rw [ih]; simp
theorem setAll_out (vs : List Value) : ∀ (C : Array Value) (o k : Nat), (k < o ∨ o + vs.length ≤ k) → (setAll C o vs)[k]? = C[k]? := by
  induction vs with
  | nil => intro C o k h; rfl
  | cons v vs ih =>
    intro C o k h
    simp only [setAll, List.length_cons] at h ⊢
    rw [ih _ _ _ (by omega), Array.getElem?_setIfInBounds, if_neg (by omega)]
theorem setAll_in (vs : List Value) : ∀ (C : Array Value) (o j : Nat), o + vs.length ≤ C.size → j < vs.length → (setAll C o vs)[o + j]? = vs[j]? := by
  induction vs with
  | nil => intro C o j h hj; simp at hj
  | cons v vs ih =>
    intro C o j h hj
    simp only [setAll, List.length_cons] at h hj ⊢
    cases j with
    | zero => rw [setAll_out _ _ _ _ (by omega), Array.getElem?_setIfInBounds, Nat.add_zero, if_pos rfl, if_pos (by omega)]; rfl
    | succ j =>
      have := ih (C.setIfInBounds o v) (o + 1) j (by simp; omega) (by omega)
      rw [show o + (j + 1) = o + 1 + j by omega, this]; rfl
theorem HB.setCells (vs : List Value) : ∀ (w : World) (b o : Nat) (C : Array Value) (t : TypeId), HB w b C t → HB (w.setCells b o vs) b (setAll C o vs) t := by
  induction vs with
  | nil => intro w b o C t h; exact h
  | cons v vs ih => intro w b o C t h; exact ih _ _ _ _ _ (Go.heap_setCell_same _ _ _ _ _ _ h)
theorem setCells_oth (vs : List Value) : ∀ (w : World) (b o k : Nat), k ≠ b → (w.setCells b o vs).heap[k]? = w.heap[k]? := by
  induction vs with
  | nil => intro w b o k h; rfl
  | cons v vs ih => intro w b o k h; exact (ih _ _ _ _ h).trans (heap_setCell_other _ _ _ _ h)
theorem setCells_size (vs : List Value) : ∀ (w : World) (b o : Nat), (w.setCells b o vs).heap.size = w.heap.size := by
  induction vs with
  | nil => intro w b o; rfl
  | cons v vs ih => intro w b o; exact (ih _ _ _).trans (World.size_setCell _ _ _)
theorem below_setCells (vs : List Value) : ∀ (w : World) (b o : Nat) (B : Nat), B ≤ b → Below B w (w.setCells b o vs) := by
  induction vs with
  | nil => intro w b o B h; exact Below.refl _ _
  | cons v vs ih => intro w b o B h; exact (below_set (Below.refl _ _) _ h _).trans ((ih _ _ _ _ h).mono (Nat.le_refl _))
section
variable {X : Nat → Prop} {w0 w : World} {L : List (Nat × Array Value × TypeId)} {ops : Array Oper} {rest : List Oper} {o : Oper} {a : Act} {Q : Exit → Act → World → Prop} {K : Act → World → Prop}
theorem Mem.stm (HM : Mem X w0 w L) {i b : Nat} {C : Array Value} {t : TypeId} (hi : L[i]? = some (b, C, t)) (p : Nat) (vs : List Value) : Mem X w0 (w.setCells b p vs) (L.set i (b, setAll C p vs, t)) :=
  HM.upd hi (fun B hB => below_setCells _ _ _ _ _ hB) (fun k hk => setCells_oth _ _ _ _ _ hk) (setCells_size _ _ _ _) (HB.setCells _ _ _ _ _ _ (HM.hb i b C t hi))
theorem Mem.there (HM : Mem X w0 w L) {i b : Nat} {C : Array Value} {t : TypeId} (hi : L[i]? = some (b, C, t)) (p n : Nat) (hp : p + n ≤ C.size) : w.there b p n := fun j hj =>
  ⟨by rw [(HM.hb i b C t hi).cell (Array.getElem?_eq_getElem (show p + j < C.size by omega))]; rfl, (HM.hb i b C t hi).fro⟩
theorem wpm_ldm (HM : Hid (Mem X w0 w L)) (hg : o.guard = none) (t : TypeId) (x : Operand) (ho : o.op = .load t x) (i p : Nat) {b : Nat} {C : Array Value} {t0 : TypeId} (hi : L[i]? = some (b, C, t0)) (hx : a.eval x = .pointer (some ⟨b, p, none⟩)) (S : Array Value) (hS : ∀ (j : Nat) (v : Value), S[j]? = some v → C[p + j]? = some v) (n : Nat) (hu : ∃ fs, Try.prog.underlying t = some (.struct fs)) (hn : (Try.prog.info? t).map (·.size) = some n) (hs : S.size = n)
    (h : wpList Try.prog ops Q rest (a.put o.dst (.agg S)) w) : wpList Try.prog ops Q (o :: rest) a w := by
  obtain ⟨fs, hu⟩ := hu
  exact wpList_load_mid hg t x ho b p hx S.toList (.struct fs) (fun j v hv => (HM.out.hb i b C t0 hi).cell (hS j v (by simpa using hv))) hu rfl (by rw [hn]; simp [hs]) (by simpa using h)
theorem wpm_stm (HM : Hid (Mem X w0 w L)) (hg : o.guard = none) (t : TypeId) (x y : Operand) (ho : o.op = .store t x y) (i p : Nat) {b : Nat} {C : Array Value} {t0 : TypeId} (hi : L[i]? = some (b, C, t0)) (S : Array Value) (hx : a.eval x = .pointer (some ⟨b, p, none⟩)) (hy : a.eval y = .agg S) (n : Nat) (hn : (Try.prog.info? t).map (·.size) = some n) (hs : S.size = n) (hp : p + n ≤ C.size) (h1 : S.all (·.oneCell') = true)
    (h : ∀ W, Hid (Mem X w0 W (L.set i (b, setAll C p S.toList, t0))) → wpList Try.prog ops Q rest (a.put o.dst undef) W) : wpList Try.prog ops Q (o :: rest) a w :=
  wpList_store_mid hg t x y ho b p S hx hy (HM.out.there hi p _ (by rw [hs]; exact hp)) (by rw [hn, hs]) h1 (h _ (Lib.hid (HM.out.stm hi p S.toList)))
theorem wpOm_stm (HM : Hid (Mem X w0 w L)) (t : TypeId) (x y : Operand) (ho : o.op = .store t x y) (hd : o.dst = none) (i p : Nat) {b : Nat} {C : Array Value} {t0 : TypeId} (hi : L[i]? = some (b, C, t0)) (S : Array Value) (hx : a.eval x = .pointer (some ⟨b, p, none⟩)) (hy : a.eval y = .agg S) (n : Nat) (hn : (Try.prog.info? t).map (·.size) = some n) (hs : S.size = n) (hp : p + n ≤ C.size) (h1 : S.all (·.oneCell') = true)
    (h : ∀ W, Hid (Mem X w0 W (L.set i (b, setAll C p S.toList, t0))) → K a W) : o.wp Try.prog a w K Q :=
  wp_store_mid t x y ho b p S hx hy (HM.out.there hi p _ (by rw [hs]; exact hp)) (by rw [hn, hs]) h1 (by rw [hd]; exact h _ (Lib.hid (HM.out.stm hi p S.toList)))
end
/-- what a run's block holds -/
structure RS where
  w : Nat → Value
  m : Nat → Array Value
  h : Nat → Array Value
  b : Nat → Bool
structure RunA (C : Array Value) (s : RS) : Prop where
  size : C.size = 39
  w : ∀ j, j < 3 → C[j]? = some (s.w j)
  m : ∀ c j, c < 4 → j < 4 → C[3 + c * 4 + j]? = (s.m c)[j]?
  h : ∀ c j, c < 4 → j < 4 → C[19 + c * 4 + j]? = (s.h c)[j]?
  b : ∀ c, c < 4 → C[35 + c]? = some (.bool (s.b c))
def upd {α : Type} (f : Nat → α) (c : Nat) (v : α) : Nat → α := fun k => if k = c then v else f k
def RS.setM (s : RS) (c : Nat) (T : Array Value) : RS := { s with m := upd s.m c T }
def RS.setH (s : RS) (c : Nat) (T : Array Value) : RS := { s with h := upd s.h c T }
def RS.setB (s : RS) (c : Nat) (y : Bool) : RS := { s with b := upd s.b c y }
def RS.setW (s : RS) (f : Nat → Value) : RS := { s with w := f }
theorem RunA.setM {C : Array Value} {s : RS} (h : RunA C s) (c : Nat) (hc : c < 4) (T : Array Value) (hT : T.size = 4) : RunA (setAll C (3 + c * 4) T.toList) (s.setM c T) := by
  have hl : T.toList.length = 4 := by simpa using hT
  have hs := h.size
  refine ⟨by rw [setAll_size, hs], fun j hj => ?_, fun c2 j hc2 hj => ?_, fun c2 j hc2 hj => ?_, fun c2 hc2 => ?_⟩
  · rw [setAll_out _ _ _ _ (by omega)]; exact h.w j hj
  · simp only [RS.setM, upd]
    by_cases e : c2 = c
    · subst e; rw [if_pos rfl, setAll_in _ _ _ _ (by omega) (by omega)]; simp
    · rw [if_neg e, setAll_out _ _ _ _ (by omega)]; exact h.m c2 j hc2 hj
  · rw [setAll_out _ _ _ _ (by omega)]; exact h.h c2 j hc2 hj
  · rw [setAll_out _ _ _ _ (by omega)]; exact h.b c2 hc2
theorem RunA.setH {C : Array Value} {s : RS} (h : RunA C s) (c : Nat) (hc : c < 4) (T : Array Value) (hT : T.size = 4) : RunA (setAll C (19 + c * 4) T.toList) (s.setH c T) := by
  have hl : T.toList.length = 4 := by simpa using hT
  have hs := h.size
  refine ⟨by rw [setAll_size, hs], fun j hj => ?_, fun c2 j hc2 hj => ?_, fun c2 j hc2 hj => ?_, fun c2 hc2 => ?_⟩
  · rw [setAll_out _ _ _ _ (by omega)]; exact h.w j hj
  · rw [setAll_out _ _ _ _ (by omega)]; exact h.m c2 j hc2 hj
  · simp only [RS.setH, upd]
    by_cases e : c2 = c
    · subst e; rw [if_pos rfl, setAll_in _ _ _ _ (by omega) (by omega)]; simp
    · rw [if_neg e, setAll_out _ _ _ _ (by omega)]; exact h.h c2 j hc2 hj
  · rw [setAll_out _ _ _ _ (by omega)]; exact h.b c2 hc2
theorem RunA.setB {C : Array Value} {s : RS} (h : RunA C s) (c : Nat) (hc : c < 4) (y : Bool) : RunA (C.setIfInBounds (35 + c) (.bool y)) (s.setB c y) := by
  have hs := h.size
  refine ⟨by simp [hs], fun j hj => ?_, fun c2 j hc2 hj => ?_, fun c2 j hc2 hj => ?_, fun c2 hc2 => ?_⟩
  · rw [Array.getElem?_setIfInBounds, if_neg (by omega)]; exact h.w j hj
  · rw [Array.getElem?_setIfInBounds, if_neg (by omega)]; exact h.m c2 j hc2 hj
  · rw [Array.getElem?_setIfInBounds, if_neg (by omega)]; exact h.h c2 j hc2 hj
  · simp only [RS.setB, upd]
    rw [Array.getElem?_setIfInBounds]
    by_cases e : c2 = c
    · subst e; rw [if_pos rfl, if_pos (by omega), if_pos rfl]
    · rw [if_neg (by omega), if_neg e]; exact h.b c2 hc2
theorem RunA.setW {C : Array Value} {s : RS} (h : RunA C s) (f : Nat → Value) : RunA (setAll C 0 [f 0, f 1, f 2]) (s.setW f) := by
  have hs := h.size
  refine ⟨by rw [setAll_size, hs], fun j hj => ?_, fun c2 j hc2 hj => ?_, fun c2 j hc2 hj => ?_, fun c2 hc2 => ?_⟩
  · have := setAll_in [f 0, f 1, f 2] C 0 j (by simp; omega) (by simpa using hj)
    rw [Nat.zero_add] at this
    rw [this]
    match j, hj with
    | 0, _ => rfl
    | 1, _ => rfl
    | 2, _ => rfl
  · rw [setAll_out _ _ _ _ (by simp; omega)]; exact h.m c2 j hc2 hj
  · rw [setAll_out _ _ _ _ (by simp; omega)]; exact h.h c2 j hc2 hj
  · rw [setAll_out _ _ _ _ (by simp; omega)]; exact h.b c2 hc2
theorem RunA.getM {C : Array Value} {s : RS} (h : RunA C s) (c : Nat) (hc : c < 4) {T : Array Value} (hT : s.m c = T) (h4 : T.size = 4) : ∀ (j : Nat) (v : Value), T[j]? = some v → C[3 + c * 4 + j]? = some v := fun j v hv => by
  have hj : j < 4 := by have := (Array.getElem?_eq_some_iff.1 hv).1; omega
  rw [h.m c j hc hj, hT]; exact hv
theorem RunA.getH {C : Array Value} {s : RS} (h : RunA C s) (c : Nat) (hc : c < 4) {T : Array Value} (hT : s.h c = T) (h4 : T.size = 4) : ∀ (j : Nat) (v : Value), T[j]? = some v → C[19 + c * 4 + j]? = some v := fun j v hv => by
  have hj : j < 4 := by have := (Array.getElem?_eq_some_iff.1 hv).1; omega
  rw [h.h c j hc hj, hT]; exact hv
end Go.Proofs.Ytgpdknacnmapiaa
