/-
  A run's block: what is stored into it (chapters 13, 14).
-/
import Derived.Test.YtgpdknacnmapiaaCn
namespace Go.Proofs.Ytgpdknacnmapiaa
set_option linter.unusedVariables false
set_option linter.unusedSimpArgs false
open Go.RowKit
section
variable {X : Nat → Prop} {w0 w : World} {L : List (Nat × Array Value × TypeId)} {ops : Array Oper} {rest : List Oper} {o : Oper} {a : Act} {Q : Exit → Act → World → Prop} {K : Act → World → Prop} {s : RS} {C : Array Value} {t0 : TypeId}
theorem wpOm_stM (HM : Hid (Mem X w0 w L)) (HA : Hid (RunA C s)) (x y : Operand) (ho : o.op = .store 38 x y) (hd : o.dst = none) (i : Nat) {b : Nat} (hi : L[i]? = some (b, C, t0)) (c : Nat) (hc : c < 4) (T : Array Value) (hx : a.eval x = .pointer (some ⟨b, 3 + c * 4, none⟩)) (hy : a.eval y = .agg T) (hT : TaskC T)
    (h : ∀ W C', Hid (RunA C' (s.setM c T)) → Hid (Mem X w0 W (L.set i (b, C', t0))) → K a W) : o.wp Try.prog a w K Q :=
  wpOm_stm HM 38 x y ho hd i _ hi T hx hy 4 inf38 hT.size (by rw [HA.out.size]; omega) hT.one fun W hM => h W _ (Lib.hid (HA.out.setM c hc T hT.size)) hM
theorem wpOm_stH (HM : Hid (Mem X w0 w L)) (HA : Hid (RunA C s)) (x y : Operand) (ho : o.op = .store 38 x y) (hd : o.dst = none) (i : Nat) {b : Nat} (hi : L[i]? = some (b, C, t0)) (c : Nat) (hc : c < 4) (T : Array Value) (hx : a.eval x = .pointer (some ⟨b, 19 + c * 4, none⟩)) (hy : a.eval y = .agg T) (hT : TaskC T)
    (h : ∀ W C', Hid (RunA C' (s.setH c T)) → Hid (Mem X w0 W (L.set i (b, C', t0))) → K a W) : o.wp Try.prog a w K Q :=
  wpOm_stm HM 38 x y ho hd i _ hi T hx hy 4 inf38 hT.size (by rw [HA.out.size]; omega) hT.one fun W hM => h W _ (Lib.hid (HA.out.setH c hc T hT.size)) hM
theorem wpm_stB (HM : Hid (Mem X w0 w L)) (HA : Hid (RunA C s)) (hg : o.guard = none) (x y : Operand) (ho : o.op = .store 4 x y) (i : Nat) {b : Nat} (hi : L[i]? = some (b, C, t0)) (c : Nat) (hc : c < 4) (z : Bool) (hx : a.eval x = .pointer (some ⟨b, 35 + c, none⟩)) (hy : a.eval y = .bool z)
    (h : ∀ W C', Hid (RunA C' (s.setB c z)) → Hid (Mem X w0 W (L.set i (b, C', t0))) → wpList Try.prog ops Q rest (a.put o.dst undef) W) : wpList Try.prog ops Q (o :: rest) a w :=
  wpm_cell HM hg 4 x y ho Try.sizeOf4 i (35 + c) hi (.bool z) hx hy (.inr (.inl ⟨_, rfl⟩)) (by rw [HA.out.size]; omega) _ rfl fun W hM => h W _ (Lib.hid (HA.out.setB c hc z)) hM
theorem wpm_stW (HM : Hid (Mem X w0 w L)) (HA : Hid (RunA C s)) (hg : o.guard = none) (x y : Operand) (ho : o.op = .store 35 x y) (i : Nat) {b : Nat} (hi : L[i]? = some (b, C, t0)) (ao bo co : Option Addr) (n c n2 c2 n3 c3 : Nat) (hx : a.eval x = .pointer (some ⟨b, 0, none⟩)) (hy : a.eval y = .agg #[.slice ao n c, .slice bo n2 c2, .slice co n3 c3]) (f : Nat → Value) (h0 : f 0 = .slice ao n c) (h1 : f 1 = .slice bo n2 c2) (h2 : f 2 = .slice co n3 c3)
    (h : ∀ W C', Hid (RunA C' (s.setW f)) → Hid (Mem X w0 W (L.set i (b, C', t0))) → wpList Try.prog ops Q rest (a.put o.dst undef) W) : wpList Try.prog ops Q (o :: rest) a w :=
  wpm_stm HM hg 35 x y ho i 0 hi _ hx hy 3 inf35 rfl (by rw [HA.out.size]; omega) (w35_one _ _ _ _ _ _ _ _ _) fun W hM => h W _ (Lib.hid (by have := HA.out.setW f; rw [h0, h1, h2] at this; exact this)) hM
/-- one's task is loaded -/
theorem wpm_ldM (HM : Hid (Mem X w0 w L)) (HA : Hid (RunA C s)) (hg : o.guard = none) (x : Operand) (ho : o.op = .load 38 x) (i : Nat) {b : Nat} (hi : L[i]? = some (b, C, t0)) (c : Nat) (hc : c < 4) (hx : a.eval x = .pointer (some ⟨b, 3 + c * 4, none⟩)) (T : Array Value) (hT : s.m c = T) (hTC : TaskC T)
    (h : wpList Try.prog ops Q rest (a.put o.dst (.agg T)) w) : wpList Try.prog ops Q (o :: rest) a w :=
  wpm_ldm HM hg 38 x ho i _ hi hx T (HA.out.getM c hc hT hTC.size) 4 und38 inf38 hTC.size h
theorem wpm_ldH (HM : Hid (Mem X w0 w L)) (HA : Hid (RunA C s)) (hg : o.guard = none) (x : Operand) (ho : o.op = .load 38 x) (i : Nat) {b : Nat} (hi : L[i]? = some (b, C, t0)) (c : Nat) (hc : c < 4) (hx : a.eval x = .pointer (some ⟨b, 19 + c * 4, none⟩)) (T : Array Value) (hT : s.h c = T) (hTC : TaskC T)
    (h : wpList Try.prog ops Q rest (a.put o.dst (.agg T)) w) : wpList Try.prog ops Q (o :: rest) a w :=
  wpm_ldm HM hg 38 x ho i _ hi hx T (HA.out.getH c hc hT hTC.size) 4 und38 inf38 hTC.size h
theorem wpm_ldW (HM : Hid (Mem X w0 w L)) (HA : Hid (RunA C s)) (hg : o.guard = none) (x : Operand) (ho : o.op = .load 35 x) (i : Nat) {b : Nat} (hi : L[i]? = some (b, C, t0)) (hx : a.eval x = .pointer (some ⟨b, 0, none⟩)) (v0 v1 v2 : Value) (h0 : s.w 0 = v0) (h1 : s.w 1 = v1) (h2 : s.w 2 = v2)
    (h : wpList Try.prog ops Q rest (a.put o.dst (.agg #[v0, v1, v2])) w) : wpList Try.prog ops Q (o :: rest) a w :=
  wpm_ldm HM hg 35 x ho i 0 hi hx #[v0, v1, v2] (fun j v hv => by
    rw [Nat.zero_add]
    match j, hv with
    | 0, hv => rw [HA.out.w 0 (by omega), h0]; simpa using hv
    | 1, hv => rw [HA.out.w 1 (by omega), h1]; simpa using hv
    | 2, hv => rw [HA.out.w 2 (by omega), h2]; simpa using hv
    | j + 3, hv => simp at hv) 3 und35 inf35 rfl h
end
end Go.Proofs.Ytgpdknacnmapiaa
