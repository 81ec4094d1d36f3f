/-
  What Seal and its reference compute (chapter 02).
-/
import Derived.Test.YtcffabfaefbjcaaCrc2
import Derived.Outline
namespace Go.Proofs.Ytcffabfaefbjcaa
set_option linter.unusedVariables false
open Go.RowKit Crc
theorem bt : ByteT Try.prog 35 5 := ⟨Try.underlying35, Try.underlying5, by kernel_rfl⟩
/-- 'copy(out, b)', the length by a name of its own -/
theorem wp_copyN {P : Program} {T E : TypeId} (BT : ByteT P T E) {w : World} {ops : Array Oper} {rest : List Oper} {o : Oper} {a : Act} {Q : Exit → Act → World → Prop} (hgd : o.guard = none) (d s : Operand)
    (ho : o.op = .call { callee := .builtin .copy, args := #[d, s], argTypes := #[T, T] })
    (B g n cap : Nat) (l : List Nat) (hn : l.length = n) (hd : a.eval d = .slice (some ⟨g, 0, none⟩) n cap) (hown : Own E B w (.slice (some ⟨g, 0, none⟩) n cap) l) (u : Value) (r : List Nat) (hx : a.eval s = u) (hsl : Sl w u r) (hr : r.length = n)
    (h : ∀ w', Own E B w' (.slice (some ⟨g, 0, none⟩) n cap) r → w.grownBy w' (some g) → wpList P ops Q rest (a.put o.dst (goInt (Nat.min r.length n))) w') : wpList P ops Q (o :: rest) a w := by
  subst hn
  have hm : Nat.min r.length l.length = l.length := by rw [hr]; exact Nat.min_self _
  refine wp_copy_own BT hgd d s ho B g cap l hd hown u r hx hsl ?_
  intro w' h1 h2
  rw [hm, ← hr, List.take_length, List.drop_of_length_le (by rw [hr]; exact Nat.le_refl _), List.append_nil] at h1
  rw [hr] at h1
  exact h w' h1 h2
/-- a new byte slice -/
def NewPost (w : World) (l : List Nat) (e : Ending) (w' : World) : Prop := ∃ v, e = .returned v ∧ Own 5 w.heap.size w' v l ∧ Below w.heap.size w w'
def SealRel (w wr : World) (v : Value) (l : List Nat) : Prop := Below w.heap.size w wr ∧ Own 5 w.heap.size wr v l
theorem seal_rel {w wr w1 : World} {v v' : Value} {l : List Nat} {m j : Nat} {o : Obj} (h : SealRel w wr v (l ++ le j m)) (hown1 : Own 5 w.heap.size w1 v' (l ++ le j m ++ [m / 256 ^ j % 256])) (hgr : (wr.alloc o).grownBy w1 v.ownBlock) : SealRel w w1 v' (l ++ le (j + 1) m) :=
  ⟨(h.1.alloc h.1.size o).grown hgr (by have := h.1.size; simp; omega) (fun k hk => (h.2.2.lt k hk).1), by rw [le_snoc, ← List.append_assoc]; exact hown1⟩
theorem seal_rel0 {w w1 w2 : World} {n cap : Nat} {l r : List Nat} (hown1 : Own 5 w.heap.size w1 (.slice (some ⟨w.heap.size, 0, none⟩) n cap) r) (hgr1 : w.grownBy w1 none) (hown2 : Own 5 w.heap.size w2 (.slice (some ⟨w.heap.size, 0, none⟩) n cap) l) (hgr2 : w1.grownBy w2 (some w.heap.size)) : SealRel w w2 (.slice (some ⟨w.heap.size, 0, none⟩) n cap) l :=
  ⟨((Below.refl _ _).grown hgr1 (Nat.le_refl _) (fun k hk => by cases hk)).grown hgr2 hgr1.size (fun k hk => by cases hk; exact Nat.le_refl _), hown2⟩
theorem div_pow_succ (m j : Nat) : m / 256 ^ (j + 1) = m / 256 ^ j / 256 := by rw [Nat.pow_succ, Nat.div_div_eq_div_mul]
theorem seal_any (v0 : Value) (l : List Nat) (w : World) (hsl : Sl w v0 l) (hlen : l.length < 35184372088832) : Calls Try.prog 52 #[v0] w (NewPost w (sealed l)) := by
  obtain ⟨ao, cap, rfl, hc1, hc2⟩ : ∃ ao cap, v0 = .slice ao l.length cap ∧ l.length ≤ cap ∧ cap ≤ 9223372036854775807 := by
    obtain ⟨_, ao, cap, e, h1, h2, _⟩ := hsl
    exact ⟨ao, cap, e, h1, by unfold maxLen at h2; exact h2⟩
  have HS := Lib.hid hsl
  have hsum := sumOf_lt l hsl.bytes
  clear hsl
  go_enter Try.func52, Try.ntmps52
  go_wp2_with (first
    | (refine wp_make (o := ⟨some 10, _, _, _, _, _⟩) bt rfl (.tmp 6) (.tmp 9) rfl w.heap.size l.length (l.length + 4) _ _ rfl rfl rfl (by simp) (by omega) (by omega) (Nat.le_refl _) ?_; intro w1 hown1 hgr1)
    | (refine wp_copyN (o := ⟨some 13, _, _, _, _, _⟩) bt rfl (.tmp 11) (.tmp 12) rfl _ _ l.length _ _ (List.length_replicate ..) rfl hown1 _ l rfl (HS.out.below ((Below.refl _ _).grown hgr1 (Nat.le_refl _) (fun k hk => by cases hk)) (Nat.le_refl _)) rfl ?_; intro w2 hown2 hgr2))
  have hR := seal_rel0 hown1 hgr1 hown2 hgr2
  have hsl2 := HS.out.below hR.1 (Nat.le_refl _)
  clear hown1 hgr1 hown2 hgr2
  refine (sum_any _ l w2 hsl2).mono ?_
  rintro e w' ⟨rfl, rfl⟩
  have HR := Lib.hid hR
  clear hR hsl2
  obtain ⟨m, hm⟩ : ∃ m, m = sumOf l := ⟨_, rfl⟩
  have HE := Lib.hid (show sealed l = l ++ le 4 m by unfold sealed; rw [hm])
  rw [← hm] at hsum ⊢
  clear hm
  go_wp2
  go_loopw [3, 4, 16] (fun v n i wr => ∃ j : Nat, j ≤ 4 ∧ i = .int .i64 j ∧ n = .int .u32 ((m / 256 ^ j : Nat) : Int) ∧ SealRel w wr v (l ++ le j m)) (fun _ _ i _ => 4 - (intOf i).toNat)
  case atStart => exact ⟨0, Nat.zero_le _, rfl, by simp, by simpa [le] using HR.out⟩
  case round =>
    obtain ⟨j, hj, rfl, rfl, hrel⟩ := hrel
    by_cases hlt : j < 4
    · have HD := Lib.hid (div_pow_succ m j)
      have hle : m / 256 ^ j ≤ m := Nat.div_le_self _ _
      have HRel := Lib.hid hrel
      clear hrel
      generalize hq : m / 256 ^ j = q at *
      have HQ := Lib.hid hq
      clear hq
      go_wp2_with (at_builtin; go_loud (refine wp_push_own bt rfl _ _ rfl w.heap.size _ (l ++ le j m) rfl (HRel.out.2.alloc _) ⟨wr.heap.size, 0, none⟩ 1 rfl _ (q % 256) (new_cell _ _ _) (by simp) (Nat.mod_lt _ (by omega)) (by rw [List.length_append, le_length]; omega) (by have := HRel.out.1.size; simp; omega) ?_; intro v' w1 hown1 hgr1))
      have hR := seal_rel (m := m) (j := j) HRel.out (by rw [HQ.out]; exact hown1) hgr1
      clear hown1 hgr1
      go_roundw
      case rel => exact ⟨j + 1, by omega, by go_num, by rw [HD.out]; rfl, hR⟩
      case measure => simp [intOf]; omega
    · obtain rfl : j = 4 := by omega
      obtain ⟨hb, hown⟩ := hrel
      go_wp2
      go_ret
      exact ⟨_, rfl, by rw [HE.out]; exact hown, hb⟩
theorem lit4 (w : World) (x0 x1 x2 x3 : Int) (y0 y1 y2 y3 : Nat) (e0 : x0 = (y0 : Int)) (e1 : x1 = (y1 : Int)) (e2 : x2 = (y2 : Int)) (e3 : x3 = (y3 : Int)) (h0 : y0 < 256) (h1 : y1 < 256) (h2 : y2 < 256) (h3 : y3 < 256) :
    Sl (w.alloc (.cells #[.int .u8 x0, .int .u8 x1, .int .u8 x2, .int .u8 x3] 5)) (.slice (some ⟨w.heap.size, 0, none⟩) 4 4) [y0, y1, y2, y3] := by
  subst e0 e1 e2 e3
  refine ⟨?_, some ⟨w.heap.size, 0, none⟩, 4, rfl, Nat.le_refl _, by decide, fun e => (by cases e), .inr ⟨_, 0, rfl, fun i hi => ?_⟩⟩
  · intro x hx; simp at hx; omega
  · simp at hi
    match i, hi with
    | 0, _ => simp
    | 1, _ => simp
    | 2, _ => simp
    | 3, _ => simp
theorem and_255 (x : Nat) (h : x < 4294967296) : bits BinOp.and IntKind.u32 (x : Int) 255 % 256 = ((x % 256 : Nat) : Int) := by
  have := u32_and_nat x 255 h (by omega)
  rw [show ((255 : Nat) : Int) = 255 from rfl] at this
  rw [this, nat_mask8]; omega
theorem lit_seal (w : World) (m : Nat) (hm : m < 4294967296) :
    Sl (w.alloc (.cells #[.int .u8 (bits BinOp.and IntKind.u32 (m : Int) 255 % 256), .int .u8 (bits BinOp.and IntKind.u32 ((m : Int) / 256) 255 % 256), .int .u8 (bits BinOp.and IntKind.u32 ((m : Int) / 65536) 255 % 256), .int .u8 ((m : Int) / 16777216)] 5)) (.slice (some ⟨w.heap.size, 0, none⟩) 4 4) (le 4 m) := by
  have e1 := and_255 m hm
  have e2 := and_255 (m / 256) (by omega)
  have e3 := and_255 (m / 65536) (by omega)
  have c2 : (m : Int) / 256 = ((m / 256 : Nat) : Int) := by omega
  have c3 : (m : Int) / 65536 = ((m / 65536 : Nat) : Int) := by omega
  have c4 : (m : Int) / 16777216 = ((m / 16777216 : Nat) : Int) := by omega
  rw [c2, c3, c4, e1, e2, e3]
  have e : le 4 m = [m % 256, m / 256 % 256, m / 65536 % 256, m / 16777216] := by
    simp only [le, Nat.div_div_eq_div_mul]
    have : m / (256 * 256 * 256) % 256 = m / 16777216 := by omega
    simp [this]
  rw [e]
  exact lit4 w _ _ _ _ _ _ _ _ rfl rfl rfl rfl (by omega) (by omega) (by omega) (by omega)
theorem sealr_rel {w wr w1 : World} {v : Value} {l : List Nat} {o : Obj} (h : Below w.heap.size w wr) (ho : Own 5 w.heap.size wr v l) (hgr : (wr.alloc o).grownBy w1 v.ownBlock) : Below w.heap.size w w1 :=
  (h.alloc h.size o).grown hgr (by have := h.size; simp; omega) (fun k hk => (ho.2.lt k hk).1)
theorem sealr_any (v0 : Value) (l : List Nat) (w : World) (hsl : Sl w v0 l) (hlen : l.length < 35184372088832) : Calls Try.prog 54 #[v0] w (NewPost w (sealed l)) := by
  have HS := Lib.hid hsl
  have hsum := sumOf_lt l hsl.bytes
  have HC := Lib.hid (sumr_any v0 l w hsl)
  clear hsl
  obtain ⟨m, hm⟩ : ∃ m, m = sumOf l := ⟨_, rfl⟩
  have HE := Lib.hid (show sealed l = l ++ le 4 m by unfold sealed; rw [hm])
  rw [← hm] at HC hsum
  clear hm
  go_enter Try.func54, Try.ntmps54
  go_wp2_with (first
    | (go_at_call 66; refine HC.out.mono ?_; rintro e w' ⟨rfl, rfl⟩)
    | (at_builtin; refine wp_cat_own bt rfl (.tmp 7) (.tmp 8) rfl w.heap.size _ [] rfl (Own.nil _ _ _) _ l rfl HS.out (by simp; omega) (Nat.le_refl _) ?_; intro v' w1 hown1 hgr1; rw [List.nil_append] at hown1; have O1 := Lib.hid hown1; have B1 := Lib.hid ((Below.refl w.heap.size w).grown hgr1 (Nat.le_refl _) (fun k hk => by cases hk)); clear hown1 hgr1)
    | (at_builtin; go_loud (refine wp_cat_own bt rfl (.tmp 10) (.tmp 25) rfl w.heap.size _ l rfl (O1.out.alloc _) _ (le 4 m) rfl (lit_seal _ m hsum) (by rw [le_length]; omega) (by have := B1.out.size; simp; omega) ?_; intro v2 w2 hown2 hgr2)))
  have hb := sealr_rel B1.out O1.out hgr2
  rw [← HE.out] at hown2
  go_ret
  exact ⟨_, rfl, hown2, hb⟩
end Go.Proofs.Ytcffabfaefbjcaa
