/-
  What Open and its reference compute (chapter 02).
-/
import Derived.Test.YtcffabfaefbjcaaSeal
import Derived.BigQuiet
import Derived.Deep.QuietTactic
import Derived.Test.YtcffabfaefbjcaaPlan
import Derived.Deep.RegionHeld3
import Derived.Outline
namespace Go.Proofs.Ytcffabfaefbjcaa
set_option linter.unusedVariables false
open Go.RowKit Crc
/-- 's[k:]' reads as the bytes behind the first k -/
theorem Sl.behind {w : World} {b off n cap : Nat} {l : List Nat} (h : Sl w (.slice (some ⟨b, off, none⟩) n cap) l) (k : Nat) (hk : k ≤ n) : Sl w (.slice (some ⟨b, off + k, none⟩) (n - k) (cap - k)) (l.drop k) := by
  obtain ⟨h0, a, c, he, h1, h2, h3, h4⟩ := h
  cases he
  have hl : (l.drop k).length = l.length - k := List.length_drop ..
  refine ⟨h0.drop k, _, cap - k, by rw [hl], by rw [hl]; omega, by omega, fun e => (by cases e), ?_⟩
  rcases h4 with h4 | ⟨b', off', e, hc⟩
  · exact .inl (by rw [hl]; omega)
  · cases e
    refine .inr ⟨_, _, rfl, fun i hi => ?_⟩
    rw [hl] at hi
    rw [Nat.add_assoc, hc (k + i) (by omega)]
    simp [List.getD]
theorem Sl.cutc {w : World} {ao : Option Addr} {n cap : Nat} {l : List Nat} (h : Sl w (.slice ao n cap) l) (k c : Nat) (hk : k ≤ n) (hc1 : k ≤ c) (hc2 : c ≤ cap) : Sl w (.slice ao k c) (l.take k) := by
  obtain ⟨h0, a, c', he, h1, h2, h3, h4⟩ := h
  cases he
  have hl : (l.take k).length = k := by rw [List.length_take]; omega
  refine ⟨h0.take k, ao, c, by rw [hl], by rw [hl]; exact hc1, by omega, fun e => by have := h3 e; omega, ?_⟩
  rcases h4 with h4 | ⟨b, off, rfl, hc⟩
  · exact .inl (by rw [hl]; omega)
  · refine .inr ⟨b, off, rfl, fun i hi => ?_⟩
    rw [hl] at hi
    rw [hc i (by omega)]
    simp [List.getD, hi]
theorem Sl.str {w : World} {v : Value} {l : List Nat} (h : Sl w v l) : (convert 35 9 v).run Try.prog w = .ok (.string (strOf l)) w := h.string bt (dst := 9) (by kernel_rfl)
theorem elem35 : Try.prog.underlying 35 = some (.slice (Try.prog.elem 35)) := by rw [Try.underlying35]; rfl
theorem size35 (w : World) : (Go.sizeOf (Try.prog.elem 35)).run Try.prog w = .ok 1 w := by
  obtain ⟨i0, hi, hz0, hz1, hz2⟩ := info_parts bt.i
  have he : Try.prog.elem 35 = 5 := by simp [Program.elem, Try.underlying35]
  rw [he]
  simp [Go.sizeOf, typeInfo, hi, hz1]
/-- 's[k:]' -/
theorem slice_from (b off len cap k : Nat) (hk : k ≤ len) (hkc : k < cap) (w : World) : (Instr.slice 35 (.slice (some ⟨b, off, none⟩) len cap) (some (.int .i64 (k : Int))) none none).run Try.prog w = .ok (.slice (some ⟨b, off + k, none⟩) (len - k) (cap - k)) w := by
  rw [run_slice_l w 35 _ _ _ elem35 .i64 _ (by omega) (by omega), size35]
  have hne : ¬ cap = k := by omega
  by_cases h0 : k = 0
  · subst h0
    simp [Result.andThen, sliced, Addr.add, hne]
  · simp [Result.andThen, sliced, Addr.add, hne, h0]
/-- 's[:k:k]' -/
theorem slice_upto (ao : Option Addr) (len cap k : Nat) (hk : k ≤ cap) (w : World) : (Instr.slice 35 (.slice ao len cap) none (some (.int .i64 (k : Int))) (some (.int .i64 (k : Int)))).run Try.prog w = .ok (.slice ao k k) w := by
  rw [run_slice_hm w 35 _ _ _ elem35 .i64 .i64 _ _ (by omega) (by omega) (by omega), size35]
  by_cases h0 : k = 0
  · subst h0; simp [Result.andThen, sliced]
  · cases ao <;> simp [Result.andThen, sliced, Addr.add, h0]
/-- a new byte slice of n bytes at a row's head -/
def NewPostN (w : World) (n : Nat) (l : List Nat) (e : Ending) (w' : World) : Prop := ∃ g cap, e = .returned (.slice (some ⟨g, 0, none⟩) n cap) ∧ n ≤ cap ∧ cap ≤ 9223372036854775807 ∧ Own 5 w.heap.size w' (.slice (some ⟨g, 0, none⟩) n cap) l ∧ Below w.heap.size w w'
theorem NewPostN.of {w : World} {n : Nat} {l : List Nat} {e : Ending} {w' : World} (h : NewPost w l e w') (hl : l.length = n) (hn : 0 < n) : NewPostN w n l e w' := by
  obtain ⟨v, rfl, h1, h2⟩ := h
  subst hl
  obtain ⟨h0, h3, h4⟩ := h1
  rcases h4 with ⟨rfl, h⟩ | ⟨g, cap, cur, rfl, hb, hg, hc, hm, hs, ht⟩
  · omega
  · exact ⟨g, cap, rfl, hc, by unfold maxLen at hm; omega, ⟨h0, h3, .inr ⟨g, cap, cur, rfl, hb, hg, hc, hm, hs, ht⟩⟩, h2⟩
theorem seal_n (v0 : Value) (u : List Nat) (n : Nat) (w : World) (hsl : Sl w v0 u) (hu : u.length = n) (hlen : n < 35184372088832) : Calls Try.prog 52 #[v0] w (NewPostN w (n + 4) (sealed u)) :=
  (seal_any v0 u w hsl (by omega)).mono fun e w' h => NewPostN.of h (by rw [sealed_length, hu]) (by omega)
/-- what comes back of bytes that can't be opened -/
theorem open_short (v0 : Value) (l : List Nat) (h4 : l.length < 4) (w : World) (hsl : Sl w v0 l) : Calls Try.prog 55 #[v0] w fun e w' => e = .returned (.tuple #[.slice none 0 0, .int .i64 50]) ∧ Below w.heap.size w w' := by
  obtain ⟨h0, ao, cap, rfl, h1, h2, h3, h4'⟩ := hsl
  clear h4' h3
  unfold maxLen at h2
  have d1 : decide ((l.length : Int) - 4 < 0) = true := by simp; omega
  go_enter Try.func55, Try.ntmps55
  go_wp2
  go_quiet (fail)
  go_wp2
  go_ret2
  exact ⟨rfl, below_drewN (Below.refl _ _) _⟩
theorem own_tail {B : Nat} {w : World} {g n cap : Nat} {u : List Nat} (h : Own 5 B w (.slice (some ⟨g, 0, none⟩) (n + 4) cap) (sealed u)) (hu : u.length = n) : Sl w (.slice (some ⟨g, n, none⟩) 4 (cap - n)) (le 4 (sumOf u)) := by
  have := h.sl.behind n (by omega)
  rw [Nat.zero_add, show n + 4 - n = 4 by omega] at this
  unfold sealed at this
  rwa [List.drop_left' hu] at this
/-- what comes back of bytes that are opened -/
def OpenPost (w : World) (n : Nat) (l : List Nat) (e : Ending) (w' : World) : Prop := ∃ g cap, e = .returned (.tuple #[.slice (some ⟨g, 0, none⟩) n cap, .int .i64 0]) ∧ n ≤ cap ∧ cap ≤ 9223372036854775807 ∧ Own 5 w.heap.size w' (.slice (some ⟨g, 0, none⟩) n cap) l ∧ Below w.heap.size w w'
/-- 'copy(out, b)', b longer than out -/
theorem wp_copy_own2 {P : Program} {T E : TypeId} (BT : ByteT P T E) {w : World} {ops : Array Oper} {rest : List Oper} {o : Oper} {a : Act} {Q : Exit → Act → World → Prop} (hgd : o.guard = none) (d s : Operand)
    (ho : o.op = .call { callee := .builtin .copy, args := #[d, s], argTypes := #[T, T] })
    (B g n cap : Nat) (l : List Nat) (hn : l.length = n) (hd : a.eval d = .slice (some ⟨g, 0, none⟩) n cap) (hown : Own E B w (.slice (some ⟨g, 0, none⟩) n cap) l) (v : Value) (u x : List Nat) (hx : a.eval s = v) (hsl : Sl w v (u ++ x)) (hr : u.length = n)
    (h : ∀ w', Own E B w' (.slice (some ⟨g, 0, none⟩) n cap) u → w.grownBy w' (some g) → wpList P ops Q rest (a.put o.dst (goInt (n : Nat))) w') : wpList P ops Q (o :: rest) a w := by
  subst hn
  have hm : Nat.min (u ++ x).length l.length = l.length := Nat.min_eq_right (by rw [List.length_append]; omega)
  refine wp_copy_own BT hgd d s ho B g cap l hd hown v _ hx hsl ?_
  intro w' h1 h2
  rw [hm] at h1 ⊢
  rw [← hr, List.take_left' rfl, List.drop_of_length_le (by omega), List.append_nil] at h1
  rw [hr] at h1
  exact h w' h1 h2
theorem open_end {w w2 w3 w4 : World} (hb : Below w.heap.size w w2) (hg : w2.grownBy w3 none) (hg4 : w3.grownBy w4 (some w2.heap.size)) : Below w.heap.size w w4 :=
  (hb.grown hg hb.size (fun k hk => by cases hk)).grown hg4 (Nat.le_trans hb.size hg.size) (fun k hk => by cases hk; exact hb.size)
theorem open_src {w w2 w3 : World} {v : Value} {l : List Nat} (hb : Below w.heap.size w w2) (hsl : Sl w v l) (hg : w2.grownBy w3 none) : Sl w3 v l :=
  hsl.below (hb.grown hg hb.size (fun k hk => by cases hk)) (Nat.le_refl _)
theorem open_no (b off cap n : Nat) (u x : List Nat) (hu : u.length = n) (hx : x.length = 4) (hxb : IsBytes x) (hlen : n < 35184372088832) (w : World) (hsl : Sl w (.slice (some ⟨b, off, none⟩) (n + 4) cap) (u ++ x)) (hcap : n + 4 ≤ cap) (hm : cap ≤ 9223372036854775807) (hne : x ≠ le 4 (sumOf u)) :
    Calls Try.prog 55 #[.slice (some ⟨b, off, none⟩) (n + 4) cap] w fun e w' => e = .returned (.tuple #[.slice none 0 0, .int .i64 50]) ∧ Below w.heap.size w w' := by
  have d1 : decide ((n : Int) < 0) = false := by simp
  have HW := Lib.hid hsl
  have HT := Lib.hid (fun w' (hb : Below w.heap.size w w') => ((hsl.below hb (Nat.le_refl _)).behind n (by omega)).str)
  rw [List.drop_left' hu, show n + 4 - n = 4 by omega] at HT
  have HU := Lib.hid (fun w' (hb : Below w.heap.size w w') => (hsl.below hb (Nat.le_refl _)).cutc n n (by omega) (Nat.le_refl _) (by omega))
  rw [List.take_left' hu] at HU
  clear hsl
  have HUL := Lib.hid hu
  clear hu
  have heq : ((strOf (le 4 (sumOf u))).toList == (strOf x).toList) = false := by
    rw [str_beq (le_bytes _ _) (fun y hy => hxb y hy)]; simpa using fun h => hne h.symm
  go_enter Try.func55, Try.ntmps55
  go_wp2
  have s1 := slice_from b off (n + 4) cap n (by omega) (by omega)
  rw [show n + 4 - n = 4 by omega] at s1
  have s2 := slice_upto (some ⟨b, off, none⟩) (n + 4) cap n (by omega)
  have hA := fun d os => HT.out _ (below_regrown w d os)
  refine wp_region_noPanic ?_
  refine wp_region_plan [([true, true, true, true, true, true, true, false, true, false, false, true, true, true, true], 7)] [false, false, false, false, false, false, false, false, false, true, true, false, false, false, false, true, true] (fun w' => ∃ p : Regrown, w' = Go.Sort.grow (redrawn w p.d) p.os) (by kernel_rfl) (by kernel_rfl) (by kernel_rfl) (fun _ _ _ _ _ h => h) (above_drew w) ?_
  simp only [wpPlan, sel]
  repeat (go_big_quiet_step (fail))
  refine wpQuiet_nil ?_
  rintro _ ⟨⟨d, os⟩, rfl⟩
  refine wpOp_step rfl (fun K hK => ?_)
  go_simp
  refine (seal_n _ u n _ (HU.out _ (below_regrown w d os)) HUL.out hlen).mono ?_
  rintro e w1 ⟨g, cv, rfl, hv1, hv2, hown, hb⟩
  have hbb := (below_regrown w d os).trans (hb.mono (below_regrown w d os).size)
  have s3 := slice_from g 0 (n + 4) cv n (by omega) (by omega)
  rw [show n + 4 - n = 4 by omega, Nat.zero_add] at s3
  have hs := fun d os => ((own_tail hown HUL.out).below (below_regrown w1 d os) (Nat.le_refl _)).str
  refine hK _ _ ⟨fun w' => ∃ p : Regrown, w' = Go.Sort.grow (redrawn w1 p.d) p.os, above_self w1, above_next hbb, ?_⟩
  clear hK K hA
  repeat (go_big_quiet_step (fail))
  refine wpQuiet_nil ?_
  rintro _ ⟨⟨d2, os2⟩, rfl⟩
  have hb2 := hbb.trans ((below_regrown w1 d2 os2).mono hbb.size)
  generalize Go.Sort.grow (redrawn w1 d2) os2 = w2 at *
  refine NoPanic.normal ?_
  go_wp2
  go_ret2
  exact ⟨rfl, hb2⟩
theorem open_yes (b off cap n : Nat) (u x : List Nat) (hu : u.length = n) (hx : x.length = 4) (hxb : IsBytes x) (hlen : n < 35184372088832) (w : World) (hsl : Sl w (.slice (some ⟨b, off, none⟩) (n + 4) cap) (u ++ x)) (hcap : n + 4 ≤ cap) (hm : cap ≤ 9223372036854775807) (heqx : x = le 4 (sumOf u)) :
    Calls Try.prog 55 #[.slice (some ⟨b, off, none⟩) (n + 4) cap] w (OpenPost w n u) := by
  have d1 : decide ((n : Int) < 0) = false := by simp
  have HW := Lib.hid hsl
  have HT := Lib.hid (fun w' (hb : Below w.heap.size w w') => ((hsl.below hb (Nat.le_refl _)).behind n (by omega)).str)
  rw [List.drop_left' hu, show n + 4 - n = 4 by omega] at HT
  have HU := Lib.hid (fun w' (hb : Below w.heap.size w w') => (hsl.below hb (Nat.le_refl _)).cutc n n (by omega) (Nat.le_refl _) (by omega))
  rw [List.take_left' hu] at HU
  clear hsl
  have HUL := Lib.hid hu
  clear hu
  have heq : ((strOf (le 4 (sumOf u))).toList == (strOf x).toList) = true := by rw [heqx]; exact beq_self_eq_true _
  go_enter Try.func55, Try.ntmps55
  go_wp2
  have s1 := slice_from b off (n + 4) cap n (by omega) (by omega)
  rw [show n + 4 - n = 4 by omega] at s1
  have s2 := slice_upto (some ⟨b, off, none⟩) (n + 4) cap n (by omega)
  have hA := fun d os => HT.out _ (below_regrown w d os)
  refine wp_region_noPanic ?_
  refine wp_region_plan [([true, true, true, true, true, true, true, false, true, false, false, true, true, true, true], 7)] [false, false, false, false, false, false, false, false, false, true, true, false, false, false, false, true, true] (fun w' => ∃ p : Regrown, w' = Go.Sort.grow (redrawn w p.d) p.os) (by kernel_rfl) (by kernel_rfl) (by kernel_rfl) (fun _ _ _ _ _ h => h) (above_drew w) ?_
  simp only [wpPlan, sel]
  repeat (go_big_quiet_step (fail))
  refine wpQuiet_nil ?_
  rintro _ ⟨⟨d, os⟩, rfl⟩
  refine wpOp_step rfl (fun K hK => ?_)
  go_simp
  refine (seal_n _ u n _ (HU.out _ (below_regrown w d os)) HUL.out hlen).mono ?_
  rintro e w1 ⟨g, cv, rfl, hv1, hv2, hown, hb⟩
  have hbb := (below_regrown w d os).trans (hb.mono (below_regrown w d os).size)
  have s3 := slice_from g 0 (n + 4) cv n (by omega) (by omega)
  rw [show n + 4 - n = 4 by omega, Nat.zero_add] at s3
  have hs := fun d os => ((own_tail hown HUL.out).below (below_regrown w1 d os) (Nat.le_refl _)).str
  refine hK _ _ ⟨fun w' => ∃ p : Regrown, w' = Go.Sort.grow (redrawn w1 p.d) p.os, above_self w1, above_next hbb, ?_⟩
  clear hK K hA
  repeat (go_big_quiet_step (fail))
  refine wpQuiet_nil ?_
  rintro _ ⟨⟨d2, os2⟩, rfl⟩
  have hb2 := hbb.trans ((below_regrown w1 d2 os2).mono hbb.size)
  generalize Go.Sort.grow (redrawn w1 d2) os2 = w2 at *
  refine NoPanic.normal ?_
  clear hs s3 hown
  have HB2 := Lib.hid hb2
  clear hb2 hbb
  go_wp2_with (first
    | (refine wp_make (o := ⟨some 27, _, _, _, _, _⟩) bt rfl (.tmp 26) (.tmp 26) rfl w.heap.size n n _ _ rfl rfl rfl rfl (Nat.le_refl _) (by omega) HB2.out.size ?_; intro w3 hown3 hgr3)
    | (refine wp_copy_own2 (o := ⟨some 30, _, _, _, _, _⟩) bt rfl (.tmp 28) (.tmp 29) rfl w.heap.size _ n n _ (List.length_replicate ..) rfl hown3 _ u x rfl (open_src HB2.out HW.out hgr3) HUL.out ?_; intro w4 hown4 hgr4))
  have hbE := open_end HB2.out hgr3 hgr4
  clear hgr3 hgr4
  go_ret2
  exact ⟨_, _, rfl, Nat.le_refl _, by omega, hown4, hbE⟩

/-! the document's own -/
theorem slice_to (ao : Option Addr) (len cap k : Nat) (hk : k ≤ cap) (hc : 0 < cap) (w : World) : (Instr.slice 35 (.slice ao len cap) none (some (.int .i64 (k : Int))) none).run Try.prog w = .ok (.slice ao k cap) w := by
  rw [run_slice_h w 35 _ _ _ elem35 .i64 _ (by omega) (by omega), size35]
  by_cases h0 : k = 0
  · subst h0; cases ao <;> simp [Result.andThen, sliced, Addr.add] <;> omega
  · cases ao <;> simp [Result.andThen, sliced, Addr.add] <;> omega
theorem sealr_n (v0 : Value) (u : List Nat) (n : Nat) (w : World) (hsl : Sl w v0 u) (hu : u.length = n) (hlen : n < 35184372088832) : Calls Try.prog 54 #[v0] w (NewPostN w (n + 4) (sealed u)) :=
  (sealr_any v0 u w hsl (by omega)).mono fun e w' h => NewPostN.of h (by rw [sealed_length, hu]) (by omega)
theorem openr_short (v0 : Value) (l : List Nat) (h4 : l.length < 4) (w : World) (hsl : Sl w v0 l) : Calls Try.prog 57 #[v0] w fun e w' => e = .returned (.tuple #[.slice none 0 0, .int .i64 50]) ∧ Below w.heap.size w w' := by
  obtain ⟨h0, ao, cap, rfl, h1, h2, h3, h4'⟩ := hsl
  clear h4' h3
  unfold maxLen at h2
  have d1 : decide ((l.length : Int) - 4 < 0) = true := by simp; omega
  go_enter Try.func57, Try.ntmps57
  go_wp2
  go_quiet (fail)
  go_wp2
  go_ret2
  exact ⟨rfl, below_drewN (Below.refl _ _) _⟩
theorem openr_no (b off cap n : Nat) (u x : List Nat) (hu : u.length = n) (hx : x.length = 4) (hxb : IsBytes x) (hlen : n < 35184372088832) (w : World) (hsl : Sl w (.slice (some ⟨b, off, none⟩) (n + 4) cap) (u ++ x)) (hcap : n + 4 ≤ cap) (hm : cap ≤ 9223372036854775807) (hne : x ≠ le 4 (sumOf u)) :
    Calls Try.prog 57 #[.slice (some ⟨b, off, none⟩) (n + 4) cap] w fun e w' => e = .returned (.tuple #[.slice none 0 0, .int .i64 50]) ∧ Below w.heap.size w w' := by
  have d1 : decide ((n : Int) < 0) = false := by simp
  have heq : ((strOf (sealed u)).toList == (strOf (u ++ x)).toList) = false := by
    have hub : IsBytes u := fun y hy => hsl.bytes y (by simp [hy])
    rw [str_beq (sealed_bytes u hub) hsl.bytes, decide_eq_false_iff_not]
    exact fun h => hne (List.append_cancel_left h).symm
  have HT := Lib.hid (fun w' (hb : Below w.heap.size w w') => (hsl.below hb (Nat.le_refl _)).str)
  have HU := Lib.hid (fun w' (hb : Below w.heap.size w w') => (hsl.below hb (Nat.le_refl _)).cutc n cap (by omega) (by omega) (Nat.le_refl _))
  rw [List.take_left' hu] at HU
  clear hsl
  have HUL := Lib.hid hu
  clear hu
  go_enter Try.func57, Try.ntmps57
  go_wp2
  have s2 := slice_to (some ⟨b, off, none⟩) (n + 4) cap n (by omega) (by omega)
  have hA := fun d os => HT.out _ (below_regrown w d os)
  refine wp_region_noPanic ?_
  refine wp_region_plan [([true, true, true, true, true, true, false, false, true, true], 6)] [false, false, false, false, false, false, false, true, false, false, true, true] (fun w' => ∃ p : Regrown, w' = Go.Sort.grow (redrawn w p.d) p.os) (by kernel_rfl) (by kernel_rfl) (by kernel_rfl) (fun _ _ _ _ _ h => h) (above_drew w) ?_
  simp only [wpPlan, sel]
  repeat (go_big_quiet_step (fail))
  refine wpQuiet_nil ?_
  rintro _ ⟨⟨d, os⟩, rfl⟩
  refine wpOp_step rfl (fun K hK => ?_)
  go_simp
  refine (sealr_n _ u n _ (HU.out _ (below_regrown w d os)) HUL.out hlen).mono ?_
  rintro e w1 ⟨g, cv, rfl, hv1, hv2, hown, hb⟩
  have hbb := (below_regrown w d os).trans (hb.mono (below_regrown w d os).size)
  have hs := fun d os => (hown.sl.below (below_regrown w1 d os) (Nat.le_refl _)).str
  refine hK _ _ ⟨fun w' => ∃ p : Regrown, w' = Go.Sort.grow (redrawn w1 p.d) p.os, above_self w1, above_next hbb, ?_⟩
  clear hK K hA
  repeat (go_big_quiet_step (fail))
  refine wpQuiet_nil ?_
  rintro _ ⟨⟨d2, os2⟩, rfl⟩
  have hb2 := hbb.trans ((below_regrown w1 d2 os2).mono hbb.size)
  generalize Go.Sort.grow (redrawn w1 d2) os2 = w2 at *
  refine NoPanic.normal ?_
  go_wp2
  go_ret2
  exact ⟨rfl, hb2⟩
/-- what comes back of bytes that are opened, the slice not written out -/
def OpenPostV (w : World) (l : List Nat) (e : Ending) (w' : World) : Prop := ∃ v, e = .returned (.tuple #[v, .int .i64 0]) ∧ Own 5 w.heap.size w' v l ∧ Below w.heap.size w w'
end Go.Proofs.Ytcffabfaefbjcaa
