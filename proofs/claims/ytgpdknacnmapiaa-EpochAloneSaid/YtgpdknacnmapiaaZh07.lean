/-
  Parts of a proof, put together: Dn.
-/
import Derived.Test.YtgpdknacnmapiaaZh01
import Derived.Test.YtgpdknacnmapiaaZh02
import Derived.Test.YtgpdknacnmapiaaZh03
import Derived.Test.YtgpdknacnmapiaaZh04
import Derived.Test.YtgpdknacnmapiaaZh05
import Derived.Test.YtgpdknacnmapiaaZh06
namespace Go.Proofs.Ytgpdknacnmapiaa
set_option linter.unusedVariables false
set_option linter.unusedSimpArgs false
open Go.RowKit
/-- worlds in which some cells are told -/
def CW (fs : List (Addr × Value)) : Type := {w : World // ∀ p ∈ fs, w.cell? p.1 = some p.2}
theorem alln (W : World) : ∀ p ∈ ([] : List (Addr × Value)), W.cell? p.1 = some p.2 := fun _ h => by cases h
theorem allc {W : World} {ad : Addr} {v : Value} {fs : List (Addr × Value)} (h : W.cell? ad = some v) (h2 : ∀ p ∈ fs, W.cell? p.1 = some p.2) : ∀ p ∈ (ad, v) :: fs, W.cell? p.1 = some p.2 := List.forall_mem_cons.2 ⟨h, h2⟩
def curOK (cur : Array Value) (l : List Int) : Prop := ∀ (i : Nat) (x : Int), l[i]? = some x → cur[i]? = some (.int .i64 x)
theorem curOK.set {cur : Array Value} {l : List Int} (h : curOK cur l) (n : Nat) (v : Int) (hn : n < l.length) : curOK (cur.setIfInBounds n (.int .i64 v)) (l.set n v) := by
  intro i x hx
  rw [List.getElem?_set] at hx
  rw [Array.getElem?_setIfInBounds]
  by_cases e : n = i
  · subst e
    rw [if_pos rfl, if_pos hn] at hx
    have : n < cur.size := by
      obtain ⟨y, hy⟩ : ∃ y, l[n]? = some y := ⟨_, List.getElem?_eq_getElem hn⟩
      exact (Array.getElem?_eq_some_iff.1 (h n y hy)).1
    rw [if_pos rfl, if_pos this]
    injection hx with hx; subst hx; rfl
  · rw [if_neg e] at hx ⊢
    exact h i x hx
theorem zer35 (w : World) : (zeroValue 35).run Try.prog w = .ok (.agg #[.slice none 0 0, .slice none 0 0, .slice none 0 0]) w := by kernel_rfl
theorem inf35 : (Try.prog.info? 35).map (·.size) = some 3 := by kernel_rfl
theorem und35 : ∃ fs, Try.prog.underlying 35 = some (.struct fs) := ⟨_, Try.underlying35⟩
theorem run_bs0 (w : World) : (Instr.buildSlice 30 0 #[]).run Try.prog w = .ok (.slice (some ⟨w.heap.size, 0, none⟩) 0 0) (w.alloc (.cells #[] 3)) := by kernel_rfl
theorem HB.load35 {w : World} {b : Nat} {C : Array Value} (h : HB w b C 35) (hs : C.size = 3) : (loadVar 35 ⟨b, 0, none⟩).run Try.prog w = .ok (.agg C) w := by
  obtain ⟨fs, hu⟩ := und35
  exact run_loadVar_row (P := Try.prog) w b 35 35 C (0, 0) (.struct fs) h hu rfl (by rw [inf35, hs])
section
variable {X : Nat → Prop} {w0 w : World} {L : List (Nat × Array Value × TypeId)} {ops : Array Oper} {rest : List Oper} {o : Oper} {a : Act} {Q : Exit → Act → World → Prop} {K : Act → World → Prop}
theorem wpm_al35 (HM : Hid (Mem X w0 w L)) (hg : o.guard = none) (ho : o.op = .alloc 35)
    (h : ∀ W, Hid (Mem X w0 W (L ++ [(w.heap.size, #[.slice none 0 0, .slice none 0 0, .slice none 0 0], 35)])) → wpList Try.prog ops Q rest (a.put o.dst (.pointer (some ⟨w.heap.size, 0, none⟩))) W) : wpList Try.prog ops Q (o :: rest) a w := wpm_al HM hg 35 ho _ zer35 h
theorem wpm_ld35 (HM : Hid (Mem X w0 w L)) (hg : o.guard = none) (x : Operand) (ho : o.op = .load 35 x) (i : Nat) {b : Nat} {C : Array Value} (hi : L[i]? = some (b, C, 35)) (hx : a.eval x = .pointer (some ⟨b, 0, none⟩)) (hC : C.size = 3) (h : wpList Try.prog ops Q rest (a.put o.dst (.agg C)) w) : wpList Try.prog ops Q (o :: rest) a w :=
  wpm_ld HM hg 35 x ho i hi hx 3 und35 inf35 hC h
theorem w35_one (ao bo co : Option Addr) (n c n2 c2 n3 c3 : Nat) : (#[Value.slice ao n c, .slice bo n2 c2, .slice co n3 c3] : Array Value).all (·.oneCell') = true := by simp [Value.oneCell']
theorem wpm_st35 (HM : Hid (Mem X w0 w L)) (hg : o.guard = none) (x y : Operand) (ho : o.op = .store 35 x y) (i : Nat) {b : Nat} {C : Array Value} (hi : L[i]? = some (b, C, 35)) (hC : C.size = 3) (ao bo co : Option Addr) (n c n2 c2 n3 c3 : Nat) (hx : a.eval x = .pointer (some ⟨b, 0, none⟩)) (hy : a.eval y = .agg #[.slice ao n c, .slice bo n2 c2, .slice co n3 c3])
    (h : ∀ W, Hid (Mem X w0 W (L.set i (b, #[.slice ao n c, .slice bo n2 c2, .slice co n3 c3], 35))) → wpList Try.prog ops Q rest (a.put o.dst undef) W) : wpList Try.prog ops Q (o :: rest) a w := wpm_st HM hg 35 x y ho i hi _ hx hy 3 inf35 hC rfl (w35_one _ _ _ _ _ _ _ _ _) h
theorem wpOm_bs0 (HM : Hid (Mem X w0 w L)) (ho : o.op = .buildSlice 30 0 #[]) (d : Tmp) (hd : o.dst = some d)
    (h : ∀ W, Hid (Mem X w0 W (L ++ [(w.heap.size, #[], 3)])) → K (a.put (some d) (.slice (some ⟨w.heap.size, 0, none⟩) 0 0)) W) : o.wp Try.prog a w K Q := by
  unfold Oper.wp execOp
  have hr := run_bs0 w
  simp only [ho]
  simp [hr, Sem.run_bind]
  have h' := h _ (Lib.hid (HM.out.alloc #[] 3))
  rw [← hd] at h'
  exact h'
theorem wpOm_al (HM : Hid (Mem X w0 w L)) (t : TypeId) (ho : o.op = .alloc t) (d : Tmp) (hd : o.dst = some d) (Z : Array Value) (hz : ∀ w, (zeroValue t).run Try.prog w = .ok (.agg Z) w)
    (h : ∀ W, Hid (Mem X w0 W (L ++ [(w.heap.size, Z, t)])) → K (a.put (some d) (.pointer (some ⟨w.heap.size, 0, none⟩))) W) : o.wp Try.prog a w K Q := by
  unfold Oper.wp execOp
  simp only [ho]
  simp [Instr.alloc, newVar, newRow, hz, Sem.run_bind, Value.cells]
  have h' := h _ (Lib.hid (HM.out.alloc Z t))
  rw [← hd] at h'
  exact h'
/-- a world's cells are copied -/
theorem wpOm_copy (HM : Hid (Mem X w0 w L)) (s x : Operand) (ho : o.op = .call { callee := .builtin .append, args := #[s, x], argTypes := #[30, 30] }) (d : Tmp) (hd : o.dst = some d) (e : Nat) (hs : a.eval s = .slice (some ⟨e, 0, none⟩) 0 0) (b off cap : Nat) (hx : a.eval x = .slice (some ⟨b, off, none⟩) 771 cap) (l : List Int) (hl : l.length = 771) (hc : ∀ (i : Nat) (z : Int), l[i]? = some z → w.cell? ⟨b, off + i, none⟩ = some (.int .i64 z))
    (h : ∀ W cur gc, curOK cur l → Hid (Mem X w0 W (L ++ [(w.heap.size, cur, 3)])) → K (a.put (some d) (.slice (some ⟨w.heap.size, 0, none⟩) 771 gc)) W) : o.wp Try.prog a w K Q := by
  have hcells : ∀ j u, (l.map (Value.int .i64))[j]? = some u → w.cell? ((⟨b, off, none⟩ : Addr).add j) = some u := fun j u hu => by
    rw [List.getElem?_map] at hu
    cases hx2 : l[j]? with
    | none => rw [hx2] at hu; cases hu
    | some z => rw [hx2] at hu; rw [Addr.add_lit, hc j z hx2]; simpa using hu
  have hr := run_append_grow (P := Try.prog) w 30 o.type 3 Try.t3 (.int .i64 0) und30 (by kernel_rfl) (by kernel_rfl) ⟨e, 0, none⟩ 0 0 [] (by simp) (fun j v h => by simp at h) ⟨b, off, none⟩ 771 cap (l.map (Value.int .i64)) (by rw [List.length_map, hl]; rfl) hcells (by omega) (by decide) (growslice_fits (by omega) (by decide))
  have hsz : Try.t3.size = 1 := by kernel_rfl
  unfold Oper.wp execOp
  simp only [ho, resolve, invoke, builtin, Sem.run_bind, Sem.run_pure, Result.andThen_ok, List.map_toArray, List.map_cons, List.map_nil, hs, hx, hr]
  rw [← hd] at h
  refine h _ _ _ (fun i z hz => ?_) (Lib.hid ((HM.out.drew).alloc _ 3))
  have : i < l.length := (List.getElem?_eq_some_iff.1 hz).1
  rw [Array.append_assoc, Array.getElem?_append_right (by simp), Array.getElem?_append_left (by simpa using this)]
  simp [hz]
end
set_option maxHeartbeats 8000000 in
set_option maxRecDepth 100000 in
theorem do_w0 {P : Nat → Prop} {cv d1 d2 : Value} {l : List Int} (w : World) (hP : ∀ b, w.heap.size ≤ b → P b) (h0 : CellsV P w cv l) (h1 : DiskV P w d1) (h2 : DiskV P w d2) (n : Nat) (bb v x : Int) (ao : Option Addr) (ac : Nat) (hn : n < 771) (hx : l[n]? = some x) (hb : -1152921504606846976 ≤ (0 : Int) ∧ (0 : Int) ≤ 1152921504606846976) (hv : -1152921504606846976 ≤ (0 : Int) ∧ (0 : Int) ≤ 1152921504606846976) :
    Calls Try.prog 40 #[.agg #[cv, d1, d2], .agg (acC 0 n (0 : Int) (0 : Int) 0 (.slice ao 0 ac))] w fun e w' => (∃ cv', e = .returned (.tuple #[.agg #[cv', d1, d2], .int .i64 x, .int .i64 0]) ∧ CellsV P w' cv' l) ∧ Below w.heap.size w w' := by
  have HMA := Lib.hid (fun (w : World) h0 h1 h2 => may_w0 (P := P) (cv := cv) (d1 := d1) (d2 := d2) (l := l) w h0 h1 h2 n bb v ao ac ⟨by omega, by omega⟩ hb hv)
  have HM := Lib.hid (Mem.start w)
  have HP := Lib.hid hP
  have H0 := Lib.hid h0
  have H1 := Lib.hid h1
  have H2 := Lib.hid h2
  have HX := Lib.hid hx
  obtain ⟨b1, o1, cap1, rfl, -, -⟩ := h1
  obtain ⟨b2, o2, cap2, rfl, -, -⟩ := h2
  obtain ⟨b, o, cap, rfl, -, hll, hcc, hff⟩ := h0
  have HLL := Lib.hid hll
  have HCC := Lib.hid hcc
  have HSF := Lib.hid hff
  clear hll hcc hff hb hv hP hx
  go_enter Try.func40, Try.ntmps40
  go_wp2_with (first
    | (refine wpm_box HM rfl 35 (.tmp 0) rfl _ rfl ?_; intro U1 hM; (try simp only [List.cons_append, List.nil_append, List.set_cons_succ, List.set_cons_zero, Nat.reduceAdd] at hM); replace HM := hM; clear hM)
    | (refine wpm_box HM rfl 59 (.tmp 1) rfl _ rfl ?_; intro U2 hM; (try simp only [List.cons_append, List.nil_append, List.set_cons_succ, List.set_cons_zero, Nat.reduceAdd] at hM); replace HM := hM; clear hM)
    | (refine wpm_al35 HM rfl rfl ?_; intro W hM; (try simp only [List.cons_append, List.nil_append, List.set_cons_succ, List.set_cons_zero, Nat.reduceAdd] at hM); replace HM := hM; clear hM)
    | (refine wpm_ld35 HM rfl (.tmp 2) rfl 0 rfl rfl rfl ?_)
    | (refine wpm_ld59 HM rfl (.tmp 3) rfl 1 rfl rfl ?_))
  refine (HMA.out _ (H0.out.below HM.out.bel) (H1.out.below HM.out.bel) (H2.out.below HM.out.bel)).mono ?_
  rintro e W2 ⟨rfl, hb⟩
  replace HM := Lib.hid (HM.out.below hb)
  clear hb
  go_wp2_with fail
  replace HM := Lib.hid HM.out.drew
  have HF : Hid (∀ p ∈ ([(⟨w.heap.size, 0, none⟩, .slice (some ⟨b, o, none⟩) 771 cap), (⟨w.heap.size, 1, none⟩, .slice (some ⟨b1, o1, none⟩) 33 cap1), (⟨w.heap.size, 2, none⟩, .slice (some ⟨b2, o2, none⟩) 33 cap2)] : List (Addr × Value)), World.cell? _ p.1 = some p.2) := Lib.hid (allc ((HM.out.hb 0 _ _ _ rfl).cell (k := 0) rfl) (allc ((HM.out.hb 0 _ _ _ rfl).cell (k := 1) rfl) (allc ((HM.out.hb 0 _ _ _ rfl).cell (k := 2) rfl) (alln _))))
  haveI : Inhabited (CW [(⟨w.heap.size, 0, none⟩, .slice (some ⟨b, o, none⟩) 771 cap), (⟨w.heap.size, 1, none⟩, .slice (some ⟨b1, o1, none⟩) 33 cap1), (⟨w.heap.size, 2, none⟩, .slice (some ⟨b2, o2, none⟩) 33 cap2)]) := ⟨⟨_, HF.out⟩⟩
  have f0 : ∀ q : CW [(⟨w.heap.size, 0, none⟩, .slice (some ⟨b, o, none⟩) 771 cap), (⟨w.heap.size, 1, none⟩, .slice (some ⟨b1, o1, none⟩) 33 cap1), (⟨w.heap.size, 2, none⟩, .slice (some ⟨b2, o2, none⟩) 33 cap2)], q.1.cell? ⟨w.heap.size, 0, none⟩ = some (.slice (some ⟨b, o, none⟩) 771 cap) := fun q => q.2 (⟨w.heap.size, 0, none⟩, .slice (some ⟨b, o, none⟩) 771 cap) (by simp)
  have f1 : ∀ q : CW [(⟨w.heap.size, 0, none⟩, .slice (some ⟨b, o, none⟩) 771 cap), (⟨w.heap.size, 1, none⟩, .slice (some ⟨b1, o1, none⟩) 33 cap1), (⟨w.heap.size, 2, none⟩, .slice (some ⟨b2, o2, none⟩) 33 cap2)], q.1.cell? ⟨w.heap.size, 1, none⟩ = some (.slice (some ⟨b1, o1, none⟩) 33 cap1) := fun q => q.2 (⟨w.heap.size, 1, none⟩, .slice (some ⟨b1, o1, none⟩) 33 cap1) (by simp)
  have f2 : ∀ q : CW [(⟨w.heap.size, 0, none⟩, .slice (some ⟨b, o, none⟩) 771 cap), (⟨w.heap.size, 1, none⟩, .slice (some ⟨b1, o1, none⟩) 33 cap1), (⟨w.heap.size, 2, none⟩, .slice (some ⟨b2, o2, none⟩) 33 cap2)], q.1.cell? ⟨w.heap.size, 2, none⟩ = some (.slice (some ⟨b2, o2, none⟩) 33 cap2) := fun q => q.2 (⟨w.heap.size, 2, none⟩, .slice (some ⟨b2, o2, none⟩) 33 cap2) (by simp)
  (try simp only [Act.put, List.setIfInBounds_toArray, List.set_cons_succ, List.set_cons_zero])
  refine wp_region_noPanic ?_
  refine wp_region_plw (.step [false, true, true, false, true, true] (.cons 0 (.step [] (.cons 3 (.step [false, false, false, false, false, false, true] (.cons 7 (.step [] (.cons 8 (.last []) .nil)) .nil)) (.cons 7 (.step [] (.cons 3 (.step [false, false, false, false, false, false, true] (.cons 8 (.last []) .nil)) .nil)) .nil))) (.cons 7 (.step [] (.cons 0 (.step [] (.cons 3 (.step [false, false, false, false, false, false, true] (.cons 8 (.last []) .nil)) .nil)) .nil)) .nil))) (fun y => ∃ q : CW [(⟨w.heap.size, 0, none⟩, .slice (some ⟨b, o, none⟩) 771 cap), (⟨w.heap.size, 1, none⟩, .slice (some ⟨b1, o1, none⟩) 33 cap1), (⟨w.heap.size, 2, none⟩, .slice (some ⟨b2, o2, none⟩) 33 cap2)], y = q.1) (by kernel_rfl) (by kernel_rfl) (by kernel_rfl) (fun _ _ _ _ _ _ _ h => h) ⟨⟨_, HF.out⟩, rfl⟩ ?_
  simp only [wpPw, wpBw, selF, and_true]
  generalize W2.drew = V1 at *
  repeat (go_big_quiet_step (fail))
  refine wpQuiet_nil ?_
  refine ⟨?_, ?_⟩
  · refine wpOp_step rfl (fun K hK => ?_)
    rw [if_pos (by rfl)]
    refine wpOm_bs0 HM rfl 18 rfl ?_
    intro V2 hM
    (try simp only [List.cons_append, List.nil_append, List.set_cons_succ, List.set_cons_zero, Nat.reduceAdd] at hM)
    replace HM := hM
    clear hM
    refine hK _ _ ⟨(fun y => ∃ q : CW [(⟨w.heap.size, 0, none⟩, .slice (some ⟨b, o, none⟩) 771 cap), (⟨w.heap.size, 1, none⟩, .slice (some ⟨b1, o1, none⟩) 33 cap1), (⟨w.heap.size, 2, none⟩, .slice (some ⟨b2, o2, none⟩) 33 cap2)], y = q.1), ⟨⟨_, (allc ((HM.out.hb 0 _ _ _ rfl).cell (k := 0) rfl) (allc ((HM.out.hb 0 _ _ _ rfl).cell (k := 1) rfl) (allc ((HM.out.hb 0 _ _ _ rfl).cell (k := 2) rfl) (alln _))))⟩, rfl⟩, fun _ h => h, ?_⟩
    clear hK K
    (try simp only [Act.put, List.setIfInBounds_toArray, List.set_cons_succ, List.set_cons_zero])
    refine wpQuiet_nil ?_
    refine ⟨?_, ?_⟩
    · refine wpOp_step rfl (fun K hK => ?_)
      rw [if_pos (by rfl)]
      refine wpOm_copy HM (.tmp 18) (.tmp 20) rfl 21 rfl _ rfl b o cap rfl l HLL.out (fun i z hz => (HM.out.bel.cell (World.block_lt_of_cell? _ _ (HCC.out i z hz))).trans (HCC.out i z hz)) ?_
      intro V3 cur gc hcur hM
      (try simp only [List.cons_append, List.nil_append, List.set_cons_succ, List.set_cons_zero, Nat.reduceAdd] at hM)
      have HCU := Lib.hid hcur
      have HGN : Hid (w.heap.size ≤ _) := Lib.hid HM.out.size
      replace HM := hM
      clear hM hcur
      refine hK _ _ ⟨(fun y => ∃ q : CW [(⟨w.heap.size, 0, none⟩, .slice (some ⟨b, o, none⟩) 771 cap), (⟨w.heap.size, 1, none⟩, .slice (some ⟨b1, o1, none⟩) 33 cap1), (⟨w.heap.size, 2, none⟩, .slice (some ⟨b2, o2, none⟩) 33 cap2)], y = q.1), ⟨⟨_, (allc ((HM.out.hb 0 _ _ _ rfl).cell (k := 0) rfl) (allc ((HM.out.hb 0 _ _ _ rfl).cell (k := 1) rfl) (allc ((HM.out.hb 0 _ _ _ rfl).cell (k := 2) rfl) (alln _))))⟩, rfl⟩, fun _ h => h, ?_⟩
      clear hK K
      (try simp only [Act.put, List.setIfInBounds_toArray, List.set_cons_succ, List.set_cons_zero])
      repeat (go_big_quiet_step (fail))
      refine wpQuiet_nil ?_
      refine wpOp_step rfl (fun K hK => ?_)
      rw [if_pos (by rfl)]
      refine wpOm_al HM 35 rfl 7 rfl _ zer35 ?_
      intro V4 hM
      (try simp only [List.cons_append, List.nil_append, List.set_cons_succ, List.set_cons_zero, Nat.reduceAdd] at hM)
      replace HM := hM
      clear hM
      refine hK _ _ ⟨(fun y => ∃ q : CW [(⟨w.heap.size, 0, none⟩, .slice (some ⟨b, o, none⟩) 771 cap), (⟨w.heap.size, 1, none⟩, .slice (some ⟨b1, o1, none⟩) 33 cap1), (⟨w.heap.size, 2, none⟩, .slice (some ⟨b2, o2, none⟩) 33 cap2)], y = q.1), ⟨⟨_, (allc ((HM.out.hb 0 _ _ _ rfl).cell (k := 0) rfl) (allc ((HM.out.hb 0 _ _ _ rfl).cell (k := 1) rfl) (allc ((HM.out.hb 0 _ _ _ rfl).cell (k := 2) rfl) (alln _))))⟩, rfl⟩, fun _ h => h, ?_⟩
      clear hK K
      (try simp only [Act.put, List.setIfInBounds_toArray, List.set_cons_succ, List.set_cons_zero])
      refine wpQuiet_nil ?_
      refine wpOp_step rfl (fun K hK => ?_)
      rw [if_pos (by rfl)]
      refine wpOm_st HM 35 (.tmp 7) (.tmp 24) rfl rfl 5 rfl #[.slice (some ⟨_, 0, none⟩) 771 gc, .slice (some ⟨b1, o1, none⟩) 33 cap1, .slice (some ⟨b2, o2, none⟩) 33 cap2] rfl rfl 3 inf35 rfl rfl (w35_one _ _ _ _ _ _ _ _ _) ?_
      intro V5 hM
      (try simp only [List.cons_append, List.nil_append, List.set_cons_succ, List.set_cons_zero, Nat.reduceAdd] at hM)
      replace HM := hM
      clear hM
      refine hK _ _ ⟨(fun y => ∃ q : CW [(⟨w.heap.size, 0, none⟩, .slice (some ⟨b, o, none⟩) 771 cap), (⟨w.heap.size, 1, none⟩, .slice (some ⟨b1, o1, none⟩) 33 cap1), (⟨w.heap.size, 2, none⟩, .slice (some ⟨b2, o2, none⟩) 33 cap2)], y = q.1), ⟨⟨_, (allc ((HM.out.hb 0 _ _ _ rfl).cell (k := 0) rfl) (allc ((HM.out.hb 0 _ _ _ rfl).cell (k := 1) rfl) (allc ((HM.out.hb 0 _ _ _ rfl).cell (k := 2) rfl) (alln _))))⟩, rfl⟩, fun _ h => h, ?_⟩
      clear hK K
      (try simp only [Act.put, List.setIfInBounds_toArray, List.set_cons_succ, List.set_cons_zero])
      refine wpQuiet_nil ?_
      refine NoPanic.normal ?_
      have i0 := (HM.out.hb 1 _ _ _ rfl).cell (k := 0) (v := .int .i8 0) rfl
      have i1 := (HM.out.hb 1 _ _ _ rfl).cell (k := 1) (v := .int .i64 (n : Int)) rfl
      have i2 := (HM.out.hb 1 _ _ _ rfl).cell (k := 2) (v := .int .i64 0) rfl
      have i3 := (HM.out.hb 1 _ _ _ rfl).cell (k := 3) (v := .int .i64 0) rfl
      go_wp2_with fail
      clear i0 i1 i2 i3
      clear f0 f1 f2 HF
      replace HM := Lib.hid HM.out.drew
      have HF : Hid (∀ p ∈ ([(⟨V3.heap.size, 0, none⟩, .slice (some ⟨V2.heap.size, 0, none⟩) 771 gc), (⟨V3.heap.size, 1, none⟩, .slice (some ⟨b1, o1, none⟩) 33 cap1), (⟨V3.heap.size, 2, none⟩, .slice (some ⟨b2, o2, none⟩) 33 cap2), (⟨U1.heap.size, 1, none⟩, .int .i64 (n : Int)), (⟨V2.heap.size, n, none⟩, .int .i64 x)] : List (Addr × Value)), World.cell? _ p.1 = some p.2) := Lib.hid (allc ((HM.out.hb 5 _ _ _ rfl).cell (k := 0) rfl) (allc ((HM.out.hb 5 _ _ _ rfl).cell (k := 1) rfl) (allc ((HM.out.hb 5 _ _ _ rfl).cell (k := 2) rfl) (allc ((HM.out.hb 1 _ _ _ rfl).cell (k := 1) rfl) (allc ((HM.out.hb 4 _ _ _ rfl).cell (k := n) (HCU.out n x HX.out)) (alln _))))))
      haveI : Inhabited (CW [(⟨V3.heap.size, 0, none⟩, .slice (some ⟨V2.heap.size, 0, none⟩) 771 gc), (⟨V3.heap.size, 1, none⟩, .slice (some ⟨b1, o1, none⟩) 33 cap1), (⟨V3.heap.size, 2, none⟩, .slice (some ⟨b2, o2, none⟩) 33 cap2), (⟨U1.heap.size, 1, none⟩, .int .i64 (n : Int)), (⟨V2.heap.size, n, none⟩, .int .i64 x)]) := ⟨⟨_, HF.out⟩⟩
      have f0 : ∀ q : CW [(⟨V3.heap.size, 0, none⟩, .slice (some ⟨V2.heap.size, 0, none⟩) 771 gc), (⟨V3.heap.size, 1, none⟩, .slice (some ⟨b1, o1, none⟩) 33 cap1), (⟨V3.heap.size, 2, none⟩, .slice (some ⟨b2, o2, none⟩) 33 cap2), (⟨U1.heap.size, 1, none⟩, .int .i64 (n : Int)), (⟨V2.heap.size, n, none⟩, .int .i64 x)], q.1.cell? ⟨V3.heap.size, 0, none⟩ = some (.slice (some ⟨V2.heap.size, 0, none⟩) 771 gc) := fun q => q.2 (⟨V3.heap.size, 0, none⟩, .slice (some ⟨V2.heap.size, 0, none⟩) 771 gc) (by simp)
      have f1 : ∀ q : CW [(⟨V3.heap.size, 0, none⟩, .slice (some ⟨V2.heap.size, 0, none⟩) 771 gc), (⟨V3.heap.size, 1, none⟩, .slice (some ⟨b1, o1, none⟩) 33 cap1), (⟨V3.heap.size, 2, none⟩, .slice (some ⟨b2, o2, none⟩) 33 cap2), (⟨U1.heap.size, 1, none⟩, .int .i64 (n : Int)), (⟨V2.heap.size, n, none⟩, .int .i64 x)], q.1.cell? ⟨V3.heap.size, 1, none⟩ = some (.slice (some ⟨b1, o1, none⟩) 33 cap1) := fun q => q.2 (⟨V3.heap.size, 1, none⟩, .slice (some ⟨b1, o1, none⟩) 33 cap1) (by simp)
      have f2 : ∀ q : CW [(⟨V3.heap.size, 0, none⟩, .slice (some ⟨V2.heap.size, 0, none⟩) 771 gc), (⟨V3.heap.size, 1, none⟩, .slice (some ⟨b1, o1, none⟩) 33 cap1), (⟨V3.heap.size, 2, none⟩, .slice (some ⟨b2, o2, none⟩) 33 cap2), (⟨U1.heap.size, 1, none⟩, .int .i64 (n : Int)), (⟨V2.heap.size, n, none⟩, .int .i64 x)], q.1.cell? ⟨V3.heap.size, 2, none⟩ = some (.slice (some ⟨b2, o2, none⟩) 33 cap2) := fun q => q.2 (⟨V3.heap.size, 2, none⟩, .slice (some ⟨b2, o2, none⟩) 33 cap2) (by simp)
      have f3 : ∀ q : CW [(⟨V3.heap.size, 0, none⟩, .slice (some ⟨V2.heap.size, 0, none⟩) 771 gc), (⟨V3.heap.size, 1, none⟩, .slice (some ⟨b1, o1, none⟩) 33 cap1), (⟨V3.heap.size, 2, none⟩, .slice (some ⟨b2, o2, none⟩) 33 cap2), (⟨U1.heap.size, 1, none⟩, .int .i64 (n : Int)), (⟨V2.heap.size, n, none⟩, .int .i64 x)], q.1.cell? ⟨U1.heap.size, 1, none⟩ = some (.int .i64 (n : Int)) := fun q => q.2 (⟨U1.heap.size, 1, none⟩, .int .i64 (n : Int)) (by simp)
      have f4 : ∀ q : CW [(⟨V3.heap.size, 0, none⟩, .slice (some ⟨V2.heap.size, 0, none⟩) 771 gc), (⟨V3.heap.size, 1, none⟩, .slice (some ⟨b1, o1, none⟩) 33 cap1), (⟨V3.heap.size, 2, none⟩, .slice (some ⟨b2, o2, none⟩) 33 cap2), (⟨U1.heap.size, 1, none⟩, .int .i64 (n : Int)), (⟨V2.heap.size, n, none⟩, .int .i64 x)], q.1.cell? ⟨V2.heap.size, n, none⟩ = some (.int .i64 x) := fun q => q.2 (⟨V2.heap.size, n, none⟩, .int .i64 x) (by simp)
      (try simp only [Act.put, List.setIfInBounds_toArray, List.set_cons_succ, List.set_cons_zero])
      refine wp_region_noPanic ?_
      refine wp_region_plw (.step [true, true, true, true, true, true, true] (.cons 7 (.last [false, false, false, false, false, false, false, false, true, true]) .nil)) (fun y => ∃ q : CW [(⟨V3.heap.size, 0, none⟩, .slice (some ⟨V2.heap.size, 0, none⟩) 771 gc), (⟨V3.heap.size, 1, none⟩, .slice (some ⟨b1, o1, none⟩) 33 cap1), (⟨V3.heap.size, 2, none⟩, .slice (some ⟨b2, o2, none⟩) 33 cap2), (⟨U1.heap.size, 1, none⟩, .int .i64 (n : Int)), (⟨V2.heap.size, n, none⟩, .int .i64 x)], y = q.1) (by kernel_rfl) (by kernel_rfl) (by kernel_rfl) (fun _ _ _ _ _ _ _ h => h) ⟨⟨_, HF.out⟩, rfl⟩ ?_
      simp only [wpPw, wpBw, selF, and_true]
      repeat (go_big_quiet_step (fail))
      refine wpQuiet_nil ?_
      refine wpOp_step rfl (fun K hK => ?_)
      rw [if_pos (by rfl)]
      refine wpOm_st HM 35 (.tmp 4) (.tmp 29) rfl rfl 2 rfl #[.slice (some ⟨_, 0, none⟩) 771 gc, .slice (some ⟨b1, o1, none⟩) 33 cap1, .slice (some ⟨b2, o2, none⟩) 33 cap2] rfl rfl 3 inf35 rfl rfl (w35_one _ _ _ _ _ _ _ _ _) ?_
      intro V6 hM
      (try simp only [List.cons_append, List.nil_append, List.set_cons_succ, List.set_cons_zero, Nat.reduceAdd] at hM)
      replace HM := hM
      clear hM
      refine hK _ _ ⟨(fun y => ∃ q : CW [(⟨V3.heap.size, 0, none⟩, .slice (some ⟨V2.heap.size, 0, none⟩) 771 gc), (⟨V3.heap.size, 1, none⟩, .slice (some ⟨b1, o1, none⟩) 33 cap1), (⟨V3.heap.size, 2, none⟩, .slice (some ⟨b2, o2, none⟩) 33 cap2), (⟨U1.heap.size, 1, none⟩, .int .i64 (n : Int)), (⟨V2.heap.size, n, none⟩, .int .i64 x)], y = q.1), ⟨⟨_, (allc ((HM.out.hb 5 _ _ _ rfl).cell (k := 0) rfl) (allc ((HM.out.hb 5 _ _ _ rfl).cell (k := 1) rfl) (allc ((HM.out.hb 5 _ _ _ rfl).cell (k := 2) rfl) (allc ((HM.out.hb 1 _ _ _ rfl).cell (k := 1) rfl) (allc ((HM.out.hb 4 _ _ _ rfl).cell (k := n) (HCU.out n x HX.out)) (alln _))))))⟩, rfl⟩, fun _ h => h, ?_⟩
      clear hK K
      (try simp only [Act.put, List.setIfInBounds_toArray, List.set_cons_succ, List.set_cons_zero])
      repeat (go_big_quiet_step (fail))
      refine wpQuiet_nil ?_
      refine NoPanic.normal ?_
      go_wp2_with fail
      (try simp only [Exit.inBlock, Exit.then])
      refine bodyPost_ret (res_ctt rfl _ _ _ _ _ _ rfl rfl rfl ((HM.out.hb 2 _ _ _ rfl).load35 rfl)) rfl ?_
      refine ⟨⟨_, rfl, _, 0, gc, rfl, HP.out _ HGN.out, by simp [HLL.out], fun i z hz => ?_, HSF.out⟩, HM.out.bel⟩
      rw [Nat.zero_add]
      exact (HM.out.hb 4 _ _ _ rfl).cell (HCU.out i z hz)
    · refine wpOp_step rfl (fun K hK => ?_)
      rw [if_pos (by rfl)]
      refine wpOm_al HM 35 rfl 7 rfl _ zer35 ?_
      intro V7 hM
      (try simp only [List.cons_append, List.nil_append, List.set_cons_succ, List.set_cons_zero, Nat.reduceAdd] at hM)
      replace HM := hM
      clear hM
      refine hK _ _ ⟨(fun y => ∃ q : CW [(⟨w.heap.size, 0, none⟩, .slice (some ⟨b, o, none⟩) 771 cap), (⟨w.heap.size, 1, none⟩, .slice (some ⟨b1, o1, none⟩) 33 cap1), (⟨w.heap.size, 2, none⟩, .slice (some ⟨b2, o2, none⟩) 33 cap2)], y = q.1), ⟨⟨_, (allc ((HM.out.hb 0 _ _ _ rfl).cell (k := 0) rfl) (allc ((HM.out.hb 0 _ _ _ rfl).cell (k := 1) rfl) (allc ((HM.out.hb 0 _ _ _ rfl).cell (k := 2) rfl) (alln _))))⟩, rfl⟩, fun _ h => h, ?_⟩
      clear hK K
      (try simp only [Act.put, List.setIfInBounds_toArray, List.set_cons_succ, List.set_cons_zero])
      refine wpQuiet_nil ?_
      refine wpOp_step rfl (fun K hK => ?_)
      rw [if_pos (by rfl)]
      refine wpOm_copy HM (.tmp 18) (.tmp 20) rfl 21 rfl _ rfl b o cap rfl l HLL.out (fun i z hz => (HM.out.bel.cell (World.block_lt_of_cell? _ _ (HCC.out i z hz))).trans (HCC.out i z hz)) ?_
      intro V8 cur gc hcur hM
      (try simp only [List.cons_append, List.nil_append, List.set_cons_succ, List.set_cons_zero, Nat.reduceAdd] at hM)
      have HCU := Lib.hid hcur
      have HGN : Hid (w.heap.size ≤ _) := Lib.hid HM.out.size
      replace HM := hM
      clear hM hcur
      refine hK _ _ ⟨(fun y => ∃ q : CW [(⟨w.heap.size, 0, none⟩, .slice (some ⟨b, o, none⟩) 771 cap), (⟨w.heap.size, 1, none⟩, .slice (some ⟨b1, o1, none⟩) 33 cap1), (⟨w.heap.size, 2, none⟩, .slice (some ⟨b2, o2, none⟩) 33 cap2)], y = q.1), ⟨⟨_, (allc ((HM.out.hb 0 _ _ _ rfl).cell (k := 0) rfl) (allc ((HM.out.hb 0 _ _ _ rfl).cell (k := 1) rfl) (allc ((HM.out.hb 0 _ _ _ rfl).cell (k := 2) rfl) (alln _))))⟩, rfl⟩, fun _ h => h, ?_⟩
      clear hK K
      (try simp only [Act.put, List.setIfInBounds_toArray, List.set_cons_succ, List.set_cons_zero])
      repeat (go_big_quiet_step (fail))
      refine wpQuiet_nil ?_
      refine wpOp_step rfl (fun K hK => ?_)
      rw [if_pos (by rfl)]
      refine wpOm_st HM 35 (.tmp 7) (.tmp 24) rfl rfl 4 rfl #[.slice (some ⟨_, 0, none⟩) 771 gc, .slice (some ⟨b1, o1, none⟩) 33 cap1, .slice (some ⟨b2, o2, none⟩) 33 cap2] rfl rfl 3 inf35 rfl rfl (w35_one _ _ _ _ _ _ _ _ _) ?_
      intro V9 hM
      (try simp only [List.cons_append, List.nil_append, List.set_cons_succ, List.set_cons_zero, Nat.reduceAdd] at hM)
      replace HM := hM
      clear hM
      refine hK _ _ ⟨(fun y => ∃ q : CW [(⟨w.heap.size, 0, none⟩, .slice (some ⟨b, o, none⟩) 771 cap), (⟨w.heap.size, 1, none⟩, .slice (some ⟨b1, o1, none⟩) 33 cap1), (⟨w.heap.size, 2, none⟩, .slice (some ⟨b2, o2, none⟩) 33 cap2)], y = q.1), ⟨⟨_, (allc ((HM.out.hb 0 _ _ _ rfl).cell (k := 0) rfl) (allc ((HM.out.hb 0 _ _ _ rfl).cell (k := 1) rfl) (allc ((HM.out.hb 0 _ _ _ rfl).cell (k := 2) rfl) (alln _))))⟩, rfl⟩, fun _ h => h, ?_⟩
      clear hK K
      (try simp only [Act.put, List.setIfInBounds_toArray, List.set_cons_succ, List.set_cons_zero])
      refine wpQuiet_nil ?_
      refine NoPanic.normal ?_
      have i0 := (HM.out.hb 1 _ _ _ rfl).cell (k := 0) (v := .int .i8 0) rfl
      have i1 := (HM.out.hb 1 _ _ _ rfl).cell (k := 1) (v := .int .i64 (n : Int)) rfl
      have i2 := (HM.out.hb 1 _ _ _ rfl).cell (k := 2) (v := .int .i64 0) rfl
      have i3 := (HM.out.hb 1 _ _ _ rfl).cell (k := 3) (v := .int .i64 0) rfl
      go_wp2_with fail
      clear i0 i1 i2 i3
      clear f0 f1 f2 HF
      replace HM := Lib.hid HM.out.drew
      have HF : Hid (∀ p ∈ ([(⟨V2.heap.size, 0, none⟩, .slice (some ⟨V7.heap.size, 0, none⟩) 771 gc), (⟨V2.heap.size, 1, none⟩, .slice (some ⟨b1, o1, none⟩) 33 cap1), (⟨V2.heap.size, 2, none⟩, .slice (some ⟨b2, o2, none⟩) 33 cap2), (⟨U1.heap.size, 1, none⟩, .int .i64 (n : Int)), (⟨V7.heap.size, n, none⟩, .int .i64 x)] : List (Addr × Value)), World.cell? _ p.1 = some p.2) := Lib.hid (allc ((HM.out.hb 4 _ _ _ rfl).cell (k := 0) rfl) (allc ((HM.out.hb 4 _ _ _ rfl).cell (k := 1) rfl) (allc ((HM.out.hb 4 _ _ _ rfl).cell (k := 2) rfl) (allc ((HM.out.hb 1 _ _ _ rfl).cell (k := 1) rfl) (allc ((HM.out.hb 5 _ _ _ rfl).cell (k := n) (HCU.out n x HX.out)) (alln _))))))
      haveI : Inhabited (CW [(⟨V2.heap.size, 0, none⟩, .slice (some ⟨V7.heap.size, 0, none⟩) 771 gc), (⟨V2.heap.size, 1, none⟩, .slice (some ⟨b1, o1, none⟩) 33 cap1), (⟨V2.heap.size, 2, none⟩, .slice (some ⟨b2, o2, none⟩) 33 cap2), (⟨U1.heap.size, 1, none⟩, .int .i64 (n : Int)), (⟨V7.heap.size, n, none⟩, .int .i64 x)]) := ⟨⟨_, HF.out⟩⟩
      have f0 : ∀ q : CW [(⟨V2.heap.size, 0, none⟩, .slice (some ⟨V7.heap.size, 0, none⟩) 771 gc), (⟨V2.heap.size, 1, none⟩, .slice (some ⟨b1, o1, none⟩) 33 cap1), (⟨V2.heap.size, 2, none⟩, .slice (some ⟨b2, o2, none⟩) 33 cap2), (⟨U1.heap.size, 1, none⟩, .int .i64 (n : Int)), (⟨V7.heap.size, n, none⟩, .int .i64 x)], q.1.cell? ⟨V2.heap.size, 0, none⟩ = some (.slice (some ⟨V7.heap.size, 0, none⟩) 771 gc) := fun q => q.2 (⟨V2.heap.size, 0, none⟩, .slice (some ⟨V7.heap.size, 0, none⟩) 771 gc) (by simp)
      have f1 : ∀ q : CW [(⟨V2.heap.size, 0, none⟩, .slice (some ⟨V7.heap.size, 0, none⟩) 771 gc), (⟨V2.heap.size, 1, none⟩, .slice (some ⟨b1, o1, none⟩) 33 cap1), (⟨V2.heap.size, 2, none⟩, .slice (some ⟨b2, o2, none⟩) 33 cap2), (⟨U1.heap.size, 1, none⟩, .int .i64 (n : Int)), (⟨V7.heap.size, n, none⟩, .int .i64 x)], q.1.cell? ⟨V2.heap.size, 1, none⟩ = some (.slice (some ⟨b1, o1, none⟩) 33 cap1) := fun q => q.2 (⟨V2.heap.size, 1, none⟩, .slice (some ⟨b1, o1, none⟩) 33 cap1) (by simp)
      have f2 : ∀ q : CW [(⟨V2.heap.size, 0, none⟩, .slice (some ⟨V7.heap.size, 0, none⟩) 771 gc), (⟨V2.heap.size, 1, none⟩, .slice (some ⟨b1, o1, none⟩) 33 cap1), (⟨V2.heap.size, 2, none⟩, .slice (some ⟨b2, o2, none⟩) 33 cap2), (⟨U1.heap.size, 1, none⟩, .int .i64 (n : Int)), (⟨V7.heap.size, n, none⟩, .int .i64 x)], q.1.cell? ⟨V2.heap.size, 2, none⟩ = some (.slice (some ⟨b2, o2, none⟩) 33 cap2) := fun q => q.2 (⟨V2.heap.size, 2, none⟩, .slice (some ⟨b2, o2, none⟩) 33 cap2) (by simp)
      have f3 : ∀ q : CW [(⟨V2.heap.size, 0, none⟩, .slice (some ⟨V7.heap.size, 0, none⟩) 771 gc), (⟨V2.heap.size, 1, none⟩, .slice (some ⟨b1, o1, none⟩) 33 cap1), (⟨V2.heap.size, 2, none⟩, .slice (some ⟨b2, o2, none⟩) 33 cap2), (⟨U1.heap.size, 1, none⟩, .int .i64 (n : Int)), (⟨V7.heap.size, n, none⟩, .int .i64 x)], q.1.cell? ⟨U1.heap.size, 1, none⟩ = some (.int .i64 (n : Int)) := fun q => q.2 (⟨U1.heap.size, 1, none⟩, .int .i64 (n : Int)) (by simp)
      have f4 : ∀ q : CW [(⟨V2.heap.size, 0, none⟩, .slice (some ⟨V7.heap.size, 0, none⟩) 771 gc), (⟨V2.heap.size, 1, none⟩, .slice (some ⟨b1, o1, none⟩) 33 cap1), (⟨V2.heap.size, 2, none⟩, .slice (some ⟨b2, o2, none⟩) 33 cap2), (⟨U1.heap.size, 1, none⟩, .int .i64 (n : Int)), (⟨V7.heap.size, n, none⟩, .int .i64 x)], q.1.cell? ⟨V7.heap.size, n, none⟩ = some (.int .i64 x) := fun q => q.2 (⟨V7.heap.size, n, none⟩, .int .i64 x) (by simp)
      (try simp only [Act.put, List.setIfInBounds_toArray, List.set_cons_succ, List.set_cons_zero])
      refine wp_region_noPanic ?_
      refine wp_region_plw (.step [true, true, true, true, true, true, true] (.cons 7 (.last [false, false, false, false, false, false, false, false, true, true]) .nil)) (fun y => ∃ q : CW [(⟨V2.heap.size, 0, none⟩, .slice (some ⟨V7.heap.size, 0, none⟩) 771 gc), (⟨V2.heap.size, 1, none⟩, .slice (some ⟨b1, o1, none⟩) 33 cap1), (⟨V2.heap.size, 2, none⟩, .slice (some ⟨b2, o2, none⟩) 33 cap2), (⟨U1.heap.size, 1, none⟩, .int .i64 (n : Int)), (⟨V7.heap.size, n, none⟩, .int .i64 x)], y = q.1) (by kernel_rfl) (by kernel_rfl) (by kernel_rfl) (fun _ _ _ _ _ _ _ h => h) ⟨⟨_, HF.out⟩, rfl⟩ ?_
      simp only [wpPw, wpBw, selF, and_true]
      repeat (go_big_quiet_step (fail))
      refine wpQuiet_nil ?_
      refine wpOp_step rfl (fun K hK => ?_)
      rw [if_pos (by rfl)]
      refine wpOm_st HM 35 (.tmp 4) (.tmp 29) rfl rfl 2 rfl #[.slice (some ⟨_, 0, none⟩) 771 gc, .slice (some ⟨b1, o1, none⟩) 33 cap1, .slice (some ⟨b2, o2, none⟩) 33 cap2] rfl rfl 3 inf35 rfl rfl (w35_one _ _ _ _ _ _ _ _ _) ?_
      intro V10 hM
      (try simp only [List.cons_append, List.nil_append, List.set_cons_succ, List.set_cons_zero, Nat.reduceAdd] at hM)
      replace HM := hM
      clear hM
      refine hK _ _ ⟨(fun y => ∃ q : CW [(⟨V2.heap.size, 0, none⟩, .slice (some ⟨V7.heap.size, 0, none⟩) 771 gc), (⟨V2.heap.size, 1, none⟩, .slice (some ⟨b1, o1, none⟩) 33 cap1), (⟨V2.heap.size, 2, none⟩, .slice (some ⟨b2, o2, none⟩) 33 cap2), (⟨U1.heap.size, 1, none⟩, .int .i64 (n : Int)), (⟨V7.heap.size, n, none⟩, .int .i64 x)], y = q.1), ⟨⟨_, (allc ((HM.out.hb 4 _ _ _ rfl).cell (k := 0) rfl) (allc ((HM.out.hb 4 _ _ _ rfl).cell (k := 1) rfl) (allc ((HM.out.hb 4 _ _ _ rfl).cell (k := 2) rfl) (allc ((HM.out.hb 1 _ _ _ rfl).cell (k := 1) rfl) (allc ((HM.out.hb 5 _ _ _ rfl).cell (k := n) (HCU.out n x HX.out)) (alln _))))))⟩, rfl⟩, fun _ h => h, ?_⟩
      clear hK K
      (try simp only [Act.put, List.setIfInBounds_toArray, List.set_cons_succ, List.set_cons_zero])
      repeat (go_big_quiet_step (fail))
      refine wpQuiet_nil ?_
      refine NoPanic.normal ?_
      go_wp2_with fail
      (try simp only [Exit.inBlock, Exit.then])
      refine bodyPost_ret (res_ctt rfl _ _ _ _ _ _ rfl rfl rfl ((HM.out.hb 2 _ _ _ rfl).load35 rfl)) rfl ?_
      refine ⟨⟨_, rfl, _, 0, gc, rfl, HP.out _ HGN.out, by simp [HLL.out], fun i z hz => ?_, HSF.out⟩, HM.out.bel⟩
      rw [Nat.zero_add]
      exact (HM.out.hb 5 _ _ _ rfl).cell (HCU.out i z hz)
  · refine wpOp_step rfl (fun K hK => ?_)
    rw [if_pos (by rfl)]
    refine wpOm_al HM 35 rfl 7 rfl _ zer35 ?_
    intro V11 hM
    (try simp only [List.cons_append, List.nil_append, List.set_cons_succ, List.set_cons_zero, Nat.reduceAdd] at hM)
    replace HM := hM
    clear hM
    refine hK _ _ ⟨(fun y => ∃ q : CW [(⟨w.heap.size, 0, none⟩, .slice (some ⟨b, o, none⟩) 771 cap), (⟨w.heap.size, 1, none⟩, .slice (some ⟨b1, o1, none⟩) 33 cap1), (⟨w.heap.size, 2, none⟩, .slice (some ⟨b2, o2, none⟩) 33 cap2)], y = q.1), ⟨⟨_, (allc ((HM.out.hb 0 _ _ _ rfl).cell (k := 0) rfl) (allc ((HM.out.hb 0 _ _ _ rfl).cell (k := 1) rfl) (allc ((HM.out.hb 0 _ _ _ rfl).cell (k := 2) rfl) (alln _))))⟩, rfl⟩, fun _ h => h, ?_⟩
    clear hK K
    (try simp only [Act.put, List.setIfInBounds_toArray, List.set_cons_succ, List.set_cons_zero])
    refine wpQuiet_nil ?_
    refine wpOp_step rfl (fun K hK => ?_)
    rw [if_pos (by rfl)]
    refine wpOm_bs0 HM rfl 18 rfl ?_
    intro V12 hM
    (try simp only [List.cons_append, List.nil_append, List.set_cons_succ, List.set_cons_zero, Nat.reduceAdd] at hM)
    replace HM := hM
    clear hM
    refine hK _ _ ⟨(fun y => ∃ q : CW [(⟨w.heap.size, 0, none⟩, .slice (some ⟨b, o, none⟩) 771 cap), (⟨w.heap.size, 1, none⟩, .slice (some ⟨b1, o1, none⟩) 33 cap1), (⟨w.heap.size, 2, none⟩, .slice (some ⟨b2, o2, none⟩) 33 cap2)], y = q.1), ⟨⟨_, (allc ((HM.out.hb 0 _ _ _ rfl).cell (k := 0) rfl) (allc ((HM.out.hb 0 _ _ _ rfl).cell (k := 1) rfl) (allc ((HM.out.hb 0 _ _ _ rfl).cell (k := 2) rfl) (alln _))))⟩, rfl⟩, fun _ h => h, ?_⟩
    clear hK K
    (try simp only [Act.put, List.setIfInBounds_toArray, List.set_cons_succ, List.set_cons_zero])
    refine wpQuiet_nil ?_
    refine wpOp_step rfl (fun K hK => ?_)
    rw [if_pos (by rfl)]
    refine wpOm_copy HM (.tmp 18) (.tmp 20) rfl 21 rfl _ rfl b o cap rfl l HLL.out (fun i z hz => (HM.out.bel.cell (World.block_lt_of_cell? _ _ (HCC.out i z hz))).trans (HCC.out i z hz)) ?_
    intro V13 cur gc hcur hM
    (try simp only [List.cons_append, List.nil_append, List.set_cons_succ, List.set_cons_zero, Nat.reduceAdd] at hM)
    have HCU := Lib.hid hcur
    have HGN : Hid (w.heap.size ≤ _) := Lib.hid HM.out.size
    replace HM := hM
    clear hM hcur
    refine hK _ _ ⟨(fun y => ∃ q : CW [(⟨w.heap.size, 0, none⟩, .slice (some ⟨b, o, none⟩) 771 cap), (⟨w.heap.size, 1, none⟩, .slice (some ⟨b1, o1, none⟩) 33 cap1), (⟨w.heap.size, 2, none⟩, .slice (some ⟨b2, o2, none⟩) 33 cap2)], y = q.1), ⟨⟨_, (allc ((HM.out.hb 0 _ _ _ rfl).cell (k := 0) rfl) (allc ((HM.out.hb 0 _ _ _ rfl).cell (k := 1) rfl) (allc ((HM.out.hb 0 _ _ _ rfl).cell (k := 2) rfl) (alln _))))⟩, rfl⟩, fun _ h => h, ?_⟩
    clear hK K
    (try simp only [Act.put, List.setIfInBounds_toArray, List.set_cons_succ, List.set_cons_zero])
    repeat (go_big_quiet_step (fail))
    refine wpQuiet_nil ?_
    refine wpOp_step rfl (fun K hK => ?_)
    rw [if_pos (by rfl)]
    refine wpOm_st HM 35 (.tmp 7) (.tmp 24) rfl rfl 3 rfl #[.slice (some ⟨_, 0, none⟩) 771 gc, .slice (some ⟨b1, o1, none⟩) 33 cap1, .slice (some ⟨b2, o2, none⟩) 33 cap2] rfl rfl 3 inf35 rfl rfl (w35_one _ _ _ _ _ _ _ _ _) ?_
    intro V14 hM
    (try simp only [List.cons_append, List.nil_append, List.set_cons_succ, List.set_cons_zero, Nat.reduceAdd] at hM)
    replace HM := hM
    clear hM
    refine hK _ _ ⟨(fun y => ∃ q : CW [(⟨w.heap.size, 0, none⟩, .slice (some ⟨b, o, none⟩) 771 cap), (⟨w.heap.size, 1, none⟩, .slice (some ⟨b1, o1, none⟩) 33 cap1), (⟨w.heap.size, 2, none⟩, .slice (some ⟨b2, o2, none⟩) 33 cap2)], y = q.1), ⟨⟨_, (allc ((HM.out.hb 0 _ _ _ rfl).cell (k := 0) rfl) (allc ((HM.out.hb 0 _ _ _ rfl).cell (k := 1) rfl) (allc ((HM.out.hb 0 _ _ _ rfl).cell (k := 2) rfl) (alln _))))⟩, rfl⟩, fun _ h => h, ?_⟩
    clear hK K
    (try simp only [Act.put, List.setIfInBounds_toArray, List.set_cons_succ, List.set_cons_zero])
    refine wpQuiet_nil ?_
    refine NoPanic.normal ?_
    have i0 := (HM.out.hb 1 _ _ _ rfl).cell (k := 0) (v := .int .i8 0) rfl
    have i1 := (HM.out.hb 1 _ _ _ rfl).cell (k := 1) (v := .int .i64 (n : Int)) rfl
    have i2 := (HM.out.hb 1 _ _ _ rfl).cell (k := 2) (v := .int .i64 0) rfl
    have i3 := (HM.out.hb 1 _ _ _ rfl).cell (k := 3) (v := .int .i64 0) rfl
    go_wp2_with fail
    clear i0 i1 i2 i3
    clear f0 f1 f2 HF
    replace HM := Lib.hid HM.out.drew
    have HF : Hid (∀ p ∈ ([(⟨V1.heap.size, 0, none⟩, .slice (some ⟨V12.heap.size, 0, none⟩) 771 gc), (⟨V1.heap.size, 1, none⟩, .slice (some ⟨b1, o1, none⟩) 33 cap1), (⟨V1.heap.size, 2, none⟩, .slice (some ⟨b2, o2, none⟩) 33 cap2), (⟨U1.heap.size, 1, none⟩, .int .i64 (n : Int)), (⟨V12.heap.size, n, none⟩, .int .i64 x)] : List (Addr × Value)), World.cell? _ p.1 = some p.2) := Lib.hid (allc ((HM.out.hb 3 _ _ _ rfl).cell (k := 0) rfl) (allc ((HM.out.hb 3 _ _ _ rfl).cell (k := 1) rfl) (allc ((HM.out.hb 3 _ _ _ rfl).cell (k := 2) rfl) (allc ((HM.out.hb 1 _ _ _ rfl).cell (k := 1) rfl) (allc ((HM.out.hb 5 _ _ _ rfl).cell (k := n) (HCU.out n x HX.out)) (alln _))))))
    haveI : Inhabited (CW [(⟨V1.heap.size, 0, none⟩, .slice (some ⟨V12.heap.size, 0, none⟩) 771 gc), (⟨V1.heap.size, 1, none⟩, .slice (some ⟨b1, o1, none⟩) 33 cap1), (⟨V1.heap.size, 2, none⟩, .slice (some ⟨b2, o2, none⟩) 33 cap2), (⟨U1.heap.size, 1, none⟩, .int .i64 (n : Int)), (⟨V12.heap.size, n, none⟩, .int .i64 x)]) := ⟨⟨_, HF.out⟩⟩
    have f0 : ∀ q : CW [(⟨V1.heap.size, 0, none⟩, .slice (some ⟨V12.heap.size, 0, none⟩) 771 gc), (⟨V1.heap.size, 1, none⟩, .slice (some ⟨b1, o1, none⟩) 33 cap1), (⟨V1.heap.size, 2, none⟩, .slice (some ⟨b2, o2, none⟩) 33 cap2), (⟨U1.heap.size, 1, none⟩, .int .i64 (n : Int)), (⟨V12.heap.size, n, none⟩, .int .i64 x)], q.1.cell? ⟨V1.heap.size, 0, none⟩ = some (.slice (some ⟨V12.heap.size, 0, none⟩) 771 gc) := fun q => q.2 (⟨V1.heap.size, 0, none⟩, .slice (some ⟨V12.heap.size, 0, none⟩) 771 gc) (by simp)
    have f1 : ∀ q : CW [(⟨V1.heap.size, 0, none⟩, .slice (some ⟨V12.heap.size, 0, none⟩) 771 gc), (⟨V1.heap.size, 1, none⟩, .slice (some ⟨b1, o1, none⟩) 33 cap1), (⟨V1.heap.size, 2, none⟩, .slice (some ⟨b2, o2, none⟩) 33 cap2), (⟨U1.heap.size, 1, none⟩, .int .i64 (n : Int)), (⟨V12.heap.size, n, none⟩, .int .i64 x)], q.1.cell? ⟨V1.heap.size, 1, none⟩ = some (.slice (some ⟨b1, o1, none⟩) 33 cap1) := fun q => q.2 (⟨V1.heap.size, 1, none⟩, .slice (some ⟨b1, o1, none⟩) 33 cap1) (by simp)
    have f2 : ∀ q : CW [(⟨V1.heap.size, 0, none⟩, .slice (some ⟨V12.heap.size, 0, none⟩) 771 gc), (⟨V1.heap.size, 1, none⟩, .slice (some ⟨b1, o1, none⟩) 33 cap1), (⟨V1.heap.size, 2, none⟩, .slice (some ⟨b2, o2, none⟩) 33 cap2), (⟨U1.heap.size, 1, none⟩, .int .i64 (n : Int)), (⟨V12.heap.size, n, none⟩, .int .i64 x)], q.1.cell? ⟨V1.heap.size, 2, none⟩ = some (.slice (some ⟨b2, o2, none⟩) 33 cap2) := fun q => q.2 (⟨V1.heap.size, 2, none⟩, .slice (some ⟨b2, o2, none⟩) 33 cap2) (by simp)
    have f3 : ∀ q : CW [(⟨V1.heap.size, 0, none⟩, .slice (some ⟨V12.heap.size, 0, none⟩) 771 gc), (⟨V1.heap.size, 1, none⟩, .slice (some ⟨b1, o1, none⟩) 33 cap1), (⟨V1.heap.size, 2, none⟩, .slice (some ⟨b2, o2, none⟩) 33 cap2), (⟨U1.heap.size, 1, none⟩, .int .i64 (n : Int)), (⟨V12.heap.size, n, none⟩, .int .i64 x)], q.1.cell? ⟨U1.heap.size, 1, none⟩ = some (.int .i64 (n : Int)) := fun q => q.2 (⟨U1.heap.size, 1, none⟩, .int .i64 (n : Int)) (by simp)
    have f4 : ∀ q : CW [(⟨V1.heap.size, 0, none⟩, .slice (some ⟨V12.heap.size, 0, none⟩) 771 gc), (⟨V1.heap.size, 1, none⟩, .slice (some ⟨b1, o1, none⟩) 33 cap1), (⟨V1.heap.size, 2, none⟩, .slice (some ⟨b2, o2, none⟩) 33 cap2), (⟨U1.heap.size, 1, none⟩, .int .i64 (n : Int)), (⟨V12.heap.size, n, none⟩, .int .i64 x)], q.1.cell? ⟨V12.heap.size, n, none⟩ = some (.int .i64 x) := fun q => q.2 (⟨V12.heap.size, n, none⟩, .int .i64 x) (by simp)
    (try simp only [Act.put, List.setIfInBounds_toArray, List.set_cons_succ, List.set_cons_zero])
    refine wp_region_noPanic ?_
    refine wp_region_plw (.step [true, true, true, true, true, true, true] (.cons 7 (.last [false, false, false, false, false, false, false, false, true, true]) .nil)) (fun y => ∃ q : CW [(⟨V1.heap.size, 0, none⟩, .slice (some ⟨V12.heap.size, 0, none⟩) 771 gc), (⟨V1.heap.size, 1, none⟩, .slice (some ⟨b1, o1, none⟩) 33 cap1), (⟨V1.heap.size, 2, none⟩, .slice (some ⟨b2, o2, none⟩) 33 cap2), (⟨U1.heap.size, 1, none⟩, .int .i64 (n : Int)), (⟨V12.heap.size, n, none⟩, .int .i64 x)], y = q.1) (by kernel_rfl) (by kernel_rfl) (by kernel_rfl) (fun _ _ _ _ _ _ _ h => h) ⟨⟨_, HF.out⟩, rfl⟩ ?_
    simp only [wpPw, wpBw, selF, and_true]
    repeat (go_big_quiet_step (fail))
    refine wpQuiet_nil ?_
    refine wpOp_step rfl (fun K hK => ?_)
    rw [if_pos (by rfl)]
    refine wpOm_st HM 35 (.tmp 4) (.tmp 29) rfl rfl 2 rfl #[.slice (some ⟨_, 0, none⟩) 771 gc, .slice (some ⟨b1, o1, none⟩) 33 cap1, .slice (some ⟨b2, o2, none⟩) 33 cap2] rfl rfl 3 inf35 rfl rfl (w35_one _ _ _ _ _ _ _ _ _) ?_
    intro V15 hM
    (try simp only [List.cons_append, List.nil_append, List.set_cons_succ, List.set_cons_zero, Nat.reduceAdd] at hM)
    replace HM := hM
    clear hM
    refine hK _ _ ⟨(fun y => ∃ q : CW [(⟨V1.heap.size, 0, none⟩, .slice (some ⟨V12.heap.size, 0, none⟩) 771 gc), (⟨V1.heap.size, 1, none⟩, .slice (some ⟨b1, o1, none⟩) 33 cap1), (⟨V1.heap.size, 2, none⟩, .slice (some ⟨b2, o2, none⟩) 33 cap2), (⟨U1.heap.size, 1, none⟩, .int .i64 (n : Int)), (⟨V12.heap.size, n, none⟩, .int .i64 x)], y = q.1), ⟨⟨_, (allc ((HM.out.hb 3 _ _ _ rfl).cell (k := 0) rfl) (allc ((HM.out.hb 3 _ _ _ rfl).cell (k := 1) rfl) (allc ((HM.out.hb 3 _ _ _ rfl).cell (k := 2) rfl) (allc ((HM.out.hb 1 _ _ _ rfl).cell (k := 1) rfl) (allc ((HM.out.hb 5 _ _ _ rfl).cell (k := n) (HCU.out n x HX.out)) (alln _))))))⟩, rfl⟩, fun _ h => h, ?_⟩
    clear hK K
    (try simp only [Act.put, List.setIfInBounds_toArray, List.set_cons_succ, List.set_cons_zero])
    repeat (go_big_quiet_step (fail))
    refine wpQuiet_nil ?_
    refine NoPanic.normal ?_
    go_wp2_with fail
    (try simp only [Exit.inBlock, Exit.then])
    refine bodyPost_ret (res_ctt rfl _ _ _ _ _ _ rfl rfl rfl ((HM.out.hb 2 _ _ _ rfl).load35 rfl)) rfl ?_
    refine ⟨⟨_, rfl, _, 0, gc, rfl, HP.out _ HGN.out, by simp [HLL.out], fun i z hz => ?_, HSF.out⟩, HM.out.bel⟩
    rw [Nat.zero_add]
    exact (HM.out.hb 5 _ _ _ rfl).cell (HCU.out i z hz)
set_option maxHeartbeats 8000000 in
set_option maxRecDepth 100000 in
theorem do_w1 {P : Nat → Prop} {cv d1 d2 : Value} {l : List Int} (w : World) (hP : ∀ b, w.heap.size ≤ b → P b) (h0 : CellsV P w cv l) (h1 : DiskV P w d1) (h2 : DiskV P w d2) (n : Nat) (bb v x : Int) (ao : Option Addr) (ac : Nat) (hn : n < 771) (hx : l[n]? = some x) (hb : -1152921504606846976 ≤ (0 : Int) ∧ (0 : Int) ≤ 1152921504606846976) (hv : -1152921504606846976 ≤ v ∧ v ≤ 1152921504606846976) :
    Calls Try.prog 40 #[.agg #[cv, d1, d2], .agg (acC 1 n (0 : Int) v 0 (.slice ao 0 ac))] w fun e w' => (∃ cv', e = .returned (.tuple #[.agg #[cv', d1, d2], .int .i64 0, .int .i64 0]) ∧ CellsV P w' cv' (l.set n v)) ∧ Below w.heap.size w w' := by
  have HMA := Lib.hid (fun (w : World) h0 h1 h2 => may_w1 (P := P) (cv := cv) (d1 := d1) (d2 := d2) (l := l) w h0 h1 h2 n bb v ao ac ⟨by omega, by omega⟩ hb hv)
  have HM := Lib.hid (Mem.start w)
  have HP := Lib.hid hP
  have H0 := Lib.hid h0
  have H1 := Lib.hid h1
  have H2 := Lib.hid h2
  have HX := Lib.hid hx
  obtain ⟨b1, o1, cap1, rfl, -, -⟩ := h1
  obtain ⟨b2, o2, cap2, rfl, -, -⟩ := h2
  obtain ⟨b, o, cap, rfl, -, hll, hcc, hff⟩ := h0
  have HLL := Lib.hid hll
  have HCC := Lib.hid hcc
  have HSF : Hid (∀ y ∈ l.set n v, -1152921504606846976 ≤ y ∧ y ≤ 1152921504606846976) := Lib.hid (fun y hy => by rcases List.mem_or_eq_of_mem_set hy with h | rfl; exact hff y h; exact hv)
  clear hll hcc hff hb hv hP hx
  go_enter Try.func40, Try.ntmps40
  go_wp2_with (first
    | (refine wpm_box HM rfl 35 (.tmp 0) rfl _ rfl ?_; intro U1 hM; (try simp only [List.cons_append, List.nil_append, List.set_cons_succ, List.set_cons_zero, Nat.reduceAdd] at hM); replace HM := hM; clear hM)
    | (refine wpm_box HM rfl 59 (.tmp 1) rfl _ rfl ?_; intro U2 hM; (try simp only [List.cons_append, List.nil_append, List.set_cons_succ, List.set_cons_zero, Nat.reduceAdd] at hM); replace HM := hM; clear hM)
    | (refine wpm_al35 HM rfl rfl ?_; intro W hM; (try simp only [List.cons_append, List.nil_append, List.set_cons_succ, List.set_cons_zero, Nat.reduceAdd] at hM); replace HM := hM; clear hM)
    | (refine wpm_ld35 HM rfl (.tmp 2) rfl 0 rfl rfl rfl ?_)
    | (refine wpm_ld59 HM rfl (.tmp 3) rfl 1 rfl rfl ?_))
  refine (HMA.out _ (H0.out.below HM.out.bel) (H1.out.below HM.out.bel) (H2.out.below HM.out.bel)).mono ?_
  rintro e W2 ⟨rfl, hb⟩
  replace HM := Lib.hid (HM.out.below hb)
  clear hb
  go_wp2_with fail
  replace HM := Lib.hid HM.out.drew
  have HF : Hid (∀ p ∈ ([(⟨w.heap.size, 0, none⟩, .slice (some ⟨b, o, none⟩) 771 cap), (⟨w.heap.size, 1, none⟩, .slice (some ⟨b1, o1, none⟩) 33 cap1), (⟨w.heap.size, 2, none⟩, .slice (some ⟨b2, o2, none⟩) 33 cap2)] : List (Addr × Value)), World.cell? _ p.1 = some p.2) := Lib.hid (allc ((HM.out.hb 0 _ _ _ rfl).cell (k := 0) rfl) (allc ((HM.out.hb 0 _ _ _ rfl).cell (k := 1) rfl) (allc ((HM.out.hb 0 _ _ _ rfl).cell (k := 2) rfl) (alln _))))
  haveI : Inhabited (CW [(⟨w.heap.size, 0, none⟩, .slice (some ⟨b, o, none⟩) 771 cap), (⟨w.heap.size, 1, none⟩, .slice (some ⟨b1, o1, none⟩) 33 cap1), (⟨w.heap.size, 2, none⟩, .slice (some ⟨b2, o2, none⟩) 33 cap2)]) := ⟨⟨_, HF.out⟩⟩
  have f0 : ∀ q : CW [(⟨w.heap.size, 0, none⟩, .slice (some ⟨b, o, none⟩) 771 cap), (⟨w.heap.size, 1, none⟩, .slice (some ⟨b1, o1, none⟩) 33 cap1), (⟨w.heap.size, 2, none⟩, .slice (some ⟨b2, o2, none⟩) 33 cap2)], q.1.cell? ⟨w.heap.size, 0, none⟩ = some (.slice (some ⟨b, o, none⟩) 771 cap) := fun q => q.2 (⟨w.heap.size, 0, none⟩, .slice (some ⟨b, o, none⟩) 771 cap) (by simp)
  have f1 : ∀ q : CW [(⟨w.heap.size, 0, none⟩, .slice (some ⟨b, o, none⟩) 771 cap), (⟨w.heap.size, 1, none⟩, .slice (some ⟨b1, o1, none⟩) 33 cap1), (⟨w.heap.size, 2, none⟩, .slice (some ⟨b2, o2, none⟩) 33 cap2)], q.1.cell? ⟨w.heap.size, 1, none⟩ = some (.slice (some ⟨b1, o1, none⟩) 33 cap1) := fun q => q.2 (⟨w.heap.size, 1, none⟩, .slice (some ⟨b1, o1, none⟩) 33 cap1) (by simp)
  have f2 : ∀ q : CW [(⟨w.heap.size, 0, none⟩, .slice (some ⟨b, o, none⟩) 771 cap), (⟨w.heap.size, 1, none⟩, .slice (some ⟨b1, o1, none⟩) 33 cap1), (⟨w.heap.size, 2, none⟩, .slice (some ⟨b2, o2, none⟩) 33 cap2)], q.1.cell? ⟨w.heap.size, 2, none⟩ = some (.slice (some ⟨b2, o2, none⟩) 33 cap2) := fun q => q.2 (⟨w.heap.size, 2, none⟩, .slice (some ⟨b2, o2, none⟩) 33 cap2) (by simp)
  (try simp only [Act.put, List.setIfInBounds_toArray, List.set_cons_succ, List.set_cons_zero])
  refine wp_region_noPanic ?_
  refine wp_region_plw (.step [false, true, true, false, true, true] (.cons 0 (.step [] (.cons 3 (.step [false, false, false, false, false, false, true] (.cons 7 (.step [] (.cons 8 (.last []) .nil)) .nil)) (.cons 7 (.step [] (.cons 3 (.step [false, false, false, false, false, false, true] (.cons 8 (.last []) .nil)) .nil)) .nil))) (.cons 7 (.step [] (.cons 0 (.step [] (.cons 3 (.step [false, false, false, false, false, false, true] (.cons 8 (.last []) .nil)) .nil)) .nil)) .nil))) (fun y => ∃ q : CW [(⟨w.heap.size, 0, none⟩, .slice (some ⟨b, o, none⟩) 771 cap), (⟨w.heap.size, 1, none⟩, .slice (some ⟨b1, o1, none⟩) 33 cap1), (⟨w.heap.size, 2, none⟩, .slice (some ⟨b2, o2, none⟩) 33 cap2)], y = q.1) (by kernel_rfl) (by kernel_rfl) (by kernel_rfl) (fun _ _ _ _ _ _ _ h => h) ⟨⟨_, HF.out⟩, rfl⟩ ?_
  simp only [wpPw, wpBw, selF, and_true]
  generalize W2.drew = V16 at *
  repeat (go_big_quiet_step (fail))
  refine wpQuiet_nil ?_
  refine ⟨?_, ?_⟩
  · refine wpOp_step rfl (fun K hK => ?_)
    rw [if_pos (by rfl)]
    refine wpOm_bs0 HM rfl 18 rfl ?_
    intro V17 hM
    (try simp only [List.cons_append, List.nil_append, List.set_cons_succ, List.set_cons_zero, Nat.reduceAdd] at hM)
    replace HM := hM
    clear hM
    refine hK _ _ ⟨(fun y => ∃ q : CW [(⟨w.heap.size, 0, none⟩, .slice (some ⟨b, o, none⟩) 771 cap), (⟨w.heap.size, 1, none⟩, .slice (some ⟨b1, o1, none⟩) 33 cap1), (⟨w.heap.size, 2, none⟩, .slice (some ⟨b2, o2, none⟩) 33 cap2)], y = q.1), ⟨⟨_, (allc ((HM.out.hb 0 _ _ _ rfl).cell (k := 0) rfl) (allc ((HM.out.hb 0 _ _ _ rfl).cell (k := 1) rfl) (allc ((HM.out.hb 0 _ _ _ rfl).cell (k := 2) rfl) (alln _))))⟩, rfl⟩, fun _ h => h, ?_⟩
    clear hK K
    (try simp only [Act.put, List.setIfInBounds_toArray, List.set_cons_succ, List.set_cons_zero])
    refine wpQuiet_nil ?_
    refine ⟨?_, ?_⟩
    · refine wpOp_step rfl (fun K hK => ?_)
      rw [if_pos (by rfl)]
      refine wpOm_copy HM (.tmp 18) (.tmp 20) rfl 21 rfl _ rfl b o cap rfl l HLL.out (fun i z hz => (HM.out.bel.cell (World.block_lt_of_cell? _ _ (HCC.out i z hz))).trans (HCC.out i z hz)) ?_
      intro V18 cur gc hcur hM
      (try simp only [List.cons_append, List.nil_append, List.set_cons_succ, List.set_cons_zero, Nat.reduceAdd] at hM)
      have HCU := Lib.hid hcur
      have HGN : Hid (w.heap.size ≤ _) := Lib.hid HM.out.size
      replace HM := hM
      clear hM hcur
      refine hK _ _ ⟨(fun y => ∃ q : CW [(⟨w.heap.size, 0, none⟩, .slice (some ⟨b, o, none⟩) 771 cap), (⟨w.heap.size, 1, none⟩, .slice (some ⟨b1, o1, none⟩) 33 cap1), (⟨w.heap.size, 2, none⟩, .slice (some ⟨b2, o2, none⟩) 33 cap2)], y = q.1), ⟨⟨_, (allc ((HM.out.hb 0 _ _ _ rfl).cell (k := 0) rfl) (allc ((HM.out.hb 0 _ _ _ rfl).cell (k := 1) rfl) (allc ((HM.out.hb 0 _ _ _ rfl).cell (k := 2) rfl) (alln _))))⟩, rfl⟩, fun _ h => h, ?_⟩
      clear hK K
      (try simp only [Act.put, List.setIfInBounds_toArray, List.set_cons_succ, List.set_cons_zero])
      repeat (go_big_quiet_step (fail))
      refine wpQuiet_nil ?_
      refine wpOp_step rfl (fun K hK => ?_)
      rw [if_pos (by rfl)]
      refine wpOm_al HM 35 rfl 7 rfl _ zer35 ?_
      intro V19 hM
      (try simp only [List.cons_append, List.nil_append, List.set_cons_succ, List.set_cons_zero, Nat.reduceAdd] at hM)
      replace HM := hM
      clear hM
      refine hK _ _ ⟨(fun y => ∃ q : CW [(⟨w.heap.size, 0, none⟩, .slice (some ⟨b, o, none⟩) 771 cap), (⟨w.heap.size, 1, none⟩, .slice (some ⟨b1, o1, none⟩) 33 cap1), (⟨w.heap.size, 2, none⟩, .slice (some ⟨b2, o2, none⟩) 33 cap2)], y = q.1), ⟨⟨_, (allc ((HM.out.hb 0 _ _ _ rfl).cell (k := 0) rfl) (allc ((HM.out.hb 0 _ _ _ rfl).cell (k := 1) rfl) (allc ((HM.out.hb 0 _ _ _ rfl).cell (k := 2) rfl) (alln _))))⟩, rfl⟩, fun _ h => h, ?_⟩
      clear hK K
      (try simp only [Act.put, List.setIfInBounds_toArray, List.set_cons_succ, List.set_cons_zero])
      refine wpQuiet_nil ?_
      refine wpOp_step rfl (fun K hK => ?_)
      rw [if_pos (by rfl)]
      refine wpOm_st HM 35 (.tmp 7) (.tmp 24) rfl rfl 5 rfl #[.slice (some ⟨_, 0, none⟩) 771 gc, .slice (some ⟨b1, o1, none⟩) 33 cap1, .slice (some ⟨b2, o2, none⟩) 33 cap2] rfl rfl 3 inf35 rfl rfl (w35_one _ _ _ _ _ _ _ _ _) ?_
      intro V20 hM
      (try simp only [List.cons_append, List.nil_append, List.set_cons_succ, List.set_cons_zero, Nat.reduceAdd] at hM)
      replace HM := hM
      clear hM
      refine hK _ _ ⟨(fun y => ∃ q : CW [(⟨w.heap.size, 0, none⟩, .slice (some ⟨b, o, none⟩) 771 cap), (⟨w.heap.size, 1, none⟩, .slice (some ⟨b1, o1, none⟩) 33 cap1), (⟨w.heap.size, 2, none⟩, .slice (some ⟨b2, o2, none⟩) 33 cap2)], y = q.1), ⟨⟨_, (allc ((HM.out.hb 0 _ _ _ rfl).cell (k := 0) rfl) (allc ((HM.out.hb 0 _ _ _ rfl).cell (k := 1) rfl) (allc ((HM.out.hb 0 _ _ _ rfl).cell (k := 2) rfl) (alln _))))⟩, rfl⟩, fun _ h => h, ?_⟩
      clear hK K
      (try simp only [Act.put, List.setIfInBounds_toArray, List.set_cons_succ, List.set_cons_zero])
      refine wpQuiet_nil ?_
      refine NoPanic.normal ?_
      have i0 := (HM.out.hb 1 _ _ _ rfl).cell (k := 0) (v := .int .i8 1) rfl
      have i1 := (HM.out.hb 1 _ _ _ rfl).cell (k := 1) (v := .int .i64 (n : Int)) rfl
      have i2 := (HM.out.hb 1 _ _ _ rfl).cell (k := 2) (v := .int .i64 0) rfl
      have i3 := (HM.out.hb 1 _ _ _ rfl).cell (k := 3) (v := .int .i64 v) rfl
      go_wp2_with (first
        | (refine wpm_ldc HM rfl 30 (.tmp 38) rfl lv30 5 0 rfl rfl _ rfl ?_)
        | (refine wpm_cell HM rfl 3 (.tmp 44) (.tmp 43) rfl Try.sizeOf3 4 n rfl _ rfl rfl (.inl ⟨_, _, rfl⟩) (Array.getElem?_eq_some_iff.1 (HCU.out n _ (List.getElem?_eq_getElem (by rw [HLL.out]; exact hn)))).1 _ rfl ?_; intro W hM; (try simp only [List.cons_append, List.nil_append, List.set_cons_succ, List.set_cons_zero, Nat.reduceAdd] at hM); replace HM := hM; clear hM; clear i0 i1 i2 i3)
        | (refine wpm_ld35 HM rfl (.tmp 7) rfl 5 rfl rfl rfl ?_)
        | (refine wpm_st35 HM rfl (.tmp 4) (.tmp 45) rfl 2 rfl rfl _ _ _ _ _ _ _ _ _ rfl rfl ?_; intro W hM; (try simp only [List.cons_append, List.nil_append, List.set_cons_succ, List.set_cons_zero, Nat.reduceAdd] at hM); replace HM := hM; clear hM))
      (try simp only [Exit.inBlock, Exit.then])
      refine bodyPost_ret (res_ctt rfl _ _ _ _ _ _ rfl rfl rfl ((HM.out.hb 2 _ _ _ rfl).load35 rfl)) rfl ?_
      refine ⟨⟨_, rfl, _, 0, gc, rfl, HP.out _ HGN.out, by simp [HLL.out], fun i z hz => ?_, HSF.out⟩, HM.out.bel⟩
      rw [Nat.zero_add]
      exact (HM.out.hb 4 _ _ _ rfl).cell (HCU.out.set n v (by rw [HLL.out]; exact hn) i z hz)
    · refine wpOp_step rfl (fun K hK => ?_)
      rw [if_pos (by rfl)]
      refine wpOm_al HM 35 rfl 7 rfl _ zer35 ?_
      intro V21 hM
      (try simp only [List.cons_append, List.nil_append, List.set_cons_succ, List.set_cons_zero, Nat.reduceAdd] at hM)
      replace HM := hM
      clear hM
      refine hK _ _ ⟨(fun y => ∃ q : CW [(⟨w.heap.size, 0, none⟩, .slice (some ⟨b, o, none⟩) 771 cap), (⟨w.heap.size, 1, none⟩, .slice (some ⟨b1, o1, none⟩) 33 cap1), (⟨w.heap.size, 2, none⟩, .slice (some ⟨b2, o2, none⟩) 33 cap2)], y = q.1), ⟨⟨_, (allc ((HM.out.hb 0 _ _ _ rfl).cell (k := 0) rfl) (allc ((HM.out.hb 0 _ _ _ rfl).cell (k := 1) rfl) (allc ((HM.out.hb 0 _ _ _ rfl).cell (k := 2) rfl) (alln _))))⟩, rfl⟩, fun _ h => h, ?_⟩
      clear hK K
      (try simp only [Act.put, List.setIfInBounds_toArray, List.set_cons_succ, List.set_cons_zero])
      refine wpQuiet_nil ?_
      refine wpOp_step rfl (fun K hK => ?_)
      rw [if_pos (by rfl)]
      refine wpOm_copy HM (.tmp 18) (.tmp 20) rfl 21 rfl _ rfl b o cap rfl l HLL.out (fun i z hz => (HM.out.bel.cell (World.block_lt_of_cell? _ _ (HCC.out i z hz))).trans (HCC.out i z hz)) ?_
      intro V22 cur gc hcur hM
      (try simp only [List.cons_append, List.nil_append, List.set_cons_succ, List.set_cons_zero, Nat.reduceAdd] at hM)
      have HCU := Lib.hid hcur
      have HGN : Hid (w.heap.size ≤ _) := Lib.hid HM.out.size
      replace HM := hM
      clear hM hcur
      refine hK _ _ ⟨(fun y => ∃ q : CW [(⟨w.heap.size, 0, none⟩, .slice (some ⟨b, o, none⟩) 771 cap), (⟨w.heap.size, 1, none⟩, .slice (some ⟨b1, o1, none⟩) 33 cap1), (⟨w.heap.size, 2, none⟩, .slice (some ⟨b2, o2, none⟩) 33 cap2)], y = q.1), ⟨⟨_, (allc ((HM.out.hb 0 _ _ _ rfl).cell (k := 0) rfl) (allc ((HM.out.hb 0 _ _ _ rfl).cell (k := 1) rfl) (allc ((HM.out.hb 0 _ _ _ rfl).cell (k := 2) rfl) (alln _))))⟩, rfl⟩, fun _ h => h, ?_⟩
      clear hK K
      (try simp only [Act.put, List.setIfInBounds_toArray, List.set_cons_succ, List.set_cons_zero])
      repeat (go_big_quiet_step (fail))
      refine wpQuiet_nil ?_
      refine wpOp_step rfl (fun K hK => ?_)
      rw [if_pos (by rfl)]
      refine wpOm_st HM 35 (.tmp 7) (.tmp 24) rfl rfl 4 rfl #[.slice (some ⟨_, 0, none⟩) 771 gc, .slice (some ⟨b1, o1, none⟩) 33 cap1, .slice (some ⟨b2, o2, none⟩) 33 cap2] rfl rfl 3 inf35 rfl rfl (w35_one _ _ _ _ _ _ _ _ _) ?_
      intro V23 hM
      (try simp only [List.cons_append, List.nil_append, List.set_cons_succ, List.set_cons_zero, Nat.reduceAdd] at hM)
      replace HM := hM
      clear hM
      refine hK _ _ ⟨(fun y => ∃ q : CW [(⟨w.heap.size, 0, none⟩, .slice (some ⟨b, o, none⟩) 771 cap), (⟨w.heap.size, 1, none⟩, .slice (some ⟨b1, o1, none⟩) 33 cap1), (⟨w.heap.size, 2, none⟩, .slice (some ⟨b2, o2, none⟩) 33 cap2)], y = q.1), ⟨⟨_, (allc ((HM.out.hb 0 _ _ _ rfl).cell (k := 0) rfl) (allc ((HM.out.hb 0 _ _ _ rfl).cell (k := 1) rfl) (allc ((HM.out.hb 0 _ _ _ rfl).cell (k := 2) rfl) (alln _))))⟩, rfl⟩, fun _ h => h, ?_⟩
      clear hK K
      (try simp only [Act.put, List.setIfInBounds_toArray, List.set_cons_succ, List.set_cons_zero])
      refine wpQuiet_nil ?_
      refine NoPanic.normal ?_
      have i0 := (HM.out.hb 1 _ _ _ rfl).cell (k := 0) (v := .int .i8 1) rfl
      have i1 := (HM.out.hb 1 _ _ _ rfl).cell (k := 1) (v := .int .i64 (n : Int)) rfl
      have i2 := (HM.out.hb 1 _ _ _ rfl).cell (k := 2) (v := .int .i64 0) rfl
      have i3 := (HM.out.hb 1 _ _ _ rfl).cell (k := 3) (v := .int .i64 v) rfl
      go_wp2_with (first
        | (refine wpm_ldc HM rfl 30 (.tmp 38) rfl lv30 4 0 rfl rfl _ rfl ?_)
        | (refine wpm_cell HM rfl 3 (.tmp 44) (.tmp 43) rfl Try.sizeOf3 5 n rfl _ rfl rfl (.inl ⟨_, _, rfl⟩) (Array.getElem?_eq_some_iff.1 (HCU.out n _ (List.getElem?_eq_getElem (by rw [HLL.out]; exact hn)))).1 _ rfl ?_; intro W hM; (try simp only [List.cons_append, List.nil_append, List.set_cons_succ, List.set_cons_zero, Nat.reduceAdd] at hM); replace HM := hM; clear hM; clear i0 i1 i2 i3)
        | (refine wpm_ld35 HM rfl (.tmp 7) rfl 4 rfl rfl rfl ?_)
        | (refine wpm_st35 HM rfl (.tmp 4) (.tmp 45) rfl 2 rfl rfl _ _ _ _ _ _ _ _ _ rfl rfl ?_; intro W hM; (try simp only [List.cons_append, List.nil_append, List.set_cons_succ, List.set_cons_zero, Nat.reduceAdd] at hM); replace HM := hM; clear hM))
      (try simp only [Exit.inBlock, Exit.then])
      refine bodyPost_ret (res_ctt rfl _ _ _ _ _ _ rfl rfl rfl ((HM.out.hb 2 _ _ _ rfl).load35 rfl)) rfl ?_
      refine ⟨⟨_, rfl, _, 0, gc, rfl, HP.out _ HGN.out, by simp [HLL.out], fun i z hz => ?_, HSF.out⟩, HM.out.bel⟩
      rw [Nat.zero_add]
      exact (HM.out.hb 5 _ _ _ rfl).cell (HCU.out.set n v (by rw [HLL.out]; exact hn) i z hz)
  · refine wpOp_step rfl (fun K hK => ?_)
    rw [if_pos (by rfl)]
    refine wpOm_al HM 35 rfl 7 rfl _ zer35 ?_
    intro V24 hM
    (try simp only [List.cons_append, List.nil_append, List.set_cons_succ, List.set_cons_zero, Nat.reduceAdd] at hM)
    replace HM := hM
    clear hM
    refine hK _ _ ⟨(fun y => ∃ q : CW [(⟨w.heap.size, 0, none⟩, .slice (some ⟨b, o, none⟩) 771 cap), (⟨w.heap.size, 1, none⟩, .slice (some ⟨b1, o1, none⟩) 33 cap1), (⟨w.heap.size, 2, none⟩, .slice (some ⟨b2, o2, none⟩) 33 cap2)], y = q.1), ⟨⟨_, (allc ((HM.out.hb 0 _ _ _ rfl).cell (k := 0) rfl) (allc ((HM.out.hb 0 _ _ _ rfl).cell (k := 1) rfl) (allc ((HM.out.hb 0 _ _ _ rfl).cell (k := 2) rfl) (alln _))))⟩, rfl⟩, fun _ h => h, ?_⟩
    clear hK K
    (try simp only [Act.put, List.setIfInBounds_toArray, List.set_cons_succ, List.set_cons_zero])
    refine wpQuiet_nil ?_
    refine wpOp_step rfl (fun K hK => ?_)
    rw [if_pos (by rfl)]
    refine wpOm_bs0 HM rfl 18 rfl ?_
    intro V25 hM
    (try simp only [List.cons_append, List.nil_append, List.set_cons_succ, List.set_cons_zero, Nat.reduceAdd] at hM)
    replace HM := hM
    clear hM
    refine hK _ _ ⟨(fun y => ∃ q : CW [(⟨w.heap.size, 0, none⟩, .slice (some ⟨b, o, none⟩) 771 cap), (⟨w.heap.size, 1, none⟩, .slice (some ⟨b1, o1, none⟩) 33 cap1), (⟨w.heap.size, 2, none⟩, .slice (some ⟨b2, o2, none⟩) 33 cap2)], y = q.1), ⟨⟨_, (allc ((HM.out.hb 0 _ _ _ rfl).cell (k := 0) rfl) (allc ((HM.out.hb 0 _ _ _ rfl).cell (k := 1) rfl) (allc ((HM.out.hb 0 _ _ _ rfl).cell (k := 2) rfl) (alln _))))⟩, rfl⟩, fun _ h => h, ?_⟩
    clear hK K
    (try simp only [Act.put, List.setIfInBounds_toArray, List.set_cons_succ, List.set_cons_zero])
    refine wpQuiet_nil ?_
    refine wpOp_step rfl (fun K hK => ?_)
    rw [if_pos (by rfl)]
    refine wpOm_copy HM (.tmp 18) (.tmp 20) rfl 21 rfl _ rfl b o cap rfl l HLL.out (fun i z hz => (HM.out.bel.cell (World.block_lt_of_cell? _ _ (HCC.out i z hz))).trans (HCC.out i z hz)) ?_
    intro V26 cur gc hcur hM
    (try simp only [List.cons_append, List.nil_append, List.set_cons_succ, List.set_cons_zero, Nat.reduceAdd] at hM)
    have HCU := Lib.hid hcur
    have HGN : Hid (w.heap.size ≤ _) := Lib.hid HM.out.size
    replace HM := hM
    clear hM hcur
    refine hK _ _ ⟨(fun y => ∃ q : CW [(⟨w.heap.size, 0, none⟩, .slice (some ⟨b, o, none⟩) 771 cap), (⟨w.heap.size, 1, none⟩, .slice (some ⟨b1, o1, none⟩) 33 cap1), (⟨w.heap.size, 2, none⟩, .slice (some ⟨b2, o2, none⟩) 33 cap2)], y = q.1), ⟨⟨_, (allc ((HM.out.hb 0 _ _ _ rfl).cell (k := 0) rfl) (allc ((HM.out.hb 0 _ _ _ rfl).cell (k := 1) rfl) (allc ((HM.out.hb 0 _ _ _ rfl).cell (k := 2) rfl) (alln _))))⟩, rfl⟩, fun _ h => h, ?_⟩
    clear hK K
    (try simp only [Act.put, List.setIfInBounds_toArray, List.set_cons_succ, List.set_cons_zero])
    repeat (go_big_quiet_step (fail))
    refine wpQuiet_nil ?_
    refine wpOp_step rfl (fun K hK => ?_)
    rw [if_pos (by rfl)]
    refine wpOm_st HM 35 (.tmp 7) (.tmp 24) rfl rfl 3 rfl #[.slice (some ⟨_, 0, none⟩) 771 gc, .slice (some ⟨b1, o1, none⟩) 33 cap1, .slice (some ⟨b2, o2, none⟩) 33 cap2] rfl rfl 3 inf35 rfl rfl (w35_one _ _ _ _ _ _ _ _ _) ?_
    intro V27 hM
    (try simp only [List.cons_append, List.nil_append, List.set_cons_succ, List.set_cons_zero, Nat.reduceAdd] at hM)
    replace HM := hM
    clear hM
    refine hK _ _ ⟨(fun y => ∃ q : CW [(⟨w.heap.size, 0, none⟩, .slice (some ⟨b, o, none⟩) 771 cap), (⟨w.heap.size, 1, none⟩, .slice (some ⟨b1, o1, none⟩) 33 cap1), (⟨w.heap.size, 2, none⟩, .slice (some ⟨b2, o2, none⟩) 33 cap2)], y = q.1), ⟨⟨_, (allc ((HM.out.hb 0 _ _ _ rfl).cell (k := 0) rfl) (allc ((HM.out.hb 0 _ _ _ rfl).cell (k := 1) rfl) (allc ((HM.out.hb 0 _ _ _ rfl).cell (k := 2) rfl) (alln _))))⟩, rfl⟩, fun _ h => h, ?_⟩
    clear hK K
    (try simp only [Act.put, List.setIfInBounds_toArray, List.set_cons_succ, List.set_cons_zero])
    refine wpQuiet_nil ?_
    refine NoPanic.normal ?_
    have i0 := (HM.out.hb 1 _ _ _ rfl).cell (k := 0) (v := .int .i8 1) rfl
    have i1 := (HM.out.hb 1 _ _ _ rfl).cell (k := 1) (v := .int .i64 (n : Int)) rfl
    have i2 := (HM.out.hb 1 _ _ _ rfl).cell (k := 2) (v := .int .i64 0) rfl
    have i3 := (HM.out.hb 1 _ _ _ rfl).cell (k := 3) (v := .int .i64 v) rfl
    go_wp2_with (first
      | (refine wpm_ldc HM rfl 30 (.tmp 38) rfl lv30 3 0 rfl rfl _ rfl ?_)
      | (refine wpm_cell HM rfl 3 (.tmp 44) (.tmp 43) rfl Try.sizeOf3 5 n rfl _ rfl rfl (.inl ⟨_, _, rfl⟩) (Array.getElem?_eq_some_iff.1 (HCU.out n _ (List.getElem?_eq_getElem (by rw [HLL.out]; exact hn)))).1 _ rfl ?_; intro W hM; (try simp only [List.cons_append, List.nil_append, List.set_cons_succ, List.set_cons_zero, Nat.reduceAdd] at hM); replace HM := hM; clear hM; clear i0 i1 i2 i3)
      | (refine wpm_ld35 HM rfl (.tmp 7) rfl 3 rfl rfl rfl ?_)
      | (refine wpm_st35 HM rfl (.tmp 4) (.tmp 45) rfl 2 rfl rfl _ _ _ _ _ _ _ _ _ rfl rfl ?_; intro W hM; (try simp only [List.cons_append, List.nil_append, List.set_cons_succ, List.set_cons_zero, Nat.reduceAdd] at hM); replace HM := hM; clear hM))
    (try simp only [Exit.inBlock, Exit.then])
    refine bodyPost_ret (res_ctt rfl _ _ _ _ _ _ rfl rfl rfl ((HM.out.hb 2 _ _ _ rfl).load35 rfl)) rfl ?_
    refine ⟨⟨_, rfl, _, 0, gc, rfl, HP.out _ HGN.out, by simp [HLL.out], fun i z hz => ?_, HSF.out⟩, HM.out.bel⟩
    rw [Nat.zero_add]
    exact (HM.out.hb 5 _ _ _ rfl).cell (HCU.out.set n v (by rw [HLL.out]; exact hn) i z hz)
end Go.Proofs.Ytgpdknacnmapiaa
