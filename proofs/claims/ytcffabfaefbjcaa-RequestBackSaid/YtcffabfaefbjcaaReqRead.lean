/-
  What request.Read tells (chapter 08): the walk.
-/
import Derived.Test.YtcffabfaefbjcaaReadW
namespace Go.Proofs.Ytcffabfaefbjcaa
set_option linter.unusedVariables false
open Go.RowKit
theorem read_return {w wr : World} {v0 : Value} {q : Rq} {a : Int} (h : RdW w wr v0 q a) (t : Array Value) (ht : t.getD 2 undef = .pointer (some ⟨w.heap.size, 0, none⟩) ∧ t.getD 3 undef = .pointer (some ⟨w.heap.size + 1, 0, none⟩)) :
    bodyPostD Try.prog Try.f35 (RPost q 0 w) Exit.ret
      { tmps := t, defers := [{ target := Target.fn (Fn.func 59) #[.pointer (some ⟨w.heap.size, 0, none⟩), .pointer (some ⟨w.heap.size + 1, 0, none⟩)], args := #[] }] } wr := by
  have c : ∀ i, wr.cell? ⟨w.heap.size, i, none⟩ = q.cells[i]? := fun i => cell_of_row _ _ _ _ _ _ h.qh
  have c0 := c 0
  have c1 := c 1
  have c2 := c 2
  have c3 := c 3
  have c4 := c 4
  have c5 := c 5
  have c6 := c 6
  have ce : wr.cell? ⟨w.heap.size + 1, 0, none⟩ = some (.int .i64 0) := by rw [cell_of_row _ _ _ _ _ _ h.eh]; rfl
  refine leaves_cons (f := 59) (args := #[.pointer (some ⟨w.heap.size, 0, none⟩), .pointer (some ⟨w.heap.size + 1, 0, none⟩)]) (by simp) (by simp [go_sem]) ?_
  refine (catch_idle _ _ wr).mono ?_
  rintro e u' w'' ⟨rfl, rfl, rfl⟩
  simp only [Rq.cells] at c0 c1 c2 c3 c4 c5 c6
  have h2 := ht.1
  have h3 := ht.2
  simp at h2 h3
  simp [Leaves, settle, results, Try.results35, go_sem, h2, h3, c0, c1, c2, c3, c4, c5, c6, ce]
  exact ⟨rfl, h.below⟩
theorem panic_put {post : Ending → World → Prop} {c : List PanicEntry} {a : Act} {v : Value} {w : World} {d : Option Nat} (hd : d ≠ some 2 ∧ d ≠ some 3) (h : bodyPostD Try.prog Try.f35 post (.panic c) (a.put d v) w) : bodyPostD Try.prog Try.f35 post (.panic c) a w := by
  have e : (a.put d v).defers = a.defers := by cases d <;> rfl
  show Leaves Try.prog Try.f35 a.tmps post a.defers (.panicking c) w
  rw [← e]
  refine leaves_congr (t := (a.put d v).tmps) ?_ _ _ _ h
  intro w
  cases d with
  | none => rfl
  | some i =>
    have h2 : i ≠ 2 := fun h => hd.1 (by rw [h])
    have h3 : i ≠ 3 := fun h => hd.2 (by rw [h])
    have g2 : (a.put (some i) v).tmps.getD 2 undef = a.tmps.getD 2 undef := by simp [Act.put, Array.getElem?_setIfInBounds, h2]
    have g3 : (a.put (some i) v).tmps.getD 3 undef = a.tmps.getD 3 undef := by simp [Act.put, Array.getElem?_setIfInBounds, h3]
    simp [results, Try.results35, go_sem] at g2 g3 ⊢
    rw [g2, g3]
theorem getV_range {l : List Nat} (h : IsBytes l) (a wd' : Int) (hw : wd' ≤ 6) : 0 ≤ getV l a wd' ∧ getV l a wd' < 281474976710656 := by
  unfold getV
  split
  · have h1 := num_lt ((l.drop a.toNat).take wd'.toNat) ((h.drop _).take _)
    have h2 : ((l.drop a.toNat).take wd'.toNat).length ≤ 6 := by rw [List.length_take]; omega
    have h3 : (256 : Nat) ^ ((l.drop a.toNat).take wd'.toNat).length ≤ 256 ^ 6 := Nat.pow_le_pow_right (by omega) h2
    have h4 : (256 : Nat) ^ 6 = 281474976710656 := by decide
    omega
  · omega
theorem getV_one {l : List Nat} (h : IsBytes l) (a : Int) : 0 ≤ getV l a 1 ∧ getV l a 1 < 256 := by
  unfold getV
  split
  · have h1 := num_lt ((l.drop a.toNat).take (1 : Int).toNat) ((h.drop _).take _)
    have h2 : ((l.drop a.toNat).take (1 : Int).toNat).length ≤ 1 := by rw [List.length_take]; exact Nat.min_le_left _ _
    have h3 : (256 : Nat) ^ ((l.drop a.toNat).take (1 : Int).toNat).length ≤ 256 ^ 1 := Nat.pow_le_pow_right (by omega) h2
    omega
  · omega
set_option maxHeartbeats 4000000 in
theorem read_first (v0 : Value) (l : List Nat) (w : World) (hsl : Sl w v0 l) (he : getE l.length 0 1 = 50) : Calls Try.prog 35 #[v0] w (RPost zrq 50 w) := by
  have hmf : ∀ (fn : Fn) (first cap : Array Value) (w : World), (Instr.makeFunc fn first cap).run Try.prog w = .ok (.func fn first cap) w := fun _ _ _ _ => rfl
  obtain ⟨ao, cap, rfl, hcap1, hcap2⟩ := hsl.open
  have HS := Lib.hid (RdW.start w (.slice ao l.length cap))
  have HSl := Lib.hid (((hsl.alloc (.cells zrq.cells 34)).alloc (.cells #[.int .i64 0] 22)).alloc (.cells #[.slice ao l.length cap, .int .i64 0] 79))
  have HE := Lib.hid he
  clear he hsl
  go_enter_defers Try.func35, Try.ntmps35
  go_wp2_with fail
  refine (take_no _ _ l 0 1 (by omega) (by omega) _ HS.out.rh HSl.out HE.out).mono ?_
  rintro e x ⟨rfl, n, rfl⟩
  exact read_panic (HS.out.drewN n) 50 _ ⟨rfl, rfl⟩
theorem last_at (fl : List Nat) (n : Nat) (hn : fl.length = n) (h : 0 < n) : ∃ f, fl[n - 1]? = some f ∧ fl.getLast? = some f := by
  subst hn
  refine ⟨fl[fl.length - 1]'(by omega), List.getElem?_eq_getElem _, ?_⟩
  rw [List.getLast?_eq_getElem?]
  exact List.getElem?_eq_getElem _
theorem read_panic2 {w wr : World} {v0 : Value} {q RQ : Rq} {a RE : Int} (h : RdW w wr v0 q a) (E : Int) (hR : RQ = zrq ∧ RE = E) (t : Array Value) (ht : t.getD 2 undef = .pointer (some ⟨w.heap.size, 0, none⟩) ∧ t.getD 3 undef = .pointer (some ⟨w.heap.size + 1, 0, none⟩)) :
    bodyPostD Try.prog Try.f35 (RPost RQ RE w) (Exit.panic [{ v := .iface 22 (.int .i64 E), recovered := false }])
      { tmps := t, defers := [{ target := Target.fn (Fn.func 59) #[.pointer (some ⟨w.heap.size, 0, none⟩), .pointer (some ⟨w.heap.size + 1, 0, none⟩)], args := #[] }] } wr := by
  rw [hR.1, hR.2]
  exact read_panic h E t ht
theorem read_return2 {w wr : World} {v0 : Value} {q RQ : Rq} {a RE : Int} (h : RdW w wr v0 q a) (hR : RQ = q ∧ RE = 0) (t : Array Value) (ht : t.getD 2 undef = .pointer (some ⟨w.heap.size, 0, none⟩) ∧ t.getD 3 undef = .pointer (some ⟨w.heap.size + 1, 0, none⟩)) :
    bodyPostD Try.prog Try.f35 (RPost RQ RE w) Exit.ret
      { tmps := t, defers := [{ target := Target.fn (Fn.func 59) #[.pointer (some ⟨w.heap.size, 0, none⟩), .pointer (some ⟨w.heap.size + 1, 0, none⟩)], args := #[] }] } wr := by
  rw [hR.1, hR.2]
  exact read_return h t ht
theorem start_eq (k : Int) : rdStart k = { zrq with k := k, o := if (fieldsOf k).getLast? = some 5 then -1 else 0 } := rfl
/-- the fields' row -/
def FRow (w : World) (b : Nat) (fl : List Nat) : Prop := w.heap[b]? = some (.cells (fl.map fun n : Nat => Value.int .i64 (n : Int)).toArray 3 (0, 0))
theorem frow_later {wr x : World} {b : Nat} {fl : List Nat} (h : FRow wr b fl) (hb : Below wr.heap.size wr x) : FRow x b fl := by
  unfold FRow at *
  rw [hb.block _ (Array.getElem?_eq_some_iff.1 h).1]; exact h
theorem frow_set {wr : World} {b g i n : Nat} {x : Value} {fl : List Nat} {cs : Array Value} {t : TypeId} (h : FRow wr b fl) (hg : wr.heap[g]? = some (.cells cs t (0, 0))) (ht : t ≠ 3) : FRow ((wr.setCell ⟨g, i, none⟩ x).drewN n) b fl := by
  unfold FRow at *
  show (wr.setCell ⟨g, i, none⟩ x).heap[b]? = _
  rw [heap_setCell_other _ _ _ _ (by show b ≠ g; intro e; subst e; rw [h] at hg; injection hg with hg; injection hg with _ h3 _; exact ht h3.symm)]
  exact h
theorem frow_set0 {wr : World} {b g i : Nat} {x : Value} {fl : List Nat} {cs : Array Value} {t : TypeId} (h : FRow wr b fl) (hg : wr.heap[g]? = some (.cells cs t (0, 0))) (ht : t ≠ 3) : FRow (wr.setCell ⟨g, i, none⟩ x) b fl := frow_set (n := 0) h hg ht
theorem frow_cell {wr : World} {b j f : Nat} {fl : List Nat} (h : FRow wr b fl) (hf : fl[j]? = some f) : wr.cell? ⟨b, j, none⟩ = some (.int .i64 (f : Int)) := field_cell h (Below.refl _ _) hf
theorem drop_cons {fl : List Nat} {j f : Nat} (hf : fl[j]? = some f) : fl.drop j = f :: fl.drop (j + 1) := by
  obtain ⟨hlt, rfl⟩ := List.getElem?_eq_some_iff.1 hf
  exact List.drop_eq_getElem_cons hlt
def NumB (q : Rq) (j : Nat) : Prop := ∀ f, -1 ≤ q.num f ∧ q.num f ≤ (j : Int) * 281474976710656
theorem start_num (k : Int) : NumB (rdStart k) 0 := by
  intro f
  unfold rdStart zrq Rq.num
  split
  all_goals simp
  all_goals (try split)
  all_goals simp
theorem num_next {q : Rq} {j f : Nat} {v : Int} (h : NumB q j) (hv : 0 ≤ v ∧ v < 281474976710656) (hj : j < 3) : NumB (q.set f (q.num f + v)) (j + 1) := by
  intro g
  have h1 := h f
  have h2 := h g
  rcases q.set_num f g (q.num f + v) with e | e
  · rw [e]; push_cast; omega
  · rw [e]; push_cast; omega
theorem getE_else {n : Nat} {a k : Int} (ha : 0 ≤ a) (hk : 1 ≤ k ∧ k ≤ 6) (h : ¬ getE n a k = 0) : getE n a k = 50 := by
  unfold getE at *
  rw [if_neg (by omega)] at h ⊢
  split
  · rfl
  · rename_i h2
    rw [if_neg h2] at h
    exact absurd rfl h
theorem dst_ok {l : List Oper} (h : (l.all fun o => o.dst != some 2 && o.dst != some 3) = true) {k : Nat} {o : Oper} (ho : l.toArray[k]? = some o) : o.dst ≠ some 2 ∧ o.dst ≠ some 3 := by
  have hm : o ∈ l := List.mem_of_getElem? (i := k) (by simpa using ho)
  have := List.all_eq_true.1 h o hm
  simp only [Bool.and_eq_true, bne_iff_ne] at this
  exact this
theorem end_none {l : List Nat} {R0 : Option (Rq × Int)} {RQ : Rq} {RE : Int} (h : rdEnd l R0 = (RQ, RE)) (h0 : R0 = none) : RQ = zrq ∧ RE = 50 := by
  subst h0
  cases h
  exact ⟨rfl, rfl⟩
theorem end_short {l : List Nat} {q : Rq} {a : Int} {RQ : Rq} {RE : Int} (h : rdEnd l (some (q, a)) = (RQ, RE)) (h0 : a < l.length) : RQ = zrq ∧ RE = 50 := by
  simp only [rdEnd] at h
  rw [if_pos h0] at h
  cases h
  exact ⟨rfl, rfl⟩
theorem end_full {l : List Nat} {q : Rq} {a : Int} {RQ : Rq} {RE : Int} (h : rdEnd l (some (q, a)) = (RQ, RE)) (h0 : ¬ a < l.length) : (wrongE q = 0 → RQ = q ∧ RE = 0) ∧ (wrongE q ≠ 0 → RQ = zrq ∧ RE = wrongE q) := by
  simp only [rdEnd] at h
  rw [if_neg h0] at h
  constructor
  · intro hz
    rw [if_pos hz] at h
    cases h
    exact ⟨rfl, rfl⟩
  · intro hz
    rw [if_neg hz] at h
    cases h
    exact ⟨rfl, rfl⟩
theorem kind_wf {q : Rq} {k : Int} (h : q.k = k) (hk : 0 ≤ k ∧ k ≤ 9) : (Lit.int .i8 q.k).wf = true := by
  rw [h]
  simp [Lit.wf, IntKind.min, IntKind.max, IntKind.bits, IntKind.signed]
  omega
set_option maxHeartbeats 4000000 in
theorem read_some (v0 : Value) (l : List Nat) (w : World) (hsl : Sl w v0 l) (hl : l.length ≤ 1000000) (he : getE l.length 0 1 = 0) : Calls Try.prog 35 #[v0] w (RPost (rdQ l).1 (rdQ l).2 w) := by
  have hmf : ∀ (fn : Fn) (first cap : Array Value) (w : World), (Instr.makeFunc fn first cap).run Try.prog w = .ok (.func fn first cap) w := fun _ _ _ _ => rfl
  obtain ⟨ao, cap, rfl, hcap1, hcap2⟩ := hsl.open
  have HS := Lib.hid (RdW.start w (.slice ao l.length cap))
  have HSl := Lib.hid (((hsl.alloc (.cells zrq.cells 34)).alloc (.cells #[.int .i64 0] 22)).alloc (.cells #[(.slice ao l.length cap), .int .i64 0] 79))
  have HE := Lib.hid he
  have HSW := Lib.hid hsl
  have HBY := Lib.hid hsl.bytes
  obtain ⟨RQ, RE, hR⟩ : ∃ RQ RE, rdQ l = (RQ, RE) := ⟨_, _, rfl⟩
  rw [hR]
  simp only
  unfold rdQ at hR
  rw [if_pos he] at hR
  obtain ⟨k, hk⟩ : ∃ k, getV l 0 1 = k := ⟨_, rfl⟩
  rw [hk] at hR
  have hkr : 0 ≤ k ∧ k < 256 := by rw [← hk]; exact getV_one hsl.bytes 0
  clear he hsl
  by_cases h9 : 9 < k
  · rw [if_pos h9] at hR
    cases hR
    have d9 : decide (9 < k) = true := by simpa using h9
    clear h9
    go_enter_defers Try.func35, Try.ntmps35
    go_wp2_with fail
    refine (take_yes _ _ l 0 1 (by omega) (by omega) _ HS.out.rh HSl.out HE.out).mono ?_
    rintro e x ⟨rfl, n, hx⟩
    have HX := Lib.hid (show RdW w x (.slice ao l.length cap) zrq 1 by rw [hx]; exact (HS.out.at' (b := 1)).drewN n)
    rw [hk]
    clear hk hx
    go_wp2_with fail
    exact read_panic HX.out 50 _ ⟨rfl, rfl⟩
  · rw [if_neg h9] at hR
    obtain ⟨R0, hR0⟩ : ∃ R0, rdLoop l (fieldsOf k) (rdStart k) 1 = R0 := ⟨_, rfl⟩
    rw [hR0] at hR
    obtain ⟨fl, hfl⟩ : ∃ fl, fieldsOf k = fl := ⟨_, rfl⟩
    obtain ⟨n, hn⟩ : ∃ n, fl.length = n := ⟨_, rfl⟩
    have hn3 : n ≤ 3 := by rw [← hn, ← hfl]; exact fields_len k
    have hwf : (Lit.int .i8 k).wf = true := by simp [Lit.wf, IntKind.min, IntKind.max, IntKind.bits, IntKind.signed]; omega
    have FA := Lib.hid (fields_n k fl n hwf hfl hn (by simp [isKind]; omega))
    have HFl := Lib.hid (fun f (h : f ∈ fl) => fields_lt k f (by rw [hfl]; exact h))
    have HGet := Lib.hid (fun j (h : j < n) => (⟨fl[j]'(by rw [hn]; exact h), List.getElem?_eq_getElem (by rw [hn]; exact h)⟩ : ∃ f, fl[j]? = some f))
    have HDrop := Lib.hid (show fl.drop n = [] by rw [← hn]; exact List.drop_length)
    have HLast := Lib.hid (fun (h : 0 < n) => last_at fl n hn h)
    have HNil := Lib.hid (fun (h : n = 0) => List.eq_nil_of_length_eq_zero (hn.trans h))
    have HQ0 := Lib.hid (start_eq k)
    rw [hfl] at hR0 HQ0
    have HR00 := Lib.hid hR0
    have HRS := Lib.hid hR
    have d9 : decide (9 < k) = false := by simpa using h9
    have hk9 : 0 ≤ k ∧ k ≤ 9 := by omega
    have HNB := Lib.hid (start_num k)
    have HK0 := Lib.hid (show (rdStart k).k = k from rfl)
    clear hR0 hfl hn h9 hkr hR
    go_enter_defers Try.func35, Try.ntmps35
    go_wp2_with fail
    refine (take_yes _ _ l 0 1 (by omega) (by omega) _ HS.out.rh HSl.out HE.out).mono ?_
    rintro e x ⟨rfl, n0, hx⟩
    have HX := Lib.hid (show RdW w x (.slice ao l.length cap) zrq 1 by rw [hx]; exact (HS.out.at' (b := 1)).drewN n0)
    rw [hk]
    clear hk hx hwf
    have hc0 : x.cell? ⟨w.heap.size, 0, none⟩ = some (.int .i8 0) := by rw [cell_of_row _ _ _ _ _ _ HX.out.qh]; rfl
    have hf0 := frozen_of_row _ _ 0 _ _ HX.out.qh
    have HXk := Lib.hid (HX.out.setC (q' := { zrq with k := k }) 0 (.int .i8 k) rfl)
    go_wp2_with fail
    generalize x.setCell ⟨w.heap.size, 0, none⟩ (.int .i8 k) = xk at *
    clear hc0 hf0
    refine (FA.out _).mono ?_
    rintro e x2 ⟨v, rfl, hv, hb⟩
    have HX2 := Lib.hid (HXk.out.later hb)
    clear hb
    have hc6 : x2.cell? ⟨w.heap.size, 6, none⟩ = some (.int .i64 0) := by rw [cell_of_row _ _ _ _ _ _ HX2.out.qh]; rfl
    have hf6' := frozen_of_row _ _ 6 _ _ HX2.out.qh
    have HXo := Lib.hid (HX2.out.setC (q' := { zrq with k := k, o := -1 }) 6 (.int .i64 (-1)) rfl)
    rcases hv with ⟨rfl, rfl⟩ | ⟨b, rfl, hcells⟩
    · obtain ⟨q, hq⟩ : ∃ q, rdStart k = q := ⟨_, rfl⟩
      have HR := Lib.hid (show RdW w x2 (.slice ao l.length cap) q 1 by rw [← hq, HQ0.out, HNil.out rfl]; exact HX2.out)
      have hRS0 := HRS.out
      rw [← HR00.out, HNil.out rfl] at hRS0
      have HRS := Lib.hid (show rdEnd l (some (rdStart k, 1)) = (RQ, RE) from hRS0)
      rw [hq] at HRS
      have HQK := Lib.hid (show q.k = k by rw [← hq]; rfl)
      clear hc6 hf6' hn3 hq
      go_wp2_with fail
      refine wp_loop_rounds 1 ?_
      rw [rounds_succ]
      generalize x2 = wr at *
      obtain ⟨a, ha⟩ : ∃ a : Int, a = 1 := ⟨_, rfl⟩
      rw [← ha] at HR HRS
      clear ha
      have hat : wr.cell? ⟨w.heap.size + 1 + 1, 1, none⟩ = some (.int .i64 a) := by rw [cell_of_row _ _ _ _ _ _ HR.out.rh]; rfl
      by_cases hend : a < (l.length : Int)
      · have HRN := Lib.hid (end_short HRS.out hend)
        clear hRS0
        go_wp2_with fail
        exact read_panic2 HR.out 50 HRN.out _ ⟨rfl, rfl⟩
      · have d1 : decide (a < (l.length : Int)) = false := by simpa using hend
        have c0 : wr.cell? ⟨w.heap.size, 0, none⟩ = some (.int .i8 q.k) := by rw [cell_of_row _ _ _ _ _ _ HR.out.qh]; rfl
        have c1 : wr.cell? ⟨w.heap.size, 1, none⟩ = some (.int .i64 q.t) := by rw [cell_of_row _ _ _ _ _ _ HR.out.qh]; rfl
        have c2 : wr.cell? ⟨w.heap.size, 2, none⟩ = some (.int .i64 q.y) := by rw [cell_of_row _ _ _ _ _ _ HR.out.qh]; rfl
        have c3 : wr.cell? ⟨w.heap.size, 3, none⟩ = some (.int .i64 q.v) := by rw [cell_of_row _ _ _ _ _ _ HR.out.qh]; rfl
        have c4 : wr.cell? ⟨w.heap.size, 4, none⟩ = some (.int .i64 q.p) := by rw [cell_of_row _ _ _ _ _ _ HR.out.qh]; rfl
        have c5 : wr.cell? ⟨w.heap.size, 5, none⟩ = some (.int .i64 q.f) := by rw [cell_of_row _ _ _ _ _ _ HR.out.qh]; rfl
        have c6 : wr.cell? ⟨w.heap.size, 6, none⟩ = some (.int .i64 q.o) := by rw [cell_of_row _ _ _ _ _ _ HR.out.qh]; rfl
        have HEN := Lib.hid (end_full HRS.out hend)
        have HKW := Lib.hid (kind_wf (HQK.out) hk9)
        clear hend hRS0
        go_wp2_with fail
        refine (wrong_any q HKW.out wr).mono ?_
        rintro e xw ⟨rfl, hb⟩
        have HXW := Lib.hid (HR.out.later hb)
        clear hb c0 c1 c2 c3 c4 c5 c6 hat
        by_cases hwz : wrongE q = 0
        · have HZ := Lib.hid (HEN.out.1 hwz)
          rw [hwz]
          clear hwz
          have c0 : xw.cell? ⟨w.heap.size, 0, none⟩ = some (.int .i8 q.k) := by rw [cell_of_row _ _ _ _ _ _ HXW.out.qh]; rfl
          have c1 : xw.cell? ⟨w.heap.size, 1, none⟩ = some (.int .i64 q.t) := by rw [cell_of_row _ _ _ _ _ _ HXW.out.qh]; rfl
          have c2 : xw.cell? ⟨w.heap.size, 2, none⟩ = some (.int .i64 q.y) := by rw [cell_of_row _ _ _ _ _ _ HXW.out.qh]; rfl
          have c3 : xw.cell? ⟨w.heap.size, 3, none⟩ = some (.int .i64 q.v) := by rw [cell_of_row _ _ _ _ _ _ HXW.out.qh]; rfl
          have c4 : xw.cell? ⟨w.heap.size, 4, none⟩ = some (.int .i64 q.p) := by rw [cell_of_row _ _ _ _ _ _ HXW.out.qh]; rfl
          have c5 : xw.cell? ⟨w.heap.size, 5, none⟩ = some (.int .i64 q.f) := by rw [cell_of_row _ _ _ _ _ _ HXW.out.qh]; rfl
          have c6 : xw.cell? ⟨w.heap.size, 6, none⟩ = some (.int .i64 q.o) := by rw [cell_of_row _ _ _ _ _ _ HXW.out.qh]; rfl
          have ce : xw.cell? ⟨w.heap.size + 1, 0, none⟩ = some (.int .i64 0) := by rw [cell_of_row _ _ _ _ _ _ HXW.out.eh]; rfl
          have fq := fun i => frozen_of_row _ _ i _ _ HXW.out.qh
          have fe := frozen_of_row _ _ 0 _ _ HXW.out.eh
          go_wp2_with fail
          exact read_return2 HXW.out.ret HZ.out _ ⟨rfl, rfl⟩
        · have HZ := Lib.hid (HEN.out.2 hwz)
          have z1 : (wrongE q == 0) = false := by simpa using hwz
          have z2 : (wrongE q != 0) = true := by simpa using hwz
          clear hwz
          go_wp2_with fail
          exact read_panic2 HXW.out (wrongE q) HZ.out _ ⟨rfl, rfl⟩
    · rcases Nat.eq_zero_or_pos n with rfl | hn0
      · obtain ⟨q, hq⟩ : ∃ q, rdStart k = q := ⟨_, rfl⟩
        have HR := Lib.hid (show RdW w x2 (.slice ao l.length cap) q 1 by rw [← hq, HQ0.out, HNil.out rfl]; exact HX2.out)
        have hRS0 := HRS.out
        rw [← HR00.out, HNil.out rfl] at hRS0
        have HRS := Lib.hid (show rdEnd l (some (rdStart k, 1)) = (RQ, RE) from hRS0)
        rw [hq] at HRS
        have HQK := Lib.hid (show q.k = k by rw [← hq]; rfl)
        clear hc6 hf6' hn3 hq
        go_wp2_with fail
        refine wp_loop_rounds 1 ?_
        rw [rounds_succ]
        generalize x2 = wr at *
        obtain ⟨a, ha⟩ : ∃ a : Int, a = 1 := ⟨_, rfl⟩
        rw [← ha] at HR HRS
        clear ha
        have hat : wr.cell? ⟨w.heap.size + 1 + 1, 1, none⟩ = some (.int .i64 a) := by rw [cell_of_row _ _ _ _ _ _ HR.out.rh]; rfl
        by_cases hend : a < (l.length : Int)
        · have HRN := Lib.hid (end_short HRS.out hend)
          clear hRS0
          go_wp2_with fail
          exact read_panic2 HR.out 50 HRN.out _ ⟨rfl, rfl⟩
        · have d1 : decide (a < (l.length : Int)) = false := by simpa using hend
          have c0 : wr.cell? ⟨w.heap.size, 0, none⟩ = some (.int .i8 q.k) := by rw [cell_of_row _ _ _ _ _ _ HR.out.qh]; rfl
          have c1 : wr.cell? ⟨w.heap.size, 1, none⟩ = some (.int .i64 q.t) := by rw [cell_of_row _ _ _ _ _ _ HR.out.qh]; rfl
          have c2 : wr.cell? ⟨w.heap.size, 2, none⟩ = some (.int .i64 q.y) := by rw [cell_of_row _ _ _ _ _ _ HR.out.qh]; rfl
          have c3 : wr.cell? ⟨w.heap.size, 3, none⟩ = some (.int .i64 q.v) := by rw [cell_of_row _ _ _ _ _ _ HR.out.qh]; rfl
          have c4 : wr.cell? ⟨w.heap.size, 4, none⟩ = some (.int .i64 q.p) := by rw [cell_of_row _ _ _ _ _ _ HR.out.qh]; rfl
          have c5 : wr.cell? ⟨w.heap.size, 5, none⟩ = some (.int .i64 q.f) := by rw [cell_of_row _ _ _ _ _ _ HR.out.qh]; rfl
          have c6 : wr.cell? ⟨w.heap.size, 6, none⟩ = some (.int .i64 q.o) := by rw [cell_of_row _ _ _ _ _ _ HR.out.qh]; rfl
          have HEN := Lib.hid (end_full HRS.out hend)
          have HKW := Lib.hid (kind_wf (HQK.out) hk9)
          clear hend hRS0
          go_wp2_with fail
          refine (wrong_any q HKW.out wr).mono ?_
          rintro e xw ⟨rfl, hb⟩
          have HXW := Lib.hid (HR.out.later hb)
          clear hb c0 c1 c2 c3 c4 c5 c6 hat
          by_cases hwz : wrongE q = 0
          · have HZ := Lib.hid (HEN.out.1 hwz)
            rw [hwz]
            clear hwz
            have c0 : xw.cell? ⟨w.heap.size, 0, none⟩ = some (.int .i8 q.k) := by rw [cell_of_row _ _ _ _ _ _ HXW.out.qh]; rfl
            have c1 : xw.cell? ⟨w.heap.size, 1, none⟩ = some (.int .i64 q.t) := by rw [cell_of_row _ _ _ _ _ _ HXW.out.qh]; rfl
            have c2 : xw.cell? ⟨w.heap.size, 2, none⟩ = some (.int .i64 q.y) := by rw [cell_of_row _ _ _ _ _ _ HXW.out.qh]; rfl
            have c3 : xw.cell? ⟨w.heap.size, 3, none⟩ = some (.int .i64 q.v) := by rw [cell_of_row _ _ _ _ _ _ HXW.out.qh]; rfl
            have c4 : xw.cell? ⟨w.heap.size, 4, none⟩ = some (.int .i64 q.p) := by rw [cell_of_row _ _ _ _ _ _ HXW.out.qh]; rfl
            have c5 : xw.cell? ⟨w.heap.size, 5, none⟩ = some (.int .i64 q.f) := by rw [cell_of_row _ _ _ _ _ _ HXW.out.qh]; rfl
            have c6 : xw.cell? ⟨w.heap.size, 6, none⟩ = some (.int .i64 q.o) := by rw [cell_of_row _ _ _ _ _ _ HXW.out.qh]; rfl
            have ce : xw.cell? ⟨w.heap.size + 1, 0, none⟩ = some (.int .i64 0) := by rw [cell_of_row _ _ _ _ _ _ HXW.out.eh]; rfl
            have fq := fun i => frozen_of_row _ _ i _ _ HXW.out.qh
            have fe := frozen_of_row _ _ 0 _ _ HXW.out.eh
            go_wp2_with fail
            exact read_return2 HXW.out.ret HZ.out _ ⟨rfl, rfl⟩
          · have HZ := Lib.hid (HEN.out.2 hwz)
            have z1 : (wrongE q == 0) = false := by simpa using hwz
            have z2 : (wrongE q != 0) = true := by simpa using hwz
            clear hwz
            go_wp2_with fail
            exact read_panic2 HXW.out (wrongE q) HZ.out _ ⟨rfl, rfl⟩
      · have HFR2 := Lib.hid (show FRow x2 b fl from hcells)
        clear hcells
        have hn1 : (0 : Int) < (n : Int) := by omega
        have hsub : ((n : Int) - 1).toNat = n - 1 := by omega
        have hsub2 : ((n - 1 : Nat) : Int) = (n : Int) - 1 := by omega
        obtain ⟨fz, hfz1, hfz2⟩ := HLast.out hn0
        have hcz := frow_cell HFR2.out hfz1
        by_cases h5 : fz = 5
        · have d5 : ((fz : Int) == 5) = true := by rw [beq_iff_eq]; omega
          have HF0 := Lib.hid (frow_set0 (i := 6) (x := .int .i64 (-1)) HFR2.out HX2.out.qh (by decide))
          have HR0 := Lib.hid (show RdW w _ (.slice ao l.length cap) (rdStart k) 1 by rw [HQ0.out, hfz2, h5]; exact HXo.out)
          clear h5 hfz1 hfz2
          go_wp2_with fail
          clear hcz hc6 hf6' hsub hsub2 d5
          generalize x2.setCell ⟨w.heap.size, 6, none⟩ (.int .i64 (-1)) = xs at *
          go_loopw [47] (fun i wr => ∃ (j : Nat) (q : Rq) (a : Int), j ≤ n ∧ i = .int .i64 j ∧ RdW w wr (.slice ao l.length cap) q a ∧ FRow wr b fl ∧ rdLoop l (fl.drop j) q a = R0 ∧ 1 ≤ a ∧ a ≤ 1 + 6 * j ∧ NumB q j ∧ q.k = k) (fun i _ => n - (intOf i).toNat)
          case atStart => exact ⟨0, _, 1, Nat.zero_le _, rfl, HR0.out, HF0.out, HR00.out, by omega, by omega, HNB.out, HK0.out⟩
          case round =>
            obtain ⟨j, q, a, hj, rfl, hr, hfr, hR, ha1, ha2, hqb, hqk⟩ := hrel
            have HR := Lib.hid hr
            have HFR := Lib.hid hfr
            have HQB := Lib.hid hqb
            have HQK := Lib.hid hqk
            clear hr hfr hqb hqk
            by_cases hlt : j < n
            · obtain ⟨f, hf⟩ := HGet.out j hlt
              have hf6 : f < 6 := HFl.out f (List.mem_of_getElem? hf)
              have hj3 : j < 3 := by omega
              have hcell := frow_cell HFR.out hf
              have hdrop : fl.drop j = f :: fl.drop (j + 1) := drop_cons hf
              rw [hdrop] at hR
              have hwd := wd_range f
              have hvr := getV_range HBY.out a (wd f) hwd.2
              have hqn := HQB.out f
              have hix := ptrs_at w.heap.size f hf6
              clear hf hdrop
              by_cases he2 : getE l.length a (wd f) = 0
              · have HRY := Lib.hid (show rdLoop l (fl.drop (j + 1)) (q.set f (q.num f + getV l a (wd f))) (a + wd f) = R0 by rw [← hR, rdLoop, if_pos he2])
                have HE2 := Lib.hid he2
                clear he2 hR
                go_wp2_with fail
                refine wp_region_plw (.step [false, true, false, false, false, true, true] (.cons 0 (.step [false, false, true, true] (.cons 4 (.step [] (.cons 7 (.step [] (.cons 8 (.step [false, false, false, false, false, false, false, false, false, true, true] (.cons 11 (.last []) .nil)) .nil)) .nil)) (.cons 7 (.step [] (.cons 4 (.step [] (.cons 8 (.step [false, false, false, false, false, false, false, false, false, true, true] (.cons 11 (.last []) .nil)) .nil)) (.cons 8 (.step [] (.cons 4 (.step [false, false, false, false, false, false, false, false, false, true, true] (.cons 11 (.last []) .nil)) .nil)) .nil))) .nil))) .nil)) (fun _ => True) (by kernel_rfl) (by kernel_rfl) (by kernel_rfl) (fun k o h c a v w hp => panic_put (dst_ok (by kernel_rfl) h) hp) trivial ?_
                simp only [wpPw, wpBw, selF, and_true]
                repeat (go_big_quiet_step (fail))
                refine wpQuiet_nil ?_
                refine wpOp_step rfl (fun K hK => ?_)
                go_simp
                refine (numbers_any _ _).mono ?_
                rintro e x1 ⟨rfl, hb⟩
                have HX1 := Lib.hid ((HR.out.drewN 1).later hb)
                have HF1 := Lib.hid (frow_later (wr := wr.drewN 1) HFR.out hb)
                clear hb
                have hnum := HX1.out.num f hf6
                refine hK _ _ ⟨fun _ => True, trivial, fun _ h => h, ?_⟩
                clear hK K
                repeat (go_big_quiet_step (fail))
                refine wpQuiet_nil ?_
                refine ⟨?_, ?_⟩
                · refine wpOp_step rfl (fun K hK => ?_)
                  go_simp
                  refine hK _ _ ⟨fun _ => True, trivial, fun _ h => h, ?_⟩
                  clear hK K
                  repeat (go_big_quiet_step (fail))
                  refine wpQuiet_nil ?_
                  refine wpOp_step rfl (fun K hK => ?_)
                  go_simp
                  refine (widths_any f hf6 _).mono ?_
                  rintro e x ⟨rfl, rfl⟩
                  refine hK _ _ ⟨fun _ => True, trivial, fun _ h => h, ?_⟩
                  clear hK K
                  repeat (go_big_quiet_step (fail))
                  refine wpQuiet_nil ?_
                  refine wpOp_step rfl (fun K hK => ?_)
                  go_simp
                  refine (take_yes _ _ l a (wd f) (by omega) hwd x1 HX1.out.rh (HSW.out.below HX1.out.below (Nat.le_refl _)) HE2.out).mono ?_
                  rintro e x2 ⟨rfl, n2, hx2⟩
                  have HX2 := Lib.hid (show RdW w x2 (.slice ao l.length cap) q (a + wd f) by rw [hx2]; exact (HX1.out.at').drewN n2)
                  have HF2 := Lib.hid (show FRow x2 b fl by rw [hx2]; exact frow_set HF1.out HX1.out.rh (by decide))
                  clear hx2
                  have hnum2 := HX2.out.num f hf6
                  have hfz2 := frozen_of_row _ _ (f + 1) _ _ HX2.out.qh
                  refine hK _ _ ⟨fun _ => True, trivial, fun _ h => h, ?_⟩
                  clear hK K
                  repeat (go_big_quiet_step (fail))
                  refine wpQuiet_nil ?_
                  refine wpOp_step rfl (fun K hK => ?_)
                  go_simp
                  have HX3 := Lib.hid (HX2.out.set f hf6 (q.num f + getV l a (wd f)))
                  have HF3 := Lib.hid (frow_set0 (i := f + 1) (x := .int .i64 (q.num f + getV l a (wd f))) HF2.out HX2.out.qh (by decide))
                  refine hK _ _ ⟨fun _ => True, trivial, fun _ h => h, ?_⟩
                  clear hK K
                  refine wpQuiet_nil ?_
                  go_wp2
                  go_roundw
                  case rel => exact ⟨j + 1, q.set f (q.num f + getV l a (wd f)), a + wd f, by omega, by go_num, HX3.out, HF3.out, HRY.out, by omega, by omega, num_next HQB.out hvr hj3, (q.set_k _ _).trans HQK.out⟩
                  case measure => simp [intOf]; omega
                · refine wpOp_step rfl (fun K hK => ?_)
                  go_simp
                  refine (widths_any f hf6 _).mono ?_
                  rintro e x ⟨rfl, rfl⟩
                  refine hK _ _ ⟨fun _ => True, trivial, fun _ h => h, ?_⟩
                  clear hK K
                  repeat (go_big_quiet_step (fail))
                  refine wpQuiet_nil ?_
                  refine ⟨?_, ?_⟩
                  · refine wpOp_step rfl (fun K hK => ?_)
                    go_simp
                    refine hK _ _ ⟨fun _ => True, trivial, fun _ h => h, ?_⟩
                    clear hK K
                    repeat (go_big_quiet_step (fail))
                    refine wpQuiet_nil ?_
                    refine wpOp_step rfl (fun K hK => ?_)
                    go_simp
                    refine (take_yes _ _ l a (wd f) (by omega) hwd x1 HX1.out.rh (HSW.out.below HX1.out.below (Nat.le_refl _)) HE2.out).mono ?_
                    rintro e x2 ⟨rfl, n2, hx2⟩
                    have HX2 := Lib.hid (show RdW w x2 (.slice ao l.length cap) q (a + wd f) by rw [hx2]; exact (HX1.out.at').drewN n2)
                    have HF2 := Lib.hid (show FRow x2 b fl by rw [hx2]; exact frow_set HF1.out HX1.out.rh (by decide))
                    clear hx2
                    have hnum2 := HX2.out.num f hf6
                    have hfz2 := frozen_of_row _ _ (f + 1) _ _ HX2.out.qh
                    refine hK _ _ ⟨fun _ => True, trivial, fun _ h => h, ?_⟩
                    clear hK K
                    repeat (go_big_quiet_step (fail))
                    refine wpQuiet_nil ?_
                    refine wpOp_step rfl (fun K hK => ?_)
                    go_simp
                    have HX3 := Lib.hid (HX2.out.set f hf6 (q.num f + getV l a (wd f)))
                    have HF3 := Lib.hid (frow_set0 (i := f + 1) (x := .int .i64 (q.num f + getV l a (wd f))) HF2.out HX2.out.qh (by decide))
                    refine hK _ _ ⟨fun _ => True, trivial, fun _ h => h, ?_⟩
                    clear hK K
                    refine wpQuiet_nil ?_
                    go_wp2
                    go_roundw
                    case rel => exact ⟨j + 1, q.set f (q.num f + getV l a (wd f)), a + wd f, by omega, by go_num, HX3.out, HF3.out, HRY.out, by omega, by omega, num_next HQB.out hvr hj3, (q.set_k _ _).trans HQK.out⟩
                    case measure => simp [intOf]; omega
                  · refine wpOp_step rfl (fun K hK => ?_)
                    go_simp
                    refine (take_yes _ _ l a (wd f) (by omega) hwd x1 HX1.out.rh (HSW.out.below HX1.out.below (Nat.le_refl _)) HE2.out).mono ?_
                    rintro e x2 ⟨rfl, n2, hx2⟩
                    have HX2 := Lib.hid (show RdW w x2 (.slice ao l.length cap) q (a + wd f) by rw [hx2]; exact (HX1.out.at').drewN n2)
                    have HF2 := Lib.hid (show FRow x2 b fl by rw [hx2]; exact frow_set HF1.out HX1.out.rh (by decide))
                    clear hx2
                    have hnum2 := HX2.out.num f hf6
                    have hfz2 := frozen_of_row _ _ (f + 1) _ _ HX2.out.qh
                    refine hK _ _ ⟨fun _ => True, trivial, fun _ h => h, ?_⟩
                    clear hK K
                    repeat (go_big_quiet_step (fail))
                    refine wpQuiet_nil ?_
                    refine wpOp_step rfl (fun K hK => ?_)
                    go_simp
                    refine hK _ _ ⟨fun _ => True, trivial, fun _ h => h, ?_⟩
                    clear hK K
                    repeat (go_big_quiet_step (fail))
                    refine wpQuiet_nil ?_
                    refine wpOp_step rfl (fun K hK => ?_)
                    go_simp
                    have HX3 := Lib.hid (HX2.out.set f hf6 (q.num f + getV l a (wd f)))
                    have HF3 := Lib.hid (frow_set0 (i := f + 1) (x := .int .i64 (q.num f + getV l a (wd f))) HF2.out HX2.out.qh (by decide))
                    refine hK _ _ ⟨fun _ => True, trivial, fun _ h => h, ?_⟩
                    clear hK K
                    refine wpQuiet_nil ?_
                    go_wp2
                    go_roundw
                    case rel => exact ⟨j + 1, q.set f (q.num f + getV l a (wd f)), a + wd f, by omega, by go_num, HX3.out, HF3.out, HRY.out, by omega, by omega, num_next HQB.out hvr hj3, (q.set_k _ _).trans HQK.out⟩
                    case measure => simp [intOf]; omega

              · have HRN := Lib.hid (end_none (R0 := R0) HRS.out (by rw [← hR, rdLoop, if_neg he2]))
                have HE2 := Lib.hid (getE_else (by omega) hwd he2)
                clear he2 hR
                go_wp2_with fail
                refine wp_region_plw (.step [false, true, false, false, false, true, true] (.cons 0 (.step [false, false, true, true] (.cons 4 (.step [] (.cons 7 (.step [] (.cons 8 (.step [false, false, false, false, false, false, false, false, false, true, true] (.cons 11 (.last []) .nil)) .nil)) .nil)) (.cons 7 (.step [] (.cons 4 (.step [] (.cons 8 (.step [false, false, false, false, false, false, false, false, false, true, true] (.cons 11 (.last []) .nil)) .nil)) (.cons 8 (.step [] (.cons 4 (.step [false, false, false, false, false, false, false, false, false, true, true] (.cons 11 (.last []) .nil)) .nil)) .nil))) .nil))) .nil)) (fun _ => True) (by kernel_rfl) (by kernel_rfl) (by kernel_rfl) (fun k o h c a v w hp => panic_put (dst_ok (by kernel_rfl) h) hp) trivial ?_
                simp only [wpPw, wpBw, selF, and_true]
                repeat (go_big_quiet_step (fail))
                refine wpQuiet_nil ?_
                refine wpOp_step rfl (fun K hK => ?_)
                go_simp
                refine (numbers_any _ _).mono ?_
                rintro e x1 ⟨rfl, hb⟩
                have HX1 := Lib.hid ((HR.out.drewN 1).later hb)
                have HF1 := Lib.hid (frow_later (wr := wr.drewN 1) HFR.out hb)
                clear hb
                have hnum := HX1.out.num f hf6
                refine hK _ _ ⟨fun _ => True, trivial, fun _ h => h, ?_⟩
                clear hK K
                repeat (go_big_quiet_step (fail))
                refine wpQuiet_nil ?_
                refine ⟨?_, ?_⟩
                · refine wpOp_step rfl (fun K hK => ?_)
                  go_simp
                  refine hK _ _ ⟨fun _ => True, trivial, fun _ h => h, ?_⟩
                  clear hK K
                  repeat (go_big_quiet_step (fail))
                  refine wpQuiet_nil ?_
                  refine wpOp_step rfl (fun K hK => ?_)
                  go_simp
                  refine (widths_any f hf6 _).mono ?_
                  rintro e x ⟨rfl, rfl⟩
                  refine hK _ _ ⟨fun _ => True, trivial, fun _ h => h, ?_⟩
                  clear hK K
                  repeat (go_big_quiet_step (fail))
                  refine wpQuiet_nil ?_
                  refine wpOp_step rfl (fun K hK => ?_)
                  go_simp
                  refine (take_no _ _ l a (wd f) (by omega) hwd x1 HX1.out.rh (HSW.out.below HX1.out.below (Nat.le_refl _)) HE2.out).mono ?_
                  rintro e x2 ⟨rfl, n2, hx2⟩
                  have HX2 := Lib.hid (show RdW w x2 (.slice ao l.length cap) q a by rw [hx2]; exact HX1.out.drewN n2)
                  clear hx2
                  exact read_panic2 HX2.out 50 HRN.out _ ⟨rfl, rfl⟩
                · refine wpOp_step rfl (fun K hK => ?_)
                  go_simp
                  refine (widths_any f hf6 _).mono ?_
                  rintro e x ⟨rfl, rfl⟩
                  refine hK _ _ ⟨fun _ => True, trivial, fun _ h => h, ?_⟩
                  clear hK K
                  repeat (go_big_quiet_step (fail))
                  refine wpQuiet_nil ?_
                  refine ⟨?_, ?_⟩
                  · refine wpOp_step rfl (fun K hK => ?_)
                    go_simp
                    refine hK _ _ ⟨fun _ => True, trivial, fun _ h => h, ?_⟩
                    clear hK K
                    repeat (go_big_quiet_step (fail))
                    refine wpQuiet_nil ?_
                    refine wpOp_step rfl (fun K hK => ?_)
                    go_simp
                    refine (take_no _ _ l a (wd f) (by omega) hwd x1 HX1.out.rh (HSW.out.below HX1.out.below (Nat.le_refl _)) HE2.out).mono ?_
                    rintro e x2 ⟨rfl, n2, hx2⟩
                    have HX2 := Lib.hid (show RdW w x2 (.slice ao l.length cap) q a by rw [hx2]; exact HX1.out.drewN n2)
                    clear hx2
                    exact read_panic2 HX2.out 50 HRN.out _ ⟨rfl, rfl⟩
                  · refine wpOp_step rfl (fun K hK => ?_)
                    go_simp
                    refine (take_no _ _ l a (wd f) (by omega) hwd x1 HX1.out.rh (HSW.out.below HX1.out.below (Nat.le_refl _)) HE2.out).mono ?_
                    rintro e x2 ⟨rfl, n2, hx2⟩
                    have HX2 := Lib.hid (show RdW w x2 (.slice ao l.length cap) q a by rw [hx2]; exact HX1.out.drewN n2)
                    clear hx2
                    exact read_panic2 HX2.out 50 HRN.out _ ⟨rfl, rfl⟩

            · obtain rfl : j = n := by omega
              rw [HDrop.out] at hR
              have hRS0 := HRS.out
              rw [← hR] at hRS0
              have HRS := Lib.hid (show rdEnd l (some (q, a)) = (RQ, RE) from hRS0)
              clear hR
              have hat : wr.cell? ⟨w.heap.size + 1 + 1, 1, none⟩ = some (.int .i64 a) := by rw [cell_of_row _ _ _ _ _ _ HR.out.rh]; rfl
              by_cases hend : a < (l.length : Int)
              · have HRN := Lib.hid (end_short HRS.out hend)
                clear hRS0
                go_wp2_with fail
                exact read_panic2 HR.out 50 HRN.out _ ⟨rfl, rfl⟩
              · have d1 : decide (a < (l.length : Int)) = false := by simpa using hend
                have c0 : wr.cell? ⟨w.heap.size, 0, none⟩ = some (.int .i8 q.k) := by rw [cell_of_row _ _ _ _ _ _ HR.out.qh]; rfl
                have c1 : wr.cell? ⟨w.heap.size, 1, none⟩ = some (.int .i64 q.t) := by rw [cell_of_row _ _ _ _ _ _ HR.out.qh]; rfl
                have c2 : wr.cell? ⟨w.heap.size, 2, none⟩ = some (.int .i64 q.y) := by rw [cell_of_row _ _ _ _ _ _ HR.out.qh]; rfl
                have c3 : wr.cell? ⟨w.heap.size, 3, none⟩ = some (.int .i64 q.v) := by rw [cell_of_row _ _ _ _ _ _ HR.out.qh]; rfl
                have c4 : wr.cell? ⟨w.heap.size, 4, none⟩ = some (.int .i64 q.p) := by rw [cell_of_row _ _ _ _ _ _ HR.out.qh]; rfl
                have c5 : wr.cell? ⟨w.heap.size, 5, none⟩ = some (.int .i64 q.f) := by rw [cell_of_row _ _ _ _ _ _ HR.out.qh]; rfl
                have c6 : wr.cell? ⟨w.heap.size, 6, none⟩ = some (.int .i64 q.o) := by rw [cell_of_row _ _ _ _ _ _ HR.out.qh]; rfl
                have HEN := Lib.hid (end_full HRS.out hend)
                have HKW := Lib.hid (kind_wf (HQK.out) hk9)
                clear hend hRS0
                go_wp2_with fail
                refine (wrong_any q HKW.out wr).mono ?_
                rintro e xw ⟨rfl, hb⟩
                have HXW := Lib.hid (HR.out.later hb)
                clear hb c0 c1 c2 c3 c4 c5 c6 hat
                by_cases hwz : wrongE q = 0
                · have HZ := Lib.hid (HEN.out.1 hwz)
                  rw [hwz]
                  clear hwz
                  have c0 : xw.cell? ⟨w.heap.size, 0, none⟩ = some (.int .i8 q.k) := by rw [cell_of_row _ _ _ _ _ _ HXW.out.qh]; rfl
                  have c1 : xw.cell? ⟨w.heap.size, 1, none⟩ = some (.int .i64 q.t) := by rw [cell_of_row _ _ _ _ _ _ HXW.out.qh]; rfl
                  have c2 : xw.cell? ⟨w.heap.size, 2, none⟩ = some (.int .i64 q.y) := by rw [cell_of_row _ _ _ _ _ _ HXW.out.qh]; rfl
                  have c3 : xw.cell? ⟨w.heap.size, 3, none⟩ = some (.int .i64 q.v) := by rw [cell_of_row _ _ _ _ _ _ HXW.out.qh]; rfl
                  have c4 : xw.cell? ⟨w.heap.size, 4, none⟩ = some (.int .i64 q.p) := by rw [cell_of_row _ _ _ _ _ _ HXW.out.qh]; rfl
                  have c5 : xw.cell? ⟨w.heap.size, 5, none⟩ = some (.int .i64 q.f) := by rw [cell_of_row _ _ _ _ _ _ HXW.out.qh]; rfl
                  have c6 : xw.cell? ⟨w.heap.size, 6, none⟩ = some (.int .i64 q.o) := by rw [cell_of_row _ _ _ _ _ _ HXW.out.qh]; rfl
                  have ce : xw.cell? ⟨w.heap.size + 1, 0, none⟩ = some (.int .i64 0) := by rw [cell_of_row _ _ _ _ _ _ HXW.out.eh]; rfl
                  have fq := fun i => frozen_of_row _ _ i _ _ HXW.out.qh
                  have fe := frozen_of_row _ _ 0 _ _ HXW.out.eh
                  go_wp2_with fail
                  exact read_return2 HXW.out.ret HZ.out _ ⟨rfl, rfl⟩
                · have HZ := Lib.hid (HEN.out.2 hwz)
                  have z1 : (wrongE q == 0) = false := by simpa using hwz
                  have z2 : (wrongE q != 0) = true := by simpa using hwz
                  clear hwz
                  go_wp2_with fail
                  exact read_panic2 HXW.out (wrongE q) HZ.out _ ⟨rfl, rfl⟩
        · have d5 : ((fz : Int) == 5) = false := by rw [beq_eq_false_iff_ne]; omega
          have HF0 := HFR2
          have HR0 := Lib.hid (show RdW w x2 (.slice ao l.length cap) (rdStart k) 1 by rw [HQ0.out, hfz2, if_neg (by intro e; exact h5 (Option.some.inj e))]; exact HX2.out)
          clear h5 hfz1 hfz2
          go_wp2_with fail
          clear hcz hc6 hf6' hsub hsub2 d5
          go_loopw [47] (fun i wr => ∃ (j : Nat) (q : Rq) (a : Int), j ≤ n ∧ i = .int .i64 j ∧ RdW w wr (.slice ao l.length cap) q a ∧ FRow wr b fl ∧ rdLoop l (fl.drop j) q a = R0 ∧ 1 ≤ a ∧ a ≤ 1 + 6 * j ∧ NumB q j ∧ q.k = k) (fun i _ => n - (intOf i).toNat)
          case atStart => exact ⟨0, _, 1, Nat.zero_le _, rfl, HR0.out, HF0.out, HR00.out, by omega, by omega, HNB.out, HK0.out⟩
          case round =>
            obtain ⟨j, q, a, hj, rfl, hr, hfr, hR, ha1, ha2, hqb, hqk⟩ := hrel
            have HR := Lib.hid hr
            have HFR := Lib.hid hfr
            have HQB := Lib.hid hqb
            have HQK := Lib.hid hqk
            clear hr hfr hqb hqk
            by_cases hlt : j < n
            · obtain ⟨f, hf⟩ := HGet.out j hlt
              have hf6 : f < 6 := HFl.out f (List.mem_of_getElem? hf)
              have hj3 : j < 3 := by omega
              have hcell := frow_cell HFR.out hf
              have hdrop : fl.drop j = f :: fl.drop (j + 1) := drop_cons hf
              rw [hdrop] at hR
              have hwd := wd_range f
              have hvr := getV_range HBY.out a (wd f) hwd.2
              have hqn := HQB.out f
              have hix := ptrs_at w.heap.size f hf6
              clear hf hdrop
              by_cases he2 : getE l.length a (wd f) = 0
              · have HRY := Lib.hid (show rdLoop l (fl.drop (j + 1)) (q.set f (q.num f + getV l a (wd f))) (a + wd f) = R0 by rw [← hR, rdLoop, if_pos he2])
                have HE2 := Lib.hid he2
                clear he2 hR
                go_wp2_with fail
                refine wp_region_plw (.step [false, true, false, false, false, true, true] (.cons 0 (.step [false, false, true, true] (.cons 4 (.step [] (.cons 7 (.step [] (.cons 8 (.step [false, false, false, false, false, false, false, false, false, true, true] (.cons 11 (.last []) .nil)) .nil)) .nil)) (.cons 7 (.step [] (.cons 4 (.step [] (.cons 8 (.step [false, false, false, false, false, false, false, false, false, true, true] (.cons 11 (.last []) .nil)) .nil)) (.cons 8 (.step [] (.cons 4 (.step [false, false, false, false, false, false, false, false, false, true, true] (.cons 11 (.last []) .nil)) .nil)) .nil))) .nil))) .nil)) (fun _ => True) (by kernel_rfl) (by kernel_rfl) (by kernel_rfl) (fun k o h c a v w hp => panic_put (dst_ok (by kernel_rfl) h) hp) trivial ?_
                simp only [wpPw, wpBw, selF, and_true]
                repeat (go_big_quiet_step (fail))
                refine wpQuiet_nil ?_
                refine wpOp_step rfl (fun K hK => ?_)
                go_simp
                refine (numbers_any _ _).mono ?_
                rintro e x1 ⟨rfl, hb⟩
                have HX1 := Lib.hid ((HR.out.drewN 1).later hb)
                have HF1 := Lib.hid (frow_later (wr := wr.drewN 1) HFR.out hb)
                clear hb
                have hnum := HX1.out.num f hf6
                refine hK _ _ ⟨fun _ => True, trivial, fun _ h => h, ?_⟩
                clear hK K
                repeat (go_big_quiet_step (fail))
                refine wpQuiet_nil ?_
                refine ⟨?_, ?_⟩
                · refine wpOp_step rfl (fun K hK => ?_)
                  go_simp
                  refine hK _ _ ⟨fun _ => True, trivial, fun _ h => h, ?_⟩
                  clear hK K
                  repeat (go_big_quiet_step (fail))
                  refine wpQuiet_nil ?_
                  refine wpOp_step rfl (fun K hK => ?_)
                  go_simp
                  refine (widths_any f hf6 _).mono ?_
                  rintro e x ⟨rfl, rfl⟩
                  refine hK _ _ ⟨fun _ => True, trivial, fun _ h => h, ?_⟩
                  clear hK K
                  repeat (go_big_quiet_step (fail))
                  refine wpQuiet_nil ?_
                  refine wpOp_step rfl (fun K hK => ?_)
                  go_simp
                  refine (take_yes _ _ l a (wd f) (by omega) hwd x1 HX1.out.rh (HSW.out.below HX1.out.below (Nat.le_refl _)) HE2.out).mono ?_
                  rintro e x2 ⟨rfl, n2, hx2⟩
                  have HX2 := Lib.hid (show RdW w x2 (.slice ao l.length cap) q (a + wd f) by rw [hx2]; exact (HX1.out.at').drewN n2)
                  have HF2 := Lib.hid (show FRow x2 b fl by rw [hx2]; exact frow_set HF1.out HX1.out.rh (by decide))
                  clear hx2
                  have hnum2 := HX2.out.num f hf6
                  have hfz2 := frozen_of_row _ _ (f + 1) _ _ HX2.out.qh
                  refine hK _ _ ⟨fun _ => True, trivial, fun _ h => h, ?_⟩
                  clear hK K
                  repeat (go_big_quiet_step (fail))
                  refine wpQuiet_nil ?_
                  refine wpOp_step rfl (fun K hK => ?_)
                  go_simp
                  have HX3 := Lib.hid (HX2.out.set f hf6 (q.num f + getV l a (wd f)))
                  have HF3 := Lib.hid (frow_set0 (i := f + 1) (x := .int .i64 (q.num f + getV l a (wd f))) HF2.out HX2.out.qh (by decide))
                  refine hK _ _ ⟨fun _ => True, trivial, fun _ h => h, ?_⟩
                  clear hK K
                  refine wpQuiet_nil ?_
                  go_wp2
                  go_roundw
                  case rel => exact ⟨j + 1, q.set f (q.num f + getV l a (wd f)), a + wd f, by omega, by go_num, HX3.out, HF3.out, HRY.out, by omega, by omega, num_next HQB.out hvr hj3, (q.set_k _ _).trans HQK.out⟩
                  case measure => simp [intOf]; omega
                · refine wpOp_step rfl (fun K hK => ?_)
                  go_simp
                  refine (widths_any f hf6 _).mono ?_
                  rintro e x ⟨rfl, rfl⟩
                  refine hK _ _ ⟨fun _ => True, trivial, fun _ h => h, ?_⟩
                  clear hK K
                  repeat (go_big_quiet_step (fail))
                  refine wpQuiet_nil ?_
                  refine ⟨?_, ?_⟩
                  · refine wpOp_step rfl (fun K hK => ?_)
                    go_simp
                    refine hK _ _ ⟨fun _ => True, trivial, fun _ h => h, ?_⟩
                    clear hK K
                    repeat (go_big_quiet_step (fail))
                    refine wpQuiet_nil ?_
                    refine wpOp_step rfl (fun K hK => ?_)
                    go_simp
                    refine (take_yes _ _ l a (wd f) (by omega) hwd x1 HX1.out.rh (HSW.out.below HX1.out.below (Nat.le_refl _)) HE2.out).mono ?_
                    rintro e x2 ⟨rfl, n2, hx2⟩
                    have HX2 := Lib.hid (show RdW w x2 (.slice ao l.length cap) q (a + wd f) by rw [hx2]; exact (HX1.out.at').drewN n2)
                    have HF2 := Lib.hid (show FRow x2 b fl by rw [hx2]; exact frow_set HF1.out HX1.out.rh (by decide))
                    clear hx2
                    have hnum2 := HX2.out.num f hf6
                    have hfz2 := frozen_of_row _ _ (f + 1) _ _ HX2.out.qh
                    refine hK _ _ ⟨fun _ => True, trivial, fun _ h => h, ?_⟩
                    clear hK K
                    repeat (go_big_quiet_step (fail))
                    refine wpQuiet_nil ?_
                    refine wpOp_step rfl (fun K hK => ?_)
                    go_simp
                    have HX3 := Lib.hid (HX2.out.set f hf6 (q.num f + getV l a (wd f)))
                    have HF3 := Lib.hid (frow_set0 (i := f + 1) (x := .int .i64 (q.num f + getV l a (wd f))) HF2.out HX2.out.qh (by decide))
                    refine hK _ _ ⟨fun _ => True, trivial, fun _ h => h, ?_⟩
                    clear hK K
                    refine wpQuiet_nil ?_
                    go_wp2
                    go_roundw
                    case rel => exact ⟨j + 1, q.set f (q.num f + getV l a (wd f)), a + wd f, by omega, by go_num, HX3.out, HF3.out, HRY.out, by omega, by omega, num_next HQB.out hvr hj3, (q.set_k _ _).trans HQK.out⟩
                    case measure => simp [intOf]; omega
                  · refine wpOp_step rfl (fun K hK => ?_)
                    go_simp
                    refine (take_yes _ _ l a (wd f) (by omega) hwd x1 HX1.out.rh (HSW.out.below HX1.out.below (Nat.le_refl _)) HE2.out).mono ?_
                    rintro e x2 ⟨rfl, n2, hx2⟩
                    have HX2 := Lib.hid (show RdW w x2 (.slice ao l.length cap) q (a + wd f) by rw [hx2]; exact (HX1.out.at').drewN n2)
                    have HF2 := Lib.hid (show FRow x2 b fl by rw [hx2]; exact frow_set HF1.out HX1.out.rh (by decide))
                    clear hx2
                    have hnum2 := HX2.out.num f hf6
                    have hfz2 := frozen_of_row _ _ (f + 1) _ _ HX2.out.qh
                    refine hK _ _ ⟨fun _ => True, trivial, fun _ h => h, ?_⟩
                    clear hK K
                    repeat (go_big_quiet_step (fail))
                    refine wpQuiet_nil ?_
                    refine wpOp_step rfl (fun K hK => ?_)
                    go_simp
                    refine hK _ _ ⟨fun _ => True, trivial, fun _ h => h, ?_⟩
                    clear hK K
                    repeat (go_big_quiet_step (fail))
                    refine wpQuiet_nil ?_
                    refine wpOp_step rfl (fun K hK => ?_)
                    go_simp
                    have HX3 := Lib.hid (HX2.out.set f hf6 (q.num f + getV l a (wd f)))
                    have HF3 := Lib.hid (frow_set0 (i := f + 1) (x := .int .i64 (q.num f + getV l a (wd f))) HF2.out HX2.out.qh (by decide))
                    refine hK _ _ ⟨fun _ => True, trivial, fun _ h => h, ?_⟩
                    clear hK K
                    refine wpQuiet_nil ?_
                    go_wp2
                    go_roundw
                    case rel => exact ⟨j + 1, q.set f (q.num f + getV l a (wd f)), a + wd f, by omega, by go_num, HX3.out, HF3.out, HRY.out, by omega, by omega, num_next HQB.out hvr hj3, (q.set_k _ _).trans HQK.out⟩
                    case measure => simp [intOf]; omega

              · have HRN := Lib.hid (end_none (R0 := R0) HRS.out (by rw [← hR, rdLoop, if_neg he2]))
                have HE2 := Lib.hid (getE_else (by omega) hwd he2)
                clear he2 hR
                go_wp2_with fail
                refine wp_region_plw (.step [false, true, false, false, false, true, true] (.cons 0 (.step [false, false, true, true] (.cons 4 (.step [] (.cons 7 (.step [] (.cons 8 (.step [false, false, false, false, false, false, false, false, false, true, true] (.cons 11 (.last []) .nil)) .nil)) .nil)) (.cons 7 (.step [] (.cons 4 (.step [] (.cons 8 (.step [false, false, false, false, false, false, false, false, false, true, true] (.cons 11 (.last []) .nil)) .nil)) (.cons 8 (.step [] (.cons 4 (.step [false, false, false, false, false, false, false, false, false, true, true] (.cons 11 (.last []) .nil)) .nil)) .nil))) .nil))) .nil)) (fun _ => True) (by kernel_rfl) (by kernel_rfl) (by kernel_rfl) (fun k o h c a v w hp => panic_put (dst_ok (by kernel_rfl) h) hp) trivial ?_
                simp only [wpPw, wpBw, selF, and_true]
                repeat (go_big_quiet_step (fail))
                refine wpQuiet_nil ?_
                refine wpOp_step rfl (fun K hK => ?_)
                go_simp
                refine (numbers_any _ _).mono ?_
                rintro e x1 ⟨rfl, hb⟩
                have HX1 := Lib.hid ((HR.out.drewN 1).later hb)
                have HF1 := Lib.hid (frow_later (wr := wr.drewN 1) HFR.out hb)
                clear hb
                have hnum := HX1.out.num f hf6
                refine hK _ _ ⟨fun _ => True, trivial, fun _ h => h, ?_⟩
                clear hK K
                repeat (go_big_quiet_step (fail))
                refine wpQuiet_nil ?_
                refine ⟨?_, ?_⟩
                · refine wpOp_step rfl (fun K hK => ?_)
                  go_simp
                  refine hK _ _ ⟨fun _ => True, trivial, fun _ h => h, ?_⟩
                  clear hK K
                  repeat (go_big_quiet_step (fail))
                  refine wpQuiet_nil ?_
                  refine wpOp_step rfl (fun K hK => ?_)
                  go_simp
                  refine (widths_any f hf6 _).mono ?_
                  rintro e x ⟨rfl, rfl⟩
                  refine hK _ _ ⟨fun _ => True, trivial, fun _ h => h, ?_⟩
                  clear hK K
                  repeat (go_big_quiet_step (fail))
                  refine wpQuiet_nil ?_
                  refine wpOp_step rfl (fun K hK => ?_)
                  go_simp
                  refine (take_no _ _ l a (wd f) (by omega) hwd x1 HX1.out.rh (HSW.out.below HX1.out.below (Nat.le_refl _)) HE2.out).mono ?_
                  rintro e x2 ⟨rfl, n2, hx2⟩
                  have HX2 := Lib.hid (show RdW w x2 (.slice ao l.length cap) q a by rw [hx2]; exact HX1.out.drewN n2)
                  clear hx2
                  exact read_panic2 HX2.out 50 HRN.out _ ⟨rfl, rfl⟩
                · refine wpOp_step rfl (fun K hK => ?_)
                  go_simp
                  refine (widths_any f hf6 _).mono ?_
                  rintro e x ⟨rfl, rfl⟩
                  refine hK _ _ ⟨fun _ => True, trivial, fun _ h => h, ?_⟩
                  clear hK K
                  repeat (go_big_quiet_step (fail))
                  refine wpQuiet_nil ?_
                  refine ⟨?_, ?_⟩
                  · refine wpOp_step rfl (fun K hK => ?_)
                    go_simp
                    refine hK _ _ ⟨fun _ => True, trivial, fun _ h => h, ?_⟩
                    clear hK K
                    repeat (go_big_quiet_step (fail))
                    refine wpQuiet_nil ?_
                    refine wpOp_step rfl (fun K hK => ?_)
                    go_simp
                    refine (take_no _ _ l a (wd f) (by omega) hwd x1 HX1.out.rh (HSW.out.below HX1.out.below (Nat.le_refl _)) HE2.out).mono ?_
                    rintro e x2 ⟨rfl, n2, hx2⟩
                    have HX2 := Lib.hid (show RdW w x2 (.slice ao l.length cap) q a by rw [hx2]; exact HX1.out.drewN n2)
                    clear hx2
                    exact read_panic2 HX2.out 50 HRN.out _ ⟨rfl, rfl⟩
                  · refine wpOp_step rfl (fun K hK => ?_)
                    go_simp
                    refine (take_no _ _ l a (wd f) (by omega) hwd x1 HX1.out.rh (HSW.out.below HX1.out.below (Nat.le_refl _)) HE2.out).mono ?_
                    rintro e x2 ⟨rfl, n2, hx2⟩
                    have HX2 := Lib.hid (show RdW w x2 (.slice ao l.length cap) q a by rw [hx2]; exact HX1.out.drewN n2)
                    clear hx2
                    exact read_panic2 HX2.out 50 HRN.out _ ⟨rfl, rfl⟩

            · obtain rfl : j = n := by omega
              rw [HDrop.out] at hR
              have hRS0 := HRS.out
              rw [← hR] at hRS0
              have HRS := Lib.hid (show rdEnd l (some (q, a)) = (RQ, RE) from hRS0)
              clear hR
              have hat : wr.cell? ⟨w.heap.size + 1 + 1, 1, none⟩ = some (.int .i64 a) := by rw [cell_of_row _ _ _ _ _ _ HR.out.rh]; rfl
              by_cases hend : a < (l.length : Int)
              · have HRN := Lib.hid (end_short HRS.out hend)
                clear hRS0
                go_wp2_with fail
                exact read_panic2 HR.out 50 HRN.out _ ⟨rfl, rfl⟩
              · have d1 : decide (a < (l.length : Int)) = false := by simpa using hend
                have c0 : wr.cell? ⟨w.heap.size, 0, none⟩ = some (.int .i8 q.k) := by rw [cell_of_row _ _ _ _ _ _ HR.out.qh]; rfl
                have c1 : wr.cell? ⟨w.heap.size, 1, none⟩ = some (.int .i64 q.t) := by rw [cell_of_row _ _ _ _ _ _ HR.out.qh]; rfl
                have c2 : wr.cell? ⟨w.heap.size, 2, none⟩ = some (.int .i64 q.y) := by rw [cell_of_row _ _ _ _ _ _ HR.out.qh]; rfl
                have c3 : wr.cell? ⟨w.heap.size, 3, none⟩ = some (.int .i64 q.v) := by rw [cell_of_row _ _ _ _ _ _ HR.out.qh]; rfl
                have c4 : wr.cell? ⟨w.heap.size, 4, none⟩ = some (.int .i64 q.p) := by rw [cell_of_row _ _ _ _ _ _ HR.out.qh]; rfl
                have c5 : wr.cell? ⟨w.heap.size, 5, none⟩ = some (.int .i64 q.f) := by rw [cell_of_row _ _ _ _ _ _ HR.out.qh]; rfl
                have c6 : wr.cell? ⟨w.heap.size, 6, none⟩ = some (.int .i64 q.o) := by rw [cell_of_row _ _ _ _ _ _ HR.out.qh]; rfl
                have HEN := Lib.hid (end_full HRS.out hend)
                have HKW := Lib.hid (kind_wf (HQK.out) hk9)
                clear hend hRS0
                go_wp2_with fail
                refine (wrong_any q HKW.out wr).mono ?_
                rintro e xw ⟨rfl, hb⟩
                have HXW := Lib.hid (HR.out.later hb)
                clear hb c0 c1 c2 c3 c4 c5 c6 hat
                by_cases hwz : wrongE q = 0
                · have HZ := Lib.hid (HEN.out.1 hwz)
                  rw [hwz]
                  clear hwz
                  have c0 : xw.cell? ⟨w.heap.size, 0, none⟩ = some (.int .i8 q.k) := by rw [cell_of_row _ _ _ _ _ _ HXW.out.qh]; rfl
                  have c1 : xw.cell? ⟨w.heap.size, 1, none⟩ = some (.int .i64 q.t) := by rw [cell_of_row _ _ _ _ _ _ HXW.out.qh]; rfl
                  have c2 : xw.cell? ⟨w.heap.size, 2, none⟩ = some (.int .i64 q.y) := by rw [cell_of_row _ _ _ _ _ _ HXW.out.qh]; rfl
                  have c3 : xw.cell? ⟨w.heap.size, 3, none⟩ = some (.int .i64 q.v) := by rw [cell_of_row _ _ _ _ _ _ HXW.out.qh]; rfl
                  have c4 : xw.cell? ⟨w.heap.size, 4, none⟩ = some (.int .i64 q.p) := by rw [cell_of_row _ _ _ _ _ _ HXW.out.qh]; rfl
                  have c5 : xw.cell? ⟨w.heap.size, 5, none⟩ = some (.int .i64 q.f) := by rw [cell_of_row _ _ _ _ _ _ HXW.out.qh]; rfl
                  have c6 : xw.cell? ⟨w.heap.size, 6, none⟩ = some (.int .i64 q.o) := by rw [cell_of_row _ _ _ _ _ _ HXW.out.qh]; rfl
                  have ce : xw.cell? ⟨w.heap.size + 1, 0, none⟩ = some (.int .i64 0) := by rw [cell_of_row _ _ _ _ _ _ HXW.out.eh]; rfl
                  have fq := fun i => frozen_of_row _ _ i _ _ HXW.out.qh
                  have fe := frozen_of_row _ _ 0 _ _ HXW.out.eh
                  go_wp2_with fail
                  exact read_return2 HXW.out.ret HZ.out _ ⟨rfl, rfl⟩
                · have HZ := Lib.hid (HEN.out.2 hwz)
                  have z1 : (wrongE q == 0) = false := by simpa using hwz
                  have z2 : (wrongE q != 0) = true := by simpa using hwz
                  clear hwz
                  go_wp2_with fail
                  exact read_panic2 HXW.out (wrongE q) HZ.out _ ⟨rfl, rfl⟩
end Go.Proofs.Ytcffabfaefbjcaa
