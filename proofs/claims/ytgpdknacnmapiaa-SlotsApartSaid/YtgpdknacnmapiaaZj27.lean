/-
  Parts of a proof, put together: Ph, Ps, Px.
-/
import Derived.Test.YtgpdknacnmapiaaZj01
import Derived.Test.YtgpdknacnmapiaaZj02
import Derived.Test.YtgpdknacnmapiaaZj03
import Derived.Test.YtgpdknacnmapiaaZj04
import Derived.Test.YtgpdknacnmapiaaZj05
import Derived.Test.YtgpdknacnmapiaaZj06
import Derived.Test.YtgpdknacnmapiaaZj07
import Derived.Test.YtgpdknacnmapiaaZj08
import Derived.Test.YtgpdknacnmapiaaZj09
import Derived.Test.YtgpdknacnmapiaaZj10
import Derived.Test.YtgpdknacnmapiaaZj11
import Derived.Test.YtgpdknacnmapiaaZj12
import Derived.Test.YtgpdknacnmapiaaZj13
import Derived.Test.YtgpdknacnmapiaaZj14
import Derived.Test.YtgpdknacnmapiaaZj15
import Derived.Test.YtgpdknacnmapiaaZj16
import Derived.Test.YtgpdknacnmapiaaZj17
import Derived.Test.YtgpdknacnmapiaaZj18
import Derived.Test.YtgpdknacnmapiaaZj19
import Derived.Test.YtgpdknacnmapiaaZj20
import Derived.Test.YtgpdknacnmapiaaZj21
import Derived.Test.YtgpdknacnmapiaaZj22
import Derived.Test.YtgpdknacnmapiaaZj23
import Derived.Test.YtgpdknacnmapiaaZj24
import Derived.Test.YtgpdknacnmapiaaZj25
import Derived.Test.YtgpdknacnmapiaaZj26
namespace Go.Proofs.Ytgpdknacnmapiaa
set_option linter.unusedVariables false
set_option linter.unusedSimpArgs false
open Go.RowKit
open Go
theorem run_push1 (t ty e : TypeId) (i : TypeInfo) (z : Value) (ht : Try.prog.underlying t = some (.slice e)) (hi : Try.prog.info? e = some i) (hz : i.zero = some z) (hs1 : i.size = 1) (hb8 : i.bytes ≤ 8) (hzs : z.cells.size = 1)
    (w : World) (B : Nat) (v : Value) (n : Nat) (xs : List Value) (hA : w.ownsRow B e 1 v n xs) (hB : B ≤ w.heap.size) (g c : Nat) (u : Value) (hu1 : u.oneCell' = true) (hn : w.cell? ⟨g, 0, none⟩ = some u) (h100 : n ≤ 100000) :
    ∃ v' W, (Builtin.append_ #[t, t] ty #[v, .slice (some ⟨g, 0, none⟩) 1 c]).run Try.prog w = .ok v' W ∧ W.ownsRow B e 1 v' (n + 1) (xs ++ [u]) ∧ (v'.ownBlock = v.ownBlock ∨ v'.ownBlock = some w.heap.size) ∧ w.grownBy W v.ownBlock := by
  have hnews : ∀ j u', [u][j]? = some u' → w.cell? ((⟨g, 0, none⟩ : Addr).add j) = some u' := by
    intro j u' hu
    match j, hu with
    | 0, hu => simp at hu; subst hu; rw [Addr.add_lit]; exact hn
    | j + 1, hu => simp at hu
  have hxs : xs.length = n := by have := hA.1; omega
  have fresh : ∀ (old : Nat), (w.drew.alloc (.cells (xs.toArray ++ [u].toArray ++ Builtin.zeroCells z.cells (grownCap w (n + 1) old e - (n + 1))) e)).ownsRow B e 1
      (.slice (some ⟨w.heap.size, 0, none⟩) (n + 1) (grownCap w (n + 1) old e)) (n + 1) (xs ++ [u]) := by
    intro old
    have hge := grownCap_ge w (n + 1) old e
    have hcm : grownCap w (n + 1) old e ≤ maxLen := grownCap_le_maxLen w (n + 1) old e (by simp only [maxLen]; omega)
    refine ⟨by simp [hxs], .inr ⟨w.heap.size, _, _, rfl, hB, heap_alloc_new w.drew _, hge, hcm, ?_, ?_⟩⟩
    · simp only [Array.size_append, List.size_toArray, size_zeroCells, List.length_singleton, hzs, hxs]
      omega
    · simp only [Array.toList_append, List.append_assoc]
      rw [← List.append_assoc]
      have : (n + 1) * 1 = (xs ++ [u]).length := by simp [hxs]
      rw [this]
      exact List.take_left
  rcases hA.2 with ⟨rfl, rfl⟩ | ⟨gb, cap, cur, rfl, hbg, hgg, hnc, hcm, hcs, htake⟩
  · have hs0 : xs = [] := List.eq_nil_of_length_eq_zero hxs
    subst hs0
    have hr := run_append_nil (P := Try.prog) w t ty e i z ht hi hz ⟨g, 0, none⟩ 1 c [u] (by rw [hs1]; rfl) hnews (by omega) (by omega) (by omega)
    refine ⟨_, _, hr, ?_, .inr rfl, ⟨rfl, rfl, rfl, by simp, fun k hk _ => heap_alloc_old w.drew _ hk⟩⟩
    have := fresh 0
    simpa using this
  · by_cases hroom : n + 1 ≤ cap
    · have hr := run_append_room (P := Try.prog) w t ty e i ht hi gb n cap cur hgg ⟨g, 0, none⟩ 1 c [u] (by rw [hs1]; rfl) hnews (by intro u' hu; simp at hu; subst hu; exact hu1) hroom (by rw [hs1, hcs]; simp; omega)
      refine ⟨_, _, hr, ?_, .inl rfl, ⟨rfl, rfl, rfl, by simp, fun k _ hk => setRow_other w gb k _ (fun e => hk (by simp [Value.ownBlock, e]))⟩⟩
      rw [hs1]
      refine ⟨by simp [hxs], .inr ⟨gb, cap, _, rfl, hbg, setRow_heap w gb cur _ e _ hgg, hroom, hcm, ?_, ?_⟩⟩
      · simp only [List.size_toArray, List.length_append, List.length_take, List.length_drop, Array.length_toList, List.length_singleton]
        omega
      · rw [htake]
        have : (n + 1) * 1 = (xs ++ [u]).length := by simp [hxs]
        rw [this]
        exact List.take_left
    · have holds := fun j u' (hu : xs[j]? = some u') => World.ownsRow.cells hA (g := gb) rfl j u' hu
      have hr := run_append_grow (P := Try.prog) w t ty e i z ht hi hz ⟨gb, 0, none⟩ n cap xs (by rw [hxs, hs1]; omega) holds ⟨g, 0, none⟩ 1 c [u] (by rw [hs1]; rfl) hnews (by omega) (by omega) (growslice_fits (by omega) (Nat.le_trans (Nat.mul_le_mul_left (n + 1) hb8) (by omega)))
      exact ⟨_, _, hr, fresh cap, .inr rfl, ⟨rfl, rfl, rfl, by simp, fun k hk _ => heap_alloc_old w.drew _ hk⟩⟩
theorem Mem.grow {X : Nat → Prop} {w0 W W' : World} {L : List (Nat × Array Value × TypeId)} {row : Option Nat} (h : Mem X w0 W L) (hg : W.grownBy W' row) (hrow : ∀ g, row = some g → (X g ∨ w0.heap.size ≤ g) ∧ ¬ OL L g) : Mem X w0 W' L := by
  refine ⟨hg.os.trans h.os, hg.tape.trans h.tape, hg.output.trans h.output, Nat.le_trans h.size hg.size, fun k hk hx => ?_, fun i b C t hi => ?_, h.st, h.nd⟩
  · refine (hg.block k (Nat.lt_of_lt_of_le hk h.size) (fun e => ?_)).trans (h.old k hk hx)
    rcases (hrow k e.symm).1 with h1 | h1
    · exact hx h1
    · omega
  · exact (h.hb i b C t hi).oth (hg.block b (h.lt hi) (fun e => (hrow b e.symm).2 ⟨i, C, t, hi⟩))
theorem t3b : Try.t3.bytes ≤ 8 := by
  have : Try.t3.bytes = 8 := by kernel_rfl
  omega
theorem t4b : Try.t4.bytes ≤ 8 := by
  have : Try.t4.bytes = 1 := by kernel_rfl
  omega
theorem und67 : Try.prog.underlying 67 = some (.slice 4) := by kernel_rfl
section
variable {w : World} {o : Oper} {a : Act} {Q : Exit → Act → World → Prop} {K : Act → World → Prop}
theorem wpO_pushI (s x : Operand) (ho : o.op = .call { callee := .builtin .append, args := #[s, x], argTypes := #[30, 30] }) (d : Tmp) (hd : o.dst = some d) (B : Nat) (v : Value) (n : Nat) (xs : List Value) (hv : a.eval s = v) (hA : w.ownsRow B 3 1 v n xs) (hB : B ≤ w.heap.size) (g c : Nat) (hx : a.eval x = .slice (some ⟨g, 0, none⟩) 1 c) (u : Int) (hu : w.cell? ⟨g, 0, none⟩ = some (.int .i64 u)) (h100 : n ≤ 100000)
    (h : ∀ W v', W.ownsRow B 3 1 v' (n + 1) (xs ++ [.int .i64 u]) → (v'.ownBlock = v.ownBlock ∨ v'.ownBlock = some w.heap.size) → w.grownBy W v.ownBlock → K (a.put (some d) v') W) : o.wp Try.prog a w K Q := by
  obtain ⟨v', W, hr, h1, h2, h3⟩ := run_push1 30 o.type 3 Try.t3 (.int .i64 0) und30 (by kernel_rfl) (by kernel_rfl) (by kernel_rfl) t3b rfl w B v n xs hA hB g c (.int .i64 u) rfl hu h100
  unfold Oper.wp execOp
  simp only [ho, resolve, invoke, builtin, Sem.run_bind, Sem.run_pure, Result.andThen_ok, List.map_toArray, List.map_cons, List.map_nil, hv, hx, hr]
  rw [← hd] at h
  exact h W v' h1 h2 h3
theorem wpO_pushB (s x : Operand) (ho : o.op = .call { callee := .builtin .append, args := #[s, x], argTypes := #[67, 67] }) (d : Tmp) (hd : o.dst = some d) (B : Nat) (v : Value) (n : Nat) (xs : List Value) (hv : a.eval s = v) (hA : w.ownsRow B 4 1 v n xs) (hB : B ≤ w.heap.size) (g c : Nat) (hx : a.eval x = .slice (some ⟨g, 0, none⟩) 1 c) (u : Bool) (hu : w.cell? ⟨g, 0, none⟩ = some (.bool u)) (h100 : n ≤ 100000)
    (h : ∀ W v', W.ownsRow B 4 1 v' (n + 1) (xs ++ [.bool u]) → (v'.ownBlock = v.ownBlock ∨ v'.ownBlock = some w.heap.size) → w.grownBy W v.ownBlock → K (a.put (some d) v') W) : o.wp Try.prog a w K Q := by
  obtain ⟨v', W, hr, h1, h2, h3⟩ := run_push1 67 o.type 4 Try.t4 (.bool false) und67 (by kernel_rfl) (by kernel_rfl) (by kernel_rfl) t4b rfl w B v n xs hA hB g c (.bool u) rfl hu h100
  unfold Oper.wp execOp
  simp only [ho, resolve, invoke, builtin, Sem.run_bind, Sem.run_pure, Result.andThen_ok, List.map_toArray, List.map_cons, List.map_nil, hv, hx, hr]
  rw [← hd] at h
  exact h W v' h1 h2 h3
end
theorem Live.mem2 {R H : Nat} {h : HV} {w W : World} {L : List (Nat × Array Value × TypeId)} {T : Array Value} {c : Int} {f : Fr} {x : Int} (hr : Live (PH R H h) w T c f x) (hM : Mem (fun b => b = R ∨ b = H) w W L) : Live (fun b => PH R H h b ∧ ¬ OL L b) W T c f x := by
  have hX : ∀ b, PH R H h b → ¬ (b = R ∨ b = H) := fun b hb e => by rcases e with e | e; exact hb.1 e; exact hb.2.1 e
  exact (hr.weak (Q := fun b => PH R H h b ∧ ¬ OL L b) (fun b hb hlt => ⟨hb, ol_lt hM hlt (hX b hb)⟩)).keep (fun b hb hlt => hM.old b hlt (hX b hb.1))
end Go.Proofs.Ytgpdknacnmapiaa
namespace Go.Proofs.Ytgpdknacnmapiaa
set_option linter.unusedVariables false
set_option linter.unusedSimpArgs false
open Go.RowKit
open Go
theorem IntsP.form {P : Nat → Prop} {w : World} {v : Value} {l : List Int} (h : IntsP P w v l) : ∃ ao cap, v = .slice ao l.length cap := by
  obtain ⟨ao, cap, e, -⟩ := h
  exact ⟨ao, cap, e⟩
set_option maxHeartbeats 4000000 in
set_option maxRecDepth 100000 in
theorem pick_go (c : Nat) (hc : c < 4) (cl dO nN m : Int) (ecl : (wrap64 (cl.tmod 4 + 4)).tmod 4 = (c : Int)) (hm : 1 ≤ m ∧ m ≤ 4) (R H B : Nat) (w : World) (C D : Array Value) (s : RS) (h : HV) (l : List Int) (hs : Nat → List Int) (ns : Nat → List Bool) (hV : PickV R H B w C D s h l hs ns) (hb : s.b c = true) {f : Fr} {x : Int} {j : Nat} (hT : Live (PH R H h) w (s.m c) c f x) (hU : Live (PH R H h) w (s.h c) c f x) (hl : l.length = 771) (hg : GenOK l) (hI : Inv f j) (hj : j ≤ 800) (hx : 0 ≤ x ∧ x ≤ 4095) (hk : (nextG f x).k ≠ 7) (hk2 : (nextG (nextG f x).f (stY l (nextG f x))).k ≠ 7) :
    Calls Try.prog 24 #[.pointer (some ⟨R, 0, none⟩), .pointer (some ⟨H, 0, none⟩), .agg #[.int .i64 cl, .int .i64 dO, .int .i64 nN], .int .i64 m] w fun e w' => e = .returned (.bool true) ∧ Picked R H B h w w' (stL l (nextG f x)) hs ns (fun s' h' => s'.b = s.b ∧ Live (PH R H h') w' (s'.m c) c (nextG f x).f (stY l (nextG f x)) ∧ Live (PH R H h') w' (s'.h c) c (nextG f x).f (stY l (nextG f x)) ∧ (∀ d, d ≠ c → s'.m d = s.m d ∧ s'.h d = s.h d) ∧ h' = h) := by
  have HWHO : Hid (∀ w, Calls Try.prog 23 #[.int .i64 cl] w fun e w' => e = .returned (.int .i64 c) ∧ w' = w) := Lib.hid (fun w => by
    obtain ⟨S, -, eS, hh⟩ := who_p cl w
    rw [ecl] at eS
    have : S = c := by omega
    rw [this] at hh; exact hh)
  have HV := Lib.hid hV
  have HM := Lib.hid (Mem.startRH hV.run.hb hV.hb hV.ne)
  have HD := Lib.hid hV.hav
  have HBZ := Lib.hid (by have h2 := hV.run.ra.b c hc; rw [hb] at h2; exact h2 : C[35 + c]? = some (.bool true))
  have HT := Lib.hid hT
  have HU := Lib.hid hU
  have HL := Lib.hid hl
  have HGO := Lib.hid hg
  have HIN := Lib.hid hI
  have HX := Lib.hid hx
  have HK := Lib.hid hk
  have HK2 := Lib.hid hk2
  clear hV hb ecl hm hT hU hl hg hI hx hk hk2
  go_enter Try.func24, Try.ntmps24
  go_wp2_with (first
    | (refine wpm_box HM rfl 69 (.tmp 2) rfl _ rfl ?_; intro U1 hM; (try simp only [List.cons_append, List.nil_append, List.set_cons_succ, List.set_cons_zero, Nat.reduceAdd] at hM); replace HM := hM; clear hM)
    | (refine wpm_ldc HM rfl 3 (.tmp 16) rfl lv3 2 0 rfl rfl _ rfl ?_))
  refine (HWHO.out _).mono ?_
  rintro e W1 ⟨rfl, rfl⟩
  have kb := (HM.out.hb 0 _ _ _ rfl).cell (k := 35 + c) HBZ.out
  go_wp2_with fail
  refine (step_go (P := fun b => PH R H h b ∧ ¬ OL _ b) c hc R C s _ (fun b hb => ⟨PH.hP HV.out.run.hb.lt HV.out.hb.lt HV.out.own HM.out.size b hb, HM.out.notOwn hb⟩) (fun b hb => hb.1.1) (HV.out.run.mem HM.out (HM.out.hb 0 _ _ _ rfl)) HL.out HGO.out (HT.out.mem2 HM.out) (HU.out.mem2 HM.out) HIN.out hj HX.out HK.out HK2.out).mono ?_
  rintro e W2 ⟨rfl, C', s', hR2, hM2, hb2, hT2, hU2, hoth⟩
  have HR2 := Lib.hid hR2
  have HT2 := Lib.hid hT2
  have HU2 := Lib.hid hU2
  have HOT := Lib.hid (And.intro hb2 hoth)
  have hM4 := HM.out.upR (i := 0) rfl hM2
  simp only [List.set_cons_zero] at hM4
  replace HM := Lib.hid hM4
  clear hR2 hT2 hU2 hb2 hoth hM2 hM4
  go_wp2_with fail
  go_ret
  refine ⟨rfl, C', _, s', h, ⟨HR2.out.weak (fun b hb _ => hb.1), HM.out.hb 1 _ _ _ rfl, HD.out, HV.out.own.keep (fun b h1 h2 => HM.out.old b h2 (fun e => by have := HV.out.lo; rcases e with e | e <;> omega)), HV.out.ne, HV.out.lo⟩, HM.out.keepP, HOT.out.1, HT2.out.weak (fun b hb _ => hb.1), HU2.out.weak (fun b hb _ => hb.1), HOT.out.2, rfl⟩
set_option maxHeartbeats 4000000 in
set_option maxRecDepth 100000 in
theorem pick_end (c : Nat) (hc : c < 4) (cl dO nN m : Int) (ecl : (wrap64 (cl.tmod 4 + 4)).tmod 4 = (c : Int)) (hm : 1 ≤ m ∧ m ≤ 4) (R H B : Nat) (w : World) (C D : Array Value) (s : RS) (h : HV) (l : List Int) (hs : Nat → List Int) (ns : Nat → List Bool) (hV : PickV R H B w C D s h l hs ns) (hb : s.b c = true) {f : Fr} {x : Int} {j : Nat} (hT : Live (PH R H h) w (s.m c) c f x) (hU : Live (PH R H h) w (s.h c) c f x) (hl : l.length = 771) (hg : GenOK l) (hI : Inv f j) (hj : j ≤ 800) (hx : 0 ≤ x ∧ x ≤ 4095) (hk : (nextG f x).k ≠ 7) {f4 : Fr} {la : List Int} (h2 : nextG (nextG f x).f (stY l (nextG f x)) = ⟨f4, 7, 0, 0, la⟩) (hla : la.length ≤ 96) (hq : 2 ≤ h.dd c ∨ la.length ≠ 2) :
    Calls Try.prog 24 #[.pointer (some ⟨R, 0, none⟩), .pointer (some ⟨H, 0, none⟩), .agg #[.int .i64 cl, .int .i64 dO, .int .i64 nN], .int .i64 m] w fun e w' => e = .returned (.bool true) ∧ Picked R H B h w w' (stL l (nextG f x)) hs ns (fun s' h' => s'.b = upd s.b c false ∧ Live (PH R H h') w' (s'.m c) c (nextG f x).f (stY l (nextG f x)) ∧ Live (PH R H h') w' (s'.h c) c (nextG f x).f (stY l (nextG f x)) ∧ (∀ d, d ≠ c → s'.m d = s.m d ∧ s'.h d = s.h d) ∧ h' = h) := by
  have HWHO : Hid (∀ w, Calls Try.prog 23 #[.int .i64 cl] w fun e w' => e = .returned (.int .i64 c) ∧ w' = w) := Lib.hid (fun w => by
    obtain ⟨S, -, eS, hh⟩ := who_p cl w
    rw [ecl] at eS
    have : S = c := by omega
    rw [this] at hh; exact hh)
  have HV := Lib.hid hV
  have HM := Lib.hid (Mem.startRH hV.run.hb hV.hb hV.ne)
  have HD := Lib.hid hV.hav
  have HBZ := Lib.hid (by have h2 := hV.run.ra.b c hc; rw [hb] at h2; exact h2 : C[35 + c]? = some (.bool true))
  have HT := Lib.hid hT
  have HU := Lib.hid hU
  have HL := Lib.hid hl
  have HGO := Lib.hid hg
  have HIN := Lib.hid hI
  have HX := Lib.hid hx
  have HK := Lib.hid hk
  have HN2 := Lib.hid h2
  have HLA := Lib.hid hla
  have HDD := Lib.hid (hV.hav.dd c hc)
  obtain ⟨dd, edd⟩ : ∃ dd, h.dd c = dd := ⟨_, rfl⟩
  rw [edd] at hq HDD
  have hd : decide (dd < 2) = false ∨ (decide (dd < 2) = true ∧ ((la.length : Int) == 2) = false) := by
    by_cases e : dd < 2
    · exact .inr ⟨by simpa using e, by rw [beq_eq_false_iff_ne]; omega⟩
    · exact .inl (by simp; omega)
  clear hV hb ecl hm hT hU hl hg hI hx hk h2 hla hq edd
  rcases hd with hd1 | ⟨hd1, hd2⟩
  · go_enter Try.func24, Try.ntmps24
    go_wp2_with (first
      | (refine wpm_box HM rfl 69 (.tmp 2) rfl _ rfl ?_; intro U1 hM; (try simp only [List.cons_append, List.nil_append, List.set_cons_succ, List.set_cons_zero, Nat.reduceAdd] at hM); replace HM := hM; clear hM)
      | (refine wpm_ldc HM rfl 3 (.tmp 16) rfl lv3 2 0 rfl rfl _ rfl ?_))
    refine (HWHO.out _).mono ?_
    rintro e W1 ⟨rfl, rfl⟩
    have kb := (HM.out.hb 0 _ _ _ rfl).cell (k := 35 + c) HBZ.out
    go_wp2_with fail
    refine (step_end (P := fun b => PH R H h b ∧ ¬ OL _ b) c hc R C s _ (fun b hb => ⟨PH.hP HV.out.run.hb.lt HV.out.hb.lt HV.out.own HM.out.size b hb, HM.out.notOwn hb⟩) (fun b hb => hb.1.1) (HV.out.run.mem HM.out (HM.out.hb 0 _ _ _ rfl)) HL.out HGO.out (HT.out.mem2 HM.out) (HU.out.mem2 HM.out) HIN.out hj HX.out HK.out HN2.out HLA.out).mono ?_
    rintro e W2 ⟨⟨ans, rfl, hIn⟩, C', s', hR2, hM2, hb2, hT2, hU2, hoth⟩
    obtain ⟨aao, acap, rfl⟩ := hIn.form
    have HR2 := Lib.hid hR2
    have HT2 := Lib.hid hT2
    have HU2 := Lib.hid hU2
    have HOT := Lib.hid (And.intro hb2 hoth)
    have hM4 := HM.out.upR (i := 0) rfl hM2
    simp only [List.set_cons_zero] at hM4
    replace HM := Lib.hid hM4
    clear hR2 hT2 hU2 hb2 hoth hM2 hM4
    clear kb hIn
    have kd := (HM.out.hb 1 _ _ _ rfl).cell (k := c * 5 + 3) HDD.out
    go_wp2_with fail
    go_ret
    refine ⟨rfl, C', _, s', h, ⟨HR2.out.weak (fun b hb _ => hb.1), HM.out.hb 1 _ _ _ rfl, HD.out, HV.out.own.keep (fun b h1 h2 => HM.out.old b h2 (fun e => by have := HV.out.lo; rcases e with e | e <;> omega)), HV.out.ne, HV.out.lo⟩, HM.out.keepP, HOT.out.1, HT2.out.weak (fun b hb _ => hb.1), HU2.out.weak (fun b hb _ => hb.1), HOT.out.2, rfl⟩
  · go_enter Try.func24, Try.ntmps24
    go_wp2_with (first
      | (refine wpm_box HM rfl 69 (.tmp 2) rfl _ rfl ?_; intro U1 hM; (try simp only [List.cons_append, List.nil_append, List.set_cons_succ, List.set_cons_zero, Nat.reduceAdd] at hM); replace HM := hM; clear hM)
      | (refine wpm_ldc HM rfl 3 (.tmp 16) rfl lv3 2 0 rfl rfl _ rfl ?_))
    refine (HWHO.out _).mono ?_
    rintro e W1 ⟨rfl, rfl⟩
    have kb := (HM.out.hb 0 _ _ _ rfl).cell (k := 35 + c) HBZ.out
    go_wp2_with fail
    refine (step_end (P := fun b => PH R H h b ∧ ¬ OL _ b) c hc R C s _ (fun b hb => ⟨PH.hP HV.out.run.hb.lt HV.out.hb.lt HV.out.own HM.out.size b hb, HM.out.notOwn hb⟩) (fun b hb => hb.1.1) (HV.out.run.mem HM.out (HM.out.hb 0 _ _ _ rfl)) HL.out HGO.out (HT.out.mem2 HM.out) (HU.out.mem2 HM.out) HIN.out hj HX.out HK.out HN2.out HLA.out).mono ?_
    rintro e W2 ⟨⟨ans, rfl, hIn⟩, C', s', hR2, hM2, hb2, hT2, hU2, hoth⟩
    obtain ⟨aao, acap, rfl⟩ := hIn.form
    have HR2 := Lib.hid hR2
    have HT2 := Lib.hid hT2
    have HU2 := Lib.hid hU2
    have HOT := Lib.hid (And.intro hb2 hoth)
    have hM4 := HM.out.upR (i := 0) rfl hM2
    simp only [List.set_cons_zero] at hM4
    replace HM := Lib.hid hM4
    clear hR2 hT2 hU2 hb2 hoth hM2 hM4
    clear kb hIn
    have kd := (HM.out.hb 1 _ _ _ rfl).cell (k := c * 5 + 3) HDD.out
    go_wp2_with fail
    go_ret
    refine ⟨rfl, C', _, s', h, ⟨HR2.out.weak (fun b hb _ => hb.1), HM.out.hb 1 _ _ _ rfl, HD.out, HV.out.own.keep (fun b h1 h2 => HM.out.old b h2 (fun e => by have := HV.out.lo; rcases e with e | e <;> omega)), HV.out.ne, HV.out.lo⟩, HM.out.keepP, HOT.out.1, HT2.out.weak (fun b hb _ => hb.1), HU2.out.weak (fun b hb _ => hb.1), HOT.out.2, rfl⟩
end Go.Proofs.Ytgpdknacnmapiaa
namespace Go.Proofs.Ytgpdknacnmapiaa
set_option linter.unusedVariables false
set_option linter.unusedSimpArgs false
open Go.RowKit
open Go
/-- the blocks of the clients' slices -/
def OwnB (h : HV) : Nat → Prop := fun b => ∃ i, i < 8 ∧ (h.sl i).ownBlock = some b
theorem Mem.wx {X Y : Nat → Prop} {w W : World} {L : List (Nat × Array Value × TypeId)} (h : Mem X w W L) (hxy : ∀ b, X b → Y b) : Mem Y w W L :=
  ⟨h.os, h.tape, h.output, h.size, fun k hk hx => h.old k hk (fun e => hx (hxy k e)), h.hb, fun i b C t hi => (h.st i b C t hi).imp (hxy b) id, h.nd⟩
theorem ownsRow_form {W : World} {B : Nat} {e : TypeId} {v : Value} {n : Nat} {xs : List Value} (h : W.ownsRow B e 1 v n xs) : ∃ ao m cap, v = .slice ao m cap := by
  rcases h.2 with ⟨rfl, -⟩ | ⟨g, cap, cur, rfl, -⟩
  · exact ⟨_, _, _, rfl⟩
  · exact ⟨_, _, _, rfl⟩
theorem ownsRow_oth {W W' : World} {B : Nat} {e : TypeId} {v : Value} {n : Nat} {xs : List Value} (h : W.ownsRow B e 1 v n xs) (hk : ∀ b, v.ownBlock = some b → b < W.heap.size → W'.heap[b]? = W.heap[b]?) : W'.ownsRow B e 1 v n xs := by
  refine ⟨h.1, ?_⟩
  rcases h.2 with hn | ⟨g, cap, cur, rfl, hb, hgg, rest⟩
  · exact .inl hn
  · exact .inr ⟨g, cap, cur, rfl, hb, by rw [hk g rfl (Array.getElem?_eq_some_iff.1 hgg).1]; exact hgg, rest⟩
section
variable {X : Nat → Prop} {w0 w : World} {L : List (Nat × Array Value × TypeId)} {o : Oper} {a : Act} {Q : Exit → Act → World → Prop} {K : Act → World → Prop}
theorem wpOm_ldc (HM : Hid (Mem X w0 w L)) (ty : TypeId) (x : Operand) (ho : o.op = .load ty x) (d : Tmp) (hd : o.dst = some d) (hl : ∀ (w : World) (ad : Addr) (v : Value), w.cell? ad = some v → (loadVar ty ad).run Try.prog w = .ok v w) (i k : Nat) {b : Nat} {C : Array Value} {t : TypeId} (hi : L[i]? = some (b, C, t)) (hx : a.eval x = .pointer (some ⟨b, k, none⟩)) (v : Value) (hv : C[k]? = some v)
    (h : K (a.put (some d) v) w) : o.wp Try.prog a w K Q := by
  have hr := hl w _ v ((HM.out.hb i b C t hi).cell hv)
  rw [← hd] at h
  unfold Oper.wp execOp
  simp only [ho, hx, Instr.loadAt, Instr.sureAddr, Sem.run_bind, Sem.run_pure, Result.andThen_ok, hr]
  exact h
theorem run_bsI1 (x : Int) (w : World) : (Instr.buildSlice 30 1 #[(0, .int .i64 x)]).run Try.prog w = .ok (.slice (some ⟨w.heap.size, 0, none⟩) 1 1) (w.alloc (.cells #[.int .i64 x] 3)) := by kernel_rfl
theorem run_bsB1 (x : Bool) (w : World) : (Instr.buildSlice 67 1 #[(0, .bool x)]).run Try.prog w = .ok (.slice (some ⟨w.heap.size, 0, none⟩) 1 1) (w.alloc (.cells #[.bool x] 4)) := by kernel_rfl
theorem wpOm_bsI1 (HM : Hid (Mem X w0 w L)) (p : Operand) (ho : o.op = .buildSlice 30 1 #[(0, p)]) (d : Tmp) (hd : o.dst = some d) (x : Int) (hp : a.eval p = .int .i64 x)
    (h : ∀ W, Below w.heap.size w W → Hid (Mem X w0 W (L ++ [(w.heap.size, #[.int .i64 x], 3)])) → K (a.put (some d) (.slice (some ⟨w.heap.size, 0, none⟩) 1 1)) W) : o.wp Try.prog a w K Q := by
  have hr := run_bsI1 x w
  have h' := h _ ((Below.refl _ _).alloc (Nat.le_refl _) _) (Lib.hid (HM.out.alloc _ _))
  rw [← hd] at h'
  unfold Oper.wp execOp
  simp only [ho]
  simp [hp, hr, Sem.run_bind]
  exact h'
theorem wpOm_bsB1 (HM : Hid (Mem X w0 w L)) (p : Operand) (ho : o.op = .buildSlice 67 1 #[(0, p)]) (d : Tmp) (hd : o.dst = some d) (x : Bool) (hp : a.eval p = .bool x)
    (h : ∀ W, Below w.heap.size w W → Hid (Mem X w0 W (L ++ [(w.heap.size, #[.bool x], 4)])) → K (a.put (some d) (.slice (some ⟨w.heap.size, 0, none⟩) 1 1)) W) : o.wp Try.prog a w K Q := by
  have hr := run_bsB1 x w
  have h' := h _ ((Below.refl _ _).alloc (Nat.le_refl _) _) (Lib.hid (HM.out.alloc _ _))
  rw [← hd] at h'
  unfold Oper.wp execOp
  simp only [ho]
  simp [hp, hr, Sem.run_bind]
  exact h'
theorem wpOm_stS (HM : Hid (Mem X w0 w L)) (ty : TypeId) (x y : Operand) (ho : o.op = .store ty x y) (hd : o.dst = none) (hsz : ∀ w, (sizeOf ty).run Try.prog w = .ok 1 w) (i k : Nat) {b : Nat} {C : Array Value} {t : TypeId} (hi : L[i]? = some (b, C, t)) (ao : Option Addr) (n c : Nat) (hx : a.eval x = .pointer (some ⟨b, k, none⟩)) (hy : a.eval y = .slice ao n c) (hk : k < C.size)
    (h : ∀ W, (∀ k, k ≠ b → W.heap[k]? = w.heap[k]?) → W.heap.size = w.heap.size → Hid (Mem X w0 W (L.set i (b, C.setIfInBounds k (.slice ao n c), t))) → K a W) : o.wp Try.prog a w K Q := by
  have hb := HM.out.hb i b C t hi
  have hc := hb.cell (Array.getElem?_eq_getElem hk)
  have hf : w.frozen? ⟨b, k, none⟩ = false := hb.fro
  have h' := h _ (fun k' hk' => heap_setCell_other _ _ _ _ (fun e => hk' e)) (World.size_setCell _ _ _) (Lib.hid (HM.out.upd hi (fun B hB => below_set (Below.refl _ _) _ hB _) (fun k' hk' => heap_setCell_other _ _ _ _ (fun e => hk' e)) (World.size_setCell _ _ _) (Go.heap_setCell_same _ _ _ _ _ _ hb)))
  unfold Oper.wp execOp
  simp only [ho, hx, hy]
  simp [go_sem, hc, hf, Instr.storeAt, storeVar, hsz]
  have e : a.put o.dst undef = a := by rw [hd]; rfl
  show K (a.put o.dst undef) _
  rw [e]
  exact h'
end
theorem sizeOf67 (w : World) : (sizeOf 67).run Try.prog w = .ok 1 w := Try.sizeOf67 w
/-- one handle more: the clients' slices -/
theorem OwnV.pushH {B : Nat} {W W' : World} {h : HV} {hs : Nat → List Int} {ns : Nat → List Bool} (ho : OwnV B W h hs ns) (c : Nat) (hc : c < 4) (v : Value) (x : Int) (hv : W'.ownsRow B 3 1 v ((hs c).length + 1) ((hs c).map (Value.int .i64) ++ [.int .i64 x])) (hob : v.ownBlock = (h.sl (2 * c)).ownBlock ∨ ∀ b, v.ownBlock = some b → W.heap.size ≤ b) (hg : ∀ b, b < W.heap.size → some b ≠ (h.sl (2 * c)).ownBlock → B ≤ b → W'.heap[b]? = W.heap[b]?) :
    OwnV B W' (h.setS (2 * c) v) (upd hs c (hs c ++ [x])) ns := by
  have hne : ∀ i, i < 8 → i ≠ 2 * c → ∀ b, (h.sl i).ownBlock = some b → v.ownBlock ≠ some b := by
    intro i hi hic b hb e
    rcases hob with h1 | h1
    · exact ho.ds i (2 * c) b hi (by omega) hic hb (h1.symm.trans e)
    · have := h1 b e; have := ho.lt i hi b hb; omega
  have old : ∀ i, i < 8 → i ≠ 2 * c → ∀ b, (h.sl i).ownBlock = some b → b < W.heap.size → W'.heap[b]? = W.heap[b]? := fun i hi hic b hb hlt => hg b hlt (fun e => ho.ds i (2 * c) b hi (by omega) hic hb e.symm) (ho.lt i hi b hb).1
  refine ⟨fun d hd => ?_, fun d hd => ?_, fun i j b hi hj hij hb => ?_⟩
  · simp only [HV.setS, upd]
    by_cases e : d = c
    · subst e; rw [if_pos rfl, if_pos rfl]
      simpa using hv
    · rw [if_neg (by omega), if_neg e]
      exact ownsRow_oth (ho.hl d hd) (old (2 * d) (by omega) (by omega))
  · simp only [HV.setS, upd]
    rw [if_neg (by omega)]
    exact ownsRow_oth (ho.nl d hd) (old (2 * d + 1) (by omega) (by omega))
  · simp only [HV.setS, upd] at hb ⊢
    by_cases e1 : i = 2 * c
    · rw [if_pos e1] at hb
      rw [if_neg (by omega)]
      exact fun e => hne j hj (by omega) b e hb
    · rw [if_neg e1] at hb
      by_cases e2 : j = 2 * c
      · rw [if_pos e2]; exact hne i hi e1 b hb
      · rw [if_neg e2]; exact ho.ds i j b hi hj hij hb
theorem OwnV.pushN {B : Nat} {W W' : World} {h : HV} {hs : Nat → List Int} {ns : Nat → List Bool} (ho : OwnV B W h hs ns) (c : Nat) (hc : c < 4) (v : Value) (x : Bool) (hv : W'.ownsRow B 4 1 v ((ns c).length + 1) ((ns c).map Value.bool ++ [.bool x])) (hob : v.ownBlock = (h.sl (2 * c + 1)).ownBlock ∨ ∀ b, v.ownBlock = some b → W.heap.size ≤ b) (hg : ∀ b, b < W.heap.size → some b ≠ (h.sl (2 * c + 1)).ownBlock → B ≤ b → W'.heap[b]? = W.heap[b]?) :
    OwnV B W' (h.setS (2 * c + 1) v) hs (upd ns c (ns c ++ [x])) := by
  have hne : ∀ i, i < 8 → i ≠ 2 * c + 1 → ∀ b, (h.sl i).ownBlock = some b → v.ownBlock ≠ some b := by
    intro i hi hic b hb e
    rcases hob with h1 | h1
    · exact ho.ds i (2 * c + 1) b hi (by omega) hic hb (h1.symm.trans e)
    · have := h1 b e; have := ho.lt i hi b hb; omega
  have old : ∀ i, i < 8 → i ≠ 2 * c + 1 → ∀ b, (h.sl i).ownBlock = some b → b < W.heap.size → W'.heap[b]? = W.heap[b]? := fun i hi hic b hb hlt => hg b hlt (fun e => ho.ds i (2 * c + 1) b hi (by omega) hic hb e.symm) (ho.lt i hi b hb).1
  refine ⟨fun d hd => ?_, fun d hd => ?_, fun i j b hi hj hij hb => ?_⟩
  · simp only [HV.setS, upd]
    rw [if_neg (by omega)]
    exact ownsRow_oth (ho.hl d hd) (old (2 * d) (by omega) (by omega))
  · simp only [HV.setS, upd]
    by_cases e : d = c
    · subst e; rw [if_pos rfl, if_pos rfl]
      simpa using hv
    · rw [if_neg (by omega), if_neg e]
      exact ownsRow_oth (ho.nl d hd) (old (2 * d + 1) (by omega) (by omega))
  · simp only [HV.setS, upd] at hb ⊢
    by_cases e1 : i = 2 * c + 1
    · rw [if_pos e1] at hb
      rw [if_neg (by omega)]
      exact fun e => hne j hj (by omega) b e hb
    · rw [if_neg e1] at hb
      by_cases e2 : j = 2 * c + 1
      · rw [if_pos e2]; exact hne i hi e1 b hb
      · rw [if_neg e2]; exact ho.ds i j b hi hj hij hb
/-- blocks that were there stay nobody's own -/
theorem PH.set {R H n : Nat} {h : HV} {i0 : Nat} {v : Value} (hob : v.ownBlock = (h.sl i0).ownBlock ∨ ∀ b, v.ownBlock = some b → n ≤ b) (hi0 : i0 < 8) : ∀ b, PH R H h b → b < n → PH R H (h.setS i0 v) b := fun b hb hlt => ⟨hb.1, hb.2.1, fun i hi => by
  simp only [HV.setS, upd]
  by_cases e : i = i0
  · rw [if_pos e]
    rcases hob with h1 | h1
    · rw [h1]; exact hb.2.2 i0 hi0
    · intro e2; have := h1 b e2; omega
  · rw [if_neg e]; exact hb.2.2 i hi⟩
end Go.Proofs.Ytgpdknacnmapiaa
