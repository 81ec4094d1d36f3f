/-
  Parts of a proof, put together: Fh, Fi, Fk.
-/
import Derived.Test.YtgpdknacnmapiaaZh01
import Derived.Test.YtgpdknacnmapiaaZh02
import Derived.Test.YtgpdknacnmapiaaZh03
import Derived.Test.YtgpdknacnmapiaaZh04
import Derived.Test.YtgpdknacnmapiaaZh05
import Derived.Test.YtgpdknacnmapiaaZh06
import Derived.Test.YtgpdknacnmapiaaZh07
import Derived.Test.YtgpdknacnmapiaaZh08
import Derived.Test.YtgpdknacnmapiaaZh09
import Derived.Test.YtgpdknacnmapiaaZh10
import Derived.Test.YtgpdknacnmapiaaZh11
import Derived.Test.YtgpdknacnmapiaaZh12
import Derived.Test.YtgpdknacnmapiaaZh13
import Derived.Test.YtgpdknacnmapiaaZh14
import Derived.Test.YtgpdknacnmapiaaZh15
import Derived.Test.YtgpdknacnmapiaaZh16
import Derived.Test.YtgpdknacnmapiaaZh17
import Derived.Test.YtgpdknacnmapiaaZh18
import Derived.Test.YtgpdknacnmapiaaZh19
import Derived.Test.YtgpdknacnmapiaaZh20
import Derived.Test.YtgpdknacnmapiaaZh21
import Derived.Test.YtgpdknacnmapiaaZh22
import Derived.Test.YtgpdknacnmapiaaZh23
import Derived.Test.YtgpdknacnmapiaaZh24
import Derived.Test.YtgpdknacnmapiaaZh25
import Derived.Test.YtgpdknacnmapiaaZh26
import Derived.Test.YtgpdknacnmapiaaZh27
import Derived.Test.YtgpdknacnmapiaaZh28
import Derived.Deep.QuietTactic
namespace Go.Proofs.Ytgpdknacnmapiaa
set_option linter.unusedVariables false
set_option linter.unusedSimpArgs false
open Go.RowKit
open Go
/-- what a run holds, of epochs -/
structure RunV3 (P : Nat → Prop) (R : Nat) (W : World) (C : Array Value) (s : RS) (l : List Int) : Prop where
  hb : HB W R C 41
  ra : RunA C s
  cv : CellsV P W (s.w 0) l
  d1 : DiskV P W (s.w 1)
  d2 : DiskV P W (s.w 2)
/-- a client: idle, or its program at a state -/
def ClV (P : Nat → Prop) (w : World) (s : RS) (c : Nat) : Option S3 → Prop
  | none => s.b c = false
  | some st => s.b c = true ∧ ∃ f g y, Live P w (s.m c) c f y ∧ Live P w (s.h c) c g y ∧ InS c st f g y
/-- a run's world, all its clients -/
def WV (P : Nat → Prop) (R : Nat) (w : World) (l : List Int) (os : Nat → Option S3) : Prop := l.length = 771 ∧ ∃ C s, RunV3 P R w C s l ∧ ∀ c, c < 4 → ClV P w s c (os c)
/-- all but the run's block is kept -/
def KeepR (R : Nat) (w w' : World) : Prop := Mem (fun b => b = R) w w' []
theorem KeepR.of {R : Nat} {w w' : World} {L : List (Nat × Array Value × TypeId)} (h : Mem (fun b => b = R) w w' L) : KeepR R w w' := h.sub fun i e hi => by simp at hi
theorem KeepR.refl (R : Nat) (w : World) : KeepR R w w := ⟨rfl, rfl, rfl, Nat.le_refl _, fun _ _ _ => rfl, fun i b C t h => by simp at h, fun i b C t h => by simp at h, fun i j b C C' t t' h => by simp at h⟩
theorem KeepR.of_below {R : Nat} {w w' : World} (h : Below w.heap.size w w') : KeepR R w w' :=
  ⟨h.os, h.tape, h.output, h.size, fun k hk _ => h.block k hk, fun i b C t h => by simp at h, fun i b C t h => by simp at h, fun i j b C C' t t' h => by simp at h⟩
theorem KeepR.trans {R : Nat} {w1 w2 w3 : World} (h : KeepR R w1 w2) (h2 : KeepR R w2 w3) : KeepR R w1 w3 :=
  ⟨h2.os.trans h.os, h2.tape.trans h.tape, h2.output.trans h.output, Nat.le_trans h.size h2.size, fun k hk hx => (h2.old k (Nat.lt_of_lt_of_le hk h.size) hx).trans (h.old k hk hx), fun i b C t h => by simp at h, fun i b C t h => by simp at h, fun i j b C C' t t' h => by simp at h⟩
theorem ClV.keep {P : Nat → Prop} {w w' : World} {s s' : RS} {c : Nat} {o : Option S3} (h : ClV P w s c o) (hk : ∀ b, P b → b < w.heap.size → w'.heap[b]? = w.heap[b]?) (hm : s'.m c = s.m c) (hh : s'.h c = s.h c) (hb : s'.b c = s.b c) : ClV P w' s' c o := by
  cases o with
  | none => exact hb.trans h
  | some st =>
    obtain ⟨h1, f, g, y, h2, h3, h4⟩ := h
    exact ⟨hb.trans h1, f, g, y, by rw [hm]; exact h2.keep hk, by rw [hh]; exact h3.keep hk, h4⟩
theorem WV.keep {P : Nat → Prop} {R : Nat} {w w' : World} {l : List Int} {os : Nat → Option S3} (h : WV P R w l os) (hk : ∀ b, (P b ∨ b = R) → b < w.heap.size → w'.heap[b]? = w.heap[b]?) : WV P R w' l os := by
  obtain ⟨hl, C, s, hr, hc⟩ := h
  refine ⟨hl, C, s, ⟨?_, hr.ra, hr.cv.keep fun b hb => hk b (.inl hb), hr.d1.keep fun b hb => hk b (.inl hb), hr.d2.keep fun b hb => hk b (.inl hb)⟩, fun c h4 => (hc c h4).keep (fun b hb => hk b (.inl hb)) rfl rfl rfl⟩
  have := hr.hb
  unfold HB at this ⊢
  rw [hk R (.inr rfl) (Array.getElem?_eq_some_iff.1 this).1]; exact this
theorem WV.below {P : Nat → Prop} {R : Nat} {w w' : World} {l : List Int} {os : Nat → Option S3} (h : WV P R w l os) (hb : Below w.heap.size w w') : WV P R w' l os := h.keep fun b _ hl => hb.block b hl
theorem WV.weak {P Q : Nat → Prop} {R : Nat} {w : World} {l : List Int} {os : Nat → Option S3} (h : WV P R w l os) (hq : ∀ b, P b → b < w.heap.size → Q b) : WV Q R w l os := by
  obtain ⟨hl, C, s, hr, hc⟩ := h
  refine ⟨hl, C, s, ⟨hr.hb, hr.ra, hr.cv.weak hq, hr.d1.weak hq, hr.d2.weak hq⟩, fun c h4 => ?_⟩
  have h := hc c h4
  revert h
  cases os c with
  | none => exact id
  | some st => exact fun ⟨h1, f, g, y, h2, h3, h5⟩ => ⟨h1, f, g, y, h2.weak hq, h3.weak hq, h5⟩
theorem WV.lt {P : Nat → Prop} {R : Nat} {w : World} {l : List Int} {os : Nat → Option S3} (h : WV P R w l os) : R < w.heap.size := by
  obtain ⟨_, C, s, hr, _⟩ := h
  exact (Array.getElem?_eq_some_iff.1 hr.hb).1
/-- one of the cells is read -/
theorem WV.cell {P : Nat → Prop} {R : Nat} {w : World} {l : List Int} {os : Nat → Option S3} (h : WV P R w l os) : ∃ b o cap, w.cell? ⟨R, 0, none⟩ = some (.slice (some ⟨b, o, none⟩) 771 cap) ∧ ∀ i, i < 771 → w.cell? ⟨b, o + i, none⟩ = some (.int .i64 (l.getD i 0)) := by
  obtain ⟨hl, C, s, hr, _⟩ := h
  obtain ⟨b, o, cap, e, -, -, hc, -⟩ := hr.cv
  refine ⟨b, o, cap, hr.hb.cell (by rw [hr.ra.w 0 (by omega), e]), fun i hi => hc i _ ?_⟩
  rw [List.getD_eq_getElem?_getD, List.getElem?_eq_getElem (by omega)]; rfl
/-- whether a client is busy -/
theorem WV.busy {P : Nat → Prop} {R : Nat} {w : World} {l : List Int} {os : Nat → Option S3} (h : WV P R w l os) (c : Nat) (hc : c < 4) : w.cell? ⟨R, 35 + c, none⟩ = some (.bool (os c).isSome) := by
  obtain ⟨hl, C, s, hr, hcl⟩ := h
  have h2 := hcl c hc
  refine hr.hb.cell ?_
  rw [hr.ra.b c hc]
  revert h2
  cases os c with
  | none => intro h2; rw [show s.b c = false from h2]; rfl
  | some st => intro h2; rw [h2.1]; rfl
theorem aft_len (st : S3) (y : Int) : ∀ la, aftS st y = .inr la → la.length ≤ 1 := by
  intro la h
  cases st <;> simp only [aftS] at h <;> (try split at h) <;> (try split at h) <;> (first | (cases h; done) | (injection h with h; subst h; simp))
theorem step3 {P : Nat → Prop} (c : Nat) (hc : c < 4) (R : Nat) (w : World) (l : List Int) (os : Nat → Option S3) (hP : ∀ b, w.heap.size ≤ b → P b) (hPR : ∀ b, P b → b ≠ R) (hW : WV P R w l os) (st : S3) (ho : os c = some st) (hb : Bs3 999998 st) (hcb : CB 999998 l) :
    Calls Try.prog 16 #[.pointer (some ⟨R, 0, none⟩), .int .i64 c] w fun e w' => KeepR R w w' ∧ match aftS st (yS c st l) with
      | .inl s' => e = .returned (.tuple #[.slice none 0 0, .bool false, .bool true]) ∧ WV P R w' (lS c st l) (upd os c (some s'))
      | .inr la => (∃ ans, e = .returned (.tuple #[ans, .bool true, .bool true]) ∧ IntsP P w' ans la) ∧ WV P R w' (lS c st l) (upd os c none) := by
  obtain ⟨hl, C, s, hr, hcl⟩ := hW
  have hcc := hcl c hc
  rw [ho] at hcc
  obtain ⟨hbu, f, g, y, hm, hh, hin⟩ := hcc
  obtain ⟨f2, g2, h1, h2, h3⟩ := nextS c hc st f g y hin (hb.mono (by omega))
  have hy := yS_le c hc st l 999998 (by omega) hcb
  have hok := okS c hc st (hb.mono (by omega))
  have hdo := doS c hc st l hl (hb.mono (by omega))
  have hlen := lS_len c st l
  have hln := aft_len st (yS c st l)
  have hbd := aft_bd st 999998 (yS c st l) hb hy
  have h3 := h3 (yS c st l)
  generalize yS c st l = y2 at *
  generalize lS c st l = l2 at *
  generalize aftS st y2 = r at *
  cases r with
  | inl s' =>
    obtain ⟨f4, g4, k1, k2, -⟩ := nextS c hc s' f2 g2 y2 h3 ((hbd s' rfl).mono (by omega))
    have hok2 := okS c hc s' ((hbd s' rfl).mono (by omega))
    refine (step13_go c hc R C s w hP hPR hr.hb hr.ra f g f2 g2 f4 g4 y y2 l l2 hm hh hr.cv hr.d1 hr.d2 _ _ _ _ hok.1 hok.2 _ _ _ _ [] hok2.1 hok2.2 h1 h2 k1 k2 hdo).mono ?_
    rintro e w' ⟨rfl, C', T, U, cv, hM, hA', hC, hd1, hd2, hT, hU⟩
    rw [if_neg (by decide)] at hA'
    refine ⟨KeepR.of hM, rfl, hlen.trans hl, C', _, ⟨hM.hb 0 _ _ _ rfl, hA', hC, hd1, hd2⟩, fun d hd => ?_⟩
    by_cases e : d = c
    · subst e
      rw [show upd os d (some s') d = some s' by simp [upd]]
      exact ⟨hbu, f2, g2, y2, by simpa [RS.setM, RS.setH, RS.setW, upd] using hT, by simpa [RS.setM, RS.setH, RS.setW, upd] using hU, h3⟩
    · rw [show upd os c (some s') d = os d by simp [upd, e]]
      refine (hcl d hd).keep (fun b hb hlt => hM.old b hlt (hPR b hb)) ?_ ?_ ?_ <;> simp [RS.setM, RS.setH, RS.setW, upd, e]
  | inr la =>
    have hll : la.length ≤ 96 := Nat.le_trans (hln la rfl) (by omega)
    refine (step13_over c hc R C s w hP hPR hr.hb hr.ra f g f2 g2 f2 g2 y y2 l l2 hm hh hr.cv hr.d1 hr.d2 _ _ _ _ hok.1 hok.2 7 0 0 0 la (.inr (.inr (.inr ⟨rfl, rfl, rfl, rfl, hll⟩))) rfl h1 h2 h3.1 h3.2 hdo).mono ?_
    rintro e w' ⟨⟨ans, rfl, hI⟩, C', T, U, cv, hM, hA', hC, hd1, hd2, hT, hU⟩
    rw [if_pos rfl] at hA'
    refine ⟨KeepR.of hM, ⟨ans, rfl, hI⟩, hlen.trans hl, C', _, ⟨hM.hb 0 _ _ _ rfl, hA', hC, hd1, hd2⟩, fun d hd => ?_⟩
    by_cases e : d = c
    · subst e
      rw [show upd os d none d = none by simp [upd]]
      show (RS.b _ d = false)
      simp [RS.setM, RS.setH, RS.setW, RS.setB, upd]
    · rw [show upd os c none d = os d by simp [upd, e]]
      refine (hcl d hd).keep (fun b hb hlt => hM.old b hlt (hPR b hb)) ?_ ?_ ?_ <;> simp [RS.setM, RS.setH, RS.setW, RS.setB, upd, e]
/-- a program at its beginning -/
def ini (pg : Int) : S3 := if pg = 52 then .p0 else if pg = 53 then .u0 else .a0
theorem ini_in (c : Nat) (pg : Int) (hp : pg = 52 ∨ pg = 53 ∨ pg = 54) : InS c (ini pg) (frG pg [(c : Int)]) (frG pg [(c : Int)]) 0 := by
  rcases hp with rfl | rfl | rfl
  · exact ⟨rfl, rfl, rfl, rfl, rfl, rfl⟩
  · exact ⟨rfl, rfl, rfl, rfl, rfl, rfl⟩
  · exact ⟨rfl, rfl, rfl, rfl⟩
theorem begin3 {P : Nat → Prop} (c : Nat) (hc : c < 4) (pg : Int) (hp : pg = 52 ∨ pg = 53 ∨ pg = 54) (v : Value) (B R : Nat) (w : World) (l : List Int) (os : Nat → Option S3) (hP : ∀ b, w.heap.size ≤ b → P b) (hPR : ∀ b, P b → b ≠ R) (hI : Ints B w v [(c : Int)]) (hW : WV P R w l os) (ho : os c = none) :
    Calls Try.prog 15 #[.pointer (some ⟨R, 0, none⟩), .int .i64 c, .int .i8 pg, v] w fun e w' => e = .returned (.tuple #[]) ∧ KeepR R w w' ∧ WV P R w' l (upd os c (some (ini pg))) := by
  obtain ⟨hl, C, s, hr, hcl⟩ := hW
  have hcc := hcl c hc
  rw [ho] at hcc
  refine (begin13 c hc pg (by omega) v [(c : Int)] B R C s w hP hI (by simp) hr.hb hr.ra hcc).mono ?_
  rintro e w' ⟨rfl, C', T, hM, hA, hL⟩
  refine ⟨rfl, KeepR.of hM, hl, C', _, ⟨hM.hb 0 _ _ _ rfl, hA, ?_, ?_, ?_⟩, fun d hd => ?_⟩
  · exact hr.cv.mem hPR hM
  · exact hr.d1.mem hPR hM
  · exact hr.d2.mem hPR hM
  · by_cases e : d = c
    · subst e
      rw [show upd os d (some (ini pg)) d = some (ini pg) by simp [upd]]
      refine ⟨by simp [RS.setM, RS.setH, RS.setB, upd], frG pg [(d : Int)], frG pg [(d : Int)], 0, ?_, ?_, ini_in d pg hp⟩
      · simpa [RS.setM, RS.setH, RS.setB, upd] using hL
      · simpa [RS.setM, RS.setH, RS.setB, upd] using hL
    · rw [show upd os c (some (ini pg)) d = os d by simp [upd, e]]
      refine (hcl d hd).keep (fun b hb hlt => hM.old b hlt (hPR b hb)) ?_ ?_ ?_ <;> simp [RS.setM, RS.setH, RS.setB, upd, e]
set_option maxHeartbeats 4000000 in
set_option maxRecDepth 100000 in
theorem begin3_busy (c : Nat) (hc : c < 4) (pg : Int) (hp : 0 ≤ pg) (v : Value) (l : List Int) (B R : Nat) (w : World) (hI : Ints B w v l) (hl : l.length ≤ 96) (hB : w.cell? ⟨R, 35 + c, none⟩ = some (.bool true)) :
    Calls Try.prog 15 #[.pointer (some ⟨R, 0, none⟩), .int .i64 c, .int .i8 pg, v] w fun e w' => e = .returned (.tuple #[]) ∧ Below w.heap.size w w' := by
  have HM := Lib.hid (Mem.start w)
  have HNW := Lib.hid (new_p (P := fun _ => True) (c : Int) ⟨by omega, by omega⟩ pg hp v l B w (fun _ _ => trivial) hI hl)
  have HBZ := Lib.hid hB
  obtain ⟨ao, cap, rfl, -, -⟩ := hI
  have c1 : decide ((c : Int) < 0) = false := by simp
  clear hp hl hB
  go_enter Try.func15, Try.ntmps15
  go_wp2_with fail
  refine HNW.out.mono ?_
  rintro e W1 ⟨⟨T, rfl, hL⟩, hb⟩
  replace HM := Lib.hid (HM.out.below hb)
  obtain ⟨tb, to, tcap, gao, gn, gcap, rfl, -⟩ := hL
  clear hb
  go_wp2_with (first
    | (refine wpm_al38 HM rfl rfl ?_; intro W hM; (try simp only [List.cons_append, List.nil_append, List.set_cons_succ, List.set_cons_zero, Nat.reduceAdd] at hM); replace HM := hM; clear hM)
    | (refine wpm_st38 HM rfl (.tmp 8) (.tmp 15) rfl 0 rfl TaskC.zero.size _ rfl rfl ⟨_, _, _, _, _, _, _, _, rfl⟩ ?_; intro W2 hM; (try simp only [List.cons_append, List.nil_append, List.set_cons_succ, List.set_cons_zero, Nat.reduceAdd] at hM); replace HM := hM; clear hM; have kb : W2.cell? ⟨R, 35 + c, none⟩ = some (.bool true) := (HM.out.bel.cell (World.block_lt_of_cell? _ _ HBZ.out)).trans HBZ.out))
  (try simp only [Exit.inBlock, Exit.then])
  refine bodyPost_ret (results_none rfl _ _ _) rfl ?_
  exact ⟨rfl, HM.out.bel⟩
theorem progs_p (k : Int) : ∃ p y, (∀ w, Calls Try.prog 14 #[.int .i64 k] w (fun e w' => e = .returned (.tuple #[.int .i8 p, .bool y]) ∧ w' = w)) ∧ (y = true → (k = 0 ∧ p = 52) ∨ (k = 1 ∧ p = 53) ∨ (k = 2 ∧ p = 54)) ∧ (y = false → k ≠ 0 ∧ k ≠ 1 ∧ k ≠ 2) := by
  by_cases h0 : k = 0
  · subst h0
    refine ⟨52, true, fun w => ?_, by simp, by simp⟩
    go_enter Try.func14, Try.ntmps14
    go_wp2_with fail
    go_ret2
    exact ⟨rfl, rfl⟩
  by_cases h1 : k = 1
  · subst h1
    refine ⟨53, true, fun w => ?_, by simp, by simp⟩
    go_enter Try.func14, Try.ntmps14
    go_wp2_with fail
    go_ret2
    exact ⟨rfl, rfl⟩
  by_cases h2 : k = 2
  · subst h2
    refine ⟨54, true, fun w => ?_, by simp, by simp⟩
    go_enter Try.func14, Try.ntmps14
    go_wp2_with fail
    go_ret2
    exact ⟨rfl, rfl⟩
  refine ⟨0, false, fun w => ?_, by simp, fun _ => ⟨h0, h1, h2⟩⟩
  have e0 : (k == 0) = false := by rw [beq_eq_false_iff_ne]; exact h0
  have e1 : (k == 1) = false := by rw [beq_eq_false_iff_ne]; exact h1
  have e2 : (k == 2) = false := by rw [beq_eq_false_iff_ne]; exact h2
  clear h0 h1 h2
  go_enter Try.func14, Try.ntmps14
  go_wp2_with fail
  go_ret2
  exact ⟨rfl, rfl⟩
end Go.Proofs.Ytgpdknacnmapiaa
namespace Go.Proofs.Ytgpdknacnmapiaa
set_option linter.unusedVariables false
set_option linter.unusedSimpArgs false
open Go.RowKit
open Go
/-- what a pick leaves: cells, clients, an answer -/
structure PR where
  l : List Int
  os : Nat → Option S3
  la : Option (List Int)
def iniD (dO : Int) : S3 := if dO = 0 then .p0 else if dO = 1 then .u0 else .a0
def pkS (c : Nat) (dO : Int) (l : List Int) (os : Nat → Option S3) : PR :=
  match os c with
  | none => if 0 ≤ dO ∧ dO ≤ 2 then ⟨l, upd os c (some (iniD dO)), none⟩ else ⟨l, os, none⟩
  | some st => if 0 ≤ dO ∧ dO ≤ 2 then ⟨l, os, none⟩ else
    match aftS st (yS c st l) with
    | .inl s' => ⟨lS c st l, upd os c (some s'), none⟩
    | .inr la => ⟨lS c st l, upd os c none, some la⟩
def PkA (P : Nat → Prop) (c : Nat) (e : Ending) (w' : World) : Option (List Int) → Prop
  | none => e = .returned (.tuple #[.int .i64 c, .slice none 0 0, .bool false, .bool true])
  | some la => ∃ ans, e = .returned (.tuple #[.int .i64 c, ans, .bool true, .bool true]) ∧ IntsP P w' ans la
theorem res_4t {fn : Func} {p q r s : Tmp} (h : fn.results = #[.tmp p, .tmp q, .tmp r, .tmp s]) (tmps : Array Value) (w : World) (v u u2 u3 : Value) (hp : tmps.getD p undef = v) (hq : tmps.getD q undef = u) (hr : tmps.getD r undef = u2) (hs : tmps.getD s undef = u3) :
    (results fn tmps).run Try.prog w = .ok (.tuple #[v, u, u2, u3]) w := by
  have hp' : tmps[p]?.getD undef = v := by simpa using hp
  have hq' : tmps[q]?.getD undef = u := by simpa using hq
  have hr' : tmps[r]?.getD undef = u2 := by simpa using hr
  have hs' : tmps[s]?.getD undef = u3 := by simpa using hs
  simp [results, h, hp', hq', hr', hs']
set_option maxHeartbeats 4000000 in
set_option maxRecDepth 100000 in
theorem pick3 {P : Nat → Prop} (c : Nat) (hc : c < 4) (cl dO : Int) (ecl : (wrap64 (cl.tmod 4 + 4)).tmod 4 = (c : Int)) (R : Nat) (w : World) (l : List Int) (os : Nat → Option S3) (hP : ∀ b, w.heap.size ≤ b → P b) (hPR : ∀ b, P b → b ≠ R) (hW : WV P R w l os) (hb : ∀ st, os c = some st → Bs3 999998 st) (hcb : CB 999998 l) :
    Calls Try.prog 12 #[.pointer (some ⟨R, 0, none⟩), .agg #[.int .i64 cl, .int .i64 dO]] w fun e w' => KeepR R w w' ∧ WV P R w' (pkS c dO l os).l (pkS c dO l os).os ∧ PkA P c e w' (pkS c dO l os).la := by
  obtain ⟨p, y, hpg, hy1, hy2⟩ := progs_p dO
  have HPG := Lib.hid hpg
  have HM := Lib.hid (Mem.start w)
  have HP := Lib.hid hP
  have HPR := Lib.hid hPR
  have HW := Lib.hid hW
  have HB := Lib.hid (hW.busy c hc)
  have HCB := Lib.hid hcb
  cases hos : os c with
  | none =>
    rw [hos] at HB
    cases y with
    | true =>
      have h3 := hy1 rfl
      have hp : p = 52 ∨ p = 53 ∨ p = 54 := by omega
      have h02 : 0 ≤ dO ∧ dO ≤ 2 := by omega
      have hin : iniD dO = ini p := by unfold iniD ini; rcases h3 with ⟨rfl, rfl⟩ | ⟨rfl, rfl⟩ | ⟨rfl, rfl⟩ <;> rfl
      have HE : Hid (pkS c dO l os = ⟨l, upd os c (some (ini p)), none⟩) := Lib.hid (by unfold pkS; rw [hos]; simp only; rw [if_pos h02, hin])
      have HPP := Lib.hid hp
      have HOS := Lib.hid hos
      clear hb hpg hy1 hy2 hP hPR hW hcb h3 hp h02 hin hos
      rw [HE.out]
      go_enter Try.func12, Try.ntmps12
      go_wp2_with (first
        | (refine wpm_box HM rfl 29 (.tmp 1) rfl _ rfl ?_; intro U1 hM; (try simp only [List.cons_append, List.nil_append, List.set_cons_succ, List.set_cons_zero, Nat.reduceAdd] at hM); replace HM := hM; clear hM; have k0 := (HM.out.hb 0 _ _ _ rfl).cell (k := 0) (v := .int .i64 cl) rfl; have k1 := (HM.out.hb 0 _ _ _ rfl).cell (k := 1) (v := .int .i64 dO) rfl))
      refine (HPG.out _).mono ?_
      rintro e W1 ⟨rfl, rfl⟩
      clear k0 k1
      go_wp2_with (first
        | (refine wpm_bsI1 HM rfl (.tmp 25) rfl (c : Int) rfl ?_; intro W5 hM; (try simp only [List.cons_append, List.nil_append, List.set_cons_succ, List.set_cons_zero, Nat.reduceAdd] at hM); replace HM := hM; clear hM))
      refine (begin3 c hc p HPP.out _ w.heap.size R _ l os (fun b hb => HP.out b (Nat.le_trans HM.out.size hb)) HPR.out (ints_one0 HM.out (i := 1) rfl) (HW.out.below HM.out.bel) HOS.out).mono ?_
      rintro e W2 ⟨rfl, hk, hw2⟩
      go_wp2_with fail
      (try simp only [Exit.inBlock, Exit.then])
      refine bodyPost_ret (res_4t rfl _ _ _ _ _ _ rfl rfl rfl rfl) rfl ?_
      exact ⟨(KeepR.of_below HM.out.bel).trans hk, hw2, rfl⟩
    | false =>
      have h3 := hy2 rfl
      have h02 : ¬ (0 ≤ dO ∧ dO ≤ 2) := by omega
      have HE : Hid (pkS c dO l os = ⟨l, os, none⟩) := Lib.hid (by unfold pkS; rw [hos]; simp only; rw [if_neg h02])
      clear hb hpg hy1 hy2 hP hPR hW hcb h3 h02 hos
      rw [HE.out]
      go_enter Try.func12, Try.ntmps12
      go_wp2_with (first
        | (refine wpm_box HM rfl 29 (.tmp 1) rfl _ rfl ?_; intro U1 hM; (try simp only [List.cons_append, List.nil_append, List.set_cons_succ, List.set_cons_zero, Nat.reduceAdd] at hM); replace HM := hM; clear hM; have k0 := (HM.out.hb 0 _ _ _ rfl).cell (k := 0) (v := .int .i64 cl) rfl; have k1 := (HM.out.hb 0 _ _ _ rfl).cell (k := 1) (v := .int .i64 dO) rfl))
      refine (HPG.out _).mono ?_
      rintro e W1 ⟨rfl, rfl⟩
      clear k0 k1
      have kb := (HM.out.bel.cell (World.block_lt_of_cell? _ _ HB.out)).trans HB.out
      simp only [Option.isSome_none] at kb
      go_wp2_with fail
      (try simp only [Exit.inBlock, Exit.then])
      refine bodyPost_ret (res_4t rfl _ _ _ _ _ _ rfl rfl rfl rfl) rfl ?_
      exact ⟨KeepR.of_below HM.out.bel, HW.out.below HM.out.bel, rfl⟩
  | some st =>
    rw [hos] at HB
    have HBS := Lib.hid (hb st hos)
    cases y with
    | true =>
      have h3 := hy1 rfl
      have hp : 0 ≤ p := by omega
      have h02 : 0 ≤ dO ∧ dO ≤ 2 := by omega
      have HE : Hid (pkS c dO l os = ⟨l, os, none⟩) := Lib.hid (by unfold pkS; rw [hos]; simp only; rw [if_pos h02])
      have HPP := Lib.hid hp
      clear hb hpg hy1 hy2 hP hPR hW hcb h3 hp h02 hos
      rw [HE.out]
      go_enter Try.func12, Try.ntmps12
      go_wp2_with (first
        | (refine wpm_box HM rfl 29 (.tmp 1) rfl _ rfl ?_; intro U1 hM; (try simp only [List.cons_append, List.nil_append, List.set_cons_succ, List.set_cons_zero, Nat.reduceAdd] at hM); replace HM := hM; clear hM; have k0 := (HM.out.hb 0 _ _ _ rfl).cell (k := 0) (v := .int .i64 cl) rfl; have k1 := (HM.out.hb 0 _ _ _ rfl).cell (k := 1) (v := .int .i64 dO) rfl))
      refine (HPG.out _).mono ?_
      rintro e W1 ⟨rfl, rfl⟩
      clear k0 k1
      go_wp2_with (first
        | (refine wpm_bsI1 HM rfl (.tmp 25) rfl (c : Int) rfl ?_; intro W5 hM; (try simp only [List.cons_append, List.nil_append, List.set_cons_succ, List.set_cons_zero, Nat.reduceAdd] at hM); replace HM := hM; clear hM))
      refine (begin3_busy c hc p HPP.out _ [(c : Int)] w.heap.size R _ (ints_one0 HM.out (i := 1) rfl) (by simp) ((HM.out.bel.cell (World.block_lt_of_cell? _ _ HB.out)).trans HB.out)).mono ?_
      rintro e W2 ⟨rfl, hb⟩
      replace HM := Lib.hid (HM.out.below hb)
      clear hb
      go_wp2_with fail
      (try simp only [Exit.inBlock, Exit.then])
      refine bodyPost_ret (res_4t rfl _ _ _ _ _ _ rfl rfl rfl rfl) rfl ?_
      exact ⟨KeepR.of_below HM.out.bel, HW.out.below HM.out.bel, rfl⟩
    | false =>
      have h3 := hy2 rfl
      have h02 : ¬ (0 ≤ dO ∧ dO ≤ 2) := by omega
      have HOS := Lib.hid hos
      have HST := Lib.hid (fun (w : World) hP hW => step3 (P := P) c hc R w l os hP HPR.out hW st HOS.out HBS.out HCB.out)
      have HE : Hid (pkS c dO l os = match aftS st (yS c st l) with | .inl s' => ⟨lS c st l, upd os c (some s'), none⟩ | .inr la => ⟨lS c st l, upd os c none, some la⟩) := Lib.hid (by unfold pkS; rw [hos]; simp only; rw [if_neg h02])
      clear hb hpg hy1 hy2 hP hPR hW hcb h3 h02 hos
      generalize aftS st (yS c st l) = r at *
      rw [HE.out]
      go_enter Try.func12, Try.ntmps12
      go_wp2_with (first
        | (refine wpm_box HM rfl 29 (.tmp 1) rfl _ rfl ?_; intro U1 hM; (try simp only [List.cons_append, List.nil_append, List.set_cons_succ, List.set_cons_zero, Nat.reduceAdd] at hM); replace HM := hM; clear hM; have k0 := (HM.out.hb 0 _ _ _ rfl).cell (k := 0) (v := .int .i64 cl) rfl; have k1 := (HM.out.hb 0 _ _ _ rfl).cell (k := 1) (v := .int .i64 dO) rfl))
      refine (HPG.out _).mono ?_
      rintro e W1 ⟨rfl, rfl⟩
      clear k0 k1
      have kb := (HM.out.bel.cell (World.block_lt_of_cell? _ _ HB.out)).trans HB.out
      simp only [Option.isSome_some] at kb
      go_wp2_with fail
      refine (HST.out _ (fun b hb => HP.out b (Nat.le_trans HM.out.size hb)) (HW.out.below HM.out.bel)).mono ?_
      rintro e W2 ⟨hk, hm⟩
      cases r with
      | inl s' =>
        obtain ⟨rfl, hw2⟩ := hm
        clear kb
        go_wp2_with fail
        (try simp only [Exit.inBlock, Exit.then])
        refine bodyPost_ret (res_4t rfl _ _ _ _ _ _ rfl rfl rfl rfl) rfl ?_
        exact ⟨(KeepR.of_below HM.out.bel).trans hk, hw2, rfl⟩
      | inr la =>
        obtain ⟨⟨ans, rfl, hi⟩, hw2⟩ := hm
        have HI := Lib.hid hi
        obtain ⟨ao, cap, rfl, -, -⟩ := hi
        clear kb
        go_wp2_with fail
        (try simp only [Exit.inBlock, Exit.then])
        refine bodyPost_ret (res_4t rfl _ _ _ _ _ _ rfl rfl rfl rfl) rfl ?_
        exact ⟨(KeepR.of_below HM.out.bel).trans hk, hw2, _, rfl, HI.out⟩
end Go.Proofs.Ytgpdknacnmapiaa
namespace Go.Proofs.Ytgpdknacnmapiaa
set_option linter.unusedVariables false
set_option linter.unusedSimpArgs false
open Go.RowKit
open Go
/-- the cells and the answer behind a program that goes on alone, of at most so many steps -/
def alone (c : Nat) : Nat → S3 → List Int → Option (List Int × List Int)
  | 0, _, _ => none
  | n + 1, st, l => match aftS st (yS c st l) with
    | .inl s' => alone c n s' (lS c st l)
    | .inr la => some (lS c st l, la)
def aloneM (c n : Nat) (l2 : List Int) : S3 ⊕ List Int → Option (List Int × List Int)
  | .inl s' => alone c n s' l2
  | .inr la => some (l2, la)
theorem alone_succ (c n : Nat) (st : S3) (l : List Int) : alone c (n + 1) st l = aloneM c n (lS c st l) (aftS st (yS c st l)) := by
  simp only [alone]
  cases aftS st (yS c st l) <;> rfl
theorem upd_upd {α : Type} (f : Nat → α) (c : Nat) (a b : α) : upd (upd f c a) c b = upd f c b := by
  funext k; unfold upd; split <;> rfl
theorem upd_self {α : Type} (f : Nat → α) (c : Nat) (a : α) : upd f c a c = a := by unfold upd; rw [if_pos rfl]
end Go.Proofs.Ytgpdknacnmapiaa
