/-
  What lease's Issue, Most, Base compute (chapter 20), and wal's Room.
-/
import Derived.Test.YtcffabfaefbjcaaProg
import Derived.WalkKit
import Derived.WalkLawsBesides
import Derived.WalkSpells
import Derived.Lib.Hide
import Derived.Laws.EntriesVeiled
import Derived.Outline
namespace Go.Proofs.Ytcffabfaefbjcaa
set_option linter.unusedVariables false
open Go.RowKit
def inB (n a b : Int) : Bool := decide (a ≤ n) && decide (n ≤ b)
theorem in_any (n a b : Int) (w : World) : Calls Try.prog 43 #[.int .i64 n, .int .i64 a, .int .i64 b] w fun e w' => e = .returned (.bool (inB n a b)) ∧ w = w' := by
  unfold inB
  by_cases h1 : a ≤ n
  · have d1 : decide (a ≤ n) = true := by simpa using h1
    go_enter Try.func43, Try.ntmps43
    go_wp2
    go_ret
    exact ⟨congrArg (fun z => Ending.returned (.bool z)) (by rw [d1]; rfl), rfl⟩
  · have d1 : decide (a ≤ n) = false := by simpa using h1
    go_enter Try.func43, Try.ntmps43
    go_wp2
    go_ret
    exact ⟨rfl, rfl⟩
def fitsB (f c w : Int) : Bool := inB f 0 1048575 && inB c 0 1048575 && inB w 2 8
theorem fits_any (f c k : Int) (w : World) : Calls Try.prog 38 #[.int .i64 f, .int .i64 c, .int .i64 k] w fun e w' => e = .returned (.bool (fitsB f c k)) ∧ w = w' := by
  unfold fitsB
  cases h1 : inB f 0 1048575
  · go_enter Try.func38, Try.ntmps38
    go_wp2_with (go_at_call 43; refine (in_any _ _ _ _).mono ?_; rintro e w' ⟨rfl, rfl⟩)
    go_ret
    exact ⟨rfl, rfl⟩
  cases h2 : inB c 0 1048575
  · go_enter Try.func38, Try.ntmps38
    go_wp2_with (go_at_call 43; refine (in_any _ _ _ _).mono ?_; rintro e w' ⟨rfl, rfl⟩)
    go_ret
    exact ⟨rfl, rfl⟩
  · go_enter Try.func38, Try.ntmps38
    go_wp2_with (go_at_call 43; refine (in_any _ _ _ _).mono ?_; rintro e w' ⟨rfl, rfl⟩)
    go_ret
    exact ⟨rfl, rfl⟩
theorem fitsB_iff (f c k : Int) : fitsB f c k = true ↔ 0 ≤ f ∧ f ≤ 1048575 ∧ 0 ≤ c ∧ c ≤ 1048575 ∧ 2 ≤ k ∧ k ≤ 8 := by
  unfold fitsB inB
  simp
  omega
theorem placed_any (n : Int) (w : World) : Calls Try.prog 61 #[.int .i64 n] w fun e w' => e = .returned (.bool (inB n 0 1048575)) ∧ w = w' := by
  unfold inB
  by_cases h1 : 0 ≤ n
  · have d1 : decide (0 ≤ n) = true := by simpa using h1
    go_enter Try.func61, Try.ntmps61
    go_wp2
    go_ret
    exact ⟨congrArg (fun z => Ending.returned (.bool z)) (by rw [d1]; rfl), rfl⟩
  · have d1 : decide (0 ≤ n) = false := by simpa using h1
    go_enter Try.func61, Try.ntmps61
    go_wp2
    go_ret
    exact ⟨rfl, rfl⟩
def roomB (p c : Int) : Bool := inB p 0 1048575 && inB c 0 1048575 && decide (p ≤ c + 32)
theorem room_any (p c : Int) (w : World) : Calls Try.prog 42 #[.int .i64 p, .int .i64 c] w fun e w' => e = .returned (.bool (roomB p c)) ∧ w = w' := by
  unfold roomB
  cases h1 : inB p 0 1048575
  · go_enter Try.func42, Try.ntmps42
    go_wp2_with (go_at_call 61; refine (placed_any _ _).mono ?_; rintro e w' ⟨rfl, rfl⟩)
    go_ret
    exact ⟨rfl, rfl⟩
  cases h2 : inB c 0 1048575
  · go_enter Try.func42, Try.ntmps42
    go_wp2_with (go_at_call 61; refine (placed_any _ _).mono ?_; rintro e w' ⟨rfl, rfl⟩)
    go_ret
    exact ⟨rfl, rfl⟩
  · have hb : 0 ≤ c ∧ c ≤ 1048575 := by unfold inB at h2; simpa using h2
    obtain ⟨hb1, hb2⟩ := hb
    go_enter Try.func42, Try.ntmps42
    go_wp2_with (go_at_call 61; refine (placed_any _ _).mono ?_; rintro e w' ⟨rfl, rfl⟩)
    go_ret
    exact ⟨rfl, rfl⟩
def baseE (l k : Int) : Int := if fitsB l 0 k = true then (if 1048575 < l + k then 172 else 0) else 2
def baseV (l k : Int) : Int := if baseE l k = 0 then l + k else 0
theorem base_any (l k : Int) (w : World) : Calls Try.prog 15 #[.int .i64 l, .int .i64 k] w fun e w' => e = .returned (.tuple #[.int .i64 (baseV l k), .int .i64 (baseE l k)]) ∧ w = w' := by
  cases h1 : fitsB l 0 k
  · have e1 : baseE l k = 2 := by unfold baseE; rw [h1]; rfl
    have e2 : baseV l k = 0 := by unfold baseV; rw [e1]; rfl
    rw [e1, e2]
    go_enter Try.func15, Try.ntmps15
    go_wp2_with (go_at_call 38; refine (fits_any _ _ _ _).mono ?_; rintro e w' ⟨rfl, rfl⟩)
    go_ret2
    exact ⟨rfl, rfl⟩
  · have hb := (fitsB_iff l 0 k).1 h1
    obtain ⟨hb1, hb2, _, _, hb3, hb4⟩ := hb
    by_cases h2 : 1048575 < l + k
    · have e1 : baseE l k = 172 := by unfold baseE; rw [h1, if_pos rfl, if_pos h2]
      have e2 : baseV l k = 0 := by unfold baseV; rw [e1]; rfl
      rw [e1, e2]
      clear e1 e2
      go_enter Try.func15, Try.ntmps15
      go_wp2_with (go_at_call 38; refine (fits_any _ _ _ _).mono ?_; rintro e w' ⟨rfl, rfl⟩)
      go_ret2
      exact ⟨rfl, rfl⟩
    · have e1 : baseE l k = 0 := by unfold baseE; rw [h1, if_pos rfl, if_neg h2]
      have e2 : baseV l k = l + k := by unfold baseV; rw [e1]; rfl
      rw [e1, e2]
      clear e1 e2
      go_enter Try.func15, Try.ntmps15
      go_wp2_with (go_at_call 38; refine (fits_any _ _ _ _).mono ?_; rintro e w' ⟨rfl, rfl⟩)
      go_ret2
      exact ⟨rfl, rfl⟩
def mostV (f c k : Int) : Int := if fitsB f c k = true then min (min (f + k) (c + 32)) 1048575 else 0
theorem most_any (f c k : Int) (w : World) : Calls Try.prog 13 #[.int .i64 f, .int .i64 c, .int .i64 k] w fun e w' => e = .returned (.int .i64 (mostV f c k)) ∧ w = w' := by
  unfold mostV
  cases h1 : fitsB f c k
  · go_enter Try.func13, Try.ntmps13
    go_wp2_with (go_at_call 38; refine (fits_any _ _ _ _).mono ?_; rintro e w' ⟨rfl, rfl⟩)
    go_ret
    exact ⟨rfl, rfl⟩
  · have hb := (fitsB_iff f c k).1 h1
    obtain ⟨hb1, hb2, hb5, hb6, hb3, hb4⟩ := hb
    go_enter Try.func13, Try.ntmps13
    go_wp2_with (go_at_call 38; refine (fits_any _ _ _ _).mono ?_; rintro e w' ⟨rfl, rfl⟩)
    all_goals
      go_ret
      exact ⟨congrArg (fun z => Ending.returned (.int .i64 z)) (by omega), rfl⟩
def issueE (p f c k : Int) : Int := if p < 1 ∨ fitsB f c k = false then 2 else if f + k < p then 170 else if 1048575 < p then 172 else if roomB p c = false then 171 else 0
theorem rule1 (a0 a1 a2 a3 : Addr) (p f c k : Int) (w : World) (h0 : w.cell? a0 = some (.int .i64 p)) (h1 : w.cell? a1 = some (.int .i64 f)) (h2 : w.cell? a2 = some (.int .i64 c)) (h3 : w.cell? a3 = some (.int .i64 k)) :
    Calls Try.prog 37 #[.pointer (some a0), .pointer (some a1), .pointer (some a2), .pointer (some a3)] w fun e w' => e = .returned (.bool (decide (1 ≤ p) && fitsB f c k)) ∧ w = w' := by
  by_cases h : 1 ≤ p
  · have d1 : decide (1 ≤ p) = true := by simpa using h
    go_enter Try.func37, Try.ntmps37
    go_wp2_with (go_at_call 38; refine (fits_any _ _ _ _).mono ?_; rintro e w' ⟨rfl, rfl⟩)
    go_ret
    exact ⟨congrArg (fun z => Ending.returned (.bool z)) (by rw [d1]; rfl), rfl⟩
  · have d1 : decide (1 ≤ p) = false := by simpa using h
    go_enter Try.func37, Try.ntmps37
    go_wp2
    go_ret
    exact ⟨rfl, rfl⟩
theorem rule2 (a0 a1 a3 : Addr) (p f k : Int) (hf : 0 ≤ f ∧ f ≤ 1048575) (hk : 2 ≤ k ∧ k ≤ 8) (w : World) (h0 : w.cell? a0 = some (.int .i64 p)) (h1 : w.cell? a1 = some (.int .i64 f)) (h3 : w.cell? a3 = some (.int .i64 k)) :
    Calls Try.prog 39 #[.pointer (some a0), .pointer (some a1), .pointer (some a3)] w fun e w' => e = .returned (.bool (decide (p ≤ f + k))) ∧ w = w' := by
  obtain ⟨hf1, hf2⟩ := hf
  obtain ⟨hk1, hk2⟩ := hk
  go_enter Try.func39, Try.ntmps39
  go_wp2
  go_ret
  exact ⟨rfl, rfl⟩
theorem rule3 (a0 : Addr) (p : Int) (w : World) (h0 : w.cell? a0 = some (.int .i64 p)) :
    Calls Try.prog 40 #[.pointer (some a0)] w fun e w' => e = .returned (.bool (decide (p ≤ 1048575))) ∧ w = w' := by
  go_enter Try.func40, Try.ntmps40
  go_wp2
  go_ret
  exact ⟨rfl, rfl⟩
theorem rule4 (a0 a2 : Addr) (p c : Int) (w : World) (h0 : w.cell? a0 = some (.int .i64 p)) (h2 : w.cell? a2 = some (.int .i64 c)) :
    Calls Try.prog 41 #[.pointer (some a0), .pointer (some a2)] w fun e w' => e = .returned (.bool (roomB p c)) ∧ w = w' := by
  go_enter Try.func41, Try.ntmps41
  go_wp2_with (go_at_call 42; refine (room_any _ _ _).mono ?_; rintro e w' ⟨rfl, rfl⟩)
  go_ret
  exact ⟨rfl, rfl⟩
theorem newc (w : World) (u : Value) (e : TypeId) (n : Nat) (hn : n = w.heap.size) : (w.alloc (.cells #[u] e)).cell? ⟨n, 0, none⟩ = some u := by subst hn; simp
theorem cell_past {w : World} {a : Addr} {v : Value} (h : w.cell? a = some v) (o : Obj) : (w.alloc o).cell? a = some v := by
  rw [World.cell?_alloc_lt _ _ _ (World.block_lt_of_cell? w a h)]; exact h
theorem cells4 (w : World) (p f c k : Value) (e : TypeId) :
    ((((w.alloc (.cells #[p] e)).alloc (.cells #[f] e)).alloc (.cells #[c] e)).alloc (.cells #[k] e)).cell? ⟨w.heap.size, 0, none⟩ = some p ∧
    ((((w.alloc (.cells #[p] e)).alloc (.cells #[f] e)).alloc (.cells #[c] e)).alloc (.cells #[k] e)).cell? ⟨w.heap.size + 1, 0, none⟩ = some f ∧
    ((((w.alloc (.cells #[p] e)).alloc (.cells #[f] e)).alloc (.cells #[c] e)).alloc (.cells #[k] e)).cell? ⟨w.heap.size + 1 + 1, 0, none⟩ = some c ∧
    ((((w.alloc (.cells #[p] e)).alloc (.cells #[f] e)).alloc (.cells #[c] e)).alloc (.cells #[k] e)).cell? ⟨w.heap.size + 1 + 1 + 1, 0, none⟩ = some k :=
  ⟨cell_past (cell_past (cell_past (newc _ _ _ _ rfl) _) _) _, cell_past (cell_past (newc _ _ _ _ (by simp)) _) _, cell_past (newc _ _ _ _ (by simp)) _, newc _ _ _ _ (by simp)⟩
theorem below_alloc {w w1 : World} (h : Below w.heap.size w w1) (o : Obj) : Below w.heap.size w (w1.alloc o) := h.alloc h.size o
set_option maxHeartbeats 1000000 in
theorem issue_a (p f c k : Int) (h : p < 1) (w : World) : Calls Try.prog 12 #[.int .i64 p, .int .i64 f, .int .i64 c, .int .i64 k] w fun e w' => e = .returned (.int .i64 2) ∧ Below w.heap.size w w' := by
  have d1 : decide (1 ≤ p) = false := by simp; omega
  have Q := Lib.hid (cells4 w (.int .i64 p) (.int .i64 f) (.int .i64 c) (.int .i64 k) 3)
  go_enter Try.func12, Try.ntmps12
  go_wp2
  refine wp_loop_rounds 5 ?_
  rw [rounds_succ]
  go_wp2_with fail
  refine (rule1 _ _ _ _ p f c k _ (cell_past (cell_past Q.out.1 _) _) (cell_past (cell_past Q.out.2.1 _) _) (cell_past (cell_past Q.out.2.2.1 _) _) (cell_past (cell_past Q.out.2.2.2 _) _)).mono ?_
  rintro e w' ⟨rfl, rfl⟩
  rw [d1, Bool.false_and]
  go_wp2_with fail
  go_ret
  exact ⟨rfl, by repeat (first | exact Below.refl _ _ | refine below_alloc ?_ _)⟩
set_option maxHeartbeats 1000000 in
theorem issue_b (p f c k : Int) (h : 1 ≤ p) (hf : fitsB f c k = false) (w : World) : Calls Try.prog 12 #[.int .i64 p, .int .i64 f, .int .i64 c, .int .i64 k] w fun e w' => e = .returned (.int .i64 2) ∧ Below w.heap.size w w' := by
  have d1 : decide (1 ≤ p) = true := by simpa using h
  have Q := Lib.hid (cells4 w (.int .i64 p) (.int .i64 f) (.int .i64 c) (.int .i64 k) 3)
  go_enter Try.func12, Try.ntmps12
  go_wp2
  refine wp_loop_rounds 5 ?_
  rw [rounds_succ]
  go_wp2_with fail
  refine (rule1 _ _ _ _ p f c k _ (cell_past (cell_past Q.out.1 _) _) (cell_past (cell_past Q.out.2.1 _) _) (cell_past (cell_past Q.out.2.2.1 _) _) (cell_past (cell_past Q.out.2.2.2 _) _)).mono ?_
  rintro e w' ⟨rfl, rfl⟩
  rw [d1, hf]
  go_wp2_with fail
  go_ret
  exact ⟨rfl, by repeat (first | exact Below.refl _ _ | refine below_alloc ?_ _)⟩
set_option maxHeartbeats 1000000 in
theorem issue_c (p f c k : Int) (h : 1 ≤ p) (hf : fitsB f c k = true) (h2 : f + k < p) (w : World) : Calls Try.prog 12 #[.int .i64 p, .int .i64 f, .int .i64 c, .int .i64 k] w fun e w' => e = .returned (.int .i64 170) ∧ Below w.heap.size w w' := by
  have hb := (fitsB_iff f c k).1 hf
  obtain ⟨hb1, hb2, hb5, hb6, hb3, hb4⟩ := hb
  have d1 : decide (1 ≤ p) = true := by simpa using h
  have d2 : decide (p ≤ f + k) = false := by simp; omega
  have Q := Lib.hid (cells4 w (.int .i64 p) (.int .i64 f) (.int .i64 c) (.int .i64 k) 3)
  go_enter Try.func12, Try.ntmps12
  go_wp2
  refine wp_loop_rounds 5 ?_
  rw [rounds_succ]
  go_wp2_with fail
  refine (rule1 _ _ _ _ p f c k _ (cell_past (cell_past Q.out.1 _) _) (cell_past (cell_past Q.out.2.1 _) _) (cell_past (cell_past Q.out.2.2.1 _) _) (cell_past (cell_past Q.out.2.2.2 _) _)).mono ?_
  rintro e w' ⟨rfl, rfl⟩
  rw [d1, hf]
  go_wp2_with fail
  rw [rounds_succ]
  go_wp2_with fail
  refine (rule2 _ _ _ p f k ⟨hb1, hb2⟩ ⟨hb3, hb4⟩ _ (cell_past (cell_past (cell_past Q.out.1 _) _) _) (cell_past (cell_past (cell_past Q.out.2.1 _) _) _) (cell_past (cell_past (cell_past Q.out.2.2.2 _) _) _)).mono ?_
  rintro e w' ⟨rfl, rfl⟩
  rw [d2]
  go_wp2_with fail
  go_ret
  exact ⟨rfl, by repeat (first | exact Below.refl _ _ | refine below_alloc ?_ _)⟩
set_option maxHeartbeats 1000000 in
theorem issue_d (p f c k : Int) (h : 1 ≤ p) (hf : fitsB f c k = true) (h2 : p ≤ f + k) (h3 : 1048575 < p) (w : World) : Calls Try.prog 12 #[.int .i64 p, .int .i64 f, .int .i64 c, .int .i64 k] w fun e w' => e = .returned (.int .i64 172) ∧ Below w.heap.size w w' := by
  have hb := (fitsB_iff f c k).1 hf
  obtain ⟨hb1, hb2, hb5, hb6, hb3, hb4⟩ := hb
  have d1 : decide (1 ≤ p) = true := by simpa using h
  have d2 : decide (p ≤ f + k) = true := by simpa using h2
  have d3 : decide (p ≤ 1048575) = false := by simp; omega
  have Q := Lib.hid (cells4 w (.int .i64 p) (.int .i64 f) (.int .i64 c) (.int .i64 k) 3)
  go_enter Try.func12, Try.ntmps12
  go_wp2
  refine wp_loop_rounds 5 ?_
  rw [rounds_succ]
  go_wp2_with fail
  refine (rule1 _ _ _ _ p f c k _ (cell_past (cell_past Q.out.1 _) _) (cell_past (cell_past Q.out.2.1 _) _) (cell_past (cell_past Q.out.2.2.1 _) _) (cell_past (cell_past Q.out.2.2.2 _) _)).mono ?_
  rintro e w' ⟨rfl, rfl⟩
  rw [d1, hf]
  go_wp2_with fail
  rw [rounds_succ]
  go_wp2_with fail
  refine (rule2 _ _ _ p f k ⟨hb1, hb2⟩ ⟨hb3, hb4⟩ _ (cell_past (cell_past (cell_past Q.out.1 _) _) _) (cell_past (cell_past (cell_past Q.out.2.1 _) _) _) (cell_past (cell_past (cell_past Q.out.2.2.2 _) _) _)).mono ?_
  rintro e w' ⟨rfl, rfl⟩
  rw [d2]
  go_wp2_with fail
  rw [rounds_succ]
  go_wp2_with fail
  refine (rule3 _ p _ (cell_past (cell_past (cell_past (cell_past Q.out.1 _) _) _) _)).mono ?_
  rintro e w' ⟨rfl, rfl⟩
  rw [d3]
  go_wp2_with fail
  go_ret
  exact ⟨rfl, by repeat (first | exact Below.refl _ _ | refine below_alloc ?_ _)⟩
set_option maxHeartbeats 1000000 in
theorem issue_e (p f c k : Int) (h : 1 ≤ p) (hf : fitsB f c k = true) (h2 : p ≤ f + k) (h3 : p ≤ 1048575) (h4 : roomB p c = false) (w : World) : Calls Try.prog 12 #[.int .i64 p, .int .i64 f, .int .i64 c, .int .i64 k] w fun e w' => e = .returned (.int .i64 171) ∧ Below w.heap.size w w' := by
  have hb := (fitsB_iff f c k).1 hf
  obtain ⟨hb1, hb2, hb5, hb6, hb3, hb4⟩ := hb
  have d1 : decide (1 ≤ p) = true := by simpa using h
  have d2 : decide (p ≤ f + k) = true := by simpa using h2
  have d3 : decide (p ≤ 1048575) = true := by simpa using h3
  have Q := Lib.hid (cells4 w (.int .i64 p) (.int .i64 f) (.int .i64 c) (.int .i64 k) 3)
  go_enter Try.func12, Try.ntmps12
  go_wp2
  refine wp_loop_rounds 5 ?_
  rw [rounds_succ]
  go_wp2_with fail
  refine (rule1 _ _ _ _ p f c k _ (cell_past (cell_past Q.out.1 _) _) (cell_past (cell_past Q.out.2.1 _) _) (cell_past (cell_past Q.out.2.2.1 _) _) (cell_past (cell_past Q.out.2.2.2 _) _)).mono ?_
  rintro e w' ⟨rfl, rfl⟩
  rw [d1, hf]
  go_wp2_with fail
  rw [rounds_succ]
  go_wp2_with fail
  refine (rule2 _ _ _ p f k ⟨hb1, hb2⟩ ⟨hb3, hb4⟩ _ (cell_past (cell_past (cell_past Q.out.1 _) _) _) (cell_past (cell_past (cell_past Q.out.2.1 _) _) _) (cell_past (cell_past (cell_past Q.out.2.2.2 _) _) _)).mono ?_
  rintro e w' ⟨rfl, rfl⟩
  rw [d2]
  go_wp2_with fail
  rw [rounds_succ]
  go_wp2_with fail
  refine (rule3 _ p _ (cell_past (cell_past (cell_past (cell_past Q.out.1 _) _) _) _)).mono ?_
  rintro e w' ⟨rfl, rfl⟩
  rw [d3]
  go_wp2_with fail
  rw [rounds_succ]
  go_wp2_with fail
  refine (rule4 _ _ p c _ (cell_past (cell_past (cell_past (cell_past (cell_past Q.out.1 _) _) _) _) _) (cell_past (cell_past (cell_past (cell_past (cell_past Q.out.2.2.1 _) _) _) _) _)).mono ?_
  rintro e w' ⟨rfl, rfl⟩
  rw [h4]
  go_wp2_with fail
  go_ret
  exact ⟨rfl, by repeat (first | exact Below.refl _ _ | refine below_alloc ?_ _)⟩
set_option maxHeartbeats 1000000 in
theorem issue_f (p f c k : Int) (h : 1 ≤ p) (hf : fitsB f c k = true) (h2 : p ≤ f + k) (h3 : p ≤ 1048575) (h4 : roomB p c = true) (w : World) : Calls Try.prog 12 #[.int .i64 p, .int .i64 f, .int .i64 c, .int .i64 k] w fun e w' => e = .returned (.int .i64 0) ∧ Below w.heap.size w w' := by
  have hb := (fitsB_iff f c k).1 hf
  obtain ⟨hb1, hb2, hb5, hb6, hb3, hb4⟩ := hb
  have d1 : decide (1 ≤ p) = true := by simpa using h
  have d2 : decide (p ≤ f + k) = true := by simpa using h2
  have d3 : decide (p ≤ 1048575) = true := by simpa using h3
  have Q := Lib.hid (cells4 w (.int .i64 p) (.int .i64 f) (.int .i64 c) (.int .i64 k) 3)
  go_enter Try.func12, Try.ntmps12
  go_wp2
  refine wp_loop_rounds 5 ?_
  rw [rounds_succ]
  go_wp2_with fail
  refine (rule1 _ _ _ _ p f c k _ (cell_past (cell_past Q.out.1 _) _) (cell_past (cell_past Q.out.2.1 _) _) (cell_past (cell_past Q.out.2.2.1 _) _) (cell_past (cell_past Q.out.2.2.2 _) _)).mono ?_
  rintro e w' ⟨rfl, rfl⟩
  rw [d1, hf]
  go_wp2_with fail
  rw [rounds_succ]
  go_wp2_with fail
  refine (rule2 _ _ _ p f k ⟨hb1, hb2⟩ ⟨hb3, hb4⟩ _ (cell_past (cell_past (cell_past Q.out.1 _) _) _) (cell_past (cell_past (cell_past Q.out.2.1 _) _) _) (cell_past (cell_past (cell_past Q.out.2.2.2 _) _) _)).mono ?_
  rintro e w' ⟨rfl, rfl⟩
  rw [d2]
  go_wp2_with fail
  rw [rounds_succ]
  go_wp2_with fail
  refine (rule3 _ p _ (cell_past (cell_past (cell_past (cell_past Q.out.1 _) _) _) _)).mono ?_
  rintro e w' ⟨rfl, rfl⟩
  rw [d3]
  go_wp2_with fail
  rw [rounds_succ]
  go_wp2_with fail
  refine (rule4 _ _ p c _ (cell_past (cell_past (cell_past (cell_past (cell_past Q.out.1 _) _) _) _) _) (cell_past (cell_past (cell_past (cell_past (cell_past Q.out.2.2.1 _) _) _) _) _)).mono ?_
  rintro e w' ⟨rfl, rfl⟩
  rw [h4]
  go_wp2_with fail
  rw [rounds_succ]
  go_wp2_with fail
  go_ret
  exact ⟨rfl, by repeat (first | exact Below.refl _ _ | refine below_alloc ?_ _)⟩
theorem issue_any (p f c k : Int) (w : World) : Calls Try.prog 12 #[.int .i64 p, .int .i64 f, .int .i64 c, .int .i64 k] w fun e w' => e = .returned (.int .i64 (issueE p f c k)) ∧ Below w.heap.size w w' := by
  unfold issueE
  by_cases h : p < 1
  · rw [if_pos (Or.inl h)]; exact issue_a p f c k h w
  cases hf : fitsB f c k with
  | false => rw [if_pos (Or.inr rfl)]; exact issue_b p f c k (by omega) hf w
  | true =>
    rw [if_neg (by simp; omega)]
    by_cases h2 : f + k < p
    · rw [if_pos h2]; exact issue_c p f c k (by omega) hf h2 w
    rw [if_neg h2]
    by_cases h3 : 1048575 < p
    · rw [if_pos h3]; exact issue_d p f c k (by omega) hf (by omega) h3 w
    rw [if_neg h3]
    cases h4 : roomB p c with
    | false => exact issue_e p f c k (by omega) hf (by omega) (by omega) h4 w
    | true => exact issue_f p f c k (by omega) hf (by omega) (by omega) h4 w
end Go.Proofs.Ytcffabfaefbjcaa
