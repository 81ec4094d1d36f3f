/-
  The rows of a heap in memory; Less, Swap, Len (chapter 15).
-/
import Derived.Test.YtcmmmmpdehfefaaMeth
import Derived.BigQuiet
import Derived.Deep.QuietTactic
namespace Go.Proofs.Ytcmmmmpdehfefaa
set_option linter.unusedVariables false
set_option linter.unusedSimpArgs false
open Go.RowKit
/-- a pair: its block, its number, its client -/
structure Pr where
  pb : Nat
  n : Int
  c : Int
def Pr.val (p : Pr) : Value := .pointer (some ⟨p.pb, 0, none⟩)
def Pr.cells (p : Pr) (i : Nat) : Array Value := #[.int .i64 p.n, .int .i64 p.c, .int .i64 (i : Int)]
/-- is a ahead of b? -/
def lessB (a b : Pr) : Bool := decide (a.n < b.n) || (a.n == b.n && decide (a.c < b.c))
/-- the rows lie in block rb, each pair in its own, each with its place -/
structure HRow (w : World) (rb cap : Nat) (L : List Pr) : Prop where
  row : ∃ cur, w.heap[rb]? = some (.cells cur 55 (0, 0)) ∧ cur.size = cap ∧ ∀ i, i < L.length → cur[i]? = L[i]?.map Pr.val
  len : L.length ≤ cap
  max : cap ≤ 9223372036854775807
  pair : ∀ (i : Nat) (p : Pr), L[i]? = some p → w.heap[p.pb]? = some (.cells (p.cells i) 58 (0, 0))
  apart : ∀ (i j : Nat) (p q : Pr), L[i]? = some p → L[j]? = some q → p.pb = q.pb → i = j
theorem HRow.cell {w : World} {rb cap : Nat} {L : List Pr} (h : HRow w rb cap L) {i : Nat} {p : Pr} (hi : L[i]? = some p) : w.cell? ⟨rb, i, none⟩ = some p.val ∧ w.frozen? ⟨rb, i, none⟩ = false := by
  obtain ⟨cur, hr, _, hc⟩ := h.row
  have hlt := (List.getElem?_eq_some_iff.1 hi).1
  exact ⟨by rw [cell_of_row _ _ _ _ _ _ hr, hc i hlt, hi]; rfl, frozen_of_row _ _ _ _ _ hr⟩
theorem HRow.num {w : World} {rb cap : Nat} {L : List Pr} (h : HRow w rb cap L) {i : Nat} {p : Pr} (hi : L[i]? = some p) :
    w.cell? ⟨p.pb, 0, none⟩ = some (.int .i64 p.n) ∧ w.cell? ⟨p.pb, 1, none⟩ = some (.int .i64 p.c) ∧ w.cell? ⟨p.pb, 2, none⟩ = some (.int .i64 (i : Int)) ∧ w.frozen? ⟨p.pb, 2, none⟩ = false ∧ w.frozen? ⟨p.pb, 0, none⟩ = false := by
  have hp := h.pair i p hi
  refine ⟨?_, ?_, ?_, frozen_of_row _ _ _ _ _ hp, frozen_of_row _ _ _ _ _ hp⟩
  all_goals rw [cell_of_row _ _ _ _ _ _ hp]; rfl
theorem HRow.drewN {w : World} {rb cap : Nat} {L : List Pr} (h : HRow w rb cap L) (n : Nat) : HRow (w.drewN n) rb cap L := ⟨h.row, h.len, h.max, h.pair, h.apart⟩
theorem len_any (ao : Option Addr) (n cap : Nat) (w : World) : Calls Try.prog 75 #[.slice ao n cap] w fun e w' => e = .returned (.int .i64 (n : Int)) ∧ w = w' := by
  go_enter Try.func75, Try.ntmps75
  go_wp2
  go_ret
  exact ⟨rfl, rfl⟩
set_option maxHeartbeats 1000000 in
theorem less_any (rb cap i j n : Nat) (L : List Pr) (p q : Pr) (w : World) (h : HRow w rb cap L) (hn : L.length = n) (hi : L[i]? = some p) (hj : L[j]? = some q) :
    Calls Try.prog 76 #[.slice (some ⟨rb, 0, none⟩) n cap, .int .i64 (i : Int), .int .i64 (j : Int)] w fun e w' => e = .returned (.bool (lessB p q)) ∧ ∃ n, w' = w.drewN n := by
  have hil := (List.getElem?_eq_some_iff.1 hi).1
  have hjl := (List.getElem?_eq_some_iff.1 hj).1
  have h1 := h.len
  have h2 := h.max
  have c1 := (h.cell hi).1
  have c2 := (h.cell hj).1
  have n1 := (h.num hi).1
  have n2 := (h.num hj).1
  have m1 := (h.num hi).2.1
  have m2 := (h.num hj).2.1
  rw [hn] at hil hjl h1
  have i1 : (0 : Int) ≤ (i : Int) := by omega
  have i2 : (i : Int) < (n : Int) := by omega
  have j1 : (0 : Int) ≤ (j : Int) := by omega
  have j2 : (j : Int) < (n : Int) := by omega
  unfold Pr.val at c1 c2
  clear h hn hi hj
  unfold lessB
  by_cases ha : p.n < q.n
  · have d1 : decide (p.n < q.n) = true := decide_eq_true ha
    rw [d1]
    clear ha
    go_enter Try.func76, Try.ntmps76
    go_wp2
    go_quiet (fail)
    go_wp2
    go_ret
    exact ⟨rfl, _, rfl⟩
  · have d1 : decide (p.n < q.n) = false := decide_eq_false ha
    rw [d1]
    by_cases hb : p.n = q.n
    · have d2 : (p.n == q.n) = true := by simpa using hb
      rw [d2]
      clear ha hb
      go_enter Try.func76, Try.ntmps76
      go_wp2
      go_quiet (fail)
      go_wp2
      go_ret
      exact ⟨rfl, _, rfl⟩
    · have d2 : (p.n == q.n) = false := by simpa using hb
      rw [d2]
      clear ha hb
      go_enter Try.func76, Try.ntmps76
      go_wp2
      go_quiet (fail)
      go_wp2
      go_ret
      exact ⟨rfl, _, rfl⟩
end Go.Proofs.Ytcmmmmpdehfefaa
