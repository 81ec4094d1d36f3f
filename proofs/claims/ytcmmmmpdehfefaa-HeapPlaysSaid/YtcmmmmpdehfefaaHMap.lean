/-
  A heap with its map; New, Len, Least (chapter 15).
-/
import Derived.Test.YtcmmmmpdehfefaaHRem
import Derived.Maps.OwnSet
import Derived.Maps.Views
import Derived.Lib.Hide
import Derived.Outline
namespace Go.Proofs.Ytcmmmmpdehfefaa
set_option linter.unusedVariables false
set_option linter.unusedSimpArgs false
open Go.RowKit Go.Maps
/-- an element reads as itself -/
def rdSelf (v : Value) : Option (DataW Value × List MemPlace) := some (.held v, [])
theorem law3 : Keyed Try.prog 3 := int_keyed (q := .i64) (by kernel_rfl)
theorem u50 : Try.prog.underlying 50 = some (.map 3 55) := by kernel_rfl
theorem zero55 (w : World) : (zeroValue 55).run Try.prog w = .ok (.pointer none) w := by kernel_rfl
theorem u3 : Try.prog.underlying 3 = some (.int .i64) := by kernel_rfl
/-- a number of 64 bits -/
def I64 (n : Int) : Prop := -9223372036854775808 ≤ n ∧ n ≤ 9223372036854775807
theorem I64.wf {n : Int} (h : I64 n) : (Lit.int .i64 n).wf = true := by
  obtain ⟨h1, h2⟩ := h
  have e1 : IntKind.i64.min = -9223372036854775808 := by kernel_rfl
  have e2 : IntKind.i64.max = 9223372036854775807 := by kernel_rfl
  simp [Lit.wf, e1, e2]
  omega
/-- the map's key -/
def kc (c : Int) : Lit := .int .i64 c
theorem kc_ne {a b : Int} (h : a ≠ b) : kc a ≠ kc b := by
  intro e; unfold kc at e; injection e with _ e; exact h e
/-- what the map knows -/
structure KV (D : DataW Value) (L : List Pr) : Prop where
  no : ∀ c, (∀ p ∈ L, p.c ≠ c) → has D (kc c) = false
  yes : ∀ p ∈ L, has D (kc p.c) = true ∧ ∀ z, D.atKey (kc p.c) z = .held p.val
/-- a heap -/
structure Hp (w : World) (hb mb : Nat) (S : Nat → Prop) (n : Nat) (L : List Pr) : Prop where
  hg : HG w hb mb S L
  map : ∃ D, w.ownsMap Try.prog 3 rdSelf mb n D ∧ KV D L
  mS : ¬ S mb
  lt : ∀ k, S k → k < w.heap.size
  wfc : ∀ p ∈ L, 0 ≤ p.c ∧ p.c ≤ 1000
  one : (L.map Pr.c).Nodup
set_option maxRecDepth 100000 in
theorem new_any (w : World) : Calls Try.prog 12 #[] w fun e w' => e = .returned (.pointer (some ⟨w.heap.size + 1, 0, none⟩)) ∧ w' = (w.alloc (.map #[] 0)).alloc (.cells #[.slice none 0 0, .map (some w.heap.size)] 54) := by
  have hmm := @run_makeMap Try.prog
  go_enter Try.func12, Try.ntmps12
  go_wp2
  go_ret
  exact ⟨rfl, rfl⟩
theorem Hp.new (w : World) : Hp ((w.alloc (.map #[] 0)).alloc (.cells #[.slice none 0 0, .map (some w.heap.size)] 54)) (w.heap.size + 1) w.heap.size (fun k => k = w.heap.size + 1) 0 [] := by
  have h1 := heap_alloc2_new w (.map #[] 0) (.cells #[.slice none 0 0, .map (some w.heap.size)] 54)
  refine ⟨⟨⟨.slice none 0 0, h1, .inl ⟨rfl, rfl⟩, fun k hk => by cases hk⟩, rfl, fun p hp => by cases hp⟩, ⟨_, (World.ownsMap_made w Try.prog 3 rdSelf).alloc _, ⟨fun c _ => rfl, fun p hp => by cases hp⟩⟩, by simp, fun k hk => by subst hk; simp, fun p hp => (by cases hp), List.nodup_nil⟩
theorem HG.len {w : World} {hb mb : Nat} {S : Nat → Prop} {L : List Pr} (h : HG w hb mb S L) : ∃ ao cap, w.cell? ⟨hb, 0, none⟩ = some (.slice ao L.length cap) ∧ w.cell? ⟨hb, 1, none⟩ = some (.map (some mb)) := by
  obtain ⟨⟨v, h1, h2, h3⟩, h4, h5⟩ := h
  obtain ⟨ao, cap, rfl⟩ := own_shape h2.owns
  refine ⟨ao, cap, ?_, ?_⟩
  all_goals rw [cell_of_row _ _ _ _ _ _ h1]; rfl
set_option maxRecDepth 100000 in
theorem hlen_any (hb mb : Nat) (S : Nat → Prop) (L : List Pr) (w : World) (h : HG w hb mb S L) : Calls Try.prog 24 #[.pointer (some ⟨hb, 0, none⟩)] w fun e w' => e = .returned (.int .i64 (L.length : Int)) ∧ w' = w := by
  obtain ⟨ao, cap, hc, _⟩ := h.len
  clear h
  go_enter Try.func24, Try.ntmps24
  go_wp2
  go_ret
  exact ⟨rfl, rfl⟩
set_option maxRecDepth 100000 in
theorem hlen_nil (w : World) : Calls Try.prog 24 #[.pointer none] w fun e w' => e = .returned (.int .i64 0) ∧ w' = w := by
  go_enter Try.func24, Try.ntmps24
  go_wp2
  go_ret
  exact ⟨rfl, rfl⟩
set_option maxRecDepth 100000 in
theorem least_nil (w : World) : Calls Try.prog 22 #[.pointer none] w fun e w' => e = .returned (.tuple #[.int .i64 0, .int .i64 0, .bool false]) ∧ w' = w := by
  go_enter Try.func22, Try.ntmps22
  go_wp2
  go_ret3
  exact ⟨rfl, rfl⟩
set_option maxRecDepth 100000 in
theorem least_none (hb mb : Nat) (S : Nat → Prop) (w : World) (h : HG w hb mb S []) : Calls Try.prog 22 #[.pointer (some ⟨hb, 0, none⟩)] w fun e w' => e = .returned (.tuple #[.int .i64 0, .int .i64 0, .bool false]) ∧ w' = w := by
  obtain ⟨ao, cap, hc, _⟩ := h.len
  simp only [List.length_nil] at hc
  clear h
  go_enter Try.func22, Try.ntmps22
  go_wp2
  go_ret3
  exact ⟨rfl, rfl⟩
set_option maxHeartbeats 1000000 in
set_option maxRecDepth 100000 in
theorem least_some (hb mb : Nat) (S : Nat → Prop) (L : List Pr) (p : Pr) (w : World) (h : HG w hb mb S L) (hp : L[0]? = some p) : Calls Try.prog 22 #[.pointer (some ⟨hb, 0, none⟩)] w fun e w' => e = .returned (.tuple #[.int .i64 p.c, .int .i64 p.n, .bool true]) ∧ ∃ m, w' = w.drewN m := by
  obtain ⟨ao, cap, hc, _⟩ := h.len
  have HA := Lib.hid (ahead_any hb mb S L p w h hp)
  have hlt := (List.getElem?_eq_some_iff.1 hp).1
  obtain ⟨rb, cap, ht, hr, hrb⟩ := h.row (by rintro rfl; simp at hlt)
  obtain ⟨n1, n2, _⟩ := hr.num hp
  obtain ⟨k, hk⟩ : ∃ k, L.length = k + 1 := ⟨L.length - 1, by omega⟩
  rw [hk] at hc
  have e1 : ((k + 1 : Nat) : Int) = (k : Int) + 1 := by omega
  have e2 : (((k : Int) + 1) == 0) = false := by rw [beq_eq_false_iff_ne]; omega
  clear h ht hr hrb hp hlt hk
  go_enter Try.func22, Try.ntmps22
  go_wp2_with fail
  refine HA.out.mono ?_
  rintro e w1 ⟨rfl, rfl⟩
  unfold Pr.val
  go_wp2_with fail
  go_quiet (fail)
  go_wp2
  go_ret3
  exact ⟨rfl, _, rfl⟩
end Go.Proofs.Ytcmmmmpdehfefaa
