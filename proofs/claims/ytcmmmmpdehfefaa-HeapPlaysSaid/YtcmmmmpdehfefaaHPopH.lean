/-
  Heap.Pop (chapter 15).
-/
import Derived.Test.YtcmmmmpdehfefaaHPut
namespace Go.Proofs.Ytcmmmmpdehfefaa
set_option linter.unusedVariables false
set_option linter.unusedSimpArgs false
open Go.RowKit Go.Maps
set_option maxRecDepth 100000 in
theorem hpop_nil (w : World) : Calls Try.prog 20 #[.pointer none] w fun e w' => e = .returned (.tuple #[.int .i64 0, .int .i64 0, .bool false]) ∧ w' = w := by
  have HL := Lib.hid (least_nil w)
  go_enter Try.func20, Try.ntmps20
  go_wp2_with fail
  refine HL.out.mono ?_
  rintro e w1 ⟨rfl, rfl⟩
  go_wp2_with fail
  go_ret3
  exact ⟨rfl, rfl⟩
set_option maxRecDepth 100000 in
theorem hpop_none (hb mb : Nat) (S : Nat → Prop) (w : World) (h : HG w hb mb S []) : Calls Try.prog 20 #[.pointer (some ⟨hb, 0, none⟩)] w fun e w' => e = .returned (.tuple #[.int .i64 0, .int .i64 0, .bool false]) ∧ w' = w := by
  have HL := Lib.hid (least_none hb mb S w h)
  clear h
  go_enter Try.func20, Try.ntmps20
  go_wp2_with fail
  refine HL.out.mono ?_
  rintro e w1 ⟨rfl, rfl⟩
  go_wp2_with fail
  go_ret3
  exact ⟨rfl, rfl⟩
theorem Hp.drewN {w : World} {hb mb n : Nat} {S : Nat → Prop} {L : List Pr} (h : Hp w hb mb S n L) (m : Nat) : Hp (w.drewN m) hb mb S n L := ⟨h.hg.drewN m, h.map, h.mS, h.lt, h.wfc, h.one⟩
set_option maxHeartbeats 1000000 in
set_option maxRecDepth 100000 in
theorem hpop_some (hb mb n m : Nat) (S : Nat → Prop) (L M : List Pr) (p : Pr) (w : World) (h : Hp w hb mb S n L) (hlen : L.length ≤ 100000) (hm : L.length = m + 1) (hi : L[0]? = some p) (hx : bringL m L 0 = M ++ [p]) (hpm : (p :: M).Perm L) :
    Calls Try.prog 20 #[.pointer (some ⟨hb, 0, none⟩)] w fun e w' => e = .returned (.tuple #[.int .i64 p.c, .int .i64 p.n, .bool true]) ∧ ∃ S', Hp w' hb mb S' n M ∧ (∀ k, S' k → S k) ∧ Grow (own S mb) w w' := by
  have HL := Lib.hid (least_some hb mb S L p w h.hg hi)
  have HT := Lib.hid (fun w' (hw : Hp w' hb mb S n L) => take_some hb mb n m 0 S L M p w' hw hlen hm hi hx hpm)
  have HH := Lib.hid h
  clear h hlen hm hi hx hpm
  go_enter Try.func20, Try.ntmps20
  go_wp2_with fail
  refine HL.out.mono ?_
  rintro e w1 ⟨rfl, k, rfl⟩
  go_wp2_with fail
  refine (HT.out _ (HH.out.drewN k)).mono ?_
  rintro e w2 ⟨rfl, h2⟩
  have H2 := Lib.hid h2
  clear h2
  go_wp2_with fail
  go_ret3
  obtain ⟨S', h1, h2, h3⟩ := H2.out
  exact ⟨rfl, S', h1, h2, ⟨h3.os, h3.tape, h3.output, h3.size, h3.block⟩⟩
end Go.Proofs.Ytcmmmmpdehfefaa
