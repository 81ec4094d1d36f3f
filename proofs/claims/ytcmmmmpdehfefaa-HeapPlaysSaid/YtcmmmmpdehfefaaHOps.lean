/-
  container/heap's Push, Fix, Remove (chapter 15).
-/
import Derived.Test.YtcmmmmpdehfefaaHPop
namespace Go.Proofs.Ytcmmmmpdehfefaa
set_option linter.unusedVariables false
set_option linter.unusedSimpArgs false
open Go.RowKit
theorem downL_length : ∀ (f : Nat) (L : List Pr) (i m : Nat), (downL f L i m).1.length = L.length
  | 0, L, i, m => rfl
  | f + 1, L, i, m => by
    unfold downL
    split
    · split
      · rw [downL_length f, swapL_length]
      · rfl
    · rfl
theorem upL_length : ∀ (f : Nat) (L : List Pr) (i : Nat), (upL f L i).length = L.length
  | 0, L, i => rfl
  | f + 1, L, i => by
    unfold upL
    split
    · rfl
    · split
      · split
        · rw [upL_length f, swapL_length]
        · rfl
      · rfl
theorem downL_mem : ∀ (f : Nat) (L : List Pr) (i m : Nat) (p : Pr), p ∈ (downL f L i m).1 → p ∈ L
  | 0, L, i, m, p, h => h
  | f + 1, L, i, m, p, h => by
    unfold downL at h
    split at h
    · rename_i p0 j q h1 h2
      split at h
      · have := downL_mem f _ _ _ p h
        rcases List.mem_or_eq_of_mem_set this with hr | rfl
        · rcases List.mem_or_eq_of_mem_set hr with hr | rfl
          · exact hr
          · exact List.mem_of_getElem? (child_lt h2).2.2
        · exact List.mem_of_getElem? h1
      · exact h
    · exact h
theorem upL_mem : ∀ (f : Nat) (L : List Pr) (i : Nat) (p : Pr), p ∈ upL f L i → p ∈ L
  | 0, L, i, p, h => h
  | f + 1, L, i, p, h => by
    unfold upL at h
    split at h
    · exact h
    · split at h
      · rename_i p0 q h1 h2
        split at h
        · have := upL_mem f _ _ p h
          rcases List.mem_or_eq_of_mem_set this with hr | rfl
          · rcases List.mem_or_eq_of_mem_set hr with hr | rfl
            · exact hr
            · exact List.mem_of_getElem? h1
          · exact List.mem_of_getElem? h2
        · exact h
      · exact h
/-- the heap after a push -/
def pushL (L : List Pr) (p : Pr) : List Pr := upL L.length (L ++ [p]) L.length
/-- the heap after a number of its was changed -/
def fixL (L : List Pr) (i : Nat) : List Pr := let r := downL L.length L i L.length; if i < r.2 then r.1 else upL i r.1 i
theorem fixL_length (L : List Pr) (i : Nat) : (fixL L i).length = L.length := by
  unfold fixL
  dsimp only
  split
  · rw [downL_length]
  · rw [upL_length, downL_length]
theorem HG.touch_row {w w' : World} {hb mb : Nat} {S : Nat → Prop} {L L' : List Pr} {rb cap n : Nat} (h : HG w hb mb S L) (ht : HTop w hb mb rb n cap) (hr : HRow w rb cap L) (hrb : S rb) (hn : L'.length = n) (hr' : HRow w' rb cap L') (hto : Touch (RowSet rb L) w w') (hmem : ∀ p ∈ L', p ∈ L) : HG w' hb mb S L' ∧ Grow S w w' := by
  refine ⟨HG.of_row (ht.touch hr hto) hr' hn h.hbS hrb (fun p hp => h.prS p (hmem p hp)), (hto.grow).mono ?_⟩
  rintro k _ (rfl | ⟨p, hp, rfl⟩)
  · exact hrb
  · exact h.prS p hp
set_option maxHeartbeats 1000000 in
set_option maxRecDepth 100000 in
theorem hpush_any (hb mb pb : Nat) (S : Nat → Prop) (L : List Pr) (n c : Int) (y : Value) (w : World) (h : HG w hb mb S L) (hlen : L.length ≤ 100000)
    (hp : w.heap[pb]? = some (.cells #[.int .i64 n, .int .i64 c, y] 58 (0, 0))) (hnew : ∀ p ∈ L, p.pb ≠ pb) (hS : S pb) :
    Calls Try.prog 28 #[.iface 60 (.pointer (some ⟨hb, 0, none⟩)), .iface 55 (.pointer (some ⟨pb, 0, none⟩))] w fun e w' => e = .returned (.tuple #[]) ∧ HG w' hb mb (more S w) (pushL L ⟨pb, n, c⟩) ∧ Grow S w w' := by
  have HP := Lib.hid (push_any hb mb pb S L n c y w h hlen hp hnew hS)
  have hm1 := met_push ⟨hb, 0, none⟩ w
  obtain ⟨k, hk⟩ : ∃ k, L.length = k := ⟨_, rfl⟩
  unfold pushL
  rw [hk]
  clear h hlen hp hnew hS
  go_enter Try.func28, Try.ntmps28
  go_wp2_with fail
  refine HP.out.mono ?_
  rintro e w1 ⟨rfl, h1, hg1⟩
  obtain ⟨rb, cap, ht, hr, hrb⟩ := h1.row (by simp)
  have hl1 : (L ++ [(⟨pb, n, c⟩ : Pr)]).length = k + 1 := by simp [hk]
  rw [hl1] at ht
  have hmax := hr.max
  have hle := hr.len
  have hm2 := met_len _ _ _ ht.cell
  have HT := Lib.hid ht
  have HR := Lib.hid hr
  have HG1 := Lib.hid hg1
  have H1 := Lib.hid h1
  have HB := Lib.hid hrb
  have HL := Lib.hid hl1
  have e1 : ((k + 1 : Nat) : Int) - 1 = (k : Int) := by omega
  have e2 : (k : Int) ≤ 9223372036854775806 := by omega
  clear ht hr hg1 h1 hrb hm1 hl1 hle hmax hk
  go_wp2_with fail
  refine (len_any _ _ _ _).mono ?_
  rintro e w2 ⟨rfl, rfl⟩
  go_wp2_with fail
  refine (up_any hb mb rb cap (k + 1) k _ w1 HT.out HR.out HL.out (by omega)).mono ?_
  rintro e w2 ⟨rfl, hr2, ht2⟩
  have HR2 := Lib.hid hr2
  have HT2 := Lib.hid ht2
  clear hr2 ht2 hm2
  go_wp2_with fail
  go_end0
  have := H1.out.touch_row HT.out HR.out HB.out (by rw [upL_length]; exact HL.out) HR2.out HT2.out (fun p hp => upL_mem _ _ _ p hp)
  exact ⟨rfl, this.1, HG1.out.trans this.2⟩
set_option maxHeartbeats 1000000 in
set_option maxRecDepth 100000 in
theorem fix_any (hb mb i : Nat) (S : Nat → Prop) (L : List Pr) (w : World) (h : HG w hb mb S L) (hlen : L.length ≤ 100000) (hi : i < L.length) :
    Calls Try.prog 27 #[.iface 60 (.pointer (some ⟨hb, 0, none⟩)), .int .i64 (i : Int)] w fun e w' => e = .returned (.tuple #[]) ∧ HG w' hb mb S (fixL L i) ∧ Grow S w w' := by
  obtain ⟨rb, cap, ht, hr, hrb⟩ := h.row (by rintro rfl; simp at hi)
  obtain ⟨k, hk⟩ : ∃ k, L.length = k := ⟨_, rfl⟩
  have hm2 := met_len _ _ _ ht.cell
  have HT := Lib.hid ht
  have HR := Lib.hid hr
  have H1 := Lib.hid h
  have HB := Lib.hid hrb
  have HL := Lib.hid hk
  have HI := Lib.hid hi
  have HN := Lib.hid hlen
  have hd : (fixL L i) = if i < (downL k L i k).2 then (downL k L i k).1 else upL i (downL k L i k).1 i := by unfold fixL; rw [hk]
  have HD := Lib.hid (down_any hb mb rb cap k k i L w (by rw [← hk]; exact ht) hr hk (by omega) (Nat.le_refl _) (by omega))
  have hl1 : (downL k L i k).1.length = k := by rw [downL_length]; exact hk
  have hm1 : ∀ p ∈ (downL k L i k).1, p ∈ L := fun p hp => downL_mem _ _ _ _ p hp
  obtain ⟨L1, j, hdl⟩ : ∃ L1 j, downL k L i k = (L1, j) := ⟨_, _, rfl⟩
  rw [hdl] at hd HD hl1 hm1
  have HM := Lib.hid hm1
  have HL1 := Lib.hid hl1
  rw [hk] at hm2
  rw [hd]
  clear ht hr h hrb hk hi hlen hd hdl hm1 hl1
  go_enter Try.func27, Try.ntmps27
  go_wp2_with fail
  refine (len_any _ _ _ _).mono ?_
  rintro e w2 ⟨rfl, rfl⟩
  go_wp2_with fail
  refine HD.out.mono ?_
  rintro e w1 ⟨rfl, hr1, ht1⟩
  have HX := Lib.hid (H1.out.touch_row (n := k) (by have := HT.out; rw [HL.out] at this; exact this) HR.out HB.out HL1.out hr1 ht1 HM.out)
  have HR1 := Lib.hid hr1
  have HT1 := Lib.hid (show HTop w1 hb mb rb k cap by have := HT.out.touch HR.out ht1; rw [HL.out] at this; exact this)
  clear hr1 ht1 hm2
  by_cases hij : i < j
  · have hd : decide (i < j) = true := decide_eq_true hij
    rw [hd]
    simp only [hij, if_true]
    go_wp2_with fail
    go_end0
    exact ⟨rfl, HX.out⟩
  · have hd : decide (i < j) = false := decide_eq_false hij
    rw [hd]
    simp only [hij, if_false]
    go_wp2_with fail
    refine (up_any hb mb rb cap k i L1 w1 HT1.out HR1.out HL1.out (by rw [← HL.out]; exact HI.out)).mono ?_
    rintro e w2 ⟨rfl, hr2, ht2⟩
    have HY := Lib.hid (HX.out.1.touch_row HT1.out HR1.out HB.out (by rw [upL_length]; exact HL1.out) hr2 ht2 (fun p hp => upL_mem _ _ _ p hp))
    clear hr2 ht2
    go_wp2_with fail
    go_end0
    exact ⟨rfl, HY.out.1, HX.out.2.trans' HY.out.2⟩
end Go.Proofs.Ytcmmmmpdehfefaa
