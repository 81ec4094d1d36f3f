/-
  container/heap's Remove (chapter 15).
-/
import Derived.Test.YtcmmmmpdehfefaaHOps
namespace Go.Proofs.Ytcmmmmpdehfefaa
set_option linter.unusedVariables false
set_option linter.unusedSimpArgs false
open Go.RowKit
/-- a heap of m + 1, with the one at i brought to the end -/
def bringL (m : Nat) (L : List Pr) (i : Nat) : List Pr :=
  if m = i then L else match L[i]?, L[m]? with
    | some p, some q => let r := downL m (swapL L i m p q) i m; if i < r.2 then r.1 else upL i r.1 i
    | _, _ => L
theorem swapL_mem {L : List Pr} {i j : Nat} {p q : Pr} (hi : L[i]? = some p) (hj : L[j]? = some q) : ∀ x ∈ swapL L i j p q, x ∈ L := by
  intro x hx
  unfold swapL at hx
  rcases List.mem_or_eq_of_mem_set hx with hr | rfl
  · rcases List.mem_or_eq_of_mem_set hr with hr | rfl
    · exact hr
    · exact List.mem_of_getElem? hj
  · exact List.mem_of_getElem? hi
set_option maxHeartbeats 1000000 in
set_option maxRecDepth 100000 in
theorem remove_any (hb mb i m : Nat) (S : Nat → Prop) (L M : List Pr) (x : Pr) (w : World) (h : HG w hb mb S L) (hlen : L.length ≤ 100000) (hm : L.length = m + 1) (hi : i ≤ m) (hx : bringL m L i = M ++ [x]) :
    Calls Try.prog 32 #[.iface 60 (.pointer (some ⟨hb, 0, none⟩)), .int .i64 (i : Int)] w fun e w' => e = .returned (.iface 55 x.val) ∧ HG w' hb mb S M ∧ Grow S w w' ∧ w'.heap[x.pb]? = some (.cells (x.cells M.length) 58 (0, 0)) := by
  obtain ⟨rb, cap, ht, hr, hrb⟩ := h.row (by rintro rfl; simp at hm)
  rw [hm] at ht
  have hm2 := met_len _ _ _ ht.cell
  have hmP := met_pop ⟨hb, 0, none⟩
  have e1 : ((m + 1 : Nat) : Int) - 1 = (m : Int) := by omega
  have e2 : (m : Int) ≤ 9223372036854775806 := by omega
  have hsub : ∀ k, k = hb → S k := by rintro k rfl; exact h.hbS
  have HSU := Lib.hid hsub
  by_cases him : m = i
  · subst him
    have hL : L = M ++ [x] := by unfold bringL at hx; rw [if_pos rfl] at hx; exact hx
    have HP := Lib.hid (pop_any hb mb S M x w (hL ▸ h))
    have hm3 := hmP w
    clear h ht hr hrb hx hlen hm hL hsub hmP hi
    go_enter Try.func32, Try.ntmps32
    go_wp2_with fail
    refine (len_any _ _ _ _).mono ?_
    rintro e w2 ⟨rfl, rfl⟩
    go_wp2_with fail
    refine HP.out.mono ?_
    rintro e w1 ⟨rfl, h1, hg1, hq1⟩
    have HX := Lib.hid h1
    have HY := Lib.hid hg1
    have HQ := Lib.hid hq1
    clear h1 hg1 hq1 hm3
    go_wp2_with fail
    go_ret
    exact ⟨rfl, HX.out, HY.out.grow.mono fun k _ hk => HSU.out k hk, HQ.out⟩
  · have him' : (m == i) = false := by rw [beq_eq_false_iff_ne]; exact him
    have him'' : ((m : Int) == (i : Int)) = false := by rw [beq_eq_false_iff_ne]; omega
    obtain ⟨p, hp⟩ : ∃ p, L[i]? = some p := ⟨L[i]'(by omega), List.getElem?_eq_getElem _⟩
    obtain ⟨q, hq⟩ : ∃ q, L[m]? = some q := ⟨L[m]'(by omega), List.getElem?_eq_getElem _⟩
    have HSW := Lib.hid (swap_any rb cap i m (m + 1) L p q w hr hm hp hq (Ne.symm him))
    have hms := met_swap _ _ _ ht.cell
    have HL1 := Lib.hid (show (swapL L i m p q).length = m + 1 by rw [swapL_length]; exact hm)
    have HM1 := Lib.hid (swapL_mem hp hq)
    unfold bringL at hx
    rw [if_neg him, hp, hq] at hx
    dsimp only at hx
    generalize swapL L i m p q = L1 at hx HSW HL1 HM1
    have HL2 := Lib.hid (show (downL m L1 i m).1.length = m + 1 by rw [downL_length]; exact HL1.out)
    have HM2 := Lib.hid (fun x => downL_mem m L1 i m x)
    have HDN := Lib.hid (fun w => down_any hb mb rb cap (m + 1) m i L1 w)
    obtain ⟨L2, j, hdl⟩ : ∃ L2 j, downL m L1 i m = (L2, j) := ⟨_, _, rfl⟩
    rw [hdl] at hx HL2 HM2 HDN
    dsimp only at hx HL2 HM2 HDN
    have HT := Lib.hid ht
    have HR := Lib.hid hr
    have H1 := Lib.hid h
    have HB := Lib.hid hrb
    have HXX := Lib.hid hx
    have HIM := Lib.hid (show i < m by omega)
    have HN := Lib.hid (show m + 1 ≤ 1000000 by omega)
    have HPP := Lib.hid hmP
    clear h ht hr hrb hx hlen hm hsub hmP hi him hp hq hdl
    go_enter Try.func32, Try.ntmps32
    go_wp2_with fail
    refine (len_any _ _ _ _).mono ?_
    rintro e w2 ⟨rfl, rfl⟩
    go_wp2_with fail
    refine HSW.out.mono ?_
    rintro e w1 ⟨rfl, hr1, ht1⟩
    have HT1 := Lib.hid (HT.out.touch HR.out ht1)
    have HG1 := Lib.hid (H1.out.touch_row HT.out HR.out HB.out HL1.out hr1 ht1 HM1.out)
    have HD := Lib.hid (HDN.out w1 HT1.out hr1 HL1.out (by have := HIM.out; omega) (Nat.le_succ _) HN.out)
    have HR1 := Lib.hid hr1
    clear hr1 ht1 hm2 hms
    go_wp2_with fail
    refine HD.out.mono ?_
    rintro e w2 ⟨rfl, hr2, ht2⟩
    have HT2 := Lib.hid (HT1.out.touch HR1.out ht2)
    have HG2 := Lib.hid (HG1.out.1.touch_row HT1.out HR1.out HB.out HL2.out hr2 ht2 HM2.out)
    have HR2 := Lib.hid hr2
    clear hr2 ht2
    by_cases hij : i < j
    · have hd : decide (i < j) = true := decide_eq_true hij
      rw [hd]
      have hL : L2 = M ++ [x] := by have := HXX.out; rw [if_pos hij] at this; exact this
      have HP := Lib.hid (pop_any hb mb S M x w2 (hL ▸ HG2.out.1))
      have hm3 := HPP.out w2
      clear hL hij
      go_wp2_with fail
      refine HP.out.mono ?_
      rintro e w3 ⟨rfl, h1, hg1, hq1⟩
      have HX := Lib.hid h1
      have HY := Lib.hid hg1
      have HQ := Lib.hid hq1
      clear h1 hg1 hq1 hm3
      go_wp2_with fail
      go_ret
      exact ⟨rfl, HX.out, (HG1.out.2.trans' HG2.out.2).trans' (HY.out.grow.mono fun k _ hk => HSU.out k hk), HQ.out⟩
    · have hd : decide (i < j) = false := decide_eq_false hij
      rw [hd]
      have hL : upL i L2 i = M ++ [x] := by have := HXX.out; rw [if_neg hij] at this; exact this
      have HLL := Lib.hid hL
      clear hL hij
      go_wp2_with fail
      refine (up_any hb mb rb cap (m + 1) i L2 w2 HT2.out HR2.out HL2.out (by have := HIM.out; omega)).mono ?_
      rintro e w3 ⟨rfl, hr3, ht3⟩
      have HG3 := Lib.hid (HG2.out.1.touch_row HT2.out HR2.out HB.out (by rw [upL_length]; exact HL2.out) hr3 ht3 (fun p hp => upL_mem _ _ _ p hp))
      have HP := Lib.hid (pop_any hb mb S M x w3 (HLL.out ▸ HG3.out.1))
      have hm3 := HPP.out w3
      clear hr3 ht3
      go_wp2_with fail
      refine HP.out.mono ?_
      rintro e w4 ⟨rfl, h1, hg1, hq1⟩
      have HX := Lib.hid h1
      have HY := Lib.hid hg1
      have HQ := Lib.hid hq1
      clear h1 hg1 hq1 hm3
      go_wp2_with fail
      go_ret
      exact ⟨rfl, HX.out, ((HG1.out.2.trans' HG2.out.2).trans' HG3.out.2).trans' (HY.out.grow.mono fun k _ hk => HSU.out k hk), HQ.out⟩
end Go.Proofs.Ytcmmmmpdehfefaa
