/-
  Parts of a proof, put together: Qc, Qd, Qe.
-/
import Derived.Test.YtgpdknacnmapiaaZi01
import Derived.Test.YtgpdknacnmapiaaZi02
import Derived.Test.YtgpdknacnmapiaaZi03
import Derived.Test.YtgpdknacnmapiaaZi04
import Derived.Test.YtgpdknacnmapiaaZi05
import Derived.Test.YtgpdknacnmapiaaZi06
import Derived.Test.YtgpdknacnmapiaaZi07
import Derived.Test.YtgpdknacnmapiaaZi08
import Derived.Test.YtgpdknacnmapiaaZi09
import Derived.Test.YtgpdknacnmapiaaZi10
import Derived.Test.YtgpdknacnmapiaaZi11
import Derived.Test.YtgpdknacnmapiaaZi12
import Derived.Test.YtgpdknacnmapiaaZi13
import Derived.Test.YtgpdknacnmapiaaZi14
import Derived.Test.YtgpdknacnmapiaaZi15
import Derived.Test.YtgpdknacnmapiaaZi16
import Derived.Test.YtgpdknacnmapiaaZi17
import Derived.Test.YtgpdknacnmapiaaZi18
import Derived.Test.YtgpdknacnmapiaaZi19
import Derived.Test.YtgpdknacnmapiaaZi20
import Derived.Test.YtgpdknacnmapiaaZi21
import Derived.Test.YtgpdknacnmapiaaZi22
import Derived.Test.YtgpdknacnmapiaaZi23
import Derived.Test.YtgpdknacnmapiaaZi24
import Derived.Test.YtgpdknacnmapiaaZi25
import Derived.Test.YtgpdknacnmapiaaZi26
import Derived.Test.YtgpdknacnmapiaaZi27
import Derived.Test.YtgpdknacnmapiaaZi28
import Derived.Test.YtgpdknacnmapiaaZi29
import Derived.Test.YtgpdknacnmapiaaZi30
import Derived.Test.YtgpdknacnmapiaaZi31
import Derived.Test.YtgpdknacnmapiaaZi32
import Derived.Test.YtgpdknacnmapiaaZi33
import Derived.Deep.Fields
import Derived.OpenShut
import Derived.ChangeArms
import Derived.Deep.QuietTactic
namespace Go.Proofs.Ytgpdknacnmapiaa
set_option linter.unusedVariables false
set_option linter.unusedSimpArgs false
/-- a handle of a client's slot, live -/
def Has (m c : Nat) (l : List Int) (h : Int) (nd : Bool) : Prop := ∃ (g : Int) (s : Nat), h = g * 256 + s ∧ 1 ≤ g ∧ g ≤ 1023 ∧ c * m ≤ s ∧ s < c * m + m ∧ l.getD (gk nd s) 0 = g * 2 + 1
def nd0 (nd : Bool) : Int := if nd then 0 else 1
def StOK (m c : Nat) (σ : P4) : S4 → Prop
  | .al0 nd => σ.dd c = nd0 nd
  | .al1 nd i x => σ.dd c = nd0 nd ∧ i < m ∧ (x % 2 = 1 → i + 1 < m) ∧ x = σ.l.getD (gk nd (c * m + i)) 0
  | .fr0 h nd => σ.dd c = 2 ∧ Has m c σ.l h nd ∧ ∀ (k : Nat) (h' : Int), (σ.hs c)[k]? = some h' → (σ.ns c)[k]? = some nd → h' % 256 ≠ h % 256
structure J4 (N m : Nat) (σ : P4) : Prop where
  len : σ.l.length = 771
  gen : GenOK σ.l
  hn : ∀ c, c < 4 → (σ.ns c).length = (σ.hs c).length
  le : ∀ c, c < 4 → (σ.hs c).length ≤ N
  hd : ∀ c, c < 4 → ∀ (k : Nat) (h : Int) (nd : Bool), (σ.hs c)[k]? = some h → (σ.ns c)[k]? = some nd → Has m c σ.l h nd
  un : ∀ c, c < 4 → ∀ (j k : Nat) (h h' : Int) (nd : Bool), j < k → (σ.hs c)[j]? = some h → (σ.hs c)[k]? = some h' → (σ.ns c)[j]? = some nd → (σ.ns c)[k]? = some nd → h % 256 ≠ h' % 256
  st : ∀ c, c < 4 → ∀ st, σ.os c = some st → StOK m c σ st
theorem rng_eq {c c' m s : Nat} (hm : 1 ≤ m ∧ m ≤ 4) (h1 : c * m ≤ s) (h2 : s < c * m + m) (h3 : c' * m ≤ s) (h4 : s < c' * m + m) : c = c' := by
  have : m = 1 ∨ m = 2 ∨ m = 3 ∨ m = 4 := by omega
  rcases this with rfl | rfl | rfl | rfl <;> omega
theorem rng_16 {c m s : Nat} (hc : c < 4) (hm : 1 ≤ m ∧ m ≤ 4) (h2 : s < c * m + m) : s < 16 := by
  have := cm_lt hc hm; omega
theorem aft_1 (x : Int) (hx : 0 ≤ x) : 1 ≤ aft x ∧ aft x ≤ 1023 := by unfold aft; split <;> omega
theorem getD_set4 (l : List Int) (k i : Nat) (v : Int) (hk : k < l.length) : (l.set k v).getD i 0 = if k = i then v else l.getD i 0 := by
  rw [List.getD_eq_getElem?_getD, List.getElem?_set]
  by_cases e : k = i
  · subst e; rw [if_pos rfl, if_pos hk, if_pos rfl]; rfl
  · rw [if_neg e, if_neg e, List.getD_eq_getElem?_getD]
/-- a cell is stored that is not the handle's -/
theorem Has.set {m c : Nat} {l : List Int} {h : Int} {nd : Bool} (hh : Has m c l h nd) (hc : c < 4) (hm : 1 ≤ m ∧ m ≤ 4) (hl : l.length = 771) (nd' : Bool) (s' : Nat) (v : Int) (hs' : s' < 16) (hne : nd = nd' → h % 256 ≠ (s' : Int)) : Has m c (l.set (gk nd' s') v) h nd := by
  obtain ⟨g, s, e, h1, h2, h3, h4, h5⟩ := hh
  refine ⟨g, s, e, h1, h2, h3, h4, ?_⟩
  have h16 := rng_16 hc hm h4
  have := gk_lt nd' s' hs'
  rw [getD_set4 _ _ _ _ (by omega), if_neg]
  · exact h5
  · intro e2
    obtain ⟨e3, e4⟩ := gk_inj hs' h16 e2
    exact hne e3.symm (by omega)
theorem Has.mod {m c : Nat} {l : List Int} {h : Int} {nd : Bool} (hh : Has m c l h nd) (hc : c < 4) (hm : 1 ≤ m ∧ m ≤ 4) : ∃ s : Nat, h % 256 = s ∧ c * m ≤ s ∧ s < c * m + m ∧ s < 16 ∧ l.getD (gk nd s) 0 = h / 256 * 2 + 1 := by
  obtain ⟨g, s, rfl, h1, h2, h3, h4, h5⟩ := hh
  have h16 := rng_16 hc hm h4
  exact ⟨s, by omega, h3, h4, h16, by rw [h5]; omega⟩
section
variable {N m : Nat} {σ : P4}
theorem J4.ok (h : J4 N m σ) (hm : 1 ≤ m ∧ m ≤ 4) (hN : N ≤ 1000) : OK4 σ := by
  refine ⟨h.len, h.gen, h.hn, fun c hc => Nat.le_trans (h.le c hc) hN, fun c hc x hx => ?_⟩
  obtain ⟨k, hk⟩ := List.getElem?_of_mem hx
  have hlt := (List.getElem?_eq_some_iff.1 hk).1
  obtain ⟨g, s, e, h1, h2, h3, h4, h5⟩ := h.hd c hc k x _ hk (List.getElem?_eq_getElem (by rw [h.hn c hc]; exact hlt))
  exact ⟨g, s, e, h1, h2, rng_16 hc hm h4⟩
theorem J4.mono (h : J4 N m σ) {M : Nat} (hM : N ≤ M) : J4 M m σ := ⟨h.len, h.gen, h.hn, fun c hc => Nat.le_trans (h.le c hc) hM, h.hd, h.un, h.st⟩
/-- another state of one client, the cells as they were -/
theorem J4.move (h : J4 N m σ) (c : Nat) (o : Option S4) (hst : ∀ st, o = some st → StOK m c σ st) : J4 N m { σ with os := upd σ.os c o } := by
  refine ⟨h.len, h.gen, h.hn, h.le, h.hd, h.un, fun d hd st e => ?_⟩
  by_cases ed : d = c
  · subst ed
    have e2 : o = some st := by rw [← e]; exact (upd_same _ _ _).symm
    have := hst st e2
    cases st <;> exact this
  · have e2 : σ.os d = some st := by rw [← e]; exact (upd_ne _ _ _ ed).symm
    have := h.st d hd st e2
    cases st <;> exact this
/-- a client begins -/
theorem J4.allot (h : J4 N m σ) (c : Nat) (nd : Bool) : J4 N m { σ with os := upd σ.os c (some (.al0 nd)), dd := upd σ.dd c (nd0 nd) } := by
  refine ⟨h.len, h.gen, h.hn, h.le, h.hd, h.un, fun d hd st e => ?_⟩
  by_cases ed : d = c
  · subst ed
    have e2 : (some (S4.al0 nd) : Option S4) = some st := by rw [← e]; exact (upd_same _ _ _).symm
    injection e2 with e2
    subst e2
    show upd σ.dd d (nd0 nd) d = nd0 nd
    exact upd_same _ _ _
  · have e2 : σ.os d = some st := by rw [← e]; exact (upd_ne _ _ _ ed).symm
    have := h.st d hd st e2
    have ed2 : upd σ.dd c (nd0 nd) d = σ.dd d := upd_ne _ _ _ ed
    cases st with
    | al0 n => exact ed2.trans this
    | al1 n i x => exact ⟨ed2.trans this.1, this.2⟩
    | fr0 hh n => exact ⟨ed2.trans this.1, this.2⟩
theorem erase_get {α : Type} (l : List α) (k j : Nat) : (l.eraseIdx k)[j]? = if j < k then l[j]? else l[j + 1]? := List.getElem?_eraseIdx
theorem J4.free (h : J4 N m σ) (c : Nat) (hc : c < 4) (k : Nat) (hdl : Int) (nd : Bool) (hk : (σ.hs c)[k]? = some hdl) (hkn : (σ.ns c)[k]? = some nd) : J4 N m { σ with os := upd σ.os c (some (.fr0 hdl nd)), hs := upd σ.hs c ((σ.hs c).eraseIdx k), ns := upd σ.ns c ((σ.ns c).eraseIdx k), dd := upd σ.dd c 2 } := by
  have hkl := (List.getElem?_eq_some_iff.1 hk).1
  have hnl := h.hn c hc
  have idx : ∀ j, ∃ j', (j' = j ∧ j < k ∨ j' = j + 1 ∧ k ≤ j) ∧ ((σ.hs c).eraseIdx k)[j]? = (σ.hs c)[j']? ∧ ((σ.ns c).eraseIdx k)[j]? = (σ.ns c)[j']? := fun j => by
    by_cases e : j < k
    · exact ⟨j, .inl ⟨rfl, e⟩, by rw [erase_get, if_pos e], by rw [erase_get, if_pos e]⟩
    · exact ⟨j + 1, .inr ⟨rfl, by omega⟩, by rw [erase_get, if_neg e], by rw [erase_get, if_neg e]⟩
  have dif : ∀ j h', ((σ.hs c).eraseIdx k)[j]? = some h' → ((σ.ns c).eraseIdx k)[j]? = some nd → h' % 256 ≠ hdl % 256 := fun j h' e1 e2 => by
    obtain ⟨j', hj, f1, f2⟩ := idx j
    rw [f1] at e1
    rw [f2] at e2
    rcases Nat.lt_trichotomy j' k with hl | hl | hl
    · exact h.un c hc j' k h' hdl nd hl e1 hk e2 hkn
    · omega
    · exact fun e => h.un c hc k j' hdl h' nd hl hk e1 hkn e2 e.symm
  refine ⟨h.len, h.gen, fun d hd => ?_, fun d hd => ?_, fun d hd j x n e1 e2 => ?_, fun d hd i j x x' n hij e1 e2 e3 e4 => ?_, fun d hd st e => ?_⟩
  · dsimp only
    by_cases ed : d = c
    · subst ed; rw [upd_same, upd_same, List.length_eraseIdx, List.length_eraseIdx, hnl]
    · rw [upd_ne _ _ _ ed, upd_ne _ _ _ ed]; exact h.hn d hd
  · dsimp only
    by_cases ed : d = c
    · subst ed; rw [upd_same, List.length_eraseIdx]; have := h.le d hd; split <;> omega
    · rw [upd_ne _ _ _ ed]; exact h.le d hd
  · dsimp only at e1 e2 ⊢
    by_cases ed : d = c
    · subst ed; rw [upd_same] at e1 e2
      obtain ⟨j', -, f1, f2⟩ := idx j
      exact h.hd d hd j' x n (f1 ▸ e1) (f2 ▸ e2)
    · rw [upd_ne _ _ _ ed] at e1 e2; exact h.hd d hd j x n e1 e2
  · dsimp only at e1 e2 e3 e4
    by_cases ed : d = c
    · subst ed; rw [upd_same] at e1 e2 e3 e4
      obtain ⟨i', hi, f1, f2⟩ := idx i
      obtain ⟨j', hj, f3, f4⟩ := idx j
      exact h.un d hd i' j' x x' n (by omega) (f1 ▸ e1) (f3 ▸ e2) (f2 ▸ e3) (f4 ▸ e4)
    · rw [upd_ne _ _ _ ed] at e1 e2 e3 e4; exact h.un d hd i j x x' n hij e1 e2 e3 e4
  · by_cases ed : d = c
    · subst ed
      have e2 : (some (S4.fr0 hdl nd) : Option S4) = some st := by rw [← e]; exact (upd_same _ _ _).symm
      injection e2 with e2
      subst e2
      refine ⟨upd_same _ _ _, h.hd d hd k hdl nd hk hkn, fun j h' g1 g2 => ?_⟩
      dsimp only at g1 g2
      rw [upd_same] at g1 g2
      exact dif j h' g1 g2
    · have e2 : σ.os d = some st := by rw [← e]; exact (upd_ne _ _ _ ed).symm
      have := h.st d hd st e2
      have ed2 : upd σ.dd c 2 d = σ.dd d := upd_ne _ _ _ ed
      cases st with
      | al0 n => exact ed2.trans this
      | al1 n i x => exact ⟨ed2.trans this.1, this.2⟩
      | fr0 hh n =>
        refine ⟨ed2.trans this.1, this.2.1, fun j h' g1 g2 => ?_⟩
        dsimp only at g1 g2
        rw [upd_ne _ _ _ ed] at g1 g2
        exact this.2.2 j h' g1 g2
/-- one of a client's own cells is stored, which none of its handles means -/
theorem J4.store (h : J4 N m σ) (hm : 1 ≤ m ∧ m ≤ 4) (c : Nat) (hc : c < 4) (nd : Bool) (s : Nat) (h1 : c * m ≤ s) (h2 : s < c * m + m) (v : Int) (hv : 0 ≤ v ∧ v ≤ 4095) (hne : ∀ (k : Nat) (x : Int), (σ.hs c)[k]? = some x → (σ.ns c)[k]? = some nd → x % 256 ≠ (s : Int)) : J4 N m { σ with l := σ.l.set (gk nd s) v, os := upd σ.os c none } := by
  have h16 := rng_16 hc hm h2
  have hgk := gk_lt nd s h16
  have far : ∀ d, d < 4 → d ≠ c → ∀ x n, Has m d σ.l x n → Has m d (σ.l.set (gk nd s) v) x n := fun d hd hdc x n hh => by
    obtain ⟨t, e1, e2, e3, e4, -⟩ := hh.mod hd hm
    exact hh.set hd hm h.len nd s v h16 (fun _ e => hdc (rng_eq hm e2 e3 (by omega) (by omega)))
  refine ⟨by simp [h.len], h.gen.set _ _ hv, h.hn, h.le, fun d hd k x n e1 e2 => ?_, h.un, fun d hd st e => ?_⟩
  · have hh := h.hd d hd k x n e1 e2
    by_cases ed : d = c
    · subst ed; exact hh.set hd hm h.len nd s v h16 (fun en => hne k x e1 (en ▸ e2))
    · exact far d hd ed x n hh
  · by_cases ed : d = c
    · subst ed
      have e2 : (none : Option S4) = some st := by rw [← e]; exact (upd_same _ _ _).symm
      cases e2
    · have e2 : σ.os d = some st := by rw [← e]; exact (upd_ne _ _ _ ed).symm
      have hs := h.st d hd st e2
      cases st with
      | al0 n => exact hs
      | al1 n i x =>
        refine ⟨hs.1, hs.2.1, hs.2.2.1, ?_⟩
        have hi := hs.2.1
        have h16' : d * m + i < 16 := by have := cm_lt hd hm; omega
        rw [hs.2.2.2]
        show _ = (σ.l.set (gk nd s) v).getD (gk n (d * m + i)) 0
        rw [getD_set4 _ _ _ _ (by rw [h.len]; exact hgk), if_neg]
        intro e3
        obtain ⟨-, e4⟩ := gk_inj h16 h16' e3
        exact ed (rng_eq hm (s := s) (by omega) (by omega) h1 h2)
      | fr0 hh n => exact ⟨hs.1, far d hd ed _ _ hs.2.1, hs.2.2⟩
/-- a client has one more -/
theorem J4.more (h : J4 N m σ) (hm : 1 ≤ m ∧ m ≤ 4) (c : Nat) (hc : c < 4) (hdl : Int) (nd : Bool) (hh : Has m c σ.l hdl nd) (ho : σ.os c = none) (hne : ∀ (k : Nat) (x : Int), (σ.hs c)[k]? = some x → (σ.ns c)[k]? = some nd → x % 256 ≠ hdl % 256) : J4 (N + 1) m { σ with hs := upd σ.hs c (σ.hs c ++ [hdl]), ns := upd σ.ns c (σ.ns c ++ [nd]) } := by
  have hnl := h.hn c hc
  have app : ∀ (k : Nat) (x : Int) (n : Bool), (σ.hs c ++ [hdl])[k]? = some x → (σ.ns c ++ [nd])[k]? = some n → ((σ.hs c)[k]? = some x ∧ (σ.ns c)[k]? = some n ∧ k < (σ.hs c).length) ∨ (k = (σ.hs c).length ∧ x = hdl ∧ n = nd) := fun k x n e1 e2 => by
    rcases Nat.lt_trichotomy k (σ.hs c).length with hl | hl | hl
    · rw [List.getElem?_append_left hl] at e1
      rw [List.getElem?_append_left (by omega)] at e2
      exact .inl ⟨e1, e2, hl⟩
    · subst hl
      rw [List.getElem?_append_right (Nat.le_refl _)] at e1
      rw [List.getElem?_append_right (by omega), hnl] at e2
      simp at e1 e2
      exact .inr ⟨rfl, e1.symm, e2.symm⟩
    · rw [List.getElem?_eq_none (by simp; omega)] at e1; cases e1
  refine ⟨h.len, h.gen, fun d hd => ?_, fun d hd => ?_, fun d hd k x n e1 e2 => ?_, fun d hd i j x x' n hij e1 e2 e3 e4 => ?_, fun d hd st e => ?_⟩
  · dsimp only
    by_cases ed : d = c
    · subst ed; rw [upd_same, upd_same]; simp [hnl]
    · rw [upd_ne _ _ _ ed, upd_ne _ _ _ ed]; exact h.hn d hd
  · dsimp only
    by_cases ed : d = c
    · subst ed; rw [upd_same]; have := h.le d hd; simp; omega
    · rw [upd_ne _ _ _ ed]; have := h.le d hd; omega
  · dsimp only at e1 e2 ⊢
    by_cases ed : d = c
    · subst ed; rw [upd_same] at e1 e2
      rcases app k x n e1 e2 with ⟨f1, f2, -⟩ | ⟨-, rfl, rfl⟩
      · exact h.hd d hd k x n f1 f2
      · exact hh
    · rw [upd_ne _ _ _ ed] at e1 e2; exact h.hd d hd k x n e1 e2
  · dsimp only at e1 e2 e3 e4
    by_cases ed : d = c
    · subst ed; rw [upd_same] at e1 e2 e3 e4
      rcases app i x n e1 e3 with ⟨f1, f2, f3⟩ | ⟨f1, -, -⟩
      · rcases app j x' n e2 e4 with ⟨g1, g2, -⟩ | ⟨-, rfl, rfl⟩
        · exact h.un d hd i j x x' n hij f1 g1 f2 g2
        · exact hne i x f1 f2
      · rcases app j x' n e2 e4 with ⟨-, -, g3⟩ | ⟨g3, -, -⟩ <;> omega
    · rw [upd_ne _ _ _ ed] at e1 e2 e3 e4; exact h.un d hd i j x x' n hij e1 e2 e3 e4
  · have e0 : σ.os d = some st := e
    have hs := h.st d hd st e0
    have ed : d ≠ c := fun ed => by subst ed; rw [ho] at e0; cases e0
    cases st with
    | al0 n => exact hs
    | al1 n i x => exact hs
    | fr0 y n =>
      refine ⟨hs.1, hs.2.1, fun k x g1 g2 => ?_⟩
      dsimp only at g1 g2
      rw [upd_ne _ _ _ ed] at g1 g2
      exact hs.2.2 k x g1 g2
/-- a pick -/
theorem J4.pick (h : J4 N m σ) (hm : 1 ≤ m ∧ m ≤ 4) (hN : N ≤ 900) (c : Nat) (hc : c < 4) (dO nN : Int) : J4 (N + 1) m (pk4 m c dO nN σ) := by
  have hmo := h.mono (Nat.le_succ N)
  have hcm := cm_lt hc hm
  unfold pk4
  cases ho : σ.os c with
  | none =>
    dsimp only
    split
    · exact hmo.allot c true
    · split
      · exact hmo.allot c false
      · split
        · next h2 =>
          have hpos : 1 ≤ (σ.hs c).length := by
            rcases Nat.eq_zero_or_pos (σ.hs c).length with h | h
            · exact absurd (List.eq_nil_of_length_eq_zero h) h2.2
            · exact h
          obtain ⟨-, hk⟩ := kOf_eq nN (σ.hs c).length ⟨hpos, by have := h.le c hc; omega⟩
          refine hmo.free c hc (kOf nN (σ.hs c).length) _ _ ?_ ?_
          · rw [List.getD_eq_getElem?_getD, List.getElem?_eq_getElem hk]; rfl
          · rw [List.getD_eq_getElem?_getD, List.getElem?_eq_getElem (by rw [h.hn c hc]; exact hk)]; rfl
        · exact hmo
  | some st =>
    have hst := h.st c hc st ho
    dsimp only
    cases st with
    | al0 nd =>
      simp only [aft4, l4]
      split
      · rename_i s' e
        split at e
        · cases e
        · injection e with e
          subst e
          rename_i hno
          exact hmo.move c _ (fun st e => by injection e with e; subst e; exact ⟨hst, by omega, fun hodd => by omega, by simp⟩)
      · rename_i la e
        split at e
        · injection e with e
          subst e
          rw [if_neg (fun hh => by have := hh.2; simp at this)]
          exact hmo.move c none (fun st e => by cases e)
        · cases e
    | al1 nd i x =>
      obtain ⟨h1, h2, h2o, h3⟩ := hst
      by_cases hx : x % 2 = 1
      · simp only [aft4, l4, if_pos hx]
        split
        · rename_i s' e
          split at e
          · cases e
          · rename_i hno
            injection e with e
            subst e
            refine hmo.move c _ (fun st e => ?_)
            injection e with e
            subst e
            have hi1 := h2o hx
            exact ⟨h1, hi1, fun hodd => by omega, rfl⟩
        · rename_i la e
          split at e
          · injection e with e
            subst e
            rw [if_neg (fun hh => by have := hh.2; simp at this)]
            exact hmo.move c none (fun st e => by cases e)
          · cases e
      · simp only [aft4, l4, if_neg hx]
        have h16 : c * m + i < 16 := by omega
        have hgk := gk_lt nd (c * m + i) h16
        have hx0 : 0 ≤ x ∧ x ≤ 4095 := by
          rw [h3, List.getD_eq_getElem?_getD, List.getElem?_eq_getElem (by rw [h.len]; exact hgk)]
          exact h.gen ((c * m + i : Nat) : Int) nd (gk nd (c * m + i)) _ (genC_gk nd _ h16) (List.getElem?_eq_getElem (by rw [h.len]; exact hgk))
        have ha := aft_1 (x / 2) (by omega)
        have hne : ∀ (k : Nat) (y : Int), (σ.hs c)[k]? = some y → (σ.ns c)[k]? = some nd → y % 256 ≠ ((c * m + i : Nat) : Int) := fun k y e1 e2 e3 => by
          obtain ⟨s, f1, f2, f3, f4, f5⟩ := (h.hd c hc k y nd e1 e2).mod hc hm
          have : s = c * m + i := by omega
          subst this
          rw [← h3] at f5
          omega
        have hs := h.store hm c hc nd (c * m + i) (by omega) (by omega) (aft (x / 2) * 2 + 1) ⟨by omega, by omega⟩ hne
        have hdd : σ.dd c < 2 ∧ (σ.dd c == 0) = nd := by rw [h1]; cases nd <;> simp [nd0]
        rw [if_pos ⟨hdd.1, rfl⟩, hdd.2]
        refine hs.more hm c hc _ nd ⟨aft (x / 2), c * m + i, rfl, ha.1, ha.2, by omega, by omega, ?_⟩ (upd_same _ _ _) (fun k y e1 e2 => ?_)
        · show (σ.l.set (gk nd (c * m + i)) _).getD _ 0 = _
          rw [getD_set4 _ _ _ _ (by rw [h.len]; exact hgk), if_pos rfl]
        · have := hne k y e1 e2
          show y % 256 ≠ (aft (x / 2) * 256 + ((c * m + i : Nat) : Int)) % 256
          omega
    | fr0 hh nd =>
      obtain ⟨h1, h2, h3⟩ := hst
      simp only [aft4, l4]
      rw [if_neg (fun hq => by have := hq.2; simp at this)]
      obtain ⟨g, s, rfl, g1, g2, g3, g4, g5⟩ := h2
      have e1 : (g * 256 + (s : Int)) % 256 = s := by have := rng_16 hc hm g4; omega
      have e2 : (g * 256 + (s : Int)) / 256 = g := by have := rng_16 hc hm g4; omega
      rw [e1, e2, Int.toNat_natCast]
      exact hmo.store hm c hc nd s g3 g4 (g * 2) ⟨by omega, by omega⟩ (fun k x f1 f2 => by have := h3 k x f1 f2; rwa [e1] at this)
end
end Go.Proofs.Ytgpdknacnmapiaa
namespace Go.Proofs.Ytgpdknacnmapiaa
set_option linter.unusedVariables false
set_option linter.unusedSimpArgs false
open Go.RowKit
open Go
section
variable {m R H B : Nat} {w : World} {σ : P4}
theorem PV.lt (h : PV m R H B w σ) : R < w.heap.size ∧ H < w.heap.size ∧ B ≤ w.heap.size ∧ R < B ∧ H < B ∧ R ≠ H := by
  obtain ⟨C, D, s, hv, hP, -⟩ := h
  have h1 := hP.run.hb.lt
  have h2 := hP.hb.lt
  have h3 := hP.lo
  have h4 := hP.ne
  omega
theorem PV.cells (h : PV m R H B w σ) : ∃ P cv, w.cell? ⟨R, 0, none⟩ = some cv ∧ CellsV P w cv σ.l := by
  obtain ⟨C, D, s, hv, hP, -⟩ := h
  exact ⟨_, _, hP.run.hb.cell (hP.run.ra.w 0 (by omega)), hP.run.cv⟩
theorem owns_read {w : World} {B n : Nat} {e : TypeId} {v : Value} {xs : List Value} (h : w.ownsRow B e 1 v n xs) : ∃ ao cap, v = .slice ao n cap ∧ n ≤ cap ∧ ∀ (k : Nat) (x : Value), xs[k]? = some x → ∃ g, ao = some ⟨g, 0, none⟩ ∧ w.cell? ⟨g, k, none⟩ = some x := by
  rcases h.2 with ⟨rfl, rfl⟩ | ⟨g, cap, cur, rfl, h1, h2, h3, h4⟩
  · refine ⟨none, 0, rfl, Nat.le_refl _, fun k x hx => ?_⟩
    have : xs = [] := List.eq_nil_of_length_eq_zero (by have := h.1; omega)
    subst this
    simp at hx
  · refine ⟨_, cap, rfl, h3, fun k x hx => ⟨g, rfl, ?_⟩⟩
    have := World.ownsRow.cells h (g := g) rfl k x hx
    rwa [Addr.add_lit, Nat.zero_add] at this
theorem PV.hs (h : PV m R H B w σ) (c : Nat) (hc : c < 4) : ∃ ao cap, w.cell? ⟨H, c * 5, none⟩ = some (.slice ao (σ.hs c).length cap) ∧ (σ.hs c).length ≤ cap ∧ ∀ (k : Nat) (x : Int), (σ.hs c)[k]? = some x → ∃ g, ao = some ⟨g, 0, none⟩ ∧ w.cell? ⟨g, k, none⟩ = some (.int .i64 x) := by
  obtain ⟨C, D, s, hv, hP, -⟩ := h
  obtain ⟨ao, cap, e, h1, h2⟩ := owns_read (hP.own.hl c hc)
  exact ⟨ao, cap, hP.hb.cell (by rw [hP.hav.hl c hc, e]), h1, fun k x hx => h2 k _ (by rw [List.getElem?_map, hx]; rfl)⟩
theorem PV.ns (h : PV m R H B w σ) (c : Nat) (hc : c < 4) : ∃ ao cap, w.cell? ⟨H, c * 5 + 1, none⟩ = some (.slice ao (σ.ns c).length cap) ∧ (σ.ns c).length ≤ cap ∧ ∀ (k : Nat) (x : Bool), (σ.ns c)[k]? = some x → ∃ g, ao = some ⟨g, 0, none⟩ ∧ w.cell? ⟨g, k, none⟩ = some (.bool x) := by
  obtain ⟨C, D, s, hv, hP, -⟩ := h
  obtain ⟨ao, cap, e, h1, h2⟩ := owns_read (hP.own.nl c hc)
  exact ⟨ao, cap, hP.hb.cell (by rw [hP.hav.nl c hc, e]), h1, fun k x hx => h2 k _ (by rw [List.getElem?_map, hx]; rfl)⟩
/-- nothing of a run's is touched -/
theorem PV.below (h : PV m R H B w σ) {w' : World} (hb : Below w.heap.size w w') : PV m R H B w' σ := by
  obtain ⟨C, D, s, hv, hP, hd, hc⟩ := h
  have hk : KeepP R H hv w w' := ⟨hb.os, hb.tape, hb.output, hb.size, fun b hlt _ => hb.block b hlt⟩
  refine ⟨C, D, s, hv, ⟨hP.run.oth (fun b _ hl => hb.block b hl), ?_, hP.hav, hP.own.keep (fun b _ hl => hb.block b hl), hP.ne, hP.lo⟩, hd, fun c h4 => (hc c h4).keep hk (fun b hb _ => hb) rfl rfl rfl⟩
  have := hP.hb
  unfold HB at this ⊢
  rw [hb.block H hP.hb.lt]; exact this
theorem KeepB.below {B0 : Nat} {w' : World} (h : KeepB R H B w w') (hB : B0 ≤ B) (hR : B0 ≤ R) (hH : B0 ≤ H) (hw : B0 ≤ w.heap.size) : Below B0 w w' :=
  ⟨h.os, h.tape, h.output, h.size, fun k hk => h.old k (by omega) (by omega) (by omega) (by omega)⟩
end
end Go.Proofs.Ytgpdknacnmapiaa
namespace Go.Proofs.Ytgpdknacnmapiaa
set_option linter.unusedVariables false
set_option linter.unusedSimpArgs false
open Go.RowKit Go.ChangeShapes Go.WideShapes Go.Deep
open Go
def σ0 : P4 := ⟨newL 160, fun _ => none, fun _ => 0, fun _ => [], fun _ => []⟩
set_option maxRecDepth 100000 in
theorem J4.start (m : Nat) : J4 0 m σ0 :=
  ⟨newL_len 160, genOK_new, fun _ _ => rfl, fun _ _ => Nat.le_refl _, fun c _ k h nd e => (by have e2 : ([] : List Int)[k]? = some h := e; simp at e2), fun c _ j k h h' nd _ e => (by have e2 : ([] : List Int)[j]? = some h := e; simp at e2), fun c _ st e => (by cases (show (none : Option S4) = some st from e))⟩
set_option maxRecDepth 100000 in
theorem pv_start {m R N : Nat} {w W W2 : World} {d1 d2 : Value} {cur : Array Value} (h1 : DiskV (fun b => b ≠ R ∧ b ≠ N) W d1) (h2 : DiskV (fun b => b ≠ R ∧ b ≠ N) W d2) (hc : curOK cur (newL 160)) (hM : Mem (fun _ => False) w W [(N, cur, 3), (R, run0 (.slice (some ⟨N, 0, none⟩) 771 771) d1 d2, 74)]) (hM2 : Mem (fun _ => False) W W2 [(W.heap.size, have0, 72)]) : PV m R W.heap.size (W.heap.size + 1) W2 σ0 := by
  have hR := hM.hb 1 _ _ _ rfl
  have hN := hM.hb 0 _ _ _ rfl
  have hne : N ≠ R := fun e => by have := hM.nd 0 1 N _ _ _ _ rfl (by rw [e]; rfl); omega
  have hRl := hR.lt
  have hNl := hN.lt
  have old : ∀ b, b < W.heap.size → W2.heap[b]? = W.heap[b]? := fun b hb => hM2.old b hb id
  have hP : ∀ b, b ≠ R → b < W.heap.size → PH R W.heap.size hv0 b := fun b hb hlt => ⟨hb, by omega, fun i _ e => (by cases (show (none : Option Nat) = some b from e))⟩
  refine ⟨run0 (.slice (some ⟨N, 0, none⟩) 771 771) d1 d2, have0, rs0 (.slice (some ⟨N, 0, none⟩) 771 771) d1 d2, hv0, ⟨⟨hR.oth (old R hRl), run0_ok _ _ _, ⟨N, 0, 771, rfl, hP N hne hNl, newL_len 160, fun i x hx => ?_, newL_fit 160⟩, ?_, ?_⟩, hM2.hb 0 _ _ _ rfl, have0_ok, ⟨fun c hc => World.ownsRow_nil _ _ _ _, fun c hc => World.ownsRow_nil _ _ _ _, fun i j b _ _ _ e => (by cases (show (none : Option Nat) = some b from e))⟩, by omega, by omega⟩, fun c _ => rfl, fun c _ => rfl⟩
  · rw [Nat.zero_add]; exact (hN.oth (old N hNl)).cell (hc i x hx)
  · exact (h1.weak (Q := PH R W.heap.size hv0) fun b hb hlt => hP b hb.1 hlt).keep fun b _ hlt => old b hlt
  · exact (h2.weak (Q := PH R W.heap.size hv0) fun b hb hlt => hP b hb.1 hlt).keep fun b _ hlt => old b hlt
/-- a pick: the client, what -/
structure Pk3 where
  c : Int
  d : Int
  n : Int
def SlR (w : World) (v : Value) (l : List Pk3) : Prop := ∃ ao cap, v = .slice ao l.length cap ∧ l.length ≤ cap ∧ cap ≤ maxLen ∧
  ∀ j x, l[j]? = some x → ∃ b off, ao = some ⟨b, off, none⟩ ∧ w.cell? ⟨b, off + j * 3, none⟩ = some (.int .i64 x.c) ∧ w.cell? ⟨b, off + j * 3 + 1, none⟩ = some (.int .i64 x.d) ∧ w.cell? ⟨b, off + j * 3 + 2, none⟩ = some (.int .i64 x.n)
theorem one_field3 {H : Type} {enc : TypeId × Value → H} {P : Program} {w : World} {base : Nat} {spare : Nat → Bool} {held : Bool} {t : TypeId} {k : IntKind} (ht : P.underlying t = some (.int k)) {c : Value} {n : Nat} {y : DataW H × List MemPlace}
    (h : DataW.trod enc P w base spare held n t [c] = some y) : ∃ x, c = .int k x := by
  obtain ⟨x, hc, _, hw⟩ := DataW.trod_int ht h
  simp at hc
  exact ⟨x, hc⟩
set_option maxRecDepth 100000 in
theorem open_pick3 {H : Type} {enc : TypeId × Value → H} {w : World} {base : Nat} {spare : Nat → Bool} {held : Bool} {fuel : Nat} {cs : List Value} {y : DataW H × List MemPlace}
    (h : DataW.trod enc Try.prog w base spare held fuel 69 cs = some y) : ∃ x : Pk3, cs = [.int .i64 x.c, .int .i64 x.d, .int .i64 x.n] := by
  have hs := Try.underlying69
  have hone : oneCellFields Try.prog (match Try.prog.underlying 69 with | some (.struct fs) => fs | _ => #[]) = true := by kernel_rfl
  rw [hs] at hone
  obtain ⟨xs, n, _, hx, hcl, hlen, hg⟩ := DataW.trod_struct hs h
  match cs, hcl.trans (show Try.prog.cellsOf 69 = 3 by kernel_rfl) with
  | [c0, c1, c2], _ =>
    match xs, hlen with
    | [y0, y1, y2], _ =>
      have h0 := hg 0 _ rfl
      have h1 := hg 1 _ rfl
      have h2 := hg 2 _ rfl
      rw [(hone_of hone 0 _ rfl).1, (hone_of hone 0 _ rfl).2] at h0
      rw [(hone_of hone 1 _ rfl).1, (hone_of hone 1 _ rfl).2] at h1
      rw [(hone_of hone 2 _ rfl).1, (hone_of hone 2 _ rfl).2] at h2
      obtain ⟨x0, rfl⟩ := one_field3 (c := c0) Try.underlying3 (by simpa [Value.cells] using h0)
      obtain ⟨x1, rfl⟩ := one_field3 (c := c1) Try.underlying3 (by simpa [Value.cells] using h1)
      obtain ⟨x2, rfl⟩ := one_field3 (c := c2) Try.underlying3 (by simpa [Value.cells] using h2)
      exact ⟨⟨x0, x1, x2⟩, rfl⟩
theorem cellsq3 {w : World} {base : Nat} {a : Addr} {v0 v1 v2 : Value} (h : w.cells? base a 3 = some [v0, v1, v2]) : ∃ b off, a = ⟨b, off, none⟩ ∧ w.cell? ⟨b, off, none⟩ = some v0 ∧ w.cell? ⟨b, off + 1, none⟩ = some v1 ∧ w.cell? ⟨b, off + 2, none⟩ = some v2 := by
  obtain ⟨_, hl, hc⟩ := World.cells?_some h
  have h0 := hc 0 (by omega)
  have h1 := hc 1 (by omega)
  have h2 := hc 2 (by omega)
  obtain ⟨b, off, spot⟩ := a
  have hspot : spot = none := by simpa [Addr.add] using World.cell?_spot h0
  subst hspot
  rw [Addr.add_lit] at h0 h1 h2
  exact ⟨b, off, rfl, h0, h1, h2⟩
set_option maxRecDepth 100000 in
theorem open_picks3 {H : Type} {enc : TypeId × Value → H} {w : World} {base : Nat} {spare : Nat → Bool} {held : Bool} {rr : Reach} {b0 : Nat} {v : Value} {d : DataW H} {p : List MemPlace}
    (hv : Value.okWide Try.prog w rr b0 64 v) (h : DataW.Trod enc Try.prog w base spare held 64 v d p) : ∃ q : Value × List Pk3, v = q.1 ∧ SlR w q.1 q.2 := by
  obtain ⟨ao, len, cap, rfl⟩ := okWide_slice Try.underlying64 hv
  suffices hl : ∃ l, SlR w (.slice ao len cap) l by
    obtain ⟨l, hl⟩ := hl
    exact ⟨(_, l), rfl, hl⟩
  obtain ⟨fuel, hf⟩ := h
  rcases DataW.trod_slice Try.underlying64 hf with ⟨h0, _⟩ | ⟨a, len', cap', elems, rest, n, _, h0, _, _, hl, hm, hlen, hel, _, _⟩
  · simp [Value.cells] at h0
    obtain ⟨rfl, rfl, rfl⟩ := h0
    exact ⟨[], none, 0, rfl, Nat.le_refl _, Nat.zero_le _, fun j x hx => by simp at hx⟩
  · simp [Value.cells] at h0
    obtain ⟨rfl, rfl, rfl⟩ := h0
    have e38 : Try.prog.cellsOf 69 = 3 := by kernel_rfl
    rw [e38] at hel
    have each : ∀ i, i < len → ∃ x : Pk3, w.cells? base (a.add (i * 3)) 3 = some [.int .i64 x.c, .int .i64 x.d, .int .i64 x.n] := by
      intro i hi
      have h1 := hel i hi
      rw [List.getElem?_eq_getElem (by omega)] at h1
      obtain ⟨cs, hc, hy⟩ := Option.bind_eq_some_iff.1 h1
      obtain ⟨x, rfl⟩ := open_pick3 hy
      exact ⟨x, hc⟩
    have ⟨f, hf'⟩ : ∃ f : Nat → Pk3, ∀ i, i < len → w.cells? base (a.add (i * 3)) 3 = some [.int .i64 (f i).c, .int .i64 (f i).d, .int .i64 (f i).n] := by
      refine ⟨fun i => if h : i < len then (each i h).choose else ⟨0, 0, 0⟩, fun i hi => ?_⟩
      simp only [hi, dite_true]
      exact (each i hi).choose_spec
    have hll : ((List.range len).map f).length = len := by simp
    refine ⟨(List.range len).map f, some a, cap, by rw [hll], by rw [hll]; exact hl, hm, fun j x hx => ?_⟩
    have hj : j < len := by have := (List.getElem?_eq_some_iff.1 hx).1; omega
    have hxj : f j = x := by simpa [hj] using hx
    subst hxj
    obtain ⟨b0, o0, e0, _⟩ := cellsq3 (hf' 0 (by omega))
    obtain ⟨b, off, e, r⟩ := cellsq3 (hf' j hj)
    have ha : a = ⟨b0, o0, none⟩ := by
      rw [← e0, Nat.zero_mul]; unfold Addr.add; split <;> simp_all
    subst ha
    rw [Addr.add_lit] at e
    cases e
    exact ⟨_, _, rfl, r⟩
theorem wpm_al72 {X : Nat → Prop} {w0 w : World} {L : List (Nat × Array Value × TypeId)} {ops : Array Oper} {rest : List Oper} {o : Oper} {a : Act} {Q : Exit → Act → World → Prop} (HM : Hid (Mem X w0 w L)) (hg : o.guard = none) (ho : o.op = .alloc 72)
    (h : ∀ W, Hid (Mem X w0 W (L ++ [(w.heap.size, have0, 72)])) → wpList Try.prog ops Q rest (a.put o.dst (.pointer (some ⟨w.heap.size, 0, none⟩))) W) : wpList Try.prog ops Q (o :: rest) a w := wpm_al HM hg 72 ho _ zer72 h
end Go.Proofs.Ytgpdknacnmapiaa
