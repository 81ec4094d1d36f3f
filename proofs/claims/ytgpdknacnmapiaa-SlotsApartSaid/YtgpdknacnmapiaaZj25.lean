/-
  Parts of a proof, put together: Sg, Qa, Hv.
-/
import Derived.Test.YtgpdknacnmapiaaZj01
import Derived.Test.YtgpdknacnmapiaaZj02
import Derived.Test.YtgpdknacnmapiaaZj03
import Derived.Test.YtgpdknacnmapiaaZj04
import Derived.Test.YtgpdknacnmapiaaZj05
import Derived.Test.YtgpdknacnmapiaaZj06
import Derived.Test.YtgpdknacnmapiaaZj07
import Derived.Test.YtgpdknacnmapiaaZj08
import Derived.Test.YtgpdknacnmapiaaZj09
import Derived.Test.YtgpdknacnmapiaaZj10
import Derived.Test.YtgpdknacnmapiaaZj11
import Derived.Test.YtgpdknacnmapiaaZj12
import Derived.Test.YtgpdknacnmapiaaZj13
import Derived.Test.YtgpdknacnmapiaaZj14
import Derived.Test.YtgpdknacnmapiaaZj15
import Derived.Test.YtgpdknacnmapiaaZj16
import Derived.Test.YtgpdknacnmapiaaZj17
import Derived.Test.YtgpdknacnmapiaaZj18
import Derived.Test.YtgpdknacnmapiaaZj19
import Derived.Test.YtgpdknacnmapiaaZj20
import Derived.Test.YtgpdknacnmapiaaZj21
import Derived.Test.YtgpdknacnmapiaaZj22
import Derived.Test.YtgpdknacnmapiaaZj23
import Derived.Test.YtgpdknacnmapiaaZj24
namespace Go.Proofs.Ytgpdknacnmapiaa
set_option linter.unusedVariables false
set_option linter.unusedSimpArgs false
open Go.RowKit
open Go
theorem who_p (a : Int) (w : World) : ∃ S : Nat, S < 4 ∧ (wrap64 (a.tmod 4 + 4)).tmod 4 = (S : Int) ∧ Calls Try.prog 23 #[.int .i64 a] w fun e w' => e = .returned (.int .i64 S) ∧ w' = w := by
  obtain ⟨S, hS, eS⟩ := norm_rem a 4 ⟨by omega, by omega⟩
  refine ⟨S, by omega, eS, ?_⟩
  clear hS
  go_enter Try.func23, Try.ntmps23
  go_wp2_with fail
  go_ret
  exact ⟨rfl, rfl⟩
/-- the cells of generations hold small numbers -/
def GenOK (l : List Int) : Prop := ∀ (s : Int) (b : Bool) (k : Nat) (y : Int), genC s b = (k : Int) → l[k]? = some y → 0 ≤ y ∧ y ≤ 4095
theorem GenOK.set {l : List Int} (h : GenOK l) (k : Nat) (v : Int) (hv : 0 ≤ v ∧ v ≤ 4095) : GenOK (l.set k v) := by
  intro s b k2 y hk hy
  rw [List.getElem?_set] at hy
  by_cases e : k = k2
  · rw [if_pos e] at hy
    split at hy
    · injection hy with hy; omega
    · cases hy
  · rw [if_neg e] at hy
    exact h s b k2 y hk hy
theorem genC_lt (s : Int) (b : Bool) : genC s b < 771 := by unfold genC; split <;> split <;> omega
theorem genOK_new : GenOK (newL 160) := by
  intro s b k y hk hy
  have hk7 : k < 771 := by have := (List.getElem?_eq_some_iff.1 hy).1; rwa [newL_len] at this
  rw [newL_get _ _ hk7] at hy
  injection hy with hy
  subst hy
  unfold genC at hk
  split
  · omega
  · rename_i h1
    split
    · rename_i h2
      exfalso
      split at hk <;> split at hk <;> omega
    · omega
/-- what an action reads, and leaves -/
def stY (l : List Int) (r : Rs) : Int := if r.k = 0 then l.getD r.a.toNat 0 else 0
def stL (l : List Int) (r : Rs) : List Int := if r.k = 0 then l else l.set r.a.toNat r.v
theorem lookR_act (f : Fr) (hk : (lookR f).k ≠ 7) : (lookR f).l = [] ∧ (lookR f).k = 0 ∧ (lookR f).a = lookC f ∧ 0 ≤ lookC f ∧ (lookR f).v = 0 := by
  unfold lookR at *
  split at hk
  · exact absurd rfl hk
  · rename_i h1
    rw [if_neg h1]
    split at hk
    · exact absurd rfl hk
    · rename_i h2
      rw [if_neg h2]
      exact ⟨rfl, rfl, rfl, by omega, rfl⟩
/-- an action of slots is a load or a store of a generation -/
theorem nextG_act {f : Fr} {j : Nat} (h : Inv f j) {x : Int} (hx : 0 ≤ x ∧ x ≤ 4095) (hk : (nextG f x).k ≠ 7) :
    (nextG f x).l = [] ∧ (∃ s b, (nextG f x).a = genC s b) ∧ 0 ≤ (nextG f x).a ∧ (((nextG f x).k = 0 ∧ (nextG f x).v = 0) ∨ ((nextG f x).k = 1 ∧ 0 ≤ (nextG f x).v ∧ (nextG f x).v ≤ 4095)) := by
  rcases h.pg with hp | hp
  · rw [nextG_56 hp] at hk ⊢
    rcases h.s with hs | hs | hs
    · rw [nextR_0 hs] at hk ⊢
      obtain ⟨h1, h2, h3, h4, h5⟩ := lookR_act f hk
      exact ⟨h1, ⟨_, _, h3⟩, by omega, .inl ⟨h2, h5⟩⟩
    · by_cases h2 : x % 2 = 1
      · rw [nextR_1o hs h2] at hk ⊢
        obtain ⟨h1, h2, h3, h4, h5⟩ := lookR_act _ hk
        exact ⟨h1, ⟨_, _, h3⟩, by omega, .inl ⟨h2, h5⟩⟩
      · rw [nextR_1e hs h2]
        have := aft_le (x / 2) (by omega)
        exact ⟨rfl, ⟨_, _, rfl⟩, h.l hp hs, .inr ⟨rfl, by show 0 ≤ aft (x / 2) * 2 + 1; omega, by show aft (x / 2) * 2 + 1 ≤ 4095; omega⟩⟩
    · rw [nextR_2 hs] at hk
      exact absurd rfl hk
  · by_cases hs : f.st = 0
    · rw [nextG_57 hp hs] at hk ⊢
      unfold dropR at *
      split at hk
      · exact absurd rfl hk
      · rename_i h1
        rw [if_neg h1]
        have := h.r0
        exact ⟨rfl, ⟨_, _, rfl⟩, by show 0 ≤ dropC f; omega, .inr ⟨rfl, by show 0 ≤ f.r 0 / 256 * 2; omega, by show f.r 0 / 256 * 2 ≤ 4095; omega⟩⟩
    · rw [nextG_57e hp hs] at hk
      exact absurd rfl hk
section
variable {P : Nat → Prop} {f : Fr} {x : Int} {j : Nat} {l : List Int}
theorem stY_le (h : Inv f j) (hx : 0 ≤ x ∧ x ≤ 4095) (hk : (nextG f x).k ≠ 7) (hl : l.length = 771) (hg : GenOK l) : 0 ≤ stY l (nextG f x) ∧ stY l (nextG f x) ≤ 4095 := by
  obtain ⟨-, ⟨s, b, hs⟩, h0, -⟩ := nextG_act h hx hk
  unfold stY
  split
  · have h7 : (nextG f x).a.toNat < 771 := by have := genC_lt s b; omega
    rw [List.getD_eq_getElem?_getD, List.getElem?_eq_getElem (by omega)]
    exact hg s b _ _ (by omega) (List.getElem?_eq_getElem (by omega))
  · omega
theorem stL_len (r : Rs) : (stL l r).length = l.length := by unfold stL; split <;> simp
theorem st_do (h : Inv f j) (hx : 0 ≤ x ∧ x ≤ 4095) (hk : (nextG f x).k ≠ 7) (hl : l.length = 771) : OkA (nextG f x).k (nextG f x).a 0 (nextG f x).v 0 ∧ (nextG f x).k < 6 ∧ DoC (nextG f x).k (nextG f x).a (nextG f x).v (stY l (nextG f x)) l (stL l (nextG f x)) := by
  obtain ⟨-, ⟨s, b, hs⟩, h0, h1⟩ := nextG_act h hx hk
  have h7 : (nextG f x).a < 771 := by have := genC_lt s b; omega
  obtain ⟨n, hn⟩ := Int.eq_ofNat_of_zero_le h0
  have hn7 : n < 771 := by omega
  rcases h1 with ⟨h1, h2⟩ | ⟨h1, h2⟩
  · refine ⟨.inl ⟨h1, by omega, by omega, rfl, h2, rfl⟩, by omega, ?_⟩
    unfold stY stL
    rw [h1, if_pos rfl, if_pos rfl, h2, hn]
    exact doC0 n _ l hn7 (by rw [List.getD_eq_getElem?_getD, Int.toNat_natCast, List.getElem?_eq_getElem (by omega)]; rfl)
  · refine ⟨.inr (.inl ⟨h1, by omega, by omega, rfl, by omega, rfl⟩), by omega, ?_⟩
    unfold stY stL
    rw [h1, if_neg (by omega), if_neg (by omega), hn, Int.toNat_natCast]
    exact doC1 n _ l hn7 hl (by omega)
theorem step_go (c : Nat) (hc : c < 4) (R : Nat) (C : Array Value) (s : RS) (w : World) (hP : ∀ b, w.heap.size ≤ b → P b) (hPR : ∀ b, P b → b ≠ R) (h : RunV P R w C s l) (hl : l.length = 771) (hg : GenOK l) (hT : Live P w (s.m c) c f x) (hU : Live P w (s.h c) c f x)
    (hI : Inv f j) (hj : j ≤ 800) (hx : 0 ≤ x ∧ x ≤ 4095) (hk : (nextG f x).k ≠ 7) (hk2 : (nextG (nextG f x).f (stY l (nextG f x))).k ≠ 7) :
    Calls Try.prog 25 #[.pointer (some ⟨R, 0, none⟩), .int .i64 c] w fun e w' => e = .returned (.tuple #[.slice none 0 0, .bool false, .bool true]) ∧ SteppedP P R c s (stL l (nextG f x)) (nextG f x).f (nextG f x).f (stY l (nextG f x)) s.b w w' := by
  have hy := stY_le hI hx hk hl hg
  have hI2 := hI.next (by omega) x hx hk
  obtain ⟨o1, o2, o3⟩ := st_do (l := l) hI hx hk hl
  obtain ⟨p1, p2, -⟩ := st_do (l := stL l (nextG f x)) hI2 hy hk2 (by rw [stL_len]; exact hl)
  have e1 := (nextG_act hI hx hk).1
  have e2 := (nextG_act hI2 hy hk2).1
  refine st_go c hc R C s l _ w hP hPR h hT hU hI (by omega) hx (k := (nextG f x).k) (a := (nextG f x).a) (v := (nextG f x).v) ?_ o1 o2 o3 hI2 (by omega) hy (f4 := (nextG (nextG f x).f (stY l (nextG f x))).f) ?_ p1 p2
  · rw [← e1]
  · rw [← e2]
theorem step_end (c : Nat) (hc : c < 4) (R : Nat) (C : Array Value) (s : RS) (w : World) (hP : ∀ b, w.heap.size ≤ b → P b) (hPR : ∀ b, P b → b ≠ R) (h : RunV P R w C s l) (hl : l.length = 771) (hg : GenOK l) (hT : Live P w (s.m c) c f x) (hU : Live P w (s.h c) c f x)
    (hI : Inv f j) (hj : j ≤ 800) (hx : 0 ≤ x ∧ x ≤ 4095) (hk : (nextG f x).k ≠ 7) {f4 : Fr} {la : List Int} (h2 : nextG (nextG f x).f (stY l (nextG f x)) = ⟨f4, 7, 0, 0, la⟩) (hla : la.length ≤ 96) :
    Calls Try.prog 25 #[.pointer (some ⟨R, 0, none⟩), .int .i64 c] w fun e w' => (∃ ans, e = .returned (.tuple #[ans, .bool true, .bool true]) ∧ IntsP P w' ans la) ∧ SteppedP P R c s (stL l (nextG f x)) (nextG f x).f (nextG f x).f (stY l (nextG f x)) (upd s.b c false) w w' := by
  have hy := stY_le hI hx hk hl hg
  have hI2 := hI.next (by omega) x hx hk
  obtain ⟨o1, o2, o3⟩ := st_do (l := l) hI hx hk hl
  have e1 := (nextG_act hI hx hk).1
  refine st_end c hc R C s l _ w hP hPR h hT hU hI (by omega) hx (k := (nextG f x).k) (a := (nextG f x).a) (v := (nextG f x).v) ?_ o1 o2 o3 hI2 (by omega) hy h2 hla
  rw [← e1]
end
end Go.Proofs.Ytgpdknacnmapiaa
namespace Go.Proofs.Ytgpdknacnmapiaa
set_option linter.unusedVariables false
set_option linter.unusedSimpArgs false
open Go.RowKit
open Go
/-- where a client's program of slots is: an allotment ahead of its first look, behind a look; a freeing -/
inductive S4 where
  | al0 (nd : Bool)
  | al1 (nd : Bool) (i : Nat) (x : Int)
  | fr0 (h : Int) (nd : Bool)
/-- a slot's cell -/
def gk (nd : Bool) (s : Nat) : Nat := if nd then 291 + s * 3 else 99 + s * 12
theorem genC_gk (nd : Bool) (s : Nat) (hs : s < 16) : genC (s : Int) nd = (gk nd s : Nat) := by
  unfold genC gk
  cases nd <;> simp <;> omega
theorem gk_lt (nd : Bool) (s : Nat) (hs : s < 16) : gk nd s < 771 := by unfold gk; split <;> omega
theorem gk_inj {nd nd' : Bool} {s s' : Nat} (hs : s < 16) (hs' : s' < 16) (h : gk nd s = gk nd' s') : nd = nd' ∧ s = s' := by
  unfold gk at h
  cases nd <;> cases nd' <;> simp at h ⊢ <;> omega
/-- the frame, and what came, at a state -/
def InF (c m : Nat) : S4 → Fr → Int → Prop
  | .al0 nd, f, x => f = frG 56 [(c : Int) * m, m, nn nd] ∧ 0 ≤ x ∧ x ≤ 4095
  | .al1 nd i y, f, x => f.pg = 56 ∧ f.st = 1 ∧ f.r 0 = (c : Int) * m ∧ f.r 1 = m ∧ f.r 2 = nn nd ∧ f.r 3 = i ∧ f.r 4 = 0 ∧ x = y ∧ i < m ∧ (y % 2 = 1 → i + 1 < m) ∧ 0 ≤ y ∧ y ≤ 4095
  | .fr0 h nd, f, x => f = frG 57 [h, nn nd] ∧ (0 ≤ x ∧ x ≤ 4095) ∧ ∃ (g : Int) (s : Nat), h = g * 256 + s ∧ 1 ≤ g ∧ g ≤ 1023 ∧ s < 16
theorem cm_lt {c m : Nat} (hc : c < 4) (hm : 1 ≤ m ∧ m ≤ 4) : c * m ≤ 12 := by
  have : c * m ≤ 3 * 4 := Nat.mul_le_mul (by omega) hm.2
  omega
theorem cm_cast (c m : Nat) : ((c : Int) * (m : Int)) = ((c * m : Nat) : Int) := by push_cast; rfl
theorem InF.x {c m : Nat} {s : S4} {f : Fr} {x : Int} (h : InF c m s f x) : 0 ≤ x ∧ x ≤ 4095 := by
  cases s with
  | al0 nd => exact h.2
  | al1 nd i y => obtain ⟨-, -, -, -, -, -, -, rfl, -, -, h1, h2⟩ := h; exact ⟨h1, h2⟩
  | fr0 hh nd => exact h.2.1
theorem look_of {c m i : Nat} {nd : Bool} {f : Fr} (hc : c < 4) (hm : 1 ≤ m ∧ m ≤ 4) (h0 : f.r 0 = (c : Int) * m) (h2 : f.r 2 = nn nd) (h3 : f.r 3 = i) (hi : i < m) : lookC f = (gk nd (c * m + i) : Nat) ∧ slotOf f = ((c * m + i : Nat) : Int) := by
  have := cm_lt hc hm
  have e : slotOf f = ((c * m + i : Nat) : Int) := by unfold slotOf; rw [h0, h3, cm_cast]; omega
  exact ⟨by unfold lookC; rw [e, h2, nn_eq]; exact genC_gk nd _ (by omega), e⟩
theorem InF.inv {c m : Nat} (hc : c < 4) (hm : 1 ≤ m ∧ m ≤ 4) {s : S4} {f : Fr} {x : Int} (h : InF c m s f x) : Inv f 4 := by
  have hcm := cm_lt hc hm
  have hcc := cm_cast c m
  cases s with
  | al0 nd =>
    obtain ⟨rfl, -⟩ := h
    refine ⟨.inl rfl, .inl rfl, fun h => ?_, fun _ h => ?_, ?_, ?_, ?_, ?_, ?_⟩
    · show (0 : Int) ≠ 2; omega
    · have : (0 : Int) = 1 := h; omega
    · show 0 ≤ (c : Int) * m ∧ (c : Int) * m ≤ 300000; omega
    · show (0 : Int) ≤ m ∧ (m : Int) ≤ 255; omega
    · exact nn_01 nd
    · show (0 : Int) ≤ 0 ∧ (0 : Int) ≤ (4 : Nat); omega
    · show (0 : Int) ≤ 0 ∧ (0 : Int) ≤ 1000000; omega
  | al1 nd i y =>
    obtain ⟨h1, h2, h3, h4, h5, h6, h7, -, h8, -⟩ := h
    have hl := look_of hc hm h3 h5 h6 h8
    refine ⟨.inl h1, .inr (.inl h2), fun h => by omega, fun _ _ => by rw [hl.1]; omega, by rw [h3]; omega, by rw [h4]; omega, by rw [h5]; exact nn_01 nd, by rw [h6]; omega, by rw [h7]; omega⟩
  | fr0 hh nd =>
    obtain ⟨rfl, -, g, s, rfl, hg, hs⟩ := h
    refine ⟨.inr rfl, .inl rfl, fun _ => ?_, fun h => ?_, ?_, ?_, ?_, ?_, ?_⟩
    · show (0 : Int) ≠ 2; omega
    · have : (57 : Int) = 56 := h; omega
    · show 0 ≤ g * 256 + s ∧ g * 256 + s ≤ 300000; omega
    · show (0 : Int) ≤ nn nd ∧ nn nd ≤ 255; rcases nn_01 nd with h | h <;> omega
    · exact .inl rfl
    · show (0 : Int) ≤ 0 ∧ (0 : Int) ≤ (4 : Nat); omega
    · show (0 : Int) ≤ 0 ∧ (0 : Int) ≤ 1000000; omega
/-- the cells behind a state's next action -/
def l4 (c m : Nat) (l : List Int) : S4 → List Int
  | .al0 _ => l
  | .al1 nd i x => if x % 2 = 1 then l else l.set (gk nd (c * m + i)) (aft (x / 2) * 2 + 1)
  | .fr0 h nd => l.set (gk nd (h % 256).toNat) (h / 256 * 2)
/-- the state behind it, or the answer -/
def aft4 (c m : Nat) (l : List Int) : S4 → S4 ⊕ List Int
  | .al0 nd => if l.getD (gk nd (c * m)) 0 % 2 = 1 ∧ m ≤ 1 then .inr [120] else .inl (.al1 nd 0 (l.getD (gk nd (c * m)) 0))
  | .al1 nd i x => if x % 2 = 1 then (if l.getD (gk nd (c * m + (i + 1))) 0 % 2 = 1 ∧ m ≤ i + 2 then .inr [120] else .inl (.al1 nd (i + 1) (l.getD (gk nd (c * m + (i + 1))) 0))) else .inr [0, aft (x / 2) * 256 + ((c * m + i : Nat) : Int)]
  | .fr0 _ _ => .inr []
theorem nextG_look {c m i : Nat} {nd : Bool} {f : Fr} (hc : c < 4) (hm : 1 ≤ m ∧ m ≤ 4) (h0 : f.r 0 = (c : Int) * m) (h1 : f.r 1 = m) (h2 : f.r 2 = nn nd) (h3 : f.r 3 = i) (hi : i < m) : lookR f = ⟨f.at_ 1, 0, (gk nd (c * m + i) : Nat), 0, []⟩ := by
  unfold lookR
  rw [h1, h3, (look_of hc hm h0 h2 h3 hi).1, if_neg (by omega), if_neg (by omega)]
/-- behind a look: another state, or the end -/
theorem seen4 {c m i : Nat} {nd : Bool} {f : Fr} {y : Int} (hc : c < 4) (hm : 1 ≤ m ∧ m ≤ 4) (hp : f.pg = 56) (hs : f.st = 1) (h0 : f.r 0 = (c : Int) * m) (h1 : f.r 1 = m) (h2 : f.r 2 = nn nd) (h3 : f.r 3 = i) (h4 : f.r 4 = 0) (hi : i < m) (hy : 0 ≤ y ∧ y ≤ 4095) :
    (y % 2 = 1 ∧ m ≤ i + 1 ∧ ∃ f4, nextG f y = ⟨f4, 7, 0, 0, [120]⟩) ∨ (¬ (y % 2 = 1 ∧ m ≤ i + 1) ∧ InF c m (.al1 nd i y) f y ∧ (nextG f y).k ≠ 7) := by
  by_cases e : y % 2 = 1 ∧ m ≤ i + 1
  · refine .inl ⟨e.1, e.2, ?_⟩
    rw [nextG_56 hp, nextR_1o hs e.1]
    unfold lookR
    have a1 : (f.reg 3 (f.r 3 + 1)).r 1 = f.r 1 := by simp [Fr.reg]
    have a3 : (f.reg 3 (f.r 3 + 1)).r 3 = f.r 3 + 1 := by simp [Fr.reg]
    rw [a1, a3, h1, h3, if_pos (by omega)]
    exact ⟨_, rfl⟩
  · refine .inr ⟨e, ⟨hp, hs, h0, h1, h2, h3, h4, rfl, hi, fun ho => by omega, hy.1, hy.2⟩, ?_⟩
    rw [nextG_56 hp]
    by_cases ho : y % 2 = 1
    · rw [nextR_1o hs ho, nextG_look (i := i + 1) (nd := nd) hc hm (by simpa [Fr.reg] using h0) (by simpa [Fr.reg] using h1) (by simpa [Fr.reg] using h2) (by simp [Fr.reg, h3]) (by omega)]
      show (0 : Int) ≠ 7; omega
    · rw [nextR_1e hs ho]
      show (1 : Int) ≠ 7; omega
/-- what a state's step comes to, as the programs do it -/
theorem next4 {c m : Nat} (hc : c < 4) (hm : 1 ≤ m ∧ m ≤ 4) {s : S4} {f : Fr} {x : Int} (h : InF c m s f x) {l : List Int} (hl : l.length = 771) (hg : GenOK l) :
    (nextG f x).k ≠ 7 ∧ stL l (nextG f x) = l4 c m l s ∧ match aft4 c m l s with
      | .inl s' => InF c m s' (nextG f x).f (stY l (nextG f x)) ∧ (nextG (nextG f x).f (stY l (nextG f x))).k ≠ 7
      | .inr la => ∃ f4, nextG (nextG f x).f (stY l (nextG f x)) = ⟨f4, 7, 0, 0, la⟩ := by
  have hcm := cm_lt hc hm
  have getOK : ∀ (nd : Bool) (t : Nat), t < 16 → 0 ≤ l.getD (gk nd t) 0 ∧ l.getD (gk nd t) 0 ≤ 4095 := fun nd t ht => by
    have h7 := gk_lt nd t ht
    rw [List.getD_eq_getElem?_getD, List.getElem?_eq_getElem (by omega)]
    exact hg t nd (gk nd t) _ (genC_gk nd t ht) (List.getElem?_eq_getElem (by omega))
  cases s with
  | al0 nd =>
    obtain ⟨rfl, hx⟩ := h
    have e0 : nextG (frG 56 [(c : Int) * m, m, nn nd]) x = ⟨(frG 56 [(c : Int) * m, m, nn nd]).at_ 1, 0, (gk nd (c * m) : Nat), 0, []⟩ := by
      rw [nextG_56 rfl, nextR_0 rfl]
      exact nextG_look (i := 0) (nd := nd) hc hm rfl rfl rfl rfl (by omega)
    rw [e0]
    have ey : stY l ⟨(frG 56 [(c : Int) * m, m, nn nd]).at_ 1, 0, (gk nd (c * m) : Nat), 0, []⟩ = l.getD (gk nd (c * m)) 0 := by
      show (if (0 : Int) = 0 then l.getD ((gk nd (c * m) : Nat) : Int).toNat 0 else 0) = _
      rw [if_pos rfl, Int.toNat_natCast]
    rw [ey]
    refine ⟨by show (0 : Int) ≠ 7; omega, rfl, ?_⟩
    rcases seen4 (i := 0) (nd := nd) (f := (frG 56 [(c : Int) * m, m, nn nd]).at_ 1) (y := l.getD (gk nd (c * m)) 0) hc hm rfl rfl rfl rfl rfl rfl rfl (by omega) (getOK nd _ (by omega)) with ⟨h1, h2, h3⟩ | ⟨h1, h2, h3⟩
    · simp only [aft4]; rw [if_pos ⟨h1, by omega⟩]; exact h3
    · simp only [aft4]; rw [if_neg (by simpa using h1)]; exact ⟨h2, h3⟩
  | al1 nd i y =>
    obtain ⟨h1, h2, h3, h4, h5, h6, h7, rfl, h8, h9, h10, h11⟩ := h
    by_cases ho : x % 2 = 1
    · have hi1 := h9 ho
      have a0 : (f.reg 3 (f.r 3 + 1)).r 0 = (c : Int) * m := by simpa [Fr.reg] using h3
      have a1 : (f.reg 3 (f.r 3 + 1)).r 1 = m := by simpa [Fr.reg] using h4
      have a2 : (f.reg 3 (f.r 3 + 1)).r 2 = nn nd := by simpa [Fr.reg] using h5
      have a3 : (f.reg 3 (f.r 3 + 1)).r 3 = ((i + 1 : Nat) : Int) := by simp [Fr.reg, h6]
      have a4 : (f.reg 3 (f.r 3 + 1)).r 4 = 0 := by simpa [Fr.reg] using h7
      have e0 : nextG f x = ⟨(f.reg 3 (f.r 3 + 1)).at_ 1, 0, (gk nd (c * m + (i + 1)) : Nat), 0, []⟩ := by
        rw [nextG_56 h1, nextR_1o h2 ho]
        exact nextG_look (i := i + 1) (nd := nd) hc hm a0 a1 a2 a3 hi1
      rw [e0]
      have ey : stY l ⟨(f.reg 3 (f.r 3 + 1)).at_ 1, 0, (gk nd (c * m + (i + 1)) : Nat), 0, []⟩ = l.getD (gk nd (c * m + (i + 1))) 0 := by
        show (if (0 : Int) = 0 then l.getD ((gk nd (c * m + (i + 1)) : Nat) : Int).toNat 0 else 0) = _
        rw [if_pos rfl, Int.toNat_natCast]
      rw [ey]
      refine ⟨by show (0 : Int) ≠ 7; omega, by simp only [l4]; rw [if_pos ho]; rfl, ?_⟩
      rcases seen4 (i := i + 1) (nd := nd) (f := (f.reg 3 (f.r 3 + 1)).at_ 1) (y := l.getD (gk nd (c * m + (i + 1))) 0) hc hm h1 rfl a0 a1 a2 a3 a4 hi1 (getOK nd _ (by omega)) with ⟨b1, b2, b3⟩ | ⟨b1, b2, b3⟩
      · simp only [aft4]; rw [if_pos ho, if_pos ⟨b1, by omega⟩]; exact b3
      · simp only [aft4]; rw [if_pos ho, if_neg (by simpa using b1)]; exact ⟨b2, b3⟩
    · have hl2 := look_of hc hm h3 h5 h6 h8
      have e0 : nextG f x = ⟨(f.at_ 2).reg 4 (aft (x / 2) * 256 + ((c * m + i : Nat) : Int)), 1, (gk nd (c * m + i) : Nat), aft (x / 2) * 2 + 1, []⟩ := by
        rw [nextG_56 h1, nextR_1e h2 ho, hl2.1, hl2.2]
      rw [e0]
      refine ⟨by show (1 : Int) ≠ 7; omega, ?_, ?_⟩
      · simp only [l4]; rw [if_neg ho]
        show (if (1 : Int) = 0 then l else l.set ((gk nd (c * m + i) : Nat) : Int).toNat (aft (x / 2) * 2 + 1)) = _
        rw [if_neg (by omega), Int.toNat_natCast]
      · simp only [aft4]; rw [if_neg ho]
        have h1' : ((f.at_ 2).reg 4 (aft (x / 2) * 256 + ((c * m + i : Nat) : Int))).pg = 56 := h1
        refine ⟨(f.at_ 2).reg 4 (aft (x / 2) * 256 + ((c * m + i : Nat) : Int)), ?_⟩
        rw [nextG_56 h1', nextR_2 rfl]
        rfl
  | fr0 hh nd =>
    obtain ⟨rfl, hx, g, s, rfl, hg1, hg2, hs⟩ := h
    have e1 : (g * 256 + (s : Int)) % 256 = s := by omega
    have e2 : (g * 256 + (s : Int)) / 256 = g := by omega
    have ed : dropC (frG 57 [g * 256 + (s : Int), nn nd]) = (gk nd s : Nat) := by
      have : dropC (frG 57 [g * 256 + (s : Int), nn nd]) = genC ((g * 256 + (s : Int)) % 256) (nn nd == 1) := rfl
      rw [this, e1, nn_eq]; exact genC_gk nd s hs
    have e0 : nextG (frG 57 [g * 256 + (s : Int), nn nd]) x = ⟨(frG 57 [g * 256 + (s : Int), nn nd]).at_ 1, 1, (gk nd s : Nat), g * 2, []⟩ := by
      rw [nextG_57 rfl rfl]
      unfold dropR
      rw [ed, if_neg (by omega)]
      show (⟨_, 1, _, (g * 256 + (s : Int)) / 256 * 2, []⟩ : Rs) = _
      rw [e2]
    rw [e0]
    refine ⟨by show (1 : Int) ≠ 7; omega, ?_, ?_⟩
    · simp only [l4]
      show (if (1 : Int) = 0 then l else l.set ((gk nd s : Nat) : Int).toNat (g * 2)) = _
      rw [if_neg (by omega), Int.toNat_natCast, e1, e2, Int.toNat_natCast]
    · simp only [aft4]
      exact ⟨_, nextG_57e rfl (by show (1 : Int) ≠ 0; omega)⟩
end Go.Proofs.Ytgpdknacnmapiaa
namespace Go.Proofs.Ytgpdknacnmapiaa
set_option linter.unusedVariables false
set_option linter.unusedSimpArgs false
open Go.RowKit
/-- what a client's place holds: its slices (2c: handles, 2c+1: nodes), what it does -/
structure HV where
  sl : Nat → Value
  dc : Nat → Int
  dd : Nat → Int
  dn : Nat → Int
structure HavA (C : Array Value) (h : HV) : Prop where
  size : C.size = 20
  hl : ∀ c, c < 4 → C[c * 5]? = some (h.sl (2 * c))
  nl : ∀ c, c < 4 → C[c * 5 + 1]? = some (h.sl (2 * c + 1))
  dc : ∀ c, c < 4 → C[c * 5 + 2]? = some (.int .i64 (h.dc c))
  dd : ∀ c, c < 4 → C[c * 5 + 3]? = some (.int .i64 (h.dd c))
  dn : ∀ c, c < 4 → C[c * 5 + 4]? = some (.int .i64 (h.dn c))
def HV.setS (h : HV) (i : Nat) (v : Value) : HV := { h with sl := upd h.sl i v }
def HV.setD (h : HV) (c : Nat) (a b d : Int) : HV := { h with dc := upd h.dc c a, dd := upd h.dd c b, dn := upd h.dn c d }
theorem HavA.setH {C : Array Value} {h : HV} (hA : HavA C h) (c : Nat) (hc : c < 4) (v : Value) : HavA (C.setIfInBounds (c * 5) v) (h.setS (2 * c) v) := by
  have hs := hA.size
  refine ⟨by simp [hs], fun d hd => ?_, fun d hd => ?_, fun d hd => ?_, fun d hd => ?_, fun d hd => ?_⟩ <;> simp only [HV.setS, upd] <;> rw [Array.getElem?_setIfInBounds]
  · by_cases e : d = c
    · subst e; rw [if_pos rfl, if_pos (by omega), if_pos rfl]
    · rw [if_neg (by omega), if_neg (by omega)]; exact hA.hl d hd
  · rw [if_neg (by omega), if_neg (by omega)]; exact hA.nl d hd
  · rw [if_neg (by omega)]; exact hA.dc d hd
  · rw [if_neg (by omega)]; exact hA.dd d hd
  · rw [if_neg (by omega)]; exact hA.dn d hd
theorem HavA.setN {C : Array Value} {h : HV} (hA : HavA C h) (c : Nat) (hc : c < 4) (v : Value) : HavA (C.setIfInBounds (c * 5 + 1) v) (h.setS (2 * c + 1) v) := by
  have hs := hA.size
  refine ⟨by simp [hs], fun d hd => ?_, fun d hd => ?_, fun d hd => ?_, fun d hd => ?_, fun d hd => ?_⟩ <;> simp only [HV.setS, upd] <;> rw [Array.getElem?_setIfInBounds]
  · rw [if_neg (by omega), if_neg (by omega)]; exact hA.hl d hd
  · by_cases e : d = c
    · subst e; rw [if_pos rfl, if_pos (by omega), if_pos rfl]
    · rw [if_neg (by omega), if_neg (by omega)]; exact hA.nl d hd
  · rw [if_neg (by omega)]; exact hA.dc d hd
  · rw [if_neg (by omega)]; exact hA.dd d hd
  · rw [if_neg (by omega)]; exact hA.dn d hd
theorem HavA.setD {C : Array Value} {h : HV} (hA : HavA C h) (c : Nat) (hc : c < 4) (x y z : Int) : HavA (setAll C (c * 5 + 2) [.int .i64 x, .int .i64 y, .int .i64 z]) (h.setD c x y z) := by
  have hs := hA.size
  refine ⟨by rw [setAll_size, hs], fun d hd => ?_, fun d hd => ?_, fun d hd => ?_, fun d hd => ?_, fun d hd => ?_⟩
  · rw [setAll_out _ _ _ _ (by simp; omega)]; exact hA.hl d hd
  · rw [setAll_out _ _ _ _ (by simp; omega)]; exact hA.nl d hd
  · simp only [HV.setD, upd]
    by_cases e : d = c
    · subst e; rw [if_pos rfl]; exact setAll_in [.int .i64 x, .int .i64 y, .int .i64 z] C (d * 5 + 2) 0 (by simp; omega) (by simp)
    · rw [if_neg e, setAll_out _ _ _ _ (by simp; omega)]; exact hA.dc d hd
  · simp only [HV.setD, upd]
    by_cases e : d = c
    · subst e; rw [if_pos rfl]; exact setAll_in [.int .i64 x, .int .i64 y, .int .i64 z] C (d * 5 + 2) 1 (by simp; omega) (by simp)
    · rw [if_neg e, setAll_out _ _ _ _ (by simp; omega)]; exact hA.dd d hd
  · simp only [HV.setD, upd]
    by_cases e : d = c
    · subst e; rw [if_pos rfl]; exact setAll_in [.int .i64 x, .int .i64 y, .int .i64 z] C (d * 5 + 2) 2 (by simp; omega) (by simp)
    · rw [if_neg e, setAll_out _ _ _ _ (by simp; omega)]; exact hA.dn d hd
theorem inf69 : (Try.prog.info? 69).map (·.size) = some 3 := by kernel_rfl
theorem und69 : ∃ fs, Try.prog.underlying 69 = some (.struct fs) := ⟨_, Try.underlying69⟩
def have0 : Array Value := #[.slice none 0 0, .slice none 0 0, .int .i64 0, .int .i64 0, .int .i64 0, .slice none 0 0, .slice none 0 0, .int .i64 0, .int .i64 0, .int .i64 0, .slice none 0 0, .slice none 0 0, .int .i64 0, .int .i64 0, .int .i64 0, .slice none 0 0, .slice none 0 0, .int .i64 0, .int .i64 0, .int .i64 0]
theorem zer72 (w : World) : (zeroValue 72).run Try.prog w = .ok (.agg have0) w := by kernel_rfl
def hv0 : HV := ⟨fun _ => .slice none 0 0, fun _ => 0, fun _ => 0, fun _ => 0⟩
theorem have0_ok : HavA have0 hv0 := by
  refine ⟨rfl, fun c hc => ?_, fun c hc => ?_, fun c hc => ?_, fun c hc => ?_, fun c hc => ?_⟩ <;> rcases (by omega : c = 0 ∨ c = 1 ∨ c = 2 ∨ c = 3) with rfl | rfl | rfl | rfl <;> rfl
theorem lv67 (w : World) (ad : Addr) (v : Value) (h : w.cell? ad = some v) : (loadVar 67 ad).run Try.prog w = .ok v w := by simp [go_sem, loadVar, h]
theorem wpOm_stD {X : Nat → Prop} {w0 w : World} {L : List (Nat × Array Value × TypeId)} {o : Oper} {a : Act} {Q : Exit → Act → World → Prop} {K : Act → World → Prop} {h : HV} {C : Array Value} {t0 : TypeId}
    (HM : Hid (Mem X w0 w L)) (HA : Hid (HavA C h)) (x y : Operand) (ho : o.op = .store 69 x y) (hd : o.dst = none) (i : Nat) {b : Nat} (hi : L[i]? = some (b, C, t0)) (c : Nat) (hc : c < 4) (p q r : Int) (hx : a.eval x = .pointer (some ⟨b, c * 5 + 2, none⟩)) (hy : a.eval y = .agg #[.int .i64 p, .int .i64 q, .int .i64 r])
    (hk : ∀ W C', Hid (HavA C' (h.setD c p q r)) → Hid (Mem X w0 W (L.set i (b, C', t0))) → K a W) : o.wp Try.prog a w K Q :=
  wpOm_stm HM 69 x y ho hd i _ hi #[.int .i64 p, .int .i64 q, .int .i64 r] hx hy 3 inf69 rfl (by rw [HA.out.size]; omega) (by simp [Value.oneCell']) fun W hM => hk W _ (Lib.hid (HA.out.setD c hc p q r)) hM
end Go.Proofs.Ytgpdknacnmapiaa
