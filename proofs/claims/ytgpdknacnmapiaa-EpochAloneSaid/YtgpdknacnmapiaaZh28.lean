/-
  Parts of a proof, put together: Fg.
-/
import Derived.Test.YtgpdknacnmapiaaZh01
import Derived.Test.YtgpdknacnmapiaaZh02
import Derived.Test.YtgpdknacnmapiaaZh03
import Derived.Test.YtgpdknacnmapiaaZh04
import Derived.Test.YtgpdknacnmapiaaZh05
import Derived.Test.YtgpdknacnmapiaaZh06
import Derived.Test.YtgpdknacnmapiaaZh07
import Derived.Test.YtgpdknacnmapiaaZh08
import Derived.Test.YtgpdknacnmapiaaZh09
import Derived.Test.YtgpdknacnmapiaaZh10
import Derived.Test.YtgpdknacnmapiaaZh11
import Derived.Test.YtgpdknacnmapiaaZh12
import Derived.Test.YtgpdknacnmapiaaZh13
import Derived.Test.YtgpdknacnmapiaaZh14
import Derived.Test.YtgpdknacnmapiaaZh15
import Derived.Test.YtgpdknacnmapiaaZh16
import Derived.Test.YtgpdknacnmapiaaZh17
import Derived.Test.YtgpdknacnmapiaaZh18
import Derived.Test.YtgpdknacnmapiaaZh19
import Derived.Test.YtgpdknacnmapiaaZh20
import Derived.Test.YtgpdknacnmapiaaZh21
import Derived.Test.YtgpdknacnmapiaaZh22
import Derived.Test.YtgpdknacnmapiaaZh23
import Derived.Test.YtgpdknacnmapiaaZh24
import Derived.Test.YtgpdknacnmapiaaZh25
import Derived.Test.YtgpdknacnmapiaaZh26
import Derived.Test.YtgpdknacnmapiaaZh27
import Derived.Deep.QuietTactic
namespace Go.Proofs.Ytgpdknacnmapiaa
set_option linter.unusedVariables false
set_option linter.unusedSimpArgs false
open Go.RowKit
/-- where a client's program is -/
inductive S3 where
  | p0
  | p1 (e : Int)
  | p2 (e : Int)
  | p3 (e x : Int)
  | u0
  | a0
  | a1 (e : Int)
  | a2 (e : Int) (i : Nat) (x : Int)
/-- the frames (program's and document's), and what came, at a state -/
def InS (c : Nat) : S3 → Fr → Fr → Int → Prop
  | .p0, f, g, _ => f.pg = 52 ∧ f.st = 0 ∧ f.r 0 = c ∧ g.pg = 52 ∧ g.st = 0 ∧ g.r 0 = c
  | .p1 e, f, g, y => f.pg = 52 ∧ f.st = 1 ∧ f.r 0 = c ∧ g.pg = 52 ∧ g.st = 1 ∧ g.r 0 = c ∧ y = e
  | .p2 e, f, g, _ => f.pg = 52 ∧ f.st = 2 ∧ f.r 0 = c ∧ f.r 1 = e ∧ g.pg = 52 ∧ g.st = 2 ∧ g.r 0 = c ∧ g.r 1 = e
  | .p3 e x, f, g, y => f.pg = 52 ∧ f.st = 3 ∧ f.r 0 = c ∧ f.r 1 = e ∧ g.pg = 52 ∧ g.st = 3 ∧ g.r 0 = c ∧ g.r 1 = e ∧ y = x ∧ x ≠ e
  | .u0, f, g, _ => f.pg = 53 ∧ f.st = 0 ∧ f.r 0 = c ∧ g.pg = 53 ∧ g.st = 0 ∧ g.r 0 = c
  | .a0, f, g, _ => f.pg = 54 ∧ f.st = 0 ∧ g.pg = 54 ∧ g.st = 0
  | .a1 e, f, g, y => f.pg = 54 ∧ f.st = 1 ∧ g.pg = 54 ∧ g.st = 1 ∧ y = e
  | .a2 e i x, f, g, y => f.pg = 54 ∧ f.st = 2 ∧ f.r 0 = e ∧ f.r 1 = (i : Int) + 1 ∧ g.pg = 54 ∧ g.st = 2 ∧ g.r 0 = e ∧ g.r 1 = (i : Int) ∧ y = x ∧ i < 4 ∧ (x = 0 ∨ x = e + 1)
/-- the numbers of a state are small -/
def Bs3 (N : Int) : S3 → Prop
  | .p1 e => 0 ≤ e ∧ e ≤ N
  | .p2 e => 0 ≤ e ∧ e ≤ N
  | .p3 e x => (0 ≤ e ∧ e ≤ N) ∧ 0 ≤ x ∧ x ≤ N
  | .a1 e => 0 ≤ e ∧ e ≤ N
  | .a2 e i x => (0 ≤ e ∧ e ≤ N) ∧ i < 4 ∧ (x = 0 ∨ x = e + 1)
  | _ => True
/-- the next action -/
def acK : S3 → Int
  | .p1 _ => 1
  | .p3 _ _ => 1
  | .u0 => 1
  | .a2 _ i _ => if i + 1 < 4 then 0 else 2
  | _ => 0
def acA (c : Nat) : S3 → Nat
  | .p1 _ => 5 + c
  | .p3 _ _ => 5 + c
  | .u0 => 5 + c
  | .a1 _ => 5
  | .a2 _ i _ => if i + 1 < 4 then 5 + (i + 1) else 2
  | _ => 2
def acB : S3 → Int
  | .a2 e i _ => if i + 1 < 4 then 0 else e
  | _ => 0
def acV : S3 → Int
  | .p1 e => e + 1
  | .p3 _ x => x + 1
  | .a2 e i _ => if i + 1 < 4 then 0 else e + 1
  | _ => 0
/-- the state behind it, when y came; or the answer -/
def aftS : S3 → Int → S3 ⊕ List Int
  | .p0, y => .inl (.p1 y)
  | .p1 e, _ => .inl (.p2 e)
  | .p2 e, y => if y = e then .inr [y] else .inl (.p3 e y)
  | .p3 _ x, _ => .inl (.p2 x)
  | .u0, _ => .inr []
  | .a0, y => .inl (.a1 y)
  | .a1 e, y => if y = 0 ∨ y = e + 1 then .inl (.a2 e 0 y) else .inr [0]
  | .a2 e i _, y => if i + 1 < 4 then (if y = 0 ∨ y = e + 1 then .inl (.a2 e (i + 1) y) else .inr [0]) else .inr [y]
def C32 (f : Fr) (x : Int) (f2 : Fr) (k a bb v : Int) (la : List Int) : Prop := ∀ vv w, GotV w vv x → Calls Try.prog 32 #[.agg f.cells, vv] w fun e w' => AnsB w w' e f2 k a bb v la ∧ Below w.heap.size w w'
def C53 (f : Fr) (x : Int) (f2 : Fr) (k a bb v : Int) (la : List Int) : Prop := ∀ vv w, GotV w vv x → Calls Try.prog 53 #[.agg f.cells, vv] w fun e w' => AnsB w w' e f2 k a bb v la ∧ Below w.heap.size w w'
/-- what holds behind an action -/
def AftP (c : Nat) (f2 g2 : Fr) (y : Int) : S3 ⊕ List Int → Prop
  | .inl s => InS c s f2 g2 y
  | .inr la => C32 f2 y f2 7 0 0 0 la ∧ C53 g2 y g2 7 0 0 0 la
theorem a2_end {e y : Int} {f g : Fr} (he : 0 ≤ e ∧ e ≤ 999999) (hf : f.pg = 54 ∧ f.st = 2 ∧ f.r 0 = e) (hg : g.pg = 54 ∧ g.st = 2 ∧ g.r 0 = e) (h : ¬ (y = 0 ∨ y = e + 1)) : C32 f y f 7 0 0 0 [0] ∧ C53 g y g 7 0 0 0 [0] := by
  have h0 : y ≠ 0 := fun h' => h (.inl h')
  have h1 : y ≠ e + 1 := fun h' => h (.inr h')
  exact ⟨ad13_2e f y hf.1 hf.2.1 e hf.2.2 ⟨by omega, by omega⟩ h0 h1, ar13_2e g y hg.1 hg.2.1 e hg.2.2 ⟨by omega, by omega⟩ h0 h1⟩
theorem nextS (c : Nat) (hc : c < 4) (st : S3) (f g : Fr) (x : Int) (h : InS c st f g x) (hb : Bs3 999999 st) : ∃ f2 g2, C32 f x f2 (acK st) (acA c st) (acB st) (acV st) [] ∧ C53 g x g2 (acK st) (acA c st) (acB st) (acV st) [] ∧ ∀ y, AftP c f2 g2 y (aftS st y) := by
  have h4 : (0 : Int) ≤ (c : Int) ∧ (c : Int) < 4 := ⟨by omega, by omega⟩
  have hcc : ((5 + c : Nat) : Int) = 5 + (c : Int) := by omega
  cases st with
  | p0 =>
    obtain ⟨f1, f2, f3, g1, g2, g3⟩ := h
    exact ⟨_, _, pn13_0 f x f1 f2, pr13_0 g x g1 g2, fun y => ⟨f1, rfl, f3, g1, rfl, g3, rfl⟩⟩
  | p1 e =>
    obtain ⟨f1, f2, f3, g1, g2, g3, rfl⟩ := h
    refine ⟨(f.reg 1 x).at_ 2, (g.reg 1 x).at_ 2, ?_, ?_, fun y => ⟨f1, rfl, by simpa [Fr.at_, Fr.reg] using f3, by simp [Fr.at_, Fr.reg], g1, rfl, by simpa [Fr.at_, Fr.reg] using g3, by simp [Fr.at_, Fr.reg]⟩⟩
    · show C32 _ _ _ 1 ((5 + c : Nat) : Int) 0 (x + 1) []
      rw [hcc]; exact pn13_1 f x f1 f2 c f3 h4 ⟨hb.1, by have := hb.2; omega⟩
    · show C53 _ _ _ 1 ((5 + c : Nat) : Int) 0 (x + 1) []
      rw [hcc]; exact pr13_1 g x g1 g2 c g3 h4 ⟨hb.1, by have := hb.2; omega⟩
  | p2 e =>
    obtain ⟨f1, f2, f3, f4, g1, g2, g3, g4⟩ := h
    refine ⟨_, _, pn13_2 f x f1 f2, pr13_2 g x g1 g2, fun y => ?_⟩
    simp only [aftS]
    by_cases e1 : y = e
    · simp only [e1, if_true]
      exact ⟨pn13_3e (f.at_ 3) e f1 rfl f4, pr13_3e (g.at_ 3) e g1 rfl g4⟩
    · rw [if_neg e1]
      exact ⟨f1, rfl, f3, f4, g1, rfl, g3, g4, rfl, e1⟩
  | p3 e x2 =>
    obtain ⟨f1, f2, f3, f4, g1, g2, g3, g4, rfl, hne⟩ := h
    refine ⟨(f.reg 1 x).at_ 2, (g.reg 1 x).at_ 2, ?_, ?_, fun y => ⟨f1, rfl, by simpa [Fr.at_, Fr.reg] using f3, by simp [Fr.at_, Fr.reg], g1, rfl, by simpa [Fr.at_, Fr.reg] using g3, by simp [Fr.at_, Fr.reg]⟩⟩
    · show C32 _ _ _ 1 ((5 + c : Nat) : Int) 0 (x + 1) []
      rw [hcc]; exact pn13_3g f x f1 f2 c e f3 f4 hne h4 ⟨hb.2.1, by have := hb.2.2; omega⟩
    · show C53 _ _ _ 1 ((5 + c : Nat) : Int) 0 (x + 1) []
      rw [hcc]; exact pr13_3g g x g1 g2 c e g3 g4 hne h4 ⟨hb.2.1, by have := hb.2.2; omega⟩
  | u0 =>
    obtain ⟨f1, f2, f3, g1, g2, g3⟩ := h
    refine ⟨f.at_ 1, g.at_ 1, ?_, ?_, fun y => ⟨un13_1 (f.at_ 1) y f1 rfl, ur13_1 (g.at_ 1) y g1 rfl⟩⟩
    · show C32 _ _ _ 1 ((5 + c : Nat) : Int) 0 0 []
      rw [hcc]; exact un13_0 f x f1 f2 c f3 h4
    · show C53 _ _ _ 1 ((5 + c : Nat) : Int) 0 0 []
      rw [hcc]; exact ur13_0 g x g1 g2 c g3 h4
  | a0 =>
    obtain ⟨f1, f2, g1, g2⟩ := h
    exact ⟨_, _, ad13_0 f x f1 f2, ar13_0 g x g1 g2, fun y => ⟨f1, rfl, g1, rfl, rfl⟩⟩
  | a1 e =>
    obtain ⟨f1, f2, g1, g2, rfl⟩ := h
    refine ⟨_, _, ad13_1 f x f1 f2 ⟨hb.1, by have := hb.2; omega⟩, ar13_1 g x g1 g2, fun y => ?_⟩
    simp only [aftS]
    by_cases e1 : y = 0 ∨ y = x + 1
    · rw [if_pos e1]
      exact ⟨f1, rfl, by simp [Fr.at_, Fr.reg], by simp [Fr.at_, Fr.reg], g1, rfl, by simp [Fr.at_, Fr.reg], by simp [Fr.at_, Fr.reg], rfl, by omega, e1⟩
    · rw [if_neg e1]
      exact a2_end hb ⟨f1, rfl, by simp [Fr.at_, Fr.reg]⟩ ⟨g1, rfl, by simp [Fr.at_, Fr.reg]⟩ e1
  | a2 e i x2 =>
    obtain ⟨f1, f2, f3, f4, g1, g2, g3, g4, rfl, hi, hx⟩ := h
    have he : 0 ≤ e ∧ e ≤ 1000000 := ⟨hb.1.1, by have := hb.1.2; omega⟩
    by_cases e4 : i + 1 < 4
    · have hk : acK (.a2 e i x) = 0 := by simp only [acK]; rw [if_pos e4]
      have ha : ((acA c (.a2 e i x) : Nat) : Int) = 5 + ((i : Int) + 1) := by simp only [acA]; rw [if_pos e4]; omega
      have hbb : acB (.a2 e i x) = 0 := by simp only [acB]; rw [if_pos e4]
      have hv : acV (.a2 e i x) = 0 := by simp only [acV]; rw [if_pos e4]
      have hc4 : (0 : Int) ≤ (i : Int) + 1 ∧ (i : Int) + 1 < 4 := ⟨by omega, by omega⟩
      have hc3 : (0 : Int) ≤ (i : Int) ∧ (i : Int) < 3 := ⟨by omega, by omega⟩
      rw [hk, ha, hbb, hv]
      refine ⟨(f.reg 1 ((i : Int) + 1 + 1)).at_ 2, (g.reg 1 ((i : Int) + 1)).at_ 2, ?_, ?_, fun y => ?_⟩
      · rcases hx with h0 | h1
        · exact ad13_2cz f x f1 f2 e f3 he _ f4 hc4 h0
        · exact ad13_2cn f x f1 f2 e f3 he _ f4 hc4 (by omega) h1
      · rcases hx with h0 | h1
        · exact ar13_2cz g x g1 g2 e g3 he _ g4 hc3 h0
        · exact ar13_2cn g x g1 g2 e g3 he _ g4 hc3 (by omega) h1
      · simp only [aftS]
        rw [if_pos e4]
        by_cases e1 : y = 0 ∨ y = e + 1
        · rw [if_pos e1]
          exact ⟨f1, rfl, by simpa [Fr.at_, Fr.reg] using f3, by simp [Fr.at_, Fr.reg], g1, rfl, by simpa [Fr.at_, Fr.reg] using g3, by simp [Fr.at_, Fr.reg], rfl, by omega, e1⟩
        · rw [if_neg e1]
          exact a2_end hb.1 ⟨f1, rfl, by simpa [Fr.at_, Fr.reg] using f3⟩ ⟨g1, rfl, by simpa [Fr.at_, Fr.reg] using g3⟩ e1
    · have hk : acK (.a2 e i x) = 2 := by simp only [acK]; rw [if_neg e4]
      have ha : ((acA c (.a2 e i x) : Nat) : Int) = 2 := by simp only [acA]; rw [if_neg e4]; rfl
      have hbb : acB (.a2 e i x) = e := by simp only [acB]; rw [if_neg e4]
      have hv : acV (.a2 e i x) = e + 1 := by simp only [acV]; rw [if_neg e4]
      have i3 : i = 3 := by omega
      rw [hk, ha, hbb, hv]
      refine ⟨f.at_ 3, (g.reg 1 4).at_ 3, ?_, ?_, fun y => ?_⟩
      · rcases hx with h0 | h1
        · exact ad13_2lz f x f1 f2 e f3 he (by rw [f4]; omega) h0
        · exact ad13_2ln f x f1 f2 e f3 he (by rw [f4]; omega) (by omega) h1
      · rcases hx with h0 | h1
        · exact ar13_2lz g x g1 g2 e g3 he (by rw [g4]; omega) h0
        · exact ar13_2ln g x g1 g2 e g3 he (by rw [g4]; omega) (by omega) h1
      · simp only [aftS]
        rw [if_neg e4]
        exact ⟨ad13_3 (f.at_ 3) y f1 rfl, ar13_3 ((g.reg 1 4).at_ 3) y g1 rfl⟩
/-- what came of an action, of these cells; the cells behind it -/
def yS (c : Nat) (st : S3) (l : List Int) : Int := if acK st = 0 then l.getD (acA c st) 0 else if acK st = 1 then 0 else if l.getD 2 0 = acB st then 1 else 0
def lS (c : Nat) (st : S3) (l : List Int) : List Int := if acK st = 0 then l else if acK st = 1 then l.set (acA c st) (acV st) else if l.getD 2 0 = acB st then l.set 2 (acV st) else l
theorem lS_len (c : Nat) (st : S3) (l : List Int) : (lS c st l).length = l.length := by unfold lS; split; rfl; split; simp; split; simp; rfl
theorem acA_lt (c : Nat) (hc : c < 4) (st : S3) : 2 ≤ acA c st ∧ acA c st < 9 := by
  cases st <;> simp only [acA] <;> first | omega | (split <;> omega)
theorem acV_le (st : S3) (N : Int) (hN : 0 ≤ N) (hb : Bs3 N st) : 0 ≤ acV st ∧ acV st ≤ N + 1 := by
  cases st <;> simp only [acV, Bs3] at hb ⊢ <;> first | omega | (split <;> omega)
theorem okS (c : Nat) (hc : c < 4) (st : S3) (hb : Bs3 999999 st) : OkA (acK st) (acA c st) (acB st) (acV st) 0 ∧ acK st < 6 := by
  have ha := acA_lt c hc st
  have hv := acV_le st 999999 (by omega) hb
  have hB : 0 ≤ acB st ∧ acB st ≤ 999999 := by cases st <;> simp only [acB, Bs3] at hb ⊢ <;> first | omega | (split <;> omega)
  cases st <;> simp only [acK, acB, acV] at hv hB ⊢ <;> unfold OkA <;> first | omega | (split at hv <;> simp_all <;> omega)
theorem doB0 (n : Nat) (l : List Int) (hn : n < 771) (hl : l.length = 771) : DoB 0 n 0 0 (l.getD n 0) l l := fun Q w cv d1 d2 ao ac hP h0 h1 h2 =>
  do_w0 w hP h0 h1 h2 n 0 0 _ ao ac hn (by rw [List.getD_eq_getElem?_getD, List.getElem?_eq_getElem (by omega)]; rfl) ⟨by omega, by omega⟩ ⟨by omega, by omega⟩
theorem doB1 (n : Nat) (v : Int) (l : List Int) (hn : n < 771) (hl : l.length = 771) (hv : 0 ≤ v ∧ v ≤ 1000000) : DoB 1 n 0 v 0 l (l.set n v) := fun Q w cv d1 d2 ao ac hP h0 h1 h2 =>
  do_w1 w hP h0 h1 h2 n 0 v (l.getD n 0) ao ac hn (by rw [List.getD_eq_getElem?_getD, List.getElem?_eq_getElem (by omega)]; rfl) ⟨by omega, by omega⟩ ⟨by omega, by omega⟩
theorem doB2t (n : Nat) (bb v : Int) (l : List Int) (hn : n < 771) (hl : l.length = 771) (hb : 0 ≤ bb ∧ bb ≤ 1000000) (hv : 0 ≤ v ∧ v ≤ 1000000) (he : l.getD n 0 = bb) : DoB 2 n bb v 1 l (l.set n v) := fun Q w cv d1 d2 ao ac hP h0 h1 h2 =>
  do_w2t w hP h0 h1 h2 n bb v (l.getD n 0) ao ac hn (by rw [List.getD_eq_getElem?_getD, List.getElem?_eq_getElem (by omega)]; rfl) ⟨by omega, by omega⟩ ⟨by omega, by omega⟩ he
theorem doB2f (n : Nat) (bb v : Int) (l : List Int) (hn : n < 771) (hl : l.length = 771) (hb : 0 ≤ bb ∧ bb ≤ 1000000) (hv : 0 ≤ v ∧ v ≤ 1000000) (he : l.getD n 0 ≠ bb) : DoB 2 n bb v 0 l l := fun Q w cv d1 d2 ao ac hP h0 h1 h2 =>
  do_w2f w hP h0 h1 h2 n bb v (l.getD n 0) ao ac hn (by rw [List.getD_eq_getElem?_getD, List.getElem?_eq_getElem (by omega)]; rfl) ⟨by omega, by omega⟩ ⟨by omega, by omega⟩ he
theorem doS (c : Nat) (hc : c < 4) (st : S3) (l : List Int) (hl : l.length = 771) (hb : Bs3 999999 st) : DoB (acK st) (acA c st) (acB st) (acV st) (yS c st l) l (lS c st l) := by
  have ha := acA_lt c hc st
  have hv := acV_le st 999999 (by omega) hb
  have hB : 0 ≤ acB st ∧ acB st ≤ 999999 := by cases st <;> simp only [acB, Bs3] at hb ⊢ <;> first | omega | (split <;> omega)
  have hk : (acK st = 0 ∧ acB st = 0 ∧ acV st = 0) ∨ (acK st = 1 ∧ acB st = 0) ∨ (acK st = 2 ∧ acA c st = 2) := by
    cases st <;> simp only [acK, acB, acV, acA] <;> first | (simp; done) | (split <;> simp)
  rcases hk with ⟨h1, h2, h3⟩ | ⟨h1, h2⟩ | ⟨h1, h2⟩
  · have e1 : yS c st l = l.getD (acA c st) 0 := by unfold yS; rw [if_pos h1]
    have e2 : lS c st l = l := by unfold lS; rw [if_pos h1]
    rw [e1, e2, h1, h2, h3]
    exact doB0 _ l (by omega) hl
  · have e1 : yS c st l = 0 := by unfold yS; rw [if_neg (by omega), if_pos h1]
    have e2 : lS c st l = l.set (acA c st) (acV st) := by unfold lS; rw [if_neg (by omega), if_pos h1]
    rw [e1, e2, h1, h2]
    exact doB1 _ _ l (by omega) hl ⟨by omega, by omega⟩
  · by_cases he : l.getD 2 0 = acB st
    · have e1 : yS c st l = 1 := by unfold yS; rw [if_neg (by omega), if_neg (by omega), if_pos he]
      have e2 : lS c st l = l.set 2 (acV st) := by unfold lS; rw [if_neg (by omega), if_neg (by omega), if_pos he]
      rw [e1, e2, h1, h2]
      exact doB2t 2 _ _ l (by omega) hl ⟨by omega, by omega⟩ ⟨by omega, by omega⟩ he
    · have e1 : yS c st l = 0 := by unfold yS; rw [if_neg (by omega), if_neg (by omega), if_neg he]
      have e2 : lS c st l = l := by unfold lS; rw [if_neg (by omega), if_neg (by omega), if_neg he]
      rw [e1, e2, h1, h2]
      exact doB2f 2 _ _ l (by omega) hl ⟨by omega, by omega⟩ ⟨by omega, by omega⟩ he
/-- the cells that count are small -/
def CB (N : Int) (l : List Int) : Prop := ∀ i, 2 ≤ i → i < 9 → 0 ≤ l.getD i 0 ∧ l.getD i 0 ≤ N
theorem getD_set (l : List Int) (k i : Nat) (v : Int) (hk : k < l.length) : (l.set k v).getD i 0 = if k = i then v else l.getD i 0 := by
  rw [List.getD_eq_getElem?_getD, List.getElem?_set]
  by_cases e : k = i
  · subst e; rw [if_pos rfl, if_pos hk, if_pos rfl]; rfl
  · rw [if_neg e, if_neg e, List.getD_eq_getElem?_getD]
theorem CB.set {N : Int} {l : List Int} (h : CB N l) (k : Nat) (v : Int) (hk : k < l.length) (hv : 0 ≤ v ∧ v ≤ N) : CB N (l.set k v) := fun i h1 h2 => by
  rw [getD_set _ _ _ _ hk]
  split
  · exact hv
  · exact h i h1 h2
theorem CB.mono {N M : Int} {l : List Int} (h : CB N l) (hm : N ≤ M) : CB M l := fun i h1 h2 => ⟨(h i h1 h2).1, Int.le_trans (h i h1 h2).2 hm⟩
theorem Bs3.mono {N M : Int} {st : S3} (h : Bs3 N st) (hm : N ≤ M) : Bs3 M st := by
  cases st <;> simp only [Bs3] at h ⊢ <;> omega
theorem lS_cb (c : Nat) (hc : c < 4) (st : S3) (l : List Int) (hl : l.length = 771) (N : Int) (hN : 0 ≤ N) (hb : Bs3 N st) (h : CB N l) : CB (N + 1) (lS c st l) := by
  have ha := acA_lt c hc st
  have hv := acV_le st N hN hb
  have h' := h.mono (show N ≤ N + 1 by omega)
  unfold lS
  split
  · exact h'
  · split
    · exact h'.set _ _ (by omega) hv
    · split
      · exact h'.set _ _ (by omega) hv
      · exact h'
theorem yS_le (c : Nat) (hc : c < 4) (st : S3) (l : List Int) (N : Int) (hN : 1 ≤ N) (h : CB N l) : 0 ≤ yS c st l ∧ yS c st l ≤ N := by
  have ha := acA_lt c hc st
  unfold yS
  split
  · exact h _ ha.1 ha.2
  · split
    · omega
    · split <;> omega
theorem aft_bd (st : S3) (N y : Int) (hb : Bs3 N st) (hy : 0 ≤ y ∧ y ≤ N) : ∀ s', aftS st y = .inl s' → Bs3 N s' := by
  intro s' h
  cases st with
  | p0 => simp only [aftS] at h; injection h with h; subst h; exact hy
  | p1 e => simp only [aftS] at h; injection h with h; subst h; exact hb
  | p2 e =>
    simp only [aftS] at h
    split at h
    · cases h
    · injection h with h; subst h; exact ⟨hb, hy⟩
  | p3 e x => simp only [aftS] at h; injection h with h; subst h; exact hb.2
  | u0 => simp only [aftS] at h; cases h
  | a0 => simp only [aftS] at h; injection h with h; subst h; exact hy
  | a1 e =>
    simp only [aftS] at h
    split at h
    · next hh => injection h with h; subst h; exact ⟨hb, by omega, hh⟩
    · cases h
  | a2 e i x =>
    simp only [aftS] at h
    split at h
    · next h4 =>
      split at h
      · next hh => injection h with h; subst h; exact ⟨hb.1, h4, hh⟩
      · cases h
    · cases h
end Go.Proofs.Ytgpdknacnmapiaa
