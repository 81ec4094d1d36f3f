/-
  Parts of a proof, put together: Fg, Fh.
-/
import Derived.Test.YtgpdknacnmapiaaZg01
import Derived.Test.YtgpdknacnmapiaaZg02
import Derived.Test.YtgpdknacnmapiaaZg03
import Derived.Test.YtgpdknacnmapiaaZg04
import Derived.Test.YtgpdknacnmapiaaZg05
import Derived.Test.YtgpdknacnmapiaaZg06
import Derived.Test.YtgpdknacnmapiaaZg07
import Derived.Test.YtgpdknacnmapiaaZg08
import Derived.Test.YtgpdknacnmapiaaZg09
import Derived.Test.YtgpdknacnmapiaaZg10
import Derived.Test.YtgpdknacnmapiaaZg11
import Derived.Test.YtgpdknacnmapiaaZg12
import Derived.Test.YtgpdknacnmapiaaZg13
import Derived.Test.YtgpdknacnmapiaaZg14
import Derived.Test.YtgpdknacnmapiaaZg15
import Derived.Test.YtgpdknacnmapiaaZg16
import Derived.Test.YtgpdknacnmapiaaZg17
import Derived.Test.YtgpdknacnmapiaaZg18
import Derived.Test.YtgpdknacnmapiaaZg19
import Derived.Test.YtgpdknacnmapiaaZg20
import Derived.Test.YtgpdknacnmapiaaZg21
import Derived.Test.YtgpdknacnmapiaaZg22
import Derived.Test.YtgpdknacnmapiaaZg23
import Derived.Test.YtgpdknacnmapiaaZg24
import Derived.Test.YtgpdknacnmapiaaZg25
import Derived.Test.YtgpdknacnmapiaaZg26
import Derived.Test.YtgpdknacnmapiaaZg27
import Derived.Deep.QuietTactic
namespace Go.Proofs.Ytgpdknacnmapiaa
set_option linter.unusedVariables false
set_option linter.unusedSimpArgs false
open Go.RowKit
/-- where a client's program is -/
inductive S3 where
  | p0
  | p1 (e : Int)
  | p2 (e : Int)
  | p3 (e x : Int)
  | u0
  | a0
  | a1 (e : Int)
  | a2 (e : Int) (i : Nat) (x : Int)
/-- the frames (program's and document's), and what came, at a state -/
def InS (c : Nat) : S3 → Fr → Fr → Int → Prop
  | .p0, f, g, _ => f.pg = 52 ∧ f.st = 0 ∧ f.r 0 = c ∧ g.pg = 52 ∧ g.st = 0 ∧ g.r 0 = c
  | .p1 e, f, g, y => f.pg = 52 ∧ f.st = 1 ∧ f.r 0 = c ∧ g.pg = 52 ∧ g.st = 1 ∧ g.r 0 = c ∧ y = e
  | .p2 e, f, g, _ => f.pg = 52 ∧ f.st = 2 ∧ f.r 0 = c ∧ f.r 1 = e ∧ g.pg = 52 ∧ g.st = 2 ∧ g.r 0 = c ∧ g.r 1 = e
  | .p3 e x, f, g, y => f.pg = 52 ∧ f.st = 3 ∧ f.r 0 = c ∧ f.r 1 = e ∧ g.pg = 52 ∧ g.st = 3 ∧ g.r 0 = c ∧ g.r 1 = e ∧ y = x ∧ x ≠ e
  | .u0, f, g, _ => f.pg = 53 ∧ f.st = 0 ∧ f.r 0 = c ∧ g.pg = 53 ∧ g.st = 0 ∧ g.r 0 = c
  | .a0, f, g, _ => f.pg = 54 ∧ f.st = 0 ∧ g.pg = 54 ∧ g.st = 0
  | .a1 e, f, g, y => f.pg = 54 ∧ f.st = 1 ∧ g.pg = 54 ∧ g.st = 1 ∧ y = e
  | .a2 e i x, f, g, y => f.pg = 54 ∧ f.st = 2 ∧ f.r 0 = e ∧ f.r 1 = (i : Int) + 1 ∧ g.pg = 54 ∧ g.st = 2 ∧ g.r 0 = e ∧ g.r 1 = (i : Int) ∧ y = x ∧ i < 4 ∧ (x = 0 ∨ x = e + 1)
/-- the numbers of a state are small -/
def Bs3 (N : Int) : S3 → Prop
  | .p1 e => 0 ≤ e ∧ e ≤ N
  | .p2 e => 0 ≤ e ∧ e ≤ N
  | .p3 e x => (0 ≤ e ∧ e ≤ N) ∧ 0 ≤ x ∧ x ≤ N
  | .a1 e => 0 ≤ e ∧ e ≤ N
  | .a2 e i x => (0 ≤ e ∧ e ≤ N) ∧ i < 4 ∧ (x = 0 ∨ x = e + 1)
  | _ => True
/-- the next action -/
def acK : S3 → Int
  | .p1 _ => 1
  | .p3 _ _ => 1
  | .u0 => 1
  | .a2 _ i _ => if i + 1 < 4 then 0 else 2
  | _ => 0
def acA (c : Nat) : S3 → Nat
  | .p1 _ => 5 + c
  | .p3 _ _ => 5 + c
  | .u0 => 5 + c
  | .a1 _ => 5
  | .a2 _ i _ => if i + 1 < 4 then 5 + (i + 1) else 2
  | _ => 2
def acB : S3 → Int
  | .a2 e i _ => if i + 1 < 4 then 0 else e
  | _ => 0
def acV : S3 → Int
  | .p1 e => e + 1
  | .p3 _ x => x + 1
  | .a2 e i _ => if i + 1 < 4 then 0 else e + 1
  | _ => 0
/-- the state behind it, when y came; or the answer -/
def aftS : S3 → Int → S3 ⊕ List Int
  | .p0, y => .inl (.p1 y)
  | .p1 e, _ => .inl (.p2 e)
  | .p2 e, y => if y = e then .inr [y] else .inl (.p3 e y)
  | .p3 _ x, _ => .inl (.p2 x)
  | .u0, _ => .inr []
  | .a0, y => .inl (.a1 y)
  | .a1 e, y => if y = 0 ∨ y = e + 1 then .inl (.a2 e 0 y) else .inr [0]
  | .a2 e i _, y => if i + 1 < 4 then (if y = 0 ∨ y = e + 1 then .inl (.a2 e (i + 1) y) else .inr [0]) else .inr [y]
def C32 (f : Fr) (x : Int) (f2 : Fr) (k a bb v : Int) (la : List Int) : Prop := ∀ vv w, GotV w vv x → Calls Try.prog 32 #[.agg f.cells, vv] w fun e w' => AnsB w w' e f2 k a bb v la ∧ Below w.heap.size w w'
def C53 (f : Fr) (x : Int) (f2 : Fr) (k a bb v : Int) (la : List Int) : Prop := ∀ vv w, GotV w vv x → Calls Try.prog 53 #[.agg f.cells, vv] w fun e w' => AnsB w w' e f2 k a bb v la ∧ Below w.heap.size w w'
/-- what holds behind an action -/
def AftP (c : Nat) (f2 g2 : Fr) (y : Int) : S3 ⊕ List Int → Prop
  | .inl s => InS c s f2 g2 y
  | .inr la => C32 f2 y f2 7 0 0 0 la ∧ C53 g2 y g2 7 0 0 0 la
theorem a2_end {e y : Int} {f g : Fr} (he : 0 ≤ e ∧ e ≤ 999999) (hf : f.pg = 54 ∧ f.st = 2 ∧ f.r 0 = e) (hg : g.pg = 54 ∧ g.st = 2 ∧ g.r 0 = e) (h : ¬ (y = 0 ∨ y = e + 1)) : C32 f y f 7 0 0 0 [0] ∧ C53 g y g 7 0 0 0 [0] := by
  have h0 : y ≠ 0 := fun h' => h (.inl h')
  have h1 : y ≠ e + 1 := fun h' => h (.inr h')
  exact ⟨ad13_2e f y hf.1 hf.2.1 e hf.2.2 ⟨by omega, by omega⟩ h0 h1, ar13_2e g y hg.1 hg.2.1 e hg.2.2 ⟨by omega, by omega⟩ h0 h1⟩
theorem nextS (c : Nat) (hc : c < 4) (st : S3) (f g : Fr) (x : Int) (h : InS c st f g x) (hb : Bs3 999999 st) : ∃ f2 g2, C32 f x f2 (acK st) (acA c st) (acB st) (acV st) [] ∧ C53 g x g2 (acK st) (acA c st) (acB st) (acV st) [] ∧ ∀ y, AftP c f2 g2 y (aftS st y) := by
  have h4 : (0 : Int) ≤ (c : Int) ∧ (c : Int) < 4 := ⟨by omega, by omega⟩
  have hcc : ((5 + c : Nat) : Int) = 5 + (c : Int) := by omega
  cases st with
  | p0 =>
    obtain ⟨f1, f2, f3, g1, g2, g3⟩ := h
    exact ⟨_, _, pn13_0 f x f1 f2, pr13_0 g x g1 g2, fun y => ⟨f1, rfl, f3, g1, rfl, g3, rfl⟩⟩
  | p1 e =>
    obtain ⟨f1, f2, f3, g1, g2, g3, rfl⟩ := h
    refine ⟨(f.reg 1 x).at_ 2, (g.reg 1 x).at_ 2, ?_, ?_, fun y => ⟨f1, rfl, by simpa [Fr.at_, Fr.reg] using f3, by simp [Fr.at_, Fr.reg], g1, rfl, by simpa [Fr.at_, Fr.reg] using g3, by simp [Fr.at_, Fr.reg]⟩⟩
    · show C32 _ _ _ 1 ((5 + c : Nat) : Int) 0 (x + 1) []
      rw [hcc]; exact pn13_1 f x f1 f2 c f3 h4 ⟨hb.1, by have := hb.2; omega⟩
    · show C53 _ _ _ 1 ((5 + c : Nat) : Int) 0 (x + 1) []
      rw [hcc]; exact pr13_1 g x g1 g2 c g3 h4 ⟨hb.1, by have := hb.2; omega⟩
  | p2 e =>
    obtain ⟨f1, f2, f3, f4, g1, g2, g3, g4⟩ := h
    refine ⟨_, _, pn13_2 f x f1 f2, pr13_2 g x g1 g2, fun y => ?_⟩
    simp only [aftS]
    by_cases e1 : y = e
    · simp only [e1, if_true]
      exact ⟨pn13_3e (f.at_ 3) e f1 rfl f4, pr13_3e (g.at_ 3) e g1 rfl g4⟩
    · rw [if_neg e1]
      exact ⟨f1, rfl, f3, f4, g1, rfl, g3, g4, rfl, e1⟩
  | p3 e x2 =>
    obtain ⟨f1, f2, f3, f4, g1, g2, g3, g4, rfl, hne⟩ := h
    refine ⟨(f.reg 1 x).at_ 2, (g.reg 1 x).at_ 2, ?_, ?_, fun y => ⟨f1, rfl, by simpa [Fr.at_, Fr.reg] using f3, by simp [Fr.at_, Fr.reg], g1, rfl, by simpa [Fr.at_, Fr.reg] using g3, by simp [Fr.at_, Fr.reg]⟩⟩
    · show C32 _ _ _ 1 ((5 + c : Nat) : Int) 0 (x + 1) []
      rw [hcc]; exact pn13_3g f x f1 f2 c e f3 f4 hne h4 ⟨hb.2.1, by have := hb.2.2; omega⟩
    · show C53 _ _ _ 1 ((5 + c : Nat) : Int) 0 (x + 1) []
      rw [hcc]; exact pr13_3g g x g1 g2 c e g3 g4 hne h4 ⟨hb.2.1, by have := hb.2.2; omega⟩
  | u0 =>
    obtain ⟨f1, f2, f3, g1, g2, g3⟩ := h
    refine ⟨f.at_ 1, g.at_ 1, ?_, ?_, fun y => ⟨un13_1 (f.at_ 1) y f1 rfl, ur13_1 (g.at_ 1) y g1 rfl⟩⟩
    · show C32 _ _ _ 1 ((5 + c : Nat) : Int) 0 0 []
      rw [hcc]; exact un13_0 f x f1 f2 c f3 h4
    · show C53 _ _ _ 1 ((5 + c : Nat) : Int) 0 0 []
      rw [hcc]; exact ur13_0 g x g1 g2 c g3 h4
  | a0 =>
    obtain ⟨f1, f2, g1, g2⟩ := h
    exact ⟨_, _, ad13_0 f x f1 f2, ar13_0 g x g1 g2, fun y => ⟨f1, rfl, g1, rfl, rfl⟩⟩
  | a1 e =>
    obtain ⟨f1, f2, g1, g2, rfl⟩ := h
    refine ⟨_, _, ad13_1 f x f1 f2 ⟨hb.1, by have := hb.2; omega⟩, ar13_1 g x g1 g2, fun y => ?_⟩
    simp only [aftS]
    by_cases e1 : y = 0 ∨ y = x + 1
    · rw [if_pos e1]
      exact ⟨f1, rfl, by simp [Fr.at_, Fr.reg], by simp [Fr.at_, Fr.reg], g1, rfl, by simp [Fr.at_, Fr.reg], by simp [Fr.at_, Fr.reg], rfl, by omega, e1⟩
    · rw [if_neg e1]
      exact a2_end hb ⟨f1, rfl, by simp [Fr.at_, Fr.reg]⟩ ⟨g1, rfl, by simp [Fr.at_, Fr.reg]⟩ e1
  | a2 e i x2 =>
    obtain ⟨f1, f2, f3, f4, g1, g2, g3, g4, rfl, hi, hx⟩ := h
    have he : 0 ≤ e ∧ e ≤ 1000000 := ⟨hb.1.1, by have := hb.1.2; omega⟩
    by_cases e4 : i + 1 < 4
    · have hk : acK (.a2 e i x) = 0 := by simp only [acK]; rw [if_pos e4]
      have ha : ((acA c (.a2 e i x) : Nat) : Int) = 5 + ((i : Int) + 1) := by simp only [acA]; rw [if_pos e4]; omega
      have hbb : acB (.a2 e i x) = 0 := by simp only [acB]; rw [if_pos e4]
      have hv : acV (.a2 e i x) = 0 := by simp only [acV]; rw [if_pos e4]
      have hc4 : (0 : Int) ≤ (i : Int) + 1 ∧ (i : Int) + 1 < 4 := ⟨by omega, by omega⟩
      have hc3 : (0 : Int) ≤ (i : Int) ∧ (i : Int) < 3 := ⟨by omega, by omega⟩
      rw [hk, ha, hbb, hv]
      refine ⟨(f.reg 1 ((i : Int) + 1 + 1)).at_ 2, (g.reg 1 ((i : Int) + 1)).at_ 2, ?_, ?_, fun y => ?_⟩
      · rcases hx with h0 | h1
        · exact ad13_2cz f x f1 f2 e f3 he _ f4 hc4 h0
        · exact ad13_2cn f x f1 f2 e f3 he _ f4 hc4 (by omega) h1
      · rcases hx with h0 | h1
        · exact ar13_2cz g x g1 g2 e g3 he _ g4 hc3 h0
        · exact ar13_2cn g x g1 g2 e g3 he _ g4 hc3 (by omega) h1
      · simp only [aftS]
        rw [if_pos e4]
        by_cases e1 : y = 0 ∨ y = e + 1
        · rw [if_pos e1]
          exact ⟨f1, rfl, by simpa [Fr.at_, Fr.reg] using f3, by simp [Fr.at_, Fr.reg], g1, rfl, by simpa [Fr.at_, Fr.reg] using g3, by simp [Fr.at_, Fr.reg], rfl, by omega, e1⟩
        · rw [if_neg e1]
          exact a2_end hb.1 ⟨f1, rfl, by simpa [Fr.at_, Fr.reg] using f3⟩ ⟨g1, rfl, by simpa [Fr.at_, Fr.reg] using g3⟩ e1
    · have hk : acK (.a2 e i x) = 2 := by simp only [acK]; rw [if_neg e4]
      have ha : ((acA c (.a2 e i x) : Nat) : Int) = 2 := by simp only [acA]; rw [if_neg e4]; rfl
      have hbb : acB (.a2 e i x) = e := by simp only [acB]; rw [if_neg e4]
      have hv : acV (.a2 e i x) = e + 1 := by simp only [acV]; rw [if_neg e4]
      have i3 : i = 3 := by omega
      rw [hk, ha, hbb, hv]
      refine ⟨f.at_ 3, (g.reg 1 4).at_ 3, ?_, ?_, fun y => ?_⟩
      · rcases hx with h0 | h1
        · exact ad13_2lz f x f1 f2 e f3 he (by rw [f4]; omega) h0
        · exact ad13_2ln f x f1 f2 e f3 he (by rw [f4]; omega) (by omega) h1
      · rcases hx with h0 | h1
        · exact ar13_2lz g x g1 g2 e g3 he (by rw [g4]; omega) h0
        · exact ar13_2ln g x g1 g2 e g3 he (by rw [g4]; omega) (by omega) h1
      · simp only [aftS]
        rw [if_neg e4]
        exact ⟨ad13_3 (f.at_ 3) y f1 rfl, ar13_3 ((g.reg 1 4).at_ 3) y g1 rfl⟩
/-- what came of an action, of these cells; the cells behind it -/
def yS (c : Nat) (st : S3) (l : List Int) : Int := if acK st = 0 then l.getD (acA c st) 0 else if acK st = 1 then 0 else if l.getD 2 0 = acB st then 1 else 0
def lS (c : Nat) (st : S3) (l : List Int) : List Int := if acK st = 0 then l else if acK st = 1 then l.set (acA c st) (acV st) else if l.getD 2 0 = acB st then l.set 2 (acV st) else l
theorem lS_len (c : Nat) (st : S3) (l : List Int) : (lS c st l).length = l.length := by unfold lS; split; rfl; split; simp; split; simp; rfl
theorem acA_lt (c : Nat) (hc : c < 4) (st : S3) : 2 ≤ acA c st ∧ acA c st < 9 := by
  cases st <;> simp only [acA] <;> first | omega | (split <;> omega)
theorem acV_le (st : S3) (N : Int) (hN : 0 ≤ N) (hb : Bs3 N st) : 0 ≤ acV st ∧ acV st ≤ N + 1 := by
  cases st <;> simp only [acV, Bs3] at hb ⊢ <;> first | omega | (split <;> omega)
theorem okS (c : Nat) (hc : c < 4) (st : S3) (hb : Bs3 999999 st) : OkA (acK st) (acA c st) (acB st) (acV st) 0 ∧ acK st < 6 := by
  have ha := acA_lt c hc st
  have hv := acV_le st 999999 (by omega) hb
  have hB : 0 ≤ acB st ∧ acB st ≤ 999999 := by cases st <;> simp only [acB, Bs3] at hb ⊢ <;> first | omega | (split <;> omega)
  cases st <;> simp only [acK, acB, acV] at hv hB ⊢ <;> unfold OkA <;> first | omega | (split at hv <;> simp_all <;> omega)
theorem doB0 (n : Nat) (l : List Int) (hn : n < 771) (hl : l.length = 771) : DoB 0 n 0 0 (l.getD n 0) l l := fun Q w cv d1 d2 ao ac hP h0 h1 h2 =>
  do_w0 w hP h0 h1 h2 n 0 0 _ ao ac hn (by rw [List.getD_eq_getElem?_getD, List.getElem?_eq_getElem (by omega)]; rfl) ⟨by omega, by omega⟩ ⟨by omega, by omega⟩
theorem doB1 (n : Nat) (v : Int) (l : List Int) (hn : n < 771) (hl : l.length = 771) (hv : 0 ≤ v ∧ v ≤ 1000000) : DoB 1 n 0 v 0 l (l.set n v) := fun Q w cv d1 d2 ao ac hP h0 h1 h2 =>
  do_w1 w hP h0 h1 h2 n 0 v (l.getD n 0) ao ac hn (by rw [List.getD_eq_getElem?_getD, List.getElem?_eq_getElem (by omega)]; rfl) ⟨by omega, by omega⟩ ⟨by omega, by omega⟩
theorem doB2t (n : Nat) (bb v : Int) (l : List Int) (hn : n < 771) (hl : l.length = 771) (hb : 0 ≤ bb ∧ bb ≤ 1000000) (hv : 0 ≤ v ∧ v ≤ 1000000) (he : l.getD n 0 = bb) : DoB 2 n bb v 1 l (l.set n v) := fun Q w cv d1 d2 ao ac hP h0 h1 h2 =>
  do_w2t w hP h0 h1 h2 n bb v (l.getD n 0) ao ac hn (by rw [List.getD_eq_getElem?_getD, List.getElem?_eq_getElem (by omega)]; rfl) ⟨by omega, by omega⟩ ⟨by omega, by omega⟩ he
theorem doB2f (n : Nat) (bb v : Int) (l : List Int) (hn : n < 771) (hl : l.length = 771) (hb : 0 ≤ bb ∧ bb ≤ 1000000) (hv : 0 ≤ v ∧ v ≤ 1000000) (he : l.getD n 0 ≠ bb) : DoB 2 n bb v 0 l l := fun Q w cv d1 d2 ao ac hP h0 h1 h2 =>
  do_w2f w hP h0 h1 h2 n bb v (l.getD n 0) ao ac hn (by rw [List.getD_eq_getElem?_getD, List.getElem?_eq_getElem (by omega)]; rfl) ⟨by omega, by omega⟩ ⟨by omega, by omega⟩ he
theorem doS (c : Nat) (hc : c < 4) (st : S3) (l : List Int) (hl : l.length = 771) (hb : Bs3 999999 st) : DoB (acK st) (acA c st) (acB st) (acV st) (yS c st l) l (lS c st l) := by
  have ha := acA_lt c hc st
  have hv := acV_le st 999999 (by omega) hb
  have hB : 0 ≤ acB st ∧ acB st ≤ 999999 := by cases st <;> simp only [acB, Bs3] at hb ⊢ <;> first | omega | (split <;> omega)
  have hk : (acK st = 0 ∧ acB st = 0 ∧ acV st = 0) ∨ (acK st = 1 ∧ acB st = 0) ∨ (acK st = 2 ∧ acA c st = 2) := by
    cases st <;> simp only [acK, acB, acV, acA] <;> first | (simp; done) | (split <;> simp)
  rcases hk with ⟨h1, h2, h3⟩ | ⟨h1, h2⟩ | ⟨h1, h2⟩
  · have e1 : yS c st l = l.getD (acA c st) 0 := by unfold yS; rw [if_pos h1]
    have e2 : lS c st l = l := by unfold lS; rw [if_pos h1]
    rw [e1, e2, h1, h2, h3]
    exact doB0 _ l (by omega) hl
  · have e1 : yS c st l = 0 := by unfold yS; rw [if_neg (by omega), if_pos h1]
    have e2 : lS c st l = l.set (acA c st) (acV st) := by unfold lS; rw [if_neg (by omega), if_pos h1]
    rw [e1, e2, h1, h2]
    exact doB1 _ _ l (by omega) hl ⟨by omega, by omega⟩
  · by_cases he : l.getD 2 0 = acB st
    · have e1 : yS c st l = 1 := by unfold yS; rw [if_neg (by omega), if_neg (by omega), if_pos he]
      have e2 : lS c st l = l.set 2 (acV st) := by unfold lS; rw [if_neg (by omega), if_neg (by omega), if_pos he]
      rw [e1, e2, h1, h2]
      exact doB2t 2 _ _ l (by omega) hl ⟨by omega, by omega⟩ ⟨by omega, by omega⟩ he
    · have e1 : yS c st l = 0 := by unfold yS; rw [if_neg (by omega), if_neg (by omega), if_neg he]
      have e2 : lS c st l = l := by unfold lS; rw [if_neg (by omega), if_neg (by omega), if_neg he]
      rw [e1, e2, h1, h2]
      exact doB2f 2 _ _ l (by omega) hl ⟨by omega, by omega⟩ ⟨by omega, by omega⟩ he
/-- the cells that count are small -/
def CB (N : Int) (l : List Int) : Prop := ∀ i, 2 ≤ i → i < 9 → 0 ≤ l.getD i 0 ∧ l.getD i 0 ≤ N
theorem getD_set (l : List Int) (k i : Nat) (v : Int) (hk : k < l.length) : (l.set k v).getD i 0 = if k = i then v else l.getD i 0 := by
  rw [List.getD_eq_getElem?_getD, List.getElem?_set]
  by_cases e : k = i
  · subst e; rw [if_pos rfl, if_pos hk, if_pos rfl]; rfl
  · rw [if_neg e, if_neg e, List.getD_eq_getElem?_getD]
theorem CB.set {N : Int} {l : List Int} (h : CB N l) (k : Nat) (v : Int) (hk : k < l.length) (hv : 0 ≤ v ∧ v ≤ N) : CB N (l.set k v) := fun i h1 h2 => by
  rw [getD_set _ _ _ _ hk]
  split
  · exact hv
  · exact h i h1 h2
theorem CB.mono {N M : Int} {l : List Int} (h : CB N l) (hm : N ≤ M) : CB M l := fun i h1 h2 => ⟨(h i h1 h2).1, Int.le_trans (h i h1 h2).2 hm⟩
theorem Bs3.mono {N M : Int} {st : S3} (h : Bs3 N st) (hm : N ≤ M) : Bs3 M st := by
  cases st <;> simp only [Bs3] at h ⊢ <;> omega
theorem lS_cb (c : Nat) (hc : c < 4) (st : S3) (l : List Int) (hl : l.length = 771) (N : Int) (hN : 0 ≤ N) (hb : Bs3 N st) (h : CB N l) : CB (N + 1) (lS c st l) := by
  have ha := acA_lt c hc st
  have hv := acV_le st N hN hb
  have h' := h.mono (show N ≤ N + 1 by omega)
  unfold lS
  split
  · exact h'
  · split
    · exact h'.set _ _ (by omega) hv
    · split
      · exact h'.set _ _ (by omega) hv
      · exact h'
theorem yS_le (c : Nat) (hc : c < 4) (st : S3) (l : List Int) (N : Int) (hN : 1 ≤ N) (h : CB N l) : 0 ≤ yS c st l ∧ yS c st l ≤ N := by
  have ha := acA_lt c hc st
  unfold yS
  split
  · exact h _ ha.1 ha.2
  · split
    · omega
    · split <;> omega
theorem aft_bd (st : S3) (N y : Int) (hb : Bs3 N st) (hy : 0 ≤ y ∧ y ≤ N) : ∀ s', aftS st y = .inl s' → Bs3 N s' := by
  intro s' h
  cases st with
  | p0 => simp only [aftS] at h; injection h with h; subst h; exact hy
  | p1 e => simp only [aftS] at h; injection h with h; subst h; exact hb
  | p2 e =>
    simp only [aftS] at h
    split at h
    · cases h
    · injection h with h; subst h; exact ⟨hb, hy⟩
  | p3 e x => simp only [aftS] at h; injection h with h; subst h; exact hb.2
  | u0 => simp only [aftS] at h; cases h
  | a0 => simp only [aftS] at h; injection h with h; subst h; exact hy
  | a1 e =>
    simp only [aftS] at h
    split at h
    · next hh => injection h with h; subst h; exact ⟨hb, by omega, hh⟩
    · cases h
  | a2 e i x =>
    simp only [aftS] at h
    split at h
    · next h4 =>
      split at h
      · next hh => injection h with h; subst h; exact ⟨hb.1, h4, hh⟩
      · cases h
    · cases h
end Go.Proofs.Ytgpdknacnmapiaa
namespace Go.Proofs.Ytgpdknacnmapiaa
set_option linter.unusedVariables false
set_option linter.unusedSimpArgs false
open Go.RowKit
open Go
/-- what a run holds, of epochs -/
structure RunV3 (P : Nat → Prop) (R : Nat) (W : World) (C : Array Value) (s : RS) (l : List Int) : Prop where
  hb : HB W R C 41
  ra : RunA C s
  cv : CellsV P W (s.w 0) l
  d1 : DiskV P W (s.w 1)
  d2 : DiskV P W (s.w 2)
/-- a client: idle, or its program at a state -/
def ClV (P : Nat → Prop) (w : World) (s : RS) (c : Nat) : Option S3 → Prop
  | none => s.b c = false
  | some st => s.b c = true ∧ ∃ f g y, Live P w (s.m c) c f y ∧ Live P w (s.h c) c g y ∧ InS c st f g y
/-- a run's world, all its clients -/
def WV (P : Nat → Prop) (R : Nat) (w : World) (l : List Int) (os : Nat → Option S3) : Prop := l.length = 771 ∧ ∃ C s, RunV3 P R w C s l ∧ ∀ c, c < 4 → ClV P w s c (os c)
/-- all but the run's block is kept -/
def KeepR (R : Nat) (w w' : World) : Prop := Mem (fun b => b = R) w w' []
theorem KeepR.of {R : Nat} {w w' : World} {L : List (Nat × Array Value × TypeId)} (h : Mem (fun b => b = R) w w' L) : KeepR R w w' := h.sub fun i e hi => by simp at hi
theorem KeepR.refl (R : Nat) (w : World) : KeepR R w w := ⟨rfl, rfl, rfl, Nat.le_refl _, fun _ _ _ => rfl, fun i b C t h => by simp at h, fun i b C t h => by simp at h, fun i j b C C' t t' h => by simp at h⟩
theorem KeepR.of_below {R : Nat} {w w' : World} (h : Below w.heap.size w w') : KeepR R w w' :=
  ⟨h.os, h.tape, h.output, h.size, fun k hk _ => h.block k hk, fun i b C t h => by simp at h, fun i b C t h => by simp at h, fun i j b C C' t t' h => by simp at h⟩
theorem KeepR.trans {R : Nat} {w1 w2 w3 : World} (h : KeepR R w1 w2) (h2 : KeepR R w2 w3) : KeepR R w1 w3 :=
  ⟨h2.os.trans h.os, h2.tape.trans h.tape, h2.output.trans h.output, Nat.le_trans h.size h2.size, fun k hk hx => (h2.old k (Nat.lt_of_lt_of_le hk h.size) hx).trans (h.old k hk hx), fun i b C t h => by simp at h, fun i b C t h => by simp at h, fun i j b C C' t t' h => by simp at h⟩
theorem ClV.keep {P : Nat → Prop} {w w' : World} {s s' : RS} {c : Nat} {o : Option S3} (h : ClV P w s c o) (hk : ∀ b, P b → b < w.heap.size → w'.heap[b]? = w.heap[b]?) (hm : s'.m c = s.m c) (hh : s'.h c = s.h c) (hb : s'.b c = s.b c) : ClV P w' s' c o := by
  cases o with
  | none => exact hb.trans h
  | some st =>
    obtain ⟨h1, f, g, y, h2, h3, h4⟩ := h
    exact ⟨hb.trans h1, f, g, y, by rw [hm]; exact h2.keep hk, by rw [hh]; exact h3.keep hk, h4⟩
theorem WV.keep {P : Nat → Prop} {R : Nat} {w w' : World} {l : List Int} {os : Nat → Option S3} (h : WV P R w l os) (hk : ∀ b, (P b ∨ b = R) → b < w.heap.size → w'.heap[b]? = w.heap[b]?) : WV P R w' l os := by
  obtain ⟨hl, C, s, hr, hc⟩ := h
  refine ⟨hl, C, s, ⟨?_, hr.ra, hr.cv.keep fun b hb => hk b (.inl hb), hr.d1.keep fun b hb => hk b (.inl hb), hr.d2.keep fun b hb => hk b (.inl hb)⟩, fun c h4 => (hc c h4).keep (fun b hb => hk b (.inl hb)) rfl rfl rfl⟩
  have := hr.hb
  unfold HB at this ⊢
  rw [hk R (.inr rfl) (Array.getElem?_eq_some_iff.1 this).1]; exact this
theorem WV.below {P : Nat → Prop} {R : Nat} {w w' : World} {l : List Int} {os : Nat → Option S3} (h : WV P R w l os) (hb : Below w.heap.size w w') : WV P R w' l os := h.keep fun b _ hl => hb.block b hl
theorem WV.weak {P Q : Nat → Prop} {R : Nat} {w : World} {l : List Int} {os : Nat → Option S3} (h : WV P R w l os) (hq : ∀ b, P b → b < w.heap.size → Q b) : WV Q R w l os := by
  obtain ⟨hl, C, s, hr, hc⟩ := h
  refine ⟨hl, C, s, ⟨hr.hb, hr.ra, hr.cv.weak hq, hr.d1.weak hq, hr.d2.weak hq⟩, fun c h4 => ?_⟩
  have h := hc c h4
  revert h
  cases os c with
  | none => exact id
  | some st => exact fun ⟨h1, f, g, y, h2, h3, h5⟩ => ⟨h1, f, g, y, h2.weak hq, h3.weak hq, h5⟩
theorem WV.lt {P : Nat → Prop} {R : Nat} {w : World} {l : List Int} {os : Nat → Option S3} (h : WV P R w l os) : R < w.heap.size := by
  obtain ⟨_, C, s, hr, _⟩ := h
  exact (Array.getElem?_eq_some_iff.1 hr.hb).1
/-- one of the cells is read -/
theorem WV.cell {P : Nat → Prop} {R : Nat} {w : World} {l : List Int} {os : Nat → Option S3} (h : WV P R w l os) : ∃ b o cap, w.cell? ⟨R, 0, none⟩ = some (.slice (some ⟨b, o, none⟩) 771 cap) ∧ ∀ i, i < 771 → w.cell? ⟨b, o + i, none⟩ = some (.int .i64 (l.getD i 0)) := by
  obtain ⟨hl, C, s, hr, _⟩ := h
  obtain ⟨b, o, cap, e, -, -, hc, -⟩ := hr.cv
  refine ⟨b, o, cap, hr.hb.cell (by rw [hr.ra.w 0 (by omega), e]), fun i hi => hc i _ ?_⟩
  rw [List.getD_eq_getElem?_getD, List.getElem?_eq_getElem (by omega)]; rfl
/-- whether a client is busy -/
theorem WV.busy {P : Nat → Prop} {R : Nat} {w : World} {l : List Int} {os : Nat → Option S3} (h : WV P R w l os) (c : Nat) (hc : c < 4) : w.cell? ⟨R, 35 + c, none⟩ = some (.bool (os c).isSome) := by
  obtain ⟨hl, C, s, hr, hcl⟩ := h
  have h2 := hcl c hc
  refine hr.hb.cell ?_
  rw [hr.ra.b c hc]
  revert h2
  cases os c with
  | none => intro h2; rw [show s.b c = false from h2]; rfl
  | some st => intro h2; rw [h2.1]; rfl
theorem aft_len (st : S3) (y : Int) : ∀ la, aftS st y = .inr la → la.length ≤ 1 := by
  intro la h
  cases st <;> simp only [aftS] at h <;> (try split at h) <;> (try split at h) <;> (first | (cases h; done) | (injection h with h; subst h; simp))
theorem step3 {P : Nat → Prop} (c : Nat) (hc : c < 4) (R : Nat) (w : World) (l : List Int) (os : Nat → Option S3) (hP : ∀ b, w.heap.size ≤ b → P b) (hPR : ∀ b, P b → b ≠ R) (hW : WV P R w l os) (st : S3) (ho : os c = some st) (hb : Bs3 999998 st) (hcb : CB 999998 l) :
    Calls Try.prog 16 #[.pointer (some ⟨R, 0, none⟩), .int .i64 c] w fun e w' => KeepR R w w' ∧ match aftS st (yS c st l) with
      | .inl s' => e = .returned (.tuple #[.slice none 0 0, .bool false, .bool true]) ∧ WV P R w' (lS c st l) (upd os c (some s'))
      | .inr la => (∃ ans, e = .returned (.tuple #[ans, .bool true, .bool true]) ∧ IntsP P w' ans la) ∧ WV P R w' (lS c st l) (upd os c none) := by
  obtain ⟨hl, C, s, hr, hcl⟩ := hW
  have hcc := hcl c hc
  rw [ho] at hcc
  obtain ⟨hbu, f, g, y, hm, hh, hin⟩ := hcc
  obtain ⟨f2, g2, h1, h2, h3⟩ := nextS c hc st f g y hin (hb.mono (by omega))
  have hy := yS_le c hc st l 999998 (by omega) hcb
  have hok := okS c hc st (hb.mono (by omega))
  have hdo := doS c hc st l hl (hb.mono (by omega))
  have hlen := lS_len c st l
  have hln := aft_len st (yS c st l)
  have hbd := aft_bd st 999998 (yS c st l) hb hy
  have h3 := h3 (yS c st l)
  generalize yS c st l = y2 at *
  generalize lS c st l = l2 at *
  generalize aftS st y2 = r at *
  cases r with
  | inl s' =>
    obtain ⟨f4, g4, k1, k2, -⟩ := nextS c hc s' f2 g2 y2 h3 ((hbd s' rfl).mono (by omega))
    have hok2 := okS c hc s' ((hbd s' rfl).mono (by omega))
    refine (step13_go c hc R C s w hP hPR hr.hb hr.ra f g f2 g2 f4 g4 y y2 l l2 hm hh hr.cv hr.d1 hr.d2 _ _ _ _ hok.1 hok.2 _ _ _ _ [] hok2.1 hok2.2 h1 h2 k1 k2 hdo).mono ?_
    rintro e w' ⟨rfl, C', T, U, cv, hM, hA', hC, hd1, hd2, hT, hU⟩
    rw [if_neg (by decide)] at hA'
    refine ⟨KeepR.of hM, rfl, hlen.trans hl, C', _, ⟨hM.hb 0 _ _ _ rfl, hA', hC, hd1, hd2⟩, fun d hd => ?_⟩
    by_cases e : d = c
    · subst e
      rw [show upd os d (some s') d = some s' by simp [upd]]
      exact ⟨hbu, f2, g2, y2, by simpa [RS.setM, RS.setH, RS.setW, upd] using hT, by simpa [RS.setM, RS.setH, RS.setW, upd] using hU, h3⟩
    · rw [show upd os c (some s') d = os d by simp [upd, e]]
      refine (hcl d hd).keep (fun b hb hlt => hM.old b hlt (hPR b hb)) ?_ ?_ ?_ <;> simp [RS.setM, RS.setH, RS.setW, upd, e]
  | inr la =>
    have hll : la.length ≤ 96 := Nat.le_trans (hln la rfl) (by omega)
    refine (step13_over c hc R C s w hP hPR hr.hb hr.ra f g f2 g2 f2 g2 y y2 l l2 hm hh hr.cv hr.d1 hr.d2 _ _ _ _ hok.1 hok.2 7 0 0 0 la (.inr (.inr (.inr ⟨rfl, rfl, rfl, rfl, hll⟩))) rfl h1 h2 h3.1 h3.2 hdo).mono ?_
    rintro e w' ⟨⟨ans, rfl, hI⟩, C', T, U, cv, hM, hA', hC, hd1, hd2, hT, hU⟩
    rw [if_pos rfl] at hA'
    refine ⟨KeepR.of hM, ⟨ans, rfl, hI⟩, hlen.trans hl, C', _, ⟨hM.hb 0 _ _ _ rfl, hA', hC, hd1, hd2⟩, fun d hd => ?_⟩
    by_cases e : d = c
    · subst e
      rw [show upd os d none d = none by simp [upd]]
      show (RS.b _ d = false)
      simp [RS.setM, RS.setH, RS.setW, RS.setB, upd]
    · rw [show upd os c none d = os d by simp [upd, e]]
      refine (hcl d hd).keep (fun b hb hlt => hM.old b hlt (hPR b hb)) ?_ ?_ ?_ <;> simp [RS.setM, RS.setH, RS.setW, RS.setB, upd, e]
/-- a program at its beginning -/
def ini (pg : Int) : S3 := if pg = 52 then .p0 else if pg = 53 then .u0 else .a0
theorem ini_in (c : Nat) (pg : Int) (hp : pg = 52 ∨ pg = 53 ∨ pg = 54) : InS c (ini pg) (frG pg [(c : Int)]) (frG pg [(c : Int)]) 0 := by
  rcases hp with rfl | rfl | rfl
  · exact ⟨rfl, rfl, rfl, rfl, rfl, rfl⟩
  · exact ⟨rfl, rfl, rfl, rfl, rfl, rfl⟩
  · exact ⟨rfl, rfl, rfl, rfl⟩
theorem begin3 {P : Nat → Prop} (c : Nat) (hc : c < 4) (pg : Int) (hp : pg = 52 ∨ pg = 53 ∨ pg = 54) (v : Value) (B R : Nat) (w : World) (l : List Int) (os : Nat → Option S3) (hP : ∀ b, w.heap.size ≤ b → P b) (hPR : ∀ b, P b → b ≠ R) (hI : Ints B w v [(c : Int)]) (hW : WV P R w l os) (ho : os c = none) :
    Calls Try.prog 15 #[.pointer (some ⟨R, 0, none⟩), .int .i64 c, .int .i8 pg, v] w fun e w' => e = .returned (.tuple #[]) ∧ KeepR R w w' ∧ WV P R w' l (upd os c (some (ini pg))) := by
  obtain ⟨hl, C, s, hr, hcl⟩ := hW
  have hcc := hcl c hc
  rw [ho] at hcc
  refine (begin13 c hc pg (by omega) v [(c : Int)] B R C s w hP hI (by simp) hr.hb hr.ra hcc).mono ?_
  rintro e w' ⟨rfl, C', T, hM, hA, hL⟩
  refine ⟨rfl, KeepR.of hM, hl, C', _, ⟨hM.hb 0 _ _ _ rfl, hA, ?_, ?_, ?_⟩, fun d hd => ?_⟩
  · exact hr.cv.mem hPR hM
  · exact hr.d1.mem hPR hM
  · exact hr.d2.mem hPR hM
  · by_cases e : d = c
    · subst e
      rw [show upd os d (some (ini pg)) d = some (ini pg) by simp [upd]]
      refine ⟨by simp [RS.setM, RS.setH, RS.setB, upd], frG pg [(d : Int)], frG pg [(d : Int)], 0, ?_, ?_, ini_in d pg hp⟩
      · simpa [RS.setM, RS.setH, RS.setB, upd] using hL
      · simpa [RS.setM, RS.setH, RS.setB, upd] using hL
    · rw [show upd os c (some (ini pg)) d = os d by simp [upd, e]]
      refine (hcl d hd).keep (fun b hb hlt => hM.old b hlt (hPR b hb)) ?_ ?_ ?_ <;> simp [RS.setM, RS.setH, RS.setB, upd, e]
end Go.Proofs.Ytgpdknacnmapiaa
