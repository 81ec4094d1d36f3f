/-
  Parts of a proof, put together: Qb.
-/
import Derived.Test.YtgpdknacnmapiaaZj01
import Derived.Test.YtgpdknacnmapiaaZj02
import Derived.Test.YtgpdknacnmapiaaZj03
import Derived.Test.YtgpdknacnmapiaaZj04
import Derived.Test.YtgpdknacnmapiaaZj05
import Derived.Test.YtgpdknacnmapiaaZj06
import Derived.Test.YtgpdknacnmapiaaZj07
import Derived.Test.YtgpdknacnmapiaaZj08
import Derived.Test.YtgpdknacnmapiaaZj09
import Derived.Test.YtgpdknacnmapiaaZj10
import Derived.Test.YtgpdknacnmapiaaZj11
import Derived.Test.YtgpdknacnmapiaaZj12
import Derived.Test.YtgpdknacnmapiaaZj13
import Derived.Test.YtgpdknacnmapiaaZj14
import Derived.Test.YtgpdknacnmapiaaZj15
import Derived.Test.YtgpdknacnmapiaaZj16
import Derived.Test.YtgpdknacnmapiaaZj17
import Derived.Test.YtgpdknacnmapiaaZj18
import Derived.Test.YtgpdknacnmapiaaZj19
import Derived.Test.YtgpdknacnmapiaaZj20
import Derived.Test.YtgpdknacnmapiaaZj21
import Derived.Test.YtgpdknacnmapiaaZj22
import Derived.Test.YtgpdknacnmapiaaZj23
import Derived.Test.YtgpdknacnmapiaaZj24
import Derived.Test.YtgpdknacnmapiaaZj25
import Derived.Test.YtgpdknacnmapiaaZj26
import Derived.Test.YtgpdknacnmapiaaZj27
import Derived.Test.YtgpdknacnmapiaaZj28
import Derived.Test.YtgpdknacnmapiaaZj29
import Derived.Test.YtgpdknacnmapiaaZj30
import Derived.Test.YtgpdknacnmapiaaZj31
namespace Go.Proofs.Ytgpdknacnmapiaa
set_option linter.unusedVariables false
set_option linter.unusedSimpArgs false
open Go.RowKit
open Go
/-- the cells, the clients' programs, what they do, what they have -/
structure P4 where
  l : List Int
  os : Nat → Option S4
  dd : Nat → Int
  hs : Nat → List Int
  ns : Nat → List Bool
def Cl4 (P : Nat → Prop) (m : Nat) (w : World) (s : RS) (c : Nat) : Option S4 → Prop
  | none => s.b c = false
  | some st => s.b c = true ∧ ∃ f x, Live P w (s.m c) c f x ∧ Live P w (s.h c) c f x ∧ InF c m st f x
/-- a run's world, all its clients, and what they have -/
def PV (m R H B : Nat) (w : World) (σ : P4) : Prop := ∃ C D s h, PickV R H B w C D s h σ.l σ.hs σ.ns ∧ (∀ c, c < 4 → h.dd c = σ.dd c) ∧ ∀ c, c < 4 → Cl4 (PH R H h) m w s c (σ.os c)
/-- what a pick leaves as it was -/
structure KeepB (R H B : Nat) (w w' : World) : Prop where
  os : w'.os = w.os
  tape : w'.tape = w.tape
  output : w'.output = w.output
  size : w.heap.size ≤ w'.heap.size
  old : ∀ b, b < B → b < w.heap.size → b ≠ R → b ≠ H → w'.heap[b]? = w.heap[b]?
theorem KeepB.refl (R H B : Nat) (w : World) : KeepB R H B w w := ⟨rfl, rfl, rfl, Nat.le_refl _, fun _ _ _ _ _ => rfl⟩
theorem KeepB.trans {R H B : Nat} {w1 w2 w3 : World} (h : KeepB R H B w1 w2) (h2 : KeepB R H B w2 w3) : KeepB R H B w1 w3 :=
  ⟨h2.os.trans h.os, h2.tape.trans h.tape, h2.output.trans h.output, Nat.le_trans h.size h2.size, fun b h0 hb h3 h4 => (h2.old b h0 (Nat.lt_of_lt_of_le hb h.size) h3 h4).trans (h.old b h0 hb h3 h4)⟩
theorem KeepP.keepB {R H B : Nat} {h : HV} {w w' : World} {hs : Nat → List Int} {ns : Nat → List Bool} (hk : KeepP R H h w w') (ho : OwnV B w h hs ns) : KeepB R H B w w' :=
  ⟨hk.os, hk.tape, hk.output, hk.size, fun b h0 hb h3 h4 => hk.old b hb ⟨h3, h4, fun i hi e => by have := ho.lt i hi b e; omega⟩⟩
theorem Cl4.keep {R H m : Nat} {h h' : HV} {w w' : World} {s s' : RS} {c : Nat} {o : Option S4} (hc : Cl4 (PH R H h) m w s c o) (hk : KeepP R H h w w') (hp : ∀ b, PH R H h b → b < w.heap.size → PH R H h' b) (hm : s'.m c = s.m c) (hh : s'.h c = s.h c) (hb : s'.b c = s.b c) : Cl4 (PH R H h') m w' s' c o := by
  have key : ∀ {T : Array Value} {f : Fr} {x : Int}, Live (PH R H h) w T c f x → Live (PH R H h') w' T c f x := fun {T f x} hl =>
    (hl.weak (Q := fun b => PH R H h' b ∧ PH R H h b) fun b hb hlt => ⟨hp b hb hlt, hb⟩).keep (fun b hb hlt => hk.old b hlt hb.2) |>.weak fun b hb _ => hb.1
  cases o with
  | none => exact hb.trans hc
  | some st =>
    obtain ⟨h1, f, x, h2, h3, h4⟩ := hc
    exact ⟨hb.trans h1, f, x, by rw [hm]; exact key h2, by rw [hh]; exact key h3, h4⟩
def kOf (nN : Int) (n : Nat) : Nat := ((wrap64 (nN.tmod n + n)).tmod n).toNat
theorem kOf_eq (nN : Int) (n : Nat) (hn : 1 ≤ n ∧ n ≤ 1000) : (wrap64 (nN.tmod n + n)).tmod n = (kOf nN n : Int) ∧ kOf nN n < n := by
  obtain ⟨S, h1, h2⟩ := norm_rem nN n ⟨by omega, by omega⟩
  unfold kOf
  rw [h2]
  omega
def pk4 (m c : Nat) (dO nN : Int) (σ : P4) : P4 :=
  match σ.os c with
  | none =>
    if dO = 0 then { σ with os := upd σ.os c (some (.al0 true)), dd := upd σ.dd c 0 }
    else if dO = 1 then { σ with os := upd σ.os c (some (.al0 false)), dd := upd σ.dd c 1 }
    else if dO = 2 ∧ σ.hs c ≠ [] then { σ with os := upd σ.os c (some (.fr0 ((σ.hs c).getD (kOf nN (σ.hs c).length) 0) ((σ.ns c).getD (kOf nN (σ.hs c).length) false))), hs := upd σ.hs c ((σ.hs c).eraseIdx (kOf nN (σ.hs c).length)), ns := upd σ.ns c ((σ.ns c).eraseIdx (kOf nN (σ.hs c).length)), dd := upd σ.dd c 2 }
    else σ
  | some st =>
    match aft4 c m σ.l st with
    | .inl s' => { σ with l := l4 c m σ.l st, os := upd σ.os c (some s') }
    | .inr la => if σ.dd c < 2 ∧ la.length = 2 then { σ with l := l4 c m σ.l st, os := upd σ.os c none, hs := upd σ.hs c (σ.hs c ++ [la.getD 1 0]), ns := upd σ.ns c (σ.ns c ++ [σ.dd c == 0]) } else { σ with l := l4 c m σ.l st, os := upd σ.os c none }
/-- what a pick asks -/
structure OK4 (σ : P4) : Prop where
  len : σ.l.length = 771
  gen : GenOK σ.l
  hn : ∀ c, c < 4 → (σ.ns c).length = (σ.hs c).length
  le : ∀ c, c < 4 → (σ.hs c).length ≤ 1000
  hd : ∀ c, c < 4 → ∀ h, h ∈ σ.hs c → ∃ (g : Int) (s : Nat), h = g * 256 + s ∧ 1 ≤ g ∧ g ≤ 1023 ∧ s < 16
theorem upd_same {α : Type} (f : Nat → α) (c : Nat) (a : α) : upd f c a c = a := by unfold upd; rw [if_pos rfl]
theorem upd_ne {α : Type} (f : Nat → α) (c : Nat) (a : α) {k : Nat} (h : k ≠ c) : upd f c a k = f k := by unfold upd; rw [if_neg h]
theorem aft4_len (c m : Nat) (l : List Int) (st : S4) (la : List Int) (h : aft4 c m l st = .inr la) : la.length ≤ 96 ∧ (la.length = 2 → ∃ hd, la = [0, hd]) := by
  cases st with
  | al0 nd =>
    simp only [aft4] at h
    split at h
    · injection h with h; subst h; exact ⟨by simp, fun h => by simp at h⟩
    · cases h
  | al1 nd i x =>
    simp only [aft4] at h
    split at h
    · split at h
      · injection h with h; subst h; exact ⟨by simp, fun h => by simp at h⟩
      · cases h
    · injection h with h; subst h; exact ⟨by simp, fun _ => ⟨_, rfl⟩⟩
  | fr0 hh nd =>
    simp only [aft4] at h
    injection h with h; subst h; exact ⟨by simp, fun h => by simp at h⟩
theorem pick14 (c : Nat) (hc : c < 4) (cl dO nN : Int) (m : Nat) (ecl : (wrap64 (cl.tmod 4 + 4)).tmod 4 = (c : Int)) (hm : 1 ≤ m ∧ m ≤ 4) (R H B : Nat) (w : World) (σ : P4) (hV : PV m R H B w σ) (hO : OK4 σ) :
    Calls Try.prog 24 #[.pointer (some ⟨R, 0, none⟩), .pointer (some ⟨H, 0, none⟩), .agg #[.int .i64 cl, .int .i64 dO, .int .i64 nN], .int .i64 m] w fun e w' => e = .returned (.bool true) ∧ KeepB R H B w w' ∧ PV m R H B w' (pk4 m c dO nN σ) := by
  obtain ⟨C, D, s, h, hP, hdd, hcl⟩ := hV
  have hmi : (1 : Int) ≤ m ∧ (m : Int) ≤ 4 := ⟨by omega, by omega⟩
  have hcc := hcl c hc
  cases ho : σ.os c with
  | none =>
    rw [ho] at hcc
    have hb : s.b c = false := hcc
    by_cases h0 : dO = 0
    · subst h0
      refine (pick_allot0 c hc cl nN m ecl hmi R H B w C D s h σ.l σ.hs σ.ns hP hb).mono ?_
      rintro e w' ⟨rfl, C', D', s', h', hP', hk, hb', hL1, hL2, hoth, rfl⟩
      have e1 : pk4 m c 0 nN σ = { σ with os := upd σ.os c (some (.al0 true)), dd := upd σ.dd c 0 } := by unfold pk4; rw [ho]; simp
      rw [e1]
      refine ⟨rfl, hk.keepB hP.own, C', D', s', _, hP', fun d hd => ?_, fun d hd => ?_⟩
      · show upd h.dd c 0 d = upd σ.dd c 0 d
        by_cases e : d = c
        · subst e; rw [upd_same, upd_same]
        · rw [upd_ne _ _ _ e, upd_ne _ _ _ e]; exact hdd d hd
      · dsimp only
        by_cases e : d = c
        · subst e
          rw [show upd σ.os d (some (S4.al0 true)) d = some (S4.al0 true) from upd_same _ _ _]
          exact ⟨by rw [hb', upd_same], _, 0, hL1, hL2, rfl, by omega, by omega⟩
        · rw [show upd σ.os c (some (S4.al0 true)) d = σ.os d from upd_ne _ _ _ e]
          exact (hcl d hd).keep hk (fun b hb _ => hb) (hoth d e).1 (hoth d e).2 (by rw [hb', upd_ne _ _ _ e])
    by_cases h1 : dO = 1
    · subst h1
      refine (pick_allot1 c hc cl nN m ecl hmi R H B w C D s h σ.l σ.hs σ.ns hP hb).mono ?_
      rintro e w' ⟨rfl, C', D', s', h', hP', hk, hb', hL1, hL2, hoth, rfl⟩
      have e1 : pk4 m c 1 nN σ = { σ with os := upd σ.os c (some (.al0 false)), dd := upd σ.dd c 1 } := by unfold pk4; rw [ho]; simp
      rw [e1]
      refine ⟨rfl, hk.keepB hP.own, C', D', s', _, hP', fun d hd => ?_, fun d hd => ?_⟩
      · show upd h.dd c 1 d = upd σ.dd c 1 d
        by_cases e : d = c
        · subst e; rw [upd_same, upd_same]
        · rw [upd_ne _ _ _ e, upd_ne _ _ _ e]; exact hdd d hd
      · dsimp only
        by_cases e : d = c
        · subst e
          rw [show upd σ.os d (some (S4.al0 false)) d = some (S4.al0 false) from upd_same _ _ _]
          exact ⟨by rw [hb', upd_same], _, 0, hL1, hL2, rfl, by omega, by omega⟩
        · rw [show upd σ.os c (some (S4.al0 false)) d = σ.os d from upd_ne _ _ _ e]
          exact (hcl d hd).keep hk (fun b hb _ => hb) (hoth d e).1 (hoth d e).2 (by rw [hb', upd_ne _ _ _ e])
    by_cases h2 : dO = 2 ∧ σ.hs c ≠ []
    · obtain ⟨rfl, hne⟩ := h2
      have hpos : 1 ≤ (σ.hs c).length := by
        rcases Nat.eq_zero_or_pos (σ.hs c).length with h | h
        · exact absurd (List.eq_nil_of_length_eq_zero h) hne
        · exact h
      have hle := hO.le c hc
      have hln := hO.hn c hc
      obtain ⟨ek, hk⟩ := kOf_eq nN (σ.hs c).length ⟨hpos, hle⟩
      have e1 : pk4 m c 2 nN σ = { σ with os := upd σ.os c (some (.fr0 ((σ.hs c).getD (kOf nN (σ.hs c).length) 0) ((σ.ns c).getD (kOf nN (σ.hs c).length) false))), hs := upd σ.hs c ((σ.hs c).eraseIdx (kOf nN (σ.hs c).length)), ns := upd σ.ns c ((σ.ns c).eraseIdx (kOf nN (σ.hs c).length)), dd := upd σ.dd c 2 } := by unfold pk4; rw [ho]; simp [hne]
      rw [e1]
      generalize kOf nN (σ.hs c).length = k at *
      have ekh : (σ.hs c)[k]? = some ((σ.hs c).getD k 0) := by rw [List.getD_eq_getElem?_getD, List.getElem?_eq_getElem hk]; rfl
      have ekn : (σ.ns c)[k]? = some ((σ.ns c).getD k false) := by rw [List.getD_eq_getElem?_getD, List.getElem?_eq_getElem (by omega)]; rfl
      obtain ⟨g, sl, eh, hg1, hg2, hsl⟩ := hO.hd c hc _ (List.mem_of_getElem? ekh)
      generalize (σ.hs c).getD k 0 = hdl at *
      have hCALL : Calls Try.prog 24 #[.pointer (some ⟨R, 0, none⟩), .pointer (some ⟨H, 0, none⟩), .agg #[.int .i64 cl, .int .i64 2, .int .i64 nN], .int .i64 m] w fun e w' => e = .returned (.bool true) ∧ Picked R H B h w w' σ.l (upd σ.hs c ((σ.hs c).eraseIdx k)) (upd σ.ns c ((σ.ns c).eraseIdx k)) (fun s' h' => s'.b = upd s.b c true ∧ Live (PH R H h') w' (s'.m c) c (frG 57 [hdl, nn ((σ.ns c).getD k false)]) 0 ∧ Live (PH R H h') w' (s'.h c) c (frG 57 [hdl, nn ((σ.ns c).getD k false)]) 0 ∧ (∀ d, d ≠ c → s'.m d = s.m d ∧ s'.h d = s.h d) ∧ h'.dd = upd h.dd c 2 ∧ ∀ b, PH R H h b → b < w.heap.size → PH R H h' b) := by
        cases hnd : (σ.ns c).getD k false with
        | false => rw [hnd] at ekn; exact pick_free0 c hc cl nN m ecl hmi R H B w C D s h σ.l σ.hs σ.ns hP hb k hdl ekh ekn hln hle ek
        | true => rw [hnd] at ekn; exact pick_free1 c hc cl nN m ecl hmi R H B w C D s h σ.l σ.hs σ.ns hP hb k hdl ekh ekn hln hle ek
      refine hCALL.mono ?_
      rintro e w' ⟨rfl, C', D', s', h', hP', hk', hb', hL1, hL2, hoth, hd', hph⟩
      refine ⟨rfl, hk'.keepB hP.own, C', D', s', h', hP', fun d hd => ?_, fun d hd => ?_⟩
      · rw [hd']
        show upd h.dd c 2 d = upd σ.dd c 2 d
        by_cases e : d = c
        · subst e; rw [upd_same, upd_same]
        · rw [upd_ne _ _ _ e, upd_ne _ _ _ e]; exact hdd d hd
      · dsimp only
        by_cases e : d = c
        · subst e
          rw [show upd σ.os d (some (S4.fr0 hdl ((σ.ns d).getD k false))) d = some (S4.fr0 hdl ((σ.ns d).getD k false)) from upd_same _ _ _]
          exact ⟨by rw [hb', upd_same], _, 0, hL1, hL2, rfl, ⟨by omega, by omega⟩, g, sl, eh, hg1, hg2, hsl⟩
        · rw [show upd σ.os c (some (S4.fr0 hdl ((σ.ns c).getD k false))) d = σ.os d from upd_ne _ _ _ e]
          exact (hcl d hd).keep hk' hph (hoth d e).1 (hoth d e).2 (by rw [hb', upd_ne _ _ _ e])
    · have h2' : dO ≠ 2 ∨ σ.hs c = [] := by
        by_cases e : dO = 2
        · exact .inr (Classical.byContradiction fun hn => h2 ⟨e, hn⟩)
        · exact .inl e
      refine (pick_idle c hc cl dO nN m ecl hmi R H B w C D s h σ.l σ.hs σ.ns hP hb h0 h1 h2').mono ?_
      rintro e w' ⟨rfl, hM⟩
      have e1 : pk4 m c dO nN σ = σ := by unfold pk4; rw [ho]; simp only; rw [if_neg h0, if_neg h1, if_neg h2]
      rw [e1]
      have hk := hM.keepP (h := h)
      have hlo := hP.lo
      refine ⟨rfl, hk.keepB hP.own, C, D, s, h, ⟨(hP.run.mem hM (hM.hb 0 _ _ _ rfl)).weak (fun b hb _ => hb.1), hM.hb 1 _ _ _ rfl, hP.hav, hP.own.keep (fun b h1 h2 => hM.old b h2 (fun e => by rcases e with e | e <;> omega)), hP.ne, hP.lo⟩, hdd, fun d hd => ?_⟩
      exact (hcl d hd).keep hk (fun b hb _ => hb) rfl rfl rfl
  | some st =>
    rw [ho] at hcc
    obtain ⟨hb, f, x, hL1, hL2, hin⟩ := hcc
    have hI := hin.inv hc hm
    have hx := hin.x
    obtain ⟨hk7, hl4, hnx⟩ := next4 hc hm hin hO.len hO.gen
    cases ha : aft4 c m σ.l st with
    | inl s' =>
      rw [ha] at hnx
      obtain ⟨hin2, hk2⟩ := hnx
      have e1 : pk4 m c dO nN σ = { σ with l := l4 c m σ.l st, os := upd σ.os c (some s') } := by unfold pk4; rw [ho]; simp only; rw [ha]
      rw [e1]
      refine (pick_go c hc cl dO nN m ecl hmi R H B w C D s h σ.l σ.hs σ.ns hP hb hL1 hL2 hO.len hO.gen hI (by omega) hx hk7 hk2).mono ?_
      rintro e w' ⟨rfl, C', D', s2, h', hP', hk, hb', hM1, hM2, hoth, rfl⟩
      rw [hl4] at hP'
      refine ⟨rfl, hk.keepB hP.own, C', D', s2, h', hP', hdd, fun d hd => ?_⟩
      dsimp only
      by_cases e : d = c
      · subst e
        rw [show upd σ.os d (some s') d = some s' from upd_same _ _ _]
        exact ⟨by rw [hb']; exact hb, _, _, hM1, hM2, hin2⟩
      · rw [show upd σ.os c (some s') d = σ.os d from upd_ne _ _ _ e]
        exact (hcl d hd).keep hk (fun b hb _ => hb) (hoth d e).1 (hoth d e).2 (by rw [hb'])
    | inr la =>
      rw [ha] at hnx
      obtain ⟨f4, hend⟩ := hnx
      obtain ⟨hla, hla2⟩ := aft4_len c m σ.l st la ha
      by_cases hd2 : σ.dd c < 2 ∧ la.length = 2
      · obtain ⟨hdl, rfl⟩ := hla2 hd2.2
        have e1 : pk4 m c dO nN σ = { σ with l := l4 c m σ.l st, os := upd σ.os c none, hs := upd σ.hs c (σ.hs c ++ [hdl]), ns := upd σ.ns c (σ.ns c ++ [σ.dd c == 0]) } := by unfold pk4; rw [ho]; simp only; rw [ha]; simp only; rw [if_pos hd2]; rfl
        rw [e1]
        have hle := hO.le c hc
        have hln := hO.hn c hc
        refine (pick_more c hc cl dO nN m ecl hmi R H B w C D s h σ.l σ.hs σ.ns hP hb hL1 hL2 hO.len hO.gen hI (by omega) hx hk7 hend (by rw [hdd c hc]; exact hd2.1) ⟨by omega, by omega⟩).mono ?_
        rintro e w' ⟨rfl, C', D', s2, h', hP', hk, hb', hoth, hd', hph⟩
        rw [hl4, hdd c hc] at hP'
        refine ⟨rfl, hk.keepB hP.own, C', D', s2, h', hP', fun d hd => by rw [hd']; exact hdd d hd, fun d hd => ?_⟩
        dsimp only
        by_cases e : d = c
        · subst e
          rw [show upd σ.os d none d = none from upd_same _ _ _]
          show s2.b d = false
          rw [hb', upd_same]
        · rw [show upd σ.os c none d = σ.os d from upd_ne _ _ _ e]
          exact (hcl d hd).keep hk hph (hoth d e).1 (hoth d e).2 (by rw [hb', upd_ne _ _ _ e])
      · have e1 : pk4 m c dO nN σ = { σ with l := l4 c m σ.l st, os := upd σ.os c none } := by unfold pk4; rw [ho]; simp only; rw [ha]; simp only; rw [if_neg hd2]
        rw [e1]
        refine (pick_end c hc cl dO nN m ecl hmi R H B w C D s h σ.l σ.hs σ.ns hP hb hL1 hL2 hO.len hO.gen hI (by omega) hx hk7 hend hla (by rw [hdd c hc]; omega)).mono ?_
        rintro e w' ⟨rfl, C', D', s2, h', hP', hk, hb', -, -, hoth, rfl⟩
        rw [hl4] at hP'
        refine ⟨rfl, hk.keepB hP.own, C', D', s2, h', hP', hdd, fun d hd => ?_⟩
        dsimp only
        by_cases e : d = c
        · subst e
          rw [show upd σ.os d none d = none from upd_same _ _ _]
          show s2.b d = false
          rw [hb', upd_same]
        · rw [show upd σ.os c none d = σ.os d from upd_ne _ _ _ e]
          exact (hcl d hd).keep hk (fun b hb _ => hb) (hoth d e).1 (hoth d e).2 (by rw [hb', upd_ne _ _ _ e])
end Go.Proofs.Ytgpdknacnmapiaa
