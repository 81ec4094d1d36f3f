/-
  What the reference's Read computes (chapter 04).
-/
import Derived.Test.YtcffabfaefbjcaaRead
namespace Go.Proofs.Ytcffabfaefbjcaa
set_option linter.unusedVariables false
open Go.RowKit Crc
theorem le_num (t : List Nat) (h : IsBytes t) : le t.length (num t) = t := by
  induction t with
  | nil => rfl
  | cons b t ih =>
    have hb := h b (by simp)
    rw [List.length_cons, le, num]
    rw [show (b + 256 * num t) % 256 = b by omega, show (b + 256 * num t) / 256 = num t by omega, ih (fun x hx => h x (by simp [hx]))]
theorem num_le (k n : Nat) (h : n < 256 ^ k) : num (le k n) = n := by
  induction k generalizing n with
  | zero => simp at h; subst h; rfl
  | succ k ih =>
    rw [le, num, ih (n / 256) (by rw [Nat.pow_succ] at h; omega)]
    omega
theorem sealed_inj {a b : List Nat} (h : sealed a = sealed b) : a = b := by
  rw [← sealed_take a, ← sealed_take b, h]
theorem opn_zero {b : List Nat} (h : (opn b).2 = 0) : b = sealed (opn b).1 := by
  unfold opn at h ⊢
  split at h
  · rename_i hs
    rw [if_pos hs]; exact hs
  · cases h
theorem body_eq (u : List Nat) (hu : IsBytes u) (h8 : 8 ≤ u.length) (hs : u.length ≤ 608) : body (num (u.take 6)) (u.drop 8) = u ↔ num ((u.drop 6).take 2) = u.length - 8 := by
  have e6 : (u.take 6).length = 6 := by rw [List.length_take]; omega
  have e2 : ((u.drop 6).take 2).length = 2 := by rw [List.length_take, List.length_drop]; omega
  have h6 := le_num (u.take 6) (hu.take 6)
  rw [e6] at h6
  have hsp : u = u.take 6 ++ (u.drop 6).take 2 ++ u.drop 8 := by
    have h1 : u.drop 8 = (u.drop 6).drop 2 := by rw [List.drop_drop]
    rw [h1, List.append_assoc, List.take_append_drop, List.take_append_drop]
  unfold body
  rw [h6, List.length_drop]
  constructor
  · intro h
    have h2 : u.take 6 ++ le 2 (u.length - 8) ++ u.drop 8 = u.take 6 ++ (u.drop 6).take 2 ++ u.drop 8 := h.trans hsp
    have h3 := List.append_cancel_left (List.append_cancel_right h2)
    rw [← h3, num_le 2 _ (by omega)]
  · intro h
    have h2 := le_num ((u.drop 6).take 2) ((hu.drop 6).take 2)
    rw [e2, h] at h2
    rw [h2]
    exact hsp.symm
theorem rd_frm (b : List Nat) (hb : IsBytes b) (h0 : (opn b).2 = 0) (h8 : 8 ≤ (opn b).1.length) : rdOk b ↔ okF (rdN b) (rdL b) ∧ frm (num ((opn b).1.take 6)) (rdL b) = b := by
  have hu := opn_bytes hb
  have hbs := opn_zero h0
  constructor
  · intro h
    obtain ⟨_, _, h3, h4⟩ := h
    refine ⟨h4, ?_⟩
    have h5 : (opn b).1.length ≤ 608 := by have := h4.2.2; unfold rdL at this; rw [List.length_drop] at this; omega
    have := (body_eq _ hu h8 h5).2 h3
    unfold frm rdL
    rw [this]; exact hbs.symm
  · rintro ⟨h4, h⟩
    refine ⟨h0, h8, ?_, h4⟩
    have h5 : (opn b).1.length ≤ 608 := by have := h4.2.2; unfold rdL at this; rw [List.length_drop] at this; omega
    refine (body_eq _ hu h8 h5).1 ?_
    unfold frm rdL at h
    exact sealed_inj (h.trans hbs)
theorem rd_long (b : List Nat) (h : 612 < b.length) : ¬ rdOk b := by
  intro hr
  have hbs := opn_zero hr.1
  have h1 := congrArg List.length hbs
  rw [sealed_length] at h1
  have h2 := hr.2.2.2.2.2
  unfold rdL at h2
  rw [List.length_drop] at h2
  omega
/-- 's[8:]' -/
theorem slice_8f (b off n cap : Nat) (h8 : 8 ≤ n) (hcap : n ≤ cap) (w : World) : (Instr.slice 35 (.slice (some ⟨b, off, none⟩) n cap) (some (.int .i64 8)) none none).run Try.prog w = .ok (.slice (some (if cap = 8 then ⟨b, off, none⟩ else ⟨b, off + 8, none⟩)) (n - 8) (cap - 8)) w := by
  rw [run_slice_l w 35 _ _ _ elem35 .i64 _ (by omega) (by omega), size35]
  by_cases h : cap = 8
  · subst h; simp [Result.andThen, sliced]
  · simp [Result.andThen, sliced, Addr.add, h]
theorem sl_8f {w : World} {b off n cap : Nat} {u : List Nat} (h : Sl w (.slice (some ⟨b, off, none⟩) n cap) u) (hn : u.length = n) (h8 : 8 ≤ n) : Sl w (.slice (some (if cap = 8 then ⟨b, off, none⟩ else ⟨b, off + 8, none⟩)) (n - 8) (cap - 8)) (u.drop 8) := by
  subst hn
  have hl : (u.drop 8).length = u.length - 8 := List.length_drop ..
  obtain ⟨h0, ao, cap', e, h1, h2, h3, h5⟩ := h
  cases e
  refine ⟨h0.drop 8, _, cap - 8, by rw [hl], by rw [hl]; omega, by omega, fun e => (by cases e), ?_⟩
  rw [hl]
  by_cases hz : u.length = 8
  · exact .inl (by omega)
  · rw [if_neg (by omega)]
    rcases h5 with h5 | ⟨b', off', e, hc⟩
    · omega
    · cases e
      refine .inr ⟨_, _, rfl, fun i hi => ?_⟩
      rw [Nat.add_assoc, hc (8 + i) (by omega)]
      simp [List.getD]
set_option maxHeartbeats 1000000 in
theorem readr_any (b : List Nat) (hb : IsBytes b) (hlen : b.length ≤ 1000000) (w : World) : Calls Try.prog 30 #[.string (strOf b)] w (ReadPost w b) := by
  obtain ⟨m, hm⟩ : ∃ m, b.length = m := ⟨_, rfl⟩
  have hsz : (strOf b).size = m := by rw [strOf_size, hm]
  have HBY := Lib.hid hb
  by_cases hbig : 612 < m
  · have d0 : decide (612 < (m : Int)) = true := by simp; omega
    have HBAD := Lib.hid (rd_long b (by omega))
    have B0 := Lib.hid (Below.refl w.heap.size w)
    go_enter Try.func30, Try.ntmps30
    go_wp2
    go_ret3
    exact ReadPost.bad HBAD.out rfl B0.out
  have d0 : decide (612 < (m : Int)) = false := by simp; omega
  have hconv := conv_run b m hm
  have HS := Lib.hid (conv_sl b hb m hm (by omega) w)
  have HL := Lib.hid (show b.length < 35184372088832 by omega)
  have HB := Lib.hid (conv_below w (strOf b))
  have HLE := Lib.hid (opn_le b)
  rcases opn_two b with h0 | ⟨h50, hnil⟩
  · obtain ⟨u, hu⟩ : ∃ u, (opn b).1 = u := ⟨_, rfl⟩
    have HU := Lib.hid hu
    have H0 := Lib.hid h0
    obtain ⟨n, hn⟩ : ∃ n, u.length = n := ⟨_, rfl⟩
    have hnb : n ≤ 612 := by have := HLE.out; rw [hu, hn] at this; omega
    have HN := Lib.hid hn
    have HUB := Lib.hid (show IsBytes u by rw [← hu]; exact opn_bytes hb)
    by_cases h8 : n < 8
    · have d8 : decide ((n : Int) < 8) = true := by simp; omega
      have HBAD := Lib.hid (show ¬ rdOk b from fun h => by have h2 := h.2.1; rw [HU.out, HN.out] at h2; omega)
      clear hu hn
      go_enter Try.func30, Try.ntmps30
      go_wp2_with fail
      refine (openr_opn _ b HL.out _ HS.out).mono ?_
      rintro e w1 ⟨v, rfl, hsl, hbo⟩
      rw [HU.out] at hsl
      obtain ⟨ao, cap, rfl, hk1, hk2⟩ := sl_shape hsl
      rw [HN.out] at hk1 ⊢
      have HB1 := Lib.hid (HB.out.trans (hbo.mono HB.out.size))
      clear hsl hbo hconv
      rw [h0]
      go_wp2
      go_ret3
      exact ReadPost.bad HBAD.out rfl HB1.out
    have h8' : 8 ≤ n := by omega
    have d8 : decide ((n : Int) < 8) = false := by simp; omega
    have G1 := Lib.hid (get06 u (by rw [hn]; exact h8'))
    obtain ⟨N, hN⟩ : ∃ N, num (u.take 6) = N := ⟨_, rfl⟩
    rw [hN] at G1
    obtain ⟨l, hl⟩ : ∃ l, u.drop 8 = l := ⟨_, rfl⟩
    have HRD := Lib.hid (rd_frm b hb h0 (by rw [hu, hn]; exact h8'))
    have hrn : rdN b = (N : Int) := by unfold rdN; rw [hu, hN]
    have hrl : rdL b = l := by unfold rdL; rw [hu, hl]
    rw [hrn, hrl, hu, hN] at HRD
    have HRN := Lib.hid hrn
    have HRL := Lib.hid hrl
    have HLB := Lib.hid (show IsBytes l by rw [← hl]; exact HUB.out.drop 8)
    have BR := Lib.hid (bytesr_any (N : Int) l HLB.out)
    have HDL := Lib.hid hl
    clear hu hn hN hl hrn hrl
    by_cases c1 : okF (N : Int) l
    · have e1 : bytesE (N : Int) l = 0 := if_pos c1
      have e2 : bytesL (N : Int) l = frm N l := by unfold bytesL; rw [if_pos c1]; rfl
      rw [e1, e2] at BR
      clear e1 e2
      by_cases c2 : frm N l = b
      · have HOK := Lib.hid (HRD.out.2 ⟨c1, c2⟩)
        have ds : ((strOf (frm N l)).toList == (strOf b).toList) = true := by rw [c2]; exact beq_self_eq_true _
        clear c1 c2
        go_enter Try.func30, Try.ntmps30
        go_wp2_with fail
        refine (openr_opn _ b HL.out _ HS.out).mono ?_
        rintro e w1 ⟨v, rfl, hsl, hbo⟩
        rw [HU.out] at hsl
        obtain ⟨g, off, cap, rfl, hk1, hk2⟩ := sl_ptr hsl HN.out (by omega)
        have HV := Lib.hid hsl
        have HB1 := Lib.hid (HB.out.trans (hbo.mono HB.out.size))
        clear hsl hbo hconv
        rw [h0]
        go_wp2_with fail
        refine (getr_any _ 0 6 (by omega) u w1 HV.out).mono ?_
        rintro e w' ⟨rfl, rfl⟩
        rw [G1.out.1, G1.out.2]
        have s8 := slice_8f g off n cap h8' hk1
        have hstr := (sl_8f HV.out HN.out h8').str
        rw [HDL.out] at hstr
        generalize (if cap = 8 then (⟨g, off, none⟩ : Addr) else ⟨g, off + 8, none⟩) = ad at s8 hstr
        go_wp2_with fail
        refine (BR.out w1).mono ?_
        rintro e w2 ⟨rfl, hbr⟩
        have HB2 := Lib.hid (HB1.out.trans (hbr.mono HB1.out.size))
        clear hbr s8 hstr
        go_wp2
        go_ret3
        exact ReadPost.good HOK.out (by rw [HRN.out, HRL.out]; rfl) HB2.out
      · have HBAD := Lib.hid (show ¬ rdOk b from fun h => c2 (HRD.out.1 h).2)
        have ds : ((strOf (frm N l)).toList == (strOf b).toList) = false := by rw [str_beq (frm_bytes _ HLB.out) HBY.out]; simpa using c2
        clear c1 c2
        go_enter Try.func30, Try.ntmps30
        go_wp2_with fail
        refine (openr_opn _ b HL.out _ HS.out).mono ?_
        rintro e w1 ⟨v, rfl, hsl, hbo⟩
        rw [HU.out] at hsl
        obtain ⟨g, off, cap, rfl, hk1, hk2⟩ := sl_ptr hsl HN.out (by omega)
        have HV := Lib.hid hsl
        have HB1 := Lib.hid (HB.out.trans (hbo.mono HB.out.size))
        clear hsl hbo hconv
        rw [h0]
        go_wp2_with fail
        refine (getr_any _ 0 6 (by omega) u w1 HV.out).mono ?_
        rintro e w' ⟨rfl, rfl⟩
        rw [G1.out.1, G1.out.2]
        have s8 := slice_8f g off n cap h8' hk1
        have hstr := (sl_8f HV.out HN.out h8').str
        rw [HDL.out] at hstr
        generalize (if cap = 8 then (⟨g, off, none⟩ : Addr) else ⟨g, off + 8, none⟩) = ad at s8 hstr
        go_wp2_with fail
        refine (BR.out w1).mono ?_
        rintro e w2 ⟨rfl, hbr⟩
        have HB2 := Lib.hid (HB1.out.trans (hbr.mono HB1.out.size))
        clear hbr s8 hstr
        go_wp2
        go_ret3
        exact ReadPost.bad HBAD.out rfl HB2.out
    · have HBAD := Lib.hid (show ¬ rdOk b from fun h => c1 (HRD.out.1 h).1)
      have e1 : bytesE (N : Int) l = 2 := if_neg c1
      rw [e1] at BR
      generalize bytesL (N : Int) l = bl at BR
      clear c1 e1
      go_enter Try.func30, Try.ntmps30
      go_wp2_with fail
      refine (openr_opn _ b HL.out _ HS.out).mono ?_
      rintro e w1 ⟨v, rfl, hsl, hbo⟩
      rw [HU.out] at hsl
      obtain ⟨g, off, cap, rfl, hk1, hk2⟩ := sl_ptr hsl HN.out (by omega)
      have HV := Lib.hid hsl
      have HB1 := Lib.hid (HB.out.trans (hbo.mono HB.out.size))
      clear hsl hbo hconv
      rw [h0]
      go_wp2_with fail
      refine (getr_any _ 0 6 (by omega) u w1 HV.out).mono ?_
      rintro e w' ⟨rfl, rfl⟩
      rw [G1.out.1, G1.out.2]
      have s8 := slice_8f g off n cap h8' hk1
      have hstr := (sl_8f HV.out HN.out h8').str
      rw [HDL.out] at hstr
      generalize (if cap = 8 then (⟨g, off, none⟩ : Addr) else ⟨g, off + 8, none⟩) = ad at s8 hstr
      go_wp2_with fail
      refine (BR.out w1).mono ?_
      rintro e w2 ⟨rfl, hbr⟩
      have HB2 := Lib.hid (HB1.out.trans (hbr.mono HB1.out.size))
      clear hbr s8 hstr
      go_wp2
      go_ret3
      exact ReadPost.bad HBAD.out rfl HB2.out
  · have hbad : ¬ rdOk b := fun h => by have := h.1; omega
    have HBAD := Lib.hid hbad
    clear hbad
    go_enter Try.func30, Try.ntmps30
    go_wp2_with fail
    refine (openr_opn _ b HL.out _ HS.out).mono ?_
    rintro e w1 ⟨v, rfl, hsl, hbo⟩
    rw [hnil] at hsl
    obtain ⟨ao, cap, rfl, hk1, hk2⟩ := sl_shape hsl
    have HB1 := Lib.hid (HB.out.trans (hbo.mono HB.out.size))
    clear hsl hbo hconv
    rw [h50]
    go_wp2
    go_ret3
    exact ReadPost.bad HBAD.out rfl HB1.out
end Go.Proofs.Ytcffabfaefbjcaa
