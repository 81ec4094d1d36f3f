/-
  What frame.Read and its reference compute (chapter 04).
-/
import Derived.Test.YtcffabfaefbjcaaFrame
import Derived.Test.YtcffabfaefbjcaaOpn
namespace Go.Proofs.Ytcffabfaefbjcaa
set_option linter.unusedVariables false
open Go.RowKit Crc
def rdN (b : List Nat) : Int := ((num ((opn b).1.take 6) : Nat) : Int)
def rdL (b : List Nat) : List Nat := (opn b).1.drop 8
def rdOk (b : List Nat) : Prop := (opn b).2 = 0 ∧ 8 ≤ (opn b).1.length ∧ num (((opn b).1.drop 6).take 2) = (opn b).1.length - 8 ∧ okF (rdN b) (rdL b)
instance (b : List Nat) : Decidable (rdOk b) := by unfold rdOk; infer_instance
def ReadPost (w : World) (b : List Nat) (e : Ending) (w' : World) : Prop :=
  e = .returned (.tuple #[.int .i64 (if rdOk b then rdN b else 0), .string (strOf (if rdOk b then rdL b else [])), .int .i64 (if rdOk b then 0 else 50)]) ∧ Below w.heap.size w w'
theorem ReadPost.bad {w : World} {b : List Nat} {e : Ending} {w' : World} (h : ¬ rdOk b) (he : e = .returned (.tuple #[.int .i64 0, .string (strOf []), .int .i64 50])) (hb : Below w.heap.size w w') : ReadPost w b e w' := by
  unfold ReadPost
  rw [if_neg h, if_neg h, if_neg h]
  exact ⟨he, hb⟩
theorem ReadPost.good {w : World} {b : List Nat} {e : Ending} {w' : World} (h : rdOk b) (he : e = .returned (.tuple #[.int .i64 (rdN b), .string (strOf (rdL b)), .int .i64 0])) (hb : Below w.heap.size w w') : ReadPost w b e w' := by
  unfold ReadPost
  rw [if_pos h, if_pos h, if_pos h]
  exact ⟨he, hb⟩
theorem opn_two (b : List Nat) : (opn b).2 = 0 ∨ ((opn b).2 = 50 ∧ (opn b).1 = []) := by
  unfold opn
  split
  · exact .inl rfl
  · exact .inr ⟨rfl, rfl⟩
theorem opn_le (b : List Nat) : (opn b).1.length ≤ b.length := by
  unfold opn
  split
  · rw [List.length_take]; omega
  · simp
theorem sl_ptr {w : World} {v : Value} {l : List Nat} {n : Nat} (h : Sl w v l) (hn : l.length = n) (h0 : 0 < n) : ∃ b off cap, v = .slice (some ⟨b, off, none⟩) n cap ∧ n ≤ cap ∧ cap ≤ 9223372036854775807 := by
  subst hn
  obtain ⟨h0', ao, cap, rfl, h1, h2, h3, h5⟩ := h
  unfold maxLen at h2
  rcases h5 with h5 | ⟨b, off, rfl, hc⟩
  · omega
  · exact ⟨b, off, cap, rfl, h1, by omega⟩
theorem sl_shape {w : World} {v : Value} {l : List Nat} (h : Sl w v l) : ∃ ao cap, v = .slice ao l.length cap ∧ l.length ≤ cap ∧ cap ≤ 9223372036854775807 := by
  obtain ⟨h0, ao, cap, e, h1, h2, h3⟩ := h
  exact ⟨ao, cap, e, h1, by unfold maxLen at h2; omega⟩
/-- 's[8:n:n]' -/
theorem slice_8 (b off n cap : Nat) (h8 : 8 ≤ n) (hcap : n ≤ cap) (w : World) : (Instr.slice 35 (.slice (some ⟨b, off, none⟩) n cap) (some (.int .i64 8)) (some (.int .i64 (n : Int))) (some (.int .i64 (n : Int)))).run Try.prog w = .ok (.slice (some (if n = 8 then ⟨b, off, none⟩ else ⟨b, off + 8, none⟩)) (n - 8) (n - 8)) w := by
  rw [run_slice_lhm w 35 _ _ _ elem35 .i64 .i64 .i64 _ _ _ (by omega) (by omega) (by omega) (by omega), size35]
  by_cases h : n = 8
  · subst h; simp [Result.andThen, sliced]
  · simp [Result.andThen, sliced, Addr.add, h]
theorem sl_8 {w : World} {b off n cap : Nat} {u : List Nat} (h : Sl w (.slice (some ⟨b, off, none⟩) n cap) u) (hn : u.length = n) (h8 : 8 ≤ n) : Sl w (.slice (some (if n = 8 then ⟨b, off, none⟩ else ⟨b, off + 8, none⟩)) (n - 8) (n - 8)) (u.drop 8) := by
  subst hn
  have hl : (u.drop 8).length = u.length - 8 := List.length_drop ..
  obtain ⟨h0, ao, cap', e, h1, h2, h3, h5⟩ := h
  cases e
  refine ⟨h0.drop 8, _, u.length - 8, by rw [hl], by rw [hl]; exact Nat.le_refl _, by omega, fun e => (by cases e), ?_⟩
  rw [hl]
  by_cases hz : u.length = 8
  · exact .inl (by omega)
  · rw [if_neg hz]
    rcases h5 with h5 | ⟨b', off', e, hc⟩
    · omega
    · cases e
      refine .inr ⟨_, _, rfl, fun i hi => ?_⟩
      rw [Nat.add_assoc, hc (8 + i) (by omega)]
      simp [List.getD]
theorem opn_bytes {b : List Nat} (h : IsBytes b) : IsBytes (opn b).1 := by
  unfold opn
  split
  · exact h.take _
  · exact IsBytes.nil
theorem get06 (u : List Nat) (h : 8 ≤ u.length) : getV u 0 6 = ((num (u.take 6) : Nat) : Int) ∧ getE u.length 0 6 = 0 := by
  have := getE_0 u (a := 0) (k := 6) (by omega) (by omega) (by omega) (by omega) (by omega)
  simpa using this
theorem get62 (u : List Nat) (h : 8 ≤ u.length) : getV u 6 2 = ((num ((u.drop 6).take 2) : Nat) : Int) ∧ getE u.length 6 2 = 0 :=
  getE_0 u (a := 6) (k := 2) (by omega) (by omega) (by omega) (by omega) (by omega)
theorem get62_late (u : List Nat) (h : u.length < 8) : getE u.length 6 2 = 50 := by
  unfold getE
  rw [if_neg (by omega), if_pos (by omega)]
theorem str_draws {w : World} {v : Value} {l : List Nat} (h : Sl w v l) (n : Nat) : (convert 35 9 v).run Try.prog (w.drewN n) = .ok (.string (strOf l)) (w.drewN n) :=
  (h.below (below_drewN (Below.refl w.heap.size w) n) (Nat.le_refl _)).str
set_option maxHeartbeats 1000000 in
theorem read_any (b : List Nat) (hb : IsBytes b) (hlen : b.length ≤ 1000000) (w : World) : Calls Try.prog 29 #[.string (strOf b)] w (ReadPost w b) := by
  obtain ⟨m, hm⟩ : ∃ m, b.length = m := ⟨_, rfl⟩
  have hconv := conv_run b m hm
  have HS := Lib.hid (conv_sl b hb m hm (by omega) w)
  have HL := Lib.hid (show b.length < 35184372088832 by omega)
  have HB := Lib.hid (conv_below w (strOf b))
  have HLE := Lib.hid (opn_le b)
  rcases opn_two b with h0 | ⟨h50, hnil⟩
  · obtain ⟨u, hu⟩ : ∃ u, (opn b).1 = u := ⟨_, rfl⟩
    have HU := Lib.hid hu
    have H0 := Lib.hid h0
    obtain ⟨n, hn⟩ : ∃ n, u.length = n := ⟨_, rfl⟩
    have hnb : n ≤ 1000000 := by have := HLE.out; rw [hu, hn] at this; omega
    have HN := Lib.hid hn
    have hub : IsBytes u := by rw [← hu]; exact opn_bytes hb
    have HUB := Lib.hid hub
    clear hub
    by_cases h8 : n < 8
    · have HBAD := Lib.hid (show ¬ rdOk b from fun h => by have h2 := h.2.1; rw [HU.out, HN.out] at h2; omega)
      clear hu hn
      go_enter Try.func29, Try.ntmps29
      go_wp2_with fail
      refine (open_opn _ b HL.out _ HS.out).mono ?_
      rintro e w1 ⟨v, rfl, hsl, hbo⟩
      rw [HU.out] at hsl
      have HV := Lib.hid hsl
      have HB1 := Lib.hid (HB.out.trans (hbo.mono HB.out.size))
      clear hsl hbo hconv
      rw [h0]
      go_wp2_with fail
      refine (get_any v 0 6 (by omega) u w1 HV.out).mono ?_
      rintro e w' ⟨rfl, rfl⟩
      go_wp2_with fail
      refine (get_any v 6 2 (by omega) u w1 HV.out).mono ?_
      rintro e w' ⟨rfl, rfl⟩
      rw [get62_late u (by rw [HN.out]; exact h8)]
      generalize getV u 6 2 = g1
      generalize getV u 0 6 = g2
      generalize getE _ 0 6 = g4
      go_wp2_with fail
      go_ret3
      exact ReadPost.bad HBAD.out rfl HB1.out
    have h8' : 8 ≤ n := by omega
    have G1 := Lib.hid (get06 u (by rw [hn]; exact h8'))
    have G2 := Lib.hid (get62 u (by rw [hn]; exact h8'))
    obtain ⟨N, hN⟩ : ∃ N, num (u.take 6) = N := ⟨_, rfl⟩
    obtain ⟨L, hL⟩ : ∃ L, num ((u.drop 6).take 2) = L := ⟨_, rfl⟩
    have hNb : N < 281474976710656 := by
      have := num_lt (u.take 6) (HUB.out.take 6)
      rw [List.length_take, hn, show min 6 n = 6 by omega, hN] at this
      exact this
    have hLb : L < 65536 := by
      have := num_lt ((u.drop 6).take 2) ((HUB.out.drop 6).take 2)
      rw [List.length_take, List.length_drop, hn, show min 2 (n - 6) = 2 by omega, hL] at this
      exact this
    rw [hN] at G1
    rw [hL] at G2
    have HRD := Lib.hid (show rdOk b ↔ L = n - 8 ∧ 1 ≤ N ∧ N ≤ 1048575 ∧ n ≤ 608 by
      unfold rdOk okF rdN rdL
      rw [hu, hn, hL, hN, List.length_drop, hn]
      omega)
    have HRN := Lib.hid (show rdN b = (N : Int) by unfold rdN; rw [hu, hN])
    have HRL := Lib.hid (show rdL b = u.drop 8 by unfold rdL; rw [hu])
    clear hu hn hN hL
    by_cases c1 : L = n - 8
    · have d1 : ((L : Int) == (n : Int) - 6 - 2) = true := by rw [beq_iff_eq]; omega
      by_cases c2 : 600 < L
      · have d2 : decide (600 < (L : Int)) = true := by simp; omega
        have HBAD := Lib.hid (show ¬ rdOk b from fun h => by have h2 := HRD.out.1 h; omega)
        go_enter Try.func29, Try.ntmps29
        go_wp2_with fail
        refine (open_opn _ b HL.out _ HS.out).mono ?_
        rintro e w1 ⟨v, rfl, hsl, hbo⟩
        rw [HU.out] at hsl
        obtain ⟨g, off, cap, rfl, hk1, hk2⟩ := sl_ptr hsl HN.out (by omega)
        have HV := Lib.hid hsl
        have HB1 := Lib.hid (HB.out.trans (hbo.mono HB.out.size))
        clear hsl hbo hconv
        rw [h0]
        go_wp2_with fail
        refine (get_any _ 0 6 (by omega) u w1 HV.out).mono ?_
        rintro e w' ⟨rfl, rfl⟩
        rw [G1.out.1, G1.out.2]
        go_wp2_with fail
        refine (get_any _ 6 2 (by omega) u w1 HV.out).mono ?_
        rintro e w' ⟨rfl, rfl⟩
        rw [G2.out.1, G2.out.2]
        go_wp2_with fail
        go_ret3
        exact ReadPost.bad HBAD.out rfl HB1.out
      have d2 : decide (600 < (L : Int)) = false := by simp; omega
      by_cases c3 : N < 1
      · have d3 : decide ((N : Int) < 1) = true := by simp; omega
        have HBAD := Lib.hid (show ¬ rdOk b from fun h => by have h2 := HRD.out.1 h; omega)
        go_enter Try.func29, Try.ntmps29
        go_wp2_with fail
        refine (open_opn _ b HL.out _ HS.out).mono ?_
        rintro e w1 ⟨v, rfl, hsl, hbo⟩
        rw [HU.out] at hsl
        obtain ⟨g, off, cap, rfl, hk1, hk2⟩ := sl_ptr hsl HN.out (by omega)
        have HV := Lib.hid hsl
        have HB1 := Lib.hid (HB.out.trans (hbo.mono HB.out.size))
        clear hsl hbo hconv
        rw [h0]
        go_wp2_with fail
        refine (get_any _ 0 6 (by omega) u w1 HV.out).mono ?_
        rintro e w' ⟨rfl, rfl⟩
        rw [G1.out.1, G1.out.2]
        go_wp2_with fail
        refine (get_any _ 6 2 (by omega) u w1 HV.out).mono ?_
        rintro e w' ⟨rfl, rfl⟩
        rw [G2.out.1, G2.out.2]
        go_wp2_with fail
        go_ret3
        exact ReadPost.bad HBAD.out rfl HB1.out
      have d3 : decide ((N : Int) < 1) = false := by simp; omega
      by_cases c4 : 1048575 < N
      · have d4 : decide (1048575 < (N : Int)) = true := by simp; omega
        have HBAD := Lib.hid (show ¬ rdOk b from fun h => by have h2 := HRD.out.1 h; omega)
        go_enter Try.func29, Try.ntmps29
        go_wp2_with fail
        refine (open_opn _ b HL.out _ HS.out).mono ?_
        rintro e w1 ⟨v, rfl, hsl, hbo⟩
        rw [HU.out] at hsl
        obtain ⟨g, off, cap, rfl, hk1, hk2⟩ := sl_ptr hsl HN.out (by omega)
        have HV := Lib.hid hsl
        have HB1 := Lib.hid (HB.out.trans (hbo.mono HB.out.size))
        clear hsl hbo hconv
        rw [h0]
        go_wp2_with fail
        refine (get_any _ 0 6 (by omega) u w1 HV.out).mono ?_
        rintro e w' ⟨rfl, rfl⟩
        rw [G1.out.1, G1.out.2]
        go_wp2_with fail
        refine (get_any _ 6 2 (by omega) u w1 HV.out).mono ?_
        rintro e w' ⟨rfl, rfl⟩
        rw [G2.out.1, G2.out.2]
        go_wp2_with fail
        go_ret3
        exact ReadPost.bad HBAD.out rfl HB1.out
      have d4 : decide (1048575 < (N : Int)) = false := by simp; omega
      have HOK := Lib.hid (show rdOk b from HRD.out.2 (by omega))
      clear c1 c2 c3 c4
      go_enter Try.func29, Try.ntmps29
      go_wp2_with fail
      refine (open_opn _ b HL.out _ HS.out).mono ?_
      rintro e w1 ⟨v, rfl, hsl, hbo⟩
      rw [HU.out] at hsl
      obtain ⟨g, off, cap, rfl, hk1, hk2⟩ := sl_ptr hsl HN.out (by omega)
      have HV := Lib.hid hsl
      have HB1 := Lib.hid (HB.out.trans (hbo.mono HB.out.size))
      clear hsl hbo hconv
      rw [h0]
      go_wp2_with fail
      refine (get_any _ 0 6 (by omega) u w1 HV.out).mono ?_
      rintro e w' ⟨rfl, rfl⟩
      rw [G1.out.1, G1.out.2]
      go_wp2_with fail
      refine (get_any _ 6 2 (by omega) u w1 HV.out).mono ?_
      rintro e w' ⟨rfl, rfl⟩
      rw [G2.out.1, G2.out.2]
      have s8 := slice_8 g off n cap (by omega) hk1
      have hq := fun k => str_draws (sl_8 HV.out HN.out h8') k
      generalize (if n = 8 then (⟨g, off, none⟩ : Addr) else ⟨g, off + 8, none⟩) = ad at s8 hq
      go_wp2_with fail
      go_quiet (fail)
      go_wp2
      go_ret3
      exact ReadPost.good HOK.out (by rw [HRN.out, HRL.out]; rfl) (below_drewN HB1.out _)
    · have d1 : ((L : Int) == (n : Int) - 6 - 2) = false := by rw [beq_eq_false_iff_ne]; omega
      have HBAD := Lib.hid (show ¬ rdOk b from fun h => c1 (HRD.out.1 h).1)
      go_enter Try.func29, Try.ntmps29
      go_wp2_with fail
      refine (open_opn _ b HL.out _ HS.out).mono ?_
      rintro e w1 ⟨v, rfl, hsl, hbo⟩
      rw [HU.out] at hsl
      obtain ⟨g, off, cap, rfl, hk1, hk2⟩ := sl_ptr hsl HN.out (by omega)
      have HV := Lib.hid hsl
      have HB1 := Lib.hid (HB.out.trans (hbo.mono HB.out.size))
      clear hsl hbo hconv
      rw [h0]
      go_wp2_with fail
      refine (get_any _ 0 6 (by omega) u w1 HV.out).mono ?_
      rintro e w' ⟨rfl, rfl⟩
      rw [G1.out.1, G1.out.2]
      go_wp2_with fail
      refine (get_any _ 6 2 (by omega) u w1 HV.out).mono ?_
      rintro e w' ⟨rfl, rfl⟩
      rw [G2.out.1, G2.out.2]
      go_wp2_with fail
      go_ret3
      exact ReadPost.bad HBAD.out rfl HB1.out
  · have hbad : ¬ rdOk b := fun h => by have := h.1; omega
    have HBAD := Lib.hid hbad
    clear hbad
    go_enter Try.func29, Try.ntmps29
    go_wp2_with fail
    refine (open_opn _ b HL.out _ HS.out).mono ?_
    rintro e w1 ⟨v, rfl, hsl, hbo⟩
    rw [hnil] at hsl
    have HV := Lib.hid hsl
    have HB1 := Lib.hid (HB.out.trans (hbo.mono HB.out.size))
    clear hsl hbo hconv
    rw [h50]
    go_wp2_with fail
    refine (get_any v 0 6 (by omega) [] w1 HV.out).mono ?_
    rintro e w' ⟨rfl, rfl⟩
    go_wp2_with fail
    refine (get_any v 6 2 (by omega) [] w1 HV.out).mono ?_
    rintro e w' ⟨rfl, rfl⟩
    generalize getV [] 6 2 = g1
    generalize getV [] 0 6 = g2
    generalize getE _ 6 2 = g3
    generalize getE _ 0 6 = g4
    go_wp2_with fail
    go_ret3
    exact ReadPost.bad HBAD.out rfl HB1.out
end Go.Proofs.Ytcffabfaefbjcaa
