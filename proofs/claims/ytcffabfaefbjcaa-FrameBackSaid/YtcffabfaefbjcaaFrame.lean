/-
  What frame.Bytes and its reference compute (chapter 04).
-/
import Derived.Test.YtcffabfaefbjcaaText
import Derived.Lib.AppendStr
namespace Go.Proofs.Ytcffabfaefbjcaa
set_option linter.unusedVariables false
open Go.RowKit Crc
/-- a frame, ahead of its sum -/
def body (n : Nat) (l : List Nat) : List Nat := le 6 n ++ le 2 l.length ++ l
def frm (n : Nat) (l : List Nat) : List Nat := sealed (body n l)
theorem body_length (n : Nat) (l : List Nat) : (body n l).length = l.length + 8 := by
  unfold body; rw [List.length_append, List.length_append, le_length, le_length]; omega
theorem body_bytes (n : Nat) {l : List Nat} (h : IsBytes l) : IsBytes (body n l) := ((le_bytes _ _).append (le_bytes _ _)).append h
theorem frm_length (n : Nat) (l : List Nat) : (frm n l).length = l.length + 12 := by unfold frm; rw [sealed_length, body_length]
theorem frm_bytes (n : Nat) {l : List Nat} (h : IsBytes l) : IsBytes (frm n l) := sealed_bytes _ (body_bytes n h)
def PutNew (w : World) (k : Nat) (l : List Nat) (e : Ending) (w' : World) : Prop := ∃ g cap, e = .returned (.tuple #[.slice (some ⟨g, 0, none⟩) k cap, .int .i64 0]) ∧ k ≤ cap ∧ cap ≤ 9223372036854775807 ∧ Own 5 w.heap.size w' (.slice (some ⟨g, 0, none⟩) k cap) l ∧ Below w.heap.size w w'
theorem PutNew.of {w : World} {k : Nat} {l : List Nat} {e : Ending} {w' : World} (h : PutPost w l e w') (hl : l.length = k) (hk : 0 < k) : PutNew w k l e w' := by
  obtain ⟨v, rfl, h1, h2⟩ := h
  subst hl
  obtain ⟨h0, h3, h4⟩ := h1
  rcases h4 with ⟨rfl, h⟩ | ⟨g, cap, cur, rfl, hb, hg, hc, hm, hs, ht⟩
  · omega
  · exact ⟨g, cap, rfl, hc, by unfold maxLen at hm; omega, ⟨h0, h3, .inr ⟨g, cap, cur, rfl, hb, hg, hc, hm, hs, ht⟩⟩, h2⟩
theorem put_new (m k : Nat) (h1 : 1 ≤ k) (h2 : k ≤ 6) (hm : m < 256 ^ k) (w : World) (n q : Int) (hn : n = (m : Int)) (hq : q = (k : Int)) : Calls Try.prog 45 #[.slice none 0 0, .int .i64 n, .int .i64 q] w (PutNew w k (le k m)) := by
  subst hn; subst hq
  exact (put_yes none 0 [] m k h1 h2 hm w (Sl.nil w) (by simp)).mono fun e w' h => PutNew.of h (le_length _ _) (by omega)
theorem putr_new (v0 : Value) (l : List Nat) (m k N : Nat) (h1 : 1 ≤ k) (h2 : k ≤ 6) (hm : m < 256 ^ k) (w : World) (hsl : Sl w v0 l) (hlen : l.length < 1000000) (n q : Int) (hn : n = (m : Int)) (hq : q = (k : Int)) (hN : l.length + k = N) : Calls Try.prog 48 #[v0, .int .i64 n, .int .i64 q] w (PutNew w N (l ++ le k m)) := by
  subst hn; subst hq
  exact (putr_yes v0 l m k h1 h2 hm w hsl (by omega)).mono fun e w' h => PutNew.of h (by rw [List.length_append, le_length, hN]) (by omega)
theorem cells3 (w : World) (u0 u1 u2 : Value) (e : TypeId) : (w.alloc (.cells #[u0, u1, u2] e)).cell? ⟨w.heap.size, 0, none⟩ = some u0 ∧ (w.alloc (.cells #[u0, u1, u2] e)).cell? ⟨w.heap.size, 1, none⟩ = some u1 ∧ (w.alloc (.cells #[u0, u1, u2] e)).cell? ⟨w.heap.size, 2, none⟩ = some u2 := ⟨by simp, by simp, by simp⟩
set_option maxHeartbeats 1000000 in
theorem bytes_good (n : Nat) (h1 : 1 ≤ n) (h2 : n ≤ 1048575) (l : List Nat) (hl : IsBytes l) (m : Nat) (hm : l.length = m) (h6 : m ≤ 600) (w : World) :
    Calls Try.prog 27 #[.int .i64 (n : Int), .string (strOf l)] w fun e w' => e = .returned (.tuple #[.string (strOf (frm n l)), .int .i64 0]) ∧ Below w.heap.size w w' := by
  have hsz : (strOf l).size = m := by rw [strOf_size, hm]
  have hconv := conv_run l m hm
  have d1 : decide ((n : Int) < 1) = false := by simp; omega
  have d2 : decide (1048575 < (n : Int)) = false := by simp; omega
  have HL := Lib.hid hl
  have HM := Lib.hid hm
  have HS := Lib.hid (show sizeV (m : Int) = (m : Int) + 12 by unfold sizeV; rw [if_neg (by omega)])
  have HB := Lib.hid (show sealed (le 6 n ++ le 2 m ++ l) = frm n l by unfold frm body; rw [hm])
  clear hl hm
  go_enter Try.func27, Try.ntmps27
  go_wp2_with fail
  refine (put_new n 6 (by omega) (by omega) (by omega) w (n : Int) 6 rfl rfl).mono ?_
  rintro e w1 ⟨ga, ca, rfl, ha1, ha2, hoa, hba⟩
  have HA := Lib.hid hoa.sl
  have BA := Lib.hid hba
  clear hoa hba
  go_wp2_with fail
  refine (size_any (m : Int) w1).mono ?_
  rintro e w' ⟨rfl, rfl⟩
  rw [HS.out]
  go_wp2_with fail
  refine (put_new m 2 (by omega) (by omega) (by omega) w1 (m : Int) 2 rfl rfl).mono ?_
  rintro e w2 ⟨gb, cb, rfl, hb1, hb2, hob, hbb⟩
  have HA2 := Lib.hid (HA.out.below hbb (Nat.le_refl _))
  have HB2 := Lib.hid hob.sl
  have BB := Lib.hid (BA.out.trans (hbb.mono BA.out.size))
  clear hob hbb HA BA
  go_wp2_with fail
  have hc3 := cells3 (Lib.bytesWorld w2 5 (strOf l)) (.slice (some ⟨ga, 0, none⟩) 6 ca) (.slice (some ⟨gb, 0, none⟩) 2 cb) (.slice (some ⟨w2.heap.size, 0, none⟩) m (grownCap w2 m 0 5)) 35
  have hbw := conv_below w2 (strOf l)
  have hw3 := fun (o : Obj) => hbw.trans ((Below.refl _ _).alloc (by exact hbw.size) o : Below w2.heap.size (Lib.bytesWorld w2 5 (strOf l)) ((Lib.bytesWorld w2 5 (strOf l)).alloc o))
  refine (join3 _ _ _ _ (le 6 n) (le 2 m) l _ hc3.1 hc3.2.1 hc3.2.2 (HA2.out.below (hw3 _) (Nat.le_refl _)) (HB2.out.below (hw3 _) (Nat.le_refl _)) ((conv_sl l HL.out m HM.out (by omega) w2).below ((Below.refl _ _).alloc (Nat.le_refl _) _) (Nat.le_refl _)) (by rw [le_length]; omega) (by rw [le_length]; omega) (by rw [HM.out]; omega)).mono ?_
  rintro e w4 ⟨vj, rfl, hoj, hbj⟩
  have BJ := Lib.hid (BB.out.trans (((hw3 _).mono BB.out.size).trans (hbj.mono (by have h1 := BB.out.size; have h2 := (hw3 (.cells #[] 0)).size; simp at h2 ⊢; omega))))
  have HJ := Lib.hid hoj.sl
  clear hoj hbj hw3 hbw hc3 hconv
  go_wp2_with fail
  refine (seal_any vj _ w4 HJ.out (by rw [List.length_append, List.length_append, le_length, le_length, HM.out]; omega)).mono ?_
  rintro e w5 ⟨vs, rfl, hos, hbs⟩
  have hstr := hos.sl.str
  rw [HB.out] at hstr
  have B5 := Lib.hid (BJ.out.trans (hbs.mono BJ.out.size))
  clear hos hbs
  go_wp2
  go_ret2
  exact ⟨rfl, B5.out⟩
theorem strCells_of (r : List Nat) (hr : IsBytes r) : Lib.strCells (strOf r) = r.map bv := by
  unfold Lib.strCells
  rw [strOf_toList, List.map_map]
  refine List.map_congr_left fun x hx => ?_
  have := hr x hx
  simp [bv]
  omega
/-- 'out = append(out, s...)', s a text -/
theorem wp_cat_str {w : World} {ops : Array Oper} {rest : List Oper} {o : Oper} {a : Act} {Q : Exit → Act → World → Prop} (hgd : o.guard = none) (s x : Operand)
    (ho : o.op = .call { callee := .builtin .append, args := #[s, x], argTypes := #[35, 9] })
    (B : Nat) (v : Value) (l : List Nat) (hs : a.eval s = v) (hown : Own 5 B w v l) (r : List Nat) (hr : IsBytes r) (hx : a.eval x = .string (strOf r))
    (hlen : l.length + r.length ≤ 70368744177664) (hB : B ≤ w.heap.size)
    (h : ∀ v' w', Own 5 B w' v' (l ++ r) → w.grownBy w' v.ownBlock → wpList Try.prog ops Q rest (a.put o.dst v') w') : wpList Try.prog ops Q (o :: rest) a w := by
  obtain ⟨i0, hi, hz0, hz1, hz2⟩ := info_parts bt.i
  refine Lib.wpList_append_own_string _ hgd s x 35 9 ho B 5 i0 Try.underlying35 Try.underlying9 hi hz0 hz1 hz2 v l.length (l.map bv) hs hown.2 (strOf r) hx (by rw [strOf_size]; unfold maxLen; omega) (by rw [strOf_size]; omega) hB ?_
  intro v' w' h1 h2 _
  rw [strOf_size, strCells_of r hr, ← List.map_append, ← List.length_append] at h1
  exact h v' w' ⟨hown.1.append hr, h1⟩ h2
set_option maxHeartbeats 1000000 in
theorem bytesr_good (n : Nat) (h1 : 1 ≤ n) (h2 : n ≤ 1048575) (l : List Nat) (hl : IsBytes l) (m : Nat) (hm : l.length = m) (h6 : m ≤ 600) (w : World) :
    Calls Try.prog 28 #[.int .i64 (n : Int), .string (strOf l)] w fun e w' => e = .returned (.tuple #[.string (strOf (frm n l)), .int .i64 0]) ∧ Below w.heap.size w w' := by
  have hsz : (strOf l).size = m := by rw [strOf_size, hm]
  have d1 : decide ((n : Int) < 1) = false := by simp; omega
  have d2 : decide (1048575 < (n : Int)) = false := by simp; omega
  have d3 : decide (600 < (m : Int)) = false := by simp; omega
  have HL := Lib.hid hl
  have HM := Lib.hid hm
  have HB := Lib.hid (show sealed ([] ++ le 6 n ++ le 2 m ++ l) = frm n l by unfold frm body; rw [hm, List.nil_append])
  have HK := Lib.hid (show ([] ++ le 6 n ++ le 2 m).length + l.length ≤ 1000000 by rw [List.nil_append, List.length_append, le_length, le_length]; omega)
  clear hl hm
  go_enter Try.func28, Try.ntmps28
  go_wp2_with fail
  refine (putr_new (.slice none 0 0) [] n 6 6 (by omega) (by omega) (by omega) w (Sl.nil w) (by simp) (n : Int) 6 rfl rfl (by simp)).mono ?_
  rintro e w1 ⟨ga, ca, rfl, ha1, ha2, hoa, hba⟩
  have HA := Lib.hid hoa.sl
  have BA := Lib.hid hba
  clear hoa hba
  go_wp2_with fail
  refine (putr_new _ _ m 2 8 (by omega) (by omega) (by omega) w1 HA.out (by rw [List.nil_append, le_length]; omega) (m : Int) 2 rfl rfl (by rw [List.nil_append, le_length])).mono ?_
  rintro e w2 ⟨gb, cb, rfl, hb1, hb2, hob, hbb⟩
  have HO := Lib.hid (hob.mono (B' := w.heap.size) BA.out.size)
  have BB := Lib.hid (BA.out.trans (hbb.mono BA.out.size))
  clear hob hbb HA BA
  go_wp2_with (at_builtin; refine wp_cat_str rfl (.tmp 31) (.tmp 32) rfl w.heap.size _ _ rfl HO.out l HL.out rfl (Nat.le_trans HK.out (by omega)) BB.out.size ?_; intro v3 w3 ho3 hg3)
  have B3 := Lib.hid (BB.out.grown hg3 BB.out.size (fun k hk => (HO.out.2.lt k hk).1))
  have O3 := Lib.hid ho3.sl
  clear ho3 hg3
  refine (sealr_any v3 _ w3 O3.out (by rw [List.length_append]; have := HK.out; omega)).mono ?_
  rintro e w5 ⟨vs, rfl, hos, hbs⟩
  have hstr := hos.sl.str
  rw [HB.out] at hstr
  have B5 := Lib.hid (B3.out.trans (hbs.mono B3.out.size))
  clear hos hbs
  go_wp2
  go_ret2
  exact ⟨rfl, B5.out⟩
/-- what cannot be framed -/
theorem bytes_bad (n : Int) (hn : -9223372036854775808 ≤ n ∧ n ≤ 9223372036854775807) (l : List Nat) (m : Nat) (hm : l.length = m) (hm6 : m ≤ 1000000) (hbad : ¬ (1 ≤ n ∧ n ≤ 1048575 ∧ m ≤ 600)) (w : World) :
    Calls Try.prog 27 #[.int .i64 n, .string (strOf l)] w fun e w' => e = .returned (.tuple #[.string (strOf []), .int .i64 2]) ∧ Below w.heap.size w w' := by
  have hsz : (strOf l).size = m := by rw [strOf_size, hm]
  have P := Lib.hid (put_any (.slice none 0 0) n 6 [] w (Sl.nil w) (by simp))
  have hE : putE n 6 = 0 ∨ (putE n 6 = 2 ∧ ¬ (1 ≤ n ∧ n ≤ 1048575)) := by
    unfold putE
    by_cases h : 0 ≤ n ∧ n < 281474976710656
    · rw [if_pos ⟨by omega, by omega, h.1, h.2⟩]; exact .inl rfl
    · rw [if_neg (fun x => h ⟨x.2.2.1, x.2.2.2⟩)]; exact .inr ⟨rfl, by omega⟩
  rcases hE with hE | ⟨hE, hn2⟩
  · by_cases h1 : n < 1
    · have d1 : decide (n < 1) = true := by simpa using h1
      clear hbad
      go_enter Try.func27, Try.ntmps27
      go_wp2_with fail
      refine P.out.mono ?_
      rintro e w1 ⟨va, rfl, hoa, hba⟩
      have BA := Lib.hid hba
      clear hoa hba
      rw [hE]
      go_wp2
      go_ret2
      exact ⟨rfl, BA.out⟩
    have d1 : decide (n < 1) = false := by simpa using h1
    by_cases h2 : 1048575 < n
    · have d2 : decide (1048575 < n) = true := by simpa using h2
      clear hbad
      go_enter Try.func27, Try.ntmps27
      go_wp2_with fail
      refine P.out.mono ?_
      rintro e w1 ⟨va, rfl, hoa, hba⟩
      have BA := Lib.hid hba
      clear hoa hba
      rw [hE]
      go_wp2
      go_ret2
      exact ⟨rfl, BA.out⟩
    have d2 : decide (1048575 < n) = false := by simpa using h2
    have HS := Lib.hid (show sizeV (m : Int) = 0 by unfold sizeV; rw [if_pos (by omega)])
    clear hbad
    go_enter Try.func27, Try.ntmps27
    go_wp2_with fail
    refine P.out.mono ?_
    rintro e w1 ⟨va, rfl, hoa, hba⟩
    have BA := Lib.hid hba
    clear hoa hba
    rw [hE]
    go_wp2_with fail
    refine (size_any (m : Int) w1).mono ?_
    rintro e w' ⟨rfl, rfl⟩
    rw [HS.out]
    go_wp2
    go_ret2
    exact ⟨rfl, BA.out⟩
  · clear hbad hn2
    go_enter Try.func27, Try.ntmps27
    go_wp2_with fail
    refine P.out.mono ?_
    rintro e w1 ⟨va, rfl, hoa, hba⟩
    have BA := Lib.hid hba
    clear hoa hba
    rw [hE]
    go_wp2
    go_ret2
    exact ⟨rfl, BA.out⟩
theorem bytesr_bad (n : Int) (l : List Nat) (m : Nat) (hm : l.length = m) (hbad : ¬ (1 ≤ n ∧ n ≤ 1048575 ∧ m ≤ 600)) (w : World) :
    Calls Try.prog 28 #[.int .i64 n, .string (strOf l)] w fun e w' => e = .returned (.tuple #[.string (strOf []), .int .i64 2]) ∧ w = w' := by
  have hsz : (strOf l).size = m := by rw [strOf_size, hm]
  by_cases h1 : n < 1
  · have d1 : decide (n < 1) = true := by simpa using h1
    clear hbad
    go_enter Try.func28, Try.ntmps28
    go_wp2
    go_ret2
    exact ⟨rfl, rfl⟩
  have d1 : decide (n < 1) = false := by simpa using h1
  by_cases h2 : 1048575 < n
  · have d2 : decide (1048575 < n) = true := by simpa using h2
    clear hbad
    go_enter Try.func28, Try.ntmps28
    go_wp2
    go_ret2
    exact ⟨rfl, rfl⟩
  have d2 : decide (1048575 < n) = false := by simpa using h2
  have d3 : decide (600 < (m : Int)) = true := by simp; omega
  clear hbad
  go_enter Try.func28, Try.ntmps28
  go_wp2
  go_ret2
  exact ⟨rfl, rfl⟩
/-! together -/
def okF (n : Int) (l : List Nat) : Prop := 1 ≤ n ∧ n ≤ 1048575 ∧ l.length ≤ 600
instance (n : Int) (l : List Nat) : Decidable (okF n l) := by unfold okF; infer_instance
def bytesL (n : Int) (l : List Nat) : List Nat := if okF n l then frm n.toNat l else []
def bytesE (n : Int) (l : List Nat) : Int := if okF n l then 0 else 2
theorem bytes_any (n : Int) (hn : -9223372036854775808 ≤ n ∧ n ≤ 9223372036854775807) (l : List Nat) (hl : IsBytes l) (hm : l.length ≤ 1000000) (w : World) :
    Calls Try.prog 27 #[.int .i64 n, .string (strOf l)] w fun e w' => e = .returned (.tuple #[.string (strOf (bytesL n l)), .int .i64 (bytesE n l)]) ∧ Below w.heap.size w w' := by
  unfold bytesL bytesE
  by_cases h : okF n l
  · rw [if_pos h, if_pos h]
    obtain ⟨h1, h2, h3⟩ := h
    obtain ⟨k, rfl⟩ := Int.eq_ofNat_of_zero_le (show 0 ≤ n by omega)
    exact bytes_good k (by omega) (by omega) l hl l.length rfl h3 w
  · rw [if_neg h, if_neg h]
    exact bytes_bad n hn l l.length rfl hm h w
theorem bytesr_any (n : Int) (l : List Nat) (hl : IsBytes l) (w : World) :
    Calls Try.prog 28 #[.int .i64 n, .string (strOf l)] w fun e w' => e = .returned (.tuple #[.string (strOf (bytesL n l)), .int .i64 (bytesE n l)]) ∧ Below w.heap.size w w' := by
  unfold bytesL bytesE
  by_cases h : okF n l
  · rw [if_pos h, if_pos h]
    obtain ⟨h1, h2, h3⟩ := h
    obtain ⟨k, rfl⟩ := Int.eq_ofNat_of_zero_le (show 0 ≤ n by omega)
    exact bytesr_good k (by omega) (by omega) l hl l.length rfl h3 w
  · rw [if_neg h, if_neg h]
    refine (bytesr_bad n l l.length rfl h w).mono ?_
    rintro e w' ⟨rfl, rfl⟩
    exact ⟨rfl, Below.refl _ _⟩
end Go.Proofs.Ytcffabfaefbjcaa
