/-
  What frame.Of and its reference compute; the law's own check (chapter 04).
-/
import Derived.Test.YtcffabfaefbjcaaReadR
namespace Go.Proofs.Ytcffabfaefbjcaa
set_option linter.unusedVariables false
open Go.RowKit Crc
def ofOk (n : Int) (b : List Nat) : Prop := rdOk b ∧ rdN b = n
instance (n : Int) (b : List Nat) : Decidable (ofOk n b) := by unfold ofOk; infer_instance
def ofL (n : Int) (b : List Nat) : List Nat := if ofOk n b then rdL b else []
def OfPost (w : World) (n : Int) (b : List Nat) (e : Ending) (w' : World) : Prop := e = .returned (.tuple #[.string (strOf (ofL n b)), .bool (decide (ofOk n b))]) ∧ Below w.heap.size w w'
theorem OfPost.no {w : World} {n : Int} {b : List Nat} {e : Ending} {w' : World} (h : ¬ ofOk n b) (he : e = .returned (.tuple #[.string (strOf []), .bool false])) (hb : Below w.heap.size w w') : OfPost w n b e w' := by
  unfold OfPost ofL
  rw [if_neg h, decide_eq_false h]
  exact ⟨he, hb⟩
theorem OfPost.yes {w : World} {n : Int} {b : List Nat} {e : Ending} {w' : World} (h : ofOk n b) (he : e = .returned (.tuple #[.string (strOf (rdL b)), .bool true])) (hb : Below w.heap.size w w') : OfPost w n b e w' := by
  unfold OfPost ofL
  rw [if_pos h, decide_eq_true h]
  exact ⟨he, hb⟩
theorem read_no (b : List Nat) (hb : IsBytes b) (hlen : b.length ≤ 1000000) (h : ¬ rdOk b) (w : World) : Calls Try.prog 29 #[.string (strOf b)] w fun e w' => e = .returned (.tuple #[.int .i64 0, .string (strOf []), .int .i64 50]) ∧ Below w.heap.size w w' := by
  refine (read_any b hb hlen w).mono fun e w' hp => ?_
  unfold ReadPost at hp
  rwa [if_neg h, if_neg h, if_neg h] at hp
theorem read_yes (b : List Nat) (hb : IsBytes b) (hlen : b.length ≤ 1000000) (h : rdOk b) (w : World) : Calls Try.prog 29 #[.string (strOf b)] w fun e w' => e = .returned (.tuple #[.int .i64 (rdN b), .string (strOf (rdL b)), .int .i64 0]) ∧ Below w.heap.size w w' := by
  refine (read_any b hb hlen w).mono fun e w' hp => ?_
  unfold ReadPost at hp
  rwa [if_pos h, if_pos h, if_pos h] at hp
theorem readr_no (b : List Nat) (hb : IsBytes b) (hlen : b.length ≤ 1000000) (h : ¬ rdOk b) (w : World) : Calls Try.prog 30 #[.string (strOf b)] w fun e w' => e = .returned (.tuple #[.int .i64 0, .string (strOf []), .int .i64 50]) ∧ Below w.heap.size w w' := by
  refine (readr_any b hb hlen w).mono fun e w' hp => ?_
  unfold ReadPost at hp
  rwa [if_neg h, if_neg h, if_neg h] at hp
theorem readr_yes (b : List Nat) (hb : IsBytes b) (hlen : b.length ≤ 1000000) (h : rdOk b) (w : World) : Calls Try.prog 30 #[.string (strOf b)] w fun e w' => e = .returned (.tuple #[.int .i64 (rdN b), .string (strOf (rdL b)), .int .i64 0]) ∧ Below w.heap.size w w' := by
  refine (readr_any b hb hlen w).mono fun e w' hp => ?_
  unfold ReadPost at hp
  rwa [if_pos h, if_pos h, if_pos h] at hp
theorem boxed {w w' : World} {o : Obj} (h : Below (w.alloc o).heap.size (w.alloc o) w') : Below w.heap.size w w' :=
  ((Below.refl _ _).alloc (Nat.le_refl _) o).trans (h.mono (by simp))
theorem boxed_cells (w : World) (u0 u1 : Value) (e : TypeId) (w' : World) (h : Below (w.alloc (.cells #[u0, u1] e)).heap.size (w.alloc (.cells #[u0, u1] e)) w') : w'.cell? ⟨w.heap.size, 0, none⟩ = some u0 ∧ w'.cell? ⟨w.heap.size, 1, none⟩ = some u1 :=
  ⟨(h.cell (p := ⟨w.heap.size, 0, none⟩) (by simp)).trans (by simp), (h.cell (p := ⟨w.heap.size, 1, none⟩) (by simp)).trans (by simp)⟩
theorem of_any (n : Int) (b : List Nat) (hb : IsBytes b) (hlen : b.length ≤ 1000000) (w : World) : Calls Try.prog 31 #[.agg #[.int .i64 n, .string (strOf b)]] w (OfPost w n b) := by
  by_cases h : rdOk b
  · have R := Lib.hid (read_yes b hb hlen h)
    obtain ⟨N, hN⟩ : ∃ N, rdN b = N := ⟨_, rfl⟩
    rw [hN] at R
    by_cases hn : N = n
    · have HOK := Lib.hid (show ofOk n b from ⟨h, hN.trans hn⟩)
      have dn : (N == n) = true := by simpa using hn
      clear h hn hN
      go_enter Try.func31, Try.ntmps31
      go_wp2_with fail
      refine (R.out _).mono ?_
      rintro e w1 ⟨rfl, hb1⟩
      obtain ⟨c0, c1⟩ := boxed_cells _ _ _ _ _ hb1
      have HB1 := Lib.hid (boxed hb1)
      clear hb1
      go_wp2
      go_ret2
      exact OfPost.yes HOK.out rfl HB1.out
    · have HNO := Lib.hid (show ¬ ofOk n b from fun x => hn (hN.symm.trans x.2))
      have dn : (N == n) = false := by simpa using hn
      clear h hn hN
      go_enter Try.func31, Try.ntmps31
      go_wp2_with fail
      refine (R.out _).mono ?_
      rintro e w1 ⟨rfl, hb1⟩
      obtain ⟨c0, c1⟩ := boxed_cells _ _ _ _ _ hb1
      have HB1 := Lib.hid (boxed hb1)
      clear hb1
      go_wp2
      go_ret2
      exact OfPost.no HNO.out rfl HB1.out
  · have R := Lib.hid (read_no b hb hlen h)
    have HNO := Lib.hid (show ¬ ofOk n b from fun x => h x.1)
    clear h
    go_enter Try.func31, Try.ntmps31
    go_wp2_with fail
    refine (R.out _).mono ?_
    rintro e w1 ⟨rfl, hb1⟩
    obtain ⟨c0, c1⟩ := boxed_cells _ _ _ _ _ hb1
    have HB1 := Lib.hid (boxed hb1)
    clear hb1
    go_wp2
    go_ret2
    exact OfPost.no HNO.out rfl HB1.out
theorem ofr_any (n : Int) (b : List Nat) (hb : IsBytes b) (hlen : b.length ≤ 1000000) (w : World) : Calls Try.prog 32 #[.agg #[.int .i64 n, .string (strOf b)]] w (OfPost w n b) := by
  by_cases h : rdOk b
  · have R := Lib.hid (readr_yes b hb hlen h)
    obtain ⟨N, hN⟩ : ∃ N, rdN b = N := ⟨_, rfl⟩
    rw [hN] at R
    by_cases hn : N = n
    · have HOK := Lib.hid (show ofOk n b from ⟨h, hN.trans hn⟩)
      have dn : (N == n) = true := by simpa using hn
      clear h hn hN
      go_enter Try.func32, Try.ntmps32
      go_wp2_with fail
      refine (R.out _).mono ?_
      rintro e w1 ⟨rfl, hb1⟩
      obtain ⟨c0, c1⟩ := boxed_cells _ _ _ _ _ hb1
      have HB1 := Lib.hid (boxed hb1)
      clear hb1
      go_wp2
      go_ret2
      exact OfPost.yes HOK.out rfl HB1.out
    · have HNO := Lib.hid (show ¬ ofOk n b from fun x => hn (hN.symm.trans x.2))
      have dn : (N == n) = false := by simpa using hn
      clear h hn hN
      go_enter Try.func32, Try.ntmps32
      go_wp2_with fail
      refine (R.out _).mono ?_
      rintro e w1 ⟨rfl, hb1⟩
      obtain ⟨c0, c1⟩ := boxed_cells _ _ _ _ _ hb1
      have HB1 := Lib.hid (boxed hb1)
      clear hb1
      go_wp2
      go_ret2
      exact OfPost.no HNO.out rfl HB1.out
  · have R := Lib.hid (readr_no b hb hlen h)
    have HNO := Lib.hid (show ¬ ofOk n b from fun x => h x.1)
    clear h
    go_enter Try.func32, Try.ntmps32
    go_wp2_with fail
    refine (R.out _).mono ?_
    rintro e w1 ⟨rfl, hb1⟩
    obtain ⟨c0, c1⟩ := boxed_cells _ _ _ _ _ hb1
    have HB1 := Lib.hid (boxed hb1)
    clear hb1
    go_wp2
    go_ret2
    exact OfPost.no HNO.out rfl HB1.out
theorem rd_of_frm (n : Nat) (l : List Nat) (hl : IsBytes l) (h1 : 1 ≤ n) (h2 : n ≤ 1048575) (h6 : l.length ≤ 600) : rdOk (frm n l) ∧ rdN (frm n l) = (n : Int) ∧ rdL (frm n l) = l := by
  have ho : opn (frm n l) = (body n l, 0) := opn_sealed _
  have e6 : (body n l).take 6 = le 6 n := by unfold body; rw [List.append_assoc]; exact List.take_left' (le_length _ _)
  have e8 : (body n l).drop 8 = l := by unfold body; exact List.drop_left' (by rw [List.length_append, le_length, le_length])
  have e2 : ((body n l).drop 6).take 2 = le 2 l.length := by
    unfold body
    rw [List.append_assoc, List.drop_left' (le_length _ _)]
    exact List.take_left' (le_length _ _)
  have hN : rdN (frm n l) = (n : Int) := by unfold rdN; rw [ho, e6, num_le 6 n (by omega)]
  have hL : rdL (frm n l) = l := by unfold rdL; rw [ho, e8]
  refine ⟨⟨by rw [ho], by rw [ho, body_length]; omega, by rw [ho, e2, num_le 2 _ (by omega), body_length]; omega, ?_⟩, hN, hL⟩
  rw [hN, hL]
  exact ⟨by omega, by omega, h6⟩
theorem bytes_7 (w : World) : Calls Try.prog 27 #[.int .i64 7, .string ⟨#[97, 98, 99]⟩] w fun e w' => e = .returned (.tuple #[.string (strOf (frm 7 [97, 98, 99])), .int .i64 0]) ∧ Below w.heap.size w w' :=
  bytes_good 7 (by omega) (by omega) [97, 98, 99] (by intro x hx; simp at hx; omega) 3 rfl (by omega) w
theorem read_7 (w : World) : Calls Try.prog 29 #[.string (strOf (frm 7 [97, 98, 99]))] w fun e w' => e = .returned (.tuple #[.int .i64 7, .string ⟨#[97, 98, 99]⟩, .int .i64 0]) ∧ Below w.heap.size w w' := by
  have hb : IsBytes [97, 98, 99] := by intro x hx; simp at hx; omega
  have h := rd_of_frm 7 [97, 98, 99] hb (by omega) (by omega) (by decide)
  have := read_yes (frm 7 [97, 98, 99]) (frm_bytes _ hb) (by rw [frm_length]; decide) h.1 w
  rw [h.2.1, h.2.2] at this
  exact this
theorem size_3 (w : World) : Calls Try.prog 33 #[.int .i64 3] w fun e w' => e = .returned (.int .i64 15) ∧ w = w' := size_any 3 w
theorem wakes04_any (w : World) : Calls Try.prog 26 #[] w fun e w' => e = .returned (.bool true) ∧ Below w.heap.size w w' := by
  have hsz : (strOf (frm 7 [97, 98, 99])).size = 15 := by rw [strOf_size, frm_length]; rfl
  go_enter Try.func26, Try.ntmps26
  go_wp2_with fail
  refine (bytes_7 w).mono ?_
  rintro e w1 ⟨rfl, hb1⟩
  have H1 := Lib.hid hb1
  clear hb1
  have R7 := Lib.hid read_7
  generalize strOf (frm 7 [97, 98, 99]) = S at *
  go_wp2_with fail
  refine (R7.out w1).mono ?_
  rintro e w2 ⟨rfl, hb2⟩
  have H2 := Lib.hid (H1.out.trans (hb2.mono H1.out.size))
  clear hb2
  go_wp2_with fail
  refine (size_3 _).mono ?_
  rintro e w' ⟨rfl, rfl⟩
  go_wp2_with fail
  go_ret
  exact ⟨rfl, H2.out⟩
end Go.Proofs.Ytcffabfaefbjcaa
