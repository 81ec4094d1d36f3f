/-
  Helpers of the laws of slots: generations one behind the other, slices of one's own (chapter 14).
-/
import Derived.Test.YtgpdknacnmapiaaSp
import Derived.Test.YtgpdknacnmapiaaPn
namespace Go.Proofs.Ytgpdknacnmapiaa
set_option linter.unusedVariables false
set_option linter.unusedSimpArgs false
open Go.RowKit
open Go
theorem norm_rem (a m : Int) (hm : 1 ≤ m ∧ m ≤ 1000) : ∃ S : Nat, (S : Int) < m ∧ (wrap64 (a.tmod m + m)).tmod m = (S : Int) := by
  have h1 := Int.tmod_lt_of_pos a (show 0 < m by omega)
  have h2 := Int.tmod_lt_of_pos (-a) (show 0 < m by omega)
  rw [Int.neg_tmod] at h2
  generalize a.tmod m = t at *
  have e : wrap64 (t + m) = t + m := by unfold wrap64; omega
  rw [e, Int.tmod_eq_emod_of_nonneg (by omega)]
  have h3 := Int.emod_nonneg (t + m) (show m ≠ 0 by omega)
  have h4 := Int.emod_lt_of_pos (t + m) (show 0 < m by omega)
  exact ⟨((t + m) % m).toNat, by omega, by omega⟩
theorem and_1023 (x : Int) : bits .and .i64 x 1023 = x % 1024 := and_mask x 10 (by omega)
theorem and_127 (x : Int) : bits .and .i64 x 127 = x % 128 := and_mask x 7 (by omega)
/-- the generations one behind the other -/
def itg (g : Int) : Nat → Int
  | 0 => g
  | j + 1 => aft (itg g j)
theorem itg_le (g : Int) (hg : 0 ≤ g ∧ g ≤ 1023) (j : Nat) : 0 ≤ itg g j ∧ itg g j ≤ 1023 := by
  cases j with
  | zero => exact hg
  | succ j =>
    have : ∀ j, 0 ≤ itg g j := by
      intro j
      induction j with
      | zero => exact hg.1
      | succ j ih => have := aft_le _ ih; show 0 ≤ aft (itg g j); omega
    have := aft_le _ (this j)
    show 0 ≤ aft (itg g j) ∧ aft (itg g j) ≤ 1023
    omega
theorem itg_form (g : Int) (hg : 0 ≤ g ∧ g ≤ 1023) (j : Nat) : itg g (j + 1) = (aft g - 1 + j) % 1023 + 1 := by
  have h0 := aft_le g hg.1
  induction j with
  | zero => show aft g = _; omega
  | succ j ih =>
    show aft (itg g (j + 1)) = _
    rw [ih]
    unfold aft at *
    generalize (if g < 0 ∨ 1023 ≤ g then 1 else g + 1) = c at *
    split <;> omega
theorem itg_ne (g : Int) (hg : 0 ≤ g ∧ g ≤ 1023) (i j : Nat) (hij : i < j) (hj : j ≤ 1000) : itg g (i + 1) ≠ itg g (j + 1) := by
  rw [itg_form g hg, itg_form g hg]
  omega
theorem RunV.below {P : Nat → Prop} {R : Nat} {W W' : World} {C : Array Value} {s : RS} {l : List Int} (h : RunV P R W C s l) (hb : Below W.heap.size W W') : RunV P R W' C s l :=
  ⟨h.hb.below hb, h.ra, h.cv.below hb, h.d1.below hb, h.d2.below hb⟩
theorem RunV.weak {P Q : Nat → Prop} {R : Nat} {W : World} {C : Array Value} {s : RS} {l : List Int} (h : RunV P R W C s l) (hPQ : ∀ b, P b → b < W.heap.size → Q b) : RunV Q R W C s l :=
  ⟨h.hb, h.ra, h.cv.weak hPQ, h.d1.weak hPQ, h.d2.weak hPQ⟩
theorem RunV.oth {P : Nat → Prop} {R : Nat} {W W' : World} {C : Array Value} {s : RS} {l : List Int} (h : RunV P R W C s l) (hk : ∀ b, (P b ∨ b = R) → b < W.heap.size → W'.heap[b]? = W.heap[b]?) : RunV P R W' C s l :=
  ⟨h.hb.oth (hk _ (.inr rfl) h.hb.lt), h.ra, h.cv.keep (fun b hb hl => hk b (.inl hb) hl), h.d1.keep (fun b hb hl => hk b (.inl hb) hl), h.d2.keep (fun b hb hl => hk b (.inl hb) hl)⟩
theorem IntsP.keep {P : Nat → Prop} {w w' : World} {v : Value} {l : List Int} (h : IntsP P w v l) (hk : ∀ b, P b → b < w.heap.size → w'.heap[b]? = w.heap[b]?) : IntsP P w' v l := by
  obtain ⟨ao, cap, rfl, hc, hr⟩ := h
  refine ⟨ao, cap, rfl, hc, fun i x hx => ?_⟩
  obtain ⟨b, off, e1, e2, e3⟩ := hr i x hx
  exact ⟨b, off, e1, e2, (World.cell?_of_block (hk b e2 (World.block_lt_of_cell? _ _ e3))).trans e3⟩
theorem IntsP.below {P : Nat → Prop} {w w' : World} {v : Value} {l : List Int} (h : IntsP P w v l) (hb : Below w.heap.size w w') : IntsP P w' v l := h.keep fun b _ hl => hb.block b hl
theorem cw_below {w w' : World} {fs : List (Addr × Value)} (h : ∀ p ∈ fs, w.cell? p.1 = some p.2) (hb : Below w.heap.size w w') : ∀ p ∈ fs, w'.cell? p.1 = some p.2 := fun p hp => (hb.cell (World.block_lt_of_cell? _ _ (h p hp))).trans (h p hp)
theorem below_drew (w : World) : Below w.heap.size w w.drew := ⟨rfl, rfl, rfl, Nat.le_refl _, fun _ _ => rfl⟩
/-- numbers in a slice of one's own, above R -/
def AllV (R : Nat) (W : World) (v : Value) (hs : List Int) : Prop := W.ownsRow (R + 1) 3 1 v hs.length (hs.map (Value.int .i64))
theorem AllV.nil (R : Nat) (W : World) : AllV R W (.slice none 0 0) [] := World.ownsRow_nil _ _ _ _
theorem AllV.lt {R : Nat} {W : World} {v : Value} {hs : List Int} (h : AllV R W v hs) : ∀ b, some b = v.ownBlock → R < b ∧ b < W.heap.size := fun b hb => by
  have := World.ownsRow.lt h b hb.symm
  omega
theorem AllV.keep {R : Nat} {W W' : World} {v : Value} {hs : List Int} (h : AllV R W v hs) (hk : ∀ b, R < b → b < W.heap.size → W'.heap[b]? = W.heap[b]?) : AllV R W' v hs := by
  refine ⟨h.1, ?_⟩
  rcases h.2 with hn | ⟨g, cap, cur, rfl, hb, hgg, rest⟩
  · exact .inl hn
  · exact .inr ⟨g, cap, cur, rfl, hb, by rw [hk g (by omega) (Array.getElem?_eq_some_iff.1 hgg).1]; exact hgg, rest⟩
theorem AllV.below {R : Nat} {W W' : World} {v : Value} {hs : List Int} (h : AllV R W v hs) (hb : Below W.heap.size W W') : AllV R W' v hs := h.keep fun b _ hl => hb.block b hl
theorem AllV.get {R : Nat} {W : World} {v : Value} {hs : List Int} (h : AllV R W v hs) (i : Nat) (x : Int) (hx : hs[i]? = some x) : ∃ g cap, v = .slice (some ⟨g, 0, none⟩) hs.length cap ∧ W.cell? ⟨g, i, none⟩ = some (.int .i64 x) := by
  rcases h.2 with ⟨_, h0⟩ | ⟨g, cap, cur, rfl, hb, hgg, _, _, _, htake⟩
  · have : i < hs.length := (List.getElem?_eq_some_iff.1 hx).1
    omega
  · refine ⟨g, cap, rfl, ?_⟩
    have := World.ownsRow.cells h (g := g) rfl i (.int .i64 x) (by simp [hx])
    rwa [Addr.add_lit, Nat.zero_add] at this
section
variable {ops : Array Oper} {rest : List Oper} {o : Oper} {a : Act} {w : World} {Q : Exit → Act → World → Prop} {K : Act → World → Prop}
theorem wpO_cell (ty : TypeId) (x y : Operand) (ho : o.op = .store ty x y) (hd : o.dst = none) (hsz : ∀ w, (sizeOf ty).run Try.prog w = .ok 1 w) (b i : Nat) (n : Int) (hx : a.eval x = .pointer (some ⟨b, i, none⟩)) (hy : a.eval y = .int .i64 n) (C0 : Array Value) (t : TypeId) (hb : HB w b C0 t) (hi : i < C0.size)
    (h : ∀ W, (∀ B, B ≤ b → Below B w W) → (∀ k, k ≠ b → W.heap[k]? = w.heap[k]?) → HB W b (C0.setIfInBounds i (.int .i64 n)) t → W.heap.size = w.heap.size → K a W) : o.wp Try.prog a w K Q := by
  have hc := hb.cell (Array.getElem?_eq_getElem hi)
  have hf : w.frozen? ⟨b, i, none⟩ = false := hb.fro
  have h' := h _ (fun B hB => below_set (Below.refl _ _) _ hB _) (fun k hk => heap_setCell_other _ _ _ _ (fun e => hk e)) (Go.heap_setCell_same _ _ _ _ _ _ hb) (World.size_setCell _ _ _)
  unfold Oper.wp execOp
  simp only [ho, hx, hy]
  simp [go_sem, hc, hf, Instr.storeAt, storeVar, hsz]
  have e : a.put o.dst undef = a := by rw [hd]; rfl
  show K (a.put o.dst undef) _
  rw [e]
  exact h'
/-- one number more -/
theorem wp_pushI (hg : o.guard = none) (s x : Operand) (ho : o.op = .call { callee := .builtin .append, args := #[s, x], argTypes := #[30, 30] }) (R : Nat) (v : Value) (hs : List Int) (hv : a.eval s = v) (hA : AllV R w v hs) (hR : R < w.heap.size) (g c : Nat) (hx : a.eval x = .slice (some ⟨g, 0, none⟩) 1 c) (n : Int) (hn : w.cell? ⟨g, 0, none⟩ = some (.int .i64 n)) (h100 : hs.length ≤ 100000)
    (h : ∀ W v', AllV R W v' (hs ++ [n]) → (v'.ownBlock = v.ownBlock ∨ v'.ownBlock = some w.heap.size) → w.grownBy W v.ownBlock → wpList Try.prog ops Q rest (a.put o.dst v') W) : wpList Try.prog ops Q (o :: rest) a w := by
  refine wpList_plain hg fun K hK => ?_
  suffices hm : ∃ v' W, (Builtin.append_ #[30, 30] o.type #[v, .slice (some ⟨g, 0, none⟩) 1 c]).run Try.prog w = .ok v' W ∧ AllV R W v' (hs ++ [n]) ∧ (v'.ownBlock = v.ownBlock ∨ v'.ownBlock = some w.heap.size) ∧ w.grownBy W v.ownBlock by
    obtain ⟨v', W, hr, h1, h2, h3⟩ := hm
    unfold Oper.wp execOp
    simp only [ho, resolve, invoke, builtin, Sem.run_bind, Sem.run_pure, Result.andThen_ok, List.map_toArray, List.map_cons, List.map_nil, hv, hx, hr]
    exact hK _ _ (h W v' h1 h2 h3)
  have hnews : ∀ j u, [Value.int .i64 n][j]? = some u → w.cell? ((⟨g, 0, none⟩ : Addr).add j) = some u := by
    intro j u hu
    match j, hu with
    | 0, hu => simp at hu; subst hu; rw [Addr.add_lit]; exact hn
    | j + 1, hu => simp at hu
  have hmap : (hs ++ [n]).map (Value.int .i64) = hs.map (Value.int .i64) ++ [Value.int .i64 n] := by simp
  have hlen : (hs ++ [n]).length = hs.length + 1 := by simp
  have e1 : Try.t3.size = 1 := by kernel_rfl
  have e8 : Try.t3.bytes = 8 := by kernel_rfl
  have fresh : ∀ (old : Nat), (w.drew.alloc (.cells ((hs.map (Value.int .i64)).toArray ++ [Value.int .i64 n].toArray ++ Builtin.zeroCells (Value.int .i64 0).cells (grownCap w (hs.length + 1) old 3 - (hs.length + 1))) 3)).ownsRow (R + 1) 3 1
      (.slice (some ⟨w.heap.size, 0, none⟩) (hs.length + 1) (grownCap w (hs.length + 1) old 3)) (hs.length + 1) (hs.map (Value.int .i64) ++ [Value.int .i64 n]) := by
    intro old
    have hge := grownCap_ge w (hs.length + 1) old 3
    have hcm : grownCap w (hs.length + 1) old 3 ≤ maxLen := grownCap_le_maxLen w (hs.length + 1) old 3 (by simp only [maxLen]; omega)
    refine ⟨by simp, .inr ⟨w.heap.size, _, _, rfl, hR, heap_alloc_new w.drew _, hge, hcm, ?_, ?_⟩⟩
    · simp only [Array.size_append, List.size_toArray, List.length_map, size_zeroCells, List.length_singleton]
      show hs.length + 1 + (grownCap w (hs.length + 1) old 3 - (hs.length + 1)) * 1 = _
      omega
    · simp only [Array.toList_append, List.append_assoc]
      rw [← List.append_assoc]
      have : (hs.length + 1) * 1 = (hs.map (Value.int .i64) ++ [Value.int .i64 n]).length := by simp
      rw [this]
      exact List.take_left
  rcases hA.2 with ⟨rfl, h0⟩ | ⟨gb, cap, cur, rfl, hbg, hgg, hnc, hcm, hcs, htake⟩
  · have hs0 : hs = [] := List.eq_nil_of_length_eq_zero h0
    subst hs0
    have hr := run_append_nil (P := Try.prog) w 30 o.type 3 Try.t3 (.int .i64 0) und30 (by kernel_rfl) (by kernel_rfl) ⟨g, 0, none⟩ 1 c [Value.int .i64 n] rfl hnews (by omega) (by omega) (by decide)
    refine ⟨_, _, hr, ?_, .inr rfl, ⟨rfl, rfl, rfl, by simp, fun k hk _ => heap_alloc_old w.drew _ hk⟩⟩
    have := fresh 0
    unfold AllV
    rw [hmap, hlen]
    simpa using this
  · by_cases hroom : hs.length + 1 ≤ cap
    · have hfit : hs.length * Try.t3.size + 1 ≤ cur.size := by
        rw [e1, hcs]; omega
      have hr := run_append_room (P := Try.prog) w 30 o.type 3 Try.t3 und30 (by kernel_rfl) gb hs.length cap cur hgg ⟨g, 0, none⟩ 1 c [Value.int .i64 n] rfl hnews (by intro u hu; simp at hu; subst hu; rfl) hroom hfit
      refine ⟨_, _, hr, ?_, .inl rfl, ⟨rfl, rfl, rfl, by simp, fun k _ hk => setRow_other w gb k _ (fun e => hk (by simp [Value.ownBlock, e]))⟩⟩
      unfold AllV
      rw [hmap, hlen, e1]
      refine ⟨by simp, .inr ⟨gb, cap, _, rfl, hbg, setRow_heap w gb cur _ 3 _ hgg, hroom, hcm, ?_, ?_⟩⟩
      · simp only [List.size_toArray, List.length_append, List.length_take, List.length_drop, Array.length_toList, List.length_singleton]
        omega
      · rw [htake]
        have : (hs.length + 1) * 1 = (hs.map (Value.int .i64) ++ [Value.int .i64 n]).length := by simp
        rw [this]
        exact List.take_left
    · have holds := fun j u (hu : (hs.map (Value.int .i64))[j]? = some u) => World.ownsRow.cells hA (g := gb) rfl j u hu
      have hr := run_append_grow (P := Try.prog) w 30 o.type 3 Try.t3 (.int .i64 0) und30 (by kernel_rfl) (by kernel_rfl) ⟨gb, 0, none⟩ hs.length cap (hs.map (Value.int .i64)) (by rw [List.length_map, e1]; omega) holds ⟨g, 0, none⟩ 1 c [Value.int .i64 n] rfl hnews (by omega) (by omega) (growslice_fits (by omega) (by rw [e8]; omega))
      refine ⟨_, _, hr, ?_, .inr rfl, ⟨rfl, rfl, rfl, by simp, fun k hk _ => heap_alloc_old w.drew _ hk⟩⟩
      have := fresh cap
      unfold AllV
      rw [hmap, hlen]
      exact this
end
end Go.Proofs.Ytgpdknacnmapiaa
