/-
  The document's slots: End, Store, Load (chapter 14).
-/
import Derived.Test.YtgpdknacnmapiaaPg
namespace Go.Proofs.Ytgpdknacnmapiaa
set_option linter.unusedVariables false
set_option linter.unusedSimpArgs false
open Go.RowKit
set_option maxHeartbeats 1000000 in
set_option maxRecDepth 100000 in
theorem end_r (f : Fr) (ao : Option Addr) (n c : Nat) (w : World) : Calls Try.prog 51 #[.agg f.cells, .slice ao n c] w fun e w' => e = .returned (.tuple #[.agg (f.at_ 99).cells, .agg (acC 7 0 0 0 0 (.slice ao n c))]) ∧ Below w.heap.size w w' := by
  go_enter Try.func51, Try.ntmps51
  go_wp2_with (first
    | (refine wp_al57 rfl rfl ?_)
    | (refine wp_al59 (f.cells) 57 rfl rfl rfl ?_; intro W hT; have HT := Lib.hid hT; clear hT)
    | (refine wp_set0 HT rfl (.tmp 6) (.const (.int .i64 99)) rfl 1 99 rfl rfl (by rw [Fr.size]; omega) ?_; intro W2 ho hT; rw [Fr.set1] at hT; have HTa := Lib.hid hT; clear hT ho)
    | (refine wp_ldf rfl (.tmp 2) rfl w.heap.size rfl (f.at_ 99) HTa.out.b0.range ?_)
    | (refine wp_st1 HTa rfl (.tmp 4) (.tmp 7) rfl (f.at_ 99) rfl rfl ?_; intro W3 ho hT; have HTc := Lib.hid hT; clear hT ho)
    | (refine wp_st2 HTc rfl (.tmp 5) (.tmp 9) rfl 7 0 0 0 0 _ _ _ rfl rfl ?_; intro W4 ho hT; have HTd := Lib.hid hT; clear hT ho))
  (try simp only [Exit.inBlock, Exit.then])
  refine bodyPost_ret (HTd.out.ret rfl _ rfl rfl rfl) rfl ?_
  exact ⟨rfl, HTd.out.bel⟩
set_option maxHeartbeats 1000000 in
set_option maxRecDepth 100000 in
theorem store_r (f : Fr) (s a v : Int) (w : World) : Calls Try.prog 52 #[.agg f.cells, .int .i64 s, .int .i64 a, .int .i64 v, .int .i64 0] w fun e w' => e = .returned (.tuple #[.agg (f.at_ s).cells, .agg (acC 1 a 0 v 0 (.slice none 0 0))]) ∧ Below w.heap.size w w' := by
  go_enter Try.func52, Try.ntmps52
  go_wp2_with (first
    | (refine wp_al57 rfl rfl ?_)
    | (refine wp_al59 (f.cells) 57 rfl rfl rfl ?_; intro W hT; have HT := Lib.hid hT; clear hT)
    | (refine wp_set0 HT rfl (.tmp 13) (.tmp 12) rfl 1 s rfl rfl (by rw [Fr.size]; omega) ?_; intro W2 ho hT; rw [Fr.set1] at hT; have HTa := Lib.hid hT; clear hT ho)
    | (refine wp_ldf rfl (.tmp 5) rfl w.heap.size rfl (f.at_ s) HTa.out.b0.range ?_)
    | (refine wp_st1 HTa rfl (.tmp 10) (.tmp 14) rfl (f.at_ s) rfl rfl ?_; intro W3 ho hT; have HTc := Lib.hid hT; clear hT ho)
    | (refine wp_st2 HTc rfl (.tmp 11) (.tmp 18) rfl 1 a 0 v 0 _ _ _ rfl rfl ?_; intro W4 ho hT; have HTd := Lib.hid hT; clear hT ho))
  (try simp only [Exit.inBlock, Exit.then])
  refine bodyPost_ret (HTd.out.ret rfl _ rfl rfl rfl) rfl ?_
  exact ⟨rfl, HTd.out.bel⟩
set_option maxHeartbeats 1000000 in
set_option maxRecDepth 100000 in
theorem load_r (f : Fr) (s a : Int) (w : World) : Calls Try.prog 80 #[.agg f.cells, .int .i64 s, .int .i64 a, .int .i64 0] w fun e w' => e = .returned (.tuple #[.agg (f.at_ s).cells, .agg (acC 0 a 0 0 0 (.slice none 0 0))]) ∧ Below w.heap.size w w' := by
  go_enter Try.func80, Try.ntmps80
  go_wp2_with (first
    | (refine wp_al57 rfl rfl ?_)
    | (refine wp_al59 (f.cells) 57 rfl rfl rfl ?_; intro W hT; have HT := Lib.hid hT; clear hT)
    | (refine wp_set0 HT rfl (.tmp 11) (.tmp 10) rfl 1 s rfl rfl (by rw [Fr.size]; omega) ?_; intro W2 ho hT; rw [Fr.set1] at hT; have HTa := Lib.hid hT; clear hT ho)
    | (refine wp_ldf rfl (.tmp 4) rfl w.heap.size rfl (f.at_ s) HTa.out.b0.range ?_)
    | (refine wp_st1 HTa rfl (.tmp 8) (.tmp 12) rfl (f.at_ s) rfl rfl ?_; intro W3 ho hT; have HTc := Lib.hid hT; clear hT ho)
    | (refine wp_st2 HTc rfl (.tmp 9) (.tmp 15) rfl 0 a 0 0 0 _ _ _ rfl rfl ?_; intro W4 ho hT; have HTd := Lib.hid hT; clear hT ho))
  (try simp only [Exit.inBlock, Exit.then])
  refine bodyPost_ret (HTd.out.ret rfl _ rfl rfl rfl) rfl ?_
  exact ⟨rfl, HTd.out.bel⟩
end Go.Proofs.Ytgpdknacnmapiaa
