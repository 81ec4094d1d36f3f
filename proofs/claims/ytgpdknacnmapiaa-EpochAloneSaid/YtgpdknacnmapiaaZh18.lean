/-
  Parts of a proof, put together: Er.
-/
import Derived.Test.YtgpdknacnmapiaaZh01
import Derived.Test.YtgpdknacnmapiaaZh02
import Derived.Test.YtgpdknacnmapiaaZh03
import Derived.Test.YtgpdknacnmapiaaZh04
import Derived.Test.YtgpdknacnmapiaaZh05
import Derived.Test.YtgpdknacnmapiaaZh06
import Derived.Test.YtgpdknacnmapiaaZh07
import Derived.Test.YtgpdknacnmapiaaZh08
import Derived.Test.YtgpdknacnmapiaaZh09
import Derived.Test.YtgpdknacnmapiaaZh10
import Derived.Test.YtgpdknacnmapiaaZh11
import Derived.Test.YtgpdknacnmapiaaZh12
import Derived.Test.YtgpdknacnmapiaaZh13
import Derived.Test.YtgpdknacnmapiaaZh14
import Derived.Test.YtgpdknacnmapiaaZh15
import Derived.Test.YtgpdknacnmapiaaZh16
import Derived.Test.YtgpdknacnmapiaaZh17
import Derived.Deep.QuietTactic
namespace Go.Proofs.Ytgpdknacnmapiaa
set_option linter.unusedVariables false
set_option linter.unusedSimpArgs false
open Go.RowKit
set_option maxHeartbeats 400000 in
set_option maxRecDepth 100000 in
theorem adv13_2e (b : Nat) (f : Fr) (gv : Value) (x : Int) (e0 : Int) (he : f.r 0 = e0) (he9 : 0 ≤ e0 ∧ e0 ≤ 1000000) (h0 : x ≠ 0) (h1 : x ≠ e0 + 1) (w : World) (hb : HB w b (pgG f gv x) 127) : Calls Try.prog 68 #[.pointer (some ⟨b, 0, none⟩)] w fun e w' => MethP b gv x w w' e f 7 0 0 0 [0] := by
  have HM := Lib.hid (Mem.startR hb)
  have HR0 := Lib.hid (by have h := pgG_r f gv x 0 (by omega); rw [he] at h; exact h : (pgG f gv x)[2]? = some (.int .i64 e0))
  obtain ⟨e1, e2⟩ := he9
  have ew : IntKind.i64.wrap (e0 + 1) = e0 + 1 := wrap_small (by omega) (by omega)
  have x0 : (x != 0) = true := by simpa using h0
  have x1 : (x != e0 + 1) = true := by simpa using h1
  clear he h0 h1
  clear hb
  go_enter Try.func68, Try.ntmps68
  go_wp2_with (first
    | (refine wpm_al57 HM rfl rfl ?_; intro W2 hM; (try simp only [List.cons_append, List.nil_append, List.set_cons_succ, List.set_cons_zero, Nat.reduceAdd] at hM); replace HM := hM; clear hM)
    | (refine wpm_al59 HM rfl rfl ?_; intro W3 hM; (try simp only [List.cons_append, List.nil_append, List.set_cons_succ, List.set_cons_zero, Nat.reduceAdd] at hM); replace HM := hM; clear hM))
  have kx := (HM.out.hb 0 _ _ _ rfl).cell (k := 99) (pgG_x _ _ _)
  have kr := (HM.out.hb 0 _ _ _ rfl).cell (k := 2) HR0.out
  go_quiet (fail)
  replace HM := Lib.hid (HM.out.drewN nq)
  clear kx kr
  go_wp2_with (first
    | (refine wpm_bsI1 HM rfl (.const (.int .i64 0)) rfl 0 rfl ?_; intro W5 hM; (try simp only [List.cons_append, List.nil_append, List.set_cons_succ, List.set_cons_zero, Nat.reduceAdd] at hM); replace HM := hM; clear hM))
  refine (end13m b f gv x _ 1 1 _ (HM.out.hb 0 _ _ _ rfl)).mono ?_
  rintro e W6 ⟨rfl, hM2⟩
  have hM3 := HM.out.upR (i := 0) rfl hM2
  (try simp only [List.set_cons_zero] at hM3)
  replace HM := Lib.hid hM3
  clear hM2 hM3
  go_wp2_with (first
    | (refine wpm_st57 HM rfl (.tmp 2) (.tmp 26) rfl 1 rfl f rfl rfl ?_; intro W hM; (try simp only [List.cons_append, List.nil_append, List.set_cons_succ, List.set_cons_zero, Nat.reduceAdd] at hM); replace HM := hM; clear hM)
    | (refine wpm_st59 HM rfl (.tmp 3) (.tmp 27) rfl 2 rfl rfl 7 0 0 0 0 _ 1 1 rfl rfl ?_; intro W hM; (try simp only [List.cons_append, List.nil_append, List.set_cons_succ, List.set_cons_zero, Nat.reduceAdd] at hM); replace HM := hM; clear hM))
  (try simp only [Exit.inBlock, Exit.then])
  refine bodyPost_ret (res_cc rfl _ _ _ _ _ _ rfl rfl ((HM.out.hb 1 _ _ _ rfl).load57) ((HM.out.hb 2 _ _ _ rfl).load59 rfl)) rfl ?_
  exact ⟨⟨_, _, _, rfl, ints_oneM HM.out rfl (i := 3) rfl (by omega)⟩, mem_one HM.out⟩
set_option maxHeartbeats 400000 in
set_option maxRecDepth 100000 in
theorem adv13_2lz (b : Nat) (f : Fr) (gv : Value) (x : Int) (e0 : Int) (he : f.r 0 = e0) (he9 : 0 ≤ e0 ∧ e0 ≤ 1000000) (hc : f.r 1 = 4) (h0 : x = 0) (w : World) (hb : HB w b (pgG f gv x) 127) : Calls Try.prog 68 #[.pointer (some ⟨b, 0, none⟩)] w fun e w' => MethP b gv x w w' e (f.at_ 3) 2 2 e0 (e0 + 1) [] := by
  have HM := Lib.hid (Mem.startR hb)
  have HE := Lib.hid he
  have HE9 := Lib.hid he9
  have HC := Lib.hid hc
  have HR0 := Lib.hid (by have h := pgG_r f gv x 0 (by omega); rw [he] at h; exact h : (pgG f gv x)[2]? = some (.int .i64 e0))
  obtain ⟨e1, e2⟩ := he9
  have ew : IntKind.i64.wrap (e0 + 1) = e0 + 1 := wrap_small (by omega) (by omega)
  subst h0
  clear he hc 
  clear hb
  go_enter Try.func68, Try.ntmps68
  go_wp2_with (first
    | (refine wpm_al57 HM rfl rfl ?_; intro W2 hM; (try simp only [List.cons_append, List.nil_append, List.set_cons_succ, List.set_cons_zero, Nat.reduceAdd] at hM); replace HM := hM; clear hM)
    | (refine wpm_al59 HM rfl rfl ?_; intro W3 hM; (try simp only [List.cons_append, List.nil_append, List.set_cons_succ, List.set_cons_zero, Nat.reduceAdd] at hM); replace HM := hM; clear hM))
  replace HM := Lib.hid HM.out.drew
  have HF : Hid (∀ p ∈ ([(⟨b, 99, none⟩, .int .i64 0), (⟨b, 2, none⟩, .int .i64 e0)] : List (Addr × Value)), World.cell? _ p.1 = some p.2) := Lib.hid (allc ((HM.out.hb 0 _ _ _ rfl).cell (k := 99) (pgG_x _ _ _)) (allc ((HM.out.hb 0 _ _ _ rfl).cell (k := 2) HR0.out) (alln _)))
  haveI : Inhabited (CW [(⟨b, 99, none⟩, .int .i64 0), (⟨b, 2, none⟩, .int .i64 e0)]) := ⟨⟨_, HF.out⟩⟩
  have f0 : ∀ q : CW [(⟨b, 99, none⟩, .int .i64 0), (⟨b, 2, none⟩, .int .i64 e0)], q.1.cell? ⟨b, 99, none⟩ = some (.int .i64 0) := fun q => q.2 (⟨b, 99, none⟩, .int .i64 0) (by simp)
  have f1 : ∀ q : CW [(⟨b, 99, none⟩, .int .i64 0), (⟨b, 2, none⟩, .int .i64 e0)], q.1.cell? ⟨b, 2, none⟩ = some (.int .i64 e0) := fun q => q.2 (⟨b, 2, none⟩, .int .i64 e0) (by simp)
  (try simp only [Act.put, List.setIfInBounds_toArray, List.set_cons_succ, List.set_cons_zero])
  refine wp_region_noPanic ?_
  refine wp_region_plw (.last [true, true, true, true, true, true, true, true, true, true, true, true, true, true, true, true, true, true, true]) (fun y => ∃ q : CW [(⟨b, 99, none⟩, .int .i64 0), (⟨b, 2, none⟩, .int .i64 e0)], y = q.1) (by kernel_rfl) (by kernel_rfl) (by kernel_rfl) (fun _ _ _ _ _ _ _ h => h) ⟨⟨_, HF.out⟩, rfl⟩ ?_
  simp only [wpPw, wpBw, selF, and_true]
  generalize W3.drew = V13 at *
  repeat (go_big_quiet_step (fail))
  refine wpQuiet_nil ?_
  refine NoPanic.normal ?_
  clear f0 f1 HF
  go_wp2_with fail
  refine (look13_4 b f gv _ e0 HE.out HC.out HE9.out _ (HM.out.hb 0 _ _ _ rfl)).mono ?_
  rintro e W7 ⟨⟨ao1, n1, c1, rfl, hi⟩, hM2⟩
  have hM3 := HM.out.upR (i := 0) rfl hM2
  (try simp only [List.set_cons_zero] at hM3)
  replace HM := Lib.hid hM3
  have en : n1 = 0 := by
    obtain ⟨_, _, e, _⟩ := hi
    injection e
  subst en
  clear hM2 hM3 hi
  go_wp2_with (first
    | (refine wpm_st57 HM rfl (.tmp 2) (.tmp 30) rfl 1 rfl (f.at_ 3) rfl rfl ?_; intro W hM; (try simp only [List.cons_append, List.nil_append, List.set_cons_succ, List.set_cons_zero, Nat.reduceAdd] at hM); replace HM := hM; clear hM)
    | (refine wpm_st59 HM rfl (.tmp 3) (.tmp 31) rfl 2 rfl rfl 2 2 e0 (e0 + 1) 0 ao1 0 c1 rfl rfl ?_; intro W hM; (try simp only [List.cons_append, List.nil_append, List.set_cons_succ, List.set_cons_zero, Nat.reduceAdd] at hM); replace HM := hM; clear hM))
  (try simp only [Exit.inBlock, Exit.then])
  refine bodyPost_ret (res_cc rfl _ _ _ _ _ _ rfl rfl ((HM.out.hb 1 _ _ _ rfl).load57) ((HM.out.hb 2 _ _ _ rfl).load59 rfl)) rfl ?_
  exact ⟨⟨_, _, _, rfl, ints0 _ _ _ _⟩, mem_one HM.out⟩
set_option maxHeartbeats 400000 in
set_option maxRecDepth 100000 in
theorem adv13_2ln (b : Nat) (f : Fr) (gv : Value) (x : Int) (e0 : Int) (he : f.r 0 = e0) (he9 : 0 ≤ e0 ∧ e0 ≤ 1000000) (hc : f.r 1 = 4) (h0 : x ≠ 0) (h1 : x = e0 + 1) (w : World) (hb : HB w b (pgG f gv x) 127) : Calls Try.prog 68 #[.pointer (some ⟨b, 0, none⟩)] w fun e w' => MethP b gv x w w' e (f.at_ 3) 2 2 e0 (e0 + 1) [] := by
  have HM := Lib.hid (Mem.startR hb)
  have HE := Lib.hid he
  have HE9 := Lib.hid he9
  have HC := Lib.hid hc
  have HR0 := Lib.hid (by have h := pgG_r f gv x 0 (by omega); rw [he] at h; exact h : (pgG f gv x)[2]? = some (.int .i64 e0))
  obtain ⟨e1, e2⟩ := he9
  have ew : IntKind.i64.wrap (e0 + 1) = e0 + 1 := wrap_small (by omega) (by omega)
  have x0 : (x != 0) = true := by simpa using h0
  have x1 : (x != e0 + 1) = false := by simpa using h1
  clear he hc h0 h1
  clear hb
  go_enter Try.func68, Try.ntmps68
  go_wp2_with (first
    | (refine wpm_al57 HM rfl rfl ?_; intro W2 hM; (try simp only [List.cons_append, List.nil_append, List.set_cons_succ, List.set_cons_zero, Nat.reduceAdd] at hM); replace HM := hM; clear hM)
    | (refine wpm_al59 HM rfl rfl ?_; intro W3 hM; (try simp only [List.cons_append, List.nil_append, List.set_cons_succ, List.set_cons_zero, Nat.reduceAdd] at hM); replace HM := hM; clear hM))
  have kx := (HM.out.hb 0 _ _ _ rfl).cell (k := 99) (pgG_x _ _ _)
  have kr := (HM.out.hb 0 _ _ _ rfl).cell (k := 2) HR0.out
  go_quiet (fail)
  replace HM := Lib.hid (HM.out.drewN nq)
  clear kx kr
  go_wp2_with fail
  refine (look13_4 b f gv _ e0 HE.out HC.out HE9.out _ (HM.out.hb 0 _ _ _ rfl)).mono ?_
  rintro e W7 ⟨⟨ao1, n1, c1, rfl, hi⟩, hM2⟩
  have hM3 := HM.out.upR (i := 0) rfl hM2
  (try simp only [List.set_cons_zero] at hM3)
  replace HM := Lib.hid hM3
  have en : n1 = 0 := by
    obtain ⟨_, _, e, _⟩ := hi
    injection e
  subst en
  clear hM2 hM3 hi
  go_wp2_with (first
    | (refine wpm_st57 HM rfl (.tmp 2) (.tmp 30) rfl 1 rfl (f.at_ 3) rfl rfl ?_; intro W hM; (try simp only [List.cons_append, List.nil_append, List.set_cons_succ, List.set_cons_zero, Nat.reduceAdd] at hM); replace HM := hM; clear hM)
    | (refine wpm_st59 HM rfl (.tmp 3) (.tmp 31) rfl 2 rfl rfl 2 2 e0 (e0 + 1) 0 ao1 0 c1 rfl rfl ?_; intro W hM; (try simp only [List.cons_append, List.nil_append, List.set_cons_succ, List.set_cons_zero, Nat.reduceAdd] at hM); replace HM := hM; clear hM))
  (try simp only [Exit.inBlock, Exit.then])
  refine bodyPost_ret (res_cc rfl _ _ _ _ _ _ rfl rfl ((HM.out.hb 1 _ _ _ rfl).load57) ((HM.out.hb 2 _ _ _ rfl).load59 rfl)) rfl ?_
  exact ⟨⟨_, _, _, rfl, ints0 _ _ _ _⟩, mem_one HM.out⟩
set_option maxHeartbeats 400000 in
set_option maxRecDepth 100000 in
theorem adv13_2cz (b : Nat) (f : Fr) (gv : Value) (x : Int) (e0 : Int) (he : f.r 0 = e0) (he9 : 0 ≤ e0 ∧ e0 ≤ 1000000) (c0 : Int) (hc : f.r 1 = c0) (h4 : 0 ≤ c0 ∧ c0 < 4) (h0 : x = 0) (w : World) (hb : HB w b (pgG f gv x) 127) : Calls Try.prog 68 #[.pointer (some ⟨b, 0, none⟩)] w fun e w' => MethP b gv x w w' e ((f.reg 1 (c0 + 1)).at_ 2) 0 (5 + c0) 0 0 [] := by
  have HM := Lib.hid (Mem.startR hb)
  have HE := Lib.hid he
  have HE9 := Lib.hid he9
  have HC := Lib.hid hc
  have H4 := Lib.hid h4
  have HR0 := Lib.hid (by have h := pgG_r f gv x 0 (by omega); rw [he] at h; exact h : (pgG f gv x)[2]? = some (.int .i64 e0))
  obtain ⟨e1, e2⟩ := he9
  have ew : IntKind.i64.wrap (e0 + 1) = e0 + 1 := wrap_small (by omega) (by omega)
  subst h0
  clear he hc  h4
  clear hb
  go_enter Try.func68, Try.ntmps68
  go_wp2_with (first
    | (refine wpm_al57 HM rfl rfl ?_; intro W2 hM; (try simp only [List.cons_append, List.nil_append, List.set_cons_succ, List.set_cons_zero, Nat.reduceAdd] at hM); replace HM := hM; clear hM)
    | (refine wpm_al59 HM rfl rfl ?_; intro W3 hM; (try simp only [List.cons_append, List.nil_append, List.set_cons_succ, List.set_cons_zero, Nat.reduceAdd] at hM); replace HM := hM; clear hM))
  replace HM := Lib.hid HM.out.drew
  have HF : Hid (∀ p ∈ ([(⟨b, 99, none⟩, .int .i64 0), (⟨b, 2, none⟩, .int .i64 e0)] : List (Addr × Value)), World.cell? _ p.1 = some p.2) := Lib.hid (allc ((HM.out.hb 0 _ _ _ rfl).cell (k := 99) (pgG_x _ _ _)) (allc ((HM.out.hb 0 _ _ _ rfl).cell (k := 2) HR0.out) (alln _)))
  haveI : Inhabited (CW [(⟨b, 99, none⟩, .int .i64 0), (⟨b, 2, none⟩, .int .i64 e0)]) := ⟨⟨_, HF.out⟩⟩
  have f0 : ∀ q : CW [(⟨b, 99, none⟩, .int .i64 0), (⟨b, 2, none⟩, .int .i64 e0)], q.1.cell? ⟨b, 99, none⟩ = some (.int .i64 0) := fun q => q.2 (⟨b, 99, none⟩, .int .i64 0) (by simp)
  have f1 : ∀ q : CW [(⟨b, 99, none⟩, .int .i64 0), (⟨b, 2, none⟩, .int .i64 e0)], q.1.cell? ⟨b, 2, none⟩ = some (.int .i64 e0) := fun q => q.2 (⟨b, 2, none⟩, .int .i64 e0) (by simp)
  (try simp only [Act.put, List.setIfInBounds_toArray, List.set_cons_succ, List.set_cons_zero])
  refine wp_region_noPanic ?_
  refine wp_region_plw (.last [true, true, true, true, true, true, true, true, true, true, true, true, true, true, true, true, true, true, true]) (fun y => ∃ q : CW [(⟨b, 99, none⟩, .int .i64 0), (⟨b, 2, none⟩, .int .i64 e0)], y = q.1) (by kernel_rfl) (by kernel_rfl) (by kernel_rfl) (fun _ _ _ _ _ _ _ h => h) ⟨⟨_, HF.out⟩, rfl⟩ ?_
  simp only [wpPw, wpBw, selF, and_true]
  generalize W3.drew = V14 at *
  repeat (go_big_quiet_step (fail))
  refine wpQuiet_nil ?_
  refine NoPanic.normal ?_
  clear f0 f1 HF
  go_wp2_with fail
  refine (look13_c b f gv _ c0 HC.out H4.out _ (HM.out.hb 0 _ _ _ rfl)).mono ?_
  rintro e W7 ⟨⟨ao1, n1, c1, rfl, hi⟩, hM2⟩
  have hM3 := HM.out.upR (i := 0) rfl hM2
  (try simp only [List.set_cons_zero] at hM3)
  replace HM := Lib.hid hM3
  have en : n1 = 0 := by
    obtain ⟨_, _, e, _⟩ := hi
    injection e
  subst en
  clear hM2 hM3 hi
  go_wp2_with (first
    | (refine wpm_st57 HM rfl (.tmp 2) (.tmp 30) rfl 1 rfl ((f.reg 1 (c0 + 1)).at_ 2) rfl rfl ?_; intro W hM; (try simp only [List.cons_append, List.nil_append, List.set_cons_succ, List.set_cons_zero, Nat.reduceAdd] at hM); replace HM := hM; clear hM)
    | (refine wpm_st59 HM rfl (.tmp 3) (.tmp 31) rfl 2 rfl rfl 0 (5 + c0) 0 0 0 ao1 0 c1 rfl rfl ?_; intro W hM; (try simp only [List.cons_append, List.nil_append, List.set_cons_succ, List.set_cons_zero, Nat.reduceAdd] at hM); replace HM := hM; clear hM))
  (try simp only [Exit.inBlock, Exit.then])
  refine bodyPost_ret (res_cc rfl _ _ _ _ _ _ rfl rfl ((HM.out.hb 1 _ _ _ rfl).load57) ((HM.out.hb 2 _ _ _ rfl).load59 rfl)) rfl ?_
  exact ⟨⟨_, _, _, rfl, ints0 _ _ _ _⟩, mem_one HM.out⟩
set_option maxHeartbeats 400000 in
set_option maxRecDepth 100000 in
theorem adv13_2cn (b : Nat) (f : Fr) (gv : Value) (x : Int) (e0 : Int) (he : f.r 0 = e0) (he9 : 0 ≤ e0 ∧ e0 ≤ 1000000) (c0 : Int) (hc : f.r 1 = c0) (h4 : 0 ≤ c0 ∧ c0 < 4) (h0 : x ≠ 0) (h1 : x = e0 + 1) (w : World) (hb : HB w b (pgG f gv x) 127) : Calls Try.prog 68 #[.pointer (some ⟨b, 0, none⟩)] w fun e w' => MethP b gv x w w' e ((f.reg 1 (c0 + 1)).at_ 2) 0 (5 + c0) 0 0 [] := by
  have HM := Lib.hid (Mem.startR hb)
  have HE := Lib.hid he
  have HE9 := Lib.hid he9
  have HC := Lib.hid hc
  have H4 := Lib.hid h4
  have HR0 := Lib.hid (by have h := pgG_r f gv x 0 (by omega); rw [he] at h; exact h : (pgG f gv x)[2]? = some (.int .i64 e0))
  obtain ⟨e1, e2⟩ := he9
  have ew : IntKind.i64.wrap (e0 + 1) = e0 + 1 := wrap_small (by omega) (by omega)
  have x0 : (x != 0) = true := by simpa using h0
  have x1 : (x != e0 + 1) = false := by simpa using h1
  clear he hc h0 h1 h4
  clear hb
  go_enter Try.func68, Try.ntmps68
  go_wp2_with (first
    | (refine wpm_al57 HM rfl rfl ?_; intro W2 hM; (try simp only [List.cons_append, List.nil_append, List.set_cons_succ, List.set_cons_zero, Nat.reduceAdd] at hM); replace HM := hM; clear hM)
    | (refine wpm_al59 HM rfl rfl ?_; intro W3 hM; (try simp only [List.cons_append, List.nil_append, List.set_cons_succ, List.set_cons_zero, Nat.reduceAdd] at hM); replace HM := hM; clear hM))
  have kx := (HM.out.hb 0 _ _ _ rfl).cell (k := 99) (pgG_x _ _ _)
  have kr := (HM.out.hb 0 _ _ _ rfl).cell (k := 2) HR0.out
  go_quiet (fail)
  replace HM := Lib.hid (HM.out.drewN nq)
  clear kx kr
  go_wp2_with fail
  refine (look13_c b f gv _ c0 HC.out H4.out _ (HM.out.hb 0 _ _ _ rfl)).mono ?_
  rintro e W7 ⟨⟨ao1, n1, c1, rfl, hi⟩, hM2⟩
  have hM3 := HM.out.upR (i := 0) rfl hM2
  (try simp only [List.set_cons_zero] at hM3)
  replace HM := Lib.hid hM3
  have en : n1 = 0 := by
    obtain ⟨_, _, e, _⟩ := hi
    injection e
  subst en
  clear hM2 hM3 hi
  go_wp2_with (first
    | (refine wpm_st57 HM rfl (.tmp 2) (.tmp 30) rfl 1 rfl ((f.reg 1 (c0 + 1)).at_ 2) rfl rfl ?_; intro W hM; (try simp only [List.cons_append, List.nil_append, List.set_cons_succ, List.set_cons_zero, Nat.reduceAdd] at hM); replace HM := hM; clear hM)
    | (refine wpm_st59 HM rfl (.tmp 3) (.tmp 31) rfl 2 rfl rfl 0 (5 + c0) 0 0 0 ao1 0 c1 rfl rfl ?_; intro W hM; (try simp only [List.cons_append, List.nil_append, List.set_cons_succ, List.set_cons_zero, Nat.reduceAdd] at hM); replace HM := hM; clear hM))
  (try simp only [Exit.inBlock, Exit.then])
  refine bodyPost_ret (res_cc rfl _ _ _ _ _ _ rfl rfl ((HM.out.hb 1 _ _ _ rfl).load57) ((HM.out.hb 2 _ _ _ rfl).load59 rfl)) rfl ?_
  exact ⟨⟨_, _, _, rfl, ints0 _ _ _ _⟩, mem_one HM.out⟩
end Go.Proofs.Ytgpdknacnmapiaa
