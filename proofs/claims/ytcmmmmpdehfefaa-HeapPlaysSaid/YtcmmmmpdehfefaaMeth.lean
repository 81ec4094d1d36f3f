/-
  container/heap's calls through its interface, at *rows (chapter 15).
-/
import Derived.Test.YtcmmmmpdehfefaaProg
import Derived.Test.YtcmmmmpdehfefaaBase
import Derived.Test.YtcmmmmpdehfefaaOrdersD
import Derived.WalkSmall
import Derived.Deep.RegionHeld3
import Derived.Outline
namespace Go.Proofs.Ytcmmmmpdehfefaa
set_option linter.unusedVariables false
set_option linter.unusedSimpArgs false
open Go.RowKit
theorem nil_chk (ha : Addr) (s : String) (w : World) : (Builtin.ssaWrapNilChk_ #[60] 60 #[.pointer (some ha), strVal "", strVal s]).run Try.prog w = .ok (.pointer (some ha)) w := by kernel_rfl
theorem met_val {name : String} {sig f : Nat} (hi : ∀ w : World, (typeInfo 60).run Try.prog w = .ok ((Try.prog.info? 60).getD default) w) (hm : ((Try.prog.info? 60).getD default).methods.find? (·.name == name) = some ⟨name, sig, #[], some (f, false)⟩)
    (k : Nat) (ha : Addr) (rv : Value) (w : World) (hc : w.cell? ha = some rv) : (method (k + 1) 60 (.pointer (some ha)) name).run Try.prog w = .ok (f, rv) w := by
  unfold method
  simp [go_sem, hi, hm, follow, receiverAt, Place.get, nil_chk, hc]
theorem met_ptr {name : String} {sig f : Nat} (hi : ∀ w : World, (typeInfo 60).run Try.prog w = .ok ((Try.prog.info? 60).getD default) w) (hm : ((Try.prog.info? 60).getD default).methods.find? (·.name == name) = some ⟨name, sig, #[], some (f, true)⟩)
    (k : Nat) (ha : Addr) (w : World) : (method (k + 1) 60 (.pointer (some ha)) name).run Try.prog w = .ok (f, .pointer (some ha)) w := by
  unfold method
  simp [go_sem, hi, hm, follow, receiverAt, Place.get]
theorem ti60 (w : World) : (typeInfo 60).run Try.prog w = .ok ((Try.prog.info? 60).getD default) w := by kernel_rfl
theorem met_len (ha : Addr) (rv : Value) (w : World) (hc : w.cell? ha = some rv) : (method 220 60 (.pointer (some ha)) "Len").run Try.prog w = .ok (75, rv) w := met_val (sig := 43) ti60 (by kernel_rfl) 219 ha rv w hc
theorem met_less (ha : Addr) (rv : Value) (w : World) (hc : w.cell? ha = some rv) : (method 220 60 (.pointer (some ha)) "Less").run Try.prog w = .ok (76, rv) w := met_val (sig := 48) ti60 (by kernel_rfl) 219 ha rv w hc
theorem met_swap (ha : Addr) (rv : Value) (w : World) (hc : w.cell? ha = some rv) : (method 220 60 (.pointer (some ha)) "Swap").run Try.prog w = .ok (77, rv) w := met_val (sig := 79) ti60 (by kernel_rfl) 219 ha rv w hc
theorem met_push (ha : Addr) (w : World) : (method 220 60 (.pointer (some ha)) "Push").run Try.prog w = .ok (79, .pointer (some ha)) w := met_ptr (sig := 74) ti60 (by kernel_rfl) 219 ha w
theorem met_pop (ha : Addr) (w : World) : (method 220 60 (.pointer (some ha)) "Pop").run Try.prog w = .ok (78, .pointer (some ha)) w := met_ptr (sig := 80) ti60 (by kernel_rfl) 219 ha w
theorem met_first (ha : Addr) (w : World) : (method 220 60 (.pointer (some ha)) (Try.t60.methods[5]!).name).run Try.prog w = .ok (80, .pointer (some ha)) w := met_ptr (sig := 83) ti60 (by kernel_rfl) 219 ha w
end Go.Proofs.Ytcmmmmpdehfefaa
