/-
  No cell of these rows narrows 'for every input' (looked for: loops, veiled, ifaces, maps, wideKeys, modest, calm, conditions, laid).
  DERIVED. THE GIVEN ROWS OF THIS SEAT. 10 by the template 'for every input the law returns true; each argument reads behind the call as it read before'; 0 by the template 'total and deterministic' (their statements: YtifgbhakbgakmaaTotals.lean).
  GIVEN WITH THE SEED: the statements are not yours to turn. If you find one false, say at which input.
  Laid BY PROGRAM, IN A SANDBOX (cutbox-rows.mjs): the forced cells as the released guide's own fill.sh prints them over the translation e9f76874ebed3e10… (all of the seat's roots in one cut). By AI agents, Wed Nov 11 2026. No macro, syntax, notation, axiom, sorry.
-/
import Derived.Test.YtifgbhakbgakmaaChecked
import GoSem.Claim
import GoSem.ClaimJoined
import GoSem.ClaimMapViews
import Derived.JoinedTies
import Derived.KernelRfl
namespace Go.Proofs.Ytifgbhakbgakmaa
/- THE CELL 'sum', in the pinned program and in every row, IS THE sha256 OF THE DUMP (.gsa) THAT YtifgbhakbgakmaaProg.lean LOADS. Nothing in Lean hashes anything: it is a label: what it is worth is what the hold of that sum in a sandbox is worth. -/
noncomputable def Try.pinned : Pinned := { name := "ytifgbhakbgakmaa", sum := "e9f76874ebed3e102e405df7da9442831fc44cfc042adaebb41975c22bea4cbc", checked := Try.checked }
namespace Rows
def none {H : Type} : Left H := { results := [], args := [] }

/-- 'flumelaw02.SumsJoin': WHATEVER THE INPUT: true; the input reads as it did. -/
def sumsJoinSpec : ChangeSpec := { name := "sumsJoin", fn := fun _ => fun
  | [d1, d2] => { results := [.lit (.bool true)], args := [d1, d2] }
  | _ => none }
def sumsJoinRow : OpenClaim := { program := "ytifgbhakbgakmaa", sum := "e9f76874ebed3e102e405df7da9442831fc44cfc042adaebb41975c22bea4cbc", func := "flume/flumelaw02.SumsJoin", spec := "sumsJoin", apart := false }
def SumsJoinSaid : Prop := sumsJoinRow.holds Try.pinned (OpenSpec.ofChange sumsJoinSpec)

/-- ITS FALSE NEIGHBOUR: 'it returns false'. Refute it at one input. -/
def sumsJoinWrong : ChangeSpec := { name := "sumsJoin", fn := fun _ => fun
  | [d1, d2] => { results := [.lit (.bool false)], args := [d1, d2] }
  | _ => none }
def SumsJoinWrongFalsely : Prop := sumsJoinRow.holds Try.pinned (OpenSpec.ofChange sumsJoinWrong)

/-- 'flumelaw02.SumsTurns': WHATEVER THE INPUT: true; the input reads as it did. -/
def sumsTurnsSpec : ChangeSpec := { name := "sumsTurns", fn := fun _ => fun
  | [d1, d2, d3] => { results := [.lit (.bool true)], args := [d1, d2, d3] }
  | _ => none }
def sumsTurnsRow : OpenClaim := { program := "ytifgbhakbgakmaa", sum := "e9f76874ebed3e102e405df7da9442831fc44cfc042adaebb41975c22bea4cbc", func := "flume/flumelaw02.SumsTurns", spec := "sumsTurns", apart := false }
def SumsTurnsSaid : Prop := sumsTurnsRow.holds Try.pinned (OpenSpec.ofChange sumsTurnsSpec)

/-- ITS FALSE NEIGHBOUR: 'it returns false'. Refute it at one input. -/
def sumsTurnsWrong : ChangeSpec := { name := "sumsTurns", fn := fun _ => fun
  | [d1, d2, d3] => { results := [.lit (.bool false)], args := [d1, d2, d3] }
  | _ => none }
def SumsTurnsWrongFalsely : Prop := sumsTurnsRow.holds Try.pinned (OpenSpec.ofChange sumsTurnsWrong)

/-- 'flumelaw02.SumsTell': WHATEVER THE INPUT: true; the input reads as it did. -/
def sumsTellSpec : ChangeSpec := { name := "sumsTell", fn := fun _ => fun
  | [d1, d2, d3] => { results := [.lit (.bool true)], args := [d1, d2, d3] }
  | _ => none }
def sumsTellRow : OpenClaim := { program := "ytifgbhakbgakmaa", sum := "e9f76874ebed3e102e405df7da9442831fc44cfc042adaebb41975c22bea4cbc", func := "flume/flumelaw02.SumsTell", spec := "sumsTell", apart := false }
def SumsTellSaid : Prop := sumsTellRow.holds Try.pinned (OpenSpec.ofChange sumsTellSpec)

/-- ITS FALSE NEIGHBOUR: 'it returns false'. Refute it at one input. -/
def sumsTellWrong : ChangeSpec := { name := "sumsTell", fn := fun _ => fun
  | [d1, d2, d3] => { results := [.lit (.bool false)], args := [d1, d2, d3] }
  | _ => none }
def SumsTellWrongFalsely : Prop := sumsTellRow.holds Try.pinned (OpenSpec.ofChange sumsTellWrong)

/-- 'flumelaw02.SumsBurst': WHATEVER THE INPUT: true; the input reads as it did. -/
def sumsBurstSpec : ChangeSpec := { name := "sumsBurst", fn := fun _ => fun
  | [d1, d2, d3] => { results := [.lit (.bool true)], args := [d1, d2, d3] }
  | _ => none }
def sumsBurstRow : OpenClaim := { program := "ytifgbhakbgakmaa", sum := "e9f76874ebed3e102e405df7da9442831fc44cfc042adaebb41975c22bea4cbc", func := "flume/flumelaw02.SumsBurst", spec := "sumsBurst", apart := false }
def SumsBurstSaid : Prop := sumsBurstRow.holds Try.pinned (OpenSpec.ofChange sumsBurstSpec)

/-- ITS FALSE NEIGHBOUR: 'it returns false'. Refute it at one input. -/
def sumsBurstWrong : ChangeSpec := { name := "sumsBurst", fn := fun _ => fun
  | [d1, d2, d3] => { results := [.lit (.bool false)], args := [d1, d2, d3] }
  | _ => none }
def SumsBurstWrongFalsely : Prop := sumsBurstRow.holds Try.pinned (OpenSpec.ofChange sumsBurstWrong)

/-- 'flumelaw01.PackParts': WHATEVER THE INPUT: true; the input reads as it did. -/
def packPartsSpec : ChangeSpec := { name := "packParts", fn := fun _ => fun
  | [d1, d2, d3, d4, d5, d6] => { results := [.lit (.bool true)], args := [d1, d2, d3, d4, d5, d6] }
  | _ => none }
def packPartsRow : OpenClaim := { program := "ytifgbhakbgakmaa", sum := "e9f76874ebed3e102e405df7da9442831fc44cfc042adaebb41975c22bea4cbc", func := "flume/flumelaw01.PackParts", spec := "packParts", apart := false }
def PackPartsSaid : Prop := packPartsRow.holds Try.pinned (OpenSpec.ofChange packPartsSpec)

/-- ITS FALSE NEIGHBOUR: 'it returns false'. Refute it at one input. -/
def packPartsWrong : ChangeSpec := { name := "packParts", fn := fun _ => fun
  | [d1, d2, d3, d4, d5, d6] => { results := [.lit (.bool false)], args := [d1, d2, d3, d4, d5, d6] }
  | _ => none }
def PackPartsWrongFalsely : Prop := packPartsRow.holds Try.pinned (OpenSpec.ofChange packPartsWrong)

/-- 'flumelaw01.PackOwn': WHATEVER THE INPUT: true; the input reads as it did. -/
def packOwnSpec : ChangeSpec := { name := "packOwn", fn := fun _ => fun
  | [d1, d2, d3, d4] => { results := [.lit (.bool true)], args := [d1, d2, d3, d4] }
  | _ => none }
def packOwnRow : OpenClaim := { program := "ytifgbhakbgakmaa", sum := "e9f76874ebed3e102e405df7da9442831fc44cfc042adaebb41975c22bea4cbc", func := "flume/flumelaw01.PackOwn", spec := "packOwn", apart := false }
def PackOwnSaid : Prop := packOwnRow.holds Try.pinned (OpenSpec.ofChange packOwnSpec)

/-- ITS FALSE NEIGHBOUR: 'it returns false'. Refute it at one input. -/
def packOwnWrong : ChangeSpec := { name := "packOwn", fn := fun _ => fun
  | [d1, d2, d3, d4] => { results := [.lit (.bool false)], args := [d1, d2, d3, d4] }
  | _ => none }
def PackOwnWrongFalsely : Prop := packOwnRow.holds Try.pinned (OpenSpec.ofChange packOwnWrong)

/-- 'flumelaw01.PackWide': WHATEVER THE INPUT: true; the input reads as it did. -/
def packWideSpec : ChangeSpec := { name := "packWide", fn := fun _ => fun
  | [d1, d2] => { results := [.lit (.bool true)], args := [d1, d2] }
  | _ => none }
def packWideRow : OpenClaim := { program := "ytifgbhakbgakmaa", sum := "e9f76874ebed3e102e405df7da9442831fc44cfc042adaebb41975c22bea4cbc", func := "flume/flumelaw01.PackWide", spec := "packWide", apart := false }
def PackWideSaid : Prop := packWideRow.holds Try.pinned (OpenSpec.ofChange packWideSpec)

/-- ITS FALSE NEIGHBOUR: 'it returns false'. Refute it at one input. -/
def packWideWrong : ChangeSpec := { name := "packWide", fn := fun _ => fun
  | [d1, d2] => { results := [.lit (.bool false)], args := [d1, d2] }
  | _ => none }
def PackWideWrongFalsely : Prop := packWideRow.holds Try.pinned (OpenSpec.ofChange packWideWrong)

/-- 'flumelaw01.PackNumbers': WHATEVER THE INPUT: true; the input reads as it did. -/
def packNumbersSpec : ChangeSpec := { name := "packNumbers", fn := fun _ => fun
  | [d1, d2, d3, d4] => { results := [.lit (.bool true)], args := [d1, d2, d3, d4] }
  | _ => none }
def packNumbersRow : OpenClaim := { program := "ytifgbhakbgakmaa", sum := "e9f76874ebed3e102e405df7da9442831fc44cfc042adaebb41975c22bea4cbc", func := "flume/flumelaw01.PackNumbers", spec := "packNumbers", apart := false }
def PackNumbersSaid : Prop := packNumbersRow.holds Try.pinned (OpenSpec.ofChange packNumbersSpec)

/-- ITS FALSE NEIGHBOUR: 'it returns false'. Refute it at one input. -/
def packNumbersWrong : ChangeSpec := { name := "packNumbers", fn := fun _ => fun
  | [d1, d2, d3, d4] => { results := [.lit (.bool false)], args := [d1, d2, d3, d4] }
  | _ => none }
def PackNumbersWrongFalsely : Prop := packNumbersRow.holds Try.pinned (OpenSpec.ofChange packNumbersWrong)

/-- 'flumelaw01.PackBack': WHATEVER THE INPUT: true; the input reads as it did. -/
def packBackSpec : ChangeSpec := { name := "packBack", fn := fun _ => fun
  | [d1, d2, d3, d4] => { results := [.lit (.bool true)], args := [d1, d2, d3, d4] }
  | _ => none }
def packBackRow : OpenClaim := { program := "ytifgbhakbgakmaa", sum := "e9f76874ebed3e102e405df7da9442831fc44cfc042adaebb41975c22bea4cbc", func := "flume/flumelaw01.PackBack", spec := "packBack", apart := false }
def PackBackSaid : Prop := packBackRow.holds Try.pinned (OpenSpec.ofChange packBackSpec)

/-- ITS FALSE NEIGHBOUR: 'it returns false'. Refute it at one input. -/
def packBackWrong : ChangeSpec := { name := "packBack", fn := fun _ => fun
  | [d1, d2, d3, d4] => { results := [.lit (.bool false)], args := [d1, d2, d3, d4] }
  | _ => none }
def PackBackWrongFalsely : Prop := packBackRow.holds Try.pinned (OpenSpec.ofChange packBackWrong)

/-- 'flumelaw01.PackDigits': WHATEVER THE INPUT: true; the input reads as it did. -/
def packDigitsSpec : ChangeSpec := { name := "packDigits", fn := fun _ => fun
  | [d1, d2, d3] => { results := [.lit (.bool true)], args := [d1, d2, d3] }
  | _ => none }
def packDigitsRow : OpenClaim := { program := "ytifgbhakbgakmaa", sum := "e9f76874ebed3e102e405df7da9442831fc44cfc042adaebb41975c22bea4cbc", func := "flume/flumelaw01.PackDigits", spec := "packDigits", apart := false }
def PackDigitsSaid : Prop := packDigitsRow.holds Try.pinned (OpenSpec.ofChange packDigitsSpec)

/-- ITS FALSE NEIGHBOUR: 'it returns false'. Refute it at one input. -/
def packDigitsWrong : ChangeSpec := { name := "packDigits", fn := fun _ => fun
  | [d1, d2, d3] => { results := [.lit (.bool false)], args := [d1, d2, d3] }
  | _ => none }
def PackDigitsWrongFalsely : Prop := packDigitsRow.holds Try.pinned (OpenSpec.ofChange packDigitsWrong)

/- THE SECOND FORM. 'bulk': how many values and letters a reading holds, each counted each time it is reached (what is shared counts as often as it is met; a slice's spare places count too). A statement '..UptoSaid' is the law's where the arguments, and the package variables that the reading takes, are together of bulk at most 1048576: NARROWER than '..Said'. Prove '..Said' where nothing that the law and all that it calls make is longer than what came in: it says more and counts as full. Else prove '..UptoSaid'. A law counts once. -/
mutual
def uptoBulk {H : Type} : DataW H → Nat
  | .lit (.string bytes) => bytes.length + 1
  | .lit _ => 1
  | .nil => 1
  | .ptr d => uptoBulk d + 1
  | .slice elems spare => uptoBulkAll elems + uptoBulkAll spare + 1
  | .agg parts => uptoBulkAll parts + 1
  | .iface _ d => uptoBulk d + 1
  | .map entries => uptoBulkEntries entries + 1
  | .held _ => 1
def uptoBulkAll {H : Type} : List (DataW H) → Nat
  | [] => 0
  | d :: r => uptoBulk d + uptoBulkAll r
def uptoBulkEntries {H : Type} : List (Lit × DataW H) → Nat
  | [] => 0
  | x :: r => uptoBulkEntry x + uptoBulkEntries r
def uptoBulkEntry {H : Type} : Lit × DataW H → Nat
  | (.string bytes, d) => bytes.length + uptoBulk d + 1
  | (_, d) => uptoBulk d + 1
 end
def uptoSmall : (H : Type) → List (DataW H) → Bool := fun _ ds => decide (uptoBulkAll ds ≤ 1048576)
def OpenSpec.upto (s : _root_.Go.ChangeSpec) : _root_.Go.OpenSpec := { _root_.Go.OpenSpec.ofChange s with cond := some uptoSmall }

/-- 'flumelaw02.SumsJoin', WHERE WHAT IT READS IS OF BULK AT MOST 1048576: true; the input reads as it did. -/
def sumsJoinUptoRow : OpenClaim := { program := "ytifgbhakbgakmaa", sum := "e9f76874ebed3e102e405df7da9442831fc44cfc042adaebb41975c22bea4cbc", func := "flume/flumelaw02.SumsJoin", spec := "sumsJoin", apart := false, narrowed := true }
def SumsJoinUptoSaid : Prop := sumsJoinUptoRow.holds Try.pinned (OpenSpec.upto sumsJoinSpec)

/-- 'flumelaw02.SumsTurns', WHERE WHAT IT READS IS OF BULK AT MOST 1048576: true; the input reads as it did. -/
def sumsTurnsUptoRow : OpenClaim := { program := "ytifgbhakbgakmaa", sum := "e9f76874ebed3e102e405df7da9442831fc44cfc042adaebb41975c22bea4cbc", func := "flume/flumelaw02.SumsTurns", spec := "sumsTurns", apart := false, narrowed := true }
def SumsTurnsUptoSaid : Prop := sumsTurnsUptoRow.holds Try.pinned (OpenSpec.upto sumsTurnsSpec)

/-- 'flumelaw02.SumsTell', WHERE WHAT IT READS IS OF BULK AT MOST 1048576: true; the input reads as it did. -/
def sumsTellUptoRow : OpenClaim := { program := "ytifgbhakbgakmaa", sum := "e9f76874ebed3e102e405df7da9442831fc44cfc042adaebb41975c22bea4cbc", func := "flume/flumelaw02.SumsTell", spec := "sumsTell", apart := false, narrowed := true }
def SumsTellUptoSaid : Prop := sumsTellUptoRow.holds Try.pinned (OpenSpec.upto sumsTellSpec)

/-- 'flumelaw02.SumsBurst', WHERE WHAT IT READS IS OF BULK AT MOST 1048576: true; the input reads as it did. -/
def sumsBurstUptoRow : OpenClaim := { program := "ytifgbhakbgakmaa", sum := "e9f76874ebed3e102e405df7da9442831fc44cfc042adaebb41975c22bea4cbc", func := "flume/flumelaw02.SumsBurst", spec := "sumsBurst", apart := false, narrowed := true }
def SumsBurstUptoSaid : Prop := sumsBurstUptoRow.holds Try.pinned (OpenSpec.upto sumsBurstSpec)

/-- 'flumelaw01.PackParts', WHERE WHAT IT READS IS OF BULK AT MOST 1048576: true; the input reads as it did. -/
def packPartsUptoRow : OpenClaim := { program := "ytifgbhakbgakmaa", sum := "e9f76874ebed3e102e405df7da9442831fc44cfc042adaebb41975c22bea4cbc", func := "flume/flumelaw01.PackParts", spec := "packParts", apart := false, narrowed := true }
def PackPartsUptoSaid : Prop := packPartsUptoRow.holds Try.pinned (OpenSpec.upto packPartsSpec)

/-- 'flumelaw01.PackOwn', WHERE WHAT IT READS IS OF BULK AT MOST 1048576: true; the input reads as it did. -/
def packOwnUptoRow : OpenClaim := { program := "ytifgbhakbgakmaa", sum := "e9f76874ebed3e102e405df7da9442831fc44cfc042adaebb41975c22bea4cbc", func := "flume/flumelaw01.PackOwn", spec := "packOwn", apart := false, narrowed := true }
def PackOwnUptoSaid : Prop := packOwnUptoRow.holds Try.pinned (OpenSpec.upto packOwnSpec)

/-- 'flumelaw01.PackWide', WHERE WHAT IT READS IS OF BULK AT MOST 1048576: true; the input reads as it did. -/
def packWideUptoRow : OpenClaim := { program := "ytifgbhakbgakmaa", sum := "e9f76874ebed3e102e405df7da9442831fc44cfc042adaebb41975c22bea4cbc", func := "flume/flumelaw01.PackWide", spec := "packWide", apart := false, narrowed := true }
def PackWideUptoSaid : Prop := packWideUptoRow.holds Try.pinned (OpenSpec.upto packWideSpec)

/-- 'flumelaw01.PackNumbers', WHERE WHAT IT READS IS OF BULK AT MOST 1048576: true; the input reads as it did. -/
def packNumbersUptoRow : OpenClaim := { program := "ytifgbhakbgakmaa", sum := "e9f76874ebed3e102e405df7da9442831fc44cfc042adaebb41975c22bea4cbc", func := "flume/flumelaw01.PackNumbers", spec := "packNumbers", apart := false, narrowed := true }
def PackNumbersUptoSaid : Prop := packNumbersUptoRow.holds Try.pinned (OpenSpec.upto packNumbersSpec)

/-- 'flumelaw01.PackBack', WHERE WHAT IT READS IS OF BULK AT MOST 1048576: true; the input reads as it did. -/
def packBackUptoRow : OpenClaim := { program := "ytifgbhakbgakmaa", sum := "e9f76874ebed3e102e405df7da9442831fc44cfc042adaebb41975c22bea4cbc", func := "flume/flumelaw01.PackBack", spec := "packBack", apart := false, narrowed := true }
def PackBackUptoSaid : Prop := packBackUptoRow.holds Try.pinned (OpenSpec.upto packBackSpec)

/-- 'flumelaw01.PackDigits', WHERE WHAT IT READS IS OF BULK AT MOST 1048576: true; the input reads as it did. -/
def packDigitsUptoRow : OpenClaim := { program := "ytifgbhakbgakmaa", sum := "e9f76874ebed3e102e405df7da9442831fc44cfc042adaebb41975c22bea4cbc", func := "flume/flumelaw01.PackDigits", spec := "packDigits", apart := false, narrowed := true }
def PackDigitsUptoSaid : Prop := packDigitsUptoRow.holds Try.pinned (OpenSpec.upto packDigitsSpec)

end Rows
end Go.Proofs.Ytifgbhakbgakmaa
