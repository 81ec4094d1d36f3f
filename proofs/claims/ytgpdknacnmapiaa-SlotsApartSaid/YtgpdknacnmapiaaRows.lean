/-
  No cell of these rows narrows 'for every input' (looked for: loops, veiled, ifaces, maps, wideKeys, modest, calm, conditions, laid).
  DERIVED. THE GIVEN ROWS OF THIS SEAT. 7 by the template 'for every input the law returns true; each argument reads behind the call as it read before'; 0 by the template 'total and deterministic' (their statements: YtgpdknacnmapiaaTotals.lean).
  GIVEN WITH THE SEED: the statements are not yours to turn. If you find one false, say at which input.
  Laid BY PROGRAM, IN A SANDBOX (cutbox-rows.mjs): the forced cells as the released guide's own fill.sh prints them over the translation 47a7512d3821e867… (all of the seat's roots in one cut). By AI agents, Wed Nov 11 2026. No macro, syntax, notation, axiom, sorry.
-/
import Derived.Test.YtgpdknacnmapiaaChecked
import GoSem.Claim
import GoSem.ClaimJoined
import GoSem.ClaimMapViews
import Derived.JoinedTies
import Derived.KernelRfl
namespace Go.Proofs.Ytgpdknacnmapiaa
/- THE CELL 'sum', in the pinned program and in every row, IS THE sha256 OF THE DUMP (.gsa) THAT YtgpdknacnmapiaaProg.lean LOADS. Nothing in Lean hashes anything: it is a label: what it is worth is what the hold of that sum in a sandbox is worth. -/
noncomputable def Try.pinned : Pinned := { name := "ytgpdknacnmapiaa", sum := "47a7512d3821e867cfc320cbf225513bcde73f90362abccafd87dbc82eb908c2", checked := Try.checked }
namespace Rows
def none {H : Type} : Left H := { results := [], args := [] }

/-- 'flumelaw13.EpochHolds': WHATEVER THE INPUT: true; the input reads as it did. -/
def epochHoldsSpec : ChangeSpec := { name := "epochHolds", fn := fun _ => fun
  | [d] => { results := [.lit (.bool true)], args := [d] }
  | _ => none }
def epochHoldsRow : OpenClaim := { program := "ytgpdknacnmapiaa", sum := "47a7512d3821e867cfc320cbf225513bcde73f90362abccafd87dbc82eb908c2", func := "flume/flumelaw13.EpochHolds", spec := "epochHolds", unfollowed := true, recurses := true, apart := false }
def EpochHoldsSaid : Prop := epochHoldsRow.holds Try.pinned (OpenSpec.ofChange epochHoldsSpec)

/-- ITS FALSE NEIGHBOUR: 'it returns false'. Refute it at one input. -/
def epochHoldsWrong : ChangeSpec := { name := "epochHolds", fn := fun _ => fun
  | [d] => { results := [.lit (.bool false)], args := [d] }
  | _ => none }
def EpochHoldsWrongFalsely : Prop := epochHoldsRow.holds Try.pinned (OpenSpec.ofChange epochHoldsWrong)

/-- 'flumelaw13.EpochAlone': WHATEVER THE INPUT: true; the input reads as it did. -/
def epochAloneSpec : ChangeSpec := { name := "epochAlone", fn := fun _ => fun
  | [d1, d2] => { results := [.lit (.bool true)], args := [d1, d2] }
  | _ => none }
def epochAloneRow : OpenClaim := { program := "ytgpdknacnmapiaa", sum := "47a7512d3821e867cfc320cbf225513bcde73f90362abccafd87dbc82eb908c2", func := "flume/flumelaw13.EpochAlone", spec := "epochAlone", unfollowed := true, recurses := true, apart := false }
def EpochAloneSaid : Prop := epochAloneRow.holds Try.pinned (OpenSpec.ofChange epochAloneSpec)

/-- ITS FALSE NEIGHBOUR: 'it returns false'. Refute it at one input. -/
def epochAloneWrong : ChangeSpec := { name := "epochAlone", fn := fun _ => fun
  | [d1, d2] => { results := [.lit (.bool false)], args := [d1, d2] }
  | _ => none }
def EpochAloneWrongFalsely : Prop := epochAloneRow.holds Try.pinned (OpenSpec.ofChange epochAloneWrong)

/-- 'flumelaw13.EpochGoes': WHATEVER THE INPUT: true; the input reads as it did. -/
def epochGoesSpec : ChangeSpec := { name := "epochGoes", fn := fun _ => fun
  | [d1, d2] => { results := [.lit (.bool true)], args := [d1, d2] }
  | _ => none }
def epochGoesRow : OpenClaim := { program := "ytgpdknacnmapiaa", sum := "47a7512d3821e867cfc320cbf225513bcde73f90362abccafd87dbc82eb908c2", func := "flume/flumelaw13.EpochGoes", spec := "epochGoes", unfollowed := true, recurses := true, apart := false }
def EpochGoesSaid : Prop := epochGoesRow.holds Try.pinned (OpenSpec.ofChange epochGoesSpec)

/-- ITS FALSE NEIGHBOUR: 'it returns false'. Refute it at one input. -/
def epochGoesWrong : ChangeSpec := { name := "epochGoes", fn := fun _ => fun
  | [d1, d2] => { results := [.lit (.bool false)], args := [d1, d2] }
  | _ => none }
def EpochGoesWrongFalsely : Prop := epochGoesRow.holds Try.pinned (OpenSpec.ofChange epochGoesWrong)

/-- 'flumelaw14.SlotsStep': WHATEVER THE INPUT: true; the input reads as it did. -/
def slotsStepSpec : ChangeSpec := { name := "slotsStep", fn := fun _ => fun
  | [d1, d2, d3, d4, d5] => { results := [.lit (.bool true)], args := [d1, d2, d3, d4, d5] }
  | _ => none }
def slotsStepRow : OpenClaim := { program := "ytgpdknacnmapiaa", sum := "47a7512d3821e867cfc320cbf225513bcde73f90362abccafd87dbc82eb908c2", func := "flume/flumelaw14.SlotsStep", spec := "slotsStep", unfollowed := true, recurses := true, apart := false }
def SlotsStepSaid : Prop := slotsStepRow.holds Try.pinned (OpenSpec.ofChange slotsStepSpec)

/-- ITS FALSE NEIGHBOUR: 'it returns false'. Refute it at one input. -/
def slotsStepWrong : ChangeSpec := { name := "slotsStep", fn := fun _ => fun
  | [d1, d2, d3, d4, d5] => { results := [.lit (.bool false)], args := [d1, d2, d3, d4, d5] }
  | _ => none }
def SlotsStepWrongFalsely : Prop := slotsStepRow.holds Try.pinned (OpenSpec.ofChange slotsStepWrong)

/-- 'flumelaw14.SlotsApart': WHATEVER THE INPUT: true; the input reads as it did. -/
def slotsApartSpec : ChangeSpec := { name := "slotsApart", fn := fun _ => fun
  | [d1, d2] => { results := [.lit (.bool true)], args := [d1, d2] }
  | _ => none }
def slotsApartRow : OpenClaim := { program := "ytgpdknacnmapiaa", sum := "47a7512d3821e867cfc320cbf225513bcde73f90362abccafd87dbc82eb908c2", func := "flume/flumelaw14.SlotsApart", spec := "slotsApart", unfollowed := true, recurses := true, apart := false }
def SlotsApartSaid : Prop := slotsApartRow.holds Try.pinned (OpenSpec.ofChange slotsApartSpec)

/-- ITS FALSE NEIGHBOUR: 'it returns false'. Refute it at one input. -/
def slotsApartWrong : ChangeSpec := { name := "slotsApart", fn := fun _ => fun
  | [d1, d2] => { results := [.lit (.bool false)], args := [d1, d2] }
  | _ => none }
def SlotsApartWrongFalsely : Prop := slotsApartRow.holds Try.pinned (OpenSpec.ofChange slotsApartWrong)

/-- 'flumelaw14.SlotsNew': WHATEVER THE INPUT: true; the input reads as it did. -/
def slotsNewSpec : ChangeSpec := { name := "slotsNew", fn := fun _ => fun
  | [d1, d2, d3, d4] => { results := [.lit (.bool true)], args := [d1, d2, d3, d4] }
  | _ => none }
def slotsNewRow : OpenClaim := { program := "ytgpdknacnmapiaa", sum := "47a7512d3821e867cfc320cbf225513bcde73f90362abccafd87dbc82eb908c2", func := "flume/flumelaw14.SlotsNew", spec := "slotsNew", unfollowed := true, recurses := true, apart := false }
def SlotsNewSaid : Prop := slotsNewRow.holds Try.pinned (OpenSpec.ofChange slotsNewSpec)

/-- ITS FALSE NEIGHBOUR: 'it returns false'. Refute it at one input. -/
def slotsNewWrong : ChangeSpec := { name := "slotsNew", fn := fun _ => fun
  | [d1, d2, d3, d4] => { results := [.lit (.bool false)], args := [d1, d2, d3, d4] }
  | _ => none }
def SlotsNewWrongFalsely : Prop := slotsNewRow.holds Try.pinned (OpenSpec.ofChange slotsNewWrong)

/-- 'flumelaw14.SlotsPlay': WHATEVER THE INPUT: true; the input reads as it did. -/
def slotsPlaySpec : ChangeSpec := { name := "slotsPlay", fn := fun _ => fun
  | [d1, d2] => { results := [.lit (.bool true)], args := [d1, d2] }
  | _ => none }
def slotsPlayRow : OpenClaim := { program := "ytgpdknacnmapiaa", sum := "47a7512d3821e867cfc320cbf225513bcde73f90362abccafd87dbc82eb908c2", func := "flume/flumelaw14.SlotsPlay", spec := "slotsPlay", unfollowed := true, recurses := true, apart := false }
def SlotsPlaySaid : Prop := slotsPlayRow.holds Try.pinned (OpenSpec.ofChange slotsPlaySpec)

/-- ITS FALSE NEIGHBOUR: 'it returns false'. Refute it at one input. -/
def slotsPlayWrong : ChangeSpec := { name := "slotsPlay", fn := fun _ => fun
  | [d1, d2] => { results := [.lit (.bool false)], args := [d1, d2] }
  | _ => none }
def SlotsPlayWrongFalsely : Prop := slotsPlayRow.holds Try.pinned (OpenSpec.ofChange slotsPlayWrong)

/- THE SECOND FORM. 'bulk': how many values and letters a reading holds, each counted each time it is reached (what is shared counts as often as it is met; a slice's spare places count too). A statement '..UptoSaid' is the law's where the arguments, and the package variables that the reading takes, are together of bulk at most 1048576: NARROWER than '..Said'. Prove '..Said' where nothing that the law and all that it calls make is longer than what came in: it says more and counts as full. Else prove '..UptoSaid'. A law counts once. -/
mutual
def uptoBulk {H : Type} : DataW H → Nat
  | .lit (.string bytes) => bytes.length + 1
  | .lit _ => 1
  | .nil => 1
  | .ptr d => uptoBulk d + 1
  | .slice elems spare => uptoBulkAll elems + uptoBulkAll spare + 1
  | .agg parts => uptoBulkAll parts + 1
  | .iface _ d => uptoBulk d + 1
  | .map entries => uptoBulkEntries entries + 1
  | .held _ => 1
def uptoBulkAll {H : Type} : List (DataW H) → Nat
  | [] => 0
  | d :: r => uptoBulk d + uptoBulkAll r
def uptoBulkEntries {H : Type} : List (Lit × DataW H) → Nat
  | [] => 0
  | x :: r => uptoBulkEntry x + uptoBulkEntries r
def uptoBulkEntry {H : Type} : Lit × DataW H → Nat
  | (.string bytes, d) => bytes.length + uptoBulk d + 1
  | (_, d) => uptoBulk d + 1
 end
def uptoSmall : (H : Type) → List (DataW H) → Bool := fun _ ds => decide (uptoBulkAll ds ≤ 1048576)
def OpenSpec.upto (s : _root_.Go.ChangeSpec) : _root_.Go.OpenSpec := { _root_.Go.OpenSpec.ofChange s with cond := some uptoSmall }

/-- 'flumelaw13.EpochHolds', WHERE WHAT IT READS IS OF BULK AT MOST 1048576: true; the input reads as it did. -/
def epochHoldsUptoRow : OpenClaim := { program := "ytgpdknacnmapiaa", sum := "47a7512d3821e867cfc320cbf225513bcde73f90362abccafd87dbc82eb908c2", func := "flume/flumelaw13.EpochHolds", spec := "epochHolds", unfollowed := true, recurses := true, apart := false, narrowed := true }
def EpochHoldsUptoSaid : Prop := epochHoldsUptoRow.holds Try.pinned (OpenSpec.upto epochHoldsSpec)

/-- 'flumelaw13.EpochAlone', WHERE WHAT IT READS IS OF BULK AT MOST 1048576: true; the input reads as it did. -/
def epochAloneUptoRow : OpenClaim := { program := "ytgpdknacnmapiaa", sum := "47a7512d3821e867cfc320cbf225513bcde73f90362abccafd87dbc82eb908c2", func := "flume/flumelaw13.EpochAlone", spec := "epochAlone", unfollowed := true, recurses := true, apart := false, narrowed := true }
def EpochAloneUptoSaid : Prop := epochAloneUptoRow.holds Try.pinned (OpenSpec.upto epochAloneSpec)

/-- 'flumelaw13.EpochGoes', WHERE WHAT IT READS IS OF BULK AT MOST 1048576: true; the input reads as it did. -/
def epochGoesUptoRow : OpenClaim := { program := "ytgpdknacnmapiaa", sum := "47a7512d3821e867cfc320cbf225513bcde73f90362abccafd87dbc82eb908c2", func := "flume/flumelaw13.EpochGoes", spec := "epochGoes", unfollowed := true, recurses := true, apart := false, narrowed := true }
def EpochGoesUptoSaid : Prop := epochGoesUptoRow.holds Try.pinned (OpenSpec.upto epochGoesSpec)

/-- 'flumelaw14.SlotsStep', WHERE WHAT IT READS IS OF BULK AT MOST 1048576: true; the input reads as it did. -/
def slotsStepUptoRow : OpenClaim := { program := "ytgpdknacnmapiaa", sum := "47a7512d3821e867cfc320cbf225513bcde73f90362abccafd87dbc82eb908c2", func := "flume/flumelaw14.SlotsStep", spec := "slotsStep", unfollowed := true, recurses := true, apart := false, narrowed := true }
def SlotsStepUptoSaid : Prop := slotsStepUptoRow.holds Try.pinned (OpenSpec.upto slotsStepSpec)

/-- 'flumelaw14.SlotsApart', WHERE WHAT IT READS IS OF BULK AT MOST 1048576: true; the input reads as it did. -/
def slotsApartUptoRow : OpenClaim := { program := "ytgpdknacnmapiaa", sum := "47a7512d3821e867cfc320cbf225513bcde73f90362abccafd87dbc82eb908c2", func := "flume/flumelaw14.SlotsApart", spec := "slotsApart", unfollowed := true, recurses := true, apart := false, narrowed := true }
def SlotsApartUptoSaid : Prop := slotsApartUptoRow.holds Try.pinned (OpenSpec.upto slotsApartSpec)

/-- 'flumelaw14.SlotsNew', WHERE WHAT IT READS IS OF BULK AT MOST 1048576: true; the input reads as it did. -/
def slotsNewUptoRow : OpenClaim := { program := "ytgpdknacnmapiaa", sum := "47a7512d3821e867cfc320cbf225513bcde73f90362abccafd87dbc82eb908c2", func := "flume/flumelaw14.SlotsNew", spec := "slotsNew", unfollowed := true, recurses := true, apart := false, narrowed := true }
def SlotsNewUptoSaid : Prop := slotsNewUptoRow.holds Try.pinned (OpenSpec.upto slotsNewSpec)

/-- 'flumelaw14.SlotsPlay', WHERE WHAT IT READS IS OF BULK AT MOST 1048576: true; the input reads as it did. -/
def slotsPlayUptoRow : OpenClaim := { program := "ytgpdknacnmapiaa", sum := "47a7512d3821e867cfc320cbf225513bcde73f90362abccafd87dbc82eb908c2", func := "flume/flumelaw14.SlotsPlay", spec := "slotsPlay", unfollowed := true, recurses := true, apart := false, narrowed := true }
def SlotsPlayUptoSaid : Prop := slotsPlayUptoRow.holds Try.pinned (OpenSpec.upto slotsPlaySpec)

end Rows
end Go.Proofs.Ytgpdknacnmapiaa
