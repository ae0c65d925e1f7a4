/-
  No cell of these rows narrows 'for every input' (looked for: loops, veiled, ifaces, maps, wideKeys, modest, calm, conditions, laid).
  DERIVED. THE GIVEN ROWS OF THIS SEAT. 4 by the template 'for every input the law returns true; each argument reads behind the call as it read before'; 0 by the template 'total and deterministic' (their statements: YtckpgbimbgjcoaaTotals.lean).
  GIVEN WITH THE SEED: the statements are not yours to turn. If you find one false, say at which input.
  Laid BY PROGRAM, IN A SANDBOX (cutbox-rows.mjs): the forced cells as the released guide's own fill.sh prints them over the translation b09a50d8812f9e78… (all of the seat's roots in one cut). By AI agents, Wed Nov 11 2026. No macro, syntax, notation, axiom, sorry.
-/
import Derived.Test.YtckpgbimbgjcoaaChecked
import GoSem.Claim
import GoSem.ClaimJoined
import GoSem.ClaimMapViews
import Derived.JoinedTies
import Derived.KernelRfl
namespace Go.Proofs.Ytckpgbimbgjcoaa
/- THE CELL 'sum', in the pinned program and in every row, IS THE sha256 OF THE DUMP (.gsa) THAT YtckpgbimbgjcoaaProg.lean LOADS. Nothing in Lean hashes anything: it is a label: what it is worth is what the hold of that sum in a sandbox is worth. -/
noncomputable def Try.pinned : Pinned := { name := "ytckpgbimbgjcoaa", sum := "b09a50d8812f9e78d16ca93fef74a5b8210ea6d039d39c758420e76b618e0673", checked := Try.checked }
namespace Rows
def none {H : Type} : Left H := { results := [], args := [] }

/-- 'laws.FnAgreement': WHATEVER THE INPUT: true; the input reads as it did. -/
def fnAgreementSpec : ChangeSpec := { name := "fnAgreement", fn := fun _ => fun
  | [d] => { results := [.lit (.bool true)], args := [d] }
  | _ => none }
def fnAgreementRow : OpenClaim := { program := "ytckpgbimbgjcoaa", sum := "b09a50d8812f9e78d16ca93fef74a5b8210ea6d039d39c758420e76b618e0673", func := "loop.example/g00876/laws.FnAgreement", spec := "fnAgreement", unfollowed := true, recurses := true, apart := false }
def FnAgreementSaid : Prop := fnAgreementRow.holds Try.pinned (OpenSpec.ofChange fnAgreementSpec)

/-- ITS FALSE NEIGHBOUR: 'it returns false'. Refute it at one input. -/
def fnAgreementWrong : ChangeSpec := { name := "fnAgreement", fn := fun _ => fun
  | [d] => { results := [.lit (.bool false)], args := [d] }
  | _ => none }
def FnAgreementWrongFalsely : Prop := fnAgreementRow.holds Try.pinned (OpenSpec.ofChange fnAgreementWrong)

/-- 'laws.FnCalibration': WHATEVER THE INPUT: true; the input reads as it did. -/
def fnCalibrationSpec : ChangeSpec := { name := "fnCalibration", fn := fun _ => fun
  | [d] => { results := [.lit (.bool true)], args := [d] }
  | _ => none }
def fnCalibrationRow : OpenClaim := { program := "ytckpgbimbgjcoaa", sum := "b09a50d8812f9e78d16ca93fef74a5b8210ea6d039d39c758420e76b618e0673", func := "loop.example/g00876/laws.FnCalibration", spec := "fnCalibration", unfollowed := true, recurses := true, apart := false }
def FnCalibrationSaid : Prop := fnCalibrationRow.holds Try.pinned (OpenSpec.ofChange fnCalibrationSpec)

/-- ITS FALSE NEIGHBOUR: 'it returns false'. Refute it at one input. -/
def fnCalibrationWrong : ChangeSpec := { name := "fnCalibration", fn := fun _ => fun
  | [d] => { results := [.lit (.bool false)], args := [d] }
  | _ => none }
def FnCalibrationWrongFalsely : Prop := fnCalibrationRow.holds Try.pinned (OpenSpec.ofChange fnCalibrationWrong)

/-- 'laws.FnModels': WHATEVER THE INPUT: true; the input reads as it did. -/
def fnModelsSpec : ChangeSpec := { name := "fnModels", fn := fun _ => fun
  | [d] => { results := [.lit (.bool true)], args := [d] }
  | _ => none }
def fnModelsRow : OpenClaim := { program := "ytckpgbimbgjcoaa", sum := "b09a50d8812f9e78d16ca93fef74a5b8210ea6d039d39c758420e76b618e0673", func := "loop.example/g00876/laws.FnModels", spec := "fnModels", unfollowed := true, recurses := true, apart := false }
def FnModelsSaid : Prop := fnModelsRow.holds Try.pinned (OpenSpec.ofChange fnModelsSpec)

/-- ITS FALSE NEIGHBOUR: 'it returns false'. Refute it at one input. -/
def fnModelsWrong : ChangeSpec := { name := "fnModels", fn := fun _ => fun
  | [d] => { results := [.lit (.bool false)], args := [d] }
  | _ => none }
def FnModelsWrongFalsely : Prop := fnModelsRow.holds Try.pinned (OpenSpec.ofChange fnModelsWrong)

/-- 'laws.FnOutliers': WHATEVER THE INPUT: true; the input reads as it did. -/
def fnOutliersSpec : ChangeSpec := { name := "fnOutliers", fn := fun _ => fun
  | [d] => { results := [.lit (.bool true)], args := [d] }
  | _ => none }
def fnOutliersRow : OpenClaim := { program := "ytckpgbimbgjcoaa", sum := "b09a50d8812f9e78d16ca93fef74a5b8210ea6d039d39c758420e76b618e0673", func := "loop.example/g00876/laws.FnOutliers", spec := "fnOutliers", unfollowed := true, recurses := true, named := ["math/bits.divideError", "math/bits.overflowError"], apart := false }
def FnOutliersSaid : Prop := fnOutliersRow.holds Try.pinned (OpenSpec.ofChange fnOutliersSpec)

/-- ITS FALSE NEIGHBOUR: 'it returns false'. Refute it at one input. -/
def fnOutliersWrong : ChangeSpec := { name := "fnOutliers", fn := fun _ => fun
  | [d] => { results := [.lit (.bool false)], args := [d] }
  | _ => none }
def FnOutliersWrongFalsely : Prop := fnOutliersRow.holds Try.pinned (OpenSpec.ofChange fnOutliersWrong)

/- THE SECOND FORM. 'bulk': how many values and letters a reading holds, each counted each time it is reached (what is shared counts as often as it is met; a slice's spare places count too). A statement '..UptoSaid' is the law's where the arguments, and the package variables that the reading takes, are together of bulk at most 1048576: NARROWER than '..Said'. Prove '..Said' where nothing that the law and all that it calls make is longer than what came in: it says more and counts as full. Else prove '..UptoSaid'. A law counts once. -/
mutual
def uptoBulk {H : Type} : DataW H → Nat
  | .lit (.string bytes) => bytes.length + 1
  | .lit _ => 1
  | .nil => 1
  | .ptr d => uptoBulk d + 1
  | .slice elems spare => uptoBulkAll elems + uptoBulkAll spare + 1
  | .agg parts => uptoBulkAll parts + 1
  | .iface _ d => uptoBulk d + 1
  | .map entries => uptoBulkEntries entries + 1
  | .held _ => 1
def uptoBulkAll {H : Type} : List (DataW H) → Nat
  | [] => 0
  | d :: r => uptoBulk d + uptoBulkAll r
def uptoBulkEntries {H : Type} : List (Lit × DataW H) → Nat
  | [] => 0
  | x :: r => uptoBulkEntry x + uptoBulkEntries r
def uptoBulkEntry {H : Type} : Lit × DataW H → Nat
  | (.string bytes, d) => bytes.length + uptoBulk d + 1
  | (_, d) => uptoBulk d + 1
 end
def uptoSmall : (H : Type) → List (DataW H) → Bool := fun _ ds => decide (uptoBulkAll ds ≤ 1048576)
def OpenSpec.upto (s : _root_.Go.ChangeSpec) : _root_.Go.OpenSpec := { _root_.Go.OpenSpec.ofChange s with cond := some uptoSmall }

/-- 'laws.FnAgreement', WHERE WHAT IT READS IS OF BULK AT MOST 1048576: true; the input reads as it did. -/
def fnAgreementUptoRow : OpenClaim := { program := "ytckpgbimbgjcoaa", sum := "b09a50d8812f9e78d16ca93fef74a5b8210ea6d039d39c758420e76b618e0673", func := "loop.example/g00876/laws.FnAgreement", spec := "fnAgreement", unfollowed := true, recurses := true, apart := false, narrowed := true }
def FnAgreementUptoSaid : Prop := fnAgreementUptoRow.holds Try.pinned (OpenSpec.upto fnAgreementSpec)

/-- 'laws.FnCalibration', WHERE WHAT IT READS IS OF BULK AT MOST 1048576: true; the input reads as it did. -/
def fnCalibrationUptoRow : OpenClaim := { program := "ytckpgbimbgjcoaa", sum := "b09a50d8812f9e78d16ca93fef74a5b8210ea6d039d39c758420e76b618e0673", func := "loop.example/g00876/laws.FnCalibration", spec := "fnCalibration", unfollowed := true, recurses := true, apart := false, narrowed := true }
def FnCalibrationUptoSaid : Prop := fnCalibrationUptoRow.holds Try.pinned (OpenSpec.upto fnCalibrationSpec)

/-- 'laws.FnModels', WHERE WHAT IT READS IS OF BULK AT MOST 1048576: true; the input reads as it did. -/
def fnModelsUptoRow : OpenClaim := { program := "ytckpgbimbgjcoaa", sum := "b09a50d8812f9e78d16ca93fef74a5b8210ea6d039d39c758420e76b618e0673", func := "loop.example/g00876/laws.FnModels", spec := "fnModels", unfollowed := true, recurses := true, apart := false, narrowed := true }
def FnModelsUptoSaid : Prop := fnModelsUptoRow.holds Try.pinned (OpenSpec.upto fnModelsSpec)

/-- 'laws.FnOutliers', WHERE WHAT IT READS IS OF BULK AT MOST 1048576: true; the input reads as it did. -/
def fnOutliersUptoRow : OpenClaim := { program := "ytckpgbimbgjcoaa", sum := "b09a50d8812f9e78d16ca93fef74a5b8210ea6d039d39c758420e76b618e0673", func := "loop.example/g00876/laws.FnOutliers", spec := "fnOutliers", unfollowed := true, recurses := true, named := ["math/bits.divideError", "math/bits.overflowError"], apart := false, narrowed := true }
def FnOutliersUptoSaid : Prop := fnOutliersUptoRow.holds Try.pinned (OpenSpec.upto fnOutliersSpec)

end Rows
end Go.Proofs.Ytckpgbimbgjcoaa
