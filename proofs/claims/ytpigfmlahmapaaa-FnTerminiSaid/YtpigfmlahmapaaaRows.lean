/-
  No cell of these rows narrows 'for every input' (looked for: loops, veiled, ifaces, maps, wideKeys, modest, calm, conditions, laid).
  DERIVED. THE GIVEN ROWS OF THIS SEAT. 8 by the template 'for every input the law returns true; each argument reads behind the call as it read before'; 0 by the template 'total and deterministic' (their statements: YtpigfmlahmapaaaTotals.lean).
  GIVEN WITH THE SEED: the statements are not yours to turn. If you find one false, say at which input.
  Laid BY PROGRAM, IN A SANDBOX (cutbox-rows.mjs): the forced cells as the released guide's own fill.sh prints them over the translation ddee728421898430… (all of the seat's roots in one cut). By AI agents, Wed Nov 11 2026. No macro, syntax, notation, axiom, sorry.
-/
import Derived.Test.YtpigfmlahmapaaaChecked
import GoSem.Claim
import GoSem.ClaimJoined
import GoSem.ClaimMapViews
import Derived.JoinedTies
import Derived.KernelRfl
namespace Go.Proofs.Ytpigfmlahmapaaa
/- THE CELL 'sum', in the pinned program and in every row, IS THE sha256 OF THE DUMP (.gsa) THAT YtpigfmlahmapaaaProg.lean LOADS. Nothing in Lean hashes anything: it is a label: what it is worth is what the hold of that sum in a sandbox is worth. -/
noncomputable def Try.pinned : Pinned := { name := "ytpigfmlahmapaaa", sum := "ddee728421898430f20871bcb7e1042bde8b05bfe0f955cd34376ce0042c42ec", checked := Try.checked }
namespace Rows
def none {H : Type} : Left H := { results := [], args := [] }

/-- 'laws.FnCurves': WHATEVER THE INPUT: true; the input reads as it did. -/
def fnCurvesSpec : ChangeSpec := { name := "fnCurves", fn := fun _ => fun
  | [d] => { results := [.lit (.bool true)], args := [d] }
  | _ => none }
def fnCurvesRow : OpenClaim := { program := "ytpigfmlahmapaaa", sum := "ddee728421898430f20871bcb7e1042bde8b05bfe0f955cd34376ce0042c42ec", func := "loop.example/g00876/laws.FnCurves", spec := "fnCurves", recurses := true, apart := false }
def FnCurvesSaid : Prop := fnCurvesRow.holds Try.pinned (OpenSpec.ofChange fnCurvesSpec)

/-- ITS FALSE NEIGHBOUR: 'it returns false'. Refute it at one input. -/
def fnCurvesWrong : ChangeSpec := { name := "fnCurves", fn := fun _ => fun
  | [d] => { results := [.lit (.bool false)], args := [d] }
  | _ => none }
def FnCurvesWrongFalsely : Prop := fnCurvesRow.holds Try.pinned (OpenSpec.ofChange fnCurvesWrong)

/-- 'laws.FnQuantiles': WHATEVER THE INPUT: true; the input reads as it did. -/
def fnQuantilesSpec : ChangeSpec := { name := "fnQuantiles", fn := fun _ => fun
  | [d] => { results := [.lit (.bool true)], args := [d] }
  | _ => none }
def fnQuantilesRow : OpenClaim := { program := "ytpigfmlahmapaaa", sum := "ddee728421898430f20871bcb7e1042bde8b05bfe0f955cd34376ce0042c42ec", func := "loop.example/g00876/laws.FnQuantiles", spec := "fnQuantiles", unfollowed := true, recurses := true, apart := false }
def FnQuantilesSaid : Prop := fnQuantilesRow.holds Try.pinned (OpenSpec.ofChange fnQuantilesSpec)

/-- ITS FALSE NEIGHBOUR: 'it returns false'. Refute it at one input. -/
def fnQuantilesWrong : ChangeSpec := { name := "fnQuantiles", fn := fun _ => fun
  | [d] => { results := [.lit (.bool false)], args := [d] }
  | _ => none }
def FnQuantilesWrongFalsely : Prop := fnQuantilesRow.holds Try.pinned (OpenSpec.ofChange fnQuantilesWrong)

/-- 'laws.FnWeights': WHATEVER THE INPUT: true; the input reads as it did. -/
def fnWeightsSpec : ChangeSpec := { name := "fnWeights", fn := fun _ => fun
  | [d] => { results := [.lit (.bool true)], args := [d] }
  | _ => none }
def fnWeightsRow : OpenClaim := { program := "ytpigfmlahmapaaa", sum := "ddee728421898430f20871bcb7e1042bde8b05bfe0f955cd34376ce0042c42ec", func := "loop.example/g00876/laws.FnWeights", spec := "fnWeights", unfollowed := true, recurses := true, apart := false }
def FnWeightsSaid : Prop := fnWeightsRow.holds Try.pinned (OpenSpec.ofChange fnWeightsSpec)

/-- ITS FALSE NEIGHBOUR: 'it returns false'. Refute it at one input. -/
def fnWeightsWrong : ChangeSpec := { name := "fnWeights", fn := fun _ => fun
  | [d] => { results := [.lit (.bool false)], args := [d] }
  | _ => none }
def FnWeightsWrongFalsely : Prop := fnWeightsRow.holds Try.pinned (OpenSpec.ofChange fnWeightsWrong)

/-- 'laws.FnCombining': WHATEVER THE INPUT: true; the input reads as it did. -/
def fnCombiningSpec : ChangeSpec := { name := "fnCombining", fn := fun _ => fun
  | [d] => { results := [.lit (.bool true)], args := [d] }
  | _ => none }
def fnCombiningRow : OpenClaim := { program := "ytpigfmlahmapaaa", sum := "ddee728421898430f20871bcb7e1042bde8b05bfe0f955cd34376ce0042c42ec", func := "loop.example/g00876/laws.FnCombining", spec := "fnCombining", unfollowed := true, recurses := true, apart := false }
def FnCombiningSaid : Prop := fnCombiningRow.holds Try.pinned (OpenSpec.ofChange fnCombiningSpec)

/-- ITS FALSE NEIGHBOUR: 'it returns false'. Refute it at one input. -/
def fnCombiningWrong : ChangeSpec := { name := "fnCombining", fn := fun _ => fun
  | [d] => { results := [.lit (.bool false)], args := [d] }
  | _ => none }
def FnCombiningWrongFalsely : Prop := fnCombiningRow.holds Try.pinned (OpenSpec.ofChange fnCombiningWrong)

/-- 'laws.FnCalibration': WHATEVER THE INPUT: true; the input reads as it did. -/
def fnCalibrationSpec : ChangeSpec := { name := "fnCalibration", fn := fun _ => fun
  | [d] => { results := [.lit (.bool true)], args := [d] }
  | _ => none }
def fnCalibrationRow : OpenClaim := { program := "ytpigfmlahmapaaa", sum := "ddee728421898430f20871bcb7e1042bde8b05bfe0f955cd34376ce0042c42ec", func := "loop.example/g00876/laws.FnCalibration", spec := "fnCalibration", unfollowed := true, recurses := true, apart := false }
def FnCalibrationSaid : Prop := fnCalibrationRow.holds Try.pinned (OpenSpec.ofChange fnCalibrationSpec)

/-- ITS FALSE NEIGHBOUR: 'it returns false'. Refute it at one input. -/
def fnCalibrationWrong : ChangeSpec := { name := "fnCalibration", fn := fun _ => fun
  | [d] => { results := [.lit (.bool false)], args := [d] }
  | _ => none }
def FnCalibrationWrongFalsely : Prop := fnCalibrationRow.holds Try.pinned (OpenSpec.ofChange fnCalibrationWrong)

/-- 'laws.FnTermini': WHATEVER THE INPUT: true; the input reads as it did. -/
def fnTerminiSpec : ChangeSpec := { name := "fnTermini", fn := fun _ => fun
  | [d] => { results := [.lit (.bool true)], args := [d] }
  | _ => none }
def fnTerminiRow : OpenClaim := { program := "ytpigfmlahmapaaa", sum := "ddee728421898430f20871bcb7e1042bde8b05bfe0f955cd34376ce0042c42ec", func := "loop.example/g00876/laws.FnTermini", spec := "fnTermini", unfollowed := true, recurses := true, apart := false }
def FnTerminiSaid : Prop := fnTerminiRow.holds Try.pinned (OpenSpec.ofChange fnTerminiSpec)

/-- ITS FALSE NEIGHBOUR: 'it returns false'. Refute it at one input. -/
def fnTerminiWrong : ChangeSpec := { name := "fnTermini", fn := fun _ => fun
  | [d] => { results := [.lit (.bool false)], args := [d] }
  | _ => none }
def FnTerminiWrongFalsely : Prop := fnTerminiRow.holds Try.pinned (OpenSpec.ofChange fnTerminiWrong)

/-- 'laws.FnModels': WHATEVER THE INPUT: true; the input reads as it did. -/
def fnModelsSpec : ChangeSpec := { name := "fnModels", fn := fun _ => fun
  | [d] => { results := [.lit (.bool true)], args := [d] }
  | _ => none }
def fnModelsRow : OpenClaim := { program := "ytpigfmlahmapaaa", sum := "ddee728421898430f20871bcb7e1042bde8b05bfe0f955cd34376ce0042c42ec", func := "loop.example/g00876/laws.FnModels", spec := "fnModels", unfollowed := true, recurses := true, apart := false }
def FnModelsSaid : Prop := fnModelsRow.holds Try.pinned (OpenSpec.ofChange fnModelsSpec)

/-- ITS FALSE NEIGHBOUR: 'it returns false'. Refute it at one input. -/
def fnModelsWrong : ChangeSpec := { name := "fnModels", fn := fun _ => fun
  | [d] => { results := [.lit (.bool false)], args := [d] }
  | _ => none }
def FnModelsWrongFalsely : Prop := fnModelsRow.holds Try.pinned (OpenSpec.ofChange fnModelsWrong)

/-- 'laws.FnOutliers': WHATEVER THE INPUT: true; the input reads as it did. -/
def fnOutliersSpec : ChangeSpec := { name := "fnOutliers", fn := fun _ => fun
  | [d] => { results := [.lit (.bool true)], args := [d] }
  | _ => none }
def fnOutliersRow : OpenClaim := { program := "ytpigfmlahmapaaa", sum := "ddee728421898430f20871bcb7e1042bde8b05bfe0f955cd34376ce0042c42ec", func := "loop.example/g00876/laws.FnOutliers", spec := "fnOutliers", unfollowed := true, recurses := true, named := ["math/bits.divideError", "math/bits.overflowError"], apart := false }
def FnOutliersSaid : Prop := fnOutliersRow.holds Try.pinned (OpenSpec.ofChange fnOutliersSpec)

/-- ITS FALSE NEIGHBOUR: 'it returns false'. Refute it at one input. -/
def fnOutliersWrong : ChangeSpec := { name := "fnOutliers", fn := fun _ => fun
  | [d] => { results := [.lit (.bool false)], args := [d] }
  | _ => none }
def FnOutliersWrongFalsely : Prop := fnOutliersRow.holds Try.pinned (OpenSpec.ofChange fnOutliersWrong)

/- THE SECOND FORM. 'bulk': how many values and letters a reading holds, each counted each time it is reached (what is shared counts as often as it is met; a slice's spare places count too). A statement '..UptoSaid' is the law's where the arguments, and the package variables that the reading takes, are together of bulk at most 1048576: NARROWER than '..Said'. Prove '..Said' where nothing that the law and all that it calls make is longer than what came in: it says more and counts as full. Else prove '..UptoSaid'. A law counts once. -/
mutual
def uptoBulk {H : Type} : DataW H → Nat
  | .lit (.string bytes) => bytes.length + 1
  | .lit _ => 1
  | .nil => 1
  | .ptr d => uptoBulk d + 1
  | .slice elems spare => uptoBulkAll elems + uptoBulkAll spare + 1
  | .agg parts => uptoBulkAll parts + 1
  | .iface _ d => uptoBulk d + 1
  | .map entries => uptoBulkEntries entries + 1
  | .held _ => 1
def uptoBulkAll {H : Type} : List (DataW H) → Nat
  | [] => 0
  | d :: r => uptoBulk d + uptoBulkAll r
def uptoBulkEntries {H : Type} : List (Lit × DataW H) → Nat
  | [] => 0
  | x :: r => uptoBulkEntry x + uptoBulkEntries r
def uptoBulkEntry {H : Type} : Lit × DataW H → Nat
  | (.string bytes, d) => bytes.length + uptoBulk d + 1
  | (_, d) => uptoBulk d + 1
 end
def uptoSmall : (H : Type) → List (DataW H) → Bool := fun _ ds => decide (uptoBulkAll ds ≤ 1048576)
def OpenSpec.upto (s : _root_.Go.ChangeSpec) : _root_.Go.OpenSpec := { _root_.Go.OpenSpec.ofChange s with cond := some uptoSmall }

/-- 'laws.FnCurves', WHERE WHAT IT READS IS OF BULK AT MOST 1048576: true; the input reads as it did. -/
def fnCurvesUptoRow : OpenClaim := { program := "ytpigfmlahmapaaa", sum := "ddee728421898430f20871bcb7e1042bde8b05bfe0f955cd34376ce0042c42ec", func := "loop.example/g00876/laws.FnCurves", spec := "fnCurves", recurses := true, apart := false, narrowed := true }
def FnCurvesUptoSaid : Prop := fnCurvesUptoRow.holds Try.pinned (OpenSpec.upto fnCurvesSpec)

/-- 'laws.FnQuantiles', WHERE WHAT IT READS IS OF BULK AT MOST 1048576: true; the input reads as it did. -/
def fnQuantilesUptoRow : OpenClaim := { program := "ytpigfmlahmapaaa", sum := "ddee728421898430f20871bcb7e1042bde8b05bfe0f955cd34376ce0042c42ec", func := "loop.example/g00876/laws.FnQuantiles", spec := "fnQuantiles", unfollowed := true, recurses := true, apart := false, narrowed := true }
def FnQuantilesUptoSaid : Prop := fnQuantilesUptoRow.holds Try.pinned (OpenSpec.upto fnQuantilesSpec)

/-- 'laws.FnWeights', WHERE WHAT IT READS IS OF BULK AT MOST 1048576: true; the input reads as it did. -/
def fnWeightsUptoRow : OpenClaim := { program := "ytpigfmlahmapaaa", sum := "ddee728421898430f20871bcb7e1042bde8b05bfe0f955cd34376ce0042c42ec", func := "loop.example/g00876/laws.FnWeights", spec := "fnWeights", unfollowed := true, recurses := true, apart := false, narrowed := true }
def FnWeightsUptoSaid : Prop := fnWeightsUptoRow.holds Try.pinned (OpenSpec.upto fnWeightsSpec)

/-- 'laws.FnCombining', WHERE WHAT IT READS IS OF BULK AT MOST 1048576: true; the input reads as it did. -/
def fnCombiningUptoRow : OpenClaim := { program := "ytpigfmlahmapaaa", sum := "ddee728421898430f20871bcb7e1042bde8b05bfe0f955cd34376ce0042c42ec", func := "loop.example/g00876/laws.FnCombining", spec := "fnCombining", unfollowed := true, recurses := true, apart := false, narrowed := true }
def FnCombiningUptoSaid : Prop := fnCombiningUptoRow.holds Try.pinned (OpenSpec.upto fnCombiningSpec)

/-- 'laws.FnCalibration', WHERE WHAT IT READS IS OF BULK AT MOST 1048576: true; the input reads as it did. -/
def fnCalibrationUptoRow : OpenClaim := { program := "ytpigfmlahmapaaa", sum := "ddee728421898430f20871bcb7e1042bde8b05bfe0f955cd34376ce0042c42ec", func := "loop.example/g00876/laws.FnCalibration", spec := "fnCalibration", unfollowed := true, recurses := true, apart := false, narrowed := true }
def FnCalibrationUptoSaid : Prop := fnCalibrationUptoRow.holds Try.pinned (OpenSpec.upto fnCalibrationSpec)

/-- 'laws.FnTermini', WHERE WHAT IT READS IS OF BULK AT MOST 1048576: true; the input reads as it did. -/
def fnTerminiUptoRow : OpenClaim := { program := "ytpigfmlahmapaaa", sum := "ddee728421898430f20871bcb7e1042bde8b05bfe0f955cd34376ce0042c42ec", func := "loop.example/g00876/laws.FnTermini", spec := "fnTermini", unfollowed := true, recurses := true, apart := false, narrowed := true }
def FnTerminiUptoSaid : Prop := fnTerminiUptoRow.holds Try.pinned (OpenSpec.upto fnTerminiSpec)

/-- 'laws.FnModels', WHERE WHAT IT READS IS OF BULK AT MOST 1048576: true; the input reads as it did. -/
def fnModelsUptoRow : OpenClaim := { program := "ytpigfmlahmapaaa", sum := "ddee728421898430f20871bcb7e1042bde8b05bfe0f955cd34376ce0042c42ec", func := "loop.example/g00876/laws.FnModels", spec := "fnModels", unfollowed := true, recurses := true, apart := false, narrowed := true }
def FnModelsUptoSaid : Prop := fnModelsUptoRow.holds Try.pinned (OpenSpec.upto fnModelsSpec)

/-- 'laws.FnOutliers', WHERE WHAT IT READS IS OF BULK AT MOST 1048576: true; the input reads as it did. -/
def fnOutliersUptoRow : OpenClaim := { program := "ytpigfmlahmapaaa", sum := "ddee728421898430f20871bcb7e1042bde8b05bfe0f955cd34376ce0042c42ec", func := "loop.example/g00876/laws.FnOutliers", spec := "fnOutliers", unfollowed := true, recurses := true, named := ["math/bits.divideError", "math/bits.overflowError"], apart := false, narrowed := true }
def FnOutliersUptoSaid : Prop := fnOutliersUptoRow.holds Try.pinned (OpenSpec.upto fnOutliersSpec)

end Rows
end Go.Proofs.Ytpigfmlahmapaaa
