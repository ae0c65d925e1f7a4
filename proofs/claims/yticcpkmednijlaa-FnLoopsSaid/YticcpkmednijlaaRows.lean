/-
  No cell of these rows narrows 'for every input' (looked for: loops, veiled, ifaces, maps, wideKeys, modest, calm, conditions, laid).
  DERIVED. THE GIVEN ROWS OF THIS SEAT. 12 by the template 'for every input the law returns true; each argument reads behind the call as it read before'; 0 by the template 'total and deterministic' (their statements: YticcpkmednijlaaTotals.lean).
  GIVEN WITH THE SEED: the statements are not yours to turn. If you find one false, say at which input.
  Laid BY PROGRAM, IN A SANDBOX (cutbox-rows.mjs): the forced cells as the released guide's own fill.sh prints them over the translation 975731903a3b788f… (all of the seat's roots in one cut). By AI agents, Wed Nov 11 2026. No macro, syntax, notation, axiom, sorry.
-/
import Derived.Test.YticcpkmednijlaaChecked
import GoSem.Claim
import GoSem.ClaimJoined
import GoSem.ClaimMapViews
import Derived.JoinedTies
import Derived.KernelRfl
namespace Go.Proofs.Yticcpkmednijlaa
/- THE CELL 'sum', in the pinned program and in every row, IS THE sha256 OF THE DUMP (.gsa) THAT YticcpkmednijlaaProg.lean LOADS. Nothing in Lean hashes anything: it is a label: what it is worth is what the hold of that sum in a sandbox is worth. -/
noncomputable def Try.pinned : Pinned := { name := "yticcpkmednijlaa", sum := "975731903a3b788f5237591a4a0ad253b7cdebc509597161fcfb733b0b3fdb83", checked := Try.checked }
namespace Rows
def none {H : Type} : Left H := { results := [], args := [] }

/-- 'laws.FnExactLoopClosure': WHATEVER THE INPUT: true; the input reads as it did. -/
def fnExactLoopClosureSpec : ChangeSpec := { name := "fnExactLoopClosure", fn := fun _ => fun
  | [d1, d2, d3] => { results := [.lit (.bool true)], args := [d1, d2, d3] }
  | _ => none }
def fnExactLoopClosureRow : OpenClaim := { program := "yticcpkmednijlaa", sum := "975731903a3b788f5237591a4a0ad253b7cdebc509597161fcfb733b0b3fdb83", func := "loop.example/g00876/laws.FnExactLoopClosure", spec := "fnExactLoopClosure", unfollowed := true, recurses := true, apart := false }
def FnExactLoopClosureSaid : Prop := fnExactLoopClosureRow.holds Try.pinned (OpenSpec.ofChange fnExactLoopClosureSpec)

/-- ITS FALSE NEIGHBOUR: 'it returns false'. Refute it at one input. -/
def fnExactLoopClosureWrong : ChangeSpec := { name := "fnExactLoopClosure", fn := fun _ => fun
  | [d1, d2, d3] => { results := [.lit (.bool false)], args := [d1, d2, d3] }
  | _ => none }
def FnExactLoopClosureWrongFalsely : Prop := fnExactLoopClosureRow.holds Try.pinned (OpenSpec.ofChange fnExactLoopClosureWrong)

/-- 'laws.FnExactIsValidPolygon': WHATEVER THE INPUT: true; the input reads as it did. -/
def fnExactIsValidPolygonSpec : ChangeSpec := { name := "fnExactIsValidPolygon", fn := fun _ => fun
  | [d] => { results := [.lit (.bool true)], args := [d] }
  | _ => none }
def fnExactIsValidPolygonRow : OpenClaim := { program := "yticcpkmednijlaa", sum := "975731903a3b788f5237591a4a0ad253b7cdebc509597161fcfb733b0b3fdb83", func := "loop.example/g00876/laws.FnExactIsValidPolygon", spec := "fnExactIsValidPolygon", unfollowed := true, recurses := true, apart := false }
def FnExactIsValidPolygonSaid : Prop := fnExactIsValidPolygonRow.holds Try.pinned (OpenSpec.ofChange fnExactIsValidPolygonSpec)

/-- ITS FALSE NEIGHBOUR: 'it returns false'. Refute it at one input. -/
def fnExactIsValidPolygonWrong : ChangeSpec := { name := "fnExactIsValidPolygon", fn := fun _ => fun
  | [d] => { results := [.lit (.bool false)], args := [d] }
  | _ => none }
def FnExactIsValidPolygonWrongFalsely : Prop := fnExactIsValidPolygonRow.holds Try.pinned (OpenSpec.ofChange fnExactIsValidPolygonWrong)

/-- 'laws.FnTraverses': WHATEVER THE INPUT: true; the input reads as it did. -/
def fnTraversesSpec : ChangeSpec := { name := "fnTraverses", fn := fun _ => fun
  | [d] => { results := [.lit (.bool true)], args := [d] }
  | _ => none }
def fnTraversesRow : OpenClaim := { program := "yticcpkmednijlaa", sum := "975731903a3b788f5237591a4a0ad253b7cdebc509597161fcfb733b0b3fdb83", func := "loop.example/g00876/laws.FnTraverses", spec := "fnTraverses", apart := false }
def FnTraversesSaid : Prop := fnTraversesRow.holds Try.pinned (OpenSpec.ofChange fnTraversesSpec)

/-- ITS FALSE NEIGHBOUR: 'it returns false'. Refute it at one input. -/
def fnTraversesWrong : ChangeSpec := { name := "fnTraverses", fn := fun _ => fun
  | [d] => { results := [.lit (.bool false)], args := [d] }
  | _ => none }
def FnTraversesWrongFalsely : Prop := fnTraversesRow.holds Try.pinned (OpenSpec.ofChange fnTraversesWrong)

/-- 'laws.FnExactAdjustTraverse': WHATEVER THE INPUT: true; the input reads as it did. -/
def fnExactAdjustTraverseSpec : ChangeSpec := { name := "fnExactAdjustTraverse", fn := fun _ => fun
  | [d1, d2, d3] => { results := [.lit (.bool true)], args := [d1, d2, d3] }
  | _ => none }
def fnExactAdjustTraverseRow : OpenClaim := { program := "yticcpkmednijlaa", sum := "975731903a3b788f5237591a4a0ad253b7cdebc509597161fcfb733b0b3fdb83", func := "loop.example/g00876/laws.FnExactAdjustTraverse", spec := "fnExactAdjustTraverse", apart := false }
def FnExactAdjustTraverseSaid : Prop := fnExactAdjustTraverseRow.holds Try.pinned (OpenSpec.ofChange fnExactAdjustTraverseSpec)

/-- ITS FALSE NEIGHBOUR: 'it returns false'. Refute it at one input. -/
def fnExactAdjustTraverseWrong : ChangeSpec := { name := "fnExactAdjustTraverse", fn := fun _ => fun
  | [d1, d2, d3] => { results := [.lit (.bool false)], args := [d1, d2, d3] }
  | _ => none }
def FnExactAdjustTraverseWrongFalsely : Prop := fnExactAdjustTraverseRow.holds Try.pinned (OpenSpec.ofChange fnExactAdjustTraverseWrong)

/-- 'laws.FnExactBoundingBox': WHATEVER THE INPUT: true; the input reads as it did. -/
def fnExactBoundingBoxSpec : ChangeSpec := { name := "fnExactBoundingBox", fn := fun _ => fun
  | [d] => { results := [.lit (.bool true)], args := [d] }
  | _ => none }
def fnExactBoundingBoxRow : OpenClaim := { program := "yticcpkmednijlaa", sum := "975731903a3b788f5237591a4a0ad253b7cdebc509597161fcfb733b0b3fdb83", func := "loop.example/g00876/laws.FnExactBoundingBox", spec := "fnExactBoundingBox", unfollowed := true, recurses := true, apart := false }
def FnExactBoundingBoxSaid : Prop := fnExactBoundingBoxRow.holds Try.pinned (OpenSpec.ofChange fnExactBoundingBoxSpec)

/-- ITS FALSE NEIGHBOUR: 'it returns false'. Refute it at one input. -/
def fnExactBoundingBoxWrong : ChangeSpec := { name := "fnExactBoundingBox", fn := fun _ => fun
  | [d] => { results := [.lit (.bool false)], args := [d] }
  | _ => none }
def FnExactBoundingBoxWrongFalsely : Prop := fnExactBoundingBoxRow.holds Try.pinned (OpenSpec.ofChange fnExactBoundingBoxWrong)

/-- 'laws.FnExactSpanningHeights': WHATEVER THE INPUT: true; the input reads as it did. -/
def fnExactSpanningHeightsSpec : ChangeSpec := { name := "fnExactSpanningHeights", fn := fun _ => fun
  | [d1, d2, d3] => { results := [.lit (.bool true)], args := [d1, d2, d3] }
  | _ => none }
def fnExactSpanningHeightsRow : OpenClaim := { program := "yticcpkmednijlaa", sum := "975731903a3b788f5237591a4a0ad253b7cdebc509597161fcfb733b0b3fdb83", func := "loop.example/g00876/laws.FnExactSpanningHeights", spec := "fnExactSpanningHeights", unfollowed := true, recurses := true, apart := false }
def FnExactSpanningHeightsSaid : Prop := fnExactSpanningHeightsRow.holds Try.pinned (OpenSpec.ofChange fnExactSpanningHeightsSpec)

/-- ITS FALSE NEIGHBOUR: 'it returns false'. Refute it at one input. -/
def fnExactSpanningHeightsWrong : ChangeSpec := { name := "fnExactSpanningHeights", fn := fun _ => fun
  | [d1, d2, d3] => { results := [.lit (.bool false)], args := [d1, d2, d3] }
  | _ => none }
def FnExactSpanningHeightsWrongFalsely : Prop := fnExactSpanningHeightsRow.holds Try.pinned (OpenSpec.ofChange fnExactSpanningHeightsWrong)

/-- 'laws.FnExactDoubleArea': WHATEVER THE INPUT: true; the input reads as it did. -/
def fnExactDoubleAreaSpec : ChangeSpec := { name := "fnExactDoubleArea", fn := fun _ => fun
  | [d] => { results := [.lit (.bool true)], args := [d] }
  | _ => none }
def fnExactDoubleAreaRow : OpenClaim := { program := "yticcpkmednijlaa", sum := "975731903a3b788f5237591a4a0ad253b7cdebc509597161fcfb733b0b3fdb83", func := "loop.example/g00876/laws.FnExactDoubleArea", spec := "fnExactDoubleArea", unfollowed := true, recurses := true, apart := false }
def FnExactDoubleAreaSaid : Prop := fnExactDoubleAreaRow.holds Try.pinned (OpenSpec.ofChange fnExactDoubleAreaSpec)

/-- ITS FALSE NEIGHBOUR: 'it returns false'. Refute it at one input. -/
def fnExactDoubleAreaWrong : ChangeSpec := { name := "fnExactDoubleArea", fn := fun _ => fun
  | [d] => { results := [.lit (.bool false)], args := [d] }
  | _ => none }
def FnExactDoubleAreaWrongFalsely : Prop := fnExactDoubleAreaRow.holds Try.pinned (OpenSpec.ofChange fnExactDoubleAreaWrong)

/-- 'laws.FnLoops': WHATEVER THE INPUT: true; the input reads as it did. -/
def fnLoopsSpec : ChangeSpec := { name := "fnLoops", fn := fun _ => fun
  | [d] => { results := [.lit (.bool true)], args := [d] }
  | _ => none }
def fnLoopsRow : OpenClaim := { program := "yticcpkmednijlaa", sum := "975731903a3b788f5237591a4a0ad253b7cdebc509597161fcfb733b0b3fdb83", func := "loop.example/g00876/laws.FnLoops", spec := "fnLoops", unfollowed := true, recurses := true, apart := false }
def FnLoopsSaid : Prop := fnLoopsRow.holds Try.pinned (OpenSpec.ofChange fnLoopsSpec)

/-- ITS FALSE NEIGHBOUR: 'it returns false'. Refute it at one input. -/
def fnLoopsWrong : ChangeSpec := { name := "fnLoops", fn := fun _ => fun
  | [d] => { results := [.lit (.bool false)], args := [d] }
  | _ => none }
def FnLoopsWrongFalsely : Prop := fnLoopsRow.holds Try.pinned (OpenSpec.ofChange fnLoopsWrong)

/-- 'laws.FnExactMovePolygon': WHATEVER THE INPUT: true; the input reads as it did. -/
def fnExactMovePolygonSpec : ChangeSpec := { name := "fnExactMovePolygon", fn := fun _ => fun
  | [d1, d2, d3] => { results := [.lit (.bool true)], args := [d1, d2, d3] }
  | _ => none }
def fnExactMovePolygonRow : OpenClaim := { program := "yticcpkmednijlaa", sum := "975731903a3b788f5237591a4a0ad253b7cdebc509597161fcfb733b0b3fdb83", func := "loop.example/g00876/laws.FnExactMovePolygon", spec := "fnExactMovePolygon", unfollowed := true, recurses := true, apart := false }
def FnExactMovePolygonSaid : Prop := fnExactMovePolygonRow.holds Try.pinned (OpenSpec.ofChange fnExactMovePolygonSpec)

/-- ITS FALSE NEIGHBOUR: 'it returns false'. Refute it at one input. -/
def fnExactMovePolygonWrong : ChangeSpec := { name := "fnExactMovePolygon", fn := fun _ => fun
  | [d1, d2, d3] => { results := [.lit (.bool false)], args := [d1, d2, d3] }
  | _ => none }
def FnExactMovePolygonWrongFalsely : Prop := fnExactMovePolygonRow.holds Try.pinned (OpenSpec.ofChange fnExactMovePolygonWrong)

/-- 'laws.FnExactGridPoints': WHATEVER THE INPUT: true; the input reads as it did. -/
def fnExactGridPointsSpec : ChangeSpec := { name := "fnExactGridPoints", fn := fun _ => fun
  | [d] => { results := [.lit (.bool true)], args := [d] }
  | _ => none }
def fnExactGridPointsRow : OpenClaim := { program := "yticcpkmednijlaa", sum := "975731903a3b788f5237591a4a0ad253b7cdebc509597161fcfb733b0b3fdb83", func := "loop.example/g00876/laws.FnExactGridPoints", spec := "fnExactGridPoints", unfollowed := true, recurses := true, apart := false }
def FnExactGridPointsSaid : Prop := fnExactGridPointsRow.holds Try.pinned (OpenSpec.ofChange fnExactGridPointsSpec)

/-- ITS FALSE NEIGHBOUR: 'it returns false'. Refute it at one input. -/
def fnExactGridPointsWrong : ChangeSpec := { name := "fnExactGridPoints", fn := fun _ => fun
  | [d] => { results := [.lit (.bool false)], args := [d] }
  | _ => none }
def FnExactGridPointsWrongFalsely : Prop := fnExactGridPointsRow.holds Try.pinned (OpenSpec.ofChange fnExactGridPointsWrong)

/-- 'laws.FnExactNormalForm': WHATEVER THE INPUT: true; the input reads as it did. -/
def fnExactNormalFormSpec : ChangeSpec := { name := "fnExactNormalForm", fn := fun _ => fun
  | [d] => { results := [.lit (.bool true)], args := [d] }
  | _ => none }
def fnExactNormalFormRow : OpenClaim := { program := "yticcpkmednijlaa", sum := "975731903a3b788f5237591a4a0ad253b7cdebc509597161fcfb733b0b3fdb83", func := "loop.example/g00876/laws.FnExactNormalForm", spec := "fnExactNormalForm", unfollowed := true, recurses := true, apart := false }
def FnExactNormalFormSaid : Prop := fnExactNormalFormRow.holds Try.pinned (OpenSpec.ofChange fnExactNormalFormSpec)

/-- ITS FALSE NEIGHBOUR: 'it returns false'. Refute it at one input. -/
def fnExactNormalFormWrong : ChangeSpec := { name := "fnExactNormalForm", fn := fun _ => fun
  | [d] => { results := [.lit (.bool false)], args := [d] }
  | _ => none }
def FnExactNormalFormWrongFalsely : Prop := fnExactNormalFormRow.holds Try.pinned (OpenSpec.ofChange fnExactNormalFormWrong)

/-- 'laws.FnExactHullOf': WHATEVER THE INPUT: true; the input reads as it did. -/
def fnExactHullOfSpec : ChangeSpec := { name := "fnExactHullOf", fn := fun _ => fun
  | [d] => { results := [.lit (.bool true)], args := [d] }
  | _ => none }
def fnExactHullOfRow : OpenClaim := { program := "yticcpkmednijlaa", sum := "975731903a3b788f5237591a4a0ad253b7cdebc509597161fcfb733b0b3fdb83", func := "loop.example/g00876/laws.FnExactHullOf", spec := "fnExactHullOf", unfollowed := true, recurses := true, apart := false }
def FnExactHullOfSaid : Prop := fnExactHullOfRow.holds Try.pinned (OpenSpec.ofChange fnExactHullOfSpec)

/-- ITS FALSE NEIGHBOUR: 'it returns false'. Refute it at one input. -/
def fnExactHullOfWrong : ChangeSpec := { name := "fnExactHullOf", fn := fun _ => fun
  | [d] => { results := [.lit (.bool false)], args := [d] }
  | _ => none }
def FnExactHullOfWrongFalsely : Prop := fnExactHullOfRow.holds Try.pinned (OpenSpec.ofChange fnExactHullOfWrong)

/- THE SECOND FORM. 'bulk': how many values and letters a reading holds, each counted each time it is reached (what is shared counts as often as it is met; a slice's spare places count too). A statement '..UptoSaid' is the law's where the arguments, and the package variables that the reading takes, are together of bulk at most 1048576: NARROWER than '..Said'. Prove '..Said' where nothing that the law and all that it calls make is longer than what came in: it says more and counts as full. Else prove '..UptoSaid'. A law counts once. -/
mutual
def uptoBulk {H : Type} : DataW H → Nat
  | .lit (.string bytes) => bytes.length + 1
  | .lit _ => 1
  | .nil => 1
  | .ptr d => uptoBulk d + 1
  | .slice elems spare => uptoBulkAll elems + uptoBulkAll spare + 1
  | .agg parts => uptoBulkAll parts + 1
  | .iface _ d => uptoBulk d + 1
  | .map entries => uptoBulkEntries entries + 1
  | .held _ => 1
def uptoBulkAll {H : Type} : List (DataW H) → Nat
  | [] => 0
  | d :: r => uptoBulk d + uptoBulkAll r
def uptoBulkEntries {H : Type} : List (Lit × DataW H) → Nat
  | [] => 0
  | x :: r => uptoBulkEntry x + uptoBulkEntries r
def uptoBulkEntry {H : Type} : Lit × DataW H → Nat
  | (.string bytes, d) => bytes.length + uptoBulk d + 1
  | (_, d) => uptoBulk d + 1
 end
def uptoSmall : (H : Type) → List (DataW H) → Bool := fun _ ds => decide (uptoBulkAll ds ≤ 1048576)
def OpenSpec.upto (s : _root_.Go.ChangeSpec) : _root_.Go.OpenSpec := { _root_.Go.OpenSpec.ofChange s with cond := some uptoSmall }

/-- 'laws.FnExactLoopClosure', WHERE WHAT IT READS IS OF BULK AT MOST 1048576: true; the input reads as it did. -/
def fnExactLoopClosureUptoRow : OpenClaim := { program := "yticcpkmednijlaa", sum := "975731903a3b788f5237591a4a0ad253b7cdebc509597161fcfb733b0b3fdb83", func := "loop.example/g00876/laws.FnExactLoopClosure", spec := "fnExactLoopClosure", unfollowed := true, recurses := true, apart := false, narrowed := true }
def FnExactLoopClosureUptoSaid : Prop := fnExactLoopClosureUptoRow.holds Try.pinned (OpenSpec.upto fnExactLoopClosureSpec)

/-- 'laws.FnExactIsValidPolygon', WHERE WHAT IT READS IS OF BULK AT MOST 1048576: true; the input reads as it did. -/
def fnExactIsValidPolygonUptoRow : OpenClaim := { program := "yticcpkmednijlaa", sum := "975731903a3b788f5237591a4a0ad253b7cdebc509597161fcfb733b0b3fdb83", func := "loop.example/g00876/laws.FnExactIsValidPolygon", spec := "fnExactIsValidPolygon", unfollowed := true, recurses := true, apart := false, narrowed := true }
def FnExactIsValidPolygonUptoSaid : Prop := fnExactIsValidPolygonUptoRow.holds Try.pinned (OpenSpec.upto fnExactIsValidPolygonSpec)

/-- 'laws.FnTraverses', WHERE WHAT IT READS IS OF BULK AT MOST 1048576: true; the input reads as it did. -/
def fnTraversesUptoRow : OpenClaim := { program := "yticcpkmednijlaa", sum := "975731903a3b788f5237591a4a0ad253b7cdebc509597161fcfb733b0b3fdb83", func := "loop.example/g00876/laws.FnTraverses", spec := "fnTraverses", apart := false, narrowed := true }
def FnTraversesUptoSaid : Prop := fnTraversesUptoRow.holds Try.pinned (OpenSpec.upto fnTraversesSpec)

/-- 'laws.FnExactAdjustTraverse', WHERE WHAT IT READS IS OF BULK AT MOST 1048576: true; the input reads as it did. -/
def fnExactAdjustTraverseUptoRow : OpenClaim := { program := "yticcpkmednijlaa", sum := "975731903a3b788f5237591a4a0ad253b7cdebc509597161fcfb733b0b3fdb83", func := "loop.example/g00876/laws.FnExactAdjustTraverse", spec := "fnExactAdjustTraverse", apart := false, narrowed := true }
def FnExactAdjustTraverseUptoSaid : Prop := fnExactAdjustTraverseUptoRow.holds Try.pinned (OpenSpec.upto fnExactAdjustTraverseSpec)

/-- 'laws.FnExactBoundingBox', WHERE WHAT IT READS IS OF BULK AT MOST 1048576: true; the input reads as it did. -/
def fnExactBoundingBoxUptoRow : OpenClaim := { program := "yticcpkmednijlaa", sum := "975731903a3b788f5237591a4a0ad253b7cdebc509597161fcfb733b0b3fdb83", func := "loop.example/g00876/laws.FnExactBoundingBox", spec := "fnExactBoundingBox", unfollowed := true, recurses := true, apart := false, narrowed := true }
def FnExactBoundingBoxUptoSaid : Prop := fnExactBoundingBoxUptoRow.holds Try.pinned (OpenSpec.upto fnExactBoundingBoxSpec)

/-- 'laws.FnExactSpanningHeights', WHERE WHAT IT READS IS OF BULK AT MOST 1048576: true; the input reads as it did. -/
def fnExactSpanningHeightsUptoRow : OpenClaim := { program := "yticcpkmednijlaa", sum := "975731903a3b788f5237591a4a0ad253b7cdebc509597161fcfb733b0b3fdb83", func := "loop.example/g00876/laws.FnExactSpanningHeights", spec := "fnExactSpanningHeights", unfollowed := true, recurses := true, apart := false, narrowed := true }
def FnExactSpanningHeightsUptoSaid : Prop := fnExactSpanningHeightsUptoRow.holds Try.pinned (OpenSpec.upto fnExactSpanningHeightsSpec)

/-- 'laws.FnExactDoubleArea', WHERE WHAT IT READS IS OF BULK AT MOST 1048576: true; the input reads as it did. -/
def fnExactDoubleAreaUptoRow : OpenClaim := { program := "yticcpkmednijlaa", sum := "975731903a3b788f5237591a4a0ad253b7cdebc509597161fcfb733b0b3fdb83", func := "loop.example/g00876/laws.FnExactDoubleArea", spec := "fnExactDoubleArea", unfollowed := true, recurses := true, apart := false, narrowed := true }
def FnExactDoubleAreaUptoSaid : Prop := fnExactDoubleAreaUptoRow.holds Try.pinned (OpenSpec.upto fnExactDoubleAreaSpec)

/-- 'laws.FnLoops', WHERE WHAT IT READS IS OF BULK AT MOST 1048576: true; the input reads as it did. -/
def fnLoopsUptoRow : OpenClaim := { program := "yticcpkmednijlaa", sum := "975731903a3b788f5237591a4a0ad253b7cdebc509597161fcfb733b0b3fdb83", func := "loop.example/g00876/laws.FnLoops", spec := "fnLoops", unfollowed := true, recurses := true, apart := false, narrowed := true }
def FnLoopsUptoSaid : Prop := fnLoopsUptoRow.holds Try.pinned (OpenSpec.upto fnLoopsSpec)

/-- 'laws.FnExactMovePolygon', WHERE WHAT IT READS IS OF BULK AT MOST 1048576: true; the input reads as it did. -/
def fnExactMovePolygonUptoRow : OpenClaim := { program := "yticcpkmednijlaa", sum := "975731903a3b788f5237591a4a0ad253b7cdebc509597161fcfb733b0b3fdb83", func := "loop.example/g00876/laws.FnExactMovePolygon", spec := "fnExactMovePolygon", unfollowed := true, recurses := true, apart := false, narrowed := true }
def FnExactMovePolygonUptoSaid : Prop := fnExactMovePolygonUptoRow.holds Try.pinned (OpenSpec.upto fnExactMovePolygonSpec)

/-- 'laws.FnExactGridPoints', WHERE WHAT IT READS IS OF BULK AT MOST 1048576: true; the input reads as it did. -/
def fnExactGridPointsUptoRow : OpenClaim := { program := "yticcpkmednijlaa", sum := "975731903a3b788f5237591a4a0ad253b7cdebc509597161fcfb733b0b3fdb83", func := "loop.example/g00876/laws.FnExactGridPoints", spec := "fnExactGridPoints", unfollowed := true, recurses := true, apart := false, narrowed := true }
def FnExactGridPointsUptoSaid : Prop := fnExactGridPointsUptoRow.holds Try.pinned (OpenSpec.upto fnExactGridPointsSpec)

/-- 'laws.FnExactNormalForm', WHERE WHAT IT READS IS OF BULK AT MOST 1048576: true; the input reads as it did. -/
def fnExactNormalFormUptoRow : OpenClaim := { program := "yticcpkmednijlaa", sum := "975731903a3b788f5237591a4a0ad253b7cdebc509597161fcfb733b0b3fdb83", func := "loop.example/g00876/laws.FnExactNormalForm", spec := "fnExactNormalForm", unfollowed := true, recurses := true, apart := false, narrowed := true }
def FnExactNormalFormUptoSaid : Prop := fnExactNormalFormUptoRow.holds Try.pinned (OpenSpec.upto fnExactNormalFormSpec)

/-- 'laws.FnExactHullOf', WHERE WHAT IT READS IS OF BULK AT MOST 1048576: true; the input reads as it did. -/
def fnExactHullOfUptoRow : OpenClaim := { program := "yticcpkmednijlaa", sum := "975731903a3b788f5237591a4a0ad253b7cdebc509597161fcfb733b0b3fdb83", func := "loop.example/g00876/laws.FnExactHullOf", spec := "fnExactHullOf", unfollowed := true, recurses := true, apart := false, narrowed := true }
def FnExactHullOfUptoSaid : Prop := fnExactHullOfUptoRow.holds Try.pinned (OpenSpec.upto fnExactHullOfSpec)

end Rows
end Go.Proofs.Yticcpkmednijlaa
