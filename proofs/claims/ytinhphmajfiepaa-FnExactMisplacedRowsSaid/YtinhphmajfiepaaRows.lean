/-
  No cell of these rows narrows 'for every input' (looked for: loops, veiled, ifaces, maps, wideKeys, modest, calm, conditions, laid).
  DERIVED. THE GIVEN ROWS OF THIS SEAT. 9 by the template 'for every input the law returns true; each argument reads behind the call as it read before'; 0 by the template 'total and deterministic' (their statements: YtinhphmajfiepaaTotals.lean).
  GIVEN WITH THE SEED: the statements are not yours to turn. If you find one false, say at which input.
  Laid BY PROGRAM, IN A SANDBOX (cutbox-rows.mjs): the forced cells as the released guide's own fill.sh prints them over the translation e45be93b7f9538f7… (all of the seat's roots in one cut). By AI agents, Wed Nov 11 2026. No macro, syntax, notation, axiom, sorry.
-/
import Derived.Test.YtinhphmajfiepaaChecked
import GoSem.Claim
import GoSem.ClaimJoined
import GoSem.ClaimMapViews
import Derived.JoinedTies
import Derived.KernelRfl
namespace Go.Proofs.Ytinhphmajfiepaa
/- THE CELL 'sum', in the pinned program and in every row, IS THE sha256 OF THE DUMP (.gsa) THAT YtinhphmajfiepaaProg.lean LOADS. Nothing in Lean hashes anything: it is a label: what it is worth is what the hold of that sum in a sandbox is worth. -/
noncomputable def Try.pinned : Pinned := { name := "ytinhphmajfiepaa", sum := "e45be93b7f9538f7bc509e811596207a5fdeee6888ab603859b4c9683a134a08", checked := Try.checked }
namespace Rows
def none {H : Type} : Left H := { results := [], args := [] }

/-- 'laws.FnExactRowDistance': WHATEVER THE INPUT: true; the input reads as it did. -/
def fnExactRowDistanceSpec : ChangeSpec := { name := "fnExactRowDistance", fn := fun _ => fun
  | [d1, d2, d3] => { results := [.lit (.bool true)], args := [d1, d2, d3] }
  | _ => none }
def fnExactRowDistanceRow : OpenClaim := { program := "ytinhphmajfiepaa", sum := "e45be93b7f9538f7bc509e811596207a5fdeee6888ab603859b4c9683a134a08", func := "loop.example/g00876/laws.FnExactRowDistance", spec := "fnExactRowDistance", unfollowed := true, recurses := true, apart := false }
def FnExactRowDistanceSaid : Prop := fnExactRowDistanceRow.holds Try.pinned (OpenSpec.ofChange fnExactRowDistanceSpec)

/-- ITS FALSE NEIGHBOUR: 'it returns false'. Refute it at one input. -/
def fnExactRowDistanceWrong : ChangeSpec := { name := "fnExactRowDistance", fn := fun _ => fun
  | [d1, d2, d3] => { results := [.lit (.bool false)], args := [d1, d2, d3] }
  | _ => none }
def FnExactRowDistanceWrongFalsely : Prop := fnExactRowDistanceRow.holds Try.pinned (OpenSpec.ofChange fnExactRowDistanceWrong)

/-- 'laws.FnExactIsSeriable': WHATEVER THE INPUT: true; the input reads as it did. -/
def fnExactIsSeriableSpec : ChangeSpec := { name := "fnExactIsSeriable", fn := fun _ => fun
  | [d] => { results := [.lit (.bool true)], args := [d] }
  | _ => none }
def fnExactIsSeriableRow : OpenClaim := { program := "ytinhphmajfiepaa", sum := "e45be93b7f9538f7bc509e811596207a5fdeee6888ab603859b4c9683a134a08", func := "loop.example/g00876/laws.FnExactIsSeriable", spec := "fnExactIsSeriable", unfollowed := true, recurses := true, apart := false }
def FnExactIsSeriableSaid : Prop := fnExactIsSeriableRow.holds Try.pinned (OpenSpec.ofChange fnExactIsSeriableSpec)

/-- ITS FALSE NEIGHBOUR: 'it returns false'. Refute it at one input. -/
def fnExactIsSeriableWrong : ChangeSpec := { name := "fnExactIsSeriable", fn := fun _ => fun
  | [d] => { results := [.lit (.bool false)], args := [d] }
  | _ => none }
def FnExactIsSeriableWrongFalsely : Prop := fnExactIsSeriableRow.holds Try.pinned (OpenSpec.ofChange fnExactIsSeriableWrong)

/-- 'laws.FnExactShortestOrder': WHATEVER THE INPUT: true; the input reads as it did. -/
def fnExactShortestOrderSpec : ChangeSpec := { name := "fnExactShortestOrder", fn := fun _ => fun
  | [d] => { results := [.lit (.bool true)], args := [d] }
  | _ => none }
def fnExactShortestOrderRow : OpenClaim := { program := "ytinhphmajfiepaa", sum := "e45be93b7f9538f7bc509e811596207a5fdeee6888ab603859b4c9683a134a08", func := "loop.example/g00876/laws.FnExactShortestOrder", spec := "fnExactShortestOrder", unfollowed := true, recurses := true, apart := false }
def FnExactShortestOrderSaid : Prop := fnExactShortestOrderRow.holds Try.pinned (OpenSpec.ofChange fnExactShortestOrderSpec)

/-- ITS FALSE NEIGHBOUR: 'it returns false'. Refute it at one input. -/
def fnExactShortestOrderWrong : ChangeSpec := { name := "fnExactShortestOrder", fn := fun _ => fun
  | [d] => { results := [.lit (.bool false)], args := [d] }
  | _ => none }
def FnExactShortestOrderWrongFalsely : Prop := fnExactShortestOrderRow.holds Try.pinned (OpenSpec.ofChange fnExactShortestOrderWrong)

/-- 'laws.FnExactBestOrder': WHATEVER THE INPUT: true; the input reads as it did. -/
def fnExactBestOrderSpec : ChangeSpec := { name := "fnExactBestOrder", fn := fun _ => fun
  | [d] => { results := [.lit (.bool true)], args := [d] }
  | _ => none }
def fnExactBestOrderRow : OpenClaim := { program := "ytinhphmajfiepaa", sum := "e45be93b7f9538f7bc509e811596207a5fdeee6888ab603859b4c9683a134a08", func := "loop.example/g00876/laws.FnExactBestOrder", spec := "fnExactBestOrder", unfollowed := true, recurses := true, apart := false }
def FnExactBestOrderSaid : Prop := fnExactBestOrderRow.holds Try.pinned (OpenSpec.ofChange fnExactBestOrderSpec)

/-- ITS FALSE NEIGHBOUR: 'it returns false'. Refute it at one input. -/
def fnExactBestOrderWrong : ChangeSpec := { name := "fnExactBestOrder", fn := fun _ => fun
  | [d] => { results := [.lit (.bool false)], args := [d] }
  | _ => none }
def FnExactBestOrderWrongFalsely : Prop := fnExactBestOrderRow.holds Try.pinned (OpenSpec.ofChange fnExactBestOrderWrong)

/-- 'laws.FnExactTypeRange': WHATEVER THE INPUT: true; the input reads as it did. -/
def fnExactTypeRangeSpec : ChangeSpec := { name := "fnExactTypeRange", fn := fun _ => fun
  | [d1, d2, d3] => { results := [.lit (.bool true)], args := [d1, d2, d3] }
  | _ => none }
def fnExactTypeRangeRow : OpenClaim := { program := "ytinhphmajfiepaa", sum := "e45be93b7f9538f7bc509e811596207a5fdeee6888ab603859b4c9683a134a08", func := "loop.example/g00876/laws.FnExactTypeRange", spec := "fnExactTypeRange", unfollowed := true, recurses := true, apart := false }
def FnExactTypeRangeSaid : Prop := fnExactTypeRangeRow.holds Try.pinned (OpenSpec.ofChange fnExactTypeRangeSpec)

/-- ITS FALSE NEIGHBOUR: 'it returns false'. Refute it at one input. -/
def fnExactTypeRangeWrong : ChangeSpec := { name := "fnExactTypeRange", fn := fun _ => fun
  | [d1, d2, d3] => { results := [.lit (.bool false)], args := [d1, d2, d3] }
  | _ => none }
def FnExactTypeRangeWrongFalsely : Prop := fnExactTypeRangeRow.holds Try.pinned (OpenSpec.ofChange fnExactTypeRangeWrong)

/-- 'laws.FnExactReverseOrder': WHATEVER THE INPUT: true; the input reads as it did. -/
def fnExactReverseOrderSpec : ChangeSpec := { name := "fnExactReverseOrder", fn := fun _ => fun
  | [d1, d2] => { results := [.lit (.bool true)], args := [d1, d2] }
  | _ => none }
def fnExactReverseOrderRow : OpenClaim := { program := "ytinhphmajfiepaa", sum := "e45be93b7f9538f7bc509e811596207a5fdeee6888ab603859b4c9683a134a08", func := "loop.example/g00876/laws.FnExactReverseOrder", spec := "fnExactReverseOrder", unfollowed := true, recurses := true, apart := false }
def FnExactReverseOrderSaid : Prop := fnExactReverseOrderRow.holds Try.pinned (OpenSpec.ofChange fnExactReverseOrderSpec)

/-- ITS FALSE NEIGHBOUR: 'it returns false'. Refute it at one input. -/
def fnExactReverseOrderWrong : ChangeSpec := { name := "fnExactReverseOrder", fn := fun _ => fun
  | [d1, d2] => { results := [.lit (.bool false)], args := [d1, d2] }
  | _ => none }
def FnExactReverseOrderWrongFalsely : Prop := fnExactReverseOrderRow.holds Try.pinned (OpenSpec.ofChange fnExactReverseOrderWrong)

/-- 'laws.FnExactGapCount': WHATEVER THE INPUT: true; the input reads as it did. -/
def fnExactGapCountSpec : ChangeSpec := { name := "fnExactGapCount", fn := fun _ => fun
  | [d1, d2] => { results := [.lit (.bool true)], args := [d1, d2] }
  | _ => none }
def fnExactGapCountRow : OpenClaim := { program := "ytinhphmajfiepaa", sum := "e45be93b7f9538f7bc509e811596207a5fdeee6888ab603859b4c9683a134a08", func := "loop.example/g00876/laws.FnExactGapCount", spec := "fnExactGapCount", unfollowed := true, recurses := true, apart := false }
def FnExactGapCountSaid : Prop := fnExactGapCountRow.holds Try.pinned (OpenSpec.ofChange fnExactGapCountSpec)

/-- ITS FALSE NEIGHBOUR: 'it returns false'. Refute it at one input. -/
def fnExactGapCountWrong : ChangeSpec := { name := "fnExactGapCount", fn := fun _ => fun
  | [d1, d2] => { results := [.lit (.bool false)], args := [d1, d2] }
  | _ => none }
def FnExactGapCountWrongFalsely : Prop := fnExactGapCountRow.holds Try.pinned (OpenSpec.ofChange fnExactGapCountWrong)

/-- 'laws.FnExactOrderLength': WHATEVER THE INPUT: true; the input reads as it did. -/
def fnExactOrderLengthSpec : ChangeSpec := { name := "fnExactOrderLength", fn := fun _ => fun
  | [d1, d2] => { results := [.lit (.bool true)], args := [d1, d2] }
  | _ => none }
def fnExactOrderLengthRow : OpenClaim := { program := "ytinhphmajfiepaa", sum := "e45be93b7f9538f7bc509e811596207a5fdeee6888ab603859b4c9683a134a08", func := "loop.example/g00876/laws.FnExactOrderLength", spec := "fnExactOrderLength", unfollowed := true, recurses := true, apart := false }
def FnExactOrderLengthSaid : Prop := fnExactOrderLengthRow.holds Try.pinned (OpenSpec.ofChange fnExactOrderLengthSpec)

/-- ITS FALSE NEIGHBOUR: 'it returns false'. Refute it at one input. -/
def fnExactOrderLengthWrong : ChangeSpec := { name := "fnExactOrderLength", fn := fun _ => fun
  | [d1, d2] => { results := [.lit (.bool false)], args := [d1, d2] }
  | _ => none }
def FnExactOrderLengthWrongFalsely : Prop := fnExactOrderLengthRow.holds Try.pinned (OpenSpec.ofChange fnExactOrderLengthWrong)

/-- 'laws.FnExactMisplacedRows': WHATEVER THE INPUT: true; the input reads as it did. -/
def fnExactMisplacedRowsSpec : ChangeSpec := { name := "fnExactMisplacedRows", fn := fun _ => fun
  | [d1, d2] => { results := [.lit (.bool true)], args := [d1, d2] }
  | _ => none }
def fnExactMisplacedRowsRow : OpenClaim := { program := "ytinhphmajfiepaa", sum := "e45be93b7f9538f7bc509e811596207a5fdeee6888ab603859b4c9683a134a08", func := "loop.example/g00876/laws.FnExactMisplacedRows", spec := "fnExactMisplacedRows", unfollowed := true, recurses := true, apart := false }
def FnExactMisplacedRowsSaid : Prop := fnExactMisplacedRowsRow.holds Try.pinned (OpenSpec.ofChange fnExactMisplacedRowsSpec)

/-- ITS FALSE NEIGHBOUR: 'it returns false'. Refute it at one input. -/
def fnExactMisplacedRowsWrong : ChangeSpec := { name := "fnExactMisplacedRows", fn := fun _ => fun
  | [d1, d2] => { results := [.lit (.bool false)], args := [d1, d2] }
  | _ => none }
def FnExactMisplacedRowsWrongFalsely : Prop := fnExactMisplacedRowsRow.holds Try.pinned (OpenSpec.ofChange fnExactMisplacedRowsWrong)

/- THE SECOND FORM. 'bulk': how many values and letters a reading holds, each counted each time it is reached (what is shared counts as often as it is met; a slice's spare places count too). A statement '..UptoSaid' is the law's where the arguments, and the package variables that the reading takes, are together of bulk at most 1048576: NARROWER than '..Said'. Prove '..Said' where nothing that the law and all that it calls make is longer than what came in: it says more and counts as full. Else prove '..UptoSaid'. A law counts once. -/
mutual
def uptoBulk {H : Type} : DataW H → Nat
  | .lit (.string bytes) => bytes.length + 1
  | .lit _ => 1
  | .nil => 1
  | .ptr d => uptoBulk d + 1
  | .slice elems spare => uptoBulkAll elems + uptoBulkAll spare + 1
  | .agg parts => uptoBulkAll parts + 1
  | .iface _ d => uptoBulk d + 1
  | .map entries => uptoBulkEntries entries + 1
  | .held _ => 1
def uptoBulkAll {H : Type} : List (DataW H) → Nat
  | [] => 0
  | d :: r => uptoBulk d + uptoBulkAll r
def uptoBulkEntries {H : Type} : List (Lit × DataW H) → Nat
  | [] => 0
  | x :: r => uptoBulkEntry x + uptoBulkEntries r
def uptoBulkEntry {H : Type} : Lit × DataW H → Nat
  | (.string bytes, d) => bytes.length + uptoBulk d + 1
  | (_, d) => uptoBulk d + 1
 end
def uptoSmall : (H : Type) → List (DataW H) → Bool := fun _ ds => decide (uptoBulkAll ds ≤ 1048576)
def OpenSpec.upto (s : _root_.Go.ChangeSpec) : _root_.Go.OpenSpec := { _root_.Go.OpenSpec.ofChange s with cond := some uptoSmall }

/-- 'laws.FnExactRowDistance', WHERE WHAT IT READS IS OF BULK AT MOST 1048576: true; the input reads as it did. -/
def fnExactRowDistanceUptoRow : OpenClaim := { program := "ytinhphmajfiepaa", sum := "e45be93b7f9538f7bc509e811596207a5fdeee6888ab603859b4c9683a134a08", func := "loop.example/g00876/laws.FnExactRowDistance", spec := "fnExactRowDistance", unfollowed := true, recurses := true, apart := false, narrowed := true }
def FnExactRowDistanceUptoSaid : Prop := fnExactRowDistanceUptoRow.holds Try.pinned (OpenSpec.upto fnExactRowDistanceSpec)

/-- 'laws.FnExactIsSeriable', WHERE WHAT IT READS IS OF BULK AT MOST 1048576: true; the input reads as it did. -/
def fnExactIsSeriableUptoRow : OpenClaim := { program := "ytinhphmajfiepaa", sum := "e45be93b7f9538f7bc509e811596207a5fdeee6888ab603859b4c9683a134a08", func := "loop.example/g00876/laws.FnExactIsSeriable", spec := "fnExactIsSeriable", unfollowed := true, recurses := true, apart := false, narrowed := true }
def FnExactIsSeriableUptoSaid : Prop := fnExactIsSeriableUptoRow.holds Try.pinned (OpenSpec.upto fnExactIsSeriableSpec)

/-- 'laws.FnExactShortestOrder', WHERE WHAT IT READS IS OF BULK AT MOST 1048576: true; the input reads as it did. -/
def fnExactShortestOrderUptoRow : OpenClaim := { program := "ytinhphmajfiepaa", sum := "e45be93b7f9538f7bc509e811596207a5fdeee6888ab603859b4c9683a134a08", func := "loop.example/g00876/laws.FnExactShortestOrder", spec := "fnExactShortestOrder", unfollowed := true, recurses := true, apart := false, narrowed := true }
def FnExactShortestOrderUptoSaid : Prop := fnExactShortestOrderUptoRow.holds Try.pinned (OpenSpec.upto fnExactShortestOrderSpec)

/-- 'laws.FnExactBestOrder', WHERE WHAT IT READS IS OF BULK AT MOST 1048576: true; the input reads as it did. -/
def fnExactBestOrderUptoRow : OpenClaim := { program := "ytinhphmajfiepaa", sum := "e45be93b7f9538f7bc509e811596207a5fdeee6888ab603859b4c9683a134a08", func := "loop.example/g00876/laws.FnExactBestOrder", spec := "fnExactBestOrder", unfollowed := true, recurses := true, apart := false, narrowed := true }
def FnExactBestOrderUptoSaid : Prop := fnExactBestOrderUptoRow.holds Try.pinned (OpenSpec.upto fnExactBestOrderSpec)

/-- 'laws.FnExactTypeRange', WHERE WHAT IT READS IS OF BULK AT MOST 1048576: true; the input reads as it did. -/
def fnExactTypeRangeUptoRow : OpenClaim := { program := "ytinhphmajfiepaa", sum := "e45be93b7f9538f7bc509e811596207a5fdeee6888ab603859b4c9683a134a08", func := "loop.example/g00876/laws.FnExactTypeRange", spec := "fnExactTypeRange", unfollowed := true, recurses := true, apart := false, narrowed := true }
def FnExactTypeRangeUptoSaid : Prop := fnExactTypeRangeUptoRow.holds Try.pinned (OpenSpec.upto fnExactTypeRangeSpec)

/-- 'laws.FnExactReverseOrder', WHERE WHAT IT READS IS OF BULK AT MOST 1048576: true; the input reads as it did. -/
def fnExactReverseOrderUptoRow : OpenClaim := { program := "ytinhphmajfiepaa", sum := "e45be93b7f9538f7bc509e811596207a5fdeee6888ab603859b4c9683a134a08", func := "loop.example/g00876/laws.FnExactReverseOrder", spec := "fnExactReverseOrder", unfollowed := true, recurses := true, apart := false, narrowed := true }
def FnExactReverseOrderUptoSaid : Prop := fnExactReverseOrderUptoRow.holds Try.pinned (OpenSpec.upto fnExactReverseOrderSpec)

/-- 'laws.FnExactGapCount', WHERE WHAT IT READS IS OF BULK AT MOST 1048576: true; the input reads as it did. -/
def fnExactGapCountUptoRow : OpenClaim := { program := "ytinhphmajfiepaa", sum := "e45be93b7f9538f7bc509e811596207a5fdeee6888ab603859b4c9683a134a08", func := "loop.example/g00876/laws.FnExactGapCount", spec := "fnExactGapCount", unfollowed := true, recurses := true, apart := false, narrowed := true }
def FnExactGapCountUptoSaid : Prop := fnExactGapCountUptoRow.holds Try.pinned (OpenSpec.upto fnExactGapCountSpec)

/-- 'laws.FnExactOrderLength', WHERE WHAT IT READS IS OF BULK AT MOST 1048576: true; the input reads as it did. -/
def fnExactOrderLengthUptoRow : OpenClaim := { program := "ytinhphmajfiepaa", sum := "e45be93b7f9538f7bc509e811596207a5fdeee6888ab603859b4c9683a134a08", func := "loop.example/g00876/laws.FnExactOrderLength", spec := "fnExactOrderLength", unfollowed := true, recurses := true, apart := false, narrowed := true }
def FnExactOrderLengthUptoSaid : Prop := fnExactOrderLengthUptoRow.holds Try.pinned (OpenSpec.upto fnExactOrderLengthSpec)

/-- 'laws.FnExactMisplacedRows', WHERE WHAT IT READS IS OF BULK AT MOST 1048576: true; the input reads as it did. -/
def fnExactMisplacedRowsUptoRow : OpenClaim := { program := "ytinhphmajfiepaa", sum := "e45be93b7f9538f7bc509e811596207a5fdeee6888ab603859b4c9683a134a08", func := "loop.example/g00876/laws.FnExactMisplacedRows", spec := "fnExactMisplacedRows", unfollowed := true, recurses := true, apart := false, narrowed := true }
def FnExactMisplacedRowsUptoSaid : Prop := fnExactMisplacedRowsUptoRow.holds Try.pinned (OpenSpec.upto fnExactMisplacedRowsSpec)

end Rows
end Go.Proofs.Ytinhphmajfiepaa
