/-
  No cell of these rows narrows 'for every input' (looked for: loops, veiled, ifaces, maps, wideKeys, modest, calm, conditions, laid).
  DERIVED. THE GIVEN ROWS OF THIS SEAT. 5 by the template 'for every input the law returns true; each argument reads behind the call as it read before'; 0 by the template 'total and deterministic' (their statements: YtnoccadolcgifaaTotals.lean).
  GIVEN WITH THE SEED: the statements are not yours to turn. If you find one false, say at which input.
  Laid BY PROGRAM, IN A SANDBOX (cutbox-rows.mjs): the forced cells as the released guide's own fill.sh prints them over the translation 61e32e4db524e714… (all of the seat's roots in one cut). By AI agents, Wed Nov 11 2026. No macro, syntax, notation, axiom, sorry.
-/
import Derived.Test.YtnoccadolcgifaaChecked
import GoSem.Claim
import GoSem.ClaimJoined
import GoSem.ClaimMapViews
import Derived.JoinedTies
import Derived.KernelRfl
namespace Go.Proofs.Ytnoccadolcgifaa
/- THE CELL 'sum', in the pinned program and in every row, IS THE sha256 OF THE DUMP (.gsa) THAT YtnoccadolcgifaaProg.lean LOADS. Nothing in Lean hashes anything: it is a label: what it is worth is what the hold of that sum in a sandbox is worth. -/
noncomputable def Try.pinned : Pinned := { name := "ytnoccadolcgifaa", sum := "61e32e4db524e714f17823cd69caaf62dd40f9f02ea2cafbfc64b0c243983906", checked := Try.checked }
namespace Rows
def none {H : Type} : Left H := { results := [], args := [] }

/-- 'laws.FnMatrix': WHATEVER THE INPUT: true; the input reads as it did. -/
def fnMatrixSpec : ChangeSpec := { name := "fnMatrix", fn := fun _ => fun
  | [d] => { results := [.lit (.bool true)], args := [d] }
  | _ => none }
def fnMatrixRow : OpenClaim := { program := "ytnoccadolcgifaa", sum := "61e32e4db524e714f17823cd69caaf62dd40f9f02ea2cafbfc64b0c243983906", func := "loop.example/g00876/laws.FnMatrix", spec := "fnMatrix", unfollowed := true, recurses := true, apart := false }
def FnMatrixSaid : Prop := fnMatrixRow.holds Try.pinned (OpenSpec.ofChange fnMatrixSpec)

/-- ITS FALSE NEIGHBOUR: 'it returns false'. Refute it at one input. -/
def fnMatrixWrong : ChangeSpec := { name := "fnMatrix", fn := fun _ => fun
  | [d] => { results := [.lit (.bool false)], args := [d] }
  | _ => none }
def FnMatrixWrongFalsely : Prop := fnMatrixRow.holds Try.pinned (OpenSpec.ofChange fnMatrixWrong)

/-- 'laws.FnSuspects': WHATEVER THE INPUT: true; the input reads as it did. -/
def fnSuspectsSpec : ChangeSpec := { name := "fnSuspects", fn := fun _ => fun
  | [d] => { results := [.lit (.bool true)], args := [d] }
  | _ => none }
def fnSuspectsRow : OpenClaim := { program := "ytnoccadolcgifaa", sum := "61e32e4db524e714f17823cd69caaf62dd40f9f02ea2cafbfc64b0c243983906", func := "loop.example/g00876/laws.FnSuspects", spec := "fnSuspects", unfollowed := true, recurses := true, apart := false }
def FnSuspectsSaid : Prop := fnSuspectsRow.holds Try.pinned (OpenSpec.ofChange fnSuspectsSpec)

/-- ITS FALSE NEIGHBOUR: 'it returns false'. Refute it at one input. -/
def fnSuspectsWrong : ChangeSpec := { name := "fnSuspects", fn := fun _ => fun
  | [d] => { results := [.lit (.bool false)], args := [d] }
  | _ => none }
def FnSuspectsWrongFalsely : Prop := fnSuspectsRow.holds Try.pinned (OpenSpec.ofChange fnSuspectsWrong)

/-- 'laws.FnDoubts': WHATEVER THE INPUT: true; the input reads as it did. -/
def fnDoubtsSpec : ChangeSpec := { name := "fnDoubts", fn := fun _ => fun
  | [d] => { results := [.lit (.bool true)], args := [d] }
  | _ => none }
def fnDoubtsRow : OpenClaim := { program := "ytnoccadolcgifaa", sum := "61e32e4db524e714f17823cd69caaf62dd40f9f02ea2cafbfc64b0c243983906", func := "loop.example/g00876/laws.FnDoubts", spec := "fnDoubts", unfollowed := true, recurses := true, apart := false }
def FnDoubtsSaid : Prop := fnDoubtsRow.holds Try.pinned (OpenSpec.ofChange fnDoubtsSpec)

/-- ITS FALSE NEIGHBOUR: 'it returns false'. Refute it at one input. -/
def fnDoubtsWrong : ChangeSpec := { name := "fnDoubts", fn := fun _ => fun
  | [d] => { results := [.lit (.bool false)], args := [d] }
  | _ => none }
def FnDoubtsWrongFalsely : Prop := fnDoubtsRow.holds Try.pinned (OpenSpec.ofChange fnDoubtsWrong)

/-- 'laws.FnLightest': WHATEVER THE INPUT: true; the input reads as it did. -/
def fnLightestSpec : ChangeSpec := { name := "fnLightest", fn := fun _ => fun
  | [d] => { results := [.lit (.bool true)], args := [d] }
  | _ => none }
def fnLightestRow : OpenClaim := { program := "ytnoccadolcgifaa", sum := "61e32e4db524e714f17823cd69caaf62dd40f9f02ea2cafbfc64b0c243983906", func := "loop.example/g00876/laws.FnLightest", spec := "fnLightest", unfollowed := true, recurses := true, apart := false }
def FnLightestSaid : Prop := fnLightestRow.holds Try.pinned (OpenSpec.ofChange fnLightestSpec)

/-- ITS FALSE NEIGHBOUR: 'it returns false'. Refute it at one input. -/
def fnLightestWrong : ChangeSpec := { name := "fnLightest", fn := fun _ => fun
  | [d] => { results := [.lit (.bool false)], args := [d] }
  | _ => none }
def FnLightestWrongFalsely : Prop := fnLightestRow.holds Try.pinned (OpenSpec.ofChange fnLightestWrong)

/-- 'laws.FnChronology': WHATEVER THE INPUT: true; the input reads as it did. -/
def fnChronologySpec : ChangeSpec := { name := "fnChronology", fn := fun _ => fun
  | [d] => { results := [.lit (.bool true)], args := [d] }
  | _ => none }
def fnChronologyRow : OpenClaim := { program := "ytnoccadolcgifaa", sum := "61e32e4db524e714f17823cd69caaf62dd40f9f02ea2cafbfc64b0c243983906", func := "loop.example/g00876/laws.FnChronology", spec := "fnChronology", unfollowed := true, recurses := true, apart := false }
def FnChronologySaid : Prop := fnChronologyRow.holds Try.pinned (OpenSpec.ofChange fnChronologySpec)

/-- ITS FALSE NEIGHBOUR: 'it returns false'. Refute it at one input. -/
def fnChronologyWrong : ChangeSpec := { name := "fnChronology", fn := fun _ => fun
  | [d] => { results := [.lit (.bool false)], args := [d] }
  | _ => none }
def FnChronologyWrongFalsely : Prop := fnChronologyRow.holds Try.pinned (OpenSpec.ofChange fnChronologyWrong)

/- THE SECOND FORM. 'bulk': how many values and letters a reading holds, each counted each time it is reached (what is shared counts as often as it is met; a slice's spare places count too). A statement '..UptoSaid' is the law's where the arguments, and the package variables that the reading takes, are together of bulk at most 1048576: NARROWER than '..Said'. Prove '..Said' where nothing that the law and all that it calls make is longer than what came in: it says more and counts as full. Else prove '..UptoSaid'. A law counts once. -/
mutual
def uptoBulk {H : Type} : DataW H → Nat
  | .lit (.string bytes) => bytes.length + 1
  | .lit _ => 1
  | .nil => 1
  | .ptr d => uptoBulk d + 1
  | .slice elems spare => uptoBulkAll elems + uptoBulkAll spare + 1
  | .agg parts => uptoBulkAll parts + 1
  | .iface _ d => uptoBulk d + 1
  | .map entries => uptoBulkEntries entries + 1
  | .held _ => 1
def uptoBulkAll {H : Type} : List (DataW H) → Nat
  | [] => 0
  | d :: r => uptoBulk d + uptoBulkAll r
def uptoBulkEntries {H : Type} : List (Lit × DataW H) → Nat
  | [] => 0
  | x :: r => uptoBulkEntry x + uptoBulkEntries r
def uptoBulkEntry {H : Type} : Lit × DataW H → Nat
  | (.string bytes, d) => bytes.length + uptoBulk d + 1
  | (_, d) => uptoBulk d + 1
 end
def uptoSmall : (H : Type) → List (DataW H) → Bool := fun _ ds => decide (uptoBulkAll ds ≤ 1048576)
def OpenSpec.upto (s : _root_.Go.ChangeSpec) : _root_.Go.OpenSpec := { _root_.Go.OpenSpec.ofChange s with cond := some uptoSmall }

/-- 'laws.FnMatrix', WHERE WHAT IT READS IS OF BULK AT MOST 1048576: true; the input reads as it did. -/
def fnMatrixUptoRow : OpenClaim := { program := "ytnoccadolcgifaa", sum := "61e32e4db524e714f17823cd69caaf62dd40f9f02ea2cafbfc64b0c243983906", func := "loop.example/g00876/laws.FnMatrix", spec := "fnMatrix", unfollowed := true, recurses := true, apart := false, narrowed := true }
def FnMatrixUptoSaid : Prop := fnMatrixUptoRow.holds Try.pinned (OpenSpec.upto fnMatrixSpec)

/-- 'laws.FnSuspects', WHERE WHAT IT READS IS OF BULK AT MOST 1048576: true; the input reads as it did. -/
def fnSuspectsUptoRow : OpenClaim := { program := "ytnoccadolcgifaa", sum := "61e32e4db524e714f17823cd69caaf62dd40f9f02ea2cafbfc64b0c243983906", func := "loop.example/g00876/laws.FnSuspects", spec := "fnSuspects", unfollowed := true, recurses := true, apart := false, narrowed := true }
def FnSuspectsUptoSaid : Prop := fnSuspectsUptoRow.holds Try.pinned (OpenSpec.upto fnSuspectsSpec)

/-- 'laws.FnDoubts', WHERE WHAT IT READS IS OF BULK AT MOST 1048576: true; the input reads as it did. -/
def fnDoubtsUptoRow : OpenClaim := { program := "ytnoccadolcgifaa", sum := "61e32e4db524e714f17823cd69caaf62dd40f9f02ea2cafbfc64b0c243983906", func := "loop.example/g00876/laws.FnDoubts", spec := "fnDoubts", unfollowed := true, recurses := true, apart := false, narrowed := true }
def FnDoubtsUptoSaid : Prop := fnDoubtsUptoRow.holds Try.pinned (OpenSpec.upto fnDoubtsSpec)

/-- 'laws.FnLightest', WHERE WHAT IT READS IS OF BULK AT MOST 1048576: true; the input reads as it did. -/
def fnLightestUptoRow : OpenClaim := { program := "ytnoccadolcgifaa", sum := "61e32e4db524e714f17823cd69caaf62dd40f9f02ea2cafbfc64b0c243983906", func := "loop.example/g00876/laws.FnLightest", spec := "fnLightest", unfollowed := true, recurses := true, apart := false, narrowed := true }
def FnLightestUptoSaid : Prop := fnLightestUptoRow.holds Try.pinned (OpenSpec.upto fnLightestSpec)

/-- 'laws.FnChronology', WHERE WHAT IT READS IS OF BULK AT MOST 1048576: true; the input reads as it did. -/
def fnChronologyUptoRow : OpenClaim := { program := "ytnoccadolcgifaa", sum := "61e32e4db524e714f17823cd69caaf62dd40f9f02ea2cafbfc64b0c243983906", func := "loop.example/g00876/laws.FnChronology", spec := "fnChronology", unfollowed := true, recurses := true, apart := false, narrowed := true }
def FnChronologyUptoSaid : Prop := fnChronologyUptoRow.holds Try.pinned (OpenSpec.upto fnChronologySpec)

end Rows
end Go.Proofs.Ytnoccadolcgifaa
