/-
  No cell of these rows narrows 'for every input' (looked for: loops, veiled, ifaces, maps, wideKeys, modest, calm, conditions, laid).
  DERIVED. THE GIVEN ROWS OF THIS SEAT. 10 by the template 'for every input the law returns true; each argument reads behind the call as it read before'; 0 by the template 'total and deterministic' (their statements: YtdoaceeakjbgfaaTotals.lean).
  GIVEN WITH THE SEED: the statements are not yours to turn. If you find one false, say at which input.
  Laid BY PROGRAM, IN A SANDBOX (cutbox-rows.mjs): the forced cells as the released guide's own fill.sh prints them over the translation e6da7b3e26bf317e… (all of the seat's roots in one cut). By AI agents, Wed Nov 11 2026. No macro, syntax, notation, axiom, sorry.
-/
import Derived.Test.YtdoaceeakjbgfaaChecked
import GoSem.Claim
import GoSem.ClaimJoined
import GoSem.ClaimMapViews
import Derived.JoinedTies
import Derived.KernelRfl
namespace Go.Proofs.Ytdoaceeakjbgfaa
/- THE CELL 'sum', in the pinned program and in every row, IS THE sha256 OF THE DUMP (.gsa) THAT YtdoaceeakjbgfaaProg.lean LOADS. Nothing in Lean hashes anything: it is a label: what it is worth is what the hold of that sum in a sandbox is worth. -/
noncomputable def Try.pinned : Pinned := { name := "ytdoaceeakjbgfaa", sum := "e6da7b3e26bf317eb7de2a49c6eb443110ff0dfc8a72c08777470a8f3f80cb7a", checked := Try.checked }
namespace Rows
def none {H : Type} : Left H := { results := [], args := [] }

/-- 'laws.FnSequences': WHATEVER THE INPUT: true; the input reads as it did. -/
def fnSequencesSpec : ChangeSpec := { name := "fnSequences", fn := fun _ => fun
  | [d] => { results := [.lit (.bool true)], args := [d] }
  | _ => none }
def fnSequencesRow : OpenClaim := { program := "ytdoaceeakjbgfaa", sum := "e6da7b3e26bf317eb7de2a49c6eb443110ff0dfc8a72c08777470a8f3f80cb7a", func := "loop.example/g00876/laws.FnSequences", spec := "fnSequences", unfollowed := true, recurses := true, apart := false }
def FnSequencesSaid : Prop := fnSequencesRow.holds Try.pinned (OpenSpec.ofChange fnSequencesSpec)

/-- ITS FALSE NEIGHBOUR: 'it returns false'. Refute it at one input. -/
def fnSequencesWrong : ChangeSpec := { name := "fnSequences", fn := fun _ => fun
  | [d] => { results := [.lit (.bool false)], args := [d] }
  | _ => none }
def FnSequencesWrongFalsely : Prop := fnSequencesRow.holds Try.pinned (OpenSpec.ofChange fnSequencesWrong)

/-- 'laws.FnDoubts': WHATEVER THE INPUT: true; the input reads as it did. -/
def fnDoubtsSpec : ChangeSpec := { name := "fnDoubts", fn := fun _ => fun
  | [d] => { results := [.lit (.bool true)], args := [d] }
  | _ => none }
def fnDoubtsRow : OpenClaim := { program := "ytdoaceeakjbgfaa", sum := "e6da7b3e26bf317eb7de2a49c6eb443110ff0dfc8a72c08777470a8f3f80cb7a", func := "loop.example/g00876/laws.FnDoubts", spec := "fnDoubts", unfollowed := true, recurses := true, apart := false }
def FnDoubtsSaid : Prop := fnDoubtsRow.holds Try.pinned (OpenSpec.ofChange fnDoubtsSpec)

/-- ITS FALSE NEIGHBOUR: 'it returns false'. Refute it at one input. -/
def fnDoubtsWrong : ChangeSpec := { name := "fnDoubts", fn := fun _ => fun
  | [d] => { results := [.lit (.bool false)], args := [d] }
  | _ => none }
def FnDoubtsWrongFalsely : Prop := fnDoubtsRow.holds Try.pinned (OpenSpec.ofChange fnDoubtsWrong)

/-- 'laws.FnDates': WHATEVER THE INPUT: true; the input reads as it did. -/
def fnDatesSpec : ChangeSpec := { name := "fnDates", fn := fun _ => fun
  | [d] => { results := [.lit (.bool true)], args := [d] }
  | _ => none }
def fnDatesRow : OpenClaim := { program := "ytdoaceeakjbgfaa", sum := "e6da7b3e26bf317eb7de2a49c6eb443110ff0dfc8a72c08777470a8f3f80cb7a", func := "loop.example/g00876/laws.FnDates", spec := "fnDates", unfollowed := true, recurses := true, apart := false }
def FnDatesSaid : Prop := fnDatesRow.holds Try.pinned (OpenSpec.ofChange fnDatesSpec)

/-- ITS FALSE NEIGHBOUR: 'it returns false'. Refute it at one input. -/
def fnDatesWrong : ChangeSpec := { name := "fnDates", fn := fun _ => fun
  | [d] => { results := [.lit (.bool false)], args := [d] }
  | _ => none }
def FnDatesWrongFalsely : Prop := fnDatesRow.holds Try.pinned (OpenSpec.ofChange fnDatesWrong)

/-- 'laws.FnSuspects': WHATEVER THE INPUT: true; the input reads as it did. -/
def fnSuspectsSpec : ChangeSpec := { name := "fnSuspects", fn := fun _ => fun
  | [d] => { results := [.lit (.bool true)], args := [d] }
  | _ => none }
def fnSuspectsRow : OpenClaim := { program := "ytdoaceeakjbgfaa", sum := "e6da7b3e26bf317eb7de2a49c6eb443110ff0dfc8a72c08777470a8f3f80cb7a", func := "loop.example/g00876/laws.FnSuspects", spec := "fnSuspects", unfollowed := true, recurses := true, apart := false }
def FnSuspectsSaid : Prop := fnSuspectsRow.holds Try.pinned (OpenSpec.ofChange fnSuspectsSpec)

/-- ITS FALSE NEIGHBOUR: 'it returns false'. Refute it at one input. -/
def fnSuspectsWrong : ChangeSpec := { name := "fnSuspects", fn := fun _ => fun
  | [d] => { results := [.lit (.bool false)], args := [d] }
  | _ => none }
def FnSuspectsWrongFalsely : Prop := fnSuspectsRow.holds Try.pinned (OpenSpec.ofChange fnSuspectsWrong)

/-- 'laws.FnCycle': WHATEVER THE INPUT: true; the input reads as it did. -/
def fnCycleSpec : ChangeSpec := { name := "fnCycle", fn := fun _ => fun
  | [d] => { results := [.lit (.bool true)], args := [d] }
  | _ => none }
def fnCycleRow : OpenClaim := { program := "ytdoaceeakjbgfaa", sum := "e6da7b3e26bf317eb7de2a49c6eb443110ff0dfc8a72c08777470a8f3f80cb7a", func := "loop.example/g00876/laws.FnCycle", spec := "fnCycle", unfollowed := true, recurses := true, apart := false }
def FnCycleSaid : Prop := fnCycleRow.holds Try.pinned (OpenSpec.ofChange fnCycleSpec)

/-- ITS FALSE NEIGHBOUR: 'it returns false'. Refute it at one input. -/
def fnCycleWrong : ChangeSpec := { name := "fnCycle", fn := fun _ => fun
  | [d] => { results := [.lit (.bool false)], args := [d] }
  | _ => none }
def FnCycleWrongFalsely : Prop := fnCycleRow.holds Try.pinned (OpenSpec.ofChange fnCycleWrong)

/-- 'laws.FnOrder': WHATEVER THE INPUT: true; the input reads as it did. -/
def fnOrderSpec : ChangeSpec := { name := "fnOrder", fn := fun _ => fun
  | [d] => { results := [.lit (.bool true)], args := [d] }
  | _ => none }
def fnOrderRow : OpenClaim := { program := "ytdoaceeakjbgfaa", sum := "e6da7b3e26bf317eb7de2a49c6eb443110ff0dfc8a72c08777470a8f3f80cb7a", func := "loop.example/g00876/laws.FnOrder", spec := "fnOrder", unfollowed := true, recurses := true, apart := false }
def FnOrderSaid : Prop := fnOrderRow.holds Try.pinned (OpenSpec.ofChange fnOrderSpec)

/-- ITS FALSE NEIGHBOUR: 'it returns false'. Refute it at one input. -/
def fnOrderWrong : ChangeSpec := { name := "fnOrder", fn := fun _ => fun
  | [d] => { results := [.lit (.bool false)], args := [d] }
  | _ => none }
def FnOrderWrongFalsely : Prop := fnOrderRow.holds Try.pinned (OpenSpec.ofChange fnOrderWrong)

/-- 'laws.FnPlaces': WHATEVER THE INPUT: true; the input reads as it did. -/
def fnPlacesSpec : ChangeSpec := { name := "fnPlaces", fn := fun _ => fun
  | [d] => { results := [.lit (.bool true)], args := [d] }
  | _ => none }
def fnPlacesRow : OpenClaim := { program := "ytdoaceeakjbgfaa", sum := "e6da7b3e26bf317eb7de2a49c6eb443110ff0dfc8a72c08777470a8f3f80cb7a", func := "loop.example/g00876/laws.FnPlaces", spec := "fnPlaces", unfollowed := true, recurses := true, apart := false }
def FnPlacesSaid : Prop := fnPlacesRow.holds Try.pinned (OpenSpec.ofChange fnPlacesSpec)

/-- ITS FALSE NEIGHBOUR: 'it returns false'. Refute it at one input. -/
def fnPlacesWrong : ChangeSpec := { name := "fnPlaces", fn := fun _ => fun
  | [d] => { results := [.lit (.bool false)], args := [d] }
  | _ => none }
def FnPlacesWrongFalsely : Prop := fnPlacesRow.holds Try.pinned (OpenSpec.ofChange fnPlacesWrong)

/-- 'laws.FnMatrix': WHATEVER THE INPUT: true; the input reads as it did. -/
def fnMatrixSpec : ChangeSpec := { name := "fnMatrix", fn := fun _ => fun
  | [d] => { results := [.lit (.bool true)], args := [d] }
  | _ => none }
def fnMatrixRow : OpenClaim := { program := "ytdoaceeakjbgfaa", sum := "e6da7b3e26bf317eb7de2a49c6eb443110ff0dfc8a72c08777470a8f3f80cb7a", func := "loop.example/g00876/laws.FnMatrix", spec := "fnMatrix", unfollowed := true, recurses := true, apart := false }
def FnMatrixSaid : Prop := fnMatrixRow.holds Try.pinned (OpenSpec.ofChange fnMatrixSpec)

/-- ITS FALSE NEIGHBOUR: 'it returns false'. Refute it at one input. -/
def fnMatrixWrong : ChangeSpec := { name := "fnMatrix", fn := fun _ => fun
  | [d] => { results := [.lit (.bool false)], args := [d] }
  | _ => none }
def FnMatrixWrongFalsely : Prop := fnMatrixRow.holds Try.pinned (OpenSpec.ofChange fnMatrixWrong)

/-- 'laws.FnLightest': WHATEVER THE INPUT: true; the input reads as it did. -/
def fnLightestSpec : ChangeSpec := { name := "fnLightest", fn := fun _ => fun
  | [d] => { results := [.lit (.bool true)], args := [d] }
  | _ => none }
def fnLightestRow : OpenClaim := { program := "ytdoaceeakjbgfaa", sum := "e6da7b3e26bf317eb7de2a49c6eb443110ff0dfc8a72c08777470a8f3f80cb7a", func := "loop.example/g00876/laws.FnLightest", spec := "fnLightest", unfollowed := true, recurses := true, apart := false }
def FnLightestSaid : Prop := fnLightestRow.holds Try.pinned (OpenSpec.ofChange fnLightestSpec)

/-- ITS FALSE NEIGHBOUR: 'it returns false'. Refute it at one input. -/
def fnLightestWrong : ChangeSpec := { name := "fnLightest", fn := fun _ => fun
  | [d] => { results := [.lit (.bool false)], args := [d] }
  | _ => none }
def FnLightestWrongFalsely : Prop := fnLightestRow.holds Try.pinned (OpenSpec.ofChange fnLightestWrong)

/-- 'laws.FnChronology': WHATEVER THE INPUT: true; the input reads as it did. -/
def fnChronologySpec : ChangeSpec := { name := "fnChronology", fn := fun _ => fun
  | [d] => { results := [.lit (.bool true)], args := [d] }
  | _ => none }
def fnChronologyRow : OpenClaim := { program := "ytdoaceeakjbgfaa", sum := "e6da7b3e26bf317eb7de2a49c6eb443110ff0dfc8a72c08777470a8f3f80cb7a", func := "loop.example/g00876/laws.FnChronology", spec := "fnChronology", unfollowed := true, recurses := true, apart := false }
def FnChronologySaid : Prop := fnChronologyRow.holds Try.pinned (OpenSpec.ofChange fnChronologySpec)

/-- ITS FALSE NEIGHBOUR: 'it returns false'. Refute it at one input. -/
def fnChronologyWrong : ChangeSpec := { name := "fnChronology", fn := fun _ => fun
  | [d] => { results := [.lit (.bool false)], args := [d] }
  | _ => none }
def FnChronologyWrongFalsely : Prop := fnChronologyRow.holds Try.pinned (OpenSpec.ofChange fnChronologyWrong)

/- THE SECOND FORM. 'bulk': how many values and letters a reading holds, each counted each time it is reached (what is shared counts as often as it is met; a slice's spare places count too). A statement '..UptoSaid' is the law's where the arguments, and the package variables that the reading takes, are together of bulk at most 1048576: NARROWER than '..Said'. Prove '..Said' where nothing that the law and all that it calls make is longer than what came in: it says more and counts as full. Else prove '..UptoSaid'. A law counts once. -/
mutual
def uptoBulk {H : Type} : DataW H → Nat
  | .lit (.string bytes) => bytes.length + 1
  | .lit _ => 1
  | .nil => 1
  | .ptr d => uptoBulk d + 1
  | .slice elems spare => uptoBulkAll elems + uptoBulkAll spare + 1
  | .agg parts => uptoBulkAll parts + 1
  | .iface _ d => uptoBulk d + 1
  | .map entries => uptoBulkEntries entries + 1
  | .held _ => 1
def uptoBulkAll {H : Type} : List (DataW H) → Nat
  | [] => 0
  | d :: r => uptoBulk d + uptoBulkAll r
def uptoBulkEntries {H : Type} : List (Lit × DataW H) → Nat
  | [] => 0
  | x :: r => uptoBulkEntry x + uptoBulkEntries r
def uptoBulkEntry {H : Type} : Lit × DataW H → Nat
  | (.string bytes, d) => bytes.length + uptoBulk d + 1
  | (_, d) => uptoBulk d + 1
 end
def uptoSmall : (H : Type) → List (DataW H) → Bool := fun _ ds => decide (uptoBulkAll ds ≤ 1048576)
def OpenSpec.upto (s : _root_.Go.ChangeSpec) : _root_.Go.OpenSpec := { _root_.Go.OpenSpec.ofChange s with cond := some uptoSmall }

/-- 'laws.FnSequences', WHERE WHAT IT READS IS OF BULK AT MOST 1048576: true; the input reads as it did. -/
def fnSequencesUptoRow : OpenClaim := { program := "ytdoaceeakjbgfaa", sum := "e6da7b3e26bf317eb7de2a49c6eb443110ff0dfc8a72c08777470a8f3f80cb7a", func := "loop.example/g00876/laws.FnSequences", spec := "fnSequences", unfollowed := true, recurses := true, apart := false, narrowed := true }
def FnSequencesUptoSaid : Prop := fnSequencesUptoRow.holds Try.pinned (OpenSpec.upto fnSequencesSpec)

/-- 'laws.FnDoubts', WHERE WHAT IT READS IS OF BULK AT MOST 1048576: true; the input reads as it did. -/
def fnDoubtsUptoRow : OpenClaim := { program := "ytdoaceeakjbgfaa", sum := "e6da7b3e26bf317eb7de2a49c6eb443110ff0dfc8a72c08777470a8f3f80cb7a", func := "loop.example/g00876/laws.FnDoubts", spec := "fnDoubts", unfollowed := true, recurses := true, apart := false, narrowed := true }
def FnDoubtsUptoSaid : Prop := fnDoubtsUptoRow.holds Try.pinned (OpenSpec.upto fnDoubtsSpec)

/-- 'laws.FnDates', WHERE WHAT IT READS IS OF BULK AT MOST 1048576: true; the input reads as it did. -/
def fnDatesUptoRow : OpenClaim := { program := "ytdoaceeakjbgfaa", sum := "e6da7b3e26bf317eb7de2a49c6eb443110ff0dfc8a72c08777470a8f3f80cb7a", func := "loop.example/g00876/laws.FnDates", spec := "fnDates", unfollowed := true, recurses := true, apart := false, narrowed := true }
def FnDatesUptoSaid : Prop := fnDatesUptoRow.holds Try.pinned (OpenSpec.upto fnDatesSpec)

/-- 'laws.FnSuspects', WHERE WHAT IT READS IS OF BULK AT MOST 1048576: true; the input reads as it did. -/
def fnSuspectsUptoRow : OpenClaim := { program := "ytdoaceeakjbgfaa", sum := "e6da7b3e26bf317eb7de2a49c6eb443110ff0dfc8a72c08777470a8f3f80cb7a", func := "loop.example/g00876/laws.FnSuspects", spec := "fnSuspects", unfollowed := true, recurses := true, apart := false, narrowed := true }
def FnSuspectsUptoSaid : Prop := fnSuspectsUptoRow.holds Try.pinned (OpenSpec.upto fnSuspectsSpec)

/-- 'laws.FnCycle', WHERE WHAT IT READS IS OF BULK AT MOST 1048576: true; the input reads as it did. -/
def fnCycleUptoRow : OpenClaim := { program := "ytdoaceeakjbgfaa", sum := "e6da7b3e26bf317eb7de2a49c6eb443110ff0dfc8a72c08777470a8f3f80cb7a", func := "loop.example/g00876/laws.FnCycle", spec := "fnCycle", unfollowed := true, recurses := true, apart := false, narrowed := true }
def FnCycleUptoSaid : Prop := fnCycleUptoRow.holds Try.pinned (OpenSpec.upto fnCycleSpec)

/-- 'laws.FnOrder', WHERE WHAT IT READS IS OF BULK AT MOST 1048576: true; the input reads as it did. -/
def fnOrderUptoRow : OpenClaim := { program := "ytdoaceeakjbgfaa", sum := "e6da7b3e26bf317eb7de2a49c6eb443110ff0dfc8a72c08777470a8f3f80cb7a", func := "loop.example/g00876/laws.FnOrder", spec := "fnOrder", unfollowed := true, recurses := true, apart := false, narrowed := true }
def FnOrderUptoSaid : Prop := fnOrderUptoRow.holds Try.pinned (OpenSpec.upto fnOrderSpec)

/-- 'laws.FnPlaces', WHERE WHAT IT READS IS OF BULK AT MOST 1048576: true; the input reads as it did. -/
def fnPlacesUptoRow : OpenClaim := { program := "ytdoaceeakjbgfaa", sum := "e6da7b3e26bf317eb7de2a49c6eb443110ff0dfc8a72c08777470a8f3f80cb7a", func := "loop.example/g00876/laws.FnPlaces", spec := "fnPlaces", unfollowed := true, recurses := true, apart := false, narrowed := true }
def FnPlacesUptoSaid : Prop := fnPlacesUptoRow.holds Try.pinned (OpenSpec.upto fnPlacesSpec)

/-- 'laws.FnMatrix', WHERE WHAT IT READS IS OF BULK AT MOST 1048576: true; the input reads as it did. -/
def fnMatrixUptoRow : OpenClaim := { program := "ytdoaceeakjbgfaa", sum := "e6da7b3e26bf317eb7de2a49c6eb443110ff0dfc8a72c08777470a8f3f80cb7a", func := "loop.example/g00876/laws.FnMatrix", spec := "fnMatrix", unfollowed := true, recurses := true, apart := false, narrowed := true }
def FnMatrixUptoSaid : Prop := fnMatrixUptoRow.holds Try.pinned (OpenSpec.upto fnMatrixSpec)

/-- 'laws.FnLightest', WHERE WHAT IT READS IS OF BULK AT MOST 1048576: true; the input reads as it did. -/
def fnLightestUptoRow : OpenClaim := { program := "ytdoaceeakjbgfaa", sum := "e6da7b3e26bf317eb7de2a49c6eb443110ff0dfc8a72c08777470a8f3f80cb7a", func := "loop.example/g00876/laws.FnLightest", spec := "fnLightest", unfollowed := true, recurses := true, apart := false, narrowed := true }
def FnLightestUptoSaid : Prop := fnLightestUptoRow.holds Try.pinned (OpenSpec.upto fnLightestSpec)

/-- 'laws.FnChronology', WHERE WHAT IT READS IS OF BULK AT MOST 1048576: true; the input reads as it did. -/
def fnChronologyUptoRow : OpenClaim := { program := "ytdoaceeakjbgfaa", sum := "e6da7b3e26bf317eb7de2a49c6eb443110ff0dfc8a72c08777470a8f3f80cb7a", func := "loop.example/g00876/laws.FnChronology", spec := "fnChronology", unfollowed := true, recurses := true, apart := false, narrowed := true }
def FnChronologyUptoSaid : Prop := fnChronologyUptoRow.holds Try.pinned (OpenSpec.upto fnChronologySpec)

end Rows
end Go.Proofs.Ytdoaceeakjbgfaa
