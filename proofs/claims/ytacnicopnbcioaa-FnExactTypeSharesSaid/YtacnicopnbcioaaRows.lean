/-
  No cell of these rows narrows 'for every input' (looked for: loops, veiled, ifaces, maps, wideKeys, modest, calm, conditions, laid).
  DERIVED. THE GIVEN ROWS OF THIS SEAT. 4 by the template 'for every input the law returns true; each argument reads behind the call as it read before'; 0 by the template 'total and deterministic' (their statements: YtacnicopnbcioaaTotals.lean).
  GIVEN WITH THE SEED: the statements are not yours to turn. If you find one false, say at which input.
  Laid BY PROGRAM, IN A SANDBOX (cutbox-rows.mjs): the forced cells as the released guide's own fill.sh prints them over the translation 5da77edefb04b8f1… (all of the seat's roots in one cut). By AI agents, Wed Nov 11 2026. No macro, syntax, notation, axiom, sorry.
-/
import Derived.Test.YtacnicopnbcioaaChecked
import GoSem.Claim
import GoSem.ClaimJoined
import GoSem.ClaimMapViews
import Derived.JoinedTies
import Derived.KernelRfl
namespace Go.Proofs.Ytacnicopnbcioaa
/- THE CELL 'sum', in the pinned program and in every row, IS THE sha256 OF THE DUMP (.gsa) THAT YtacnicopnbcioaaProg.lean LOADS. Nothing in Lean hashes anything: it is a label: what it is worth is what the hold of that sum in a sandbox is worth. -/
noncomputable def Try.pinned : Pinned := { name := "ytacnicopnbcioaa", sum := "5da77edefb04b8f1f899dc500451a9dc009ef29a9034ca819df82003989f7641", checked := Try.checked }
namespace Rows
def none {H : Type} : Left H := { results := [], args := [] }

/-- 'laws.FnExactFindTypes': WHATEVER THE INPUT: true; the input reads as it did. -/
def fnExactFindTypesSpec : ChangeSpec := { name := "fnExactFindTypes", fn := fun _ => fun
  | [d] => { results := [.lit (.bool true)], args := [d] }
  | _ => none }
def fnExactFindTypesRow : OpenClaim := { program := "ytacnicopnbcioaa", sum := "5da77edefb04b8f1f899dc500451a9dc009ef29a9034ca819df82003989f7641", func := "loop.example/g00876/laws.FnExactFindTypes", spec := "fnExactFindTypes", recurses := true, apart := false }
def FnExactFindTypesSaid : Prop := fnExactFindTypesRow.holds Try.pinned (OpenSpec.ofChange fnExactFindTypesSpec)

/-- ITS FALSE NEIGHBOUR: 'it returns false'. Refute it at one input. -/
def fnExactFindTypesWrong : ChangeSpec := { name := "fnExactFindTypes", fn := fun _ => fun
  | [d] => { results := [.lit (.bool false)], args := [d] }
  | _ => none }
def FnExactFindTypesWrongFalsely : Prop := fnExactFindTypesRow.holds Try.pinned (OpenSpec.ofChange fnExactFindTypesWrong)

/-- 'laws.FnExactCommonTypes': WHATEVER THE INPUT: true; the input reads as it did. -/
def fnExactCommonTypesSpec : ChangeSpec := { name := "fnExactCommonTypes", fn := fun _ => fun
  | [d1, d2, d3] => { results := [.lit (.bool true)], args := [d1, d2, d3] }
  | _ => none }
def fnExactCommonTypesRow : OpenClaim := { program := "ytacnicopnbcioaa", sum := "5da77edefb04b8f1f899dc500451a9dc009ef29a9034ca819df82003989f7641", func := "loop.example/g00876/laws.FnExactCommonTypes", spec := "fnExactCommonTypes", unfollowed := true, recurses := true, apart := false }
def FnExactCommonTypesSaid : Prop := fnExactCommonTypesRow.holds Try.pinned (OpenSpec.ofChange fnExactCommonTypesSpec)

/-- ITS FALSE NEIGHBOUR: 'it returns false'. Refute it at one input. -/
def fnExactCommonTypesWrong : ChangeSpec := { name := "fnExactCommonTypes", fn := fun _ => fun
  | [d1, d2, d3] => { results := [.lit (.bool false)], args := [d1, d2, d3] }
  | _ => none }
def FnExactCommonTypesWrongFalsely : Prop := fnExactCommonTypesRow.holds Try.pinned (OpenSpec.ofChange fnExactCommonTypesWrong)

/-- 'laws.FnExactTypeShares': WHATEVER THE INPUT: true; the input reads as it did. -/
def fnExactTypeSharesSpec : ChangeSpec := { name := "fnExactTypeShares", fn := fun _ => fun
  | [d1, d2] => { results := [.lit (.bool true)], args := [d1, d2] }
  | _ => none }
def fnExactTypeSharesRow : OpenClaim := { program := "ytacnicopnbcioaa", sum := "5da77edefb04b8f1f899dc500451a9dc009ef29a9034ca819df82003989f7641", func := "loop.example/g00876/laws.FnExactTypeShares", spec := "fnExactTypeShares", unfollowed := true, recurses := true, apart := false }
def FnExactTypeSharesSaid : Prop := fnExactTypeSharesRow.holds Try.pinned (OpenSpec.ofChange fnExactTypeSharesSpec)

/-- ITS FALSE NEIGHBOUR: 'it returns false'. Refute it at one input. -/
def fnExactTypeSharesWrong : ChangeSpec := { name := "fnExactTypeShares", fn := fun _ => fun
  | [d1, d2] => { results := [.lit (.bool false)], args := [d1, d2] }
  | _ => none }
def FnExactTypeSharesWrongFalsely : Prop := fnExactTypeSharesRow.holds Try.pinned (OpenSpec.ofChange fnExactTypeSharesWrong)

/-- 'laws.FnExactAddFind': WHATEVER THE INPUT: true; the input reads as it did. -/
def fnExactAddFindSpec : ChangeSpec := { name := "fnExactAddFind", fn := fun _ => fun
  | [d1, d2] => { results := [.lit (.bool true)], args := [d1, d2] }
  | _ => none }
def fnExactAddFindRow : OpenClaim := { program := "ytacnicopnbcioaa", sum := "5da77edefb04b8f1f899dc500451a9dc009ef29a9034ca819df82003989f7641", func := "loop.example/g00876/laws.FnExactAddFind", spec := "fnExactAddFind", inPlace := ["slices.overlaps[loop.example/g00876/impl.Find]"], unfollowed := true, recurses := true, apart := false }
def FnExactAddFindSaid : Prop := fnExactAddFindRow.holds Try.pinned (OpenSpec.ofChange fnExactAddFindSpec)

/-- ITS FALSE NEIGHBOUR: 'it returns false'. Refute it at one input. -/
def fnExactAddFindWrong : ChangeSpec := { name := "fnExactAddFind", fn := fun _ => fun
  | [d1, d2] => { results := [.lit (.bool false)], args := [d1, d2] }
  | _ => none }
def FnExactAddFindWrongFalsely : Prop := fnExactAddFindRow.holds Try.pinned (OpenSpec.ofChange fnExactAddFindWrong)

/- THE SECOND FORM. 'bulk': how many values and letters a reading holds, each counted each time it is reached (what is shared counts as often as it is met; a slice's spare places count too). A statement '..UptoSaid' is the law's where the arguments, and the package variables that the reading takes, are together of bulk at most 1048576: NARROWER than '..Said'. Prove '..Said' where nothing that the law and all that it calls make is longer than what came in: it says more and counts as full. Else prove '..UptoSaid'. A law counts once. -/
mutual
def uptoBulk {H : Type} : DataW H → Nat
  | .lit (.string bytes) => bytes.length + 1
  | .lit _ => 1
  | .nil => 1
  | .ptr d => uptoBulk d + 1
  | .slice elems spare => uptoBulkAll elems + uptoBulkAll spare + 1
  | .agg parts => uptoBulkAll parts + 1
  | .iface _ d => uptoBulk d + 1
  | .map entries => uptoBulkEntries entries + 1
  | .held _ => 1
def uptoBulkAll {H : Type} : List (DataW H) → Nat
  | [] => 0
  | d :: r => uptoBulk d + uptoBulkAll r
def uptoBulkEntries {H : Type} : List (Lit × DataW H) → Nat
  | [] => 0
  | x :: r => uptoBulkEntry x + uptoBulkEntries r
def uptoBulkEntry {H : Type} : Lit × DataW H → Nat
  | (.string bytes, d) => bytes.length + uptoBulk d + 1
  | (_, d) => uptoBulk d + 1
 end
def uptoSmall : (H : Type) → List (DataW H) → Bool := fun _ ds => decide (uptoBulkAll ds ≤ 1048576)
def OpenSpec.upto (s : _root_.Go.ChangeSpec) : _root_.Go.OpenSpec := { _root_.Go.OpenSpec.ofChange s with cond := some uptoSmall }

/-- 'laws.FnExactFindTypes', WHERE WHAT IT READS IS OF BULK AT MOST 1048576: true; the input reads as it did. -/
def fnExactFindTypesUptoRow : OpenClaim := { program := "ytacnicopnbcioaa", sum := "5da77edefb04b8f1f899dc500451a9dc009ef29a9034ca819df82003989f7641", func := "loop.example/g00876/laws.FnExactFindTypes", spec := "fnExactFindTypes", recurses := true, apart := false, narrowed := true }
def FnExactFindTypesUptoSaid : Prop := fnExactFindTypesUptoRow.holds Try.pinned (OpenSpec.upto fnExactFindTypesSpec)

/-- 'laws.FnExactCommonTypes', WHERE WHAT IT READS IS OF BULK AT MOST 1048576: true; the input reads as it did. -/
def fnExactCommonTypesUptoRow : OpenClaim := { program := "ytacnicopnbcioaa", sum := "5da77edefb04b8f1f899dc500451a9dc009ef29a9034ca819df82003989f7641", func := "loop.example/g00876/laws.FnExactCommonTypes", spec := "fnExactCommonTypes", unfollowed := true, recurses := true, apart := false, narrowed := true }
def FnExactCommonTypesUptoSaid : Prop := fnExactCommonTypesUptoRow.holds Try.pinned (OpenSpec.upto fnExactCommonTypesSpec)

/-- 'laws.FnExactTypeShares', WHERE WHAT IT READS IS OF BULK AT MOST 1048576: true; the input reads as it did. -/
def fnExactTypeSharesUptoRow : OpenClaim := { program := "ytacnicopnbcioaa", sum := "5da77edefb04b8f1f899dc500451a9dc009ef29a9034ca819df82003989f7641", func := "loop.example/g00876/laws.FnExactTypeShares", spec := "fnExactTypeShares", unfollowed := true, recurses := true, apart := false, narrowed := true }
def FnExactTypeSharesUptoSaid : Prop := fnExactTypeSharesUptoRow.holds Try.pinned (OpenSpec.upto fnExactTypeSharesSpec)

/-- 'laws.FnExactAddFind', WHERE WHAT IT READS IS OF BULK AT MOST 1048576: true; the input reads as it did. -/
def fnExactAddFindUptoRow : OpenClaim := { program := "ytacnicopnbcioaa", sum := "5da77edefb04b8f1f899dc500451a9dc009ef29a9034ca819df82003989f7641", func := "loop.example/g00876/laws.FnExactAddFind", spec := "fnExactAddFind", inPlace := ["slices.overlaps[loop.example/g00876/impl.Find]"], unfollowed := true, recurses := true, apart := false, narrowed := true }
def FnExactAddFindUptoSaid : Prop := fnExactAddFindUptoRow.holds Try.pinned (OpenSpec.upto fnExactAddFindSpec)

end Rows
end Go.Proofs.Ytacnicopnbcioaa
