/-
  No cell of these rows narrows 'for every input' (looked for: loops, veiled, ifaces, maps, wideKeys, modest, calm, conditions, laid).
  DERIVED. THE GIVEN ROWS OF THIS SEAT. 6 by the template 'for every input the law returns true; each argument reads behind the call as it read before'; 0 by the template 'total and deterministic' (their statements: YtkcclgcmpdgdjaaTotals.lean).
  GIVEN WITH THE SEED: the statements are not yours to turn. If you find one false, say at which input.
  Laid BY PROGRAM, IN A SANDBOX (cutbox-rows.mjs): the forced cells as the released guide's own fill.sh prints them over the translation 813230d8c9a2a4d2… (all of the seat's roots in one cut). By AI agents, Wed Nov 11 2026. No macro, syntax, notation, axiom, sorry.
-/
import Derived.Test.YtkcclgcmpdgdjaaChecked
import GoSem.Claim
import GoSem.ClaimJoined
import GoSem.ClaimMapViews
import Derived.JoinedTies
import Derived.KernelRfl
namespace Go.Proofs.Ytkcclgcmpdgdjaa
/- THE CELL 'sum', in the pinned program and in every row, IS THE sha256 OF THE DUMP (.gsa) THAT YtkcclgcmpdgdjaaProg.lean LOADS. Nothing in Lean hashes anything: it is a label: what it is worth is what the hold of that sum in a sandbox is worth. -/
noncomputable def Try.pinned : Pinned := { name := "ytkcclgcmpdgdjaa", sum := "813230d8c9a2a4d2f9dde1c8be5610a58f64af7c98553f82448c4b2b28d6be0f", checked := Try.checked }
namespace Rows
def none {H : Type} : Left H := { results := [], args := [] }

/-- 'laws.FnExactIsValidLines': WHATEVER THE INPUT: true; the input reads as it did. -/
def fnExactIsValidLinesSpec : ChangeSpec := { name := "fnExactIsValidLines", fn := fun _ => fun
  | [d1, d2] => { results := [.lit (.bool true)], args := [d1, d2] }
  | _ => none }
def fnExactIsValidLinesRow : OpenClaim := { program := "ytkcclgcmpdgdjaa", sum := "813230d8c9a2a4d2f9dde1c8be5610a58f64af7c98553f82448c4b2b28d6be0f", func := "loop.example/g00876/laws.FnExactIsValidLines", spec := "fnExactIsValidLines", unfollowed := true, recurses := true, apart := false }
def FnExactIsValidLinesSaid : Prop := fnExactIsValidLinesRow.holds Try.pinned (OpenSpec.ofChange fnExactIsValidLinesSpec)

/-- ITS FALSE NEIGHBOUR: 'it returns false'. Refute it at one input. -/
def fnExactIsValidLinesWrong : ChangeSpec := { name := "fnExactIsValidLines", fn := fun _ => fun
  | [d1, d2] => { results := [.lit (.bool false)], args := [d1, d2] }
  | _ => none }
def FnExactIsValidLinesWrongFalsely : Prop := fnExactIsValidLinesRow.holds Try.pinned (OpenSpec.ofChange fnExactIsValidLinesWrong)

/-- 'laws.FnExactSidesCross': WHATEVER THE INPUT: true; the input reads as it did. -/
def fnExactSidesCrossSpec : ChangeSpec := { name := "fnExactSidesCross", fn := fun _ => fun
  | [d1, d2, d3, d4] => { results := [.lit (.bool true)], args := [d1, d2, d3, d4] }
  | _ => none }
def fnExactSidesCrossRow : OpenClaim := { program := "ytkcclgcmpdgdjaa", sum := "813230d8c9a2a4d2f9dde1c8be5610a58f64af7c98553f82448c4b2b28d6be0f", func := "loop.example/g00876/laws.FnExactSidesCross", spec := "fnExactSidesCross", apart := false }
def FnExactSidesCrossSaid : Prop := fnExactSidesCrossRow.holds Try.pinned (OpenSpec.ofChange fnExactSidesCrossSpec)

/-- ITS FALSE NEIGHBOUR: 'it returns false'. Refute it at one input. -/
def fnExactSidesCrossWrong : ChangeSpec := { name := "fnExactSidesCross", fn := fun _ => fun
  | [d1, d2, d3, d4] => { results := [.lit (.bool false)], args := [d1, d2, d3, d4] }
  | _ => none }
def FnExactSidesCrossWrongFalsely : Prop := fnExactSidesCrossRow.holds Try.pinned (OpenSpec.ofChange fnExactSidesCrossWrong)

/-- 'laws.FnExactTraverseEnd': WHATEVER THE INPUT: true; the input reads as it did. -/
def fnExactTraverseEndSpec : ChangeSpec := { name := "fnExactTraverseEnd", fn := fun _ => fun
  | [d1, d2] => { results := [.lit (.bool true)], args := [d1, d2] }
  | _ => none }
def fnExactTraverseEndRow : OpenClaim := { program := "ytkcclgcmpdgdjaa", sum := "813230d8c9a2a4d2f9dde1c8be5610a58f64af7c98553f82448c4b2b28d6be0f", func := "loop.example/g00876/laws.FnExactTraverseEnd", spec := "fnExactTraverseEnd", apart := false }
def FnExactTraverseEndSaid : Prop := fnExactTraverseEndRow.holds Try.pinned (OpenSpec.ofChange fnExactTraverseEndSpec)

/-- ITS FALSE NEIGHBOUR: 'it returns false'. Refute it at one input. -/
def fnExactTraverseEndWrong : ChangeSpec := { name := "fnExactTraverseEnd", fn := fun _ => fun
  | [d1, d2] => { results := [.lit (.bool false)], args := [d1, d2] }
  | _ => none }
def FnExactTraverseEndWrongFalsely : Prop := fnExactTraverseEndRow.holds Try.pinned (OpenSpec.ofChange fnExactTraverseEndWrong)

/-- 'laws.FnExactMisclosure': WHATEVER THE INPUT: true; the input reads as it did. -/
def fnExactMisclosureSpec : ChangeSpec := { name := "fnExactMisclosure", fn := fun _ => fun
  | [d1, d2, d3] => { results := [.lit (.bool true)], args := [d1, d2, d3] }
  | _ => none }
def fnExactMisclosureRow : OpenClaim := { program := "ytkcclgcmpdgdjaa", sum := "813230d8c9a2a4d2f9dde1c8be5610a58f64af7c98553f82448c4b2b28d6be0f", func := "loop.example/g00876/laws.FnExactMisclosure", spec := "fnExactMisclosure", apart := false }
def FnExactMisclosureSaid : Prop := fnExactMisclosureRow.holds Try.pinned (OpenSpec.ofChange fnExactMisclosureSpec)

/-- ITS FALSE NEIGHBOUR: 'it returns false'. Refute it at one input. -/
def fnExactMisclosureWrong : ChangeSpec := { name := "fnExactMisclosure", fn := fun _ => fun
  | [d1, d2, d3] => { results := [.lit (.bool false)], args := [d1, d2, d3] }
  | _ => none }
def FnExactMisclosureWrongFalsely : Prop := fnExactMisclosureRow.holds Try.pinned (OpenSpec.ofChange fnExactMisclosureWrong)

/-- 'laws.FnExactIsValidTable': WHATEVER THE INPUT: true; the input reads as it did. -/
def fnExactIsValidTableSpec : ChangeSpec := { name := "fnExactIsValidTable", fn := fun _ => fun
  | [d] => { results := [.lit (.bool true)], args := [d] }
  | _ => none }
def fnExactIsValidTableRow : OpenClaim := { program := "ytkcclgcmpdgdjaa", sum := "813230d8c9a2a4d2f9dde1c8be5610a58f64af7c98553f82448c4b2b28d6be0f", func := "loop.example/g00876/laws.FnExactIsValidTable", spec := "fnExactIsValidTable", unfollowed := true, recurses := true, apart := false }
def FnExactIsValidTableSaid : Prop := fnExactIsValidTableRow.holds Try.pinned (OpenSpec.ofChange fnExactIsValidTableSpec)

/-- ITS FALSE NEIGHBOUR: 'it returns false'. Refute it at one input. -/
def fnExactIsValidTableWrong : ChangeSpec := { name := "fnExactIsValidTable", fn := fun _ => fun
  | [d] => { results := [.lit (.bool false)], args := [d] }
  | _ => none }
def FnExactIsValidTableWrongFalsely : Prop := fnExactIsValidTableRow.holds Try.pinned (OpenSpec.ofChange fnExactIsValidTableWrong)

/-- 'laws.FnAgreement': WHATEVER THE INPUT: true; the input reads as it did. -/
def fnAgreementSpec : ChangeSpec := { name := "fnAgreement", fn := fun _ => fun
  | [d] => { results := [.lit (.bool true)], args := [d] }
  | _ => none }
def fnAgreementRow : OpenClaim := { program := "ytkcclgcmpdgdjaa", sum := "813230d8c9a2a4d2f9dde1c8be5610a58f64af7c98553f82448c4b2b28d6be0f", func := "loop.example/g00876/laws.FnAgreement", spec := "fnAgreement", unfollowed := true, recurses := true, apart := false }
def FnAgreementSaid : Prop := fnAgreementRow.holds Try.pinned (OpenSpec.ofChange fnAgreementSpec)

/-- ITS FALSE NEIGHBOUR: 'it returns false'. Refute it at one input. -/
def fnAgreementWrong : ChangeSpec := { name := "fnAgreement", fn := fun _ => fun
  | [d] => { results := [.lit (.bool false)], args := [d] }
  | _ => none }
def FnAgreementWrongFalsely : Prop := fnAgreementRow.holds Try.pinned (OpenSpec.ofChange fnAgreementWrong)

/- THE SECOND FORM. 'bulk': how many values and letters a reading holds, each counted each time it is reached (what is shared counts as often as it is met; a slice's spare places count too). A statement '..UptoSaid' is the law's where the arguments, and the package variables that the reading takes, are together of bulk at most 1048576: NARROWER than '..Said'. Prove '..Said' where nothing that the law and all that it calls make is longer than what came in: it says more and counts as full. Else prove '..UptoSaid'. A law counts once. -/
mutual
def uptoBulk {H : Type} : DataW H → Nat
  | .lit (.string bytes) => bytes.length + 1
  | .lit _ => 1
  | .nil => 1
  | .ptr d => uptoBulk d + 1
  | .slice elems spare => uptoBulkAll elems + uptoBulkAll spare + 1
  | .agg parts => uptoBulkAll parts + 1
  | .iface _ d => uptoBulk d + 1
  | .map entries => uptoBulkEntries entries + 1
  | .held _ => 1
def uptoBulkAll {H : Type} : List (DataW H) → Nat
  | [] => 0
  | d :: r => uptoBulk d + uptoBulkAll r
def uptoBulkEntries {H : Type} : List (Lit × DataW H) → Nat
  | [] => 0
  | x :: r => uptoBulkEntry x + uptoBulkEntries r
def uptoBulkEntry {H : Type} : Lit × DataW H → Nat
  | (.string bytes, d) => bytes.length + uptoBulk d + 1
  | (_, d) => uptoBulk d + 1
 end
def uptoSmall : (H : Type) → List (DataW H) → Bool := fun _ ds => decide (uptoBulkAll ds ≤ 1048576)
def OpenSpec.upto (s : _root_.Go.ChangeSpec) : _root_.Go.OpenSpec := { _root_.Go.OpenSpec.ofChange s with cond := some uptoSmall }

/-- 'laws.FnExactIsValidLines', WHERE WHAT IT READS IS OF BULK AT MOST 1048576: true; the input reads as it did. -/
def fnExactIsValidLinesUptoRow : OpenClaim := { program := "ytkcclgcmpdgdjaa", sum := "813230d8c9a2a4d2f9dde1c8be5610a58f64af7c98553f82448c4b2b28d6be0f", func := "loop.example/g00876/laws.FnExactIsValidLines", spec := "fnExactIsValidLines", unfollowed := true, recurses := true, apart := false, narrowed := true }
def FnExactIsValidLinesUptoSaid : Prop := fnExactIsValidLinesUptoRow.holds Try.pinned (OpenSpec.upto fnExactIsValidLinesSpec)

/-- 'laws.FnExactSidesCross', WHERE WHAT IT READS IS OF BULK AT MOST 1048576: true; the input reads as it did. -/
def fnExactSidesCrossUptoRow : OpenClaim := { program := "ytkcclgcmpdgdjaa", sum := "813230d8c9a2a4d2f9dde1c8be5610a58f64af7c98553f82448c4b2b28d6be0f", func := "loop.example/g00876/laws.FnExactSidesCross", spec := "fnExactSidesCross", apart := false, narrowed := true }
def FnExactSidesCrossUptoSaid : Prop := fnExactSidesCrossUptoRow.holds Try.pinned (OpenSpec.upto fnExactSidesCrossSpec)

/-- 'laws.FnExactTraverseEnd', WHERE WHAT IT READS IS OF BULK AT MOST 1048576: true; the input reads as it did. -/
def fnExactTraverseEndUptoRow : OpenClaim := { program := "ytkcclgcmpdgdjaa", sum := "813230d8c9a2a4d2f9dde1c8be5610a58f64af7c98553f82448c4b2b28d6be0f", func := "loop.example/g00876/laws.FnExactTraverseEnd", spec := "fnExactTraverseEnd", apart := false, narrowed := true }
def FnExactTraverseEndUptoSaid : Prop := fnExactTraverseEndUptoRow.holds Try.pinned (OpenSpec.upto fnExactTraverseEndSpec)

/-- 'laws.FnExactMisclosure', WHERE WHAT IT READS IS OF BULK AT MOST 1048576: true; the input reads as it did. -/
def fnExactMisclosureUptoRow : OpenClaim := { program := "ytkcclgcmpdgdjaa", sum := "813230d8c9a2a4d2f9dde1c8be5610a58f64af7c98553f82448c4b2b28d6be0f", func := "loop.example/g00876/laws.FnExactMisclosure", spec := "fnExactMisclosure", apart := false, narrowed := true }
def FnExactMisclosureUptoSaid : Prop := fnExactMisclosureUptoRow.holds Try.pinned (OpenSpec.upto fnExactMisclosureSpec)

/-- 'laws.FnExactIsValidTable', WHERE WHAT IT READS IS OF BULK AT MOST 1048576: true; the input reads as it did. -/
def fnExactIsValidTableUptoRow : OpenClaim := { program := "ytkcclgcmpdgdjaa", sum := "813230d8c9a2a4d2f9dde1c8be5610a58f64af7c98553f82448c4b2b28d6be0f", func := "loop.example/g00876/laws.FnExactIsValidTable", spec := "fnExactIsValidTable", unfollowed := true, recurses := true, apart := false, narrowed := true }
def FnExactIsValidTableUptoSaid : Prop := fnExactIsValidTableUptoRow.holds Try.pinned (OpenSpec.upto fnExactIsValidTableSpec)

/-- 'laws.FnAgreement', WHERE WHAT IT READS IS OF BULK AT MOST 1048576: true; the input reads as it did. -/
def fnAgreementUptoRow : OpenClaim := { program := "ytkcclgcmpdgdjaa", sum := "813230d8c9a2a4d2f9dde1c8be5610a58f64af7c98553f82448c4b2b28d6be0f", func := "loop.example/g00876/laws.FnAgreement", spec := "fnAgreement", unfollowed := true, recurses := true, apart := false, narrowed := true }
def FnAgreementUptoSaid : Prop := fnAgreementUptoRow.holds Try.pinned (OpenSpec.upto fnAgreementSpec)

end Rows
end Go.Proofs.Ytkcclgcmpdgdjaa
