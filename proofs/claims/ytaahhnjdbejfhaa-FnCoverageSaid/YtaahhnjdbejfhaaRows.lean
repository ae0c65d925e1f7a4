/-
  No cell of these rows narrows 'for every input' (looked for: loops, veiled, ifaces, maps, wideKeys, modest, calm, conditions, laid).
  DERIVED. THE GIVEN ROWS OF THIS SEAT. 7 by the template 'for every input the law returns true; each argument reads behind the call as it read before'; 0 by the template 'total and deterministic' (their statements: YtaahhnjdbejfhaaTotals.lean).
  GIVEN WITH THE SEED: the statements are not yours to turn. If you find one false, say at which input.
  Laid BY PROGRAM, IN A SANDBOX (cutbox-rows.mjs): the forced cells as the released guide's own fill.sh prints them over the translation 948eb4ddf7a259bb… (all of the seat's roots in one cut). By AI agents, Wed Nov 11 2026. No macro, syntax, notation, axiom, sorry.
-/
import Derived.Test.YtaahhnjdbejfhaaChecked
import GoSem.Claim
import GoSem.ClaimJoined
import GoSem.ClaimMapViews
import Derived.JoinedTies
import Derived.KernelRfl
namespace Go.Proofs.Ytaahhnjdbejfhaa
/- THE CELL 'sum', in the pinned program and in every row, IS THE sha256 OF THE DUMP (.gsa) THAT YtaahhnjdbejfhaaProg.lean LOADS. Nothing in Lean hashes anything: it is a label: what it is worth is what the hold of that sum in a sandbox is worth. -/
noncomputable def Try.pinned : Pinned := { name := "ytaahhnjdbejfhaa", sum := "948eb4ddf7a259bbd941980a7579d913d4e5c856bbb310b34fc82efc9af70bcb", checked := Try.checked }
namespace Rows
def none {H : Type} : Left H := { results := [], args := [] }

/-- 'laws.FnExactFewestVessels': WHATEVER THE INPUT: true; the input reads as it did. -/
def fnExactFewestVesselsSpec : ChangeSpec := { name := "fnExactFewestVessels", fn := fun _ => fun
  | [d] => { results := [.lit (.bool true)], args := [d] }
  | _ => none }
def fnExactFewestVesselsRow : OpenClaim := { program := "ytaahhnjdbejfhaa", sum := "948eb4ddf7a259bbd941980a7579d913d4e5c856bbb310b34fc82efc9af70bcb", func := "loop.example/g00876/laws.FnExactFewestVessels", spec := "fnExactFewestVessels", unfollowed := true, recurses := true, apart := false }
def FnExactFewestVesselsSaid : Prop := fnExactFewestVesselsRow.holds Try.pinned (OpenSpec.ofChange fnExactFewestVesselsSpec)

/-- ITS FALSE NEIGHBOUR: 'it returns false'. Refute it at one input. -/
def fnExactFewestVesselsWrong : ChangeSpec := { name := "fnExactFewestVessels", fn := fun _ => fun
  | [d] => { results := [.lit (.bool false)], args := [d] }
  | _ => none }
def FnExactFewestVesselsWrongFalsely : Prop := fnExactFewestVesselsRow.holds Try.pinned (OpenSpec.ofChange fnExactFewestVesselsWrong)

/-- 'laws.FnExactCoverageOf': WHATEVER THE INPUT: true; the input reads as it did. -/
def fnExactCoverageOfSpec : ChangeSpec := { name := "fnExactCoverageOf", fn := fun _ => fun
  | [d1, d2, d3] => { results := [.lit (.bool true)], args := [d1, d2, d3] }
  | _ => none }
def fnExactCoverageOfRow : OpenClaim := { program := "ytaahhnjdbejfhaa", sum := "948eb4ddf7a259bbd941980a7579d913d4e5c856bbb310b34fc82efc9af70bcb", func := "loop.example/g00876/laws.FnExactCoverageOf", spec := "fnExactCoverageOf", apart := false }
def FnExactCoverageOfSaid : Prop := fnExactCoverageOfRow.holds Try.pinned (OpenSpec.ofChange fnExactCoverageOfSpec)

/-- ITS FALSE NEIGHBOUR: 'it returns false'. Refute it at one input. -/
def fnExactCoverageOfWrong : ChangeSpec := { name := "fnExactCoverageOf", fn := fun _ => fun
  | [d1, d2, d3] => { results := [.lit (.bool false)], args := [d1, d2, d3] }
  | _ => none }
def FnExactCoverageOfWrongFalsely : Prop := fnExactCoverageOfRow.holds Try.pinned (OpenSpec.ofChange fnExactCoverageOfWrong)

/-- 'laws.FnExactVesselsOf': WHATEVER THE INPUT: true; the input reads as it did. -/
def fnExactVesselsOfSpec : ChangeSpec := { name := "fnExactVesselsOf", fn := fun _ => fun
  | [d1, d2] => { results := [.lit (.bool true)], args := [d1, d2] }
  | _ => none }
def fnExactVesselsOfRow : OpenClaim := { program := "ytaahhnjdbejfhaa", sum := "948eb4ddf7a259bbd941980a7579d913d4e5c856bbb310b34fc82efc9af70bcb", func := "loop.example/g00876/laws.FnExactVesselsOf", spec := "fnExactVesselsOf", apart := false }
def FnExactVesselsOfSaid : Prop := fnExactVesselsOfRow.holds Try.pinned (OpenSpec.ofChange fnExactVesselsOfSpec)

/-- ITS FALSE NEIGHBOUR: 'it returns false'. Refute it at one input. -/
def fnExactVesselsOfWrong : ChangeSpec := { name := "fnExactVesselsOf", fn := fun _ => fun
  | [d1, d2] => { results := [.lit (.bool false)], args := [d1, d2] }
  | _ => none }
def FnExactVesselsOfWrongFalsely : Prop := fnExactVesselsOfRow.holds Try.pinned (OpenSpec.ofChange fnExactVesselsOfWrong)

/-- 'laws.FnCoverage': WHATEVER THE INPUT: true; the input reads as it did. -/
def fnCoverageSpec : ChangeSpec := { name := "fnCoverage", fn := fun _ => fun
  | [d] => { results := [.lit (.bool true)], args := [d] }
  | _ => none }
def fnCoverageRow : OpenClaim := { program := "ytaahhnjdbejfhaa", sum := "948eb4ddf7a259bbd941980a7579d913d4e5c856bbb310b34fc82efc9af70bcb", func := "loop.example/g00876/laws.FnCoverage", spec := "fnCoverage", apart := false }
def FnCoverageSaid : Prop := fnCoverageRow.holds Try.pinned (OpenSpec.ofChange fnCoverageSpec)

/-- ITS FALSE NEIGHBOUR: 'it returns false'. Refute it at one input. -/
def fnCoverageWrong : ChangeSpec := { name := "fnCoverage", fn := fun _ => fun
  | [d] => { results := [.lit (.bool false)], args := [d] }
  | _ => none }
def FnCoverageWrongFalsely : Prop := fnCoverageRow.holds Try.pinned (OpenSpec.ofChange fnCoverageWrong)

/-- 'laws.FnVessels': WHATEVER THE INPUT: true; the input reads as it did. -/
def fnVesselsSpec : ChangeSpec := { name := "fnVessels", fn := fun _ => fun
  | [d] => { results := [.lit (.bool true)], args := [d] }
  | _ => none }
def fnVesselsRow : OpenClaim := { program := "ytaahhnjdbejfhaa", sum := "948eb4ddf7a259bbd941980a7579d913d4e5c856bbb310b34fc82efc9af70bcb", func := "loop.example/g00876/laws.FnVessels", spec := "fnVessels", unfollowed := true, recurses := true, apart := false }
def FnVesselsSaid : Prop := fnVesselsRow.holds Try.pinned (OpenSpec.ofChange fnVesselsSpec)

/-- ITS FALSE NEIGHBOUR: 'it returns false'. Refute it at one input. -/
def fnVesselsWrong : ChangeSpec := { name := "fnVessels", fn := fun _ => fun
  | [d] => { results := [.lit (.bool false)], args := [d] }
  | _ => none }
def FnVesselsWrongFalsely : Prop := fnVesselsRow.holds Try.pinned (OpenSpec.ofChange fnVesselsWrong)

/-- 'laws.FnExactContextLinks': WHATEVER THE INPUT: true; the input reads as it did. -/
def fnExactContextLinksSpec : ChangeSpec := { name := "fnExactContextLinks", fn := fun _ => fun
  | [d1, d2] => { results := [.lit (.bool true)], args := [d1, d2] }
  | _ => none }
def fnExactContextLinksRow : OpenClaim := { program := "ytaahhnjdbejfhaa", sum := "948eb4ddf7a259bbd941980a7579d913d4e5c856bbb310b34fc82efc9af70bcb", func := "loop.example/g00876/laws.FnExactContextLinks", spec := "fnExactContextLinks", unfollowed := true, recurses := true, apart := false }
def FnExactContextLinksSaid : Prop := fnExactContextLinksRow.holds Try.pinned (OpenSpec.ofChange fnExactContextLinksSpec)

/-- ITS FALSE NEIGHBOUR: 'it returns false'. Refute it at one input. -/
def fnExactContextLinksWrong : ChangeSpec := { name := "fnExactContextLinks", fn := fun _ => fun
  | [d1, d2] => { results := [.lit (.bool false)], args := [d1, d2] }
  | _ => none }
def FnExactContextLinksWrongFalsely : Prop := fnExactContextLinksRow.holds Try.pinned (OpenSpec.ofChange fnExactContextLinksWrong)

/-- 'laws.FnExactHullOf': WHATEVER THE INPUT: true; the input reads as it did. -/
def fnExactHullOfSpec : ChangeSpec := { name := "fnExactHullOf", fn := fun _ => fun
  | [d] => { results := [.lit (.bool true)], args := [d] }
  | _ => none }
def fnExactHullOfRow : OpenClaim := { program := "ytaahhnjdbejfhaa", sum := "948eb4ddf7a259bbd941980a7579d913d4e5c856bbb310b34fc82efc9af70bcb", func := "loop.example/g00876/laws.FnExactHullOf", spec := "fnExactHullOf", unfollowed := true, recurses := true, apart := false }
def FnExactHullOfSaid : Prop := fnExactHullOfRow.holds Try.pinned (OpenSpec.ofChange fnExactHullOfSpec)

/-- ITS FALSE NEIGHBOUR: 'it returns false'. Refute it at one input. -/
def fnExactHullOfWrong : ChangeSpec := { name := "fnExactHullOf", fn := fun _ => fun
  | [d] => { results := [.lit (.bool false)], args := [d] }
  | _ => none }
def FnExactHullOfWrongFalsely : Prop := fnExactHullOfRow.holds Try.pinned (OpenSpec.ofChange fnExactHullOfWrong)

/- THE SECOND FORM. 'bulk': how many values and letters a reading holds, each counted each time it is reached (what is shared counts as often as it is met; a slice's spare places count too). A statement '..UptoSaid' is the law's where the arguments, and the package variables that the reading takes, are together of bulk at most 1048576: NARROWER than '..Said'. Prove '..Said' where nothing that the law and all that it calls make is longer than what came in: it says more and counts as full. Else prove '..UptoSaid'. A law counts once. -/
mutual
def uptoBulk {H : Type} : DataW H → Nat
  | .lit (.string bytes) => bytes.length + 1
  | .lit _ => 1
  | .nil => 1
  | .ptr d => uptoBulk d + 1
  | .slice elems spare => uptoBulkAll elems + uptoBulkAll spare + 1
  | .agg parts => uptoBulkAll parts + 1
  | .iface _ d => uptoBulk d + 1
  | .map entries => uptoBulkEntries entries + 1
  | .held _ => 1
def uptoBulkAll {H : Type} : List (DataW H) → Nat
  | [] => 0
  | d :: r => uptoBulk d + uptoBulkAll r
def uptoBulkEntries {H : Type} : List (Lit × DataW H) → Nat
  | [] => 0
  | x :: r => uptoBulkEntry x + uptoBulkEntries r
def uptoBulkEntry {H : Type} : Lit × DataW H → Nat
  | (.string bytes, d) => bytes.length + uptoBulk d + 1
  | (_, d) => uptoBulk d + 1
 end
def uptoSmall : (H : Type) → List (DataW H) → Bool := fun _ ds => decide (uptoBulkAll ds ≤ 1048576)
def OpenSpec.upto (s : _root_.Go.ChangeSpec) : _root_.Go.OpenSpec := { _root_.Go.OpenSpec.ofChange s with cond := some uptoSmall }

/-- 'laws.FnExactFewestVessels', WHERE WHAT IT READS IS OF BULK AT MOST 1048576: true; the input reads as it did. -/
def fnExactFewestVesselsUptoRow : OpenClaim := { program := "ytaahhnjdbejfhaa", sum := "948eb4ddf7a259bbd941980a7579d913d4e5c856bbb310b34fc82efc9af70bcb", func := "loop.example/g00876/laws.FnExactFewestVessels", spec := "fnExactFewestVessels", unfollowed := true, recurses := true, apart := false, narrowed := true }
def FnExactFewestVesselsUptoSaid : Prop := fnExactFewestVesselsUptoRow.holds Try.pinned (OpenSpec.upto fnExactFewestVesselsSpec)

/-- 'laws.FnExactCoverageOf', WHERE WHAT IT READS IS OF BULK AT MOST 1048576: true; the input reads as it did. -/
def fnExactCoverageOfUptoRow : OpenClaim := { program := "ytaahhnjdbejfhaa", sum := "948eb4ddf7a259bbd941980a7579d913d4e5c856bbb310b34fc82efc9af70bcb", func := "loop.example/g00876/laws.FnExactCoverageOf", spec := "fnExactCoverageOf", apart := false, narrowed := true }
def FnExactCoverageOfUptoSaid : Prop := fnExactCoverageOfUptoRow.holds Try.pinned (OpenSpec.upto fnExactCoverageOfSpec)

/-- 'laws.FnExactVesselsOf', WHERE WHAT IT READS IS OF BULK AT MOST 1048576: true; the input reads as it did. -/
def fnExactVesselsOfUptoRow : OpenClaim := { program := "ytaahhnjdbejfhaa", sum := "948eb4ddf7a259bbd941980a7579d913d4e5c856bbb310b34fc82efc9af70bcb", func := "loop.example/g00876/laws.FnExactVesselsOf", spec := "fnExactVesselsOf", apart := false, narrowed := true }
def FnExactVesselsOfUptoSaid : Prop := fnExactVesselsOfUptoRow.holds Try.pinned (OpenSpec.upto fnExactVesselsOfSpec)

/-- 'laws.FnCoverage', WHERE WHAT IT READS IS OF BULK AT MOST 1048576: true; the input reads as it did. -/
def fnCoverageUptoRow : OpenClaim := { program := "ytaahhnjdbejfhaa", sum := "948eb4ddf7a259bbd941980a7579d913d4e5c856bbb310b34fc82efc9af70bcb", func := "loop.example/g00876/laws.FnCoverage", spec := "fnCoverage", apart := false, narrowed := true }
def FnCoverageUptoSaid : Prop := fnCoverageUptoRow.holds Try.pinned (OpenSpec.upto fnCoverageSpec)

/-- 'laws.FnVessels', WHERE WHAT IT READS IS OF BULK AT MOST 1048576: true; the input reads as it did. -/
def fnVesselsUptoRow : OpenClaim := { program := "ytaahhnjdbejfhaa", sum := "948eb4ddf7a259bbd941980a7579d913d4e5c856bbb310b34fc82efc9af70bcb", func := "loop.example/g00876/laws.FnVessels", spec := "fnVessels", unfollowed := true, recurses := true, apart := false, narrowed := true }
def FnVesselsUptoSaid : Prop := fnVesselsUptoRow.holds Try.pinned (OpenSpec.upto fnVesselsSpec)

/-- 'laws.FnExactContextLinks', WHERE WHAT IT READS IS OF BULK AT MOST 1048576: true; the input reads as it did. -/
def fnExactContextLinksUptoRow : OpenClaim := { program := "ytaahhnjdbejfhaa", sum := "948eb4ddf7a259bbd941980a7579d913d4e5c856bbb310b34fc82efc9af70bcb", func := "loop.example/g00876/laws.FnExactContextLinks", spec := "fnExactContextLinks", unfollowed := true, recurses := true, apart := false, narrowed := true }
def FnExactContextLinksUptoSaid : Prop := fnExactContextLinksUptoRow.holds Try.pinned (OpenSpec.upto fnExactContextLinksSpec)

/-- 'laws.FnExactHullOf', WHERE WHAT IT READS IS OF BULK AT MOST 1048576: true; the input reads as it did. -/
def fnExactHullOfUptoRow : OpenClaim := { program := "ytaahhnjdbejfhaa", sum := "948eb4ddf7a259bbd941980a7579d913d4e5c856bbb310b34fc82efc9af70bcb", func := "loop.example/g00876/laws.FnExactHullOf", spec := "fnExactHullOf", unfollowed := true, recurses := true, apart := false, narrowed := true }
def FnExactHullOfUptoSaid : Prop := fnExactHullOfUptoRow.holds Try.pinned (OpenSpec.upto fnExactHullOfSpec)

end Rows
end Go.Proofs.Ytaahhnjdbejfhaa
