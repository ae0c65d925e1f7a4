/- Models of Go functions and their contracts, printed by a program of this session. -/
import Derived.Test.YthkmcndfifgdpaaClMFnExactJoinPathx0
set_option linter.unusedVariables false
set_option maxRecDepth 100000
namespace Go.Proofs.Ythkmcndfifgdpaa
open Go Go.Rai
noncomputable section
/-! loop.example/g00876/laws.markSherdS, loop 2 -/
def c_laws_markSherdS_L2 {R : Type} (F : Int → Int → List D → Option (Int × List D)) (x0 : Int) (x1 : Int) (x2 : List D) (k : Int × List D → Option R) : Option R :=
 bif Decidable.decide (x1 < (↑x2.length : Int)) then
 if (0 : Int) ≤ x1 ∧ x1 < (↑x2.length : Int) then
 if x1.toNat + (1 : Nat) ≤ x2.length then
 if x1.toNat + (1 : Nat) ≤ x2.length then
 if (0 : Int) ≤ x1 ∧ x1 < (↑(x2.set x1.toNat (Go.Rai.D.node [Go.Rai.D.int x0, Go.Rai.D.int ((x2.getD x1.toNat (Go.Rai.D.int (0 : Int))).fld (1 : Nat)).toInt, Go.Rai.D.int ((x2.getD x1.toNat (Go.Rai.D.int (0 : Int))).fld (2 : Nat)).toInt, Go.Rai.D.int ((x2.getD x1.toNat (Go.Rai.D.int (0 : Int))).fld (3 : Nat)).toInt])).length : Int) then
 if x1.toNat + (1 : Nat) ≤ (x2.set x1.toNat (Go.Rai.D.node [Go.Rai.D.int x0, Go.Rai.D.int ((x2.getD x1.toNat (Go.Rai.D.int (0 : Int))).fld (1 : Nat)).toInt, Go.Rai.D.int ((x2.getD x1.toNat (Go.Rai.D.int (0 : Int))).fld (2 : Nat)).toInt, Go.Rai.D.int ((x2.getD x1.toNat (Go.Rai.D.int (0 : Int))).fld (3 : Nat)).toInt])).length then
 if x1.toNat + (1 : Nat) ≤ (x2.set x1.toNat (Go.Rai.D.node [Go.Rai.D.int x0, Go.Rai.D.int ((x2.getD x1.toNat (Go.Rai.D.int (0 : Int))).fld (1 : Nat)).toInt, Go.Rai.D.int ((x2.getD x1.toNat (Go.Rai.D.int (0 : Int))).fld (2 : Nat)).toInt, Go.Rai.D.int ((x2.getD x1.toNat (Go.Rai.D.int (0 : Int))).fld (3 : Nat)).toInt])).length then
 if (0 : Int) ≤ x1 ∧ x1 < (↑((x2.set x1.toNat (Go.Rai.D.node [Go.Rai.D.int x0, Go.Rai.D.int ((x2.getD x1.toNat (Go.Rai.D.int (0 : Int))).fld (1 : Nat)).toInt, Go.Rai.D.int ((x2.getD x1.toNat (Go.Rai.D.int (0 : Int))).fld (2 : Nat)).toInt, Go.Rai.D.int ((x2.getD x1.toNat (Go.Rai.D.int (0 : Int))).fld (3 : Nat)).toInt])).set x1.toNat (Go.Rai.D.node [Go.Rai.D.int (((x2.set x1.toNat (Go.Rai.D.node [Go.Rai.D.int x0, Go.Rai.D.int ((x2.getD x1.toNat (Go.Rai.D.int (0 : Int))).fld (1 : Nat)).toInt, Go.Rai.D.int ((x2.getD x1.toNat (Go.Rai.D.int (0 : Int))).fld (2 : Nat)).toInt, Go.Rai.D.int ((x2.getD x1.toNat (Go.Rai.D.int (0 : Int))).fld (3 : Nat)).toInt])).getD x1.toNat (Go.Rai.D.int (0 : Int))).fld (0 : Nat)).toInt, Go.Rai.D.int (Go.IntKind.i64.wrap (x0 + (1 : Int))), Go.Rai.D.int (((x2.set x1.toNat (Go.Rai.D.node [Go.Rai.D.int x0, Go.Rai.D.int ((x2.getD x1.toNat (Go.Rai.D.int (0 : Int))).fld (1 : Nat)).toInt, Go.Rai.D.int ((x2.getD x1.toNat (Go.Rai.D.int (0 : Int))).fld (2 : Nat)).toInt, Go.Rai.D.int ((x2.getD x1.toNat (Go.Rai.D.int (0 : Int))).fld (3 : Nat)).toInt])).getD x1.toNat (Go.Rai.D.int (0 : Int))).fld (2 : Nat)).toInt, Go.Rai.D.int (((x2.set x1.toNat (Go.Rai.D.node [Go.Rai.D.int x0, Go.Rai.D.int ((x2.getD x1.toNat (Go.Rai.D.int (0 : Int))).fld (1 : Nat)).toInt, Go.Rai.D.int ((x2.getD x1.toNat (Go.Rai.D.int (0 : Int))).fld (2 : Nat)).toInt, Go.Rai.D.int ((x2.getD x1.toNat (Go.Rai.D.int (0 : Int))).fld (3 : Nat)).toInt])).getD x1.toNat (Go.Rai.D.int (0 : Int))).fld (3 : Nat)).toInt])).length : Int) then
 if x1.toNat + (1 : Nat) ≤ ((x2.set x1.toNat (Go.Rai.D.node [Go.Rai.D.int x0, Go.Rai.D.int ((x2.getD x1.toNat (Go.Rai.D.int (0 : Int))).fld (1 : Nat)).toInt, Go.Rai.D.int ((x2.getD x1.toNat (Go.Rai.D.int (0 : Int))).fld (2 : Nat)).toInt, Go.Rai.D.int ((x2.getD x1.toNat (Go.Rai.D.int (0 : Int))).fld (3 : Nat)).toInt])).set x1.toNat (Go.Rai.D.node [Go.Rai.D.int (((x2.set x1.toNat (Go.Rai.D.node [Go.Rai.D.int x0, Go.Rai.D.int ((x2.getD x1.toNat (Go.Rai.D.int (0 : Int))).fld (1 : Nat)).toInt, Go.Rai.D.int ((x2.getD x1.toNat (Go.Rai.D.int (0 : Int))).fld (2 : Nat)).toInt, Go.Rai.D.int ((x2.getD x1.toNat (Go.Rai.D.int (0 : Int))).fld (3 : Nat)).toInt])).getD x1.toNat (Go.Rai.D.int (0 : Int))).fld (0 : Nat)).toInt, Go.Rai.D.int (Go.IntKind.i64.wrap (x0 + (1 : Int))), Go.Rai.D.int (((x2.set x1.toNat (Go.Rai.D.node [Go.Rai.D.int x0, Go.Rai.D.int ((x2.getD x1.toNat (Go.Rai.D.int (0 : Int))).fld (1 : Nat)).toInt, Go.Rai.D.int ((x2.getD x1.toNat (Go.Rai.D.int (0 : Int))).fld (2 : Nat)).toInt, Go.Rai.D.int ((x2.getD x1.toNat (Go.Rai.D.int (0 : Int))).fld (3 : Nat)).toInt])).getD x1.toNat (Go.Rai.D.int (0 : Int))).fld (2 : Nat)).toInt, Go.Rai.D.int (((x2.set x1.toNat (Go.Rai.D.node [Go.Rai.D.int x0, Go.Rai.D.int ((x2.getD x1.toNat (Go.Rai.D.int (0 : Int))).fld (1 : Nat)).toInt, Go.Rai.D.int ((x2.getD x1.toNat (Go.Rai.D.int (0 : Int))).fld (2 : Nat)).toInt, Go.Rai.D.int ((x2.getD x1.toNat (Go.Rai.D.int (0 : Int))).fld (3 : Nat)).toInt])).getD x1.toNat (Go.Rai.D.int (0 : Int))).fld (3 : Nat)).toInt])).length then
 if x1.toNat + (1 : Nat) ≤ ((x2.set x1.toNat (Go.Rai.D.node [Go.Rai.D.int x0, Go.Rai.D.int ((x2.getD x1.toNat (Go.Rai.D.int (0 : Int))).fld (1 : Nat)).toInt, Go.Rai.D.int ((x2.getD x1.toNat (Go.Rai.D.int (0 : Int))).fld (2 : Nat)).toInt, Go.Rai.D.int ((x2.getD x1.toNat (Go.Rai.D.int (0 : Int))).fld (3 : Nat)).toInt])).set x1.toNat (Go.Rai.D.node [Go.Rai.D.int (((x2.set x1.toNat (Go.Rai.D.node [Go.Rai.D.int x0, Go.Rai.D.int ((x2.getD x1.toNat (Go.Rai.D.int (0 : Int))).fld (1 : Nat)).toInt, Go.Rai.D.int ((x2.getD x1.toNat (Go.Rai.D.int (0 : Int))).fld (2 : Nat)).toInt, Go.Rai.D.int ((x2.getD x1.toNat (Go.Rai.D.int (0 : Int))).fld (3 : Nat)).toInt])).getD x1.toNat (Go.Rai.D.int (0 : Int))).fld (0 : Nat)).toInt, Go.Rai.D.int (Go.IntKind.i64.wrap (x0 + (1 : Int))), Go.Rai.D.int (((x2.set x1.toNat (Go.Rai.D.node [Go.Rai.D.int x0, Go.Rai.D.int ((x2.getD x1.toNat (Go.Rai.D.int (0 : Int))).fld (1 : Nat)).toInt, Go.Rai.D.int ((x2.getD x1.toNat (Go.Rai.D.int (0 : Int))).fld (2 : Nat)).toInt, Go.Rai.D.int ((x2.getD x1.toNat (Go.Rai.D.int (0 : Int))).fld (3 : Nat)).toInt])).getD x1.toNat (Go.Rai.D.int (0 : Int))).fld (2 : Nat)).toInt, Go.Rai.D.int (((x2.set x1.toNat (Go.Rai.D.node [Go.Rai.D.int x0, Go.Rai.D.int ((x2.getD x1.toNat (Go.Rai.D.int (0 : Int))).fld (1 : Nat)).toInt, Go.Rai.D.int ((x2.getD x1.toNat (Go.Rai.D.int (0 : Int))).fld (2 : Nat)).toInt, Go.Rai.D.int ((x2.getD x1.toNat (Go.Rai.D.int (0 : Int))).fld (3 : Nat)).toInt])).getD x1.toNat (Go.Rai.D.int (0 : Int))).fld (3 : Nat)).toInt])).length then
 if (0 : Int) ≤ x1 ∧ x1 < (↑(((x2.set x1.toNat (Go.Rai.D.node [Go.Rai.D.int x0, Go.Rai.D.int ((x2.getD x1.toNat (Go.Rai.D.int (0 : Int))).fld (1 : Nat)).toInt, Go.Rai.D.int ((x2.getD x1.toNat (Go.Rai.D.int (0 : Int))).fld (2 : Nat)).toInt, Go.Rai.D.int ((x2.getD x1.toNat (Go.Rai.D.int (0 : Int))).fld (3 : Nat)).toInt])).set x1.toNat (Go.Rai.D.node [Go.Rai.D.int (((x2.set x1.toNat (Go.Rai.D.node [Go.Rai.D.int x0, Go.Rai.D.int ((x2.getD x1.toNat (Go.Rai.D.int (0 : Int))).fld (1 : Nat)).toInt, Go.Rai.D.int ((x2.getD x1.toNat (Go.Rai.D.int (0 : Int))).fld (2 : Nat)).toInt, Go.Rai.D.int ((x2.getD x1.toNat (Go.Rai.D.int (0 : Int))).fld (3 : Nat)).toInt])).getD x1.toNat (Go.Rai.D.int (0 : Int))).fld (0 : Nat)).toInt, Go.Rai.D.int (Go.IntKind.i64.wrap (x0 + (1 : Int))), Go.Rai.D.int (((x2.set x1.toNat (Go.Rai.D.node [Go.Rai.D.int x0, Go.Rai.D.int ((x2.getD x1.toNat (Go.Rai.D.int (0 : Int))).fld (1 : Nat)).toInt, Go.Rai.D.int ((x2.getD x1.toNat (Go.Rai.D.int (0 : Int))).fld (2 : Nat)).toInt, Go.Rai.D.int ((x2.getD x1.toNat (Go.Rai.D.int (0 : Int))).fld (3 : Nat)).toInt])).getD x1.toNat (Go.Rai.D.int (0 : Int))).fld (2 : Nat)).toInt, Go.Rai.D.int (((x2.set x1.toNat (Go.Rai.D.node [Go.Rai.D.int x0, Go.Rai.D.int ((x2.getD x1.toNat (Go.Rai.D.int (0 : Int))).fld (1 : Nat)).toInt, Go.Rai.D.int ((x2.getD x1.toNat (Go.Rai.D.int (0 : Int))).fld (2 : Nat)).toInt, Go.Rai.D.int ((x2.getD x1.toNat (Go.Rai.D.int (0 : Int))).fld (3 : Nat)).toInt])).getD x1.toNat (Go.Rai.D.int (0 : Int))).fld (3 : Nat)).toInt])).set x1.toNat (Go.Rai.D.node [Go.Rai.D.int ((((x2.set x1.toNat (Go.Rai.D.node [Go.Rai.D.int x0, Go.Rai.D.int ((x2.getD x1.toNat (Go.Rai.D.int (0 : Int))).fld (1 : Nat)).toInt, Go.Rai.D.int ((x2.getD x1.toNat (Go.Rai.D.int (0 : Int))).fld (2 : Nat)).toInt, Go.Rai.D.int ((x2.getD x1.toNat (Go.Rai.D.int (0 : Int))).fld (3 : Nat)).toInt])).set x1.toNat (Go.Rai.D.node [Go.Rai.D.int (((x2.set x1.toNat (Go.Rai.D.node [Go.Rai.D.int x0, Go.Rai.D.int ((x2.getD x1.toNat (Go.Rai.D.int (0 : Int))).fld (1 : Nat)).toInt, Go.Rai.D.int ((x2.getD x1.toNat (Go.Rai.D.int (0 : Int))).fld (2 : Nat)).toInt, Go.Rai.D.int ((x2.getD x1.toNat (Go.Rai.D.int (0 : Int))).fld (3 : Nat)).toInt])).getD x1.toNat (Go.Rai.D.int (0 : Int))).fld (0 : Nat)).toInt, Go.Rai.D.int (Go.IntKind.i64.wrap (x0 + (1 : Int))), Go.Rai.D.int (((x2.set x1.toNat (Go.Rai.D.node [Go.Rai.D.int x0, Go.Rai.D.int ((x2.getD x1.toNat (Go.Rai.D.int (0 : Int))).fld (1 : Nat)).toInt, Go.Rai.D.int ((x2.getD x1.toNat (Go.Rai.D.int (0 : Int))).fld (2 : Nat)).toInt, Go.Rai.D.int ((x2.getD x1.toNat (Go.Rai.D.int (0 : Int))).fld (3 : Nat)).toInt])).getD x1.toNat (Go.Rai.D.int (0 : Int))).fld (2 : Nat)).toInt, Go.Rai.D.int (((x2.set x1.toNat (Go.Rai.D.node [Go.Rai.D.int x0, Go.Rai.D.int ((x2.getD x1.toNat (Go.Rai.D.int (0 : Int))).fld (1 : Nat)).toInt, Go.Rai.D.int ((x2.getD x1.toNat (Go.Rai.D.int (0 : Int))).fld (2 : Nat)).toInt, Go.Rai.D.int ((x2.getD x1.toNat (Go.Rai.D.int (0 : Int))).fld (3 : Nat)).toInt])).getD x1.toNat (Go.Rai.D.int (0 : Int))).fld (3 : Nat)).toInt])).getD x1.toNat (Go.Rai.D.int (0 : Int))).fld (0 : Nat)).toInt, Go.Rai.D.int ((((x2.set x1.toNat (Go.Rai.D.node [Go.Rai.D.int x0, Go.Rai.D.int ((x2.getD x1.toNat (Go.Rai.D.int (0 : Int))).fld (1 : Nat)).toInt, Go.Rai.D.int ((x2.getD x1.toNat (Go.Rai.D.int (0 : Int))).fld (2 : Nat)).toInt, Go.Rai.D.int ((x2.getD x1.toNat (Go.Rai.D.int (0 : Int))).fld (3 : Nat)).toInt])).set x1.toNat (Go.Rai.D.node [Go.Rai.D.int (((x2.set x1.toNat (Go.Rai.D.node [Go.Rai.D.int x0, Go.Rai.D.int ((x2.getD x1.toNat (Go.Rai.D.int (0 : Int))).fld (1 : Nat)).toInt, Go.Rai.D.int ((x2.getD x1.toNat (Go.Rai.D.int (0 : Int))).fld (2 : Nat)).toInt, Go.Rai.D.int ((x2.getD x1.toNat (Go.Rai.D.int (0 : Int))).fld (3 : Nat)).toInt])).getD x1.toNat (Go.Rai.D.int (0 : Int))).fld (0 : Nat)).toInt, Go.Rai.D.int (Go.IntKind.i64.wrap (x0 + (1 : Int))), Go.Rai.D.int (((x2.set x1.toNat (Go.Rai.D.node [Go.Rai.D.int x0, Go.Rai.D.int ((x2.getD x1.toNat (Go.Rai.D.int (0 : Int))).fld (1 : Nat)).toInt, Go.Rai.D.int ((x2.getD x1.toNat (Go.Rai.D.int (0 : Int))).fld (2 : Nat)).toInt, Go.Rai.D.int ((x2.getD x1.toNat (Go.Rai.D.int (0 : Int))).fld (3 : Nat)).toInt])).getD x1.toNat (Go.Rai.D.int (0 : Int))).fld (2 : Nat)).toInt, Go.Rai.D.int (((x2.set x1.toNat (Go.Rai.D.node [Go.Rai.D.int x0, Go.Rai.D.int ((x2.getD x1.toNat (Go.Rai.D.int (0 : Int))).fld (1 : Nat)).toInt, Go.Rai.D.int ((x2.getD x1.toNat (Go.Rai.D.int (0 : Int))).fld (2 : Nat)).toInt, Go.Rai.D.int ((x2.getD x1.toNat (Go.Rai.D.int (0 : Int))).fld (3 : Nat)).toInt])).getD x1.toNat (Go.Rai.D.int (0 : Int))).fld (3 : Nat)).toInt])).getD x1.toNat (Go.Rai.D.int (0 : Int))).fld (1 : Nat)).toInt, Go.Rai.D.int (Go.IntKind.i64.wrap (Go.IntKind.i64.wrap (x0 + (1 : Int)) + (1 : Int))), Go.Rai.D.int ((((x2.set x1.toNat (Go.Rai.D.node [Go.Rai.D.int x0, Go.Rai.D.int ((x2.getD x1.toNat (Go.Rai.D.int (0 : Int))).fld (1 : Nat)).toInt, Go.Rai.D.int ((x2.getD x1.toNat (Go.Rai.D.int (0 : Int))).fld (2 : Nat)).toInt, Go.Rai.D.int ((x2.getD x1.toNat (Go.Rai.D.int (0 : Int))).fld (3 : Nat)).toInt])).set x1.toNat (Go.Rai.D.node [Go.Rai.D.int (((x2.set x1.toNat (Go.Rai.D.node [Go.Rai.D.int x0, Go.Rai.D.int ((x2.getD x1.toNat (Go.Rai.D.int (0 : Int))).fld (1 : Nat)).toInt, Go.Rai.D.int ((x2.getD x1.toNat (Go.Rai.D.int (0 : Int))).fld (2 : Nat)).toInt, Go.Rai.D.int ((x2.getD x1.toNat (Go.Rai.D.int (0 : Int))).fld (3 : Nat)).toInt])).getD x1.toNat (Go.Rai.D.int (0 : Int))).fld (0 : Nat)).toInt, Go.Rai.D.int (Go.IntKind.i64.wrap (x0 + (1 : Int))), Go.Rai.D.int (((x2.set x1.toNat (Go.Rai.D.node [Go.Rai.D.int x0, Go.Rai.D.int ((x2.getD x1.toNat (Go.Rai.D.int (0 : Int))).fld (1 : Nat)).toInt, Go.Rai.D.int ((x2.getD x1.toNat (Go.Rai.D.int (0 : Int))).fld (2 : Nat)).toInt, Go.Rai.D.int ((x2.getD x1.toNat (Go.Rai.D.int (0 : Int))).fld (3 : Nat)).toInt])).getD x1.toNat (Go.Rai.D.int (0 : Int))).fld (2 : Nat)).toInt, Go.Rai.D.int (((x2.set x1.toNat (Go.Rai.D.node [Go.Rai.D.int x0, Go.Rai.D.int ((x2.getD x1.toNat (Go.Rai.D.int (0 : Int))).fld (1 : Nat)).toInt, Go.Rai.D.int ((x2.getD x1.toNat (Go.Rai.D.int (0 : Int))).fld (2 : Nat)).toInt, Go.Rai.D.int ((x2.getD x1.toNat (Go.Rai.D.int (0 : Int))).fld (3 : Nat)).toInt])).getD x1.toNat (Go.Rai.D.int (0 : Int))).fld (3 : Nat)).toInt])).getD x1.toNat (Go.Rai.D.int (0 : Int))).fld (3 : Nat)).toInt])).length : Int) then
 if x1.toNat + (1 : Nat) ≤ (((x2.set x1.toNat (Go.Rai.D.node [Go.Rai.D.int x0, Go.Rai.D.int ((x2.getD x1.toNat (Go.Rai.D.int (0 : Int))).fld (1 : Nat)).toInt, Go.Rai.D.int ((x2.getD x1.toNat (Go.Rai.D.int (0 : Int))).fld (2 : Nat)).toInt, Go.Rai.D.int ((x2.getD x1.toNat (Go.Rai.D.int (0 : Int))).fld (3 : Nat)).toInt])).set x1.toNat (Go.Rai.D.node [Go.Rai.D.int (((x2.set x1.toNat (Go.Rai.D.node [Go.Rai.D.int x0, Go.Rai.D.int ((x2.getD x1.toNat (Go.Rai.D.int (0 : Int))).fld (1 : Nat)).toInt, Go.Rai.D.int ((x2.getD x1.toNat (Go.Rai.D.int (0 : Int))).fld (2 : Nat)).toInt, Go.Rai.D.int ((x2.getD x1.toNat (Go.Rai.D.int (0 : Int))).fld (3 : Nat)).toInt])).getD x1.toNat (Go.Rai.D.int (0 : Int))).fld (0 : Nat)).toInt, Go.Rai.D.int (Go.IntKind.i64.wrap (x0 + (1 : Int))), Go.Rai.D.int (((x2.set x1.toNat (Go.Rai.D.node [Go.Rai.D.int x0, Go.Rai.D.int ((x2.getD x1.toNat (Go.Rai.D.int (0 : Int))).fld (1 : Nat)).toInt, Go.Rai.D.int ((x2.getD x1.toNat (Go.Rai.D.int (0 : Int))).fld (2 : Nat)).toInt, Go.Rai.D.int ((x2.getD x1.toNat (Go.Rai.D.int (0 : Int))).fld (3 : Nat)).toInt])).getD x1.toNat (Go.Rai.D.int (0 : Int))).fld (2 : Nat)).toInt, Go.Rai.D.int (((x2.set x1.toNat (Go.Rai.D.node [Go.Rai.D.int x0, Go.Rai.D.int ((x2.getD x1.toNat (Go.Rai.D.int (0 : Int))).fld (1 : Nat)).toInt, Go.Rai.D.int ((x2.getD x1.toNat (Go.Rai.D.int (0 : Int))).fld (2 : Nat)).toInt, Go.Rai.D.int ((x2.getD x1.toNat (Go.Rai.D.int (0 : Int))).fld (3 : Nat)).toInt])).getD x1.toNat (Go.Rai.D.int (0 : Int))).fld (3 : Nat)).toInt])).set x1.toNat (Go.Rai.D.node [Go.Rai.D.int ((((x2.set x1.toNat (Go.Rai.D.node [Go.Rai.D.int x0, Go.Rai.D.int ((x2.getD x1.toNat (Go.Rai.D.int (0 : Int))).fld (1 : Nat)).toInt, Go.Rai.D.int ((x2.getD x1.toNat (Go.Rai.D.int (0 : Int))).fld (2 : Nat)).toInt, Go.Rai.D.int ((x2.getD x1.toNat (Go.Rai.D.int (0 : Int))).fld (3 : Nat)).toInt])).set x1.toNat (Go.Rai.D.node [Go.Rai.D.int (((x2.set x1.toNat (Go.Rai.D.node [Go.Rai.D.int x0, Go.Rai.D.int ((x2.getD x1.toNat (Go.Rai.D.int (0 : Int))).fld (1 : Nat)).toInt, Go.Rai.D.int ((x2.getD x1.toNat (Go.Rai.D.int (0 : Int))).fld (2 : Nat)).toInt, Go.Rai.D.int ((x2.getD x1.toNat (Go.Rai.D.int (0 : Int))).fld (3 : Nat)).toInt])).getD x1.toNat (Go.Rai.D.int (0 : Int))).fld (0 : Nat)).toInt, Go.Rai.D.int (Go.IntKind.i64.wrap (x0 + (1 : Int))), Go.Rai.D.int (((x2.set x1.toNat (Go.Rai.D.node [Go.Rai.D.int x0, Go.Rai.D.int ((x2.getD x1.toNat (Go.Rai.D.int (0 : Int))).fld (1 : Nat)).toInt, Go.Rai.D.int ((x2.getD x1.toNat (Go.Rai.D.int (0 : Int))).fld (2 : Nat)).toInt, Go.Rai.D.int ((x2.getD x1.toNat (Go.Rai.D.int (0 : Int))).fld (3 : Nat)).toInt])).getD x1.toNat (Go.Rai.D.int (0 : Int))).fld (2 : Nat)).toInt, Go.Rai.D.int (((x2.set x1.toNat (Go.Rai.D.node [Go.Rai.D.int x0, Go.Rai.D.int ((x2.getD x1.toNat (Go.Rai.D.int (0 : Int))).fld (1 : Nat)).toInt, Go.Rai.D.int ((x2.getD x1.toNat (Go.Rai.D.int (0 : Int))).fld (2 : Nat)).toInt, Go.Rai.D.int ((x2.getD x1.toNat (Go.Rai.D.int (0 : Int))).fld (3 : Nat)).toInt])).getD x1.toNat (Go.Rai.D.int (0 : Int))).fld (3 : Nat)).toInt])).getD x1.toNat (Go.Rai.D.int (0 : Int))).fld (0 : Nat)).toInt, Go.Rai.D.int ((((x2.set x1.toNat (Go.Rai.D.node [Go.Rai.D.int x0, Go.Rai.D.int ((x2.getD x1.toNat (Go.Rai.D.int (0 : Int))).fld (1 : Nat)).toInt, Go.Rai.D.int ((x2.getD x1.toNat (Go.Rai.D.int (0 : Int))).fld (2 : Nat)).toInt, Go.Rai.D.int ((x2.getD x1.toNat (Go.Rai.D.int (0 : Int))).fld (3 : Nat)).toInt])).set x1.toNat (Go.Rai.D.node [Go.Rai.D.int (((x2.set x1.toNat (Go.Rai.D.node [Go.Rai.D.int x0, Go.Rai.D.int ((x2.getD x1.toNat (Go.Rai.D.int (0 : Int))).fld (1 : Nat)).toInt, Go.Rai.D.int ((x2.getD x1.toNat (Go.Rai.D.int (0 : Int))).fld (2 : Nat)).toInt, Go.Rai.D.int ((x2.getD x1.toNat (Go.Rai.D.int (0 : Int))).fld (3 : Nat)).toInt])).getD x1.toNat (Go.Rai.D.int (0 : Int))).fld (0 : Nat)).toInt, Go.Rai.D.int (Go.IntKind.i64.wrap (x0 + (1 : Int))), Go.Rai.D.int (((x2.set x1.toNat (Go.Rai.D.node [Go.Rai.D.int x0, Go.Rai.D.int ((x2.getD x1.toNat (Go.Rai.D.int (0 : Int))).fld (1 : Nat)).toInt, Go.Rai.D.int ((x2.getD x1.toNat (Go.Rai.D.int (0 : Int))).fld (2 : Nat)).toInt, Go.Rai.D.int ((x2.getD x1.toNat (Go.Rai.D.int (0 : Int))).fld (3 : Nat)).toInt])).getD x1.toNat (Go.Rai.D.int (0 : Int))).fld (2 : Nat)).toInt, Go.Rai.D.int (((x2.set x1.toNat (Go.Rai.D.node [Go.Rai.D.int x0, Go.Rai.D.int ((x2.getD x1.toNat (Go.Rai.D.int (0 : Int))).fld (1 : Nat)).toInt, Go.Rai.D.int ((x2.getD x1.toNat (Go.Rai.D.int (0 : Int))).fld (2 : Nat)).toInt, Go.Rai.D.int ((x2.getD x1.toNat (Go.Rai.D.int (0 : Int))).fld (3 : Nat)).toInt])).getD x1.toNat (Go.Rai.D.int (0 : Int))).fld (3 : Nat)).toInt])).getD x1.toNat (Go.Rai.D.int (0 : Int))).fld (1 : Nat)).toInt, Go.Rai.D.int (Go.IntKind.i64.wrap (Go.IntKind.i64.wrap (x0 + (1 : Int)) + (1 : Int))), Go.Rai.D.int ((((x2.set x1.toNat (Go.Rai.D.node [Go.Rai.D.int x0, Go.Rai.D.int ((x2.getD x1.toNat (Go.Rai.D.int (0 : Int))).fld (1 : Nat)).toInt, Go.Rai.D.int ((x2.getD x1.toNat (Go.Rai.D.int (0 : Int))).fld (2 : Nat)).toInt, Go.Rai.D.int ((x2.getD x1.toNat (Go.Rai.D.int (0 : Int))).fld (3 : Nat)).toInt])).set x1.toNat (Go.Rai.D.node [Go.Rai.D.int (((x2.set x1.toNat (Go.Rai.D.node [Go.Rai.D.int x0, Go.Rai.D.int ((x2.getD x1.toNat (Go.Rai.D.int (0 : Int))).fld (1 : Nat)).toInt, Go.Rai.D.int ((x2.getD x1.toNat (Go.Rai.D.int (0 : Int))).fld (2 : Nat)).toInt, Go.Rai.D.int ((x2.getD x1.toNat (Go.Rai.D.int (0 : Int))).fld (3 : Nat)).toInt])).getD x1.toNat (Go.Rai.D.int (0 : Int))).fld (0 : Nat)).toInt, Go.Rai.D.int (Go.IntKind.i64.wrap (x0 + (1 : Int))), Go.Rai.D.int (((x2.set x1.toNat (Go.Rai.D.node [Go.Rai.D.int x0, Go.Rai.D.int ((x2.getD x1.toNat (Go.Rai.D.int (0 : Int))).fld (1 : Nat)).toInt, Go.Rai.D.int ((x2.getD x1.toNat (Go.Rai.D.int (0 : Int))).fld (2 : Nat)).toInt, Go.Rai.D.int ((x2.getD x1.toNat (Go.Rai.D.int (0 : Int))).fld (3 : Nat)).toInt])).getD x1.toNat (Go.Rai.D.int (0 : Int))).fld (2 : Nat)).toInt, Go.Rai.D.int (((x2.set x1.toNat (Go.Rai.D.node [Go.Rai.D.int x0, Go.Rai.D.int ((x2.getD x1.toNat (Go.Rai.D.int (0 : Int))).fld (1 : Nat)).toInt, Go.Rai.D.int ((x2.getD x1.toNat (Go.Rai.D.int (0 : Int))).fld (2 : Nat)).toInt, Go.Rai.D.int ((x2.getD x1.toNat (Go.Rai.D.int (0 : Int))).fld (3 : Nat)).toInt])).getD x1.toNat (Go.Rai.D.int (0 : Int))).fld (3 : Nat)).toInt])).getD x1.toNat (Go.Rai.D.int (0 : Int))).fld (3 : Nat)).toInt])).length then
 if x1.toNat + (1 : Nat) ≤ (((x2.set x1.toNat (Go.Rai.D.node [Go.Rai.D.int x0, Go.Rai.D.int ((x2.getD x1.toNat (Go.Rai.D.int (0 : Int))).fld (1 : Nat)).toInt, Go.Rai.D.int ((x2.getD x1.toNat (Go.Rai.D.int (0 : Int))).fld (2 : Nat)).toInt, Go.Rai.D.int ((x2.getD x1.toNat (Go.Rai.D.int (0 : Int))).fld (3 : Nat)).toInt])).set x1.toNat (Go.Rai.D.node [Go.Rai.D.int (((x2.set x1.toNat (Go.Rai.D.node [Go.Rai.D.int x0, Go.Rai.D.int ((x2.getD x1.toNat (Go.Rai.D.int (0 : Int))).fld (1 : Nat)).toInt, Go.Rai.D.int ((x2.getD x1.toNat (Go.Rai.D.int (0 : Int))).fld (2 : Nat)).toInt, Go.Rai.D.int ((x2.getD x1.toNat (Go.Rai.D.int (0 : Int))).fld (3 : Nat)).toInt])).getD x1.toNat (Go.Rai.D.int (0 : Int))).fld (0 : Nat)).toInt, Go.Rai.D.int (Go.IntKind.i64.wrap (x0 + (1 : Int))), Go.Rai.D.int (((x2.set x1.toNat (Go.Rai.D.node [Go.Rai.D.int x0, Go.Rai.D.int ((x2.getD x1.toNat (Go.Rai.D.int (0 : Int))).fld (1 : Nat)).toInt, Go.Rai.D.int ((x2.getD x1.toNat (Go.Rai.D.int (0 : Int))).fld (2 : Nat)).toInt, Go.Rai.D.int ((x2.getD x1.toNat (Go.Rai.D.int (0 : Int))).fld (3 : Nat)).toInt])).getD x1.toNat (Go.Rai.D.int (0 : Int))).fld (2 : Nat)).toInt, Go.Rai.D.int (((x2.set x1.toNat (Go.Rai.D.node [Go.Rai.D.int x0, Go.Rai.D.int ((x2.getD x1.toNat (Go.Rai.D.int (0 : Int))).fld (1 : Nat)).toInt, Go.Rai.D.int ((x2.getD x1.toNat (Go.Rai.D.int (0 : Int))).fld (2 : Nat)).toInt, Go.Rai.D.int ((x2.getD x1.toNat (Go.Rai.D.int (0 : Int))).fld (3 : Nat)).toInt])).getD x1.toNat (Go.Rai.D.int (0 : Int))).fld (3 : Nat)).toInt])).set x1.toNat (Go.Rai.D.node [Go.Rai.D.int ((((x2.set x1.toNat (Go.Rai.D.node [Go.Rai.D.int x0, Go.Rai.D.int ((x2.getD x1.toNat (Go.Rai.D.int (0 : Int))).fld (1 : Nat)).toInt, Go.Rai.D.int ((x2.getD x1.toNat (Go.Rai.D.int (0 : Int))).fld (2 : Nat)).toInt, Go.Rai.D.int ((x2.getD x1.toNat (Go.Rai.D.int (0 : Int))).fld (3 : Nat)).toInt])).set x1.toNat (Go.Rai.D.node [Go.Rai.D.int (((x2.set x1.toNat (Go.Rai.D.node [Go.Rai.D.int x0, Go.Rai.D.int ((x2.getD x1.toNat (Go.Rai.D.int (0 : Int))).fld (1 : Nat)).toInt, Go.Rai.D.int ((x2.getD x1.toNat (Go.Rai.D.int (0 : Int))).fld (2 : Nat)).toInt, Go.Rai.D.int ((x2.getD x1.toNat (Go.Rai.D.int (0 : Int))).fld (3 : Nat)).toInt])).getD x1.toNat (Go.Rai.D.int (0 : Int))).fld (0 : Nat)).toInt, Go.Rai.D.int (Go.IntKind.i64.wrap (x0 + (1 : Int))), Go.Rai.D.int (((x2.set x1.toNat (Go.Rai.D.node [Go.Rai.D.int x0, Go.Rai.D.int ((x2.getD x1.toNat (Go.Rai.D.int (0 : Int))).fld (1 : Nat)).toInt, Go.Rai.D.int ((x2.getD x1.toNat (Go.Rai.D.int (0 : Int))).fld (2 : Nat)).toInt, Go.Rai.D.int ((x2.getD x1.toNat (Go.Rai.D.int (0 : Int))).fld (3 : Nat)).toInt])).getD x1.toNat (Go.Rai.D.int (0 : Int))).fld (2 : Nat)).toInt, Go.Rai.D.int (((x2.set x1.toNat (Go.Rai.D.node [Go.Rai.D.int x0, Go.Rai.D.int ((x2.getD x1.toNat (Go.Rai.D.int (0 : Int))).fld (1 : Nat)).toInt, Go.Rai.D.int ((x2.getD x1.toNat (Go.Rai.D.int (0 : Int))).fld (2 : Nat)).toInt, Go.Rai.D.int ((x2.getD x1.toNat (Go.Rai.D.int (0 : Int))).fld (3 : Nat)).toInt])).getD x1.toNat (Go.Rai.D.int (0 : Int))).fld (3 : Nat)).toInt])).getD x1.toNat (Go.Rai.D.int (0 : Int))).fld (0 : Nat)).toInt, Go.Rai.D.int ((((x2.set x1.toNat (Go.Rai.D.node [Go.Rai.D.int x0, Go.Rai.D.int ((x2.getD x1.toNat (Go.Rai.D.int (0 : Int))).fld (1 : Nat)).toInt, Go.Rai.D.int ((x2.getD x1.toNat (Go.Rai.D.int (0 : Int))).fld (2 : Nat)).toInt, Go.Rai.D.int ((x2.getD x1.toNat (Go.Rai.D.int (0 : Int))).fld (3 : Nat)).toInt])).set x1.toNat (Go.Rai.D.node [Go.Rai.D.int (((x2.set x1.toNat (Go.Rai.D.node [Go.Rai.D.int x0, Go.Rai.D.int ((x2.getD x1.toNat (Go.Rai.D.int (0 : Int))).fld (1 : Nat)).toInt, Go.Rai.D.int ((x2.getD x1.toNat (Go.Rai.D.int (0 : Int))).fld (2 : Nat)).toInt, Go.Rai.D.int ((x2.getD x1.toNat (Go.Rai.D.int (0 : Int))).fld (3 : Nat)).toInt])).getD x1.toNat (Go.Rai.D.int (0 : Int))).fld (0 : Nat)).toInt, Go.Rai.D.int (Go.IntKind.i64.wrap (x0 + (1 : Int))), Go.Rai.D.int (((x2.set x1.toNat (Go.Rai.D.node [Go.Rai.D.int x0, Go.Rai.D.int ((x2.getD x1.toNat (Go.Rai.D.int (0 : Int))).fld (1 : Nat)).toInt, Go.Rai.D.int ((x2.getD x1.toNat (Go.Rai.D.int (0 : Int))).fld (2 : Nat)).toInt, Go.Rai.D.int ((x2.getD x1.toNat (Go.Rai.D.int (0 : Int))).fld (3 : Nat)).toInt])).getD x1.toNat (Go.Rai.D.int (0 : Int))).fld (2 : Nat)).toInt, Go.Rai.D.int (((x2.set x1.toNat (Go.Rai.D.node [Go.Rai.D.int x0, Go.Rai.D.int ((x2.getD x1.toNat (Go.Rai.D.int (0 : Int))).fld (1 : Nat)).toInt, Go.Rai.D.int ((x2.getD x1.toNat (Go.Rai.D.int (0 : Int))).fld (2 : Nat)).toInt, Go.Rai.D.int ((x2.getD x1.toNat (Go.Rai.D.int (0 : Int))).fld (3 : Nat)).toInt])).getD x1.toNat (Go.Rai.D.int (0 : Int))).fld (3 : Nat)).toInt])).getD x1.toNat (Go.Rai.D.int (0 : Int))).fld (1 : Nat)).toInt, Go.Rai.D.int (Go.IntKind.i64.wrap (Go.IntKind.i64.wrap (x0 + (1 : Int)) + (1 : Int))), Go.Rai.D.int ((((x2.set x1.toNat (Go.Rai.D.node [Go.Rai.D.int x0, Go.Rai.D.int ((x2.getD x1.toNat (Go.Rai.D.int (0 : Int))).fld (1 : Nat)).toInt, Go.Rai.D.int ((x2.getD x1.toNat (Go.Rai.D.int (0 : Int))).fld (2 : Nat)).toInt, Go.Rai.D.int ((x2.getD x1.toNat (Go.Rai.D.int (0 : Int))).fld (3 : Nat)).toInt])).set x1.toNat (Go.Rai.D.node [Go.Rai.D.int (((x2.set x1.toNat (Go.Rai.D.node [Go.Rai.D.int x0, Go.Rai.D.int ((x2.getD x1.toNat (Go.Rai.D.int (0 : Int))).fld (1 : Nat)).toInt, Go.Rai.D.int ((x2.getD x1.toNat (Go.Rai.D.int (0 : Int))).fld (2 : Nat)).toInt, Go.Rai.D.int ((x2.getD x1.toNat (Go.Rai.D.int (0 : Int))).fld (3 : Nat)).toInt])).getD x1.toNat (Go.Rai.D.int (0 : Int))).fld (0 : Nat)).toInt, Go.Rai.D.int (Go.IntKind.i64.wrap (x0 + (1 : Int))), Go.Rai.D.int (((x2.set x1.toNat (Go.Rai.D.node [Go.Rai.D.int x0, Go.Rai.D.int ((x2.getD x1.toNat (Go.Rai.D.int (0 : Int))).fld (1 : Nat)).toInt, Go.Rai.D.int ((x2.getD x1.toNat (Go.Rai.D.int (0 : Int))).fld (2 : Nat)).toInt, Go.Rai.D.int ((x2.getD x1.toNat (Go.Rai.D.int (0 : Int))).fld (3 : Nat)).toInt])).getD x1.toNat (Go.Rai.D.int (0 : Int))).fld (2 : Nat)).toInt, Go.Rai.D.int (((x2.set x1.toNat (Go.Rai.D.node [Go.Rai.D.int x0, Go.Rai.D.int ((x2.getD x1.toNat (Go.Rai.D.int (0 : Int))).fld (1 : Nat)).toInt, Go.Rai.D.int ((x2.getD x1.toNat (Go.Rai.D.int (0 : Int))).fld (2 : Nat)).toInt, Go.Rai.D.int ((x2.getD x1.toNat (Go.Rai.D.int (0 : Int))).fld (3 : Nat)).toInt])).getD x1.toNat (Go.Rai.D.int (0 : Int))).fld (3 : Nat)).toInt])).getD x1.toNat (Go.Rai.D.int (0 : Int))).fld (3 : Nat)).toInt])).length then
 (F (Go.IntKind.i64.wrap (Go.IntKind.i64.wrap (Go.IntKind.i64.wrap (Go.IntKind.i64.wrap (x0 + (1 : Int)) + (1 : Int)) + (1 : Int)) + (1 : Int))) (Go.IntKind.i64.wrap (x1 + (1 : Int))) ((((x2.set x1.toNat (Go.Rai.D.node [Go.Rai.D.int x0, Go.Rai.D.int ((x2.getD x1.toNat (Go.Rai.D.int (0 : Int))).fld (1 : Nat)).toInt, Go.Rai.D.int ((x2.getD x1.toNat (Go.Rai.D.int (0 : Int))).fld (2 : Nat)).toInt, Go.Rai.D.int ((x2.getD x1.toNat (Go.Rai.D.int (0 : Int))).fld (3 : Nat)).toInt])).set x1.toNat (Go.Rai.D.node [Go.Rai.D.int (((x2.set x1.toNat (Go.Rai.D.node [Go.Rai.D.int x0, Go.Rai.D.int ((x2.getD x1.toNat (Go.Rai.D.int (0 : Int))).fld (1 : Nat)).toInt, Go.Rai.D.int ((x2.getD x1.toNat (Go.Rai.D.int (0 : Int))).fld (2 : Nat)).toInt, Go.Rai.D.int ((x2.getD x1.toNat (Go.Rai.D.int (0 : Int))).fld (3 : Nat)).toInt])).getD x1.toNat (Go.Rai.D.int (0 : Int))).fld (0 : Nat)).toInt, Go.Rai.D.int (Go.IntKind.i64.wrap (x0 + (1 : Int))), Go.Rai.D.int (((x2.set x1.toNat (Go.Rai.D.node [Go.Rai.D.int x0, Go.Rai.D.int ((x2.getD x1.toNat (Go.Rai.D.int (0 : Int))).fld (1 : Nat)).toInt, Go.Rai.D.int ((x2.getD x1.toNat (Go.Rai.D.int (0 : Int))).fld (2 : Nat)).toInt, Go.Rai.D.int ((x2.getD x1.toNat (Go.Rai.D.int (0 : Int))).fld (3 : Nat)).toInt])).getD x1.toNat (Go.Rai.D.int (0 : Int))).fld (2 : Nat)).toInt, Go.Rai.D.int (((x2.set x1.toNat (Go.Rai.D.node [Go.Rai.D.int x0, Go.Rai.D.int ((x2.getD x1.toNat (Go.Rai.D.int (0 : Int))).fld (1 : Nat)).toInt, Go.Rai.D.int ((x2.getD x1.toNat (Go.Rai.D.int (0 : Int))).fld (2 : Nat)).toInt, Go.Rai.D.int ((x2.getD x1.toNat (Go.Rai.D.int (0 : Int))).fld (3 : Nat)).toInt])).getD x1.toNat (Go.Rai.D.int (0 : Int))).fld (3 : Nat)).toInt])).set x1.toNat (Go.Rai.D.node [Go.Rai.D.int ((((x2.set x1.toNat (Go.Rai.D.node [Go.Rai.D.int x0, Go.Rai.D.int ((x2.getD x1.toNat (Go.Rai.D.int (0 : Int))).fld (1 : Nat)).toInt, Go.Rai.D.int ((x2.getD x1.toNat (Go.Rai.D.int (0 : Int))).fld (2 : Nat)).toInt, Go.Rai.D.int ((x2.getD x1.toNat (Go.Rai.D.int (0 : Int))).fld (3 : Nat)).toInt])).set x1.toNat (Go.Rai.D.node [Go.Rai.D.int (((x2.set x1.toNat (Go.Rai.D.node [Go.Rai.D.int x0, Go.Rai.D.int ((x2.getD x1.toNat (Go.Rai.D.int (0 : Int))).fld (1 : Nat)).toInt, Go.Rai.D.int ((x2.getD x1.toNat (Go.Rai.D.int (0 : Int))).fld (2 : Nat)).toInt, Go.Rai.D.int ((x2.getD x1.toNat (Go.Rai.D.int (0 : Int))).fld (3 : Nat)).toInt])).getD x1.toNat (Go.Rai.D.int (0 : Int))).fld (0 : Nat)).toInt, Go.Rai.D.int (Go.IntKind.i64.wrap (x0 + (1 : Int))), Go.Rai.D.int (((x2.set x1.toNat (Go.Rai.D.node [Go.Rai.D.int x0, Go.Rai.D.int ((x2.getD x1.toNat (Go.Rai.D.int (0 : Int))).fld (1 : Nat)).toInt, Go.Rai.D.int ((x2.getD x1.toNat (Go.Rai.D.int (0 : Int))).fld (2 : Nat)).toInt, Go.Rai.D.int ((x2.getD x1.toNat (Go.Rai.D.int (0 : Int))).fld (3 : Nat)).toInt])).getD x1.toNat (Go.Rai.D.int (0 : Int))).fld (2 : Nat)).toInt, Go.Rai.D.int (((x2.set x1.toNat (Go.Rai.D.node [Go.Rai.D.int x0, Go.Rai.D.int ((x2.getD x1.toNat (Go.Rai.D.int (0 : Int))).fld (1 : Nat)).toInt, Go.Rai.D.int ((x2.getD x1.toNat (Go.Rai.D.int (0 : Int))).fld (2 : Nat)).toInt, Go.Rai.D.int ((x2.getD x1.toNat (Go.Rai.D.int (0 : Int))).fld (3 : Nat)).toInt])).getD x1.toNat (Go.Rai.D.int (0 : Int))).fld (3 : Nat)).toInt])).getD x1.toNat (Go.Rai.D.int (0 : Int))).fld (0 : Nat)).toInt, Go.Rai.D.int ((((x2.set x1.toNat (Go.Rai.D.node [Go.Rai.D.int x0, Go.Rai.D.int ((x2.getD x1.toNat (Go.Rai.D.int (0 : Int))).fld (1 : Nat)).toInt, Go.Rai.D.int ((x2.getD x1.toNat (Go.Rai.D.int (0 : Int))).fld (2 : Nat)).toInt, Go.Rai.D.int ((x2.getD x1.toNat (Go.Rai.D.int (0 : Int))).fld (3 : Nat)).toInt])).set x1.toNat (Go.Rai.D.node [Go.Rai.D.int (((x2.set x1.toNat (Go.Rai.D.node [Go.Rai.D.int x0, Go.Rai.D.int ((x2.getD x1.toNat (Go.Rai.D.int (0 : Int))).fld (1 : Nat)).toInt, Go.Rai.D.int ((x2.getD x1.toNat (Go.Rai.D.int (0 : Int))).fld (2 : Nat)).toInt, Go.Rai.D.int ((x2.getD x1.toNat (Go.Rai.D.int (0 : Int))).fld (3 : Nat)).toInt])).getD x1.toNat (Go.Rai.D.int (0 : Int))).fld (0 : Nat)).toInt, Go.Rai.D.int (Go.IntKind.i64.wrap (x0 + (1 : Int))), Go.Rai.D.int (((x2.set x1.toNat (Go.Rai.D.node [Go.Rai.D.int x0, Go.Rai.D.int ((x2.getD x1.toNat (Go.Rai.D.int (0 : Int))).fld (1 : Nat)).toInt, Go.Rai.D.int ((x2.getD x1.toNat (Go.Rai.D.int (0 : Int))).fld (2 : Nat)).toInt, Go.Rai.D.int ((x2.getD x1.toNat (Go.Rai.D.int (0 : Int))).fld (3 : Nat)).toInt])).getD x1.toNat (Go.Rai.D.int (0 : Int))).fld (2 : Nat)).toInt, Go.Rai.D.int (((x2.set x1.toNat (Go.Rai.D.node [Go.Rai.D.int x0, Go.Rai.D.int ((x2.getD x1.toNat (Go.Rai.D.int (0 : Int))).fld (1 : Nat)).toInt, Go.Rai.D.int ((x2.getD x1.toNat (Go.Rai.D.int (0 : Int))).fld (2 : Nat)).toInt, Go.Rai.D.int ((x2.getD x1.toNat (Go.Rai.D.int (0 : Int))).fld (3 : Nat)).toInt])).getD x1.toNat (Go.Rai.D.int (0 : Int))).fld (3 : Nat)).toInt])).getD x1.toNat (Go.Rai.D.int (0 : Int))).fld (1 : Nat)).toInt, Go.Rai.D.int (Go.IntKind.i64.wrap (Go.IntKind.i64.wrap (x0 + (1 : Int)) + (1 : Int))), Go.Rai.D.int ((((x2.set x1.toNat (Go.Rai.D.node [Go.Rai.D.int x0, Go.Rai.D.int ((x2.getD x1.toNat (Go.Rai.D.int (0 : Int))).fld (1 : Nat)).toInt, Go.Rai.D.int ((x2.getD x1.toNat (Go.Rai.D.int (0 : Int))).fld (2 : Nat)).toInt, Go.Rai.D.int ((x2.getD x1.toNat (Go.Rai.D.int (0 : Int))).fld (3 : Nat)).toInt])).set x1.toNat (Go.Rai.D.node [Go.Rai.D.int (((x2.set x1.toNat (Go.Rai.D.node [Go.Rai.D.int x0, Go.Rai.D.int ((x2.getD x1.toNat (Go.Rai.D.int (0 : Int))).fld (1 : Nat)).toInt, Go.Rai.D.int ((x2.getD x1.toNat (Go.Rai.D.int (0 : Int))).fld (2 : Nat)).toInt, Go.Rai.D.int ((x2.getD x1.toNat (Go.Rai.D.int (0 : Int))).fld (3 : Nat)).toInt])).getD x1.toNat (Go.Rai.D.int (0 : Int))).fld (0 : Nat)).toInt, Go.Rai.D.int (Go.IntKind.i64.wrap (x0 + (1 : Int))), Go.Rai.D.int (((x2.set x1.toNat (Go.Rai.D.node [Go.Rai.D.int x0, Go.Rai.D.int ((x2.getD x1.toNat (Go.Rai.D.int (0 : Int))).fld (1 : Nat)).toInt, Go.Rai.D.int ((x2.getD x1.toNat (Go.Rai.D.int (0 : Int))).fld (2 : Nat)).toInt, Go.Rai.D.int ((x2.getD x1.toNat (Go.Rai.D.int (0 : Int))).fld (3 : Nat)).toInt])).getD x1.toNat (Go.Rai.D.int (0 : Int))).fld (2 : Nat)).toInt, Go.Rai.D.int (((x2.set x1.toNat (Go.Rai.D.node [Go.Rai.D.int x0, Go.Rai.D.int ((x2.getD x1.toNat (Go.Rai.D.int (0 : Int))).fld (1 : Nat)).toInt, Go.Rai.D.int ((x2.getD x1.toNat (Go.Rai.D.int (0 : Int))).fld (2 : Nat)).toInt, Go.Rai.D.int ((x2.getD x1.toNat (Go.Rai.D.int (0 : Int))).fld (3 : Nat)).toInt])).getD x1.toNat (Go.Rai.D.int (0 : Int))).fld (3 : Nat)).toInt])).getD x1.toNat (Go.Rai.D.int (0 : Int))).fld (3 : Nat)).toInt])).set x1.toNat (Go.Rai.D.node [Go.Rai.D.int (((((x2.set x1.toNat (Go.Rai.D.node [Go.Rai.D.int x0, Go.Rai.D.int ((x2.getD x1.toNat (Go.Rai.D.int (0 : Int))).fld (1 : Nat)).toInt, Go.Rai.D.int ((x2.getD x1.toNat (Go.Rai.D.int (0 : Int))).fld (2 : Nat)).toInt, Go.Rai.D.int ((x2.getD x1.toNat (Go.Rai.D.int (0 : Int))).fld (3 : Nat)).toInt])).set x1.toNat (Go.Rai.D.node [Go.Rai.D.int (((x2.set x1.toNat (Go.Rai.D.node [Go.Rai.D.int x0, Go.Rai.D.int ((x2.getD x1.toNat (Go.Rai.D.int (0 : Int))).fld (1 : Nat)).toInt, Go.Rai.D.int ((x2.getD x1.toNat (Go.Rai.D.int (0 : Int))).fld (2 : Nat)).toInt, Go.Rai.D.int ((x2.getD x1.toNat (Go.Rai.D.int (0 : Int))).fld (3 : Nat)).toInt])).getD x1.toNat (Go.Rai.D.int (0 : Int))).fld (0 : Nat)).toInt, Go.Rai.D.int (Go.IntKind.i64.wrap (x0 + (1 : Int))), Go.Rai.D.int (((x2.set x1.toNat (Go.Rai.D.node [Go.Rai.D.int x0, Go.Rai.D.int ((x2.getD x1.toNat (Go.Rai.D.int (0 : Int))).fld (1 : Nat)).toInt, Go.Rai.D.int ((x2.getD x1.toNat (Go.Rai.D.int (0 : Int))).fld (2 : Nat)).toInt, Go.Rai.D.int ((x2.getD x1.toNat (Go.Rai.D.int (0 : Int))).fld (3 : Nat)).toInt])).getD x1.toNat (Go.Rai.D.int (0 : Int))).fld (2 : Nat)).toInt, Go.Rai.D.int (((x2.set x1.toNat (Go.Rai.D.node [Go.Rai.D.int x0, Go.Rai.D.int ((x2.getD x1.toNat (Go.Rai.D.int (0 : Int))).fld (1 : Nat)).toInt, Go.Rai.D.int ((x2.getD x1.toNat (Go.Rai.D.int (0 : Int))).fld (2 : Nat)).toInt, Go.Rai.D.int ((x2.getD x1.toNat (Go.Rai.D.int (0 : Int))).fld (3 : Nat)).toInt])).getD x1.toNat (Go.Rai.D.int (0 : Int))).fld (3 : Nat)).toInt])).set x1.toNat (Go.Rai.D.node [Go.Rai.D.int ((((x2.set x1.toNat (Go.Rai.D.node [Go.Rai.D.int x0, Go.Rai.D.int ((x2.getD x1.toNat (Go.Rai.D.int (0 : Int))).fld (1 : Nat)).toInt, Go.Rai.D.int ((x2.getD x1.toNat (Go.Rai.D.int (0 : Int))).fld (2 : Nat)).toInt, Go.Rai.D.int ((x2.getD x1.toNat (Go.Rai.D.int (0 : Int))).fld (3 : Nat)).toInt])).set x1.toNat (Go.Rai.D.node [Go.Rai.D.int (((x2.set x1.toNat (Go.Rai.D.node [Go.Rai.D.int x0, Go.Rai.D.int ((x2.getD x1.toNat (Go.Rai.D.int (0 : Int))).fld (1 : Nat)).toInt, Go.Rai.D.int ((x2.getD x1.toNat (Go.Rai.D.int (0 : Int))).fld (2 : Nat)).toInt, Go.Rai.D.int ((x2.getD x1.toNat (Go.Rai.D.int (0 : Int))).fld (3 : Nat)).toInt])).getD x1.toNat (Go.Rai.D.int (0 : Int))).fld (0 : Nat)).toInt, Go.Rai.D.int (Go.IntKind.i64.wrap (x0 + (1 : Int))), Go.Rai.D.int (((x2.set x1.toNat (Go.Rai.D.node [Go.Rai.D.int x0, Go.Rai.D.int ((x2.getD x1.toNat (Go.Rai.D.int (0 : Int))).fld (1 : Nat)).toInt, Go.Rai.D.int ((x2.getD x1.toNat (Go.Rai.D.int (0 : Int))).fld (2 : Nat)).toInt, Go.Rai.D.int ((x2.getD x1.toNat (Go.Rai.D.int (0 : Int))).fld (3 : Nat)).toInt])).getD x1.toNat (Go.Rai.D.int (0 : Int))).fld (2 : Nat)).toInt, Go.Rai.D.int (((x2.set x1.toNat (Go.Rai.D.node [Go.Rai.D.int x0, Go.Rai.D.int ((x2.getD x1.toNat (Go.Rai.D.int (0 : Int))).fld (1 : Nat)).toInt, Go.Rai.D.int ((x2.getD x1.toNat (Go.Rai.D.int (0 : Int))).fld (2 : Nat)).toInt, Go.Rai.D.int ((x2.getD x1.toNat (Go.Rai.D.int (0 : Int))).fld (3 : Nat)).toInt])).getD x1.toNat (Go.Rai.D.int (0 : Int))).fld (3 : Nat)).toInt])).getD x1.toNat (Go.Rai.D.int (0 : Int))).fld (0 : Nat)).toInt, Go.Rai.D.int ((((x2.set x1.toNat (Go.Rai.D.node [Go.Rai.D.int x0, Go.Rai.D.int ((x2.getD x1.toNat (Go.Rai.D.int (0 : Int))).fld (1 : Nat)).toInt, Go.Rai.D.int ((x2.getD x1.toNat (Go.Rai.D.int (0 : Int))).fld (2 : Nat)).toInt, Go.Rai.D.int ((x2.getD x1.toNat (Go.Rai.D.int (0 : Int))).fld (3 : Nat)).toInt])).set x1.toNat (Go.Rai.D.node [Go.Rai.D.int (((x2.set x1.toNat (Go.Rai.D.node [Go.Rai.D.int x0, Go.Rai.D.int ((x2.getD x1.toNat (Go.Rai.D.int (0 : Int))).fld (1 : Nat)).toInt, Go.Rai.D.int ((x2.getD x1.toNat (Go.Rai.D.int (0 : Int))).fld (2 : Nat)).toInt, Go.Rai.D.int ((x2.getD x1.toNat (Go.Rai.D.int (0 : Int))).fld (3 : Nat)).toInt])).getD x1.toNat (Go.Rai.D.int (0 : Int))).fld (0 : Nat)).toInt, Go.Rai.D.int (Go.IntKind.i64.wrap (x0 + (1 : Int))), Go.Rai.D.int (((x2.set x1.toNat (Go.Rai.D.node [Go.Rai.D.int x0, Go.Rai.D.int ((x2.getD x1.toNat (Go.Rai.D.int (0 : Int))).fld (1 : Nat)).toInt, Go.Rai.D.int ((x2.getD x1.toNat (Go.Rai.D.int (0 : Int))).fld (2 : Nat)).toInt, Go.Rai.D.int ((x2.getD x1.toNat (Go.Rai.D.int (0 : Int))).fld (3 : Nat)).toInt])).getD x1.toNat (Go.Rai.D.int (0 : Int))).fld (2 : Nat)).toInt, Go.Rai.D.int (((x2.set x1.toNat (Go.Rai.D.node [Go.Rai.D.int x0, Go.Rai.D.int ((x2.getD x1.toNat (Go.Rai.D.int (0 : Int))).fld (1 : Nat)).toInt, Go.Rai.D.int ((x2.getD x1.toNat (Go.Rai.D.int (0 : Int))).fld (2 : Nat)).toInt, Go.Rai.D.int ((x2.getD x1.toNat (Go.Rai.D.int (0 : Int))).fld (3 : Nat)).toInt])).getD x1.toNat (Go.Rai.D.int (0 : Int))).fld (3 : Nat)).toInt])).getD x1.toNat (Go.Rai.D.int (0 : Int))).fld (1 : Nat)).toInt, Go.Rai.D.int (Go.IntKind.i64.wrap (Go.IntKind.i64.wrap (x0 + (1 : Int)) + (1 : Int))), Go.Rai.D.int ((((x2.set x1.toNat (Go.Rai.D.node [Go.Rai.D.int x0, Go.Rai.D.int ((x2.getD x1.toNat (Go.Rai.D.int (0 : Int))).fld (1 : Nat)).toInt, Go.Rai.D.int ((x2.getD x1.toNat (Go.Rai.D.int (0 : Int))).fld (2 : Nat)).toInt, Go.Rai.D.int ((x2.getD x1.toNat (Go.Rai.D.int (0 : Int))).fld (3 : Nat)).toInt])).set x1.toNat (Go.Rai.D.node [Go.Rai.D.int (((x2.set x1.toNat (Go.Rai.D.node [Go.Rai.D.int x0, Go.Rai.D.int ((x2.getD x1.toNat (Go.Rai.D.int (0 : Int))).fld (1 : Nat)).toInt, Go.Rai.D.int ((x2.getD x1.toNat (Go.Rai.D.int (0 : Int))).fld (2 : Nat)).toInt, Go.Rai.D.int ((x2.getD x1.toNat (Go.Rai.D.int (0 : Int))).fld (3 : Nat)).toInt])).getD x1.toNat (Go.Rai.D.int (0 : Int))).fld (0 : Nat)).toInt, Go.Rai.D.int (Go.IntKind.i64.wrap (x0 + (1 : Int))), Go.Rai.D.int (((x2.set x1.toNat (Go.Rai.D.node [Go.Rai.D.int x0, Go.Rai.D.int ((x2.getD x1.toNat (Go.Rai.D.int (0 : Int))).fld (1 : Nat)).toInt, Go.Rai.D.int ((x2.getD x1.toNat (Go.Rai.D.int (0 : Int))).fld (2 : Nat)).toInt, Go.Rai.D.int ((x2.getD x1.toNat (Go.Rai.D.int (0 : Int))).fld (3 : Nat)).toInt])).getD x1.toNat (Go.Rai.D.int (0 : Int))).fld (2 : Nat)).toInt, Go.Rai.D.int (((x2.set x1.toNat (Go.Rai.D.node [Go.Rai.D.int x0, Go.Rai.D.int ((x2.getD x1.toNat (Go.Rai.D.int (0 : Int))).fld (1 : Nat)).toInt, Go.Rai.D.int ((x2.getD x1.toNat (Go.Rai.D.int (0 : Int))).fld (2 : Nat)).toInt, Go.Rai.D.int ((x2.getD x1.toNat (Go.Rai.D.int (0 : Int))).fld (3 : Nat)).toInt])).getD x1.toNat (Go.Rai.D.int (0 : Int))).fld (3 : Nat)).toInt])).getD x1.toNat (Go.Rai.D.int (0 : Int))).fld (3 : Nat)).toInt])).getD x1.toNat (Go.Rai.D.int (0 : Int))).fld (0 : Nat)).toInt, Go.Rai.D.int (((((x2.set x1.toNat (Go.Rai.D.node [Go.Rai.D.int x0, Go.Rai.D.int ((x2.getD x1.toNat (Go.Rai.D.int (0 : Int))).fld (1 : Nat)).toInt, Go.Rai.D.int ((x2.getD x1.toNat (Go.Rai.D.int (0 : Int))).fld (2 : Nat)).toInt, Go.Rai.D.int ((x2.getD x1.toNat (Go.Rai.D.int (0 : Int))).fld (3 : Nat)).toInt])).set x1.toNat (Go.Rai.D.node [Go.Rai.D.int (((x2.set x1.toNat (Go.Rai.D.node [Go.Rai.D.int x0, Go.Rai.D.int ((x2.getD x1.toNat (Go.Rai.D.int (0 : Int))).fld (1 : Nat)).toInt, Go.Rai.D.int ((x2.getD x1.toNat (Go.Rai.D.int (0 : Int))).fld (2 : Nat)).toInt, Go.Rai.D.int ((x2.getD x1.toNat (Go.Rai.D.int (0 : Int))).fld (3 : Nat)).toInt])).getD x1.toNat (Go.Rai.D.int (0 : Int))).fld (0 : Nat)).toInt, Go.Rai.D.int (Go.IntKind.i64.wrap (x0 + (1 : Int))), Go.Rai.D.int (((x2.set x1.toNat (Go.Rai.D.node [Go.Rai.D.int x0, Go.Rai.D.int ((x2.getD x1.toNat (Go.Rai.D.int (0 : Int))).fld (1 : Nat)).toInt, Go.Rai.D.int ((x2.getD x1.toNat (Go.Rai.D.int (0 : Int))).fld (2 : Nat)).toInt, Go.Rai.D.int ((x2.getD x1.toNat (Go.Rai.D.int (0 : Int))).fld (3 : Nat)).toInt])).getD x1.toNat (Go.Rai.D.int (0 : Int))).fld (2 : Nat)).toInt, Go.Rai.D.int (((x2.set x1.toNat (Go.Rai.D.node [Go.Rai.D.int x0, Go.Rai.D.int ((x2.getD x1.toNat (Go.Rai.D.int (0 : Int))).fld (1 : Nat)).toInt, Go.Rai.D.int ((x2.getD x1.toNat (Go.Rai.D.int (0 : Int))).fld (2 : Nat)).toInt, Go.Rai.D.int ((x2.getD x1.toNat (Go.Rai.D.int (0 : Int))).fld (3 : Nat)).toInt])).getD x1.toNat (Go.Rai.D.int (0 : Int))).fld (3 : Nat)).toInt])).set x1.toNat (Go.Rai.D.node [Go.Rai.D.int ((((x2.set x1.toNat (Go.Rai.D.node [Go.Rai.D.int x0, Go.Rai.D.int ((x2.getD x1.toNat (Go.Rai.D.int (0 : Int))).fld (1 : Nat)).toInt, Go.Rai.D.int ((x2.getD x1.toNat (Go.Rai.D.int (0 : Int))).fld (2 : Nat)).toInt, Go.Rai.D.int ((x2.getD x1.toNat (Go.Rai.D.int (0 : Int))).fld (3 : Nat)).toInt])).set x1.toNat (Go.Rai.D.node [Go.Rai.D.int (((x2.set x1.toNat (Go.Rai.D.node [Go.Rai.D.int x0, Go.Rai.D.int ((x2.getD x1.toNat (Go.Rai.D.int (0 : Int))).fld (1 : Nat)).toInt, Go.Rai.D.int ((x2.getD x1.toNat (Go.Rai.D.int (0 : Int))).fld (2 : Nat)).toInt, Go.Rai.D.int ((x2.getD x1.toNat (Go.Rai.D.int (0 : Int))).fld (3 : Nat)).toInt])).getD x1.toNat (Go.Rai.D.int (0 : Int))).fld (0 : Nat)).toInt, Go.Rai.D.int (Go.IntKind.i64.wrap (x0 + (1 : Int))), Go.Rai.D.int (((x2.set x1.toNat (Go.Rai.D.node [Go.Rai.D.int x0, Go.Rai.D.int ((x2.getD x1.toNat (Go.Rai.D.int (0 : Int))).fld (1 : Nat)).toInt, Go.Rai.D.int ((x2.getD x1.toNat (Go.Rai.D.int (0 : Int))).fld (2 : Nat)).toInt, Go.Rai.D.int ((x2.getD x1.toNat (Go.Rai.D.int (0 : Int))).fld (3 : Nat)).toInt])).getD x1.toNat (Go.Rai.D.int (0 : Int))).fld (2 : Nat)).toInt, Go.Rai.D.int (((x2.set x1.toNat (Go.Rai.D.node [Go.Rai.D.int x0, Go.Rai.D.int ((x2.getD x1.toNat (Go.Rai.D.int (0 : Int))).fld (1 : Nat)).toInt, Go.Rai.D.int ((x2.getD x1.toNat (Go.Rai.D.int (0 : Int))).fld (2 : Nat)).toInt, Go.Rai.D.int ((x2.getD x1.toNat (Go.Rai.D.int (0 : Int))).fld (3 : Nat)).toInt])).getD x1.toNat (Go.Rai.D.int (0 : Int))).fld (3 : Nat)).toInt])).getD x1.toNat (Go.Rai.D.int (0 : Int))).fld (0 : Nat)).toInt, Go.Rai.D.int ((((x2.set x1.toNat (Go.Rai.D.node [Go.Rai.D.int x0, Go.Rai.D.int ((x2.getD x1.toNat (Go.Rai.D.int (0 : Int))).fld (1 : Nat)).toInt, Go.Rai.D.int ((x2.getD x1.toNat (Go.Rai.D.int (0 : Int))).fld (2 : Nat)).toInt, Go.Rai.D.int ((x2.getD x1.toNat (Go.Rai.D.int (0 : Int))).fld (3 : Nat)).toInt])).set x1.toNat (Go.Rai.D.node [Go.Rai.D.int (((x2.set x1.toNat (Go.Rai.D.node [Go.Rai.D.int x0, Go.Rai.D.int ((x2.getD x1.toNat (Go.Rai.D.int (0 : Int))).fld (1 : Nat)).toInt, Go.Rai.D.int ((x2.getD x1.toNat (Go.Rai.D.int (0 : Int))).fld (2 : Nat)).toInt, Go.Rai.D.int ((x2.getD x1.toNat (Go.Rai.D.int (0 : Int))).fld (3 : Nat)).toInt])).getD x1.toNat (Go.Rai.D.int (0 : Int))).fld (0 : Nat)).toInt, Go.Rai.D.int (Go.IntKind.i64.wrap (x0 + (1 : Int))), Go.Rai.D.int (((x2.set x1.toNat (Go.Rai.D.node [Go.Rai.D.int x0, Go.Rai.D.int ((x2.getD x1.toNat (Go.Rai.D.int (0 : Int))).fld (1 : Nat)).toInt, Go.Rai.D.int ((x2.getD x1.toNat (Go.Rai.D.int (0 : Int))).fld (2 : Nat)).toInt, Go.Rai.D.int ((x2.getD x1.toNat (Go.Rai.D.int (0 : Int))).fld (3 : Nat)).toInt])).getD x1.toNat (Go.Rai.D.int (0 : Int))).fld (2 : Nat)).toInt, Go.Rai.D.int (((x2.set x1.toNat (Go.Rai.D.node [Go.Rai.D.int x0, Go.Rai.D.int ((x2.getD x1.toNat (Go.Rai.D.int (0 : Int))).fld (1 : Nat)).toInt, Go.Rai.D.int ((x2.getD x1.toNat (Go.Rai.D.int (0 : Int))).fld (2 : Nat)).toInt, Go.Rai.D.int ((x2.getD x1.toNat (Go.Rai.D.int (0 : Int))).fld (3 : Nat)).toInt])).getD x1.toNat (Go.Rai.D.int (0 : Int))).fld (3 : Nat)).toInt])).getD x1.toNat (Go.Rai.D.int (0 : Int))).fld (1 : Nat)).toInt, Go.Rai.D.int (Go.IntKind.i64.wrap (Go.IntKind.i64.wrap (x0 + (1 : Int)) + (1 : Int))), Go.Rai.D.int ((((x2.set x1.toNat (Go.Rai.D.node [Go.Rai.D.int x0, Go.Rai.D.int ((x2.getD x1.toNat (Go.Rai.D.int (0 : Int))).fld (1 : Nat)).toInt, Go.Rai.D.int ((x2.getD x1.toNat (Go.Rai.D.int (0 : Int))).fld (2 : Nat)).toInt, Go.Rai.D.int ((x2.getD x1.toNat (Go.Rai.D.int (0 : Int))).fld (3 : Nat)).toInt])).set x1.toNat (Go.Rai.D.node [Go.Rai.D.int (((x2.set x1.toNat (Go.Rai.D.node [Go.Rai.D.int x0, Go.Rai.D.int ((x2.getD x1.toNat (Go.Rai.D.int (0 : Int))).fld (1 : Nat)).toInt, Go.Rai.D.int ((x2.getD x1.toNat (Go.Rai.D.int (0 : Int))).fld (2 : Nat)).toInt, Go.Rai.D.int ((x2.getD x1.toNat (Go.Rai.D.int (0 : Int))).fld (3 : Nat)).toInt])).getD x1.toNat (Go.Rai.D.int (0 : Int))).fld (0 : Nat)).toInt, Go.Rai.D.int (Go.IntKind.i64.wrap (x0 + (1 : Int))), Go.Rai.D.int (((x2.set x1.toNat (Go.Rai.D.node [Go.Rai.D.int x0, Go.Rai.D.int ((x2.getD x1.toNat (Go.Rai.D.int (0 : Int))).fld (1 : Nat)).toInt, Go.Rai.D.int ((x2.getD x1.toNat (Go.Rai.D.int (0 : Int))).fld (2 : Nat)).toInt, Go.Rai.D.int ((x2.getD x1.toNat (Go.Rai.D.int (0 : Int))).fld (3 : Nat)).toInt])).getD x1.toNat (Go.Rai.D.int (0 : Int))).fld (2 : Nat)).toInt, Go.Rai.D.int (((x2.set x1.toNat (Go.Rai.D.node [Go.Rai.D.int x0, Go.Rai.D.int ((x2.getD x1.toNat (Go.Rai.D.int (0 : Int))).fld (1 : Nat)).toInt, Go.Rai.D.int ((x2.getD x1.toNat (Go.Rai.D.int (0 : Int))).fld (2 : Nat)).toInt, Go.Rai.D.int ((x2.getD x1.toNat (Go.Rai.D.int (0 : Int))).fld (3 : Nat)).toInt])).getD x1.toNat (Go.Rai.D.int (0 : Int))).fld (3 : Nat)).toInt])).getD x1.toNat (Go.Rai.D.int (0 : Int))).fld (3 : Nat)).toInt])).getD x1.toNat (Go.Rai.D.int (0 : Int))).fld (1 : Nat)).toInt, Go.Rai.D.int (((((x2.set x1.toNat (Go.Rai.D.node [Go.Rai.D.int x0, Go.Rai.D.int ((x2.getD x1.toNat (Go.Rai.D.int (0 : Int))).fld (1 : Nat)).toInt, Go.Rai.D.int ((x2.getD x1.toNat (Go.Rai.D.int (0 : Int))).fld (2 : Nat)).toInt, Go.Rai.D.int ((x2.getD x1.toNat (Go.Rai.D.int (0 : Int))).fld (3 : Nat)).toInt])).set x1.toNat (Go.Rai.D.node [Go.Rai.D.int (((x2.set x1.toNat (Go.Rai.D.node [Go.Rai.D.int x0, Go.Rai.D.int ((x2.getD x1.toNat (Go.Rai.D.int (0 : Int))).fld (1 : Nat)).toInt, Go.Rai.D.int ((x2.getD x1.toNat (Go.Rai.D.int (0 : Int))).fld (2 : Nat)).toInt, Go.Rai.D.int ((x2.getD x1.toNat (Go.Rai.D.int (0 : Int))).fld (3 : Nat)).toInt])).getD x1.toNat (Go.Rai.D.int (0 : Int))).fld (0 : Nat)).toInt, Go.Rai.D.int (Go.IntKind.i64.wrap (x0 + (1 : Int))), Go.Rai.D.int (((x2.set x1.toNat (Go.Rai.D.node [Go.Rai.D.int x0, Go.Rai.D.int ((x2.getD x1.toNat (Go.Rai.D.int (0 : Int))).fld (1 : Nat)).toInt, Go.Rai.D.int ((x2.getD x1.toNat (Go.Rai.D.int (0 : Int))).fld (2 : Nat)).toInt, Go.Rai.D.int ((x2.getD x1.toNat (Go.Rai.D.int (0 : Int))).fld (3 : Nat)).toInt])).getD x1.toNat (Go.Rai.D.int (0 : Int))).fld (2 : Nat)).toInt, Go.Rai.D.int (((x2.set x1.toNat (Go.Rai.D.node [Go.Rai.D.int x0, Go.Rai.D.int ((x2.getD x1.toNat (Go.Rai.D.int (0 : Int))).fld (1 : Nat)).toInt, Go.Rai.D.int ((x2.getD x1.toNat (Go.Rai.D.int (0 : Int))).fld (2 : Nat)).toInt, Go.Rai.D.int ((x2.getD x1.toNat (Go.Rai.D.int (0 : Int))).fld (3 : Nat)).toInt])).getD x1.toNat (Go.Rai.D.int (0 : Int))).fld (3 : Nat)).toInt])).set x1.toNat (Go.Rai.D.node [Go.Rai.D.int ((((x2.set x1.toNat (Go.Rai.D.node [Go.Rai.D.int x0, Go.Rai.D.int ((x2.getD x1.toNat (Go.Rai.D.int (0 : Int))).fld (1 : Nat)).toInt, Go.Rai.D.int ((x2.getD x1.toNat (Go.Rai.D.int (0 : Int))).fld (2 : Nat)).toInt, Go.Rai.D.int ((x2.getD x1.toNat (Go.Rai.D.int (0 : Int))).fld (3 : Nat)).toInt])).set x1.toNat (Go.Rai.D.node [Go.Rai.D.int (((x2.set x1.toNat (Go.Rai.D.node [Go.Rai.D.int x0, Go.Rai.D.int ((x2.getD x1.toNat (Go.Rai.D.int (0 : Int))).fld (1 : Nat)).toInt, Go.Rai.D.int ((x2.getD x1.toNat (Go.Rai.D.int (0 : Int))).fld (2 : Nat)).toInt, Go.Rai.D.int ((x2.getD x1.toNat (Go.Rai.D.int (0 : Int))).fld (3 : Nat)).toInt])).getD x1.toNat (Go.Rai.D.int (0 : Int))).fld (0 : Nat)).toInt, Go.Rai.D.int (Go.IntKind.i64.wrap (x0 + (1 : Int))), Go.Rai.D.int (((x2.set x1.toNat (Go.Rai.D.node [Go.Rai.D.int x0, Go.Rai.D.int ((x2.getD x1.toNat (Go.Rai.D.int (0 : Int))).fld (1 : Nat)).toInt, Go.Rai.D.int ((x2.getD x1.toNat (Go.Rai.D.int (0 : Int))).fld (2 : Nat)).toInt, Go.Rai.D.int ((x2.getD x1.toNat (Go.Rai.D.int (0 : Int))).fld (3 : Nat)).toInt])).getD x1.toNat (Go.Rai.D.int (0 : Int))).fld (2 : Nat)).toInt, Go.Rai.D.int (((x2.set x1.toNat (Go.Rai.D.node [Go.Rai.D.int x0, Go.Rai.D.int ((x2.getD x1.toNat (Go.Rai.D.int (0 : Int))).fld (1 : Nat)).toInt, Go.Rai.D.int ((x2.getD x1.toNat (Go.Rai.D.int (0 : Int))).fld (2 : Nat)).toInt, Go.Rai.D.int ((x2.getD x1.toNat (Go.Rai.D.int (0 : Int))).fld (3 : Nat)).toInt])).getD x1.toNat (Go.Rai.D.int (0 : Int))).fld (3 : Nat)).toInt])).getD x1.toNat (Go.Rai.D.int (0 : Int))).fld (0 : Nat)).toInt, Go.Rai.D.int ((((x2.set x1.toNat (Go.Rai.D.node [Go.Rai.D.int x0, Go.Rai.D.int ((x2.getD x1.toNat (Go.Rai.D.int (0 : Int))).fld (1 : Nat)).toInt, Go.Rai.D.int ((x2.getD x1.toNat (Go.Rai.D.int (0 : Int))).fld (2 : Nat)).toInt, Go.Rai.D.int ((x2.getD x1.toNat (Go.Rai.D.int (0 : Int))).fld (3 : Nat)).toInt])).set x1.toNat (Go.Rai.D.node [Go.Rai.D.int (((x2.set x1.toNat (Go.Rai.D.node [Go.Rai.D.int x0, Go.Rai.D.int ((x2.getD x1.toNat (Go.Rai.D.int (0 : Int))).fld (1 : Nat)).toInt, Go.Rai.D.int ((x2.getD x1.toNat (Go.Rai.D.int (0 : Int))).fld (2 : Nat)).toInt, Go.Rai.D.int ((x2.getD x1.toNat (Go.Rai.D.int (0 : Int))).fld (3 : Nat)).toInt])).getD x1.toNat (Go.Rai.D.int (0 : Int))).fld (0 : Nat)).toInt, Go.Rai.D.int (Go.IntKind.i64.wrap (x0 + (1 : Int))), Go.Rai.D.int (((x2.set x1.toNat (Go.Rai.D.node [Go.Rai.D.int x0, Go.Rai.D.int ((x2.getD x1.toNat (Go.Rai.D.int (0 : Int))).fld (1 : Nat)).toInt, Go.Rai.D.int ((x2.getD x1.toNat (Go.Rai.D.int (0 : Int))).fld (2 : Nat)).toInt, Go.Rai.D.int ((x2.getD x1.toNat (Go.Rai.D.int (0 : Int))).fld (3 : Nat)).toInt])).getD x1.toNat (Go.Rai.D.int (0 : Int))).fld (2 : Nat)).toInt, Go.Rai.D.int (((x2.set x1.toNat (Go.Rai.D.node [Go.Rai.D.int x0, Go.Rai.D.int ((x2.getD x1.toNat (Go.Rai.D.int (0 : Int))).fld (1 : Nat)).toInt, Go.Rai.D.int ((x2.getD x1.toNat (Go.Rai.D.int (0 : Int))).fld (2 : Nat)).toInt, Go.Rai.D.int ((x2.getD x1.toNat (Go.Rai.D.int (0 : Int))).fld (3 : Nat)).toInt])).getD x1.toNat (Go.Rai.D.int (0 : Int))).fld (3 : Nat)).toInt])).getD x1.toNat (Go.Rai.D.int (0 : Int))).fld (1 : Nat)).toInt, Go.Rai.D.int (Go.IntKind.i64.wrap (Go.IntKind.i64.wrap (x0 + (1 : Int)) + (1 : Int))), Go.Rai.D.int ((((x2.set x1.toNat (Go.Rai.D.node [Go.Rai.D.int x0, Go.Rai.D.int ((x2.getD x1.toNat (Go.Rai.D.int (0 : Int))).fld (1 : Nat)).toInt, Go.Rai.D.int ((x2.getD x1.toNat (Go.Rai.D.int (0 : Int))).fld (2 : Nat)).toInt, Go.Rai.D.int ((x2.getD x1.toNat (Go.Rai.D.int (0 : Int))).fld (3 : Nat)).toInt])).set x1.toNat (Go.Rai.D.node [Go.Rai.D.int (((x2.set x1.toNat (Go.Rai.D.node [Go.Rai.D.int x0, Go.Rai.D.int ((x2.getD x1.toNat (Go.Rai.D.int (0 : Int))).fld (1 : Nat)).toInt, Go.Rai.D.int ((x2.getD x1.toNat (Go.Rai.D.int (0 : Int))).fld (2 : Nat)).toInt, Go.Rai.D.int ((x2.getD x1.toNat (Go.Rai.D.int (0 : Int))).fld (3 : Nat)).toInt])).getD x1.toNat (Go.Rai.D.int (0 : Int))).fld (0 : Nat)).toInt, Go.Rai.D.int (Go.IntKind.i64.wrap (x0 + (1 : Int))), Go.Rai.D.int (((x2.set x1.toNat (Go.Rai.D.node [Go.Rai.D.int x0, Go.Rai.D.int ((x2.getD x1.toNat (Go.Rai.D.int (0 : Int))).fld (1 : Nat)).toInt, Go.Rai.D.int ((x2.getD x1.toNat (Go.Rai.D.int (0 : Int))).fld (2 : Nat)).toInt, Go.Rai.D.int ((x2.getD x1.toNat (Go.Rai.D.int (0 : Int))).fld (3 : Nat)).toInt])).getD x1.toNat (Go.Rai.D.int (0 : Int))).fld (2 : Nat)).toInt, Go.Rai.D.int (((x2.set x1.toNat (Go.Rai.D.node [Go.Rai.D.int x0, Go.Rai.D.int ((x2.getD x1.toNat (Go.Rai.D.int (0 : Int))).fld (1 : Nat)).toInt, Go.Rai.D.int ((x2.getD x1.toNat (Go.Rai.D.int (0 : Int))).fld (2 : Nat)).toInt, Go.Rai.D.int ((x2.getD x1.toNat (Go.Rai.D.int (0 : Int))).fld (3 : Nat)).toInt])).getD x1.toNat (Go.Rai.D.int (0 : Int))).fld (3 : Nat)).toInt])).getD x1.toNat (Go.Rai.D.int (0 : Int))).fld (3 : Nat)).toInt])).getD x1.toNat (Go.Rai.D.int (0 : Int))).fld (2 : Nat)).toInt, Go.Rai.D.int (Go.IntKind.i64.wrap (Go.IntKind.i64.wrap (Go.IntKind.i64.wrap (x0 + (1 : Int)) + (1 : Int)) + (1 : Int)))]))).bind k
 else
 none
 else
 none
 else
 none
 else
 none
 else
 none
 else
 none
 else
 none
 else
 none
 else
 none
 else
 none
 else
 none
 else
 none
 else
 k (x0, x2)
theorem c_laws_markSherdS_L2_bind {R : Type} (F : Int → Int → List D → Option (Int × List D)) (x0 : Int) (x1 : Int) (x2 : List D) (k : Int × List D → Option R) : c_laws_markSherdS_L2 F x0 x1 x2 k = (c_laws_markSherdS_L2 F x0 x1 x2 some).bind k := by
  unfold c_laws_markSherdS_L2
  repeat' first
    | exact bnd_tail
    | exact bnd_none
    | exact bnd_leaf
    | apply bnd_ite
    | apply bnd_cond
    | apply bnd_sum
    | (apply bnd_bind; intro _)
    | intro _
def n_laws_markSherdS_L2 : Nat → Int → Int → List D → Option (Int × List D)
 | 0, _, _, _ => none
 | n + 1, x0, x1, x2 => c_laws_markSherdS_L2 (n_laws_markSherdS_L2 n) x0 x1 x2 some
noncomputable def laws_markSherdS_L2 (x0 : Int) (x1 : Int) (x2 : List D) : Option (Int × List D) := ev (fun n => n_laws_markSherdS_L2 n x0 x1 x2)
def m_laws_markSherdS_L2 (F : Int → Int → List D → Option (Int × List D)) : Lent := ⟨2, ⟨[.full 1000 [] (.struct [.int .i64, .int .i64, .int .i64, .int .i64]), .int .i64, .undef, .undef, .undef, .int .i64, .undef, .undef, .undef, .undef, .undef, .undef, .undef, .undef, .undef, .undef, .undef, .undef, .undef, .undef, .undef, .undef, .undef, .undef, .undef, .undef, .undef, .undef, .undef, .undef, .undef, .undef, .undef, .undef, .undef, .undef, .undef, .undef, .undef, .undef, .undef], [(1000, .own (.struct [.int .i64, .int .i64, .int .i64, .int .i64]))]⟩, [(.exit 0, ⟨[.full 1000 [] (.struct [.int .i64, .int .i64, .int .i64, .int .i64]), .int .i64, .undef, .undef, .undef, .undef, .undef, .undef, .undef, .undef, .undef, .undef, .undef, .undef, .undef, .undef, .undef, .undef, .undef, .undef, .undef, .undef, .undef, .undef, .undef, .undef, .undef, .undef, .undef, .undef, .undef, .undef, .undef, .undef, .undef, .undef, .undef, .undef, .undef, .undef, .undef], [(1000, .own (.struct [.int .i64, .int .i64, .int .i64, .int .i64]))]⟩)], fun _ ds k => dI (fun x0 ds => dI (fun x1 ds => dL (fun x2 ds => dE ((F x0 x1 x2).bind (fun y => k 0 [.I y.1, .L y.2])) ds) ds) ds) ds⟩
theorem q_laws_markSherdS_L2 (F : Int → Int → List D → Option (Int × List D)) (x0 : Int) (x1 : Int) (x2 : List D) : runLoop (ocOf []) (olOf [m_laws_markSherdS_L2 F]) A 33 (codeAt (bodyOf Go.Proofs.Try.f33) 2) ((m_laws_markSherdS_L2 F).sh.mk' [.I x0, .I x1, .L x2]) (fun e σ' => some (e, σ')) = c_laws_markSherdS_L2 F x0 x1 x2 (fun y => some (.exit 0, SSt.mk' ⟨[.full 1000 [] (.struct [.int .i64, .int .i64, .int .i64, .int .i64]), .int .i64, .undef, .undef, .undef, .undef, .undef, .undef, .undef, .undef, .undef, .undef, .undef, .undef, .undef, .undef, .undef, .undef, .undef, .undef, .undef, .undef, .undef, .undef, .undef, .undef, .undef, .undef, .undef, .undef, .undef, .undef, .undef, .undef, .undef, .undef, .undef, .undef, .undef, .undef, .undef], [(1000, .own (.struct [.int .i64, .int .i64, .int .i64, .int .i64]))]⟩ [.I y.1, .L y.2])) := by kernel_rfl
theorem m_laws_markSherdS_L2_ok : ∀ n, (m_laws_markSherdS_L2 (n_laws_markSherdS_L2 n)).ok Go.Proofs.Try.prog (codeAt (bodyOf Go.Proofs.Try.f33) 2) := by
  intro n
  induction n with
  | zero =>
    intro R ds k r h
    unfold m_laws_markSherdS_L2 at h
    obtain ⟨x0, d0, rfl, h0⟩ := dI_some h
    obtain ⟨x1, d1, rfl, h1⟩ := dI_some h0
    obtain ⟨x2, d2, rfl, h2⟩ := dL_some h1
    obtain ⟨rfl, hE⟩ := dE_some h2
    obtain ⟨y, hy, hk⟩ := bnd_some hE
    cases hy
  | succ n ih =>
    intro R ds k r h
    unfold m_laws_markSherdS_L2 at h
    obtain ⟨x0, d0, rfl, h0⟩ := dI_some h
    obtain ⟨x1, d1, rfl, h1⟩ := dI_some h0
    obtain ⟨x2, d2, rfl, h2⟩ := dL_some h1
    obtain ⟨rfl, hE⟩ := dE_some h2
    obtain ⟨y, hy, hk⟩ := bnd_some hE
    have hq := q_laws_markSherdS_L2 (n_laws_markSherdS_L2 n) x0 x1 x2
    rw [c_laws_markSherdS_L2_bind] at hq
    rw [show c_laws_markSherdS_L2 (n_laws_markSherdS_L2 n) x0 x1 x2 some = some y from hy] at hq
    refine ⟨0, _, _, _, hk, rfl, loop_ok px (fx := ⟨Go.Proofs.Try.func33, by kernel_rfl, by kernel_rfl⟩) entsOK_nil (lentsOK_cons ih lentsOK_nil) (by kernel_rfl) ?_⟩
    exact hq
noncomputable def e_laws_markSherdS_L2 : Lent := m_laws_markSherdS_L2 (laws_markSherdS_L2)
theorem e_laws_markSherdS_L2_ok : (e_laws_markSherdS_L2).ok Go.Proofs.Try.prog (codeAt (bodyOf Go.Proofs.Try.f33) 2) := by
  intro R ds k r h
  unfold e_laws_markSherdS_L2 m_laws_markSherdS_L2 at h
  obtain ⟨x0, d0, rfl, h0⟩ := dI_some h
  obtain ⟨x1, d1, rfl, h1⟩ := dI_some h0
  obtain ⟨x2, d2, rfl, h2⟩ := dL_some h1
  obtain ⟨rfl, hE⟩ := dE_some h2
  obtain ⟨y, hy, hk⟩ := bnd_some hE
  obtain ⟨n, hn⟩ := ev_some hy
  exact m_laws_markSherdS_L2_ok n R _ k r (show (n_laws_markSherdS_L2 n x0 x1 x2).bind _ = _ by rw [hn]; exact hk)

/-! loop.example/g00876/laws.markSherdS -/
def c_laws_markSherdS {R : Type} (x0 : List D) (x1 : Int) (k : Int × List D → Option R) : Option R :=
 (laws_markSherdS_L2 x1 (0 : Int) x0).bind (fun y0 =>
 k (y0.fst, y0.snd))
theorem c_laws_markSherdS_bind {R : Type} (x0 : List D) (x1 : Int) (k : Int × List D → Option R) : c_laws_markSherdS x0 x1 k = (c_laws_markSherdS x0 x1 some).bind k := by
  unfold c_laws_markSherdS
  repeat' first
    | exact bnd_tail
    | exact bnd_none
    | exact bnd_leaf
    | apply bnd_ite
    | apply bnd_cond
    | apply bnd_sum
    | (apply bnd_bind; intro _)
    | intro _
def laws_markSherdS (x0 : List D) (x1 : Int) : Option (Int × List D) := c_laws_markSherdS x0 x1 some
def e_laws_markSherdS : Ent := ⟨33, [.own (.struct [.int .i64, .int .i64, .int .i64, .int .i64]), .int .i64], .int .i64, [.own (.struct [.int .i64, .int .i64, .int .i64, .int .i64]), .undef], fun _ ds k => dL (fun x0 ds => dI (fun x1 ds => dE ((laws_markSherdS x0 x1).bind (fun y => k [.I y.1, .L y.2])) ds) ds) ds⟩
theorem q_laws_markSherdS (x0 : List D) (x1 : Int) : runFn (ocOf []) (olOf [e_laws_markSherdS_L2]) A 33 Go.Proofs.Try.f33 (Sh.mks e_laws_markSherdS.sh [.L x0, .I x1]).1 (fun v os => some (v, os)) = c_laws_markSherdS x0 x1 (fun y => some ((e_laws_markSherdS.res.mk [.I y.1, .L y.2]).1, (Sh.mks e_laws_markSherdS.outs (e_laws_markSherdS.res.mk [.I y.1, .L y.2]).2).1)) := by kernel_rfl
theorem e_laws_markSherdS_ok : e_laws_markSherdS.ok Go.Proofs.Try.prog A := by
  intro R ds k r h
  unfold e_laws_markSherdS at h
  obtain ⟨x0, d0, rfl, h0⟩ := dL_some h
  obtain ⟨x1, d1, rfl, h1⟩ := dI_some h0
  obtain ⟨rfl, hE⟩ := dE_some h1
  obtain ⟨y, hy, hk⟩ := bnd_some hE
  refine ⟨_, hk, fn_ok px (fx := ⟨Go.Proofs.Try.func33, by kernel_rfl, by kernel_rfl⟩) entsOK_nil (lentsOK_cons e_laws_markSherdS_L2_ok lentsOK_nil) ?_⟩
  have hq := q_laws_markSherdS x0 x1
  rw [c_laws_markSherdS_bind] at hq
  rw [show c_laws_markSherdS x0 x1 some = some y from hy] at hq
  exact hq

/-! loop.example/g00876/laws.markJoinS, loop 2 -/
def c_laws_markJoinS_L2 {R : Type} (F : Int → Int → List D → Option (Int × List D)) (x0 : Int) (x1 : Int) (x2 : List D) (k : Int × List D → Option R) : Option R :=
 bif Decidable.decide (x1 < (↑x2.length : Int)) then
 if (0 : Int) ≤ x1 ∧ x1 < (↑x2.length : Int) then
 if x1.toNat + (1 : Nat) ≤ x2.length then
 if x1.toNat + (1 : Nat) ≤ x2.length then
 if (0 : Int) ≤ x1 ∧ x1 < (↑(x2.set x1.toNat (Go.Rai.D.node [Go.Rai.D.int x0, Go.Rai.D.int ((x2.getD x1.toNat (Go.Rai.D.int (0 : Int))).fld (1 : Nat)).toInt])).length : Int) then
 if x1.toNat + (1 : Nat) ≤ (x2.set x1.toNat (Go.Rai.D.node [Go.Rai.D.int x0, Go.Rai.D.int ((x2.getD x1.toNat (Go.Rai.D.int (0 : Int))).fld (1 : Nat)).toInt])).length then
 if x1.toNat + (1 : Nat) ≤ (x2.set x1.toNat (Go.Rai.D.node [Go.Rai.D.int x0, Go.Rai.D.int ((x2.getD x1.toNat (Go.Rai.D.int (0 : Int))).fld (1 : Nat)).toInt])).length then
 (F (Go.IntKind.i64.wrap (Go.IntKind.i64.wrap (x0 + (1 : Int)) + (1 : Int))) (Go.IntKind.i64.wrap (x1 + (1 : Int))) ((x2.set x1.toNat (Go.Rai.D.node [Go.Rai.D.int x0, Go.Rai.D.int ((x2.getD x1.toNat (Go.Rai.D.int (0 : Int))).fld (1 : Nat)).toInt])).set x1.toNat (Go.Rai.D.node [Go.Rai.D.int (((x2.set x1.toNat (Go.Rai.D.node [Go.Rai.D.int x0, Go.Rai.D.int ((x2.getD x1.toNat (Go.Rai.D.int (0 : Int))).fld (1 : Nat)).toInt])).getD x1.toNat (Go.Rai.D.int (0 : Int))).fld (0 : Nat)).toInt, Go.Rai.D.int (Go.IntKind.i64.wrap (x0 + (1 : Int)))]))).bind k
 else
 none
 else
 none
 else
 none
 else
 none
 else
 none
 else
 none
 else
 k (x0, x2)
theorem c_laws_markJoinS_L2_bind {R : Type} (F : Int → Int → List D → Option (Int × List D)) (x0 : Int) (x1 : Int) (x2 : List D) (k : Int × List D → Option R) : c_laws_markJoinS_L2 F x0 x1 x2 k = (c_laws_markJoinS_L2 F x0 x1 x2 some).bind k := by
  unfold c_laws_markJoinS_L2
  repeat' first
    | exact bnd_tail
    | exact bnd_none
    | exact bnd_leaf
    | apply bnd_ite
    | apply bnd_cond
    | apply bnd_sum
    | (apply bnd_bind; intro _)
    | intro _
def n_laws_markJoinS_L2 : Nat → Int → Int → List D → Option (Int × List D)
 | 0, _, _, _ => none
 | n + 1, x0, x1, x2 => c_laws_markJoinS_L2 (n_laws_markJoinS_L2 n) x0 x1 x2 some
noncomputable def laws_markJoinS_L2 (x0 : Int) (x1 : Int) (x2 : List D) : Option (Int × List D) := ev (fun n => n_laws_markJoinS_L2 n x0 x1 x2)
def m_laws_markJoinS_L2 (F : Int → Int → List D → Option (Int × List D)) : Lent := ⟨2, ⟨[.full 1000 [] (.struct [.int .i64, .int .i64]), .int .i64, .undef, .undef, .undef, .int .i64, .undef, .undef, .undef, .undef, .undef, .undef, .undef, .undef, .undef, .undef, .undef, .undef, .undef, .undef, .undef, .undef, .undef, .undef, .undef, .undef, .undef], [(1000, .own (.struct [.int .i64, .int .i64]))]⟩, [(.exit 0, ⟨[.full 1000 [] (.struct [.int .i64, .int .i64]), .int .i64, .undef, .undef, .undef, .undef, .undef, .undef, .undef, .undef, .undef, .undef, .undef, .undef, .undef, .undef, .undef, .undef, .undef, .undef, .undef, .undef, .undef, .undef, .undef, .undef, .undef], [(1000, .own (.struct [.int .i64, .int .i64]))]⟩)], fun _ ds k => dI (fun x0 ds => dI (fun x1 ds => dL (fun x2 ds => dE ((F x0 x1 x2).bind (fun y => k 0 [.I y.1, .L y.2])) ds) ds) ds) ds⟩
theorem q_laws_markJoinS_L2 (F : Int → Int → List D → Option (Int × List D)) (x0 : Int) (x1 : Int) (x2 : List D) : runLoop (ocOf []) (olOf [m_laws_markJoinS_L2 F]) A 34 (codeAt (bodyOf Go.Proofs.Try.f34) 2) ((m_laws_markJoinS_L2 F).sh.mk' [.I x0, .I x1, .L x2]) (fun e σ' => some (e, σ')) = c_laws_markJoinS_L2 F x0 x1 x2 (fun y => some (.exit 0, SSt.mk' ⟨[.full 1000 [] (.struct [.int .i64, .int .i64]), .int .i64, .undef, .undef, .undef, .undef, .undef, .undef, .undef, .undef, .undef, .undef, .undef, .undef, .undef, .undef, .undef, .undef, .undef, .undef, .undef, .undef, .undef, .undef, .undef, .undef, .undef], [(1000, .own (.struct [.int .i64, .int .i64]))]⟩ [.I y.1, .L y.2])) := by kernel_rfl
theorem m_laws_markJoinS_L2_ok : ∀ n, (m_laws_markJoinS_L2 (n_laws_markJoinS_L2 n)).ok Go.Proofs.Try.prog (codeAt (bodyOf Go.Proofs.Try.f34) 2) := by
  intro n
  induction n with
  | zero =>
    intro R ds k r h
    unfold m_laws_markJoinS_L2 at h
    obtain ⟨x0, d0, rfl, h0⟩ := dI_some h
    obtain ⟨x1, d1, rfl, h1⟩ := dI_some h0
    obtain ⟨x2, d2, rfl, h2⟩ := dL_some h1
    obtain ⟨rfl, hE⟩ := dE_some h2
    obtain ⟨y, hy, hk⟩ := bnd_some hE
    cases hy
  | succ n ih =>
    intro R ds k r h
    unfold m_laws_markJoinS_L2 at h
    obtain ⟨x0, d0, rfl, h0⟩ := dI_some h
    obtain ⟨x1, d1, rfl, h1⟩ := dI_some h0
    obtain ⟨x2, d2, rfl, h2⟩ := dL_some h1
    obtain ⟨rfl, hE⟩ := dE_some h2
    obtain ⟨y, hy, hk⟩ := bnd_some hE
    have hq := q_laws_markJoinS_L2 (n_laws_markJoinS_L2 n) x0 x1 x2
    rw [c_laws_markJoinS_L2_bind] at hq
    rw [show c_laws_markJoinS_L2 (n_laws_markJoinS_L2 n) x0 x1 x2 some = some y from hy] at hq
    refine ⟨0, _, _, _, hk, rfl, loop_ok px (fx := ⟨Go.Proofs.Try.func34, by kernel_rfl, by kernel_rfl⟩) entsOK_nil (lentsOK_cons ih lentsOK_nil) (by kernel_rfl) ?_⟩
    exact hq
noncomputable def e_laws_markJoinS_L2 : Lent := m_laws_markJoinS_L2 (laws_markJoinS_L2)
theorem e_laws_markJoinS_L2_ok : (e_laws_markJoinS_L2).ok Go.Proofs.Try.prog (codeAt (bodyOf Go.Proofs.Try.f34) 2) := by
  intro R ds k r h
  unfold e_laws_markJoinS_L2 m_laws_markJoinS_L2 at h
  obtain ⟨x0, d0, rfl, h0⟩ := dI_some h
  obtain ⟨x1, d1, rfl, h1⟩ := dI_some h0
  obtain ⟨x2, d2, rfl, h2⟩ := dL_some h1
  obtain ⟨rfl, hE⟩ := dE_some h2
  obtain ⟨y, hy, hk⟩ := bnd_some hE
  obtain ⟨n, hn⟩ := ev_some hy
  exact m_laws_markJoinS_L2_ok n R _ k r (show (n_laws_markJoinS_L2 n x0 x1 x2).bind _ = _ by rw [hn]; exact hk)

/-! loop.example/g00876/laws.markJoinS -/
def c_laws_markJoinS {R : Type} (x0 : List D) (x1 : Int) (k : Int × List D → Option R) : Option R :=
 (laws_markJoinS_L2 x1 (0 : Int) x0).bind (fun y0 =>
 k (y0.fst, y0.snd))
theorem c_laws_markJoinS_bind {R : Type} (x0 : List D) (x1 : Int) (k : Int × List D → Option R) : c_laws_markJoinS x0 x1 k = (c_laws_markJoinS x0 x1 some).bind k := by
  unfold c_laws_markJoinS
  repeat' first
    | exact bnd_tail
    | exact bnd_none
    | exact bnd_leaf
    | apply bnd_ite
    | apply bnd_cond
    | apply bnd_sum
    | (apply bnd_bind; intro _)
    | intro _
def laws_markJoinS (x0 : List D) (x1 : Int) : Option (Int × List D) := c_laws_markJoinS x0 x1 some
def e_laws_markJoinS : Ent := ⟨34, [.own (.struct [.int .i64, .int .i64]), .int .i64], .int .i64, [.own (.struct [.int .i64, .int .i64]), .undef], fun _ ds k => dL (fun x0 ds => dI (fun x1 ds => dE ((laws_markJoinS x0 x1).bind (fun y => k [.I y.1, .L y.2])) ds) ds) ds⟩
theorem q_laws_markJoinS (x0 : List D) (x1 : Int) : runFn (ocOf []) (olOf [e_laws_markJoinS_L2]) A 34 Go.Proofs.Try.f34 (Sh.mks e_laws_markJoinS.sh [.L x0, .I x1]).1 (fun v os => some (v, os)) = c_laws_markJoinS x0 x1 (fun y => some ((e_laws_markJoinS.res.mk [.I y.1, .L y.2]).1, (Sh.mks e_laws_markJoinS.outs (e_laws_markJoinS.res.mk [.I y.1, .L y.2]).2).1)) := by kernel_rfl
theorem e_laws_markJoinS_ok : e_laws_markJoinS.ok Go.Proofs.Try.prog A := by
  intro R ds k r h
  unfold e_laws_markJoinS at h
  obtain ⟨x0, d0, rfl, h0⟩ := dL_some h
  obtain ⟨x1, d1, rfl, h1⟩ := dI_some h0
  obtain ⟨rfl, hE⟩ := dE_some h1
  obtain ⟨y, hy, hk⟩ := bnd_some hE
  refine ⟨_, hk, fn_ok px (fx := ⟨Go.Proofs.Try.func34, by kernel_rfl, by kernel_rfl⟩) entsOK_nil (lentsOK_cons e_laws_markJoinS_L2_ok lentsOK_nil) ?_⟩
  have hq := q_laws_markJoinS x0 x1
  rw [c_laws_markJoinS_bind] at hq
  rw [show c_laws_markJoinS x0 x1 some = some y from hy] at hq
  exact hq

/-! loop.example/g00876/laws.markIntS, loop 2 -/
def c_laws_markIntS_L2 {R : Type} (F : Int → Int → List D → Option (Int × List D)) (x0 : Int) (x1 : Int) (x2 : List D) (k : Int × List D → Option R) : Option R :=
 bif Decidable.decide (x1 < (↑x2.length : Int)) then
 if (0 : Int) ≤ x1 ∧ x1 < (↑x2.length : Int) then
 if x1.toNat + (1 : Nat) ≤ x2.length then
 (F (Go.IntKind.i64.wrap (x0 + (1 : Int))) (Go.IntKind.i64.wrap (x1 + (1 : Int))) (x2.set x1.toNat (Go.Rai.D.int x0))).bind k
 else
 none
 else
 none
 else
 k (x0, x2)
theorem c_laws_markIntS_L2_bind {R : Type} (F : Int → Int → List D → Option (Int × List D)) (x0 : Int) (x1 : Int) (x2 : List D) (k : Int × List D → Option R) : c_laws_markIntS_L2 F x0 x1 x2 k = (c_laws_markIntS_L2 F x0 x1 x2 some).bind k := by
  unfold c_laws_markIntS_L2
  repeat' first
    | exact bnd_tail
    | exact bnd_none
    | exact bnd_leaf
    | apply bnd_ite
    | apply bnd_cond
    | apply bnd_sum
    | (apply bnd_bind; intro _)
    | intro _
def n_laws_markIntS_L2 : Nat → Int → Int → List D → Option (Int × List D)
 | 0, _, _, _ => none
 | n + 1, x0, x1, x2 => c_laws_markIntS_L2 (n_laws_markIntS_L2 n) x0 x1 x2 some
noncomputable def laws_markIntS_L2 (x0 : Int) (x1 : Int) (x2 : List D) : Option (Int × List D) := ev (fun n => n_laws_markIntS_L2 n x0 x1 x2)
def m_laws_markIntS_L2 (F : Int → Int → List D → Option (Int × List D)) : Lent := ⟨2, ⟨[.full 1000 [] (.int .i64), .int .i64, .undef, .undef, .undef, .int .i64, .undef, .undef, .undef, .undef, .undef, .undef, .undef, .undef, .undef, .undef, .undef, .undef, .undef], [(1000, .own (.int .i64))]⟩, [(.exit 0, ⟨[.full 1000 [] (.int .i64), .int .i64, .undef, .undef, .undef, .undef, .undef, .undef, .undef, .undef, .undef, .undef, .undef, .undef, .undef, .undef, .undef, .undef, .undef], [(1000, .own (.int .i64))]⟩)], fun _ ds k => dI (fun x0 ds => dI (fun x1 ds => dL (fun x2 ds => dE ((F x0 x1 x2).bind (fun y => k 0 [.I y.1, .L y.2])) ds) ds) ds) ds⟩
theorem q_laws_markIntS_L2 (F : Int → Int → List D → Option (Int × List D)) (x0 : Int) (x1 : Int) (x2 : List D) : runLoop (ocOf []) (olOf [m_laws_markIntS_L2 F]) A 42 (codeAt (bodyOf Go.Proofs.Try.f42) 2) ((m_laws_markIntS_L2 F).sh.mk' [.I x0, .I x1, .L x2]) (fun e σ' => some (e, σ')) = c_laws_markIntS_L2 F x0 x1 x2 (fun y => some (.exit 0, SSt.mk' ⟨[.full 1000 [] (.int .i64), .int .i64, .undef, .undef, .undef, .undef, .undef, .undef, .undef, .undef, .undef, .undef, .undef, .undef, .undef, .undef, .undef, .undef, .undef], [(1000, .own (.int .i64))]⟩ [.I y.1, .L y.2])) := by kernel_rfl
theorem m_laws_markIntS_L2_ok : ∀ n, (m_laws_markIntS_L2 (n_laws_markIntS_L2 n)).ok Go.Proofs.Try.prog (codeAt (bodyOf Go.Proofs.Try.f42) 2) := by
  intro n
  induction n with
  | zero =>
    intro R ds k r h
    unfold m_laws_markIntS_L2 at h
    obtain ⟨x0, d0, rfl, h0⟩ := dI_some h
    obtain ⟨x1, d1, rfl, h1⟩ := dI_some h0
    obtain ⟨x2, d2, rfl, h2⟩ := dL_some h1
    obtain ⟨rfl, hE⟩ := dE_some h2
    obtain ⟨y, hy, hk⟩ := bnd_some hE
    cases hy
  | succ n ih =>
    intro R ds k r h
    unfold m_laws_markIntS_L2 at h
    obtain ⟨x0, d0, rfl, h0⟩ := dI_some h
    obtain ⟨x1, d1, rfl, h1⟩ := dI_some h0
    obtain ⟨x2, d2, rfl, h2⟩ := dL_some h1
    obtain ⟨rfl, hE⟩ := dE_some h2
    obtain ⟨y, hy, hk⟩ := bnd_some hE
    have hq := q_laws_markIntS_L2 (n_laws_markIntS_L2 n) x0 x1 x2
    rw [c_laws_markIntS_L2_bind] at hq
    rw [show c_laws_markIntS_L2 (n_laws_markIntS_L2 n) x0 x1 x2 some = some y from hy] at hq
    refine ⟨0, _, _, _, hk, rfl, loop_ok px (fx := ⟨Go.Proofs.Try.func42, by kernel_rfl, by kernel_rfl⟩) entsOK_nil (lentsOK_cons ih lentsOK_nil) (by kernel_rfl) ?_⟩
    exact hq
noncomputable def e_laws_markIntS_L2 : Lent := m_laws_markIntS_L2 (laws_markIntS_L2)
theorem e_laws_markIntS_L2_ok : (e_laws_markIntS_L2).ok Go.Proofs.Try.prog (codeAt (bodyOf Go.Proofs.Try.f42) 2) := by
  intro R ds k r h
  unfold e_laws_markIntS_L2 m_laws_markIntS_L2 at h
  obtain ⟨x0, d0, rfl, h0⟩ := dI_some h
  obtain ⟨x1, d1, rfl, h1⟩ := dI_some h0
  obtain ⟨x2, d2, rfl, h2⟩ := dL_some h1
  obtain ⟨rfl, hE⟩ := dE_some h2
  obtain ⟨y, hy, hk⟩ := bnd_some hE
  obtain ⟨n, hn⟩ := ev_some hy
  exact m_laws_markIntS_L2_ok n R _ k r (show (n_laws_markIntS_L2 n x0 x1 x2).bind _ = _ by rw [hn]; exact hk)

/-! loop.example/g00876/laws.markIntS -/
def c_laws_markIntS {R : Type} (x0 : List D) (x1 : Int) (k : Int × List D → Option R) : Option R :=
 (laws_markIntS_L2 x1 (0 : Int) x0).bind (fun y0 =>
 k (y0.fst, y0.snd))
theorem c_laws_markIntS_bind {R : Type} (x0 : List D) (x1 : Int) (k : Int × List D → Option R) : c_laws_markIntS x0 x1 k = (c_laws_markIntS x0 x1 some).bind k := by
  unfold c_laws_markIntS
  repeat' first
    | exact bnd_tail
    | exact bnd_none
    | exact bnd_leaf
    | apply bnd_ite
    | apply bnd_cond
    | apply bnd_sum
    | (apply bnd_bind; intro _)
    | intro _
def laws_markIntS (x0 : List D) (x1 : Int) : Option (Int × List D) := c_laws_markIntS x0 x1 some
def e_laws_markIntS : Ent := ⟨42, [.own (.int .i64), .int .i64], .int .i64, [.own (.int .i64), .undef], fun _ ds k => dL (fun x0 ds => dI (fun x1 ds => dE ((laws_markIntS x0 x1).bind (fun y => k [.I y.1, .L y.2])) ds) ds) ds⟩
theorem q_laws_markIntS (x0 : List D) (x1 : Int) : runFn (ocOf []) (olOf [e_laws_markIntS_L2]) A 42 Go.Proofs.Try.f42 (Sh.mks e_laws_markIntS.sh [.L x0, .I x1]).1 (fun v os => some (v, os)) = c_laws_markIntS x0 x1 (fun y => some ((e_laws_markIntS.res.mk [.I y.1, .L y.2]).1, (Sh.mks e_laws_markIntS.outs (e_laws_markIntS.res.mk [.I y.1, .L y.2]).2).1)) := by kernel_rfl
theorem e_laws_markIntS_ok : e_laws_markIntS.ok Go.Proofs.Try.prog A := by
  intro R ds k r h
  unfold e_laws_markIntS at h
  obtain ⟨x0, d0, rfl, h0⟩ := dL_some h
  obtain ⟨x1, d1, rfl, h1⟩ := dI_some h0
  obtain ⟨rfl, hE⟩ := dE_some h1
  obtain ⟨y, hy, hk⟩ := bnd_some hE
  refine ⟨_, hk, fn_ok px (fx := ⟨Go.Proofs.Try.func42, by kernel_rfl, by kernel_rfl⟩) entsOK_nil (lentsOK_cons e_laws_markIntS_L2_ok lentsOK_nil) ?_⟩
  have hq := q_laws_markIntS x0 x1
  rw [c_laws_markIntS_bind] at hq
  rw [show c_laws_markIntS x0 x1 some = some y from hy] at hq
  exact hq

/-! loop.example/g00876/laws.heldIntS, loop 2 -/
def c_laws_heldIntS_L2 {R : Type} (F : List D → Int → Int → Option ((Int × Int) ⊕ (Int))) (x0 : List D) (x1 : Int) (x2 : Int) (k : (Int × Int) ⊕ (Int) → Option R) : Option R :=
 bif Decidable.decide (x2 < (↑x0.length : Int)) then
 if (0 : Int) ≤ x2 ∧ x2 < (↑x0.length : Int) then
 bif !Decidable.decide ((x0.getD x2.toNat (Go.Rai.D.int (0 : Int))).toInt = x1) then
 k (.inl (x1, (-1 : Int)))
 else
 (F x0 (Go.IntKind.i64.wrap (x1 + (1 : Int))) (Go.IntKind.i64.wrap (x2 + (1 : Int)))).bind k
 else
 none
 else
 k (.inr x1)
theorem c_laws_heldIntS_L2_bind {R : Type} (F : List D → Int → Int → Option ((Int × Int) ⊕ (Int))) (x0 : List D) (x1 : Int) (x2 : Int) (k : (Int × Int) ⊕ (Int) → Option R) : c_laws_heldIntS_L2 F x0 x1 x2 k = (c_laws_heldIntS_L2 F x0 x1 x2 some).bind k := by
  unfold c_laws_heldIntS_L2
  repeat' first
    | exact bnd_tail
    | exact bnd_none
    | exact bnd_leaf
    | apply bnd_ite
    | apply bnd_cond
    | apply bnd_sum
    | (apply bnd_bind; intro _)
    | intro _
def n_laws_heldIntS_L2 : Nat → List D → Int → Int → Option ((Int × Int) ⊕ (Int))
 | 0, _, _, _ => none
 | n + 1, x0, x1, x2 => c_laws_heldIntS_L2 (n_laws_heldIntS_L2 n) x0 x1 x2 some
noncomputable def laws_heldIntS_L2 (x0 : List D) (x1 : Int) (x2 : Int) : Option ((Int × Int) ⊕ (Int)) := ev (fun n => n_laws_heldIntS_L2 n x0 x1 x2)
def m_laws_heldIntS_L2 (F : List D → Int → Int → Option ((Int × Int) ⊕ (Int))) : Lent := ⟨2, ⟨[.rd (.int .i64), .int .i64, .undef, .undef, .undef, .int .i64, .undef, .undef, .undef, .undef, .undef, .undef, .undef, .undef, .undef, .undef, .undef, .undef, .undef, .undef, .undef], []⟩, [(.ret, ⟨[.undef, .int .i64, .undef, .undef, .int .i64, .undef, .undef, .undef, .undef, .undef, .undef, .undef, .undef, .undef, .undef, .undef, .undef, .undef, .undef, .undef, .undef], []⟩), (.exit 0, ⟨[.undef, .int .i64, .undef, .undef, .undef, .undef, .undef, .undef, .undef, .undef, .undef, .undef, .undef, .undef, .undef, .undef, .undef, .undef, .undef, .undef, .undef], []⟩)], fun _ ds k => dL (fun x0 ds => dI (fun x1 ds => dI (fun x2 ds => dE ((F x0 x1 x2).bind (Sum.elim (fun y => k 0 [.I y.1, .I y.2]) (fun y => k 1 [.I y]))) ds) ds) ds) ds⟩
theorem q_laws_heldIntS_L2 (F : List D → Int → Int → Option ((Int × Int) ⊕ (Int))) (x0 : List D) (x1 : Int) (x2 : Int) : runLoop (ocOf []) (olOf [m_laws_heldIntS_L2 F]) A 43 (codeAt (bodyOf Go.Proofs.Try.f43) 2) ((m_laws_heldIntS_L2 F).sh.mk' [.L x0, .I x1, .I x2]) (fun e σ' => some (e, σ')) = c_laws_heldIntS_L2 F x0 x1 x2 (Sum.elim (fun y => some (.ret, SSt.mk' ⟨[.undef, .int .i64, .undef, .undef, .int .i64, .undef, .undef, .undef, .undef, .undef, .undef, .undef, .undef, .undef, .undef, .undef, .undef, .undef, .undef, .undef, .undef], []⟩ [.I y.1, .I y.2])) (fun y => some (.exit 0, SSt.mk' ⟨[.undef, .int .i64, .undef, .undef, .undef, .undef, .undef, .undef, .undef, .undef, .undef, .undef, .undef, .undef, .undef, .undef, .undef, .undef, .undef, .undef, .undef], []⟩ [.I y]))) := by kernel_rfl
theorem m_laws_heldIntS_L2_ok : ∀ n, (m_laws_heldIntS_L2 (n_laws_heldIntS_L2 n)).ok Go.Proofs.Try.prog (codeAt (bodyOf Go.Proofs.Try.f43) 2) := by
  intro n
  induction n with
  | zero =>
    intro R ds k r h
    unfold m_laws_heldIntS_L2 at h
    obtain ⟨x0, d0, rfl, h0⟩ := dL_some h
    obtain ⟨x1, d1, rfl, h1⟩ := dI_some h0
    obtain ⟨x2, d2, rfl, h2⟩ := dI_some h1
    obtain ⟨rfl, hE⟩ := dE_some h2
    obtain ⟨y, hy, hk⟩ := bnd_some hE
    cases hy
  | succ n ih =>
    intro R ds k r h
    unfold m_laws_heldIntS_L2 at h
    obtain ⟨x0, d0, rfl, h0⟩ := dL_some h
    obtain ⟨x1, d1, rfl, h1⟩ := dI_some h0
    obtain ⟨x2, d2, rfl, h2⟩ := dI_some h1
    obtain ⟨rfl, hE⟩ := dE_some h2
    obtain ⟨y, hy, hk⟩ := bnd_some hE
    have hq := q_laws_heldIntS_L2 (n_laws_heldIntS_L2 n) x0 x1 x2
    rw [c_laws_heldIntS_L2_bind] at hq
    rw [show c_laws_heldIntS_L2 (n_laws_heldIntS_L2 n) x0 x1 x2 some = some y from hy] at hq
    cases y with
    | inl y =>
      refine ⟨0, _, _, _, hk, rfl, loop_ok px (fx := ⟨Go.Proofs.Try.func43, by kernel_rfl, by kernel_rfl⟩) entsOK_nil (lentsOK_cons ih lentsOK_nil) (by kernel_rfl) ?_⟩
      exact hq
    | inr y =>
      refine ⟨1, _, _, _, hk, rfl, loop_ok px (fx := ⟨Go.Proofs.Try.func43, by kernel_rfl, by kernel_rfl⟩) entsOK_nil (lentsOK_cons ih lentsOK_nil) (by kernel_rfl) ?_⟩
      exact hq
noncomputable def e_laws_heldIntS_L2 : Lent := m_laws_heldIntS_L2 (laws_heldIntS_L2)
theorem e_laws_heldIntS_L2_ok : (e_laws_heldIntS_L2).ok Go.Proofs.Try.prog (codeAt (bodyOf Go.Proofs.Try.f43) 2) := by
  intro R ds k r h
  unfold e_laws_heldIntS_L2 m_laws_heldIntS_L2 at h
  obtain ⟨x0, d0, rfl, h0⟩ := dL_some h
  obtain ⟨x1, d1, rfl, h1⟩ := dI_some h0
  obtain ⟨x2, d2, rfl, h2⟩ := dI_some h1
  obtain ⟨rfl, hE⟩ := dE_some h2
  obtain ⟨y, hy, hk⟩ := bnd_some hE
  obtain ⟨n, hn⟩ := ev_some hy
  exact m_laws_heldIntS_L2_ok n R _ k r (show (n_laws_heldIntS_L2 n x0 x1 x2).bind _ = _ by rw [hn]; exact hk)

/-! loop.example/g00876/laws.heldIntS -/
def c_laws_heldIntS {R : Type} (x0 : List D) (x1 : Int) (k : Int → Option R) : Option R :=
 (laws_heldIntS_L2 x0 x1 (0 : Int)).bind (Sum.elim (fun y0 =>
 k y0.snd) (fun y1 =>
 k y1))
theorem c_laws_heldIntS_bind {R : Type} (x0 : List D) (x1 : Int) (k : Int → Option R) : c_laws_heldIntS x0 x1 k = (c_laws_heldIntS x0 x1 some).bind k := by
  unfold c_laws_heldIntS
  repeat' first
    | exact bnd_tail
    | exact bnd_none
    | exact bnd_leaf
    | apply bnd_ite
    | apply bnd_cond
    | apply bnd_sum
    | (apply bnd_bind; intro _)
    | intro _
def laws_heldIntS (x0 : List D) (x1 : Int) : Option (Int) := c_laws_heldIntS x0 x1 some
def e_laws_heldIntS : Ent := ⟨43, [.rd (.int .i64), .int .i64], .int .i64, [.undef, .undef], fun _ ds k => dL (fun x0 ds => dI (fun x1 ds => dE ((laws_heldIntS x0 x1).bind (fun y => k [.I y])) ds) ds) ds⟩
theorem q_laws_heldIntS (x0 : List D) (x1 : Int) : runFn (ocOf []) (olOf [e_laws_heldIntS_L2]) A 43 Go.Proofs.Try.f43 (Sh.mks e_laws_heldIntS.sh [.L x0, .I x1]).1 (fun v os => some (v, os)) = c_laws_heldIntS x0 x1 (fun y => some ((e_laws_heldIntS.res.mk [.I y]).1, (Sh.mks e_laws_heldIntS.outs (e_laws_heldIntS.res.mk [.I y]).2).1)) := by kernel_rfl
theorem e_laws_heldIntS_ok : e_laws_heldIntS.ok Go.Proofs.Try.prog A := by
  intro R ds k r h
  unfold e_laws_heldIntS at h
  obtain ⟨x0, d0, rfl, h0⟩ := dL_some h
  obtain ⟨x1, d1, rfl, h1⟩ := dI_some h0
  obtain ⟨rfl, hE⟩ := dE_some h1
  obtain ⟨y, hy, hk⟩ := bnd_some hE
  refine ⟨_, hk, fn_ok px (fx := ⟨Go.Proofs.Try.func43, by kernel_rfl, by kernel_rfl⟩) entsOK_nil (lentsOK_cons e_laws_heldIntS_L2_ok lentsOK_nil) ?_⟩
  have hq := q_laws_heldIntS x0 x1
  rw [c_laws_heldIntS_bind] at hq
  rw [show c_laws_heldIntS x0 x1 some = some y from hy] at hq
  exact hq

/-! loop.example/g00876/laws.FnExactJoinPath -/
def c_laws_FnExactJoinPath {R : Type} (x0 : List D) (x1 : List D) (x2 : Int) (x3 : Int) (k : Bool → Option R) : Option R :=
 (laws_szSherdS x0 (1048576 : Int)).bind (fun y0 =>
 bif Decidable.decide (y0 < (0 : Int)) then
 k Bool.true
 else
 (laws_szJoinS x1 y0).bind (fun y1 =>
 bif Decidable.decide (y1 < (0 : Int)) then
 k Bool.true
 else
 (laws_toSherdS x0).bind (fun y2 =>
 (laws_toJoinS x1).bind (fun y3 =>
 (spec_JoinPath y2 y3 x2 x3).bind (fun y4 =>
 (laws_toSherdS x0).bind (fun y5 =>
 (laws_toJoinS x1).bind (fun y6 =>
 (impl_JoinPath y5 y6 x2 x3).bind (fun y7 =>
 (laws_eqIntS y7.fst y4.fst).bind (fun y8 =>
 bif !y8 then
 k Bool.false
 else
 bif !y7.snd == y4.snd then
 k Bool.false
 else
 (laws_toSherdS x0).bind (fun y9 =>
 (laws_eqSherdS y5 y9).bind (fun y10 =>
 bif !y10 then
 k Bool.false
 else
 (laws_toJoinS x1).bind (fun y11 =>
 (laws_eqJoinS y6 y11).bind (fun y12 =>
 bif !y12 then
 k Bool.false
 else
 (laws_markSherdS y5 (1 : Int)).bind (fun y13 =>
 (laws_markJoinS y6 y13.fst).bind (fun y14 =>
 bif Decidable.decide (y14.fst < (0 : Int)) then
 k Bool.false
 else
 (laws_eqIntS y7.fst y4.fst).bind (fun y15 =>
 bif !y15 then
 k Bool.false
 else
 bif !y7.snd == y4.snd then
 k Bool.false
 else
 (laws_markIntS y7.fst (1 : Int)).bind (fun y16 =>
 (laws_heldIntS y16.snd (1 : Int)).bind (fun y17 =>
 bif Decidable.decide (y17 < (0 : Int)) then
 k Bool.false
 else
 bif !Decidable.decide (y17 = y16.fst) then
 k Bool.false
 else
 (laws_toSherdS x0).bind (fun y18 =>
 (laws_toJoinS x1).bind (fun y19 =>
 (impl_JoinPath y18 y19 x2 x3).bind (fun y20 =>
 (laws_eqIntS y20.fst y4.fst).bind (fun y21 =>
 bif !y21 then
 k Bool.false
 else
 bif !y20.snd == y4.snd then
 k Bool.false
 else
 (laws_heldIntS y16.snd (1 : Int)).bind (fun y22 =>
 bif Decidable.decide (y22 < (0 : Int)) then
 k Bool.false
 else
 bif !Decidable.decide (y22 = y16.fst) then
 k Bool.false
 else
 k Bool.true)))))))))))))))))))))))
theorem c_laws_FnExactJoinPath_bind {R : Type} (x0 : List D) (x1 : List D) (x2 : Int) (x3 : Int) (k : Bool → Option R) : c_laws_FnExactJoinPath x0 x1 x2 x3 k = (c_laws_FnExactJoinPath x0 x1 x2 x3 some).bind k := by
  unfold c_laws_FnExactJoinPath
  repeat' first
    | exact bnd_tail
    | exact bnd_none
    | exact bnd_leaf
    | apply bnd_ite
    | apply bnd_cond
    | apply bnd_sum
    | (apply bnd_bind; intro _)
    | intro _
def laws_FnExactJoinPath (x0 : List D) (x1 : List D) (x2 : Int) (x3 : Int) : Option (Bool) := c_laws_FnExactJoinPath x0 x1 x2 x3 some
def e_laws_FnExactJoinPath : Ent := ⟨11, [.rd (.struct [.int .i64, .int .i64, .int .i64, .int .i64]), .rd (.struct [.int .i64, .int .i64]), .int .i64, .int .i64], .bool, [.undef, .undef, .undef, .undef], fun _ ds k => dL (fun x0 ds => dL (fun x1 ds => dI (fun x2 ds => dI (fun x3 ds => dE ((laws_FnExactJoinPath x0 x1 x2 x3).bind (fun y => k [.B y])) ds) ds) ds) ds) ds⟩
theorem q_laws_FnExactJoinPath (x0 : List D) (x1 : List D) (x2 : Int) (x3 : Int) : runFn (ocOf [e_laws_szSherdS, e_laws_szJoinS, e_laws_toSherdS, e_laws_toJoinS, e_spec_JoinPath, e_impl_JoinPath, e_laws_eqIntS, e_laws_eqSherdS, e_laws_eqJoinS, e_laws_markSherdS, e_laws_markJoinS, e_laws_markIntS, e_laws_heldIntS]) (olOf []) A 11 Go.Proofs.Try.f11 (Sh.mks e_laws_FnExactJoinPath.sh [.L x0, .L x1, .I x2, .I x3]).1 (fun v os => some (v, os)) = c_laws_FnExactJoinPath x0 x1 x2 x3 (fun y => some ((e_laws_FnExactJoinPath.res.mk [.B y]).1, (Sh.mks e_laws_FnExactJoinPath.outs (e_laws_FnExactJoinPath.res.mk [.B y]).2).1)) := by kernel_rfl
theorem e_laws_FnExactJoinPath_ok : e_laws_FnExactJoinPath.ok Go.Proofs.Try.prog A := by
  intro R ds k r h
  unfold e_laws_FnExactJoinPath at h
  obtain ⟨x0, d0, rfl, h0⟩ := dL_some h
  obtain ⟨x1, d1, rfl, h1⟩ := dL_some h0
  obtain ⟨x2, d2, rfl, h2⟩ := dI_some h1
  obtain ⟨x3, d3, rfl, h3⟩ := dI_some h2
  obtain ⟨rfl, hE⟩ := dE_some h3
  obtain ⟨y, hy, hk⟩ := bnd_some hE
  refine ⟨_, hk, fn_ok px (fx := ⟨Go.Proofs.Try.func11, by kernel_rfl, by kernel_rfl⟩) (entsOK_cons e_laws_szSherdS_ok (entsOK_cons e_laws_szJoinS_ok (entsOK_cons e_laws_toSherdS_ok (entsOK_cons e_laws_toJoinS_ok (entsOK_cons e_spec_JoinPath_ok (entsOK_cons e_impl_JoinPath_ok (entsOK_cons e_laws_eqIntS_ok (entsOK_cons e_laws_eqSherdS_ok (entsOK_cons e_laws_eqJoinS_ok (entsOK_cons e_laws_markSherdS_ok (entsOK_cons e_laws_markJoinS_ok (entsOK_cons e_laws_markIntS_ok (entsOK_cons e_laws_heldIntS_ok entsOK_nil))))))))))))) lentsOK_nil ?_⟩
  have hq := q_laws_FnExactJoinPath x0 x1 x2 x3
  rw [c_laws_FnExactJoinPath_bind] at hq
  rw [show c_laws_FnExactJoinPath x0 x1 x2 x3 some = some y from hy] at hq
  exact hq
end
end Go.Proofs.Ythkmcndfifgdpaa
