/- The law FnExactMisplacedRows: for every input it returns true, and its arguments read as they did. Conditions: those of the given row, no other. -/
import Derived.Test.YtinhphmajfiepaaRows
import Derived.Test.YtinhphmajfiepaaClPFnExactMisplacedRows
import Derived.WalkKit
import Derived.ProofKit
import Derived.OpenShut
import Derived.ShutString
import Derived.ChangeOld
import Derived.Below
import Derived.SizedLaws
set_option linter.unusedVariables false
set_option maxRecDepth 100000
namespace Go.Proofs.Ytinhphmajfiepaa
open Go Go.Rai Go.ChangeShapes Go.WideShapes Go.ChangeAt Go.RowKit
theorem calls_FnExactMisplacedRows (xs : List D) (hw : Wf A.ty [24, 35] xs) : ∃ outs, CallsOK Try.prog (fun i => isIo (A.mode 11 i)) 11 (decArgs A.ty [24, 35] xs) (.bool true) outs := by
  obtain ⟨z0, q0, rfl, a0, b0⟩ := hw
  obtain ⟨z1, q1, rfl, a1, b1⟩ := b0
  obtain rfl := b1
  obtain ⟨s0, rfl, g0⟩ := a0
  obtain ⟨y0_0, r0_0, rfl, k0_0, n0_0⟩ := g0
  obtain rfl := n0_0
  obtain ⟨x0, rfl, h1, w1⟩ := k0_0
  obtain ⟨x1, rfl, h2, w2⟩ := a1
  have hp := pure_FnExactMisplacedRows x0 x1 h1 w1 h2 w2
  obtain ⟨rs, h1, h2⟩ := e_Z101_ok (List Dat) [.L x0, .L x1] some [.B true] (show (Z101 x0 x1).bind _ = _ by rw [hp]; rfl)
  obtain rfl := Option.some.inj h1
  exact ⟨_, h2⟩
theorem own_FnExactMisplacedRows : ownKnob Try.prog.godebug = none := by kernel_rfl
theorem laidOut_FnExactMisplacedRows : laidOutB Try.prog = true := by kernel_rfl
theorem lifted_FnExactMisplacedRows (os : Os) (started : os.Started) (H : Type) (enc' : TypeId × Value → H) :
    ReturnsInHanded {} Try.checked os 11 .any (Rows.fnExactMisplacedRowsSpec.pre6 enc' Try.prog Try.f11 Rows.fnExactMisplacedRowsRow.domain false) (Rows.fnExactMisplacedRowsSpec.post enc' Try.prog Try.f11 false true false false) := by
  refine returnsInHanded_of_change_sized (C := Try.checked) own_FnExactMisplacedRows started (by kernel_rfl) Try.func11
    (ChangeSpec.witness6 (enc := enc') (C := Try.checked) false ⟨#[], #[.agg #[.slice none 0 0], .slice none 0 0], []⟩ 8 (by kernel_rfl) (by kernel_rfl) (by kernel_rfl) (by kernel_rfl)) ?_
  intro W base args ds gs before hval0 hW hcnd hsz0 _
  have hval : ∀ (j : Nat) t v, Try.f11.params[j]? = some t → args[j]? = some v → Value.okWide Try.prog W .any base t v := hval0
  have hW' := hW
  obtain ⟨p, q, hA0, hV, rfl, hfz, hnd⟩ := hW
  have hA : DataW.TrodAll enc' Try.prog W 0 (fun _ => true) true Try.f11.params.toList args.toList ds p := hA0
  rw [Try.params11] at hA hval
  have hA2 := hA
  obtain ⟨v0, vs0, d0, ds0, p0, q0, hargs, rfl, rfl, h0, r0⟩ := trodAll_cons hA
  obtain ⟨v1, vs1, d1, ds1, p1, q1, rfl, rfl, rfl, h1, r1⟩ := trodAll_cons r0
  obtain ⟨rfl, rfl, rfl⟩ := trodAll_nil r1
  obtain rfl : args = #[v0, v1] := by cases args; simp_all
  obtain ⟨rfl, rfl⟩ := trodVars_none hV
  have hc := law_calls (P := Try.prog) (A := A) (f := 11) px.tys (by kernel_rfl) calls_FnExactMisplacedRows (b0 := base) (r := .any) (fun j t v h1 h2 => hval j t v (by simpa using h1) (by simpa using h2)) hA2
  refine hc.mono fun e W' ⟨he, bel⟩ => ?_
  subst he
  exact ⟨_, rfl, _, _, _, [], _, [], hW', trodAll_mk1 (shut_bool Try.underlying4 _), trodAll_stays laidOut_FnExactMisplacedRows bel (by kernel_rfl) hA2, rfl, bel.frame _, fun h => by cases h⟩
theorem over_FnExactMisplacedRows : Rows.fnExactMisplacedRowsRow.holds Try.pinned (OpenSpec.ofChange Rows.fnExactMisplacedRowsSpec) :=
  OpenClaim.holds_of_wide 11 Try.f11 rfl rfl rfl rfl rfl rfl rfl ⟨rfl, rfl, rfl, rfl, rfl⟩ rfl rfl rfl rfl rfl (by kernel_rfl) Try.func11 (by kernel_rfl)
    (of_decide_eq_true (by kernel_rfl)) (by unfold Func.isWrapper; first | (rw [if_pos (by decide +kernel)]; kernel_rfl) | (rw [if_neg (by decide +kernel)]; exact ⟨rfl, rfl⟩))
    (fun os started H enc' _ => lifted_FnExactMisplacedRows os started H enc')
theorem fnExactMisplacedRows_holds : Rows.FnExactMisplacedRowsSaid := over_FnExactMisplacedRows
#print axioms fnExactMisplacedRows_holds
end Go.Proofs.Ytinhphmajfiepaa
