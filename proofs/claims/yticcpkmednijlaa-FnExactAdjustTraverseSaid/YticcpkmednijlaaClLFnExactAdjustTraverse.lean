/- The law FnExactAdjustTraverse: for every input it returns true, and its arguments read as they did. Conditions: those of the given row, no other. -/
import Derived.Test.YticcpkmednijlaaRows
import Derived.Test.YticcpkmednijlaaClPFnExactAdjustTraverse
import Derived.WalkKit
import Derived.ProofKit
import Derived.OpenShut
import Derived.ShutString
import Derived.ChangeOld
import Derived.Below
import Derived.SizedLaws
set_option linter.unusedVariables false
set_option maxRecDepth 100000
namespace Go.Proofs.Yticcpkmednijlaa
open Go Go.Rai Go.ChangeShapes Go.WideShapes Go.ChangeAt Go.RowKit
theorem calls_FnExactAdjustTraverse (xs : List D) (hw : Wf A.ty [52, 53, 52] xs) : ∃ outs, CallsOK Try.prog (fun i => isIo (A.mode 6 i)) 6 (decArgs A.ty [52, 53, 52] xs) (.bool true) outs := by
  obtain ⟨z0, q0, rfl, a0, b0⟩ := hw
  obtain ⟨z1, q1, rfl, a1, b1⟩ := b0
  obtain ⟨z2, q2, rfl, a2, b2⟩ := b1
  obtain rfl := b2
  obtain ⟨s0, rfl, g0⟩ := a0
  obtain ⟨y0_0, r0_0, rfl, k0_0, n0_0⟩ := g0
  obtain ⟨y0_1, r0_1, rfl, k0_1, n0_1⟩ := n0_0
  obtain rfl := n0_1
  obtain ⟨x0, rfl, h1⟩ := k0_0
  obtain ⟨x1, rfl, h2⟩ := k0_1
  obtain ⟨x2, rfl, h3, w3⟩ := a1
  obtain ⟨s4, rfl, g4⟩ := a2
  obtain ⟨y4_0, r4_0, rfl, k4_0, n4_0⟩ := g4
  obtain ⟨y4_1, r4_1, rfl, k4_1, n4_1⟩ := n4_0
  obtain rfl := n4_1
  obtain ⟨x3, rfl, h5⟩ := k4_0
  obtain ⟨x4, rfl, h6⟩ := k4_1
  have hp := pure_FnExactAdjustTraverse x0 x1 x2 x3 x4 h1 h2 h3 w3 h5 h6
  obtain ⟨rs, h1, h2⟩ := e_laws_FnExactAdjustTraverse_ok (List Dat) [.I x0, .I x1, .L x2, .I x3, .I x4] some [.B true] (show (laws_FnExactAdjustTraverse x0 x1 x2 x3 x4).bind _ = _ by rw [hp]; rfl)
  obtain rfl := Option.some.inj h1
  exact ⟨_, h2⟩
theorem own_FnExactAdjustTraverse : ownKnob Try.prog.godebug = none := by kernel_rfl
theorem laidOut_FnExactAdjustTraverse : laidOutB Try.prog = true := by kernel_rfl
theorem lifted_FnExactAdjustTraverse (os : Os) (started : os.Started) (H : Type) (enc' : TypeId × Value → H) :
    ReturnsInHanded {} Try.checked os 6 .any (Rows.fnExactAdjustTraverseSpec.pre6 enc' Try.prog Try.f6 Rows.fnExactAdjustTraverseRow.domain false) (Rows.fnExactAdjustTraverseSpec.post enc' Try.prog Try.f6 false true false false) := by
  refine returnsInHanded_of_change_sized (C := Try.checked) own_FnExactAdjustTraverse started (by kernel_rfl) Try.func6
    (ChangeSpec.witness6 (enc := enc') (C := Try.checked) false ⟨#[], #[.agg #[.int .i64 0, .int .i64 0], .slice none 0 0, .agg #[.int .i64 0, .int .i64 0]], []⟩ 8 (by kernel_rfl) (by kernel_rfl) (by kernel_rfl) (by kernel_rfl)) ?_
  intro W base args ds gs before hval0 hW hcnd hsz0 _
  have hval : ∀ (j : Nat) t v, Try.f6.params[j]? = some t → args[j]? = some v → Value.okWide Try.prog W .any base t v := hval0
  have hW' := hW
  obtain ⟨p, q, hA0, hV, rfl, hfz, hnd⟩ := hW
  have hA : DataW.TrodAll enc' Try.prog W 0 (fun _ => true) true Try.f6.params.toList args.toList ds p := hA0
  rw [Try.params6] at hA hval
  have hA2 := hA
  obtain ⟨v0, vs0, d0, ds0, p0, q0, hargs, rfl, rfl, h0, r0⟩ := trodAll_cons hA
  obtain ⟨v1, vs1, d1, ds1, p1, q1, rfl, rfl, rfl, h1, r1⟩ := trodAll_cons r0
  obtain ⟨v2, vs2, d2, ds2, p2, q2, rfl, rfl, rfl, h2, r2⟩ := trodAll_cons r1
  obtain ⟨rfl, rfl, rfl⟩ := trodAll_nil r2
  obtain rfl : args = #[v0, v1, v2] := by cases args; simp_all
  obtain ⟨rfl, rfl⟩ := trodVars_none hV
  have hc := law_calls (P := Try.prog) (A := A) (f := 6) px.tys (by kernel_rfl) calls_FnExactAdjustTraverse (b0 := base) (r := .any) (fun j t v h1 h2 => hval j t v (by simpa using h1) (by simpa using h2)) hA2
  refine hc.mono fun e W' ⟨he, bel⟩ => ?_
  subst he
  exact ⟨_, rfl, _, _, _, [], _, [], hW', trodAll_mk1 (shut_bool Try.underlying4 _), trodAll_stays laidOut_FnExactAdjustTraverse bel (by kernel_rfl) hA2, rfl, bel.frame _, fun h => by cases h⟩
theorem over_FnExactAdjustTraverse : Rows.fnExactAdjustTraverseRow.holds Try.pinned (OpenSpec.ofChange Rows.fnExactAdjustTraverseSpec) :=
  OpenClaim.holds_of_wide 6 Try.f6 rfl rfl rfl rfl rfl rfl rfl ⟨rfl, rfl, rfl, rfl, rfl⟩ rfl rfl rfl rfl rfl (by kernel_rfl) Try.func6 (by kernel_rfl)
    (of_decide_eq_true (by kernel_rfl)) (by unfold Func.isWrapper; first | (rw [if_pos (by decide +kernel)]; kernel_rfl) | (rw [if_neg (by decide +kernel)]; exact ⟨rfl, rfl⟩))
    (fun os started H enc' _ => lifted_FnExactAdjustTraverse os started H enc')
theorem fnExactAdjustTraverse_holds : Rows.FnExactAdjustTraverseSaid := over_FnExactAdjustTraverse
#print axioms fnExactAdjustTraverse_holds
end Go.Proofs.Yticcpkmednijlaa
