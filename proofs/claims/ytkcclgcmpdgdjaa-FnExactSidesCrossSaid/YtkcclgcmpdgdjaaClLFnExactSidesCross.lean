/- The law FnExactSidesCross: for every input it returns true, and its arguments read as they did. Conditions: those of the given row, no other. -/
import Derived.Test.YtkcclgcmpdgdjaaRows
import Derived.Test.YtkcclgcmpdgdjaaClPFnExactSidesCross
import Derived.WalkKit
import Derived.ProofKit
import Derived.OpenShut
import Derived.ShutString
import Derived.ChangeOld
import Derived.Below
import Derived.SizedLaws
set_option linter.unusedVariables false
set_option maxRecDepth 100000
namespace Go.Proofs.Ytkcclgcmpdgdjaa
open Go Go.Rai Go.ChangeShapes Go.WideShapes Go.ChangeAt Go.RowKit
theorem calls_FnExactSidesCross (xs : List D) (hw : Wf A.ty [30, 30, 30, 30] xs) : ∃ outs, CallsOK Try.prog (fun i => isIo (A.mode 4 i)) 4 (decArgs A.ty [30, 30, 30, 30] xs) (.bool true) outs := by
  obtain ⟨z0, q0, rfl, a0, b0⟩ := hw
  obtain ⟨z1, q1, rfl, a1, b1⟩ := b0
  obtain ⟨z2, q2, rfl, a2, b2⟩ := b1
  obtain ⟨z3, q3, rfl, a3, b3⟩ := b2
  obtain rfl := b3
  obtain ⟨s0, rfl, g0⟩ := a0
  obtain ⟨y0_0, r0_0, rfl, k0_0, n0_0⟩ := g0
  obtain ⟨y0_1, r0_1, rfl, k0_1, n0_1⟩ := n0_0
  obtain rfl := n0_1
  obtain ⟨x0, rfl, h1⟩ := k0_0
  obtain ⟨x1, rfl, h2⟩ := k0_1
  obtain ⟨s3, rfl, g3⟩ := a1
  obtain ⟨y3_0, r3_0, rfl, k3_0, n3_0⟩ := g3
  obtain ⟨y3_1, r3_1, rfl, k3_1, n3_1⟩ := n3_0
  obtain rfl := n3_1
  obtain ⟨x2, rfl, h4⟩ := k3_0
  obtain ⟨x3, rfl, h5⟩ := k3_1
  obtain ⟨s6, rfl, g6⟩ := a2
  obtain ⟨y6_0, r6_0, rfl, k6_0, n6_0⟩ := g6
  obtain ⟨y6_1, r6_1, rfl, k6_1, n6_1⟩ := n6_0
  obtain rfl := n6_1
  obtain ⟨x4, rfl, h7⟩ := k6_0
  obtain ⟨x5, rfl, h8⟩ := k6_1
  obtain ⟨s9, rfl, g9⟩ := a3
  obtain ⟨y9_0, r9_0, rfl, k9_0, n9_0⟩ := g9
  obtain ⟨y9_1, r9_1, rfl, k9_1, n9_1⟩ := n9_0
  obtain rfl := n9_1
  obtain ⟨x6, rfl, h10⟩ := k9_0
  obtain ⟨x7, rfl, h11⟩ := k9_1
  have hp := pure_FnExactSidesCross x0 x1 x2 x3 x4 x5 x6 x7 h1 h2 h4 h5 h7 h8 h10 h11
  obtain ⟨rs, h1, h2⟩ := e_laws_FnExactSidesCross_ok (List Dat) [.I x0, .I x1, .I x2, .I x3, .I x4, .I x5, .I x6, .I x7] some [.B true] (show (laws_FnExactSidesCross x0 x1 x2 x3 x4 x5 x6 x7).bind _ = _ by rw [hp]; rfl)
  obtain rfl := Option.some.inj h1
  exact ⟨_, h2⟩
theorem own_FnExactSidesCross : ownKnob Try.prog.godebug = none := by kernel_rfl
theorem laidOut_FnExactSidesCross : laidOutB Try.prog = true := by kernel_rfl
theorem lifted_FnExactSidesCross (os : Os) (started : os.Started) (H : Type) (enc' : TypeId × Value → H) :
    ReturnsInHanded {} Try.checked os 4 .any (Rows.fnExactSidesCrossSpec.pre6 enc' Try.prog Try.f4 Rows.fnExactSidesCrossRow.domain false) (Rows.fnExactSidesCrossSpec.post enc' Try.prog Try.f4 false true false false) := by
  refine returnsInHanded_of_change_sized (C := Try.checked) own_FnExactSidesCross started (by kernel_rfl) Try.func4
    (ChangeSpec.witness6 (enc := enc') (C := Try.checked) false ⟨#[], #[.agg #[.int .i64 0, .int .i64 0], .agg #[.int .i64 0, .int .i64 0], .agg #[.int .i64 0, .int .i64 0], .agg #[.int .i64 0, .int .i64 0]], []⟩ 8 (by kernel_rfl) (by kernel_rfl) (by kernel_rfl) (by kernel_rfl)) ?_
  intro W base args ds gs before hval0 hW hcnd hsz0 _
  have hval : ∀ (j : Nat) t v, Try.f4.params[j]? = some t → args[j]? = some v → Value.okWide Try.prog W .any base t v := hval0
  have hW' := hW
  obtain ⟨p, q, hA0, hV, rfl, hfz, hnd⟩ := hW
  have hA : DataW.TrodAll enc' Try.prog W 0 (fun _ => true) true Try.f4.params.toList args.toList ds p := hA0
  rw [Try.params4] at hA hval
  have hA2 := hA
  obtain ⟨v0, vs0, d0, ds0, p0, q0, hargs, rfl, rfl, h0, r0⟩ := trodAll_cons hA
  obtain ⟨v1, vs1, d1, ds1, p1, q1, rfl, rfl, rfl, h1, r1⟩ := trodAll_cons r0
  obtain ⟨v2, vs2, d2, ds2, p2, q2, rfl, rfl, rfl, h2, r2⟩ := trodAll_cons r1
  obtain ⟨v3, vs3, d3, ds3, p3, q3, rfl, rfl, rfl, h3, r3⟩ := trodAll_cons r2
  obtain ⟨rfl, rfl, rfl⟩ := trodAll_nil r3
  obtain rfl : args = #[v0, v1, v2, v3] := by cases args; simp_all
  obtain ⟨rfl, rfl⟩ := trodVars_none hV
  have hc := law_calls (P := Try.prog) (A := A) (f := 4) px.tys (by kernel_rfl) calls_FnExactSidesCross (b0 := base) (r := .any) (fun j t v h1 h2 => hval j t v (by simpa using h1) (by simpa using h2)) hA2
  refine hc.mono fun e W' ⟨he, bel⟩ => ?_
  subst he
  exact ⟨_, rfl, _, _, _, [], _, [], hW', trodAll_mk1 (shut_bool Try.underlying4 _), trodAll_stays laidOut_FnExactSidesCross bel (by kernel_rfl) hA2, rfl, bel.frame _, fun h => by cases h⟩
theorem over_FnExactSidesCross : Rows.fnExactSidesCrossRow.holds Try.pinned (OpenSpec.ofChange Rows.fnExactSidesCrossSpec) :=
  OpenClaim.holds_of_wide 4 Try.f4 rfl rfl rfl rfl rfl rfl rfl ⟨rfl, rfl, rfl, rfl, rfl⟩ rfl rfl rfl rfl rfl (by kernel_rfl) Try.func4 (by kernel_rfl)
    (of_decide_eq_true (by kernel_rfl)) (by unfold Func.isWrapper; first | (rw [if_pos (by decide +kernel)]; kernel_rfl) | (rw [if_neg (by decide +kernel)]; exact ⟨rfl, rfl⟩))
    (fun os started H enc' _ => lifted_FnExactSidesCross os started H enc')
theorem fnExactSidesCross_holds : Rows.FnExactSidesCrossSaid := over_FnExactSidesCross
#print axioms fnExactSidesCross_holds
end Go.Proofs.Ytkcclgcmpdgdjaa
