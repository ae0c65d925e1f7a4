/- The law FnExactCoverageOf: for every input it returns true, and its arguments read as they did. Conditions: those of the given row, no other. -/
import Derived.Test.YtaahhnjdbejfhaaRows
import Derived.Test.YtaahhnjdbejfhaaClPFnExactCoverageOf
import Derived.WalkKit
import Derived.ProofKit
import Derived.OpenShut
import Derived.ShutString
import Derived.ChangeOld
import Derived.Below
import Derived.SizedLaws
set_option linter.unusedVariables false
set_option maxRecDepth 100000
namespace Go.Proofs.Ytaahhnjdbejfhaa
open Go Go.Rai Go.ChangeShapes Go.WideShapes Go.ChangeAt Go.RowKit
theorem calls_FnExactCoverageOf (xs : List D) (hw : Wf A.ty [22, 30, 3] xs) : ∃ outs, HP Try.prog (fun i => Qf (A.mode 4 i)) 4 (Yd A.ty [22, 30, 3] xs) (.bool true) outs := by
  obtain ⟨z0, q0, rfl, a0, b0⟩ := hw
  obtain ⟨z1, q1, rfl, a1, b1⟩ := b0
  obtain ⟨z2, q2, rfl, a2, b2⟩ := b1
  obtain rfl := b2
  obtain ⟨x0, rfl, h0, w0⟩ := a0
  obtain ⟨x1, rfl, h1, w1⟩ := a1
  obtain ⟨x2, rfl, h2⟩ := a2
  have hp := pure_FnExactCoverageOf x0 x1 x2 h0 w0 h1 w1 h2
  obtain ⟨i, rs, s, os, h1, hi, h2⟩ := e_Z48_ok (Nat × List Dat) [.L x0, .L x1, .I x2] (fun i rs => some (i, rs)) (0, [.B true]) (show (Z48 x0 x1 x2).bind _ = _ by rw [hp]; rfl)
  obtain ⟨rfl, rfl⟩ := Prod.mk.inj (Option.some.inj h1)
  obtain ⟨rfl, rfl⟩ := Prod.mk.inj (Option.some.inj hi)
  exact ⟨_, h2⟩
theorem own_FnExactCoverageOf : ownKnob Try.prog.godebug = none := by kernel_rfl
theorem laidOut_FnExactCoverageOf : laidOutB Try.prog = true := by kernel_rfl
theorem lifted_FnExactCoverageOf (os : Os) (started : os.Started) (H : Type) (enc' : TypeId × Value → H) :
    ReturnsInHanded {} Try.checked os 4 .any (Rows.fnExactCoverageOfSpec.pre6 enc' Try.prog Try.f4 Rows.fnExactCoverageOfRow.domain false) (Rows.fnExactCoverageOfSpec.post enc' Try.prog Try.f4 false true false false) := by
  refine returnsInHanded_of_change_sized (C := Try.checked) own_FnExactCoverageOf started (by kernel_rfl) Try.func4
    (ChangeSpec.witness6 (enc := enc') (C := Try.checked) false ⟨#[], #[.slice none 0 0, .slice none 0 0, .int .i64 0], []⟩ 8 (by kernel_rfl) (by kernel_rfl) (by kernel_rfl) (by kernel_rfl)) ?_
  intro W base args ds gs before hval0 hW hcnd hsz0 _
  have hval : ∀ (j : Nat) t v, Try.f4.params[j]? = some t → args[j]? = some v → Value.okWide Try.prog W .any base t v := hval0
  have hW' := hW
  obtain ⟨p, q, hA0, hV, rfl, hfz, hnd⟩ := hW
  have hA : DataW.TrodAll enc' Try.prog W 0 (fun _ => true) true Try.f4.params.toList args.toList ds p := hA0
  rw [Try.params4] at hA hval
  have hA2 := hA
  obtain ⟨v0, vs0, d0, ds0, p0, q0, hargs, rfl, rfl, h0, r0⟩ := trodAll_cons hA
  obtain ⟨v1, vs1, d1, ds1, p1, q1, rfl, rfl, rfl, h1, r1⟩ := trodAll_cons r0
  obtain ⟨v2, vs2, d2, ds2, p2, q2, rfl, rfl, rfl, h2, r2⟩ := trodAll_cons r1
  obtain ⟨rfl, rfl, rfl⟩ := trodAll_nil r2
  obtain rfl : args = #[v0, v1, v2] := by cases args; simp_all
  obtain ⟨rfl, rfl⟩ := trodVars_none hV
  have hc := vg (P := Try.prog) (A := A) (f := 4) px.tys (by kernel_rfl) calls_FnExactCoverageOf (b0 := base) (r := .any) (fun j t v h1 h2 => hval j t v (by simpa using h1) (by simpa using h2)) hA2
  refine hc.mono fun e W' ⟨he, bel⟩ => ?_
  subst he
  exact ⟨_, rfl, _, _, _, [], _, [], hW', trodAll_mk1 (shut_bool Try.underlying4 _), N3 laidOut_FnExactCoverageOf bel (by kernel_rfl) hA2, rfl, bel.frame _, fun h => by cases h⟩
theorem over_FnExactCoverageOf : Rows.fnExactCoverageOfRow.holds Try.pinned (OpenSpec.ofChange Rows.fnExactCoverageOfSpec) :=
  OpenClaim.holds_of_wide 4 Try.f4 rfl rfl rfl rfl rfl rfl rfl ⟨rfl, rfl, rfl, rfl, rfl⟩ rfl rfl rfl rfl rfl (by kernel_rfl) Try.func4 (by kernel_rfl)
    (of_decide_eq_true (by kernel_rfl)) (by unfold Func.isWrapper; first | (rw [if_pos (by decide +kernel)]; kernel_rfl) | (rw [if_neg (by decide +kernel)]; exact ⟨rfl, rfl⟩))
    (fun os started H enc' _ => lifted_FnExactCoverageOf os started H enc')
theorem fnExactCoverageOf_holds : Rows.FnExactCoverageOfSaid := over_FnExactCoverageOf
#print axioms fnExactCoverageOf_holds
end Go.Proofs.Ytaahhnjdbejfhaa
