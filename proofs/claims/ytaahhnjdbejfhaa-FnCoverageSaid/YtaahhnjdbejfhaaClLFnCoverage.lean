/- The law FnCoverage: for every input it returns true, and its arguments read as they did. Conditions: those of the given row, no other. -/
import Derived.Test.YtaahhnjdbejfhaaRows
import Derived.Test.YtaahhnjdbejfhaaClPFnCoverage
import Derived.WalkKit
import Derived.ProofKit
import Derived.OpenShut
import Derived.ShutString
import Derived.ChangeOld
import Derived.Below
import Derived.SizedLaws
set_option linter.unusedVariables false
set_option maxRecDepth 100000
namespace Go.Proofs.Ytaahhnjdbejfhaa
open Go Go.Rai Go.ChangeShapes Go.WideShapes Go.ChangeAt Go.RowKit
theorem calls_FnCoverage (xs : List D) (hw : Wf A.ty [45] xs) : ∃ outs, HR Try.prog (fun i => Qh (A.mode 6 i)) 6 (Yf A.ty [45] xs) (.bool true) outs := by
  obtain ⟨z0, q0, rfl, a0, b0⟩ := hw
  obtain rfl := b0
  obtain ⟨x0, rfl, h0, w0⟩ := a0
  have hp := pure_FnCoverage x0 h0 w0
  obtain ⟨i, rs, s, os, h1, hi, h2⟩ := e_Z48_ok (Nat × List Dat) [.L x0] (fun i rs => some (i, rs)) (0, [.B true]) (show (Z48 x0).bind _ = _ by rw [hp]; rfl)
  obtain ⟨rfl, rfl⟩ := Prod.mk.inj (Option.some.inj h1)
  obtain ⟨rfl, rfl⟩ := Prod.mk.inj (Option.some.inj hi)
  exact ⟨_, h2⟩
theorem own_FnCoverage : ownKnob Try.prog.godebug = none := by kernel_rfl
theorem laidOut_FnCoverage : laidOutB Try.prog = true := by kernel_rfl
theorem lifted_FnCoverage (os : Os) (started : os.Started) (H : Type) (enc' : TypeId × Value → H) :
    ReturnsInHanded {} Try.checked os 6 .any (Rows.fnCoverageSpec.pre6 enc' Try.prog Try.f6 Rows.fnCoverageRow.domain false) (Rows.fnCoverageSpec.post enc' Try.prog Try.f6 false true false false) := by
  refine returnsInHanded_of_change_sized (C := Try.checked) own_FnCoverage started (by kernel_rfl) Try.func6
    (ChangeSpec.witness6 (enc := enc') (C := Try.checked) false ⟨#[], #[.slice none 0 0], []⟩ 8 (by kernel_rfl) (by kernel_rfl) (by kernel_rfl) (by kernel_rfl)) ?_
  intro W base args ds gs before hval0 hW hcnd hsz0 _
  have hval : ∀ (j : Nat) t v, Try.f6.params[j]? = some t → args[j]? = some v → Value.okWide Try.prog W .any base t v := hval0
  have hW' := hW
  obtain ⟨p, q, hA0, hV, rfl, hfz, hnd⟩ := hW
  have hA : DataW.TrodAll enc' Try.prog W 0 (fun _ => true) true Try.f6.params.toList args.toList ds p := hA0
  rw [Try.params6] at hA hval
  have hA2 := hA
  obtain ⟨v0, vs0, d0, ds0, p0, q0, hargs, rfl, rfl, h0, r0⟩ := trodAll_cons hA
  obtain ⟨rfl, rfl, rfl⟩ := trodAll_nil r0
  obtain rfl : args = #[v0] := by cases args; simp_all
  obtain ⟨rfl, rfl⟩ := trodVars_none hV
  have hc := vf (P := Try.prog) (A := A) (f := 6) px.tys (by kernel_rfl) calls_FnCoverage (b0 := base) (r := .any) (fun j t v h1 h2 => hval j t v (by simpa using h1) (by simpa using h2)) hA2
  refine hc.mono fun e W' ⟨he, bel⟩ => ?_
  subst he
  exact ⟨_, rfl, _, _, _, [], _, [], hW', trodAll_mk1 (shut_bool Try.underlying4 _), N7 laidOut_FnCoverage bel (by kernel_rfl) hA2, rfl, bel.frame _, fun h => by cases h⟩
theorem over_FnCoverage : Rows.fnCoverageRow.holds Try.pinned (OpenSpec.ofChange Rows.fnCoverageSpec) :=
  OpenClaim.holds_of_wide 6 Try.f6 rfl rfl rfl rfl rfl rfl rfl ⟨rfl, rfl, rfl, rfl, rfl⟩ rfl rfl rfl rfl rfl (by kernel_rfl) Try.func6 (by kernel_rfl)
    (of_decide_eq_true (by kernel_rfl)) (by unfold Func.isWrapper; first | (rw [if_pos (by decide +kernel)]; kernel_rfl) | (rw [if_neg (by decide +kernel)]; exact ⟨rfl, rfl⟩))
    (fun os started H enc' _ => lifted_FnCoverage os started H enc')
theorem fnCoverage_holds : Rows.FnCoverageSaid := over_FnCoverage
#print axioms fnCoverage_holds
end Go.Proofs.Ytaahhnjdbejfhaa
