/- The law FnExactVesselsOf: for every input it returns true, and its arguments read as they did. Conditions: those of the given row, no other. -/
import Derived.Test.YtaahhnjdbejfhaaRows
import Derived.Test.YtaahhnjdbejfhaaClPFnExactVesselsOf
import Derived.WalkKit
import Derived.ProofKit
import Derived.OpenShut
import Derived.ShutString
import Derived.ChangeOld
import Derived.Below
import Derived.SizedLaws
set_option linter.unusedVariables false
set_option maxRecDepth 100000
namespace Go.Proofs.Ytaahhnjdbejfhaa
open Go Go.Rai Go.ChangeShapes Go.WideShapes Go.ChangeAt Go.RowKit
theorem calls_FnExactVesselsOf (xs : List D) (hw : Wf A.ty [22, 30] xs) : ∃ outs, HP Try.prog (fun i => Qf (A.mode 5 i)) 5 (Yc A.ty [22, 30] xs) (.bool true) outs := by
  obtain ⟨z0, q0, rfl, a0, b0⟩ := hw
  obtain ⟨z1, q1, rfl, a1, b1⟩ := b0
  obtain rfl := b1
  obtain ⟨x0, rfl, h0, w0⟩ := a0
  obtain ⟨x1, rfl, h1, w1⟩ := a1
  have hp := pure_FnExactVesselsOf x0 x1 h0 w0 h1 w1
  obtain ⟨i, rs, s, os, h1, hi, h2⟩ := e_Z60_ok (Nat × List Dat) [.L x0, .L x1] (fun i rs => some (i, rs)) (0, [.B true]) (show (Z60 x0 x1).bind _ = _ by rw [hp]; rfl)
  obtain ⟨rfl, rfl⟩ := Prod.mk.inj (Option.some.inj h1)
  obtain ⟨rfl, rfl⟩ := Prod.mk.inj (Option.some.inj hi)
  exact ⟨_, h2⟩
theorem own_FnExactVesselsOf : ownKnob Try.prog.godebug = none := by kernel_rfl
theorem laidOut_FnExactVesselsOf : laidOutB Try.prog = true := by kernel_rfl
theorem lifted_FnExactVesselsOf (os : Os) (started : os.Started) (H : Type) (enc' : TypeId × Value → H) :
    ReturnsInHanded {} Try.checked os 5 .any (Rows.fnExactVesselsOfSpec.pre6 enc' Try.prog Try.f5 Rows.fnExactVesselsOfRow.domain false) (Rows.fnExactVesselsOfSpec.post enc' Try.prog Try.f5 false true false false) := by
  refine returnsInHanded_of_change_sized (C := Try.checked) own_FnExactVesselsOf started (by kernel_rfl) Try.func5
    (ChangeSpec.witness6 (enc := enc') (C := Try.checked) false ⟨#[], #[.slice none 0 0, .slice none 0 0], []⟩ 8 (by kernel_rfl) (by kernel_rfl) (by kernel_rfl) (by kernel_rfl)) ?_
  intro W base args ds gs before hval0 hW hcnd hsz0 _
  have hval : ∀ (j : Nat) t v, Try.f5.params[j]? = some t → args[j]? = some v → Value.okWide Try.prog W .any base t v := hval0
  have hW' := hW
  obtain ⟨p, q, hA0, hV, rfl, hfz, hnd⟩ := hW
  have hA : DataW.TrodAll enc' Try.prog W 0 (fun _ => true) true Try.f5.params.toList args.toList ds p := hA0
  rw [Try.params5] at hA hval
  have hA2 := hA
  obtain ⟨v0, vs0, d0, ds0, p0, q0, hargs, rfl, rfl, h0, r0⟩ := trodAll_cons hA
  obtain ⟨v1, vs1, d1, ds1, p1, q1, rfl, rfl, rfl, h1, r1⟩ := trodAll_cons r0
  obtain ⟨rfl, rfl, rfl⟩ := trodAll_nil r1
  obtain rfl : args = #[v0, v1] := by cases args; simp_all
  obtain ⟨rfl, rfl⟩ := trodVars_none hV
  have hc := vd (P := Try.prog) (A := A) (f := 5) px.tys (by kernel_rfl) calls_FnExactVesselsOf (b0 := base) (r := .any) (fun j t v h1 h2 => hval j t v (by simpa using h1) (by simpa using h2)) hA2
  refine hc.mono fun e W' ⟨he, bel⟩ => ?_
  subst he
  exact ⟨_, rfl, _, _, _, [], _, [], hW', trodAll_mk1 (shut_bool Try.underlying4 _), N6 laidOut_FnExactVesselsOf bel (by kernel_rfl) hA2, rfl, bel.frame _, fun h => by cases h⟩
theorem over_FnExactVesselsOf : Rows.fnExactVesselsOfRow.holds Try.pinned (OpenSpec.ofChange Rows.fnExactVesselsOfSpec) :=
  OpenClaim.holds_of_wide 5 Try.f5 rfl rfl rfl rfl rfl rfl rfl ⟨rfl, rfl, rfl, rfl, rfl⟩ rfl rfl rfl rfl rfl (by kernel_rfl) Try.func5 (by kernel_rfl)
    (of_decide_eq_true (by kernel_rfl)) (by unfold Func.isWrapper; first | (rw [if_pos (by decide +kernel)]; kernel_rfl) | (rw [if_neg (by decide +kernel)]; exact ⟨rfl, rfl⟩))
    (fun os started H enc' _ => lifted_FnExactVesselsOf os started H enc')
theorem fnExactVesselsOf_holds : Rows.FnExactVesselsOfSaid := over_FnExactVesselsOf
#print axioms fnExactVesselsOf_holds
end Go.Proofs.Ytaahhnjdbejfhaa
