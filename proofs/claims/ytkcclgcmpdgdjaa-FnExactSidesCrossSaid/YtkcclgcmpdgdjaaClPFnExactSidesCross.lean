/- A part of the proof of the law FnExactSidesCross: no condition of its own. -/
import Derived.Test.YtkcclgcmpdgdjaaClMFnExactSidesCross
import Derived.Test.YtkcclgcmpdgdjaaRaiU4
set_option linter.unusedVariables false
set_option linter.unusedSimpArgs false
namespace Go.Proofs.Ytkcclgcmpdgdjaa
open Go Go.Rai

theorem l1In_eq (x a b : Int) : spec_l1In x a b = some (btw x a b) := by
  unfold spec_l1In c_spec_l1In btw
  by_cases h : a ≤ x <;> simp [h]
theorem within_eq (x a b : Int) : impl_within x a b = some (btw x a b) := by
  unfold impl_within c_impl_within btw
  by_cases h : a ≤ x <;> simp [h]
theorem least_eq (a b : Int) : spec_l1Least a b = some (min a b) := by
  unfold spec_l1Least c_spec_l1Least
  by_cases h : a < b <;> simp [h] <;> omega
theorem most_eq (a b : Int) : spec_l1Most a b = some (max a b) := by
  unfold spec_l1Most c_spec_l1Most
  by_cases h : b < a <;> simp [h] <;> omega
theorem ite_min (a b : Int) : (if b < a then b else a) = min a b := by split <;> omega
theorem ite_max (a b : Int) : (if b > a then b else a) = max a b := by split <;> omega

def onP (x y : Int) : Bool := btw x 0 1000 && btw y 0 1000
theorem point_eq (x y : Int) : spec_l18Point x y = some (onP x y) := by
  simp only [spec_l18Point, c_spec_l18Point, l1In_eq, Option.bind_some, onP]
  cases btw x 0 1000 <;> simp
theorem onPlan_eq (x y : Int) : impl_onPlan x y = some (onP x y) := by
  simp only [impl_onPlan, c_impl_onPlan, within_eq, Option.bind_some, onP]
  cases btw x 0 1000 <;> simp

def turn (a b c d e f : Int) : Int := IntKind.i64.wrap (IntKind.i64.wrap (IntKind.i64.wrap (c - a) * IntKind.i64.wrap (f - b)) - IntKind.i64.wrap (IntKind.i64.wrap (d - b) * IntKind.i64.wrap (e - a)))
theorem turn_eq (a b c d e f : Int) : spec_l18Turn a b c d e f = some (turn a b c d e f) := rfl
theorem cross_eq (a b c d e f : Int) : impl_cross a b c d e f = some (turn a b c d e f) := rfl

def sgn (x : Int) : Int := if 0 < x then 1 else if x < 0 then -1 else 0
theorem sgn_eq (x : Int) : spec_l18Sign x = some (sgn x) := by
  unfold spec_l18Sign c_spec_l18Sign sgn
  by_cases h : 0 < x <;> by_cases h2 : x < 0 <;> simp [h, h2]
theorem sign_eq (x : Int) : impl_sign x = some (sgn x) := by
  simp only [impl_sign, c_impl_sign, cmp_Compare, c_cmp_Compare, cmp_isNaN, c_cmp_isNaN, Option.bind_some, decide_true, Bool.not_true, cond_false]
  unfold sgn
  by_cases h : 0 < x <;> by_cases h2 : x < 0 <;> simp [h, h2] <;> omega

theorem on_same (a b c d e f : Int) : ∃ y, spec_l18On a b c d e f = some y ∧ impl_onSegment a b c d e f = some y := by
  simp only [spec_l18On, c_spec_l18On, impl_onSegment, c_impl_onSegment, turn_eq, cross_eq, least_eq, most_eq, l1In_eq, within_eq, ite_min, ite_max, Option.bind_some]
  cases decide (turn a b c d e f = 0) with
  | false => exact ⟨_, rfl, rfl⟩
  | true =>
    cases btw e (min a c) (max a c) with
    | false => exact ⟨_, rfl, rfl⟩
    | true => exact ⟨_, rfl, rfl⟩

theorem cross_same (a b c d e f g h : Int) : ∃ y, spec_l18Cross a b c d e f g h = some y ∧ impl_meet a b c d e f g h = some y := by
  obtain ⟨y1, p1, q1⟩ := on_same a b c d e f
  obtain ⟨y2, p2, q2⟩ := on_same a b c d g h
  obtain ⟨y3, p3, q3⟩ := on_same e f g h a b
  obtain ⟨y4, p4, q4⟩ := on_same e f g h c d
  simp only [spec_l18Cross, c_spec_l18Cross, impl_meet, c_impl_meet, p1, p2, p3, p4, q1, q2, q3, q4, turn_eq, cross_eq, sgn_eq, sign_eq, Option.bind_some]
  cases y1 with
  | true => exact ⟨_, rfl, rfl⟩
  | false => cases y2 with
    | true => exact ⟨_, rfl, rfl⟩
    | false => cases y3 with
      | true => exact ⟨_, rfl, rfl⟩
      | false => cases y4 with
        | true => exact ⟨_, rfl, rfl⟩
        | false =>
          cases decide (IntKind.i64.wrap (sgn (turn a b c d e f) * sgn (turn a b c d g h)) < 0) with
          | true => exact ⟨_, rfl, rfl⟩
          | false => exact ⟨_, rfl, rfl⟩

theorem sides_same (a b c d e f g h : Int) : ∃ y, spec_SidesCross a b c d e f g h = some y ∧ impl_SidesCross a b c d e f g h = some y := by
  obtain ⟨y, p, q⟩ := cross_same a b c d e f g h
  simp only [spec_SidesCross, c_spec_SidesCross, impl_SidesCross, c_impl_SidesCross, point_eq, onPlan_eq, p, q, Option.bind_some]
  cases onP a b with
  | false => exact ⟨_, rfl, rfl⟩
  | true => cases onP c d with
    | false => exact ⟨_, rfl, rfl⟩
    | true => cases onP e f with
      | false => exact ⟨_, rfl, rfl⟩
      | true => cases onP g h with
        | false => exact ⟨_, rfl, rfl⟩
        | true => exact ⟨_, rfl, rfl⟩

theorem pure_FnExactSidesCross (x0 x1 x2 x3 x4 x5 x6 x7 : Int) (h0 : (Lit.int .i64 x0).wf = true) (h1 : (Lit.int .i64 x1).wf = true) (h2 : (Lit.int .i64 x2).wf = true) (h3 : (Lit.int .i64 x3).wf = true)
    (h4 : (Lit.int .i64 x4).wf = true) (h5 : (Lit.int .i64 x5).wf = true) (h6 : (Lit.int .i64 x6).wf = true) (h7 : (Lit.int .i64 x7).wf = true) : laws_FnExactSidesCross x0 x1 x2 x3 x4 x5 x6 x7 = some true := by
  obtain ⟨y, p, q⟩ := sides_same x0 x1 x2 x3 x4 x5 x6 x7
  simp [laws_FnExactSidesCross, c_laws_FnExactSidesCross, laws_toCorner, c_laws_toCorner, p, q]

end Go.Proofs.Ytkcclgcmpdgdjaa
