/- A part of the proof of the law FnExactIsValidLines: no condition of its own. -/
import Derived.Test.YtkcclgcmpdgdjaaClMFnExactIsValidLines
import Derived.Test.YtkcclgcmpdgdjaaRaiU4
set_option linter.unusedVariables false
set_option linter.unusedSimpArgs false
namespace Go.Proofs.Ytkcclgcmpdgdjaa
open Go Go.Rai

abbrev tHL : Ty := .struct [.int .i64, .int .i64, .int .i64, .int .i64]

theorem tHL_wf {d : D} (h : wfD tHL d) : ∃ a b c e : Int, d = .node [.int a, .int b, .int c, .int e] := by
  obtain ⟨l, rfl, x1, r1, rfl, ⟨a, rfl, _⟩, x2, r2, rfl, ⟨b, rfl, _⟩, x3, r3, rfl, ⟨c, rfl, _⟩, x4, r4, rfl, ⟨e, rfl, _⟩, h⟩ := h
  obtain rfl := h
  exact ⟨a, b, c, e, rfl⟩

theorem toHeightLineS_id (l : List D) (hl : l.length ≤ 1048576) (w : ∀ d ∈ l, wfD tHL d) : laws_toHeightLineS l = some l := by
  have key : laws_toHeightLineS_L3 l 0 (List.replicate l.length (.node [.int 0, .int 0, .int 0, .int 0])) = some l := by
    refine copy_loop (N := n_laws_toHeightLineS_L3) (fun m i acc hi hacc => ?_) (fun m acc hacc => ?_)
    · obtain ⟨a, b, c, e, hd⟩ := tHL_wf (w _ (get_mem hi))
      have hw : IntKind.i64.wrap ((i : Int) + 1) = (i : Int) + 1 := wrap_id (by omega) (by omega)
      have h2 : (i : Int) < acc.length := by omega
      have h3 : i + 1 ≤ acc.length := by omega
      have h1 : (i : Int) < l.length := by omega
      simp [n_laws_toHeightLineS_L3, c_laws_toHeightLineS_L3, laws_toHeightLine, c_laws_toHeightLine, h1, h2, h3, hw, hd, fld_node, toInt_int]
    · simp [n_laws_toHeightLineS_L3, c_laws_toHeightLineS_L3]
  have h4 : (l.length : Int) ≤ 4294967296 := by omega
  simp [laws_toHeightLineS, c_laws_toHeightLineS, key, h4]

theorem eqHeightLineS_self (l : List D) (hl : l.length ≤ 1048576) : laws_eqHeightLineS l l = some true := by
  have key : laws_eqHeightLineS_L4 l l 0 = some (.inr ()) := by
    refine all_loop (N := fun n i => n_laws_eqHeightLineS_L4 n l l i) (len := l.length) (fun m i hi => ?_) (fun m => ?_)
    · have hw : IntKind.i64.wrap ((i : Int) + 1) = (i : Int) + 1 := wrap_id (by omega) (by omega)
      have h1 : (i : Int) < l.length := by omega
      simp [n_laws_eqHeightLineS_L4, c_laws_eqHeightLineS_L4, laws_eqHeightLine, c_laws_eqHeightLine, h1, hw]
    · simp [n_laws_eqHeightLineS_L4, c_laws_eqHeightLineS_L4]
  simp [laws_eqHeightLineS, c_laws_eqHeightLineS, key]

/-- a line is in order -/
def lineB (n : Int) (d : D) : Bool :=
  let w (x a b : Int) : Bool := decide (a ≤ x) && decide (x ≤ b)
  w (d.fld 0).toInt 0 (n - 1) && w (d.fld 1).toInt 0 (n - 1) && !decide ((d.fld 0).toInt = (d.fld 1).toInt) && w (d.fld 2).toInt (-100000) 100000 && w (d.fld 3).toInt 1 1000

theorem l1In_eq (x a b : Int) : spec_l1In x a b = some (decide (a ≤ x) && decide (x ≤ b)) := by
  unfold spec_l1In c_spec_l1In
  by_cases h : a ≤ x <;> simp [h]
theorem within_eq (x a b : Int) : impl_within x a b = some (decide (a ≤ x) && decide (x ≤ b)) := by
  unfold impl_within c_impl_within
  by_cases h : a ≤ x <;> simp [h]

theorem lines_loops (l : List D) (n : Int) (hn : 2 ≤ n ∧ n ≤ 8) (hl : l.length ≤ 16) :
    spec_l17Lines_L4 l n 0 = some (match firstN (fun i => !lineB n (l[i]?.getD (.int 0))) l.length with | some _ => .inl false | none => .inr ()) ∧
    slices_IndexFunc_L2 l n l.length 0 = some (match firstN (fun i => !lineB n (l[i]?.getD (.int 0))) l.length with | some i => .inl (i : Int) | none => .inr ()) := by
  have hw2 : IntKind.i64.wrap (n - 1) = n - 1 := wrap_id (by omega) (by omega)
  constructor
  · refine scan_loop (N := fun m i => n_spec_l17Lines_L4 m l n i) _ (fun _ => .inl false) (fun m i hi => ?_) (fun m => ?_)
    · have hw : IntKind.i64.wrap ((i : Int) + 1) = (i : Int) + 1 := wrap_id (by omega) (by omega)
      have h1 : (i : Int) < l.length := by omega
      simp only [n_spec_l17Lines_L4, c_spec_l17Lines_L4, l1In_eq, hw, hw2, h1, Option.bind_some, decide_true, cond_true, Int.natCast_nonneg, and_self, if_true, Int.toNat_natCast, List.getD_eq_getElem?_getD]
      generalize l[i]?.getD (D.int 0) = d
      dsimp only [lineB]
      generalize (decide (0 ≤ (d.fld 0).toInt) && decide ((d.fld 0).toInt ≤ n - 1)) = b1
      generalize (decide (0 ≤ (d.fld 1).toInt) && decide ((d.fld 1).toInt ≤ n - 1)) = b2
      generalize decide ((d.fld 0).toInt = (d.fld 1).toInt) = b3
      generalize (decide (-100000 ≤ (d.fld 2).toInt) && decide ((d.fld 2).toInt ≤ 100000)) = b4
      generalize (decide (1 ≤ (d.fld 3).toInt) && decide ((d.fld 3).toInt ≤ 1000)) = b5
      cases b1 <;> cases b2 <;> cases b3 <;> cases b4 <;> cases b5 <;> simp
    · simp [n_spec_l17Lines_L4, c_spec_l17Lines_L4]
  · refine scan_loop (N := fun m i => n_slices_IndexFunc_L2 m l n l.length i) _ (fun i => .inl (i : Int)) (fun m i hi => ?_) (fun m => ?_)
    · have hw : IntKind.i64.wrap ((i : Int) + 1) = (i : Int) + 1 := wrap_id (by omega) (by omega)
      have h1 : (i : Int) < l.length := by omega
      simp only [n_slices_IndexFunc_L2, c_slices_IndexFunc_L2, impl_IsValidLines_1, c_impl_IsValidLines_1, within_eq, hw, hw2, h1, Option.bind_some, decide_true, cond_true, Int.natCast_nonneg, and_self, if_true, Int.toNat_natCast, List.getD_eq_getElem?_getD]
      generalize l[i]?.getD (D.int 0) = d
      dsimp only [lineB]
      generalize (decide (0 ≤ (d.fld 0).toInt) && decide ((d.fld 0).toInt ≤ n - 1)) = b1
      generalize (decide (0 ≤ (d.fld 1).toInt) && decide ((d.fld 1).toInt ≤ n - 1)) = b2
      generalize decide ((d.fld 0).toInt = (d.fld 1).toInt) = b3
      generalize (decide (-100000 ≤ (d.fld 2).toInt) && decide ((d.fld 2).toInt ≤ 100000)) = b4
      generalize (decide (1 ≤ (d.fld 3).toInt) && decide ((d.fld 3).toInt ≤ 1000)) = b5
      cases b1 <;> cases b2 <;> cases b3 <;> cases b4 <;> cases b5 <;> simp
    · simp [n_slices_IndexFunc_L2, c_slices_IndexFunc_L2]

theorem lines_same (l : List D) (n : Int) : ∃ b, spec_IsValidLines l n = some b ∧ impl_IsValidLines l n = some b := by
  by_cases hn : 2 ≤ n ∧ n ≤ 8
  · by_cases hl : l.length ≤ 16
    · obtain ⟨h1, h2⟩ := lines_loops l n hn hl
      have h3 : ¬ (16 : Int) < l.length := by omega
      simp only [spec_IsValidLines, c_spec_IsValidLines, spec_l17Lines, c_spec_l17Lines, impl_IsValidLines, c_impl_IsValidLines, slices_ContainsFunc__impl_IsValidLines_1, c_slices_ContainsFunc__impl_IsValidLines_1,
        slices_IndexFunc__impl_IsValidLines_1, c_slices_IndexFunc__impl_IsValidLines_1, l1In_eq, within_eq, h1, h2, hn, h3, Option.bind_some, decide_true, decide_false, Bool.and_self, Bool.not_true, cond_false]
      cases firstN (fun i => !lineB n (l[i]?.getD (.int 0))) l.length with
      | none => exact ⟨true, by simp, by simp⟩
      | some i => exact ⟨false, by simp, by simp⟩
    · have h3 : (16 : Int) < l.length := by omega
      exact ⟨false, by simp [spec_IsValidLines, c_spec_IsValidLines, spec_l17Lines, c_spec_l17Lines, l1In_eq, hn, h3], by simp [impl_IsValidLines, c_impl_IsValidLines, within_eq, hn, h3]⟩
  · have hb : (decide (2 ≤ n) && decide (n ≤ 8)) = false := by
      rw [Bool.and_eq_false_iff]; simp; omega
    exact ⟨false, by simp only [spec_IsValidLines, c_spec_IsValidLines, spec_l17Lines, c_spec_l17Lines, l1In_eq, hb, Option.bind_some, Bool.not_false, cond_true], by simp only [impl_IsValidLines, c_impl_IsValidLines, within_eq, hb, Option.bind_some, Bool.not_false, cond_true]⟩

theorem pure_FnExactIsValidLines (x0 : List D) (x1 : Int) (h0 : x0.length ≤ maxLen) (w0 : ∀ d ∈ x0, wfD (.struct [.int .i64, .int .i64, .int .i64, .int .i64]) d) (h1 : (Lit.int .i64 x1).wf = true) : laws_FnExactIsValidLines x0 x1 = some true := by
  unfold maxLen at h0
  have hw : IntKind.i64.wrap (1048576 - (x0.length : Int)) = 1048576 - (x0.length : Int) := wrap_id (by omega) (by omega)
  by_cases hl : x0.length ≤ 1048576
  · have h2 : ¬ (1048576 - (x0.length : Int)) < 0 := by omega
    obtain ⟨b, hb1, hb2⟩ := lines_same x0 x1
    simp [laws_FnExactIsValidLines, c_laws_FnExactIsValidLines, laws_szHeightLineS, c_laws_szHeightLineS, hw, h2, toHeightLineS_id x0 hl w0, hb1, hb2, eqHeightLineS_self x0 hl]
  · have h2 : (1048576 - (x0.length : Int)) < 0 := by omega
    simp [laws_FnExactIsValidLines, c_laws_FnExactIsValidLines, laws_szHeightLineS, c_laws_szHeightLineS, hw, h2]

end Go.Proofs.Ytkcclgcmpdgdjaa
