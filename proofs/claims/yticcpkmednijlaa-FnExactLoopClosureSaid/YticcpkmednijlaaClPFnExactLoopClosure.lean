/- The law FnExactLoopClosure over plain values. No condition beside those of the statement. -/
import Derived.Test.YticcpkmednijlaaClMFnExactLoopClosure
import Derived.Test.YticcpkmednijlaaRaiU4
set_option linter.unusedVariables false
set_option linter.unusedSimpArgs false
set_option maxRecDepth 100000
namespace Go.Proofs.Yticcpkmednijlaa
open Go Go.Rai

abbrev tHL : Ty := .struct [.int .i64, .int .i64, .int .i64, .int .i64]

theorem tHL_wf {d : D} (h : wfD tHL d) : ∃ a b c e : Int, d = .node [.int a, .int b, .int c, .int e] := by
  obtain ⟨l, rfl, x1, r1, rfl, ⟨a, rfl, _⟩, x2, r2, rfl, ⟨b, rfl, _⟩, x3, r3, rfl, ⟨c, rfl, _⟩, x4, r4, rfl, ⟨e, rfl, _⟩, h⟩ := h
  obtain rfl := h
  exact ⟨a, b, c, e, rfl⟩

theorem toHeightLineS_id (l : List D) (hl : l.length ≤ 1048576) (w : ∀ d ∈ l, wfD tHL d) : laws_toHeightLineS l = some l := by
  have key : laws_toHeightLineS_L3 l 0 (List.replicate l.length (.node [.int 0, .int 0, .int 0, .int 0])) = some l := by
    refine copy_loop (N := n_laws_toHeightLineS_L3) (fun m i acc hi hacc => ?_) (fun m acc hacc => ?_)
    · obtain ⟨a, b, c, e, hd⟩ := tHL_wf (w _ (get_mem hi))
      have hw : IntKind.i64.wrap ((i : Int) + 1) = (i : Int) + 1 := wrap_id (by omega) (by omega)
      have h2 : (i : Int) < acc.length := by omega
      have h3 : i + 1 ≤ acc.length := by omega
      have h1 : (i : Int) < l.length := by omega
      simp [n_laws_toHeightLineS_L3, c_laws_toHeightLineS_L3, laws_toHeightLine, c_laws_toHeightLine, h1, h2, h3, hw, hd, fld_node, toInt_int]
    · simp [n_laws_toHeightLineS_L3, c_laws_toHeightLineS_L3]
  have h4 : (l.length : Int) ≤ 4294967296 := by omega
  simp [laws_toHeightLineS, c_laws_toHeightLineS, key, h4]

theorem eqHeightLineS_self (l : List D) (hl : l.length ≤ 1048576) : laws_eqHeightLineS l l = some true := by
  have key : laws_eqHeightLineS_L4 l l 0 = some (.inr ()) := by
    refine all_loop (N := fun n i => n_laws_eqHeightLineS_L4 n l l i) (len := l.length) (fun m i hi => ?_) (fun m => ?_)
    · have hw : IntKind.i64.wrap ((i : Int) + 1) = (i : Int) + 1 := wrap_id (by omega) (by omega)
      have h1 : (i : Int) < l.length := by omega
      simp [n_laws_eqHeightLineS_L4, c_laws_eqHeightLineS_L4, laws_eqHeightLine, c_laws_eqHeightLine, h1, hw]
    · simp [n_laws_eqHeightLineS_L4, c_laws_eqHeightLineS_L4]
  simp [laws_eqHeightLineS, c_laws_eqHeightLineS, key]


theorem toIntS_id (l : List D) (hl : l.length ≤ 1048576) (w : ∀ d ∈ l, wfD (.int .i64) d) : laws_toIntS l = some l := by
  have key : laws_toIntS_L3 l 0 (List.replicate l.length (.int 0)) = some l := by
    refine copy_loop (N := n_laws_toIntS_L3) (fun m i acc hi hacc => ?_) (fun m acc hacc => ?_)
    · obtain ⟨a, hd, _⟩ := w _ (get_mem hi)
      have hw : IntKind.i64.wrap ((i : Int) + 1) = (i : Int) + 1 := wrap_id (by omega) (by omega)
      have h2 : (i : Int) < acc.length := by omega
      have h3 : i + 1 ≤ acc.length := by omega
      have h1 : (i : Int) < l.length := by omega
      simp [n_laws_toIntS_L3, c_laws_toIntS_L3, h1, h2, h3, hw, hd, toInt_int]
    · simp [n_laws_toIntS_L3, c_laws_toIntS_L3]
  have h4 : (l.length : Int) ≤ 4294967296 := by omega
  simp [laws_toIntS, c_laws_toIntS, key, h4]

theorem eqIntS_self (l : List D) (hl : l.length ≤ 1048576) : laws_eqIntS l l = some true := by
  have key : laws_eqIntS_L4 l l 0 = some (.inr ()) := by
    refine all_loop (N := fun n i => n_laws_eqIntS_L4 n l l i) (len := l.length) (fun m i hi => ?_) (fun m => ?_)
    · have hw : IntKind.i64.wrap ((i : Int) + 1) = (i : Int) + 1 := wrap_id (by omega) (by omega)
      have h1 : (i : Int) < l.length := by omega
      simp [n_laws_eqIntS_L4, c_laws_eqIntS_L4, h1, hw]
    · simp [n_laws_eqIntS_L4, c_laws_eqIntS_L4]
  simp [laws_eqIntS, c_laws_eqIntS, key]


theorem l1In_eq (x a b : Int) : spec_l1In x a b = some (btw x a b) := by
  unfold spec_l1In c_spec_l1In btw
  by_cases h : a ≤ x <;> simp [h]
theorem within_eq (x a b : Int) : impl_within x a b = some (btw x a b) := by
  unfold impl_within c_impl_within btw
  by_cases h : a ≤ x <;> simp [h]


/-- a line is in order -/
def lineB (n : Int) (d : D) : Bool :=
  let w (x a b : Int) : Bool := decide (a ≤ x) && decide (x ≤ b)
  w (d.fld 0).toInt 0 (n - 1) && w (d.fld 1).toInt 0 (n - 1) && !decide ((d.fld 0).toInt = (d.fld 1).toInt) && w (d.fld 2).toInt (-100000) 100000 && w (d.fld 3).toInt 1 1000

theorem l1In_eq0 (x a b : Int) : spec_l1In x a b = some (decide (a ≤ x) && decide (x ≤ b)) := by
  unfold spec_l1In c_spec_l1In
  by_cases h : a ≤ x <;> simp [h]
theorem within_eq0 (x a b : Int) : impl_within x a b = some (decide (a ≤ x) && decide (x ≤ b)) := by
  unfold impl_within c_impl_within
  by_cases h : a ≤ x <;> simp [h]

theorem lines_loops (l : List D) (n : Int) (hn : 2 ≤ n ∧ n ≤ 8) (hl : l.length ≤ 16) :
    spec_l17Lines_L4 l n 0 = some (match firstN (fun i => !lineB n (l[i]?.getD (.int 0))) l.length with | some _ => .inl false | none => .inr ()) ∧
    slices_IndexFunc_L2 l n l.length 0 = some (match firstN (fun i => !lineB n (l[i]?.getD (.int 0))) l.length with | some i => .inl (i : Int) | none => .inr ()) := by
  have hw2 : IntKind.i64.wrap (n - 1) = n - 1 := wrap_id (by omega) (by omega)
  constructor
  · refine scan_loop (N := fun m i => n_spec_l17Lines_L4 m l n i) _ (fun _ => .inl false) (fun m i hi => ?_) (fun m => ?_)
    · have hw : IntKind.i64.wrap ((i : Int) + 1) = (i : Int) + 1 := wrap_id (by omega) (by omega)
      have h1 : (i : Int) < l.length := by omega
      simp only [n_spec_l17Lines_L4, c_spec_l17Lines_L4, l1In_eq0, hw, hw2, h1, Option.bind_some, decide_true, cond_true, Int.natCast_nonneg, and_self, if_true, Int.toNat_natCast, List.getD_eq_getElem?_getD]
      generalize l[i]?.getD (D.int 0) = d
      dsimp only [lineB]
      generalize (decide (0 ≤ (d.fld 0).toInt) && decide ((d.fld 0).toInt ≤ n - 1)) = b1
      generalize (decide (0 ≤ (d.fld 1).toInt) && decide ((d.fld 1).toInt ≤ n - 1)) = b2
      generalize decide ((d.fld 0).toInt = (d.fld 1).toInt) = b3
      generalize (decide (-100000 ≤ (d.fld 2).toInt) && decide ((d.fld 2).toInt ≤ 100000)) = b4
      generalize (decide (1 ≤ (d.fld 3).toInt) && decide ((d.fld 3).toInt ≤ 1000)) = b5
      cases b1 <;> cases b2 <;> cases b3 <;> cases b4 <;> cases b5 <;> simp
    · simp [n_spec_l17Lines_L4, c_spec_l17Lines_L4]
  · refine scan_loop (N := fun m i => n_slices_IndexFunc_L2 m l n l.length i) _ (fun i => .inl (i : Int)) (fun m i hi => ?_) (fun m => ?_)
    · have hw : IntKind.i64.wrap ((i : Int) + 1) = (i : Int) + 1 := wrap_id (by omega) (by omega)
      have h1 : (i : Int) < l.length := by omega
      simp only [n_slices_IndexFunc_L2, c_slices_IndexFunc_L2, impl_IsValidLines_1, c_impl_IsValidLines_1, within_eq0, hw, hw2, h1, Option.bind_some, decide_true, cond_true, Int.natCast_nonneg, and_self, if_true, Int.toNat_natCast, List.getD_eq_getElem?_getD]
      generalize l[i]?.getD (D.int 0) = d
      dsimp only [lineB]
      generalize (decide (0 ≤ (d.fld 0).toInt) && decide ((d.fld 0).toInt ≤ n - 1)) = b1
      generalize (decide (0 ≤ (d.fld 1).toInt) && decide ((d.fld 1).toInt ≤ n - 1)) = b2
      generalize decide ((d.fld 0).toInt = (d.fld 1).toInt) = b3
      generalize (decide (-100000 ≤ (d.fld 2).toInt) && decide ((d.fld 2).toInt ≤ 100000)) = b4
      generalize (decide (1 ≤ (d.fld 3).toInt) && decide ((d.fld 3).toInt ≤ 1000)) = b5
      cases b1 <;> cases b2 <;> cases b3 <;> cases b4 <;> cases b5 <;> simp
    · simp [n_slices_IndexFunc_L2, c_slices_IndexFunc_L2]

theorem lines_same (l : List D) (n : Int) : ∃ b, spec_l17Lines l n = some b ∧ impl_IsValidLines l n = some b := by
  by_cases hn : 2 ≤ n ∧ n ≤ 8
  · by_cases hl : l.length ≤ 16
    · obtain ⟨h1, h2⟩ := lines_loops l n hn hl
      have h3 : ¬ (16 : Int) < l.length := by omega
      simp only [spec_l17Lines, c_spec_l17Lines, impl_IsValidLines, c_impl_IsValidLines, slices_ContainsFunc__impl_IsValidLines_1, c_slices_ContainsFunc__impl_IsValidLines_1,
        slices_IndexFunc__impl_IsValidLines_1, c_slices_IndexFunc__impl_IsValidLines_1, l1In_eq0, within_eq0, h1, h2, hn, h3, Option.bind_some, decide_true, decide_false, Bool.and_self, Bool.not_true, cond_false]
      cases firstN (fun i => !lineB n (l[i]?.getD (.int 0))) l.length with
      | none => exact ⟨true, by simp, by simp⟩
      | some i => exact ⟨false, by simp, by simp⟩
    · have h3 : (16 : Int) < l.length := by omega
      exact ⟨false, by simp [spec_l17Lines, c_spec_l17Lines, l1In_eq0, hn, h3], by simp [impl_IsValidLines, c_impl_IsValidLines, within_eq0, hn, h3]⟩
  · have hb : (decide (2 ≤ n) && decide (n ≤ 8)) = false := by
      rw [Bool.and_eq_false_iff]; simp; omega
    exact ⟨false, by simp only [spec_l17Lines, c_spec_l17Lines, l1In_eq0, hb, Option.bind_some, Bool.not_false, cond_true], by simp only [impl_IsValidLines, c_impl_IsValidLines, within_eq0, hb, Option.bind_some, Bool.not_false, cond_true]⟩


def mB (a b : Int) (d : D) : Bool := (decide ((d.fld 0).toInt = a) && decide ((d.fld 1).toInt = b)) || (decide ((d.fld 0).toInt = b) && decide ((d.fld 1).toInt = a))

theorem rise_loop (l : List D) (a b : Int) (hl : l.length ≤ 16) : spec_l17Rise_L2 l a b 0 = some (match firstN (fun i => mB a b (l[i]?.getD (.int 0))) l.length with
    | some i => .inl (bif decide (((l[i]?.getD (.int 0)).fld 0).toInt = a) && decide (((l[i]?.getD (.int 0)).fld 1).toInt = b) then ((l[i]?.getD (.int 0)).fld 2).toInt else IntKind.i64.wrap (0 - ((l[i]?.getD (.int 0)).fld 2).toInt), true) | none => .inr ()) := by
  refine scan_loop (N := fun m i => n_spec_l17Rise_L2 m l a b i) _ (fun i => .inl (bif decide (((l[i]?.getD (.int 0)).fld 0).toInt = a) && decide (((l[i]?.getD (.int 0)).fld 1).toInt = b) then ((l[i]?.getD (.int 0)).fld 2).toInt else IntKind.i64.wrap (0 - ((l[i]?.getD (.int 0)).fld 2).toInt), true)) (fun m i hi => ?_) (fun m => ?_)
  · have hw : IntKind.i64.wrap ((i : Int) + 1) = (i : Int) + 1 := wrap_id (by omega) (by omega)
    have h1 : (i : Int) < l.length := by omega
    simp only [n_spec_l17Rise_L2, c_spec_l17Rise_L2, hw, h1, decide_true, cond_true, Int.natCast_nonneg, and_self, if_true, Int.toNat_natCast, List.getD_eq_getElem?_getD]
    generalize l[i]?.getD (D.int 0) = d
    dsimp only [mB]
    generalize decide ((d.fld 0).toInt = a) = b1
    generalize decide ((d.fld 1).toInt = b) = b2
    generalize decide ((d.fld 0).toInt = b) = b3
    generalize decide ((d.fld 1).toInt = a) = b4
    cases b1 <;> cases b2 <;> cases b3 <;> cases b4 <;> simp
  · simp [n_spec_l17Rise_L2, c_spec_l17Rise_L2]

theorem index_loop (l : List D) (a b : Int) (hl : l.length ≤ 16) : slices_IndexFunc__impl_LoopClosure_1 l a b = some (match firstN (fun i => mB a b (l[i]?.getD (.int 0))) l.length with | some i => (i : Int) | none => -1) := by
  have : slices_IndexFunc_L2_v2 l a b l.length 0 = some (match firstN (fun i => mB a b (l[i]?.getD (.int 0))) l.length with | some i => .inl (i : Int) | none => .inr ()) := by
    refine scan_loop (N := fun m i => n_slices_IndexFunc_L2_v2 m l a b l.length i) _ (fun i => .inl (i : Int)) (fun m i hi => ?_) (fun m => ?_)
    · have hw : IntKind.i64.wrap ((i : Int) + 1) = (i : Int) + 1 := wrap_id (by omega) (by omega)
      have h1 : (i : Int) < l.length := by omega
      simp only [n_slices_IndexFunc_L2_v2, c_slices_IndexFunc_L2_v2, impl_LoopClosure_1, c_impl_LoopClosure_1, hw, h1, decide_true, cond_true, Int.natCast_nonneg, and_self, if_true, Int.toNat_natCast, List.getD_eq_getElem?_getD]
      generalize l[i]?.getD (D.int 0) = d
      dsimp only [mB]
      generalize decide ((d.fld 0).toInt = a) = b1
      generalize decide ((d.fld 1).toInt = b) = b2
      generalize decide ((d.fld 0).toInt = b) = b3
      generalize decide ((d.fld 1).toInt = a) = b4
      cases b1 <;> cases b2 <;> cases b3 <;> cases b4 <;> simp
    · simp [n_slices_IndexFunc_L2_v2, c_slices_IndexFunc_L2_v2]
  simp only [slices_IndexFunc__impl_LoopClosure_1, c_slices_IndexFunc__impl_LoopClosure_1, this, Option.bind_some]
  cases firstN (fun i => mB a b (l[i]?.getD (.int 0))) l.length <;> simp

theorem lines_valid {l : List D} {n : Int} (h : spec_l17Lines l n = some true) : l.length ≤ 16 ∧ ∀ i, i < l.length → lineB n (l[i]?.getD (.int 0)) = true := by
  by_cases hn : 2 ≤ n ∧ n ≤ 8
  · by_cases hl : l.length ≤ 16
    · refine ⟨hl, fun i hi => ?_⟩
      obtain ⟨h1, _⟩ := lines_loops l n hn hl
      have h3 : ¬ (16 : Int) < l.length := by omega
      simp only [spec_l17Lines, c_spec_l17Lines, l1In_eq0, h1, hn, h3, Option.bind_some, decide_true, decide_false, Bool.and_self, Bool.not_true, cond_false] at h
      cases hf : firstN (fun i => !lineB n (l[i]?.getD (.int 0))) l.length with
      | none => have := firstN_none hf i hi; simpa using this
      | some k => rw [hf] at h; simp at h
    · exfalso
      have h3 : (16 : Int) < l.length := by omega
      simp [spec_l17Lines, c_spec_l17Lines, l1In_eq0, hn, h3] at h
  · exfalso
    have hb : (decide (2 ≤ n) && decide (n ≤ 8)) = false := by
      rw [Bool.and_eq_false_iff]; simp; omega
    simp only [spec_l17Lines, c_spec_l17Lines, l1In_eq0, hb, Option.bind_some, Bool.not_false, cond_true] at h
    simp at h

theorem lineB_bd {n : Int} {d : D} (h : lineB n d = true) : (d.fld 0).toInt ≠ (d.fld 1).toInt ∧ -100000 ≤ (d.fld 2).toInt ∧ (d.fld 2).toInt ≤ 100000 := by
  simp [lineB] at h; omega

theorem path_loop (l p : List D) (n : Int) (hv : ∀ i, i < l.length → lineB n (l[i]?.getD (.int 0)) = true) (hl : l.length ≤ 16) (hp : p.length ≤ 16) :
    ∃ y, spec_LoopClosure_L5 l p 0 0 = some y ∧ impl_LoopClosure_L5 l p 0 p p.length 0 = some y := by
  obtain ⟨y, y', h1, h2, rfl⟩ := loop_two (N := fun m (s : Nat × Int) => n_spec_LoopClosure_L5 m l p s.2 (s.1 : Int)) (N' := fun m (s : Nat × Int) => n_impl_LoopClosure_L5 m l p s.2 p p.length (s.1 : Int)) (fun s => s.1 ≤ p.length) (fun s => p.length - s.1) (fun y y' => y = y') (by
    rintro ⟨i, s⟩ hi
    simp only at hi ⊢
    by_cases hlt : i < p.length
    · have hlt' : (i : Int) < p.length := by omega
      have hne : ¬ ((p.length : Int) = 0) := by omega
      have hw : IntKind.i64.wrap ((i : Int) + 1) = ((i + 1 : Nat) : Int) := succ_wrap (by omega)
      have hm : (((i + 1) % p.length : Nat) : Int) < p.length := by have := Nat.mod_lt (i + 1) (show 0 < p.length by omega); omega
      generalize ha : (p[i]?.getD (D.int 0)).toInt = a
      generalize hb : (p[(i + 1) % p.length]?.getD (D.int 0)).toInt = b
      have e1 : ∀ m, n_spec_LoopClosure_L5 (m + 1) l p s i = (match firstN (fun i => mB a b (l[i]?.getD (.int 0))) l.length with
          | some k => n_spec_LoopClosure_L5 m l p (IntKind.i64.wrap (s + (bif decide (((l[k]?.getD (.int 0)).fld 0).toInt = a) && decide (((l[k]?.getD (.int 0)).fld 1).toInt = b) then ((l[k]?.getD (.int 0)).fld 2).toInt else IntKind.i64.wrap (0 - ((l[k]?.getD (.int 0)).fld 2).toInt)))) ((i + 1 : Nat) : Int)
          | none => some (.inl (0, false, s))) := by
        intro m
        simp only [n_spec_LoopClosure_L5, c_spec_LoopClosure_L5, hlt', decide_true, cond_true, Int.natCast_nonneg, and_self, if_true, hne, ne_eq, not_false_eq_true, hw, tmod_nat, hm, Int.toNat_natCast, List.getD_eq_getElem?_getD, ha, hb, spec_l17Rise, c_spec_l17Rise, rise_loop l a b hl, Option.bind_some]
        cases firstN (fun i => mB a b (l[i]?.getD (.int 0))) l.length <;> simp
      have e2 : ∀ m, n_impl_LoopClosure_L5 (m + 1) l p s p p.length i = (match firstN (fun i => mB a b (l[i]?.getD (.int 0))) l.length with
          | some k => n_impl_LoopClosure_L5 m l p (bif decide (((l[k]?.getD (.int 0)).fld 0).toInt = a) then IntKind.i64.wrap (s + ((l[k]?.getD (.int 0)).fld 2).toInt) else IntKind.i64.wrap (s - ((l[k]?.getD (.int 0)).fld 2).toInt)) p p.length ((i + 1 : Nat) : Int)
          | none => some (.inl (0, false, s))) := by
        intro m
        simp only [n_impl_LoopClosure_L5, c_impl_LoopClosure_L5, hlt', decide_true, cond_true, Int.natCast_nonneg, and_self, if_true, hne, ne_eq, not_false_eq_true, hw, tmod_nat, hm, Int.toNat_natCast, List.getD_eq_getElem?_getD, ha, hb, index_loop l a b hl, Option.bind_some]
        cases hf : firstN (fun i => mB a b (l[i]?.getD (.int 0))) l.length with
        | none => simp
        | some k =>
          have hk := (firstN_some hf).1
          have h3 : ¬ (k : Int) < 0 := by omega
          have h4 : (k : Int) < l.length := by omega
          simp only [h3, h4, decide_false, cond_false, Int.natCast_nonneg, and_self, if_true, Int.toNat_natCast]
          cases decide (((l[k]?.getD (.int 0)).fld 0).toInt = a) <;> simp
      cases hf : firstN (fun i => mB a b (l[i]?.getD (.int 0))) l.length with
      | none => exact .inl ⟨_, _, rfl, fun m => ⟨by rw [e1, hf], by rw [e2, hf]⟩⟩
      | some k =>
        obtain ⟨hk, hmb, _⟩ := firstN_some hf
        obtain ⟨b1, b2, b3⟩ := lineB_bd (hv k hk)
        refine .inr ⟨(i + 1, IntKind.i64.wrap (s + (bif decide (((l[k]?.getD (.int 0)).fld 0).toInt = a) && decide (((l[k]?.getD (.int 0)).fld 1).toInt = b) then ((l[k]?.getD (.int 0)).fld 2).toInt else IntKind.i64.wrap (0 - ((l[k]?.getD (.int 0)).fld 2).toInt)))), by simp; omega, by simp; omega, fun m => ⟨by rw [e1, hf], ?_⟩⟩
        rw [e2, hf]
        simp only
        congr 1
        simp only [mB, Bool.or_eq_true, Bool.and_eq_true, decide_eq_true_eq] at hmb
        by_cases c1 : ((l[k]?.getD (.int 0)).fld 0).toInt = a
        · have c2 : ((l[k]?.getD (.int 0)).fld 1).toInt = b := by omega
          simp [c1, c2]
        · simp only [c1, decide_false, cond_false, Bool.false_and]
          rw [wrap_id (n := 0 - ((l[k]?.getD (.int 0)).fld 2).toInt) (by omega) (by omega)]
          congr 1
          omega
    · have hlt' : ¬ (i : Int) < p.length := by omega
      exact .inl ⟨.inr s, .inr s, rfl, fun m => ⟨by simp [n_spec_LoopClosure_L5, c_spec_LoopClosure_L5, hlt'], by simp [n_impl_LoopClosure_L5, c_impl_LoopClosure_L5, hlt']⟩⟩) (0, 0) (by simp)
  exact ⟨y, h1, h2⟩

theorem closure_same (l : List D) (n : Int) (p : List D) : ∃ y, spec_LoopClosure l n p = some y ∧ impl_LoopClosure l n p = some y := by
  obtain ⟨b, h1, h2⟩ := lines_same l n
  have h1' := h1
  simp only [spec_LoopClosure, c_spec_LoopClosure, impl_LoopClosure, c_impl_LoopClosure, h1', h2, l1In_eq, within_eq, Option.bind_some]
  cases b with
  | false => exact ⟨_, rfl, rfl⟩
  | true =>
    cases hb : btw (p.length : Int) 1 16 with
    | false => exact ⟨_, rfl, rfl⟩
    | true =>
      obtain ⟨v1, v2⟩ := lines_valid h1'
      have := btw_iff.1 hb
      obtain ⟨y, k1, k2⟩ := path_loop l p n v2 v1 (by omega)
      simp only [Bool.not_true, cond_false, k1, k2, Option.bind_some]
      cases y <;> exact ⟨_, rfl, rfl⟩

theorem pure_FnExactLoopClosure (x0 : List D) (x1 : Int) (x2 : List D) (h0 : x0.length ≤ maxLen) (w0 : ∀ d ∈ x0, wfD (.struct [.int .i64, .int .i64, .int .i64, .int .i64]) d) (h1 : (Lit.int .i64 x1).wf = true) (h2 : x2.length ≤ maxLen) (w2 : ∀ d ∈ x2, wfD (.int .i64) d) : laws_FnExactLoopClosure x0 x1 x2 = some true := by
  unfold maxLen at h0 h2
  have hw : IntKind.i64.wrap (1048576 - (x0.length : Int)) = 1048576 - (x0.length : Int) := wrap_id (by omega) (by omega)
  by_cases hp : x2.length ≤ 1048576
  · have hp' : ¬ (1048576 : Int) < x2.length := by omega
    by_cases hl : x0.length ≤ 1048576
    · have h2 : ¬ (1048576 - (x0.length : Int)) < 0 := by omega
      obtain ⟨y, hb1, hb2⟩ := closure_same x0 x1 x2
      simp [laws_FnExactLoopClosure, c_laws_FnExactLoopClosure, laws_szHeightLineS, c_laws_szHeightLineS, hp', hw, h2, toHeightLineS_id x0 hl w0, toIntS_id x2 hp w2, hb1, hb2, eqHeightLineS_self x0 hl, eqIntS_self x2 hp]
    · have h2 : (1048576 - (x0.length : Int)) < 0 := by omega
      simp [laws_FnExactLoopClosure, c_laws_FnExactLoopClosure, laws_szHeightLineS, c_laws_szHeightLineS, hp', hw, h2]
  · have hp' : (1048576 : Int) < x2.length := by omega
    simp [laws_FnExactLoopClosure, c_laws_FnExactLoopClosure, hp']

end Go.Proofs.Yticcpkmednijlaa
