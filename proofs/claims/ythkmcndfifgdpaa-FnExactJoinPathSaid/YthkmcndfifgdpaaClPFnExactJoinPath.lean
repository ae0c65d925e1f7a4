/- The law FnExactJoinPath over plain values. No condition beside those of the statement. -/
import Derived.Test.YthkmcndfifgdpaaClMFnExactJoinPath
import Derived.Test.YthkmcndfifgdpaaRaiU5
set_option linter.unusedVariables false
set_option linter.unusedSimpArgs false
set_option maxRecDepth 100000
namespace Go.Proofs.Ythkmcndfifgdpaa
open Go Go.Rai

abbrev tSh : Ty := .struct [.int .i64, .int .i64, .int .i64, .int .i64]

theorem tSh_wf {d : D} (h : wfD tSh d) : ∃ a b c e : Int, d = .node [.int a, .int b, .int c, .int e] := by
  obtain ⟨l, rfl, x1, r1, rfl, ⟨a, rfl, _⟩, x2, r2, rfl, ⟨b, rfl, _⟩, x3, r3, rfl, ⟨c, rfl, _⟩, x4, r4, rfl, ⟨e, rfl, _⟩, h⟩ := h
  obtain rfl := h
  exact ⟨a, b, c, e, rfl⟩

theorem toSherdS_id (l : List D) (hl : l.length ≤ 1048576) (w : ∀ d ∈ l, wfD tSh d) : laws_toSherdS l = some l := by
  have key : laws_toSherdS_L3 l 0 (List.replicate l.length (.node [.int 0, .int 0, .int 0, .int 0])) = some l := by
    refine copy_loop (N := n_laws_toSherdS_L3) (fun m i acc hi hacc => ?_) (fun m acc hacc => ?_)
    · obtain ⟨a, b, c, e, hd⟩ := tSh_wf (w _ (get_mem hi))
      have hw : IntKind.i64.wrap ((i : Int) + 1) = (i : Int) + 1 := wrap_id (by omega) (by omega)
      have h2 : (i : Int) < acc.length := by omega
      have h3 : i + 1 ≤ acc.length := by omega
      have h1 : (i : Int) < l.length := by omega
      simp [n_laws_toSherdS_L3, c_laws_toSherdS_L3, laws_toSherd, c_laws_toSherd, h1, h2, h3, hw, hd, fld_node, toInt_int]
    · simp [n_laws_toSherdS_L3, c_laws_toSherdS_L3]
  have h4 : (l.length : Int) ≤ 4294967296 := by omega
  simp [laws_toSherdS, c_laws_toSherdS, key, h4]

theorem eqSherdS_self (l : List D) (hl : l.length ≤ 1048576) : laws_eqSherdS l l = some true := by
  have key : laws_eqSherdS_L4 l l 0 = some (.inr ()) := by
    refine all_loop (N := fun n i => n_laws_eqSherdS_L4 n l l i) (len := l.length) (fun m i hi => ?_) (fun m => ?_)
    · have hw : IntKind.i64.wrap ((i : Int) + 1) = (i : Int) + 1 := wrap_id (by omega) (by omega)
      have h1 : (i : Int) < l.length := by omega
      simp [n_laws_eqSherdS_L4, c_laws_eqSherdS_L4, laws_eqSherd, c_laws_eqSherd, h1, hw]
    · simp [n_laws_eqSherdS_L4, c_laws_eqSherdS_L4]
  simp [laws_eqSherdS, c_laws_eqSherdS, key]


abbrev tJoin : Ty := .struct [.int .i64, .int .i64]

theorem tJoin_wf {d : D} (h : wfD tJoin d) : ∃ a b : Int, d = .node [.int a, .int b] := by
  obtain ⟨l, rfl, x1, r1, rfl, ⟨a, rfl, _⟩, x2, r2, rfl, ⟨b, rfl, _⟩, h⟩ := h
  obtain rfl := h
  exact ⟨a, b, rfl⟩

theorem toJoinS_id (l : List D) (hl : l.length ≤ 1048576) (w : ∀ d ∈ l, wfD tJoin d) : laws_toJoinS l = some l := by
  have key : laws_toJoinS_L3 l 0 (List.replicate l.length (.node [.int 0, .int 0])) = some l := by
    refine copy_loop (N := n_laws_toJoinS_L3) (fun m i acc hi hacc => ?_) (fun m acc hacc => ?_)
    · obtain ⟨a, b, hd⟩ := tJoin_wf (w _ (get_mem hi))
      have hw : IntKind.i64.wrap ((i : Int) + 1) = (i : Int) + 1 := wrap_id (by omega) (by omega)
      have h2 : (i : Int) < acc.length := by omega
      have h3 : i + 1 ≤ acc.length := by omega
      have h1 : (i : Int) < l.length := by omega
      simp [n_laws_toJoinS_L3, c_laws_toJoinS_L3, laws_toJoin, c_laws_toJoin, h1, h2, h3, hw, hd, fld_node, toInt_int]
    · simp [n_laws_toJoinS_L3, c_laws_toJoinS_L3]
  have h4 : (l.length : Int) ≤ 4294967296 := by omega
  simp [laws_toJoinS, c_laws_toJoinS, key, h4]

theorem eqJoinS_self (l : List D) (hl : l.length ≤ 1048576) : laws_eqJoinS l l = some true := by
  have key : laws_eqJoinS_L4 l l 0 = some (.inr ()) := by
    refine all_loop (N := fun n i => n_laws_eqJoinS_L4 n l l i) (len := l.length) (fun m i hi => ?_) (fun m => ?_)
    · have hw : IntKind.i64.wrap ((i : Int) + 1) = (i : Int) + 1 := wrap_id (by omega) (by omega)
      have h1 : (i : Int) < l.length := by omega
      simp [n_laws_eqJoinS_L4, c_laws_eqJoinS_L4, laws_eqJoin, c_laws_eqJoin, h1, hw]
    · simp [n_laws_eqJoinS_L4, c_laws_eqJoinS_L4]
  simp [laws_eqJoinS, c_laws_eqJoinS, key]


theorem l1In_eq (x a b : Int) : spec_l1In x a b = some (btw x a b) := by
  unfold spec_l1In c_spec_l1In btw
  by_cases h : a ≤ x <;> simp [h]
theorem within_eq (x a b : Int) : impl_within x a b = some (btw x a b) := by
  unfold impl_within c_impl_within btw
  by_cases h : a ≤ x <;> simp [h]


def cmpV (x y : Int) : Int := if x < y then -1 else if y < x then 1 else 0
theorem compare_eq (x y : Int) : cmp_Compare x y = some (cmpV x y) := by
  simp only [cmp_Compare, c_cmp_Compare, cmp_isNaN, c_cmp_isNaN, Option.bind_some, decide_true, Bool.not_true, cond_false, cmpV]
  by_cases h : x < y
  · simp [h]
  · by_cases h2 : y < x <;> simp [h, h2]

theorem or_eq (a b : Int) : cmp_Or [.int a, .int b] = some (if a = 0 then b else a) := by
  have w1 : IntKind.i64.wrap 1 = 1 := by decide
  have w2 : IntKind.i64.wrap 2 = 2 := by decide
  have key : ∃ y, cmp_Or_L3 0 [.int a, .int b] 2 0 = some y ∧ (match y with | .inl z => z.1 | .inr z => z) = (if a = 0 then b else a) := by
    by_cases ha : a = 0
    · by_cases hb : b = 0
      · refine ⟨.inr 0, ev_eq (f := fun m => n_cmp_Or_L3 m 0 [.int a, .int b] 2 0) 3 (fun m hm => ?_), by simp [ha, hb]⟩
        obtain ⟨m, rfl⟩ : ∃ m', m = m' + 3 := ⟨m - 3, by omega⟩
        simp [n_cmp_Or_L3, c_cmp_Or_L3, ha, hb, toInt_int, w1, w2]
      · refine ⟨.inl (b, 0), ev_eq (f := fun m => n_cmp_Or_L3 m 0 [.int a, .int b] 2 0) 2 (fun m hm => ?_), by simp [ha]⟩
        obtain ⟨m, rfl⟩ : ∃ m', m = m' + 2 := ⟨m - 2, by omega⟩
        simp [n_cmp_Or_L3, c_cmp_Or_L3, ha, hb, toInt_int, w1]
    · refine ⟨.inl (a, 0), ev_eq (f := fun m => n_cmp_Or_L3 m 0 [.int a, .int b] 2 0) 1 (fun m hm => ?_), by simp [ha]⟩
      obtain ⟨m, rfl⟩ : ∃ m', m = m' + 1 := ⟨m - 1, by omega⟩
      simp [n_cmp_Or_L3, c_cmp_Or_L3, ha, toInt_int]
  obtain ⟨y, h1, h2⟩ := key
  rw [← h2]
  simp only [cmp_Or, c_cmp_Or, show (([D.int a, D.int b] : List D).length : Int) = 2 from rfl, h1, Option.bind_some]
  cases y <;> rfl

def sherdB (d : D) : Bool := btw (d.fld 0).toInt 1 999 && (btw (d.fld 1).toInt 0 9 && (btw (d.fld 2).toInt 0 3599 && btw (d.fld 3).toInt 1 3600))

theorem sL4_eq (l r : List D) (hl : l.length ≤ 1048576) : spec_l15Good_L4 l r 0 = some (match firstN (fun i => !sherdB (l[i]?.getD (.int 0))) l.length with | some _ => .inl (l, r, false) | none => .inr (l, r)) := by
  refine scan_loop (N := fun m i => n_spec_l15Good_L4 m l r i) _ (fun _ => .inl (l, r, false)) (fun m i hi => ?_) (fun m => ?_)
  · have hw : IntKind.i64.wrap ((i : Int) + 1) = (i : Int) + 1 := wrap_id (by omega) (by omega)
    have h1 : (i : Int) < l.length := by omega
    simp only [n_spec_l15Good_L4, c_spec_l15Good_L4, h1, hw, l1In_eq, decide_true, cond_true, Int.natCast_nonneg, and_self, if_true, Int.toNat_natCast, List.getD_eq_getElem?_getD, Option.bind_some, sherdB]
    generalize l[i]?.getD (D.int 0) = d
    cases btw (d.fld 0).toInt 1 999 <;> cases btw (d.fld 1).toInt 0 9 <;> cases btw (d.fld 2).toInt 0 3599 <;> cases btw (d.fld 3).toInt 1 3600 <;> simp
  · simp [n_spec_l15Good_L4, c_spec_l15Good_L4]

theorem iL2_eq (l r : List D) (hl : l.length ≤ 1048576) : impl_IsValidSherds_L2 l r l l.length 0 = some (match firstN (fun i => !sherdB (l[i]?.getD (.int 0))) l.length with | some _ => .inl (l, r, false) | none => .inr (l, r)) := by
  refine scan_loop (N := fun m i => n_impl_IsValidSherds_L2 m l r l l.length i) _ (fun _ => .inl (l, r, false)) (fun m i hi => ?_) (fun m => ?_)
  · have hw : IntKind.i64.wrap ((i : Int) + 1) = (i : Int) + 1 := wrap_id (by omega) (by omega)
    have h1 : (i : Int) < l.length := by omega
    simp only [n_impl_IsValidSherds_L2, c_impl_IsValidSherds_L2, h1, hw, impl_isNumber, c_impl_isNumber, within_eq, decide_true, cond_true, Int.natCast_nonneg, and_self, if_true, Int.toNat_natCast, List.getD_eq_getElem?_getD, Option.bind_some, sherdB]
    generalize l[i]?.getD (D.int 0) = d
    cases btw (d.fld 0).toInt 1 999 <;> cases btw (d.fld 1).toInt 0 9 <;> cases btw (d.fld 2).toInt 0 3599 <;> cases btw (d.fld 3).toInt 1 3600 <;> simp
  · simp [n_impl_IsValidSherds_L2, c_impl_IsValidSherds_L2]

def jA (l : List D) (i : Nat) : Int := ((l[i]?.getD (.int 0)).fld 0).toInt
def jB (l : List D) (i : Nat) : Int := ((l[i]?.getD (.int 0)).fld 1).toInt
def joinBad (n : Int) (l : List D) (i : Nat) : Bool := decide (¬ (0 ≤ jA l i ∧ jA l i < jB l i ∧ jB l i < n)) || (decide (0 < i) && decide (jA l i < jA l (i - 1) ∨ (jA l (i - 1) = jA l i ∧ jB l i ≤ jB l (i - 1))))

theorem sL10_eq (l r : List D) (hl : l.length ≤ 1048576) (hr : r.length ≤ 1048576) : spec_l15Good_L10 l r 0 = some (match firstN (joinBad l.length r) r.length with | some _ => .inl false | none => .inr ()) := by
  refine scan_loop (N := fun m i => n_spec_l15Good_L10 m l r i) _ (fun _ => .inl false) (fun m i hi => ?_) (fun m => ?_)
  · have hw : IntKind.i64.wrap ((i : Int) + 1) = (i : Int) + 1 := wrap_id (by omega) (by omega)
    have h1 : (i : Int) < r.length := by omega
    have hwl : IntKind.i64.wrap ((l.length : Int) - 1) = (l.length : Int) - 1 := wrap_id (by omega) (by omega)
    by_cases c1 : 1 ≤ jB r i ∧ jB r i ≤ (l.length : Int) - 1
    · have hwb : IntKind.i64.wrap (jB r i - 1) = jB r i - 1 := wrap_id (by omega) (by omega)
      by_cases c2 : 0 ≤ jA r i ∧ jA r i ≤ jB r i - 1
      · have e1 : btw (jB r i) 1 ((l.length : Int) - 1) = true := btw_iff.2 c1
        have e2 : btw (jA r i) 0 (jB r i - 1) = true := btw_iff.2 c2
        have e3 : (¬ (0 ≤ jA r i ∧ jA r i < jB r i ∧ jB r i < (l.length : Int))) ↔ False := by simp; omega
        unfold joinBad
        by_cases c3 : 0 < i
        · have hwp : IntKind.i64.wrap ((i : Int) - 1) = ((i - 1 : Nat) : Int) := pred_wrap (by omega) c3
          have h3 : ((i - 1 : Nat) : Int) < r.length := by omega
          have h4 : (0 : Int) < i := by omega
          unfold jA jB at e1 e2 hwb
          simp only [n_spec_l15Good_L10, c_spec_l15Good_L10, h1, hw, hwl, hwb, hwp, h3, h4, l1In_eq, e1, e2, decide_true, cond_true, Int.natCast_nonneg, and_self, if_true, Int.toNat_natCast, List.getD_eq_getElem?_getD, Option.bind_some, Bool.not_true, cond_false]
          simp only [e3, c3]
          unfold jA jB
          by_cases d1 : ((r[i]?.getD (.int 0)).fld 0).toInt < ((r[i - 1]?.getD (.int 0)).fld 0).toInt
          · simp [d1]
          · by_cases d2 : ((r[i - 1]?.getD (.int 0)).fld 0).toInt = ((r[i]?.getD (.int 0)).fld 0).toInt
            · by_cases d3 : ((r[i]?.getD (.int 0)).fld 1).toInt ≤ ((r[i - 1]?.getD (.int 0)).fld 1).toInt <;> simp [d2, d3]
            · simp [d1, d2]
        · have h4 : ¬ (0 : Int) < i := by omega
          unfold jA jB at e1 e2 hwb
          simp only [n_spec_l15Good_L10, c_spec_l15Good_L10, h1, hw, hwl, hwb, h4, l1In_eq, e1, e2, decide_true, decide_false, cond_true, Int.natCast_nonneg, and_self, if_true, Int.toNat_natCast, List.getD_eq_getElem?_getD, Option.bind_some, Bool.not_true, cond_false]
          simp only [e3, c3]
          simp
      · have e1 : btw (jB r i) 1 ((l.length : Int) - 1) = true := btw_iff.2 c1
        have e2 : btw (jA r i) 0 (jB r i - 1) = false := by rw [← Bool.not_eq_true, btw_iff]; exact c2
        have e3 : (¬ (0 ≤ jA r i ∧ jA r i < jB r i ∧ jB r i < (l.length : Int))) ↔ True := by simp; omega
        unfold joinBad
        simp only [e3]
        unfold jA jB at e1 e2 hwb
        simp [n_spec_l15Good_L10, c_spec_l15Good_L10, h1, hwl, hwb, l1In_eq, e1, e2]
    · have e1 : btw (jB r i) 1 ((l.length : Int) - 1) = false := by rw [← Bool.not_eq_true, btw_iff]; exact c1
      have e3 : (¬ (0 ≤ jA r i ∧ jA r i < jB r i ∧ jB r i < (l.length : Int))) ↔ True := by simp; omega
      unfold joinBad
      simp only [e3]
      unfold jB at e1
      simp [n_spec_l15Good_L10, c_spec_l15Good_L10, h1, hwl, l1In_eq, e1]
  · simp [n_spec_l15Good_L10, c_spec_l15Good_L10]

theorem iL8_eq (l r : List D) (hl : l.length ≤ 1048576) (hr : r.length ≤ 1048576) : impl_IsValidSherds_L8 l r r r.length 0 = some (match firstN (joinBad l.length r) r.length with | some _ => .inl (l, r, false) | none => .inr (l, r)) := by
  refine scan_loop (N := fun m i => n_impl_IsValidSherds_L8 m l r r r.length i) _ (fun _ => .inl (l, r, false)) (fun m i hi => ?_) (fun m => ?_)
  · have hw : IntKind.i64.wrap ((i : Int) + 1) = (i : Int) + 1 := wrap_id (by omega) (by omega)
    have h1 : (i : Int) < r.length := by omega
    unfold joinBad
    by_cases c : 0 ≤ jA r i ∧ jA r i < jB r i ∧ jB r i < (l.length : Int)
    · have e3 : (¬ (0 ≤ jA r i ∧ jA r i < jB r i ∧ jB r i < (l.length : Int))) ↔ False := by simp; omega
      have f1 : ¬ jA r i < 0 := by omega
      have f2 : ¬ (l.length : Int) ≤ jB r i := by omega
      have f3 : ¬ jB r i ≤ jA r i := by omega
      by_cases c3 : 0 < i
      · have hwp : IntKind.i64.wrap ((i : Int) - 1) = ((i - 1 : Nat) : Int) := pred_wrap (by omega) c3
        have h3 : ((i - 1 : Nat) : Int) < r.length := by omega
        have h4 : (0 : Int) < i := by omega
        simp only [jA, jB] at f1 f2 f3
        simp only [n_impl_IsValidSherds_L8, c_impl_IsValidSherds_L8, h1, hw, hwp, h3, h4, f1, f2, f3, compare_eq, or_eq, decide_true, decide_false, cond_true, cond_false, Int.natCast_nonneg, and_self, if_true, Int.toNat_natCast, List.getD_eq_getElem?_getD, Option.bind_some]
        simp only [e3, c3]
        unfold jA jB
        generalize ((r[i - 1]?.getD (D.int 0)).fld 0).toInt = pa
        generalize ((r[i - 1]?.getD (D.int 0)).fld 1).toInt = pb
        generalize ((r[i]?.getD (D.int 0)).fld 0).toInt = xa
        generalize ((r[i]?.getD (D.int 0)).fld 1).toInt = xb
        have hc : decide (0 ≤ (if cmpV pa xa = 0 then cmpV pb xb else cmpV pa xa)) = decide (xa < pa ∨ pa = xa ∧ xb ≤ pb) := by
          rw [decide_eq_decide]
          unfold cmpV
          by_cases d1 : pa < xa
          · simp [d1] <;> omega
          · by_cases d2 : xa < pa
            · simp [d1, d2]
            · by_cases d3 : pb < xb
              · simp [d1, d2, d3] <;> omega
              · by_cases d4 : xb < pb
                · simp [d1, d2, d3, d4] <;> omega
                · simp [d1, d2, d3, d4] <;> omega
        rw [hc]
        cases decide (xa < pa ∨ pa = xa ∧ xb ≤ pb) <;> simp
      · have h4 : ¬ (0 : Int) < i := by omega
        simp only [jA, jB] at f1 f2 f3
        simp only [n_impl_IsValidSherds_L8, c_impl_IsValidSherds_L8, h1, hw, h4, f1, f2, f3, decide_true, decide_false, cond_true, cond_false, Int.natCast_nonneg, and_self, if_true, Int.toNat_natCast, List.getD_eq_getElem?_getD, Option.bind_some]
        simp only [e3, c3]
        simp
    · have e3 : (¬ (0 ≤ jA r i ∧ jA r i < jB r i ∧ jB r i < (l.length : Int))) ↔ True := by simp only [c]; simp
      simp only [e3]
      by_cases f1 : jA r i < 0
      · unfold jA at f1
        simp [n_impl_IsValidSherds_L8, c_impl_IsValidSherds_L8, h1, f1]
      · by_cases f2 : (l.length : Int) ≤ jB r i
        · unfold jA at f1; unfold jB at f2
          simp [n_impl_IsValidSherds_L8, c_impl_IsValidSherds_L8, h1, f1, f2]
        · have f3 : jB r i ≤ jA r i := by omega
          unfold jA at f1; unfold jB at f2; unfold jA jB at f3
          simp [n_impl_IsValidSherds_L8, c_impl_IsValidSherds_L8, h1, f1, f2, f3]
  · simp [n_impl_IsValidSherds_L8, c_impl_IsValidSherds_L8]
theorem sherds_good (l r : List D) (hl : l.length ≤ 1048576) (hr : r.length ≤ 1048576) : ∃ b, spec_l15Good l r = some b ∧ impl_IsValidSherds l r = some b ∧ (b = true → l.length ≤ 12 ∧ r.length ≤ 20 ∧ ∀ i, i < r.length → joinBad l.length r i = false) := by
  simp only [spec_l15Good, c_spec_l15Good, impl_IsValidSherds, c_impl_IsValidSherds, sL4_eq l r hl, iL2_eq l r hl, Option.bind_some]
  by_cases c1 : (12 : Int) < l.length
  · refine ⟨false, by simp [c1], ?_, by simp⟩
    cases firstN (fun i => !sherdB (l[i]?.getD (.int 0))) l.length with
    | some _ => rfl
    | none =>
      simp only [Sum.elim_inr, iL8_eq l r hl hr, Option.bind_some]
      cases firstN (joinBad l.length r) r.length with
      | some _ => rfl
      | none => have : ¬ (l.length : Int) ≤ 12 := by omega
                simp [this]
  · by_cases c2 : (20 : Int) < r.length
    · refine ⟨false, by simp [c1, c2], ?_, by simp⟩
      cases firstN (fun i => !sherdB (l[i]?.getD (.int 0))) l.length with
      | some _ => rfl
      | none =>
        simp only [Sum.elim_inr, iL8_eq l r hl hr, Option.bind_some]
        cases firstN (joinBad l.length r) r.length with
        | some _ => rfl
        | none => have : ¬ (r.length : Int) ≤ 20 := by omega
                  simp [this]
    · have c1' : (l.length : Int) ≤ 12 := by omega
      have c2' : (r.length : Int) ≤ 20 := by omega
      simp only [c1, c2, decide_false, cond_false]
      cases firstN (fun i => !sherdB (l[i]?.getD (.int 0))) l.length with
      | some _ => exact ⟨false, rfl, rfl, by simp⟩
      | none =>
        simp only [Sum.elim_inr, sL10_eq l r hl hr, iL8_eq l r hl hr, Option.bind_some]
        cases hf : firstN (joinBad l.length r) r.length with
        | some _ => exact ⟨false, rfl, rfl, by simp⟩
        | none => exact ⟨true, rfl, by simp [c1', c2'], fun _ => ⟨by omega, by omega, firstN_none hf⟩⟩

/-- what a loop that numbers the cells leaves -/
def markd (cell : Int → D) (c : Int) (n : Nat) : List D := (List.range n).map (fun (i : Nat) => cell (1 + c * (i : Int)))

theorem markd_len {cell : Int → D} {c : Int} {n : Nat} : (markd cell c n).length = n := by simp [markd]
theorem markd_get {cell : Int → D} {c : Int} {n i : Nat} (h : i < n) : (markd cell c n)[i]?.getD (.int 0) = cell (1 + c * (i : Int)) := by
  simp [markd, h]

theorem mark_loop {N : Nat → Int → Int → List D → Option (Int × List D)} {n : Nat} {c : Int} {cell : Int → D}
    (hs : ∀ m (i : Nat) acc, i < n → acc.length = n → N (m + 1) (1 + c * (i : Int)) (i : Int) acc = N m (1 + c * ((i + 1 : Nat) : Int)) ((i + 1 : Nat) : Int) (acc.set i (cell (1 + c * (i : Int)))))
    (he : ∀ m acc, acc.length = n → N (m + 1) (1 + c * (n : Int)) (n : Int) acc = some (1 + c * (n : Int), acc)) {l : List D} (hl : l.length = n) :
    ev (fun m => N m 1 0 l) = some (1 + c * (n : Int), markd cell c n) := by
  have key : ∀ k, ∀ m (i : Nat) acc, i + k = n → k < m → acc.length = n → acc.take i = (markd cell c n).take i → N m (1 + c * (i : Int)) (i : Int) acc = some (1 + c * (n : Int), markd cell c n) := by
    intro k
    induction k with
    | zero =>
      intro m i acc h1 h2 h3 h4
      obtain ⟨m, rfl⟩ : ∃ m', m = m' + 1 := ⟨m - 1, by omega⟩
      have hi : i = n := by omega
      subst hi
      rw [he m acc h3]
      rw [List.take_of_length_le (by omega), List.take_of_length_le (by rw [markd_len]; exact Nat.le_refl _)] at h4
      rw [h4]
    | succ k ih =>
      intro m i acc h1 h2 h3 h4
      obtain ⟨m, rfl⟩ : ∃ m', m = m' + 1 := ⟨m - 1, by omega⟩
      rw [hs m i acc (by omega) h3]
      refine ih m (i + 1) _ (by omega) (by omega) (by simpa using h3) ?_
      have hi : i < (markd cell c n).length := by rw [markd_len]; omega
      rw [List.take_succ_eq_append_getElem (by simp; omega), List.take_succ_eq_append_getElem hi]
      rw [List.take_set_of_le (by omega), h4]
      simp [markd]
  have := ev_eq (f := fun m => N m 1 0 l) (n + 1) (fun m hm => by
    have := key n m 0 l (by omega) (by omega) hl (by simp)
    simpa using this)
  exact this

theorem held_loop {X : Type} {N : Nat → Int → Int → Option X} {n : Nat} {c : Int} {x : X}
    (hs : ∀ m (i : Nat), i < n → N (m + 1) (1 + c * (i : Int)) (i : Int) = N m (1 + c * ((i + 1 : Nat) : Int)) ((i + 1 : Nat) : Int))
    (he : ∀ m, N (m + 1) (1 + c * (n : Int)) (n : Int) = some x) : ev (fun m => N m 1 0) = some x := by
  have key : ∀ k, ∀ m (i : Nat), i + k = n → k < m → N m (1 + c * (i : Int)) (i : Int) = some x := by
    intro k
    induction k with
    | zero =>
      intro m i h1 h2
      obtain ⟨m, rfl⟩ : ∃ m', m = m' + 1 := ⟨m - 1, by omega⟩
      have hi : i = n := by omega
      subst hi
      exact he m
    | succ k ih =>
      intro m i h1 h2
      obtain ⟨m, rfl⟩ : ∃ m', m = m' + 1 := ⟨m - 1, by omega⟩
      rw [hs m i (by omega)]
      exact ih m (i + 1) (by omega) (by omega)
  exact ev_eq (f := fun m => N m 1 0) (n + 1) (fun m hm => by
    have := key n m 0 (by omega) (by omega)
    simpa using this)

abbrev cellSh (k : Int) : D := .node [.int k, .int (k + 1), .int (k + 2), .int (k + 3)]
theorem markSherdS_ok (l : List D) (hl : l.length ≤ 1048576) : ∃ k l', laws_markSherdS l 1 = some (k, l') ∧ (0 ≤ k ∧ k ≤ 4611686018427) := by
  have key : laws_markSherdS_L2 1 0 l = some (1 + 4 * (l.length : Int), markd cellSh 4 l.length) := by
    refine mark_loop (N := n_laws_markSherdS_L2) (fun m i acc hi hacc => ?_) (fun m acc hacc => ?_) rfl
    · have hw : IntKind.i64.wrap ((i : Int) + 1) = (i : Int) + 1 := wrap_id (by omega) (by omega)
      have w1 : IntKind.i64.wrap (1 + 4 * (i : Int) + 1) = 1 + 4 * (i : Int) + 1 := wrap_id (by omega) (by omega)
      have w2 : IntKind.i64.wrap (1 + 4 * (i : Int) + 1 + 1) = 1 + 4 * (i : Int) + 2 := by rw [wrap_id (by omega) (by omega)]; omega
      have w3 : IntKind.i64.wrap (1 + 4 * (i : Int) + 2 + 1) = 1 + 4 * (i : Int) + 3 := by rw [wrap_id (by omega) (by omega)]; omega
      have w4 : IntKind.i64.wrap (1 + 4 * (i : Int) + 3 + 1) = 1 + 4 * ((i : Int) + 1) := by rw [wrap_id (by omega) (by omega)]; omega
      have h2 : (i : Int) < acc.length := by omega
      have h3 : i + 1 ≤ acc.length := by omega
      have h4 : i < acc.length := by omega
      simp [n_laws_markSherdS_L2, c_laws_markSherdS_L2, h2, h3, h4, hw, w1, w2, w3, w4, fld_node, toInt_int]
    · have h1 : ¬ (l.length : Int) < acc.length := by omega
      simp [n_laws_markSherdS_L2, c_laws_markSherdS_L2, h1]
  exact ⟨1 + 4 * (l.length : Int), markd cellSh 4 l.length, by simp only [laws_markSherdS, c_laws_markSherdS, key, Option.bind_some], by omega, by omega⟩

theorem markJoinS_ok (l : List D) (k0 : Int) (hk : 0 ≤ k0 ∧ k0 ≤ 4611686018427) (hl : l.length ≤ 1048576) : ∃ k l', laws_markJoinS l k0 = some (k, l') ∧ (0 ≤ k ∧ k ≤ 4611686018427387) := by
  obtain ⟨y, h1, h2⟩ := loop_post (N := fun m (s : Nat × List D) => n_laws_markJoinS_L2 m (k0 + 2 * (s.1 : Int)) (s.1 : Int) s.2) (fun s => s.1 ≤ l.length ∧ s.2.length = l.length) (fun s => l.length - s.1) (fun s y => y.1 = k0 + 2 * (l.length : Int)) (by
    rintro ⟨i, acc⟩ ⟨hi, hacc⟩
    simp only at hi hacc ⊢
    by_cases hlt : i < l.length
    · have hw : IntKind.i64.wrap ((i : Int) + 1) = ((i + 1 : Nat) : Int) := succ_wrap (by omega)
      have w1 : IntKind.i64.wrap (k0 + 2 * (i : Int) + 1) = k0 + 2 * (i : Int) + 1 := wrap_id (by omega) (by omega)
      have w2 : IntKind.i64.wrap (k0 + 2 * (i : Int) + 1 + 1) = k0 + 2 * ((i + 1 : Nat) : Int) := by rw [wrap_id (by omega) (by omega)]; omega
      have h2 : (i : Int) < acc.length := by omega
      have h3 : i + 1 ≤ acc.length := by omega
      exact .inr ⟨(i + 1, (acc.set i (.node [.int (k0 + 2 * (i : Int)), .int ((acc[i]?.getD (.int 0)).fld 1).toInt])).set i (.node [.int (((acc.set i (.node [.int (k0 + 2 * (i : Int)), .int ((acc[i]?.getD (.int 0)).fld 1).toInt]))[i]?.getD (.int 0)).fld 0).toInt, .int (k0 + 2 * (i : Int) + 1)])), ⟨by simp; omega, by simpa using hacc⟩, by simp; omega, fun y hy => hy, fun m => by
        simp only [n_laws_markJoinS_L2, c_laws_markJoinS_L2, h2, h3, decide_true, cond_true, Int.natCast_nonneg, and_self, if_true, Int.toNat_natCast, List.getD_eq_getElem?_getD, List.length_set, hw, w1, w2]
        cases n_laws_markJoinS_L2 m (k0 + 2 * ((i + 1 : Nat) : Int)) ((i + 1 : Nat) : Int) ((acc.set i (.node [.int (k0 + 2 * (i : Int)), .int ((acc[i]?.getD (.int 0)).fld 1).toInt])).set i (.node [.int (((acc.set i (.node [.int (k0 + 2 * (i : Int)), .int ((acc[i]?.getD (.int 0)).fld 1).toInt]))[i]?.getD (.int 0)).fld 0).toInt, .int (k0 + 2 * (i : Int) + 1)])) <;> rfl⟩
    · have h1 : ¬ (i : Int) < acc.length := by omega
      have hi' : i = l.length := by omega
      exact .inl ⟨(k0 + 2 * (i : Int), acc), by rw [hi'], fun m => by simp [n_laws_markJoinS_L2, c_laws_markJoinS_L2, h1]⟩) (0, l) ⟨by simp, rfl⟩
  obtain ⟨y1, y2⟩ := y
  simp only at h2
  subst h2
  have h1' : laws_markJoinS_L2 k0 0 l = some (k0 + 2 * (l.length : Int), y2) := by show ev _ = _; simpa using h1
  exact ⟨k0 + 2 * (l.length : Int), y2, by simp only [laws_markJoinS, c_laws_markJoinS, h1', Option.bind_some], by omega, by omega⟩

theorem eqIntS_self (l : List D) (hl : l.length ≤ 1048576) : laws_eqIntS l l = some true := by
  have key : laws_eqIntS_L4 l l 0 = some (.inr ()) := by
    refine all_loop (N := fun n i => n_laws_eqIntS_L4 n l l i) (len := l.length) (fun m i hi => ?_) (fun m => ?_)
    · have hw : IntKind.i64.wrap ((i : Int) + 1) = (i : Int) + 1 := wrap_id (by omega) (by omega)
      have h1 : (i : Int) < l.length := by omega
      simp [n_laws_eqIntS_L4, c_laws_eqIntS_L4, h1, hw]
    · simp [n_laws_eqIntS_L4, c_laws_eqIntS_L4]
  simp [laws_eqIntS, c_laws_eqIntS, key]


/-- the same from another start -/
def markd2 (cell : Int → D) (k0 : Int) (n : Nat) : List D := (List.range n).map (fun (i : Nat) => cell (k0 + (i : Int)))
theorem markd2_len {cell : Int → D} {k0 : Int} {n : Nat} : (markd2 cell k0 n).length = n := by simp [markd2]
theorem markd2_get {cell : Int → D} {k0 : Int} {n i : Nat} (h : i < n) : (markd2 cell k0 n)[i]?.getD (.int 0) = cell (k0 + (i : Int)) := by
  simp [markd2, h]

theorem mark_loop2 {N : Nat → Int → Int → List D → Option (Int × List D)} {n : Nat} {k0 : Int} {cell : Int → D}
    (hs : ∀ m (i : Nat) acc, i < n → acc.length = n → N (m + 1) (k0 + (i : Int)) (i : Int) acc = N m (k0 + ((i + 1 : Nat) : Int)) ((i + 1 : Nat) : Int) (acc.set i (cell (k0 + (i : Int)))))
    (he : ∀ m acc, acc.length = n → N (m + 1) (k0 + (n : Int)) (n : Int) acc = some (k0 + (n : Int), acc)) {l : List D} (hl : l.length = n) :
    ev (fun m => N m k0 0 l) = some (k0 + (n : Int), markd2 cell k0 n) := by
  have key : ∀ k, ∀ m (i : Nat) acc, i + k = n → k < m → acc.length = n → acc.take i = (markd2 cell k0 n).take i → N m (k0 + (i : Int)) (i : Int) acc = some (k0 + (n : Int), markd2 cell k0 n) := by
    intro k
    induction k with
    | zero =>
      intro m i acc h1 h2 h3 h4
      obtain ⟨m, rfl⟩ : ∃ m', m = m' + 1 := ⟨m - 1, by omega⟩
      have hi : i = n := by omega
      subst hi
      rw [he m acc h3]
      rw [List.take_of_length_le (by omega), List.take_of_length_le (by rw [markd2_len]; exact Nat.le_refl _)] at h4
      rw [h4]
    | succ k ih =>
      intro m i acc h1 h2 h3 h4
      obtain ⟨m, rfl⟩ : ∃ m', m = m' + 1 := ⟨m - 1, by omega⟩
      rw [hs m i acc (by omega) h3]
      refine ih m (i + 1) _ (by omega) (by omega) (by simpa using h3) ?_
      have hi : i < (markd2 cell k0 n).length := by rw [markd2_len]; omega
      rw [List.take_succ_eq_append_getElem (by simp; omega), List.take_succ_eq_append_getElem hi]
      rw [List.take_set_of_le (by omega), h4]
      simp [markd2]
  have := ev_eq (f := fun m => N m k0 0 l) (n + 1) (fun m hm => by
    have := key n m 0 l (by omega) (by omega) hl (by simp)
    simpa using this)
  exact this

theorem held_loop2 {X : Type} {N : Nat → Int → Int → Option X} {n : Nat} {k0 : Int} {x : X}
    (hs : ∀ m (i : Nat), i < n → N (m + 1) (k0 + (i : Int)) (i : Int) = N m (k0 + ((i + 1 : Nat) : Int)) ((i + 1 : Nat) : Int))
    (he : ∀ m, N (m + 1) (k0 + (n : Int)) (n : Int) = some x) : ev (fun m => N m k0 0) = some x := by
  have key : ∀ k, ∀ m (i : Nat), i + k = n → k < m → N m (k0 + (i : Int)) (i : Int) = some x := by
    intro k
    induction k with
    | zero =>
      intro m i h1 h2
      obtain ⟨m, rfl⟩ : ∃ m', m = m' + 1 := ⟨m - 1, by omega⟩
      have hi : i = n := by omega
      subst hi
      exact he m
    | succ k ih =>
      intro m i h1 h2
      obtain ⟨m, rfl⟩ : ∃ m', m = m' + 1 := ⟨m - 1, by omega⟩
      rw [hs m i (by omega)]
      exact ih m (i + 1) (by omega) (by omega)
  exact ev_eq (f := fun m => N m k0 0) (n + 1) (fun m hm => by
    have := key n m 0 (by omega) (by omega)
    simpa using this)


def intsFrom (k : Int) (n : Nat) : List D := (List.range n).map (fun (i : Nat) => .int (k + (i : Int)))
theorem intsFrom_len {k : Int} {n : Nat} : (intsFrom k n).length = n := by simp [intsFrom]
theorem intsFrom_get {k : Int} {n i : Nat} (h : i < n) : (intsFrom k n)[i]?.getD (.int 0) = .int (k + (i : Int)) := by simp [intsFrom, h]

theorem markIntS_k (l : List D) (k0 : Int) (hk : 0 ≤ k0 ∧ k0 ≤ 4611686018427387904) (hl : l.length ≤ 1048576) : laws_markIntS l k0 = some (k0 + (l.length : Int), intsFrom k0 l.length) := by
  have key : laws_markIntS_L2 k0 0 l = some (k0 + (l.length : Int), markd2 (fun k => .int k) k0 l.length) := by
    refine mark_loop2 (N := n_laws_markIntS_L2) (fun m i acc hi hacc => ?_) (fun m acc hacc => ?_) rfl
    · have hw : IntKind.i64.wrap ((i : Int) + 1) = (i : Int) + 1 := wrap_id (by omega) (by omega)
      have w1 : IntKind.i64.wrap (k0 + (i : Int) + 1) = k0 + ((i : Int) + 1) := by rw [wrap_id (by omega) (by omega)]; omega
      have h2 : (i : Int) < acc.length := by omega
      have h3 : i + 1 ≤ acc.length := by omega
      simp [n_laws_markIntS_L2, c_laws_markIntS_L2, h2, h3, hw, w1]
    · have h1 : ¬ (l.length : Int) < acc.length := by omega
      simp [n_laws_markIntS_L2, c_laws_markIntS_L2, h1]
  simp only [laws_markIntS, c_laws_markIntS, key, Option.bind_some]
  rfl

theorem heldIntS_k (n : Nat) (k0 : Int) (hk : 0 ≤ k0 ∧ k0 ≤ 4611686018427387904) (hn : n ≤ 1048576) : laws_heldIntS (intsFrom k0 n) k0 = some (k0 + (n : Int)) := by
  have key : laws_heldIntS_L2 (intsFrom k0 n) k0 0 = some (.inr (k0 + (n : Int))) := by
    refine held_loop2 (n := n) (N := fun m k i => n_laws_heldIntS_L2 m (intsFrom k0 n) k i) (fun m i hi => ?_) (fun m => ?_)
    · have hw : IntKind.i64.wrap ((i : Int) + 1) = (i : Int) + 1 := wrap_id (by omega) (by omega)
      have w1 : IntKind.i64.wrap (k0 + (i : Int) + 1) = k0 + ((i : Int) + 1) := by rw [wrap_id (by omega) (by omega)]; omega
      have h2 : (i : Int) < n := by omega
      simp [n_laws_heldIntS_L2, c_laws_heldIntS_L2, intsFrom_len, h2, hw, w1, intsFrom_get hi, toInt_int]
    · simp [n_laws_heldIntS_L2, c_laws_heldIntS_L2, intsFrom_len]
  simp only [laws_heldIntS, c_laws_heldIntS, key, Option.bind_some, Sum.elim_inr]


def stp (s : Nat → Int) (e : Nat × Nat) : Nat → Int := fun v => if v = e.1 ∨ v = e.2 then min (s e.1) (s e.2) else s v
def passL (E : List (Nat × Nat)) (s : Nat → Int) : Nat → Int := E.foldl stp s
def iterL (E : List (Nat × Nat)) : Nat → (Nat → Int) → Nat → Int
  | 0, s => s
  | k + 1, s => iterL E k (passL E s)
def allE (E : List (Nat × Nat)) (s : Nat → Int) : Prop := ∀ e ∈ E, s e.1 = s e.2
def doneE (E : List (Nat × Nat)) (s : Nat → Int) (e : Nat × Nat) : Prop := s e.1 = s e.2 ∧ ∀ f ∈ E, min (s f.1) (s f.2) < s e.1 → s f.1 = s f.2

theorem stp_id {s : Nat → Int} {e : Nat × Nat} (h : s e.1 = s e.2) : stp s e = s := by
  funext v
  unfold stp
  by_cases hv : v = e.1 ∨ v = e.2
  · rw [if_pos hv]
    rcases hv with rfl | rfl <;> omega
  · rw [if_neg hv]

theorem stp_done {E : List (Nat × Nat)} {s : Nat → Int} {e f : Nat × Nat} (hf : f ∈ E) (h : doneE E s e) : doneE E (stp s f) e ∧ stp s f e.1 = s e.1 := by
  by_cases hq : s f.1 = s f.2
  · rw [stp_id hq]; exact ⟨h, rfl⟩
  · obtain ⟨h1, h2⟩ := h
    have hm : s e.1 ≤ min (s f.1) (s f.2) := by
      rcases Int.lt_or_le (min (s f.1) (s f.2)) (s e.1) with h3 | h3
      · exact absurd (h2 f hf h3) hq
      · exact h3
    have hin : ∀ v, (v = f.1 ∨ v = f.2) → stp s f v = min (s f.1) (s f.2) := fun v hv => by unfold stp; rw [if_pos hv]
    have hout : ∀ v, ¬ (v = f.1 ∨ v = f.2) → stp s f v = s v := fun v hv => by unfold stp; rw [if_neg hv]
    have keep : ∀ v, s v = s e.1 → stp s f v = s e.1 := by
      intro v hv
      by_cases hi : v = f.1 ∨ v = f.2
      · rw [hin v hi]
        rcases hi with rfl | rfl <;> omega
      · rw [hout v hi, hv]
    have k1 := keep e.1 rfl
    have k2 := keep e.2 h1.symm
    refine ⟨⟨by rw [k1, k2], fun g hg hlt => ?_⟩, k1⟩
    rw [k1] at hlt
    have low : ∀ v, stp s f v < s e.1 → stp s f v = s v := by
      intro v hv
      by_cases hi : v = f.1 ∨ v = f.2
      · rw [hin v hi] at hv; omega
      · exact hout v hi
    have low' : ∀ v, s v < s e.1 → stp s f v = s v := by
      intro v hv
      by_cases hi : v = f.1 ∨ v = f.2
      · exfalso
        rcases hi with rfl | rfl <;> omega
      · exact hout v hi
    have hl : min (s g.1) (s g.2) < s e.1 := by
      rcases Int.lt_or_le (stp s f g.1) (s e.1) with h3 | h3
      · have := low _ h3; omega
      · have h4 : stp s f g.2 < s e.1 := by omega
        have := low _ h4; omega
    have he := h2 g hg hl
    rw [low' g.1 (by omega), low' g.2 (by omega)]
    exact he

theorem fold_done {E : List (Nat × Nat)} {e : Nat × Nat} : ∀ {l : List (Nat × Nat)} {s : Nat → Int}, (∀ f ∈ l, f ∈ E) → doneE E s e → doneE E (l.foldl stp s) e ∧ l.foldl stp s e.1 = s e.1
  | [], s, _, h => ⟨h, rfl⟩
  | f :: l, s, hl, h => by
    obtain ⟨h1, h2⟩ := stp_done (hl f (by simp)) h
    obtain ⟨h3, h4⟩ := fold_done (l := l) (fun g hg => hl g (by simp [hg])) h1
    exact ⟨h3, h4.trans h2⟩

theorem exists_least {α : Type} (m : α → Int) : ∀ (l : List α) (P : α → Prop), (∃ a ∈ l, P a) → ∃ a ∈ l, P a ∧ ∀ b ∈ l, P b → m a ≤ m b
  | [], P, ⟨a, h, _⟩ => by cases h
  | x :: l, P, h => by
    by_cases hl : ∃ a ∈ l, P a
    · obtain ⟨a, h1, h2, h3⟩ := exists_least m l P hl
      by_cases hx : P x ∧ m x < m a
      · refine ⟨x, by simp, hx.1, fun b hb hP => ?_⟩
        rcases List.mem_cons.1 hb with rfl | hb
        · omega
        · have := h3 b hb hP; omega
      · refine ⟨a, by simp [h1], h2, fun b hb hP => ?_⟩
        rcases List.mem_cons.1 hb with rfl | hb
        · rcases Int.lt_or_le (m b) (m a) with h4 | h4
          · exact absurd ⟨hP, h4⟩ hx
          · exact h4
        · exact h3 b hb hP
    · obtain ⟨a, h1, h2⟩ := h
      rcases List.mem_cons.1 h1 with rfl | h1
      · refine ⟨a, by simp, h2, fun b hb hP => ?_⟩
        rcases List.mem_cons.1 hb with rfl | hb
        · exact Int.le_refl _
        · exact absurd ⟨b, hb, hP⟩ hl
      · exact absurd ⟨a, h1, h2⟩ hl

theorem pass_more {E : List (Nat × Nat)} {s : Nat → Int} (h : ¬ allE E s) : ∃ e ∈ E, ¬ doneE E s e ∧ doneE E (passL E s) e := by
  have h0 : ∃ e ∈ E, s e.1 ≠ s e.2 := Classical.byContradiction fun hn => h fun e he => Classical.byContradiction fun hne => hn ⟨e, he, hne⟩
  obtain ⟨e, he, hne, hmin⟩ := exists_least (fun e => min (s e.1) (s e.2)) E (fun e => s e.1 ≠ s e.2) h0
  refine ⟨e, he, fun hd => hne hd.1, ?_⟩
  obtain ⟨u, w, hu, hw⟩ : ∃ u w, s u = min (s e.1) (s e.2) ∧ ((u = e.1 ∧ w = e.2) ∨ (u = e.2 ∧ w = e.1)) := by
    rcases Int.le_total (s e.1) (s e.2) with hle | hle
    · exact ⟨e.1, e.2, by omega, .inl ⟨rfl, rfl⟩⟩
    · exact ⟨e.2, e.1, by omega, .inr ⟨rfl, rfl⟩⟩
  have d0 : doneE E s (u, u) := ⟨rfl, fun f hf hlt => Classical.byContradiction fun hq => by
    have h1 := hmin f hf hq
    simp only at hlt h1
    omega⟩
  obtain ⟨l1, l2, hl⟩ := List.append_of_mem he
  have hsub1 : ∀ f ∈ l1, f ∈ E := fun f hf => by rw [hl]; simp [hf]
  have hsub2 : ∀ f ∈ l2, f ∈ E := fun f hf => by rw [hl]; simp [hf]
  obtain ⟨d1, v1⟩ := fold_done (e := (u, u)) hsub1 d0
  obtain ⟨d2, v2⟩ := stp_done he d1
  simp only at v1 v2
  have hp : passL E s = l2.foldl stp (stp (l1.foldl stp s) e) := by
    unfold passL
    rw [hl, List.foldl_append, List.foldl_cons]
  rw [hp]
  have hwv : stp (l1.foldl stp s) e w = l1.foldl stp s u := by
    have hin : stp (l1.foldl stp s) e w = min (l1.foldl stp s e.1) (l1.foldl stp s e.2) := by
      unfold stp; rw [if_pos (by rcases hw with ⟨_, rfl⟩ | ⟨_, rfl⟩ <;> simp)]
    have hnl : ¬ min (l1.foldl stp s e.1) (l1.foldl stp s e.2) < l1.foldl stp s u := by
      intro hlt
      have hq := d1.2 e he hlt
      rcases hw with ⟨rfl, _⟩ | ⟨rfl, _⟩ <;> omega
    rw [hin]
    rcases hw with ⟨rfl, _⟩ | ⟨rfl, _⟩ <;> omega
  have d3 : doneE E (stp (l1.foldl stp s) e) e := by
    have h2 := d2.2
    simp only at h2
    rcases hw with ⟨rfl, rfl⟩ | ⟨rfl, rfl⟩
    · exact ⟨by rw [v2, hwv], h2⟩
    · refine ⟨by rw [v2, hwv], ?_⟩
      rw [hwv, ← v2]; exact h2
  exact (fold_done hsub2 d3).1

theorem countP_lt {α : Type} {p q : α → Bool} : ∀ {l : List α}, (∀ a ∈ l, p a = true → q a = true) → (∃ a ∈ l, p a = false ∧ q a = true) → l.countP p < l.countP q
  | [], _, ⟨a, h, _⟩ => by cases h
  | x :: l, h, ⟨a, h1, h2, h3⟩ => by
    have hle : l.countP p ≤ l.countP q := List.countP_mono_left (fun a ha hp => h a (by simp [ha]) hp)
    rw [List.countP_cons, List.countP_cons]
    rcases List.mem_cons.1 h1 with rfl | h1
    · simp [h2, h3]; omega
    · have := countP_lt (l := l) (fun a ha hp => h a (by simp [ha]) hp) ⟨a, h1, h2, h3⟩
      have hx := h x (by simp)
      cases hpx : p x
      · cases hqx : q x <;> simp <;> omega
      · simp [hx hpx]; omega

open Classical in
noncomputable def cntE (E : List (Nat × Nat)) (s : Nat → Int) : Nat := E.countP (fun e => decide (doneE E s e))

theorem pass_id {E : List (Nat × Nat)} {s : Nat → Int} (h : allE E s) : passL E s = s := by
  have : ∀ l : List (Nat × Nat), (∀ e ∈ l, e ∈ E) → l.foldl stp s = s := by
    intro l
    induction l with
    | nil => intro _; rfl
    | cons a l ih =>
      intro hl
      rw [List.foldl_cons, stp_id (h a (hl a (by simp)))]
      exact ih (fun e he => hl e (by simp [he]))
  exact this E (fun e he => he)

theorem iter_id {E : List (Nat × Nat)} {s : Nat → Int} (h : allE E s) : ∀ k, iterL E k s = s
  | 0 => rfl
  | k + 1 => by rw [iterL, pass_id h]; exact iter_id h k

theorem cnt_lt {E : List (Nat × Nat)} {s : Nat → Int} (h : ¬ allE E s) : cntE E s < cntE E (passL E s) := by
  unfold cntE
  obtain ⟨e, he, h1, h2⟩ := pass_more h
  exact countP_lt (fun f hf hp => by
    simp only [decide_eq_true_eq] at hp ⊢
    exact (fold_done (fun g hg => hg) hp).1) ⟨e, he, by simp [h1], by simp [h2]⟩

theorem iter_all {E : List (Nat × Nat)} : ∀ (k : Nat) (s : Nat → Int), E.length ≤ cntE E s + k → allE E (iterL E k s)
  | 0, s, h => by
    intro e he
    have hc : cntE E s = E.length := Nat.le_antisymm List.countP_le_length (by omega)
    unfold cntE at hc
    rw [List.countP_eq_length] at hc
    have := hc e he
    simp only [decide_eq_true_eq] at this
    exact this.1
  | k + 1, s, h => by
    rw [iterL]
    by_cases ha : allE E s
    · rw [pass_id ha]
      rw [iter_id ha]
      exact ha
    · exact iter_all k _ (by have := cnt_lt ha; omega)

theorem iter_full (E : List (Nat × Nat)) (s : Nat → Int) : allE E (iterL E E.length s) := iter_all _ _ (by omega)

def lst (n : Nat) (s : Nat → Int) : List D := (List.range n).map (fun v => .int (s v))
theorem lst_len {n : Nat} {s : Nat → Int} : (lst n s).length = n := by simp [lst]
theorem lst_get {n v : Nat} {s : Nat → Int} (h : v < n) : (lst n s)[v]?.getD (.int 0) = .int (s v) := by simp [lst, h]
theorem lst_set {n a : Nat} {s : Nat → Int} {x : Int} : (lst n s).set a (.int x) = lst n (fun v => if v = a then x else s v) := by
  apply List.ext_getElem
  · simp [lst]
  · intro i h1 h2
    simp only [lst, List.getElem_set, List.getElem_map, List.getElem_range]
    by_cases h : a = i
    · subst h; simp
    · have h' : ¬ i = a := fun e => h e.symm
      simp [h, h']

def edgeOf (d : D) : Nat × Nat := ((d.fld 0).toInt.toNat, (d.fld 1).toInt.toNat)
def edges (r : List D) : List (Nat × Nat) := r.map edgeOf
def validJ (n : Nat) (r : List D) : Prop := ∀ i, i < r.length → ∃ a b : Nat, ((r[i]?.getD (.int 0)).fld 0).toInt = (a : Int) ∧ ((r[i]?.getD (.int 0)).fld 1).toInt = (b : Int) ∧ a < b ∧ b < n ∧ (edges r)[i]? = some (a, b)

theorem validJ_of {n : Nat} {r : List D} (h : ∀ i, i < r.length → joinBad n r i = false) : validJ n r := by
  intro i hi
  have hb := h i hi
  unfold joinBad at hb
  rw [Bool.or_eq_false_iff] at hb
  have h1 := hb.1
  simp only [decide_eq_false_iff_not, Classical.not_not] at h1
  obtain ⟨h2, h3, h4⟩ := h1
  refine ⟨(jA r i).toNat, (jB r i).toNat, ?_, ?_, by omega, by omega, ?_⟩
  · unfold jA at h2 h3 ⊢; omega
  · unfold jA at h2 h3; unfold jB at h3 ⊢; omega
  · simp only [edges, List.getElem?_map, List.getElem?_eq_getElem hi, Option.map_some, Option.some.injEq]
    simp only [edgeOf, jA, jB, List.getElem?_eq_getElem hi, Option.getD_some]

theorem validJ_take {n : Nat} {r : List D} (h : validJ n r) (k : Nat) : validJ n (r.take k) := by
  intro i hi
  rw [List.length_take] at hi
  obtain ⟨a, b, h1, h2, h3, h4, h5⟩ := h i (by omega)
  have e1 : (r.take k)[i]? = r[i]? := by rw [List.getElem?_take]; simp; omega
  refine ⟨a, b, by rw [e1]; exact h1, by rw [e1]; exact h2, h3, h4, ?_⟩
  simp only [edges, List.getElem?_map, e1] at h5 ⊢
  exact h5

theorem iter_add {E : List (Nat × Nat)} : ∀ (a b : Nat) (s : Nat → Int), iterL E (a + b) s = iterL E b (iterL E a s)
  | 0, b, s => by rw [Nat.zero_add]; rfl
  | a + 1, b, s => by
    rw [show a + 1 + b = (a + b) + 1 by omega]
    simp only [iterL]
    exact iter_add a b _

def finalS (r : List D) : Nat → Int := iterL (edges r) (edges r).length (fun v => (v : Int))

theorem iter_end {E : List (Nat × Nat)} {s : Nat → Int} {k : Nat} (h : allE E (iterL E k s)) : iterL E k s = iterL E E.length s := by
  have h1 := iter_add (E := E) k E.length s
  have h2 := iter_add (E := E) E.length k s
  rw [iter_id h] at h1
  rw [iter_id (iter_full E s)] at h2
  rw [← h1, ← h2, Nat.add_comm]

theorem stp_lst {n a b : Nat} {s : Nat → Int} {x : Int} (hx : x = min (s a) (s b)) : ((lst n s).set a (.int x)).set b (.int x) = lst n (stp s (a, b)) := by
  rw [lst_set, lst_set]
  congr 1
  funext v
  unfold stp
  simp only
  subst hx
  by_cases h1 : v = b
  · simp [h1]
  · by_cases h2 : v = a
    · simp [h1, h2]
    · simp [h1, h2]

theorem take_fold {E : List (Nat × Nat)} {i : Nat} {e : Nat × Nat} (h : E[i]? = some e) (s : Nat → Int) : (E.take (i + 1)).foldl stp s = stp ((E.take i).foldl stp s) e := by
  obtain ⟨hi, he⟩ := List.getElem?_eq_some_iff.1 h
  rw [List.take_succ_eq_append_getElem hi, List.foldl_append, he]
  rfl

theorem edges_len {r : List D} : (edges r).length = r.length := by simp [edges]

theorem least_eq (a b : Int) : spec_l1Least a b = some (min a b) := by
  unfold spec_l1Least c_spec_l1Least
  by_cases h : a < b
  · simp only [h, decide_true, cond_true]; congr 1; omega
  · simp only [h, decide_false, cond_false]; congr 1; omega

theorem sLab10 (n : Nat) (r : List D) (hn : n ≤ 1048576) (hr : r.length ≤ 1048576) (hv : validJ n r) (s0 : Nat → Int) :
    ∃ more, spec_l15Labels_L10 r false 0 (lst n s0) = some (r, more, lst n (passL (edges r) s0)) ∧ (more = false → allE (edges r) s0) ∧ (more = true → ¬ allE (edges r) s0) := by
  obtain ⟨y, h1, h2⟩ := loop_post (N := fun m (s : Bool × Nat × List D) => n_spec_l15Labels_L10 m r s.1 (s.2.1 : Int) s.2.2)
    (fun s => s.2.1 ≤ r.length ∧ s.2.2 = lst n (((edges r).take s.2.1).foldl stp s0) ∧ (s.1 = false → ((edges r).take s.2.1).foldl stp s0 = s0 ∧ ∀ e ∈ (edges r).take s.2.1, s0 e.1 = s0 e.2) ∧ (s.1 = true → ¬ allE (edges r) s0))
    (fun s => r.length - s.2.1) (fun s y => y.1 = r ∧ y.2.2 = lst n (passL (edges r) s0) ∧ (y.2.1 = false → allE (edges r) s0) ∧ (y.2.1 = true → ¬ allE (edges r) s0)) (by
    rintro ⟨more, i, acc⟩ ⟨hi, hacc, hf, ht⟩
    simp only at hi hacc hf ht ⊢
    subst hacc
    by_cases hlt : i < r.length
    · obtain ⟨a, b, ea, eb, hab, hbn, he⟩ := hv i hlt
      have h1 : (i : Int) < r.length := by omega
      have hw : IntKind.i64.wrap ((i : Int) + 1) = ((i + 1 : Nat) : Int) := succ_wrap (by omega)
      have ga : (a : Int) < n := by omega
      have gb : (b : Int) < n := by omega
      have ga' : a + 1 ≤ n := by omega
      have gb' : b + 1 ≤ n := by omega
      generalize hs : ((edges r).take i).foldl stp s0 = s at hf
      have hfold : ((edges r).take (i + 1)).foldl stp s0 = stp s (a, b) := by rw [take_fold he, hs]
      by_cases hq : s a = s b
      · refine .inr ⟨(more, i + 1, lst n (((edges r).take (i + 1)).foldl stp s0)), ⟨by simp; omega, rfl, fun hm => ?_, ht⟩, by simp; omega, fun y hy => hy, fun m => ?_⟩
        · obtain ⟨k1, k2⟩ := hf hm
          refine ⟨by rw [hfold, stp_id (e := (a, b)) hq, k1], fun e hme => ?_⟩
          obtain ⟨hi', he'⟩ := List.getElem?_eq_some_iff.1 he
          rw [List.take_succ_eq_append_getElem hi', he', List.mem_append] at hme
          rcases hme with hme | hme
          · exact k2 e hme
          · simp only [List.mem_singleton] at hme
            subst hme
            rw [← k1]; exact hq
        · simp only [hfold, stp_id (e := (a, b)) hq]
          simp only [n_spec_l15Labels_L10, c_spec_l15Labels_L10, h1, decide_true, cond_true, Int.natCast_nonneg, and_self, if_true, Int.toNat_natCast, List.getD_eq_getElem?_getD, ea, eb, lst_len, ga, gb, ga', gb', lst_get (show a < n by omega), lst_get hbn, toInt_int, hq, Bool.not_true, cond_false, hw]
          cases n_spec_l15Labels_L10 m r more ((i + 1 : Nat) : Int) (lst n s) <;> rfl
      · refine .inr ⟨(true, i + 1, lst n (((edges r).take (i + 1)).foldl stp s0)), ⟨by simp; omega, rfl, fun hm => (by cases hm), fun _ => ?_⟩, by simp; omega, fun y hy => hy, fun m => ?_⟩
        · cases more with
          | true => exact ht rfl
          | false =>
            obtain ⟨k1, k2⟩ := hf rfl
            intro hall
            have := hall (a, b) (List.mem_of_getElem? he)
            rw [← k1] at this
            exact hq this
        · simp only [hfold]
          rw [← stp_lst (n := n) (x := min (s a) (s b)) rfl]
          simp only [n_spec_l15Labels_L10, c_spec_l15Labels_L10, h1, decide_true, cond_true, Int.natCast_nonneg, and_self, if_true, Int.toNat_natCast, List.getD_eq_getElem?_getD, ea, eb, lst_len, ga, gb, ga', gb', lst_get (show a < n by omega), lst_get hbn, toInt_int, hq, decide_false, Bool.not_false, hw, least_eq, Option.bind_some, List.length_set]
          cases n_spec_l15Labels_L10 m r true ((i + 1 : Nat) : Int) (((lst n s).set a (.int (min (s a) (s b)))).set b (.int (min (s a) (s b)))) <;> rfl
    · have hi' : i = r.length := by omega
      subst hi'
      have hall : (edges r).take r.length = edges r := List.take_of_length_le (by rw [edges_len]; exact Nat.le_refl _)
      rw [hall] at hf
      refine .inl ⟨(r, more, lst n (passL (edges r) s0)), ⟨rfl, rfl, fun hm => (hf hm).2, ht⟩, fun m => ?_⟩
      simp [n_spec_l15Labels_L10, c_spec_l15Labels_L10, hall, passL]) (false, 0, lst n s0) ⟨by simp, by simp, fun _ => (by simp), fun h => (by cases h)⟩
  obtain ⟨y1, y2, y3⟩ := y
  simp only at h2
  obtain ⟨rfl, rfl, h3, h4⟩ := h2
  exact ⟨y2, h1, h3, h4⟩

theorem sLab7 (n : Nat) (r : List D) (hn : n ≤ 1048576) (hr : r.length ≤ 1048576) (hv : validJ n r) : spec_l15Labels_L7 r true (lst n (fun v => (v : Int))) = some (lst n (finalS r)) := by
  obtain ⟨y, h1, h2⟩ := loop_post (N := fun m (s : Bool × (Nat → Int)) => n_spec_l15Labels_L7 m r s.1 (lst n s.2))
    (fun s => ∃ k, s.2 = iterL (edges r) k (fun v => (v : Int)) ∧ (s.1 = false → allE (edges r) s.2))
    (fun s => if s.1 = true then 1 + ((edges r).length - cntE (edges r) s.2) else 0) (fun s y => y = lst n (finalS r)) (by
    rintro ⟨more, s⟩ ⟨k, hk, hall⟩
    simp only at hk hall ⊢
    cases more with
    | false =>
      refine .inl ⟨_, rfl, fun m => ?_⟩
      have := iter_end (E := edges r) (s := fun v => (v : Int)) (k := k) (by rw [← hk]; exact hall rfl)
      simp only [n_spec_l15Labels_L7, c_spec_l15Labels_L7, cond_false, finalS, ← this, hk]
    | true =>
      obtain ⟨more', e1, e2, e3⟩ := sLab10 n r hn hr hv s
      refine .inr ⟨(more', passL (edges r) s), ⟨k + 1, ?_, fun hm => ?_⟩, ?_, fun y hy => hy, fun m => ?_⟩
      · simp only
        rw [iter_add, ← hk]; rfl
      · simp only at hm ⊢
        rw [pass_id (e2 hm)]; exact e2 hm
      · cases more' with
        | false => simp; omega
        | true =>
          have h1 := cnt_lt (e3 rfl)
          have h2 : cntE (edges r) (passL (edges r) s) ≤ (edges r).length := by unfold cntE; exact List.countP_le_length
          simp only [if_true]
          omega
      · simp only [n_spec_l15Labels_L7, c_spec_l15Labels_L7, cond_true, e1, Option.bind_some]
        cases n_spec_l15Labels_L7 m r more' (lst n (passL (edges r) s)) <;> rfl) (true, fun v => (v : Int)) ⟨0, rfl, fun h => (by cases h)⟩
  subst h2
  exact h1

theorem lst_succ {i : Nat} {s : Nat → Int} : lst (i + 1) s = lst i s ++ [.int (s i)] := by simp [lst, List.range_succ]

theorem sLab_eq (n : Nat) (r : List D) (hn : n ≤ 1048576) (hr : r.length ≤ 1048576) (hv : validJ n r) : spec_l15Labels (n : Int) r = some (lst n (finalS r)) := by
  have h3 : spec_l15Labels_L3 (n : Int) r 0 [] = some (r, lst n (fun v => (v : Int))) := by
    obtain ⟨y, h1, h2⟩ := loop_post (N := fun m (i : Nat) => n_spec_l15Labels_L3 m (n : Int) r (i : Int) (lst i (fun v => (v : Int)))) (fun i => i ≤ n) (fun i => n - i) (fun s y => y = (r, lst n (fun v => (v : Int)))) (by
      intro i hi
      by_cases hlt : i < n
      · refine .inr ⟨i + 1, by omega, by omega, fun y hy => hy, fun m => ?_⟩
        have h1 : (i : Int) < n := by omega
        have hw : IntKind.i64.wrap ((i : Int) + 1) = ((i + 1 : Nat) : Int) := succ_wrap (by omega)
        have h2 : (lst i (fun v => (v : Int))).length + ([D.int (i : Int)] : List D).length ≤ 4294967296 := by simp [lst_len]; omega
        rw [lst_succ]
        simp only [n_spec_l15Labels_L3, c_spec_l15Labels_L3, h1, decide_true, cond_true, h2, if_true, hw]
        cases n_spec_l15Labels_L3 m (n : Int) r ((i + 1 : Nat) : Int) (lst i (fun v => (v : Int)) ++ [.int (i : Int)]) <;> rfl
      · have : i = n := by omega
        subst this
        exact .inl ⟨_, rfl, fun m => by simp [n_spec_l15Labels_L3, c_spec_l15Labels_L3]⟩) 0 (by omega)
    subst h2
    exact h1
  simp only [spec_l15Labels, c_spec_l15Labels, h3, sLab7 n r hn hr hv, Option.bind_some]


def nD (g : List Nat) : List D := g.map (fun (k : Nat) => D.int (k : Int))
theorem nD_len (g : List Nat) : (nD g).length = g.length := by simp [nD]
theorem nD_get (g : List Nat) (i : Nat) : ((nD g).getD i (.int 0)).toInt = ((g.getD i 0 : Nat) : Int) := by
  simp only [nD, List.getD_eq_getElem?_getD, List.getElem?_map]
  cases g[i]? <;> rfl
theorem nD_app (g h : List Nat) : nD g ++ nD h = nD (g ++ h) := by simp [nD]
theorem nD_one (v : Nat) : [D.int (v : Int)] = nD [v] := rfl

def hasP (l : List D) (v : Int) (j : Nat) : Bool := decide ((l.getD j (.int 0)).toInt = v)
theorem l1Has_eq (l : List D) (v : Int) (hl : l.length ≤ 1048576) : spec_l1Has l v = some ((firstN (hasP l v) l.length).isSome) := by
  have key : spec_l1Has_L2 l v 0 = some (match firstN (hasP l v) l.length with | some i => .inl true | none => .inr ()) := by
    refine scan_loop (N := fun m i => n_spec_l1Has_L2 m l v i) (hasP l v) (fun _ => .inl true) (fun m i hi => ?_) (fun m => ?_)
    · show c_spec_l1Has_L2 (n_spec_l1Has_L2 m) l v i some = _
      unfold c_spec_l1Has_L2
      rw [decide_eq_true (show (i : Int) < (l.length : Int) by omega), cond_true, if_pos (by omega), wrap_id (by omega) (by omega)]
      simp only [Option.bind_fun_some, Int.toNat_natCast]
      rfl
    · show c_spec_l1Has_L2 (n_spec_l1Has_L2 m) l v l.length some = _
      unfold c_spec_l1Has_L2
      rw [decide_eq_false (by omega)]; rfl
  simp only [spec_l1Has, c_spec_l1Has, key, Option.bind_some]
  cases firstN (hasP l v) l.length <;> rfl

theorem firstN_isNone {p : Nat → Bool} {n : Nat} : (firstN p n).isNone = true ↔ ∀ j, j < n → p j = false := by
  constructor
  · intro h
    cases hf : firstN p n with
    | none => exact firstN_none hf
    | some i => rw [hf] at h; cases h
  · intro h
    cases hf : firstN p n with
    | none => rfl
    | some i =>
      obtain ⟨h1, h2, _⟩ := firstN_some hf
      rw [h i h1] at h2; cases h2

theorem hasN (g : List Nat) (i : Nat) (hl : g.length ≤ 1048576) : spec_l1Has (nD g) (i : Int) = some (decide (i ∈ g)) := by
  rw [l1Has_eq _ _ (by rw [nD_len]; exact hl)]
  congr 1
  rw [Bool.eq_iff_iff, decide_eq_true_eq]
  have h1 : (firstN (hasP (nD g) (i : Int)) (nD g).length).isSome = true ↔ ¬ ((firstN (hasP (nD g) (i : Int)) (nD g).length).isNone = true) := by
    cases firstN (hasP (nD g) (i : Int)) (nD g).length <;> simp
  rw [h1, firstN_isNone, nD_len]
  have hp : ∀ j (hj : j < g.length), (hasP (nD g) (i : Int) j = false ↔ g[j] ≠ i) := by
    intro j hj
    unfold hasP
    rw [nD_get, List.getD_eq_getElem?_getD, List.getElem?_eq_getElem hj, decide_eq_false_iff_not]
    simp only [Option.getD_some]
    omega
  constructor
  · intro h
    refine Classical.byContradiction fun hn => h fun j hj => (hp j hj).2 fun e => hn ?_
    rw [← e]; exact List.getElem_mem hj
  · intro h hn
    obtain ⟨j, hj, e⟩ := List.mem_iff_getElem.1 h
    exact (hp j hj).1 (hn j hj) e

def adj (E : List (Nat × Nat)) (u v : Nat) : Prop := (u, v) ∈ E ∨ (v, u) ∈ E
def Wk (E : List (Nat × Nat)) (to : Nat) : Nat → Nat → Prop
  | 0, v => v = to
  | k + 1, v => ∃ u, adj E v u ∧ Wk E to k u

def rlx (s : Nat → Int) (e : Nat × Nat) : Nat → Int := fun v => if v = e.2 then min (s e.2) (min (s e.1) (s e.2 + 1) + 1) else if v = e.1 then min (s e.1) (s e.2 + 1) else s v
theorem rlx_le (s : Nat → Int) (e : Nat × Nat) (v : Nat) : rlx s e v ≤ s v := by
  unfold rlx
  by_cases h2 : v = e.2
  · rw [if_pos h2, h2]; omega
  · rw [if_neg h2]
    by_cases h1 : v = e.1
    · rw [if_pos h1, h1]; omega
    · rw [if_neg h1]; omega
theorem fold_le : ∀ (l : List (Nat × Nat)) (s : Nat → Int) (v : Nat), l.foldl rlx s v ≤ s v
  | [], s, v => Int.le_refl _
  | e :: l, s, v => Int.le_trans (fold_le l (rlx s e) v) (rlx_le s e v)

def I1 (E : List (Nat × Nat)) (to n : Nat) (s : Nat → Int) : Prop := ∀ v, 0 ≤ s v ∧ s v ≤ n ∧ (s v < n → ∃ k : Nat, s v = k ∧ Wk E to k v)
def I2 (E : List (Nat × Nat)) (to : Nat) (k : Nat) (s : Nat → Int) : Prop := ∀ j, j ≤ k → ∀ v, Wk E to j v → s v ≤ j

theorem rlx_I1 {E : List (Nat × Nat)} {to n : Nat} {s : Nat → Int} {e : Nat × Nat} (he : e ∈ E) (h : I1 E to n s) : I1 E to n (rlx s e) := by
  intro v
  have ha := h e.1
  have hb := h e.2
  have hv := h v
  have e1 : adj E e.1 e.2 := .inl he
  have e2 : adj E e.2 e.1 := .inr he
  unfold rlx
  by_cases h2 : v = e.2
  · rw [if_pos h2, h2]
    refine ⟨by omega, by omega, fun hlt => ?_⟩
    by_cases hc : s e.1 + 1 < s e.2
    · obtain ⟨k, q1, q2⟩ := ha.2.2 (by omega)
      exact ⟨k + 1, by omega, e.1, e2, q2⟩
    · obtain ⟨k, q1, q2⟩ := hb.2.2 (by omega)
      exact ⟨k, by omega, q2⟩
  · rw [if_neg h2]
    by_cases h1 : v = e.1
    · rw [if_pos h1, h1]
      refine ⟨by omega, by omega, fun hlt => ?_⟩
      by_cases hc : s e.2 + 1 < s e.1
      · obtain ⟨k, q1, q2⟩ := hb.2.2 (by omega)
        exact ⟨k + 1, by omega, e.2, e1, q2⟩
      · obtain ⟨k, q1, q2⟩ := ha.2.2 (by omega)
        exact ⟨k, by omega, q2⟩
    · rw [if_neg h1]; exact hv

theorem fold_I1 {E : List (Nat × Nat)} {to n : Nat} : ∀ {l : List (Nat × Nat)} {s : Nat → Int}, (∀ e ∈ l, e ∈ E) → I1 E to n s → I1 E to n (l.foldl rlx s)
  | [], s, _, h => h
  | e :: l, s, hl, h => fold_I1 (l := l) (fun f hf => hl f (by simp [hf])) (rlx_I1 (hl e (by simp)) h)

theorem round_I2 {E : List (Nat × Nat)} {to k : Nat} {s : Nat → Int} (h : I2 E to k s) : I2 E to (k + 1) (E.foldl rlx s) := by
  intro j hj v hv
  cases j with
  | zero =>
    have := h 0 (by omega) v hv
    have := fold_le E s v
    omega
  | succ j =>
    obtain ⟨u, ha, hu⟩ := hv
    have hsu := h j (by omega) u hu
    have go : ∀ e, e ∈ E → ((e.1 = v ∧ e.2 = u) ∨ (e.1 = u ∧ e.2 = v)) → E.foldl rlx s v ≤ ((j + 1 : Nat) : Int) := by
      intro e he hvu
      obtain ⟨l1, l2, hl⟩ := List.append_of_mem he
      have h1 : E.foldl rlx s = l2.foldl rlx (rlx (l1.foldl rlx s) e) := by rw [hl, List.foldl_append, List.foldl_cons]
      rw [h1]
      have q1 := fold_le l2 (rlx (l1.foldl rlx s) e) v
      have q2 := fold_le l1 s u
      have q3 : rlx (l1.foldl rlx s) e v ≤ l1.foldl rlx s u + 1 := by
        unfold rlx
        rcases hvu with ⟨rfl, rfl⟩ | ⟨rfl, rfl⟩
        · by_cases h : e.1 = e.2
          · rw [if_pos h, h]; omega
          · rw [if_neg h, if_pos rfl]; omega
        · rw [if_pos rfl]; omega
      omega
    rcases ha with ha | ha
    · exact go _ ha (.inl ⟨rfl, rfl⟩)
    · exact go _ ha (.inr ⟨rfl, rfl⟩)

def iterR (E : List (Nat × Nat)) : Nat → (Nat → Int) → Nat → Int
  | 0, s => s
  | k + 1, s => E.foldl rlx (iterR E k s)
def s0F (n to : Nat) : Nat → Int := fun v => if v = to then 0 else n
def farS (E : List (Nat × Nat)) (n to : Nat) : Nat → Int := iterR E n (s0F n to)

theorem iter_I {E : List (Nat × Nat)} {n to : Nat} (hn : 0 < n) : ∀ k, I1 E to n (iterR E k (s0F n to)) ∧ I2 E to k (iterR E k (s0F n to))
  | 0 => by
    refine ⟨fun v => ?_, fun j hj v hv => ?_⟩
    · show 0 ≤ s0F n to v ∧ _
      unfold iterR s0F
      by_cases h : v = to
      · rw [if_pos h]; exact ⟨by omega, by omega, fun _ => ⟨0, rfl, h⟩⟩
      · rw [if_neg h]; exact ⟨by omega, by omega, fun h => absurd h (by omega)⟩
    · obtain rfl : j = 0 := by omega
      show s0F n to v ≤ _
      unfold s0F
      have : v = to := hv
      rw [if_pos this]; omega
  | k + 1 => by
    obtain ⟨h1, h2⟩ := iter_I hn k
    exact ⟨fold_I1 (fun _ h => h) h1, round_I2 h2⟩

theorem far_1 {E : List (Nat × Nat)} {n to v : Nat} (hn : 0 < n) (h : farS E n to v < n) : ∃ k : Nat, farS E n to v = k ∧ Wk E to k v := ((iter_I (E := E) (to := to) hn n).1 v).2.2 h
theorem far_0 {E : List (Nat × Nat)} {n to v : Nat} (hn : 0 < n) : 0 ≤ farS E n to v ∧ farS E n to v ≤ n := ⟨((iter_I (E := E) (to := to) hn n).1 v).1, ((iter_I (E := E) (to := to) hn n).1 v).2.1⟩
theorem far_2 {E : List (Nat × Nat)} {n to v k : Nat} (hn : 0 < n) (hk : k ≤ n) (h : Wk E to k v) : farS E n to v ≤ k := (iter_I (E := E) (to := to) hn n).2 k hk v h

/-! the path that the search finds -/
def firstNE (f : Nat → List Nat) : List Nat → List Nat
  | [] => []
  | i :: is => match f i with
    | [] => firstNE f is
    | x :: xs => x :: xs

open Classical in
noncomputable def dfs (E : List (Nat × Nat)) (n to : Nat) : Nat → List Nat → Nat → List Nat
  | 0, pre, v => if v = to then pre ++ [v] else []
  | k + 1, pre, v => firstNE (fun i => if adj E v i ∧ i ∉ pre ++ [v] then dfs E n to k (pre ++ [v]) i else []) (List.range n)

open Classical in
noncomputable def gr (E : List (Nat × Nat)) (n to : Nat) : Nat → Nat → List Nat
  | 0, v => [v]
  | k + 1, v => v :: (match firstN (fun i => decide (adj E v i ∧ Wk E to k i)) n with | some i => gr E n to k i | none => [])

theorem firstNE_ne {f : Nat → List Nat} : ∀ {l : List Nat}, firstNE f l ≠ [] → ∃ i ∈ l, f i ≠ []
  | [], h => absurd rfl h
  | i :: is, h => by
    unfold firstNE at h
    cases hf : f i with
    | nil => rw [hf] at h; obtain ⟨j, h1, h2⟩ := firstNE_ne h; exact ⟨j, by simp [h1], h2⟩
    | cons x xs => exact ⟨i, by simp, by rw [hf]; simp⟩

theorem firstNE_at {f : Nat → List Nat} {i : Nat} (hi : f i ≠ []) : ∀ {l1 l2 : List Nat}, (∀ j ∈ l1, f j = []) → firstNE f (l1 ++ i :: l2) = f i
  | [], l2, _ => by
    show firstNE f (i :: l2) = _
    unfold firstNE
    cases hf : f i with
    | nil => exact absurd hf hi
    | cons x xs => rfl
  | j :: l1, l2, h => by
    show firstNE f (j :: (l1 ++ i :: l2)) = _
    unfold firstNE
    rw [h j (by simp)]
    exact firstNE_at hi (fun k hk => h k (by simp [hk]))

theorem dfs_walk {E : List (Nat × Nat)} {n to : Nat} : ∀ (k : Nat) (pre : List Nat) (v : Nat), dfs E n to k pre v ≠ [] → Wk E to k v
  | 0, pre, v, h => by
    unfold dfs at h
    by_cases hv : v = to
    · exact hv
    · rw [if_neg hv] at h; exact absurd rfl h
  | k + 1, pre, v, h => by
    unfold dfs at h
    obtain ⟨i, _, hi⟩ := firstNE_ne h
    by_cases hc : adj E v i ∧ i ∉ pre ++ [v]
    · rw [if_pos hc] at hi
      exact ⟨i, hc.1, dfs_walk k _ i hi⟩
    · rw [if_neg hc] at hi; exact absurd rfl hi

theorem dfs_nil {E : List (Nat × Nat)} {n to k : Nat} {pre : List Nat} {v : Nat} (h : ¬ Wk E to k v) : dfs E n to k pre v = [] :=
  Classical.byContradiction fun hn => h (dfs_walk k pre v hn)

theorem gr_ne {E : List (Nat × Nat)} {n to : Nat} : ∀ (k v : Nat), gr E n to k v ≠ []
  | 0, v => by unfold gr; simp
  | k + 1, v => by unfold gr; simp

theorem dfs_gr {E : List (Nat × Nat)} {n to : Nat} (hE : ∀ u v, adj E u v → v < n) : ∀ (k : Nat) (pre : List Nat) (v : Nat), Wk E to k v → (∀ j, j < k → ¬ Wk E to j v) → (∀ p ∈ pre, ∀ j, j ≤ k → ¬ Wk E to j p) → dfs E n to k pre v = pre ++ gr E n to k v
  | 0, pre, v, h, _, _ => by
    have h : v = to := h
    unfold dfs gr; rw [if_pos h]
  | k + 1, pre, v, h, hmin, hpre => by
    classical
    unfold dfs gr
    cases hf : firstN (fun i => decide (adj E v i ∧ Wk E to k i)) n with
    | none =>
      obtain ⟨u, h1, h2⟩ := h
      have := firstN_none hf u (hE _ _ h1)
      simp only [decide_eq_false_iff_not] at this
      exact absurd ⟨h1, h2⟩ this
    | some i =>
      obtain ⟨q1, q2, q3⟩ := firstN_some hf
      have q2 := of_decide_eq_true q2
      have hni : i ∉ pre ++ [v] := by
        intro hm
        rcases List.mem_append.1 hm with hm | hm
        · exact hpre i hm k (by omega) q2.2
        · simp at hm; subst hm; exact hmin k (by omega) q2.2
      have hrec := dfs_gr hE k (pre ++ [v]) i q2.2 (fun j hj hw => hmin (j + 1) (by omega) ⟨i, q2.1, hw⟩) (fun p hp j hj => by
        rcases List.mem_append.1 hp with hp | hp
        · exact hpre p hp j (by omega)
        · simp at hp; subst hp; exact hmin j (by omega))
      have hne : (if adj E v i ∧ i ∉ pre ++ [v] then dfs E n to k (pre ++ [v]) i else []) ≠ [] := by
        rw [if_pos ⟨q2.1, hni⟩, hrec]
        intro e
        exact gr_ne k i (List.append_eq_nil_iff.1 e).2
      have hsplit : List.range n = List.range i ++ i :: (List.range' (i + 1) (n - i - 1)) := by
        rw [List.range_eq_range', List.range_eq_range', show n = i + (1 + (n - i - 1)) by omega, ← List.range'_append_1 (s := 0) (m := i) (n := 1 + (n - i - 1)), Nat.zero_add, Nat.add_comm 1, List.range'_succ]
        simp
      rw [hsplit, firstNE_at (f := fun i => if adj E v i ∧ i ∉ pre ++ [v] then dfs E n to k (pre ++ [v]) i else []) hne (fun j hj => by
        have hji : j < i := List.mem_range.1 hj
        by_cases hc : adj E v j ∧ j ∉ pre ++ [v]
        · rw [if_pos hc]
          refine dfs_nil fun hw => ?_
          have := q3 j hji
          simp only [decide_eq_false_iff_not] at this
          exact this ⟨hc.1, hw⟩
        · rw [if_neg hc])]
      rw [if_pos ⟨q2.1, hni⟩, hrec]
      simp

/-! the models -/
theorem most_eq (a b : Int) : spec_l1Most a b = some (max a b) := by
  unfold spec_l1Most c_spec_l1Most
  by_cases h : b < a
  · simp only [h, decide_true, cond_true]; congr 1; omega
  · simp only [h, decide_false, cond_false]; congr 1; omega

def jnP (r : List D) (u v j : Nat) : Bool := decide (((r.getD j (.int 0)).fld 0).toInt = min (u : Int) v) && decide (((r.getD j (.int 0)).fld 1).toInt = max (u : Int) v)

open Classical in
theorem joined_eq {n : Nat} {r : List D} (hr : r.length ≤ 1048576) (hv : validJ n r) (u v : Nat) : spec_l15Joined r u v = some (decide (adj (edges r) u v)) := by
  have key : spec_l15Joined_L2 r u v 0 = some (match firstN (jnP r u v) r.length with | some i => .inl true | none => .inr ()) := by
    refine scan_loop (N := fun m i => n_spec_l15Joined_L2 m r u v i) (jnP r u v) (fun _ => .inl true) (fun m i hi => ?_) (fun m => ?_)
    · show c_spec_l15Joined_L2 (n_spec_l15Joined_L2 m) r u v i some = _
      unfold c_spec_l15Joined_L2
      rw [decide_eq_true (show (i : Int) < (r.length : Int) by omega), cond_true, if_pos (by omega), wrap_id (by omega) (by omega), least_eq, most_eq, Option.bind_some, Option.bind_some]
      simp only [Option.bind_fun_some, Int.toNat_natCast]
      unfold jnP
      cases decide (((r.getD i (D.int 0)).fld 0).toInt = min (u : Int) v) with
      | false => rfl
      | true =>
        simp only [cond_true, Bool.true_and]
        rw [if_pos (by omega)]
    · show c_spec_l15Joined_L2 (n_spec_l15Joined_L2 m) r u v r.length some = _
      unfold c_spec_l15Joined_L2
      rw [decide_eq_false (by omega)]; rfl
  simp only [spec_l15Joined, c_spec_l15Joined, key, Option.bind_some]
  cases hf : firstN (jnP r u v) r.length with
  | some i =>
    obtain ⟨h1, h2, _⟩ := firstN_some hf
    obtain ⟨a, b, e1, e2, hab, hbn, he⟩ := hv i h1
    unfold jnP at h2
    rw [List.getD_eq_getElem?_getD, e1, e2, Bool.and_eq_true, decide_eq_true_eq, decide_eq_true_eq] at h2
    have hm := List.mem_of_getElem? he
    have : adj (edges r) u v := by
      rcases Nat.lt_or_ge u v with hc | hc
      · left; rw [show u = a by omega, show v = b by omega]; exact hm
      · right; rw [show u = b by omega, show v = a by omega]; exact hm
    simp only [Sum.elim_inl, decide_eq_true this]
  | none =>
    have : ¬ adj (edges r) u v := by
      have go : ∀ a b, (a, b) ∈ edges r → ((a = u ∧ b = v) ∨ (a = v ∧ b = u)) → False := by
        intro a b hm huv
        obtain ⟨i, hi⟩ := List.mem_iff_getElem?.1 hm
        have hil : i < r.length := by
          have := (List.getElem?_eq_some_iff.1 hi).1
          rwa [edges_len] at this
        obtain ⟨a', b', e1, e2, hab, hbn, he⟩ := hv i hil
        rw [he] at hi
        simp only [Option.some.injEq, Prod.mk.injEq] at hi
        have := firstN_none hf i hil
        unfold jnP at this
        rw [List.getD_eq_getElem?_getD, e1, e2, decide_eq_true (by omega), decide_eq_true (by omega)] at this
        cases this
      rintro (h | h)
      · exact go _ _ h (.inl ⟨rfl, rfl⟩)
      · exact go _ _ h (.inr ⟨rfl, rfl⟩)
    simp only [Sum.elim_inr, decide_eq_false this]

theorem adj_lt {n : Nat} {r : List D} (hv : validJ n r) {u v : Nat} (h : adj (edges r) u v) : v < n := by
  have go : ∀ a b, (a, b) ∈ edges r → a < n ∧ b < n := by
    intro a b hm
    obtain ⟨i, hi⟩ := List.mem_iff_getElem?.1 hm
    have hil : i < r.length := by
      have := (List.getElem?_eq_some_iff.1 hi).1
      rwa [edges_len] at this
    obtain ⟨a', b', e1, e2, hab, hbn, he⟩ := hv i hil
    rw [he] at hi
    simp only [Option.some.injEq, Prod.mk.injEq] at hi
    omega
  rcases h with h | h
  · exact (go _ _ h).2
  · exact (go _ _ h).1

theorem nD_nil {g : List Nat} : (nD g).length = 0 ↔ g = [] := by
  rw [nD_len]; exact List.length_eq_zero_iff

theorem dfs_model {n : Nat} {r : List D} (hr : r.length ≤ 1048576) (hv : validJ n r) (hn : n ≤ 1000) (to : Nat) : ∀ (k : Nat) (pre : List Nat) (v : Nat), pre.length + k ≤ 1000 → k ≤ 1000 →
    ∀ m, k < m → n_spec_l15Path m n r (nD (pre ++ [v])) to k = some (nD (dfs (edges r) n to k pre v)) := by
  classical
  intro k
  induction k with
  | zero =>
    intro pre v hp hk m hm
    obtain ⟨m, rfl⟩ : ∃ m', m = m' + 1 := ⟨m - 1, by omega⟩
    have hlen : ((nD (pre ++ [v])).length : Int) = (pre.length : Int) + 1 := by rw [nD_len]; simp
    have hlen' : (nD (pre ++ [v])).length = pre.length + 1 := by rw [nD_len]; simp
    have hg : ((nD (pre ++ [v])).getD pre.length (D.int 0)).toInt = (v : Int) := by
      rw [nD_get, List.getD_eq_getElem?_getD, List.getElem?_append_right (Nat.le_refl _)]; simp
    show c_spec_l15Path (n_spec_l15Path m) n r _ to ((0 : Nat) : Int) some = _
    unfold c_spec_l15Path dfs
    rw [hlen, wrap_id (by omega) (by omega), show (pre.length : Int) + 1 - 1 = (pre.length : Int) by omega, Int.toNat_natCast, hg]
    rw [if_pos (by omega), if_pos (by omega), decide_eq_true (show ((0 : Nat) : Int) = 0 from rfl), cond_true]
    by_cases h : v = to
    · rw [if_pos h, decide_eq_true (by omega), cond_true]
    · rw [if_neg h, decide_eq_false (by omega), cond_false]; rfl
  | succ k ih =>
    intro pre v hp hk m hm
    obtain ⟨m, rfl⟩ : ∃ m', m = m' + 1 := ⟨m - 1, by omega⟩
    have hlen : ((nD (pre ++ [v])).length : Int) = (pre.length : Int) + 1 := by rw [nD_len]; simp
    have hlen' : (nD (pre ++ [v])).length = pre.length + 1 := by rw [nD_len]; simp
    have hg : ((nD (pre ++ [v])).getD pre.length (D.int 0)).toInt = (v : Int) := by
      rw [nD_get, List.getD_eq_getElem?_getD, List.getElem?_append_right (Nat.le_refl _)]; simp
    have hk1 : IntKind.i64.wrap (((k + 1 : Nat) : Int) - 1) = (k : Int) := by rw [wrap_id (by omega) (by omega)]; omega
    have inner : ∀ c i, i + c = n → ∀ j, c < j → n_spec_l15Path_L7 (n_spec_l15Path m) j n r to ((k + 1 : Nat) : Int) v i (nD (pre ++ [v])) =
        some (match firstNE (fun i => if adj (edges r) v i ∧ i ∉ pre ++ [v] then dfs (edges r) n to k (pre ++ [v]) i else []) (List.range' i c) with | [] => .inr () | x :: xs => .inl (nD (x :: xs))) := by
      intro c
      induction c with
      | zero =>
        intro i hi j hj
        obtain ⟨j, rfl⟩ : ∃ j', j = j' + 1 := ⟨j - 1, by omega⟩
        show c_spec_l15Path_L7 _ _ n r to _ v i _ some = _
        unfold c_spec_l15Path_L7
        rw [decide_eq_false (by omega)]; rfl
      | succ c ihc =>
        intro i hi j hj
        obtain ⟨j, rfl⟩ : ∃ j', j = j' + 1 := ⟨j - 1, by omega⟩
        have hnext := ihc (i + 1) (by omega) j (by omega)
        show c_spec_l15Path_L7 (n_spec_l15Path m) (n_spec_l15Path_L7 (n_spec_l15Path m) j) n r to _ v i _ some = _
        unfold c_spec_l15Path_L7
        rw [decide_eq_true (show (i : Int) < (n : Int) by omega), cond_true, joined_eq hr hv, Option.bind_some, hasN _ _ (by rw [List.length_append]; simp; omega), Option.bind_some, succ_wrap (by omega), hk1]
        simp only [Option.bind_fun_some]
        rw [List.range'_succ]
        unfold firstNE
        by_cases ha : adj (edges r) v i
        · rw [decide_eq_true ha, cond_true]
          by_cases hm : i ∈ pre ++ [v]
          · rw [decide_eq_true hm, if_neg (fun h => h.2 hm)]
            exact hnext
          · rw [decide_eq_false hm, if_pos ⟨ha, hm⟩]
            have hrec := ih (pre ++ [v]) i (by simp; omega) (by omega) m (by omega)
            simp only [Bool.not_false, cond_true, spec_l1Own, c_spec_l1Own, List.nil_append]
            rw [if_pos (by rw [List.length_nil, hlen']; omega), Option.bind_some, if_pos (by rw [hlen']; simp; omega), nD_one, nD_app, hrec, Option.bind_some]
            cases hd : dfs (edges r) n to k (pre ++ [v]) i with
            | nil =>
              rw [decide_eq_false (by simp [nD])]
              exact hnext
            | cons x xs =>
              rw [decide_eq_true (by rw [nD_len]; simp <;> omega)]
              rfl
        · rw [decide_eq_false ha, if_neg (fun h => ha h.1)]
          exact hnext
    have hL7 : spec_l15Path_L7 (n_spec_l15Path m) n r to ((k + 1 : Nat) : Int) v 0 (nD (pre ++ [v])) = _ := ev_eq (f := fun j => n_spec_l15Path_L7 (n_spec_l15Path m) j n r to ((k + 1 : Nat) : Int) v 0 (nD (pre ++ [v]))) (n + 1) (fun j hj => inner n 0 (by omega) j (by omega))
    show c_spec_l15Path (n_spec_l15Path m) n r _ to _ some = _
    unfold c_spec_l15Path dfs
    rw [hlen, wrap_id (by omega) (by omega), show (pre.length : Int) + 1 - 1 = (pre.length : Int) by omega, Int.toNat_natCast, hg]
    rw [if_pos (by omega), if_pos (by omega), decide_eq_false (by omega), cond_false, hL7, Option.bind_some, List.range_eq_range']
    cases firstNE (fun i => if adj (edges r) v i ∧ i ∉ pre ++ [v] then dfs (edges r) n to k (pre ++ [v]) i else []) (List.range' 0 n) with
    | nil => rfl
    | cons x xs => rfl

theorem path_eq {n : Nat} {r : List D} (hr : r.length ≤ 1048576) (hv : validJ n r) (hn : n ≤ 1000) (to k v : Nat) (hk : k ≤ 900) : spec_l15Path n r [D.int (v : Int)] to k = some (nD (dfs (edges r) n to k [] v)) :=
  ev_eq (f := fun m => n_spec_l15Path m n r [D.int (v : Int)] to k) (k + 1) (fun m hm => dfs_model hr hv hn to k [] v (by simp <;> omega) (by omega) m (by omega))

theorem L6_eq {n : Nat} {r : List D} (hr : r.length ≤ 1048576) (hv : validJ n r) (hn : n ≤ 12) (a to : Nat) (ha : a < n) (hto : to < n) :
    spec_JoinPath_L6 r a to n 0 (lst n (finalS r)) = some (if finalS r a = finalS r to ∧ farS (edges r) n to a < n then .inl (true, nD (gr (edges r) n to (farS (edges r) n to a).toNat a)) else .inr ()) := by
  have hga : ((lst n (finalS r)).getD a (D.int 0)).toInt = finalS r a := by rw [List.getD_eq_getElem?_getD, lst_get ha]; rfl
  have hgt : ((lst n (finalS r)).getD to (D.int 0)).toInt = finalS r to := by rw [List.getD_eq_getElem?_getD, lst_get hto]; rfl
  have hE : ∀ u v, adj (edges r) u v → v < n := fun u v h => adj_lt hv h
  have step : ∀ m k, k < n → n_spec_JoinPath_L6 (m + 1) r a to n (k : Int) (lst n (finalS r)) =
      bif decide (finalS r a = finalS r to) then (match dfs (edges r) n to k [] a with | [] => n_spec_JoinPath_L6 m r a to n ((k + 1 : Nat) : Int) (lst n (finalS r)) | x :: xs => some (.inl (true, nD (x :: xs)))) else some (.inr ()) := by
    intro m k hk
    show c_spec_JoinPath_L6 (n_spec_JoinPath_L6 m) r a to n k _ some = _
    unfold c_spec_JoinPath_L6
    simp only [lst_len, Int.toNat_natCast, hga, hgt]
    rw [decide_eq_true (show (k : Int) < (n : Int) by omega), cond_true, if_pos (by omega), if_pos (by omega), if_pos (by omega), if_pos (by omega), path_eq hr hv (by omega) to k a (by omega), Option.bind_some, succ_wrap (by omega)]
    simp only [Option.bind_fun_some]
    cases decide (finalS r a = finalS r to) with
    | false => rfl
    | true =>
      simp only [cond_true]
      cases dfs (edges r) n to k [] a with
      | nil => rw [decide_eq_false (by simp [nD])]; rfl
      | cons x xs => rw [decide_eq_true (by rw [nD_len]; simp <;> omega)]; rfl
  have stop : ∀ m, n_spec_JoinPath_L6 (m + 1) r a to n (n : Int) (lst n (finalS r)) = some (.inr ()) := by
    intro m
    show c_spec_JoinPath_L6 (n_spec_JoinPath_L6 m) r a to n n _ some = _
    unfold c_spec_JoinPath_L6
    rw [decide_eq_false (by omega)]; rfl
  by_cases hl : finalS r a = finalS r to
  · have f0 := far_0 (E := edges r) (n := n) (to := to) (v := a) (by omega)
    obtain ⟨d, hd⟩ : ∃ d : Nat, farS (edges r) n to a = (d : Int) := ⟨(farS (edges r) n to a).toNat, by omega⟩
    rw [hd]
    have hnil : ∀ k, k < d → dfs (edges r) n to k [] a = [] := fun k hk => dfs_nil fun hw => by
      have := far_2 (E := edges r) (n := n) (to := to) (v := a) (k := k) (by omega) (by omega) hw
      omega
    have hrun : ∀ c k m, k + c = d → n_spec_JoinPath_L6 (c + (m + 1)) r a to n (k : Int) (lst n (finalS r)) = n_spec_JoinPath_L6 (m + 1) r a to n (d : Int) (lst n (finalS r)) := by
      intro c
      induction c with
      | zero => intro k m hk; rw [show k = d by omega, Nat.zero_add]
      | succ c ih =>
        intro k m hk
        rw [show c + 1 + (m + 1) = (c + (m + 1)) + 1 by omega, step _ k (by omega), decide_eq_true hl, cond_true, hnil k (by omega)]
        exact ih (k + 1) m (by omega)
    refine ev_eq (f := fun m => n_spec_JoinPath_L6 m r a to n 0 (lst n (finalS r))) (d + 1) (fun m hm => ?_)
    obtain ⟨m, rfl⟩ : ∃ m', m = d + (m' + 1) := ⟨m - d - 1, by omega⟩
    have := hrun d 0 m (by omega)
    rw [show ((0 : Nat) : Int) = 0 from rfl] at this
    rw [this]
    by_cases hdn : d < n
    · obtain ⟨k, e, hw⟩ := far_1 (E := edges r) (n := n) (to := to) (v := a) (by omega) (by omega)
      obtain rfl : k = d := by omega
      rw [step _ k hdn, decide_eq_true hl, cond_true, dfs_gr hE k [] a hw (fun j hj hw' => by
        have := far_2 (E := edges r) (n := n) (to := to) (v := a) (k := j) (by omega) (by omega) hw'
        omega) (fun p hp => by cases hp), if_pos ⟨hl, by omega⟩, Int.toNat_natCast, List.nil_append]
      cases hg : gr (edges r) n to k a with
      | nil => exact absurd hg (gr_ne k a)
      | cons x xs => rfl
    · obtain rfl : d = n := by omega
      rw [stop, if_neg (fun h => absurd h.2 (by omega))]
  · rw [if_neg (fun h => hl h.1)]
    refine ev_eq (f := fun m => n_spec_JoinPath_L6 m r a to n 0 (lst n (finalS r))) 1 (fun m hm => ?_)
    obtain ⟨m, rfl⟩ : ∃ m', m = m' + 1 := ⟨m - 1, by omega⟩
    have := step m 0 (by omega)
    rw [show ((0 : Nat) : Int) = 0 from rfl] at this
    rw [this, decide_eq_false hl, cond_false]

theorem rep_eq (n : Nat) (h1 : 1 ≤ n) (h2 : n ≤ 12) : slices_Repeat [D.int (n : Int)] n = some (List.replicate n (D.int (n : Int))) := by
  have h : n = 1 ∨ n = 2 ∨ n = 3 ∨ n = 4 ∨ n = 5 ∨ n = 6 ∨ n = 7 ∨ n = 8 ∨ n = 9 ∨ n = 10 ∨ n = 11 ∨ n = 12 := by omega
  have key : ∀ n : Nat, math_bits_Mul (IntKind.u64.wrap (([D.int (n : Int)].length : Nat) : Int)) (IntKind.u64.wrap (n : Int)) = some (0, (n : Int)) → 1 ≤ n → n ≤ 12 →
      slices_Repeat_L8 1 (D.int (n : Int) :: List.replicate (n - 1) (D.int 0)) = some (List.replicate n (D.int (n : Int))) → slices_Repeat [D.int (n : Int)] n = some (List.replicate n (D.int (n : Int))) := by
    intro n hm q1 q2 hl
    simp only [slices_Repeat, c_slices_Repeat]
    rw [decide_eq_false (by omega), cond_false, hm, Option.bind_some]
    simp only [wrap_id (n := (n : Int)) (by omega) (by omega), Int.toNat_natCast, List.length_replicate]
    rw [decide_eq_false (by omega), cond_false, decide_eq_false (by omega), cond_false, if_pos (by omega)]
    obtain ⟨n, rfl⟩ : ∃ n', n = n' + 1 := ⟨n - 1, by omega⟩
    have : (List.take 0 (List.replicate (n + 1) (D.int 0)) ++ List.take (n + 1) [D.int ((n + 1 : Nat) : Int)] ++ List.drop (0 + (List.take (n + 1) [D.int ((n + 1 : Nat) : Int)]).length) (List.replicate (n + 1) (D.int 0))) = D.int ((n + 1 : Nat) : Int) :: List.replicate n (D.int 0) := by
      simp [List.replicate_succ]
    rw [this]
    have e : (((List.take (n + 1) [D.int ((n + 1 : Nat) : Int)]).length : Nat) : Int) = 1 := by simp
    rw [e]
    rw [show n + 1 - 1 = n by omega] at hl
    rw [hl]; rfl
  have run : ∀ n : Nat, (∀ m, n_slices_Repeat_L8 (m + 6) 1 (D.int (n : Int) :: List.replicate (n - 1) (D.int 0)) = some (List.replicate n (D.int (n : Int)))) → slices_Repeat_L8 1 (D.int (n : Int) :: List.replicate (n - 1) (D.int 0)) = some (List.replicate n (D.int (n : Int))) := by
    intro n hq
    refine ev_eq (f := fun m => n_slices_Repeat_L8 m 1 (D.int (n : Int) :: List.replicate (n - 1) (D.int 0))) 6 (fun m hm => ?_)
    obtain ⟨m, rfl⟩ : ∃ m', m = m' + 6 := ⟨m - 6, by omega⟩
    exact hq m
  rcases h with rfl | rfl | rfl | rfl | rfl | rfl | rfl | rfl | rfl | rfl | rfl | rfl <;> exact key _ rfl (by omega) (by omega) (run _ (fun m => rfl))

theorem min_if (x y : Int) : (if y < x then y else x) = min x y := by
  by_cases h : y < x <;> simp [h] <;> omega

theorem foldl_take {α : Type} {E : List (Nat × Nat)} {f : α → Nat × Nat → α} {i : Nat} {e : Nat × Nat} (h : E[i]? = some e) (s : α) : (E.take (i + 1)).foldl f s = f ((E.take i).foldl f s) e := by
  obtain ⟨hi, he⟩ := List.getElem?_eq_some_iff.1 h
  rw [List.take_succ_eq_append_getElem hi, List.foldl_append, he]
  rfl

theorem set_rlx {n a b : Nat} {s : Nat → Int} (hab : a ≠ b) {x y : Int} (hx : x = min (s a) (s b + 1)) (hy : y = min (s b) (x + 1)) : ((lst n s).set a (.int x)).set b (.int y) = lst n (rlx s (a, b)) := by
  rw [lst_set, lst_set]
  congr 1
  funext v
  unfold rlx
  simp only
  by_cases h2 : v = b
  · rw [if_pos h2, if_pos h2, hy, hx]
  · rw [if_neg h2, if_neg h2]
    by_cases h1 : v = a
    · rw [if_pos h1, if_pos h1, hx]
    · rw [if_neg h1, if_neg h1]

theorem iL9_eq {n : Nat} {r : List D} (hr : r.length ≤ 1000) (hv : validJ n r) (hn : n ≤ 12) (to : Nat) (s0 : Nat → Int) (hI : I1 (edges r) to n s0) (x1 x2 x3 x4 x5 : Int) :
    impl_JoinPath_L9 r x1 x2 x3 x4 x5 r r.length 0 (lst n s0) = some (r, x1, x2, x3, x4, x5, lst n ((edges r).foldl rlx s0)) := by
  have key : ∀ c j, j + c = r.length → ∀ m, c < m → n_impl_JoinPath_L9 m r x1 x2 x3 x4 x5 r r.length j (lst n (((edges r).take j).foldl rlx s0)) = some (r, x1, x2, x3, x4, x5, lst n ((edges r).foldl rlx s0)) := by
    intro c
    induction c with
    | zero =>
      intro j hj m hm
      obtain ⟨m, rfl⟩ : ∃ m', m = m' + 1 := ⟨m - 1, by omega⟩
      obtain rfl : j = r.length := by omega
      show c_impl_JoinPath_L9 _ r x1 x2 x3 x4 x5 r r.length r.length _ some = _
      unfold c_impl_JoinPath_L9
      rw [decide_eq_false (by omega), cond_false, List.take_of_length_le (by rw [edges_len]; omega)]
    | succ c ih =>
      intro j hj m hm
      obtain ⟨m, rfl⟩ : ∃ m', m = m' + 1 := ⟨m - 1, by omega⟩
      obtain ⟨a, b, e1, e2, hab, hbn, he⟩ := hv j (by omega)
      have hnext := ih (j + 1) (by omega) m (by omega)
      rw [foldl_take he] at hnext
      have hIj : I1 (edges r) to n (((edges r).take j).foldl rlx s0) := fold_I1 (fun e h => List.mem_of_mem_take h) hI
      generalize ((edges r).take j).foldl rlx s0 = s at hnext hIj ⊢
      have ha := hIj a
      have hb := hIj b
      have ga : ((lst n s).getD a (D.int 0)).toInt = s a := by rw [List.getD_eq_getElem?_getD, lst_get (by omega)]; rfl
      have gb : ((lst n s).getD b (D.int 0)).toInt = s b := by rw [List.getD_eq_getElem?_getD, lst_get hbn]; rfl
      have hA : (if IntKind.i64.wrap (s b + 1) < s a then IntKind.i64.wrap (s b + 1) else s a) = min (s a) (s b + 1) := by
        rw [wrap_id (by omega) (by omega), min_if]
      have ga' : ∀ x : Int, (((lst n s).set a (D.int x)).getD a (D.int 0)).toInt = x := by
        intro x
        rw [List.getD_eq_getElem?_getD, List.getElem?_set_self (by rw [lst_len]; omega)]; rfl
      have gb' : ∀ x : Int, (((lst n s).set a (D.int x)).getD b (D.int 0)).toInt = s b := by
        intro x
        rw [List.getD_eq_getElem?_getD, List.getElem?_set_ne (by omega), lst_get hbn]; rfl
      have hB : (if IntKind.i64.wrap (min (s a) (s b + 1) + 1) < s b then IntKind.i64.wrap (min (s a) (s b + 1) + 1) else s b) = min (s b) (min (s a) (s b + 1) + 1) := by
        rw [wrap_id (by omega) (by omega), min_if]
      have f1 : ((r.getD j (D.int 0)).fld 0).toInt = (a : Int) := by rw [List.getD_eq_getElem?_getD]; exact e1
      have f2 : ((r.getD j (D.int 0)).fld 1).toInt = (b : Int) := by rw [List.getD_eq_getElem?_getD]; exact e2
      show c_impl_JoinPath_L9 (n_impl_JoinPath_L9 m) r x1 x2 x3 x4 x5 r r.length j _ some = _
      unfold c_impl_JoinPath_L9
      simp only [Int.toNat_natCast, f1, f2, ga, gb, hA, ga', gb', hB, lst_len, List.length_set, Option.bind_fun_some]
      rw [set_rlx (by omega) rfl rfl, succ_wrap (by omega), decide_eq_true (show (j : Int) < (r.length : Int) by omega), cond_true]
      repeat rw [if_pos (by omega)]
      exact hnext
  exact ev_eq (f := fun m => n_impl_JoinPath_L9 m r x1 x2 x3 x4 x5 r r.length 0 (lst n s0)) (r.length + 1) (fun m hm => key r.length 0 (by omega) m (by omega))

theorem iL7_eq {n : Nat} {r : List D} (hr : r.length ≤ 1000) (hv : validJ n r) (hn1 : 0 < n) (hn : n ≤ 12) (to : Nat) (x1 x2 x3 : Int) :
    impl_JoinPath_L7 r x1 x2 x3 n 0 (lst n (s0F n to)) = some (r, x1, x2, x3, lst n (farS (edges r) n to)) := by
  have key : ∀ c k, k + c = n → ∀ m, c < m → n_impl_JoinPath_L7 m r x1 x2 x3 n k (lst n (iterR (edges r) k (s0F n to))) = some (r, x1, x2, x3, lst n (farS (edges r) n to)) := by
    intro c
    induction c with
    | zero =>
      intro k hk m hm
      obtain ⟨m, rfl⟩ : ∃ m', m = m' + 1 := ⟨m - 1, by omega⟩
      obtain rfl : k = n := by omega
      show c_impl_JoinPath_L7 _ r x1 x2 x3 k k _ some = _
      unfold c_impl_JoinPath_L7
      rw [decide_eq_false (by omega)]; rfl
    | succ c ih =>
      intro k hk m hm
      obtain ⟨m, rfl⟩ : ∃ m', m = m' + 1 := ⟨m - 1, by omega⟩
      have hnext := ih (k + 1) (by omega) m (by omega)
      show c_impl_JoinPath_L7 (n_impl_JoinPath_L7 m) r x1 x2 x3 n k _ some = _
      unfold c_impl_JoinPath_L7
      rw [decide_eq_true (show (k : Int) < (n : Int) by omega), cond_true, iL9_eq hr hv hn to _ (iter_I hn1 k).1]
      simp only [Option.bind_some, Option.bind_fun_some]
      rw [succ_wrap (by omega)]
      exact hnext
  exact ev_eq (f := fun m => n_impl_JoinPath_L7 m r x1 x2 x3 n 0 (lst n (s0F n to))) (n + 1) (fun m hm => key n 0 (by omega) m (by omega))

def nxs (s : Nat → Int) (v : Nat) (acc : Int) (e : Nat × Nat) : Int :=
  if e.1 = v then (if s e.2 = s v - 1 then min acc e.2 else acc) else if e.2 = v then (if s e.1 = s v - 1 then min acc e.1 else acc) else acc

theorem nxs_spec {s : Nat → Int} {v : Nat} : ∀ (l : List (Nat × Nat)) (acc : Int), l.foldl (nxs s v) acc ≤ acc ∧
    (l.foldl (nxs s v) acc = acc ∨ ∃ i : Nat, l.foldl (nxs s v) acc = i ∧ s i = s v - 1 ∧ ((v, i) ∈ l ∨ (i, v) ∈ l)) ∧
    (∀ i : Nat, s i = s v - 1 → ((v, i) ∈ l ∨ (i, v) ∈ l) → l.foldl (nxs s v) acc ≤ i)
  | [], acc => ⟨Int.le_refl _, .inl rfl, fun i _ h => by rcases h with h | h <;> cases h⟩
  | e :: l, acc => by
    obtain ⟨h1, h2, h3⟩ := nxs_spec (s := s) (v := v) l (nxs s v acc e)
    have hle : nxs s v acc e ≤ acc := by
      unfold nxs
      by_cases a1 : e.1 = v
      · rw [if_pos a1]; by_cases a2 : s e.2 = s v - 1
        · rw [if_pos a2]; omega
        · rw [if_neg a2]; omega
      · rw [if_neg a1]; by_cases a3 : e.2 = v
        · rw [if_pos a3]; by_cases a2 : s e.1 = s v - 1
          · rw [if_pos a2]; omega
          · rw [if_neg a2]; omega
        · rw [if_neg a3]; omega
    have hstep : nxs s v acc e = acc ∨ ∃ i : Nat, nxs s v acc e = i ∧ s i = s v - 1 ∧ (e = (v, i) ∨ e = (i, v)) := by
      unfold nxs
      by_cases a1 : e.1 = v
      · rw [if_pos a1]; by_cases a2 : s e.2 = s v - 1
        · rw [if_pos a2]
          rcases Int.le_total acc e.2 with q | q
          · left; omega
          · right; exact ⟨e.2, by omega, a2, .inl (by rw [← a1])⟩
        · rw [if_neg a2]; exact .inl rfl
      · rw [if_neg a1]; by_cases a3 : e.2 = v
        · rw [if_pos a3]; by_cases a2 : s e.1 = s v - 1
          · rw [if_pos a2]
            rcases Int.le_total acc e.1 with q | q
            · left; omega
            · right; exact ⟨e.1, by omega, a2, .inr (by rw [← a3])⟩
          · rw [if_neg a2]; exact .inl rfl
        · rw [if_neg a3]; exact .inl rfl
    refine ⟨by rw [List.foldl_cons]; omega, ?_, ?_⟩
    · rw [List.foldl_cons]
      rcases h2 with h2 | ⟨i, q1, q2, q3⟩
      · rcases hstep with h4 | ⟨i, q1, q2, q3⟩
        · left; rw [h2, h4]
        · right; refine ⟨i, by rw [h2, q1], q2, ?_⟩
          rcases q3 with rfl | rfl
          · left; simp
          · right; simp
      · right; refine ⟨i, q1, q2, ?_⟩
        rcases q3 with q3 | q3
        · left; simp [q3]
        · right; simp [q3]
    · intro i hi hm
      rw [List.foldl_cons]
      have : (e = (v, i) ∨ e = (i, v)) ∨ ((v, i) ∈ l ∨ (i, v) ∈ l) := by
        rcases hm with hm | hm
        · rcases List.mem_cons.1 hm with q | q
          · exact .inl (.inl q.symm)
          · exact .inr (.inl q)
        · rcases List.mem_cons.1 hm with q | q
          · exact .inl (.inr q.symm)
          · exact .inr (.inr q)
      rcases this with hq | hq
      · have : nxs s v acc e ≤ i := by
          unfold nxs
          rcases hq with rfl | rfl
          · rw [if_pos rfl, if_pos hi]; simp only; omega
          · by_cases a1 : i = v
            · rw [if_pos a1, if_pos (by simp only; rw [← a1]; subst a1; exact hi)]; simp only; omega
            · rw [if_neg a1, if_pos rfl, if_pos hi]; simp only; omega
        omega
      · exact h3 i hi hq

theorem iL22_eq {n : Nat} {r : List D} (hr : r.length ≤ 1000) (hv : validJ n r) (hn : n ≤ 12) (s : Nat → Int) (hs : ∀ v, 0 ≤ s v ∧ s v ≤ n) (v : Nat) (hvn : v < n) (x1 x2 : Int) (pth : List D) :
    impl_JoinPath_L22 r x1 x2 v n r r.length 0 (lst n s) pth = some (r, x1, x2, (v : Int), (edges r).foldl (nxs s v) n, lst n s, pth) := by
  have key : ∀ c j, j + c = r.length → ∀ m, c < m → n_impl_JoinPath_L22 m r x1 x2 v (((edges r).take j).foldl (nxs s v) n) r r.length j (lst n s) pth = some (r, x1, x2, (v : Int), (edges r).foldl (nxs s v) n, lst n s, pth) := by
    intro c
    induction c with
    | zero =>
      intro j hj m hm
      obtain ⟨m, rfl⟩ : ∃ m', m = m' + 1 := ⟨m - 1, by omega⟩
      obtain rfl : j = r.length := by omega
      show c_impl_JoinPath_L22 _ r x1 x2 v _ r r.length r.length _ _ some = _
      unfold c_impl_JoinPath_L22
      rw [decide_eq_false (by omega), cond_false, List.take_of_length_le (by rw [edges_len]; omega)]
    | succ c ih =>
      intro j hj m hm
      obtain ⟨m, rfl⟩ : ∃ m', m = m' + 1 := ⟨m - 1, by omega⟩
      obtain ⟨a, b, e1, e2, hab, hbn, he⟩ := hv j (by omega)
      have hnext := ih (j + 1) (by omega) m (by omega)
      rw [foldl_take he] at hnext
      generalize ((edges r).take j).foldl (nxs s v) n = acc at hnext ⊢
      have ga : ((lst n s).getD a (D.int 0)).toInt = s a := by rw [List.getD_eq_getElem?_getD, lst_get (by omega)]; rfl
      have gb : ((lst n s).getD b (D.int 0)).toInt = s b := by rw [List.getD_eq_getElem?_getD, lst_get hbn]; rfl
      have gv : ((lst n s).getD v (D.int 0)).toInt = s v := by rw [List.getD_eq_getElem?_getD, lst_get hvn]; rfl
      have f1 : ((r.getD j (D.int 0)).fld 0).toInt = (a : Int) := by rw [List.getD_eq_getElem?_getD]; exact e1
      have f2 : ((r.getD j (D.int 0)).fld 1).toInt = (b : Int) := by rw [List.getD_eq_getElem?_getD]; exact e2
      have hsv := hs v
      have hw : IntKind.i64.wrap (s v - 1) = s v - 1 := wrap_id (by omega) (by omega)
      show c_impl_JoinPath_L22 (n_impl_JoinPath_L22 m) r x1 x2 v acc r r.length j _ _ some = _
      unfold c_impl_JoinPath_L22
      simp only [Int.toNat_natCast, f1, f2, ga, gb, gv, lst_len, Option.bind_fun_some, hw, min_if]
      rw [succ_wrap (by omega), decide_eq_true (show (j : Int) < (r.length : Int) by omega), cond_true, if_pos (by omega)]
      by_cases c1 : a = v
      · rw [decide_eq_true (show (a : Int) = (v : Int) by omega), cond_true, if_pos (by omega), if_pos (by omega), if_pos (by omega), if_pos (by omega), decide_eq_false (show ¬ (b : Int) = (v : Int) by omega), cond_false, cond_false]
        by_cases c2 : s b = s v - 1
        · rw [decide_eq_true c2, cond_true]
          have : nxs s v acc (a, b) = min acc (b : Int) := by unfold nxs; rw [if_pos c1, if_pos c2]
          rw [this] at hnext
          exact hnext
        · rw [decide_eq_false c2, cond_false]
          have : nxs s v acc (a, b) = acc := by unfold nxs; rw [if_pos c1, if_neg c2]
          rw [this] at hnext
          exact hnext
      · rw [decide_eq_false (show ¬ (a : Int) = (v : Int) by omega), cond_false]
        by_cases c3 : b = v
        · rw [decide_eq_true (show (b : Int) = (v : Int) by omega), cond_true, if_pos (by omega), if_pos (by omega), if_pos (by omega), if_pos (by omega)]
          by_cases c2 : s a = s v - 1
          · rw [decide_eq_true c2, cond_true]
            have : nxs s v acc (a, b) = min acc (a : Int) := by unfold nxs; rw [if_neg c1, if_pos c3, if_pos c2]
            rw [this] at hnext
            exact hnext
          · rw [decide_eq_false c2, cond_false]
            have : nxs s v acc (a, b) = acc := by unfold nxs; rw [if_neg c1, if_pos c3, if_neg c2]
            rw [this] at hnext
            exact hnext
        · rw [decide_eq_false (show ¬ (b : Int) = (v : Int) by omega), cond_false]
          have : nxs s v acc (a, b) = acc := by unfold nxs; rw [if_neg c1, if_neg c3]
          rw [this] at hnext
          exact hnext
  exact ev_eq (f := fun m => n_impl_JoinPath_L22 m r x1 x2 v n r r.length 0 (lst n s) pth) (r.length + 1) (fun m hm => key r.length 0 (by omega) m (by omega))

theorem iL19_eq {n : Nat} {r : List D} (hr : r.length ≤ 1000) (hv : validJ n r) (hn1 : 0 < n) (hn : n ≤ 12) (to : Nat) : ∀ (k v : Nat) (pre : List Nat), v < n → farS (edges r) n to v = k → k < n → pre.length + k ≤ 1000 →
    ∀ m, k < m → n_impl_JoinPath_L19 m r to n v (lst n (farS (edges r) n to)) (nD (pre ++ [v])) = some (nD (pre ++ gr (edges r) n to k v)) := by
  intro k
  induction k with
  | zero =>
    intro v pre hvn hf hk hp m hm
    obtain ⟨m, rfl⟩ : ∃ m', m = m' + 1 := ⟨m - 1, by omega⟩
    obtain ⟨k, e, hw⟩ := far_1 (E := edges r) (n := n) (to := to) (v := v) hn1 (by omega)
    obtain rfl : k = 0 := by omega
    have hvt : v = to := hw
    show c_impl_JoinPath_L19 _ r to n v _ _ some = _
    unfold c_impl_JoinPath_L19 gr
    rw [decide_eq_true (show (v : Int) = (to : Int) by omega)]; rfl
  | succ k ih =>
    intro v pre hvn hf hk hp m hm
    classical
    obtain ⟨m, rfl⟩ : ∃ m', m = m' + 1 := ⟨m - 1, by omega⟩
    have hvt : v ≠ to := fun h => by
      have := far_2 (E := edges r) (n := n) (to := to) (v := v) (k := 0) hn1 (by omega) h
      omega
    have hfar : ∀ i, adj (edges r) v i → (farS (edges r) n to i = farS (edges r) n to v - 1 ↔ Wk (edges r) to k i) := by
      intro i ha
      constructor
      · intro h
        obtain ⟨k', e, hw⟩ := far_1 (E := edges r) (n := n) (to := to) (v := i) hn1 (by omega)
        obtain rfl : k' = k := by omega
        exact hw
      · intro hw
        have h1 := far_2 (E := edges r) (n := n) (to := to) (v := i) (k := k) hn1 (by omega) hw
        obtain ⟨k', e, hw'⟩ := far_1 (E := edges r) (n := n) (to := to) (v := i) hn1 (by omega)
        have h2 := far_2 (E := edges r) (n := n) (to := to) (v := v) (k := k' + 1) hn1 (by omega) ⟨i, ha, hw'⟩
        omega
    obtain ⟨k1, e1, hwv⟩ := far_1 (E := edges r) (n := n) (to := to) (v := v) hn1 (by omega)
    obtain rfl : k1 = k + 1 := by omega
    obtain ⟨u, hau, hwu⟩ := hwv
    have hun := adj_lt hv hau
    obtain ⟨n1, n2, n3⟩ := nxs_spec (s := farS (edges r) n to) (v := v) (edges r) (n : Int)
    have hRu := n3 u ((hfar u hau).2 hwu) hau
    obtain ⟨i, hRi, hsi, hai⟩ := n2.resolve_left (by omega)
    have hwi := (hfar i hai).1 hsi
    have hin := adj_lt hv hai
    have hfirst : firstN (fun i => decide (adj (edges r) v i ∧ Wk (edges r) to k i)) n = some i := by
      cases hq : firstN (fun i => decide (adj (edges r) v i ∧ Wk (edges r) to k i)) n with
      | none =>
        have := firstN_none hq i hin
        simp only [decide_eq_false_iff_not] at this
        exact absurd ⟨hai, hwi⟩ this
      | some i' =>
        obtain ⟨q1, q2, q3⟩ := firstN_some hq
        have q2 := of_decide_eq_true q2
        have h1 := n3 i' ((hfar i' q2.1).2 q2.2) q2.1
        rcases Nat.lt_or_ge i i' with hlt | hge
        · have := q3 i hlt
          simp only [decide_eq_false_iff_not] at this
          exact absurd ⟨hai, hwi⟩ this
        · rw [show i' = i by omega]
    have hrec := ih i (pre ++ [v]) hin (by omega) (by omega) (by simp <;> omega) m (by omega)
    show c_impl_JoinPath_L19 (n_impl_JoinPath_L19 m) r to n v _ _ some = _
    unfold c_impl_JoinPath_L19 gr
    rw [decide_eq_false (show ¬ (v : Int) = (to : Int) by omega), iL22_eq hr hv hn _ (fun w => far_0 hn1) v hvn]
    simp only [Bool.not_false, cond_true, Option.bind_some, Option.bind_fun_some, hRi, nD_one, nD_app]
    rw [if_pos (by rw [nD_len, nD_len]; simp <;> omega), hrec, hfirst]
    simp

theorem gr_len {E : List (Nat × Nat)} {n to : Nat} : ∀ (k v : Nat), (gr E n to k v).length ≤ k + 1
  | 0, v => by unfold gr; simp
  | k + 1, v => by
    unfold gr
    rw [List.length_cons]
    split
    · rename_i i _
      have := gr_len (E := E) (n := n) (to := to) k i
      omega
    · simp

theorem walk_same {E : List (Nat × Nat)} {to : Nat} {s : Nat → Int} (h : allE E s) : ∀ (k v : Nat), Wk E to k v → s v = s to
  | 0, v, hw => by have : v = to := hw; rw [this]
  | k + 1, v, ⟨u, ha, hw⟩ => by
    have h1 := walk_same h k u hw
    rcases ha with ha | ha
    · have := h _ ha; simp only at this; rw [this]; exact h1
    · have := h _ ha; simp only at this; rw [← this]; exact h1

theorem lst_rep (n : Nat) (x : Int) : List.replicate n (D.int x) = lst n (fun _ => x) := by
  apply List.ext_getElem
  · simp [lst]
  · intro i h1 h2
    simp [lst]

theorem jp_same (l r : List D) (a b : Int) (hl : l.length ≤ 1048576) (hr : r.length ≤ 1048576) : ∃ y, spec_JoinPath l r a b = some y ∧ impl_JoinPath l r a b = some y ∧ y.1.length ≤ 1048576 := by
  obtain ⟨v, h1, h2, h3⟩ := sherds_good l r hl hr
  simp only [spec_JoinPath, c_spec_JoinPath, impl_JoinPath, c_impl_JoinPath, h1, h2, l1In_eq, within_eq, Option.bind_some]
  cases v with
  | false => exact ⟨_, rfl, rfl, by simp⟩
  | true =>
    obtain ⟨hl12, hr20, hj⟩ := h3 rfl
    have hv := validJ_of hj
    have hw : IntKind.i64.wrap ((l.length : Int) - 1) = (l.length : Int) - 1 := wrap_id (by omega) (by omega)
    simp only [Bool.not_true, cond_false, hw]
    cases ha : btw a 0 ((l.length : Int) - 1) with
    | false => exact ⟨_, rfl, rfl, by simp⟩
    | true =>
      cases hb : btw b 0 ((l.length : Int) - 1) with
      | false => exact ⟨_, rfl, rfl, by simp⟩
      | true =>
        rw [btw_iff] at ha hb
        obtain ⟨a, rfl⟩ : ∃ u : Nat, a = (u : Int) := ⟨a.toNat, by omega⟩
        obtain ⟨b, rfl⟩ : ∃ u : Nat, b = (u : Int) := ⟨b.toNat, by omega⟩
        have hn1 : 0 < l.length := by omega
        have han : a < l.length := by omega
        have hbn : b < l.length := by omega
        have hset : (List.replicate l.length (D.int (l.length : Int))).set b (D.int 0) = lst l.length (s0F l.length b) := by
          rw [lst_rep, lst_set]; rfl
        have f0 := far_0 (E := edges r) (n := l.length) (to := b) (v := a) hn1
        have hga : ((lst l.length (farS (edges r) l.length b)).getD a (D.int 0)).toInt = farS (edges r) l.length b a := by rw [List.getD_eq_getElem?_getD, lst_get han]; rfl
        simp only [Bool.not_true, cond_false, sLab_eq l.length r (by omega) hr hv, Option.bind_some, L6_eq hr hv hl12 a b han hbn, rep_eq l.length hn1 hl12, List.length_replicate, Int.toNat_natCast, hset]
        rw [if_pos (show (0 : Int) ≤ (b : Int) ∧ (b : Int) < (l.length : Int) by omega), if_pos (show b + 1 ≤ l.length by omega), iL7_eq (by omega) hv hn1 hl12 b]
        simp only [Option.bind_some, lst_len, Int.toNat_natCast, hga]
        rw [if_pos (show (0 : Int) ≤ (a : Int) ∧ (a : Int) < (l.length : Int) by omega), if_pos (show a + 1 ≤ l.length by omega)]
        by_cases hd : farS (edges r) l.length b a < l.length
        · obtain ⟨k, e, hwk⟩ := far_1 (E := edges r) (n := l.length) (to := b) (v := a) hn1 hd
          have hlab : finalS r a = finalS r b := walk_same (iter_full _ _) k a hwk
          have hp : impl_JoinPath_L19 r b l.length a (lst l.length (farS (edges r) l.length b)) [D.int (a : Int)] = some (nD (gr (edges r) l.length b k a)) :=
            ev_eq (f := fun m => n_impl_JoinPath_L19 m r b l.length a (lst l.length (farS (edges r) l.length b)) [D.int (a : Int)]) (k + 1) (fun m hm => by
              have := iL19_eq (by omega) hv hn1 hl12 b k a [] han e (by omega) (by simp <;> omega) m (by omega)
              simpa [nD_one] using this)
          rw [if_pos ⟨hlab, hd⟩, decide_eq_false (by omega), cond_false, hp, Option.bind_some, e, Int.toNat_natCast]
          refine ⟨_, rfl, rfl, ?_⟩
          rw [nD_len]
          have := gr_len (E := edges r) (n := l.length) (to := b) k a
          omega
        · rw [if_neg (fun h => hd h.2), decide_eq_true (by omega), cond_true]
          exact ⟨_, rfl, rfl, by simp⟩

theorem pure_FnExactJoinPath (x0 : List D) (x1 : List D) (x2 : Int) (x3 : Int) (h0 : x0.length ≤ maxLen) (w0 : ∀ d ∈ x0, wfD (.struct [.int .i64, .int .i64, .int .i64, .int .i64]) d) (h1 : x1.length ≤ maxLen) (w1 : ∀ d ∈ x1, wfD (.struct [.int .i64, .int .i64]) d) (h2 : (Lit.int .i64 x2).wf = true) (h3 : (Lit.int .i64 x3).wf = true) : laws_FnExactJoinPath x0 x1 x2 x3 = some true := by
  unfold maxLen at h0 h1
  have hw : IntKind.i64.wrap (1048576 - (x0.length : Int)) = 1048576 - (x0.length : Int) := wrap_id (by omega) (by omega)
  by_cases hl : x0.length ≤ 1048576
  · have h2 : ¬ (1048576 - (x0.length : Int)) < 0 := by omega
    have hw2 : IntKind.i64.wrap (1048576 - (x0.length : Int) - (x1.length : Int)) = 1048576 - (x0.length : Int) - (x1.length : Int) := wrap_id (by omega) (by omega)
    by_cases hr : (1048576 - (x0.length : Int) - (x1.length : Int)) < 0
    · simp [laws_FnExactJoinPath, c_laws_FnExactJoinPath, laws_szSherdS, c_laws_szSherdS, laws_szJoinS, c_laws_szJoinS, hw, h2, hw2, hr]
    · have hr' : x1.length ≤ 1048576 := by omega
      obtain ⟨y, hb1, hb2, hb3⟩ := jp_same x0 x1 x2 x3 hl hr'
      obtain ⟨k1, l1, e1, e1'⟩ := markSherdS_ok x0 hl
      obtain ⟨k2, l2, e2, e2'⟩ := markJoinS_ok x1 k1 e1' hr'
      have e3 : ¬ k2 < 0 := by omega
      have e4 := markIntS_k y.1 1 (by omega) hb3
      have e5 := heldIntS_k y.1.length 1 (by omega) hb3
      have e6 : ¬ (1 + (y.1.length : Int)) < 0 := by omega
      simp [laws_FnExactJoinPath, c_laws_FnExactJoinPath, laws_szSherdS, c_laws_szSherdS, laws_szJoinS, c_laws_szJoinS, hw, h2, hw2, hr, toSherdS_id x0 hl w0, toJoinS_id x1 hr' w1, hb1, hb2, eqSherdS_self x0 hl, eqJoinS_self x1 hr', eqIntS_self y.1 hb3, e1, e2, e3, e4, e5, e6]
  · have h2 : (1048576 - (x0.length : Int)) < 0 := by omega
    simp [laws_FnExactJoinPath, c_laws_FnExactJoinPath, laws_szSherdS, c_laws_szSherdS, hw, h2]

end Go.Proofs.Ythkmcndfifgdpaa
