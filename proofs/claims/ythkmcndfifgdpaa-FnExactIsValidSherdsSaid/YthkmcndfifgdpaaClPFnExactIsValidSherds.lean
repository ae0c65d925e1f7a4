/- The law FnExactIsValidSherds over plain values. No condition beside those of the statement. -/
import Derived.Test.YthkmcndfifgdpaaClMFnExactIsValidSherds
import Derived.Test.YthkmcndfifgdpaaRaiU5
set_option linter.unusedVariables false
set_option linter.unusedSimpArgs false
set_option maxRecDepth 100000
namespace Go.Proofs.Ythkmcndfifgdpaa
open Go Go.Rai

abbrev tSh : Ty := .struct [.int .i64, .int .i64, .int .i64, .int .i64]

theorem tSh_wf {d : D} (h : wfD tSh d) : ∃ a b c e : Int, d = .node [.int a, .int b, .int c, .int e] := by
  obtain ⟨l, rfl, x1, r1, rfl, ⟨a, rfl, _⟩, x2, r2, rfl, ⟨b, rfl, _⟩, x3, r3, rfl, ⟨c, rfl, _⟩, x4, r4, rfl, ⟨e, rfl, _⟩, h⟩ := h
  obtain rfl := h
  exact ⟨a, b, c, e, rfl⟩

theorem toSherdS_id (l : List D) (hl : l.length ≤ 1048576) (w : ∀ d ∈ l, wfD tSh d) : laws_toSherdS l = some l := by
  have key : laws_toSherdS_L3 l 0 (List.replicate l.length (.node [.int 0, .int 0, .int 0, .int 0])) = some l := by
    refine copy_loop (N := n_laws_toSherdS_L3) (fun m i acc hi hacc => ?_) (fun m acc hacc => ?_)
    · obtain ⟨a, b, c, e, hd⟩ := tSh_wf (w _ (get_mem hi))
      have hw : IntKind.i64.wrap ((i : Int) + 1) = (i : Int) + 1 := wrap_id (by omega) (by omega)
      have h2 : (i : Int) < acc.length := by omega
      have h3 : i + 1 ≤ acc.length := by omega
      have h1 : (i : Int) < l.length := by omega
      simp [n_laws_toSherdS_L3, c_laws_toSherdS_L3, laws_toSherd, c_laws_toSherd, h1, h2, h3, hw, hd, fld_node, toInt_int]
    · simp [n_laws_toSherdS_L3, c_laws_toSherdS_L3]
  have h4 : (l.length : Int) ≤ 4294967296 := by omega
  simp [laws_toSherdS, c_laws_toSherdS, key, h4]

theorem eqSherdS_self (l : List D) (hl : l.length ≤ 1048576) : laws_eqSherdS l l = some true := by
  have key : laws_eqSherdS_L4 l l 0 = some (.inr ()) := by
    refine all_loop (N := fun n i => n_laws_eqSherdS_L4 n l l i) (len := l.length) (fun m i hi => ?_) (fun m => ?_)
    · have hw : IntKind.i64.wrap ((i : Int) + 1) = (i : Int) + 1 := wrap_id (by omega) (by omega)
      have h1 : (i : Int) < l.length := by omega
      simp [n_laws_eqSherdS_L4, c_laws_eqSherdS_L4, laws_eqSherd, c_laws_eqSherd, h1, hw]
    · simp [n_laws_eqSherdS_L4, c_laws_eqSherdS_L4]
  simp [laws_eqSherdS, c_laws_eqSherdS, key]


abbrev tJoin : Ty := .struct [.int .i64, .int .i64]

theorem tJoin_wf {d : D} (h : wfD tJoin d) : ∃ a b : Int, d = .node [.int a, .int b] := by
  obtain ⟨l, rfl, x1, r1, rfl, ⟨a, rfl, _⟩, x2, r2, rfl, ⟨b, rfl, _⟩, h⟩ := h
  obtain rfl := h
  exact ⟨a, b, rfl⟩

theorem toJoinS_id (l : List D) (hl : l.length ≤ 1048576) (w : ∀ d ∈ l, wfD tJoin d) : laws_toJoinS l = some l := by
  have key : laws_toJoinS_L3 l 0 (List.replicate l.length (.node [.int 0, .int 0])) = some l := by
    refine copy_loop (N := n_laws_toJoinS_L3) (fun m i acc hi hacc => ?_) (fun m acc hacc => ?_)
    · obtain ⟨a, b, hd⟩ := tJoin_wf (w _ (get_mem hi))
      have hw : IntKind.i64.wrap ((i : Int) + 1) = (i : Int) + 1 := wrap_id (by omega) (by omega)
      have h2 : (i : Int) < acc.length := by omega
      have h3 : i + 1 ≤ acc.length := by omega
      have h1 : (i : Int) < l.length := by omega
      simp [n_laws_toJoinS_L3, c_laws_toJoinS_L3, laws_toJoin, c_laws_toJoin, h1, h2, h3, hw, hd, fld_node, toInt_int]
    · simp [n_laws_toJoinS_L3, c_laws_toJoinS_L3]
  have h4 : (l.length : Int) ≤ 4294967296 := by omega
  simp [laws_toJoinS, c_laws_toJoinS, key, h4]

theorem eqJoinS_self (l : List D) (hl : l.length ≤ 1048576) : laws_eqJoinS l l = some true := by
  have key : laws_eqJoinS_L4 l l 0 = some (.inr ()) := by
    refine all_loop (N := fun n i => n_laws_eqJoinS_L4 n l l i) (len := l.length) (fun m i hi => ?_) (fun m => ?_)
    · have hw : IntKind.i64.wrap ((i : Int) + 1) = (i : Int) + 1 := wrap_id (by omega) (by omega)
      have h1 : (i : Int) < l.length := by omega
      simp [n_laws_eqJoinS_L4, c_laws_eqJoinS_L4, laws_eqJoin, c_laws_eqJoin, h1, hw]
    · simp [n_laws_eqJoinS_L4, c_laws_eqJoinS_L4]
  simp [laws_eqJoinS, c_laws_eqJoinS, key]


theorem l1In_eq (x a b : Int) : spec_l1In x a b = some (btw x a b) := by
  unfold spec_l1In c_spec_l1In btw
  by_cases h : a ≤ x <;> simp [h]
theorem within_eq (x a b : Int) : impl_within x a b = some (btw x a b) := by
  unfold impl_within c_impl_within btw
  by_cases h : a ≤ x <;> simp [h]


def cmpV (x y : Int) : Int := if x < y then -1 else if y < x then 1 else 0
theorem compare_eq (x y : Int) : cmp_Compare x y = some (cmpV x y) := by
  simp only [cmp_Compare, c_cmp_Compare, cmp_isNaN, c_cmp_isNaN, Option.bind_some, decide_true, Bool.not_true, cond_false, cmpV]
  by_cases h : x < y
  · simp [h]
  · by_cases h2 : y < x <;> simp [h, h2]

theorem or_eq (a b : Int) : cmp_Or [.int a, .int b] = some (if a = 0 then b else a) := by
  have w1 : IntKind.i64.wrap 1 = 1 := by decide
  have w2 : IntKind.i64.wrap 2 = 2 := by decide
  have key : ∃ y, cmp_Or_L3 0 [.int a, .int b] 2 0 = some y ∧ (match y with | .inl z => z.1 | .inr z => z) = (if a = 0 then b else a) := by
    by_cases ha : a = 0
    · by_cases hb : b = 0
      · refine ⟨.inr 0, ev_eq (f := fun m => n_cmp_Or_L3 m 0 [.int a, .int b] 2 0) 3 (fun m hm => ?_), by simp [ha, hb]⟩
        obtain ⟨m, rfl⟩ : ∃ m', m = m' + 3 := ⟨m - 3, by omega⟩
        simp [n_cmp_Or_L3, c_cmp_Or_L3, ha, hb, toInt_int, w1, w2]
      · refine ⟨.inl (b, 0), ev_eq (f := fun m => n_cmp_Or_L3 m 0 [.int a, .int b] 2 0) 2 (fun m hm => ?_), by simp [ha]⟩
        obtain ⟨m, rfl⟩ : ∃ m', m = m' + 2 := ⟨m - 2, by omega⟩
        simp [n_cmp_Or_L3, c_cmp_Or_L3, ha, hb, toInt_int, w1]
    · refine ⟨.inl (a, 0), ev_eq (f := fun m => n_cmp_Or_L3 m 0 [.int a, .int b] 2 0) 1 (fun m hm => ?_), by simp [ha]⟩
      obtain ⟨m, rfl⟩ : ∃ m', m = m' + 1 := ⟨m - 1, by omega⟩
      simp [n_cmp_Or_L3, c_cmp_Or_L3, ha, toInt_int]
  obtain ⟨y, h1, h2⟩ := key
  rw [← h2]
  simp only [cmp_Or, c_cmp_Or, show (([D.int a, D.int b] : List D).length : Int) = 2 from rfl, h1, Option.bind_some]
  cases y <;> rfl

def sherdB (d : D) : Bool := btw (d.fld 0).toInt 1 999 && (btw (d.fld 1).toInt 0 9 && (btw (d.fld 2).toInt 0 3599 && btw (d.fld 3).toInt 1 3600))

theorem sL4_eq (l r : List D) (hl : l.length ≤ 1048576) : spec_l15Good_L4 l r 0 = some (match firstN (fun i => !sherdB (l[i]?.getD (.int 0))) l.length with | some _ => .inl (l, r, false) | none => .inr (l, r)) := by
  refine scan_loop (N := fun m i => n_spec_l15Good_L4 m l r i) _ (fun _ => .inl (l, r, false)) (fun m i hi => ?_) (fun m => ?_)
  · have hw : IntKind.i64.wrap ((i : Int) + 1) = (i : Int) + 1 := wrap_id (by omega) (by omega)
    have h1 : (i : Int) < l.length := by omega
    simp only [n_spec_l15Good_L4, c_spec_l15Good_L4, h1, hw, l1In_eq, decide_true, cond_true, Int.natCast_nonneg, and_self, if_true, Int.toNat_natCast, List.getD_eq_getElem?_getD, Option.bind_some, sherdB]
    generalize l[i]?.getD (D.int 0) = d
    cases btw (d.fld 0).toInt 1 999 <;> cases btw (d.fld 1).toInt 0 9 <;> cases btw (d.fld 2).toInt 0 3599 <;> cases btw (d.fld 3).toInt 1 3600 <;> simp
  · simp [n_spec_l15Good_L4, c_spec_l15Good_L4]

theorem iL2_eq (l r : List D) (hl : l.length ≤ 1048576) : impl_IsValidSherds_L2 l r l l.length 0 = some (match firstN (fun i => !sherdB (l[i]?.getD (.int 0))) l.length with | some _ => .inl (l, r, false) | none => .inr (l, r)) := by
  refine scan_loop (N := fun m i => n_impl_IsValidSherds_L2 m l r l l.length i) _ (fun _ => .inl (l, r, false)) (fun m i hi => ?_) (fun m => ?_)
  · have hw : IntKind.i64.wrap ((i : Int) + 1) = (i : Int) + 1 := wrap_id (by omega) (by omega)
    have h1 : (i : Int) < l.length := by omega
    simp only [n_impl_IsValidSherds_L2, c_impl_IsValidSherds_L2, h1, hw, impl_isNumber, c_impl_isNumber, within_eq, decide_true, cond_true, Int.natCast_nonneg, and_self, if_true, Int.toNat_natCast, List.getD_eq_getElem?_getD, Option.bind_some, sherdB]
    generalize l[i]?.getD (D.int 0) = d
    cases btw (d.fld 0).toInt 1 999 <;> cases btw (d.fld 1).toInt 0 9 <;> cases btw (d.fld 2).toInt 0 3599 <;> cases btw (d.fld 3).toInt 1 3600 <;> simp
  · simp [n_impl_IsValidSherds_L2, c_impl_IsValidSherds_L2]

def jA (l : List D) (i : Nat) : Int := ((l[i]?.getD (.int 0)).fld 0).toInt
def jB (l : List D) (i : Nat) : Int := ((l[i]?.getD (.int 0)).fld 1).toInt
def joinBad (n : Int) (l : List D) (i : Nat) : Bool := decide (¬ (0 ≤ jA l i ∧ jA l i < jB l i ∧ jB l i < n)) || (decide (0 < i) && decide (jA l i < jA l (i - 1) ∨ (jA l (i - 1) = jA l i ∧ jB l i ≤ jB l (i - 1))))

theorem sL10_eq (l r : List D) (hl : l.length ≤ 1048576) (hr : r.length ≤ 1048576) : spec_l15Good_L10 l r 0 = some (match firstN (joinBad l.length r) r.length with | some _ => .inl false | none => .inr ()) := by
  refine scan_loop (N := fun m i => n_spec_l15Good_L10 m l r i) _ (fun _ => .inl false) (fun m i hi => ?_) (fun m => ?_)
  · have hw : IntKind.i64.wrap ((i : Int) + 1) = (i : Int) + 1 := wrap_id (by omega) (by omega)
    have h1 : (i : Int) < r.length := by omega
    have hwl : IntKind.i64.wrap ((l.length : Int) - 1) = (l.length : Int) - 1 := wrap_id (by omega) (by omega)
    by_cases c1 : 1 ≤ jB r i ∧ jB r i ≤ (l.length : Int) - 1
    · have hwb : IntKind.i64.wrap (jB r i - 1) = jB r i - 1 := wrap_id (by omega) (by omega)
      by_cases c2 : 0 ≤ jA r i ∧ jA r i ≤ jB r i - 1
      · have e1 : btw (jB r i) 1 ((l.length : Int) - 1) = true := btw_iff.2 c1
        have e2 : btw (jA r i) 0 (jB r i - 1) = true := btw_iff.2 c2
        have e3 : (¬ (0 ≤ jA r i ∧ jA r i < jB r i ∧ jB r i < (l.length : Int))) ↔ False := by simp; omega
        unfold joinBad
        by_cases c3 : 0 < i
        · have hwp : IntKind.i64.wrap ((i : Int) - 1) = ((i - 1 : Nat) : Int) := pred_wrap (by omega) c3
          have h3 : ((i - 1 : Nat) : Int) < r.length := by omega
          have h4 : (0 : Int) < i := by omega
          unfold jA jB at e1 e2 hwb
          simp only [n_spec_l15Good_L10, c_spec_l15Good_L10, h1, hw, hwl, hwb, hwp, h3, h4, l1In_eq, e1, e2, decide_true, cond_true, Int.natCast_nonneg, and_self, if_true, Int.toNat_natCast, List.getD_eq_getElem?_getD, Option.bind_some, Bool.not_true, cond_false]
          simp only [e3, c3]
          unfold jA jB
          by_cases d1 : ((r[i]?.getD (.int 0)).fld 0).toInt < ((r[i - 1]?.getD (.int 0)).fld 0).toInt
          · simp [d1]
          · by_cases d2 : ((r[i - 1]?.getD (.int 0)).fld 0).toInt = ((r[i]?.getD (.int 0)).fld 0).toInt
            · by_cases d3 : ((r[i]?.getD (.int 0)).fld 1).toInt ≤ ((r[i - 1]?.getD (.int 0)).fld 1).toInt <;> simp [d2, d3]
            · simp [d1, d2]
        · have h4 : ¬ (0 : Int) < i := by omega
          unfold jA jB at e1 e2 hwb
          simp only [n_spec_l15Good_L10, c_spec_l15Good_L10, h1, hw, hwl, hwb, h4, l1In_eq, e1, e2, decide_true, decide_false, cond_true, Int.natCast_nonneg, and_self, if_true, Int.toNat_natCast, List.getD_eq_getElem?_getD, Option.bind_some, Bool.not_true, cond_false]
          simp only [e3, c3]
          simp
      · have e1 : btw (jB r i) 1 ((l.length : Int) - 1) = true := btw_iff.2 c1
        have e2 : btw (jA r i) 0 (jB r i - 1) = false := by rw [← Bool.not_eq_true, btw_iff]; exact c2
        have e3 : (¬ (0 ≤ jA r i ∧ jA r i < jB r i ∧ jB r i < (l.length : Int))) ↔ True := by simp; omega
        unfold joinBad
        simp only [e3]
        unfold jA jB at e1 e2 hwb
        simp [n_spec_l15Good_L10, c_spec_l15Good_L10, h1, hwl, hwb, l1In_eq, e1, e2]
    · have e1 : btw (jB r i) 1 ((l.length : Int) - 1) = false := by rw [← Bool.not_eq_true, btw_iff]; exact c1
      have e3 : (¬ (0 ≤ jA r i ∧ jA r i < jB r i ∧ jB r i < (l.length : Int))) ↔ True := by simp; omega
      unfold joinBad
      simp only [e3]
      unfold jB at e1
      simp [n_spec_l15Good_L10, c_spec_l15Good_L10, h1, hwl, l1In_eq, e1]
  · simp [n_spec_l15Good_L10, c_spec_l15Good_L10]

theorem iL8_eq (l r : List D) (hl : l.length ≤ 1048576) (hr : r.length ≤ 1048576) : impl_IsValidSherds_L8 l r r r.length 0 = some (match firstN (joinBad l.length r) r.length with | some _ => .inl (l, r, false) | none => .inr (l, r)) := by
  refine scan_loop (N := fun m i => n_impl_IsValidSherds_L8 m l r r r.length i) _ (fun _ => .inl (l, r, false)) (fun m i hi => ?_) (fun m => ?_)
  · have hw : IntKind.i64.wrap ((i : Int) + 1) = (i : Int) + 1 := wrap_id (by omega) (by omega)
    have h1 : (i : Int) < r.length := by omega
    unfold joinBad
    by_cases c : 0 ≤ jA r i ∧ jA r i < jB r i ∧ jB r i < (l.length : Int)
    · have e3 : (¬ (0 ≤ jA r i ∧ jA r i < jB r i ∧ jB r i < (l.length : Int))) ↔ False := by simp; omega
      have f1 : ¬ jA r i < 0 := by omega
      have f2 : ¬ (l.length : Int) ≤ jB r i := by omega
      have f3 : ¬ jB r i ≤ jA r i := by omega
      by_cases c3 : 0 < i
      · have hwp : IntKind.i64.wrap ((i : Int) - 1) = ((i - 1 : Nat) : Int) := pred_wrap (by omega) c3
        have h3 : ((i - 1 : Nat) : Int) < r.length := by omega
        have h4 : (0 : Int) < i := by omega
        simp only [jA, jB] at f1 f2 f3
        simp only [n_impl_IsValidSherds_L8, c_impl_IsValidSherds_L8, h1, hw, hwp, h3, h4, f1, f2, f3, compare_eq, or_eq, decide_true, decide_false, cond_true, cond_false, Int.natCast_nonneg, and_self, if_true, Int.toNat_natCast, List.getD_eq_getElem?_getD, Option.bind_some]
        simp only [e3, c3]
        unfold jA jB
        generalize ((r[i - 1]?.getD (D.int 0)).fld 0).toInt = pa
        generalize ((r[i - 1]?.getD (D.int 0)).fld 1).toInt = pb
        generalize ((r[i]?.getD (D.int 0)).fld 0).toInt = xa
        generalize ((r[i]?.getD (D.int 0)).fld 1).toInt = xb
        have hc : decide (0 ≤ (if cmpV pa xa = 0 then cmpV pb xb else cmpV pa xa)) = decide (xa < pa ∨ pa = xa ∧ xb ≤ pb) := by
          rw [decide_eq_decide]
          unfold cmpV
          by_cases d1 : pa < xa
          · simp [d1] <;> omega
          · by_cases d2 : xa < pa
            · simp [d1, d2]
            · by_cases d3 : pb < xb
              · simp [d1, d2, d3] <;> omega
              · by_cases d4 : xb < pb
                · simp [d1, d2, d3, d4] <;> omega
                · simp [d1, d2, d3, d4] <;> omega
        rw [hc]
        cases decide (xa < pa ∨ pa = xa ∧ xb ≤ pb) <;> simp
      · have h4 : ¬ (0 : Int) < i := by omega
        simp only [jA, jB] at f1 f2 f3
        simp only [n_impl_IsValidSherds_L8, c_impl_IsValidSherds_L8, h1, hw, h4, f1, f2, f3, decide_true, decide_false, cond_true, cond_false, Int.natCast_nonneg, and_self, if_true, Int.toNat_natCast, List.getD_eq_getElem?_getD, Option.bind_some]
        simp only [e3, c3]
        simp
    · have e3 : (¬ (0 ≤ jA r i ∧ jA r i < jB r i ∧ jB r i < (l.length : Int))) ↔ True := by simp only [c]; simp
      simp only [e3]
      by_cases f1 : jA r i < 0
      · unfold jA at f1
        simp [n_impl_IsValidSherds_L8, c_impl_IsValidSherds_L8, h1, f1]
      · by_cases f2 : (l.length : Int) ≤ jB r i
        · unfold jA at f1; unfold jB at f2
          simp [n_impl_IsValidSherds_L8, c_impl_IsValidSherds_L8, h1, f1, f2]
        · have f3 : jB r i ≤ jA r i := by omega
          unfold jA at f1; unfold jB at f2; unfold jA jB at f3
          simp [n_impl_IsValidSherds_L8, c_impl_IsValidSherds_L8, h1, f1, f2, f3]
  · simp [n_impl_IsValidSherds_L8, c_impl_IsValidSherds_L8]

theorem sherds_same (l r : List D) (hl : l.length ≤ 1048576) (hr : r.length ≤ 1048576) : ∃ b, spec_IsValidSherds l r = some b ∧ impl_IsValidSherds l r = some b := by
  simp only [spec_IsValidSherds, c_spec_IsValidSherds, spec_l15Good, c_spec_l15Good, impl_IsValidSherds, c_impl_IsValidSherds, sL4_eq l r hl, iL2_eq l r hl, Option.bind_some]
  by_cases c1 : (12 : Int) < l.length
  · refine ⟨false, by simp [c1], ?_⟩
    cases firstN (fun i => !sherdB (l[i]?.getD (.int 0))) l.length with
    | some _ => rfl
    | none =>
      simp only [Sum.elim_inr, iL8_eq l r hl hr, Option.bind_some]
      cases firstN (joinBad l.length r) r.length with
      | some _ => rfl
      | none => have : ¬ (l.length : Int) ≤ 12 := by omega
                simp [this]
  · by_cases c2 : (20 : Int) < r.length
    · refine ⟨false, by simp [c1, c2], ?_⟩
      cases firstN (fun i => !sherdB (l[i]?.getD (.int 0))) l.length with
      | some _ => rfl
      | none =>
        simp only [Sum.elim_inr, iL8_eq l r hl hr, Option.bind_some]
        cases firstN (joinBad l.length r) r.length with
        | some _ => rfl
        | none => have : ¬ (r.length : Int) ≤ 20 := by omega
                  simp [this]
    · have c1' : (l.length : Int) ≤ 12 := by omega
      have c2' : (r.length : Int) ≤ 20 := by omega
      simp only [c1, c2, decide_false, cond_false]
      cases firstN (fun i => !sherdB (l[i]?.getD (.int 0))) l.length with
      | some _ => exact ⟨false, rfl, rfl⟩
      | none =>
        simp only [Sum.elim_inr, sL10_eq l r hl hr, iL8_eq l r hl hr, Option.bind_some]
        cases firstN (joinBad l.length r) r.length with
        | some _ => exact ⟨false, rfl, rfl⟩
        | none => exact ⟨true, rfl, by simp [c1', c2']⟩

theorem pure_FnExactIsValidSherds (x0 : List D) (x1 : List D) (h0 : x0.length ≤ maxLen) (w0 : ∀ d ∈ x0, wfD (.struct [.int .i64, .int .i64, .int .i64, .int .i64]) d) (h1 : x1.length ≤ maxLen) (w1 : ∀ d ∈ x1, wfD (.struct [.int .i64, .int .i64]) d) : laws_FnExactIsValidSherds x0 x1 = some true := by
  unfold maxLen at h0 h1
  have hw : IntKind.i64.wrap (1048576 - (x0.length : Int)) = 1048576 - (x0.length : Int) := wrap_id (by omega) (by omega)
  by_cases hl : x0.length ≤ 1048576
  · have h2 : ¬ (1048576 - (x0.length : Int)) < 0 := by omega
    have hw2 : IntKind.i64.wrap (1048576 - (x0.length : Int) - (x1.length : Int)) = 1048576 - (x0.length : Int) - (x1.length : Int) := wrap_id (by omega) (by omega)
    by_cases hr : (1048576 - (x0.length : Int) - (x1.length : Int)) < 0
    · simp [laws_FnExactIsValidSherds, c_laws_FnExactIsValidSherds, laws_szSherdS, c_laws_szSherdS, laws_szJoinS, c_laws_szJoinS, hw, h2, hw2, hr]
    · have hr' : x1.length ≤ 1048576 := by omega
      obtain ⟨b, hb1, hb2⟩ := sherds_same x0 x1 hl hr'
      simp [laws_FnExactIsValidSherds, c_laws_FnExactIsValidSherds, laws_szSherdS, c_laws_szSherdS, laws_szJoinS, c_laws_szJoinS, hw, h2, hw2, hr, toSherdS_id x0 hl w0, toJoinS_id x1 hr' w1, hb1, hb2, eqSherdS_self x0 hl, eqJoinS_self x1 hr']
  · have h2 : (1048576 - (x0.length : Int)) < 0 := by omega
    simp [laws_FnExactIsValidSherds, c_laws_FnExactIsValidSherds, laws_szSherdS, c_laws_szSherdS, hw, h2]

end Go.Proofs.Ythkmcndfifgdpaa
