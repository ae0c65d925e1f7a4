/- The law FnExactMatchingSherds over plain values. No condition beside those of the statement. -/
import Derived.Test.YthkmcndfifgdpaaClMFnExactMatchingSherds
import Derived.Test.YthkmcndfifgdpaaRaiU5
set_option linter.unusedVariables false
set_option linter.unusedSimpArgs false
set_option maxRecDepth 100000
namespace Go.Proofs.Ythkmcndfifgdpaa
open Go Go.Rai

abbrev tSh : Ty := .struct [.int .i64, .int .i64, .int .i64, .int .i64]

theorem tSh_wf {d : D} (h : wfD tSh d) : ∃ a b c e : Int, d = .node [.int a, .int b, .int c, .int e] := by
  obtain ⟨l, rfl, x1, r1, rfl, ⟨a, rfl, _⟩, x2, r2, rfl, ⟨b, rfl, _⟩, x3, r3, rfl, ⟨c, rfl, _⟩, x4, r4, rfl, ⟨e, rfl, _⟩, h⟩ := h
  obtain rfl := h
  exact ⟨a, b, c, e, rfl⟩

theorem toSherdS_id (l : List D) (hl : l.length ≤ 1048576) (w : ∀ d ∈ l, wfD tSh d) : laws_toSherdS l = some l := by
  have key : laws_toSherdS_L3 l 0 (List.replicate l.length (.node [.int 0, .int 0, .int 0, .int 0])) = some l := by
    refine copy_loop (N := n_laws_toSherdS_L3) (fun m i acc hi hacc => ?_) (fun m acc hacc => ?_)
    · obtain ⟨a, b, c, e, hd⟩ := tSh_wf (w _ (get_mem hi))
      have hw : IntKind.i64.wrap ((i : Int) + 1) = (i : Int) + 1 := wrap_id (by omega) (by omega)
      have h2 : (i : Int) < acc.length := by omega
      have h3 : i + 1 ≤ acc.length := by omega
      have h1 : (i : Int) < l.length := by omega
      simp [n_laws_toSherdS_L3, c_laws_toSherdS_L3, laws_toSherd, c_laws_toSherd, h1, h2, h3, hw, hd, fld_node, toInt_int]
    · simp [n_laws_toSherdS_L3, c_laws_toSherdS_L3]
  have h4 : (l.length : Int) ≤ 4294967296 := by omega
  simp [laws_toSherdS, c_laws_toSherdS, key, h4]

theorem eqSherdS_self (l : List D) (hl : l.length ≤ 1048576) : laws_eqSherdS l l = some true := by
  have key : laws_eqSherdS_L4 l l 0 = some (.inr ()) := by
    refine all_loop (N := fun n i => n_laws_eqSherdS_L4 n l l i) (len := l.length) (fun m i hi => ?_) (fun m => ?_)
    · have hw : IntKind.i64.wrap ((i : Int) + 1) = (i : Int) + 1 := wrap_id (by omega) (by omega)
      have h1 : (i : Int) < l.length := by omega
      simp [n_laws_eqSherdS_L4, c_laws_eqSherdS_L4, laws_eqSherd, c_laws_eqSherd, h1, hw]
    · simp [n_laws_eqSherdS_L4, c_laws_eqSherdS_L4]
  simp [laws_eqSherdS, c_laws_eqSherdS, key]


abbrev tJoin : Ty := .struct [.int .i64, .int .i64]

theorem tJoin_wf {d : D} (h : wfD tJoin d) : ∃ a b : Int, d = .node [.int a, .int b] := by
  obtain ⟨l, rfl, x1, r1, rfl, ⟨a, rfl, _⟩, x2, r2, rfl, ⟨b, rfl, _⟩, h⟩ := h
  obtain rfl := h
  exact ⟨a, b, rfl⟩

theorem toJoinS_id (l : List D) (hl : l.length ≤ 1048576) (w : ∀ d ∈ l, wfD tJoin d) : laws_toJoinS l = some l := by
  have key : laws_toJoinS_L3 l 0 (List.replicate l.length (.node [.int 0, .int 0])) = some l := by
    refine copy_loop (N := n_laws_toJoinS_L3) (fun m i acc hi hacc => ?_) (fun m acc hacc => ?_)
    · obtain ⟨a, b, hd⟩ := tJoin_wf (w _ (get_mem hi))
      have hw : IntKind.i64.wrap ((i : Int) + 1) = (i : Int) + 1 := wrap_id (by omega) (by omega)
      have h2 : (i : Int) < acc.length := by omega
      have h3 : i + 1 ≤ acc.length := by omega
      have h1 : (i : Int) < l.length := by omega
      simp [n_laws_toJoinS_L3, c_laws_toJoinS_L3, laws_toJoin, c_laws_toJoin, h1, h2, h3, hw, hd, fld_node, toInt_int]
    · simp [n_laws_toJoinS_L3, c_laws_toJoinS_L3]
  have h4 : (l.length : Int) ≤ 4294967296 := by omega
  simp [laws_toJoinS, c_laws_toJoinS, key, h4]

theorem eqJoinS_self (l : List D) (hl : l.length ≤ 1048576) : laws_eqJoinS l l = some true := by
  have key : laws_eqJoinS_L4 l l 0 = some (.inr ()) := by
    refine all_loop (N := fun n i => n_laws_eqJoinS_L4 n l l i) (len := l.length) (fun m i hi => ?_) (fun m => ?_)
    · have hw : IntKind.i64.wrap ((i : Int) + 1) = (i : Int) + 1 := wrap_id (by omega) (by omega)
      have h1 : (i : Int) < l.length := by omega
      simp [n_laws_eqJoinS_L4, c_laws_eqJoinS_L4, laws_eqJoin, c_laws_eqJoin, h1, hw]
    · simp [n_laws_eqJoinS_L4, c_laws_eqJoinS_L4]
  simp [laws_eqJoinS, c_laws_eqJoinS, key]


theorem l1In_eq (x a b : Int) : spec_l1In x a b = some (btw x a b) := by
  unfold spec_l1In c_spec_l1In btw
  by_cases h : a ≤ x <;> simp [h]
theorem within_eq (x a b : Int) : impl_within x a b = some (btw x a b) := by
  unfold impl_within c_impl_within btw
  by_cases h : a ≤ x <;> simp [h]


def cmpV (x y : Int) : Int := if x < y then -1 else if y < x then 1 else 0
theorem compare_eq (x y : Int) : cmp_Compare x y = some (cmpV x y) := by
  simp only [cmp_Compare, c_cmp_Compare, cmp_isNaN, c_cmp_isNaN, Option.bind_some, decide_true, Bool.not_true, cond_false, cmpV]
  by_cases h : x < y
  · simp [h]
  · by_cases h2 : y < x <;> simp [h, h2]

theorem or_eq (a b : Int) : cmp_Or [.int a, .int b] = some (if a = 0 then b else a) := by
  have w1 : IntKind.i64.wrap 1 = 1 := by decide
  have w2 : IntKind.i64.wrap 2 = 2 := by decide
  have key : ∃ y, cmp_Or_L3 0 [.int a, .int b] 2 0 = some y ∧ (match y with | .inl z => z.1 | .inr z => z) = (if a = 0 then b else a) := by
    by_cases ha : a = 0
    · by_cases hb : b = 0
      · refine ⟨.inr 0, ev_eq (f := fun m => n_cmp_Or_L3 m 0 [.int a, .int b] 2 0) 3 (fun m hm => ?_), by simp [ha, hb]⟩
        obtain ⟨m, rfl⟩ : ∃ m', m = m' + 3 := ⟨m - 3, by omega⟩
        simp [n_cmp_Or_L3, c_cmp_Or_L3, ha, hb, toInt_int, w1, w2]
      · refine ⟨.inl (b, 0), ev_eq (f := fun m => n_cmp_Or_L3 m 0 [.int a, .int b] 2 0) 2 (fun m hm => ?_), by simp [ha]⟩
        obtain ⟨m, rfl⟩ : ∃ m', m = m' + 2 := ⟨m - 2, by omega⟩
        simp [n_cmp_Or_L3, c_cmp_Or_L3, ha, hb, toInt_int, w1]
    · refine ⟨.inl (a, 0), ev_eq (f := fun m => n_cmp_Or_L3 m 0 [.int a, .int b] 2 0) 1 (fun m hm => ?_), by simp [ha]⟩
      obtain ⟨m, rfl⟩ : ∃ m', m = m' + 1 := ⟨m - 1, by omega⟩
      simp [n_cmp_Or_L3, c_cmp_Or_L3, ha, toInt_int]
  obtain ⟨y, h1, h2⟩ := key
  rw [← h2]
  simp only [cmp_Or, c_cmp_Or, show (([D.int a, D.int b] : List D).length : Int) = 2 from rfl, h1, Option.bind_some]
  cases y <;> rfl

def sherdB (d : D) : Bool := btw (d.fld 0).toInt 1 999 && (btw (d.fld 1).toInt 0 9 && (btw (d.fld 2).toInt 0 3599 && btw (d.fld 3).toInt 1 3600))

theorem sL4_eq (l r : List D) (hl : l.length ≤ 1048576) : spec_l15Good_L4 l r 0 = some (match firstN (fun i => !sherdB (l[i]?.getD (.int 0))) l.length with | some _ => .inl (l, r, false) | none => .inr (l, r)) := by
  refine scan_loop (N := fun m i => n_spec_l15Good_L4 m l r i) _ (fun _ => .inl (l, r, false)) (fun m i hi => ?_) (fun m => ?_)
  · have hw : IntKind.i64.wrap ((i : Int) + 1) = (i : Int) + 1 := wrap_id (by omega) (by omega)
    have h1 : (i : Int) < l.length := by omega
    simp only [n_spec_l15Good_L4, c_spec_l15Good_L4, h1, hw, l1In_eq, decide_true, cond_true, Int.natCast_nonneg, and_self, if_true, Int.toNat_natCast, List.getD_eq_getElem?_getD, Option.bind_some, sherdB]
    generalize l[i]?.getD (D.int 0) = d
    cases btw (d.fld 0).toInt 1 999 <;> cases btw (d.fld 1).toInt 0 9 <;> cases btw (d.fld 2).toInt 0 3599 <;> cases btw (d.fld 3).toInt 1 3600 <;> simp
  · simp [n_spec_l15Good_L4, c_spec_l15Good_L4]

theorem iL2_eq (l r : List D) (hl : l.length ≤ 1048576) : impl_IsValidSherds_L2 l r l l.length 0 = some (match firstN (fun i => !sherdB (l[i]?.getD (.int 0))) l.length with | some _ => .inl (l, r, false) | none => .inr (l, r)) := by
  refine scan_loop (N := fun m i => n_impl_IsValidSherds_L2 m l r l l.length i) _ (fun _ => .inl (l, r, false)) (fun m i hi => ?_) (fun m => ?_)
  · have hw : IntKind.i64.wrap ((i : Int) + 1) = (i : Int) + 1 := wrap_id (by omega) (by omega)
    have h1 : (i : Int) < l.length := by omega
    simp only [n_impl_IsValidSherds_L2, c_impl_IsValidSherds_L2, h1, hw, impl_isNumber, c_impl_isNumber, within_eq, decide_true, cond_true, Int.natCast_nonneg, and_self, if_true, Int.toNat_natCast, List.getD_eq_getElem?_getD, Option.bind_some, sherdB]
    generalize l[i]?.getD (D.int 0) = d
    cases btw (d.fld 0).toInt 1 999 <;> cases btw (d.fld 1).toInt 0 9 <;> cases btw (d.fld 2).toInt 0 3599 <;> cases btw (d.fld 3).toInt 1 3600 <;> simp
  · simp [n_impl_IsValidSherds_L2, c_impl_IsValidSherds_L2]

def jA (l : List D) (i : Nat) : Int := ((l[i]?.getD (.int 0)).fld 0).toInt
def jB (l : List D) (i : Nat) : Int := ((l[i]?.getD (.int 0)).fld 1).toInt
def joinBad (n : Int) (l : List D) (i : Nat) : Bool := decide (¬ (0 ≤ jA l i ∧ jA l i < jB l i ∧ jB l i < n)) || (decide (0 < i) && decide (jA l i < jA l (i - 1) ∨ (jA l (i - 1) = jA l i ∧ jB l i ≤ jB l (i - 1))))

theorem sL10_eq (l r : List D) (hl : l.length ≤ 1048576) (hr : r.length ≤ 1048576) : spec_l15Good_L10 l r 0 = some (match firstN (joinBad l.length r) r.length with | some _ => .inl false | none => .inr ()) := by
  refine scan_loop (N := fun m i => n_spec_l15Good_L10 m l r i) _ (fun _ => .inl false) (fun m i hi => ?_) (fun m => ?_)
  · have hw : IntKind.i64.wrap ((i : Int) + 1) = (i : Int) + 1 := wrap_id (by omega) (by omega)
    have h1 : (i : Int) < r.length := by omega
    have hwl : IntKind.i64.wrap ((l.length : Int) - 1) = (l.length : Int) - 1 := wrap_id (by omega) (by omega)
    by_cases c1 : 1 ≤ jB r i ∧ jB r i ≤ (l.length : Int) - 1
    · have hwb : IntKind.i64.wrap (jB r i - 1) = jB r i - 1 := wrap_id (by omega) (by omega)
      by_cases c2 : 0 ≤ jA r i ∧ jA r i ≤ jB r i - 1
      · have e1 : btw (jB r i) 1 ((l.length : Int) - 1) = true := btw_iff.2 c1
        have e2 : btw (jA r i) 0 (jB r i - 1) = true := btw_iff.2 c2
        have e3 : (¬ (0 ≤ jA r i ∧ jA r i < jB r i ∧ jB r i < (l.length : Int))) ↔ False := by simp; omega
        unfold joinBad
        by_cases c3 : 0 < i
        · have hwp : IntKind.i64.wrap ((i : Int) - 1) = ((i - 1 : Nat) : Int) := pred_wrap (by omega) c3
          have h3 : ((i - 1 : Nat) : Int) < r.length := by omega
          have h4 : (0 : Int) < i := by omega
          unfold jA jB at e1 e2 hwb
          simp only [n_spec_l15Good_L10, c_spec_l15Good_L10, h1, hw, hwl, hwb, hwp, h3, h4, l1In_eq, e1, e2, decide_true, cond_true, Int.natCast_nonneg, and_self, if_true, Int.toNat_natCast, List.getD_eq_getElem?_getD, Option.bind_some, Bool.not_true, cond_false]
          simp only [e3, c3]
          unfold jA jB
          by_cases d1 : ((r[i]?.getD (.int 0)).fld 0).toInt < ((r[i - 1]?.getD (.int 0)).fld 0).toInt
          · simp [d1]
          · by_cases d2 : ((r[i - 1]?.getD (.int 0)).fld 0).toInt = ((r[i]?.getD (.int 0)).fld 0).toInt
            · by_cases d3 : ((r[i]?.getD (.int 0)).fld 1).toInt ≤ ((r[i - 1]?.getD (.int 0)).fld 1).toInt <;> simp [d2, d3]
            · simp [d1, d2]
        · have h4 : ¬ (0 : Int) < i := by omega
          unfold jA jB at e1 e2 hwb
          simp only [n_spec_l15Good_L10, c_spec_l15Good_L10, h1, hw, hwl, hwb, h4, l1In_eq, e1, e2, decide_true, decide_false, cond_true, Int.natCast_nonneg, and_self, if_true, Int.toNat_natCast, List.getD_eq_getElem?_getD, Option.bind_some, Bool.not_true, cond_false]
          simp only [e3, c3]
          simp
      · have e1 : btw (jB r i) 1 ((l.length : Int) - 1) = true := btw_iff.2 c1
        have e2 : btw (jA r i) 0 (jB r i - 1) = false := by rw [← Bool.not_eq_true, btw_iff]; exact c2
        have e3 : (¬ (0 ≤ jA r i ∧ jA r i < jB r i ∧ jB r i < (l.length : Int))) ↔ True := by simp; omega
        unfold joinBad
        simp only [e3]
        unfold jA jB at e1 e2 hwb
        simp [n_spec_l15Good_L10, c_spec_l15Good_L10, h1, hwl, hwb, l1In_eq, e1, e2]
    · have e1 : btw (jB r i) 1 ((l.length : Int) - 1) = false := by rw [← Bool.not_eq_true, btw_iff]; exact c1
      have e3 : (¬ (0 ≤ jA r i ∧ jA r i < jB r i ∧ jB r i < (l.length : Int))) ↔ True := by simp; omega
      unfold joinBad
      simp only [e3]
      unfold jB at e1
      simp [n_spec_l15Good_L10, c_spec_l15Good_L10, h1, hwl, l1In_eq, e1]
  · simp [n_spec_l15Good_L10, c_spec_l15Good_L10]

theorem iL8_eq (l r : List D) (hl : l.length ≤ 1048576) (hr : r.length ≤ 1048576) : impl_IsValidSherds_L8 l r r r.length 0 = some (match firstN (joinBad l.length r) r.length with | some _ => .inl (l, r, false) | none => .inr (l, r)) := by
  refine scan_loop (N := fun m i => n_impl_IsValidSherds_L8 m l r r r.length i) _ (fun _ => .inl (l, r, false)) (fun m i hi => ?_) (fun m => ?_)
  · have hw : IntKind.i64.wrap ((i : Int) + 1) = (i : Int) + 1 := wrap_id (by omega) (by omega)
    have h1 : (i : Int) < r.length := by omega
    unfold joinBad
    by_cases c : 0 ≤ jA r i ∧ jA r i < jB r i ∧ jB r i < (l.length : Int)
    · have e3 : (¬ (0 ≤ jA r i ∧ jA r i < jB r i ∧ jB r i < (l.length : Int))) ↔ False := by simp; omega
      have f1 : ¬ jA r i < 0 := by omega
      have f2 : ¬ (l.length : Int) ≤ jB r i := by omega
      have f3 : ¬ jB r i ≤ jA r i := by omega
      by_cases c3 : 0 < i
      · have hwp : IntKind.i64.wrap ((i : Int) - 1) = ((i - 1 : Nat) : Int) := pred_wrap (by omega) c3
        have h3 : ((i - 1 : Nat) : Int) < r.length := by omega
        have h4 : (0 : Int) < i := by omega
        simp only [jA, jB] at f1 f2 f3
        simp only [n_impl_IsValidSherds_L8, c_impl_IsValidSherds_L8, h1, hw, hwp, h3, h4, f1, f2, f3, compare_eq, or_eq, decide_true, decide_false, cond_true, cond_false, Int.natCast_nonneg, and_self, if_true, Int.toNat_natCast, List.getD_eq_getElem?_getD, Option.bind_some]
        simp only [e3, c3]
        unfold jA jB
        generalize ((r[i - 1]?.getD (D.int 0)).fld 0).toInt = pa
        generalize ((r[i - 1]?.getD (D.int 0)).fld 1).toInt = pb
        generalize ((r[i]?.getD (D.int 0)).fld 0).toInt = xa
        generalize ((r[i]?.getD (D.int 0)).fld 1).toInt = xb
        have hc : decide (0 ≤ (if cmpV pa xa = 0 then cmpV pb xb else cmpV pa xa)) = decide (xa < pa ∨ pa = xa ∧ xb ≤ pb) := by
          rw [decide_eq_decide]
          unfold cmpV
          by_cases d1 : pa < xa
          · simp [d1] <;> omega
          · by_cases d2 : xa < pa
            · simp [d1, d2]
            · by_cases d3 : pb < xb
              · simp [d1, d2, d3] <;> omega
              · by_cases d4 : xb < pb
                · simp [d1, d2, d3, d4] <;> omega
                · simp [d1, d2, d3, d4] <;> omega
        rw [hc]
        cases decide (xa < pa ∨ pa = xa ∧ xb ≤ pb) <;> simp
      · have h4 : ¬ (0 : Int) < i := by omega
        simp only [jA, jB] at f1 f2 f3
        simp only [n_impl_IsValidSherds_L8, c_impl_IsValidSherds_L8, h1, hw, h4, f1, f2, f3, decide_true, decide_false, cond_true, cond_false, Int.natCast_nonneg, and_self, if_true, Int.toNat_natCast, List.getD_eq_getElem?_getD, Option.bind_some]
        simp only [e3, c3]
        simp
    · have e3 : (¬ (0 ≤ jA r i ∧ jA r i < jB r i ∧ jB r i < (l.length : Int))) ↔ True := by simp only [c]; simp
      simp only [e3]
      by_cases f1 : jA r i < 0
      · unfold jA at f1
        simp [n_impl_IsValidSherds_L8, c_impl_IsValidSherds_L8, h1, f1]
      · by_cases f2 : (l.length : Int) ≤ jB r i
        · unfold jA at f1; unfold jB at f2
          simp [n_impl_IsValidSherds_L8, c_impl_IsValidSherds_L8, h1, f1, f2]
        · have f3 : jB r i ≤ jA r i := by omega
          unfold jA at f1; unfold jB at f2; unfold jA jB at f3
          simp [n_impl_IsValidSherds_L8, c_impl_IsValidSherds_L8, h1, f1, f2, f3]
  · simp [n_impl_IsValidSherds_L8, c_impl_IsValidSherds_L8]
theorem sherds_good (l r : List D) (hl : l.length ≤ 1048576) (hr : r.length ≤ 1048576) : ∃ b, spec_l15Good l r = some b ∧ impl_IsValidSherds l r = some b ∧ (b = true → l.length ≤ 12 ∧ r.length ≤ 20 ∧ ∀ i, i < r.length → joinBad l.length r i = false) := by
  simp only [spec_l15Good, c_spec_l15Good, impl_IsValidSherds, c_impl_IsValidSherds, sL4_eq l r hl, iL2_eq l r hl, Option.bind_some]
  by_cases c1 : (12 : Int) < l.length
  · refine ⟨false, by simp [c1], ?_, by simp⟩
    cases firstN (fun i => !sherdB (l[i]?.getD (.int 0))) l.length with
    | some _ => rfl
    | none =>
      simp only [Sum.elim_inr, iL8_eq l r hl hr, Option.bind_some]
      cases firstN (joinBad l.length r) r.length with
      | some _ => rfl
      | none => have : ¬ (l.length : Int) ≤ 12 := by omega
                simp [this]
  · by_cases c2 : (20 : Int) < r.length
    · refine ⟨false, by simp [c1, c2], ?_, by simp⟩
      cases firstN (fun i => !sherdB (l[i]?.getD (.int 0))) l.length with
      | some _ => rfl
      | none =>
        simp only [Sum.elim_inr, iL8_eq l r hl hr, Option.bind_some]
        cases firstN (joinBad l.length r) r.length with
        | some _ => rfl
        | none => have : ¬ (r.length : Int) ≤ 20 := by omega
                  simp [this]
    · have c1' : (l.length : Int) ≤ 12 := by omega
      have c2' : (r.length : Int) ≤ 20 := by omega
      simp only [c1, c2, decide_false, cond_false]
      cases firstN (fun i => !sherdB (l[i]?.getD (.int 0))) l.length with
      | some _ => exact ⟨false, rfl, rfl, by simp⟩
      | none =>
        simp only [Sum.elim_inr, sL10_eq l r hl hr, iL8_eq l r hl hr, Option.bind_some]
        cases hf : firstN (joinBad l.length r) r.length with
        | some _ => exact ⟨false, rfl, rfl, by simp⟩
        | none => exact ⟨true, rfl, by simp [c1', c2'], fun _ => ⟨by omega, by omega, firstN_none hf⟩⟩

/-- what a loop that numbers the cells leaves -/
def markd (cell : Int → D) (c : Int) (n : Nat) : List D := (List.range n).map (fun (i : Nat) => cell (1 + c * (i : Int)))

theorem markd_len {cell : Int → D} {c : Int} {n : Nat} : (markd cell c n).length = n := by simp [markd]
theorem markd_get {cell : Int → D} {c : Int} {n i : Nat} (h : i < n) : (markd cell c n)[i]?.getD (.int 0) = cell (1 + c * (i : Int)) := by
  simp [markd, h]

theorem mark_loop {N : Nat → Int → Int → List D → Option (Int × List D)} {n : Nat} {c : Int} {cell : Int → D}
    (hs : ∀ m (i : Nat) acc, i < n → acc.length = n → N (m + 1) (1 + c * (i : Int)) (i : Int) acc = N m (1 + c * ((i + 1 : Nat) : Int)) ((i + 1 : Nat) : Int) (acc.set i (cell (1 + c * (i : Int)))))
    (he : ∀ m acc, acc.length = n → N (m + 1) (1 + c * (n : Int)) (n : Int) acc = some (1 + c * (n : Int), acc)) {l : List D} (hl : l.length = n) :
    ev (fun m => N m 1 0 l) = some (1 + c * (n : Int), markd cell c n) := by
  have key : ∀ k, ∀ m (i : Nat) acc, i + k = n → k < m → acc.length = n → acc.take i = (markd cell c n).take i → N m (1 + c * (i : Int)) (i : Int) acc = some (1 + c * (n : Int), markd cell c n) := by
    intro k
    induction k with
    | zero =>
      intro m i acc h1 h2 h3 h4
      obtain ⟨m, rfl⟩ : ∃ m', m = m' + 1 := ⟨m - 1, by omega⟩
      have hi : i = n := by omega
      subst hi
      rw [he m acc h3]
      rw [List.take_of_length_le (by omega), List.take_of_length_le (by rw [markd_len]; exact Nat.le_refl _)] at h4
      rw [h4]
    | succ k ih =>
      intro m i acc h1 h2 h3 h4
      obtain ⟨m, rfl⟩ : ∃ m', m = m' + 1 := ⟨m - 1, by omega⟩
      rw [hs m i acc (by omega) h3]
      refine ih m (i + 1) _ (by omega) (by omega) (by simpa using h3) ?_
      have hi : i < (markd cell c n).length := by rw [markd_len]; omega
      rw [List.take_succ_eq_append_getElem (by simp; omega), List.take_succ_eq_append_getElem hi]
      rw [List.take_set_of_le (by omega), h4]
      simp [markd]
  have := ev_eq (f := fun m => N m 1 0 l) (n + 1) (fun m hm => by
    have := key n m 0 l (by omega) (by omega) hl (by simp)
    simpa using this)
  exact this

theorem held_loop {X : Type} {N : Nat → Int → Int → Option X} {n : Nat} {c : Int} {x : X}
    (hs : ∀ m (i : Nat), i < n → N (m + 1) (1 + c * (i : Int)) (i : Int) = N m (1 + c * ((i + 1 : Nat) : Int)) ((i + 1 : Nat) : Int))
    (he : ∀ m, N (m + 1) (1 + c * (n : Int)) (n : Int) = some x) : ev (fun m => N m 1 0) = some x := by
  have key : ∀ k, ∀ m (i : Nat), i + k = n → k < m → N m (1 + c * (i : Int)) (i : Int) = some x := by
    intro k
    induction k with
    | zero =>
      intro m i h1 h2
      obtain ⟨m, rfl⟩ : ∃ m', m = m' + 1 := ⟨m - 1, by omega⟩
      have hi : i = n := by omega
      subst hi
      exact he m
    | succ k ih =>
      intro m i h1 h2
      obtain ⟨m, rfl⟩ : ∃ m', m = m' + 1 := ⟨m - 1, by omega⟩
      rw [hs m i (by omega)]
      exact ih m (i + 1) (by omega) (by omega)
  exact ev_eq (f := fun m => N m 1 0) (n + 1) (fun m hm => by
    have := key n m 0 (by omega) (by omega)
    simpa using this)

abbrev cellSh (k : Int) : D := .node [.int k, .int (k + 1), .int (k + 2), .int (k + 3)]
theorem markSherdS_ok (l : List D) (hl : l.length ≤ 1048576) : ∃ k l', laws_markSherdS l 1 = some (k, l') ∧ (0 ≤ k ∧ k ≤ 4611686018427) := by
  have key : laws_markSherdS_L2 1 0 l = some (1 + 4 * (l.length : Int), markd cellSh 4 l.length) := by
    refine mark_loop (N := n_laws_markSherdS_L2) (fun m i acc hi hacc => ?_) (fun m acc hacc => ?_) rfl
    · have hw : IntKind.i64.wrap ((i : Int) + 1) = (i : Int) + 1 := wrap_id (by omega) (by omega)
      have w1 : IntKind.i64.wrap (1 + 4 * (i : Int) + 1) = 1 + 4 * (i : Int) + 1 := wrap_id (by omega) (by omega)
      have w2 : IntKind.i64.wrap (1 + 4 * (i : Int) + 1 + 1) = 1 + 4 * (i : Int) + 2 := by rw [wrap_id (by omega) (by omega)]; omega
      have w3 : IntKind.i64.wrap (1 + 4 * (i : Int) + 2 + 1) = 1 + 4 * (i : Int) + 3 := by rw [wrap_id (by omega) (by omega)]; omega
      have w4 : IntKind.i64.wrap (1 + 4 * (i : Int) + 3 + 1) = 1 + 4 * ((i : Int) + 1) := by rw [wrap_id (by omega) (by omega)]; omega
      have h2 : (i : Int) < acc.length := by omega
      have h3 : i + 1 ≤ acc.length := by omega
      have h4 : i < acc.length := by omega
      simp [n_laws_markSherdS_L2, c_laws_markSherdS_L2, h2, h3, h4, hw, w1, w2, w3, w4, fld_node, toInt_int]
    · have h1 : ¬ (l.length : Int) < acc.length := by omega
      simp [n_laws_markSherdS_L2, c_laws_markSherdS_L2, h1]
  exact ⟨1 + 4 * (l.length : Int), markd cellSh 4 l.length, by simp only [laws_markSherdS, c_laws_markSherdS, key, Option.bind_some], by omega, by omega⟩

theorem markJoinS_ok (l : List D) (k0 : Int) (hk : 0 ≤ k0 ∧ k0 ≤ 4611686018427) (hl : l.length ≤ 1048576) : ∃ k l', laws_markJoinS l k0 = some (k, l') ∧ (0 ≤ k ∧ k ≤ 4611686018427387) := by
  obtain ⟨y, h1, h2⟩ := loop_post (N := fun m (s : Nat × List D) => n_laws_markJoinS_L2 m (k0 + 2 * (s.1 : Int)) (s.1 : Int) s.2) (fun s => s.1 ≤ l.length ∧ s.2.length = l.length) (fun s => l.length - s.1) (fun s y => y.1 = k0 + 2 * (l.length : Int)) (by
    rintro ⟨i, acc⟩ ⟨hi, hacc⟩
    simp only at hi hacc ⊢
    by_cases hlt : i < l.length
    · have hw : IntKind.i64.wrap ((i : Int) + 1) = ((i + 1 : Nat) : Int) := succ_wrap (by omega)
      have w1 : IntKind.i64.wrap (k0 + 2 * (i : Int) + 1) = k0 + 2 * (i : Int) + 1 := wrap_id (by omega) (by omega)
      have w2 : IntKind.i64.wrap (k0 + 2 * (i : Int) + 1 + 1) = k0 + 2 * ((i + 1 : Nat) : Int) := by rw [wrap_id (by omega) (by omega)]; omega
      have h2 : (i : Int) < acc.length := by omega
      have h3 : i + 1 ≤ acc.length := by omega
      exact .inr ⟨(i + 1, (acc.set i (.node [.int (k0 + 2 * (i : Int)), .int ((acc[i]?.getD (.int 0)).fld 1).toInt])).set i (.node [.int (((acc.set i (.node [.int (k0 + 2 * (i : Int)), .int ((acc[i]?.getD (.int 0)).fld 1).toInt]))[i]?.getD (.int 0)).fld 0).toInt, .int (k0 + 2 * (i : Int) + 1)])), ⟨by simp; omega, by simpa using hacc⟩, by simp; omega, fun y hy => hy, fun m => by
        simp only [n_laws_markJoinS_L2, c_laws_markJoinS_L2, h2, h3, decide_true, cond_true, Int.natCast_nonneg, and_self, if_true, Int.toNat_natCast, List.getD_eq_getElem?_getD, List.length_set, hw, w1, w2]
        cases n_laws_markJoinS_L2 m (k0 + 2 * ((i + 1 : Nat) : Int)) ((i + 1 : Nat) : Int) ((acc.set i (.node [.int (k0 + 2 * (i : Int)), .int ((acc[i]?.getD (.int 0)).fld 1).toInt])).set i (.node [.int (((acc.set i (.node [.int (k0 + 2 * (i : Int)), .int ((acc[i]?.getD (.int 0)).fld 1).toInt]))[i]?.getD (.int 0)).fld 0).toInt, .int (k0 + 2 * (i : Int) + 1)])) <;> rfl⟩
    · have h1 : ¬ (i : Int) < acc.length := by omega
      have hi' : i = l.length := by omega
      exact .inl ⟨(k0 + 2 * (i : Int), acc), by rw [hi'], fun m => by simp [n_laws_markJoinS_L2, c_laws_markJoinS_L2, h1]⟩) (0, l) ⟨by simp, rfl⟩
  obtain ⟨y1, y2⟩ := y
  simp only at h2
  subst h2
  have h1' : laws_markJoinS_L2 k0 0 l = some (k0 + 2 * (l.length : Int), y2) := by show ev _ = _; simpa using h1
  exact ⟨k0 + 2 * (l.length : Int), y2, by simp only [laws_markJoinS, c_laws_markJoinS, h1', Option.bind_some], by omega, by omega⟩

theorem eqIntS_self (l : List D) (hl : l.length ≤ 1048576) : laws_eqIntS l l = some true := by
  have key : laws_eqIntS_L4 l l 0 = some (.inr ()) := by
    refine all_loop (N := fun n i => n_laws_eqIntS_L4 n l l i) (len := l.length) (fun m i hi => ?_) (fun m => ?_)
    · have hw : IntKind.i64.wrap ((i : Int) + 1) = (i : Int) + 1 := wrap_id (by omega) (by omega)
      have h1 : (i : Int) < l.length := by omega
      simp [n_laws_eqIntS_L4, c_laws_eqIntS_L4, h1, hw]
    · simp [n_laws_eqIntS_L4, c_laws_eqIntS_L4]
  simp [laws_eqIntS, c_laws_eqIntS, key]


/-- the same from another start -/
def markd2 (cell : Int → D) (k0 : Int) (n : Nat) : List D := (List.range n).map (fun (i : Nat) => cell (k0 + (i : Int)))
theorem markd2_len {cell : Int → D} {k0 : Int} {n : Nat} : (markd2 cell k0 n).length = n := by simp [markd2]
theorem markd2_get {cell : Int → D} {k0 : Int} {n i : Nat} (h : i < n) : (markd2 cell k0 n)[i]?.getD (.int 0) = cell (k0 + (i : Int)) := by
  simp [markd2, h]

theorem mark_loop2 {N : Nat → Int → Int → List D → Option (Int × List D)} {n : Nat} {k0 : Int} {cell : Int → D}
    (hs : ∀ m (i : Nat) acc, i < n → acc.length = n → N (m + 1) (k0 + (i : Int)) (i : Int) acc = N m (k0 + ((i + 1 : Nat) : Int)) ((i + 1 : Nat) : Int) (acc.set i (cell (k0 + (i : Int)))))
    (he : ∀ m acc, acc.length = n → N (m + 1) (k0 + (n : Int)) (n : Int) acc = some (k0 + (n : Int), acc)) {l : List D} (hl : l.length = n) :
    ev (fun m => N m k0 0 l) = some (k0 + (n : Int), markd2 cell k0 n) := by
  have key : ∀ k, ∀ m (i : Nat) acc, i + k = n → k < m → acc.length = n → acc.take i = (markd2 cell k0 n).take i → N m (k0 + (i : Int)) (i : Int) acc = some (k0 + (n : Int), markd2 cell k0 n) := by
    intro k
    induction k with
    | zero =>
      intro m i acc h1 h2 h3 h4
      obtain ⟨m, rfl⟩ : ∃ m', m = m' + 1 := ⟨m - 1, by omega⟩
      have hi : i = n := by omega
      subst hi
      rw [he m acc h3]
      rw [List.take_of_length_le (by omega), List.take_of_length_le (by rw [markd2_len]; exact Nat.le_refl _)] at h4
      rw [h4]
    | succ k ih =>
      intro m i acc h1 h2 h3 h4
      obtain ⟨m, rfl⟩ : ∃ m', m = m' + 1 := ⟨m - 1, by omega⟩
      rw [hs m i acc (by omega) h3]
      refine ih m (i + 1) _ (by omega) (by omega) (by simpa using h3) ?_
      have hi : i < (markd2 cell k0 n).length := by rw [markd2_len]; omega
      rw [List.take_succ_eq_append_getElem (by simp; omega), List.take_succ_eq_append_getElem hi]
      rw [List.take_set_of_le (by omega), h4]
      simp [markd2]
  have := ev_eq (f := fun m => N m k0 0 l) (n + 1) (fun m hm => by
    have := key n m 0 l (by omega) (by omega) hl (by simp)
    simpa using this)
  exact this

theorem held_loop2 {X : Type} {N : Nat → Int → Int → Option X} {n : Nat} {k0 : Int} {x : X}
    (hs : ∀ m (i : Nat), i < n → N (m + 1) (k0 + (i : Int)) (i : Int) = N m (k0 + ((i + 1 : Nat) : Int)) ((i + 1 : Nat) : Int))
    (he : ∀ m, N (m + 1) (k0 + (n : Int)) (n : Int) = some x) : ev (fun m => N m k0 0) = some x := by
  have key : ∀ k, ∀ m (i : Nat), i + k = n → k < m → N m (k0 + (i : Int)) (i : Int) = some x := by
    intro k
    induction k with
    | zero =>
      intro m i h1 h2
      obtain ⟨m, rfl⟩ : ∃ m', m = m' + 1 := ⟨m - 1, by omega⟩
      have hi : i = n := by omega
      subst hi
      exact he m
    | succ k ih =>
      intro m i h1 h2
      obtain ⟨m, rfl⟩ : ∃ m', m = m' + 1 := ⟨m - 1, by omega⟩
      rw [hs m i (by omega)]
      exact ih m (i + 1) (by omega) (by omega)
  exact ev_eq (f := fun m => N m k0 0) (n + 1) (fun m hm => by
    have := key n m 0 (by omega) (by omega)
    simpa using this)


def intsFrom (k : Int) (n : Nat) : List D := (List.range n).map (fun (i : Nat) => .int (k + (i : Int)))
theorem intsFrom_len {k : Int} {n : Nat} : (intsFrom k n).length = n := by simp [intsFrom]
theorem intsFrom_get {k : Int} {n i : Nat} (h : i < n) : (intsFrom k n)[i]?.getD (.int 0) = .int (k + (i : Int)) := by simp [intsFrom, h]

theorem markIntS_k (l : List D) (k0 : Int) (hk : 0 ≤ k0 ∧ k0 ≤ 4611686018427387904) (hl : l.length ≤ 1048576) : laws_markIntS l k0 = some (k0 + (l.length : Int), intsFrom k0 l.length) := by
  have key : laws_markIntS_L2 k0 0 l = some (k0 + (l.length : Int), markd2 (fun k => .int k) k0 l.length) := by
    refine mark_loop2 (N := n_laws_markIntS_L2) (fun m i acc hi hacc => ?_) (fun m acc hacc => ?_) rfl
    · have hw : IntKind.i64.wrap ((i : Int) + 1) = (i : Int) + 1 := wrap_id (by omega) (by omega)
      have w1 : IntKind.i64.wrap (k0 + (i : Int) + 1) = k0 + ((i : Int) + 1) := by rw [wrap_id (by omega) (by omega)]; omega
      have h2 : (i : Int) < acc.length := by omega
      have h3 : i + 1 ≤ acc.length := by omega
      simp [n_laws_markIntS_L2, c_laws_markIntS_L2, h2, h3, hw, w1]
    · have h1 : ¬ (l.length : Int) < acc.length := by omega
      simp [n_laws_markIntS_L2, c_laws_markIntS_L2, h1]
  simp only [laws_markIntS, c_laws_markIntS, key, Option.bind_some]
  rfl

theorem heldIntS_k (n : Nat) (k0 : Int) (hk : 0 ≤ k0 ∧ k0 ≤ 4611686018427387904) (hn : n ≤ 1048576) : laws_heldIntS (intsFrom k0 n) k0 = some (k0 + (n : Int)) := by
  have key : laws_heldIntS_L2 (intsFrom k0 n) k0 0 = some (.inr (k0 + (n : Int))) := by
    refine held_loop2 (n := n) (N := fun m k i => n_laws_heldIntS_L2 m (intsFrom k0 n) k i) (fun m i hi => ?_) (fun m => ?_)
    · have hw : IntKind.i64.wrap ((i : Int) + 1) = (i : Int) + 1 := wrap_id (by omega) (by omega)
      have w1 : IntKind.i64.wrap (k0 + (i : Int) + 1) = k0 + ((i : Int) + 1) := by rw [wrap_id (by omega) (by omega)]; omega
      have h2 : (i : Int) < n := by omega
      simp [n_laws_heldIntS_L2, c_laws_heldIntS_L2, intsFrom_len, h2, hw, w1, intsFrom_get hi, toInt_int]
    · simp [n_laws_heldIntS_L2, c_laws_heldIntS_L2, intsFrom_len]
  simp only [laws_heldIntS, c_laws_heldIntS, key, Option.bind_some, Sum.elim_inr]


/-- a loop that appends -/
theorem app_loop {X : Type} {N : Nat → Int → List D → Option X} {n c base : Nat} {out : List D → X} (f : Nat → List D) (hf : ∀ i, i < n → (f i).length ≤ c)
    (hs : ∀ m (i : Nat) acc, i < n → acc.length ≤ base + c * i → N (m + 1) (i : Int) acc = N m ((i + 1 : Nat) : Int) (acc ++ f i))
    (he : ∀ m acc, acc.length ≤ base + c * n → N (m + 1) (n : Int) acc = some (out acc)) :
    ∀ (i0 : Nat) (acc0 : List D), i0 ≤ n → acc0.length ≤ base + c * i0 → ev (fun m => N m (i0 : Int) acc0) = some (out (acc0 ++ (List.range' i0 (n - i0)).flatMap f)) := by
  have key : ∀ k, ∀ m (i : Nat) acc, i + k = n → k < m → acc.length ≤ base + c * i → N m (i : Int) acc = some (out (acc ++ (List.range' i k).flatMap f)) := by
    intro k
    induction k with
    | zero =>
      intro m i acc h1 h2 h3
      obtain ⟨m, rfl⟩ : ∃ m', m = m' + 1 := ⟨m - 1, by omega⟩
      have hi : i = n := by omega
      subst hi
      rw [he m acc h3]
      simp
    | succ k ih =>
      intro m i acc h1 h2 h3
      obtain ⟨m, rfl⟩ : ∃ m', m = m' + 1 := ⟨m - 1, by omega⟩
      have h4 := hf i (by omega)
      rw [hs m i acc (by omega) h3, ih m (i + 1) _ (by omega) (by omega) (by rw [List.length_append, Nat.mul_succ]; omega)]
      rw [List.range'_succ, List.flatMap_cons, List.append_assoc]
  intro i0 acc0 h1 h2
  exact ev_eq (f := fun m => N m (i0 : Int) acc0) (n - i0 + 1) (fun m hm => key (n - i0) m i0 acc0 (by omega) (by omega) h2)

theorem flat_len {c : Nat} {f : Nat → List D} : ∀ (l : List Nat), (∀ i ∈ l, (f i).length ≤ c) → (l.flatMap f).length ≤ l.length * c
  | [], _ => by simp
  | a :: l, h => by
    rw [List.flatMap_cons, List.length_append, List.length_cons, Nat.succ_mul]
    have h1 := h a (by simp)
    have h2 := flat_len l (fun i hi => h i (by simp [hi]))
    omega

def stp (s : Nat → Int) (e : Nat × Nat) : Nat → Int := fun v => if v = e.1 ∨ v = e.2 then min (s e.1) (s e.2) else s v
def passL (E : List (Nat × Nat)) (s : Nat → Int) : Nat → Int := E.foldl stp s
def iterL (E : List (Nat × Nat)) : Nat → (Nat → Int) → Nat → Int
  | 0, s => s
  | k + 1, s => iterL E k (passL E s)
def allE (E : List (Nat × Nat)) (s : Nat → Int) : Prop := ∀ e ∈ E, s e.1 = s e.2
def doneE (E : List (Nat × Nat)) (s : Nat → Int) (e : Nat × Nat) : Prop := s e.1 = s e.2 ∧ ∀ f ∈ E, min (s f.1) (s f.2) < s e.1 → s f.1 = s f.2

theorem stp_id {s : Nat → Int} {e : Nat × Nat} (h : s e.1 = s e.2) : stp s e = s := by
  funext v
  unfold stp
  by_cases hv : v = e.1 ∨ v = e.2
  · rw [if_pos hv]
    rcases hv with rfl | rfl <;> omega
  · rw [if_neg hv]

theorem stp_done {E : List (Nat × Nat)} {s : Nat → Int} {e f : Nat × Nat} (hf : f ∈ E) (h : doneE E s e) : doneE E (stp s f) e ∧ stp s f e.1 = s e.1 := by
  by_cases hq : s f.1 = s f.2
  · rw [stp_id hq]; exact ⟨h, rfl⟩
  · obtain ⟨h1, h2⟩ := h
    have hm : s e.1 ≤ min (s f.1) (s f.2) := by
      rcases Int.lt_or_le (min (s f.1) (s f.2)) (s e.1) with h3 | h3
      · exact absurd (h2 f hf h3) hq
      · exact h3
    have hin : ∀ v, (v = f.1 ∨ v = f.2) → stp s f v = min (s f.1) (s f.2) := fun v hv => by unfold stp; rw [if_pos hv]
    have hout : ∀ v, ¬ (v = f.1 ∨ v = f.2) → stp s f v = s v := fun v hv => by unfold stp; rw [if_neg hv]
    have keep : ∀ v, s v = s e.1 → stp s f v = s e.1 := by
      intro v hv
      by_cases hi : v = f.1 ∨ v = f.2
      · rw [hin v hi]
        rcases hi with rfl | rfl <;> omega
      · rw [hout v hi, hv]
    have k1 := keep e.1 rfl
    have k2 := keep e.2 h1.symm
    refine ⟨⟨by rw [k1, k2], fun g hg hlt => ?_⟩, k1⟩
    rw [k1] at hlt
    have low : ∀ v, stp s f v < s e.1 → stp s f v = s v := by
      intro v hv
      by_cases hi : v = f.1 ∨ v = f.2
      · rw [hin v hi] at hv; omega
      · exact hout v hi
    have low' : ∀ v, s v < s e.1 → stp s f v = s v := by
      intro v hv
      by_cases hi : v = f.1 ∨ v = f.2
      · exfalso
        rcases hi with rfl | rfl <;> omega
      · exact hout v hi
    have hl : min (s g.1) (s g.2) < s e.1 := by
      rcases Int.lt_or_le (stp s f g.1) (s e.1) with h3 | h3
      · have := low _ h3; omega
      · have h4 : stp s f g.2 < s e.1 := by omega
        have := low _ h4; omega
    have he := h2 g hg hl
    rw [low' g.1 (by omega), low' g.2 (by omega)]
    exact he

theorem fold_done {E : List (Nat × Nat)} {e : Nat × Nat} : ∀ {l : List (Nat × Nat)} {s : Nat → Int}, (∀ f ∈ l, f ∈ E) → doneE E s e → doneE E (l.foldl stp s) e ∧ l.foldl stp s e.1 = s e.1
  | [], s, _, h => ⟨h, rfl⟩
  | f :: l, s, hl, h => by
    obtain ⟨h1, h2⟩ := stp_done (hl f (by simp)) h
    obtain ⟨h3, h4⟩ := fold_done (l := l) (fun g hg => hl g (by simp [hg])) h1
    exact ⟨h3, h4.trans h2⟩

theorem exists_least {α : Type} (m : α → Int) : ∀ (l : List α) (P : α → Prop), (∃ a ∈ l, P a) → ∃ a ∈ l, P a ∧ ∀ b ∈ l, P b → m a ≤ m b
  | [], P, ⟨a, h, _⟩ => by cases h
  | x :: l, P, h => by
    by_cases hl : ∃ a ∈ l, P a
    · obtain ⟨a, h1, h2, h3⟩ := exists_least m l P hl
      by_cases hx : P x ∧ m x < m a
      · refine ⟨x, by simp, hx.1, fun b hb hP => ?_⟩
        rcases List.mem_cons.1 hb with rfl | hb
        · omega
        · have := h3 b hb hP; omega
      · refine ⟨a, by simp [h1], h2, fun b hb hP => ?_⟩
        rcases List.mem_cons.1 hb with rfl | hb
        · rcases Int.lt_or_le (m b) (m a) with h4 | h4
          · exact absurd ⟨hP, h4⟩ hx
          · exact h4
        · exact h3 b hb hP
    · obtain ⟨a, h1, h2⟩ := h
      rcases List.mem_cons.1 h1 with rfl | h1
      · refine ⟨a, by simp, h2, fun b hb hP => ?_⟩
        rcases List.mem_cons.1 hb with rfl | hb
        · exact Int.le_refl _
        · exact absurd ⟨b, hb, hP⟩ hl
      · exact absurd ⟨a, h1, h2⟩ hl

theorem pass_more {E : List (Nat × Nat)} {s : Nat → Int} (h : ¬ allE E s) : ∃ e ∈ E, ¬ doneE E s e ∧ doneE E (passL E s) e := by
  have h0 : ∃ e ∈ E, s e.1 ≠ s e.2 := Classical.byContradiction fun hn => h fun e he => Classical.byContradiction fun hne => hn ⟨e, he, hne⟩
  obtain ⟨e, he, hne, hmin⟩ := exists_least (fun e => min (s e.1) (s e.2)) E (fun e => s e.1 ≠ s e.2) h0
  refine ⟨e, he, fun hd => hne hd.1, ?_⟩
  obtain ⟨u, w, hu, hw⟩ : ∃ u w, s u = min (s e.1) (s e.2) ∧ ((u = e.1 ∧ w = e.2) ∨ (u = e.2 ∧ w = e.1)) := by
    rcases Int.le_total (s e.1) (s e.2) with hle | hle
    · exact ⟨e.1, e.2, by omega, .inl ⟨rfl, rfl⟩⟩
    · exact ⟨e.2, e.1, by omega, .inr ⟨rfl, rfl⟩⟩
  have d0 : doneE E s (u, u) := ⟨rfl, fun f hf hlt => Classical.byContradiction fun hq => by
    have h1 := hmin f hf hq
    simp only at hlt h1
    omega⟩
  obtain ⟨l1, l2, hl⟩ := List.append_of_mem he
  have hsub1 : ∀ f ∈ l1, f ∈ E := fun f hf => by rw [hl]; simp [hf]
  have hsub2 : ∀ f ∈ l2, f ∈ E := fun f hf => by rw [hl]; simp [hf]
  obtain ⟨d1, v1⟩ := fold_done (e := (u, u)) hsub1 d0
  obtain ⟨d2, v2⟩ := stp_done he d1
  simp only at v1 v2
  have hp : passL E s = l2.foldl stp (stp (l1.foldl stp s) e) := by
    unfold passL
    rw [hl, List.foldl_append, List.foldl_cons]
  rw [hp]
  have hwv : stp (l1.foldl stp s) e w = l1.foldl stp s u := by
    have hin : stp (l1.foldl stp s) e w = min (l1.foldl stp s e.1) (l1.foldl stp s e.2) := by
      unfold stp; rw [if_pos (by rcases hw with ⟨_, rfl⟩ | ⟨_, rfl⟩ <;> simp)]
    have hnl : ¬ min (l1.foldl stp s e.1) (l1.foldl stp s e.2) < l1.foldl stp s u := by
      intro hlt
      have hq := d1.2 e he hlt
      rcases hw with ⟨rfl, _⟩ | ⟨rfl, _⟩ <;> omega
    rw [hin]
    rcases hw with ⟨rfl, _⟩ | ⟨rfl, _⟩ <;> omega
  have d3 : doneE E (stp (l1.foldl stp s) e) e := by
    have h2 := d2.2
    simp only at h2
    rcases hw with ⟨rfl, rfl⟩ | ⟨rfl, rfl⟩
    · exact ⟨by rw [v2, hwv], h2⟩
    · refine ⟨by rw [v2, hwv], ?_⟩
      rw [hwv, ← v2]; exact h2
  exact (fold_done hsub2 d3).1

theorem countP_lt {α : Type} {p q : α → Bool} : ∀ {l : List α}, (∀ a ∈ l, p a = true → q a = true) → (∃ a ∈ l, p a = false ∧ q a = true) → l.countP p < l.countP q
  | [], _, ⟨a, h, _⟩ => by cases h
  | x :: l, h, ⟨a, h1, h2, h3⟩ => by
    have hle : l.countP p ≤ l.countP q := List.countP_mono_left (fun a ha hp => h a (by simp [ha]) hp)
    rw [List.countP_cons, List.countP_cons]
    rcases List.mem_cons.1 h1 with rfl | h1
    · simp [h2, h3]; omega
    · have := countP_lt (l := l) (fun a ha hp => h a (by simp [ha]) hp) ⟨a, h1, h2, h3⟩
      have hx := h x (by simp)
      cases hpx : p x
      · cases hqx : q x <;> simp <;> omega
      · simp [hx hpx]; omega

open Classical in
noncomputable def cntE (E : List (Nat × Nat)) (s : Nat → Int) : Nat := E.countP (fun e => decide (doneE E s e))

theorem pass_id {E : List (Nat × Nat)} {s : Nat → Int} (h : allE E s) : passL E s = s := by
  have : ∀ l : List (Nat × Nat), (∀ e ∈ l, e ∈ E) → l.foldl stp s = s := by
    intro l
    induction l with
    | nil => intro _; rfl
    | cons a l ih =>
      intro hl
      rw [List.foldl_cons, stp_id (h a (hl a (by simp)))]
      exact ih (fun e he => hl e (by simp [he]))
  exact this E (fun e he => he)

theorem iter_id {E : List (Nat × Nat)} {s : Nat → Int} (h : allE E s) : ∀ k, iterL E k s = s
  | 0 => rfl
  | k + 1 => by rw [iterL, pass_id h]; exact iter_id h k

theorem cnt_lt {E : List (Nat × Nat)} {s : Nat → Int} (h : ¬ allE E s) : cntE E s < cntE E (passL E s) := by
  unfold cntE
  obtain ⟨e, he, h1, h2⟩ := pass_more h
  exact countP_lt (fun f hf hp => by
    simp only [decide_eq_true_eq] at hp ⊢
    exact (fold_done (fun g hg => hg) hp).1) ⟨e, he, by simp [h1], by simp [h2]⟩

theorem iter_all {E : List (Nat × Nat)} : ∀ (k : Nat) (s : Nat → Int), E.length ≤ cntE E s + k → allE E (iterL E k s)
  | 0, s, h => by
    intro e he
    have hc : cntE E s = E.length := Nat.le_antisymm List.countP_le_length (by omega)
    unfold cntE at hc
    rw [List.countP_eq_length] at hc
    have := hc e he
    simp only [decide_eq_true_eq] at this
    exact this.1
  | k + 1, s, h => by
    rw [iterL]
    by_cases ha : allE E s
    · rw [pass_id ha]
      rw [iter_id ha]
      exact ha
    · exact iter_all k _ (by have := cnt_lt ha; omega)

theorem iter_full (E : List (Nat × Nat)) (s : Nat → Int) : allE E (iterL E E.length s) := iter_all _ _ (by omega)

def lst (n : Nat) (s : Nat → Int) : List D := (List.range n).map (fun v => .int (s v))
theorem lst_len {n : Nat} {s : Nat → Int} : (lst n s).length = n := by simp [lst]
theorem lst_get {n v : Nat} {s : Nat → Int} (h : v < n) : (lst n s)[v]?.getD (.int 0) = .int (s v) := by simp [lst, h]
theorem lst_set {n a : Nat} {s : Nat → Int} {x : Int} : (lst n s).set a (.int x) = lst n (fun v => if v = a then x else s v) := by
  apply List.ext_getElem
  · simp [lst]
  · intro i h1 h2
    simp only [lst, List.getElem_set, List.getElem_map, List.getElem_range]
    by_cases h : a = i
    · subst h; simp
    · have h' : ¬ i = a := fun e => h e.symm
      simp [h, h']

def edgeOf (d : D) : Nat × Nat := ((d.fld 0).toInt.toNat, (d.fld 1).toInt.toNat)
def edges (r : List D) : List (Nat × Nat) := r.map edgeOf
def validJ (n : Nat) (r : List D) : Prop := ∀ i, i < r.length → ∃ a b : Nat, ((r[i]?.getD (.int 0)).fld 0).toInt = (a : Int) ∧ ((r[i]?.getD (.int 0)).fld 1).toInt = (b : Int) ∧ a < b ∧ b < n ∧ (edges r)[i]? = some (a, b)

theorem validJ_of {n : Nat} {r : List D} (h : ∀ i, i < r.length → joinBad n r i = false) : validJ n r := by
  intro i hi
  have hb := h i hi
  unfold joinBad at hb
  rw [Bool.or_eq_false_iff] at hb
  have h1 := hb.1
  simp only [decide_eq_false_iff_not, Classical.not_not] at h1
  obtain ⟨h2, h3, h4⟩ := h1
  refine ⟨(jA r i).toNat, (jB r i).toNat, ?_, ?_, by omega, by omega, ?_⟩
  · unfold jA at h2 h3 ⊢; omega
  · unfold jA at h2 h3; unfold jB at h3 ⊢; omega
  · simp only [edges, List.getElem?_map, List.getElem?_eq_getElem hi, Option.map_some, Option.some.injEq]
    simp only [edgeOf, jA, jB, List.getElem?_eq_getElem hi, Option.getD_some]

theorem validJ_take {n : Nat} {r : List D} (h : validJ n r) (k : Nat) : validJ n (r.take k) := by
  intro i hi
  rw [List.length_take] at hi
  obtain ⟨a, b, h1, h2, h3, h4, h5⟩ := h i (by omega)
  have e1 : (r.take k)[i]? = r[i]? := by rw [List.getElem?_take]; simp; omega
  refine ⟨a, b, by rw [e1]; exact h1, by rw [e1]; exact h2, h3, h4, ?_⟩
  simp only [edges, List.getElem?_map, e1] at h5 ⊢
  exact h5

theorem iter_add {E : List (Nat × Nat)} : ∀ (a b : Nat) (s : Nat → Int), iterL E (a + b) s = iterL E b (iterL E a s)
  | 0, b, s => by rw [Nat.zero_add]; rfl
  | a + 1, b, s => by
    rw [show a + 1 + b = (a + b) + 1 by omega]
    simp only [iterL]
    exact iter_add a b _

def finalS (r : List D) : Nat → Int := iterL (edges r) (edges r).length (fun v => (v : Int))

theorem iter_end {E : List (Nat × Nat)} {s : Nat → Int} {k : Nat} (h : allE E (iterL E k s)) : iterL E k s = iterL E E.length s := by
  have h1 := iter_add (E := E) k E.length s
  have h2 := iter_add (E := E) E.length k s
  rw [iter_id h] at h1
  rw [iter_id (iter_full E s)] at h2
  rw [← h1, ← h2, Nat.add_comm]

theorem stp_lst {n a b : Nat} {s : Nat → Int} {x : Int} (hx : x = min (s a) (s b)) : ((lst n s).set a (.int x)).set b (.int x) = lst n (stp s (a, b)) := by
  rw [lst_set, lst_set]
  congr 1
  funext v
  unfold stp
  simp only
  subst hx
  by_cases h1 : v = b
  · simp [h1]
  · by_cases h2 : v = a
    · simp [h1, h2]
    · simp [h1, h2]

theorem take_fold {E : List (Nat × Nat)} {i : Nat} {e : Nat × Nat} (h : E[i]? = some e) (s : Nat → Int) : (E.take (i + 1)).foldl stp s = stp ((E.take i).foldl stp s) e := by
  obtain ⟨hi, he⟩ := List.getElem?_eq_some_iff.1 h
  rw [List.take_succ_eq_append_getElem hi, List.foldl_append, he]
  rfl

theorem edges_len {r : List D} : (edges r).length = r.length := by simp [edges]

theorem least_eq (a b : Int) : spec_l1Least a b = some (min a b) := by
  unfold spec_l1Least c_spec_l1Least
  by_cases h : a < b
  · simp only [h, decide_true, cond_true]; congr 1; omega
  · simp only [h, decide_false, cond_false]; congr 1; omega

theorem sLab10 (n : Nat) (r : List D) (hn : n ≤ 1048576) (hr : r.length ≤ 1048576) (hv : validJ n r) (s0 : Nat → Int) :
    ∃ more, spec_l15Labels_L10 r false 0 (lst n s0) = some (r, more, lst n (passL (edges r) s0)) ∧ (more = false → allE (edges r) s0) ∧ (more = true → ¬ allE (edges r) s0) := by
  obtain ⟨y, h1, h2⟩ := loop_post (N := fun m (s : Bool × Nat × List D) => n_spec_l15Labels_L10 m r s.1 (s.2.1 : Int) s.2.2)
    (fun s => s.2.1 ≤ r.length ∧ s.2.2 = lst n (((edges r).take s.2.1).foldl stp s0) ∧ (s.1 = false → ((edges r).take s.2.1).foldl stp s0 = s0 ∧ ∀ e ∈ (edges r).take s.2.1, s0 e.1 = s0 e.2) ∧ (s.1 = true → ¬ allE (edges r) s0))
    (fun s => r.length - s.2.1) (fun s y => y.1 = r ∧ y.2.2 = lst n (passL (edges r) s0) ∧ (y.2.1 = false → allE (edges r) s0) ∧ (y.2.1 = true → ¬ allE (edges r) s0)) (by
    rintro ⟨more, i, acc⟩ ⟨hi, hacc, hf, ht⟩
    simp only at hi hacc hf ht ⊢
    subst hacc
    by_cases hlt : i < r.length
    · obtain ⟨a, b, ea, eb, hab, hbn, he⟩ := hv i hlt
      have h1 : (i : Int) < r.length := by omega
      have hw : IntKind.i64.wrap ((i : Int) + 1) = ((i + 1 : Nat) : Int) := succ_wrap (by omega)
      have ga : (a : Int) < n := by omega
      have gb : (b : Int) < n := by omega
      have ga' : a + 1 ≤ n := by omega
      have gb' : b + 1 ≤ n := by omega
      generalize hs : ((edges r).take i).foldl stp s0 = s at hf
      have hfold : ((edges r).take (i + 1)).foldl stp s0 = stp s (a, b) := by rw [take_fold he, hs]
      by_cases hq : s a = s b
      · refine .inr ⟨(more, i + 1, lst n (((edges r).take (i + 1)).foldl stp s0)), ⟨by simp; omega, rfl, fun hm => ?_, ht⟩, by simp; omega, fun y hy => hy, fun m => ?_⟩
        · obtain ⟨k1, k2⟩ := hf hm
          refine ⟨by rw [hfold, stp_id (e := (a, b)) hq, k1], fun e hme => ?_⟩
          obtain ⟨hi', he'⟩ := List.getElem?_eq_some_iff.1 he
          rw [List.take_succ_eq_append_getElem hi', he', List.mem_append] at hme
          rcases hme with hme | hme
          · exact k2 e hme
          · simp only [List.mem_singleton] at hme
            subst hme
            rw [← k1]; exact hq
        · simp only [hfold, stp_id (e := (a, b)) hq]
          simp only [n_spec_l15Labels_L10, c_spec_l15Labels_L10, h1, decide_true, cond_true, Int.natCast_nonneg, and_self, if_true, Int.toNat_natCast, List.getD_eq_getElem?_getD, ea, eb, lst_len, ga, gb, ga', gb', lst_get (show a < n by omega), lst_get hbn, toInt_int, hq, Bool.not_true, cond_false, hw]
          cases n_spec_l15Labels_L10 m r more ((i + 1 : Nat) : Int) (lst n s) <;> rfl
      · refine .inr ⟨(true, i + 1, lst n (((edges r).take (i + 1)).foldl stp s0)), ⟨by simp; omega, rfl, fun hm => (by cases hm), fun _ => ?_⟩, by simp; omega, fun y hy => hy, fun m => ?_⟩
        · cases more with
          | true => exact ht rfl
          | false =>
            obtain ⟨k1, k2⟩ := hf rfl
            intro hall
            have := hall (a, b) (List.mem_of_getElem? he)
            rw [← k1] at this
            exact hq this
        · simp only [hfold]
          rw [← stp_lst (n := n) (x := min (s a) (s b)) rfl]
          simp only [n_spec_l15Labels_L10, c_spec_l15Labels_L10, h1, decide_true, cond_true, Int.natCast_nonneg, and_self, if_true, Int.toNat_natCast, List.getD_eq_getElem?_getD, ea, eb, lst_len, ga, gb, ga', gb', lst_get (show a < n by omega), lst_get hbn, toInt_int, hq, decide_false, Bool.not_false, hw, least_eq, Option.bind_some, List.length_set]
          cases n_spec_l15Labels_L10 m r true ((i + 1 : Nat) : Int) (((lst n s).set a (.int (min (s a) (s b)))).set b (.int (min (s a) (s b)))) <;> rfl
    · have hi' : i = r.length := by omega
      subst hi'
      have hall : (edges r).take r.length = edges r := List.take_of_length_le (by rw [edges_len]; exact Nat.le_refl _)
      rw [hall] at hf
      refine .inl ⟨(r, more, lst n (passL (edges r) s0)), ⟨rfl, rfl, fun hm => (hf hm).2, ht⟩, fun m => ?_⟩
      simp [n_spec_l15Labels_L10, c_spec_l15Labels_L10, hall, passL]) (false, 0, lst n s0) ⟨by simp, by simp, fun _ => (by simp), fun h => (by cases h)⟩
  obtain ⟨y1, y2, y3⟩ := y
  simp only at h2
  obtain ⟨rfl, rfl, h3, h4⟩ := h2
  exact ⟨y2, h1, h3, h4⟩

theorem sLab7 (n : Nat) (r : List D) (hn : n ≤ 1048576) (hr : r.length ≤ 1048576) (hv : validJ n r) : spec_l15Labels_L7 r true (lst n (fun v => (v : Int))) = some (lst n (finalS r)) := by
  obtain ⟨y, h1, h2⟩ := loop_post (N := fun m (s : Bool × (Nat → Int)) => n_spec_l15Labels_L7 m r s.1 (lst n s.2))
    (fun s => ∃ k, s.2 = iterL (edges r) k (fun v => (v : Int)) ∧ (s.1 = false → allE (edges r) s.2))
    (fun s => if s.1 = true then 1 + ((edges r).length - cntE (edges r) s.2) else 0) (fun s y => y = lst n (finalS r)) (by
    rintro ⟨more, s⟩ ⟨k, hk, hall⟩
    simp only at hk hall ⊢
    cases more with
    | false =>
      refine .inl ⟨_, rfl, fun m => ?_⟩
      have := iter_end (E := edges r) (s := fun v => (v : Int)) (k := k) (by rw [← hk]; exact hall rfl)
      simp only [n_spec_l15Labels_L7, c_spec_l15Labels_L7, cond_false, finalS, ← this, hk]
    | true =>
      obtain ⟨more', e1, e2, e3⟩ := sLab10 n r hn hr hv s
      refine .inr ⟨(more', passL (edges r) s), ⟨k + 1, ?_, fun hm => ?_⟩, ?_, fun y hy => hy, fun m => ?_⟩
      · simp only
        rw [iter_add, ← hk]; rfl
      · simp only at hm ⊢
        rw [pass_id (e2 hm)]; exact e2 hm
      · cases more' with
        | false => simp; omega
        | true =>
          have h1 := cnt_lt (e3 rfl)
          have h2 : cntE (edges r) (passL (edges r) s) ≤ (edges r).length := by unfold cntE; exact List.countP_le_length
          simp only [if_true]
          omega
      · simp only [n_spec_l15Labels_L7, c_spec_l15Labels_L7, cond_true, e1, Option.bind_some]
        cases n_spec_l15Labels_L7 m r more' (lst n (passL (edges r) s)) <;> rfl) (true, fun v => (v : Int)) ⟨0, rfl, fun h => (by cases h)⟩
  subst h2
  exact h1

theorem lst_succ {i : Nat} {s : Nat → Int} : lst (i + 1) s = lst i s ++ [.int (s i)] := by simp [lst, List.range_succ]

theorem sLab_eq (n : Nat) (r : List D) (hn : n ≤ 1048576) (hr : r.length ≤ 1048576) (hv : validJ n r) : spec_l15Labels (n : Int) r = some (lst n (finalS r)) := by
  have h3 : spec_l15Labels_L3 (n : Int) r 0 [] = some (r, lst n (fun v => (v : Int))) := by
    obtain ⟨y, h1, h2⟩ := loop_post (N := fun m (i : Nat) => n_spec_l15Labels_L3 m (n : Int) r (i : Int) (lst i (fun v => (v : Int)))) (fun i => i ≤ n) (fun i => n - i) (fun s y => y = (r, lst n (fun v => (v : Int)))) (by
      intro i hi
      by_cases hlt : i < n
      · refine .inr ⟨i + 1, by omega, by omega, fun y hy => hy, fun m => ?_⟩
        have h1 : (i : Int) < n := by omega
        have hw : IntKind.i64.wrap ((i : Int) + 1) = ((i + 1 : Nat) : Int) := succ_wrap (by omega)
        have h2 : (lst i (fun v => (v : Int))).length + ([D.int (i : Int)] : List D).length ≤ 4294967296 := by simp [lst_len]; omega
        rw [lst_succ]
        simp only [n_spec_l15Labels_L3, c_spec_l15Labels_L3, h1, decide_true, cond_true, h2, if_true, hw]
        cases n_spec_l15Labels_L3 m (n : Int) r ((i + 1 : Nat) : Int) (lst i (fun v => (v : Int)) ++ [.int (i : Int)]) <;> rfl
      · have : i = n := by omega
        subst this
        exact .inl ⟨_, rfl, fun m => by simp [n_spec_l15Labels_L3, c_spec_l15Labels_L3]⟩) 0 (by omega)
    subst h2
    exact h1
  simp only [spec_l15Labels, c_spec_l15Labels, h3, sLab7 n r hn hr hv, Option.bind_some]

theorem min_if (x y : Int) : (if y < x then y else x) = min x y := by
  by_cases h : y < x <;> simp [h] <;> omega

theorem iLab10 (n : Nat) (r : List D) (hn : n ≤ 1048576) (hr : r.length ≤ 1048576) (hv : validJ n r) (s0 : Nat → Int) (x1 x2 : Int) : impl_labels_L10 r x1 x2 r r.length 0 (lst n s0) = some (r, x1, x2, lst n (passL (edges r) s0)) := by
  obtain ⟨y, h1, h2⟩ := loop_post (N := fun m (i : Nat) => n_impl_labels_L10 m r x1 x2 r r.length (i : Int) (lst n (((edges r).take i).foldl stp s0))) (fun i => i ≤ r.length) (fun i => r.length - i) (fun s y => y = (r, x1, x2, lst n (passL (edges r) s0))) (by
    intro i hi
    by_cases hlt : i < r.length
    · obtain ⟨a, b, ea, eb, hab, hbn, he⟩ := hv i hlt
      have h1 : (i : Int) < r.length := by omega
      have hw : IntKind.i64.wrap ((i : Int) + 1) = ((i + 1 : Nat) : Int) := succ_wrap (by omega)
      have ga : (a : Int) < n := by omega
      have gb : (b : Int) < n := by omega
      have ga' : a + 1 ≤ n := by omega
      have gb' : b + 1 ≤ n := by omega
      refine .inr ⟨i + 1, by omega, by omega, fun y hy => hy, fun m => ?_⟩
      rw [take_fold he]
      generalize ((edges r).take i).foldl stp s0 = s
      rw [← stp_lst (n := n) (x := min (s a) (s b)) rfl]
      simp only [n_impl_labels_L10, c_impl_labels_L10, h1, decide_true, cond_true, Int.natCast_nonneg, and_self, if_true, Int.toNat_natCast, List.getD_eq_getElem?_getD, ea, eb, lst_len, ga, gb, ga', gb', lst_get (show a < n by omega), lst_get hbn, toInt_int, hw, List.length_set, min_if]
      cases n_impl_labels_L10 m r x1 x2 r r.length ((i + 1 : Nat) : Int) (((lst n s).set a (.int (min (s a) (s b)))).set b (.int (min (s a) (s b)))) <;> rfl
    · have hi' : i = r.length := by omega
      subst hi'
      have hall : (edges r).take r.length = edges r := List.take_of_length_le (by rw [edges_len]; exact Nat.le_refl _)
      exact .inl ⟨_, rfl, fun m => by simp [n_impl_labels_L10, c_impl_labels_L10, hall, passL]⟩) 0 (by omega)
  subst h2
  show ev _ = _
  simpa using h1

theorem iLab_eq (n : Nat) (r : List D) (hn : n ≤ 1048576) (hr : r.length ≤ 1048576) (hv : validJ n r) : impl_labels (n : Int) r = some (lst n (finalS r)) := by
  have h3 : impl_labels_L3 r (n : Int) 0 [] = some (r, lst n (fun v => (v : Int))) := by
    obtain ⟨y, h1, h2⟩ := loop_post (N := fun m (i : Nat) => n_impl_labels_L3 m r (n : Int) (i : Int) (lst i (fun v => (v : Int)))) (fun i => i ≤ n) (fun i => n - i) (fun s y => y = (r, lst n (fun v => (v : Int)))) (by
      intro i hi
      by_cases hlt : i < n
      · refine .inr ⟨i + 1, by omega, by omega, fun y hy => hy, fun m => ?_⟩
        have h1 : (i : Int) < n := by omega
        have hw : IntKind.i64.wrap ((i : Int) + 1) = ((i + 1 : Nat) : Int) := succ_wrap (by omega)
        have h2 : (lst i (fun v => (v : Int))).length + ([D.int (i : Int)] : List D).length ≤ 4294967296 := by simp [lst_len]; omega
        rw [lst_succ]
        simp only [n_impl_labels_L3, c_impl_labels_L3, h1, decide_true, cond_true, h2, if_true, hw]
        cases n_impl_labels_L3 m r (n : Int) ((i + 1 : Nat) : Int) (lst i (fun v => (v : Int)) ++ [.int (i : Int)]) <;> rfl
      · have : i = n := by omega
        subst this
        exact .inl ⟨_, rfl, fun m => by simp [n_impl_labels_L3, c_impl_labels_L3]⟩) 0 (by omega)
    subst h2
    exact h1
  have h8 : impl_labels_L8 r r.length 0 (lst n (fun v => (v : Int))) = some (lst n (finalS r)) := by
    obtain ⟨y, h1, h2⟩ := loop_post (N := fun m (i : Nat) => n_impl_labels_L8 m r r.length (i : Int) (lst n (iterL (edges r) i (fun v => (v : Int))))) (fun i => i ≤ r.length) (fun i => r.length - i) (fun s y => y = lst n (finalS r)) (by
      intro i hi
      by_cases hlt : i < r.length
      · refine .inr ⟨i + 1, by omega, by omega, fun y hy => hy, fun m => ?_⟩
        have h1 : (i : Int) < r.length := by omega
        have hw : IntKind.i64.wrap ((i : Int) + 1) = ((i + 1 : Nat) : Int) := succ_wrap (by omega)
        rw [iter_add]
        simp only [n_impl_labels_L8, c_impl_labels_L8, h1, decide_true, cond_true, iLab10 n r hn hr hv, Option.bind_some, hw, iterL]
        cases n_impl_labels_L8 m r r.length ((i + 1 : Nat) : Int) (lst n (passL (edges r) (iterL (edges r) i (fun v => (v : Int))))) <;> rfl
      · have hi' : i = r.length := by omega
        subst hi'
        exact .inl ⟨_, rfl, fun m => by simp [n_impl_labels_L8, c_impl_labels_L8, finalS, edges_len]⟩) 0 (by omega)
    subst h2
    exact h1
  simp only [impl_labels, c_impl_labels, h3, h8, Option.bind_some]

def clV (x0 x1 x2 x3 x4 x5 x6 x7 : Int) : Bool := !decide (x1 = x5) || (decide ((IntKind.i64.wrap (IntKind.i64.wrap (x6 - x2) + 3600)).tmod 3600 < x3) || decide ((IntKind.i64.wrap (IntKind.i64.wrap (x2 - x6) + 3600)).tmod 3600 < x7))
theorem sClash_eq (x0 x1 x2 x3 x4 x5 x6 x7 : Int) : spec_l15Clash x0 x1 x2 x3 x4 x5 x6 x7 = some (clV x0 x1 x2 x3 x4 x5 x6 x7) := by
  unfold spec_l15Clash c_spec_l15Clash spec_l15Overlap c_spec_l15Overlap clV
  cases decide (x1 = x5) <;> cases decide ((IntKind.i64.wrap (IntKind.i64.wrap (x6 - x2) + 3600)).tmod 3600 < x3) <;> simp
theorem iClash_eq (x0 x1 x2 x3 x4 x5 x6 x7 : Int) : impl_clash x0 x1 x2 x3 x4 x5 x6 x7 = some (clV x0 x1 x2 x3 x4 x5 x6 x7) := by
  unfold impl_clash c_impl_clash impl_overlap c_impl_overlap clV
  cases decide (x1 = x5) <;> cases decide ((IntKind.i64.wrap (IntKind.i64.wrap (x6 - x2) + 3600)).tmod 3600 < x3) <;> simp

def clD (x y : D) : Bool := clV (x.fld 0).toInt (x.fld 1).toInt (x.fld 2).toInt (x.fld 3).toInt (y.fld 0).toInt (y.fld 1).toInt (y.fld 2).toInt (y.fld 3).toInt
def pairF (l : List D) (s : Nat → Int) (a b : Nat) : List D := bif decide (s a = s b) && clD (l[a]?.getD (.int 0)) (l[b]?.getD (.int 0)) then [.node [.int (a : Int), .int (b : Int)]] else []
def rowF (l : List D) (s : Nat → Int) (a : Nat) : List D := (List.range' (a + 1) (l.length - (a + 1))).flatMap (pairF l s a)
def probsF (l : List D) (s : Nat → Int) : List D := (List.range' 0 l.length).flatMap (rowF l s)

theorem pairF_len {l : List D} {s : Nat → Int} {a b : Nat} : (pairF l s a b).length ≤ 1 := by
  unfold pairF
  cases (decide (s a = s b) && clD (l[a]?.getD (.int 0)) (l[b]?.getD (.int 0))) <;> simp
theorem rowF_len {l : List D} {s : Nat → Int} {a : Nat} (hl : l.length ≤ 12) : (rowF l s a).length ≤ 12 := by
  have := flat_len (c := 1) (f := pairF l s a) (List.range' (a + 1) (l.length - (a + 1))) (fun i _ => pairF_len)
  unfold rowF
  rw [List.length_range', Nat.mul_one] at this
  omega
theorem probsF_len {l : List D} {s : Nat → Int} (hl : l.length ≤ 12) : (probsF l s).length ≤ 144 := by
  have := flat_len (c := 12) (f := rowF l s) (List.range' 0 l.length) (fun i _ => rowF_len hl)
  unfold probsF
  rw [List.length_range'] at this
  omega
theorem probsF_items {l : List D} {s : Nat → Int} : ∀ d ∈ probsF l s, d.items.length ≤ 1048576 := by
  intro d hd
  simp only [probsF, rowF, List.mem_flatMap] at hd
  obtain ⟨a, _, b, _, hd⟩ := hd
  unfold pairF at hd
  cases hb : (decide (s a = s b) && clD (l[a]?.getD (.int 0)) (l[b]?.getD (.int 0))) with
  | false => rw [hb] at hd; simp at hd
  | true =>
    rw [hb] at hd
    simp only [cond_true, List.mem_singleton] at hd
    subst hd
    simp [items_node]

theorem sP7 (l : List D) (s : Nat → Int) (hl : l.length ≤ 12) (a : Nat) (ha : a < l.length) (acc : List D) (hacc : acc.length ≤ 1000) : spec_l15Problems_L7 l a ((a + 1 : Nat) : Int) (lst l.length s) acc = some (l, (a : Int), lst l.length s, acc ++ rowF l s a) := by
  refine app_loop (N := fun m i acc => n_spec_l15Problems_L7 m l a i (lst l.length s) acc) (n := l.length) (c := 1) (base := 1000) (out := fun acc => (l, (a : Int), lst l.length s, acc)) (pairF l s a) (fun i _ => pairF_len) (fun m b acc hb hacc => ?_) (fun m acc _ => ?_) (a + 1) acc (by omega) (by omega)
  · have h1 : (b : Int) < l.length := by omega
    have h2 : (a : Int) < l.length := by omega
    have h1' : b + 1 ≤ l.length := by omega
    have h2' : a + 1 ≤ l.length := by omega
    have hw : IntKind.i64.wrap ((b : Int) + 1) = ((b + 1 : Nat) : Int) := succ_wrap (by omega)
    have hlen : acc.length + ([D.node [.int (a : Int), .int (b : Int)]] : List D).length ≤ 4294967296 := by simp; omega
    simp only [n_spec_l15Problems_L7, c_spec_l15Problems_L7, h1, h2, h1', h2', decide_true, cond_true, Int.natCast_nonneg, and_self, if_true, Int.toNat_natCast, List.getD_eq_getElem?_getD, lst_len, lst_get ha, lst_get hb, toInt_int, sClash_eq, Option.bind_some, hw, hlen, pairF, clD]
    cases decide (s a = s b) with
    | false => simp
    | true =>
      cases clV ((l[a]?.getD (.int 0)).fld 0).toInt ((l[a]?.getD (.int 0)).fld 1).toInt ((l[a]?.getD (.int 0)).fld 2).toInt ((l[a]?.getD (.int 0)).fld 3).toInt ((l[b]?.getD (.int 0)).fld 0).toInt ((l[b]?.getD (.int 0)).fld 1).toInt ((l[b]?.getD (.int 0)).fld 2).toInt ((l[b]?.getD (.int 0)).fld 3).toInt <;> simp
  · simp [n_spec_l15Problems_L7, c_spec_l15Problems_L7]

theorem iP7 (l : List D) (s : Nat → Int) (hl : l.length ≤ 12) (a : Nat) (ha : a < l.length) (acc : List D) (hacc : acc.length ≤ 1000) (x3 x4 : Int) : impl_problems_L7 l a ((a + 1 : Nat) : Int) x3 x4 (lst l.length s) acc = some (l, x3, x4, lst l.length s, acc ++ rowF l s a) := by
  refine app_loop (N := fun m i acc => n_impl_problems_L7 m l a i x3 x4 (lst l.length s) acc) (n := l.length) (c := 1) (base := 1000) (out := fun acc => (l, x3, x4, lst l.length s, acc)) (pairF l s a) (fun i _ => pairF_len) (fun m b acc hb hacc => ?_) (fun m acc _ => ?_) (a + 1) acc (by omega) (by omega)
  · have h1 : (b : Int) < l.length := by omega
    have h2 : (a : Int) < l.length := by omega
    have h1' : b + 1 ≤ l.length := by omega
    have h2' : a + 1 ≤ l.length := by omega
    have hw : IntKind.i64.wrap ((b : Int) + 1) = ((b + 1 : Nat) : Int) := succ_wrap (by omega)
    have hlen : acc.length + ([D.node [.int (a : Int), .int (b : Int)]] : List D).length ≤ 4294967296 := by simp; omega
    simp only [n_impl_problems_L7, c_impl_problems_L7, h1, h2, h1', h2', decide_true, cond_true, Int.natCast_nonneg, and_self, if_true, Int.toNat_natCast, List.getD_eq_getElem?_getD, lst_len, lst_get ha, lst_get hb, toInt_int, iClash_eq, Option.bind_some, hw, hlen, pairF, clD]
    cases decide (s a = s b) with
    | false => simp
    | true =>
      cases clV ((l[a]?.getD (.int 0)).fld 0).toInt ((l[a]?.getD (.int 0)).fld 1).toInt ((l[a]?.getD (.int 0)).fld 2).toInt ((l[a]?.getD (.int 0)).fld 3).toInt ((l[b]?.getD (.int 0)).fld 0).toInt ((l[b]?.getD (.int 0)).fld 1).toInt ((l[b]?.getD (.int 0)).fld 2).toInt ((l[b]?.getD (.int 0)).fld 3).toInt <;> simp
  · simp [n_impl_problems_L7, c_impl_problems_L7]

theorem sP_eq (l r : List D) (hl : l.length ≤ 12) (hr : r.length ≤ 1048576) (hv : validJ l.length r) : spec_l15Problems l r = some (probsF l (finalS r)) := by
  have key : spec_l15Problems_L4 l 0 (lst l.length (finalS r)) [] = some (probsF l (finalS r)) := by
    refine (app_loop (N := fun m i acc => n_spec_l15Problems_L4 m l i (lst l.length (finalS r)) acc) (n := l.length) (c := 12) (base := 0) (out := fun acc => acc) (rowF l (finalS r)) (fun i _ => rowF_len hl) (fun m a acc ha hacc => ?_) (fun m acc _ => ?_) 0 [] (by omega) (by simp)).trans (by simp [probsF])
    · have h2 : (a : Int) < l.length := by omega
      have hw : IntKind.i64.wrap ((a : Int) + 1) = ((a + 1 : Nat) : Int) := succ_wrap (by omega)
      simp only [n_spec_l15Problems_L4, c_spec_l15Problems_L4, h2, decide_true, cond_true, hw, sP7 l (finalS r) hl a ha acc (by omega), Option.bind_some]
      cases n_spec_l15Problems_L4 m l ((a + 1 : Nat) : Int) (lst l.length (finalS r)) (acc ++ rowF l (finalS r) a) <;> rfl
    · simp [n_spec_l15Problems_L4, c_spec_l15Problems_L4]
  simp only [spec_l15Problems, c_spec_l15Problems, sLab_eq l.length r (by omega) hr hv, key, Option.bind_some]

theorem iP_eq (l r : List D) (hl : l.length ≤ 12) (hr : r.length ≤ 1048576) (hv : validJ l.length r) : impl_problems l r = some (probsF l (finalS r)) := by
  have key : impl_problems_L4 l l.length 0 (lst l.length (finalS r)) [] = some (probsF l (finalS r)) := by
    refine (app_loop (N := fun m i acc => n_impl_problems_L4 m l l.length i (lst l.length (finalS r)) acc) (n := l.length) (c := 12) (base := 0) (out := fun acc => acc) (rowF l (finalS r)) (fun i _ => rowF_len hl) (fun m a acc ha hacc => ?_) (fun m acc _ => ?_) 0 [] (by omega) (by simp)).trans (by simp [probsF])
    · have h2 : (a : Int) < l.length := by omega
      have hw : IntKind.i64.wrap ((a : Int) + 1) = ((a + 1 : Nat) : Int) := succ_wrap (by omega)
      simp only [n_impl_problems_L4, c_impl_problems_L4, h2, decide_true, cond_true, hw, iP7 l (finalS r) hl a ha acc (by omega), Option.bind_some]
      cases n_impl_problems_L4 m l l.length ((a + 1 : Nat) : Int) (lst l.length (finalS r)) (acc ++ rowF l (finalS r) a) <;> rfl
    · simp [n_impl_problems_L4, c_impl_problems_L4]
  simp only [impl_problems, c_impl_problems, iLab_eq l.length r (by omega) hr hv, key, Option.bind_some]

/-- a loop that keeps a flag -/
theorem and_loop {X : Type} {N : Nat → Int → Bool → Option X} {n : Nat} {out : Bool → X} (q : Nat → Bool)
    (hs : ∀ m (i : Nat) b, i < n → N (m + 1) (i : Int) b = N m ((i + 1 : Nat) : Int) (b && q i)) (he : ∀ m b, N (m + 1) (n : Int) b = some (out b)) (b : Bool) :
    ev (fun m => N m 0 b) = some (out (b && (List.range' 0 n).all q)) := by
  have key : ∀ k, ∀ m (i : Nat) b, i + k = n → k < m → N m (i : Int) b = some (out (b && (List.range' i k).all q)) := by
    intro k
    induction k with
    | zero =>
      intro m i b h1 h2
      obtain ⟨m, rfl⟩ : ∃ m', m = m' + 1 := ⟨m - 1, by omega⟩
      have hi : i = n := by omega
      subst hi
      rw [he m b]
      simp
    | succ k ih =>
      intro m i b h1 h2
      obtain ⟨m, rfl⟩ : ∃ m', m = m' + 1 := ⟨m - 1, by omega⟩
      rw [hs m i b (by omega), ih m (i + 1) _ (by omega) (by omega), List.range'_succ, List.all_cons, Bool.and_assoc]
  exact ev_eq (f := fun m => N m 0 b) (n + 1) (fun m hm => key n m 0 b (by omega) (by omega))

theorem l1In_b (x a b : Int) : spec_l1In x a b = some (btw x a b) := l1In_eq x a b
def qS (l : List D) (s : Nat → Int) (u t a b : Nat) : Bool := !(decide (s a = s u) && (decide (s b = s t) && (!decide (a = b) && clD (l[a]?.getD (.int 0)) (l[b]?.getD (.int 0)))))
def qI (l : List D) (s : Nat → Int) (u t a b : Nat) : Bool := !(decide (s a = s u) && (decide (s b = s t) && clD (l[a]?.getD (.int 0)) (l[b]?.getD (.int 0))))
def fineS (l : List D) (s : Nat → Int) (u t : Nat) : Bool := !decide (s t = s u) && (List.range' 0 l.length).all (fun a => (List.range' 0 l.length).all (qS l s u t a))
def fineI (l : List D) (s : Nat → Int) (u t : Nat) : Bool := !decide (s t = s u) && (List.range' 0 l.length).all (fun a => (List.range' 0 l.length).all (qI l s u t a))

theorem fine_same (l : List D) (s : Nat → Int) (u t : Nat) : fineS l s u t = fineI l s u t := by
  unfold fineS fineI
  by_cases h : s t = s u
  · simp [h]
  · have : ∀ a b, qS l s u t a b = qI l s u t a b := by
      intro a b
      unfold qS qI
      by_cases hab : a = b
      · subst hab
        by_cases h1 : s a = s u
        · have h2 : ¬ s a = s t := fun e => h (e.symm.trans h1)
          simp [h1, h2]
          left; intro e; exact h e.symm
        · simp [h1]
      · simp [hab]
    have e : (fun a => (List.range' 0 l.length).all (qS l s u t a)) = (fun a => (List.range' 0 l.length).all (qI l s u t a)) := by
      funext a
      congr 1
      funext b
      exact this a b
    rw [e]

theorem sM13 (l : List D) (s : Nat → Int) (u t a : Nat) (f : Bool) (x6 : List D) (hl : l.length ≤ 12) (hu : u < l.length) (ht : t < l.length) (ha : a < l.length) :
    spec_MatchingSherds_L13 l u t f a 0 x6 (lst l.length s) = some (l, (u : Int), (t : Int), f && (List.range' 0 l.length).all (qS l s u t a), (a : Int), x6, lst l.length s) := by
  refine and_loop (N := fun m i f => n_spec_MatchingSherds_L13 m l u t f a i x6 (lst l.length s)) (n := l.length) (out := fun f => (l, (u : Int), (t : Int), f, (a : Int), x6, lst l.length s)) (qS l s u t a) (fun m b f hb => ?_) (fun m f => ?_) f
  · have h1 : (b : Int) < l.length := by omega
    have h2 : (a : Int) < l.length := by omega
    have h3 : (u : Int) < l.length := by omega
    have h4 : (t : Int) < l.length := by omega
    have h1' : b + 1 ≤ l.length := by omega
    have h2' : a + 1 ≤ l.length := by omega
    have h3' : u + 1 ≤ l.length := by omega
    have h4' : t + 1 ≤ l.length := by omega
    have hw : IntKind.i64.wrap ((b : Int) + 1) = ((b + 1 : Nat) : Int) := succ_wrap (by omega)
    simp only [n_spec_MatchingSherds_L13, c_spec_MatchingSherds_L13, h1, h2, h3, h4, h1', h2', h3', h4', decide_true, cond_true, Int.natCast_nonneg, and_self, if_true, Int.toNat_natCast, List.getD_eq_getElem?_getD, lst_len, lst_get ha, lst_get hb, lst_get hu, lst_get ht, toInt_int, sClash_eq, Option.bind_some, hw, qS, clD, Int.natCast_inj]
    cases decide (s a = s u) with
    | false => simp
    | true =>
      cases decide (s b = s t) with
      | false => simp
      | true =>
        cases decide (a = b) with
        | true => simp
        | false =>
          cases clV ((l[a]?.getD (.int 0)).fld 0).toInt ((l[a]?.getD (.int 0)).fld 1).toInt ((l[a]?.getD (.int 0)).fld 2).toInt ((l[a]?.getD (.int 0)).fld 3).toInt ((l[b]?.getD (.int 0)).fld 0).toInt ((l[b]?.getD (.int 0)).fld 1).toInt ((l[b]?.getD (.int 0)).fld 2).toInt ((l[b]?.getD (.int 0)).fld 3).toInt <;> simp
  · simp [n_spec_MatchingSherds_L13, c_spec_MatchingSherds_L13]

theorem iM13 (l : List D) (s : Nat → Int) (u t a : Nat) (f : Bool) (x5 x6 x7 x8 : Int) (x12 : List D) (hl : l.length ≤ 12) (hu : u < l.length) (ht : t < l.length) (ha : a < l.length) :
    impl_MatchingSherds_L13 l u t f a x5 x6 x7 x8 l.length 0 (lst l.length s) x12 = some (l, (u : Int), (t : Int), f && (List.range' 0 l.length).all (qI l s u t a), x5, x6, x7, x8, lst l.length s, x12) := by
  refine and_loop (N := fun m i f => n_impl_MatchingSherds_L13 m l u t f a x5 x6 x7 x8 l.length i (lst l.length s) x12) (n := l.length) (out := fun f => (l, (u : Int), (t : Int), f, x5, x6, x7, x8, lst l.length s, x12)) (qI l s u t a) (fun m b f hb => ?_) (fun m f => ?_) f
  · have h1 : (b : Int) < l.length := by omega
    have h2 : (a : Int) < l.length := by omega
    have h3 : (u : Int) < l.length := by omega
    have h4 : (t : Int) < l.length := by omega
    have h1' : b + 1 ≤ l.length := by omega
    have h2' : a + 1 ≤ l.length := by omega
    have h3' : u + 1 ≤ l.length := by omega
    have h4' : t + 1 ≤ l.length := by omega
    have hw : IntKind.i64.wrap ((b : Int) + 1) = ((b + 1 : Nat) : Int) := succ_wrap (by omega)
    simp only [n_impl_MatchingSherds_L13, c_impl_MatchingSherds_L13, h1, h2, h3, h4, h1', h2', h3', h4', decide_true, cond_true, Int.natCast_nonneg, and_self, if_true, Int.toNat_natCast, List.getD_eq_getElem?_getD, lst_len, lst_get ha, lst_get hb, lst_get hu, lst_get ht, toInt_int, iClash_eq, Option.bind_some, hw, qI, clD]
    cases decide (s a = s u) with
    | false => simp
    | true =>
      cases decide (s b = s t) with
      | false => simp
      | true =>
        cases clV ((l[a]?.getD (.int 0)).fld 0).toInt ((l[a]?.getD (.int 0)).fld 1).toInt ((l[a]?.getD (.int 0)).fld 2).toInt ((l[a]?.getD (.int 0)).fld 3).toInt ((l[b]?.getD (.int 0)).fld 0).toInt ((l[b]?.getD (.int 0)).fld 1).toInt ((l[b]?.getD (.int 0)).fld 2).toInt ((l[b]?.getD (.int 0)).fld 3).toInt <;> simp
  · simp [n_impl_MatchingSherds_L13, c_impl_MatchingSherds_L13]

theorem sM10 (l : List D) (s : Nat → Int) (u t : Nat) (f : Bool) (x5 : List D) (hl : l.length ≤ 12) (hu : u < l.length) (ht : t < l.length) :
    spec_MatchingSherds_L10 l u t f 0 x5 (lst l.length s) = some (l, (u : Int), (t : Int), f && (List.range' 0 l.length).all (fun a => (List.range' 0 l.length).all (qS l s u t a)), x5, lst l.length s) := by
  refine and_loop (N := fun m i f => n_spec_MatchingSherds_L10 m l u t f i x5 (lst l.length s)) (n := l.length) (out := fun f => (l, (u : Int), (t : Int), f, x5, lst l.length s)) (fun a => (List.range' 0 l.length).all (qS l s u t a)) (fun m a f ha => ?_) (fun m f => ?_) f
  · have h2 : (a : Int) < l.length := by omega
    have hw : IntKind.i64.wrap ((a : Int) + 1) = ((a + 1 : Nat) : Int) := succ_wrap (by omega)
    simp only [n_spec_MatchingSherds_L10, c_spec_MatchingSherds_L10, h2, decide_true, cond_true, sM13 l s u t a f x5 hl hu ht ha, Option.bind_some, hw]
    cases n_spec_MatchingSherds_L10 m l u t (f && (List.range' 0 l.length).all (qS l s u t a)) ((a + 1 : Nat) : Int) x5 (lst l.length s) <;> rfl
  · simp [n_spec_MatchingSherds_L10, c_spec_MatchingSherds_L10]

theorem iM10 (l : List D) (s : Nat → Int) (u t : Nat) (f : Bool) (x4 x5 : Int) (x9 : List D) (hl : l.length ≤ 12) (hu : u < l.length) (ht : t < l.length) :
    impl_MatchingSherds_L10 l u t f x4 x5 l.length 0 (lst l.length s) x9 = some (l, (u : Int), (t : Int), f && (List.range' 0 l.length).all (fun a => (List.range' 0 l.length).all (qI l s u t a)), x4, x5, lst l.length s, x9) := by
  refine and_loop (N := fun m i f => n_impl_MatchingSherds_L10 m l u t f x4 x5 l.length i (lst l.length s) x9) (n := l.length) (out := fun f => (l, (u : Int), (t : Int), f, x4, x5, lst l.length s, x9)) (fun a => (List.range' 0 l.length).all (qI l s u t a)) (fun m a f ha => ?_) (fun m f => ?_) f
  · have h2 : (a : Int) < l.length := by omega
    have hw : IntKind.i64.wrap ((a : Int) + 1) = ((a + 1 : Nat) : Int) := succ_wrap (by omega)
    simp only [n_impl_MatchingSherds_L10, c_impl_MatchingSherds_L10, h2, decide_true, cond_true, iM13 l s u t a f _ _ _ _ x9 hl hu ht ha, Option.bind_some, hw]
    cases n_impl_MatchingSherds_L10 m l u t (f && (List.range' 0 l.length).all (qI l s u t a)) x4 x5 l.length ((a + 1 : Nat) : Int) (lst l.length s) x9 <;> rfl
  · simp [n_impl_MatchingSherds_L10, c_impl_MatchingSherds_L10]

def matchF (l : List D) (s : Nat → Int) (u t : Nat) : List D := bif fineI l s u t then [.int (t : Int)] else []
theorem matchF_len {l : List D} {s : Nat → Int} {u t : Nat} : (matchF l s u t).length ≤ 1 := by unfold matchF; cases fineI l s u t <;> simp

theorem sM6 (l : List D) (s : Nat → Int) (u : Nat) (hl : l.length ≤ 12) (hu : u < l.length) : spec_MatchingSherds_L6 l u 0 [] (lst l.length s) = some ((List.range' 0 l.length).flatMap (matchF l s u)) := by
  refine (app_loop (N := fun m i acc => n_spec_MatchingSherds_L6 m l u i acc (lst l.length s)) (n := l.length) (c := 1) (base := 0) (out := fun acc => acc) (matchF l s u) (fun i _ => matchF_len) (fun m t acc ht hacc => ?_) (fun m acc _ => ?_) 0 [] (by omega) (by simp)).trans (by simp)
  · have h3 : (u : Int) < l.length := by omega
    have h4 : (t : Int) < l.length := by omega
    have h3' : u + 1 ≤ l.length := by omega
    have h4' : t + 1 ≤ l.length := by omega
    have hw : IntKind.i64.wrap ((t : Int) + 1) = ((t + 1 : Nat) : Int) := succ_wrap (by omega)
    have hlen : acc.length + ([D.int (t : Int)] : List D).length ≤ 4294967296 := by simp; omega
    simp only [n_spec_MatchingSherds_L6, c_spec_MatchingSherds_L6, h3, h4, h3', h4', decide_true, cond_true, Int.natCast_nonneg, and_self, if_true, Int.toNat_natCast, List.getD_eq_getElem?_getD, lst_len, lst_get hu, lst_get ht, toInt_int, sM10 l s u t _ acc hl hu ht, Option.bind_some, hw, hlen, matchF, ← fine_same, fineS]
    cases (!decide (s t = s u) && (List.range' 0 l.length).all (fun a => (List.range' 0 l.length).all (qS l s u t a))) with
    | true => simp only [cond_true]; cases n_spec_MatchingSherds_L6 m l u ((t + 1 : Nat) : Int) (acc ++ [.int (t : Int)]) (lst l.length s) <;> rfl
    | false => simp only [cond_false, List.append_nil]; cases n_spec_MatchingSherds_L6 m l u ((t + 1 : Nat) : Int) acc (lst l.length s) <;> rfl
  · simp [n_spec_MatchingSherds_L6, c_spec_MatchingSherds_L6]

theorem iM6 (l : List D) (s : Nat → Int) (u : Nat) (hl : l.length ≤ 12) (hu : u < l.length) : impl_MatchingSherds_L6 l u l.length 0 (lst l.length s) [] = some ((List.range' 0 l.length).flatMap (matchF l s u)) := by
  refine (app_loop (N := fun m i acc => n_impl_MatchingSherds_L6 m l u l.length i (lst l.length s) acc) (n := l.length) (c := 1) (base := 0) (out := fun acc => acc) (matchF l s u) (fun i _ => matchF_len) (fun m t acc ht hacc => ?_) (fun m acc _ => ?_) 0 [] (by omega) (by simp)).trans (by simp)
  · have h3 : (u : Int) < l.length := by omega
    have h4 : (t : Int) < l.length := by omega
    have h3' : u + 1 ≤ l.length := by omega
    have h4' : t + 1 ≤ l.length := by omega
    have hw : IntKind.i64.wrap ((t : Int) + 1) = ((t + 1 : Nat) : Int) := succ_wrap (by omega)
    have hlen : acc.length + ([D.int (t : Int)] : List D).length ≤ 4294967296 := by simp; omega
    simp only [n_impl_MatchingSherds_L6, c_impl_MatchingSherds_L6, h3, h4, h3', h4', decide_true, cond_true, Int.natCast_nonneg, and_self, if_true, Int.toNat_natCast, List.getD_eq_getElem?_getD, lst_len, lst_get hu, lst_get ht, toInt_int, iM10 l s u t _ _ _ acc hl hu ht, Option.bind_some, hw, hlen, matchF, fineI]
    cases (!decide (s t = s u) && (List.range' 0 l.length).all (fun a => (List.range' 0 l.length).all (qI l s u t a))) with
    | true => simp only [cond_true]; cases n_impl_MatchingSherds_L6 m l u l.length ((t + 1 : Nat) : Int) (lst l.length s) (acc ++ [.int (t : Int)]) <;> rfl
    | false => simp only [cond_false, List.append_nil]; cases n_impl_MatchingSherds_L6 m l u l.length ((t + 1 : Nat) : Int) (lst l.length s) acc <;> rfl
  · simp [n_impl_MatchingSherds_L6, c_impl_MatchingSherds_L6]

theorem ms_same (l r : List D) (x : Int) (hl : l.length ≤ 1048576) (hr : r.length ≤ 1048576) : ∃ y, spec_MatchingSherds l r x = some y ∧ impl_MatchingSherds l r x = some y ∧ y.1.length ≤ 1048576 := by
  obtain ⟨b, h1, h2, h3⟩ := sherds_good l r hl hr
  simp only [spec_MatchingSherds, c_spec_MatchingSherds, impl_MatchingSherds, c_impl_MatchingSherds, h1, h2, l1In_eq, within_eq, Option.bind_some]
  cases b with
  | false => exact ⟨_, rfl, rfl, by simp⟩
  | true =>
    obtain ⟨k1, k2, k3⟩ := h3 rfl
    have hv := validJ_of k3
    have hw : IntKind.i64.wrap ((l.length : Int) - 1) = (l.length : Int) - 1 := wrap_id (by omega) (by omega)
    simp only [Bool.not_true, cond_false, hw]
    cases hb : btw x 0 ((l.length : Int) - 1) with
    | false => exact ⟨_, rfl, rfl, by simp⟩
    | true =>
      rw [btw_iff] at hb
      obtain ⟨u, rfl⟩ : ∃ u : Nat, x = (u : Int) := ⟨x.toNat, by omega⟩
      have hu : u < l.length := by omega
      simp only [Bool.not_true, cond_false, sP_eq l r k1 hr hv, iP_eq l r k1 hr hv, Option.bind_some]
      cases decide (0 < ((probsF l (finalS r)).length : Int)) with
      | true => exact ⟨_, rfl, rfl, by simp⟩
      | false =>
        simp only [cond_false, sLab_eq l.length r (by omega) hr hv, iLab_eq l.length r (by omega) hr hv, Option.bind_some, sM6 l (finalS r) u k1 hu, iM6 l (finalS r) u k1 hu]
        refine ⟨_, rfl, rfl, ?_⟩
        have := flat_len (c := 1) (f := matchF l (finalS r) u) (List.range' 0 l.length) (fun i _ => matchF_len)
        rw [List.length_range', Nat.mul_one] at this
        simp only
        omega

theorem pure_FnExactMatchingSherds (x0 : List D) (x1 : List D) (x2 : Int) (h0 : x0.length ≤ maxLen) (w0 : ∀ d ∈ x0, wfD (.struct [.int .i64, .int .i64, .int .i64, .int .i64]) d) (h1 : x1.length ≤ maxLen) (w1 : ∀ d ∈ x1, wfD (.struct [.int .i64, .int .i64]) d) (h2 : (Lit.int .i64 x2).wf = true) : laws_FnExactMatchingSherds x0 x1 x2 = some true := by
  unfold maxLen at h0 h1
  have hw : IntKind.i64.wrap (1048576 - (x0.length : Int)) = 1048576 - (x0.length : Int) := wrap_id (by omega) (by omega)
  by_cases hl : x0.length ≤ 1048576
  · have h2 : ¬ (1048576 - (x0.length : Int)) < 0 := by omega
    have hw2 : IntKind.i64.wrap (1048576 - (x0.length : Int) - (x1.length : Int)) = 1048576 - (x0.length : Int) - (x1.length : Int) := wrap_id (by omega) (by omega)
    by_cases hr : (1048576 - (x0.length : Int) - (x1.length : Int)) < 0
    · simp [laws_FnExactMatchingSherds, c_laws_FnExactMatchingSherds, laws_szSherdS, c_laws_szSherdS, laws_szJoinS, c_laws_szJoinS, hw, h2, hw2, hr]
    · have hr' : x1.length ≤ 1048576 := by omega
      obtain ⟨y, hb1, hb2, hb3⟩ := ms_same x0 x1 x2 hl hr'
      obtain ⟨k1, l1, e1, e1'⟩ := markSherdS_ok x0 hl
      obtain ⟨k2, l2, e2, e2'⟩ := markJoinS_ok x1 k1 e1' hr'
      have e3 : ¬ k2 < 0 := by omega
      have e4 := markIntS_k y.1 1 (by omega) hb3
      have e5 := heldIntS_k y.1.length 1 (by omega) hb3
      have e6 : ¬ (1 + (y.1.length : Int)) < 0 := by omega
      simp [laws_FnExactMatchingSherds, c_laws_FnExactMatchingSherds, laws_szSherdS, c_laws_szSherdS, laws_szJoinS, c_laws_szJoinS, hw, h2, hw2, hr, toSherdS_id x0 hl w0, toJoinS_id x1 hr' w1, hb1, hb2, eqSherdS_self x0 hl, eqJoinS_self x1 hr', eqIntS_self y.1 hb3, e1, e2, e3, e4, e5, e6]
  · have h2 : (1048576 - (x0.length : Int)) < 0 := by omega
    simp [laws_FnExactMatchingSherds, c_laws_FnExactMatchingSherds, laws_szSherdS, c_laws_szSherdS, hw, h2]

end Go.Proofs.Ythkmcndfifgdpaa
