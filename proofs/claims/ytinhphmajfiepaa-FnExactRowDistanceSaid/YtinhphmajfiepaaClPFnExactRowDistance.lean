/- The law FnExactRowDistance over plain values. No condition beside those of the statement. -/
import Derived.Test.YtinhphmajfiepaaClMFnExactRowDistance
import Derived.Test.YtinhphmajfiepaaRaiU5
set_option linter.unusedVariables false
set_option linter.unusedSimpArgs false
set_option maxRecDepth 100000
namespace Go.Proofs.Ytinhphmajfiepaa
open Go Go.Rai

theorem toIntS_id (l : List D) (hl : l.length ≤ 1048576) (w : ∀ d ∈ l, wfD (.int .i64) d) : laws_toIntS l = some l := by
  have key : laws_toIntS_L3 l 0 (List.replicate l.length (.int 0)) = some l := by
    refine copy_loop (N := n_laws_toIntS_L3) (fun m i acc hi hacc => ?_) (fun m acc hacc => ?_)
    · obtain ⟨a, hd, _⟩ := w _ (get_mem hi)
      have hw : IntKind.i64.wrap ((i : Int) + 1) = (i : Int) + 1 := wrap_id (by omega) (by omega)
      have h2 : (i : Int) < acc.length := by omega
      have h3 : i + 1 ≤ acc.length := by omega
      have h1 : (i : Int) < l.length := by omega
      simp [n_laws_toIntS_L3, c_laws_toIntS_L3, h1, h2, h3, hw, hd, toInt_int]
    · simp [n_laws_toIntS_L3, c_laws_toIntS_L3]
  have h4 : (l.length : Int) ≤ 4294967296 := by omega
  simp [laws_toIntS, c_laws_toIntS, key, h4]

theorem eqIntS_self (l : List D) (hl : l.length ≤ 1048576) : laws_eqIntS l l = some true := by
  have key : laws_eqIntS_L4 l l 0 = some (.inr ()) := by
    refine all_loop (N := fun n i => n_laws_eqIntS_L4 n l l i) (len := l.length) (fun m i hi => ?_) (fun m => ?_)
    · have hw : IntKind.i64.wrap ((i : Int) + 1) = (i : Int) + 1 := wrap_id (by omega) (by omega)
      have h1 : (i : Int) < l.length := by omega
      simp [n_laws_eqIntS_L4, c_laws_eqIntS_L4, h1, hw]
    · simp [n_laws_eqIntS_L4, c_laws_eqIntS_L4]
  simp [laws_eqIntS, c_laws_eqIntS, key]


theorem l1In_eq (x a b : Int) : spec_l1In x a b = some (btw x a b) := by
  unfold spec_l1In c_spec_l1In btw
  by_cases h : a ≤ x <;> simp [h]
theorem within_eq (x a b : Int) : impl_within x a b = some (btw x a b) := by
  unfold impl_within c_impl_within btw
  by_cases h : a ≤ x <;> simp [h]


theorem wfRow {d : D} (h : wfD (.slice (.int .i64)) d) : d = .node d.items ∧ d.items.length ≤ maxLen ∧ ∀ x ∈ d.items, wfD (.int .i64) x := by
  obtain ⟨l, rfl, h1, h2⟩ := h
  exact ⟨rfl, h1, h2⟩

theorem szTable_eq (l : List D) (hl : l.length ≤ maxLen) (w : ∀ d ∈ l, wfD (.slice (.int .i64)) d) : ∃ v, laws_szTable l 1048576 = some v ∧ (v < 0 ∨ (l.length ≤ 1048576 ∧ ∀ d ∈ l, d.items.length ≤ 1048576)) := by
  unfold maxLen at hl
  have hw : IntKind.i64.wrap (1048576 - (l.length : Int)) = 1048576 - (l.length : Int) := wrap_id (by omega) (by omega)
  simp only [laws_szTable, c_laws_szTable, laws_szIntSS, c_laws_szIntSS, hw]
  by_cases h0 : 1048576 - (l.length : Int) < 0
  · exact ⟨-1, by simp [h0], .inl (by omega)⟩
  · obtain ⟨y, h1, h2⟩ := loop_post (N := fun m (s : Nat × Int) => n_laws_szIntSS_L5 m l s.2 (s.1 : Int)) (fun s => s.1 ≤ l.length ∧ 0 ≤ s.2 ∧ s.2 ≤ 1048576) (fun s => l.length - s.1)
      (fun s y => match y with | .inl (_, r) => r = -1 | .inr r => 0 ≤ r ∧ ∀ d ∈ l.drop s.1, d.items.length ≤ 1048576) (by
      rintro ⟨i, s⟩ ⟨hi, hs1, hs2⟩
      simp only at hi hs1 hs2 ⊢
      by_cases hlt : i < l.length
      · have hlt' : (i : Int) < l.length := by omega
        obtain ⟨_, r1, _⟩ := wfRow (w _ (get_mem hlt))
        unfold maxLen at r1
        have hw2 : IntKind.i64.wrap (s - ((l[i]?.getD (.int 0)).items.length : Int)) = s - ((l[i]?.getD (.int 0)).items.length : Int) := wrap_id (by omega) (by omega)
        by_cases hneg : s - ((l[i]?.getD (.int 0)).items.length : Int) < 0
        · refine .inl ⟨.inl (-1, -1), rfl, fun m => ?_⟩
          simp only [n_laws_szIntSS_L5, c_laws_szIntSS_L5, laws_szIntS, c_laws_szIntS, hlt', decide_true, cond_true, Int.natCast_nonneg, and_self, if_true, Int.toNat_natCast, List.getD_eq_getElem?_getD, hw2, hneg, Option.bind_some]
          rfl
        · refine .inr ⟨(i + 1, s - ((l[i]?.getD (.int 0)).items.length : Int)), ⟨by simp; omega, by simp only; omega, by simp only; omega⟩, by simp; omega, fun y hy => ?_, fun m => ?_⟩
          · cases y with
            | inl y => exact hy
            | inr r =>
              refine ⟨hy.1, fun d hd => ?_⟩
              rw [drop_cons hlt] at hd
              rcases List.mem_cons.1 hd with rfl | hd
              · omega
              · exact hy.2 d hd
          · simp only [n_laws_szIntSS_L5, c_laws_szIntSS_L5, laws_szIntS, c_laws_szIntS, hlt', decide_true, cond_true, Int.natCast_nonneg, and_self, if_true, Int.toNat_natCast, List.getD_eq_getElem?_getD, hw2, hneg, decide_false, cond_false, Option.bind_some, succ_wrap (show i < 4611686018427387904 by omega)]
            cases n_laws_szIntSS_L5 m l (s - ((l[i]?.getD (.int 0)).items.length : Int)) ((i + 1 : Nat) : Int) <;> rfl
      · have hlt' : ¬ (i : Int) < l.length := by omega
        exact .inl ⟨.inr s, ⟨hs1, by rw [drop_end hlt]; simp⟩, fun m => by simp [n_laws_szIntSS_L5, c_laws_szIntSS_L5, hlt']⟩) (0, 1048576 - (l.length : Int)) ⟨by simp, by simp only; omega, by simp only; omega⟩
    have h1' : laws_szIntSS_L5 l (1048576 - (l.length : Int)) 0 = some y := h1
    simp only [h0, decide_false, cond_false, h1', Option.bind_some]
    cases y with
    | inl y =>
      obtain ⟨a, b⟩ := y
      have hb : b = -1 := h2
      subst hb
      exact ⟨-1, rfl, .inl (by omega)⟩
    | inr r =>
      have h3 : ¬ r < 0 := by have := h2.1; omega
      refine ⟨r, by simp [h3], .inr ⟨by omega, fun d hd => h2.2 d (by simpa using hd)⟩⟩

theorem toTable_id (l : List D) (hl : l.length ≤ 1048576) (w : ∀ d ∈ l, wfD (.slice (.int .i64)) d) (hr : ∀ d ∈ l, d.items.length ≤ 1048576) : laws_toTable l = some l := by
  have key : laws_toIntSS_L3 l 0 (List.replicate l.length (.node [])) = some l := by
    refine copy_loop (N := n_laws_toIntSS_L3) (fun m i acc hi hacc => ?_) (fun m acc hacc => ?_)
    · obtain ⟨r0, r1, r2⟩ := wfRow (w _ (get_mem hi))
      have hid := toIntS_id (l[i]?.getD (.int 0)).items (hr _ (get_mem hi)) r2
      have hw : IntKind.i64.wrap ((i : Int) + 1) = (i : Int) + 1 := wrap_id (by omega) (by omega)
      have h2 : (i : Int) < acc.length := by omega
      have h3 : i + 1 ≤ acc.length := by omega
      have h1 : (i : Int) < l.length := by omega
      simp only [n_laws_toIntSS_L3, c_laws_toIntSS_L3, h1, h2, h3, hw, hid, decide_true, cond_true, Int.natCast_nonneg, and_self, if_true, Int.toNat_natCast, List.getD_eq_getElem?_getD, Option.bind_some, ← r0]
      cases n_laws_toIntSS_L3 m l (↑i + 1) (acc.set i (l[i]?.getD (D.int 0))) <;> rfl
    · simp [n_laws_toIntSS_L3, c_laws_toIntSS_L3]
  have h4 : (l.length : Int) ≤ 4294967296 := by omega
  simp [laws_toTable, c_laws_toTable, laws_toIntSS, c_laws_toIntSS, key, h4]

theorem eqTable_self (l : List D) (hl : l.length ≤ 1048576) (hr : ∀ d ∈ l, d.items.length ≤ 1048576) : laws_eqTable l l = some true := by
  have key : laws_eqIntSS_L4 l l 0 = some (.inr ()) := by
    refine all_loop (N := fun n i => n_laws_eqIntSS_L4 n l l i) (len := l.length) (fun m i hi => ?_) (fun m => ?_)
    · have hw : IntKind.i64.wrap ((i : Int) + 1) = (i : Int) + 1 := wrap_id (by omega) (by omega)
      have h1 : (i : Int) < l.length := by omega
      have hs := eqIntS_self (l[i]?.getD (.int 0)).items (hr _ (get_mem hi))
      simp only [n_laws_eqIntSS_L4, c_laws_eqIntSS_L4, h1, hw, hs, decide_true, cond_true, Int.natCast_nonneg, and_self, if_true, Int.toNat_natCast, List.getD_eq_getElem?_getD, Option.bind_some, Bool.not_true, cond_false]
      cases n_laws_eqIntSS_L4 m l l (↑i + 1) <;> rfl
    · simp [n_laws_eqIntSS_L4, c_laws_eqIntSS_L4]
  simp [laws_eqTable, c_laws_eqTable, laws_eqIntSS, c_laws_eqIntSS, key]

def cellP (r : List D) (i : Nat) : Bool := !btw (r[i]?.getD (.int 0)).toInt 0 1000
def rowB (n : Int) (d : D) : Bool := btw (d.items.length : Int) 1 10 && (decide ((d.items.length : Int) = n) && (firstN (cellP d.items) d.items.length).isNone)

theorem L11_eq (a b : Int) (r l : List D) (hr : r.length ≤ 10) : spec_l16Good_L11 a b r 0 l = some (match firstN (cellP r) r.length with | some _ => .inl (false, a, b, l) | none => .inr (a, b, l)) := by
  refine scan_loop (N := fun m i => n_spec_l16Good_L11 m a b r i l) _ (fun _ => .inl (false, a, b, l)) (fun m i hi => ?_) (fun m => ?_)
  · have hw : IntKind.i64.wrap ((i : Int) + 1) = (i : Int) + 1 := wrap_id (by omega) (by omega)
    have h1 : (i : Int) < r.length := by omega
    simp only [n_spec_l16Good_L11, c_spec_l16Good_L11, h1, hw, l1In_eq, cellP, decide_true, cond_true, Int.natCast_nonneg, and_self, if_true, Int.toNat_natCast, List.getD_eq_getElem?_getD, Option.bind_some]
    cases btw (r[i]?.getD (D.int 0)).toInt 0 1000 <;> simp
  · simp [n_spec_l16Good_L11, c_spec_l16Good_L11]

theorem contains_eq (r : List D) (hr : r.length ≤ 10) : slices_ContainsFunc__impl_IsValidTable_1 r = some (!(firstN (cellP r) r.length).isNone) := by
  have : slices_IndexFunc_L2 r r.length 0 = some (match firstN (cellP r) r.length with | some i => .inl (i : Int) | none => .inr ()) := by
    refine scan_loop (N := fun m i => n_slices_IndexFunc_L2 m r r.length i) _ (fun i => .inl (i : Int)) (fun m i hi => ?_) (fun m => ?_)
    · have hw : IntKind.i64.wrap ((i : Int) + 1) = (i : Int) + 1 := wrap_id (by omega) (by omega)
      have h1 : (i : Int) < r.length := by omega
      simp only [n_slices_IndexFunc_L2, c_slices_IndexFunc_L2, impl_IsValidTable_1, c_impl_IsValidTable_1, h1, hw, within_eq, cellP, decide_true, cond_true, Int.natCast_nonneg, and_self, if_true, Int.toNat_natCast, List.getD_eq_getElem?_getD, Option.bind_some]
      cases btw (r[i]?.getD (D.int 0)).toInt 0 1000 <;> simp
    · simp [n_slices_IndexFunc_L2, c_slices_IndexFunc_L2]
  simp only [slices_ContainsFunc__impl_IsValidTable_1, c_slices_ContainsFunc__impl_IsValidTable_1, slices_IndexFunc__impl_IsValidTable_1, c_slices_IndexFunc__impl_IsValidTable_1, this, Option.bind_some]
  cases firstN (cellP r) r.length <;> simp

theorem rows_eq (l : List D) (hl : l.length ≤ 7) (n : Int) (hn : n = (((l[0]?.getD (D.int 0)).items.length : Nat) : Int)) :
    spec_l16Good_L5 l.length 0 l = some (match firstN (fun i => !rowB n (l[i]?.getD (.int 0))) l.length with | some _ => .inl false | none => .inr ()) ∧
    impl_IsValidTable_L4 l l.length 0 l = some (match firstN (fun i => !rowB n (l[i]?.getD (.int 0))) l.length with | some _ => .inl false | none => .inr ()) := by
  constructor
  · refine scan_loop (N := fun m i => n_spec_l16Good_L5 m l.length i l) _ (fun _ => .inl false) (fun m i hi => ?_) (fun m => ?_)
    · have hw : IntKind.i64.wrap ((i : Int) + 1) = (i : Int) + 1 := wrap_id (by omega) (by omega)
      have h1 : (i : Int) < l.length := by omega
      have h0 : (0 : Int) < l.length := by omega
      simp only [n_spec_l16Good_L5, c_spec_l16Good_L5, h1, h0, hw, l1In_eq, decide_true, cond_true, Int.natCast_nonneg, and_self, if_true, Int.toNat_natCast, List.getD_eq_getElem?_getD, Option.bind_some, Int.toNat_zero, ← hn, Int.le_refl]
      generalize l[i]?.getD (D.int 0) = d
      unfold rowB
      cases hb : btw (d.items.length : Int) 1 10 with
      | false => simp
      | true =>
        have := btw_iff.1 hb
        rw [L11_eq _ _ _ _ (by omega)]
        cases decide ((d.items.length : Int) = n) with
        | false => simp
        | true => cases firstN (cellP d.items) d.items.length <;> simp [hw]
    · simp [n_spec_l16Good_L5, c_spec_l16Good_L5]
  · refine scan_loop (N := fun m i => n_impl_IsValidTable_L4 m l l.length i l) _ (fun _ => .inl false) (fun m i hi => ?_) (fun m => ?_)
    · have hw : IntKind.i64.wrap ((i : Int) + 1) = (i : Int) + 1 := wrap_id (by omega) (by omega)
      have h1 : (i : Int) < l.length := by omega
      have h0 : (0 : Int) < l.length := by omega
      simp only [n_impl_IsValidTable_L4, c_impl_IsValidTable_L4, h1, h0, hw, within_eq, decide_true, cond_true, Int.natCast_nonneg, and_self, if_true, Int.toNat_natCast, List.getD_eq_getElem?_getD, Option.bind_some, Int.toNat_zero, ← hn, Int.le_refl]
      generalize l[i]?.getD (D.int 0) = d
      unfold rowB
      cases hb : btw (d.items.length : Int) 1 10 with
      | false => simp
      | true =>
        have := btw_iff.1 hb
        rw [contains_eq _ (by omega)]
        cases decide ((d.items.length : Int) = n) with
        | false => simp
        | true => cases firstN (cellP d.items) d.items.length <;> simp
    · simp [n_impl_IsValidTable_L4, c_impl_IsValidTable_L4]

structure GoodT (l : List D) : Prop where
  n1 : 1 ≤ l.length
  n7 : l.length ≤ 7
  c1 : 1 ≤ (l[0]?.getD (D.int 0)).items.length
  c10 : (l[0]?.getD (D.int 0)).items.length ≤ 10
  len : ∀ i, i < l.length → (l[i]?.getD (D.int 0)).items.length = (l[0]?.getD (D.int 0)).items.length
  cell : ∀ i j, i < l.length → j < (l[0]?.getD (D.int 0)).items.length → (0 : Int) ≤ ((l[i]?.getD (D.int 0)).items[j]?.getD (D.int 0)).toInt ∧ ((l[i]?.getD (D.int 0)).items[j]?.getD (D.int 0)).toInt ≤ 1000

theorem table_good (l : List D) : ∃ b, spec_l16Good l = some b ∧ impl_IsValidTable l = some b ∧ (b = true → GoodT l) := by
  simp only [spec_l16Good, c_spec_l16Good, impl_IsValidTable, c_impl_IsValidTable, l1In_eq, within_eq, Option.bind_some]
  cases hb : btw (l.length : Int) 1 7 with
  | false => exact ⟨false, by simp, by simp, by simp⟩
  | true =>
    have hbb := btw_iff.1 hb
    obtain ⟨h1, h2⟩ := rows_eq l (by omega) _ rfl
    simp only [h1, h2, Bool.not_true, cond_false, Option.bind_some]
    cases hf : firstN (fun i => !rowB _ (l[i]?.getD (D.int 0))) l.length with
    | some i => exact ⟨false, by simp, by simp, by simp⟩
    | none =>
      refine ⟨true, by simp, by simp, fun _ => ?_⟩
      have hall := firstN_none hf
      have hrow : ∀ i, i < l.length → btw ((l[i]?.getD (D.int 0)).items.length : Int) 1 10 = true ∧ ((l[i]?.getD (D.int 0)).items.length : Int) = ((l[0]?.getD (D.int 0)).items.length : Int) ∧ (firstN (cellP (l[i]?.getD (D.int 0)).items) (l[i]?.getD (D.int 0)).items.length).isNone = true := by
        intro i hi
        have := hall i hi
        unfold rowB at this
        rw [Bool.not_eq_false', Bool.and_eq_true, Bool.and_eq_true, decide_eq_true_eq] at this
        exact this
      have h0 := hrow 0 (by omega)
      have h01 := btw_iff.1 h0.1
      refine ⟨by omega, by omega, by omega, by omega, fun i hi => by have := (hrow i hi).2.1; omega, fun i j hi hj => ?_⟩
      have hr := hrow i hi
      have hn : firstN (cellP (l[i]?.getD (D.int 0)).items) (l[i]?.getD (D.int 0)).items.length = none := by
        cases hq : firstN (cellP (l[i]?.getD (D.int 0)).items) (l[i]?.getD (D.int 0)).items.length with
        | none => rfl
        | some _ => rw [hq] at hr; simp at hr
      have hc := firstN_none hn j (by have := hr.2.1; omega)
      unfold cellP at hc
      rw [Bool.not_eq_false', btw_iff] at hc
      exact hc

theorem sum_same (r : List D) (hr : r.length ≤ 1048576) : ∃ y, spec_l10Sum r = some y ∧ impl_sumOf r = some y := by
  obtain ⟨y, y', h1, h2, rfl⟩ := loop_two (N := fun m (s : Nat × Int) => n_spec_l10Sum_L3 m r s.2 (s.1 : Int)) (N' := fun m (s : Nat × Int) => n_impl_sumOf_L3 m s.2 r r.length (s.1 : Int)) (fun s => s.1 ≤ r.length) (fun s => r.length - s.1) (fun y y' => y = y') (by
    rintro ⟨i, s⟩ hi
    simp only at hi ⊢
    by_cases hlt : i < r.length
    · have h1 : (i : Int) < r.length := by omega
      have hw : IntKind.i64.wrap ((i : Int) + 1) = ((i + 1 : Nat) : Int) := succ_wrap (by omega)
      refine .inr ⟨(i + 1, IntKind.i64.wrap (s + (r[i]?.getD (D.int 0)).toInt)), by simp; omega, by simp; omega, fun m => ⟨?_, ?_⟩⟩
      · simp only [n_spec_l10Sum_L3, c_spec_l10Sum_L3, h1, decide_true, cond_true, Int.natCast_nonneg, and_self, if_true, Int.toNat_natCast, List.getD_eq_getElem?_getD, hw]
        exact Option.bind_fun_some _
      · simp only [n_impl_sumOf_L3, c_impl_sumOf_L3, h1, decide_true, cond_true, Int.natCast_nonneg, and_self, if_true, Int.toNat_natCast, List.getD_eq_getElem?_getD, hw]
        exact Option.bind_fun_some _
    · have h1 : ¬ (i : Int) < r.length := by omega
      exact .inl ⟨s, s, rfl, fun m => ⟨by simp [n_spec_l10Sum_L3, c_spec_l10Sum_L3, h1], by simp [n_impl_sumOf_L3, c_impl_sumOf_L3, h1]⟩⟩) (0, 0) (by simp)
  have h1' : spec_l10Sum_L3 r 0 0 = some y := h1
  have h2' : impl_sumOf_L3 0 r r.length 0 = some y := h2
  exact ⟨y, by simp [spec_l10Sum, c_spec_l10Sum, h1'], by simp [impl_sumOf, c_impl_sumOf, h2']⟩

theorem share_same {l : List D} (hg : GoodT l) {a j : Nat} (ha : a < l.length) (hj : j < (l[0]?.getD (D.int 0)).items.length) : ∃ v, spec_l16Share (l[a]?.getD (D.int 0)).items (j : Int) = some v ∧ impl_distance_1 (a : Int) (j : Int) l = some v := by
  have hc := hg.c10
  have hl := hg.len a ha
  obtain ⟨y, h1, h2⟩ := sum_same (l[a]?.getD (D.int 0)).items (by omega)
  have e1 : (a : Int) < l.length := by omega
  have e2 : (j : Int) < ((l[a]?.getD (D.int 0)).items.length : Int) := by omega
  simp only [spec_l16Share, c_spec_l16Share, impl_distance_1, c_impl_distance_1, h1, h2, Option.bind_some, e1, e2, Int.natCast_nonneg, and_self, if_true, Int.toNat_natCast, List.getD_eq_getElem?_getD]
  by_cases h0 : y = 0
  · exact ⟨0, by simp [h0]⟩
  · exact ⟨_, by simp only [h0, decide_false, cond_false, ne_eq, not_false_eq_true, if_true]; rfl⟩

theorem most_if (x y : Int) : spec_l1Most x y = some (if y > x then y else x) := by
  unfold spec_l1Most c_spec_l1Most
  by_cases h : y < x
  · have h' : ¬ x < y := by omega
    simp [h, h']
  · by_cases h2 : x < y
    · simp [h, h2]
    · have : x = y := by omega
      simp [this]

theorem dist_same {l : List D} (hg : GoodT l) {a b : Nat} (ha : a < l.length) (hb : b < l.length) : ∃ v, spec_l16Distance l (a : Int) (b : Int) = some v ∧ impl_distance l (a : Int) (b : Int) = some v := by
  have hc := hg.c10
  have hla := hg.len a ha
  have h07 := hg.n1
  have hn7 := hg.n7
  obtain ⟨y, y', h1, h2, rfl⟩ := loop_two (N := fun m (s : Nat × Int) => n_spec_l16Distance_L3 m (a : Int) (b : Int) s.2 (s.1 : Int) l) (N' := fun m (s : Nat × Int) => n_impl_distance_L4 m (a : Int) (b : Int) s.2 ((l[0]?.getD (D.int 0)).items.length : Int) (s.1 : Int) l) (fun s => s.1 ≤ (l[0]?.getD (D.int 0)).items.length) (fun s => (l[0]?.getD (D.int 0)).items.length - s.1) (fun y y' => y = y') (by
    rintro ⟨j, s⟩ hj
    simp only at hj ⊢
    have e1 : (a : Int) < l.length := by omega
    have e2 : (b : Int) < l.length := by omega
    by_cases hlt : j < (l[0]?.getD (D.int 0)).items.length
    · have e3 : (j : Int) < ((l[0]?.getD (D.int 0)).items.length : Int) := by omega
      have e4 : (j : Int) < ((l[a]?.getD (D.int 0)).items.length : Int) := by omega
      have hw : IntKind.i64.wrap ((j : Int) + 1) = ((j + 1 : Nat) : Int) := succ_wrap (by omega)
      obtain ⟨u, u1, u2⟩ := share_same hg ha hlt
      obtain ⟨v, v1, v2⟩ := share_same hg hb hlt
      refine .inr ⟨(j + 1, IntKind.i64.wrap (s + if IntKind.i64.wrap (v - u) > IntKind.i64.wrap (u - v) then IntKind.i64.wrap (v - u) else IntKind.i64.wrap (u - v))), by simp; omega, by simp; omega, fun m => ⟨?_, ?_⟩⟩
      · simp only [n_spec_l16Distance_L3, c_spec_l16Distance_L3, e1, e2, e4, decide_true, cond_true, Int.natCast_nonneg, and_self, if_true, Int.toNat_natCast, List.getD_eq_getElem?_getD, u1, v1, most_if, Option.bind_some, hw]
        exact Option.bind_fun_some _
      · simp only [n_impl_distance_L4, c_impl_distance_L4, e3, decide_true, cond_true, u2, v2, Option.bind_some, hw]
        exact Option.bind_fun_some _
    · have e3 : ¬ (j : Int) < ((l[0]?.getD (D.int 0)).items.length : Int) := by omega
      have e4 : ¬ (j : Int) < ((l[a]?.getD (D.int 0)).items.length : Int) := by omega
      exact .inl ⟨s, s, rfl, fun m => ⟨by simp only [n_spec_l16Distance_L3, c_spec_l16Distance_L3, e1, e4, decide_false, cond_false, Int.natCast_nonneg, and_self, if_true, Int.toNat_natCast, List.getD_eq_getElem?_getD], by simp only [n_impl_distance_L4, c_impl_distance_L4, e3, decide_false, cond_false]⟩⟩) (0, 0) (by simp)
  have h1' : spec_l16Distance_L3 (a : Int) (b : Int) 0 0 l = some y := h1
  have h2' : impl_distance_L4 (a : Int) (b : Int) 0 ((l[0]?.getD (D.int 0)).items.length : Int) 0 l = some y := h2
  have e0 : (0 : Int) < l.length := by omega
  have e9 : l ≠ [] := by intro h; simp [h] at e0
  exact ⟨y, by simp [spec_l16Distance, c_spec_l16Distance, h1'], by simp [impl_distance, c_impl_distance, e0, e9, h2']⟩

theorem rd_same (l : List D) (a b : Int) : ∃ y, spec_RowDistance l a b = some y ∧ impl_RowDistance l a b = some y := by
  obtain ⟨v, h1, h2, h3⟩ := table_good l
  simp only [spec_RowDistance, c_spec_RowDistance, impl_RowDistance, c_impl_RowDistance, h1, h2, l1In_eq, within_eq, Option.bind_some]
  cases v with
  | false => exact ⟨_, rfl, rfl⟩
  | true =>
    have hg := h3 rfl
    have hn7 := hg.n7
    have hw : IntKind.i64.wrap ((l.length : Int) - 1) = (l.length : Int) - 1 := wrap_id (by omega) (by omega)
    simp only [Bool.not_true, cond_false, hw]
    cases ha : btw a 0 ((l.length : Int) - 1) with
    | false => exact ⟨_, rfl, rfl⟩
    | true =>
      cases hb : btw b 0 ((l.length : Int) - 1) with
      | false => exact ⟨_, rfl, rfl⟩
      | true =>
        rw [btw_iff] at ha hb
        obtain ⟨a, rfl⟩ : ∃ u : Nat, a = (u : Int) := ⟨a.toNat, by omega⟩
        obtain ⟨b, rfl⟩ : ∃ u : Nat, b = (u : Int) := ⟨b.toNat, by omega⟩
        obtain ⟨y, q1, q2⟩ := dist_same hg (a := a) (b := b) (by omega) (by omega)
        simp only [Bool.not_true, cond_false, q1, q2, Option.bind_some]
        exact ⟨_, rfl, rfl⟩

theorem pure_FnExactRowDistance (x0 : List D) (x1 : Int) (x2 : Int) (h1 : x0.length ≤ maxLen) (w1 : ∀ d ∈ x0, wfD (.slice (.int .i64)) d) (h3 : (Lit.int .i64 x1).wf = true) (h4 : (Lit.int .i64 x2).wf = true) : laws_FnExactRowDistance x0 x1 x2 = some true := by
  obtain ⟨v, hv, hv2⟩ := szTable_eq x0 h1 w1
  by_cases hneg : v < 0
  · simp [laws_FnExactRowDistance, c_laws_FnExactRowDistance, hv, hneg]
  · obtain ⟨hl, hr⟩ := hv2.resolve_left hneg
    obtain ⟨y, hb1, hb2⟩ := rd_same x0 x1 x2
    simp [laws_FnExactRowDistance, c_laws_FnExactRowDistance, hv, hneg, toTable_id x0 hl w1 hr, hb1, hb2, eqTable_self x0 hl hr]

end Go.Proofs.Ytinhphmajfiepaa
