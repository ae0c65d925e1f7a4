/- The law FnExactReverseOrder over plain values. No condition beside those of the statement. -/
import Derived.Test.YtinhphmajfiepaaClMFnExactReverseOrder
import Derived.Test.YtinhphmajfiepaaRaiU5
set_option linter.unusedVariables false
set_option linter.unusedSimpArgs false
set_option maxRecDepth 100000
namespace Go.Proofs.Ytinhphmajfiepaa
open Go Go.Rai

theorem spec_ReverseOrder_L5_lim {ι : Type} {R : ι → ι → Prop} (hD : Dir R) {F : List D → Int → List D → Option (List D)} {Fs : ι → List D → Int → List D → Option (List D)} (h : ∀ x0 x1 x2, Lim R (F x0 x1 x2) (fun i => Fs i x0 x1 x2)) (x0 : List D) (x1 : Int) (x2 : List D)  : Lim R (c_spec_ReverseOrder_L5 F x0 x1 x2 some) (fun i => c_spec_ReverseOrder_L5 (Fs i) x0 x1 x2 some) := by
  unfold c_spec_ReverseOrder_L5
  repeat' first
    | exact Lim.const hD
    | exact h _ _ _
    | apply Lim.ite
    | apply Lim.cond
    | apply Lim.bind hD
    | apply Lim.sum
    | intro _
theorem spec_ReverseOrder_L5_fx (x0 : List D) (x1 : Int) (x2 : List D)  : spec_ReverseOrder_L5 x0 x1 x2 = c_spec_ReverseOrder_L5 spec_ReverseOrder_L5 x0 x1 x2 some :=
  fix_eq (N := fun n (p : List D × Int × List D) => n_spec_ReverseOrder_L5 n p.1 p.2.1 p.2.2) (C := fun f p => c_spec_ReverseOrder_L5 (fun x0 x1 x2 => f (x0, x1, x2)) p.1 p.2.1 p.2.2 some) (fun _ => rfl) (fun _ _ => rfl) (fun hD f fs h p => spec_ReverseOrder_L5_lim hD (fun x0 x1 x2 => h (x0, x1, x2)) _ _ _) (x0, x1, x2)

theorem slices_Reverse_L1_lim {ι : Type} {R : ι → ι → Prop} (hD : Dir R) {F : Int → Int → List D → Option (List D)} {Fs : ι → Int → Int → List D → Option (List D)} (h : ∀ x0 x1 x2, Lim R (F x0 x1 x2) (fun i => Fs i x0 x1 x2)) (x0 : Int) (x1 : Int) (x2 : List D)  : Lim R (c_slices_Reverse_L1 F x0 x1 x2 some) (fun i => c_slices_Reverse_L1 (Fs i) x0 x1 x2 some) := by
  unfold c_slices_Reverse_L1
  repeat' first
    | exact Lim.const hD
    | exact h _ _ _
    | apply Lim.ite
    | apply Lim.cond
    | apply Lim.bind hD
    | apply Lim.sum
    | intro _
theorem slices_Reverse_L1_fx (x0 : Int) (x1 : Int) (x2 : List D)  : slices_Reverse_L1 x0 x1 x2 = c_slices_Reverse_L1 slices_Reverse_L1 x0 x1 x2 some :=
  fix_eq (N := fun n (p : Int × Int × List D) => n_slices_Reverse_L1 n p.1 p.2.1 p.2.2) (C := fun f p => c_slices_Reverse_L1 (fun x0 x1 x2 => f (x0, x1, x2)) p.1 p.2.1 p.2.2 some) (fun _ => rfl) (fun _ _ => rfl) (fun hD f fs h p => slices_Reverse_L1_lim hD (fun x0 x1 x2 => h (x0, x1, x2)) _ _ _) (x0, x1, x2)
theorem toIntS_id (l : List D) (hl : l.length ≤ 1048576) (w : ∀ d ∈ l, wfD (.int .i64) d) : laws_toIntS l = some l := by
  have key : laws_toIntS_L3 l 0 (List.replicate l.length (.int 0)) = some l := by
    refine copy_loop (N := n_laws_toIntS_L3) (fun m i acc hi hacc => ?_) (fun m acc hacc => ?_)
    · obtain ⟨a, hd, _⟩ := w _ (get_mem hi)
      have hw : IntKind.i64.wrap ((i : Int) + 1) = (i : Int) + 1 := wrap_id (by omega) (by omega)
      have h2 : (i : Int) < acc.length := by omega
      have h3 : i + 1 ≤ acc.length := by omega
      have h1 : (i : Int) < l.length := by omega
      simp [n_laws_toIntS_L3, c_laws_toIntS_L3, h1, h2, h3, hw, hd, toInt_int]
    · simp [n_laws_toIntS_L3, c_laws_toIntS_L3]
  have h4 : (l.length : Int) ≤ 4294967296 := by omega
  simp [laws_toIntS, c_laws_toIntS, key, h4]

theorem eqIntS_self (l : List D) (hl : l.length ≤ 1048576) : laws_eqIntS l l = some true := by
  have key : laws_eqIntS_L4 l l 0 = some (.inr ()) := by
    refine all_loop (N := fun n i => n_laws_eqIntS_L4 n l l i) (len := l.length) (fun m i hi => ?_) (fun m => ?_)
    · have hw : IntKind.i64.wrap ((i : Int) + 1) = (i : Int) + 1 := wrap_id (by omega) (by omega)
      have h1 : (i : Int) < l.length := by omega
      simp [n_laws_eqIntS_L4, c_laws_eqIntS_L4, h1, hw]
    · simp [n_laws_eqIntS_L4, c_laws_eqIntS_L4]
  simp [laws_eqIntS, c_laws_eqIntS, key]


theorem l1In_eq (x a b : Int) : spec_l1In x a b = some (btw x a b) := by
  unfold spec_l1In c_spec_l1In btw
  by_cases h : a ≤ x <;> simp [h]
theorem within_eq (x a b : Int) : impl_within x a b = some (btw x a b) := by
  unfold impl_within c_impl_within btw
  by_cases h : a ≤ x <;> simp [h]


theorem wfRow {d : D} (h : wfD (.slice (.int .i64)) d) : d = .node d.items ∧ d.items.length ≤ maxLen ∧ ∀ x ∈ d.items, wfD (.int .i64) x := by
  obtain ⟨l, rfl, h1, h2⟩ := h
  exact ⟨rfl, h1, h2⟩

theorem szTable_eq (l : List D) (hl : l.length ≤ maxLen) (w : ∀ d ∈ l, wfD (.slice (.int .i64)) d) : ∃ v, laws_szTable l 1048576 = some v ∧ (v < 0 ∨ (l.length ≤ 1048576 ∧ ∀ d ∈ l, d.items.length ≤ 1048576)) := by
  unfold maxLen at hl
  have hw : IntKind.i64.wrap (1048576 - (l.length : Int)) = 1048576 - (l.length : Int) := wrap_id (by omega) (by omega)
  simp only [laws_szTable, c_laws_szTable, laws_szIntSS, c_laws_szIntSS, hw]
  by_cases h0 : 1048576 - (l.length : Int) < 0
  · exact ⟨-1, by simp [h0], .inl (by omega)⟩
  · obtain ⟨y, h1, h2⟩ := loop_post (N := fun m (s : Nat × Int) => n_laws_szIntSS_L5 m l s.2 (s.1 : Int)) (fun s => s.1 ≤ l.length ∧ 0 ≤ s.2 ∧ s.2 ≤ 1048576) (fun s => l.length - s.1)
      (fun s y => match y with | .inl (_, r) => r = -1 | .inr r => 0 ≤ r ∧ ∀ d ∈ l.drop s.1, d.items.length ≤ 1048576) (by
      rintro ⟨i, s⟩ ⟨hi, hs1, hs2⟩
      simp only at hi hs1 hs2 ⊢
      by_cases hlt : i < l.length
      · have hlt' : (i : Int) < l.length := by omega
        obtain ⟨_, r1, _⟩ := wfRow (w _ (get_mem hlt))
        unfold maxLen at r1
        have hw2 : IntKind.i64.wrap (s - ((l[i]?.getD (.int 0)).items.length : Int)) = s - ((l[i]?.getD (.int 0)).items.length : Int) := wrap_id (by omega) (by omega)
        by_cases hneg : s - ((l[i]?.getD (.int 0)).items.length : Int) < 0
        · refine .inl ⟨.inl (-1, -1), rfl, fun m => ?_⟩
          simp only [n_laws_szIntSS_L5, c_laws_szIntSS_L5, laws_szIntS, c_laws_szIntS, hlt', decide_true, cond_true, Int.natCast_nonneg, and_self, if_true, Int.toNat_natCast, List.getD_eq_getElem?_getD, hw2, hneg, Option.bind_some]
          rfl
        · refine .inr ⟨(i + 1, s - ((l[i]?.getD (.int 0)).items.length : Int)), ⟨by simp; omega, by simp only; omega, by simp only; omega⟩, by simp; omega, fun y hy => ?_, fun m => ?_⟩
          · cases y with
            | inl y => exact hy
            | inr r =>
              refine ⟨hy.1, fun d hd => ?_⟩
              rw [drop_cons hlt] at hd
              rcases List.mem_cons.1 hd with rfl | hd
              · omega
              · exact hy.2 d hd
          · simp only [n_laws_szIntSS_L5, c_laws_szIntSS_L5, laws_szIntS, c_laws_szIntS, hlt', decide_true, cond_true, Int.natCast_nonneg, and_self, if_true, Int.toNat_natCast, List.getD_eq_getElem?_getD, hw2, hneg, decide_false, cond_false, Option.bind_some, succ_wrap (show i < 4611686018427387904 by omega)]
            cases n_laws_szIntSS_L5 m l (s - ((l[i]?.getD (.int 0)).items.length : Int)) ((i + 1 : Nat) : Int) <;> rfl
      · have hlt' : ¬ (i : Int) < l.length := by omega
        exact .inl ⟨.inr s, ⟨hs1, by rw [drop_end hlt]; simp⟩, fun m => by simp [n_laws_szIntSS_L5, c_laws_szIntSS_L5, hlt']⟩) (0, 1048576 - (l.length : Int)) ⟨by simp, by simp only; omega, by simp only; omega⟩
    have h1' : laws_szIntSS_L5 l (1048576 - (l.length : Int)) 0 = some y := h1
    simp only [h0, decide_false, cond_false, h1', Option.bind_some]
    cases y with
    | inl y =>
      obtain ⟨a, b⟩ := y
      have hb : b = -1 := h2
      subst hb
      exact ⟨-1, rfl, .inl (by omega)⟩
    | inr r =>
      have h3 : ¬ r < 0 := by have := h2.1; omega
      refine ⟨r, by simp [h3], .inr ⟨by omega, fun d hd => h2.2 d (by simpa using hd)⟩⟩

theorem toTable_id (l : List D) (hl : l.length ≤ 1048576) (w : ∀ d ∈ l, wfD (.slice (.int .i64)) d) (hr : ∀ d ∈ l, d.items.length ≤ 1048576) : laws_toTable l = some l := by
  have key : laws_toIntSS_L3 l 0 (List.replicate l.length (.node [])) = some l := by
    refine copy_loop (N := n_laws_toIntSS_L3) (fun m i acc hi hacc => ?_) (fun m acc hacc => ?_)
    · obtain ⟨r0, r1, r2⟩ := wfRow (w _ (get_mem hi))
      have hid := toIntS_id (l[i]?.getD (.int 0)).items (hr _ (get_mem hi)) r2
      have hw : IntKind.i64.wrap ((i : Int) + 1) = (i : Int) + 1 := wrap_id (by omega) (by omega)
      have h2 : (i : Int) < acc.length := by omega
      have h3 : i + 1 ≤ acc.length := by omega
      have h1 : (i : Int) < l.length := by omega
      simp only [n_laws_toIntSS_L3, c_laws_toIntSS_L3, h1, h2, h3, hw, hid, decide_true, cond_true, Int.natCast_nonneg, and_self, if_true, Int.toNat_natCast, List.getD_eq_getElem?_getD, Option.bind_some, ← r0]
      cases n_laws_toIntSS_L3 m l (↑i + 1) (acc.set i (l[i]?.getD (D.int 0))) <;> rfl
    · simp [n_laws_toIntSS_L3, c_laws_toIntSS_L3]
  have h4 : (l.length : Int) ≤ 4294967296 := by omega
  simp [laws_toTable, c_laws_toTable, laws_toIntSS, c_laws_toIntSS, key, h4]

theorem eqTable_self (l : List D) (hl : l.length ≤ 1048576) (hr : ∀ d ∈ l, d.items.length ≤ 1048576) : laws_eqTable l l = some true := by
  have key : laws_eqIntSS_L4 l l 0 = some (.inr ()) := by
    refine all_loop (N := fun n i => n_laws_eqIntSS_L4 n l l i) (len := l.length) (fun m i hi => ?_) (fun m => ?_)
    · have hw : IntKind.i64.wrap ((i : Int) + 1) = (i : Int) + 1 := wrap_id (by omega) (by omega)
      have h1 : (i : Int) < l.length := by omega
      have hs := eqIntS_self (l[i]?.getD (.int 0)).items (hr _ (get_mem hi))
      simp only [n_laws_eqIntSS_L4, c_laws_eqIntSS_L4, h1, hw, hs, decide_true, cond_true, Int.natCast_nonneg, and_self, if_true, Int.toNat_natCast, List.getD_eq_getElem?_getD, Option.bind_some, Bool.not_true, cond_false]
      cases n_laws_eqIntSS_L4 m l l (↑i + 1) <;> rfl
    · simp [n_laws_eqIntSS_L4, c_laws_eqIntSS_L4]
  simp [laws_eqTable, c_laws_eqTable, laws_eqIntSS, c_laws_eqIntSS, key]

def cellP (r : List D) (i : Nat) : Bool := !btw (r[i]?.getD (.int 0)).toInt 0 1000
def rowB (n : Int) (d : D) : Bool := btw (d.items.length : Int) 1 10 && (decide ((d.items.length : Int) = n) && (firstN (cellP d.items) d.items.length).isNone)

theorem L11_eq (a b : Int) (r l : List D) (hr : r.length ≤ 10) : spec_l16Good_L11 a b r 0 l = some (match firstN (cellP r) r.length with | some _ => .inl (false, a, b, l) | none => .inr (a, b, l)) := by
  refine scan_loop (N := fun m i => n_spec_l16Good_L11 m a b r i l) _ (fun _ => .inl (false, a, b, l)) (fun m i hi => ?_) (fun m => ?_)
  · have hw : IntKind.i64.wrap ((i : Int) + 1) = (i : Int) + 1 := wrap_id (by omega) (by omega)
    have h1 : (i : Int) < r.length := by omega
    simp only [n_spec_l16Good_L11, c_spec_l16Good_L11, h1, hw, l1In_eq, cellP, decide_true, cond_true, Int.natCast_nonneg, and_self, if_true, Int.toNat_natCast, List.getD_eq_getElem?_getD, Option.bind_some]
    cases btw (r[i]?.getD (D.int 0)).toInt 0 1000 <;> simp
  · simp [n_spec_l16Good_L11, c_spec_l16Good_L11]

theorem contains_eq (r : List D) (hr : r.length ≤ 10) : slices_ContainsFunc__impl_IsValidTable_1 r = some (!(firstN (cellP r) r.length).isNone) := by
  have : slices_IndexFunc_L2 r r.length 0 = some (match firstN (cellP r) r.length with | some i => .inl (i : Int) | none => .inr ()) := by
    refine scan_loop (N := fun m i => n_slices_IndexFunc_L2 m r r.length i) _ (fun i => .inl (i : Int)) (fun m i hi => ?_) (fun m => ?_)
    · have hw : IntKind.i64.wrap ((i : Int) + 1) = (i : Int) + 1 := wrap_id (by omega) (by omega)
      have h1 : (i : Int) < r.length := by omega
      simp only [n_slices_IndexFunc_L2, c_slices_IndexFunc_L2, impl_IsValidTable_1, c_impl_IsValidTable_1, h1, hw, within_eq, cellP, decide_true, cond_true, Int.natCast_nonneg, and_self, if_true, Int.toNat_natCast, List.getD_eq_getElem?_getD, Option.bind_some]
      cases btw (r[i]?.getD (D.int 0)).toInt 0 1000 <;> simp
    · simp [n_slices_IndexFunc_L2, c_slices_IndexFunc_L2]
  simp only [slices_ContainsFunc__impl_IsValidTable_1, c_slices_ContainsFunc__impl_IsValidTable_1, slices_IndexFunc__impl_IsValidTable_1, c_slices_IndexFunc__impl_IsValidTable_1, this, Option.bind_some]
  cases firstN (cellP r) r.length <;> simp

theorem rows_eq (l : List D) (hl : l.length ≤ 7) (n : Int) (hn : n = (((l[0]?.getD (D.int 0)).items.length : Nat) : Int)) :
    spec_l16Good_L5 l.length 0 l = some (match firstN (fun i => !rowB n (l[i]?.getD (.int 0))) l.length with | some _ => .inl false | none => .inr ()) ∧
    impl_IsValidTable_L4 l l.length 0 l = some (match firstN (fun i => !rowB n (l[i]?.getD (.int 0))) l.length with | some _ => .inl false | none => .inr ()) := by
  constructor
  · refine scan_loop (N := fun m i => n_spec_l16Good_L5 m l.length i l) _ (fun _ => .inl false) (fun m i hi => ?_) (fun m => ?_)
    · have hw : IntKind.i64.wrap ((i : Int) + 1) = (i : Int) + 1 := wrap_id (by omega) (by omega)
      have h1 : (i : Int) < l.length := by omega
      have h0 : (0 : Int) < l.length := by omega
      simp only [n_spec_l16Good_L5, c_spec_l16Good_L5, h1, h0, hw, l1In_eq, decide_true, cond_true, Int.natCast_nonneg, and_self, if_true, Int.toNat_natCast, List.getD_eq_getElem?_getD, Option.bind_some, Int.toNat_zero, ← hn, Int.le_refl]
      generalize l[i]?.getD (D.int 0) = d
      unfold rowB
      cases hb : btw (d.items.length : Int) 1 10 with
      | false => simp
      | true =>
        have := btw_iff.1 hb
        rw [L11_eq _ _ _ _ (by omega)]
        cases decide ((d.items.length : Int) = n) with
        | false => simp
        | true => cases firstN (cellP d.items) d.items.length <;> simp [hw]
    · simp [n_spec_l16Good_L5, c_spec_l16Good_L5]
  · refine scan_loop (N := fun m i => n_impl_IsValidTable_L4 m l l.length i l) _ (fun _ => .inl false) (fun m i hi => ?_) (fun m => ?_)
    · have hw : IntKind.i64.wrap ((i : Int) + 1) = (i : Int) + 1 := wrap_id (by omega) (by omega)
      have h1 : (i : Int) < l.length := by omega
      have h0 : (0 : Int) < l.length := by omega
      simp only [n_impl_IsValidTable_L4, c_impl_IsValidTable_L4, h1, h0, hw, within_eq, decide_true, cond_true, Int.natCast_nonneg, and_self, if_true, Int.toNat_natCast, List.getD_eq_getElem?_getD, Option.bind_some, Int.toNat_zero, ← hn, Int.le_refl]
      generalize l[i]?.getD (D.int 0) = d
      unfold rowB
      cases hb : btw (d.items.length : Int) 1 10 with
      | false => simp
      | true =>
        have := btw_iff.1 hb
        rw [contains_eq _ (by omega)]
        cases decide ((d.items.length : Int) = n) with
        | false => simp
        | true => cases firstN (cellP d.items) d.items.length <;> simp
    · simp [n_impl_IsValidTable_L4, c_impl_IsValidTable_L4]

structure GoodT (l : List D) : Prop where
  n1 : 1 ≤ l.length
  n7 : l.length ≤ 7
  c1 : 1 ≤ (l[0]?.getD (D.int 0)).items.length
  c10 : (l[0]?.getD (D.int 0)).items.length ≤ 10
  len : ∀ i, i < l.length → (l[i]?.getD (D.int 0)).items.length = (l[0]?.getD (D.int 0)).items.length
  cell : ∀ i j, i < l.length → j < (l[0]?.getD (D.int 0)).items.length → (0 : Int) ≤ ((l[i]?.getD (D.int 0)).items[j]?.getD (D.int 0)).toInt ∧ ((l[i]?.getD (D.int 0)).items[j]?.getD (D.int 0)).toInt ≤ 1000

theorem table_good (l : List D) : ∃ b, spec_l16Good l = some b ∧ impl_IsValidTable l = some b ∧ (b = true → GoodT l) := by
  simp only [spec_l16Good, c_spec_l16Good, impl_IsValidTable, c_impl_IsValidTable, l1In_eq, within_eq, Option.bind_some]
  cases hb : btw (l.length : Int) 1 7 with
  | false => exact ⟨false, by simp, by simp, by simp⟩
  | true =>
    have hbb := btw_iff.1 hb
    obtain ⟨h1, h2⟩ := rows_eq l (by omega) _ rfl
    simp only [h1, h2, Bool.not_true, cond_false, Option.bind_some]
    cases hf : firstN (fun i => !rowB _ (l[i]?.getD (D.int 0))) l.length with
    | some i => exact ⟨false, by simp, by simp, by simp⟩
    | none =>
      refine ⟨true, by simp, by simp, fun _ => ?_⟩
      have hall := firstN_none hf
      have hrow : ∀ i, i < l.length → btw ((l[i]?.getD (D.int 0)).items.length : Int) 1 10 = true ∧ ((l[i]?.getD (D.int 0)).items.length : Int) = ((l[0]?.getD (D.int 0)).items.length : Int) ∧ (firstN (cellP (l[i]?.getD (D.int 0)).items) (l[i]?.getD (D.int 0)).items.length).isNone = true := by
        intro i hi
        have := hall i hi
        unfold rowB at this
        rw [Bool.not_eq_false', Bool.and_eq_true, Bool.and_eq_true, decide_eq_true_eq] at this
        exact this
      have h0 := hrow 0 (by omega)
      have h01 := btw_iff.1 h0.1
      refine ⟨by omega, by omega, by omega, by omega, fun i hi => by have := (hrow i hi).2.1; omega, fun i j hi hj => ?_⟩
      have hr := hrow i hi
      have hn : firstN (cellP (l[i]?.getD (D.int 0)).items) (l[i]?.getD (D.int 0)).items.length = none := by
        cases hq : firstN (cellP (l[i]?.getD (D.int 0)).items) (l[i]?.getD (D.int 0)).items.length with
        | none => rfl
        | some _ => rw [hq] at hr; simp at hr
      have hc := firstN_none hn j (by have := hr.2.1; omega)
      unfold cellP at hc
      rw [Bool.not_eq_false', btw_iff] at hc
      exact hc

/-- of an answer that does not depend on how far one counts: there is one, and it has a property -/
def Tt {ι β : Type} (I : ι → Prop) (P : β → Prop) (e : ι → Option β) : Prop := ∃ y, P y ∧ ∀ i, I i → e i = some y

theorem Tt.pure {ι β : Type} {I : ι → Prop} {P : β → Prop} {y : β} (h : P y) : Tt I P (fun _ => some y) := ⟨y, h, fun _ _ => rfl⟩
theorem Tt.bind {ι α β : Type} {I : ι → Prop} {Q : α → Prop} {P : β → Prop} {t : ι → Option α} {f : α → ι → Option β} (h : Tt I Q t) (k : ∀ v, Q v → Tt I P (fun i => f v i)) :
    Tt I P (fun i => (t i).bind (fun v => f v i)) := by
  obtain ⟨v, hv, ht⟩ := h
  obtain ⟨y, hy, hk⟩ := k v hv
  exact ⟨y, hy, fun i hi => by show (t i).bind _ = _; rw [ht i hi]; exact hk i hi⟩
theorem Tt.ite {ι β : Type} {I : ι → Prop} {P : β → Prop} {c : Prop} [Decidable c] {x y : ι → Option β} (h : c) (k : Tt I P x) : Tt I P (fun i => if c then x i else y i) := by
  simpa only [if_pos h] using k
theorem Tt.cnd {ι β : Type} {I : ι → Prop} {P : β → Prop} {b : Bool} {x y : ι → Option β} (h1 : b = true → Tt I P x) (h2 : b = false → Tt I P y) : Tt I P (fun i => bif b then x i else y i) := by
  cases b with
  | true => exact h1 rfl
  | false => exact h2 rfl
theorem Tt.dec {ι β : Type} {I : ι → Prop} {P : β → Prop} {p : Prop} [Decidable p] {x y : ι → Option β} (h1 : p → Tt I P x) (h2 : ¬ p → Tt I P y) : Tt I P (fun i => bif decide p then x i else y i) :=
  Tt.cnd (fun h => h1 (of_decide_eq_true h)) (fun h => h2 (of_decide_eq_false h))
theorem Tt.ndec {ι β : Type} {I : ι → Prop} {P : β → Prop} {p : Prop} [Decidable p] {x y : ι → Option β} (h1 : ¬ p → Tt I P x) (h2 : p → Tt I P y) : Tt I P (fun i => bif !decide p then x i else y i) := by
  by_cases h : p
  · simpa only [decide_eq_true h, Bool.not_true, cond_false] using h2 h
  · simpa only [decide_eq_false h, Bool.not_false, cond_true] using h1 h
theorem Tt.con {ι β : Type} {I : ι → Prop} {Q : β → Prop} {t : Option β} (h : ∃ y, t = some y ∧ Q y) : Tt I Q (fun _ => t) := by
  obtain ⟨y, h1, h2⟩ := h
  exact ⟨y, h2, fun _ _ => h1⟩
theorem Tt.mono {ι β : Type} {I J : ι → Prop} {P Q : β → Prop} {e : ι → Option β} (h : Tt I P e) (hI : ∀ i, J i → I i) (hP : ∀ y, P y → Q y) : Tt J Q e := by
  obtain ⟨y, h1, h2⟩ := h
  exact ⟨y, hP y h1, fun i hi => h2 i (hI i hi)⟩
theorem Tt.out {β : Type} {P : β → Prop} {t : Option β} (h : Tt (fun _ : Unit => True) P (fun _ => t)) : ∃ y, t = some y ∧ P y := by
  obtain ⟨y, h1, h2⟩ := h
  exact ⟨y, h2 () trivial, h1⟩

/-- a loop -/
theorem Tt.loop {X Y : Type} (N : Nat → X → Option Y) (Inv : X → Prop) (μ : X → Nat) (Post : X → Y → Prop)
    (step : ∀ x, Inv x → (∀ x', Inv x' → μ x' < μ x → Tt (fun m => μ x ≤ m) (Post x') (fun m => N m x')) → Tt (fun m => μ x ≤ m) (Post x) (fun m => N (m + 1) x)) :
    ∀ x, Inv x → ∃ y, ev (fun n => N n x) = some y ∧ Post x y := by
  have key : ∀ k x, Inv x → μ x ≤ k → Tt (fun m => μ x < m) (Post x) (fun m => N m x) := by
    intro k
    induction k with
    | zero =>
      intro x hi hk
      obtain ⟨y, h1, h2⟩ := step x hi (fun x' _ h => absurd h (by omega))
      refine ⟨y, h1, fun m hm => ?_⟩
      obtain ⟨m, rfl⟩ : ∃ m', m = m' + 1 := ⟨m - 1, by omega⟩
      exact h2 m (by omega)
    | succ k ih =>
      intro x hi hk
      obtain ⟨y, h1, h2⟩ := step x hi (fun x' hx' h => (ih x' hx' (by omega)).mono (fun m hm => by omega) (fun _ h => h))
      refine ⟨y, h1, fun m hm => ?_⟩
      obtain ⟨m, rfl⟩ : ∃ m', m = m' + 1 := ⟨m - 1, by omega⟩
      exact h2 m (by omega)
  intro x hi
  obtain ⟨y, h1, h2⟩ := key (μ x) x hi (Nat.le_refl _)
  exact ⟨y, ev_eq (μ x + 1) (fun m hm => h2 m (by omega)), h1⟩

theorem wq (n : Int) : IntKind.i64.wrap n = (n + 9223372036854775808) % 18446744073709551616 - 9223372036854775808 := by
  unfold IntKind.wrap
  simp [IntKind.signed, IntKind.bits]
  omega

theorem less_eq (a b : Int) : cmp_Less a b = some (decide (a < b)) := by
  simp [cmp_Less, c_cmp_Less, cmp_isNaN, c_cmp_isNaN]

def lenS : List D ⊕ List D → Nat | .inl l => l.length | .inr l => l.length

theorem sift1_tot (hi first : Int) (root : Int) (l : List D) (h0 : 0 ≤ first) (h1 : 0 ≤ root) (h2 : root ≤ 1048576) (h3 : first + hi ≤ l.length) (h4 : l.length ≤ 1048576) (h5 : 0 ≤ hi) :
    ∃ y, slices_siftDownOrdered_L1 hi first root l = some y ∧ lenS y = l.length := by
  refine Tt.loop (fun n (x : Int × List D) => n_slices_siftDownOrdered_L1 n hi first x.1 x.2) (fun x => 0 ≤ x.1 ∧ x.1 ≤ 1048576 ∧ first + hi ≤ x.2.length ∧ x.2.length ≤ 1048576) (fun x => (hi - x.1).toNat) (fun x y => lenS y = x.2.length) ?_ (root, l) ⟨h1, h2, h3, h4⟩
  rintro ⟨root, l⟩ ⟨h1, h2, h3, h4⟩ ih
  have ih' : ∀ (r : Int) (l' : List D), 0 ≤ r → r ≤ 1048576 → l'.length = l.length → (hi - r).toNat < (hi - root).toNat → Tt (fun m => (hi - root).toNat ≤ m) (fun y => lenS y = l.length) (fun m => n_slices_siftDownOrdered_L1 m hi first r l') :=
    fun r l' q1 q2 q3 q4 => by have := ih (r, l') ⟨q1, q2, by simp only at *; omega, by simp only at *; omega⟩ q4; simpa only [q3] using this
  clear ih
  simp only at h1 h2 h3 h4
  show Tt _ _ (fun m => c_slices_siftDownOrdered_L1 (n_slices_siftDownOrdered_L1 m) hi first root l some)
  unfold c_slices_siftDownOrdered_L1
  simp only [less_eq, Option.bind_some, Option.bind_fun_some, List.length_set, wq]
  (repeat' first | refine Tt.ite (by omega) ?_ | refine Tt.ndec (fun _ => ?_) fun _ => ?_ | refine Tt.dec (fun _ => ?_) fun _ => ?_ | refine Tt.cnd (fun _ => ?_) fun _ => ?_)
  all_goals first
    | exact Tt.pure rfl
    | exact ih' _ _ (by omega) (by omega) (by simp only [List.length_set]) (by omega)

theorem sift_tot (l : List D) (lo hi first : Int) (h0 : 0 ≤ first) (h1 : 0 ≤ lo) (h2 : lo ≤ 1048576) (h3 : first + hi ≤ l.length) (h4 : l.length ≤ 1048576) (h5 : 0 ≤ hi) :
    ∃ y, slices_siftDownOrdered l lo hi first = some y ∧ y.length = l.length := by
  obtain ⟨y, h, hl⟩ := sift1_tot hi first lo l h0 h1 h2 h3 h4 h5
  unfold slices_siftDownOrdered c_slices_siftDownOrdered
  rw [h]
  cases y with
  | inl y => exact ⟨y, rfl, hl⟩
  | inr y => exact ⟨y, rfl, hl⟩

theorem heap4_tot (f : Int) (lo : Int) (hj : Int) (i : Int) (l : List D) (hi : 0 ≤ f ∧ f + hj ≤ l.length ∧ l.length ≤ 1048576 ∧ 0 ≤ hj ∧ -1 ≤ i ∧ i ≤ hj) :
    ∃ y, slices_heapSortOrdered_L4 f lo hj i l = some y ∧ (y.1 = f ∧ y.2.1 = lo ∧ y.2.2.1 = hj ∧ y.2.2.2.length = l.length) := by
  refine Tt.loop (fun n (x : Int × Int × Int × Int × List D) => n_slices_heapSortOrdered_L4 n x.1 x.2.1 x.2.2.1 x.2.2.2.1 x.2.2.2.2) (fun x => 0 ≤ (x.1) ∧ (x.1) + (x.2.2.1) ≤ (x.2.2.2.2).length ∧ (x.2.2.2.2).length ≤ 1048576 ∧ 0 ≤ (x.2.2.1) ∧ -1 ≤ (x.2.2.2.1) ∧ (x.2.2.2.1) ≤ (x.2.2.1)) (fun x => ((x.2.2.2.1) + 1).toNat) (fun x y => (y.1 = (x.1) ∧ y.2.1 = (x.2.1) ∧ y.2.2.1 = (x.2.2.1) ∧ y.2.2.2.length = (x.2.2.2.2).length)) ?_ (f, lo, hj, i, l) hi
  clear hi
  rintro ⟨f, lo, hj, i, l⟩ hi ih
  have ih' : ∀ (f' : Int) (lo' : Int) (hj' : Int) (i' : Int) (l' : List D), (0 ≤ f' ∧ f' + hj' ≤ l'.length ∧ l'.length ≤ 1048576 ∧ 0 ≤ hj' ∧ -1 ≤ i' ∧ i' ≤ hj') → (i' + 1).toNat < (i + 1).toNat → Tt (fun m => (i + 1).toNat ≤ m) (fun y => (y.1 = f' ∧ y.2.1 = lo' ∧ y.2.2.1 = hj' ∧ y.2.2.2.length = l'.length)) (fun m => n_slices_heapSortOrdered_L4 m f' lo' hj' i' l') :=
    fun f' lo' hj' i' l' q1 q2 => ih (f', lo', hj', i', l') q1 q2
  clear ih
  simp only at hi
  show Tt _ _ (fun m => c_slices_heapSortOrdered_L4 (n_slices_heapSortOrdered_L4 m) f lo hj i l some)
  unfold c_slices_heapSortOrdered_L4
  simp only [less_eq, Option.bind_some, Option.bind_fun_some, List.length_set, wq]
  (repeat' first | refine Tt.ite (by omega) ?_ | refine Tt.ndec (fun _ => ?_) fun _ => ?_ | refine Tt.dec (fun _ => ?_) fun _ => ?_ | refine Tt.cnd (fun _ => ?_) fun _ => ?_)
  · refine Tt.bind (Tt.con (sift_tot _ _ _ _ (by omega) (by omega) (by omega) (by omega) (by omega) (by omega))) (fun v hv => ?_)
    exact (ih' _ _ _ _ _ (by omega) (by omega)).mono (fun _ h => h) (fun _ h => by rw [hv] at h; exact h)
  · exact Tt.pure ⟨rfl, rfl, rfl, rfl⟩

theorem heap8_tot (f : Int) (lo : Int) (i : Int) (l : List D) (hi : 0 ≤ f ∧ lo = 0 ∧ l.length ≤ 1048576 ∧ -1 ≤ i ∧ f + i < l.length) :
    ∃ y, slices_heapSortOrdered_L8 f lo i l = some y ∧ (y.length = l.length) := by
  refine Tt.loop (fun n (x : Int × Int × Int × List D) => n_slices_heapSortOrdered_L8 n x.1 x.2.1 x.2.2.1 x.2.2.2) (fun x => 0 ≤ (x.1) ∧ (x.2.1) = 0 ∧ (x.2.2.2).length ≤ 1048576 ∧ -1 ≤ (x.2.2.1) ∧ (x.1) + (x.2.2.1) < (x.2.2.2).length) (fun x => ((x.2.2.1) + 1).toNat) (fun x y => (y.length = (x.2.2.2).length)) ?_ (f, lo, i, l) hi
  clear hi
  rintro ⟨f, lo, i, l⟩ hi ih
  have ih' : ∀ (f' : Int) (lo' : Int) (i' : Int) (l' : List D), (0 ≤ f' ∧ lo' = 0 ∧ l'.length ≤ 1048576 ∧ -1 ≤ i' ∧ f' + i' < l'.length) → (i' + 1).toNat < (i + 1).toNat → Tt (fun m => (i + 1).toNat ≤ m) (fun y => (y.length = l'.length)) (fun m => n_slices_heapSortOrdered_L8 m f' lo' i' l') :=
    fun f' lo' i' l' q1 q2 => ih (f', lo', i', l') q1 q2
  clear ih
  simp only at hi
  show Tt _ _ (fun m => c_slices_heapSortOrdered_L8 (n_slices_heapSortOrdered_L8 m) f lo i l some)
  unfold c_slices_heapSortOrdered_L8
  simp only [less_eq, Option.bind_some, Option.bind_fun_some, List.length_set, wq]
  (repeat' first | refine Tt.ite (by omega) ?_ | refine Tt.ndec (fun _ => ?_) fun _ => ?_ | refine Tt.dec (fun _ => ?_) fun _ => ?_ | refine Tt.cnd (fun _ => ?_) fun _ => ?_)
  · refine Tt.bind (Tt.con (sift_tot _ _ _ _ (by omega) (by omega) (by omega) (by (try simp only [List.length_set]); omega) (by (try simp only [List.length_set]); omega) (by omega))) (fun v hv => ?_)
    simp only [List.length_set] at hv
    exact (ih' _ _ _ _ (by omega) (by omega)).mono (fun _ h => h) (fun _ h => by rw [hv] at h; exact h)
  · exact Tt.pure rfl

theorem tq {n : Int} (h : 0 ≤ n) (k : Int) : n.tdiv k = n / k := Int.tdiv_eq_ediv_of_nonneg h

theorem heap_tot (l : List D) (a b : Int) (h : 0 ≤ a ∧ a < b ∧ b ≤ l.length ∧ l.length ≤ 1048576) : ∃ y, slices_heapSortOrdered l a b = some y ∧ y.length = l.length := by
  refine Tt.out ?_
  unfold slices_heapSortOrdered c_slices_heapSortOrdered
  rw [tq (by rw [wq, wq]; omega)]
  simp only [wq]
  (repeat' first | refine Tt.ite (by omega) ?_ | refine Tt.ndec (fun _ => ?_) fun _ => ?_ | refine Tt.dec (fun _ => ?_) fun _ => ?_ | refine Tt.cnd (fun _ => ?_) fun _ => ?_)
  refine Tt.bind (Tt.con (heap4_tot _ _ _ _ _ (by omega))) (fun v hv => ?_)
  refine Tt.bind (Tt.con (heap8_tot _ _ _ _ (by omega))) (fun w hw => ?_)
  exact Tt.pure (by omega)

theorem ins4_tot (a : Int) (b : Int) (i : Int) (j : Int) (l : List D) (hi : 0 ≤ a ∧ j < l.length ∧ l.length ≤ 1048576) :
    ∃ y, slices_insertionSortOrdered_L4 a b i j l = some y ∧ (y.1 = a ∧ y.2.1 = b ∧ y.2.2.1 = i ∧ y.2.2.2.length = l.length) := by
  refine Tt.loop (fun n (x : Int × Int × Int × Int × List D) => n_slices_insertionSortOrdered_L4 n x.1 x.2.1 x.2.2.1 x.2.2.2.1 x.2.2.2.2) (fun x => 0 ≤ (x.1) ∧ (x.2.2.2.1) < (x.2.2.2.2).length ∧ (x.2.2.2.2).length ≤ 1048576) (fun x => ((x.2.2.2.1) - (x.1)).toNat) (fun x y => (y.1 = (x.1) ∧ y.2.1 = (x.2.1) ∧ y.2.2.1 = (x.2.2.1) ∧ y.2.2.2.length = (x.2.2.2.2).length)) ?_ (a, b, i, j, l) hi
  clear hi
  rintro ⟨a, b, i, j, l⟩ hi ih
  have ih' : ∀ (a' : Int) (b' : Int) (i' : Int) (j' : Int) (l' : List D), (0 ≤ a' ∧ j' < l'.length ∧ l'.length ≤ 1048576) → (j' - a').toNat < (j - a).toNat → Tt (fun m => (j - a).toNat ≤ m) (fun y => (y.1 = a' ∧ y.2.1 = b' ∧ y.2.2.1 = i' ∧ y.2.2.2.length = l'.length)) (fun m => n_slices_insertionSortOrdered_L4 m a' b' i' j' l') :=
    fun a' b' i' j' l' q1 q2 => ih (a', b', i', j', l') q1 q2
  clear ih
  simp only at hi
  show Tt _ _ (fun m => c_slices_insertionSortOrdered_L4 (n_slices_insertionSortOrdered_L4 m) a b i j l some)
  unfold c_slices_insertionSortOrdered_L4
  simp only [less_eq, Option.bind_some, Option.bind_fun_some, List.length_set, wq]
  (repeat' first | refine Tt.ite (by omega) ?_ | refine Tt.ndec (fun _ => ?_) fun _ => ?_ | refine Tt.dec (fun _ => ?_) fun _ => ?_ | refine Tt.cnd (fun _ => ?_) fun _ => ?_)
  all_goals first
    | exact Tt.pure (by exact ⟨rfl, rfl, rfl, rfl⟩)
    | exact (ih' _ _ _ _ _ (by (try simp only [List.length_set]); omega) (by omega)).mono (fun _ h => h) (fun _ h => by simpa only [List.length_set] using h)

theorem ins1_tot (a : Int) (b : Int) (i : Int) (l : List D) (hi : 0 ≤ a ∧ 0 ≤ i ∧ b ≤ l.length ∧ l.length ≤ 1048576) :
    ∃ y, slices_insertionSortOrdered_L1 a b i l = some y ∧ (y.length = l.length) := by
  refine Tt.loop (fun n (x : Int × Int × Int × List D) => n_slices_insertionSortOrdered_L1 n x.1 x.2.1 x.2.2.1 x.2.2.2) (fun x => 0 ≤ (x.1) ∧ 0 ≤ (x.2.2.1) ∧ (x.2.1) ≤ (x.2.2.2).length ∧ (x.2.2.2).length ≤ 1048576) (fun x => ((x.2.1) - (x.2.2.1)).toNat) (fun x y => (y.length = (x.2.2.2).length)) ?_ (a, b, i, l) hi
  clear hi
  rintro ⟨a, b, i, l⟩ hi ih
  have ih' : ∀ (a' : Int) (b' : Int) (i' : Int) (l' : List D), (0 ≤ a' ∧ 0 ≤ i' ∧ b' ≤ l'.length ∧ l'.length ≤ 1048576) → (b' - i').toNat < (b - i).toNat → Tt (fun m => (b - i).toNat ≤ m) (fun y => (y.length = l'.length)) (fun m => n_slices_insertionSortOrdered_L1 m a' b' i' l') :=
    fun a' b' i' l' q1 q2 => ih (a', b', i', l') q1 q2
  clear ih
  simp only at hi
  show Tt _ _ (fun m => c_slices_insertionSortOrdered_L1 (n_slices_insertionSortOrdered_L1 m) a b i l some)
  unfold c_slices_insertionSortOrdered_L1
  simp only [less_eq, Option.bind_some, Option.bind_fun_some, List.length_set, wq]
  (repeat' first | refine Tt.ite (by omega) ?_ | refine Tt.ndec (fun _ => ?_) fun _ => ?_ | refine Tt.dec (fun _ => ?_) fun _ => ?_ | refine Tt.cnd (fun _ => ?_) fun _ => ?_)
  · refine Tt.bind (Tt.con (ins4_tot _ _ _ _ _ (by omega))) (fun v hv => ?_)
    exact (ih' _ _ _ _ (by omega) (by omega)).mono (fun _ h => h) (fun _ h => by omega)
  · exact Tt.pure rfl

theorem ins_tot (l : List D) (a b : Int) (h : 0 ≤ a ∧ a ≤ b ∧ b ≤ l.length ∧ l.length ≤ 1048576) : ∃ y, slices_insertionSortOrdered l a b = some y ∧ y.length = l.length := by
  refine Tt.out ?_
  unfold slices_insertionSortOrdered c_slices_insertionSortOrdered
  simp only [wq, Option.bind_fun_some]
  exact Tt.con (ins1_tot _ _ _ _ (by omega))

theorem rev2_tot (i : Int) (j : Int) (l : List D) (hi : 0 ≤ i ∧ j < l.length ∧ l.length ≤ 1048576) :
    ∃ y, slices_reverseRangeOrdered_L2 i j l = some y ∧ (y.length = l.length) := by
  refine Tt.loop (fun n (x : Int × Int × List D) => n_slices_reverseRangeOrdered_L2 n x.1 x.2.1 x.2.2) (fun x => 0 ≤ (x.1) ∧ (x.2.1) < (x.2.2).length ∧ (x.2.2).length ≤ 1048576) (fun x => ((x.2.1) - (x.1)).toNat) (fun x y => (y.length = (x.2.2).length)) ?_ (i, j, l) hi
  clear hi
  rintro ⟨i, j, l⟩ hi ih
  have ih' : ∀ (i' : Int) (j' : Int) (l' : List D), (0 ≤ i' ∧ j' < l'.length ∧ l'.length ≤ 1048576) → (j' - i').toNat < (j - i).toNat → Tt (fun m => (j - i).toNat ≤ m) (fun y => (y.length = l'.length)) (fun m => n_slices_reverseRangeOrdered_L2 m i' j' l') :=
    fun i' j' l' q1 q2 => ih (i', j', l') q1 q2
  clear ih
  simp only at hi
  show Tt _ _ (fun m => c_slices_reverseRangeOrdered_L2 (n_slices_reverseRangeOrdered_L2 m) i j l some)
  unfold c_slices_reverseRangeOrdered_L2
  simp only [less_eq, Option.bind_some, Option.bind_fun_some, List.length_set, wq]
  (repeat' first | refine Tt.ite (by omega) ?_ | refine Tt.ndec (fun _ => ?_) fun _ => ?_ | refine Tt.dec (fun _ => ?_) fun _ => ?_ | refine Tt.cnd (fun _ => ?_) fun _ => ?_)
  all_goals first
    | exact Tt.pure (by rfl)
    | exact (ih' _ _ _ (by (try simp only [List.length_set]); omega) (by omega)).mono (fun _ h => h) (fun _ h => by simpa only [List.length_set] using h)

theorem rev_tot (l : List D) (a b : Int) (h : 0 ≤ a ∧ a ≤ b ∧ b ≤ l.length ∧ l.length ≤ 1048576) : ∃ y, slices_reverseRangeOrdered l a b = some y ∧ y.length = l.length := by
  refine Tt.out ?_
  unfold slices_reverseRangeOrdered c_slices_reverseRangeOrdered
  simp only [wq, Option.bind_fun_some]
  exact Tt.con (rev2_tot _ _ _ (by omega))

theorem pin5_tot (a : Int) (b : Int) (i : Int) (j : Int) (l : List D) (hi : 0 ≤ a ∧ a < i ∧ i ≤ b ∧ b ≤ l.length ∧ l.length ≤ 1048576) :
    ∃ y, slices_partialInsertionSortOrdered_L5 a b i j l = some y ∧ (y.1 = a ∧ y.2.1 = b ∧ a < y.2.2.1 ∧ y.2.2.1 ≤ b ∧ y.2.2.2.1 = j ∧ y.2.2.2.2.length = l.length) := by
  refine Tt.loop (fun n (x : Int × Int × Int × Int × List D) => n_slices_partialInsertionSortOrdered_L5 n x.1 x.2.1 x.2.2.1 x.2.2.2.1 x.2.2.2.2) (fun x => 0 ≤ (x.1) ∧ (x.1) < (x.2.2.1) ∧ (x.2.2.1) ≤ (x.2.1) ∧ (x.2.1) ≤ (x.2.2.2.2).length ∧ (x.2.2.2.2).length ≤ 1048576) (fun x => ((x.2.1) - (x.2.2.1)).toNat) (fun x y => (y.1 = (x.1) ∧ y.2.1 = (x.2.1) ∧ (x.1) < y.2.2.1 ∧ y.2.2.1 ≤ (x.2.1) ∧ y.2.2.2.1 = (x.2.2.2.1) ∧ y.2.2.2.2.length = (x.2.2.2.2).length)) ?_ (a, b, i, j, l) hi
  clear hi
  rintro ⟨a, b, i, j, l⟩ hi ih
  have ih' : ∀ (a' : Int) (b' : Int) (i' : Int) (j' : Int) (l' : List D), (0 ≤ a' ∧ a' < i' ∧ i' ≤ b' ∧ b' ≤ l'.length ∧ l'.length ≤ 1048576) → (b' - i').toNat < (b - i).toNat → Tt (fun m => (b - i).toNat ≤ m) (fun y => (y.1 = a' ∧ y.2.1 = b' ∧ a' < y.2.2.1 ∧ y.2.2.1 ≤ b' ∧ y.2.2.2.1 = j' ∧ y.2.2.2.2.length = l'.length)) (fun m => n_slices_partialInsertionSortOrdered_L5 m a' b' i' j' l') :=
    fun a' b' i' j' l' q1 q2 => ih (a', b', i', j', l') q1 q2
  clear ih
  simp only at hi
  show Tt _ _ (fun m => c_slices_partialInsertionSortOrdered_L5 (n_slices_partialInsertionSortOrdered_L5 m) a b i j l some)
  unfold c_slices_partialInsertionSortOrdered_L5
  simp only [less_eq, Option.bind_some, Option.bind_fun_some, List.length_set, wq]
  (repeat' first | refine Tt.ite (by omega) ?_ | refine Tt.ndec (fun _ => ?_) fun _ => ?_ | refine Tt.dec (fun _ => ?_) fun _ => ?_ | refine Tt.cnd (fun _ => ?_) fun _ => ?_)
  all_goals first
    | exact Tt.pure (by dsimp only; omega)
    | exact ih' _ _ _ _ _ (by omega) (by omega)

theorem pin14_tot (a : Int) (b : Int) (i : Int) (j : Int) (k : Int) (l : List D) (hi : l.length ≤ 1048576 ∧ k < l.length) :
    ∃ y, slices_partialInsertionSortOrdered_L14 a b i j k l = some y ∧ (y.1 = a ∧ y.2.1 = b ∧ y.2.2.1 = i ∧ y.2.2.2.1 = j ∧ y.2.2.2.2.length = l.length) := by
  refine Tt.loop (fun n (x : Int × Int × Int × Int × Int × List D) => n_slices_partialInsertionSortOrdered_L14 n x.1 x.2.1 x.2.2.1 x.2.2.2.1 x.2.2.2.2.1 x.2.2.2.2.2) (fun x => (x.2.2.2.2.2).length ≤ 1048576 ∧ (x.2.2.2.2.1) < (x.2.2.2.2.2).length) (fun x => ((x.2.2.2.2.1)).toNat) (fun x y => (y.1 = (x.1) ∧ y.2.1 = (x.2.1) ∧ y.2.2.1 = (x.2.2.1) ∧ y.2.2.2.1 = (x.2.2.2.1) ∧ y.2.2.2.2.length = (x.2.2.2.2.2).length)) ?_ (a, b, i, j, k, l) hi
  clear hi
  rintro ⟨a, b, i, j, k, l⟩ hi ih
  have ih' : ∀ (a' : Int) (b' : Int) (i' : Int) (j' : Int) (k' : Int) (l' : List D), (l'.length ≤ 1048576 ∧ k' < l'.length) → (k').toNat < (k).toNat → Tt (fun m => (k).toNat ≤ m) (fun y => (y.1 = a' ∧ y.2.1 = b' ∧ y.2.2.1 = i' ∧ y.2.2.2.1 = j' ∧ y.2.2.2.2.length = l'.length)) (fun m => n_slices_partialInsertionSortOrdered_L14 m a' b' i' j' k' l') :=
    fun a' b' i' j' k' l' q1 q2 => ih (a', b', i', j', k', l') q1 q2
  clear ih
  simp only at hi
  show Tt _ _ (fun m => c_slices_partialInsertionSortOrdered_L14 (n_slices_partialInsertionSortOrdered_L14 m) a b i j k l some)
  unfold c_slices_partialInsertionSortOrdered_L14
  simp only [less_eq, Option.bind_some, Option.bind_fun_some, List.length_set, wq]
  (repeat' first | refine Tt.ite (by omega) ?_ | refine Tt.ndec (fun _ => ?_) fun _ => ?_ | refine Tt.dec (fun _ => ?_) fun _ => ?_ | refine Tt.cnd (fun _ => ?_) fun _ => ?_)
  all_goals first
    | exact Tt.pure (by exact ⟨rfl, rfl, rfl, rfl, rfl⟩)
    | exact (ih' _ _ _ _ _ _ (by (try simp only [List.length_set]); omega) (by omega)).mono (fun _ h => h) (fun _ h => by simpa only [List.length_set] using h)

theorem pin20_tot (a : Int) (b : Int) (i : Int) (j : Int) (k : Int) (l : List D) (hi : l.length ≤ 1048576 ∧ 1 ≤ k ∧ b ≤ l.length) :
    ∃ y, slices_partialInsertionSortOrdered_L20 a b i j k l = some y ∧ (y.1 = a ∧ y.2.1 = b ∧ y.2.2.1 = i ∧ y.2.2.2.1 = j ∧ y.2.2.2.2.length = l.length) := by
  refine Tt.loop (fun n (x : Int × Int × Int × Int × Int × List D) => n_slices_partialInsertionSortOrdered_L20 n x.1 x.2.1 x.2.2.1 x.2.2.2.1 x.2.2.2.2.1 x.2.2.2.2.2) (fun x => (x.2.2.2.2.2).length ≤ 1048576 ∧ 1 ≤ (x.2.2.2.2.1) ∧ (x.2.1) ≤ (x.2.2.2.2.2).length) (fun x => ((x.2.1) - (x.2.2.2.2.1)).toNat) (fun x y => (y.1 = (x.1) ∧ y.2.1 = (x.2.1) ∧ y.2.2.1 = (x.2.2.1) ∧ y.2.2.2.1 = (x.2.2.2.1) ∧ y.2.2.2.2.length = (x.2.2.2.2.2).length)) ?_ (a, b, i, j, k, l) hi
  clear hi
  rintro ⟨a, b, i, j, k, l⟩ hi ih
  have ih' : ∀ (a' : Int) (b' : Int) (i' : Int) (j' : Int) (k' : Int) (l' : List D), (l'.length ≤ 1048576 ∧ 1 ≤ k' ∧ b' ≤ l'.length) → (b' - k').toNat < (b - k).toNat → Tt (fun m => (b - k).toNat ≤ m) (fun y => (y.1 = a' ∧ y.2.1 = b' ∧ y.2.2.1 = i' ∧ y.2.2.2.1 = j' ∧ y.2.2.2.2.length = l'.length)) (fun m => n_slices_partialInsertionSortOrdered_L20 m a' b' i' j' k' l') :=
    fun a' b' i' j' k' l' q1 q2 => ih (a', b', i', j', k', l') q1 q2
  clear ih
  simp only at hi
  show Tt _ _ (fun m => c_slices_partialInsertionSortOrdered_L20 (n_slices_partialInsertionSortOrdered_L20 m) a b i j k l some)
  unfold c_slices_partialInsertionSortOrdered_L20
  simp only [less_eq, Option.bind_some, Option.bind_fun_some, List.length_set, wq]
  (repeat' first | refine Tt.ite (by omega) ?_ | refine Tt.ndec (fun _ => ?_) fun _ => ?_ | refine Tt.dec (fun _ => ?_) fun _ => ?_ | refine Tt.cnd (fun _ => ?_) fun _ => ?_)
  all_goals first
    | exact Tt.pure (by exact ⟨rfl, rfl, rfl, rfl, rfl⟩)
    | exact (ih' _ _ _ _ _ _ (by (try simp only [List.length_set]); omega) (by omega)).mono (fun _ h => h) (fun _ h => by simpa only [List.length_set] using h)

def lenP : (Bool × List D) ⊕ List D → Nat | .inl l => l.2.length | .inr l => l.length

theorem pin3_tot (a : Int) (b : Int) (i : Int) (j : Int) (l : List D) (hi : 0 ≤ a ∧ a < i ∧ i ≤ b ∧ b ≤ l.length ∧ l.length ≤ 1048576 ∧ 0 ≤ j) :
    ∃ y, slices_partialInsertionSortOrdered_L3 a b i j l = some y ∧ (lenP y = l.length) := by
  refine Tt.loop (fun n (x : Int × Int × Int × Int × List D) => n_slices_partialInsertionSortOrdered_L3 n x.1 x.2.1 x.2.2.1 x.2.2.2.1 x.2.2.2.2) (fun x => 0 ≤ (x.1) ∧ (x.1) < (x.2.2.1) ∧ (x.2.2.1) ≤ (x.2.1) ∧ (x.2.1) ≤ (x.2.2.2.2).length ∧ (x.2.2.2.2).length ≤ 1048576 ∧ 0 ≤ (x.2.2.2.1)) (fun x => (5 - (x.2.2.2.1)).toNat) (fun x y => (lenP y = (x.2.2.2.2).length)) ?_ (a, b, i, j, l) hi
  clear hi
  rintro ⟨a, b, i, j, l⟩ hi ih
  have ih' : ∀ (a' : Int) (b' : Int) (i' : Int) (j' : Int) (l' : List D), (0 ≤ a' ∧ a' < i' ∧ i' ≤ b' ∧ b' ≤ l'.length ∧ l'.length ≤ 1048576 ∧ 0 ≤ j') → (5 - j').toNat < (5 - j).toNat → Tt (fun m => (5 - j).toNat ≤ m) (fun y => (lenP y = l'.length)) (fun m => n_slices_partialInsertionSortOrdered_L3 m a' b' i' j' l') :=
    fun a' b' i' j' l' q1 q2 => ih (a', b', i', j', l') q1 q2
  clear ih
  simp only at hi
  show Tt _ _ (fun m => c_slices_partialInsertionSortOrdered_L3 (n_slices_partialInsertionSortOrdered_L3 m) a b i j l some)
  unfold c_slices_partialInsertionSortOrdered_L3
  simp only [less_eq, Option.bind_some, Option.bind_fun_some, List.length_set, wq]
  (repeat' first | refine Tt.ite (by omega) ?_ | refine Tt.ndec (fun _ => ?_) fun _ => ?_ | refine Tt.dec (fun _ => ?_) fun _ => ?_ | refine Tt.cnd (fun _ => ?_) fun _ => ?_)
  · refine Tt.bind (Tt.con (pin5_tot _ _ _ _ _ (by omega))) (fun v hv => ?_)
    (repeat' first | refine Tt.ite (by omega) ?_ | refine Tt.ndec (fun _ => ?_) fun _ => ?_ | refine Tt.dec (fun _ => ?_) fun _ => ?_ | refine Tt.cnd (fun _ => ?_) fun _ => ?_)
    all_goals first
      | exact Tt.pure (by simp only [lenP]; omega)
      | (refine Tt.bind (Tt.con (pin14_tot _ _ _ _ _ _ (by (try simp only [List.length_set]); omega))) (fun w hw => ?_)
         simp only [List.length_set] at hw
         (repeat' first | refine Tt.ite (by omega) ?_ | refine Tt.ndec (fun _ => ?_) fun _ => ?_ | refine Tt.dec (fun _ => ?_) fun _ => ?_ | refine Tt.cnd (fun _ => ?_) fun _ => ?_)
         · refine Tt.bind (Tt.con (pin20_tot _ _ _ _ _ _ (by (try simp only [List.length_set]); omega))) (fun u hu => ?_)
           exact (ih' _ _ _ _ _ (by omega) (by omega)).mono (fun _ h => h) (fun _ h => by omega)
         · exact (ih' _ _ _ _ _ (by omega) (by omega)).mono (fun _ h => h) (fun _ h => by omega))
      | (refine Tt.bind (Tt.con (pin20_tot _ _ _ _ _ _ (by (try simp only [List.length_set]); omega))) (fun u hu => ?_)
         simp only [List.length_set] at hu
         exact (ih' _ _ _ _ _ (by omega) (by omega)).mono (fun _ h => h) (fun _ h => by omega))
      | exact (ih' _ _ _ _ _ (by (try simp only [List.length_set]); omega) (by omega)).mono (fun _ h => h) (fun _ h => by simp only [List.length_set] at h; omega)
  · exact Tt.pure rfl

theorem pin_tot (l : List D) (a b : Int) (h : 0 ≤ a ∧ a < b ∧ b ≤ l.length ∧ l.length ≤ 1048576) : ∃ y, slices_partialInsertionSortOrdered l a b = some y ∧ y.2.length = l.length := by
  refine Tt.out ?_
  unfold slices_partialInsertionSortOrdered c_slices_partialInsertionSortOrdered
  simp only [wq]
  refine Tt.bind (Tt.con (pin3_tot _ _ _ _ _ (by omega))) (fun v hv => ?_)
  cases v with
  | inl v => exact Tt.pure hv
  | inr v => exact Tt.pure hv

theorem peqL3_tot (a : Int) (i : Int) (j : Int) (l : List D) (hi : 0 ≤ a ∧ a < i ∧ a < l.length ∧ j < l.length ∧ -1 ≤ j ∧ i ≤ 1048577 ∧ l.length ≤ 1048576) :
    ∃ y, slices_partitionEqualOrdered_L3 a i j l = some y ∧ (y.1 = a ∧ i ≤ y.2.1 ∧ y.2.1 ≤ max i (j + 1) ∧ y.2.2.1 = j ∧ y.2.2.2.length = l.length) := by
  refine Tt.loop (fun n (x : Int × Int × Int × List D) => n_slices_partitionEqualOrdered_L3 n x.1 x.2.1 x.2.2.1 x.2.2.2) (fun x => 0 ≤ (x.1) ∧ (x.1) < (x.2.1) ∧ (x.1) < (x.2.2.2).length ∧ (x.2.2.1) < (x.2.2.2).length ∧ -1 ≤ (x.2.2.1) ∧ (x.2.1) ≤ 1048577 ∧ (x.2.2.2).length ≤ 1048576) (fun x => ((x.2.2.1) + 1 - (x.2.1)).toNat) (fun x y => (y.1 = (x.1) ∧ (x.2.1) ≤ y.2.1 ∧ y.2.1 ≤ max (x.2.1) ((x.2.2.1) + 1) ∧ y.2.2.1 = (x.2.2.1) ∧ y.2.2.2.length = (x.2.2.2).length)) ?_ (a, i, j, l) hi
  clear hi
  rintro ⟨a, i, j, l⟩ hi ih
  have ih' : ∀ (a' : Int) (i' : Int) (j' : Int) (l' : List D), (0 ≤ a' ∧ a' < i' ∧ a' < l'.length ∧ j' < l'.length ∧ -1 ≤ j' ∧ i' ≤ 1048577 ∧ l'.length ≤ 1048576) → (j' + 1 - i').toNat < (j + 1 - i).toNat → Tt (fun m => (j + 1 - i).toNat ≤ m) (fun y => (y.1 = a' ∧ i' ≤ y.2.1 ∧ y.2.1 ≤ max i' (j' + 1) ∧ y.2.2.1 = j' ∧ y.2.2.2.length = l'.length)) (fun m => n_slices_partitionEqualOrdered_L3 m a' i' j' l') :=
    fun a' i' j' l' q1 q2 => ih (a', i', j', l') q1 q2
  clear ih
  simp only at hi
  show Tt _ _ (fun m => c_slices_partitionEqualOrdered_L3 (n_slices_partitionEqualOrdered_L3 m) a i j l some)
  unfold c_slices_partitionEqualOrdered_L3
  simp only [less_eq, Option.bind_some, Option.bind_fun_some, List.length_set, wq]
  (repeat' first | refine Tt.ite (by omega) ?_ | refine Tt.ndec (fun _ => ?_) fun _ => ?_ | refine Tt.dec (fun _ => ?_) fun _ => ?_ | refine Tt.cnd (fun _ => ?_) fun _ => ?_)
  all_goals first
    | exact Tt.pure (by dsimp only; omega)
    | exact (ih' _ _ _ _ (by omega) (by omega)).mono (fun _ h => h) (fun _ h => by omega)
theorem peqL5_tot (a : Int) (i : Int) (j : Int) (l : List D) (hi : 0 ≤ a ∧ a < i ∧ a < l.length ∧ j < l.length ∧ -1 ≤ j ∧ i ≤ 1048577 ∧ l.length ≤ 1048576) :
    ∃ y, slices_partitionEqualOrdered_L5 a i j l = some y ∧ (y.1 = a ∧ y.2.1 = i ∧ y.2.2.1 ≤ j ∧ min j (i - 1) ≤ y.2.2.1 ∧ y.2.2.2.length = l.length) := by
  refine Tt.loop (fun n (x : Int × Int × Int × List D) => n_slices_partitionEqualOrdered_L5 n x.1 x.2.1 x.2.2.1 x.2.2.2) (fun x => 0 ≤ (x.1) ∧ (x.1) < (x.2.1) ∧ (x.1) < (x.2.2.2).length ∧ (x.2.2.1) < (x.2.2.2).length ∧ -1 ≤ (x.2.2.1) ∧ (x.2.1) ≤ 1048577 ∧ (x.2.2.2).length ≤ 1048576) (fun x => ((x.2.2.1) + 1 - (x.2.1)).toNat) (fun x y => (y.1 = (x.1) ∧ y.2.1 = (x.2.1) ∧ y.2.2.1 ≤ (x.2.2.1) ∧ min (x.2.2.1) ((x.2.1) - 1) ≤ y.2.2.1 ∧ y.2.2.2.length = (x.2.2.2).length)) ?_ (a, i, j, l) hi
  clear hi
  rintro ⟨a, i, j, l⟩ hi ih
  have ih' : ∀ (a' : Int) (i' : Int) (j' : Int) (l' : List D), (0 ≤ a' ∧ a' < i' ∧ a' < l'.length ∧ j' < l'.length ∧ -1 ≤ j' ∧ i' ≤ 1048577 ∧ l'.length ≤ 1048576) → (j' + 1 - i').toNat < (j + 1 - i).toNat → Tt (fun m => (j + 1 - i).toNat ≤ m) (fun y => (y.1 = a' ∧ y.2.1 = i' ∧ y.2.2.1 ≤ j' ∧ min j' (i' - 1) ≤ y.2.2.1 ∧ y.2.2.2.length = l'.length)) (fun m => n_slices_partitionEqualOrdered_L5 m a' i' j' l') :=
    fun a' i' j' l' q1 q2 => ih (a', i', j', l') q1 q2
  clear ih
  simp only at hi
  show Tt _ _ (fun m => c_slices_partitionEqualOrdered_L5 (n_slices_partitionEqualOrdered_L5 m) a i j l some)
  unfold c_slices_partitionEqualOrdered_L5
  simp only [less_eq, Option.bind_some, Option.bind_fun_some, List.length_set, wq]
  (repeat' first | refine Tt.ite (by omega) ?_ | refine Tt.ndec (fun _ => ?_) fun _ => ?_ | refine Tt.dec (fun _ => ?_) fun _ => ?_ | refine Tt.cnd (fun _ => ?_) fun _ => ?_)
  all_goals first
    | exact Tt.pure (by dsimp only; omega)
    | exact (ih' _ _ _ _ (by omega) (by omega)).mono (fun _ h => h) (fun _ h => by omega)

theorem peqL_tot (a : Int) (i : Int) (j : Int) (l : List D) (hi : 0 ≤ a ∧ a < i ∧ a < l.length ∧ j < l.length ∧ a - 1 ≤ j ∧ i ≤ l.length ∧ l.length ≤ 1048576) :
    ∃ y, slices_partitionEqualOrdered_L100003 a i j l = some y ∧ (i ≤ y.1 ∧ y.1 ≤ max i (j + 1) ∧ y.2.length = l.length) := by
  refine Tt.loop (fun n (x : Int × Int × Int × List D) => n_slices_partitionEqualOrdered_L100003 n x.1 x.2.1 x.2.2.1 x.2.2.2) (fun x => 0 ≤ (x.1) ∧ (x.1) < (x.2.1) ∧ (x.1) < (x.2.2.2).length ∧ (x.2.2.1) < (x.2.2.2).length ∧ (x.1) - 1 ≤ (x.2.2.1) ∧ (x.2.1) ≤ (x.2.2.2).length ∧ (x.2.2.2).length ≤ 1048576) (fun x => ((x.2.2.1) + 2 - (x.2.1)).toNat) (fun x y => ((x.2.1) ≤ y.1 ∧ y.1 ≤ max (x.2.1) ((x.2.2.1) + 1) ∧ y.2.length = (x.2.2.2).length)) ?_ (a, i, j, l) hi
  clear hi
  rintro ⟨a, i, j, l⟩ hi ih
  have ih' : ∀ (a' : Int) (i' : Int) (j' : Int) (l' : List D), (0 ≤ a' ∧ a' < i' ∧ a' < l'.length ∧ j' < l'.length ∧ a' - 1 ≤ j' ∧ i' ≤ l'.length ∧ l'.length ≤ 1048576) → (j' + 2 - i').toNat < (j + 2 - i).toNat → Tt (fun m => (j + 2 - i).toNat ≤ m) (fun y => (i' ≤ y.1 ∧ y.1 ≤ max i' (j' + 1) ∧ y.2.length = l'.length)) (fun m => n_slices_partitionEqualOrdered_L100003 m a' i' j' l') :=
    fun a' i' j' l' q1 q2 => ih (a', i', j', l') q1 q2
  clear ih
  simp only at hi
  show Tt _ _ (fun m => c_slices_partitionEqualOrdered_L100003 (n_slices_partitionEqualOrdered_L100003 m) a i j l some)
  unfold c_slices_partitionEqualOrdered_L100003
  simp only [less_eq, Option.bind_some, Option.bind_fun_some, List.length_set, wq]
  refine Tt.bind (Tt.con (peqL3_tot _ _ _ _ (by omega))) (fun v hv => ?_)
  refine Tt.bind (Tt.con (peqL5_tot _ _ _ _ (by omega))) (fun w hw => ?_)
  (repeat' first | refine Tt.ite (by omega) ?_ | refine Tt.ndec (fun _ => ?_) fun _ => ?_ | refine Tt.dec (fun _ => ?_) fun _ => ?_ | refine Tt.cnd (fun _ => ?_) fun _ => ?_)
  · exact Tt.pure (by dsimp only; omega)
  · exact (ih' _ _ _ _ (by (try simp only [List.length_set]); omega) (by omega)).mono (fun _ h => h) (fun _ h => by simp only [List.length_set] at h; omega)

theorem peq_tot (l : List D) (a b p : Int) (h : 0 ≤ a ∧ a ≤ p ∧ p < b ∧ b ≤ l.length ∧ l.length ≤ 1048576) : ∃ y, slices_partitionEqualOrdered l a b p = some y ∧ (a < y.1 ∧ y.1 ≤ b ∧ y.2.length = l.length) := by
  refine Tt.out ?_
  unfold slices_partitionEqualOrdered c_slices_partitionEqualOrdered
  simp only [wq, List.length_set]
  (repeat' first | refine Tt.ite (by omega) ?_ | refine Tt.ndec (fun _ => ?_) fun _ => ?_ | refine Tt.dec (fun _ => ?_) fun _ => ?_ | refine Tt.cnd (fun _ => ?_) fun _ => ?_)
  refine Tt.bind (Tt.con (peqL_tot _ _ _ _ (by (try simp only [List.length_set]); omega))) (fun v hv => ?_)
  simp only [List.length_set] at hv
  exact Tt.pure (by dsimp only; omega)

theorem parL3_tot (a : Int) (i : Int) (j : Int) (l : List D) (hi : 0 ≤ a ∧ a < i ∧ a < l.length ∧ j < l.length ∧ -1 ≤ j ∧ i ≤ 1048577 ∧ l.length ≤ 1048576) :
    ∃ y, slices_partitionOrdered_L3 a i j l = some y ∧ (y.1 = a ∧ i ≤ y.2.1 ∧ y.2.1 ≤ max i (j + 1) ∧ y.2.2.1 = j ∧ y.2.2.2.length = l.length) := by
  refine Tt.loop (fun n (x : Int × Int × Int × List D) => n_slices_partitionOrdered_L3 n x.1 x.2.1 x.2.2.1 x.2.2.2) (fun x => 0 ≤ (x.1) ∧ (x.1) < (x.2.1) ∧ (x.1) < (x.2.2.2).length ∧ (x.2.2.1) < (x.2.2.2).length ∧ -1 ≤ (x.2.2.1) ∧ (x.2.1) ≤ 1048577 ∧ (x.2.2.2).length ≤ 1048576) (fun x => ((x.2.2.1) + 1 - (x.2.1)).toNat) (fun x y => (y.1 = (x.1) ∧ (x.2.1) ≤ y.2.1 ∧ y.2.1 ≤ max (x.2.1) ((x.2.2.1) + 1) ∧ y.2.2.1 = (x.2.2.1) ∧ y.2.2.2.length = (x.2.2.2).length)) ?_ (a, i, j, l) hi
  clear hi
  rintro ⟨a, i, j, l⟩ hi ih
  have ih' : ∀ (a' : Int) (i' : Int) (j' : Int) (l' : List D), (0 ≤ a' ∧ a' < i' ∧ a' < l'.length ∧ j' < l'.length ∧ -1 ≤ j' ∧ i' ≤ 1048577 ∧ l'.length ≤ 1048576) → (j' + 1 - i').toNat < (j + 1 - i).toNat → Tt (fun m => (j + 1 - i).toNat ≤ m) (fun y => (y.1 = a' ∧ i' ≤ y.2.1 ∧ y.2.1 ≤ max i' (j' + 1) ∧ y.2.2.1 = j' ∧ y.2.2.2.length = l'.length)) (fun m => n_slices_partitionOrdered_L3 m a' i' j' l') :=
    fun a' i' j' l' q1 q2 => ih (a', i', j', l') q1 q2
  clear ih
  simp only at hi
  show Tt _ _ (fun m => c_slices_partitionOrdered_L3 (n_slices_partitionOrdered_L3 m) a i j l some)
  unfold c_slices_partitionOrdered_L3
  simp only [less_eq, Option.bind_some, Option.bind_fun_some, List.length_set, wq]
  (repeat' first | refine Tt.ite (by omega) ?_ | refine Tt.ndec (fun _ => ?_) fun _ => ?_ | refine Tt.dec (fun _ => ?_) fun _ => ?_ | refine Tt.cnd (fun _ => ?_) fun _ => ?_)
  all_goals first
    | exact Tt.pure (by dsimp only; omega)
    | exact (ih' _ _ _ _ (by omega) (by omega)).mono (fun _ h => h) (fun _ h => by omega)
theorem parL5_tot (a : Int) (i : Int) (j : Int) (l : List D) (hi : 0 ≤ a ∧ a < i ∧ a < l.length ∧ j < l.length ∧ -1 ≤ j ∧ i ≤ 1048577 ∧ l.length ≤ 1048576) :
    ∃ y, slices_partitionOrdered_L5 a i j l = some y ∧ (y.1 = a ∧ y.2.1 = i ∧ y.2.2.1 ≤ j ∧ min j (i - 1) ≤ y.2.2.1 ∧ y.2.2.2.length = l.length) := by
  refine Tt.loop (fun n (x : Int × Int × Int × List D) => n_slices_partitionOrdered_L5 n x.1 x.2.1 x.2.2.1 x.2.2.2) (fun x => 0 ≤ (x.1) ∧ (x.1) < (x.2.1) ∧ (x.1) < (x.2.2.2).length ∧ (x.2.2.1) < (x.2.2.2).length ∧ -1 ≤ (x.2.2.1) ∧ (x.2.1) ≤ 1048577 ∧ (x.2.2.2).length ≤ 1048576) (fun x => ((x.2.2.1) + 1 - (x.2.1)).toNat) (fun x y => (y.1 = (x.1) ∧ y.2.1 = (x.2.1) ∧ y.2.2.1 ≤ (x.2.2.1) ∧ min (x.2.2.1) ((x.2.1) - 1) ≤ y.2.2.1 ∧ y.2.2.2.length = (x.2.2.2).length)) ?_ (a, i, j, l) hi
  clear hi
  rintro ⟨a, i, j, l⟩ hi ih
  have ih' : ∀ (a' : Int) (i' : Int) (j' : Int) (l' : List D), (0 ≤ a' ∧ a' < i' ∧ a' < l'.length ∧ j' < l'.length ∧ -1 ≤ j' ∧ i' ≤ 1048577 ∧ l'.length ≤ 1048576) → (j' + 1 - i').toNat < (j + 1 - i).toNat → Tt (fun m => (j + 1 - i).toNat ≤ m) (fun y => (y.1 = a' ∧ y.2.1 = i' ∧ y.2.2.1 ≤ j' ∧ min j' (i' - 1) ≤ y.2.2.1 ∧ y.2.2.2.length = l'.length)) (fun m => n_slices_partitionOrdered_L5 m a' i' j' l') :=
    fun a' i' j' l' q1 q2 => ih (a', i', j', l') q1 q2
  clear ih
  simp only at hi
  show Tt _ _ (fun m => c_slices_partitionOrdered_L5 (n_slices_partitionOrdered_L5 m) a i j l some)
  unfold c_slices_partitionOrdered_L5
  simp only [less_eq, Option.bind_some, Option.bind_fun_some, List.length_set, wq]
  (repeat' first | refine Tt.ite (by omega) ?_ | refine Tt.ndec (fun _ => ?_) fun _ => ?_ | refine Tt.dec (fun _ => ?_) fun _ => ?_ | refine Tt.cnd (fun _ => ?_) fun _ => ?_)
  all_goals first
    | exact Tt.pure (by dsimp only; omega)
    | exact (ih' _ _ _ _ (by omega) (by omega)).mono (fun _ h => h) (fun _ h => by omega)

theorem parL13_tot (a : Int) (i : Int) (j : Int) (l : List D) (hi : 0 ≤ a ∧ a < i ∧ a < l.length ∧ j < l.length ∧ -1 ≤ j ∧ i ≤ 1048577 ∧ l.length ≤ 1048576) :
    ∃ y, slices_partitionOrdered_L13 a i j l = some y ∧ (y.1 = a ∧ i ≤ y.2.1 ∧ y.2.1 ≤ max i (j + 1) ∧ y.2.2.1 = j ∧ y.2.2.2.length = l.length) := by
  refine Tt.loop (fun n (x : Int × Int × Int × List D) => n_slices_partitionOrdered_L13 n x.1 x.2.1 x.2.2.1 x.2.2.2) (fun x => 0 ≤ (x.1) ∧ (x.1) < (x.2.1) ∧ (x.1) < (x.2.2.2).length ∧ (x.2.2.1) < (x.2.2.2).length ∧ -1 ≤ (x.2.2.1) ∧ (x.2.1) ≤ 1048577 ∧ (x.2.2.2).length ≤ 1048576) (fun x => ((x.2.2.1) + 1 - (x.2.1)).toNat) (fun x y => (y.1 = (x.1) ∧ (x.2.1) ≤ y.2.1 ∧ y.2.1 ≤ max (x.2.1) ((x.2.2.1) + 1) ∧ y.2.2.1 = (x.2.2.1) ∧ y.2.2.2.length = (x.2.2.2).length)) ?_ (a, i, j, l) hi
  clear hi
  rintro ⟨a, i, j, l⟩ hi ih
  have ih' : ∀ (a' : Int) (i' : Int) (j' : Int) (l' : List D), (0 ≤ a' ∧ a' < i' ∧ a' < l'.length ∧ j' < l'.length ∧ -1 ≤ j' ∧ i' ≤ 1048577 ∧ l'.length ≤ 1048576) → (j' + 1 - i').toNat < (j + 1 - i).toNat → Tt (fun m => (j + 1 - i).toNat ≤ m) (fun y => (y.1 = a' ∧ i' ≤ y.2.1 ∧ y.2.1 ≤ max i' (j' + 1) ∧ y.2.2.1 = j' ∧ y.2.2.2.length = l'.length)) (fun m => n_slices_partitionOrdered_L13 m a' i' j' l') :=
    fun a' i' j' l' q1 q2 => ih (a', i', j', l') q1 q2
  clear ih
  simp only at hi
  show Tt _ _ (fun m => c_slices_partitionOrdered_L13 (n_slices_partitionOrdered_L13 m) a i j l some)
  unfold c_slices_partitionOrdered_L13
  simp only [less_eq, Option.bind_some, Option.bind_fun_some, List.length_set, wq]
  (repeat' first | refine Tt.ite (by omega) ?_ | refine Tt.ndec (fun _ => ?_) fun _ => ?_ | refine Tt.dec (fun _ => ?_) fun _ => ?_ | refine Tt.cnd (fun _ => ?_) fun _ => ?_)
  all_goals first
    | exact Tt.pure (by dsimp only; omega)
    | exact (ih' _ _ _ _ (by omega) (by omega)).mono (fun _ h => h) (fun _ h => by omega)
theorem parL15_tot (a : Int) (i : Int) (j : Int) (l : List D) (hi : 0 ≤ a ∧ a < i ∧ a < l.length ∧ j < l.length ∧ -1 ≤ j ∧ i ≤ 1048577 ∧ l.length ≤ 1048576) :
    ∃ y, slices_partitionOrdered_L15 a i j l = some y ∧ (y.1 = a ∧ y.2.1 = i ∧ y.2.2.1 ≤ j ∧ min j (i - 1) ≤ y.2.2.1 ∧ y.2.2.2.length = l.length) := by
  refine Tt.loop (fun n (x : Int × Int × Int × List D) => n_slices_partitionOrdered_L15 n x.1 x.2.1 x.2.2.1 x.2.2.2) (fun x => 0 ≤ (x.1) ∧ (x.1) < (x.2.1) ∧ (x.1) < (x.2.2.2).length ∧ (x.2.2.1) < (x.2.2.2).length ∧ -1 ≤ (x.2.2.1) ∧ (x.2.1) ≤ 1048577 ∧ (x.2.2.2).length ≤ 1048576) (fun x => ((x.2.2.1) + 1 - (x.2.1)).toNat) (fun x y => (y.1 = (x.1) ∧ y.2.1 = (x.2.1) ∧ y.2.2.1 ≤ (x.2.2.1) ∧ min (x.2.2.1) ((x.2.1) - 1) ≤ y.2.2.1 ∧ y.2.2.2.length = (x.2.2.2).length)) ?_ (a, i, j, l) hi
  clear hi
  rintro ⟨a, i, j, l⟩ hi ih
  have ih' : ∀ (a' : Int) (i' : Int) (j' : Int) (l' : List D), (0 ≤ a' ∧ a' < i' ∧ a' < l'.length ∧ j' < l'.length ∧ -1 ≤ j' ∧ i' ≤ 1048577 ∧ l'.length ≤ 1048576) → (j' + 1 - i').toNat < (j + 1 - i).toNat → Tt (fun m => (j + 1 - i).toNat ≤ m) (fun y => (y.1 = a' ∧ y.2.1 = i' ∧ y.2.2.1 ≤ j' ∧ min j' (i' - 1) ≤ y.2.2.1 ∧ y.2.2.2.length = l'.length)) (fun m => n_slices_partitionOrdered_L15 m a' i' j' l') :=
    fun a' i' j' l' q1 q2 => ih (a', i', j', l') q1 q2
  clear ih
  simp only at hi
  show Tt _ _ (fun m => c_slices_partitionOrdered_L15 (n_slices_partitionOrdered_L15 m) a i j l some)
  unfold c_slices_partitionOrdered_L15
  simp only [less_eq, Option.bind_some, Option.bind_fun_some, List.length_set, wq]
  (repeat' first | refine Tt.ite (by omega) ?_ | refine Tt.ndec (fun _ => ?_) fun _ => ?_ | refine Tt.dec (fun _ => ?_) fun _ => ?_ | refine Tt.cnd (fun _ => ?_) fun _ => ?_)
  all_goals first
    | exact Tt.pure (by dsimp only; omega)
    | exact (ih' _ _ _ _ (by omega) (by omega)).mono (fun _ h => h) (fun _ h => by omega)

theorem parL_tot (a : Int) (i : Int) (j : Int) (l : List D) (hi : 0 ≤ a ∧ a < i ∧ a < l.length ∧ j < l.length ∧ a ≤ j ∧ i ≤ l.length ∧ l.length ≤ 1048576) :
    ∃ y, slices_partitionOrdered_L100013 a i j l = some y ∧ (y.1 = a ∧ a ≤ y.2.1 ∧ y.2.1 ≤ j ∧ y.2.2.length = l.length) := by
  refine Tt.loop (fun n (x : Int × Int × Int × List D) => n_slices_partitionOrdered_L100013 n x.1 x.2.1 x.2.2.1 x.2.2.2) (fun x => 0 ≤ (x.1) ∧ (x.1) < (x.2.1) ∧ (x.1) < (x.2.2.2).length ∧ (x.2.2.1) < (x.2.2.2).length ∧ (x.1) ≤ (x.2.2.1) ∧ (x.2.1) ≤ (x.2.2.2).length ∧ (x.2.2.2).length ≤ 1048576) (fun x => ((x.2.2.1) + 2 - (x.2.1)).toNat) (fun x y => (y.1 = (x.1) ∧ (x.1) ≤ y.2.1 ∧ y.2.1 ≤ (x.2.2.1) ∧ y.2.2.length = (x.2.2.2).length)) ?_ (a, i, j, l) hi
  clear hi
  rintro ⟨a, i, j, l⟩ hi ih
  have ih' : ∀ (a' : Int) (i' : Int) (j' : Int) (l' : List D), (0 ≤ a' ∧ a' < i' ∧ a' < l'.length ∧ j' < l'.length ∧ a' ≤ j' ∧ i' ≤ l'.length ∧ l'.length ≤ 1048576) → (j' + 2 - i').toNat < (j + 2 - i).toNat → Tt (fun m => (j + 2 - i).toNat ≤ m) (fun y => (y.1 = a' ∧ a' ≤ y.2.1 ∧ y.2.1 ≤ j' ∧ y.2.2.length = l'.length)) (fun m => n_slices_partitionOrdered_L100013 m a' i' j' l') :=
    fun a' i' j' l' q1 q2 => ih (a', i', j', l') q1 q2
  clear ih
  simp only at hi
  show Tt _ _ (fun m => c_slices_partitionOrdered_L100013 (n_slices_partitionOrdered_L100013 m) a i j l some)
  unfold c_slices_partitionOrdered_L100013
  simp only [less_eq, Option.bind_some, Option.bind_fun_some, List.length_set, wq]
  refine Tt.bind (Tt.con (parL13_tot _ _ _ _ (by omega))) (fun v hv => ?_)
  refine Tt.bind (Tt.con (parL15_tot _ _ _ _ (by omega))) (fun w hw => ?_)
  (repeat' first | refine Tt.ite (by omega) ?_ | refine Tt.ndec (fun _ => ?_) fun _ => ?_ | refine Tt.dec (fun _ => ?_) fun _ => ?_ | refine Tt.cnd (fun _ => ?_) fun _ => ?_)
  · exact Tt.pure (by dsimp only; omega)
  · exact (ih' _ _ _ _ (by (try simp only [List.length_set]); omega) (by omega)).mono (fun _ h => h) (fun _ h => by simp only [List.length_set] at h; omega)

theorem par_tot (l : List D) (a b p : Int) (h : 0 ≤ a ∧ a + 1 < b ∧ a ≤ p ∧ p < b ∧ b ≤ l.length ∧ l.length ≤ 1048576) : ∃ y, slices_partitionOrdered l a b p = some y ∧ (a ≤ y.1 ∧ y.1 < b ∧ y.2.2.length = l.length) := by
  refine Tt.out ?_
  unfold slices_partitionOrdered c_slices_partitionOrdered
  simp only [wq, List.length_set]
  (repeat' first | refine Tt.ite (by omega) ?_ | refine Tt.ndec (fun _ => ?_) fun _ => ?_ | refine Tt.dec (fun _ => ?_) fun _ => ?_ | refine Tt.cnd (fun _ => ?_) fun _ => ?_)
  refine Tt.bind (Tt.con (parL3_tot _ _ _ _ (by (try simp only [List.length_set]); omega))) (fun v hv => ?_)
  simp only [List.length_set] at hv
  refine Tt.bind (Tt.con (parL5_tot _ _ _ _ (by omega))) (fun w hw => ?_)
  (repeat' first | refine Tt.ite (by omega) ?_ | refine Tt.ndec (fun _ => ?_) fun _ => ?_ | refine Tt.dec (fun _ => ?_) fun _ => ?_ | refine Tt.cnd (fun _ => ?_) fun _ => ?_)
  · exact Tt.pure (by dsimp only; simp only [List.length_set]; omega)
  · refine Tt.bind (Tt.con (parL_tot _ _ _ _ (by (try simp only [List.length_set]); omega))) (fun u hu => ?_)
    simp only [List.length_set] at hu
    (repeat' first | refine Tt.ite (by omega) ?_ | refine Tt.ndec (fun _ => ?_) fun _ => ?_ | refine Tt.dec (fun _ => ?_) fun _ => ?_ | refine Tt.cnd (fun _ => ?_) fun _ => ?_)
    exact Tt.pure (by dsimp only; simp only [List.length_set]; omega)

theorem order2_tot (l : List D) (a b s : Int) (h : 0 ≤ a ∧ a < l.length ∧ 0 ≤ b ∧ b < l.length) : ∃ y, slices_order2Ordered l a b s = some y ∧ ((y.1 = a ∧ y.2.1 = b) ∨ (y.1 = b ∧ y.2.1 = a)) := by
  refine Tt.out ?_
  unfold slices_order2Ordered c_slices_order2Ordered
  simp only [less_eq, Option.bind_some]
  (repeat' first | refine Tt.ite (by omega) ?_ | refine Tt.ndec (fun _ => ?_) fun _ => ?_ | refine Tt.dec (fun _ => ?_) fun _ => ?_ | refine Tt.cnd (fun _ => ?_) fun _ => ?_)
  · exact Tt.pure (.inr ⟨rfl, rfl⟩)
  · exact Tt.pure (.inl ⟨rfl, rfl⟩)

theorem median_tot (l : List D) (a b c s : Int) (lo hi : Int) (h : 0 ≤ lo ∧ hi ≤ l.length ∧ lo ≤ a ∧ a < hi ∧ lo ≤ b ∧ b < hi ∧ lo ≤ c ∧ c < hi) : ∃ y, slices_medianOrdered l a b c s = some y ∧ (lo ≤ y.1 ∧ y.1 < hi) := by
  refine Tt.out ?_
  unfold slices_medianOrdered c_slices_medianOrdered
  refine Tt.bind (Tt.con (order2_tot _ _ _ _ (by omega))) (fun v hv => ?_)
  refine Tt.bind (Tt.con (order2_tot _ _ _ _ (by omega))) (fun w hw => ?_)
  refine Tt.bind (Tt.con (order2_tot _ _ _ _ (by omega))) (fun u hu => ?_)
  exact Tt.pure (by dsimp only; omega)

theorem medadj_tot (l : List D) (a s : Int) (lo hi : Int) (h : 0 ≤ lo ∧ hi ≤ l.length ∧ l.length ≤ 1048576 ∧ lo < a ∧ a + 1 < hi) : ∃ y, slices_medianAdjacentOrdered l a s = some y ∧ (lo ≤ y.1 ∧ y.1 < hi) := by
  refine Tt.out ?_
  unfold slices_medianAdjacentOrdered c_slices_medianAdjacentOrdered
  simp only [wq]
  refine Tt.bind (Tt.con (median_tot _ _ _ _ _ lo hi (by omega))) (fun v hv => ?_)
  exact Tt.pure (by dsimp only; omega)

theorem choose_tot (l : List D) (a b : Int) (h : 0 ≤ a ∧ a < b ∧ b ≤ l.length ∧ l.length ≤ 1048576) : ∃ y, slices_choosePivotOrdered l a b = some y ∧ (a ≤ y.1 ∧ y.1 < b) := by
  refine Tt.out ?_
  unfold slices_choosePivotOrdered c_slices_choosePivotOrdered
  rw [wrap_id (n := b - a) (by omega) (by omega), tq (by omega)]
  obtain ⟨q, hq, hq1, hq2⟩ : ∃ q, (b - a) / 4 = q ∧ 0 ≤ q ∧ 4 * q ≤ b - a := ⟨_, rfl, by omega, by omega⟩
  rw [hq]
  rw [wrap_id (n := q) (by omega) (by omega)]
  rw [wrap_id (n := q * 1) (by omega) (by omega), wrap_id (n := q * 2) (by omega) (by omega), wrap_id (n := q * 3) (by omega) (by omega)]
  rw [wrap_id (n := a + q * 1) (by omega) (by omega), wrap_id (n := a + q * 2) (by omega) (by omega), wrap_id (n := a + q * 3) (by omega) (by omega)]
  (repeat' first | refine Tt.ite (by omega) ?_ | refine Tt.ndec (fun _ => ?_) fun _ => ?_ | refine Tt.dec (fun _ => ?_) fun _ => ?_ | refine Tt.cnd (fun _ => ?_) fun _ => ?_)
  · refine Tt.bind (Tt.con (medadj_tot _ _ _ a b (by omega))) (fun v hv => ?_)
    refine Tt.bind (Tt.con (medadj_tot _ _ _ a b (by omega))) (fun w hw => ?_)
    refine Tt.bind (Tt.con (medadj_tot _ _ _ a b (by omega))) (fun u hu => ?_)
    refine Tt.bind (Tt.con (median_tot _ _ _ _ _ a b (by omega))) (fun u hu => ?_)
    (repeat' first | refine Tt.ite (by omega) ?_ | refine Tt.ndec (fun _ => ?_) fun _ => ?_ | refine Tt.dec (fun _ => ?_) fun _ => ?_ | refine Tt.cnd (fun _ => ?_) fun _ => ?_) <;> exact Tt.pure hu
  · refine Tt.bind (Tt.con (median_tot _ _ _ _ _ a b (by omega))) (fun u hu => ?_)
    (repeat' first | refine Tt.ite (by omega) ?_ | refine Tt.ndec (fun _ => ?_) fun _ => ?_ | refine Tt.dec (fun _ => ?_) fun _ => ?_ | refine Tt.cnd (fun _ => ?_) fun _ => ?_) <;> exact Tt.pure hu
  all_goals exact Tt.pure (by dsimp only; omega)

theorem uq (n : Int) : IntKind.u64.wrap n = n % 18446744073709551616 := by
  unfold IntKind.wrap
  simp [IntKind.signed, IntKind.bits]
theorem bq (n : Int) : IntKind.u8.wrap n = n % 256 := by
  unfold IntKind.wrap
  simp [IntKind.signed, IntKind.bits]

theorem len_tab : ∀ i : Fin 256, (bytes_0.data.toList.getD i.val (0 : UInt8)).toNat ≤ 8 ∧ (i.val = 0 ∨ 2 ^ (bytes_0.data.toList.getD i.val (0 : UInt8)).toNat ≤ 2 * i.val) := by
  decide +kernel

theorem len_size : (bytes_0.size : Int) = 256 := by decide +kernel

theorem fdiv_eq {n k : Int} (h : 0 ≤ k) : n.fdiv k = n / k := Int.fdiv_eq_ediv_of_nonneg n h

theorem len_at {q : Int} (h0 : 0 ≤ q) (h1 : q < 256) : ∃ t : Nat, (bytes_0.data.toList.getD q.toNat (0 : UInt8)).toNat = t ∧ t ≤ 8 ∧ (q = 0 ∨ ((2 ^ t : Nat) : Int) ≤ 2 * q) := by
  refine ⟨_, rfl, ?_⟩
  have := len_tab ⟨q.toNat, by omega⟩
  simp only at this
  refine ⟨this.1, ?_⟩
  rcases this.2 with h | h
  · exact .inl (by omega)
  · exact .inr (by omega)

theorem len_tot (n : Int) (h0 : 0 ≤ n) (h1 : n ≤ 1048576) : ∃ y, math_bits_Len n = some y ∧ (0 ≤ y ∧ y ≤ 24 ∧ (n = 0 ∨ ((2 ^ y.toNat : Nat) : Int) ≤ 2 * n)) := by
  have e32 : ((2 : Int) ^ Min.min (Int.toNat (32 : Int)) IntKind.u64.bits) = 4294967296 := by decide
  have e16 : ((2 : Int) ^ Min.min (Int.toNat (16 : Int)) IntKind.u64.bits) = 65536 := by decide
  have e8 : ((2 : Int) ^ Min.min (Int.toNat (8 : Int)) IntKind.u64.bits) = 256 := by decide
  refine Tt.out ?_
  unfold math_bits_Len c_math_bits_Len math_bits_Len64 c_math_bits_Len64
  simp only [wq, bq, e32, e16, e8, len_size, Option.bind_fun_some]
  simp only [fdiv_eq (show (0:Int) ≤ 4294967296 by decide), fdiv_eq (show (0:Int) ≤ 65536 by decide), fdiv_eq (show (0:Int) ≤ 256 by decide)]
  (repeat' first | refine Tt.ite (by omega) ?_ | refine Tt.ndec (fun _ => ?_) fun _ => ?_ | refine Tt.dec (fun _ => ?_) fun _ => ?_ | refine Tt.cnd (fun _ => ?_) fun _ => ?_)
  all_goals first
    | (exfalso; omega)
    | skip
  · obtain ⟨t, e, h3, h4⟩ := len_at (q := n / 65536 % 256) (by omega) (by omega)
    rw [e]
    refine Tt.pure ⟨by omega, by omega, ?_⟩
    rw [show (((((0 + 16 + 9223372036854775808) % 18446744073709551616 - 9223372036854775808) + ((((t : Nat) : Int) + 9223372036854775808) % 18446744073709551616 - 9223372036854775808) + 9223372036854775808) % 18446744073709551616 - 9223372036854775808) : Int).toNat = 16 + t by omega, Nat.pow_add]
    obtain ⟨z, hz⟩ : ∃ z : Nat, 2 ^ t = z := ⟨_, rfl⟩
    rw [hz] at h4 ⊢
    omega
  · obtain ⟨t, e, h3, h4⟩ := len_at (q := n / 256 % 256) (by omega) (by omega)
    rw [e]
    refine Tt.pure ⟨by omega, by omega, ?_⟩
    rw [show (((((0 + 8 + 9223372036854775808) % 18446744073709551616 - 9223372036854775808) + ((((t : Nat) : Int) + 9223372036854775808) % 18446744073709551616 - 9223372036854775808) + 9223372036854775808) % 18446744073709551616 - 9223372036854775808) : Int).toNat = 8 + t by omega, Nat.pow_add]
    obtain ⟨z, hz⟩ : ∃ z : Nat, 2 ^ t = z := ⟨_, rfl⟩
    rw [hz] at h4 ⊢
    omega
  · obtain ⟨t, e, h3, h4⟩ := len_at (q := n % 256) (by omega) (by omega)
    rw [e]
    refine Tt.pure ⟨by omega, by omega, ?_⟩
    rw [show (((0 + ((((t : Nat) : Int) + 9223372036854775808) % 18446744073709551616 - 9223372036854775808) + 9223372036854775808) % 18446744073709551616 - 9223372036854775808) : Int).toNat = t by omega]
    obtain ⟨z, hz⟩ : ∃ z : Nat, 2 ^ t = z := ⟨_, rfl⟩
    rw [hz] at h4 ⊢
    omega

theorem pow2_tot (n : Int) (h0 : 1 ≤ n) (h1 : n ≤ 1048576) : ∃ y, slices_nextPowerOfTwo n = some y ∧ (1 ≤ y ∧ y ≤ 2 * n) := by
  refine Tt.out ?_
  unfold slices_nextPowerOfTwo c_slices_nextPowerOfTwo
  rw [show IntKind.u64.wrap n = n by rw [uq]; omega]
  refine Tt.bind (Tt.con (len_tot n (by omega) h1)) (fun v hv => ?_)
  refine Tt.ite hv.1 ?_
  have e : (1 : Int) * 2 ^ Min.min v.toNat IntKind.u64.bits = ((2 ^ v.toNat : Nat) : Int) := by
    rw [show Min.min v.toNat IntKind.u64.bits = v.toNat by simp only [IntKind.bits]; omega]
    push_cast; omega
  rw [e]
  have h3 : ((2 ^ v.toNat : Nat) : Int) ≤ 2 * n := by omega
  have h4 : 0 < 2 ^ v.toNat := Nat.two_pow_pos _
  exact Tt.pure (by rw [uq]; omega)

theorem and_lt {r m : Int} (h0 : 1 ≤ m) (h1 : m ≤ 4194304) : 0 ≤ IntKind.i64.wrap (IntKind.u64.wrap (((BitVec.ofInt IntKind.u64.bits r &&& BitVec.ofInt IntKind.u64.bits (IntKind.u64.wrap (m - 1))).toNat : Nat) : Int)) ∧ IntKind.i64.wrap (IntKind.u64.wrap (((BitVec.ofInt IntKind.u64.bits r &&& BitVec.ofInt IntKind.u64.bits (IntKind.u64.wrap (m - 1))).toNat : Nat) : Int)) < m := by
  have h2 : (BitVec.ofInt IntKind.u64.bits r &&& BitVec.ofInt IntKind.u64.bits (IntKind.u64.wrap (m - 1))).toNat ≤ (BitVec.ofInt IntKind.u64.bits (IntKind.u64.wrap (m - 1))).toNat := by
    rw [BitVec.toNat_and]; exact Nat.and_le_right
  have h3 : (BitVec.ofInt IntKind.u64.bits (IntKind.u64.wrap (m - 1))).toNat = (m - 1).toNat := by
    rw [BitVec.toNat_ofInt, show IntKind.u64.wrap (m - 1) = m - 1 by rw [uq]; omega]
    simp only [IntKind.bits]
    omega
  rw [h3] at h2
  rw [uq, wq]
  omega

theorem xor_tot (r : Int) : ∃ y, slices_xorshift_Next r = some y ∧ True := by
  refine Tt.out ?_
  unfold slices_xorshift_Next c_slices_xorshift_Next
  refine Tt.ite (by decide) (Tt.ite (by decide) (Tt.ite (by decide) (Tt.pure trivial)))

attribute [local irreducible] slices_xorshift_Next slices_nextPowerOfTwo slices_choosePivotOrdered slices_reverseRangeOrdered slices_partialInsertionSortOrdered slices_partitionEqualOrdered slices_partitionOrdered slices_heapSortOrdered slices_insertionSortOrdered

theorem bp5_tot (a n m i : Int) (l : List D) (r : Int) (hi : 0 ≤ a ∧ 8 ≤ n ∧ a + n ≤ l.length ∧ l.length ≤ 1048576 ∧ 1 ≤ m ∧ m ≤ 2 * n ∧ a ≤ i) :
    ∃ y, slices_breakPatternsOrdered_L5 a n m i l r = some y ∧ y.length = l.length := by
  refine Tt.loop (fun k (x : Int × List D × Int) => n_slices_breakPatternsOrdered_L5 k a n m x.1 x.2.1 x.2.2) (fun x => 0 ≤ a ∧ 8 ≤ n ∧ a + n ≤ x.2.1.length ∧ x.2.1.length ≤ 1048576 ∧ 1 ≤ m ∧ m ≤ 2 * n ∧ a ≤ x.1) (fun x => (a + n - x.1).toNat) (fun x y => y.length = x.2.1.length) ?_ (i, l, r) hi
  clear hi
  rintro ⟨i, l, r⟩ hi ih
  have ih' : ∀ (i' : Int) (l' : List D) (r' : Int), (0 ≤ a ∧ 8 ≤ n ∧ a + n ≤ l'.length ∧ l'.length ≤ 1048576 ∧ 1 ≤ m ∧ m ≤ 2 * n ∧ a ≤ i') → (a + n - i').toNat < (a + n - i).toNat → Tt (fun k => (a + n - i).toNat ≤ k) (fun y => y.length = l'.length) (fun k => n_slices_breakPatternsOrdered_L5 k a n m i' l' r') :=
    fun i' l' r' q1 q2 => ih (i', l', r') q1 q2
  clear ih
  simp only at hi
  show Tt _ _ (fun k => c_slices_breakPatternsOrdered_L5 (n_slices_breakPatternsOrdered_L5 k) a n m i l r some)
  unfold c_slices_breakPatternsOrdered_L5
  simp only [Option.bind_fun_some, List.length_set]
  rw [tq (by omega)]
  obtain ⟨q, hq, hq1, hq2⟩ : ∃ q, n / 4 = q ∧ 0 ≤ q ∧ 4 * q ≤ n := ⟨_, rfl, by omega, by omega⟩
  rw [hq]
  rw [wrap_id (n := q) (by omega) (by omega)]
  rw [wrap_id (n := q * 2) (by omega) (by omega)]
  rw [wrap_id (n := a + q * 2) (by omega) (by omega)]
  rw [wrap_id (n := a + q * 2 + 1) (by omega) (by omega)]
  (repeat' first | refine Tt.ite (by omega) ?_ | refine Tt.ndec (fun _ => ?_) fun _ => ?_ | refine Tt.dec (fun _ => ?_) fun _ => ?_ | refine Tt.cnd (fun _ => ?_) fun _ => ?_)
  · refine Tt.bind (Tt.con (xor_tot _)) (fun v _ => ?_)
    have ho := and_lt (r := v.1) (m := m) (by omega) (by omega)
    generalize IntKind.i64.wrap (IntKind.u64.wrap (((BitVec.ofInt IntKind.u64.bits v.1 &&& BitVec.ofInt IntKind.u64.bits (IntKind.u64.wrap (m - 1))).toNat : Nat) : Int)) = o at ho ⊢
    simp only [wq]
    (repeat' first | refine Tt.ite (by omega) ?_ | refine Tt.ndec (fun _ => ?_) fun _ => ?_ | refine Tt.dec (fun _ => ?_) fun _ => ?_ | refine Tt.cnd (fun _ => ?_) fun _ => ?_)
    all_goals exact (ih' _ _ _ (by simp only [List.length_set]; omega) (by omega)).mono (fun _ h => h) (fun _ h => by simpa only [List.length_set] using h)
  · exact Tt.pure rfl

theorem bp_tot (l : List D) (a b : Int) (h : 0 ≤ a ∧ a < b ∧ b ≤ l.length ∧ l.length ≤ 1048576) : ∃ y, slices_breakPatternsOrdered l a b = some y ∧ y.length = l.length := by
  refine Tt.out ?_
  unfold slices_breakPatternsOrdered c_slices_breakPatternsOrdered
  rw [wrap_id (n := b - a) (by omega) (by omega), tq (by omega)]
  obtain ⟨q, hq, hq1, hq2, hq3⟩ : ∃ q, (b - a) / 4 = q ∧ 0 ≤ q ∧ 4 * q ≤ b - a ∧ b - a < 4 * q + 4 := ⟨_, rfl, by omega, by omega, by omega⟩
  rw [hq]
  rw [wrap_id (n := q) (by omega) (by omega), wrap_id (n := q * 2) (by omega) (by omega), wrap_id (n := a + q * 2) (by omega) (by omega), wrap_id (n := a + q * 2 - 1) (by omega) (by omega)]
  (repeat' first | refine Tt.ite (by omega) ?_ | refine Tt.ndec (fun _ => ?_) fun _ => ?_ | refine Tt.dec (fun _ => ?_) fun _ => ?_ | refine Tt.cnd (fun _ => ?_) fun _ => ?_)
  · refine Tt.bind (Tt.con (pow2_tot _ (by omega) (by omega))) (fun v hv => ?_)
    (repeat' first | refine Tt.ite (by omega) ?_ | refine Tt.ndec (fun _ => ?_) fun _ => ?_ | refine Tt.dec (fun _ => ?_) fun _ => ?_ | refine Tt.cnd (fun _ => ?_) fun _ => ?_)
    simp only [Option.bind_fun_some]
    exact Tt.con (bp5_tot _ _ _ _ _ _ (by omega))
  · exact Tt.pure rfl

attribute [local irreducible] slices_breakPatternsOrdered

def pdGood (l : List D) (a b : Int) (y : List D) : Prop := y.length = l.length ∧ (b - a ≤ 12 → slices_insertionSortOrdered l a b = some y)

set_option maxHeartbeats 0 in
theorem pdq_in (w : Nat) (ihG : ∀ (l : List D) (a b lim : Int), (0 ≤ a ∧ a ≤ b ∧ b ≤ l.length ∧ l.length ≤ 1048576) → (b - a).toNat < w → Tt (fun m => w ≤ m) (fun y => y.length = l.length) (fun m => n_slices_pdqsortOrdered m l a b lim)) :
    ∀ v, v ≤ w → ∀ (a b lim : Int) (s t : Bool) (l : List D), (0 ≤ a ∧ a ≤ b ∧ b ≤ l.length ∧ l.length ≤ 1048576) → (b - a).toNat ≤ v →
      Tt (fun i : Nat × Nat => w ≤ i.1 ∧ v < i.2) (pdGood l a b) (fun i => n_slices_pdqsortOrdered_L2 (n_slices_pdqsortOrdered i.1) i.2 a b lim s t l) := by
  intro v
  induction v with
  | zero => 
    intro hv a b lim s t l h hw
    have : Tt (fun i : Nat × Nat => w ≤ i.1 ∧ 0 ≤ i.2) (pdGood l a b) (fun i => c_slices_pdqsortOrdered_L2 (n_slices_pdqsortOrdered i.1) (n_slices_pdqsortOrdered_L2 (n_slices_pdqsortOrdered i.1) i.2) a b lim s t l some) := by
      unfold c_slices_pdqsortOrdered_L2
      rw [wrap_id (n := b - a) (by omega) (by omega), decide_eq_true (show b - a ≤ 12 by omega)]
      simp only [cond_true, Option.bind_fun_some]
      obtain ⟨y, h1, h2⟩ := ins_tot l a b h
      exact Tt.con ⟨y, h1, h2, fun _ => h1⟩
    obtain ⟨y, h1, h2⟩ := this
    refine ⟨y, h1, ?_⟩
    rintro ⟨m, j⟩ hi
    simp only at hi
    obtain ⟨j, rfl⟩ : ∃ j', j = j' + 1 := ⟨j - 1, by omega⟩
    exact h2 (m, j) ⟨hi.1, by simp only; omega⟩
  | succ v ih =>
    intro hv a b lim s t l h hw
    have ihG' : ∀ (l : List D) (a b lim : Int), (0 ≤ a ∧ a ≤ b ∧ b ≤ l.length ∧ l.length ≤ 1048576) → (b - a).toNat < w → Tt (fun i : Nat × Nat => w ≤ i.1 ∧ v + 1 ≤ i.2) (fun y => y.length = l.length) (fun i => n_slices_pdqsortOrdered i.1 l a b lim) := by
      intro l a b lim q1 q2
      obtain ⟨y, h1, h2⟩ := ihG l a b lim q1 q2
      exact ⟨y, h1, fun i hi => h2 i.1 hi.1⟩
    have ihF : ∀ (a b lim : Int) (s t : Bool) (l : List D), (0 ≤ a ∧ a ≤ b ∧ b ≤ l.length ∧ l.length ≤ 1048576) → (b - a).toNat ≤ v →
      Tt (fun i : Nat × Nat => w ≤ i.1 ∧ v + 1 ≤ i.2) (fun y => y.length = l.length) (fun i => n_slices_pdqsortOrdered_L2 (n_slices_pdqsortOrdered i.1) i.2 a b lim s t l) :=
      fun a b lim s t l q1 q2 => (ih (by omega) a b lim s t l q1 q2).mono (fun i hi => ⟨hi.1, by omega⟩) (fun y hy => hy.1)
    clear ih ihG
    have : Tt (fun i : Nat × Nat => w ≤ i.1 ∧ v + 1 ≤ i.2) (pdGood l a b) (fun i => c_slices_pdqsortOrdered_L2 (n_slices_pdqsortOrdered i.1) (n_slices_pdqsortOrdered_L2 (n_slices_pdqsortOrdered i.1) i.2) a b lim s t l some) := by
      by_cases h12 : b - a ≤ 12
      · unfold c_slices_pdqsortOrdered_L2
        rw [wrap_id (n := b - a) (by omega) (by omega), decide_eq_true h12]
        simp only [cond_true, Option.bind_fun_some]
        obtain ⟨y, h1, h2⟩ := ins_tot l a b h
        exact Tt.con ⟨y, h1, h2, fun _ => h1⟩
      · have : Tt (fun i : Nat × Nat => w ≤ i.1 ∧ v + 1 ≤ i.2) (fun y => y.length = l.length) (fun i => c_slices_pdqsortOrdered_L2 (n_slices_pdqsortOrdered i.1) (n_slices_pdqsortOrdered_L2 (n_slices_pdqsortOrdered i.1) i.2) a b lim s t l some) := by
          unfold c_slices_pdqsortOrdered_L2
          rw [wrap_id (n := b - a) (by omega) (by omega), decide_eq_false h12]
          simp only [cond_false, Option.bind_fun_some, less_eq, Option.bind_some, wq]
          repeat' first
            | (first | refine Tt.ite (by omega) ?_ | refine Tt.ndec (fun _ => ?_) fun _ => ?_ | refine Tt.dec (fun _ => ?_) fun _ => ?_ | refine Tt.cnd (fun _ => ?_) fun _ => ?_)
            | refine Tt.bind (Tt.con (bp_tot _ _ _ (by omega))) (fun _ _ => ?_)
            | refine Tt.bind (Tt.con (choose_tot _ _ _ (by omega))) (fun _ _ => ?_)
            | refine Tt.bind (Tt.con (rev_tot _ _ _ (by omega))) (fun _ _ => ?_)
            | refine Tt.bind (Tt.con (pin_tot _ _ _ (by omega))) (fun _ _ => ?_)
            | refine Tt.bind (Tt.con (peq_tot _ _ _ _ (by omega))) (fun _ _ => ?_)
            | refine Tt.bind (Tt.con (par_tot _ _ _ _ (by omega))) (fun _ _ => ?_)
            | refine Tt.bind (ihG' _ _ _ _ (by omega) (by omega)) (fun _ _ => ?_)
            | exact (Tt.con (heap_tot _ _ _ (by omega)))
            | exact (ihF _ _ _ _ _ _ (by omega) (by omega)).mono (fun _ h => h) (fun _ h => by omega)
            | exact Tt.pure (by omega)
        exact this.mono (fun _ h => h) (fun y hy => ⟨hy, fun q => absurd q h12⟩)
    obtain ⟨y, h1, h2⟩ := this
    refine ⟨y, h1, ?_⟩
    rintro ⟨m, j⟩ hi
    simp only at hi
    obtain ⟨j, rfl⟩ : ∃ j', j = j' + 1 := ⟨j - 1, by omega⟩
    exact h2 (m, j) ⟨hi.1, by simp only; omega⟩

theorem pdq_key : ∀ (w : Nat) (l : List D) (a b lim : Int), (0 ≤ a ∧ a ≤ b ∧ b ≤ l.length ∧ l.length ≤ 1048576) → (b - a).toNat ≤ w → Tt (fun m => w < m) (pdGood l a b) (fun m => n_slices_pdqsortOrdered m l a b lim) := by
  intro w
  induction w with
  | zero =>
    intro l a b lim h hw
    obtain ⟨y, h1, h2⟩ := pdq_in 0 (fun _ _ _ _ _ h => absurd h (by omega)) 0 (Nat.le_refl _) a b lim Bool.true Bool.true l h hw
    refine ⟨y, h1, fun m hm => ?_⟩
    obtain ⟨m, rfl⟩ : ∃ m', m = m' + 1 := ⟨m - 1, by omega⟩
    show (ev (fun n => n_slices_pdqsortOrdered_L2 (n_slices_pdqsortOrdered m) n a b lim Bool.true Bool.true l)).bind _ = _
    rw [ev_eq 1 (fun j hj => h2 (m, j) ⟨by simp only; omega, by simp only; omega⟩)]
    rfl
  | succ w ih =>
    intro l a b lim h hw
    obtain ⟨y, h1, h2⟩ := pdq_in (w + 1) (fun l a b lim q1 q2 => (ih l a b lim q1 (by omega)).mono (fun m hm => by omega) (fun y hy => hy.1)) (w + 1) (Nat.le_refl _) a b lim Bool.true Bool.true l h hw
    refine ⟨y, h1, fun m hm => ?_⟩
    obtain ⟨m, rfl⟩ : ∃ m', m = m' + 1 := ⟨m - 1, by omega⟩
    show (ev (fun n => n_slices_pdqsortOrdered_L2 (n_slices_pdqsortOrdered m) n a b lim Bool.true Bool.true l)).bind _ = _
    rw [ev_eq (w + 2) (fun j hj => h2 (m, j) ⟨by simp only; omega, by simp only; omega⟩)]
    rfl

theorem sort_tot (l : List D) (h : l.length ≤ 1048576) : ∃ y, slices_Sort l = some y ∧ pdGood l 0 l.length y := by
  refine Tt.out ?_
  unfold slices_Sort c_slices_Sort
  rw [show IntKind.u64.wrap ((l.length : Nat) : Int) = (l.length : Int) by rw [uq]; omega]
  refine Tt.bind (Tt.con (len_tot _ (by omega) (by omega))) (fun v hv => ?_)
  simp only [Option.bind_fun_some]
  obtain ⟨y, h1, h2⟩ := pdq_key ((l.length : Int) - 0).toNat l 0 l.length v (by omega) (Nat.le_refl _)
  exact Tt.con ⟨y, ev_eq (((l.length : Int) - 0).toNat + 1) (fun m hm => h2 m (by omega)), h1⟩

def St (l : List Int) : Prop := l.Pairwise (· ≤ ·)
def iD (l : List Int) : List D := l.map D.int
theorem iD_len (l : List Int) : (iD l).length = l.length := by simp [iD]
theorem iD_get (l : List Int) (i : Nat) : ((iD l).getD i (.int 0)).toInt = l.getD i 0 := by
  simp only [iD, List.getD_eq_getElem?_getD, List.getElem?_map]
  cases l[i]? <;> rfl
theorem iD_set (l : List Int) (i : Nat) (v : Int) : (iD l).set i (D.int v) = iD (l.set i v) := by
  simp [iD, List.map_set]
theorem iD_of {l : List D} (h : ∀ d ∈ l, ∃ k, d = D.int k) : l = iD (l.map D.toInt) := by
  induction l with
  | nil => rfl
  | cons d l ih =>
    obtain ⟨k, rfl⟩ := h d (by simp)
    have := ih (fun d hd => h d (by simp [hd]))
    simp only [iD, List.map_cons] at this ⊢
    rw [← this]; rfl

theorem ins4_spec : ∀ (n : Nat) (A B R : List Int) (v b i : Int), A.length = n → n ≤ 1048576 → St (A ++ B) → (∀ x ∈ B, v ≤ x) →
    ∃ C, St C ∧ C.Perm (A ++ v :: B) ∧ ∀ m, n < m → n_slices_insertionSortOrdered_L4 m 0 b i (n : Int) (iD (A ++ v :: (B ++ R))) = some (0, b, i, iD (C ++ R)) := by
  intro n
  induction n with
  | zero =>
    intro A B R v b i hA hn hS hB
    obtain rfl := List.eq_nil_of_length_eq_zero hA
    refine ⟨v :: B, List.pairwise_cons.2 ⟨hB, hS⟩, List.Perm.refl _, fun m hm => ?_⟩
    obtain ⟨m, rfl⟩ : ∃ m', m = m' + 1 := ⟨m - 1, by omega⟩
    show c_slices_insertionSortOrdered_L4 _ _ _ _ _ _ _ = _
    unfold c_slices_insertionSortOrdered_L4
    rw [decide_eq_false (by omega)]
    rfl
  | succ n ih =>
    intro A B R v b i hA hn hS hB
    obtain ⟨A', u, rfl⟩ : ∃ A' u, A = A' ++ [u] := by
      refine ⟨A.dropLast, A.getLast (by rintro rfl; simp at hA), (List.dropLast_concat_getLast _).symm⟩
    have hA' : A'.length = n := by simpa using hA
    have g1 : ((A' ++ [u]) ++ v :: (B ++ R)).getD (n + 1) 0 = v := by
      rw [List.getD_eq_getElem?_getD, List.getElem?_append_right (by simp; omega)]
      simp [hA']
    have g0 : ((A' ++ [u]) ++ v :: (B ++ R)).getD n 0 = u := by
      rw [List.getD_eq_getElem?_getD, List.getElem?_append_left (by simp; omega), List.getElem?_append_right (by omega)]
      simp [hA']
    have hlen : (iD ((A' ++ [u]) ++ v :: (B ++ R))).length = n + 2 + (B ++ R).length := by
      rw [iD_len]; simp; omega
    have hset : ((iD ((A' ++ [u]) ++ v :: (B ++ R))).set (n + 1) (D.int u)).set n (D.int v) = iD (A' ++ v :: (u :: B ++ R)) := by
      rw [iD_set, iD_set]
      congr 1
      rw [List.append_assoc, List.set_append_right _ _ (by omega), List.set_append_right _ _ (by omega), hA', show n + 1 - n = 1 by omega, show n - n = 0 by omega]
      rfl
    have hw : IntKind.i64.wrap (((n + 1 : Nat) : Int) - 1) = (n : Int) := by rw [wrap_id (by omega) (by omega)]; omega
    have step : ∀ m, n_slices_insertionSortOrdered_L4 (m + 1) 0 b i ((n + 1 : Nat) : Int) (iD ((A' ++ [u]) ++ v :: (B ++ R))) =
        bif decide (v < u) then n_slices_insertionSortOrdered_L4 m 0 b i (n : Int) (iD (A' ++ v :: (u :: B ++ R))) else some (0, b, i, iD ((A' ++ [u]) ++ v :: (B ++ R))) := by
      intro m
      show c_slices_insertionSortOrdered_L4 _ _ _ _ _ _ _ = _
      unfold c_slices_insertionSortOrdered_L4
      simp only [less_eq, Option.bind_some, Option.bind_fun_some, hw, List.length_set, hlen, iD_get, Int.toNat_natCast, g0, g1, hset]
      rw [decide_eq_true (show (0 : Int) < ((n + 1 : Nat) : Int) by omega)]
      rw [if_pos (by omega), if_pos (by omega), if_pos (by omega), if_pos (by omega)]
      simp only [cond_true]
      rw [if_pos (by omega), if_pos (by omega), if_pos (by omega), if_pos (by omega), if_pos (by omega), if_pos (by omega), if_pos (by omega), if_pos (by omega)]
    by_cases hvu : v < u
    · obtain ⟨C, h1, h2, h3⟩ := ih A' (u :: B) R v b i hA' (by omega) (by simpa using hS) (by
        intro x hx
        rcases List.mem_cons.1 hx with rfl | hx
        · omega
        · exact hB x hx)
      refine ⟨C, h1, h2.trans ?_, fun m hm => ?_⟩
      · rw [List.append_assoc]
        exact List.Perm.append_left _ (List.Perm.swap _ _ _)
      · obtain ⟨m, rfl⟩ : ∃ m', m = m' + 1 := ⟨m - 1, by omega⟩
        rw [step, decide_eq_true hvu, cond_true]
        exact h3 m (by omega)
    · refine ⟨(A' ++ [u]) ++ v :: B, ?_, List.Perm.refl _, fun m hm => ?_⟩
      · have q := List.pairwise_append.1 hS
        have q1 := List.pairwise_append.1 q.1
        refine List.pairwise_append.2 ⟨q.1, List.pairwise_cons.2 ⟨hB, q.2.1⟩, fun x hx y hy => ?_⟩
        have hxu : x ≤ u := by
          rcases List.mem_append.1 hx with hx | hx
          · exact q1.2.2 x hx u (by simp)
          · simp at hx; omega
        rcases List.mem_cons.1 hy with rfl | hy
        · omega
        · exact q.2.2 x hx y hy
      · obtain ⟨m, rfl⟩ : ∃ m', m = m' + 1 := ⟨m - 1, by omega⟩
        rw [step, decide_eq_false hvu, cond_false]
        simp

theorem ins1_spec : ∀ (k : Nat) (P R : List Int) (b : Int), R.length = k → (b : Int) = ((P ++ R).length : Int) → (P ++ R).length ≤ 1048576 → St P →
    ∃ C, St C ∧ C.Perm (P ++ R) ∧ ∀ m, k < m → n_slices_insertionSortOrdered_L1 m 0 b (P.length : Int) (iD (P ++ R)) = some (iD C) := by
  intro k
  induction k with
  | zero =>
    intro P R b hR hb hl hS
    obtain rfl := List.eq_nil_of_length_eq_zero hR
    refine ⟨P, hS, by simp, fun m hm => ?_⟩
    obtain ⟨m, rfl⟩ : ∃ m', m = m' + 1 := ⟨m - 1, by omega⟩
    show c_slices_insertionSortOrdered_L1 _ _ _ _ _ _ = _
    unfold c_slices_insertionSortOrdered_L1
    rw [decide_eq_false (by rw [hb]; simp)]
    simp
  | succ k ih =>
    intro P R b hR hb hl hS
    obtain ⟨v, R, rfl⟩ : ∃ v R', R = v :: R' := by
      cases R with
      | nil => simp at hR
      | cons v R => exact ⟨v, R, rfl⟩
    have hl' : P.length + (R.length + 1) ≤ 1048576 := by simpa using hl
    have hb' : b = ((P.length + (R.length + 1) : Nat) : Int) := by simpa using hb
    obtain ⟨C, h1, h2, h3⟩ := ins4_spec P.length P [] R v b (P.length : Int) rfl (by omega) (by simpa using hS) (by simp)
    have hC : C.length = P.length + 1 := by have := h2.length_eq; simpa using this
    obtain ⟨E, q1, q2, q3⟩ := ih C R b (by simpa using hR) (by rw [List.length_append, hC, hb']; omega) (by rw [List.length_append, hC]; omega) h1
    refine ⟨E, q1, q2.trans ?_, fun m hm => ?_⟩
    · have := List.Perm.append_right R h2
      simpa using this
    · obtain ⟨m, rfl⟩ : ∃ m', m = m' + 1 := ⟨m - 1, by omega⟩
      show c_slices_insertionSortOrdered_L1 _ _ _ _ _ _ = _
      unfold c_slices_insertionSortOrdered_L1
      rw [decide_eq_true (by omega), cond_true]
      have : slices_insertionSortOrdered_L4 0 b (P.length : Int) (P.length : Int) (iD (P ++ v :: R)) = some (0, b, (P.length : Int), iD (C ++ R)) := ev_eq (P.length + 1) (fun m hm => by simpa using h3 m (by omega))
      rw [this]
      simp only [Option.bind_some, Option.bind_fun_some]
      rw [succ_wrap (by omega)]
      rw [hC] at q3
      exact q3 m (by omega)

theorem ins_spec (xs : List Int) (hl : xs.length ≤ 1048576) : ∃ C, St C ∧ C.Perm xs ∧ slices_insertionSortOrdered (iD xs) 0 (xs.length : Int) = some (iD C) := by
  have w1 : IntKind.i64.wrap (0 + 1) = 1 := by decide
  cases xs with
  | nil =>
    refine ⟨[], List.Pairwise.nil, List.Perm.refl _, ?_⟩
    have : slices_insertionSortOrdered_L1 0 0 1 [] = some [] := ev_eq 1 (fun m hm => by
      obtain ⟨m, rfl⟩ : ∃ m', m = m' + 1 := ⟨m - 1, by omega⟩
      rfl)
    simp only [slices_insertionSortOrdered, c_slices_insertionSortOrdered, w1]
    show (slices_insertionSortOrdered_L1 0 0 1 []).bind _ = _
    rw [this]; rfl
  | cons x xs =>
    obtain ⟨C, h1, h2, h3⟩ := ins1_spec xs.length [x] xs ((x :: xs).length : Int) rfl rfl hl (List.pairwise_singleton _ _)
    refine ⟨C, h1, h2, ?_⟩
    have : slices_insertionSortOrdered_L1 0 ((x :: xs).length : Int) 1 (iD (x :: xs)) = some (iD C) := ev_eq (xs.length + 1) (fun m hm => h3 m (by omega))
    simp only [slices_insertionSortOrdered, c_slices_insertionSortOrdered, w1, this, Option.bind_some]

theorem sort_spec (xs : List Int) (hl : xs.length ≤ 1048576) : ∃ y, slices_Sort (iD xs) = some y ∧ y.length = xs.length ∧ (xs.length ≤ 12 → ∃ C, St C ∧ C.Perm xs ∧ y = iD C) := by
  obtain ⟨y, h1, h2, h3⟩ := sort_tot (iD xs) (by rw [iD_len]; exact hl)
  rw [iD_len] at h2 h3
  refine ⟨y, h1, h2, fun h12 => ?_⟩
  obtain ⟨C, q1, q2, q3⟩ := ins_spec xs hl
  have := h3 (by omega)
  rw [q3] at this
  exact ⟨C, q1, q2, (Option.some.inj this).symm⟩

theorem clone_eq (l : List D) (hl : l.length ≤ 1048576) : slices_Clone l = some l := by
  simp only [slices_Clone, c_slices_Clone]
  by_cases h : 1 ≤ l.length
  · rw [if_pos h, if_pos (by simp; omega)]; simp
  · obtain rfl : l = [] := List.eq_nil_of_length_eq_zero (by omega)
    rw [if_neg h, if_pos (by simp)]
    unfold bothK
    simp

theorem wf_ints {l : List D} (w : ∀ d ∈ l, wfD (.int .i64) d) : ∀ d ∈ l, ∃ k, d = D.int k := by
  intro d hd
  obtain ⟨k, h, _⟩ := w d hd
  exact ⟨k, h⟩

def hasP (l : List D) (v : Int) (j : Nat) : Bool := decide ((l.getD j (.int 0)).toInt = v)
theorem l1Has_eq (l : List D) (v : Int) (hl : l.length ≤ 1048576) : spec_l1Has l v = some ((firstN (hasP l v) l.length).isSome) := by
  have key : spec_l1Has_L2 l v 0 = some (match firstN (hasP l v) l.length with | some i => .inl true | none => .inr ()) := by
    refine scan_loop (N := fun m i => n_spec_l1Has_L2 m l v i) (hasP l v) (fun _ => .inl true) (fun m i hi => ?_) (fun m => ?_)
    · show c_spec_l1Has_L2 (n_spec_l1Has_L2 m) l v i some = _
      unfold c_spec_l1Has_L2
      rw [decide_eq_true (show (i : Int) < (l.length : Int) by omega), cond_true, if_pos (by omega), wrap_id (by omega) (by omega)]
      simp only [Option.bind_fun_some, Int.toNat_natCast]
      rfl
    · show c_spec_l1Has_L2 (n_spec_l1Has_L2 m) l v l.length some = _
      unfold c_spec_l1Has_L2
      rw [decide_eq_false (by omega)]; rfl
  simp only [spec_l1Has, c_spec_l1Has, key, Option.bind_some]
  cases firstN (hasP l v) l.length <;> rfl

def badP (n : Int) (o : List D) (i : Nat) : Bool := !btw (o.getD i (.int 0)).toInt 0 (n - 1) || (firstN (hasP (o.take i) (o.getD i (.int 0)).toInt) (o.take i).length).isSome

theorem l16Order_L2_eq (l o : List D) (hl : l.length ≤ 1048576) (ho : o.length ≤ 1048576) :
    spec_l16Order_L2 o 0 l = some (match firstN (badP l.length o) o.length with | some _ => .inl (o, false, l) | none => .inr (o, l)) := by
  have hw : IntKind.i64.wrap ((l.length : Int) - 1) = (l.length : Int) - 1 := wrap_id (by omega) (by omega)
  refine scan_loop (N := fun m i => n_spec_l16Order_L2 m o i l) (badP l.length o) (fun _ => .inl (o, false, l)) (fun m i hi => ?_) (fun m => ?_)
  · show c_spec_l16Order_L2 (n_spec_l16Order_L2 m) o i l some = _
    unfold c_spec_l16Order_L2
    rw [decide_eq_true (show (i : Int) < (o.length : Int) by omega), cond_true, if_pos (by omega), hw, wrap_id (n := (i : Int) + 1) (by omega) (by omega)]
    simp only [l1In_eq, Option.bind_some, Option.bind_fun_some, Int.toNat_natCast, Int.sub_zero, Int.toNat_zero, List.drop_zero, Nat.sub_zero]
    unfold badP
    cases btw (o.getD i (.int 0)).toInt 0 ((l.length : Int) - 1) with
    | false => rfl
    | true =>
      simp only [Bool.not_true, cond_false, Bool.false_or]
      rw [if_pos (by omega), if_pos (by omega), l1Has_eq _ _ (by rw [List.length_take]; omega), Option.bind_some]
  · show c_spec_l16Order_L2 (n_spec_l16Order_L2 m) o o.length l some = _
    unfold c_spec_l16Order_L2
    rw [decide_eq_false (by omega)]; rfl

def okO (n : Nat) (o : List D) : Bool := (firstN (badP n o) o.length).isNone

theorem firstN_isNone {p : Nat → Bool} {n : Nat} : (firstN p n).isNone = true ↔ ∀ j, j < n → p j = false := by
  constructor
  · intro h
    cases hf : firstN p n with
    | none => exact firstN_none hf
    | some i => rw [hf] at h; cases h
  · intro h
    cases hf : firstN p n with
    | none => rfl
    | some i =>
      obtain ⟨h1, h2, _⟩ := firstN_some hf
      rw [h i h1] at h2; cases h2

theorem okO_iff (n : Nat) (xs : List Int) : okO n (iD xs) = true ↔ (∀ x ∈ xs, 0 ≤ x ∧ x < n) ∧ xs.Nodup := by
  unfold okO
  rw [firstN_isNone, iD_len]
  have hb : ∀ j, j < xs.length → (badP n (iD xs) j = false ↔ (0 ≤ xs.getD j 0 ∧ xs.getD j 0 < n) ∧ ∀ i, i < j → xs.getD i 0 ≠ xs.getD j 0) := by
    intro j hj
    unfold badP
    rw [iD_get, Bool.or_eq_false_iff, Bool.not_eq_false', btw_iff]
    have hh : (firstN (hasP ((iD xs).take j) (xs.getD j 0)) ((iD xs).take j).length).isSome = false ↔ ∀ i, i < j → xs.getD i 0 ≠ xs.getD j 0 := by
      rw [Option.isSome_eq_false_iff, firstN_isNone, List.length_take, iD_len]
      constructor
      · intro h i hi e
        have := h i (by omega)
        unfold hasP at this
        rw [List.getD_eq_getElem?_getD, List.getElem?_take_of_lt hi, ← List.getD_eq_getElem?_getD, iD_get] at this
        simp only [decide_eq_false_iff_not] at this
        exact this e
      · intro h i hi
        unfold hasP
        rw [List.getD_eq_getElem?_getD, List.getElem?_take_of_lt (by omega), ← List.getD_eq_getElem?_getD, iD_get]
        exact decide_eq_false (h i (by omega))
    rw [hh]
    constructor
    · rintro ⟨h1, h2⟩; exact ⟨by omega, h2⟩
    · rintro ⟨h1, h2⟩; exact ⟨by omega, h2⟩
  have hg : ∀ j (hj : j < xs.length), xs.getD j 0 = xs[j] := fun j hj => by rw [List.getD_eq_getElem?_getD, List.getElem?_eq_getElem hj]; rfl
  constructor
  · intro h
    refine ⟨fun x hx => ?_, ?_⟩
    · obtain ⟨j, hj, rfl⟩ := List.mem_iff_getElem.1 hx
      have := ((hb j hj).1 (h j hj)).1
      rw [hg j hj] at this; exact this
    · unfold List.Nodup
      rw [List.pairwise_iff_getElem]
      intro i j hi hj hij
      have := ((hb j hj).1 (h j hj)).2 i hij
      rw [hg i hi, hg j hj] at this; exact this
  · rintro ⟨h1, h2⟩ j hj
    rw [hb j hj, hg j hj]
    refine ⟨h1 _ (List.getElem_mem hj), fun i hi => ?_⟩
    rw [hg i (by omega)]
    unfold List.Nodup at h2
    rw [List.pairwise_iff_getElem] at h2
    exact h2 i j (by omega) hj hi

theorem upto_of : ∀ (xs : List Int) (k : Int), xs.Pairwise (· < ·) → (∀ x ∈ xs, k ≤ x ∧ x < k + xs.length) → ∀ i, i < xs.length → xs.getD i 0 = k + i
  | [], _, _, _, i, hi => by simp at hi
  | x :: xs, k, hp, hr, i, hi => by
    rw [List.pairwise_cons] at hp
    have hx := hr x (by simp)
    have hr' : ∀ y ∈ xs, k + 1 ≤ y ∧ y < k + 1 + xs.length := fun y hy => by
      have h1 := hp.1 y hy
      have h2 := hr y (by simp [hy])
      simp only [List.length_cons] at h2
      omega
    have ih := upto_of xs (k + 1) hp.2 hr'
    cases i with
    | zero =>
      show x = k + _
      cases xs with
      | nil => simp at hx; simp; omega
      | cons y ys =>
        have h1 := ih 0 (by simp)
        have h2 := hp.1 y (by simp)
        simp at h1 ⊢
        omega
    | succ i =>
      have := ih i (by simpa using hi)
      simp only [List.getD_cons_succ]
      rw [this]; omega

theorem sorted_upto {xs C : List Int} (hS : St C) (hp : C.Perm xs) : (∀ i, i < C.length → C.getD i 0 = (i : Int)) ↔ ((∀ x ∈ xs, 0 ≤ x ∧ x < xs.length) ∧ xs.Nodup) := by
  have hg : ∀ j (hj : j < C.length), C.getD j 0 = C[j] := fun j hj => by rw [List.getD_eq_getElem?_getD, List.getElem?_eq_getElem hj]; rfl
  constructor
  · intro h
    refine ⟨fun x hx => ?_, ?_⟩
    · have hx' := hp.mem_iff.2 hx
      obtain ⟨j, hj, rfl⟩ := List.mem_iff_getElem.1 hx'
      have := h j hj
      rw [hg j hj] at this
      rw [this, ← hp.length_eq]
      omega
    · refine hp.nodup_iff.1 ?_
      unfold List.Nodup
      rw [List.pairwise_iff_getElem]
      intro i j hi hj hij
      have h1 := h i hi
      have h2 := h j hj
      rw [hg i hi] at h1
      rw [hg j hj] at h2
      rw [h1, h2]; omega
  · rintro ⟨h1, h2⟩
    have hlt : C.Pairwise (· < ·) := by
      have := List.Pairwise.and hS (hp.nodup_iff.2 h2)
      exact this.imp (fun {a b} h => by have := h.1; have := h.2; omega)
    intro i hi
    have := upto_of C 0 hlt (fun x hx => by have := h1 x (hp.mem_iff.1 hx); rw [hp.length_eq]; omega) i hi
    rw [this]; omega

def notAt (y : List D) (i : Nat) : Bool := !decide ((i : Int) = (y.getD i (.int 0)).toInt)
theorem isOrder_L4_eq (o y : List D) (n : Int) (hy : y.length ≤ 1048576) : impl_isOrder_L4 o n y.length 0 y = some (match firstN (notAt y) y.length with | some _ => .inl (o, n, false) | none => .inr (o, n)) := by
  refine scan_loop (N := fun m i => n_impl_isOrder_L4 m o n y.length i y) (notAt y) (fun _ => .inl (o, n, false)) (fun m i hi => ?_) (fun m => ?_)
  · show c_impl_isOrder_L4 (n_impl_isOrder_L4 m) o n y.length i y some = _
    unfold c_impl_isOrder_L4
    rw [decide_eq_true (show (i : Int) < (y.length : Int) by omega), cond_true, if_pos (by omega), if_pos (by omega), wrap_id (by omega) (by omega)]
    simp only [Option.bind_fun_some, Int.toNat_natCast]
    rfl
  · show c_impl_isOrder_L4 (n_impl_isOrder_L4 m) o n y.length y.length y some = _
    unfold c_impl_isOrder_L4
    rw [decide_eq_false (by omega)]; rfl

theorem isOrder_eq (xs : List Int) (n : Nat) (hl : xs.length ≤ 1048576) (hn : n ≤ 12) : impl_isOrder (iD xs) n = some (okO n (iD xs) && decide (xs.length = n)) := by
  obtain ⟨y, h1, h2, h3⟩ := sort_spec xs hl
  simp only [impl_isOrder, c_impl_isOrder, clone_eq (iD xs) (by rw [iD_len]; exact hl), Option.bind_some, h1, isOrder_L4_eq (iD xs) y n (by omega)]
  by_cases hq : xs.length = n
  · obtain ⟨C, q1, q2, rfl⟩ := h3 (by omega)
    have hu := sorted_upto q1 q2
    rw [hq, ← okO_iff] at hu
    have hL : (iD C).length = C.length := iD_len C
    cases hf : firstN (notAt (iD C)) (iD C).length with
    | none =>
      have : okO n (iD xs) = true := hu.1 (fun i hi => by
        have := firstN_none hf i (by omega)
        unfold notAt at this
        rw [iD_get] at this
        simp at this
        simp [this])
      simp [this, hq, iD_len]
    | some i =>
      obtain ⟨r1, r2, _⟩ := firstN_some hf
      have : okO n (iD xs) = false := by
        cases ho : okO n (iD xs) with
        | false => rfl
        | true =>
          have := hu.2 ho i (by omega)
          unfold notAt at r2
          rw [iD_get, this] at r2
          simp at r2
      simp [this]
  · rw [decide_eq_false hq, Bool.and_false]
    cases firstN (notAt y) y.length with
    | some i => rfl
    | none =>
      simp only [Sum.elim_inr, iD_len]
      rw [decide_eq_false (by omega)]

theorem order_same (l o : List D) (hl : l.length ≤ 1048576) (ho : o.length ≤ 1048576) (hi : ∀ d ∈ o, ∃ k, d = D.int k) :
    ∃ b, spec_l16Order l o = some b ∧ impl_areTableOrder l o = some b ∧ (b = true → GoodT l ∧ o.length = l.length ∧ (∀ d ∈ o, 0 ≤ d.toInt ∧ d.toInt < l.length) ∧ (o.map D.toInt).Nodup) := by
  obtain ⟨v, g1, g2, g3⟩ := table_good l
  have hx := iD_of hi
  simp only [spec_l16Order, c_spec_l16Order, impl_areTableOrder, c_impl_areTableOrder, l16Order_L2_eq l o hl ho, g1, g2, Option.bind_some, Option.bind_fun_some]
  have hk : okO l.length o = (firstN (badP l.length o) o.length).isNone := rfl
  cases v with
  | false =>
    refine ⟨false, ?_, rfl, fun h => by cases h⟩
    cases firstN (badP l.length o) o.length <;> simp [g1]
  | true =>
    have hg := g3 rfl
    have hn7 := hg.n7
    have := isOrder_eq (o.map D.toInt) l.length (by simpa using ho) (by omega)
    rw [← hx] at this
    refine ⟨_, ?_, this, fun h => ?_⟩
    · rw [hk]
      cases firstN (badP l.length o) o.length with
      | some i => rfl
      | none =>
        simp [g1]
        omega
    · simp only [Bool.and_eq_true, decide_eq_true_eq, List.length_map] at h
      have h1 := h.1
      rw [hx, okO_iff] at h1
      refine ⟨hg, h.2, fun d hd => ?_, h1.2⟩
      exact h1.1 _ (List.mem_map_of_mem hd)

/-- what a loop that numbers the cells leaves -/
def markd (cell : Int → D) (c : Int) (n : Nat) : List D := (List.range n).map (fun (i : Nat) => cell (1 + c * (i : Int)))

theorem markd_len {cell : Int → D} {c : Int} {n : Nat} : (markd cell c n).length = n := by simp [markd]
theorem markd_get {cell : Int → D} {c : Int} {n i : Nat} (h : i < n) : (markd cell c n)[i]?.getD (.int 0) = cell (1 + c * (i : Int)) := by
  simp [markd, h]

theorem mark_loop {N : Nat → Int → Int → List D → Option (Int × List D)} {n : Nat} {c : Int} {cell : Int → D}
    (hs : ∀ m (i : Nat) acc, i < n → acc.length = n → N (m + 1) (1 + c * (i : Int)) (i : Int) acc = N m (1 + c * ((i + 1 : Nat) : Int)) ((i + 1 : Nat) : Int) (acc.set i (cell (1 + c * (i : Int)))))
    (he : ∀ m acc, acc.length = n → N (m + 1) (1 + c * (n : Int)) (n : Int) acc = some (1 + c * (n : Int), acc)) {l : List D} (hl : l.length = n) :
    ev (fun m => N m 1 0 l) = some (1 + c * (n : Int), markd cell c n) := by
  have key : ∀ k, ∀ m (i : Nat) acc, i + k = n → k < m → acc.length = n → acc.take i = (markd cell c n).take i → N m (1 + c * (i : Int)) (i : Int) acc = some (1 + c * (n : Int), markd cell c n) := by
    intro k
    induction k with
    | zero =>
      intro m i acc h1 h2 h3 h4
      obtain ⟨m, rfl⟩ : ∃ m', m = m' + 1 := ⟨m - 1, by omega⟩
      have hi : i = n := by omega
      subst hi
      rw [he m acc h3]
      rw [List.take_of_length_le (by omega), List.take_of_length_le (by rw [markd_len]; exact Nat.le_refl _)] at h4
      rw [h4]
    | succ k ih =>
      intro m i acc h1 h2 h3 h4
      obtain ⟨m, rfl⟩ : ∃ m', m = m' + 1 := ⟨m - 1, by omega⟩
      rw [hs m i acc (by omega) h3]
      refine ih m (i + 1) _ (by omega) (by omega) (by simpa using h3) ?_
      have hi : i < (markd cell c n).length := by rw [markd_len]; omega
      rw [List.take_succ_eq_append_getElem (by simp; omega), List.take_succ_eq_append_getElem hi]
      rw [List.take_set_of_le (by omega), h4]
      simp [markd]
  have := ev_eq (f := fun m => N m 1 0 l) (n + 1) (fun m hm => by
    have := key n m 0 l (by omega) (by omega) hl (by simp)
    simpa using this)
  exact this

theorem held_loop {X : Type} {N : Nat → Int → Int → Option X} {n : Nat} {c : Int} {x : X}
    (hs : ∀ m (i : Nat), i < n → N (m + 1) (1 + c * (i : Int)) (i : Int) = N m (1 + c * ((i + 1 : Nat) : Int)) ((i + 1 : Nat) : Int))
    (he : ∀ m, N (m + 1) (1 + c * (n : Int)) (n : Int) = some x) : ev (fun m => N m 1 0) = some x := by
  have key : ∀ k, ∀ m (i : Nat), i + k = n → k < m → N m (1 + c * (i : Int)) (i : Int) = some x := by
    intro k
    induction k with
    | zero =>
      intro m i h1 h2
      obtain ⟨m, rfl⟩ : ∃ m', m = m' + 1 := ⟨m - 1, by omega⟩
      have hi : i = n := by omega
      subst hi
      exact he m
    | succ k ih =>
      intro m i h1 h2
      obtain ⟨m, rfl⟩ : ∃ m', m = m' + 1 := ⟨m - 1, by omega⟩
      rw [hs m i (by omega)]
      exact ih m (i + 1) (by omega) (by omega)
  exact ev_eq (f := fun m => N m 1 0) (n + 1) (fun m hm => by
    have := key n m 0 (by omega) (by omega)
    simpa using this)

/-- the same from another start -/
def markd2 (cell : Int → D) (k0 : Int) (n : Nat) : List D := (List.range n).map (fun (i : Nat) => cell (k0 + (i : Int)))
theorem markd2_len {cell : Int → D} {k0 : Int} {n : Nat} : (markd2 cell k0 n).length = n := by simp [markd2]
theorem markd2_get {cell : Int → D} {k0 : Int} {n i : Nat} (h : i < n) : (markd2 cell k0 n)[i]?.getD (.int 0) = cell (k0 + (i : Int)) := by
  simp [markd2, h]

theorem mark_loop2 {N : Nat → Int → Int → List D → Option (Int × List D)} {n : Nat} {k0 : Int} {cell : Int → D}
    (hs : ∀ m (i : Nat) acc, i < n → acc.length = n → N (m + 1) (k0 + (i : Int)) (i : Int) acc = N m (k0 + ((i + 1 : Nat) : Int)) ((i + 1 : Nat) : Int) (acc.set i (cell (k0 + (i : Int)))))
    (he : ∀ m acc, acc.length = n → N (m + 1) (k0 + (n : Int)) (n : Int) acc = some (k0 + (n : Int), acc)) {l : List D} (hl : l.length = n) :
    ev (fun m => N m k0 0 l) = some (k0 + (n : Int), markd2 cell k0 n) := by
  have key : ∀ k, ∀ m (i : Nat) acc, i + k = n → k < m → acc.length = n → acc.take i = (markd2 cell k0 n).take i → N m (k0 + (i : Int)) (i : Int) acc = some (k0 + (n : Int), markd2 cell k0 n) := by
    intro k
    induction k with
    | zero =>
      intro m i acc h1 h2 h3 h4
      obtain ⟨m, rfl⟩ : ∃ m', m = m' + 1 := ⟨m - 1, by omega⟩
      have hi : i = n := by omega
      subst hi
      rw [he m acc h3]
      rw [List.take_of_length_le (by omega), List.take_of_length_le (by rw [markd2_len]; exact Nat.le_refl _)] at h4
      rw [h4]
    | succ k ih =>
      intro m i acc h1 h2 h3 h4
      obtain ⟨m, rfl⟩ : ∃ m', m = m' + 1 := ⟨m - 1, by omega⟩
      rw [hs m i acc (by omega) h3]
      refine ih m (i + 1) _ (by omega) (by omega) (by simpa using h3) ?_
      have hi : i < (markd2 cell k0 n).length := by rw [markd2_len]; omega
      rw [List.take_succ_eq_append_getElem (by simp; omega), List.take_succ_eq_append_getElem hi]
      rw [List.take_set_of_le (by omega), h4]
      simp [markd2]
  have := ev_eq (f := fun m => N m k0 0 l) (n + 1) (fun m hm => by
    have := key n m 0 l (by omega) (by omega) hl (by simp)
    simpa using this)
  exact this

theorem held_loop2 {X : Type} {N : Nat → Int → Int → Option X} {n : Nat} {k0 : Int} {x : X}
    (hs : ∀ m (i : Nat), i < n → N (m + 1) (k0 + (i : Int)) (i : Int) = N m (k0 + ((i + 1 : Nat) : Int)) ((i + 1 : Nat) : Int))
    (he : ∀ m, N (m + 1) (k0 + (n : Int)) (n : Int) = some x) : ev (fun m => N m k0 0) = some x := by
  have key : ∀ k, ∀ m (i : Nat), i + k = n → k < m → N m (k0 + (i : Int)) (i : Int) = some x := by
    intro k
    induction k with
    | zero =>
      intro m i h1 h2
      obtain ⟨m, rfl⟩ : ∃ m', m = m' + 1 := ⟨m - 1, by omega⟩
      have hi : i = n := by omega
      subst hi
      exact he m
    | succ k ih =>
      intro m i h1 h2
      obtain ⟨m, rfl⟩ : ∃ m', m = m' + 1 := ⟨m - 1, by omega⟩
      rw [hs m i (by omega)]
      exact ih m (i + 1) (by omega) (by omega)
  exact ev_eq (f := fun m => N m k0 0) (n + 1) (fun m hm => by
    have := key n m 0 (by omega) (by omega)
    simpa using this)


def intsFrom (k : Int) (n : Nat) : List D := (List.range n).map (fun (i : Nat) => .int (k + (i : Int)))
theorem intsFrom_len {k : Int} {n : Nat} : (intsFrom k n).length = n := by simp [intsFrom]
theorem intsFrom_get {k : Int} {n i : Nat} (h : i < n) : (intsFrom k n)[i]?.getD (.int 0) = .int (k + (i : Int)) := by simp [intsFrom, h]

theorem markIntS_k (l : List D) (k0 : Int) (hk : 0 ≤ k0 ∧ k0 ≤ 4611686018427387904) (hl : l.length ≤ 1048576) : laws_markIntS l k0 = some (k0 + (l.length : Int), intsFrom k0 l.length) := by
  have key : laws_markIntS_L2 k0 0 l = some (k0 + (l.length : Int), markd2 (fun k => .int k) k0 l.length) := by
    refine mark_loop2 (N := n_laws_markIntS_L2) (fun m i acc hi hacc => ?_) (fun m acc hacc => ?_) rfl
    · have hw : IntKind.i64.wrap ((i : Int) + 1) = (i : Int) + 1 := wrap_id (by omega) (by omega)
      have w1 : IntKind.i64.wrap (k0 + (i : Int) + 1) = k0 + ((i : Int) + 1) := by rw [wrap_id (by omega) (by omega)]; omega
      have h2 : (i : Int) < acc.length := by omega
      have h3 : i + 1 ≤ acc.length := by omega
      simp [n_laws_markIntS_L2, c_laws_markIntS_L2, h2, h3, hw, w1]
    · have h1 : ¬ (l.length : Int) < acc.length := by omega
      simp [n_laws_markIntS_L2, c_laws_markIntS_L2, h1]
  simp only [laws_markIntS, c_laws_markIntS, key, Option.bind_some]
  rfl

theorem heldIntS_k (n : Nat) (k0 : Int) (hk : 0 ≤ k0 ∧ k0 ≤ 4611686018427387904) (hn : n ≤ 1048576) : laws_heldIntS (intsFrom k0 n) k0 = some (k0 + (n : Int)) := by
  have key : laws_heldIntS_L2 (intsFrom k0 n) k0 0 = some (.inr (k0 + (n : Int))) := by
    refine held_loop2 (n := n) (N := fun m k i => n_laws_heldIntS_L2 m (intsFrom k0 n) k i) (fun m i hi => ?_) (fun m => ?_)
    · have hw : IntKind.i64.wrap ((i : Int) + 1) = (i : Int) + 1 := wrap_id (by omega) (by omega)
      have w1 : IntKind.i64.wrap (k0 + (i : Int) + 1) = k0 + ((i : Int) + 1) := by rw [wrap_id (by omega) (by omega)]; omega
      have h2 : (i : Int) < n := by omega
      simp [n_laws_heldIntS_L2, c_laws_heldIntS_L2, intsFrom_len, h2, hw, w1, intsFrom_get hi, toInt_int]
    · simp [n_laws_heldIntS_L2, c_laws_heldIntS_L2, intsFrom_len]
  simp only [laws_heldIntS, c_laws_heldIntS, key, Option.bind_some, Sum.elim_inr]


def mkSS (k : Int) : List D → List D
  | [] => []
  | d :: l => .node (intsFrom k d.items.length) :: mkSS (k + (d.items.length : Int)) l
def totSS : List D → Nat
  | [] => 0
  | d :: l => d.items.length + totSS l

theorem mkSS_len : ∀ (l : List D) (k : Int), (mkSS k l).length = l.length
  | [], _ => rfl
  | d :: l, k => by simp [mkSS, mkSS_len l]
theorem mkSS_get : ∀ (l : List D) (k : Int) (i : Nat), i < l.length → (mkSS k l)[i]?.getD (.int 0) = .node (intsFrom (k + (totSS (l.take i) : Int)) (l[i]?.getD (.int 0)).items.length)
  | [], _, _, h => by simp at h
  | d :: l, k, 0, _ => by simp [mkSS, totSS]
  | d :: l, k, i + 1, h => by
    have := mkSS_get l (k + (d.items.length : Int)) i (by simpa using h)
    simp only [mkSS, List.getElem?_cons_succ, List.take_succ_cons, totSS]
    rw [this]
    congr 2
    omega
theorem totSS_succ : ∀ (l : List D) (i : Nat), i < l.length → totSS (l.take (i + 1)) = totSS (l.take i) + (l[i]?.getD (.int 0)).items.length
  | [], _, h => by simp at h
  | d :: l, 0, _ => by simp [totSS]
  | d :: l, i + 1, h => by
    have := totSS_succ l i (by simpa using h)
    simp only [List.take_succ_cons, totSS, List.getElem?_cons_succ] at this ⊢
    omega
theorem totSS_le : ∀ (l : List D) (i : Nat), (∀ d ∈ l, d.items.length ≤ 1048576) → totSS (l.take i) ≤ i * 1048576
  | l, 0, _ => by simp [totSS]
  | [], i + 1, _ => by simp [totSS]
  | d :: l, i + 1, h => by
    have := totSS_le l i (fun x hx => h x (by simp [hx]))
    have h1 := h d (by simp)
    simp only [List.take_succ_cons, totSS, Nat.succ_mul]
    omega

theorem markIntSS_k (l : List D) (hl : l.length ≤ 1048576) (hi : ∀ d ∈ l, d.items.length ≤ 1048576) : laws_markIntSS l 1 = some (1 + (totSS l : Int), mkSS 1 l) := by
  obtain ⟨y, h1, h2⟩ := loop_post (N := fun m (s : Nat × List D) => n_laws_markIntSS_L2 m (1 + (totSS (l.take s.1) : Int)) (s.1 : Int) s.2) (fun s => s.1 ≤ l.length ∧ s.2 = (mkSS 1 l).take s.1 ++ l.drop s.1) (fun s => l.length - s.1)
    (fun s y => y = (1 + (totSS l : Int), mkSS 1 l)) (by
    rintro ⟨i, acc⟩ ⟨hi1, hacc⟩
    simp only at hi1 hacc ⊢
    have hlen : acc.length = l.length := by rw [hacc]; simp [mkSS_len]; omega
    by_cases hlt : i < l.length
    · refine .inr ⟨(i + 1, (mkSS 1 l).take (i + 1) ++ l.drop (i + 1)), ⟨by simp; omega, rfl⟩, by simp; omega, fun y hy => hy, fun m => ?_⟩
      have hw : IntKind.i64.wrap ((i : Int) + 1) = ((i + 1 : Nat) : Int) := succ_wrap (by omega)
      have h2 : (i : Int) < acc.length := by omega
      have h3 : i + 1 ≤ acc.length := by omega
      have hgd : acc[i]?.getD (.int 0) = l[i]?.getD (.int 0) := by
        rw [hacc, List.getElem?_append_right (by simp [mkSS_len]; omega)]
        simp only [List.length_take, mkSS_len, List.getElem?_drop]
        congr 2
        omega
      have hb := totSS_le l i hi
      have hm := markIntS_k (l[i]?.getD (.int 0)).items (1 + (totSS (l.take i) : Int)) (by omega) (hi _ (get_mem hlt))
      have hset : acc.set i (.node (intsFrom (1 + (totSS (l.take i) : Int)) (l[i]?.getD (.int 0)).items.length)) = (mkSS 1 l).take (i + 1) ++ l.drop (i + 1) := by
        have hlt2 : i < (mkSS 1 l).length := by rw [mkSS_len]; exact hlt
        have hg := mkSS_get l 1 i hlt
        rw [List.getElem?_eq_getElem hlt2] at hg
        simp only [Option.getD_some] at hg
        rw [hacc, List.set_append_right _ _ (by simp [mkSS_len]; omega), List.take_succ_eq_append_getElem hlt2, hg]
        have : i - (List.take i (mkSS 1 l)).length = 0 := by simp [mkSS_len]; omega
        rw [this, drop_cons hlt]
        simp
      simp only [n_laws_markIntSS_L2, c_laws_markIntSS_L2, h2, h3, decide_true, cond_true, Int.natCast_nonneg, and_self, if_true, Int.toNat_natCast, List.getD_eq_getElem?_getD, hgd, hm, Option.bind_some, hw, hset, totSS_succ l i hlt]
      rw [show (1 : Int) + (totSS (List.take i l) : Int) + ((l[i]?.getD (D.int 0)).items.length : Int) = 1 + ((totSS (List.take i l) + (l[i]?.getD (D.int 0)).items.length : Nat) : Int) by omega]
      cases n_laws_markIntSS_L2 m (1 + ((totSS (List.take i l) + (l[i]?.getD (D.int 0)).items.length : Nat) : Int)) ((i + 1 : Nat) : Int) ((mkSS 1 l).take (i + 1) ++ l.drop (i + 1)) <;> rfl
    · have hi' : i = l.length := by omega
      subst hi'
      have h2 : ¬ (l.length : Int) < acc.length := by omega
      refine .inl ⟨_, rfl, fun m => ?_⟩
      simp only [n_laws_markIntSS_L2, c_laws_markIntSS_L2, h2, decide_false, cond_false]
      rw [hacc, List.take_of_length_le (Nat.le_refl _), List.take_of_length_le (by rw [mkSS_len]; exact Nat.le_refl _), List.drop_of_length_le (Nat.le_refl _), List.append_nil]) (0, l) ⟨by simp, by simp⟩
  simp only [List.take_zero, totSS] at h1
  have h1' : laws_markIntSS_L2 1 0 l = some y := by show ev _ = _; simpa using h1
  subst h2
  simp only [laws_markIntSS, c_laws_markIntSS, h1', Option.bind_some]


theorem int_self {o : List D} (hi : ∀ d ∈ o, ∃ k, d = D.int k) {i : Nat} (h : i < o.length) : D.int (o.getD i (.int 0)).toInt = o.getD i (.int 0) := by
  obtain ⟨k, hk⟩ := hi _ (getD_mem h)
  rw [hk]; rfl

theorem revSpec (o : List D) (ho : o.length ≤ 1048576) (hi : ∀ d ∈ o, ∃ k, d = D.int k) : ∀ (n : Nat) (acc : List D), n < o.length → acc.length + n + 1 ≤ o.length + o.length → spec_ReverseOrder_L5 o n acc = some (acc ++ (o.take (n + 1)).reverse)
  | n, acc, hn, ha => by
    rw [spec_ReverseOrder_L5_fx]
    unfold c_spec_ReverseOrder_L5
    rw [decide_eq_true (show (0 : Int) ≤ (n : Int) by omega), cond_true, if_pos (by omega), if_pos (by simp only [List.length_cons, List.length_nil]; omega), Int.toNat_natCast, int_self hi hn]
    have hcut : (o.take (n + 1)).reverse = o.getD n (.int 0) :: (o.take n).reverse := by
      rw [List.take_succ_eq_append_getElem hn, List.reverse_append, List.getD_eq_getElem?_getD, List.getElem?_eq_getElem hn]
      rfl
    cases n with
    | zero =>
      rw [show IntKind.i64.wrap (((0 : Nat) : Int) - 1) = -1 by rw [wrap_id (by omega) (by omega)]; rfl, spec_ReverseOrder_L5_fx]
      unfold c_spec_ReverseOrder_L5
      rw [decide_eq_false (by omega), cond_false, hcut]
      rfl
    | succ n =>
      rw [show IntKind.i64.wrap (((n + 1 : Nat) : Int) - 1) = (n : Int) by rw [wrap_id (by omega) (by omega)]; omega]
      rw [revSpec o ho hi n _ (by omega) (by simp only [List.length_append, List.length_cons, List.length_nil]; omega), hcut]
      simp

theorem revLoop (o : List D) (ho : o.length ≤ 1048576) (hi : ∀ d ∈ o, ∃ k, d = D.int k) : ∀ (k : Nat) (i j : Int) (acc : List D), (j - i).toNat ≤ k → 0 ≤ i → i + j = (o.length : Int) - 1 → acc.length = o.length →
    (∀ t : Nat, t < o.length → acc.getD t (.int 0) = if (t : Int) < i ∨ j < (t : Int) then o.getD (o.length - 1 - t) (.int 0) else o.getD t (.int 0)) → slices_Reverse_L1 i j acc = some o.reverse
  | k, i, j, acc, hk, h0, hij, hlen, hp => by
    rw [slices_Reverse_L1_fx]
    unfold c_slices_Reverse_L1
    by_cases hlt : i < j
    · cases k with
      | zero => omega
      | succ k =>
        have s1 : (acc.set i.toNat (D.int (acc.getD j.toNat (D.int 0)).toInt)).length = acc.length := by simp
        rw [decide_eq_true hlt, cond_true, if_pos (by omega), if_pos (by omega), if_pos (by omega), if_pos (by omega), if_pos (by omega), if_pos (by omega), if_pos (by rw [s1]; omega), if_pos (by rw [s1]; omega)]
        have g1 := hp j.toNat (by omega)
        have g2 := hp i.toNat (by omega)
        rw [if_neg (by omega)] at g1 g2
        rw [g1, g2, int_self hi (show j.toNat < o.length by omega), int_self hi (show i.toNat < o.length by omega), wrap_id (n := i + 1) (by omega) (by omega), wrap_id (n := j - 1) (by omega) (by omega)]
        rw [revLoop o ho hi k (i + 1) (j - 1) _ (by omega) (by omega) (by omega) (by simp [hlen])]
        · rfl
        · intro t ht
          rw [List.getD_eq_getElem?_getD, List.getElem?_set, List.getElem?_set]
          by_cases e1 : j.toNat = t
          · rw [if_pos e1, if_pos (by simp; omega), if_pos (by omega)]
            rw [show o.length - 1 - t = i.toNat by omega]; rfl
          · rw [if_neg e1]
            by_cases e2 : i.toNat = t
            · rw [if_pos e2, if_pos (by omega), if_pos (by omega)]
              rw [show o.length - 1 - t = j.toNat by omega]; rfl
            · rw [if_neg e2, ← List.getD_eq_getElem?_getD, hp t ht]
              by_cases e3 : (t : Int) < i ∨ j < (t : Int)
              · rw [if_pos e3, if_pos (by omega)]
              · rw [if_neg e3, if_neg (by omega)]
    · rw [decide_eq_false hlt, cond_false]
      congr 1
      apply List.ext_getElem (by simp [hlen])
      intro t h1 h2
      have := hp t (by omega)
      rw [List.getD_eq_getElem?_getD, List.getElem?_eq_getElem h1, Option.getD_some] at this
      rw [this, List.getElem_reverse]
      have h3 : o.getD (o.length - 1 - t) (.int 0) = o[o.length - 1 - t]'(by omega) := by
        rw [List.getD_eq_getElem?_getD, List.getElem?_eq_getElem (by omega)]; rfl
      by_cases e3 : (t : Int) < i ∨ j < (t : Int)
      · rw [if_pos e3, h3]
      · rw [if_neg e3]
        have : o.length - 1 - t = t := by omega
        rw [← h3, this]

theorem rev_eq (o : List D) (ho : o.length ≤ 1048576) (hi : ∀ d ∈ o, ∃ k, d = D.int k) : slices_Reverse o = some o.reverse := by
  unfold slices_Reverse c_slices_Reverse
  by_cases hn : o.length = 0
  · have : o = [] := List.eq_nil_of_length_eq_zero hn
    subst this
    rw [slices_Reverse_L1_fx]
    unfold c_slices_Reverse_L1
    rw [show IntKind.i64.wrap (((([] : List D).length : Nat) : Int) - 1) = -1 by decide]
    rfl
  · rw [wrap_id (by omega) (by omega), revLoop o ho hi o.length 0 _ o (by omega) (by omega) (by omega) rfl]
    · rfl
    · intro t ht
      rw [if_neg (by omega)]

theorem ro_same (l o : List D) (hl : l.length ≤ 1048576) (ho : o.length ≤ 1048576) (hi : ∀ d ∈ o, ∃ k, d = D.int k) : ∃ y, spec_ReverseOrder l o = some y ∧ impl_ReverseOrder l o = some y ∧ y.1.length ≤ 1048576 := by
  obtain ⟨b, h1, h2, h3⟩ := order_same l o hl ho hi
  simp only [spec_ReverseOrder, c_spec_ReverseOrder, impl_ReverseOrder, c_impl_ReverseOrder, h1, h2, Option.bind_some]
  cases b with
  | false => exact ⟨_, rfl, rfl, by simp⟩
  | true =>
    obtain ⟨hg, hn, hr, _⟩ := h3 rfl
    have n1 := hg.n1
    have n7 := hg.n7
    rw [pred_wrap (by omega) (by omega)]
    have e1 := revSpec o ho hi (o.length - 1) [] (by omega) (by simp only [List.length_nil]; omega)
    simp only [Bool.not_true, cond_false, clone_eq o ho, Option.bind_some, rev_eq o ho hi, e1]
    refine ⟨_, rfl, ?_, ?_⟩
    · rw [show o.length - 1 + 1 = o.length by omega]; simp
    · simp only [List.nil_append, List.length_reverse, List.length_take]; omega

theorem pure_FnExactReverseOrder (x0 : List D) (x1 : List D) (h0 : x0.length ≤ maxLen) (w0 : ∀ d ∈ x0, wfD (.slice (.int .i64)) d) (h1 : x1.length ≤ maxLen) (w1 : ∀ d ∈ x1, wfD (.int .i64) d) : laws_FnExactReverseOrder x0 x1 = some true := by
  by_cases hb : (1048576 : Int) < (x1.length : Int)
  · simp [laws_FnExactReverseOrder, c_laws_FnExactReverseOrder, hb]
  · obtain ⟨v, hv, hv2⟩ := szTable_eq x0 h0 w0
    by_cases hneg : v < 0
    · simp [laws_FnExactReverseOrder, c_laws_FnExactReverseOrder, hb, hv, hneg]
    · obtain ⟨hl, hr⟩ := hv2.resolve_left hneg
      have ho : x1.length ≤ 1048576 := by omega
      obtain ⟨y, q1, q2, q3⟩ := ro_same x0 x1 hl ho (wf_ints w1)
      have e1 := markIntSS_k x0 hl hr
      have b1 : totSS x0 ≤ x0.length * 1048576 := by have := totSS_le x0 x0.length hr; rwa [List.take_of_length_le (Nat.le_refl _)] at this
      have e2 := markIntS_k x1 (1 + (totSS x0 : Int)) (by omega) ho
      have e3 : ¬ (1 + (totSS x0 : Int) + (x1.length : Int)) < 0 := by omega
      have e4 := markIntS_k y.1 1 (by omega) q3
      have e5 := heldIntS_k y.1.length 1 (by omega) q3
      have e6 : ¬ (1 + (y.1.length : Int)) < 0 := by omega
      simp only [laws_FnExactReverseOrder, c_laws_FnExactReverseOrder]
      rw [decide_eq_false hb, cond_false]
      simp [hv, hneg, toTable_id x0 hl w0 hr, toIntS_id x1 ho w1, q1, q2, eqTable_self x0 hl hr, eqIntS_self x1 ho, eqIntS_self y.1 q3, laws_markTable, c_laws_markTable, e1, e2, e3, e4, e5, e6]

end Go.Proofs.Ytinhphmajfiepaa
