/- The law FnExactGapCount over plain values. No condition beside those of the statement. -/
import Derived.Test.YtinhphmajfiepaaClMFnExactGapCount
import Derived.Test.YtinhphmajfiepaaRaiU5
set_option linter.unusedVariables false
set_option linter.unusedSimpArgs false
set_option maxRecDepth 100000
namespace Go.Proofs.Ytinhphmajfiepaa
open Go Go.Rai

theorem toIntS_id (l : List D) (hl : l.length ≤ 1048576) (w : ∀ d ∈ l, wfD (.int .i64) d) : laws_toIntS l = some l := by
  have key : laws_toIntS_L3 l 0 (List.replicate l.length (.int 0)) = some l := by
    refine copy_loop (N := n_laws_toIntS_L3) (fun m i acc hi hacc => ?_) (fun m acc hacc => ?_)
    · obtain ⟨a, hd, _⟩ := w _ (get_mem hi)
      have hw : IntKind.i64.wrap ((i : Int) + 1) = (i : Int) + 1 := wrap_id (by omega) (by omega)
      have h2 : (i : Int) < acc.length := by omega
      have h3 : i + 1 ≤ acc.length := by omega
      have h1 : (i : Int) < l.length := by omega
      simp [n_laws_toIntS_L3, c_laws_toIntS_L3, h1, h2, h3, hw, hd, toInt_int]
    · simp [n_laws_toIntS_L3, c_laws_toIntS_L3]
  have h4 : (l.length : Int) ≤ 4294967296 := by omega
  simp [laws_toIntS, c_laws_toIntS, key, h4]

theorem eqIntS_self (l : List D) (hl : l.length ≤ 1048576) : laws_eqIntS l l = some true := by
  have key : laws_eqIntS_L4 l l 0 = some (.inr ()) := by
    refine all_loop (N := fun n i => n_laws_eqIntS_L4 n l l i) (len := l.length) (fun m i hi => ?_) (fun m => ?_)
    · have hw : IntKind.i64.wrap ((i : Int) + 1) = (i : Int) + 1 := wrap_id (by omega) (by omega)
      have h1 : (i : Int) < l.length := by omega
      simp [n_laws_eqIntS_L4, c_laws_eqIntS_L4, h1, hw]
    · simp [n_laws_eqIntS_L4, c_laws_eqIntS_L4]
  simp [laws_eqIntS, c_laws_eqIntS, key]


theorem l1In_eq (x a b : Int) : spec_l1In x a b = some (btw x a b) := by
  unfold spec_l1In c_spec_l1In btw
  by_cases h : a ≤ x <;> simp [h]
theorem within_eq (x a b : Int) : impl_within x a b = some (btw x a b) := by
  unfold impl_within c_impl_within btw
  by_cases h : a ≤ x <;> simp [h]


theorem wfRow {d : D} (h : wfD (.slice (.int .i64)) d) : d = .node d.items ∧ d.items.length ≤ maxLen ∧ ∀ x ∈ d.items, wfD (.int .i64) x := by
  obtain ⟨l, rfl, h1, h2⟩ := h
  exact ⟨rfl, h1, h2⟩

theorem szTable_eq (l : List D) (hl : l.length ≤ maxLen) (w : ∀ d ∈ l, wfD (.slice (.int .i64)) d) : ∃ v, laws_szTable l 1048576 = some v ∧ (v < 0 ∨ (l.length ≤ 1048576 ∧ ∀ d ∈ l, d.items.length ≤ 1048576)) := by
  unfold maxLen at hl
  have hw : IntKind.i64.wrap (1048576 - (l.length : Int)) = 1048576 - (l.length : Int) := wrap_id (by omega) (by omega)
  simp only [laws_szTable, c_laws_szTable, laws_szIntSS, c_laws_szIntSS, hw]
  by_cases h0 : 1048576 - (l.length : Int) < 0
  · exact ⟨-1, by simp [h0], .inl (by omega)⟩
  · obtain ⟨y, h1, h2⟩ := loop_post (N := fun m (s : Nat × Int) => n_laws_szIntSS_L5 m l s.2 (s.1 : Int)) (fun s => s.1 ≤ l.length ∧ 0 ≤ s.2 ∧ s.2 ≤ 1048576) (fun s => l.length - s.1)
      (fun s y => match y with | .inl (_, r) => r = -1 | .inr r => 0 ≤ r ∧ ∀ d ∈ l.drop s.1, d.items.length ≤ 1048576) (by
      rintro ⟨i, s⟩ ⟨hi, hs1, hs2⟩
      simp only at hi hs1 hs2 ⊢
      by_cases hlt : i < l.length
      · have hlt' : (i : Int) < l.length := by omega
        obtain ⟨_, r1, _⟩ := wfRow (w _ (get_mem hlt))
        unfold maxLen at r1
        have hw2 : IntKind.i64.wrap (s - ((l[i]?.getD (.int 0)).items.length : Int)) = s - ((l[i]?.getD (.int 0)).items.length : Int) := wrap_id (by omega) (by omega)
        by_cases hneg : s - ((l[i]?.getD (.int 0)).items.length : Int) < 0
        · refine .inl ⟨.inl (-1, -1), rfl, fun m => ?_⟩
          simp only [n_laws_szIntSS_L5, c_laws_szIntSS_L5, laws_szIntS, c_laws_szIntS, hlt', decide_true, cond_true, Int.natCast_nonneg, and_self, if_true, Int.toNat_natCast, List.getD_eq_getElem?_getD, hw2, hneg, Option.bind_some]
          rfl
        · refine .inr ⟨(i + 1, s - ((l[i]?.getD (.int 0)).items.length : Int)), ⟨by simp; omega, by simp only; omega, by simp only; omega⟩, by simp; omega, fun y hy => ?_, fun m => ?_⟩
          · cases y with
            | inl y => exact hy
            | inr r =>
              refine ⟨hy.1, fun d hd => ?_⟩
              rw [drop_cons hlt] at hd
              rcases List.mem_cons.1 hd with rfl | hd
              · omega
              · exact hy.2 d hd
          · simp only [n_laws_szIntSS_L5, c_laws_szIntSS_L5, laws_szIntS, c_laws_szIntS, hlt', decide_true, cond_true, Int.natCast_nonneg, and_self, if_true, Int.toNat_natCast, List.getD_eq_getElem?_getD, hw2, hneg, decide_false, cond_false, Option.bind_some, succ_wrap (show i < 4611686018427387904 by omega)]
            cases n_laws_szIntSS_L5 m l (s - ((l[i]?.getD (.int 0)).items.length : Int)) ((i + 1 : Nat) : Int) <;> rfl
      · have hlt' : ¬ (i : Int) < l.length := by omega
        exact .inl ⟨.inr s, ⟨hs1, by rw [drop_end hlt]; simp⟩, fun m => by simp [n_laws_szIntSS_L5, c_laws_szIntSS_L5, hlt']⟩) (0, 1048576 - (l.length : Int)) ⟨by simp, by simp only; omega, by simp only; omega⟩
    have h1' : laws_szIntSS_L5 l (1048576 - (l.length : Int)) 0 = some y := h1
    simp only [h0, decide_false, cond_false, h1', Option.bind_some]
    cases y with
    | inl y =>
      obtain ⟨a, b⟩ := y
      have hb : b = -1 := h2
      subst hb
      exact ⟨-1, rfl, .inl (by omega)⟩
    | inr r =>
      have h3 : ¬ r < 0 := by have := h2.1; omega
      refine ⟨r, by simp [h3], .inr ⟨by omega, fun d hd => h2.2 d (by simpa using hd)⟩⟩

theorem toTable_id (l : List D) (hl : l.length ≤ 1048576) (w : ∀ d ∈ l, wfD (.slice (.int .i64)) d) (hr : ∀ d ∈ l, d.items.length ≤ 1048576) : laws_toTable l = some l := by
  have key : laws_toIntSS_L3 l 0 (List.replicate l.length (.node [])) = some l := by
    refine copy_loop (N := n_laws_toIntSS_L3) (fun m i acc hi hacc => ?_) (fun m acc hacc => ?_)
    · obtain ⟨r0, r1, r2⟩ := wfRow (w _ (get_mem hi))
      have hid := toIntS_id (l[i]?.getD (.int 0)).items (hr _ (get_mem hi)) r2
      have hw : IntKind.i64.wrap ((i : Int) + 1) = (i : Int) + 1 := wrap_id (by omega) (by omega)
      have h2 : (i : Int) < acc.length := by omega
      have h3 : i + 1 ≤ acc.length := by omega
      have h1 : (i : Int) < l.length := by omega
      simp only [n_laws_toIntSS_L3, c_laws_toIntSS_L3, h1, h2, h3, hw, hid, decide_true, cond_true, Int.natCast_nonneg, and_self, if_true, Int.toNat_natCast, List.getD_eq_getElem?_getD, Option.bind_some, ← r0]
      cases n_laws_toIntSS_L3 m l (↑i + 1) (acc.set i (l[i]?.getD (D.int 0))) <;> rfl
    · simp [n_laws_toIntSS_L3, c_laws_toIntSS_L3]
  have h4 : (l.length : Int) ≤ 4294967296 := by omega
  simp [laws_toTable, c_laws_toTable, laws_toIntSS, c_laws_toIntSS, key, h4]

theorem eqTable_self (l : List D) (hl : l.length ≤ 1048576) (hr : ∀ d ∈ l, d.items.length ≤ 1048576) : laws_eqTable l l = some true := by
  have key : laws_eqIntSS_L4 l l 0 = some (.inr ()) := by
    refine all_loop (N := fun n i => n_laws_eqIntSS_L4 n l l i) (len := l.length) (fun m i hi => ?_) (fun m => ?_)
    · have hw : IntKind.i64.wrap ((i : Int) + 1) = (i : Int) + 1 := wrap_id (by omega) (by omega)
      have h1 : (i : Int) < l.length := by omega
      have hs := eqIntS_self (l[i]?.getD (.int 0)).items (hr _ (get_mem hi))
      simp only [n_laws_eqIntSS_L4, c_laws_eqIntSS_L4, h1, hw, hs, decide_true, cond_true, Int.natCast_nonneg, and_self, if_true, Int.toNat_natCast, List.getD_eq_getElem?_getD, Option.bind_some, Bool.not_true, cond_false]
      cases n_laws_eqIntSS_L4 m l l (↑i + 1) <;> rfl
    · simp [n_laws_eqIntSS_L4, c_laws_eqIntSS_L4]
  simp [laws_eqTable, c_laws_eqTable, laws_eqIntSS, c_laws_eqIntSS, key]

def cellP (r : List D) (i : Nat) : Bool := !btw (r[i]?.getD (.int 0)).toInt 0 1000
def rowB (n : Int) (d : D) : Bool := btw (d.items.length : Int) 1 10 && (decide ((d.items.length : Int) = n) && (firstN (cellP d.items) d.items.length).isNone)

theorem L11_eq (a b : Int) (r l : List D) (hr : r.length ≤ 10) : spec_l16Good_L11 a b r 0 l = some (match firstN (cellP r) r.length with | some _ => .inl (false, a, b, l) | none => .inr (a, b, l)) := by
  refine scan_loop (N := fun m i => n_spec_l16Good_L11 m a b r i l) _ (fun _ => .inl (false, a, b, l)) (fun m i hi => ?_) (fun m => ?_)
  · have hw : IntKind.i64.wrap ((i : Int) + 1) = (i : Int) + 1 := wrap_id (by omega) (by omega)
    have h1 : (i : Int) < r.length := by omega
    simp only [n_spec_l16Good_L11, c_spec_l16Good_L11, h1, hw, l1In_eq, cellP, decide_true, cond_true, Int.natCast_nonneg, and_self, if_true, Int.toNat_natCast, List.getD_eq_getElem?_getD, Option.bind_some]
    cases btw (r[i]?.getD (D.int 0)).toInt 0 1000 <;> simp
  · simp [n_spec_l16Good_L11, c_spec_l16Good_L11]

theorem contains_eq (r : List D) (hr : r.length ≤ 10) : slices_ContainsFunc__impl_IsValidTable_1 r = some (!(firstN (cellP r) r.length).isNone) := by
  have : slices_IndexFunc_L2 r r.length 0 = some (match firstN (cellP r) r.length with | some i => .inl (i : Int) | none => .inr ()) := by
    refine scan_loop (N := fun m i => n_slices_IndexFunc_L2 m r r.length i) _ (fun i => .inl (i : Int)) (fun m i hi => ?_) (fun m => ?_)
    · have hw : IntKind.i64.wrap ((i : Int) + 1) = (i : Int) + 1 := wrap_id (by omega) (by omega)
      have h1 : (i : Int) < r.length := by omega
      simp only [n_slices_IndexFunc_L2, c_slices_IndexFunc_L2, impl_IsValidTable_1, c_impl_IsValidTable_1, h1, hw, within_eq, cellP, decide_true, cond_true, Int.natCast_nonneg, and_self, if_true, Int.toNat_natCast, List.getD_eq_getElem?_getD, Option.bind_some]
      cases btw (r[i]?.getD (D.int 0)).toInt 0 1000 <;> simp
    · simp [n_slices_IndexFunc_L2, c_slices_IndexFunc_L2]
  simp only [slices_ContainsFunc__impl_IsValidTable_1, c_slices_ContainsFunc__impl_IsValidTable_1, slices_IndexFunc__impl_IsValidTable_1, c_slices_IndexFunc__impl_IsValidTable_1, this, Option.bind_some]
  cases firstN (cellP r) r.length <;> simp

theorem rows_eq (l : List D) (hl : l.length ≤ 7) (n : Int) (hn : n = (((l[0]?.getD (D.int 0)).items.length : Nat) : Int)) :
    spec_l16Good_L5 l.length 0 l = some (match firstN (fun i => !rowB n (l[i]?.getD (.int 0))) l.length with | some _ => .inl false | none => .inr ()) ∧
    impl_IsValidTable_L4 l l.length 0 l = some (match firstN (fun i => !rowB n (l[i]?.getD (.int 0))) l.length with | some _ => .inl false | none => .inr ()) := by
  constructor
  · refine scan_loop (N := fun m i => n_spec_l16Good_L5 m l.length i l) _ (fun _ => .inl false) (fun m i hi => ?_) (fun m => ?_)
    · have hw : IntKind.i64.wrap ((i : Int) + 1) = (i : Int) + 1 := wrap_id (by omega) (by omega)
      have h1 : (i : Int) < l.length := by omega
      have h0 : (0 : Int) < l.length := by omega
      simp only [n_spec_l16Good_L5, c_spec_l16Good_L5, h1, h0, hw, l1In_eq, decide_true, cond_true, Int.natCast_nonneg, and_self, if_true, Int.toNat_natCast, List.getD_eq_getElem?_getD, Option.bind_some, Int.toNat_zero, ← hn, Int.le_refl]
      generalize l[i]?.getD (D.int 0) = d
      unfold rowB
      cases hb : btw (d.items.length : Int) 1 10 with
      | false => simp
      | true =>
        have := btw_iff.1 hb
        rw [L11_eq _ _ _ _ (by omega)]
        cases decide ((d.items.length : Int) = n) with
        | false => simp
        | true => cases firstN (cellP d.items) d.items.length <;> simp [hw]
    · simp [n_spec_l16Good_L5, c_spec_l16Good_L5]
  · refine scan_loop (N := fun m i => n_impl_IsValidTable_L4 m l l.length i l) _ (fun _ => .inl false) (fun m i hi => ?_) (fun m => ?_)
    · have hw : IntKind.i64.wrap ((i : Int) + 1) = (i : Int) + 1 := wrap_id (by omega) (by omega)
      have h1 : (i : Int) < l.length := by omega
      have h0 : (0 : Int) < l.length := by omega
      simp only [n_impl_IsValidTable_L4, c_impl_IsValidTable_L4, h1, h0, hw, within_eq, decide_true, cond_true, Int.natCast_nonneg, and_self, if_true, Int.toNat_natCast, List.getD_eq_getElem?_getD, Option.bind_some, Int.toNat_zero, ← hn, Int.le_refl]
      generalize l[i]?.getD (D.int 0) = d
      unfold rowB
      cases hb : btw (d.items.length : Int) 1 10 with
      | false => simp
      | true =>
        have := btw_iff.1 hb
        rw [contains_eq _ (by omega)]
        cases decide ((d.items.length : Int) = n) with
        | false => simp
        | true => cases firstN (cellP d.items) d.items.length <;> simp
    · simp [n_impl_IsValidTable_L4, c_impl_IsValidTable_L4]

structure GoodT (l : List D) : Prop where
  n1 : 1 ≤ l.length
  n7 : l.length ≤ 7
  c1 : 1 ≤ (l[0]?.getD (D.int 0)).items.length
  c10 : (l[0]?.getD (D.int 0)).items.length ≤ 10
  len : ∀ i, i < l.length → (l[i]?.getD (D.int 0)).items.length = (l[0]?.getD (D.int 0)).items.length
  cell : ∀ i j, i < l.length → j < (l[0]?.getD (D.int 0)).items.length → (0 : Int) ≤ ((l[i]?.getD (D.int 0)).items[j]?.getD (D.int 0)).toInt ∧ ((l[i]?.getD (D.int 0)).items[j]?.getD (D.int 0)).toInt ≤ 1000

theorem table_good (l : List D) : ∃ b, spec_l16Good l = some b ∧ impl_IsValidTable l = some b ∧ (b = true → GoodT l) := by
  simp only [spec_l16Good, c_spec_l16Good, impl_IsValidTable, c_impl_IsValidTable, l1In_eq, within_eq, Option.bind_some]
  cases hb : btw (l.length : Int) 1 7 with
  | false => exact ⟨false, by simp, by simp, by simp⟩
  | true =>
    have hbb := btw_iff.1 hb
    obtain ⟨h1, h2⟩ := rows_eq l (by omega) _ rfl
    simp only [h1, h2, Bool.not_true, cond_false, Option.bind_some]
    cases hf : firstN (fun i => !rowB _ (l[i]?.getD (D.int 0))) l.length with
    | some i => exact ⟨false, by simp, by simp, by simp⟩
    | none =>
      refine ⟨true, by simp, by simp, fun _ => ?_⟩
      have hall := firstN_none hf
      have hrow : ∀ i, i < l.length → btw ((l[i]?.getD (D.int 0)).items.length : Int) 1 10 = true ∧ ((l[i]?.getD (D.int 0)).items.length : Int) = ((l[0]?.getD (D.int 0)).items.length : Int) ∧ (firstN (cellP (l[i]?.getD (D.int 0)).items) (l[i]?.getD (D.int 0)).items.length).isNone = true := by
        intro i hi
        have := hall i hi
        unfold rowB at this
        rw [Bool.not_eq_false', Bool.and_eq_true, Bool.and_eq_true, decide_eq_true_eq] at this
        exact this
      have h0 := hrow 0 (by omega)
      have h01 := btw_iff.1 h0.1
      refine ⟨by omega, by omega, by omega, by omega, fun i hi => by have := (hrow i hi).2.1; omega, fun i j hi hj => ?_⟩
      have hr := hrow i hi
      have hn : firstN (cellP (l[i]?.getD (D.int 0)).items) (l[i]?.getD (D.int 0)).items.length = none := by
        cases hq : firstN (cellP (l[i]?.getD (D.int 0)).items) (l[i]?.getD (D.int 0)).items.length with
        | none => rfl
        | some _ => rw [hq] at hr; simp at hr
      have hc := firstN_none hn j (by have := hr.2.1; omega)
      unfold cellP at hc
      rw [Bool.not_eq_false', btw_iff] at hc
      exact hc

/-- of an answer that does not depend on how far one counts: there is one, and it has a property -/
def Tt {ι β : Type} (I : ι → Prop) (P : β → Prop) (e : ι → Option β) : Prop := ∃ y, P y ∧ ∀ i, I i → e i = some y

theorem Tt.pure {ι β : Type} {I : ι → Prop} {P : β → Prop} {y : β} (h : P y) : Tt I P (fun _ => some y) := ⟨y, h, fun _ _ => rfl⟩
theorem Tt.bind {ι α β : Type} {I : ι → Prop} {Q : α → Prop} {P : β → Prop} {t : ι → Option α} {f : α → ι → Option β} (h : Tt I Q t) (k : ∀ v, Q v → Tt I P (fun i => f v i)) :
    Tt I P (fun i => (t i).bind (fun v => f v i)) := by
  obtain ⟨v, hv, ht⟩ := h
  obtain ⟨y, hy, hk⟩ := k v hv
  exact ⟨y, hy, fun i hi => by show (t i).bind _ = _; rw [ht i hi]; exact hk i hi⟩
theorem Tt.ite {ι β : Type} {I : ι → Prop} {P : β → Prop} {c : Prop} [Decidable c] {x y : ι → Option β} (h : c) (k : Tt I P x) : Tt I P (fun i => if c then x i else y i) := by
  simpa only [if_pos h] using k
theorem Tt.cnd {ι β : Type} {I : ι → Prop} {P : β → Prop} {b : Bool} {x y : ι → Option β} (h1 : b = true → Tt I P x) (h2 : b = false → Tt I P y) : Tt I P (fun i => bif b then x i else y i) := by
  cases b with
  | true => exact h1 rfl
  | false => exact h2 rfl
theorem Tt.dec {ι β : Type} {I : ι → Prop} {P : β → Prop} {p : Prop} [Decidable p] {x y : ι → Option β} (h1 : p → Tt I P x) (h2 : ¬ p → Tt I P y) : Tt I P (fun i => bif decide p then x i else y i) :=
  Tt.cnd (fun h => h1 (of_decide_eq_true h)) (fun h => h2 (of_decide_eq_false h))
theorem Tt.ndec {ι β : Type} {I : ι → Prop} {P : β → Prop} {p : Prop} [Decidable p] {x y : ι → Option β} (h1 : ¬ p → Tt I P x) (h2 : p → Tt I P y) : Tt I P (fun i => bif !decide p then x i else y i) := by
  by_cases h : p
  · simpa only [decide_eq_true h, Bool.not_true, cond_false] using h2 h
  · simpa only [decide_eq_false h, Bool.not_false, cond_true] using h1 h
theorem Tt.con {ι β : Type} {I : ι → Prop} {Q : β → Prop} {t : Option β} (h : ∃ y, t = some y ∧ Q y) : Tt I Q (fun _ => t) := by
  obtain ⟨y, h1, h2⟩ := h
  exact ⟨y, h2, fun _ _ => h1⟩
theorem Tt.mono {ι β : Type} {I J : ι → Prop} {P Q : β → Prop} {e : ι → Option β} (h : Tt I P e) (hI : ∀ i, J i → I i) (hP : ∀ y, P y → Q y) : Tt J Q e := by
  obtain ⟨y, h1, h2⟩ := h
  exact ⟨y, hP y h1, fun i hi => h2 i (hI i hi)⟩
theorem Tt.out {β : Type} {P : β → Prop} {t : Option β} (h : Tt (fun _ : Unit => True) P (fun _ => t)) : ∃ y, t = some y ∧ P y := by
  obtain ⟨y, h1, h2⟩ := h
  exact ⟨y, h2 () trivial, h1⟩

/-- a loop -/
theorem Tt.loop {X Y : Type} (N : Nat → X → Option Y) (Inv : X → Prop) (μ : X → Nat) (Post : X → Y → Prop)
    (step : ∀ x, Inv x → (∀ x', Inv x' → μ x' < μ x → Tt (fun m => μ x ≤ m) (Post x') (fun m => N m x')) → Tt (fun m => μ x ≤ m) (Post x) (fun m => N (m + 1) x)) :
    ∀ x, Inv x → ∃ y, ev (fun n => N n x) = some y ∧ Post x y := by
  have key : ∀ k x, Inv x → μ x ≤ k → Tt (fun m => μ x < m) (Post x) (fun m => N m x) := by
    intro k
    induction k with
    | zero =>
      intro x hi hk
      obtain ⟨y, h1, h2⟩ := step x hi (fun x' _ h => absurd h (by omega))
      refine ⟨y, h1, fun m hm => ?_⟩
      obtain ⟨m, rfl⟩ : ∃ m', m = m' + 1 := ⟨m - 1, by omega⟩
      exact h2 m (by omega)
    | succ k ih =>
      intro x hi hk
      obtain ⟨y, h1, h2⟩ := step x hi (fun x' hx' h => (ih x' hx' (by omega)).mono (fun m hm => by omega) (fun _ h => h))
      refine ⟨y, h1, fun m hm => ?_⟩
      obtain ⟨m, rfl⟩ : ∃ m', m = m' + 1 := ⟨m - 1, by omega⟩
      exact h2 m (by omega)
  intro x hi
  obtain ⟨y, h1, h2⟩ := key (μ x) x hi (Nat.le_refl _)
  exact ⟨y, ev_eq (μ x + 1) (fun m hm => h2 m (by omega)), h1⟩

theorem wq (n : Int) : IntKind.i64.wrap n = (n + 9223372036854775808) % 18446744073709551616 - 9223372036854775808 := by
  unfold IntKind.wrap
  simp [IntKind.signed, IntKind.bits]
  omega

theorem less_eq (a b : Int) : cmp_Less a b = some (decide (a < b)) := by
  simp [cmp_Less, c_cmp_Less, cmp_isNaN, c_cmp_isNaN]

def lenS : List D ⊕ List D → Nat | .inl l => l.length | .inr l => l.length

theorem sift1_tot (hi first : Int) (root : Int) (l : List D) (h0 : 0 ≤ first) (h1 : 0 ≤ root) (h2 : root ≤ 1048576) (h3 : first + hi ≤ l.length) (h4 : l.length ≤ 1048576) (h5 : 0 ≤ hi) :
    ∃ y, slices_siftDownOrdered_L1 hi first root l = some y ∧ lenS y = l.length := by
  refine Tt.loop (fun n (x : Int × List D) => n_slices_siftDownOrdered_L1 n hi first x.1 x.2) (fun x => 0 ≤ x.1 ∧ x.1 ≤ 1048576 ∧ first + hi ≤ x.2.length ∧ x.2.length ≤ 1048576) (fun x => (hi - x.1).toNat) (fun x y => lenS y = x.2.length) ?_ (root, l) ⟨h1, h2, h3, h4⟩
  rintro ⟨root, l⟩ ⟨h1, h2, h3, h4⟩ ih
  have ih' : ∀ (r : Int) (l' : List D), 0 ≤ r → r ≤ 1048576 → l'.length = l.length → (hi - r).toNat < (hi - root).toNat → Tt (fun m => (hi - root).toNat ≤ m) (fun y => lenS y = l.length) (fun m => n_slices_siftDownOrdered_L1 m hi first r l') :=
    fun r l' q1 q2 q3 q4 => by have := ih (r, l') ⟨q1, q2, by simp only at *; omega, by simp only at *; omega⟩ q4; simpa only [q3] using this
  clear ih
  simp only at h1 h2 h3 h4
  show Tt _ _ (fun m => c_slices_siftDownOrdered_L1 (n_slices_siftDownOrdered_L1 m) hi first root l some)
  unfold c_slices_siftDownOrdered_L1
  simp only [less_eq, Option.bind_some, Option.bind_fun_some, List.length_set, wq]
  (repeat' first | refine Tt.ite (by omega) ?_ | refine Tt.ndec (fun _ => ?_) fun _ => ?_ | refine Tt.dec (fun _ => ?_) fun _ => ?_ | refine Tt.cnd (fun _ => ?_) fun _ => ?_)
  all_goals first
    | exact Tt.pure rfl
    | exact ih' _ _ (by omega) (by omega) (by simp only [List.length_set]) (by omega)

theorem sift_tot (l : List D) (lo hi first : Int) (h0 : 0 ≤ first) (h1 : 0 ≤ lo) (h2 : lo ≤ 1048576) (h3 : first + hi ≤ l.length) (h4 : l.length ≤ 1048576) (h5 : 0 ≤ hi) :
    ∃ y, slices_siftDownOrdered l lo hi first = some y ∧ y.length = l.length := by
  obtain ⟨y, h, hl⟩ := sift1_tot hi first lo l h0 h1 h2 h3 h4 h5
  unfold slices_siftDownOrdered c_slices_siftDownOrdered
  rw [h]
  cases y with
  | inl y => exact ⟨y, rfl, hl⟩
  | inr y => exact ⟨y, rfl, hl⟩

theorem heap4_tot (f : Int) (lo : Int) (hj : Int) (i : Int) (l : List D) (hi : 0 ≤ f ∧ f + hj ≤ l.length ∧ l.length ≤ 1048576 ∧ 0 ≤ hj ∧ -1 ≤ i ∧ i ≤ hj) :
    ∃ y, slices_heapSortOrdered_L4 f lo hj i l = some y ∧ (y.1 = f ∧ y.2.1 = lo ∧ y.2.2.1 = hj ∧ y.2.2.2.length = l.length) := by
  refine Tt.loop (fun n (x : Int × Int × Int × Int × List D) => n_slices_heapSortOrdered_L4 n x.1 x.2.1 x.2.2.1 x.2.2.2.1 x.2.2.2.2) (fun x => 0 ≤ (x.1) ∧ (x.1) + (x.2.2.1) ≤ (x.2.2.2.2).length ∧ (x.2.2.2.2).length ≤ 1048576 ∧ 0 ≤ (x.2.2.1) ∧ -1 ≤ (x.2.2.2.1) ∧ (x.2.2.2.1) ≤ (x.2.2.1)) (fun x => ((x.2.2.2.1) + 1).toNat) (fun x y => (y.1 = (x.1) ∧ y.2.1 = (x.2.1) ∧ y.2.2.1 = (x.2.2.1) ∧ y.2.2.2.length = (x.2.2.2.2).length)) ?_ (f, lo, hj, i, l) hi
  clear hi
  rintro ⟨f, lo, hj, i, l⟩ hi ih
  have ih' : ∀ (f' : Int) (lo' : Int) (hj' : Int) (i' : Int) (l' : List D), (0 ≤ f' ∧ f' + hj' ≤ l'.length ∧ l'.length ≤ 1048576 ∧ 0 ≤ hj' ∧ -1 ≤ i' ∧ i' ≤ hj') → (i' + 1).toNat < (i + 1).toNat → Tt (fun m => (i + 1).toNat ≤ m) (fun y => (y.1 = f' ∧ y.2.1 = lo' ∧ y.2.2.1 = hj' ∧ y.2.2.2.length = l'.length)) (fun m => n_slices_heapSortOrdered_L4 m f' lo' hj' i' l') :=
    fun f' lo' hj' i' l' q1 q2 => ih (f', lo', hj', i', l') q1 q2
  clear ih
  simp only at hi
  show Tt _ _ (fun m => c_slices_heapSortOrdered_L4 (n_slices_heapSortOrdered_L4 m) f lo hj i l some)
  unfold c_slices_heapSortOrdered_L4
  simp only [less_eq, Option.bind_some, Option.bind_fun_some, List.length_set, wq]
  (repeat' first | refine Tt.ite (by omega) ?_ | refine Tt.ndec (fun _ => ?_) fun _ => ?_ | refine Tt.dec (fun _ => ?_) fun _ => ?_ | refine Tt.cnd (fun _ => ?_) fun _ => ?_)
  · refine Tt.bind (Tt.con (sift_tot _ _ _ _ (by omega) (by omega) (by omega) (by omega) (by omega) (by omega))) (fun v hv => ?_)
    exact (ih' _ _ _ _ _ (by omega) (by omega)).mono (fun _ h => h) (fun _ h => by rw [hv] at h; exact h)
  · exact Tt.pure ⟨rfl, rfl, rfl, rfl⟩

theorem heap8_tot (f : Int) (lo : Int) (i : Int) (l : List D) (hi : 0 ≤ f ∧ lo = 0 ∧ l.length ≤ 1048576 ∧ -1 ≤ i ∧ f + i < l.length) :
    ∃ y, slices_heapSortOrdered_L8 f lo i l = some y ∧ (y.length = l.length) := by
  refine Tt.loop (fun n (x : Int × Int × Int × List D) => n_slices_heapSortOrdered_L8 n x.1 x.2.1 x.2.2.1 x.2.2.2) (fun x => 0 ≤ (x.1) ∧ (x.2.1) = 0 ∧ (x.2.2.2).length ≤ 1048576 ∧ -1 ≤ (x.2.2.1) ∧ (x.1) + (x.2.2.1) < (x.2.2.2).length) (fun x => ((x.2.2.1) + 1).toNat) (fun x y => (y.length = (x.2.2.2).length)) ?_ (f, lo, i, l) hi
  clear hi
  rintro ⟨f, lo, i, l⟩ hi ih
  have ih' : ∀ (f' : Int) (lo' : Int) (i' : Int) (l' : List D), (0 ≤ f' ∧ lo' = 0 ∧ l'.length ≤ 1048576 ∧ -1 ≤ i' ∧ f' + i' < l'.length) → (i' + 1).toNat < (i + 1).toNat → Tt (fun m => (i + 1).toNat ≤ m) (fun y => (y.length = l'.length)) (fun m => n_slices_heapSortOrdered_L8 m f' lo' i' l') :=
    fun f' lo' i' l' q1 q2 => ih (f', lo', i', l') q1 q2
  clear ih
  simp only at hi
  show Tt _ _ (fun m => c_slices_heapSortOrdered_L8 (n_slices_heapSortOrdered_L8 m) f lo i l some)
  unfold c_slices_heapSortOrdered_L8
  simp only [less_eq, Option.bind_some, Option.bind_fun_some, List.length_set, wq]
  (repeat' first | refine Tt.ite (by omega) ?_ | refine Tt.ndec (fun _ => ?_) fun _ => ?_ | refine Tt.dec (fun _ => ?_) fun _ => ?_ | refine Tt.cnd (fun _ => ?_) fun _ => ?_)
  · refine Tt.bind (Tt.con (sift_tot _ _ _ _ (by omega) (by omega) (by omega) (by (try simp only [List.length_set]); omega) (by (try simp only [List.length_set]); omega) (by omega))) (fun v hv => ?_)
    simp only [List.length_set] at hv
    exact (ih' _ _ _ _ (by omega) (by omega)).mono (fun _ h => h) (fun _ h => by rw [hv] at h; exact h)
  · exact Tt.pure rfl

theorem tq {n : Int} (h : 0 ≤ n) (k : Int) : n.tdiv k = n / k := Int.tdiv_eq_ediv_of_nonneg h

theorem heap_tot (l : List D) (a b : Int) (h : 0 ≤ a ∧ a < b ∧ b ≤ l.length ∧ l.length ≤ 1048576) : ∃ y, slices_heapSortOrdered l a b = some y ∧ y.length = l.length := by
  refine Tt.out ?_
  unfold slices_heapSortOrdered c_slices_heapSortOrdered
  rw [tq (by rw [wq, wq]; omega)]
  simp only [wq]
  (repeat' first | refine Tt.ite (by omega) ?_ | refine Tt.ndec (fun _ => ?_) fun _ => ?_ | refine Tt.dec (fun _ => ?_) fun _ => ?_ | refine Tt.cnd (fun _ => ?_) fun _ => ?_)
  refine Tt.bind (Tt.con (heap4_tot _ _ _ _ _ (by omega))) (fun v hv => ?_)
  refine Tt.bind (Tt.con (heap8_tot _ _ _ _ (by omega))) (fun w hw => ?_)
  exact Tt.pure (by omega)

theorem ins4_tot (a : Int) (b : Int) (i : Int) (j : Int) (l : List D) (hi : 0 ≤ a ∧ j < l.length ∧ l.length ≤ 1048576) :
    ∃ y, slices_insertionSortOrdered_L4 a b i j l = some y ∧ (y.1 = a ∧ y.2.1 = b ∧ y.2.2.1 = i ∧ y.2.2.2.length = l.length) := by
  refine Tt.loop (fun n (x : Int × Int × Int × Int × List D) => n_slices_insertionSortOrdered_L4 n x.1 x.2.1 x.2.2.1 x.2.2.2.1 x.2.2.2.2) (fun x => 0 ≤ (x.1) ∧ (x.2.2.2.1) < (x.2.2.2.2).length ∧ (x.2.2.2.2).length ≤ 1048576) (fun x => ((x.2.2.2.1) - (x.1)).toNat) (fun x y => (y.1 = (x.1) ∧ y.2.1 = (x.2.1) ∧ y.2.2.1 = (x.2.2.1) ∧ y.2.2.2.length = (x.2.2.2.2).length)) ?_ (a, b, i, j, l) hi
  clear hi
  rintro ⟨a, b, i, j, l⟩ hi ih
  have ih' : ∀ (a' : Int) (b' : Int) (i' : Int) (j' : Int) (l' : List D), (0 ≤ a' ∧ j' < l'.length ∧ l'.length ≤ 1048576) → (j' - a').toNat < (j - a).toNat → Tt (fun m => (j - a).toNat ≤ m) (fun y => (y.1 = a' ∧ y.2.1 = b' ∧ y.2.2.1 = i' ∧ y.2.2.2.length = l'.length)) (fun m => n_slices_insertionSortOrdered_L4 m a' b' i' j' l') :=
    fun a' b' i' j' l' q1 q2 => ih (a', b', i', j', l') q1 q2
  clear ih
  simp only at hi
  show Tt _ _ (fun m => c_slices_insertionSortOrdered_L4 (n_slices_insertionSortOrdered_L4 m) a b i j l some)
  unfold c_slices_insertionSortOrdered_L4
  simp only [less_eq, Option.bind_some, Option.bind_fun_some, List.length_set, wq]
  (repeat' first | refine Tt.ite (by omega) ?_ | refine Tt.ndec (fun _ => ?_) fun _ => ?_ | refine Tt.dec (fun _ => ?_) fun _ => ?_ | refine Tt.cnd (fun _ => ?_) fun _ => ?_)
  all_goals first
    | exact Tt.pure (by exact ⟨rfl, rfl, rfl, rfl⟩)
    | exact (ih' _ _ _ _ _ (by (try simp only [List.length_set]); omega) (by omega)).mono (fun _ h => h) (fun _ h => by simpa only [List.length_set] using h)

theorem ins1_tot (a : Int) (b : Int) (i : Int) (l : List D) (hi : 0 ≤ a ∧ 0 ≤ i ∧ b ≤ l.length ∧ l.length ≤ 1048576) :
    ∃ y, slices_insertionSortOrdered_L1 a b i l = some y ∧ (y.length = l.length) := by
  refine Tt.loop (fun n (x : Int × Int × Int × List D) => n_slices_insertionSortOrdered_L1 n x.1 x.2.1 x.2.2.1 x.2.2.2) (fun x => 0 ≤ (x.1) ∧ 0 ≤ (x.2.2.1) ∧ (x.2.1) ≤ (x.2.2.2).length ∧ (x.2.2.2).length ≤ 1048576) (fun x => ((x.2.1) - (x.2.2.1)).toNat) (fun x y => (y.length = (x.2.2.2).length)) ?_ (a, b, i, l) hi
  clear hi
  rintro ⟨a, b, i, l⟩ hi ih
  have ih' : ∀ (a' : Int) (b' : Int) (i' : Int) (l' : List D), (0 ≤ a' ∧ 0 ≤ i' ∧ b' ≤ l'.length ∧ l'.length ≤ 1048576) → (b' - i').toNat < (b - i).toNat → Tt (fun m => (b - i).toNat ≤ m) (fun y => (y.length = l'.length)) (fun m => n_slices_insertionSortOrdered_L1 m a' b' i' l') :=
    fun a' b' i' l' q1 q2 => ih (a', b', i', l') q1 q2
  clear ih
  simp only at hi
  show Tt _ _ (fun m => c_slices_insertionSortOrdered_L1 (n_slices_insertionSortOrdered_L1 m) a b i l some)
  unfold c_slices_insertionSortOrdered_L1
  simp only [less_eq, Option.bind_some, Option.bind_fun_some, List.length_set, wq]
  (repeat' first | refine Tt.ite (by omega) ?_ | refine Tt.ndec (fun _ => ?_) fun _ => ?_ | refine Tt.dec (fun _ => ?_) fun _ => ?_ | refine Tt.cnd (fun _ => ?_) fun _ => ?_)
  · refine Tt.bind (Tt.con (ins4_tot _ _ _ _ _ (by omega))) (fun v hv => ?_)
    exact (ih' _ _ _ _ (by omega) (by omega)).mono (fun _ h => h) (fun _ h => by omega)
  · exact Tt.pure rfl

theorem ins_tot (l : List D) (a b : Int) (h : 0 ≤ a ∧ a ≤ b ∧ b ≤ l.length ∧ l.length ≤ 1048576) : ∃ y, slices_insertionSortOrdered l a b = some y ∧ y.length = l.length := by
  refine Tt.out ?_
  unfold slices_insertionSortOrdered c_slices_insertionSortOrdered
  simp only [wq, Option.bind_fun_some]
  exact Tt.con (ins1_tot _ _ _ _ (by omega))

theorem rev2_tot (i : Int) (j : Int) (l : List D) (hi : 0 ≤ i ∧ j < l.length ∧ l.length ≤ 1048576) :
    ∃ y, slices_reverseRangeOrdered_L2 i j l = some y ∧ (y.length = l.length) := by
  refine Tt.loop (fun n (x : Int × Int × List D) => n_slices_reverseRangeOrdered_L2 n x.1 x.2.1 x.2.2) (fun x => 0 ≤ (x.1) ∧ (x.2.1) < (x.2.2).length ∧ (x.2.2).length ≤ 1048576) (fun x => ((x.2.1) - (x.1)).toNat) (fun x y => (y.length = (x.2.2).length)) ?_ (i, j, l) hi
  clear hi
  rintro ⟨i, j, l⟩ hi ih
  have ih' : ∀ (i' : Int) (j' : Int) (l' : List D), (0 ≤ i' ∧ j' < l'.length ∧ l'.length ≤ 1048576) → (j' - i').toNat < (j - i).toNat → Tt (fun m => (j - i).toNat ≤ m) (fun y => (y.length = l'.length)) (fun m => n_slices_reverseRangeOrdered_L2 m i' j' l') :=
    fun i' j' l' q1 q2 => ih (i', j', l') q1 q2
  clear ih
  simp only at hi
  show Tt _ _ (fun m => c_slices_reverseRangeOrdered_L2 (n_slices_reverseRangeOrdered_L2 m) i j l some)
  unfold c_slices_reverseRangeOrdered_L2
  simp only [less_eq, Option.bind_some, Option.bind_fun_some, List.length_set, wq]
  (repeat' first | refine Tt.ite (by omega) ?_ | refine Tt.ndec (fun _ => ?_) fun _ => ?_ | refine Tt.dec (fun _ => ?_) fun _ => ?_ | refine Tt.cnd (fun _ => ?_) fun _ => ?_)
  all_goals first
    | exact Tt.pure (by rfl)
    | exact (ih' _ _ _ (by (try simp only [List.length_set]); omega) (by omega)).mono (fun _ h => h) (fun _ h => by simpa only [List.length_set] using h)

theorem rev_tot (l : List D) (a b : Int) (h : 0 ≤ a ∧ a ≤ b ∧ b ≤ l.length ∧ l.length ≤ 1048576) : ∃ y, slices_reverseRangeOrdered l a b = some y ∧ y.length = l.length := by
  refine Tt.out ?_
  unfold slices_reverseRangeOrdered c_slices_reverseRangeOrdered
  simp only [wq, Option.bind_fun_some]
  exact Tt.con (rev2_tot _ _ _ (by omega))

theorem pin5_tot (a : Int) (b : Int) (i : Int) (j : Int) (l : List D) (hi : 0 ≤ a ∧ a < i ∧ i ≤ b ∧ b ≤ l.length ∧ l.length ≤ 1048576) :
    ∃ y, slices_partialInsertionSortOrdered_L5 a b i j l = some y ∧ (y.1 = a ∧ y.2.1 = b ∧ a < y.2.2.1 ∧ y.2.2.1 ≤ b ∧ y.2.2.2.1 = j ∧ y.2.2.2.2.length = l.length) := by
  refine Tt.loop (fun n (x : Int × Int × Int × Int × List D) => n_slices_partialInsertionSortOrdered_L5 n x.1 x.2.1 x.2.2.1 x.2.2.2.1 x.2.2.2.2) (fun x => 0 ≤ (x.1) ∧ (x.1) < (x.2.2.1) ∧ (x.2.2.1) ≤ (x.2.1) ∧ (x.2.1) ≤ (x.2.2.2.2).length ∧ (x.2.2.2.2).length ≤ 1048576) (fun x => ((x.2.1) - (x.2.2.1)).toNat) (fun x y => (y.1 = (x.1) ∧ y.2.1 = (x.2.1) ∧ (x.1) < y.2.2.1 ∧ y.2.2.1 ≤ (x.2.1) ∧ y.2.2.2.1 = (x.2.2.2.1) ∧ y.2.2.2.2.length = (x.2.2.2.2).length)) ?_ (a, b, i, j, l) hi
  clear hi
  rintro ⟨a, b, i, j, l⟩ hi ih
  have ih' : ∀ (a' : Int) (b' : Int) (i' : Int) (j' : Int) (l' : List D), (0 ≤ a' ∧ a' < i' ∧ i' ≤ b' ∧ b' ≤ l'.length ∧ l'.length ≤ 1048576) → (b' - i').toNat < (b - i).toNat → Tt (fun m => (b - i).toNat ≤ m) (fun y => (y.1 = a' ∧ y.2.1 = b' ∧ a' < y.2.2.1 ∧ y.2.2.1 ≤ b' ∧ y.2.2.2.1 = j' ∧ y.2.2.2.2.length = l'.length)) (fun m => n_slices_partialInsertionSortOrdered_L5 m a' b' i' j' l') :=
    fun a' b' i' j' l' q1 q2 => ih (a', b', i', j', l') q1 q2
  clear ih
  simp only at hi
  show Tt _ _ (fun m => c_slices_partialInsertionSortOrdered_L5 (n_slices_partialInsertionSortOrdered_L5 m) a b i j l some)
  unfold c_slices_partialInsertionSortOrdered_L5
  simp only [less_eq, Option.bind_some, Option.bind_fun_some, List.length_set, wq]
  (repeat' first | refine Tt.ite (by omega) ?_ | refine Tt.ndec (fun _ => ?_) fun _ => ?_ | refine Tt.dec (fun _ => ?_) fun _ => ?_ | refine Tt.cnd (fun _ => ?_) fun _ => ?_)
  all_goals first
    | exact Tt.pure (by dsimp only; omega)
    | exact ih' _ _ _ _ _ (by omega) (by omega)

theorem pin14_tot (a : Int) (b : Int) (i : Int) (j : Int) (k : Int) (l : List D) (hi : l.length ≤ 1048576 ∧ k < l.length) :
    ∃ y, slices_partialInsertionSortOrdered_L14 a b i j k l = some y ∧ (y.1 = a ∧ y.2.1 = b ∧ y.2.2.1 = i ∧ y.2.2.2.1 = j ∧ y.2.2.2.2.length = l.length) := by
  refine Tt.loop (fun n (x : Int × Int × Int × Int × Int × List D) => n_slices_partialInsertionSortOrdered_L14 n x.1 x.2.1 x.2.2.1 x.2.2.2.1 x.2.2.2.2.1 x.2.2.2.2.2) (fun x => (x.2.2.2.2.2).length ≤ 1048576 ∧ (x.2.2.2.2.1) < (x.2.2.2.2.2).length) (fun x => ((x.2.2.2.2.1)).toNat) (fun x y => (y.1 = (x.1) ∧ y.2.1 = (x.2.1) ∧ y.2.2.1 = (x.2.2.1) ∧ y.2.2.2.1 = (x.2.2.2.1) ∧ y.2.2.2.2.length = (x.2.2.2.2.2).length)) ?_ (a, b, i, j, k, l) hi
  clear hi
  rintro ⟨a, b, i, j, k, l⟩ hi ih
  have ih' : ∀ (a' : Int) (b' : Int) (i' : Int) (j' : Int) (k' : Int) (l' : List D), (l'.length ≤ 1048576 ∧ k' < l'.length) → (k').toNat < (k).toNat → Tt (fun m => (k).toNat ≤ m) (fun y => (y.1 = a' ∧ y.2.1 = b' ∧ y.2.2.1 = i' ∧ y.2.2.2.1 = j' ∧ y.2.2.2.2.length = l'.length)) (fun m => n_slices_partialInsertionSortOrdered_L14 m a' b' i' j' k' l') :=
    fun a' b' i' j' k' l' q1 q2 => ih (a', b', i', j', k', l') q1 q2
  clear ih
  simp only at hi
  show Tt _ _ (fun m => c_slices_partialInsertionSortOrdered_L14 (n_slices_partialInsertionSortOrdered_L14 m) a b i j k l some)
  unfold c_slices_partialInsertionSortOrdered_L14
  simp only [less_eq, Option.bind_some, Option.bind_fun_some, List.length_set, wq]
  (repeat' first | refine Tt.ite (by omega) ?_ | refine Tt.ndec (fun _ => ?_) fun _ => ?_ | refine Tt.dec (fun _ => ?_) fun _ => ?_ | refine Tt.cnd (fun _ => ?_) fun _ => ?_)
  all_goals first
    | exact Tt.pure (by exact ⟨rfl, rfl, rfl, rfl, rfl⟩)
    | exact (ih' _ _ _ _ _ _ (by (try simp only [List.length_set]); omega) (by omega)).mono (fun _ h => h) (fun _ h => by simpa only [List.length_set] using h)

theorem pin20_tot (a : Int) (b : Int) (i : Int) (j : Int) (k : Int) (l : List D) (hi : l.length ≤ 1048576 ∧ 1 ≤ k ∧ b ≤ l.length) :
    ∃ y, slices_partialInsertionSortOrdered_L20 a b i j k l = some y ∧ (y.1 = a ∧ y.2.1 = b ∧ y.2.2.1 = i ∧ y.2.2.2.1 = j ∧ y.2.2.2.2.length = l.length) := by
  refine Tt.loop (fun n (x : Int × Int × Int × Int × Int × List D) => n_slices_partialInsertionSortOrdered_L20 n x.1 x.2.1 x.2.2.1 x.2.2.2.1 x.2.2.2.2.1 x.2.2.2.2.2) (fun x => (x.2.2.2.2.2).length ≤ 1048576 ∧ 1 ≤ (x.2.2.2.2.1) ∧ (x.2.1) ≤ (x.2.2.2.2.2).length) (fun x => ((x.2.1) - (x.2.2.2.2.1)).toNat) (fun x y => (y.1 = (x.1) ∧ y.2.1 = (x.2.1) ∧ y.2.2.1 = (x.2.2.1) ∧ y.2.2.2.1 = (x.2.2.2.1) ∧ y.2.2.2.2.length = (x.2.2.2.2.2).length)) ?_ (a, b, i, j, k, l) hi
  clear hi
  rintro ⟨a, b, i, j, k, l⟩ hi ih
  have ih' : ∀ (a' : Int) (b' : Int) (i' : Int) (j' : Int) (k' : Int) (l' : List D), (l'.length ≤ 1048576 ∧ 1 ≤ k' ∧ b' ≤ l'.length) → (b' - k').toNat < (b - k).toNat → Tt (fun m => (b - k).toNat ≤ m) (fun y => (y.1 = a' ∧ y.2.1 = b' ∧ y.2.2.1 = i' ∧ y.2.2.2.1 = j' ∧ y.2.2.2.2.length = l'.length)) (fun m => n_slices_partialInsertionSortOrdered_L20 m a' b' i' j' k' l') :=
    fun a' b' i' j' k' l' q1 q2 => ih (a', b', i', j', k', l') q1 q2
  clear ih
  simp only at hi
  show Tt _ _ (fun m => c_slices_partialInsertionSortOrdered_L20 (n_slices_partialInsertionSortOrdered_L20 m) a b i j k l some)
  unfold c_slices_partialInsertionSortOrdered_L20
  simp only [less_eq, Option.bind_some, Option.bind_fun_some, List.length_set, wq]
  (repeat' first | refine Tt.ite (by omega) ?_ | refine Tt.ndec (fun _ => ?_) fun _ => ?_ | refine Tt.dec (fun _ => ?_) fun _ => ?_ | refine Tt.cnd (fun _ => ?_) fun _ => ?_)
  all_goals first
    | exact Tt.pure (by exact ⟨rfl, rfl, rfl, rfl, rfl⟩)
    | exact (ih' _ _ _ _ _ _ (by (try simp only [List.length_set]); omega) (by omega)).mono (fun _ h => h) (fun _ h => by simpa only [List.length_set] using h)

def lenP : (Bool × List D) ⊕ List D → Nat | .inl l => l.2.length | .inr l => l.length

theorem pin3_tot (a : Int) (b : Int) (i : Int) (j : Int) (l : List D) (hi : 0 ≤ a ∧ a < i ∧ i ≤ b ∧ b ≤ l.length ∧ l.length ≤ 1048576 ∧ 0 ≤ j) :
    ∃ y, slices_partialInsertionSortOrdered_L3 a b i j l = some y ∧ (lenP y = l.length) := by
  refine Tt.loop (fun n (x : Int × Int × Int × Int × List D) => n_slices_partialInsertionSortOrdered_L3 n x.1 x.2.1 x.2.2.1 x.2.2.2.1 x.2.2.2.2) (fun x => 0 ≤ (x.1) ∧ (x.1) < (x.2.2.1) ∧ (x.2.2.1) ≤ (x.2.1) ∧ (x.2.1) ≤ (x.2.2.2.2).length ∧ (x.2.2.2.2).length ≤ 1048576 ∧ 0 ≤ (x.2.2.2.1)) (fun x => (5 - (x.2.2.2.1)).toNat) (fun x y => (lenP y = (x.2.2.2.2).length)) ?_ (a, b, i, j, l) hi
  clear hi
  rintro ⟨a, b, i, j, l⟩ hi ih
  have ih' : ∀ (a' : Int) (b' : Int) (i' : Int) (j' : Int) (l' : List D), (0 ≤ a' ∧ a' < i' ∧ i' ≤ b' ∧ b' ≤ l'.length ∧ l'.length ≤ 1048576 ∧ 0 ≤ j') → (5 - j').toNat < (5 - j).toNat → Tt (fun m => (5 - j).toNat ≤ m) (fun y => (lenP y = l'.length)) (fun m => n_slices_partialInsertionSortOrdered_L3 m a' b' i' j' l') :=
    fun a' b' i' j' l' q1 q2 => ih (a', b', i', j', l') q1 q2
  clear ih
  simp only at hi
  show Tt _ _ (fun m => c_slices_partialInsertionSortOrdered_L3 (n_slices_partialInsertionSortOrdered_L3 m) a b i j l some)
  unfold c_slices_partialInsertionSortOrdered_L3
  simp only [less_eq, Option.bind_some, Option.bind_fun_some, List.length_set, wq]
  (repeat' first | refine Tt.ite (by omega) ?_ | refine Tt.ndec (fun _ => ?_) fun _ => ?_ | refine Tt.dec (fun _ => ?_) fun _ => ?_ | refine Tt.cnd (fun _ => ?_) fun _ => ?_)
  · refine Tt.bind (Tt.con (pin5_tot _ _ _ _ _ (by omega))) (fun v hv => ?_)
    (repeat' first | refine Tt.ite (by omega) ?_ | refine Tt.ndec (fun _ => ?_) fun _ => ?_ | refine Tt.dec (fun _ => ?_) fun _ => ?_ | refine Tt.cnd (fun _ => ?_) fun _ => ?_)
    all_goals first
      | exact Tt.pure (by simp only [lenP]; omega)
      | (refine Tt.bind (Tt.con (pin14_tot _ _ _ _ _ _ (by (try simp only [List.length_set]); omega))) (fun w hw => ?_)
         simp only [List.length_set] at hw
         (repeat' first | refine Tt.ite (by omega) ?_ | refine Tt.ndec (fun _ => ?_) fun _ => ?_ | refine Tt.dec (fun _ => ?_) fun _ => ?_ | refine Tt.cnd (fun _ => ?_) fun _ => ?_)
         · refine Tt.bind (Tt.con (pin20_tot _ _ _ _ _ _ (by (try simp only [List.length_set]); omega))) (fun u hu => ?_)
           exact (ih' _ _ _ _ _ (by omega) (by omega)).mono (fun _ h => h) (fun _ h => by omega)
         · exact (ih' _ _ _ _ _ (by omega) (by omega)).mono (fun _ h => h) (fun _ h => by omega))
      | (refine Tt.bind (Tt.con (pin20_tot _ _ _ _ _ _ (by (try simp only [List.length_set]); omega))) (fun u hu => ?_)
         simp only [List.length_set] at hu
         exact (ih' _ _ _ _ _ (by omega) (by omega)).mono (fun _ h => h) (fun _ h => by omega))
      | exact (ih' _ _ _ _ _ (by (try simp only [List.length_set]); omega) (by omega)).mono (fun _ h => h) (fun _ h => by simp only [List.length_set] at h; omega)
  · exact Tt.pure rfl

theorem pin_tot (l : List D) (a b : Int) (h : 0 ≤ a ∧ a < b ∧ b ≤ l.length ∧ l.length ≤ 1048576) : ∃ y, slices_partialInsertionSortOrdered l a b = some y ∧ y.2.length = l.length := by
  refine Tt.out ?_
  unfold slices_partialInsertionSortOrdered c_slices_partialInsertionSortOrdered
  simp only [wq]
  refine Tt.bind (Tt.con (pin3_tot _ _ _ _ _ (by omega))) (fun v hv => ?_)
  cases v with
  | inl v => exact Tt.pure hv
  | inr v => exact Tt.pure hv

theorem peqL3_tot (a : Int) (i : Int) (j : Int) (l : List D) (hi : 0 ≤ a ∧ a < i ∧ a < l.length ∧ j < l.length ∧ -1 ≤ j ∧ i ≤ 1048577 ∧ l.length ≤ 1048576) :
    ∃ y, slices_partitionEqualOrdered_L3 a i j l = some y ∧ (y.1 = a ∧ i ≤ y.2.1 ∧ y.2.1 ≤ max i (j + 1) ∧ y.2.2.1 = j ∧ y.2.2.2.length = l.length) := by
  refine Tt.loop (fun n (x : Int × Int × Int × List D) => n_slices_partitionEqualOrdered_L3 n x.1 x.2.1 x.2.2.1 x.2.2.2) (fun x => 0 ≤ (x.1) ∧ (x.1) < (x.2.1) ∧ (x.1) < (x.2.2.2).length ∧ (x.2.2.1) < (x.2.2.2).length ∧ -1 ≤ (x.2.2.1) ∧ (x.2.1) ≤ 1048577 ∧ (x.2.2.2).length ≤ 1048576) (fun x => ((x.2.2.1) + 1 - (x.2.1)).toNat) (fun x y => (y.1 = (x.1) ∧ (x.2.1) ≤ y.2.1 ∧ y.2.1 ≤ max (x.2.1) ((x.2.2.1) + 1) ∧ y.2.2.1 = (x.2.2.1) ∧ y.2.2.2.length = (x.2.2.2).length)) ?_ (a, i, j, l) hi
  clear hi
  rintro ⟨a, i, j, l⟩ hi ih
  have ih' : ∀ (a' : Int) (i' : Int) (j' : Int) (l' : List D), (0 ≤ a' ∧ a' < i' ∧ a' < l'.length ∧ j' < l'.length ∧ -1 ≤ j' ∧ i' ≤ 1048577 ∧ l'.length ≤ 1048576) → (j' + 1 - i').toNat < (j + 1 - i).toNat → Tt (fun m => (j + 1 - i).toNat ≤ m) (fun y => (y.1 = a' ∧ i' ≤ y.2.1 ∧ y.2.1 ≤ max i' (j' + 1) ∧ y.2.2.1 = j' ∧ y.2.2.2.length = l'.length)) (fun m => n_slices_partitionEqualOrdered_L3 m a' i' j' l') :=
    fun a' i' j' l' q1 q2 => ih (a', i', j', l') q1 q2
  clear ih
  simp only at hi
  show Tt _ _ (fun m => c_slices_partitionEqualOrdered_L3 (n_slices_partitionEqualOrdered_L3 m) a i j l some)
  unfold c_slices_partitionEqualOrdered_L3
  simp only [less_eq, Option.bind_some, Option.bind_fun_some, List.length_set, wq]
  (repeat' first | refine Tt.ite (by omega) ?_ | refine Tt.ndec (fun _ => ?_) fun _ => ?_ | refine Tt.dec (fun _ => ?_) fun _ => ?_ | refine Tt.cnd (fun _ => ?_) fun _ => ?_)
  all_goals first
    | exact Tt.pure (by dsimp only; omega)
    | exact (ih' _ _ _ _ (by omega) (by omega)).mono (fun _ h => h) (fun _ h => by omega)
theorem peqL5_tot (a : Int) (i : Int) (j : Int) (l : List D) (hi : 0 ≤ a ∧ a < i ∧ a < l.length ∧ j < l.length ∧ -1 ≤ j ∧ i ≤ 1048577 ∧ l.length ≤ 1048576) :
    ∃ y, slices_partitionEqualOrdered_L5 a i j l = some y ∧ (y.1 = a ∧ y.2.1 = i ∧ y.2.2.1 ≤ j ∧ min j (i - 1) ≤ y.2.2.1 ∧ y.2.2.2.length = l.length) := by
  refine Tt.loop (fun n (x : Int × Int × Int × List D) => n_slices_partitionEqualOrdered_L5 n x.1 x.2.1 x.2.2.1 x.2.2.2) (fun x => 0 ≤ (x.1) ∧ (x.1) < (x.2.1) ∧ (x.1) < (x.2.2.2).length ∧ (x.2.2.1) < (x.2.2.2).length ∧ -1 ≤ (x.2.2.1) ∧ (x.2.1) ≤ 1048577 ∧ (x.2.2.2).length ≤ 1048576) (fun x => ((x.2.2.1) + 1 - (x.2.1)).toNat) (fun x y => (y.1 = (x.1) ∧ y.2.1 = (x.2.1) ∧ y.2.2.1 ≤ (x.2.2.1) ∧ min (x.2.2.1) ((x.2.1) - 1) ≤ y.2.2.1 ∧ y.2.2.2.length = (x.2.2.2).length)) ?_ (a, i, j, l) hi
  clear hi
  rintro ⟨a, i, j, l⟩ hi ih
  have ih' : ∀ (a' : Int) (i' : Int) (j' : Int) (l' : List D), (0 ≤ a' ∧ a' < i' ∧ a' < l'.length ∧ j' < l'.length ∧ -1 ≤ j' ∧ i' ≤ 1048577 ∧ l'.length ≤ 1048576) → (j' + 1 - i').toNat < (j + 1 - i).toNat → Tt (fun m => (j + 1 - i).toNat ≤ m) (fun y => (y.1 = a' ∧ y.2.1 = i' ∧ y.2.2.1 ≤ j' ∧ min j' (i' - 1) ≤ y.2.2.1 ∧ y.2.2.2.length = l'.length)) (fun m => n_slices_partitionEqualOrdered_L5 m a' i' j' l') :=
    fun a' i' j' l' q1 q2 => ih (a', i', j', l') q1 q2
  clear ih
  simp only at hi
  show Tt _ _ (fun m => c_slices_partitionEqualOrdered_L5 (n_slices_partitionEqualOrdered_L5 m) a i j l some)
  unfold c_slices_partitionEqualOrdered_L5
  simp only [less_eq, Option.bind_some, Option.bind_fun_some, List.length_set, wq]
  (repeat' first | refine Tt.ite (by omega) ?_ | refine Tt.ndec (fun _ => ?_) fun _ => ?_ | refine Tt.dec (fun _ => ?_) fun _ => ?_ | refine Tt.cnd (fun _ => ?_) fun _ => ?_)
  all_goals first
    | exact Tt.pure (by dsimp only; omega)
    | exact (ih' _ _ _ _ (by omega) (by omega)).mono (fun _ h => h) (fun _ h => by omega)

theorem peqL_tot (a : Int) (i : Int) (j : Int) (l : List D) (hi : 0 ≤ a ∧ a < i ∧ a < l.length ∧ j < l.length ∧ a - 1 ≤ j ∧ i ≤ l.length ∧ l.length ≤ 1048576) :
    ∃ y, slices_partitionEqualOrdered_L100003 a i j l = some y ∧ (i ≤ y.1 ∧ y.1 ≤ max i (j + 1) ∧ y.2.length = l.length) := by
  refine Tt.loop (fun n (x : Int × Int × Int × List D) => n_slices_partitionEqualOrdered_L100003 n x.1 x.2.1 x.2.2.1 x.2.2.2) (fun x => 0 ≤ (x.1) ∧ (x.1) < (x.2.1) ∧ (x.1) < (x.2.2.2).length ∧ (x.2.2.1) < (x.2.2.2).length ∧ (x.1) - 1 ≤ (x.2.2.1) ∧ (x.2.1) ≤ (x.2.2.2).length ∧ (x.2.2.2).length ≤ 1048576) (fun x => ((x.2.2.1) + 2 - (x.2.1)).toNat) (fun x y => ((x.2.1) ≤ y.1 ∧ y.1 ≤ max (x.2.1) ((x.2.2.1) + 1) ∧ y.2.length = (x.2.2.2).length)) ?_ (a, i, j, l) hi
  clear hi
  rintro ⟨a, i, j, l⟩ hi ih
  have ih' : ∀ (a' : Int) (i' : Int) (j' : Int) (l' : List D), (0 ≤ a' ∧ a' < i' ∧ a' < l'.length ∧ j' < l'.length ∧ a' - 1 ≤ j' ∧ i' ≤ l'.length ∧ l'.length ≤ 1048576) → (j' + 2 - i').toNat < (j + 2 - i).toNat → Tt (fun m => (j + 2 - i).toNat ≤ m) (fun y => (i' ≤ y.1 ∧ y.1 ≤ max i' (j' + 1) ∧ y.2.length = l'.length)) (fun m => n_slices_partitionEqualOrdered_L100003 m a' i' j' l') :=
    fun a' i' j' l' q1 q2 => ih (a', i', j', l') q1 q2
  clear ih
  simp only at hi
  show Tt _ _ (fun m => c_slices_partitionEqualOrdered_L100003 (n_slices_partitionEqualOrdered_L100003 m) a i j l some)
  unfold c_slices_partitionEqualOrdered_L100003
  simp only [less_eq, Option.bind_some, Option.bind_fun_some, List.length_set, wq]
  refine Tt.bind (Tt.con (peqL3_tot _ _ _ _ (by omega))) (fun v hv => ?_)
  refine Tt.bind (Tt.con (peqL5_tot _ _ _ _ (by omega))) (fun w hw => ?_)
  (repeat' first | refine Tt.ite (by omega) ?_ | refine Tt.ndec (fun _ => ?_) fun _ => ?_ | refine Tt.dec (fun _ => ?_) fun _ => ?_ | refine Tt.cnd (fun _ => ?_) fun _ => ?_)
  · exact Tt.pure (by dsimp only; omega)
  · exact (ih' _ _ _ _ (by (try simp only [List.length_set]); omega) (by omega)).mono (fun _ h => h) (fun _ h => by simp only [List.length_set] at h; omega)

theorem peq_tot (l : List D) (a b p : Int) (h : 0 ≤ a ∧ a ≤ p ∧ p < b ∧ b ≤ l.length ∧ l.length ≤ 1048576) : ∃ y, slices_partitionEqualOrdered l a b p = some y ∧ (a < y.1 ∧ y.1 ≤ b ∧ y.2.length = l.length) := by
  refine Tt.out ?_
  unfold slices_partitionEqualOrdered c_slices_partitionEqualOrdered
  simp only [wq, List.length_set]
  (repeat' first | refine Tt.ite (by omega) ?_ | refine Tt.ndec (fun _ => ?_) fun _ => ?_ | refine Tt.dec (fun _ => ?_) fun _ => ?_ | refine Tt.cnd (fun _ => ?_) fun _ => ?_)
  refine Tt.bind (Tt.con (peqL_tot _ _ _ _ (by (try simp only [List.length_set]); omega))) (fun v hv => ?_)
  simp only [List.length_set] at hv
  exact Tt.pure (by dsimp only; omega)

theorem parL3_tot (a : Int) (i : Int) (j : Int) (l : List D) (hi : 0 ≤ a ∧ a < i ∧ a < l.length ∧ j < l.length ∧ -1 ≤ j ∧ i ≤ 1048577 ∧ l.length ≤ 1048576) :
    ∃ y, slices_partitionOrdered_L3 a i j l = some y ∧ (y.1 = a ∧ i ≤ y.2.1 ∧ y.2.1 ≤ max i (j + 1) ∧ y.2.2.1 = j ∧ y.2.2.2.length = l.length) := by
  refine Tt.loop (fun n (x : Int × Int × Int × List D) => n_slices_partitionOrdered_L3 n x.1 x.2.1 x.2.2.1 x.2.2.2) (fun x => 0 ≤ (x.1) ∧ (x.1) < (x.2.1) ∧ (x.1) < (x.2.2.2).length ∧ (x.2.2.1) < (x.2.2.2).length ∧ -1 ≤ (x.2.2.1) ∧ (x.2.1) ≤ 1048577 ∧ (x.2.2.2).length ≤ 1048576) (fun x => ((x.2.2.1) + 1 - (x.2.1)).toNat) (fun x y => (y.1 = (x.1) ∧ (x.2.1) ≤ y.2.1 ∧ y.2.1 ≤ max (x.2.1) ((x.2.2.1) + 1) ∧ y.2.2.1 = (x.2.2.1) ∧ y.2.2.2.length = (x.2.2.2).length)) ?_ (a, i, j, l) hi
  clear hi
  rintro ⟨a, i, j, l⟩ hi ih
  have ih' : ∀ (a' : Int) (i' : Int) (j' : Int) (l' : List D), (0 ≤ a' ∧ a' < i' ∧ a' < l'.length ∧ j' < l'.length ∧ -1 ≤ j' ∧ i' ≤ 1048577 ∧ l'.length ≤ 1048576) → (j' + 1 - i').toNat < (j + 1 - i).toNat → Tt (fun m => (j + 1 - i).toNat ≤ m) (fun y => (y.1 = a' ∧ i' ≤ y.2.1 ∧ y.2.1 ≤ max i' (j' + 1) ∧ y.2.2.1 = j' ∧ y.2.2.2.length = l'.length)) (fun m => n_slices_partitionOrdered_L3 m a' i' j' l') :=
    fun a' i' j' l' q1 q2 => ih (a', i', j', l') q1 q2
  clear ih
  simp only at hi
  show Tt _ _ (fun m => c_slices_partitionOrdered_L3 (n_slices_partitionOrdered_L3 m) a i j l some)
  unfold c_slices_partitionOrdered_L3
  simp only [less_eq, Option.bind_some, Option.bind_fun_some, List.length_set, wq]
  (repeat' first | refine Tt.ite (by omega) ?_ | refine Tt.ndec (fun _ => ?_) fun _ => ?_ | refine Tt.dec (fun _ => ?_) fun _ => ?_ | refine Tt.cnd (fun _ => ?_) fun _ => ?_)
  all_goals first
    | exact Tt.pure (by dsimp only; omega)
    | exact (ih' _ _ _ _ (by omega) (by omega)).mono (fun _ h => h) (fun _ h => by omega)
theorem parL5_tot (a : Int) (i : Int) (j : Int) (l : List D) (hi : 0 ≤ a ∧ a < i ∧ a < l.length ∧ j < l.length ∧ -1 ≤ j ∧ i ≤ 1048577 ∧ l.length ≤ 1048576) :
    ∃ y, slices_partitionOrdered_L5 a i j l = some y ∧ (y.1 = a ∧ y.2.1 = i ∧ y.2.2.1 ≤ j ∧ min j (i - 1) ≤ y.2.2.1 ∧ y.2.2.2.length = l.length) := by
  refine Tt.loop (fun n (x : Int × Int × Int × List D) => n_slices_partitionOrdered_L5 n x.1 x.2.1 x.2.2.1 x.2.2.2) (fun x => 0 ≤ (x.1) ∧ (x.1) < (x.2.1) ∧ (x.1) < (x.2.2.2).length ∧ (x.2.2.1) < (x.2.2.2).length ∧ -1 ≤ (x.2.2.1) ∧ (x.2.1) ≤ 1048577 ∧ (x.2.2.2).length ≤ 1048576) (fun x => ((x.2.2.1) + 1 - (x.2.1)).toNat) (fun x y => (y.1 = (x.1) ∧ y.2.1 = (x.2.1) ∧ y.2.2.1 ≤ (x.2.2.1) ∧ min (x.2.2.1) ((x.2.1) - 1) ≤ y.2.2.1 ∧ y.2.2.2.length = (x.2.2.2).length)) ?_ (a, i, j, l) hi
  clear hi
  rintro ⟨a, i, j, l⟩ hi ih
  have ih' : ∀ (a' : Int) (i' : Int) (j' : Int) (l' : List D), (0 ≤ a' ∧ a' < i' ∧ a' < l'.length ∧ j' < l'.length ∧ -1 ≤ j' ∧ i' ≤ 1048577 ∧ l'.length ≤ 1048576) → (j' + 1 - i').toNat < (j + 1 - i).toNat → Tt (fun m => (j + 1 - i).toNat ≤ m) (fun y => (y.1 = a' ∧ y.2.1 = i' ∧ y.2.2.1 ≤ j' ∧ min j' (i' - 1) ≤ y.2.2.1 ∧ y.2.2.2.length = l'.length)) (fun m => n_slices_partitionOrdered_L5 m a' i' j' l') :=
    fun a' i' j' l' q1 q2 => ih (a', i', j', l') q1 q2
  clear ih
  simp only at hi
  show Tt _ _ (fun m => c_slices_partitionOrdered_L5 (n_slices_partitionOrdered_L5 m) a i j l some)
  unfold c_slices_partitionOrdered_L5
  simp only [less_eq, Option.bind_some, Option.bind_fun_some, List.length_set, wq]
  (repeat' first | refine Tt.ite (by omega) ?_ | refine Tt.ndec (fun _ => ?_) fun _ => ?_ | refine Tt.dec (fun _ => ?_) fun _ => ?_ | refine Tt.cnd (fun _ => ?_) fun _ => ?_)
  all_goals first
    | exact Tt.pure (by dsimp only; omega)
    | exact (ih' _ _ _ _ (by omega) (by omega)).mono (fun _ h => h) (fun _ h => by omega)

theorem parL13_tot (a : Int) (i : Int) (j : Int) (l : List D) (hi : 0 ≤ a ∧ a < i ∧ a < l.length ∧ j < l.length ∧ -1 ≤ j ∧ i ≤ 1048577 ∧ l.length ≤ 1048576) :
    ∃ y, slices_partitionOrdered_L13 a i j l = some y ∧ (y.1 = a ∧ i ≤ y.2.1 ∧ y.2.1 ≤ max i (j + 1) ∧ y.2.2.1 = j ∧ y.2.2.2.length = l.length) := by
  refine Tt.loop (fun n (x : Int × Int × Int × List D) => n_slices_partitionOrdered_L13 n x.1 x.2.1 x.2.2.1 x.2.2.2) (fun x => 0 ≤ (x.1) ∧ (x.1) < (x.2.1) ∧ (x.1) < (x.2.2.2).length ∧ (x.2.2.1) < (x.2.2.2).length ∧ -1 ≤ (x.2.2.1) ∧ (x.2.1) ≤ 1048577 ∧ (x.2.2.2).length ≤ 1048576) (fun x => ((x.2.2.1) + 1 - (x.2.1)).toNat) (fun x y => (y.1 = (x.1) ∧ (x.2.1) ≤ y.2.1 ∧ y.2.1 ≤ max (x.2.1) ((x.2.2.1) + 1) ∧ y.2.2.1 = (x.2.2.1) ∧ y.2.2.2.length = (x.2.2.2).length)) ?_ (a, i, j, l) hi
  clear hi
  rintro ⟨a, i, j, l⟩ hi ih
  have ih' : ∀ (a' : Int) (i' : Int) (j' : Int) (l' : List D), (0 ≤ a' ∧ a' < i' ∧ a' < l'.length ∧ j' < l'.length ∧ -1 ≤ j' ∧ i' ≤ 1048577 ∧ l'.length ≤ 1048576) → (j' + 1 - i').toNat < (j + 1 - i).toNat → Tt (fun m => (j + 1 - i).toNat ≤ m) (fun y => (y.1 = a' ∧ i' ≤ y.2.1 ∧ y.2.1 ≤ max i' (j' + 1) ∧ y.2.2.1 = j' ∧ y.2.2.2.length = l'.length)) (fun m => n_slices_partitionOrdered_L13 m a' i' j' l') :=
    fun a' i' j' l' q1 q2 => ih (a', i', j', l') q1 q2
  clear ih
  simp only at hi
  show Tt _ _ (fun m => c_slices_partitionOrdered_L13 (n_slices_partitionOrdered_L13 m) a i j l some)
  unfold c_slices_partitionOrdered_L13
  simp only [less_eq, Option.bind_some, Option.bind_fun_some, List.length_set, wq]
  (repeat' first | refine Tt.ite (by omega) ?_ | refine Tt.ndec (fun _ => ?_) fun _ => ?_ | refine Tt.dec (fun _ => ?_) fun _ => ?_ | refine Tt.cnd (fun _ => ?_) fun _ => ?_)
  all_goals first
    | exact Tt.pure (by dsimp only; omega)
    | exact (ih' _ _ _ _ (by omega) (by omega)).mono (fun _ h => h) (fun _ h => by omega)
theorem parL15_tot (a : Int) (i : Int) (j : Int) (l : List D) (hi : 0 ≤ a ∧ a < i ∧ a < l.length ∧ j < l.length ∧ -1 ≤ j ∧ i ≤ 1048577 ∧ l.length ≤ 1048576) :
    ∃ y, slices_partitionOrdered_L15 a i j l = some y ∧ (y.1 = a ∧ y.2.1 = i ∧ y.2.2.1 ≤ j ∧ min j (i - 1) ≤ y.2.2.1 ∧ y.2.2.2.length = l.length) := by
  refine Tt.loop (fun n (x : Int × Int × Int × List D) => n_slices_partitionOrdered_L15 n x.1 x.2.1 x.2.2.1 x.2.2.2) (fun x => 0 ≤ (x.1) ∧ (x.1) < (x.2.1) ∧ (x.1) < (x.2.2.2).length ∧ (x.2.2.1) < (x.2.2.2).length ∧ -1 ≤ (x.2.2.1) ∧ (x.2.1) ≤ 1048577 ∧ (x.2.2.2).length ≤ 1048576) (fun x => ((x.2.2.1) + 1 - (x.2.1)).toNat) (fun x y => (y.1 = (x.1) ∧ y.2.1 = (x.2.1) ∧ y.2.2.1 ≤ (x.2.2.1) ∧ min (x.2.2.1) ((x.2.1) - 1) ≤ y.2.2.1 ∧ y.2.2.2.length = (x.2.2.2).length)) ?_ (a, i, j, l) hi
  clear hi
  rintro ⟨a, i, j, l⟩ hi ih
  have ih' : ∀ (a' : Int) (i' : Int) (j' : Int) (l' : List D), (0 ≤ a' ∧ a' < i' ∧ a' < l'.length ∧ j' < l'.length ∧ -1 ≤ j' ∧ i' ≤ 1048577 ∧ l'.length ≤ 1048576) → (j' + 1 - i').toNat < (j + 1 - i).toNat → Tt (fun m => (j + 1 - i).toNat ≤ m) (fun y => (y.1 = a' ∧ y.2.1 = i' ∧ y.2.2.1 ≤ j' ∧ min j' (i' - 1) ≤ y.2.2.1 ∧ y.2.2.2.length = l'.length)) (fun m => n_slices_partitionOrdered_L15 m a' i' j' l') :=
    fun a' i' j' l' q1 q2 => ih (a', i', j', l') q1 q2
  clear ih
  simp only at hi
  show Tt _ _ (fun m => c_slices_partitionOrdered_L15 (n_slices_partitionOrdered_L15 m) a i j l some)
  unfold c_slices_partitionOrdered_L15
  simp only [less_eq, Option.bind_some, Option.bind_fun_some, List.length_set, wq]
  (repeat' first | refine Tt.ite (by omega) ?_ | refine Tt.ndec (fun _ => ?_) fun _ => ?_ | refine Tt.dec (fun _ => ?_) fun _ => ?_ | refine Tt.cnd (fun _ => ?_) fun _ => ?_)
  all_goals first
    | exact Tt.pure (by dsimp only; omega)
    | exact (ih' _ _ _ _ (by omega) (by omega)).mono (fun _ h => h) (fun _ h => by omega)

theorem parL_tot (a : Int) (i : Int) (j : Int) (l : List D) (hi : 0 ≤ a ∧ a < i ∧ a < l.length ∧ j < l.length ∧ a ≤ j ∧ i ≤ l.length ∧ l.length ≤ 1048576) :
    ∃ y, slices_partitionOrdered_L100013 a i j l = some y ∧ (y.1 = a ∧ a ≤ y.2.1 ∧ y.2.1 ≤ j ∧ y.2.2.length = l.length) := by
  refine Tt.loop (fun n (x : Int × Int × Int × List D) => n_slices_partitionOrdered_L100013 n x.1 x.2.1 x.2.2.1 x.2.2.2) (fun x => 0 ≤ (x.1) ∧ (x.1) < (x.2.1) ∧ (x.1) < (x.2.2.2).length ∧ (x.2.2.1) < (x.2.2.2).length ∧ (x.1) ≤ (x.2.2.1) ∧ (x.2.1) ≤ (x.2.2.2).length ∧ (x.2.2.2).length ≤ 1048576) (fun x => ((x.2.2.1) + 2 - (x.2.1)).toNat) (fun x y => (y.1 = (x.1) ∧ (x.1) ≤ y.2.1 ∧ y.2.1 ≤ (x.2.2.1) ∧ y.2.2.length = (x.2.2.2).length)) ?_ (a, i, j, l) hi
  clear hi
  rintro ⟨a, i, j, l⟩ hi ih
  have ih' : ∀ (a' : Int) (i' : Int) (j' : Int) (l' : List D), (0 ≤ a' ∧ a' < i' ∧ a' < l'.length ∧ j' < l'.length ∧ a' ≤ j' ∧ i' ≤ l'.length ∧ l'.length ≤ 1048576) → (j' + 2 - i').toNat < (j + 2 - i).toNat → Tt (fun m => (j + 2 - i).toNat ≤ m) (fun y => (y.1 = a' ∧ a' ≤ y.2.1 ∧ y.2.1 ≤ j' ∧ y.2.2.length = l'.length)) (fun m => n_slices_partitionOrdered_L100013 m a' i' j' l') :=
    fun a' i' j' l' q1 q2 => ih (a', i', j', l') q1 q2
  clear ih
  simp only at hi
  show Tt _ _ (fun m => c_slices_partitionOrdered_L100013 (n_slices_partitionOrdered_L100013 m) a i j l some)
  unfold c_slices_partitionOrdered_L100013
  simp only [less_eq, Option.bind_some, Option.bind_fun_some, List.length_set, wq]
  refine Tt.bind (Tt.con (parL13_tot _ _ _ _ (by omega))) (fun v hv => ?_)
  refine Tt.bind (Tt.con (parL15_tot _ _ _ _ (by omega))) (fun w hw => ?_)
  (repeat' first | refine Tt.ite (by omega) ?_ | refine Tt.ndec (fun _ => ?_) fun _ => ?_ | refine Tt.dec (fun _ => ?_) fun _ => ?_ | refine Tt.cnd (fun _ => ?_) fun _ => ?_)
  · exact Tt.pure (by dsimp only; omega)
  · exact (ih' _ _ _ _ (by (try simp only [List.length_set]); omega) (by omega)).mono (fun _ h => h) (fun _ h => by simp only [List.length_set] at h; omega)

theorem par_tot (l : List D) (a b p : Int) (h : 0 ≤ a ∧ a + 1 < b ∧ a ≤ p ∧ p < b ∧ b ≤ l.length ∧ l.length ≤ 1048576) : ∃ y, slices_partitionOrdered l a b p = some y ∧ (a ≤ y.1 ∧ y.1 < b ∧ y.2.2.length = l.length) := by
  refine Tt.out ?_
  unfold slices_partitionOrdered c_slices_partitionOrdered
  simp only [wq, List.length_set]
  (repeat' first | refine Tt.ite (by omega) ?_ | refine Tt.ndec (fun _ => ?_) fun _ => ?_ | refine Tt.dec (fun _ => ?_) fun _ => ?_ | refine Tt.cnd (fun _ => ?_) fun _ => ?_)
  refine Tt.bind (Tt.con (parL3_tot _ _ _ _ (by (try simp only [List.length_set]); omega))) (fun v hv => ?_)
  simp only [List.length_set] at hv
  refine Tt.bind (Tt.con (parL5_tot _ _ _ _ (by omega))) (fun w hw => ?_)
  (repeat' first | refine Tt.ite (by omega) ?_ | refine Tt.ndec (fun _ => ?_) fun _ => ?_ | refine Tt.dec (fun _ => ?_) fun _ => ?_ | refine Tt.cnd (fun _ => ?_) fun _ => ?_)
  · exact Tt.pure (by dsimp only; simp only [List.length_set]; omega)
  · refine Tt.bind (Tt.con (parL_tot _ _ _ _ (by (try simp only [List.length_set]); omega))) (fun u hu => ?_)
    simp only [List.length_set] at hu
    (repeat' first | refine Tt.ite (by omega) ?_ | refine Tt.ndec (fun _ => ?_) fun _ => ?_ | refine Tt.dec (fun _ => ?_) fun _ => ?_ | refine Tt.cnd (fun _ => ?_) fun _ => ?_)
    exact Tt.pure (by dsimp only; simp only [List.length_set]; omega)

theorem order2_tot (l : List D) (a b s : Int) (h : 0 ≤ a ∧ a < l.length ∧ 0 ≤ b ∧ b < l.length) : ∃ y, slices_order2Ordered l a b s = some y ∧ ((y.1 = a ∧ y.2.1 = b) ∨ (y.1 = b ∧ y.2.1 = a)) := by
  refine Tt.out ?_
  unfold slices_order2Ordered c_slices_order2Ordered
  simp only [less_eq, Option.bind_some]
  (repeat' first | refine Tt.ite (by omega) ?_ | refine Tt.ndec (fun _ => ?_) fun _ => ?_ | refine Tt.dec (fun _ => ?_) fun _ => ?_ | refine Tt.cnd (fun _ => ?_) fun _ => ?_)
  · exact Tt.pure (.inr ⟨rfl, rfl⟩)
  · exact Tt.pure (.inl ⟨rfl, rfl⟩)

theorem median_tot (l : List D) (a b c s : Int) (lo hi : Int) (h : 0 ≤ lo ∧ hi ≤ l.length ∧ lo ≤ a ∧ a < hi ∧ lo ≤ b ∧ b < hi ∧ lo ≤ c ∧ c < hi) : ∃ y, slices_medianOrdered l a b c s = some y ∧ (lo ≤ y.1 ∧ y.1 < hi) := by
  refine Tt.out ?_
  unfold slices_medianOrdered c_slices_medianOrdered
  refine Tt.bind (Tt.con (order2_tot _ _ _ _ (by omega))) (fun v hv => ?_)
  refine Tt.bind (Tt.con (order2_tot _ _ _ _ (by omega))) (fun w hw => ?_)
  refine Tt.bind (Tt.con (order2_tot _ _ _ _ (by omega))) (fun u hu => ?_)
  exact Tt.pure (by dsimp only; omega)

theorem medadj_tot (l : List D) (a s : Int) (lo hi : Int) (h : 0 ≤ lo ∧ hi ≤ l.length ∧ l.length ≤ 1048576 ∧ lo < a ∧ a + 1 < hi) : ∃ y, slices_medianAdjacentOrdered l a s = some y ∧ (lo ≤ y.1 ∧ y.1 < hi) := by
  refine Tt.out ?_
  unfold slices_medianAdjacentOrdered c_slices_medianAdjacentOrdered
  simp only [wq]
  refine Tt.bind (Tt.con (median_tot _ _ _ _ _ lo hi (by omega))) (fun v hv => ?_)
  exact Tt.pure (by dsimp only; omega)

theorem choose_tot (l : List D) (a b : Int) (h : 0 ≤ a ∧ a < b ∧ b ≤ l.length ∧ l.length ≤ 1048576) : ∃ y, slices_choosePivotOrdered l a b = some y ∧ (a ≤ y.1 ∧ y.1 < b) := by
  refine Tt.out ?_
  unfold slices_choosePivotOrdered c_slices_choosePivotOrdered
  rw [wrap_id (n := b - a) (by omega) (by omega), tq (by omega)]
  obtain ⟨q, hq, hq1, hq2⟩ : ∃ q, (b - a) / 4 = q ∧ 0 ≤ q ∧ 4 * q ≤ b - a := ⟨_, rfl, by omega, by omega⟩
  rw [hq]
  rw [wrap_id (n := q) (by omega) (by omega)]
  rw [wrap_id (n := q * 1) (by omega) (by omega), wrap_id (n := q * 2) (by omega) (by omega), wrap_id (n := q * 3) (by omega) (by omega)]
  rw [wrap_id (n := a + q * 1) (by omega) (by omega), wrap_id (n := a + q * 2) (by omega) (by omega), wrap_id (n := a + q * 3) (by omega) (by omega)]
  (repeat' first | refine Tt.ite (by omega) ?_ | refine Tt.ndec (fun _ => ?_) fun _ => ?_ | refine Tt.dec (fun _ => ?_) fun _ => ?_ | refine Tt.cnd (fun _ => ?_) fun _ => ?_)
  · refine Tt.bind (Tt.con (medadj_tot _ _ _ a b (by omega))) (fun v hv => ?_)
    refine Tt.bind (Tt.con (medadj_tot _ _ _ a b (by omega))) (fun w hw => ?_)
    refine Tt.bind (Tt.con (medadj_tot _ _ _ a b (by omega))) (fun u hu => ?_)
    refine Tt.bind (Tt.con (median_tot _ _ _ _ _ a b (by omega))) (fun u hu => ?_)
    (repeat' first | refine Tt.ite (by omega) ?_ | refine Tt.ndec (fun _ => ?_) fun _ => ?_ | refine Tt.dec (fun _ => ?_) fun _ => ?_ | refine Tt.cnd (fun _ => ?_) fun _ => ?_) <;> exact Tt.pure hu
  · refine Tt.bind (Tt.con (median_tot _ _ _ _ _ a b (by omega))) (fun u hu => ?_)
    (repeat' first | refine Tt.ite (by omega) ?_ | refine Tt.ndec (fun _ => ?_) fun _ => ?_ | refine Tt.dec (fun _ => ?_) fun _ => ?_ | refine Tt.cnd (fun _ => ?_) fun _ => ?_) <;> exact Tt.pure hu
  all_goals exact Tt.pure (by dsimp only; omega)

theorem uq (n : Int) : IntKind.u64.wrap n = n % 18446744073709551616 := by
  unfold IntKind.wrap
  simp [IntKind.signed, IntKind.bits]
theorem bq (n : Int) : IntKind.u8.wrap n = n % 256 := by
  unfold IntKind.wrap
  simp [IntKind.signed, IntKind.bits]

theorem len_tab : ∀ i : Fin 256, (bytes_0.data.toList.getD i.val (0 : UInt8)).toNat ≤ 8 ∧ (i.val = 0 ∨ 2 ^ (bytes_0.data.toList.getD i.val (0 : UInt8)).toNat ≤ 2 * i.val) := by
  decide +kernel

theorem len_size : (bytes_0.size : Int) = 256 := by decide +kernel

theorem fdiv_eq {n k : Int} (h : 0 ≤ k) : n.fdiv k = n / k := Int.fdiv_eq_ediv_of_nonneg n h

theorem len_at {q : Int} (h0 : 0 ≤ q) (h1 : q < 256) : ∃ t : Nat, (bytes_0.data.toList.getD q.toNat (0 : UInt8)).toNat = t ∧ t ≤ 8 ∧ (q = 0 ∨ ((2 ^ t : Nat) : Int) ≤ 2 * q) := by
  refine ⟨_, rfl, ?_⟩
  have := len_tab ⟨q.toNat, by omega⟩
  simp only at this
  refine ⟨this.1, ?_⟩
  rcases this.2 with h | h
  · exact .inl (by omega)
  · exact .inr (by omega)

theorem len_tot (n : Int) (h0 : 0 ≤ n) (h1 : n ≤ 1048576) : ∃ y, math_bits_Len n = some y ∧ (0 ≤ y ∧ y ≤ 24 ∧ (n = 0 ∨ ((2 ^ y.toNat : Nat) : Int) ≤ 2 * n)) := by
  have e32 : ((2 : Int) ^ Min.min (Int.toNat (32 : Int)) IntKind.u64.bits) = 4294967296 := by decide
  have e16 : ((2 : Int) ^ Min.min (Int.toNat (16 : Int)) IntKind.u64.bits) = 65536 := by decide
  have e8 : ((2 : Int) ^ Min.min (Int.toNat (8 : Int)) IntKind.u64.bits) = 256 := by decide
  refine Tt.out ?_
  unfold math_bits_Len c_math_bits_Len math_bits_Len64 c_math_bits_Len64
  simp only [wq, bq, e32, e16, e8, len_size, Option.bind_fun_some]
  simp only [fdiv_eq (show (0:Int) ≤ 4294967296 by decide), fdiv_eq (show (0:Int) ≤ 65536 by decide), fdiv_eq (show (0:Int) ≤ 256 by decide)]
  (repeat' first | refine Tt.ite (by omega) ?_ | refine Tt.ndec (fun _ => ?_) fun _ => ?_ | refine Tt.dec (fun _ => ?_) fun _ => ?_ | refine Tt.cnd (fun _ => ?_) fun _ => ?_)
  all_goals first
    | (exfalso; omega)
    | skip
  · obtain ⟨t, e, h3, h4⟩ := len_at (q := n / 65536 % 256) (by omega) (by omega)
    rw [e]
    refine Tt.pure ⟨by omega, by omega, ?_⟩
    rw [show (((((0 + 16 + 9223372036854775808) % 18446744073709551616 - 9223372036854775808) + ((((t : Nat) : Int) + 9223372036854775808) % 18446744073709551616 - 9223372036854775808) + 9223372036854775808) % 18446744073709551616 - 9223372036854775808) : Int).toNat = 16 + t by omega, Nat.pow_add]
    obtain ⟨z, hz⟩ : ∃ z : Nat, 2 ^ t = z := ⟨_, rfl⟩
    rw [hz] at h4 ⊢
    omega
  · obtain ⟨t, e, h3, h4⟩ := len_at (q := n / 256 % 256) (by omega) (by omega)
    rw [e]
    refine Tt.pure ⟨by omega, by omega, ?_⟩
    rw [show (((((0 + 8 + 9223372036854775808) % 18446744073709551616 - 9223372036854775808) + ((((t : Nat) : Int) + 9223372036854775808) % 18446744073709551616 - 9223372036854775808) + 9223372036854775808) % 18446744073709551616 - 9223372036854775808) : Int).toNat = 8 + t by omega, Nat.pow_add]
    obtain ⟨z, hz⟩ : ∃ z : Nat, 2 ^ t = z := ⟨_, rfl⟩
    rw [hz] at h4 ⊢
    omega
  · obtain ⟨t, e, h3, h4⟩ := len_at (q := n % 256) (by omega) (by omega)
    rw [e]
    refine Tt.pure ⟨by omega, by omega, ?_⟩
    rw [show (((0 + ((((t : Nat) : Int) + 9223372036854775808) % 18446744073709551616 - 9223372036854775808) + 9223372036854775808) % 18446744073709551616 - 9223372036854775808) : Int).toNat = t by omega]
    obtain ⟨z, hz⟩ : ∃ z : Nat, 2 ^ t = z := ⟨_, rfl⟩
    rw [hz] at h4 ⊢
    omega

theorem pow2_tot (n : Int) (h0 : 1 ≤ n) (h1 : n ≤ 1048576) : ∃ y, slices_nextPowerOfTwo n = some y ∧ (1 ≤ y ∧ y ≤ 2 * n) := by
  refine Tt.out ?_
  unfold slices_nextPowerOfTwo c_slices_nextPowerOfTwo
  rw [show IntKind.u64.wrap n = n by rw [uq]; omega]
  refine Tt.bind (Tt.con (len_tot n (by omega) h1)) (fun v hv => ?_)
  refine Tt.ite hv.1 ?_
  have e : (1 : Int) * 2 ^ Min.min v.toNat IntKind.u64.bits = ((2 ^ v.toNat : Nat) : Int) := by
    rw [show Min.min v.toNat IntKind.u64.bits = v.toNat by simp only [IntKind.bits]; omega]
    push_cast; omega
  rw [e]
  have h3 : ((2 ^ v.toNat : Nat) : Int) ≤ 2 * n := by omega
  have h4 : 0 < 2 ^ v.toNat := Nat.two_pow_pos _
  exact Tt.pure (by rw [uq]; omega)

theorem and_lt {r m : Int} (h0 : 1 ≤ m) (h1 : m ≤ 4194304) : 0 ≤ IntKind.i64.wrap (IntKind.u64.wrap (((BitVec.ofInt IntKind.u64.bits r &&& BitVec.ofInt IntKind.u64.bits (IntKind.u64.wrap (m - 1))).toNat : Nat) : Int)) ∧ IntKind.i64.wrap (IntKind.u64.wrap (((BitVec.ofInt IntKind.u64.bits r &&& BitVec.ofInt IntKind.u64.bits (IntKind.u64.wrap (m - 1))).toNat : Nat) : Int)) < m := by
  have h2 : (BitVec.ofInt IntKind.u64.bits r &&& BitVec.ofInt IntKind.u64.bits (IntKind.u64.wrap (m - 1))).toNat ≤ (BitVec.ofInt IntKind.u64.bits (IntKind.u64.wrap (m - 1))).toNat := by
    rw [BitVec.toNat_and]; exact Nat.and_le_right
  have h3 : (BitVec.ofInt IntKind.u64.bits (IntKind.u64.wrap (m - 1))).toNat = (m - 1).toNat := by
    rw [BitVec.toNat_ofInt, show IntKind.u64.wrap (m - 1) = m - 1 by rw [uq]; omega]
    simp only [IntKind.bits]
    omega
  rw [h3] at h2
  rw [uq, wq]
  omega

theorem xor_tot (r : Int) : ∃ y, slices_xorshift_Next r = some y ∧ True := by
  refine Tt.out ?_
  unfold slices_xorshift_Next c_slices_xorshift_Next
  refine Tt.ite (by decide) (Tt.ite (by decide) (Tt.ite (by decide) (Tt.pure trivial)))

attribute [local irreducible] slices_xorshift_Next slices_nextPowerOfTwo slices_choosePivotOrdered slices_reverseRangeOrdered slices_partialInsertionSortOrdered slices_partitionEqualOrdered slices_partitionOrdered slices_heapSortOrdered slices_insertionSortOrdered

theorem bp5_tot (a n m i : Int) (l : List D) (r : Int) (hi : 0 ≤ a ∧ 8 ≤ n ∧ a + n ≤ l.length ∧ l.length ≤ 1048576 ∧ 1 ≤ m ∧ m ≤ 2 * n ∧ a ≤ i) :
    ∃ y, slices_breakPatternsOrdered_L5 a n m i l r = some y ∧ y.length = l.length := by
  refine Tt.loop (fun k (x : Int × List D × Int) => n_slices_breakPatternsOrdered_L5 k a n m x.1 x.2.1 x.2.2) (fun x => 0 ≤ a ∧ 8 ≤ n ∧ a + n ≤ x.2.1.length ∧ x.2.1.length ≤ 1048576 ∧ 1 ≤ m ∧ m ≤ 2 * n ∧ a ≤ x.1) (fun x => (a + n - x.1).toNat) (fun x y => y.length = x.2.1.length) ?_ (i, l, r) hi
  clear hi
  rintro ⟨i, l, r⟩ hi ih
  have ih' : ∀ (i' : Int) (l' : List D) (r' : Int), (0 ≤ a ∧ 8 ≤ n ∧ a + n ≤ l'.length ∧ l'.length ≤ 1048576 ∧ 1 ≤ m ∧ m ≤ 2 * n ∧ a ≤ i') → (a + n - i').toNat < (a + n - i).toNat → Tt (fun k => (a + n - i).toNat ≤ k) (fun y => y.length = l'.length) (fun k => n_slices_breakPatternsOrdered_L5 k a n m i' l' r') :=
    fun i' l' r' q1 q2 => ih (i', l', r') q1 q2
  clear ih
  simp only at hi
  show Tt _ _ (fun k => c_slices_breakPatternsOrdered_L5 (n_slices_breakPatternsOrdered_L5 k) a n m i l r some)
  unfold c_slices_breakPatternsOrdered_L5
  simp only [Option.bind_fun_some, List.length_set]
  rw [tq (by omega)]
  obtain ⟨q, hq, hq1, hq2⟩ : ∃ q, n / 4 = q ∧ 0 ≤ q ∧ 4 * q ≤ n := ⟨_, rfl, by omega, by omega⟩
  rw [hq]
  rw [wrap_id (n := q) (by omega) (by omega)]
  rw [wrap_id (n := q * 2) (by omega) (by omega)]
  rw [wrap_id (n := a + q * 2) (by omega) (by omega)]
  rw [wrap_id (n := a + q * 2 + 1) (by omega) (by omega)]
  (repeat' first | refine Tt.ite (by omega) ?_ | refine Tt.ndec (fun _ => ?_) fun _ => ?_ | refine Tt.dec (fun _ => ?_) fun _ => ?_ | refine Tt.cnd (fun _ => ?_) fun _ => ?_)
  · refine Tt.bind (Tt.con (xor_tot _)) (fun v _ => ?_)
    have ho := and_lt (r := v.1) (m := m) (by omega) (by omega)
    generalize IntKind.i64.wrap (IntKind.u64.wrap (((BitVec.ofInt IntKind.u64.bits v.1 &&& BitVec.ofInt IntKind.u64.bits (IntKind.u64.wrap (m - 1))).toNat : Nat) : Int)) = o at ho ⊢
    simp only [wq]
    (repeat' first | refine Tt.ite (by omega) ?_ | refine Tt.ndec (fun _ => ?_) fun _ => ?_ | refine Tt.dec (fun _ => ?_) fun _ => ?_ | refine Tt.cnd (fun _ => ?_) fun _ => ?_)
    all_goals exact (ih' _ _ _ (by simp only [List.length_set]; omega) (by omega)).mono (fun _ h => h) (fun _ h => by simpa only [List.length_set] using h)
  · exact Tt.pure rfl

theorem bp_tot (l : List D) (a b : Int) (h : 0 ≤ a ∧ a < b ∧ b ≤ l.length ∧ l.length ≤ 1048576) : ∃ y, slices_breakPatternsOrdered l a b = some y ∧ y.length = l.length := by
  refine Tt.out ?_
  unfold slices_breakPatternsOrdered c_slices_breakPatternsOrdered
  rw [wrap_id (n := b - a) (by omega) (by omega), tq (by omega)]
  obtain ⟨q, hq, hq1, hq2, hq3⟩ : ∃ q, (b - a) / 4 = q ∧ 0 ≤ q ∧ 4 * q ≤ b - a ∧ b - a < 4 * q + 4 := ⟨_, rfl, by omega, by omega, by omega⟩
  rw [hq]
  rw [wrap_id (n := q) (by omega) (by omega), wrap_id (n := q * 2) (by omega) (by omega), wrap_id (n := a + q * 2) (by omega) (by omega), wrap_id (n := a + q * 2 - 1) (by omega) (by omega)]
  (repeat' first | refine Tt.ite (by omega) ?_ | refine Tt.ndec (fun _ => ?_) fun _ => ?_ | refine Tt.dec (fun _ => ?_) fun _ => ?_ | refine Tt.cnd (fun _ => ?_) fun _ => ?_)
  · refine Tt.bind (Tt.con (pow2_tot _ (by omega) (by omega))) (fun v hv => ?_)
    (repeat' first | refine Tt.ite (by omega) ?_ | refine Tt.ndec (fun _ => ?_) fun _ => ?_ | refine Tt.dec (fun _ => ?_) fun _ => ?_ | refine Tt.cnd (fun _ => ?_) fun _ => ?_)
    simp only [Option.bind_fun_some]
    exact Tt.con (bp5_tot _ _ _ _ _ _ (by omega))
  · exact Tt.pure rfl

attribute [local irreducible] slices_breakPatternsOrdered

def pdGood (l : List D) (a b : Int) (y : List D) : Prop := y.length = l.length ∧ (b - a ≤ 12 → slices_insertionSortOrdered l a b = some y)

set_option maxHeartbeats 0 in
theorem pdq_in (w : Nat) (ihG : ∀ (l : List D) (a b lim : Int), (0 ≤ a ∧ a ≤ b ∧ b ≤ l.length ∧ l.length ≤ 1048576) → (b - a).toNat < w → Tt (fun m => w ≤ m) (fun y => y.length = l.length) (fun m => n_slices_pdqsortOrdered m l a b lim)) :
    ∀ v, v ≤ w → ∀ (a b lim : Int) (s t : Bool) (l : List D), (0 ≤ a ∧ a ≤ b ∧ b ≤ l.length ∧ l.length ≤ 1048576) → (b - a).toNat ≤ v →
      Tt (fun i : Nat × Nat => w ≤ i.1 ∧ v < i.2) (pdGood l a b) (fun i => n_slices_pdqsortOrdered_L2 (n_slices_pdqsortOrdered i.1) i.2 a b lim s t l) := by
  intro v
  induction v with
  | zero => 
    intro hv a b lim s t l h hw
    have : Tt (fun i : Nat × Nat => w ≤ i.1 ∧ 0 ≤ i.2) (pdGood l a b) (fun i => c_slices_pdqsortOrdered_L2 (n_slices_pdqsortOrdered i.1) (n_slices_pdqsortOrdered_L2 (n_slices_pdqsortOrdered i.1) i.2) a b lim s t l some) := by
      unfold c_slices_pdqsortOrdered_L2
      rw [wrap_id (n := b - a) (by omega) (by omega), decide_eq_true (show b - a ≤ 12 by omega)]
      simp only [cond_true, Option.bind_fun_some]
      obtain ⟨y, h1, h2⟩ := ins_tot l a b h
      exact Tt.con ⟨y, h1, h2, fun _ => h1⟩
    obtain ⟨y, h1, h2⟩ := this
    refine ⟨y, h1, ?_⟩
    rintro ⟨m, j⟩ hi
    simp only at hi
    obtain ⟨j, rfl⟩ : ∃ j', j = j' + 1 := ⟨j - 1, by omega⟩
    exact h2 (m, j) ⟨hi.1, by simp only; omega⟩
  | succ v ih =>
    intro hv a b lim s t l h hw
    have ihG' : ∀ (l : List D) (a b lim : Int), (0 ≤ a ∧ a ≤ b ∧ b ≤ l.length ∧ l.length ≤ 1048576) → (b - a).toNat < w → Tt (fun i : Nat × Nat => w ≤ i.1 ∧ v + 1 ≤ i.2) (fun y => y.length = l.length) (fun i => n_slices_pdqsortOrdered i.1 l a b lim) := by
      intro l a b lim q1 q2
      obtain ⟨y, h1, h2⟩ := ihG l a b lim q1 q2
      exact ⟨y, h1, fun i hi => h2 i.1 hi.1⟩
    have ihF : ∀ (a b lim : Int) (s t : Bool) (l : List D), (0 ≤ a ∧ a ≤ b ∧ b ≤ l.length ∧ l.length ≤ 1048576) → (b - a).toNat ≤ v →
      Tt (fun i : Nat × Nat => w ≤ i.1 ∧ v + 1 ≤ i.2) (fun y => y.length = l.length) (fun i => n_slices_pdqsortOrdered_L2 (n_slices_pdqsortOrdered i.1) i.2 a b lim s t l) :=
      fun a b lim s t l q1 q2 => (ih (by omega) a b lim s t l q1 q2).mono (fun i hi => ⟨hi.1, by omega⟩) (fun y hy => hy.1)
    clear ih ihG
    have : Tt (fun i : Nat × Nat => w ≤ i.1 ∧ v + 1 ≤ i.2) (pdGood l a b) (fun i => c_slices_pdqsortOrdered_L2 (n_slices_pdqsortOrdered i.1) (n_slices_pdqsortOrdered_L2 (n_slices_pdqsortOrdered i.1) i.2) a b lim s t l some) := by
      by_cases h12 : b - a ≤ 12
      · unfold c_slices_pdqsortOrdered_L2
        rw [wrap_id (n := b - a) (by omega) (by omega), decide_eq_true h12]
        simp only [cond_true, Option.bind_fun_some]
        obtain ⟨y, h1, h2⟩ := ins_tot l a b h
        exact Tt.con ⟨y, h1, h2, fun _ => h1⟩
      · have : Tt (fun i : Nat × Nat => w ≤ i.1 ∧ v + 1 ≤ i.2) (fun y => y.length = l.length) (fun i => c_slices_pdqsortOrdered_L2 (n_slices_pdqsortOrdered i.1) (n_slices_pdqsortOrdered_L2 (n_slices_pdqsortOrdered i.1) i.2) a b lim s t l some) := by
          unfold c_slices_pdqsortOrdered_L2
          rw [wrap_id (n := b - a) (by omega) (by omega), decide_eq_false h12]
          simp only [cond_false, Option.bind_fun_some, less_eq, Option.bind_some, wq]
          repeat' first
            | (first | refine Tt.ite (by omega) ?_ | refine Tt.ndec (fun _ => ?_) fun _ => ?_ | refine Tt.dec (fun _ => ?_) fun _ => ?_ | refine Tt.cnd (fun _ => ?_) fun _ => ?_)
            | refine Tt.bind (Tt.con (bp_tot _ _ _ (by omega))) (fun _ _ => ?_)
            | refine Tt.bind (Tt.con (choose_tot _ _ _ (by omega))) (fun _ _ => ?_)
            | refine Tt.bind (Tt.con (rev_tot _ _ _ (by omega))) (fun _ _ => ?_)
            | refine Tt.bind (Tt.con (pin_tot _ _ _ (by omega))) (fun _ _ => ?_)
            | refine Tt.bind (Tt.con (peq_tot _ _ _ _ (by omega))) (fun _ _ => ?_)
            | refine Tt.bind (Tt.con (par_tot _ _ _ _ (by omega))) (fun _ _ => ?_)
            | refine Tt.bind (ihG' _ _ _ _ (by omega) (by omega)) (fun _ _ => ?_)
            | exact (Tt.con (heap_tot _ _ _ (by omega)))
            | exact (ihF _ _ _ _ _ _ (by omega) (by omega)).mono (fun _ h => h) (fun _ h => by omega)
            | exact Tt.pure (by omega)
        exact this.mono (fun _ h => h) (fun y hy => ⟨hy, fun q => absurd q h12⟩)
    obtain ⟨y, h1, h2⟩ := this
    refine ⟨y, h1, ?_⟩
    rintro ⟨m, j⟩ hi
    simp only at hi
    obtain ⟨j, rfl⟩ : ∃ j', j = j' + 1 := ⟨j - 1, by omega⟩
    exact h2 (m, j) ⟨hi.1, by simp only; omega⟩

theorem pdq_key : ∀ (w : Nat) (l : List D) (a b lim : Int), (0 ≤ a ∧ a ≤ b ∧ b ≤ l.length ∧ l.length ≤ 1048576) → (b - a).toNat ≤ w → Tt (fun m => w < m) (pdGood l a b) (fun m => n_slices_pdqsortOrdered m l a b lim) := by
  intro w
  induction w with
  | zero =>
    intro l a b lim h hw
    obtain ⟨y, h1, h2⟩ := pdq_in 0 (fun _ _ _ _ _ h => absurd h (by omega)) 0 (Nat.le_refl _) a b lim Bool.true Bool.true l h hw
    refine ⟨y, h1, fun m hm => ?_⟩
    obtain ⟨m, rfl⟩ : ∃ m', m = m' + 1 := ⟨m - 1, by omega⟩
    show (ev (fun n => n_slices_pdqsortOrdered_L2 (n_slices_pdqsortOrdered m) n a b lim Bool.true Bool.true l)).bind _ = _
    rw [ev_eq 1 (fun j hj => h2 (m, j) ⟨by simp only; omega, by simp only; omega⟩)]
    rfl
  | succ w ih =>
    intro l a b lim h hw
    obtain ⟨y, h1, h2⟩ := pdq_in (w + 1) (fun l a b lim q1 q2 => (ih l a b lim q1 (by omega)).mono (fun m hm => by omega) (fun y hy => hy.1)) (w + 1) (Nat.le_refl _) a b lim Bool.true Bool.true l h hw
    refine ⟨y, h1, fun m hm => ?_⟩
    obtain ⟨m, rfl⟩ : ∃ m', m = m' + 1 := ⟨m - 1, by omega⟩
    show (ev (fun n => n_slices_pdqsortOrdered_L2 (n_slices_pdqsortOrdered m) n a b lim Bool.true Bool.true l)).bind _ = _
    rw [ev_eq (w + 2) (fun j hj => h2 (m, j) ⟨by simp only; omega, by simp only; omega⟩)]
    rfl

theorem sort_tot (l : List D) (h : l.length ≤ 1048576) : ∃ y, slices_Sort l = some y ∧ pdGood l 0 l.length y := by
  refine Tt.out ?_
  unfold slices_Sort c_slices_Sort
  rw [show IntKind.u64.wrap ((l.length : Nat) : Int) = (l.length : Int) by rw [uq]; omega]
  refine Tt.bind (Tt.con (len_tot _ (by omega) (by omega))) (fun v hv => ?_)
  simp only [Option.bind_fun_some]
  obtain ⟨y, h1, h2⟩ := pdq_key ((l.length : Int) - 0).toNat l 0 l.length v (by omega) (Nat.le_refl _)
  exact Tt.con ⟨y, ev_eq (((l.length : Int) - 0).toNat + 1) (fun m hm => h2 m (by omega)), h1⟩

def St (l : List Int) : Prop := l.Pairwise (· ≤ ·)
def iD (l : List Int) : List D := l.map D.int
theorem iD_len (l : List Int) : (iD l).length = l.length := by simp [iD]
theorem iD_get (l : List Int) (i : Nat) : ((iD l).getD i (.int 0)).toInt = l.getD i 0 := by
  simp only [iD, List.getD_eq_getElem?_getD, List.getElem?_map]
  cases l[i]? <;> rfl
theorem iD_set (l : List Int) (i : Nat) (v : Int) : (iD l).set i (D.int v) = iD (l.set i v) := by
  simp [iD, List.map_set]
theorem iD_of {l : List D} (h : ∀ d ∈ l, ∃ k, d = D.int k) : l = iD (l.map D.toInt) := by
  induction l with
  | nil => rfl
  | cons d l ih =>
    obtain ⟨k, rfl⟩ := h d (by simp)
    have := ih (fun d hd => h d (by simp [hd]))
    simp only [iD, List.map_cons] at this ⊢
    rw [← this]; rfl

theorem ins4_spec : ∀ (n : Nat) (A B R : List Int) (v b i : Int), A.length = n → n ≤ 1048576 → St (A ++ B) → (∀ x ∈ B, v ≤ x) →
    ∃ C, St C ∧ C.Perm (A ++ v :: B) ∧ ∀ m, n < m → n_slices_insertionSortOrdered_L4 m 0 b i (n : Int) (iD (A ++ v :: (B ++ R))) = some (0, b, i, iD (C ++ R)) := by
  intro n
  induction n with
  | zero =>
    intro A B R v b i hA hn hS hB
    obtain rfl := List.eq_nil_of_length_eq_zero hA
    refine ⟨v :: B, List.pairwise_cons.2 ⟨hB, hS⟩, List.Perm.refl _, fun m hm => ?_⟩
    obtain ⟨m, rfl⟩ : ∃ m', m = m' + 1 := ⟨m - 1, by omega⟩
    show c_slices_insertionSortOrdered_L4 _ _ _ _ _ _ _ = _
    unfold c_slices_insertionSortOrdered_L4
    rw [decide_eq_false (by omega)]
    rfl
  | succ n ih =>
    intro A B R v b i hA hn hS hB
    obtain ⟨A', u, rfl⟩ : ∃ A' u, A = A' ++ [u] := by
      refine ⟨A.dropLast, A.getLast (by rintro rfl; simp at hA), (List.dropLast_concat_getLast _).symm⟩
    have hA' : A'.length = n := by simpa using hA
    have g1 : ((A' ++ [u]) ++ v :: (B ++ R)).getD (n + 1) 0 = v := by
      rw [List.getD_eq_getElem?_getD, List.getElem?_append_right (by simp; omega)]
      simp [hA']
    have g0 : ((A' ++ [u]) ++ v :: (B ++ R)).getD n 0 = u := by
      rw [List.getD_eq_getElem?_getD, List.getElem?_append_left (by simp; omega), List.getElem?_append_right (by omega)]
      simp [hA']
    have hlen : (iD ((A' ++ [u]) ++ v :: (B ++ R))).length = n + 2 + (B ++ R).length := by
      rw [iD_len]; simp; omega
    have hset : ((iD ((A' ++ [u]) ++ v :: (B ++ R))).set (n + 1) (D.int u)).set n (D.int v) = iD (A' ++ v :: (u :: B ++ R)) := by
      rw [iD_set, iD_set]
      congr 1
      rw [List.append_assoc, List.set_append_right _ _ (by omega), List.set_append_right _ _ (by omega), hA', show n + 1 - n = 1 by omega, show n - n = 0 by omega]
      rfl
    have hw : IntKind.i64.wrap (((n + 1 : Nat) : Int) - 1) = (n : Int) := by rw [wrap_id (by omega) (by omega)]; omega
    have step : ∀ m, n_slices_insertionSortOrdered_L4 (m + 1) 0 b i ((n + 1 : Nat) : Int) (iD ((A' ++ [u]) ++ v :: (B ++ R))) =
        bif decide (v < u) then n_slices_insertionSortOrdered_L4 m 0 b i (n : Int) (iD (A' ++ v :: (u :: B ++ R))) else some (0, b, i, iD ((A' ++ [u]) ++ v :: (B ++ R))) := by
      intro m
      show c_slices_insertionSortOrdered_L4 _ _ _ _ _ _ _ = _
      unfold c_slices_insertionSortOrdered_L4
      simp only [less_eq, Option.bind_some, Option.bind_fun_some, hw, List.length_set, hlen, iD_get, Int.toNat_natCast, g0, g1, hset]
      rw [decide_eq_true (show (0 : Int) < ((n + 1 : Nat) : Int) by omega)]
      rw [if_pos (by omega), if_pos (by omega), if_pos (by omega), if_pos (by omega)]
      simp only [cond_true]
      rw [if_pos (by omega), if_pos (by omega), if_pos (by omega), if_pos (by omega), if_pos (by omega), if_pos (by omega), if_pos (by omega), if_pos (by omega)]
    by_cases hvu : v < u
    · obtain ⟨C, h1, h2, h3⟩ := ih A' (u :: B) R v b i hA' (by omega) (by simpa using hS) (by
        intro x hx
        rcases List.mem_cons.1 hx with rfl | hx
        · omega
        · exact hB x hx)
      refine ⟨C, h1, h2.trans ?_, fun m hm => ?_⟩
      · rw [List.append_assoc]
        exact List.Perm.append_left _ (List.Perm.swap _ _ _)
      · obtain ⟨m, rfl⟩ : ∃ m', m = m' + 1 := ⟨m - 1, by omega⟩
        rw [step, decide_eq_true hvu, cond_true]
        exact h3 m (by omega)
    · refine ⟨(A' ++ [u]) ++ v :: B, ?_, List.Perm.refl _, fun m hm => ?_⟩
      · have q := List.pairwise_append.1 hS
        have q1 := List.pairwise_append.1 q.1
        refine List.pairwise_append.2 ⟨q.1, List.pairwise_cons.2 ⟨hB, q.2.1⟩, fun x hx y hy => ?_⟩
        have hxu : x ≤ u := by
          rcases List.mem_append.1 hx with hx | hx
          · exact q1.2.2 x hx u (by simp)
          · simp at hx; omega
        rcases List.mem_cons.1 hy with rfl | hy
        · omega
        · exact q.2.2 x hx y hy
      · obtain ⟨m, rfl⟩ : ∃ m', m = m' + 1 := ⟨m - 1, by omega⟩
        rw [step, decide_eq_false hvu, cond_false]
        simp

theorem ins1_spec : ∀ (k : Nat) (P R : List Int) (b : Int), R.length = k → (b : Int) = ((P ++ R).length : Int) → (P ++ R).length ≤ 1048576 → St P →
    ∃ C, St C ∧ C.Perm (P ++ R) ∧ ∀ m, k < m → n_slices_insertionSortOrdered_L1 m 0 b (P.length : Int) (iD (P ++ R)) = some (iD C) := by
  intro k
  induction k with
  | zero =>
    intro P R b hR hb hl hS
    obtain rfl := List.eq_nil_of_length_eq_zero hR
    refine ⟨P, hS, by simp, fun m hm => ?_⟩
    obtain ⟨m, rfl⟩ : ∃ m', m = m' + 1 := ⟨m - 1, by omega⟩
    show c_slices_insertionSortOrdered_L1 _ _ _ _ _ _ = _
    unfold c_slices_insertionSortOrdered_L1
    rw [decide_eq_false (by rw [hb]; simp)]
    simp
  | succ k ih =>
    intro P R b hR hb hl hS
    obtain ⟨v, R, rfl⟩ : ∃ v R', R = v :: R' := by
      cases R with
      | nil => simp at hR
      | cons v R => exact ⟨v, R, rfl⟩
    have hl' : P.length + (R.length + 1) ≤ 1048576 := by simpa using hl
    have hb' : b = ((P.length + (R.length + 1) : Nat) : Int) := by simpa using hb
    obtain ⟨C, h1, h2, h3⟩ := ins4_spec P.length P [] R v b (P.length : Int) rfl (by omega) (by simpa using hS) (by simp)
    have hC : C.length = P.length + 1 := by have := h2.length_eq; simpa using this
    obtain ⟨E, q1, q2, q3⟩ := ih C R b (by simpa using hR) (by rw [List.length_append, hC, hb']; omega) (by rw [List.length_append, hC]; omega) h1
    refine ⟨E, q1, q2.trans ?_, fun m hm => ?_⟩
    · have := List.Perm.append_right R h2
      simpa using this
    · obtain ⟨m, rfl⟩ : ∃ m', m = m' + 1 := ⟨m - 1, by omega⟩
      show c_slices_insertionSortOrdered_L1 _ _ _ _ _ _ = _
      unfold c_slices_insertionSortOrdered_L1
      rw [decide_eq_true (by omega), cond_true]
      have : slices_insertionSortOrdered_L4 0 b (P.length : Int) (P.length : Int) (iD (P ++ v :: R)) = some (0, b, (P.length : Int), iD (C ++ R)) := ev_eq (P.length + 1) (fun m hm => by simpa using h3 m (by omega))
      rw [this]
      simp only [Option.bind_some, Option.bind_fun_some]
      rw [succ_wrap (by omega)]
      rw [hC] at q3
      exact q3 m (by omega)

theorem ins_spec (xs : List Int) (hl : xs.length ≤ 1048576) : ∃ C, St C ∧ C.Perm xs ∧ slices_insertionSortOrdered (iD xs) 0 (xs.length : Int) = some (iD C) := by
  have w1 : IntKind.i64.wrap (0 + 1) = 1 := by decide
  cases xs with
  | nil =>
    refine ⟨[], List.Pairwise.nil, List.Perm.refl _, ?_⟩
    have : slices_insertionSortOrdered_L1 0 0 1 [] = some [] := ev_eq 1 (fun m hm => by
      obtain ⟨m, rfl⟩ : ∃ m', m = m' + 1 := ⟨m - 1, by omega⟩
      rfl)
    simp only [slices_insertionSortOrdered, c_slices_insertionSortOrdered, w1]
    show (slices_insertionSortOrdered_L1 0 0 1 []).bind _ = _
    rw [this]; rfl
  | cons x xs =>
    obtain ⟨C, h1, h2, h3⟩ := ins1_spec xs.length [x] xs ((x :: xs).length : Int) rfl rfl hl (List.pairwise_singleton _ _)
    refine ⟨C, h1, h2, ?_⟩
    have : slices_insertionSortOrdered_L1 0 ((x :: xs).length : Int) 1 (iD (x :: xs)) = some (iD C) := ev_eq (xs.length + 1) (fun m hm => h3 m (by omega))
    simp only [slices_insertionSortOrdered, c_slices_insertionSortOrdered, w1, this, Option.bind_some]

theorem sort_spec (xs : List Int) (hl : xs.length ≤ 1048576) : ∃ y, slices_Sort (iD xs) = some y ∧ y.length = xs.length ∧ (xs.length ≤ 12 → ∃ C, St C ∧ C.Perm xs ∧ y = iD C) := by
  obtain ⟨y, h1, h2, h3⟩ := sort_tot (iD xs) (by rw [iD_len]; exact hl)
  rw [iD_len] at h2 h3
  refine ⟨y, h1, h2, fun h12 => ?_⟩
  obtain ⟨C, q1, q2, q3⟩ := ins_spec xs hl
  have := h3 (by omega)
  rw [q3] at this
  exact ⟨C, q1, q2, (Option.some.inj this).symm⟩

theorem clone_eq (l : List D) (hl : l.length ≤ 1048576) : slices_Clone l = some l := by
  simp only [slices_Clone, c_slices_Clone]
  by_cases h : 1 ≤ l.length
  · rw [if_pos h, if_pos (by simp; omega)]; simp
  · obtain rfl : l = [] := List.eq_nil_of_length_eq_zero (by omega)
    rw [if_neg h, if_pos (by simp)]
    unfold bothK
    simp

theorem wf_ints {l : List D} (w : ∀ d ∈ l, wfD (.int .i64) d) : ∀ d ∈ l, ∃ k, d = D.int k := by
  intro d hd
  obtain ⟨k, h, _⟩ := w d hd
  exact ⟨k, h⟩

def hasP (l : List D) (v : Int) (j : Nat) : Bool := decide ((l.getD j (.int 0)).toInt = v)
theorem l1Has_eq (l : List D) (v : Int) (hl : l.length ≤ 1048576) : spec_l1Has l v = some ((firstN (hasP l v) l.length).isSome) := by
  have key : spec_l1Has_L2 l v 0 = some (match firstN (hasP l v) l.length with | some i => .inl true | none => .inr ()) := by
    refine scan_loop (N := fun m i => n_spec_l1Has_L2 m l v i) (hasP l v) (fun _ => .inl true) (fun m i hi => ?_) (fun m => ?_)
    · show c_spec_l1Has_L2 (n_spec_l1Has_L2 m) l v i some = _
      unfold c_spec_l1Has_L2
      rw [decide_eq_true (show (i : Int) < (l.length : Int) by omega), cond_true, if_pos (by omega), wrap_id (by omega) (by omega)]
      simp only [Option.bind_fun_some, Int.toNat_natCast]
      rfl
    · show c_spec_l1Has_L2 (n_spec_l1Has_L2 m) l v l.length some = _
      unfold c_spec_l1Has_L2
      rw [decide_eq_false (by omega)]; rfl
  simp only [spec_l1Has, c_spec_l1Has, key, Option.bind_some]
  cases firstN (hasP l v) l.length <;> rfl

def badP (n : Int) (o : List D) (i : Nat) : Bool := !btw (o.getD i (.int 0)).toInt 0 (n - 1) || (firstN (hasP (o.take i) (o.getD i (.int 0)).toInt) (o.take i).length).isSome

theorem l16Order_L2_eq (l o : List D) (hl : l.length ≤ 1048576) (ho : o.length ≤ 1048576) :
    spec_l16Order_L2 o 0 l = some (match firstN (badP l.length o) o.length with | some _ => .inl (o, false, l) | none => .inr (o, l)) := by
  have hw : IntKind.i64.wrap ((l.length : Int) - 1) = (l.length : Int) - 1 := wrap_id (by omega) (by omega)
  refine scan_loop (N := fun m i => n_spec_l16Order_L2 m o i l) (badP l.length o) (fun _ => .inl (o, false, l)) (fun m i hi => ?_) (fun m => ?_)
  · show c_spec_l16Order_L2 (n_spec_l16Order_L2 m) o i l some = _
    unfold c_spec_l16Order_L2
    rw [decide_eq_true (show (i : Int) < (o.length : Int) by omega), cond_true, if_pos (by omega), hw, wrap_id (n := (i : Int) + 1) (by omega) (by omega)]
    simp only [l1In_eq, Option.bind_some, Option.bind_fun_some, Int.toNat_natCast, Int.sub_zero, Int.toNat_zero, List.drop_zero, Nat.sub_zero]
    unfold badP
    cases btw (o.getD i (.int 0)).toInt 0 ((l.length : Int) - 1) with
    | false => rfl
    | true =>
      simp only [Bool.not_true, cond_false, Bool.false_or]
      rw [if_pos (by omega), if_pos (by omega), l1Has_eq _ _ (by rw [List.length_take]; omega), Option.bind_some]
  · show c_spec_l16Order_L2 (n_spec_l16Order_L2 m) o o.length l some = _
    unfold c_spec_l16Order_L2
    rw [decide_eq_false (by omega)]; rfl

def okO (n : Nat) (o : List D) : Bool := (firstN (badP n o) o.length).isNone

theorem firstN_isNone {p : Nat → Bool} {n : Nat} : (firstN p n).isNone = true ↔ ∀ j, j < n → p j = false := by
  constructor
  · intro h
    cases hf : firstN p n with
    | none => exact firstN_none hf
    | some i => rw [hf] at h; cases h
  · intro h
    cases hf : firstN p n with
    | none => rfl
    | some i =>
      obtain ⟨h1, h2, _⟩ := firstN_some hf
      rw [h i h1] at h2; cases h2

theorem okO_iff (n : Nat) (xs : List Int) : okO n (iD xs) = true ↔ (∀ x ∈ xs, 0 ≤ x ∧ x < n) ∧ xs.Nodup := by
  unfold okO
  rw [firstN_isNone, iD_len]
  have hb : ∀ j, j < xs.length → (badP n (iD xs) j = false ↔ (0 ≤ xs.getD j 0 ∧ xs.getD j 0 < n) ∧ ∀ i, i < j → xs.getD i 0 ≠ xs.getD j 0) := by
    intro j hj
    unfold badP
    rw [iD_get, Bool.or_eq_false_iff, Bool.not_eq_false', btw_iff]
    have hh : (firstN (hasP ((iD xs).take j) (xs.getD j 0)) ((iD xs).take j).length).isSome = false ↔ ∀ i, i < j → xs.getD i 0 ≠ xs.getD j 0 := by
      rw [Option.isSome_eq_false_iff, firstN_isNone, List.length_take, iD_len]
      constructor
      · intro h i hi e
        have := h i (by omega)
        unfold hasP at this
        rw [List.getD_eq_getElem?_getD, List.getElem?_take_of_lt hi, ← List.getD_eq_getElem?_getD, iD_get] at this
        simp only [decide_eq_false_iff_not] at this
        exact this e
      · intro h i hi
        unfold hasP
        rw [List.getD_eq_getElem?_getD, List.getElem?_take_of_lt (by omega), ← List.getD_eq_getElem?_getD, iD_get]
        exact decide_eq_false (h i (by omega))
    rw [hh]
    constructor
    · rintro ⟨h1, h2⟩; exact ⟨by omega, h2⟩
    · rintro ⟨h1, h2⟩; exact ⟨by omega, h2⟩
  have hg : ∀ j (hj : j < xs.length), xs.getD j 0 = xs[j] := fun j hj => by rw [List.getD_eq_getElem?_getD, List.getElem?_eq_getElem hj]; rfl
  constructor
  · intro h
    refine ⟨fun x hx => ?_, ?_⟩
    · obtain ⟨j, hj, rfl⟩ := List.mem_iff_getElem.1 hx
      have := ((hb j hj).1 (h j hj)).1
      rw [hg j hj] at this; exact this
    · unfold List.Nodup
      rw [List.pairwise_iff_getElem]
      intro i j hi hj hij
      have := ((hb j hj).1 (h j hj)).2 i hij
      rw [hg i hi, hg j hj] at this; exact this
  · rintro ⟨h1, h2⟩ j hj
    rw [hb j hj, hg j hj]
    refine ⟨h1 _ (List.getElem_mem hj), fun i hi => ?_⟩
    rw [hg i (by omega)]
    unfold List.Nodup at h2
    rw [List.pairwise_iff_getElem] at h2
    exact h2 i j (by omega) hj hi

theorem upto_of : ∀ (xs : List Int) (k : Int), xs.Pairwise (· < ·) → (∀ x ∈ xs, k ≤ x ∧ x < k + xs.length) → ∀ i, i < xs.length → xs.getD i 0 = k + i
  | [], _, _, _, i, hi => by simp at hi
  | x :: xs, k, hp, hr, i, hi => by
    rw [List.pairwise_cons] at hp
    have hx := hr x (by simp)
    have hr' : ∀ y ∈ xs, k + 1 ≤ y ∧ y < k + 1 + xs.length := fun y hy => by
      have h1 := hp.1 y hy
      have h2 := hr y (by simp [hy])
      simp only [List.length_cons] at h2
      omega
    have ih := upto_of xs (k + 1) hp.2 hr'
    cases i with
    | zero =>
      show x = k + _
      cases xs with
      | nil => simp at hx; simp; omega
      | cons y ys =>
        have h1 := ih 0 (by simp)
        have h2 := hp.1 y (by simp)
        simp at h1 ⊢
        omega
    | succ i =>
      have := ih i (by simpa using hi)
      simp only [List.getD_cons_succ]
      rw [this]; omega

theorem sorted_upto {xs C : List Int} (hS : St C) (hp : C.Perm xs) : (∀ i, i < C.length → C.getD i 0 = (i : Int)) ↔ ((∀ x ∈ xs, 0 ≤ x ∧ x < xs.length) ∧ xs.Nodup) := by
  have hg : ∀ j (hj : j < C.length), C.getD j 0 = C[j] := fun j hj => by rw [List.getD_eq_getElem?_getD, List.getElem?_eq_getElem hj]; rfl
  constructor
  · intro h
    refine ⟨fun x hx => ?_, ?_⟩
    · have hx' := hp.mem_iff.2 hx
      obtain ⟨j, hj, rfl⟩ := List.mem_iff_getElem.1 hx'
      have := h j hj
      rw [hg j hj] at this
      rw [this, ← hp.length_eq]
      omega
    · refine hp.nodup_iff.1 ?_
      unfold List.Nodup
      rw [List.pairwise_iff_getElem]
      intro i j hi hj hij
      have h1 := h i hi
      have h2 := h j hj
      rw [hg i hi] at h1
      rw [hg j hj] at h2
      rw [h1, h2]; omega
  · rintro ⟨h1, h2⟩
    have hlt : C.Pairwise (· < ·) := by
      have := List.Pairwise.and hS (hp.nodup_iff.2 h2)
      exact this.imp (fun {a b} h => by have := h.1; have := h.2; omega)
    intro i hi
    have := upto_of C 0 hlt (fun x hx => by have := h1 x (hp.mem_iff.1 hx); rw [hp.length_eq]; omega) i hi
    rw [this]; omega

def notAt (y : List D) (i : Nat) : Bool := !decide ((i : Int) = (y.getD i (.int 0)).toInt)
theorem isOrder_L4_eq (o y : List D) (n : Int) (hy : y.length ≤ 1048576) : impl_isOrder_L4 o n y.length 0 y = some (match firstN (notAt y) y.length with | some _ => .inl (o, n, false) | none => .inr (o, n)) := by
  refine scan_loop (N := fun m i => n_impl_isOrder_L4 m o n y.length i y) (notAt y) (fun _ => .inl (o, n, false)) (fun m i hi => ?_) (fun m => ?_)
  · show c_impl_isOrder_L4 (n_impl_isOrder_L4 m) o n y.length i y some = _
    unfold c_impl_isOrder_L4
    rw [decide_eq_true (show (i : Int) < (y.length : Int) by omega), cond_true, if_pos (by omega), if_pos (by omega), wrap_id (by omega) (by omega)]
    simp only [Option.bind_fun_some, Int.toNat_natCast]
    rfl
  · show c_impl_isOrder_L4 (n_impl_isOrder_L4 m) o n y.length y.length y some = _
    unfold c_impl_isOrder_L4
    rw [decide_eq_false (by omega)]; rfl

theorem isOrder_eq (xs : List Int) (n : Nat) (hl : xs.length ≤ 1048576) (hn : n ≤ 12) : impl_isOrder (iD xs) n = some (okO n (iD xs) && decide (xs.length = n)) := by
  obtain ⟨y, h1, h2, h3⟩ := sort_spec xs hl
  simp only [impl_isOrder, c_impl_isOrder, clone_eq (iD xs) (by rw [iD_len]; exact hl), Option.bind_some, h1, isOrder_L4_eq (iD xs) y n (by omega)]
  by_cases hq : xs.length = n
  · obtain ⟨C, q1, q2, rfl⟩ := h3 (by omega)
    have hu := sorted_upto q1 q2
    rw [hq, ← okO_iff] at hu
    have hL : (iD C).length = C.length := iD_len C
    cases hf : firstN (notAt (iD C)) (iD C).length with
    | none =>
      have : okO n (iD xs) = true := hu.1 (fun i hi => by
        have := firstN_none hf i (by omega)
        unfold notAt at this
        rw [iD_get] at this
        simp at this
        simp [this])
      simp [this, hq, iD_len]
    | some i =>
      obtain ⟨r1, r2, _⟩ := firstN_some hf
      have : okO n (iD xs) = false := by
        cases ho : okO n (iD xs) with
        | false => rfl
        | true =>
          have := hu.2 ho i (by omega)
          unfold notAt at r2
          rw [iD_get, this] at r2
          simp at r2
      simp [this]
  · rw [decide_eq_false hq, Bool.and_false]
    cases firstN (notAt y) y.length with
    | some i => rfl
    | none =>
      simp only [Sum.elim_inr, iD_len]
      rw [decide_eq_false (by omega)]

theorem order_same (l o : List D) (hl : l.length ≤ 1048576) (ho : o.length ≤ 1048576) (hi : ∀ d ∈ o, ∃ k, d = D.int k) :
    ∃ b, spec_l16Order l o = some b ∧ impl_areTableOrder l o = some b ∧ (b = true → GoodT l ∧ o.length = l.length ∧ (∀ d ∈ o, 0 ≤ d.toInt ∧ d.toInt < l.length) ∧ (o.map D.toInt).Nodup) := by
  obtain ⟨v, g1, g2, g3⟩ := table_good l
  have hx := iD_of hi
  simp only [spec_l16Order, c_spec_l16Order, impl_areTableOrder, c_impl_areTableOrder, l16Order_L2_eq l o hl ho, g1, g2, Option.bind_some, Option.bind_fun_some]
  have hk : okO l.length o = (firstN (badP l.length o) o.length).isNone := rfl
  cases v with
  | false =>
    refine ⟨false, ?_, rfl, fun h => by cases h⟩
    cases firstN (badP l.length o) o.length <;> simp [g1]
  | true =>
    have hg := g3 rfl
    have hn7 := hg.n7
    have := isOrder_eq (o.map D.toInt) l.length (by simpa using ho) (by omega)
    rw [← hx] at this
    refine ⟨_, ?_, this, fun h => ?_⟩
    · rw [hk]
      cases firstN (badP l.length o) o.length with
      | some i => rfl
      | none =>
        simp [g1]
        omega
    · simp only [Bool.and_eq_true, decide_eq_true_eq, List.length_map] at h
      have h1 := h.1
      rw [hx, okO_iff] at h1
      refine ⟨hg, h.2, fun d hd => ?_, h1.2⟩
      exact h1.1 _ (List.mem_map_of_mem hd)

theorem ev_spec {Y : Type} {f : Nat → Option Y} {y : Y} (h : ev f = some y) : ∃ n, ∀ m, n ≤ m → f m = some y := by
  unfold ev at h
  split at h
  · rename_i hx
    simp only [Option.some.injEq] at h
    rw [← h]
    exact hx.choose_spec
  · cases h
theorem ev_succ {Y : Type} {f g : Nat → Option Y} (h : ∀ m, f (m + 1) = g m) {y : Y} (hy : ev g = some y) : ev f = some y := by
  obtain ⟨n, hn⟩ := ev_spec hy
  refine ev_eq (n + 1) (fun m hm => ?_)
  obtain ⟨m, rfl⟩ : ∃ m', m = m' + 1 := ⟨m - 1, by omega⟩
  rw [h]; exact hn m (by omega)

def rgP (l o : List D) (t : Int) (n : Nat) (y : Int × Int) : Prop := (y.1 = -1 ∧ y.2 = -1) ∨ (0 ≤ y.1 ∧ y.1 ≤ y.2 ∧ y.2 < n ∧ ((l.getD ((o.getD y.1.toNat (.int 0)).toInt).toNat (.int 0)).items.getD t.toNat (.int 0)).toInt ≠ 0)
theorem rgP_mono {l o : List D} {t : Int} {n : Nat} {y : Int × Int} (h : rgP l o t n y) : rgP l o t (n + 1) y := by
  rcases h with h | ⟨h1, h2, h3, h4⟩
  · exact .inl h
  · exact .inr ⟨h1, h2, by omega, h4⟩
theorem rgP_ext {l o : List D} {t : Int} {i : Nat} {f u : Int} (h : rgP l o t i (f, u)) (hf : 0 ≤ f) : rgP l o t (i + 1) (f, (i : Int)) := by
  rcases h with ⟨h1, h2⟩ | ⟨h1, h2, h3, h4⟩
  · simp only at h1; omega
  · simp only at h1 h2 h3 h4; exact .inr ⟨h1, by simp only; omega, by simp only; omega, h4⟩
theorem rgP_new {l o : List D} {t : Int} {i : Nat} (h : ((l.getD ((o.getD i (.int 0)).toInt).toNat (.int 0)).items.getD t.toNat (.int 0)).toInt ≠ 0) : rgP l o t (i + 1) ((i : Int), (i : Int)) :=
  .inr ⟨by simp only; omega, by simp only; omega, by simp only; omega, h⟩
theorem range_post {l o : List D} (hg : GoodT l) (ho : o.length ≤ 1048576) (hr : ∀ d ∈ o, 0 ≤ d.toInt ∧ d.toInt < l.length) (t : Int) (ht0 : 0 ≤ t) (ht : t < ((l[0]?.getD (D.int 0)).items.length : Int)) :
    ∃ y, spec_l16Range l o t = some y ∧ impl_typeRange l o t = some y ∧ rgP l o t o.length y := by
  have hc10 := hg.c10
  obtain ⟨y, y', h1, h2, hR⟩ := loop_two (N := fun m (x : Int × Int × Nat) => n_spec_l16Range_L3 m o t x.1 x.2.1 x.2.2 l) (N' := fun m (x : Int × Int × Nat) => n_impl_typeRange_L3 m t x.1 x.2.1 o o.length x.2.2 l)
    (fun x => x.2.2 ≤ o.length ∧ rgP l o t x.2.2 (x.1, x.2.1)) (fun x => o.length - x.2.2) (fun y y' => y = y' ∧ rgP l o t o.length y) (by
      rintro ⟨f, u, i⟩ ⟨hi, hp⟩
      simp only at hi hp
      by_cases hlt : i < o.length
      · right
        have hd := hr _ (getD_mem hlt)
        obtain ⟨a, ha⟩ : ∃ a : Nat, (o.getD i (D.int 0)).toInt = (a : Int) := ⟨((o.getD i (D.int 0)).toInt).toNat, by omega⟩
        have hal : a < l.length := by omega
        have hrow := hg.len a hal
        rw [← List.getD_eq_getElem?_getD] at hrow
        have hw : IntKind.i64.wrap ((i : Int) + 1) = ((i + 1 : Nat) : Int) := succ_wrap (by omega)
        have e1 : ∀ m, n_spec_l16Range_L3 (m + 1) o t f u (i : Int) l = bif decide (0 < ((l.getD a (D.int 0)).items.getD t.toNat (D.int 0)).toInt) then bif decide (f < 0) then n_spec_l16Range_L3 m o t i i ((i + 1 : Nat) : Int) l else n_spec_l16Range_L3 m o t f i ((i + 1 : Nat) : Int) l else n_spec_l16Range_L3 m o t f u ((i + 1 : Nat) : Int) l := by
          intro m
          show c_spec_l16Range_L3 (n_spec_l16Range_L3 m) o t f u i l some = _
          unfold c_spec_l16Range_L3
          simp only [Option.bind_fun_some, Int.toNat_natCast, hw, ha]
          rw [decide_eq_true (show (i : Int) < (o.length : Int) by omega), cond_true, if_pos (by omega), if_pos (by omega), if_pos (by omega)]
        have e2 : ∀ m, n_impl_typeRange_L3 (m + 1) t f u o o.length (i : Int) l = bif decide (0 < ((l.getD a (D.int 0)).items.getD t.toNat (D.int 0)).toInt) then bif decide (f < 0) then n_impl_typeRange_L3 m t i i o o.length ((i + 1 : Nat) : Int) l else n_impl_typeRange_L3 m t f i o o.length ((i + 1 : Nat) : Int) l else n_impl_typeRange_L3 m t f u o o.length ((i + 1 : Nat) : Int) l := by
          intro m
          show c_impl_typeRange_L3 (n_impl_typeRange_L3 m) t f u o o.length i l some = _
          unfold c_impl_typeRange_L3
          simp only [Option.bind_fun_some, Int.toNat_natCast, hw, ha]
          rw [decide_eq_true (show (i : Int) < (o.length : Int) by omega), cond_true, if_pos (by omega), if_pos (by omega), if_pos (by omega)]
        have ha' : ((o.getD i (D.int 0)).toInt).toNat = a := by omega
        cases q1 : decide (0 < ((l.getD a (D.int 0)).items.getD t.toNat (D.int 0)).toInt) with
        | false => exact ⟨(f, u, i + 1), ⟨by simp only; omega, rgP_mono hp⟩, by simp only; omega, fun m => ⟨by show n_spec_l16Range_L3 (m + 1) o t f u (i : Int) l = _; rw [e1, q1]; rfl, by show n_impl_typeRange_L3 (m + 1) t f u o o.length (i : Int) l = _; rw [e2, q1]; rfl⟩⟩
        | true =>
          cases q2 : decide (f < 0) with
          | false => exact ⟨(f, i, i + 1), ⟨by simp only; omega, rgP_ext hp (by simpa using q2)⟩, by simp only; omega, fun m => ⟨by show n_spec_l16Range_L3 (m + 1) o t f u (i : Int) l = _; rw [e1, q1, q2]; rfl, by show n_impl_typeRange_L3 (m + 1) t f u o o.length (i : Int) l = _; rw [e2, q1, q2]; rfl⟩⟩
          | true => exact ⟨(i, i, i + 1), ⟨by simp only; omega, rgP_new (by rw [ha']; have := of_decide_eq_true q1; omega)⟩, by simp only; omega, fun m => ⟨by show n_spec_l16Range_L3 (m + 1) o t f u (i : Int) l = _; rw [e1, q1, q2]; rfl, by show n_impl_typeRange_L3 (m + 1) t f u o o.length (i : Int) l = _; rw [e2, q1, q2]; rfl⟩⟩
      · left
        refine ⟨(f, u), (f, u), ⟨rfl, by rw [show o.length = i by omega]; exact hp⟩, fun m => ⟨?_, ?_⟩⟩
        · show c_spec_l16Range_L3 (n_spec_l16Range_L3 m) o t f u i l some = _
          unfold c_spec_l16Range_L3
          rw [decide_eq_false (by omega)]; rfl
        · show c_impl_typeRange_L3 (n_impl_typeRange_L3 m) t f u o o.length i l some = _
          unfold c_impl_typeRange_L3
          rw [decide_eq_false (by omega)]; rfl) (-1, -1, 0) ⟨by simp, .inl ⟨rfl, rfl⟩⟩
  obtain ⟨rfl, hP⟩ := hR
  have k1 : spec_l16Range_L3 o t (-1) (-1) 0 l = some y := h1
  have k2 : impl_typeRange_L3 t (-1) (-1) o o.length 0 l = some y := h2
  refine ⟨y, ?_, ?_, hP⟩
  · simp only [spec_l16Range, c_spec_l16Range, k1, Option.bind_some]
  · simp only [impl_typeRange, c_impl_typeRange, k2, Option.bind_some]

def cnt (p : Nat → Bool) : Nat → Nat
  | 0 => 0
  | k + 1 => cnt p k + (bif p k then 1 else 0)
theorem cnt_le (p : Nat → Bool) : ∀ k, cnt p k ≤ k
  | 0 => Nat.le_refl 0
  | k + 1 => by have := cnt_le p k; unfold cnt; cases p k <;> simp <;> omega
theorem cnt_stop {p : Nat → Bool} {a : Nat} : ∀ {b : Nat}, a ≤ b → (∀ j, a ≤ j → j < b → p j = false) → cnt p b = cnt p a
  | 0, h, _ => by rw [show a = 0 by omega]
  | b + 1, h, hp => by
    rcases Nat.lt_or_ge a (b + 1) with hlt | hge
    · show cnt p b + (bif p b then 1 else 0) = _
      rw [hp b (by omega) (by omega), cnt_stop (b := b) (by omega) (fun j h1 h2 => hp j h1 (by omega))]
      rfl
    · rw [show a = b + 1 by omega]

def zeroA (l o : List D) (t : Nat) (j : Nat) : Bool := decide (((l.getD ((o.getD j (.int 0)).toInt).toNat (.int 0)).items.getD t (.int 0)).toInt = 0)
def gapP (l o : List D) (t : Nat) (f u : Int) (j : Nat) : Bool := decide (f < j) && (decide ((j : Int) < u) && zeroA l o t j)

theorem specGap7 {l o : List D} (hg : GoodT l) (hn : o.length = l.length) (hr : ∀ d ∈ o, 0 ≤ d.toInt ∧ d.toInt < l.length) {t : Nat} (ht : t < (l[0]?.getD (D.int 0)).items.length) {f u : Int} (h : rgP l o t o.length (f, u)) (acc : Nat) (hacc : acc ≤ 1000) :
    spec_l16Gaps_L7 o (acc : Int) (t : Int) u f l = some (o, ((acc + cnt (gapP l o t f u) o.length : Nat) : Int), (t : Int), l) := by
  have hn7 := hg.n7
  have hc10 := hg.c10
  rcases h with ⟨h1, h2⟩ | ⟨h1, h2, h3, h4⟩
  · simp only at h1 h2
    subst h1 h2
    have hz : cnt (gapP l o t (-1) (-1)) o.length = 0 := cnt_stop (a := 0) (by omega) (fun j _ _ => by
      unfold gapP; rw [decide_eq_false (show ¬ (j : Int) < -1 by omega)]; simp)
    rw [hz]
    refine ev_eq (f := fun m => n_spec_l16Gaps_L7 m o (acc : Int) (t : Int) (-1) (-1) l) 1 (fun m hm => ?_)
    obtain ⟨m, rfl⟩ : ∃ m', m = m' + 1 := ⟨m - 1, by omega⟩
    rfl
  · simp only at h1 h2 h3 h4
    obtain ⟨f, rfl⟩ : ∃ k : Nat, f = (k : Int) := ⟨f.toNat, by omega⟩
    obtain ⟨u, rfl⟩ : ∃ k : Nat, u = (k : Int) := ⟨u.toNat, by omega⟩
    have key : ∀ k, ∀ i m, i + k = u → f ≤ i → k < m → n_spec_l16Gaps_L7 m o ((acc + cnt (gapP l o t f u) i : Nat) : Int) (t : Int) (u : Int) (i : Int) l = some (o, ((acc + cnt (gapP l o t f u) o.length : Nat) : Int), (t : Int), l) := by
      intro k
      induction k with
      | zero =>
        intro i m hi hf hm
        obtain ⟨m, rfl⟩ : ∃ m', m = m' + 1 := ⟨m - 1, by omega⟩
        obtain rfl : i = u := by omega
        show c_spec_l16Gaps_L7 (n_spec_l16Gaps_L7 m) o _ t _ i l some = _
        unfold c_spec_l16Gaps_L7
        rw [decide_eq_false (by omega), cond_false, cnt_stop (a := i) (b := o.length) (by omega) (fun j q1 _ => by
          unfold gapP; rw [decide_eq_false (show ¬ (j : Int) < (i : Int) by omega)]; simp)]
      | succ k ih =>
        intro i m hi hf hm
        obtain ⟨m, rfl⟩ : ∃ m', m = m' + 1 := ⟨m - 1, by omega⟩
        have hio : i < o.length := by omega
        have hd := hr _ (getD_mem hio)
        obtain ⟨a, ha⟩ : ∃ a : Nat, (o.getD i (D.int 0)).toInt = (a : Int) := ⟨((o.getD i (D.int 0)).toInt).toNat, by omega⟩
        have hrow := hg.len a (by omega)
        rw [← List.getD_eq_getElem?_getD] at hrow
        have hc := cnt_le (gapP l o t f u) i
        have hz : zeroA l o t i = decide (((l.getD a (D.int 0)).items.getD t (D.int 0)).toInt = 0) := by
          unfold zeroA; rw [ha, Int.toNat_natCast]
        show c_spec_l16Gaps_L7 (n_spec_l16Gaps_L7 m) o _ t u i l some = _
        unfold c_spec_l16Gaps_L7
        simp only [Option.bind_fun_some, Int.toNat_natCast, ha]
        rw [decide_eq_true (show (i : Int) < (u : Int) by omega), cond_true, if_pos (by omega), if_pos (by omega), if_pos (by omega), succ_wrap (by omega), succ_wrap (by omega), ← hz]
        have hnext := ih (i + 1) m (by omega) (by omega) (by omega)
        have hsucc : cnt (gapP l o t f u) (i + 1) = cnt (gapP l o t f u) i + (bif gapP l o t f u i then 1 else 0) := rfl
        cases hq : zeroA l o t i with
        | true =>
          have hfi : f ≠ i := by
            rintro rfl
            rw [hz] at hq
            have := of_decide_eq_true hq
            rw [Int.toNat_natCast, Int.toNat_natCast, ha, Int.toNat_natCast] at h4
            exact h4 this
          have : gapP l o t f u i = true := by
            unfold gapP
            rw [hq, decide_eq_true (show (f : Int) < (i : Int) by omega), decide_eq_true (show (i : Int) < (u : Int) by omega)]; rfl
          rw [this] at hsucc
          simp only [cond_true] at hsucc ⊢
          rw [hsucc] at hnext
          exact hnext
        | false =>
          have : gapP l o t f u i = false := by unfold gapP; rw [hq]; simp
          rw [this] at hsucc
          simp only [cond_false] at hsucc ⊢
          rw [hsucc] at hnext
          exact hnext
    have h0 : cnt (gapP l o t f u) f = 0 := cnt_stop (a := 0) (by omega) (fun j _ q => by
      unfold gapP; rw [decide_eq_false (show ¬ (f : Int) < (j : Int) by omega)]; rfl)
    refine ev_eq (f := fun m => n_spec_l16Gaps_L7 m o (acc : Int) (t : Int) (u : Int) (f : Int) l) (u - f + 1) (fun m hm => ?_)
    have := key (u - f) f m (by omega) (by omega) (by omega)
    rw [h0] at this
    exact this

def sumN (g : List Nat) : Nat := g.foldr (· + ·) 0
def nD (g : List Nat) : List D := g.map (fun (k : Nat) => D.int (k : Int))
theorem nD_len (g : List Nat) : (nD g).length = g.length := by simp [nD]
theorem nD_get (g : List Nat) (i : Nat) : ((nD g).getD i (.int 0)).toInt = ((g.getD i 0 : Nat) : Int) := by
  simp only [nD, List.getD_eq_getElem?_getD, List.getElem?_map]
  cases g[i]? <;> rfl
theorem nD_set (g : List Nat) (i v : Nat) : (nD g).set i (D.int (v : Int)) = nD (g.set i v) := by simp [nD, List.map_set]
theorem sumN_set : ∀ (g : List Nat) (i : Nat), i < g.length → sumN (g.set i (g.getD i 0 + 1)) = sumN g + 1
  | [], i, h => by simp at h
  | x :: g, 0, _ => by simp [sumN]; omega
  | x :: g, i + 1, h => by
    have := sumN_set g i (by simpa using h)
    simp only [sumN, List.set_cons_succ, List.foldr_cons, List.getD_cons_succ] at this ⊢
    omega
theorem sumN_get : ∀ (g : List Nat) (i : Nat), g.getD i 0 ≤ sumN g
  | [], i => by simp [sumN]
  | x :: g, 0 => by simp [sumN]
  | x :: g, i + 1 => by
    have := sumN_get g i
    simp only [sumN, List.foldr_cons, List.getD_cons_succ] at this ⊢
    omega

theorem implGap7 {l o : List D} (hg : GoodT l) (hn : o.length = l.length) (hr : ∀ d ∈ o, 0 ≤ d.toInt ∧ d.toInt < l.length) {t : Nat} (ht : t < (l[0]?.getD (D.int 0)).items.length) (f u c : Int) (g : List Nat) (hgl : g.length = o.length) (hs : sumN g ≤ 1000) :
    ∃ g' : List Nat, g'.length = o.length ∧ sumN g' = sumN g + cnt (gapP l o t f u) o.length ∧
      impl_gapsAt_L7 o (t : Int) f u c (t : Int) o o.length 0 l (nD g) = some (o, c, (t : Int), l, nD g') := by
  have hn7 := hg.n7
  have hc10 := hg.c10
  have key : ∀ k, ∀ i (e : List Nat), i + k = o.length → e.length = o.length → sumN e = sumN g + cnt (gapP l o t f u) i → ∃ g' : List Nat, g'.length = o.length ∧ sumN g' = sumN g + cnt (gapP l o t f u) o.length ∧ ∀ m, k < m →
      n_impl_gapsAt_L7 m o (t : Int) f u c (t : Int) o o.length (i : Int) l (nD e) = some (o, c, (t : Int), l, nD g') := by
    intro k
    induction k with
    | zero =>
      intro i e hi he hse
      obtain rfl : i = o.length := by omega
      refine ⟨e, he, hse, fun m hm => ?_⟩
      obtain ⟨m, rfl⟩ : ∃ m', m = m' + 1 := ⟨m - 1, by omega⟩
      show c_impl_gapsAt_L7 (n_impl_gapsAt_L7 m) o t f u c t o o.length o.length l (nD e) some = _
      unfold c_impl_gapsAt_L7
      rw [decide_eq_false (by omega)]; rfl
    | succ k ih =>
      intro i e hi he hse
      have hio : i < o.length := by omega
      have hd := hr _ (getD_mem hio)
      obtain ⟨a, ha⟩ : ∃ a : Nat, (o.getD i (D.int 0)).toInt = (a : Int) := ⟨((o.getD i (D.int 0)).toInt).toNat, by omega⟩
      have hrow := hg.len a (by omega)
      rw [← List.getD_eq_getElem?_getD] at hrow
      have hc := cnt_le (gapP l o t f u) i
      have hz : zeroA l o t i = decide (((l.getD a (D.int 0)).items.getD t (D.int 0)).toInt = 0) := by
        unfold zeroA; rw [ha, Int.toNat_natCast]
      have hge := sumN_get e i
      have hset : (nD e).set i (D.int (IntKind.i64.wrap (((e.getD i 0 : Nat) : Int) + 1))) = nD (e.set i (e.getD i 0 + 1)) := by
        rw [succ_wrap (by omega), nD_set]
      have step : ∀ m, n_impl_gapsAt_L7 (m + 1) o (t : Int) f u c (t : Int) o o.length (i : Int) l (nD e) =
          bif gapP l o t f u i then n_impl_gapsAt_L7 m o (t : Int) f u c (t : Int) o o.length ((i + 1 : Nat) : Int) l (nD (e.set i (e.getD i 0 + 1))) else n_impl_gapsAt_L7 m o (t : Int) f u c (t : Int) o o.length ((i + 1 : Nat) : Int) l (nD e) := by
        intro m
        show c_impl_gapsAt_L7 (n_impl_gapsAt_L7 m) o t f u c t o o.length i l (nD e) some = _
        unfold c_impl_gapsAt_L7
        simp only [Option.bind_fun_some, Int.toNat_natCast, ha, nD_len, nD_get, hset]
        rw [decide_eq_true (show (i : Int) < (o.length : Int) by omega), cond_true, if_pos (by omega), if_pos (by omega), if_pos (by omega), if_pos (by omega), if_pos (by omega), if_pos (by omega), if_pos (by omega), succ_wrap (by omega), ← hz]
        unfold gapP
        cases decide (f < (i : Int)) <;> cases decide ((i : Int) < u) <;> cases zeroA l o t i <;> rfl
      have hsucc : cnt (gapP l o t f u) (i + 1) = cnt (gapP l o t f u) i + (bif gapP l o t f u i then 1 else 0) := rfl
      cases hq : gapP l o t f u i with
      | true =>
        rw [hq, cond_true] at hsucc
        obtain ⟨g', r1, r2, r3⟩ := ih (i + 1) (e.set i (e.getD i 0 + 1)) (by omega) (by simpa using he) (by rw [sumN_set e i (by omega), hse, hsucc]; omega)
        refine ⟨g', r1, r2, fun m hm => ?_⟩
        obtain ⟨m, rfl⟩ : ∃ m', m = m' + 1 := ⟨m - 1, by omega⟩
        rw [step, hq, cond_true]
        exact r3 m (by omega)
      | false =>
        rw [hq, cond_false] at hsucc
        obtain ⟨g', r1, r2, r3⟩ := ih (i + 1) e (by omega) he (by rw [hse, hsucc]; omega)
        refine ⟨g', r1, r2, fun m hm => ?_⟩
        obtain ⟨m, rfl⟩ : ∃ m', m = m' + 1 := ⟨m - 1, by omega⟩
        rw [step, hq, cond_false]
        exact r3 m (by omega)
  obtain ⟨g', r1, r2, r3⟩ := key o.length 0 g (by omega) hgl (by simp [cnt])
  exact ⟨g', r1, r2, ev_eq (f := fun m => n_impl_gapsAt_L7 m o (t : Int) f u c (t : Int) o o.length 0 l (nD g)) (o.length + 1) (fun m hm => r3 m (by omega))⟩

theorem sumOf_nD (g : List Nat) (hl : g.length ≤ 1000) (hs : sumN g ≤ 1000000) : impl_sumOf (nD g) = some ((sumN g : Nat) : Int) := by
  have key : ∀ k i m, i + k = g.length → k < m → n_impl_sumOf_L3 m ((sumN (g.take i) : Nat) : Int) (nD g) g.length (i : Int) = some ((sumN g : Nat) : Int) := by
    intro k
    induction k with
    | zero =>
      intro i m hi hm
      obtain ⟨m, rfl⟩ : ∃ m', m = m' + 1 := ⟨m - 1, by omega⟩
      obtain rfl : i = g.length := by omega
      show c_impl_sumOf_L3 (n_impl_sumOf_L3 m) _ (nD g) g.length g.length some = _
      unfold c_impl_sumOf_L3
      rw [decide_eq_false (by omega), cond_false, List.take_length]
    | succ k ih =>
      intro i m hi hm
      obtain ⟨m, rfl⟩ : ∃ m', m = m' + 1 := ⟨m - 1, by omega⟩
      have hil : i < g.length := by omega
      have e1 : sumN (g.take (i + 1)) = sumN (g.take i) + g.getD i 0 := by
        rw [List.take_succ_eq_append_getElem hil, List.getD_eq_getElem?_getD, List.getElem?_eq_getElem hil]
        have : ∀ (a : List Nat) (x : Nat), sumN (a ++ [x]) = sumN a + x := by
          intro a x
          induction a with
          | nil => simp [sumN]
          | cons y a ih => simp only [sumN, List.cons_append, List.foldr_cons] at ih ⊢; omega
        exact this _ _
      have e2 : sumN (g.take (i + 1)) ≤ sumN g := by
        have : ∀ (a : List Nat) (n : Nat), sumN (a.take n) ≤ sumN a := by
          intro a
          induction a with
          | nil => intro n; simp [sumN]
          | cons y a ih => intro n; cases n with
            | zero => simp [sumN]
            | succ n => have := ih n; simp only [sumN, List.take_succ_cons, List.foldr_cons] at this ⊢; omega
        exact this _ _
      show c_impl_sumOf_L3 (n_impl_sumOf_L3 m) _ (nD g) g.length i some = _
      unfold c_impl_sumOf_L3
      simp only [Option.bind_fun_some, Int.toNat_natCast, nD_len, nD_get]
      rw [decide_eq_true (show (i : Int) < (g.length : Int) by omega), cond_true, if_pos (by omega), succ_wrap (by omega), wrap_id (by omega) (by omega)]
      have := ih (i + 1) m (by omega) (by omega)
      rw [e1] at this
      rw [show (((sumN (g.take i) : Nat) : Int) + ((g.getD i 0 : Nat) : Int)) = ((sumN (g.take i) + g.getD i 0 : Nat) : Int) by omega]
      exact this
  have : impl_sumOf_L3 0 (nD g) g.length 0 = some ((sumN g : Nat) : Int) := ev_eq (f := fun m => n_impl_sumOf_L3 m 0 (nD g) g.length 0) (g.length + 1) (fun m hm => key g.length 0 m (by omega) (by omega))
  simp only [impl_sumOf, c_impl_sumOf, nD_len, this, Option.bind_some]

theorem gaps_same {l o : List D} (hg : GoodT l) (hn : o.length = l.length) (hr : ∀ d ∈ o, 0 ≤ d.toInt ∧ d.toInt < l.length) :
    ∃ v : Nat, v ≤ 1000 ∧ spec_l16Gaps l o = some (v : Int) ∧ impl_gapCount l o = some (v : Int) ∧ ∃ g : List Nat, g.length = o.length ∧ sumN g = v ∧ impl_gapsAt l o = some (nD g) := by
  have hn7 := hg.n7
  have hn1 := hg.n1
  have hc10 := hg.c10
  obtain ⟨c, hc⟩ : ∃ c, (l[0]?.getD (D.int 0)).items.length = c := ⟨_, rfl⟩
  have hc' : (l.getD (Int.toNat 0) (D.int 0)).items.length = c := by rw [List.getD_eq_getElem?_getD]; exact hc
  obtain ⟨y, y', h1, h2, v, g, hv, rfl, rfl, hgl, hgs⟩ := loop_two (N := fun m (x : Nat × List Nat) => n_spec_l16Gaps_L3 m o ((sumN x.2 : Nat) : Int) (x.1 : Int) l) (N' := fun m (x : Nat × List Nat) => n_impl_gapsAt_L3 m o (c : Int) (x.1 : Int) l (nD x.2))
    (fun x => x.1 ≤ c ∧ x.2.length = o.length ∧ sumN x.2 ≤ 10 * x.1) (fun x => c - x.1) (fun y y' => ∃ (v : Nat) (g : List Nat), v ≤ 1000 ∧ y = (v : Int) ∧ y' = nD g ∧ g.length = o.length ∧ sumN g = v) (by
      rintro ⟨t, e⟩ ⟨htc, hel, hes⟩
      simp only at htc hel hes
      by_cases hlt : t < c
      · right
        obtain ⟨r, q1, q2, q3⟩ := range_post hg (by omega) hr (t : Int) (by omega) (by omega)
        obtain ⟨f, u⟩ := r
        have s1 := specGap7 hg hn hr (t := t) (by omega) q3 (sumN e) (by omega)
        obtain ⟨g', r1, r2, r3⟩ := implGap7 hg hn hr (t := t) (by omega) f u (c : Int) e hel (by omega)
        have hcl := cnt_le (gapP l o t f u) o.length
        rw [← r2] at s1
        have hw : IntKind.i64.wrap ((t : Int) + 1) = ((t + 1 : Nat) : Int) := succ_wrap (by omega)
        refine ⟨(t + 1, g'), ⟨by simp only; omega, r1, by simp only; omega⟩, by simp only; omega, fun m => ⟨?_, ?_⟩⟩
        · show c_spec_l16Gaps_L3 (n_spec_l16Gaps_L3 m) o _ t l some = _
          unfold c_spec_l16Gaps_L3
          simp only [Option.bind_fun_some, hc', q1, Option.bind_some, s1, hw]
          rw [if_pos (by omega), decide_eq_true (show (t : Int) < (c : Int) by omega), cond_true]
        · show c_impl_gapsAt_L3 (n_impl_gapsAt_L3 m) o c t l (nD e) some = _
          unfold c_impl_gapsAt_L3
          simp only [Option.bind_fun_some, q2, Option.bind_some, r3, hw]
          rw [decide_eq_true (show (t : Int) < (c : Int) by omega), cond_true]
      · left
        refine ⟨((sumN e : Nat) : Int), nD e, ⟨sumN e, e, by omega, rfl, rfl, hel, rfl⟩, fun m => ⟨?_, ?_⟩⟩
        · show c_spec_l16Gaps_L3 (n_spec_l16Gaps_L3 m) o _ t l some = _
          unfold c_spec_l16Gaps_L3
          simp only [hc']
          rw [if_pos (by omega), decide_eq_false (by omega)]; rfl
        · show c_impl_gapsAt_L3 (n_impl_gapsAt_L3 m) o c t l (nD e) some = _
          unfold c_impl_gapsAt_L3
          rw [decide_eq_false (by omega)]; rfl) (0, List.replicate o.length 0) ⟨by omega, by simp, by
        have : ∀ n, sumN (List.replicate n 0) = 0 := by
          intro n
          induction n with
          | zero => rfl
          | succ n ih => simp only [List.replicate_succ, sumN, List.foldr_cons] at ih ⊢; omega
        simp only [this]; omega⟩
  have z0 : ∀ n, sumN (List.replicate n 0) = 0 := by
    intro n
    induction n with
    | zero => rfl
    | succ n ih => simp only [List.replicate_succ, sumN, List.foldr_cons] at ih ⊢; omega
  have zD : nD (List.replicate o.length 0) = List.replicate o.length (D.int 0) := by simp [nD]
  have k1 : spec_l16Gaps_L3 o 0 0 l = some (v : Int) := by
    have := h1
    simp only [z0] at this
    exact this
  have k2 : impl_gapsAt_L3 o (c : Int) 0 l (List.replicate o.length (D.int 0)) = some (nD g) := by
    have := h2
    simp only [zD] at this
    exact this
  have k3 : impl_gapsAt l o = some (nD g) := by
    simp only [impl_gapsAt, c_impl_gapsAt, hc', Int.toNat_natCast, k2, Option.bind_some]
    rw [if_pos (by omega), if_pos (by omega)]
  refine ⟨v, hv, ?_, ?_, g, hgl, hgs, k3⟩
  · simp only [spec_l16Gaps, c_spec_l16Gaps, k1, Option.bind_some]
  · simp only [impl_gapCount, c_impl_gapCount, k3, Option.bind_some, sumOf_nD g (by omega) (by omega), hgs]

theorem gc_same (l o : List D) (hl : l.length ≤ 1048576) (ho : o.length ≤ 1048576) (hi : ∀ d ∈ o, ∃ k, d = D.int k) : ∃ y, spec_GapCount l o = some y ∧ impl_GapCount l o = some y := by
  obtain ⟨b, h1, h2, h3⟩ := order_same l o hl ho hi
  simp only [spec_GapCount, c_spec_GapCount, impl_GapCount, c_impl_GapCount, h1, h2, Option.bind_some]
  cases b with
  | false => exact ⟨_, rfl, rfl⟩
  | true =>
    obtain ⟨hg, hn, hr, _⟩ := h3 rfl
    obtain ⟨y, _, q1, q2, _⟩ := gaps_same hg hn hr
    simp only [Bool.not_true, cond_false, q1, q2, Option.bind_some]
    exact ⟨_, rfl, rfl⟩

theorem pure_FnExactGapCount (x0 : List D) (x1 : List D) (h0 : x0.length ≤ maxLen) (w0 : ∀ d ∈ x0, wfD (.slice (.int .i64)) d) (h1 : x1.length ≤ maxLen) (w1 : ∀ d ∈ x1, wfD (.int .i64) d) : laws_FnExactGapCount x0 x1 = some true := by
  by_cases hb : (1048576 : Int) < (x1.length : Int)
  · simp [laws_FnExactGapCount, c_laws_FnExactGapCount, hb]
  · obtain ⟨v, hv, hv2⟩ := szTable_eq x0 h0 w0
    by_cases hneg : v < 0
    · simp [laws_FnExactGapCount, c_laws_FnExactGapCount, hb, hv, hneg]
    · obtain ⟨hl, hr⟩ := hv2.resolve_left hneg
      have ho : x1.length ≤ 1048576 := by omega
      obtain ⟨y, q1, q2⟩ := gc_same x0 x1 hl ho (wf_ints w1)
      simp only [laws_FnExactGapCount, c_laws_FnExactGapCount]
      rw [decide_eq_false hb, cond_false]
      simp [hv, hneg, toTable_id x0 hl w0 hr, toIntS_id x1 ho w1, q1, q2, eqTable_self x0 hl hr, eqIntS_self x1 ho]

end Go.Proofs.Ytinhphmajfiepaa
