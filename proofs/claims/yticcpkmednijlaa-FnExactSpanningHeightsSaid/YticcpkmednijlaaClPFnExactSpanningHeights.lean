/- The law FnExactSpanningHeights over plain values. No condition beside those of the statement. -/
import Derived.Test.YticcpkmednijlaaClMFnExactSpanningHeights
import Derived.Test.YticcpkmednijlaaRaiU5
set_option linter.unusedVariables false
set_option linter.unusedSimpArgs false
set_option maxRecDepth 100000
namespace Go.Proofs.Yticcpkmednijlaa
open Go Go.Rai

abbrev tHL : Ty := .struct [.int .i64, .int .i64, .int .i64, .int .i64]

theorem tHL_wf {d : D} (h : wfD tHL d) : ∃ a b c e : Int, d = .node [.int a, .int b, .int c, .int e] := by
  obtain ⟨l, rfl, x1, r1, rfl, ⟨a, rfl, _⟩, x2, r2, rfl, ⟨b, rfl, _⟩, x3, r3, rfl, ⟨c, rfl, _⟩, x4, r4, rfl, ⟨e, rfl, _⟩, h⟩ := h
  obtain rfl := h
  exact ⟨a, b, c, e, rfl⟩

theorem toHeightLineS_id (l : List D) (hl : l.length ≤ 1048576) (w : ∀ d ∈ l, wfD tHL d) : laws_toHeightLineS l = some l := by
  have key : laws_toHeightLineS_L3 l 0 (List.replicate l.length (.node [.int 0, .int 0, .int 0, .int 0])) = some l := by
    refine copy_loop (N := n_laws_toHeightLineS_L3) (fun m i acc hi hacc => ?_) (fun m acc hacc => ?_)
    · obtain ⟨a, b, c, e, hd⟩ := tHL_wf (w _ (get_mem hi))
      have hw : IntKind.i64.wrap ((i : Int) + 1) = (i : Int) + 1 := wrap_id (by omega) (by omega)
      have h2 : (i : Int) < acc.length := by omega
      have h3 : i + 1 ≤ acc.length := by omega
      have h1 : (i : Int) < l.length := by omega
      simp [n_laws_toHeightLineS_L3, c_laws_toHeightLineS_L3, laws_toHeightLine, c_laws_toHeightLine, h1, h2, h3, hw, hd, fld_node, toInt_int]
    · simp [n_laws_toHeightLineS_L3, c_laws_toHeightLineS_L3]
  have h4 : (l.length : Int) ≤ 4294967296 := by omega
  simp [laws_toHeightLineS, c_laws_toHeightLineS, key, h4]

theorem eqHeightLineS_self (l : List D) (hl : l.length ≤ 1048576) : laws_eqHeightLineS l l = some true := by
  have key : laws_eqHeightLineS_L4 l l 0 = some (.inr ()) := by
    refine all_loop (N := fun n i => n_laws_eqHeightLineS_L4 n l l i) (len := l.length) (fun m i hi => ?_) (fun m => ?_)
    · have hw : IntKind.i64.wrap ((i : Int) + 1) = (i : Int) + 1 := wrap_id (by omega) (by omega)
      have h1 : (i : Int) < l.length := by omega
      simp [n_laws_eqHeightLineS_L4, c_laws_eqHeightLineS_L4, laws_eqHeightLine, c_laws_eqHeightLine, h1, hw]
    · simp [n_laws_eqHeightLineS_L4, c_laws_eqHeightLineS_L4]
  simp [laws_eqHeightLineS, c_laws_eqHeightLineS, key]


theorem eqIntS_self (l : List D) (hl : l.length ≤ 1048576) : laws_eqIntS l l = some true := by
  have key : laws_eqIntS_L4 l l 0 = some (.inr ()) := by
    refine all_loop (N := fun n i => n_laws_eqIntS_L4 n l l i) (len := l.length) (fun m i hi => ?_) (fun m => ?_)
    · have hw : IntKind.i64.wrap ((i : Int) + 1) = (i : Int) + 1 := wrap_id (by omega) (by omega)
      have h1 : (i : Int) < l.length := by omega
      simp [n_laws_eqIntS_L4, c_laws_eqIntS_L4, h1, hw]
    · simp [n_laws_eqIntS_L4, c_laws_eqIntS_L4]
  simp [laws_eqIntS, c_laws_eqIntS, key]


theorem eqBoolS_self (l : List D) (hl : l.length ≤ 1048576) : laws_eqBoolS l l = some true := by
  have key : laws_eqBoolS_L4 l l 0 = some (.inr ()) := by
    refine all_loop (N := fun n i => n_laws_eqBoolS_L4 n l l i) (len := l.length) (fun m i hi => ?_) (fun m => ?_)
    · have hw : IntKind.i64.wrap ((i : Int) + 1) = (i : Int) + 1 := wrap_id (by omega) (by omega)
      have h1 : (i : Int) < l.length := by omega
      simp [n_laws_eqBoolS_L4, c_laws_eqBoolS_L4, h1, hw]
    · simp [n_laws_eqBoolS_L4, c_laws_eqBoolS_L4]
  simp [laws_eqBoolS, c_laws_eqBoolS, key]


theorem l1In_eq (x a b : Int) : spec_l1In x a b = some (btw x a b) := by
  unfold spec_l1In c_spec_l1In btw
  by_cases h : a ≤ x <;> simp [h]
theorem within_eq (x a b : Int) : impl_within x a b = some (btw x a b) := by
  unfold impl_within c_impl_within btw
  by_cases h : a ≤ x <;> simp [h]


/-- a line is in order -/
def lineB (n : Int) (d : D) : Bool :=
  let w (x a b : Int) : Bool := decide (a ≤ x) && decide (x ≤ b)
  w (d.fld 0).toInt 0 (n - 1) && w (d.fld 1).toInt 0 (n - 1) && !decide ((d.fld 0).toInt = (d.fld 1).toInt) && w (d.fld 2).toInt (-100000) 100000 && w (d.fld 3).toInt 1 1000

theorem l1In_eq0 (x a b : Int) : spec_l1In x a b = some (decide (a ≤ x) && decide (x ≤ b)) := by
  unfold spec_l1In c_spec_l1In
  by_cases h : a ≤ x <;> simp [h]
theorem within_eq0 (x a b : Int) : impl_within x a b = some (decide (a ≤ x) && decide (x ≤ b)) := by
  unfold impl_within c_impl_within
  by_cases h : a ≤ x <;> simp [h]

theorem lines_loops (l : List D) (n : Int) (hn : 2 ≤ n ∧ n ≤ 8) (hl : l.length ≤ 16) :
    spec_l17Lines_L4 l n 0 = some (match firstN (fun i => !lineB n (l[i]?.getD (.int 0))) l.length with | some _ => .inl false | none => .inr ()) ∧
    slices_IndexFunc_L2 l n l.length 0 = some (match firstN (fun i => !lineB n (l[i]?.getD (.int 0))) l.length with | some i => .inl (i : Int) | none => .inr ()) := by
  have hw2 : IntKind.i64.wrap (n - 1) = n - 1 := wrap_id (by omega) (by omega)
  constructor
  · refine scan_loop (N := fun m i => n_spec_l17Lines_L4 m l n i) _ (fun _ => .inl false) (fun m i hi => ?_) (fun m => ?_)
    · have hw : IntKind.i64.wrap ((i : Int) + 1) = (i : Int) + 1 := wrap_id (by omega) (by omega)
      have h1 : (i : Int) < l.length := by omega
      simp only [n_spec_l17Lines_L4, c_spec_l17Lines_L4, l1In_eq0, hw, hw2, h1, Option.bind_some, decide_true, cond_true, Int.natCast_nonneg, and_self, if_true, Int.toNat_natCast, List.getD_eq_getElem?_getD]
      generalize l[i]?.getD (D.int 0) = d
      dsimp only [lineB]
      generalize (decide (0 ≤ (d.fld 0).toInt) && decide ((d.fld 0).toInt ≤ n - 1)) = b1
      generalize (decide (0 ≤ (d.fld 1).toInt) && decide ((d.fld 1).toInt ≤ n - 1)) = b2
      generalize decide ((d.fld 0).toInt = (d.fld 1).toInt) = b3
      generalize (decide (-100000 ≤ (d.fld 2).toInt) && decide ((d.fld 2).toInt ≤ 100000)) = b4
      generalize (decide (1 ≤ (d.fld 3).toInt) && decide ((d.fld 3).toInt ≤ 1000)) = b5
      cases b1 <;> cases b2 <;> cases b3 <;> cases b4 <;> cases b5 <;> simp
    · simp [n_spec_l17Lines_L4, c_spec_l17Lines_L4]
  · refine scan_loop (N := fun m i => n_slices_IndexFunc_L2 m l n l.length i) _ (fun i => .inl (i : Int)) (fun m i hi => ?_) (fun m => ?_)
    · have hw : IntKind.i64.wrap ((i : Int) + 1) = (i : Int) + 1 := wrap_id (by omega) (by omega)
      have h1 : (i : Int) < l.length := by omega
      simp only [n_slices_IndexFunc_L2, c_slices_IndexFunc_L2, impl_IsValidLines_1, c_impl_IsValidLines_1, within_eq0, hw, hw2, h1, Option.bind_some, decide_true, cond_true, Int.natCast_nonneg, and_self, if_true, Int.toNat_natCast, List.getD_eq_getElem?_getD]
      generalize l[i]?.getD (D.int 0) = d
      dsimp only [lineB]
      generalize (decide (0 ≤ (d.fld 0).toInt) && decide ((d.fld 0).toInt ≤ n - 1)) = b1
      generalize (decide (0 ≤ (d.fld 1).toInt) && decide ((d.fld 1).toInt ≤ n - 1)) = b2
      generalize decide ((d.fld 0).toInt = (d.fld 1).toInt) = b3
      generalize (decide (-100000 ≤ (d.fld 2).toInt) && decide ((d.fld 2).toInt ≤ 100000)) = b4
      generalize (decide (1 ≤ (d.fld 3).toInt) && decide ((d.fld 3).toInt ≤ 1000)) = b5
      cases b1 <;> cases b2 <;> cases b3 <;> cases b4 <;> cases b5 <;> simp
    · simp [n_slices_IndexFunc_L2, c_slices_IndexFunc_L2]

theorem lines_same (l : List D) (n : Int) : ∃ b, spec_l17Lines l n = some b ∧ impl_IsValidLines l n = some b := by
  by_cases hn : 2 ≤ n ∧ n ≤ 8
  · by_cases hl : l.length ≤ 16
    · obtain ⟨h1, h2⟩ := lines_loops l n hn hl
      have h3 : ¬ (16 : Int) < l.length := by omega
      simp only [spec_l17Lines, c_spec_l17Lines, impl_IsValidLines, c_impl_IsValidLines, slices_ContainsFunc__impl_IsValidLines_1, c_slices_ContainsFunc__impl_IsValidLines_1,
        slices_IndexFunc__impl_IsValidLines_1, c_slices_IndexFunc__impl_IsValidLines_1, l1In_eq0, within_eq0, h1, h2, hn, h3, Option.bind_some, decide_true, decide_false, Bool.and_self, Bool.not_true, cond_false]
      cases firstN (fun i => !lineB n (l[i]?.getD (.int 0))) l.length with
      | none => exact ⟨true, by simp, by simp⟩
      | some i => exact ⟨false, by simp, by simp⟩
    · have h3 : (16 : Int) < l.length := by omega
      exact ⟨false, by simp [spec_l17Lines, c_spec_l17Lines, l1In_eq0, hn, h3], by simp [impl_IsValidLines, c_impl_IsValidLines, within_eq0, hn, h3]⟩
  · have hb : (decide (2 ≤ n) && decide (n ≤ 8)) = false := by
      rw [Bool.and_eq_false_iff]; simp; omega
    exact ⟨false, by simp only [spec_l17Lines, c_spec_l17Lines, l1In_eq0, hb, Option.bind_some, Bool.not_false, cond_true], by simp only [impl_IsValidLines, c_impl_IsValidLines, within_eq0, hb, Option.bind_some, Bool.not_false, cond_true]⟩


/-- what a loop that numbers the cells leaves -/
def markd (cell : Int → D) (c : Int) (n : Nat) : List D := (List.range n).map (fun (i : Nat) => cell (1 + c * (i : Int)))

theorem markd_len {cell : Int → D} {c : Int} {n : Nat} : (markd cell c n).length = n := by simp [markd]
theorem markd_get {cell : Int → D} {c : Int} {n i : Nat} (h : i < n) : (markd cell c n)[i]?.getD (.int 0) = cell (1 + c * (i : Int)) := by
  simp [markd, h]

theorem mark_loop {N : Nat → Int → Int → List D → Option (Int × List D)} {n : Nat} {c : Int} {cell : Int → D}
    (hs : ∀ m (i : Nat) acc, i < n → acc.length = n → N (m + 1) (1 + c * (i : Int)) (i : Int) acc = N m (1 + c * ((i + 1 : Nat) : Int)) ((i + 1 : Nat) : Int) (acc.set i (cell (1 + c * (i : Int)))))
    (he : ∀ m acc, acc.length = n → N (m + 1) (1 + c * (n : Int)) (n : Int) acc = some (1 + c * (n : Int), acc)) {l : List D} (hl : l.length = n) :
    ev (fun m => N m 1 0 l) = some (1 + c * (n : Int), markd cell c n) := by
  have key : ∀ k, ∀ m (i : Nat) acc, i + k = n → k < m → acc.length = n → acc.take i = (markd cell c n).take i → N m (1 + c * (i : Int)) (i : Int) acc = some (1 + c * (n : Int), markd cell c n) := by
    intro k
    induction k with
    | zero =>
      intro m i acc h1 h2 h3 h4
      obtain ⟨m, rfl⟩ : ∃ m', m = m' + 1 := ⟨m - 1, by omega⟩
      have hi : i = n := by omega
      subst hi
      rw [he m acc h3]
      rw [List.take_of_length_le (by omega), List.take_of_length_le (by rw [markd_len]; exact Nat.le_refl _)] at h4
      rw [h4]
    | succ k ih =>
      intro m i acc h1 h2 h3 h4
      obtain ⟨m, rfl⟩ : ∃ m', m = m' + 1 := ⟨m - 1, by omega⟩
      rw [hs m i acc (by omega) h3]
      refine ih m (i + 1) _ (by omega) (by omega) (by simpa using h3) ?_
      have hi : i < (markd cell c n).length := by rw [markd_len]; omega
      rw [List.take_succ_eq_append_getElem (by simp; omega), List.take_succ_eq_append_getElem hi]
      rw [List.take_set_of_le (by omega), h4]
      simp [markd]
  have := ev_eq (f := fun m => N m 1 0 l) (n + 1) (fun m hm => by
    have := key n m 0 l (by omega) (by omega) hl (by simp)
    simpa using this)
  exact this

theorem held_loop {X : Type} {N : Nat → Int → Int → Option X} {n : Nat} {c : Int} {x : X}
    (hs : ∀ m (i : Nat), i < n → N (m + 1) (1 + c * (i : Int)) (i : Int) = N m (1 + c * ((i + 1 : Nat) : Int)) ((i + 1 : Nat) : Int))
    (he : ∀ m, N (m + 1) (1 + c * (n : Int)) (n : Int) = some x) : ev (fun m => N m 1 0) = some x := by
  have key : ∀ k, ∀ m (i : Nat), i + k = n → k < m → N m (1 + c * (i : Int)) (i : Int) = some x := by
    intro k
    induction k with
    | zero =>
      intro m i h1 h2
      obtain ⟨m, rfl⟩ : ∃ m', m = m' + 1 := ⟨m - 1, by omega⟩
      have hi : i = n := by omega
      subst hi
      exact he m
    | succ k ih =>
      intro m i h1 h2
      obtain ⟨m, rfl⟩ : ∃ m', m = m' + 1 := ⟨m - 1, by omega⟩
      rw [hs m i (by omega)]
      exact ih m (i + 1) (by omega) (by omega)
  exact ev_eq (f := fun m => N m 1 0) (n + 1) (fun m hm => by
    have := key n m 0 (by omega) (by omega)
    simpa using this)

/-- the same from another start -/
def markd2 (cell : Int → D) (k0 : Int) (n : Nat) : List D := (List.range n).map (fun (i : Nat) => cell (k0 + (i : Int)))
theorem markd2_len {cell : Int → D} {k0 : Int} {n : Nat} : (markd2 cell k0 n).length = n := by simp [markd2]
theorem markd2_get {cell : Int → D} {k0 : Int} {n i : Nat} (h : i < n) : (markd2 cell k0 n)[i]?.getD (.int 0) = cell (k0 + (i : Int)) := by
  simp [markd2, h]

theorem mark_loop2 {N : Nat → Int → Int → List D → Option (Int × List D)} {n : Nat} {k0 : Int} {cell : Int → D}
    (hs : ∀ m (i : Nat) acc, i < n → acc.length = n → N (m + 1) (k0 + (i : Int)) (i : Int) acc = N m (k0 + ((i + 1 : Nat) : Int)) ((i + 1 : Nat) : Int) (acc.set i (cell (k0 + (i : Int)))))
    (he : ∀ m acc, acc.length = n → N (m + 1) (k0 + (n : Int)) (n : Int) acc = some (k0 + (n : Int), acc)) {l : List D} (hl : l.length = n) :
    ev (fun m => N m k0 0 l) = some (k0 + (n : Int), markd2 cell k0 n) := by
  have key : ∀ k, ∀ m (i : Nat) acc, i + k = n → k < m → acc.length = n → acc.take i = (markd2 cell k0 n).take i → N m (k0 + (i : Int)) (i : Int) acc = some (k0 + (n : Int), markd2 cell k0 n) := by
    intro k
    induction k with
    | zero =>
      intro m i acc h1 h2 h3 h4
      obtain ⟨m, rfl⟩ : ∃ m', m = m' + 1 := ⟨m - 1, by omega⟩
      have hi : i = n := by omega
      subst hi
      rw [he m acc h3]
      rw [List.take_of_length_le (by omega), List.take_of_length_le (by rw [markd2_len]; exact Nat.le_refl _)] at h4
      rw [h4]
    | succ k ih =>
      intro m i acc h1 h2 h3 h4
      obtain ⟨m, rfl⟩ : ∃ m', m = m' + 1 := ⟨m - 1, by omega⟩
      rw [hs m i acc (by omega) h3]
      refine ih m (i + 1) _ (by omega) (by omega) (by simpa using h3) ?_
      have hi : i < (markd2 cell k0 n).length := by rw [markd2_len]; omega
      rw [List.take_succ_eq_append_getElem (by simp; omega), List.take_succ_eq_append_getElem hi]
      rw [List.take_set_of_le (by omega), h4]
      simp [markd2]
  have := ev_eq (f := fun m => N m k0 0 l) (n + 1) (fun m hm => by
    have := key n m 0 l (by omega) (by omega) hl (by simp)
    simpa using this)
  exact this

theorem held_loop2 {X : Type} {N : Nat → Int → Int → Option X} {n : Nat} {k0 : Int} {x : X}
    (hs : ∀ m (i : Nat), i < n → N (m + 1) (k0 + (i : Int)) (i : Int) = N m (k0 + ((i + 1 : Nat) : Int)) ((i + 1 : Nat) : Int))
    (he : ∀ m, N (m + 1) (k0 + (n : Int)) (n : Int) = some x) : ev (fun m => N m k0 0) = some x := by
  have key : ∀ k, ∀ m (i : Nat), i + k = n → k < m → N m (k0 + (i : Int)) (i : Int) = some x := by
    intro k
    induction k with
    | zero =>
      intro m i h1 h2
      obtain ⟨m, rfl⟩ : ∃ m', m = m' + 1 := ⟨m - 1, by omega⟩
      have hi : i = n := by omega
      subst hi
      exact he m
    | succ k ih =>
      intro m i h1 h2
      obtain ⟨m, rfl⟩ : ∃ m', m = m' + 1 := ⟨m - 1, by omega⟩
      rw [hs m i (by omega)]
      exact ih m (i + 1) (by omega) (by omega)
  exact ev_eq (f := fun m => N m k0 0) (n + 1) (fun m hm => by
    have := key n m 0 (by omega) (by omega)
    simpa using this)

theorem markBoolS_eq (l : List D) (k0 : Int) (hk : 0 ≤ k0 ∧ k0 ≤ 1048577) (hl : l.length ≤ 1048576) : laws_markBoolS l k0 = some (k0 + (l.length : Int), markd2 (fun k => .bool (decide (k.tmod 3 = 0))) k0 l.length) := by
  have key : laws_markBoolS_L2 k0 0 l = some (k0 + (l.length : Int), markd2 (fun k => .bool (decide (k.tmod 3 = 0))) k0 l.length) := by
    refine mark_loop2 (N := n_laws_markBoolS_L2) (fun m i acc hi hacc => ?_) (fun m acc hacc => ?_) rfl
    · have hw : IntKind.i64.wrap ((i : Int) + 1) = ((i + 1 : Nat) : Int) := by rw [wrap_id (by omega) (by omega)]; omega
      have w1 : IntKind.i64.wrap (k0 + (i : Int) + 1) = k0 + ((i + 1 : Nat) : Int) := by rw [wrap_id (by omega) (by omega)]; omega
      have h2 : (i : Int) < acc.length := by omega
      have h3 : i + 1 ≤ acc.length := by omega
      have h30 : (3 : Int) ≠ 0 := by decide
      simp only [n_laws_markBoolS_L2, c_laws_markBoolS_L2, h2, h3, h30, hw, w1, decide_true, cond_true, Int.natCast_nonneg, and_self, if_true, Int.toNat_natCast, ne_eq, not_false_eq_true]
      exact Option.bind_fun_some _
    · have h1 : ¬ (l.length : Int) < acc.length := by omega
      simp [n_laws_markBoolS_L2, c_laws_markBoolS_L2, h1]
  simp only [laws_markBoolS, c_laws_markBoolS, key, Option.bind_some]

theorem heldBoolS_eq (n : Nat) (k0 : Int) (hk : 0 ≤ k0 ∧ k0 ≤ 1048577) (hn : n ≤ 1048576) : laws_heldBoolS (markd2 (fun k => .bool (decide (k.tmod 3 = 0))) k0 n) k0 = some (k0 + (n : Int)) := by
  have key : laws_heldBoolS_L2 (markd2 (fun k => .bool (decide (k.tmod 3 = 0))) k0 n) k0 0 = some (.inr (k0 + (n : Int))) := by
    refine held_loop2 (n := n) (k0 := k0) (N := fun m k i => n_laws_heldBoolS_L2 m (markd2 (fun k => .bool (decide (k.tmod 3 = 0))) k0 n) k i) (fun m i hi => ?_) (fun m => ?_)
    · have hw : IntKind.i64.wrap ((i : Int) + 1) = ((i + 1 : Nat) : Int) := by rw [wrap_id (by omega) (by omega)]; omega
      have w1 : IntKind.i64.wrap (k0 + (i : Int) + 1) = k0 + ((i + 1 : Nat) : Int) := by rw [wrap_id (by omega) (by omega)]; omega
      have h2 : (i : Int) < n := by omega
      have h30 : (3 : Int) ≠ 0 := by decide
      simp only [n_laws_heldBoolS_L2, c_laws_heldBoolS_L2, markd2_len, h2, h30, hw, w1, decide_true, cond_true, Int.natCast_nonneg, and_self, if_true, Int.toNat_natCast, List.getD_eq_getElem?_getD, markd2_get hi, toBool_bool, ne_eq, not_false_eq_true]
      generalize decide ((k0 + (i : Int)).tmod 3 = 0) = q
      cases q <;> simp
    · simp [n_laws_heldBoolS_L2, c_laws_heldBoolS_L2, markd2_len]
  simp only [laws_heldBoolS, c_laws_heldBoolS, key, Option.bind_some]; rfl

theorem markIntS_eq (l : List D) (hl : l.length ≤ 1048576) : laws_markIntS l 1 = some (1 + 1 * (l.length : Int), markd (fun k => .int k) 1 l.length) := by
  have key : laws_markIntS_L2 1 0 l = some (1 + 1 * (l.length : Int), markd (fun k => .int k) 1 l.length) := by
    refine mark_loop (N := n_laws_markIntS_L2) (fun m i acc hi hacc => ?_) (fun m acc hacc => ?_) rfl
    · have hw : IntKind.i64.wrap ((i : Int) + 1) = ((i + 1 : Nat) : Int) := by rw [wrap_id (by omega) (by omega)]; omega
      have w1 : IntKind.i64.wrap (1 + 1 * (i : Int) + 1) = 1 + 1 * ((i + 1 : Nat) : Int) := by rw [wrap_id (by omega) (by omega)]; omega
      have h2 : (i : Int) < acc.length := by omega
      have h3 : i + 1 ≤ acc.length := by omega
      simp only [n_laws_markIntS_L2, c_laws_markIntS_L2, h2, h3, hw, w1, decide_true, cond_true, Int.natCast_nonneg, and_self, if_true, Int.toNat_natCast]
      exact Option.bind_fun_some _
    · have h1 : ¬ (l.length : Int) < acc.length := by omega
      simp [n_laws_markIntS_L2, c_laws_markIntS_L2, h1]
  simp only [laws_markIntS, c_laws_markIntS, key, Option.bind_some]

theorem heldIntS_eq (n : Nat) (hn : n ≤ 1048576) : laws_heldIntS (markd (fun k => .int k) 1 n) 1 = some (1 + 1 * (n : Int)) := by
  have key : laws_heldIntS_L2 (markd (fun k => .int k) 1 n) 1 0 = some (.inr (1 + 1 * (n : Int))) := by
    refine held_loop (n := n) (c := 1) (N := fun m k i => n_laws_heldIntS_L2 m (markd (fun k => .int k) 1 n) k i) (fun m i hi => ?_) (fun m => ?_)
    · have hw : IntKind.i64.wrap ((i : Int) + 1) = ((i + 1 : Nat) : Int) := by rw [wrap_id (by omega) (by omega)]; omega
      have w1 : IntKind.i64.wrap (1 + 1 * (i : Int) + 1) = 1 + 1 * ((i + 1 : Nat) : Int) := by rw [wrap_id (by omega) (by omega)]; omega
      have h2 : (i : Int) < n := by omega
      simp only [n_laws_heldIntS_L2, c_laws_heldIntS_L2, markd_len, h2, hw, w1, decide_true, cond_true, Int.natCast_nonneg, and_self, if_true, Int.toNat_natCast, List.getD_eq_getElem?_getD, markd_get hi, toInt_int, Bool.not_true, cond_false]
      exact Option.bind_fun_some _
    · simp [n_laws_heldIntS_L2, c_laws_heldIntS_L2, markd_len]
  simp only [laws_heldIntS, c_laws_heldIntS, key, Option.bind_some]; rfl

abbrev cellHL (k : Int) : D := .node [.int k, .int (k + 1), .int (k + 2), .int (k + 3)]
theorem markHL_ok (l : List D) (hl : l.length ≤ 1048576) : ∃ k l', laws_markHeightLineS l 1 = some (k, l') ∧ 0 ≤ k := by
  have key : laws_markHeightLineS_L2 1 0 l = some (1 + 4 * (l.length : Int), markd cellHL 4 l.length) := by
    refine mark_loop (N := n_laws_markHeightLineS_L2) (fun m i acc hi hacc => ?_) (fun m acc hacc => ?_) rfl
    · have hw : IntKind.i64.wrap ((i : Int) + 1) = (i : Int) + 1 := wrap_id (by omega) (by omega)
      have w1 : IntKind.i64.wrap (1 + 4 * (i : Int) + 1) = 1 + 4 * (i : Int) + 1 := wrap_id (by omega) (by omega)
      have w2 : IntKind.i64.wrap (1 + 4 * (i : Int) + 1 + 1) = 1 + 4 * (i : Int) + 2 := by rw [wrap_id (by omega) (by omega)]; omega
      have w3 : IntKind.i64.wrap (1 + 4 * (i : Int) + 2 + 1) = 1 + 4 * (i : Int) + 3 := by rw [wrap_id (by omega) (by omega)]; omega
      have w4 : IntKind.i64.wrap (1 + 4 * (i : Int) + 3 + 1) = 1 + 4 * ((i : Int) + 1) := by rw [wrap_id (by omega) (by omega)]; omega
      have h2 : (i : Int) < acc.length := by omega
      have h3 : i + 1 ≤ acc.length := by omega
      have h4 : i < acc.length := by omega
      simp [n_laws_markHeightLineS_L2, c_laws_markHeightLineS_L2, h2, h3, h4, hw, w1, w2, w3, w4, fld_node, toInt_int]
    · have h1 : ¬ (l.length : Int) < acc.length := by omega
      simp [n_laws_markHeightLineS_L2, c_laws_markHeightLineS_L2, h1]
  exact ⟨1 + 4 * (l.length : Int), markd cellHL 4 l.length, by simp only [laws_markHeightLineS, c_laws_markHeightLineS, key, Option.bind_some], by omega⟩

theorem firstN_iff0 {p : Nat → Bool} {len : Nat} : (firstN p len).isNone = true ↔ ∀ j, j < len → p j = false := by
  constructor
  · intro h j hj
    cases hf : firstN p len with
    | none => exact firstN_none hf j hj
    | some i => rw [hf] at h; cases h
  · intro h
    cases hf : firstN p len with
    | none => rfl
    | some i => obtain ⟨h1, h2, _⟩ := firstN_some hf; rw [h i h1] at h2; cases h2


theorem lines_valid2 {l : List D} {n : Int} (h : spec_l17Lines l n = some true) : (2 ≤ n ∧ n ≤ 8) ∧ l.length ≤ 16 ∧ ∀ i, i < l.length → lineB n (l[i]?.getD (.int 0)) = true := by
  by_cases hn : 2 ≤ n ∧ n ≤ 8
  · by_cases hl : l.length ≤ 16
    · refine ⟨hn, hl, fun i hi => ?_⟩
      obtain ⟨h1, _⟩ := lines_loops l n hn hl
      have h3 : ¬ (16 : Int) < l.length := by omega
      simp only [spec_l17Lines, c_spec_l17Lines, l1In_eq0, h1, hn, h3, Option.bind_some, decide_true, decide_false, Bool.and_self, Bool.not_true, cond_false] at h
      cases hf : firstN (fun i => !lineB n (l[i]?.getD (.int 0))) l.length with
      | none => have := firstN_none hf i hi; simpa using this
      | some k => rw [hf] at h; simp at h
    · exfalso
      have h3 : (16 : Int) < l.length := by omega
      simp [spec_l17Lines, c_spec_l17Lines, l1In_eq0, hn, h3] at h
  · exfalso
    have hb : (decide (2 ≤ n) && decide (n ≤ 8)) = false := by
      rw [Bool.and_eq_false_iff]; simp; omega
    simp only [spec_l17Lines, c_spec_l17Lines, l1In_eq0, hb, Option.bind_some, Bool.not_false, cond_true] at h
    simp at h


def kn (ks : List D) (j : Nat) : Bool := (ks[j]?.getD (.int 0)).toBool
def ht (hs : List D) (j : Nat) : Int := (hs[j]?.getD (.int 0)).toInt
def lA (d : D) : Nat := (d.fld 0).toInt.toNat
def lB (d : D) : Nat := (d.fld 1).toInt.toNat
def diffB (ks : List D) (d : D) : Bool := !(kn ks (lA d) == kn ks (lB d))

def stepL (hs ks : List D) (d : D) : Option (List D × List D) :=
  bif kn ks (lA d) then
    (bif btw (IntKind.i64.wrap (ht hs (lA d) + (d.fld 2).toInt)) (-1000000) 1000000 then some (hs.set (lB d) (.int (IntKind.i64.wrap (ht hs (lA d) + (d.fld 2).toInt))), ks.set (lB d) (.bool true)) else none)
  else
    (bif btw (IntKind.i64.wrap (ht hs (lB d) - (d.fld 2).toInt)) (-1000000) 1000000 then some (hs.set (lA d) (.int (IntKind.i64.wrap (ht hs (lB d) - (d.fld 2).toInt))), ks.set (lA d) (.bool true)) else none)

inductive Sp (l : List D) : List D → List D → Option (List D × List D) → Prop
  | done {hs ks : List D} (h : firstN (fun i => diffB ks (l[i]?.getD (.int 0))) l.length = none) : Sp l hs ks (some (hs, ks))
  | fail {hs ks : List D} {i : Nat} (h : firstN (fun i => diffB ks (l[i]?.getD (.int 0))) l.length = some i) (h2 : stepL hs ks (l[i]?.getD (.int 0)) = none) : Sp l hs ks none
  | go {hs ks hs' ks' : List D} {i : Nat} {r : Option (List D × List D)} (h : firstN (fun i => diffB ks (l[i]?.getD (.int 0))) l.length = some i) (h2 : stepL hs ks (l[i]?.getD (.int 0)) = some (hs', ks')) (h3 : Sp l hs' ks' r) : Sp l hs ks r

theorem Sp.det {l hs ks : List D} {r : Option (List D × List D)} (h : Sp l hs ks r) : ∀ {r'}, Sp l hs ks r' → r = r' := by
  induction h with
  | done h =>
    intro r' h'
    cases h' with
    | done _ => rfl
    | fail k _ => rw [h] at k; cases k
    | go k _ _ => rw [h] at k; cases k
  | fail h h2 =>
    intro r' h'
    cases h' with
    | done k => rw [h] at k; cases k
    | fail _ _ => rfl
    | go k k2 _ => rw [h] at k; cases k; rw [h2] at k2; cases k2
  | go h h2 _ ih =>
    intro r' h'
    cases h' with
    | done k => rw [h] at k; cases k
    | fail k k2 => rw [h] at k; cases k; rw [h2] at k2; cases k2
    | go k k2 k3 => rw [h] at k; cases k; rw [h2] at k2; cases k2; exact ih k3

structure SInv (n : Nat) (hs ks : List D) : Prop where
  h : hs.length = n
  k : ks.length = n
  b : ∀ j, j < n → ∃ b, ks[j]?.getD (.int 0) = .bool b
  r : ∀ j, j < n → kn ks j = true → btw (ht hs j) (-1000000) 1000000 = true

def unk (ks : List D) : Nat := ks.countP (fun d => !d.toBool)

theorem unk_set {ks : List D} {j : Nat} (hj : j < ks.length) (h : kn ks j = false) : unk (ks.set j (.bool true)) < unk ks := by
  unfold unk
  have h1 : (ks[j]).toBool = false := by
    unfold kn at h
    rw [List.getElem?_eq_getElem hj] at h
    exact h
  have h2 : 0 < ks.countP (fun d => !d.toBool) := List.countP_pos_iff.2 ⟨ks[j], List.getElem_mem hj, by simp [h1]⟩
  rw [List.countP_set hj]
  simp [h1, toBool_bool]
  omega

theorem kn_set {ks : List D} {i j : Nat} (hj : j < ks.length) : kn (ks.set j (.bool true)) i = (decide (i = j) || kn ks i) := by
  unfold kn
  by_cases h : i = j
  · subst h; simp [hj, toBool_bool]
  · simp [h, List.getElem?_set_ne (fun e => h e.symm)]

theorem ht_set {hs : List D} {i j : Nat} {v : Int} (hj : j < hs.length) : ht (hs.set j (.int v)) i = if i = j then v else ht hs i := by
  unfold ht
  by_cases h : i = j
  · subst h; simp [hj, toInt_int]
  · simp [h, List.getElem?_set_ne (fun e => h e.symm)]

theorem set_inv {n : Nat} {hs ks : List D} {j : Nat} {v : Int} (hi : SInv n hs ks) (hj : j < n) (hv : btw v (-1000000) 1000000 = true) : SInv n (hs.set j (.int v)) (ks.set j (.bool true)) := by
  refine ⟨by simp [hi.h], by simp [hi.k], fun i hin => ?_, fun i hin hk => ?_⟩
  · by_cases h : i = j
    · subst h; exact ⟨true, by simp [hi.k, hj]⟩
    · obtain ⟨b, hb⟩ := hi.b i hin
      exact ⟨b, by rw [List.getElem?_set_ne (fun e => h e.symm)]; exact hb⟩
  · rw [ht_set (by rw [hi.h]; exact hj)]
    by_cases h : i = j
    · simp [h, hv]
    · rw [kn_set (by rw [hi.k]; exact hj)] at hk
      simp only [h, decide_false, Bool.false_or] at hk
      simp only [h, if_false]
      exact hi.r i hin hk

theorem line_ab {n : Int} {d : D} (h : lineB n d = true) : ((lA d : Nat) : Int) = (d.fld 0).toInt ∧ ((lB d : Nat) : Int) = (d.fld 1).toInt ∧ (lA d : Int) < n ∧ (lB d : Int) < n ∧ lA d ≠ lB d := by
  simp [lineB] at h
  unfold lA lB
  omega

theorem ilook (l ks : List D) (n : Nat) (hk : ks.length = n) (hv : ∀ i, i < l.length → lineB n (l[i]?.getD (.int 0)) = true) (hl : l.length ≤ 16) :
    slices_IndexFunc__impl_SpanningHeights_1 l ks = some (match firstN (fun i => diffB ks (l[i]?.getD (.int 0))) l.length with | some i => (i : Int) | none => -1) := by
  have : slices_IndexFunc_L2_v2 l ks l.length 0 = some (match firstN (fun i => diffB ks (l[i]?.getD (.int 0))) l.length with | some i => .inl (i : Int) | none => .inr ()) := by
    refine scan_loop (N := fun m i => n_slices_IndexFunc_L2_v2 m l ks l.length i) _ (fun i => .inl (i : Int)) (fun m i hi => ?_) (fun m => ?_)
    · have hw : IntKind.i64.wrap ((i : Int) + 1) = (i : Int) + 1 := wrap_id (by omega) (by omega)
      have h1 : (i : Int) < l.length := by omega
      obtain ⟨a1, a2, a3, a4, _⟩ := line_ab (hv i hi)
      have b3 : ((lA (l[i]?.getD (.int 0)) : Nat) : Int) < ks.length := by omega
      have b4 : ((lB (l[i]?.getD (.int 0)) : Nat) : Int) < ks.length := by omega
      simp only [n_slices_IndexFunc_L2_v2, c_slices_IndexFunc_L2_v2, impl_SpanningHeights_1, c_impl_SpanningHeights_1, h1, hw, ← a1, ← a2, b3, b4, decide_true, cond_true, Int.natCast_nonneg, and_self, if_true, Int.toNat_natCast, List.getD_eq_getElem?_getD, Option.bind_some, diffB, kn]
      generalize (!((_ : Bool) == (_ : Bool))) = q
      cases q <;> simp
    · simp [n_slices_IndexFunc_L2_v2, c_slices_IndexFunc_L2_v2]
  simp only [slices_IndexFunc__impl_SpanningHeights_1, c_slices_IndexFunc__impl_SpanningHeights_1, this, Option.bind_some]
  cases firstN (fun i => diffB ks (l[i]?.getD (.int 0))) l.length <;> simp

theorem step_some {l hs ks : List D} {n : Nat} {d : D} {hs' ks' : List D} (hd : lineB n d = true) (hi : SInv n hs ks) (hdf : diffB ks d = true) (h : stepL hs ks d = some (hs', ks')) : SInv n hs' ks' ∧ unk ks' < unk ks := by
  obtain ⟨a1, a2, a3, a4, a5⟩ := line_ab hd
  unfold diffB at hdf
  unfold stepL at h
  cases hA : kn ks (lA d) with
  | true =>
    have hB : kn ks (lB d) = false := by rw [hA] at hdf; cases hq : kn ks (lB d) with | false => rfl | true => rw [hq] at hdf; cases hdf
    rw [hA, cond_true] at h
    cases hv : btw (IntKind.i64.wrap (ht hs (lA d) + (d.fld 2).toInt)) (-1000000) 1000000 with
    | false => rw [hv] at h; cases h
    | true =>
      rw [hv, cond_true] at h
      simp only [Option.some.injEq, Prod.mk.injEq] at h
      obtain ⟨rfl, rfl⟩ := h
      exact ⟨set_inv hi (by omega) hv, unk_set (by rw [hi.k]; omega) hB⟩
  | false =>
    rw [hA, cond_false] at h
    cases hv : btw (IntKind.i64.wrap (ht hs (lB d) - (d.fld 2).toInt)) (-1000000) 1000000 with
    | false => rw [hv] at h; cases h
    | true =>
      rw [hv, cond_true] at h
      simp only [Option.some.injEq, Prod.mk.injEq] at h
      obtain ⟨rfl, rfl⟩ := h
      exact ⟨set_inv hi (by omega) hv, unk_set (by rw [hi.k]; omega) hA⟩

theorem first_of {p : Nat → Bool} {n i : Nat} (hi : i < n) (h : p i = true) (h2 : ∀ j, j < i → p j = false) : firstN p n = some i := by
  unfold firstN
  rw [List.find?_range_eq_some]
  exact ⟨h, List.mem_range.2 hi, fun j hj => by simp [h2 j hj]⟩

theorem iloop (l : List D) (n : Nat) (hv : ∀ i, i < l.length → lineB n (l[i]?.getD (.int 0)) = true) (hl : l.length ≤ 16) (hs ks : List D) (hi : SInv n hs ks) :
    ∃ y, impl_SpanningHeights_L5 l hs ks = some y ∧ match y with | .inl (b, h, k) => b = true ∧ Sp l hs ks (some (h, k)) | .inr b => b = false ∧ Sp l hs ks none := by
  obtain ⟨y, h1, h2⟩ := loop_post (N := fun m (s : List D × List D) => n_impl_SpanningHeights_L5 m l s.1 s.2) (fun s => SInv n s.1 s.2) (fun s => unk s.2)
    (fun s y => match y with | .inl (b, h, k) => b = true ∧ Sp l s.1 s.2 (some (h, k)) | .inr b => b = false ∧ Sp l s.1 s.2 none) (by
    rintro ⟨hs, ks⟩ hi
    simp only at hi ⊢
    cases hf : firstN (fun i => diffB ks (l[i]?.getD (.int 0))) l.length with
    | none =>
      refine .inl ⟨.inl (true, hs, ks), ⟨rfl, .done hf⟩, fun m => ?_⟩
      simp [n_impl_SpanningHeights_L5, c_impl_SpanningHeights_L5, ilook l ks n hi.k hv hl, hf]
    | some i =>
      obtain ⟨hil, hdf, _⟩ := firstN_some hf
      have hd := hv i hil
      obtain ⟨a1, a2, a3, a4, a5⟩ := line_ab hd
      have b1 : (i : Int) < l.length := by omega
      have b2 : ¬ (i : Int) < 0 := by omega
      have c1 : ((lA (l[i]?.getD (.int 0)) : Nat) : Int) < hs.length := by rw [hi.h]; exact a3
      have c2 : ((lB (l[i]?.getD (.int 0)) : Nat) : Int) < hs.length := by rw [hi.h]; exact a4
      have c3 : ((lA (l[i]?.getD (.int 0)) : Nat) : Int) < ks.length := by rw [hi.k]; exact a3
      have c4 : ((lB (l[i]?.getD (.int 0)) : Nat) : Int) < ks.length := by rw [hi.k]; exact a4
      have d1 : lA (l[i]?.getD (.int 0)) + 1 ≤ hs.length := by omega
      have d2 : lB (l[i]?.getD (.int 0)) + 1 ≤ hs.length := by omega
      have d3 : lA (l[i]?.getD (.int 0)) + 1 ≤ ks.length := by omega
      have d4 : lB (l[i]?.getD (.int 0)) + 1 ≤ ks.length := by omega
      have hAB : kn ks (lA (l[i]?.getD (.int 0))) = !kn ks (lB (l[i]?.getD (.int 0))) := by
        unfold diffB at hdf
        cases h1 : kn ks (lA (l[i]?.getD (.int 0))) <;> cases h2 : kn ks (lB (l[i]?.getD (.int 0))) <;> rw [h1, h2] at hdf <;> first | rfl | cases hdf
      have run : ∀ m, n_impl_SpanningHeights_L5 (m + 1) l hs ks = (match stepL hs ks (l[i]?.getD (.int 0)) with | some (h', k') => n_impl_SpanningHeights_L5 m l h' k' | none => some (.inr false)) := by
        intro m
        unfold stepL
        rw [hAB]
        simp only [n_impl_SpanningHeights_L5, c_impl_SpanningHeights_L5, ilook l ks n hi.k hv hl, hf, Option.bind_some, b1, b2, ← a1, ← a2, c1, c2, c3, c4, d1, d2, d3, d4, decide_false, cond_false, Int.natCast_nonneg, and_self, if_true, Int.toNat_natCast, List.getD_eq_getElem?_getD, impl_isCoordinate, c_impl_isCoordinate, within_eq, kn, ht]
        cases ((ks[lB (l[i]?.getD (.int 0))]?.getD (.int 0)).toBool) with
        | true =>
          simp only [cond_true, Bool.not_true, cond_false]
          generalize hq : btw _ (-1000000) 1000000 = q
          cases q <;> simp
        | false =>
          simp only [cond_true, Bool.not_false, cond_false]
          generalize hq : btw _ (-1000000) 1000000 = q
          cases q <;> simp
      cases hst : stepL hs ks (l[i]?.getD (.int 0)) with
      | none => exact .inl ⟨.inr false, ⟨rfl, .fail hf hst⟩, fun m => by rw [run, hst]⟩
      | some p =>
        obtain ⟨h', k'⟩ := p
        obtain ⟨e1, e2⟩ := step_some (l := l) hd hi hdf hst
        refine .inr ⟨(h', k'), e1, e2, fun y hy => ?_, fun m => by rw [run, hst]⟩
        cases y with
        | inl y => exact ⟨hy.1, .go hf hst hy.2⟩
        | inr y => exact ⟨hy.1, .go hf hst hy.2⟩) (hs, ks) hi
  exact ⟨y, h1, h2⟩

theorem set_same {ks : List D} {n j : Nat} {hs : List D} (hi : SInv n hs ks) (hj : j < n) (h : kn ks j = true) : ks.set j (.bool true) = ks := by
  obtain ⟨b, hb⟩ := hi.b j hj
  have hj' : j < ks.length := by rw [hi.k]; exact hj
  unfold kn at h
  rw [hb, toBool_bool] at h
  subst h
  rw [List.getElem?_eq_getElem hj'] at hb
  rw [← show ks[j] = .bool true from hb]
  exact List.set_getElem_self hj'

theorem sloop (l : List D) (n : Nat) (hv : ∀ i, i < l.length → lineB n (l[i]?.getD (.int 0)) = true) (hl : l.length ≤ 16) (hs ks : List D) (hi : SInv n hs ks) :
    ∃ y, spec_SpanningHeights_L8 l 0 hs ks = some y ∧ match y with | .inl (b, z1, z2, _, _) => b = false ∧ z1 = [] ∧ z2 = [] ∧ Sp l hs ks none | .inr (h, k) => Sp l hs ks (some (h, k)) := by
  obtain ⟨y, h1, h2⟩ := loop_post (N := fun m (s : Nat × List D × List D) => n_spec_SpanningHeights_L8 m l (s.1 : Int) s.2.1 s.2.2) (fun s => s.1 ≤ l.length ∧ SInv n s.2.1 s.2.2 ∧ ∀ j, j < s.1 → diffB s.2.2 (l[j]?.getD (.int 0)) = false) (fun s => unk s.2.2 * (l.length + 1) + (l.length - s.1))
    (fun s y => match y with | .inl (b, z1, z2, _, _) => b = false ∧ z1 = [] ∧ z2 = [] ∧ Sp l s.2.1 s.2.2 none | .inr (h, k) => Sp l s.2.1 s.2.2 (some (h, k))) (by
    rintro ⟨i, hs, ks⟩ ⟨hil, hi, hpre⟩
    simp only at hil hi hpre ⊢
    by_cases hlt : i < l.length
    · have hd := hv i hlt
      obtain ⟨a1, a2, a3, a4, a5⟩ := line_ab hd
      have b1 : (i : Int) < l.length := by omega
      have c1 : ((lA (l[i]?.getD (.int 0)) : Nat) : Int) < hs.length := by rw [hi.h]; exact a3
      have c2 : ((lB (l[i]?.getD (.int 0)) : Nat) : Int) < hs.length := by rw [hi.h]; exact a4
      have c3 : ((lA (l[i]?.getD (.int 0)) : Nat) : Int) < ks.length := by rw [hi.k]; exact a3
      have c4 : ((lB (l[i]?.getD (.int 0)) : Nat) : Int) < ks.length := by rw [hi.k]; exact a4
      have d1 : lA (l[i]?.getD (.int 0)) + 1 ≤ hs.length := by omega
      have d2 : lB (l[i]?.getD (.int 0)) + 1 ≤ hs.length := by omega
      have d3 : lA (l[i]?.getD (.int 0)) + 1 ≤ ks.length := by omega
      have d4 : lB (l[i]?.getD (.int 0)) + 1 ≤ ks.length := by omega
      have hw : IntKind.i64.wrap ((i : Int) + 1) = ((i + 1 : Nat) : Int) := succ_wrap (by omega)
      have hw0 : IntKind.i64.wrap (-1 + 1) = ((0 : Nat) : Int) := by decide
      cases hdf : diffB ks (l[i]?.getD (.int 0)) with
      | false =>
        refine .inr ⟨(i + 1, hs, ks), ⟨by simp; omega, hi, fun j hj => ?_⟩, by simp only; omega, fun y hy => hy, fun m => ?_⟩
        · by_cases hji : j = i
          · subst hji; exact hdf
          · exact hpre j (by simp only at hj; omega)
        · unfold diffB kn at hdf
          simp only [Bool.not_eq_false'] at hdf
          simp only [n_spec_SpanningHeights_L8, c_spec_SpanningHeights_L8, b1, ← a1, ← a2, c3, c4, d3, d4, decide_true, cond_true, Int.natCast_nonneg, and_self, if_true, Int.toNat_natCast, List.getD_eq_getElem?_getD, hdf, hw]
          exact Option.bind_fun_some _
      | true =>
        have hf := first_of (p := fun i => diffB ks (l[i]?.getD (.int 0))) hlt hdf hpre
        have hdf' := hdf
        unfold diffB at hdf'
        suffices core : ∃ (h' k' : List D) (v : Bool), (∀ m, n_spec_SpanningHeights_L8 (m + 1) l (i : Int) hs ks = bif v then n_spec_SpanningHeights_L8 m l ((0 : Nat) : Int) h' k' else some (.inl (false, [], [], h', k'))) ∧
            stepL hs ks (l[i]?.getD (.int 0)) = (bif v then some (h', k') else none) by
          obtain ⟨h', k', v, run, hst⟩ := core
          cases v with
          | false => exact .inl ⟨.inl (false, [], [], h', k'), ⟨rfl, rfl, rfl, .fail hf (by simpa using hst)⟩, fun m => by rw [run]; rfl⟩
          | true =>
            simp only [cond_true] at hst run
            obtain ⟨e1, e2⟩ := step_some (l := l) hd hi hdf hst
            refine .inr ⟨(0, h', k'), ⟨by simp, e1, fun j hj => by simp at hj⟩, ?_, fun y hy => ?_, fun m => by rw [run]⟩
            · simp only
              have : (unk k' + 1) * (l.length + 1) ≤ unk ks * (l.length + 1) := Nat.mul_le_mul_right _ e2
              rw [Nat.succ_mul] at this
              omega
            · cases y with
              | inl y => obtain ⟨y1, y2, y3, y4, y5⟩ := y; exact ⟨hy.1, hy.2.1, hy.2.2.1, .go hf hst hy.2.2.2⟩
              | inr y => obtain ⟨y1, y2⟩ := y; exact .go hf hst hy
        cases hA : kn ks (lA (l[i]?.getD (.int 0))) with
        | true =>
          have hB : kn ks (lB (l[i]?.getD (.int 0))) = false := by rw [hA] at hdf'; cases hq : kn ks (lB (l[i]?.getD (.int 0))) with | false => rfl | true => rw [hq] at hdf'; cases hdf'
          have hr := hi.r _ (by omega) hA
          have g3 := set_same hi (show lA (l[i]?.getD (.int 0)) < n by omega) hA
          refine ⟨(hs.set (lB (l[i]?.getD (.int 0))) (.int (IntKind.i64.wrap (ht hs (lA (l[i]?.getD (.int 0))) + ((l[i]?.getD (.int 0)).fld 2).toInt)))), (ks.set (lB (l[i]?.getD (.int 0))) (.bool true)), (btw (IntKind.i64.wrap (ht hs (lA (l[i]?.getD (.int 0))) + ((l[i]?.getD (.int 0)).fld 2).toInt)) (-1000000) 1000000), (fun m => ?_), (by unfold stepL; rw [hA, cond_true])⟩
          have g1 : ∀ v, (hs.set (lB (l[i]?.getD (.int 0))) v)[lA (l[i]?.getD (.int 0))]?.getD (.int 0) = hs[lA (l[i]?.getD (.int 0))]?.getD (.int 0) := fun v => by rw [List.getElem?_set_ne (Ne.symm a5)]
          have g2 : ∀ v, (hs.set (lB (l[i]?.getD (.int 0))) v)[lB (l[i]?.getD (.int 0))]?.getD (.int 0) = v := fun v => by rw [List.getElem?_set_self (by omega)]; rfl
          unfold kn at hA hB
          unfold ht at hr ⊢
          simp only [n_spec_SpanningHeights_L8, c_spec_SpanningHeights_L8, b1, ← a1, ← a2, c1, c2, c3, c4, d1, d2, d3, d4, decide_true, cond_true, Int.natCast_nonneg, and_self, if_true, Int.toNat_natCast, List.getD_eq_getElem?_getD, hA, hB, g3, g1, g2, toInt_int, List.length_set, l1In_eq, hr, Option.bind_some, Bool.not_true, cond_false, hw0, show (true == false) = false from rfl]
          generalize btw _ (-1000000) 1000000 = q
          cases q <;> simp
        | false =>
          have hB : kn ks (lB (l[i]?.getD (.int 0))) = true := by rw [hA] at hdf'; cases hq : kn ks (lB (l[i]?.getD (.int 0))) with | true => rfl | false => rw [hq] at hdf'; cases hdf'
          have hr := hi.r _ (by omega) hB
          have g3 : (ks.set (lA (l[i]?.getD (.int 0))) (.bool true)).set (lB (l[i]?.getD (.int 0))) (.bool true) = ks.set (lA (l[i]?.getD (.int 0))) (.bool true) := by
            rw [List.set_comm _ _ a5, set_same hi (show lB (l[i]?.getD (.int 0)) < n by omega) hB]
          refine ⟨(hs.set (lA (l[i]?.getD (.int 0))) (.int (IntKind.i64.wrap (ht hs (lB (l[i]?.getD (.int 0))) - ((l[i]?.getD (.int 0)).fld 2).toInt)))), (ks.set (lA (l[i]?.getD (.int 0))) (.bool true)), (btw (IntKind.i64.wrap (ht hs (lB (l[i]?.getD (.int 0))) - ((l[i]?.getD (.int 0)).fld 2).toInt)) (-1000000) 1000000), (fun m => ?_), (by unfold stepL; rw [hA, cond_false])⟩
          have g1 : ∀ v, (hs.set (lA (l[i]?.getD (.int 0))) v)[lB (l[i]?.getD (.int 0))]?.getD (.int 0) = hs[lB (l[i]?.getD (.int 0))]?.getD (.int 0) := fun v => by rw [List.getElem?_set_ne a5]
          have g2 : ∀ v, (hs.set (lA (l[i]?.getD (.int 0))) v)[lA (l[i]?.getD (.int 0))]?.getD (.int 0) = v := fun v => by rw [List.getElem?_set_self (by omega)]; rfl
          unfold kn at hA hB
          unfold ht at hr ⊢
          simp only [n_spec_SpanningHeights_L8, c_spec_SpanningHeights_L8, b1, ← a1, ← a2, c1, c2, c3, c4, d1, d2, d3, d4, decide_true, cond_true, Int.natCast_nonneg, and_self, if_true, Int.toNat_natCast, List.getD_eq_getElem?_getD, hA, hB, g3, g1, g2, toInt_int, List.length_set, l1In_eq, hr, Option.bind_some, Bool.not_true, cond_false, hw0, show (false == true) = false from rfl]
          generalize btw _ (-1000000) 1000000 = q
          cases q <;> simp
    · have hlt' : ¬ (i : Int) < l.length := by omega
      have hf : firstN (fun i => diffB ks (l[i]?.getD (.int 0))) l.length = none := by
        have := (firstN_iff0 (p := fun i => diffB ks (l[i]?.getD (.int 0))) (len := l.length)).2 (fun j hj => hpre j (by omega))
        exact Option.isNone_iff_eq_none.1 this
      exact .inl ⟨.inr (hs, ks), .done hf, fun m => by simp [n_spec_SpanningHeights_L8, c_spec_SpanningHeights_L8, hlt']⟩) (0, hs, ks) ⟨by simp, hi, fun j hj => by simp at hj⟩
  exact ⟨y, h1, h2⟩

theorem rep_inv (n : Nat) : SInv n (List.replicate n (.int 0)) (List.replicate n (.bool false)) := by
  refine ⟨by simp, by simp, fun j hj => ⟨false, by simp [hj]⟩, fun j hj h => ?_⟩
  unfold kn at h
  simp [hj, toBool_bool] at h

theorem sp_len {l hs ks : List D} {r : Option (List D × List D)} {n : Nat} (hv : ∀ i, i < l.length → lineB n (l[i]?.getD (.int 0)) = true) (h : Sp l hs ks r) : SInv n hs ks → ∀ h' k', r = some (h', k') → h'.length = n ∧ k'.length = n := by
  induction h with
  | done h =>
    intro hi h' k' e
    simp only [Option.some.injEq, Prod.mk.injEq] at e
    obtain ⟨rfl, rfl⟩ := e
    exact ⟨hi.h, hi.k⟩
  | fail _ _ => intro _ h' k' e; cases e
  | go h h2 _ ih =>
    intro hi h' k' e
    obtain ⟨q1, q2, _⟩ := firstN_some h
    exact ih (step_some (l := l) (hv _ q1) hi q2 h2).1 h' k' e

theorem span_same (l : List D) (x1 x2 : Int) : ∃ y, spec_SpanningHeights l x1 x2 = some y ∧ impl_SpanningHeights l x1 x2 = some y ∧ y.1.length ≤ 1048576 ∧ y.2.1.length ≤ 1048576 := by
  obtain ⟨b, h1, h2⟩ := lines_same l x1
  have h1' := h1
  simp only [spec_SpanningHeights, c_spec_SpanningHeights, impl_SpanningHeights, c_impl_SpanningHeights, h1', h2, l1In_eq, within_eq, impl_isCoordinate, c_impl_isCoordinate, Option.bind_some]
  cases b with
  | false => exact ⟨_, rfl, rfl, by simp, by simp⟩
  | true =>
    cases hb : btw x2 (-1000000) 1000000 with
    | false => exact ⟨_, rfl, rfl, by simp, by simp⟩
    | true =>
      obtain ⟨hn, hl, hv⟩ := lines_valid2 h1'
      obtain ⟨n, rfl⟩ : ∃ n : Nat, x1 = (n : Int) := ⟨x1.toNat, by omega⟩
      have hi := set_inv (rep_inv n) (show 0 < n by omega) hb
      obtain ⟨y, k1, k2⟩ := sloop l n hv hl _ _ hi
      obtain ⟨z, k3, k4⟩ := iloop l n hv hl _ _ hi
      have e1 : (0 : Int) < n := by omega
      have e2 : (n : Int) ≤ 4294967296 := by omega
      have e3 : 0 + 1 ≤ n := by omega
      simp only [Bool.not_true, cond_false, e1, e2, e3, List.length_replicate, Int.toNat_natCast, Int.toNat_zero, Int.natCast_nonneg, Int.le_refl, and_self, if_true, k1, k3, Option.bind_some]
      cases y with
      | inl y =>
        obtain ⟨y1, y2, y3, y4, y5⟩ := y
        obtain ⟨rfl, rfl, rfl, s1⟩ := k2
        cases z with
        | inl z => obtain ⟨z1, z2, z3⟩ := z; have := Sp.det s1 k4.2; cases this
        | inr z => obtain ⟨rfl, _⟩ := k4; exact ⟨_, rfl, rfl, by simp, by simp⟩
      | inr y =>
        obtain ⟨y1, y2⟩ := y
        cases z with
        | inl z =>
          obtain ⟨z1, z2, z3⟩ := z
          obtain ⟨rfl, s2⟩ := k4
          have e := Sp.det k2 s2
          simp only [Option.some.injEq, Prod.mk.injEq] at e
          obtain ⟨rfl, rfl⟩ := e
          obtain ⟨q1, q2⟩ := sp_len hv k2 hi _ _ rfl
          exact ⟨_, rfl, rfl, by simp only [Sum.elim_inr]; omega, by simp only [Sum.elim_inr]; omega⟩
        | inr z => have := Sp.det k2 k4.2; cases this

theorem pure_FnExactSpanningHeights (x0 : List D) (x1 : Int) (x2 : Int) (h0 : x0.length ≤ maxLen) (w0 : ∀ d ∈ x0, wfD (.struct [.int .i64, .int .i64, .int .i64, .int .i64]) d) (h1 : (Lit.int .i64 x1).wf = true) (h2 : (Lit.int .i64 x2).wf = true) : laws_FnExactSpanningHeights x0 x1 x2 = some true := by
  unfold maxLen at h0
  have hw : IntKind.i64.wrap (1048576 - (x0.length : Int)) = 1048576 - (x0.length : Int) := wrap_id (by omega) (by omega)
  by_cases hl : x0.length ≤ 1048576
  · have h2 : ¬ (1048576 - (x0.length : Int)) < 0 := by omega
    obtain ⟨y, hb1, hb2, hb3, hb4⟩ := span_same x0 x1 x2
    obtain ⟨k, l', hm1, hm2⟩ := markHL_ok x0 hl
    have e1 : ¬ k < 0 := by omega
    have e2 : ¬ (1 + 1 * (y.1.length : Int)) < 0 := by omega
    have e3 : ¬ (1 + 1 * (y.1.length : Int) + (y.2.1.length : Int)) < 0 := by omega
    have m1 := markIntS_eq y.1 hb3
    have m2 := markBoolS_eq y.2.1 (1 + 1 * (y.1.length : Int)) (by omega) hb4
    have m3 := heldIntS_eq y.1.length hb3
    have m4 := heldBoolS_eq y.2.1.length (1 + 1 * (y.1.length : Int)) (by omega) hb4
    simp only [laws_FnExactSpanningHeights, c_laws_FnExactSpanningHeights, laws_szHeightLineS, c_laws_szHeightLineS, hw, h2, toHeightLineS_id x0 hl w0, hb1, hb2, eqHeightLineS_self x0 hl, eqIntS_self y.1 hb3, eqBoolS_self y.2.1 hb4, hm1, m1, m2, m3, m4, e1, e2, e3, Option.bind_some, decide_true, decide_false, cond_true, cond_false, Bool.not_true]
    cases y.2.2 <;> rfl
  · have h2 : (1048576 - (x0.length : Int)) < 0 := by omega
    simp [laws_FnExactSpanningHeights, c_laws_FnExactSpanningHeights, laws_szHeightLineS, c_laws_szHeightLineS, hw, h2]

end Go.Proofs.Yticcpkmednijlaa
