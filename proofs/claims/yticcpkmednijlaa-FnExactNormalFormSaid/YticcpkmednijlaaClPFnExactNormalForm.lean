/- The law FnExactNormalForm over plain values. No condition beside those of the statement. -/
import Derived.Test.YticcpkmednijlaaClMFnExactNormalForm
import Derived.Test.YticcpkmednijlaaRaiU5
set_option linter.unusedVariables false
set_option linter.unusedSimpArgs false
set_option maxRecDepth 100000
namespace Go.Proofs.Yticcpkmednijlaa
open Go Go.Rai

abbrev tC : Ty := .struct [.int .i64, .int .i64]

theorem tC_wf {d : D} (h : wfD tC d) : ∃ a b : Int, d = .node [.int a, .int b] := by
  obtain ⟨l, rfl, x1, r1, rfl, ⟨a, rfl, _⟩, x2, r2, rfl, ⟨b, rfl, _⟩, h⟩ := h
  obtain rfl := h
  exact ⟨a, b, rfl⟩

theorem toCornerS_id (l : List D) (hl : l.length ≤ 1048576) (w : ∀ d ∈ l, wfD tC d) : laws_toCornerS l = some l := by
  have key : laws_toCornerS_L3 l 0 (List.replicate l.length (.node [.int 0, .int 0])) = some l := by
    refine copy_loop (N := n_laws_toCornerS_L3) (fun m i acc hi hacc => ?_) (fun m acc hacc => ?_)
    · obtain ⟨a, b, hd⟩ := tC_wf (w _ (get_mem hi))
      have hw : IntKind.i64.wrap ((i : Int) + 1) = (i : Int) + 1 := wrap_id (by omega) (by omega)
      have h2 : (i : Int) < acc.length := by omega
      have h3 : i + 1 ≤ acc.length := by omega
      have h1 : (i : Int) < l.length := by omega
      simp [n_laws_toCornerS_L3, c_laws_toCornerS_L3, laws_toCorner, c_laws_toCorner, h1, h2, h3, hw, hd, fld_node, toInt_int]
    · simp [n_laws_toCornerS_L3, c_laws_toCornerS_L3]
  have h4 : (l.length : Int) ≤ 4294967296 := by omega
  simp [laws_toCornerS, c_laws_toCornerS, key, h4]

theorem eqCornerS_self (l : List D) (hl : l.length ≤ 1048576) : laws_eqCornerS l l = some true := by
  have key : laws_eqCornerS_L4 l l 0 = some (.inr ()) := by
    refine all_loop (N := fun n i => n_laws_eqCornerS_L4 n l l i) (len := l.length) (fun m i hi => ?_) (fun m => ?_)
    · have hw : IntKind.i64.wrap ((i : Int) + 1) = (i : Int) + 1 := wrap_id (by omega) (by omega)
      have h1 : (i : Int) < l.length := by omega
      simp [n_laws_eqCornerS_L4, c_laws_eqCornerS_L4, laws_eqCorner, c_laws_eqCorner, h1, hw]
    · simp [n_laws_eqCornerS_L4, c_laws_eqCornerS_L4]
  simp [laws_eqCornerS, c_laws_eqCornerS, key]

theorem l1In_eq (x a b : Int) : spec_l1In x a b = some (btw x a b) := by
  unfold spec_l1In c_spec_l1In btw
  by_cases h : a ≤ x <;> simp [h]
theorem within_eq (x a b : Int) : impl_within x a b = some (btw x a b) := by
  unfold impl_within c_impl_within btw
  by_cases h : a ≤ x <;> simp [h]


theorem firstN_iff {p : Nat → Bool} {len : Nat} : (firstN p len).isNone = true ↔ ∀ j, j < len → p j = false := by
  constructor
  · intro h j hj
    cases hf : firstN p len with
    | none => exact firstN_none hf j hj
    | some i => rw [hf] at h; cases h
  · intro h
    cases hf : firstN p len with
    | none => rfl
    | some i => obtain ⟨h1, h2, _⟩ := firstN_some hf; rw [h i h1] at h2; cases h2

def cX (l : List D) (i : Nat) : Int := ((l[i]?.getD (.int 0)).fld 0).toInt
def cY (l : List D) (i : Nat) : Int := ((l[i]?.getD (.int 0)).fld 1).toInt

def turnW (a b c d e f : Int) : Int := IntKind.i64.wrap (IntKind.i64.wrap (IntKind.i64.wrap (c - a) * IntKind.i64.wrap (f - b)) - IntKind.i64.wrap (IntKind.i64.wrap (d - b) * IntKind.i64.wrap (e - a)))
def loW (a b : Int) : Int := if a ≤ b then a else b
def hiW (a b : Int) : Int := if a ≤ b then b else a
def onB (a b c d e f : Int) : Bool := decide (turnW a b c d e f = 0) && (btw e (loW a c) (hiW a c) && btw f (loW b d) (hiW b d))
def sgnW (x : Int) : Int := if 0 < x then 1 else if x < 0 then -1 else 0
def meetB (a b c d e f g h : Int) : Bool :=
  onB a b c d e f || (onB a b c d g h || (onB e f g h a b || (onB e f g h c d ||
    (decide (IntKind.i64.wrap (sgnW (turnW a b c d e f) * sgnW (turnW a b c d g h)) < 0) && decide (IntKind.i64.wrap (sgnW (turnW e f g h a b) * sgnW (turnW e f g h c d)) < 0)))))

theorem meetB_swap (a b c d e f g h : Int) : meetB a b c d e f g h = meetB e f g h a b c d := by
  unfold meetB
  generalize onB a b c d e f = x1
  generalize onB a b c d g h = x2
  generalize onB e f g h a b = x3
  generalize onB e f g h c d = x4
  generalize decide (IntKind.i64.wrap (sgnW (turnW a b c d e f) * sgnW (turnW a b c d g h)) < 0) = x5
  generalize decide (IntKind.i64.wrap (sgnW (turnW e f g h a b) * sgnW (turnW e f g h c d)) < 0) = x6
  cases x1 <;> cases x2 <;> cases x3 <;> cases x4 <;> cases x5 <;> cases x6 <;> rfl

theorem wrap0 : IntKind.i64.wrap 0 = 0 := by decide
theorem turn_end (a b c d : Int) : turnW a b c d a b = 0 := by
  unfold turnW
  rw [Int.sub_self, Int.sub_self, wrap0, Int.mul_zero, Int.mul_zero, wrap0, Int.sub_self, wrap0]
theorem turn_mid (a b e f : Int) : turnW a b a b e f = 0 := by
  unfold turnW
  rw [Int.sub_self, Int.sub_self, wrap0, Int.zero_mul, Int.zero_mul, wrap0, Int.sub_self, wrap0]
theorem on_start (a b c d : Int) : onB a b c d a b = true := by
  unfold onB
  rw [turn_end]
  have h1 : btw a (loW a c) (hiW a c) = true := by rw [btw_iff]; unfold loW hiW; split <;> omega
  have h2 : btw b (loW b d) (hiW b d) = true := by rw [btw_iff]; unfold loW hiW; split <;> omega
  rw [h1, h2]; rfl

theorem least_eq (a b : Int) : spec_l1Least a b = some (loW a b) := by
  unfold spec_l1Least c_spec_l1Least loW
  by_cases h : a < b
  · have : a ≤ b := by omega
    simp [h, this]
  · by_cases h2 : a ≤ b
    · have : a = b := by omega
      simp [this]
    · simp [h, h2]
theorem most_eq' (a b : Int) : spec_l1Most a b = some (hiW a b) := by
  unfold spec_l1Most c_spec_l1Most hiW
  by_cases h : b < a
  · have : ¬ a ≤ b := by omega
    simp [h, this]
  · by_cases h2 : a ≤ b
    · simp [h, h2]
    · omega
theorem turn_eq (a b c d e f : Int) : spec_l18Turn a b c d e f = some (turnW a b c d e f) := rfl
theorem cross_eq (a b c d e f : Int) : impl_cross a b c d e f = some (turnW a b c d e f) := rfl
theorem on_eq (a b c d e f : Int) : spec_l18On a b c d e f = some (onB a b c d e f) := by
  simp only [spec_l18On, c_spec_l18On, turn_eq, least_eq, most_eq', l1In_eq, Option.bind_some, onB]
  cases decide (turnW a b c d e f = 0) <;> cases btw e (loW a c) (hiW a c) <;> simp
theorem onSeg_eq (a b c d e f : Int) : impl_onSegment a b c d e f = some (onB a b c d e f) := by
  have h1 : ∀ a c : Int, (if c < a then c else a) = loW a c := by intro a c; unfold loW; split <;> split <;> omega
  have h2 : ∀ a c : Int, (if c > a then c else a) = hiW a c := by intro a c; unfold hiW; split <;> split <;> omega
  simp only [impl_onSegment, c_impl_onSegment, cross_eq, within_eq, Option.bind_some, onB, h1, h2]
  cases decide (turnW a b c d e f = 0) <;> cases btw e (loW a c) (hiW a c) <;> simp
theorem lsign_eq (x : Int) : spec_l18Sign x = some (sgnW x) := by
  unfold spec_l18Sign c_spec_l18Sign sgnW
  by_cases h : 0 < x
  · simp [h]
  · by_cases h2 : x < 0 <;> simp [h, h2]
theorem isign_eq (x : Int) : impl_sign x = some (sgnW x) := by
  simp only [impl_sign, c_impl_sign, cmp_Compare, c_cmp_Compare, cmp_isNaN, c_cmp_isNaN, Option.bind_some, decide_true, Bool.not_true, cond_false, sgnW]
  by_cases h : 0 < x
  · have : ¬ x < 0 := by omega
    simp [h, this]
  · by_cases h2 : x < 0 <;> simp [h, h2]

theorem lcross_eq (a b c d e f g h : Int) : spec_l18Cross a b c d e f g h = some (meetB a b c d e f g h) := by
  simp only [spec_l18Cross, c_spec_l18Cross, on_eq, turn_eq, lsign_eq, Option.bind_some, meetB]
  cases onB a b c d e f <;> cases onB a b c d g h <;> cases onB e f g h a b <;> cases onB e f g h c d <;>
    cases decide (IntKind.i64.wrap (sgnW (turnW a b c d e f) * sgnW (turnW a b c d g h)) < 0) <;> simp
theorem meet_eq (a b c d e f g h : Int) : impl_meet a b c d e f g h = some (meetB a b c d e f g h) := by
  simp only [impl_meet, c_impl_meet, onSeg_eq, cross_eq, isign_eq, Option.bind_some, meetB]
  cases onB a b c d e f <;> cases onB a b c d g h <;> cases onB e f g h a b <;> cases onB e f g h c d <;>
    cases decide (IntKind.i64.wrap (sgnW (turnW a b c d e f) * sgnW (turnW a b c d g h)) < 0) <;> simp

def inP (l : List D) (i : Nat) : Bool := btw (cX l i) 0 1000 && btw (cY l i) 0 1000
theorem lpoint_eq (x y : Int) : spec_l18Point x y = some (btw x 0 1000 && btw y 0 1000) := by
  simp only [spec_l18Point, c_spec_l18Point, l1In_eq, Option.bind_some]
  cases btw x 0 1000 <;> simp
theorem onPlan_eq (x y : Int) : impl_onPlan x y = some (btw x 0 1000 && btw y 0 1000) := by
  simp only [impl_onPlan, c_impl_onPlan, within_eq, Option.bind_some]
  cases btw x 0 1000 <;> simp

def same2 (l : List D) (i j : Nat) : Bool := decide (cX l j = cX l i) && decide (cY l j = cY l i)
def turnI (l : List D) (i : Nat) : Int := turnW (cX l i) (cY l i) (cX l ((i + 1) % l.length)) (cY l ((i + 1) % l.length)) (cX l ((i + 2) % l.length)) (cY l ((i + 2) % l.length))
def meetI (l : List D) (i j : Nat) : Bool := meetB (cX l i) (cY l i) (cX l ((i + 1) % l.length)) (cY l ((i + 1) % l.length)) (cX l j) (cY l j) (cX l ((j + 1) % l.length)) (cY l ((j + 1) % l.length))

def p5 (l : List D) (i : Nat) : Bool := !inP l i || !(firstN (same2 l i) i).isNone
def p20 (l : List D) (i k : Nat) : Bool := !decide ((i + 2 + k + 1) % l.length = i) && meetI l i (i + 2 + k)
def p15 (l : List D) (i : Nat) : Bool := decide (turnI l i = 0) || !(firstN (p20 l i) (l.length - (i + 2))).isNone
def specB (l : List D) : Bool := btw l.length 3 12 && ((firstN (p5 l) l.length).isNone && (firstN (p15 l) l.length).isNone)

theorem sL10_eq (l : List D) (n : Int) (i : Nat) (hi : i < l.length) (hl : l.length ≤ 12) : spec_l18Good_L10 l n i 0 = some (match firstN (same2 l i) i with | some _ => .inl (l, false, n, (i : Int)) | none => .inr (l, n, (i : Int))) := by
  refine scan_loop (N := fun m j => n_spec_l18Good_L10 m l n i j) _ (fun _ => .inl (l, false, n, (i : Int))) (fun m j hj => ?_) (fun m => ?_)
  · have hw : IntKind.i64.wrap ((j : Int) + 1) = (j : Int) + 1 := wrap_id (by omega) (by omega)
    have h1 : (j : Int) < i := by omega
    have h2 : (j : Int) < l.length := by omega
    have h3 : (i : Int) < l.length := by omega
    simp only [n_spec_l18Good_L10, c_spec_l18Good_L10, h1, h2, h3, hw, decide_true, cond_true, Int.natCast_nonneg, and_self, if_true, Int.toNat_natCast, List.getD_eq_getElem?_getD, Bool.and_true, same2, cX, cY]
    by_cases hA : ((l[j]?.getD (D.int 0)).fld 0).toInt = ((l[i]?.getD (D.int 0)).fld 0).toInt
    · by_cases hB : ((l[j]?.getD (D.int 0)).fld 1).toInt = ((l[i]?.getD (D.int 0)).fld 1).toInt <;> simp [hA, hB]
    · simp [hA]
  · simp [n_spec_l18Good_L10, c_spec_l18Good_L10]

theorem sL5_eq (l : List D) (hl : l.length ≤ 12) : spec_l18Good_L5 l l.length 0 = some (match firstN (p5 l) l.length with | some _ => .inl (l, false, (l.length : Int)) | none => .inr (l, (l.length : Int))) := by
  refine scan_loop (N := fun m i => n_spec_l18Good_L5 m l l.length i) _ (fun _ => .inl (l, false, (l.length : Int))) (fun m i hi => ?_) (fun m => ?_)
  · have hw : IntKind.i64.wrap ((i : Int) + 1) = (i : Int) + 1 := wrap_id (by omega) (by omega)
    have h1 : (i : Int) < l.length := by omega
    simp only [n_spec_l18Good_L5, c_spec_l18Good_L5, h1, hw, decide_true, cond_true, Int.natCast_nonneg, and_self, if_true, Int.toNat_natCast, List.getD_eq_getElem?_getD, lpoint_eq, Option.bind_some, sL10_eq l _ i hi hl]
    unfold p5 inP cX cY
    cases (btw (((l[i]?.getD (D.int 0)).fld 0).toInt) 0 1000 && btw (((l[i]?.getD (D.int 0)).fld 1).toInt) 0 1000) with
    | false => simp
    | true => cases firstN (same2 l i) i <;> simp [hw]
  · simp [n_spec_l18Good_L5, c_spec_l18Good_L5]

theorem sL20_eq (l : List D) (i : Nat) (hi : i < l.length) (hl : l.length ≤ 12) (h3 : 3 ≤ l.length) : spec_l18Good_L20 l l.length i ((i : Int) + 2) = some (match firstN (p20 l i) (l.length - (i + 2)) with | some _ => .inl (l, false, (l.length : Int), (i : Int)) | none => .inr (l, (l.length : Int), (i : Int))) := by
  have := scan_loop (N := fun m k => n_spec_l18Good_L20 m l l.length i ((i : Int) + 2 + k)) (len := l.length - (i + 2)) (p20 l i) (fun _ => .inl (l, false, (l.length : Int), (i : Int))) (fin := .inr (l, (l.length : Int), (i : Int))) (fun m k hk => ?_) (fun m => ?_)
  · rw [show spec_l18Good_L20 l l.length i ((i : Int) + 2) = ev (fun m => n_spec_l18Good_L20 m l l.length i ((i : Int) + 2 + 0)) by simp [spec_l18Good_L20]]
    exact this
  · have e1 : (i : Int) + 2 + (k : Int) = ((i + 2 + k : Nat) : Int) := by omega
    have e2 : (i : Int) + 2 + ((k : Int) + 1) = ((i + 2 + k + 1 : Nat) : Int) := by omega
    rw [e2]
    simp only [e1]
    generalize hj : i + 2 + k = j
    have hjl : j < l.length := by omega
    have hw : IntKind.i64.wrap ((j : Int) + 1) = ((j + 1 : Nat) : Int) := succ_wrap (by omega)
    have hwi : IntKind.i64.wrap ((i : Int) + 1) = ((i + 1 : Nat) : Int) := succ_wrap (by omega)
    have h1 : (j : Int) < l.length := by omega
    have h2 : (i : Int) < l.length := by omega
    have h4 : ((i + 1 : Nat) : Int) < l.length := by omega
    have h5 : (l.length : Int) ≠ 0 := by omega
    have h6 : (((j + 1) % l.length : Nat) : Int) < l.length := by have := Nat.mod_lt (j + 1) (show 0 < l.length by omega); omega
    have h7 : (i + 1) % l.length = i + 1 := Nat.mod_eq_of_lt (by omega)
    have h8 : decide ((((j + 1) % l.length : Nat) : Int) = (i : Int)) = decide ((j + 1) % l.length = i) := by
      rw [decide_eq_decide]; omega
    simp only [n_spec_l18Good_L20, c_spec_l18Good_L20, h1, h2, h4, h5, h6, hw, hwi, tmod_nat, h8, decide_true, cond_true, Int.natCast_nonneg, and_self, if_true, Int.toNat_natCast, List.getD_eq_getElem?_getD, lcross_eq, Option.bind_some, ne_eq, not_false_eq_true, p20, hj, meetI, h7, cX, cY]
    cases decide ((j + 1) % l.length = i) with
    | true => simp
    | false =>
      simp only [Bool.not_false, cond_true, Bool.true_and]
      generalize meetB _ _ _ _ _ _ _ _ = q
      cases q <;> simp
  · have e1 : ¬ (i : Int) + 2 + ((l.length - (i + 2) : Nat) : Int) < l.length := by omega
    simp [n_spec_l18Good_L20, c_spec_l18Good_L20, e1]

theorem sL15_eq (l : List D) (hl : l.length ≤ 12) (h3 : 3 ≤ l.length) : spec_l18Good_L15 l l.length 0 = some (match firstN (p15 l) l.length with | some _ => .inl false | none => .inr ()) := by
  refine scan_loop (N := fun m i => n_spec_l18Good_L15 m l l.length i) _ (fun _ => .inl false) (fun m i hi => ?_) (fun m => ?_)
  · have hw : IntKind.i64.wrap ((i : Int) + 1) = ((i + 1 : Nat) : Int) := succ_wrap (by omega)
    have hw2 : IntKind.i64.wrap ((i : Int) + 2) = ((i + 2 : Nat) : Int) := by rw [wrap_id (by omega) (by omega)]; omega
    have h1 : (i : Int) < l.length := by omega
    have h5 : (l.length : Int) ≠ 0 := by omega
    have h6 : (((i + 1) % l.length : Nat) : Int) < l.length := by have := Nat.mod_lt (i + 1) (show 0 < l.length by omega); omega
    have h7 : (((i + 2) % l.length : Nat) : Int) < l.length := by have := Nat.mod_lt (i + 2) (show 0 < l.length by omega); omega
    have hs := sL20_eq l i hi hl h3
    rw [show (i : Int) + 2 = ((i + 2 : Nat) : Int) by omega] at hs
    simp only [n_spec_l18Good_L15, c_spec_l18Good_L15, h1, h5, h6, h7, hw, hw2, tmod_nat, decide_true, cond_true, Int.natCast_nonneg, and_self, if_true, Int.toNat_natCast, List.getD_eq_getElem?_getD, turn_eq, Option.bind_some, ne_eq, not_false_eq_true, hs]
    unfold p15 turnI cX cY
    generalize decide (turnW _ _ _ _ _ _ = 0) = q
    cases q with
    | true => simp
    | false => cases firstN (p20 l i) (l.length - (i + 2)) <;> simp [hw]
  · simp [n_spec_l18Good_L15, c_spec_l18Good_L15]

theorem good_eq (l : List D) : spec_l18Good l = some (specB l) := by
  simp only [spec_l18Good, c_spec_l18Good, l1In_eq, Option.bind_some, specB]
  cases hb : btw (l.length : Int) 3 12 with
  | false => simp
  | true =>
    have := btw_iff.1 hb
    simp only [sL5_eq l (by omega), sL15_eq l (by omega) (by omega), Bool.not_true, cond_false, Option.bind_some]
    cases firstN (p5 l) l.length with
    | some _ => simp
    | none =>
      simp only [Sum.elim_inr, sL15_eq l (by omega) (by omega), Option.bind_some]
      cases firstN (p15 l) l.length <;> simp

/-! the program's -/
def q10 (l : List D) (i j : Nat) : Bool := !decide (i - j = 1) && (!decide (i - j = l.length - 1) && meetI l i j)
def q5 (l : List D) (i : Nat) : Bool := decide (turnI l i = 0) || !(firstN (q10 l i) i).isNone
def implB (l : List D) : Bool := btw l.length 3 12 && ((firstN (fun i => !inP l i) l.length).isNone && (firstN (q5 l) l.length).isNone)

theorem next_eq (l : List D) (i : Nat) (hl : l.length ≤ 12) (h0 : 0 < l.length) (hi : i ≤ 12) : impl_next l i = some (cX l ((i + 1) % l.length), cY l ((i + 1) % l.length)) := by
  have hw : IntKind.i64.wrap ((i : Int) + 1) = ((i + 1 : Nat) : Int) := succ_wrap (by omega)
  have h5 : (l.length : Int) ≠ 0 := by omega
  have h6 : (((i + 1) % l.length : Nat) : Int) < l.length := by have := Nat.mod_lt (i + 1) h0; omega
  simp only [impl_next, c_impl_next, hw, h5, h6, tmod_nat, ne_eq, not_false_eq_true, if_true, Int.natCast_nonneg, and_self, Int.toNat_natCast, List.getD_eq_getElem?_getD, cX, cY]

theorem iL10_eq (l : List D) (i : Nat) (n c d : Int) (hn : n = (l.length : Int)) (hi : i < l.length) (hl : l.length ≤ 12) : impl_IsValidPolygon_L10 l n i c d i 0 = some (match firstN (q10 l i) i with | some _ => .inl (l, false, n, c, d) | none => .inr (l, n, c, d)) := by
  subst hn
  refine scan_loop (N := fun m j => n_impl_IsValidPolygon_L10 m l l.length i c d i j) _ (fun _ => .inl (l, false, (l.length : Int), c, d)) (fun m j hj => ?_) (fun m => ?_)
  · have hw : IntKind.i64.wrap ((j : Int) + 1) = (j : Int) + 1 := wrap_id (by omega) (by omega)
    have h1 : (j : Int) < i := by omega
    have h2 : (j : Int) < l.length := by omega
    have h3 : (i : Int) < l.length := by omega
    have w1 : IntKind.i64.wrap ((i : Int) - j) = ((i - j : Nat) : Int) := by rw [wrap_id (by omega) (by omega)]; omega
    have w2 : IntKind.i64.wrap ((l.length : Int) - 1) = ((l.length - 1 : Nat) : Int) := pred_wrap (by omega) (by omega)
    have d1 : decide (((i - j : Nat) : Int) = 1) = decide (i - j = 1) := by rw [decide_eq_decide]; omega
    have d2 : decide (((i - j : Nat) : Int) = ((l.length - 1 : Nat) : Int)) = decide (i - j = l.length - 1) := by rw [decide_eq_decide]; omega
    simp only [n_impl_IsValidPolygon_L10, c_impl_IsValidPolygon_L10, h1, h2, h3, hw, w1, w2, d1, d2, decide_true, cond_true, Int.natCast_nonneg, and_self, if_true, Int.toNat_natCast, List.getD_eq_getElem?_getD, next_eq l i hl (by omega) (by omega), next_eq l j hl (by omega) (by omega), meet_eq, Option.bind_some, q10, meetI]
    cases decide (i - j = 1) with
    | true => simp
    | false =>
      cases decide (i - j = l.length - 1) with
      | true => simp
      | false =>
        simp only [Bool.not_false, cond_false, Bool.true_and, cX, cY]
        generalize meetB _ _ _ _ _ _ _ _ = q
        cases q <;> simp
  · simp [n_impl_IsValidPolygon_L10, c_impl_IsValidPolygon_L10]

theorem iL5_eq (l : List D) (hl : l.length ≤ 12) (h3 : 3 ≤ l.length) : impl_IsValidPolygon_L5 l l.length l.length 0 = some (match firstN (q5 l) l.length with | some _ => .inl false | none => .inr ()) := by
  refine scan_loop (N := fun m i => n_impl_IsValidPolygon_L5 m l l.length l.length i) _ (fun _ => .inl false) (fun m i hi => ?_) (fun m => ?_)
  · have hw : IntKind.i64.wrap ((i : Int) + 1) = ((i + 1 : Nat) : Int) := succ_wrap (by omega)
    have h1 : (i : Int) < l.length := by omega
    have e2 : (i + 1 + 1) = i + 2 := rfl
    simp only [n_impl_IsValidPolygon_L5, c_impl_IsValidPolygon_L5, h1, hw, decide_true, cond_true, Int.natCast_nonneg, and_self, if_true, Int.toNat_natCast, List.getD_eq_getElem?_getD, next_eq l i hl (by omega) (by omega), next_eq l (i + 1) hl (by omega) (by omega), cross_eq, Option.bind_some, iL10_eq l i _ _ _ rfl hi hl]
    by_cases hq : turnI l i = 0
    · have hq' := hq
      unfold turnI cX cY at hq'
      simp [q5, hq, e2, cX, cY, hq']
    · have hq' := hq
      unfold turnI cX cY at hq'
      simp only [e2, cX, cY, hq', q5, hq, decide_false, cond_false, Bool.false_or]
      cases firstN (q10 l i) i <;> simp [hw]
  · simp [n_impl_IsValidPolygon_L5, c_impl_IsValidPolygon_L5]

theorem containsP_eq (l : List D) (hl : l.length ≤ 12) : slices_ContainsFunc__impl_IsValidPolygon_1 l = some (!(firstN (fun i => !inP l i) l.length).isNone) := by
  have : slices_IndexFunc_L2 l l.length 0 = some (match firstN (fun i => !inP l i) l.length with | some i => .inl (i : Int) | none => .inr ()) := by
    refine scan_loop (N := fun m i => n_slices_IndexFunc_L2 m l l.length i) _ (fun i => .inl (i : Int)) (fun m i hi => ?_) (fun m => ?_)
    · have hw : IntKind.i64.wrap ((i : Int) + 1) = (i : Int) + 1 := wrap_id (by omega) (by omega)
      have h1 : (i : Int) < l.length := by omega
      simp only [n_slices_IndexFunc_L2, c_slices_IndexFunc_L2, impl_IsValidPolygon_1, c_impl_IsValidPolygon_1, h1, hw, onPlan_eq, decide_true, cond_true, Int.natCast_nonneg, and_self, if_true, Int.toNat_natCast, List.getD_eq_getElem?_getD, Option.bind_some, inP, cX, cY]
      generalize (btw _ 0 1000 && btw _ 0 1000) = q
      cases q <;> simp
    · simp [n_slices_IndexFunc_L2, c_slices_IndexFunc_L2]
  simp only [slices_ContainsFunc__impl_IsValidPolygon_1, c_slices_ContainsFunc__impl_IsValidPolygon_1, slices_IndexFunc__impl_IsValidPolygon_1, c_slices_IndexFunc__impl_IsValidPolygon_1, this, Option.bind_some]
  cases firstN (fun i => !inP l i) l.length <;> simp

theorem valid_eq (l : List D) : impl_IsValidPolygon l = some (implB l) := by
  simp only [impl_IsValidPolygon, c_impl_IsValidPolygon, within_eq, Option.bind_some, implB]
  cases hb : btw (l.length : Int) 3 12 with
  | false => simp
  | true =>
    have := btw_iff.1 hb
    simp only [containsP_eq l (by omega), iL5_eq l (by omega) (by omega), Bool.not_true, cond_false, Option.bind_some]
    cases (firstN (fun i => !inP l i) l.length).isNone with
    | false => simp
    | true => cases firstN (q5 l) l.length <;> simp

theorem poly_same (l : List D) : specB l = implB l := by
  unfold specB implB
  cases hb : btw (l.length : Int) 3 12 with
  | false => rfl
  | true =>
    have hbd := btw_iff.1 hb
    rw [Bool.true_and, Bool.true_and, Bool.eq_iff_iff, Bool.and_eq_true, Bool.and_eq_true, firstN_iff, firstN_iff, firstN_iff, firstN_iff]
    have s5 : ∀ i, p5 l i = false ↔ inP l i = true ∧ ∀ j, j < i → same2 l i j = false := by
      intro i
      unfold p5
      rw [Bool.or_eq_false_iff, Bool.not_eq_false', Bool.not_eq_false', firstN_iff]
    have s15 : ∀ i, p15 l i = false ↔ turnI l i ≠ 0 ∧ ∀ k, k < l.length - (i + 2) → p20 l i k = false := by
      intro i
      unfold p15
      rw [Bool.or_eq_false_iff, Bool.not_eq_false', firstN_iff, decide_eq_false_iff_not]
    have s5' : ∀ i, q5 l i = false ↔ turnI l i ≠ 0 ∧ ∀ j, j < i → q10 l i j = false := by
      intro i
      unfold q5
      rw [Bool.or_eq_false_iff, Bool.not_eq_false', firstN_iff, decide_eq_false_iff_not]
    constructor
    · rintro ⟨h1, h2⟩
      refine ⟨fun i hi => by rw [((s5 i).1 (h1 i hi)).1]; rfl, fun i hi => (s5' i).2 ⟨((s15 i).1 (h2 i hi)).1, fun j hj => ?_⟩⟩
      unfold q10
      by_cases c1 : i - j = 1
      · simp [c1]
      · by_cases c2 : i - j = l.length - 1
        · simp [c2]
        · have := ((s15 j).1 (h2 j (by omega))).2 (i - (j + 2)) (by omega)
          unfold p20 at this
          rw [show j + 2 + (i - (j + 2)) = i by omega] at this
          have hm : (i + 1) % l.length ≠ j := by
            by_cases c3 : i + 1 < l.length
            · rw [Nat.mod_eq_of_lt c3]; omega
            · rw [show i + 1 = l.length by omega, Nat.mod_self]; omega
          have hmeet : meetI l j i = meetI l i j := meetB_swap _ _ _ _ _ _ _ _
          simp only [hm, decide_false, Bool.not_false, Bool.true_and] at this
          simp [← hmeet, this]
    · rintro ⟨h1, h2⟩
      refine ⟨fun i hi => (s5 i).2 ⟨by have := h1 i hi; simpa using this, fun j hj => ?_⟩, fun i hi => (s15 i).2 ⟨((s5' i).1 (h2 i hi)).1, fun k hk => ?_⟩⟩
      · cases hs : same2 l i j with
        | false => rfl
        | true =>
          exfalso
          unfold same2 at hs
          rw [Bool.and_eq_true, decide_eq_true_eq, decide_eq_true_eq] at hs
          obtain ⟨ex, ey⟩ := hs
          by_cases c1 : i - j = 1
          · have := ((s5' j).1 (h2 j (by omega))).1
            unfold turnI at this
            rw [show (j + 1) % l.length = i by rw [Nat.mod_eq_of_lt (by omega)]; omega, ← ex, ← ey, turn_mid] at this
            exact this rfl
          · by_cases c2 : i - j = l.length - 1
            · have := ((s5' i).1 (h2 i hi)).1
              unfold turnI at this
              rw [show (i + 1) % l.length = j by rw [show i + 1 = l.length by omega, Nat.mod_self]; omega, ex, ey, turn_mid] at this
              exact this rfl
            · have := ((s5' i).1 (h2 i hi)).2 j hj
              unfold q10 meetI meetB at this
              rw [ex, ey, on_start] at this
              simp [c1, c2] at this
      · unfold p20
        generalize hj : i + 2 + k = j
        by_cases c1 : (j + 1) % l.length = i
        · simp [c1]
        · have := ((s5' j).1 (h2 j (by omega))).2 i (by omega)
          unfold q10 at this
          have c2 : ¬ j - i = 1 := by omega
          have c3 : ¬ j - i = l.length - 1 := by
            intro h
            apply c1
            rw [show j + 1 = l.length by omega, Nat.mod_self]
            omega
          have hmeet : meetI l j i = meetI l i j := meetB_swap _ _ _ _ _ _ _ _
          simp only [c2, c3, decide_false, Bool.not_false, Bool.true_and] at this
          simp [← hmeet, this]

theorem wrap_sub_l (p q : Int) : IntKind.i64.wrap (IntKind.i64.wrap p - q) = IntKind.i64.wrap (p - q) := by
  unfold IntKind.wrap
  simp [IntKind.signed, IntKind.bits]
  omega
theorem wrap_add_r (p q : Int) : IntKind.i64.wrap (p + IntKind.i64.wrap q) = IntKind.i64.wrap (p + q) := by
  unfold IntKind.wrap
  simp [IntKind.signed, IntKind.bits]
  omega

def areaS (l : List D) (s : Int) (i : Nat) : Int := IntKind.i64.wrap (IntKind.i64.wrap (s + IntKind.i64.wrap (cX l i * cY l ((i + 1) % l.length))) - IntKind.i64.wrap (cX l ((i + 1) % l.length) * cY l i))

theorem area_same (l : List D) (hl : l.length ≤ 12) : ∃ y, spec_l18Area l = some y ∧ impl_signedArea l = some y := by
  obtain ⟨y, y', h1, h2, rfl⟩ := loop_two (N := fun m (s : Nat × Int) => n_spec_l18Area_L3 m l s.2 (s.1 : Int)) (N' := fun m (s : Nat × Int) => n_impl_signedArea_L3 m l s.2 l l.length (s.1 : Int)) (fun s => s.1 ≤ l.length) (fun s => l.length - s.1) (fun y y' => y = y') (by
    rintro ⟨i, s⟩ hi
    simp only at hi ⊢
    by_cases hlt : i < l.length
    · have hlt' : (i : Int) < l.length := by omega
      have h5 : (l.length : Int) ≠ 0 := by omega
      have h6 : (((i + 1) % l.length : Nat) : Int) < l.length := by have := Nat.mod_lt (i + 1) (show 0 < l.length by omega); omega
      have hw : IntKind.i64.wrap ((i : Int) + 1) = ((i + 1 : Nat) : Int) := succ_wrap (by omega)
      refine .inr ⟨(i + 1, areaS l s i), by simp; omega, by simp; omega, fun m => ⟨?_, ?_⟩⟩
      · simp only [n_spec_l18Area_L3, c_spec_l18Area_L3, hlt', h5, h6, hw, tmod_nat, decide_true, cond_true, Int.natCast_nonneg, and_self, if_true, Int.toNat_natCast, List.getD_eq_getElem?_getD, ne_eq, not_false_eq_true, areaS, cX, cY]
        exact Option.bind_fun_some _
      · simp only [n_impl_signedArea_L3, c_impl_signedArea_L3, hlt', hw, next_eq l i hl (by omega) (by omega), decide_true, cond_true, Int.natCast_nonneg, and_self, if_true, Int.toNat_natCast, List.getD_eq_getElem?_getD, Option.bind_some, areaS, wrap_sub_l, wrap_add_r]
        rw [Option.bind_fun_some]
        congr 1
        rw [show ∀ a b c : Int, a + b - c = a + (b - c) from fun a b c => by omega, Int.mul_comm (cX l ((i + 1) % l.length)) (cY l i)]
        rfl
    · have hlt' : ¬ (i : Int) < l.length := by omega
      exact .inl ⟨s, s, rfl, fun m => ⟨by simp [n_spec_l18Area_L3, c_spec_l18Area_L3, hlt'], by simp [n_impl_signedArea_L3, c_impl_signedArea_L3, hlt']⟩⟩) (0, 0) (by simp)
  have h1' : spec_l18Area_L3 l 0 0 = some y := h1
  have h2' : impl_signedArea_L3 l 0 l l.length 0 = some y := h2
  exact ⟨y, by simp [spec_l18Area, c_spec_l18Area, h1'], by simp [impl_signedArea, c_impl_signedArea, h2']⟩


/-- what a loop that numbers the cells leaves -/
def markd (cell : Int → D) (c : Int) (n : Nat) : List D := (List.range n).map (fun (i : Nat) => cell (1 + c * (i : Int)))

theorem markd_len {cell : Int → D} {c : Int} {n : Nat} : (markd cell c n).length = n := by simp [markd]
theorem markd_get {cell : Int → D} {c : Int} {n i : Nat} (h : i < n) : (markd cell c n)[i]?.getD (.int 0) = cell (1 + c * (i : Int)) := by
  simp [markd, h]

theorem mark_loop {N : Nat → Int → Int → List D → Option (Int × List D)} {n : Nat} {c : Int} {cell : Int → D}
    (hs : ∀ m (i : Nat) acc, i < n → acc.length = n → N (m + 1) (1 + c * (i : Int)) (i : Int) acc = N m (1 + c * ((i + 1 : Nat) : Int)) ((i + 1 : Nat) : Int) (acc.set i (cell (1 + c * (i : Int)))))
    (he : ∀ m acc, acc.length = n → N (m + 1) (1 + c * (n : Int)) (n : Int) acc = some (1 + c * (n : Int), acc)) {l : List D} (hl : l.length = n) :
    ev (fun m => N m 1 0 l) = some (1 + c * (n : Int), markd cell c n) := by
  have key : ∀ k, ∀ m (i : Nat) acc, i + k = n → k < m → acc.length = n → acc.take i = (markd cell c n).take i → N m (1 + c * (i : Int)) (i : Int) acc = some (1 + c * (n : Int), markd cell c n) := by
    intro k
    induction k with
    | zero =>
      intro m i acc h1 h2 h3 h4
      obtain ⟨m, rfl⟩ : ∃ m', m = m' + 1 := ⟨m - 1, by omega⟩
      have hi : i = n := by omega
      subst hi
      rw [he m acc h3]
      rw [List.take_of_length_le (by omega), List.take_of_length_le (by rw [markd_len]; exact Nat.le_refl _)] at h4
      rw [h4]
    | succ k ih =>
      intro m i acc h1 h2 h3 h4
      obtain ⟨m, rfl⟩ : ∃ m', m = m' + 1 := ⟨m - 1, by omega⟩
      rw [hs m i acc (by omega) h3]
      refine ih m (i + 1) _ (by omega) (by omega) (by simpa using h3) ?_
      have hi : i < (markd cell c n).length := by rw [markd_len]; omega
      rw [List.take_succ_eq_append_getElem (by simp; omega), List.take_succ_eq_append_getElem hi]
      rw [List.take_set_of_le (by omega), h4]
      simp [markd]
  have := ev_eq (f := fun m => N m 1 0 l) (n + 1) (fun m hm => by
    have := key n m 0 l (by omega) (by omega) hl (by simp)
    simpa using this)
  exact this

theorem held_loop {X : Type} {N : Nat → Int → Int → Option X} {n : Nat} {c : Int} {x : X}
    (hs : ∀ m (i : Nat), i < n → N (m + 1) (1 + c * (i : Int)) (i : Int) = N m (1 + c * ((i + 1 : Nat) : Int)) ((i + 1 : Nat) : Int))
    (he : ∀ m, N (m + 1) (1 + c * (n : Int)) (n : Int) = some x) : ev (fun m => N m 1 0) = some x := by
  have key : ∀ k, ∀ m (i : Nat), i + k = n → k < m → N m (1 + c * (i : Int)) (i : Int) = some x := by
    intro k
    induction k with
    | zero =>
      intro m i h1 h2
      obtain ⟨m, rfl⟩ : ∃ m', m = m' + 1 := ⟨m - 1, by omega⟩
      have hi : i = n := by omega
      subst hi
      exact he m
    | succ k ih =>
      intro m i h1 h2
      obtain ⟨m, rfl⟩ : ∃ m', m = m' + 1 := ⟨m - 1, by omega⟩
      rw [hs m i (by omega)]
      exact ih m (i + 1) (by omega) (by omega)
  exact ev_eq (f := fun m => N m 1 0) (n + 1) (fun m hm => by
    have := key n m 0 (by omega) (by omega)
    simpa using this)

theorem markCornerS_eq (l : List D) (hl : l.length ≤ 1048576) : laws_markCornerS l 1 = some (1 + 2 * (l.length : Int), markd (fun k => .node [.int k, .int (k + 1)]) 2 l.length) := by
  have key : laws_markCornerS_L2 1 0 l = some (1 + 2 * (l.length : Int), markd (fun k => .node [.int k, .int (k + 1)]) 2 l.length) := by
    refine mark_loop (N := n_laws_markCornerS_L2) (fun m i acc hi hacc => ?_) (fun m acc hacc => ?_) rfl
    · have hw : IntKind.i64.wrap ((i : Int) + 1) = (i : Int) + 1 := wrap_id (by omega) (by omega)
      have w1 : IntKind.i64.wrap (1 + 2 * (i : Int) + 1) = 1 + 2 * (i : Int) + 1 := wrap_id (by omega) (by omega)
      have w2 : IntKind.i64.wrap (1 + 2 * (i : Int) + 1 + 1) = 1 + 2 * ((i : Int) + 1) := by rw [wrap_id (by omega) (by omega)]; omega
      have h2 : (i : Int) < acc.length := by omega
      have h3 : i + 1 ≤ acc.length := by omega
      have h4 : i < acc.length := by omega
      simp [n_laws_markCornerS_L2, c_laws_markCornerS_L2, h2, h3, h4, hw, w1, w2, fld_node, toInt_int]
    · have h1 : ¬ (l.length : Int) < acc.length := by omega
      simp [n_laws_markCornerS_L2, c_laws_markCornerS_L2, h1]
  simp [laws_markCornerS, c_laws_markCornerS, key]

theorem heldCornerS_eq (n : Nat) (hn : n ≤ 1048576) : laws_heldCornerS (markd (fun k => .node [.int k, .int (k + 1)]) 2 n) 1 = some (1 + 2 * (n : Int)) := by
  have key : laws_heldCornerS_L2 (markd (fun k => .node [.int k, .int (k + 1)]) 2 n) 1 0 = some (.inr (1 + 2 * (n : Int))) := by
    refine held_loop (n := n) (c := 2) (N := fun m k i => n_laws_heldCornerS_L2 m (markd (fun k => .node [.int k, .int (k + 1)]) 2 n) k i) (fun m i hi => ?_) (fun m => ?_)
    · have hw : IntKind.i64.wrap ((i : Int) + 1) = (i : Int) + 1 := wrap_id (by omega) (by omega)
      have w1 : IntKind.i64.wrap (1 + 2 * (i : Int) + 1) = 1 + 2 * (i : Int) + 1 := wrap_id (by omega) (by omega)
      have w2 : IntKind.i64.wrap (1 + 2 * (i : Int) + 1 + 1) = 1 + 2 * ((i : Int) + 1) := by rw [wrap_id (by omega) (by omega)]; omega
      have h2 : (i : Int) < n := by omega
      simp [n_laws_heldCornerS_L2, c_laws_heldCornerS_L2, markd_len, h2, hw, w1, w2, fld_node, toInt_int, markd_get hi]
    · simp [n_laws_heldCornerS_L2, c_laws_heldCornerS_L2, markd_len]
  simp [laws_heldCornerS, c_laws_heldCornerS, key]

/-- a loop that appends -/
theorem app_loop {X : Type} {N : Nat → Int → List D → Option X} {n c base : Nat} {out : List D → X} (f : Nat → List D) (hf : ∀ i, i < n → (f i).length ≤ c)
    (hs : ∀ m (i : Nat) acc, i < n → acc.length ≤ base + c * i → N (m + 1) (i : Int) acc = N m ((i + 1 : Nat) : Int) (acc ++ f i))
    (he : ∀ m acc, acc.length ≤ base + c * n → N (m + 1) (n : Int) acc = some (out acc)) :
    ∀ (i0 : Nat) (acc0 : List D), i0 ≤ n → acc0.length ≤ base + c * i0 → ev (fun m => N m (i0 : Int) acc0) = some (out (acc0 ++ (List.range' i0 (n - i0)).flatMap f)) := by
  have key : ∀ k, ∀ m (i : Nat) acc, i + k = n → k < m → acc.length ≤ base + c * i → N m (i : Int) acc = some (out (acc ++ (List.range' i k).flatMap f)) := by
    intro k
    induction k with
    | zero =>
      intro m i acc h1 h2 h3
      obtain ⟨m, rfl⟩ : ∃ m', m = m' + 1 := ⟨m - 1, by omega⟩
      have hi : i = n := by omega
      subst hi
      rw [he m acc h3]
      simp
    | succ k ih =>
      intro m i acc h1 h2 h3
      obtain ⟨m, rfl⟩ : ∃ m', m = m' + 1 := ⟨m - 1, by omega⟩
      have h4 := hf i (by omega)
      rw [hs m i acc (by omega) h3, ih m (i + 1) _ (by omega) (by omega) (by rw [List.length_append, Nat.mul_succ]; omega)]
      rw [List.range'_succ, List.flatMap_cons, List.append_assoc]
  intro i0 acc0 h1 h2
  exact ev_eq (f := fun m => N m (i0 : Int) acc0) (n - i0 + 1) (fun m hm => key (n - i0) m i0 acc0 (by omega) (by omega) h2)

theorem flat_len {c : Nat} {f : Nat → List D} : ∀ (l : List Nat), (∀ i ∈ l, (f i).length ≤ c) → (l.flatMap f).length ≤ l.length * c
  | [], _ => by simp
  | a :: l, h => by
    rw [List.flatMap_cons, List.length_append, List.length_cons, Nat.succ_mul]
    have h1 := h a (by simp)
    have h2 := flat_len l (fun i hi => h i (by simp [hi]))
    omega

theorem flatMap_single {α β : Type} (g : α → β) : ∀ l : List α, l.flatMap (fun i => [g i]) = l.map g
  | [] => rfl
  | a :: l => by rw [List.flatMap_cons, flatMap_single g l]; rfl

def cmpV (x y : Int) : Int := if x < y then -1 else if y < x then 1 else 0
theorem compare_eq (x y : Int) : cmp_Compare x y = some (cmpV x y) := by
  simp only [cmp_Compare, c_cmp_Compare, cmp_isNaN, c_cmp_isNaN, Option.bind_some, decide_true, Bool.not_true, cond_false, cmpV]
  by_cases h : x < y
  · simp [h]
  · by_cases h2 : y < x <;> simp [h, h2]

theorem or_eq (a b : Int) : cmp_Or [.int a, .int b] = some (if a = 0 then b else a) := by
  have w1 : IntKind.i64.wrap 1 = 1 := by decide
  have w2 : IntKind.i64.wrap 2 = 2 := by decide
  have key : ∃ y, cmp_Or_L3 0 [.int a, .int b] 2 0 = some y ∧ (match y with | .inl z => z.1 | .inr z => z) = (if a = 0 then b else a) := by
    by_cases ha : a = 0
    · by_cases hb : b = 0
      · refine ⟨.inr 0, ev_eq (f := fun m => n_cmp_Or_L3 m 0 [.int a, .int b] 2 0) 3 (fun m hm => ?_), by simp [ha, hb]⟩
        obtain ⟨m, rfl⟩ : ∃ m', m = m' + 3 := ⟨m - 3, by omega⟩
        simp [n_cmp_Or_L3, c_cmp_Or_L3, ha, hb, toInt_int, w1, w2]
      · refine ⟨.inl (b, 0), ev_eq (f := fun m => n_cmp_Or_L3 m 0 [.int a, .int b] 2 0) 2 (fun m hm => ?_), by simp [ha]⟩
        obtain ⟨m, rfl⟩ : ∃ m', m = m' + 2 := ⟨m - 2, by omega⟩
        simp [n_cmp_Or_L3, c_cmp_Or_L3, ha, hb, toInt_int, w1]
    · refine ⟨.inl (a, 0), ev_eq (f := fun m => n_cmp_Or_L3 m 0 [.int a, .int b] 2 0) 1 (fun m hm => ?_), by simp [ha]⟩
      obtain ⟨m, rfl⟩ : ∃ m', m = m' + 1 := ⟨m - 1, by omega⟩
      simp [n_cmp_Or_L3, c_cmp_Or_L3, ha, toInt_int]
  obtain ⟨y, h1, h2⟩ := key
  rw [← h2]
  simp only [cmp_Or, c_cmp_Or, show (([D.int a, D.int b] : List D).length : Int) = 2 from rfl, h1, Option.bind_some]
  cases y <;> rfl


def ltP (x y x' y' : Int) : Prop := x < x' ∨ (x = x' ∧ y < y')
instance (x y x' y' : Int) : Decidable (ltP x y x' y') := by unfold ltP; infer_instance

theorem before_eq (x y x' y' : Int) : spec_l18Before x y x' y' = some (decide (ltP x y x' y')) := by
  unfold spec_l18Before c_spec_l18Before ltP
  by_cases h : x < x'
  · simp [h]
  · by_cases h2 : x = x'
    · simp [h2]
    · simp [h, h2]

theorem cmpC_eq (x y x' y' : Int) : ∃ c, impl_compareCorners x y x' y' = some c ∧ (c < 0 ↔ ltP x y x' y') := by
  simp only [impl_compareCorners, c_impl_compareCorners, compare_eq, or_eq, Option.bind_some]
  refine ⟨_, rfl, ?_⟩
  unfold cmpV ltP
  by_cases d1 : x < x'
  · simp [d1]
  · by_cases d2 : x' < x
    · simp [d1, d2]; omega
    · by_cases d3 : y < y'
      · simp [d1, d2, d3]; omega
      · by_cases d4 : y' < y
        · simp [d1, d2, d3, d4]
        · simp [d1, d2, d3, d4]

theorem el {l : List D} (w : ∀ d ∈ l, wfD tC d) {i : Nat} (h : i < l.length) : l[i]?.getD (.int 0) = .node [.int (cX l i), .int (cY l i)] := by
  obtain ⟨a, b, hd⟩ := tC_wf (w _ (get_mem h))
  unfold cX cY
  rw [hd]
  rfl

def isMin (l : List D) (k : Nat) : Prop := k < l.length ∧ ∀ j, j < l.length → ¬ ltP (cX l j) (cY l j) (cX l k) (cY l k)
def apart2 (l : List D) : Prop := ∀ i j, i < l.length → j < l.length → cX l i = cX l j → cY l i = cY l j → i = j

theorem min_uniq {l : List D} (ha : apart2 l) {i j : Nat} (hi : isMin l i) (hj : isMin l j) : i = j := by
  have h1 := hi.2 j hj.1
  have h2 := hj.2 i hi.1
  unfold ltP at h1 h2
  exact ha i j hi.1 hj.1 (by omega) (by omega)

theorem valid_apart {l : List D} (h : implB l = true) : 3 ≤ l.length ∧ l.length ≤ 12 ∧ apart2 l := by
  rw [← poly_same] at h
  unfold specB at h
  rw [Bool.and_eq_true, Bool.and_eq_true, btw_iff, firstN_iff] at h
  obtain ⟨h1, h2, _⟩ := h
  have key : ∀ i j, j < i → i < l.length → cX l i = cX l j → cY l i = cY l j → False := by
    intro i j hji hi hx hy
    have := h2 i hi
    unfold p5 at this
    rw [Bool.or_eq_false_iff] at this
    have h3 := this.2
    rw [Bool.not_eq_false', firstN_iff] at h3
    have h4 := h3 j hji
    simp [same2, hx, hy] at h4
  refine ⟨by omega, by omega, fun i j hi hj hx hy => ?_⟩
  rcases Nat.lt_trichotomy i j with h | h | h
  · exact (key j i h hj hx.symm hy.symm).elim
  · exact h
  · exact (key i j h hi hx hy).elim

theorem sN6 (l : List D) (h3 : 3 ≤ l.length) (hl : l.length ≤ 12) : ∃ at' : Nat, spec_NormalForm_L6 l l.length 0 1 = some (l, (l.length : Int), (at' : Int)) ∧ isMin l at' := by
  obtain ⟨y, h1, h2⟩ := loop_post (N := fun m (s : Nat × Nat) => n_spec_NormalForm_L6 m l l.length (s.1 : Int) (s.2 : Int)) (fun s => 1 ≤ s.2 ∧ s.2 ≤ l.length ∧ s.1 < s.2 ∧ ∀ j, j < s.2 → ¬ ltP (cX l j) (cY l j) (cX l s.1) (cY l s.1)) (fun s => l.length - s.2)
    (fun s y => ∃ k : Nat, y = (l, (l.length : Int), (k : Int)) ∧ isMin l k) (by
    rintro ⟨k, i⟩ ⟨hi1, hi, hk, hmin⟩
    simp only at hi1 hi hk hmin ⊢
    by_cases hlt : i < l.length
    · have e1 : (i : Int) < l.length := by omega
      have e2 : (k : Int) < l.length := by omega
      have hw : IntKind.i64.wrap ((i : Int) + 1) = ((i + 1 : Nat) : Int) := succ_wrap (by omega)
      by_cases hb : ltP (cX l i) (cY l i) (cX l k) (cY l k)
      · refine .inr ⟨(i, i + 1), ⟨by simp, by simp; omega, by simp, fun j hj => ?_⟩, by simp; omega, fun y hy => hy, fun m => ?_⟩
        · simp only at hj ⊢
          by_cases hji : j = i
          · subst hji; unfold ltP; omega
          · have := hmin j (by omega)
            unfold ltP at this hb ⊢
            omega
        · have hb' : ltP ((l[i]?.getD (.int 0)).fld 0).toInt ((l[i]?.getD (.int 0)).fld 1).toInt ((l[k]?.getD (.int 0)).fld 0).toInt ((l[k]?.getD (.int 0)).fld 1).toInt := hb
          simp only [n_spec_NormalForm_L6, c_spec_NormalForm_L6, e1, e2, decide_true, cond_true, Int.natCast_nonneg, and_self, if_true, Int.toNat_natCast, List.getD_eq_getElem?_getD, before_eq, hb', Option.bind_some, hw]
          cases n_spec_NormalForm_L6 m l l.length (i : Int) ((i + 1 : Nat) : Int) <;> rfl
      · refine .inr ⟨(k, i + 1), ⟨by simp, by simp; omega, by simp; omega, fun j hj => ?_⟩, by simp; omega, fun y hy => hy, fun m => ?_⟩
        · simp only at hj ⊢
          by_cases hji : j = i
          · subst hji; exact hb
          · exact hmin j (by omega)
        · have hb' : ¬ ltP ((l[i]?.getD (.int 0)).fld 0).toInt ((l[i]?.getD (.int 0)).fld 1).toInt ((l[k]?.getD (.int 0)).fld 0).toInt ((l[k]?.getD (.int 0)).fld 1).toInt := hb
          simp only [n_spec_NormalForm_L6, c_spec_NormalForm_L6, e1, e2, decide_true, cond_true, Int.natCast_nonneg, and_self, if_true, Int.toNat_natCast, List.getD_eq_getElem?_getD, before_eq, hb', decide_false, cond_false, Option.bind_some, hw]
          cases n_spec_NormalForm_L6 m l l.length (k : Int) ((i + 1 : Nat) : Int) <;> rfl
    · have hi' : i = l.length := by omega
      subst hi'
      exact .inl ⟨_, ⟨k, rfl, hk, hmin⟩, fun m => by simp [n_spec_NormalForm_L6, c_spec_NormalForm_L6]⟩) (0, 1) ⟨by simp, by simp; omega, by simp, fun j hj => by
        simp only at hj ⊢
        have : j = 0 := by omega
        subst this; unfold ltP; omega⟩
  obtain ⟨k, rfl, hk⟩ := h2
  exact ⟨k, h1, hk⟩

theorem sN15 (l : List D) (w : ∀ d ∈ l, wfD tC d) (h3 : 3 ≤ l.length) (hl : l.length ≤ 12) (k step : Nat) (hk : k < l.length) (hs : step ≤ 12) : spec_NormalForm_L15 l l.length k step 0 [] = some ((List.range' 0 l.length).map (fun i => l[(k + i * step) % l.length]?.getD (.int 0))) := by
  refine (app_loop (N := fun m i acc => n_spec_NormalForm_L15 m l l.length k step i acc) (n := l.length) (c := 1) (base := 0) (out := fun acc => acc) (fun i => [l[(k + i * step) % l.length]?.getD (.int 0)]) (fun i _ => by simp) (fun m i acc hi hacc => ?_) (fun m acc _ => ?_) 0 [] (by omega) (by simp)).trans (by simp [flatMap_single])
  · have e1 : (i : Int) < l.length := by omega
    have e2 : (l.length : Int) ≠ 0 := by omega
    have hm : (k + i * step) % l.length < l.length := Nat.mod_lt _ (by omega)
    have hmul : i * step ≤ 12 * 12 := Nat.mul_le_mul (by omega) hs
    have hw : IntKind.i64.wrap ((i : Int) + 1) = ((i + 1 : Nat) : Int) := succ_wrap (by omega)
    have w1 : IntKind.i64.wrap ((i : Int) * (step : Int)) = ((i * step : Nat) : Int) := by rw [← Int.natCast_mul]; exact wrap_id (by omega) (by omega)
    have w2 : IntKind.i64.wrap ((k : Int) + ((i * step : Nat) : Int)) = ((k + i * step : Nat) : Int) := by rw [wrap_id (by omega) (by omega)]; omega
    have e3 : (((k + i * step) % l.length : Nat) : Int) < l.length := by omega
    have hlen : acc.length + 1 ≤ 4294967296 := by omega
    have hel : (D.node [.int ((l[(k + i * step) % l.length]?.getD (.int 0)).fld 0).toInt, .int ((l[(k + i * step) % l.length]?.getD (.int 0)).fld 1).toInt]) = l[(k + i * step) % l.length]?.getD (.int 0) := (el w hm).symm
    simp only [n_spec_NormalForm_L15, c_spec_NormalForm_L15, e1, e2, decide_true, cond_true, ne_eq, not_false_eq_true, if_true, w1, w2, tmod_nat, e3, Int.natCast_nonneg, and_self, Int.toNat_natCast, List.getD_eq_getElem?_getD, hel, List.length_singleton, hlen, hw]
    exact Option.bind_fun_some _
  · simp [n_spec_NormalForm_L15, c_spec_NormalForm_L15]

theorem min5 (l : List D) (h1 : 1 ≤ l.length) (hl : l.length ≤ 12) : ∃ k, isMin l k ∧ slices_MinFunc__impl_compareCorners l = some (cX l k, cY l k) := by
  obtain ⟨y, h1', h2⟩ := loop_post (N := fun m (s : Nat × Nat) => n_slices_MinFunc_L5 m l (s.2 : Int) 0 0 (cX l s.1) (cY l s.1)) (fun s => 1 ≤ s.2 ∧ s.2 ≤ l.length ∧ s.1 < s.2 ∧ ∀ j, j < s.2 → ¬ ltP (cX l j) (cY l j) (cX l s.1) (cY l s.1)) (fun s => l.length - s.2)
    (fun s y => ∃ k : Nat, y = (0, 0, cX l k, cY l k) ∧ isMin l k) (by
    rintro ⟨k, i⟩ ⟨hi1, hi, hk, hmin⟩
    simp only at hi1 hi hk hmin ⊢
    by_cases hlt : i < l.length
    · have e1 : (i : Int) < l.length := by omega
      have hw : IntKind.i64.wrap ((i : Int) + 1) = ((i + 1 : Nat) : Int) := succ_wrap (by omega)
      obtain ⟨c, hc1, hc2⟩ := cmpC_eq ((l[i]?.getD (.int 0)).fld 0).toInt ((l[i]?.getD (.int 0)).fld 1).toInt (cX l k) (cY l k)
      have hc2' : c < 0 ↔ ltP (cX l i) (cY l i) (cX l k) (cY l k) := hc2
      by_cases hb : c < 0
      · have hb2 := hc2'.1 hb
        refine .inr ⟨(i, i + 1), ⟨by simp, by simp; omega, by simp, fun j hj => ?_⟩, by simp; omega, fun y hy => hy, fun m => ?_⟩
        · simp only at hj ⊢
          by_cases hji : j = i
          · subst hji; unfold ltP; omega
          · have := hmin j (by omega)
            unfold ltP at this hb2 ⊢
            omega
        · simp only [n_slices_MinFunc_L5, c_slices_MinFunc_L5, e1, decide_true, cond_true, Int.natCast_nonneg, and_self, if_true, Int.toNat_natCast, List.getD_eq_getElem?_getD, hc1, hb, Option.bind_some, hw]
          exact Option.bind_fun_some _
      · have hb2 : ¬ ltP (cX l i) (cY l i) (cX l k) (cY l k) := fun h => hb (hc2'.2 h)
        refine .inr ⟨(k, i + 1), ⟨by simp, by simp; omega, by simp; omega, fun j hj => ?_⟩, by simp; omega, fun y hy => hy, fun m => ?_⟩
        · simp only at hj ⊢
          by_cases hji : j = i
          · subst hji; exact hb2
          · exact hmin j (by omega)
        · simp only [n_slices_MinFunc_L5, c_slices_MinFunc_L5, e1, decide_true, cond_true, Int.natCast_nonneg, and_self, if_true, Int.toNat_natCast, List.getD_eq_getElem?_getD, hc1, hb, decide_false, cond_false, Option.bind_some, hw]
          exact Option.bind_fun_some _
    · have hi' : i = l.length := by omega
      subst hi'
      exact .inl ⟨_, ⟨k, rfl, hk, hmin⟩, fun m => by simp [n_slices_MinFunc_L5, c_slices_MinFunc_L5]⟩) (0, 1) ⟨by simp, by simp; omega, by simp, fun j hj => by
        simp only at hj ⊢
        have : j = 0 := by omega
        subst this; unfold ltP; omega⟩
  obtain ⟨k, rfl, hk⟩ := h2
  refine ⟨k, hk, ?_⟩
  have e0 : ¬ (l.length : Int) < 1 := by omega
  have e0' : (0 : Int) < l.length := by omega
  have h5 : slices_MinFunc_L5 l 1 0 0 (cX l 0) (cY l 0) = some (0, 0, cX l k, cY l k) := h1'
  have h5' : slices_MinFunc_L5 l 1 0 0 ((l[0]?.getD (D.int 0)).fld 0).toInt ((l[0]?.getD (D.int 0)).fld 1).toInt = some (0, 0, cX l k, cY l k) := h5
  simp only [slices_MinFunc__impl_compareCorners, c_slices_MinFunc__impl_compareCorners, e0, e0', decide_false, cond_false, Int.le_refl, and_self, if_true, List.getD_eq_getElem?_getD, Int.toNat_zero]
  have hz : (Int.toNat 0) = 0 := rfl
  first
    | rw [h5']; rfl
    | (simp only [hz, h5', Option.bind_some])

theorem index_eq (l : List D) (hl : l.length ≤ 12) (ha : apart2 l) (k : Nat) (hk : k < l.length) : slices_Index l (cX l k) (cY l k) = some (k : Int) := by
  let p : Nat → Bool := fun i => decide (cX l k = cX l i) && (decide (cY l k = cY l i) && true)
  have h2 : slices_Index_L2 l l.length 0 (cX l k) (cY l k) = some (match firstN p l.length with | some i => .inl (i : Int) | none => .inr ()) := by
    refine scan_loop (N := fun m i => n_slices_Index_L2 m l l.length i (cX l k) (cY l k)) p (fun i => .inl (i : Int)) (fun m i hi => ?_) (fun m => ?_)
    · have e1 : (i : Int) < l.length := by omega
      have hw : IntKind.i64.wrap ((i : Int) + 1) = (i : Int) + 1 := wrap_id (by omega) (by omega)
      have hx : ((l[i]?.getD (D.int 0)).fld 0).toInt = cX l i := rfl
      have hy : ((l[i]?.getD (D.int 0)).fld 1).toInt = cY l i := rfl
      simp only [n_slices_Index_L2, c_slices_Index_L2, e1, decide_true, cond_true, Int.natCast_nonneg, and_self, if_true, Int.toNat_natCast, List.getD_eq_getElem?_getD, hw, hx, hy, p]
      cases (decide (cX l k = cX l i) && (decide (cY l k = cY l i) && true)) with
      | true => rfl
      | false => exact Option.bind_fun_some _
    · simp [n_slices_Index_L2, c_slices_Index_L2]
  have hf : firstN p l.length = some k := by
    unfold firstN
    rw [List.find?_range_eq_some]
    refine ⟨by simp [p], List.mem_range.2 hk, fun j hj => ?_⟩
    simp only [p, Bool.not_eq_true', Bool.and_true]
    cases hx : decide (cX l k = cX l j) with
    | false => simp
    | true =>
      cases hy : decide (cY l k = cY l j) with
      | false => simp
      | true =>
        have := ha k j hk (by omega) (of_decide_eq_true hx) (of_decide_eq_true hy)
        omega
  simp only [slices_Index, c_slices_Index, h2, hf, Option.bind_some, Sum.elim_inl]

theorem concat_eq (a b : List D) (ha : a.length ≤ 12) (hb : b.length ≤ 12) (h0 : 0 < a.length + b.length) : slices_Concat [.node a, .node b] = some (a ++ b) := by
  have w1 : IntKind.i64.wrap (a.length : Int) = (a.length : Int) := wrap_id (by omega) (by omega)
  have w2 : IntKind.i64.wrap ((a.length : Int) + (b.length : Int)) = (a.length : Int) + (b.length : Int) := wrap_id (by omega) (by omega)
  have w3 : IntKind.i64.wrap 1 = 1 := by decide
  have w4 : IntKind.i64.wrap 2 = 2 := by decide
  have w5 : IntKind.i64.wrap 0 = 0 := by decide
  have e1 : ¬ (a.length : Int) < 0 := by omega
  have e2 : ¬ (a.length : Int) + (b.length : Int) < 0 := by omega
  have e3 : (0 : Int) < (a.length : Int) + (b.length : Int) := by omega
  have e4 : (a.length : Int) + (b.length : Int) ≤ 4294967296 := by omega
  have e5 : (0 : Int) ≤ (a.length : Int) + (b.length : Int) := by omega
  have h3 : slices_Concat_L3 [.node a, .node b] 0 [.node a, .node b] 2 0 = some ([.node a, .node b], (a.length : Int) + (b.length : Int)) := by
    refine ev_eq (f := fun m => n_slices_Concat_L3 m [.node a, .node b] 0 [.node a, .node b] 2 0) 3 (fun m hm => ?_)
    obtain ⟨m, rfl⟩ : ∃ m', m = m' + 3 := ⟨m - 3, by omega⟩
    simp [n_slices_Concat_L3, c_slices_Concat_L3, items_node, w1, w2, w3, w4, e1, e2]
  have h11 : slices_Concat_L11 [.node a, .node b] 2 0 [] = some (a ++ b) := by
    refine ev_eq (f := fun m => n_slices_Concat_L11 m [.node a, .node b] 2 0 []) 3 (fun m hm => ?_)
    obtain ⟨m, rfl⟩ : ∃ m', m = m' + 3 := ⟨m - 3, by omega⟩
    have f1 : a.length ≤ 4294967296 := by omega
    have f2 : a.length + b.length ≤ 4294967296 := by omega
    simp [n_slices_Concat_L11, c_slices_Concat_L11, items_node, w3, w4, f1, f2]
  have hg : slices_Grow ((a.length : Int) + (b.length : Int)) = some [] := by
    simp [slices_Grow, c_slices_Grow, e2, w5, w2, e3, e4, e5]
    omega
  simp only [slices_Concat, c_slices_Concat, show (([D.node a, D.node b] : List D).length : Int) = 2 from rfl, h3, hg, h11, Option.bind_some]

theorem rev_eq (l : List D) (w : ∀ d ∈ l, wfD tC d) (h1 : 1 ≤ l.length) (hl : l.length ≤ 12) : slices_Reverse l = some l.reverse := by
  obtain ⟨y, h1', h2⟩ := loop_post (N := fun m (s : Nat × List D) => n_slices_Reverse_L1 m (s.1 : Int) ((l.length : Int) - 1 - (s.1 : Int)) s.2) (fun s => 2 * s.1 ≤ l.length + 1 ∧ s.2.length = l.length ∧ ∀ k, k < l.length → s.2[k]? = if k < s.1 ∨ l.length ≤ k + s.1 then l[l.length - 1 - k]? else l[k]?) (fun s => l.length - s.1)
    (fun s y => y = l.reverse) (by
    rintro ⟨i, acc⟩ ⟨hi, hlen, hacc⟩
    simp only at hi hlen hacc ⊢
    by_cases hlt : (i : Int) < (l.length : Int) - 1 - (i : Int)
    · have hw : IntKind.i64.wrap ((i : Int) + 1) = ((i + 1 : Nat) : Int) := succ_wrap (by omega)
      have hw2 : IntKind.i64.wrap ((l.length : Int) - 1 - (i : Int) - 1) = (l.length : Int) - 1 - ((i + 1 : Nat) : Int) := by rw [wrap_id (by omega) (by omega)]; omega
      obtain ⟨j, hj⟩ : ∃ j : Nat, (l.length : Int) - 1 - (i : Int) = (j : Int) := ⟨l.length - 1 - i, by omega⟩
      have hjn : j = l.length - 1 - i := by omega
      have c1 : (j : Int) < acc.length := by omega
      have c1' : j + 1 ≤ acc.length := by omega
      have c2 : (i : Int) < acc.length := by omega
      have c2' : i + 1 ≤ acc.length := by omega
      have gi := hacc i (by omega)
      have gj := hacc j (by omega)
      rw [if_neg (by omega)] at gi gj
      have ei : (D.node [.int ((acc[i]?.getD (.int 0)).fld 0).toInt, .int ((acc[i]?.getD (.int 0)).fld 1).toInt]) = l[i]?.getD (.int 0) := by rw [gi]; exact (el w (by omega)).symm
      have ej : (D.node [.int ((acc[j]?.getD (.int 0)).fld 0).toInt, .int ((acc[j]?.getD (.int 0)).fld 1).toInt]) = l[j]?.getD (.int 0) := by rw [gj]; exact (el w (by omega)).symm
      refine .inr ⟨(i + 1, (acc.set i (l[j]?.getD (.int 0))).set j (l[i]?.getD (.int 0))), ⟨by simp; omega, by simp [hlen], fun k hk => ?_⟩, by simp; omega, fun y hy => hy, fun m => ?_⟩
      · simp only
        rw [List.getElem?_set, List.getElem?_set]
        have hli : i < l.length := by omega
        have hlj : j < l.length := by omega
        by_cases hkj : j = k
        · subst hkj
          rw [if_pos rfl, if_pos (by simp; omega), if_pos (by omega), show l.length - 1 - j = i by omega, List.getElem?_eq_getElem hli]; rfl
        · rw [if_neg hkj]
          by_cases hki : i = k
          · subst hki
            rw [if_pos rfl, if_pos (by omega), if_pos (by omega), ← hjn, List.getElem?_eq_getElem hlj]; rfl
          · rw [if_neg hki, hacc k hk]
            by_cases hq : k < i ∨ l.length ≤ k + i
            · rw [if_pos hq, if_pos (by omega)]
            · rw [if_neg hq, if_neg (by omega)]
      · rw [hj] at hlt hw2 ⊢
        simp only [n_slices_Reverse_L1, c_slices_Reverse_L1, hlt, c1, c1', c2, c2', decide_true, cond_true, Int.natCast_nonneg, and_self, if_true, Int.toNat_natCast, List.getD_eq_getElem?_getD, List.length_set, ei, ej, hw, hw2]
        exact Option.bind_fun_some _
    · refine .inl ⟨acc, ?_, fun m => by simp [n_slices_Reverse_L1, c_slices_Reverse_L1, hlt]⟩
      apply List.ext_getElem?
      intro k
      by_cases hk : k < l.length
      · rw [hacc k hk, List.getElem?_reverse hk]
        by_cases hq : k < i ∨ l.length ≤ k + i
        · rw [if_pos hq]
        · rw [if_neg hq, show l.length - 1 - k = k by omega]
      · rw [List.getElem?_eq_none (by omega), List.getElem?_eq_none (by simp; omega)]) (0, l) ⟨by simp, rfl, fun k hk => by simp; omega⟩
  subst h2
  have hw0 : IntKind.i64.wrap ((l.length : Int) - 1) = (l.length : Int) - 1 := wrap_id (by omega) (by omega)
  have h1'' : slices_Reverse_L1 0 ((l.length : Int) - 1) l = some l.reverse := by
    show ev _ = _
    simpa using h1'
  simp only [slices_Reverse, c_slices_Reverse, hw0, h1'', Option.bind_some]

theorem rev_at {l : List D} {k : Nat} (h : k < l.length) : l.reverse[k]?.getD (.int 0) = l[l.length - 1 - k]?.getD (.int 0) := by rw [List.getElem?_reverse h]
theorem rev_cX {l : List D} {k : Nat} (h : k < l.length) : cX l.reverse k = cX l (l.length - 1 - k) ∧ cY l.reverse k = cY l (l.length - 1 - k) := by
  unfold cX cY
  rw [rev_at h]
  exact ⟨rfl, rfl⟩

theorem tail_eq (o : List D) (hl : o.length ≤ 12) (h1 : 1 ≤ o.length) (ha : apart2 o) : ∃ k, isMin o k ∧ slices_MinFunc__impl_compareCorners o = some (cX o k, cY o k) ∧ slices_Index o (cX o k) (cY o k) = some (k : Int) ∧
    slices_Concat [.node (List.take (o.length - k) (List.drop k o)), .node (List.take k o)] = some (o.drop k ++ o.take k) := by
  obtain ⟨k, h1', h2⟩ := min5 o h1 hl
  have hk := h1'.1
  refine ⟨k, h1', h2, index_eq o hl ha k hk, ?_⟩
  have e : List.take (o.length - k) (List.drop k o) = o.drop k := List.take_of_length_le (by simp)
  rw [e]
  exact concat_eq _ _ (by simp; omega) (by simp; omega) (by simp; omega)

theorem rot_eq (l : List D) (k : Nat) (hk : k < l.length) : l.drop k ++ l.take k = (List.range' 0 l.length).map (fun i => l[(k + i * 1) % l.length]?.getD (.int 0)) := by
  apply List.ext_getElem
  · simp; omega
  · intro i h1 h2
    have hi : i < l.length := by simpa using h2
    simp only [List.getElem_map, List.getElem_range', Nat.zero_add, Nat.mul_one, Nat.one_mul]
    by_cases hq : i < l.length - k
    · rw [List.getElem_append_left (by simpa using hq), List.getElem_drop, Nat.mod_eq_of_lt (by omega), List.getElem?_eq_getElem (by omega)]; rfl
    · rw [List.getElem_append_right (by simp; omega), List.getElem_take]
      have e : (k + i) % l.length = i - (l.length - k) := by
        rw [show k + i = (i - (l.length - k)) + l.length by omega, Nat.add_mod_right, Nat.mod_eq_of_lt (by omega)]
      simp only [List.length_drop]
      rw [e, List.getElem?_eq_getElem (by omega)]; rfl

theorem rotr_eq (l : List D) (k : Nat) (hk : k < l.length) : l.reverse.drop (l.length - 1 - k) ++ l.reverse.take (l.length - 1 - k) = (List.range' 0 l.length).map (fun i => l[(k + i * (l.length - 1)) % l.length]?.getD (.int 0)) := by
  have h := rot_eq l.reverse (l.length - 1 - k) (by simp; omega)
  rw [h, List.length_reverse]
  apply List.map_congr_left
  intro i hi
  have hi' : i < l.length := by simpa using hi
  have hm : (l.length - 1 - k + i * 1) % l.length < l.length := Nat.mod_lt _ (by omega)
  rw [rev_at hm]
  have e : l.length - 1 - (l.length - 1 - k + i * 1) % l.length = (k + i * (l.length - 1)) % l.length := by
    have e0 : i * (l.length - 1) = i * l.length - i := by rw [Nat.mul_sub, Nat.mul_one]
    have hle : i ≤ i * l.length := Nat.le_mul_of_pos_right i (by omega)
    by_cases hq : i ≤ k
    · rw [show l.length - 1 - k + i * 1 = l.length - 1 - (k - i) by omega, Nat.mod_eq_of_lt (by omega), e0, show k + (i * l.length - i) = (k - i) + i * l.length by omega, Nat.add_mul_mod_self_right, Nat.mod_eq_of_lt (by omega)]
      omega
    · have hi1 : 1 ≤ i := by omega
      have e2 : i * l.length = (i - 1) * l.length + l.length := by rw [← Nat.succ_mul]; congr 1; omega
      rw [show l.length - 1 - k + i * 1 = (i - 1 - k) + l.length by omega, Nat.add_mod_right, Nat.mod_eq_of_lt (by omega), e0, e2, show k + ((i - 1) * l.length + l.length - i) = (l.length + k - i) + (i - 1) * l.length by omega, Nat.add_mul_mod_self_right, Nat.mod_eq_of_lt (by omega)]
      omega
  rw [e]

theorem nf_same (l : List D) (w : ∀ d ∈ l, wfD tC d) : ∃ y, spec_NormalForm l = some y ∧ impl_NormalForm l = some y ∧ y.1.length ≤ 1048576 := by
  simp only [spec_NormalForm, c_spec_NormalForm, impl_NormalForm, c_impl_NormalForm, good_eq, valid_eq, poly_same, Option.bind_some]
  cases hb : implB l with
  | false => exact ⟨_, rfl, rfl, by simp⟩
  | true =>
    obtain ⟨h3, h12, ha⟩ := valid_apart hb
    obtain ⟨k, hs6, hk⟩ := sN6 l h3 h12
    obtain ⟨ar, hA1, hA2⟩ := area_same l h12
    have hclone : slices_Clone l = some l := by
      have e1 : 1 ≤ l.length := by omega
      have e2 : l.length ≤ 4294967296 := by omega
      simp [slices_Clone, c_slices_Clone, e1, e2]
    have hw1 : IntKind.i64.wrap ((l.length : Int) - 1) = ((l.length - 1 : Nat) : Int) := pred_wrap (by omega) (by omega)
    simp only [Bool.not_true, cond_false, hs6, Option.bind_some, hA1, hA2, hclone, hw1]
    by_cases hneg : ar < 0
    · have hrl : l.reverse.length = l.length := List.length_reverse
      have har : apart2 l.reverse := by
        intro i j hi hj hx hy
        rw [hrl] at hi hj
        rw [(rev_cX hi).1, (rev_cX hj).1] at hx
        rw [(rev_cX hi).2, (rev_cX hj).2] at hy
        have := ha _ _ (by omega) (by omega) hx hy
        omega
      obtain ⟨q, q1, q2, q3, q4⟩ := tail_eq l.reverse (by omega) (by omega) har
      have hq := q1.1
      rw [hrl] at hq
      have hqk : l.length - 1 - q = k := by
        refine min_uniq ha ⟨by omega, fun j hj => ?_⟩ hk
        have := q1.2 (l.length - 1 - j) (by rw [hrl]; omega)
        rw [(rev_cX (show l.length - 1 - j < l.length by omega)).1, (rev_cX (show l.length - 1 - j < l.length by omega)).2, (rev_cX hq).1, (rev_cX hq).2, show l.length - 1 - (l.length - 1 - j) = j by omega] at this
        exact this
      have e1 : (q : Int) ≤ l.length := by omega
      have e2 : q + (l.length - q) ≤ l.length := by omega
      have e3 : q ≤ l.length := by omega
      rw [hrl] at q4
      simp only [hneg, decide_true, cond_true, sN15 l w h3 h12 k (l.length - 1) hk.1 (by omega), rev_eq l w (by omega) h12, q2, q3, Option.bind_some, hrl, Int.natCast_nonneg, e1, Int.le_refl, and_self, if_true, Int.toNat_natCast, Int.toNat_zero, e2, e3, Nat.zero_add, Nat.sub_zero, List.drop_zero, q4]
      refine ⟨_, rfl, ?_, by simp; omega⟩
      rw [show q = l.length - 1 - k by omega, rotr_eq l k hk.1]
    · obtain ⟨q, q1, q2, q3, q4⟩ := tail_eq l h12 (by omega) ha
      have hq := q1.1
      have hqk := min_uniq ha q1 hk
      subst hqk
      have e1 : (q : Int) ≤ l.length := by omega
      have e2 : q + (l.length - q) ≤ l.length := by omega
      have e3 : q ≤ l.length := by omega
      have h15 := sN15 l w h3 h12 q 1 hk.1 (by omega)
      have h15' : spec_NormalForm_L15 l l.length q 1 0 [] = _ := h15
      simp only [hneg, decide_false, cond_false, h15', q2, q3, Option.bind_some, Int.natCast_nonneg, e1, Int.le_refl, and_self, if_true, Int.toNat_natCast, Int.toNat_zero, e2, e3, Nat.zero_add, Nat.sub_zero, List.drop_zero, q4]
      refine ⟨_, rfl, ?_, by simp; omega⟩
      rw [rot_eq l q hq]

theorem pure_FnExactNormalForm (x0 : List D) (h0 : x0.length ≤ maxLen) (w0 : ∀ d ∈ x0, wfD (.struct [.int .i64, .int .i64]) d) : laws_FnExactNormalForm x0 = some true := by
  unfold maxLen at h0
  have hw : IntKind.i64.wrap (1048576 - (x0.length : Int)) = 1048576 - (x0.length : Int) := wrap_id (by omega) (by omega)
  by_cases hl : x0.length ≤ 1048576
  · have h2 : ¬ (1048576 - (x0.length : Int)) < 0 := by omega
    obtain ⟨y, hb1, hb2, hb3⟩ := nf_same x0 w0
    have e1 : ¬ (1 + 2 * (x0.length : Int)) < 0 := by omega
    have e2 : ¬ (1 + 2 * (y.1.length : Int)) < 0 := by omega
    simp [laws_FnExactNormalForm, c_laws_FnExactNormalForm, laws_szCornerS, c_laws_szCornerS, hw, h2, toCornerS_id x0 hl w0, hb1, hb2, eqCornerS_self x0 hl, eqCornerS_self y.1 hb3, markCornerS_eq x0 hl, markCornerS_eq y.1 hb3, heldCornerS_eq y.1.length hb3, e1, e2]
  · have h2 : (1048576 - (x0.length : Int)) < 0 := by omega
    simp [laws_FnExactNormalForm, c_laws_FnExactNormalForm, laws_szCornerS, c_laws_szCornerS, hw, h2]

end Go.Proofs.Yticcpkmednijlaa
