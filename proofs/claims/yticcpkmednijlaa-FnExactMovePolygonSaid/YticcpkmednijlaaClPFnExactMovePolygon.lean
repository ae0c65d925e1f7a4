/- The law FnExactMovePolygon over plain values. No condition beside those of the statement. -/
import Derived.Test.YticcpkmednijlaaClMFnExactMovePolygon
import Derived.Test.YticcpkmednijlaaRaiU5
set_option linter.unusedVariables false
set_option linter.unusedSimpArgs false
set_option maxRecDepth 100000
namespace Go.Proofs.Yticcpkmednijlaa
open Go Go.Rai

abbrev tC : Ty := .struct [.int .i64, .int .i64]

theorem tC_wf {d : D} (h : wfD tC d) : ∃ a b : Int, d = .node [.int a, .int b] := by
  obtain ⟨l, rfl, x1, r1, rfl, ⟨a, rfl, _⟩, x2, r2, rfl, ⟨b, rfl, _⟩, h⟩ := h
  obtain rfl := h
  exact ⟨a, b, rfl⟩

theorem toCornerS_id (l : List D) (hl : l.length ≤ 1048576) (w : ∀ d ∈ l, wfD tC d) : laws_toCornerS l = some l := by
  have key : laws_toCornerS_L3 l 0 (List.replicate l.length (.node [.int 0, .int 0])) = some l := by
    refine copy_loop (N := n_laws_toCornerS_L3) (fun m i acc hi hacc => ?_) (fun m acc hacc => ?_)
    · obtain ⟨a, b, hd⟩ := tC_wf (w _ (get_mem hi))
      have hw : IntKind.i64.wrap ((i : Int) + 1) = (i : Int) + 1 := wrap_id (by omega) (by omega)
      have h2 : (i : Int) < acc.length := by omega
      have h3 : i + 1 ≤ acc.length := by omega
      have h1 : (i : Int) < l.length := by omega
      simp [n_laws_toCornerS_L3, c_laws_toCornerS_L3, laws_toCorner, c_laws_toCorner, h1, h2, h3, hw, hd, fld_node, toInt_int]
    · simp [n_laws_toCornerS_L3, c_laws_toCornerS_L3]
  have h4 : (l.length : Int) ≤ 4294967296 := by omega
  simp [laws_toCornerS, c_laws_toCornerS, key, h4]

theorem eqCornerS_self (l : List D) (hl : l.length ≤ 1048576) : laws_eqCornerS l l = some true := by
  have key : laws_eqCornerS_L4 l l 0 = some (.inr ()) := by
    refine all_loop (N := fun n i => n_laws_eqCornerS_L4 n l l i) (len := l.length) (fun m i hi => ?_) (fun m => ?_)
    · have hw : IntKind.i64.wrap ((i : Int) + 1) = (i : Int) + 1 := wrap_id (by omega) (by omega)
      have h1 : (i : Int) < l.length := by omega
      simp [n_laws_eqCornerS_L4, c_laws_eqCornerS_L4, laws_eqCorner, c_laws_eqCorner, h1, hw]
    · simp [n_laws_eqCornerS_L4, c_laws_eqCornerS_L4]
  simp [laws_eqCornerS, c_laws_eqCornerS, key]

theorem l1In_eq (x a b : Int) : spec_l1In x a b = some (btw x a b) := by
  unfold spec_l1In c_spec_l1In btw
  by_cases h : a ≤ x <;> simp [h]
theorem within_eq (x a b : Int) : impl_within x a b = some (btw x a b) := by
  unfold impl_within c_impl_within btw
  by_cases h : a ≤ x <;> simp [h]


theorem firstN_iff {p : Nat → Bool} {len : Nat} : (firstN p len).isNone = true ↔ ∀ j, j < len → p j = false := by
  constructor
  · intro h j hj
    cases hf : firstN p len with
    | none => exact firstN_none hf j hj
    | some i => rw [hf] at h; cases h
  · intro h
    cases hf : firstN p len with
    | none => rfl
    | some i => obtain ⟨h1, h2, _⟩ := firstN_some hf; rw [h i h1] at h2; cases h2

def cX (l : List D) (i : Nat) : Int := ((l[i]?.getD (.int 0)).fld 0).toInt
def cY (l : List D) (i : Nat) : Int := ((l[i]?.getD (.int 0)).fld 1).toInt

def turnW (a b c d e f : Int) : Int := IntKind.i64.wrap (IntKind.i64.wrap (IntKind.i64.wrap (c - a) * IntKind.i64.wrap (f - b)) - IntKind.i64.wrap (IntKind.i64.wrap (d - b) * IntKind.i64.wrap (e - a)))
def loW (a b : Int) : Int := if a ≤ b then a else b
def hiW (a b : Int) : Int := if a ≤ b then b else a
def onB (a b c d e f : Int) : Bool := decide (turnW a b c d e f = 0) && (btw e (loW a c) (hiW a c) && btw f (loW b d) (hiW b d))
def sgnW (x : Int) : Int := if 0 < x then 1 else if x < 0 then -1 else 0
def meetB (a b c d e f g h : Int) : Bool :=
  onB a b c d e f || (onB a b c d g h || (onB e f g h a b || (onB e f g h c d ||
    (decide (IntKind.i64.wrap (sgnW (turnW a b c d e f) * sgnW (turnW a b c d g h)) < 0) && decide (IntKind.i64.wrap (sgnW (turnW e f g h a b) * sgnW (turnW e f g h c d)) < 0)))))

theorem meetB_swap (a b c d e f g h : Int) : meetB a b c d e f g h = meetB e f g h a b c d := by
  unfold meetB
  generalize onB a b c d e f = x1
  generalize onB a b c d g h = x2
  generalize onB e f g h a b = x3
  generalize onB e f g h c d = x4
  generalize decide (IntKind.i64.wrap (sgnW (turnW a b c d e f) * sgnW (turnW a b c d g h)) < 0) = x5
  generalize decide (IntKind.i64.wrap (sgnW (turnW e f g h a b) * sgnW (turnW e f g h c d)) < 0) = x6
  cases x1 <;> cases x2 <;> cases x3 <;> cases x4 <;> cases x5 <;> cases x6 <;> rfl

theorem wrap0 : IntKind.i64.wrap 0 = 0 := by decide
theorem turn_end (a b c d : Int) : turnW a b c d a b = 0 := by
  unfold turnW
  rw [Int.sub_self, Int.sub_self, wrap0, Int.mul_zero, Int.mul_zero, wrap0, Int.sub_self, wrap0]
theorem turn_mid (a b e f : Int) : turnW a b a b e f = 0 := by
  unfold turnW
  rw [Int.sub_self, Int.sub_self, wrap0, Int.zero_mul, Int.zero_mul, wrap0, Int.sub_self, wrap0]
theorem on_start (a b c d : Int) : onB a b c d a b = true := by
  unfold onB
  rw [turn_end]
  have h1 : btw a (loW a c) (hiW a c) = true := by rw [btw_iff]; unfold loW hiW; split <;> omega
  have h2 : btw b (loW b d) (hiW b d) = true := by rw [btw_iff]; unfold loW hiW; split <;> omega
  rw [h1, h2]; rfl

theorem least_eq (a b : Int) : spec_l1Least a b = some (loW a b) := by
  unfold spec_l1Least c_spec_l1Least loW
  by_cases h : a < b
  · have : a ≤ b := by omega
    simp [h, this]
  · by_cases h2 : a ≤ b
    · have : a = b := by omega
      simp [this]
    · simp [h, h2]
theorem most_eq' (a b : Int) : spec_l1Most a b = some (hiW a b) := by
  unfold spec_l1Most c_spec_l1Most hiW
  by_cases h : b < a
  · have : ¬ a ≤ b := by omega
    simp [h, this]
  · by_cases h2 : a ≤ b
    · simp [h, h2]
    · omega
theorem turn_eq (a b c d e f : Int) : spec_l18Turn a b c d e f = some (turnW a b c d e f) := rfl
theorem cross_eq (a b c d e f : Int) : impl_cross a b c d e f = some (turnW a b c d e f) := rfl
theorem on_eq (a b c d e f : Int) : spec_l18On a b c d e f = some (onB a b c d e f) := by
  simp only [spec_l18On, c_spec_l18On, turn_eq, least_eq, most_eq', l1In_eq, Option.bind_some, onB]
  cases decide (turnW a b c d e f = 0) <;> cases btw e (loW a c) (hiW a c) <;> simp
theorem onSeg_eq (a b c d e f : Int) : impl_onSegment a b c d e f = some (onB a b c d e f) := by
  have h1 : ∀ a c : Int, (if c < a then c else a) = loW a c := by intro a c; unfold loW; split <;> split <;> omega
  have h2 : ∀ a c : Int, (if c > a then c else a) = hiW a c := by intro a c; unfold hiW; split <;> split <;> omega
  simp only [impl_onSegment, c_impl_onSegment, cross_eq, within_eq, Option.bind_some, onB, h1, h2]
  cases decide (turnW a b c d e f = 0) <;> cases btw e (loW a c) (hiW a c) <;> simp
theorem lsign_eq (x : Int) : spec_l18Sign x = some (sgnW x) := by
  unfold spec_l18Sign c_spec_l18Sign sgnW
  by_cases h : 0 < x
  · simp [h]
  · by_cases h2 : x < 0 <;> simp [h, h2]
theorem isign_eq (x : Int) : impl_sign x = some (sgnW x) := by
  simp only [impl_sign, c_impl_sign, cmp_Compare, c_cmp_Compare, cmp_isNaN, c_cmp_isNaN, Option.bind_some, decide_true, Bool.not_true, cond_false, sgnW]
  by_cases h : 0 < x
  · have : ¬ x < 0 := by omega
    simp [h, this]
  · by_cases h2 : x < 0 <;> simp [h, h2]

theorem lcross_eq (a b c d e f g h : Int) : spec_l18Cross a b c d e f g h = some (meetB a b c d e f g h) := by
  simp only [spec_l18Cross, c_spec_l18Cross, on_eq, turn_eq, lsign_eq, Option.bind_some, meetB]
  cases onB a b c d e f <;> cases onB a b c d g h <;> cases onB e f g h a b <;> cases onB e f g h c d <;>
    cases decide (IntKind.i64.wrap (sgnW (turnW a b c d e f) * sgnW (turnW a b c d g h)) < 0) <;> simp
theorem meet_eq (a b c d e f g h : Int) : impl_meet a b c d e f g h = some (meetB a b c d e f g h) := by
  simp only [impl_meet, c_impl_meet, onSeg_eq, cross_eq, isign_eq, Option.bind_some, meetB]
  cases onB a b c d e f <;> cases onB a b c d g h <;> cases onB e f g h a b <;> cases onB e f g h c d <;>
    cases decide (IntKind.i64.wrap (sgnW (turnW a b c d e f) * sgnW (turnW a b c d g h)) < 0) <;> simp

def inP (l : List D) (i : Nat) : Bool := btw (cX l i) 0 1000 && btw (cY l i) 0 1000
theorem lpoint_eq (x y : Int) : spec_l18Point x y = some (btw x 0 1000 && btw y 0 1000) := by
  simp only [spec_l18Point, c_spec_l18Point, l1In_eq, Option.bind_some]
  cases btw x 0 1000 <;> simp
theorem onPlan_eq (x y : Int) : impl_onPlan x y = some (btw x 0 1000 && btw y 0 1000) := by
  simp only [impl_onPlan, c_impl_onPlan, within_eq, Option.bind_some]
  cases btw x 0 1000 <;> simp

def same2 (l : List D) (i j : Nat) : Bool := decide (cX l j = cX l i) && decide (cY l j = cY l i)
def turnI (l : List D) (i : Nat) : Int := turnW (cX l i) (cY l i) (cX l ((i + 1) % l.length)) (cY l ((i + 1) % l.length)) (cX l ((i + 2) % l.length)) (cY l ((i + 2) % l.length))
def meetI (l : List D) (i j : Nat) : Bool := meetB (cX l i) (cY l i) (cX l ((i + 1) % l.length)) (cY l ((i + 1) % l.length)) (cX l j) (cY l j) (cX l ((j + 1) % l.length)) (cY l ((j + 1) % l.length))

def p5 (l : List D) (i : Nat) : Bool := !inP l i || !(firstN (same2 l i) i).isNone
def p20 (l : List D) (i k : Nat) : Bool := !decide ((i + 2 + k + 1) % l.length = i) && meetI l i (i + 2 + k)
def p15 (l : List D) (i : Nat) : Bool := decide (turnI l i = 0) || !(firstN (p20 l i) (l.length - (i + 2))).isNone
def specB (l : List D) : Bool := btw l.length 3 12 && ((firstN (p5 l) l.length).isNone && (firstN (p15 l) l.length).isNone)

theorem sL10_eq (l : List D) (n : Int) (i : Nat) (hi : i < l.length) (hl : l.length ≤ 12) : spec_l18Good_L10 l n i 0 = some (match firstN (same2 l i) i with | some _ => .inl (l, false, n, (i : Int)) | none => .inr (l, n, (i : Int))) := by
  refine scan_loop (N := fun m j => n_spec_l18Good_L10 m l n i j) _ (fun _ => .inl (l, false, n, (i : Int))) (fun m j hj => ?_) (fun m => ?_)
  · have hw : IntKind.i64.wrap ((j : Int) + 1) = (j : Int) + 1 := wrap_id (by omega) (by omega)
    have h1 : (j : Int) < i := by omega
    have h2 : (j : Int) < l.length := by omega
    have h3 : (i : Int) < l.length := by omega
    simp only [n_spec_l18Good_L10, c_spec_l18Good_L10, h1, h2, h3, hw, decide_true, cond_true, Int.natCast_nonneg, and_self, if_true, Int.toNat_natCast, List.getD_eq_getElem?_getD, Bool.and_true, same2, cX, cY]
    by_cases hA : ((l[j]?.getD (D.int 0)).fld 0).toInt = ((l[i]?.getD (D.int 0)).fld 0).toInt
    · by_cases hB : ((l[j]?.getD (D.int 0)).fld 1).toInt = ((l[i]?.getD (D.int 0)).fld 1).toInt <;> simp [hA, hB]
    · simp [hA]
  · simp [n_spec_l18Good_L10, c_spec_l18Good_L10]

theorem sL5_eq (l : List D) (hl : l.length ≤ 12) : spec_l18Good_L5 l l.length 0 = some (match firstN (p5 l) l.length with | some _ => .inl (l, false, (l.length : Int)) | none => .inr (l, (l.length : Int))) := by
  refine scan_loop (N := fun m i => n_spec_l18Good_L5 m l l.length i) _ (fun _ => .inl (l, false, (l.length : Int))) (fun m i hi => ?_) (fun m => ?_)
  · have hw : IntKind.i64.wrap ((i : Int) + 1) = (i : Int) + 1 := wrap_id (by omega) (by omega)
    have h1 : (i : Int) < l.length := by omega
    simp only [n_spec_l18Good_L5, c_spec_l18Good_L5, h1, hw, decide_true, cond_true, Int.natCast_nonneg, and_self, if_true, Int.toNat_natCast, List.getD_eq_getElem?_getD, lpoint_eq, Option.bind_some, sL10_eq l _ i hi hl]
    unfold p5 inP cX cY
    cases (btw (((l[i]?.getD (D.int 0)).fld 0).toInt) 0 1000 && btw (((l[i]?.getD (D.int 0)).fld 1).toInt) 0 1000) with
    | false => simp
    | true => cases firstN (same2 l i) i <;> simp [hw]
  · simp [n_spec_l18Good_L5, c_spec_l18Good_L5]

theorem sL20_eq (l : List D) (i : Nat) (hi : i < l.length) (hl : l.length ≤ 12) (h3 : 3 ≤ l.length) : spec_l18Good_L20 l l.length i ((i : Int) + 2) = some (match firstN (p20 l i) (l.length - (i + 2)) with | some _ => .inl (l, false, (l.length : Int), (i : Int)) | none => .inr (l, (l.length : Int), (i : Int))) := by
  have := scan_loop (N := fun m k => n_spec_l18Good_L20 m l l.length i ((i : Int) + 2 + k)) (len := l.length - (i + 2)) (p20 l i) (fun _ => .inl (l, false, (l.length : Int), (i : Int))) (fin := .inr (l, (l.length : Int), (i : Int))) (fun m k hk => ?_) (fun m => ?_)
  · rw [show spec_l18Good_L20 l l.length i ((i : Int) + 2) = ev (fun m => n_spec_l18Good_L20 m l l.length i ((i : Int) + 2 + 0)) by simp [spec_l18Good_L20]]
    exact this
  · have e1 : (i : Int) + 2 + (k : Int) = ((i + 2 + k : Nat) : Int) := by omega
    have e2 : (i : Int) + 2 + ((k : Int) + 1) = ((i + 2 + k + 1 : Nat) : Int) := by omega
    rw [e2]
    simp only [e1]
    generalize hj : i + 2 + k = j
    have hjl : j < l.length := by omega
    have hw : IntKind.i64.wrap ((j : Int) + 1) = ((j + 1 : Nat) : Int) := succ_wrap (by omega)
    have hwi : IntKind.i64.wrap ((i : Int) + 1) = ((i + 1 : Nat) : Int) := succ_wrap (by omega)
    have h1 : (j : Int) < l.length := by omega
    have h2 : (i : Int) < l.length := by omega
    have h4 : ((i + 1 : Nat) : Int) < l.length := by omega
    have h5 : (l.length : Int) ≠ 0 := by omega
    have h6 : (((j + 1) % l.length : Nat) : Int) < l.length := by have := Nat.mod_lt (j + 1) (show 0 < l.length by omega); omega
    have h7 : (i + 1) % l.length = i + 1 := Nat.mod_eq_of_lt (by omega)
    have h8 : decide ((((j + 1) % l.length : Nat) : Int) = (i : Int)) = decide ((j + 1) % l.length = i) := by
      rw [decide_eq_decide]; omega
    simp only [n_spec_l18Good_L20, c_spec_l18Good_L20, h1, h2, h4, h5, h6, hw, hwi, tmod_nat, h8, decide_true, cond_true, Int.natCast_nonneg, and_self, if_true, Int.toNat_natCast, List.getD_eq_getElem?_getD, lcross_eq, Option.bind_some, ne_eq, not_false_eq_true, p20, hj, meetI, h7, cX, cY]
    cases decide ((j + 1) % l.length = i) with
    | true => simp
    | false =>
      simp only [Bool.not_false, cond_true, Bool.true_and]
      generalize meetB _ _ _ _ _ _ _ _ = q
      cases q <;> simp
  · have e1 : ¬ (i : Int) + 2 + ((l.length - (i + 2) : Nat) : Int) < l.length := by omega
    simp [n_spec_l18Good_L20, c_spec_l18Good_L20, e1]

theorem sL15_eq (l : List D) (hl : l.length ≤ 12) (h3 : 3 ≤ l.length) : spec_l18Good_L15 l l.length 0 = some (match firstN (p15 l) l.length with | some _ => .inl false | none => .inr ()) := by
  refine scan_loop (N := fun m i => n_spec_l18Good_L15 m l l.length i) _ (fun _ => .inl false) (fun m i hi => ?_) (fun m => ?_)
  · have hw : IntKind.i64.wrap ((i : Int) + 1) = ((i + 1 : Nat) : Int) := succ_wrap (by omega)
    have hw2 : IntKind.i64.wrap ((i : Int) + 2) = ((i + 2 : Nat) : Int) := by rw [wrap_id (by omega) (by omega)]; omega
    have h1 : (i : Int) < l.length := by omega
    have h5 : (l.length : Int) ≠ 0 := by omega
    have h6 : (((i + 1) % l.length : Nat) : Int) < l.length := by have := Nat.mod_lt (i + 1) (show 0 < l.length by omega); omega
    have h7 : (((i + 2) % l.length : Nat) : Int) < l.length := by have := Nat.mod_lt (i + 2) (show 0 < l.length by omega); omega
    have hs := sL20_eq l i hi hl h3
    rw [show (i : Int) + 2 = ((i + 2 : Nat) : Int) by omega] at hs
    simp only [n_spec_l18Good_L15, c_spec_l18Good_L15, h1, h5, h6, h7, hw, hw2, tmod_nat, decide_true, cond_true, Int.natCast_nonneg, and_self, if_true, Int.toNat_natCast, List.getD_eq_getElem?_getD, turn_eq, Option.bind_some, ne_eq, not_false_eq_true, hs]
    unfold p15 turnI cX cY
    generalize decide (turnW _ _ _ _ _ _ = 0) = q
    cases q with
    | true => simp
    | false => cases firstN (p20 l i) (l.length - (i + 2)) <;> simp [hw]
  · simp [n_spec_l18Good_L15, c_spec_l18Good_L15]

theorem good_eq (l : List D) : spec_l18Good l = some (specB l) := by
  simp only [spec_l18Good, c_spec_l18Good, l1In_eq, Option.bind_some, specB]
  cases hb : btw (l.length : Int) 3 12 with
  | false => simp
  | true =>
    have := btw_iff.1 hb
    simp only [sL5_eq l (by omega), sL15_eq l (by omega) (by omega), Bool.not_true, cond_false, Option.bind_some]
    cases firstN (p5 l) l.length with
    | some _ => simp
    | none =>
      simp only [Sum.elim_inr, sL15_eq l (by omega) (by omega), Option.bind_some]
      cases firstN (p15 l) l.length <;> simp

/-! the program's -/
def q10 (l : List D) (i j : Nat) : Bool := !decide (i - j = 1) && (!decide (i - j = l.length - 1) && meetI l i j)
def q5 (l : List D) (i : Nat) : Bool := decide (turnI l i = 0) || !(firstN (q10 l i) i).isNone
def implB (l : List D) : Bool := btw l.length 3 12 && ((firstN (fun i => !inP l i) l.length).isNone && (firstN (q5 l) l.length).isNone)

theorem next_eq (l : List D) (i : Nat) (hl : l.length ≤ 12) (h0 : 0 < l.length) (hi : i ≤ 12) : impl_next l i = some (cX l ((i + 1) % l.length), cY l ((i + 1) % l.length)) := by
  have hw : IntKind.i64.wrap ((i : Int) + 1) = ((i + 1 : Nat) : Int) := succ_wrap (by omega)
  have h5 : (l.length : Int) ≠ 0 := by omega
  have h6 : (((i + 1) % l.length : Nat) : Int) < l.length := by have := Nat.mod_lt (i + 1) h0; omega
  simp only [impl_next, c_impl_next, hw, h5, h6, tmod_nat, ne_eq, not_false_eq_true, if_true, Int.natCast_nonneg, and_self, Int.toNat_natCast, List.getD_eq_getElem?_getD, cX, cY]

theorem iL10_eq (l : List D) (i : Nat) (n c d : Int) (hn : n = (l.length : Int)) (hi : i < l.length) (hl : l.length ≤ 12) : impl_IsValidPolygon_L10 l n i c d i 0 = some (match firstN (q10 l i) i with | some _ => .inl (l, false, n, c, d) | none => .inr (l, n, c, d)) := by
  subst hn
  refine scan_loop (N := fun m j => n_impl_IsValidPolygon_L10 m l l.length i c d i j) _ (fun _ => .inl (l, false, (l.length : Int), c, d)) (fun m j hj => ?_) (fun m => ?_)
  · have hw : IntKind.i64.wrap ((j : Int) + 1) = (j : Int) + 1 := wrap_id (by omega) (by omega)
    have h1 : (j : Int) < i := by omega
    have h2 : (j : Int) < l.length := by omega
    have h3 : (i : Int) < l.length := by omega
    have w1 : IntKind.i64.wrap ((i : Int) - j) = ((i - j : Nat) : Int) := by rw [wrap_id (by omega) (by omega)]; omega
    have w2 : IntKind.i64.wrap ((l.length : Int) - 1) = ((l.length - 1 : Nat) : Int) := pred_wrap (by omega) (by omega)
    have d1 : decide (((i - j : Nat) : Int) = 1) = decide (i - j = 1) := by rw [decide_eq_decide]; omega
    have d2 : decide (((i - j : Nat) : Int) = ((l.length - 1 : Nat) : Int)) = decide (i - j = l.length - 1) := by rw [decide_eq_decide]; omega
    simp only [n_impl_IsValidPolygon_L10, c_impl_IsValidPolygon_L10, h1, h2, h3, hw, w1, w2, d1, d2, decide_true, cond_true, Int.natCast_nonneg, and_self, if_true, Int.toNat_natCast, List.getD_eq_getElem?_getD, next_eq l i hl (by omega) (by omega), next_eq l j hl (by omega) (by omega), meet_eq, Option.bind_some, q10, meetI]
    cases decide (i - j = 1) with
    | true => simp
    | false =>
      cases decide (i - j = l.length - 1) with
      | true => simp
      | false =>
        simp only [Bool.not_false, cond_false, Bool.true_and, cX, cY]
        generalize meetB _ _ _ _ _ _ _ _ = q
        cases q <;> simp
  · simp [n_impl_IsValidPolygon_L10, c_impl_IsValidPolygon_L10]

theorem iL5_eq (l : List D) (hl : l.length ≤ 12) (h3 : 3 ≤ l.length) : impl_IsValidPolygon_L5 l l.length l.length 0 = some (match firstN (q5 l) l.length with | some _ => .inl false | none => .inr ()) := by
  refine scan_loop (N := fun m i => n_impl_IsValidPolygon_L5 m l l.length l.length i) _ (fun _ => .inl false) (fun m i hi => ?_) (fun m => ?_)
  · have hw : IntKind.i64.wrap ((i : Int) + 1) = ((i + 1 : Nat) : Int) := succ_wrap (by omega)
    have h1 : (i : Int) < l.length := by omega
    have e2 : (i + 1 + 1) = i + 2 := rfl
    simp only [n_impl_IsValidPolygon_L5, c_impl_IsValidPolygon_L5, h1, hw, decide_true, cond_true, Int.natCast_nonneg, and_self, if_true, Int.toNat_natCast, List.getD_eq_getElem?_getD, next_eq l i hl (by omega) (by omega), next_eq l (i + 1) hl (by omega) (by omega), cross_eq, Option.bind_some, iL10_eq l i _ _ _ rfl hi hl]
    by_cases hq : turnI l i = 0
    · have hq' := hq
      unfold turnI cX cY at hq'
      simp [q5, hq, e2, cX, cY, hq']
    · have hq' := hq
      unfold turnI cX cY at hq'
      simp only [e2, cX, cY, hq', q5, hq, decide_false, cond_false, Bool.false_or]
      cases firstN (q10 l i) i <;> simp [hw]
  · simp [n_impl_IsValidPolygon_L5, c_impl_IsValidPolygon_L5]

theorem containsP_eq (l : List D) (hl : l.length ≤ 12) : slices_ContainsFunc__impl_IsValidPolygon_1 l = some (!(firstN (fun i => !inP l i) l.length).isNone) := by
  have : slices_IndexFunc_L2 l l.length 0 = some (match firstN (fun i => !inP l i) l.length with | some i => .inl (i : Int) | none => .inr ()) := by
    refine scan_loop (N := fun m i => n_slices_IndexFunc_L2 m l l.length i) _ (fun i => .inl (i : Int)) (fun m i hi => ?_) (fun m => ?_)
    · have hw : IntKind.i64.wrap ((i : Int) + 1) = (i : Int) + 1 := wrap_id (by omega) (by omega)
      have h1 : (i : Int) < l.length := by omega
      simp only [n_slices_IndexFunc_L2, c_slices_IndexFunc_L2, impl_IsValidPolygon_1, c_impl_IsValidPolygon_1, h1, hw, onPlan_eq, decide_true, cond_true, Int.natCast_nonneg, and_self, if_true, Int.toNat_natCast, List.getD_eq_getElem?_getD, Option.bind_some, inP, cX, cY]
      generalize (btw _ 0 1000 && btw _ 0 1000) = q
      cases q <;> simp
    · simp [n_slices_IndexFunc_L2, c_slices_IndexFunc_L2]
  simp only [slices_ContainsFunc__impl_IsValidPolygon_1, c_slices_ContainsFunc__impl_IsValidPolygon_1, slices_IndexFunc__impl_IsValidPolygon_1, c_slices_IndexFunc__impl_IsValidPolygon_1, this, Option.bind_some]
  cases firstN (fun i => !inP l i) l.length <;> simp

theorem valid_eq (l : List D) : impl_IsValidPolygon l = some (implB l) := by
  simp only [impl_IsValidPolygon, c_impl_IsValidPolygon, within_eq, Option.bind_some, implB]
  cases hb : btw (l.length : Int) 3 12 with
  | false => simp
  | true =>
    have := btw_iff.1 hb
    simp only [containsP_eq l (by omega), iL5_eq l (by omega) (by omega), Bool.not_true, cond_false, Option.bind_some]
    cases (firstN (fun i => !inP l i) l.length).isNone with
    | false => simp
    | true => cases firstN (q5 l) l.length <;> simp

theorem poly_same (l : List D) : specB l = implB l := by
  unfold specB implB
  cases hb : btw (l.length : Int) 3 12 with
  | false => rfl
  | true =>
    have hbd := btw_iff.1 hb
    rw [Bool.true_and, Bool.true_and, Bool.eq_iff_iff, Bool.and_eq_true, Bool.and_eq_true, firstN_iff, firstN_iff, firstN_iff, firstN_iff]
    have s5 : ∀ i, p5 l i = false ↔ inP l i = true ∧ ∀ j, j < i → same2 l i j = false := by
      intro i
      unfold p5
      rw [Bool.or_eq_false_iff, Bool.not_eq_false', Bool.not_eq_false', firstN_iff]
    have s15 : ∀ i, p15 l i = false ↔ turnI l i ≠ 0 ∧ ∀ k, k < l.length - (i + 2) → p20 l i k = false := by
      intro i
      unfold p15
      rw [Bool.or_eq_false_iff, Bool.not_eq_false', firstN_iff, decide_eq_false_iff_not]
    have s5' : ∀ i, q5 l i = false ↔ turnI l i ≠ 0 ∧ ∀ j, j < i → q10 l i j = false := by
      intro i
      unfold q5
      rw [Bool.or_eq_false_iff, Bool.not_eq_false', firstN_iff, decide_eq_false_iff_not]
    constructor
    · rintro ⟨h1, h2⟩
      refine ⟨fun i hi => by rw [((s5 i).1 (h1 i hi)).1]; rfl, fun i hi => (s5' i).2 ⟨((s15 i).1 (h2 i hi)).1, fun j hj => ?_⟩⟩
      unfold q10
      by_cases c1 : i - j = 1
      · simp [c1]
      · by_cases c2 : i - j = l.length - 1
        · simp [c2]
        · have := ((s15 j).1 (h2 j (by omega))).2 (i - (j + 2)) (by omega)
          unfold p20 at this
          rw [show j + 2 + (i - (j + 2)) = i by omega] at this
          have hm : (i + 1) % l.length ≠ j := by
            by_cases c3 : i + 1 < l.length
            · rw [Nat.mod_eq_of_lt c3]; omega
            · rw [show i + 1 = l.length by omega, Nat.mod_self]; omega
          have hmeet : meetI l j i = meetI l i j := meetB_swap _ _ _ _ _ _ _ _
          simp only [hm, decide_false, Bool.not_false, Bool.true_and] at this
          simp [← hmeet, this]
    · rintro ⟨h1, h2⟩
      refine ⟨fun i hi => (s5 i).2 ⟨by have := h1 i hi; simpa using this, fun j hj => ?_⟩, fun i hi => (s15 i).2 ⟨((s5' i).1 (h2 i hi)).1, fun k hk => ?_⟩⟩
      · cases hs : same2 l i j with
        | false => rfl
        | true =>
          exfalso
          unfold same2 at hs
          rw [Bool.and_eq_true, decide_eq_true_eq, decide_eq_true_eq] at hs
          obtain ⟨ex, ey⟩ := hs
          by_cases c1 : i - j = 1
          · have := ((s5' j).1 (h2 j (by omega))).1
            unfold turnI at this
            rw [show (j + 1) % l.length = i by rw [Nat.mod_eq_of_lt (by omega)]; omega, ← ex, ← ey, turn_mid] at this
            exact this rfl
          · by_cases c2 : i - j = l.length - 1
            · have := ((s5' i).1 (h2 i hi)).1
              unfold turnI at this
              rw [show (i + 1) % l.length = j by rw [show i + 1 = l.length by omega, Nat.mod_self]; omega, ex, ey, turn_mid] at this
              exact this rfl
            · have := ((s5' i).1 (h2 i hi)).2 j hj
              unfold q10 meetI meetB at this
              rw [ex, ey, on_start] at this
              simp [c1, c2] at this
      · unfold p20
        generalize hj : i + 2 + k = j
        by_cases c1 : (j + 1) % l.length = i
        · simp [c1]
        · have := ((s5' j).1 (h2 j (by omega))).2 i (by omega)
          unfold q10 at this
          have c2 : ¬ j - i = 1 := by omega
          have c3 : ¬ j - i = l.length - 1 := by
            intro h
            apply c1
            rw [show j + 1 = l.length by omega, Nat.mod_self]
            omega
          have hmeet : meetI l j i = meetI l i j := meetB_swap _ _ _ _ _ _ _ _
          simp only [c2, c3, decide_false, Bool.not_false, Bool.true_and] at this
          simp [← hmeet, this]

/-- what a loop that numbers the cells leaves -/
def markd (cell : Int → D) (c : Int) (n : Nat) : List D := (List.range n).map (fun (i : Nat) => cell (1 + c * (i : Int)))

theorem markd_len {cell : Int → D} {c : Int} {n : Nat} : (markd cell c n).length = n := by simp [markd]
theorem markd_get {cell : Int → D} {c : Int} {n i : Nat} (h : i < n) : (markd cell c n)[i]?.getD (.int 0) = cell (1 + c * (i : Int)) := by
  simp [markd, h]

theorem mark_loop {N : Nat → Int → Int → List D → Option (Int × List D)} {n : Nat} {c : Int} {cell : Int → D}
    (hs : ∀ m (i : Nat) acc, i < n → acc.length = n → N (m + 1) (1 + c * (i : Int)) (i : Int) acc = N m (1 + c * ((i + 1 : Nat) : Int)) ((i + 1 : Nat) : Int) (acc.set i (cell (1 + c * (i : Int)))))
    (he : ∀ m acc, acc.length = n → N (m + 1) (1 + c * (n : Int)) (n : Int) acc = some (1 + c * (n : Int), acc)) {l : List D} (hl : l.length = n) :
    ev (fun m => N m 1 0 l) = some (1 + c * (n : Int), markd cell c n) := by
  have key : ∀ k, ∀ m (i : Nat) acc, i + k = n → k < m → acc.length = n → acc.take i = (markd cell c n).take i → N m (1 + c * (i : Int)) (i : Int) acc = some (1 + c * (n : Int), markd cell c n) := by
    intro k
    induction k with
    | zero =>
      intro m i acc h1 h2 h3 h4
      obtain ⟨m, rfl⟩ : ∃ m', m = m' + 1 := ⟨m - 1, by omega⟩
      have hi : i = n := by omega
      subst hi
      rw [he m acc h3]
      rw [List.take_of_length_le (by omega), List.take_of_length_le (by rw [markd_len]; exact Nat.le_refl _)] at h4
      rw [h4]
    | succ k ih =>
      intro m i acc h1 h2 h3 h4
      obtain ⟨m, rfl⟩ : ∃ m', m = m' + 1 := ⟨m - 1, by omega⟩
      rw [hs m i acc (by omega) h3]
      refine ih m (i + 1) _ (by omega) (by omega) (by simpa using h3) ?_
      have hi : i < (markd cell c n).length := by rw [markd_len]; omega
      rw [List.take_succ_eq_append_getElem (by simp; omega), List.take_succ_eq_append_getElem hi]
      rw [List.take_set_of_le (by omega), h4]
      simp [markd]
  have := ev_eq (f := fun m => N m 1 0 l) (n + 1) (fun m hm => by
    have := key n m 0 l (by omega) (by omega) hl (by simp)
    simpa using this)
  exact this

theorem held_loop {X : Type} {N : Nat → Int → Int → Option X} {n : Nat} {c : Int} {x : X}
    (hs : ∀ m (i : Nat), i < n → N (m + 1) (1 + c * (i : Int)) (i : Int) = N m (1 + c * ((i + 1 : Nat) : Int)) ((i + 1 : Nat) : Int))
    (he : ∀ m, N (m + 1) (1 + c * (n : Int)) (n : Int) = some x) : ev (fun m => N m 1 0) = some x := by
  have key : ∀ k, ∀ m (i : Nat), i + k = n → k < m → N m (1 + c * (i : Int)) (i : Int) = some x := by
    intro k
    induction k with
    | zero =>
      intro m i h1 h2
      obtain ⟨m, rfl⟩ : ∃ m', m = m' + 1 := ⟨m - 1, by omega⟩
      have hi : i = n := by omega
      subst hi
      exact he m
    | succ k ih =>
      intro m i h1 h2
      obtain ⟨m, rfl⟩ : ∃ m', m = m' + 1 := ⟨m - 1, by omega⟩
      rw [hs m i (by omega)]
      exact ih m (i + 1) (by omega) (by omega)
  exact ev_eq (f := fun m => N m 1 0) (n + 1) (fun m hm => by
    have := key n m 0 (by omega) (by omega)
    simpa using this)

theorem markCornerS_eq (l : List D) (hl : l.length ≤ 1048576) : laws_markCornerS l 1 = some (1 + 2 * (l.length : Int), markd (fun k => .node [.int k, .int (k + 1)]) 2 l.length) := by
  have key : laws_markCornerS_L2 1 0 l = some (1 + 2 * (l.length : Int), markd (fun k => .node [.int k, .int (k + 1)]) 2 l.length) := by
    refine mark_loop (N := n_laws_markCornerS_L2) (fun m i acc hi hacc => ?_) (fun m acc hacc => ?_) rfl
    · have hw : IntKind.i64.wrap ((i : Int) + 1) = (i : Int) + 1 := wrap_id (by omega) (by omega)
      have w1 : IntKind.i64.wrap (1 + 2 * (i : Int) + 1) = 1 + 2 * (i : Int) + 1 := wrap_id (by omega) (by omega)
      have w2 : IntKind.i64.wrap (1 + 2 * (i : Int) + 1 + 1) = 1 + 2 * ((i : Int) + 1) := by rw [wrap_id (by omega) (by omega)]; omega
      have h2 : (i : Int) < acc.length := by omega
      have h3 : i + 1 ≤ acc.length := by omega
      have h4 : i < acc.length := by omega
      simp [n_laws_markCornerS_L2, c_laws_markCornerS_L2, h2, h3, h4, hw, w1, w2, fld_node, toInt_int]
    · have h1 : ¬ (l.length : Int) < acc.length := by omega
      simp [n_laws_markCornerS_L2, c_laws_markCornerS_L2, h1]
  simp [laws_markCornerS, c_laws_markCornerS, key]

theorem heldCornerS_eq (n : Nat) (hn : n ≤ 1048576) : laws_heldCornerS (markd (fun k => .node [.int k, .int (k + 1)]) 2 n) 1 = some (1 + 2 * (n : Int)) := by
  have key : laws_heldCornerS_L2 (markd (fun k => .node [.int k, .int (k + 1)]) 2 n) 1 0 = some (.inr (1 + 2 * (n : Int))) := by
    refine held_loop (n := n) (c := 2) (N := fun m k i => n_laws_heldCornerS_L2 m (markd (fun k => .node [.int k, .int (k + 1)]) 2 n) k i) (fun m i hi => ?_) (fun m => ?_)
    · have hw : IntKind.i64.wrap ((i : Int) + 1) = (i : Int) + 1 := wrap_id (by omega) (by omega)
      have w1 : IntKind.i64.wrap (1 + 2 * (i : Int) + 1) = 1 + 2 * (i : Int) + 1 := wrap_id (by omega) (by omega)
      have w2 : IntKind.i64.wrap (1 + 2 * (i : Int) + 1 + 1) = 1 + 2 * ((i : Int) + 1) := by rw [wrap_id (by omega) (by omega)]; omega
      have h2 : (i : Int) < n := by omega
      simp [n_laws_heldCornerS_L2, c_laws_heldCornerS_L2, markd_len, h2, hw, w1, w2, fld_node, toInt_int, markd_get hi]
    · simp [n_laws_heldCornerS_L2, c_laws_heldCornerS_L2, markd_len]
  simp [laws_heldCornerS, c_laws_heldCornerS, key]

def mvP (dx dy : Int) (d : D) : D := .node [.int (IntKind.i64.wrap ((d.fld 0).toInt + dx)), .int (IntKind.i64.wrap ((d.fld 1).toInt + dy))]

theorem mv_get {dx dy : Int} {l : List D} {i : Nat} (h : i < l.length) : (l.map (mvP dx dy))[i]?.getD (.int 0) = mvP dx dy (l[i]?.getD (.int 0)) := by
  simp [h]

theorem smove_eq (l : List D) (hl : l.length ≤ 12) (dx dy : Int) : ∃ y, spec_MovePolygon_L5 l dx dy 0 [] = some y ∧ match y with
    | .inl (b, z, _) => b = false ∧ z = [] ∧ (firstN (fun i => !inP (l.map (mvP dx dy)) i) l.length).isNone = false
    | .inr r => (firstN (fun i => !inP (l.map (mvP dx dy)) i) l.length).isNone = true ∧ r = l.map (mvP dx dy) := by
  obtain ⟨y, h1, h2⟩ := loop_post (N := fun m (s : Nat × List D) => n_spec_MovePolygon_L5 m l dx dy (s.1 : Int) s.2) (fun s => s.1 ≤ l.length ∧ s.2 = (l.take s.1).map (mvP dx dy) ∧ ∀ j, j < s.1 → inP (l.map (mvP dx dy)) j = true) (fun s => l.length - s.1)
    (fun s y => match y with | .inl (b, z, _) => b = false ∧ z = [] ∧ (firstN (fun i => !inP (l.map (mvP dx dy)) i) l.length).isNone = false | .inr r => (firstN (fun i => !inP (l.map (mvP dx dy)) i) l.length).isNone = true ∧ r = l.map (mvP dx dy)) (by
    rintro ⟨i, acc⟩ ⟨hi, hacc, hin⟩
    simp only at hi hacc hin ⊢
    subst hacc
    by_cases hlt : i < l.length
    · have hlt' : (i : Int) < l.length := by omega
      have h5 : ((l.take i).map (mvP dx dy)).length + 1 ≤ 4294967296 := by simp; omega
      have e : inP (l.map (mvP dx dy)) i = (btw (IntKind.i64.wrap (((l[i]?.getD (.int 0)).fld 0).toInt + dx)) 0 1000 && btw (IntKind.i64.wrap (((l[i]?.getD (.int 0)).fld 1).toInt + dy)) 0 1000) := by
        unfold inP cX cY
        rw [mv_get hlt]; rfl
      cases hb : inP (l.map (mvP dx dy)) i with
      | false =>
        rw [e] at hb
        refine .inl ⟨.inl (false, [], (l.take i).map (mvP dx dy)), ⟨rfl, rfl, ?_⟩, fun m => ?_⟩
        · cases hq : (firstN (fun i => !inP (l.map (mvP dx dy)) i) l.length).isNone with
          | false => rfl
          | true =>
            have := firstN_iff.1 hq i hlt
            rw [e, hb] at this
            cases this
        · simp [n_spec_MovePolygon_L5, c_spec_MovePolygon_L5, hlt', lpoint_eq, hb]
      | true =>
        have hb' := hb
        rw [e] at hb
        refine .inr ⟨(i + 1, (l.take (i + 1)).map (mvP dx dy)), ⟨by simp; omega, rfl, fun j hj => ?_⟩, by simp; omega, fun y hy => hy, fun m => ?_⟩
        · by_cases hji : j = i
          · subst hji; exact hb'
          · exact hin j (by simp only at hj; omega)
        · have e2 : (l.take (i + 1)).map (mvP dx dy) = (l.take i).map (mvP dx dy) ++ [.node [.int (IntKind.i64.wrap (((l[i]?.getD (.int 0)).fld 0).toInt + dx)), .int (IntKind.i64.wrap (((l[i]?.getD (.int 0)).fld 1).toInt + dy))]] := by
            rw [List.take_succ_eq_append_getElem hlt, List.map_append]
            simp [mvP, hlt]
          rw [e2]
          simp only [List.length_map] at h5
          simp [n_spec_MovePolygon_L5, c_spec_MovePolygon_L5, hlt', lpoint_eq, hb, succ_wrap (show i < 4611686018427387904 by omega)]
          omega
    · have hlt' : ¬ (i : Int) < l.length := by omega
      have hi' : i = l.length := by omega
      subst hi'
      exact .inl ⟨.inr (l.map (mvP dx dy)), ⟨firstN_iff.2 (fun j hj => by rw [hin j hj]; rfl), rfl⟩, fun m => by simp [n_spec_MovePolygon_L5, c_spec_MovePolygon_L5]⟩) (0, []) ⟨by simp, by simp, fun j hj => by simp at hj⟩
  exact ⟨y, h1, h2⟩

theorem imove_eq (l : List D) (hl : l.length ≤ 12) (dx dy : Int) : impl_MovePolygon_L5 dx dy l l.length 0 [] = some (l.map (mvP dx dy)) := by
  obtain ⟨y, h1, h2⟩ := loop_post (N := fun m (s : Nat × List D) => n_impl_MovePolygon_L5 m dx dy l l.length (s.1 : Int) s.2) (fun s => s.1 ≤ l.length ∧ s.2 = (l.take s.1).map (mvP dx dy)) (fun s => l.length - s.1)
    (fun s y => y = l.map (mvP dx dy)) (by
    rintro ⟨i, acc⟩ ⟨hi, hacc⟩
    simp only at hi hacc ⊢
    subst hacc
    by_cases hlt : i < l.length
    · have hlt' : (i : Int) < l.length := by omega
      refine .inr ⟨(i + 1, (l.take (i + 1)).map (mvP dx dy)), ⟨by simp; omega, rfl⟩, by simp; omega, fun y hy => hy, fun m => ?_⟩
      have e2 : (l.take (i + 1)).map (mvP dx dy) = (l.take i).map (mvP dx dy) ++ [.node [.int (IntKind.i64.wrap (((l[i]?.getD (.int 0)).fld 0).toInt + dx)), .int (IntKind.i64.wrap (((l[i]?.getD (.int 0)).fld 1).toInt + dy))]] := by
        rw [List.take_succ_eq_append_getElem hlt, List.map_append]
        simp [mvP, hlt]
      rw [e2]
      simp [n_impl_MovePolygon_L5, c_impl_MovePolygon_L5, hlt', succ_wrap (show i < 4611686018427387904 by omega)]
      omega
    · have hlt' : ¬ (i : Int) < l.length := by omega
      have hi' : i = l.length := by omega
      subst hi'
      exact .inl ⟨_, rfl, fun m => by simp [n_impl_MovePolygon_L5, c_impl_MovePolygon_L5]⟩) (0, []) ⟨by simp, by simp⟩
  rw [← h2]; exact h1

theorem turn_mv {a b c d e f dx dy : Int} (ha : 0 ≤ a ∧ a ≤ 1000) (hb : 0 ≤ b ∧ b ≤ 1000) (hc : 0 ≤ c ∧ c ≤ 1000) (hd : 0 ≤ d ∧ d ≤ 1000) (he : 0 ≤ e ∧ e ≤ 1000) (hf : 0 ≤ f ∧ f ≤ 1000) :
    turnW (a + dx) (b + dy) (c + dx) (d + dy) (e + dx) (f + dy) = turnW a b c d e f := by
  unfold turnW
  rw [show c + dx - (a + dx) = c - a by omega, show f + dy - (b + dy) = f - b by omega, show d + dy - (b + dy) = d - b by omega, show e + dx - (a + dx) = e - a by omega]

theorem btw_mv {x a c dx : Int} : btw (x + dx) (loW (a + dx) (c + dx)) (hiW (a + dx) (c + dx)) = btw x (loW a c) (hiW a c) := by
  rw [Bool.eq_iff_iff, btw_iff, btw_iff]
  unfold loW hiW
  by_cases h : a ≤ c
  · have h' : a + dx ≤ c + dx := by omega
    simp only [h, h', if_true]
    omega
  · have h' : ¬ a + dx ≤ c + dx := by omega
    simp only [h, h', if_false]
    omega

structure Pt (x y : Int) : Prop where
  hx : 0 ≤ x ∧ x ≤ 1000
  hy : 0 ≤ y ∧ y ≤ 1000

theorem on_mv {a b c d e f dx dy : Int} (h1 : Pt a b) (h2 : Pt c d) (h3 : Pt e f) : onB (a + dx) (b + dy) (c + dx) (d + dy) (e + dx) (f + dy) = onB a b c d e f := by
  unfold onB
  rw [turn_mv h1.hx h1.hy h2.hx h2.hy h3.hx h3.hy, btw_mv, btw_mv]

theorem meet_mv {a b c d e f g h dx dy : Int} (h1 : Pt a b) (h2 : Pt c d) (h3 : Pt e f) (h4 : Pt g h) : meetB (a + dx) (b + dy) (c + dx) (d + dy) (e + dx) (f + dy) (g + dx) (h + dy) = meetB a b c d e f g h := by
  unfold meetB
  rw [on_mv h1 h2 h3, on_mv h1 h2 h4, on_mv h3 h4 h1, on_mv h3 h4 h2, turn_mv h1.hx h1.hy h2.hx h2.hy h3.hx h3.hy, turn_mv h1.hx h1.hy h2.hx h2.hy h4.hx h4.hy, turn_mv h3.hx h3.hy h4.hx h4.hy h1.hx h1.hy, turn_mv h3.hx h3.hy h4.hx h4.hy h2.hx h2.hy]

theorem valid_mv (l : List D) (dx dy : Int) (hv : implB l = true) (hx : -1000 ≤ dx ∧ dx ≤ 1000) (hy : -1000 ≤ dy ∧ dy ≤ 1000) : implB (l.map (mvP dx dy)) = (firstN (fun i => !inP (l.map (mvP dx dy)) i) l.length).isNone := by
  unfold implB at hv
  rw [Bool.and_eq_true, Bool.and_eq_true, btw_iff, firstN_iff] at hv
  obtain ⟨hbd, hin, hq⟩ := hv
  have pt : ∀ i, i < l.length → Pt (cX l i) (cY l i) := by
    intro i hi
    have := hin i hi
    simp only [inP, Bool.not_eq_false', Bool.and_eq_true, btw_iff] at this
    exact ⟨this.1, this.2⟩
  have gx : ∀ i, i < l.length → cX (l.map (mvP dx dy)) i = cX l i + dx := by
    intro i hi
    have h := (pt i hi).hx
    unfold cX at h ⊢
    rw [mv_get hi]
    show IntKind.i64.wrap _ = _
    rw [wrap_id (by omega) (by omega)]
  have gy : ∀ i, i < l.length → cY (l.map (mvP dx dy)) i = cY l i + dy := by
    intro i hi
    have h := (pt i hi).hy
    unfold cY at h ⊢
    rw [mv_get hi]
    show IntKind.i64.wrap _ = _
    rw [wrap_id (by omega) (by omega)]
  have md : ∀ i, i % l.length < l.length := fun i => Nat.mod_lt i (by omega)
  have q10e : ∀ i j, i < l.length → j < l.length → q10 (l.map (mvP dx dy)) i j = q10 l i j := by
    intro i j hi hj
    unfold q10 meetI
    simp only [List.length_map]
    rw [gx i hi, gy i hi, gx j hj, gy j hj, gx _ (md _), gy _ (md _), gx _ (md _), gy _ (md _), meet_mv (pt i hi) (pt _ (md _)) (pt j hj) (pt _ (md _))]
  have q5e : ∀ i, i < l.length → q5 (l.map (mvP dx dy)) i = q5 l i := by
    intro i hi
    unfold q5 turnI
    simp only [List.length_map]
    rw [gx i hi, gy i hi, gx _ (md _), gy _ (md _), gx _ (md _), gy _ (md _), turn_mv (pt i hi).hx (pt i hi).hy (pt _ (md _)).hx (pt _ (md _)).hy (pt _ (md _)).hx (pt _ (md _)).hy, firstN_congr (fun j hj => q10e i j hi (by omega))]
  unfold implB
  rw [List.length_map, firstN_congr q5e, hq, show btw (l.length : Int) 3 12 = true by rw [btw_iff]; exact hbd]
  simp

theorem move_same (l : List D) (dx dy : Int) : ∃ y, spec_MovePolygon l dx dy = some y ∧ impl_MovePolygon l dx dy = some y ∧ y.1.length ≤ 1048576 := by
  simp only [spec_MovePolygon, c_spec_MovePolygon, impl_MovePolygon, c_impl_MovePolygon, good_eq, valid_eq, poly_same, l1In_eq, within_eq, Option.bind_some]
  cases hb : implB l with
  | false => exact ⟨_, rfl, rfl, by simp⟩
  | true =>
    have hbd : 3 ≤ (l.length : Int) ∧ (l.length : Int) ≤ 12 := by
      unfold implB at hb
      rw [Bool.and_eq_true, btw_iff] at hb
      exact hb.1
    cases h1 : btw dx (-1000) 1000 with
    | false => exact ⟨_, rfl, rfl, by simp⟩
    | true =>
      cases h2 : btw dy (-1000) 1000 with
      | false => exact ⟨_, rfl, rfl, by simp⟩
      | true =>
        obtain ⟨y, k1, k2⟩ := smove_eq l (by omega) dx dy
        simp only [Bool.not_true, cond_false, k1, imove_eq l (by omega) dx dy, Option.bind_some, valid_eq, valid_mv l dx dy hb (btw_iff.1 h1) (btw_iff.1 h2)]
        cases y with
        | inl y =>
          obtain ⟨y1, y2, y3⟩ := y
          obtain ⟨rfl, rfl, e⟩ := k2
          rw [e]
          exact ⟨_, rfl, rfl, by simp⟩
        | inr r =>
          obtain ⟨e, rfl⟩ := k2
          rw [e]
          exact ⟨_, rfl, rfl, by simp; omega⟩

theorem pure_FnExactMovePolygon (x0 : List D) (x1 : Int) (x2 : Int) (h0 : x0.length ≤ maxLen) (w0 : ∀ d ∈ x0, wfD (.struct [.int .i64, .int .i64]) d) (h1 : (Lit.int .i64 x1).wf = true) (h2 : (Lit.int .i64 x2).wf = true) : laws_FnExactMovePolygon x0 x1 x2 = some true := by
  unfold maxLen at h0
  have hw : IntKind.i64.wrap (1048576 - (x0.length : Int)) = 1048576 - (x0.length : Int) := wrap_id (by omega) (by omega)
  by_cases hl : x0.length ≤ 1048576
  · have h2 : ¬ (1048576 - (x0.length : Int)) < 0 := by omega
    obtain ⟨y, hb1, hb2, hb3⟩ := move_same x0 x1 x2
    have e1 : ¬ (1 + 2 * (x0.length : Int)) < 0 := by omega
    have e2 : ¬ (1 + 2 * (y.1.length : Int)) < 0 := by omega
    simp [laws_FnExactMovePolygon, c_laws_FnExactMovePolygon, laws_szCornerS, c_laws_szCornerS, hw, h2, toCornerS_id x0 hl w0, hb1, hb2, eqCornerS_self x0 hl, eqCornerS_self y.1 hb3, markCornerS_eq x0 hl, markCornerS_eq y.1 hb3, heldCornerS_eq y.1.length hb3, e1, e2]
  · have h2 : (1048576 - (x0.length : Int)) < 0 := by omega
    simp [laws_FnExactMovePolygon, c_laws_FnExactMovePolygon, laws_szCornerS, c_laws_szCornerS, hw, h2]

end Go.Proofs.Yticcpkmednijlaa
