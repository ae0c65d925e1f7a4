/- The law FnExactAdjustTraverse over plain values. No condition beside those of the statement. -/
import Derived.Test.YticcpkmednijlaaClMFnExactAdjustTraverse
import Derived.Test.YticcpkmednijlaaRaiU5
set_option linter.unusedVariables false
set_option linter.unusedSimpArgs false
set_option maxRecDepth 100000
namespace Go.Proofs.Yticcpkmednijlaa
open Go Go.Rai

abbrev tLeg : Ty := .struct [.int .i64, .int .i64]

theorem tLeg_wf {d : D} (h : wfD tLeg d) : ∃ a b : Int, d = .node [.int a, .int b] := by
  obtain ⟨l, rfl, x1, r1, rfl, ⟨a, rfl, _⟩, x2, r2, rfl, ⟨b, rfl, _⟩, h⟩ := h
  obtain rfl := h
  exact ⟨a, b, rfl⟩

theorem toLegS_id (l : List D) (hl : l.length ≤ 1048576) (w : ∀ d ∈ l, wfD tLeg d) : laws_toLegS l = some l := by
  have key : laws_toLegS_L3 l 0 (List.replicate l.length (.node [.int 0, .int 0])) = some l := by
    refine copy_loop (N := n_laws_toLegS_L3) (fun m i acc hi hacc => ?_) (fun m acc hacc => ?_)
    · obtain ⟨a, b, hd⟩ := tLeg_wf (w _ (get_mem hi))
      have hw : IntKind.i64.wrap ((i : Int) + 1) = (i : Int) + 1 := wrap_id (by omega) (by omega)
      have h2 : (i : Int) < acc.length := by omega
      have h3 : i + 1 ≤ acc.length := by omega
      have h1 : (i : Int) < l.length := by omega
      simp [n_laws_toLegS_L3, c_laws_toLegS_L3, laws_toLeg, c_laws_toLeg, h1, h2, h3, hw, hd, fld_node, toInt_int]
    · simp [n_laws_toLegS_L3, c_laws_toLegS_L3]
  have h4 : (l.length : Int) ≤ 4294967296 := by omega
  simp [laws_toLegS, c_laws_toLegS, key, h4]

theorem eqLegS_self (l : List D) (hl : l.length ≤ 1048576) : laws_eqLegS l l = some true := by
  have key : laws_eqLegS_L4 l l 0 = some (.inr ()) := by
    refine all_loop (N := fun n i => n_laws_eqLegS_L4 n l l i) (len := l.length) (fun m i hi => ?_) (fun m => ?_)
    · have hw : IntKind.i64.wrap ((i : Int) + 1) = (i : Int) + 1 := wrap_id (by omega) (by omega)
      have h1 : (i : Int) < l.length := by omega
      simp [n_laws_eqLegS_L4, c_laws_eqLegS_L4, laws_eqLeg, c_laws_eqLeg, h1, hw]
    · simp [n_laws_eqLegS_L4, c_laws_eqLegS_L4]
  simp [laws_eqLegS, c_laws_eqLegS, key]


theorem l1In_eq (x a b : Int) : spec_l1In x a b = some (btw x a b) := by
  unfold spec_l1In c_spec_l1In btw
  by_cases h : a ≤ x <;> simp [h]
theorem within_eq (x a b : Int) : impl_within x a b = some (btw x a b) := by
  unfold impl_within c_impl_within btw
  by_cases h : a ≤ x <;> simp [h]


def legB (d : D) : Bool := btw (d.fld 0).toInt (-100000) 100000 && btw (d.fld 1).toInt (-100000) 100000
def ptB (e n : Int) : Bool := btw e (-1000000) 1000000 && btw n (-1000000) 1000000

theorem point_eq (e n : Int) : spec_l17Point e n = some (ptB e n) := by
  simp only [spec_l17Point, c_spec_l17Point, l1In_eq, Option.bind_some, ptB]
  cases btw e (-1000000) 1000000 <;> simp
theorem isPoint_eq (e n : Int) : impl_isPoint e n = some (ptB e n) := by
  simp only [impl_isPoint, c_impl_isPoint, impl_isCoordinate, c_impl_isCoordinate, within_eq, Option.bind_some, ptB]
  cases btw e (-1000000) 1000000 <;> simp

/-- the points that legs reach -/
def walk : List D → Int → Int → Option (List D)
  | [], _, _ => some []
  | d :: l, e, n => bif ptB (e + (d.fld 0).toInt) (n + (d.fld 1).toInt) then (walk l (e + (d.fld 0).toInt) (n + (d.fld 1).toInt)).map (fun r => .node [.int (e + (d.fld 0).toInt), .int (n + (d.fld 1).toInt)] :: r) else none

theorem walk_len : ∀ {l : List D} {e n : Int} {r : List D}, walk l e n = some r → r.length = l.length
  | [], e, n, r, h => by simp [walk] at h; subst h; rfl
  | d :: l, e, n, r, h => by
    unfold walk at h
    cases hp : ptB (e + (d.fld 0).toInt) (n + (d.fld 1).toInt) with
    | false => rw [hp] at h; cases h
    | true =>
      rw [hp, cond_true] at h
      cases hw : walk l (e + (d.fld 0).toInt) (n + (d.fld 1).toInt) with
      | none => rw [hw] at h; cases h
      | some r' =>
        rw [hw] at h
        simp only [Option.map_some, Option.some.injEq] at h
        subst h
        simp [walk_len hw]

theorem legs_eq (l : List D) (hl : l.length ≤ 1048576) : spec_l17Legs l = some (btw l.length 1 20 && l.all legB) := by
  obtain ⟨y, h1, h2⟩ := loop_post (N := fun m (i : Nat) => n_spec_l17Legs_L2 m l (i : Int)) (fun i => i ≤ l.length) (fun i => l.length - i)
    (fun i y => match y with | .inl (_, b) => b = false ∧ (l.drop i).all legB = false | .inr z => z = l ∧ (l.length ≤ 20 → (l.drop i).all legB = true)) (by
    intro i hi
    by_cases hlt : i < l.length
    · have hlt' : (i : Int) < l.length := by omega
      by_cases h20 : (i : Int) ≤ 20
      · cases ha : btw ((l[i]?.getD (D.int 0)).fld 0).toInt (-100000) 100000 with
        | false =>
          refine .inl ⟨.inl (l, false), ⟨rfl, ?_⟩, fun m => ?_⟩
          · rw [drop_cons hlt]; simp [legB, ha]
          · simp [n_spec_l17Legs_L2, c_spec_l17Legs_L2, hlt', h20, l1In_eq, ha]
        | true =>
          cases hb : btw ((l[i]?.getD (D.int 0)).fld 1).toInt (-100000) 100000 with
          | false =>
            refine .inl ⟨.inl (l, false), ⟨rfl, ?_⟩, fun m => ?_⟩
            · rw [drop_cons hlt]; simp [legB, ha, hb]
            · simp [n_spec_l17Legs_L2, c_spec_l17Legs_L2, hlt', h20, l1In_eq, ha, hb]
          | true =>
            refine .inr ⟨i + 1, by omega, by omega, fun y hy => ?_, fun m => ?_⟩
            · rw [drop_cons hlt]
              cases y with
              | inl y => exact ⟨hy.1, by simpa [legB, ha, hb] using hy.2⟩
              | inr y => exact ⟨hy.1, fun h => by simpa [legB, ha, hb] using hy.2 h⟩
            · simp [n_spec_l17Legs_L2, c_spec_l17Legs_L2, hlt', h20, l1In_eq, ha, hb, succ_wrap (show i < 4611686018427387904 by omega)]
      · exact .inl ⟨.inr l, ⟨rfl, fun h => by omega⟩, fun m => by simp [n_spec_l17Legs_L2, c_spec_l17Legs_L2, hlt', h20]⟩
    · have hlt' : ¬ (i : Int) < l.length := by omega
      exact .inl ⟨.inr l, ⟨rfl, fun _ => by rw [drop_end hlt]; rfl⟩, fun m => by simp [n_spec_l17Legs_L2, c_spec_l17Legs_L2, hlt']⟩) 0 (by omega)
  have h1' : spec_l17Legs_L2 l 0 = some y := h1
  simp only [spec_l17Legs, c_spec_l17Legs, h1', Option.bind_some, l1In_eq]
  cases y with
  | inl y =>
    obtain ⟨e1, e2⟩ := h2
    simp only [List.drop_zero] at e2
    simp [e1, e2]
  | inr z =>
    obtain ⟨rfl, e2⟩ := h2
    simp only [List.drop_zero] at e2
    simp only [Sum.elim_inr, Option.some.injEq]
    cases hb : btw (z.length : Int) 1 20 with
    | false => simp
    | true =>
      have := btw_iff.1 hb
      rw [e2 (by omega)]; rfl

/-- where a traverse leads -/
def trav (e n : Int) (l : List D) : List D × Bool :=
  bif ptB e n && (btw l.length 1 20 && l.all legB) then (match walk l e n with | some r => (r, true) | none => ([], false)) else ([], false)

theorem legB_bd {d : D} (h : legB d = true) : -100000 ≤ (d.fld 0).toInt ∧ (d.fld 0).toInt ≤ 100000 ∧ -100000 ≤ (d.fld 1).toInt ∧ (d.fld 1).toInt ≤ 100000 := by
  simp only [legB, Bool.and_eq_true, btw_iff] at h; omega
theorem ptB_bd {e n : Int} (h : ptB e n = true) : -1000000 ≤ e ∧ e ≤ 1000000 ∧ -1000000 ≤ n ∧ n ≤ 1000000 := by
  simp only [ptB, Bool.and_eq_true, btw_iff] at h; omega

theorem points_loop (l : List D) (hl : l.length ≤ 20) (ha : l.all legB = true) (e n : Int) (hp : ptB e n = true) :
    ∃ y, spec_l17Points_L6 l 0 [] e n = some y ∧ match y with | .inl (b, z, _) => b = false ∧ z = [] ∧ walk l e n = none | .inr ps => walk l e n = some ps := by
  obtain ⟨y, h1, h2⟩ := loop_post (N := fun m (s : Nat × List D × Int × Int) => n_spec_l17Points_L6 m l (s.1 : Int) s.2.1 s.2.2.1 s.2.2.2) (fun s => s.1 ≤ l.length ∧ s.2.1.length = s.1 ∧ ptB s.2.2.1 s.2.2.2 = true) (fun s => l.length - s.1)
    (fun s y => match y with | .inl (b, z, _) => b = false ∧ z = [] ∧ walk (l.drop s.1) s.2.2.1 s.2.2.2 = none | .inr ps => ∃ r, walk (l.drop s.1) s.2.2.1 s.2.2.2 = some r ∧ ps = s.2.1 ++ r) (by
    rintro ⟨i, acc, e, n⟩ ⟨hi, hacc, hp⟩
    simp only at hi hacc hp ⊢
    by_cases hlt : i < l.length
    · have hlt' : (i : Int) < l.length := by omega
      have hd : legB (l[i]?.getD (D.int 0)) = true := List.all_eq_true.1 ha _ (get_mem hlt)
      have b1 := legB_bd hd
      have b2 := ptB_bd hp
      have w1 : IntKind.i64.wrap (e + ((l[i]?.getD (D.int 0)).fld 0).toInt) = e + ((l[i]?.getD (D.int 0)).fld 0).toInt := wrap_id (by omega) (by omega)
      have w2 : IntKind.i64.wrap (n + ((l[i]?.getD (D.int 0)).fld 1).toInt) = n + ((l[i]?.getD (D.int 0)).fld 1).toInt := wrap_id (by omega) (by omega)
      cases hq : ptB (e + ((l[i]?.getD (D.int 0)).fld 0).toInt) (n + ((l[i]?.getD (D.int 0)).fld 1).toInt) with
      | false =>
        refine .inl ⟨.inl (false, [], acc), ⟨rfl, rfl, ?_⟩, fun m => ?_⟩
        · rw [drop_cons hlt, walk, hq]; rfl
        · simp [n_spec_l17Points_L6, c_spec_l17Points_L6, hlt', point_eq, w1, w2, hq]
      | true =>
        have h5 : acc.length + 1 ≤ 4294967296 := by omega
        refine .inr ⟨(i + 1, acc ++ [.node [.int (e + ((l[i]?.getD (D.int 0)).fld 0).toInt), .int (n + ((l[i]?.getD (D.int 0)).fld 1).toInt)]], e + ((l[i]?.getD (D.int 0)).fld 0).toInt, n + ((l[i]?.getD (D.int 0)).fld 1).toInt), ⟨by simp; omega, by simp [hacc], hq⟩, by simp; omega, fun y hy => ?_, fun m => ?_⟩
        · rw [drop_cons hlt, walk, hq, cond_true]
          cases y with
          | inl y => obtain ⟨y1, y2, y3⟩ := y; exact ⟨hy.1, hy.2.1, by rw [hy.2.2]; rfl⟩
          | inr ps => obtain ⟨r, k1, k2⟩ := hy; exact ⟨_, by rw [k1]; rfl, by rw [k2]; simp⟩
        · simp [n_spec_l17Points_L6, c_spec_l17Points_L6, hlt', point_eq, w1, w2, hq, h5, succ_wrap (show i < 4611686018427387904 by omega)]
    · have hlt' : ¬ (i : Int) < l.length := by omega
      exact .inl ⟨.inr acc, ⟨[], by rw [drop_end hlt]; rfl, by simp⟩, fun m => by simp [n_spec_l17Points_L6, c_spec_l17Points_L6, hlt']⟩) (0, [], e, n) ⟨by simp, rfl, hp⟩
  refine ⟨y, h1, ?_⟩
  cases y with
  | inl y => obtain ⟨y1, y2, y3⟩ := y; simpa using h2
  | inr ps => obtain ⟨r, k1, k2⟩ := h2; simp at k1 k2; rw [k2]; exact k1

theorem points_eq (e n : Int) (l : List D) (hl : l.length ≤ 1048576) : spec_l17Points e n l = some (trav e n l) := by
  simp only [spec_l17Points, c_spec_l17Points, legs_eq l hl, point_eq, Option.bind_some, trav]
  cases ha : (btw (l.length : Int) 1 20 && l.all legB) with
  | false => simp
  | true =>
    cases hp : ptB e n with
    | false => simp
    | true =>
      rw [Bool.and_eq_true, btw_iff] at ha
      obtain ⟨y, h1, h2⟩ := points_loop l (by omega) ha.2 e n hp
      simp only [h1, Bool.not_true, cond_false, Option.bind_some, Bool.and_true, cond_true]
      cases y with
      | inl y => obtain ⟨y1, y2, y3⟩ := y; obtain ⟨rfl, rfl, k⟩ := h2; simp [k]
      | inr ps => simp at h2; simp [h2]

theorem reached_loop (l : List D) (hl : l.length ≤ 20) (e n : Int) (hp : ptB e n = true) :
    ∃ y, impl_reached_L6 l l.length 0 [] e n = some y ∧ match y with | .inl (b, _) => b = false ∧ (l.all legB = true → walk l e n = none) | .inr ps => l.all legB = true ∧ walk l e n = some ps := by
  obtain ⟨y, h1, h2⟩ := loop_post (N := fun m (s : Nat × List D × Int × Int) => n_impl_reached_L6 m l l.length (s.1 : Int) s.2.1 s.2.2.1 s.2.2.2) (fun s => s.1 ≤ l.length ∧ s.2.1.length = s.1 ∧ ptB s.2.2.1 s.2.2.2 = true) (fun s => l.length - s.1)
    (fun s y => match y with | .inl (b, _) => b = false ∧ ((l.drop s.1).all legB = true → walk (l.drop s.1) s.2.2.1 s.2.2.2 = none) | .inr ps => (l.drop s.1).all legB = true ∧ ∃ r, walk (l.drop s.1) s.2.2.1 s.2.2.2 = some r ∧ ps = s.2.1 ++ r) (by
    rintro ⟨i, acc, e, n⟩ ⟨hi, hacc, hp⟩
    simp only at hi hacc hp ⊢
    by_cases hlt : i < l.length
    · have hlt' : (i : Int) < l.length := by omega
      cases ha : btw ((l[i]?.getD (D.int 0)).fld 0).toInt (-100000) 100000 with
      | false =>
        refine .inl ⟨.inl (false, acc), ⟨rfl, fun h => ?_⟩, fun m => ?_⟩
        · rw [drop_cons hlt] at h; simp [legB, ha] at h
        · simp [n_impl_reached_L6, c_impl_reached_L6, hlt', within_eq, ha]
      | true =>
      cases hb : btw ((l[i]?.getD (D.int 0)).fld 1).toInt (-100000) 100000 with
      | false =>
        refine .inl ⟨.inl (false, acc), ⟨rfl, fun h => ?_⟩, fun m => ?_⟩
        · rw [drop_cons hlt] at h; simp [legB, hb] at h
        · simp [n_impl_reached_L6, c_impl_reached_L6, hlt', within_eq, ha, hb]
      | true =>
      have hd : legB (l[i]?.getD (D.int 0)) = true := by simp [legB, ha, hb]
      have b1 := legB_bd hd
      have b2 := ptB_bd hp
      have w1 : IntKind.i64.wrap (e + ((l[i]?.getD (D.int 0)).fld 0).toInt) = e + ((l[i]?.getD (D.int 0)).fld 0).toInt := wrap_id (by omega) (by omega)
      have w2 : IntKind.i64.wrap (n + ((l[i]?.getD (D.int 0)).fld 1).toInt) = n + ((l[i]?.getD (D.int 0)).fld 1).toInt := wrap_id (by omega) (by omega)
      cases hq : ptB (e + ((l[i]?.getD (D.int 0)).fld 0).toInt) (n + ((l[i]?.getD (D.int 0)).fld 1).toInt) with
      | false =>
        refine .inl ⟨.inl (false, acc), ⟨rfl, fun _ => ?_⟩, fun m => ?_⟩
        · rw [drop_cons hlt, walk, hq]; rfl
        · simp [n_impl_reached_L6, c_impl_reached_L6, hlt', within_eq, isPoint_eq, ha, hb, w1, w2, hq]
      | true =>
        have h5 : acc.length + 1 ≤ 4294967296 := by omega
        refine .inr ⟨(i + 1, acc ++ [.node [.int (e + ((l[i]?.getD (D.int 0)).fld 0).toInt), .int (n + ((l[i]?.getD (D.int 0)).fld 1).toInt)]], e + ((l[i]?.getD (D.int 0)).fld 0).toInt, n + ((l[i]?.getD (D.int 0)).fld 1).toInt), ⟨by simp; omega, by simp [hacc], hq⟩, by simp; omega, fun y hy => ?_, fun m => ?_⟩
        · rw [drop_cons hlt, walk, hq, cond_true]
          cases y with
          | inl y => exact ⟨hy.1, fun h => by rw [hy.2 (by simpa [hd] using h)]; rfl⟩
          | inr ps => obtain ⟨k0, r, k1, k2⟩ := hy; exact ⟨by simpa [hd] using k0, _, by rw [k1]; rfl, by rw [k2]; simp⟩
        · simp [n_impl_reached_L6, c_impl_reached_L6, hlt', within_eq, isPoint_eq, ha, hb, w1, w2, hq, h5, succ_wrap (show i < 4611686018427387904 by omega)]
    · have hlt' : ¬ (i : Int) < l.length := by omega
      exact .inl ⟨.inr acc, ⟨by rw [drop_end hlt]; rfl, [], by rw [drop_end hlt]; rfl, by simp⟩, fun m => by simp [n_impl_reached_L6, c_impl_reached_L6, hlt']⟩) (0, [], e, n) ⟨by simp, rfl, hp⟩
  refine ⟨y, h1, ?_⟩
  cases y with
  | inl y => simpa using h2
  | inr ps => obtain ⟨k0, r, k1, k2⟩ := h2; simp at k0 k1 k2; rw [k2]; exact ⟨by simpa using k0, k1⟩

theorem reached_eq (e n : Int) (l : List D) : impl_reached e n l = some (trav e n l) := by
  simp only [impl_reached, c_impl_reached, within_eq, isPoint_eq, Option.bind_some, trav]
  cases hp : ptB e n with
  | false => simp
  | true =>
    cases hb : btw (l.length : Int) 1 20 with
    | false => simp
    | true =>
      have hb' := btw_iff.1 hb
      obtain ⟨y, h1, h2⟩ := reached_loop l (by omega) e n hp
      simp only [h1, Bool.not_true, cond_false, Option.bind_some, Bool.true_and]
      cases y with
      | inl y =>
        obtain ⟨k1, k2⟩ := h2
        cases ha : l.all legB with
        | false => simp [k1]
        | true => simp [k1, k2 ha]
      | inr ps => obtain ⟨k1, k2⟩ := h2; simp [k1, k2]

theorem trav_len {e n : Int} {l : List D} (h : (trav e n l).2 = true) : 1 ≤ (trav e n l).1.length ∧ (trav e n l).1.length ≤ 20 := by
  unfold trav at h ⊢
  cases hc : (ptB e n && (btw (l.length : Int) 1 20 && l.all legB)) with
  | false => rw [hc] at h; cases h
  | true =>
    rw [hc] at h
    simp only [cond_true] at h ⊢
    simp only [Bool.and_eq_true, btw_iff] at hc
    cases hw : walk l e n with
    | none => rw [hw] at h; cases h
    | some r => have := walk_len hw; simp only; omega

theorem ends_same (e n : Int) (l : List D) (hl : l.length ≤ 1048576) : ∃ y, spec_TraverseEnd e n l = some y ∧ impl_TraverseEnd e n l = some y := by
  simp only [spec_TraverseEnd, c_spec_TraverseEnd, impl_TraverseEnd, c_impl_TraverseEnd, points_eq e n l hl, reached_eq, Option.bind_some]
  cases hb : (trav e n l).2 with
  | false => exact ⟨_, rfl, rfl⟩
  | true =>
    obtain ⟨h1, h2⟩ := trav_len hb
    rw [pred_wrap (by omega) (by omega)]
    have h3 : (((trav e n l).1.length - 1 : Nat) : Int) < (trav e n l).1.length := by omega
    have h4 : (trav e n l).1.length - 1 + 1 ≤ (trav e n l).1.length := by omega
    simp only [Bool.not_true, cond_false, Int.natCast_nonneg, h3, and_self, if_true, Int.toNat_natCast, h4]
    exact ⟨_, rfl⟩


theorem mis_same (e n : Int) (l : List D) (a b : Int) (hl : l.length ≤ 1048576) : ∃ y, spec_Misclosure e n l a b = some y ∧ impl_Misclosure e n l a b = some y := by
  obtain ⟨y, h1, h2⟩ := ends_same e n l hl
  simp only [spec_Misclosure, c_spec_Misclosure, impl_Misclosure, c_impl_Misclosure, h1, h2, point_eq, isPoint_eq, Option.bind_some]
  cases y.2.2 with
  | false => exact ⟨_, rfl, rfl⟩
  | true =>
    cases ptB a b with
    | false => exact ⟨_, rfl, rfl⟩
    | true => exact ⟨_, rfl, rfl⟩


/-- what a loop that numbers the cells leaves -/
def markd (cell : Int → D) (c : Int) (n : Nat) : List D := (List.range n).map (fun (i : Nat) => cell (1 + c * (i : Int)))

theorem markd_len {cell : Int → D} {c : Int} {n : Nat} : (markd cell c n).length = n := by simp [markd]
theorem markd_get {cell : Int → D} {c : Int} {n i : Nat} (h : i < n) : (markd cell c n)[i]?.getD (.int 0) = cell (1 + c * (i : Int)) := by
  simp [markd, h]

theorem mark_loop {N : Nat → Int → Int → List D → Option (Int × List D)} {n : Nat} {c : Int} {cell : Int → D}
    (hs : ∀ m (i : Nat) acc, i < n → acc.length = n → N (m + 1) (1 + c * (i : Int)) (i : Int) acc = N m (1 + c * ((i + 1 : Nat) : Int)) ((i + 1 : Nat) : Int) (acc.set i (cell (1 + c * (i : Int)))))
    (he : ∀ m acc, acc.length = n → N (m + 1) (1 + c * (n : Int)) (n : Int) acc = some (1 + c * (n : Int), acc)) {l : List D} (hl : l.length = n) :
    ev (fun m => N m 1 0 l) = some (1 + c * (n : Int), markd cell c n) := by
  have key : ∀ k, ∀ m (i : Nat) acc, i + k = n → k < m → acc.length = n → acc.take i = (markd cell c n).take i → N m (1 + c * (i : Int)) (i : Int) acc = some (1 + c * (n : Int), markd cell c n) := by
    intro k
    induction k with
    | zero =>
      intro m i acc h1 h2 h3 h4
      obtain ⟨m, rfl⟩ : ∃ m', m = m' + 1 := ⟨m - 1, by omega⟩
      have hi : i = n := by omega
      subst hi
      rw [he m acc h3]
      rw [List.take_of_length_le (by omega), List.take_of_length_le (by rw [markd_len]; exact Nat.le_refl _)] at h4
      rw [h4]
    | succ k ih =>
      intro m i acc h1 h2 h3 h4
      obtain ⟨m, rfl⟩ : ∃ m', m = m' + 1 := ⟨m - 1, by omega⟩
      rw [hs m i acc (by omega) h3]
      refine ih m (i + 1) _ (by omega) (by omega) (by simpa using h3) ?_
      have hi : i < (markd cell c n).length := by rw [markd_len]; omega
      rw [List.take_succ_eq_append_getElem (by simp; omega), List.take_succ_eq_append_getElem hi]
      rw [List.take_set_of_le (by omega), h4]
      simp [markd]
  have := ev_eq (f := fun m => N m 1 0 l) (n + 1) (fun m hm => by
    have := key n m 0 l (by omega) (by omega) hl (by simp)
    simpa using this)
  exact this

theorem held_loop {X : Type} {N : Nat → Int → Int → Option X} {n : Nat} {c : Int} {x : X}
    (hs : ∀ m (i : Nat), i < n → N (m + 1) (1 + c * (i : Int)) (i : Int) = N m (1 + c * ((i + 1 : Nat) : Int)) ((i + 1 : Nat) : Int))
    (he : ∀ m, N (m + 1) (1 + c * (n : Int)) (n : Int) = some x) : ev (fun m => N m 1 0) = some x := by
  have key : ∀ k, ∀ m (i : Nat), i + k = n → k < m → N m (1 + c * (i : Int)) (i : Int) = some x := by
    intro k
    induction k with
    | zero =>
      intro m i h1 h2
      obtain ⟨m, rfl⟩ : ∃ m', m = m' + 1 := ⟨m - 1, by omega⟩
      have hi : i = n := by omega
      subst hi
      exact he m
    | succ k ih =>
      intro m i h1 h2
      obtain ⟨m, rfl⟩ : ∃ m', m = m' + 1 := ⟨m - 1, by omega⟩
      rw [hs m i (by omega)]
      exact ih m (i + 1) (by omega) (by omega)
  exact ev_eq (f := fun m => N m 1 0) (n + 1) (fun m hm => by
    have := key n m 0 (by omega) (by omega)
    simpa using this)

theorem markLegS_eq (l : List D) (hl : l.length ≤ 1048576) : laws_markLegS l 1 = some (1 + 2 * (l.length : Int), markd (fun k => .node [.int k, .int (k + 1)]) 2 l.length) := by
  have key : laws_markLegS_L2 1 0 l = some (1 + 2 * (l.length : Int), markd (fun k => .node [.int k, .int (k + 1)]) 2 l.length) := by
    refine mark_loop (N := n_laws_markLegS_L2) (fun m i acc hi hacc => ?_) (fun m acc hacc => ?_) rfl
    · have hw : IntKind.i64.wrap ((i : Int) + 1) = (i : Int) + 1 := wrap_id (by omega) (by omega)
      have w1 : IntKind.i64.wrap (1 + 2 * (i : Int) + 1) = 1 + 2 * (i : Int) + 1 := wrap_id (by omega) (by omega)
      have w2 : IntKind.i64.wrap (1 + 2 * (i : Int) + 1 + 1) = 1 + 2 * ((i : Int) + 1) := by rw [wrap_id (by omega) (by omega)]; omega
      have h2 : (i : Int) < acc.length := by omega
      have h3 : i + 1 ≤ acc.length := by omega
      have h4 : i < acc.length := by omega
      simp [n_laws_markLegS_L2, c_laws_markLegS_L2, h2, h3, h4, hw, w1, w2, fld_node, toInt_int]
    · have h1 : ¬ (l.length : Int) < acc.length := by omega
      simp [n_laws_markLegS_L2, c_laws_markLegS_L2, h1]
  simp [laws_markLegS, c_laws_markLegS, key]

theorem heldLegS_eq (n : Nat) (hn : n ≤ 1048576) : laws_heldLegS (markd (fun k => .node [.int k, .int (k + 1)]) 2 n) 1 = some (1 + 2 * (n : Int)) := by
  have key : laws_heldLegS_L2 (markd (fun k => .node [.int k, .int (k + 1)]) 2 n) 1 0 = some (.inr (1 + 2 * (n : Int))) := by
    refine held_loop (n := n) (c := 2) (N := fun m k i => n_laws_heldLegS_L2 m (markd (fun k => .node [.int k, .int (k + 1)]) 2 n) k i) (fun m i hi => ?_) (fun m => ?_)
    · have hw : IntKind.i64.wrap ((i : Int) + 1) = (i : Int) + 1 := wrap_id (by omega) (by omega)
      have w1 : IntKind.i64.wrap (1 + 2 * (i : Int) + 1) = 1 + 2 * (i : Int) + 1 := wrap_id (by omega) (by omega)
      have w2 : IntKind.i64.wrap (1 + 2 * (i : Int) + 1 + 1) = 1 + 2 * ((i : Int) + 1) := by rw [wrap_id (by omega) (by omega)]; omega
      have h2 : (i : Int) < n := by omega
      simp [n_laws_heldLegS_L2, c_laws_heldLegS_L2, markd_len, h2, hw, w1, w2, fld_node, toInt_int, markd_get hi]
    · simp [n_laws_heldLegS_L2, c_laws_heldLegS_L2, markd_len]
  simp [laws_heldLegS, c_laws_heldLegS, key]

def absV (x : Int) : Int := if IntKind.i64.wrap (0 - x) > x then IntKind.i64.wrap (0 - x) else x
def lenV (d : D) : Int := IntKind.i64.wrap (absV (d.fld 0).toInt + absV (d.fld 1).toInt)

theorem absolute_eq (x : Int) : impl_absolute x = some (absV x) := rfl
theorem most_eq (x : Int) : spec_l1Most x (IntKind.i64.wrap (0 - x)) = some (absV x) := by
  unfold spec_l1Most c_spec_l1Most absV
  by_cases h : IntKind.i64.wrap (0 - x) < x
  · have h2 : ¬ IntKind.i64.wrap (0 - x) > x := by omega
    simp only [h, h2, decide_true, cond_true, if_false]
  · by_cases h2 : IntKind.i64.wrap (0 - x) > x
    · simp only [h, h2, decide_false, cond_false, if_true]
    · have h3 : IntKind.i64.wrap (0 - x) = x := by omega
      rw [h3]; simp
theorem length_eq (a b : Int) : spec_l17Length a b = some (IntKind.i64.wrap (absV a + absV b)) := by
  simp only [spec_l17Length, c_spec_l17Length, most_eq, Option.bind_some]

def tot : Int → List D → Int
  | s, [] => s
  | s, d :: l => tot (IntKind.i64.wrap (s + lenV d)) l
def pre : Int → List D → List D
  | _, [] => []
  | s, d :: l => .int (IntKind.i64.wrap (s + lenV d)) :: pre (IntKind.i64.wrap (s + lenV d)) l
theorem pre_len : ∀ {s : Int} {l : List D}, (pre s l).length = l.length
  | _, [] => rfl
  | _, d :: l => by simp [pre, pre_len]

def newE (me t : Int) (p : D) (s : Int) : Int := IntKind.i64.wrap ((p.fld 0).toInt - IntKind.i64.wrap ((IntKind.i64.wrap (me * s)).tdiv t))
def newN (mn t : Int) (p : D) (s : Int) : Int := IntKind.i64.wrap ((p.fld 1).toInt - IntKind.i64.wrap ((IntKind.i64.wrap (mn * s)).tdiv t))

def okA (me mn t : Int) : Int → List D → List D → Bool
  | s, d :: l, p :: ps => ptB (newE me t p (IntKind.i64.wrap (s + lenV d))) (newN mn t p (IntKind.i64.wrap (s + lenV d))) && okA me mn t (IntKind.i64.wrap (s + lenV d)) l ps
  | _, _, _ => true
def newA (me mn t : Int) : Int → List D → List D → List D
  | s, d :: l, p :: ps => .node [.int (newE me t p (IntKind.i64.wrap (s + lenV d))), .int (newN mn t p (IntKind.i64.wrap (s + lenV d)))] :: newA me mn t (IntKind.i64.wrap (s + lenV d)) l ps
  | _, _, _ => []

theorem newA_len {me mn t : Int} : ∀ {s : Int} {l ps : List D}, ps.length = l.length → (newA me mn t s l ps).length = l.length
  | _, [], [], _ => rfl
  | _, d :: l, p :: ps, h => by simp only [newA, List.length_cons]; rw [newA_len (by simpa using h)]
  | _, [], _ :: _, h => by simp at h
  | _, _ :: _, [], h => by simp at h

theorem L6_eq (l : List D) (hl : l.length ≤ 1048576) (a b c d : Int) : spec_AdjustTraverse_L6 l 0 0 a b c d = some (l, tot 0 l, a, b, c, d) := by
  obtain ⟨y, h1, h2⟩ := loop_post (N := fun m (s : Nat × Int) => n_spec_AdjustTraverse_L6 m l s.2 (s.1 : Int) a b c d) (fun s => s.1 ≤ l.length) (fun s => l.length - s.1)
    (fun s y => y = (l, tot s.2 (l.drop s.1), a, b, c, d)) (by
    rintro ⟨i, s⟩ hi
    simp only at hi ⊢
    by_cases hlt : i < l.length
    · have hlt' : (i : Int) < l.length := by omega
      refine .inr ⟨(i + 1, IntKind.i64.wrap (s + lenV (l[i]?.getD (.int 0)))), by simp; omega, by simp; omega, fun y hy => ?_, fun m => ?_⟩
      · rw [drop_cons hlt, tot]; exact hy
      · simp [n_spec_AdjustTraverse_L6, c_spec_AdjustTraverse_L6, hlt', length_eq, lenV, succ_wrap (show i < 4611686018427387904 by omega)]
    · have hlt' : ¬ (i : Int) < l.length := by omega
      exact .inl ⟨_, rfl, fun m => by simp [n_spec_AdjustTraverse_L6, c_spec_AdjustTraverse_L6, hlt', drop_end hlt, tot]⟩) (0, 0) (by simp)
  rw [show spec_AdjustTraverse_L6 l 0 0 a b c d = some y from h1, h2]; rfl

theorem L8_eq (l : List D) (hl : l.length ≤ 1048576) (a b : Int) (ps : List D) : impl_AdjustTraverse_L8 0 l l.length 0 a b ps [] = some (tot 0 l, a, b, ps, pre 0 l) := by
  obtain ⟨y, h1, h2⟩ := loop_post (N := fun m (s : Nat × Int × List D) => n_impl_AdjustTraverse_L8 m s.2.1 l l.length (s.1 : Int) a b ps s.2.2) (fun s => s.1 ≤ l.length ∧ s.2.2.length = s.1) (fun s => l.length - s.1)
    (fun s y => y = (tot s.2.1 (l.drop s.1), a, b, ps, s.2.2 ++ pre s.2.1 (l.drop s.1))) (by
    rintro ⟨i, s, acc⟩ ⟨hi, hacc⟩
    simp only at hi hacc ⊢
    by_cases hlt : i < l.length
    · have hlt' : (i : Int) < l.length := by omega
      have h5 : acc.length + 1 ≤ 4294967296 := by omega
      refine .inr ⟨(i + 1, IntKind.i64.wrap (s + lenV (l[i]?.getD (.int 0))), acc ++ [.int (IntKind.i64.wrap (s + lenV (l[i]?.getD (.int 0))))]), ⟨by simp; omega, by simp [hacc]⟩, by simp; omega, fun y hy => ?_, fun m => ?_⟩
      · rw [drop_cons hlt, tot, pre]; simpa using hy
      · simp [n_impl_AdjustTraverse_L8, c_impl_AdjustTraverse_L8, hlt', absolute_eq, lenV, h5, succ_wrap (show i < 4611686018427387904 by omega)]
    · have hlt' : ¬ (i : Int) < l.length := by omega
      exact .inl ⟨_, rfl, fun m => by simp [n_impl_AdjustTraverse_L8, c_impl_AdjustTraverse_L8, hlt', drop_end hlt, tot, pre]⟩) (0, 0, []) (by simp)
  rw [show impl_AdjustTraverse_L8 0 l l.length 0 a b ps [] = some y from h1, h2]; rfl

theorem L15_eq (l ps : List D) (hl : l.length ≤ 1048576) (hp : ps.length = l.length) (t me mn : Int) (ht : t ≠ 0) :
    ∃ y, spec_AdjustTraverse_L15 l t 0 0 me mn ps [] = some y ∧ match y with | .inl (b, z, _) => b = false ∧ z = [] ∧ okA me mn t 0 l ps = false | .inr r => okA me mn t 0 l ps = true ∧ r = newA me mn t 0 l ps := by
  obtain ⟨y, h1, h2⟩ := loop_post (N := fun m (s : Nat × Int × List D) => n_spec_AdjustTraverse_L15 m l t s.2.1 (s.1 : Int) me mn ps s.2.2) (fun s => s.1 ≤ l.length ∧ s.2.2.length = s.1) (fun s => l.length - s.1)
    (fun s y => match y with | .inl (b, z, _) => b = false ∧ z = [] ∧ okA me mn t s.2.1 (l.drop s.1) (ps.drop s.1) = false | .inr r => okA me mn t s.2.1 (l.drop s.1) (ps.drop s.1) = true ∧ r = s.2.2 ++ newA me mn t s.2.1 (l.drop s.1) (ps.drop s.1)) (by
    rintro ⟨i, s, acc⟩ ⟨hi, hacc⟩
    simp only at hi hacc ⊢
    by_cases hlt : i < l.length
    · have hlt' : (i : Int) < l.length := by omega
      have hltp : (i : Int) < ps.length := by omega
      have h6 : i + 1 ≤ ps.length := by omega
      have h5 : acc.length + 1 ≤ 4294967296 := by omega
      cases hb : ptB (newE me t (ps[i]?.getD (.int 0)) (IntKind.i64.wrap (s + lenV (l[i]?.getD (.int 0))))) (newN mn t (ps[i]?.getD (.int 0)) (IntKind.i64.wrap (s + lenV (l[i]?.getD (.int 0))))) with
      | false =>
        refine .inl ⟨.inl (false, [], acc), ⟨rfl, rfl, ?_⟩, fun m => ?_⟩
        · rw [drop_cons hlt, drop_cons (show i < ps.length by omega), okA, hb]; rfl
        · unfold newE newN lenV at hb
          simp [n_spec_AdjustTraverse_L15, c_spec_AdjustTraverse_L15, hlt', hltp, h6, ht, length_eq, point_eq, hb]
      | true =>
        refine .inr ⟨(i + 1, IntKind.i64.wrap (s + lenV (l[i]?.getD (.int 0))), acc ++ [.node [.int (newE me t (ps[i]?.getD (.int 0)) (IntKind.i64.wrap (s + lenV (l[i]?.getD (.int 0))))), .int (newN mn t (ps[i]?.getD (.int 0)) (IntKind.i64.wrap (s + lenV (l[i]?.getD (.int 0)))))]]), ⟨by simp; omega, by simp [hacc]⟩, by simp; omega, fun y hy => ?_, fun m => ?_⟩
        · rw [drop_cons hlt, drop_cons (show i < ps.length by omega), okA, hb, newA, Bool.true_and]
          cases y with
          | inl y => exact hy
          | inr r => exact ⟨hy.1, by rw [hy.2]; simp⟩
        · unfold newE newN lenV at hb
          simp [n_spec_AdjustTraverse_L15, c_spec_AdjustTraverse_L15, hlt', hltp, h6, ht, length_eq, point_eq, hb, h5, newE, newN, lenV, succ_wrap (show i < 4611686018427387904 by omega)]
    · have hlt' : ¬ (i : Int) < ps.length := by omega
      exact .inl ⟨.inr acc, ⟨by rw [drop_end hlt]; rfl, by rw [drop_end hlt]; simp [newA]⟩, fun m => by simp [n_spec_AdjustTraverse_L15, c_spec_AdjustTraverse_L15, hlt']⟩) (0, 0, []) (by simp)
  exact ⟨y, h1, by simpa using h2⟩

theorem L16_eq (l ps : List D) (hl : l.length ≤ 1048576) (hp : ps.length = l.length) (t me mn : Int) (ht : t ≠ 0) :
    ∃ y, impl_AdjustTraverse_L16 t ps.length 0 me mn ps (pre 0 l) = some y ∧ match y with | .inl (b, _) => b = false ∧ okA me mn t 0 l ps = false | .inr r => okA me mn t 0 l ps = true ∧ r = newA me mn t 0 l ps := by
  obtain ⟨y, h1, h2⟩ := loop_post (N := fun m (s : Nat × Int × List D) => n_impl_AdjustTraverse_L16 m t ps.length (s.1 : Int) me mn s.2.2 (pre 0 l))
    (fun s => s.1 ≤ l.length ∧ s.2.2.length = l.length ∧ s.2.2.drop s.1 = ps.drop s.1 ∧ (pre 0 l).drop s.1 = pre s.2.1 (l.drop s.1)) (fun s => l.length - s.1)
    (fun s y => match y with | .inl (b, _) => b = false ∧ okA me mn t s.2.1 (l.drop s.1) (ps.drop s.1) = false | .inr r => okA me mn t s.2.1 (l.drop s.1) (ps.drop s.1) = true ∧ r = s.2.2.take s.1 ++ newA me mn t s.2.1 (l.drop s.1) (ps.drop s.1)) (by
    rintro ⟨i, s, acc⟩ ⟨hi, hacc, hdr, hpr⟩
    simp only at hi hacc hdr hpr ⊢
    by_cases hlt : i < l.length
    · have hlt' : (i : Int) < ps.length := by omega
      have hlta : (i : Int) < acc.length := by omega
      have hltq : (i : Int) < (pre 0 l).length := by rw [pre_len]; omega
      have h6 : i + 1 ≤ acc.length := by omega
      have h7 : i + 1 ≤ (pre 0 l).length := by rw [pre_len]; omega
      have h8 : i < acc.length := by omega
      have g1 : acc[i]?.getD (.int 0) = ps[i]?.getD (.int 0) := by
        rw [drop_cons h8, drop_cons (show i < ps.length by omega)] at hdr
        exact (List.cons.inj hdr).1
      have g1' : acc[i]'h8 = ps[i]?.getD (.int 0) := by rw [← g1, List.getElem?_eq_getElem h8]; rfl
      have g2 : ((pre 0 l)[i]?.getD (.int 0)) = .int (IntKind.i64.wrap (s + lenV (l[i]?.getD (.int 0)))) := by
        rw [drop_cons (show i < (pre 0 l).length by rw [pre_len]; omega), drop_cons hlt, pre] at hpr
        exact (List.cons.inj hpr).1
      have g3 : (pre 0 l).drop (i + 1) = pre (IntKind.i64.wrap (s + lenV (l[i]?.getD (.int 0)))) (l.drop (i + 1)) := by
        rw [drop_cons (show i < (pre 0 l).length by rw [pre_len]; omega), drop_cons hlt, pre] at hpr
        exact (List.cons.inj hpr).2
      have g4 : acc.drop (i + 1) = ps.drop (i + 1) := by
        rw [drop_cons h8, drop_cons (show i < ps.length by omega)] at hdr
        exact (List.cons.inj hdr).2
      cases hb : ptB (newE me t (ps[i]?.getD (.int 0)) (IntKind.i64.wrap (s + lenV (l[i]?.getD (.int 0))))) (newN mn t (ps[i]?.getD (.int 0)) (IntKind.i64.wrap (s + lenV (l[i]?.getD (.int 0))))) with
      | false =>
        refine .inl ⟨.inl (false, acc.set i (.node [.int (newE me t (ps[i]?.getD (.int 0)) (IntKind.i64.wrap (s + lenV (l[i]?.getD (.int 0))))), .int (newN mn t (ps[i]?.getD (.int 0)) (IntKind.i64.wrap (s + lenV (l[i]?.getD (.int 0)))))])), ⟨rfl, ?_⟩, fun m => ?_⟩
        · rw [drop_cons hlt, drop_cons (show i < ps.length by omega), okA, hb]; rfl
        · unfold newE newN at hb
          simp [n_impl_AdjustTraverse_L16, c_impl_AdjustTraverse_L16, hlt', hlta, hltq, h6, h7, h8, ht, isPoint_eq, g1', g2, toInt_int, fld_node, hb, newE, newN]
      | true =>
        refine .inr ⟨(i + 1, IntKind.i64.wrap (s + lenV (l[i]?.getD (.int 0))), acc.set i (.node [.int (newE me t (ps[i]?.getD (.int 0)) (IntKind.i64.wrap (s + lenV (l[i]?.getD (.int 0))))), .int (newN mn t (ps[i]?.getD (.int 0)) (IntKind.i64.wrap (s + lenV (l[i]?.getD (.int 0)))))])), ⟨by simp; omega, by simp [hacc], by simp only; rw [List.drop_set_of_lt (by omega)]; exact g4, g3⟩, by simp; omega, fun y hy => ?_, fun m => ?_⟩
        · rw [drop_cons hlt, drop_cons (show i < ps.length by omega), okA, hb, newA, Bool.true_and]
          cases y with
          | inl y => exact hy
          | inr r =>
            refine ⟨hy.1, ?_⟩
            rw [hy.2]
            simp only
            rw [List.take_succ_eq_append_getElem (by simp; omega), List.take_set_of_le (by omega)]
            simp
        · unfold newE newN at hb
          simp [n_impl_AdjustTraverse_L16, c_impl_AdjustTraverse_L16, hlt', hlta, hltq, h6, h7, h8, ht, isPoint_eq, g1', g2, toInt_int, fld_node, hb, newE, newN, succ_wrap (show i < 4611686018427387904 by omega)]
    · have hlt' : ¬ (i : Int) < ps.length := by omega
      exact .inl ⟨.inr acc, ⟨by rw [drop_end hlt]; rfl, by rw [drop_end hlt, List.take_of_length_le (by omega)]; simp [newA]⟩, fun m => by simp [n_impl_AdjustTraverse_L16, c_impl_AdjustTraverse_L16, hlt']⟩) (0, 0, ps) (by simp [hp])
  exact ⟨y, h1, by simpa using h2⟩

theorem mis_trav {e n : Int} {l : List D} {a b : Int} (hl : l.length ≤ 1048576) {y : Int × Int × Bool} (h : spec_Misclosure e n l a b = some y) (hy : y.2.2 = true) : (trav e n l).2 = true := by
  simp only [spec_Misclosure, c_spec_Misclosure, spec_TraverseEnd, c_spec_TraverseEnd, points_eq e n l hl, Option.bind_some] at h
  cases hb : (trav e n l).2 with
  | true => rfl
  | false =>
    rw [hb] at h
    simp at h
    rw [← h] at hy
    cases hy

theorem trav_len2 {e n : Int} {l : List D} (h : (trav e n l).2 = true) : (trav e n l).1.length = l.length := by
  unfold trav at h ⊢
  cases hc : (ptB e n && (btw (l.length : Int) 1 20 && l.all legB)) with
  | false => rw [hc] at h; cases h
  | true =>
    rw [hc] at h
    simp only [cond_true] at h ⊢
    cases hw : walk l e n with
    | none => rw [hw] at h; cases h
    | some r => exact walk_len hw

theorem adjust_same (e n : Int) (l : List D) (a b : Int) (hl : l.length ≤ 1048576) : ∃ y, spec_AdjustTraverse e n l a b = some y ∧ impl_AdjustTraverse e n l a b = some y ∧ y.1.length ≤ 1048576 := by
  obtain ⟨y, h1, h2⟩ := mis_same e n l a b hl
  simp only [spec_AdjustTraverse, c_spec_AdjustTraverse, impl_AdjustTraverse, c_impl_AdjustTraverse, h1, h2, Option.bind_some, L6_eq l hl, reached_eq, L8_eq l hl, points_eq _ _ l hl]
  cases hy : y.2.2 with
  | false => exact ⟨_, rfl, rfl, by simp⟩
  | true =>
    have ht := mis_trav hl h1 hy
    have hlen := trav_len2 ht
    simp only [Bool.not_true, cond_false]
    by_cases h0 : tot 0 l = 0
    · simp only [h0, decide_true, cond_true]
      exact ⟨_, rfl, rfl, by simp⟩
    · simp only [h0, decide_false, cond_false]
      obtain ⟨r, k1, k2⟩ := L15_eq l (trav e n l).1 hl hlen (tot 0 l) y.1 y.2.1 h0
      obtain ⟨q, k3, k4⟩ := L16_eq l (trav e n l).1 hl hlen (tot 0 l) y.1 y.2.1 h0
      simp only [k1, k3, Option.bind_some]
      cases r with
      | inl r =>
        obtain ⟨r1, r2, r3⟩ := r
        obtain ⟨rfl, rfl, e3⟩ := k2
        cases q with
        | inl q => obtain ⟨q1, q2⟩ := q; obtain ⟨rfl, _⟩ := k4; exact ⟨_, rfl, rfl, by simp⟩
        | inr q => rw [e3] at k4; cases k4.1
      | inr r =>
        obtain ⟨e3, rfl⟩ := k2
        cases q with
        | inl q => obtain ⟨q1, q2⟩ := q; rw [e3] at k4; cases k4.2
        | inr q =>
          obtain ⟨_, rfl⟩ := k4
          refine ⟨_, rfl, rfl, ?_⟩
          simp only
          rw [newA_len hlen]
          exact hl

theorem pure_FnExactAdjustTraverse (x0 : Int) (x1 : Int) (x2 : List D) (x3 : Int) (x4 : Int) (h1 : (Lit.int .i64 x0).wf = true) (h2 : (Lit.int .i64 x1).wf = true) (h3 : x2.length ≤ maxLen) (w3 : ∀ d ∈ x2, wfD (.struct [.int .i64, .int .i64]) d) (h5 : (Lit.int .i64 x3).wf = true) (h6 : (Lit.int .i64 x4).wf = true) : laws_FnExactAdjustTraverse x0 x1 x2 x3 x4 = some true := by
  unfold maxLen at h3
  have hw : IntKind.i64.wrap (1048576 - (x2.length : Int)) = 1048576 - (x2.length : Int) := wrap_id (by omega) (by omega)
  by_cases hl : x2.length ≤ 1048576
  · have h2 : ¬ (1048576 - (x2.length : Int)) < 0 := by omega
    obtain ⟨y, hb1, hb2, hb3⟩ := adjust_same x0 x1 x2 x3 x4 hl
    have e1 : ¬ (1 + 2 * (x2.length : Int)) < 0 := by omega
    have e2 : ¬ (1 + 2 * (y.1.length : Int)) < 0 := by omega
    simp [laws_FnExactAdjustTraverse, c_laws_FnExactAdjustTraverse, laws_szLegS, c_laws_szLegS, laws_toLeg, c_laws_toLeg, hw, h2, toLegS_id x2 hl w3, hb1, hb2, eqLegS_self x2 hl, eqLegS_self y.1 hb3, markLegS_eq x2 hl, markLegS_eq y.1 hb3, heldLegS_eq y.1.length hb3, e1, e2]
  · have h2 : (1048576 - (x2.length : Int)) < 0 := by omega
    simp [laws_FnExactAdjustTraverse, c_laws_FnExactAdjustTraverse, laws_szLegS, c_laws_szLegS, hw, h2]

end Go.Proofs.Yticcpkmednijlaa
