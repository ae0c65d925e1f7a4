/- A part of the proof of the law FnExactMisclosure: no condition of its own. -/
import Derived.Test.YtkcclgcmpdgdjaaClMFnExactMisclosure
import Derived.Test.YtkcclgcmpdgdjaaRaiU4
set_option linter.unusedVariables false
set_option linter.unusedSimpArgs false
namespace Go.Proofs.Ytkcclgcmpdgdjaa
open Go Go.Rai

abbrev tLeg : Ty := .struct [.int .i64, .int .i64]

theorem tLeg_wf {d : D} (h : wfD tLeg d) : ∃ a b : Int, d = .node [.int a, .int b] := by
  obtain ⟨l, rfl, x1, r1, rfl, ⟨a, rfl, _⟩, x2, r2, rfl, ⟨b, rfl, _⟩, h⟩ := h
  obtain rfl := h
  exact ⟨a, b, rfl⟩

theorem toLegS_id (l : List D) (hl : l.length ≤ 1048576) (w : ∀ d ∈ l, wfD tLeg d) : laws_toLegS l = some l := by
  have key : laws_toLegS_L3 l 0 (List.replicate l.length (.node [.int 0, .int 0])) = some l := by
    refine copy_loop (N := n_laws_toLegS_L3) (fun m i acc hi hacc => ?_) (fun m acc hacc => ?_)
    · obtain ⟨a, b, hd⟩ := tLeg_wf (w _ (get_mem hi))
      have hw : IntKind.i64.wrap ((i : Int) + 1) = (i : Int) + 1 := wrap_id (by omega) (by omega)
      have h2 : (i : Int) < acc.length := by omega
      have h3 : i + 1 ≤ acc.length := by omega
      have h1 : (i : Int) < l.length := by omega
      simp [n_laws_toLegS_L3, c_laws_toLegS_L3, laws_toLeg, c_laws_toLeg, h1, h2, h3, hw, hd, fld_node, toInt_int]
    · simp [n_laws_toLegS_L3, c_laws_toLegS_L3]
  have h4 : (l.length : Int) ≤ 4294967296 := by omega
  simp [laws_toLegS, c_laws_toLegS, key, h4]

theorem eqLegS_self (l : List D) (hl : l.length ≤ 1048576) : laws_eqLegS l l = some true := by
  have key : laws_eqLegS_L4 l l 0 = some (.inr ()) := by
    refine all_loop (N := fun n i => n_laws_eqLegS_L4 n l l i) (len := l.length) (fun m i hi => ?_) (fun m => ?_)
    · have hw : IntKind.i64.wrap ((i : Int) + 1) = (i : Int) + 1 := wrap_id (by omega) (by omega)
      have h1 : (i : Int) < l.length := by omega
      simp [n_laws_eqLegS_L4, c_laws_eqLegS_L4, laws_eqLeg, c_laws_eqLeg, h1, hw]
    · simp [n_laws_eqLegS_L4, c_laws_eqLegS_L4]
  simp [laws_eqLegS, c_laws_eqLegS, key]

theorem l1In_eq (x a b : Int) : spec_l1In x a b = some (btw x a b) := by
  unfold spec_l1In c_spec_l1In btw
  by_cases h : a ≤ x <;> simp [h]
theorem within_eq (x a b : Int) : impl_within x a b = some (btw x a b) := by
  unfold impl_within c_impl_within btw
  by_cases h : a ≤ x <;> simp [h]

def legB (d : D) : Bool := btw (d.fld 0).toInt (-100000) 100000 && btw (d.fld 1).toInt (-100000) 100000
def ptB (e n : Int) : Bool := btw e (-1000000) 1000000 && btw n (-1000000) 1000000

theorem point_eq (e n : Int) : spec_l17Point e n = some (ptB e n) := by
  simp only [spec_l17Point, c_spec_l17Point, l1In_eq, Option.bind_some, ptB]
  cases btw e (-1000000) 1000000 <;> simp
theorem isPoint_eq (e n : Int) : impl_isPoint e n = some (ptB e n) := by
  simp only [impl_isPoint, c_impl_isPoint, impl_isCoordinate, c_impl_isCoordinate, within_eq, Option.bind_some, ptB]
  cases btw e (-1000000) 1000000 <;> simp

/-- the points that legs reach -/
def walk : List D → Int → Int → Option (List D)
  | [], _, _ => some []
  | d :: l, e, n => bif ptB (e + (d.fld 0).toInt) (n + (d.fld 1).toInt) then (walk l (e + (d.fld 0).toInt) (n + (d.fld 1).toInt)).map (fun r => .node [.int (e + (d.fld 0).toInt), .int (n + (d.fld 1).toInt)] :: r) else none

theorem walk_len : ∀ {l : List D} {e n : Int} {r : List D}, walk l e n = some r → r.length = l.length
  | [], e, n, r, h => by simp [walk] at h; subst h; rfl
  | d :: l, e, n, r, h => by
    unfold walk at h
    cases hp : ptB (e + (d.fld 0).toInt) (n + (d.fld 1).toInt) with
    | false => rw [hp] at h; cases h
    | true =>
      rw [hp, cond_true] at h
      cases hw : walk l (e + (d.fld 0).toInt) (n + (d.fld 1).toInt) with
      | none => rw [hw] at h; cases h
      | some r' =>
        rw [hw] at h
        simp only [Option.map_some, Option.some.injEq] at h
        subst h
        simp [walk_len hw]

theorem legs_eq (l : List D) (hl : l.length ≤ 1048576) : spec_l17Legs l = some (btw l.length 1 20 && l.all legB) := by
  obtain ⟨y, h1, h2⟩ := loop_post (N := fun m (i : Nat) => n_spec_l17Legs_L2 m l (i : Int)) (fun i => i ≤ l.length) (fun i => l.length - i)
    (fun i y => match y with | .inl (_, b) => b = false ∧ (l.drop i).all legB = false | .inr z => z = l ∧ (l.length ≤ 20 → (l.drop i).all legB = true)) (by
    intro i hi
    by_cases hlt : i < l.length
    · have hlt' : (i : Int) < l.length := by omega
      by_cases h20 : (i : Int) ≤ 20
      · cases ha : btw ((l[i]?.getD (D.int 0)).fld 0).toInt (-100000) 100000 with
        | false =>
          refine .inl ⟨.inl (l, false), ⟨rfl, ?_⟩, fun m => ?_⟩
          · rw [drop_cons hlt]; simp [legB, ha]
          · simp [n_spec_l17Legs_L2, c_spec_l17Legs_L2, hlt', h20, l1In_eq, ha]
        | true =>
          cases hb : btw ((l[i]?.getD (D.int 0)).fld 1).toInt (-100000) 100000 with
          | false =>
            refine .inl ⟨.inl (l, false), ⟨rfl, ?_⟩, fun m => ?_⟩
            · rw [drop_cons hlt]; simp [legB, ha, hb]
            · simp [n_spec_l17Legs_L2, c_spec_l17Legs_L2, hlt', h20, l1In_eq, ha, hb]
          | true =>
            refine .inr ⟨i + 1, by omega, by omega, fun y hy => ?_, fun m => ?_⟩
            · rw [drop_cons hlt]
              cases y with
              | inl y => exact ⟨hy.1, by simpa [legB, ha, hb] using hy.2⟩
              | inr y => exact ⟨hy.1, fun h => by simpa [legB, ha, hb] using hy.2 h⟩
            · simp [n_spec_l17Legs_L2, c_spec_l17Legs_L2, hlt', h20, l1In_eq, ha, hb, succ_wrap (show i < 4611686018427387904 by omega)]
      · exact .inl ⟨.inr l, ⟨rfl, fun h => by omega⟩, fun m => by simp [n_spec_l17Legs_L2, c_spec_l17Legs_L2, hlt', h20]⟩
    · have hlt' : ¬ (i : Int) < l.length := by omega
      exact .inl ⟨.inr l, ⟨rfl, fun _ => by rw [drop_end hlt]; rfl⟩, fun m => by simp [n_spec_l17Legs_L2, c_spec_l17Legs_L2, hlt']⟩) 0 (by omega)
  have h1' : spec_l17Legs_L2 l 0 = some y := h1
  simp only [spec_l17Legs, c_spec_l17Legs, h1', Option.bind_some, l1In_eq]
  cases y with
  | inl y =>
    obtain ⟨e1, e2⟩ := h2
    simp only [List.drop_zero] at e2
    simp [e1, e2]
  | inr z =>
    obtain ⟨rfl, e2⟩ := h2
    simp only [List.drop_zero] at e2
    simp only [Sum.elim_inr, Option.some.injEq]
    cases hb : btw (z.length : Int) 1 20 with
    | false => simp
    | true =>
      have := btw_iff.1 hb
      rw [e2 (by omega)]; rfl

/-- where a traverse leads -/
def trav (e n : Int) (l : List D) : List D × Bool :=
  bif ptB e n && (btw l.length 1 20 && l.all legB) then (match walk l e n with | some r => (r, true) | none => ([], false)) else ([], false)

theorem legB_bd {d : D} (h : legB d = true) : -100000 ≤ (d.fld 0).toInt ∧ (d.fld 0).toInt ≤ 100000 ∧ -100000 ≤ (d.fld 1).toInt ∧ (d.fld 1).toInt ≤ 100000 := by
  simp only [legB, Bool.and_eq_true, btw_iff] at h; omega
theorem ptB_bd {e n : Int} (h : ptB e n = true) : -1000000 ≤ e ∧ e ≤ 1000000 ∧ -1000000 ≤ n ∧ n ≤ 1000000 := by
  simp only [ptB, Bool.and_eq_true, btw_iff] at h; omega

theorem points_loop (l : List D) (hl : l.length ≤ 20) (ha : l.all legB = true) (e n : Int) (hp : ptB e n = true) :
    ∃ y, spec_l17Points_L6 l 0 [] e n = some y ∧ match y with | .inl (b, z, _) => b = false ∧ z = [] ∧ walk l e n = none | .inr ps => walk l e n = some ps := by
  obtain ⟨y, h1, h2⟩ := loop_post (N := fun m (s : Nat × List D × Int × Int) => n_spec_l17Points_L6 m l (s.1 : Int) s.2.1 s.2.2.1 s.2.2.2) (fun s => s.1 ≤ l.length ∧ s.2.1.length = s.1 ∧ ptB s.2.2.1 s.2.2.2 = true) (fun s => l.length - s.1)
    (fun s y => match y with | .inl (b, z, _) => b = false ∧ z = [] ∧ walk (l.drop s.1) s.2.2.1 s.2.2.2 = none | .inr ps => ∃ r, walk (l.drop s.1) s.2.2.1 s.2.2.2 = some r ∧ ps = s.2.1 ++ r) (by
    rintro ⟨i, acc, e, n⟩ ⟨hi, hacc, hp⟩
    simp only at hi hacc hp ⊢
    by_cases hlt : i < l.length
    · have hlt' : (i : Int) < l.length := by omega
      have hd : legB (l[i]?.getD (D.int 0)) = true := List.all_eq_true.1 ha _ (get_mem hlt)
      have b1 := legB_bd hd
      have b2 := ptB_bd hp
      have w1 : IntKind.i64.wrap (e + ((l[i]?.getD (D.int 0)).fld 0).toInt) = e + ((l[i]?.getD (D.int 0)).fld 0).toInt := wrap_id (by omega) (by omega)
      have w2 : IntKind.i64.wrap (n + ((l[i]?.getD (D.int 0)).fld 1).toInt) = n + ((l[i]?.getD (D.int 0)).fld 1).toInt := wrap_id (by omega) (by omega)
      cases hq : ptB (e + ((l[i]?.getD (D.int 0)).fld 0).toInt) (n + ((l[i]?.getD (D.int 0)).fld 1).toInt) with
      | false =>
        refine .inl ⟨.inl (false, [], acc), ⟨rfl, rfl, ?_⟩, fun m => ?_⟩
        · rw [drop_cons hlt, walk, hq]; rfl
        · simp [n_spec_l17Points_L6, c_spec_l17Points_L6, hlt', point_eq, w1, w2, hq]
      | true =>
        have h5 : acc.length + 1 ≤ 4294967296 := by omega
        refine .inr ⟨(i + 1, acc ++ [.node [.int (e + ((l[i]?.getD (D.int 0)).fld 0).toInt), .int (n + ((l[i]?.getD (D.int 0)).fld 1).toInt)]], e + ((l[i]?.getD (D.int 0)).fld 0).toInt, n + ((l[i]?.getD (D.int 0)).fld 1).toInt), ⟨by simp; omega, by simp [hacc], hq⟩, by simp; omega, fun y hy => ?_, fun m => ?_⟩
        · rw [drop_cons hlt, walk, hq, cond_true]
          cases y with
          | inl y => obtain ⟨y1, y2, y3⟩ := y; exact ⟨hy.1, hy.2.1, by rw [hy.2.2]; rfl⟩
          | inr ps => obtain ⟨r, k1, k2⟩ := hy; exact ⟨_, by rw [k1]; rfl, by rw [k2]; simp⟩
        · simp [n_spec_l17Points_L6, c_spec_l17Points_L6, hlt', point_eq, w1, w2, hq, h5, succ_wrap (show i < 4611686018427387904 by omega)]
    · have hlt' : ¬ (i : Int) < l.length := by omega
      exact .inl ⟨.inr acc, ⟨[], by rw [drop_end hlt]; rfl, by simp⟩, fun m => by simp [n_spec_l17Points_L6, c_spec_l17Points_L6, hlt']⟩) (0, [], e, n) ⟨by simp, rfl, hp⟩
  refine ⟨y, h1, ?_⟩
  cases y with
  | inl y => obtain ⟨y1, y2, y3⟩ := y; simpa using h2
  | inr ps => obtain ⟨r, k1, k2⟩ := h2; simp at k1 k2; rw [k2]; exact k1

theorem points_eq (e n : Int) (l : List D) (hl : l.length ≤ 1048576) : spec_l17Points e n l = some (trav e n l) := by
  simp only [spec_l17Points, c_spec_l17Points, legs_eq l hl, point_eq, Option.bind_some, trav]
  cases ha : (btw (l.length : Int) 1 20 && l.all legB) with
  | false => simp
  | true =>
    cases hp : ptB e n with
    | false => simp
    | true =>
      rw [Bool.and_eq_true, btw_iff] at ha
      obtain ⟨y, h1, h2⟩ := points_loop l (by omega) ha.2 e n hp
      simp only [h1, Bool.not_true, cond_false, Option.bind_some, Bool.and_true, cond_true]
      cases y with
      | inl y => obtain ⟨y1, y2, y3⟩ := y; obtain ⟨rfl, rfl, k⟩ := h2; simp [k]
      | inr ps => simp at h2; simp [h2]

theorem reached_loop (l : List D) (hl : l.length ≤ 20) (e n : Int) (hp : ptB e n = true) :
    ∃ y, impl_reached_L6 l l.length 0 [] e n = some y ∧ match y with | .inl (b, _) => b = false ∧ (l.all legB = true → walk l e n = none) | .inr ps => l.all legB = true ∧ walk l e n = some ps := by
  obtain ⟨y, h1, h2⟩ := loop_post (N := fun m (s : Nat × List D × Int × Int) => n_impl_reached_L6 m l l.length (s.1 : Int) s.2.1 s.2.2.1 s.2.2.2) (fun s => s.1 ≤ l.length ∧ s.2.1.length = s.1 ∧ ptB s.2.2.1 s.2.2.2 = true) (fun s => l.length - s.1)
    (fun s y => match y with | .inl (b, _) => b = false ∧ ((l.drop s.1).all legB = true → walk (l.drop s.1) s.2.2.1 s.2.2.2 = none) | .inr ps => (l.drop s.1).all legB = true ∧ ∃ r, walk (l.drop s.1) s.2.2.1 s.2.2.2 = some r ∧ ps = s.2.1 ++ r) (by
    rintro ⟨i, acc, e, n⟩ ⟨hi, hacc, hp⟩
    simp only at hi hacc hp ⊢
    by_cases hlt : i < l.length
    · have hlt' : (i : Int) < l.length := by omega
      cases ha : btw ((l[i]?.getD (D.int 0)).fld 0).toInt (-100000) 100000 with
      | false =>
        refine .inl ⟨.inl (false, acc), ⟨rfl, fun h => ?_⟩, fun m => ?_⟩
        · rw [drop_cons hlt] at h; simp [legB, ha] at h
        · simp [n_impl_reached_L6, c_impl_reached_L6, hlt', within_eq, ha]
      | true =>
      cases hb : btw ((l[i]?.getD (D.int 0)).fld 1).toInt (-100000) 100000 with
      | false =>
        refine .inl ⟨.inl (false, acc), ⟨rfl, fun h => ?_⟩, fun m => ?_⟩
        · rw [drop_cons hlt] at h; simp [legB, hb] at h
        · simp [n_impl_reached_L6, c_impl_reached_L6, hlt', within_eq, ha, hb]
      | true =>
      have hd : legB (l[i]?.getD (D.int 0)) = true := by simp [legB, ha, hb]
      have b1 := legB_bd hd
      have b2 := ptB_bd hp
      have w1 : IntKind.i64.wrap (e + ((l[i]?.getD (D.int 0)).fld 0).toInt) = e + ((l[i]?.getD (D.int 0)).fld 0).toInt := wrap_id (by omega) (by omega)
      have w2 : IntKind.i64.wrap (n + ((l[i]?.getD (D.int 0)).fld 1).toInt) = n + ((l[i]?.getD (D.int 0)).fld 1).toInt := wrap_id (by omega) (by omega)
      cases hq : ptB (e + ((l[i]?.getD (D.int 0)).fld 0).toInt) (n + ((l[i]?.getD (D.int 0)).fld 1).toInt) with
      | false =>
        refine .inl ⟨.inl (false, acc), ⟨rfl, fun _ => ?_⟩, fun m => ?_⟩
        · rw [drop_cons hlt, walk, hq]; rfl
        · simp [n_impl_reached_L6, c_impl_reached_L6, hlt', within_eq, isPoint_eq, ha, hb, w1, w2, hq]
      | true =>
        have h5 : acc.length + 1 ≤ 4294967296 := by omega
        refine .inr ⟨(i + 1, acc ++ [.node [.int (e + ((l[i]?.getD (D.int 0)).fld 0).toInt), .int (n + ((l[i]?.getD (D.int 0)).fld 1).toInt)]], e + ((l[i]?.getD (D.int 0)).fld 0).toInt, n + ((l[i]?.getD (D.int 0)).fld 1).toInt), ⟨by simp; omega, by simp [hacc], hq⟩, by simp; omega, fun y hy => ?_, fun m => ?_⟩
        · rw [drop_cons hlt, walk, hq, cond_true]
          cases y with
          | inl y => exact ⟨hy.1, fun h => by rw [hy.2 (by simpa [hd] using h)]; rfl⟩
          | inr ps => obtain ⟨k0, r, k1, k2⟩ := hy; exact ⟨by simpa [hd] using k0, _, by rw [k1]; rfl, by rw [k2]; simp⟩
        · simp [n_impl_reached_L6, c_impl_reached_L6, hlt', within_eq, isPoint_eq, ha, hb, w1, w2, hq, h5, succ_wrap (show i < 4611686018427387904 by omega)]
    · have hlt' : ¬ (i : Int) < l.length := by omega
      exact .inl ⟨.inr acc, ⟨by rw [drop_end hlt]; rfl, [], by rw [drop_end hlt]; rfl, by simp⟩, fun m => by simp [n_impl_reached_L6, c_impl_reached_L6, hlt']⟩) (0, [], e, n) ⟨by simp, rfl, hp⟩
  refine ⟨y, h1, ?_⟩
  cases y with
  | inl y => simpa using h2
  | inr ps => obtain ⟨k0, r, k1, k2⟩ := h2; simp at k0 k1 k2; rw [k2]; exact ⟨by simpa using k0, k1⟩

theorem reached_eq (e n : Int) (l : List D) : impl_reached e n l = some (trav e n l) := by
  simp only [impl_reached, c_impl_reached, within_eq, isPoint_eq, Option.bind_some, trav]
  cases hp : ptB e n with
  | false => simp
  | true =>
    cases hb : btw (l.length : Int) 1 20 with
    | false => simp
    | true =>
      have hb' := btw_iff.1 hb
      obtain ⟨y, h1, h2⟩ := reached_loop l (by omega) e n hp
      simp only [h1, Bool.not_true, cond_false, Option.bind_some, Bool.true_and]
      cases y with
      | inl y =>
        obtain ⟨k1, k2⟩ := h2
        cases ha : l.all legB with
        | false => simp [k1]
        | true => simp [k1, k2 ha]
      | inr ps => obtain ⟨k1, k2⟩ := h2; simp [k1, k2]

theorem trav_len {e n : Int} {l : List D} (h : (trav e n l).2 = true) : 1 ≤ (trav e n l).1.length ∧ (trav e n l).1.length ≤ 20 := by
  unfold trav at h ⊢
  cases hc : (ptB e n && (btw (l.length : Int) 1 20 && l.all legB)) with
  | false => rw [hc] at h; cases h
  | true =>
    rw [hc] at h
    simp only [cond_true] at h ⊢
    simp only [Bool.and_eq_true, btw_iff] at hc
    cases hw : walk l e n with
    | none => rw [hw] at h; cases h
    | some r => have := walk_len hw; simp only; omega

theorem ends_same (e n : Int) (l : List D) (hl : l.length ≤ 1048576) : ∃ y, spec_TraverseEnd e n l = some y ∧ impl_TraverseEnd e n l = some y := by
  simp only [spec_TraverseEnd, c_spec_TraverseEnd, impl_TraverseEnd, c_impl_TraverseEnd, points_eq e n l hl, reached_eq, Option.bind_some]
  cases hb : (trav e n l).2 with
  | false => exact ⟨_, rfl, rfl⟩
  | true =>
    obtain ⟨h1, h2⟩ := trav_len hb
    rw [pred_wrap (by omega) (by omega)]
    have h3 : (((trav e n l).1.length - 1 : Nat) : Int) < (trav e n l).1.length := by omega
    have h4 : (trav e n l).1.length - 1 + 1 ≤ (trav e n l).1.length := by omega
    simp only [Bool.not_true, cond_false, Int.natCast_nonneg, h3, and_self, if_true, Int.toNat_natCast, h4]
    exact ⟨_, rfl⟩

theorem mis_same (e n : Int) (l : List D) (a b : Int) (hl : l.length ≤ 1048576) : ∃ y, spec_Misclosure e n l a b = some y ∧ impl_Misclosure e n l a b = some y := by
  obtain ⟨y, h1, h2⟩ := ends_same e n l hl
  simp only [spec_Misclosure, c_spec_Misclosure, impl_Misclosure, c_impl_Misclosure, h1, h2, point_eq, isPoint_eq, Option.bind_some]
  cases y.2.2 with
  | false => exact ⟨_, rfl, rfl⟩
  | true =>
    cases ptB a b with
    | false => exact ⟨_, rfl, rfl⟩
    | true => exact ⟨_, rfl, rfl⟩

theorem pure_FnExactMisclosure (x0 : Int) (x1 : Int) (x2 : List D) (x3 : Int) (x4 : Int) (h1 : (Lit.int .i64 x0).wf = true) (h2 : (Lit.int .i64 x1).wf = true) (h3 : x2.length ≤ maxLen) (w3 : ∀ d ∈ x2, wfD (.struct [.int .i64, .int .i64]) d) (h5 : (Lit.int .i64 x3).wf = true) (h6 : (Lit.int .i64 x4).wf = true) : laws_FnExactMisclosure x0 x1 x2 x3 x4 = some true := by
  unfold maxLen at h3
  have hw : IntKind.i64.wrap (1048576 - (x2.length : Int)) = 1048576 - (x2.length : Int) := wrap_id (by omega) (by omega)
  by_cases hl : x2.length ≤ 1048576
  · have h2 : ¬ (1048576 - (x2.length : Int)) < 0 := by omega
    obtain ⟨y, hb1, hb2⟩ := mis_same x0 x1 x2 x3 x4 hl
    simp [laws_FnExactMisclosure, c_laws_FnExactMisclosure, laws_szLegS, c_laws_szLegS, laws_toLeg, c_laws_toLeg, laws_eqLeg, c_laws_eqLeg, hw, h2, toLegS_id x2 hl w3, hb1, hb2, eqLegS_self x2 hl]
  · have h2 : (1048576 - (x2.length : Int)) < 0 := by omega
    simp [laws_FnExactMisclosure, c_laws_FnExactMisclosure, laws_szLegS, c_laws_szLegS, hw, h2]

end Go.Proofs.Ytkcclgcmpdgdjaa
