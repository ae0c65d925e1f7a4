/- The law FnTraverses over plain values. No condition beside those of the statement. -/
import Derived.Test.YticcpkmednijlaaClMFnTraverses
import Derived.Test.YticcpkmednijlaaRaiU5
set_option linter.unusedVariables false
set_option linter.unusedSimpArgs false
set_option maxRecDepth 100000
namespace Go.Proofs.Yticcpkmednijlaa
open Go Go.Rai

theorem laws_FnTraverses_L18_lim {ι : Type} {R : ι → ι → Prop} (hD : Dir R) {F : Int → Int → Int → List D → Int → Int → List D → Int → Int → Option ((Bool × Int × Int × List D × Int × Int) ⊕ (Int × Int × List D × Int × Int))} {Fs : ι → Int → Int → Int → List D → Int → Int → List D → Int → Int → Option ((Bool × Int × Int × List D × Int × Int) ⊕ (Int × Int × List D × Int × Int))} (h : ∀ x0 x1 x2 x3 x4 x5 x6 x7 x8, Lim R (F x0 x1 x2 x3 x4 x5 x6 x7 x8) (fun i => Fs i x0 x1 x2 x3 x4 x5 x6 x7 x8)) (x0 : Int) (x1 : Int) (x2 : Int) (x3 : List D) (x4 : Int) (x5 : Int) (x6 : List D) (x7 : Int) (x8 : Int)  : Lim R (c_laws_FnTraverses_L18 F x0 x1 x2 x3 x4 x5 x6 x7 x8 some) (fun i => c_laws_FnTraverses_L18 (Fs i) x0 x1 x2 x3 x4 x5 x6 x7 x8 some) := by
  unfold c_laws_FnTraverses_L18
  repeat' first
    | exact Lim.const hD
    | exact h _ _ _ _ _ _ _ _ _
    | apply Lim.ite
    | apply Lim.cond
    | apply Lim.bind hD
    | apply Lim.sum
    | intro _
theorem laws_FnTraverses_L18_fx (x0 : Int) (x1 : Int) (x2 : Int) (x3 : List D) (x4 : Int) (x5 : Int) (x6 : List D) (x7 : Int) (x8 : Int)  : laws_FnTraverses_L18 x0 x1 x2 x3 x4 x5 x6 x7 x8 = c_laws_FnTraverses_L18 laws_FnTraverses_L18 x0 x1 x2 x3 x4 x5 x6 x7 x8 some :=
  fix_eq (N := fun n (p : Int × Int × Int × List D × Int × Int × List D × Int × Int) => n_laws_FnTraverses_L18 n p.1 p.2.1 p.2.2.1 p.2.2.2.1 p.2.2.2.2.1 p.2.2.2.2.2.1 p.2.2.2.2.2.2.1 p.2.2.2.2.2.2.2.1 p.2.2.2.2.2.2.2.2) (C := fun f p => c_laws_FnTraverses_L18 (fun x0 x1 x2 x3 x4 x5 x6 x7 x8 => f (x0, x1, x2, x3, x4, x5, x6, x7, x8)) p.1 p.2.1 p.2.2.1 p.2.2.2.1 p.2.2.2.2.1 p.2.2.2.2.2.1 p.2.2.2.2.2.2.1 p.2.2.2.2.2.2.2.1 p.2.2.2.2.2.2.2.2 some) (fun _ => rfl) (fun _ _ => rfl) (fun hD f fs h p => laws_FnTraverses_L18_lim hD (fun x0 x1 x2 x3 x4 x5 x6 x7 x8 => h (x0, x1, x2, x3, x4, x5, x6, x7, x8)) _ _ _ _ _ _ _ _ _) (x0, x1, x2, x3, x4, x5, x6, x7, x8)
theorem l1In_eq (x a b : Int) : spec_l1In x a b = some (btw x a b) := by
  unfold spec_l1In c_spec_l1In btw
  by_cases h : a ≤ x <;> simp [h]
theorem within_eq (x a b : Int) : impl_within x a b = some (btw x a b) := by
  unfold impl_within c_impl_within btw
  by_cases h : a ≤ x <;> simp [h]


/-- of an answer that does not depend on how far one counts: there is one, and it has a property -/
def Tt {ι β : Type} (I : ι → Prop) (P : β → Prop) (e : ι → Option β) : Prop := ∃ y, P y ∧ ∀ i, I i → e i = some y

theorem Tt.pure {ι β : Type} {I : ι → Prop} {P : β → Prop} {y : β} (h : P y) : Tt I P (fun _ => some y) := ⟨y, h, fun _ _ => rfl⟩
theorem Tt.bind {ι α β : Type} {I : ι → Prop} {Q : α → Prop} {P : β → Prop} {t : ι → Option α} {f : α → ι → Option β} (h : Tt I Q t) (k : ∀ v, Q v → Tt I P (fun i => f v i)) :
    Tt I P (fun i => (t i).bind (fun v => f v i)) := by
  obtain ⟨v, hv, ht⟩ := h
  obtain ⟨y, hy, hk⟩ := k v hv
  exact ⟨y, hy, fun i hi => by show (t i).bind _ = _; rw [ht i hi]; exact hk i hi⟩
theorem Tt.ite {ι β : Type} {I : ι → Prop} {P : β → Prop} {c : Prop} [Decidable c] {x y : ι → Option β} (h : c) (k : Tt I P x) : Tt I P (fun i => if c then x i else y i) := by
  simpa only [if_pos h] using k
theorem Tt.cnd {ι β : Type} {I : ι → Prop} {P : β → Prop} {b : Bool} {x y : ι → Option β} (h1 : b = true → Tt I P x) (h2 : b = false → Tt I P y) : Tt I P (fun i => bif b then x i else y i) := by
  cases b with
  | true => exact h1 rfl
  | false => exact h2 rfl
theorem Tt.dec {ι β : Type} {I : ι → Prop} {P : β → Prop} {p : Prop} [Decidable p] {x y : ι → Option β} (h1 : p → Tt I P x) (h2 : ¬ p → Tt I P y) : Tt I P (fun i => bif decide p then x i else y i) :=
  Tt.cnd (fun h => h1 (of_decide_eq_true h)) (fun h => h2 (of_decide_eq_false h))
theorem Tt.ndec {ι β : Type} {I : ι → Prop} {P : β → Prop} {p : Prop} [Decidable p] {x y : ι → Option β} (h1 : ¬ p → Tt I P x) (h2 : p → Tt I P y) : Tt I P (fun i => bif !decide p then x i else y i) := by
  by_cases h : p
  · simpa only [decide_eq_true h, Bool.not_true, cond_false] using h2 h
  · simpa only [decide_eq_false h, Bool.not_false, cond_true] using h1 h
theorem Tt.con {ι β : Type} {I : ι → Prop} {Q : β → Prop} {t : Option β} (h : ∃ y, t = some y ∧ Q y) : Tt I Q (fun _ => t) := by
  obtain ⟨y, h1, h2⟩ := h
  exact ⟨y, h2, fun _ _ => h1⟩
theorem Tt.mono {ι β : Type} {I J : ι → Prop} {P Q : β → Prop} {e : ι → Option β} (h : Tt I P e) (hI : ∀ i, J i → I i) (hP : ∀ y, P y → Q y) : Tt J Q e := by
  obtain ⟨y, h1, h2⟩ := h
  exact ⟨y, hP y h1, fun i hi => h2 i (hI i hi)⟩
theorem Tt.out {β : Type} {P : β → Prop} {t : Option β} (h : Tt (fun _ : Unit => True) P (fun _ => t)) : ∃ y, t = some y ∧ P y := by
  obtain ⟨y, h1, h2⟩ := h
  exact ⟨y, h2 () trivial, h1⟩

/-- a loop -/
theorem Tt.loop {X Y : Type} (N : Nat → X → Option Y) (Inv : X → Prop) (μ : X → Nat) (Post : X → Y → Prop)
    (step : ∀ x, Inv x → (∀ x', Inv x' → μ x' < μ x → Tt (fun m => μ x ≤ m) (Post x') (fun m => N m x')) → Tt (fun m => μ x ≤ m) (Post x) (fun m => N (m + 1) x)) :
    ∀ x, Inv x → ∃ y, ev (fun n => N n x) = some y ∧ Post x y := by
  have key : ∀ k x, Inv x → μ x ≤ k → Tt (fun m => μ x < m) (Post x) (fun m => N m x) := by
    intro k
    induction k with
    | zero =>
      intro x hi hk
      obtain ⟨y, h1, h2⟩ := step x hi (fun x' _ h => absurd h (by omega))
      refine ⟨y, h1, fun m hm => ?_⟩
      obtain ⟨m, rfl⟩ : ∃ m', m = m' + 1 := ⟨m - 1, by omega⟩
      exact h2 m (by omega)
    | succ k ih =>
      intro x hi hk
      obtain ⟨y, h1, h2⟩ := step x hi (fun x' hx' h => (ih x' hx' (by omega)).mono (fun m hm => by omega) (fun _ h => h))
      refine ⟨y, h1, fun m hm => ?_⟩
      obtain ⟨m, rfl⟩ : ∃ m', m = m' + 1 := ⟨m - 1, by omega⟩
      exact h2 m (by omega)
  intro x hi
  obtain ⟨y, h1, h2⟩ := key (μ x) x hi (Nat.le_refl _)
  exact ⟨y, ev_eq (μ x + 1) (fun m hm => h2 m (by omega)), h1⟩

theorem wq (n : Int) : IntKind.i64.wrap n = (n + 9223372036854775808) % 18446744073709551616 - 9223372036854775808 := by
  unfold IntKind.wrap
  simp [IntKind.signed, IntKind.bits]
  omega

/-- bytes of a code -/
def okC (c : List D) : Prop := c.length ≤ 65536 ∧ ∀ d ∈ c, 0 ≤ d.toInt ∧ d.toInt ≤ 255

theorem uwrap (n : Int) : IntKind.u64.wrap n = n % 18446744073709551616 := by
  unfold IntKind.wrap
  simp [IntKind.signed, IntKind.bits]

theorem and255 (r : Int) : 0 ≤ IntKind.i64.wrap (IntKind.u64.wrap (((BitVec.ofInt IntKind.u64.bits r &&& BitVec.ofInt IntKind.u64.bits 255).toNat : Nat) : Int)) ∧ IntKind.i64.wrap (IntKind.u64.wrap (((BitVec.ofInt IntKind.u64.bits r &&& BitVec.ofInt IntKind.u64.bits 255).toNat : Nat) : Int)) ≤ 255 := by
  have h2 : (BitVec.ofInt IntKind.u64.bits r &&& BitVec.ofInt IntKind.u64.bits 255).toNat ≤ (BitVec.ofInt IntKind.u64.bits 255).toNat := by
    rw [BitVec.toNat_and]; exact Nat.and_le_right
  have h3 : (BitVec.ofInt IntKind.u64.bits 255).toNat = 255 := by decide
  rw [h3] at h2
  rw [uwrap, wq]
  omega

theorem next_tot (c : List D) (h : okC c) (p s : Int) (hp : 0 ≤ p ∧ p ≤ 1099511627776) : ∃ y, spec_l1Cur_next c p s = some y ∧ (0 ≤ y.1 ∧ y.1 ≤ 255 ∧ y.2.1 = c ∧ y.2.2.1 = p + 1) := by
  have hw : IntKind.i64.wrap (p + 1) = p + 1 := wrap_id (by omega) (by omega)
  have a1 := fun r => and255 r
  refine Tt.out ?_
  unfold spec_l1Cur_next c_spec_l1Cur_next
  rw [hw]
  by_cases hpl : p < (c.length : Int)
  · rw [decide_eq_true hpl, cond_true]
    have hd := h.2 _ (getD_mem (show p.toNat < c.length by omega))
    have hv : IntKind.i64.wrap (c.getD p.toNat (D.int 0)).toInt = (c.getD p.toNat (D.int 0)).toInt := wrap_id (by omega) (by omega)
    refine Tt.ite (by omega) ?_
    refine Tt.dec (fun _ => ?_) (fun hn => absurd (show p + 1 ≤ (c.length : Int) by omega) hn)
    refine Tt.pure ?_
    exact ⟨by rw [hv]; exact hd.1, by rw [hv]; exact hd.2, rfl, rfl⟩
  · rw [decide_eq_false hpl, cond_false]
    refine Tt.dec (fun hn => by exfalso; omega) (fun _ => ?_)
    refine Tt.ite (by decide) ?_
    refine Tt.pure ?_
    exact ⟨(a1 _).1, (a1 _).2, rfl, rfl⟩

attribute [local irreducible] spec_l1Cur_next

theorem pick_tot (c : List D) (h : okC c) (p s n : Int) (hp : 0 ≤ p ∧ p ≤ 1099511627770) (hn : n ≤ 65536) : ∃ y, spec_l1Cur_pick c p s n = some y ∧ (0 ≤ y.1 ∧ (y.1 < n ∨ y.1 = 0) ∧ y.2.1 = c ∧ p ≤ y.2.2.1 ∧ y.2.2.1 ≤ p + 2) := by
  refine Tt.out ?_
  unfold spec_l1Cur_pick c_spec_l1Cur_pick
  refine Tt.dec (fun _ => ?_) (fun hn1 => ?_)
  · refine Tt.pure ?_
    exact ⟨by simp, .inr rfl, rfl, by simp, by simp only; omega⟩
  · refine Tt.bind (Tt.con (next_tot c h p s (by omega))) (fun v hv => ?_)
    obtain ⟨v1, v2, v3, v4⟩ := hv
    rw [v3, v4]
    refine Tt.dec (fun _ => ?_) (fun _ => ?_)
    · refine Tt.bind (Tt.con (next_tot c h (p + 1) _ (by omega))) (fun w hw => ?_)
      obtain ⟨w1, w2, w3, w4⟩ := hw
      refine Tt.ite (by omega) ?_
      have hq : IntKind.i64.wrap (IntKind.i64.wrap (v.1 * 256) + w.1) = v.1 * 256 + w.1 := by
        rw [wrap_id (n := v.1 * 256) (by omega) (by omega), wrap_id (by omega) (by omega)]
      have hm : (v.1 * 256 + w.1).tmod n = (v.1 * 256 + w.1) % n := Int.tmod_eq_emod_of_nonneg (by omega)
      have m1 := Int.emod_nonneg (v.1 * 256 + w.1) (show n ≠ 0 by omega)
      have m2 := Int.emod_lt_of_pos (v.1 * 256 + w.1) (show 0 < n by omega)
      refine Tt.pure ?_
      exact ⟨by simp only; rw [hq, hm]; exact m1, .inl (by simp only; rw [hq, hm]; exact m2), w3, by simp only; omega, by simp only; omega⟩
    · refine Tt.ite (by omega) ?_
      have hm : v.1.tmod n = v.1 % n := Int.tmod_eq_emod_of_nonneg v1
      have m1 := Int.emod_nonneg v.1 (show n ≠ 0 by omega)
      have m2 := Int.emod_lt_of_pos v.1 (show 0 < n by omega)
      refine Tt.pure ?_
      exact ⟨by simp only; rw [hm]; exact m1, .inl (by simp only; rw [hm]; exact m2), rfl, by simp only; omega, by simp only; omega⟩

attribute [local irreducible] spec_l1Cur_pick

theorem among_tot (c : List D) (h : okC c) (p s : Int) (l : List D) (hp : 0 ≤ p ∧ p ≤ 1099511627770) (hl : 1 ≤ l.length ∧ l.length ≤ 65536) : ∃ y, spec_l1Cur_among c p s l = some y ∧ ((∃ d ∈ l, y.1 = d.toInt) ∧ y.2.1 = c ∧ p ≤ y.2.2.1 ∧ y.2.2.1 ≤ p + 2) := by
  refine Tt.out ?_
  unfold spec_l1Cur_among c_spec_l1Cur_among
  refine Tt.bind (Tt.con (pick_tot c h p s _ hp (by omega))) (fun v hv => ?_)
  refine Tt.ite (by omega) ?_
  refine Tt.ite (by omega) ?_
  refine Tt.pure ?_
  exact ⟨⟨_, getD_mem (show v.1.toNat < l.length by omega), rfl⟩, hv.2.2.1, hv.2.2.2.1, hv.2.2.2.2⟩

theorem one_tot (c : List D) (h : okC c) (p s n : Int) (hp : 0 ≤ p ∧ p ≤ 1099511627770) (hn : n ≤ 65536) : ∃ y, spec_l1Cur_one c p s n = some y ∧ (y.2.1 = c ∧ p ≤ y.2.2.1 ∧ y.2.2.1 ≤ p + 2) := by
  refine Tt.out ?_
  unfold spec_l1Cur_one c_spec_l1Cur_one
  refine Tt.bind (Tt.con (pick_tot c h p s n hp hn)) (fun v hv => ?_)
  refine Tt.pure ?_
  exact ⟨hv.2.2.1, hv.2.2.2.1, hv.2.2.2.2⟩
attribute [local irreducible] spec_l1Cur_among spec_l1Cur_one

theorem one_tot' (c : List D) (h : okC c) (p s n : Int) (hp : 0 ≤ p ∧ p ≤ 1099511627770) (hn : n ≤ 65536) : ∃ y, spec_l1Cur_one c p s n = some y ∧ (True ∧ y.2.1 = c ∧ p ≤ y.2.2.1 ∧ y.2.2.1 ≤ p + 2) := by
  obtain ⟨y, h1, h2⟩ := one_tot c h p s n hp hn
  exact ⟨y, h1, trivial, h2⟩

theorem okB {d : D} (h : wfD (.int .u8) d) : 0 ≤ d.toInt ∧ d.toInt ≤ 255 := by
  obtain ⟨n, rfl, h2⟩ := h
  simp [Lit.wf, IntKind.min, IntKind.max, IntKind.signed, IntKind.bits] at h2
  simp only [toInt_int]; omega

theorem point_tot (c : List D) (h : okC c) (p s : Int) (hp : 0 ≤ p ∧ p ≤ 1099511627000) : ∃ y, spec_l1Cur_point c p s = some y ∧ (y.2.2.1 = c ∧ p ≤ y.2.2.2.1 ∧ y.2.2.2.1 ≤ p + 8) := by
  refine Tt.out ?_
  unfold spec_l1Cur_point c_spec_l1Cur_point
  refine Tt.bind (Tt.con (among_tot c h p s _ (by omega) (by simp))) (fun v hv => ?_)
  obtain ⟨_, v1, v2, v3⟩ := hv
  rw [v1]
  refine Tt.bind (Tt.con (among_tot c h _ _ _ (by omega) (by simp))) (fun w hw => ?_)
  obtain ⟨_, w1, w2, w3⟩ := hw
  rw [w1]
  refine Tt.bind (Tt.con (one_tot c h _ _ 40 (by omega) (by omega))) (fun u hu => ?_)
  obtain ⟨u1, u2, u3⟩ := hu
  rw [u1]
  refine Tt.cnd (fun _ => ?_) (fun _ => ?_)
  · refine Tt.bind (Tt.con (among_tot c h _ _ _ (by omega) (by simp))) (fun z hz => ?_)
    obtain ⟨_, z1, z2, z3⟩ := hz
    refine Tt.pure ?_
    exact ⟨z1, by simp only; omega, by simp only; omega⟩
  · refine Tt.pure ?_
    exact ⟨rfl, by simp only; omega, by simp only; omega⟩

theorem legs3_tot (c : List D) (h : okC c) (n p s : Int) (l : List D) (hi : 0 ≤ n ∧ n ≤ 100 ∧ 0 ≤ p ∧ p + 4 * n ≤ 1099511627000 ∧ l.length + n ≤ 1000) :
    ∃ y, spec_l1Cur_legs_L3 n c p s l = some y ∧ (y.1 = c ∧ p ≤ y.2.1 ∧ y.2.1 ≤ p + 4 * n ∧ y.2.2.2.length = l.length + n) := by
  refine Tt.loop (fun k (x : Int × Int × Int × List D) => n_spec_l1Cur_legs_L3 k x.1 c x.2.1 x.2.2.1 x.2.2.2) (fun x => 0 ≤ x.1 ∧ x.1 ≤ 100 ∧ 0 ≤ x.2.1 ∧ x.2.1 + 4 * x.1 ≤ 1099511627000 ∧ x.2.2.2.length + x.1 ≤ 1000) (fun x => x.1.toNat)
    (fun x y => y.1 = c ∧ x.2.1 ≤ y.2.1 ∧ y.2.1 ≤ x.2.1 + 4 * x.1 ∧ y.2.2.2.length = x.2.2.2.length + x.1) ?_ (n, p, s, l) hi
  clear hi
  rintro ⟨n, p, s, l⟩ hi ih
  have ih' : ∀ (n' p' s' : Int) (l' : List D), (0 ≤ n' ∧ n' ≤ 100 ∧ 0 ≤ p' ∧ p' + 4 * n' ≤ 1099511627000 ∧ l'.length + n' ≤ 1000) → n'.toNat < n.toNat → Tt (fun k => n.toNat ≤ k) (fun y => y.1 = c ∧ p' ≤ y.2.1 ∧ y.2.1 ≤ p' + 4 * n' ∧ y.2.2.2.length = l'.length + n') (fun k => n_spec_l1Cur_legs_L3 k n' c p' s' l') :=
    fun n' p' s' l' q1 q2 => ih (n', p', s', l') q1 q2
  clear ih
  simp only at hi
  show Tt _ _ (fun k => c_spec_l1Cur_legs_L3 (n_spec_l1Cur_legs_L3 k) n c p s l some)
  unfold c_spec_l1Cur_legs_L3
  simp only [Option.bind_fun_some]
  refine Tt.dec (fun hn => ?_) (fun hn => ?_)
  · refine Tt.bind (Tt.con (among_tot c h _ _ _ (by omega) (by simp))) (fun v hv => ?_)
    obtain ⟨_, v1, v2, v3⟩ := hv
    rw [v1]
    refine Tt.bind (Tt.con (among_tot c h _ _ _ (by omega) (by simp))) (fun w hw => ?_)
    obtain ⟨_, w1, w2, w3⟩ := hw
    rw [w1, wrap_id (n := n - 1) (by omega) (by omega)]
    refine Tt.ite (by simp only [List.length_cons, List.length_nil]; omega) ?_
    refine (ih' (n - 1) _ _ _ (by simp only [List.length_append, List.length_cons, List.length_nil]; omega) (by omega)).mono (fun _ h => h) (fun y hy => ?_)
    simp only [List.length_append, List.length_cons, List.length_nil] at hy
    exact ⟨hy.1, by omega, by omega, by omega⟩
  · refine Tt.pure ?_
    exact ⟨rfl, by simp only; omega, by simp only; omega, by simp only; omega⟩

theorem legs12_tot (c : List D) (h : okC c) (p s : Int) (l : List D) (hi : 0 ≤ p ∧ p + 2 * (30 - (l.length : Int)) ≤ 1099511627000 ∧ l.length ≤ 22) :
    ∃ y, spec_l1Cur_legs_L12 c p s l = some y ∧ (y.1 = c ∧ p ≤ y.2.1 ∧ y.2.1 ≤ p + 60 ∧ y.2.2.2.length ≤ 22) := by
  have := Tt.loop (fun k (x : Int × Int × List D) => n_spec_l1Cur_legs_L12 k c x.1 x.2.1 x.2.2) (fun x => 0 ≤ x.1 ∧ x.1 + 2 * (30 - (x.2.2.length : Int)) ≤ 1099511627000 ∧ x.2.2.length ≤ 22) (fun x => 30 - x.2.2.length)
    (fun x y => y.1 = c ∧ x.1 ≤ y.2.1 ∧ y.2.1 ≤ x.1 + 2 * (30 - (x.2.2.length : Int)) ∧ y.2.2.2.length ≤ 22) (by
    rintro ⟨p, s, l⟩ hi ih
    have ih' : ∀ (p' s' : Int) (l' : List D), (0 ≤ p' ∧ p' + 2 * (30 - (l'.length : Int)) ≤ 1099511627000 ∧ l'.length ≤ 22) → 30 - l'.length < 30 - l.length → Tt (fun k => 30 - l.length ≤ k) (fun y => y.1 = c ∧ p' ≤ y.2.1 ∧ y.2.1 ≤ p' + 2 * (30 - (l'.length : Int)) ∧ y.2.2.2.length ≤ 22) (fun k => n_spec_l1Cur_legs_L12 k c p' s' l') :=
      fun p' s' l' q1 q2 => ih (p', s', l') q1 q2
    clear ih
    simp only at hi
    show Tt _ _ (fun k => c_spec_l1Cur_legs_L12 (n_spec_l1Cur_legs_L12 k) c p s l some)
    unfold c_spec_l1Cur_legs_L12
    simp only [Option.bind_fun_some]
    refine Tt.bind (Tt.con (pick_tot c h p s 2 (by omega) (by omega))) (fun v hv => ?_)
    obtain ⟨v0, vb, v1, v2, v3⟩ := hv
    rw [v1, wrap_id (n := 20 + v.1) (by omega) (by omega)]
    refine Tt.dec (fun hn => ?_) (fun hn => ?_)
    · refine Tt.ite (by simp only [List.length_cons, List.length_nil]; omega) ?_
      refine (ih' _ _ _ (by simp only [List.length_append, List.length_cons, List.length_nil]; omega) (by simp only [List.length_append, List.length_cons, List.length_nil]; omega)).mono (fun _ h => h) (fun y hy => ?_)
      simp only [List.length_append, List.length_cons, List.length_nil] at hy
      exact ⟨hy.1, by omega, by omega, hy.2.2.2⟩
    · refine Tt.pure ?_
      exact ⟨rfl, by simp only; omega, by simp only; omega, by simp only; omega⟩) (p, s, l) hi
  obtain ⟨y, h1, h2, h3, h4, h5⟩ := this
  simp only at h3 h4
  exact ⟨y, h1, h2, h3, by omega, h5⟩

theorem legs_tot (c : List D) (h : okC c) (p s : Int) (hp : 0 ≤ p ∧ p ≤ 1099511620000) : ∃ y, spec_l1Cur_legs c p s = some y ∧ (y.2.1 = c ∧ p ≤ y.2.2.1 ∧ y.2.2.1 ≤ p + 200 ∧ y.1.length ≤ 30) := by
  refine Tt.out ?_
  unfold spec_l1Cur_legs c_spec_l1Cur_legs
  refine Tt.bind (Tt.con (pick_tot c h p s 6 (by omega) (by omega))) (fun v hv => ?_)
  obtain ⟨v0, vb, v1, v2, v3⟩ := hv
  rw [v1, wrap_id (n := 1 + v.1) (by omega) (by omega)]
  refine Tt.bind (Tt.con (legs3_tot c h (1 + v.1) _ _ [] (by simp only [List.length_nil]; omega))) (fun w hw => ?_)
  obtain ⟨w1, w2, w3, w4⟩ := hw
  simp only [List.length_nil] at w4
  rw [w1]
  refine Tt.bind (Tt.con (pick_tot c h _ _ 40 (by omega) (by omega))) (fun u hu => ?_)
  obtain ⟨u0, ub, u1, u2, u3⟩ := hu
  rw [u1]
  refine Tt.dec (fun _ => ?_) (fun _ => ?_)
  · refine Tt.bind (Tt.con (among_tot c h _ _ _ (by omega) (by simp))) (fun z hz => ?_)
    obtain ⟨_, z1, z2, z3⟩ := hz
    refine Tt.ite (by simp only [List.length_cons, List.length_nil]; omega) ?_
    refine Tt.pure ?_
    exact ⟨z1, by simp only; omega, by simp only; omega, by simp only [List.length_append, List.length_cons, List.length_nil]; omega⟩
  · refine Tt.dec (fun _ => ?_) (fun _ => ?_)
    · refine Tt.ite (by omega) (Tt.ite (by omega) ?_)
      refine Tt.pure ?_
      exact ⟨rfl, by simp only; omega, by simp only; omega, by simp⟩
    · refine Tt.dec (fun _ => ?_) (fun _ => ?_)
      · refine Tt.bind (Tt.con (legs12_tot c h _ _ _ (by omega))) (fun z hz => ?_)
        obtain ⟨z1, z2, z3, z4⟩ := hz
        refine Tt.pure ?_
        exact ⟨z1, by simp only; omega, by simp only; omega, by simp only; omega⟩
      · refine Tt.pure ?_
        exact ⟨rfl, by simp only; omega, by simp only; omega, by simp only; omega⟩

def legB (d : D) : Bool := btw (d.fld 0).toInt (-100000) 100000 && btw (d.fld 1).toInt (-100000) 100000
def ptB (e n : Int) : Bool := btw e (-1000000) 1000000 && btw n (-1000000) 1000000

theorem point_eq (e n : Int) : spec_l17Point e n = some (ptB e n) := by
  simp only [spec_l17Point, c_spec_l17Point, l1In_eq, Option.bind_some, ptB]
  cases btw e (-1000000) 1000000 <;> simp
theorem isPoint_eq (e n : Int) : impl_isPoint e n = some (ptB e n) := by
  simp only [impl_isPoint, c_impl_isPoint, impl_isCoordinate, c_impl_isCoordinate, within_eq, Option.bind_some, ptB]
  cases btw e (-1000000) 1000000 <;> simp

/-- the points that legs reach -/
def legWk : List D → Int → Int → Option (List D)
  | [], _, _ => some []
  | d :: l, e, n => bif ptB (e + (d.fld 0).toInt) (n + (d.fld 1).toInt) then (legWk l (e + (d.fld 0).toInt) (n + (d.fld 1).toInt)).map (fun r => .node [.int (e + (d.fld 0).toInt), .int (n + (d.fld 1).toInt)] :: r) else none

theorem legWk_len : ∀ {l : List D} {e n : Int} {r : List D}, legWk l e n = some r → r.length = l.length
  | [], e, n, r, h => by simp [legWk] at h; subst h; rfl
  | d :: l, e, n, r, h => by
    unfold legWk at h
    cases hp : ptB (e + (d.fld 0).toInt) (n + (d.fld 1).toInt) with
    | false => rw [hp] at h; cases h
    | true =>
      rw [hp, cond_true] at h
      cases hw : legWk l (e + (d.fld 0).toInt) (n + (d.fld 1).toInt) with
      | none => rw [hw] at h; cases h
      | some r' =>
        rw [hw] at h
        simp only [Option.map_some, Option.some.injEq] at h
        subst h
        simp [legWk_len hw]

theorem legs_eq (l : List D) (hl : l.length ≤ 1048576) : spec_l17Legs l = some (btw l.length 1 20 && l.all legB) := by
  obtain ⟨y, h1, h2⟩ := loop_post (N := fun m (i : Nat) => n_spec_l17Legs_L2 m l (i : Int)) (fun i => i ≤ l.length) (fun i => l.length - i)
    (fun i y => match y with | .inl (_, b) => b = false ∧ (l.drop i).all legB = false | .inr z => z = l ∧ (l.length ≤ 20 → (l.drop i).all legB = true)) (by
    intro i hi
    by_cases hlt : i < l.length
    · have hlt' : (i : Int) < l.length := by omega
      by_cases h20 : (i : Int) ≤ 20
      · cases ha : btw ((l[i]?.getD (D.int 0)).fld 0).toInt (-100000) 100000 with
        | false =>
          refine .inl ⟨.inl (l, false), ⟨rfl, ?_⟩, fun m => ?_⟩
          · rw [drop_cons hlt]; simp [legB, ha]
          · simp [n_spec_l17Legs_L2, c_spec_l17Legs_L2, hlt', h20, l1In_eq, ha]
        | true =>
          cases hb : btw ((l[i]?.getD (D.int 0)).fld 1).toInt (-100000) 100000 with
          | false =>
            refine .inl ⟨.inl (l, false), ⟨rfl, ?_⟩, fun m => ?_⟩
            · rw [drop_cons hlt]; simp [legB, ha, hb]
            · simp [n_spec_l17Legs_L2, c_spec_l17Legs_L2, hlt', h20, l1In_eq, ha, hb]
          | true =>
            refine .inr ⟨i + 1, by omega, by omega, fun y hy => ?_, fun m => ?_⟩
            · rw [drop_cons hlt]
              cases y with
              | inl y => exact ⟨hy.1, by simpa [legB, ha, hb] using hy.2⟩
              | inr y => exact ⟨hy.1, fun h => by simpa [legB, ha, hb] using hy.2 h⟩
            · simp [n_spec_l17Legs_L2, c_spec_l17Legs_L2, hlt', h20, l1In_eq, ha, hb, succ_wrap (show i < 4611686018427387904 by omega)]
      · exact .inl ⟨.inr l, ⟨rfl, fun h => by omega⟩, fun m => by simp [n_spec_l17Legs_L2, c_spec_l17Legs_L2, hlt', h20]⟩
    · have hlt' : ¬ (i : Int) < l.length := by omega
      exact .inl ⟨.inr l, ⟨rfl, fun _ => by rw [drop_end hlt]; rfl⟩, fun m => by simp [n_spec_l17Legs_L2, c_spec_l17Legs_L2, hlt']⟩) 0 (by omega)
  have h1' : spec_l17Legs_L2 l 0 = some y := h1
  simp only [spec_l17Legs, c_spec_l17Legs, h1', Option.bind_some, l1In_eq]
  cases y with
  | inl y =>
    obtain ⟨e1, e2⟩ := h2
    simp only [List.drop_zero] at e2
    simp [e1, e2]
  | inr z =>
    obtain ⟨rfl, e2⟩ := h2
    simp only [List.drop_zero] at e2
    simp only [Sum.elim_inr, Option.some.injEq]
    cases hb : btw (z.length : Int) 1 20 with
    | false => simp
    | true =>
      have := btw_iff.1 hb
      rw [e2 (by omega)]; rfl

/-- where a traverse leads -/
def trav (e n : Int) (l : List D) : List D × Bool :=
  bif ptB e n && (btw l.length 1 20 && l.all legB) then (match legWk l e n with | some r => (r, true) | none => ([], false)) else ([], false)

theorem legB_bd {d : D} (h : legB d = true) : -100000 ≤ (d.fld 0).toInt ∧ (d.fld 0).toInt ≤ 100000 ∧ -100000 ≤ (d.fld 1).toInt ∧ (d.fld 1).toInt ≤ 100000 := by
  simp only [legB, Bool.and_eq_true, btw_iff] at h; omega
theorem ptB_bd {e n : Int} (h : ptB e n = true) : -1000000 ≤ e ∧ e ≤ 1000000 ∧ -1000000 ≤ n ∧ n ≤ 1000000 := by
  simp only [ptB, Bool.and_eq_true, btw_iff] at h; omega

theorem points_loop (l : List D) (hl : l.length ≤ 20) (ha : l.all legB = true) (e n : Int) (hp : ptB e n = true) :
    ∃ y, spec_l17Points_L6 l 0 [] e n = some y ∧ match y with | .inl (b, z, _) => b = false ∧ z = [] ∧ legWk l e n = none | .inr ps => legWk l e n = some ps := by
  obtain ⟨y, h1, h2⟩ := loop_post (N := fun m (s : Nat × List D × Int × Int) => n_spec_l17Points_L6 m l (s.1 : Int) s.2.1 s.2.2.1 s.2.2.2) (fun s => s.1 ≤ l.length ∧ s.2.1.length = s.1 ∧ ptB s.2.2.1 s.2.2.2 = true) (fun s => l.length - s.1)
    (fun s y => match y with | .inl (b, z, _) => b = false ∧ z = [] ∧ legWk (l.drop s.1) s.2.2.1 s.2.2.2 = none | .inr ps => ∃ r, legWk (l.drop s.1) s.2.2.1 s.2.2.2 = some r ∧ ps = s.2.1 ++ r) (by
    rintro ⟨i, acc, e, n⟩ ⟨hi, hacc, hp⟩
    simp only at hi hacc hp ⊢
    by_cases hlt : i < l.length
    · have hlt' : (i : Int) < l.length := by omega
      have hd : legB (l[i]?.getD (D.int 0)) = true := List.all_eq_true.1 ha _ (get_mem hlt)
      have b1 := legB_bd hd
      have b2 := ptB_bd hp
      have w1 : IntKind.i64.wrap (e + ((l[i]?.getD (D.int 0)).fld 0).toInt) = e + ((l[i]?.getD (D.int 0)).fld 0).toInt := wrap_id (by omega) (by omega)
      have w2 : IntKind.i64.wrap (n + ((l[i]?.getD (D.int 0)).fld 1).toInt) = n + ((l[i]?.getD (D.int 0)).fld 1).toInt := wrap_id (by omega) (by omega)
      cases hq : ptB (e + ((l[i]?.getD (D.int 0)).fld 0).toInt) (n + ((l[i]?.getD (D.int 0)).fld 1).toInt) with
      | false =>
        refine .inl ⟨.inl (false, [], acc), ⟨rfl, rfl, ?_⟩, fun m => ?_⟩
        · rw [drop_cons hlt, legWk, hq]; rfl
        · simp [n_spec_l17Points_L6, c_spec_l17Points_L6, hlt', point_eq, w1, w2, hq]
      | true =>
        have h5 : acc.length + 1 ≤ 4294967296 := by omega
        refine .inr ⟨(i + 1, acc ++ [.node [.int (e + ((l[i]?.getD (D.int 0)).fld 0).toInt), .int (n + ((l[i]?.getD (D.int 0)).fld 1).toInt)]], e + ((l[i]?.getD (D.int 0)).fld 0).toInt, n + ((l[i]?.getD (D.int 0)).fld 1).toInt), ⟨by simp; omega, by simp [hacc], hq⟩, by simp; omega, fun y hy => ?_, fun m => ?_⟩
        · rw [drop_cons hlt, legWk, hq, cond_true]
          cases y with
          | inl y => obtain ⟨y1, y2, y3⟩ := y; exact ⟨hy.1, hy.2.1, by rw [hy.2.2]; rfl⟩
          | inr ps => obtain ⟨r, k1, k2⟩ := hy; exact ⟨_, by rw [k1]; rfl, by rw [k2]; simp⟩
        · simp [n_spec_l17Points_L6, c_spec_l17Points_L6, hlt', point_eq, w1, w2, hq, h5, succ_wrap (show i < 4611686018427387904 by omega)]
    · have hlt' : ¬ (i : Int) < l.length := by omega
      exact .inl ⟨.inr acc, ⟨[], by rw [drop_end hlt]; rfl, by simp⟩, fun m => by simp [n_spec_l17Points_L6, c_spec_l17Points_L6, hlt']⟩) (0, [], e, n) ⟨by simp, rfl, hp⟩
  refine ⟨y, h1, ?_⟩
  cases y with
  | inl y => obtain ⟨y1, y2, y3⟩ := y; simpa using h2
  | inr ps => obtain ⟨r, k1, k2⟩ := h2; simp at k1 k2; rw [k2]; exact k1

theorem points_eq (e n : Int) (l : List D) (hl : l.length ≤ 1048576) : spec_l17Points e n l = some (trav e n l) := by
  simp only [spec_l17Points, c_spec_l17Points, legs_eq l hl, point_eq, Option.bind_some, trav]
  cases ha : (btw (l.length : Int) 1 20 && l.all legB) with
  | false => simp
  | true =>
    cases hp : ptB e n with
    | false => simp
    | true =>
      rw [Bool.and_eq_true, btw_iff] at ha
      obtain ⟨y, h1, h2⟩ := points_loop l (by omega) ha.2 e n hp
      simp only [h1, Bool.not_true, cond_false, Option.bind_some, Bool.and_true, cond_true]
      cases y with
      | inl y => obtain ⟨y1, y2, y3⟩ := y; obtain ⟨rfl, rfl, k⟩ := h2; simp [k]
      | inr ps => simp at h2; simp [h2]

theorem reached_loop (l : List D) (hl : l.length ≤ 20) (e n : Int) (hp : ptB e n = true) :
    ∃ y, impl_reached_L6 l l.length 0 [] e n = some y ∧ match y with | .inl (b, _) => b = false ∧ (l.all legB = true → legWk l e n = none) | .inr ps => l.all legB = true ∧ legWk l e n = some ps := by
  obtain ⟨y, h1, h2⟩ := loop_post (N := fun m (s : Nat × List D × Int × Int) => n_impl_reached_L6 m l l.length (s.1 : Int) s.2.1 s.2.2.1 s.2.2.2) (fun s => s.1 ≤ l.length ∧ s.2.1.length = s.1 ∧ ptB s.2.2.1 s.2.2.2 = true) (fun s => l.length - s.1)
    (fun s y => match y with | .inl (b, _) => b = false ∧ ((l.drop s.1).all legB = true → legWk (l.drop s.1) s.2.2.1 s.2.2.2 = none) | .inr ps => (l.drop s.1).all legB = true ∧ ∃ r, legWk (l.drop s.1) s.2.2.1 s.2.2.2 = some r ∧ ps = s.2.1 ++ r) (by
    rintro ⟨i, acc, e, n⟩ ⟨hi, hacc, hp⟩
    simp only at hi hacc hp ⊢
    by_cases hlt : i < l.length
    · have hlt' : (i : Int) < l.length := by omega
      cases ha : btw ((l[i]?.getD (D.int 0)).fld 0).toInt (-100000) 100000 with
      | false =>
        refine .inl ⟨.inl (false, acc), ⟨rfl, fun h => ?_⟩, fun m => ?_⟩
        · rw [drop_cons hlt] at h; simp [legB, ha] at h
        · simp [n_impl_reached_L6, c_impl_reached_L6, hlt', within_eq, ha]
      | true =>
      cases hb : btw ((l[i]?.getD (D.int 0)).fld 1).toInt (-100000) 100000 with
      | false =>
        refine .inl ⟨.inl (false, acc), ⟨rfl, fun h => ?_⟩, fun m => ?_⟩
        · rw [drop_cons hlt] at h; simp [legB, hb] at h
        · simp [n_impl_reached_L6, c_impl_reached_L6, hlt', within_eq, ha, hb]
      | true =>
      have hd : legB (l[i]?.getD (D.int 0)) = true := by simp [legB, ha, hb]
      have b1 := legB_bd hd
      have b2 := ptB_bd hp
      have w1 : IntKind.i64.wrap (e + ((l[i]?.getD (D.int 0)).fld 0).toInt) = e + ((l[i]?.getD (D.int 0)).fld 0).toInt := wrap_id (by omega) (by omega)
      have w2 : IntKind.i64.wrap (n + ((l[i]?.getD (D.int 0)).fld 1).toInt) = n + ((l[i]?.getD (D.int 0)).fld 1).toInt := wrap_id (by omega) (by omega)
      cases hq : ptB (e + ((l[i]?.getD (D.int 0)).fld 0).toInt) (n + ((l[i]?.getD (D.int 0)).fld 1).toInt) with
      | false =>
        refine .inl ⟨.inl (false, acc), ⟨rfl, fun _ => ?_⟩, fun m => ?_⟩
        · rw [drop_cons hlt, legWk, hq]; rfl
        · simp [n_impl_reached_L6, c_impl_reached_L6, hlt', within_eq, isPoint_eq, ha, hb, w1, w2, hq]
      | true =>
        have h5 : acc.length + 1 ≤ 4294967296 := by omega
        refine .inr ⟨(i + 1, acc ++ [.node [.int (e + ((l[i]?.getD (D.int 0)).fld 0).toInt), .int (n + ((l[i]?.getD (D.int 0)).fld 1).toInt)]], e + ((l[i]?.getD (D.int 0)).fld 0).toInt, n + ((l[i]?.getD (D.int 0)).fld 1).toInt), ⟨by simp; omega, by simp [hacc], hq⟩, by simp; omega, fun y hy => ?_, fun m => ?_⟩
        · rw [drop_cons hlt, legWk, hq, cond_true]
          cases y with
          | inl y => exact ⟨hy.1, fun h => by rw [hy.2 (by simpa [hd] using h)]; rfl⟩
          | inr ps => obtain ⟨k0, r, k1, k2⟩ := hy; exact ⟨by simpa [hd] using k0, _, by rw [k1]; rfl, by rw [k2]; simp⟩
        · simp [n_impl_reached_L6, c_impl_reached_L6, hlt', within_eq, isPoint_eq, ha, hb, w1, w2, hq, h5, succ_wrap (show i < 4611686018427387904 by omega)]
    · have hlt' : ¬ (i : Int) < l.length := by omega
      exact .inl ⟨.inr acc, ⟨by rw [drop_end hlt]; rfl, [], by rw [drop_end hlt]; rfl, by simp⟩, fun m => by simp [n_impl_reached_L6, c_impl_reached_L6, hlt']⟩) (0, [], e, n) ⟨by simp, rfl, hp⟩
  refine ⟨y, h1, ?_⟩
  cases y with
  | inl y => simpa using h2
  | inr ps => obtain ⟨k0, r, k1, k2⟩ := h2; simp at k0 k1 k2; rw [k2]; exact ⟨by simpa using k0, k1⟩

theorem reached_eq (e n : Int) (l : List D) : impl_reached e n l = some (trav e n l) := by
  simp only [impl_reached, c_impl_reached, within_eq, isPoint_eq, Option.bind_some, trav]
  cases hp : ptB e n with
  | false => simp
  | true =>
    cases hb : btw (l.length : Int) 1 20 with
    | false => simp
    | true =>
      have hb' := btw_iff.1 hb
      obtain ⟨y, h1, h2⟩ := reached_loop l (by omega) e n hp
      simp only [h1, Bool.not_true, cond_false, Option.bind_some, Bool.true_and]
      cases y with
      | inl y =>
        obtain ⟨k1, k2⟩ := h2
        cases ha : l.all legB with
        | false => simp [k1]
        | true => simp [k1, k2 ha]
      | inr ps => obtain ⟨k1, k2⟩ := h2; simp [k1, k2]

theorem trav_len {e n : Int} {l : List D} (h : (trav e n l).2 = true) : 1 ≤ (trav e n l).1.length ∧ (trav e n l).1.length ≤ 20 := by
  unfold trav at h ⊢
  cases hc : (ptB e n && (btw (l.length : Int) 1 20 && l.all legB)) with
  | false => rw [hc] at h; cases h
  | true =>
    rw [hc] at h
    simp only [cond_true] at h ⊢
    simp only [Bool.and_eq_true, btw_iff] at hc
    cases hw : legWk l e n with
    | none => rw [hw] at h; cases h
    | some r => have := legWk_len hw; simp only; omega

theorem ends_same (e n : Int) (l : List D) (hl : l.length ≤ 1048576) : ∃ y, spec_TraverseEnd e n l = some y ∧ impl_TraverseEnd e n l = some y := by
  simp only [spec_TraverseEnd, c_spec_TraverseEnd, impl_TraverseEnd, c_impl_TraverseEnd, points_eq e n l hl, reached_eq, Option.bind_some]
  cases hb : (trav e n l).2 with
  | false => exact ⟨_, rfl, rfl⟩
  | true =>
    obtain ⟨h1, h2⟩ := trav_len hb
    rw [pred_wrap (by omega) (by omega)]
    have h3 : (((trav e n l).1.length - 1 : Nat) : Int) < (trav e n l).1.length := by omega
    have h4 : (trav e n l).1.length - 1 + 1 ≤ (trav e n l).1.length := by omega
    simp only [Bool.not_true, cond_false, Int.natCast_nonneg, h3, and_self, if_true, Int.toNat_natCast, h4]
    exact ⟨_, rfl⟩


theorem mis_same (e n : Int) (l : List D) (a b : Int) (hl : l.length ≤ 1048576) : ∃ y, spec_Misclosure e n l a b = some y ∧ impl_Misclosure e n l a b = some y := by
  obtain ⟨y, h1, h2⟩ := ends_same e n l hl
  simp only [spec_Misclosure, c_spec_Misclosure, impl_Misclosure, c_impl_Misclosure, h1, h2, point_eq, isPoint_eq, Option.bind_some]
  cases y.2.2 with
  | false => exact ⟨_, rfl, rfl⟩
  | true =>
    cases ptB a b with
    | false => exact ⟨_, rfl, rfl⟩
    | true => exact ⟨_, rfl, rfl⟩


def absV (x : Int) : Int := if IntKind.i64.wrap (0 - x) > x then IntKind.i64.wrap (0 - x) else x
theorem absolute_eq (x : Int) : impl_absolute x = some (absV x) := rfl
theorem most_eq (x : Int) : spec_l1Most x (IntKind.i64.wrap (0 - x)) = some (absV x) := by
  unfold spec_l1Most c_spec_l1Most absV
  by_cases h : IntKind.i64.wrap (0 - x) < x
  · have h2 : ¬ IntKind.i64.wrap (0 - x) > x := by omega
    simp only [h, h2, decide_true, cond_true, if_false]
  · by_cases h2 : IntKind.i64.wrap (0 - x) > x
    · simp only [h, h2, decide_false, cond_false, if_true]
    · have h3 : IntKind.i64.wrap (0 - x) = x := by omega
      rw [h3]; simp

def lenV (d : D) : Int := IntKind.i64.wrap (absV (d.fld 0).toInt + absV (d.fld 1).toInt)

theorem length_eq (a b : Int) : spec_l17Length a b = some (IntKind.i64.wrap (absV a + absV b)) := by
  simp only [spec_l17Length, c_spec_l17Length, most_eq, Option.bind_some]

def tot : Int → List D → Int
  | s, [] => s
  | s, d :: l => tot (IntKind.i64.wrap (s + lenV d)) l
def pre : Int → List D → List D
  | _, [] => []
  | s, d :: l => .int (IntKind.i64.wrap (s + lenV d)) :: pre (IntKind.i64.wrap (s + lenV d)) l
theorem pre_len : ∀ {s : Int} {l : List D}, (pre s l).length = l.length
  | _, [] => rfl
  | _, d :: l => by simp [pre, pre_len]

def newE (me t : Int) (p : D) (s : Int) : Int := IntKind.i64.wrap ((p.fld 0).toInt - IntKind.i64.wrap ((IntKind.i64.wrap (me * s)).tdiv t))
def newN (mn t : Int) (p : D) (s : Int) : Int := IntKind.i64.wrap ((p.fld 1).toInt - IntKind.i64.wrap ((IntKind.i64.wrap (mn * s)).tdiv t))

def okA (me mn t : Int) : Int → List D → List D → Bool
  | s, d :: l, p :: ps => ptB (newE me t p (IntKind.i64.wrap (s + lenV d))) (newN mn t p (IntKind.i64.wrap (s + lenV d))) && okA me mn t (IntKind.i64.wrap (s + lenV d)) l ps
  | _, _, _ => true
def newA (me mn t : Int) : Int → List D → List D → List D
  | s, d :: l, p :: ps => .node [.int (newE me t p (IntKind.i64.wrap (s + lenV d))), .int (newN mn t p (IntKind.i64.wrap (s + lenV d)))] :: newA me mn t (IntKind.i64.wrap (s + lenV d)) l ps
  | _, _, _ => []

theorem newA_len {me mn t : Int} : ∀ {s : Int} {l ps : List D}, ps.length = l.length → (newA me mn t s l ps).length = l.length
  | _, [], [], _ => rfl
  | _, d :: l, p :: ps, h => by simp only [newA, List.length_cons]; rw [newA_len (by simpa using h)]
  | _, [], _ :: _, h => by simp at h
  | _, _ :: _, [], h => by simp at h

theorem L6_eq (l : List D) (hl : l.length ≤ 1048576) (a b c d : Int) : spec_AdjustTraverse_L6 l 0 0 a b c d = some (l, tot 0 l, a, b, c, d) := by
  obtain ⟨y, h1, h2⟩ := loop_post (N := fun m (s : Nat × Int) => n_spec_AdjustTraverse_L6 m l s.2 (s.1 : Int) a b c d) (fun s => s.1 ≤ l.length) (fun s => l.length - s.1)
    (fun s y => y = (l, tot s.2 (l.drop s.1), a, b, c, d)) (by
    rintro ⟨i, s⟩ hi
    simp only at hi ⊢
    by_cases hlt : i < l.length
    · have hlt' : (i : Int) < l.length := by omega
      refine .inr ⟨(i + 1, IntKind.i64.wrap (s + lenV (l[i]?.getD (.int 0)))), by simp; omega, by simp; omega, fun y hy => ?_, fun m => ?_⟩
      · rw [drop_cons hlt, tot]; exact hy
      · simp [n_spec_AdjustTraverse_L6, c_spec_AdjustTraverse_L6, hlt', length_eq, lenV, succ_wrap (show i < 4611686018427387904 by omega)]
    · have hlt' : ¬ (i : Int) < l.length := by omega
      exact .inl ⟨_, rfl, fun m => by simp [n_spec_AdjustTraverse_L6, c_spec_AdjustTraverse_L6, hlt', drop_end hlt, tot]⟩) (0, 0) (by simp)
  rw [show spec_AdjustTraverse_L6 l 0 0 a b c d = some y from h1, h2]; rfl

theorem L8_eq (l : List D) (hl : l.length ≤ 1048576) (a b : Int) (ps : List D) : impl_AdjustTraverse_L8 0 l l.length 0 a b ps [] = some (tot 0 l, a, b, ps, pre 0 l) := by
  obtain ⟨y, h1, h2⟩ := loop_post (N := fun m (s : Nat × Int × List D) => n_impl_AdjustTraverse_L8 m s.2.1 l l.length (s.1 : Int) a b ps s.2.2) (fun s => s.1 ≤ l.length ∧ s.2.2.length = s.1) (fun s => l.length - s.1)
    (fun s y => y = (tot s.2.1 (l.drop s.1), a, b, ps, s.2.2 ++ pre s.2.1 (l.drop s.1))) (by
    rintro ⟨i, s, acc⟩ ⟨hi, hacc⟩
    simp only at hi hacc ⊢
    by_cases hlt : i < l.length
    · have hlt' : (i : Int) < l.length := by omega
      have h5 : acc.length + 1 ≤ 4294967296 := by omega
      refine .inr ⟨(i + 1, IntKind.i64.wrap (s + lenV (l[i]?.getD (.int 0))), acc ++ [.int (IntKind.i64.wrap (s + lenV (l[i]?.getD (.int 0))))]), ⟨by simp; omega, by simp [hacc]⟩, by simp; omega, fun y hy => ?_, fun m => ?_⟩
      · rw [drop_cons hlt, tot, pre]; simpa using hy
      · simp [n_impl_AdjustTraverse_L8, c_impl_AdjustTraverse_L8, hlt', absolute_eq, lenV, h5, succ_wrap (show i < 4611686018427387904 by omega)]
    · have hlt' : ¬ (i : Int) < l.length := by omega
      exact .inl ⟨_, rfl, fun m => by simp [n_impl_AdjustTraverse_L8, c_impl_AdjustTraverse_L8, hlt', drop_end hlt, tot, pre]⟩) (0, 0, []) (by simp)
  rw [show impl_AdjustTraverse_L8 0 l l.length 0 a b ps [] = some y from h1, h2]; rfl

theorem L15_eq (l ps : List D) (hl : l.length ≤ 1048576) (hp : ps.length = l.length) (t me mn : Int) (ht : t ≠ 0) :
    ∃ y, spec_AdjustTraverse_L15 l t 0 0 me mn ps [] = some y ∧ match y with | .inl (b, z, _) => b = false ∧ z = [] ∧ okA me mn t 0 l ps = false | .inr r => okA me mn t 0 l ps = true ∧ r = newA me mn t 0 l ps := by
  obtain ⟨y, h1, h2⟩ := loop_post (N := fun m (s : Nat × Int × List D) => n_spec_AdjustTraverse_L15 m l t s.2.1 (s.1 : Int) me mn ps s.2.2) (fun s => s.1 ≤ l.length ∧ s.2.2.length = s.1) (fun s => l.length - s.1)
    (fun s y => match y with | .inl (b, z, _) => b = false ∧ z = [] ∧ okA me mn t s.2.1 (l.drop s.1) (ps.drop s.1) = false | .inr r => okA me mn t s.2.1 (l.drop s.1) (ps.drop s.1) = true ∧ r = s.2.2 ++ newA me mn t s.2.1 (l.drop s.1) (ps.drop s.1)) (by
    rintro ⟨i, s, acc⟩ ⟨hi, hacc⟩
    simp only at hi hacc ⊢
    by_cases hlt : i < l.length
    · have hlt' : (i : Int) < l.length := by omega
      have hltp : (i : Int) < ps.length := by omega
      have h6 : i + 1 ≤ ps.length := by omega
      have h5 : acc.length + 1 ≤ 4294967296 := by omega
      cases hb : ptB (newE me t (ps[i]?.getD (.int 0)) (IntKind.i64.wrap (s + lenV (l[i]?.getD (.int 0))))) (newN mn t (ps[i]?.getD (.int 0)) (IntKind.i64.wrap (s + lenV (l[i]?.getD (.int 0))))) with
      | false =>
        refine .inl ⟨.inl (false, [], acc), ⟨rfl, rfl, ?_⟩, fun m => ?_⟩
        · rw [drop_cons hlt, drop_cons (show i < ps.length by omega), okA, hb]; rfl
        · unfold newE newN lenV at hb
          simp [n_spec_AdjustTraverse_L15, c_spec_AdjustTraverse_L15, hlt', hltp, h6, ht, length_eq, point_eq, hb]
      | true =>
        refine .inr ⟨(i + 1, IntKind.i64.wrap (s + lenV (l[i]?.getD (.int 0))), acc ++ [.node [.int (newE me t (ps[i]?.getD (.int 0)) (IntKind.i64.wrap (s + lenV (l[i]?.getD (.int 0))))), .int (newN mn t (ps[i]?.getD (.int 0)) (IntKind.i64.wrap (s + lenV (l[i]?.getD (.int 0)))))]]), ⟨by simp; omega, by simp [hacc]⟩, by simp; omega, fun y hy => ?_, fun m => ?_⟩
        · rw [drop_cons hlt, drop_cons (show i < ps.length by omega), okA, hb, newA, Bool.true_and]
          cases y with
          | inl y => exact hy
          | inr r => exact ⟨hy.1, by rw [hy.2]; simp⟩
        · unfold newE newN lenV at hb
          simp [n_spec_AdjustTraverse_L15, c_spec_AdjustTraverse_L15, hlt', hltp, h6, ht, length_eq, point_eq, hb, h5, newE, newN, lenV, succ_wrap (show i < 4611686018427387904 by omega)]
    · have hlt' : ¬ (i : Int) < ps.length := by omega
      exact .inl ⟨.inr acc, ⟨by rw [drop_end hlt]; rfl, by rw [drop_end hlt]; simp [newA]⟩, fun m => by simp [n_spec_AdjustTraverse_L15, c_spec_AdjustTraverse_L15, hlt']⟩) (0, 0, []) (by simp)
  exact ⟨y, h1, by simpa using h2⟩

theorem L16_eq (l ps : List D) (hl : l.length ≤ 1048576) (hp : ps.length = l.length) (t me mn : Int) (ht : t ≠ 0) :
    ∃ y, impl_AdjustTraverse_L16 t ps.length 0 me mn ps (pre 0 l) = some y ∧ match y with | .inl (b, _) => b = false ∧ okA me mn t 0 l ps = false | .inr r => okA me mn t 0 l ps = true ∧ r = newA me mn t 0 l ps := by
  obtain ⟨y, h1, h2⟩ := loop_post (N := fun m (s : Nat × Int × List D) => n_impl_AdjustTraverse_L16 m t ps.length (s.1 : Int) me mn s.2.2 (pre 0 l))
    (fun s => s.1 ≤ l.length ∧ s.2.2.length = l.length ∧ s.2.2.drop s.1 = ps.drop s.1 ∧ (pre 0 l).drop s.1 = pre s.2.1 (l.drop s.1)) (fun s => l.length - s.1)
    (fun s y => match y with | .inl (b, _) => b = false ∧ okA me mn t s.2.1 (l.drop s.1) (ps.drop s.1) = false | .inr r => okA me mn t s.2.1 (l.drop s.1) (ps.drop s.1) = true ∧ r = s.2.2.take s.1 ++ newA me mn t s.2.1 (l.drop s.1) (ps.drop s.1)) (by
    rintro ⟨i, s, acc⟩ ⟨hi, hacc, hdr, hpr⟩
    simp only at hi hacc hdr hpr ⊢
    by_cases hlt : i < l.length
    · have hlt' : (i : Int) < ps.length := by omega
      have hlta : (i : Int) < acc.length := by omega
      have hltq : (i : Int) < (pre 0 l).length := by rw [pre_len]; omega
      have h6 : i + 1 ≤ acc.length := by omega
      have h7 : i + 1 ≤ (pre 0 l).length := by rw [pre_len]; omega
      have h8 : i < acc.length := by omega
      have g1 : acc[i]?.getD (.int 0) = ps[i]?.getD (.int 0) := by
        rw [drop_cons h8, drop_cons (show i < ps.length by omega)] at hdr
        exact (List.cons.inj hdr).1
      have g1' : acc[i]'h8 = ps[i]?.getD (.int 0) := by rw [← g1, List.getElem?_eq_getElem h8]; rfl
      have g2 : ((pre 0 l)[i]?.getD (.int 0)) = .int (IntKind.i64.wrap (s + lenV (l[i]?.getD (.int 0)))) := by
        rw [drop_cons (show i < (pre 0 l).length by rw [pre_len]; omega), drop_cons hlt, pre] at hpr
        exact (List.cons.inj hpr).1
      have g3 : (pre 0 l).drop (i + 1) = pre (IntKind.i64.wrap (s + lenV (l[i]?.getD (.int 0)))) (l.drop (i + 1)) := by
        rw [drop_cons (show i < (pre 0 l).length by rw [pre_len]; omega), drop_cons hlt, pre] at hpr
        exact (List.cons.inj hpr).2
      have g4 : acc.drop (i + 1) = ps.drop (i + 1) := by
        rw [drop_cons h8, drop_cons (show i < ps.length by omega)] at hdr
        exact (List.cons.inj hdr).2
      cases hb : ptB (newE me t (ps[i]?.getD (.int 0)) (IntKind.i64.wrap (s + lenV (l[i]?.getD (.int 0))))) (newN mn t (ps[i]?.getD (.int 0)) (IntKind.i64.wrap (s + lenV (l[i]?.getD (.int 0))))) with
      | false =>
        refine .inl ⟨.inl (false, acc.set i (.node [.int (newE me t (ps[i]?.getD (.int 0)) (IntKind.i64.wrap (s + lenV (l[i]?.getD (.int 0))))), .int (newN mn t (ps[i]?.getD (.int 0)) (IntKind.i64.wrap (s + lenV (l[i]?.getD (.int 0)))))])), ⟨rfl, ?_⟩, fun m => ?_⟩
        · rw [drop_cons hlt, drop_cons (show i < ps.length by omega), okA, hb]; rfl
        · unfold newE newN at hb
          simp [n_impl_AdjustTraverse_L16, c_impl_AdjustTraverse_L16, hlt', hlta, hltq, h6, h7, h8, ht, isPoint_eq, g1', g2, toInt_int, fld_node, hb, newE, newN]
      | true =>
        refine .inr ⟨(i + 1, IntKind.i64.wrap (s + lenV (l[i]?.getD (.int 0))), acc.set i (.node [.int (newE me t (ps[i]?.getD (.int 0)) (IntKind.i64.wrap (s + lenV (l[i]?.getD (.int 0))))), .int (newN mn t (ps[i]?.getD (.int 0)) (IntKind.i64.wrap (s + lenV (l[i]?.getD (.int 0)))))])), ⟨by simp; omega, by simp [hacc], by simp only; rw [List.drop_set_of_lt (by omega)]; exact g4, g3⟩, by simp; omega, fun y hy => ?_, fun m => ?_⟩
        · rw [drop_cons hlt, drop_cons (show i < ps.length by omega), okA, hb, newA, Bool.true_and]
          cases y with
          | inl y => exact hy
          | inr r =>
            refine ⟨hy.1, ?_⟩
            rw [hy.2]
            simp only
            rw [List.take_succ_eq_append_getElem (by simp; omega), List.take_set_of_le (by omega)]
            simp
        · unfold newE newN at hb
          simp [n_impl_AdjustTraverse_L16, c_impl_AdjustTraverse_L16, hlt', hlta, hltq, h6, h7, h8, ht, isPoint_eq, g1', g2, toInt_int, fld_node, hb, newE, newN, succ_wrap (show i < 4611686018427387904 by omega)]
    · have hlt' : ¬ (i : Int) < ps.length := by omega
      exact .inl ⟨.inr acc, ⟨by rw [drop_end hlt]; rfl, by rw [drop_end hlt, List.take_of_length_le (by omega)]; simp [newA]⟩, fun m => by simp [n_impl_AdjustTraverse_L16, c_impl_AdjustTraverse_L16, hlt']⟩) (0, 0, ps) (by simp [hp])
  exact ⟨y, h1, by simpa using h2⟩

theorem mis_trav {e n : Int} {l : List D} {a b : Int} (hl : l.length ≤ 1048576) {y : Int × Int × Bool} (h : spec_Misclosure e n l a b = some y) (hy : y.2.2 = true) : (trav e n l).2 = true := by
  simp only [spec_Misclosure, c_spec_Misclosure, spec_TraverseEnd, c_spec_TraverseEnd, points_eq e n l hl, Option.bind_some] at h
  cases hb : (trav e n l).2 with
  | true => rfl
  | false =>
    rw [hb] at h
    simp at h
    rw [← h] at hy
    cases hy

theorem trav_len2 {e n : Int} {l : List D} (h : (trav e n l).2 = true) : (trav e n l).1.length = l.length := by
  unfold trav at h ⊢
  cases hc : (ptB e n && (btw (l.length : Int) 1 20 && l.all legB)) with
  | false => rw [hc] at h; cases h
  | true =>
    rw [hc] at h
    simp only [cond_true] at h ⊢
    cases hw : legWk l e n with
    | none => rw [hw] at h; cases h
    | some r => exact legWk_len hw

theorem adjust_same (e n : Int) (l : List D) (a b : Int) (hl : l.length ≤ 1048576) : ∃ y, spec_AdjustTraverse e n l a b = some y ∧ impl_AdjustTraverse e n l a b = some y ∧ y.1.length ≤ 1048576 := by
  obtain ⟨y, h1, h2⟩ := mis_same e n l a b hl
  simp only [spec_AdjustTraverse, c_spec_AdjustTraverse, impl_AdjustTraverse, c_impl_AdjustTraverse, h1, h2, Option.bind_some, L6_eq l hl, reached_eq, L8_eq l hl, points_eq _ _ l hl]
  cases hy : y.2.2 with
  | false => exact ⟨_, rfl, rfl, by simp⟩
  | true =>
    have ht := mis_trav hl h1 hy
    have hlen := trav_len2 ht
    simp only [Bool.not_true, cond_false]
    by_cases h0 : tot 0 l = 0
    · simp only [h0, decide_true, cond_true]
      exact ⟨_, rfl, rfl, by simp⟩
    · simp only [h0, decide_false, cond_false]
      obtain ⟨r, k1, k2⟩ := L15_eq l (trav e n l).1 hl hlen (tot 0 l) y.1 y.2.1 h0
      obtain ⟨q, k3, k4⟩ := L16_eq l (trav e n l).1 hl hlen (tot 0 l) y.1 y.2.1 h0
      simp only [k1, k3, Option.bind_some]
      cases r with
      | inl r =>
        obtain ⟨r1, r2, r3⟩ := r
        obtain ⟨rfl, rfl, e3⟩ := k2
        cases q with
        | inl q => obtain ⟨q1, q2⟩ := q; obtain ⟨rfl, _⟩ := k4; exact ⟨_, rfl, rfl, by simp⟩
        | inr q => rw [e3] at k4; cases k4.1
      | inr r =>
        obtain ⟨e3, rfl⟩ := k2
        cases q with
        | inl q => obtain ⟨q1, q2⟩ := q; rw [e3] at k4; cases k4.2
        | inr q =>
          obtain ⟨_, rfl⟩ := k4
          refine ⟨_, rfl, rfl, ?_⟩
          simp only
          rw [newA_len hlen]
          exact hl


theorem draw_tot (c : List D) (hc : okC c) : ∃ y, spec_DrawMisclosure c = some y ∧ y.2.2.1.length ≤ 30 := by
  refine Tt.out ?_
  unfold spec_DrawMisclosure c_spec_DrawMisclosure
  refine Tt.bind (Tt.con (point_tot _ hc _ _ (by omega))) ?_
  rintro ⟨e, n, c', p, s⟩ ⟨rfl, hp1, hp2⟩
  dsimp only at hp1 hp2 ⊢
  refine Tt.bind (Tt.con (legs_tot _ hc _ _ (by omega))) ?_
  rintro ⟨l, c', p', s'⟩ ⟨rfl, hp3, hp4, hl⟩
  dsimp only at hp3 hp4 hl ⊢
  obtain ⟨y0, hy0, _⟩ := ends_same e n l (by omega)
  refine Tt.bind (Q := fun _ => True) (Tt.con ⟨y0, hy0, trivial⟩) ?_
  rintro y -
  refine Tt.cnd (fun _ => ?_) (fun _ => ?_)
  · refine Tt.bind (Tt.con (point_tot _ hc _ _ (by omega))) ?_
    rintro ⟨e2, n2, c', p2, s2⟩ ⟨rfl, hp5, hp6⟩
    dsimp only at hp5 hp6 ⊢
    (refine Tt.bind (Tt.con (among_tot _ hc _ _ _ (by omega) (by simp))) ?_; rintro ⟨v, c', p', s'⟩ ⟨hv, rfl, hp1, hp2⟩; dsimp only at hv hp1 hp2 ⊢)
    (refine Tt.bind (Tt.con (among_tot _ hc _ _ _ (by omega) (by simp))) ?_; rintro ⟨v, c', p', s'⟩ ⟨hv, rfl, hp1, hp2⟩; dsimp only at hv hp1 hp2 ⊢)
    exact Tt.pure hl
  · (refine Tt.bind (Tt.con (one_tot' _ hc _ _ _ (by omega) (by omega))) ?_; rintro ⟨v, c', p', s'⟩ ⟨hv, rfl, hp1, hp2⟩; dsimp only at hv hp1 hp2 ⊢)
    refine Tt.cnd (fun _ => ?_) (fun _ => ?_)
    · refine Tt.bind (Tt.con (point_tot _ hc _ _ (by omega))) ?_
      rintro ⟨e2, n2, c', p2, s2⟩ ⟨rfl, hp5, hp6⟩
      dsimp only at hp5 hp6 ⊢
      (refine Tt.bind (Tt.con (among_tot _ hc _ _ _ (by omega) (by simp))) ?_; rintro ⟨v, c', p', s'⟩ ⟨hv, rfl, hp1, hp2⟩; dsimp only at hv hp1 hp2 ⊢)
      (refine Tt.bind (Tt.con (among_tot _ hc _ _ _ (by omega) (by simp))) ?_; rintro ⟨v, c', p', s'⟩ ⟨hv, rfl, hp1, hp2⟩; dsimp only at hv hp1 hp2 ⊢)
      exact Tt.pure hl
    · (refine Tt.bind (Tt.con (among_tot _ hc _ _ _ (by omega) (by simp))) ?_; rintro ⟨v, c', p', s'⟩ ⟨hv, rfl, hp1, hp2⟩; dsimp only at hv hp1 hp2 ⊢)
      (refine Tt.bind (Tt.con (among_tot _ hc _ _ _ (by omega) (by simp))) ?_; rintro ⟨v, c', p', s'⟩ ⟨hv, rfl, hp1, hp2⟩; dsimp only at hv hp1 hp2 ⊢)
      exact Tt.pure hl

theorem adjust_ok (e n : Int) (l : List D) (a b : Int) (hl : l.length ≤ 1048576) : ∃ m y, spec_Misclosure e n l a b = some m ∧ impl_Misclosure e n l a b = some m ∧ spec_AdjustTraverse e n l a b = some y ∧ impl_AdjustTraverse e n l a b = some y ∧
    (y.2 = true → m.2.2 = true ∧ tot 0 l ≠ 0 ∧ y.1 = newA m.1 m.2.1 (tot 0 l) 0 l (trav e n l).1) ∧ (y.2 = false → y.1 = []) := by
  obtain ⟨y, h1, h2⟩ := mis_same e n l a b hl
  suffices h : ∃ z, spec_AdjustTraverse e n l a b = some z ∧ impl_AdjustTraverse e n l a b = some z ∧ (z.2 = true → y.2.2 = true ∧ tot 0 l ≠ 0 ∧ z.1 = newA y.1 y.2.1 (tot 0 l) 0 l (trav e n l).1) ∧ (z.2 = false → z.1 = []) by
    obtain ⟨z, hz⟩ := h
    exact ⟨y, z, h1, h2, hz⟩
  simp only [spec_AdjustTraverse, c_spec_AdjustTraverse, impl_AdjustTraverse, c_impl_AdjustTraverse, h1, h2, Option.bind_some, L6_eq l hl, reached_eq, L8_eq l hl, points_eq _ _ l hl]
  cases hy : y.2.2 with
  | false => exact ⟨_, rfl, rfl, (fun h => by cases h), fun _ => rfl⟩
  | true =>
    have ht := mis_trav hl h1 hy
    have hlen := trav_len2 ht
    simp only [Bool.not_true, cond_false]
    by_cases h0 : tot 0 l = 0
    · simp only [h0, decide_true, cond_true]
      exact ⟨_, rfl, rfl, (fun h => by cases h), fun _ => rfl⟩
    · simp only [h0, decide_false, cond_false]
      obtain ⟨r, k1, k2⟩ := L15_eq l (trav e n l).1 hl hlen (tot 0 l) y.1 y.2.1 h0
      obtain ⟨q, k3, k4⟩ := L16_eq l (trav e n l).1 hl hlen (tot 0 l) y.1 y.2.1 h0
      simp only [k1, k3, Option.bind_some]
      cases r with
      | inl r =>
        obtain ⟨r1, r2, r3⟩ := r
        obtain ⟨rfl, rfl, e3⟩ := k2
        cases q with
        | inl q => obtain ⟨q1, q2⟩ := q; obtain ⟨rfl, _⟩ := k4; exact ⟨_, rfl, rfl, (fun h => by cases h), fun _ => rfl⟩
        | inr q => rw [e3] at k4; cases k4.1
      | inr r =>
        obtain ⟨e3, rfl⟩ := k2
        cases q with
        | inl q => obtain ⟨q1, q2⟩ := q; rw [e3] at k4; cases k4.2
        | inr q =>
          obtain ⟨_, rfl⟩ := k4
          exact ⟨_, rfl, rfl, fun _ => ⟨trivial, h0, rfl⟩, (fun h => by cases h)⟩

/-- a traverse that is right -/
theorem trav_ok {e n : Int} {l : List D} (h : (trav e n l).2 = true) : ptB e n = true ∧ 1 ≤ l.length ∧ l.length ≤ 20 ∧ l.all legB = true ∧ legWk l e n = some (trav e n l).1 := by
  unfold trav at h ⊢
  cases hc : (ptB e n && (btw (l.length : Int) 1 20 && l.all legB)) with
  | false => rw [hc] at h; cases h
  | true =>
    rw [hc] at h
    simp only [cond_true] at h ⊢
    simp only [Bool.and_eq_true, btw_iff] at hc
    cases hw : legWk l e n with
    | none => rw [hw] at h; cases h
    | some r => exact ⟨hc.1, by omega, by omega, hc.2.2, rfl⟩

theorem mis_end {e n : Int} {l : List D} {a b : Int} (hl : l.length ≤ 1048576) {y : Int × Int × Bool} (h : spec_Misclosure e n l a b = some y) (hy : y.2.2 = true) :
    (trav e n l).2 = true ∧ ptB a b = true ∧ y.1 = IntKind.i64.wrap ((((trav e n l).1[l.length - 1]?.getD (.int 0)).fld 0).toInt - a) ∧ y.2.1 = IntKind.i64.wrap ((((trav e n l).1[l.length - 1]?.getD (.int 0)).fld 1).toInt - b) ∧
    impl_TraverseEnd e n l = some ((((trav e n l).1[l.length - 1]?.getD (.int 0)).fld 0).toInt, (((trav e n l).1[l.length - 1]?.getD (.int 0)).fld 1).toInt, true) := by
  have hb := mis_trav hl h hy
  obtain ⟨h1, h2⟩ := trav_len hb
  have hlen := trav_len2 hb
  have h3 : (((trav e n l).1.length - 1 : Nat) : Int) < (trav e n l).1.length := by omega
  have h4 : (trav e n l).1.length - 1 + 1 ≤ (trav e n l).1.length := by omega
  simp only [spec_Misclosure, c_spec_Misclosure, spec_TraverseEnd, c_spec_TraverseEnd, impl_TraverseEnd, c_impl_TraverseEnd, points_eq e n l hl, reached_eq, Option.bind_some, hb, pred_wrap (show (trav e n l).1.length < 4611686018427387904 by omega) (show 0 < (trav e n l).1.length by omega), Bool.not_true, cond_false, Int.natCast_nonneg, h3, and_self, if_true, Int.toNat_natCast, h4, point_eq, List.getD_eq_getElem?_getD] at h ⊢
  rw [hlen] at h ⊢
  cases hp : ptB a b with
  | false =>
    rw [hp] at h
    simp at h
    rw [← h] at hy; cases hy
  | true =>
    rw [hp] at h
    simp only [Bool.not_true, cond_false, Option.some.injEq] at h
    rw [← h]
    exact ⟨trivial, rfl, rfl, rfl, rfl⟩

theorem lenV_bd {d : D} (h : legB d = true) : 0 ≤ lenV d ∧ lenV d ≤ 200000 := by
  have := legB_bd h
  unfold lenV absV
  rw [wq, wq, wq]
  split <;> split <;> omega

theorem tot_bd : ∀ {l : List D} {s : Int}, l.all legB = true → 0 ≤ s → s + 200000 * l.length ≤ 1000000000 → s ≤ tot s l ∧ tot s l ≤ s + 200000 * l.length
  | [], s, _, _, _ => by simp [tot]
  | d :: l, s, h, h0, h1 => by
    simp only [List.all_cons, Bool.and_eq_true] at h
    have b := lenV_bd h.1
    simp only [List.length_cons] at h1 ⊢
    unfold tot
    rw [wrap_id (by omega) (by omega)]
    have := tot_bd (l := l) (s := s + lenV d) h.2 (by omega) (by omega)
    omega

theorem newA_last {me mn t : Int} : ∀ {l ps : List D} {s : Int}, ps.length = l.length → 1 ≤ l.length →
    (newA me mn t s l ps)[l.length - 1]?.getD (.int 0) = .node [.int (newE me t (ps[l.length - 1]?.getD (.int 0)) (tot s l)), .int (newN mn t (ps[l.length - 1]?.getD (.int 0)) (tot s l))]
  | [], ps, s, _, h => by simp at h
  | [d], p :: ps, s, h, _ => by
    simp at h
    simp [newA, tot]
  | d :: d2 :: l, p :: ps, s, h, _ => by
    have ih := newA_last (me := me) (mn := mn) (t := t) (l := d2 :: l) (ps := ps) (s := IntKind.i64.wrap (s + lenV d)) (by simpa using h) (by simp)
    simp only [newA, List.length_cons, Nat.add_sub_cancel, List.getElem?_cons_succ] at ih ⊢
    rw [ih]; simp only [tot]
  | d :: l, [], s, h, _ => by simp at h

theorem newA_zero {t : Int} : ∀ {l ps : List D} {s : Int}, ps.length = l.length → newA 0 0 t s l ps = ps.map (fun p => .node [.int (IntKind.i64.wrap (p.fld 0).toInt), .int (IntKind.i64.wrap (p.fld 1).toInt)])
  | [], [], s, _ => rfl
  | [], _ :: _, s, h => by simp at h
  | _ :: _, [], s, h => by simp at h
  | d :: l, p :: ps, s, h => by
    have w0 : IntKind.i64.wrap 0 = 0 := by decide
    simp only [newA, newE, newN, Int.zero_mul, w0, Int.zero_tdiv, Int.sub_zero, List.map_cons]
    rw [newA_zero (by simpa using h)]

/-- the points of a traverse are places -/
theorem legWk_in : ∀ {l : List D} {e n : Int} {r : List D}, legWk l e n = some r → ∀ p ∈ r, ∃ a b, p = .node [.int a, .int b] ∧ ptB a b = true
  | [], e, n, r, h, p, hp => by simp [legWk] at h; subst h; cases hp
  | d :: l, e, n, r, h, p, hp => by
    unfold legWk at h
    cases hq : ptB (e + (d.fld 0).toInt) (n + (d.fld 1).toInt) with
    | false => rw [hq] at h; cases h
    | true =>
      rw [hq, cond_true] at h
      cases hw : legWk l (e + (d.fld 0).toInt) (n + (d.fld 1).toInt) with
      | none => rw [hw] at h; cases h
      | some r' =>
        rw [hw] at h
        simp only [Option.map_some, Option.some.injEq] at h
        subst h
        rcases List.mem_cons.1 hp with rfl | hp
        · exact ⟨_, _, rfl, hq⟩
        · exact legWk_in hw p hp

theorem same_list {ps : List D} (h : ∀ p ∈ ps, ∃ a b, p = .node [.int a, .int b] ∧ ptB a b = true) : ps.map (fun p => D.node [.int (IntKind.i64.wrap (p.fld 0).toInt), .int (IntKind.i64.wrap (p.fld 1).toInt)]) = ps := by
  induction ps with
  | nil => rfl
  | cons p ps ih =>
    rw [List.map_cons, ih (fun q hq => h q (by simp [hq]))]
    obtain ⟨a, b, rfl, hb⟩ := h p (by simp)
    have := ptB_bd hb
    congr 1
    simp only [fld_node, List.getElem?_cons_zero, List.getElem?_cons_succ, Option.getD_some, toInt_int]
    rw [wrap_id (by omega) (by omega), wrap_id (by omega) (by omega)]

theorem L18_ok (x1 x2 : Int) (x4 x5 : Int) (l r : List D) (hl : l.length ≤ 20) (hb : l.all legB = true) : ∀ (k i : Nat) (e n : Int), i + k = l.length → ptB e n = true → legWk (l.drop i) e n = some (r.drop i) → r.length = l.length →
    laws_FnTraverses_L18 i x1 x2 l x4 x5 r e n = some (.inr (x1, x2, l, x4, x5))
  | 0, i, e, n, hi, hp, hw, hr => by
    rw [laws_FnTraverses_L18_fx]
    unfold c_laws_FnTraverses_L18
    rw [decide_eq_false (show ¬ (i : Int) < l.length by omega)]
    rfl
  | k + 1, i, e, n, hi, hp, hw, hr => by
    have hlt : i < l.length := by omega
    have hltr : i < r.length := by omega
    have b1 := legB_bd (List.all_eq_true.1 hb _ (get_mem hlt))
    have b2 := ptB_bd hp
    rw [drop_cons hlt, drop_cons hltr, legWk] at hw
    rw [laws_FnTraverses_L18_fx]
    unfold c_laws_FnTraverses_L18
    have c1 : (i : Int) < l.length := by omega
    have c2 : (i : Int) < r.length := by omega
    have c3 : i + 1 ≤ l.length := by omega
    have c4 : i + 1 ≤ r.length := by omega
    simp only [c1, c2, c3, c4, decide_true, cond_true, Int.natCast_nonneg, and_self, if_true, Int.toNat_natCast, List.getD_eq_getElem?_getD]
    generalize l[i]?.getD (D.int 0) = d at b1 hw ⊢
    generalize r[i]?.getD (D.int 0) = q at hw ⊢
    cases hq : ptB (e + (d.fld 0).toInt) (n + (d.fld 1).toInt) with
    | false => rw [hq] at hw; cases hw
    | true =>
      rw [hq, cond_true] at hw
      cases hw2 : legWk (l.drop (i + 1)) (e + (d.fld 0).toInt) (n + (d.fld 1).toInt) with
      | none => rw [hw2] at hw; cases hw
      | some r' =>
        rw [hw2] at hw
        simp only [Option.map_some, Option.some.injEq, List.cons.injEq] at hw
        obtain ⟨hq1, hq2⟩ := hw
        rw [wrap_id (n := e + (d.fld 0).toInt) (by omega) (by omega), wrap_id (n := n + (d.fld 1).toInt) (by omega) (by omega), succ_wrap (by omega), ← hq1]
        simp only [fld_node, List.getElem?_cons_zero, List.getElem?_cons_succ, Option.getD_some, toInt_int, decide_true, Bool.and_self, Bool.not_true, cond_false]
        rw [L18_ok x1 x2 x4 x5 l r hl hb k (i + 1) _ _ (by omega) hq (by rw [hw2, hq2]) hr]
        rfl

theorem pure_FnTraverses (x0 : List D) (h0 : x0.length ≤ maxLen) (w0 : ∀ d ∈ x0, wfD (.int .u8) d) : laws_FnTraverses x0 = some true := by
  unfold laws_FnTraverses c_laws_FnTraverses laws_rBig c_laws_rBig
  simp only [Option.bind_some]
  by_cases hb : (65536 : Int) < x0.length
  · simp [hb]
  rw [decide_eq_false hb, cond_false]
  have hc : okC x0 := ⟨by omega, fun d hd => okB (w0 d hd)⟩
  obtain ⟨⟨e, n, l, a, b⟩, hd, hl⟩ := draw_tot x0 hc
  dsimp only at hl
  have hl' : l.length ≤ 1048576 := by omega
  unfold spec_DrawAdjustTraverse c_spec_DrawAdjustTraverse
  simp only [hd, Option.bind_some]
  obtain ⟨m, y, h1, h2, h3, h4, h5, h6⟩ := adjust_ok e n l a b hl'
  simp only [h1, h2, h3, h4, Option.bind_some, decide_true, Bool.and_self, Bool.not_true, cond_false, beq_self_eq_true, Bool.not_not]
  obtain ⟨r, ok⟩ := y
  dsimp only at h5 h6 ⊢
  cases ok with
  | false => simp [h6 rfl]
  | true =>
    obtain ⟨k1, k2, k3⟩ := h5 rfl
    obtain ⟨g1, g2, g3, g4, g5⟩ := mis_end hl' h1 k1
    obtain ⟨t1, t2, t3, t4, t5⟩ := trav_ok g1
    have hlen := trav_len2 g1
    have hr : r.length = l.length := by rw [k3, newA_len hlen]
    have tb := tot_bd (s := 0) t4 (by omega) (by omega)
    obtain ⟨E, N, hE, hEN⟩ := legWk_in t5 ((trav e n l).1[l.length - 1]?.getD (.int 0)) (get_mem (by omega))
    have hEb := ptB_bd hEN
    have hab := ptB_bd g2
    rw [hE] at g3 g4 g5
    simp only [fld_node, List.getElem?_cons_zero, List.getElem?_cons_succ, Option.getD_some, toInt_int] at g3 g4 g5
    rw [wrap_id (by omega) (by omega)] at g3 g4
    have hlast : r[l.length - 1]?.getD (.int 0) = .node [.int a, .int b] := by
      rw [k3, newA_last hlen t2, hE]
      simp only [newE, newN, fld_node, List.getElem?_cons_zero, List.getElem?_cons_succ, Option.getD_some, toInt_int]
      have q1 : ∀ z : Int, -2000000 ≤ z → z ≤ 2000000 → IntKind.i64.wrap ((IntKind.i64.wrap (z * tot 0 l)).tdiv (tot 0 l)) = z := by
        intro z hz1 hz2
        have p1 : z * tot 0 l ≤ 2000000 * tot 0 l := Int.mul_le_mul_of_nonneg_right hz2 (by omega)
        have p2 : -2000000 * tot 0 l ≤ z * tot 0 l := Int.mul_le_mul_of_nonneg_right hz1 (by omega)
        rw [wrap_id (n := z * tot 0 l) (by omega) (by omega), Int.mul_tdiv_cancel _ k2, wrap_id (by omega) (by omega)]
      rw [q1 m.1 (by omega) (by omega), q1 m.2.1 (by omega) (by omega), wrap_id (by omega) (by omega), wrap_id (by omega) (by omega), g3, g4]
      congr 3
      · omega
      · congr 2; omega
    have c1 : ((r.length - 1 : Nat) : Int) < r.length := by omega
    have c2 : r.length - 1 + 1 ≤ r.length := by omega
    have c3 : r.length - 1 = l.length - 1 := by omega
    simp only [Bool.not_true, cond_false, hr, decide_true]
    rw [hr] at c1 c2
    rw [pred_wrap (by omega) (by omega)]
    simp only [c1, c2, Int.natCast_nonneg, and_self, if_true, Int.toNat_natCast, List.getD_eq_getElem?_getD, hlast, fld_node, List.getElem?_cons_zero, List.getElem?_cons_succ, Option.getD_some, toInt_int, decide_true, Bool.and_self, Bool.not_true, cond_false]
    by_cases z1 : m.1 = 0
    · by_cases z2 : m.2.1 = 0
      · simp only [z1, z2, decide_true, Bool.not_true, cond_false]
        have hrr : r = (trav e n l).1 := by rw [k3, z1, z2, newA_zero hlen, same_list (legWk_in t5)]
        have := L18_ok e n a b l r t3 t4 l.length 0 e n (by omega) t1 (by rw [List.drop_zero, List.drop_zero, hrr]; exact t5) hr
        rw [show ((0 : Nat) : Int) = 0 from rfl] at this
        rw [this]
        simp only [Option.bind_some, Sum.elim_inr, g5, cond_true]
        have e1 : E = a := by omega
        have e2 : N = b := by omega
        simp [e1, e2]
      · simp [z1, z2]
    · simp [z1]

end Go.Proofs.Yticcpkmednijlaa
