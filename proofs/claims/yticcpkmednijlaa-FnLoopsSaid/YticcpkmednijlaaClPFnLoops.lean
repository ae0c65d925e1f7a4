/- The law FnLoops over plain values. No condition beside those of the statement. -/
import Derived.Test.YticcpkmednijlaaClMFnLoops
import Derived.Test.YticcpkmednijlaaRaiU5
set_option linter.unusedVariables false
set_option linter.unusedSimpArgs false
set_option maxRecDepth 100000
namespace Go.Proofs.Yticcpkmednijlaa
open Go Go.Rai
theorem Z5_lim {ι : Type} {R : ι → ι → Prop} (hD : Dir R) {F : Int → Int → List D → Int → Int → List D → Option (Int × List D × Int × Int × List D)} {Fs : ι → Int → Int → List D → Int → Int → List D → Option (Int × List D × Int × Int × List D)} (h : ∀ x0 x1 x2 x3 x4 x5, Lim R (F x0 x1 x2 x3 x4 x5) (fun i => Fs i x0 x1 x2 x3 x4 x5)) (x0 : Int) (x1 : Int) (x2 : List D) (x3 : Int) (x4 : Int) (x5 : List D)  : Lim R (c_Z5 F x0 x1 x2 x3 x4 x5 some) (fun i => c_Z5 (Fs i) x0 x1 x2 x3 x4 x5 some) := by
 unfold c_Z5
 repeat' first
  | exact Lim.const hD
  | exact h _ _ _ _ _ _
  | apply Lim.ite
  | apply Lim.cond
  | apply Lim.bind hD
  | apply Lim.sum
  | intro _
theorem Z5_fx (x0 : Int) (x1 : Int) (x2 : List D) (x3 : Int) (x4 : Int) (x5 : List D)  : Z5 x0 x1 x2 x3 x4 x5 = c_Z5 Z5 x0 x1 x2 x3 x4 x5 some :=
 fix_eq (N := fun n (p : Int × Int × List D × Int × Int × List D) => n_Z5 n p.1 p.2.1 p.2.2.1 p.2.2.2.1 p.2.2.2.2.1 p.2.2.2.2.2) (C := fun f p => c_Z5 (fun x0 x1 x2 x3 x4 x5 => f (x0, x1, x2, x3, x4, x5)) p.1 p.2.1 p.2.2.1 p.2.2.2.1 p.2.2.2.2.1 p.2.2.2.2.2 some) (fun _ => rfl) (fun _ _ => rfl) (fun hD f fs h p => Z5_lim hD (fun x0 x1 x2 x3 x4 x5 => h (x0, x1, x2, x3, x4, x5)) _ _ _ _ _ _) (x0, x1, x2, x3, x4, x5)
theorem Z6_lim {ι : Type} {R : ι → ι → Prop} (hD : Dir R) {F : Int → Int → List D → Int → Int → List D → Option (Int × List D × Int × Int × List D)} {Fs : ι → Int → Int → List D → Int → Int → List D → Option (Int × List D × Int × Int × List D)} (h : ∀ x0 x1 x2 x3 x4 x5, Lim R (F x0 x1 x2 x3 x4 x5) (fun i => Fs i x0 x1 x2 x3 x4 x5)) (x0 : Int) (x1 : Int) (x2 : List D) (x3 : Int) (x4 : Int) (x5 : List D)  : Lim R (c_Z6 F x0 x1 x2 x3 x4 x5 some) (fun i => c_Z6 (Fs i) x0 x1 x2 x3 x4 x5 some) := by
 unfold c_Z6
 repeat' first
  | exact Lim.const hD
  | exact h _ _ _ _ _ _
  | apply Lim.ite
  | apply Lim.cond
  | apply Lim.bind hD
  | apply Lim.sum
  | intro _
theorem Z6_fx (x0 : Int) (x1 : Int) (x2 : List D) (x3 : Int) (x4 : Int) (x5 : List D)  : Z6 x0 x1 x2 x3 x4 x5 = c_Z6 Z6 x0 x1 x2 x3 x4 x5 some :=
 fix_eq (N := fun n (p : Int × Int × List D × Int × Int × List D) => n_Z6 n p.1 p.2.1 p.2.2.1 p.2.2.2.1 p.2.2.2.2.1 p.2.2.2.2.2) (C := fun f p => c_Z6 (fun x0 x1 x2 x3 x4 x5 => f (x0, x1, x2, x3, x4, x5)) p.1 p.2.1 p.2.2.1 p.2.2.2.1 p.2.2.2.2.1 p.2.2.2.2.2 some) (fun _ => rfl) (fun _ _ => rfl) (fun hD f fs h p => Z6_lim hD (fun x0 x1 x2 x3 x4 x5 => h (x0, x1, x2, x3, x4, x5)) _ _ _ _ _ _) (x0, x1, x2, x3, x4, x5)
theorem Z9_lim {ι : Type} {R : ι → ι → Prop} (hD : Dir R) {F : Int → Int → List D → Int → Int → List D → List D → Option (Int × List D × Int × Int × List D × List D)} {Fs : ι → Int → Int → List D → Int → Int → List D → List D → Option (Int × List D × Int × Int × List D × List D)} (h : ∀ x0 x1 x2 x3 x4 x5 x6, Lim R (F x0 x1 x2 x3 x4 x5 x6) (fun i => Fs i x0 x1 x2 x3 x4 x5 x6)) (x0 : Int) (x1 : Int) (x2 : List D) (x3 : Int) (x4 : Int) (x5 : List D) (x6 : List D)  : Lim R (c_Z9 F x0 x1 x2 x3 x4 x5 x6 some) (fun i => c_Z9 (Fs i) x0 x1 x2 x3 x4 x5 x6 some) := by
 unfold c_Z9
 repeat' first
  | exact Lim.const hD
  | exact h _ _ _ _ _ _ _
  | apply Lim.ite
  | apply Lim.cond
  | apply Lim.bind hD
  | apply Lim.sum
  | intro _
theorem Z9_fx (x0 : Int) (x1 : Int) (x2 : List D) (x3 : Int) (x4 : Int) (x5 : List D) (x6 : List D)  : Z9 x0 x1 x2 x3 x4 x5 x6 = c_Z9 Z9 x0 x1 x2 x3 x4 x5 x6 some :=
 fix_eq (N := fun n (p : Int × Int × List D × Int × Int × List D × List D) => n_Z9 n p.1 p.2.1 p.2.2.1 p.2.2.2.1 p.2.2.2.2.1 p.2.2.2.2.2.1 p.2.2.2.2.2.2) (C := fun f p => c_Z9 (fun x0 x1 x2 x3 x4 x5 x6 => f (x0, x1, x2, x3, x4, x5, x6)) p.1 p.2.1 p.2.2.1 p.2.2.2.1 p.2.2.2.2.1 p.2.2.2.2.2.1 p.2.2.2.2.2.2 some) (fun _ => rfl) (fun _ _ => rfl) (fun hD f fs h p => Z9_lim hD (fun x0 x1 x2 x3 x4 x5 x6 => h (x0, x1, x2, x3, x4, x5, x6)) _ _ _ _ _ _ _) (x0, x1, x2, x3, x4, x5, x6)
theorem Z27_lim {ι : Type} {R : ι → ι → Prop} (hD : Dir R) {F : List D → List D → Int → Int → Option ((Int × Bool × Int) ⊕ (Int))} {Fs : ι → List D → List D → Int → Int → Option ((Int × Bool × Int) ⊕ (Int))} (h : ∀ x0 x1 x2 x3, Lim R (F x0 x1 x2 x3) (fun i => Fs i x0 x1 x2 x3)) (x0 : List D) (x1 : List D) (x2 : Int) (x3 : Int)  : Lim R (c_Z27 F x0 x1 x2 x3 some) (fun i => c_Z27 (Fs i) x0 x1 x2 x3 some) := by
 unfold c_Z27
 repeat' first
  | exact Lim.const hD
  | exact h _ _ _ _
  | apply Lim.ite
  | apply Lim.cond
  | apply Lim.bind hD
  | apply Lim.sum
  | intro _
theorem Z27_fx (x0 : List D) (x1 : List D) (x2 : Int) (x3 : Int)  : Z27 x0 x1 x2 x3 = c_Z27 Z27 x0 x1 x2 x3 some :=
 fix_eq (N := fun n (p : List D × List D × Int × Int) => n_Z27 n p.1 p.2.1 p.2.2.1 p.2.2.2) (C := fun f p => c_Z27 (fun x0 x1 x2 x3 => f (x0, x1, x2, x3)) p.1 p.2.1 p.2.2.1 p.2.2.2 some) (fun _ => rfl) (fun _ _ => rfl) (fun hD f fs h p => Z27_lim hD (fun x0 x1 x2 x3 => h (x0, x1, x2, x3)) _ _ _ _) (x0, x1, x2, x3)
theorem Z40_lim {ι : Type} {R : ι → ι → Prop} (hD : Dir R) {F : Int → List D → List D → Option ((Bool) ⊕ (Unit))} {Fs : ι → Int → List D → List D → Option ((Bool) ⊕ (Unit))} (h : ∀ x0 x1 x2, Lim R (F x0 x1 x2) (fun i => Fs i x0 x1 x2)) (x0 : Int) (x1 : List D) (x2 : List D)  : Lim R (c_Z40 F x0 x1 x2 some) (fun i => c_Z40 (Fs i) x0 x1 x2 some) := by
 unfold c_Z40
 repeat' first
  | exact Lim.const hD
  | exact h _ _ _
  | apply Lim.ite
  | apply Lim.cond
  | apply Lim.bind hD
  | apply Lim.sum
  | intro _
theorem Z40_fx (x0 : Int) (x1 : List D) (x2 : List D)  : Z40 x0 x1 x2 = c_Z40 Z40 x0 x1 x2 some :=
 fix_eq (N := fun n (p : Int × List D × List D) => n_Z40 n p.1 p.2.1 p.2.2) (C := fun f p => c_Z40 (fun x0 x1 x2 => f (x0, x1, x2)) p.1 p.2.1 p.2.2 some) (fun _ => rfl) (fun _ _ => rfl) (fun hD f fs h p => Z40_lim hD (fun x0 x1 x2 => h (x0, x1, x2)) _ _ _) (x0, x1, x2)
theorem l1In_eq (x a b : Int) : Z22 x a b = some (btw x a b) := by
 unfold Z22 c_Z22 btw
 by_cases h : a ≤ x <;> simp [h]
theorem within_eq (x a b : Int) : Z11 x a b = some (btw x a b) := by
 unfold Z11 c_Z11 btw
 by_cases h : a ≤ x <;> simp [h]
def Tt {ι β : Type} (I : ι → Prop) (P : β → Prop) (e : ι → Option β) : Prop := ∃ y, P y ∧ ∀ i, I i → e i = some y
theorem Tt.pure {ι β : Type} {I : ι → Prop} {P : β → Prop} {y : β} (h : P y) : Tt I P (fun _ => some y) := ⟨y, h, fun _ _ => rfl⟩
theorem Tt.bind {ι α β : Type} {I : ι → Prop} {Q : α → Prop} {P : β → Prop} {t : ι → Option α} {f : α → ι → Option β} (h : Tt I Q t) (k : ∀ v, Q v → Tt I P (fun i => f v i)) :
  Tt I P (fun i => (t i).bind (fun v => f v i)) := by
 obtain ⟨v, hv, ht⟩ := h
 obtain ⟨y, hy, hk⟩ := k v hv
 exact ⟨y, hy, fun i hi => by show (t i).bind _ = _; rw [ht i hi]; exact hk i hi⟩
theorem Tt.ite {ι β : Type} {I : ι → Prop} {P : β → Prop} {c : Prop} [Decidable c] {x y : ι → Option β} (h : c) (k : Tt I P x) : Tt I P (fun i => if c then x i else y i) := by
 simpa only [if_pos h] using k
theorem Tt.cnd {ι β : Type} {I : ι → Prop} {P : β → Prop} {b : Bool} {x y : ι → Option β} (h1 : b = true → Tt I P x) (h2 : b = false → Tt I P y) : Tt I P (fun i => bif b then x i else y i) := by
 cases b with
 | true => exact h1 rfl
 | false => exact h2 rfl
theorem Tt.dec {ι β : Type} {I : ι → Prop} {P : β → Prop} {p : Prop} [Decidable p] {x y : ι → Option β} (h1 : p → Tt I P x) (h2 : ¬ p → Tt I P y) : Tt I P (fun i => bif decide p then x i else y i) :=
 Tt.cnd (fun h => h1 (of_decide_eq_true h)) (fun h => h2 (of_decide_eq_false h))
theorem Tt.ndec {ι β : Type} {I : ι → Prop} {P : β → Prop} {p : Prop} [Decidable p] {x y : ι → Option β} (h1 : ¬ p → Tt I P x) (h2 : p → Tt I P y) : Tt I P (fun i => bif !decide p then x i else y i) := by
 by_cases h : p
 ·simpa only [decide_eq_true h, Bool.not_true, cond_false] using h2 h
 ·simpa only [decide_eq_false h, Bool.not_false, cond_true] using h1 h
theorem Tt.con {ι β : Type} {I : ι → Prop} {Q : β → Prop} {t : Option β} (h : ∃ y, t = some y ∧ Q y) : Tt I Q (fun _ => t) := by
 obtain ⟨y, h1, h2⟩ := h
 exact ⟨y, h2, fun _ _ => h1⟩
theorem Tt.mono {ι β : Type} {I J : ι → Prop} {P Q : β → Prop} {e : ι → Option β} (h : Tt I P e) (hI : ∀ i, J i → I i) (hP : ∀ y, P y → Q y) : Tt J Q e := by
 obtain ⟨y, h1, h2⟩ := h
 exact ⟨y, hP y h1, fun i hi => h2 i (hI i hi)⟩
theorem Tt.out {β : Type} {P : β → Prop} {t : Option β} (h : Tt (fun _ : Unit => True) P (fun _ => t)) : ∃ y, t = some y ∧ P y := by
 obtain ⟨y, h1, h2⟩ := h
 exact ⟨y, h2 () trivial, h1⟩
theorem Tt.loop {X Y : Type} (N : Nat → X → Option Y) (Inv : X → Prop) (μ : X → Nat) (Post : X → Y → Prop)
  (step : ∀ x, Inv x → (∀ x', Inv x' → μ x' < μ x → Tt (fun m => μ x ≤ m) (Post x') (fun m => N m x')) → Tt (fun m => μ x ≤ m) (Post x) (fun m => N (m + 1) x)) :
  ∀ x, Inv x → ∃ y, ev (fun n => N n x) = some y ∧ Post x y := by
 have key : ∀ k x, Inv x → μ x ≤ k → Tt (fun m => μ x < m) (Post x) (fun m => N m x) := by
  intro k
  induction k with
  | zero =>
   intro x hi hk
   obtain ⟨y, h1, h2⟩ := step x hi (fun x' _ h => absurd h (by omega))
   refine ⟨y, h1, fun m hm => ?_⟩
   obtain ⟨m, rfl⟩ : ∃ m', m = m' + 1 := ⟨m - 1, by omega⟩
   exact h2 m (by omega)
  | succ k ih =>
   intro x hi hk
   obtain ⟨y, h1, h2⟩ := step x hi (fun x' hx' h => (ih x' hx' (by omega)).mono (fun m hm => by omega) (fun _ h => h))
   refine ⟨y, h1, fun m hm => ?_⟩
   obtain ⟨m, rfl⟩ : ∃ m', m = m' + 1 := ⟨m - 1, by omega⟩
   exact h2 m (by omega)
 intro x hi
 obtain ⟨y, h1, h2⟩ := key (μ x) x hi (Nat.le_refl _)
 exact ⟨y, ev_eq (μ x + 1) (fun m hm => h2 m (by omega)), h1⟩
theorem wq (n : Int) : IntKind.i64.wrap n = (n + 9223372036854775808) % 18446744073709551616 - 9223372036854775808 := by
 unfold IntKind.wrap
 simp [IntKind.signed, IntKind.bits]
 omega
def okC (c : List D) : Prop := c.length ≤ 65536 ∧ ∀ d ∈ c, 0 ≤ d.toInt ∧ d.toInt ≤ 255
theorem uwrap (n : Int) : IntKind.u64.wrap n = n % 18446744073709551616 := by
 unfold IntKind.wrap
 simp [IntKind.signed, IntKind.bits]
theorem and255 (r : Int) : 0 ≤ IntKind.i64.wrap (IntKind.u64.wrap (((BitVec.ofInt IntKind.u64.bits r &&& BitVec.ofInt IntKind.u64.bits 255).toNat : Nat) : Int)) ∧ IntKind.i64.wrap (IntKind.u64.wrap (((BitVec.ofInt IntKind.u64.bits r &&& BitVec.ofInt IntKind.u64.bits 255).toNat : Nat) : Int)) ≤ 255 := by
 have h2 : (BitVec.ofInt IntKind.u64.bits r &&& BitVec.ofInt IntKind.u64.bits 255).toNat ≤ (BitVec.ofInt IntKind.u64.bits 255).toNat := by
  rw [BitVec.toNat_and]; exact Nat.and_le_right
 have h3 : (BitVec.ofInt IntKind.u64.bits 255).toNat = 255 := by decide
 rw [h3] at h2
 rw [uwrap, wq]
 omega
theorem next_tot (c : List D) (h : okC c) (p s : Int) (hp : 0 ≤ p ∧ p ≤ 1099511627776) : ∃ y, Z1 c p s = some y ∧ (0 ≤ y.1 ∧ y.1 ≤ 255 ∧ y.2.1 = c ∧ y.2.2.1 = p + 1) := by
 have hw : IntKind.i64.wrap (p + 1) = p + 1 := wrap_id (by omega) (by omega)
 have a1 := fun r => and255 r
 refine Tt.out ?_
 unfold Z1 c_Z1
 rw [hw]
 by_cases hpl : p < (c.length : Int)
 ·rw [decide_eq_true hpl, cond_true]
  have hd := h.2 _ (getD_mem (show p.toNat < c.length by omega))
  have hv : IntKind.i64.wrap (c.getD p.toNat (D.int 0)).toInt = (c.getD p.toNat (D.int 0)).toInt := wrap_id (by omega) (by omega)
  refine Tt.ite (by omega) ?_
  refine Tt.dec (fun _ => ?_) (fun hn => absurd (show p + 1 ≤ (c.length : Int) by omega) hn)
  refine Tt.pure ?_
  exact ⟨by rw [hv]; exact hd.1, by rw [hv]; exact hd.2, rfl, rfl⟩
 ·rw [decide_eq_false hpl, cond_false]
  refine Tt.dec (fun hn => by exfalso; omega) (fun _ => ?_)
  refine Tt.ite (by decide) ?_
  refine Tt.pure ?_
  exact ⟨(a1 _).1, (a1 _).2, rfl, rfl⟩
attribute [local irreducible] Z1
theorem pick_tot (c : List D) (h : okC c) (p s n : Int) (hp : 0 ≤ p ∧ p ≤ 1099511627770) (hn : n ≤ 65536) : ∃ y, Z2 c p s n = some y ∧ (0 ≤ y.1 ∧ (y.1 < n ∨ y.1 = 0) ∧ y.2.1 = c ∧ p ≤ y.2.2.1 ∧ y.2.2.1 ≤ p + 2) := by
 refine Tt.out ?_
 unfold Z2 c_Z2
 refine Tt.dec (fun _ => ?_) (fun hn1 => ?_)
 ·refine Tt.pure ?_
  exact ⟨by simp, .inr rfl, rfl, by simp, by simp only; omega⟩
 ·refine Tt.bind (Tt.con (next_tot c h p s (by omega))) (fun v hv => ?_)
  obtain ⟨v1, v2, v3, v4⟩ := hv
  rw [v3, v4]
  refine Tt.dec (fun _ => ?_) (fun _ => ?_)
  ·refine Tt.bind (Tt.con (next_tot c h (p + 1) _ (by omega))) (fun w hw => ?_)
   obtain ⟨w1, w2, w3, w4⟩ := hw
   refine Tt.ite (by omega) ?_
   have hq : IntKind.i64.wrap (IntKind.i64.wrap (v.1 * 256) + w.1) = v.1 * 256 + w.1 := by
    rw [wrap_id (n := v.1 * 256) (by omega) (by omega), wrap_id (by omega) (by omega)]
   have hm : (v.1 * 256 + w.1).tmod n = (v.1 * 256 + w.1) % n := Int.tmod_eq_emod_of_nonneg (by omega)
   have m1 := Int.emod_nonneg (v.1 * 256 + w.1) (show n ≠ 0 by omega)
   have m2 := Int.emod_lt_of_pos (v.1 * 256 + w.1) (show 0 < n by omega)
   refine Tt.pure ?_
   exact ⟨by simp only; rw [hq, hm]; exact m1, .inl (by simp only; rw [hq, hm]; exact m2), w3, by simp only; omega, by simp only; omega⟩
  ·refine Tt.ite (by omega) ?_
   have hm : v.1.tmod n = v.1 % n := Int.tmod_eq_emod_of_nonneg v1
   have m1 := Int.emod_nonneg v.1 (show n ≠ 0 by omega)
   have m2 := Int.emod_lt_of_pos v.1 (show 0 < n by omega)
   refine Tt.pure ?_
   exact ⟨by simp only; rw [hm]; exact m1, .inl (by simp only; rw [hm]; exact m2), rfl, by simp only; omega, by simp only; omega⟩
attribute [local irreducible] Z2
theorem among_tot (c : List D) (h : okC c) (p s : Int) (l : List D) (hp : 0 ≤ p ∧ p ≤ 1099511627770) (hl : 1 ≤ l.length ∧ l.length ≤ 65536) : ∃ y, Z4 c p s l = some y ∧ ((∃ d ∈ l, y.1 = d.toInt) ∧ y.2.1 = c ∧ p ≤ y.2.2.1 ∧ y.2.2.1 ≤ p + 2) := by
 refine Tt.out ?_
 unfold Z4 c_Z4
 refine Tt.bind (Tt.con (pick_tot c h p s _ hp (by omega))) (fun v hv => ?_)
 refine Tt.ite (by omega) ?_
 refine Tt.ite (by omega) ?_
 refine Tt.pure ?_
 exact ⟨⟨_, getD_mem (show v.1.toNat < l.length by omega), rfl⟩, hv.2.2.1, hv.2.2.2.1, hv.2.2.2.2⟩
theorem one_tot (c : List D) (h : okC c) (p s n : Int) (hp : 0 ≤ p ∧ p ≤ 1099511627770) (hn : n ≤ 65536) : ∃ y, Z3 c p s n = some y ∧ (y.2.1 = c ∧ p ≤ y.2.2.1 ∧ y.2.2.1 ≤ p + 2) := by
 refine Tt.out ?_
 unfold Z3 c_Z3
 refine Tt.bind (Tt.con (pick_tot c h p s n hp hn)) (fun v hv => ?_)
 refine Tt.pure ?_
 exact ⟨hv.2.2.1, hv.2.2.2.1, hv.2.2.2.2⟩
attribute [local irreducible] Z4 Z3
theorem one_tot' (c : List D) (h : okC c) (p s n : Int) (hp : 0 ≤ p ∧ p ≤ 1099511627770) (hn : n ≤ 65536) : ∃ y, Z3 c p s n = some y ∧ (True ∧ y.2.1 = c ∧ p ≤ y.2.2.1 ∧ y.2.2.1 ≤ p + 2) := by
 obtain ⟨y, h1, h2⟩ := one_tot c h p s n hp hn
 exact ⟨y, h1, trivial, h2⟩
theorem okB {d : D} (h : wfD (.int .u8) d) : 0 ≤ d.toInt ∧ d.toInt ≤ 255 := by
 obtain ⟨n, rfl, h2⟩ := h
 simp [Lit.wf, IntKind.min, IntKind.max, IntKind.signed, IntKind.bits] at h2
 simp only [toInt_int]; omega
theorem pick_tot' (c : List D) (h : okC c) (p s n : Int) (hp : 0 ≤ p ∧ p ≤ 1099511627770) (hn : n ≤ 65536) : ∃ y, Z2 c p s n = some y ∧ ((0 ≤ y.1 ∧ (y.1 < n ∨ y.1 = 0)) ∧ y.2.1 = c ∧ p ≤ y.2.2.1 ∧ y.2.2.1 ≤ p + 2) := by
 obtain ⟨y, h1, h2, h3, h4⟩ := pick_tot c h p s n hp hn
 exact ⟨y, h1, ⟨h2, h3⟩, h4⟩
def lineB (n : Int) (d : D) : Bool :=
 let w (x a b : Int) : Bool := decide (a ≤ x) && decide (x ≤ b)
 w (d.fld 0).toInt 0 (n - 1) && w (d.fld 1).toInt 0 (n - 1) && !decide ((d.fld 0).toInt = (d.fld 1).toInt) && w (d.fld 2).toInt (-100000) 100000 && w (d.fld 3).toInt 1 1000
theorem l1In_eq0 (x a b : Int) : Z22 x a b = some (decide (a ≤ x) && decide (x ≤ b)) := by
 unfold Z22 c_Z22
 by_cases h : a ≤ x <;> simp [h]
theorem within_eq0 (x a b : Int) : Z11 x a b = some (decide (a ≤ x) && decide (x ≤ b)) := by
 unfold Z11 c_Z11
 by_cases h : a ≤ x <;> simp [h]
theorem lines_loops (l : List D) (n : Int) (hn : 2 ≤ n ∧ n ≤ 8) (hl : l.length ≤ 16) :
  Z23 l n 0 = some (match firstN (fun i => !lineB n (l[i]?.getD (.int 0))) l.length with | some _ => .inl false | none => .inr ()) ∧
  Z13 l n l.length 0 = some (match firstN (fun i => !lineB n (l[i]?.getD (.int 0))) l.length with | some i => .inl (i : Int) | none => .inr ()) := by
 have hw2 : IntKind.i64.wrap (n - 1) = n - 1 := wrap_id (by omega) (by omega)
 constructor
 ·refine scan_loop (N := fun m i => n_Z23 m l n i) _ (fun _ => .inl false) (fun m i hi => ?_) (fun m => ?_)
  ·have hw : IntKind.i64.wrap ((i : Int) + 1) = (i : Int) + 1 := wrap_id (by omega) (by omega)
   have h1 : (i : Int) < l.length := by omega
   simp only [n_Z23, c_Z23, l1In_eq0, hw, hw2, h1, Option.bind_some, decide_true, cond_true, Int.natCast_nonneg, and_self, if_true, Int.toNat_natCast, List.getD_eq_getElem?_getD]
   generalize l[i]?.getD (D.int 0) = d
   dsimp only [lineB]
   generalize (decide (0 ≤ (d.fld 0).toInt) && decide ((d.fld 0).toInt ≤ n - 1)) = b1
   generalize (decide (0 ≤ (d.fld 1).toInt) && decide ((d.fld 1).toInt ≤ n - 1)) = b2
   generalize decide ((d.fld 0).toInt = (d.fld 1).toInt) = b3
   generalize (decide (-100000 ≤ (d.fld 2).toInt) && decide ((d.fld 2).toInt ≤ 100000)) = b4
   generalize (decide (1 ≤ (d.fld 3).toInt) && decide ((d.fld 3).toInt ≤ 1000)) = b5
   cases b1 <;> cases b2 <;> cases b3 <;> cases b4 <;> cases b5 <;> simp
  ·simp [n_Z23, c_Z23]
 ·refine scan_loop (N := fun m i => n_Z13 m l n l.length i) _ (fun i => .inl (i : Int)) (fun m i hi => ?_) (fun m => ?_)
  ·have hw : IntKind.i64.wrap ((i : Int) + 1) = (i : Int) + 1 := wrap_id (by omega) (by omega)
   have h1 : (i : Int) < l.length := by omega
   simp only [n_Z13, c_Z13, Z12, c_Z12, within_eq0, hw, hw2, h1, Option.bind_some, decide_true, cond_true, Int.natCast_nonneg, and_self, if_true, Int.toNat_natCast, List.getD_eq_getElem?_getD]
   generalize l[i]?.getD (D.int 0) = d
   dsimp only [lineB]
   generalize (decide (0 ≤ (d.fld 0).toInt) && decide ((d.fld 0).toInt ≤ n - 1)) = b1
   generalize (decide (0 ≤ (d.fld 1).toInt) && decide ((d.fld 1).toInt ≤ n - 1)) = b2
   generalize decide ((d.fld 0).toInt = (d.fld 1).toInt) = b3
   generalize (decide (-100000 ≤ (d.fld 2).toInt) && decide ((d.fld 2).toInt ≤ 100000)) = b4
   generalize (decide (1 ≤ (d.fld 3).toInt) && decide ((d.fld 3).toInt ≤ 1000)) = b5
   cases b1 <;> cases b2 <;> cases b3 <;> cases b4 <;> cases b5 <;> simp
  ·simp [n_Z13, c_Z13]
theorem lines_same (l : List D) (n : Int) : ∃ b, Z24 l n = some b ∧ Z16 l n = some b := by
 by_cases hn : 2 ≤ n ∧ n ≤ 8
 ·by_cases hl : l.length ≤ 16
  ·obtain ⟨h1, h2⟩ := lines_loops l n hn hl
   have h3 : ¬ (16 : Int) < l.length := by omega
   simp only [Z24, c_Z24, Z16, c_Z16, Z15, c_Z15,
    Z14, c_Z14, l1In_eq0, within_eq0, h1, h2, hn, h3, Option.bind_some, decide_true, decide_false, Bool.and_self, Bool.not_true, cond_false]
   cases firstN (fun i => !lineB n (l[i]?.getD (.int 0))) l.length with
   | none => exact ⟨true, by simp, by simp⟩
   | some i => exact ⟨false, by simp, by simp⟩
  ·have h3 : (16 : Int) < l.length := by omega
   exact ⟨false, by simp [Z24, c_Z24, l1In_eq0, hn, h3], by simp [Z16, c_Z16, within_eq0, hn, h3]⟩
 ·have hb : (decide (2 ≤ n) && decide (n ≤ 8)) = false := by
   rw [Bool.and_eq_false_iff]; simp; omega
  exact ⟨false, by simp only [Z24, c_Z24, l1In_eq0, hb, Option.bind_some, Bool.not_false, cond_true], by simp only [Z16, c_Z16, within_eq0, hb, Option.bind_some, Bool.not_false, cond_true]⟩
theorem lines_valid2 {l : List D} {n : Int} (h : Z24 l n = some true) : (2 ≤ n ∧ n ≤ 8) ∧ l.length ≤ 16 ∧ ∀ i, i < l.length → lineB n (l[i]?.getD (.int 0)) = true := by
 by_cases hn : 2 ≤ n ∧ n ≤ 8
 ·by_cases hl : l.length ≤ 16
  ·refine ⟨hn, hl, fun i hi => ?_⟩
   obtain ⟨h1, _⟩ := lines_loops l n hn hl
   have h3 : ¬ (16 : Int) < l.length := by omega
   simp only [Z24, c_Z24, l1In_eq0, h1, hn, h3, Option.bind_some, decide_true, decide_false, Bool.and_self, Bool.not_true, cond_false] at h
   cases hf : firstN (fun i => !lineB n (l[i]?.getD (.int 0))) l.length with
   | none => have := firstN_none hf i hi; simpa using this
   | some k => rw [hf] at h; simp at h
  ·exfalso
   have h3 : (16 : Int) < l.length := by omega
   simp [Z24, c_Z24, l1In_eq0, hn, h3] at h
 ·exfalso
  have hb : (decide (2 ≤ n) && decide (n ≤ 8)) = false := by
   rw [Bool.and_eq_false_iff]; simp; omega
  simp only [Z24, c_Z24, l1In_eq0, hb, Option.bind_some, Bool.not_false, cond_true] at h
  simp at h
def mB (a b : Int) (d : D) : Bool := (decide ((d.fld 0).toInt = a) && decide ((d.fld 1).toInt = b)) || (decide ((d.fld 0).toInt = b) && decide ((d.fld 1).toInt = a))
theorem rise_loop (l : List D) (a b : Int) (hl : l.length ≤ 16) : Z25 l a b 0 = some (match firstN (fun i => mB a b (l[i]?.getD (.int 0))) l.length with
  | some i => .inl (bif decide (((l[i]?.getD (.int 0)).fld 0).toInt = a) && decide (((l[i]?.getD (.int 0)).fld 1).toInt = b) then ((l[i]?.getD (.int 0)).fld 2).toInt else IntKind.i64.wrap (0 - ((l[i]?.getD (.int 0)).fld 2).toInt), true) | none => .inr ()) := by
 refine scan_loop (N := fun m i => n_Z25 m l a b i) _ (fun i => .inl (bif decide (((l[i]?.getD (.int 0)).fld 0).toInt = a) && decide (((l[i]?.getD (.int 0)).fld 1).toInt = b) then ((l[i]?.getD (.int 0)).fld 2).toInt else IntKind.i64.wrap (0 - ((l[i]?.getD (.int 0)).fld 2).toInt), true)) (fun m i hi => ?_) (fun m => ?_)
 ·have hw : IntKind.i64.wrap ((i : Int) + 1) = (i : Int) + 1 := wrap_id (by omega) (by omega)
  have h1 : (i : Int) < l.length := by omega
  simp only [n_Z25, c_Z25, hw, h1, decide_true, cond_true, Int.natCast_nonneg, and_self, if_true, Int.toNat_natCast, List.getD_eq_getElem?_getD]
  generalize l[i]?.getD (D.int 0) = d
  dsimp only [mB]
  generalize decide ((d.fld 0).toInt = a) = b1
  generalize decide ((d.fld 1).toInt = b) = b2
  generalize decide ((d.fld 0).toInt = b) = b3
  generalize decide ((d.fld 1).toInt = a) = b4
  cases b1 <;> cases b2 <;> cases b3 <;> cases b4 <;> simp
 ·simp [n_Z25, c_Z25]
theorem index_loop (l : List D) (a b : Int) (hl : l.length ≤ 16) : Z19 l a b = some (match firstN (fun i => mB a b (l[i]?.getD (.int 0))) l.length with | some i => (i : Int) | none => -1) := by
 have : Z18 l a b l.length 0 = some (match firstN (fun i => mB a b (l[i]?.getD (.int 0))) l.length with | some i => .inl (i : Int) | none => .inr ()) := by
  refine scan_loop (N := fun m i => n_Z18 m l a b l.length i) _ (fun i => .inl (i : Int)) (fun m i hi => ?_) (fun m => ?_)
  ·have hw : IntKind.i64.wrap ((i : Int) + 1) = (i : Int) + 1 := wrap_id (by omega) (by omega)
   have h1 : (i : Int) < l.length := by omega
   simp only [n_Z18, c_Z18, Z17, c_Z17, hw, h1, decide_true, cond_true, Int.natCast_nonneg, and_self, if_true, Int.toNat_natCast, List.getD_eq_getElem?_getD]
   generalize l[i]?.getD (D.int 0) = d
   dsimp only [mB]
   generalize decide ((d.fld 0).toInt = a) = b1
   generalize decide ((d.fld 1).toInt = b) = b2
   generalize decide ((d.fld 0).toInt = b) = b3
   generalize decide ((d.fld 1).toInt = a) = b4
   cases b1 <;> cases b2 <;> cases b3 <;> cases b4 <;> simp
  ·simp [n_Z18, c_Z18]
 simp only [Z19, c_Z19, this, Option.bind_some]
 cases firstN (fun i => mB a b (l[i]?.getD (.int 0))) l.length <;> simp
theorem lines_valid {l : List D} {n : Int} (h : Z24 l n = some true) : l.length ≤ 16 ∧ ∀ i, i < l.length → lineB n (l[i]?.getD (.int 0)) = true := by
 by_cases hn : 2 ≤ n ∧ n ≤ 8
 ·by_cases hl : l.length ≤ 16
  ·refine ⟨hl, fun i hi => ?_⟩
   obtain ⟨h1, _⟩ := lines_loops l n hn hl
   have h3 : ¬ (16 : Int) < l.length := by omega
   simp only [Z24, c_Z24, l1In_eq0, h1, hn, h3, Option.bind_some, decide_true, decide_false, Bool.and_self, Bool.not_true, cond_false] at h
   cases hf : firstN (fun i => !lineB n (l[i]?.getD (.int 0))) l.length with
   | none => have := firstN_none hf i hi; simpa using this
   | some k => rw [hf] at h; simp at h
  ·exfalso
   have h3 : (16 : Int) < l.length := by omega
   simp [Z24, c_Z24, l1In_eq0, hn, h3] at h
 ·exfalso
  have hb : (decide (2 ≤ n) && decide (n ≤ 8)) = false := by
   rw [Bool.and_eq_false_iff]; simp; omega
  simp only [Z24, c_Z24, l1In_eq0, hb, Option.bind_some, Bool.not_false, cond_true] at h
  simp at h
theorem lineB_bd {n : Int} {d : D} (h : lineB n d = true) : (d.fld 0).toInt ≠ (d.fld 1).toInt ∧ -100000 ≤ (d.fld 2).toInt ∧ (d.fld 2).toInt ≤ 100000 := by
 simp [lineB] at h; omega
theorem path_loop (l p : List D) (n : Int) (hv : ∀ i, i < l.length → lineB n (l[i]?.getD (.int 0)) = true) (hl : l.length ≤ 16) (hp : p.length ≤ 16) :
  ∃ y, Z27 l p 0 0 = some y ∧ Z20 l p 0 p p.length 0 = some y := by
 obtain ⟨y, y', h1, h2, rfl⟩ := loop_two (N := fun m (s : Nat × Int) => n_Z27 m l p s.2 (s.1 : Int)) (N' := fun m (s : Nat × Int) => n_Z20 m l p s.2 p p.length (s.1 : Int)) (fun s => s.1 ≤ p.length) (fun s => p.length - s.1) (fun y y' => y = y') (by
  rintro ⟨i, s⟩ hi
  simp only at hi ⊢
  by_cases hlt : i < p.length
  ·have hlt' : (i : Int) < p.length := by omega
   have hne : ¬ ((p.length : Int) = 0) := by omega
   have hw : IntKind.i64.wrap ((i : Int) + 1) = ((i + 1 : Nat) : Int) := succ_wrap (by omega)
   have hm : (((i + 1) % p.length : Nat) : Int) < p.length := by have := Nat.mod_lt (i + 1) (show 0 < p.length by omega); omega
   generalize ha : (p[i]?.getD (D.int 0)).toInt = a
   generalize hb : (p[(i + 1) % p.length]?.getD (D.int 0)).toInt = b
   have e1 : ∀ m, n_Z27 (m + 1) l p s i = (match firstN (fun i => mB a b (l[i]?.getD (.int 0))) l.length with
     | some k => n_Z27 m l p (IntKind.i64.wrap (s + (bif decide (((l[k]?.getD (.int 0)).fld 0).toInt = a) && decide (((l[k]?.getD (.int 0)).fld 1).toInt = b) then ((l[k]?.getD (.int 0)).fld 2).toInt else IntKind.i64.wrap (0 - ((l[k]?.getD (.int 0)).fld 2).toInt)))) ((i + 1 : Nat) : Int)
     | none => some (.inl (0, false, s))) := by
    intro m
    simp only [n_Z27, c_Z27, hlt', decide_true, cond_true, Int.natCast_nonneg, and_self, if_true, hne, ne_eq, not_false_eq_true, hw, tmod_nat, hm, Int.toNat_natCast, List.getD_eq_getElem?_getD, ha, hb, Z26, c_Z26, rise_loop l a b hl, Option.bind_some]
    cases firstN (fun i => mB a b (l[i]?.getD (.int 0))) l.length <;> simp
   have e2 : ∀ m, n_Z20 (m + 1) l p s p p.length i = (match firstN (fun i => mB a b (l[i]?.getD (.int 0))) l.length with
     | some k => n_Z20 m l p (bif decide (((l[k]?.getD (.int 0)).fld 0).toInt = a) then IntKind.i64.wrap (s + ((l[k]?.getD (.int 0)).fld 2).toInt) else IntKind.i64.wrap (s - ((l[k]?.getD (.int 0)).fld 2).toInt)) p p.length ((i + 1 : Nat) : Int)
     | none => some (.inl (0, false, s))) := by
    intro m
    simp only [n_Z20, c_Z20, hlt', decide_true, cond_true, Int.natCast_nonneg, and_self, if_true, hne, ne_eq, not_false_eq_true, hw, tmod_nat, hm, Int.toNat_natCast, List.getD_eq_getElem?_getD, ha, hb, index_loop l a b hl, Option.bind_some]
    cases hf : firstN (fun i => mB a b (l[i]?.getD (.int 0))) l.length with
    | none => simp
    | some k =>
     have hk := (firstN_some hf).1
     have h3 : ¬ (k : Int) < 0 := by omega
     have h4 : (k : Int) < l.length := by omega
     simp only [h3, h4, decide_false, cond_false, Int.natCast_nonneg, and_self, if_true, Int.toNat_natCast]
     cases decide (((l[k]?.getD (.int 0)).fld 0).toInt = a) <;> simp
   cases hf : firstN (fun i => mB a b (l[i]?.getD (.int 0))) l.length with
   | none => exact .inl ⟨_, _, rfl, fun m => ⟨by rw [e1, hf], by rw [e2, hf]⟩⟩
   | some k =>
    obtain ⟨hk, hmb, _⟩ := firstN_some hf
    obtain ⟨b1, b2, b3⟩ := lineB_bd (hv k hk)
    refine .inr ⟨(i + 1, IntKind.i64.wrap (s + (bif decide (((l[k]?.getD (.int 0)).fld 0).toInt = a) && decide (((l[k]?.getD (.int 0)).fld 1).toInt = b) then ((l[k]?.getD (.int 0)).fld 2).toInt else IntKind.i64.wrap (0 - ((l[k]?.getD (.int 0)).fld 2).toInt)))), by simp; omega, by simp; omega, fun m => ⟨by rw [e1, hf], ?_⟩⟩
    rw [e2, hf]
    simp only
    congr 1
    simp only [mB, Bool.or_eq_true, Bool.and_eq_true, decide_eq_true_eq] at hmb
    by_cases c1 : ((l[k]?.getD (.int 0)).fld 0).toInt = a
    ·have c2 : ((l[k]?.getD (.int 0)).fld 1).toInt = b := by omega
     simp [c1, c2]
    ·simp only [c1, decide_false, cond_false, Bool.false_and]
     rw [wrap_id (n := 0 - ((l[k]?.getD (.int 0)).fld 2).toInt) (by omega) (by omega)]
     congr 1
     omega
  ·have hlt' : ¬ (i : Int) < p.length := by omega
   exact .inl ⟨.inr s, .inr s, rfl, fun m => ⟨by simp [n_Z27, c_Z27, hlt'], by simp [n_Z20, c_Z20, hlt']⟩⟩) (0, 0) (by simp)
 exact ⟨y, h1, h2⟩
theorem closure_same (l : List D) (n : Int) (p : List D) : ∃ y, Z28 l n p = some y ∧ Z21 l n p = some y := by
 obtain ⟨b, h1, h2⟩ := lines_same l n
 have h1' := h1
 simp only [Z28, c_Z28, Z21, c_Z21, h1', h2, l1In_eq, within_eq, Option.bind_some]
 cases b with
 | false => exact ⟨_, rfl, rfl⟩
 | true =>
  cases hb : btw (p.length : Int) 1 16 with
  | false => exact ⟨_, rfl, rfl⟩
  | true =>
   obtain ⟨v1, v2⟩ := lines_valid h1'
   have := btw_iff.1 hb
   obtain ⟨y, k1, k2⟩ := path_loop l p n v2 v1 (by omega)
   simp only [Bool.not_true, cond_false, k1, k2, Option.bind_some]
   cases y <;> exact ⟨_, rfl, rfl⟩
theorem firstN_iff0 {p : Nat → Bool} {len : Nat} : (firstN p len).isNone = true ↔ ∀ j, j < len → p j = false := by
 constructor
 ·intro h j hj
  cases hf : firstN p len with
  | none => exact firstN_none hf j hj
  | some i => rw [hf] at h; cases h
 ·intro h
  cases hf : firstN p len with
  | none => rfl
  | some i => obtain ⟨h1, h2, _⟩ := firstN_some hf; rw [h i h1] at h2; cases h2
def kn (ks : List D) (j : Nat) : Bool := (ks[j]?.getD (.int 0)).toBool
def ht (hs : List D) (j : Nat) : Int := (hs[j]?.getD (.int 0)).toInt
def lA (d : D) : Nat := (d.fld 0).toInt.toNat
def lB (d : D) : Nat := (d.fld 1).toInt.toNat
def diffB (ks : List D) (d : D) : Bool := !(kn ks (lA d) == kn ks (lB d))
def stepL (hs ks : List D) (d : D) : Option (List D × List D) :=
 bif kn ks (lA d) then
  (bif btw (IntKind.i64.wrap (ht hs (lA d) + (d.fld 2).toInt)) (-1000000) 1000000 then some (hs.set (lB d) (.int (IntKind.i64.wrap (ht hs (lA d) + (d.fld 2).toInt))), ks.set (lB d) (.bool true)) else none)
 else
  (bif btw (IntKind.i64.wrap (ht hs (lB d) - (d.fld 2).toInt)) (-1000000) 1000000 then some (hs.set (lA d) (.int (IntKind.i64.wrap (ht hs (lB d) - (d.fld 2).toInt))), ks.set (lA d) (.bool true)) else none)
inductive Sp (l : List D) : List D → List D → Option (List D × List D) → Prop
 | done {hs ks : List D} (h : firstN (fun i => diffB ks (l[i]?.getD (.int 0))) l.length = none) : Sp l hs ks (some (hs, ks))
 | fail {hs ks : List D} {i : Nat} (h : firstN (fun i => diffB ks (l[i]?.getD (.int 0))) l.length = some i) (h2 : stepL hs ks (l[i]?.getD (.int 0)) = none) : Sp l hs ks none
 | go {hs ks hs' ks' : List D} {i : Nat} {r : Option (List D × List D)} (h : firstN (fun i => diffB ks (l[i]?.getD (.int 0))) l.length = some i) (h2 : stepL hs ks (l[i]?.getD (.int 0)) = some (hs', ks')) (h3 : Sp l hs' ks' r) : Sp l hs ks r
theorem Sp.det {l hs ks : List D} {r : Option (List D × List D)} (h : Sp l hs ks r) : ∀ {r'}, Sp l hs ks r' → r = r' := by
 induction h with
 | done h =>
  intro r' h'
  cases h' with
  | done _ => rfl
  | fail k _ => rw [h] at k; cases k
  | go k _ _ => rw [h] at k; cases k
 | fail h h2 =>
  intro r' h'
  cases h' with
  | done k => rw [h] at k; cases k
  | fail _ _ => rfl
  | go k k2 _ => rw [h] at k; cases k; rw [h2] at k2; cases k2
 | go h h2 _ ih =>
  intro r' h'
  cases h' with
  | done k => rw [h] at k; cases k
  | fail k k2 => rw [h] at k; cases k; rw [h2] at k2; cases k2
  | go k k2 k3 => rw [h] at k; cases k; rw [h2] at k2; cases k2; exact ih k3
structure SInv (n : Nat) (hs ks : List D) : Prop where
 h : hs.length = n
 k : ks.length = n
 b : ∀ j, j < n → ∃ b, ks[j]?.getD (.int 0) = .bool b
 r : ∀ j, j < n → kn ks j = true → btw (ht hs j) (-1000000) 1000000 = true
def unk (ks : List D) : Nat := ks.countP (fun d => !d.toBool)
theorem unk_set {ks : List D} {j : Nat} (hj : j < ks.length) (h : kn ks j = false) : unk (ks.set j (.bool true)) < unk ks := by
 unfold unk
 have h1 : (ks[j]).toBool = false := by
  unfold kn at h
  rw [List.getElem?_eq_getElem hj] at h
  exact h
 have h2 : 0 < ks.countP (fun d => !d.toBool) := List.countP_pos_iff.2 ⟨ks[j], List.getElem_mem hj, by simp [h1]⟩
 rw [List.countP_set hj]
 simp [h1, toBool_bool]
 omega
theorem kn_set {ks : List D} {i j : Nat} (hj : j < ks.length) : kn (ks.set j (.bool true)) i = (decide (i = j) || kn ks i) := by
 unfold kn
 by_cases h : i = j
 ·subst h; simp [hj, toBool_bool]
 ·simp [h, List.getElem?_set_ne (fun e => h e.symm)]
theorem ht_set {hs : List D} {i j : Nat} {v : Int} (hj : j < hs.length) : ht (hs.set j (.int v)) i = if i = j then v else ht hs i := by
 unfold ht
 by_cases h : i = j
 ·subst h; simp [hj, toInt_int]
 ·simp [h, List.getElem?_set_ne (fun e => h e.symm)]
theorem set_inv {n : Nat} {hs ks : List D} {j : Nat} {v : Int} (hi : SInv n hs ks) (hj : j < n) (hv : btw v (-1000000) 1000000 = true) : SInv n (hs.set j (.int v)) (ks.set j (.bool true)) := by
 refine ⟨by simp [hi.h], by simp [hi.k], fun i hin => ?_, fun i hin hk => ?_⟩
 ·by_cases h : i = j
  ·subst h; exact ⟨true, by simp [hi.k, hj]⟩
  ·obtain ⟨b, hb⟩ := hi.b i hin
   exact ⟨b, by rw [List.getElem?_set_ne (fun e => h e.symm)]; exact hb⟩
 ·rw [ht_set (by rw [hi.h]; exact hj)]
  by_cases h : i = j
  ·simp [h, hv]
  ·rw [kn_set (by rw [hi.k]; exact hj)] at hk
   simp only [h, decide_false, Bool.false_or] at hk
   simp only [h, if_false]
   exact hi.r i hin hk
theorem line_ab {n : Int} {d : D} (h : lineB n d = true) : ((lA d : Nat) : Int) = (d.fld 0).toInt ∧ ((lB d : Nat) : Int) = (d.fld 1).toInt ∧ (lA d : Int) < n ∧ (lB d : Int) < n ∧ lA d ≠ lB d := by
 simp [lineB] at h
 unfold lA lB
 omega
theorem ilook (l ks : List D) (n : Nat) (hk : ks.length = n) (hv : ∀ i, i < l.length → lineB n (l[i]?.getD (.int 0)) = true) (hl : l.length ≤ 16) :
  Z33 l ks = some (match firstN (fun i => diffB ks (l[i]?.getD (.int 0))) l.length with | some i => (i : Int) | none => -1) := by
 have : Z32 l ks l.length 0 = some (match firstN (fun i => diffB ks (l[i]?.getD (.int 0))) l.length with | some i => .inl (i : Int) | none => .inr ()) := by
  refine scan_loop (N := fun m i => n_Z32 m l ks l.length i) _ (fun i => .inl (i : Int)) (fun m i hi => ?_) (fun m => ?_)
  ·have hw : IntKind.i64.wrap ((i : Int) + 1) = (i : Int) + 1 := wrap_id (by omega) (by omega)
   have h1 : (i : Int) < l.length := by omega
   obtain ⟨a1, a2, a3, a4, _⟩ := line_ab (hv i hi)
   have b3 : ((lA (l[i]?.getD (.int 0)) : Nat) : Int) < ks.length := by omega
   have b4 : ((lB (l[i]?.getD (.int 0)) : Nat) : Int) < ks.length := by omega
   simp only [n_Z32, c_Z32, Z31, c_Z31, h1, hw, ← a1, ← a2, b3, b4, decide_true, cond_true, Int.natCast_nonneg, and_self, if_true, Int.toNat_natCast, List.getD_eq_getElem?_getD, Option.bind_some, diffB, kn]
   generalize (!((_ : Bool) == (_ : Bool))) = q
   cases q <;> simp
  ·simp [n_Z32, c_Z32]
 simp only [Z33, c_Z33, this, Option.bind_some]
 cases firstN (fun i => diffB ks (l[i]?.getD (.int 0))) l.length <;> simp
theorem step_some {l hs ks : List D} {n : Nat} {d : D} {hs' ks' : List D} (hd : lineB n d = true) (hi : SInv n hs ks) (hdf : diffB ks d = true) (h : stepL hs ks d = some (hs', ks')) : SInv n hs' ks' ∧ unk ks' < unk ks := by
 obtain ⟨a1, a2, a3, a4, a5⟩ := line_ab hd
 unfold diffB at hdf
 unfold stepL at h
 cases hA : kn ks (lA d) with
 | true =>
  have hB : kn ks (lB d) = false := by rw [hA] at hdf; cases hq : kn ks (lB d) with | false => rfl | true => rw [hq] at hdf; cases hdf
  rw [hA, cond_true] at h
  cases hv : btw (IntKind.i64.wrap (ht hs (lA d) + (d.fld 2).toInt)) (-1000000) 1000000 with
  | false => rw [hv] at h; cases h
  | true =>
   rw [hv, cond_true] at h
   simp only [Option.some.injEq, Prod.mk.injEq] at h
   obtain ⟨rfl, rfl⟩ := h
   exact ⟨set_inv hi (by omega) hv, unk_set (by rw [hi.k]; omega) hB⟩
 | false =>
  rw [hA, cond_false] at h
  cases hv : btw (IntKind.i64.wrap (ht hs (lB d) - (d.fld 2).toInt)) (-1000000) 1000000 with
  | false => rw [hv] at h; cases h
  | true =>
   rw [hv, cond_true] at h
   simp only [Option.some.injEq, Prod.mk.injEq] at h
   obtain ⟨rfl, rfl⟩ := h
   exact ⟨set_inv hi (by omega) hv, unk_set (by rw [hi.k]; omega) hA⟩
theorem first_of {p : Nat → Bool} {n i : Nat} (hi : i < n) (h : p i = true) (h2 : ∀ j, j < i → p j = false) : firstN p n = some i := by
 unfold firstN
 rw [List.find?_range_eq_some]
 exact ⟨h, List.mem_range.2 hi, fun j hj => by simp [h2 j hj]⟩
theorem iloop (l : List D) (n : Nat) (hv : ∀ i, i < l.length → lineB n (l[i]?.getD (.int 0)) = true) (hl : l.length ≤ 16) (hs ks : List D) (hi : SInv n hs ks) :
  ∃ y, Z34 l hs ks = some y ∧ match y with | .inl (b, h, k) => b = true ∧ Sp l hs ks (some (h, k)) | .inr b => b = false ∧ Sp l hs ks none := by
 obtain ⟨y, h1, h2⟩ := loop_post (N := fun m (s : List D × List D) => n_Z34 m l s.1 s.2) (fun s => SInv n s.1 s.2) (fun s => unk s.2)
  (fun s y => match y with | .inl (b, h, k) => b = true ∧ Sp l s.1 s.2 (some (h, k)) | .inr b => b = false ∧ Sp l s.1 s.2 none) (by
  rintro ⟨hs, ks⟩ hi
  simp only at hi ⊢
  cases hf : firstN (fun i => diffB ks (l[i]?.getD (.int 0))) l.length with
  | none =>
   refine .inl ⟨.inl (true, hs, ks), ⟨rfl, .done hf⟩, fun m => ?_⟩
   simp [n_Z34, c_Z34, ilook l ks n hi.k hv hl, hf]
  | some i =>
   obtain ⟨hil, hdf, _⟩ := firstN_some hf
   have hd := hv i hil
   obtain ⟨a1, a2, a3, a4, a5⟩ := line_ab hd
   have b1 : (i : Int) < l.length := by omega
   have b2 : ¬ (i : Int) < 0 := by omega
   have c1 : ((lA (l[i]?.getD (.int 0)) : Nat) : Int) < hs.length := by rw [hi.h]; exact a3
   have c2 : ((lB (l[i]?.getD (.int 0)) : Nat) : Int) < hs.length := by rw [hi.h]; exact a4
   have c3 : ((lA (l[i]?.getD (.int 0)) : Nat) : Int) < ks.length := by rw [hi.k]; exact a3
   have c4 : ((lB (l[i]?.getD (.int 0)) : Nat) : Int) < ks.length := by rw [hi.k]; exact a4
   have d1 : lA (l[i]?.getD (.int 0)) + 1 ≤ hs.length := by omega
   have d2 : lB (l[i]?.getD (.int 0)) + 1 ≤ hs.length := by omega
   have d3 : lA (l[i]?.getD (.int 0)) + 1 ≤ ks.length := by omega
   have d4 : lB (l[i]?.getD (.int 0)) + 1 ≤ ks.length := by omega
   have hAB : kn ks (lA (l[i]?.getD (.int 0))) = !kn ks (lB (l[i]?.getD (.int 0))) := by
    unfold diffB at hdf
    cases h1 : kn ks (lA (l[i]?.getD (.int 0))) <;> cases h2 : kn ks (lB (l[i]?.getD (.int 0))) <;> rw [h1, h2] at hdf <;> first | rfl | cases hdf
   have run : ∀ m, n_Z34 (m + 1) l hs ks = (match stepL hs ks (l[i]?.getD (.int 0)) with | some (h', k') => n_Z34 m l h' k' | none => some (.inr false)) := by
    intro m
    unfold stepL
    rw [hAB]
    simp only [n_Z34, c_Z34, ilook l ks n hi.k hv hl, hf, Option.bind_some, b1, b2, ← a1, ← a2, c1, c2, c3, c4, d1, d2, d3, d4, decide_false, cond_false, Int.natCast_nonneg, and_self, if_true, Int.toNat_natCast, List.getD_eq_getElem?_getD, Z30, c_Z30, within_eq, kn, ht]
    cases ((ks[lB (l[i]?.getD (.int 0))]?.getD (.int 0)).toBool) with
    | true =>
     simp only [cond_true, Bool.not_true, cond_false]
     generalize hq : btw _ (-1000000) 1000000 = q
     cases q <;> simp
    | false =>
     simp only [cond_true, Bool.not_false, cond_false]
     generalize hq : btw _ (-1000000) 1000000 = q
     cases q <;> simp
   cases hst : stepL hs ks (l[i]?.getD (.int 0)) with
   | none => exact .inl ⟨.inr false, ⟨rfl, .fail hf hst⟩, fun m => by rw [run, hst]⟩
   | some p =>
    obtain ⟨h', k'⟩ := p
    obtain ⟨e1, e2⟩ := step_some (l := l) hd hi hdf hst
    refine .inr ⟨(h', k'), e1, e2, fun y hy => ?_, fun m => by rw [run, hst]⟩
    cases y with
    | inl y => exact ⟨hy.1, .go hf hst hy.2⟩
    | inr y => exact ⟨hy.1, .go hf hst hy.2⟩) (hs, ks) hi
 exact ⟨y, h1, h2⟩
theorem set_same {ks : List D} {n j : Nat} {hs : List D} (hi : SInv n hs ks) (hj : j < n) (h : kn ks j = true) : ks.set j (.bool true) = ks := by
 obtain ⟨b, hb⟩ := hi.b j hj
 have hj' : j < ks.length := by rw [hi.k]; exact hj
 unfold kn at h
 rw [hb, toBool_bool] at h
 subst h
 rw [List.getElem?_eq_getElem hj'] at hb
 rw [← show ks[j] = .bool true from hb]
 exact List.set_getElem_self hj'
theorem sloop (l : List D) (n : Nat) (hv : ∀ i, i < l.length → lineB n (l[i]?.getD (.int 0)) = true) (hl : l.length ≤ 16) (hs ks : List D) (hi : SInv n hs ks) :
  ∃ y, Z36 l 0 hs ks = some y ∧ match y with | .inl (b, z1, z2, _, _) => b = false ∧ z1 = [] ∧ z2 = [] ∧ Sp l hs ks none | .inr (h, k) => Sp l hs ks (some (h, k)) := by
 obtain ⟨y, h1, h2⟩ := loop_post (N := fun m (s : Nat × List D × List D) => n_Z36 m l (s.1 : Int) s.2.1 s.2.2) (fun s => s.1 ≤ l.length ∧ SInv n s.2.1 s.2.2 ∧ ∀ j, j < s.1 → diffB s.2.2 (l[j]?.getD (.int 0)) = false) (fun s => unk s.2.2 * (l.length + 1) + (l.length - s.1))
  (fun s y => match y with | .inl (b, z1, z2, _, _) => b = false ∧ z1 = [] ∧ z2 = [] ∧ Sp l s.2.1 s.2.2 none | .inr (h, k) => Sp l s.2.1 s.2.2 (some (h, k))) (by
  rintro ⟨i, hs, ks⟩ ⟨hil, hi, hpre⟩
  simp only at hil hi hpre ⊢
  by_cases hlt : i < l.length
  ·have hd := hv i hlt
   obtain ⟨a1, a2, a3, a4, a5⟩ := line_ab hd
   have b1 : (i : Int) < l.length := by omega
   have c1 : ((lA (l[i]?.getD (.int 0)) : Nat) : Int) < hs.length := by rw [hi.h]; exact a3
   have c2 : ((lB (l[i]?.getD (.int 0)) : Nat) : Int) < hs.length := by rw [hi.h]; exact a4
   have c3 : ((lA (l[i]?.getD (.int 0)) : Nat) : Int) < ks.length := by rw [hi.k]; exact a3
   have c4 : ((lB (l[i]?.getD (.int 0)) : Nat) : Int) < ks.length := by rw [hi.k]; exact a4
   have d1 : lA (l[i]?.getD (.int 0)) + 1 ≤ hs.length := by omega
   have d2 : lB (l[i]?.getD (.int 0)) + 1 ≤ hs.length := by omega
   have d3 : lA (l[i]?.getD (.int 0)) + 1 ≤ ks.length := by omega
   have d4 : lB (l[i]?.getD (.int 0)) + 1 ≤ ks.length := by omega
   have hw : IntKind.i64.wrap ((i : Int) + 1) = ((i + 1 : Nat) : Int) := succ_wrap (by omega)
   have hw0 : IntKind.i64.wrap (-1 + 1) = ((0 : Nat) : Int) := by decide
   cases hdf : diffB ks (l[i]?.getD (.int 0)) with
   | false =>
    refine .inr ⟨(i + 1, hs, ks), ⟨by simp; omega, hi, fun j hj => ?_⟩, by simp only; omega, fun y hy => hy, fun m => ?_⟩
    ·by_cases hji : j = i
     ·subst hji; exact hdf
     ·exact hpre j (by simp only at hj; omega)
    ·unfold diffB kn at hdf
     simp only [Bool.not_eq_false'] at hdf
     simp only [n_Z36, c_Z36, b1, ← a1, ← a2, c3, c4, d3, d4, decide_true, cond_true, Int.natCast_nonneg, and_self, if_true, Int.toNat_natCast, List.getD_eq_getElem?_getD, hdf, hw]
     exact Option.bind_fun_some _
   | true =>
    have hf := first_of (p := fun i => diffB ks (l[i]?.getD (.int 0))) hlt hdf hpre
    have hdf' := hdf
    unfold diffB at hdf'
    suffices core : ∃ (h' k' : List D) (v : Bool), (∀ m, n_Z36 (m + 1) l (i : Int) hs ks = bif v then n_Z36 m l ((0 : Nat) : Int) h' k' else some (.inl (false, [], [], h', k'))) ∧
      stepL hs ks (l[i]?.getD (.int 0)) = (bif v then some (h', k') else none) by
     obtain ⟨h', k', v, run, hst⟩ := core
     cases v with
     | false => exact .inl ⟨.inl (false, [], [], h', k'), ⟨rfl, rfl, rfl, .fail hf (by simpa using hst)⟩, fun m => by rw [run]; rfl⟩
     | true =>
      simp only [cond_true] at hst run
      obtain ⟨e1, e2⟩ := step_some (l := l) hd hi hdf hst
      refine .inr ⟨(0, h', k'), ⟨by simp, e1, fun j hj => by simp at hj⟩, ?_, fun y hy => ?_, fun m => by rw [run]⟩
      ·simp only
       have : (unk k' + 1) * (l.length + 1) ≤ unk ks * (l.length + 1) := Nat.mul_le_mul_right _ e2
       rw [Nat.succ_mul] at this
       omega
      ·cases y with
       | inl y => obtain ⟨y1, y2, y3, y4, y5⟩ := y; exact ⟨hy.1, hy.2.1, hy.2.2.1, .go hf hst hy.2.2.2⟩
       | inr y => obtain ⟨y1, y2⟩ := y; exact .go hf hst hy
    cases hA : kn ks (lA (l[i]?.getD (.int 0))) with
    | true =>
     have hB : kn ks (lB (l[i]?.getD (.int 0))) = false := by rw [hA] at hdf'; cases hq : kn ks (lB (l[i]?.getD (.int 0))) with | false => rfl | true => rw [hq] at hdf'; cases hdf'
     have hr := hi.r _ (by omega) hA
     have g3 := set_same hi (show lA (l[i]?.getD (.int 0)) < n by omega) hA
     refine ⟨(hs.set (lB (l[i]?.getD (.int 0))) (.int (IntKind.i64.wrap (ht hs (lA (l[i]?.getD (.int 0))) + ((l[i]?.getD (.int 0)).fld 2).toInt)))), (ks.set (lB (l[i]?.getD (.int 0))) (.bool true)), (btw (IntKind.i64.wrap (ht hs (lA (l[i]?.getD (.int 0))) + ((l[i]?.getD (.int 0)).fld 2).toInt)) (-1000000) 1000000), (fun m => ?_), (by unfold stepL; rw [hA, cond_true])⟩
     have g1 : ∀ v, (hs.set (lB (l[i]?.getD (.int 0))) v)[lA (l[i]?.getD (.int 0))]?.getD (.int 0) = hs[lA (l[i]?.getD (.int 0))]?.getD (.int 0) := fun v => by rw [List.getElem?_set_ne (Ne.symm a5)]
     have g2 : ∀ v, (hs.set (lB (l[i]?.getD (.int 0))) v)[lB (l[i]?.getD (.int 0))]?.getD (.int 0) = v := fun v => by rw [List.getElem?_set_self (by omega)]; rfl
     unfold kn at hA hB
     unfold ht at hr ⊢
     simp only [n_Z36, c_Z36, b1, ← a1, ← a2, c1, c2, c3, c4, d1, d2, d3, d4, decide_true, cond_true, Int.natCast_nonneg, and_self, if_true, Int.toNat_natCast, List.getD_eq_getElem?_getD, hA, hB, g3, g1, g2, toInt_int, List.length_set, l1In_eq, hr, Option.bind_some, Bool.not_true, cond_false, hw0, show (true == false) = false from rfl]
     generalize btw _ (-1000000) 1000000 = q
     cases q <;> simp
    | false =>
     have hB : kn ks (lB (l[i]?.getD (.int 0))) = true := by rw [hA] at hdf'; cases hq : kn ks (lB (l[i]?.getD (.int 0))) with | true => rfl | false => rw [hq] at hdf'; cases hdf'
     have hr := hi.r _ (by omega) hB
     have g3 : (ks.set (lA (l[i]?.getD (.int 0))) (.bool true)).set (lB (l[i]?.getD (.int 0))) (.bool true) = ks.set (lA (l[i]?.getD (.int 0))) (.bool true) := by
      rw [List.set_comm _ _ a5, set_same hi (show lB (l[i]?.getD (.int 0)) < n by omega) hB]
     refine ⟨(hs.set (lA (l[i]?.getD (.int 0))) (.int (IntKind.i64.wrap (ht hs (lB (l[i]?.getD (.int 0))) - ((l[i]?.getD (.int 0)).fld 2).toInt)))), (ks.set (lA (l[i]?.getD (.int 0))) (.bool true)), (btw (IntKind.i64.wrap (ht hs (lB (l[i]?.getD (.int 0))) - ((l[i]?.getD (.int 0)).fld 2).toInt)) (-1000000) 1000000), (fun m => ?_), (by unfold stepL; rw [hA, cond_false])⟩
     have g1 : ∀ v, (hs.set (lA (l[i]?.getD (.int 0))) v)[lB (l[i]?.getD (.int 0))]?.getD (.int 0) = hs[lB (l[i]?.getD (.int 0))]?.getD (.int 0) := fun v => by rw [List.getElem?_set_ne a5]
     have g2 : ∀ v, (hs.set (lA (l[i]?.getD (.int 0))) v)[lA (l[i]?.getD (.int 0))]?.getD (.int 0) = v := fun v => by rw [List.getElem?_set_self (by omega)]; rfl
     unfold kn at hA hB
     unfold ht at hr ⊢
     simp only [n_Z36, c_Z36, b1, ← a1, ← a2, c1, c2, c3, c4, d1, d2, d3, d4, decide_true, cond_true, Int.natCast_nonneg, and_self, if_true, Int.toNat_natCast, List.getD_eq_getElem?_getD, hA, hB, g3, g1, g2, toInt_int, List.length_set, l1In_eq, hr, Option.bind_some, Bool.not_true, cond_false, hw0, show (false == true) = false from rfl]
     generalize btw _ (-1000000) 1000000 = q
     cases q <;> simp
  ·have hlt' : ¬ (i : Int) < l.length := by omega
   have hf : firstN (fun i => diffB ks (l[i]?.getD (.int 0))) l.length = none := by
    have := (firstN_iff0 (p := fun i => diffB ks (l[i]?.getD (.int 0))) (len := l.length)).2 (fun j hj => hpre j (by omega))
    exact Option.isNone_iff_eq_none.1 this
   exact .inl ⟨.inr (hs, ks), .done hf, fun m => by simp [n_Z36, c_Z36, hlt']⟩) (0, hs, ks) ⟨by simp, hi, fun j hj => by simp at hj⟩
 exact ⟨y, h1, h2⟩
theorem rep_inv (n : Nat) : SInv n (List.replicate n (.int 0)) (List.replicate n (.bool false)) := by
 refine ⟨by simp, by simp, fun j hj => ⟨false, by simp [hj]⟩, fun j hj h => ?_⟩
 unfold kn at h
 simp [hj, toBool_bool] at h
theorem sp_len {l hs ks : List D} {r : Option (List D × List D)} {n : Nat} (hv : ∀ i, i < l.length → lineB n (l[i]?.getD (.int 0)) = true) (h : Sp l hs ks r) : SInv n hs ks → ∀ h' k', r = some (h', k') → h'.length = n ∧ k'.length = n := by
 induction h with
 | done h =>
  intro hi h' k' e
  simp only [Option.some.injEq, Prod.mk.injEq] at e
  obtain ⟨rfl, rfl⟩ := e
  exact ⟨hi.h, hi.k⟩
 | fail _ _ => intro _ h' k' e; cases e
 | go h h2 _ ih =>
  intro hi h' k' e
  obtain ⟨q1, q2, _⟩ := firstN_some h
  exact ih (step_some (l := l) (hv _ q1) hi q2 h2).1 h' k' e
theorem span_same (l : List D) (x1 x2 : Int) : ∃ y, Z37 l x1 x2 = some y ∧ Z35 l x1 x2 = some y ∧ y.1.length ≤ 1048576 ∧ y.2.1.length ≤ 1048576 := by
 obtain ⟨b, h1, h2⟩ := lines_same l x1
 have h1' := h1
 simp only [Z37, c_Z37, Z35, c_Z35, h1', h2, l1In_eq, within_eq, Z30, c_Z30, Option.bind_some]
 cases b with
 | false => exact ⟨_, rfl, rfl, by simp, by simp⟩
 | true =>
  cases hb : btw x2 (-1000000) 1000000 with
  | false => exact ⟨_, rfl, rfl, by simp, by simp⟩
  | true =>
   obtain ⟨hn, hl, hv⟩ := lines_valid2 h1'
   obtain ⟨n, rfl⟩ : ∃ n : Nat, x1 = (n : Int) := ⟨x1.toNat, by omega⟩
   have hi := set_inv (rep_inv n) (show 0 < n by omega) hb
   obtain ⟨y, k1, k2⟩ := sloop l n hv hl _ _ hi
   obtain ⟨z, k3, k4⟩ := iloop l n hv hl _ _ hi
   have e1 : (0 : Int) < n := by omega
   have e2 : (n : Int) ≤ 4294967296 := by omega
   have e3 : 0 + 1 ≤ n := by omega
   simp only [Bool.not_true, cond_false, e1, e2, e3, List.length_replicate, Int.toNat_natCast, Int.toNat_zero, Int.natCast_nonneg, Int.le_refl, and_self, if_true, k1, k3, Option.bind_some]
   cases y with
   | inl y =>
    obtain ⟨y1, y2, y3, y4, y5⟩ := y
    obtain ⟨rfl, rfl, rfl, s1⟩ := k2
    cases z with
    | inl z => obtain ⟨z1, z2, z3⟩ := z; have := Sp.det s1 k4.2; cases this
    | inr z => obtain ⟨rfl, _⟩ := k4; exact ⟨_, rfl, rfl, by simp, by simp⟩
   | inr y =>
    obtain ⟨y1, y2⟩ := y
    cases z with
    | inl z =>
     obtain ⟨z1, z2, z3⟩ := z
     obtain ⟨rfl, s2⟩ := k4
     have e := Sp.det k2 s2
     simp only [Option.some.injEq, Prod.mk.injEq] at e
     obtain ⟨rfl, rfl⟩ := e
     obtain ⟨q1, q2⟩ := sp_len hv k2 hi _ _ rfl
     exact ⟨_, rfl, rfl, by simp only [Sum.elim_inr]; omega, by simp only [Sum.elim_inr]; omega⟩
    | inr z => have := Sp.det k2 k4.2; cases this
theorem rInts_self (l : List D) (hl : l.length ≤ 1048576) : Z39 l l = some true := by
 have key : Z38 l l 0 = some (.inr ()) := by
  refine all_loop (N := fun n i => n_Z38 n l l i) (len := l.length) (fun m i hi => ?_) (fun m => ?_)
  ·have hw : IntKind.i64.wrap ((i : Int) + 1) = (i : Int) + 1 := wrap_id (by omega) (by omega)
   have h1 : (i : Int) < l.length := by omega
   simp [n_Z38, c_Z38, h1, hw]
  ·simp [n_Z38, c_Z38]
 simp [Z39, c_Z39, key]
theorem lines4_tot (c : List D) (hc : okC c) (n : Int) : ∀ (k : Nat) (i p s : Int) (l : List D), (n - i).toNat ≤ k → 1 ≤ i → n ≤ 6 → 0 ≤ p → p + 10 * k ≤ 1099511620000 → l.length + k ≤ 1000 →
  ∃ y, Z5 n i c p s l = some y ∧ (y.1 = n ∧ y.2.1 = c ∧ p ≤ y.2.2.1 ∧ y.2.2.1 ≤ p + 10 * k ∧ y.2.2.2.2.length ≤ l.length + k)
 | k, i, p, s, l, hk, h1, hn, hp0, hp, hl => by
  rw [Z5_fx]
  refine Tt.out ?_
  unfold c_Z5
  refine Tt.dec (fun hlt => ?_) (fun hlt => Tt.pure ⟨rfl, rfl, by simp only; omega, by simp only; omega, by simp only; omega⟩)
  cases k with
  | zero => omega
  | succ k =>
   (refine Tt.bind (Tt.con (one_tot' _ hc _ _ _ (by omega) (by omega))) ?_; rintro ⟨v, c', p', s'⟩ ⟨hv, rfl, hp1, hp2⟩; dsimp only at hv hp1 hp2 ⊢)
   rw [wrap_id (n := i + 1) (by omega) (by omega)]
   refine Tt.cnd (fun _ => ?_) (fun _ => ?_)
   ·(refine Tt.bind (Tt.con (pick_tot' _ hc _ _ _ (by omega) (by omega))) ?_; rintro ⟨v, c', p', s'⟩ ⟨hv, rfl, hp1, hp2⟩; dsimp only at hv hp1 hp2 ⊢)
    (refine Tt.bind (Tt.con (pick_tot' _ hc _ _ _ (by omega) (by omega))) ?_; rintro ⟨v, c', p', s'⟩ ⟨hv, rfl, hp1, hp2⟩; dsimp only at hv hp1 hp2 ⊢)
    (refine Tt.bind (Tt.con (among_tot _ hc _ _ _ (by omega) (by simp))) ?_; rintro ⟨v, c', p', s'⟩ ⟨hv, rfl, hp1, hp2⟩; dsimp only at hv hp1 hp2 ⊢)
    refine Tt.ite (by simp only [List.length_cons, List.length_nil]; omega) ?_
    simp only [Option.bind_fun_some]
    obtain ⟨y, e1, e2, e3, e4, e5, e6⟩ := lines4_tot _ hc n k (i + 1) p' s' (l ++ [_]) (by omega) (by omega) hn (by omega) (by omega) (by simp only [List.length_append, List.length_cons, List.length_nil]; omega)
    refine Tt.con ⟨y, e1, e2, e3, by omega, by omega, ?_⟩
    simp only [List.length_append, List.length_cons, List.length_nil] at e6; omega
   ·simp only [Option.bind_fun_some]
    obtain ⟨y, e1, e2, e3, e4, e5, e6⟩ := lines4_tot _ hc n k (i + 1) p' s' l (by omega) (by omega) hn (by omega) (by omega) (by omega)
    exact Tt.con ⟨y, e1, e2, e3, by omega, by omega, by omega⟩
theorem lines9_tot (c : List D) (hc : okC c) (n : Int) : ∀ (k : Nat) (i p s : Int) (l : List D), i.toNat ≤ k → 2 ≤ n → n ≤ 6 → i ≤ 10 → 0 ≤ p → p + 10 * k ≤ 1099511620000 → l.length + k ≤ 1000 →
  ∃ y, Z6 n i c p s l = some y ∧ (y.1 = n ∧ y.2.1 = c ∧ p ≤ y.2.2.1 ∧ y.2.2.1 ≤ p + 10 * k ∧ y.2.2.2.2.length ≤ l.length + k)
 | k, i, p, s, l, hk, h1, hn, hi, hp0, hp, hl => by
  rw [Z6_fx]
  refine Tt.out ?_
  unfold c_Z6
  refine Tt.dec (fun hlt => ?_) (fun hlt => Tt.pure ⟨rfl, rfl, by simp only; omega, by simp only; omega, by simp only; omega⟩)
  cases k with
  | zero => omega
  | succ k =>
   rw [wrap_id (n := i - 1) (by omega) (by omega), wrap_id (n := n - 1) (by omega) (by omega)]
   (refine Tt.bind (Tt.con (pick_tot' _ hc _ _ _ (by omega) (by omega))) ?_; rintro ⟨v, c', p', s'⟩ ⟨hv, rfl, hp1, hp2⟩; dsimp only at hv hp1 hp2 ⊢)
   (refine Tt.bind (Tt.con (pick_tot' _ hc _ _ _ (by omega) (by omega))) ?_; rintro ⟨v, c', p', s'⟩ ⟨hv, rfl, hp1, hp2⟩; dsimp only at hv hp1 hp2 ⊢)
   refine Tt.ite (by omega) ?_
   (refine Tt.bind (Tt.con (pick_tot' _ hc _ _ _ (by omega) (by omega))) ?_; rintro ⟨v, c', p', s'⟩ ⟨hv, rfl, hp1, hp2⟩; dsimp only at hv hp1 hp2 ⊢)
   (refine Tt.bind (Tt.con (among_tot _ hc _ _ _ (by omega) (by simp))) ?_; rintro ⟨v, c', p', s'⟩ ⟨hv, rfl, hp1, hp2⟩; dsimp only at hv hp1 hp2 ⊢)
   refine Tt.ite (by simp only [List.length_cons, List.length_nil]; omega) ?_
   simp only [Option.bind_fun_some]
   obtain ⟨y, e1, e2, e3, e4, e5, e6⟩ := lines9_tot _ hc n k (i - 1) p' s' (l ++ [_]) (by omega) (by omega) hn (by omega) (by omega) (by omega) (by simp only [List.length_append, List.length_cons, List.length_nil]; omega)
   refine Tt.con ⟨y, e1, e2, e3, by omega, by omega, ?_⟩
   simp only [List.length_append, List.length_cons, List.length_nil] at e6; omega
theorem lines_tot (c : List D) (hc : okC c) (p s : Int) (hp : 0 ≤ p ∧ p ≤ 1099511610000) : ∃ y, Z7 c p s = some y ∧ (1 ≤ y.2.1 ∧ y.2.1 ≤ 9 ∧ y.2.2.1 = c ∧ p ≤ y.2.2.2.1 ∧ y.2.2.2.1 ≤ p + 500 ∧ y.1.length ≤ 100) := by
 refine Tt.out ?_
 unfold Z7 c_Z7
 (refine Tt.bind (Tt.con (pick_tot' _ hc _ _ _ (by omega) (by omega))) ?_; rintro ⟨v, c', p', s'⟩ ⟨hv, rfl, hp1, hp2⟩; dsimp only at hv hp1 hp2 ⊢)
 rw [wrap_id (n := 2 + v) (by omega) (by omega)]
 refine Tt.bind (Tt.con (lines4_tot _ hc (2 + v) 6 1 p' s' [] (by omega) (by omega) (by omega) (by omega) (by omega) (by simp))) ?_
 rintro ⟨n1, c1, p1, s1, l1⟩ ⟨e0, e2, e4, e5, e6⟩
 dsimp only at e0 e2 e4 e5 e6 ⊢
 subst e0
 subst e2
 refine Tt.bind (Tt.con (pick_tot _ hc _ _ _ (by omega) (by omega))) ?_
 rintro ⟨v2, c2, p2, s2⟩ ⟨hv2, hv3, rfl, hp3, hp4⟩
 dsimp only at hv2 hv3 hp3 hp4 ⊢
 refine Tt.bind (Tt.con (lines9_tot _ hc (2 + v) 6 v2 p2 s2 l1 (by omega) (by omega) (by omega) (by omega) (by omega) (by omega) (by simp only [List.length_nil] at e6; omega))) ?_
 rintro ⟨n3, c3, p3, s3, l3⟩ ⟨g0, g2, g4, g5, g6⟩
 dsimp only at g0 g2 g4 g5 g6 ⊢
 subst g0
 subst g2
 simp only [List.length_nil] at e6
 refine Tt.bind (Tt.con (pick_tot _ hc _ _ _ (by omega) (by omega))) ?_
 rintro ⟨v4, c4, p4, s4⟩ ⟨_, _, rfl, hp5, hp6⟩
 dsimp only at hp5 hp6 ⊢
 refine Tt.dec (fun _ => ?_) (fun _ => ?_)
 ·refine Tt.bind (Tt.con (among_tot _ hc _ _ _ (by omega) (by simp))) ?_
  rintro ⟨v5, c5, p5, s5⟩ ⟨⟨d, hd, hv5⟩, rfl, hp7, hp8⟩
  dsimp only at hv5 hp7 hp8 ⊢
  have : v5 = 1 ∨ v5 = 9 ∨ v5 = 6 := by
   simp only [List.mem_cons, List.not_mem_nil, or_false] at hd
   rcases hd with rfl | rfl | rfl <;> simp only [toInt_int] at hv5 <;> omega
  exact Tt.pure ⟨by simp only; omega, by simp only; omega, rfl, by simp only; omega, by simp only; omega, by simp only; omega⟩
 ·refine Tt.dec (fun _ => ?_) (fun _ => ?_)
  ·(refine Tt.bind (Tt.con (among_tot _ hc _ _ _ (by omega) (by simp))) ?_; rintro ⟨v, c', p', s'⟩ ⟨hv, rfl, hp1, hp2⟩; dsimp only at hv hp1 hp2 ⊢)
   refine Tt.ite (by simp only [List.length_cons, List.length_nil]; omega) ?_
   exact Tt.pure ⟨by simp only; omega, by simp only; omega, rfl, by simp only; omega, by simp only; omega, by simp only [List.length_append, List.length_cons, List.length_nil]; omega⟩
  ·refine Tt.dec (fun _ => ?_) (fun _ => ?_)
   ·(refine Tt.bind (Tt.con (among_tot _ hc _ _ _ (by omega) (by simp))) ?_; rintro ⟨v, c', p', s'⟩ ⟨hv, rfl, hp1, hp2⟩; dsimp only at hv hp1 hp2 ⊢)
    (refine Tt.bind (Tt.con (among_tot _ hc _ _ _ (by omega) (by simp))) ?_; rintro ⟨v, c', p', s'⟩ ⟨hv, rfl, hp1, hp2⟩; dsimp only at hv hp1 hp2 ⊢)
    refine Tt.ite (by simp only [List.length_cons, List.length_nil]; omega) ?_
    exact Tt.pure ⟨by simp only; omega, by simp only; omega, rfl, by simp only; omega, by simp only; omega, by simp only [List.length_append, List.length_cons, List.length_nil]; omega⟩
   ·exact Tt.pure ⟨by simp only; omega, by simp only; omega, rfl, by simp only; omega, by simp only; omega, by simp only; omega⟩
theorem most_eq (a b : Int) : Z8 a b = some (if b < a then a else b) := by
 unfold Z8 c_Z8
 by_cases h : b < a
 ·rw [decide_eq_true h, if_pos h]; rfl
 ·rw [decide_eq_false h, if_neg h]; rfl
theorem dloop5_tot (c : List D) (hc : okC c) (n : Int) (ls : List D) : ∀ (k : Nat) (i p s : Int) (l : List D), i.toNat ≤ k → n ≤ 60000 → i ≤ 100 → 0 ≤ p → p + 10 * k ≤ 1099511620000 → l.length + k ≤ 1000 →
  ∃ y, Z9 n i c p s ls l = some y ∧ (y.1 = n ∧ y.2.1 = c ∧ p ≤ y.2.2.1 ∧ y.2.2.1 ≤ p + 10 * k ∧ y.2.2.2.2.1 = ls ∧ y.2.2.2.2.2.length ≤ l.length + k)
 | k, i, p, s, l, hk, hn, hi, hp0, hp, hl => by
  rw [Z9_fx]
  refine Tt.out ?_
  unfold c_Z9
  refine Tt.dec (fun hlt => ?_) (fun hlt => Tt.pure ⟨rfl, rfl, by simp only; omega, by simp only; omega, rfl, by simp only; omega⟩)
  cases k with
  | zero => omega
  | succ k =>
   rw [wrap_id (n := i - 1) (by omega) (by omega), most_eq]
   simp only [Option.bind_some]
   refine Tt.bind (Tt.con (pick_tot _ hc _ _ _ (by omega) (by split <;> omega))) ?_
   rintro ⟨v, c', p', s'⟩ ⟨_, _, rfl, hp1, hp2⟩
   dsimp only at hp1 hp2 ⊢
   refine Tt.ite (by simp only [List.length_cons, List.length_nil]; omega) ?_
   simp only [Option.bind_fun_some]
   obtain ⟨y, e1, e2, e3, e4, e5, e6, e7⟩ := dloop5_tot _ hc n ls k (i - 1) p' s' (l ++ [_]) (by omega) hn (by omega) (by omega) (by omega) (by simp only [List.length_append, List.length_cons, List.length_nil]; omega)
   refine Tt.con ⟨y, e1, e2, e3, by omega, by omega, e6, ?_⟩
   simp only [List.length_append, List.length_cons, List.length_nil] at e7; omega
theorem drawL_tot (c : List D) (hc : okC c) : ∃ y, Z10 c = some y := by
 suffices h : ∃ y, Z10 c = some y ∧ True by obtain ⟨y, h, _⟩ := h; exact ⟨y, h⟩
 refine Tt.out ?_
 unfold Z10 c_Z10
 refine Tt.bind (Tt.con (lines_tot _ hc _ _ (by omega))) ?_
 rintro ⟨ls, n, c', p', s'⟩ ⟨hn1, hn2, rfl, hp1, hp2, hls⟩
 dsimp only at hn1 hn2 hp1 hp2 hls ⊢
 refine Tt.bind (Tt.con (pick_tot _ hc _ _ _ (by omega) (by omega))) ?_
 rintro ⟨v, c2, p2, s2⟩ ⟨hv1, hv2, rfl, hp3, hp4⟩
 dsimp only at hv1 hv2 hp3 hp4 ⊢
 rw [wrap_id (n := 1 + v) (by omega) (by omega)]
 refine Tt.bind (Tt.con (dloop5_tot _ hc n ls 6 (1 + v) p2 s2 [] (by omega) (by omega) (by omega) (by omega) (by omega) (by simp))) ?_
 rintro ⟨n1, c1, p1, s1, l1, q1⟩ ⟨e0, e2, e4, e5, e6, e7⟩
 dsimp only at e0 e2 e4 e5 e6 e7 ⊢
 subst e0
 subst e2
 subst e6
 refine Tt.dec (fun hl => ?_) (fun _ => Tt.pure trivial)
 (refine Tt.bind (Tt.con (one_tot' _ hc _ _ _ (by omega) (by omega))) ?_; rintro ⟨v, c', p', s'⟩ ⟨hv, rfl, hp1, hp2⟩; dsimp only at hv hp1 hp2 ⊢)
 refine Tt.cnd (fun _ => ?_) (fun _ => Tt.pure trivial)
 refine Tt.ite (by omega) (Tt.ite (by simp only [Int.toNat_zero]; omega) (Tt.ite (by simp only [Int.toNat_zero]; omega) (Tt.ite (by omega) (Tt.ite (by simp only [Int.toNat_zero]; omega) (Tt.ite (by simp only [Int.toNat_zero]; omega) ?_)))))
 (refine Tt.bind (Tt.con (one_tot' _ hc _ _ _ (by omega) (by omega))) ?_; rintro ⟨v, c', p', s'⟩ ⟨hv, rfl, hp1, hp2⟩; dsimp only at hv hp1 hp2 ⊢)
 refine Tt.cnd (fun _ => ?_) (fun _ => Tt.pure trivial)
 rw [most_eq]
 simp only [Option.bind_some]
 refine Tt.bind (Tt.con (pick_tot _ hc _ _ _ (by omega) (by split <;> omega))) ?_
 rintro ⟨v, c3, p3, s3⟩ ⟨_, _, rfl, _, _⟩
 exact Tt.ite (by simp) (Tt.pure trivial)
theorem drawS_tot (c : List D) (hc : okC c) : ∃ y, Z29 c = some y ∧ y.1.length ≤ 100 := by
 refine Tt.out ?_
 unfold Z29 c_Z29
 refine Tt.bind (Tt.con (lines_tot _ hc _ _ (by omega))) ?_
 rintro ⟨ls, n, c', p', s'⟩ ⟨hn1, hn2, rfl, hp1, hp2, hls⟩
 dsimp only at hn1 hn2 hp1 hp2 hls ⊢
 refine Tt.bind (Tt.con (pick_tot _ hc _ _ _ (by omega) (by omega))) ?_
 rintro ⟨v, c2, p2, s2⟩ ⟨hv1, hv2, rfl, hp3, hp4⟩
 dsimp only at hv1 hv2 hp3 hp4 ⊢
 have hq : 0 ≤ v.tdiv 39 ∧ v.tdiv 39 ≤ 1 := by rw [Int.tdiv_eq_ediv_of_nonneg hv1]; omega
 rw [wrap_id (n := v.tdiv 39) (by omega) (by omega), wrap_id (n := 4 + v.tdiv 39) (by omega) (by omega)]
 refine Tt.ite (by decide) (Tt.ite (by simp only [List.length_cons, List.length_nil]; omega) (Tt.ite (by simp only [List.length_cons, List.length_nil]; omega) ?_))
 refine Tt.bind (Tt.con (among_tot _ hc _ _ _ (by omega) (by simp only [List.length_take, List.length_drop, List.length_cons, List.length_nil]; omega))) ?_
 rintro ⟨v3, c3, p3, s3⟩ -
 exact Tt.pure hls
theorem back_zero (l p : List D) (n : Int) (hv : ∀ i, i < l.length → lineB n (l[i]?.getD (.int 0)) = true) (hl : l.length ≤ 16) (hp : p.length = 2) :
  ∃ y, Z27 l p 0 0 = some y ∧ ∀ z, y = .inr z → z = 0 := by
 have hr : ∀ a b, Z26 l a b = some (match firstN (fun i => mB a b (l[i]?.getD (.int 0))) l.length with
   | some k => ((bif decide (((l[k]?.getD (.int 0)).fld 0).toInt = a) && decide (((l[k]?.getD (.int 0)).fld 1).toInt = b) then ((l[k]?.getD (.int 0)).fld 2).toInt else IntKind.i64.wrap (0 - ((l[k]?.getD (.int 0)).fld 2).toInt)), true)
   | none => (0, false)) := by
  intro a b
  simp only [Z26, c_Z26, rise_loop l a b hl, Option.bind_some]
  cases firstN (fun i => mB a b (l[i]?.getD (.int 0))) l.length <;> simp
 have hsym : ∀ (a b : Int) (i : Nat), mB b a (l[i]?.getD (.int 0)) = mB a b (l[i]?.getD (.int 0)) := by
  intro a b i
  unfold mB
  rw [Bool.or_comm]
 generalize ha : (p[0]?.getD (D.int 0)).toInt = a
 generalize hb : (p[1]?.getD (D.int 0)).toInt = b
 rw [Z27_fx]
 unfold c_Z27
 have e2 : IntKind.i64.wrap (0 + 1) = 1 := by decide
 have e3 : IntKind.i64.wrap (1 + 1) = 2 := by decide
 simp only [hp, e2, List.getD_eq_getElem?_getD]
 simp only [show (0 : Int) < ((2 : Nat) : Int) from by decide, show (1 : Int).tmod ((2 : Nat) : Int) = 1 from by decide, show (1 : Int) < ((2 : Nat) : Int) from by decide, decide_true, cond_true, Int.le_refl, and_self, if_true, show ((2 : Nat) : Int) ≠ 0 from by decide, ne_eq, not_false_eq_true, show (0 : Int) ≤ 1 from by decide, Int.toNat_zero, show Int.toNat 1 = 1 from rfl, ha, hb, hr, Option.bind_some]
 cases hf : firstN (fun i => mB a b (l[i]?.getD (.int 0))) l.length with
 | none => exact ⟨_, rfl, fun z h => by cases h⟩
 | some k =>
  obtain ⟨hk, hmb, _⟩ := firstN_some hf
  obtain ⟨b1, b2, b3⟩ := lineB_bd (hv k hk)
  simp only [Bool.not_true, cond_false, Option.bind_fun_some]
  rw [Z27_fx]
  unfold c_Z27
  simp only [hp, e3, List.getD_eq_getElem?_getD]
  have hf2 : firstN (fun i => mB b a (l[i]?.getD (.int 0))) l.length = some k := by
   rw [← hf]; exact firstN_congr (fun i _ => hsym a b i)
  simp only [show (2 : Int).tmod ((2 : Nat) : Int) = 0 from by decide, show (0 : Int) < ((2 : Nat) : Int) from by decide, show (1 : Int) < ((2 : Nat) : Int) from by decide, decide_true, cond_true, Int.le_refl, and_self, if_true, show ((2 : Nat) : Int) ≠ 0 from by decide, ne_eq, not_false_eq_true, show (0 : Int) ≤ 1 from by decide, Int.toNat_zero, show Int.toNat 1 = 1 from rfl, ha, hb, hr, hf2, Option.bind_some, Bool.not_true, cond_false, Option.bind_fun_some]
  rw [Z27_fx]
  unfold c_Z27
  simp only [hp, show ¬ (2 : Int) < ((2 : Nat) : Int) from by decide, decide_false, cond_false]
  refine ⟨_, rfl, fun z h => ?_⟩
  simp only [Sum.inr.injEq] at h
  rw [← h]
  simp only [mB, Bool.or_eq_true, Bool.and_eq_true, decide_eq_true_eq] at hmb
  have w1 := wrap_id (n := 0 - ((l[k]?.getD (.int 0)).fld 2).toInt) (by omega) (by omega)
  rcases hmb with ⟨h1, h2⟩ | ⟨h1, h2⟩
  ·have h3 : ¬ ((l[k]?.getD (.int 0)).fld 0).toInt = b := by omega
   simp only [h1, h2, h3, decide_true, decide_false, Bool.and_self, Bool.false_and, cond_true, cond_false]
   have h4 : ¬ a = b := by omega
   simp only [h4, decide_false, Bool.false_and, cond_false, w1]
   rw [wrap_id (n := 0 + _) (by omega) (by omega), wrap_id (by omega) (by omega)]
   omega
  ·have h3 : ¬ ((l[k]?.getD (.int 0)).fld 0).toInt = a := by omega
   simp only [h1, h2, decide_true, decide_false, Bool.and_self, Bool.false_and, cond_true, cond_false]
   have h4 : ¬ b = a := by omega
   simp only [h4, decide_false, Bool.false_and, cond_false, w1]
   rw [wrap_id (n := 0 + _) (by omega) (by omega), wrap_id (by omega) (by omega)]
   omega
theorem back_flag (l p : List D) (z : Int × Bool × Int) (hp : p.length = 2) (h : Z27 l p 0 0 = some (.inl z)) : z.2.1 = false := by
 have key : ∀ (k : Nat) (i : Nat) (s : Int) (z : Int × Bool × Int), p.length - i ≤ k → Z27 l p s i = some (.inl z) → z.2.1 = false := by
  intro k
  induction k with
  | zero =>
   intro i s z hk h
   rw [Z27_fx] at h
   unfold c_Z27 at h
   rw [decide_eq_false (by omega), cond_false] at h
   cases h
  | succ k ih =>
   intro i s z hk h
   rw [Z27_fx] at h
   unfold c_Z27 at h
   by_cases hlt : (i : Int) < p.length
   ·rw [decide_eq_true hlt, cond_true] at h
    rw [succ_wrap (by omega)] at h
    split at h
    ·split at h
     ·split at h
      ·obtain ⟨q, q1, q2⟩ := Option.bind_eq_some_iff.1 h
       cases hq : q.2 with
       | false =>
        rw [hq] at q2
        simp only [Bool.not_false, cond_true, Option.some.injEq, Sum.inl.injEq] at q2
        rw [← q2]
       | true =>
        rw [hq] at q2
        simp only [Bool.not_true, cond_false, Option.bind_fun_some] at q2
        exact ih (i + 1) _ z (by omega) q2
      ·cases h
     ·cases h
    ·cases h
   ·rw [decide_eq_false hlt, cond_false] at h
    cases h
 exact key p.length 0 0 z (by omega) h
theorem closure_zero (l : List D) (n : Int) (p : List D) : ∃ y, Z28 l n p = some y ∧ Z21 l n p = some y ∧ (y.2 = true → p.length = 2 → y.1 = 0) := by
 obtain ⟨y, h1, h2⟩ := closure_same l n p
 refine ⟨y, h1, h2, fun hy hp => ?_⟩
 obtain ⟨b, g1, g2⟩ := lines_same l n
 cases b with
 | false =>
  simp only [Z28, c_Z28, g1, Option.bind_some, Bool.not_false, cond_true, Option.some.injEq] at h1
  rw [← h1] at hy; cases hy
 | true =>
  obtain ⟨v1, v2⟩ := lines_valid g1
  obtain ⟨z, z1, z2⟩ := back_zero l p n v2 v1 hp
  simp only [Z28, c_Z28, g1, l1In_eq, hp, z1, Option.bind_some, Bool.not_true, cond_false, show btw ((2 : Nat) : Int) 1 16 = true from by decide] at h1
  cases z with
  | inl z =>
   obtain ⟨y0, c1, c2⟩ := path_loop l p n v2 v1 (by omega)
   rw [z1] at c1
   simp only [Option.some.injEq] at c1
   subst c1
   have := back_flag l p z hp z1
   simp only [Sum.elim_inl, Option.some.injEq] at h1
   rw [← h1] at hy
   simp only at hy
   rw [this] at hy; cases hy
  | inr z =>
   simp only [Sum.elim_inr, Option.some.injEq] at h1
   rw [← h1]
   exact z2 z rfl
theorem sp_prop {l hs ks : List D} {r : Option (List D × List D)} {n : Nat} {x : Int} (hv : ∀ i, i < l.length → lineB n (l[i]?.getD (.int 0)) = true) (h : Sp l hs ks r) : SInv n hs ks → kn ks 0 = true → ht hs 0 = x → ∀ h' k', r = some (h', k') →
  SInv n h' k' ∧ kn k' 0 = true ∧ ht h' 0 = x ∧ firstN (fun i => diffB k' (l[i]?.getD (.int 0))) l.length = none := by
 induction h with
 | done h =>
  intro hi h1 h2 h' k' e
  simp only [Option.some.injEq, Prod.mk.injEq] at e
  obtain ⟨rfl, rfl⟩ := e
  exact ⟨hi, h1, h2, h⟩
 | fail _ _ => intro _ _ _ h' k' e; cases e
 | @go hs ks hs' ks' i r h h2 _ ih =>
  intro hi g1 g2 h' k' e
  obtain ⟨q1, q2, _⟩ := firstN_some h
  have hd := hv _ q1
  obtain ⟨a1, a2, a3, a4, a5⟩ := line_ab hd
  have hs2 := (step_some (l := l) hd hi q2 h2).1
  have keep : kn ks' 0 = true ∧ ht hs' 0 = x := by
   unfold diffB at q2
   unfold stepL at h2
   cases hA : kn ks (lA (l[i]?.getD (.int 0))) with
   | true =>
    have hB : kn ks (lB (l[i]?.getD (.int 0))) = false := by rw [hA] at q2; cases hq : kn ks (lB (l[i]?.getD (.int 0))) with | false => rfl | true => rw [hq] at q2; cases q2
    have hne : lB (l[i]?.getD (.int 0)) ≠ 0 := fun e => by rw [e, g1] at hB; cases hB
    rw [hA, cond_true] at h2
    cases hb : btw (IntKind.i64.wrap (ht hs (lA (l[i]?.getD (.int 0))) + ((l[i]?.getD (.int 0)).fld 2).toInt)) (-1000000) 1000000 with
    | false => rw [hb] at h2; cases h2
    | true =>
     rw [hb, cond_true] at h2
     simp only [Option.some.injEq, Prod.mk.injEq] at h2
     obtain ⟨rfl, rfl⟩ := h2
     exact ⟨by rw [kn_set (by rw [hi.k]; omega), g1, Bool.or_true], by rw [ht_set (by rw [hi.h]; omega), if_neg (Ne.symm hne), g2]⟩
   | false =>
    have hne : lA (l[i]?.getD (.int 0)) ≠ 0 := fun e => by rw [e, g1] at hA; cases hA
    rw [hA, cond_false] at h2
    cases hb : btw (IntKind.i64.wrap (ht hs (lB (l[i]?.getD (.int 0))) - ((l[i]?.getD (.int 0)).fld 2).toInt)) (-1000000) 1000000 with
    | false => rw [hb] at h2; cases h2
    | true =>
     rw [hb, cond_true] at h2
     simp only [Option.some.injEq, Prod.mk.injEq] at h2
     obtain ⟨rfl, rfl⟩ := h2
     exact ⟨by rw [kn_set (by rw [hi.k]; omega), g1, Bool.or_true], by rw [ht_set (by rw [hi.h]; omega), if_neg (Ne.symm hne), g2]⟩
  exact ih hs2 keep.1 keep.2 h' k' e
theorem span_full (l : List D) (x1 x2 : Int) : ∃ y, Z37 l x1 x2 = some y ∧ Z35 l x1 x2 = some y ∧ y.1.length ≤ 1048576 ∧
  (y.2.2 = true → ∃ n : Nat, x1 = (n : Int) ∧ 2 ≤ n ∧ n ≤ 8 ∧ l.length ≤ 16 ∧ (∀ i, i < l.length → lineB n (l[i]?.getD (.int 0)) = true) ∧ SInv n y.1 y.2.1 ∧ kn y.2.1 0 = true ∧ ht y.1 0 = x2 ∧ firstN (fun i => diffB y.2.1 (l[i]?.getD (.int 0))) l.length = none) := by
 obtain ⟨b, h1, h2⟩ := lines_same l x1
 have h1' := h1
 simp only [Z37, c_Z37, Z35, c_Z35, h1', h2, l1In_eq, within_eq, Z30, c_Z30, Option.bind_some]
 cases b with
 | false => exact ⟨_, rfl, rfl, by simp, fun h => by cases h⟩
 | true =>
  cases hb : btw x2 (-1000000) 1000000 with
  | false => exact ⟨_, rfl, rfl, by simp, fun h => by cases h⟩
  | true =>
   obtain ⟨hn, hl, hv⟩ := lines_valid2 h1'
   obtain ⟨n, rfl⟩ : ∃ n : Nat, x1 = (n : Int) := ⟨x1.toNat, by omega⟩
   have hi := set_inv (rep_inv n) (show 0 < n by omega) hb
   obtain ⟨y, k1, k2⟩ := sloop l n hv hl _ _ hi
   obtain ⟨z, k3, k4⟩ := iloop l n hv hl _ _ hi
   have e1 : (0 : Int) < n := by omega
   have e2 : (n : Int) ≤ 4294967296 := by omega
   have e3 : 0 + 1 ≤ n := by omega
   simp only [Bool.not_true, cond_false, e1, e2, e3, List.length_replicate, Int.toNat_natCast, Int.toNat_zero, Int.natCast_nonneg, Int.le_refl, and_self, if_true, k1, k3, Option.bind_some]
   cases y with
   | inl y =>
    obtain ⟨y1, y2, y3, y4, y5⟩ := y
    obtain ⟨rfl, rfl, rfl, s1⟩ := k2
    cases z with
    | inl z => obtain ⟨z1, z2, z3⟩ := z; have := Sp.det s1 k4.2; cases this
    | inr z => obtain ⟨rfl, _⟩ := k4; exact ⟨_, rfl, rfl, by simp, fun h => by cases h⟩
   | inr y =>
    obtain ⟨y1, y2⟩ := y
    cases z with
    | inl z =>
     obtain ⟨z1, z2, z3⟩ := z
     obtain ⟨rfl, s2⟩ := k4
     have e := Sp.det k2 s2
     simp only [Option.some.injEq, Prod.mk.injEq] at e
     obtain ⟨rfl, rfl⟩ := e
     have hl0 : 0 < (List.replicate n (D.bool false)).length := by rw [List.length_replicate]; omega
     have hh0 : 0 < (List.replicate n (D.int 0)).length := by rw [List.length_replicate]; omega
     obtain ⟨q1, q2, q3, q4⟩ := sp_prop (x := x2) hv k2 hi (by rw [kn_set hl0]; simp) (by rw [ht_set hh0]; simp) _ _ rfl
     refine ⟨_, rfl, rfl, by simp only [Sum.elim_inr]; have := q1.h; omega, fun _ => ⟨n, rfl, by omega, by omega, hl, hv, ?_⟩⟩
     simp only [Sum.elim_inr]
     exact ⟨q1, q2, q3, q4⟩
    | inr z => have := Sp.det k2 k4.2; cases this
theorem L18_ok (l ks : List D) (n : Nat) (hk : ks.length = n) (hl : l.length ≤ 16) (hv : ∀ i, i < l.length → lineB n (l[i]?.getD (.int 0)) = true) (hf : ∀ i, i < l.length → diffB ks (l[i]?.getD (.int 0)) = false) : ∀ (k i : Nat), i + k = l.length →
  Z40 i l ks = some (.inr ())
 | 0, i, h => by
  rw [Z40_fx]
  unfold c_Z40
  rw [decide_eq_false (by omega)]; rfl
 | k + 1, i, h => by
  have hlt : i < l.length := by omega
  obtain ⟨a1, a2, a3, a4, a5⟩ := line_ab (hv i hlt)
  have hd := hf i hlt
  unfold diffB kn at hd
  rw [Z40_fx]
  unfold c_Z40
  have b1 : (i : Int) < l.length := by omega
  have b2 : i + 1 ≤ l.length := by omega
  have c3 : ((lA (l[i]?.getD (.int 0)) : Nat) : Int) < ks.length := by omega
  have c4 : ((lB (l[i]?.getD (.int 0)) : Nat) : Int) < ks.length := by omega
  have d3 : lA (l[i]?.getD (.int 0)) + 1 ≤ ks.length := by omega
  have d4 : lB (l[i]?.getD (.int 0)) + 1 ≤ ks.length := by omega
  simp only [b1, b2, ← a1, ← a2, c3, c4, d3, d4, decide_true, cond_true, Int.natCast_nonneg, and_self, if_true, Int.toNat_natCast, List.getD_eq_getElem?_getD, succ_wrap (show i < 4611686018427387904 by omega)]
  simp only [Bool.not_eq_false'] at hd
  rw [hd]
  simp only [Bool.not_true, cond_false]
  rw [L18_ok l ks n hk hl hv hf k (i + 1) (by omega)]
  rfl
theorem pure_FnLoops (x0 : List D) (h0 : x0.length ≤ maxLen) (w0 : ∀ d ∈ x0, wfD (.int .u8) d) : Z41 x0 = some true := by
 unfold Z41 c_Z41 Z0 c_Z0
 simp only [Option.bind_some]
 by_cases hb : (65536 : Int) < x0.length
 ·simp [hb]
 rw [decide_eq_false hb, cond_false]
 have hc : okC x0 := ⟨by omega, fun d hd => okB (w0 d hd)⟩
 obtain ⟨⟨l, n, p⟩, hd⟩ := drawL_tot x0 hc
 obtain ⟨⟨l2, n2, h2⟩, hd2, hl2⟩ := drawS_tot x0 hc
 dsimp only at hl2
 obtain ⟨y, y1, y2, y3⟩ := closure_zero l n p
 obtain ⟨z, z1, z2, z3, z4⟩ := span_full l2 n2 h2
 have r1 := rInts_self z.1 z3
 have tail : z.2.2 = true → 0 < (z.1.length : Int) ∧ 0 + 1 ≤ z.1.length ∧ (z.1[0]?.getD (D.int 0)).toInt = h2 ∧ 0 < (z.2.1.length : Int) ∧ 0 + 1 ≤ z.2.1.length ∧ (z.2.1[0]?.getD (D.int 0)).toBool = true ∧ 0 < n2 ∧ (z.2.1.length : Int) = n2 ∧ Z40 0 l2 z.2.1 = some (.inr ()) := by
  intro hz
  obtain ⟨m, rfl, m1, m2, m3, m4, m5, m6, m7, m8⟩ := z4 hz
  have q1 := m5.h
  have q2 := m5.k
  exact ⟨by omega, by omega, m7, by omega, by omega, m6, by omega, by omega, L18_ok l2 z.2.1 m q2 m3 m4 (fun i hi => firstN_none m8 i hi) l2.length 0 (by omega)⟩
 simp only [hd, hd2, y1, y2, z1, z2, r1, Option.bind_some, decide_true, Bool.not_true, cond_false, beq_self_eq_true, Bool.not_not]
 cases hz : z.2.2 with
 | false =>
  simp only [Bool.not_false, cond_true]
  cases hy : y.2 with
  | false => simp
  | true =>
   by_cases hp : (p.length : Int) = 2
   ·simp [hp, y3 hy (by omega)]
   ·simp [hp]
 | true =>
  obtain ⟨t1, t2, t3, t4, t5, t6, t9, t7, t8⟩ := tail hz
  simp only [Int.toNat_zero, List.getD_eq_getElem?_getD, t1, t2, t3, t4, t5, t6, t9, t7, t8, Int.le_refl, and_self, if_true, decide_true, Bool.not_true, cond_false, Option.bind_some, Sum.elim_inr]
  cases hy : y.2 with
  | false => simp
  | true =>
   by_cases hp : (p.length : Int) = 2
   ·simp [hp, y3 hy (by omega)]
   ·simp [hp]
end Go.Proofs.Yticcpkmednijlaa
