/- The law FnAgreement over plain values. No condition beside those of the statement. -/
import Derived.Test.YtckpgbimbgjcoaaClMFnAgreement
import Derived.Test.YtckpgbimbgjcoaaRaiU6
set_option linter.unusedVariables false
set_option linter.unusedSimpArgs false
set_option maxRecDepth 100000
namespace Go.Proofs.Ytckpgbimbgjcoaa
open Go Go.Rai
theorem Z5_lim {ι : Type} {R : ι → ι → Prop} (hD : Dir R) {F : Int → Int → Int → List D → Int → Int → List D → Option (List D × Int × Int × List D)} {Fs : ι → Int → Int → Int → List D → Int → Int → List D → Option (List D × Int × Int × List D)} (h : ∀ x0 x1 x2 x3 x4 x5 x6, Lim R (F x0 x1 x2 x3 x4 x5 x6) (fun i => Fs i x0 x1 x2 x3 x4 x5 x6)) (x0 : Int) (x1 : Int) (x2 : Int) (x3 : List D) (x4 : Int) (x5 : Int) (x6 : List D)  : Lim R (c_Z5 F x0 x1 x2 x3 x4 x5 x6 some) (fun i => c_Z5 (Fs i) x0 x1 x2 x3 x4 x5 x6 some) := by
 unfold c_Z5
 repeat' first
  | exact Lim.const hD
  | exact h _ _ _ _ _ _ _
  | apply Lim.ite
  | apply Lim.cond
  | apply Lim.bind hD
  | apply Lim.sum
  | intro _
theorem Z5_fx (x0 : Int) (x1 : Int) (x2 : Int) (x3 : List D) (x4 : Int) (x5 : Int) (x6 : List D)  : Z5 x0 x1 x2 x3 x4 x5 x6 = c_Z5 Z5 x0 x1 x2 x3 x4 x5 x6 some :=
 fix_eq (N := fun n (p : Int × Int × Int × List D × Int × Int × List D) => n_Z5 n p.1 p.2.1 p.2.2.1 p.2.2.2.1 p.2.2.2.2.1 p.2.2.2.2.2.1 p.2.2.2.2.2.2) (C := fun f p => c_Z5 (fun x0 x1 x2 x3 x4 x5 x6 => f (x0, x1, x2, x3, x4, x5, x6)) p.1 p.2.1 p.2.2.1 p.2.2.2.1 p.2.2.2.2.1 p.2.2.2.2.2.1 p.2.2.2.2.2.2 some) (fun _ => rfl) (fun _ _ => rfl) (fun hD f fs h p => Z5_lim hD (fun x0 x1 x2 x3 x4 x5 x6 => h (x0, x1, x2, x3, x4, x5, x6)) _ _ _ _ _ _ _) (x0, x1, x2, x3, x4, x5, x6)
theorem Z9_lim {ι : Type} {R : ι → ι → Prop} (hD : Dir R) {F : Int → List D → Int → Int → List D → List D → Option (List D)} {Fs : ι → Int → List D → Int → Int → List D → List D → Option (List D)} (h : ∀ x0 x1 x2 x3 x4 x5, Lim R (F x0 x1 x2 x3 x4 x5) (fun i => Fs i x0 x1 x2 x3 x4 x5)) (x0 : Int) (x1 : List D) (x2 : Int) (x3 : Int) (x4 : List D) (x5 : List D)  : Lim R (c_Z9 F x0 x1 x2 x3 x4 x5 some) (fun i => c_Z9 (Fs i) x0 x1 x2 x3 x4 x5 some) := by
 unfold c_Z9
 repeat' first
  | exact Lim.const hD
  | exact h _ _ _ _ _ _
  | apply Lim.ite
  | apply Lim.cond
  | apply Lim.bind hD
  | apply Lim.sum
  | intro _
theorem Z9_fx (x0 : Int) (x1 : List D) (x2 : Int) (x3 : Int) (x4 : List D) (x5 : List D)  : Z9 x0 x1 x2 x3 x4 x5 = c_Z9 Z9 x0 x1 x2 x3 x4 x5 some :=
 fix_eq (N := fun n (p : Int × List D × Int × Int × List D × List D) => n_Z9 n p.1 p.2.1 p.2.2.1 p.2.2.2.1 p.2.2.2.2.1 p.2.2.2.2.2) (C := fun f p => c_Z9 (fun x0 x1 x2 x3 x4 x5 => f (x0, x1, x2, x3, x4, x5)) p.1 p.2.1 p.2.2.1 p.2.2.2.1 p.2.2.2.2.1 p.2.2.2.2.2 some) (fun _ => rfl) (fun _ _ => rfl) (fun hD f fs h p => Z9_lim hD (fun x0 x1 x2 x3 x4 x5 => h (x0, x1, x2, x3, x4, x5)) _ _ _ _ _ _) (x0, x1, x2, x3, x4, x5)
theorem Z15_lim {ι : Type} {R : ι → ι → Prop} (hD : Dir R) {F : List D → Int → Int → Option ((Int) ⊕ (Unit))} {Fs : ι → List D → Int → Int → Option ((Int) ⊕ (Unit))} (h : ∀ x0 x1 x2, Lim R (F x0 x1 x2) (fun i => Fs i x0 x1 x2)) (x0 : List D) (x1 : Int) (x2 : Int)  : Lim R (c_Z15 F x0 x1 x2 some) (fun i => c_Z15 (Fs i) x0 x1 x2 some) := by
 unfold c_Z15
 repeat' first
  | exact Lim.const hD
  | exact h _ _ _
  | apply Lim.ite
  | apply Lim.cond
  | apply Lim.bind hD
  | apply Lim.sum
  | intro _
theorem Z15_fx (x0 : List D) (x1 : Int) (x2 : Int)  : Z15 x0 x1 x2 = c_Z15 Z15 x0 x1 x2 some :=
 fix_eq (N := fun n (p : List D × Int × Int) => n_Z15 n p.1 p.2.1 p.2.2) (C := fun f p => c_Z15 (fun x0 x1 x2 => f (x0, x1, x2)) p.1 p.2.1 p.2.2 some) (fun _ => rfl) (fun _ _ => rfl) (fun hD f fs h p => Z15_lim hD (fun x0 x1 x2 => h (x0, x1, x2)) _ _ _) (x0, x1, x2)
theorem Z19_lim {ι : Type} {R : ι → ι → Prop} (hD : Dir R) {F : Int → Int → List D → Int → Int → Option (Int × Int)} {Fs : ι → Int → Int → List D → Int → Int → Option (Int × Int)} (h : ∀ x0 x1 x2 x3 x4, Lim R (F x0 x1 x2 x3 x4) (fun i => Fs i x0 x1 x2 x3 x4)) (x0 : Int) (x1 : Int) (x2 : List D) (x3 : Int) (x4 : Int)  : Lim R (c_Z19 F x0 x1 x2 x3 x4 some) (fun i => c_Z19 (Fs i) x0 x1 x2 x3 x4 some) := by
 unfold c_Z19
 repeat' first
  | exact Lim.const hD
  | exact h _ _ _ _ _
  | apply Lim.ite
  | apply Lim.cond
  | apply Lim.bind hD
  | apply Lim.sum
  | intro _
theorem Z19_fx (x0 : Int) (x1 : Int) (x2 : List D) (x3 : Int) (x4 : Int)  : Z19 x0 x1 x2 x3 x4 = c_Z19 Z19 x0 x1 x2 x3 x4 some :=
 fix_eq (N := fun n (p : Int × Int × List D × Int × Int) => n_Z19 n p.1 p.2.1 p.2.2.1 p.2.2.2.1 p.2.2.2.2) (C := fun f p => c_Z19 (fun x0 x1 x2 x3 x4 => f (x0, x1, x2, x3, x4)) p.1 p.2.1 p.2.2.1 p.2.2.2.1 p.2.2.2.2 some) (fun _ => rfl) (fun _ _ => rfl) (fun hD f fs h p => Z19_lim hD (fun x0 x1 x2 x3 x4 => h (x0, x1, x2, x3, x4)) _ _ _ _ _) (x0, x1, x2, x3, x4)
theorem Z23_lim {ι : Type} {R : ι → ι → Prop} (hD : Dir R) {F : List D → Int → Option ((List D × Bool) ⊕ (List D))} {Fs : ι → List D → Int → Option ((List D × Bool) ⊕ (List D))} (h : ∀ x0 x1, Lim R (F x0 x1) (fun i => Fs i x0 x1)) (x0 : List D) (x1 : Int)  : Lim R (c_Z23 F x0 x1 some) (fun i => c_Z23 (Fs i) x0 x1 some) := by
 unfold c_Z23
 repeat' first
  | exact Lim.const hD
  | exact h _ _
  | apply Lim.ite
  | apply Lim.cond
  | apply Lim.bind hD
  | apply Lim.sum
  | intro _
theorem Z23_fx (x0 : List D) (x1 : Int)  : Z23 x0 x1 = c_Z23 Z23 x0 x1 some :=
 fix_eq (N := fun n (p : List D × Int) => n_Z23 n p.1 p.2) (C := fun f p => c_Z23 (fun x0 x1 => f (x0, x1)) p.1 p.2 some) (fun _ => rfl) (fun _ _ => rfl) (fun hD f fs h p => Z23_lim hD (fun x0 x1 => h (x0, x1)) _ _) (x0, x1)
theorem Z26_lim {ι : Type} {R : ι → ι → Prop} (hD : Dir R) {F : List D → Int → Int → Int → Option (Int × Int)} {Fs : ι → List D → Int → Int → Int → Option (Int × Int)} (h : ∀ x0 x1 x2 x3, Lim R (F x0 x1 x2 x3) (fun i => Fs i x0 x1 x2 x3)) (x0 : List D) (x1 : Int) (x2 : Int) (x3 : Int)  : Lim R (c_Z26 F x0 x1 x2 x3 some) (fun i => c_Z26 (Fs i) x0 x1 x2 x3 some) := by
 unfold c_Z26
 repeat' first
  | exact Lim.const hD
  | exact h _ _ _ _
  | apply Lim.ite
  | apply Lim.cond
  | apply Lim.bind hD
  | apply Lim.sum
  | intro _
theorem Z26_fx (x0 : List D) (x1 : Int) (x2 : Int) (x3 : Int)  : Z26 x0 x1 x2 x3 = c_Z26 Z26 x0 x1 x2 x3 some :=
 fix_eq (N := fun n (p : List D × Int × Int × Int) => n_Z26 n p.1 p.2.1 p.2.2.1 p.2.2.2) (C := fun f p => c_Z26 (fun x0 x1 x2 x3 => f (x0, x1, x2, x3)) p.1 p.2.1 p.2.2.1 p.2.2.2 some) (fun _ => rfl) (fun _ _ => rfl) (fun hD f fs h p => Z26_lim hD (fun x0 x1 x2 x3 => h (x0, x1, x2, x3)) _ _ _ _) (x0, x1, x2, x3)
theorem Z28_lim {ι : Type} {R : ι → ι → Prop} (hD : Dir R) {F : List D → Int → Int → Option ((Bool) ⊕ (Unit))} {Fs : ι → List D → Int → Int → Option ((Bool) ⊕ (Unit))} (h : ∀ x0 x1 x2, Lim R (F x0 x1 x2) (fun i => Fs i x0 x1 x2)) (x0 : List D) (x1 : Int) (x2 : Int)  : Lim R (c_Z28 F x0 x1 x2 some) (fun i => c_Z28 (Fs i) x0 x1 x2 some) := by
 unfold c_Z28
 repeat' first
  | exact Lim.const hD
  | exact h _ _ _
  | apply Lim.ite
  | apply Lim.cond
  | apply Lim.bind hD
  | apply Lim.sum
  | intro _
theorem Z28_fx (x0 : List D) (x1 : Int) (x2 : Int)  : Z28 x0 x1 x2 = c_Z28 Z28 x0 x1 x2 some :=
 fix_eq (N := fun n (p : List D × Int × Int) => n_Z28 n p.1 p.2.1 p.2.2) (C := fun f p => c_Z28 (fun x0 x1 x2 => f (x0, x1, x2)) p.1 p.2.1 p.2.2 some) (fun _ => rfl) (fun _ _ => rfl) (fun hD f fs h p => Z28_lim hD (fun x0 x1 x2 => h (x0, x1, x2)) _ _ _) (x0, x1, x2)
def Tt {ι β : Type} (I : ι → Prop) (P : β → Prop) (e : ι → Option β) : Prop := ∃ y, P y ∧ ∀ i, I i → e i = some y
theorem Tt.pure {ι β : Type} {I : ι → Prop} {P : β → Prop} {y : β} (h : P y) : Tt I P (fun _ => some y) := ⟨y, h, fun _ _ => rfl⟩
theorem Tt.bind {ι α β : Type} {I : ι → Prop} {Q : α → Prop} {P : β → Prop} {t : ι → Option α} {f : α → ι → Option β} (h : Tt I Q t) (k : ∀ v, Q v → Tt I P (fun i => f v i)) :
  Tt I P (fun i => (t i).bind (fun v => f v i)) := by
 obtain ⟨v, hv, ht⟩ := h
 obtain ⟨y, hy, hk⟩ := k v hv
 exact ⟨y, hy, fun i hi => by show (t i).bind _ = _; rw [ht i hi]; exact hk i hi⟩
theorem Tt.ite {ι β : Type} {I : ι → Prop} {P : β → Prop} {c : Prop} [Decidable c] {x y : ι → Option β} (h : c) (k : Tt I P x) : Tt I P (fun i => if c then x i else y i) := by
 simpa only [if_pos h] using k
theorem Tt.cnd {ι β : Type} {I : ι → Prop} {P : β → Prop} {b : Bool} {x y : ι → Option β} (h1 : b = true → Tt I P x) (h2 : b = false → Tt I P y) : Tt I P (fun i => bif b then x i else y i) := by
 cases b with
 | true => exact h1 rfl
 | false => exact h2 rfl
theorem Tt.dec {ι β : Type} {I : ι → Prop} {P : β → Prop} {p : Prop} [Decidable p] {x y : ι → Option β} (h1 : p → Tt I P x) (h2 : ¬ p → Tt I P y) : Tt I P (fun i => bif decide p then x i else y i) :=
 Tt.cnd (fun h => h1 (of_decide_eq_true h)) (fun h => h2 (of_decide_eq_false h))
theorem Tt.ndec {ι β : Type} {I : ι → Prop} {P : β → Prop} {p : Prop} [Decidable p] {x y : ι → Option β} (h1 : ¬ p → Tt I P x) (h2 : p → Tt I P y) : Tt I P (fun i => bif !decide p then x i else y i) := by
 by_cases h : p
 ·simpa only [decide_eq_true h, Bool.not_true, cond_false] using h2 h
 ·simpa only [decide_eq_false h, Bool.not_false, cond_true] using h1 h
theorem Tt.con {ι β : Type} {I : ι → Prop} {Q : β → Prop} {t : Option β} (h : ∃ y, t = some y ∧ Q y) : Tt I Q (fun _ => t) := by
 obtain ⟨y, h1, h2⟩ := h
 exact ⟨y, h2, fun _ _ => h1⟩
theorem Tt.mono {ι β : Type} {I J : ι → Prop} {P Q : β → Prop} {e : ι → Option β} (h : Tt I P e) (hI : ∀ i, J i → I i) (hP : ∀ y, P y → Q y) : Tt J Q e := by
 obtain ⟨y, h1, h2⟩ := h
 exact ⟨y, hP y h1, fun i hi => h2 i (hI i hi)⟩
theorem Tt.out {β : Type} {P : β → Prop} {t : Option β} (h : Tt (fun _ : Unit => True) P (fun _ => t)) : ∃ y, t = some y ∧ P y := by
 obtain ⟨y, h1, h2⟩ := h
 exact ⟨y, h2 () trivial, h1⟩
theorem Tt.loop {X Y : Type} (N : Nat → X → Option Y) (Inv : X → Prop) (μ : X → Nat) (Post : X → Y → Prop)
  (step : ∀ x, Inv x → (∀ x', Inv x' → μ x' < μ x → Tt (fun m => μ x ≤ m) (Post x') (fun m => N m x')) → Tt (fun m => μ x ≤ m) (Post x) (fun m => N (m + 1) x)) :
  ∀ x, Inv x → ∃ y, ev (fun n => N n x) = some y ∧ Post x y := by
 have key : ∀ k x, Inv x → μ x ≤ k → Tt (fun m => μ x < m) (Post x) (fun m => N m x) := by
  intro k
  induction k with
  | zero =>
   intro x hi hk
   obtain ⟨y, h1, h2⟩ := step x hi (fun x' _ h => absurd h (by omega))
   refine ⟨y, h1, fun m hm => ?_⟩
   obtain ⟨m, rfl⟩ : ∃ m', m = m' + 1 := ⟨m - 1, by omega⟩
   exact h2 m (by omega)
  | succ k ih =>
   intro x hi hk
   obtain ⟨y, h1, h2⟩ := step x hi (fun x' hx' h => (ih x' hx' (by omega)).mono (fun m hm => by omega) (fun _ h => h))
   refine ⟨y, h1, fun m hm => ?_⟩
   obtain ⟨m, rfl⟩ : ∃ m', m = m' + 1 := ⟨m - 1, by omega⟩
   exact h2 m (by omega)
 intro x hi
 obtain ⟨y, h1, h2⟩ := key (μ x) x hi (Nat.le_refl _)
 exact ⟨y, ev_eq (μ x + 1) (fun m hm => h2 m (by omega)), h1⟩
theorem wq (n : Int) : IntKind.i64.wrap n = (n + 9223372036854775808) % 18446744073709551616 - 9223372036854775808 := by
 unfold IntKind.wrap
 simp [IntKind.signed, IntKind.bits]
 omega
def okC (c : List D) : Prop := c.length ≤ 65536 ∧ ∀ d ∈ c, 0 ≤ d.toInt ∧ d.toInt ≤ 255
theorem uwrap (n : Int) : IntKind.u64.wrap n = n % 18446744073709551616 := by
 unfold IntKind.wrap
 simp [IntKind.signed, IntKind.bits]
theorem and255 (r : Int) : 0 ≤ IntKind.i64.wrap (IntKind.u64.wrap (((BitVec.ofInt IntKind.u64.bits r &&& BitVec.ofInt IntKind.u64.bits 255).toNat : Nat) : Int)) ∧ IntKind.i64.wrap (IntKind.u64.wrap (((BitVec.ofInt IntKind.u64.bits r &&& BitVec.ofInt IntKind.u64.bits 255).toNat : Nat) : Int)) ≤ 255 := by
 have h2 : (BitVec.ofInt IntKind.u64.bits r &&& BitVec.ofInt IntKind.u64.bits 255).toNat ≤ (BitVec.ofInt IntKind.u64.bits 255).toNat := by
  rw [BitVec.toNat_and]; exact Nat.and_le_right
 have h3 : (BitVec.ofInt IntKind.u64.bits 255).toNat = 255 := by decide
 rw [h3] at h2
 rw [uwrap, wq]
 omega
theorem next_tot (c : List D) (h : okC c) (p s : Int) (hp : 0 ≤ p ∧ p ≤ 1099511627776) : ∃ y, Z1 c p s = some y ∧ (0 ≤ y.1 ∧ y.1 ≤ 255 ∧ y.2.1 = c ∧ y.2.2.1 = p + 1) := by
 have hw : IntKind.i64.wrap (p + 1) = p + 1 := wrap_id (by omega) (by omega)
 have a1 := fun r => and255 r
 refine Tt.out ?_
 unfold Z1 c_Z1
 rw [hw]
 by_cases hpl : p < (c.length : Int)
 ·rw [decide_eq_true hpl, cond_true]
  have hd := h.2 _ (getD_mem (show p.toNat < c.length by omega))
  have hv : IntKind.i64.wrap (c.getD p.toNat (D.int 0)).toInt = (c.getD p.toNat (D.int 0)).toInt := wrap_id (by omega) (by omega)
  refine Tt.ite (by omega) ?_
  refine Tt.dec (fun _ => ?_) (fun hn => absurd (show p + 1 ≤ (c.length : Int) by omega) hn)
  refine Tt.pure ?_
  exact ⟨by rw [hv]; exact hd.1, by rw [hv]; exact hd.2, rfl, rfl⟩
 ·rw [decide_eq_false hpl, cond_false]
  refine Tt.dec (fun hn => by exfalso; omega) (fun _ => ?_)
  refine Tt.ite (by decide) ?_
  refine Tt.pure ?_
  exact ⟨(a1 _).1, (a1 _).2, rfl, rfl⟩
attribute [local irreducible] Z1
theorem pick_tot (c : List D) (h : okC c) (p s n : Int) (hp : 0 ≤ p ∧ p ≤ 1099511627770) (hn : n ≤ 65536) : ∃ y, Z2 c p s n = some y ∧ (0 ≤ y.1 ∧ (y.1 < n ∨ y.1 = 0) ∧ y.2.1 = c ∧ p ≤ y.2.2.1 ∧ y.2.2.1 ≤ p + 2) := by
 refine Tt.out ?_
 unfold Z2 c_Z2
 refine Tt.dec (fun _ => ?_) (fun hn1 => ?_)
 ·refine Tt.pure ?_
  exact ⟨by simp, .inr rfl, rfl, by simp, by simp only; omega⟩
 ·refine Tt.bind (Tt.con (next_tot c h p s (by omega))) (fun v hv => ?_)
  obtain ⟨v1, v2, v3, v4⟩ := hv
  rw [v3, v4]
  refine Tt.dec (fun _ => ?_) (fun _ => ?_)
  ·refine Tt.bind (Tt.con (next_tot c h (p + 1) _ (by omega))) (fun w hw => ?_)
   obtain ⟨w1, w2, w3, w4⟩ := hw
   refine Tt.ite (by omega) ?_
   have hq : IntKind.i64.wrap (IntKind.i64.wrap (v.1 * 256) + w.1) = v.1 * 256 + w.1 := by
    rw [wrap_id (n := v.1 * 256) (by omega) (by omega), wrap_id (by omega) (by omega)]
   have hm : (v.1 * 256 + w.1).tmod n = (v.1 * 256 + w.1) % n := Int.tmod_eq_emod_of_nonneg (by omega)
   have m1 := Int.emod_nonneg (v.1 * 256 + w.1) (show n ≠ 0 by omega)
   have m2 := Int.emod_lt_of_pos (v.1 * 256 + w.1) (show 0 < n by omega)
   refine Tt.pure ?_
   exact ⟨by simp only; rw [hq, hm]; exact m1, .inl (by simp only; rw [hq, hm]; exact m2), w3, by simp only; omega, by simp only; omega⟩
  ·refine Tt.ite (by omega) ?_
   have hm : v.1.tmod n = v.1 % n := Int.tmod_eq_emod_of_nonneg v1
   have m1 := Int.emod_nonneg v.1 (show n ≠ 0 by omega)
   have m2 := Int.emod_lt_of_pos v.1 (show 0 < n by omega)
   refine Tt.pure ?_
   exact ⟨by simp only; rw [hm]; exact m1, .inl (by simp only; rw [hm]; exact m2), rfl, by simp only; omega, by simp only; omega⟩
attribute [local irreducible] Z2
theorem among_tot (c : List D) (h : okC c) (p s : Int) (l : List D) (hp : 0 ≤ p ∧ p ≤ 1099511627770) (hl : 1 ≤ l.length ∧ l.length ≤ 65536) : ∃ y, Z3 c p s l = some y ∧ ((∃ d ∈ l, y.1 = d.toInt) ∧ y.2.1 = c ∧ p ≤ y.2.2.1 ∧ y.2.2.1 ≤ p + 2) := by
 refine Tt.out ?_
 unfold Z3 c_Z3
 refine Tt.bind (Tt.con (pick_tot c h p s _ hp (by omega))) (fun v hv => ?_)
 refine Tt.ite (by omega) ?_
 refine Tt.ite (by omega) ?_
 refine Tt.pure ?_
 exact ⟨⟨_, getD_mem (show v.1.toNat < l.length by omega), rfl⟩, hv.2.2.1, hv.2.2.2.1, hv.2.2.2.2⟩
attribute [local irreducible] Z3
theorem okB {d : D} (h : wfD (.int .u8) d) : 0 ≤ d.toInt ∧ d.toInt ≤ 255 := by
 obtain ⟨n, rfl, h2⟩ := h
 simp [Lit.wf, IntKind.min, IntKind.max, IntKind.signed, IntKind.bits] at h2
 simp only [toInt_int]; omega
theorem pick_tot' (c : List D) (h : okC c) (p s n : Int) (hp : 0 ≤ p ∧ p ≤ 1099511627770) (hn : n ≤ 65536) : ∃ y, Z2 c p s n = some y ∧ ((0 ≤ y.1 ∧ (y.1 < n ∨ y.1 = 0)) ∧ y.2.1 = c ∧ p ≤ y.2.2.1 ∧ y.2.2.1 ≤ p + 2) := by
 obtain ⟨y, h1, h2, h3, h4⟩ := pick_tot c h p s n hp hn
 exact ⟨y, h1, ⟨h2, h3⟩, h4⟩
theorem one_tot (c : List D) (h : okC c) (p s n : Int) (hp : 0 ≤ p ∧ p ≤ 1099511627770) (hn : n ≤ 65536) : ∃ y, Z8 c p s n = some y ∧ (y.2.1 = c ∧ p ≤ y.2.2.1 ∧ y.2.2.1 ≤ p + 2) := by
 refine Tt.out ?_
 unfold Z8 c_Z8
 refine Tt.bind (Tt.con (pick_tot c h p s n hp hn)) (fun v hv => ?_)
 refine Tt.pure ?_
 exact ⟨hv.2.2.1, hv.2.2.2.1, hv.2.2.2.2⟩
attribute [local irreducible] Z8
theorem one_tot' (c : List D) (h : okC c) (p s n : Int) (hp : 0 ≤ p ∧ p ≤ 1099511627770) (hn : n ≤ 65536) : ∃ y, Z8 c p s n = some y ∧ (True ∧ y.2.1 = c ∧ p ≤ y.2.2.1 ∧ y.2.2.1 ≤ p + 2) := by
 obtain ⟨y, h1, h2⟩ := one_tot c h p s n hp hn
 exact ⟨y, h1, trivial, h2⟩
theorem l1In_eq (x a b : Int) : Z21 x a b = some (btw x a b) := by
 unfold Z21 c_Z21 btw
 by_cases h : a ≤ x <;> simp [h]
theorem within_eq (x a b : Int) : Z12 x a b = some (btw x a b) := by
 unfold Z12 c_Z12 btw
 by_cases h : a ≤ x <;> simp [h]
theorem firstN_iff0 {p : Nat → Bool} {len : Nat} : (firstN p len).isNone = true ↔ ∀ j, j < len → p j = false := by
 constructor
 ·intro h j hj
  cases hf : firstN p len with
  | none => exact firstN_none hf j hj
  | some i => rw [hf] at h; cases h
 ·intro h
  cases hf : firstN p len with
  | none => rfl
  | some i => obtain ⟨h1, h2, _⟩ := firstN_some hf; rw [h i h1] at h2; cases h2
theorem fxScan {α : Type} {F : Int → Option α} {len : Nat} (p : Nat → Bool) (bad : Nat → α) {fin : α}
  (hs : ∀ i : Nat, i < len → F (i : Int) = bif p i then some (bad i) else F ((i + 1 : Nat) : Int)) (he : F (len : Int) = some fin) :
  F 0 = some (match firstN p len with | some i => bad i | none => fin) := by
 have key : ∀ k (i : Nat), i + k = len → (∀ j, j < i → p j = false) → F (i : Int) = some (match firstN p len with | some i => bad i | none => fin) := by
  intro k
  induction k with
  | zero =>
   intro i h1 h3
   have hi : i = len := by omega
   subst hi
   rw [he]
   cases hf : firstN p i with
   | none => rfl
   | some j =>
    obtain ⟨q1, q2, _⟩ := firstN_some hf
    rw [h3 j q1] at q2
    cases q2
  | succ k ih =>
   intro i h1 h3
   rw [hs i (by omega)]
   cases hp : p i with
   | true =>
    rw [cond_true]
    have : firstN p len = some i := by
     unfold firstN
     rw [List.find?_range_eq_some]
     exact ⟨hp, List.mem_range.2 (by omega), fun j hj => by simp [h3 j hj]⟩
    rw [this]
   | false =>
    rw [cond_false]
    refine ih (i + 1) (by omega) (fun j hj => ?_)
    by_cases hji : j = i
    ·subst hji; exact hp
    ·exact h3 j (by omega)
 exact key len 0 (by omega) (fun j hj => by omega)
def allN (p : Nat → Bool) (len : Nat) : Bool := (firstN (fun i => !p i) len).isNone
theorem allN_iff {p : Nat → Bool} {len : Nat} : allN p len = true ↔ ∀ i, i < len → p i = true := by
 unfold allN
 constructor
 ·intro h i hi
  cases hf : firstN (fun i => !p i) len with
  | none => simpa using firstN_none hf i hi
  | some j => rw [hf] at h; cases h
 ·intro h
  cases hf : firstN (fun i => !p i) len with
  | none => rfl
  | some i => obtain ⟨h1, h2, _⟩ := firstN_some hf; rw [h i h1] at h2; cases h2
theorem fxAll {α : Type} {F : Int → Option α} {len : Nat} (p : Nat → Bool) (bad : α) {fin : α}
  (hs : ∀ i : Nat, i < len → F (i : Int) = bif p i then F ((i + 1 : Nat) : Int) else some bad) (he : F (len : Int) = some fin) :
  F 0 = some (bif allN p len then fin else bad) := by
 have := fxScan (F := F) (len := len) (fun i => !p i) (fun _ => bad) (fin := fin) (fun i hi => by rw [hs i hi]; cases p i <;> rfl) he
 rw [this]
 unfold allN
 cases firstN (fun i => !p i) len <;> rfl
def measB (d : D) : Bool := btw (d.fld 0).toInt 0 60000 && btw (d.fld 1).toInt 1 1000
def lw (d : D) : Int := (d.fld 0).toInt - 2 * (d.fld 1).toInt
def hg (d : D) : Int := (d.fld 0).toInt + 2 * (d.fld 1).toInt
theorem isMeas_eq (a e : Int) : Z13 a e = some (btw a 0 60000 && btw e 1 1000) := by
 simp only [Z13, c_Z13, within_eq, Option.bind_some]
 cases btw a 0 60000 <;> simp
theorem measured_eq (a e : Int) : Z22 a e = some (btw a 0 60000 && btw e 1 1000) := by
 simp only [Z22, c_Z22, l1In_eq, Option.bind_some]
 cases btw a 0 60000 <;> simp
theorem areMeas_eq (l : List D) (hl : l.length ≤ 100000) : Z18 l 10 = some (btw l.length 1 10 && allN (fun i => measB (l[i]?.getD (.int 0))) l.length) := by
 have h := fxScan (F := fun i => Z15 l l.length i) (len := l.length) (fun i => !measB (l[i]?.getD (.int 0))) (fun i => .inl (i : Int)) (fin := .inr ()) (fun i hi => by
  show Z15 l l.length i = _
  rw [Z15_fx]
  unfold c_Z15
  have h1 : (i : Int) < l.length := by omega
  simp only [h1, decide_true, cond_true, Int.natCast_nonneg, and_self, if_true, Int.toNat_natCast, Z14, c_Z14, isMeas_eq, Option.bind_some, List.getD_eq_getElem?_getD, measB, succ_wrap (show i < 4611686018427387904 by omega), Option.bind_fun_some])
  (by
   show Z15 l l.length l.length = _
   rw [Z15_fx]; unfold c_Z15; simp)
 have h' : Z15 l l.length 0 = _ := h
 simp only [Z18, c_Z18, within_eq, Option.bind_some, Z17, c_Z17, Z16, c_Z16, h', allN]
 cases btw (l.length : Int) 1 10 with
 | false => rfl
 | true =>
  cases firstN (fun i => !measB (l[i]?.getD (.int 0))) l.length with
  | none => rfl
  | some j =>
   have : (0 : Int) ≤ (j : Int) := by omega
   simp [this]
theorem list_eq (l : List D) (hl : l.length ≤ 100000) : Z24 l = some (btw l.length 1 10 && allN (fun i => measB (l[i]?.getD (.int 0))) l.length) := by
 by_cases h10 : l.length ≤ 11
 ·have h := fxAll (F := fun i => Z23 l i) (len := l.length) (fun i => measB (l[i]?.getD (.int 0))) (.inl (l, false)) (fin := .inr l) (fun i hi => by
   show Z23 l i = _
   rw [Z23_fx]
   unfold c_Z23
   have h1 : (i : Int) < l.length := by omega
   have h2 : (i : Int) ≤ 10 := by omega
   simp only [h1, h2, decide_true, cond_true, Int.natCast_nonneg, and_self, if_true, Int.toNat_natCast, measured_eq, Option.bind_some, List.getD_eq_getElem?_getD, measB, succ_wrap (show i < 4611686018427387904 by omega), Option.bind_fun_some]
   cases btw ((l[i]?.getD (.int 0)).fld 0).toInt 0 60000 && btw ((l[i]?.getD (.int 0)).fld 1).toInt 1 1000 <;> rfl)
   (by
    show Z23 l l.length = _
    rw [Z23_fx]; unfold c_Z23; simp)
  have h' : Z23 l 0 = _ := h
  simp only [Z24, c_Z24, h', Option.bind_some]
  cases allN (fun i => measB (l[i]?.getD (.int 0))) l.length with
  | false => simp
  | true => simp [l1In_eq]
 ·have hb : btw (l.length : Int) 1 10 = false := by
   cases hq : btw (l.length : Int) 1 10 with
   | false => rfl
   | true => have := btw_iff.1 hq; omega
  have key : ∀ k (i : Nat), i + k = 11 → ∃ y, Z23 l i = some y ∧ (y = .inl (l, false) ∨ y = .inr l) := by
   intro k
   induction k with
   | zero =>
    intro i hi
    refine ⟨.inr l, ?_, .inr rfl⟩
    rw [Z23_fx]
    unfold c_Z23
    have h1 : (i : Int) < l.length := by omega
    have h2 : ¬ (i : Int) ≤ 10 := by omega
    simp only [h1, h2, decide_true, decide_false, cond_true, cond_false]
   | succ k ih =>
    intro i hi
    obtain ⟨y, e1, e2⟩ := ih (i + 1) (by omega)
    rw [Z23_fx]
    unfold c_Z23
    have h1 : (i : Int) < l.length := by omega
    have h2 : (i : Int) ≤ 10 := by omega
    simp only [h1, h2, decide_true, cond_true, Int.natCast_nonneg, and_self, if_true, Int.toNat_natCast, measured_eq, Option.bind_some, succ_wrap (show i < 4611686018427387904 by omega), Option.bind_fun_some, e1]
    cases btw ((l.getD i (.int 0)).fld 0).toInt 0 60000 && btw ((l.getD i (.int 0)).fld 1).toInt 1 1000 with
    | false => exact ⟨_, rfl, .inl rfl⟩
    | true => exact ⟨y, rfl, e2⟩
  obtain ⟨y, e1, e2⟩ := key 11 0 rfl
  have e1' : Z23 l 0 = some y := e1
  simp only [Z24, c_Z24, e1', Option.bind_some, hb, Bool.false_and]
  rcases e2 with rfl | rfl
  ·rfl
  ·simp only [Sum.elim_inr, l1In_eq, Option.bind_some, hb]
def mx : List Int → Int → Int
 | [], a => a
 | x :: l, a => mx l (if x > a then x else a)
def mn : List Int → Int → Int
 | [], a => a
 | x :: l, a => mn l (if x < a then x else a)
theorem mx_spec : ∀ (l : List Int) (a : Int), a ≤ mx l a ∧ (∀ x ∈ l, x ≤ mx l a) ∧ (mx l a = a ∨ mx l a ∈ l)
 | [], a => ⟨Int.le_refl _, fun x h => (by cases h), .inl rfl⟩
 | x :: l, a => by
  obtain ⟨h1, h2, h3⟩ := mx_spec l (if x > a then x else a)
  show a ≤ mx l _ ∧ (∀ y ∈ x :: l, y ≤ mx l _) ∧ (mx l _ = a ∨ mx l _ ∈ x :: l)
  split at h1 <;> rename_i hc
  ·rw [if_pos hc] at h2 h3 ⊢
   refine ⟨by omega, fun y hy => ?_, ?_⟩
   ·rcases List.mem_cons.1 hy with rfl | hy
    ·exact h1
    ·exact h2 y hy
   ·rcases h3 with h3 | h3
    ·rw [h3]; simp
    ·simp [h3]
  ·rw [if_neg hc] at h2 h3 ⊢
   refine ⟨h1, fun y hy => ?_, ?_⟩
   ·rcases List.mem_cons.1 hy with rfl | hy
    ·omega
    ·exact h2 y hy
   ·rcases h3 with h3 | h3
    ·exact .inl h3
    ·simp [h3]
theorem mn_spec : ∀ (l : List Int) (a : Int), mn l a ≤ a ∧ (∀ x ∈ l, mn l a ≤ x) ∧ (mn l a = a ∨ mn l a ∈ l)
 | [], a => ⟨Int.le_refl _, fun x h => (by cases h), .inl rfl⟩
 | x :: l, a => by
  obtain ⟨h1, h2, h3⟩ := mn_spec l (if x < a then x else a)
  show mn l _ ≤ a ∧ (∀ y ∈ x :: l, mn l _ ≤ y) ∧ (mn l _ = a ∨ mn l _ ∈ x :: l)
  split at h1 <;> rename_i hc
  ·rw [if_pos hc] at h2 h3 ⊢
   refine ⟨by omega, fun y hy => ?_, ?_⟩
   ·rcases List.mem_cons.1 hy with rfl | hy
    ·exact h1
    ·exact h2 y hy
   ·rcases h3 with h3 | h3
    ·rw [h3]; simp
    ·simp [h3]
  ·rw [if_neg hc] at h2 h3 ⊢
   refine ⟨h1, fun y hy => ?_, ?_⟩
   ·rcases List.mem_cons.1 hy with rfl | hy
    ·omega
    ·exact h2 y hy
   ·rcases h3 with h3 | h3
    ·exact .inl h3
    ·simp [h3]
theorem bds {l : List D} (ha : allN (fun i => measB (l[i]?.getD (.int 0))) l.length = true) {i : Nat} (hi : i < l.length) :
  0 ≤ ((l[i]?.getD (.int 0)).fld 0).toInt ∧ ((l[i]?.getD (.int 0)).fld 0).toInt ≤ 60000 ∧ 1 ≤ ((l[i]?.getD (.int 0)).fld 1).toInt ∧ ((l[i]?.getD (.int 0)).fld 1).toInt ≤ 1000 := by
 have := allN_iff.1 ha i hi
 simp only [measB, Bool.and_eq_true, btw_iff] at this
 omega
theorem ws {l : List D} (ha : allN (fun i => measB (l[i]?.getD (.int 0))) l.length = true) {i : Nat} (hi : i < l.length) :
  IntKind.i64.wrap (((l[i]?.getD (.int 0)).fld 0).toInt - IntKind.i64.wrap (2 * ((l[i]?.getD (.int 0)).fld 1).toInt)) = lw (l[i]?.getD (.int 0)) ∧
  IntKind.i64.wrap (((l[i]?.getD (.int 0)).fld 0).toInt + IntKind.i64.wrap (2 * ((l[i]?.getD (.int 0)).fld 1).toInt)) = hg (l[i]?.getD (.int 0)) := by
 have := bds ha hi
 rw [wrap_id (n := 2 * ((l[i]?.getD (.int 0)).fld 1).toInt) (by omega) (by omega), wrap_id (by omega) (by omega), wrap_id (by omega) (by omega)]
 exact ⟨rfl, rfl⟩
theorem agree_loops (l : List D) (hl : l.length ≤ 100000) (ha : allN (fun i => measB (l[i]?.getD (.int 0))) l.length = true) : ∀ (k i : Nat) (a b : Int), i + k = l.length →
  Z19 a b l l.length i = some (mx ((l.drop i).map lw) a, mn ((l.drop i).map hg) b) ∧ Z26 l a b i = some (mx ((l.drop i).map lw) a, mn ((l.drop i).map hg) b) := by
 intro k
 induction k with
 | zero =>
  intro i a b h
  have hi : i = l.length := by omega
  subst hi
  rw [Z19_fx, Z26_fx]
  unfold c_Z19 c_Z26
  simp [mx, mn]
 | succ k ih =>
  intro i a b h
  have hi : i < l.length := by omega
  have h1 : (i : Int) < l.length := by omega
  obtain ⟨w1, w2⟩ := ws ha hi
  rw [Z19_fx, Z26_fx]
  unfold c_Z19 c_Z26
  have hm : ∀ x y : Int, Z4 x y = some (if y > x then y else x) := fun x y => by
   unfold Z4 c_Z4
   by_cases hx : y < x
   ·rw [decide_eq_true hx, cond_true, if_neg (by omega)]
   ·rw [decide_eq_false hx, cond_false]
    split
    ·rfl
    ·congr 1; omega
  have hn : ∀ x y : Int, Z25 x y = some (if y < x then y else x) := fun x y => by
   unfold Z25 c_Z25
   by_cases hx : x < y
   ·rw [decide_eq_true hx, cond_true, if_neg (by omega)]
   ·rw [decide_eq_false hx, cond_false]
    split
    ·rfl
    ·congr 1; omega
  simp only [h1, decide_true, cond_true, Int.natCast_nonneg, and_self, if_true, Int.toNat_natCast, List.getD_eq_getElem?_getD, w1, w2, hm, hn, Option.bind_some, succ_wrap (show i < 4611686018427387904 by omega), Option.bind_fun_some]
  rw [drop_cons hi]
  exact ih (i + 1) _ _ (by omega)
theorem belongs_eq (l : List D) (hl : l.length ≤ 100000) (ha : allN (fun i => measB (l[i]?.getD (.int 0))) l.length = true) (x : Int) :
  Z29 l x = some (allN (fun i => decide (lw (l[i]?.getD (.int 0)) ≤ x) && decide (x ≤ hg (l[i]?.getD (.int 0)))) l.length) := by
 have h := fxAll (F := fun i => Z28 l x i) (len := l.length) (fun i => decide (lw (l[i]?.getD (.int 0)) ≤ x) && decide (x ≤ hg (l[i]?.getD (.int 0)))) (.inl false) (fin := .inr ()) (fun i hi => by
  show Z28 l x i = _
  have h1 : (i : Int) < l.length := by omega
  obtain ⟨w1, w2⟩ := ws ha hi
  rw [Z28_fx]
  unfold c_Z28
  simp only [h1, decide_true, cond_true, Int.natCast_nonneg, and_self, if_true, Int.toNat_natCast, List.getD_eq_getElem?_getD, w1, w2, succ_wrap (show i < 4611686018427387904 by omega), Option.bind_fun_some]
  by_cases c1 : x < lw (l[i]?.getD (.int 0))
  ·have : ¬ lw (l[i]?.getD (.int 0)) ≤ x := by omega
   simp [c1, this]
  ·have c1' : lw (l[i]?.getD (.int 0)) ≤ x := by omega
   by_cases c2 : hg (l[i]?.getD (.int 0)) < x
   ·have : ¬ x ≤ hg (l[i]?.getD (.int 0)) := by omega
    simp [c1, c2, this]
   ·have c2' : x ≤ hg (l[i]?.getD (.int 0)) := by omega
    simp [c1, c2, c1', c2'])
  (by
   show Z28 l x l.length = _
   rw [Z28_fx]; unfold c_Z28; simp)
 have h' : Z28 l x 0 = _ := h
 simp only [Z29, c_Z29, h', Option.bind_some]
 cases allN (fun i => decide (lw (l[i]?.getD (.int 0)) ≤ x) && decide (x ≤ hg (l[i]?.getD (.int 0)))) l.length <;> rfl
theorem mem_idx {l : List D} {f : D → Int} {x : Int} (h : x ∈ l.map f) : ∃ i, i < l.length ∧ x = f (l[i]?.getD (.int 0)) := by
 obtain ⟨d, hd, rfl⟩ := List.mem_map.1 h
 obtain ⟨i, hi, rfl⟩ := List.getElem_of_mem hd
 exact ⟨i, hi, by rw [List.getElem?_eq_getElem hi]; rfl⟩
theorem idx_mem {l : List D} {f : D → Int} {i : Nat} (h : i < l.length) : f (l[i]?.getD (.int 0)) ∈ l.map f :=
 List.mem_map.2 ⟨_, get_mem h, rfl⟩
theorem curveL5_tot (c : List D) (hc : okC c) : ∀ (k : Nat) (n y a p s : Int) (acc : List D), n.toNat = k → 0 ≤ n → n ≤ 20 → 0 ≤ p → p + 6 * n ≤ 1099511627000 → (acc.length : Int) + n ≤ 100 →
  ∃ z, Z5 y a n c p s acc = some z ∧ (z.1 = c ∧ p ≤ z.2.1 ∧ z.2.1 ≤ p + 6 * n ∧ (z.2.2.2.length : Int) = acc.length + n) := by
 intro k
 induction k with
 | zero =>
  intro n y a p s acc hk h0 h1 h2 h3 h4
  refine Tt.out ?_
  rw [Z5_fx]
  unfold c_Z5
  refine Tt.dec (fun hn => by exfalso; omega) (fun _ => Tt.pure ⟨rfl, by simp only; omega, by simp only; omega, by simp only; omega⟩)
 | succ k ih =>
  intro n y a p s acc hk h0 h1 h2 h3 h4
  refine Tt.out ?_
  rw [Z5_fx]
  unfold c_Z5
  refine Tt.dec (fun hn => ?_) (fun hn => by exfalso; omega)
  (refine Tt.bind (Tt.con (pick_tot' _ hc _ _ _ (by omega) (by omega))) ?_; rintro ⟨v, c', p', s'⟩ ⟨hv, rfl, hp1, hp2⟩; dsimp only at hv hp1 hp2 ⊢)
  refine Tt.ite (by simp only [List.length_cons, List.length_nil]; omega) ?_
  (refine Tt.bind (Tt.con (among_tot _ hc _ _ _ (by omega) (by simp))) ?_; rintro ⟨v, c', p', s'⟩ ⟨hv, rfl, hp1, hp2⟩; dsimp only at hv hp1 hp2 ⊢)
  (refine Tt.bind (Tt.con (among_tot _ hc _ _ _ (by omega) (by simp))) ?_; rintro ⟨v, c', p', s'⟩ ⟨hv, rfl, hp1, hp2⟩; dsimp only at hv hp1 hp2 ⊢)
  refine Tt.bind (Q := fun _ => True) (Tt.con ⟨_, (by unfold Z4 c_Z4; rw [show ∀ (b : Bool) (x y : Int), (bif b then some x else some y) = some (bif b then x else y) from fun b _ _ => by cases b <;> rfl]), trivial⟩) ?_
  rintro z -
  rw [wrap_id (n := n - 1) (by omega) (by omega)]
  refine Tt.bind (Tt.con (ih (n - 1) _ _ _ _ _ (by omega) (by omega) (by omega) (by omega) (by omega) (by simp only [List.length_append, List.length_cons, List.length_nil]; omega))) ?_
  rintro ⟨c2, p2, s2, l2⟩ ⟨e1, e2, e3, e4⟩
  simp only [List.length_append, List.length_cons, List.length_nil] at e1 e2 e3 e4
  exact Tt.pure ⟨e1, by simp only; omega, by simp only; omega, by simp only; omega⟩
theorem curve_tot (c : List D) (hc : okC c) (p s : Int) (hp : 0 ≤ p ∧ p ≤ 1099511620000) : ∃ z, Z6 c p s = some z ∧ (z.2.1 = c ∧ p ≤ z.2.2.1 ∧ z.2.2.1 ≤ p + 100 ∧ 2 ≤ z.1.length ∧ z.1.length ≤ 20) := by
 refine Tt.out ?_
 unfold Z6 c_Z6
 (refine Tt.bind (Tt.con (among_tot _ hc _ _ _ (by omega) (by simp))) ?_; rintro ⟨v, c', p', s'⟩ ⟨hv, rfl, hp1, hp2⟩; dsimp only at hv hp1 hp2 ⊢)
 (refine Tt.bind (Tt.con (among_tot _ hc _ _ _ (by omega) (by simp))) ?_; rintro ⟨v, c', p', s'⟩ ⟨hv, rfl, hp1, hp2⟩; dsimp only at hv hp1 hp2 ⊢)
 (refine Tt.bind (Tt.con (pick_tot' _ hc _ _ _ (by omega) (by omega))) ?_; rintro ⟨v, c', p', s'⟩ ⟨hv, rfl, hp1, hp2⟩; dsimp only at hv hp1 hp2 ⊢)
 rw [wrap_id (n := 2 + v) (by omega) (by omega)]
 refine Tt.bind (Tt.con (curveL5_tot _ hc _ _ _ _ _ _ _ rfl (by omega) (by omega) (by omega) (by omega) (by simp only [List.length_nil]; omega))) ?_
 rintro ⟨c2, p2, s2, l2⟩ ⟨e1, e2, e3, e4⟩
 simp only [List.length_nil] at e1 e2 e3 e4
 exact Tt.pure ⟨e1, by simp only; omega, by simp only; omega, by simp only; omega, by simp only; omega⟩
theorem measuredD_tot (c : List D) (hc : okC c) (p s : Int) (l : List D) (hp : 0 ≤ p ∧ p ≤ 1099511620000) (hl : 1 ≤ l.length ∧ l.length ≤ 1000) : ∃ z, Z7 c p s l = some z ∧ (z.2.2.1 = c ∧ p ≤ z.2.2.2.1 ∧ z.2.2.2.1 ≤ p + 10) := by
 refine Tt.out ?_
 unfold Z7 c_Z7
 (refine Tt.bind (Tt.con (pick_tot' _ hc _ _ _ (by omega) (by omega))) ?_; rintro ⟨v, c', p', s'⟩ ⟨hv, rfl, hp1, hp2⟩; dsimp only at hv hp1 hp2 ⊢)
 refine Tt.ite (by omega) ?_
 (refine Tt.bind (Tt.con (pick_tot' _ hc _ _ _ (by omega) (by omega))) ?_; rintro ⟨v, c', p', s'⟩ ⟨hv, rfl, hp1, hp2⟩; dsimp only at hv hp1 hp2 ⊢)
 (refine Tt.bind (Tt.con (pick_tot' _ hc _ _ _ (by omega) (by omega))) ?_; rintro ⟨v, c', p', s'⟩ ⟨hv, rfl, hp1, hp2⟩; dsimp only at hv hp1 hp2 ⊢)
 (refine Tt.bind (Tt.con (pick_tot' _ hc _ _ _ (by omega) (by omega))) ?_; rintro ⟨v, c', p', s'⟩ ⟨hv, rfl, hp1, hp2⟩; dsimp only at hv hp1 hp2 ⊢)
 refine Tt.dec (fun _ => ?_) (fun _ => ?_)
 ·(refine Tt.bind (Tt.con (among_tot _ hc _ _ _ (by omega) (by simp))) ?_; rintro ⟨v, c', p', s'⟩ ⟨hv, rfl, hp1, hp2⟩; dsimp only at hv hp1 hp2 ⊢)
  exact Tt.pure ⟨rfl, by simp only; omega, by simp only; omega⟩
 ·refine Tt.dec (fun _ => ?_) (fun _ => ?_)
  ·(refine Tt.bind (Tt.con (among_tot _ hc _ _ _ (by omega) (by simp))) ?_; rintro ⟨v, c', p', s'⟩ ⟨hv, rfl, hp1, hp2⟩; dsimp only at hv hp1 hp2 ⊢)
   exact Tt.pure ⟨rfl, by simp only; omega, by simp only; omega⟩
  ·exact Tt.pure ⟨rfl, by simp only; omega, by simp only; omega⟩
theorem combL5_tot (c : List D) (hc : okC c) (cv : List D) (hcv : 1 ≤ cv.length) : ∀ (k : Nat) (n p s : Int) (acc : List D), n.toNat = k → 0 ≤ n → n ≤ 20 → 0 ≤ p → p + 20 * n ≤ 1099511620000 → (acc.length : Int) + n ≤ 100 →
  ∃ z, Z9 n c p s cv acc = some z ∧ (z.length ≤ 100) := by
 intro k
 induction k with
 | zero =>
  intro n p s acc hk h0 h1 h2 h3 h4
  refine Tt.out ?_
  rw [Z9_fx]
  unfold c_Z9
  refine Tt.dec (fun hn => by exfalso; omega) (fun _ => Tt.pure (by omega))
 | succ k ih =>
  intro n p s acc hk h0 h1 h2 h3 h4
  refine Tt.out ?_
  rw [Z9_fx]
  unfold c_Z9
  refine Tt.dec (fun hn => ?_) (fun hn => by exfalso; omega)
  refine Tt.ite (by omega) ?_
  refine Tt.ite (by omega) ?_
  refine Tt.bind (Tt.con (measuredD_tot _ hc _ _ _ (by omega) (by simp; omega))) ?_
  rintro ⟨a1, e1, c1, p1, s1⟩ ⟨rfl, q1, q2⟩
  dsimp only at q1 q2 ⊢
  (refine Tt.bind (Tt.con (one_tot' _ hc _ _ _ (by omega) (by omega))) ?_; rintro ⟨v, c', p', s'⟩ ⟨hv, rfl, hp1, hp2⟩; dsimp only at hv hp1 hp2 ⊢)
  refine Tt.cnd (fun _ => ?_) (fun _ => ?_)
  ·(refine Tt.bind (Tt.con (among_tot _ hc _ _ _ (by omega) (by simp))) ?_; rintro ⟨v, c', p', s'⟩ ⟨hv, rfl, hp1, hp2⟩; dsimp only at hv hp1 hp2 ⊢)
   refine Tt.ite (by simp only [List.length_cons, List.length_nil]; omega) ?_
   rw [wrap_id (n := n - 1) (by omega) (by omega)]
   refine Tt.bind (Tt.con (ih (n - 1) _ _ _ (by omega) (by omega) (by omega) (by omega) (by omega) (by simp only [List.length_append, List.length_cons, List.length_nil]; omega))) ?_
   intro z hz
   exact Tt.pure hz
  ·refine Tt.ite (by simp only [List.length_cons, List.length_nil]; omega) ?_
   rw [wrap_id (n := n - 1) (by omega) (by omega)]
   refine Tt.bind (Tt.con (ih (n - 1) _ _ _ (by omega) (by omega) (by omega) (by omega) (by omega) (by simp only [List.length_append, List.length_cons, List.length_nil]; omega))) ?_
   intro z hz
   exact Tt.pure hz
theorem draw_tot (c : List D) (hc : okC c) : ∃ z, Z11 c = some z ∧ z.length ≤ 100 := by
 refine Tt.out ?_
 unfold Z11 c_Z11 Z10 c_Z10
 refine Tt.bind ?_ (fun v hv => Tt.pure hv)
 refine Tt.bind (Tt.con (curve_tot _ hc _ _ (by omega))) ?_
 rintro ⟨cv, c1, p1, s1⟩ ⟨rfl, q1, q2, q3, q4⟩
 dsimp only at q1 q2 q3 q4 ⊢
 (refine Tt.bind (Tt.con (pick_tot' _ hc _ _ _ (by omega) (by omega))) ?_; rintro ⟨v, c', p', s'⟩ ⟨hv, rfl, hp1, hp2⟩; dsimp only at hv hp1 hp2 ⊢)
 have hd : (v.tdiv 20 = 0 ∨ v.tdiv 20 = 1) := by
  rw [Int.tdiv_eq_ediv_of_nonneg (by omega)]
  omega
 have hw : IntKind.i64.wrap (6 + IntKind.i64.wrap (v.tdiv 20)) = 6 + v.tdiv 20 := by
  rw [wrap_id (n := v.tdiv 20) (by omega) (by omega), wrap_id (by omega) (by omega)]
 rw [hw]
 refine Tt.ite (by decide) ?_
 refine Tt.ite (by simp only [List.length_cons, List.length_nil]; omega) ?_
 refine Tt.ite (by simp only [List.length_cons, List.length_nil]; omega) ?_
 refine Tt.bind (Tt.con (among_tot _ hc _ _ _ (by omega) (by simp only [List.length_take, List.length_drop, List.length_cons, List.length_nil]; omega))) ?_
 rintro ⟨n, c2, p2, s2⟩ ⟨⟨d, hdm, hn⟩, rfl, r1, r2⟩
 dsimp only at hn r1 r2 ⊢
 have hnb : 0 ≤ n ∧ n ≤ 11 := by
  have hm := List.mem_of_mem_drop (List.mem_of_mem_take hdm)
  simp only [List.mem_cons, List.not_mem_nil, or_false] at hm
  rcases hm with rfl | rfl | rfl | rfl | rfl | rfl | rfl | rfl <;> simp only [toInt_int] at hn <;> omega
 refine Tt.bind (Tt.con (combL5_tot _ hc cv (by omega) _ _ _ _ _ rfl (by omega) (by omega) (by omega) (by omega) (by simp only [List.length_nil]; omega))) ?_
 intro z hz
 exact Tt.pure hz
theorem agree_eq (l : List D) (hl : l.length ≤ 100000) : ∃ y, Z20 l = some y ∧ Z27 l = some y ∧
  (y.2.2 = true → allN (fun i => measB (l[i]?.getD (.int 0))) l.length = true ∧ y.1 = mx (l.map lw) 0 ∧ y.2.1 = mn (l.map hg) 60000 ∧ y.1 ≤ y.2.1) := by
 simp only [Z20, c_Z20, Z27, c_Z27, areMeas_eq l hl, list_eq l hl, Option.bind_some]
 cases hv : (btw (l.length : Int) 1 10 && allN (fun i => measB (l[i]?.getD (.int 0))) l.length) with
 | false => exact ⟨_, rfl, rfl, fun h => by cases h⟩
 | true =>
  rw [Bool.and_eq_true] at hv
  obtain ⟨h1, h2⟩ := agree_loops l hl hv.2 l.length 0 0 60000 (by omega)
  have h1' : Z19 0 60000 l l.length 0 = _ := h1
  have h2' : Z26 l 0 60000 0 = _ := h2
  simp only [h1', h2', Option.bind_some, List.drop_zero, Bool.not_true, cond_false]
  by_cases hc : mn (l.map hg) 60000 < mx (l.map lw) 0
  ·simp only [hc, decide_true, cond_true]
   exact ⟨_, rfl, rfl, fun h => by cases h⟩
  ·simp only [hc, decide_false, cond_false]
   exact ⟨_, rfl, rfl, fun _ => ⟨hv.2, rfl, rfl, by simp only; omega⟩⟩
theorem pure_FnAgreement (x0 : List D) (h0 : x0.length ≤ maxLen) (w0 : ∀ d ∈ x0, wfD (.int .u8) d) : Z30 x0 = some true := by
 simp only [Z30, c_Z30, Z0, c_Z0, Option.bind_some]
 by_cases hb : (65536 : Int) < x0.length
 ·simp only [hb, decide_true, cond_true]
 ·have hc : okC x0 := ⟨by omega, fun d hd => okB (w0 d hd)⟩
  obtain ⟨l, hl1, hl2⟩ := draw_tot x0 hc
  obtain ⟨⟨a, b, ok⟩, e1, e2, e3⟩ := agree_eq l (by omega)
  simp only [hb, decide_false, cond_false, hl1, e1, e2, Option.bind_some, decide_true, Bool.not_true, beq_self_eq_true]
  cases ok with
  | false => rfl
  | true =>
   obtain ⟨ha, g1, g2, g3⟩ := e3 rfl
   simp only at g1 g2 g3
   obtain ⟨m1, m2, m3⟩ := mx_spec (l.map lw) 0
   obtain ⟨n1, n2, n3⟩ := mn_spec (l.map hg) 60000
   rw [← g1] at m1 m2 m3
   rw [← g2] at n1 n2 n3
   have bel : ∀ x, (a ≤ x ∧ x ≤ b) → Z29 l x = some true := fun x hx => by
    rw [belongs_eq l (by omega) ha, allN_iff.2 (fun i hi => ?_)]
    have q1 := m2 _ (idx_mem (f := lw) hi)
    have q2 := n2 _ (idx_mem (f := hg) hi)
    simp only [Bool.and_eq_true, decide_eq_true_eq]
    omega
   have notbel : ∀ x, (∃ i, i < l.length ∧ (x < lw (l[i]?.getD (.int 0)) ∨ hg (l[i]?.getD (.int 0)) < x)) → Z29 l x = some false := fun x hx => by
    rw [belongs_eq l (by omega) ha]
    congr 1
    cases hq : allN (fun i => decide (lw (l[i]?.getD (.int 0)) ≤ x) && decide (x ≤ hg (l[i]?.getD (.int 0)))) l.length with
    | false => rfl
    | true =>
     obtain ⟨i, hi, hi2⟩ := hx
     have := allN_iff.1 hq i hi
     simp only [Bool.and_eq_true, decide_eq_true_eq] at this
     omega
   have ra : 0 ≤ a ∧ a ≤ 60000 := by omega
   have rb : 0 ≤ b ∧ b ≤ 60000 := by omega
   have low1 : a ≠ 0 → Z29 l (IntKind.i64.wrap (a - 1)) = some false := fun hne => by
    rw [wrap_id (by omega) (by omega)]
    rcases m3 with m3 | m3
    ·exact absurd m3 hne
    ·obtain ⟨i, hi, e⟩ := mem_idx m3
     exact notbel _ ⟨i, hi, .inl (by omega)⟩
   have high1 : b ≠ 60000 → Z29 l (IntKind.i64.wrap (b + 1)) = some false := fun hne => by
    rw [wrap_id (by omega) (by omega)]
    rcases n3 with n3 | n3
    ·exact absurd n3 hne
    ·obtain ⟨i, hi, e⟩ := mem_idx n3
     exact notbel _ ⟨i, hi, .inr (by omega)⟩
   simp only [bel a ⟨by omega, g3⟩, bel b ⟨g3, by omega⟩, Option.bind_some, cond_true, cond_false, Bool.not_true, Bool.not_false]
   by_cases ca : a = 0
   ·by_cases cb : b = 60000
    ·simp [ca, cb]
    ·simp [ca, cb, high1 cb]
   ·by_cases cb : b = 60000
    ·simp [ca, cb, low1 ca]
    ·simp [ca, cb, low1 ca, high1 cb]
end Go.Proofs.Ytckpgbimbgjcoaa
