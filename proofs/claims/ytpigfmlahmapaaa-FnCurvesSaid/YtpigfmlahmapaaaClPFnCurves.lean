/- The law FnCurves over plain values. No condition beside those of the statement. -/
import Derived.Test.YtpigfmlahmapaaaClMFnCurves
import Derived.Test.YtpigfmlahmapaaaRaiU5
set_option linter.unusedVariables false
set_option linter.unusedSimpArgs false
set_option maxRecDepth 100000
namespace Go.Proofs.Ytpigfmlahmapaaa
open Go Go.Rai
theorem Z5_lim {ι : Type} {R : ι → ι → Prop} (hD : Dir R) {F : Int → Int → Int → List D → Int → Int → List D → Option (List D × Int × Int × List D)} {Fs : ι → Int → Int → Int → List D → Int → Int → List D → Option (List D × Int × Int × List D)} (h : ∀ x0 x1 x2 x3 x4 x5 x6, Lim R (F x0 x1 x2 x3 x4 x5 x6) (fun i => Fs i x0 x1 x2 x3 x4 x5 x6)) (x0 : Int) (x1 : Int) (x2 : Int) (x3 : List D) (x4 : Int) (x5 : Int) (x6 : List D)  : Lim R (c_Z5 F x0 x1 x2 x3 x4 x5 x6 some) (fun i => c_Z5 (Fs i) x0 x1 x2 x3 x4 x5 x6 some) := by
 unfold c_Z5
 repeat' first
  | exact Lim.const hD
  | exact h _ _ _ _ _ _ _
  | apply Lim.ite
  | apply Lim.cond
  | apply Lim.bind hD
  | apply Lim.sum
  | intro _
theorem Z5_fx (x0 : Int) (x1 : Int) (x2 : Int) (x3 : List D) (x4 : Int) (x5 : Int) (x6 : List D)  : Z5 x0 x1 x2 x3 x4 x5 x6 = c_Z5 Z5 x0 x1 x2 x3 x4 x5 x6 some :=
 fix_eq (N := fun n (p : Int × Int × Int × List D × Int × Int × List D) => n_Z5 n p.1 p.2.1 p.2.2.1 p.2.2.2.1 p.2.2.2.2.1 p.2.2.2.2.2.1 p.2.2.2.2.2.2) (C := fun f p => c_Z5 (fun x0 x1 x2 x3 x4 x5 x6 => f (x0, x1, x2, x3, x4, x5, x6)) p.1 p.2.1 p.2.2.1 p.2.2.2.1 p.2.2.2.2.1 p.2.2.2.2.2.1 p.2.2.2.2.2.2 some) (fun _ => rfl) (fun _ _ => rfl) (fun hD f fs h p => Z5_lim hD (fun x0 x1 x2 x3 x4 x5 x6 => h (x0, x1, x2, x3, x4, x5, x6)) _ _ _ _ _ _ _) (x0, x1, x2, x3, x4, x5, x6)
theorem Z14_lim {ι : Type} {R : ι → ι → Prop} (hD : Dir R) {F : Int → Int → Int → Int → List D → Option (List D)} {Fs : ι → Int → Int → Int → Int → List D → Option (List D)} (h : ∀ x0 x1 x2 x3 x4, Lim R (F x0 x1 x2 x3 x4) (fun i => Fs i x0 x1 x2 x3 x4)) (x0 : Int) (x1 : Int) (x2 : Int) (x3 : Int) (x4 : List D)  : Lim R (c_Z14 F x0 x1 x2 x3 x4 some) (fun i => c_Z14 (Fs i) x0 x1 x2 x3 x4 some) := by
 unfold c_Z14
 repeat' first
  | exact Lim.const hD
  | exact h _ _ _ _ _
  | apply Lim.ite
  | apply Lim.cond
  | apply Lim.bind hD
  | apply Lim.sum
  | intro _
theorem Z14_fx (x0 : Int) (x1 : Int) (x2 : Int) (x3 : Int) (x4 : List D)  : Z14 x0 x1 x2 x3 x4 = c_Z14 Z14 x0 x1 x2 x3 x4 some :=
 fix_eq (N := fun n (p : Int × Int × Int × Int × List D) => n_Z14 n p.1 p.2.1 p.2.2.1 p.2.2.2.1 p.2.2.2.2) (C := fun f p => c_Z14 (fun x0 x1 x2 x3 x4 => f (x0, x1, x2, x3, x4)) p.1 p.2.1 p.2.2.1 p.2.2.2.1 p.2.2.2.2 some) (fun _ => rfl) (fun _ _ => rfl) (fun hD f fs h p => Z14_lim hD (fun x0 x1 x2 x3 x4 => h (x0, x1, x2, x3, x4)) _ _ _ _ _) (x0, x1, x2, x3, x4)
theorem Z19_lim {ι : Type} {R : ι → ι → Prop} (hD : Dir R) {F : List D → Int → Int → Int → List D → Option (List D)} {Fs : ι → List D → Int → Int → Int → List D → Option (List D)} (h : ∀ x0 x1 x2 x3 x4, Lim R (F x0 x1 x2 x3 x4) (fun i => Fs i x0 x1 x2 x3 x4)) (x0 : List D) (x1 : Int) (x2 : Int) (x3 : Int) (x4 : List D)  : Lim R (c_Z19 F x0 x1 x2 x3 x4 some) (fun i => c_Z19 (Fs i) x0 x1 x2 x3 x4 some) := by
 unfold c_Z19
 repeat' first
  | exact Lim.const hD
  | exact h _ _ _ _ _
  | apply Lim.ite
  | apply Lim.cond
  | apply Lim.bind hD
  | apply Lim.sum
  | intro _
theorem Z19_fx (x0 : List D) (x1 : Int) (x2 : Int) (x3 : Int) (x4 : List D)  : Z19 x0 x1 x2 x3 x4 = c_Z19 Z19 x0 x1 x2 x3 x4 some :=
 fix_eq (N := fun n (p : List D × Int × Int × Int × List D) => n_Z19 n p.1 p.2.1 p.2.2.1 p.2.2.2.1 p.2.2.2.2) (C := fun f p => c_Z19 (fun x0 x1 x2 x3 x4 => f (x0, x1, x2, x3, x4)) p.1 p.2.1 p.2.2.1 p.2.2.2.1 p.2.2.2.2 some) (fun _ => rfl) (fun _ _ => rfl) (fun hD f fs h p => Z19_lim hD (fun x0 x1 x2 x3 x4 => h (x0, x1, x2, x3, x4)) _ _ _ _ _) (x0, x1, x2, x3, x4)
theorem Z23_lim {ι : Type} {R : ι → ι → Prop} (hD : Dir R) {F : List D → Int → Int → Option (List D × Int × Int)} {Fs : ι → List D → Int → Int → Option (List D × Int × Int)} (h : ∀ x0 x1 x2, Lim R (F x0 x1 x2) (fun i => Fs i x0 x1 x2)) (x0 : List D) (x1 : Int) (x2 : Int)  : Lim R (c_Z23 F x0 x1 x2 some) (fun i => c_Z23 (Fs i) x0 x1 x2 some) := by
 unfold c_Z23
 repeat' first
  | exact Lim.const hD
  | exact h _ _ _
  | apply Lim.ite
  | apply Lim.cond
  | apply Lim.bind hD
  | apply Lim.sum
  | intro _
theorem Z23_fx (x0 : List D) (x1 : Int) (x2 : Int)  : Z23 x0 x1 x2 = c_Z23 Z23 x0 x1 x2 some :=
 fix_eq (N := fun n (p : List D × Int × Int) => n_Z23 n p.1 p.2.1 p.2.2) (C := fun f p => c_Z23 (fun x0 x1 x2 => f (x0, x1, x2)) p.1 p.2.1 p.2.2 some) (fun _ => rfl) (fun _ _ => rfl) (fun hD f fs h p => Z23_lim hD (fun x0 x1 x2 => h (x0, x1, x2)) _ _ _) (x0, x1, x2)
theorem Z24_lim {ι : Type} {R : ι → ι → Prop} (hD : Dir R) {F : Int → Int → Option (Int)} {Fs : ι → Int → Int → Option (Int)} (h : ∀ x0 x1, Lim R (F x0 x1) (fun i => Fs i x0 x1)) (x0 : Int) (x1 : Int)  : Lim R (c_Z24 F x0 x1 some) (fun i => c_Z24 (Fs i) x0 x1 some) := by
 unfold c_Z24
 repeat' first
  | exact Lim.const hD
  | exact h _ _
  | apply Lim.ite
  | apply Lim.cond
  | apply Lim.bind hD
  | apply Lim.sum
  | intro _
theorem Z24_fx (x0 : Int) (x1 : Int)  : Z24 x0 x1 = c_Z24 Z24 x0 x1 some :=
 fix_eq (N := fun n (p : Int × Int) => n_Z24 n p.1 p.2) (C := fun f p => c_Z24 (fun x0 x1 => f (x0, x1)) p.1 p.2 some) (fun _ => rfl) (fun _ _ => rfl) (fun hD f fs h p => Z24_lim hD (fun x0 x1 => h (x0, x1)) _ _) (x0, x1)
theorem Z27_lim {ι : Type} {R : ι → ι → Prop} (hD : Dir R) {F : Int → Int → Bool → Int → List D → List D → Option ((Bool × List D) ⊕ (List D))} {Fs : ι → Int → Int → Bool → Int → List D → List D → Option ((Bool × List D) ⊕ (List D))} (h : ∀ x0 x1 x2 x3 x4 x5, Lim R (F x0 x1 x2 x3 x4 x5) (fun i => Fs i x0 x1 x2 x3 x4 x5)) (x0 : Int) (x1 : Int) (x2 : Bool) (x3 : Int) (x4 : List D) (x5 : List D)  : Lim R (c_Z27 F x0 x1 x2 x3 x4 x5 some) (fun i => c_Z27 (Fs i) x0 x1 x2 x3 x4 x5 some) := by
 unfold c_Z27
 repeat' first
  | exact Lim.const hD
  | exact h _ _ _ _ _ _
  | apply Lim.ite
  | apply Lim.cond
  | apply Lim.bind hD
  | apply Lim.sum
  | intro _
theorem Z27_fx (x0 : Int) (x1 : Int) (x2 : Bool) (x3 : Int) (x4 : List D) (x5 : List D)  : Z27 x0 x1 x2 x3 x4 x5 = c_Z27 Z27 x0 x1 x2 x3 x4 x5 some :=
 fix_eq (N := fun n (p : Int × Int × Bool × Int × List D × List D) => n_Z27 n p.1 p.2.1 p.2.2.1 p.2.2.2.1 p.2.2.2.2.1 p.2.2.2.2.2) (C := fun f p => c_Z27 (fun x0 x1 x2 x3 x4 x5 => f (x0, x1, x2, x3, x4, x5)) p.1 p.2.1 p.2.2.1 p.2.2.2.1 p.2.2.2.2.1 p.2.2.2.2.2 some) (fun _ => rfl) (fun _ _ => rfl) (fun hD f fs h p => Z27_lim hD (fun x0 x1 x2 x3 x4 x5 => h (x0, x1, x2, x3, x4, x5)) _ _ _ _ _ _) (x0, x1, x2, x3, x4, x5)
theorem Z28_lim {ι : Type} {R : ι → ι → Prop} (hD : Dir R) {F : List D → Int → Int → Int → Int → List D → Option (List D)} {Fs : ι → List D → Int → Int → Int → Int → List D → Option (List D)} (h : ∀ x0 x1 x2 x3 x4 x5, Lim R (F x0 x1 x2 x3 x4 x5) (fun i => Fs i x0 x1 x2 x3 x4 x5)) (x0 : List D) (x1 : Int) (x2 : Int) (x3 : Int) (x4 : Int) (x5 : List D)  : Lim R (c_Z28 F x0 x1 x2 x3 x4 x5 some) (fun i => c_Z28 (Fs i) x0 x1 x2 x3 x4 x5 some) := by
 unfold c_Z28
 repeat' first
  | exact Lim.const hD
  | exact h _ _ _ _ _ _
  | apply Lim.ite
  | apply Lim.cond
  | apply Lim.bind hD
  | apply Lim.sum
  | intro _
theorem Z28_fx (x0 : List D) (x1 : Int) (x2 : Int) (x3 : Int) (x4 : Int) (x5 : List D)  : Z28 x0 x1 x2 x3 x4 x5 = c_Z28 Z28 x0 x1 x2 x3 x4 x5 some :=
 fix_eq (N := fun n (p : List D × Int × Int × Int × Int × List D) => n_Z28 n p.1 p.2.1 p.2.2.1 p.2.2.2.1 p.2.2.2.2.1 p.2.2.2.2.2) (C := fun f p => c_Z28 (fun x0 x1 x2 x3 x4 x5 => f (x0, x1, x2, x3, x4, x5)) p.1 p.2.1 p.2.2.1 p.2.2.2.1 p.2.2.2.2.1 p.2.2.2.2.2 some) (fun _ => rfl) (fun _ _ => rfl) (fun hD f fs h p => Z28_lim hD (fun x0 x1 x2 x3 x4 x5 => h (x0, x1, x2, x3, x4, x5)) _ _ _ _ _ _) (x0, x1, x2, x3, x4, x5)
theorem Z30_lim {ι : Type} {R : ι → ι → Prop} (hD : Dir R) {F : List D → Int → List D → Option (List D)} {Fs : ι → List D → Int → List D → Option (List D)} (h : ∀ x0 x1 x2, Lim R (F x0 x1 x2) (fun i => Fs i x0 x1 x2)) (x0 : List D) (x1 : Int) (x2 : List D)  : Lim R (c_Z30 F x0 x1 x2 some) (fun i => c_Z30 (Fs i) x0 x1 x2 some) := by
 unfold c_Z30
 repeat' first
  | exact Lim.const hD
  | exact h _ _ _
  | apply Lim.ite
  | apply Lim.cond
  | apply Lim.bind hD
  | apply Lim.sum
  | intro _
theorem Z30_fx (x0 : List D) (x1 : Int) (x2 : List D)  : Z30 x0 x1 x2 = c_Z30 Z30 x0 x1 x2 some :=
 fix_eq (N := fun n (p : List D × Int × List D) => n_Z30 n p.1 p.2.1 p.2.2) (C := fun f p => c_Z30 (fun x0 x1 x2 => f (x0, x1, x2)) p.1 p.2.1 p.2.2 some) (fun _ => rfl) (fun _ _ => rfl) (fun hD f fs h p => Z30_lim hD (fun x0 x1 x2 => h (x0, x1, x2)) _ _ _) (x0, x1, x2)
theorem Z32_lim {ι : Type} {R : ι → ι → Prop} (hD : Dir R) {F : List D → Int → List D → Option (List D)} {Fs : ι → List D → Int → List D → Option (List D)} (h : ∀ x0 x1 x2, Lim R (F x0 x1 x2) (fun i => Fs i x0 x1 x2)) (x0 : List D) (x1 : Int) (x2 : List D)  : Lim R (c_Z32 F x0 x1 x2 some) (fun i => c_Z32 (Fs i) x0 x1 x2 some) := by
 unfold c_Z32
 repeat' first
  | exact Lim.const hD
  | exact h _ _ _
  | apply Lim.ite
  | apply Lim.cond
  | apply Lim.bind hD
  | apply Lim.sum
  | intro _
theorem Z32_fx (x0 : List D) (x1 : Int) (x2 : List D)  : Z32 x0 x1 x2 = c_Z32 Z32 x0 x1 x2 some :=
 fix_eq (N := fun n (p : List D × Int × List D) => n_Z32 n p.1 p.2.1 p.2.2) (C := fun f p => c_Z32 (fun x0 x1 x2 => f (x0, x1, x2)) p.1 p.2.1 p.2.2 some) (fun _ => rfl) (fun _ _ => rfl) (fun hD f fs h p => Z32_lim hD (fun x0 x1 x2 => h (x0, x1, x2)) _ _ _) (x0, x1, x2)
theorem l1In_eq (x a b : Int) : Z16 x a b = some (btw x a b) := by
 unfold Z16 c_Z16 btw
 by_cases h : a ≤ x <;> simp [h]
theorem within_eq (x a b : Int) : Z9 x a b = some (btw x a b) := by
 unfold Z9 c_Z9 btw
 by_cases h : a ≤ x <;> simp [h]
def Tt {ι β : Type} (I : ι → Prop) (P : β → Prop) (e : ι → Option β) : Prop := ∃ y, P y ∧ ∀ i, I i → e i = some y
theorem Tt.pure {ι β : Type} {I : ι → Prop} {P : β → Prop} {y : β} (h : P y) : Tt I P (fun _ => some y) := ⟨y, h, fun _ _ => rfl⟩
theorem Tt.bind {ι α β : Type} {I : ι → Prop} {Q : α → Prop} {P : β → Prop} {t : ι → Option α} {f : α → ι → Option β} (h : Tt I Q t) (k : ∀ v, Q v → Tt I P (fun i => f v i)) :
  Tt I P (fun i => (t i).bind (fun v => f v i)) := by
 obtain ⟨v, hv, ht⟩ := h
 obtain ⟨y, hy, hk⟩ := k v hv
 exact ⟨y, hy, fun i hi => by show (t i).bind _ = _; rw [ht i hi]; exact hk i hi⟩
theorem Tt.ite {ι β : Type} {I : ι → Prop} {P : β → Prop} {c : Prop} [Decidable c] {x y : ι → Option β} (h : c) (k : Tt I P x) : Tt I P (fun i => if c then x i else y i) := by
 simpa only [if_pos h] using k
theorem Tt.cnd {ι β : Type} {I : ι → Prop} {P : β → Prop} {b : Bool} {x y : ι → Option β} (h1 : b = true → Tt I P x) (h2 : b = false → Tt I P y) : Tt I P (fun i => bif b then x i else y i) := by
 cases b with
 | true => exact h1 rfl
 | false => exact h2 rfl
theorem Tt.dec {ι β : Type} {I : ι → Prop} {P : β → Prop} {p : Prop} [Decidable p] {x y : ι → Option β} (h1 : p → Tt I P x) (h2 : ¬ p → Tt I P y) : Tt I P (fun i => bif decide p then x i else y i) :=
 Tt.cnd (fun h => h1 (of_decide_eq_true h)) (fun h => h2 (of_decide_eq_false h))
theorem Tt.ndec {ι β : Type} {I : ι → Prop} {P : β → Prop} {p : Prop} [Decidable p] {x y : ι → Option β} (h1 : ¬ p → Tt I P x) (h2 : p → Tt I P y) : Tt I P (fun i => bif !decide p then x i else y i) := by
 by_cases h : p
 ·simpa only [decide_eq_true h, Bool.not_true, cond_false] using h2 h
 ·simpa only [decide_eq_false h, Bool.not_false, cond_true] using h1 h
theorem Tt.con {ι β : Type} {I : ι → Prop} {Q : β → Prop} {t : Option β} (h : ∃ y, t = some y ∧ Q y) : Tt I Q (fun _ => t) := by
 obtain ⟨y, h1, h2⟩ := h
 exact ⟨y, h2, fun _ _ => h1⟩
theorem Tt.mono {ι β : Type} {I J : ι → Prop} {P Q : β → Prop} {e : ι → Option β} (h : Tt I P e) (hI : ∀ i, J i → I i) (hP : ∀ y, P y → Q y) : Tt J Q e := by
 obtain ⟨y, h1, h2⟩ := h
 exact ⟨y, hP y h1, fun i hi => h2 i (hI i hi)⟩
theorem Tt.out {β : Type} {P : β → Prop} {t : Option β} (h : Tt (fun _ : Unit => True) P (fun _ => t)) : ∃ y, t = some y ∧ P y := by
 obtain ⟨y, h1, h2⟩ := h
 exact ⟨y, h2 () trivial, h1⟩
theorem Tt.loop {X Y : Type} (N : Nat → X → Option Y) (Inv : X → Prop) (μ : X → Nat) (Post : X → Y → Prop)
  (step : ∀ x, Inv x → (∀ x', Inv x' → μ x' < μ x → Tt (fun m => μ x ≤ m) (Post x') (fun m => N m x')) → Tt (fun m => μ x ≤ m) (Post x) (fun m => N (m + 1) x)) :
  ∀ x, Inv x → ∃ y, ev (fun n => N n x) = some y ∧ Post x y := by
 have key : ∀ k x, Inv x → μ x ≤ k → Tt (fun m => μ x < m) (Post x) (fun m => N m x) := by
  intro k
  induction k with
  | zero =>
   intro x hi hk
   obtain ⟨y, h1, h2⟩ := step x hi (fun x' _ h => absurd h (by omega))
   refine ⟨y, h1, fun m hm => ?_⟩
   obtain ⟨m, rfl⟩ : ∃ m', m = m' + 1 := ⟨m - 1, by omega⟩
   exact h2 m (by omega)
  | succ k ih =>
   intro x hi hk
   obtain ⟨y, h1, h2⟩ := step x hi (fun x' hx' h => (ih x' hx' (by omega)).mono (fun m hm => by omega) (fun _ h => h))
   refine ⟨y, h1, fun m hm => ?_⟩
   obtain ⟨m, rfl⟩ : ∃ m', m = m' + 1 := ⟨m - 1, by omega⟩
   exact h2 m (by omega)
 intro x hi
 obtain ⟨y, h1, h2⟩ := key (μ x) x hi (Nat.le_refl _)
 exact ⟨y, ev_eq (μ x + 1) (fun m hm => h2 m (by omega)), h1⟩
theorem wq (n : Int) : IntKind.i64.wrap n = (n + 9223372036854775808) % 18446744073709551616 - 9223372036854775808 := by
 unfold IntKind.wrap
 simp [IntKind.signed, IntKind.bits]
 omega
def okC (c : List D) : Prop := c.length ≤ 65536 ∧ ∀ d ∈ c, 0 ≤ d.toInt ∧ d.toInt ≤ 255
theorem uwrap (n : Int) : IntKind.u64.wrap n = n % 18446744073709551616 := by
 unfold IntKind.wrap
 simp [IntKind.signed, IntKind.bits]
theorem and255 (r : Int) : 0 ≤ IntKind.i64.wrap (IntKind.u64.wrap (((BitVec.ofInt IntKind.u64.bits r &&& BitVec.ofInt IntKind.u64.bits 255).toNat : Nat) : Int)) ∧ IntKind.i64.wrap (IntKind.u64.wrap (((BitVec.ofInt IntKind.u64.bits r &&& BitVec.ofInt IntKind.u64.bits 255).toNat : Nat) : Int)) ≤ 255 := by
 have h2 : (BitVec.ofInt IntKind.u64.bits r &&& BitVec.ofInt IntKind.u64.bits 255).toNat ≤ (BitVec.ofInt IntKind.u64.bits 255).toNat := by
  rw [BitVec.toNat_and]; exact Nat.and_le_right
 have h3 : (BitVec.ofInt IntKind.u64.bits 255).toNat = 255 := by decide
 rw [h3] at h2
 rw [uwrap, wq]
 omega
theorem next_tot (c : List D) (h : okC c) (p s : Int) (hp : 0 ≤ p ∧ p ≤ 1099511627776) : ∃ y, Z1 c p s = some y ∧ (0 ≤ y.1 ∧ y.1 ≤ 255 ∧ y.2.1 = c ∧ y.2.2.1 = p + 1) := by
 have hw : IntKind.i64.wrap (p + 1) = p + 1 := wrap_id (by omega) (by omega)
 have a1 := fun r => and255 r
 refine Tt.out ?_
 unfold Z1 c_Z1
 rw [hw]
 by_cases hpl : p < (c.length : Int)
 ·rw [decide_eq_true hpl, cond_true]
  have hd := h.2 _ (getD_mem (show p.toNat < c.length by omega))
  have hv : IntKind.i64.wrap (c.getD p.toNat (D.int 0)).toInt = (c.getD p.toNat (D.int 0)).toInt := wrap_id (by omega) (by omega)
  refine Tt.ite (by omega) ?_
  refine Tt.dec (fun _ => ?_) (fun hn => absurd (show p + 1 ≤ (c.length : Int) by omega) hn)
  refine Tt.pure ?_
  exact ⟨by rw [hv]; exact hd.1, by rw [hv]; exact hd.2, rfl, rfl⟩
 ·rw [decide_eq_false hpl, cond_false]
  refine Tt.dec (fun hn => by exfalso; omega) (fun _ => ?_)
  refine Tt.ite (by decide) ?_
  refine Tt.pure ?_
  exact ⟨(a1 _).1, (a1 _).2, rfl, rfl⟩
attribute [local irreducible] Z1
theorem pick_tot (c : List D) (h : okC c) (p s n : Int) (hp : 0 ≤ p ∧ p ≤ 1099511627770) (hn : n ≤ 65536) : ∃ y, Z2 c p s n = some y ∧ (0 ≤ y.1 ∧ (y.1 < n ∨ y.1 = 0) ∧ y.2.1 = c ∧ p ≤ y.2.2.1 ∧ y.2.2.1 ≤ p + 2) := by
 refine Tt.out ?_
 unfold Z2 c_Z2
 refine Tt.dec (fun _ => ?_) (fun hn1 => ?_)
 ·refine Tt.pure ?_
  exact ⟨by simp, .inr rfl, rfl, by simp, by simp only; omega⟩
 ·refine Tt.bind (Tt.con (next_tot c h p s (by omega))) (fun v hv => ?_)
  obtain ⟨v1, v2, v3, v4⟩ := hv
  rw [v3, v4]
  refine Tt.dec (fun _ => ?_) (fun _ => ?_)
  ·refine Tt.bind (Tt.con (next_tot c h (p + 1) _ (by omega))) (fun w hw => ?_)
   obtain ⟨w1, w2, w3, w4⟩ := hw
   refine Tt.ite (by omega) ?_
   have hq : IntKind.i64.wrap (IntKind.i64.wrap (v.1 * 256) + w.1) = v.1 * 256 + w.1 := by
    rw [wrap_id (n := v.1 * 256) (by omega) (by omega), wrap_id (by omega) (by omega)]
   have hm : (v.1 * 256 + w.1).tmod n = (v.1 * 256 + w.1) % n := Int.tmod_eq_emod_of_nonneg (by omega)
   have m1 := Int.emod_nonneg (v.1 * 256 + w.1) (show n ≠ 0 by omega)
   have m2 := Int.emod_lt_of_pos (v.1 * 256 + w.1) (show 0 < n by omega)
   refine Tt.pure ?_
   exact ⟨by simp only; rw [hq, hm]; exact m1, .inl (by simp only; rw [hq, hm]; exact m2), w3, by simp only; omega, by simp only; omega⟩
  ·refine Tt.ite (by omega) ?_
   have hm : v.1.tmod n = v.1 % n := Int.tmod_eq_emod_of_nonneg v1
   have m1 := Int.emod_nonneg v.1 (show n ≠ 0 by omega)
   have m2 := Int.emod_lt_of_pos v.1 (show 0 < n by omega)
   refine Tt.pure ?_
   exact ⟨by simp only; rw [hm]; exact m1, .inl (by simp only; rw [hm]; exact m2), rfl, by simp only; omega, by simp only; omega⟩
attribute [local irreducible] Z2
theorem among_tot (c : List D) (h : okC c) (p s : Int) (l : List D) (hp : 0 ≤ p ∧ p ≤ 1099511627770) (hl : 1 ≤ l.length ∧ l.length ≤ 65536) : ∃ y, Z3 c p s l = some y ∧ ((∃ d ∈ l, y.1 = d.toInt) ∧ y.2.1 = c ∧ p ≤ y.2.2.1 ∧ y.2.2.1 ≤ p + 2) := by
 refine Tt.out ?_
 unfold Z3 c_Z3
 refine Tt.bind (Tt.con (pick_tot c h p s _ hp (by omega))) (fun v hv => ?_)
 refine Tt.ite (by omega) ?_
 refine Tt.ite (by omega) ?_
 refine Tt.pure ?_
 exact ⟨⟨_, getD_mem (show v.1.toNat < l.length by omega), rfl⟩, hv.2.2.1, hv.2.2.2.1, hv.2.2.2.2⟩
attribute [local irreducible] Z3
theorem okB {d : D} (h : wfD (.int .u8) d) : 0 ≤ d.toInt ∧ d.toInt ≤ 255 := by
 obtain ⟨n, rfl, h2⟩ := h
 simp [Lit.wf, IntKind.min, IntKind.max, IntKind.signed, IntKind.bits] at h2
 simp only [toInt_int]; omega
theorem pick_tot' (c : List D) (h : okC c) (p s n : Int) (hp : 0 ≤ p ∧ p ≤ 1099511627770) (hn : n ≤ 65536) : ∃ y, Z2 c p s n = some y ∧ ((0 ≤ y.1 ∧ (y.1 < n ∨ y.1 = 0)) ∧ y.2.1 = c ∧ p ≤ y.2.2.1 ∧ y.2.2.1 ≤ p + 2) := by
 obtain ⟨y, h1, h2, h3, h4⟩ := pick_tot c h p s n hp hn
 exact ⟨y, h1, ⟨h2, h3⟩, h4⟩
theorem rInts_self (l : List D) (hl : l.length ≤ 1048576) : Z35 l l = some true := by
 have key : Z34 l l 0 = some (.inr ()) := by
  refine all_loop (N := fun n i => n_Z34 n l l i) (len := l.length) (fun m i hi => ?_) (fun m => ?_)
  ·have hw : IntKind.i64.wrap ((i : Int) + 1) = (i : Int) + 1 := wrap_id (by omega) (by omega)
   have h1 : (i : Int) < l.length := by omega
   simp [n_Z34, c_Z34, h1, hw]
  ·simp [n_Z34, c_Z34]
 simp [Z35, c_Z35, key]
theorem clone_eq (l : List D) (hl : l.length ≤ 1048576) : Z13 l = some l := by
 simp only [Z13, c_Z13]
 by_cases h : 1 ≤ l.length
 ·rw [if_pos h, if_pos (by simp; omega)]; simp
 ·obtain rfl : l = [] := List.eq_nil_of_length_eq_zero (by omega)
  rw [if_neg h, if_pos (by simp)]
  unfold bothK
  simp
theorem most_tot (a b : Int) : ∃ y, Z4 a b = some y ∧ True := by
 unfold Z4 c_Z4
 by_cases h : b < a <;> simp [h]
theorem curve5_tot (c : List D) (hc : okC c) : ∀ (k : Nat) (a b p s : Int) (l : List D), 0 ≤ p → p + 6 * k ≤ 1099511620000 → l.length + k ≤ 100 →
  ∃ y, Z5 a b (k : Int) c p s l = some y ∧ (y.2.2.2.length = l.length + k ∧ y.1 = c ∧ p ≤ y.2.1 ∧ y.2.1 ≤ p + 6 * k)
 | 0, a, b, p, s, l, hp0, hp, hl => by
  rw [Z5_fx]
  unfold c_Z5
  rw [decide_eq_false (by omega), cond_false]
  exact ⟨_, rfl, rfl, rfl, by simp only; omega, by simp only; omega⟩
 | k + 1, a, b, p, s, l, hp0, hp, hl => by
  rw [Z5_fx]
  refine Tt.out ?_
  unfold c_Z5
  refine Tt.dec (fun _ => ?_) (fun h => absurd (show (0 : Int) < ((k + 1 : Nat) : Int) by omega) h)
  rw [show IntKind.i64.wrap (((k + 1 : Nat) : Int) - 1) = (k : Int) by rw [wrap_id (by omega) (by omega)]; omega]
  (refine Tt.bind (Tt.con (pick_tot' _ hc _ _ _ (by omega) (by omega))) ?_; rintro ⟨v, c', p', s'⟩ ⟨hv, rfl, hp1, hp2⟩; dsimp only at hv hp1 hp2 ⊢)
  refine Tt.ite (by simp only [List.length_cons, List.length_nil]; omega) ?_
  refine Tt.bind (Tt.con (among_tot _ hc _ _ _ (by omega) (by simp))) ?_
  rintro ⟨v1, c1, p1, s1⟩ ⟨-, rfl, hp3, hp4⟩
  dsimp only at hp3 hp4 ⊢
  refine Tt.bind (Tt.con (among_tot _ hc _ _ _ (by omega) (by simp))) ?_
  rintro ⟨v2, c2, p2, s2⟩ ⟨-, rfl, hp5, hp6⟩
  dsimp only at hp5 hp6 ⊢
  refine Tt.bind (Tt.con (most_tot _ _)) ?_
  rintro v3 -
  simp only [Option.bind_fun_some]
  obtain ⟨y, e1, e2, e3, e4, e5⟩ := curve5_tot _ hc k (IntKind.i64.wrap (a + v1)) v3 p2 s2 (l ++ [D.node [D.int a, D.int b, D.int v]]) (by omega) (by omega) (by simp only [List.length_append, List.length_cons, List.length_nil]; omega)
  exact Tt.con ⟨y, e1, by rw [e2]; simp only [List.length_append, List.length_cons, List.length_nil]; omega, e3, by omega, by omega⟩
theorem curve_tot (c : List D) (hc : okC c) (p s : Int) (hp : 0 ≤ p ∧ p ≤ 1099511610000) : ∃ y, Z6 c p s = some y ∧ ((2 ≤ y.1.length ∧ y.1.length ≤ 8) ∧ y.2.1 = c ∧ p ≤ y.2.2.1 ∧ y.2.2.1 ≤ p + 100) := by
 refine Tt.out ?_
 unfold Z6 c_Z6
 refine Tt.bind (Tt.con (among_tot _ hc _ _ _ (by omega) (by simp))) ?_
 rintro ⟨v1, c1, p1, s1⟩ ⟨-, rfl, hp3, hp4⟩
 dsimp only at hp3 hp4 ⊢
 refine Tt.bind (Tt.con (among_tot _ hc _ _ _ (by omega) (by simp))) ?_
 rintro ⟨v2, c2, p2, s2⟩ ⟨-, rfl, hp5, hp6⟩
 dsimp only at hp5 hp6 ⊢
 (refine Tt.bind (Tt.con (pick_tot' _ hc _ _ _ (by omega) (by omega))) ?_; rintro ⟨v, c', p', s'⟩ ⟨hv, rfl, hp1, hp2⟩; dsimp only at hv hp1 hp2 ⊢)
 obtain ⟨k, hk⟩ : ∃ k : Nat, v = (k : Int) := ⟨v.toNat, by omega⟩
 subst hk
 rw [show IntKind.i64.wrap (2 + (k : Int)) = ((2 + k : Nat) : Int) by rw [wrap_id (by omega) (by omega)]; omega]
 refine Tt.bind (Tt.con (curve5_tot _ hc (2 + k) _ _ _ _ _ (by omega) (by omega) (by simp only [List.length_nil]; omega))) ?_
 rintro ⟨c3, p3, s3, l⟩ ⟨hl, rfl, hp7, hp8⟩
 dsimp only at hl hp7 hp8 ⊢
 rw [List.length_nil] at hl
 exact Tt.pure ⟨⟨by simp only; omega, by simp only; omega⟩, rfl, by simp only; omega, by simp only; omega⟩
theorem anyCurve_tot (c : List D) (hc : okC c) (p s : Int) (hp : 0 ≤ p ∧ p ≤ 1099511600000) : ∃ y, Z7 c p s = some y ∧ (y.1.length ≤ 8 ∧ y.2.1 = c ∧ p ≤ y.2.2.1 ∧ y.2.2.1 ≤ p + 200) := by
 refine Tt.out ?_
 unfold Z7 c_Z7
 refine Tt.bind (Tt.con (curve_tot _ hc _ _ (by omega))) ?_
 rintro ⟨l, c1, p1, s1⟩ ⟨hl, rfl, hp1, hp2⟩
 dsimp only at hl hp1 hp2 ⊢
 refine Tt.bind (Tt.con (pick_tot' _ hc _ _ _ (by omega) (by omega))) ?_
 rintro ⟨i, c2, p2, s2⟩ ⟨hi, rfl, hp3, hp4⟩
 dsimp only at hi hp3 hp4 ⊢
 refine Tt.ite (by omega) (Tt.ite (by omega) ?_)
 (refine Tt.bind (Tt.con (pick_tot' _ hc _ _ _ (by omega) (by omega))) ?_; rintro ⟨v, c', p', s'⟩ ⟨hv, rfl, hp1, hp2⟩; dsimp only at hv hp1 hp2 ⊢)
 refine Tt.dec (fun _ => ?_) (fun _ => ?_)
 ·refine Tt.bind (Tt.con (among_tot _ hc _ _ _ (by omega) (by simp))) ?_
  rintro ⟨v3, c3, p3, s3⟩ ⟨-, rfl, hp5, hp6⟩
  dsimp only at hp5 hp6 ⊢
  refine Tt.ite (by omega) (Tt.ite (by omega) ?_)
  exact Tt.pure ⟨by simp only [List.length_set]; omega, rfl, by simp only; omega, by simp only; omega⟩
 refine Tt.dec (fun _ => ?_) (fun _ => ?_)
 ·refine Tt.bind (Tt.con (among_tot _ hc _ _ _ (by omega) (by simp))) ?_
  rintro ⟨v3, c3, p3, s3⟩ ⟨-, rfl, hp5, hp6⟩
  dsimp only at hp5 hp6 ⊢
  refine Tt.ite (by omega) (Tt.ite (by omega) ?_)
  exact Tt.pure ⟨by simp only [List.length_set]; omega, rfl, by simp only; omega, by simp only; omega⟩
 refine Tt.dec (fun _ => ?_) (fun _ => ?_)
 ·refine Tt.bind (Tt.con (among_tot _ hc _ _ _ (by omega) (by simp))) ?_
  rintro ⟨v3, c3, p3, s3⟩ ⟨-, rfl, hp5, hp6⟩
  dsimp only at hp5 hp6 ⊢
  refine Tt.ite (by omega) (Tt.ite (by omega) ?_)
  exact Tt.pure ⟨by simp only [List.length_set]; omega, rfl, by simp only; omega, by simp only; omega⟩
 refine Tt.dec (fun _ => ?_) (fun _ => ?_)
 ·refine Tt.ite (by omega) (Tt.ite (by omega) ?_)
  exact Tt.pure ⟨by simp only [List.length_take, List.length_drop]; omega, rfl, by simp only; omega, by simp only; omega⟩
 ·refine Tt.ite (by omega) (Tt.ite (by omega) ?_)
  exact Tt.pure ⟨by simp only [List.length_set]; omega, rfl, by simp only; omega, by simp only; omega⟩
theorem drawS_tot (c : List D) (hc : okC c) : ∃ y, Z8 c = some y ∧ y.1.length ≤ 8 := by
 refine Tt.out ?_
 unfold Z8 c_Z8
 refine Tt.bind (Tt.con (anyCurve_tot _ hc _ _ (by omega))) ?_
 rintro ⟨l, c1, p1, s1⟩ ⟨hl, rfl, hp1, hp2⟩
 dsimp only at hl hp1 hp2 ⊢
 refine Tt.bind (Tt.con (among_tot _ hc _ _ _ (by omega) (by simp))) ?_
 rintro ⟨v1, c1, p1, s1⟩ ⟨-, rfl, hp3, hp4⟩
 dsimp only at hp3 hp4 ⊢
 refine Tt.bind (Tt.con (among_tot _ hc _ _ _ (by omega) (by simp))) ?_
 rintro ⟨v2, c2, p2, s2⟩ ⟨-, rfl, hp5, hp6⟩
 exact Tt.pure hl
def yr (l : List D) (i : Nat) : Int := ((l.getD i (.int 0)).fld 0).toInt
def ag (l : List D) (i : Nat) : Int := ((l.getD i (.int 0)).fld 1).toInt
def er (l : List D) (i : Nat) : Int := ((l.getD i (.int 0)).fld 2).toInt
def okP (l : List D) (i : Nat) : Bool := btw (yr l i) (-20000) 2100 && (btw (ag l i) 0 60000 && (btw (er l i) 0 1000 && (if 0 < i then btw (IntKind.i64.wrap (yr l i - yr l (i - 1))) 1 50 else true)))
def goodC (l : List D) : Bool := btw l.length 2 40 && ((firstN (fun i => !okP l i) l.length).isNone && decide (IntKind.i64.wrap (yr l (l.length - 1) - yr l 0) < 400))
theorem validI4 (l : List D) (hl : l.length ≤ 1048576) : Z11 l l l.length 0 = some (match firstN (fun i => !okP l i) l.length with | some i => .inl (l, false) | none => .inr l) := by
 refine scan_loop (N := fun m i => n_Z11 m l l l.length i) _ (fun _ => .inl (l, false)) (fun m i hi => ?_) (fun m => ?_)
 ·show c_Z11 (n_Z11 m) l l l.length i some = _
  unfold c_Z11
  rw [decide_eq_true (by omega), cond_true, if_pos (by omega)]
  simp only [Z10, c_Z10, within_eq, Option.bind_some, Int.toNat_natCast, Option.bind_fun_some]
  rw [show ((l.getD i (.int 0)).fld 0).toInt = yr l i from rfl, show ((l.getD i (.int 0)).fld 1).toInt = ag l i from rfl, show ((l.getD i (.int 0)).fld 2).toInt = er l i from rfl, wrap_id (n := (i : Int) + 1) (by omega) (by omega)]
  unfold okP
  cases btw (yr l i) (-20000) 2100 <;> cases btw (ag l i) 0 60000 <;> cases btw (er l i) 0 1000 <;> simp only [Bool.not_true, Bool.not_false, cond_true, cond_false, Bool.true_and, Bool.false_and]
  by_cases h0 : 0 < i
  ·rw [decide_eq_true (by omega), cond_true, pred_wrap (by omega) h0, if_pos (by omega), if_pos h0]
   simp only [Int.toNat_natCast, Option.bind_some, Option.bind_fun_some]
   rfl
  ·rw [decide_eq_false (by omega), cond_false, if_neg h0]
   rfl
 ·show c_Z11 (n_Z11 m) l l l.length l.length some = _
  unfold c_Z11
  rw [decide_eq_false (by omega)]
  rfl
theorem validS5 (l : List D) (hl : l.length ≤ 1048576) : Z17 l l.length 0 = some (match firstN (fun i => !okP l i) l.length with | some i => .inl (l, false, (l.length : Int)) | none => .inr (l, (l.length : Int))) := by
 refine scan_loop (N := fun m i => n_Z17 m l l.length i) _ (fun _ => .inl (l, false, (l.length : Int))) (fun m i hi => ?_) (fun m => ?_)
 ·show c_Z17 (n_Z17 m) l l.length i some = _
  unfold c_Z17
  rw [decide_eq_true (by omega), cond_true, if_pos (by omega)]
  simp only [l1In_eq, Option.bind_some, Int.toNat_natCast, Option.bind_fun_some]
  rw [show ((l.getD i (.int 0)).fld 0).toInt = yr l i from rfl, show ((l.getD i (.int 0)).fld 1).toInt = ag l i from rfl, show ((l.getD i (.int 0)).fld 2).toInt = er l i from rfl, wrap_id (n := (i : Int) + 1) (by omega) (by omega)]
  unfold okP
  cases btw (yr l i) (-20000) 2100 <;> cases btw (ag l i) 0 60000 <;> cases btw (er l i) 0 1000 <;> simp only [Bool.not_true, Bool.not_false, cond_true, cond_false, Bool.true_and, Bool.false_and]
  by_cases h0 : 0 < i
  ·rw [decide_eq_true (by omega), cond_true, pred_wrap (by omega) h0, if_pos (by omega), if_pos h0]
   simp only [Int.toNat_natCast, Option.bind_some, Option.bind_fun_some]
   rfl
  ·rw [decide_eq_false (by omega), cond_false, if_neg h0]
   rfl
 ·show c_Z17 (n_Z17 m) l l.length l.length some = _
  unfold c_Z17
  rw [decide_eq_false (by omega)]
  rfl
theorem validI (l : List D) (hl : l.length ≤ 1048576) : Z12 l = some (goodC l) := by
 simp only [Z12, c_Z12, within_eq, Option.bind_some]
 unfold goodC
 by_cases hb : btw (l.length : Int) 2 40 = true
 ·rw [hb, validI4 l hl]
  rw [btw_iff] at hb
  simp only [Bool.not_true, cond_false, Option.bind_some]
  cases hf : firstN (fun i => !okP l i) l.length with
  | some i => rfl
  | none =>
   simp only [Sum.elim_inr]
   rw [pred_wrap (by omega) (by omega), if_pos (by omega), if_pos (by omega)]
   simp only [Int.toNat_natCast, Option.isNone_none, Bool.true_and]
   rfl
 ·rw [Bool.not_eq_true] at hb
  rw [hb]; rfl
theorem validS (l : List D) (hl : l.length ≤ 1048576) : Z18 l = some (goodC l) := by
 simp only [Z18, c_Z18, l1In_eq, Option.bind_some]
 unfold goodC
 by_cases hb : btw (l.length : Int) 2 40 = true
 ·rw [hb, validS5 l hl]
  rw [btw_iff] at hb
  simp only [Bool.not_true, cond_false, Option.bind_some]
  cases hf : firstN (fun i => !okP l i) l.length with
  | some i => rfl
  | none =>
   simp only [Sum.elim_inr]
   rw [pred_wrap (by omega) (by omega), if_pos (by omega), if_pos (by omega)]
   simp only [Int.toNat_natCast, Option.isNone_none, Bool.true_and]
   rfl
 ·rw [Bool.not_eq_true] at hb
  rw [hb]; rfl
structure GoodC (l : List D) : Prop where
 n1 : 2 ≤ l.length
 n2 : l.length ≤ 40
 y : ∀ i, i < l.length → -20000 ≤ yr l i ∧ yr l i ≤ 2100
 a : ∀ i, i < l.length → 0 ≤ ag l i ∧ ag l i ≤ 60000
 e : ∀ i, i < l.length → 0 ≤ er l i ∧ er l i ≤ 1000
 d : ∀ i, i + 1 < l.length → 1 ≤ yr l (i + 1) - yr l i ∧ yr l (i + 1) - yr l i ≤ 50
 s : yr l (l.length - 1) - yr l 0 < 400
theorem goodC_of {l : List D} (h : goodC l = true) : GoodC l := by
 unfold goodC at h
 rw [Bool.and_eq_true, Bool.and_eq_true, btw_iff, decide_eq_true_eq, Option.isNone_iff_eq_none] at h
 obtain ⟨h1, h2, h3⟩ := h
 have h2 := firstN_none h2
 have key : ∀ i, i < l.length → (-20000 ≤ yr l i ∧ yr l i ≤ 2100) ∧ (0 ≤ ag l i ∧ ag l i ≤ 60000) ∧ (0 ≤ er l i ∧ er l i ≤ 1000) ∧ (0 < i → btw (IntKind.i64.wrap (yr l i - yr l (i - 1))) 1 50 = true) := by
  intro i hi
  have := h2 i hi
  rw [Bool.not_eq_false'] at this
  unfold okP at this
  rw [Bool.and_eq_true, Bool.and_eq_true, Bool.and_eq_true, btw_iff, btw_iff, btw_iff] at this
  refine ⟨this.1, this.2.1, this.2.2.1, fun h0 => ?_⟩
  have := this.2.2.2
  rwa [if_pos h0] at this
 refine ⟨by omega, by omega, fun i hi => (key i hi).1, fun i hi => (key i hi).2.1, fun i hi => (key i hi).2.2.1, fun i hi => ?_, ?_⟩
 ·have k1 := (key (i + 1) hi).1
  have k2 := (key i (by omega)).1
  have := (key (i + 1) hi).2.2.2 (by omega)
  rw [Nat.add_sub_cancel, wrap_id (by omega) (by omega), btw_iff] at this
  exact this
 ·have k1 := (key (l.length - 1) (by omega)).1
  have k2 := (key 0 (by omega)).1
  rwa [wrap_id (by omega) (by omega)] at h3
theorem yr_mono {l : List D} (h : GoodC l) : ∀ (k i : Nat), i + k < l.length → yr l i + k ≤ yr l (i + k)
 | 0, i, hi => by simp
 | k + 1, i, hi => by
  have := yr_mono h k i (by omega)
  have := h.d (i + k) (by omega)
  rw [show i + (k + 1) = i + k + 1 by omega]
  omega
def rnd (a d : Int) : Int := if a < 0 then -((2 * -a + d) / (2 * d)) else (2 * a + d) / (2 * d)
theorem rounded_eq (a d : Int) (ha : -1000000000 ≤ a ∧ a ≤ 1000000000) (hd : 1 ≤ d ∧ d ≤ 1000) : Z24 a d = some (rnd a d) := by
 have pos : ∀ b, 0 ≤ b → b ≤ 1000000000 → Z24 b d = some ((2 * b + d) / (2 * d)) := by
  intro b h1 h2
  rw [Z24_fx]
  unfold c_Z24
  rw [decide_eq_false (by omega), cond_false, wrap_id (n := 2 * d) (by omega) (by omega), if_pos (by omega), wrap_id (n := 2 * b) (by omega) (by omega), wrap_id (n := 2 * b + d) (by omega) (by omega), Int.tdiv_eq_ediv_of_nonneg (by omega)]
  have q1 : 0 ≤ (2 * b + d) / (2 * d) := Int.ediv_nonneg (by omega) (by omega)
  have q2 : (2 * b + d) / (2 * d) ≤ 2 * b + d := Int.ediv_le_self _ (by omega)
  rw [wrap_id (by omega) (by omega)]
 unfold rnd
 by_cases hn : a < 0
 ·rw [if_pos hn, Z24_fx]
  unfold c_Z24
  rw [decide_eq_true hn, cond_true, wrap_id (n := 0 - a) (by omega) (by omega), Int.zero_sub, pos (-a) (by omega) (by omega)]
  simp only [Option.bind_some]
  have q1 : 0 ≤ (2 * -a + d) / (2 * d) := Int.ediv_nonneg (by omega) (by omega)
  have q2 : (2 * -a + d) / (2 * d) ≤ 2 * -a + d := Int.ediv_le_self _ (by omega)
  rw [wrap_id (by omega) (by omega), Int.zero_sub]
 ·rw [if_neg hn, pos a (by omega) (by omega)]
theorem div_full (x d : Int) (hd : 1 ≤ d) : (2 * (x * d) + d) / (2 * d) = x := by
 have : 2 * (x * d) + d = d + (2 * d) * x := by
  rw [Int.mul_comm x d, ← Int.mul_assoc]; omega
 rw [this, Int.add_mul_ediv_left _ _ (by omega), Int.ediv_eq_zero_of_lt (by omega) (by omega)]; omega
theorem rnd_full (x d : Int) (hd : 1 ≤ d) : rnd (x * d) d = x := by
 unfold rnd
 split
 ·rw [show -(x * d) = (-x) * d by rw [Int.neg_mul], div_full _ _ hd]; omega
 ·rw [div_full _ _ hd]
theorem div_part (a t d : Int) (ha : 0 ≤ a) (ht : 0 ≤ t ∧ t ≤ d) (hd : 1 ≤ d) : 0 ≤ (2 * (a * t) + d) / (2 * d) ∧ (2 * (a * t) + d) / (2 * d) ≤ a := by
 have h1 := Int.mul_nonneg ha ht.1
 have h2 : a * t ≤ a * d := Int.mul_le_mul_of_nonneg_left ht.2 ha
 refine ⟨Int.ediv_nonneg (by omega) (by omega), ?_⟩
 have h3 := Int.ediv_le_ediv (c := 2 * d) (by omega) (show 2 * (a * t) + d ≤ 2 * (a * d) + d by omega)
 rw [div_full _ _ hd] at h3
 exact h3
theorem rnd_part (u v t d : Int) (ht : 0 ≤ t ∧ t ≤ d) (hd : 1 ≤ d) : (u ≤ v → u ≤ u + rnd ((v - u) * t) d ∧ u + rnd ((v - u) * t) d ≤ v) ∧ (v ≤ u → v ≤ u + rnd ((v - u) * t) d ∧ u + rnd ((v - u) * t) d ≤ u) := by
 constructor
 ·intro h
  have := div_part (v - u) t d (by omega) ht hd
  have h1 := Int.mul_nonneg (show 0 ≤ v - u by omega) ht.1
  unfold rnd
  rw [if_neg (by omega)]
  omega
 ·intro h
  have := div_part (u - v) t d (by omega) ht hd
  have h1 := Int.mul_nonneg (show 0 ≤ u - v by omega) ht.1
  have e : (v - u) * t = -((u - v) * t) := by rw [← Int.neg_mul]; congr 1; omega
  unfold rnd
  split
  ·rw [e, Int.neg_neg]; omega
  ·have : (u - v) * t = 0 := by omega
   rw [e, this]
   simp only [Int.neg_zero, Int.mul_zero, Int.zero_add]
   rw [Int.ediv_eq_zero_of_lt (by omega) (by omega)]
   omega
theorem prod_bd {a b A B : Int} (h1 : -A ≤ a ∧ a ≤ A) (h2 : 0 ≤ b ∧ b ≤ B) (hA : 0 ≤ A) : -(A * B) ≤ a * b ∧ a * b ≤ A * B := by
 have p1 : a * b ≤ A * b := Int.mul_le_mul_of_nonneg_right h1.2 h2.1
 have p2 : A * b ≤ A * B := Int.mul_le_mul_of_nonneg_left h2.2 hA
 have p3 : (-A) * b ≤ a * b := Int.mul_le_mul_of_nonneg_right h1.1 h2.1
 rw [Int.neg_mul] at p3
 omega
theorem curveAt_eq {l : List D} (h : GoodC l) (k : Nat) (hk : 1 ≤ k ∧ k < l.length) (y : Int) (h1 : ∀ j, 1 ≤ j → j < k → yr l j < y) (h2 : y ≤ yr l k) (h3 : yr l (k - 1) ≤ y) :
  Z25 l y = some (ag l (k - 1) + rnd ((ag l k - ag l (k - 1)) * (y - yr l (k - 1))) (yr l k - yr l (k - 1)), er l (k - 1) + rnd ((er l k - er l (k - 1)) * (y - yr l (k - 1))) (yr l k - yr l (k - 1))) := by
 have n2 := h.n2
 have find : ∀ (m i : Nat), i + m = k → 1 ≤ i → Z23 l y i = some (l, y, (k : Int)) := by
  intro m
  induction m with
  | zero =>
   intro i hi h0
   have hik : i = k := by omega
   subst hik
   rw [Z23_fx]
   unfold c_Z23
   rw [if_pos (by omega), Int.toNat_natCast, show ((l.getD i (.int 0)).fld 0).toInt = yr l i from rfl, decide_eq_false (by omega), cond_false]
  | succ m ih =>
   intro i hi h0
   have := h1 i h0 (by omega)
   rw [Z23_fx]
   unfold c_Z23
   rw [if_pos (by omega), Int.toNat_natCast, show ((l.getD i (.int 0)).fld 0).toInt = yr l i from rfl, decide_eq_true this, cond_true, succ_wrap (by omega), ih (i + 1) (by omega) (by omega)]
   rfl
 have e := find (k - 1) 1 (by omega) (by omega)
 rw [show ((1 : Nat) : Int) = 1 from rfl] at e
 have a1 := h.a k (by omega)
 have a2 := h.a (k - 1) (by omega)
 have e1 := h.e k (by omega)
 have e2 := h.e (k - 1) (by omega)
 have y1 := h.y k (by omega)
 have y2 := h.y (k - 1) (by omega)
 have d1 := h.d (k - 1) (by omega)
 rw [show k - 1 + 1 = k by omega] at d1
 have p1 := prod_bd (a := ag l k - ag l (k - 1)) (b := y - yr l (k - 1)) (A := 60000) (B := 50) (by omega) (by omega) (by omega)
 have p2 := prod_bd (a := er l k - er l (k - 1)) (b := y - yr l (k - 1)) (A := 1000) (B := 50) (by omega) (by omega) (by omega)
 have r1 := rnd_part (ag l (k - 1)) (ag l k) (y - yr l (k - 1)) (yr l k - yr l (k - 1)) (by omega) (by omega)
 have r2 := rnd_part (er l (k - 1)) (er l k) (y - yr l (k - 1)) (yr l k - yr l (k - 1)) (by omega) (by omega)
 unfold Z25 c_Z25
 rw [e]
 simp only [Option.bind_some]
 rw [pred_wrap (by omega) (by omega), if_pos (by omega), if_pos (by omega)]
 simp only [Int.toNat_natCast]
 rw [show ((l.getD k (.int 0)).fld 0).toInt = yr l k from rfl, show ((l.getD k (.int 0)).fld 1).toInt = ag l k from rfl, show ((l.getD k (.int 0)).fld 2).toInt = er l k from rfl, show ((l.getD (k - 1) (.int 0)).fld 0).toInt = yr l (k - 1) from rfl, show ((l.getD (k - 1) (.int 0)).fld 1).toInt = ag l (k - 1) from rfl, show ((l.getD (k - 1) (.int 0)).fld 2).toInt = er l (k - 1) from rfl]
 rw [wrap_id (n := ag l k - ag l (k - 1)) (by omega) (by omega), wrap_id (n := er l k - er l (k - 1)) (by omega) (by omega), wrap_id (n := y - yr l (k - 1)) (by omega) (by omega), wrap_id (n := yr l k - yr l (k - 1)) (by omega) (by omega)]
 rw [wrap_id (n := (ag l k - ag l (k - 1)) * (y - yr l (k - 1))) (by omega) (by omega), wrap_id (n := (er l k - er l (k - 1)) * (y - yr l (k - 1))) (by omega) (by omega)]
 rw [rounded_eq _ _ (by omega) (by omega), rounded_eq _ _ (by omega) (by omega)]
 simp only [Option.bind_some]
 rw [wrap_id (by omega) (by omega), wrap_id (by omega) (by omega)]
theorem at_point {l : List D} (h : GoodC l) (hg : goodC l = true) (i : Nat) (hi : i < l.length) : Z26 l (yr l i) = some (ag l i, er l i, true) := by
 have n1 := h.n1
 have n2 := h.n2
 have m1 := yr_mono h i 0 (by omega)
 have m2 := yr_mono h (l.length - 1 - i) i (by omega)
 rw [Nat.zero_add] at m1
 rw [show i + (l.length - 1 - i) = l.length - 1 by omega] at m2
 simp only [Z26, c_Z26, validI l (by omega), hg, Z22, c_Z22, Option.bind_some, Bool.not_true, cond_false]
 rw [if_pos (by omega), pred_wrap (by omega) (by omega), if_pos (by omega)]
 simp only [Option.bind_some, within_eq, Int.toNat_natCast]
 rw [show ((l.getD (Int.toNat 0) (.int 0)).fld 0).toInt = yr l 0 from rfl, show ((l.getD (l.length - 1) (.int 0)).fld 0).toInt = yr l (l.length - 1) from rfl]
 rw [show btw (yr l i) (yr l 0) (yr l (l.length - 1)) = true from btw_iff.2 ⟨by omega, by omega⟩]
 simp only [Bool.not_true, cond_false]
 by_cases h0 : i = 0
 ·subst h0
  have d := h.d 0 (by omega)
  rw [Nat.zero_add] at d
  rw [curveAt_eq h 1 (by omega) (yr l 0) (fun j h1 h2 => by omega) (by omega) (by simp)]
  simp only [Nat.sub_self, Int.sub_self, Int.mul_zero, Option.bind_some]
  have : rnd 0 (yr l 1 - yr l 0) = 0 := by
   have := rnd_full 0 (yr l 1 - yr l 0) d.1
   rwa [Int.zero_mul] at this
  rw [this, Int.add_zero, Int.add_zero]
 ·have d := h.d (i - 1) (by omega)
  rw [show i - 1 + 1 = i by omega] at d
  rw [curveAt_eq h i (by omega) (yr l i) (fun j h1 h2 => by
   have := yr_mono h (i - j) j (by omega)
   rw [show j + (i - j) = i by omega] at this
   omega) (Int.le_refl _) (by omega)]
  simp only [Option.bind_some]
  rw [rnd_full _ _ d.1, rnd_full _ _ d.1]
  congr 2
  ·omega
  ·congr 1; omega
theorem at_year {l : List D} (h : GoodC l) (y : Int) (h1 : yr l 0 ≤ y) (h2 : y ≤ yr l (l.length - 1)) : ∃ a e, Z25 l y = some (a, e) ∧ 0 ≤ a ∧ a ≤ 60000 := by
 have n1 := h.n1
 have find : ∀ (m k : Nat), k + m = l.length - 1 → 1 ≤ k → yr l (k - 1) ≤ y → (∀ j, 1 ≤ j → j < k → yr l j < y) → ∃ k, (1 ≤ k ∧ k < l.length) ∧ (∀ j, 1 ≤ j → j < k → yr l j < y) ∧ y ≤ yr l k ∧ yr l (k - 1) ≤ y := by
  intro m
  induction m with
  | zero => intro k hk h0 h3 h4; exact ⟨k, by omega, h4, by rw [show k = l.length - 1 by omega]; exact h2, h3⟩
  | succ m ih =>
   intro k hk h0 h3 h4
   by_cases hy : y ≤ yr l k
   ·exact ⟨k, by omega, h4, hy, h3⟩
   ·refine ih (k + 1) (by omega) (by omega) (by rw [Nat.add_sub_cancel]; omega) (fun j j1 j2 => ?_)
    by_cases hj : j = k
    ·subst hj; omega
    ·exact h4 j j1 (by omega)
 obtain ⟨k, hk, h3, h4, h5⟩ := find (l.length - 2) 1 (by omega) (by omega) h1 (fun j _ _ => by omega)
 have d1 := h.d (k - 1) (by omega)
 rw [show k - 1 + 1 = k by omega] at d1
 have a1 := h.a k (by omega)
 have a2 := h.a (k - 1) (by omega)
 have r1 := rnd_part (ag l (k - 1)) (ag l k) (y - yr l (k - 1)) (yr l k - yr l (k - 1)) (by omega) (by omega)
 exact ⟨_, _, curveAt_eq h k hk y h3 h4 h5, by omega, by omega⟩
theorem years_ok {l : List D} (h : GoodC l) (hg : goodC l = true) : ∃ y, Z29 l 0 60000 = some (y, true) ∧ (y.length : Int) = yr l (l.length - 1) - yr l 0 + 1 := by
 have n1 := h.n1
 have n2 := h.n2
 have y1 := h.y 0 (by omega)
 have y2 := h.y (l.length - 1) (by omega)
 have s := h.s
 have loop : ∀ (m : Nat) (y : Int) (acc : List D), y + m = yr l (l.length - 1) + 1 → yr l 0 ≤ y → acc.length + m ≤ 1000 → ∃ z, Z28 l 0 60000 (yr l (l.length - 1)) y acc = some z ∧ z.length = acc.length + m := by
  intro m
  induction m with
  | zero =>
   intro y acc hy h0 ha
   rw [Z28_fx]
   unfold c_Z28
   rw [decide_eq_false (by omega), cond_false]
   exact ⟨_, rfl, rfl⟩
  | succ m ih =>
   intro y acc hy h0 ha
   obtain ⟨a, e, e1, e2, e3⟩ := at_year h y h0 (by omega)
   obtain ⟨z, z1, z2⟩ := ih (y + 1) (acc ++ [D.int y]) (by omega) (by omega) (by simp only [List.length_append, List.length_cons, List.length_nil]; omega)
   refine ⟨z, ?_, by rw [z2]; simp only [List.length_append, List.length_cons, List.length_nil]; omega⟩
   rw [Z28_fx]
   unfold c_Z28
   rw [decide_eq_true (by omega), cond_true, e1]
   simp only [Option.bind_some, within_eq, Option.bind_fun_some]
   rw [show btw a 0 60000 = true from btw_iff.2 ⟨e2, e3⟩, cond_true, if_pos (by simp only [List.length_cons, List.length_nil]; omega), wrap_id (by omega) (by omega)]
   exact z1
 have mm := yr_mono h (l.length - 1) 0 (by omega)
 rw [Nat.zero_add] at mm
 obtain ⟨z, z1, z2⟩ := loop (yr l (l.length - 1) - yr l 0 + 1).toNat (yr l 0) [] (by omega) (Int.le_refl _) (by simp only [List.length_nil]; omega)
 refine ⟨z, ?_, by rw [z2, List.length_nil]; omega⟩
 simp only [Z29, c_Z29, validI l (by omega), hg, Z22, c_Z22, Option.bind_some, Bool.not_true, cond_false]
 rw [if_pos (by omega), pred_wrap (by omega) (by omega), if_pos (by omega)]
 simp only [Option.bind_some, Int.toNat_natCast]
 rw [show ((l.getD (Int.toNat 0) (.int 0)).fld 0).toInt = yr l 0 from rfl, show ((l.getD (l.length - 1) (.int 0)).fld 0).toInt = yr l (l.length - 1) from rfl, z1]
 rfl
theorem prod_pos (a b : Int) : decide (0 < a * b) = (decide (0 < a) && decide (0 < b) || decide (a < 0) && decide (b < 0)) := by
 rcases Int.lt_trichotomy a 0 with ha | ha | ha
 ·rcases Int.lt_trichotomy b 0 with hb | hb | hb
  ·have := Int.mul_pos_of_neg_of_neg ha hb
   simp [ha, hb, this]
  ·subst hb; simp
  ·have := Int.mul_neg_of_neg_of_pos ha hb
   have n1 : ¬ 0 < a * b := by omega
   have n2 : ¬ 0 < a := by omega
   have n3 : ¬ b < 0 := by omega
   simp [n1, n2, n3]
 ·subst ha; simp
 ·rcases Int.lt_trichotomy b 0 with hb | hb | hb
  ·have := Int.mul_neg_of_pos_of_neg ha hb
   have n1 : ¬ 0 < a * b := by omega
   have n2 : ¬ a < 0 := by omega
   have n3 : ¬ 0 < b := by omega
   simp [n1, n2, n3]
  ·subst hb; simp
  ·have := Int.mul_pos ha hb
   simp [ha, hb, this]
theorem turns_ok {l : List D} (h : GoodC l) (hg : goodC l = true) : ∃ z, Z31 l = some (z, true) ∧ Z33 l = some (z, true) ∧ z.length ≤ 40 := by
 have n1 := h.n1
 have n2 := h.n2
 have loop : ∀ (m i : Nat) (acc : List D), i + m + 1 = l.length → 1 ≤ i → acc.length ≤ i → ∃ z, Z30 l i acc = some z ∧ Z32 l i acc = some z ∧ z.length ≤ 40 := by
  intro m
  induction m with
  | zero =>
   intro i acc hi h0 ha
   rw [Z30_fx, Z32_fx]
   unfold c_Z30 c_Z32
   rw [succ_wrap (by omega), decide_eq_false (by omega), cond_false, cond_false]
   exact ⟨_, rfl, rfl, by omega⟩
  | succ m ih =>
   intro i acc hi h0 ha
   have a1 := h.a (i - 1) (by omega)
   have a2 := h.a i (by omega)
   have a3 := h.a (i + 1) (by omega)
   rw [Z30_fx, Z32_fx]
   unfold c_Z30 c_Z32
   rw [succ_wrap (by omega), pred_wrap (by omega) (by omega), decide_eq_true (show ((i + 1 : Nat) : Int) < l.length by omega), cond_true, cond_true]
   rw [if_pos (show 0 ≤ ((i - 1 : Nat) : Int) ∧ ((i - 1 : Nat) : Int) < l.length by omega), if_pos (show 0 ≤ (i : Int) ∧ (i : Int) < l.length by omega), if_pos (show 0 ≤ ((i + 1 : Nat) : Int) ∧ ((i + 1 : Nat) : Int) < l.length by omega)]
   rw [Int.toNat_natCast, Int.toNat_natCast, Int.toNat_natCast, show ((l.getD i (.int 0)).fld 1).toInt = ag l i from rfl, show ((l.getD (i + 1) (.int 0)).fld 1).toInt = ag l (i + 1) from rfl, show ((l.getD (i - 1) (.int 0)).fld 1).toInt = ag l (i - 1) from rfl]
   rw [wrap_id (n := ag l (i - 1) - ag l i) (by omega) (by omega), wrap_id (n := ag l (i + 1) - ag l i) (by omega) (by omega)]
   have p : -(60000 * 60000) ≤ (ag l (i - 1) - ag l i) * (ag l (i + 1) - ag l i) ∧ (ag l (i - 1) - ag l i) * (ag l (i + 1) - ag l i) ≤ 60000 * 60000 := by
    rcases Int.le_total 0 (ag l (i + 1) - ag l i) with hs | hs
    ·exact prod_bd (by omega) (by omega) (by omega)
    ·have := prod_bd (a := ag l (i - 1) - ag l i) (b := -(ag l (i + 1) - ag l i)) (A := 60000) (B := 60000) (by omega) (by omega) (by omega)
     rw [Int.mul_neg] at this
     omega
   rw [wrap_id (n := (ag l (i - 1) - ag l i) * (ag l (i + 1) - ag l i)) (by omega) (by omega), prod_pos]
   simp only [Option.bind_fun_some, if_pos (show 0 ≤ (i : Int) ∧ (i : Int) < l.length by omega), if_pos (show 0 ≤ ((i - 1 : Nat) : Int) ∧ ((i - 1 : Nat) : Int) < l.length by omega), if_pos (show 0 ≤ ((i + 1 : Nat) : Int) ∧ ((i + 1 : Nat) : Int) < l.length by omega), if_pos (show acc.length + [D.int ((l.getD i (.int 0)).fld 0).toInt].length ≤ 4294967296 by simp only [List.length_cons, List.length_nil]; omega)]
   obtain ⟨z1, p1, p2, p3⟩ := ih (i + 1) (acc ++ [D.int ((l.getD i (.int 0)).fld 0).toInt]) (by omega) (by omega) (by simp only [List.length_append, List.length_cons, List.length_nil]; omega)
   obtain ⟨z2, q1, q2, q3⟩ := ih (i + 1) acc (by omega) (by omega) (by omega)
   rw [p1, p2, q1, q2]
   cases decide (0 < ag l (i - 1) - ag l i) <;> cases decide (0 < ag l (i + 1) - ag l i) <;> cases decide (ag l (i - 1) - ag l i < 0) <;> cases decide (ag l (i + 1) - ag l i < 0) <;> simp only [Bool.and_true, Bool.true_and, Bool.and_false, Bool.false_and, Bool.or_true, Bool.or_false, cond_true, cond_false] <;> first | exact ⟨z1, rfl, rfl, p3⟩ | exact ⟨z2, rfl, rfl, q3⟩
 obtain ⟨z, e1, e2, e3⟩ := loop (l.length - 2) 1 [] (by omega) (by omega) (by simp)
 rw [show ((1 : Nat) : Int) = 1 from rfl] at e1 e2
 refine ⟨z, ?_, ?_, e3⟩
 ·simp only [Z31, c_Z31, validI l (by omega), hg, Option.bind_some, Bool.not_true, cond_false, e1]
 ·simp only [Z33, c_Z33, validS l (by omega), hg, Option.bind_some, Bool.not_true, cond_false, e2]
def shP (x e : Int) (d : D) : D := D.node [D.int (d.fld 0).toInt, D.int (IntKind.i64.wrap ((d.fld 1).toInt + x)), D.int (IntKind.i64.wrap ((d.fld 2).toInt + e))]
theorem shI {l : List D} (hl : l.length ≤ 40) (x e : Int) : ∀ (m i : Nat) (acc : List D), i + m = l.length → acc = (l.take i).map (shP x e) ++ l.drop i → Z14 x e l.length i acc = some (l.map (shP x e))
 | 0, i, acc, hi, ha => by
  rw [Z14_fx]
  unfold c_Z14
  rw [decide_eq_false (by omega), cond_false, ha, List.take_of_length_le (by omega), List.drop_of_length_le (by omega), List.append_nil]
 | m + 1, i, acc, hi, ha => by
  have hlen : acc.length = l.length := by rw [ha]; simp only [List.length_append, List.length_map, List.length_take, List.length_drop]; omega
  have hget : acc.getD i (.int 0) = l.getD i (.int 0) := by
   rw [ha, List.getD_eq_getElem?_getD, List.getD_eq_getElem?_getD, List.getElem?_append_right (by simp only [List.length_map, List.length_take]; omega)]
   simp only [List.length_map, List.length_take, List.getElem?_drop]
   congr 2
   omega
  rw [Z14_fx]
  unfold c_Z14
  simp only [Int.toNat_natCast, List.length_set]
  rw [decide_eq_true (by omega), cond_true]
  simp only [if_pos (show 0 ≤ (i : Int) ∧ (i : Int) < acc.length by omega), if_pos (show i + 1 ≤ acc.length by omega), Option.bind_fun_some]
  rw [succ_wrap (by omega)]
  refine shI hl x e m (i + 1) _ (by omega) ?_
  rw [List.set_set]
  have hs : (acc.set i (D.node [D.int ((acc.getD i (D.int 0)).fld 0).toInt, D.int (IntKind.i64.wrap (((acc.getD i (D.int 0)).fld 1).toInt + x)), D.int ((acc.getD i (D.int 0)).fld 2).toInt])).getD i (D.int 0) = D.node [D.int ((acc.getD i (D.int 0)).fld 0).toInt, D.int (IntKind.i64.wrap (((acc.getD i (D.int 0)).fld 1).toInt + x)), D.int ((acc.getD i (D.int 0)).fld 2).toInt] := by
   rw [List.getD_eq_getElem?_getD, List.getElem?_set_self (by omega)]; rfl
  rw [hs]
  simp only [fld_node, hget]
  show acc.set i (shP x e (l.getD i (.int 0))) = _
  rw [ha, List.set_append_right _ _ (by simp only [List.length_map, List.length_take]; omega)]
  simp only [List.length_map, List.length_take]
  rw [show i - min i l.length = 0 by omega, List.drop_eq_getElem_cons (show i < l.length by omega), List.set_cons_zero, List.take_succ_eq_append_getElem (show i < l.length by omega), List.map_append, List.append_assoc, List.getD_eq_getElem?_getD, List.getElem?_eq_getElem (show i < l.length by omega)]
  rfl
theorem shS {l : List D} (hl : l.length ≤ 40) (x e : Int) : ∀ (m i : Nat) (acc : List D), i + m = l.length → acc = (l.take i).map (shP x e) → Z19 l x e i acc = some (l.map (shP x e))
 | 0, i, acc, hi, ha => by
  rw [Z19_fx]
  unfold c_Z19
  rw [decide_eq_false (by omega), cond_false, ha, List.take_of_length_le (by omega)]
 | m + 1, i, acc, hi, ha => by
  have hlen : acc.length = i := by rw [ha]; simp only [List.length_map, List.length_take]; omega
  rw [Z19_fx]
  unfold c_Z19
  simp only [Int.toNat_natCast]
  rw [decide_eq_true (by omega), cond_true, if_pos (by omega), if_pos (by simp only [List.length_cons, List.length_nil]; omega), succ_wrap (by omega)]
  simp only [Option.bind_fun_some]
  refine shS hl x e m (i + 1) _ (by omega) ?_
  rw [ha, List.take_succ_eq_append_getElem (show i < l.length by omega), List.map_append, List.getD_eq_getElem?_getD, List.getElem?_eq_getElem (show i < l.length by omega)]
  rfl
theorem yr_sh (l : List D) (x e : Int) (i : Nat) (hi : i < l.length) : yr (l.map (shP x e)) i = yr l i ∧ ag (l.map (shP x e)) i = IntKind.i64.wrap (ag l i + x) ∧ er (l.map (shP x e)) i = IntKind.i64.wrap (er l i + e) := by
 unfold yr ag er
 simp only [List.getD_eq_getElem?_getD, List.getElem?_map, List.getElem?_eq_getElem hi, Option.map_some, Option.getD_some]
 exact ⟨rfl, rfl, rfl⟩
theorem shift_good {l : List D} (h : GoodC l) (hg : goodC l = true) (x e : Int) : ∃ m ok, Z15 l x e = some (m, ok) ∧ (∃ m', Z20 l x e = some (m', ok)) ∧ (ok = true → m = l.map (shP x e) ∧ goodC m = true) := by
 have n2 := h.n2
 have e1 := shI n2 x e l.length 0 l (by omega) (by simp)
 have e2 := shS n2 x e l.length 0 [] (by omega) (by simp)
 rw [show ((0 : Nat) : Int) = 0 from rfl] at e1 e2
 simp only [Z15, c_Z15, Z20, c_Z20, validI l (by omega), validS l (by omega), hg, within_eq, l1In_eq, Option.bind_some, Bool.not_true, cond_false, clone_eq l (by omega), e1, e2, validI (l.map (shP x e)) (by rw [List.length_map]; omega), validS (l.map (shP x e)) (by rw [List.length_map]; omega)]
 cases btw x (-60000) 60000 with
 | false => exact ⟨_, _, rfl, ⟨_, rfl⟩, fun h => by cases h⟩
 | true =>
  cases btw e (-1000) 1000 with
  | false => exact ⟨_, _, rfl, ⟨_, rfl⟩, fun h => by cases h⟩
  | true =>
   cases hq : goodC (l.map (shP x e)) with
   | false => exact ⟨_, _, rfl, ⟨_, rfl⟩, fun h => by cases h⟩
   | true => exact ⟨_, _, rfl, ⟨_, rfl⟩, fun _ => ⟨rfl, hq⟩⟩
theorem loop11 {l : List D} (h : GoodC l) (hg : goodC l = true) (x e : Int) (m : List D) (ok : Bool) (hm : ok = true → m = l.map (shP x e) ∧ goodC m = true) : ∀ (k i : Nat), i + k = l.length → Z27 x e ok i l m = some (.inr l)
 | 0, i, hi => by
  rw [Z27_fx]
  unfold c_Z27
  rw [decide_eq_false (by omega), cond_false]
 | k + 1, i, hi => by
  have n2 := h.n2
  rw [Z27_fx]
  unfold c_Z27
  simp only [Int.toNat_natCast]
  rw [decide_eq_true (by omega), cond_true]
  simp only [if_pos (show 0 ≤ (i : Int) ∧ (i : Int) < l.length by omega), if_pos (show i + 1 ≤ l.length by omega), Option.bind_fun_some, show ((l.getD i (.int 0)).fld 0).toInt = yr l i from rfl, show ((l.getD i (.int 0)).fld 1).toInt = ag l i from rfl, show ((l.getD i (.int 0)).fld 2).toInt = er l i from rfl]
  rw [at_point h hg i (by omega)]
  simp only [Option.bind_some, Bool.not_true, cond_false, decide_true]
  rw [succ_wrap (by omega)]
  have ih := loop11 h hg x e m ok hm k (i + 1) (by omega)
  cases hok : ok with
  | false => rw [hok] at ih; rw [cond_false]; exact ih
  | true =>
   obtain ⟨q1, q2⟩ := hm hok
   obtain ⟨s1, s2, s3⟩ := yr_sh l x e i (by omega)
   have := at_point (goodC_of q2) q2 i (by rw [q1, List.length_map]; omega)
   rw [q1, s1, s2, s3, ← q1] at this
   rw [cond_true, this]
   simp only [Option.bind_some, Bool.not_true, cond_false, decide_true]
   rw [hok] at ih
   exact ih
theorem pure_FnCurves (x0 : List D) (h0 : x0.length ≤ maxLen) (w0 : ∀ d ∈ x0, wfD (.int .u8) d) : Z36 x0 = some true := by
 unfold Z36 c_Z36 Z0 c_Z0
 simp only [Option.bind_some]
 by_cases hb : (65536 : Int) < x0.length
 ·simp [hb]
 rw [decide_eq_false hb, cond_false]
 have hc : okC x0 := ⟨by omega, fun d hd => okB (w0 d hd)⟩
 obtain ⟨⟨l, x, e⟩, hd, hl⟩ := drawS_tot x0 hc
 dsimp only at hl
 simp only [hd, Option.bind_some]
 by_cases hg : goodC l = true
 ·have h := goodC_of hg
  have n1 := h.n1
  have n2 := h.n2
  obtain ⟨m, ok, e1, ⟨m', e2⟩, e3⟩ := shift_good h hg x e
  obtain ⟨z, y1, y2⟩ := years_ok h hg
  obtain ⟨t, t1, t2, t3⟩ := turns_ok h hg
  have e4 := loop11 h hg x e m ok e3 l.length 0 (by omega)
  rw [show ((0 : Nat) : Int) = 0 from rfl] at e4
  have yl := h.y (l.length - 1) (by omega)
  have y0 := h.y 0 (by omega)
  simp only [e1, e2, validI l (by omega), hg, e4, y1, t1, t2, rInts_self t (by omega), Option.bind_some, Bool.not_true, cond_false, cond_true, Sum.elim_inr, beq_self_eq_true]
  rw [pred_wrap (by omega) (by omega), if_pos (by omega), Int.toNat_natCast, if_pos (by omega), if_pos (by omega), if_pos (by omega), if_pos (by simp only [Int.toNat_zero]; omega), if_pos (by simp only [Int.toNat_zero]; omega)]
  rw [show ((l.getD (Int.toNat 0) (.int 0)).fld 0).toInt = yr l 0 from rfl, show ((l.getD (l.length - 1) (.int 0)).fld 0).toInt = yr l (l.length - 1) from rfl, wrap_id (n := yr l (l.length - 1) - yr l 0) (by omega) (by omega), wrap_id (by omega) (by omega), decide_eq_true y2]
 ·rw [Bool.not_eq_true] at hg
  simp only [Z15, c_Z15, Z20, c_Z20, Z21, c_Z21, validI l (by omega), validS l (by omega), hg, Option.bind_some, Bool.not_false, cond_true]
  rfl
end Go.Proofs.Ytpigfmlahmapaaa
