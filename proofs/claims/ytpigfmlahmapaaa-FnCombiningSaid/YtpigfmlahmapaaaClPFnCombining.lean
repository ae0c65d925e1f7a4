/- The law FnCombining over plain values. No condition beside those of the statement. -/
import Derived.Test.YtpigfmlahmapaaaClMFnCombining
import Derived.Test.YtpigfmlahmapaaaRaiU5
set_option linter.unusedVariables false
set_option linter.unusedSimpArgs false
set_option maxRecDepth 100000
namespace Go.Proofs.Ytpigfmlahmapaaa
open Go Go.Rai
theorem Z5_lim {ι : Type} {R : ι → ι → Prop} (hD : Dir R) {F : Int → Int → List D → Int → Int → Int → List D → Option (Int × List D × Int × Int × Int × List D)} {Fs : ι → Int → Int → List D → Int → Int → Int → List D → Option (Int × List D × Int × Int × Int × List D)} (h : ∀ x0 x1 x2 x3 x4 x5 x6, Lim R (F x0 x1 x2 x3 x4 x5 x6) (fun i => Fs i x0 x1 x2 x3 x4 x5 x6)) (x0 : Int) (x1 : Int) (x2 : List D) (x3 : Int) (x4 : Int) (x5 : Int) (x6 : List D)  : Lim R (c_Z5 F x0 x1 x2 x3 x4 x5 x6 some) (fun i => c_Z5 (Fs i) x0 x1 x2 x3 x4 x5 x6 some) := by
 unfold c_Z5
 repeat' first
  | exact Lim.const hD
  | exact h _ _ _ _ _ _ _
  | apply Lim.ite
  | apply Lim.cond
  | apply Lim.bind hD
  | apply Lim.sum
  | intro _
theorem Z5_fx (x0 : Int) (x1 : Int) (x2 : List D) (x3 : Int) (x4 : Int) (x5 : Int) (x6 : List D)  : Z5 x0 x1 x2 x3 x4 x5 x6 = c_Z5 Z5 x0 x1 x2 x3 x4 x5 x6 some :=
 fix_eq (N := fun n (p : Int × Int × List D × Int × Int × Int × List D) => n_Z5 n p.1 p.2.1 p.2.2.1 p.2.2.2.1 p.2.2.2.2.1 p.2.2.2.2.2.1 p.2.2.2.2.2.2) (C := fun f p => c_Z5 (fun x0 x1 x2 x3 x4 x5 x6 => f (x0, x1, x2, x3, x4, x5, x6)) p.1 p.2.1 p.2.2.1 p.2.2.2.1 p.2.2.2.2.1 p.2.2.2.2.2.1 p.2.2.2.2.2.2 some) (fun _ => rfl) (fun _ _ => rfl) (fun hD f fs h p => Z5_lim hD (fun x0 x1 x2 x3 x4 x5 x6 => h (x0, x1, x2, x3, x4, x5, x6)) _ _ _ _ _ _ _) (x0, x1, x2, x3, x4, x5, x6)
theorem Z6_lim {ι : Type} {R : ι → ι → Prop} (hD : Dir R) {F : Int → List D → Int → Int → Int → Int → Option (Int × List D × Int × Int × Int × Int)} {Fs : ι → Int → List D → Int → Int → Int → Int → Option (Int × List D × Int × Int × Int × Int)} (h : ∀ x0 x1 x2 x3 x4 x5, Lim R (F x0 x1 x2 x3 x4 x5) (fun i => Fs i x0 x1 x2 x3 x4 x5)) (x0 : Int) (x1 : List D) (x2 : Int) (x3 : Int) (x4 : Int) (x5 : Int)  : Lim R (c_Z6 F x0 x1 x2 x3 x4 x5 some) (fun i => c_Z6 (Fs i) x0 x1 x2 x3 x4 x5 some) := by
 unfold c_Z6
 repeat' first
  | exact Lim.const hD
  | exact h _ _ _ _ _ _
  | apply Lim.ite
  | apply Lim.cond
  | apply Lim.bind hD
  | apply Lim.sum
  | intro _
theorem Z6_fx (x0 : Int) (x1 : List D) (x2 : Int) (x3 : Int) (x4 : Int) (x5 : Int)  : Z6 x0 x1 x2 x3 x4 x5 = c_Z6 Z6 x0 x1 x2 x3 x4 x5 some :=
 fix_eq (N := fun n (p : Int × List D × Int × Int × Int × Int) => n_Z6 n p.1 p.2.1 p.2.2.1 p.2.2.2.1 p.2.2.2.2.1 p.2.2.2.2.2) (C := fun f p => c_Z6 (fun x0 x1 x2 x3 x4 x5 => f (x0, x1, x2, x3, x4, x5)) p.1 p.2.1 p.2.2.1 p.2.2.2.1 p.2.2.2.2.1 p.2.2.2.2.2 some) (fun _ => rfl) (fun _ _ => rfl) (fun hD f fs h p => Z6_lim hD (fun x0 x1 x2 x3 x4 x5 => h (x0, x1, x2, x3, x4, x5)) _ _ _ _ _ _) (x0, x1, x2, x3, x4, x5)
theorem Z7_lim {ι : Type} {R : ι → ι → Prop} (hD : Dir R) {F : Int → List D → Int → Int → Int → Int → Option (Int × List D × Int × Int × Int × Int)} {Fs : ι → Int → List D → Int → Int → Int → Int → Option (Int × List D × Int × Int × Int × Int)} (h : ∀ x0 x1 x2 x3 x4 x5, Lim R (F x0 x1 x2 x3 x4 x5) (fun i => Fs i x0 x1 x2 x3 x4 x5)) (x0 : Int) (x1 : List D) (x2 : Int) (x3 : Int) (x4 : Int) (x5 : Int)  : Lim R (c_Z7 F x0 x1 x2 x3 x4 x5 some) (fun i => c_Z7 (Fs i) x0 x1 x2 x3 x4 x5 some) := by
 unfold c_Z7
 repeat' first
  | exact Lim.const hD
  | exact h _ _ _ _ _ _
  | apply Lim.ite
  | apply Lim.cond
  | apply Lim.bind hD
  | apply Lim.sum
  | intro _
theorem Z7_fx (x0 : Int) (x1 : List D) (x2 : Int) (x3 : Int) (x4 : Int) (x5 : Int)  : Z7 x0 x1 x2 x3 x4 x5 = c_Z7 Z7 x0 x1 x2 x3 x4 x5 some :=
 fix_eq (N := fun n (p : Int × List D × Int × Int × Int × Int) => n_Z7 n p.1 p.2.1 p.2.2.1 p.2.2.2.1 p.2.2.2.2.1 p.2.2.2.2.2) (C := fun f p => c_Z7 (fun x0 x1 x2 x3 x4 x5 => f (x0, x1, x2, x3, x4, x5)) p.1 p.2.1 p.2.2.1 p.2.2.2.1 p.2.2.2.2.1 p.2.2.2.2.2 some) (fun _ => rfl) (fun _ _ => rfl) (fun hD f fs h p => Z7_lim hD (fun x0 x1 x2 x3 x4 x5 => h (x0, x1, x2, x3, x4, x5)) _ _ _ _ _ _) (x0, x1, x2, x3, x4, x5)
theorem Z8_lim {ι : Type} {R : ι → ι → Prop} (hD : Dir R) {F : Int → Int → Option (Int)} {Fs : ι → Int → Int → Option (Int)} (h : ∀ x0 x1, Lim R (F x0 x1) (fun i => Fs i x0 x1)) (x0 : Int) (x1 : Int)  : Lim R (c_Z8 F x0 x1 some) (fun i => c_Z8 (Fs i) x0 x1 some) := by
 unfold c_Z8
 repeat' first
  | exact Lim.const hD
  | exact h _ _
  | apply Lim.ite
  | apply Lim.cond
  | apply Lim.bind hD
  | apply Lim.sum
  | intro _
theorem Z8_fx (x0 : Int) (x1 : Int)  : Z8 x0 x1 = c_Z8 Z8 x0 x1 some :=
 fix_eq (N := fun n (p : Int × Int) => n_Z8 n p.1 p.2) (C := fun f p => c_Z8 (fun x0 x1 => f (x0, x1)) p.1 p.2 some) (fun _ => rfl) (fun _ _ => rfl) (fun hD f fs h p => Z8_lim hD (fun x0 x1 => h (x0, x1)) _ _) (x0, x1)
theorem Z10_lim {ι : Type} {R : ι → ι → Prop} (hD : Dir R) {F : Int → List D → Int → Int → Int → Int → Int → Int → Option (Int × List D × Int × Int × Int × Int × Int)} {Fs : ι → Int → List D → Int → Int → Int → Int → Int → Int → Option (Int × List D × Int × Int × Int × Int × Int)} (h : ∀ x0 x1 x2 x3 x4 x5 x6 x7, Lim R (F x0 x1 x2 x3 x4 x5 x6 x7) (fun i => Fs i x0 x1 x2 x3 x4 x5 x6 x7)) (x0 : Int) (x1 : List D) (x2 : Int) (x3 : Int) (x4 : Int) (x5 : Int) (x6 : Int) (x7 : Int)  : Lim R (c_Z10 F x0 x1 x2 x3 x4 x5 x6 x7 some) (fun i => c_Z10 (Fs i) x0 x1 x2 x3 x4 x5 x6 x7 some) := by
 unfold c_Z10
 repeat' first
  | exact Lim.const hD
  | exact h _ _ _ _ _ _ _ _
  | apply Lim.ite
  | apply Lim.cond
  | apply Lim.bind hD
  | apply Lim.sum
  | intro _
theorem Z10_fx (x0 : Int) (x1 : List D) (x2 : Int) (x3 : Int) (x4 : Int) (x5 : Int) (x6 : Int) (x7 : Int)  : Z10 x0 x1 x2 x3 x4 x5 x6 x7 = c_Z10 Z10 x0 x1 x2 x3 x4 x5 x6 x7 some :=
 fix_eq (N := fun n (p : Int × List D × Int × Int × Int × Int × Int × Int) => n_Z10 n p.1 p.2.1 p.2.2.1 p.2.2.2.1 p.2.2.2.2.1 p.2.2.2.2.2.1 p.2.2.2.2.2.2.1 p.2.2.2.2.2.2.2) (C := fun f p => c_Z10 (fun x0 x1 x2 x3 x4 x5 x6 x7 => f (x0, x1, x2, x3, x4, x5, x6, x7)) p.1 p.2.1 p.2.2.1 p.2.2.2.1 p.2.2.2.2.1 p.2.2.2.2.2.1 p.2.2.2.2.2.2.1 p.2.2.2.2.2.2.2 some) (fun _ => rfl) (fun _ _ => rfl) (fun hD f fs h p => Z10_lim hD (fun x0 x1 x2 x3 x4 x5 x6 x7 => h (x0, x1, x2, x3, x4, x5, x6, x7)) _ _ _ _ _ _ _ _) (x0, x1, x2, x3, x4, x5, x6, x7)
theorem Z11_lim {ι : Type} {R : ι → ι → Prop} (hD : Dir R) {F : List D → Int → Int → Int → Int → Int → Int → List D → Option (Int × Int × Int × List D)} {Fs : ι → List D → Int → Int → Int → Int → Int → Int → List D → Option (Int × Int × Int × List D)} (h : ∀ x0 x1 x2 x3 x4 x5 x6 x7, Lim R (F x0 x1 x2 x3 x4 x5 x6 x7) (fun i => Fs i x0 x1 x2 x3 x4 x5 x6 x7)) (x0 : List D) (x1 : Int) (x2 : Int) (x3 : Int) (x4 : Int) (x5 : Int) (x6 : Int) (x7 : List D)  : Lim R (c_Z11 F x0 x1 x2 x3 x4 x5 x6 x7 some) (fun i => c_Z11 (Fs i) x0 x1 x2 x3 x4 x5 x6 x7 some) := by
 unfold c_Z11
 repeat' first
  | exact Lim.const hD
  | exact h _ _ _ _ _ _ _ _
  | apply Lim.ite
  | apply Lim.cond
  | apply Lim.bind hD
  | apply Lim.sum
  | intro _
theorem Z11_fx (x0 : List D) (x1 : Int) (x2 : Int) (x3 : Int) (x4 : Int) (x5 : Int) (x6 : Int) (x7 : List D)  : Z11 x0 x1 x2 x3 x4 x5 x6 x7 = c_Z11 Z11 x0 x1 x2 x3 x4 x5 x6 x7 some :=
 fix_eq (N := fun n (p : List D × Int × Int × Int × Int × Int × Int × List D) => n_Z11 n p.1 p.2.1 p.2.2.1 p.2.2.2.1 p.2.2.2.2.1 p.2.2.2.2.2.1 p.2.2.2.2.2.2.1 p.2.2.2.2.2.2.2) (C := fun f p => c_Z11 (fun x0 x1 x2 x3 x4 x5 x6 x7 => f (x0, x1, x2, x3, x4, x5, x6, x7)) p.1 p.2.1 p.2.2.1 p.2.2.2.1 p.2.2.2.2.1 p.2.2.2.2.2.1 p.2.2.2.2.2.2.1 p.2.2.2.2.2.2.2 some) (fun _ => rfl) (fun _ _ => rfl) (fun hD f fs h p => Z11_lim hD (fun x0 x1 x2 x3 x4 x5 x6 x7 => h (x0, x1, x2, x3, x4, x5, x6, x7)) _ _ _ _ _ _ _ _) (x0, x1, x2, x3, x4, x5, x6, x7)
theorem Z13_lim {ι : Type} {R : ι → ι → Prop} (hD : Dir R) {F : Int → Int → Int → Int → List D → Option ((Bool × Int) ⊕ (Int))} {Fs : ι → Int → Int → Int → Int → List D → Option ((Bool × Int) ⊕ (Int))} (h : ∀ x0 x1 x2 x3 x4, Lim R (F x0 x1 x2 x3 x4) (fun i => Fs i x0 x1 x2 x3 x4)) (x0 : Int) (x1 : Int) (x2 : Int) (x3 : Int) (x4 : List D)  : Lim R (c_Z13 F x0 x1 x2 x3 x4 some) (fun i => c_Z13 (Fs i) x0 x1 x2 x3 x4 some) := by
 unfold c_Z13
 repeat' first
  | exact Lim.const hD
  | exact h _ _ _ _ _
  | apply Lim.ite
  | apply Lim.cond
  | apply Lim.bind hD
  | apply Lim.sum
  | intro _
theorem Z13_fx (x0 : Int) (x1 : Int) (x2 : Int) (x3 : Int) (x4 : List D)  : Z13 x0 x1 x2 x3 x4 = c_Z13 Z13 x0 x1 x2 x3 x4 some :=
 fix_eq (N := fun n (p : Int × Int × Int × Int × List D) => n_Z13 n p.1 p.2.1 p.2.2.1 p.2.2.2.1 p.2.2.2.2) (C := fun f p => c_Z13 (fun x0 x1 x2 x3 x4 => f (x0, x1, x2, x3, x4)) p.1 p.2.1 p.2.2.1 p.2.2.2.1 p.2.2.2.2 some) (fun _ => rfl) (fun _ _ => rfl) (fun hD f fs h p => Z13_lim hD (fun x0 x1 x2 x3 x4 => h (x0, x1, x2, x3, x4)) _ _ _ _ _) (x0, x1, x2, x3, x4)
theorem Z17_lim {ι : Type} {R : ι → ι → Prop} (hD : Dir R) {F : List D → Int → Int → Int → Int → List D → Option (List D × Int × Int × Int × Int × List D)} {Fs : ι → List D → Int → Int → Int → Int → List D → Option (List D × Int × Int × Int × Int × List D)} (h : ∀ x0 x1 x2 x3 x4 x5, Lim R (F x0 x1 x2 x3 x4 x5) (fun i => Fs i x0 x1 x2 x3 x4 x5)) (x0 : List D) (x1 : Int) (x2 : Int) (x3 : Int) (x4 : Int) (x5 : List D)  : Lim R (c_Z17 F x0 x1 x2 x3 x4 x5 some) (fun i => c_Z17 (Fs i) x0 x1 x2 x3 x4 x5 some) := by
 unfold c_Z17
 repeat' first
  | exact Lim.const hD
  | exact h _ _ _ _ _ _
  | apply Lim.ite
  | apply Lim.cond
  | apply Lim.bind hD
  | apply Lim.sum
  | intro _
theorem Z17_fx (x0 : List D) (x1 : Int) (x2 : Int) (x3 : Int) (x4 : Int) (x5 : List D)  : Z17 x0 x1 x2 x3 x4 x5 = c_Z17 Z17 x0 x1 x2 x3 x4 x5 some :=
 fix_eq (N := fun n (p : List D × Int × Int × Int × Int × List D) => n_Z17 n p.1 p.2.1 p.2.2.1 p.2.2.2.1 p.2.2.2.2.1 p.2.2.2.2.2) (C := fun f p => c_Z17 (fun x0 x1 x2 x3 x4 x5 => f (x0, x1, x2, x3, x4, x5)) p.1 p.2.1 p.2.2.1 p.2.2.2.1 p.2.2.2.2.1 p.2.2.2.2.2 some) (fun _ => rfl) (fun _ _ => rfl) (fun hD f fs h p => Z17_lim hD (fun x0 x1 x2 x3 x4 x5 => h (x0, x1, x2, x3, x4, x5)) _ _ _ _ _ _) (x0, x1, x2, x3, x4, x5)
theorem Z18_lim {ι : Type} {R : ι → ι → Prop} (hD : Dir R) {F : List D → Int → Int → Int → Int → List D → Option ((List D × Int × Int × Int × Int × List D) ⊕ (List D × Int × Int × Int × Int × List D))} {Fs : ι → List D → Int → Int → Int → Int → List D → Option ((List D × Int × Int × Int × Int × List D) ⊕ (List D × Int × Int × Int × Int × List D))} (h : ∀ x0 x1 x2 x3 x4 x5, Lim R (F x0 x1 x2 x3 x4 x5) (fun i => Fs i x0 x1 x2 x3 x4 x5)) (x0 : List D) (x1 : Int) (x2 : Int) (x3 : Int) (x4 : Int) (x5 : List D)  : Lim R (c_Z18 F x0 x1 x2 x3 x4 x5 some) (fun i => c_Z18 (Fs i) x0 x1 x2 x3 x4 x5 some) := by
 unfold c_Z18
 repeat' first
  | exact Lim.const hD
  | exact h _ _ _ _ _ _
  | apply Lim.ite
  | apply Lim.cond
  | apply Lim.bind hD
  | apply Lim.sum
  | intro _
theorem Z18_fx (x0 : List D) (x1 : Int) (x2 : Int) (x3 : Int) (x4 : Int) (x5 : List D)  : Z18 x0 x1 x2 x3 x4 x5 = c_Z18 Z18 x0 x1 x2 x3 x4 x5 some :=
 fix_eq (N := fun n (p : List D × Int × Int × Int × Int × List D) => n_Z18 n p.1 p.2.1 p.2.2.1 p.2.2.2.1 p.2.2.2.2.1 p.2.2.2.2.2) (C := fun f p => c_Z18 (fun x0 x1 x2 x3 x4 x5 => f (x0, x1, x2, x3, x4, x5)) p.1 p.2.1 p.2.2.1 p.2.2.2.1 p.2.2.2.2.1 p.2.2.2.2.2 some) (fun _ => rfl) (fun _ _ => rfl) (fun hD f fs h p => Z18_lim hD (fun x0 x1 x2 x3 x4 x5 => h (x0, x1, x2, x3, x4, x5)) _ _ _ _ _ _) (x0, x1, x2, x3, x4, x5)
theorem Z28_lim {ι : Type} {R : ι → ι → Prop} (hD : Dir R) {F : Int → Int → Option (Int)} {Fs : ι → Int → Int → Option (Int)} (h : ∀ x0 x1, Lim R (F x0 x1) (fun i => Fs i x0 x1)) (x0 : Int) (x1 : Int)  : Lim R (c_Z28 F x0 x1 some) (fun i => c_Z28 (Fs i) x0 x1 some) := by
 unfold c_Z28
 repeat' first
  | exact Lim.const hD
  | exact h _ _
  | apply Lim.ite
  | apply Lim.cond
  | apply Lim.bind hD
  | apply Lim.sum
  | intro _
theorem Z28_fx (x0 : Int) (x1 : Int)  : Z28 x0 x1 = c_Z28 Z28 x0 x1 some :=
 fix_eq (N := fun n (p : Int × Int) => n_Z28 n p.1 p.2) (C := fun f p => c_Z28 (fun x0 x1 => f (x0, x1)) p.1 p.2 some) (fun _ => rfl) (fun _ _ => rfl) (fun hD f fs h p => Z28_lim hD (fun x0 x1 => h (x0, x1)) _ _) (x0, x1)
theorem Z30_lim {ι : Type} {R : ι → ι → Prop} (hD : Dir R) {F : Int → List D → Int → Int → Option (Int)} {Fs : ι → Int → List D → Int → Int → Option (Int)} (h : ∀ x0 x1 x2 x3, Lim R (F x0 x1 x2 x3) (fun i => Fs i x0 x1 x2 x3)) (x0 : Int) (x1 : List D) (x2 : Int) (x3 : Int)  : Lim R (c_Z30 F x0 x1 x2 x3 some) (fun i => c_Z30 (Fs i) x0 x1 x2 x3 some) := by
 unfold c_Z30
 repeat' first
  | exact Lim.const hD
  | exact h _ _ _ _
  | apply Lim.ite
  | apply Lim.cond
  | apply Lim.bind hD
  | apply Lim.sum
  | intro _
theorem Z30_fx (x0 : Int) (x1 : List D) (x2 : Int) (x3 : Int)  : Z30 x0 x1 x2 x3 = c_Z30 Z30 x0 x1 x2 x3 some :=
 fix_eq (N := fun n (p : Int × List D × Int × Int) => n_Z30 n p.1 p.2.1 p.2.2.1 p.2.2.2) (C := fun f p => c_Z30 (fun x0 x1 x2 x3 => f (x0, x1, x2, x3)) p.1 p.2.1 p.2.2.1 p.2.2.2 some) (fun _ => rfl) (fun _ _ => rfl) (fun hD f fs h p => Z30_lim hD (fun x0 x1 x2 x3 => h (x0, x1, x2, x3)) _ _ _ _) (x0, x1, x2, x3)
theorem Z35_lim {ι : Type} {R : ι → ι → Prop} (hD : Dir R) {F : Int → Int → Int → List D → Int → List D → Int → Int → List D → Option (Int × Int × List D)} {Fs : ι → Int → Int → Int → List D → Int → List D → Int → Int → List D → Option (Int × Int × List D)} (h : ∀ x0 x1 x2 x3 x4 x5 x6 x7 x8, Lim R (F x0 x1 x2 x3 x4 x5 x6 x7 x8) (fun i => Fs i x0 x1 x2 x3 x4 x5 x6 x7 x8)) (x0 : Int) (x1 : Int) (x2 : Int) (x3 : List D) (x4 : Int) (x5 : List D) (x6 : Int) (x7 : Int) (x8 : List D)  : Lim R (c_Z35 F x0 x1 x2 x3 x4 x5 x6 x7 x8 some) (fun i => c_Z35 (Fs i) x0 x1 x2 x3 x4 x5 x6 x7 x8 some) := by
 unfold c_Z35
 repeat' first
  | exact Lim.const hD
  | exact h _ _ _ _ _ _ _ _ _
  | apply Lim.ite
  | apply Lim.cond
  | apply Lim.bind hD
  | apply Lim.sum
  | intro _
theorem Z35_fx (x0 : Int) (x1 : Int) (x2 : Int) (x3 : List D) (x4 : Int) (x5 : List D) (x6 : Int) (x7 : Int) (x8 : List D)  : Z35 x0 x1 x2 x3 x4 x5 x6 x7 x8 = c_Z35 Z35 x0 x1 x2 x3 x4 x5 x6 x7 x8 some :=
 fix_eq (N := fun n (p : Int × Int × Int × List D × Int × List D × Int × Int × List D) => n_Z35 n p.1 p.2.1 p.2.2.1 p.2.2.2.1 p.2.2.2.2.1 p.2.2.2.2.2.1 p.2.2.2.2.2.2.1 p.2.2.2.2.2.2.2.1 p.2.2.2.2.2.2.2.2) (C := fun f p => c_Z35 (fun x0 x1 x2 x3 x4 x5 x6 x7 x8 => f (x0, x1, x2, x3, x4, x5, x6, x7, x8)) p.1 p.2.1 p.2.2.1 p.2.2.2.1 p.2.2.2.2.1 p.2.2.2.2.2.1 p.2.2.2.2.2.2.1 p.2.2.2.2.2.2.2.1 p.2.2.2.2.2.2.2.2 some) (fun _ => rfl) (fun _ _ => rfl) (fun hD f fs h p => Z35_lim hD (fun x0 x1 x2 x3 x4 x5 x6 x7 x8 => h (x0, x1, x2, x3, x4, x5, x6, x7, x8)) _ _ _ _ _ _ _ _ _) (x0, x1, x2, x3, x4, x5, x6, x7, x8)
theorem Z36_lim {ι : Type} {R : ι → ι → Prop} (hD : Dir R) {F : Int → List D → Int → Int → Int → Int → Option (Int × List D × Int × Int × Int × Int)} {Fs : ι → Int → List D → Int → Int → Int → Int → Option (Int × List D × Int × Int × Int × Int)} (h : ∀ x0 x1 x2 x3 x4 x5, Lim R (F x0 x1 x2 x3 x4 x5) (fun i => Fs i x0 x1 x2 x3 x4 x5)) (x0 : Int) (x1 : List D) (x2 : Int) (x3 : Int) (x4 : Int) (x5 : Int)  : Lim R (c_Z36 F x0 x1 x2 x3 x4 x5 some) (fun i => c_Z36 (Fs i) x0 x1 x2 x3 x4 x5 some) := by
 unfold c_Z36
 repeat' first
  | exact Lim.const hD
  | exact h _ _ _ _ _ _
  | apply Lim.ite
  | apply Lim.cond
  | apply Lim.bind hD
  | apply Lim.sum
  | intro _
theorem Z36_fx (x0 : Int) (x1 : List D) (x2 : Int) (x3 : Int) (x4 : Int) (x5 : Int)  : Z36 x0 x1 x2 x3 x4 x5 = c_Z36 Z36 x0 x1 x2 x3 x4 x5 some :=
 fix_eq (N := fun n (p : Int × List D × Int × Int × Int × Int) => n_Z36 n p.1 p.2.1 p.2.2.1 p.2.2.2.1 p.2.2.2.2.1 p.2.2.2.2.2) (C := fun f p => c_Z36 (fun x0 x1 x2 x3 x4 x5 => f (x0, x1, x2, x3, x4, x5)) p.1 p.2.1 p.2.2.1 p.2.2.2.1 p.2.2.2.2.1 p.2.2.2.2.2 some) (fun _ => rfl) (fun _ _ => rfl) (fun hD f fs h p => Z36_lim hD (fun x0 x1 x2 x3 x4 x5 => h (x0, x1, x2, x3, x4, x5)) _ _ _ _ _ _) (x0, x1, x2, x3, x4, x5)
theorem Z37_lim {ι : Type} {R : ι → ι → Prop} (hD : Dir R) {F : Int → List D → Int → Int → Int → Int → Option (Int × List D × Int × Int × Int × Int)} {Fs : ι → Int → List D → Int → Int → Int → Int → Option (Int × List D × Int × Int × Int × Int)} (h : ∀ x0 x1 x2 x3 x4 x5, Lim R (F x0 x1 x2 x3 x4 x5) (fun i => Fs i x0 x1 x2 x3 x4 x5)) (x0 : Int) (x1 : List D) (x2 : Int) (x3 : Int) (x4 : Int) (x5 : Int)  : Lim R (c_Z37 F x0 x1 x2 x3 x4 x5 some) (fun i => c_Z37 (Fs i) x0 x1 x2 x3 x4 x5 some) := by
 unfold c_Z37
 repeat' first
  | exact Lim.const hD
  | exact h _ _ _ _ _ _
  | apply Lim.ite
  | apply Lim.cond
  | apply Lim.bind hD
  | apply Lim.sum
  | intro _
theorem Z37_fx (x0 : Int) (x1 : List D) (x2 : Int) (x3 : Int) (x4 : Int) (x5 : Int)  : Z37 x0 x1 x2 x3 x4 x5 = c_Z37 Z37 x0 x1 x2 x3 x4 x5 some :=
 fix_eq (N := fun n (p : Int × List D × Int × Int × Int × Int) => n_Z37 n p.1 p.2.1 p.2.2.1 p.2.2.2.1 p.2.2.2.2.1 p.2.2.2.2.2) (C := fun f p => c_Z37 (fun x0 x1 x2 x3 x4 x5 => f (x0, x1, x2, x3, x4, x5)) p.1 p.2.1 p.2.2.1 p.2.2.2.1 p.2.2.2.2.1 p.2.2.2.2.2 some) (fun _ => rfl) (fun _ _ => rfl) (fun hD f fs h p => Z37_lim hD (fun x0 x1 x2 x3 x4 x5 => h (x0, x1, x2, x3, x4, x5)) _ _ _ _ _ _) (x0, x1, x2, x3, x4, x5)
theorem Z38_lim {ι : Type} {R : ι → ι → Prop} (hD : Dir R) {F : Int → List D → Int → Int → Int → Int → List D → Option (Int × Int × List D)} {Fs : ι → Int → List D → Int → Int → Int → Int → List D → Option (Int × Int × List D)} (h : ∀ x0 x1 x2 x3 x4 x5 x6, Lim R (F x0 x1 x2 x3 x4 x5 x6) (fun i => Fs i x0 x1 x2 x3 x4 x5 x6)) (x0 : Int) (x1 : List D) (x2 : Int) (x3 : Int) (x4 : Int) (x5 : Int) (x6 : List D)  : Lim R (c_Z38 F x0 x1 x2 x3 x4 x5 x6 some) (fun i => c_Z38 (Fs i) x0 x1 x2 x3 x4 x5 x6 some) := by
 unfold c_Z38
 repeat' first
  | exact Lim.const hD
  | exact h _ _ _ _ _ _ _
  | apply Lim.ite
  | apply Lim.cond
  | apply Lim.bind hD
  | apply Lim.sum
  | intro _
theorem Z38_fx (x0 : Int) (x1 : List D) (x2 : Int) (x3 : Int) (x4 : Int) (x5 : Int) (x6 : List D)  : Z38 x0 x1 x2 x3 x4 x5 x6 = c_Z38 Z38 x0 x1 x2 x3 x4 x5 x6 some :=
 fix_eq (N := fun n (p : Int × List D × Int × Int × Int × Int × List D) => n_Z38 n p.1 p.2.1 p.2.2.1 p.2.2.2.1 p.2.2.2.2.1 p.2.2.2.2.2.1 p.2.2.2.2.2.2) (C := fun f p => c_Z38 (fun x0 x1 x2 x3 x4 x5 x6 => f (x0, x1, x2, x3, x4, x5, x6)) p.1 p.2.1 p.2.2.1 p.2.2.2.1 p.2.2.2.2.1 p.2.2.2.2.2.1 p.2.2.2.2.2.2 some) (fun _ => rfl) (fun _ _ => rfl) (fun hD f fs h p => Z38_lim hD (fun x0 x1 x2 x3 x4 x5 x6 => h (x0, x1, x2, x3, x4, x5, x6)) _ _ _ _ _ _ _) (x0, x1, x2, x3, x4, x5, x6)
theorem Z39_lim {ι : Type} {R : ι → ι → Prop} (hD : Dir R) {F : Int → List D → Int → Int → Int → Int → Option ((Int × Int × List D) ⊕ (Int × Int))} {Fs : ι → Int → List D → Int → Int → Int → Int → Option ((Int × Int × List D) ⊕ (Int × Int))} (h : ∀ x0 x1 x2 x3 x4 x5, Lim R (F x0 x1 x2 x3 x4 x5) (fun i => Fs i x0 x1 x2 x3 x4 x5)) (x0 : Int) (x1 : List D) (x2 : Int) (x3 : Int) (x4 : Int) (x5 : Int)  : Lim R (c_Z39 F x0 x1 x2 x3 x4 x5 some) (fun i => c_Z39 (Fs i) x0 x1 x2 x3 x4 x5 some) := by
 unfold c_Z39
 repeat' first
  | exact Lim.const hD
  | exact h _ _ _ _ _ _
  | apply Lim.ite
  | apply Lim.cond
  | apply Lim.bind hD
  | apply Lim.sum
  | intro _
theorem Z39_fx (x0 : Int) (x1 : List D) (x2 : Int) (x3 : Int) (x4 : Int) (x5 : Int)  : Z39 x0 x1 x2 x3 x4 x5 = c_Z39 Z39 x0 x1 x2 x3 x4 x5 some :=
 fix_eq (N := fun n (p : Int × List D × Int × Int × Int × Int) => n_Z39 n p.1 p.2.1 p.2.2.1 p.2.2.2.1 p.2.2.2.2.1 p.2.2.2.2.2) (C := fun f p => c_Z39 (fun x0 x1 x2 x3 x4 x5 => f (x0, x1, x2, x3, x4, x5)) p.1 p.2.1 p.2.2.1 p.2.2.2.1 p.2.2.2.2.1 p.2.2.2.2.2 some) (fun _ => rfl) (fun _ _ => rfl) (fun hD f fs h p => Z39_lim hD (fun x0 x1 x2 x3 x4 x5 => h (x0, x1, x2, x3, x4, x5)) _ _ _ _ _ _) (x0, x1, x2, x3, x4, x5)
theorem Z45_lim {ι : Type} {R : ι → ι → Prop} (hD : Dir R) {F : Int → Int → List D → Int → List D → Int → List D → Option (Int × List D × Int × List D)} {Fs : ι → Int → Int → List D → Int → List D → Int → List D → Option (Int × List D × Int × List D)} (h : ∀ x0 x1 x2 x3 x4 x5 x6, Lim R (F x0 x1 x2 x3 x4 x5 x6) (fun i => Fs i x0 x1 x2 x3 x4 x5 x6)) (x0 : Int) (x1 : Int) (x2 : List D) (x3 : Int) (x4 : List D) (x5 : Int) (x6 : List D)  : Lim R (c_Z45 F x0 x1 x2 x3 x4 x5 x6 some) (fun i => c_Z45 (Fs i) x0 x1 x2 x3 x4 x5 x6 some) := by
 unfold c_Z45
 repeat' first
  | exact Lim.const hD
  | exact h _ _ _ _ _ _ _
  | apply Lim.ite
  | apply Lim.cond
  | apply Lim.bind hD
  | apply Lim.sum
  | intro _
theorem Z45_fx (x0 : Int) (x1 : Int) (x2 : List D) (x3 : Int) (x4 : List D) (x5 : Int) (x6 : List D)  : Z45 x0 x1 x2 x3 x4 x5 x6 = c_Z45 Z45 x0 x1 x2 x3 x4 x5 x6 some :=
 fix_eq (N := fun n (p : Int × Int × List D × Int × List D × Int × List D) => n_Z45 n p.1 p.2.1 p.2.2.1 p.2.2.2.1 p.2.2.2.2.1 p.2.2.2.2.2.1 p.2.2.2.2.2.2) (C := fun f p => c_Z45 (fun x0 x1 x2 x3 x4 x5 x6 => f (x0, x1, x2, x3, x4, x5, x6)) p.1 p.2.1 p.2.2.1 p.2.2.2.1 p.2.2.2.2.1 p.2.2.2.2.2.1 p.2.2.2.2.2.2 some) (fun _ => rfl) (fun _ _ => rfl) (fun hD f fs h p => Z45_lim hD (fun x0 x1 x2 x3 x4 x5 x6 => h (x0, x1, x2, x3, x4, x5, x6)) _ _ _ _ _ _ _) (x0, x1, x2, x3, x4, x5, x6)
theorem Z51_lim {ι : Type} {R : ι → ι → Prop} (hD : Dir R) {F : Int → Int → Int → List D → Int → Int → List D → Int → Int → Int → List D → Int → List D → Option (Int × List D × Int × Int × Int × List D × Int × List D)} {Fs : ι → Int → Int → Int → List D → Int → Int → List D → Int → Int → Int → List D → Int → List D → Option (Int × List D × Int × Int × Int × List D × Int × List D)} (h : ∀ x0 x1 x2 x3 x4 x5 x6 x7 x8 x9 x10 x11 x12, Lim R (F x0 x1 x2 x3 x4 x5 x6 x7 x8 x9 x10 x11 x12) (fun i => Fs i x0 x1 x2 x3 x4 x5 x6 x7 x8 x9 x10 x11 x12)) (x0 : Int) (x1 : Int) (x2 : Int) (x3 : List D) (x4 : Int) (x5 : Int) (x6 : List D) (x7 : Int) (x8 : Int) (x9 : Int) (x10 : List D) (x11 : Int) (x12 : List D)  : Lim R (c_Z51 F x0 x1 x2 x3 x4 x5 x6 x7 x8 x9 x10 x11 x12 some) (fun i => c_Z51 (Fs i) x0 x1 x2 x3 x4 x5 x6 x7 x8 x9 x10 x11 x12 some) := by
 unfold c_Z51
 repeat' first
  | exact Lim.const hD
  | exact h _ _ _ _ _ _ _ _ _ _ _ _ _
  | apply Lim.ite
  | apply Lim.cond
  | apply Lim.bind hD
  | apply Lim.sum
  | intro _
theorem Z51_fx (x0 : Int) (x1 : Int) (x2 : Int) (x3 : List D) (x4 : Int) (x5 : Int) (x6 : List D) (x7 : Int) (x8 : Int) (x9 : Int) (x10 : List D) (x11 : Int) (x12 : List D)  : Z51 x0 x1 x2 x3 x4 x5 x6 x7 x8 x9 x10 x11 x12 = c_Z51 Z51 x0 x1 x2 x3 x4 x5 x6 x7 x8 x9 x10 x11 x12 some :=
 fix_eq (N := fun n (p : Int × Int × Int × List D × Int × Int × List D × Int × Int × Int × List D × Int × List D) => n_Z51 n p.1 p.2.1 p.2.2.1 p.2.2.2.1 p.2.2.2.2.1 p.2.2.2.2.2.1 p.2.2.2.2.2.2.1 p.2.2.2.2.2.2.2.1 p.2.2.2.2.2.2.2.2.1 p.2.2.2.2.2.2.2.2.2.1 p.2.2.2.2.2.2.2.2.2.2.1 p.2.2.2.2.2.2.2.2.2.2.2.1 p.2.2.2.2.2.2.2.2.2.2.2.2) (C := fun f p => c_Z51 (fun x0 x1 x2 x3 x4 x5 x6 x7 x8 x9 x10 x11 x12 => f (x0, x1, x2, x3, x4, x5, x6, x7, x8, x9, x10, x11, x12)) p.1 p.2.1 p.2.2.1 p.2.2.2.1 p.2.2.2.2.1 p.2.2.2.2.2.1 p.2.2.2.2.2.2.1 p.2.2.2.2.2.2.2.1 p.2.2.2.2.2.2.2.2.1 p.2.2.2.2.2.2.2.2.2.1 p.2.2.2.2.2.2.2.2.2.2.1 p.2.2.2.2.2.2.2.2.2.2.2.1 p.2.2.2.2.2.2.2.2.2.2.2.2 some) (fun _ => rfl) (fun _ _ => rfl) (fun hD f fs h p => Z51_lim hD (fun x0 x1 x2 x3 x4 x5 x6 x7 x8 x9 x10 x11 x12 => h (x0, x1, x2, x3, x4, x5, x6, x7, x8, x9, x10, x11, x12)) _ _ _ _ _ _ _ _ _ _ _ _ _) (x0, x1, x2, x3, x4, x5, x6, x7, x8, x9, x10, x11, x12)
theorem Z52_lim {ι : Type} {R : ι → ι → Prop} (hD : Dir R) {F : Int → List D → Int → Int → Int → List D → Int → List D → Option (Int)} {Fs : ι → Int → List D → Int → Int → Int → List D → Int → List D → Option (Int)} (h : ∀ x0 x1 x2 x3 x4 x5 x6 x7, Lim R (F x0 x1 x2 x3 x4 x5 x6 x7) (fun i => Fs i x0 x1 x2 x3 x4 x5 x6 x7)) (x0 : Int) (x1 : List D) (x2 : Int) (x3 : Int) (x4 : Int) (x5 : List D) (x6 : Int) (x7 : List D)  : Lim R (c_Z52 F x0 x1 x2 x3 x4 x5 x6 x7 some) (fun i => c_Z52 (Fs i) x0 x1 x2 x3 x4 x5 x6 x7 some) := by
 unfold c_Z52
 repeat' first
  | exact Lim.const hD
  | exact h _ _ _ _ _ _ _ _
  | apply Lim.ite
  | apply Lim.cond
  | apply Lim.bind hD
  | apply Lim.sum
  | intro _
theorem Z52_fx (x0 : Int) (x1 : List D) (x2 : Int) (x3 : Int) (x4 : Int) (x5 : List D) (x6 : Int) (x7 : List D)  : Z52 x0 x1 x2 x3 x4 x5 x6 x7 = c_Z52 Z52 x0 x1 x2 x3 x4 x5 x6 x7 some :=
 fix_eq (N := fun n (p : Int × List D × Int × Int × Int × List D × Int × List D) => n_Z52 n p.1 p.2.1 p.2.2.1 p.2.2.2.1 p.2.2.2.2.1 p.2.2.2.2.2.1 p.2.2.2.2.2.2.1 p.2.2.2.2.2.2.2) (C := fun f p => c_Z52 (fun x0 x1 x2 x3 x4 x5 x6 x7 => f (x0, x1, x2, x3, x4, x5, x6, x7)) p.1 p.2.1 p.2.2.1 p.2.2.2.1 p.2.2.2.2.1 p.2.2.2.2.2.1 p.2.2.2.2.2.2.1 p.2.2.2.2.2.2.2 some) (fun _ => rfl) (fun _ _ => rfl) (fun hD f fs h p => Z52_lim hD (fun x0 x1 x2 x3 x4 x5 x6 x7 => h (x0, x1, x2, x3, x4, x5, x6, x7)) _ _ _ _ _ _ _ _) (x0, x1, x2, x3, x4, x5, x6, x7)
theorem Z54_lim {ι : Type} {R : ι → ι → Prop} (hD : Dir R) {F : Int → List D → Int → Int → Option (Int)} {Fs : ι → Int → List D → Int → Int → Option (Int)} (h : ∀ x0 x1 x2 x3, Lim R (F x0 x1 x2 x3) (fun i => Fs i x0 x1 x2 x3)) (x0 : Int) (x1 : List D) (x2 : Int) (x3 : Int)  : Lim R (c_Z54 F x0 x1 x2 x3 some) (fun i => c_Z54 (Fs i) x0 x1 x2 x3 some) := by
 unfold c_Z54
 repeat' first
  | exact Lim.const hD
  | exact h _ _ _ _
  | apply Lim.ite
  | apply Lim.cond
  | apply Lim.bind hD
  | apply Lim.sum
  | intro _
theorem Z54_fx (x0 : Int) (x1 : List D) (x2 : Int) (x3 : Int)  : Z54 x0 x1 x2 x3 = c_Z54 Z54 x0 x1 x2 x3 some :=
 fix_eq (N := fun n (p : Int × List D × Int × Int) => n_Z54 n p.1 p.2.1 p.2.2.1 p.2.2.2) (C := fun f p => c_Z54 (fun x0 x1 x2 x3 => f (x0, x1, x2, x3)) p.1 p.2.1 p.2.2.1 p.2.2.2 some) (fun _ => rfl) (fun _ _ => rfl) (fun hD f fs h p => Z54_lim hD (fun x0 x1 x2 x3 => h (x0, x1, x2, x3)) _ _ _ _) (x0, x1, x2, x3)
theorem Z58_lim {ι : Type} {R : ι → ι → Prop} (hD : Dir R) {F : Int → Int → Int → Int → List D → Int → List D → Option (Int × Int × Int × List D × Int × List D)} {Fs : ι → Int → Int → Int → Int → List D → Int → List D → Option (Int × Int × Int × List D × Int × List D)} (h : ∀ x0 x1 x2 x3 x4 x5 x6, Lim R (F x0 x1 x2 x3 x4 x5 x6) (fun i => Fs i x0 x1 x2 x3 x4 x5 x6)) (x0 : Int) (x1 : Int) (x2 : Int) (x3 : Int) (x4 : List D) (x5 : Int) (x6 : List D)  : Lim R (c_Z58 F x0 x1 x2 x3 x4 x5 x6 some) (fun i => c_Z58 (Fs i) x0 x1 x2 x3 x4 x5 x6 some) := by
 unfold c_Z58
 repeat' first
  | exact Lim.const hD
  | exact h _ _ _ _ _ _ _
  | apply Lim.ite
  | apply Lim.cond
  | apply Lim.bind hD
  | apply Lim.sum
  | intro _
theorem Z58_fx (x0 : Int) (x1 : Int) (x2 : Int) (x3 : Int) (x4 : List D) (x5 : Int) (x6 : List D)  : Z58 x0 x1 x2 x3 x4 x5 x6 = c_Z58 Z58 x0 x1 x2 x3 x4 x5 x6 some :=
 fix_eq (N := fun n (p : Int × Int × Int × Int × List D × Int × List D) => n_Z58 n p.1 p.2.1 p.2.2.1 p.2.2.2.1 p.2.2.2.2.1 p.2.2.2.2.2.1 p.2.2.2.2.2.2) (C := fun f p => c_Z58 (fun x0 x1 x2 x3 x4 x5 x6 => f (x0, x1, x2, x3, x4, x5, x6)) p.1 p.2.1 p.2.2.1 p.2.2.2.1 p.2.2.2.2.1 p.2.2.2.2.2.1 p.2.2.2.2.2.2 some) (fun _ => rfl) (fun _ _ => rfl) (fun hD f fs h p => Z58_lim hD (fun x0 x1 x2 x3 x4 x5 x6 => h (x0, x1, x2, x3, x4, x5, x6)) _ _ _ _ _ _ _) (x0, x1, x2, x3, x4, x5, x6)
theorem Z59_lim {ι : Type} {R : ι → ι → Prop} (hD : Dir R) {F : Int → Int → Int → List D → Int → List D → Option (Int × Int × List D × Int × List D)} {Fs : ι → Int → Int → Int → List D → Int → List D → Option (Int × Int × List D × Int × List D)} (h : ∀ x0 x1 x2 x3 x4 x5, Lim R (F x0 x1 x2 x3 x4 x5) (fun i => Fs i x0 x1 x2 x3 x4 x5)) (x0 : Int) (x1 : Int) (x2 : Int) (x3 : List D) (x4 : Int) (x5 : List D)  : Lim R (c_Z59 F x0 x1 x2 x3 x4 x5 some) (fun i => c_Z59 (Fs i) x0 x1 x2 x3 x4 x5 some) := by
 unfold c_Z59
 repeat' first
  | exact Lim.const hD
  | exact h _ _ _ _ _ _
  | apply Lim.ite
  | apply Lim.cond
  | apply Lim.bind hD
  | apply Lim.sum
  | intro _
theorem Z59_fx (x0 : Int) (x1 : Int) (x2 : Int) (x3 : List D) (x4 : Int) (x5 : List D)  : Z59 x0 x1 x2 x3 x4 x5 = c_Z59 Z59 x0 x1 x2 x3 x4 x5 some :=
 fix_eq (N := fun n (p : Int × Int × Int × List D × Int × List D) => n_Z59 n p.1 p.2.1 p.2.2.1 p.2.2.2.1 p.2.2.2.2.1 p.2.2.2.2.2) (C := fun f p => c_Z59 (fun x0 x1 x2 x3 x4 x5 => f (x0, x1, x2, x3, x4, x5)) p.1 p.2.1 p.2.2.1 p.2.2.2.1 p.2.2.2.2.1 p.2.2.2.2.2 some) (fun _ => rfl) (fun _ _ => rfl) (fun hD f fs h p => Z59_lim hD (fun x0 x1 x2 x3 x4 x5 => h (x0, x1, x2, x3, x4, x5)) _ _ _ _ _ _) (x0, x1, x2, x3, x4, x5)
theorem Z60_lim {ι : Type} {R : ι → ι → Prop} (hD : Dir R) {F : List D → Int → Int → Option (Int)} {Fs : ι → List D → Int → Int → Option (Int)} (h : ∀ x0 x1 x2, Lim R (F x0 x1 x2) (fun i => Fs i x0 x1 x2)) (x0 : List D) (x1 : Int) (x2 : Int)  : Lim R (c_Z60 F x0 x1 x2 some) (fun i => c_Z60 (Fs i) x0 x1 x2 some) := by
 unfold c_Z60
 repeat' first
  | exact Lim.const hD
  | exact h _ _ _
  | apply Lim.ite
  | apply Lim.cond
  | apply Lim.bind hD
  | apply Lim.sum
  | intro _
theorem Z60_fx (x0 : List D) (x1 : Int) (x2 : Int)  : Z60 x0 x1 x2 = c_Z60 Z60 x0 x1 x2 some :=
 fix_eq (N := fun n (p : List D × Int × Int) => n_Z60 n p.1 p.2.1 p.2.2) (C := fun f p => c_Z60 (fun x0 x1 x2 => f (x0, x1, x2)) p.1 p.2.1 p.2.2 some) (fun _ => rfl) (fun _ _ => rfl) (fun hD f fs h p => Z60_lim hD (fun x0 x1 x2 => h (x0, x1, x2)) _ _ _) (x0, x1, x2)
theorem Z64_lim {ι : Type} {R : ι → ι → Prop} (hD : Dir R) {F : Int → Int → Int → Int → Int → Int → Int → Int → List D → Int → Int → List D → Option (Int × Int × Int × Int × Int × Int × Int × List D × Int × Int × List D)} {Fs : ι → Int → Int → Int → Int → Int → Int → Int → Int → List D → Int → Int → List D → Option (Int × Int × Int × Int × Int × Int × Int × List D × Int × Int × List D)} (h : ∀ x0 x1 x2 x3 x4 x5 x6 x7 x8 x9 x10 x11, Lim R (F x0 x1 x2 x3 x4 x5 x6 x7 x8 x9 x10 x11) (fun i => Fs i x0 x1 x2 x3 x4 x5 x6 x7 x8 x9 x10 x11)) (x0 : Int) (x1 : Int) (x2 : Int) (x3 : Int) (x4 : Int) (x5 : Int) (x6 : Int) (x7 : Int) (x8 : List D) (x9 : Int) (x10 : Int) (x11 : List D)  : Lim R (c_Z64 F x0 x1 x2 x3 x4 x5 x6 x7 x8 x9 x10 x11 some) (fun i => c_Z64 (Fs i) x0 x1 x2 x3 x4 x5 x6 x7 x8 x9 x10 x11 some) := by
 unfold c_Z64
 repeat' first
  | exact Lim.const hD
  | exact h _ _ _ _ _ _ _ _ _ _ _ _
  | apply Lim.ite
  | apply Lim.cond
  | apply Lim.bind hD
  | apply Lim.sum
  | intro _
theorem Z64_fx (x0 : Int) (x1 : Int) (x2 : Int) (x3 : Int) (x4 : Int) (x5 : Int) (x6 : Int) (x7 : Int) (x8 : List D) (x9 : Int) (x10 : Int) (x11 : List D)  : Z64 x0 x1 x2 x3 x4 x5 x6 x7 x8 x9 x10 x11 = c_Z64 Z64 x0 x1 x2 x3 x4 x5 x6 x7 x8 x9 x10 x11 some :=
 fix_eq (N := fun n (p : Int × Int × Int × Int × Int × Int × Int × Int × List D × Int × Int × List D) => n_Z64 n p.1 p.2.1 p.2.2.1 p.2.2.2.1 p.2.2.2.2.1 p.2.2.2.2.2.1 p.2.2.2.2.2.2.1 p.2.2.2.2.2.2.2.1 p.2.2.2.2.2.2.2.2.1 p.2.2.2.2.2.2.2.2.2.1 p.2.2.2.2.2.2.2.2.2.2.1 p.2.2.2.2.2.2.2.2.2.2.2) (C := fun f p => c_Z64 (fun x0 x1 x2 x3 x4 x5 x6 x7 x8 x9 x10 x11 => f (x0, x1, x2, x3, x4, x5, x6, x7, x8, x9, x10, x11)) p.1 p.2.1 p.2.2.1 p.2.2.2.1 p.2.2.2.2.1 p.2.2.2.2.2.1 p.2.2.2.2.2.2.1 p.2.2.2.2.2.2.2.1 p.2.2.2.2.2.2.2.2.1 p.2.2.2.2.2.2.2.2.2.1 p.2.2.2.2.2.2.2.2.2.2.1 p.2.2.2.2.2.2.2.2.2.2.2 some) (fun _ => rfl) (fun _ _ => rfl) (fun hD f fs h p => Z64_lim hD (fun x0 x1 x2 x3 x4 x5 x6 x7 x8 x9 x10 x11 => h (x0, x1, x2, x3, x4, x5, x6, x7, x8, x9, x10, x11)) _ _ _ _ _ _ _ _ _ _ _ _) (x0, x1, x2, x3, x4, x5, x6, x7, x8, x9, x10, x11)
theorem Z67_lim {ι : Type} {R : ι → ι → Prop} (hD : Dir R) {F : Int → Int → Int → Int → List D → Int → List D → Int → Int → Int → List D → Option (Int × Int × List D)} {Fs : ι → Int → Int → Int → Int → List D → Int → List D → Int → Int → Int → List D → Option (Int × Int × List D)} (h : ∀ x0 x1 x2 x3 x4 x5 x6 x7 x8 x9 x10, Lim R (F x0 x1 x2 x3 x4 x5 x6 x7 x8 x9 x10) (fun i => Fs i x0 x1 x2 x3 x4 x5 x6 x7 x8 x9 x10)) (x0 : Int) (x1 : Int) (x2 : Int) (x3 : Int) (x4 : List D) (x5 : Int) (x6 : List D) (x7 : Int) (x8 : Int) (x9 : Int) (x10 : List D)  : Lim R (c_Z67 F x0 x1 x2 x3 x4 x5 x6 x7 x8 x9 x10 some) (fun i => c_Z67 (Fs i) x0 x1 x2 x3 x4 x5 x6 x7 x8 x9 x10 some) := by
 unfold c_Z67
 repeat' first
  | exact Lim.const hD
  | exact h _ _ _ _ _ _ _ _ _ _ _
  | apply Lim.ite
  | apply Lim.cond
  | apply Lim.bind hD
  | apply Lim.sum
  | intro _
theorem Z67_fx (x0 : Int) (x1 : Int) (x2 : Int) (x3 : Int) (x4 : List D) (x5 : Int) (x6 : List D) (x7 : Int) (x8 : Int) (x9 : Int) (x10 : List D)  : Z67 x0 x1 x2 x3 x4 x5 x6 x7 x8 x9 x10 = c_Z67 Z67 x0 x1 x2 x3 x4 x5 x6 x7 x8 x9 x10 some :=
 fix_eq (N := fun n (p : Int × Int × Int × Int × List D × Int × List D × Int × Int × Int × List D) => n_Z67 n p.1 p.2.1 p.2.2.1 p.2.2.2.1 p.2.2.2.2.1 p.2.2.2.2.2.1 p.2.2.2.2.2.2.1 p.2.2.2.2.2.2.2.1 p.2.2.2.2.2.2.2.2.1 p.2.2.2.2.2.2.2.2.2.1 p.2.2.2.2.2.2.2.2.2.2) (C := fun f p => c_Z67 (fun x0 x1 x2 x3 x4 x5 x6 x7 x8 x9 x10 => f (x0, x1, x2, x3, x4, x5, x6, x7, x8, x9, x10)) p.1 p.2.1 p.2.2.1 p.2.2.2.1 p.2.2.2.2.1 p.2.2.2.2.2.1 p.2.2.2.2.2.2.1 p.2.2.2.2.2.2.2.1 p.2.2.2.2.2.2.2.2.1 p.2.2.2.2.2.2.2.2.2.1 p.2.2.2.2.2.2.2.2.2.2 some) (fun _ => rfl) (fun _ _ => rfl) (fun hD f fs h p => Z67_lim hD (fun x0 x1 x2 x3 x4 x5 x6 x7 x8 x9 x10 => h (x0, x1, x2, x3, x4, x5, x6, x7, x8, x9, x10)) _ _ _ _ _ _ _ _ _ _ _) (x0, x1, x2, x3, x4, x5, x6, x7, x8, x9, x10)
theorem Z70_lim {ι : Type} {R : ι → ι → Prop} (hD : Dir R) {F : Int → Int → List D → Int → List D → Int → List D → Int → Int → Option (Int)} {Fs : ι → Int → Int → List D → Int → List D → Int → List D → Int → Int → Option (Int)} (h : ∀ x0 x1 x2 x3 x4 x5 x6 x7 x8, Lim R (F x0 x1 x2 x3 x4 x5 x6 x7 x8) (fun i => Fs i x0 x1 x2 x3 x4 x5 x6 x7 x8)) (x0 : Int) (x1 : Int) (x2 : List D) (x3 : Int) (x4 : List D) (x5 : Int) (x6 : List D) (x7 : Int) (x8 : Int)  : Lim R (c_Z70 F x0 x1 x2 x3 x4 x5 x6 x7 x8 some) (fun i => c_Z70 (Fs i) x0 x1 x2 x3 x4 x5 x6 x7 x8 some) := by
 unfold c_Z70
 repeat' first
  | exact Lim.const hD
  | exact h _ _ _ _ _ _ _ _ _
  | apply Lim.ite
  | apply Lim.cond
  | apply Lim.bind hD
  | apply Lim.sum
  | intro _
theorem Z70_fx (x0 : Int) (x1 : Int) (x2 : List D) (x3 : Int) (x4 : List D) (x5 : Int) (x6 : List D) (x7 : Int) (x8 : Int)  : Z70 x0 x1 x2 x3 x4 x5 x6 x7 x8 = c_Z70 Z70 x0 x1 x2 x3 x4 x5 x6 x7 x8 some :=
 fix_eq (N := fun n (p : Int × Int × List D × Int × List D × Int × List D × Int × Int) => n_Z70 n p.1 p.2.1 p.2.2.1 p.2.2.2.1 p.2.2.2.2.1 p.2.2.2.2.2.1 p.2.2.2.2.2.2.1 p.2.2.2.2.2.2.2.1 p.2.2.2.2.2.2.2.2) (C := fun f p => c_Z70 (fun x0 x1 x2 x3 x4 x5 x6 x7 x8 => f (x0, x1, x2, x3, x4, x5, x6, x7, x8)) p.1 p.2.1 p.2.2.1 p.2.2.2.1 p.2.2.2.2.1 p.2.2.2.2.2.1 p.2.2.2.2.2.2.1 p.2.2.2.2.2.2.2.1 p.2.2.2.2.2.2.2.2 some) (fun _ => rfl) (fun _ _ => rfl) (fun hD f fs h p => Z70_lim hD (fun x0 x1 x2 x3 x4 x5 x6 x7 x8 => h (x0, x1, x2, x3, x4, x5, x6, x7, x8)) _ _ _ _ _ _ _ _ _) (x0, x1, x2, x3, x4, x5, x6, x7, x8)
theorem Z72_lim {ι : Type} {R : ι → ι → Prop} (hD : Dir R) {F : Int → Int → Int → List D → Int → List D → Int → Int → List D → Option (Int × Int × List D)} {Fs : ι → Int → Int → Int → List D → Int → List D → Int → Int → List D → Option (Int × Int × List D)} (h : ∀ x0 x1 x2 x3 x4 x5 x6 x7 x8, Lim R (F x0 x1 x2 x3 x4 x5 x6 x7 x8) (fun i => Fs i x0 x1 x2 x3 x4 x5 x6 x7 x8)) (x0 : Int) (x1 : Int) (x2 : Int) (x3 : List D) (x4 : Int) (x5 : List D) (x6 : Int) (x7 : Int) (x8 : List D)  : Lim R (c_Z72 F x0 x1 x2 x3 x4 x5 x6 x7 x8 some) (fun i => c_Z72 (Fs i) x0 x1 x2 x3 x4 x5 x6 x7 x8 some) := by
 unfold c_Z72
 repeat' first
  | exact Lim.const hD
  | exact h _ _ _ _ _ _ _ _ _
  | apply Lim.ite
  | apply Lim.cond
  | apply Lim.bind hD
  | apply Lim.sum
  | intro _
theorem Z72_fx (x0 : Int) (x1 : Int) (x2 : Int) (x3 : List D) (x4 : Int) (x5 : List D) (x6 : Int) (x7 : Int) (x8 : List D)  : Z72 x0 x1 x2 x3 x4 x5 x6 x7 x8 = c_Z72 Z72 x0 x1 x2 x3 x4 x5 x6 x7 x8 some :=
 fix_eq (N := fun n (p : Int × Int × Int × List D × Int × List D × Int × Int × List D) => n_Z72 n p.1 p.2.1 p.2.2.1 p.2.2.2.1 p.2.2.2.2.1 p.2.2.2.2.2.1 p.2.2.2.2.2.2.1 p.2.2.2.2.2.2.2.1 p.2.2.2.2.2.2.2.2) (C := fun f p => c_Z72 (fun x0 x1 x2 x3 x4 x5 x6 x7 x8 => f (x0, x1, x2, x3, x4, x5, x6, x7, x8)) p.1 p.2.1 p.2.2.1 p.2.2.2.1 p.2.2.2.2.1 p.2.2.2.2.2.1 p.2.2.2.2.2.2.1 p.2.2.2.2.2.2.2.1 p.2.2.2.2.2.2.2.2 some) (fun _ => rfl) (fun _ _ => rfl) (fun hD f fs h p => Z72_lim hD (fun x0 x1 x2 x3 x4 x5 x6 x7 x8 => h (x0, x1, x2, x3, x4, x5, x6, x7, x8)) _ _ _ _ _ _ _ _ _) (x0, x1, x2, x3, x4, x5, x6, x7, x8)
theorem Z75_lim {ι : Type} {R : ι → ι → Prop} (hD : Dir R) {F : Int → Int → Int → Int → Int → List D → Int → List D → Int → List D → Option (Int × Int × Int × Int × List D × Int × List D × Int × List D)} {Fs : ι → Int → Int → Int → Int → Int → List D → Int → List D → Int → List D → Option (Int × Int × Int × Int × List D × Int × List D × Int × List D)} (h : ∀ x0 x1 x2 x3 x4 x5 x6 x7 x8 x9, Lim R (F x0 x1 x2 x3 x4 x5 x6 x7 x8 x9) (fun i => Fs i x0 x1 x2 x3 x4 x5 x6 x7 x8 x9)) (x0 : Int) (x1 : Int) (x2 : Int) (x3 : Int) (x4 : Int) (x5 : List D) (x6 : Int) (x7 : List D) (x8 : Int) (x9 : List D)  : Lim R (c_Z75 F x0 x1 x2 x3 x4 x5 x6 x7 x8 x9 some) (fun i => c_Z75 (Fs i) x0 x1 x2 x3 x4 x5 x6 x7 x8 x9 some) := by
 unfold c_Z75
 repeat' first
  | exact Lim.const hD
  | exact h _ _ _ _ _ _ _ _ _ _
  | apply Lim.ite
  | apply Lim.cond
  | apply Lim.bind hD
  | apply Lim.sum
  | intro _
theorem Z75_fx (x0 : Int) (x1 : Int) (x2 : Int) (x3 : Int) (x4 : Int) (x5 : List D) (x6 : Int) (x7 : List D) (x8 : Int) (x9 : List D)  : Z75 x0 x1 x2 x3 x4 x5 x6 x7 x8 x9 = c_Z75 Z75 x0 x1 x2 x3 x4 x5 x6 x7 x8 x9 some :=
 fix_eq (N := fun n (p : Int × Int × Int × Int × Int × List D × Int × List D × Int × List D) => n_Z75 n p.1 p.2.1 p.2.2.1 p.2.2.2.1 p.2.2.2.2.1 p.2.2.2.2.2.1 p.2.2.2.2.2.2.1 p.2.2.2.2.2.2.2.1 p.2.2.2.2.2.2.2.2.1 p.2.2.2.2.2.2.2.2.2) (C := fun f p => c_Z75 (fun x0 x1 x2 x3 x4 x5 x6 x7 x8 x9 => f (x0, x1, x2, x3, x4, x5, x6, x7, x8, x9)) p.1 p.2.1 p.2.2.1 p.2.2.2.1 p.2.2.2.2.1 p.2.2.2.2.2.1 p.2.2.2.2.2.2.1 p.2.2.2.2.2.2.2.1 p.2.2.2.2.2.2.2.2.1 p.2.2.2.2.2.2.2.2.2 some) (fun _ => rfl) (fun _ _ => rfl) (fun hD f fs h p => Z75_lim hD (fun x0 x1 x2 x3 x4 x5 x6 x7 x8 x9 => h (x0, x1, x2, x3, x4, x5, x6, x7, x8, x9)) _ _ _ _ _ _ _ _ _ _) (x0, x1, x2, x3, x4, x5, x6, x7, x8, x9)
theorem Z76_lim {ι : Type} {R : ι → ι → Prop} (hD : Dir R) {F : Int → Int → Int → Int → List D → Int → List D → Int → List D → Option (Int × Int × List D × Int × List D × Int × List D)} {Fs : ι → Int → Int → Int → Int → List D → Int → List D → Int → List D → Option (Int × Int × List D × Int × List D × Int × List D)} (h : ∀ x0 x1 x2 x3 x4 x5 x6 x7 x8, Lim R (F x0 x1 x2 x3 x4 x5 x6 x7 x8) (fun i => Fs i x0 x1 x2 x3 x4 x5 x6 x7 x8)) (x0 : Int) (x1 : Int) (x2 : Int) (x3 : Int) (x4 : List D) (x5 : Int) (x6 : List D) (x7 : Int) (x8 : List D)  : Lim R (c_Z76 F x0 x1 x2 x3 x4 x5 x6 x7 x8 some) (fun i => c_Z76 (Fs i) x0 x1 x2 x3 x4 x5 x6 x7 x8 some) := by
 unfold c_Z76
 repeat' first
  | exact Lim.const hD
  | exact h _ _ _ _ _ _ _ _ _
  | apply Lim.ite
  | apply Lim.cond
  | apply Lim.bind hD
  | apply Lim.sum
  | intro _
theorem Z76_fx (x0 : Int) (x1 : Int) (x2 : Int) (x3 : Int) (x4 : List D) (x5 : Int) (x6 : List D) (x7 : Int) (x8 : List D)  : Z76 x0 x1 x2 x3 x4 x5 x6 x7 x8 = c_Z76 Z76 x0 x1 x2 x3 x4 x5 x6 x7 x8 some :=
 fix_eq (N := fun n (p : Int × Int × Int × Int × List D × Int × List D × Int × List D) => n_Z76 n p.1 p.2.1 p.2.2.1 p.2.2.2.1 p.2.2.2.2.1 p.2.2.2.2.2.1 p.2.2.2.2.2.2.1 p.2.2.2.2.2.2.2.1 p.2.2.2.2.2.2.2.2) (C := fun f p => c_Z76 (fun x0 x1 x2 x3 x4 x5 x6 x7 x8 => f (x0, x1, x2, x3, x4, x5, x6, x7, x8)) p.1 p.2.1 p.2.2.1 p.2.2.2.1 p.2.2.2.2.1 p.2.2.2.2.2.1 p.2.2.2.2.2.2.1 p.2.2.2.2.2.2.2.1 p.2.2.2.2.2.2.2.2 some) (fun _ => rfl) (fun _ _ => rfl) (fun hD f fs h p => Z76_lim hD (fun x0 x1 x2 x3 x4 x5 x6 x7 x8 => h (x0, x1, x2, x3, x4, x5, x6, x7, x8)) _ _ _ _ _ _ _ _ _) (x0, x1, x2, x3, x4, x5, x6, x7, x8)
theorem l1In_eq (x a b : Int) : Z12 x a b = some (btw x a b) := by
 unfold Z12 c_Z12 btw
 by_cases h : a ≤ x <;> simp [h]
theorem within_eq (x a b : Int) : Z21 x a b = some (btw x a b) := by
 unfold Z21 c_Z21 btw
 by_cases h : a ≤ x <;> simp [h]
def Tt {ι β : Type} (I : ι → Prop) (P : β → Prop) (e : ι → Option β) : Prop := ∃ y, P y ∧ ∀ i, I i → e i = some y
theorem Tt.pure {ι β : Type} {I : ι → Prop} {P : β → Prop} {y : β} (h : P y) : Tt I P (fun _ => some y) := ⟨y, h, fun _ _ => rfl⟩
theorem Tt.bind {ι α β : Type} {I : ι → Prop} {Q : α → Prop} {P : β → Prop} {t : ι → Option α} {f : α → ι → Option β} (h : Tt I Q t) (k : ∀ v, Q v → Tt I P (fun i => f v i)) :
  Tt I P (fun i => (t i).bind (fun v => f v i)) := by
 obtain ⟨v, hv, ht⟩ := h
 obtain ⟨y, hy, hk⟩ := k v hv
 exact ⟨y, hy, fun i hi => by show (t i).bind _ = _; rw [ht i hi]; exact hk i hi⟩
theorem Tt.ite {ι β : Type} {I : ι → Prop} {P : β → Prop} {c : Prop} [Decidable c] {x y : ι → Option β} (h : c) (k : Tt I P x) : Tt I P (fun i => if c then x i else y i) := by
 simpa only [if_pos h] using k
theorem Tt.cnd {ι β : Type} {I : ι → Prop} {P : β → Prop} {b : Bool} {x y : ι → Option β} (h1 : b = true → Tt I P x) (h2 : b = false → Tt I P y) : Tt I P (fun i => bif b then x i else y i) := by
 cases b with
 | true => exact h1 rfl
 | false => exact h2 rfl
theorem Tt.dec {ι β : Type} {I : ι → Prop} {P : β → Prop} {p : Prop} [Decidable p] {x y : ι → Option β} (h1 : p → Tt I P x) (h2 : ¬ p → Tt I P y) : Tt I P (fun i => bif decide p then x i else y i) :=
 Tt.cnd (fun h => h1 (of_decide_eq_true h)) (fun h => h2 (of_decide_eq_false h))
theorem Tt.ndec {ι β : Type} {I : ι → Prop} {P : β → Prop} {p : Prop} [Decidable p] {x y : ι → Option β} (h1 : ¬ p → Tt I P x) (h2 : p → Tt I P y) : Tt I P (fun i => bif !decide p then x i else y i) := by
 by_cases h : p
 ·simpa only [decide_eq_true h, Bool.not_true, cond_false] using h2 h
 ·simpa only [decide_eq_false h, Bool.not_false, cond_true] using h1 h
theorem Tt.con {ι β : Type} {I : ι → Prop} {Q : β → Prop} {t : Option β} (h : ∃ y, t = some y ∧ Q y) : Tt I Q (fun _ => t) := by
 obtain ⟨y, h1, h2⟩ := h
 exact ⟨y, h2, fun _ _ => h1⟩
theorem Tt.mono {ι β : Type} {I J : ι → Prop} {P Q : β → Prop} {e : ι → Option β} (h : Tt I P e) (hI : ∀ i, J i → I i) (hP : ∀ y, P y → Q y) : Tt J Q e := by
 obtain ⟨y, h1, h2⟩ := h
 exact ⟨y, hP y h1, fun i hi => h2 i (hI i hi)⟩
theorem Tt.out {β : Type} {P : β → Prop} {t : Option β} (h : Tt (fun _ : Unit => True) P (fun _ => t)) : ∃ y, t = some y ∧ P y := by
 obtain ⟨y, h1, h2⟩ := h
 exact ⟨y, h2 () trivial, h1⟩
theorem Tt.loop {X Y : Type} (N : Nat → X → Option Y) (Inv : X → Prop) (μ : X → Nat) (Post : X → Y → Prop)
  (step : ∀ x, Inv x → (∀ x', Inv x' → μ x' < μ x → Tt (fun m => μ x ≤ m) (Post x') (fun m => N m x')) → Tt (fun m => μ x ≤ m) (Post x) (fun m => N (m + 1) x)) :
  ∀ x, Inv x → ∃ y, ev (fun n => N n x) = some y ∧ Post x y := by
 have key : ∀ k x, Inv x → μ x ≤ k → Tt (fun m => μ x < m) (Post x) (fun m => N m x) := by
  intro k
  induction k with
  | zero =>
   intro x hi hk
   obtain ⟨y, h1, h2⟩ := step x hi (fun x' _ h => absurd h (by omega))
   refine ⟨y, h1, fun m hm => ?_⟩
   obtain ⟨m, rfl⟩ : ∃ m', m = m' + 1 := ⟨m - 1, by omega⟩
   exact h2 m (by omega)
  | succ k ih =>
   intro x hi hk
   obtain ⟨y, h1, h2⟩ := step x hi (fun x' hx' h => (ih x' hx' (by omega)).mono (fun m hm => by omega) (fun _ h => h))
   refine ⟨y, h1, fun m hm => ?_⟩
   obtain ⟨m, rfl⟩ : ∃ m', m = m' + 1 := ⟨m - 1, by omega⟩
   exact h2 m (by omega)
 intro x hi
 obtain ⟨y, h1, h2⟩ := key (μ x) x hi (Nat.le_refl _)
 exact ⟨y, ev_eq (μ x + 1) (fun m hm => h2 m (by omega)), h1⟩
theorem wq (n : Int) : IntKind.i64.wrap n = (n + 9223372036854775808) % 18446744073709551616 - 9223372036854775808 := by
 unfold IntKind.wrap
 simp [IntKind.signed, IntKind.bits]
 omega
def okC (c : List D) : Prop := c.length ≤ 65536 ∧ ∀ d ∈ c, 0 ≤ d.toInt ∧ d.toInt ≤ 255
theorem uwrap (n : Int) : IntKind.u64.wrap n = n % 18446744073709551616 := by
 unfold IntKind.wrap
 simp [IntKind.signed, IntKind.bits]
theorem and255 (r : Int) : 0 ≤ IntKind.i64.wrap (IntKind.u64.wrap (((BitVec.ofInt IntKind.u64.bits r &&& BitVec.ofInt IntKind.u64.bits 255).toNat : Nat) : Int)) ∧ IntKind.i64.wrap (IntKind.u64.wrap (((BitVec.ofInt IntKind.u64.bits r &&& BitVec.ofInt IntKind.u64.bits 255).toNat : Nat) : Int)) ≤ 255 := by
 have h2 : (BitVec.ofInt IntKind.u64.bits r &&& BitVec.ofInt IntKind.u64.bits 255).toNat ≤ (BitVec.ofInt IntKind.u64.bits 255).toNat := by
  rw [BitVec.toNat_and]; exact Nat.and_le_right
 have h3 : (BitVec.ofInt IntKind.u64.bits 255).toNat = 255 := by decide
 rw [h3] at h2
 rw [uwrap, wq]
 omega
theorem next_tot (c : List D) (h : okC c) (p s : Int) (hp : 0 ≤ p ∧ p ≤ 1099511627776) : ∃ y, Z1 c p s = some y ∧ (0 ≤ y.1 ∧ y.1 ≤ 255 ∧ y.2.1 = c ∧ y.2.2.1 = p + 1) := by
 have hw : IntKind.i64.wrap (p + 1) = p + 1 := wrap_id (by omega) (by omega)
 have a1 := fun r => and255 r
 refine Tt.out ?_
 unfold Z1 c_Z1
 rw [hw]
 by_cases hpl : p < (c.length : Int)
 ·rw [decide_eq_true hpl, cond_true]
  have hd := h.2 _ (getD_mem (show p.toNat < c.length by omega))
  have hv : IntKind.i64.wrap (c.getD p.toNat (D.int 0)).toInt = (c.getD p.toNat (D.int 0)).toInt := wrap_id (by omega) (by omega)
  refine Tt.ite (by omega) ?_
  refine Tt.dec (fun _ => ?_) (fun hn => absurd (show p + 1 ≤ (c.length : Int) by omega) hn)
  refine Tt.pure ?_
  exact ⟨by rw [hv]; exact hd.1, by rw [hv]; exact hd.2, rfl, rfl⟩
 ·rw [decide_eq_false hpl, cond_false]
  refine Tt.dec (fun hn => by exfalso; omega) (fun _ => ?_)
  refine Tt.ite (by decide) ?_
  refine Tt.pure ?_
  exact ⟨(a1 _).1, (a1 _).2, rfl, rfl⟩
attribute [local irreducible] Z1
theorem pick_tot (c : List D) (h : okC c) (p s n : Int) (hp : 0 ≤ p ∧ p ≤ 1099511627770) (hn : n ≤ 65536) : ∃ y, Z2 c p s n = some y ∧ (0 ≤ y.1 ∧ (y.1 < n ∨ y.1 = 0) ∧ y.2.1 = c ∧ p ≤ y.2.2.1 ∧ y.2.2.1 ≤ p + 2) := by
 refine Tt.out ?_
 unfold Z2 c_Z2
 refine Tt.dec (fun _ => ?_) (fun hn1 => ?_)
 ·refine Tt.pure ?_
  exact ⟨by simp, .inr rfl, rfl, by simp, by simp only; omega⟩
 ·refine Tt.bind (Tt.con (next_tot c h p s (by omega))) (fun v hv => ?_)
  obtain ⟨v1, v2, v3, v4⟩ := hv
  rw [v3, v4]
  refine Tt.dec (fun _ => ?_) (fun _ => ?_)
  ·refine Tt.bind (Tt.con (next_tot c h (p + 1) _ (by omega))) (fun w hw => ?_)
   obtain ⟨w1, w2, w3, w4⟩ := hw
   refine Tt.ite (by omega) ?_
   have hq : IntKind.i64.wrap (IntKind.i64.wrap (v.1 * 256) + w.1) = v.1 * 256 + w.1 := by
    rw [wrap_id (n := v.1 * 256) (by omega) (by omega), wrap_id (by omega) (by omega)]
   have hm : (v.1 * 256 + w.1).tmod n = (v.1 * 256 + w.1) % n := Int.tmod_eq_emod_of_nonneg (by omega)
   have m1 := Int.emod_nonneg (v.1 * 256 + w.1) (show n ≠ 0 by omega)
   have m2 := Int.emod_lt_of_pos (v.1 * 256 + w.1) (show 0 < n by omega)
   refine Tt.pure ?_
   exact ⟨by simp only; rw [hq, hm]; exact m1, .inl (by simp only; rw [hq, hm]; exact m2), w3, by simp only; omega, by simp only; omega⟩
  ·refine Tt.ite (by omega) ?_
   have hm : v.1.tmod n = v.1 % n := Int.tmod_eq_emod_of_nonneg v1
   have m1 := Int.emod_nonneg v.1 (show n ≠ 0 by omega)
   have m2 := Int.emod_lt_of_pos v.1 (show 0 < n by omega)
   refine Tt.pure ?_
   exact ⟨by simp only; rw [hm]; exact m1, .inl (by simp only; rw [hm]; exact m2), rfl, by simp only; omega, by simp only; omega⟩
attribute [local irreducible] Z2
theorem among_tot (c : List D) (h : okC c) (p s : Int) (l : List D) (hp : 0 ≤ p ∧ p ≤ 1099511627770) (hl : 1 ≤ l.length ∧ l.length ≤ 65536) : ∃ y, Z3 c p s l = some y ∧ ((∃ d ∈ l, y.1 = d.toInt) ∧ y.2.1 = c ∧ p ≤ y.2.2.1 ∧ y.2.2.1 ≤ p + 2) := by
 refine Tt.out ?_
 unfold Z3 c_Z3
 refine Tt.bind (Tt.con (pick_tot c h p s _ hp (by omega))) (fun v hv => ?_)
 refine Tt.ite (by omega) ?_
 refine Tt.ite (by omega) ?_
 refine Tt.pure ?_
 exact ⟨⟨_, getD_mem (show v.1.toNat < l.length by omega), rfl⟩, hv.2.2.1, hv.2.2.2.1, hv.2.2.2.2⟩
attribute [local irreducible] Z3
theorem okB {d : D} (h : wfD (.int .u8) d) : 0 ≤ d.toInt ∧ d.toInt ≤ 255 := by
 obtain ⟨n, rfl, h2⟩ := h
 simp [Lit.wf, IntKind.min, IntKind.max, IntKind.signed, IntKind.bits] at h2
 simp only [toInt_int]; omega
theorem pick_tot' (c : List D) (h : okC c) (p s n : Int) (hp : 0 ≤ p ∧ p ≤ 1099511627770) (hn : n ≤ 65536) : ∃ y, Z2 c p s n = some y ∧ ((0 ≤ y.1 ∧ (y.1 < n ∨ y.1 = 0)) ∧ y.2.1 = c ∧ p ≤ y.2.2.1 ∧ y.2.2.1 ≤ p + 2) := by
 obtain ⟨y, h1, h2, h3, h4⟩ := pick_tot c h p s n hp hn
 exact ⟨y, h1, ⟨h2, h3⟩, h4⟩
def iw (l : List D) : List Int := l.map D.toInt
theorem iw_len (l : List D) : (iw l).length = l.length := by simp [iw]
theorem iw_get (l : List D) (i : Nat) : (l.getD i (.int 0)).toInt = (iw l).getD i 0 := by
 simp only [iw, List.getD_eq_getElem?_getD, List.getElem?_map]
 cases l[i]? <;> rfl
theorem iw_mem {l : List D} {x : Int} (h : x ∈ iw l) : ∃ d ∈ l, d.toInt = x := by simpa [iw] using h
def bdL (B : Int) (l : List D) : Prop := (∀ d ∈ l, 0 ≤ d.toInt ∧ d.toInt ≤ B) ∧ (l.length : Int) * B ≤ 1000000000000000000
def pf (l : List D) (i : Nat) : Int := ((iw l).take i).sum
theorem pf_zero (l : List D) : pf l 0 = 0 := by simp [pf]
theorem pf_succ {l : List D} {i : Nat} (h : i < l.length) : pf l (i + 1) = pf l i + (l.getD i (.int 0)).toInt := by
 unfold pf
 have h' : i < (iw l).length := by rw [iw_len]; exact h
 rw [List.take_succ_eq_append_getElem h', List.sum_append, iw_get, List.getD_eq_getElem?_getD, List.getElem?_eq_getElem h']
 simp
theorem pf_all (l : List D) : pf l l.length = (iw l).sum := by
 unfold pf
 rw [List.take_of_length_le (by rw [iw_len]; exact Nat.le_refl _)]
theorem pf_bd {B : Int} {l : List D} (h : bdL B l) (hB : 0 ≤ B) : ∀ i, i ≤ l.length → 0 ≤ pf l i ∧ pf l i ≤ (i : Int) * B
 | 0, _ => by rw [pf_zero]; simp
 | i + 1, hi => by
  have ih := pf_bd h hB i (by omega)
  have hm := h.1 _ (getD_mem (show i < l.length by omega))
  rw [pf_succ (by omega)]
  have : ((i + 1 : Nat) : Int) * B = (i : Int) * B + B := by rw [Int.natCast_add, Int.add_mul]; simp
  omega
theorem pf_mono {B : Int} {l : List D} (h : bdL B l) : ∀ {i j : Nat}, i ≤ j → j ≤ l.length → pf l i ≤ pf l j := by
 intro i j hij
 induction j with
 | zero => intro _; rw [show i = 0 by omega]; exact Int.le_refl _
 | succ j ih =>
  intro hj
  by_cases he : i = j + 1
  ·subst he; exact Int.le_refl _
  ·have := ih (by omega) (by omega)
   have hm := h.1 _ (getD_mem (show j < l.length by omega))
   rw [pf_succ (by omega)]
   omega
theorem mulN {n B : Int} {i : Nat} (hi : (i : Int) ≤ n) (hB : 0 ≤ B) (h : n * B ≤ 1000000000000000000) : (i : Int) * B ≤ 1000000000000000000 := by
 have := Int.mul_le_mul_of_nonneg_right hi hB
 omega
theorem sumS_eq {B : Int} {l : List D} (h : bdL B l) (hB : 0 ≤ B) (hl : l.length ≤ 1048576) : Z61 l = some (pf l l.length) := by
 have key : ∀ (k i : Nat), i + k = l.length → Z60 l (pf l i) i = some (pf l l.length) := by
  intro k
  induction k with
  | zero =>
   intro i hi
   rw [Z60_fx]
   unfold c_Z60
   rw [decide_eq_false (by omega), cond_false, show i = l.length by omega]
  | succ k ih =>
   intro i hi
   have hb := pf_bd h hB (i + 1) (by omega)
   have hn := mulN (i := i + 1) (by omega) hB h.2
   have e := pf_succ (l := l) (i := i) (by omega)
   rw [Z60_fx]
   unfold c_Z60
   rw [decide_eq_true (by omega), cond_true, if_pos (by omega), Int.toNat_natCast, ← e, wrap_id (by omega) (by omega), succ_wrap (by omega), ih (i + 1) (by omega)]
   rfl
 have := key l.length 0 (by omega)
 rw [pf_zero, show ((0 : Nat) : Int) = 0 from rfl] at this
 simp only [Z61, c_Z61, this, Option.bind_some]
theorem sumI_eq {B : Int} {l : List D} (h : bdL B l) (hB : 0 ≤ B) (hl : l.length ≤ 1048576) : Z55 l = some (pf l l.length) := by
 have key : ∀ (k i : Nat), i + k = l.length → Z54 (pf l i) l l.length i = some (pf l l.length) := by
  intro k
  induction k with
  | zero =>
   intro i hi
   rw [Z54_fx]
   unfold c_Z54
   rw [decide_eq_false (by omega), cond_false, show i = l.length by omega]
  | succ k ih =>
   intro i hi
   have hb := pf_bd h hB (i + 1) (by omega)
   have hn := mulN (i := i + 1) (by omega) hB h.2
   have e := pf_succ (l := l) (i := i) (by omega)
   rw [Z54_fx]
   unfold c_Z54
   rw [decide_eq_true (by omega), cond_true, if_pos (by omega), Int.toNat_natCast, ← e, wrap_id (by omega) (by omega), succ_wrap (by omega), ih (i + 1) (by omega)]
   rfl
 have := key l.length 0 (by omega)
 rw [pf_zero, show ((0 : Nat) : Int) = 0 from rfl] at this
 simp only [Z55, c_Z55, this, Option.bind_some]
theorem gcdS_eq : ∀ (b a : Nat), Z8 (a : Int) (b : Int) = some ((Nat.gcd a b : Nat) : Int) := by
 intro b
 induction b using Nat.strongRecOn with
 | _ b ih =>
  intro a
  rw [Z8_fx]
  unfold c_Z8
  by_cases h : b = 0
  ·subst h
   simp
  ·have h1 : ¬ (b : Int) = 0 := by omega
   rw [decide_eq_false h1, Bool.not_false, cond_true, if_pos h1, tmod_nat, ih (a % b) (Nat.mod_lt _ (by omega)) b]
   simp only [Option.bind_some]
   rw [Nat.gcd_comm a b, Nat.gcd_rec b a, Nat.gcd_comm (a % b) b]
theorem gcdI_eq : ∀ (b a : Nat), Z28 (a : Int) (b : Int) = some ((Nat.gcd a b : Nat) : Int) := by
 intro b
 induction b using Nat.strongRecOn with
 | _ b ih =>
  intro a
  rw [Z28_fx]
  unfold c_Z28
  by_cases h : b = 0
  ·subst h
   simp
  ·have h1 : ¬ (b : Int) = 0 := by omega
   rw [decide_eq_false h1, Bool.not_false, cond_true, if_pos h1, tmod_nat, ih (a % b) (Nat.mod_lt _ (by omega)) b]
   simp only [Option.bind_some]
   rw [Nat.gcd_comm a b, Nat.gcd_rec b a, Nat.gcd_comm (a % b) b]
theorem gS (a b : Nat) : Z9 (a : Int) (b : Int) = some ((Nat.gcd a b : Nat) : Int) := by
 simp only [Z9, c_Z9, gcdS_eq, Option.bind_some]
theorem gI (a b : Nat) : Z29 (a : Int) (b : Int) = some ((Nat.gcd a b : Nat) : Int) := by
 simp only [Z29, c_Z29, gcdI_eq, Option.bind_some]
def wt (l : List D) (i : Nat) : Nat := (l.getD i (.int 0)).toInt.toNat
def gp (l : List D) : Nat → Nat
 | 0 => 0
 | i + 1 => Nat.gcd (gp l i) (wt l i)
theorem wt_int {l : List D} {i : Nat} (h : ∀ d ∈ l, 0 ≤ d.toInt) (hi : i < l.length) : (l.getD i (.int 0)).toInt = ((wt l i : Nat) : Int) := by
 have := h _ (getD_mem hi)
 unfold wt
 omega
theorem divI_eq {l : List D} (h : ∀ d ∈ l, 0 ≤ d.toInt) (hl : l.length ≤ 1048576) : Z31 l = some ((gp l l.length : Nat) : Int) := by
 have key : ∀ (k i : Nat), i + k = l.length → Z30 ((gp l i : Nat) : Int) l l.length i = some ((gp l l.length : Nat) : Int) := by
  intro k
  induction k with
  | zero =>
   intro i hi
   rw [Z30_fx]
   unfold c_Z30
   rw [decide_eq_false (by omega), cond_false, show i = l.length by omega]
  | succ k ih =>
   intro i hi
   rw [Z30_fx]
   unfold c_Z30
   rw [decide_eq_true (by omega), cond_true, if_pos (by omega), Int.toNat_natCast, wt_int h (by omega), gI, succ_wrap (by omega)]
   simp only [Option.bind_some]
   rw [show Nat.gcd (gp l i) (wt l i) = gp l (i + 1) from rfl, ih (i + 1) (by omega)]
   rfl
 have := key l.length 0 (by omega)
 rw [show ((gp l 0 : Nat) : Int) = 0 from rfl, show ((0 : Nat) : Int) = 0 from rfl] at this
 simp only [Z31, c_Z31, this, Option.bind_some]
def badW (l : List D) (i : Nat) : Bool := !btw (l.getD i (.int 0)).toInt 0 1000000
def okW (l : List D) : Bool := (firstN (badW l) l.length).isNone
theorem okW_iff {l : List D} : okW l = true ↔ ∀ d ∈ l, 0 ≤ d.toInt ∧ d.toInt ≤ 1000000 := by
 unfold okW
 constructor
 ·intro h d hd
  obtain ⟨i, hi, rfl⟩ := List.mem_iff_getElem.1 hd
  have hn : firstN (badW l) l.length = none := by cases hq : firstN (badW l) l.length with | none => rfl | some _ => rw [hq] at h; cases h
  have := firstN_none hn i hi
  unfold badW at this
  rw [Bool.not_eq_false', btw_iff, List.getD_eq_getElem?_getD, List.getElem?_eq_getElem hi] at this
  exact this
 ·intro h
  cases hf : firstN (badW l) l.length with
  | none => rfl
  | some i =>
   obtain ⟨h1, h2, _⟩ := firstN_some hf
   have := h _ (getD_mem h1)
   unfold badW at h2
   rw [Bool.not_eq_true', ← Bool.not_eq_true, btw_iff] at h2
   exact absurd this h2
theorem good6 {l : List D} (hl : l.length ≤ 60) (f : Int) : Z13 l.length 0 0 f l = some (bif okW l then .inr ((gp l l.length : Nat) : Int) else .inl (false, (Z13 l.length 0 0 f l).elim 0 (Sum.elim (·.2) (fun _ => 0)))) := by
 have key : ∀ (k i : Nat), i + k = l.length → (∀ j, j < i → badW l j = false) → ∃ y, Z13 l.length ((gp l i : Nat) : Int) i f l = some y ∧ (okW l = true → y = .inr ((gp l l.length : Nat) : Int)) ∧ (okW l = false → ∃ z, y = .inl (false, z)) := by
  intro k
  induction k with
  | zero =>
   intro i hi hp
   rw [Z13_fx]
   unfold c_Z13
   rw [decide_eq_false (by omega), cond_false]
   refine ⟨_, rfl, fun _ => by rw [show i = l.length by omega], fun h => ?_⟩
   exfalso
   unfold okW at h
   cases hf : firstN (badW l) l.length with
   | none => rw [hf] at h; cases h
   | some j =>
    obtain ⟨h1, h2, _⟩ := firstN_some hf
    rw [hp j (by omega)] at h2; cases h2
  | succ k ih =>
   intro i hi hp
   rw [Z13_fx]
   unfold c_Z13
   rw [decide_eq_true (by omega), cond_true, if_pos (by omega), if_pos (by omega), Int.toNat_natCast, l1In_eq]
   simp only [Option.bind_some]
   cases hb : btw (l.getD i (.int 0)).toInt 0 1000000 with
   | false =>
    refine ⟨_, rfl, fun h => ?_, fun _ => ⟨_, rfl⟩⟩
    exfalso
    have := okW_iff.1 h _ (getD_mem (show i < l.length by omega))
    rw [← btw_iff, hb] at this; cases this
   | true =>
    have hbb := btw_iff.1 hb
    have hw : (l.getD i (.int 0)).toInt = ((wt l i : Nat) : Int) := by unfold wt; omega
    rw [hw, gS, succ_wrap (by omega)]
    simp only [Bool.not_true, cond_false, Option.bind_some, Option.bind_fun_some]
    exact ih (i + 1) (by omega) (fun j hj => by
     by_cases hji : j = i
     ·subst hji; unfold badW; rw [hb]; rfl
     ·exact hp j (by omega))
 obtain ⟨y, y1, y2, y3⟩ := key l.length 0 (by omega) (fun j hj => by omega)
 rw [show ((gp l 0 : Nat) : Int) = 0 from rfl, show ((0 : Nat) : Int) = 0 from rfl] at y1
 cases ho : okW l with
 | true => rw [y1, y2 ho]; rfl
 | false =>
  obtain ⟨z, rfl⟩ := y3 ho
  rw [y1]; rfl
theorem contW {l : List D} (hl : l.length ≤ 60) : Z27 l = some (!okW l) := by
 have : Z25 l l.length 0 = some (match firstN (badW l) l.length with | some i => .inl (i : Int) | none => .inr ()) := by
  refine scan_loop (N := fun m i => n_Z25 m l l.length i) _ (fun i => .inl (i : Int)) (fun m i hi => ?_) (fun m => ?_)
  ·show c_Z25 (n_Z25 m) l l.length i some = _
   unfold c_Z25
   rw [decide_eq_true (by omega), cond_true, if_pos (by omega), Int.toNat_natCast, wrap_id (by omega) (by omega)]
   simp only [Z24, c_Z24, within_eq, Option.bind_some, Option.bind_fun_some]
   rfl
  ·show c_Z25 (n_Z25 m) l l.length l.length some = _
   unfold c_Z25
   rw [decide_eq_false (by omega)]; rfl
 simp only [Z27, c_Z27, Z26, c_Z26, this, Option.bind_some]
 unfold okW
 cases firstN (badW l) l.length <;> simp
structure GoodD (f : Int) (l : List D) : Prop where
 n1 : 1 ≤ l.length
 n60 : l.length ≤ 60
 f1 : -20000 ≤ f
 f2 : f + l.length ≤ 2101
 ok : ∀ d ∈ l, 0 ≤ d.toInt ∧ d.toInt ≤ 1000000
 w0 : 0 < (l.getD 0 (.int 0)).toInt
 wn : 0 < (l.getD (l.length - 1) (.int 0)).toInt
 g : gp l l.length = 1
def goodB (f : Int) (l : List D) : Bool :=
 btw l.length 1 60 && (btw f (-20000) (2101 - l.length) && (decide (0 < (l.getD 0 (.int 0)).toInt) && (decide (0 < (l.getD (l.length - 1) (.int 0)).toInt) && (okW l && decide (gp l l.length = 1)))))
theorem goodB_iff {f : Int} {l : List D} : goodB f l = true ↔ GoodD f l := by
 unfold goodB
 simp only [Bool.and_eq_true, btw_iff, decide_eq_true_eq, okW_iff]
 constructor
 ·rintro ⟨⟨h1, h2⟩, ⟨h3, h4⟩, h5, h6, h7, h8⟩
  exact ⟨by omega, by omega, h3, by omega, h7, h5, h6, h8⟩
 ·rintro ⟨h1, h2, h3, h4, h5, h6, h7, h8⟩
  exact ⟨⟨by omega, by omega⟩, ⟨h3, by omega⟩, h6, h7, h5, h8⟩
theorem goodS (f : Int) (l : List D) (hl : l.length ≤ 1048576) : Z14 f l = some (goodB f l) := by
 simp only [Z14, c_Z14, l1In_eq, Option.bind_some]
 unfold goodB
 cases hb : btw (l.length : Int) 1 60 with
 | false => simp
 | true =>
  have hbb := btw_iff.1 hb
  have hw : IntKind.i64.wrap (IntKind.i64.wrap (2100 - (l.length : Int)) + 1) = 2101 - l.length := by
   rw [wrap_id (n := 2100 - (l.length : Int)) (by omega) (by omega), wrap_id (by omega) (by omega)]; omega
  rw [hw, pred_wrap (by omega) (by omega)]
  simp only [Bool.not_true, cond_false, Bool.true_and]
  cases hf : btw f (-20000) (2101 - (l.length : Int)) with
  | false => simp
  | true =>
   simp only [Bool.not_true, cond_false, Bool.true_and, Int.toNat_zero, Int.toNat_natCast]
   rw [if_pos (by omega), if_pos (by omega)]
   by_cases h0 : 0 < (l.getD 0 (.int 0)).toInt
   ·rw [decide_eq_false (show ¬ (l.getD 0 (D.int 0)).toInt ≤ 0 by omega), cond_false, decide_eq_true h0, Bool.true_and]
    by_cases hn : 0 < (l.getD (l.length - 1) (.int 0)).toInt
    ·rw [decide_eq_false (show ¬ (l.getD (l.length - 1) (D.int 0)).toInt ≤ 0 by omega), cond_false, decide_eq_true hn, Bool.true_and, good6 (by omega)]
     cases okW l with
     | false => rfl
     | true =>
      simp only [cond_true, Option.bind_some, Sum.elim_inr, Bool.true_and, Option.some.injEq]
      by_cases hg : gp l l.length = 1
      ·rw [hg]; rfl
      ·rw [decide_eq_false hg, decide_eq_false (by omega)]
    ·rw [decide_eq_true (show (l.getD (l.length - 1) (D.int 0)).toInt ≤ 0 by omega), cond_true, decide_eq_false hn]; rfl
   ·rw [decide_eq_true (show (l.getD 0 (D.int 0)).toInt ≤ 0 by omega), cond_true, decide_eq_false h0]; rfl
theorem goodI (f : Int) (l : List D) (hl : l.length ≤ 1048576) : Z32 f l = some (goodB f l) := by
 simp only [Z32, c_Z32, Z22, c_Z22, Z23, c_Z23, within_eq, Option.bind_some]
 unfold goodB
 cases hb : btw (l.length : Int) 1 60 with
 | false =>
  by_cases h1 : (l.length : Int) < 1
  ·simp [h1]
  ·have h2 : (60 : Int) < l.length := by
    have : ¬ (1 ≤ (l.length : Int) ∧ (l.length : Int) ≤ 60) := by rw [← btw_iff, hb]; simp
    omega
   simp [h1, h2]
 | true =>
  have hbb := btw_iff.1 hb
  rw [decide_eq_false (by omega), cond_false, decide_eq_false (by omega), cond_false, pred_wrap (by omega) (by omega)]
  simp only [Bool.true_and]
  cases hf : btw f (-20000) 2100 with
  | false =>
   have : btw f (-20000) (2101 - (l.length : Int)) = false := by
    cases hq : btw f (-20000) (2101 - (l.length : Int)) with
    | false => rfl
    | true => rw [btw_iff] at hq; have : btw f (-20000) 2100 = true := btw_iff.2 ⟨by omega, by omega⟩; rw [hf] at this; cases this
   rw [this]; rfl
  | true =>
   have hff := btw_iff.1 hf
   rw [wrap_id (n := f + (l.length : Int)) (by omega) (by omega), wrap_id (n := f + (l.length : Int) - 1) (by omega) (by omega)]
   have hsame : btw (f + (l.length : Int) - 1) (-20000) 2100 = btw f (-20000) (2101 - (l.length : Int)) := by
    rw [Bool.eq_iff_iff, btw_iff, btw_iff]; omega
   rw [hsame]
   simp only [Bool.not_true, cond_false]
   cases hl2 : btw f (-20000) (2101 - (l.length : Int)) with
   | false => rfl
   | true =>
    simp only [Bool.not_true, cond_false, Bool.true_and, contW (show l.length ≤ 60 by omega), Option.bind_some, Int.toNat_zero, Int.toNat_natCast]
    cases ho : okW l with
    | false => simp
    | true =>
     simp only [Bool.not_true, cond_false, Bool.true_and]
     rw [if_pos (by omega), if_pos (by omega)]
     by_cases h0 : 0 < (l.getD 0 (.int 0)).toInt
     ·rw [decide_eq_true h0, cond_true]
      by_cases hn : 0 < (l.getD (l.length - 1) (.int 0)).toInt
      ·rw [decide_eq_true hn, cond_true, divI_eq (fun d hd => (okW_iff.1 ho d hd).1) (by omega)]
       simp only [Option.bind_some, Bool.true_and, Option.some.injEq]
       by_cases hg : gp l l.length = 1
       ·rw [hg]; rfl
       ·rw [decide_eq_false hg, decide_eq_false (by omega)]
      ·rw [decide_eq_false hn, cond_false]; rfl
     ·rw [decide_eq_false h0, cond_false]; rfl
theorem GoodD.bd {f : Int} {l : List D} (h : GoodD f l) : bdL 1000000 l := ⟨h.ok, by have := h.n60; omega⟩
def nnL (l : List D) : Prop := (∀ d ∈ l, 0 ≤ d.toInt) ∧ l.length ≤ 400 ∧ ∀ d ∈ l, d.toInt ≤ 1000000000000000
theorem make3 (b a1 a2 : Int) {l : List D} (h : nnL l) : ∀ (k i : Nat), i + k = l.length → ∃ j, i ≤ j ∧ j ≤ l.length ∧ (∀ t, i ≤ t → t < j → wt l t = 0) ∧ (j < l.length → wt l j ≠ 0) ∧ Z6 b l i l.length a1 a2 = some (b, l, (j : Int), (l.length : Int), a1, a2)
 | 0, i, hk => by
  refine ⟨i, Nat.le_refl _, by omega, fun t _ _ => by omega, fun _ => by omega, ?_⟩
  rw [Z6_fx]
  unfold c_Z6
  rw [decide_eq_false (by omega)]; rfl
 | k + 1, i, hk => by
  have h400 := h.2.1
  rw [Z6_fx]
  unfold c_Z6
  rw [decide_eq_true (by omega), cond_true, if_pos (by omega), Int.toNat_natCast, wt_int h.1 (by omega)]
  by_cases hz : wt l i = 0
  ·obtain ⟨j, j1, j2, j3, j4, j5⟩ := make3 b a1 a2 h k (i + 1) (by omega)
   refine ⟨j, by omega, j2, fun t t1 t2 => ?_, j4, ?_⟩
   ·by_cases hti : t = i
    ·rw [hti]; exact hz
    ·exact j3 t (by omega) t2
   ·rw [decide_eq_true (by omega), cond_true, succ_wrap (by omega), j5]; rfl
  ·exact ⟨i, Nat.le_refl _, by omega, fun t _ _ => by omega, fun _ => hz, by rw [decide_eq_false (by omega)]; rfl⟩
theorem make5 (b a1 a2 : Int) {l : List D} (h : nnL l) (fr : Nat) : ∀ (k t : Nat), t ≤ k + fr → fr ≤ t → t ≤ l.length → ∃ j, fr ≤ j ∧ j ≤ t ∧ (∀ u, j ≤ u → u < t → wt l u = 0) ∧ (fr < j → wt l (j - 1) ≠ 0) ∧ Z7 b l fr t a1 a2 = some (b, l, (fr : Int), (j : Int), a1, a2)
 | 0, t, hk, h1, h2 => by
  refine ⟨t, h1, Nat.le_refl _, fun u _ _ => by omega, fun _ => by omega, ?_⟩
  rw [Z7_fx]
  unfold c_Z7
  rw [decide_eq_false (by omega)]; rfl
 | k + 1, t, hk, h1, h2 => by
  have h400 := h.2.1
  rw [Z7_fx]
  unfold c_Z7
  by_cases hlt : fr < t
  ·rw [decide_eq_true (by omega), cond_true, pred_wrap (by omega) (by omega), if_pos (by omega), Int.toNat_natCast, wt_int h.1 (by omega)]
   by_cases hz : wt l (t - 1) = 0
   ·obtain ⟨j, j1, j2, j3, j4, j5⟩ := make5 b a1 a2 h fr k (t - 1) (by omega) (by omega) (by omega)
    refine ⟨j, j1, by omega, fun u u1 u2 => ?_, j4, ?_⟩
    ·by_cases hut : u = t - 1
     ·rw [hut]; exact hz
     ·exact j3 u u1 (by omega)
    ·rw [decide_eq_true (by omega), cond_true, j5]; rfl
   ·exact ⟨t, h1, Nat.le_refl _, fun u _ _ => by omega, fun _ => hz, by rw [decide_eq_false (by omega)]; rfl⟩
  ·exact ⟨t, h1, Nat.le_refl _, fun u _ _ => by omega, fun _ => by omega, by rw [decide_eq_false (by omega)]; rfl⟩
def gq (l : List D) (fr : Nat) : Nat → Nat
 | 0 => 0
 | k + 1 => Nat.gcd (gq l fr k) (wt l (fr + k))
theorem make9 (b a1 a2 : Int) {l : List D} (h : nnL l) (fr t : Nat) (ht : t ≤ l.length) : ∀ (k i : Nat), fr + i + k = t → Z10 b l fr t ((gq l fr i : Nat) : Int) ((fr + i : Nat) : Int) a1 a2 = some (b, l, (fr : Int), (t : Int), ((gq l fr (t - fr) : Nat) : Int), a1, a2)
 | 0, i, hk => by
  rw [Z10_fx]
  unfold c_Z10
  rw [decide_eq_false (by omega), cond_false, show t - fr = i by omega]
 | k + 1, i, hk => by
  have h400 := h.2.1
  rw [Z10_fx]
  unfold c_Z10
  rw [decide_eq_true (by omega), cond_true, if_pos (by omega), Int.toNat_natCast, wt_int h.1 (by omega), gS, succ_wrap (by omega)]
  simp only [Option.bind_some, Option.bind_fun_some]
  rw [show Nat.gcd (gq l fr i) (wt l (fr + i)) = gq l fr (i + 1) from rfl, show fr + i + 1 = fr + (i + 1) by omega]
  exact make9 b a1 a2 h fr t ht k (i + 1) (by omega)
theorem gq_ne {l : List D} {fr : Nat} : ∀ {k : Nat}, (∃ i, i < k ∧ wt l (fr + i) ≠ 0) → gq l fr k ≠ 0
 | 0, ⟨i, hi, _⟩ => by omega
 | k + 1, ⟨i, hi, hw⟩ => by
  intro h0
  have := Nat.gcd_eq_zero_iff.1 (show Nat.gcd (gq l fr k) (wt l (fr + k)) = 0 from h0)
  by_cases hik : i = k
  ·subst hik; exact hw this.2
  ·exact gq_ne ⟨i, by omega, hw⟩ this.1
theorem make16 (a1 a2 a3 : Int) {l : List D} (h : nnL l) (d : Nat) (hd : d ≠ 0) (t : Nat) (ht : t ≤ l.length) : ∀ (k i : Nat) (acc : List D), i + k = t → acc.length ≤ i → Z11 l t d i a1 a2 a3 acc = some (a1, a2, a3, acc ++ ((l.drop i).take k).map (fun x => D.int (x.toInt.tdiv (d : Int))))
 | 0, i, acc, hk, ha => by
  rw [Z11_fx]
  unfold c_Z11
  rw [decide_eq_false (by omega)]; simp
 | k + 1, i, acc, hk, ha => by
  have h400 := h.2.1
  have hlt : i < l.length := by omega
  rw [Z11_fx]
  unfold c_Z11
  rw [decide_eq_true (by omega), cond_true, if_pos (by omega), if_pos (by omega), if_pos (by simp only [List.length_cons, List.length_nil]; omega), Int.toNat_natCast, succ_wrap (by omega)]
  have hcut : (l.drop i).take (k + 1) = l.getD i (.int 0) :: (l.drop (i + 1)).take k := by
   rw [List.getD_eq_getElem?_getD, drop_cons hlt, List.take_succ_cons]
  have hx := h.1 _ (getD_mem hlt)
  rw [hcut, List.map_cons]
  have hbig := h.2.2 _ (getD_mem hlt)
  rw [wrap_id (n := (l.getD i (D.int 0)).toInt.tdiv (d : Int)) (by rw [Int.tdiv_eq_ediv_of_nonneg hx]; have := Int.ediv_nonneg hx (show (0 : Int) ≤ (d : Int) by omega); omega) (by rw [Int.tdiv_eq_ediv_of_nonneg hx]; have := Int.ediv_le_self (d : Int) hx; omega)]
  rw [make16 a1 a2 a3 h d hd t ht k (i + 1) _ (by omega) (by simp only [List.length_append, List.length_cons, List.length_nil]; omega)]
  simp
def outL (l : List D) (fr t : Nat) : List D := ((l.drop fr).take (t - fr)).map (fun x => D.int (x.toInt.tdiv ((gq l fr (t - fr) : Nat) : Int)))
theorem outL_len {l : List D} {fr t : Nat} (h : fr ≤ t) (ht : t ≤ l.length) : (outL l fr t).length = t - fr := by
 simp only [outL, List.length_map, List.length_take, List.length_drop]; omega
structure Cut (l : List D) (fr t : Nat) : Prop where
 le : fr ≤ t
 len : t ≤ l.length
 lo : ∀ u, u < fr → wt l u = 0
 hi : ∀ u, t ≤ u → u < l.length → wt l u = 0
 fr0 : fr < t → wt l fr ≠ 0
 t0 : fr < t → wt l (t - 1) ≠ 0
theorem make_eq (f : Int) {l : List D} (h : nnL l) : ∃ fr t, Cut l fr t ∧
  Z15 f l = some (bif decide (fr = t) then (0, [], false) else bif goodB (IntKind.i64.wrap (f + (fr : Int))) (outL l fr t) then (IntKind.i64.wrap (f + (fr : Int)), outL l fr t, true) else (0, [], false)) := by
 have h400 := h.2.1
 obtain ⟨fr, e1, e2, e3, e4, e5⟩ := make3 f 0 0 h l.length 0 (by omega)
 obtain ⟨t, g1, g2, g3, g4, g5⟩ := make5 f 0 0 h fr l.length l.length (by omega) e2 (Nat.le_refl _)
 have g9 := make9 f 0 0 h fr t g2 (t - fr) 0 (by omega)
 rw [show ((gq l fr 0 : Nat) : Int) = 0 from rfl, Nat.add_zero] at g9
 rw [show ((0 : Nat) : Int) = 0 from rfl] at e5
 refine ⟨fr, t, ⟨g1, g2, fun u hu => e3 u (by omega) hu, fun u h1 h2 => g3 u h1 h2, fun hlt => e4 (by omega), g4⟩, ?_⟩
 simp only [Z15, c_Z15, e5, Option.bind_some, g5, g9]
 by_cases hft : fr = t
 ·rw [decide_eq_true (show (fr : Int) = (t : Int) by omega), cond_true, decide_eq_true hft, cond_true]
 ·rw [decide_eq_false (show ¬ (fr : Int) = (t : Int) by omega), cond_false, decide_eq_false hft, cond_false]
  have hne : gq l fr (t - fr) ≠ 0 := gq_ne ⟨0, by omega, by rw [Nat.add_zero]; exact e4 (by omega)⟩
  have g16 := make16 0 0 (IntKind.i64.wrap (f + (fr : Int))) h (gq l fr (t - fr)) hne t g2 (t - fr) fr [] (by omega) (by simp)
  rw [List.nil_append, show List.map (fun x => D.int (x.toInt.tdiv ((gq l fr (t - fr) : Nat) : Int))) (List.take (t - fr) (List.drop fr l)) = outL l fr t from rfl] at g16
  simp only [g16, Option.bind_some]
  rw [goodS _ _ (by rw [outL_len g1 g2]; omega)]
  simp only [Option.bind_some]
  cases goodB (IntKind.i64.wrap (f + (fr : Int))) (outL l fr t) <;> rfl
theorem make_len (f : Int) {l : List D} (h : nnL l) : ∃ y, Z15 f l = some y ∧ y.2.1.length ≤ l.length := by
 obtain ⟨fr, t, hc, he⟩ := make_eq f h
 refine ⟨_, he, ?_⟩
 cases decide (fr = t) with
 | true => simp
 | false =>
  rw [cond_false]
  cases goodB (IntKind.i64.wrap (f + (fr : Int))) (outL l fr t) with
  | false => simp
  | true => rw [cond_true]; simp only; rw [outL_len hc.le hc.len]; have := hc.len; omega
theorem near10_tot (c : List D) (hc : okC c) (p s : Int) (hp : 0 ≤ p ∧ p ≤ 1099511627000) : ∃ y, Z4 c p s = some y ∧ (True ∧ y.2.1 = c ∧ p ≤ y.2.2.1 ∧ y.2.2.1 ≤ p + 2) := by
 refine Tt.out ?_
 unfold Z4 c_Z4
 (refine Tt.bind (Tt.con (among_tot _ hc _ _ _ (by omega) (by simp))) ?_; rintro ⟨v, c', p', s'⟩ ⟨hv, rfl, hp1, hp2⟩; dsimp only at hv hp1 hp2 ⊢)
 exact Tt.pure ⟨trivial, rfl, by simp only; omega, by simp only; omega⟩
theorem distr3_tot (c : List D) (hc : okC c) (x0 x5 : Int) : ∀ (k : Nat) (n p s : Int) (l : List D), n.toNat ≤ k → n ≤ 100 → 0 ≤ p → p + 10 * k ≤ 1099511620000 → l.length + k ≤ 300 → (∀ d ∈ l, 0 ≤ d.toInt ∧ d.toInt ≤ 10) →
  ∃ y, Z5 x0 n c p s x5 l = some y ∧ ((y.1 = x0 ∧ y.2.2.2.2.2.length ≤ l.length + k ∧ ∀ d ∈ y.2.2.2.2.2, 0 ≤ d.toInt ∧ d.toInt ≤ 10) ∧ y.2.1 = c ∧ p ≤ y.2.2.1 ∧ y.2.2.1 ≤ p + 10 * k)
 | k, n, p, s, l, hk, hn, hp0, hp, hl, hd => by
  rw [Z5_fx]
  refine Tt.out ?_
  unfold c_Z5
  refine Tt.dec (fun hlt => ?_) (fun hlt => Tt.pure ⟨⟨rfl, by simp only; omega, hd⟩, rfl, by simp only; omega, by simp only; omega⟩)
  cases k with
  | zero => omega
  | succ k =>
   refine Tt.bind (Tt.con (among_tot _ hc _ _ _ (by omega) (by simp))) ?_
   rintro ⟨v, c', p', s'⟩ ⟨⟨d, hdm, hv⟩, rfl, hp1, hp2⟩
   dsimp only at hv hp1 hp2 ⊢
   have hvb : 0 ≤ v ∧ v ≤ 10 := by
    simp only [List.mem_cons, List.not_mem_nil, or_false] at hdm
    rcases hdm with rfl | rfl | rfl | rfl | rfl | rfl | rfl <;> simp only [toInt_int] at hv <;> omega
   refine Tt.ite (by simp only [List.length_cons, List.length_nil]; omega) ?_
   rw [wrap_id (n := n - 1) (by omega) (by omega)]
   simp only [Option.bind_fun_some]
   obtain ⟨y, e1, ⟨e2, e3, e4⟩, e5, e6, e7⟩ := distr3_tot _ hc x0 x5 k (n - 1) p' s' (l ++ [D.int v]) (by omega) (by omega) (by omega) (by omega) (by simp only [List.length_append, List.length_cons, List.length_nil]; omega) (fun d hd' => by
    rcases List.mem_append.1 hd' with h | h
    ·exact hd d h
    ·simp only [List.mem_singleton] at h; subst h; simp only [toInt_int]; exact hvb)
   refine Tt.con ⟨y, e1, ⟨e2, ?_, e4⟩, e5, by omega, by omega⟩
   simp only [List.length_append, List.length_cons, List.length_nil] at e3; omega
theorem distr_tot (c : List D) (hc : okC c) (p s x : Int) (hp : 0 ≤ p ∧ p ≤ 1099511610000) : ∃ y, Z16 c p s x = some y ∧ (y.2.1.length ≤ 10 ∧ y.2.2.1 = c ∧ p ≤ y.2.2.2.1 ∧ y.2.2.2.1 ≤ p + 200) := by
 refine Tt.out ?_
 unfold Z16 c_Z16
 (refine Tt.bind (Tt.con (pick_tot' _ hc _ _ _ (by omega) (by omega))) ?_; rintro ⟨v, c', p', s'⟩ ⟨hv, rfl, hp1, hp2⟩; dsimp only at hv hp1 hp2 ⊢)
 rw [wrap_id (n := 1 + v) (by omega) (by omega)]
 refine Tt.bind (Tt.con (distr3_tot _ hc x 0 10 (1 + v) p' s' [] (by omega) (by omega) (by omega) (by omega) (by simp) (by simp))) ?_
 rintro ⟨x1, c2, p2, s2, x5, l⟩ ⟨⟨h1, h2, h3⟩, h4, h5, h6⟩
 dsimp only at h1 h2 h3 h4 h5 h6 ⊢
 subst h4
 simp only [List.length_nil] at h2
 refine Tt.bind (Tt.con (pick_tot' _ hc _ _ _ (by omega) (by omega))) ?_
 rintro ⟨v3, c3, p3, s3⟩ ⟨-, rfl, hp5, hp6⟩
 dsimp only at hp5 hp6 ⊢
 refine Tt.bind (Tt.con (make_len _ ⟨fun d hd => (h3 d hd).1, by omega, fun d hd => by have := h3 d hd; omega⟩)) ?_
 rintro ⟨f, l2, ok⟩ hl2
 dsimp only at hl2 ⊢
 refine Tt.cnd (fun _ => ?_) (fun _ => ?_)
 ·exact Tt.pure ⟨by simp, rfl, by simp only; omega, by simp only; omega⟩
 ·exact Tt.pure ⟨by simp only; omega, rfl, by simp only; omega, by simp only; omega⟩
theorem any12v_tot (c : List D) (hc : okC c) (x3 x4 : Int) : ∀ (k : Nat) (p s : Int) (l : List D), 70 - l.length ≤ k → 0 ≤ p → p + 10 * k + 10 ≤ 1099511620000 → l.length ≤ 70 →
  ∃ y, Z17 c p s x3 x4 l = some y ∧ (y.2.2.2.2.2.length ≤ 70 ∧ y.1 = c ∧ p ≤ y.2.1 ∧ y.2.1 ≤ p + 10 * k + 10)
 | k, p, s, l, hk, hp0, hp, hl => by
  rw [Z17_fx]
  refine Tt.out ?_
  unfold c_Z17
  (refine Tt.bind (Tt.con (pick_tot' _ hc _ _ _ (by omega) (by omega))) ?_; rintro ⟨v, c', p', s'⟩ ⟨hv, rfl, hp1, hp2⟩; dsimp only at hv hp1 hp2 ⊢)
  rw [wrap_id (n := 60 + v) (by omega) (by omega)]
  refine Tt.dec (fun hlt => ?_) (fun _ => Tt.pure ⟨hl, rfl, by simp only; omega, by simp only; omega⟩)
  cases k with
  | zero => omega
  | succ k =>
   refine Tt.ite (by simp only [List.length_cons, List.length_nil]; omega) ?_
   simp only [Option.bind_fun_some]
   obtain ⟨y, e1, e2, e3, e4, e5⟩ := any12v_tot _ hc x3 x4 k p' s' (l ++ [D.int 1]) (by simp only [List.length_append, List.length_cons, List.length_nil]; omega) (by omega) (by omega) (by simp only [List.length_append, List.length_cons, List.length_nil]; omega)
   exact Tt.con ⟨y, e1, e2, e3, by omega, by omega⟩
theorem any_tot (c : List D) (hc : okC c) (p s x : Int) (hp : 0 ≤ p ∧ p ≤ 1099511600000) : ∃ y, Z19 c p s x = some y ∧ (y.2.1.length ≤ 100 ∧ y.2.2.1 = c ∧ p ≤ y.2.2.2.1 ∧ y.2.2.2.1 ≤ p + 2000) := by
 refine Tt.out ?_
 unfold Z19 c_Z19
 refine Tt.bind (Tt.con (distr_tot _ hc _ _ _ (by omega))) ?_
 rintro ⟨f, l, c1, p1, s1⟩ ⟨hl, rfl, hp1, hp2⟩
 dsimp only at hl hp1 hp2 ⊢
 refine Tt.bind (Tt.con (pick_tot' _ hc _ _ _ (by omega) (by omega))) ?_
 rintro ⟨v, c2, p2, s2⟩ ⟨-, rfl, hp3, hp4⟩
 dsimp only at hp3 hp4 ⊢
 refine Tt.dec (fun _ => ?_) (fun _ => ?_)
 ·(refine Tt.bind (Tt.con (among_tot _ hc _ _ _ (by omega) (by simp))) ?_; rintro ⟨v, c', p', s'⟩ ⟨hv, rfl, hp1, hp2⟩; dsimp only at hv hp1 hp2 ⊢)
  exact Tt.pure ⟨by simp only; omega, rfl, by simp only; omega, by simp only; omega⟩
 refine Tt.dec (fun _ => ?_) (fun _ => ?_)
 ·(refine Tt.bind (Tt.con (among_tot _ hc _ _ _ (by omega) (by simp))) ?_; rintro ⟨v, c', p', s'⟩ ⟨hv, rfl, hp1, hp2⟩; dsimp only at hv hp1 hp2 ⊢)
  refine Tt.ite (by simp only [List.length_cons, List.length_nil]; omega) ?_
  exact Tt.pure ⟨by simp only [List.length_append, List.length_cons, List.length_nil]; omega, rfl, by simp only; omega, by simp only; omega⟩
 refine Tt.dec (fun _ => ?_) (fun _ => ?_)
 ·exact Tt.pure ⟨by simp, rfl, by simp only; omega, by simp only; omega⟩
 refine Tt.dec (fun _ => ?_) (fun _ => ?_)
 ·exact Tt.pure ⟨by simp, rfl, by simp only; omega, by simp only; omega⟩
 refine Tt.dec (fun _ => ?_) (fun _ => Tt.pure ⟨by simp only; omega, rfl, by simp only; omega, by simp only; omega⟩)
 have e12 : ∃ y, Z18 c2 p2 s2 0 f l = some y ∧ (match y with | .inl z => z.2.2.2.2.2.length ≤ 70 ∧ z.1 = c2 ∧ p2 ≤ z.2.1 ∧ z.2.1 ≤ p2 + 1000 | .inr z => z.2.2.2.2.2.length ≤ 70 ∧ z.1 = c2 ∧ p2 ≤ z.2.1 ∧ z.2.1 ≤ p2 + 1000) := by
  rw [Z18_fx]
  refine Tt.out ?_
  unfold c_Z18
  (refine Tt.bind (Tt.con (pick_tot' _ hc _ _ _ (by omega) (by omega))) ?_; rintro ⟨v, c', p', s'⟩ ⟨hv, rfl, hp1, hp2⟩; dsimp only at hv hp1 hp2 ⊢)
  rw [wrap_id (n := 60 + v) (by omega) (by omega)]
  refine Tt.dec (fun hlt => ?_) (fun _ => Tt.pure ⟨by simp only; omega, rfl, by simp only; omega, by simp only; omega⟩)
  refine Tt.ite (by simp only [List.length_cons, List.length_nil]; omega) ?_
  refine Tt.bind (Tt.con (any12v_tot _ hc 0 f 70 p' s' (l ++ [D.int 1]) (by omega) (by omega) (by omega) (by simp only [List.length_append, List.length_cons, List.length_nil]; omega))) ?_
  rintro ⟨c3, p3, s3, z3, z4, z5⟩ ⟨h1, h2, h3, h4⟩
  dsimp only at h1 h2 h3 h4 ⊢
  exact Tt.pure ⟨h1, h2, by simp only; omega, by simp only; omega⟩
 refine Tt.bind (Tt.con e12) ?_
 rintro (⟨c3, p3, s3, z3, z4, z5⟩ | ⟨c3, p3, s3, z3, z4, z5⟩) ⟨h1, h2, h3, h4⟩
 ·exact Tt.pure ⟨by simp only at h1 ⊢; omega, h2, by simp only at h3 ⊢; omega, by simp only at h4 ⊢; omega⟩
 ·exact Tt.pure ⟨by simp only at h1 ⊢; omega, h2, by simp only at h3 ⊢; omega, by simp only at h4 ⊢; omega⟩
def sumN (g : Nat → Int) : Nat → Int
 | 0 => 0
 | n + 1 => sumN g n + g n
theorem sumN_congr {g h : Nat → Int} : ∀ {n : Nat}, (∀ i, i < n → g i = h i) → sumN g n = sumN h n
 | 0, _ => rfl
 | n + 1, e => by
  show sumN g n + g n = sumN h n + h n
  rw [sumN_congr (fun i hi => e i (by omega)), e n (by omega)]
theorem sumN_zero : ∀ n : Nat, sumN (fun _ => 0) n = 0
 | 0 => rfl
 | n + 1 => by show sumN (fun _ => 0) n + 0 = 0; rw [sumN_zero n]; rfl
theorem sumN_add (g h : Nat → Int) : ∀ n : Nat, sumN (fun i => g i + h i) n = sumN g n + sumN h n
 | 0 => rfl
 | n + 1 => by
  show sumN (fun i => g i + h i) n + (g n + h n) = (sumN g n + g n) + (sumN h n + h n)
  rw [sumN_add g h n]; omega
theorem sumN_mul (c : Int) (g : Nat → Int) : ∀ n : Nat, sumN (fun i => c * g i) n = c * sumN g n
 | 0 => (Int.mul_zero c).symm
 | n + 1 => by
  show sumN (fun i => c * g i) n + c * g n = c * (sumN g n + g n)
  rw [sumN_mul c g n, Int.mul_add]
theorem sumN_swap (p : Nat → Nat → Int) (m : Nat) : ∀ n : Nat, sumN (fun i => sumN (p i) m) n = sumN (fun k => sumN (fun i => p i k) n) m
 | 0 => (sumN_zero m).symm
 | n + 1 => by
  show sumN (fun i => sumN (p i) m) n + sumN (p n) m = sumN (fun k => sumN (fun i => p i k) n + p n k) m
  rw [sumN_swap p m n, sumN_add]
theorem sumN_bd {g : Nat → Int} {B : Int} : ∀ {n : Nat}, (∀ i, i < n → 0 ≤ g i ∧ g i ≤ B) → 0 ≤ sumN g n ∧ sumN g n ≤ (n : Int) * B
 | 0, _ => by simp [sumN]
 | n + 1, h => by
  have ih := sumN_bd (n := n) (fun i hi => h i (by omega))
  have hn := h n (by omega)
  have e : ((n + 1 : Nat) : Int) * B = (n : Int) * B + B := by rw [Int.natCast_add, Int.add_mul]; simp
  show 0 ≤ sumN g n + g n ∧ sumN g n + g n ≤ _
  omega
theorem sumN_one (g : Nat → Int) (c : Int) : ∀ n : Nat, sumN (fun k => if c = (k : Int) then g k else 0) n = if 0 ≤ c ∧ c < n then g c.toNat else 0
 | 0 => by rw [if_neg (by omega)]; rfl
 | n + 1 => by
  show sumN (fun k => if c = (k : Int) then g k else 0) n + (if c = (n : Int) then g n else 0) = _
  rw [sumN_one g c n]
  by_cases h : c = (n : Int)
  ·rw [if_neg (by omega), if_pos h, if_pos (by omega), show c.toNat = n by omega]; omega
  ·rw [if_neg h]
   by_cases h2 : 0 ≤ c ∧ c < n
   ·rw [if_pos h2, if_pos (by omega)]; omega
   ·rw [if_neg h2, if_neg (by omega)]; rfl
def vb (l : List D) (z : Int) : Int := if 0 ≤ z ∧ z < l.length then (l.getD z.toNat (.int 0)).toInt else 0
theorem vb_nat {l : List D} {i : Nat} (h : i < l.length) : vb l (i : Int) = (l.getD i (.int 0)).toInt := by
 unfold vb
 rw [if_pos (by omega), Int.toNat_natCast]
theorem vb_bd {B : Int} {l : List D} (h : ∀ d ∈ l, 0 ≤ d.toInt ∧ d.toInt ≤ B) (hB : 0 ≤ B) (z : Int) : 0 ≤ vb l z ∧ vb l z ≤ B := by
 unfold vb
 by_cases hz : 0 ≤ z ∧ z < l.length
 ·rw [if_pos hz]; exact h _ (getD_mem (by omega))
 ·rw [if_neg hz]; omega
theorem wt_out {l : List D} {i : Nat} (h : l.length ≤ i) : wt l i = 0 := by
 unfold wt
 rw [List.getD_eq_getElem?_getD, List.getElem?_eq_none h]; rfl
theorem vb_wt {l : List D} (hn : ∀ d ∈ l, 0 ≤ d.toInt) (i : Nat) : vb l (i : Int) = ((wt l i : Nat) : Int) := by
 by_cases h : i < l.length
 ·rw [vb_nat h, wt_int hn h]
 ·rw [wt_out (by omega)]
  unfold vb
  rw [if_neg (by omega)]; rfl
theorem vb_neg {l : List D} {z : Int} (h : z < 0) : vb l z = 0 := by
 unfold vb
 rw [if_neg (by omega)]
def Red (f : Int) (l : List D) (r : Int × List D × Bool) : Prop :=
 ((∀ i, wt l i = 0) ∧ r = (0, [], false)) ∨ ∃ fr t, fr < t ∧ Cut l fr t ∧ r = (bif goodB (f + (fr : Int)) (outL l fr t) then (f + (fr : Int), outL l fr t, true) else (0, [], false))
theorem cut_eq {f f' : Int} {l l' : List D} (hn : ∀ d ∈ l, 0 ≤ d.toInt) (hn' : ∀ d ∈ l', 0 ≤ d.toInt) {fr t fr' t' : Nat} (h : Cut l fr t) (hlt : fr < t) (h' : Cut l' fr' t') (hlt' : fr' < t')
  (e : ∀ y, vb l (y - f) = 0 ↔ vb l' (y - f') = 0) : f + (fr : Int) = f' + fr' ∧ f + (t : Int) = f' + t' := by
 have key : ∀ {f f' : Int} {l l' : List D}, (∀ d ∈ l, 0 ≤ d.toInt) → (∀ d ∈ l', 0 ≤ d.toInt) → ∀ {fr t fr' t' : Nat}, Cut l fr t → fr < t → Cut l' fr' t' → fr' < t' → (∀ y, vb l (y - f) = 0 ↔ vb l' (y - f') = 0) → f' + (fr' : Int) ≤ f + fr ∧ f + (t : Int) ≤ f' + t' := by
  intro f f' l l' hn hn' fr t fr' t' h hlt h' hlt' e
  constructor
  ·apply Classical.byContradiction
   intro hc
   have h1 := e (f + fr)
   rw [show f + (fr : Int) - f = (fr : Int) by omega, vb_wt hn] at h1
   have h2 : vb l' (f + (fr : Int) - f') = 0 := by
    by_cases h0 : f + (fr : Int) - f' < 0
    ·exact vb_neg h0
    ·rw [show f + (fr : Int) - f' = (((f + (fr : Int) - f').toNat : Nat) : Int) by omega, vb_wt hn', h'.lo _ (by omega)]; rfl
   have := h.fr0 hlt
   have := h1.2 h2
   omega
  ·apply Classical.byContradiction
   intro hc
   have h1 := e (f + (t : Int) - 1)
   rw [show f + (t : Int) - 1 - f = ((t - 1 : Nat) : Int) by omega, vb_wt hn] at h1
   have h2 : vb l' (f + (t : Int) - 1 - f') = 0 := by
    by_cases h0 : f + (t : Int) - 1 - f' < 0
    ·exact vb_neg h0
    ·rw [show f + (t : Int) - 1 - f' = (((f + (t : Int) - 1 - f').toNat : Nat) : Int) by omega, vb_wt hn']
     by_cases hl : (f + (t : Int) - 1 - f').toNat < l'.length
     ·rw [h'.hi _ (by omega) hl]; rfl
     ·rw [wt_out (by omega)]; rfl
   have := h.t0 hlt
   have := h1.2 h2
   omega
 have k1 := key hn hn' h hlt h' hlt' e
 have k2 := key hn' hn h' hlt' h hlt (fun y => (e y).symm)
 omega
theorem gq_congr {l l' : List D} {fr fr' : Nat} : ∀ {k : Nat}, (∀ i, i < k → wt l (fr + i) = wt l' (fr' + i)) → gq l fr k = gq l' fr' k
 | 0, _ => rfl
 | k + 1, h => by
  show Nat.gcd (gq l fr k) (wt l (fr + k)) = Nat.gcd (gq l' fr' k) (wt l' (fr' + k))
  rw [gq_congr (fun i hi => h i (by omega)), h k (by omega)]
theorem cut_range {l : List D} {fr n : Nat} (h : fr + n ≤ l.length) : (l.drop fr).take n = (List.range n).map (fun i => l.getD (fr + i) (.int 0)) := by
 apply List.ext_getElem?
 intro i
 by_cases hi : i < n
 ·rw [List.getElem?_take_of_lt hi, List.getElem?_drop, List.getElem?_map, List.getElem?_range hi, List.getElem?_eq_getElem (by omega), Option.map_some, List.getD_eq_getElem?_getD, List.getElem?_eq_getElem (show fr + i < l.length by omega)]; rfl
 ·rw [List.getElem?_eq_none (by simp only [List.length_take]; omega), List.getElem?_eq_none (by simp only [List.length_map, List.length_range]; omega)]
theorem outL_range {l : List D} {fr t : Nat} (h : fr ≤ t) (ht : t ≤ l.length) : outL l fr t = (List.range (t - fr)).map (fun i => D.int ((l.getD (fr + i) (.int 0)).toInt.tdiv ((gq l fr (t - fr) : Nat) : Int))) := by
 unfold outL
 rw [cut_range (by omega), List.map_map]; rfl
theorem Red_uniq {f f' : Int} {l l' : List D} {r r' : Int × List D × Bool} (hn : ∀ d ∈ l, 0 ≤ d.toInt) (hn' : ∀ d ∈ l', 0 ≤ d.toInt) (h : Red f l r) (h' : Red f' l' r') (e : ∀ y, vb l (y - f) = vb l' (y - f')) : r = r' := by
 rcases h with ⟨z, rfl⟩ | ⟨fr, t, hlt, hc, rfl⟩ <;> rcases h' with ⟨z', rfl⟩ | ⟨fr', t', hlt', hc', rfl⟩
 ·rfl
 ·exfalso
  have h1 := e (f' + fr')
  rw [show f' + (fr' : Int) - f' = (fr' : Int) by omega, vb_wt hn'] at h1
  have := hc'.fr0 hlt'
  by_cases h0 : f' + (fr' : Int) - f < 0
  ·rw [vb_neg h0] at h1; omega
  ·rw [show f' + (fr' : Int) - f = (((f' + (fr' : Int) - f).toNat : Nat) : Int) by omega, vb_wt hn, z] at h1; omega
 ·exfalso
  have h1 := e (f + fr)
  rw [show f + (fr : Int) - f = (fr : Int) by omega, vb_wt hn] at h1
  have := hc.fr0 hlt
  by_cases h0 : f + (fr : Int) - f' < 0
  ·rw [vb_neg h0] at h1; omega
  ·rw [show f + (fr : Int) - f' = (((f + (fr : Int) - f').toNat : Nat) : Int) by omega, vb_wt hn', z'] at h1; omega
 ·obtain ⟨e1, e2⟩ := cut_eq hn hn' hc hlt hc' hlt' (fun y => by rw [e y])
  have hd : t' - fr' = t - fr := by omega
  have c1 := hc.len
  have c2 := hc'.len
  have hw : ∀ i, i < t - fr → wt l (fr + i) = wt l' (fr' + i) := by
   intro i hi
   have := e (f + fr + i)
   rw [show f + (fr : Int) + (i : Int) - f = ((fr + i : Nat) : Int) by omega, show f + (fr : Int) + (i : Int) - f' = ((fr' + i : Nat) : Int) by omega, vb_wt hn, vb_wt hn'] at this
   omega
  have ho : outL l fr t = outL l' fr' t' := by
   rw [outL_range (by omega) c1, outL_range (by omega) c2, hd, gq_congr hw]
   apply List.map_congr_left
   intro i hi
   have hi := List.mem_range.1 hi
   rw [wt_int hn (show fr + i < l.length by omega), wt_int hn' (show fr' + i < l'.length by omega), hw i hi]
  rw [ho, e1]
theorem wt_iw (l : List D) (i : Nat) : wt l i = ((iw l).getD i 0).toNat := by
 unfold wt
 rw [iw_get]
theorem gp_iw {l l' : List D} (e : iw l = iw l') : ∀ n, gp l n = gp l' n
 | 0 => rfl
 | n + 1 => by
  show Nat.gcd (gp l n) (wt l n) = Nat.gcd (gp l' n) (wt l' n)
  rw [gp_iw e n, wt_iw, wt_iw, e]
theorem goodB_iw {l l' : List D} (f : Int) (e : iw l = iw l') : goodB f l = goodB f l' := by
 have hl : l.length = l'.length := by rw [← iw_len l, ← iw_len l', e]
 have hb : badW l = badW l' := by
  funext i
  unfold badW
  rw [iw_get, iw_get, e]
 unfold goodB okW
 rw [hl, hb, iw_get, iw_get, iw_get l', iw_get l', e, gp_iw e]
theorem Red_mul {f aF : Int} {l a : List D} {r : Int × List D × Bool} (ha : GoodD aF a) (hn : ∀ d ∈ l, 0 ≤ d.toInt) (h : Red f l r) (c : Nat) (hc : 0 < c) (e : ∀ y, vb l (y - f) = vb a (y - aF) * (c : Int)) : ∃ l', r = (aF, l', true) ∧ iw l' = iw a := by
 have hna : ∀ d ∈ a, 0 ≤ d.toInt := fun d hd => (ha.ok d hd).1
 have n1 := ha.n1
 have w0 := ha.w0
 have wn := ha.wn
 have ca : Cut a 0 a.length := ⟨by omega, by omega, fun u hu => by omega, fun u h1 h2 => by omega, fun _ => by unfold wt; omega, fun _ => by unfold wt; omega⟩
 rcases h with ⟨z, rfl⟩ | ⟨fr, t, hlt, hcut, rfl⟩
 ·exfalso
  have h1 := e aF
  rw [Int.sub_self, show (0 : Int) = ((0 : Nat) : Int) from rfl, vb_nat (show 0 < a.length by omega)] at h1
  have hp := Int.mul_pos w0 (show (0 : Int) < (c : Int) by omega)
  by_cases h0 : aF - f < 0
  ·rw [vb_neg h0] at h1; omega
  ·rw [show aF - f = (((aF - f).toNat : Nat) : Int) by omega, vb_wt hn, z] at h1; omega
 ·obtain ⟨e1, e2⟩ := cut_eq (f := f) (f' := aF) hn hna hcut hlt ca (by omega) (fun y => by
   rw [e y]
   constructor
   ·intro hm
    rcases Int.mul_eq_zero.1 hm with hm | hm
    ·exact hm
    ·omega
   ·intro hm; rw [hm, Int.zero_mul])
  have cl := hcut.len
  have hd : t - fr = a.length := by omega
  have hw : ∀ i, i < a.length → wt l (fr + i) = wt a i * c := by
   intro i hi
   have := e (f + fr + i)
   rw [show f + (fr : Int) + (i : Int) - f = ((fr + i : Nat) : Int) by omega, show f + (fr : Int) + (i : Int) - aF = (i : Int) by omega, vb_wt hn, vb_wt hna] at this
   rw [← Int.natCast_mul] at this
   omega
  have hg : ∀ k, k ≤ a.length → gq l fr k = gp a k * c := by
   intro k
   induction k with
   | zero => intro _; exact (Nat.zero_mul c).symm
   | succ k ih =>
    intro hk
    show Nat.gcd (gq l fr k) (wt l (fr + k)) = Nat.gcd (gp a k) (wt a k) * c
    rw [ih (by omega), hw k (by omega), Nat.gcd_mul_right]
  have hgc : gq l fr (t - fr) = c := by rw [hd, hg _ (Nat.le_refl _), ha.g, Nat.one_mul]
  have ho : iw (outL l fr t) = iw a := by
   rw [outL_range (by omega) cl, hgc, hd]
   apply List.ext_getElem?
   intro i
   by_cases hi : i < a.length
   ·have ht : (l.getD (fr + i) (.int 0)).toInt.tdiv (c : Int) = (a.getD i (.int 0)).toInt := by
     rw [wt_int hn (show fr + i < l.length by omega), hw i hi, wt_int hna hi, Int.tdiv_eq_ediv_of_nonneg (by omega), Int.natCast_mul, Int.mul_ediv_cancel _ (by omega)]
    simp only [iw, List.getElem?_map, List.getElem?_range hi, Option.map_some]
    rw [ht, toInt_int, List.getD_eq_getElem?_getD, List.getElem?_eq_getElem hi]; rfl
   ·rw [List.getElem?_eq_none (by simp only [iw, List.length_map, List.length_range]; omega), List.getElem?_eq_none (by rw [iw_len]; omega)]
  rw [goodB_iw _ ho, e1, show aF + ((0 : Nat) : Int) = aF by simp, goodB_iff.2 ha]
  exact ⟨_, rfl, ho⟩
def nnI (l : List D) : Prop := (∀ d ∈ l, 0 ≤ d.toInt ∧ d.toInt ≤ 1000000000000000) ∧ l.length ≤ 30000
theorem gp_zero {l : List D} : ∀ {n : Nat}, (∀ i, i < n → wt l i = 0) → gp l n = 0
 | 0, _ => rfl
 | n + 1, h => by
  show Nat.gcd (gp l n) (wt l n) = 0
  rw [gp_zero (fun i hi => h i (by omega)), h n (by omega)]; rfl
theorem gp_zero' {l : List D} : ∀ {n : Nat}, gp l n = 0 → ∀ i, i < n → wt l i = 0
 | 0, _, i, hi => by omega
 | n + 1, h, i, hi => by
  have := Nat.gcd_eq_zero_iff.1 (show Nat.gcd (gp l n) (wt l n) = 0 from h)
  by_cases hin : i = n
  ·subst hin; exact this.2
  ·exact gp_zero' this.1 i (by omega)
theorem gp_cut {l : List D} {fr t : Nat} (h : Cut l fr t) : gp l l.length = gq l fr (t - fr) := by
 have h1 : ∀ k, gp l (fr + k) = gq l fr k := by
  intro k
  induction k with
  | zero => exact gp_zero h.lo
  | succ k ih =>
   show Nat.gcd (gp l (fr + k)) (wt l (fr + k)) = Nat.gcd (gq l fr k) (wt l (fr + k))
   rw [ih]
 have h2 : ∀ j, t + j ≤ l.length → gp l (t + j) = gp l t := by
  intro j
  induction j with
  | zero => intro _; rfl
  | succ j ih =>
   intro hj
   show Nat.gcd (gp l (t + j)) (wt l (t + j)) = gp l t
   rw [ih (by omega), h.hi _ (by omega) (by omega), Nat.gcd_zero_right]
 have hl := h.len
 have hle := h.le
 have := h2 (l.length - t) (by omega)
 rw [show t + (l.length - t) = l.length by omega] at this
 rw [this, ← h1, show fr + (t - fr) = t by omega]
theorem red5 (b g e a : Int) {l : List D} (h : nnI l) : ∀ (k i : Nat), i + k = l.length → (∃ j, i ≤ j ∧ j < l.length ∧ wt l j ≠ 0) → ∃ j, i ≤ j ∧ j < l.length ∧ (∀ t, i ≤ t → t < j → wt l t = 0) ∧ wt l j ≠ 0 ∧ Z36 b l g i e a = some (b, l, g, (j : Int), e, a)
 | 0, i, hk, ⟨j, j1, j2, _⟩ => by omega
 | k + 1, i, hk, ⟨j, j1, j2, j3⟩ => by
  have h300 := h.2
  rw [Z36_fx]
  unfold c_Z36
  rw [if_pos (by omega), Int.toNat_natCast, wt_int (fun d hd => (h.1 d hd).1) (by omega)]
  by_cases hz : wt l i = 0
  ·have hij : i ≠ j := fun he => by subst he; exact j3 hz
   obtain ⟨q, q1, q2, q3, q4, q5⟩ := red5 b g e a h k (i + 1) (by omega) ⟨j, by omega, j2, j3⟩
   refine ⟨q, by omega, q2, fun t t1 t2 => ?_, q4, ?_⟩
   ·by_cases hti : t = i
    ·rw [hti]; exact hz
    ·exact q3 t (by omega) t2
   ·rw [decide_eq_true (by omega), cond_true, succ_wrap (by omega), q5]; rfl
  ·exact ⟨i, Nat.le_refl _, by omega, fun t _ _ => by omega, hz, by rw [decide_eq_false (by omega)]; rfl⟩
theorem red7 (b g a : Int) {l : List D} (h : nnI l) (fr : Nat) (hfr : wt l fr ≠ 0) : ∀ (t : Nat), fr < t → t ≤ l.length → ∃ j, fr < j ∧ j ≤ t ∧ (∀ u, j ≤ u → u < t → wt l u = 0) ∧ wt l (j - 1) ≠ 0 ∧ Z37 b l g fr t a = some (b, l, g, (fr : Int), (j : Int), a)
 | 0, h1, h2 => by omega
 | t + 1, h1, h2 => by
  have h300 := h.2
  rw [Z37_fx]
  unfold c_Z37
  rw [pred_wrap (by omega) (by omega), Nat.add_sub_cancel, if_pos (by omega), Int.toNat_natCast, wt_int (fun d hd => (h.1 d hd).1) (by omega)]
  by_cases hz : wt l t = 0
  ·have hne : fr ≠ t := fun he => by subst he; exact hfr hz
   obtain ⟨j, j1, j2, j3, j4, j5⟩ := red7 b g a h fr hfr t (by omega) (by omega)
   refine ⟨j, j1, by omega, fun u u1 u2 => ?_, j4, ?_⟩
   ·by_cases hut : u = t
    ·rw [hut]; exact hz
    ·exact j3 u u1 (by omega)
   ·rw [decide_eq_true (by omega), cond_true, j5]; rfl
  ·exact ⟨t + 1, h1, Nat.le_refl _, fun u _ _ => by omega, by rw [Nat.add_sub_cancel]; exact hz, by rw [decide_eq_false (by omega)]; rfl⟩
theorem red11v (g : Nat) (hg : g ≠ 0) (a b : Int) {s : List D} (h : nnI s) : ∀ (k i : Nat) (acc : List D), i + k = s.length → acc.length ≤ i → Z38 g s s.length i a b acc = some (a, b, acc ++ (s.drop i).map (fun x => D.int (x.toInt.tdiv (g : Int))))
 | 0, i, acc, hk, ha => by
  rw [Z38_fx]
  unfold c_Z38
  rw [decide_eq_false (by omega), cond_false, List.drop_of_length_le (by omega)]; simp
 | k + 1, i, acc, hk, ha => by
  have h300 := h.2
  have hlt : i < s.length := by omega
  have hx := h.1 _ (getD_mem hlt)
  rw [Z38_fx]
  unfold c_Z38
  rw [decide_eq_true (by omega), cond_true, if_pos (by omega), if_pos (by omega), if_pos (by simp only [List.length_cons, List.length_nil]; omega), Int.toNat_natCast, succ_wrap (by omega)]
  rw [wrap_id (n := (s.getD i (D.int 0)).toInt.tdiv (g : Int)) (by rw [Int.tdiv_eq_ediv_of_nonneg hx.1]; have := Int.ediv_nonneg hx.1 (show (0 : Int) ≤ (g : Int) by omega); omega) (by rw [Int.tdiv_eq_ediv_of_nonneg hx.1]; have := Int.ediv_le_self (g : Int) hx.1; omega)]
  rw [red11v g hg a b h k (i + 1) _ (by omega) (by simp only [List.length_append, List.length_cons, List.length_nil]; omega), drop_cons hlt]
  simp only [Option.bind_some, List.map_cons, List.append_assoc, List.singleton_append, List.getD_eq_getElem?_getD]
theorem redI (f : Int) (hf : -100000 ≤ f ∧ f ≤ 100000) {l : List D} (h : nnI l) : ∃ r, Z41 f l = some r ∧ Red f l r := by
 have h300 := h.2
 have hn : ∀ d ∈ l, 0 ≤ d.toInt := fun d hd => (h.1 d hd).1
 simp only [Z41, c_Z41, divI_eq hn (by omega), Option.bind_some]
 by_cases hz : gp l l.length = 0
 ·rw [decide_eq_true (show ((gp l l.length : Nat) : Int) = 0 by omega), cond_true]
  refine ⟨_, rfl, .inl ⟨fun i => ?_, rfl⟩⟩
  by_cases hi : i < l.length
  ·exact gp_zero' hz i hi
  ·exact wt_out (by omega)
 ·rw [decide_eq_false (show ¬ ((gp l l.length : Nat) : Int) = 0 by omega), cond_false]
  have hex : ∃ j, 0 ≤ j ∧ j < l.length ∧ wt l j ≠ 0 := by
   apply Classical.byContradiction
   intro hc
   exact hz (gp_zero (fun i hi => by
    apply Classical.byContradiction
    intro hw
    exact hc ⟨i, by omega, hi, hw⟩))
  obtain ⟨fr, a1, a2, a3, a4, a5⟩ := red5 f ((gp l l.length : Nat) : Int) l.length 0 h l.length 0 (by omega) hex
  rw [show ((0 : Nat) : Int) = 0 from rfl] at a5
  obtain ⟨t, b1, b2, b3, b4, b5⟩ := red7 f ((gp l l.length : Nat) : Int) 0 h fr a4 l.length a2 (Nat.le_refl _)
  have hc : Cut l fr t := ⟨by omega, b2, fun u hu => a3 u (by omega) hu, b3, fun _ => a4, fun _ => b4⟩
  simp only [a5, b5, Option.bind_some, Int.toNat_natCast]
  rw [if_pos (by omega)]
  have hs : nnI ((l.drop fr).take (t - fr)) := ⟨fun d hd => h.1 d (List.mem_of_mem_drop (List.mem_of_mem_take hd)), by simp only [List.length_take, List.length_drop]; omega⟩
  have hsl : ((l.drop fr).take (t - fr)).length = t - fr := by simp only [List.length_take, List.length_drop]; omega
  have e11 : Z39 ((gp l l.length : Nat) : Int) ((l.drop fr).take (t - fr)) (((l.drop fr).take (t - fr)).length : Int) 0 0 (IntKind.i64.wrap (f + (fr : Int))) = some (.inl (0, f + (fr : Int), outL l fr t)) := by
   have hx := hs.1 _ (getD_mem (show 0 < ((l.drop fr).take (t - fr)).length by omega))
   have v := red11v (gp l l.length) hz 0 (IntKind.i64.wrap (f + (fr : Int))) hs (t - fr - 1) 1 [D.int ((((l.drop fr).take (t - fr)).getD 0 (.int 0)).toInt.tdiv ((gp l l.length : Nat) : Int))] (by omega) (by simp)
   rw [Z39_fx]
   unfold c_Z39
   rw [decide_eq_true (by omega), cond_true, if_pos (by omega), if_pos (by omega), if_pos (by simp), Int.toNat_zero]
   rw [wrap_id (n := (((l.drop fr).take (t - fr)).getD 0 (.int 0)).toInt.tdiv ((gp l l.length : Nat) : Int)) (by rw [Int.tdiv_eq_ediv_of_nonneg hx.1]; have := Int.ediv_nonneg hx.1 (show (0 : Int) ≤ ((gp l l.length : Nat) : Int) by omega); omega) (by rw [Int.tdiv_eq_ediv_of_nonneg hx.1]; have := Int.ediv_le_self ((gp l l.length : Nat) : Int) hx.1; omega)]
   rw [show IntKind.i64.wrap ((0 : Int) + 1) = ((1 : Nat) : Int) by decide, v]
   simp only [Option.bind_some]
   rw [wrap_id (n := f + (fr : Int)) (by omega) (by omega)]
   congr 3
   unfold outL
   rw [← gp_cut hc]
   have h0 : 0 < ((l.drop fr).take (t - fr)).length := by omega
   conv => rhs; rw [← List.drop_zero (l := (l.drop fr).take (t - fr)), drop_cons h0]
   rw [List.map_cons, List.getD_eq_getElem?_getD]; rfl
  rw [e11]
  simp only [Option.bind_some, Sum.elim_inl, goodI _ _ (show (outL l fr t).length ≤ 1048576 by rw [outL_len (by omega) b2]; omega)]
  refine ⟨_, ?_, .inr ⟨fr, t, b1, hc, rfl⟩⟩
  cases goodB (f + (fr : Int)) (outL l fr t) <;> rfl
theorem redS (f : Int) (hf : -100000 ≤ f ∧ f ≤ 100000) {l : List D} (h : nnL l) : ∃ r, Z15 f l = some r ∧ Red f l r := by
 obtain ⟨fr, t, hc, he⟩ := make_eq f h
 have h400 := h.2.1
 have hl := hc.len
 have hle := hc.le
 rw [wrap_id (n := f + (fr : Int)) (by omega) (by omega)] at he
 refine ⟨_, he, ?_⟩
 by_cases hft : fr = t
 ·left
  refine ⟨fun i => ?_, by rw [decide_eq_true hft]; rfl⟩
  by_cases hi : i < fr
  ·exact hc.lo i hi
  ·by_cases hi2 : i < l.length
   ·exact hc.hi i (by omega) hi2
   ·exact wt_out (by omega)
 ·right
  exact ⟨fr, t, by omega, hc, by rw [decide_eq_false hft]; rfl⟩
def listD (n : Nat) (g : Nat → Int) : List D := (List.range n).map (fun i => D.int (g i))
theorem listD_len (n : Nat) (g : Nat → Int) : (listD n g).length = n := by simp [listD]
theorem listD_succ (n : Nat) (g : Nat → Int) : listD (n + 1) g = listD n g ++ [D.int (g n)] := by simp [listD, List.range_succ]
theorem listD_get {n : Nat} {g : Nat → Int} {i : Nat} (h : i < n) : (listD n g).getD i (.int 0) = D.int (g i) := by
 rw [List.getD_eq_getElem?_getD, listD, List.getElem?_map, List.getElem?_range h]; rfl
theorem listD_congr {n : Nat} {g h : Nat → Int} (e : ∀ i, i < n → g i = h i) : listD n g = listD n h := by
 unfold listD
 exact List.map_congr_left (fun i hi => by rw [e i (List.mem_range.1 hi)])
theorem listD_vb (n : Nat) (g : Nat → Int) (z : Int) : vb (listD n g) z = if 0 ≤ z ∧ z < n then g z.toNat else 0 := by
 unfold vb
 rw [listD_len]
 by_cases h : 0 ≤ z ∧ z < n
 ·rw [if_pos h, if_pos h, listD_get (by omega)]; rfl
 ·rw [if_neg h, if_neg h]
theorem listD_all {P : Int → Prop} {n : Nat} {g : Nat → Int} (h : ∀ i, i < n → P (g i)) : ∀ d ∈ listD n g, P d.toInt := by
 intro d hd
 unfold listD at hd
 obtain ⟨i, hi, rfl⟩ := List.mem_map.1 hd
 exact h i (List.mem_range.1 hi)
theorem listD_set {n : Nat} {g : Nat → Int} (j : Nat) (v : Int) : (listD n g).set j (D.int v) = listD n (fun t => if t = j then v else g t) := by
 apply List.ext_getElem?
 intro i
 rw [List.getElem?_set]
 by_cases hi : i < n
 ·by_cases hj : j = i
  ·subst hj
   rw [if_pos rfl, if_pos (by rw [listD_len]; exact hi), listD, List.getElem?_map, List.getElem?_range hi, Option.map_some, if_pos rfl]
  ·rw [if_neg hj, listD, listD, List.getElem?_map, List.getElem?_map, List.getElem?_range hi, Option.map_some, Option.map_some, if_neg (fun h => hj h.symm)]
 ·rw [List.getElem?_eq_none (l := listD n fun t => if t = j then v else g t) (by rw [listD_len]; omega)]
  by_cases hj : j = i
  ·rw [if_pos hj, if_neg (by rw [listD_len]; omega)]
  ·rw [if_neg hj, List.getElem?_eq_none (by rw [listD_len]; omega)]
theorem atI {f : Int} {l : List D} (h : GoodD f l) (y : Int) (hy : -200000 ≤ y ∧ y ≤ 200000) : Z33 f l y = some (vb l (y - f)) := by
 have n60 := h.n60
 have f1 := h.f1
 have f2 := h.f2
 simp only [Z33, c_Z33, Z23, c_Z23, Option.bind_some]
 rw [wrap_id (n := f + (l.length : Int)) (by omega) (by omega), wrap_id (n := f + (l.length : Int) - 1) (by omega) (by omega), wrap_id (n := y - f) (by omega) (by omega)]
 unfold vb
 by_cases h1 : y < f
 ·rw [decide_eq_true h1, cond_true, if_neg (by omega)]
 ·rw [decide_eq_false h1, cond_false]
  by_cases h2 : f + (l.length : Int) - 1 < y
  ·rw [decide_eq_true h2, cond_true, if_neg (by omega)]
  ·rw [decide_eq_false h2, cond_false, if_pos (by omega), if_pos (by omega)]
theorem atS {f : Int} {l : List D} (h : GoodD f l) (y : Int) (hy : -200000 ≤ y ∧ y ≤ 200000) : Z44 f l y = some (vb l (y - f)) := by
 have n60 := h.n60
 have f1 := h.f1
 have f2 := h.f2
 simp only [Z44, c_Z44, l1In_eq, Option.bind_some]
 rw [wrap_id (n := f + (l.length : Int)) (by omega) (by omega), wrap_id (n := f + (l.length : Int) - 1) (by omega) (by omega), wrap_id (n := y - f) (by omega) (by omega)]
 unfold vb
 cases hb : btw y f (f + (l.length : Int) - 1) with
 | true =>
  have := btw_iff.1 hb
  rw [Bool.not_true, cond_false, if_pos (by omega), if_pos (by omega)]
 | false =>
  have : ¬ (f ≤ y ∧ y ≤ f + (l.length : Int) - 1) := by rw [← btw_iff, hb]; simp
  rw [Bool.not_false, cond_true, if_neg (by omega)]
theorem rInts_iw {l l' : List D} (e : iw l = iw l') (hl : l.length ≤ 1048576) : Z48 l l' = some true := by
 have hlen : l.length = l'.length := by rw [← iw_len l, ← iw_len l', e]
 have key : Z47 l l' 0 = some (.inr ()) := by
  refine all_loop (N := fun n i => n_Z47 n l l' i) (len := l.length) (fun m i hi => ?_) (fun m => ?_)
  ·have hw : IntKind.i64.wrap ((i : Int) + 1) = (i : Int) + 1 := wrap_id (by omega) (by omega)
   show c_Z47 (n_Z47 m) l l' i some = _
   unfold c_Z47
   rw [decide_eq_true (by omega), cond_true, if_pos (by omega), if_pos (by omega), hw, Int.toNat_natCast, iw_get, iw_get, e, decide_eq_true rfl, Bool.not_true, cond_false]
   simp only [Option.bind_fun_some]
  ·simp [n_Z47, c_Z47]
 simp [Z48, c_Z48, key, hlen]
theorem prod12 {a b : Int} (h1 : 0 ≤ a ∧ a ≤ 1000000) (h2 : 0 ≤ b ∧ b ≤ 1000000) : 0 ≤ a * b ∧ a * b ≤ 1000000000000 := by
 have p1 : a * b ≤ a * 1000000 := Int.mul_le_mul_of_nonneg_left h2.2 h1.1
 have p2 := Int.mul_nonneg h1.1 h2.1
 omega
theorem prodS {a b : Int} (h1 : 0 ≤ a ∧ a ≤ 1000000) (h2 : 0 ≤ b ∧ b ≤ 60000000) : 0 ≤ a * b ∧ a * b ≤ 60000000000000 := by
 have p1 : a * b ≤ a * 60000000 := Int.mul_le_mul_of_nonneg_left h2.2 h1.1
 have p2 := Int.mul_nonneg h1.1 h2.1
 omega
theorem prodSS {a b : Int} (h1 : 0 ≤ a ∧ a ≤ 60000000) (h2 : 0 ≤ b ∧ b ≤ 60000000) : 0 ≤ a * b ∧ a * b ≤ 3600000000000000 := by
 have p1 : a * b ≤ a * 60000000 := Int.mul_le_mul_of_nonneg_left h2.2 h1.1
 have p2 := Int.mul_nonneg h1.1 h2.1
 omega
theorem GoodD.vbd {f : Int} {l : List D} (h : GoodD f l) (z : Int) : 0 ≤ vb l z ∧ vb l z ≤ 1000000 := vb_bd h.ok (by omega) z
theorem GoodD.gbd {f : Int} {l : List D} (h : GoodD f l) {i : Nat} (hi : i < l.length) : 0 ≤ (l.getD i (.int 0)).toInt ∧ (l.getD i (.int 0)).toInt ≤ 1000000 := h.ok _ (getD_mem hi)
theorem GoodD.sbd {f : Int} {l : List D} (h : GoodD f l) : 0 ≤ pf l l.length ∧ pf l l.length ≤ 60000000 := by
 have := pf_bd h.bd (by omega) l.length (Nat.le_refl _)
 have := h.n60
 omega
def gC (aF : Int) (a : List D) (bF : Int) (b : List D) (i : Nat) : Int := vb a (i : Int) * vb b (aF + (i : Int) - bF)
theorem tabC {aF bF : Int} {a b : List D} (ha : GoodD aF a) (hb : GoodD bF b) : ∀ (k i : Nat), i + k = a.length → Z35 aF (aF + (a.length : Int) - 1) aF a bF b (aF + (i : Int)) 0 (listD i (gC aF a bF b)) = some (aF, 0, listD a.length (gC aF a bF b))
 | 0, i, hk => by
  rw [Z35_fx]
  unfold c_Z35
  rw [decide_eq_false (by omega), cond_false, show i = a.length by omega]
 | k + 1, i, hk => by
  have n60 := ha.n60
  have f1 := ha.f1
  have f2 := ha.f2
  have p := prod12 (ha.vbd (i : Int)) (hb.vbd (aF + (i : Int) - bF))
  rw [Z35_fx]
  unfold c_Z35
  simp only [Z34, c_Z34]
  rw [decide_eq_true (by omega), cond_true, atI ha _ (by omega), atI hb _ (by omega)]
  simp only [Option.bind_some, Option.bind_fun_some]
  rw [show aF + (i : Int) - aF = (i : Int) by omega, wrap_id (n := vb a (i : Int) * vb b (aF + (i : Int) - bF)) (by omega) (by omega), if_pos (by rw [listD_len]; simp only [List.length_cons, List.length_nil]; omega), wrap_id (n := aF + (i : Int) + 1) (by omega) (by omega), show aF + (i : Int) + 1 = aF + ((i + 1 : Nat) : Int) by omega, show vb a (i : Int) * vb b (aF + (i : Int) - bF) = gC aF a bF b i from rfl, ← listD_succ]
  exact tabC ha hb k (i + 1) (by omega)
theorem combL {aF bF : Int} {a b : List D} (ha : GoodD aF a) (hb : GoodD bF b) : ∀ (k i : Nat), i + k = a.length → Z45 i aF a bF b 0 (listD i (gC aF a bF b)) = some (aF, a, 0, listD a.length (gC aF a bF b))
 | 0, i, hk => by
  rw [Z45_fx]
  unfold c_Z45
  rw [decide_eq_false (by omega), cond_false, show i = a.length by omega]
 | k + 1, i, hk => by
  have n60 := ha.n60
  have f1 := ha.f1
  have f2 := ha.f2
  have p := prod12 (ha.vbd (i : Int)) (hb.vbd (aF + (i : Int) - bF))
  rw [Z45_fx]
  unfold c_Z45
  rw [decide_eq_true (by omega), cond_true, if_pos (by omega), wrap_id (n := aF + (i : Int)) (by omega) (by omega), atS hb _ (by omega)]
  simp only [Option.bind_some, Option.bind_fun_some]
  rw [Int.toNat_natCast, ← vb_nat (show i < a.length by omega), wrap_id (n := vb a (i : Int) * vb b (aF + (i : Int) - bF)) (by omega) (by omega), if_pos (by rw [listD_len]; simp only [List.length_cons, List.length_nil]; omega), succ_wrap (by omega), show vb a (i : Int) * vb b (aF + (i : Int) - bF) = gC aF a bF b i from rfl, ← listD_succ]
  exact combL ha hb k (i + 1) (by omega)
theorem gC_bd {aF bF : Int} {a b : List D} (ha : GoodD aF a) (hb : GoodD bF b) (i : Nat) : 0 ≤ gC aF a bF b i ∧ gC aF a bF b i ≤ 1000000000000 := prod12 (ha.vbd _) (hb.vbd _)
theorem lastI {f : Int} {l : List D} (h : GoodD f l) : Z23 f l = some (f + (l.length : Int) - 1) := by
 have n60 := h.n60
 have f1 := h.f1
 have f2 := h.f2
 simp only [Z23, c_Z23]
 rw [wrap_id (n := f + (l.length : Int)) (by omega) (by omega), wrap_id (n := f + (l.length : Int) - 1) (by omega) (by omega)]
theorem listD_nnI {n : Nat} {g : Nat → Int} (hn : n ≤ 30000) (h : ∀ i, i < n → 0 ≤ g i ∧ g i ≤ 1000000000000000) : nnI (listD n g) := ⟨listD_all (P := fun x => 0 ≤ x ∧ x ≤ 1000000000000000) h, by rw [listD_len]; exact hn⟩
theorem listD_nnL {n : Nat} {g : Nat → Int} (hn : n ≤ 400) (h : ∀ i, i < n → 0 ≤ g i ∧ g i ≤ 1000000000000000) : nnL (listD n g) := ⟨fun d hd => (listD_all (P := fun x => 0 ≤ x ∧ x ≤ 1000000000000000) h d hd).1, by rw [listD_len]; exact hn, fun d hd => (listD_all (P := fun x => 0 ≤ x ∧ x ≤ 1000000000000000) h d hd).2⟩
theorem combI {aF bF : Int} {a b : List D} (ha : GoodD aF a) (hb : GoodD bF b) : ∃ r, Z43 aF a bF b = some r ∧ Red aF (listD a.length (gC aF a bF b)) r := by
 have n60 := ha.n60
 have n60' := hb.n60
 have f1 := ha.f1
 have f2 := ha.f2
 have t := tabC ha hb a.length 0 (by omega)
 rw [show ((0 : Nat) : Int) = 0 from rfl, Int.add_zero, show listD 0 (gC aF a bF b) = [] from rfl] at t
 obtain ⟨r, r1, r2⟩ := redI aF (by omega) (listD_nnI (n := a.length) (g := gC aF a bF b) (by omega) (fun i _ => by have := gC_bd ha hb i; omega))
 refine ⟨r, ?_, r2⟩
 simp only [Z43, c_Z43, goodI aF a (by omega), goodI bF b (by omega), goodB_iff.2 ha, goodB_iff.2 hb, Option.bind_some, Bool.not_true, cond_false, lastI ha, Z42, c_Z42, t, r1]
theorem combS {aF bF : Int} {a b : List D} (ha : GoodD aF a) (hb : GoodD bF b) : ∃ r, Z46 aF a bF b = some r ∧ Red aF (listD a.length (gC aF a bF b)) r := by
 have n60 := ha.n60
 have n60' := hb.n60
 have f1 := ha.f1
 have f2 := ha.f2
 have t := combL ha hb a.length 0 (by omega)
 rw [show ((0 : Nat) : Int) = 0 from rfl, show listD 0 (gC aF a bF b) = [] from rfl] at t
 obtain ⟨r, r1, r2⟩ := redS aF (by omega) (listD_nnL (n := a.length) (g := gC aF a bF b) (by omega) (fun i _ => by have := gC_bd ha hb i; omega))
 refine ⟨r, ?_, r2⟩
 simp only [Z46, c_Z46, goodS aF a (by omega), goodS bF b (by omega), goodB_iff.2 ha, goodB_iff.2 hb, Option.bind_some, Bool.not_true, cond_false, t, r1]
theorem gC_vb (aF bF : Int) (a b : List D) (y : Int) : vb (listD a.length (gC aF a bF b)) (y - aF) = vb a (y - aF) * vb b (y - bF) := by
 rw [listD_vb]
 by_cases h : 0 ≤ y - aF ∧ y - aF < a.length
 ·rw [if_pos h]
  unfold gC
  rw [show (((y - aF).toNat : Nat) : Int) = y - aF by omega, show aF + (y - aF) - bF = y - bF by omega]
 ·rw [if_neg h]
  have : vb a (y - aF) = 0 := by unfold vb; rw [if_neg h]
  rw [this, Int.zero_mul]
theorem tabM {aF bF : Int} {a b : List D} (ha : GoodD aF a) (hb : GoodD bF b) (f : Int) (hf : -20000 ≤ f ∧ f ≤ 2100) (n : Nat) (hn : n ≤ 23000) : ∀ (k i : Nat), i + k = n → Z67 f (f + (n : Int) - 1) 1 aF a bF b 1 (f + (i : Int)) 0 (listD i (fun i => vb a (f + (i : Int) - aF) * pf b b.length)) = some (f, 0, listD n (fun i => vb a (f + (i : Int) - aF) * pf b b.length))
 | 0, i, hk => by
  rw [Z67_fx]
  unfold c_Z67
  rw [decide_eq_false (by omega), cond_false, show i = n by omega]
 | k + 1, i, hk => by
  have n60 := ha.n60
  have n60' := hb.n60
  have va := ha.vbd (f + (i : Int) - aF)
  have vb' := hb.vbd (f + (i : Int) - bF)
  have p := prodS va hb.sbd
  have sa := ha.sbd
  rw [Z67_fx]
  unfold c_Z67
  simp only [Z66, c_Z66, Z56, c_Z56]
  rw [decide_eq_true (by omega), cond_true, atI ha _ (by omega), atI hb _ (by omega), sumI_eq ha.bd (by omega) (by omega), sumI_eq hb.bd (by omega) (by omega)]
  simp only [Option.bind_some, Option.bind_fun_some]
  rw [Int.one_mul, Int.sub_self, show IntKind.i64.wrap 0 = 0 by decide, Int.zero_mul, show IntKind.i64.wrap 0 = 0 by decide, Int.zero_mul, show IntKind.i64.wrap 0 = 0 by decide, Int.add_zero, wrap_id (n := vb a (f + (i : Int) - aF)) (by omega) (by omega), wrap_id (n := vb a (f + (i : Int) - aF) * pf b b.length) (by omega) (by omega), wrap_id (n := vb a (f + (i : Int) - aF) * pf b b.length) (by omega) (by omega)]
  rw [if_pos (by rw [listD_len]; simp only [List.length_cons, List.length_nil]; omega), wrap_id (n := f + (i : Int) + 1) (by omega) (by omega), show f + (i : Int) + 1 = f + ((i + 1 : Nat) : Int) by omega]
  have := listD_succ i (fun i => vb a (f + (i : Int) - aF) * pf b b.length)
  rw [← this]
  exact tabM ha hb f hf n hn k (i + 1) (by omega)
theorem pf_pos {f : Int} {l : List D} (h : GoodD f l) : 0 < pf l l.length := by
 have n1 := h.n1
 have w0 := h.w0
 have e := pf_succ (l := l) (i := 0) (by omega)
 have m := pf_mono h.bd (show 0 + 1 ≤ l.length by omega) (Nat.le_refl _)
 rw [pf_zero] at e
 omega
theorem mix_self {aF bF : Int} {a b : List D} (ha : GoodD aF a) (hb : GoodD bF b) : ∃ m, Z69 aF a bF b 1 1 = some (aF, m, true) ∧ iw m = iw a := by
 have n60 := ha.n60
 have n60' := hb.n60
 have n1 := ha.n1
 have n1' := hb.n1
 have f1 := ha.f1
 have f2 := ha.f2
 have f1' := hb.f1
 have f2' := hb.f2
 have sb := hb.sbd
 have sp := pf_pos hb
 obtain ⟨f, hf⟩ : ∃ f : Int, f = (if bF < aF then bF else aF) := ⟨_, rfl⟩
 obtain ⟨la, hla⟩ : ∃ la : Int, la = (if bF + (b.length : Int) - 1 > aF + (a.length : Int) - 1 then bF + (b.length : Int) - 1 else aF + (a.length : Int) - 1) := ⟨_, rfl⟩
 have hf1 : f ≤ aF ∧ f ≤ bF ∧ -20000 ≤ f ∧ f ≤ 2100 := by split at hf <;> omega
 have hl1 : aF + (a.length : Int) - 1 ≤ la ∧ la ≤ 2100 ∧ f ≤ la := by split at hla <;> omega
 obtain ⟨n, hn⟩ : ∃ n : Nat, la = f + (n : Int) - 1 := ⟨(la - f + 1).toNat, by omega⟩
 have t := tabM ha hb f (by omega) n (by omega) n 0 (by omega)
 rw [show ((0 : Nat) : Int) = 0 from rfl, Int.add_zero, show listD 0 (fun i => vb a (f + (i : Int) - aF) * pf b b.length) = [] from rfl] at t
 have gbd : ∀ i, i < n → 0 ≤ (fun i : Nat => vb a (f + (i : Int) - aF) * pf b b.length) i ∧ (fun i : Nat => vb a (f + (i : Int) - aF) * pf b b.length) i ≤ 1000000000000000 := fun i _ => by
  have := prodS (ha.vbd (f + (i : Int) - aF)) sb
  simp only
  omega
 obtain ⟨r, r1, r2⟩ := redI f (by omega) (listD_nnI (n := n) (g := fun i => vb a (f + (i : Int) - aF) * pf b b.length) (by omega) gbd)
 obtain ⟨m, m1, m2⟩ := Red_mul ha (fun d hd => (listD_all (P := fun x => 0 ≤ x ∧ x ≤ 1000000000000000) gbd d hd).1) r2 (pf b b.length).toNat (by omega) (fun y => by
  rw [listD_vb, show (((pf b b.length).toNat : Nat) : Int) = pf b b.length by omega]
  by_cases h : 0 ≤ y - f ∧ y - f < n
  ·rw [if_pos h]
   rw [show f + (((y - f).toNat : Nat) : Int) - aF = y - aF by omega]
  ·rw [if_neg h]
   have : vb a (y - aF) = 0 := by unfold vb; rw [if_neg (by omega)]
   rw [this, Int.zero_mul])
 refine ⟨m, ?_, m2⟩
 rw [m1] at r1
 have hfr : Z65 1 1 = some true := by
  simp only [Z65, c_Z65, within_eq, Option.bind_some]
  rfl
 simp only [Z69, c_Z69, goodI aF a (by omega), goodI bF b (by omega), goodB_iff.2 ha, goodB_iff.2 hb, hfr, Option.bind_some, Bool.not_true, cond_false, lastI ha, lastI hb]
 rw [← hf, ← hla, hn]
 simp only [Z68, c_Z68, t, r1, Option.bind_some]
def gL (a b : List D) (i : Nat) (z : Int) : Int := sumN (fun j => vb a (j : Int) * vb b (z + (j : Int))) i
theorem gL_bd {aF bF : Int} {a b : List D} (ha : GoodD aF a) (hb : GoodD bF b) (i : Nat) (hi : i ≤ 60) (z : Int) : 0 ≤ gL a b i z ∧ gL a b i z ≤ 60000000000000 := by
 have := sumN_bd (g := fun j => vb a (j : Int) * vb b (z + (j : Int))) (B := 1000000000000) (n := i) (fun j _ => prod12 (ha.vbd _) (hb.vbd _))
 unfold gL
 omega
theorem later3 {aF bF : Int} {a b : List D} (ha : GoodD aF a) (hb : GoodD bF b) (n : Int) (hn : -100000 ≤ n ∧ n ≤ 100000) : ∀ (k i : Nat), i + k = a.length → Z70 n aF a bF b (gL a b i (aF + n - bF)) a a.length i = some (gL a b a.length (aF + n - bF))
 | 0, i, hk => by
  rw [Z70_fx]
  unfold c_Z70
  rw [decide_eq_false (by omega), cond_false, show i = a.length by omega]
 | k + 1, i, hk => by
  have n60 := ha.n60
  have f1 := ha.f1
  have f2 := ha.f2
  have p := prod12 (ha.vbd (i : Int)) (hb.vbd (aF + n - bF + (i : Int)))
  have g := gL_bd ha hb i (by omega) (aF + n - bF)
  rw [Z70_fx]
  unfold c_Z70
  rw [decide_eq_true (by omega), cond_true, if_pos (by omega), wrap_id (n := aF + (i : Int)) (by omega) (by omega), wrap_id (n := aF + (i : Int) + n) (by omega) (by omega), atI hb _ (by omega)]
  simp only [Option.bind_some, Option.bind_fun_some]
  rw [Int.toNat_natCast, ← vb_nat (show i < a.length by omega), show aF + (i : Int) + n - bF = aF + n - bF + (i : Int) by omega, wrap_id (n := vb a (i : Int) * vb b (aF + n - bF + (i : Int))) (by omega) (by omega), wrap_id (n := gL a b i (aF + n - bF) + vb a (i : Int) * vb b (aF + n - bF + (i : Int))) (by omega) (by omega), succ_wrap (by omega)]
  exact later3 ha hb n hn k (i + 1) (by omega)
def gT (a b : List D) (i : Nat) (t : Nat) : Int := gL a b i ((t : Int) - ((a.length : Int) - 1))
theorem tabT {aF bF : Int} {a b : List D} (ha : GoodD aF a) (hb : GoodD bF b) (f : Int) (hf : f = bF - aF - (a.length : Int) + 1) (n : Nat) (hn : n ≤ 120) : ∀ (k i : Nat), i + k = n → Z72 f (f + (n : Int) - 1) aF a bF b (f + (i : Int)) 0 (listD i (gT a b a.length)) = some (f, 0, listD n (gT a b a.length))
 | 0, i, hk => by
  rw [Z72_fx]
  unfold c_Z72
  rw [decide_eq_false (by omega), cond_false, show i = n by omega]
 | k + 1, i, hk => by
  have n60 := ha.n60
  have f1 := ha.f1
  have f2 := ha.f2
  have f1' := hb.f1
  have f2' := hb.f2
  have e3 := later3 ha hb (f + (i : Int)) (by omega) a.length 0 (by omega)
  rw [show gL a b 0 (aF + (f + (i : Int)) - bF) = 0 from rfl, show ((0 : Nat) : Int) = 0 from rfl, show aF + (f + (i : Int)) - bF = (i : Int) - ((a.length : Int) - 1) by omega, show gL a b a.length ((i : Int) - ((a.length : Int) - 1)) = gT a b a.length i from rfl] at e3
  rw [Z72_fx]
  unfold c_Z72
  simp only [Z71, c_Z71]
  rw [decide_eq_true (by omega), cond_true, e3]
  simp only [Option.bind_some, Option.bind_fun_some]
  rw [if_pos (by rw [listD_len]; simp only [List.length_cons, List.length_nil]; omega), wrap_id (n := f + (i : Int) + 1) (by omega) (by omega), show f + (i : Int) + 1 = f + ((i + 1 : Nat) : Int) by omega, ← listD_succ]
  exact tabT ha hb f hf n hn k (i + 1) (by omega)
def hT (a b : List D) (i k t : Nat) : Int := gT a b i t + (if 0 ≤ (t : Int) - ((a.length : Int) - 1) + (i : Int) ∧ (t : Int) - ((a.length : Int) - 1) + (i : Int) < (k : Int) then vb a (i : Int) * vb b ((t : Int) - ((a.length : Int) - 1) + (i : Int)) else 0)
theorem later9 {aF bF : Int} {a b : List D} (ha : GoodD aF a) (hb : GoodD bF b) (i : Nat) (hi : i < a.length) (z : Int) : ∀ (m k : Nat), k + m = b.length → Z75 a.length b.length i k aF a bF b z (listD (a.length + b.length - 1) (hT a b i k)) = some ((a.length : Int), (b.length : Int), (i : Int), aF, a, bF, b, z, listD (a.length + b.length - 1) (gT a b (i + 1)))
 | 0, k, hk => by
  rw [Z75_fx]
  unfold c_Z75
  rw [decide_eq_false (by omega), cond_false]
  congr 9
  refine listD_congr (fun t ht => ?_)
  unfold hT
  rw [show gT a b (i + 1) t = gT a b i t + vb a (i : Int) * vb b ((t : Int) - ((a.length : Int) - 1) + (i : Int)) from rfl]
  by_cases h : 0 ≤ (t : Int) - ((a.length : Int) - 1) + (i : Int) ∧ (t : Int) - ((a.length : Int) - 1) + (i : Int) < (k : Int)
  ·rw [if_pos h]
  ·rw [if_neg h]
   have : vb b ((t : Int) - ((a.length : Int) - 1) + (i : Int)) = 0 := by unfold vb; rw [if_neg (by omega)]
   rw [this, Int.mul_zero]
 | m + 1, k, hk => by
  have n60 := ha.n60
  have n60' := hb.n60
  have hj : IntKind.i64.wrap (IntKind.i64.wrap (IntKind.i64.wrap ((k : Int) - (i : Int)) + (a.length : Int)) - 1) = ((k + a.length - 1 - i : Nat) : Int) := by
   rw [wrap_id (n := (k : Int) - (i : Int)) (by omega) (by omega), wrap_id (n := (k : Int) - (i : Int) + (a.length : Int)) (by omega) (by omega), wrap_id (by omega) (by omega)]; omega
  obtain ⟨j, hjd⟩ : ∃ j, j = k + a.length - 1 - i := ⟨_, rfl⟩
  have hjn : j < a.length + b.length - 1 := by omega
  have p := prod12 (ha.vbd (i : Int)) (hb.vbd (k : Int))
  have g := gL_bd ha hb i (by omega) ((j : Int) - ((a.length : Int) - 1))
  rw [Z75_fx]
  unfold c_Z75
  rw [hj, ← hjd, decide_eq_true (by omega), cond_true]
  simp only [listD_len, Int.toNat_natCast, Option.bind_fun_some]
  rw [if_pos (by omega), if_pos (by omega), if_pos (by omega), if_pos (by omega), if_pos (by omega), if_pos (by omega), listD_get hjn, toInt_int, ← vb_nat (show i < a.length by omega), ← vb_nat (show k < b.length by omega)]
  have hz : (j : Int) - ((a.length : Int) - 1) + (i : Int) = (k : Int) := by omega
  have hv : hT a b i k j = gT a b i j := by
   unfold hT
   rw [if_neg (by omega)]; omega
  have hg : gT a b i j = gL a b i ((j : Int) - ((a.length : Int) - 1)) := rfl
  rw [hv, wrap_id (n := vb a (i : Int) * vb b (k : Int)) (by omega) (by omega), wrap_id (n := gT a b i j + vb a (i : Int) * vb b (k : Int)) (by omega) (by omega), succ_wrap (by omega), listD_set]
  have hc : listD (a.length + b.length - 1) (fun t => if t = j then gT a b i j + vb a (i : Int) * vb b (k : Int) else hT a b i k t) = listD (a.length + b.length - 1) (hT a b i (k + 1)) := by
   refine listD_congr (fun t ht => ?_)
   by_cases htj : t = j
   ·rw [if_pos htj, htj]
    unfold hT
    rw [hz, if_pos (by omega)]
   ·rw [if_neg htj]
    unfold hT
    by_cases h : 0 ≤ (t : Int) - ((a.length : Int) - 1) + (i : Int) ∧ (t : Int) - ((a.length : Int) - 1) + (i : Int) < (k : Int)
    ·rw [if_pos h, if_pos (by omega)]
    ·rw [if_neg h, if_neg (by omega)]
  rw [hc]
  exact later9 ha hb i hi z m (k + 1) (by omega)
theorem later6 {aF bF : Int} {a b : List D} (ha : GoodD aF a) (hb : GoodD bF b) (z : Int) : ∀ (m i : Nat), i + m = a.length → Z76 a.length b.length i aF a bF b z (listD (a.length + b.length - 1) (gT a b i)) = some ((a.length : Int), aF, a, bF, b, z, listD (a.length + b.length - 1) (gT a b a.length))
 | 0, i, hk => by
  rw [Z76_fx]
  unfold c_Z76
  rw [decide_eq_false (by omega), cond_false, show i = a.length by omega]
 | m + 1, i, hk => by
  have n60 := ha.n60
  have e9 := later9 ha hb i (by omega) z b.length 0 (by omega)
  have h0 : listD (a.length + b.length - 1) (hT a b i 0) = listD (a.length + b.length - 1) (gT a b i) := by
   refine listD_congr (fun t ht => ?_)
   unfold hT
   rw [if_neg (by omega), Int.add_zero]
  rw [h0, show ((0 : Nat) : Int) = 0 from rfl] at e9
  rw [Z76_fx]
  unfold c_Z76
  rw [decide_eq_true (by omega), cond_true, e9]
  simp only [Option.bind_some, Option.bind_fun_some]
  rw [succ_wrap (by omega)]
  exact later6 ha hb z m (i + 1) (by omega)
theorem gT_bd {aF bF : Int} {a b : List D} (ha : GoodD aF a) (hb : GoodD bF b) (t : Nat) : 0 ≤ gT a b a.length t ∧ gT a b a.length t ≤ 1000000000000000 := by
 have := gL_bd ha hb a.length ha.n60 ((t : Int) - ((a.length : Int) - 1))
 unfold gT
 omega
theorem laterI {aF bF : Int} {a b : List D} (ha : GoodD aF a) (hb : GoodD bF b) : ∃ r, Z74 aF a bF b = some r ∧ Red (bF - aF - (a.length : Int) + 1) (listD (a.length + b.length - 1) (gT a b a.length)) r := by
 have n60 := ha.n60
 have n60' := hb.n60
 have n1 := ha.n1
 have n1' := hb.n1
 have f1 := ha.f1
 have f2 := ha.f2
 have f1' := hb.f1
 have f2' := hb.f2
 have t := tabT ha hb _ rfl (a.length + b.length - 1) (by omega) (a.length + b.length - 1) 0 (by omega)
 rw [show ((0 : Nat) : Int) = 0 from rfl, Int.add_zero, show listD 0 (gT a b a.length) = [] from rfl] at t
 obtain ⟨r, r1, r2⟩ := redI (bF - aF - (a.length : Int) + 1) (by omega) (listD_nnI (n := a.length + b.length - 1) (g := gT a b a.length) (by omega) (fun i _ => gT_bd ha hb i))
 refine ⟨r, ?_, r2⟩
 have w1 : IntKind.i64.wrap (bF - (aF + (a.length : Int) - 1)) = bF - aF - (a.length : Int) + 1 := by rw [wrap_id (by omega) (by omega)]; omega
 have w2 : IntKind.i64.wrap (bF + (b.length : Int) - 1 - aF) = bF - aF - (a.length : Int) + 1 + ((a.length + b.length - 1 : Nat) : Int) - 1 := by rw [wrap_id (by omega) (by omega)]; omega
 simp only [Z74, c_Z74, goodI aF a (by omega), goodI bF b (by omega), goodB_iff.2 ha, goodB_iff.2 hb, Option.bind_some, Bool.not_true, cond_false, lastI ha, lastI hb, w1, w2, Z73, c_Z73, t, r1]
theorem laterS {aF bF : Int} {a b : List D} (ha : GoodD aF a) (hb : GoodD bF b) : ∃ r, Z77 aF a bF b = some r ∧ Red (bF - aF - (a.length : Int) + 1) (listD (a.length + b.length - 1) (gT a b a.length)) r := by
 have n60 := ha.n60
 have n60' := hb.n60
 have n1 := ha.n1
 have n1' := hb.n1
 have f1 := ha.f1
 have f2 := ha.f2
 have f1' := hb.f1
 have f2' := hb.f2
 have t := later6 ha hb 0 a.length 0 (by omega)
 have h0 : listD (a.length + b.length - 1) (gT a b 0) = List.replicate (a.length + b.length - 1) (D.int 0) := by
  apply List.ext_getElem?
  intro i
  by_cases hi : i < a.length + b.length - 1
  ·rw [List.getElem?_replicate, if_pos hi, listD, List.getElem?_map, List.getElem?_range hi]; rfl
  ·rw [List.getElem?_eq_none (by rw [listD_len]; omega), List.getElem?_eq_none (by rw [List.length_replicate]; omega)]
 rw [h0, show ((0 : Nat) : Int) = 0 from rfl] at t
 obtain ⟨r, r1, r2⟩ := redS (bF - aF - (a.length : Int) + 1) (by omega) (listD_nnL (n := a.length + b.length - 1) (g := gT a b a.length) (by omega) (fun i _ => gT_bd ha hb i))
 refine ⟨r, ?_, r2⟩
 have wn : IntKind.i64.wrap (IntKind.i64.wrap ((a.length : Int) + (b.length : Int)) - 1) = ((a.length + b.length - 1 : Nat) : Int) := by
  rw [wrap_id (n := (a.length : Int) + (b.length : Int)) (by omega) (by omega), wrap_id (by omega) (by omega)]; omega
 have w1 : IntKind.i64.wrap (IntKind.i64.wrap (IntKind.i64.wrap (bF - aF) - (a.length : Int)) + 1) = bF - aF - (a.length : Int) + 1 := by
  rw [wrap_id (n := bF - aF) (by omega) (by omega), wrap_id (n := bF - aF - (a.length : Int)) (by omega) (by omega), wrap_id (by omega) (by omega)]
 simp only [Z77, c_Z77, goodS aF a (by omega), goodS bF b (by omega), goodB_iff.2 ha, goodB_iff.2 hb, Option.bind_some, Bool.not_true, cond_false, wn, Int.toNat_natCast]
 rw [if_pos (by omega)]
 simp only [t, Option.bind_some, w1, r1]
def cell (aF : Int) (a : List D) (bF : Int) (b : List D) (i k : Nat) : Int := if aF + (i : Int) < bF + (k : Int) then vb a (i : Int) * vb b (k : Int) else 0
theorem cell_bd {aF bF : Int} {a b : List D} (ha : GoodD aF a) (hb : GoodD bF b) (i k : Nat) : 0 ≤ cell aF a bF b i k ∧ cell aF a bF b i k ≤ 1000000000000 := by
 have := prod12 (ha.vbd (i : Int)) (hb.vbd (k : Int))
 unfold cell
 split <;> omega
theorem row_bd {aF bF : Int} {a b : List D} (ha : GoodD aF a) (hb : GoodD bF b) (i k : Nat) (hk : k ≤ 60) : 0 ≤ sumN (cell aF a bF b i) k ∧ sumN (cell aF a bF b i) k ≤ 60000000000000 := by
 have := sumN_bd (g := cell aF a bF b i) (B := 1000000000000) (n := k) (fun j _ => cell_bd ha hb i j)
 omega
def early (aF : Int) (a : List D) (bF : Int) (b : List D) (i : Nat) : Int := sumN (fun i => sumN (cell aF a bF b i) b.length) i
theorem early_bd {aF bF : Int} {a b : List D} (ha : GoodD aF a) (hb : GoodD bF b) (i : Nat) (hi : i ≤ 60) : 0 ≤ early aF a bF b i ∧ early aF a bF b i ≤ 3600000000000000 := by
 have := sumN_bd (g := fun i => sumN (cell aF a bF b i) b.length) (B := 60000000000000) (n := i) (fun j _ => row_bd ha hb j b.length hb.n60)
 unfold early
 omega
theorem pairs6 {aF bF : Int} {a b : List D} (ha : GoodD aF a) (hb : GoodD bF b) (i : Nat) (hi : i < a.length) (S : Int) (hS : 0 ≤ S ∧ S ≤ 4000000000000000) : ∀ (m k : Nat), k + m = b.length → Z51 (S + sumN (cell aF a bF b i) k) i ((a.getD i (.int 0)).toInt) a a.length i b b.length k aF a bF b = some (S + sumN (cell aF a bF b i) b.length, a, (a.length : Int), (i : Int), aF, a, bF, b)
 | 0, k, hk => by
  rw [Z51_fx]
  unfold c_Z51
  rw [decide_eq_false (by omega), cond_false, show k = b.length by omega]
 | m + 1, k, hk => by
  have n60 := ha.n60
  have n60' := hb.n60
  have f1 := ha.f1
  have f2 := ha.f2
  have f1' := hb.f1
  have f2' := hb.f2
  have r := row_bd ha hb i k (by omega)
  have p := prod12 (ha.vbd (i : Int)) (hb.vbd (k : Int))
  have ih := pairs6 ha hb i hi S hS m (k + 1) (by omega)
  have e : sumN (cell aF a bF b i) (k + 1) = sumN (cell aF a bF b i) k + cell aF a bF b i k := rfl
  rw [e] at ih
  rw [Z51_fx]
  unfold c_Z51
  simp only [Z50, c_Z50]
  rw [decide_eq_true (show (k : Int) < b.length by omega), cond_true, if_pos (by omega), wrap_id (n := aF + (i : Int)) (by omega) (by omega), wrap_id (n := bF + (k : Int)) (by omega) (by omega)]
  simp only [Option.bind_some, Option.bind_fun_some]
  rw [succ_wrap (by omega)]
  unfold cell at ih ⊢
  by_cases hlt : aF + (i : Int) < bF + (k : Int)
  ·rw [if_pos hlt] at ih
   rw [decide_eq_true hlt, cond_true, Int.toNat_natCast, ← vb_nat (show k < b.length by omega), ← vb_nat hi, wrap_id (n := vb a (i : Int) * vb b (k : Int)) (by omega) (by omega)]
   rw [← vb_nat hi] at ih
   unfold cell at r
   rw [wrap_id (by omega) (by omega), Int.add_assoc]
   exact ih
  ·rw [if_neg hlt, Int.add_zero] at ih
   rw [decide_eq_false hlt, cond_false]
   exact ih
theorem pairs3 {aF bF : Int} {a b : List D} (ha : GoodD aF a) (hb : GoodD bF b) : ∀ (m i : Nat), i + m = a.length → Z52 (early aF a bF b i) a a.length i aF a bF b = some (early aF a bF b a.length)
 | 0, i, hk => by
  rw [Z52_fx]
  unfold c_Z52
  rw [decide_eq_false (by omega), cond_false, show i = a.length by omega]
 | m + 1, i, hk => by
  have n60 := ha.n60
  have eb := early_bd ha hb i (by omega)
  have e6 := pairs6 ha hb i (by omega) (early aF a bF b i) (by omega) b.length 0 (by omega)
  rw [show sumN (cell aF a bF b i) 0 = 0 from rfl, Int.add_zero, show ((0 : Nat) : Int) = 0 from rfl] at e6
  rw [Z52_fx]
  unfold c_Z52
  rw [decide_eq_true (by omega), cond_true, if_pos (by omega), Int.toNat_natCast, e6]
  simp only [Option.bind_some, Option.bind_fun_some]
  rw [succ_wrap (by omega)]
  exact pairs3 ha hb m (i + 1) (by omega)
theorem chI {aF bF : Int} {a b : List D} (ha : GoodD aF a) (hb : GoodD bF b) : Z57 aF a bF b = some (early aF a bF b a.length, pf a a.length * pf b b.length, true) := by
 have n60 := ha.n60
 have n60' := hb.n60
 have t := pairs3 ha hb a.length 0 (by omega)
 rw [show early aF a bF b 0 = 0 from rfl, show ((0 : Nat) : Int) = 0 from rfl] at t
 have p := prodSS ha.sbd hb.sbd
 simp only [Z57, c_Z57, goodI aF a (by omega), goodI bF b (by omega), goodB_iff.2 ha, goodB_iff.2 hb, Option.bind_some, Bool.not_true, cond_false, Z53, c_Z53, t, Z56, c_Z56, sumI_eq ha.bd (show (0 : Int) ≤ 1000000 by omega) (show a.length ≤ 1048576 by omega), sumI_eq hb.bd (show (0 : Int) ≤ 1000000 by omega) (show b.length ≤ 1048576 by omega)]
 rw [wrap_id (n := pf a a.length * pf b b.length) (by omega) (by omega)]
theorem ch8 {aF bF : Int} {a b : List D} (ha : GoodD aF a) (hb : GoodD bF b) (i : Nat) (hi : i < a.length) : ∀ (m k : Nat), k + m = b.length → ∀ S : Int, ∃ S', Z58 S i k aF a bF b = some (S', (i : Int), aF, a, bF, b)
 | 0, k, hk, S => by
  rw [Z58_fx]
  unfold c_Z58
  rw [decide_eq_false (by omega), cond_false]
  exact ⟨_, rfl⟩
 | m + 1, k, hk, S => by
  have n60' := hb.n60
  rw [Z58_fx]
  unfold c_Z58
  rw [decide_eq_true (show (k : Int) < b.length by omega), cond_true, if_pos (by omega), if_pos (by omega), succ_wrap (by omega)]
  simp only [Option.bind_fun_some]
  cases decide (IntKind.i64.wrap (aF + (i : Int)) < IntKind.i64.wrap (bF + (k : Int))) with
  | true => exact ch8 ha hb i hi m (k + 1) (by omega) _
  | false => exact ch8 ha hb i hi m (k + 1) (by omega) _
theorem ch5 {aF bF : Int} {a b : List D} (ha : GoodD aF a) (hb : GoodD bF b) : ∀ (m i : Nat), i + m = a.length → ∀ S : Int, ∃ S', Z59 S i aF a bF b = some (S', aF, a, bF, b)
 | 0, i, hk, S => by
  rw [Z59_fx]
  unfold c_Z59
  rw [decide_eq_false (by omega), cond_false]
  exact ⟨_, rfl⟩
 | m + 1, i, hk, S => by
  have n60 := ha.n60
  obtain ⟨S', e⟩ := ch8 ha hb i (by omega) b.length 0 (by omega) S
  rw [show ((0 : Nat) : Int) = 0 from rfl] at e
  rw [Z59_fx]
  unfold c_Z59
  rw [decide_eq_true (by omega), cond_true, e]
  simp only [Option.bind_some, Option.bind_fun_some]
  rw [succ_wrap (by omega)]
  exact ch5 ha hb m (i + 1) (by omega) S'
theorem chS {aF bF : Int} {a b : List D} (ha : GoodD aF a) (hb : GoodD bF b) : ∃ x y, Z62 aF a bF b = some (x, y, true) := by
 have n60 := ha.n60
 have n60' := hb.n60
 obtain ⟨S', e⟩ := ch5 ha hb a.length 0 (by omega) 0
 rw [show ((0 : Nat) : Int) = 0 from rfl] at e
 simp only [Z62, c_Z62, goodS aF a (by omega), goodS bF b (by omega), goodB_iff.2 ha, goodB_iff.2 hb, Option.bind_some, Bool.not_true, cond_false, e, sumS_eq ha.bd (show (0 : Int) ≤ 1000000 by omega) (show a.length ≤ 1048576 by omega), sumS_eq hb.bd (show (0 : Int) ≤ 1000000 by omega) (show b.length ≤ 1048576 by omega)]
 exact ⟨_, _, rfl⟩
def same (aF : Int) (a : List D) (bF : Int) (b : List D) (i : Nat) : Int := sumN (fun i => vb a (i : Int) * vb b (aF + (i : Int) - bF)) i
theorem same_bd {aF bF : Int} {a b : List D} (ha : GoodD aF a) (hb : GoodD bF b) (i : Nat) (hi : i ≤ 60) : 0 ≤ same aF a bF b i ∧ same aF a bF b i ≤ 60000000000000 := by
 have := sumN_bd (g := fun i => vb a (i : Int) * vb b (aF + (i : Int) - bF)) (B := 1000000000000) (n := i) (fun j _ => prod12 (ha.vbd _) (hb.vbd _))
 unfold same
 omega
theorem loop16 {aF bF : Int} {a b : List D} (ha : GoodD aF a) (hb : GoodD bF b) (x0 x1 x2 x3 : Int) : ∀ (m i : Nat), i + m = a.length → Z64 x0 x1 x2 x3 (same aF a bF b i) i aF aF a bF bF b = some (x0, x1, x2, x3, same aF a bF b a.length, aF, aF, a, bF, bF, b)
 | 0, i, hk => by
  rw [Z64_fx]
  unfold c_Z64
  rw [decide_eq_false (by omega), cond_false, show i = a.length by omega]
 | m + 1, i, hk => by
  have n60 := ha.n60
  have n60' := hb.n60
  have f1 := ha.f1
  have f2 := ha.f2
  have p := prod12 (ha.vbd (i : Int)) (hb.vbd (aF + (i : Int) - bF))
  have sb := same_bd ha hb i (by omega)
  have hw : Z63 bF b (aF + (i : Int)) = some (vb b (aF + (i : Int) - bF), pf b b.length, true) := by
   have hy : btw (aF + (i : Int)) (-20000) 2100 = true := btw_iff.2 ⟨by omega, by omega⟩
   simp only [Z63, c_Z63, goodS bF b (by omega), goodB_iff.2 hb, l1In_eq, hy, Option.bind_some, Bool.not_true, cond_false, atS hb (aF + (i : Int)) (by omega), sumS_eq hb.bd (show (0 : Int) ≤ 1000000 by omega) (show b.length ≤ 1048576 by omega)]
  rw [Z64_fx]
  unfold c_Z64
  rw [decide_eq_true (by omega), cond_true, wrap_id (n := aF + (i : Int)) (by omega) (by omega), hw]
  simp only [Option.bind_some, Option.bind_fun_some]
  rw [if_pos (by omega), Int.toNat_natCast, if_pos (by omega), ← vb_nat (show i < a.length by omega), wrap_id (n := vb a (i : Int) * vb b (aF + (i : Int) - bF)) (by omega) (by omega), wrap_id (n := same aF a bF b i + vb a (i : Int) * vb b (aF + (i : Int) - bF)) (by omega) (by omega), succ_wrap (by omega)]
  exact loop16 ha hb x0 x1 x2 x3 m (i + 1) (by omega)
theorem pf_sumN (l : List D) : ∀ i, i ≤ l.length → pf l i = sumN (fun j => vb l (j : Int)) i
 | 0, _ => pf_zero l
 | i + 1, hi => by
  rw [pf_succ (by omega), pf_sumN l i (by omega), ← vb_nat (show i < l.length by omega)]; rfl
theorem whole (aF bF : Int) (a b : List D) : early aF a bF b a.length + early bF b aF a b.length + same aF a bF b a.length = pf a a.length * pf b b.length := by
 have e1 : early bF b aF a b.length = sumN (fun i => sumN (fun k => cell bF b aF a k i) b.length) a.length := by
  unfold early
  exact sumN_swap (cell bF b aF a) a.length b.length
 have e2 : same aF a bF b a.length = sumN (fun i => sumN (fun k => if aF + (i : Int) - bF = (k : Int) then vb a (i : Int) * vb b (k : Int) else 0) b.length) a.length := by
  unfold same
  refine sumN_congr (fun i hi => ?_)
  rw [sumN_one (fun k => vb a (i : Int) * vb b (k : Int))]
  by_cases h : 0 ≤ aF + (i : Int) - bF ∧ aF + (i : Int) - bF < b.length
  ·rw [if_pos h, show (((aF + (i : Int) - bF).toNat : Nat) : Int) = aF + (i : Int) - bF by omega]
  ·rw [if_neg h]
   have : vb b (aF + (i : Int) - bF) = 0 := by unfold vb; rw [if_neg h]
   rw [this, Int.mul_zero]
 rw [e1, e2, pf_sumN a _ (Nat.le_refl _), pf_sumN b _ (Nat.le_refl _)]
 unfold early
 rw [← sumN_add, ← sumN_add, Int.mul_comm, ← sumN_mul]
 refine sumN_congr (fun i hi => ?_)
 rw [← sumN_add, ← sumN_add, Int.mul_comm, ← sumN_mul]
 refine sumN_congr (fun k hk => ?_)
 unfold cell
 by_cases h1 : aF + (i : Int) < bF + (k : Int)
 ·rw [if_pos h1, if_neg (by omega), if_neg (by omega)]; omega
 ·by_cases h2 : bF + (k : Int) < aF + (i : Int)
  ·rw [if_neg h1, if_pos h2, if_neg (by omega), Int.mul_comm (vb b (k : Int))]; omega
  ·rw [if_neg h1, if_neg h2, if_pos (by omega)]; omega
theorem drawC_tot (c : List D) (hc : okC c) : ∃ y, Z20 c = some y ∧ (y.2.1.length ≤ 100 ∧ y.2.2.2.length ≤ 100) := by
 refine Tt.out ?_
 unfold Z20 c_Z20
 refine Tt.bind (Tt.con (near10_tot _ hc _ _ (by omega))) ?_
 rintro ⟨v, c1, p1, s1⟩ ⟨-, rfl, hp1, hp2⟩
 dsimp only at hp1 hp2 ⊢
 refine Tt.bind (Tt.con (any_tot _ hc _ _ _ (by omega))) ?_
 rintro ⟨f, l, c2, p2, s2⟩ ⟨hl, rfl, hp3, hp4⟩
 dsimp only at hl hp3 hp4 ⊢
 refine Tt.bind (Tt.con (pick_tot' _ hc _ _ _ (by omega) (by omega))) ?_
 rintro ⟨v3, c3, p3, s3⟩ ⟨-, rfl, hp5, hp6⟩
 dsimp only at hp5 hp6 ⊢
 refine Tt.bind (Tt.con (any_tot _ hc _ _ _ (by omega))) ?_
 rintro ⟨f4, l4, c4, p4, s4⟩ ⟨hl4, rfl, hp7, hp8⟩
 exact Tt.pure ⟨hl, hl4⟩
theorem rDist_refl (f : Int) {l l' : List D} (e : iw l = iw l') (hl : l.length ≤ 1048576) : Z49 f l f l' = some true := by
 simp only [Z49, c_Z49, decide_true, cond_true, rInts_iw e hl, Option.bind_some]
theorem Red_len {f : Int} {l : List D} {r : Int × List D × Bool} (h : Red f l r) : r.2.1.length ≤ l.length := by
 rcases h with ⟨-, rfl⟩ | ⟨fr, t, h1, h2, rfl⟩
 ·simp
 ·have := h2.len
  cases goodB (f + (fr : Int)) (outL l fr t) with
  | false => simp
  | true => rw [cond_true]; simp only; rw [outL_len (by omega) h2.len]; omega
theorem pure_FnCombining (x0 : List D) (h0 : x0.length ≤ maxLen) (w0 : ∀ d ∈ x0, wfD (.int .u8) d) : Z78 x0 = some true := by
 unfold Z78 c_Z78 Z0 c_Z0
 simp only [Option.bind_some]
 by_cases hbig : (65536 : Int) < x0.length
 ·simp [hbig]
 rw [decide_eq_false hbig, cond_false]
 have hc : okC x0 := ⟨by omega, fun d hd => okB (w0 d hd)⟩
 obtain ⟨⟨aF, a, bF, b⟩, hd, hla, hlb⟩ := drawC_tot x0 hc
 dsimp only at hla hlb
 simp only [hd, Option.bind_some]
 by_cases hv : goodB aF a = true ∧ goodB bF b = true
 ·have ha := goodB_iff.1 hv.1
  have hb := goodB_iff.1 hv.2
  have n60 := ha.n60
  have n60' := hb.n60
  have hnn : ∀ {aF bF : Int} {a b : List D}, GoodD aF a → GoodD bF b → ∀ d ∈ listD a.length (gC aF a bF b), 0 ≤ d.toInt := fun ha hb => listD_all (P := fun x => 0 ≤ x) (fun i _ => (gC_bd ha hb i).1)
  obtain ⟨r1, c1, d1⟩ := combI ha hb
  obtain ⟨r2, c2, d2⟩ := combI hb ha
  obtain ⟨r3, c3, d3⟩ := combS ha hb
  have q2 : r2 = r1 := Red_uniq (hnn hb ha) (hnn ha hb) d2 d1 (fun y => by rw [gC_vb, gC_vb, Int.mul_comm])
  have q3 : r3 = r1 := Red_uniq (hnn ha hb) (hnn ha hb) d3 d1 (fun y => rfl)
  subst q2 q3
  have l1 := Red_len d1
  rw [listD_len] at l1
  obtain ⟨s1, e1, g1⟩ := laterI ha hb
  obtain ⟨s2, e2, g2⟩ := laterS ha hb
  have hnl : ∀ d ∈ listD (a.length + b.length - 1) (gT a b a.length), 0 ≤ d.toInt := listD_all (P := fun x => 0 ≤ x) (fun i _ => (gT_bd ha hb i).1)
  have q4 : s2 = s1 := Red_uniq hnl hnl g2 g1 (fun y => rfl)
  subst q4
  have l2 := Red_len g1
  rw [listD_len] at l2
  obtain ⟨m, m1, m2⟩ := mix_self ha hb
  have lm : m.length = a.length := by rw [← iw_len m, ← iw_len a, m2]
  obtain ⟨x, y, t1⟩ := chS ha hb
  have t2 := loop16 ha hb (early aF a bF b a.length) (pf a a.length * pf b b.length) (early bF b aF a b.length) (pf a a.length * pf b b.length) a.length 0 (by omega)
  have ch' := chI hb ha
  rw [Int.mul_comm (pf b b.length) (pf a a.length)] at ch'
  rw [show same aF a bF b 0 = 0 from rfl, show ((0 : Nat) : Int) = 0 from rfl] at t2
  have b1 := early_bd ha hb a.length n60
  have b2 := early_bd hb ha b.length n60'
  have b3 := same_bd ha hb a.length n60
  have wh := whole aF bF a b
  have w1 : IntKind.i64.wrap (IntKind.i64.wrap (early aF a bF b a.length + early bF b aF a b.length) + same aF a bF b a.length) = pf a a.length * pf b b.length := by
   rw [wrap_id (n := early aF a bF b a.length + early bF b aF a b.length) (by omega) (by omega), wrap_id (by omega) (by omega), wh]
  simp only [c1, c2, c3, e1, e2, m1, chI ha hb, ch', t1, t2, Option.bind_some, rDist_refl _ rfl (show r3.2.1.length ≤ 1048576 by omega), rDist_refl _ rfl (show s2.2.1.length ≤ 1048576 by omega), rDist_refl aF m2 (show m.length ≤ 1048576 by omega), beq_self_eq_true, Bool.not_true, cond_false, cond_true, w1, decide_true, Bool.not_beq_self]
 ·have hv' : goodB aF a = false ∨ goodB bF b = false := by
   cases h1 : goodB aF a with
   | false => exact .inl rfl
   | true => right; cases h2 : goodB bF b with
    | false => rfl
    | true => exact absurd ⟨h1, h2⟩ hv
  have k1 : ∀ {aF bF : Int} {a b : List D}, a.length ≤ 100 → b.length ≤ 100 → (goodB aF a = false ∨ goodB bF b = false) → Z43 aF a bF b = some (0, [], false) ∧ Z46 aF a bF b = some (0, [], false) ∧ Z57 aF a bF b = some (0, 0, false) ∧ Z62 aF a bF b = some (0, 0, false) := by
   intro aF bF a b h1 h2 h
   simp only [Z43, c_Z43, Z46, c_Z46, Z57, c_Z57, Z62, c_Z62, goodI aF a (by omega), goodI bF b (by omega), goodS aF a (by omega), goodS bF b (by omega), Option.bind_some]
   rcases h with h | h
   ·rw [h]; exact ⟨rfl, rfl, rfl, rfl⟩
   ·rw [h]; cases goodB aF a <;> exact ⟨rfl, rfl, rfl, rfl⟩
  obtain ⟨u1, u2, u3, u4⟩ := k1 hla hlb hv'
  obtain ⟨v1, v2, v3, v4⟩ := k1 hlb hla hv'.symm
  simp only [u1, u2, u3, u4, v1, v3, Option.bind_some, rDist_refl 0 (l := []) (l' := []) rfl (by simp)]
  rfl
end Go.Proofs.Ytpigfmlahmapaaa
