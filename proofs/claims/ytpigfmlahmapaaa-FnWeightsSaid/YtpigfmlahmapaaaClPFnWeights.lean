/- The law FnWeights over plain values. No condition beside those of the statement. -/
import Derived.Test.YtpigfmlahmapaaaClMFnWeights
import Derived.Test.YtpigfmlahmapaaaRaiU5
set_option linter.unusedVariables false
set_option linter.unusedSimpArgs false
set_option maxRecDepth 100000
namespace Go.Proofs.Ytpigfmlahmapaaa
open Go Go.Rai
theorem Z4_lim {ι : Type} {R : ι → ι → Prop} (hD : Dir R) {F : Int → List D → Int → Int → List D → Option (List D × Int × Int × List D)} {Fs : ι → Int → List D → Int → Int → List D → Option (List D × Int × Int × List D)} (h : ∀ x0 x1 x2 x3 x4, Lim R (F x0 x1 x2 x3 x4) (fun i => Fs i x0 x1 x2 x3 x4)) (x0 : Int) (x1 : List D) (x2 : Int) (x3 : Int) (x4 : List D)  : Lim R (c_Z4 F x0 x1 x2 x3 x4 some) (fun i => c_Z4 (Fs i) x0 x1 x2 x3 x4 some) := by
 unfold c_Z4
 repeat' first
  | exact Lim.const hD
  | exact h _ _ _ _ _
  | apply Lim.ite
  | apply Lim.cond
  | apply Lim.bind hD
  | apply Lim.sum
  | intro _
theorem Z4_fx (x0 : Int) (x1 : List D) (x2 : Int) (x3 : Int) (x4 : List D)  : Z4 x0 x1 x2 x3 x4 = c_Z4 Z4 x0 x1 x2 x3 x4 some :=
 fix_eq (N := fun n (p : Int × List D × Int × Int × List D) => n_Z4 n p.1 p.2.1 p.2.2.1 p.2.2.2.1 p.2.2.2.2) (C := fun f p => c_Z4 (fun x0 x1 x2 x3 x4 => f (x0, x1, x2, x3, x4)) p.1 p.2.1 p.2.2.1 p.2.2.2.1 p.2.2.2.2 some) (fun _ => rfl) (fun _ _ => rfl) (fun hD f fs h p => Z4_lim hD (fun x0 x1 x2 x3 x4 => h (x0, x1, x2, x3, x4)) _ _ _ _ _) (x0, x1, x2, x3, x4)
theorem Z13_lim {ι : Type} {R : ι → ι → Prop} (hD : Dir R) {F : Int → Int → Option (Int)} {Fs : ι → Int → Int → Option (Int)} (h : ∀ x0 x1, Lim R (F x0 x1) (fun i => Fs i x0 x1)) (x0 : Int) (x1 : Int)  : Lim R (c_Z13 F x0 x1 some) (fun i => c_Z13 (Fs i) x0 x1 some) := by
 unfold c_Z13
 repeat' first
  | exact Lim.const hD
  | exact h _ _
  | apply Lim.ite
  | apply Lim.cond
  | apply Lim.bind hD
  | apply Lim.sum
  | intro _
theorem Z13_fx (x0 : Int) (x1 : Int)  : Z13 x0 x1 = c_Z13 Z13 x0 x1 some :=
 fix_eq (N := fun n (p : Int × Int) => n_Z13 n p.1 p.2) (C := fun f p => c_Z13 (fun x0 x1 => f (x0, x1)) p.1 p.2 some) (fun _ => rfl) (fun _ _ => rfl) (fun hD f fs h p => Z13_lim hD (fun x0 x1 => h (x0, x1)) _ _) (x0, x1)
theorem Z15_lim {ι : Type} {R : ι → ι → Prop} (hD : Dir R) {F : Int → List D → Int → Int → Option (Int)} {Fs : ι → Int → List D → Int → Int → Option (Int)} (h : ∀ x0 x1 x2 x3, Lim R (F x0 x1 x2 x3) (fun i => Fs i x0 x1 x2 x3)) (x0 : Int) (x1 : List D) (x2 : Int) (x3 : Int)  : Lim R (c_Z15 F x0 x1 x2 x3 some) (fun i => c_Z15 (Fs i) x0 x1 x2 x3 some) := by
 unfold c_Z15
 repeat' first
  | exact Lim.const hD
  | exact h _ _ _ _
  | apply Lim.ite
  | apply Lim.cond
  | apply Lim.bind hD
  | apply Lim.sum
  | intro _
theorem Z15_fx (x0 : Int) (x1 : List D) (x2 : Int) (x3 : Int)  : Z15 x0 x1 x2 x3 = c_Z15 Z15 x0 x1 x2 x3 some :=
 fix_eq (N := fun n (p : Int × List D × Int × Int) => n_Z15 n p.1 p.2.1 p.2.2.1 p.2.2.2) (C := fun f p => c_Z15 (fun x0 x1 x2 x3 => f (x0, x1, x2, x3)) p.1 p.2.1 p.2.2.1 p.2.2.2 some) (fun _ => rfl) (fun _ _ => rfl) (fun hD f fs h p => Z15_lim hD (fun x0 x1 x2 x3 => h (x0, x1, x2, x3)) _ _ _ _) (x0, x1, x2, x3)
theorem Z17_lim {ι : Type} {R : ι → ι → Prop} (hD : Dir R) {F : Int → List D → Int → Int → Int → Int → Option (Int × List D × Int × Int × Int × Int)} {Fs : ι → Int → List D → Int → Int → Int → Int → Option (Int × List D × Int × Int × Int × Int)} (h : ∀ x0 x1 x2 x3 x4 x5, Lim R (F x0 x1 x2 x3 x4 x5) (fun i => Fs i x0 x1 x2 x3 x4 x5)) (x0 : Int) (x1 : List D) (x2 : Int) (x3 : Int) (x4 : Int) (x5 : Int)  : Lim R (c_Z17 F x0 x1 x2 x3 x4 x5 some) (fun i => c_Z17 (Fs i) x0 x1 x2 x3 x4 x5 some) := by
 unfold c_Z17
 repeat' first
  | exact Lim.const hD
  | exact h _ _ _ _ _ _
  | apply Lim.ite
  | apply Lim.cond
  | apply Lim.bind hD
  | apply Lim.sum
  | intro _
theorem Z17_fx (x0 : Int) (x1 : List D) (x2 : Int) (x3 : Int) (x4 : Int) (x5 : Int)  : Z17 x0 x1 x2 x3 x4 x5 = c_Z17 Z17 x0 x1 x2 x3 x4 x5 some :=
 fix_eq (N := fun n (p : Int × List D × Int × Int × Int × Int) => n_Z17 n p.1 p.2.1 p.2.2.1 p.2.2.2.1 p.2.2.2.2.1 p.2.2.2.2.2) (C := fun f p => c_Z17 (fun x0 x1 x2 x3 x4 x5 => f (x0, x1, x2, x3, x4, x5)) p.1 p.2.1 p.2.2.1 p.2.2.2.1 p.2.2.2.2.1 p.2.2.2.2.2 some) (fun _ => rfl) (fun _ _ => rfl) (fun hD f fs h p => Z17_lim hD (fun x0 x1 x2 x3 x4 x5 => h (x0, x1, x2, x3, x4, x5)) _ _ _ _ _ _) (x0, x1, x2, x3, x4, x5)
theorem Z18_lim {ι : Type} {R : ι → ι → Prop} (hD : Dir R) {F : Int → List D → Int → Int → Int → Int → Option (Int × List D × Int × Int × Int × Int)} {Fs : ι → Int → List D → Int → Int → Int → Int → Option (Int × List D × Int × Int × Int × Int)} (h : ∀ x0 x1 x2 x3 x4 x5, Lim R (F x0 x1 x2 x3 x4 x5) (fun i => Fs i x0 x1 x2 x3 x4 x5)) (x0 : Int) (x1 : List D) (x2 : Int) (x3 : Int) (x4 : Int) (x5 : Int)  : Lim R (c_Z18 F x0 x1 x2 x3 x4 x5 some) (fun i => c_Z18 (Fs i) x0 x1 x2 x3 x4 x5 some) := by
 unfold c_Z18
 repeat' first
  | exact Lim.const hD
  | exact h _ _ _ _ _ _
  | apply Lim.ite
  | apply Lim.cond
  | apply Lim.bind hD
  | apply Lim.sum
  | intro _
theorem Z18_fx (x0 : Int) (x1 : List D) (x2 : Int) (x3 : Int) (x4 : Int) (x5 : Int)  : Z18 x0 x1 x2 x3 x4 x5 = c_Z18 Z18 x0 x1 x2 x3 x4 x5 some :=
 fix_eq (N := fun n (p : Int × List D × Int × Int × Int × Int) => n_Z18 n p.1 p.2.1 p.2.2.1 p.2.2.2.1 p.2.2.2.2.1 p.2.2.2.2.2) (C := fun f p => c_Z18 (fun x0 x1 x2 x3 x4 x5 => f (x0, x1, x2, x3, x4, x5)) p.1 p.2.1 p.2.2.1 p.2.2.2.1 p.2.2.2.2.1 p.2.2.2.2.2 some) (fun _ => rfl) (fun _ _ => rfl) (fun hD f fs h p => Z18_lim hD (fun x0 x1 x2 x3 x4 x5 => h (x0, x1, x2, x3, x4, x5)) _ _ _ _ _ _) (x0, x1, x2, x3, x4, x5)
theorem Z19_lim {ι : Type} {R : ι → ι → Prop} (hD : Dir R) {F : Int → List D → Int → Int → Int → Int → List D → Option (Int × Int × List D)} {Fs : ι → Int → List D → Int → Int → Int → Int → List D → Option (Int × Int × List D)} (h : ∀ x0 x1 x2 x3 x4 x5 x6, Lim R (F x0 x1 x2 x3 x4 x5 x6) (fun i => Fs i x0 x1 x2 x3 x4 x5 x6)) (x0 : Int) (x1 : List D) (x2 : Int) (x3 : Int) (x4 : Int) (x5 : Int) (x6 : List D)  : Lim R (c_Z19 F x0 x1 x2 x3 x4 x5 x6 some) (fun i => c_Z19 (Fs i) x0 x1 x2 x3 x4 x5 x6 some) := by
 unfold c_Z19
 repeat' first
  | exact Lim.const hD
  | exact h _ _ _ _ _ _ _
  | apply Lim.ite
  | apply Lim.cond
  | apply Lim.bind hD
  | apply Lim.sum
  | intro _
theorem Z19_fx (x0 : Int) (x1 : List D) (x2 : Int) (x3 : Int) (x4 : Int) (x5 : Int) (x6 : List D)  : Z19 x0 x1 x2 x3 x4 x5 x6 = c_Z19 Z19 x0 x1 x2 x3 x4 x5 x6 some :=
 fix_eq (N := fun n (p : Int × List D × Int × Int × Int × Int × List D) => n_Z19 n p.1 p.2.1 p.2.2.1 p.2.2.2.1 p.2.2.2.2.1 p.2.2.2.2.2.1 p.2.2.2.2.2.2) (C := fun f p => c_Z19 (fun x0 x1 x2 x3 x4 x5 x6 => f (x0, x1, x2, x3, x4, x5, x6)) p.1 p.2.1 p.2.2.1 p.2.2.2.1 p.2.2.2.2.1 p.2.2.2.2.2.1 p.2.2.2.2.2.2 some) (fun _ => rfl) (fun _ _ => rfl) (fun hD f fs h p => Z19_lim hD (fun x0 x1 x2 x3 x4 x5 x6 => h (x0, x1, x2, x3, x4, x5, x6)) _ _ _ _ _ _ _) (x0, x1, x2, x3, x4, x5, x6)
theorem Z20_lim {ι : Type} {R : ι → ι → Prop} (hD : Dir R) {F : Int → List D → Int → Int → Int → Int → Option ((Int × Int × List D) ⊕ (Int × Int))} {Fs : ι → Int → List D → Int → Int → Int → Int → Option ((Int × Int × List D) ⊕ (Int × Int))} (h : ∀ x0 x1 x2 x3 x4 x5, Lim R (F x0 x1 x2 x3 x4 x5) (fun i => Fs i x0 x1 x2 x3 x4 x5)) (x0 : Int) (x1 : List D) (x2 : Int) (x3 : Int) (x4 : Int) (x5 : Int)  : Lim R (c_Z20 F x0 x1 x2 x3 x4 x5 some) (fun i => c_Z20 (Fs i) x0 x1 x2 x3 x4 x5 some) := by
 unfold c_Z20
 repeat' first
  | exact Lim.const hD
  | exact h _ _ _ _ _ _
  | apply Lim.ite
  | apply Lim.cond
  | apply Lim.bind hD
  | apply Lim.sum
  | intro _
theorem Z20_fx (x0 : Int) (x1 : List D) (x2 : Int) (x3 : Int) (x4 : Int) (x5 : Int)  : Z20 x0 x1 x2 x3 x4 x5 = c_Z20 Z20 x0 x1 x2 x3 x4 x5 some :=
 fix_eq (N := fun n (p : Int × List D × Int × Int × Int × Int) => n_Z20 n p.1 p.2.1 p.2.2.1 p.2.2.2.1 p.2.2.2.2.1 p.2.2.2.2.2) (C := fun f p => c_Z20 (fun x0 x1 x2 x3 x4 x5 => f (x0, x1, x2, x3, x4, x5)) p.1 p.2.1 p.2.2.1 p.2.2.2.1 p.2.2.2.2.1 p.2.2.2.2.2 some) (fun _ => rfl) (fun _ _ => rfl) (fun hD f fs h p => Z20_lim hD (fun x0 x1 x2 x3 x4 x5 => h (x0, x1, x2, x3, x4, x5)) _ _ _ _ _ _) (x0, x1, x2, x3, x4, x5)
theorem Z32_lim {ι : Type} {R : ι → ι → Prop} (hD : Dir R) {F : Int → List D → Int → Int → Int → Int → Option (Int × List D × Int × Int × Int × Int)} {Fs : ι → Int → List D → Int → Int → Int → Int → Option (Int × List D × Int × Int × Int × Int)} (h : ∀ x0 x1 x2 x3 x4 x5, Lim R (F x0 x1 x2 x3 x4 x5) (fun i => Fs i x0 x1 x2 x3 x4 x5)) (x0 : Int) (x1 : List D) (x2 : Int) (x3 : Int) (x4 : Int) (x5 : Int)  : Lim R (c_Z32 F x0 x1 x2 x3 x4 x5 some) (fun i => c_Z32 (Fs i) x0 x1 x2 x3 x4 x5 some) := by
 unfold c_Z32
 repeat' first
  | exact Lim.const hD
  | exact h _ _ _ _ _ _
  | apply Lim.ite
  | apply Lim.cond
  | apply Lim.bind hD
  | apply Lim.sum
  | intro _
theorem Z32_fx (x0 : Int) (x1 : List D) (x2 : Int) (x3 : Int) (x4 : Int) (x5 : Int)  : Z32 x0 x1 x2 x3 x4 x5 = c_Z32 Z32 x0 x1 x2 x3 x4 x5 some :=
 fix_eq (N := fun n (p : Int × List D × Int × Int × Int × Int) => n_Z32 n p.1 p.2.1 p.2.2.1 p.2.2.2.1 p.2.2.2.2.1 p.2.2.2.2.2) (C := fun f p => c_Z32 (fun x0 x1 x2 x3 x4 x5 => f (x0, x1, x2, x3, x4, x5)) p.1 p.2.1 p.2.2.1 p.2.2.2.1 p.2.2.2.2.1 p.2.2.2.2.2 some) (fun _ => rfl) (fun _ _ => rfl) (fun hD f fs h p => Z32_lim hD (fun x0 x1 x2 x3 x4 x5 => h (x0, x1, x2, x3, x4, x5)) _ _ _ _ _ _) (x0, x1, x2, x3, x4, x5)
theorem Z33_lim {ι : Type} {R : ι → ι → Prop} (hD : Dir R) {F : Int → List D → Int → Int → Int → Int → Option (Int × List D × Int × Int × Int × Int)} {Fs : ι → Int → List D → Int → Int → Int → Int → Option (Int × List D × Int × Int × Int × Int)} (h : ∀ x0 x1 x2 x3 x4 x5, Lim R (F x0 x1 x2 x3 x4 x5) (fun i => Fs i x0 x1 x2 x3 x4 x5)) (x0 : Int) (x1 : List D) (x2 : Int) (x3 : Int) (x4 : Int) (x5 : Int)  : Lim R (c_Z33 F x0 x1 x2 x3 x4 x5 some) (fun i => c_Z33 (Fs i) x0 x1 x2 x3 x4 x5 some) := by
 unfold c_Z33
 repeat' first
  | exact Lim.const hD
  | exact h _ _ _ _ _ _
  | apply Lim.ite
  | apply Lim.cond
  | apply Lim.bind hD
  | apply Lim.sum
  | intro _
theorem Z33_fx (x0 : Int) (x1 : List D) (x2 : Int) (x3 : Int) (x4 : Int) (x5 : Int)  : Z33 x0 x1 x2 x3 x4 x5 = c_Z33 Z33 x0 x1 x2 x3 x4 x5 some :=
 fix_eq (N := fun n (p : Int × List D × Int × Int × Int × Int) => n_Z33 n p.1 p.2.1 p.2.2.1 p.2.2.2.1 p.2.2.2.2.1 p.2.2.2.2.2) (C := fun f p => c_Z33 (fun x0 x1 x2 x3 x4 x5 => f (x0, x1, x2, x3, x4, x5)) p.1 p.2.1 p.2.2.1 p.2.2.2.1 p.2.2.2.2.1 p.2.2.2.2.2 some) (fun _ => rfl) (fun _ _ => rfl) (fun hD f fs h p => Z33_lim hD (fun x0 x1 x2 x3 x4 x5 => h (x0, x1, x2, x3, x4, x5)) _ _ _ _ _ _) (x0, x1, x2, x3, x4, x5)
theorem Z34_lim {ι : Type} {R : ι → ι → Prop} (hD : Dir R) {F : Int → Int → Option (Int)} {Fs : ι → Int → Int → Option (Int)} (h : ∀ x0 x1, Lim R (F x0 x1) (fun i => Fs i x0 x1)) (x0 : Int) (x1 : Int)  : Lim R (c_Z34 F x0 x1 some) (fun i => c_Z34 (Fs i) x0 x1 some) := by
 unfold c_Z34
 repeat' first
  | exact Lim.const hD
  | exact h _ _
  | apply Lim.ite
  | apply Lim.cond
  | apply Lim.bind hD
  | apply Lim.sum
  | intro _
theorem Z34_fx (x0 : Int) (x1 : Int)  : Z34 x0 x1 = c_Z34 Z34 x0 x1 some :=
 fix_eq (N := fun n (p : Int × Int) => n_Z34 n p.1 p.2) (C := fun f p => c_Z34 (fun x0 x1 => f (x0, x1)) p.1 p.2 some) (fun _ => rfl) (fun _ _ => rfl) (fun hD f fs h p => Z34_lim hD (fun x0 x1 => h (x0, x1)) _ _) (x0, x1)
theorem Z36_lim {ι : Type} {R : ι → ι → Prop} (hD : Dir R) {F : Int → List D → Int → Int → Int → Int → Int → Int → Option (Int × List D × Int × Int × Int × Int × Int)} {Fs : ι → Int → List D → Int → Int → Int → Int → Int → Int → Option (Int × List D × Int × Int × Int × Int × Int)} (h : ∀ x0 x1 x2 x3 x4 x5 x6 x7, Lim R (F x0 x1 x2 x3 x4 x5 x6 x7) (fun i => Fs i x0 x1 x2 x3 x4 x5 x6 x7)) (x0 : Int) (x1 : List D) (x2 : Int) (x3 : Int) (x4 : Int) (x5 : Int) (x6 : Int) (x7 : Int)  : Lim R (c_Z36 F x0 x1 x2 x3 x4 x5 x6 x7 some) (fun i => c_Z36 (Fs i) x0 x1 x2 x3 x4 x5 x6 x7 some) := by
 unfold c_Z36
 repeat' first
  | exact Lim.const hD
  | exact h _ _ _ _ _ _ _ _
  | apply Lim.ite
  | apply Lim.cond
  | apply Lim.bind hD
  | apply Lim.sum
  | intro _
theorem Z36_fx (x0 : Int) (x1 : List D) (x2 : Int) (x3 : Int) (x4 : Int) (x5 : Int) (x6 : Int) (x7 : Int)  : Z36 x0 x1 x2 x3 x4 x5 x6 x7 = c_Z36 Z36 x0 x1 x2 x3 x4 x5 x6 x7 some :=
 fix_eq (N := fun n (p : Int × List D × Int × Int × Int × Int × Int × Int) => n_Z36 n p.1 p.2.1 p.2.2.1 p.2.2.2.1 p.2.2.2.2.1 p.2.2.2.2.2.1 p.2.2.2.2.2.2.1 p.2.2.2.2.2.2.2) (C := fun f p => c_Z36 (fun x0 x1 x2 x3 x4 x5 x6 x7 => f (x0, x1, x2, x3, x4, x5, x6, x7)) p.1 p.2.1 p.2.2.1 p.2.2.2.1 p.2.2.2.2.1 p.2.2.2.2.2.1 p.2.2.2.2.2.2.1 p.2.2.2.2.2.2.2 some) (fun _ => rfl) (fun _ _ => rfl) (fun hD f fs h p => Z36_lim hD (fun x0 x1 x2 x3 x4 x5 x6 x7 => h (x0, x1, x2, x3, x4, x5, x6, x7)) _ _ _ _ _ _ _ _) (x0, x1, x2, x3, x4, x5, x6, x7)
theorem Z37_lim {ι : Type} {R : ι → ι → Prop} (hD : Dir R) {F : List D → Int → Int → Int → Int → Int → Int → List D → Option (Int × Int × Int × List D)} {Fs : ι → List D → Int → Int → Int → Int → Int → Int → List D → Option (Int × Int × Int × List D)} (h : ∀ x0 x1 x2 x3 x4 x5 x6 x7, Lim R (F x0 x1 x2 x3 x4 x5 x6 x7) (fun i => Fs i x0 x1 x2 x3 x4 x5 x6 x7)) (x0 : List D) (x1 : Int) (x2 : Int) (x3 : Int) (x4 : Int) (x5 : Int) (x6 : Int) (x7 : List D)  : Lim R (c_Z37 F x0 x1 x2 x3 x4 x5 x6 x7 some) (fun i => c_Z37 (Fs i) x0 x1 x2 x3 x4 x5 x6 x7 some) := by
 unfold c_Z37
 repeat' first
  | exact Lim.const hD
  | exact h _ _ _ _ _ _ _ _
  | apply Lim.ite
  | apply Lim.cond
  | apply Lim.bind hD
  | apply Lim.sum
  | intro _
theorem Z37_fx (x0 : List D) (x1 : Int) (x2 : Int) (x3 : Int) (x4 : Int) (x5 : Int) (x6 : Int) (x7 : List D)  : Z37 x0 x1 x2 x3 x4 x5 x6 x7 = c_Z37 Z37 x0 x1 x2 x3 x4 x5 x6 x7 some :=
 fix_eq (N := fun n (p : List D × Int × Int × Int × Int × Int × Int × List D) => n_Z37 n p.1 p.2.1 p.2.2.1 p.2.2.2.1 p.2.2.2.2.1 p.2.2.2.2.2.1 p.2.2.2.2.2.2.1 p.2.2.2.2.2.2.2) (C := fun f p => c_Z37 (fun x0 x1 x2 x3 x4 x5 x6 x7 => f (x0, x1, x2, x3, x4, x5, x6, x7)) p.1 p.2.1 p.2.2.1 p.2.2.2.1 p.2.2.2.2.1 p.2.2.2.2.2.1 p.2.2.2.2.2.2.1 p.2.2.2.2.2.2.2 some) (fun _ => rfl) (fun _ _ => rfl) (fun hD f fs h p => Z37_lim hD (fun x0 x1 x2 x3 x4 x5 x6 x7 => h (x0, x1, x2, x3, x4, x5, x6, x7)) _ _ _ _ _ _ _ _) (x0, x1, x2, x3, x4, x5, x6, x7)
theorem Z38_lim {ι : Type} {R : ι → ι → Prop} (hD : Dir R) {F : Int → Int → Int → Int → List D → Option ((Bool × Int) ⊕ (Int))} {Fs : ι → Int → Int → Int → Int → List D → Option ((Bool × Int) ⊕ (Int))} (h : ∀ x0 x1 x2 x3 x4, Lim R (F x0 x1 x2 x3 x4) (fun i => Fs i x0 x1 x2 x3 x4)) (x0 : Int) (x1 : Int) (x2 : Int) (x3 : Int) (x4 : List D)  : Lim R (c_Z38 F x0 x1 x2 x3 x4 some) (fun i => c_Z38 (Fs i) x0 x1 x2 x3 x4 some) := by
 unfold c_Z38
 repeat' first
  | exact Lim.const hD
  | exact h _ _ _ _ _
  | apply Lim.ite
  | apply Lim.cond
  | apply Lim.bind hD
  | apply Lim.sum
  | intro _
theorem Z38_fx (x0 : Int) (x1 : Int) (x2 : Int) (x3 : Int) (x4 : List D)  : Z38 x0 x1 x2 x3 x4 = c_Z38 Z38 x0 x1 x2 x3 x4 some :=
 fix_eq (N := fun n (p : Int × Int × Int × Int × List D) => n_Z38 n p.1 p.2.1 p.2.2.1 p.2.2.2.1 p.2.2.2.2) (C := fun f p => c_Z38 (fun x0 x1 x2 x3 x4 => f (x0, x1, x2, x3, x4)) p.1 p.2.1 p.2.2.1 p.2.2.2.1 p.2.2.2.2 some) (fun _ => rfl) (fun _ _ => rfl) (fun hD f fs h p => Z38_lim hD (fun x0 x1 x2 x3 x4 => h (x0, x1, x2, x3, x4)) _ _ _ _ _) (x0, x1, x2, x3, x4)
theorem Z46_lim {ι : Type} {R : ι → ι → Prop} (hD : Dir R) {F : Int → List D → Int → Int → Option (Int)} {Fs : ι → Int → List D → Int → Int → Option (Int)} (h : ∀ x0 x1 x2 x3, Lim R (F x0 x1 x2 x3) (fun i => Fs i x0 x1 x2 x3)) (x0 : Int) (x1 : List D) (x2 : Int) (x3 : Int)  : Lim R (c_Z46 F x0 x1 x2 x3 some) (fun i => c_Z46 (Fs i) x0 x1 x2 x3 some) := by
 unfold c_Z46
 repeat' first
  | exact Lim.const hD
  | exact h _ _ _ _
  | apply Lim.ite
  | apply Lim.cond
  | apply Lim.bind hD
  | apply Lim.sum
  | intro _
theorem Z46_fx (x0 : Int) (x1 : List D) (x2 : Int) (x3 : Int)  : Z46 x0 x1 x2 x3 = c_Z46 Z46 x0 x1 x2 x3 some :=
 fix_eq (N := fun n (p : Int × List D × Int × Int) => n_Z46 n p.1 p.2.1 p.2.2.1 p.2.2.2) (C := fun f p => c_Z46 (fun x0 x1 x2 x3 => f (x0, x1, x2, x3)) p.1 p.2.1 p.2.2.1 p.2.2.2 some) (fun _ => rfl) (fun _ _ => rfl) (fun hD f fs h p => Z46_lim hD (fun x0 x1 x2 x3 => h (x0, x1, x2, x3)) _ _ _ _) (x0, x1, x2, x3)
theorem Z50_lim {ι : Type} {R : ι → ι → Prop} (hD : Dir R) {F : List D → Int → Int → Int → List D → Int → Int → List D → Option ((List D × Bool) ⊕ (List D))} {Fs : ι → List D → Int → Int → Int → List D → Int → Int → List D → Option ((List D × Bool) ⊕ (List D))} (h : ∀ x0 x1 x2 x3 x4 x5 x6 x7, Lim R (F x0 x1 x2 x3 x4 x5 x6 x7) (fun i => Fs i x0 x1 x2 x3 x4 x5 x6 x7)) (x0 : List D) (x1 : Int) (x2 : Int) (x3 : Int) (x4 : List D) (x5 : Int) (x6 : Int) (x7 : List D)  : Lim R (c_Z50 F x0 x1 x2 x3 x4 x5 x6 x7 some) (fun i => c_Z50 (Fs i) x0 x1 x2 x3 x4 x5 x6 x7 some) := by
 unfold c_Z50
 repeat' first
  | exact Lim.const hD
  | exact h _ _ _ _ _ _ _ _
  | apply Lim.ite
  | apply Lim.cond
  | apply Lim.bind hD
  | apply Lim.sum
  | intro _
theorem Z50_fx (x0 : List D) (x1 : Int) (x2 : Int) (x3 : Int) (x4 : List D) (x5 : Int) (x6 : Int) (x7 : List D)  : Z50 x0 x1 x2 x3 x4 x5 x6 x7 = c_Z50 Z50 x0 x1 x2 x3 x4 x5 x6 x7 some :=
 fix_eq (N := fun n (p : List D × Int × Int × Int × List D × Int × Int × List D) => n_Z50 n p.1 p.2.1 p.2.2.1 p.2.2.2.1 p.2.2.2.2.1 p.2.2.2.2.2.1 p.2.2.2.2.2.2.1 p.2.2.2.2.2.2.2) (C := fun f p => c_Z50 (fun x0 x1 x2 x3 x4 x5 x6 x7 => f (x0, x1, x2, x3, x4, x5, x6, x7)) p.1 p.2.1 p.2.2.1 p.2.2.2.1 p.2.2.2.2.1 p.2.2.2.2.2.1 p.2.2.2.2.2.2.1 p.2.2.2.2.2.2.2 some) (fun _ => rfl) (fun _ _ => rfl) (fun hD f fs h p => Z50_lim hD (fun x0 x1 x2 x3 x4 x5 x6 x7 => h (x0, x1, x2, x3, x4, x5, x6, x7)) _ _ _ _ _ _ _ _) (x0, x1, x2, x3, x4, x5, x6, x7)
theorem Z51_lim {ι : Type} {R : ι → ι → Prop} (hD : Dir R) {F : Int → Int → List D → Int → Int → Int → List D → Option (Int × List D × Int × Int × Int × List D)} {Fs : ι → Int → Int → List D → Int → Int → Int → List D → Option (Int × List D × Int × Int × Int × List D)} (h : ∀ x0 x1 x2 x3 x4 x5 x6, Lim R (F x0 x1 x2 x3 x4 x5 x6) (fun i => Fs i x0 x1 x2 x3 x4 x5 x6)) (x0 : Int) (x1 : Int) (x2 : List D) (x3 : Int) (x4 : Int) (x5 : Int) (x6 : List D)  : Lim R (c_Z51 F x0 x1 x2 x3 x4 x5 x6 some) (fun i => c_Z51 (Fs i) x0 x1 x2 x3 x4 x5 x6 some) := by
 unfold c_Z51
 repeat' first
  | exact Lim.const hD
  | exact h _ _ _ _ _ _ _
  | apply Lim.ite
  | apply Lim.cond
  | apply Lim.bind hD
  | apply Lim.sum
  | intro _
theorem Z51_fx (x0 : Int) (x1 : Int) (x2 : List D) (x3 : Int) (x4 : Int) (x5 : Int) (x6 : List D)  : Z51 x0 x1 x2 x3 x4 x5 x6 = c_Z51 Z51 x0 x1 x2 x3 x4 x5 x6 some :=
 fix_eq (N := fun n (p : Int × Int × List D × Int × Int × Int × List D) => n_Z51 n p.1 p.2.1 p.2.2.1 p.2.2.2.1 p.2.2.2.2.1 p.2.2.2.2.2.1 p.2.2.2.2.2.2) (C := fun f p => c_Z51 (fun x0 x1 x2 x3 x4 x5 x6 => f (x0, x1, x2, x3, x4, x5, x6)) p.1 p.2.1 p.2.2.1 p.2.2.2.1 p.2.2.2.2.1 p.2.2.2.2.2.1 p.2.2.2.2.2.2 some) (fun _ => rfl) (fun _ _ => rfl) (fun hD f fs h p => Z51_lim hD (fun x0 x1 x2 x3 x4 x5 x6 => h (x0, x1, x2, x3, x4, x5, x6)) _ _ _ _ _ _ _) (x0, x1, x2, x3, x4, x5, x6)
theorem Z53_lim {ι : Type} {R : ι → ι → Prop} (hD : Dir R) {F : List D → Int → Int → Int → Int → List D → Option (List D × Int × Int × Int × Int × List D)} {Fs : ι → List D → Int → Int → Int → Int → List D → Option (List D × Int × Int × Int × Int × List D)} (h : ∀ x0 x1 x2 x3 x4 x5, Lim R (F x0 x1 x2 x3 x4 x5) (fun i => Fs i x0 x1 x2 x3 x4 x5)) (x0 : List D) (x1 : Int) (x2 : Int) (x3 : Int) (x4 : Int) (x5 : List D)  : Lim R (c_Z53 F x0 x1 x2 x3 x4 x5 some) (fun i => c_Z53 (Fs i) x0 x1 x2 x3 x4 x5 some) := by
 unfold c_Z53
 repeat' first
  | exact Lim.const hD
  | exact h _ _ _ _ _ _
  | apply Lim.ite
  | apply Lim.cond
  | apply Lim.bind hD
  | apply Lim.sum
  | intro _
theorem Z53_fx (x0 : List D) (x1 : Int) (x2 : Int) (x3 : Int) (x4 : Int) (x5 : List D)  : Z53 x0 x1 x2 x3 x4 x5 = c_Z53 Z53 x0 x1 x2 x3 x4 x5 some :=
 fix_eq (N := fun n (p : List D × Int × Int × Int × Int × List D) => n_Z53 n p.1 p.2.1 p.2.2.1 p.2.2.2.1 p.2.2.2.2.1 p.2.2.2.2.2) (C := fun f p => c_Z53 (fun x0 x1 x2 x3 x4 x5 => f (x0, x1, x2, x3, x4, x5)) p.1 p.2.1 p.2.2.1 p.2.2.2.1 p.2.2.2.2.1 p.2.2.2.2.2 some) (fun _ => rfl) (fun _ _ => rfl) (fun hD f fs h p => Z53_lim hD (fun x0 x1 x2 x3 x4 x5 => h (x0, x1, x2, x3, x4, x5)) _ _ _ _ _ _) (x0, x1, x2, x3, x4, x5)
theorem Z54_lim {ι : Type} {R : ι → ι → Prop} (hD : Dir R) {F : List D → Int → Int → Int → Int → List D → Option ((List D × Int × Int × Int × Int × List D) ⊕ (List D × Int × Int × Int × Int × List D))} {Fs : ι → List D → Int → Int → Int → Int → List D → Option ((List D × Int × Int × Int × Int × List D) ⊕ (List D × Int × Int × Int × Int × List D))} (h : ∀ x0 x1 x2 x3 x4 x5, Lim R (F x0 x1 x2 x3 x4 x5) (fun i => Fs i x0 x1 x2 x3 x4 x5)) (x0 : List D) (x1 : Int) (x2 : Int) (x3 : Int) (x4 : Int) (x5 : List D)  : Lim R (c_Z54 F x0 x1 x2 x3 x4 x5 some) (fun i => c_Z54 (Fs i) x0 x1 x2 x3 x4 x5 some) := by
 unfold c_Z54
 repeat' first
  | exact Lim.const hD
  | exact h _ _ _ _ _ _
  | apply Lim.ite
  | apply Lim.cond
  | apply Lim.bind hD
  | apply Lim.sum
  | intro _
theorem Z54_fx (x0 : List D) (x1 : Int) (x2 : Int) (x3 : Int) (x4 : Int) (x5 : List D)  : Z54 x0 x1 x2 x3 x4 x5 = c_Z54 Z54 x0 x1 x2 x3 x4 x5 some :=
 fix_eq (N := fun n (p : List D × Int × Int × Int × Int × List D) => n_Z54 n p.1 p.2.1 p.2.2.1 p.2.2.2.1 p.2.2.2.2.1 p.2.2.2.2.2) (C := fun f p => c_Z54 (fun x0 x1 x2 x3 x4 x5 => f (x0, x1, x2, x3, x4, x5)) p.1 p.2.1 p.2.2.1 p.2.2.2.1 p.2.2.2.2.1 p.2.2.2.2.2 some) (fun _ => rfl) (fun _ _ => rfl) (fun hD f fs h p => Z54_lim hD (fun x0 x1 x2 x3 x4 x5 => h (x0, x1, x2, x3, x4, x5)) _ _ _ _ _ _) (x0, x1, x2, x3, x4, x5)
theorem l1In_eq (x a b : Int) : Z30 x a b = some (btw x a b) := by
 unfold Z30 c_Z30 btw
 by_cases h : a ≤ x <;> simp [h]
theorem within_eq (x a b : Int) : Z7 x a b = some (btw x a b) := by
 unfold Z7 c_Z7 btw
 by_cases h : a ≤ x <;> simp [h]
def Tt {ι β : Type} (I : ι → Prop) (P : β → Prop) (e : ι → Option β) : Prop := ∃ y, P y ∧ ∀ i, I i → e i = some y
theorem Tt.pure {ι β : Type} {I : ι → Prop} {P : β → Prop} {y : β} (h : P y) : Tt I P (fun _ => some y) := ⟨y, h, fun _ _ => rfl⟩
theorem Tt.bind {ι α β : Type} {I : ι → Prop} {Q : α → Prop} {P : β → Prop} {t : ι → Option α} {f : α → ι → Option β} (h : Tt I Q t) (k : ∀ v, Q v → Tt I P (fun i => f v i)) :
  Tt I P (fun i => (t i).bind (fun v => f v i)) := by
 obtain ⟨v, hv, ht⟩ := h
 obtain ⟨y, hy, hk⟩ := k v hv
 exact ⟨y, hy, fun i hi => by show (t i).bind _ = _; rw [ht i hi]; exact hk i hi⟩
theorem Tt.ite {ι β : Type} {I : ι → Prop} {P : β → Prop} {c : Prop} [Decidable c] {x y : ι → Option β} (h : c) (k : Tt I P x) : Tt I P (fun i => if c then x i else y i) := by
 simpa only [if_pos h] using k
theorem Tt.cnd {ι β : Type} {I : ι → Prop} {P : β → Prop} {b : Bool} {x y : ι → Option β} (h1 : b = true → Tt I P x) (h2 : b = false → Tt I P y) : Tt I P (fun i => bif b then x i else y i) := by
 cases b with
 | true => exact h1 rfl
 | false => exact h2 rfl
theorem Tt.dec {ι β : Type} {I : ι → Prop} {P : β → Prop} {p : Prop} [Decidable p] {x y : ι → Option β} (h1 : p → Tt I P x) (h2 : ¬ p → Tt I P y) : Tt I P (fun i => bif decide p then x i else y i) :=
 Tt.cnd (fun h => h1 (of_decide_eq_true h)) (fun h => h2 (of_decide_eq_false h))
theorem Tt.ndec {ι β : Type} {I : ι → Prop} {P : β → Prop} {p : Prop} [Decidable p] {x y : ι → Option β} (h1 : ¬ p → Tt I P x) (h2 : p → Tt I P y) : Tt I P (fun i => bif !decide p then x i else y i) := by
 by_cases h : p
 ·simpa only [decide_eq_true h, Bool.not_true, cond_false] using h2 h
 ·simpa only [decide_eq_false h, Bool.not_false, cond_true] using h1 h
theorem Tt.con {ι β : Type} {I : ι → Prop} {Q : β → Prop} {t : Option β} (h : ∃ y, t = some y ∧ Q y) : Tt I Q (fun _ => t) := by
 obtain ⟨y, h1, h2⟩ := h
 exact ⟨y, h2, fun _ _ => h1⟩
theorem Tt.mono {ι β : Type} {I J : ι → Prop} {P Q : β → Prop} {e : ι → Option β} (h : Tt I P e) (hI : ∀ i, J i → I i) (hP : ∀ y, P y → Q y) : Tt J Q e := by
 obtain ⟨y, h1, h2⟩ := h
 exact ⟨y, hP y h1, fun i hi => h2 i (hI i hi)⟩
theorem Tt.out {β : Type} {P : β → Prop} {t : Option β} (h : Tt (fun _ : Unit => True) P (fun _ => t)) : ∃ y, t = some y ∧ P y := by
 obtain ⟨y, h1, h2⟩ := h
 exact ⟨y, h2 () trivial, h1⟩
theorem Tt.loop {X Y : Type} (N : Nat → X → Option Y) (Inv : X → Prop) (μ : X → Nat) (Post : X → Y → Prop)
  (step : ∀ x, Inv x → (∀ x', Inv x' → μ x' < μ x → Tt (fun m => μ x ≤ m) (Post x') (fun m => N m x')) → Tt (fun m => μ x ≤ m) (Post x) (fun m => N (m + 1) x)) :
  ∀ x, Inv x → ∃ y, ev (fun n => N n x) = some y ∧ Post x y := by
 have key : ∀ k x, Inv x → μ x ≤ k → Tt (fun m => μ x < m) (Post x) (fun m => N m x) := by
  intro k
  induction k with
  | zero =>
   intro x hi hk
   obtain ⟨y, h1, h2⟩ := step x hi (fun x' _ h => absurd h (by omega))
   refine ⟨y, h1, fun m hm => ?_⟩
   obtain ⟨m, rfl⟩ : ∃ m', m = m' + 1 := ⟨m - 1, by omega⟩
   exact h2 m (by omega)
  | succ k ih =>
   intro x hi hk
   obtain ⟨y, h1, h2⟩ := step x hi (fun x' hx' h => (ih x' hx' (by omega)).mono (fun m hm => by omega) (fun _ h => h))
   refine ⟨y, h1, fun m hm => ?_⟩
   obtain ⟨m, rfl⟩ : ∃ m', m = m' + 1 := ⟨m - 1, by omega⟩
   exact h2 m (by omega)
 intro x hi
 obtain ⟨y, h1, h2⟩ := key (μ x) x hi (Nat.le_refl _)
 exact ⟨y, ev_eq (μ x + 1) (fun m hm => h2 m (by omega)), h1⟩
theorem wq (n : Int) : IntKind.i64.wrap n = (n + 9223372036854775808) % 18446744073709551616 - 9223372036854775808 := by
 unfold IntKind.wrap
 simp [IntKind.signed, IntKind.bits]
 omega
def okC (c : List D) : Prop := c.length ≤ 65536 ∧ ∀ d ∈ c, 0 ≤ d.toInt ∧ d.toInt ≤ 255
theorem uwrap (n : Int) : IntKind.u64.wrap n = n % 18446744073709551616 := by
 unfold IntKind.wrap
 simp [IntKind.signed, IntKind.bits]
theorem and255 (r : Int) : 0 ≤ IntKind.i64.wrap (IntKind.u64.wrap (((BitVec.ofInt IntKind.u64.bits r &&& BitVec.ofInt IntKind.u64.bits 255).toNat : Nat) : Int)) ∧ IntKind.i64.wrap (IntKind.u64.wrap (((BitVec.ofInt IntKind.u64.bits r &&& BitVec.ofInt IntKind.u64.bits 255).toNat : Nat) : Int)) ≤ 255 := by
 have h2 : (BitVec.ofInt IntKind.u64.bits r &&& BitVec.ofInt IntKind.u64.bits 255).toNat ≤ (BitVec.ofInt IntKind.u64.bits 255).toNat := by
  rw [BitVec.toNat_and]; exact Nat.and_le_right
 have h3 : (BitVec.ofInt IntKind.u64.bits 255).toNat = 255 := by decide
 rw [h3] at h2
 rw [uwrap, wq]
 omega
theorem next_tot (c : List D) (h : okC c) (p s : Int) (hp : 0 ≤ p ∧ p ≤ 1099511627776) : ∃ y, Z1 c p s = some y ∧ (0 ≤ y.1 ∧ y.1 ≤ 255 ∧ y.2.1 = c ∧ y.2.2.1 = p + 1) := by
 have hw : IntKind.i64.wrap (p + 1) = p + 1 := wrap_id (by omega) (by omega)
 have a1 := fun r => and255 r
 refine Tt.out ?_
 unfold Z1 c_Z1
 rw [hw]
 by_cases hpl : p < (c.length : Int)
 ·rw [decide_eq_true hpl, cond_true]
  have hd := h.2 _ (getD_mem (show p.toNat < c.length by omega))
  have hv : IntKind.i64.wrap (c.getD p.toNat (D.int 0)).toInt = (c.getD p.toNat (D.int 0)).toInt := wrap_id (by omega) (by omega)
  refine Tt.ite (by omega) ?_
  refine Tt.dec (fun _ => ?_) (fun hn => absurd (show p + 1 ≤ (c.length : Int) by omega) hn)
  refine Tt.pure ?_
  exact ⟨by rw [hv]; exact hd.1, by rw [hv]; exact hd.2, rfl, rfl⟩
 ·rw [decide_eq_false hpl, cond_false]
  refine Tt.dec (fun hn => by exfalso; omega) (fun _ => ?_)
  refine Tt.ite (by decide) ?_
  refine Tt.pure ?_
  exact ⟨(a1 _).1, (a1 _).2, rfl, rfl⟩
attribute [local irreducible] Z1
theorem pick_tot (c : List D) (h : okC c) (p s n : Int) (hp : 0 ≤ p ∧ p ≤ 1099511627770) (hn : n ≤ 65536) : ∃ y, Z2 c p s n = some y ∧ (0 ≤ y.1 ∧ (y.1 < n ∨ y.1 = 0) ∧ y.2.1 = c ∧ p ≤ y.2.2.1 ∧ y.2.2.1 ≤ p + 2) := by
 refine Tt.out ?_
 unfold Z2 c_Z2
 refine Tt.dec (fun _ => ?_) (fun hn1 => ?_)
 ·refine Tt.pure ?_
  exact ⟨by simp, .inr rfl, rfl, by simp, by simp only; omega⟩
 ·refine Tt.bind (Tt.con (next_tot c h p s (by omega))) (fun v hv => ?_)
  obtain ⟨v1, v2, v3, v4⟩ := hv
  rw [v3, v4]
  refine Tt.dec (fun _ => ?_) (fun _ => ?_)
  ·refine Tt.bind (Tt.con (next_tot c h (p + 1) _ (by omega))) (fun w hw => ?_)
   obtain ⟨w1, w2, w3, w4⟩ := hw
   refine Tt.ite (by omega) ?_
   have hq : IntKind.i64.wrap (IntKind.i64.wrap (v.1 * 256) + w.1) = v.1 * 256 + w.1 := by
    rw [wrap_id (n := v.1 * 256) (by omega) (by omega), wrap_id (by omega) (by omega)]
   have hm : (v.1 * 256 + w.1).tmod n = (v.1 * 256 + w.1) % n := Int.tmod_eq_emod_of_nonneg (by omega)
   have m1 := Int.emod_nonneg (v.1 * 256 + w.1) (show n ≠ 0 by omega)
   have m2 := Int.emod_lt_of_pos (v.1 * 256 + w.1) (show 0 < n by omega)
   refine Tt.pure ?_
   exact ⟨by simp only; rw [hq, hm]; exact m1, .inl (by simp only; rw [hq, hm]; exact m2), w3, by simp only; omega, by simp only; omega⟩
  ·refine Tt.ite (by omega) ?_
   have hm : v.1.tmod n = v.1 % n := Int.tmod_eq_emod_of_nonneg v1
   have m1 := Int.emod_nonneg v.1 (show n ≠ 0 by omega)
   have m2 := Int.emod_lt_of_pos v.1 (show 0 < n by omega)
   refine Tt.pure ?_
   exact ⟨by simp only; rw [hm]; exact m1, .inl (by simp only; rw [hm]; exact m2), rfl, by simp only; omega, by simp only; omega⟩
attribute [local irreducible] Z2
theorem among_tot (c : List D) (h : okC c) (p s : Int) (l : List D) (hp : 0 ≤ p ∧ p ≤ 1099511627770) (hl : 1 ≤ l.length ∧ l.length ≤ 65536) : ∃ y, Z3 c p s l = some y ∧ ((∃ d ∈ l, y.1 = d.toInt) ∧ y.2.1 = c ∧ p ≤ y.2.2.1 ∧ y.2.2.1 ≤ p + 2) := by
 refine Tt.out ?_
 unfold Z3 c_Z3
 refine Tt.bind (Tt.con (pick_tot c h p s _ hp (by omega))) (fun v hv => ?_)
 refine Tt.ite (by omega) ?_
 refine Tt.ite (by omega) ?_
 refine Tt.pure ?_
 exact ⟨⟨_, getD_mem (show v.1.toNat < l.length by omega), rfl⟩, hv.2.2.1, hv.2.2.2.1, hv.2.2.2.2⟩
attribute [local irreducible] Z3
theorem okB {d : D} (h : wfD (.int .u8) d) : 0 ≤ d.toInt ∧ d.toInt ≤ 255 := by
 obtain ⟨n, rfl, h2⟩ := h
 simp [Lit.wf, IntKind.min, IntKind.max, IntKind.signed, IntKind.bits] at h2
 simp only [toInt_int]; omega
theorem pick_tot' (c : List D) (h : okC c) (p s n : Int) (hp : 0 ≤ p ∧ p ≤ 1099511627770) (hn : n ≤ 65536) : ∃ y, Z2 c p s n = some y ∧ ((0 ≤ y.1 ∧ (y.1 < n ∨ y.1 = 0)) ∧ y.2.1 = c ∧ p ≤ y.2.2.1 ∧ y.2.2.1 ≤ p + 2) := by
 obtain ⟨y, h1, h2, h3, h4⟩ := pick_tot c h p s n hp hn
 exact ⟨y, h1, ⟨h2, h3⟩, h4⟩
def iw (l : List D) : List Int := l.map D.toInt
theorem iw_len (l : List D) : (iw l).length = l.length := by simp [iw]
theorem iw_get (l : List D) (i : Nat) : (l.getD i (.int 0)).toInt = (iw l).getD i 0 := by
 simp only [iw, List.getD_eq_getElem?_getD, List.getElem?_map]
 cases l[i]? <;> rfl
theorem iw_mem {l : List D} {x : Int} (h : x ∈ iw l) : ∃ d ∈ l, d.toInt = x := by simpa [iw] using h
def bdL (B : Int) (l : List D) : Prop := (∀ d ∈ l, 0 ≤ d.toInt ∧ d.toInt ≤ B) ∧ (l.length : Int) * B ≤ 1000000000000000000
def pf (l : List D) (i : Nat) : Int := ((iw l).take i).sum
theorem pf_zero (l : List D) : pf l 0 = 0 := by simp [pf]
theorem pf_succ {l : List D} {i : Nat} (h : i < l.length) : pf l (i + 1) = pf l i + (l.getD i (.int 0)).toInt := by
 unfold pf
 have h' : i < (iw l).length := by rw [iw_len]; exact h
 rw [List.take_succ_eq_append_getElem h', List.sum_append, iw_get, List.getD_eq_getElem?_getD, List.getElem?_eq_getElem h']
 simp
theorem pf_all (l : List D) : pf l l.length = (iw l).sum := by
 unfold pf
 rw [List.take_of_length_le (by rw [iw_len]; exact Nat.le_refl _)]
theorem pf_bd {B : Int} {l : List D} (h : bdL B l) (hB : 0 ≤ B) : ∀ i, i ≤ l.length → 0 ≤ pf l i ∧ pf l i ≤ (i : Int) * B
 | 0, _ => by rw [pf_zero]; simp
 | i + 1, hi => by
  have ih := pf_bd h hB i (by omega)
  have hm := h.1 _ (getD_mem (show i < l.length by omega))
  rw [pf_succ (by omega)]
  have : ((i + 1 : Nat) : Int) * B = (i : Int) * B + B := by rw [Int.natCast_add, Int.add_mul]; simp
  omega
theorem pf_mono {B : Int} {l : List D} (h : bdL B l) : ∀ {i j : Nat}, i ≤ j → j ≤ l.length → pf l i ≤ pf l j := by
 intro i j hij
 induction j with
 | zero => intro _; rw [show i = 0 by omega]; exact Int.le_refl _
 | succ j ih =>
  intro hj
  by_cases he : i = j + 1
  ·subst he; exact Int.le_refl _
  ·have := ih (by omega) (by omega)
   have hm := h.1 _ (getD_mem (show j < l.length by omega))
   rw [pf_succ (by omega)]
   omega
theorem mulN {n B : Int} {i : Nat} (hi : (i : Int) ≤ n) (hB : 0 ≤ B) (h : n * B ≤ 1000000000000000000) : (i : Int) * B ≤ 1000000000000000000 := by
 have := Int.mul_le_mul_of_nonneg_right hi hB
 omega
theorem sumI_eq {B : Int} {l : List D} (h : bdL B l) (hB : 0 ≤ B) (hl : l.length ≤ 1048576) : Z47 l = some (pf l l.length) := by
 have key : ∀ (k i : Nat), i + k = l.length → Z46 (pf l i) l l.length i = some (pf l l.length) := by
  intro k
  induction k with
  | zero =>
   intro i hi
   rw [Z46_fx]
   unfold c_Z46
   rw [decide_eq_false (by omega), cond_false, show i = l.length by omega]
  | succ k ih =>
   intro i hi
   have hb := pf_bd h hB (i + 1) (by omega)
   have hn := mulN (i := i + 1) (by omega) hB h.2
   have e := pf_succ (l := l) (i := i) (by omega)
   rw [Z46_fx]
   unfold c_Z46
   rw [decide_eq_true (by omega), cond_true, if_pos (by omega), Int.toNat_natCast, ← e, wrap_id (by omega) (by omega), succ_wrap (by omega), ih (i + 1) (by omega)]
   rfl
 have := key l.length 0 (by omega)
 rw [pf_zero, show ((0 : Nat) : Int) = 0 from rfl] at this
 simp only [Z47, c_Z47, this, Option.bind_some]
theorem gcdS_eq : ∀ (b a : Nat), Z34 (a : Int) (b : Int) = some ((Nat.gcd a b : Nat) : Int) := by
 intro b
 induction b using Nat.strongRecOn with
 | _ b ih =>
  intro a
  rw [Z34_fx]
  unfold c_Z34
  by_cases h : b = 0
  ·subst h
   simp
  ·have h1 : ¬ (b : Int) = 0 := by omega
   rw [decide_eq_false h1, Bool.not_false, cond_true, if_pos h1, tmod_nat, ih (a % b) (Nat.mod_lt _ (by omega)) b]
   simp only [Option.bind_some]
   rw [Nat.gcd_comm a b, Nat.gcd_rec b a, Nat.gcd_comm (a % b) b]
theorem gcdI_eq : ∀ (b a : Nat), Z13 (a : Int) (b : Int) = some ((Nat.gcd a b : Nat) : Int) := by
 intro b
 induction b using Nat.strongRecOn with
 | _ b ih =>
  intro a
  rw [Z13_fx]
  unfold c_Z13
  by_cases h : b = 0
  ·subst h
   simp
  ·have h1 : ¬ (b : Int) = 0 := by omega
   rw [decide_eq_false h1, Bool.not_false, cond_true, if_pos h1, tmod_nat, ih (a % b) (Nat.mod_lt _ (by omega)) b]
   simp only [Option.bind_some]
   rw [Nat.gcd_comm a b, Nat.gcd_rec b a, Nat.gcd_comm (a % b) b]
theorem gS (a b : Nat) : Z35 (a : Int) (b : Int) = some ((Nat.gcd a b : Nat) : Int) := by
 simp only [Z35, c_Z35, gcdS_eq, Option.bind_some]
theorem gI (a b : Nat) : Z14 (a : Int) (b : Int) = some ((Nat.gcd a b : Nat) : Int) := by
 simp only [Z14, c_Z14, gcdI_eq, Option.bind_some]
def wt (l : List D) (i : Nat) : Nat := (l.getD i (.int 0)).toInt.toNat
def gp (l : List D) : Nat → Nat
 | 0 => 0
 | i + 1 => Nat.gcd (gp l i) (wt l i)
theorem wt_int {l : List D} {i : Nat} (h : ∀ d ∈ l, 0 ≤ d.toInt) (hi : i < l.length) : (l.getD i (.int 0)).toInt = ((wt l i : Nat) : Int) := by
 have := h _ (getD_mem hi)
 unfold wt
 omega
theorem divI_eq {l : List D} (h : ∀ d ∈ l, 0 ≤ d.toInt) (hl : l.length ≤ 1048576) : Z16 l = some ((gp l l.length : Nat) : Int) := by
 have key : ∀ (k i : Nat), i + k = l.length → Z15 ((gp l i : Nat) : Int) l l.length i = some ((gp l l.length : Nat) : Int) := by
  intro k
  induction k with
  | zero =>
   intro i hi
   rw [Z15_fx]
   unfold c_Z15
   rw [decide_eq_false (by omega), cond_false, show i = l.length by omega]
  | succ k ih =>
   intro i hi
   rw [Z15_fx]
   unfold c_Z15
   rw [decide_eq_true (by omega), cond_true, if_pos (by omega), Int.toNat_natCast, wt_int h (by omega), gI, succ_wrap (by omega)]
   simp only [Option.bind_some]
   rw [show Nat.gcd (gp l i) (wt l i) = gp l (i + 1) from rfl, ih (i + 1) (by omega)]
   rfl
 have := key l.length 0 (by omega)
 rw [show ((gp l 0 : Nat) : Int) = 0 from rfl, show ((0 : Nat) : Int) = 0 from rfl] at this
 simp only [Z16, c_Z16, this, Option.bind_some]
def badW (l : List D) (i : Nat) : Bool := !btw (l.getD i (.int 0)).toInt 0 1000000
def okW (l : List D) : Bool := (firstN (badW l) l.length).isNone
theorem okW_iff {l : List D} : okW l = true ↔ ∀ d ∈ l, 0 ≤ d.toInt ∧ d.toInt ≤ 1000000 := by
 unfold okW
 constructor
 ·intro h d hd
  obtain ⟨i, hi, rfl⟩ := List.mem_iff_getElem.1 hd
  have hn : firstN (badW l) l.length = none := by cases hq : firstN (badW l) l.length with | none => rfl | some _ => rw [hq] at h; cases h
  have := firstN_none hn i hi
  unfold badW at this
  rw [Bool.not_eq_false', btw_iff, List.getD_eq_getElem?_getD, List.getElem?_eq_getElem hi] at this
  exact this
 ·intro h
  cases hf : firstN (badW l) l.length with
  | none => rfl
  | some i =>
   obtain ⟨h1, h2, _⟩ := firstN_some hf
   have := h _ (getD_mem h1)
   unfold badW at h2
   rw [Bool.not_eq_true', ← Bool.not_eq_true, btw_iff] at h2
   exact absurd this h2
theorem good6 {l : List D} (hl : l.length ≤ 60) (f : Int) : Z38 l.length 0 0 f l = some (bif okW l then .inr ((gp l l.length : Nat) : Int) else .inl (false, (Z38 l.length 0 0 f l).elim 0 (Sum.elim (·.2) (fun _ => 0)))) := by
 have key : ∀ (k i : Nat), i + k = l.length → (∀ j, j < i → badW l j = false) → ∃ y, Z38 l.length ((gp l i : Nat) : Int) i f l = some y ∧ (okW l = true → y = .inr ((gp l l.length : Nat) : Int)) ∧ (okW l = false → ∃ z, y = .inl (false, z)) := by
  intro k
  induction k with
  | zero =>
   intro i hi hp
   rw [Z38_fx]
   unfold c_Z38
   rw [decide_eq_false (by omega), cond_false]
   refine ⟨_, rfl, fun _ => by rw [show i = l.length by omega], fun h => ?_⟩
   exfalso
   unfold okW at h
   cases hf : firstN (badW l) l.length with
   | none => rw [hf] at h; cases h
   | some j =>
    obtain ⟨h1, h2, _⟩ := firstN_some hf
    rw [hp j (by omega)] at h2; cases h2
  | succ k ih =>
   intro i hi hp
   rw [Z38_fx]
   unfold c_Z38
   rw [decide_eq_true (by omega), cond_true, if_pos (by omega), if_pos (by omega), Int.toNat_natCast, l1In_eq]
   simp only [Option.bind_some]
   cases hb : btw (l.getD i (.int 0)).toInt 0 1000000 with
   | false =>
    refine ⟨_, rfl, fun h => ?_, fun _ => ⟨_, rfl⟩⟩
    exfalso
    have := okW_iff.1 h _ (getD_mem (show i < l.length by omega))
    rw [← btw_iff, hb] at this; cases this
   | true =>
    have hbb := btw_iff.1 hb
    have hw : (l.getD i (.int 0)).toInt = ((wt l i : Nat) : Int) := by unfold wt; omega
    rw [hw, gS, succ_wrap (by omega)]
    simp only [Bool.not_true, cond_false, Option.bind_some, Option.bind_fun_some]
    exact ih (i + 1) (by omega) (fun j hj => by
     by_cases hji : j = i
     ·subst hji; unfold badW; rw [hb]; rfl
     ·exact hp j (by omega))
 obtain ⟨y, y1, y2, y3⟩ := key l.length 0 (by omega) (fun j hj => by omega)
 rw [show ((gp l 0 : Nat) : Int) = 0 from rfl, show ((0 : Nat) : Int) = 0 from rfl] at y1
 cases ho : okW l with
 | true => rw [y1, y2 ho]; rfl
 | false =>
  obtain ⟨z, rfl⟩ := y3 ho
  rw [y1]; rfl
theorem contW {l : List D} (hl : l.length ≤ 60) : Z25 l = some (!okW l) := by
 have : Z23 l l.length 0 = some (match firstN (badW l) l.length with | some i => .inl (i : Int) | none => .inr ()) := by
  refine scan_loop (N := fun m i => n_Z23 m l l.length i) _ (fun i => .inl (i : Int)) (fun m i hi => ?_) (fun m => ?_)
  ·show c_Z23 (n_Z23 m) l l.length i some = _
   unfold c_Z23
   rw [decide_eq_true (by omega), cond_true, if_pos (by omega), Int.toNat_natCast, wrap_id (by omega) (by omega)]
   simp only [Z22, c_Z22, within_eq, Option.bind_some, Option.bind_fun_some]
   rfl
  ·show c_Z23 (n_Z23 m) l l.length l.length some = _
   unfold c_Z23
   rw [decide_eq_false (by omega)]; rfl
 simp only [Z25, c_Z25, Z24, c_Z24, this, Option.bind_some]
 unfold okW
 cases firstN (badW l) l.length <;> simp
structure GoodD (f : Int) (l : List D) : Prop where
 n1 : 1 ≤ l.length
 n60 : l.length ≤ 60
 f1 : -20000 ≤ f
 f2 : f + l.length ≤ 2101
 ok : ∀ d ∈ l, 0 ≤ d.toInt ∧ d.toInt ≤ 1000000
 w0 : 0 < (l.getD 0 (.int 0)).toInt
 wn : 0 < (l.getD (l.length - 1) (.int 0)).toInt
 g : gp l l.length = 1
def goodB (f : Int) (l : List D) : Bool :=
 btw l.length 1 60 && (btw f (-20000) (2101 - l.length) && (decide (0 < (l.getD 0 (.int 0)).toInt) && (decide (0 < (l.getD (l.length - 1) (.int 0)).toInt) && (okW l && decide (gp l l.length = 1)))))
theorem goodB_iff {f : Int} {l : List D} : goodB f l = true ↔ GoodD f l := by
 unfold goodB
 simp only [Bool.and_eq_true, btw_iff, decide_eq_true_eq, okW_iff]
 constructor
 ·rintro ⟨⟨h1, h2⟩, ⟨h3, h4⟩, h5, h6, h7, h8⟩
  exact ⟨by omega, by omega, h3, by omega, h7, h5, h6, h8⟩
 ·rintro ⟨h1, h2, h3, h4, h5, h6, h7, h8⟩
  exact ⟨⟨by omega, by omega⟩, ⟨h3, by omega⟩, h6, h7, h5, h8⟩
theorem goodS (f : Int) (l : List D) (hl : l.length ≤ 1048576) : Z39 f l = some (goodB f l) := by
 simp only [Z39, c_Z39, l1In_eq, Option.bind_some]
 unfold goodB
 cases hb : btw (l.length : Int) 1 60 with
 | false => simp
 | true =>
  have hbb := btw_iff.1 hb
  have hw : IntKind.i64.wrap (IntKind.i64.wrap (2100 - (l.length : Int)) + 1) = 2101 - l.length := by
   rw [wrap_id (n := 2100 - (l.length : Int)) (by omega) (by omega), wrap_id (by omega) (by omega)]; omega
  rw [hw, pred_wrap (by omega) (by omega)]
  simp only [Bool.not_true, cond_false, Bool.true_and]
  cases hf : btw f (-20000) (2101 - (l.length : Int)) with
  | false => simp
  | true =>
   simp only [Bool.not_true, cond_false, Bool.true_and, Int.toNat_zero, Int.toNat_natCast]
   rw [if_pos (by omega), if_pos (by omega)]
   by_cases h0 : 0 < (l.getD 0 (.int 0)).toInt
   ·rw [decide_eq_false (show ¬ (l.getD 0 (D.int 0)).toInt ≤ 0 by omega), cond_false, decide_eq_true h0, Bool.true_and]
    by_cases hn : 0 < (l.getD (l.length - 1) (.int 0)).toInt
    ·rw [decide_eq_false (show ¬ (l.getD (l.length - 1) (D.int 0)).toInt ≤ 0 by omega), cond_false, decide_eq_true hn, Bool.true_and, good6 (by omega)]
     cases okW l with
     | false => rfl
     | true =>
      simp only [cond_true, Option.bind_some, Sum.elim_inr, Bool.true_and, Option.some.injEq]
      by_cases hg : gp l l.length = 1
      ·rw [hg]; rfl
      ·rw [decide_eq_false hg, decide_eq_false (by omega)]
    ·rw [decide_eq_true (show (l.getD (l.length - 1) (D.int 0)).toInt ≤ 0 by omega), cond_true, decide_eq_false hn]; rfl
   ·rw [decide_eq_true (show (l.getD 0 (D.int 0)).toInt ≤ 0 by omega), cond_true, decide_eq_false h0]; rfl
theorem goodI (f : Int) (l : List D) (hl : l.length ≤ 1048576) : Z26 f l = some (goodB f l) := by
 simp only [Z26, c_Z26, Z8, c_Z8, Z21, c_Z21, within_eq, Option.bind_some]
 unfold goodB
 cases hb : btw (l.length : Int) 1 60 with
 | false =>
  by_cases h1 : (l.length : Int) < 1
  ·simp [h1]
  ·have h2 : (60 : Int) < l.length := by
    have : ¬ (1 ≤ (l.length : Int) ∧ (l.length : Int) ≤ 60) := by rw [← btw_iff, hb]; simp
    omega
   simp [h1, h2]
 | true =>
  have hbb := btw_iff.1 hb
  rw [decide_eq_false (by omega), cond_false, decide_eq_false (by omega), cond_false, pred_wrap (by omega) (by omega)]
  simp only [Bool.true_and]
  cases hf : btw f (-20000) 2100 with
  | false =>
   have : btw f (-20000) (2101 - (l.length : Int)) = false := by
    cases hq : btw f (-20000) (2101 - (l.length : Int)) with
    | false => rfl
    | true => rw [btw_iff] at hq; have : btw f (-20000) 2100 = true := btw_iff.2 ⟨by omega, by omega⟩; rw [hf] at this; cases this
   rw [this]; rfl
  | true =>
   have hff := btw_iff.1 hf
   rw [wrap_id (n := f + (l.length : Int)) (by omega) (by omega), wrap_id (n := f + (l.length : Int) - 1) (by omega) (by omega)]
   have hsame : btw (f + (l.length : Int) - 1) (-20000) 2100 = btw f (-20000) (2101 - (l.length : Int)) := by
    rw [Bool.eq_iff_iff, btw_iff, btw_iff]; omega
   rw [hsame]
   simp only [Bool.not_true, cond_false]
   cases hl2 : btw f (-20000) (2101 - (l.length : Int)) with
   | false => rfl
   | true =>
    simp only [Bool.not_true, cond_false, Bool.true_and, contW (show l.length ≤ 60 by omega), Option.bind_some, Int.toNat_zero, Int.toNat_natCast]
    cases ho : okW l with
    | false => simp
    | true =>
     simp only [Bool.not_true, cond_false, Bool.true_and]
     rw [if_pos (by omega), if_pos (by omega)]
     by_cases h0 : 0 < (l.getD 0 (.int 0)).toInt
     ·rw [decide_eq_true h0, cond_true]
      by_cases hn : 0 < (l.getD (l.length - 1) (.int 0)).toInt
      ·rw [decide_eq_true hn, cond_true, divI_eq (fun d hd => (okW_iff.1 ho d hd).1) (by omega)]
       simp only [Option.bind_some, Bool.true_and, Option.some.injEq]
       by_cases hg : gp l l.length = 1
       ·rw [hg]; rfl
       ·rw [decide_eq_false hg, decide_eq_false (by omega)]
      ·rw [decide_eq_false hn, cond_false]; rfl
     ·rw [decide_eq_false h0, cond_false]; rfl
theorem GoodD.bd {f : Int} {l : List D} (h : GoodD f l) : bdL 1000000 l := ⟨h.ok, by have := h.n60; omega⟩
def nnL (l : List D) : Prop := (∀ d ∈ l, 0 ≤ d.toInt) ∧ l.length ≤ 400 ∧ ∀ d ∈ l, d.toInt ≤ 1000000000000000
theorem make3 (b a1 a2 : Int) {l : List D} (h : nnL l) : ∀ (k i : Nat), i + k = l.length → ∃ j, i ≤ j ∧ j ≤ l.length ∧ (∀ t, i ≤ t → t < j → wt l t = 0) ∧ (j < l.length → wt l j ≠ 0) ∧ Z32 b l i l.length a1 a2 = some (b, l, (j : Int), (l.length : Int), a1, a2)
 | 0, i, hk => by
  refine ⟨i, Nat.le_refl _, by omega, fun t _ _ => by omega, fun _ => by omega, ?_⟩
  rw [Z32_fx]
  unfold c_Z32
  rw [decide_eq_false (by omega)]; rfl
 | k + 1, i, hk => by
  have h400 := h.2.1
  rw [Z32_fx]
  unfold c_Z32
  rw [decide_eq_true (by omega), cond_true, if_pos (by omega), Int.toNat_natCast, wt_int h.1 (by omega)]
  by_cases hz : wt l i = 0
  ·obtain ⟨j, j1, j2, j3, j4, j5⟩ := make3 b a1 a2 h k (i + 1) (by omega)
   refine ⟨j, by omega, j2, fun t t1 t2 => ?_, j4, ?_⟩
   ·by_cases hti : t = i
    ·rw [hti]; exact hz
    ·exact j3 t (by omega) t2
   ·rw [decide_eq_true (by omega), cond_true, succ_wrap (by omega), j5]; rfl
  ·exact ⟨i, Nat.le_refl _, by omega, fun t _ _ => by omega, fun _ => hz, by rw [decide_eq_false (by omega)]; rfl⟩
theorem make5 (b a1 a2 : Int) {l : List D} (h : nnL l) (fr : Nat) : ∀ (k t : Nat), t ≤ k + fr → fr ≤ t → t ≤ l.length → ∃ j, fr ≤ j ∧ j ≤ t ∧ (∀ u, j ≤ u → u < t → wt l u = 0) ∧ (fr < j → wt l (j - 1) ≠ 0) ∧ Z33 b l fr t a1 a2 = some (b, l, (fr : Int), (j : Int), a1, a2)
 | 0, t, hk, h1, h2 => by
  refine ⟨t, h1, Nat.le_refl _, fun u _ _ => by omega, fun _ => by omega, ?_⟩
  rw [Z33_fx]
  unfold c_Z33
  rw [decide_eq_false (by omega)]; rfl
 | k + 1, t, hk, h1, h2 => by
  have h400 := h.2.1
  rw [Z33_fx]
  unfold c_Z33
  by_cases hlt : fr < t
  ·rw [decide_eq_true (by omega), cond_true, pred_wrap (by omega) (by omega), if_pos (by omega), Int.toNat_natCast, wt_int h.1 (by omega)]
   by_cases hz : wt l (t - 1) = 0
   ·obtain ⟨j, j1, j2, j3, j4, j5⟩ := make5 b a1 a2 h fr k (t - 1) (by omega) (by omega) (by omega)
    refine ⟨j, j1, by omega, fun u u1 u2 => ?_, j4, ?_⟩
    ·by_cases hut : u = t - 1
     ·rw [hut]; exact hz
     ·exact j3 u u1 (by omega)
    ·rw [decide_eq_true (by omega), cond_true, j5]; rfl
   ·exact ⟨t, h1, Nat.le_refl _, fun u _ _ => by omega, fun _ => hz, by rw [decide_eq_false (by omega)]; rfl⟩
  ·exact ⟨t, h1, Nat.le_refl _, fun u _ _ => by omega, fun _ => by omega, by rw [decide_eq_false (by omega)]; rfl⟩
def gq (l : List D) (fr : Nat) : Nat → Nat
 | 0 => 0
 | k + 1 => Nat.gcd (gq l fr k) (wt l (fr + k))
theorem make9 (b a1 a2 : Int) {l : List D} (h : nnL l) (fr t : Nat) (ht : t ≤ l.length) : ∀ (k i : Nat), fr + i + k = t → Z36 b l fr t ((gq l fr i : Nat) : Int) ((fr + i : Nat) : Int) a1 a2 = some (b, l, (fr : Int), (t : Int), ((gq l fr (t - fr) : Nat) : Int), a1, a2)
 | 0, i, hk => by
  rw [Z36_fx]
  unfold c_Z36
  rw [decide_eq_false (by omega), cond_false, show t - fr = i by omega]
 | k + 1, i, hk => by
  have h400 := h.2.1
  rw [Z36_fx]
  unfold c_Z36
  rw [decide_eq_true (by omega), cond_true, if_pos (by omega), Int.toNat_natCast, wt_int h.1 (by omega), gS, succ_wrap (by omega)]
  simp only [Option.bind_some, Option.bind_fun_some]
  rw [show Nat.gcd (gq l fr i) (wt l (fr + i)) = gq l fr (i + 1) from rfl, show fr + i + 1 = fr + (i + 1) by omega]
  exact make9 b a1 a2 h fr t ht k (i + 1) (by omega)
theorem gq_ne {l : List D} {fr : Nat} : ∀ {k : Nat}, (∃ i, i < k ∧ wt l (fr + i) ≠ 0) → gq l fr k ≠ 0
 | 0, ⟨i, hi, _⟩ => by omega
 | k + 1, ⟨i, hi, hw⟩ => by
  intro h0
  have := Nat.gcd_eq_zero_iff.1 (show Nat.gcd (gq l fr k) (wt l (fr + k)) = 0 from h0)
  by_cases hik : i = k
  ·subst hik; exact hw this.2
  ·exact gq_ne ⟨i, by omega, hw⟩ this.1
theorem make16 (a1 a2 a3 : Int) {l : List D} (h : nnL l) (d : Nat) (hd : d ≠ 0) (t : Nat) (ht : t ≤ l.length) : ∀ (k i : Nat) (acc : List D), i + k = t → acc.length ≤ i → Z37 l t d i a1 a2 a3 acc = some (a1, a2, a3, acc ++ ((l.drop i).take k).map (fun x => D.int (x.toInt.tdiv (d : Int))))
 | 0, i, acc, hk, ha => by
  rw [Z37_fx]
  unfold c_Z37
  rw [decide_eq_false (by omega)]; simp
 | k + 1, i, acc, hk, ha => by
  have h400 := h.2.1
  have hlt : i < l.length := by omega
  rw [Z37_fx]
  unfold c_Z37
  rw [decide_eq_true (by omega), cond_true, if_pos (by omega), if_pos (by omega), if_pos (by simp only [List.length_cons, List.length_nil]; omega), Int.toNat_natCast, succ_wrap (by omega)]
  have hcut : (l.drop i).take (k + 1) = l.getD i (.int 0) :: (l.drop (i + 1)).take k := by
   rw [List.getD_eq_getElem?_getD, drop_cons hlt, List.take_succ_cons]
  have hx := h.1 _ (getD_mem hlt)
  rw [hcut, List.map_cons]
  have hbig := h.2.2 _ (getD_mem hlt)
  rw [wrap_id (n := (l.getD i (D.int 0)).toInt.tdiv (d : Int)) (by rw [Int.tdiv_eq_ediv_of_nonneg hx]; have := Int.ediv_nonneg hx (show (0 : Int) ≤ (d : Int) by omega); omega) (by rw [Int.tdiv_eq_ediv_of_nonneg hx]; have := Int.ediv_le_self (d : Int) hx; omega)]
  rw [make16 a1 a2 a3 h d hd t ht k (i + 1) _ (by omega) (by simp only [List.length_append, List.length_cons, List.length_nil]; omega)]
  simp
def outL (l : List D) (fr t : Nat) : List D := ((l.drop fr).take (t - fr)).map (fun x => D.int (x.toInt.tdiv ((gq l fr (t - fr) : Nat) : Int)))
theorem outL_len {l : List D} {fr t : Nat} (h : fr ≤ t) (ht : t ≤ l.length) : (outL l fr t).length = t - fr := by
 simp only [outL, List.length_map, List.length_take, List.length_drop]; omega
structure Cut (l : List D) (fr t : Nat) : Prop where
 le : fr ≤ t
 len : t ≤ l.length
 lo : ∀ u, u < fr → wt l u = 0
 hi : ∀ u, t ≤ u → u < l.length → wt l u = 0
 fr0 : fr < t → wt l fr ≠ 0
 t0 : fr < t → wt l (t - 1) ≠ 0
theorem make_eq (f : Int) {l : List D} (h : nnL l) : ∃ fr t, Cut l fr t ∧
  Z40 f l = some (bif decide (fr = t) then (0, [], false) else bif goodB (IntKind.i64.wrap (f + (fr : Int))) (outL l fr t) then (IntKind.i64.wrap (f + (fr : Int)), outL l fr t, true) else (0, [], false)) := by
 have h400 := h.2.1
 obtain ⟨fr, e1, e2, e3, e4, e5⟩ := make3 f 0 0 h l.length 0 (by omega)
 obtain ⟨t, g1, g2, g3, g4, g5⟩ := make5 f 0 0 h fr l.length l.length (by omega) e2 (Nat.le_refl _)
 have g9 := make9 f 0 0 h fr t g2 (t - fr) 0 (by omega)
 rw [show ((gq l fr 0 : Nat) : Int) = 0 from rfl, Nat.add_zero] at g9
 rw [show ((0 : Nat) : Int) = 0 from rfl] at e5
 refine ⟨fr, t, ⟨g1, g2, fun u hu => e3 u (by omega) hu, fun u h1 h2 => g3 u h1 h2, fun hlt => e4 (by omega), g4⟩, ?_⟩
 simp only [Z40, c_Z40, e5, Option.bind_some, g5, g9]
 by_cases hft : fr = t
 ·rw [decide_eq_true (show (fr : Int) = (t : Int) by omega), cond_true, decide_eq_true hft, cond_true]
 ·rw [decide_eq_false (show ¬ (fr : Int) = (t : Int) by omega), cond_false, decide_eq_false hft, cond_false]
  have hne : gq l fr (t - fr) ≠ 0 := gq_ne ⟨0, by omega, by rw [Nat.add_zero]; exact e4 (by omega)⟩
  have g16 := make16 0 0 (IntKind.i64.wrap (f + (fr : Int))) h (gq l fr (t - fr)) hne t g2 (t - fr) fr [] (by omega) (by simp)
  rw [List.nil_append, show List.map (fun x => D.int (x.toInt.tdiv ((gq l fr (t - fr) : Nat) : Int))) (List.take (t - fr) (List.drop fr l)) = outL l fr t from rfl] at g16
  simp only [g16, Option.bind_some]
  rw [goodS _ _ (by rw [outL_len g1 g2]; omega)]
  simp only [Option.bind_some]
  cases goodB (IntKind.i64.wrap (f + (fr : Int))) (outL l fr t) <;> rfl
theorem make_len (f : Int) {l : List D} (h : nnL l) : ∃ y, Z40 f l = some y ∧ y.2.1.length ≤ l.length := by
 obtain ⟨fr, t, hc, he⟩ := make_eq f h
 refine ⟨_, he, ?_⟩
 cases decide (fr = t) with
 | true => simp
 | false =>
  rw [cond_false]
  cases goodB (IntKind.i64.wrap (f + (fr : Int))) (outL l fr t) with
  | false => simp
  | true => rw [cond_true]; simp only; rw [outL_len hc.le hc.len]; have := hc.len; omega
theorem near10_tot (c : List D) (hc : okC c) (p s : Int) (hp : 0 ≤ p ∧ p ≤ 1099511627000) : ∃ y, Z5 c p s = some y ∧ (True ∧ y.2.1 = c ∧ p ≤ y.2.2.1 ∧ y.2.2.1 ≤ p + 2) := by
 refine Tt.out ?_
 unfold Z5 c_Z5
 (refine Tt.bind (Tt.con (among_tot _ hc _ _ _ (by omega) (by simp))) ?_; rintro ⟨v, c', p', s'⟩ ⟨hv, rfl, hp1, hp2⟩; dsimp only at hv hp1 hp2 ⊢)
 exact Tt.pure ⟨trivial, rfl, by simp only; omega, by simp only; omega⟩
theorem distr3_tot (c : List D) (hc : okC c) (x0 x5 : Int) : ∀ (k : Nat) (n p s : Int) (l : List D), n.toNat ≤ k → n ≤ 100 → 0 ≤ p → p + 10 * k ≤ 1099511620000 → l.length + k ≤ 300 → (∀ d ∈ l, 0 ≤ d.toInt ∧ d.toInt ≤ 10) →
  ∃ y, Z51 x0 n c p s x5 l = some y ∧ ((y.1 = x0 ∧ y.2.2.2.2.2.length ≤ l.length + k ∧ ∀ d ∈ y.2.2.2.2.2, 0 ≤ d.toInt ∧ d.toInt ≤ 10) ∧ y.2.1 = c ∧ p ≤ y.2.2.1 ∧ y.2.2.1 ≤ p + 10 * k)
 | k, n, p, s, l, hk, hn, hp0, hp, hl, hd => by
  rw [Z51_fx]
  refine Tt.out ?_
  unfold c_Z51
  refine Tt.dec (fun hlt => ?_) (fun hlt => Tt.pure ⟨⟨rfl, by simp only; omega, hd⟩, rfl, by simp only; omega, by simp only; omega⟩)
  cases k with
  | zero => omega
  | succ k =>
   refine Tt.bind (Tt.con (among_tot _ hc _ _ _ (by omega) (by simp))) ?_
   rintro ⟨v, c', p', s'⟩ ⟨⟨d, hdm, hv⟩, rfl, hp1, hp2⟩
   dsimp only at hv hp1 hp2 ⊢
   have hvb : 0 ≤ v ∧ v ≤ 10 := by
    simp only [List.mem_cons, List.not_mem_nil, or_false] at hdm
    rcases hdm with rfl | rfl | rfl | rfl | rfl | rfl | rfl <;> simp only [toInt_int] at hv <;> omega
   refine Tt.ite (by simp only [List.length_cons, List.length_nil]; omega) ?_
   rw [wrap_id (n := n - 1) (by omega) (by omega)]
   simp only [Option.bind_fun_some]
   obtain ⟨y, e1, ⟨e2, e3, e4⟩, e5, e6, e7⟩ := distr3_tot _ hc x0 x5 k (n - 1) p' s' (l ++ [D.int v]) (by omega) (by omega) (by omega) (by omega) (by simp only [List.length_append, List.length_cons, List.length_nil]; omega) (fun d hd' => by
    rcases List.mem_append.1 hd' with h | h
    ·exact hd d h
    ·simp only [List.mem_singleton] at h; subst h; simp only [toInt_int]; exact hvb)
   refine Tt.con ⟨y, e1, ⟨e2, ?_, e4⟩, e5, by omega, by omega⟩
   simp only [List.length_append, List.length_cons, List.length_nil] at e3; omega
theorem distr_tot (c : List D) (hc : okC c) (p s x : Int) (hp : 0 ≤ p ∧ p ≤ 1099511610000) : ∃ y, Z52 c p s x = some y ∧ (y.2.1.length ≤ 10 ∧ y.2.2.1 = c ∧ p ≤ y.2.2.2.1 ∧ y.2.2.2.1 ≤ p + 200) := by
 refine Tt.out ?_
 unfold Z52 c_Z52
 (refine Tt.bind (Tt.con (pick_tot' _ hc _ _ _ (by omega) (by omega))) ?_; rintro ⟨v, c', p', s'⟩ ⟨hv, rfl, hp1, hp2⟩; dsimp only at hv hp1 hp2 ⊢)
 rw [wrap_id (n := 1 + v) (by omega) (by omega)]
 refine Tt.bind (Tt.con (distr3_tot _ hc x 0 10 (1 + v) p' s' [] (by omega) (by omega) (by omega) (by omega) (by simp) (by simp))) ?_
 rintro ⟨x1, c2, p2, s2, x5, l⟩ ⟨⟨h1, h2, h3⟩, h4, h5, h6⟩
 dsimp only at h1 h2 h3 h4 h5 h6 ⊢
 subst h4
 simp only [List.length_nil] at h2
 refine Tt.bind (Tt.con (pick_tot' _ hc _ _ _ (by omega) (by omega))) ?_
 rintro ⟨v3, c3, p3, s3⟩ ⟨-, rfl, hp5, hp6⟩
 dsimp only at hp5 hp6 ⊢
 refine Tt.bind (Tt.con (make_len _ ⟨fun d hd => (h3 d hd).1, by omega, fun d hd => by have := h3 d hd; omega⟩)) ?_
 rintro ⟨f, l2, ok⟩ hl2
 dsimp only at hl2 ⊢
 refine Tt.cnd (fun _ => ?_) (fun _ => ?_)
 ·exact Tt.pure ⟨by simp, rfl, by simp only; omega, by simp only; omega⟩
 ·exact Tt.pure ⟨by simp only; omega, rfl, by simp only; omega, by simp only; omega⟩
theorem any12v_tot (c : List D) (hc : okC c) (x3 x4 : Int) : ∀ (k : Nat) (p s : Int) (l : List D), 70 - l.length ≤ k → 0 ≤ p → p + 10 * k + 10 ≤ 1099511620000 → l.length ≤ 70 →
  ∃ y, Z53 c p s x3 x4 l = some y ∧ (y.2.2.2.2.2.length ≤ 70 ∧ y.1 = c ∧ p ≤ y.2.1 ∧ y.2.1 ≤ p + 10 * k + 10)
 | k, p, s, l, hk, hp0, hp, hl => by
  rw [Z53_fx]
  refine Tt.out ?_
  unfold c_Z53
  (refine Tt.bind (Tt.con (pick_tot' _ hc _ _ _ (by omega) (by omega))) ?_; rintro ⟨v, c', p', s'⟩ ⟨hv, rfl, hp1, hp2⟩; dsimp only at hv hp1 hp2 ⊢)
  rw [wrap_id (n := 60 + v) (by omega) (by omega)]
  refine Tt.dec (fun hlt => ?_) (fun _ => Tt.pure ⟨hl, rfl, by simp only; omega, by simp only; omega⟩)
  cases k with
  | zero => omega
  | succ k =>
   refine Tt.ite (by simp only [List.length_cons, List.length_nil]; omega) ?_
   simp only [Option.bind_fun_some]
   obtain ⟨y, e1, e2, e3, e4, e5⟩ := any12v_tot _ hc x3 x4 k p' s' (l ++ [D.int 1]) (by simp only [List.length_append, List.length_cons, List.length_nil]; omega) (by omega) (by omega) (by simp only [List.length_append, List.length_cons, List.length_nil]; omega)
   exact Tt.con ⟨y, e1, e2, e3, by omega, by omega⟩
theorem any_tot (c : List D) (hc : okC c) (p s x : Int) (hp : 0 ≤ p ∧ p ≤ 1099511600000) : ∃ y, Z55 c p s x = some y ∧ (y.2.1.length ≤ 100 ∧ y.2.2.1 = c ∧ p ≤ y.2.2.2.1 ∧ y.2.2.2.1 ≤ p + 2000) := by
 refine Tt.out ?_
 unfold Z55 c_Z55
 refine Tt.bind (Tt.con (distr_tot _ hc _ _ _ (by omega))) ?_
 rintro ⟨f, l, c1, p1, s1⟩ ⟨hl, rfl, hp1, hp2⟩
 dsimp only at hl hp1 hp2 ⊢
 refine Tt.bind (Tt.con (pick_tot' _ hc _ _ _ (by omega) (by omega))) ?_
 rintro ⟨v, c2, p2, s2⟩ ⟨-, rfl, hp3, hp4⟩
 dsimp only at hp3 hp4 ⊢
 refine Tt.dec (fun _ => ?_) (fun _ => ?_)
 ·(refine Tt.bind (Tt.con (among_tot _ hc _ _ _ (by omega) (by simp))) ?_; rintro ⟨v, c', p', s'⟩ ⟨hv, rfl, hp1, hp2⟩; dsimp only at hv hp1 hp2 ⊢)
  exact Tt.pure ⟨by simp only; omega, rfl, by simp only; omega, by simp only; omega⟩
 refine Tt.dec (fun _ => ?_) (fun _ => ?_)
 ·(refine Tt.bind (Tt.con (among_tot _ hc _ _ _ (by omega) (by simp))) ?_; rintro ⟨v, c', p', s'⟩ ⟨hv, rfl, hp1, hp2⟩; dsimp only at hv hp1 hp2 ⊢)
  refine Tt.ite (by simp only [List.length_cons, List.length_nil]; omega) ?_
  exact Tt.pure ⟨by simp only [List.length_append, List.length_cons, List.length_nil]; omega, rfl, by simp only; omega, by simp only; omega⟩
 refine Tt.dec (fun _ => ?_) (fun _ => ?_)
 ·exact Tt.pure ⟨by simp, rfl, by simp only; omega, by simp only; omega⟩
 refine Tt.dec (fun _ => ?_) (fun _ => ?_)
 ·exact Tt.pure ⟨by simp, rfl, by simp only; omega, by simp only; omega⟩
 refine Tt.dec (fun _ => ?_) (fun _ => Tt.pure ⟨by simp only; omega, rfl, by simp only; omega, by simp only; omega⟩)
 have e12 : ∃ y, Z54 c2 p2 s2 0 f l = some y ∧ (match y with | .inl z => z.2.2.2.2.2.length ≤ 70 ∧ z.1 = c2 ∧ p2 ≤ z.2.1 ∧ z.2.1 ≤ p2 + 1000 | .inr z => z.2.2.2.2.2.length ≤ 70 ∧ z.1 = c2 ∧ p2 ≤ z.2.1 ∧ z.2.1 ≤ p2 + 1000) := by
  rw [Z54_fx]
  refine Tt.out ?_
  unfold c_Z54
  (refine Tt.bind (Tt.con (pick_tot' _ hc _ _ _ (by omega) (by omega))) ?_; rintro ⟨v, c', p', s'⟩ ⟨hv, rfl, hp1, hp2⟩; dsimp only at hv hp1 hp2 ⊢)
  rw [wrap_id (n := 60 + v) (by omega) (by omega)]
  refine Tt.dec (fun hlt => ?_) (fun _ => Tt.pure ⟨by simp only; omega, rfl, by simp only; omega, by simp only; omega⟩)
  refine Tt.ite (by simp only [List.length_cons, List.length_nil]; omega) ?_
  refine Tt.bind (Tt.con (any12v_tot _ hc 0 f 70 p' s' (l ++ [D.int 1]) (by omega) (by omega) (by omega) (by simp only [List.length_append, List.length_cons, List.length_nil]; omega))) ?_
  rintro ⟨c3, p3, s3, z3, z4, z5⟩ ⟨h1, h2, h3, h4⟩
  dsimp only at h1 h2 h3 h4 ⊢
  exact Tt.pure ⟨h1, h2, by simp only; omega, by simp only; omega⟩
 refine Tt.bind (Tt.con e12) ?_
 rintro (⟨c3, p3, s3, z3, z4, z5⟩ | ⟨c3, p3, s3, z3, z4, z5⟩) ⟨h1, h2, h3, h4⟩
 ·exact Tt.pure ⟨by simp only at h1 ⊢; omega, h2, by simp only at h3 ⊢; omega, by simp only at h4 ⊢; omega⟩
 ·exact Tt.pure ⟨by simp only at h1 ⊢; omega, h2, by simp only at h3 ⊢; omega, by simp only at h4 ⊢; omega⟩
def vb (l : List D) (z : Int) : Int := if 0 ≤ z ∧ z < l.length then (l.getD z.toNat (.int 0)).toInt else 0
theorem vb_nat {l : List D} {i : Nat} (h : i < l.length) : vb l (i : Int) = (l.getD i (.int 0)).toInt := by
 unfold vb
 rw [if_pos (by omega), Int.toNat_natCast]
theorem vb_bd {B : Int} {l : List D} (h : ∀ d ∈ l, 0 ≤ d.toInt ∧ d.toInt ≤ B) (hB : 0 ≤ B) (z : Int) : 0 ≤ vb l z ∧ vb l z ≤ B := by
 unfold vb
 by_cases hz : 0 ≤ z ∧ z < l.length
 ·rw [if_pos hz]; exact h _ (getD_mem (by omega))
 ·rw [if_neg hz]; omega
theorem wt_out {l : List D} {i : Nat} (h : l.length ≤ i) : wt l i = 0 := by
 unfold wt
 rw [List.getD_eq_getElem?_getD, List.getElem?_eq_none h]; rfl
theorem vb_wt {l : List D} (hn : ∀ d ∈ l, 0 ≤ d.toInt) (i : Nat) : vb l (i : Int) = ((wt l i : Nat) : Int) := by
 by_cases h : i < l.length
 ·rw [vb_nat h, wt_int hn h]
 ·rw [wt_out (by omega)]
  unfold vb
  rw [if_neg (by omega)]; rfl
theorem vb_neg {l : List D} {z : Int} (h : z < 0) : vb l z = 0 := by
 unfold vb
 rw [if_neg (by omega)]
def Red (f : Int) (l : List D) (r : Int × List D × Bool) : Prop :=
 ((∀ i, wt l i = 0) ∧ r = (0, [], false)) ∨ ∃ fr t, fr < t ∧ Cut l fr t ∧ r = (bif goodB (f + (fr : Int)) (outL l fr t) then (f + (fr : Int), outL l fr t, true) else (0, [], false))
theorem cut_eq {f f' : Int} {l l' : List D} (hn : ∀ d ∈ l, 0 ≤ d.toInt) (hn' : ∀ d ∈ l', 0 ≤ d.toInt) {fr t fr' t' : Nat} (h : Cut l fr t) (hlt : fr < t) (h' : Cut l' fr' t') (hlt' : fr' < t')
  (e : ∀ y, vb l (y - f) = 0 ↔ vb l' (y - f') = 0) : f + (fr : Int) = f' + fr' ∧ f + (t : Int) = f' + t' := by
 have key : ∀ {f f' : Int} {l l' : List D}, (∀ d ∈ l, 0 ≤ d.toInt) → (∀ d ∈ l', 0 ≤ d.toInt) → ∀ {fr t fr' t' : Nat}, Cut l fr t → fr < t → Cut l' fr' t' → fr' < t' → (∀ y, vb l (y - f) = 0 ↔ vb l' (y - f') = 0) → f' + (fr' : Int) ≤ f + fr ∧ f + (t : Int) ≤ f' + t' := by
  intro f f' l l' hn hn' fr t fr' t' h hlt h' hlt' e
  constructor
  ·apply Classical.byContradiction
   intro hc
   have h1 := e (f + fr)
   rw [show f + (fr : Int) - f = (fr : Int) by omega, vb_wt hn] at h1
   have h2 : vb l' (f + (fr : Int) - f') = 0 := by
    by_cases h0 : f + (fr : Int) - f' < 0
    ·exact vb_neg h0
    ·rw [show f + (fr : Int) - f' = (((f + (fr : Int) - f').toNat : Nat) : Int) by omega, vb_wt hn', h'.lo _ (by omega)]; rfl
   have := h.fr0 hlt
   have := h1.2 h2
   omega
  ·apply Classical.byContradiction
   intro hc
   have h1 := e (f + (t : Int) - 1)
   rw [show f + (t : Int) - 1 - f = ((t - 1 : Nat) : Int) by omega, vb_wt hn] at h1
   have h2 : vb l' (f + (t : Int) - 1 - f') = 0 := by
    by_cases h0 : f + (t : Int) - 1 - f' < 0
    ·exact vb_neg h0
    ·rw [show f + (t : Int) - 1 - f' = (((f + (t : Int) - 1 - f').toNat : Nat) : Int) by omega, vb_wt hn']
     by_cases hl : (f + (t : Int) - 1 - f').toNat < l'.length
     ·rw [h'.hi _ (by omega) hl]; rfl
     ·rw [wt_out (by omega)]; rfl
   have := h.t0 hlt
   have := h1.2 h2
   omega
 have k1 := key hn hn' h hlt h' hlt' e
 have k2 := key hn' hn h' hlt' h hlt (fun y => (e y).symm)
 omega
theorem gq_congr {l l' : List D} {fr fr' : Nat} : ∀ {k : Nat}, (∀ i, i < k → wt l (fr + i) = wt l' (fr' + i)) → gq l fr k = gq l' fr' k
 | 0, _ => rfl
 | k + 1, h => by
  show Nat.gcd (gq l fr k) (wt l (fr + k)) = Nat.gcd (gq l' fr' k) (wt l' (fr' + k))
  rw [gq_congr (fun i hi => h i (by omega)), h k (by omega)]
theorem cut_range {l : List D} {fr n : Nat} (h : fr + n ≤ l.length) : (l.drop fr).take n = (List.range n).map (fun i => l.getD (fr + i) (.int 0)) := by
 apply List.ext_getElem?
 intro i
 by_cases hi : i < n
 ·rw [List.getElem?_take_of_lt hi, List.getElem?_drop, List.getElem?_map, List.getElem?_range hi, List.getElem?_eq_getElem (by omega), Option.map_some, List.getD_eq_getElem?_getD, List.getElem?_eq_getElem (show fr + i < l.length by omega)]; rfl
 ·rw [List.getElem?_eq_none (by simp only [List.length_take]; omega), List.getElem?_eq_none (by simp only [List.length_map, List.length_range]; omega)]
theorem outL_range {l : List D} {fr t : Nat} (h : fr ≤ t) (ht : t ≤ l.length) : outL l fr t = (List.range (t - fr)).map (fun i => D.int ((l.getD (fr + i) (.int 0)).toInt.tdiv ((gq l fr (t - fr) : Nat) : Int))) := by
 unfold outL
 rw [cut_range (by omega), List.map_map]; rfl
theorem Red_uniq {f f' : Int} {l l' : List D} {r r' : Int × List D × Bool} (hn : ∀ d ∈ l, 0 ≤ d.toInt) (hn' : ∀ d ∈ l', 0 ≤ d.toInt) (h : Red f l r) (h' : Red f' l' r') (e : ∀ y, vb l (y - f) = vb l' (y - f')) : r = r' := by
 rcases h with ⟨z, rfl⟩ | ⟨fr, t, hlt, hc, rfl⟩ <;> rcases h' with ⟨z', rfl⟩ | ⟨fr', t', hlt', hc', rfl⟩
 ·rfl
 ·exfalso
  have h1 := e (f' + fr')
  rw [show f' + (fr' : Int) - f' = (fr' : Int) by omega, vb_wt hn'] at h1
  have := hc'.fr0 hlt'
  by_cases h0 : f' + (fr' : Int) - f < 0
  ·rw [vb_neg h0] at h1; omega
  ·rw [show f' + (fr' : Int) - f = (((f' + (fr' : Int) - f).toNat : Nat) : Int) by omega, vb_wt hn, z] at h1; omega
 ·exfalso
  have h1 := e (f + fr)
  rw [show f + (fr : Int) - f = (fr : Int) by omega, vb_wt hn] at h1
  have := hc.fr0 hlt
  by_cases h0 : f + (fr : Int) - f' < 0
  ·rw [vb_neg h0] at h1; omega
  ·rw [show f + (fr : Int) - f' = (((f + (fr : Int) - f').toNat : Nat) : Int) by omega, vb_wt hn', z'] at h1; omega
 ·obtain ⟨e1, e2⟩ := cut_eq hn hn' hc hlt hc' hlt' (fun y => by rw [e y])
  have hd : t' - fr' = t - fr := by omega
  have c1 := hc.len
  have c2 := hc'.len
  have hw : ∀ i, i < t - fr → wt l (fr + i) = wt l' (fr' + i) := by
   intro i hi
   have := e (f + fr + i)
   rw [show f + (fr : Int) + (i : Int) - f = ((fr + i : Nat) : Int) by omega, show f + (fr : Int) + (i : Int) - f' = ((fr' + i : Nat) : Int) by omega, vb_wt hn, vb_wt hn'] at this
   omega
  have ho : outL l fr t = outL l' fr' t' := by
   rw [outL_range (by omega) c1, outL_range (by omega) c2, hd, gq_congr hw]
   apply List.map_congr_left
   intro i hi
   have hi := List.mem_range.1 hi
   rw [wt_int hn (show fr + i < l.length by omega), wt_int hn' (show fr' + i < l'.length by omega), hw i hi]
  rw [ho, e1]
theorem wt_iw (l : List D) (i : Nat) : wt l i = ((iw l).getD i 0).toNat := by
 unfold wt
 rw [iw_get]
theorem gp_iw {l l' : List D} (e : iw l = iw l') : ∀ n, gp l n = gp l' n
 | 0 => rfl
 | n + 1 => by
  show Nat.gcd (gp l n) (wt l n) = Nat.gcd (gp l' n) (wt l' n)
  rw [gp_iw e n, wt_iw, wt_iw, e]
theorem goodB_iw {l l' : List D} (f : Int) (e : iw l = iw l') : goodB f l = goodB f l' := by
 have hl : l.length = l'.length := by rw [← iw_len l, ← iw_len l', e]
 have hb : badW l = badW l' := by
  funext i
  unfold badW
  rw [iw_get, iw_get, e]
 unfold goodB okW
 rw [hl, hb, iw_get, iw_get, iw_get l', iw_get l', e, gp_iw e]
theorem Red_mul {f aF : Int} {l a : List D} {r : Int × List D × Bool} (ha : GoodD aF a) (hn : ∀ d ∈ l, 0 ≤ d.toInt) (h : Red f l r) (c : Nat) (hc : 0 < c) (e : ∀ y, vb l (y - f) = vb a (y - aF) * (c : Int)) : ∃ l', r = (aF, l', true) ∧ iw l' = iw a := by
 have hna : ∀ d ∈ a, 0 ≤ d.toInt := fun d hd => (ha.ok d hd).1
 have n1 := ha.n1
 have w0 := ha.w0
 have wn := ha.wn
 have ca : Cut a 0 a.length := ⟨by omega, by omega, fun u hu => by omega, fun u h1 h2 => by omega, fun _ => by unfold wt; omega, fun _ => by unfold wt; omega⟩
 rcases h with ⟨z, rfl⟩ | ⟨fr, t, hlt, hcut, rfl⟩
 ·exfalso
  have h1 := e aF
  rw [Int.sub_self, show (0 : Int) = ((0 : Nat) : Int) from rfl, vb_nat (show 0 < a.length by omega)] at h1
  have hp := Int.mul_pos w0 (show (0 : Int) < (c : Int) by omega)
  by_cases h0 : aF - f < 0
  ·rw [vb_neg h0] at h1; omega
  ·rw [show aF - f = (((aF - f).toNat : Nat) : Int) by omega, vb_wt hn, z] at h1; omega
 ·obtain ⟨e1, e2⟩ := cut_eq (f := f) (f' := aF) hn hna hcut hlt ca (by omega) (fun y => by
   rw [e y]
   constructor
   ·intro hm
    rcases Int.mul_eq_zero.1 hm with hm | hm
    ·exact hm
    ·omega
   ·intro hm; rw [hm, Int.zero_mul])
  have cl := hcut.len
  have hd : t - fr = a.length := by omega
  have hw : ∀ i, i < a.length → wt l (fr + i) = wt a i * c := by
   intro i hi
   have := e (f + fr + i)
   rw [show f + (fr : Int) + (i : Int) - f = ((fr + i : Nat) : Int) by omega, show f + (fr : Int) + (i : Int) - aF = (i : Int) by omega, vb_wt hn, vb_wt hna] at this
   rw [← Int.natCast_mul] at this
   omega
  have hg : ∀ k, k ≤ a.length → gq l fr k = gp a k * c := by
   intro k
   induction k with
   | zero => intro _; exact (Nat.zero_mul c).symm
   | succ k ih =>
    intro hk
    show Nat.gcd (gq l fr k) (wt l (fr + k)) = Nat.gcd (gp a k) (wt a k) * c
    rw [ih (by omega), hw k (by omega), Nat.gcd_mul_right]
  have hgc : gq l fr (t - fr) = c := by rw [hd, hg _ (Nat.le_refl _), ha.g, Nat.one_mul]
  have ho : iw (outL l fr t) = iw a := by
   rw [outL_range (by omega) cl, hgc, hd]
   apply List.ext_getElem?
   intro i
   by_cases hi : i < a.length
   ·have ht : (l.getD (fr + i) (.int 0)).toInt.tdiv (c : Int) = (a.getD i (.int 0)).toInt := by
     rw [wt_int hn (show fr + i < l.length by omega), hw i hi, wt_int hna hi, Int.tdiv_eq_ediv_of_nonneg (by omega), Int.natCast_mul, Int.mul_ediv_cancel _ (by omega)]
    simp only [iw, List.getElem?_map, List.getElem?_range hi, Option.map_some]
    rw [ht, toInt_int, List.getD_eq_getElem?_getD, List.getElem?_eq_getElem hi]; rfl
   ·rw [List.getElem?_eq_none (by simp only [iw, List.length_map, List.length_range]; omega), List.getElem?_eq_none (by rw [iw_len]; omega)]
  rw [goodB_iw _ ho, e1, show aF + ((0 : Nat) : Int) = aF by simp, goodB_iff.2 ha]
  exact ⟨_, rfl, ho⟩
def nnI (l : List D) : Prop := (∀ d ∈ l, 0 ≤ d.toInt ∧ d.toInt ≤ 1000000000000000) ∧ l.length ≤ 30000
theorem gp_zero {l : List D} : ∀ {n : Nat}, (∀ i, i < n → wt l i = 0) → gp l n = 0
 | 0, _ => rfl
 | n + 1, h => by
  show Nat.gcd (gp l n) (wt l n) = 0
  rw [gp_zero (fun i hi => h i (by omega)), h n (by omega)]; rfl
theorem gp_zero' {l : List D} : ∀ {n : Nat}, gp l n = 0 → ∀ i, i < n → wt l i = 0
 | 0, _, i, hi => by omega
 | n + 1, h, i, hi => by
  have := Nat.gcd_eq_zero_iff.1 (show Nat.gcd (gp l n) (wt l n) = 0 from h)
  by_cases hin : i = n
  ·subst hin; exact this.2
  ·exact gp_zero' this.1 i (by omega)
theorem gp_cut {l : List D} {fr t : Nat} (h : Cut l fr t) : gp l l.length = gq l fr (t - fr) := by
 have h1 : ∀ k, gp l (fr + k) = gq l fr k := by
  intro k
  induction k with
  | zero => exact gp_zero h.lo
  | succ k ih =>
   show Nat.gcd (gp l (fr + k)) (wt l (fr + k)) = Nat.gcd (gq l fr k) (wt l (fr + k))
   rw [ih]
 have h2 : ∀ j, t + j ≤ l.length → gp l (t + j) = gp l t := by
  intro j
  induction j with
  | zero => intro _; rfl
  | succ j ih =>
   intro hj
   show Nat.gcd (gp l (t + j)) (wt l (t + j)) = gp l t
   rw [ih (by omega), h.hi _ (by omega) (by omega), Nat.gcd_zero_right]
 have hl := h.len
 have hle := h.le
 have := h2 (l.length - t) (by omega)
 rw [show t + (l.length - t) = l.length by omega] at this
 rw [this, ← h1, show fr + (t - fr) = t by omega]
theorem red5 (b g e a : Int) {l : List D} (h : nnI l) : ∀ (k i : Nat), i + k = l.length → (∃ j, i ≤ j ∧ j < l.length ∧ wt l j ≠ 0) → ∃ j, i ≤ j ∧ j < l.length ∧ (∀ t, i ≤ t → t < j → wt l t = 0) ∧ wt l j ≠ 0 ∧ Z17 b l g i e a = some (b, l, g, (j : Int), e, a)
 | 0, i, hk, ⟨j, j1, j2, _⟩ => by omega
 | k + 1, i, hk, ⟨j, j1, j2, j3⟩ => by
  have h300 := h.2
  rw [Z17_fx]
  unfold c_Z17
  rw [if_pos (by omega), Int.toNat_natCast, wt_int (fun d hd => (h.1 d hd).1) (by omega)]
  by_cases hz : wt l i = 0
  ·have hij : i ≠ j := fun he => by subst he; exact j3 hz
   obtain ⟨q, q1, q2, q3, q4, q5⟩ := red5 b g e a h k (i + 1) (by omega) ⟨j, by omega, j2, j3⟩
   refine ⟨q, by omega, q2, fun t t1 t2 => ?_, q4, ?_⟩
   ·by_cases hti : t = i
    ·rw [hti]; exact hz
    ·exact q3 t (by omega) t2
   ·rw [decide_eq_true (by omega), cond_true, succ_wrap (by omega), q5]; rfl
  ·exact ⟨i, Nat.le_refl _, by omega, fun t _ _ => by omega, hz, by rw [decide_eq_false (by omega)]; rfl⟩
theorem red7 (b g a : Int) {l : List D} (h : nnI l) (fr : Nat) (hfr : wt l fr ≠ 0) : ∀ (t : Nat), fr < t → t ≤ l.length → ∃ j, fr < j ∧ j ≤ t ∧ (∀ u, j ≤ u → u < t → wt l u = 0) ∧ wt l (j - 1) ≠ 0 ∧ Z18 b l g fr t a = some (b, l, g, (fr : Int), (j : Int), a)
 | 0, h1, h2 => by omega
 | t + 1, h1, h2 => by
  have h300 := h.2
  rw [Z18_fx]
  unfold c_Z18
  rw [pred_wrap (by omega) (by omega), Nat.add_sub_cancel, if_pos (by omega), Int.toNat_natCast, wt_int (fun d hd => (h.1 d hd).1) (by omega)]
  by_cases hz : wt l t = 0
  ·have hne : fr ≠ t := fun he => by subst he; exact hfr hz
   obtain ⟨j, j1, j2, j3, j4, j5⟩ := red7 b g a h fr hfr t (by omega) (by omega)
   refine ⟨j, j1, by omega, fun u u1 u2 => ?_, j4, ?_⟩
   ·by_cases hut : u = t
    ·rw [hut]; exact hz
    ·exact j3 u u1 (by omega)
   ·rw [decide_eq_true (by omega), cond_true, j5]; rfl
  ·exact ⟨t + 1, h1, Nat.le_refl _, fun u _ _ => by omega, by rw [Nat.add_sub_cancel]; exact hz, by rw [decide_eq_false (by omega)]; rfl⟩
theorem red11v (g : Nat) (hg : g ≠ 0) (a b : Int) {s : List D} (h : nnI s) : ∀ (k i : Nat) (acc : List D), i + k = s.length → acc.length ≤ i → Z19 g s s.length i a b acc = some (a, b, acc ++ (s.drop i).map (fun x => D.int (x.toInt.tdiv (g : Int))))
 | 0, i, acc, hk, ha => by
  rw [Z19_fx]
  unfold c_Z19
  rw [decide_eq_false (by omega), cond_false, List.drop_of_length_le (by omega)]; simp
 | k + 1, i, acc, hk, ha => by
  have h300 := h.2
  have hlt : i < s.length := by omega
  have hx := h.1 _ (getD_mem hlt)
  rw [Z19_fx]
  unfold c_Z19
  rw [decide_eq_true (by omega), cond_true, if_pos (by omega), if_pos (by omega), if_pos (by simp only [List.length_cons, List.length_nil]; omega), Int.toNat_natCast, succ_wrap (by omega)]
  rw [wrap_id (n := (s.getD i (D.int 0)).toInt.tdiv (g : Int)) (by rw [Int.tdiv_eq_ediv_of_nonneg hx.1]; have := Int.ediv_nonneg hx.1 (show (0 : Int) ≤ (g : Int) by omega); omega) (by rw [Int.tdiv_eq_ediv_of_nonneg hx.1]; have := Int.ediv_le_self (g : Int) hx.1; omega)]
  rw [red11v g hg a b h k (i + 1) _ (by omega) (by simp only [List.length_append, List.length_cons, List.length_nil]; omega), drop_cons hlt]
  simp only [Option.bind_some, List.map_cons, List.append_assoc, List.singleton_append, List.getD_eq_getElem?_getD]
theorem redI (f : Int) (hf : -100000 ≤ f ∧ f ≤ 100000) {l : List D} (h : nnI l) : ∃ r, Z28 f l = some r ∧ Red f l r := by
 have h300 := h.2
 have hn : ∀ d ∈ l, 0 ≤ d.toInt := fun d hd => (h.1 d hd).1
 simp only [Z28, c_Z28, divI_eq hn (by omega), Option.bind_some]
 by_cases hz : gp l l.length = 0
 ·rw [decide_eq_true (show ((gp l l.length : Nat) : Int) = 0 by omega), cond_true]
  refine ⟨_, rfl, .inl ⟨fun i => ?_, rfl⟩⟩
  by_cases hi : i < l.length
  ·exact gp_zero' hz i hi
  ·exact wt_out (by omega)
 ·rw [decide_eq_false (show ¬ ((gp l l.length : Nat) : Int) = 0 by omega), cond_false]
  have hex : ∃ j, 0 ≤ j ∧ j < l.length ∧ wt l j ≠ 0 := by
   apply Classical.byContradiction
   intro hc
   exact hz (gp_zero (fun i hi => by
    apply Classical.byContradiction
    intro hw
    exact hc ⟨i, by omega, hi, hw⟩))
  obtain ⟨fr, a1, a2, a3, a4, a5⟩ := red5 f ((gp l l.length : Nat) : Int) l.length 0 h l.length 0 (by omega) hex
  rw [show ((0 : Nat) : Int) = 0 from rfl] at a5
  obtain ⟨t, b1, b2, b3, b4, b5⟩ := red7 f ((gp l l.length : Nat) : Int) 0 h fr a4 l.length a2 (Nat.le_refl _)
  have hc : Cut l fr t := ⟨by omega, b2, fun u hu => a3 u (by omega) hu, b3, fun _ => a4, fun _ => b4⟩
  simp only [a5, b5, Option.bind_some, Int.toNat_natCast]
  rw [if_pos (by omega)]
  have hs : nnI ((l.drop fr).take (t - fr)) := ⟨fun d hd => h.1 d (List.mem_of_mem_drop (List.mem_of_mem_take hd)), by simp only [List.length_take, List.length_drop]; omega⟩
  have hsl : ((l.drop fr).take (t - fr)).length = t - fr := by simp only [List.length_take, List.length_drop]; omega
  have e11 : Z20 ((gp l l.length : Nat) : Int) ((l.drop fr).take (t - fr)) (((l.drop fr).take (t - fr)).length : Int) 0 0 (IntKind.i64.wrap (f + (fr : Int))) = some (.inl (0, f + (fr : Int), outL l fr t)) := by
   have hx := hs.1 _ (getD_mem (show 0 < ((l.drop fr).take (t - fr)).length by omega))
   have v := red11v (gp l l.length) hz 0 (IntKind.i64.wrap (f + (fr : Int))) hs (t - fr - 1) 1 [D.int ((((l.drop fr).take (t - fr)).getD 0 (.int 0)).toInt.tdiv ((gp l l.length : Nat) : Int))] (by omega) (by simp)
   rw [Z20_fx]
   unfold c_Z20
   rw [decide_eq_true (by omega), cond_true, if_pos (by omega), if_pos (by omega), if_pos (by simp), Int.toNat_zero]
   rw [wrap_id (n := (((l.drop fr).take (t - fr)).getD 0 (.int 0)).toInt.tdiv ((gp l l.length : Nat) : Int)) (by rw [Int.tdiv_eq_ediv_of_nonneg hx.1]; have := Int.ediv_nonneg hx.1 (show (0 : Int) ≤ ((gp l l.length : Nat) : Int) by omega); omega) (by rw [Int.tdiv_eq_ediv_of_nonneg hx.1]; have := Int.ediv_le_self ((gp l l.length : Nat) : Int) hx.1; omega)]
   rw [show IntKind.i64.wrap ((0 : Int) + 1) = ((1 : Nat) : Int) by decide, v]
   simp only [Option.bind_some]
   rw [wrap_id (n := f + (fr : Int)) (by omega) (by omega)]
   congr 3
   unfold outL
   rw [← gp_cut hc]
   have h0 : 0 < ((l.drop fr).take (t - fr)).length := by omega
   conv => rhs; rw [← List.drop_zero (l := (l.drop fr).take (t - fr)), drop_cons h0]
   rw [List.map_cons, List.getD_eq_getElem?_getD]; rfl
  rw [e11]
  simp only [Option.bind_some, Sum.elim_inl, goodI _ _ (show (outL l fr t).length ≤ 1048576 by rw [outL_len (by omega) b2]; omega)]
  refine ⟨_, ?_, .inr ⟨fr, t, b1, hc, rfl⟩⟩
  cases goodB (f + (fr : Int)) (outL l fr t) <;> rfl
theorem redS (f : Int) (hf : -100000 ≤ f ∧ f ≤ 100000) {l : List D} (h : nnL l) : ∃ r, Z40 f l = some r ∧ Red f l r := by
 obtain ⟨fr, t, hc, he⟩ := make_eq f h
 have h400 := h.2.1
 have hl := hc.len
 have hle := hc.le
 rw [wrap_id (n := f + (fr : Int)) (by omega) (by omega)] at he
 refine ⟨_, he, ?_⟩
 by_cases hft : fr = t
 ·left
  refine ⟨fun i => ?_, by rw [decide_eq_true hft]; rfl⟩
  by_cases hi : i < fr
  ·exact hc.lo i hi
  ·by_cases hi2 : i < l.length
   ·exact hc.hi i (by omega) hi2
   ·exact wt_out (by omega)
 ·right
  exact ⟨fr, t, by omega, hc, by rw [decide_eq_false hft]; rfl⟩
def listD (n : Nat) (g : Nat → Int) : List D := (List.range n).map (fun i => D.int (g i))
theorem listD_len (n : Nat) (g : Nat → Int) : (listD n g).length = n := by simp [listD]
theorem listD_succ (n : Nat) (g : Nat → Int) : listD (n + 1) g = listD n g ++ [D.int (g n)] := by simp [listD, List.range_succ]
theorem listD_get {n : Nat} {g : Nat → Int} {i : Nat} (h : i < n) : (listD n g).getD i (.int 0) = D.int (g i) := by
 rw [List.getD_eq_getElem?_getD, listD, List.getElem?_map, List.getElem?_range h]; rfl
theorem listD_congr {n : Nat} {g h : Nat → Int} (e : ∀ i, i < n → g i = h i) : listD n g = listD n h := by
 unfold listD
 exact List.map_congr_left (fun i hi => by rw [e i (List.mem_range.1 hi)])
theorem listD_vb (n : Nat) (g : Nat → Int) (z : Int) : vb (listD n g) z = if 0 ≤ z ∧ z < n then g z.toNat else 0 := by
 unfold vb
 rw [listD_len]
 by_cases h : 0 ≤ z ∧ z < n
 ·rw [if_pos h, if_pos h, listD_get (by omega)]; rfl
 ·rw [if_neg h, if_neg h]
theorem listD_all {P : Int → Prop} {n : Nat} {g : Nat → Int} (h : ∀ i, i < n → P (g i)) : ∀ d ∈ listD n g, P d.toInt := by
 intro d hd
 unfold listD at hd
 obtain ⟨i, hi, rfl⟩ := List.mem_map.1 hd
 exact h i (List.mem_range.1 hi)
theorem listD_set {n : Nat} {g : Nat → Int} (j : Nat) (v : Int) : (listD n g).set j (D.int v) = listD n (fun t => if t = j then v else g t) := by
 apply List.ext_getElem?
 intro i
 rw [List.getElem?_set]
 by_cases hi : i < n
 ·by_cases hj : j = i
  ·subst hj
   rw [if_pos rfl, if_pos (by rw [listD_len]; exact hi), listD, List.getElem?_map, List.getElem?_range hi, Option.map_some, if_pos rfl]
  ·rw [if_neg hj, listD, listD, List.getElem?_map, List.getElem?_map, List.getElem?_range hi, Option.map_some, Option.map_some, if_neg (fun h => hj h.symm)]
 ·rw [List.getElem?_eq_none (l := listD n fun t => if t = j then v else g t) (by rw [listD_len]; omega)]
  by_cases hj : j = i
  ·rw [if_pos hj, if_neg (by rw [listD_len]; omega)]
  ·rw [if_neg hj, List.getElem?_eq_none (by rw [listD_len]; omega)]
theorem atI {f : Int} {l : List D} (h : GoodD f l) (y : Int) (hy : -200000 ≤ y ∧ y ≤ 200000) : Z45 f l y = some (vb l (y - f)) := by
 have n60 := h.n60
 have f1 := h.f1
 have f2 := h.f2
 simp only [Z45, c_Z45, Z21, c_Z21, Option.bind_some]
 rw [wrap_id (n := f + (l.length : Int)) (by omega) (by omega), wrap_id (n := f + (l.length : Int) - 1) (by omega) (by omega), wrap_id (n := y - f) (by omega) (by omega)]
 unfold vb
 by_cases h1 : y < f
 ·rw [decide_eq_true h1, cond_true, if_neg (by omega)]
 ·rw [decide_eq_false h1, cond_false]
  by_cases h2 : f + (l.length : Int) - 1 < y
  ·rw [decide_eq_true h2, cond_true, if_neg (by omega)]
  ·rw [decide_eq_false h2, cond_false, if_pos (by omega), if_pos (by omega)]
theorem rInts_iw {l l' : List D} (e : iw l = iw l') (hl : l.length ≤ 1048576) : Z43 l l' = some true := by
 have hlen : l.length = l'.length := by rw [← iw_len l, ← iw_len l', e]
 have key : Z42 l l' 0 = some (.inr ()) := by
  refine all_loop (N := fun n i => n_Z42 n l l' i) (len := l.length) (fun m i hi => ?_) (fun m => ?_)
  ·have hw : IntKind.i64.wrap ((i : Int) + 1) = (i : Int) + 1 := wrap_id (by omega) (by omega)
   show c_Z42 (n_Z42 m) l l' i some = _
   unfold c_Z42
   rw [decide_eq_true (by omega), cond_true, if_pos (by omega), if_pos (by omega), hw, Int.toNat_natCast, iw_get, iw_get, e, decide_eq_true rfl, Bool.not_true, cond_false]
   simp only [Option.bind_fun_some]
  ·simp [n_Z42, c_Z42]
 simp [Z43, c_Z43, key, hlen]
theorem rDist_refl (f : Int) {l l' : List D} (e : iw l = iw l') (hl : l.length ≤ 1048576) : Z44 f l f l' = some true := by
 simp only [Z44, c_Z44, decide_true, cond_true, rInts_iw e hl, Option.bind_some]
theorem Red_len {f : Int} {l : List D} {r : Int × List D × Bool} (h : Red f l r) : r.2.1.length ≤ l.length := by
 rcases h with ⟨-, rfl⟩ | ⟨fr, t, h1, h2, rfl⟩
 ·simp
 ·have := h2.len
  cases goodB (f + (fr : Int)) (outL l fr t) with
  | false => simp
  | true => rw [cond_true]; simp only; rw [outL_len (by omega) h2.len]; omega
theorem clone_eq (l : List D) (hl : l.length ≤ 1048576) : Z57 l = some l := by
 simp only [Z57, c_Z57]
 by_cases h : 1 ≤ l.length
 ·rw [if_pos h, if_pos (by simp; omega)]; simp
 ·obtain rfl : l = [] := List.eq_nil_of_length_eq_zero (by omega)
  rw [if_neg h, if_pos (by simp)]
  unfold bothK
  simp
theorem near10v (c : List D) (hc : okC c) (p s : Int) (hp : 0 ≤ p ∧ p ≤ 1099511627000) : ∃ y, Z5 c p s = some y ∧ ((-20000 ≤ y.1 ∧ y.1 ≤ 2090) ∧ y.2.1 = c ∧ p ≤ y.2.2.1 ∧ y.2.2.1 ≤ p + 2) := by
 refine Tt.out ?_
 unfold Z5 c_Z5
 (refine Tt.bind (Tt.con (among_tot _ hc _ _ _ (by omega) (by simp))) ?_; rintro ⟨v, c', p', s'⟩ ⟨hv, rfl, hp1, hp2⟩; dsimp only at hv hp1 hp2 ⊢)
 have hb : -20000 ≤ v ∧ v ≤ 2090 := by
  obtain ⟨d, hd, hv⟩ := hv
  simp only [List.mem_cons, List.not_mem_nil, or_false] at hd
  rcases hd with rfl | rfl | rfl | rfl | rfl | rfl | rfl <;> simp only [toInt_int] at hv <;> omega
 exact Tt.pure ⟨hb, rfl, by simp only; omega, by simp only; omega⟩
theorem mk4_tot (c : List D) (hc : okC c) : ∀ (k : Nat) (n p s : Int) (l : List D), n.toNat ≤ k → n ≤ 100 → 0 ≤ p → p + 10 * k ≤ 1099511620000 → l.length + k ≤ 300 →
  ∃ y, Z4 n c p s l = some y ∧ (y.2.2.2.length ≤ l.length + k ∧ y.1 = c ∧ p ≤ y.2.1 ∧ y.2.1 ≤ p + 10 * k)
 | k, n, p, s, l, hk, hn, hp0, hp, hl => by
  rw [Z4_fx]
  refine Tt.out ?_
  unfold c_Z4
  refine Tt.dec (fun hlt => ?_) (fun hlt => Tt.pure ⟨by simp only; omega, rfl, by simp only; omega, by simp only; omega⟩)
  cases k with
  | zero => omega
  | succ k =>
   (refine Tt.bind (Tt.con (among_tot _ hc _ _ _ (by omega) (by simp))) ?_; rintro ⟨v, c', p', s'⟩ ⟨hv, rfl, hp1, hp2⟩; dsimp only at hv hp1 hp2 ⊢)
   refine Tt.ite (by simp only [List.length_cons, List.length_nil]; omega) ?_
   rw [wrap_id (n := n - 1) (by omega) (by omega)]
   simp only [Option.bind_fun_some]
   obtain ⟨y, e1, e2, e3, e4, e5⟩ := mk4_tot _ hc k (n - 1) p' s' (l ++ [D.int v]) (by omega) (by omega) (by omega) (by omega) (by simp only [List.length_append, List.length_cons, List.length_nil]; omega)
   refine Tt.con ⟨y, e1, ?_, e3, by omega, by omega⟩
   simp only [List.length_append, List.length_cons, List.length_nil] at e2; omega
theorem wt_rep (n i : Nat) : wt (List.replicate n (D.int 0)) i = 0 := by
 unfold wt
 rw [List.getD_eq_getElem?_getD, List.getElem?_replicate]
 by_cases h : i < n
 ·rw [if_pos h]; rfl
 ·rw [if_neg h]; rfl
theorem drawM_tot (c : List D) (hc : okC c) : ∃ y, Z6 c = some y ∧ ((-20000 ≤ y.1 ∧ y.1 ≤ 2090) ∧ (y.2.length ≤ 9 ∨ (200 < y.2.length ∧ y.2.length ≤ 209) ∨ (y.2.length = 200 ∧ ∀ i, wt y.2 i = 0))) := by
 refine Tt.out ?_
 unfold Z6 c_Z6
 (refine Tt.bind (Tt.con (pick_tot' _ hc _ _ _ (by omega) (by omega))) ?_; rintro ⟨v, c', p', s'⟩ ⟨hv, rfl, hp1, hp2⟩; dsimp only at hv hp1 hp2 ⊢)
 refine Tt.bind (Tt.con (mk4_tot _ hc 8 _ _ _ _ (by omega) (by omega) (by omega) (by omega) (by simp))) ?_
 rintro ⟨c1, p1, s1, l⟩ ⟨hl, rfl, hp3, hp4⟩
 dsimp only at hl hp3 hp4 ⊢
 rw [List.length_nil] at hl
 refine Tt.bind (Tt.con (pick_tot' _ hc _ _ _ (by omega) (by omega))) ?_
 rintro ⟨v2, c2, p2, s2⟩ ⟨-, rfl, hp5, hp6⟩
 dsimp only at hp5 hp6 ⊢
 refine Tt.dec (fun _ => ?_) (fun _ => ?_)
 ·refine Tt.bind (Tt.con (among_tot _ hc _ _ _ (by omega) (by simp))) ?_
  rintro ⟨v3, c3, p3, s3⟩ ⟨-, rfl, hp7, hp8⟩
  dsimp only at hp7 hp8 ⊢
  refine Tt.ite (by simp only [List.length_cons, List.length_nil]; omega) ?_
  refine Tt.bind (Tt.con (near10v _ hc _ _ (by omega))) ?_
  rintro ⟨v4, c4, p4, s4⟩ ⟨hv4, -⟩
  exact Tt.pure ⟨hv4, .inl (by simp only [List.length_append, List.length_cons, List.length_nil]; omega)⟩
 refine Tt.dec (fun _ => ?_) (fun _ => ?_)
 ·refine Tt.ite (by decide) (Tt.ite (by have : Int.toNat 200 = 200 := rfl; omega) ?_)
  refine Tt.bind (Tt.con (near10v _ hc _ _ (by omega))) ?_
  rintro ⟨v4, c4, p4, s4⟩ ⟨hv4, -⟩
  refine Tt.pure ⟨hv4, .inr ?_⟩
  have h200 : Int.toNat 200 = 200 := rfl
  simp only [h200, List.length_append, List.length_replicate]
  cases l with
  | nil => right; exact ⟨by simp, fun i => by rw [List.nil_append]; exact wt_rep 200 i⟩
  | cons d r => left; simp only [List.length_cons] at hl ⊢; omega
 ·refine Tt.bind (Tt.con (near10v _ hc _ _ (by omega))) ?_
  rintro ⟨v4, c4, p4, s4⟩ ⟨hv4, -⟩
  exact Tt.pure ⟨hv4, .inl (by simp only; omega)⟩
theorem drawSh_tot (c : List D) (hc : okC c) : ∃ y, Z56 c = some y ∧ y.2.1.length ≤ 100 := by
 refine Tt.out ?_
 unfold Z56 c_Z56
 refine Tt.bind (Tt.con (near10v _ hc _ _ (by omega))) ?_
 rintro ⟨v, c1, p1, s1⟩ ⟨-, rfl, hp1, hp2⟩
 dsimp only at hp1 hp2 ⊢
 refine Tt.bind (Tt.con (any_tot _ hc _ _ _ (by omega))) ?_
 rintro ⟨f, l, c2, p2, s2⟩ ⟨hl, rfl, hp3, hp4⟩
 dsimp only at hl hp3 hp4 ⊢
 refine Tt.bind (Tt.con (among_tot _ hc _ _ _ (by omega) (by simp))) ?_
 rintro ⟨v3, c3, p3, s3⟩ -
 exact Tt.pure hl
def badM (l : List D) (i : Nat) : Bool := !btw (l.getD i (.int 0)).toInt 0 1000000000000
theorem scanI (l : List D) (hl : l.length ≤ 1048576) : Z12 l = some (firstN (badM l) l.length).isSome := by
 have : Z10 l l.length 0 = some (match firstN (badM l) l.length with | some i => .inl (i : Int) | none => .inr ()) := by
  refine scan_loop (N := fun m i => n_Z10 m l l.length i) _ (fun i => .inl (i : Int)) (fun m i hi => ?_) (fun m => ?_)
  ·show c_Z10 (n_Z10 m) l l.length i some = _
   unfold c_Z10
   rw [decide_eq_true (by omega), cond_true, if_pos (by omega), Int.toNat_natCast, wrap_id (by omega) (by omega)]
   simp only [Z9, c_Z9, within_eq, Option.bind_some, Option.bind_fun_some]
   rfl
  ·show c_Z10 (n_Z10 m) l l.length l.length some = _
   unfold c_Z10
   rw [decide_eq_false (by omega)]; rfl
 simp only [Z12, c_Z12, Z11, c_Z11, this, Option.bind_some]
 cases firstN (badM l) l.length <;> simp
theorem scanS (f : Int) (l : List D) (hl : l.length ≤ 1048576) : Z31 f l 0 0 = some (match firstN (badM l) l.length with | some _ => .inl (f, l, false, 0) | none => .inr (f, l, 0)) := by
 refine scan_loop (N := fun m i => n_Z31 m f l i 0) _ (fun _ => .inl (f, l, false, 0)) (fun m i hi => ?_) (fun m => ?_)
 ·show c_Z31 (n_Z31 m) f l i 0 some = _
  unfold c_Z31
  rw [decide_eq_true (by omega), cond_true, if_pos (by omega), Int.toNat_natCast, wrap_id (by omega) (by omega)]
  simp only [l1In_eq, Option.bind_some, Option.bind_fun_some]
  rfl
 ·show c_Z31 (n_Z31 m) f l l.length 0 some = _
  unfold c_Z31
  rw [decide_eq_false (by omega)]; rfl
theorem make_ok (f : Int) (hf : -20000 ≤ f ∧ f ≤ 2090) (l : List D) (hl : l.length ≤ 300) : ∃ r, Z29 f l = some r ∧ Z41 f l = some r ∧ r.2.1.length ≤ 300 ∧ (r.2.2 = true → (∀ d ∈ l, 0 ≤ d.toInt ∧ d.toInt ≤ 1000000000000) ∧ l.length ≤ 200 ∧ Red f l r) := by
 have hy : btw f (-20000) 2100 = true := btw_iff.2 ⟨by omega, by omega⟩
 simp only [Z29, c_Z29, Z41, c_Z41, Z8, c_Z8, within_eq, l1In_eq, hy, Option.bind_some, Bool.not_true, cond_false, scanI l (by omega), scanS f l (by omega)]
 by_cases h200 : (200 : Int) < l.length
 ·rw [decide_eq_true h200]
  exact ⟨_, rfl, rfl, by simp, fun h => by cases h⟩
 ·rw [decide_eq_false h200, cond_false, cond_false]
  cases hf1 : firstN (badM l) l.length with
  | some i => exact ⟨_, rfl, rfl, by simp, fun h => by cases h⟩
  | none =>
   have hb : ∀ d ∈ l, 0 ≤ d.toInt ∧ d.toInt ≤ 1000000000000 := by
    intro d hd
    obtain ⟨i, hi, rfl⟩ := List.mem_iff_getElem.1 hd
    have := firstN_none hf1 i hi
    unfold badM at this
    rw [Bool.not_eq_false', btw_iff, List.getD_eq_getElem?_getD, List.getElem?_eq_getElem hi] at this
    exact this
   obtain ⟨r, r1, r2⟩ := redI f (by omega) (l := l) ⟨fun d hd => by have := hb d hd; omega, by omega⟩
   obtain ⟨s, s1, s2⟩ := redS f (by omega) (l := l) ⟨fun d hd => (hb d hd).1, by omega, fun d hd => by have := hb d hd; omega⟩
   have : s = r := Red_uniq (fun d hd => (hb d hd).1) (fun d hd => (hb d hd).1) s2 r2 (fun y => rfl)
   subst this
   have := Red_len r2
   refine ⟨s, ?_, ?_, by omega, fun _ => ⟨hb, by omega, r2⟩⟩
   ·simp only [Option.isSome_none, cond_false, r1, Option.bind_some]
   ·simp only [Option.bind_some, Sum.elim_inr, s1]
theorem gq_dvd {l : List D} {fr : Nat} : ∀ {k i : Nat}, i < k → gq l fr k ∣ wt l (fr + i)
 | 0, i, hi => by omega
 | k + 1, i, hi => by
  show Nat.gcd (gq l fr k) (wt l (fr + k)) ∣ wt l (fr + i)
  by_cases hik : i = k
  ·subst hik; exact Nat.gcd_dvd_right _ _
  ·exact Nat.dvd_trans (Nat.gcd_dvd_left _ _) (gq_dvd (by omega))
theorem red_times {f : Int} {l : List D} {r : Int × List D × Bool} (hb : ∀ d ∈ l, 0 ≤ d.toInt ∧ d.toInt ≤ 1000000000000) (h : Red f l r) (hr : r.2.2 = true) :
  GoodD r.1 r.2.1 ∧ ∃ g : Int, 1 ≤ g ∧ g ≤ 1000000000000 ∧ ∀ i, i < l.length → vb r.2.1 (f + (i : Int) - r.1) * g = (l.getD i (.int 0)).toInt := by
 have hn : ∀ d ∈ l, 0 ≤ d.toInt := fun d hd => (hb d hd).1
 rcases h with ⟨-, rfl⟩ | ⟨fr, t, hlt, hc, rfl⟩
 ·cases hr
 ·have cl := hc.len
  cases hg : goodB (f + (fr : Int)) (outL l fr t) with
  | false => rw [hg] at hr; cases hr
  | true =>
   rw [cond_true]
   refine ⟨goodB_iff.1 hg, ((gq l fr (t - fr) : Nat) : Int), ?_, ?_, fun i hi => ?_⟩
   ·have := gq_ne (l := l) (fr := fr) (k := t - fr) ⟨0, by omega, by rw [Nat.add_zero]; exact hc.fr0 hlt⟩
    omega
   ·have hd := gq_dvd (l := l) (fr := fr) (k := t - fr) (i := 0) (by omega)
    rw [Nat.add_zero] at hd
    have h0 := hc.fr0 hlt
    have := Nat.le_of_dvd (by omega) hd
    have hw := wt_int hn (show fr < l.length by omega)
    have := hb _ (getD_mem (show fr < l.length by omega))
    omega
   ·show vb (outL l fr t) (f + (i : Int) - (f + (fr : Int))) * _ = _
    rw [wt_int hn hi]
    by_cases h1 : i < fr
    ·rw [vb_neg (by omega), hc.lo i h1, Int.zero_mul]; rfl
    ·by_cases h2 : i < t
     ·obtain ⟨j, rfl⟩ : ∃ j, i = fr + j := ⟨i - fr, by omega⟩
      rw [show f + ((fr + j : Nat) : Int) - (f + (fr : Int)) = (j : Int) by omega, vb_nat (by rw [outL_len (by omega) cl]; omega), outL_range (by omega) cl]
      rw [List.getD_eq_getElem?_getD, List.getElem?_map, List.getElem?_range (by omega), Option.map_some, Option.getD_some, toInt_int, wt_int hn hi, Int.tdiv_eq_ediv_of_nonneg (by omega)]
      have hd := gq_dvd (l := l) (fr := fr) (k := t - fr) (i := j) (by omega)
      exact Int.ediv_mul_cancel (Int.natCast_dvd_natCast.2 hd)
     ·rw [hc.hi i (by omega) hi]
      have : vb (outL l fr t) (f + (i : Int) - (f + (fr : Int))) = 0 := by
       unfold vb
       rw [outL_len (by omega) cl, if_neg (by omega)]
      rw [this, Int.zero_mul]; rfl
theorem weightI {dF : Int} {dW : List D} (h : GoodD dF dW) (y : Int) (hy : -20000 ≤ y ∧ y ≤ 2100) : Z49 dF dW y = some (vb dW (y - dF), pf dW dW.length, true) := by
 have n60 := h.n60
 have hy' : btw y (-20000) 2100 = true := btw_iff.2 hy
 simp only [Z49, c_Z49, goodI dF dW (by omega), goodB_iff.2 h, Z8, c_Z8, within_eq, hy', Option.bind_some, Bool.not_true, cond_false, atI h y (by omega), Z48, c_Z48, sumI_eq h.bd (show (0 : Int) ≤ 1000000 by omega) (show dW.length ≤ 1048576 by omega)]
theorem loop13 (c : List D) {f dF g : Int} {l dW : List D} (h : GoodD dF dW) (hf : -20000 ≤ f) (hl : f + (l.length : Int) ≤ 2101) (hg : 1 ≤ g ∧ g ≤ 1000000000000) (hb : ∀ d ∈ l, 0 ≤ d.toInt ∧ d.toInt ≤ 1000000000000) (hv : ∀ i, i < l.length → vb dW (f + (i : Int) - dF) * g = (l.getD i (.int 0)).toInt) :
  ∀ (k i : Nat) (q : Int), i + k = l.length → (q = 0 ∨ q = g) → Z50 c f q i l dF dF dW = some (.inr c)
 | 0, i, q, hi, hq => by
  rw [Z50_fx]
  unfold c_Z50
  rw [decide_eq_false (by omega), cond_false]
 | k + 1, i, q, hi, hq => by
  have vbd := vb_bd h.ok (by omega) (f + (i : Int) - dF)
  have e := hv i (by omega)
  have hbi := hb _ (getD_mem (show i < l.length by omega))
  rw [Z50_fx]
  unfold c_Z50
  rw [decide_eq_true (by omega), cond_true, wrap_id (n := f + (i : Int)) (by omega) (by omega), weightI h _ (by omega), Int.toNat_natCast]
  simp only [Option.bind_some, Bool.not_true, cond_false, Option.bind_fun_some, if_pos (show 0 ≤ (i : Int) ∧ (i : Int) < l.length by omega), if_pos (show i + 1 ≤ l.length by omega)]
  rw [succ_wrap (by omega)]
  generalize hw : vb dW (f + (i : Int) - dF) = w at *
  generalize hx : (l.getD i (D.int 0)).toInt = x at *
  by_cases hw0 : w = 0
  ·subst hw0
   rw [Int.zero_mul] at e
   subst e
   simp only [decide_true, beq_self_eq_true, Bool.not_true, cond_false, Int.zero_mul, show ¬ (0 : Int) < 0 by omega, decide_false, show IntKind.i64.wrap 0 = 0 by decide]
   exact loop13 c h hf hl hg hb hv k (i + 1) q (by omega) hq
  ·have hp := Int.mul_pos (show 0 < w by omega) (show 0 < g by omega)
   have hx0 : ¬ x = 0 := by omega
   have hdiv : x.tdiv w = g := by rw [← e, Int.mul_tdiv_cancel_left _ hw0]
   have hwx : IntKind.i64.wrap x = x := wrap_id (by omega) (by omega)
   simp only [hw0, hx0, decide_false, beq_self_eq_true, Bool.not_true, cond_false, show (0 : Int) < w by omega, decide_true, cond_true, hdiv, wrap_id (n := g) (by omega) (by omega), e, hwx, ne_eq, not_false_eq_true, if_true]
   rcases hq with rfl | rfl
   ·rw [decide_eq_true rfl, cond_true]
    exact loop13 c h hf hl hg hb hv k (i + 1) g (by omega) (.inr rfl)
   ·rw [decide_eq_false (show ¬ q = 0 by omega), cond_false, e, hwx]
    simp only [decide_true, Bool.not_true, cond_false]
    exact loop13 c h hf hl hg hb hv k (i + 1) q (by omega) (.inr rfl)
theorem own_eq (l : List D) (hl : l.length ≤ 1048576) : Z59 l = some l := by
 simp only [Z59, c_Z59]
 rw [if_pos (by simp only [List.length_nil]; omega), List.nil_append]
def shOK (f : Int) (l : List D) (x : Int) : Bool := goodB f l && (btw x (-22100) 22100 && goodB (IntKind.i64.wrap (f + x)) l)
theorem shiftI (f : Int) (l : List D) (x : Int) (hl : l.length ≤ 1048576) : Z58 f l x = some (bif shOK f l x then (IntKind.i64.wrap (f + x), l, true) else (0, [], false)) := by
 simp only [Z58, c_Z58, goodI _ l hl, within_eq, clone_eq l hl, Option.bind_some]
 unfold shOK
 cases goodB f l <;> cases btw x (-22100) 22100 <;> cases goodB (IntKind.i64.wrap (f + x)) l <;> rfl
theorem shiftS (f : Int) (l : List D) (x : Int) (hl : l.length ≤ 1048576) : Z60 f l x = some (bif shOK f l x then (IntKind.i64.wrap (f + x), l, true) else (0, [], false)) := by
 simp only [Z60, c_Z60, goodS _ l hl, l1In_eq, own_eq l hl, Option.bind_some]
 unfold shOK
 cases goodB f l <;> cases btw x (-22100) 22100 <;> cases goodB (IntKind.i64.wrap (f + x)) l <;> rfl
theorem shift_back {f : Int} {l : List D} {x : Int} (h : shOK f l x = true) : IntKind.i64.wrap (0 - x) = -x ∧ shOK (IntKind.i64.wrap (f + x)) l (-x) = true ∧ IntKind.i64.wrap (IntKind.i64.wrap (f + x) + -x) = f := by
 unfold shOK at h ⊢
 rw [Bool.and_eq_true, Bool.and_eq_true, btw_iff] at h
 obtain ⟨h1, h2, h3⟩ := h
 have g := goodB_iff.1 h1
 have f1 := g.f1
 have f2 := g.f2
 have e : IntKind.i64.wrap (f + x) = f + x := wrap_id (by omega) (by omega)
 rw [e] at h3 ⊢
 have e2 : IntKind.i64.wrap (f + x + -x) = f := by rw [show f + x + -x = f by omega]; exact wrap_id (by omega) (by omega)
 refine ⟨by rw [wrap_id (by omega) (by omega)]; omega, ?_, e2⟩
 rw [e2, h3, h1, btw_iff.2 (show -22100 ≤ -x ∧ -x ≤ 22100 by omega)]; rfl
theorem pure_FnWeights (x0 : List D) (h0 : x0.length ≤ maxLen) (w0 : ∀ d ∈ x0, wfD (.int .u8) d) : Z61 x0 = some true := by
 unfold Z61 c_Z61 Z0 c_Z0
 simp only [Option.bind_some]
 by_cases hbig : (65536 : Int) < x0.length
 ·simp [hbig]
 rw [decide_eq_false hbig, cond_false]
 have hc : okC x0 := ⟨by omega, fun d hd => okB (w0 d hd)⟩
 obtain ⟨⟨f, l⟩, hd, hf, hl⟩ := drawM_tot x0 hc
 dsimp only at hf hl
 obtain ⟨⟨sF, sW, x⟩, hd2, hsl⟩ := drawSh_tot x0 hc
 dsimp only at hsl
 obtain ⟨⟨dF, dW, ok⟩, m1, m2, m3, m4⟩ := make_ok f hf l (by omega)
 dsimp only at m3 m4
 simp only [hd, hd2, m1, m2, Option.bind_some, beq_self_eq_true, Bool.not_true, cond_false, rDist_refl dF (l := dW) rfl (by omega), shiftI _ sW _ (by omega), shiftS _ sW _ (by omega)]
 have tail : ((bif !(bif shOK sF sW x then (IntKind.i64.wrap (sF + x), sW, true) else (0, ([] : List D), false)).2.2 then some true else
   (Z58 (bif shOK sF sW x then (IntKind.i64.wrap (sF + x), sW, true) else (0, ([] : List D), false)).1 (bif shOK sF sW x then (IntKind.i64.wrap (sF + x), sW, true) else (0, ([] : List D), false)).2.1 (IntKind.i64.wrap (0 - x))).bind fun y => bif y.2.2 then (Z44 y.1 y.2.1 sF sW).bind fun y17 => some y17 else some false)) = some true := by
  cases hs : shOK sF sW x with
  | false => rfl
  | true =>
   obtain ⟨b1, b2, b3⟩ := shift_back hs
   simp only [cond_true, Bool.not_true, cond_false, b1, shiftI _ sW _ (show sW.length ≤ 1048576 by omega), b2, b3, Option.bind_some, rDist_refl sF (l := sW) rfl (by omega)]
 cases hok : ok with
 | false =>
  simp only [cond_false]
  exact tail
 | true =>
  obtain ⟨q1, q2, q3⟩ := m4 hok
  obtain ⟨hg, g, g1, g2, g3⟩ := red_times q1 q3 hok
  dsimp only at hg g3
  have h9 : l.length ≤ 9 := by
   rcases hl with hl | hl | ⟨hl, hz⟩
   ·exact hl
   ·omega
   ·exfalso
    rcases q3 with ⟨-, q⟩ | ⟨fr, t, hlt, hcut, -⟩
    ·rw [hok] at q; cases q
    ·exact hcut.fr0 hlt (hz fr)
  have e13 := loop13 x0 hg hf.1 (by omega) ⟨g1, g2⟩ q1 g3 l.length 0 0 (by omega) (.inl rfl)
  rw [show ((0 : Nat) : Int) = 0 from rfl] at e13
  have n60 := hg.n60
  simp only [cond_true, goodI dF dW (show dW.length ≤ 1048576 by omega), goodB_iff.2 hg, Option.bind_some, Bool.not_true, cond_false, e13, Sum.elim_inr, hd2, shiftI _ sW _ (show sW.length ≤ 1048576 by omega), shiftS _ sW _ (show sW.length ≤ 1048576 by omega), beq_self_eq_true]
  exact tail
end Go.Proofs.Ytpigfmlahmapaaa
