/- The law FnQuantiles over plain values. No condition beside those of the statement. -/
import Derived.Test.YtpigfmlahmapaaaClMFnQuantiles
import Derived.Test.YtpigfmlahmapaaaRaiU5
set_option linter.unusedVariables false
set_option linter.unusedSimpArgs false
set_option maxRecDepth 100000
namespace Go.Proofs.Ytpigfmlahmapaaa
open Go Go.Rai
theorem Z5_lim {ι : Type} {R : ι → ι → Prop} (hD : Dir R) {F : Int → Int → List D → Int → Int → Int → List D → Option (Int × List D × Int × Int × Int × List D)} {Fs : ι → Int → Int → List D → Int → Int → Int → List D → Option (Int × List D × Int × Int × Int × List D)} (h : ∀ x0 x1 x2 x3 x4 x5 x6, Lim R (F x0 x1 x2 x3 x4 x5 x6) (fun i => Fs i x0 x1 x2 x3 x4 x5 x6)) (x0 : Int) (x1 : Int) (x2 : List D) (x3 : Int) (x4 : Int) (x5 : Int) (x6 : List D)  : Lim R (c_Z5 F x0 x1 x2 x3 x4 x5 x6 some) (fun i => c_Z5 (Fs i) x0 x1 x2 x3 x4 x5 x6 some) := by
 unfold c_Z5
 repeat' first
  | exact Lim.const hD
  | exact h _ _ _ _ _ _ _
  | apply Lim.ite
  | apply Lim.cond
  | apply Lim.bind hD
  | apply Lim.sum
  | intro _
theorem Z5_fx (x0 : Int) (x1 : Int) (x2 : List D) (x3 : Int) (x4 : Int) (x5 : Int) (x6 : List D)  : Z5 x0 x1 x2 x3 x4 x5 x6 = c_Z5 Z5 x0 x1 x2 x3 x4 x5 x6 some :=
 fix_eq (N := fun n (p : Int × Int × List D × Int × Int × Int × List D) => n_Z5 n p.1 p.2.1 p.2.2.1 p.2.2.2.1 p.2.2.2.2.1 p.2.2.2.2.2.1 p.2.2.2.2.2.2) (C := fun f p => c_Z5 (fun x0 x1 x2 x3 x4 x5 x6 => f (x0, x1, x2, x3, x4, x5, x6)) p.1 p.2.1 p.2.2.1 p.2.2.2.1 p.2.2.2.2.1 p.2.2.2.2.2.1 p.2.2.2.2.2.2 some) (fun _ => rfl) (fun _ _ => rfl) (fun hD f fs h p => Z5_lim hD (fun x0 x1 x2 x3 x4 x5 x6 => h (x0, x1, x2, x3, x4, x5, x6)) _ _ _ _ _ _ _) (x0, x1, x2, x3, x4, x5, x6)
theorem Z6_lim {ι : Type} {R : ι → ι → Prop} (hD : Dir R) {F : Int → List D → Int → Int → Int → Int → Option (Int × List D × Int × Int × Int × Int)} {Fs : ι → Int → List D → Int → Int → Int → Int → Option (Int × List D × Int × Int × Int × Int)} (h : ∀ x0 x1 x2 x3 x4 x5, Lim R (F x0 x1 x2 x3 x4 x5) (fun i => Fs i x0 x1 x2 x3 x4 x5)) (x0 : Int) (x1 : List D) (x2 : Int) (x3 : Int) (x4 : Int) (x5 : Int)  : Lim R (c_Z6 F x0 x1 x2 x3 x4 x5 some) (fun i => c_Z6 (Fs i) x0 x1 x2 x3 x4 x5 some) := by
 unfold c_Z6
 repeat' first
  | exact Lim.const hD
  | exact h _ _ _ _ _ _
  | apply Lim.ite
  | apply Lim.cond
  | apply Lim.bind hD
  | apply Lim.sum
  | intro _
theorem Z6_fx (x0 : Int) (x1 : List D) (x2 : Int) (x3 : Int) (x4 : Int) (x5 : Int)  : Z6 x0 x1 x2 x3 x4 x5 = c_Z6 Z6 x0 x1 x2 x3 x4 x5 some :=
 fix_eq (N := fun n (p : Int × List D × Int × Int × Int × Int) => n_Z6 n p.1 p.2.1 p.2.2.1 p.2.2.2.1 p.2.2.2.2.1 p.2.2.2.2.2) (C := fun f p => c_Z6 (fun x0 x1 x2 x3 x4 x5 => f (x0, x1, x2, x3, x4, x5)) p.1 p.2.1 p.2.2.1 p.2.2.2.1 p.2.2.2.2.1 p.2.2.2.2.2 some) (fun _ => rfl) (fun _ _ => rfl) (fun hD f fs h p => Z6_lim hD (fun x0 x1 x2 x3 x4 x5 => h (x0, x1, x2, x3, x4, x5)) _ _ _ _ _ _) (x0, x1, x2, x3, x4, x5)
theorem Z7_lim {ι : Type} {R : ι → ι → Prop} (hD : Dir R) {F : Int → List D → Int → Int → Int → Int → Option (Int × List D × Int × Int × Int × Int)} {Fs : ι → Int → List D → Int → Int → Int → Int → Option (Int × List D × Int × Int × Int × Int)} (h : ∀ x0 x1 x2 x3 x4 x5, Lim R (F x0 x1 x2 x3 x4 x5) (fun i => Fs i x0 x1 x2 x3 x4 x5)) (x0 : Int) (x1 : List D) (x2 : Int) (x3 : Int) (x4 : Int) (x5 : Int)  : Lim R (c_Z7 F x0 x1 x2 x3 x4 x5 some) (fun i => c_Z7 (Fs i) x0 x1 x2 x3 x4 x5 some) := by
 unfold c_Z7
 repeat' first
  | exact Lim.const hD
  | exact h _ _ _ _ _ _
  | apply Lim.ite
  | apply Lim.cond
  | apply Lim.bind hD
  | apply Lim.sum
  | intro _
theorem Z7_fx (x0 : Int) (x1 : List D) (x2 : Int) (x3 : Int) (x4 : Int) (x5 : Int)  : Z7 x0 x1 x2 x3 x4 x5 = c_Z7 Z7 x0 x1 x2 x3 x4 x5 some :=
 fix_eq (N := fun n (p : Int × List D × Int × Int × Int × Int) => n_Z7 n p.1 p.2.1 p.2.2.1 p.2.2.2.1 p.2.2.2.2.1 p.2.2.2.2.2) (C := fun f p => c_Z7 (fun x0 x1 x2 x3 x4 x5 => f (x0, x1, x2, x3, x4, x5)) p.1 p.2.1 p.2.2.1 p.2.2.2.1 p.2.2.2.2.1 p.2.2.2.2.2 some) (fun _ => rfl) (fun _ _ => rfl) (fun hD f fs h p => Z7_lim hD (fun x0 x1 x2 x3 x4 x5 => h (x0, x1, x2, x3, x4, x5)) _ _ _ _ _ _) (x0, x1, x2, x3, x4, x5)
theorem Z8_lim {ι : Type} {R : ι → ι → Prop} (hD : Dir R) {F : Int → Int → Option (Int)} {Fs : ι → Int → Int → Option (Int)} (h : ∀ x0 x1, Lim R (F x0 x1) (fun i => Fs i x0 x1)) (x0 : Int) (x1 : Int)  : Lim R (c_Z8 F x0 x1 some) (fun i => c_Z8 (Fs i) x0 x1 some) := by
 unfold c_Z8
 repeat' first
  | exact Lim.const hD
  | exact h _ _
  | apply Lim.ite
  | apply Lim.cond
  | apply Lim.bind hD
  | apply Lim.sum
  | intro _
theorem Z8_fx (x0 : Int) (x1 : Int)  : Z8 x0 x1 = c_Z8 Z8 x0 x1 some :=
 fix_eq (N := fun n (p : Int × Int) => n_Z8 n p.1 p.2) (C := fun f p => c_Z8 (fun x0 x1 => f (x0, x1)) p.1 p.2 some) (fun _ => rfl) (fun _ _ => rfl) (fun hD f fs h p => Z8_lim hD (fun x0 x1 => h (x0, x1)) _ _) (x0, x1)
theorem Z10_lim {ι : Type} {R : ι → ι → Prop} (hD : Dir R) {F : Int → List D → Int → Int → Int → Int → Int → Int → Option (Int × List D × Int × Int × Int × Int × Int)} {Fs : ι → Int → List D → Int → Int → Int → Int → Int → Int → Option (Int × List D × Int × Int × Int × Int × Int)} (h : ∀ x0 x1 x2 x3 x4 x5 x6 x7, Lim R (F x0 x1 x2 x3 x4 x5 x6 x7) (fun i => Fs i x0 x1 x2 x3 x4 x5 x6 x7)) (x0 : Int) (x1 : List D) (x2 : Int) (x3 : Int) (x4 : Int) (x5 : Int) (x6 : Int) (x7 : Int)  : Lim R (c_Z10 F x0 x1 x2 x3 x4 x5 x6 x7 some) (fun i => c_Z10 (Fs i) x0 x1 x2 x3 x4 x5 x6 x7 some) := by
 unfold c_Z10
 repeat' first
  | exact Lim.const hD
  | exact h _ _ _ _ _ _ _ _
  | apply Lim.ite
  | apply Lim.cond
  | apply Lim.bind hD
  | apply Lim.sum
  | intro _
theorem Z10_fx (x0 : Int) (x1 : List D) (x2 : Int) (x3 : Int) (x4 : Int) (x5 : Int) (x6 : Int) (x7 : Int)  : Z10 x0 x1 x2 x3 x4 x5 x6 x7 = c_Z10 Z10 x0 x1 x2 x3 x4 x5 x6 x7 some :=
 fix_eq (N := fun n (p : Int × List D × Int × Int × Int × Int × Int × Int) => n_Z10 n p.1 p.2.1 p.2.2.1 p.2.2.2.1 p.2.2.2.2.1 p.2.2.2.2.2.1 p.2.2.2.2.2.2.1 p.2.2.2.2.2.2.2) (C := fun f p => c_Z10 (fun x0 x1 x2 x3 x4 x5 x6 x7 => f (x0, x1, x2, x3, x4, x5, x6, x7)) p.1 p.2.1 p.2.2.1 p.2.2.2.1 p.2.2.2.2.1 p.2.2.2.2.2.1 p.2.2.2.2.2.2.1 p.2.2.2.2.2.2.2 some) (fun _ => rfl) (fun _ _ => rfl) (fun hD f fs h p => Z10_lim hD (fun x0 x1 x2 x3 x4 x5 x6 x7 => h (x0, x1, x2, x3, x4, x5, x6, x7)) _ _ _ _ _ _ _ _) (x0, x1, x2, x3, x4, x5, x6, x7)
theorem Z11_lim {ι : Type} {R : ι → ι → Prop} (hD : Dir R) {F : List D → Int → Int → Int → Int → Int → Int → List D → Option (Int × Int × Int × List D)} {Fs : ι → List D → Int → Int → Int → Int → Int → Int → List D → Option (Int × Int × Int × List D)} (h : ∀ x0 x1 x2 x3 x4 x5 x6 x7, Lim R (F x0 x1 x2 x3 x4 x5 x6 x7) (fun i => Fs i x0 x1 x2 x3 x4 x5 x6 x7)) (x0 : List D) (x1 : Int) (x2 : Int) (x3 : Int) (x4 : Int) (x5 : Int) (x6 : Int) (x7 : List D)  : Lim R (c_Z11 F x0 x1 x2 x3 x4 x5 x6 x7 some) (fun i => c_Z11 (Fs i) x0 x1 x2 x3 x4 x5 x6 x7 some) := by
 unfold c_Z11
 repeat' first
  | exact Lim.const hD
  | exact h _ _ _ _ _ _ _ _
  | apply Lim.ite
  | apply Lim.cond
  | apply Lim.bind hD
  | apply Lim.sum
  | intro _
theorem Z11_fx (x0 : List D) (x1 : Int) (x2 : Int) (x3 : Int) (x4 : Int) (x5 : Int) (x6 : Int) (x7 : List D)  : Z11 x0 x1 x2 x3 x4 x5 x6 x7 = c_Z11 Z11 x0 x1 x2 x3 x4 x5 x6 x7 some :=
 fix_eq (N := fun n (p : List D × Int × Int × Int × Int × Int × Int × List D) => n_Z11 n p.1 p.2.1 p.2.2.1 p.2.2.2.1 p.2.2.2.2.1 p.2.2.2.2.2.1 p.2.2.2.2.2.2.1 p.2.2.2.2.2.2.2) (C := fun f p => c_Z11 (fun x0 x1 x2 x3 x4 x5 x6 x7 => f (x0, x1, x2, x3, x4, x5, x6, x7)) p.1 p.2.1 p.2.2.1 p.2.2.2.1 p.2.2.2.2.1 p.2.2.2.2.2.1 p.2.2.2.2.2.2.1 p.2.2.2.2.2.2.2 some) (fun _ => rfl) (fun _ _ => rfl) (fun hD f fs h p => Z11_lim hD (fun x0 x1 x2 x3 x4 x5 x6 x7 => h (x0, x1, x2, x3, x4, x5, x6, x7)) _ _ _ _ _ _ _ _) (x0, x1, x2, x3, x4, x5, x6, x7)
theorem Z13_lim {ι : Type} {R : ι → ι → Prop} (hD : Dir R) {F : Int → Int → Int → Int → List D → Option ((Bool × Int) ⊕ (Int))} {Fs : ι → Int → Int → Int → Int → List D → Option ((Bool × Int) ⊕ (Int))} (h : ∀ x0 x1 x2 x3 x4, Lim R (F x0 x1 x2 x3 x4) (fun i => Fs i x0 x1 x2 x3 x4)) (x0 : Int) (x1 : Int) (x2 : Int) (x3 : Int) (x4 : List D)  : Lim R (c_Z13 F x0 x1 x2 x3 x4 some) (fun i => c_Z13 (Fs i) x0 x1 x2 x3 x4 some) := by
 unfold c_Z13
 repeat' first
  | exact Lim.const hD
  | exact h _ _ _ _ _
  | apply Lim.ite
  | apply Lim.cond
  | apply Lim.bind hD
  | apply Lim.sum
  | intro _
theorem Z13_fx (x0 : Int) (x1 : Int) (x2 : Int) (x3 : Int) (x4 : List D)  : Z13 x0 x1 x2 x3 x4 = c_Z13 Z13 x0 x1 x2 x3 x4 some :=
 fix_eq (N := fun n (p : Int × Int × Int × Int × List D) => n_Z13 n p.1 p.2.1 p.2.2.1 p.2.2.2.1 p.2.2.2.2) (C := fun f p => c_Z13 (fun x0 x1 x2 x3 x4 => f (x0, x1, x2, x3, x4)) p.1 p.2.1 p.2.2.1 p.2.2.2.1 p.2.2.2.2 some) (fun _ => rfl) (fun _ _ => rfl) (fun hD f fs h p => Z13_lim hD (fun x0 x1 x2 x3 x4 => h (x0, x1, x2, x3, x4)) _ _ _ _ _) (x0, x1, x2, x3, x4)
theorem Z17_lim {ι : Type} {R : ι → ι → Prop} (hD : Dir R) {F : List D → Int → Int → Int → Int → List D → Option (List D × Int × Int × Int × Int × List D)} {Fs : ι → List D → Int → Int → Int → Int → List D → Option (List D × Int × Int × Int × Int × List D)} (h : ∀ x0 x1 x2 x3 x4 x5, Lim R (F x0 x1 x2 x3 x4 x5) (fun i => Fs i x0 x1 x2 x3 x4 x5)) (x0 : List D) (x1 : Int) (x2 : Int) (x3 : Int) (x4 : Int) (x5 : List D)  : Lim R (c_Z17 F x0 x1 x2 x3 x4 x5 some) (fun i => c_Z17 (Fs i) x0 x1 x2 x3 x4 x5 some) := by
 unfold c_Z17
 repeat' first
  | exact Lim.const hD
  | exact h _ _ _ _ _ _
  | apply Lim.ite
  | apply Lim.cond
  | apply Lim.bind hD
  | apply Lim.sum
  | intro _
theorem Z17_fx (x0 : List D) (x1 : Int) (x2 : Int) (x3 : Int) (x4 : Int) (x5 : List D)  : Z17 x0 x1 x2 x3 x4 x5 = c_Z17 Z17 x0 x1 x2 x3 x4 x5 some :=
 fix_eq (N := fun n (p : List D × Int × Int × Int × Int × List D) => n_Z17 n p.1 p.2.1 p.2.2.1 p.2.2.2.1 p.2.2.2.2.1 p.2.2.2.2.2) (C := fun f p => c_Z17 (fun x0 x1 x2 x3 x4 x5 => f (x0, x1, x2, x3, x4, x5)) p.1 p.2.1 p.2.2.1 p.2.2.2.1 p.2.2.2.2.1 p.2.2.2.2.2 some) (fun _ => rfl) (fun _ _ => rfl) (fun hD f fs h p => Z17_lim hD (fun x0 x1 x2 x3 x4 x5 => h (x0, x1, x2, x3, x4, x5)) _ _ _ _ _ _) (x0, x1, x2, x3, x4, x5)
theorem Z18_lim {ι : Type} {R : ι → ι → Prop} (hD : Dir R) {F : List D → Int → Int → Int → Int → List D → Option ((List D × Int × Int × Int × Int × List D) ⊕ (List D × Int × Int × Int × Int × List D))} {Fs : ι → List D → Int → Int → Int → Int → List D → Option ((List D × Int × Int × Int × Int × List D) ⊕ (List D × Int × Int × Int × Int × List D))} (h : ∀ x0 x1 x2 x3 x4 x5, Lim R (F x0 x1 x2 x3 x4 x5) (fun i => Fs i x0 x1 x2 x3 x4 x5)) (x0 : List D) (x1 : Int) (x2 : Int) (x3 : Int) (x4 : Int) (x5 : List D)  : Lim R (c_Z18 F x0 x1 x2 x3 x4 x5 some) (fun i => c_Z18 (Fs i) x0 x1 x2 x3 x4 x5 some) := by
 unfold c_Z18
 repeat' first
  | exact Lim.const hD
  | exact h _ _ _ _ _ _
  | apply Lim.ite
  | apply Lim.cond
  | apply Lim.bind hD
  | apply Lim.sum
  | intro _
theorem Z18_fx (x0 : List D) (x1 : Int) (x2 : Int) (x3 : Int) (x4 : Int) (x5 : List D)  : Z18 x0 x1 x2 x3 x4 x5 = c_Z18 Z18 x0 x1 x2 x3 x4 x5 some :=
 fix_eq (N := fun n (p : List D × Int × Int × Int × Int × List D) => n_Z18 n p.1 p.2.1 p.2.2.1 p.2.2.2.1 p.2.2.2.2.1 p.2.2.2.2.2) (C := fun f p => c_Z18 (fun x0 x1 x2 x3 x4 x5 => f (x0, x1, x2, x3, x4, x5)) p.1 p.2.1 p.2.2.1 p.2.2.2.1 p.2.2.2.2.1 p.2.2.2.2.2 some) (fun _ => rfl) (fun _ _ => rfl) (fun hD f fs h p => Z18_lim hD (fun x0 x1 x2 x3 x4 x5 => h (x0, x1, x2, x3, x4, x5)) _ _ _ _ _ _) (x0, x1, x2, x3, x4, x5)
theorem Z31_lim {ι : Type} {R : ι → ι → Prop} (hD : Dir R) {F : Int → Int → Option (Int)} {Fs : ι → Int → Int → Option (Int)} (h : ∀ x0 x1, Lim R (F x0 x1) (fun i => Fs i x0 x1)) (x0 : Int) (x1 : Int)  : Lim R (c_Z31 F x0 x1 some) (fun i => c_Z31 (Fs i) x0 x1 some) := by
 unfold c_Z31
 repeat' first
  | exact Lim.const hD
  | exact h _ _
  | apply Lim.ite
  | apply Lim.cond
  | apply Lim.bind hD
  | apply Lim.sum
  | intro _
theorem Z31_fx (x0 : Int) (x1 : Int)  : Z31 x0 x1 = c_Z31 Z31 x0 x1 some :=
 fix_eq (N := fun n (p : Int × Int) => n_Z31 n p.1 p.2) (C := fun f p => c_Z31 (fun x0 x1 => f (x0, x1)) p.1 p.2 some) (fun _ => rfl) (fun _ _ => rfl) (fun hD f fs h p => Z31_lim hD (fun x0 x1 => h (x0, x1)) _ _) (x0, x1)
theorem Z33_lim {ι : Type} {R : ι → ι → Prop} (hD : Dir R) {F : Int → List D → Int → Int → Option (Int)} {Fs : ι → Int → List D → Int → Int → Option (Int)} (h : ∀ x0 x1 x2 x3, Lim R (F x0 x1 x2 x3) (fun i => Fs i x0 x1 x2 x3)) (x0 : Int) (x1 : List D) (x2 : Int) (x3 : Int)  : Lim R (c_Z33 F x0 x1 x2 x3 some) (fun i => c_Z33 (Fs i) x0 x1 x2 x3 some) := by
 unfold c_Z33
 repeat' first
  | exact Lim.const hD
  | exact h _ _ _ _
  | apply Lim.ite
  | apply Lim.cond
  | apply Lim.bind hD
  | apply Lim.sum
  | intro _
theorem Z33_fx (x0 : Int) (x1 : List D) (x2 : Int) (x3 : Int)  : Z33 x0 x1 x2 x3 = c_Z33 Z33 x0 x1 x2 x3 some :=
 fix_eq (N := fun n (p : Int × List D × Int × Int) => n_Z33 n p.1 p.2.1 p.2.2.1 p.2.2.2) (C := fun f p => c_Z33 (fun x0 x1 x2 x3 => f (x0, x1, x2, x3)) p.1 p.2.1 p.2.2.1 p.2.2.2 some) (fun _ => rfl) (fun _ _ => rfl) (fun hD f fs h p => Z33_lim hD (fun x0 x1 x2 x3 => h (x0, x1, x2, x3)) _ _ _ _) (x0, x1, x2, x3)
theorem Z37_lim {ι : Type} {R : ι → ι → Prop} (hD : Dir R) {F : Int → List D → Int → Int → Option (Int)} {Fs : ι → Int → List D → Int → Int → Option (Int)} (h : ∀ x0 x1 x2 x3, Lim R (F x0 x1 x2 x3) (fun i => Fs i x0 x1 x2 x3)) (x0 : Int) (x1 : List D) (x2 : Int) (x3 : Int)  : Lim R (c_Z37 F x0 x1 x2 x3 some) (fun i => c_Z37 (Fs i) x0 x1 x2 x3 some) := by
 unfold c_Z37
 repeat' first
  | exact Lim.const hD
  | exact h _ _ _ _
  | apply Lim.ite
  | apply Lim.cond
  | apply Lim.bind hD
  | apply Lim.sum
  | intro _
theorem Z37_fx (x0 : Int) (x1 : List D) (x2 : Int) (x3 : Int)  : Z37 x0 x1 x2 x3 = c_Z37 Z37 x0 x1 x2 x3 some :=
 fix_eq (N := fun n (p : Int × List D × Int × Int) => n_Z37 n p.1 p.2.1 p.2.2.1 p.2.2.2) (C := fun f p => c_Z37 (fun x0 x1 x2 x3 => f (x0, x1, x2, x3)) p.1 p.2.1 p.2.2.1 p.2.2.2 some) (fun _ => rfl) (fun _ _ => rfl) (fun hD f fs h p => Z37_lim hD (fun x0 x1 x2 x3 => h (x0, x1, x2, x3)) _ _ _ _) (x0, x1, x2, x3)
theorem Z41_lim {ι : Type} {R : ι → ι → Prop} (hD : Dir R) {F : Int → Int → Int → Int → Int → List D → Option ((Int × Int × Bool) ⊕ (Unit))} {Fs : ι → Int → Int → Int → Int → Int → List D → Option ((Int × Int × Bool) ⊕ (Unit))} (h : ∀ x0 x1 x2 x3 x4 x5, Lim R (F x0 x1 x2 x3 x4 x5) (fun i => Fs i x0 x1 x2 x3 x4 x5)) (x0 : Int) (x1 : Int) (x2 : Int) (x3 : Int) (x4 : Int) (x5 : List D)  : Lim R (c_Z41 F x0 x1 x2 x3 x4 x5 some) (fun i => c_Z41 (Fs i) x0 x1 x2 x3 x4 x5 some) := by
 unfold c_Z41
 repeat' first
  | exact Lim.const hD
  | exact h _ _ _ _ _ _
  | apply Lim.ite
  | apply Lim.cond
  | apply Lim.bind hD
  | apply Lim.sum
  | intro _
theorem Z41_fx (x0 : Int) (x1 : Int) (x2 : Int) (x3 : Int) (x4 : Int) (x5 : List D)  : Z41 x0 x1 x2 x3 x4 x5 = c_Z41 Z41 x0 x1 x2 x3 x4 x5 some :=
 fix_eq (N := fun n (p : Int × Int × Int × Int × Int × List D) => n_Z41 n p.1 p.2.1 p.2.2.1 p.2.2.2.1 p.2.2.2.2.1 p.2.2.2.2.2) (C := fun f p => c_Z41 (fun x0 x1 x2 x3 x4 x5 => f (x0, x1, x2, x3, x4, x5)) p.1 p.2.1 p.2.2.1 p.2.2.2.1 p.2.2.2.2.1 p.2.2.2.2.2 some) (fun _ => rfl) (fun _ _ => rfl) (fun hD f fs h p => Z41_lim hD (fun x0 x1 x2 x3 x4 x5 => h (x0, x1, x2, x3, x4, x5)) _ _ _ _ _ _) (x0, x1, x2, x3, x4, x5)
theorem Z44_lim {ι : Type} {R : ι → ι → Prop} (hD : Dir R) {F : List D → Int → Int → Option (Int)} {Fs : ι → List D → Int → Int → Option (Int)} (h : ∀ x0 x1 x2, Lim R (F x0 x1 x2) (fun i => Fs i x0 x1 x2)) (x0 : List D) (x1 : Int) (x2 : Int)  : Lim R (c_Z44 F x0 x1 x2 some) (fun i => c_Z44 (Fs i) x0 x1 x2 some) := by
 unfold c_Z44
 repeat' first
  | exact Lim.const hD
  | exact h _ _ _
  | apply Lim.ite
  | apply Lim.cond
  | apply Lim.bind hD
  | apply Lim.sum
  | intro _
theorem Z44_fx (x0 : List D) (x1 : Int) (x2 : Int)  : Z44 x0 x1 x2 = c_Z44 Z44 x0 x1 x2 some :=
 fix_eq (N := fun n (p : List D × Int × Int) => n_Z44 n p.1 p.2.1 p.2.2) (C := fun f p => c_Z44 (fun x0 x1 x2 => f (x0, x1, x2)) p.1 p.2.1 p.2.2 some) (fun _ => rfl) (fun _ _ => rfl) (fun hD f fs h p => Z44_lim hD (fun x0 x1 x2 => h (x0, x1, x2)) _ _ _) (x0, x1, x2)
theorem Z47_lim {ι : Type} {R : ι → ι → Prop} (hD : Dir R) {F : Int → Int → Int → Int → Int → List D → Option ((Int × Int × Bool × Int × List D) ⊕ (Int × List D))} {Fs : ι → Int → Int → Int → Int → Int → List D → Option ((Int × Int × Bool × Int × List D) ⊕ (Int × List D))} (h : ∀ x0 x1 x2 x3 x4 x5, Lim R (F x0 x1 x2 x3 x4 x5) (fun i => Fs i x0 x1 x2 x3 x4 x5)) (x0 : Int) (x1 : Int) (x2 : Int) (x3 : Int) (x4 : Int) (x5 : List D)  : Lim R (c_Z47 F x0 x1 x2 x3 x4 x5 some) (fun i => c_Z47 (Fs i) x0 x1 x2 x3 x4 x5 some) := by
 unfold c_Z47
 repeat' first
  | exact Lim.const hD
  | exact h _ _ _ _ _ _
  | apply Lim.ite
  | apply Lim.cond
  | apply Lim.bind hD
  | apply Lim.sum
  | intro _
theorem Z47_fx (x0 : Int) (x1 : Int) (x2 : Int) (x3 : Int) (x4 : Int) (x5 : List D)  : Z47 x0 x1 x2 x3 x4 x5 = c_Z47 Z47 x0 x1 x2 x3 x4 x5 some :=
 fix_eq (N := fun n (p : Int × Int × Int × Int × Int × List D) => n_Z47 n p.1 p.2.1 p.2.2.1 p.2.2.2.1 p.2.2.2.2.1 p.2.2.2.2.2) (C := fun f p => c_Z47 (fun x0 x1 x2 x3 x4 x5 => f (x0, x1, x2, x3, x4, x5)) p.1 p.2.1 p.2.2.1 p.2.2.2.1 p.2.2.2.2.1 p.2.2.2.2.2 some) (fun _ => rfl) (fun _ _ => rfl) (fun hD f fs h p => Z47_lim hD (fun x0 x1 x2 x3 x4 x5 => h (x0, x1, x2, x3, x4, x5)) _ _ _ _ _ _) (x0, x1, x2, x3, x4, x5)
theorem Z51_lim {ι : Type} {R : ι → ι → Prop} (hD : Dir R) {F : Int → Int → Int → Int → Int → Int → Int → Int → List D → Option ((Bool × Int × Int × Int × Int × Int × Int × List D) ⊕ (Int × Int × Int × Int × Int × Int × List D))} {Fs : ι → Int → Int → Int → Int → Int → Int → Int → Int → List D → Option ((Bool × Int × Int × Int × Int × Int × Int × List D) ⊕ (Int × Int × Int × Int × Int × Int × List D))} (h : ∀ x0 x1 x2 x3 x4 x5 x6 x7 x8, Lim R (F x0 x1 x2 x3 x4 x5 x6 x7 x8) (fun i => Fs i x0 x1 x2 x3 x4 x5 x6 x7 x8)) (x0 : Int) (x1 : Int) (x2 : Int) (x3 : Int) (x4 : Int) (x5 : Int) (x6 : Int) (x7 : Int) (x8 : List D)  : Lim R (c_Z51 F x0 x1 x2 x3 x4 x5 x6 x7 x8 some) (fun i => c_Z51 (Fs i) x0 x1 x2 x3 x4 x5 x6 x7 x8 some) := by
 unfold c_Z51
 repeat' first
  | exact Lim.const hD
  | exact h _ _ _ _ _ _ _ _ _
  | apply Lim.ite
  | apply Lim.cond
  | apply Lim.bind hD
  | apply Lim.sum
  | intro _
theorem Z51_fx (x0 : Int) (x1 : Int) (x2 : Int) (x3 : Int) (x4 : Int) (x5 : Int) (x6 : Int) (x7 : Int) (x8 : List D)  : Z51 x0 x1 x2 x3 x4 x5 x6 x7 x8 = c_Z51 Z51 x0 x1 x2 x3 x4 x5 x6 x7 x8 some :=
 fix_eq (N := fun n (p : Int × Int × Int × Int × Int × Int × Int × Int × List D) => n_Z51 n p.1 p.2.1 p.2.2.1 p.2.2.2.1 p.2.2.2.2.1 p.2.2.2.2.2.1 p.2.2.2.2.2.2.1 p.2.2.2.2.2.2.2.1 p.2.2.2.2.2.2.2.2) (C := fun f p => c_Z51 (fun x0 x1 x2 x3 x4 x5 x6 x7 x8 => f (x0, x1, x2, x3, x4, x5, x6, x7, x8)) p.1 p.2.1 p.2.2.1 p.2.2.2.1 p.2.2.2.2.1 p.2.2.2.2.2.1 p.2.2.2.2.2.2.1 p.2.2.2.2.2.2.2.1 p.2.2.2.2.2.2.2.2 some) (fun _ => rfl) (fun _ _ => rfl) (fun hD f fs h p => Z51_lim hD (fun x0 x1 x2 x3 x4 x5 x6 x7 x8 => h (x0, x1, x2, x3, x4, x5, x6, x7, x8)) _ _ _ _ _ _ _ _ _) (x0, x1, x2, x3, x4, x5, x6, x7, x8)
theorem Z52_lim {ι : Type} {R : ι → ι → Prop} (hD : Dir R) {F : Int → Int → Int → List D → Int → Int → Int → List D → Option ((Int × Bool) ⊕ (Unit))} {Fs : ι → Int → Int → Int → List D → Int → Int → Int → List D → Option ((Int × Bool) ⊕ (Unit))} (h : ∀ x0 x1 x2 x3 x4 x5 x6 x7, Lim R (F x0 x1 x2 x3 x4 x5 x6 x7) (fun i => Fs i x0 x1 x2 x3 x4 x5 x6 x7)) (x0 : Int) (x1 : Int) (x2 : Int) (x3 : List D) (x4 : Int) (x5 : Int) (x6 : Int) (x7 : List D)  : Lim R (c_Z52 F x0 x1 x2 x3 x4 x5 x6 x7 some) (fun i => c_Z52 (Fs i) x0 x1 x2 x3 x4 x5 x6 x7 some) := by
 unfold c_Z52
 repeat' first
  | exact Lim.const hD
  | exact h _ _ _ _ _ _ _ _
  | apply Lim.ite
  | apply Lim.cond
  | apply Lim.bind hD
  | apply Lim.sum
  | intro _
theorem Z52_fx (x0 : Int) (x1 : Int) (x2 : Int) (x3 : List D) (x4 : Int) (x5 : Int) (x6 : Int) (x7 : List D)  : Z52 x0 x1 x2 x3 x4 x5 x6 x7 = c_Z52 Z52 x0 x1 x2 x3 x4 x5 x6 x7 some :=
 fix_eq (N := fun n (p : Int × Int × Int × List D × Int × Int × Int × List D) => n_Z52 n p.1 p.2.1 p.2.2.1 p.2.2.2.1 p.2.2.2.2.1 p.2.2.2.2.2.1 p.2.2.2.2.2.2.1 p.2.2.2.2.2.2.2) (C := fun f p => c_Z52 (fun x0 x1 x2 x3 x4 x5 x6 x7 => f (x0, x1, x2, x3, x4, x5, x6, x7)) p.1 p.2.1 p.2.2.1 p.2.2.2.1 p.2.2.2.2.1 p.2.2.2.2.2.1 p.2.2.2.2.2.2.1 p.2.2.2.2.2.2.2 some) (fun _ => rfl) (fun _ _ => rfl) (fun hD f fs h p => Z52_lim hD (fun x0 x1 x2 x3 x4 x5 x6 x7 => h (x0, x1, x2, x3, x4, x5, x6, x7)) _ _ _ _ _ _ _ _) (x0, x1, x2, x3, x4, x5, x6, x7)
theorem Z54_lim {ι : Type} {R : ι → ι → Prop} (hD : Dir R) {F : Int → Int → Int → Int → Int → Int → List D → Option (Int × Bool)} {Fs : ι → Int → Int → Int → Int → Int → Int → List D → Option (Int × Bool)} (h : ∀ x0 x1 x2 x3 x4 x5 x6, Lim R (F x0 x1 x2 x3 x4 x5 x6) (fun i => Fs i x0 x1 x2 x3 x4 x5 x6)) (x0 : Int) (x1 : Int) (x2 : Int) (x3 : Int) (x4 : Int) (x5 : Int) (x6 : List D)  : Lim R (c_Z54 F x0 x1 x2 x3 x4 x5 x6 some) (fun i => c_Z54 (Fs i) x0 x1 x2 x3 x4 x5 x6 some) := by
 unfold c_Z54
 repeat' first
  | exact Lim.const hD
  | exact h _ _ _ _ _ _ _
  | apply Lim.ite
  | apply Lim.cond
  | apply Lim.bind hD
  | apply Lim.sum
  | intro _
theorem Z54_fx (x0 : Int) (x1 : Int) (x2 : Int) (x3 : Int) (x4 : Int) (x5 : Int) (x6 : List D)  : Z54 x0 x1 x2 x3 x4 x5 x6 = c_Z54 Z54 x0 x1 x2 x3 x4 x5 x6 some :=
 fix_eq (N := fun n (p : Int × Int × Int × Int × Int × Int × List D) => n_Z54 n p.1 p.2.1 p.2.2.1 p.2.2.2.1 p.2.2.2.2.1 p.2.2.2.2.2.1 p.2.2.2.2.2.2) (C := fun f p => c_Z54 (fun x0 x1 x2 x3 x4 x5 x6 => f (x0, x1, x2, x3, x4, x5, x6)) p.1 p.2.1 p.2.2.1 p.2.2.2.1 p.2.2.2.2.1 p.2.2.2.2.2.1 p.2.2.2.2.2.2 some) (fun _ => rfl) (fun _ _ => rfl) (fun hD f fs h p => Z54_lim hD (fun x0 x1 x2 x3 x4 x5 x6 => h (x0, x1, x2, x3, x4, x5, x6)) _ _ _ _ _ _ _) (x0, x1, x2, x3, x4, x5, x6)
theorem l1In_eq (x a b : Int) : Z12 x a b = some (btw x a b) := by
 unfold Z12 c_Z12 btw
 by_cases h : a ≤ x <;> simp [h]
theorem within_eq (x a b : Int) : Z24 x a b = some (btw x a b) := by
 unfold Z24 c_Z24 btw
 by_cases h : a ≤ x <;> simp [h]
def Tt {ι β : Type} (I : ι → Prop) (P : β → Prop) (e : ι → Option β) : Prop := ∃ y, P y ∧ ∀ i, I i → e i = some y
theorem Tt.pure {ι β : Type} {I : ι → Prop} {P : β → Prop} {y : β} (h : P y) : Tt I P (fun _ => some y) := ⟨y, h, fun _ _ => rfl⟩
theorem Tt.bind {ι α β : Type} {I : ι → Prop} {Q : α → Prop} {P : β → Prop} {t : ι → Option α} {f : α → ι → Option β} (h : Tt I Q t) (k : ∀ v, Q v → Tt I P (fun i => f v i)) :
  Tt I P (fun i => (t i).bind (fun v => f v i)) := by
 obtain ⟨v, hv, ht⟩ := h
 obtain ⟨y, hy, hk⟩ := k v hv
 exact ⟨y, hy, fun i hi => by show (t i).bind _ = _; rw [ht i hi]; exact hk i hi⟩
theorem Tt.ite {ι β : Type} {I : ι → Prop} {P : β → Prop} {c : Prop} [Decidable c] {x y : ι → Option β} (h : c) (k : Tt I P x) : Tt I P (fun i => if c then x i else y i) := by
 simpa only [if_pos h] using k
theorem Tt.cnd {ι β : Type} {I : ι → Prop} {P : β → Prop} {b : Bool} {x y : ι → Option β} (h1 : b = true → Tt I P x) (h2 : b = false → Tt I P y) : Tt I P (fun i => bif b then x i else y i) := by
 cases b with
 | true => exact h1 rfl
 | false => exact h2 rfl
theorem Tt.dec {ι β : Type} {I : ι → Prop} {P : β → Prop} {p : Prop} [Decidable p] {x y : ι → Option β} (h1 : p → Tt I P x) (h2 : ¬ p → Tt I P y) : Tt I P (fun i => bif decide p then x i else y i) :=
 Tt.cnd (fun h => h1 (of_decide_eq_true h)) (fun h => h2 (of_decide_eq_false h))
theorem Tt.ndec {ι β : Type} {I : ι → Prop} {P : β → Prop} {p : Prop} [Decidable p] {x y : ι → Option β} (h1 : ¬ p → Tt I P x) (h2 : p → Tt I P y) : Tt I P (fun i => bif !decide p then x i else y i) := by
 by_cases h : p
 ·simpa only [decide_eq_true h, Bool.not_true, cond_false] using h2 h
 ·simpa only [decide_eq_false h, Bool.not_false, cond_true] using h1 h
theorem Tt.con {ι β : Type} {I : ι → Prop} {Q : β → Prop} {t : Option β} (h : ∃ y, t = some y ∧ Q y) : Tt I Q (fun _ => t) := by
 obtain ⟨y, h1, h2⟩ := h
 exact ⟨y, h2, fun _ _ => h1⟩
theorem Tt.mono {ι β : Type} {I J : ι → Prop} {P Q : β → Prop} {e : ι → Option β} (h : Tt I P e) (hI : ∀ i, J i → I i) (hP : ∀ y, P y → Q y) : Tt J Q e := by
 obtain ⟨y, h1, h2⟩ := h
 exact ⟨y, hP y h1, fun i hi => h2 i (hI i hi)⟩
theorem Tt.out {β : Type} {P : β → Prop} {t : Option β} (h : Tt (fun _ : Unit => True) P (fun _ => t)) : ∃ y, t = some y ∧ P y := by
 obtain ⟨y, h1, h2⟩ := h
 exact ⟨y, h2 () trivial, h1⟩
theorem Tt.loop {X Y : Type} (N : Nat → X → Option Y) (Inv : X → Prop) (μ : X → Nat) (Post : X → Y → Prop)
  (step : ∀ x, Inv x → (∀ x', Inv x' → μ x' < μ x → Tt (fun m => μ x ≤ m) (Post x') (fun m => N m x')) → Tt (fun m => μ x ≤ m) (Post x) (fun m => N (m + 1) x)) :
  ∀ x, Inv x → ∃ y, ev (fun n => N n x) = some y ∧ Post x y := by
 have key : ∀ k x, Inv x → μ x ≤ k → Tt (fun m => μ x < m) (Post x) (fun m => N m x) := by
  intro k
  induction k with
  | zero =>
   intro x hi hk
   obtain ⟨y, h1, h2⟩ := step x hi (fun x' _ h => absurd h (by omega))
   refine ⟨y, h1, fun m hm => ?_⟩
   obtain ⟨m, rfl⟩ : ∃ m', m = m' + 1 := ⟨m - 1, by omega⟩
   exact h2 m (by omega)
  | succ k ih =>
   intro x hi hk
   obtain ⟨y, h1, h2⟩ := step x hi (fun x' hx' h => (ih x' hx' (by omega)).mono (fun m hm => by omega) (fun _ h => h))
   refine ⟨y, h1, fun m hm => ?_⟩
   obtain ⟨m, rfl⟩ : ∃ m', m = m' + 1 := ⟨m - 1, by omega⟩
   exact h2 m (by omega)
 intro x hi
 obtain ⟨y, h1, h2⟩ := key (μ x) x hi (Nat.le_refl _)
 exact ⟨y, ev_eq (μ x + 1) (fun m hm => h2 m (by omega)), h1⟩
theorem wq (n : Int) : IntKind.i64.wrap n = (n + 9223372036854775808) % 18446744073709551616 - 9223372036854775808 := by
 unfold IntKind.wrap
 simp [IntKind.signed, IntKind.bits]
 omega
def okC (c : List D) : Prop := c.length ≤ 65536 ∧ ∀ d ∈ c, 0 ≤ d.toInt ∧ d.toInt ≤ 255
theorem uwrap (n : Int) : IntKind.u64.wrap n = n % 18446744073709551616 := by
 unfold IntKind.wrap
 simp [IntKind.signed, IntKind.bits]
theorem and255 (r : Int) : 0 ≤ IntKind.i64.wrap (IntKind.u64.wrap (((BitVec.ofInt IntKind.u64.bits r &&& BitVec.ofInt IntKind.u64.bits 255).toNat : Nat) : Int)) ∧ IntKind.i64.wrap (IntKind.u64.wrap (((BitVec.ofInt IntKind.u64.bits r &&& BitVec.ofInt IntKind.u64.bits 255).toNat : Nat) : Int)) ≤ 255 := by
 have h2 : (BitVec.ofInt IntKind.u64.bits r &&& BitVec.ofInt IntKind.u64.bits 255).toNat ≤ (BitVec.ofInt IntKind.u64.bits 255).toNat := by
  rw [BitVec.toNat_and]; exact Nat.and_le_right
 have h3 : (BitVec.ofInt IntKind.u64.bits 255).toNat = 255 := by decide
 rw [h3] at h2
 rw [uwrap, wq]
 omega
theorem next_tot (c : List D) (h : okC c) (p s : Int) (hp : 0 ≤ p ∧ p ≤ 1099511627776) : ∃ y, Z1 c p s = some y ∧ (0 ≤ y.1 ∧ y.1 ≤ 255 ∧ y.2.1 = c ∧ y.2.2.1 = p + 1) := by
 have hw : IntKind.i64.wrap (p + 1) = p + 1 := wrap_id (by omega) (by omega)
 have a1 := fun r => and255 r
 refine Tt.out ?_
 unfold Z1 c_Z1
 rw [hw]
 by_cases hpl : p < (c.length : Int)
 ·rw [decide_eq_true hpl, cond_true]
  have hd := h.2 _ (getD_mem (show p.toNat < c.length by omega))
  have hv : IntKind.i64.wrap (c.getD p.toNat (D.int 0)).toInt = (c.getD p.toNat (D.int 0)).toInt := wrap_id (by omega) (by omega)
  refine Tt.ite (by omega) ?_
  refine Tt.dec (fun _ => ?_) (fun hn => absurd (show p + 1 ≤ (c.length : Int) by omega) hn)
  refine Tt.pure ?_
  exact ⟨by rw [hv]; exact hd.1, by rw [hv]; exact hd.2, rfl, rfl⟩
 ·rw [decide_eq_false hpl, cond_false]
  refine Tt.dec (fun hn => by exfalso; omega) (fun _ => ?_)
  refine Tt.ite (by decide) ?_
  refine Tt.pure ?_
  exact ⟨(a1 _).1, (a1 _).2, rfl, rfl⟩
attribute [local irreducible] Z1
theorem pick_tot (c : List D) (h : okC c) (p s n : Int) (hp : 0 ≤ p ∧ p ≤ 1099511627770) (hn : n ≤ 65536) : ∃ y, Z2 c p s n = some y ∧ (0 ≤ y.1 ∧ (y.1 < n ∨ y.1 = 0) ∧ y.2.1 = c ∧ p ≤ y.2.2.1 ∧ y.2.2.1 ≤ p + 2) := by
 refine Tt.out ?_
 unfold Z2 c_Z2
 refine Tt.dec (fun _ => ?_) (fun hn1 => ?_)
 ·refine Tt.pure ?_
  exact ⟨by simp, .inr rfl, rfl, by simp, by simp only; omega⟩
 ·refine Tt.bind (Tt.con (next_tot c h p s (by omega))) (fun v hv => ?_)
  obtain ⟨v1, v2, v3, v4⟩ := hv
  rw [v3, v4]
  refine Tt.dec (fun _ => ?_) (fun _ => ?_)
  ·refine Tt.bind (Tt.con (next_tot c h (p + 1) _ (by omega))) (fun w hw => ?_)
   obtain ⟨w1, w2, w3, w4⟩ := hw
   refine Tt.ite (by omega) ?_
   have hq : IntKind.i64.wrap (IntKind.i64.wrap (v.1 * 256) + w.1) = v.1 * 256 + w.1 := by
    rw [wrap_id (n := v.1 * 256) (by omega) (by omega), wrap_id (by omega) (by omega)]
   have hm : (v.1 * 256 + w.1).tmod n = (v.1 * 256 + w.1) % n := Int.tmod_eq_emod_of_nonneg (by omega)
   have m1 := Int.emod_nonneg (v.1 * 256 + w.1) (show n ≠ 0 by omega)
   have m2 := Int.emod_lt_of_pos (v.1 * 256 + w.1) (show 0 < n by omega)
   refine Tt.pure ?_
   exact ⟨by simp only; rw [hq, hm]; exact m1, .inl (by simp only; rw [hq, hm]; exact m2), w3, by simp only; omega, by simp only; omega⟩
  ·refine Tt.ite (by omega) ?_
   have hm : v.1.tmod n = v.1 % n := Int.tmod_eq_emod_of_nonneg v1
   have m1 := Int.emod_nonneg v.1 (show n ≠ 0 by omega)
   have m2 := Int.emod_lt_of_pos v.1 (show 0 < n by omega)
   refine Tt.pure ?_
   exact ⟨by simp only; rw [hm]; exact m1, .inl (by simp only; rw [hm]; exact m2), rfl, by simp only; omega, by simp only; omega⟩
attribute [local irreducible] Z2
theorem among_tot (c : List D) (h : okC c) (p s : Int) (l : List D) (hp : 0 ≤ p ∧ p ≤ 1099511627770) (hl : 1 ≤ l.length ∧ l.length ≤ 65536) : ∃ y, Z3 c p s l = some y ∧ ((∃ d ∈ l, y.1 = d.toInt) ∧ y.2.1 = c ∧ p ≤ y.2.2.1 ∧ y.2.2.1 ≤ p + 2) := by
 refine Tt.out ?_
 unfold Z3 c_Z3
 refine Tt.bind (Tt.con (pick_tot c h p s _ hp (by omega))) (fun v hv => ?_)
 refine Tt.ite (by omega) ?_
 refine Tt.ite (by omega) ?_
 refine Tt.pure ?_
 exact ⟨⟨_, getD_mem (show v.1.toNat < l.length by omega), rfl⟩, hv.2.2.1, hv.2.2.2.1, hv.2.2.2.2⟩
attribute [local irreducible] Z3
theorem okB {d : D} (h : wfD (.int .u8) d) : 0 ≤ d.toInt ∧ d.toInt ≤ 255 := by
 obtain ⟨n, rfl, h2⟩ := h
 simp [Lit.wf, IntKind.min, IntKind.max, IntKind.signed, IntKind.bits] at h2
 simp only [toInt_int]; omega
theorem pick_tot' (c : List D) (h : okC c) (p s n : Int) (hp : 0 ≤ p ∧ p ≤ 1099511627770) (hn : n ≤ 65536) : ∃ y, Z2 c p s n = some y ∧ ((0 ≤ y.1 ∧ (y.1 < n ∨ y.1 = 0)) ∧ y.2.1 = c ∧ p ≤ y.2.2.1 ∧ y.2.2.1 ≤ p + 2) := by
 obtain ⟨y, h1, h2, h3, h4⟩ := pick_tot c h p s n hp hn
 exact ⟨y, h1, ⟨h2, h3⟩, h4⟩
def iw (l : List D) : List Int := l.map D.toInt
theorem iw_len (l : List D) : (iw l).length = l.length := by simp [iw]
theorem iw_get (l : List D) (i : Nat) : (l.getD i (.int 0)).toInt = (iw l).getD i 0 := by
 simp only [iw, List.getD_eq_getElem?_getD, List.getElem?_map]
 cases l[i]? <;> rfl
theorem iw_mem {l : List D} {x : Int} (h : x ∈ iw l) : ∃ d ∈ l, d.toInt = x := by simpa [iw] using h
def bdL (B : Int) (l : List D) : Prop := (∀ d ∈ l, 0 ≤ d.toInt ∧ d.toInt ≤ B) ∧ (l.length : Int) * B ≤ 1000000000000000000
def pf (l : List D) (i : Nat) : Int := ((iw l).take i).sum
theorem pf_zero (l : List D) : pf l 0 = 0 := by simp [pf]
theorem pf_succ {l : List D} {i : Nat} (h : i < l.length) : pf l (i + 1) = pf l i + (l.getD i (.int 0)).toInt := by
 unfold pf
 have h' : i < (iw l).length := by rw [iw_len]; exact h
 rw [List.take_succ_eq_append_getElem h', List.sum_append, iw_get, List.getD_eq_getElem?_getD, List.getElem?_eq_getElem h']
 simp
theorem pf_all (l : List D) : pf l l.length = (iw l).sum := by
 unfold pf
 rw [List.take_of_length_le (by rw [iw_len]; exact Nat.le_refl _)]
theorem pf_bd {B : Int} {l : List D} (h : bdL B l) (hB : 0 ≤ B) : ∀ i, i ≤ l.length → 0 ≤ pf l i ∧ pf l i ≤ (i : Int) * B
 | 0, _ => by rw [pf_zero]; simp
 | i + 1, hi => by
  have ih := pf_bd h hB i (by omega)
  have hm := h.1 _ (getD_mem (show i < l.length by omega))
  rw [pf_succ (by omega)]
  have : ((i + 1 : Nat) : Int) * B = (i : Int) * B + B := by rw [Int.natCast_add, Int.add_mul]; simp
  omega
theorem pf_mono {B : Int} {l : List D} (h : bdL B l) : ∀ {i j : Nat}, i ≤ j → j ≤ l.length → pf l i ≤ pf l j := by
 intro i j hij
 induction j with
 | zero => intro _; rw [show i = 0 by omega]; exact Int.le_refl _
 | succ j ih =>
  intro hj
  by_cases he : i = j + 1
  ·subst he; exact Int.le_refl _
  ·have := ih (by omega) (by omega)
   have hm := h.1 _ (getD_mem (show j < l.length by omega))
   rw [pf_succ (by omega)]
   omega
theorem mulN {n B : Int} {i : Nat} (hi : (i : Int) ≤ n) (hB : 0 ≤ B) (h : n * B ≤ 1000000000000000000) : (i : Int) * B ≤ 1000000000000000000 := by
 have := Int.mul_le_mul_of_nonneg_right hi hB
 omega
theorem sumS_eq {B : Int} {l : List D} (h : bdL B l) (hB : 0 ≤ B) (hl : l.length ≤ 1048576) : Z45 l = some (pf l l.length) := by
 have key : ∀ (k i : Nat), i + k = l.length → Z44 l (pf l i) i = some (pf l l.length) := by
  intro k
  induction k with
  | zero =>
   intro i hi
   rw [Z44_fx]
   unfold c_Z44
   rw [decide_eq_false (by omega), cond_false, show i = l.length by omega]
  | succ k ih =>
   intro i hi
   have hb := pf_bd h hB (i + 1) (by omega)
   have hn := mulN (i := i + 1) (by omega) hB h.2
   have e := pf_succ (l := l) (i := i) (by omega)
   rw [Z44_fx]
   unfold c_Z44
   rw [decide_eq_true (by omega), cond_true, if_pos (by omega), Int.toNat_natCast, ← e, wrap_id (by omega) (by omega), succ_wrap (by omega), ih (i + 1) (by omega)]
   rfl
 have := key l.length 0 (by omega)
 rw [pf_zero, show ((0 : Nat) : Int) = 0 from rfl] at this
 simp only [Z45, c_Z45, this, Option.bind_some]
theorem sumI_eq {B : Int} {l : List D} (h : bdL B l) (hB : 0 ≤ B) (hl : l.length ≤ 1048576) : Z38 l = some (pf l l.length) := by
 have key : ∀ (k i : Nat), i + k = l.length → Z37 (pf l i) l l.length i = some (pf l l.length) := by
  intro k
  induction k with
  | zero =>
   intro i hi
   rw [Z37_fx]
   unfold c_Z37
   rw [decide_eq_false (by omega), cond_false, show i = l.length by omega]
  | succ k ih =>
   intro i hi
   have hb := pf_bd h hB (i + 1) (by omega)
   have hn := mulN (i := i + 1) (by omega) hB h.2
   have e := pf_succ (l := l) (i := i) (by omega)
   rw [Z37_fx]
   unfold c_Z37
   rw [decide_eq_true (by omega), cond_true, if_pos (by omega), Int.toNat_natCast, ← e, wrap_id (by omega) (by omega), succ_wrap (by omega), ih (i + 1) (by omega)]
   rfl
 have := key l.length 0 (by omega)
 rw [pf_zero, show ((0 : Nat) : Int) = 0 from rfl] at this
 simp only [Z38, c_Z38, this, Option.bind_some]
theorem gcdS_eq : ∀ (b a : Nat), Z8 (a : Int) (b : Int) = some ((Nat.gcd a b : Nat) : Int) := by
 intro b
 induction b using Nat.strongRecOn with
 | _ b ih =>
  intro a
  rw [Z8_fx]
  unfold c_Z8
  by_cases h : b = 0
  ·subst h
   simp
  ·have h1 : ¬ (b : Int) = 0 := by omega
   rw [decide_eq_false h1, Bool.not_false, cond_true, if_pos h1, tmod_nat, ih (a % b) (Nat.mod_lt _ (by omega)) b]
   simp only [Option.bind_some]
   rw [Nat.gcd_comm a b, Nat.gcd_rec b a, Nat.gcd_comm (a % b) b]
theorem gcdI_eq : ∀ (b a : Nat), Z31 (a : Int) (b : Int) = some ((Nat.gcd a b : Nat) : Int) := by
 intro b
 induction b using Nat.strongRecOn with
 | _ b ih =>
  intro a
  rw [Z31_fx]
  unfold c_Z31
  by_cases h : b = 0
  ·subst h
   simp
  ·have h1 : ¬ (b : Int) = 0 := by omega
   rw [decide_eq_false h1, Bool.not_false, cond_true, if_pos h1, tmod_nat, ih (a % b) (Nat.mod_lt _ (by omega)) b]
   simp only [Option.bind_some]
   rw [Nat.gcd_comm a b, Nat.gcd_rec b a, Nat.gcd_comm (a % b) b]
theorem gS (a b : Nat) : Z9 (a : Int) (b : Int) = some ((Nat.gcd a b : Nat) : Int) := by
 simp only [Z9, c_Z9, gcdS_eq, Option.bind_some]
theorem gI (a b : Nat) : Z32 (a : Int) (b : Int) = some ((Nat.gcd a b : Nat) : Int) := by
 simp only [Z32, c_Z32, gcdI_eq, Option.bind_some]
def wt (l : List D) (i : Nat) : Nat := (l.getD i (.int 0)).toInt.toNat
def gp (l : List D) : Nat → Nat
 | 0 => 0
 | i + 1 => Nat.gcd (gp l i) (wt l i)
theorem wt_int {l : List D} {i : Nat} (h : ∀ d ∈ l, 0 ≤ d.toInt) (hi : i < l.length) : (l.getD i (.int 0)).toInt = ((wt l i : Nat) : Int) := by
 have := h _ (getD_mem hi)
 unfold wt
 omega
theorem divI_eq {l : List D} (h : ∀ d ∈ l, 0 ≤ d.toInt) (hl : l.length ≤ 1048576) : Z34 l = some ((gp l l.length : Nat) : Int) := by
 have key : ∀ (k i : Nat), i + k = l.length → Z33 ((gp l i : Nat) : Int) l l.length i = some ((gp l l.length : Nat) : Int) := by
  intro k
  induction k with
  | zero =>
   intro i hi
   rw [Z33_fx]
   unfold c_Z33
   rw [decide_eq_false (by omega), cond_false, show i = l.length by omega]
  | succ k ih =>
   intro i hi
   rw [Z33_fx]
   unfold c_Z33
   rw [decide_eq_true (by omega), cond_true, if_pos (by omega), Int.toNat_natCast, wt_int h (by omega), gI, succ_wrap (by omega)]
   simp only [Option.bind_some]
   rw [show Nat.gcd (gp l i) (wt l i) = gp l (i + 1) from rfl, ih (i + 1) (by omega)]
   rfl
 have := key l.length 0 (by omega)
 rw [show ((gp l 0 : Nat) : Int) = 0 from rfl, show ((0 : Nat) : Int) = 0 from rfl] at this
 simp only [Z34, c_Z34, this, Option.bind_some]
def badW (l : List D) (i : Nat) : Bool := !btw (l.getD i (.int 0)).toInt 0 1000000
def okW (l : List D) : Bool := (firstN (badW l) l.length).isNone
theorem okW_iff {l : List D} : okW l = true ↔ ∀ d ∈ l, 0 ≤ d.toInt ∧ d.toInt ≤ 1000000 := by
 unfold okW
 constructor
 ·intro h d hd
  obtain ⟨i, hi, rfl⟩ := List.mem_iff_getElem.1 hd
  have hn : firstN (badW l) l.length = none := by cases hq : firstN (badW l) l.length with | none => rfl | some _ => rw [hq] at h; cases h
  have := firstN_none hn i hi
  unfold badW at this
  rw [Bool.not_eq_false', btw_iff, List.getD_eq_getElem?_getD, List.getElem?_eq_getElem hi] at this
  exact this
 ·intro h
  cases hf : firstN (badW l) l.length with
  | none => rfl
  | some i =>
   obtain ⟨h1, h2, _⟩ := firstN_some hf
   have := h _ (getD_mem h1)
   unfold badW at h2
   rw [Bool.not_eq_true', ← Bool.not_eq_true, btw_iff] at h2
   exact absurd this h2
theorem good6 {l : List D} (hl : l.length ≤ 60) (f : Int) : Z13 l.length 0 0 f l = some (bif okW l then .inr ((gp l l.length : Nat) : Int) else .inl (false, (Z13 l.length 0 0 f l).elim 0 (Sum.elim (·.2) (fun _ => 0)))) := by
 have key : ∀ (k i : Nat), i + k = l.length → (∀ j, j < i → badW l j = false) → ∃ y, Z13 l.length ((gp l i : Nat) : Int) i f l = some y ∧ (okW l = true → y = .inr ((gp l l.length : Nat) : Int)) ∧ (okW l = false → ∃ z, y = .inl (false, z)) := by
  intro k
  induction k with
  | zero =>
   intro i hi hp
   rw [Z13_fx]
   unfold c_Z13
   rw [decide_eq_false (by omega), cond_false]
   refine ⟨_, rfl, fun _ => by rw [show i = l.length by omega], fun h => ?_⟩
   exfalso
   unfold okW at h
   cases hf : firstN (badW l) l.length with
   | none => rw [hf] at h; cases h
   | some j =>
    obtain ⟨h1, h2, _⟩ := firstN_some hf
    rw [hp j (by omega)] at h2; cases h2
  | succ k ih =>
   intro i hi hp
   rw [Z13_fx]
   unfold c_Z13
   rw [decide_eq_true (by omega), cond_true, if_pos (by omega), if_pos (by omega), Int.toNat_natCast, l1In_eq]
   simp only [Option.bind_some]
   cases hb : btw (l.getD i (.int 0)).toInt 0 1000000 with
   | false =>
    refine ⟨_, rfl, fun h => ?_, fun _ => ⟨_, rfl⟩⟩
    exfalso
    have := okW_iff.1 h _ (getD_mem (show i < l.length by omega))
    rw [← btw_iff, hb] at this; cases this
   | true =>
    have hbb := btw_iff.1 hb
    have hw : (l.getD i (.int 0)).toInt = ((wt l i : Nat) : Int) := by unfold wt; omega
    rw [hw, gS, succ_wrap (by omega)]
    simp only [Bool.not_true, cond_false, Option.bind_some, Option.bind_fun_some]
    exact ih (i + 1) (by omega) (fun j hj => by
     by_cases hji : j = i
     ·subst hji; unfold badW; rw [hb]; rfl
     ·exact hp j (by omega))
 obtain ⟨y, y1, y2, y3⟩ := key l.length 0 (by omega) (fun j hj => by omega)
 rw [show ((gp l 0 : Nat) : Int) = 0 from rfl, show ((0 : Nat) : Int) = 0 from rfl] at y1
 cases ho : okW l with
 | true => rw [y1, y2 ho]; rfl
 | false =>
  obtain ⟨z, rfl⟩ := y3 ho
  rw [y1]; rfl
theorem contW {l : List D} (hl : l.length ≤ 60) : Z30 l = some (!okW l) := by
 have : Z28 l l.length 0 = some (match firstN (badW l) l.length with | some i => .inl (i : Int) | none => .inr ()) := by
  refine scan_loop (N := fun m i => n_Z28 m l l.length i) _ (fun i => .inl (i : Int)) (fun m i hi => ?_) (fun m => ?_)
  ·show c_Z28 (n_Z28 m) l l.length i some = _
   unfold c_Z28
   rw [decide_eq_true (by omega), cond_true, if_pos (by omega), Int.toNat_natCast, wrap_id (by omega) (by omega)]
   simp only [Z27, c_Z27, within_eq, Option.bind_some, Option.bind_fun_some]
   rfl
  ·show c_Z28 (n_Z28 m) l l.length l.length some = _
   unfold c_Z28
   rw [decide_eq_false (by omega)]; rfl
 simp only [Z30, c_Z30, Z29, c_Z29, this, Option.bind_some]
 unfold okW
 cases firstN (badW l) l.length <;> simp
structure GoodD (f : Int) (l : List D) : Prop where
 n1 : 1 ≤ l.length
 n60 : l.length ≤ 60
 f1 : -20000 ≤ f
 f2 : f + l.length ≤ 2101
 ok : ∀ d ∈ l, 0 ≤ d.toInt ∧ d.toInt ≤ 1000000
 w0 : 0 < (l.getD 0 (.int 0)).toInt
 wn : 0 < (l.getD (l.length - 1) (.int 0)).toInt
 g : gp l l.length = 1
def goodB (f : Int) (l : List D) : Bool :=
 btw l.length 1 60 && (btw f (-20000) (2101 - l.length) && (decide (0 < (l.getD 0 (.int 0)).toInt) && (decide (0 < (l.getD (l.length - 1) (.int 0)).toInt) && (okW l && decide (gp l l.length = 1)))))
theorem goodB_iff {f : Int} {l : List D} : goodB f l = true ↔ GoodD f l := by
 unfold goodB
 simp only [Bool.and_eq_true, btw_iff, decide_eq_true_eq, okW_iff]
 constructor
 ·rintro ⟨⟨h1, h2⟩, ⟨h3, h4⟩, h5, h6, h7, h8⟩
  exact ⟨by omega, by omega, h3, by omega, h7, h5, h6, h8⟩
 ·rintro ⟨h1, h2, h3, h4, h5, h6, h7, h8⟩
  exact ⟨⟨by omega, by omega⟩, ⟨h3, by omega⟩, h6, h7, h5, h8⟩
theorem goodS (f : Int) (l : List D) (hl : l.length ≤ 1048576) : Z14 f l = some (goodB f l) := by
 simp only [Z14, c_Z14, l1In_eq, Option.bind_some]
 unfold goodB
 cases hb : btw (l.length : Int) 1 60 with
 | false => simp
 | true =>
  have hbb := btw_iff.1 hb
  have hw : IntKind.i64.wrap (IntKind.i64.wrap (2100 - (l.length : Int)) + 1) = 2101 - l.length := by
   rw [wrap_id (n := 2100 - (l.length : Int)) (by omega) (by omega), wrap_id (by omega) (by omega)]; omega
  rw [hw, pred_wrap (by omega) (by omega)]
  simp only [Bool.not_true, cond_false, Bool.true_and]
  cases hf : btw f (-20000) (2101 - (l.length : Int)) with
  | false => simp
  | true =>
   simp only [Bool.not_true, cond_false, Bool.true_and, Int.toNat_zero, Int.toNat_natCast]
   rw [if_pos (by omega), if_pos (by omega)]
   by_cases h0 : 0 < (l.getD 0 (.int 0)).toInt
   ·rw [decide_eq_false (show ¬ (l.getD 0 (D.int 0)).toInt ≤ 0 by omega), cond_false, decide_eq_true h0, Bool.true_and]
    by_cases hn : 0 < (l.getD (l.length - 1) (.int 0)).toInt
    ·rw [decide_eq_false (show ¬ (l.getD (l.length - 1) (D.int 0)).toInt ≤ 0 by omega), cond_false, decide_eq_true hn, Bool.true_and, good6 (by omega)]
     cases okW l with
     | false => rfl
     | true =>
      simp only [cond_true, Option.bind_some, Sum.elim_inr, Bool.true_and, Option.some.injEq]
      by_cases hg : gp l l.length = 1
      ·rw [hg]; rfl
      ·rw [decide_eq_false hg, decide_eq_false (by omega)]
    ·rw [decide_eq_true (show (l.getD (l.length - 1) (D.int 0)).toInt ≤ 0 by omega), cond_true, decide_eq_false hn]; rfl
   ·rw [decide_eq_true (show (l.getD 0 (D.int 0)).toInt ≤ 0 by omega), cond_true, decide_eq_false h0]; rfl
theorem goodI (f : Int) (l : List D) (hl : l.length ≤ 1048576) : Z35 f l = some (goodB f l) := by
 simp only [Z35, c_Z35, Z25, c_Z25, Z26, c_Z26, within_eq, Option.bind_some]
 unfold goodB
 cases hb : btw (l.length : Int) 1 60 with
 | false =>
  by_cases h1 : (l.length : Int) < 1
  ·simp [h1]
  ·have h2 : (60 : Int) < l.length := by
    have : ¬ (1 ≤ (l.length : Int) ∧ (l.length : Int) ≤ 60) := by rw [← btw_iff, hb]; simp
    omega
   simp [h1, h2]
 | true =>
  have hbb := btw_iff.1 hb
  rw [decide_eq_false (by omega), cond_false, decide_eq_false (by omega), cond_false, pred_wrap (by omega) (by omega)]
  simp only [Bool.true_and]
  cases hf : btw f (-20000) 2100 with
  | false =>
   have : btw f (-20000) (2101 - (l.length : Int)) = false := by
    cases hq : btw f (-20000) (2101 - (l.length : Int)) with
    | false => rfl
    | true => rw [btw_iff] at hq; have : btw f (-20000) 2100 = true := btw_iff.2 ⟨by omega, by omega⟩; rw [hf] at this; cases this
   rw [this]; rfl
  | true =>
   have hff := btw_iff.1 hf
   rw [wrap_id (n := f + (l.length : Int)) (by omega) (by omega), wrap_id (n := f + (l.length : Int) - 1) (by omega) (by omega)]
   have hsame : btw (f + (l.length : Int) - 1) (-20000) 2100 = btw f (-20000) (2101 - (l.length : Int)) := by
    rw [Bool.eq_iff_iff, btw_iff, btw_iff]; omega
   rw [hsame]
   simp only [Bool.not_true, cond_false]
   cases hl2 : btw f (-20000) (2101 - (l.length : Int)) with
   | false => rfl
   | true =>
    simp only [Bool.not_true, cond_false, Bool.true_and, contW (show l.length ≤ 60 by omega), Option.bind_some, Int.toNat_zero, Int.toNat_natCast]
    cases ho : okW l with
    | false => simp
    | true =>
     simp only [Bool.not_true, cond_false, Bool.true_and]
     rw [if_pos (by omega), if_pos (by omega)]
     by_cases h0 : 0 < (l.getD 0 (.int 0)).toInt
     ·rw [decide_eq_true h0, cond_true]
      by_cases hn : 0 < (l.getD (l.length - 1) (.int 0)).toInt
      ·rw [decide_eq_true hn, cond_true, divI_eq (fun d hd => (okW_iff.1 ho d hd).1) (by omega)]
       simp only [Option.bind_some, Bool.true_and, Option.some.injEq]
       by_cases hg : gp l l.length = 1
       ·rw [hg]; rfl
       ·rw [decide_eq_false hg, decide_eq_false (by omega)]
      ·rw [decide_eq_false hn, cond_false]; rfl
     ·rw [decide_eq_false h0, cond_false]; rfl
theorem GoodD.bd {f : Int} {l : List D} (h : GoodD f l) : bdL 1000000 l := ⟨h.ok, by have := h.n60; omega⟩
theorem most_eq (a b : Int) : Z20 a b = some (if b < a then a else b) := by
 unfold Z20 c_Z20
 by_cases h : b < a
 ·rw [decide_eq_true h, if_pos h]; rfl
 ·rw [decide_eq_false h, if_neg h]; rfl
def nnL (l : List D) : Prop := (∀ d ∈ l, 0 ≤ d.toInt) ∧ l.length ≤ 400 ∧ ∀ d ∈ l, d.toInt ≤ 1000000000000000
theorem make3 (b a1 a2 : Int) {l : List D} (h : nnL l) : ∀ (k i : Nat), i + k = l.length → ∃ j, i ≤ j ∧ j ≤ l.length ∧ (∀ t, i ≤ t → t < j → wt l t = 0) ∧ (j < l.length → wt l j ≠ 0) ∧ Z6 b l i l.length a1 a2 = some (b, l, (j : Int), (l.length : Int), a1, a2)
 | 0, i, hk => by
  refine ⟨i, Nat.le_refl _, by omega, fun t _ _ => by omega, fun _ => by omega, ?_⟩
  rw [Z6_fx]
  unfold c_Z6
  rw [decide_eq_false (by omega)]; rfl
 | k + 1, i, hk => by
  have h400 := h.2.1
  rw [Z6_fx]
  unfold c_Z6
  rw [decide_eq_true (by omega), cond_true, if_pos (by omega), Int.toNat_natCast, wt_int h.1 (by omega)]
  by_cases hz : wt l i = 0
  ·obtain ⟨j, j1, j2, j3, j4, j5⟩ := make3 b a1 a2 h k (i + 1) (by omega)
   refine ⟨j, by omega, j2, fun t t1 t2 => ?_, j4, ?_⟩
   ·by_cases hti : t = i
    ·rw [hti]; exact hz
    ·exact j3 t (by omega) t2
   ·rw [decide_eq_true (by omega), cond_true, succ_wrap (by omega), j5]; rfl
  ·exact ⟨i, Nat.le_refl _, by omega, fun t _ _ => by omega, fun _ => hz, by rw [decide_eq_false (by omega)]; rfl⟩
theorem make5 (b a1 a2 : Int) {l : List D} (h : nnL l) (fr : Nat) : ∀ (k t : Nat), t ≤ k + fr → fr ≤ t → t ≤ l.length → ∃ j, fr ≤ j ∧ j ≤ t ∧ (∀ u, j ≤ u → u < t → wt l u = 0) ∧ (fr < j → wt l (j - 1) ≠ 0) ∧ Z7 b l fr t a1 a2 = some (b, l, (fr : Int), (j : Int), a1, a2)
 | 0, t, hk, h1, h2 => by
  refine ⟨t, h1, Nat.le_refl _, fun u _ _ => by omega, fun _ => by omega, ?_⟩
  rw [Z7_fx]
  unfold c_Z7
  rw [decide_eq_false (by omega)]; rfl
 | k + 1, t, hk, h1, h2 => by
  have h400 := h.2.1
  rw [Z7_fx]
  unfold c_Z7
  by_cases hlt : fr < t
  ·rw [decide_eq_true (by omega), cond_true, pred_wrap (by omega) (by omega), if_pos (by omega), Int.toNat_natCast, wt_int h.1 (by omega)]
   by_cases hz : wt l (t - 1) = 0
   ·obtain ⟨j, j1, j2, j3, j4, j5⟩ := make5 b a1 a2 h fr k (t - 1) (by omega) (by omega) (by omega)
    refine ⟨j, j1, by omega, fun u u1 u2 => ?_, j4, ?_⟩
    ·by_cases hut : u = t - 1
     ·rw [hut]; exact hz
     ·exact j3 u u1 (by omega)
    ·rw [decide_eq_true (by omega), cond_true, j5]; rfl
   ·exact ⟨t, h1, Nat.le_refl _, fun u _ _ => by omega, fun _ => hz, by rw [decide_eq_false (by omega)]; rfl⟩
  ·exact ⟨t, h1, Nat.le_refl _, fun u _ _ => by omega, fun _ => by omega, by rw [decide_eq_false (by omega)]; rfl⟩
def gq (l : List D) (fr : Nat) : Nat → Nat
 | 0 => 0
 | k + 1 => Nat.gcd (gq l fr k) (wt l (fr + k))
theorem make9 (b a1 a2 : Int) {l : List D} (h : nnL l) (fr t : Nat) (ht : t ≤ l.length) : ∀ (k i : Nat), fr + i + k = t → Z10 b l fr t ((gq l fr i : Nat) : Int) ((fr + i : Nat) : Int) a1 a2 = some (b, l, (fr : Int), (t : Int), ((gq l fr (t - fr) : Nat) : Int), a1, a2)
 | 0, i, hk => by
  rw [Z10_fx]
  unfold c_Z10
  rw [decide_eq_false (by omega), cond_false, show t - fr = i by omega]
 | k + 1, i, hk => by
  have h400 := h.2.1
  rw [Z10_fx]
  unfold c_Z10
  rw [decide_eq_true (by omega), cond_true, if_pos (by omega), Int.toNat_natCast, wt_int h.1 (by omega), gS, succ_wrap (by omega)]
  simp only [Option.bind_some, Option.bind_fun_some]
  rw [show Nat.gcd (gq l fr i) (wt l (fr + i)) = gq l fr (i + 1) from rfl, show fr + i + 1 = fr + (i + 1) by omega]
  exact make9 b a1 a2 h fr t ht k (i + 1) (by omega)
theorem gq_ne {l : List D} {fr : Nat} : ∀ {k : Nat}, (∃ i, i < k ∧ wt l (fr + i) ≠ 0) → gq l fr k ≠ 0
 | 0, ⟨i, hi, _⟩ => by omega
 | k + 1, ⟨i, hi, hw⟩ => by
  intro h0
  have := Nat.gcd_eq_zero_iff.1 (show Nat.gcd (gq l fr k) (wt l (fr + k)) = 0 from h0)
  by_cases hik : i = k
  ·subst hik; exact hw this.2
  ·exact gq_ne ⟨i, by omega, hw⟩ this.1
theorem make16 (a1 a2 a3 : Int) {l : List D} (h : nnL l) (d : Nat) (hd : d ≠ 0) (t : Nat) (ht : t ≤ l.length) : ∀ (k i : Nat) (acc : List D), i + k = t → acc.length ≤ i → Z11 l t d i a1 a2 a3 acc = some (a1, a2, a3, acc ++ ((l.drop i).take k).map (fun x => D.int (x.toInt.tdiv (d : Int))))
 | 0, i, acc, hk, ha => by
  rw [Z11_fx]
  unfold c_Z11
  rw [decide_eq_false (by omega)]; simp
 | k + 1, i, acc, hk, ha => by
  have h400 := h.2.1
  have hlt : i < l.length := by omega
  rw [Z11_fx]
  unfold c_Z11
  rw [decide_eq_true (by omega), cond_true, if_pos (by omega), if_pos (by omega), if_pos (by simp only [List.length_cons, List.length_nil]; omega), Int.toNat_natCast, succ_wrap (by omega)]
  have hcut : (l.drop i).take (k + 1) = l.getD i (.int 0) :: (l.drop (i + 1)).take k := by
   rw [List.getD_eq_getElem?_getD, drop_cons hlt, List.take_succ_cons]
  have hx := h.1 _ (getD_mem hlt)
  rw [hcut, List.map_cons]
  have hbig := h.2.2 _ (getD_mem hlt)
  rw [wrap_id (n := (l.getD i (D.int 0)).toInt.tdiv (d : Int)) (by rw [Int.tdiv_eq_ediv_of_nonneg hx]; have := Int.ediv_nonneg hx (show (0 : Int) ≤ (d : Int) by omega); omega) (by rw [Int.tdiv_eq_ediv_of_nonneg hx]; have := Int.ediv_le_self (d : Int) hx; omega)]
  rw [make16 a1 a2 a3 h d hd t ht k (i + 1) _ (by omega) (by simp only [List.length_append, List.length_cons, List.length_nil]; omega)]
  simp
def outL (l : List D) (fr t : Nat) : List D := ((l.drop fr).take (t - fr)).map (fun x => D.int (x.toInt.tdiv ((gq l fr (t - fr) : Nat) : Int)))
theorem outL_len {l : List D} {fr t : Nat} (h : fr ≤ t) (ht : t ≤ l.length) : (outL l fr t).length = t - fr := by
 simp only [outL, List.length_map, List.length_take, List.length_drop]; omega
structure Cut (l : List D) (fr t : Nat) : Prop where
 le : fr ≤ t
 len : t ≤ l.length
 lo : ∀ u, u < fr → wt l u = 0
 hi : ∀ u, t ≤ u → u < l.length → wt l u = 0
 fr0 : fr < t → wt l fr ≠ 0
 t0 : fr < t → wt l (t - 1) ≠ 0
theorem make_eq (f : Int) {l : List D} (h : nnL l) : ∃ fr t, Cut l fr t ∧
  Z15 f l = some (bif decide (fr = t) then (0, [], false) else bif goodB (IntKind.i64.wrap (f + (fr : Int))) (outL l fr t) then (IntKind.i64.wrap (f + (fr : Int)), outL l fr t, true) else (0, [], false)) := by
 have h400 := h.2.1
 obtain ⟨fr, e1, e2, e3, e4, e5⟩ := make3 f 0 0 h l.length 0 (by omega)
 obtain ⟨t, g1, g2, g3, g4, g5⟩ := make5 f 0 0 h fr l.length l.length (by omega) e2 (Nat.le_refl _)
 have g9 := make9 f 0 0 h fr t g2 (t - fr) 0 (by omega)
 rw [show ((gq l fr 0 : Nat) : Int) = 0 from rfl, Nat.add_zero] at g9
 rw [show ((0 : Nat) : Int) = 0 from rfl] at e5
 refine ⟨fr, t, ⟨g1, g2, fun u hu => e3 u (by omega) hu, fun u h1 h2 => g3 u h1 h2, fun hlt => e4 (by omega), g4⟩, ?_⟩
 simp only [Z15, c_Z15, e5, Option.bind_some, g5, g9]
 by_cases hft : fr = t
 ·rw [decide_eq_true (show (fr : Int) = (t : Int) by omega), cond_true, decide_eq_true hft, cond_true]
 ·rw [decide_eq_false (show ¬ (fr : Int) = (t : Int) by omega), cond_false, decide_eq_false hft, cond_false]
  have hne : gq l fr (t - fr) ≠ 0 := gq_ne ⟨0, by omega, by rw [Nat.add_zero]; exact e4 (by omega)⟩
  have g16 := make16 0 0 (IntKind.i64.wrap (f + (fr : Int))) h (gq l fr (t - fr)) hne t g2 (t - fr) fr [] (by omega) (by simp)
  rw [List.nil_append, show List.map (fun x => D.int (x.toInt.tdiv ((gq l fr (t - fr) : Nat) : Int))) (List.take (t - fr) (List.drop fr l)) = outL l fr t from rfl] at g16
  simp only [g16, Option.bind_some]
  rw [goodS _ _ (by rw [outL_len g1 g2]; omega)]
  simp only [Option.bind_some]
  cases goodB (IntKind.i64.wrap (f + (fr : Int))) (outL l fr t) <;> rfl
theorem make_len (f : Int) {l : List D} (h : nnL l) : ∃ y, Z15 f l = some y ∧ y.2.1.length ≤ l.length := by
 obtain ⟨fr, t, hc, he⟩ := make_eq f h
 refine ⟨_, he, ?_⟩
 cases decide (fr = t) with
 | true => simp
 | false =>
  rw [cond_false]
  cases goodB (IntKind.i64.wrap (f + (fr : Int))) (outL l fr t) with
  | false => simp
  | true => rw [cond_true]; simp only; rw [outL_len hc.le hc.len]; have := hc.len; omega
theorem near10_tot (c : List D) (hc : okC c) (p s : Int) (hp : 0 ≤ p ∧ p ≤ 1099511627000) : ∃ y, Z4 c p s = some y ∧ (True ∧ y.2.1 = c ∧ p ≤ y.2.2.1 ∧ y.2.2.1 ≤ p + 2) := by
 refine Tt.out ?_
 unfold Z4 c_Z4
 (refine Tt.bind (Tt.con (among_tot _ hc _ _ _ (by omega) (by simp))) ?_; rintro ⟨v, c', p', s'⟩ ⟨hv, rfl, hp1, hp2⟩; dsimp only at hv hp1 hp2 ⊢)
 exact Tt.pure ⟨trivial, rfl, by simp only; omega, by simp only; omega⟩
theorem distr3_tot (c : List D) (hc : okC c) (x0 x5 : Int) : ∀ (k : Nat) (n p s : Int) (l : List D), n.toNat ≤ k → n ≤ 100 → 0 ≤ p → p + 10 * k ≤ 1099511620000 → l.length + k ≤ 300 → (∀ d ∈ l, 0 ≤ d.toInt ∧ d.toInt ≤ 10) →
  ∃ y, Z5 x0 n c p s x5 l = some y ∧ ((y.1 = x0 ∧ y.2.2.2.2.2.length ≤ l.length + k ∧ ∀ d ∈ y.2.2.2.2.2, 0 ≤ d.toInt ∧ d.toInt ≤ 10) ∧ y.2.1 = c ∧ p ≤ y.2.2.1 ∧ y.2.2.1 ≤ p + 10 * k)
 | k, n, p, s, l, hk, hn, hp0, hp, hl, hd => by
  rw [Z5_fx]
  refine Tt.out ?_
  unfold c_Z5
  refine Tt.dec (fun hlt => ?_) (fun hlt => Tt.pure ⟨⟨rfl, by simp only; omega, hd⟩, rfl, by simp only; omega, by simp only; omega⟩)
  cases k with
  | zero => omega
  | succ k =>
   refine Tt.bind (Tt.con (among_tot _ hc _ _ _ (by omega) (by simp))) ?_
   rintro ⟨v, c', p', s'⟩ ⟨⟨d, hdm, hv⟩, rfl, hp1, hp2⟩
   dsimp only at hv hp1 hp2 ⊢
   have hvb : 0 ≤ v ∧ v ≤ 10 := by
    simp only [List.mem_cons, List.not_mem_nil, or_false] at hdm
    rcases hdm with rfl | rfl | rfl | rfl | rfl | rfl | rfl <;> simp only [toInt_int] at hv <;> omega
   refine Tt.ite (by simp only [List.length_cons, List.length_nil]; omega) ?_
   rw [wrap_id (n := n - 1) (by omega) (by omega)]
   simp only [Option.bind_fun_some]
   obtain ⟨y, e1, ⟨e2, e3, e4⟩, e5, e6, e7⟩ := distr3_tot _ hc x0 x5 k (n - 1) p' s' (l ++ [D.int v]) (by omega) (by omega) (by omega) (by omega) (by simp only [List.length_append, List.length_cons, List.length_nil]; omega) (fun d hd' => by
    rcases List.mem_append.1 hd' with h | h
    ·exact hd d h
    ·simp only [List.mem_singleton] at h; subst h; simp only [toInt_int]; exact hvb)
   refine Tt.con ⟨y, e1, ⟨e2, ?_, e4⟩, e5, by omega, by omega⟩
   simp only [List.length_append, List.length_cons, List.length_nil] at e3; omega
theorem distr_tot (c : List D) (hc : okC c) (p s x : Int) (hp : 0 ≤ p ∧ p ≤ 1099511610000) : ∃ y, Z16 c p s x = some y ∧ (y.2.1.length ≤ 10 ∧ y.2.2.1 = c ∧ p ≤ y.2.2.2.1 ∧ y.2.2.2.1 ≤ p + 200) := by
 refine Tt.out ?_
 unfold Z16 c_Z16
 (refine Tt.bind (Tt.con (pick_tot' _ hc _ _ _ (by omega) (by omega))) ?_; rintro ⟨v, c', p', s'⟩ ⟨hv, rfl, hp1, hp2⟩; dsimp only at hv hp1 hp2 ⊢)
 rw [wrap_id (n := 1 + v) (by omega) (by omega)]
 refine Tt.bind (Tt.con (distr3_tot _ hc x 0 10 (1 + v) p' s' [] (by omega) (by omega) (by omega) (by omega) (by simp) (by simp))) ?_
 rintro ⟨x1, c2, p2, s2, x5, l⟩ ⟨⟨h1, h2, h3⟩, h4, h5, h6⟩
 dsimp only at h1 h2 h3 h4 h5 h6 ⊢
 subst h4
 simp only [List.length_nil] at h2
 refine Tt.bind (Tt.con (pick_tot' _ hc _ _ _ (by omega) (by omega))) ?_
 rintro ⟨v3, c3, p3, s3⟩ ⟨-, rfl, hp5, hp6⟩
 dsimp only at hp5 hp6 ⊢
 refine Tt.bind (Tt.con (make_len _ ⟨fun d hd => (h3 d hd).1, by omega, fun d hd => by have := h3 d hd; omega⟩)) ?_
 rintro ⟨f, l2, ok⟩ hl2
 dsimp only at hl2 ⊢
 refine Tt.cnd (fun _ => ?_) (fun _ => ?_)
 ·exact Tt.pure ⟨by simp, rfl, by simp only; omega, by simp only; omega⟩
 ·exact Tt.pure ⟨by simp only; omega, rfl, by simp only; omega, by simp only; omega⟩
theorem any12v_tot (c : List D) (hc : okC c) (x3 x4 : Int) : ∀ (k : Nat) (p s : Int) (l : List D), 70 - l.length ≤ k → 0 ≤ p → p + 10 * k + 10 ≤ 1099511620000 → l.length ≤ 70 →
  ∃ y, Z17 c p s x3 x4 l = some y ∧ (y.2.2.2.2.2.length ≤ 70 ∧ y.1 = c ∧ p ≤ y.2.1 ∧ y.2.1 ≤ p + 10 * k + 10)
 | k, p, s, l, hk, hp0, hp, hl => by
  rw [Z17_fx]
  refine Tt.out ?_
  unfold c_Z17
  (refine Tt.bind (Tt.con (pick_tot' _ hc _ _ _ (by omega) (by omega))) ?_; rintro ⟨v, c', p', s'⟩ ⟨hv, rfl, hp1, hp2⟩; dsimp only at hv hp1 hp2 ⊢)
  rw [wrap_id (n := 60 + v) (by omega) (by omega)]
  refine Tt.dec (fun hlt => ?_) (fun _ => Tt.pure ⟨hl, rfl, by simp only; omega, by simp only; omega⟩)
  cases k with
  | zero => omega
  | succ k =>
   refine Tt.ite (by simp only [List.length_cons, List.length_nil]; omega) ?_
   simp only [Option.bind_fun_some]
   obtain ⟨y, e1, e2, e3, e4, e5⟩ := any12v_tot _ hc x3 x4 k p' s' (l ++ [D.int 1]) (by simp only [List.length_append, List.length_cons, List.length_nil]; omega) (by omega) (by omega) (by simp only [List.length_append, List.length_cons, List.length_nil]; omega)
   exact Tt.con ⟨y, e1, e2, e3, by omega, by omega⟩
theorem any_tot (c : List D) (hc : okC c) (p s x : Int) (hp : 0 ≤ p ∧ p ≤ 1099511600000) : ∃ y, Z19 c p s x = some y ∧ (y.2.1.length ≤ 100 ∧ y.2.2.1 = c ∧ p ≤ y.2.2.2.1 ∧ y.2.2.2.1 ≤ p + 2000) := by
 refine Tt.out ?_
 unfold Z19 c_Z19
 refine Tt.bind (Tt.con (distr_tot _ hc _ _ _ (by omega))) ?_
 rintro ⟨f, l, c1, p1, s1⟩ ⟨hl, rfl, hp1, hp2⟩
 dsimp only at hl hp1 hp2 ⊢
 refine Tt.bind (Tt.con (pick_tot' _ hc _ _ _ (by omega) (by omega))) ?_
 rintro ⟨v, c2, p2, s2⟩ ⟨-, rfl, hp3, hp4⟩
 dsimp only at hp3 hp4 ⊢
 refine Tt.dec (fun _ => ?_) (fun _ => ?_)
 ·(refine Tt.bind (Tt.con (among_tot _ hc _ _ _ (by omega) (by simp))) ?_; rintro ⟨v, c', p', s'⟩ ⟨hv, rfl, hp1, hp2⟩; dsimp only at hv hp1 hp2 ⊢)
  exact Tt.pure ⟨by simp only; omega, rfl, by simp only; omega, by simp only; omega⟩
 refine Tt.dec (fun _ => ?_) (fun _ => ?_)
 ·(refine Tt.bind (Tt.con (among_tot _ hc _ _ _ (by omega) (by simp))) ?_; rintro ⟨v, c', p', s'⟩ ⟨hv, rfl, hp1, hp2⟩; dsimp only at hv hp1 hp2 ⊢)
  refine Tt.ite (by simp only [List.length_cons, List.length_nil]; omega) ?_
  exact Tt.pure ⟨by simp only [List.length_append, List.length_cons, List.length_nil]; omega, rfl, by simp only; omega, by simp only; omega⟩
 refine Tt.dec (fun _ => ?_) (fun _ => ?_)
 ·exact Tt.pure ⟨by simp, rfl, by simp only; omega, by simp only; omega⟩
 refine Tt.dec (fun _ => ?_) (fun _ => ?_)
 ·exact Tt.pure ⟨by simp, rfl, by simp only; omega, by simp only; omega⟩
 refine Tt.dec (fun _ => ?_) (fun _ => Tt.pure ⟨by simp only; omega, rfl, by simp only; omega, by simp only; omega⟩)
 have e12 : ∃ y, Z18 c2 p2 s2 0 f l = some y ∧ (match y with | .inl z => z.2.2.2.2.2.length ≤ 70 ∧ z.1 = c2 ∧ p2 ≤ z.2.1 ∧ z.2.1 ≤ p2 + 1000 | .inr z => z.2.2.2.2.2.length ≤ 70 ∧ z.1 = c2 ∧ p2 ≤ z.2.1 ∧ z.2.1 ≤ p2 + 1000) := by
  rw [Z18_fx]
  refine Tt.out ?_
  unfold c_Z18
  (refine Tt.bind (Tt.con (pick_tot' _ hc _ _ _ (by omega) (by omega))) ?_; rintro ⟨v, c', p', s'⟩ ⟨hv, rfl, hp1, hp2⟩; dsimp only at hv hp1 hp2 ⊢)
  rw [wrap_id (n := 60 + v) (by omega) (by omega)]
  refine Tt.dec (fun hlt => ?_) (fun _ => Tt.pure ⟨by simp only; omega, rfl, by simp only; omega, by simp only; omega⟩)
  refine Tt.ite (by simp only [List.length_cons, List.length_nil]; omega) ?_
  refine Tt.bind (Tt.con (any12v_tot _ hc 0 f 70 p' s' (l ++ [D.int 1]) (by omega) (by omega) (by omega) (by simp only [List.length_append, List.length_cons, List.length_nil]; omega))) ?_
  rintro ⟨c3, p3, s3, z3, z4, z5⟩ ⟨h1, h2, h3, h4⟩
  dsimp only at h1 h2 h3 h4 ⊢
  exact Tt.pure ⟨h1, h2, by simp only; omega, by simp only; omega⟩
 refine Tt.bind (Tt.con e12) ?_
 rintro (⟨c3, p3, s3, z3, z4, z5⟩ | ⟨c3, p3, s3, z3, z4, z5⟩) ⟨h1, h2, h3, h4⟩
 ·exact Tt.pure ⟨by simp only at h1 ⊢; omega, h2, by simp only at h3 ⊢; omega, by simp only at h4 ⊢; omega⟩
 ·exact Tt.pure ⟨by simp only at h1 ⊢; omega, h2, by simp only at h3 ⊢; omega, by simp only at h4 ⊢; omega⟩
theorem part10_tot (c : List D) (hc : okC c) (p s : Int) (hp : 0 ≤ p ∧ p ≤ 1099511600000) : ∃ y, Z21 c p s = some y ∧ (y.2.2.1 = c ∧ p ≤ y.2.2.2.1 ∧ y.2.2.2.1 ≤ p + 20) := by
 refine Tt.out ?_
 unfold Z21 c_Z21
 (refine Tt.bind (Tt.con (pick_tot' _ hc _ _ _ (by omega) (by omega))) ?_; rintro ⟨v, c', p', s'⟩ ⟨hv, rfl, hp1, hp2⟩; dsimp only at hv hp1 hp2 ⊢)
 have hq : 0 ≤ v.tdiv 20 ∧ v.tdiv 20 ≤ 1 := by rw [Int.tdiv_eq_ediv_of_nonneg hv.1]; omega
 rw [wrap_id (n := v.tdiv 20) (by omega) (by omega), wrap_id (n := 6 + v.tdiv 20) (by omega) (by omega)]
 refine Tt.ite (by decide) (Tt.ite (by simp only [List.length_cons, List.length_nil]; omega) (Tt.ite (by simp only [List.length_cons, List.length_nil]; omega) ?_))
 refine Tt.bind (Tt.con (among_tot _ hc _ _ _ (by omega) (by simp only [List.length_take, List.length_drop, List.length_cons, List.length_nil]; omega))) ?_
 rintro ⟨v2, c2, p2, s2⟩ ⟨-, rfl, hp3, hp4⟩
 dsimp only at hp3 hp4 ⊢
 simp only [most_eq, Option.bind_some]
 refine Tt.ite (by decide) (Tt.ite (by decide) ?_)
 refine Tt.bind (Tt.con (pick_tot' _ hc _ _ _ (by omega) (by omega))) ?_
 rintro ⟨v4, c4, p4, s4⟩ ⟨hv4, rfl, hp5, hp6⟩
 dsimp only at hv4 hp5 hp6 ⊢
 have hq2 : 0 ≤ v4.tdiv 39 ∧ v4.tdiv 39 ≤ 1 := by rw [Int.tdiv_eq_ediv_of_nonneg hv4.1]; omega
 rw [wrap_id (n := v4.tdiv 39) (by omega) (by omega), wrap_id (n := 4 + v4.tdiv 39) (by omega) (by omega)]
 refine Tt.ite (by decide) (Tt.ite (by simp only [List.length_cons, List.length_nil]; omega) (Tt.ite (by simp only [List.length_cons, List.length_nil]; omega) ?_))
 refine Tt.bind (Tt.con (among_tot _ hc _ _ _ (by omega) (by simp only [List.length_take, List.length_drop, List.length_cons, List.length_nil]; omega))) ?_
 rintro ⟨v5, c5, p5, s5⟩ ⟨-, rfl, hp7, hp8⟩
 exact Tt.pure ⟨rfl, by simp only at hp7 ⊢; omega, by simp only at hp8 ⊢; omega⟩
theorem partS (a b : Int) : Z43 a b = some (btw b 1 1000 && btw a 1 b) := by
 simp only [Z43, c_Z43, l1In_eq, Option.bind_some]
 cases btw b 1 1000 <;> rfl
theorem partI (a b : Int) : Z36 a b = some (btw b 1 1000 && btw a 1 b) := by
 simp only [Z36, c_Z36, within_eq, Option.bind_some]
 cases btw b 1 1000 <;> rfl
theorem dsum {B : Int} (f : Int) {l : List D} (h : bdL B l) (hB : 0 ≤ B) (hl : l.length ≤ 1048576) : Z39 f l = some (pf l l.length) := by
 simp only [Z39, c_Z39, sumI_eq h hB hl, Option.bind_some]
theorem bdL_sub {B : Int} {l : List D} (h : bdL B l) (hB : 0 ≤ B) (i s : Nat) : bdL B ((l.drop i).take s) := by
 refine ⟨fun d hd => h.1 d (List.mem_of_mem_drop (List.mem_of_mem_take hd)), ?_⟩
 have h1 : ((l.drop i).take s).length ≤ l.length := by rw [List.length_take, List.length_drop]; omega
 exact mulN (by omega) hB h.2
theorem pf_sub (l : List D) (i s : Nat) (h : i + s ≤ l.length) : pf ((l.drop i).take s) ((l.drop i).take s).length = pf l (i + s) - pf l i := by
 rw [pf_all]
 unfold pf
 have : iw ((l.drop i).take s) = ((iw l).drop i).take s := by simp [iw, List.map_take, List.map_drop]
 rw [this]
 have e : (iw l).take (i + s) = (iw l).take i ++ ((iw l).drop i).take s := by rw [List.take_add]
 rw [e, List.sum_append]
 omega
def wide (l : List D) (num den : Int) (s i : Nat) : Bool := decide (num * pf l l.length ≤ (pf l (i + s) - pf l i) * den)
theorem prod_bd {a b : Int} (h1 : 0 ≤ a) (h2 : a ≤ 100000000) (h3 : 0 ≤ b) (h4 : b ≤ 1000) : 0 ≤ a * b ∧ a * b ≤ 100000000000 := by
 have p1 : a * b ≤ a * 1000 := Int.mul_le_mul_of_nonneg_left h4 h1
 have p2 := Int.mul_nonneg h1 h3
 omega
theorem tot_bd {f : Int} {l : List D} (h : GoodD f l) : ∀ i, i ≤ l.length → 0 ≤ pf l i ∧ pf l i ≤ 60000000 := by
 intro i hi
 have := pf_bd h.bd (by omega) i hi
 have := h.n60
 omega
theorem search8 {f : Int} {l : List D} (h : GoodD f l) {num den : Int} (h1 : 1 ≤ num ∧ num ≤ 1000) (h2 : 1 ≤ den ∧ den ≤ 1000) (s : Nat) (hs : 1 ≤ s ∧ s ≤ l.length) :
  Z40 num den l.length s 0 f l = some (match firstN (wide l num den s) (l.length + 1 - s) with | some i => .inl (num, den, f + i, f + i + s - 1, true, (l.length : Int), (s : Int), f, l) | none => .inr (num, den, (l.length : Int), (s : Int), f, l)) ∧
  Z46 num den (pf l l.length) s 0 f l = some (match firstN (wide l num den s) (l.length + 1 - s) with | some i => .inl (num, den, f + i, f + i + s - 1, true, pf l l.length, (s : Int), f, l) | none => .inr (num, den, pf l l.length, (s : Int), f, l)) := by
 have n60 := h.n60
 have f1 := h.f1
 have f2 := h.f2
 have ta := tot_bd h l.length (Nat.le_refl _)
 have pa : IntKind.i64.wrap (num * pf l l.length) = num * pf l l.length := by
  have := prod_bd (a := pf l l.length) (b := num) (by omega) (by omega) (by omega) (by omega)
  rw [Int.mul_comm]; exact wrap_id (by omega) (by omega)
 have stp : ∀ i : Nat, i < l.length + 1 - s → IntKind.i64.wrap ((i : Int) + (s : Int)) = ((i + s : Nat) : Int) ∧ ((((i + s : Nat) : Int) : Int).toNat - ((i : Int)).toNat) = s ∧ IntKind.i64.wrap ((pf l (i + s) - pf l i) * den) = (pf l (i + s) - pf l i) * den ∧ IntKind.i64.wrap (f + (i : Int)) = f + i ∧ IntKind.i64.wrap (IntKind.i64.wrap (f + (i : Int) + (s : Int)) - 1) = f + i + s - 1 := by
  intro i hi
  have t1 := tot_bd h (i + s) (by omega)
  have t2 := tot_bd h i (by omega)
  have t3 := pf_mono h.bd (show i ≤ i + s by omega) (by omega)
  have := prod_bd (a := pf l (i + s) - pf l i) (b := den) (by omega) (by omega) (by omega) (by omega)
  refine ⟨by rw [wrap_id (by omega) (by omega)]; omega, by omega, wrap_id (by omega) (by omega), wrap_id (by omega) (by omega), ?_⟩
  rw [wrap_id (n := f + (i : Int) + (s : Int)) (by omega) (by omega), wrap_id (by omega) (by omega)]
 constructor
 ·refine scan_loop (N := fun m i => n_Z40 m num den l.length s i f l) (len := l.length + 1 - s) _ (fun i => .inl (num, den, f + (i : Int), f + (i : Int) + (s : Int) - 1, true, (l.length : Int), (s : Int), f, l)) (fun m i hi => ?_) (fun m => ?_)
  ·obtain ⟨e1, e2, e3, e4, e5⟩ := stp i hi
   show c_Z40 (n_Z40 m) num den l.length s i f l some = _
   unfold c_Z40
   rw [e1, decide_eq_true (by omega), cond_true, if_pos (by omega), e2, Int.toNat_natCast, sumI_eq (bdL_sub h.bd (by omega) i s) (by omega) (by rw [List.length_take, List.length_drop]; omega), pf_sub l i s (by omega), dsum f h.bd (by omega) (by omega)]
   simp only [Option.bind_some, Option.bind_fun_some]
   rw [pa, e3, e4, e5, wrap_id (n := (i : Int) + 1) (by omega) (by omega)]
   rfl
  ·show c_Z40 (n_Z40 m) num den l.length s ((l.length + 1 - s : Nat) : Int) f l some = _
   unfold c_Z40
   rw [wrap_id (by omega) (by omega), decide_eq_false (by omega)]; rfl
 ·refine scan_loop (N := fun m i => n_Z46 m num den (pf l l.length) s i f l) (len := l.length + 1 - s) _ (fun i => .inl (num, den, f + (i : Int), f + (i : Int) + (s : Int) - 1, true, pf l l.length, (s : Int), f, l)) (fun m i hi => ?_) (fun m => ?_)
  ·obtain ⟨e1, e2, e3, e4, e5⟩ := stp i hi
   show c_Z46 (n_Z46 m) num den (pf l l.length) s i f l some = _
   unfold c_Z46
   rw [e1, decide_eq_true (by omega), cond_true, if_pos (by omega), e2, Int.toNat_natCast, sumS_eq (bdL_sub h.bd (by omega) i s) (by omega) (by rw [List.length_take, List.length_drop]; omega), pf_sub l i s (by omega)]
   simp only [Option.bind_some, Option.bind_fun_some]
   rw [pa, e3, e4, e5, wrap_id (n := (i : Int) + 1) (by omega) (by omega)]
   rfl
  ·show c_Z46 (n_Z46 m) num den (pf l l.length) s ((l.length + 1 - s : Nat) : Int) f l some = _
   unfold c_Z46
   rw [wrap_id (by omega) (by omega), decide_eq_false (by omega)]; rfl
theorem wide_all {f : Int} {l : List D} (h : GoodD f l) {num den : Int} (h1 : num ≤ den) : wide l num den l.length 0 = true := by
 unfold wide
 have ta := tot_bd h l.length (Nat.le_refl _)
 rw [pf_zero, Nat.zero_add, Int.sub_zero, decide_eq_true_eq, Int.mul_comm (pf l l.length) den]
 exact Int.mul_le_mul_of_nonneg_right h1 ta.1
theorem search5 {f : Int} {l : List D} (h : GoodD f l) {num den : Int} (h1 : 1 ≤ num ∧ num ≤ den) (h2 : 1 ≤ den ∧ den ≤ 1000) : ∀ (k s : Nat), s + k = l.length → 1 ≤ s →
  ∃ i s', 1 ≤ s' ∧ i + s' ≤ l.length ∧ wide l num den s' i = true ∧ Z41 num den l.length s f l = some (.inl (f + (i : Int), f + (i : Int) + (s' : Int) - 1, true)) ∧
   (Z47 num den (pf l l.length) s f l = some (.inl (f + (i : Int), f + (i : Int) + (s' : Int) - 1, true, f, l)) ∨ (Z47 num den (pf l l.length) s f l = some (.inr (f, l)) ∧ i = 0 ∧ s' = l.length))
 | 0, s, hk, hs => by
  obtain ⟨e1, e2⟩ := search8 h (num := num) (den := den) (by omega) h2 s (by omega)
  have hs' : s = l.length := by omega
  have hw : firstN (wide l num den s) (l.length + 1 - s) = some 0 := by
   unfold firstN
   rw [hs', show l.length + 1 - l.length = 1 by omega, List.find?_range_eq_some]
   exact ⟨wide_all h h1.2, by simp, fun j hj => by omega⟩
  rw [hw] at e1
  refine ⟨0, s, hs, by omega, by rw [hs']; exact wide_all h h1.2, ?_, .inr ⟨?_, rfl, hs'⟩⟩
  ·rw [Z41_fx]
   unfold c_Z41
   rw [decide_eq_true (by omega), cond_true, e1]
   rfl
  ·rw [Z47_fx]
   unfold c_Z47
   rw [decide_eq_false (by omega)]; rfl
 | k + 1, s, hk, hs => by
  have n60 := h.n60
  obtain ⟨e1, e2⟩ := search8 h (num := num) (den := den) (by omega) h2 s (by omega)
  rw [Z41_fx, Z47_fx]
  unfold c_Z41 c_Z47
  rw [decide_eq_true (show (s : Int) ≤ l.length by omega), decide_eq_true (show (s : Int) < l.length by omega), cond_true, cond_true, e1, e2]
  cases hf : firstN (wide l num den s) (l.length + 1 - s) with
  | some i =>
   obtain ⟨q1, q2, _⟩ := firstN_some hf
   exact ⟨i, s, hs, by omega, q2, rfl, .inl rfl⟩
  | none =>
   simp only [Option.bind_some, Sum.elim_inr, Option.bind_fun_some, succ_wrap (show s < 4611686018427387904 by omega)]
   exact search5 h h1 h2 k (s + 1) (by omega) (by omega)
theorem short_ok {f : Int} {l : List D} (h : GoodD f l) {num den : Int} (h1 : 1 ≤ num ∧ num ≤ den) (h2 : 1 ≤ den ∧ den ≤ 1000) : ∃ i s, 1 ≤ s ∧ i + s ≤ l.length ∧ wide l num den s i = true ∧
  Z42 f l num den = some (f + (i : Int), f + (i : Int) + (s : Int) - 1, true) ∧ Z48 f l num den = some (f + (i : Int), f + (i : Int) + (s : Int) - 1, true) := by
 have n1 := h.n1
 have n60 := h.n60
 have f1 := h.f1
 have f2 := h.f2
 have hg := goodB_iff.2 h
 obtain ⟨i, s, e1, e2, e3, e4, e5⟩ := search5 h h1 h2 (l.length - 1) 1 (by omega) (by omega)
 rw [show ((1 : Nat) : Int) = 1 from rfl] at e4 e5
 have hp : (btw den 1 1000 && btw num 1 den) = true := by rw [Bool.and_eq_true, btw_iff, btw_iff]; omega
 refine ⟨i, s, e1, e2, e3, ?_, ?_⟩
 ·simp only [Z42, c_Z42, goodI f l (by omega), hg, partI, hp, Option.bind_some, Bool.not_true, cond_false, e4, Sum.elim_inl]
 ·simp only [Z48, c_Z48, goodS f l (by omega), hg, partS, hp, Option.bind_some, Bool.not_true, cond_false, sumS_eq h.bd (by omega) (show l.length ≤ 1048576 by omega)]
  rcases e5 with e5 | ⟨e5, rfl, rfl⟩
  ·rw [e5]; rfl
  ·rw [e5]
   simp only [Option.bind_some, Sum.elim_inr]
   rw [wrap_id (n := f + (l.length : Int)) (by omega) (by omega), wrap_id (by omega) (by omega)]
   congr 1
   simp
theorem short_no {f : Int} {l : List D} (hl : l.length ≤ 1048576) {num den : Int} (h : goodB f l = false ∨ (btw den 1 1000 && btw num 1 den) = false) :
  Z42 f l num den = some (0, 0, false) ∧ Z48 f l num den = some (0, 0, false) := by
 simp only [Z42, c_Z42, Z48, c_Z48, goodI f l hl, goodS f l hl, partI, partS, Option.bind_some]
 cases hg : goodB f l with
 | false => exact ⟨rfl, rfl⟩
 | true =>
  rcases h with h | h
  ·rw [hg] at h; cases h
  ·rw [h]; exact ⟨rfl, rfl⟩
def far (l : List D) (num den : Int) (i : Nat) : Bool := decide (num * pf l l.length ≤ pf l (i + 1) * den)
theorem quant {f : Int} {l : List D} (h : GoodD f l) {num den : Int} (h1 : 1 ≤ num ∧ num ≤ den) (h2 : 1 ≤ den ∧ den ≤ 1000) : ∃ q, q < l.length ∧ far l num den q = true ∧ (∀ j, j < q → far l num den j = false) ∧
  Z53 f l num den = some (f + (q : Int), true) ∧ Z55 f l num den = some (f + (q : Int), true) := by
 have n1 := h.n1
 have n60 := h.n60
 have f1 := h.f1
 have f2 := h.f2
 have hg := goodB_iff.2 h
 have ta := tot_bd h l.length (Nat.le_refl _)
 have pa : IntKind.i64.wrap (num * pf l l.length) = num * pf l l.length := by
  have := prod_bd (a := pf l l.length) (b := num) (by omega) (by omega) (by omega) (by omega)
  rw [Int.mul_comm]; exact wrap_id (by omega) (by omega)
 have last : far l num den (l.length - 1) = true := by
  unfold far
  rw [show l.length - 1 + 1 = l.length by omega, decide_eq_true_eq, Int.mul_comm (pf l l.length) den]
  exact Int.mul_le_mul_of_nonneg_right h1.2 ta.1
 have hp : (btw den 1 1000 && btw num 1 den) = true := by rw [Bool.and_eq_true, btw_iff, btw_iff]; omega
 have key : ∀ (k i : Nat), i + k + 1 = l.length → (∀ j, j < i → far l num den j = false) → ∃ q, q < l.length ∧ far l num den q = true ∧ (∀ j, j < q → far l num den j = false) ∧
   Z52 num den (pf l i) l l.length i f l = some (.inl (f + (q : Int), true)) ∧ Z54 num den (pf l l.length) (pf l i) i f l = some (f + (q : Int), true) := by
  intro k
  induction k with
  | zero =>
   intro i hi hp
   have t1 := tot_bd h (i + 1) (by omega)
   have := prod_bd (a := pf l (i + 1)) (b := den) (by omega) (by omega) (by omega) (by omega)
   have e := pf_succ (l := l) (i := i) (by omega)
   have hfar : far l num den i = true := by rw [show i = l.length - 1 by omega]; exact last
   have hfar' := hfar
   unfold far at hfar'
   refine ⟨i, by omega, hfar, hp, ?_, ?_⟩
   ·rw [Z52_fx]
    unfold c_Z52
    rw [decide_eq_true (by omega), cond_true, if_pos (by omega), Int.toNat_natCast, ← e, dsum f h.bd (by omega) (by omega)]
    simp only [Option.bind_some]
    rw [pa, wrap_id (n := pf l (i + 1)) (by omega) (by omega), wrap_id (n := pf l (i + 1) * den) (by omega) (by omega), hfar', cond_true, wrap_id (by omega) (by omega)]
   ·rw [Z54_fx]
    unfold c_Z54
    rw [if_pos (by omega), Int.toNat_natCast, ← e, pa, wrap_id (n := pf l (i + 1)) (by omega) (by omega), wrap_id (n := pf l (i + 1) * den) (by omega) (by omega), hfar', cond_true, wrap_id (by omega) (by omega)]
  | succ k ih =>
   intro i hi hp
   have t1 := tot_bd h (i + 1) (by omega)
   have := prod_bd (a := pf l (i + 1)) (b := den) (by omega) (by omega) (by omega) (by omega)
   have e := pf_succ (l := l) (i := i) (by omega)
   rw [Z52_fx, Z54_fx]
   unfold c_Z52 c_Z54
   rw [decide_eq_true (by omega), cond_true, if_pos (by omega), if_pos (by omega), Int.toNat_natCast, ← e, dsum f h.bd (by omega) (by omega)]
   simp only [Option.bind_some, Option.bind_fun_some]
   rw [pa, wrap_id (n := pf l (i + 1)) (by omega) (by omega), wrap_id (n := pf l (i + 1) * den) (by omega) (by omega), wrap_id (n := f + (i : Int)) (by omega) (by omega), succ_wrap (by omega)]
   cases hq : far l num den i with
   | true =>
    have hq' := hq
    unfold far at hq'
    exact ⟨i, by omega, hq, hp, by rw [hq']; rfl, by rw [hq']; rfl⟩
   | false =>
    obtain ⟨q, q1, q2, q3, q4, q5⟩ := ih (i + 1) (by omega) (fun j hj => by
     by_cases hji : j = i
     ·subst hji; exact hq
     ·exact hp j (by omega))
    have hq' := hq
    unfold far at hq'
    exact ⟨q, q1, q2, q3, by rw [hq']; exact q4, by rw [hq']; exact q5⟩
 obtain ⟨q, q1, q2, q3, q4, q5⟩ := key (l.length - 1) 0 (by omega) (fun j hj => by omega)
 rw [pf_zero, show ((0 : Nat) : Int) = 0 from rfl] at q4 q5
 refine ⟨q, q1, q2, q3, ?_, ?_⟩
 ·simp only [Z53, c_Z53, goodI f l (by omega), hg, partI, hp, Option.bind_some, Bool.not_true, cond_false, q4, Sum.elim_inl]
 ·simp only [Z55, c_Z55, goodS f l (by omega), hg, partS, hp, Option.bind_some, Bool.not_true, cond_false, sumS_eq h.bd (by omega) (show l.length ≤ 1048576 by omega), q5]
theorem far_whole {f : Int} {l : List D} (h : GoodD f l) {den : Int} (h2 : 1 ≤ den) {q : Nat} (hq : q < l.length) (hf : far l den den q = true) : q = l.length - 1 := by
 apply Classical.byContradiction
 intro hne
 have n1 := h.n1
 unfold far at hf
 rw [decide_eq_true_eq, Int.mul_comm (pf l (q + 1)) den] at hf
 have h3 := Int.le_of_mul_le_mul_left hf (by omega)
 have h4 := pf_mono h.bd (show q + 1 ≤ l.length - 1 by omega) (by omega)
 have h5 := pf_succ (l := l) (i := l.length - 1) (by omega)
 rw [show l.length - 1 + 1 = l.length by omega] at h5
 have := h.wn
 omega
theorem years {f : Int} {l : List D} (h : GoodD f l) (num den : Int) (i s : Nat) (hs : i + s ≤ l.length) (x7 : Int) : ∀ (k j : Nat), j + k = s → (j = 0 → k ≥ 1) → ∀ all : Int, (j = 0 ∨ all = pf l l.length) →
  Z51 num den (f + (i : Int) + (s : Int) - 1) (pf l (i + j) - pf l i) all (f + (i : Int) + (j : Int)) f x7 l = some (.inr (num, den, pf l (i + s) - pf l i, pf l l.length, f, x7, l))
 | 0, j, hk, hj, all, ha => by
  rw [Z51_fx]
  unfold c_Z51
  rw [decide_eq_false (by omega), cond_false, show j = s by omega]
  rcases ha with h0 | ha
  ·have := hj h0; omega
  ·rw [ha]
 | k + 1, j, hk, hj, all, ha => by
  have n60 := h.n60
  have f1 := h.f1
  have f2 := h.f2
  have hg := goodB_iff.2 h
  have t1 := tot_bd h (i + j + 1) (by omega)
  have t2 := tot_bd h i (by omega)
  have t3 := pf_mono h.bd (show i ≤ i + j + 1 by omega) (by omega)
  have e := pf_succ (l := l) (i := i + j) (by omega)
  have hw : Z50 f l (f + (i : Int) + (j : Int)) = some ((l.getD (i + j) (.int 0)).toInt, pf l l.length, true) := by
   have hy : btw (f + (i : Int) + (j : Int)) (-20000) 2100 = true := btw_iff.2 ⟨by omega, by omega⟩
   simp only [Z50, c_Z50, goodI f l (by omega), hg, Z25, c_Z25, within_eq, hy, Option.bind_some, Bool.not_true, cond_false, dsum f h.bd (show (0 : Int) ≤ 1000000 by omega) (show l.length ≤ 1048576 by omega), Z49, c_Z49, Z26, c_Z26]
   rw [decide_eq_false (by omega), cond_false, wrap_id (n := f + (l.length : Int)) (by omega) (by omega), wrap_id (n := f + (l.length : Int) - 1) (by omega) (by omega), decide_eq_false (by omega), cond_false, wrap_id (n := f + (i : Int) + (j : Int) - f) (by omega) (by omega), if_pos (by omega), show (f + (i : Int) + (j : Int) - f).toNat = i + j by omega]
   rfl
  rw [Z51_fx]
  unfold c_Z51
  rw [decide_eq_true (by omega), cond_true, hw]
  simp only [Option.bind_some, Bool.not_true, cond_false, Option.bind_fun_some]
  rw [show pf l (i + j) - pf l i + (l.getD (i + j) (D.int 0)).toInt = pf l (i + (j + 1)) - pf l i by rw [show i + (j + 1) = i + j + 1 by omega, e]; omega]
  rw [wrap_id (n := pf l (i + (j + 1)) - pf l i) (by rw [show i + (j + 1) = i + j + 1 by omega]; omega) (by rw [show i + (j + 1) = i + j + 1 by omega]; omega), wrap_id (by omega) (by omega), show f + (i : Int) + (j : Int) + 1 = f + (i : Int) + ((j + 1 : Nat) : Int) by omega]
  exact years h num den i s hs x7 k (j + 1) (by omega) (fun h0 => by omega) _ (.inr rfl)
theorem drawQ_tot (c : List D) (hc : okC c) : ∃ y, Z23 c = some y ∧ y.2.1.length ≤ 1000 := by
 refine Tt.out ?_
 unfold Z23 c_Z23 Z22 c_Z22
 simp only [Option.bind_assoc, Option.bind_some]
 refine Tt.bind (Tt.con (near10_tot _ hc _ _ (by omega))) ?_
 rintro ⟨v, c1, p1, s1⟩ ⟨-, rfl, hp1, hp2⟩
 dsimp only at hp1 hp2 ⊢
 refine Tt.bind (Tt.con (any_tot _ hc _ _ _ (by omega))) ?_
 rintro ⟨f, l, c2, p2, s2⟩ ⟨hl, rfl, hp3, hp4⟩
 dsimp only at hl hp3 hp4 ⊢
 refine Tt.bind (Tt.con (part10_tot _ hc _ _ (by omega))) ?_
 rintro ⟨a, b, c3, p3, s3⟩ -
 exact Tt.pure (by simp only; omega)
theorem pure_FnQuantiles (x0 : List D) (h0 : x0.length ≤ maxLen) (w0 : ∀ d ∈ x0, wfD (.int .u8) d) : Z56 x0 = some true := by
 unfold Z56 c_Z56 Z0 c_Z0
 simp only [Option.bind_some]
 by_cases hb : (65536 : Int) < x0.length
 ·simp [hb]
 rw [decide_eq_false hb, cond_false]
 have hc : okC x0 := ⟨by omega, fun d hd => okB (w0 d hd)⟩
 obtain ⟨⟨f, l, num, den⟩, hd, hl⟩ := drawQ_tot x0 hc
 dsimp only at hl
 simp only [hd, Option.bind_some]
 by_cases hv : goodB f l = true ∧ (btw den 1 1000 && btw num 1 den) = true
 ·obtain ⟨hg, hp⟩ := hv
  have h := goodB_iff.1 hg
  rw [Bool.and_eq_true, btw_iff, btw_iff] at hp
  have n1 := h.n1
  have n60 := h.n60
  have f1 := h.f1
  have f2 := h.f2
  obtain ⟨i, s, s1, s2, s3, s4, s5⟩ := short_ok h (num := num) (den := den) ⟨hp.2.1, hp.2.2⟩ hp.1
  obtain ⟨qa, a1, a2, a3, a4, a5⟩ := quant h (num := num) (den := den) ⟨hp.2.1, hp.2.2⟩ hp.1
  obtain ⟨qb, b1, b2, b3, b4, b5⟩ := quant h (num := den) (den := den) ⟨hp.1.1, Int.le_refl _⟩ hp.1
  have hqb := far_whole h hp.1.1 b1 b2
  have hy := years h num den i s s2 f s 0 (by omega) (by omega) 0 (.inl rfl)
  rw [Nat.add_zero, Int.sub_self, show ((0 : Nat) : Int) = 0 from rfl, Int.add_zero] at hy
  have t1 := tot_bd h (i + s) s2
  have t2 := tot_bd h i (by omega)
  have t3 := pf_mono h.bd (show i ≤ i + s by omega) s2
  have ta := tot_bd h l.length (Nat.le_refl _)
  have p1 := prod_bd (a := pf l (i + s) - pf l i) (b := den) (by omega) (by omega) (by omega) (by omega)
  have p2 := prod_bd (a := pf l l.length) (b := num) (by omega) (by omega) (by omega) (by omega)
  rw [Int.mul_comm] at p2
  unfold wide at s3
  rw [decide_eq_true_eq] at s3
  have w1 : IntKind.i64.wrap ((pf l (i + s) - pf l i) * den) = (pf l (i + s) - pf l i) * den := wrap_id (by omega) (by omega)
  have w2 : IntKind.i64.wrap (num * pf l l.length) = num * pf l l.length := wrap_id (by omega) (by omega)
  have w3 : IntKind.i64.wrap (IntKind.i64.wrap (f + (l.length : Int)) - 1) = f + (l.length : Int) - 1 := by
   rw [wrap_id (n := f + (l.length : Int)) (by omega) (by omega), wrap_id (by omega) (by omega)]
  have q1 : f + (qa : Int) ≤ f + (qb : Int) := by omega
  have q2 : f + (qb : Int) = f + (l.length : Int) - 1 := by omega
  have q3 : ¬ ((pf l (i + s) - pf l i) * den < num * pf l l.length) := by omega
  simp only [s4, s5, hy, a4, a5, b4, w1, w2, w3, q1, q2, q3, Option.bind_some, decide_true, decide_false, Bool.not_true, cond_false, cond_true, beq_self_eq_true, Bool.not_not, Sum.elim_inr]
  rw [← q2, decide_eq_true q1]
  rfl
 ·have hv' : goodB f l = false ∨ (btw den 1 1000 && btw num 1 den) = false := by
   cases h1 : goodB f l with
   | false => exact .inl rfl
   | true => right; cases h2 : (btw den 1 1000 && btw num 1 den) with
    | false => rfl
    | true => exact absurd ⟨h1, h2⟩ hv
  obtain ⟨e1, e2⟩ := short_no (l := l) (f := f) (num := num) (den := den) (by omega) hv'
  simp [e1, e2]
end Go.Proofs.Ytpigfmlahmapaaa
