/- The law FnTermini over plain values. No condition beside those of the statement. -/
import Derived.Test.YtpigfmlahmapaaaClMFnTermini
import Derived.Test.YtpigfmlahmapaaaRaiU5
set_option linter.unusedVariables false
set_option linter.unusedSimpArgs false
set_option maxRecDepth 100000
namespace Go.Proofs.Ytpigfmlahmapaaa
open Go Go.Rai
theorem Z5_lim {ι : Type} {R : ι → ι → Prop} (hD : Dir R) {F : Int → Int → List D → Int → Int → Int → List D → Option (Int × List D × Int × Int × Int × List D)} {Fs : ι → Int → Int → List D → Int → Int → Int → List D → Option (Int × List D × Int × Int × Int × List D)} (h : ∀ x0 x1 x2 x3 x4 x5 x6, Lim R (F x0 x1 x2 x3 x4 x5 x6) (fun i => Fs i x0 x1 x2 x3 x4 x5 x6)) (x0 : Int) (x1 : Int) (x2 : List D) (x3 : Int) (x4 : Int) (x5 : Int) (x6 : List D)  : Lim R (c_Z5 F x0 x1 x2 x3 x4 x5 x6 some) (fun i => c_Z5 (Fs i) x0 x1 x2 x3 x4 x5 x6 some) := by
 unfold c_Z5
 repeat' first
  | exact Lim.const hD
  | exact h _ _ _ _ _ _ _
  | apply Lim.ite
  | apply Lim.cond
  | apply Lim.bind hD
  | apply Lim.sum
  | intro _
theorem Z5_fx (x0 : Int) (x1 : Int) (x2 : List D) (x3 : Int) (x4 : Int) (x5 : Int) (x6 : List D)  : Z5 x0 x1 x2 x3 x4 x5 x6 = c_Z5 Z5 x0 x1 x2 x3 x4 x5 x6 some :=
 fix_eq (N := fun n (p : Int × Int × List D × Int × Int × Int × List D) => n_Z5 n p.1 p.2.1 p.2.2.1 p.2.2.2.1 p.2.2.2.2.1 p.2.2.2.2.2.1 p.2.2.2.2.2.2) (C := fun f p => c_Z5 (fun x0 x1 x2 x3 x4 x5 x6 => f (x0, x1, x2, x3, x4, x5, x6)) p.1 p.2.1 p.2.2.1 p.2.2.2.1 p.2.2.2.2.1 p.2.2.2.2.2.1 p.2.2.2.2.2.2 some) (fun _ => rfl) (fun _ _ => rfl) (fun hD f fs h p => Z5_lim hD (fun x0 x1 x2 x3 x4 x5 x6 => h (x0, x1, x2, x3, x4, x5, x6)) _ _ _ _ _ _ _) (x0, x1, x2, x3, x4, x5, x6)
theorem Z6_lim {ι : Type} {R : ι → ι → Prop} (hD : Dir R) {F : Int → List D → Int → Int → Int → Int → Option (Int × List D × Int × Int × Int × Int)} {Fs : ι → Int → List D → Int → Int → Int → Int → Option (Int × List D × Int × Int × Int × Int)} (h : ∀ x0 x1 x2 x3 x4 x5, Lim R (F x0 x1 x2 x3 x4 x5) (fun i => Fs i x0 x1 x2 x3 x4 x5)) (x0 : Int) (x1 : List D) (x2 : Int) (x3 : Int) (x4 : Int) (x5 : Int)  : Lim R (c_Z6 F x0 x1 x2 x3 x4 x5 some) (fun i => c_Z6 (Fs i) x0 x1 x2 x3 x4 x5 some) := by
 unfold c_Z6
 repeat' first
  | exact Lim.const hD
  | exact h _ _ _ _ _ _
  | apply Lim.ite
  | apply Lim.cond
  | apply Lim.bind hD
  | apply Lim.sum
  | intro _
theorem Z6_fx (x0 : Int) (x1 : List D) (x2 : Int) (x3 : Int) (x4 : Int) (x5 : Int)  : Z6 x0 x1 x2 x3 x4 x5 = c_Z6 Z6 x0 x1 x2 x3 x4 x5 some :=
 fix_eq (N := fun n (p : Int × List D × Int × Int × Int × Int) => n_Z6 n p.1 p.2.1 p.2.2.1 p.2.2.2.1 p.2.2.2.2.1 p.2.2.2.2.2) (C := fun f p => c_Z6 (fun x0 x1 x2 x3 x4 x5 => f (x0, x1, x2, x3, x4, x5)) p.1 p.2.1 p.2.2.1 p.2.2.2.1 p.2.2.2.2.1 p.2.2.2.2.2 some) (fun _ => rfl) (fun _ _ => rfl) (fun hD f fs h p => Z6_lim hD (fun x0 x1 x2 x3 x4 x5 => h (x0, x1, x2, x3, x4, x5)) _ _ _ _ _ _) (x0, x1, x2, x3, x4, x5)
theorem Z7_lim {ι : Type} {R : ι → ι → Prop} (hD : Dir R) {F : Int → List D → Int → Int → Int → Int → Option (Int × List D × Int × Int × Int × Int)} {Fs : ι → Int → List D → Int → Int → Int → Int → Option (Int × List D × Int × Int × Int × Int)} (h : ∀ x0 x1 x2 x3 x4 x5, Lim R (F x0 x1 x2 x3 x4 x5) (fun i => Fs i x0 x1 x2 x3 x4 x5)) (x0 : Int) (x1 : List D) (x2 : Int) (x3 : Int) (x4 : Int) (x5 : Int)  : Lim R (c_Z7 F x0 x1 x2 x3 x4 x5 some) (fun i => c_Z7 (Fs i) x0 x1 x2 x3 x4 x5 some) := by
 unfold c_Z7
 repeat' first
  | exact Lim.const hD
  | exact h _ _ _ _ _ _
  | apply Lim.ite
  | apply Lim.cond
  | apply Lim.bind hD
  | apply Lim.sum
  | intro _
theorem Z7_fx (x0 : Int) (x1 : List D) (x2 : Int) (x3 : Int) (x4 : Int) (x5 : Int)  : Z7 x0 x1 x2 x3 x4 x5 = c_Z7 Z7 x0 x1 x2 x3 x4 x5 some :=
 fix_eq (N := fun n (p : Int × List D × Int × Int × Int × Int) => n_Z7 n p.1 p.2.1 p.2.2.1 p.2.2.2.1 p.2.2.2.2.1 p.2.2.2.2.2) (C := fun f p => c_Z7 (fun x0 x1 x2 x3 x4 x5 => f (x0, x1, x2, x3, x4, x5)) p.1 p.2.1 p.2.2.1 p.2.2.2.1 p.2.2.2.2.1 p.2.2.2.2.2 some) (fun _ => rfl) (fun _ _ => rfl) (fun hD f fs h p => Z7_lim hD (fun x0 x1 x2 x3 x4 x5 => h (x0, x1, x2, x3, x4, x5)) _ _ _ _ _ _) (x0, x1, x2, x3, x4, x5)
theorem Z8_lim {ι : Type} {R : ι → ι → Prop} (hD : Dir R) {F : Int → Int → Option (Int)} {Fs : ι → Int → Int → Option (Int)} (h : ∀ x0 x1, Lim R (F x0 x1) (fun i => Fs i x0 x1)) (x0 : Int) (x1 : Int)  : Lim R (c_Z8 F x0 x1 some) (fun i => c_Z8 (Fs i) x0 x1 some) := by
 unfold c_Z8
 repeat' first
  | exact Lim.const hD
  | exact h _ _
  | apply Lim.ite
  | apply Lim.cond
  | apply Lim.bind hD
  | apply Lim.sum
  | intro _
theorem Z8_fx (x0 : Int) (x1 : Int)  : Z8 x0 x1 = c_Z8 Z8 x0 x1 some :=
 fix_eq (N := fun n (p : Int × Int) => n_Z8 n p.1 p.2) (C := fun f p => c_Z8 (fun x0 x1 => f (x0, x1)) p.1 p.2 some) (fun _ => rfl) (fun _ _ => rfl) (fun hD f fs h p => Z8_lim hD (fun x0 x1 => h (x0, x1)) _ _) (x0, x1)
theorem Z10_lim {ι : Type} {R : ι → ι → Prop} (hD : Dir R) {F : Int → List D → Int → Int → Int → Int → Int → Int → Option (Int × List D × Int × Int × Int × Int × Int)} {Fs : ι → Int → List D → Int → Int → Int → Int → Int → Int → Option (Int × List D × Int × Int × Int × Int × Int)} (h : ∀ x0 x1 x2 x3 x4 x5 x6 x7, Lim R (F x0 x1 x2 x3 x4 x5 x6 x7) (fun i => Fs i x0 x1 x2 x3 x4 x5 x6 x7)) (x0 : Int) (x1 : List D) (x2 : Int) (x3 : Int) (x4 : Int) (x5 : Int) (x6 : Int) (x7 : Int)  : Lim R (c_Z10 F x0 x1 x2 x3 x4 x5 x6 x7 some) (fun i => c_Z10 (Fs i) x0 x1 x2 x3 x4 x5 x6 x7 some) := by
 unfold c_Z10
 repeat' first
  | exact Lim.const hD
  | exact h _ _ _ _ _ _ _ _
  | apply Lim.ite
  | apply Lim.cond
  | apply Lim.bind hD
  | apply Lim.sum
  | intro _
theorem Z10_fx (x0 : Int) (x1 : List D) (x2 : Int) (x3 : Int) (x4 : Int) (x5 : Int) (x6 : Int) (x7 : Int)  : Z10 x0 x1 x2 x3 x4 x5 x6 x7 = c_Z10 Z10 x0 x1 x2 x3 x4 x5 x6 x7 some :=
 fix_eq (N := fun n (p : Int × List D × Int × Int × Int × Int × Int × Int) => n_Z10 n p.1 p.2.1 p.2.2.1 p.2.2.2.1 p.2.2.2.2.1 p.2.2.2.2.2.1 p.2.2.2.2.2.2.1 p.2.2.2.2.2.2.2) (C := fun f p => c_Z10 (fun x0 x1 x2 x3 x4 x5 x6 x7 => f (x0, x1, x2, x3, x4, x5, x6, x7)) p.1 p.2.1 p.2.2.1 p.2.2.2.1 p.2.2.2.2.1 p.2.2.2.2.2.1 p.2.2.2.2.2.2.1 p.2.2.2.2.2.2.2 some) (fun _ => rfl) (fun _ _ => rfl) (fun hD f fs h p => Z10_lim hD (fun x0 x1 x2 x3 x4 x5 x6 x7 => h (x0, x1, x2, x3, x4, x5, x6, x7)) _ _ _ _ _ _ _ _) (x0, x1, x2, x3, x4, x5, x6, x7)
theorem Z11_lim {ι : Type} {R : ι → ι → Prop} (hD : Dir R) {F : List D → Int → Int → Int → Int → Int → Int → List D → Option (Int × Int × Int × List D)} {Fs : ι → List D → Int → Int → Int → Int → Int → Int → List D → Option (Int × Int × Int × List D)} (h : ∀ x0 x1 x2 x3 x4 x5 x6 x7, Lim R (F x0 x1 x2 x3 x4 x5 x6 x7) (fun i => Fs i x0 x1 x2 x3 x4 x5 x6 x7)) (x0 : List D) (x1 : Int) (x2 : Int) (x3 : Int) (x4 : Int) (x5 : Int) (x6 : Int) (x7 : List D)  : Lim R (c_Z11 F x0 x1 x2 x3 x4 x5 x6 x7 some) (fun i => c_Z11 (Fs i) x0 x1 x2 x3 x4 x5 x6 x7 some) := by
 unfold c_Z11
 repeat' first
  | exact Lim.const hD
  | exact h _ _ _ _ _ _ _ _
  | apply Lim.ite
  | apply Lim.cond
  | apply Lim.bind hD
  | apply Lim.sum
  | intro _
theorem Z11_fx (x0 : List D) (x1 : Int) (x2 : Int) (x3 : Int) (x4 : Int) (x5 : Int) (x6 : Int) (x7 : List D)  : Z11 x0 x1 x2 x3 x4 x5 x6 x7 = c_Z11 Z11 x0 x1 x2 x3 x4 x5 x6 x7 some :=
 fix_eq (N := fun n (p : List D × Int × Int × Int × Int × Int × Int × List D) => n_Z11 n p.1 p.2.1 p.2.2.1 p.2.2.2.1 p.2.2.2.2.1 p.2.2.2.2.2.1 p.2.2.2.2.2.2.1 p.2.2.2.2.2.2.2) (C := fun f p => c_Z11 (fun x0 x1 x2 x3 x4 x5 x6 x7 => f (x0, x1, x2, x3, x4, x5, x6, x7)) p.1 p.2.1 p.2.2.1 p.2.2.2.1 p.2.2.2.2.1 p.2.2.2.2.2.1 p.2.2.2.2.2.2.1 p.2.2.2.2.2.2.2 some) (fun _ => rfl) (fun _ _ => rfl) (fun hD f fs h p => Z11_lim hD (fun x0 x1 x2 x3 x4 x5 x6 x7 => h (x0, x1, x2, x3, x4, x5, x6, x7)) _ _ _ _ _ _ _ _) (x0, x1, x2, x3, x4, x5, x6, x7)
theorem Z13_lim {ι : Type} {R : ι → ι → Prop} (hD : Dir R) {F : Int → Int → Int → Int → List D → Option ((Bool × Int) ⊕ (Int))} {Fs : ι → Int → Int → Int → Int → List D → Option ((Bool × Int) ⊕ (Int))} (h : ∀ x0 x1 x2 x3 x4, Lim R (F x0 x1 x2 x3 x4) (fun i => Fs i x0 x1 x2 x3 x4)) (x0 : Int) (x1 : Int) (x2 : Int) (x3 : Int) (x4 : List D)  : Lim R (c_Z13 F x0 x1 x2 x3 x4 some) (fun i => c_Z13 (Fs i) x0 x1 x2 x3 x4 some) := by
 unfold c_Z13
 repeat' first
  | exact Lim.const hD
  | exact h _ _ _ _ _
  | apply Lim.ite
  | apply Lim.cond
  | apply Lim.bind hD
  | apply Lim.sum
  | intro _
theorem Z13_fx (x0 : Int) (x1 : Int) (x2 : Int) (x3 : Int) (x4 : List D)  : Z13 x0 x1 x2 x3 x4 = c_Z13 Z13 x0 x1 x2 x3 x4 some :=
 fix_eq (N := fun n (p : Int × Int × Int × Int × List D) => n_Z13 n p.1 p.2.1 p.2.2.1 p.2.2.2.1 p.2.2.2.2) (C := fun f p => c_Z13 (fun x0 x1 x2 x3 x4 => f (x0, x1, x2, x3, x4)) p.1 p.2.1 p.2.2.1 p.2.2.2.1 p.2.2.2.2 some) (fun _ => rfl) (fun _ _ => rfl) (fun hD f fs h p => Z13_lim hD (fun x0 x1 x2 x3 x4 => h (x0, x1, x2, x3, x4)) _ _ _ _ _) (x0, x1, x2, x3, x4)
theorem Z17_lim {ι : Type} {R : ι → ι → Prop} (hD : Dir R) {F : List D → Int → Int → Int → Int → List D → Option (List D × Int × Int × Int × Int × List D)} {Fs : ι → List D → Int → Int → Int → Int → List D → Option (List D × Int × Int × Int × Int × List D)} (h : ∀ x0 x1 x2 x3 x4 x5, Lim R (F x0 x1 x2 x3 x4 x5) (fun i => Fs i x0 x1 x2 x3 x4 x5)) (x0 : List D) (x1 : Int) (x2 : Int) (x3 : Int) (x4 : Int) (x5 : List D)  : Lim R (c_Z17 F x0 x1 x2 x3 x4 x5 some) (fun i => c_Z17 (Fs i) x0 x1 x2 x3 x4 x5 some) := by
 unfold c_Z17
 repeat' first
  | exact Lim.const hD
  | exact h _ _ _ _ _ _
  | apply Lim.ite
  | apply Lim.cond
  | apply Lim.bind hD
  | apply Lim.sum
  | intro _
theorem Z17_fx (x0 : List D) (x1 : Int) (x2 : Int) (x3 : Int) (x4 : Int) (x5 : List D)  : Z17 x0 x1 x2 x3 x4 x5 = c_Z17 Z17 x0 x1 x2 x3 x4 x5 some :=
 fix_eq (N := fun n (p : List D × Int × Int × Int × Int × List D) => n_Z17 n p.1 p.2.1 p.2.2.1 p.2.2.2.1 p.2.2.2.2.1 p.2.2.2.2.2) (C := fun f p => c_Z17 (fun x0 x1 x2 x3 x4 x5 => f (x0, x1, x2, x3, x4, x5)) p.1 p.2.1 p.2.2.1 p.2.2.2.1 p.2.2.2.2.1 p.2.2.2.2.2 some) (fun _ => rfl) (fun _ _ => rfl) (fun hD f fs h p => Z17_lim hD (fun x0 x1 x2 x3 x4 x5 => h (x0, x1, x2, x3, x4, x5)) _ _ _ _ _ _) (x0, x1, x2, x3, x4, x5)
theorem Z18_lim {ι : Type} {R : ι → ι → Prop} (hD : Dir R) {F : List D → Int → Int → Int → Int → List D → Option ((List D × Int × Int × Int × Int × List D) ⊕ (List D × Int × Int × Int × Int × List D))} {Fs : ι → List D → Int → Int → Int → Int → List D → Option ((List D × Int × Int × Int × Int × List D) ⊕ (List D × Int × Int × Int × Int × List D))} (h : ∀ x0 x1 x2 x3 x4 x5, Lim R (F x0 x1 x2 x3 x4 x5) (fun i => Fs i x0 x1 x2 x3 x4 x5)) (x0 : List D) (x1 : Int) (x2 : Int) (x3 : Int) (x4 : Int) (x5 : List D)  : Lim R (c_Z18 F x0 x1 x2 x3 x4 x5 some) (fun i => c_Z18 (Fs i) x0 x1 x2 x3 x4 x5 some) := by
 unfold c_Z18
 repeat' first
  | exact Lim.const hD
  | exact h _ _ _ _ _ _
  | apply Lim.ite
  | apply Lim.cond
  | apply Lim.bind hD
  | apply Lim.sum
  | intro _
theorem Z18_fx (x0 : List D) (x1 : Int) (x2 : Int) (x3 : Int) (x4 : Int) (x5 : List D)  : Z18 x0 x1 x2 x3 x4 x5 = c_Z18 Z18 x0 x1 x2 x3 x4 x5 some :=
 fix_eq (N := fun n (p : List D × Int × Int × Int × Int × List D) => n_Z18 n p.1 p.2.1 p.2.2.1 p.2.2.2.1 p.2.2.2.2.1 p.2.2.2.2.2) (C := fun f p => c_Z18 (fun x0 x1 x2 x3 x4 x5 => f (x0, x1, x2, x3, x4, x5)) p.1 p.2.1 p.2.2.1 p.2.2.2.1 p.2.2.2.2.1 p.2.2.2.2.2 some) (fun _ => rfl) (fun _ _ => rfl) (fun hD f fs h p => Z18_lim hD (fun x0 x1 x2 x3 x4 x5 => h (x0, x1, x2, x3, x4, x5)) _ _ _ _ _ _) (x0, x1, x2, x3, x4, x5)
theorem Z20_lim {ι : Type} {R : ι → ι → Prop} (hD : Dir R) {F : Int → Int → List D → Int → Int → List D → Option (List D)} {Fs : ι → Int → Int → List D → Int → Int → List D → Option (List D)} (h : ∀ x0 x1 x2 x3 x4 x5, Lim R (F x0 x1 x2 x3 x4 x5) (fun i => Fs i x0 x1 x2 x3 x4 x5)) (x0 : Int) (x1 : Int) (x2 : List D) (x3 : Int) (x4 : Int) (x5 : List D)  : Lim R (c_Z20 F x0 x1 x2 x3 x4 x5 some) (fun i => c_Z20 (Fs i) x0 x1 x2 x3 x4 x5 some) := by
 unfold c_Z20
 repeat' first
  | exact Lim.const hD
  | exact h _ _ _ _ _ _
  | apply Lim.ite
  | apply Lim.cond
  | apply Lim.bind hD
  | apply Lim.sum
  | intro _
theorem Z20_fx (x0 : Int) (x1 : Int) (x2 : List D) (x3 : Int) (x4 : Int) (x5 : List D)  : Z20 x0 x1 x2 x3 x4 x5 = c_Z20 Z20 x0 x1 x2 x3 x4 x5 some :=
 fix_eq (N := fun n (p : Int × Int × List D × Int × Int × List D) => n_Z20 n p.1 p.2.1 p.2.2.1 p.2.2.2.1 p.2.2.2.2.1 p.2.2.2.2.2) (C := fun f p => c_Z20 (fun x0 x1 x2 x3 x4 x5 => f (x0, x1, x2, x3, x4, x5)) p.1 p.2.1 p.2.2.1 p.2.2.2.1 p.2.2.2.2.1 p.2.2.2.2.2 some) (fun _ => rfl) (fun _ _ => rfl) (fun hD f fs h p => Z20_lim hD (fun x0 x1 x2 x3 x4 x5 => h (x0, x1, x2, x3, x4, x5)) _ _ _ _ _ _) (x0, x1, x2, x3, x4, x5)
theorem Z29_lim {ι : Type} {R : ι → ι → Prop} (hD : Dir R) {F : Int → Int → Option (Int)} {Fs : ι → Int → Int → Option (Int)} (h : ∀ x0 x1, Lim R (F x0 x1) (fun i => Fs i x0 x1)) (x0 : Int) (x1 : Int)  : Lim R (c_Z29 F x0 x1 some) (fun i => c_Z29 (Fs i) x0 x1 some) := by
 unfold c_Z29
 repeat' first
  | exact Lim.const hD
  | exact h _ _
  | apply Lim.ite
  | apply Lim.cond
  | apply Lim.bind hD
  | apply Lim.sum
  | intro _
theorem Z29_fx (x0 : Int) (x1 : Int)  : Z29 x0 x1 = c_Z29 Z29 x0 x1 some :=
 fix_eq (N := fun n (p : Int × Int) => n_Z29 n p.1 p.2) (C := fun f p => c_Z29 (fun x0 x1 => f (x0, x1)) p.1 p.2 some) (fun _ => rfl) (fun _ _ => rfl) (fun hD f fs h p => Z29_lim hD (fun x0 x1 => h (x0, x1)) _ _) (x0, x1)
theorem Z31_lim {ι : Type} {R : ι → ι → Prop} (hD : Dir R) {F : Int → List D → Int → Int → Option (Int)} {Fs : ι → Int → List D → Int → Int → Option (Int)} (h : ∀ x0 x1 x2 x3, Lim R (F x0 x1 x2 x3) (fun i => Fs i x0 x1 x2 x3)) (x0 : Int) (x1 : List D) (x2 : Int) (x3 : Int)  : Lim R (c_Z31 F x0 x1 x2 x3 some) (fun i => c_Z31 (Fs i) x0 x1 x2 x3 some) := by
 unfold c_Z31
 repeat' first
  | exact Lim.const hD
  | exact h _ _ _ _
  | apply Lim.ite
  | apply Lim.cond
  | apply Lim.bind hD
  | apply Lim.sum
  | intro _
theorem Z31_fx (x0 : Int) (x1 : List D) (x2 : Int) (x3 : Int)  : Z31 x0 x1 x2 x3 = c_Z31 Z31 x0 x1 x2 x3 some :=
 fix_eq (N := fun n (p : Int × List D × Int × Int) => n_Z31 n p.1 p.2.1 p.2.2.1 p.2.2.2) (C := fun f p => c_Z31 (fun x0 x1 x2 x3 => f (x0, x1, x2, x3)) p.1 p.2.1 p.2.2.1 p.2.2.2 some) (fun _ => rfl) (fun _ _ => rfl) (fun hD f fs h p => Z31_lim hD (fun x0 x1 x2 x3 => h (x0, x1, x2, x3)) _ _ _ _) (x0, x1, x2, x3)
theorem Z34_lim {ι : Type} {R : ι → ι → Prop} (hD : Dir R) {F : Int → List D → Int → Int → Option (Int)} {Fs : ι → Int → List D → Int → Int → Option (Int)} (h : ∀ x0 x1 x2 x3, Lim R (F x0 x1 x2 x3) (fun i => Fs i x0 x1 x2 x3)) (x0 : Int) (x1 : List D) (x2 : Int) (x3 : Int)  : Lim R (c_Z34 F x0 x1 x2 x3 some) (fun i => c_Z34 (Fs i) x0 x1 x2 x3 some) := by
 unfold c_Z34
 repeat' first
  | exact Lim.const hD
  | exact h _ _ _ _
  | apply Lim.ite
  | apply Lim.cond
  | apply Lim.bind hD
  | apply Lim.sum
  | intro _
theorem Z34_fx (x0 : Int) (x1 : List D) (x2 : Int) (x3 : Int)  : Z34 x0 x1 x2 x3 = c_Z34 Z34 x0 x1 x2 x3 some :=
 fix_eq (N := fun n (p : Int × List D × Int × Int) => n_Z34 n p.1 p.2.1 p.2.2.1 p.2.2.2) (C := fun f p => c_Z34 (fun x0 x1 x2 x3 => f (x0, x1, x2, x3)) p.1 p.2.1 p.2.2.1 p.2.2.2 some) (fun _ => rfl) (fun _ _ => rfl) (fun hD f fs h p => Z34_lim hD (fun x0 x1 x2 x3 => h (x0, x1, x2, x3)) _ _ _ _) (x0, x1, x2, x3)
theorem Z37_lim {ι : Type} {R : ι → ι → Prop} (hD : Dir R) {F : List D → Int → Int → Int → List D → Int → Int → Int → Option ((List D × Bool × Int × Int × Int) ⊕ (List D × Int × Int × Int))} {Fs : ι → List D → Int → Int → Int → List D → Int → Int → Int → Option ((List D × Bool × Int × Int × Int) ⊕ (List D × Int × Int × Int))} (h : ∀ x0 x1 x2 x3 x4 x5 x6 x7, Lim R (F x0 x1 x2 x3 x4 x5 x6 x7) (fun i => Fs i x0 x1 x2 x3 x4 x5 x6 x7)) (x0 : List D) (x1 : Int) (x2 : Int) (x3 : Int) (x4 : List D) (x5 : Int) (x6 : Int) (x7 : Int)  : Lim R (c_Z37 F x0 x1 x2 x3 x4 x5 x6 x7 some) (fun i => c_Z37 (Fs i) x0 x1 x2 x3 x4 x5 x6 x7 some) := by
 unfold c_Z37
 repeat' first
  | exact Lim.const hD
  | exact h _ _ _ _ _ _ _ _
  | apply Lim.ite
  | apply Lim.cond
  | apply Lim.bind hD
  | apply Lim.sum
  | intro _
theorem Z37_fx (x0 : List D) (x1 : Int) (x2 : Int) (x3 : Int) (x4 : List D) (x5 : Int) (x6 : Int) (x7 : Int)  : Z37 x0 x1 x2 x3 x4 x5 x6 x7 = c_Z37 Z37 x0 x1 x2 x3 x4 x5 x6 x7 some :=
 fix_eq (N := fun n (p : List D × Int × Int × Int × List D × Int × Int × Int) => n_Z37 n p.1 p.2.1 p.2.2.1 p.2.2.2.1 p.2.2.2.2.1 p.2.2.2.2.2.1 p.2.2.2.2.2.2.1 p.2.2.2.2.2.2.2) (C := fun f p => c_Z37 (fun x0 x1 x2 x3 x4 x5 x6 x7 => f (x0, x1, x2, x3, x4, x5, x6, x7)) p.1 p.2.1 p.2.2.1 p.2.2.2.1 p.2.2.2.2.1 p.2.2.2.2.2.1 p.2.2.2.2.2.2.1 p.2.2.2.2.2.2.2 some) (fun _ => rfl) (fun _ _ => rfl) (fun hD f fs h p => Z37_lim hD (fun x0 x1 x2 x3 x4 x5 x6 x7 => h (x0, x1, x2, x3, x4, x5, x6, x7)) _ _ _ _ _ _ _ _) (x0, x1, x2, x3, x4, x5, x6, x7)
theorem Z38_lim {ι : Type} {R : ι → ι → Prop} (hD : Dir R) {F : List D → Int → Int → Int → Int → Int → Int → List D → Int → Int → List D → Int → Int → Int → List D → Int → List D → Option (List D × Int × Int × Int × Int × Int × Int × List D × Int × Int × Int × List D)} {Fs : ι → List D → Int → Int → Int → Int → Int → Int → List D → Int → Int → List D → Int → Int → Int → List D → Int → List D → Option (List D × Int × Int × Int × Int × Int × Int × List D × Int × Int × Int × List D)} (h : ∀ x0 x1 x2 x3 x4 x5 x6 x7 x8 x9 x10 x11 x12 x13 x14 x15 x16, Lim R (F x0 x1 x2 x3 x4 x5 x6 x7 x8 x9 x10 x11 x12 x13 x14 x15 x16) (fun i => Fs i x0 x1 x2 x3 x4 x5 x6 x7 x8 x9 x10 x11 x12 x13 x14 x15 x16)) (x0 : List D) (x1 : Int) (x2 : Int) (x3 : Int) (x4 : Int) (x5 : Int) (x6 : Int) (x7 : List D) (x8 : Int) (x9 : Int) (x10 : List D) (x11 : Int) (x12 : Int) (x13 : Int) (x14 : List D) (x15 : Int) (x16 : List D)  : Lim R (c_Z38 F x0 x1 x2 x3 x4 x5 x6 x7 x8 x9 x10 x11 x12 x13 x14 x15 x16 some) (fun i => c_Z38 (Fs i) x0 x1 x2 x3 x4 x5 x6 x7 x8 x9 x10 x11 x12 x13 x14 x15 x16 some) := by
 unfold c_Z38
 repeat' first
  | exact Lim.const hD
  | exact h _ _ _ _ _ _ _ _ _ _ _ _ _ _ _ _ _
  | apply Lim.ite
  | apply Lim.cond
  | apply Lim.bind hD
  | apply Lim.sum
  | intro _
theorem Z38_fx (x0 : List D) (x1 : Int) (x2 : Int) (x3 : Int) (x4 : Int) (x5 : Int) (x6 : Int) (x7 : List D) (x8 : Int) (x9 : Int) (x10 : List D) (x11 : Int) (x12 : Int) (x13 : Int) (x14 : List D) (x15 : Int) (x16 : List D)  : Z38 x0 x1 x2 x3 x4 x5 x6 x7 x8 x9 x10 x11 x12 x13 x14 x15 x16 = c_Z38 Z38 x0 x1 x2 x3 x4 x5 x6 x7 x8 x9 x10 x11 x12 x13 x14 x15 x16 some :=
 fix_eq (N := fun n (p : List D × Int × Int × Int × Int × Int × Int × List D × Int × Int × List D × Int × Int × Int × List D × Int × List D) => n_Z38 n p.1 p.2.1 p.2.2.1 p.2.2.2.1 p.2.2.2.2.1 p.2.2.2.2.2.1 p.2.2.2.2.2.2.1 p.2.2.2.2.2.2.2.1 p.2.2.2.2.2.2.2.2.1 p.2.2.2.2.2.2.2.2.2.1 p.2.2.2.2.2.2.2.2.2.2.1 p.2.2.2.2.2.2.2.2.2.2.2.1 p.2.2.2.2.2.2.2.2.2.2.2.2.1 p.2.2.2.2.2.2.2.2.2.2.2.2.2.1 p.2.2.2.2.2.2.2.2.2.2.2.2.2.2.1 p.2.2.2.2.2.2.2.2.2.2.2.2.2.2.2.1 p.2.2.2.2.2.2.2.2.2.2.2.2.2.2.2.2) (C := fun f p => c_Z38 (fun x0 x1 x2 x3 x4 x5 x6 x7 x8 x9 x10 x11 x12 x13 x14 x15 x16 => f (x0, x1, x2, x3, x4, x5, x6, x7, x8, x9, x10, x11, x12, x13, x14, x15, x16)) p.1 p.2.1 p.2.2.1 p.2.2.2.1 p.2.2.2.2.1 p.2.2.2.2.2.1 p.2.2.2.2.2.2.1 p.2.2.2.2.2.2.2.1 p.2.2.2.2.2.2.2.2.1 p.2.2.2.2.2.2.2.2.2.1 p.2.2.2.2.2.2.2.2.2.2.1 p.2.2.2.2.2.2.2.2.2.2.2.1 p.2.2.2.2.2.2.2.2.2.2.2.2.1 p.2.2.2.2.2.2.2.2.2.2.2.2.2.1 p.2.2.2.2.2.2.2.2.2.2.2.2.2.2.1 p.2.2.2.2.2.2.2.2.2.2.2.2.2.2.2.1 p.2.2.2.2.2.2.2.2.2.2.2.2.2.2.2.2 some) (fun _ => rfl) (fun _ _ => rfl) (fun hD f fs h p => Z38_lim hD (fun x0 x1 x2 x3 x4 x5 x6 x7 x8 x9 x10 x11 x12 x13 x14 x15 x16 => h (x0, x1, x2, x3, x4, x5, x6, x7, x8, x9, x10, x11, x12, x13, x14, x15, x16)) _ _ _ _ _ _ _ _ _ _ _ _ _ _ _ _ _) (x0, x1, x2, x3, x4, x5, x6, x7, x8, x9, x10, x11, x12, x13, x14, x15, x16)
theorem Z39_lim {ι : Type} {R : ι → ι → Prop} (hD : Dir R) {F : List D → Int → Int → Int → Int → Int → List D → Int → Int → Int → List D → Option (List D × Int × Int × Int × Int × Int × Int × List D)} {Fs : ι → List D → Int → Int → Int → Int → Int → List D → Int → Int → Int → List D → Option (List D × Int × Int × Int × Int × Int × Int × List D)} (h : ∀ x0 x1 x2 x3 x4 x5 x6 x7 x8 x9 x10, Lim R (F x0 x1 x2 x3 x4 x5 x6 x7 x8 x9 x10) (fun i => Fs i x0 x1 x2 x3 x4 x5 x6 x7 x8 x9 x10)) (x0 : List D) (x1 : Int) (x2 : Int) (x3 : Int) (x4 : Int) (x5 : Int) (x6 : List D) (x7 : Int) (x8 : Int) (x9 : Int) (x10 : List D)  : Lim R (c_Z39 F x0 x1 x2 x3 x4 x5 x6 x7 x8 x9 x10 some) (fun i => c_Z39 (Fs i) x0 x1 x2 x3 x4 x5 x6 x7 x8 x9 x10 some) := by
 unfold c_Z39
 repeat' first
  | exact Lim.const hD
  | exact h _ _ _ _ _ _ _ _ _ _ _
  | apply Lim.ite
  | apply Lim.cond
  | apply Lim.bind hD
  | apply Lim.sum
  | intro _
theorem Z39_fx (x0 : List D) (x1 : Int) (x2 : Int) (x3 : Int) (x4 : Int) (x5 : Int) (x6 : List D) (x7 : Int) (x8 : Int) (x9 : Int) (x10 : List D)  : Z39 x0 x1 x2 x3 x4 x5 x6 x7 x8 x9 x10 = c_Z39 Z39 x0 x1 x2 x3 x4 x5 x6 x7 x8 x9 x10 some :=
 fix_eq (N := fun n (p : List D × Int × Int × Int × Int × Int × List D × Int × Int × Int × List D) => n_Z39 n p.1 p.2.1 p.2.2.1 p.2.2.2.1 p.2.2.2.2.1 p.2.2.2.2.2.1 p.2.2.2.2.2.2.1 p.2.2.2.2.2.2.2.1 p.2.2.2.2.2.2.2.2.1 p.2.2.2.2.2.2.2.2.2.1 p.2.2.2.2.2.2.2.2.2.2) (C := fun f p => c_Z39 (fun x0 x1 x2 x3 x4 x5 x6 x7 x8 x9 x10 => f (x0, x1, x2, x3, x4, x5, x6, x7, x8, x9, x10)) p.1 p.2.1 p.2.2.1 p.2.2.2.1 p.2.2.2.2.1 p.2.2.2.2.2.1 p.2.2.2.2.2.2.1 p.2.2.2.2.2.2.2.1 p.2.2.2.2.2.2.2.2.1 p.2.2.2.2.2.2.2.2.2.1 p.2.2.2.2.2.2.2.2.2.2 some) (fun _ => rfl) (fun _ _ => rfl) (fun hD f fs h p => Z39_lim hD (fun x0 x1 x2 x3 x4 x5 x6 x7 x8 x9 x10 => h (x0, x1, x2, x3, x4, x5, x6, x7, x8, x9, x10)) _ _ _ _ _ _ _ _ _ _ _) (x0, x1, x2, x3, x4, x5, x6, x7, x8, x9, x10)
theorem Z40_lim {ι : Type} {R : ι → ι → Prop} (hD : Dir R) {F : List D → Int → Int → Int → Int → Int → List D → Option (Int × Int × List D)} {Fs : ι → List D → Int → Int → Int → Int → Int → List D → Option (Int × Int × List D)} (h : ∀ x0 x1 x2 x3 x4 x5 x6, Lim R (F x0 x1 x2 x3 x4 x5 x6) (fun i => Fs i x0 x1 x2 x3 x4 x5 x6)) (x0 : List D) (x1 : Int) (x2 : Int) (x3 : Int) (x4 : Int) (x5 : Int) (x6 : List D)  : Lim R (c_Z40 F x0 x1 x2 x3 x4 x5 x6 some) (fun i => c_Z40 (Fs i) x0 x1 x2 x3 x4 x5 x6 some) := by
 unfold c_Z40
 repeat' first
  | exact Lim.const hD
  | exact h _ _ _ _ _ _ _
  | apply Lim.ite
  | apply Lim.cond
  | apply Lim.bind hD
  | apply Lim.sum
  | intro _
theorem Z40_fx (x0 : List D) (x1 : Int) (x2 : Int) (x3 : Int) (x4 : Int) (x5 : Int) (x6 : List D)  : Z40 x0 x1 x2 x3 x4 x5 x6 = c_Z40 Z40 x0 x1 x2 x3 x4 x5 x6 some :=
 fix_eq (N := fun n (p : List D × Int × Int × Int × Int × Int × List D) => n_Z40 n p.1 p.2.1 p.2.2.1 p.2.2.2.1 p.2.2.2.2.1 p.2.2.2.2.2.1 p.2.2.2.2.2.2) (C := fun f p => c_Z40 (fun x0 x1 x2 x3 x4 x5 x6 => f (x0, x1, x2, x3, x4, x5, x6)) p.1 p.2.1 p.2.2.1 p.2.2.2.1 p.2.2.2.2.1 p.2.2.2.2.2.1 p.2.2.2.2.2.2 some) (fun _ => rfl) (fun _ _ => rfl) (fun hD f fs h p => Z40_lim hD (fun x0 x1 x2 x3 x4 x5 x6 => h (x0, x1, x2, x3, x4, x5, x6)) _ _ _ _ _ _ _) (x0, x1, x2, x3, x4, x5, x6)
theorem Z41_lim {ι : Type} {R : ι → ι → Prop} (hD : Dir R) {F : List D → Int → Int → Option (Int)} {Fs : ι → List D → Int → Int → Option (Int)} (h : ∀ x0 x1 x2, Lim R (F x0 x1 x2) (fun i => Fs i x0 x1 x2)) (x0 : List D) (x1 : Int) (x2 : Int)  : Lim R (c_Z41 F x0 x1 x2 some) (fun i => c_Z41 (Fs i) x0 x1 x2 some) := by
 unfold c_Z41
 repeat' first
  | exact Lim.const hD
  | exact h _ _ _
  | apply Lim.ite
  | apply Lim.cond
  | apply Lim.bind hD
  | apply Lim.sum
  | intro _
theorem Z41_fx (x0 : List D) (x1 : Int) (x2 : Int)  : Z41 x0 x1 x2 = c_Z41 Z41 x0 x1 x2 some :=
 fix_eq (N := fun n (p : List D × Int × Int) => n_Z41 n p.1 p.2.1 p.2.2) (C := fun f p => c_Z41 (fun x0 x1 x2 => f (x0, x1, x2)) p.1 p.2.1 p.2.2 some) (fun _ => rfl) (fun _ _ => rfl) (fun hD f fs h p => Z41_lim hD (fun x0 x1 x2 => h (x0, x1, x2)) _ _ _) (x0, x1, x2)
theorem Z43_lim {ι : Type} {R : ι → ι → Prop} (hD : Dir R) {F : Int → Int → List D → Int → Int → Int → List D → Option (Int × Int × List D)} {Fs : ι → Int → Int → List D → Int → Int → Int → List D → Option (Int × Int × List D)} (h : ∀ x0 x1 x2 x3 x4 x5 x6, Lim R (F x0 x1 x2 x3 x4 x5 x6) (fun i => Fs i x0 x1 x2 x3 x4 x5 x6)) (x0 : Int) (x1 : Int) (x2 : List D) (x3 : Int) (x4 : Int) (x5 : Int) (x6 : List D)  : Lim R (c_Z43 F x0 x1 x2 x3 x4 x5 x6 some) (fun i => c_Z43 (Fs i) x0 x1 x2 x3 x4 x5 x6 some) := by
 unfold c_Z43
 repeat' first
  | exact Lim.const hD
  | exact h _ _ _ _ _ _ _
  | apply Lim.ite
  | apply Lim.cond
  | apply Lim.bind hD
  | apply Lim.sum
  | intro _
theorem Z43_fx (x0 : Int) (x1 : Int) (x2 : List D) (x3 : Int) (x4 : Int) (x5 : Int) (x6 : List D)  : Z43 x0 x1 x2 x3 x4 x5 x6 = c_Z43 Z43 x0 x1 x2 x3 x4 x5 x6 some :=
 fix_eq (N := fun n (p : Int × Int × List D × Int × Int × Int × List D) => n_Z43 n p.1 p.2.1 p.2.2.1 p.2.2.2.1 p.2.2.2.2.1 p.2.2.2.2.2.1 p.2.2.2.2.2.2) (C := fun f p => c_Z43 (fun x0 x1 x2 x3 x4 x5 x6 => f (x0, x1, x2, x3, x4, x5, x6)) p.1 p.2.1 p.2.2.1 p.2.2.2.1 p.2.2.2.2.1 p.2.2.2.2.2.1 p.2.2.2.2.2.2 some) (fun _ => rfl) (fun _ _ => rfl) (fun hD f fs h p => Z43_lim hD (fun x0 x1 x2 x3 x4 x5 x6 => h (x0, x1, x2, x3, x4, x5, x6)) _ _ _ _ _ _ _) (x0, x1, x2, x3, x4, x5, x6)
theorem Z48_lim {ι : Type} {R : ι → ι → Prop} (hD : Dir R) {F : Int → List D → Int → Int → Int → Int → Option (Int × List D × Int × Int × Int × Int)} {Fs : ι → Int → List D → Int → Int → Int → Int → Option (Int × List D × Int × Int × Int × Int)} (h : ∀ x0 x1 x2 x3 x4 x5, Lim R (F x0 x1 x2 x3 x4 x5) (fun i => Fs i x0 x1 x2 x3 x4 x5)) (x0 : Int) (x1 : List D) (x2 : Int) (x3 : Int) (x4 : Int) (x5 : Int)  : Lim R (c_Z48 F x0 x1 x2 x3 x4 x5 some) (fun i => c_Z48 (Fs i) x0 x1 x2 x3 x4 x5 some) := by
 unfold c_Z48
 repeat' first
  | exact Lim.const hD
  | exact h _ _ _ _ _ _
  | apply Lim.ite
  | apply Lim.cond
  | apply Lim.bind hD
  | apply Lim.sum
  | intro _
theorem Z48_fx (x0 : Int) (x1 : List D) (x2 : Int) (x3 : Int) (x4 : Int) (x5 : Int)  : Z48 x0 x1 x2 x3 x4 x5 = c_Z48 Z48 x0 x1 x2 x3 x4 x5 some :=
 fix_eq (N := fun n (p : Int × List D × Int × Int × Int × Int) => n_Z48 n p.1 p.2.1 p.2.2.1 p.2.2.2.1 p.2.2.2.2.1 p.2.2.2.2.2) (C := fun f p => c_Z48 (fun x0 x1 x2 x3 x4 x5 => f (x0, x1, x2, x3, x4, x5)) p.1 p.2.1 p.2.2.1 p.2.2.2.1 p.2.2.2.2.1 p.2.2.2.2.2 some) (fun _ => rfl) (fun _ _ => rfl) (fun hD f fs h p => Z48_lim hD (fun x0 x1 x2 x3 x4 x5 => h (x0, x1, x2, x3, x4, x5)) _ _ _ _ _ _) (x0, x1, x2, x3, x4, x5)
theorem Z49_lim {ι : Type} {R : ι → ι → Prop} (hD : Dir R) {F : Int → List D → Int → Int → Int → Int → Option (Int × List D × Int × Int × Int × Int)} {Fs : ι → Int → List D → Int → Int → Int → Int → Option (Int × List D × Int × Int × Int × Int)} (h : ∀ x0 x1 x2 x3 x4 x5, Lim R (F x0 x1 x2 x3 x4 x5) (fun i => Fs i x0 x1 x2 x3 x4 x5)) (x0 : Int) (x1 : List D) (x2 : Int) (x3 : Int) (x4 : Int) (x5 : Int)  : Lim R (c_Z49 F x0 x1 x2 x3 x4 x5 some) (fun i => c_Z49 (Fs i) x0 x1 x2 x3 x4 x5 some) := by
 unfold c_Z49
 repeat' first
  | exact Lim.const hD
  | exact h _ _ _ _ _ _
  | apply Lim.ite
  | apply Lim.cond
  | apply Lim.bind hD
  | apply Lim.sum
  | intro _
theorem Z49_fx (x0 : Int) (x1 : List D) (x2 : Int) (x3 : Int) (x4 : Int) (x5 : Int)  : Z49 x0 x1 x2 x3 x4 x5 = c_Z49 Z49 x0 x1 x2 x3 x4 x5 some :=
 fix_eq (N := fun n (p : Int × List D × Int × Int × Int × Int) => n_Z49 n p.1 p.2.1 p.2.2.1 p.2.2.2.1 p.2.2.2.2.1 p.2.2.2.2.2) (C := fun f p => c_Z49 (fun x0 x1 x2 x3 x4 x5 => f (x0, x1, x2, x3, x4, x5)) p.1 p.2.1 p.2.2.1 p.2.2.2.1 p.2.2.2.2.1 p.2.2.2.2.2 some) (fun _ => rfl) (fun _ _ => rfl) (fun hD f fs h p => Z49_lim hD (fun x0 x1 x2 x3 x4 x5 => h (x0, x1, x2, x3, x4, x5)) _ _ _ _ _ _) (x0, x1, x2, x3, x4, x5)
theorem Z50_lim {ι : Type} {R : ι → ι → Prop} (hD : Dir R) {F : Int → List D → Int → Int → Int → Int → List D → Option (Int × Int × List D)} {Fs : ι → Int → List D → Int → Int → Int → Int → List D → Option (Int × Int × List D)} (h : ∀ x0 x1 x2 x3 x4 x5 x6, Lim R (F x0 x1 x2 x3 x4 x5 x6) (fun i => Fs i x0 x1 x2 x3 x4 x5 x6)) (x0 : Int) (x1 : List D) (x2 : Int) (x3 : Int) (x4 : Int) (x5 : Int) (x6 : List D)  : Lim R (c_Z50 F x0 x1 x2 x3 x4 x5 x6 some) (fun i => c_Z50 (Fs i) x0 x1 x2 x3 x4 x5 x6 some) := by
 unfold c_Z50
 repeat' first
  | exact Lim.const hD
  | exact h _ _ _ _ _ _ _
  | apply Lim.ite
  | apply Lim.cond
  | apply Lim.bind hD
  | apply Lim.sum
  | intro _
theorem Z50_fx (x0 : Int) (x1 : List D) (x2 : Int) (x3 : Int) (x4 : Int) (x5 : Int) (x6 : List D)  : Z50 x0 x1 x2 x3 x4 x5 x6 = c_Z50 Z50 x0 x1 x2 x3 x4 x5 x6 some :=
 fix_eq (N := fun n (p : Int × List D × Int × Int × Int × Int × List D) => n_Z50 n p.1 p.2.1 p.2.2.1 p.2.2.2.1 p.2.2.2.2.1 p.2.2.2.2.2.1 p.2.2.2.2.2.2) (C := fun f p => c_Z50 (fun x0 x1 x2 x3 x4 x5 x6 => f (x0, x1, x2, x3, x4, x5, x6)) p.1 p.2.1 p.2.2.1 p.2.2.2.1 p.2.2.2.2.1 p.2.2.2.2.2.1 p.2.2.2.2.2.2 some) (fun _ => rfl) (fun _ _ => rfl) (fun hD f fs h p => Z50_lim hD (fun x0 x1 x2 x3 x4 x5 x6 => h (x0, x1, x2, x3, x4, x5, x6)) _ _ _ _ _ _ _) (x0, x1, x2, x3, x4, x5, x6)
theorem Z51_lim {ι : Type} {R : ι → ι → Prop} (hD : Dir R) {F : Int → List D → Int → Int → Int → Int → Option ((Int × Int × List D) ⊕ (Int × Int))} {Fs : ι → Int → List D → Int → Int → Int → Int → Option ((Int × Int × List D) ⊕ (Int × Int))} (h : ∀ x0 x1 x2 x3 x4 x5, Lim R (F x0 x1 x2 x3 x4 x5) (fun i => Fs i x0 x1 x2 x3 x4 x5)) (x0 : Int) (x1 : List D) (x2 : Int) (x3 : Int) (x4 : Int) (x5 : Int)  : Lim R (c_Z51 F x0 x1 x2 x3 x4 x5 some) (fun i => c_Z51 (Fs i) x0 x1 x2 x3 x4 x5 some) := by
 unfold c_Z51
 repeat' first
  | exact Lim.const hD
  | exact h _ _ _ _ _ _
  | apply Lim.ite
  | apply Lim.cond
  | apply Lim.bind hD
  | apply Lim.sum
  | intro _
theorem Z51_fx (x0 : Int) (x1 : List D) (x2 : Int) (x3 : Int) (x4 : Int) (x5 : Int)  : Z51 x0 x1 x2 x3 x4 x5 = c_Z51 Z51 x0 x1 x2 x3 x4 x5 some :=
 fix_eq (N := fun n (p : Int × List D × Int × Int × Int × Int) => n_Z51 n p.1 p.2.1 p.2.2.1 p.2.2.2.1 p.2.2.2.2.1 p.2.2.2.2.2) (C := fun f p => c_Z51 (fun x0 x1 x2 x3 x4 x5 => f (x0, x1, x2, x3, x4, x5)) p.1 p.2.1 p.2.2.1 p.2.2.2.1 p.2.2.2.2.1 p.2.2.2.2.2 some) (fun _ => rfl) (fun _ _ => rfl) (fun hD f fs h p => Z51_lim hD (fun x0 x1 x2 x3 x4 x5 => h (x0, x1, x2, x3, x4, x5)) _ _ _ _ _ _) (x0, x1, x2, x3, x4, x5)
theorem Z57_lim {ι : Type} {R : ι → ι → Prop} (hD : Dir R) {F : List D → Int → Int → Option (Int)} {Fs : ι → List D → Int → Int → Option (Int)} (h : ∀ x0 x1 x2, Lim R (F x0 x1 x2) (fun i => Fs i x0 x1 x2)) (x0 : List D) (x1 : Int) (x2 : Int)  : Lim R (c_Z57 F x0 x1 x2 some) (fun i => c_Z57 (Fs i) x0 x1 x2 some) := by
 unfold c_Z57
 repeat' first
  | exact Lim.const hD
  | exact h _ _ _
  | apply Lim.ite
  | apply Lim.cond
  | apply Lim.bind hD
  | apply Lim.sum
  | intro _
theorem Z57_fx (x0 : List D) (x1 : Int) (x2 : Int)  : Z57 x0 x1 x2 = c_Z57 Z57 x0 x1 x2 some :=
 fix_eq (N := fun n (p : List D × Int × Int) => n_Z57 n p.1 p.2.1 p.2.2) (C := fun f p => c_Z57 (fun x0 x1 x2 => f (x0, x1, x2)) p.1 p.2.1 p.2.2 some) (fun _ => rfl) (fun _ _ => rfl) (fun hD f fs h p => Z57_lim hD (fun x0 x1 x2 => h (x0, x1, x2)) _ _ _) (x0, x1, x2)
theorem Z61_lim {ι : Type} {R : ι → ι → Prop} (hD : Dir R) {F : List D → Int → Int → Int → Int → Int → Int → Option ((List D × Bool × Int × Int × Int × Int) ⊕ (List D × Int × Int × Int × Int))} {Fs : ι → List D → Int → Int → Int → Int → Int → Int → Option ((List D × Bool × Int × Int × Int × Int) ⊕ (List D × Int × Int × Int × Int))} (h : ∀ x0 x1 x2 x3 x4 x5 x6, Lim R (F x0 x1 x2 x3 x4 x5 x6) (fun i => Fs i x0 x1 x2 x3 x4 x5 x6)) (x0 : List D) (x1 : Int) (x2 : Int) (x3 : Int) (x4 : Int) (x5 : Int) (x6 : Int)  : Lim R (c_Z61 F x0 x1 x2 x3 x4 x5 x6 some) (fun i => c_Z61 (Fs i) x0 x1 x2 x3 x4 x5 x6 some) := by
 unfold c_Z61
 repeat' first
  | exact Lim.const hD
  | exact h _ _ _ _ _ _ _
  | apply Lim.ite
  | apply Lim.cond
  | apply Lim.bind hD
  | apply Lim.sum
  | intro _
theorem Z61_fx (x0 : List D) (x1 : Int) (x2 : Int) (x3 : Int) (x4 : Int) (x5 : Int) (x6 : Int)  : Z61 x0 x1 x2 x3 x4 x5 x6 = c_Z61 Z61 x0 x1 x2 x3 x4 x5 x6 some :=
 fix_eq (N := fun n (p : List D × Int × Int × Int × Int × Int × Int) => n_Z61 n p.1 p.2.1 p.2.2.1 p.2.2.2.1 p.2.2.2.2.1 p.2.2.2.2.2.1 p.2.2.2.2.2.2) (C := fun f p => c_Z61 (fun x0 x1 x2 x3 x4 x5 x6 => f (x0, x1, x2, x3, x4, x5, x6)) p.1 p.2.1 p.2.2.1 p.2.2.2.1 p.2.2.2.2.1 p.2.2.2.2.2.1 p.2.2.2.2.2.2 some) (fun _ => rfl) (fun _ _ => rfl) (fun hD f fs h p => Z61_lim hD (fun x0 x1 x2 x3 x4 x5 x6 => h (x0, x1, x2, x3, x4, x5, x6)) _ _ _ _ _ _ _) (x0, x1, x2, x3, x4, x5, x6)
theorem Z63_lim {ι : Type} {R : ι → ι → Prop} (hD : Dir R) {F : List D → Int → Int → Int → Int → Int → Int → Int → List D → Option (List D × Int × Int × Int × Int × Int × Int × List D)} {Fs : ι → List D → Int → Int → Int → Int → Int → Int → Int → List D → Option (List D × Int × Int × Int × Int × Int × Int × List D)} (h : ∀ x0 x1 x2 x3 x4 x5 x6 x7 x8, Lim R (F x0 x1 x2 x3 x4 x5 x6 x7 x8) (fun i => Fs i x0 x1 x2 x3 x4 x5 x6 x7 x8)) (x0 : List D) (x1 : Int) (x2 : Int) (x3 : Int) (x4 : Int) (x5 : Int) (x6 : Int) (x7 : Int) (x8 : List D)  : Lim R (c_Z63 F x0 x1 x2 x3 x4 x5 x6 x7 x8 some) (fun i => c_Z63 (Fs i) x0 x1 x2 x3 x4 x5 x6 x7 x8 some) := by
 unfold c_Z63
 repeat' first
  | exact Lim.const hD
  | exact h _ _ _ _ _ _ _ _ _
  | apply Lim.ite
  | apply Lim.cond
  | apply Lim.bind hD
  | apply Lim.sum
  | intro _
theorem Z63_fx (x0 : List D) (x1 : Int) (x2 : Int) (x3 : Int) (x4 : Int) (x5 : Int) (x6 : Int) (x7 : Int) (x8 : List D)  : Z63 x0 x1 x2 x3 x4 x5 x6 x7 x8 = c_Z63 Z63 x0 x1 x2 x3 x4 x5 x6 x7 x8 some :=
 fix_eq (N := fun n (p : List D × Int × Int × Int × Int × Int × Int × Int × List D) => n_Z63 n p.1 p.2.1 p.2.2.1 p.2.2.2.1 p.2.2.2.2.1 p.2.2.2.2.2.1 p.2.2.2.2.2.2.1 p.2.2.2.2.2.2.2.1 p.2.2.2.2.2.2.2.2) (C := fun f p => c_Z63 (fun x0 x1 x2 x3 x4 x5 x6 x7 x8 => f (x0, x1, x2, x3, x4, x5, x6, x7, x8)) p.1 p.2.1 p.2.2.1 p.2.2.2.1 p.2.2.2.2.1 p.2.2.2.2.2.1 p.2.2.2.2.2.2.1 p.2.2.2.2.2.2.2.1 p.2.2.2.2.2.2.2.2 some) (fun _ => rfl) (fun _ _ => rfl) (fun hD f fs h p => Z63_lim hD (fun x0 x1 x2 x3 x4 x5 x6 x7 x8 => h (x0, x1, x2, x3, x4, x5, x6, x7, x8)) _ _ _ _ _ _ _ _ _) (x0, x1, x2, x3, x4, x5, x6, x7, x8)
theorem Z64_lim {ι : Type} {R : ι → ι → Prop} (hD : Dir R) {F : List D → Int → Int → Int → Int → Int → List D → Option (Int × Int × List D)} {Fs : ι → List D → Int → Int → Int → Int → Int → List D → Option (Int × Int × List D)} (h : ∀ x0 x1 x2 x3 x4 x5 x6, Lim R (F x0 x1 x2 x3 x4 x5 x6) (fun i => Fs i x0 x1 x2 x3 x4 x5 x6)) (x0 : List D) (x1 : Int) (x2 : Int) (x3 : Int) (x4 : Int) (x5 : Int) (x6 : List D)  : Lim R (c_Z64 F x0 x1 x2 x3 x4 x5 x6 some) (fun i => c_Z64 (Fs i) x0 x1 x2 x3 x4 x5 x6 some) := by
 unfold c_Z64
 repeat' first
  | exact Lim.const hD
  | exact h _ _ _ _ _ _ _
  | apply Lim.ite
  | apply Lim.cond
  | apply Lim.bind hD
  | apply Lim.sum
  | intro _
theorem Z64_fx (x0 : List D) (x1 : Int) (x2 : Int) (x3 : Int) (x4 : Int) (x5 : Int) (x6 : List D)  : Z64 x0 x1 x2 x3 x4 x5 x6 = c_Z64 Z64 x0 x1 x2 x3 x4 x5 x6 some :=
 fix_eq (N := fun n (p : List D × Int × Int × Int × Int × Int × List D) => n_Z64 n p.1 p.2.1 p.2.2.1 p.2.2.2.1 p.2.2.2.2.1 p.2.2.2.2.2.1 p.2.2.2.2.2.2) (C := fun f p => c_Z64 (fun x0 x1 x2 x3 x4 x5 x6 => f (x0, x1, x2, x3, x4, x5, x6)) p.1 p.2.1 p.2.2.1 p.2.2.2.1 p.2.2.2.2.1 p.2.2.2.2.2.1 p.2.2.2.2.2.2 some) (fun _ => rfl) (fun _ _ => rfl) (fun hD f fs h p => Z64_lim hD (fun x0 x1 x2 x3 x4 x5 x6 => h (x0, x1, x2, x3, x4, x5, x6)) _ _ _ _ _ _ _) (x0, x1, x2, x3, x4, x5, x6)
theorem Z65_lim {ι : Type} {R : ι → ι → Prop} (hD : Dir R) {F : Int → List D → Int → Int → Int → Option (Int × List D × Int × Int)} {Fs : ι → Int → List D → Int → Int → Int → Option (Int × List D × Int × Int)} (h : ∀ x0 x1 x2 x3 x4, Lim R (F x0 x1 x2 x3 x4) (fun i => Fs i x0 x1 x2 x3 x4)) (x0 : Int) (x1 : List D) (x2 : Int) (x3 : Int) (x4 : Int)  : Lim R (c_Z65 F x0 x1 x2 x3 x4 some) (fun i => c_Z65 (Fs i) x0 x1 x2 x3 x4 some) := by
 unfold c_Z65
 repeat' first
  | exact Lim.const hD
  | exact h _ _ _ _ _
  | apply Lim.ite
  | apply Lim.cond
  | apply Lim.bind hD
  | apply Lim.sum
  | intro _
theorem Z65_fx (x0 : Int) (x1 : List D) (x2 : Int) (x3 : Int) (x4 : Int)  : Z65 x0 x1 x2 x3 x4 = c_Z65 Z65 x0 x1 x2 x3 x4 some :=
 fix_eq (N := fun n (p : Int × List D × Int × Int × Int) => n_Z65 n p.1 p.2.1 p.2.2.1 p.2.2.2.1 p.2.2.2.2) (C := fun f p => c_Z65 (fun x0 x1 x2 x3 x4 => f (x0, x1, x2, x3, x4)) p.1 p.2.1 p.2.2.1 p.2.2.2.1 p.2.2.2.2 some) (fun _ => rfl) (fun _ _ => rfl) (fun hD f fs h p => Z65_lim hD (fun x0 x1 x2 x3 x4 => h (x0, x1, x2, x3, x4)) _ _ _ _ _) (x0, x1, x2, x3, x4)
theorem Z66_lim {ι : Type} {R : ι → ι → Prop} (hD : Dir R) {F : Int → List D → Int → Int → Int → List D → Option (Int × Int × List D)} {Fs : ι → Int → List D → Int → Int → Int → List D → Option (Int × Int × List D)} (h : ∀ x0 x1 x2 x3 x4 x5, Lim R (F x0 x1 x2 x3 x4 x5) (fun i => Fs i x0 x1 x2 x3 x4 x5)) (x0 : Int) (x1 : List D) (x2 : Int) (x3 : Int) (x4 : Int) (x5 : List D)  : Lim R (c_Z66 F x0 x1 x2 x3 x4 x5 some) (fun i => c_Z66 (Fs i) x0 x1 x2 x3 x4 x5 some) := by
 unfold c_Z66
 repeat' first
  | exact Lim.const hD
  | exact h _ _ _ _ _ _
  | apply Lim.ite
  | apply Lim.cond
  | apply Lim.bind hD
  | apply Lim.sum
  | intro _
theorem Z66_fx (x0 : Int) (x1 : List D) (x2 : Int) (x3 : Int) (x4 : Int) (x5 : List D)  : Z66 x0 x1 x2 x3 x4 x5 = c_Z66 Z66 x0 x1 x2 x3 x4 x5 some :=
 fix_eq (N := fun n (p : Int × List D × Int × Int × Int × List D) => n_Z66 n p.1 p.2.1 p.2.2.1 p.2.2.2.1 p.2.2.2.2.1 p.2.2.2.2.2) (C := fun f p => c_Z66 (fun x0 x1 x2 x3 x4 x5 => f (x0, x1, x2, x3, x4, x5)) p.1 p.2.1 p.2.2.1 p.2.2.2.1 p.2.2.2.2.1 p.2.2.2.2.2 some) (fun _ => rfl) (fun _ _ => rfl) (fun hD f fs h p => Z66_lim hD (fun x0 x1 x2 x3 x4 x5 => h (x0, x1, x2, x3, x4, x5)) _ _ _ _ _ _) (x0, x1, x2, x3, x4, x5)
theorem Z72_lim {ι : Type} {R : ι → ι → Prop} (hD : Dir R) {F : List D → Bool → Int → List D → Int → Int → List D → Option ((List D × Bool × Bool × List D × Int × Int × List D) ⊕ (List D × Bool × List D × Int × Int × List D))} {Fs : ι → List D → Bool → Int → List D → Int → Int → List D → Option ((List D × Bool × Bool × List D × Int × Int × List D) ⊕ (List D × Bool × List D × Int × Int × List D))} (h : ∀ x0 x1 x2 x3 x4 x5 x6, Lim R (F x0 x1 x2 x3 x4 x5 x6) (fun i => Fs i x0 x1 x2 x3 x4 x5 x6)) (x0 : List D) (x1 : Bool) (x2 : Int) (x3 : List D) (x4 : Int) (x5 : Int) (x6 : List D)  : Lim R (c_Z72 F x0 x1 x2 x3 x4 x5 x6 some) (fun i => c_Z72 (Fs i) x0 x1 x2 x3 x4 x5 x6 some) := by
 unfold c_Z72
 repeat' first
  | exact Lim.const hD
  | exact h _ _ _ _ _ _ _
  | apply Lim.ite
  | apply Lim.cond
  | apply Lim.bind hD
  | apply Lim.sum
  | intro _
theorem Z72_fx (x0 : List D) (x1 : Bool) (x2 : Int) (x3 : List D) (x4 : Int) (x5 : Int) (x6 : List D)  : Z72 x0 x1 x2 x3 x4 x5 x6 = c_Z72 Z72 x0 x1 x2 x3 x4 x5 x6 some :=
 fix_eq (N := fun n (p : List D × Bool × Int × List D × Int × Int × List D) => n_Z72 n p.1 p.2.1 p.2.2.1 p.2.2.2.1 p.2.2.2.2.1 p.2.2.2.2.2.1 p.2.2.2.2.2.2) (C := fun f p => c_Z72 (fun x0 x1 x2 x3 x4 x5 x6 => f (x0, x1, x2, x3, x4, x5, x6)) p.1 p.2.1 p.2.2.1 p.2.2.2.1 p.2.2.2.2.1 p.2.2.2.2.2.1 p.2.2.2.2.2.2 some) (fun _ => rfl) (fun _ _ => rfl) (fun hD f fs h p => Z72_lim hD (fun x0 x1 x2 x3 x4 x5 x6 => h (x0, x1, x2, x3, x4, x5, x6)) _ _ _ _ _ _ _) (x0, x1, x2, x3, x4, x5, x6)
theorem Z74_lim {ι : Type} {R : ι → ι → Prop} (hD : Dir R) {F : Int → Int → Int → List D → Int → Int → Int → List D → Option ((Int × Bool) ⊕ (Unit))} {Fs : ι → Int → Int → Int → List D → Int → Int → Int → List D → Option ((Int × Bool) ⊕ (Unit))} (h : ∀ x0 x1 x2 x3 x4 x5 x6 x7, Lim R (F x0 x1 x2 x3 x4 x5 x6 x7) (fun i => Fs i x0 x1 x2 x3 x4 x5 x6 x7)) (x0 : Int) (x1 : Int) (x2 : Int) (x3 : List D) (x4 : Int) (x5 : Int) (x6 : Int) (x7 : List D)  : Lim R (c_Z74 F x0 x1 x2 x3 x4 x5 x6 x7 some) (fun i => c_Z74 (Fs i) x0 x1 x2 x3 x4 x5 x6 x7 some) := by
 unfold c_Z74
 repeat' first
  | exact Lim.const hD
  | exact h _ _ _ _ _ _ _ _
  | apply Lim.ite
  | apply Lim.cond
  | apply Lim.bind hD
  | apply Lim.sum
  | intro _
theorem Z74_fx (x0 : Int) (x1 : Int) (x2 : Int) (x3 : List D) (x4 : Int) (x5 : Int) (x6 : Int) (x7 : List D)  : Z74 x0 x1 x2 x3 x4 x5 x6 x7 = c_Z74 Z74 x0 x1 x2 x3 x4 x5 x6 x7 some :=
 fix_eq (N := fun n (p : Int × Int × Int × List D × Int × Int × Int × List D) => n_Z74 n p.1 p.2.1 p.2.2.1 p.2.2.2.1 p.2.2.2.2.1 p.2.2.2.2.2.1 p.2.2.2.2.2.2.1 p.2.2.2.2.2.2.2) (C := fun f p => c_Z74 (fun x0 x1 x2 x3 x4 x5 x6 x7 => f (x0, x1, x2, x3, x4, x5, x6, x7)) p.1 p.2.1 p.2.2.1 p.2.2.2.1 p.2.2.2.2.1 p.2.2.2.2.2.1 p.2.2.2.2.2.2.1 p.2.2.2.2.2.2.2 some) (fun _ => rfl) (fun _ _ => rfl) (fun hD f fs h p => Z74_lim hD (fun x0 x1 x2 x3 x4 x5 x6 x7 => h (x0, x1, x2, x3, x4, x5, x6, x7)) _ _ _ _ _ _ _ _) (x0, x1, x2, x3, x4, x5, x6, x7)
theorem Z80_lim {ι : Type} {R : ι → ι → Prop} (hD : Dir R) {F : Int → Int → Int → List D → Int → Int → List D → Int → Int → Int → List D → Int → List D → Option (Int × List D × Int × Int × Int × List D × Int × List D)} {Fs : ι → Int → Int → Int → List D → Int → Int → List D → Int → Int → Int → List D → Int → List D → Option (Int × List D × Int × Int × Int × List D × Int × List D)} (h : ∀ x0 x1 x2 x3 x4 x5 x6 x7 x8 x9 x10 x11 x12, Lim R (F x0 x1 x2 x3 x4 x5 x6 x7 x8 x9 x10 x11 x12) (fun i => Fs i x0 x1 x2 x3 x4 x5 x6 x7 x8 x9 x10 x11 x12)) (x0 : Int) (x1 : Int) (x2 : Int) (x3 : List D) (x4 : Int) (x5 : Int) (x6 : List D) (x7 : Int) (x8 : Int) (x9 : Int) (x10 : List D) (x11 : Int) (x12 : List D)  : Lim R (c_Z80 F x0 x1 x2 x3 x4 x5 x6 x7 x8 x9 x10 x11 x12 some) (fun i => c_Z80 (Fs i) x0 x1 x2 x3 x4 x5 x6 x7 x8 x9 x10 x11 x12 some) := by
 unfold c_Z80
 repeat' first
  | exact Lim.const hD
  | exact h _ _ _ _ _ _ _ _ _ _ _ _ _
  | apply Lim.ite
  | apply Lim.cond
  | apply Lim.bind hD
  | apply Lim.sum
  | intro _
theorem Z80_fx (x0 : Int) (x1 : Int) (x2 : Int) (x3 : List D) (x4 : Int) (x5 : Int) (x6 : List D) (x7 : Int) (x8 : Int) (x9 : Int) (x10 : List D) (x11 : Int) (x12 : List D)  : Z80 x0 x1 x2 x3 x4 x5 x6 x7 x8 x9 x10 x11 x12 = c_Z80 Z80 x0 x1 x2 x3 x4 x5 x6 x7 x8 x9 x10 x11 x12 some :=
 fix_eq (N := fun n (p : Int × Int × Int × List D × Int × Int × List D × Int × Int × Int × List D × Int × List D) => n_Z80 n p.1 p.2.1 p.2.2.1 p.2.2.2.1 p.2.2.2.2.1 p.2.2.2.2.2.1 p.2.2.2.2.2.2.1 p.2.2.2.2.2.2.2.1 p.2.2.2.2.2.2.2.2.1 p.2.2.2.2.2.2.2.2.2.1 p.2.2.2.2.2.2.2.2.2.2.1 p.2.2.2.2.2.2.2.2.2.2.2.1 p.2.2.2.2.2.2.2.2.2.2.2.2) (C := fun f p => c_Z80 (fun x0 x1 x2 x3 x4 x5 x6 x7 x8 x9 x10 x11 x12 => f (x0, x1, x2, x3, x4, x5, x6, x7, x8, x9, x10, x11, x12)) p.1 p.2.1 p.2.2.1 p.2.2.2.1 p.2.2.2.2.1 p.2.2.2.2.2.1 p.2.2.2.2.2.2.1 p.2.2.2.2.2.2.2.1 p.2.2.2.2.2.2.2.2.1 p.2.2.2.2.2.2.2.2.2.1 p.2.2.2.2.2.2.2.2.2.2.1 p.2.2.2.2.2.2.2.2.2.2.2.1 p.2.2.2.2.2.2.2.2.2.2.2.2 some) (fun _ => rfl) (fun _ _ => rfl) (fun hD f fs h p => Z80_lim hD (fun x0 x1 x2 x3 x4 x5 x6 x7 x8 x9 x10 x11 x12 => h (x0, x1, x2, x3, x4, x5, x6, x7, x8, x9, x10, x11, x12)) _ _ _ _ _ _ _ _ _ _ _ _ _) (x0, x1, x2, x3, x4, x5, x6, x7, x8, x9, x10, x11, x12)
theorem Z81_lim {ι : Type} {R : ι → ι → Prop} (hD : Dir R) {F : Int → List D → Int → Int → Int → List D → Int → List D → Option (Int)} {Fs : ι → Int → List D → Int → Int → Int → List D → Int → List D → Option (Int)} (h : ∀ x0 x1 x2 x3 x4 x5 x6 x7, Lim R (F x0 x1 x2 x3 x4 x5 x6 x7) (fun i => Fs i x0 x1 x2 x3 x4 x5 x6 x7)) (x0 : Int) (x1 : List D) (x2 : Int) (x3 : Int) (x4 : Int) (x5 : List D) (x6 : Int) (x7 : List D)  : Lim R (c_Z81 F x0 x1 x2 x3 x4 x5 x6 x7 some) (fun i => c_Z81 (Fs i) x0 x1 x2 x3 x4 x5 x6 x7 some) := by
 unfold c_Z81
 repeat' first
  | exact Lim.const hD
  | exact h _ _ _ _ _ _ _ _
  | apply Lim.ite
  | apply Lim.cond
  | apply Lim.bind hD
  | apply Lim.sum
  | intro _
theorem Z81_fx (x0 : Int) (x1 : List D) (x2 : Int) (x3 : Int) (x4 : Int) (x5 : List D) (x6 : Int) (x7 : List D)  : Z81 x0 x1 x2 x3 x4 x5 x6 x7 = c_Z81 Z81 x0 x1 x2 x3 x4 x5 x6 x7 some :=
 fix_eq (N := fun n (p : Int × List D × Int × Int × Int × List D × Int × List D) => n_Z81 n p.1 p.2.1 p.2.2.1 p.2.2.2.1 p.2.2.2.2.1 p.2.2.2.2.2.1 p.2.2.2.2.2.2.1 p.2.2.2.2.2.2.2) (C := fun f p => c_Z81 (fun x0 x1 x2 x3 x4 x5 x6 x7 => f (x0, x1, x2, x3, x4, x5, x6, x7)) p.1 p.2.1 p.2.2.1 p.2.2.2.1 p.2.2.2.2.1 p.2.2.2.2.2.1 p.2.2.2.2.2.2.1 p.2.2.2.2.2.2.2 some) (fun _ => rfl) (fun _ _ => rfl) (fun hD f fs h p => Z81_lim hD (fun x0 x1 x2 x3 x4 x5 x6 x7 => h (x0, x1, x2, x3, x4, x5, x6, x7)) _ _ _ _ _ _ _ _) (x0, x1, x2, x3, x4, x5, x6, x7)
theorem Z84_lim {ι : Type} {R : ι → ι → Prop} (hD : Dir R) {F : Int → Int → Int → List D → Int → Int → List D → Int → Int → Int → List D → Int → List D → Option (Int × List D × Int × Int × Int × List D × Int × List D)} {Fs : ι → Int → Int → Int → List D → Int → Int → List D → Int → Int → Int → List D → Int → List D → Option (Int × List D × Int × Int × Int × List D × Int × List D)} (h : ∀ x0 x1 x2 x3 x4 x5 x6 x7 x8 x9 x10 x11 x12, Lim R (F x0 x1 x2 x3 x4 x5 x6 x7 x8 x9 x10 x11 x12) (fun i => Fs i x0 x1 x2 x3 x4 x5 x6 x7 x8 x9 x10 x11 x12)) (x0 : Int) (x1 : Int) (x2 : Int) (x3 : List D) (x4 : Int) (x5 : Int) (x6 : List D) (x7 : Int) (x8 : Int) (x9 : Int) (x10 : List D) (x11 : Int) (x12 : List D)  : Lim R (c_Z84 F x0 x1 x2 x3 x4 x5 x6 x7 x8 x9 x10 x11 x12 some) (fun i => c_Z84 (Fs i) x0 x1 x2 x3 x4 x5 x6 x7 x8 x9 x10 x11 x12 some) := by
 unfold c_Z84
 repeat' first
  | exact Lim.const hD
  | exact h _ _ _ _ _ _ _ _ _ _ _ _ _
  | apply Lim.ite
  | apply Lim.cond
  | apply Lim.bind hD
  | apply Lim.sum
  | intro _
theorem Z84_fx (x0 : Int) (x1 : Int) (x2 : Int) (x3 : List D) (x4 : Int) (x5 : Int) (x6 : List D) (x7 : Int) (x8 : Int) (x9 : Int) (x10 : List D) (x11 : Int) (x12 : List D)  : Z84 x0 x1 x2 x3 x4 x5 x6 x7 x8 x9 x10 x11 x12 = c_Z84 Z84 x0 x1 x2 x3 x4 x5 x6 x7 x8 x9 x10 x11 x12 some :=
 fix_eq (N := fun n (p : Int × Int × Int × List D × Int × Int × List D × Int × Int × Int × List D × Int × List D) => n_Z84 n p.1 p.2.1 p.2.2.1 p.2.2.2.1 p.2.2.2.2.1 p.2.2.2.2.2.1 p.2.2.2.2.2.2.1 p.2.2.2.2.2.2.2.1 p.2.2.2.2.2.2.2.2.1 p.2.2.2.2.2.2.2.2.2.1 p.2.2.2.2.2.2.2.2.2.2.1 p.2.2.2.2.2.2.2.2.2.2.2.1 p.2.2.2.2.2.2.2.2.2.2.2.2) (C := fun f p => c_Z84 (fun x0 x1 x2 x3 x4 x5 x6 x7 x8 x9 x10 x11 x12 => f (x0, x1, x2, x3, x4, x5, x6, x7, x8, x9, x10, x11, x12)) p.1 p.2.1 p.2.2.1 p.2.2.2.1 p.2.2.2.2.1 p.2.2.2.2.2.1 p.2.2.2.2.2.2.1 p.2.2.2.2.2.2.2.1 p.2.2.2.2.2.2.2.2.1 p.2.2.2.2.2.2.2.2.2.1 p.2.2.2.2.2.2.2.2.2.2.1 p.2.2.2.2.2.2.2.2.2.2.2.1 p.2.2.2.2.2.2.2.2.2.2.2.2 some) (fun _ => rfl) (fun _ _ => rfl) (fun hD f fs h p => Z84_lim hD (fun x0 x1 x2 x3 x4 x5 x6 x7 x8 x9 x10 x11 x12 => h (x0, x1, x2, x3, x4, x5, x6, x7, x8, x9, x10, x11, x12)) _ _ _ _ _ _ _ _ _ _ _ _ _) (x0, x1, x2, x3, x4, x5, x6, x7, x8, x9, x10, x11, x12)
theorem Z85_lim {ι : Type} {R : ι → ι → Prop} (hD : Dir R) {F : Int → List D → Int → Int → Int → List D → Int → List D → Option (Int)} {Fs : ι → Int → List D → Int → Int → Int → List D → Int → List D → Option (Int)} (h : ∀ x0 x1 x2 x3 x4 x5 x6 x7, Lim R (F x0 x1 x2 x3 x4 x5 x6 x7) (fun i => Fs i x0 x1 x2 x3 x4 x5 x6 x7)) (x0 : Int) (x1 : List D) (x2 : Int) (x3 : Int) (x4 : Int) (x5 : List D) (x6 : Int) (x7 : List D)  : Lim R (c_Z85 F x0 x1 x2 x3 x4 x5 x6 x7 some) (fun i => c_Z85 (Fs i) x0 x1 x2 x3 x4 x5 x6 x7 some) := by
 unfold c_Z85
 repeat' first
  | exact Lim.const hD
  | exact h _ _ _ _ _ _ _ _
  | apply Lim.ite
  | apply Lim.cond
  | apply Lim.bind hD
  | apply Lim.sum
  | intro _
theorem Z85_fx (x0 : Int) (x1 : List D) (x2 : Int) (x3 : Int) (x4 : Int) (x5 : List D) (x6 : Int) (x7 : List D)  : Z85 x0 x1 x2 x3 x4 x5 x6 x7 = c_Z85 Z85 x0 x1 x2 x3 x4 x5 x6 x7 some :=
 fix_eq (N := fun n (p : Int × List D × Int × Int × Int × List D × Int × List D) => n_Z85 n p.1 p.2.1 p.2.2.1 p.2.2.2.1 p.2.2.2.2.1 p.2.2.2.2.2.1 p.2.2.2.2.2.2.1 p.2.2.2.2.2.2.2) (C := fun f p => c_Z85 (fun x0 x1 x2 x3 x4 x5 x6 x7 => f (x0, x1, x2, x3, x4, x5, x6, x7)) p.1 p.2.1 p.2.2.1 p.2.2.2.1 p.2.2.2.2.1 p.2.2.2.2.2.1 p.2.2.2.2.2.2.1 p.2.2.2.2.2.2.2 some) (fun _ => rfl) (fun _ _ => rfl) (fun hD f fs h p => Z85_lim hD (fun x0 x1 x2 x3 x4 x5 x6 x7 => h (x0, x1, x2, x3, x4, x5, x6, x7)) _ _ _ _ _ _ _ _) (x0, x1, x2, x3, x4, x5, x6, x7)
theorem Z88_lim {ι : Type} {R : ι → ι → Prop} (hD : Dir R) {F : Int → Int → Int → Int → Int → List D → Int → List D → Option (Int × Int × Int × Int × List D × Int × List D)} {Fs : ι → Int → Int → Int → Int → Int → List D → Int → List D → Option (Int × Int × Int × Int × List D × Int × List D)} (h : ∀ x0 x1 x2 x3 x4 x5 x6 x7, Lim R (F x0 x1 x2 x3 x4 x5 x6 x7) (fun i => Fs i x0 x1 x2 x3 x4 x5 x6 x7)) (x0 : Int) (x1 : Int) (x2 : Int) (x3 : Int) (x4 : Int) (x5 : List D) (x6 : Int) (x7 : List D)  : Lim R (c_Z88 F x0 x1 x2 x3 x4 x5 x6 x7 some) (fun i => c_Z88 (Fs i) x0 x1 x2 x3 x4 x5 x6 x7 some) := by
 unfold c_Z88
 repeat' first
  | exact Lim.const hD
  | exact h _ _ _ _ _ _ _ _
  | apply Lim.ite
  | apply Lim.cond
  | apply Lim.bind hD
  | apply Lim.sum
  | intro _
theorem Z88_fx (x0 : Int) (x1 : Int) (x2 : Int) (x3 : Int) (x4 : Int) (x5 : List D) (x6 : Int) (x7 : List D)  : Z88 x0 x1 x2 x3 x4 x5 x6 x7 = c_Z88 Z88 x0 x1 x2 x3 x4 x5 x6 x7 some :=
 fix_eq (N := fun n (p : Int × Int × Int × Int × Int × List D × Int × List D) => n_Z88 n p.1 p.2.1 p.2.2.1 p.2.2.2.1 p.2.2.2.2.1 p.2.2.2.2.2.1 p.2.2.2.2.2.2.1 p.2.2.2.2.2.2.2) (C := fun f p => c_Z88 (fun x0 x1 x2 x3 x4 x5 x6 x7 => f (x0, x1, x2, x3, x4, x5, x6, x7)) p.1 p.2.1 p.2.2.1 p.2.2.2.1 p.2.2.2.2.1 p.2.2.2.2.2.1 p.2.2.2.2.2.2.1 p.2.2.2.2.2.2.2 some) (fun _ => rfl) (fun _ _ => rfl) (fun hD f fs h p => Z88_lim hD (fun x0 x1 x2 x3 x4 x5 x6 x7 => h (x0, x1, x2, x3, x4, x5, x6, x7)) _ _ _ _ _ _ _ _) (x0, x1, x2, x3, x4, x5, x6, x7)
theorem Z89_lim {ι : Type} {R : ι → ι → Prop} (hD : Dir R) {F : Int → Int → Int → Int → List D → Int → List D → Option (Int × Int)} {Fs : ι → Int → Int → Int → Int → List D → Int → List D → Option (Int × Int)} (h : ∀ x0 x1 x2 x3 x4 x5 x6, Lim R (F x0 x1 x2 x3 x4 x5 x6) (fun i => Fs i x0 x1 x2 x3 x4 x5 x6)) (x0 : Int) (x1 : Int) (x2 : Int) (x3 : Int) (x4 : List D) (x5 : Int) (x6 : List D)  : Lim R (c_Z89 F x0 x1 x2 x3 x4 x5 x6 some) (fun i => c_Z89 (Fs i) x0 x1 x2 x3 x4 x5 x6 some) := by
 unfold c_Z89
 repeat' first
  | exact Lim.const hD
  | exact h _ _ _ _ _ _ _
  | apply Lim.ite
  | apply Lim.cond
  | apply Lim.bind hD
  | apply Lim.sum
  | intro _
theorem Z89_fx (x0 : Int) (x1 : Int) (x2 : Int) (x3 : Int) (x4 : List D) (x5 : Int) (x6 : List D)  : Z89 x0 x1 x2 x3 x4 x5 x6 = c_Z89 Z89 x0 x1 x2 x3 x4 x5 x6 some :=
 fix_eq (N := fun n (p : Int × Int × Int × Int × List D × Int × List D) => n_Z89 n p.1 p.2.1 p.2.2.1 p.2.2.2.1 p.2.2.2.2.1 p.2.2.2.2.2.1 p.2.2.2.2.2.2) (C := fun f p => c_Z89 (fun x0 x1 x2 x3 x4 x5 x6 => f (x0, x1, x2, x3, x4, x5, x6)) p.1 p.2.1 p.2.2.1 p.2.2.2.1 p.2.2.2.2.1 p.2.2.2.2.2.1 p.2.2.2.2.2.2 some) (fun _ => rfl) (fun _ _ => rfl) (fun hD f fs h p => Z89_lim hD (fun x0 x1 x2 x3 x4 x5 x6 => h (x0, x1, x2, x3, x4, x5, x6)) _ _ _ _ _ _ _) (x0, x1, x2, x3, x4, x5, x6)
theorem Z92_lim {ι : Type} {R : ι → ι → Prop} (hD : Dir R) {F : Int → Int → Int → List D → Int → Int → List D → Int → Int → Int → List D → Int → List D → Option (Int × List D × Int × Int × Int × List D × Int × List D)} {Fs : ι → Int → Int → Int → List D → Int → Int → List D → Int → Int → Int → List D → Int → List D → Option (Int × List D × Int × Int × Int × List D × Int × List D)} (h : ∀ x0 x1 x2 x3 x4 x5 x6 x7 x8 x9 x10 x11 x12, Lim R (F x0 x1 x2 x3 x4 x5 x6 x7 x8 x9 x10 x11 x12) (fun i => Fs i x0 x1 x2 x3 x4 x5 x6 x7 x8 x9 x10 x11 x12)) (x0 : Int) (x1 : Int) (x2 : Int) (x3 : List D) (x4 : Int) (x5 : Int) (x6 : List D) (x7 : Int) (x8 : Int) (x9 : Int) (x10 : List D) (x11 : Int) (x12 : List D)  : Lim R (c_Z92 F x0 x1 x2 x3 x4 x5 x6 x7 x8 x9 x10 x11 x12 some) (fun i => c_Z92 (Fs i) x0 x1 x2 x3 x4 x5 x6 x7 x8 x9 x10 x11 x12 some) := by
 unfold c_Z92
 repeat' first
  | exact Lim.const hD
  | exact h _ _ _ _ _ _ _ _ _ _ _ _ _
  | apply Lim.ite
  | apply Lim.cond
  | apply Lim.bind hD
  | apply Lim.sum
  | intro _
theorem Z92_fx (x0 : Int) (x1 : Int) (x2 : Int) (x3 : List D) (x4 : Int) (x5 : Int) (x6 : List D) (x7 : Int) (x8 : Int) (x9 : Int) (x10 : List D) (x11 : Int) (x12 : List D)  : Z92 x0 x1 x2 x3 x4 x5 x6 x7 x8 x9 x10 x11 x12 = c_Z92 Z92 x0 x1 x2 x3 x4 x5 x6 x7 x8 x9 x10 x11 x12 some :=
 fix_eq (N := fun n (p : Int × Int × Int × List D × Int × Int × List D × Int × Int × Int × List D × Int × List D) => n_Z92 n p.1 p.2.1 p.2.2.1 p.2.2.2.1 p.2.2.2.2.1 p.2.2.2.2.2.1 p.2.2.2.2.2.2.1 p.2.2.2.2.2.2.2.1 p.2.2.2.2.2.2.2.2.1 p.2.2.2.2.2.2.2.2.2.1 p.2.2.2.2.2.2.2.2.2.2.1 p.2.2.2.2.2.2.2.2.2.2.2.1 p.2.2.2.2.2.2.2.2.2.2.2.2) (C := fun f p => c_Z92 (fun x0 x1 x2 x3 x4 x5 x6 x7 x8 x9 x10 x11 x12 => f (x0, x1, x2, x3, x4, x5, x6, x7, x8, x9, x10, x11, x12)) p.1 p.2.1 p.2.2.1 p.2.2.2.1 p.2.2.2.2.1 p.2.2.2.2.2.1 p.2.2.2.2.2.2.1 p.2.2.2.2.2.2.2.1 p.2.2.2.2.2.2.2.2.1 p.2.2.2.2.2.2.2.2.2.1 p.2.2.2.2.2.2.2.2.2.2.1 p.2.2.2.2.2.2.2.2.2.2.2.1 p.2.2.2.2.2.2.2.2.2.2.2.2 some) (fun _ => rfl) (fun _ _ => rfl) (fun hD f fs h p => Z92_lim hD (fun x0 x1 x2 x3 x4 x5 x6 x7 x8 x9 x10 x11 x12 => h (x0, x1, x2, x3, x4, x5, x6, x7, x8, x9, x10, x11, x12)) _ _ _ _ _ _ _ _ _ _ _ _ _) (x0, x1, x2, x3, x4, x5, x6, x7, x8, x9, x10, x11, x12)
theorem Z93_lim {ι : Type} {R : ι → ι → Prop} (hD : Dir R) {F : Int → List D → Int → Int → Int → List D → Int → List D → Option (Int)} {Fs : ι → Int → List D → Int → Int → Int → List D → Int → List D → Option (Int)} (h : ∀ x0 x1 x2 x3 x4 x5 x6 x7, Lim R (F x0 x1 x2 x3 x4 x5 x6 x7) (fun i => Fs i x0 x1 x2 x3 x4 x5 x6 x7)) (x0 : Int) (x1 : List D) (x2 : Int) (x3 : Int) (x4 : Int) (x5 : List D) (x6 : Int) (x7 : List D)  : Lim R (c_Z93 F x0 x1 x2 x3 x4 x5 x6 x7 some) (fun i => c_Z93 (Fs i) x0 x1 x2 x3 x4 x5 x6 x7 some) := by
 unfold c_Z93
 repeat' first
  | exact Lim.const hD
  | exact h _ _ _ _ _ _ _ _
  | apply Lim.ite
  | apply Lim.cond
  | apply Lim.bind hD
  | apply Lim.sum
  | intro _
theorem Z93_fx (x0 : Int) (x1 : List D) (x2 : Int) (x3 : Int) (x4 : Int) (x5 : List D) (x6 : Int) (x7 : List D)  : Z93 x0 x1 x2 x3 x4 x5 x6 x7 = c_Z93 Z93 x0 x1 x2 x3 x4 x5 x6 x7 some :=
 fix_eq (N := fun n (p : Int × List D × Int × Int × Int × List D × Int × List D) => n_Z93 n p.1 p.2.1 p.2.2.1 p.2.2.2.1 p.2.2.2.2.1 p.2.2.2.2.2.1 p.2.2.2.2.2.2.1 p.2.2.2.2.2.2.2) (C := fun f p => c_Z93 (fun x0 x1 x2 x3 x4 x5 x6 x7 => f (x0, x1, x2, x3, x4, x5, x6, x7)) p.1 p.2.1 p.2.2.1 p.2.2.2.1 p.2.2.2.2.1 p.2.2.2.2.2.1 p.2.2.2.2.2.2.1 p.2.2.2.2.2.2.2 some) (fun _ => rfl) (fun _ _ => rfl) (fun hD f fs h p => Z93_lim hD (fun x0 x1 x2 x3 x4 x5 x6 x7 => h (x0, x1, x2, x3, x4, x5, x6, x7)) _ _ _ _ _ _ _ _) (x0, x1, x2, x3, x4, x5, x6, x7)
theorem l1In_eq (x a b : Int) : Z12 x a b = some (btw x a b) := by
 unfold Z12 c_Z12 btw
 by_cases h : a ≤ x <;> simp [h]
theorem within_eq (x a b : Int) : Z22 x a b = some (btw x a b) := by
 unfold Z22 c_Z22 btw
 by_cases h : a ≤ x <;> simp [h]
def Tt {ι β : Type} (I : ι → Prop) (P : β → Prop) (e : ι → Option β) : Prop := ∃ y, P y ∧ ∀ i, I i → e i = some y
theorem Tt.pure {ι β : Type} {I : ι → Prop} {P : β → Prop} {y : β} (h : P y) : Tt I P (fun _ => some y) := ⟨y, h, fun _ _ => rfl⟩
theorem Tt.bind {ι α β : Type} {I : ι → Prop} {Q : α → Prop} {P : β → Prop} {t : ι → Option α} {f : α → ι → Option β} (h : Tt I Q t) (k : ∀ v, Q v → Tt I P (fun i => f v i)) :
  Tt I P (fun i => (t i).bind (fun v => f v i)) := by
 obtain ⟨v, hv, ht⟩ := h
 obtain ⟨y, hy, hk⟩ := k v hv
 exact ⟨y, hy, fun i hi => by show (t i).bind _ = _; rw [ht i hi]; exact hk i hi⟩
theorem Tt.ite {ι β : Type} {I : ι → Prop} {P : β → Prop} {c : Prop} [Decidable c] {x y : ι → Option β} (h : c) (k : Tt I P x) : Tt I P (fun i => if c then x i else y i) := by
 simpa only [if_pos h] using k
theorem Tt.cnd {ι β : Type} {I : ι → Prop} {P : β → Prop} {b : Bool} {x y : ι → Option β} (h1 : b = true → Tt I P x) (h2 : b = false → Tt I P y) : Tt I P (fun i => bif b then x i else y i) := by
 cases b with
 | true => exact h1 rfl
 | false => exact h2 rfl
theorem Tt.dec {ι β : Type} {I : ι → Prop} {P : β → Prop} {p : Prop} [Decidable p] {x y : ι → Option β} (h1 : p → Tt I P x) (h2 : ¬ p → Tt I P y) : Tt I P (fun i => bif decide p then x i else y i) :=
 Tt.cnd (fun h => h1 (of_decide_eq_true h)) (fun h => h2 (of_decide_eq_false h))
theorem Tt.ndec {ι β : Type} {I : ι → Prop} {P : β → Prop} {p : Prop} [Decidable p] {x y : ι → Option β} (h1 : ¬ p → Tt I P x) (h2 : p → Tt I P y) : Tt I P (fun i => bif !decide p then x i else y i) := by
 by_cases h : p
 ·simpa only [decide_eq_true h, Bool.not_true, cond_false] using h2 h
 ·simpa only [decide_eq_false h, Bool.not_false, cond_true] using h1 h
theorem Tt.con {ι β : Type} {I : ι → Prop} {Q : β → Prop} {t : Option β} (h : ∃ y, t = some y ∧ Q y) : Tt I Q (fun _ => t) := by
 obtain ⟨y, h1, h2⟩ := h
 exact ⟨y, h2, fun _ _ => h1⟩
theorem Tt.mono {ι β : Type} {I J : ι → Prop} {P Q : β → Prop} {e : ι → Option β} (h : Tt I P e) (hI : ∀ i, J i → I i) (hP : ∀ y, P y → Q y) : Tt J Q e := by
 obtain ⟨y, h1, h2⟩ := h
 exact ⟨y, hP y h1, fun i hi => h2 i (hI i hi)⟩
theorem Tt.out {β : Type} {P : β → Prop} {t : Option β} (h : Tt (fun _ : Unit => True) P (fun _ => t)) : ∃ y, t = some y ∧ P y := by
 obtain ⟨y, h1, h2⟩ := h
 exact ⟨y, h2 () trivial, h1⟩
theorem Tt.loop {X Y : Type} (N : Nat → X → Option Y) (Inv : X → Prop) (μ : X → Nat) (Post : X → Y → Prop)
  (step : ∀ x, Inv x → (∀ x', Inv x' → μ x' < μ x → Tt (fun m => μ x ≤ m) (Post x') (fun m => N m x')) → Tt (fun m => μ x ≤ m) (Post x) (fun m => N (m + 1) x)) :
  ∀ x, Inv x → ∃ y, ev (fun n => N n x) = some y ∧ Post x y := by
 have key : ∀ k x, Inv x → μ x ≤ k → Tt (fun m => μ x < m) (Post x) (fun m => N m x) := by
  intro k
  induction k with
  | zero =>
   intro x hi hk
   obtain ⟨y, h1, h2⟩ := step x hi (fun x' _ h => absurd h (by omega))
   refine ⟨y, h1, fun m hm => ?_⟩
   obtain ⟨m, rfl⟩ : ∃ m', m = m' + 1 := ⟨m - 1, by omega⟩
   exact h2 m (by omega)
  | succ k ih =>
   intro x hi hk
   obtain ⟨y, h1, h2⟩ := step x hi (fun x' hx' h => (ih x' hx' (by omega)).mono (fun m hm => by omega) (fun _ h => h))
   refine ⟨y, h1, fun m hm => ?_⟩
   obtain ⟨m, rfl⟩ : ∃ m', m = m' + 1 := ⟨m - 1, by omega⟩
   exact h2 m (by omega)
 intro x hi
 obtain ⟨y, h1, h2⟩ := key (μ x) x hi (Nat.le_refl _)
 exact ⟨y, ev_eq (μ x + 1) (fun m hm => h2 m (by omega)), h1⟩
theorem wq (n : Int) : IntKind.i64.wrap n = (n + 9223372036854775808) % 18446744073709551616 - 9223372036854775808 := by
 unfold IntKind.wrap
 simp [IntKind.signed, IntKind.bits]
 omega
def okC (c : List D) : Prop := c.length ≤ 65536 ∧ ∀ d ∈ c, 0 ≤ d.toInt ∧ d.toInt ≤ 255
theorem uwrap (n : Int) : IntKind.u64.wrap n = n % 18446744073709551616 := by
 unfold IntKind.wrap
 simp [IntKind.signed, IntKind.bits]
theorem and255 (r : Int) : 0 ≤ IntKind.i64.wrap (IntKind.u64.wrap (((BitVec.ofInt IntKind.u64.bits r &&& BitVec.ofInt IntKind.u64.bits 255).toNat : Nat) : Int)) ∧ IntKind.i64.wrap (IntKind.u64.wrap (((BitVec.ofInt IntKind.u64.bits r &&& BitVec.ofInt IntKind.u64.bits 255).toNat : Nat) : Int)) ≤ 255 := by
 have h2 : (BitVec.ofInt IntKind.u64.bits r &&& BitVec.ofInt IntKind.u64.bits 255).toNat ≤ (BitVec.ofInt IntKind.u64.bits 255).toNat := by
  rw [BitVec.toNat_and]; exact Nat.and_le_right
 have h3 : (BitVec.ofInt IntKind.u64.bits 255).toNat = 255 := by decide
 rw [h3] at h2
 rw [uwrap, wq]
 omega
theorem next_tot (c : List D) (h : okC c) (p s : Int) (hp : 0 ≤ p ∧ p ≤ 1099511627776) : ∃ y, Z1 c p s = some y ∧ (0 ≤ y.1 ∧ y.1 ≤ 255 ∧ y.2.1 = c ∧ y.2.2.1 = p + 1) := by
 have hw : IntKind.i64.wrap (p + 1) = p + 1 := wrap_id (by omega) (by omega)
 have a1 := fun r => and255 r
 refine Tt.out ?_
 unfold Z1 c_Z1
 rw [hw]
 by_cases hpl : p < (c.length : Int)
 ·rw [decide_eq_true hpl, cond_true]
  have hd := h.2 _ (getD_mem (show p.toNat < c.length by omega))
  have hv : IntKind.i64.wrap (c.getD p.toNat (D.int 0)).toInt = (c.getD p.toNat (D.int 0)).toInt := wrap_id (by omega) (by omega)
  refine Tt.ite (by omega) ?_
  refine Tt.dec (fun _ => ?_) (fun hn => absurd (show p + 1 ≤ (c.length : Int) by omega) hn)
  refine Tt.pure ?_
  exact ⟨by rw [hv]; exact hd.1, by rw [hv]; exact hd.2, rfl, rfl⟩
 ·rw [decide_eq_false hpl, cond_false]
  refine Tt.dec (fun hn => by exfalso; omega) (fun _ => ?_)
  refine Tt.ite (by decide) ?_
  refine Tt.pure ?_
  exact ⟨(a1 _).1, (a1 _).2, rfl, rfl⟩
attribute [local irreducible] Z1
theorem pick_tot (c : List D) (h : okC c) (p s n : Int) (hp : 0 ≤ p ∧ p ≤ 1099511627770) (hn : n ≤ 65536) : ∃ y, Z2 c p s n = some y ∧ (0 ≤ y.1 ∧ (y.1 < n ∨ y.1 = 0) ∧ y.2.1 = c ∧ p ≤ y.2.2.1 ∧ y.2.2.1 ≤ p + 2) := by
 refine Tt.out ?_
 unfold Z2 c_Z2
 refine Tt.dec (fun _ => ?_) (fun hn1 => ?_)
 ·refine Tt.pure ?_
  exact ⟨by simp, .inr rfl, rfl, by simp, by simp only; omega⟩
 ·refine Tt.bind (Tt.con (next_tot c h p s (by omega))) (fun v hv => ?_)
  obtain ⟨v1, v2, v3, v4⟩ := hv
  rw [v3, v4]
  refine Tt.dec (fun _ => ?_) (fun _ => ?_)
  ·refine Tt.bind (Tt.con (next_tot c h (p + 1) _ (by omega))) (fun w hw => ?_)
   obtain ⟨w1, w2, w3, w4⟩ := hw
   refine Tt.ite (by omega) ?_
   have hq : IntKind.i64.wrap (IntKind.i64.wrap (v.1 * 256) + w.1) = v.1 * 256 + w.1 := by
    rw [wrap_id (n := v.1 * 256) (by omega) (by omega), wrap_id (by omega) (by omega)]
   have hm : (v.1 * 256 + w.1).tmod n = (v.1 * 256 + w.1) % n := Int.tmod_eq_emod_of_nonneg (by omega)
   have m1 := Int.emod_nonneg (v.1 * 256 + w.1) (show n ≠ 0 by omega)
   have m2 := Int.emod_lt_of_pos (v.1 * 256 + w.1) (show 0 < n by omega)
   refine Tt.pure ?_
   exact ⟨by simp only; rw [hq, hm]; exact m1, .inl (by simp only; rw [hq, hm]; exact m2), w3, by simp only; omega, by simp only; omega⟩
  ·refine Tt.ite (by omega) ?_
   have hm : v.1.tmod n = v.1 % n := Int.tmod_eq_emod_of_nonneg v1
   have m1 := Int.emod_nonneg v.1 (show n ≠ 0 by omega)
   have m2 := Int.emod_lt_of_pos v.1 (show 0 < n by omega)
   refine Tt.pure ?_
   exact ⟨by simp only; rw [hm]; exact m1, .inl (by simp only; rw [hm]; exact m2), rfl, by simp only; omega, by simp only; omega⟩
attribute [local irreducible] Z2
theorem among_tot (c : List D) (h : okC c) (p s : Int) (l : List D) (hp : 0 ≤ p ∧ p ≤ 1099511627770) (hl : 1 ≤ l.length ∧ l.length ≤ 65536) : ∃ y, Z3 c p s l = some y ∧ ((∃ d ∈ l, y.1 = d.toInt) ∧ y.2.1 = c ∧ p ≤ y.2.2.1 ∧ y.2.2.1 ≤ p + 2) := by
 refine Tt.out ?_
 unfold Z3 c_Z3
 refine Tt.bind (Tt.con (pick_tot c h p s _ hp (by omega))) (fun v hv => ?_)
 refine Tt.ite (by omega) ?_
 refine Tt.ite (by omega) ?_
 refine Tt.pure ?_
 exact ⟨⟨_, getD_mem (show v.1.toNat < l.length by omega), rfl⟩, hv.2.2.1, hv.2.2.2.1, hv.2.2.2.2⟩
attribute [local irreducible] Z3
theorem okB {d : D} (h : wfD (.int .u8) d) : 0 ≤ d.toInt ∧ d.toInt ≤ 255 := by
 obtain ⟨n, rfl, h2⟩ := h
 simp [Lit.wf, IntKind.min, IntKind.max, IntKind.signed, IntKind.bits] at h2
 simp only [toInt_int]; omega
theorem pick_tot' (c : List D) (h : okC c) (p s n : Int) (hp : 0 ≤ p ∧ p ≤ 1099511627770) (hn : n ≤ 65536) : ∃ y, Z2 c p s n = some y ∧ ((0 ≤ y.1 ∧ (y.1 < n ∨ y.1 = 0)) ∧ y.2.1 = c ∧ p ≤ y.2.2.1 ∧ y.2.2.1 ≤ p + 2) := by
 obtain ⟨y, h1, h2, h3, h4⟩ := pick_tot c h p s n hp hn
 exact ⟨y, h1, ⟨h2, h3⟩, h4⟩
def iw (l : List D) : List Int := l.map D.toInt
theorem iw_len (l : List D) : (iw l).length = l.length := by simp [iw]
theorem iw_get (l : List D) (i : Nat) : (l.getD i (.int 0)).toInt = (iw l).getD i 0 := by
 simp only [iw, List.getD_eq_getElem?_getD, List.getElem?_map]
 cases l[i]? <;> rfl
theorem iw_mem {l : List D} {x : Int} (h : x ∈ iw l) : ∃ d ∈ l, d.toInt = x := by simpa [iw] using h
def bdL (B : Int) (l : List D) : Prop := (∀ d ∈ l, 0 ≤ d.toInt ∧ d.toInt ≤ B) ∧ (l.length : Int) * B ≤ 1000000000000000000
def pf (l : List D) (i : Nat) : Int := ((iw l).take i).sum
theorem pf_zero (l : List D) : pf l 0 = 0 := by simp [pf]
theorem pf_succ {l : List D} {i : Nat} (h : i < l.length) : pf l (i + 1) = pf l i + (l.getD i (.int 0)).toInt := by
 unfold pf
 have h' : i < (iw l).length := by rw [iw_len]; exact h
 rw [List.take_succ_eq_append_getElem h', List.sum_append, iw_get, List.getD_eq_getElem?_getD, List.getElem?_eq_getElem h']
 simp
theorem pf_all (l : List D) : pf l l.length = (iw l).sum := by
 unfold pf
 rw [List.take_of_length_le (by rw [iw_len]; exact Nat.le_refl _)]
theorem pf_bd {B : Int} {l : List D} (h : bdL B l) (hB : 0 ≤ B) : ∀ i, i ≤ l.length → 0 ≤ pf l i ∧ pf l i ≤ (i : Int) * B
 | 0, _ => by rw [pf_zero]; simp
 | i + 1, hi => by
  have ih := pf_bd h hB i (by omega)
  have hm := h.1 _ (getD_mem (show i < l.length by omega))
  rw [pf_succ (by omega)]
  have : ((i + 1 : Nat) : Int) * B = (i : Int) * B + B := by rw [Int.natCast_add, Int.add_mul]; simp
  omega
theorem pf_mono {B : Int} {l : List D} (h : bdL B l) : ∀ {i j : Nat}, i ≤ j → j ≤ l.length → pf l i ≤ pf l j := by
 intro i j hij
 induction j with
 | zero => intro _; rw [show i = 0 by omega]; exact Int.le_refl _
 | succ j ih =>
  intro hj
  by_cases he : i = j + 1
  ·subst he; exact Int.le_refl _
  ·have := ih (by omega) (by omega)
   have hm := h.1 _ (getD_mem (show j < l.length by omega))
   rw [pf_succ (by omega)]
   omega
theorem mulN {n B : Int} {i : Nat} (hi : (i : Int) ≤ n) (hB : 0 ≤ B) (h : n * B ≤ 1000000000000000000) : (i : Int) * B ≤ 1000000000000000000 := by
 have := Int.mul_le_mul_of_nonneg_right hi hB
 omega
theorem sumI_eq {B : Int} {l : List D} (h : bdL B l) (hB : 0 ≤ B) (hl : l.length ≤ 1048576) : Z35 l = some (pf l l.length) := by
 have key : ∀ (k i : Nat), i + k = l.length → Z34 (pf l i) l l.length i = some (pf l l.length) := by
  intro k
  induction k with
  | zero =>
   intro i hi
   rw [Z34_fx]
   unfold c_Z34
   rw [decide_eq_false (by omega), cond_false, show i = l.length by omega]
  | succ k ih =>
   intro i hi
   have hb := pf_bd h hB (i + 1) (by omega)
   have hn := mulN (i := i + 1) (by omega) hB h.2
   have e := pf_succ (l := l) (i := i) (by omega)
   rw [Z34_fx]
   unfold c_Z34
   rw [decide_eq_true (by omega), cond_true, if_pos (by omega), Int.toNat_natCast, ← e, wrap_id (by omega) (by omega), succ_wrap (by omega), ih (i + 1) (by omega)]
   rfl
 have := key l.length 0 (by omega)
 rw [pf_zero, show ((0 : Nat) : Int) = 0 from rfl] at this
 simp only [Z35, c_Z35, this, Option.bind_some]
theorem gcdS_eq : ∀ (b a : Nat), Z8 (a : Int) (b : Int) = some ((Nat.gcd a b : Nat) : Int) := by
 intro b
 induction b using Nat.strongRecOn with
 | _ b ih =>
  intro a
  rw [Z8_fx]
  unfold c_Z8
  by_cases h : b = 0
  ·subst h
   simp
  ·have h1 : ¬ (b : Int) = 0 := by omega
   rw [decide_eq_false h1, Bool.not_false, cond_true, if_pos h1, tmod_nat, ih (a % b) (Nat.mod_lt _ (by omega)) b]
   simp only [Option.bind_some]
   rw [Nat.gcd_comm a b, Nat.gcd_rec b a, Nat.gcd_comm (a % b) b]
theorem gcdI_eq : ∀ (b a : Nat), Z29 (a : Int) (b : Int) = some ((Nat.gcd a b : Nat) : Int) := by
 intro b
 induction b using Nat.strongRecOn with
 | _ b ih =>
  intro a
  rw [Z29_fx]
  unfold c_Z29
  by_cases h : b = 0
  ·subst h
   simp
  ·have h1 : ¬ (b : Int) = 0 := by omega
   rw [decide_eq_false h1, Bool.not_false, cond_true, if_pos h1, tmod_nat, ih (a % b) (Nat.mod_lt _ (by omega)) b]
   simp only [Option.bind_some]
   rw [Nat.gcd_comm a b, Nat.gcd_rec b a, Nat.gcd_comm (a % b) b]
theorem gS (a b : Nat) : Z9 (a : Int) (b : Int) = some ((Nat.gcd a b : Nat) : Int) := by
 simp only [Z9, c_Z9, gcdS_eq, Option.bind_some]
theorem gI (a b : Nat) : Z30 (a : Int) (b : Int) = some ((Nat.gcd a b : Nat) : Int) := by
 simp only [Z30, c_Z30, gcdI_eq, Option.bind_some]
def wt (l : List D) (i : Nat) : Nat := (l.getD i (.int 0)).toInt.toNat
def gp (l : List D) : Nat → Nat
 | 0 => 0
 | i + 1 => Nat.gcd (gp l i) (wt l i)
theorem wt_int {l : List D} {i : Nat} (h : ∀ d ∈ l, 0 ≤ d.toInt) (hi : i < l.length) : (l.getD i (.int 0)).toInt = ((wt l i : Nat) : Int) := by
 have := h _ (getD_mem hi)
 unfold wt
 omega
theorem divI_eq {l : List D} (h : ∀ d ∈ l, 0 ≤ d.toInt) (hl : l.length ≤ 1048576) : Z32 l = some ((gp l l.length : Nat) : Int) := by
 have key : ∀ (k i : Nat), i + k = l.length → Z31 ((gp l i : Nat) : Int) l l.length i = some ((gp l l.length : Nat) : Int) := by
  intro k
  induction k with
  | zero =>
   intro i hi
   rw [Z31_fx]
   unfold c_Z31
   rw [decide_eq_false (by omega), cond_false, show i = l.length by omega]
  | succ k ih =>
   intro i hi
   rw [Z31_fx]
   unfold c_Z31
   rw [decide_eq_true (by omega), cond_true, if_pos (by omega), Int.toNat_natCast, wt_int h (by omega), gI, succ_wrap (by omega)]
   simp only [Option.bind_some]
   rw [show Nat.gcd (gp l i) (wt l i) = gp l (i + 1) from rfl, ih (i + 1) (by omega)]
   rfl
 have := key l.length 0 (by omega)
 rw [show ((gp l 0 : Nat) : Int) = 0 from rfl, show ((0 : Nat) : Int) = 0 from rfl] at this
 simp only [Z32, c_Z32, this, Option.bind_some]
def badW (l : List D) (i : Nat) : Bool := !btw (l.getD i (.int 0)).toInt 0 1000000
def okW (l : List D) : Bool := (firstN (badW l) l.length).isNone
theorem okW_iff {l : List D} : okW l = true ↔ ∀ d ∈ l, 0 ≤ d.toInt ∧ d.toInt ≤ 1000000 := by
 unfold okW
 constructor
 ·intro h d hd
  obtain ⟨i, hi, rfl⟩ := List.mem_iff_getElem.1 hd
  have hn : firstN (badW l) l.length = none := by cases hq : firstN (badW l) l.length with | none => rfl | some _ => rw [hq] at h; cases h
  have := firstN_none hn i hi
  unfold badW at this
  rw [Bool.not_eq_false', btw_iff, List.getD_eq_getElem?_getD, List.getElem?_eq_getElem hi] at this
  exact this
 ·intro h
  cases hf : firstN (badW l) l.length with
  | none => rfl
  | some i =>
   obtain ⟨h1, h2, _⟩ := firstN_some hf
   have := h _ (getD_mem h1)
   unfold badW at h2
   rw [Bool.not_eq_true', ← Bool.not_eq_true, btw_iff] at h2
   exact absurd this h2
theorem good6 {l : List D} (hl : l.length ≤ 60) (f : Int) : Z13 l.length 0 0 f l = some (bif okW l then .inr ((gp l l.length : Nat) : Int) else .inl (false, (Z13 l.length 0 0 f l).elim 0 (Sum.elim (·.2) (fun _ => 0)))) := by
 have key : ∀ (k i : Nat), i + k = l.length → (∀ j, j < i → badW l j = false) → ∃ y, Z13 l.length ((gp l i : Nat) : Int) i f l = some y ∧ (okW l = true → y = .inr ((gp l l.length : Nat) : Int)) ∧ (okW l = false → ∃ z, y = .inl (false, z)) := by
  intro k
  induction k with
  | zero =>
   intro i hi hp
   rw [Z13_fx]
   unfold c_Z13
   rw [decide_eq_false (by omega), cond_false]
   refine ⟨_, rfl, fun _ => by rw [show i = l.length by omega], fun h => ?_⟩
   exfalso
   unfold okW at h
   cases hf : firstN (badW l) l.length with
   | none => rw [hf] at h; cases h
   | some j =>
    obtain ⟨h1, h2, _⟩ := firstN_some hf
    rw [hp j (by omega)] at h2; cases h2
  | succ k ih =>
   intro i hi hp
   rw [Z13_fx]
   unfold c_Z13
   rw [decide_eq_true (by omega), cond_true, if_pos (by omega), if_pos (by omega), Int.toNat_natCast, l1In_eq]
   simp only [Option.bind_some]
   cases hb : btw (l.getD i (.int 0)).toInt 0 1000000 with
   | false =>
    refine ⟨_, rfl, fun h => ?_, fun _ => ⟨_, rfl⟩⟩
    exfalso
    have := okW_iff.1 h _ (getD_mem (show i < l.length by omega))
    rw [← btw_iff, hb] at this; cases this
   | true =>
    have hbb := btw_iff.1 hb
    have hw : (l.getD i (.int 0)).toInt = ((wt l i : Nat) : Int) := by unfold wt; omega
    rw [hw, gS, succ_wrap (by omega)]
    simp only [Bool.not_true, cond_false, Option.bind_some, Option.bind_fun_some]
    exact ih (i + 1) (by omega) (fun j hj => by
     by_cases hji : j = i
     ·subst hji; unfold badW; rw [hb]; rfl
     ·exact hp j (by omega))
 obtain ⟨y, y1, y2, y3⟩ := key l.length 0 (by omega) (fun j hj => by omega)
 rw [show ((gp l 0 : Nat) : Int) = 0 from rfl, show ((0 : Nat) : Int) = 0 from rfl] at y1
 cases ho : okW l with
 | true => rw [y1, y2 ho]; rfl
 | false =>
  obtain ⟨z, rfl⟩ := y3 ho
  rw [y1]; rfl
theorem contW {l : List D} (hl : l.length ≤ 60) : Z28 l = some (!okW l) := by
 have : Z26 l l.length 0 = some (match firstN (badW l) l.length with | some i => .inl (i : Int) | none => .inr ()) := by
  refine scan_loop (N := fun m i => n_Z26 m l l.length i) _ (fun i => .inl (i : Int)) (fun m i hi => ?_) (fun m => ?_)
  ·show c_Z26 (n_Z26 m) l l.length i some = _
   unfold c_Z26
   rw [decide_eq_true (by omega), cond_true, if_pos (by omega), Int.toNat_natCast, wrap_id (by omega) (by omega)]
   simp only [Z25, c_Z25, within_eq, Option.bind_some, Option.bind_fun_some]
   rfl
  ·show c_Z26 (n_Z26 m) l l.length l.length some = _
   unfold c_Z26
   rw [decide_eq_false (by omega)]; rfl
 simp only [Z28, c_Z28, Z27, c_Z27, this, Option.bind_some]
 unfold okW
 cases firstN (badW l) l.length <;> simp
structure GoodD (f : Int) (l : List D) : Prop where
 n1 : 1 ≤ l.length
 n60 : l.length ≤ 60
 f1 : -20000 ≤ f
 f2 : f + l.length ≤ 2101
 ok : ∀ d ∈ l, 0 ≤ d.toInt ∧ d.toInt ≤ 1000000
 w0 : 0 < (l.getD 0 (.int 0)).toInt
 wn : 0 < (l.getD (l.length - 1) (.int 0)).toInt
 g : gp l l.length = 1
def goodB (f : Int) (l : List D) : Bool :=
 btw l.length 1 60 && (btw f (-20000) (2101 - l.length) && (decide (0 < (l.getD 0 (.int 0)).toInt) && (decide (0 < (l.getD (l.length - 1) (.int 0)).toInt) && (okW l && decide (gp l l.length = 1)))))
theorem goodB_iff {f : Int} {l : List D} : goodB f l = true ↔ GoodD f l := by
 unfold goodB
 simp only [Bool.and_eq_true, btw_iff, decide_eq_true_eq, okW_iff]
 constructor
 ·rintro ⟨⟨h1, h2⟩, ⟨h3, h4⟩, h5, h6, h7, h8⟩
  exact ⟨by omega, by omega, h3, by omega, h7, h5, h6, h8⟩
 ·rintro ⟨h1, h2, h3, h4, h5, h6, h7, h8⟩
  exact ⟨⟨by omega, by omega⟩, ⟨h3, by omega⟩, h6, h7, h5, h8⟩
theorem goodS (f : Int) (l : List D) (hl : l.length ≤ 1048576) : Z14 f l = some (goodB f l) := by
 simp only [Z14, c_Z14, l1In_eq, Option.bind_some]
 unfold goodB
 cases hb : btw (l.length : Int) 1 60 with
 | false => simp
 | true =>
  have hbb := btw_iff.1 hb
  have hw : IntKind.i64.wrap (IntKind.i64.wrap (2100 - (l.length : Int)) + 1) = 2101 - l.length := by
   rw [wrap_id (n := 2100 - (l.length : Int)) (by omega) (by omega), wrap_id (by omega) (by omega)]; omega
  rw [hw, pred_wrap (by omega) (by omega)]
  simp only [Bool.not_true, cond_false, Bool.true_and]
  cases hf : btw f (-20000) (2101 - (l.length : Int)) with
  | false => simp
  | true =>
   simp only [Bool.not_true, cond_false, Bool.true_and, Int.toNat_zero, Int.toNat_natCast]
   rw [if_pos (by omega), if_pos (by omega)]
   by_cases h0 : 0 < (l.getD 0 (.int 0)).toInt
   ·rw [decide_eq_false (show ¬ (l.getD 0 (D.int 0)).toInt ≤ 0 by omega), cond_false, decide_eq_true h0, Bool.true_and]
    by_cases hn : 0 < (l.getD (l.length - 1) (.int 0)).toInt
    ·rw [decide_eq_false (show ¬ (l.getD (l.length - 1) (D.int 0)).toInt ≤ 0 by omega), cond_false, decide_eq_true hn, Bool.true_and, good6 (by omega)]
     cases okW l with
     | false => rfl
     | true =>
      simp only [cond_true, Option.bind_some, Sum.elim_inr, Bool.true_and, Option.some.injEq]
      by_cases hg : gp l l.length = 1
      ·rw [hg]; rfl
      ·rw [decide_eq_false hg, decide_eq_false (by omega)]
    ·rw [decide_eq_true (show (l.getD (l.length - 1) (D.int 0)).toInt ≤ 0 by omega), cond_true, decide_eq_false hn]; rfl
   ·rw [decide_eq_true (show (l.getD 0 (D.int 0)).toInt ≤ 0 by omega), cond_true, decide_eq_false h0]; rfl
theorem goodI (f : Int) (l : List D) (hl : l.length ≤ 1048576) : Z33 f l = some (goodB f l) := by
 simp only [Z33, c_Z33, Z23, c_Z23, Z24, c_Z24, within_eq, Option.bind_some]
 unfold goodB
 cases hb : btw (l.length : Int) 1 60 with
 | false =>
  by_cases h1 : (l.length : Int) < 1
  ·simp [h1]
  ·have h2 : (60 : Int) < l.length := by
    have : ¬ (1 ≤ (l.length : Int) ∧ (l.length : Int) ≤ 60) := by rw [← btw_iff, hb]; simp
    omega
   simp [h1, h2]
 | true =>
  have hbb := btw_iff.1 hb
  rw [decide_eq_false (by omega), cond_false, decide_eq_false (by omega), cond_false, pred_wrap (by omega) (by omega)]
  simp only [Bool.true_and]
  cases hf : btw f (-20000) 2100 with
  | false =>
   have : btw f (-20000) (2101 - (l.length : Int)) = false := by
    cases hq : btw f (-20000) (2101 - (l.length : Int)) with
    | false => rfl
    | true => rw [btw_iff] at hq; have : btw f (-20000) 2100 = true := btw_iff.2 ⟨by omega, by omega⟩; rw [hf] at this; cases this
   rw [this]; rfl
  | true =>
   have hff := btw_iff.1 hf
   rw [wrap_id (n := f + (l.length : Int)) (by omega) (by omega), wrap_id (n := f + (l.length : Int) - 1) (by omega) (by omega)]
   have hsame : btw (f + (l.length : Int) - 1) (-20000) 2100 = btw f (-20000) (2101 - (l.length : Int)) := by
    rw [Bool.eq_iff_iff, btw_iff, btw_iff]; omega
   rw [hsame]
   simp only [Bool.not_true, cond_false]
   cases hl2 : btw f (-20000) (2101 - (l.length : Int)) with
   | false => rfl
   | true =>
    simp only [Bool.not_true, cond_false, Bool.true_and, contW (show l.length ≤ 60 by omega), Option.bind_some, Int.toNat_zero, Int.toNat_natCast]
    cases ho : okW l with
    | false => simp
    | true =>
     simp only [Bool.not_true, cond_false, Bool.true_and]
     rw [if_pos (by omega), if_pos (by omega)]
     by_cases h0 : 0 < (l.getD 0 (.int 0)).toInt
     ·rw [decide_eq_true h0, cond_true]
      by_cases hn : 0 < (l.getD (l.length - 1) (.int 0)).toInt
      ·rw [decide_eq_true hn, cond_true, divI_eq (fun d hd => (okW_iff.1 ho d hd).1) (by omega)]
       simp only [Option.bind_some, Bool.true_and, Option.some.injEq]
       by_cases hg : gp l l.length = 1
       ·rw [hg]; rfl
       ·rw [decide_eq_false hg, decide_eq_false (by omega)]
      ·rw [decide_eq_false hn, cond_false]; rfl
     ·rw [decide_eq_false h0, cond_false]; rfl
theorem GoodD.bd {f : Int} {l : List D} (h : GoodD f l) : bdL 1000000 l := ⟨h.ok, by have := h.n60; omega⟩
theorem sumS_eq {B : Int} {l : List D} (h : bdL B l) (hB : 0 ≤ B) (hl : l.length ≤ 1048576) : Z58 l = some (pf l l.length) := by
 have key : ∀ (k i : Nat), i + k = l.length → Z57 l (pf l i) i = some (pf l l.length) := by
  intro k
  induction k with
  | zero =>
   intro i hi
   rw [Z57_fx]
   unfold c_Z57
   rw [decide_eq_false (by omega), cond_false, show i = l.length by omega]
  | succ k ih =>
   intro i hi
   have hb := pf_bd h hB (i + 1) (by omega)
   have hn := mulN (i := i + 1) (by omega) hB h.2
   have e := pf_succ (l := l) (i := i) (by omega)
   rw [Z57_fx]
   unfold c_Z57
   rw [decide_eq_true (by omega), cond_true, if_pos (by omega), Int.toNat_natCast, ← e, wrap_id (by omega) (by omega), succ_wrap (by omega), ih (i + 1) (by omega)]
   rfl
 have := key l.length 0 (by omega)
 rw [pf_zero, show ((0 : Nat) : Int) = 0 from rfl] at this
 simp only [Z58, c_Z58, this, Option.bind_some]
def nnL (l : List D) : Prop := (∀ d ∈ l, 0 ≤ d.toInt) ∧ l.length ≤ 400 ∧ ∀ d ∈ l, d.toInt ≤ 1000000000000000
theorem make3 (b a1 a2 : Int) {l : List D} (h : nnL l) : ∀ (k i : Nat), i + k = l.length → ∃ j, i ≤ j ∧ j ≤ l.length ∧ (∀ t, i ≤ t → t < j → wt l t = 0) ∧ (j < l.length → wt l j ≠ 0) ∧ Z6 b l i l.length a1 a2 = some (b, l, (j : Int), (l.length : Int), a1, a2)
 | 0, i, hk => by
  refine ⟨i, Nat.le_refl _, by omega, fun t _ _ => by omega, fun _ => by omega, ?_⟩
  rw [Z6_fx]
  unfold c_Z6
  rw [decide_eq_false (by omega)]; rfl
 | k + 1, i, hk => by
  have h400 := h.2.1
  rw [Z6_fx]
  unfold c_Z6
  rw [decide_eq_true (by omega), cond_true, if_pos (by omega), Int.toNat_natCast, wt_int h.1 (by omega)]
  by_cases hz : wt l i = 0
  ·obtain ⟨j, j1, j2, j3, j4, j5⟩ := make3 b a1 a2 h k (i + 1) (by omega)
   refine ⟨j, by omega, j2, fun t t1 t2 => ?_, j4, ?_⟩
   ·by_cases hti : t = i
    ·rw [hti]; exact hz
    ·exact j3 t (by omega) t2
   ·rw [decide_eq_true (by omega), cond_true, succ_wrap (by omega), j5]; rfl
  ·exact ⟨i, Nat.le_refl _, by omega, fun t _ _ => by omega, fun _ => hz, by rw [decide_eq_false (by omega)]; rfl⟩
theorem make5 (b a1 a2 : Int) {l : List D} (h : nnL l) (fr : Nat) : ∀ (k t : Nat), t ≤ k + fr → fr ≤ t → t ≤ l.length → ∃ j, fr ≤ j ∧ j ≤ t ∧ (∀ u, j ≤ u → u < t → wt l u = 0) ∧ (fr < j → wt l (j - 1) ≠ 0) ∧ Z7 b l fr t a1 a2 = some (b, l, (fr : Int), (j : Int), a1, a2)
 | 0, t, hk, h1, h2 => by
  refine ⟨t, h1, Nat.le_refl _, fun u _ _ => by omega, fun _ => by omega, ?_⟩
  rw [Z7_fx]
  unfold c_Z7
  rw [decide_eq_false (by omega)]; rfl
 | k + 1, t, hk, h1, h2 => by
  have h400 := h.2.1
  rw [Z7_fx]
  unfold c_Z7
  by_cases hlt : fr < t
  ·rw [decide_eq_true (by omega), cond_true, pred_wrap (by omega) (by omega), if_pos (by omega), Int.toNat_natCast, wt_int h.1 (by omega)]
   by_cases hz : wt l (t - 1) = 0
   ·obtain ⟨j, j1, j2, j3, j4, j5⟩ := make5 b a1 a2 h fr k (t - 1) (by omega) (by omega) (by omega)
    refine ⟨j, j1, by omega, fun u u1 u2 => ?_, j4, ?_⟩
    ·by_cases hut : u = t - 1
     ·rw [hut]; exact hz
     ·exact j3 u u1 (by omega)
    ·rw [decide_eq_true (by omega), cond_true, j5]; rfl
   ·exact ⟨t, h1, Nat.le_refl _, fun u _ _ => by omega, fun _ => hz, by rw [decide_eq_false (by omega)]; rfl⟩
  ·exact ⟨t, h1, Nat.le_refl _, fun u _ _ => by omega, fun _ => by omega, by rw [decide_eq_false (by omega)]; rfl⟩
def gq (l : List D) (fr : Nat) : Nat → Nat
 | 0 => 0
 | k + 1 => Nat.gcd (gq l fr k) (wt l (fr + k))
theorem make9 (b a1 a2 : Int) {l : List D} (h : nnL l) (fr t : Nat) (ht : t ≤ l.length) : ∀ (k i : Nat), fr + i + k = t → Z10 b l fr t ((gq l fr i : Nat) : Int) ((fr + i : Nat) : Int) a1 a2 = some (b, l, (fr : Int), (t : Int), ((gq l fr (t - fr) : Nat) : Int), a1, a2)
 | 0, i, hk => by
  rw [Z10_fx]
  unfold c_Z10
  rw [decide_eq_false (by omega), cond_false, show t - fr = i by omega]
 | k + 1, i, hk => by
  have h400 := h.2.1
  rw [Z10_fx]
  unfold c_Z10
  rw [decide_eq_true (by omega), cond_true, if_pos (by omega), Int.toNat_natCast, wt_int h.1 (by omega), gS, succ_wrap (by omega)]
  simp only [Option.bind_some, Option.bind_fun_some]
  rw [show Nat.gcd (gq l fr i) (wt l (fr + i)) = gq l fr (i + 1) from rfl, show fr + i + 1 = fr + (i + 1) by omega]
  exact make9 b a1 a2 h fr t ht k (i + 1) (by omega)
theorem gq_ne {l : List D} {fr : Nat} : ∀ {k : Nat}, (∃ i, i < k ∧ wt l (fr + i) ≠ 0) → gq l fr k ≠ 0
 | 0, ⟨i, hi, _⟩ => by omega
 | k + 1, ⟨i, hi, hw⟩ => by
  intro h0
  have := Nat.gcd_eq_zero_iff.1 (show Nat.gcd (gq l fr k) (wt l (fr + k)) = 0 from h0)
  by_cases hik : i = k
  ·subst hik; exact hw this.2
  ·exact gq_ne ⟨i, by omega, hw⟩ this.1
theorem make16 (a1 a2 a3 : Int) {l : List D} (h : nnL l) (d : Nat) (hd : d ≠ 0) (t : Nat) (ht : t ≤ l.length) : ∀ (k i : Nat) (acc : List D), i + k = t → acc.length ≤ i → Z11 l t d i a1 a2 a3 acc = some (a1, a2, a3, acc ++ ((l.drop i).take k).map (fun x => D.int (x.toInt.tdiv (d : Int))))
 | 0, i, acc, hk, ha => by
  rw [Z11_fx]
  unfold c_Z11
  rw [decide_eq_false (by omega)]; simp
 | k + 1, i, acc, hk, ha => by
  have h400 := h.2.1
  have hlt : i < l.length := by omega
  rw [Z11_fx]
  unfold c_Z11
  rw [decide_eq_true (by omega), cond_true, if_pos (by omega), if_pos (by omega), if_pos (by simp only [List.length_cons, List.length_nil]; omega), Int.toNat_natCast, succ_wrap (by omega)]
  have hcut : (l.drop i).take (k + 1) = l.getD i (.int 0) :: (l.drop (i + 1)).take k := by
   rw [List.getD_eq_getElem?_getD, drop_cons hlt, List.take_succ_cons]
  have hx := h.1 _ (getD_mem hlt)
  rw [hcut, List.map_cons]
  have hbig := h.2.2 _ (getD_mem hlt)
  rw [wrap_id (n := (l.getD i (D.int 0)).toInt.tdiv (d : Int)) (by rw [Int.tdiv_eq_ediv_of_nonneg hx]; have := Int.ediv_nonneg hx (show (0 : Int) ≤ (d : Int) by omega); omega) (by rw [Int.tdiv_eq_ediv_of_nonneg hx]; have := Int.ediv_le_self (d : Int) hx; omega)]
  rw [make16 a1 a2 a3 h d hd t ht k (i + 1) _ (by omega) (by simp only [List.length_append, List.length_cons, List.length_nil]; omega)]
  simp
def outL (l : List D) (fr t : Nat) : List D := ((l.drop fr).take (t - fr)).map (fun x => D.int (x.toInt.tdiv ((gq l fr (t - fr) : Nat) : Int)))
theorem outL_len {l : List D} {fr t : Nat} (h : fr ≤ t) (ht : t ≤ l.length) : (outL l fr t).length = t - fr := by
 simp only [outL, List.length_map, List.length_take, List.length_drop]; omega
structure Cut (l : List D) (fr t : Nat) : Prop where
 le : fr ≤ t
 len : t ≤ l.length
 lo : ∀ u, u < fr → wt l u = 0
 hi : ∀ u, t ≤ u → u < l.length → wt l u = 0
 fr0 : fr < t → wt l fr ≠ 0
 t0 : fr < t → wt l (t - 1) ≠ 0
theorem make_eq (f : Int) {l : List D} (h : nnL l) : ∃ fr t, Cut l fr t ∧
  Z15 f l = some (bif decide (fr = t) then (0, [], false) else bif goodB (IntKind.i64.wrap (f + (fr : Int))) (outL l fr t) then (IntKind.i64.wrap (f + (fr : Int)), outL l fr t, true) else (0, [], false)) := by
 have h400 := h.2.1
 obtain ⟨fr, e1, e2, e3, e4, e5⟩ := make3 f 0 0 h l.length 0 (by omega)
 obtain ⟨t, g1, g2, g3, g4, g5⟩ := make5 f 0 0 h fr l.length l.length (by omega) e2 (Nat.le_refl _)
 have g9 := make9 f 0 0 h fr t g2 (t - fr) 0 (by omega)
 rw [show ((gq l fr 0 : Nat) : Int) = 0 from rfl, Nat.add_zero] at g9
 rw [show ((0 : Nat) : Int) = 0 from rfl] at e5
 refine ⟨fr, t, ⟨g1, g2, fun u hu => e3 u (by omega) hu, fun u h1 h2 => g3 u h1 h2, fun hlt => e4 (by omega), g4⟩, ?_⟩
 simp only [Z15, c_Z15, e5, Option.bind_some, g5, g9]
 by_cases hft : fr = t
 ·rw [decide_eq_true (show (fr : Int) = (t : Int) by omega), cond_true, decide_eq_true hft, cond_true]
 ·rw [decide_eq_false (show ¬ (fr : Int) = (t : Int) by omega), cond_false, decide_eq_false hft, cond_false]
  have hne : gq l fr (t - fr) ≠ 0 := gq_ne ⟨0, by omega, by rw [Nat.add_zero]; exact e4 (by omega)⟩
  have g16 := make16 0 0 (IntKind.i64.wrap (f + (fr : Int))) h (gq l fr (t - fr)) hne t g2 (t - fr) fr [] (by omega) (by simp)
  rw [List.nil_append, show List.map (fun x => D.int (x.toInt.tdiv ((gq l fr (t - fr) : Nat) : Int))) (List.take (t - fr) (List.drop fr l)) = outL l fr t from rfl] at g16
  simp only [g16, Option.bind_some]
  rw [goodS _ _ (by rw [outL_len g1 g2]; omega)]
  simp only [Option.bind_some]
  cases goodB (IntKind.i64.wrap (f + (fr : Int))) (outL l fr t) <;> rfl
theorem make_len (f : Int) {l : List D} (h : nnL l) : ∃ y, Z15 f l = some y ∧ y.2.1.length ≤ l.length := by
 obtain ⟨fr, t, hc, he⟩ := make_eq f h
 refine ⟨_, he, ?_⟩
 cases decide (fr = t) with
 | true => simp
 | false =>
  rw [cond_false]
  cases goodB (IntKind.i64.wrap (f + (fr : Int))) (outL l fr t) with
  | false => simp
  | true => rw [cond_true]; simp only; rw [outL_len hc.le hc.len]; have := hc.len; omega
theorem near10_tot (c : List D) (hc : okC c) (p s : Int) (hp : 0 ≤ p ∧ p ≤ 1099511627000) : ∃ y, Z4 c p s = some y ∧ (True ∧ y.2.1 = c ∧ p ≤ y.2.2.1 ∧ y.2.2.1 ≤ p + 2) := by
 refine Tt.out ?_
 unfold Z4 c_Z4
 (refine Tt.bind (Tt.con (among_tot _ hc _ _ _ (by omega) (by simp))) ?_; rintro ⟨v, c', p', s'⟩ ⟨hv, rfl, hp1, hp2⟩; dsimp only at hv hp1 hp2 ⊢)
 exact Tt.pure ⟨trivial, rfl, by simp only; omega, by simp only; omega⟩
theorem distr3_tot (c : List D) (hc : okC c) (x0 x5 : Int) : ∀ (k : Nat) (n p s : Int) (l : List D), n.toNat ≤ k → n ≤ 100 → 0 ≤ p → p + 10 * k ≤ 1099511620000 → l.length + k ≤ 300 → (∀ d ∈ l, 0 ≤ d.toInt ∧ d.toInt ≤ 10) →
  ∃ y, Z5 x0 n c p s x5 l = some y ∧ ((y.1 = x0 ∧ y.2.2.2.2.2.length ≤ l.length + k ∧ ∀ d ∈ y.2.2.2.2.2, 0 ≤ d.toInt ∧ d.toInt ≤ 10) ∧ y.2.1 = c ∧ p ≤ y.2.2.1 ∧ y.2.2.1 ≤ p + 10 * k)
 | k, n, p, s, l, hk, hn, hp0, hp, hl, hd => by
  rw [Z5_fx]
  refine Tt.out ?_
  unfold c_Z5
  refine Tt.dec (fun hlt => ?_) (fun hlt => Tt.pure ⟨⟨rfl, by simp only; omega, hd⟩, rfl, by simp only; omega, by simp only; omega⟩)
  cases k with
  | zero => omega
  | succ k =>
   refine Tt.bind (Tt.con (among_tot _ hc _ _ _ (by omega) (by simp))) ?_
   rintro ⟨v, c', p', s'⟩ ⟨⟨d, hdm, hv⟩, rfl, hp1, hp2⟩
   dsimp only at hv hp1 hp2 ⊢
   have hvb : 0 ≤ v ∧ v ≤ 10 := by
    simp only [List.mem_cons, List.not_mem_nil, or_false] at hdm
    rcases hdm with rfl | rfl | rfl | rfl | rfl | rfl | rfl <;> simp only [toInt_int] at hv <;> omega
   refine Tt.ite (by simp only [List.length_cons, List.length_nil]; omega) ?_
   rw [wrap_id (n := n - 1) (by omega) (by omega)]
   simp only [Option.bind_fun_some]
   obtain ⟨y, e1, ⟨e2, e3, e4⟩, e5, e6, e7⟩ := distr3_tot _ hc x0 x5 k (n - 1) p' s' (l ++ [D.int v]) (by omega) (by omega) (by omega) (by omega) (by simp only [List.length_append, List.length_cons, List.length_nil]; omega) (fun d hd' => by
    rcases List.mem_append.1 hd' with h | h
    ·exact hd d h
    ·simp only [List.mem_singleton] at h; subst h; simp only [toInt_int]; exact hvb)
   refine Tt.con ⟨y, e1, ⟨e2, ?_, e4⟩, e5, by omega, by omega⟩
   simp only [List.length_append, List.length_cons, List.length_nil] at e3; omega
theorem distr_tot (c : List D) (hc : okC c) (p s x : Int) (hp : 0 ≤ p ∧ p ≤ 1099511610000) : ∃ y, Z16 c p s x = some y ∧ (y.2.1.length ≤ 10 ∧ y.2.2.1 = c ∧ p ≤ y.2.2.2.1 ∧ y.2.2.2.1 ≤ p + 200) := by
 refine Tt.out ?_
 unfold Z16 c_Z16
 (refine Tt.bind (Tt.con (pick_tot' _ hc _ _ _ (by omega) (by omega))) ?_; rintro ⟨v, c', p', s'⟩ ⟨hv, rfl, hp1, hp2⟩; dsimp only at hv hp1 hp2 ⊢)
 rw [wrap_id (n := 1 + v) (by omega) (by omega)]
 refine Tt.bind (Tt.con (distr3_tot _ hc x 0 10 (1 + v) p' s' [] (by omega) (by omega) (by omega) (by omega) (by simp) (by simp))) ?_
 rintro ⟨x1, c2, p2, s2, x5, l⟩ ⟨⟨h1, h2, h3⟩, h4, h5, h6⟩
 dsimp only at h1 h2 h3 h4 h5 h6 ⊢
 subst h4
 simp only [List.length_nil] at h2
 refine Tt.bind (Tt.con (pick_tot' _ hc _ _ _ (by omega) (by omega))) ?_
 rintro ⟨v3, c3, p3, s3⟩ ⟨-, rfl, hp5, hp6⟩
 dsimp only at hp5 hp6 ⊢
 refine Tt.bind (Tt.con (make_len _ ⟨fun d hd => (h3 d hd).1, by omega, fun d hd => by have := h3 d hd; omega⟩)) ?_
 rintro ⟨f, l2, ok⟩ hl2
 dsimp only at hl2 ⊢
 refine Tt.cnd (fun _ => ?_) (fun _ => ?_)
 ·exact Tt.pure ⟨by simp, rfl, by simp only; omega, by simp only; omega⟩
 ·exact Tt.pure ⟨by simp only; omega, rfl, by simp only; omega, by simp only; omega⟩
theorem any12v_tot (c : List D) (hc : okC c) (x3 x4 : Int) : ∀ (k : Nat) (p s : Int) (l : List D), 70 - l.length ≤ k → 0 ≤ p → p + 10 * k + 10 ≤ 1099511620000 → l.length ≤ 70 →
  ∃ y, Z17 c p s x3 x4 l = some y ∧ (y.2.2.2.2.2.length ≤ 70 ∧ y.1 = c ∧ p ≤ y.2.1 ∧ y.2.1 ≤ p + 10 * k + 10)
 | k, p, s, l, hk, hp0, hp, hl => by
  rw [Z17_fx]
  refine Tt.out ?_
  unfold c_Z17
  (refine Tt.bind (Tt.con (pick_tot' _ hc _ _ _ (by omega) (by omega))) ?_; rintro ⟨v, c', p', s'⟩ ⟨hv, rfl, hp1, hp2⟩; dsimp only at hv hp1 hp2 ⊢)
  rw [wrap_id (n := 60 + v) (by omega) (by omega)]
  refine Tt.dec (fun hlt => ?_) (fun _ => Tt.pure ⟨hl, rfl, by simp only; omega, by simp only; omega⟩)
  cases k with
  | zero => omega
  | succ k =>
   refine Tt.ite (by simp only [List.length_cons, List.length_nil]; omega) ?_
   simp only [Option.bind_fun_some]
   obtain ⟨y, e1, e2, e3, e4, e5⟩ := any12v_tot _ hc x3 x4 k p' s' (l ++ [D.int 1]) (by simp only [List.length_append, List.length_cons, List.length_nil]; omega) (by omega) (by omega) (by simp only [List.length_append, List.length_cons, List.length_nil]; omega)
   exact Tt.con ⟨y, e1, e2, e3, by omega, by omega⟩
theorem any_tot (c : List D) (hc : okC c) (p s x : Int) (hp : 0 ≤ p ∧ p ≤ 1099511600000) : ∃ y, Z19 c p s x = some y ∧ (y.2.1.length ≤ 100 ∧ y.2.2.1 = c ∧ p ≤ y.2.2.2.1 ∧ y.2.2.2.1 ≤ p + 2000) := by
 refine Tt.out ?_
 unfold Z19 c_Z19
 refine Tt.bind (Tt.con (distr_tot _ hc _ _ _ (by omega))) ?_
 rintro ⟨f, l, c1, p1, s1⟩ ⟨hl, rfl, hp1, hp2⟩
 dsimp only at hl hp1 hp2 ⊢
 refine Tt.bind (Tt.con (pick_tot' _ hc _ _ _ (by omega) (by omega))) ?_
 rintro ⟨v, c2, p2, s2⟩ ⟨-, rfl, hp3, hp4⟩
 dsimp only at hp3 hp4 ⊢
 refine Tt.dec (fun _ => ?_) (fun _ => ?_)
 ·(refine Tt.bind (Tt.con (among_tot _ hc _ _ _ (by omega) (by simp))) ?_; rintro ⟨v, c', p', s'⟩ ⟨hv, rfl, hp1, hp2⟩; dsimp only at hv hp1 hp2 ⊢)
  exact Tt.pure ⟨by simp only; omega, rfl, by simp only; omega, by simp only; omega⟩
 refine Tt.dec (fun _ => ?_) (fun _ => ?_)
 ·(refine Tt.bind (Tt.con (among_tot _ hc _ _ _ (by omega) (by simp))) ?_; rintro ⟨v, c', p', s'⟩ ⟨hv, rfl, hp1, hp2⟩; dsimp only at hv hp1 hp2 ⊢)
  refine Tt.ite (by simp only [List.length_cons, List.length_nil]; omega) ?_
  exact Tt.pure ⟨by simp only [List.length_append, List.length_cons, List.length_nil]; omega, rfl, by simp only; omega, by simp only; omega⟩
 refine Tt.dec (fun _ => ?_) (fun _ => ?_)
 ·exact Tt.pure ⟨by simp, rfl, by simp only; omega, by simp only; omega⟩
 refine Tt.dec (fun _ => ?_) (fun _ => ?_)
 ·exact Tt.pure ⟨by simp, rfl, by simp only; omega, by simp only; omega⟩
 refine Tt.dec (fun _ => ?_) (fun _ => Tt.pure ⟨by simp only; omega, rfl, by simp only; omega, by simp only; omega⟩)
 have e12 : ∃ y, Z18 c2 p2 s2 0 f l = some y ∧ (match y with | .inl z => z.2.2.2.2.2.length ≤ 70 ∧ z.1 = c2 ∧ p2 ≤ z.2.1 ∧ z.2.1 ≤ p2 + 1000 | .inr z => z.2.2.2.2.2.length ≤ 70 ∧ z.1 = c2 ∧ p2 ≤ z.2.1 ∧ z.2.1 ≤ p2 + 1000) := by
  rw [Z18_fx]
  refine Tt.out ?_
  unfold c_Z18
  (refine Tt.bind (Tt.con (pick_tot' _ hc _ _ _ (by omega) (by omega))) ?_; rintro ⟨v, c', p', s'⟩ ⟨hv, rfl, hp1, hp2⟩; dsimp only at hv hp1 hp2 ⊢)
  rw [wrap_id (n := 60 + v) (by omega) (by omega)]
  refine Tt.dec (fun hlt => ?_) (fun _ => Tt.pure ⟨by simp only; omega, rfl, by simp only; omega, by simp only; omega⟩)
  refine Tt.ite (by simp only [List.length_cons, List.length_nil]; omega) ?_
  refine Tt.bind (Tt.con (any12v_tot _ hc 0 f 70 p' s' (l ++ [D.int 1]) (by omega) (by omega) (by omega) (by simp only [List.length_append, List.length_cons, List.length_nil]; omega))) ?_
  rintro ⟨c3, p3, s3, z3, z4, z5⟩ ⟨h1, h2, h3, h4⟩
  dsimp only at h1 h2 h3 h4 ⊢
  exact Tt.pure ⟨h1, h2, by simp only; omega, by simp only; omega⟩
 refine Tt.bind (Tt.con e12) ?_
 rintro (⟨c3, p3, s3, z3, z4, z5⟩ | ⟨c3, p3, s3, z3, z4, z5⟩) ⟨h1, h2, h3, h4⟩
 ·exact Tt.pure ⟨by simp only at h1 ⊢; omega, h2, by simp only at h3 ⊢; omega, by simp only at h4 ⊢; omega⟩
 ·exact Tt.pure ⟨by simp only at h1 ⊢; omega, h2, by simp only at h3 ⊢; omega, by simp only at h4 ⊢; omega⟩
theorem near10v (c : List D) (hc : okC c) (p s : Int) (hp : 0 ≤ p ∧ p ≤ 1099511627000) : ∃ y, Z4 c p s = some y ∧ ((-20000 ≤ y.1 ∧ y.1 ≤ 2090) ∧ y.2.1 = c ∧ p ≤ y.2.2.1 ∧ y.2.2.1 ≤ p + 2) := by
 refine Tt.out ?_
 unfold Z4 c_Z4
 (refine Tt.bind (Tt.con (among_tot _ hc _ _ _ (by omega) (by simp))) ?_; rintro ⟨v, c', p', s'⟩ ⟨hv, rfl, hp1, hp2⟩; dsimp only at hv hp1 hp2 ⊢)
 have hb : -20000 ≤ v ∧ v ≤ 2090 := by
  obtain ⟨d, hd, hv⟩ := hv
  simp only [List.mem_cons, List.not_mem_nil, or_false] at hd
  rcases hd with rfl | rfl | rfl | rfl | rfl | rfl | rfl <;> simp only [toInt_int] at hv <;> omega
 exact Tt.pure ⟨hb, rfl, by simp only; omega, by simp only; omega⟩
def sumN (g : Nat → Int) : Nat → Int
 | 0 => 0
 | n + 1 => sumN g n + g n
theorem sumN_congr {g h : Nat → Int} : ∀ {n : Nat}, (∀ i, i < n → g i = h i) → sumN g n = sumN h n
 | 0, _ => rfl
 | n + 1, e => by
  show sumN g n + g n = sumN h n + h n
  rw [sumN_congr (fun i hi => e i (by omega)), e n (by omega)]
theorem sumN_zero : ∀ n : Nat, sumN (fun _ => 0) n = 0
 | 0 => rfl
 | n + 1 => by show sumN (fun _ => 0) n + 0 = 0; rw [sumN_zero n]; rfl
theorem sumN_add (g h : Nat → Int) : ∀ n : Nat, sumN (fun i => g i + h i) n = sumN g n + sumN h n
 | 0 => rfl
 | n + 1 => by
  show sumN (fun i => g i + h i) n + (g n + h n) = (sumN g n + g n) + (sumN h n + h n)
  rw [sumN_add g h n]; omega
theorem sumN_mul (c : Int) (g : Nat → Int) : ∀ n : Nat, sumN (fun i => c * g i) n = c * sumN g n
 | 0 => (Int.mul_zero c).symm
 | n + 1 => by
  show sumN (fun i => c * g i) n + c * g n = c * (sumN g n + g n)
  rw [sumN_mul c g n, Int.mul_add]
theorem sumN_swap (p : Nat → Nat → Int) (m : Nat) : ∀ n : Nat, sumN (fun i => sumN (p i) m) n = sumN (fun k => sumN (fun i => p i k) n) m
 | 0 => (sumN_zero m).symm
 | n + 1 => by
  show sumN (fun i => sumN (p i) m) n + sumN (p n) m = sumN (fun k => sumN (fun i => p i k) n + p n k) m
  rw [sumN_swap p m n, sumN_add]
theorem sumN_bd {g : Nat → Int} {B : Int} : ∀ {n : Nat}, (∀ i, i < n → 0 ≤ g i ∧ g i ≤ B) → 0 ≤ sumN g n ∧ sumN g n ≤ (n : Int) * B
 | 0, _ => by simp [sumN]
 | n + 1, h => by
  have ih := sumN_bd (n := n) (fun i hi => h i (by omega))
  have hn := h n (by omega)
  have e : ((n + 1 : Nat) : Int) * B = (n : Int) * B + B := by rw [Int.natCast_add, Int.add_mul]; simp
  show 0 ≤ sumN g n + g n ∧ sumN g n + g n ≤ _
  omega
theorem sumN_one (g : Nat → Int) (c : Int) : ∀ n : Nat, sumN (fun k => if c = (k : Int) then g k else 0) n = if 0 ≤ c ∧ c < n then g c.toNat else 0
 | 0 => by rw [if_neg (by omega)]; rfl
 | n + 1 => by
  show sumN (fun k => if c = (k : Int) then g k else 0) n + (if c = (n : Int) then g n else 0) = _
  rw [sumN_one g c n]
  by_cases h : c = (n : Int)
  ·rw [if_neg (by omega), if_pos h, if_pos (by omega), show c.toNat = n by omega]; omega
  ·rw [if_neg h]
   by_cases h2 : 0 ≤ c ∧ c < n
   ·rw [if_pos h2, if_pos (by omega)]; omega
   ·rw [if_neg h2, if_neg (by omega)]; rfl
def vb (l : List D) (z : Int) : Int := if 0 ≤ z ∧ z < l.length then (l.getD z.toNat (.int 0)).toInt else 0
theorem vb_nat {l : List D} {i : Nat} (h : i < l.length) : vb l (i : Int) = (l.getD i (.int 0)).toInt := by
 unfold vb
 rw [if_pos (by omega), Int.toNat_natCast]
theorem vb_bd {B : Int} {l : List D} (h : ∀ d ∈ l, 0 ≤ d.toInt ∧ d.toInt ≤ B) (hB : 0 ≤ B) (z : Int) : 0 ≤ vb l z ∧ vb l z ≤ B := by
 unfold vb
 by_cases hz : 0 ≤ z ∧ z < l.length
 ·rw [if_pos hz]; exact h _ (getD_mem (by omega))
 ·rw [if_neg hz]; omega
theorem wt_out {l : List D} {i : Nat} (h : l.length ≤ i) : wt l i = 0 := by
 unfold wt
 rw [List.getD_eq_getElem?_getD, List.getElem?_eq_none h]; rfl
theorem vb_wt {l : List D} (hn : ∀ d ∈ l, 0 ≤ d.toInt) (i : Nat) : vb l (i : Int) = ((wt l i : Nat) : Int) := by
 by_cases h : i < l.length
 ·rw [vb_nat h, wt_int hn h]
 ·rw [wt_out (by omega)]
  unfold vb
  rw [if_neg (by omega)]; rfl
theorem vb_neg {l : List D} {z : Int} (h : z < 0) : vb l z = 0 := by
 unfold vb
 rw [if_neg (by omega)]
def Red (f : Int) (l : List D) (r : Int × List D × Bool) : Prop :=
 ((∀ i, wt l i = 0) ∧ r = (0, [], false)) ∨ ∃ fr t, fr < t ∧ Cut l fr t ∧ r = (bif goodB (f + (fr : Int)) (outL l fr t) then (f + (fr : Int), outL l fr t, true) else (0, [], false))
theorem cut_eq {f f' : Int} {l l' : List D} (hn : ∀ d ∈ l, 0 ≤ d.toInt) (hn' : ∀ d ∈ l', 0 ≤ d.toInt) {fr t fr' t' : Nat} (h : Cut l fr t) (hlt : fr < t) (h' : Cut l' fr' t') (hlt' : fr' < t')
  (e : ∀ y, vb l (y - f) = 0 ↔ vb l' (y - f') = 0) : f + (fr : Int) = f' + fr' ∧ f + (t : Int) = f' + t' := by
 have key : ∀ {f f' : Int} {l l' : List D}, (∀ d ∈ l, 0 ≤ d.toInt) → (∀ d ∈ l', 0 ≤ d.toInt) → ∀ {fr t fr' t' : Nat}, Cut l fr t → fr < t → Cut l' fr' t' → fr' < t' → (∀ y, vb l (y - f) = 0 ↔ vb l' (y - f') = 0) → f' + (fr' : Int) ≤ f + fr ∧ f + (t : Int) ≤ f' + t' := by
  intro f f' l l' hn hn' fr t fr' t' h hlt h' hlt' e
  constructor
  ·apply Classical.byContradiction
   intro hc
   have h1 := e (f + fr)
   rw [show f + (fr : Int) - f = (fr : Int) by omega, vb_wt hn] at h1
   have h2 : vb l' (f + (fr : Int) - f') = 0 := by
    by_cases h0 : f + (fr : Int) - f' < 0
    ·exact vb_neg h0
    ·rw [show f + (fr : Int) - f' = (((f + (fr : Int) - f').toNat : Nat) : Int) by omega, vb_wt hn', h'.lo _ (by omega)]; rfl
   have := h.fr0 hlt
   have := h1.2 h2
   omega
  ·apply Classical.byContradiction
   intro hc
   have h1 := e (f + (t : Int) - 1)
   rw [show f + (t : Int) - 1 - f = ((t - 1 : Nat) : Int) by omega, vb_wt hn] at h1
   have h2 : vb l' (f + (t : Int) - 1 - f') = 0 := by
    by_cases h0 : f + (t : Int) - 1 - f' < 0
    ·exact vb_neg h0
    ·rw [show f + (t : Int) - 1 - f' = (((f + (t : Int) - 1 - f').toNat : Nat) : Int) by omega, vb_wt hn']
     by_cases hl : (f + (t : Int) - 1 - f').toNat < l'.length
     ·rw [h'.hi _ (by omega) hl]; rfl
     ·rw [wt_out (by omega)]; rfl
   have := h.t0 hlt
   have := h1.2 h2
   omega
 have k1 := key hn hn' h hlt h' hlt' e
 have k2 := key hn' hn h' hlt' h hlt (fun y => (e y).symm)
 omega
theorem gq_congr {l l' : List D} {fr fr' : Nat} : ∀ {k : Nat}, (∀ i, i < k → wt l (fr + i) = wt l' (fr' + i)) → gq l fr k = gq l' fr' k
 | 0, _ => rfl
 | k + 1, h => by
  show Nat.gcd (gq l fr k) (wt l (fr + k)) = Nat.gcd (gq l' fr' k) (wt l' (fr' + k))
  rw [gq_congr (fun i hi => h i (by omega)), h k (by omega)]
theorem cut_range {l : List D} {fr n : Nat} (h : fr + n ≤ l.length) : (l.drop fr).take n = (List.range n).map (fun i => l.getD (fr + i) (.int 0)) := by
 apply List.ext_getElem?
 intro i
 by_cases hi : i < n
 ·rw [List.getElem?_take_of_lt hi, List.getElem?_drop, List.getElem?_map, List.getElem?_range hi, List.getElem?_eq_getElem (by omega), Option.map_some, List.getD_eq_getElem?_getD, List.getElem?_eq_getElem (show fr + i < l.length by omega)]; rfl
 ·rw [List.getElem?_eq_none (by simp only [List.length_take]; omega), List.getElem?_eq_none (by simp only [List.length_map, List.length_range]; omega)]
theorem outL_range {l : List D} {fr t : Nat} (h : fr ≤ t) (ht : t ≤ l.length) : outL l fr t = (List.range (t - fr)).map (fun i => D.int ((l.getD (fr + i) (.int 0)).toInt.tdiv ((gq l fr (t - fr) : Nat) : Int))) := by
 unfold outL
 rw [cut_range (by omega), List.map_map]; rfl
theorem Red_uniq {f f' : Int} {l l' : List D} {r r' : Int × List D × Bool} (hn : ∀ d ∈ l, 0 ≤ d.toInt) (hn' : ∀ d ∈ l', 0 ≤ d.toInt) (h : Red f l r) (h' : Red f' l' r') (e : ∀ y, vb l (y - f) = vb l' (y - f')) : r = r' := by
 rcases h with ⟨z, rfl⟩ | ⟨fr, t, hlt, hc, rfl⟩ <;> rcases h' with ⟨z', rfl⟩ | ⟨fr', t', hlt', hc', rfl⟩
 ·rfl
 ·exfalso
  have h1 := e (f' + fr')
  rw [show f' + (fr' : Int) - f' = (fr' : Int) by omega, vb_wt hn'] at h1
  have := hc'.fr0 hlt'
  by_cases h0 : f' + (fr' : Int) - f < 0
  ·rw [vb_neg h0] at h1; omega
  ·rw [show f' + (fr' : Int) - f = (((f' + (fr' : Int) - f).toNat : Nat) : Int) by omega, vb_wt hn, z] at h1; omega
 ·exfalso
  have h1 := e (f + fr)
  rw [show f + (fr : Int) - f = (fr : Int) by omega, vb_wt hn] at h1
  have := hc.fr0 hlt
  by_cases h0 : f + (fr : Int) - f' < 0
  ·rw [vb_neg h0] at h1; omega
  ·rw [show f + (fr : Int) - f' = (((f + (fr : Int) - f').toNat : Nat) : Int) by omega, vb_wt hn', z'] at h1; omega
 ·obtain ⟨e1, e2⟩ := cut_eq hn hn' hc hlt hc' hlt' (fun y => by rw [e y])
  have hd : t' - fr' = t - fr := by omega
  have c1 := hc.len
  have c2 := hc'.len
  have hw : ∀ i, i < t - fr → wt l (fr + i) = wt l' (fr' + i) := by
   intro i hi
   have := e (f + fr + i)
   rw [show f + (fr : Int) + (i : Int) - f = ((fr + i : Nat) : Int) by omega, show f + (fr : Int) + (i : Int) - f' = ((fr' + i : Nat) : Int) by omega, vb_wt hn, vb_wt hn'] at this
   omega
  have ho : outL l fr t = outL l' fr' t' := by
   rw [outL_range (by omega) c1, outL_range (by omega) c2, hd, gq_congr hw]
   apply List.map_congr_left
   intro i hi
   have hi := List.mem_range.1 hi
   rw [wt_int hn (show fr + i < l.length by omega), wt_int hn' (show fr' + i < l'.length by omega), hw i hi]
  rw [ho, e1]
theorem wt_iw (l : List D) (i : Nat) : wt l i = ((iw l).getD i 0).toNat := by
 unfold wt
 rw [iw_get]
theorem gp_iw {l l' : List D} (e : iw l = iw l') : ∀ n, gp l n = gp l' n
 | 0 => rfl
 | n + 1 => by
  show Nat.gcd (gp l n) (wt l n) = Nat.gcd (gp l' n) (wt l' n)
  rw [gp_iw e n, wt_iw, wt_iw, e]
theorem goodB_iw {l l' : List D} (f : Int) (e : iw l = iw l') : goodB f l = goodB f l' := by
 have hl : l.length = l'.length := by rw [← iw_len l, ← iw_len l', e]
 have hb : badW l = badW l' := by
  funext i
  unfold badW
  rw [iw_get, iw_get, e]
 unfold goodB okW
 rw [hl, hb, iw_get, iw_get, iw_get l', iw_get l', e, gp_iw e]
theorem Red_mul {f aF : Int} {l a : List D} {r : Int × List D × Bool} (ha : GoodD aF a) (hn : ∀ d ∈ l, 0 ≤ d.toInt) (h : Red f l r) (c : Nat) (hc : 0 < c) (e : ∀ y, vb l (y - f) = vb a (y - aF) * (c : Int)) : ∃ l', r = (aF, l', true) ∧ iw l' = iw a := by
 have hna : ∀ d ∈ a, 0 ≤ d.toInt := fun d hd => (ha.ok d hd).1
 have n1 := ha.n1
 have w0 := ha.w0
 have wn := ha.wn
 have ca : Cut a 0 a.length := ⟨by omega, by omega, fun u hu => by omega, fun u h1 h2 => by omega, fun _ => by unfold wt; omega, fun _ => by unfold wt; omega⟩
 rcases h with ⟨z, rfl⟩ | ⟨fr, t, hlt, hcut, rfl⟩
 ·exfalso
  have h1 := e aF
  rw [Int.sub_self, show (0 : Int) = ((0 : Nat) : Int) from rfl, vb_nat (show 0 < a.length by omega)] at h1
  have hp := Int.mul_pos w0 (show (0 : Int) < (c : Int) by omega)
  by_cases h0 : aF - f < 0
  ·rw [vb_neg h0] at h1; omega
  ·rw [show aF - f = (((aF - f).toNat : Nat) : Int) by omega, vb_wt hn, z] at h1; omega
 ·obtain ⟨e1, e2⟩ := cut_eq (f := f) (f' := aF) hn hna hcut hlt ca (by omega) (fun y => by
   rw [e y]
   constructor
   ·intro hm
    rcases Int.mul_eq_zero.1 hm with hm | hm
    ·exact hm
    ·omega
   ·intro hm; rw [hm, Int.zero_mul])
  have cl := hcut.len
  have hd : t - fr = a.length := by omega
  have hw : ∀ i, i < a.length → wt l (fr + i) = wt a i * c := by
   intro i hi
   have := e (f + fr + i)
   rw [show f + (fr : Int) + (i : Int) - f = ((fr + i : Nat) : Int) by omega, show f + (fr : Int) + (i : Int) - aF = (i : Int) by omega, vb_wt hn, vb_wt hna] at this
   rw [← Int.natCast_mul] at this
   omega
  have hg : ∀ k, k ≤ a.length → gq l fr k = gp a k * c := by
   intro k
   induction k with
   | zero => intro _; exact (Nat.zero_mul c).symm
   | succ k ih =>
    intro hk
    show Nat.gcd (gq l fr k) (wt l (fr + k)) = Nat.gcd (gp a k) (wt a k) * c
    rw [ih (by omega), hw k (by omega), Nat.gcd_mul_right]
  have hgc : gq l fr (t - fr) = c := by rw [hd, hg _ (Nat.le_refl _), ha.g, Nat.one_mul]
  have ho : iw (outL l fr t) = iw a := by
   rw [outL_range (by omega) cl, hgc, hd]
   apply List.ext_getElem?
   intro i
   by_cases hi : i < a.length
   ·have ht : (l.getD (fr + i) (.int 0)).toInt.tdiv (c : Int) = (a.getD i (.int 0)).toInt := by
     rw [wt_int hn (show fr + i < l.length by omega), hw i hi, wt_int hna hi, Int.tdiv_eq_ediv_of_nonneg (by omega), Int.natCast_mul, Int.mul_ediv_cancel _ (by omega)]
    simp only [iw, List.getElem?_map, List.getElem?_range hi, Option.map_some]
    rw [ht, toInt_int, List.getD_eq_getElem?_getD, List.getElem?_eq_getElem hi]; rfl
   ·rw [List.getElem?_eq_none (by simp only [iw, List.length_map, List.length_range]; omega), List.getElem?_eq_none (by rw [iw_len]; omega)]
  rw [goodB_iw _ ho, e1, show aF + ((0 : Nat) : Int) = aF by simp, goodB_iff.2 ha]
  exact ⟨_, rfl, ho⟩
def nnI (l : List D) : Prop := (∀ d ∈ l, 0 ≤ d.toInt ∧ d.toInt ≤ 1000000000000000) ∧ l.length ≤ 30000
theorem gp_zero {l : List D} : ∀ {n : Nat}, (∀ i, i < n → wt l i = 0) → gp l n = 0
 | 0, _ => rfl
 | n + 1, h => by
  show Nat.gcd (gp l n) (wt l n) = 0
  rw [gp_zero (fun i hi => h i (by omega)), h n (by omega)]; rfl
theorem gp_zero' {l : List D} : ∀ {n : Nat}, gp l n = 0 → ∀ i, i < n → wt l i = 0
 | 0, _, i, hi => by omega
 | n + 1, h, i, hi => by
  have := Nat.gcd_eq_zero_iff.1 (show Nat.gcd (gp l n) (wt l n) = 0 from h)
  by_cases hin : i = n
  ·subst hin; exact this.2
  ·exact gp_zero' this.1 i (by omega)
theorem gp_cut {l : List D} {fr t : Nat} (h : Cut l fr t) : gp l l.length = gq l fr (t - fr) := by
 have h1 : ∀ k, gp l (fr + k) = gq l fr k := by
  intro k
  induction k with
  | zero => exact gp_zero h.lo
  | succ k ih =>
   show Nat.gcd (gp l (fr + k)) (wt l (fr + k)) = Nat.gcd (gq l fr k) (wt l (fr + k))
   rw [ih]
 have h2 : ∀ j, t + j ≤ l.length → gp l (t + j) = gp l t := by
  intro j
  induction j with
  | zero => intro _; rfl
  | succ j ih =>
   intro hj
   show Nat.gcd (gp l (t + j)) (wt l (t + j)) = gp l t
   rw [ih (by omega), h.hi _ (by omega) (by omega), Nat.gcd_zero_right]
 have hl := h.len
 have hle := h.le
 have := h2 (l.length - t) (by omega)
 rw [show t + (l.length - t) = l.length by omega] at this
 rw [this, ← h1, show fr + (t - fr) = t by omega]
theorem red5 (b g e a : Int) {l : List D} (h : nnI l) : ∀ (k i : Nat), i + k = l.length → (∃ j, i ≤ j ∧ j < l.length ∧ wt l j ≠ 0) → ∃ j, i ≤ j ∧ j < l.length ∧ (∀ t, i ≤ t → t < j → wt l t = 0) ∧ wt l j ≠ 0 ∧ Z48 b l g i e a = some (b, l, g, (j : Int), e, a)
 | 0, i, hk, ⟨j, j1, j2, _⟩ => by omega
 | k + 1, i, hk, ⟨j, j1, j2, j3⟩ => by
  have h300 := h.2
  rw [Z48_fx]
  unfold c_Z48
  rw [if_pos (by omega), Int.toNat_natCast, wt_int (fun d hd => (h.1 d hd).1) (by omega)]
  by_cases hz : wt l i = 0
  ·have hij : i ≠ j := fun he => by subst he; exact j3 hz
   obtain ⟨q, q1, q2, q3, q4, q5⟩ := red5 b g e a h k (i + 1) (by omega) ⟨j, by omega, j2, j3⟩
   refine ⟨q, by omega, q2, fun t t1 t2 => ?_, q4, ?_⟩
   ·by_cases hti : t = i
    ·rw [hti]; exact hz
    ·exact q3 t (by omega) t2
   ·rw [decide_eq_true (by omega), cond_true, succ_wrap (by omega), q5]; rfl
  ·exact ⟨i, Nat.le_refl _, by omega, fun t _ _ => by omega, hz, by rw [decide_eq_false (by omega)]; rfl⟩
theorem red7 (b g a : Int) {l : List D} (h : nnI l) (fr : Nat) (hfr : wt l fr ≠ 0) : ∀ (t : Nat), fr < t → t ≤ l.length → ∃ j, fr < j ∧ j ≤ t ∧ (∀ u, j ≤ u → u < t → wt l u = 0) ∧ wt l (j - 1) ≠ 0 ∧ Z49 b l g fr t a = some (b, l, g, (fr : Int), (j : Int), a)
 | 0, h1, h2 => by omega
 | t + 1, h1, h2 => by
  have h300 := h.2
  rw [Z49_fx]
  unfold c_Z49
  rw [pred_wrap (by omega) (by omega), Nat.add_sub_cancel, if_pos (by omega), Int.toNat_natCast, wt_int (fun d hd => (h.1 d hd).1) (by omega)]
  by_cases hz : wt l t = 0
  ·have hne : fr ≠ t := fun he => by subst he; exact hfr hz
   obtain ⟨j, j1, j2, j3, j4, j5⟩ := red7 b g a h fr hfr t (by omega) (by omega)
   refine ⟨j, j1, by omega, fun u u1 u2 => ?_, j4, ?_⟩
   ·by_cases hut : u = t
    ·rw [hut]; exact hz
    ·exact j3 u u1 (by omega)
   ·rw [decide_eq_true (by omega), cond_true, j5]; rfl
  ·exact ⟨t + 1, h1, Nat.le_refl _, fun u _ _ => by omega, by rw [Nat.add_sub_cancel]; exact hz, by rw [decide_eq_false (by omega)]; rfl⟩
theorem red11v (g : Nat) (hg : g ≠ 0) (a b : Int) {s : List D} (h : nnI s) : ∀ (k i : Nat) (acc : List D), i + k = s.length → acc.length ≤ i → Z50 g s s.length i a b acc = some (a, b, acc ++ (s.drop i).map (fun x => D.int (x.toInt.tdiv (g : Int))))
 | 0, i, acc, hk, ha => by
  rw [Z50_fx]
  unfold c_Z50
  rw [decide_eq_false (by omega), cond_false, List.drop_of_length_le (by omega)]; simp
 | k + 1, i, acc, hk, ha => by
  have h300 := h.2
  have hlt : i < s.length := by omega
  have hx := h.1 _ (getD_mem hlt)
  rw [Z50_fx]
  unfold c_Z50
  rw [decide_eq_true (by omega), cond_true, if_pos (by omega), if_pos (by omega), if_pos (by simp only [List.length_cons, List.length_nil]; omega), Int.toNat_natCast, succ_wrap (by omega)]
  rw [wrap_id (n := (s.getD i (D.int 0)).toInt.tdiv (g : Int)) (by rw [Int.tdiv_eq_ediv_of_nonneg hx.1]; have := Int.ediv_nonneg hx.1 (show (0 : Int) ≤ (g : Int) by omega); omega) (by rw [Int.tdiv_eq_ediv_of_nonneg hx.1]; have := Int.ediv_le_self (g : Int) hx.1; omega)]
  rw [red11v g hg a b h k (i + 1) _ (by omega) (by simp only [List.length_append, List.length_cons, List.length_nil]; omega), drop_cons hlt]
  simp only [Option.bind_some, List.map_cons, List.append_assoc, List.singleton_append, List.getD_eq_getElem?_getD]
theorem redI (f : Int) (hf : -100000 ≤ f ∧ f ≤ 100000) {l : List D} (h : nnI l) : ∃ r, Z53 f l = some r ∧ Red f l r := by
 have h300 := h.2
 have hn : ∀ d ∈ l, 0 ≤ d.toInt := fun d hd => (h.1 d hd).1
 simp only [Z53, c_Z53, divI_eq hn (by omega), Option.bind_some]
 by_cases hz : gp l l.length = 0
 ·rw [decide_eq_true (show ((gp l l.length : Nat) : Int) = 0 by omega), cond_true]
  refine ⟨_, rfl, .inl ⟨fun i => ?_, rfl⟩⟩
  by_cases hi : i < l.length
  ·exact gp_zero' hz i hi
  ·exact wt_out (by omega)
 ·rw [decide_eq_false (show ¬ ((gp l l.length : Nat) : Int) = 0 by omega), cond_false]
  have hex : ∃ j, 0 ≤ j ∧ j < l.length ∧ wt l j ≠ 0 := by
   apply Classical.byContradiction
   intro hc
   exact hz (gp_zero (fun i hi => by
    apply Classical.byContradiction
    intro hw
    exact hc ⟨i, by omega, hi, hw⟩))
  obtain ⟨fr, a1, a2, a3, a4, a5⟩ := red5 f ((gp l l.length : Nat) : Int) l.length 0 h l.length 0 (by omega) hex
  rw [show ((0 : Nat) : Int) = 0 from rfl] at a5
  obtain ⟨t, b1, b2, b3, b4, b5⟩ := red7 f ((gp l l.length : Nat) : Int) 0 h fr a4 l.length a2 (Nat.le_refl _)
  have hc : Cut l fr t := ⟨by omega, b2, fun u hu => a3 u (by omega) hu, b3, fun _ => a4, fun _ => b4⟩
  simp only [a5, b5, Option.bind_some, Int.toNat_natCast]
  rw [if_pos (by omega)]
  have hs : nnI ((l.drop fr).take (t - fr)) := ⟨fun d hd => h.1 d (List.mem_of_mem_drop (List.mem_of_mem_take hd)), by simp only [List.length_take, List.length_drop]; omega⟩
  have hsl : ((l.drop fr).take (t - fr)).length = t - fr := by simp only [List.length_take, List.length_drop]; omega
  have e11 : Z51 ((gp l l.length : Nat) : Int) ((l.drop fr).take (t - fr)) (((l.drop fr).take (t - fr)).length : Int) 0 0 (IntKind.i64.wrap (f + (fr : Int))) = some (.inl (0, f + (fr : Int), outL l fr t)) := by
   have hx := hs.1 _ (getD_mem (show 0 < ((l.drop fr).take (t - fr)).length by omega))
   have v := red11v (gp l l.length) hz 0 (IntKind.i64.wrap (f + (fr : Int))) hs (t - fr - 1) 1 [D.int ((((l.drop fr).take (t - fr)).getD 0 (.int 0)).toInt.tdiv ((gp l l.length : Nat) : Int))] (by omega) (by simp)
   rw [Z51_fx]
   unfold c_Z51
   rw [decide_eq_true (by omega), cond_true, if_pos (by omega), if_pos (by omega), if_pos (by simp), Int.toNat_zero]
   rw [wrap_id (n := (((l.drop fr).take (t - fr)).getD 0 (.int 0)).toInt.tdiv ((gp l l.length : Nat) : Int)) (by rw [Int.tdiv_eq_ediv_of_nonneg hx.1]; have := Int.ediv_nonneg hx.1 (show (0 : Int) ≤ ((gp l l.length : Nat) : Int) by omega); omega) (by rw [Int.tdiv_eq_ediv_of_nonneg hx.1]; have := Int.ediv_le_self ((gp l l.length : Nat) : Int) hx.1; omega)]
   rw [show IntKind.i64.wrap ((0 : Int) + 1) = ((1 : Nat) : Int) by decide, v]
   simp only [Option.bind_some]
   rw [wrap_id (n := f + (fr : Int)) (by omega) (by omega)]
   congr 3
   unfold outL
   rw [← gp_cut hc]
   have h0 : 0 < ((l.drop fr).take (t - fr)).length := by omega
   conv => rhs; rw [← List.drop_zero (l := (l.drop fr).take (t - fr)), drop_cons h0]
   rw [List.map_cons, List.getD_eq_getElem?_getD]; rfl
  rw [e11]
  simp only [Option.bind_some, Sum.elim_inl, goodI _ _ (show (outL l fr t).length ≤ 1048576 by rw [outL_len (by omega) b2]; omega)]
  refine ⟨_, ?_, .inr ⟨fr, t, b1, hc, rfl⟩⟩
  cases goodB (f + (fr : Int)) (outL l fr t) <;> rfl
theorem redS (f : Int) (hf : -100000 ≤ f ∧ f ≤ 100000) {l : List D} (h : nnL l) : ∃ r, Z15 f l = some r ∧ Red f l r := by
 obtain ⟨fr, t, hc, he⟩ := make_eq f h
 have h400 := h.2.1
 have hl := hc.len
 have hle := hc.le
 rw [wrap_id (n := f + (fr : Int)) (by omega) (by omega)] at he
 refine ⟨_, he, ?_⟩
 by_cases hft : fr = t
 ·left
  refine ⟨fun i => ?_, by rw [decide_eq_true hft]; rfl⟩
  by_cases hi : i < fr
  ·exact hc.lo i hi
  ·by_cases hi2 : i < l.length
   ·exact hc.hi i (by omega) hi2
   ·exact wt_out (by omega)
 ·right
  exact ⟨fr, t, by omega, hc, by rw [decide_eq_false hft]; rfl⟩
def listD (n : Nat) (g : Nat → Int) : List D := (List.range n).map (fun i => D.int (g i))
theorem listD_len (n : Nat) (g : Nat → Int) : (listD n g).length = n := by simp [listD]
theorem listD_succ (n : Nat) (g : Nat → Int) : listD (n + 1) g = listD n g ++ [D.int (g n)] := by simp [listD, List.range_succ]
theorem listD_get {n : Nat} {g : Nat → Int} {i : Nat} (h : i < n) : (listD n g).getD i (.int 0) = D.int (g i) := by
 rw [List.getD_eq_getElem?_getD, listD, List.getElem?_map, List.getElem?_range h]; rfl
theorem listD_congr {n : Nat} {g h : Nat → Int} (e : ∀ i, i < n → g i = h i) : listD n g = listD n h := by
 unfold listD
 exact List.map_congr_left (fun i hi => by rw [e i (List.mem_range.1 hi)])
theorem listD_vb (n : Nat) (g : Nat → Int) (z : Int) : vb (listD n g) z = if 0 ≤ z ∧ z < n then g z.toNat else 0 := by
 unfold vb
 rw [listD_len]
 by_cases h : 0 ≤ z ∧ z < n
 ·rw [if_pos h, if_pos h, listD_get (by omega)]; rfl
 ·rw [if_neg h, if_neg h]
theorem listD_all {P : Int → Prop} {n : Nat} {g : Nat → Int} (h : ∀ i, i < n → P (g i)) : ∀ d ∈ listD n g, P d.toInt := by
 intro d hd
 unfold listD at hd
 obtain ⟨i, hi, rfl⟩ := List.mem_map.1 hd
 exact h i (List.mem_range.1 hi)
theorem listD_set {n : Nat} {g : Nat → Int} (j : Nat) (v : Int) : (listD n g).set j (D.int v) = listD n (fun t => if t = j then v else g t) := by
 apply List.ext_getElem?
 intro i
 rw [List.getElem?_set]
 by_cases hi : i < n
 ·by_cases hj : j = i
  ·subst hj
   rw [if_pos rfl, if_pos (by rw [listD_len]; exact hi), listD, List.getElem?_map, List.getElem?_range hi, Option.map_some, if_pos rfl]
  ·rw [if_neg hj, listD, listD, List.getElem?_map, List.getElem?_map, List.getElem?_range hi, Option.map_some, Option.map_some, if_neg (fun h => hj h.symm)]
 ·rw [List.getElem?_eq_none (l := listD n fun t => if t = j then v else g t) (by rw [listD_len]; omega)]
  by_cases hj : j = i
  ·rw [if_pos hj, if_neg (by rw [listD_len]; omega)]
  ·rw [if_neg hj, List.getElem?_eq_none (by rw [listD_len]; omega)]
theorem rInts_iw {l l' : List D} (e : iw l = iw l') (hl : l.length ≤ 1048576) : Z70 l l' = some true := by
 have hlen : l.length = l'.length := by rw [← iw_len l, ← iw_len l', e]
 have key : Z69 l l' 0 = some (.inr ()) := by
  refine all_loop (N := fun n i => n_Z69 n l l' i) (len := l.length) (fun m i hi => ?_) (fun m => ?_)
  ·have hw : IntKind.i64.wrap ((i : Int) + 1) = (i : Int) + 1 := wrap_id (by omega) (by omega)
   show c_Z69 (n_Z69 m) l l' i some = _
   unfold c_Z69
   rw [decide_eq_true (by omega), cond_true, if_pos (by omega), if_pos (by omega), hw, Int.toNat_natCast, iw_get, iw_get, e, decide_eq_true rfl, Bool.not_true, cond_false]
   simp only [Option.bind_fun_some]
  ·simp [n_Z69, c_Z69]
 simp [Z70, c_Z70, key, hlen]
theorem rDist_refl (f : Int) {l l' : List D} (e : iw l = iw l') (hl : l.length ≤ 1048576) : Z71 f l f l' = some true := by
 simp only [Z71, c_Z71, decide_true, cond_true, rInts_iw e hl, Option.bind_some]
theorem Red_len {f : Int} {l : List D} {r : Int × List D × Bool} (h : Red f l r) : r.2.1.length ≤ l.length := by
 rcases h with ⟨-, rfl⟩ | ⟨fr, t, h1, h2, rfl⟩
 ·simp
 ·have := h2.len
  cases goodB (f + (fr : Int)) (outL l fr t) with
  | false => simp
  | true => rw [cond_true]; simp only; rw [outL_len (by omega) h2.len]; omega
def badM (l : List D) (i : Nat) : Bool := !btw (l.getD i (.int 0)).toInt 0 1000000000000
theorem scanI (l : List D) (hl : l.length ≤ 1048576) : Z47 l = some (firstN (badM l) l.length).isSome := by
 have : Z45 l l.length 0 = some (match firstN (badM l) l.length with | some i => .inl (i : Int) | none => .inr ()) := by
  refine scan_loop (N := fun m i => n_Z45 m l l.length i) _ (fun i => .inl (i : Int)) (fun m i hi => ?_) (fun m => ?_)
  ·show c_Z45 (n_Z45 m) l l.length i some = _
   unfold c_Z45
   rw [decide_eq_true (by omega), cond_true, if_pos (by omega), Int.toNat_natCast, wrap_id (by omega) (by omega)]
   simp only [Z44, c_Z44, within_eq, Option.bind_some, Option.bind_fun_some]
   rfl
  ·show c_Z45 (n_Z45 m) l l.length l.length some = _
   unfold c_Z45
   rw [decide_eq_false (by omega)]; rfl
 simp only [Z47, c_Z47, Z46, c_Z46, this, Option.bind_some]
 cases firstN (badM l) l.length <;> simp
theorem prod12 {a b : Int} (h1 : 0 ≤ a ∧ a ≤ 1000000) (h2 : 0 ≤ b ∧ b ≤ 1000000) : 0 ≤ a * b ∧ a * b ≤ 1000000000000 := by
 have p1 : a * b ≤ a * 1000000 := Int.mul_le_mul_of_nonneg_left h2.2 h1.1
 have p2 := Int.mul_nonneg h1.1 h2.1
 omega
theorem prodSS {a b : Int} (h1 : 0 ≤ a ∧ a ≤ 60000000) (h2 : 0 ≤ b ∧ b ≤ 60000000) : 0 ≤ a * b ∧ a * b ≤ 3600000000000000 := by
 have p1 : a * b ≤ a * 60000000 := Int.mul_le_mul_of_nonneg_left h2.2 h1.1
 have p2 := Int.mul_nonneg h1.1 h2.1
 omega
theorem GoodD.vbd {f : Int} {l : List D} (h : GoodD f l) (z : Int) : 0 ≤ vb l z ∧ vb l z ≤ 1000000 := vb_bd h.ok (by omega) z
theorem GoodD.sbd {f : Int} {l : List D} (h : GoodD f l) : 0 ≤ pf l l.length ∧ pf l l.length ≤ 60000000 := by
 have := pf_bd h.bd (by omega) l.length (Nat.le_refl _)
 have := h.n60
 omega
def ltB (x y : Int) : Bool := decide (x < y)
def leB (x y : Int) : Bool := decide (x ≤ y)
def cell (R : Int → Int → Bool) (aF : Int) (a : List D) (bF : Int) (b : List D) (i k : Nat) : Int := bif R (aF + (i : Int)) (bF + (k : Int)) then vb a (i : Int) * vb b (k : Int) else 0
theorem cell_bd {R : Int → Int → Bool} {aF bF : Int} {a b : List D} (ha : GoodD aF a) (hb : GoodD bF b) (i k : Nat) : 0 ≤ cell R aF a bF b i k ∧ cell R aF a bF b i k ≤ 1000000000000 := by
 have := prod12 (ha.vbd (i : Int)) (hb.vbd (k : Int))
 unfold cell
 cases R (aF + (i : Int)) (bF + (k : Int)) <;> simp only [cond_true, cond_false] <;> omega
theorem row_bd {R : Int → Int → Bool} {aF bF : Int} {a b : List D} (ha : GoodD aF a) (hb : GoodD bF b) (i k : Nat) (hk : k ≤ 60) : 0 ≤ sumN (cell R aF a bF b i) k ∧ sumN (cell R aF a bF b i) k ≤ 60000000000000 := by
 have := sumN_bd (g := cell R aF a bF b i) (B := 1000000000000) (n := k) (fun j _ => cell_bd ha hb i j)
 omega
def early (R : Int → Int → Bool) (aF : Int) (a : List D) (bF : Int) (b : List D) (i : Nat) : Int := sumN (fun i => sumN (cell R aF a bF b i) b.length) i
theorem early_bd {R : Int → Int → Bool} {aF bF : Int} {a b : List D} (ha : GoodD aF a) (hb : GoodD bF b) (i : Nat) (hi : i ≤ 60) : 0 ≤ early R aF a bF b i ∧ early R aF a bF b i ≤ 3600000000000000 := by
 have := sumN_bd (g := fun i => sumN (cell R aF a bF b i) b.length) (B := 60000000000000) (n := i) (fun j _ => row_bd ha hb j b.length hb.n60)
 unfold early
 omega
theorem sumN_le {g h : Nat → Int} : ∀ {n : Nat}, (∀ i, i < n → g i ≤ h i) → sumN g n ≤ sumN h n
 | 0, _ => Int.le_refl _
 | n + 1, e => by
  show sumN g n + g n ≤ sumN h n + h n
  have := sumN_le (n := n) (fun i hi => e i (by omega))
  have := e n (by omega)
  omega
theorem pairs6 {aF bF : Int} {a b : List D} (ha : GoodD aF a) (hb : GoodD bF b) (i : Nat) (hi : i < a.length) (S : Int) (hS : 0 ≤ S ∧ S ≤ 4000000000000000) : ∀ (m k : Nat), k + m = b.length → Z80 (S + sumN (cell ltB aF a bF b i) k) i ((a.getD i (.int 0)).toInt) a a.length i b b.length k aF a bF b = some (S + sumN (cell ltB aF a bF b i) b.length, a, (a.length : Int), (i : Int), aF, a, bF, b)
 | 0, k, hk => by
  rw [Z80_fx]
  unfold c_Z80
  rw [decide_eq_false (by omega), cond_false, show k = b.length by omega]
 | m + 1, k, hk => by
  have n60 := ha.n60
  have n60' := hb.n60
  have f1 := ha.f1
  have f2 := ha.f2
  have f1' := hb.f1
  have f2' := hb.f2
  have r := row_bd (R := ltB) ha hb i k (by omega)
  have p := prod12 (ha.vbd (i : Int)) (hb.vbd (k : Int))
  have ih := pairs6 ha hb i hi S hS m (k + 1) (by omega)
  have e : sumN (cell ltB aF a bF b i) (k + 1) = sumN (cell ltB aF a bF b i) k + cell ltB aF a bF b i k := rfl
  rw [e] at ih
  have hc : cell ltB aF a bF b i k = bif ltB (aF + (i : Int)) (bF + (k : Int)) then vb a (i : Int) * vb b (k : Int) else 0 := rfl
  rw [hc] at ih
  rw [Z80_fx]
  unfold c_Z80
  simp only [Z79, c_Z79]
  rw [decide_eq_true (show (k : Int) < b.length by omega), cond_true, if_pos (by omega), wrap_id (n := aF + (i : Int)) (by omega) (by omega), wrap_id (n := bF + (k : Int)) (by omega) (by omega)]
  simp only [Option.bind_some, Option.bind_fun_some]
  rw [succ_wrap (by omega)]
  cases hq : ltB (aF + (i : Int)) (bF + (k : Int)) with
  | true =>
   rw [hq, cond_true] at ih
   unfold ltB at hq
   rw [hq, cond_true, Int.toNat_natCast, ← vb_nat (show k < b.length by omega), ← vb_nat hi, wrap_id (n := vb a (i : Int) * vb b (k : Int)) (by omega) (by omega)]
   rw [← vb_nat hi] at ih
   rw [wrap_id (by omega) (by omega), Int.add_assoc]
   exact ih
  | false =>
   rw [hq, cond_false, Int.add_zero] at ih
   unfold ltB at hq
   rw [hq, cond_false]
   exact ih
theorem pairs3 {aF bF : Int} {a b : List D} (ha : GoodD aF a) (hb : GoodD bF b) : ∀ (m i : Nat), i + m = a.length → Z81 (early ltB aF a bF b i) a a.length i aF a bF b = some (early ltB aF a bF b a.length)
 | 0, i, hk => by
  rw [Z81_fx]
  unfold c_Z81
  rw [decide_eq_false (by omega), cond_false, show i = a.length by omega]
 | m + 1, i, hk => by
  have n60 := ha.n60
  have eb := early_bd (R := ltB) ha hb i (by omega)
  have e6 := pairs6 ha hb i (by omega) (early ltB aF a bF b i) (by omega) b.length 0 (by omega)
  rw [show sumN (cell ltB aF a bF b i) 0 = 0 from rfl, Int.add_zero, show ((0 : Nat) : Int) = 0 from rfl] at e6
  rw [Z81_fx]
  unfold c_Z81
  rw [decide_eq_true (by omega), cond_true, if_pos (by omega), Int.toNat_natCast, e6]
  simp only [Option.bind_some, Option.bind_fun_some]
  rw [succ_wrap (by omega)]
  exact pairs3 ha hb m (i + 1) (by omega)
theorem pairs6b {aF bF : Int} {a b : List D} (ha : GoodD aF a) (hb : GoodD bF b) (i : Nat) (hi : i < a.length) (S : Int) (hS : 0 ≤ S ∧ S ≤ 4000000000000000) : ∀ (m k : Nat), k + m = b.length → Z84 (S + sumN (cell leB aF a bF b i) k) i ((a.getD i (.int 0)).toInt) a a.length i b b.length k aF a bF b = some (S + sumN (cell leB aF a bF b i) b.length, a, (a.length : Int), (i : Int), aF, a, bF, b)
 | 0, k, hk => by
  rw [Z84_fx]
  unfold c_Z84
  rw [decide_eq_false (by omega), cond_false, show k = b.length by omega]
 | m + 1, k, hk => by
  have n60 := ha.n60
  have n60' := hb.n60
  have f1 := ha.f1
  have f2 := ha.f2
  have f1' := hb.f1
  have f2' := hb.f2
  have r := row_bd (R := leB) ha hb i k (by omega)
  have p := prod12 (ha.vbd (i : Int)) (hb.vbd (k : Int))
  have ih := pairs6b ha hb i hi S hS m (k + 1) (by omega)
  have e : sumN (cell leB aF a bF b i) (k + 1) = sumN (cell leB aF a bF b i) k + cell leB aF a bF b i k := rfl
  rw [e] at ih
  have hc : cell leB aF a bF b i k = bif leB (aF + (i : Int)) (bF + (k : Int)) then vb a (i : Int) * vb b (k : Int) else 0 := rfl
  rw [hc] at ih
  rw [Z84_fx]
  unfold c_Z84
  simp only [Z83, c_Z83]
  rw [decide_eq_true (show (k : Int) < b.length by omega), cond_true, if_pos (by omega), wrap_id (n := aF + (i : Int)) (by omega) (by omega), wrap_id (n := bF + (k : Int)) (by omega) (by omega)]
  simp only [Option.bind_some, Option.bind_fun_some]
  rw [succ_wrap (by omega)]
  cases hq : leB (aF + (i : Int)) (bF + (k : Int)) with
  | true =>
   rw [hq, cond_true] at ih
   unfold leB at hq
   rw [hq, cond_true, Int.toNat_natCast, ← vb_nat (show k < b.length by omega), ← vb_nat hi, wrap_id (n := vb a (i : Int) * vb b (k : Int)) (by omega) (by omega)]
   rw [← vb_nat hi] at ih
   rw [wrap_id (by omega) (by omega), Int.add_assoc]
   exact ih
  | false =>
   rw [hq, cond_false, Int.add_zero] at ih
   unfold leB at hq
   rw [hq, cond_false]
   exact ih
theorem pairs3b {aF bF : Int} {a b : List D} (ha : GoodD aF a) (hb : GoodD bF b) : ∀ (m i : Nat), i + m = a.length → Z85 (early leB aF a bF b i) a a.length i aF a bF b = some (early leB aF a bF b a.length)
 | 0, i, hk => by
  rw [Z85_fx]
  unfold c_Z85
  rw [decide_eq_false (by omega), cond_false, show i = a.length by omega]
 | m + 1, i, hk => by
  have n60 := ha.n60
  have eb := early_bd (R := leB) ha hb i (by omega)
  have e6 := pairs6b ha hb i (by omega) (early leB aF a bF b i) (by omega) b.length 0 (by omega)
  rw [show sumN (cell leB aF a bF b i) 0 = 0 from rfl, Int.add_zero, show ((0 : Nat) : Int) = 0 from rfl] at e6
  rw [Z85_fx]
  unfold c_Z85
  rw [decide_eq_true (by omega), cond_true, if_pos (by omega), Int.toNat_natCast, e6]
  simp only [Option.bind_some, Option.bind_fun_some]
  rw [succ_wrap (by omega)]
  exact pairs3b ha hb m (i + 1) (by omega)
theorem pairs6c {aF bF : Int} {a b : List D} (ha : GoodD aF a) (hb : GoodD bF b) (i : Nat) (hi : i < a.length) (S : Int) (hS : 0 ≤ S ∧ S ≤ 4000000000000000) : ∀ (m k : Nat), k + m = b.length → Z92 (S + sumN (cell ltB aF a bF b i) k) i ((a.getD i (.int 0)).toInt) a a.length i b b.length k aF a bF b = some (S + sumN (cell ltB aF a bF b i) b.length, a, (a.length : Int), (i : Int), aF, a, bF, b)
 | 0, k, hk => by
  rw [Z92_fx]
  unfold c_Z92
  rw [decide_eq_false (by omega), cond_false, show k = b.length by omega]
 | m + 1, k, hk => by
  have n60 := ha.n60
  have n60' := hb.n60
  have f1 := ha.f1
  have f2 := ha.f2
  have f1' := hb.f1
  have f2' := hb.f2
  have r := row_bd (R := ltB) ha hb i k (by omega)
  have p := prod12 (ha.vbd (i : Int)) (hb.vbd (k : Int))
  have ih := pairs6c ha hb i hi S hS m (k + 1) (by omega)
  have e : sumN (cell ltB aF a bF b i) (k + 1) = sumN (cell ltB aF a bF b i) k + cell ltB aF a bF b i k := rfl
  rw [e] at ih
  have hc : cell ltB aF a bF b i k = bif ltB (aF + (i : Int)) (bF + (k : Int)) then vb a (i : Int) * vb b (k : Int) else 0 := rfl
  rw [hc] at ih
  rw [Z92_fx]
  unfold c_Z92
  simp only [Z91, c_Z91]
  rw [decide_eq_true (show (k : Int) < b.length by omega), cond_true, if_pos (by omega), wrap_id (n := aF + (i : Int)) (by omega) (by omega), wrap_id (n := bF + (k : Int)) (by omega) (by omega)]
  simp only [Option.bind_some, Option.bind_fun_some]
  rw [succ_wrap (by omega)]
  cases hq : ltB (aF + (i : Int)) (bF + (k : Int)) with
  | true =>
   rw [hq, cond_true] at ih
   unfold ltB at hq
   rw [hq, cond_true, Int.toNat_natCast, ← vb_nat (show k < b.length by omega), ← vb_nat hi, wrap_id (n := vb a (i : Int) * vb b (k : Int)) (by omega) (by omega)]
   rw [← vb_nat hi] at ih
   rw [wrap_id (by omega) (by omega), Int.add_assoc]
   exact ih
  | false =>
   rw [hq, cond_false, Int.add_zero] at ih
   unfold ltB at hq
   rw [hq, cond_false]
   exact ih
theorem pairs3c {aF bF : Int} {a b : List D} (ha : GoodD aF a) (hb : GoodD bF b) : ∀ (m i : Nat), i + m = a.length → Z93 (early ltB aF a bF b i) a a.length i aF a bF b = some (early ltB aF a bF b a.length)
 | 0, i, hk => by
  rw [Z93_fx]
  unfold c_Z93
  rw [decide_eq_false (by omega), cond_false, show i = a.length by omega]
 | m + 1, i, hk => by
  have n60 := ha.n60
  have eb := early_bd (R := ltB) ha hb i (by omega)
  have e6 := pairs6c ha hb i (by omega) (early ltB aF a bF b i) (by omega) b.length 0 (by omega)
  rw [show sumN (cell ltB aF a bF b i) 0 = 0 from rfl, Int.add_zero, show ((0 : Nat) : Int) = 0 from rfl] at e6
  rw [Z93_fx]
  unfold c_Z93
  rw [decide_eq_true (by omega), cond_true, if_pos (by omega), Int.toNat_natCast, e6]
  simp only [Option.bind_some, Option.bind_fun_some]
  rw [succ_wrap (by omega)]
  exact pairs3c ha hb m (i + 1) (by omega)
theorem least_eq (a b : Int) : Z59 a b = some (if b < a then b else a) := by
 unfold Z59 c_Z59
 by_cases h : a < b
 ·rw [decide_eq_true h, if_neg (by omega)]; rfl
 ·rw [decide_eq_false h, cond_false]
  by_cases h2 : b < a
  ·rw [if_pos h2]
  ·rw [if_neg h2, show a = b by omega]
theorem most_eq (a b : Int) : Z60 a b = some (if b > a then b else a) := by
 unfold Z60 c_Z60
 by_cases h : b < a
 ·rw [decide_eq_true h, if_neg (by omega)]; rfl
 ·rw [decide_eq_false h, cond_false]
  by_cases h2 : b > a
  ·rw [if_pos h2]
  ·rw [if_neg h2, show a = b by omega]
def fF (l : List D) (i : Nat) : Int := ((l.getD i (.int 0)).fld 0).toInt
def fW (l : List D) (i : Nat) : List D := ((l.getD i (.int 0)).fld 1).items
def fS (l : List D) (i : Nat) : Int := pf (fW l i) (fW l i).length
def fP (l : List D) : Nat → Int
 | 0 => 1
 | i + 1 => fP l i * fS l i
def fLo (l : List D) : Nat → Int
 | 0 => 2100
 | i + 1 => if fF l i < fLo l i then fF l i else fLo l i
def fHi (l : List D) : Nat → Int
 | 0 => -20000
 | i + 1 => if fF l i + ((fW l i).length : Int) - 1 > fHi l i then fF l i + ((fW l i).length : Int) - 1 else fHi l i
def Fine (l : List D) (n : Nat) : Prop := ∀ i, i < n → GoodD (fF l i) (fW l i) ∧ fP l i * fS l i ≤ 1000000000000000
theorem fS_bd {l : List D} {i : Nat} (h : GoodD (fF l i) (fW l i)) : 1 ≤ fS l i ∧ fS l i ≤ 60000000 := by
 have n1 := h.n1
 have w0 := h.w0
 have e := pf_succ (l := fW l i) (i := 0) (by omega)
 have m := pf_mono h.bd (show 0 + 1 ≤ (fW l i).length by omega) (Nat.le_refl _)
 rw [pf_zero] at e
 have := h.sbd
 unfold fS
 omega
theorem fP_bd {l : List D} : ∀ {n : Nat}, Fine l n → 1 ≤ fP l n ∧ fP l n ≤ 1000000000000000
 | 0, _ => by unfold fP; omega
 | n + 1, h => by
  have ih := fP_bd (n := n) (fun i hi => h i (by omega))
  obtain ⟨h1, h2⟩ := h n (by omega)
  have s := fS_bd h1
  have := Int.mul_pos (show 0 < fP l n by omega) (show 0 < fS l n by omega)
  show 1 ≤ fP l n * fS l n ∧ fP l n * fS l n ≤ _
  omega
theorem fLo_le {l : List D} : ∀ {n i : Nat}, i < n → fLo l n ≤ fF l i
 | 0, i, h => by omega
 | n + 1, i, h => by
  unfold fLo
  by_cases hi : i = n
  ·subst hi; split <;> omega
  ·have := fLo_le (l := l) (n := n) (i := i) (by omega)
   split <;> omega
theorem fHi_ge {l : List D} : ∀ {n i : Nat}, i < n → fF l i + ((fW l i).length : Int) - 1 ≤ fHi l n
 | 0, i, h => by omega
 | n + 1, i, h => by
  unfold fHi
  by_cases hi : i = n
  ·subst hi; split <;> omega
  ·have := fHi_ge (l := l) (n := n) (i := i) (by omega)
   split <;> omega
theorem fLo_bd {l : List D} : ∀ {n : Nat}, Fine l n → -20000 ≤ fLo l n ∧ fLo l n ≤ 2100
 | 0, _ => by unfold fLo; omega
 | n + 1, h => by
  have ih := fLo_bd (n := n) (fun i hi => h i (by omega))
  have g := (h n (by omega)).1
  have f1 := g.f1
  have f2 := g.f2
  unfold fLo
  split <;> omega
theorem fHi_bd {l : List D} : ∀ {n : Nat}, Fine l n → -20000 ≤ fHi l n ∧ fHi l n ≤ 2100
 | 0, _ => by unfold fHi; omega
 | n + 1, h => by
  have ih := fHi_bd (n := n) (fun i hi => h i (by omega))
  have g := (h n (by omega)).1
  have f1 := g.f1
  have f2 := g.f2
  have n1 := g.n1
  unfold fHi
  split <;> omega
theorem check6 {l : List D} (hl : l.length ≤ 10) (hw : ∀ i, i < l.length → (fW l i).length ≤ 1000) : ∀ (k i : Nat), i + k = l.length → Fine l i →
  (∃ u v s t, Z37 l (fP l i) (fLo l i) (fHi l i) l l.length i 0 = some (.inl (l, false, u, v, 0)) ∧ Z61 l (fLo l i) (fHi l i) (fP l i) i 0 0 = some (.inl (l, false, s, t, 0, 0))) ∨
  (Fine l l.length ∧ Z37 l (fP l i) (fLo l i) (fHi l i) l l.length i 0 = some (.inr (l, fLo l l.length, fHi l l.length, 0)) ∧ Z61 l (fLo l i) (fHi l i) (fP l i) i 0 0 = some (.inr (l, fLo l l.length, fHi l l.length, 0, 0)))
 | 0, i, hi, hF => by
  right
  rw [show i = l.length by omega] at hF ⊢
  refine ⟨hF, ?_, ?_⟩
  ·rw [Z37_fx]
   unfold c_Z37
   rw [decide_eq_false (by omega), cond_false]
  ·rw [Z61_fx]
   unfold c_Z61
   rw [decide_eq_false (by omega), cond_false]
 | k + 1, i, hi, hF => by
  have hwi := hw i (by omega)
  rw [Z37_fx, Z61_fx]
  unfold c_Z37 c_Z61
  rw [decide_eq_true (show (i : Int) < l.length by omega), cond_true, cond_true]
  simp only [if_pos (show 0 ≤ (i : Int) ∧ (i : Int) < l.length by omega)]
  rw [Int.toNat_natCast, show ((l.getD i (.int 0)).fld 0).toInt = fF l i from rfl, show ((l.getD i (.int 0)).fld 1).items = fW l i from rfl, goodI (fF l i) (fW l i) (by omega), goodS (fF l i) (fW l i) (by omega)]
  simp only [Option.bind_some]
  cases hg : goodB (fF l i) (fW l i) with
  | false => left; exact ⟨_, _, _, _, rfl, rfl⟩
  | true =>
   have g := goodB_iff.1 hg
   have s := fS_bd g
   have p := fP_bd hF
   have n60 := g.n60
   have n1 := g.n1
   have f1 := g.f1
   have f2 := g.f2
   simp only [Z36, c_Z36, Z24, c_Z24, sumI_eq g.bd (show (0 : Int) ≤ 1000000 by omega) (show (fW l i).length ≤ 1048576 by omega), sumS_eq g.bd (show (0 : Int) ≤ 1000000 by omega) (show (fW l i).length ≤ 1048576 by omega), Option.bind_some, Bool.not_true, cond_false, least_eq, most_eq, Option.bind_fun_some]
   rw [show pf (fW l i) (fW l i).length = fS l i from rfl, if_pos (show fS l i ≠ 0 by omega), if_pos (show fS l i ≠ 0 by omega), Int.tdiv_eq_ediv_of_nonneg (by omega)]
   have q0 : 0 ≤ (1000000000000000 : Int) / fS l i := Int.ediv_nonneg (by omega) (by omega)
   have q1 : (1000000000000000 : Int) / fS l i ≤ 1000000000000000 := Int.ediv_le_self _ (by omega)
   rw [wrap_id (n := (1000000000000000 : Int) / fS l i) (by omega) (by omega)]
   by_cases hb : (1000000000000000 : Int) / fS l i < fP l i
   ·left
    rw [decide_eq_true hb]
    exact ⟨_, _, _, _, rfl, rfl⟩
   ·have hle : fP l i * fS l i ≤ 1000000000000000 := by
     have := Int.mul_le_mul_of_nonneg_right (show fP l i ≤ (1000000000000000 : Int) / fS l i by omega) (show 0 ≤ fS l i by omega)
     have := Int.ediv_mul_le (1000000000000000 : Int) (show fS l i ≠ 0 by omega)
     omega
    have hpos := Int.mul_pos (show 0 < fP l i by omega) (show 0 < fS l i by omega)
    rw [decide_eq_false hb, cond_false, cond_false, wrap_id (n := fP l i * fS l i) (by omega) (by omega), wrap_id (n := fF l i + ((fW l i).length : Int)) (by omega) (by omega), wrap_id (n := fF l i + ((fW l i).length : Int) - 1) (by omega) (by omega), succ_wrap (by omega)]
    exact check6 hl hw k (i + 1) (by omega) (fun j hj => by
     by_cases hji : j = i
     ·subst hji; exact ⟨g, hle⟩
     ·exact hF j (by omega))
def cl (l : List D) (i : Nat) (y : Int) : Nat := min (fW l i).length (y - fF l i + 1).toNat
def fU (l : List D) (i : Nat) (y : Int) : Int := pf (fW l i) (cl l i y)
def fN (l : List D) (y : Int) : Nat → Int
 | 0 => 1
 | i + 1 => fN l y i * fU l i y
theorem fU_bd {l : List D} {i : Nat} (g : GoodD (fF l i) (fW l i)) (y : Int) : 0 ≤ fU l i y ∧ fU l i y ≤ fS l i := by
 have := pf_bd g.bd (by omega) (cl l i y) (Nat.min_le_left _ _)
 have := pf_mono g.bd (show cl l i y ≤ (fW l i).length from Nat.min_le_left _ _) (Nat.le_refl _)
 unfold fU fS
 omega
theorem fU_mono {l : List D} {i : Nat} (g : GoodD (fF l i) (fW l i)) (y : Int) : fU l i (y - 1) ≤ fU l i y := by
 unfold fU
 exact pf_mono g.bd (by unfold cl; omega) (Nat.min_le_left _ _)
theorem fU_zero {l : List D} {i : Nat} {y : Int} (h : y < fF l i) : fU l i y = 0 := by
 unfold fU
 rw [show cl l i y = 0 by unfold cl; omega, pf_zero]
theorem fN_bd {l : List D} (y : Int) : ∀ {n : Nat}, Fine l n → 0 ≤ fN l y n ∧ fN l y n ≤ fP l n
 | 0, _ => by unfold fN fP; omega
 | n + 1, h => by
  have ih := fN_bd y (n := n) (fun i hi => h i (by omega))
  have u := fU_bd (h n (by omega)).1 y
  have p1 := Int.mul_nonneg ih.1 u.1
  have p2 : fN l y n * fU l n y ≤ fP l n * fS l n := Int.mul_le_mul ih.2 u.2 u.1 (by omega)
  exact ⟨p1, p2⟩
theorem fN_mono {l : List D} (y : Int) : ∀ {n : Nat}, Fine l n → fN l (y - 1) n ≤ fN l y n
 | 0, _ => Int.le_refl _
 | n + 1, h => by
  have ih := fN_mono y (n := n) (fun i hi => h i (by omega))
  have b := fN_bd y (n := n) (fun i hi => h i (by omega))
  have u := fU_bd (h n (by omega)).1 (y - 1)
  exact Int.mul_le_mul ih (fU_mono (h n (by omega)).1 y) u.1 b.1
theorem fN_pos {l : List D} {y : Int} : ∀ {n : Nat}, fN l y n ≠ 0 → ∀ i, i < n → fF l i ≤ y
 | 0, _, i, hi => by omega
 | n + 1, h, i, hi => by
  have h : fN l y n * fU l n y ≠ 0 := h
  by_cases hin : i = n
  ·subst hin
   apply Classical.byContradiction
   intro hc
   rw [fU_zero (by omega), Int.mul_zero] at h
   exact h rfl
  ·refine fN_pos (n := n) (fun h0 => ?_) i (by omega)
   rw [h0, Int.zero_mul] at h
   exact h rfl
theorem up27 {l : List D} {i : Nat} (g : GoodD (fF l i) (fW l i)) (y : Int) (hy : -30000 ≤ y ∧ y ≤ 30000) (a1 a2 a3 a5 a8 a9 a13 : Int) (a0 a7 a14 : List D) : ∀ (m k : Nat), k + m = (fW l i).length →
  Z38 a0 a1 a2 a3 y a5 (pf (fW l i) (min k (y - fF l i + 1).toNat)) a7 a8 a9 (fW l i) (fW l i).length k a13 a14 (fF l i) (fW l i) = some (a0, a1, a2, a3, y, a5, fU l i y, a7, a8, a9, a13, a14)
 | 0, k, hk => by
  rw [Z38_fx]
  unfold c_Z38
  rw [decide_eq_false (by omega), cond_false, show k = (fW l i).length by omega]; rfl
 | m + 1, k, hk => by
  have n60 := g.n60
  have f1 := g.f1
  have f2 := g.f2
  have b := pf_bd g.bd (by omega) (k + 1) (by omega)
  have e := pf_succ (l := fW l i) (i := k) (by omega)
  have ih := up27 g y hy a1 a2 a3 a5 a8 a9 a13 a0 a7 a14 m (k + 1) (by omega)
  rw [Z38_fx]
  unfold c_Z38
  rw [decide_eq_true (show (k : Int) < (fW l i).length by omega), cond_true, if_pos (by omega), wrap_id (n := fF l i + (k : Int)) (by omega) (by omega), succ_wrap (by omega), Int.toNat_natCast]
  simp only [Option.bind_fun_some]
  by_cases h : fF l i + (k : Int) ≤ y
  ·rw [show min (k + 1) (y - fF l i + 1).toNat = k + 1 by omega, e] at ih
   rw [decide_eq_true h, cond_true, show min k (y - fF l i + 1).toNat = k by omega, wrap_id (by omega) (by omega)]
   exact ih
  ·rw [show min (k + 1) (y - fF l i + 1).toNat = (y - fF l i + 1).toNat by omega] at ih
   rw [decide_eq_false h, cond_false, show min k (y - fF l i + 1).toNat = (y - fF l i + 1).toNat by omega]
   exact ih
theorem until_eq {l : List D} {i : Nat} (g : GoodD (fF l i) (fW l i)) (y : Int) (hy : -30000 ≤ y ∧ y ≤ 30000) : Z62 (fF l i) (fW l i) y = some (fU l i y) := by
 have n60 := g.n60
 have f1 := g.f1
 have f2 := g.f2
 have hz : (if ((fW l i).length : Int) < (if (0 : Int) > y - fF l i + 1 then 0 else y - fF l i + 1) then ((fW l i).length : Int) else (if (0 : Int) > y - fF l i + 1 then 0 else y - fF l i + 1)) = ((cl l i y : Nat) : Int) := by
  unfold cl
  split <;> split <;> omega
 have hc : cl l i y ≤ (fW l i).length := Nat.min_le_left _ _
 simp only [Z62, c_Z62]
 rw [wrap_id (n := y - fF l i) (by omega) (by omega), wrap_id (n := y - fF l i + 1) (by omega) (by omega), most_eq]
 simp only [Option.bind_some, least_eq]
 rw [hz, if_pos (by omega)]
 simp only [Int.toNat_natCast, Int.toNat_zero, Nat.sub_zero, List.drop_zero]
 have hbd : bdL 1000000 ((fW l i).take (cl l i y)) := ⟨fun d hd => g.ok d (List.mem_of_mem_take hd), by simp only [List.length_take]; omega⟩
 rw [sumS_eq hbd (by omega) (by simp only [List.length_take]; omega)]
 simp only [Option.bind_some]
 rw [pf_all]
 unfold fU pf iw
 rw [List.map_take]
theorem prod23 {l : List D} (hF : Fine l l.length) (hl : l.length ≤ 10) (y : Int) (hy : -30000 ≤ y ∧ y ≤ 30000) (a1 a2 a3 a9 : Int) (a0 a10 : List D) : ∀ (m i : Nat), i + m = l.length →
  Z39 a0 a1 a2 a3 y (fN l y i) l l.length i a9 a10 = some (a0, a1, a2, a3, y, fN l y l.length, a9, a10)
 | 0, i, hi => by
  rw [Z39_fx]
  unfold c_Z39
  rw [decide_eq_false (by omega), cond_false, show i = l.length by omega]
 | m + 1, i, hi => by
  have g := (hF i (by omega)).1
  have u := up27 g y hy a1 a2 a3 (fN l y i) l.length i a9 a0 l a10 (fW l i).length 0 (by omega)
  rw [Nat.zero_min, pf_zero, show ((0 : Nat) : Int) = 0 from rfl] at u
  have b := fN_bd y (n := i + 1) (fun j hj => hF j (by omega))
  have b2 := fP_bd (n := i + 1) (fun j hj => hF j (by omega))
  have e : fN l y (i + 1) = fN l y i * fU l i y := rfl
  rw [Z39_fx]
  unfold c_Z39
  rw [decide_eq_true (show (i : Int) < l.length by omega), cond_true, if_pos (by omega), Int.toNat_natCast, show ((l.getD i (.int 0)).fld 0).toInt = fF l i from rfl, show ((l.getD i (.int 0)).fld 1).items = fW l i from rfl, u]
  simp only [Option.bind_some, Option.bind_fun_some]
  rw [← e, wrap_id (n := fN l y (i + 1)) (by omega) (by omega), succ_wrap (by omega)]
  exact prod23 hF hl y hy a1 a2 a3 a9 a0 a10 m (i + 1) (by omega)
theorem prod22 {l : List D} (hF : Fine l l.length) (hl : l.length ≤ 10) (y : Int) (hy : -30000 ≤ y ∧ y ≤ 30000) (a1 a2 a3 a7 : Int) (a8 : List D) : ∀ (m i : Nat), i + m = l.length →
  Z63 l a1 a2 a3 y (fN l y i) i a7 a8 = some (l, a1, a2, a3, y, fN l y l.length, a7, a8)
 | 0, i, hi => by
  rw [Z63_fx]
  unfold c_Z63
  rw [decide_eq_false (by omega), cond_false, show i = l.length by omega]
 | m + 1, i, hi => by
  have g := (hF i (by omega)).1
  have b := fN_bd y (n := i + 1) (fun j hj => hF j (by omega))
  have b2 := fP_bd (n := i + 1) (fun j hj => hF j (by omega))
  have e : fN l y (i + 1) = fN l y i * fU l i y := rfl
  rw [Z63_fx]
  unfold c_Z63
  rw [decide_eq_true (show (i : Int) < l.length by omega), cond_true, if_pos (by omega), Int.toNat_natCast, show ((l.getD i (.int 0)).fld 0).toInt = fF l i from rfl, show ((l.getD i (.int 0)).fld 1).items = fW l i from rfl, until_eq g y hy]
  simp only [Option.bind_some, Option.bind_fun_some]
  rw [← e, wrap_id (n := fN l y (i + 1)) (by omega) (by omega), succ_wrap (by omega)]
  exact prod22 hF hl y hy a1 a2 a3 a7 a8 m (i + 1) (by omega)
def gN (l : List D) (f : Int) (t : Nat) : Int := fN l (f + (t : Int)) l.length - fN l (f + (t : Int) - 1) l.length
theorem gN_bd {l : List D} (hF : Fine l l.length) (f : Int) (t : Nat) : 0 ≤ gN l f t ∧ gN l f t ≤ 1000000000000000 := by
 have b1 := fN_bd (f + (t : Int)) hF
 have b2 := fN_bd (f + (t : Int) - 1) hF
 have m := fN_mono (f + (t : Int)) hF
 have p := fP_bd hF
 unfold gN
 omega
theorem years19 {l : List D} (hF : Fine l l.length) (hl : l.length ≤ 10) (f : Int) (hf : -20000 ≤ f ∧ f ≤ 2100) (n : Nat) (hn : n ≤ 200) (z : Int) : ∀ (m t : Nat), t + m = n →
  Z40 l f (f + (n : Int) - 1) (fN l (f + (t : Int) - 1) l.length) (f + (t : Int)) z (listD t (gN l f)) = some (f, z, listD n (gN l f)) ∧
  Z64 l f (f + (n : Int) - 1) (fN l (f + (t : Int) - 1) l.length) (f + (t : Int)) z (listD t (gN l f)) = some (f, z, listD n (gN l f))
 | 0, t, ht => by
  rw [Z40_fx, Z64_fx]
  unfold c_Z40 c_Z64
  rw [decide_eq_false (by omega), cond_false, cond_false, show t = n by omega]
  exact ⟨rfl, rfl⟩
 | m + 1, t, ht => by
  have b := gN_bd hF f t
  have u1 := prod23 hF hl (f + (t : Int)) (by omega) f (f + (n : Int) - 1) (fN l (f + (t : Int) - 1) l.length) z l (listD t (gN l f)) l.length 0 (by omega)
  have u2 := prod22 hF hl (f + (t : Int)) (by omega) f (f + (n : Int) - 1) (fN l (f + (t : Int) - 1) l.length) z (listD t (gN l f)) l.length 0 (by omega)
  rw [show fN l (f + (t : Int)) 0 = 1 from rfl, show ((0 : Nat) : Int) = 0 from rfl] at u1 u2
  rw [Z40_fx, Z64_fx]
  unfold c_Z40 c_Z64
  rw [decide_eq_true (show f + (t : Int) ≤ f + (n : Int) - 1 by omega), cond_true, cond_true, u1, u2]
  simp only [Option.bind_some, Option.bind_fun_some]
  rw [show fN l (f + (t : Int)) l.length - fN l (f + (t : Int) - 1) l.length = gN l f t from rfl, wrap_id (n := gN l f t) (by omega) (by omega), if_pos (by rw [listD_len]; simp only [List.length_cons, List.length_nil]; omega), if_pos (by rw [listD_len]; simp only [List.length_cons, List.length_nil]; omega), wrap_id (n := f + (t : Int) + 1) (by omega) (by omega), ← listD_succ, show f + (t : Int) + 1 = f + ((t + 1 : Nat) : Int) by omega]
  have ih := years19 hF hl f hf n hn z m (t + 1) (by omega)
  rw [show f + ((t + 1 : Nat) : Int) - 1 = f + (t : Int) by omega] at ih
  exact ih
def mx (g : Nat → Int) : Nat → Int
 | 0 => 0
 | i + 1 => if g i > mx g i then g i else mx g i
theorem mx_ge {g : Nat → Int} : ∀ {n i : Nat}, i < n → g i ≤ mx g n
 | 0, i, h => by omega
 | n + 1, i, h => by
  unfold mx
  by_cases hi : i = n
  ·subst hi; split <;> omega
  ·have := mx_ge (g := g) (n := n) (i := i) (by omega)
   split <;> omega
theorem mx_bd {g : Nat → Int} (h : ∀ i, g i ≤ 1000000000000000) : ∀ n, 0 ≤ mx g n ∧ mx g n ≤ 1000000000000000
 | 0 => by unfold mx; omega
 | n + 1 => by
  have := mx_bd h n
  have := h n
  unfold mx
  split <;> omega
def qq (g : Nat → Int) (n : Nat) : Int := (mx g n - 1).tdiv 1000000 + 1
theorem maxI {g : Nat → Int} (h : ∀ i, 0 ≤ g i) (n : Nat) (hn : 1 ≤ n ∧ n ≤ 1000) : Z42 (listD n g) = some (mx g n) := by
 have loop : ∀ (m i : Nat), i + m = n → Z41 (listD n g) (mx g i) i = some (mx g n) := by
  intro m
  induction m with
  | zero =>
   intro i hi
   rw [Z41_fx]
   unfold c_Z41
   rw [decide_eq_false (by rw [listD_len]; omega), cond_false, show i = n by omega]
  | succ m ih =>
   intro i hi
   rw [Z41_fx]
   unfold c_Z41
   rw [decide_eq_true (by rw [listD_len]; omega), cond_true, if_pos (by rw [listD_len]; omega), Int.toNat_natCast, listD_get (by omega), toInt_int, succ_wrap (by omega)]
   simp only [Option.bind_fun_some]
   exact ih (i + 1) (by omega)
 have e := loop (n - 1) 1 (by omega)
 have h1 : mx g 1 = g 0 := by
  have := h 0
  show (if g 0 > 0 then g 0 else 0) = g 0
  split <;> omega
 rw [h1, show ((1 : Nat) : Int) = 1 from rfl] at e
 simp only [Z42, c_Z42, listD_len]
 rw [decide_eq_false (by omega), cond_false, if_pos (by omega), Int.toNat_zero, listD_get (by omega), toInt_int, e]
 rfl
theorem scaleI (f z : Int) {g : Nat → Int} {n : Nat} (hn : n ≤ 1000) (q : Int) (hq : 1 ≤ q ∧ q ≤ 2000000000) (h : ∀ i, 0 ≤ g i ∧ g i ≤ 1000000000000000) : ∀ (m i : Nat), i + m = n →
  Z43 f q (listD n g) n i z (listD i (fun i => (g i).tdiv q)) = some (f, z, listD n (fun i => (g i).tdiv q))
 | 0, i, hi => by
  rw [Z43_fx]
  unfold c_Z43
  rw [decide_eq_false (by omega), cond_false, show i = n by omega]
 | m + 1, i, hi => by
  have b := h i
  have q0 := Int.ediv_nonneg b.1 (show 0 ≤ q by omega)
  have q1 := Int.ediv_le_self q b.1
  rw [Z43_fx]
  unfold c_Z43
  rw [decide_eq_true (by omega), cond_true, if_pos (by rw [listD_len]; omega), if_pos (by omega), Int.toNat_natCast, listD_get (by omega), toInt_int, if_pos (by rw [listD_len]; simp only [List.length_cons, List.length_nil]; omega)]
  rw [wrap_id (n := (g i).tdiv q) (by rw [Int.tdiv_eq_ediv_of_nonneg b.1]; omega) (by rw [Int.tdiv_eq_ediv_of_nonneg b.1]; omega), succ_wrap (by omega), ← listD_succ i (fun i => (g i).tdiv q)]
  simp only [Option.bind_fun_some]
  exact scaleI f z hn q hq h m (i + 1) (by omega)
theorem scaleS (f z : Int) {g : Nat → Int} {n : Nat} (hn : n ≤ 1000) (q : Int) (hq : 1 ≤ q ∧ q ≤ 2000000000) (h : ∀ i, 0 ≤ g i ∧ g i ≤ 1000000000000000) : ∀ (m i : Nat), i + m = n →
  Z66 f (listD n g) q i z (listD i (fun i => (g i).tdiv q)) = some (f, z, listD n (fun i => (g i).tdiv q))
 | 0, i, hi => by
  rw [Z66_fx]
  unfold c_Z66
  rw [decide_eq_false (by rw [listD_len]; omega), cond_false, show i = n by omega]
 | m + 1, i, hi => by
  have b := h i
  have q0 := Int.ediv_nonneg b.1 (show 0 ≤ q by omega)
  have q1 := Int.ediv_le_self q b.1
  rw [Z66_fx]
  unfold c_Z66
  rw [decide_eq_true (by rw [listD_len]; omega), cond_true, if_pos (by rw [listD_len]; omega), if_pos (by omega), Int.toNat_natCast, listD_get (by omega), toInt_int, if_pos (by rw [listD_len]; simp only [List.length_cons, List.length_nil]; omega)]
  rw [wrap_id (n := (g i).tdiv q) (by rw [Int.tdiv_eq_ediv_of_nonneg b.1]; omega) (by rw [Int.tdiv_eq_ediv_of_nonneg b.1]; omega), succ_wrap (by omega), ← listD_succ i (fun i => (g i).tdiv q)]
  simp only [Option.bind_fun_some]
  exact scaleS f z hn q hq h m (i + 1) (by omega)
theorem mostS (f z : Int) {g : Nat → Int} {n : Nat} (hn : n ≤ 1000) : ∀ (m i : Nat), i + m = n →
  Z65 f (listD n g) (if mx g i > 1 then mx g i else 1) i z = some (f, listD n g, (if mx g n > 1 then mx g n else 1), z)
 | 0, i, hi => by
  rw [Z65_fx]
  unfold c_Z65
  rw [decide_eq_false (by rw [listD_len]; omega), cond_false, show i = n by omega]
 | m + 1, i, hi => by
  rw [Z65_fx]
  unfold c_Z65
  rw [decide_eq_true (by rw [listD_len]; omega), cond_true, if_pos (by rw [listD_len]; omega), Int.toNat_natCast, listD_get (by omega), toInt_int, most_eq, succ_wrap (by omega)]
  simp only [Option.bind_some, Option.bind_fun_some]
  have e : (if g i > (if mx g i > 1 then mx g i else 1) then g i else (if mx g i > 1 then mx g i else 1)) = (if mx g (i + 1) > 1 then mx g (i + 1) else 1) := by
   show _ = (if (if g i > mx g i then g i else mx g i) > 1 then (if g i > mx g i then g i else mx g i) else 1)
   (repeat' split) <;> omega
  rw [e]
  exact mostS f z hn m (i + 1) (by omega)
theorem scaled_ok (f : Int) (hf : -20000 ≤ f ∧ f ≤ 2100) {g : Nat → Int} (n : Nat) (hn : 1 ≤ n ∧ n ≤ 200) (h : ∀ i, 0 ≤ g i ∧ g i ≤ 1000000000000000) :
  ∃ r, Z55 f (listD n g) = some r ∧ Z67 f (listD n g) = some r ∧ Red f (listD n (fun i => (g i).tdiv (qq g n))) r := by
 have mb := mx_bd (fun i => (h i).2) n
 have hq : 1 ≤ qq g n ∧ qq g n ≤ 2000000000 ∧ mx g n ≤ 1000000 * qq g n := by
  unfold qq
  by_cases h0 : mx g n = 0
  ·rw [h0, show ((0 : Int) - 1).tdiv 1000000 = 0 by decide]; omega
  ·rw [Int.tdiv_eq_ediv_of_nonneg (by omega)]; omega
 have hqs : IntKind.i64.wrap (IntKind.i64.wrap ((IntKind.i64.wrap (mx g n - 1)).tdiv 1000000) + 1) = qq g n := by
  rw [wrap_id (n := mx g n - 1) (by omega) (by omega)]
  unfold qq at hq ⊢
  rw [wrap_id (n := (mx g n - 1).tdiv 1000000) (by omega) (by omega), wrap_id (by omega) (by omega)]
 have hqs2 : IntKind.i64.wrap (IntKind.i64.wrap ((IntKind.i64.wrap ((if mx g n > 1 then mx g n else 1) - 1)).tdiv 1000000) + 1) = qq g n := by
  by_cases h1 : mx g n > 1
  ·rw [if_pos h1]; exact hqs
  ·rw [if_neg h1, ← hqs]
   have : mx g n = 0 ∨ mx g n = 1 := by omega
   rcases this with e | e <;> rw [e] <;> decide
 have hb : ∀ i, i < n → 0 ≤ (fun i => (g i).tdiv (qq g n)) i ∧ (fun i => (g i).tdiv (qq g n)) i ≤ 1000000 := by
  intro i hi
  have b := h i
  have m := mx_ge (g := g) hi
  show 0 ≤ (g i).tdiv (qq g n) ∧ (g i).tdiv (qq g n) ≤ 1000000
  rw [Int.tdiv_eq_ediv_of_nonneg b.1]
  refine ⟨Int.ediv_nonneg b.1 (by omega), ?_⟩
  have := Int.ediv_le_ediv (c := qq g n) (by omega) (show g i ≤ 1000000 * qq g n by omega)
  rw [Int.mul_ediv_cancel _ (by omega)] at this
  exact this
 have hall := listD_all (P := fun x => 0 ≤ x ∧ x ≤ 1000000) hb
 obtain ⟨r, r1, r2⟩ := redI f (by omega) (l := listD n (fun i => (g i).tdiv (qq g n))) ⟨fun d hd => by have := hall d hd; omega, by rw [listD_len]; omega⟩
 obtain ⟨s, s1, s2⟩ := redS f (by omega) (l := listD n (fun i => (g i).tdiv (qq g n))) ⟨fun d hd => (hall d hd).1, by rw [listD_len]; omega, fun d hd => by have := hall d hd; omega⟩
 have hrs : s = r := Red_uniq (fun d hd => (hall d hd).1) (fun d hd => (hall d hd).1) s2 r2 (fun y => rfl)
 subst hrs
 refine ⟨s, ?_, ?_, r2⟩
 ·have e := scaleI f 0 (n := n) (by omega) (qq g n) ⟨hq.1, hq.2.1⟩ h n 0 (by omega)
  rw [show ((0 : Nat) : Int) = 0 from rfl, show listD 0 (fun i => (g i).tdiv (qq g n)) = [] from rfl] at e
  have hm : firstN (badM (listD n (fun i => (g i).tdiv (qq g n)))) (listD n (fun i => (g i).tdiv (qq g n))).length = none := by
   cases hfn : firstN (badM (listD n (fun i => (g i).tdiv (qq g n)))) (listD n (fun i => (g i).tdiv (qq g n))).length with
   | none => rfl
   | some i =>
    obtain ⟨q1, q2, _⟩ := firstN_some hfn
    have := hall _ (getD_mem q1)
    unfold badM at q2
    rw [btw_iff.2 (show 0 ≤ ((listD n (fun i => (g i).tdiv (qq g n))).getD i (D.int 0)).toInt ∧ ((listD n (fun i => (g i).tdiv (qq g n))).getD i (D.int 0)).toInt ≤ 1000000000000 by omega)] at q2
    cases q2
  have hy : btw f (-20000) 2100 = true := btw_iff.2 ⟨by omega, by omega⟩
  simp only [Z55, c_Z55, maxI (fun i => (h i).1) n (by omega), Option.bind_some, hqs, listD_len, e, Z54, c_Z54, Z23, c_Z23, within_eq, hy, Bool.not_true, cond_false]
  rw [if_pos (by decide), decide_eq_false (show ¬ (200 : Int) < (n : Int) by omega), cond_false, scanI _ (by rw [listD_len]; omega), hm]
  simp only [Option.isSome_none, Option.bind_some, cond_false, r1]
 ·have e := scaleS f 0 (n := n) (by omega) (qq g n) ⟨hq.1, hq.2.1⟩ h n 0 (by omega)
  rw [show ((0 : Nat) : Int) = 0 from rfl, show listD 0 (fun i => (g i).tdiv (qq g n)) = [] from rfl] at e
  have e3 := mostS f 0 (g := g) (n := n) (by omega) n 0 (by omega)
  rw [show mx g 0 = 0 from rfl, if_neg (show ¬ (0 : Int) > 1 by omega), show ((0 : Nat) : Int) = 0 from rfl] at e3
  simp only [Z67, c_Z67, e3, Option.bind_some, hqs2, e, s1]
  rw [if_pos (by decide)]
theorem latest {l : List D} (hl : l.length ≤ 10) (hw : ∀ i, i < l.length → (fW l i).length ≤ 1000) : ∃ r, Z56 l = some r ∧ Z68 l = some r ∧ r.2.1.length ≤ 1000 ∧ (r.2.2 = true → GoodD r.1 r.2.1 ∧ ∀ i, i < l.length → fF l i ≤ r.1) := by
 simp only [Z56, c_Z56, Z68, c_Z68, within_eq, l1In_eq, Option.bind_some]
 cases hn : btw (l.length : Int) 1 4 with
 | false => exact ⟨_, rfl, rfl, by simp, fun h => by cases h⟩
 | true =>
  have hnb := btw_iff.1 hn
  simp only [Bool.not_true, cond_false]
  have c6 := check6 hl hw l.length 0 (by omega) (fun i hi => by omega)
  rw [show fP l 0 = 1 from rfl, show fLo l 0 = 2100 from rfl, show fHi l 0 = -20000 from rfl, show ((0 : Nat) : Int) = 0 from rfl] at c6
  rcases c6 with ⟨u, v, s, t, e1, e2⟩ | ⟨hF, e1, e2⟩
  ·rw [e1, e2]
   exact ⟨_, rfl, rfl, by simp, fun h => by cases h⟩
  ·rw [e1, e2]
   simp only [Option.bind_some, Sum.elim_inr]
   have b1 := fLo_bd hF
   have b2 := fHi_bd hF
   have g0 := (hF 0 (by omega)).1
   have n1 := g0.n1
   have o1 := fLo_le (l := l) (n := l.length) (i := 0) (by omega)
   have o2 := fHi_ge (l := l) (n := l.length) (i := 0) (by omega)
   rw [wrap_id (n := fHi l l.length - fLo l l.length) (by omega) (by omega), wrap_id (n := fHi l l.length - fLo l l.length + 1) (by omega) (by omega)]
   by_cases hbig : 200 < fHi l l.length - fLo l l.length + 1
   ·rw [decide_eq_true hbig, decide_eq_true (show 200 ≤ fHi l l.length - fLo l l.length by omega)]
    exact ⟨_, rfl, rfl, by simp, fun h => by cases h⟩
   ·rw [decide_eq_false hbig, decide_eq_false (show ¬ 200 ≤ fHi l l.length - fLo l l.length by omega), cond_false, cond_false]
    obtain ⟨n, hn⟩ : ∃ n : Nat, fHi l l.length = fLo l l.length + (n : Int) - 1 := ⟨(fHi l l.length - fLo l l.length + 1).toNat, by omega⟩
    obtain ⟨y1, y2⟩ := years19 hF hl (fLo l l.length) b1 n (by omega) 0 n 0 (by omega)
    have hz : fN l (fLo l l.length + ((0 : Nat) : Int) - 1) l.length = 0 := by
     apply Classical.byContradiction
     intro hc
     have := fN_pos hc 0 (by omega)
     omega
    rw [hz, show ((0 : Nat) : Int) = 0 from rfl, Int.add_zero, show listD 0 (gN l (fLo l l.length)) = [] from rfl, ← hn] at y1 y2
    obtain ⟨r, r1, r2, r3⟩ := scaled_ok (fLo l l.length) b1 (g := gN l (fLo l l.length)) n (by omega) (fun i => gN_bd hF _ i)
    have rl := Red_len r3
    rw [listD_len] at rl
    refine ⟨r, ?_, ?_, by omega, fun hok => ?_⟩
    ·simp only [y1, Option.bind_some, r1]
    ·simp only [y2, Option.bind_some, r2]
    ·rcases r3 with ⟨-, rfl⟩ | ⟨fr, t, hlt, hc, rfl⟩
     ·cases hok
     ·cases hg : goodB (fLo l l.length + (fr : Int)) (outL (listD n (fun i => (gN l (fLo l l.length) i).tdiv (qq (gN l (fLo l l.length)) n))) fr t) with
      | false => rw [hg] at hok; cases hok
      | true =>
       rw [cond_true]
       refine ⟨goodB_iff.1 hg, fun i hi => ?_⟩
       have h0 := hc.fr0 hlt
       have hcl := hc.len
       rw [listD_len] at hcl
       unfold wt at h0
       rw [listD_get (by omega), toInt_int] at h0
       have hN : fN l (fLo l l.length + (fr : Int)) l.length ≠ 0 := by
        intro hc0
        have gb := gN_bd hF (fLo l l.length) fr
        have nb := fN_bd (fLo l l.length + (fr : Int) - 1) hF
        have : gN l (fLo l l.length) fr = 0 := by
         unfold gN at gb ⊢
         omega
        rw [this, Int.zero_tdiv] at h0
        exact h0 rfl
       exact fN_pos hN i hi
theorem quantI {f : Int} {l : List D} (h : GoodD f l) : ∃ y, Z75 f l 1 2 = some (y, true) := by
 have n1 := h.n1
 have n60 := h.n60
 have sb := h.sbd
 have key : ∀ (k i : Nat), i + k + 1 = l.length → ∃ y, Z74 1 2 (pf l i) l l.length i f l = some (.inl (y, true)) := by
  intro k
  induction k with
  | zero =>
   intro i hi
   have e := pf_succ (l := l) (i := i) (by omega)
   rw [show i + 1 = l.length by omega] at e
   rw [Z74_fx]
   unfold c_Z74
   simp only [Z36, c_Z36, sumI_eq h.bd (show (0 : Int) ≤ 1000000 by omega) (show l.length ≤ 1048576 by omega), Option.bind_some]
   rw [decide_eq_true (by omega), cond_true, if_pos (by omega), Int.toNat_natCast, ← e, wrap_id (n := 1 * pf l l.length) (by omega) (by omega), wrap_id (n := pf l l.length) (by omega) (by omega), wrap_id (n := pf l l.length * 2) (by omega) (by omega), decide_eq_true (by omega), cond_true]
   exact ⟨_, rfl⟩
  | succ k ih =>
   intro i hi
   have e := pf_succ (l := l) (i := i) (by omega)
   have b := pf_bd h.bd (by omega) (i + 1) (by omega)
   rw [Z74_fx]
   unfold c_Z74
   simp only [Z36, c_Z36, sumI_eq h.bd (show (0 : Int) ≤ 1000000 by omega) (show l.length ≤ 1048576 by omega), Option.bind_some, Option.bind_fun_some]
   rw [decide_eq_true (show (i : Int) < l.length by omega), cond_true, if_pos (by omega), Int.toNat_natCast, ← e, wrap_id (n := pf l (i + 1)) (by omega) (by omega), succ_wrap (by omega)]
   cases decide (IntKind.i64.wrap (1 * pf l l.length) ≤ IntKind.i64.wrap (pf l (i + 1) * 2)) with
   | true => exact ⟨_, rfl⟩
   | false => exact ih (i + 1) (by omega)
 obtain ⟨y, e⟩ := key (l.length - 1) 0 (by omega)
 rw [pf_zero, show ((0 : Nat) : Int) = 0 from rfl] at e
 have hfr : Z73 1 2 = some true := by
  simp only [Z73, c_Z73, within_eq, Option.bind_some]
  rfl
 refine ⟨y, ?_⟩
 simp only [Z75, c_Z75, goodI f l (by omega), goodB_iff.2 h, hfr, Option.bind_some, Bool.not_true, cond_false, e, Sum.elim_inl]
theorem res8 {aF bF : Int} {a b : List D} (ha : GoodD aF a) (hb : GoodD bF b) (i : Nat) (hi : i < a.length) (S T : Int) (hS : 0 ≤ S ∧ S ≤ 4000000000000000) (hT : 0 ≤ T ∧ T ≤ 4000000000000000) : ∀ (m k : Nat), k + m = b.length →
  Z88 (S + sumN (cell ltB aF a bF b i) k) (T + sumN (cell leB aF a bF b i) k) i k aF a bF b = some (S + sumN (cell ltB aF a bF b i) b.length, T + sumN (cell leB aF a bF b i) b.length, (i : Int), aF, a, bF, b)
 | 0, k, hk => by
  rw [Z88_fx]
  unfold c_Z88
  rw [decide_eq_false (by omega), cond_false, show k = b.length by omega]
 | m + 1, k, hk => by
  have n60 := ha.n60
  have n60' := hb.n60
  have f1 := ha.f1
  have f2 := ha.f2
  have f1' := hb.f1
  have f2' := hb.f2
  have r1 := row_bd (R := ltB) ha hb i k (by omega)
  have r2 := row_bd (R := leB) ha hb i k (by omega)
  have p := prod12 (ha.vbd (i : Int)) (hb.vbd (k : Int))
  have ih := res8 ha hb i hi S T hS hT m (k + 1) (by omega)
  rw [show sumN (cell ltB aF a bF b i) (k + 1) = sumN (cell ltB aF a bF b i) k + (bif decide (aF + (i : Int) < bF + (k : Int)) then vb a (i : Int) * vb b (k : Int) else 0) from rfl, show sumN (cell leB aF a bF b i) (k + 1) = sumN (cell leB aF a bF b i) k + (bif decide (aF + (i : Int) ≤ bF + (k : Int)) then vb a (i : Int) * vb b (k : Int) else 0) from rfl] at ih
  rw [Z88_fx]
  unfold c_Z88
  rw [decide_eq_true (show (k : Int) < b.length by omega), cond_true, if_pos (by omega), if_pos (by omega), wrap_id (n := aF + (i : Int)) (by omega) (by omega), wrap_id (n := bF + (k : Int)) (by omega) (by omega), Int.toNat_natCast, Int.toNat_natCast, ← vb_nat (show k < b.length by omega), ← vb_nat hi, succ_wrap (by omega), wrap_id (n := vb a (i : Int) * vb b (k : Int)) (by omega) (by omega), wrap_id (n := S + sumN (cell ltB aF a bF b i) k + vb a (i : Int) * vb b (k : Int)) (by omega) (by omega), wrap_id (n := T + sumN (cell leB aF a bF b i) k + vb a (i : Int) * vb b (k : Int)) (by omega) (by omega)]
  simp only [Option.bind_fun_some]
  rw [← Int.add_assoc, ← Int.add_assoc] at ih
  by_cases h1 : aF + (i : Int) < bF + (k : Int)
  ·rw [decide_eq_true h1, decide_eq_true (show aF + (i : Int) ≤ bF + (k : Int) by omega)] at ih ⊢
   exact ih
  ·by_cases h2 : aF + (i : Int) ≤ bF + (k : Int)
   ·rw [decide_eq_false h1, decide_eq_true h2, cond_true, cond_false, Int.add_zero] at ih
    rw [decide_eq_false h1, decide_eq_true h2]
    exact ih
   ·rw [decide_eq_false h1, decide_eq_false h2, cond_false, Int.add_zero, Int.add_zero] at ih
    rw [decide_eq_false h1, decide_eq_false h2]
    exact ih
theorem res5 {aF bF : Int} {a b : List D} (ha : GoodD aF a) (hb : GoodD bF b) : ∀ (m i : Nat), i + m = a.length → Z89 (early ltB aF a bF b i) (early leB aF a bF b i) i aF a bF b = some (early ltB aF a bF b a.length, early leB aF a bF b a.length)
 | 0, i, hk => by
  rw [Z89_fx]
  unfold c_Z89
  rw [decide_eq_false (by omega), cond_false, show i = a.length by omega]
 | m + 1, i, hk => by
  have n60 := ha.n60
  have e1 := early_bd (R := ltB) ha hb i (by omega)
  have e2 := early_bd (R := leB) ha hb i (by omega)
  have e8 := res8 ha hb i (by omega) (early ltB aF a bF b i) (early leB aF a bF b i) (by omega) (by omega) b.length 0 (by omega)
  rw [show sumN (cell ltB aF a bF b i) 0 = 0 from rfl, show sumN (cell leB aF a bF b i) 0 = 0 from rfl, Int.add_zero, Int.add_zero, show ((0 : Nat) : Int) = 0 from rfl] at e8
  rw [Z89_fx]
  unfold c_Z89
  rw [decide_eq_true (by omega), cond_true, e8]
  simp only [Option.bind_some, Option.bind_fun_some]
  rw [succ_wrap (by omega)]
  exact res5 ha hb m (i + 1) (by omega)
theorem resid {aF bF : Int} {a b : List D} (ha : a.length ≤ 100) (hb : b.length ≤ 100) : ∃ x y ok, Z87 aF a bF b = some (x, y, ok) ∧ Z90 aF a bF b = some (x, y, ok) ∧ (ok = true → x ≤ y ∧ ∃ z, Z95 aF a bF b = some (x, z, true)) := by
 simp only [Z87, c_Z87, Z90, c_Z90, Z95, c_Z95, goodI aF a (by omega), goodI bF b (by omega), goodS aF a (by omega), goodS bF b (by omega), Option.bind_some]
 cases hga : goodB aF a with
 | false => exact ⟨_, _, _, rfl, rfl, fun h => by cases h⟩
 | true =>
  cases hgb : goodB bF b with
  | false => exact ⟨_, _, _, rfl, rfl, fun h => by cases h⟩
  | true =>
   have ga := goodB_iff.1 hga
   have gb := goodB_iff.1 hgb
   have n60 := ga.n60
   have t1 := pairs3 ga gb a.length 0 (by omega)
   have t2 := pairs3b ga gb a.length 0 (by omega)
   have t3 := pairs3c ga gb a.length 0 (by omega)
   have t4 := res5 ga gb a.length 0 (by omega)
   rw [show early ltB aF a bF b 0 = 0 from rfl, show ((0 : Nat) : Int) = 0 from rfl] at t1 t3
   rw [show early leB aF a bF b 0 = 0 from rfl, show ((0 : Nat) : Int) = 0 from rfl] at t2
   rw [show early ltB aF a bF b 0 = 0 from rfl, show early leB aF a bF b 0 = 0 from rfl, show ((0 : Nat) : Int) = 0 from rfl] at t4
   have hle : early ltB aF a bF b a.length ≤ early leB aF a bF b a.length := by
    unfold early
    refine sumN_le (fun i hi => sumN_le (fun k hk => ?_))
    have p := prod12 (ga.vbd (i : Int)) (gb.vbd (k : Int))
    unfold cell ltB leB
    by_cases h1 : aF + (i : Int) < bF + (k : Int)
    ·rw [decide_eq_true h1, decide_eq_true (show aF + (i : Int) ≤ bF + (k : Int) by omega)]; exact Int.le_refl _
    ·rw [decide_eq_false h1, cond_false]
     cases decide (aF + (i : Int) ≤ bF + (k : Int)) <;> simp only [cond_true, cond_false] <;> omega
   simp only [Bool.not_true, cond_false, Z82, c_Z82, Z86, c_Z86, Z94, c_Z94, t1, t2, t3, t4, Option.bind_some, Z36, c_Z36, sumI_eq ga.bd (show (0 : Int) ≤ 1000000 by omega) (show a.length ≤ 1048576 by omega), sumI_eq gb.bd (show (0 : Int) ≤ 1000000 by omega) (show b.length ≤ 1048576 by omega)]
   by_cases h0 : early leB aF a bF b a.length = 0
   ·rw [decide_eq_true h0]
    exact ⟨_, _, _, rfl, rfl, fun h => by cases h⟩
   ·rw [decide_eq_false h0]
    exact ⟨_, _, _, rfl, rfl, fun _ => ⟨hle, _, rfl⟩⟩
theorem draw5_tot (c : List D) (hc : okC c) (near : Int) : ∀ (k : Nat) (n p s : Int) (l : List D), n.toNat ≤ k → n ≤ 100 → 0 ≤ p → p + 3000 * k ≤ 1099511590000 → l.length + k ≤ 300 → (∀ d ∈ l, (d.fld 1).items.length ≤ 100) →
  ∃ y, Z20 near n c p s l = some y ∧ (y.length ≤ l.length + k ∧ ∀ d ∈ y, (d.fld 1).items.length ≤ 100)
 | k, n, p, s, l, hk, hn, hp0, hp, hl, hd => by
  rw [Z20_fx]
  refine Tt.out ?_
  unfold c_Z20
  refine Tt.dec (fun hlt => ?_) (fun hlt => Tt.pure ⟨by omega, hd⟩)
  cases k with
  | zero => omega
  | succ k =>
   (refine Tt.bind (Tt.con (pick_tot' _ hc _ _ _ (by omega) (by omega))) ?_; rintro ⟨v, c', p', s'⟩ ⟨hv, rfl, hp1, hp2⟩; dsimp only at hv hp1 hp2 ⊢)
   refine Tt.bind (Tt.con (any_tot _ hc _ _ _ (by omega))) ?_
   rintro ⟨f, w, c2, p2, s2⟩ ⟨hw, rfl, hp3, hp4⟩
   dsimp only at hw hp3 hp4 ⊢
   refine Tt.ite (by simp only [List.length_cons, List.length_nil]; omega) ?_
   rw [wrap_id (n := n - 1) (by omega) (by omega)]
   simp only [Option.bind_fun_some]
   obtain ⟨y, e1, e2, e3⟩ := draw5_tot _ hc near k (n - 1) p2 s2 (l ++ [D.node [D.int f, D.node w]]) (by omega) (by omega) (by omega) (by omega) (by simp only [List.length_append, List.length_cons, List.length_nil]; omega) (fun d hd' => by
    rcases List.mem_append.1 hd' with h | h
    ·exact hd d h
    ·simp only [List.mem_singleton] at h; subst h; exact hw)
   refine Tt.con ⟨y, e1, ?_, e3⟩
   simp only [List.length_append, List.length_cons, List.length_nil] at e2; omega
theorem drawL_tot (c : List D) (hc : okC c) : ∃ y, Z21 c = some y ∧ (y.length ≤ 10 ∧ ∀ d ∈ y, (d.fld 1).items.length ≤ 100) := by
 refine Tt.out ?_
 unfold Z21 c_Z21
 refine Tt.bind (Tt.con (near10v _ hc _ _ (by omega))) ?_
 rintro ⟨near, c1, p1, s1⟩ ⟨-, rfl, hp1, hp2⟩
 dsimp only at hp1 hp2 ⊢
 refine Tt.bind (Tt.con (pick_tot' _ hc _ _ _ (by omega) (by omega))) ?_
 rintro ⟨v, c2, p2, s2⟩ ⟨hv, rfl, hp3, hp4⟩
 dsimp only at hv hp3 hp4 ⊢
 have hq : 0 ≤ v.tdiv 20 ∧ v.tdiv 20 ≤ 1 := by rw [Int.tdiv_eq_ediv_of_nonneg hv.1]; omega
 rw [wrap_id (n := v.tdiv 20) (by omega) (by omega), wrap_id (n := 5 + v.tdiv 20) (by omega) (by omega)]
 refine Tt.ite (by decide) (Tt.ite (by simp only [List.length_cons, List.length_nil]; omega) (Tt.ite (by simp only [List.length_cons, List.length_nil]; omega) ?_))
 refine Tt.bind (Tt.con (among_tot _ hc _ _ _ (by omega) (by simp only [List.length_take, List.length_drop, List.length_cons, List.length_nil]; omega))) ?_
 rintro ⟨n, c3, p3, s3⟩ ⟨hn, rfl, hp5, hp6⟩
 dsimp only at hn hp5 hp6 ⊢
 have hnb : n ≤ 5 := by
  obtain ⟨d, hd, rfl⟩ := hn
  have hd := List.mem_of_mem_drop (List.mem_of_mem_take hd)
  simp only [List.mem_cons, List.not_mem_nil, or_false] at hd
  rcases hd with rfl | rfl | rfl | rfl | rfl | rfl | rfl <;> simp only [toInt_int] <;> omega
 obtain ⟨y, e1, e2, e3⟩ := draw5_tot _ hc near 5 n p3 s3 [] (by omega) (by omega) (by omega) (by omega) (by simp) (by simp)
 rw [List.length_nil] at e2
 simp only [Option.bind_fun_some]
 exact Tt.con ⟨y, e1, by omega, e3⟩
theorem drawC_tot (c : List D) (hc : okC c) : ∃ y, Z77 c = some y ∧ (y.2.1.length ≤ 100 ∧ y.2.2.2.length ≤ 100) := by
 refine Tt.out ?_
 unfold Z77 c_Z77
 refine Tt.bind (Tt.con (near10v _ hc _ _ (by omega))) ?_
 rintro ⟨v, c1, p1, s1⟩ ⟨-, rfl, hp1, hp2⟩
 dsimp only at hp1 hp2 ⊢
 refine Tt.bind (Tt.con (any_tot _ hc _ _ _ (by omega))) ?_
 rintro ⟨f, l, c2, p2, s2⟩ ⟨hl, rfl, hp3, hp4⟩
 dsimp only at hl hp3 hp4 ⊢
 refine Tt.bind (Tt.con (pick_tot' _ hc _ _ _ (by omega) (by omega))) ?_
 rintro ⟨v3, c3, p3, s3⟩ ⟨-, rfl, hp5, hp6⟩
 dsimp only at hp5 hp6 ⊢
 refine Tt.bind (Tt.con (any_tot _ hc _ _ _ (by omega))) ?_
 rintro ⟨f4, l4, c4, p4, s4⟩ ⟨hl4, rfl, hp7, hp8⟩
 exact Tt.pure ⟨hl, hl4⟩
theorem loop9 (c : List D) (ok : Bool) {l : List D} (hl : l.length ≤ 10) (f : Int) (w : List D) (h : ok = true → ∀ i, i < l.length → fF l i ≤ f) : ∀ (k i : Nat), i + k = l.length → Z72 c ok i l f f w = some (.inr (c, ok, l, f, f, w))
 | 0, i, hi => by
  rw [Z72_fx]
  unfold c_Z72
  rw [decide_eq_false (by omega), cond_false]
 | k + 1, i, hi => by
  rw [Z72_fx]
  unfold c_Z72
  rw [decide_eq_true (by omega), cond_true]
  cases hok : ok with
  | false => rfl
  | true =>
   have hfi := h hok i (by omega)
   rw [cond_true, if_pos (by omega), Int.toNat_natCast, if_pos (by omega), if_pos (by omega), show ((l.getD i (.int 0)).fld 0).toInt = fF l i from rfl, decide_eq_false (by omega), cond_false, succ_wrap (by omega)]
   simp only [Option.bind_fun_some]
   have ih := loop9 c ok hl f w h k (i + 1) (by omega)
   rw [hok] at ih
   exact ih
theorem pure_FnTermini (x0 : List D) (h0 : x0.length ≤ maxLen) (w0 : ∀ d ∈ x0, wfD (.int .u8) d) : Z96 x0 = some true := by
 unfold Z96 c_Z96 Z0 c_Z0
 simp only [Option.bind_some]
 by_cases hbig : (65536 : Int) < x0.length
 ·simp [hbig]
 rw [decide_eq_false hbig, cond_false]
 have hc : okC x0 := ⟨by omega, fun d hd => okB (w0 d hd)⟩
 obtain ⟨l, hd, hl, hw⟩ := drawL_tot x0 hc
 obtain ⟨⟨aF, a, bF, b⟩, hd2, hla, hlb⟩ := drawC_tot x0 hc
 dsimp only at hla hlb
 obtain ⟨⟨dF, dW, ok⟩, e1, e2, e3, e4⟩ := latest hl (fun i hi => by
  have := hw _ (getD_mem hi)
  unfold fW
  omega)
 dsimp only at e3 e4
 have e9 := loop9 x0 ok hl dF dW (fun h => (e4 h).2) l.length 0 (by omega)
 rw [show ((0 : Nat) : Int) = 0 from rfl] at e9
 obtain ⟨x, y, ok2, r1, r2, r3⟩ := resid (aF := aF) (bF := bF) hla hlb
 have hd3 : Z78 x0 = some (aF, a, bF, b) := by
  simp only [Z78, c_Z78, hd2, Option.bind_some]
 simp only [hd, e1, e2, Option.bind_some, beq_self_eq_true, Bool.not_true, cond_false, rDist_refl dF (l := dW) rfl (by omega), e9, Sum.elim_inr, hd3, r1, r2, decide_true]
 have tail : (bif !ok2 then (bif true then (bif true then some true else some false) else some false) else (Z95 aF a bF b).bind fun y12 => bif y12.2.2 then (bif decide (x = y12.1) then some (decide (x ≤ y)) else some false) else some false) = some true := by
  cases hok : ok2 with
  | false => rfl
  | true =>
   obtain ⟨q1, z, q2⟩ := r3 hok
   rw [q2]
   simp only [Bool.not_true, cond_false, Option.bind_some, cond_true, decide_true]
   rw [decide_eq_true q1]
 cases hok : ok with
 | false => exact tail
 | true =>
  obtain ⟨yy, hq⟩ := quantI (e4 hok).1
  rw [hok] at e1
  simp only [cond_true, Z76, c_Z76, e1, hq, Option.bind_some, Bool.not_true, cond_false, decide_true]
  exact tail
end Go.Proofs.Ytpigfmlahmapaaa
