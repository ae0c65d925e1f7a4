/- The law FnExactMisplacedRows over plain values. No condition beside those of the statement. -/
import Derived.Test.YtinhphmajfiepaaClMFnExactMisplacedRows
import Derived.Test.YtinhphmajfiepaaRaiU5
set_option linter.unusedVariables false
set_option linter.unusedSimpArgs false
set_option maxRecDepth 100000
namespace Go.Proofs.Ytinhphmajfiepaa
open Go Go.Rai
theorem Z17_lim {ι : Type} {R : ι → ι → Prop} (hD : Dir R) {F : List D → Int → Int → Int → List D → List D → List D → Option (List D × Int × Int × List D × List D × List D)} {Fs : ι → List D → Int → Int → Int → List D → List D → List D → Option (List D × Int × Int × List D × List D × List D)} (h : ∀ x0 x1 x2 x3 x4 x5 x6, Lim R (F x0 x1 x2 x3 x4 x5 x6) (fun i => Fs i x0 x1 x2 x3 x4 x5 x6)) (x0 : List D) (x1 : Int) (x2 : Int) (x3 : Int) (x4 : List D) (x5 : List D) (x6 : List D)  : Lim R (c_Z17 F x0 x1 x2 x3 x4 x5 x6 some) (fun i => c_Z17 (Fs i) x0 x1 x2 x3 x4 x5 x6 some) := by
 unfold c_Z17
 repeat' first
  | exact Lim.const hD
  | exact h _ _ _ _ _ _ _
  | apply Lim.ite
  | apply Lim.cond
  | apply Lim.bind hD
  | apply Lim.sum
  | intro _
theorem Z17_fx (x0 : List D) (x1 : Int) (x2 : Int) (x3 : Int) (x4 : List D) (x5 : List D) (x6 : List D)  : Z17 x0 x1 x2 x3 x4 x5 x6 = c_Z17 Z17 x0 x1 x2 x3 x4 x5 x6 some :=
 fix_eq (N := fun n (p : List D × Int × Int × Int × List D × List D × List D) => n_Z17 n p.1 p.2.1 p.2.2.1 p.2.2.2.1 p.2.2.2.2.1 p.2.2.2.2.2.1 p.2.2.2.2.2.2) (C := fun f p => c_Z17 (fun x0 x1 x2 x3 x4 x5 x6 => f (x0, x1, x2, x3, x4, x5, x6)) p.1 p.2.1 p.2.2.1 p.2.2.2.1 p.2.2.2.2.1 p.2.2.2.2.2.1 p.2.2.2.2.2.2 some) (fun _ => rfl) (fun _ _ => rfl) (fun hD f fs h p => Z17_lim hD (fun x0 x1 x2 x3 x4 x5 x6 => h (x0, x1, x2, x3, x4, x5, x6)) _ _ _ _ _ _ _) (x0, x1, x2, x3, x4, x5, x6)
theorem Z20_lim {ι : Type} {R : ι → ι → Prop} (hD : Dir R) {F : List D → Int → Int → Int → Int → Int → List D → List D → List D → Option (List D × Int × Int × Int × List D × List D × List D)} {Fs : ι → List D → Int → Int → Int → Int → Int → List D → List D → List D → Option (List D × Int × Int × Int × List D × List D × List D)} (h : ∀ x0 x1 x2 x3 x4 x5 x6 x7 x8, Lim R (F x0 x1 x2 x3 x4 x5 x6 x7 x8) (fun i => Fs i x0 x1 x2 x3 x4 x5 x6 x7 x8)) (x0 : List D) (x1 : Int) (x2 : Int) (x3 : Int) (x4 : Int) (x5 : Int) (x6 : List D) (x7 : List D) (x8 : List D)  : Lim R (c_Z20 F x0 x1 x2 x3 x4 x5 x6 x7 x8 some) (fun i => c_Z20 (Fs i) x0 x1 x2 x3 x4 x5 x6 x7 x8 some) := by
 unfold c_Z20
 repeat' first
  | exact Lim.const hD
  | exact h _ _ _ _ _ _ _ _ _
  | apply Lim.ite
  | apply Lim.cond
  | apply Lim.bind hD
  | apply Lim.sum
  | intro _
theorem Z20_fx (x0 : List D) (x1 : Int) (x2 : Int) (x3 : Int) (x4 : Int) (x5 : Int) (x6 : List D) (x7 : List D) (x8 : List D)  : Z20 x0 x1 x2 x3 x4 x5 x6 x7 x8 = c_Z20 Z20 x0 x1 x2 x3 x4 x5 x6 x7 x8 some :=
 fix_eq (N := fun n (p : List D × Int × Int × Int × Int × Int × List D × List D × List D) => n_Z20 n p.1 p.2.1 p.2.2.1 p.2.2.2.1 p.2.2.2.2.1 p.2.2.2.2.2.1 p.2.2.2.2.2.2.1 p.2.2.2.2.2.2.2.1 p.2.2.2.2.2.2.2.2) (C := fun f p => c_Z20 (fun x0 x1 x2 x3 x4 x5 x6 x7 x8 => f (x0, x1, x2, x3, x4, x5, x6, x7, x8)) p.1 p.2.1 p.2.2.1 p.2.2.2.1 p.2.2.2.2.1 p.2.2.2.2.2.1 p.2.2.2.2.2.2.1 p.2.2.2.2.2.2.2.1 p.2.2.2.2.2.2.2.2 some) (fun _ => rfl) (fun _ _ => rfl) (fun hD f fs h p => Z20_lim hD (fun x0 x1 x2 x3 x4 x5 x6 x7 x8 => h (x0, x1, x2, x3, x4, x5, x6, x7, x8)) _ _ _ _ _ _ _ _ _) (x0, x1, x2, x3, x4, x5, x6, x7, x8)
theorem Z21_lim {ι : Type} {R : ι → ι → Prop} (hD : Dir R) {F : List D → Int → Int → Int → List D → List D → List D → Option (List D × Int × Int × List D × List D × List D)} {Fs : ι → List D → Int → Int → Int → List D → List D → List D → Option (List D × Int × Int × List D × List D × List D)} (h : ∀ x0 x1 x2 x3 x4 x5 x6, Lim R (F x0 x1 x2 x3 x4 x5 x6) (fun i => Fs i x0 x1 x2 x3 x4 x5 x6)) (x0 : List D) (x1 : Int) (x2 : Int) (x3 : Int) (x4 : List D) (x5 : List D) (x6 : List D)  : Lim R (c_Z21 F x0 x1 x2 x3 x4 x5 x6 some) (fun i => c_Z21 (Fs i) x0 x1 x2 x3 x4 x5 x6 some) := by
 unfold c_Z21
 repeat' first
  | exact Lim.const hD
  | exact h _ _ _ _ _ _ _
  | apply Lim.ite
  | apply Lim.cond
  | apply Lim.bind hD
  | apply Lim.sum
  | intro _
theorem Z21_fx (x0 : List D) (x1 : Int) (x2 : Int) (x3 : Int) (x4 : List D) (x5 : List D) (x6 : List D)  : Z21 x0 x1 x2 x3 x4 x5 x6 = c_Z21 Z21 x0 x1 x2 x3 x4 x5 x6 some :=
 fix_eq (N := fun n (p : List D × Int × Int × Int × List D × List D × List D) => n_Z21 n p.1 p.2.1 p.2.2.1 p.2.2.2.1 p.2.2.2.2.1 p.2.2.2.2.2.1 p.2.2.2.2.2.2) (C := fun f p => c_Z21 (fun x0 x1 x2 x3 x4 x5 x6 => f (x0, x1, x2, x3, x4, x5, x6)) p.1 p.2.1 p.2.2.1 p.2.2.2.1 p.2.2.2.2.1 p.2.2.2.2.2.1 p.2.2.2.2.2.2 some) (fun _ => rfl) (fun _ _ => rfl) (fun hD f fs h p => Z21_lim hD (fun x0 x1 x2 x3 x4 x5 x6 => h (x0, x1, x2, x3, x4, x5, x6)) _ _ _ _ _ _ _) (x0, x1, x2, x3, x4, x5, x6)
theorem Z25_lim {ι : Type} {R : ι → ι → Prop} (hD : Dir R) {F : List D → Int → List D → List D → Option (List D)} {Fs : ι → List D → Int → List D → List D → Option (List D)} (h : ∀ x0 x1 x2 x3, Lim R (F x0 x1 x2 x3) (fun i => Fs i x0 x1 x2 x3)) (x0 : List D) (x1 : Int) (x2 : List D) (x3 : List D)  : Lim R (c_Z25 F x0 x1 x2 x3 some) (fun i => c_Z25 (Fs i) x0 x1 x2 x3 some) := by
 unfold c_Z25
 repeat' first
  | exact Lim.const hD
  | exact h _ _ _ _
  | apply Lim.ite
  | apply Lim.cond
  | apply Lim.bind hD
  | apply Lim.sum
  | intro _
theorem Z25_fx (x0 : List D) (x1 : Int) (x2 : List D) (x3 : List D)  : Z25 x0 x1 x2 x3 = c_Z25 Z25 x0 x1 x2 x3 some :=
 fix_eq (N := fun n (p : List D × Int × List D × List D) => n_Z25 n p.1 p.2.1 p.2.2.1 p.2.2.2) (C := fun f p => c_Z25 (fun x0 x1 x2 x3 => f (x0, x1, x2, x3)) p.1 p.2.1 p.2.2.1 p.2.2.2 some) (fun _ => rfl) (fun _ _ => rfl) (fun hD f fs h p => Z25_lim hD (fun x0 x1 x2 x3 => h (x0, x1, x2, x3)) _ _ _ _) (x0, x1, x2, x3)
theorem Z87_lim {ι : Type} {R : ι → ι → Prop} (hD : Dir R) {F : List D → List D → Int → Int → List D → List D → List D → Option (List D)} {Fs : ι → List D → List D → Int → Int → List D → List D → List D → Option (List D)} (h : ∀ x0 x1 x2 x3 x4 x5 x6, Lim R (F x0 x1 x2 x3 x4 x5 x6) (fun i => Fs i x0 x1 x2 x3 x4 x5 x6)) (x0 : List D) (x1 : List D) (x2 : Int) (x3 : Int) (x4 : List D) (x5 : List D) (x6 : List D)  : Lim R (c_Z87 F x0 x1 x2 x3 x4 x5 x6 some) (fun i => c_Z87 (Fs i) x0 x1 x2 x3 x4 x5 x6 some) := by
 unfold c_Z87
 repeat' first
  | exact Lim.const hD
  | exact h _ _ _ _ _ _ _
  | apply Lim.ite
  | apply Lim.cond
  | apply Lim.bind hD
  | apply Lim.sum
  | intro _
theorem Z87_fx (x0 : List D) (x1 : List D) (x2 : Int) (x3 : Int) (x4 : List D) (x5 : List D) (x6 : List D)  : Z87 x0 x1 x2 x3 x4 x5 x6 = c_Z87 Z87 x0 x1 x2 x3 x4 x5 x6 some :=
 fix_eq (N := fun n (p : List D × List D × Int × Int × List D × List D × List D) => n_Z87 n p.1 p.2.1 p.2.2.1 p.2.2.2.1 p.2.2.2.2.1 p.2.2.2.2.2.1 p.2.2.2.2.2.2) (C := fun f p => c_Z87 (fun x0 x1 x2 x3 x4 x5 x6 => f (x0, x1, x2, x3, x4, x5, x6)) p.1 p.2.1 p.2.2.1 p.2.2.2.1 p.2.2.2.2.1 p.2.2.2.2.2.1 p.2.2.2.2.2.2 some) (fun _ => rfl) (fun _ _ => rfl) (fun hD f fs h p => Z87_lim hD (fun x0 x1 x2 x3 x4 x5 x6 => h (x0, x1, x2, x3, x4, x5, x6)) _ _ _ _ _ _ _) (x0, x1, x2, x3, x4, x5, x6)
theorem toIntS_id (l : List D) (hl : l.length ≤ 1048576) (w : ∀ d ∈ l, wfD (.int .i64) d) : Z5 l = some l := by
 have key : Z4 l 0 (List.replicate l.length (.int 0)) = some l := by
  refine copy_loop (N := n_Z4) (fun m i acc hi hacc => ?_) (fun m acc hacc => ?_)
  ·obtain ⟨a, hd, _⟩ := w _ (get_mem hi)
   have hw : IntKind.i64.wrap ((i : Int) + 1) = (i : Int) + 1 := wrap_id (by omega) (by omega)
   have h2 : (i : Int) < acc.length := by omega
   have h3 : i + 1 ≤ acc.length := by omega
   have h1 : (i : Int) < l.length := by omega
   simp [n_Z4, c_Z4, h1, h2, h3, hw, hd, toInt_int]
  ·simp [n_Z4, c_Z4]
 have h4 : (l.length : Int) ≤ 4294967296 := by omega
 simp [Z5, c_Z5, key, h4]
theorem eqIntS_self (l : List D) (hl : l.length ≤ 1048576) : Z90 l l = some true := by
 have key : Z89 l l 0 = some (.inr ()) := by
  refine all_loop (N := fun n i => n_Z89 n l l i) (len := l.length) (fun m i hi => ?_) (fun m => ?_)
  ·have hw : IntKind.i64.wrap ((i : Int) + 1) = (i : Int) + 1 := wrap_id (by omega) (by omega)
   have h1 : (i : Int) < l.length := by omega
   simp [n_Z89, c_Z89, h1, hw]
  ·simp [n_Z89, c_Z89]
 simp [Z90, c_Z90, key]
theorem l1In_eq (x a b : Int) : Z9 x a b = some (btw x a b) := by
 unfold Z9 c_Z9 btw
 by_cases h : a ≤ x <;> simp [h]
theorem within_eq (x a b : Int) : Z27 x a b = some (btw x a b) := by
 unfold Z27 c_Z27 btw
 by_cases h : a ≤ x <;> simp [h]
theorem wfRow {d : D} (h : wfD (.slice (.int .i64)) d) : d = .node d.items ∧ d.items.length ≤ maxLen ∧ ∀ x ∈ d.items, wfD (.int .i64) x := by
 obtain ⟨l, rfl, h1, h2⟩ := h
 exact ⟨rfl, h1, h2⟩
theorem szTable_eq (l : List D) (hl : l.length ≤ maxLen) (w : ∀ d ∈ l, wfD (.slice (.int .i64)) d) : ∃ v, Z3 l 1048576 = some v ∧ (v < 0 ∨ (l.length ≤ 1048576 ∧ ∀ d ∈ l, d.items.length ≤ 1048576)) := by
 unfold maxLen at hl
 have hw : IntKind.i64.wrap (1048576 - (l.length : Int)) = 1048576 - (l.length : Int) := wrap_id (by omega) (by omega)
 simp only [Z3, c_Z3, Z2, c_Z2, hw]
 by_cases h0 : 1048576 - (l.length : Int) < 0
 ·exact ⟨-1, by simp [h0], .inl (by omega)⟩
 ·obtain ⟨y, h1, h2⟩ := loop_post (N := fun m (s : Nat × Int) => n_Z1 m l s.2 (s.1 : Int)) (fun s => s.1 ≤ l.length ∧ 0 ≤ s.2 ∧ s.2 ≤ 1048576) (fun s => l.length - s.1)
   (fun s y => match y with | .inl (_, r) => r = -1 | .inr r => 0 ≤ r ∧ ∀ d ∈ l.drop s.1, d.items.length ≤ 1048576) (by
   rintro ⟨i, s⟩ ⟨hi, hs1, hs2⟩
   simp only at hi hs1 hs2 ⊢
   by_cases hlt : i < l.length
   ·have hlt' : (i : Int) < l.length := by omega
    obtain ⟨_, r1, _⟩ := wfRow (w _ (get_mem hlt))
    unfold maxLen at r1
    have hw2 : IntKind.i64.wrap (s - ((l[i]?.getD (.int 0)).items.length : Int)) = s - ((l[i]?.getD (.int 0)).items.length : Int) := wrap_id (by omega) (by omega)
    by_cases hneg : s - ((l[i]?.getD (.int 0)).items.length : Int) < 0
    ·refine .inl ⟨.inl (-1, -1), rfl, fun m => ?_⟩
     simp only [n_Z1, c_Z1, Z0, c_Z0, hlt', decide_true, cond_true, Int.natCast_nonneg, and_self, if_true, Int.toNat_natCast, List.getD_eq_getElem?_getD, hw2, hneg, Option.bind_some]
     rfl
    ·refine .inr ⟨(i + 1, s - ((l[i]?.getD (.int 0)).items.length : Int)), ⟨by simp; omega, by simp only; omega, by simp only; omega⟩, by simp; omega, fun y hy => ?_, fun m => ?_⟩
     ·cases y with
      | inl y => exact hy
      | inr r =>
       refine ⟨hy.1, fun d hd => ?_⟩
       rw [drop_cons hlt] at hd
       rcases List.mem_cons.1 hd with rfl | hd
       ·omega
       ·exact hy.2 d hd
     ·simp only [n_Z1, c_Z1, Z0, c_Z0, hlt', decide_true, cond_true, Int.natCast_nonneg, and_self, if_true, Int.toNat_natCast, List.getD_eq_getElem?_getD, hw2, hneg, decide_false, cond_false, Option.bind_some, succ_wrap (show i < 4611686018427387904 by omega)]
      cases n_Z1 m l (s - ((l[i]?.getD (.int 0)).items.length : Int)) ((i + 1 : Nat) : Int) <;> rfl
   ·have hlt' : ¬ (i : Int) < l.length := by omega
    exact .inl ⟨.inr s, ⟨hs1, by rw [drop_end hlt]; simp⟩, fun m => by simp [n_Z1, c_Z1, hlt']⟩) (0, 1048576 - (l.length : Int)) ⟨by simp, by simp only; omega, by simp only; omega⟩
  have h1' : Z1 l (1048576 - (l.length : Int)) 0 = some y := h1
  simp only [h0, decide_false, cond_false, h1', Option.bind_some]
  cases y with
  | inl y =>
   obtain ⟨a, b⟩ := y
   have hb : b = -1 := h2
   subst hb
   exact ⟨-1, rfl, .inl (by omega)⟩
  | inr r =>
   have h3 : ¬ r < 0 := by have := h2.1; omega
   refine ⟨r, by simp [h3], .inr ⟨by omega, fun d hd => h2.2 d (by simpa using hd)⟩⟩
theorem toTable_id (l : List D) (hl : l.length ≤ 1048576) (w : ∀ d ∈ l, wfD (.slice (.int .i64)) d) (hr : ∀ d ∈ l, d.items.length ≤ 1048576) : Z8 l = some l := by
 have key : Z6 l 0 (List.replicate l.length (.node [])) = some l := by
  refine copy_loop (N := n_Z6) (fun m i acc hi hacc => ?_) (fun m acc hacc => ?_)
  ·obtain ⟨r0, r1, r2⟩ := wfRow (w _ (get_mem hi))
   have hid := toIntS_id (l[i]?.getD (.int 0)).items (hr _ (get_mem hi)) r2
   have hw : IntKind.i64.wrap ((i : Int) + 1) = (i : Int) + 1 := wrap_id (by omega) (by omega)
   have h2 : (i : Int) < acc.length := by omega
   have h3 : i + 1 ≤ acc.length := by omega
   have h1 : (i : Int) < l.length := by omega
   simp only [n_Z6, c_Z6, h1, h2, h3, hw, hid, decide_true, cond_true, Int.natCast_nonneg, and_self, if_true, Int.toNat_natCast, List.getD_eq_getElem?_getD, Option.bind_some, ← r0]
   cases n_Z6 m l (↑i + 1) (acc.set i (l[i]?.getD (D.int 0))) <;> rfl
  ·simp [n_Z6, c_Z6]
 have h4 : (l.length : Int) ≤ 4294967296 := by omega
 simp [Z8, c_Z8, Z7, c_Z7, key, h4]
theorem eqTable_self (l : List D) (hl : l.length ≤ 1048576) (hr : ∀ d ∈ l, d.items.length ≤ 1048576) : Z93 l l = some true := by
 have key : Z91 l l 0 = some (.inr ()) := by
  refine all_loop (N := fun n i => n_Z91 n l l i) (len := l.length) (fun m i hi => ?_) (fun m => ?_)
  ·have hw : IntKind.i64.wrap ((i : Int) + 1) = (i : Int) + 1 := wrap_id (by omega) (by omega)
   have h1 : (i : Int) < l.length := by omega
   have hs := eqIntS_self (l[i]?.getD (.int 0)).items (hr _ (get_mem hi))
   simp only [n_Z91, c_Z91, h1, hw, hs, decide_true, cond_true, Int.natCast_nonneg, and_self, if_true, Int.toNat_natCast, List.getD_eq_getElem?_getD, Option.bind_some, Bool.not_true, cond_false]
   cases n_Z91 m l l (↑i + 1) <;> rfl
  ·simp [n_Z91, c_Z91]
 simp [Z93, c_Z93, Z92, c_Z92, key]
def cellP (r : List D) (i : Nat) : Bool := !btw (r[i]?.getD (.int 0)).toInt 0 1000
def rowB (n : Int) (d : D) : Bool := btw (d.items.length : Int) 1 10 && (decide ((d.items.length : Int) = n) && (firstN (cellP d.items) d.items.length).isNone)
theorem L11_eq (a b : Int) (r l : List D) (hr : r.length ≤ 10) : Z13 a b r 0 l = some (match firstN (cellP r) r.length with | some _ => .inl (false, a, b, l) | none => .inr (a, b, l)) := by
 refine scan_loop (N := fun m i => n_Z13 m a b r i l) _ (fun _ => .inl (false, a, b, l)) (fun m i hi => ?_) (fun m => ?_)
 ·have hw : IntKind.i64.wrap ((i : Int) + 1) = (i : Int) + 1 := wrap_id (by omega) (by omega)
  have h1 : (i : Int) < r.length := by omega
  simp only [n_Z13, c_Z13, h1, hw, l1In_eq, cellP, decide_true, cond_true, Int.natCast_nonneg, and_self, if_true, Int.toNat_natCast, List.getD_eq_getElem?_getD, Option.bind_some]
  cases btw (r[i]?.getD (D.int 0)).toInt 0 1000 <;> simp
 ·simp [n_Z13, c_Z13]
theorem contains_eq (r : List D) (hr : r.length ≤ 10) : Z31 r = some (!(firstN (cellP r) r.length).isNone) := by
 have : Z29 r r.length 0 = some (match firstN (cellP r) r.length with | some i => .inl (i : Int) | none => .inr ()) := by
  refine scan_loop (N := fun m i => n_Z29 m r r.length i) _ (fun i => .inl (i : Int)) (fun m i hi => ?_) (fun m => ?_)
  ·have hw : IntKind.i64.wrap ((i : Int) + 1) = (i : Int) + 1 := wrap_id (by omega) (by omega)
   have h1 : (i : Int) < r.length := by omega
   simp only [n_Z29, c_Z29, Z28, c_Z28, h1, hw, within_eq, cellP, decide_true, cond_true, Int.natCast_nonneg, and_self, if_true, Int.toNat_natCast, List.getD_eq_getElem?_getD, Option.bind_some]
   cases btw (r[i]?.getD (D.int 0)).toInt 0 1000 <;> simp
  ·simp [n_Z29, c_Z29]
 simp only [Z31, c_Z31, Z30, c_Z30, this, Option.bind_some]
 cases firstN (cellP r) r.length <;> simp
theorem rows_eq (l : List D) (hl : l.length ≤ 7) (n : Int) (hn : n = (((l[0]?.getD (D.int 0)).items.length : Nat) : Int)) :
  Z14 l.length 0 l = some (match firstN (fun i => !rowB n (l[i]?.getD (.int 0))) l.length with | some _ => .inl false | none => .inr ()) ∧
  Z32 l l.length 0 l = some (match firstN (fun i => !rowB n (l[i]?.getD (.int 0))) l.length with | some _ => .inl false | none => .inr ()) := by
 constructor
 ·refine scan_loop (N := fun m i => n_Z14 m l.length i l) _ (fun _ => .inl false) (fun m i hi => ?_) (fun m => ?_)
  ·have hw : IntKind.i64.wrap ((i : Int) + 1) = (i : Int) + 1 := wrap_id (by omega) (by omega)
   have h1 : (i : Int) < l.length := by omega
   have h0 : (0 : Int) < l.length := by omega
   simp only [n_Z14, c_Z14, h1, h0, hw, l1In_eq, decide_true, cond_true, Int.natCast_nonneg, and_self, if_true, Int.toNat_natCast, List.getD_eq_getElem?_getD, Option.bind_some, Int.toNat_zero, ← hn, Int.le_refl]
   generalize l[i]?.getD (D.int 0) = d
   unfold rowB
   cases hb : btw (d.items.length : Int) 1 10 with
   | false => simp
   | true =>
    have := btw_iff.1 hb
    rw [L11_eq _ _ _ _ (by omega)]
    cases decide ((d.items.length : Int) = n) with
    | false => simp
    | true => cases firstN (cellP d.items) d.items.length <;> simp [hw]
  ·simp [n_Z14, c_Z14]
 ·refine scan_loop (N := fun m i => n_Z32 m l l.length i l) _ (fun _ => .inl false) (fun m i hi => ?_) (fun m => ?_)
  ·have hw : IntKind.i64.wrap ((i : Int) + 1) = (i : Int) + 1 := wrap_id (by omega) (by omega)
   have h1 : (i : Int) < l.length := by omega
   have h0 : (0 : Int) < l.length := by omega
   simp only [n_Z32, c_Z32, h1, h0, hw, within_eq, decide_true, cond_true, Int.natCast_nonneg, and_self, if_true, Int.toNat_natCast, List.getD_eq_getElem?_getD, Option.bind_some, Int.toNat_zero, ← hn, Int.le_refl]
   generalize l[i]?.getD (D.int 0) = d
   unfold rowB
   cases hb : btw (d.items.length : Int) 1 10 with
   | false => simp
   | true =>
    have := btw_iff.1 hb
    rw [contains_eq _ (by omega)]
    cases decide ((d.items.length : Int) = n) with
    | false => simp
    | true => cases firstN (cellP d.items) d.items.length <;> simp
  ·simp [n_Z32, c_Z32]
structure GoodT (l : List D) : Prop where
 n1 : 1 ≤ l.length
 n7 : l.length ≤ 7
 c1 : 1 ≤ (l[0]?.getD (D.int 0)).items.length
 c10 : (l[0]?.getD (D.int 0)).items.length ≤ 10
 len : ∀ i, i < l.length → (l[i]?.getD (D.int 0)).items.length = (l[0]?.getD (D.int 0)).items.length
 cell : ∀ i j, i < l.length → j < (l[0]?.getD (D.int 0)).items.length → (0 : Int) ≤ ((l[i]?.getD (D.int 0)).items[j]?.getD (D.int 0)).toInt ∧ ((l[i]?.getD (D.int 0)).items[j]?.getD (D.int 0)).toInt ≤ 1000
theorem table_good (l : List D) : ∃ b, Z15 l = some b ∧ Z33 l = some b ∧ (b = true → GoodT l) := by
 simp only [Z15, c_Z15, Z33, c_Z33, l1In_eq, within_eq, Option.bind_some]
 cases hb : btw (l.length : Int) 1 7 with
 | false => exact ⟨false, by simp, by simp, by simp⟩
 | true =>
  have hbb := btw_iff.1 hb
  obtain ⟨h1, h2⟩ := rows_eq l (by omega) _ rfl
  simp only [h1, h2, Bool.not_true, cond_false, Option.bind_some]
  cases hf : firstN (fun i => !rowB _ (l[i]?.getD (D.int 0))) l.length with
  | some i => exact ⟨false, by simp, by simp, by simp⟩
  | none =>
   refine ⟨true, by simp, by simp, fun _ => ?_⟩
   have hall := firstN_none hf
   have hrow : ∀ i, i < l.length → btw ((l[i]?.getD (D.int 0)).items.length : Int) 1 10 = true ∧ ((l[i]?.getD (D.int 0)).items.length : Int) = ((l[0]?.getD (D.int 0)).items.length : Int) ∧ (firstN (cellP (l[i]?.getD (D.int 0)).items) (l[i]?.getD (D.int 0)).items.length).isNone = true := by
    intro i hi
    have := hall i hi
    unfold rowB at this
    rw [Bool.not_eq_false', Bool.and_eq_true, Bool.and_eq_true, decide_eq_true_eq] at this
    exact this
   have h0 := hrow 0 (by omega)
   have h01 := btw_iff.1 h0.1
   refine ⟨by omega, by omega, by omega, by omega, fun i hi => by have := (hrow i hi).2.1; omega, fun i j hi hj => ?_⟩
   have hr := hrow i hi
   have hn : firstN (cellP (l[i]?.getD (D.int 0)).items) (l[i]?.getD (D.int 0)).items.length = none := by
    cases hq : firstN (cellP (l[i]?.getD (D.int 0)).items) (l[i]?.getD (D.int 0)).items.length with
    | none => rfl
    | some _ => rw [hq] at hr; simp at hr
   have hc := firstN_none hn j (by have := hr.2.1; omega)
   unfold cellP at hc
   rw [Bool.not_eq_false', btw_iff] at hc
   exact hc
def Tt {ι β : Type} (I : ι → Prop) (P : β → Prop) (e : ι → Option β) : Prop := ∃ y, P y ∧ ∀ i, I i → e i = some y
theorem Tt.pure {ι β : Type} {I : ι → Prop} {P : β → Prop} {y : β} (h : P y) : Tt I P (fun _ => some y) := ⟨y, h, fun _ _ => rfl⟩
theorem Tt.bind {ι α β : Type} {I : ι → Prop} {Q : α → Prop} {P : β → Prop} {t : ι → Option α} {f : α → ι → Option β} (h : Tt I Q t) (k : ∀ v, Q v → Tt I P (fun i => f v i)) :
  Tt I P (fun i => (t i).bind (fun v => f v i)) := by
 obtain ⟨v, hv, ht⟩ := h
 obtain ⟨y, hy, hk⟩ := k v hv
 exact ⟨y, hy, fun i hi => by show (t i).bind _ = _; rw [ht i hi]; exact hk i hi⟩
theorem Tt.ite {ι β : Type} {I : ι → Prop} {P : β → Prop} {c : Prop} [Decidable c] {x y : ι → Option β} (h : c) (k : Tt I P x) : Tt I P (fun i => if c then x i else y i) := by
 simpa only [if_pos h] using k
theorem Tt.cnd {ι β : Type} {I : ι → Prop} {P : β → Prop} {b : Bool} {x y : ι → Option β} (h1 : b = true → Tt I P x) (h2 : b = false → Tt I P y) : Tt I P (fun i => bif b then x i else y i) := by
 cases b with
 | true => exact h1 rfl
 | false => exact h2 rfl
theorem Tt.dec {ι β : Type} {I : ι → Prop} {P : β → Prop} {p : Prop} [Decidable p] {x y : ι → Option β} (h1 : p → Tt I P x) (h2 : ¬ p → Tt I P y) : Tt I P (fun i => bif decide p then x i else y i) :=
 Tt.cnd (fun h => h1 (of_decide_eq_true h)) (fun h => h2 (of_decide_eq_false h))
theorem Tt.ndec {ι β : Type} {I : ι → Prop} {P : β → Prop} {p : Prop} [Decidable p] {x y : ι → Option β} (h1 : ¬ p → Tt I P x) (h2 : p → Tt I P y) : Tt I P (fun i => bif !decide p then x i else y i) := by
 by_cases h : p
 ·simpa only [decide_eq_true h, Bool.not_true, cond_false] using h2 h
 ·simpa only [decide_eq_false h, Bool.not_false, cond_true] using h1 h
theorem Tt.con {ι β : Type} {I : ι → Prop} {Q : β → Prop} {t : Option β} (h : ∃ y, t = some y ∧ Q y) : Tt I Q (fun _ => t) := by
 obtain ⟨y, h1, h2⟩ := h
 exact ⟨y, h2, fun _ _ => h1⟩
theorem Tt.mono {ι β : Type} {I J : ι → Prop} {P Q : β → Prop} {e : ι → Option β} (h : Tt I P e) (hI : ∀ i, J i → I i) (hP : ∀ y, P y → Q y) : Tt J Q e := by
 obtain ⟨y, h1, h2⟩ := h
 exact ⟨y, hP y h1, fun i hi => h2 i (hI i hi)⟩
theorem Tt.out {β : Type} {P : β → Prop} {t : Option β} (h : Tt (fun _ : Unit => True) P (fun _ => t)) : ∃ y, t = some y ∧ P y := by
 obtain ⟨y, h1, h2⟩ := h
 exact ⟨y, h2 () trivial, h1⟩
theorem Tt.loop {X Y : Type} (N : Nat → X → Option Y) (Inv : X → Prop) (μ : X → Nat) (Post : X → Y → Prop)
  (step : ∀ x, Inv x → (∀ x', Inv x' → μ x' < μ x → Tt (fun m => μ x ≤ m) (Post x') (fun m => N m x')) → Tt (fun m => μ x ≤ m) (Post x) (fun m => N (m + 1) x)) :
  ∀ x, Inv x → ∃ y, ev (fun n => N n x) = some y ∧ Post x y := by
 have key : ∀ k x, Inv x → μ x ≤ k → Tt (fun m => μ x < m) (Post x) (fun m => N m x) := by
  intro k
  induction k with
  | zero =>
   intro x hi hk
   obtain ⟨y, h1, h2⟩ := step x hi (fun x' _ h => absurd h (by omega))
   refine ⟨y, h1, fun m hm => ?_⟩
   obtain ⟨m, rfl⟩ : ∃ m', m = m' + 1 := ⟨m - 1, by omega⟩
   exact h2 m (by omega)
  | succ k ih =>
   intro x hi hk
   obtain ⟨y, h1, h2⟩ := step x hi (fun x' hx' h => (ih x' hx' (by omega)).mono (fun m hm => by omega) (fun _ h => h))
   refine ⟨y, h1, fun m hm => ?_⟩
   obtain ⟨m, rfl⟩ : ∃ m', m = m' + 1 := ⟨m - 1, by omega⟩
   exact h2 m (by omega)
 intro x hi
 obtain ⟨y, h1, h2⟩ := key (μ x) x hi (Nat.le_refl _)
 exact ⟨y, ev_eq (μ x + 1) (fun m hm => h2 m (by omega)), h1⟩
theorem wq (n : Int) : IntKind.i64.wrap n = (n + 9223372036854775808) % 18446744073709551616 - 9223372036854775808 := by
 unfold IntKind.wrap
 simp [IntKind.signed, IntKind.bits]
 omega
theorem less_eq (a b : Int) : Z38 a b = some (decide (a < b)) := by
 simp [Z38, c_Z38, Z37, c_Z37]
def lenS : List D ⊕ List D → Nat | .inl l => l.length | .inr l => l.length
theorem sift1_tot (hi first : Int) (root : Int) (l : List D) (h0 : 0 ≤ first) (h1 : 0 ≤ root) (h2 : root ≤ 1048576) (h3 : first + hi ≤ l.length) (h4 : l.length ≤ 1048576) (h5 : 0 ≤ hi) :
  ∃ y, Z42 hi first root l = some y ∧ lenS y = l.length := by
 refine Tt.loop (fun n (x : Int × List D) => n_Z42 n hi first x.1 x.2) (fun x => 0 ≤ x.1 ∧ x.1 ≤ 1048576 ∧ first + hi ≤ x.2.length ∧ x.2.length ≤ 1048576) (fun x => (hi - x.1).toNat) (fun x y => lenS y = x.2.length) ?_ (root, l) ⟨h1, h2, h3, h4⟩
 rintro ⟨root, l⟩ ⟨h1, h2, h3, h4⟩ ih
 have ih' : ∀ (r : Int) (l' : List D), 0 ≤ r → r ≤ 1048576 → l'.length = l.length → (hi - r).toNat < (hi - root).toNat → Tt (fun m => (hi - root).toNat ≤ m) (fun y => lenS y = l.length) (fun m => n_Z42 m hi first r l') :=
  fun r l' q1 q2 q3 q4 => by have := ih (r, l') ⟨q1, q2, by simp only at *; omega, by simp only at *; omega⟩ q4; simpa only [q3] using this
 clear ih
 simp only at h1 h2 h3 h4
 show Tt _ _ (fun m => c_Z42 (n_Z42 m) hi first root l some)
 unfold c_Z42
 simp only [less_eq, Option.bind_some, Option.bind_fun_some, List.length_set, wq]
 (repeat' first | refine Tt.ite (by omega) ?_ | refine Tt.ndec (fun _ => ?_) fun _ => ?_ | refine Tt.dec (fun _ => ?_) fun _ => ?_ | refine Tt.cnd (fun _ => ?_) fun _ => ?_)
 all_goals first
  | exact Tt.pure rfl
  | exact ih' _ _ (by omega) (by omega) (by simp only [List.length_set]) (by omega)
theorem sift_tot (l : List D) (lo hi first : Int) (h0 : 0 ≤ first) (h1 : 0 ≤ lo) (h2 : lo ≤ 1048576) (h3 : first + hi ≤ l.length) (h4 : l.length ≤ 1048576) (h5 : 0 ≤ hi) :
  ∃ y, Z43 l lo hi first = some y ∧ y.length = l.length := by
 obtain ⟨y, h, hl⟩ := sift1_tot hi first lo l h0 h1 h2 h3 h4 h5
 unfold Z43 c_Z43
 rw [h]
 cases y with
 | inl y => exact ⟨y, rfl, hl⟩
 | inr y => exact ⟨y, rfl, hl⟩
theorem heap4_tot (f : Int) (lo : Int) (hj : Int) (i : Int) (l : List D) (hi : 0 ≤ f ∧ f + hj ≤ l.length ∧ l.length ≤ 1048576 ∧ 0 ≤ hj ∧ -1 ≤ i ∧ i ≤ hj) :
  ∃ y, Z44 f lo hj i l = some y ∧ (y.1 = f ∧ y.2.1 = lo ∧ y.2.2.1 = hj ∧ y.2.2.2.length = l.length) := by
 refine Tt.loop (fun n (x : Int × Int × Int × Int × List D) => n_Z44 n x.1 x.2.1 x.2.2.1 x.2.2.2.1 x.2.2.2.2) (fun x => 0 ≤ (x.1) ∧ (x.1) + (x.2.2.1) ≤ (x.2.2.2.2).length ∧ (x.2.2.2.2).length ≤ 1048576 ∧ 0 ≤ (x.2.2.1) ∧ -1 ≤ (x.2.2.2.1) ∧ (x.2.2.2.1) ≤ (x.2.2.1)) (fun x => ((x.2.2.2.1) + 1).toNat) (fun x y => (y.1 = (x.1) ∧ y.2.1 = (x.2.1) ∧ y.2.2.1 = (x.2.2.1) ∧ y.2.2.2.length = (x.2.2.2.2).length)) ?_ (f, lo, hj, i, l) hi
 clear hi
 rintro ⟨f, lo, hj, i, l⟩ hi ih
 have ih' : ∀ (f' : Int) (lo' : Int) (hj' : Int) (i' : Int) (l' : List D), (0 ≤ f' ∧ f' + hj' ≤ l'.length ∧ l'.length ≤ 1048576 ∧ 0 ≤ hj' ∧ -1 ≤ i' ∧ i' ≤ hj') → (i' + 1).toNat < (i + 1).toNat → Tt (fun m => (i + 1).toNat ≤ m) (fun y => (y.1 = f' ∧ y.2.1 = lo' ∧ y.2.2.1 = hj' ∧ y.2.2.2.length = l'.length)) (fun m => n_Z44 m f' lo' hj' i' l') :=
  fun f' lo' hj' i' l' q1 q2 => ih (f', lo', hj', i', l') q1 q2
 clear ih
 simp only at hi
 show Tt _ _ (fun m => c_Z44 (n_Z44 m) f lo hj i l some)
 unfold c_Z44
 simp only [less_eq, Option.bind_some, Option.bind_fun_some, List.length_set, wq]
 (repeat' first | refine Tt.ite (by omega) ?_ | refine Tt.ndec (fun _ => ?_) fun _ => ?_ | refine Tt.dec (fun _ => ?_) fun _ => ?_ | refine Tt.cnd (fun _ => ?_) fun _ => ?_)
 ·refine Tt.bind (Tt.con (sift_tot _ _ _ _ (by omega) (by omega) (by omega) (by omega) (by omega) (by omega))) (fun v hv => ?_)
  exact (ih' _ _ _ _ _ (by omega) (by omega)).mono (fun _ h => h) (fun _ h => by rw [hv] at h; exact h)
 ·exact Tt.pure ⟨rfl, rfl, rfl, rfl⟩
theorem heap8_tot (f : Int) (lo : Int) (i : Int) (l : List D) (hi : 0 ≤ f ∧ lo = 0 ∧ l.length ≤ 1048576 ∧ -1 ≤ i ∧ f + i < l.length) :
  ∃ y, Z45 f lo i l = some y ∧ (y.length = l.length) := by
 refine Tt.loop (fun n (x : Int × Int × Int × List D) => n_Z45 n x.1 x.2.1 x.2.2.1 x.2.2.2) (fun x => 0 ≤ (x.1) ∧ (x.2.1) = 0 ∧ (x.2.2.2).length ≤ 1048576 ∧ -1 ≤ (x.2.2.1) ∧ (x.1) + (x.2.2.1) < (x.2.2.2).length) (fun x => ((x.2.2.1) + 1).toNat) (fun x y => (y.length = (x.2.2.2).length)) ?_ (f, lo, i, l) hi
 clear hi
 rintro ⟨f, lo, i, l⟩ hi ih
 have ih' : ∀ (f' : Int) (lo' : Int) (i' : Int) (l' : List D), (0 ≤ f' ∧ lo' = 0 ∧ l'.length ≤ 1048576 ∧ -1 ≤ i' ∧ f' + i' < l'.length) → (i' + 1).toNat < (i + 1).toNat → Tt (fun m => (i + 1).toNat ≤ m) (fun y => (y.length = l'.length)) (fun m => n_Z45 m f' lo' i' l') :=
  fun f' lo' i' l' q1 q2 => ih (f', lo', i', l') q1 q2
 clear ih
 simp only at hi
 show Tt _ _ (fun m => c_Z45 (n_Z45 m) f lo i l some)
 unfold c_Z45
 simp only [less_eq, Option.bind_some, Option.bind_fun_some, List.length_set, wq]
 (repeat' first | refine Tt.ite (by omega) ?_ | refine Tt.ndec (fun _ => ?_) fun _ => ?_ | refine Tt.dec (fun _ => ?_) fun _ => ?_ | refine Tt.cnd (fun _ => ?_) fun _ => ?_)
 ·refine Tt.bind (Tt.con (sift_tot _ _ _ _ (by omega) (by omega) (by omega) (by (try simp only [List.length_set]); omega) (by (try simp only [List.length_set]); omega) (by omega))) (fun v hv => ?_)
  simp only [List.length_set] at hv
  exact (ih' _ _ _ _ (by omega) (by omega)).mono (fun _ h => h) (fun _ h => by rw [hv] at h; exact h)
 ·exact Tt.pure rfl
theorem tq {n : Int} (h : 0 ≤ n) (k : Int) : n.tdiv k = n / k := Int.tdiv_eq_ediv_of_nonneg h
theorem heap_tot (l : List D) (a b : Int) (h : 0 ≤ a ∧ a < b ∧ b ≤ l.length ∧ l.length ≤ 1048576) : ∃ y, Z46 l a b = some y ∧ y.length = l.length := by
 refine Tt.out ?_
 unfold Z46 c_Z46
 rw [tq (by rw [wq, wq]; omega)]
 simp only [wq]
 (repeat' first | refine Tt.ite (by omega) ?_ | refine Tt.ndec (fun _ => ?_) fun _ => ?_ | refine Tt.dec (fun _ => ?_) fun _ => ?_ | refine Tt.cnd (fun _ => ?_) fun _ => ?_)
 refine Tt.bind (Tt.con (heap4_tot _ _ _ _ _ (by omega))) (fun v hv => ?_)
 refine Tt.bind (Tt.con (heap8_tot _ _ _ _ (by omega))) (fun w hw => ?_)
 exact Tt.pure (by omega)
theorem ins4_tot (a : Int) (b : Int) (i : Int) (j : Int) (l : List D) (hi : 0 ≤ a ∧ j < l.length ∧ l.length ≤ 1048576) :
  ∃ y, Z39 a b i j l = some y ∧ (y.1 = a ∧ y.2.1 = b ∧ y.2.2.1 = i ∧ y.2.2.2.length = l.length) := by
 refine Tt.loop (fun n (x : Int × Int × Int × Int × List D) => n_Z39 n x.1 x.2.1 x.2.2.1 x.2.2.2.1 x.2.2.2.2) (fun x => 0 ≤ (x.1) ∧ (x.2.2.2.1) < (x.2.2.2.2).length ∧ (x.2.2.2.2).length ≤ 1048576) (fun x => ((x.2.2.2.1) - (x.1)).toNat) (fun x y => (y.1 = (x.1) ∧ y.2.1 = (x.2.1) ∧ y.2.2.1 = (x.2.2.1) ∧ y.2.2.2.length = (x.2.2.2.2).length)) ?_ (a, b, i, j, l) hi
 clear hi
 rintro ⟨a, b, i, j, l⟩ hi ih
 have ih' : ∀ (a' : Int) (b' : Int) (i' : Int) (j' : Int) (l' : List D), (0 ≤ a' ∧ j' < l'.length ∧ l'.length ≤ 1048576) → (j' - a').toNat < (j - a).toNat → Tt (fun m => (j - a).toNat ≤ m) (fun y => (y.1 = a' ∧ y.2.1 = b' ∧ y.2.2.1 = i' ∧ y.2.2.2.length = l'.length)) (fun m => n_Z39 m a' b' i' j' l') :=
  fun a' b' i' j' l' q1 q2 => ih (a', b', i', j', l') q1 q2
 clear ih
 simp only at hi
 show Tt _ _ (fun m => c_Z39 (n_Z39 m) a b i j l some)
 unfold c_Z39
 simp only [less_eq, Option.bind_some, Option.bind_fun_some, List.length_set, wq]
 (repeat' first | refine Tt.ite (by omega) ?_ | refine Tt.ndec (fun _ => ?_) fun _ => ?_ | refine Tt.dec (fun _ => ?_) fun _ => ?_ | refine Tt.cnd (fun _ => ?_) fun _ => ?_)
 all_goals first
  | exact Tt.pure (by exact ⟨rfl, rfl, rfl, rfl⟩)
  | exact (ih' _ _ _ _ _ (by (try simp only [List.length_set]); omega) (by omega)).mono (fun _ h => h) (fun _ h => by simpa only [List.length_set] using h)
theorem ins1_tot (a : Int) (b : Int) (i : Int) (l : List D) (hi : 0 ≤ a ∧ 0 ≤ i ∧ b ≤ l.length ∧ l.length ≤ 1048576) :
  ∃ y, Z40 a b i l = some y ∧ (y.length = l.length) := by
 refine Tt.loop (fun n (x : Int × Int × Int × List D) => n_Z40 n x.1 x.2.1 x.2.2.1 x.2.2.2) (fun x => 0 ≤ (x.1) ∧ 0 ≤ (x.2.2.1) ∧ (x.2.1) ≤ (x.2.2.2).length ∧ (x.2.2.2).length ≤ 1048576) (fun x => ((x.2.1) - (x.2.2.1)).toNat) (fun x y => (y.length = (x.2.2.2).length)) ?_ (a, b, i, l) hi
 clear hi
 rintro ⟨a, b, i, l⟩ hi ih
 have ih' : ∀ (a' : Int) (b' : Int) (i' : Int) (l' : List D), (0 ≤ a' ∧ 0 ≤ i' ∧ b' ≤ l'.length ∧ l'.length ≤ 1048576) → (b' - i').toNat < (b - i).toNat → Tt (fun m => (b - i).toNat ≤ m) (fun y => (y.length = l'.length)) (fun m => n_Z40 m a' b' i' l') :=
  fun a' b' i' l' q1 q2 => ih (a', b', i', l') q1 q2
 clear ih
 simp only at hi
 show Tt _ _ (fun m => c_Z40 (n_Z40 m) a b i l some)
 unfold c_Z40
 simp only [less_eq, Option.bind_some, Option.bind_fun_some, List.length_set, wq]
 (repeat' first | refine Tt.ite (by omega) ?_ | refine Tt.ndec (fun _ => ?_) fun _ => ?_ | refine Tt.dec (fun _ => ?_) fun _ => ?_ | refine Tt.cnd (fun _ => ?_) fun _ => ?_)
 ·refine Tt.bind (Tt.con (ins4_tot _ _ _ _ _ (by omega))) (fun v hv => ?_)
  exact (ih' _ _ _ _ (by omega) (by omega)).mono (fun _ h => h) (fun _ h => by omega)
 ·exact Tt.pure rfl
theorem ins_tot (l : List D) (a b : Int) (h : 0 ≤ a ∧ a ≤ b ∧ b ≤ l.length ∧ l.length ≤ 1048576) : ∃ y, Z41 l a b = some y ∧ y.length = l.length := by
 refine Tt.out ?_
 unfold Z41 c_Z41
 simp only [wq, Option.bind_fun_some]
 exact Tt.con (ins1_tot _ _ _ _ (by omega))
theorem rev2_tot (i : Int) (j : Int) (l : List D) (hi : 0 ≤ i ∧ j < l.length ∧ l.length ≤ 1048576) :
  ∃ y, Z55 i j l = some y ∧ (y.length = l.length) := by
 refine Tt.loop (fun n (x : Int × Int × List D) => n_Z55 n x.1 x.2.1 x.2.2) (fun x => 0 ≤ (x.1) ∧ (x.2.1) < (x.2.2).length ∧ (x.2.2).length ≤ 1048576) (fun x => ((x.2.1) - (x.1)).toNat) (fun x y => (y.length = (x.2.2).length)) ?_ (i, j, l) hi
 clear hi
 rintro ⟨i, j, l⟩ hi ih
 have ih' : ∀ (i' : Int) (j' : Int) (l' : List D), (0 ≤ i' ∧ j' < l'.length ∧ l'.length ≤ 1048576) → (j' - i').toNat < (j - i).toNat → Tt (fun m => (j - i).toNat ≤ m) (fun y => (y.length = l'.length)) (fun m => n_Z55 m i' j' l') :=
  fun i' j' l' q1 q2 => ih (i', j', l') q1 q2
 clear ih
 simp only at hi
 show Tt _ _ (fun m => c_Z55 (n_Z55 m) i j l some)
 unfold c_Z55
 simp only [less_eq, Option.bind_some, Option.bind_fun_some, List.length_set, wq]
 (repeat' first | refine Tt.ite (by omega) ?_ | refine Tt.ndec (fun _ => ?_) fun _ => ?_ | refine Tt.dec (fun _ => ?_) fun _ => ?_ | refine Tt.cnd (fun _ => ?_) fun _ => ?_)
 all_goals first
  | exact Tt.pure (by rfl)
  | exact (ih' _ _ _ (by (try simp only [List.length_set]); omega) (by omega)).mono (fun _ h => h) (fun _ h => by simpa only [List.length_set] using h)
theorem rev_tot (l : List D) (a b : Int) (h : 0 ≤ a ∧ a ≤ b ∧ b ≤ l.length ∧ l.length ≤ 1048576) : ∃ y, Z56 l a b = some y ∧ y.length = l.length := by
 refine Tt.out ?_
 unfold Z56 c_Z56
 simp only [wq, Option.bind_fun_some]
 exact Tt.con (rev2_tot _ _ _ (by omega))
theorem pin5_tot (a : Int) (b : Int) (i : Int) (j : Int) (l : List D) (hi : 0 ≤ a ∧ a < i ∧ i ≤ b ∧ b ≤ l.length ∧ l.length ≤ 1048576) :
  ∃ y, Z57 a b i j l = some y ∧ (y.1 = a ∧ y.2.1 = b ∧ a < y.2.2.1 ∧ y.2.2.1 ≤ b ∧ y.2.2.2.1 = j ∧ y.2.2.2.2.length = l.length) := by
 refine Tt.loop (fun n (x : Int × Int × Int × Int × List D) => n_Z57 n x.1 x.2.1 x.2.2.1 x.2.2.2.1 x.2.2.2.2) (fun x => 0 ≤ (x.1) ∧ (x.1) < (x.2.2.1) ∧ (x.2.2.1) ≤ (x.2.1) ∧ (x.2.1) ≤ (x.2.2.2.2).length ∧ (x.2.2.2.2).length ≤ 1048576) (fun x => ((x.2.1) - (x.2.2.1)).toNat) (fun x y => (y.1 = (x.1) ∧ y.2.1 = (x.2.1) ∧ (x.1) < y.2.2.1 ∧ y.2.2.1 ≤ (x.2.1) ∧ y.2.2.2.1 = (x.2.2.2.1) ∧ y.2.2.2.2.length = (x.2.2.2.2).length)) ?_ (a, b, i, j, l) hi
 clear hi
 rintro ⟨a, b, i, j, l⟩ hi ih
 have ih' : ∀ (a' : Int) (b' : Int) (i' : Int) (j' : Int) (l' : List D), (0 ≤ a' ∧ a' < i' ∧ i' ≤ b' ∧ b' ≤ l'.length ∧ l'.length ≤ 1048576) → (b' - i').toNat < (b - i).toNat → Tt (fun m => (b - i).toNat ≤ m) (fun y => (y.1 = a' ∧ y.2.1 = b' ∧ a' < y.2.2.1 ∧ y.2.2.1 ≤ b' ∧ y.2.2.2.1 = j' ∧ y.2.2.2.2.length = l'.length)) (fun m => n_Z57 m a' b' i' j' l') :=
  fun a' b' i' j' l' q1 q2 => ih (a', b', i', j', l') q1 q2
 clear ih
 simp only at hi
 show Tt _ _ (fun m => c_Z57 (n_Z57 m) a b i j l some)
 unfold c_Z57
 simp only [less_eq, Option.bind_some, Option.bind_fun_some, List.length_set, wq]
 (repeat' first | refine Tt.ite (by omega) ?_ | refine Tt.ndec (fun _ => ?_) fun _ => ?_ | refine Tt.dec (fun _ => ?_) fun _ => ?_ | refine Tt.cnd (fun _ => ?_) fun _ => ?_)
 all_goals first
  | exact Tt.pure (by dsimp only; omega)
  | exact ih' _ _ _ _ _ (by omega) (by omega)
theorem pin14_tot (a : Int) (b : Int) (i : Int) (j : Int) (k : Int) (l : List D) (hi : l.length ≤ 1048576 ∧ k < l.length) :
  ∃ y, Z58 a b i j k l = some y ∧ (y.1 = a ∧ y.2.1 = b ∧ y.2.2.1 = i ∧ y.2.2.2.1 = j ∧ y.2.2.2.2.length = l.length) := by
 refine Tt.loop (fun n (x : Int × Int × Int × Int × Int × List D) => n_Z58 n x.1 x.2.1 x.2.2.1 x.2.2.2.1 x.2.2.2.2.1 x.2.2.2.2.2) (fun x => (x.2.2.2.2.2).length ≤ 1048576 ∧ (x.2.2.2.2.1) < (x.2.2.2.2.2).length) (fun x => ((x.2.2.2.2.1)).toNat) (fun x y => (y.1 = (x.1) ∧ y.2.1 = (x.2.1) ∧ y.2.2.1 = (x.2.2.1) ∧ y.2.2.2.1 = (x.2.2.2.1) ∧ y.2.2.2.2.length = (x.2.2.2.2.2).length)) ?_ (a, b, i, j, k, l) hi
 clear hi
 rintro ⟨a, b, i, j, k, l⟩ hi ih
 have ih' : ∀ (a' : Int) (b' : Int) (i' : Int) (j' : Int) (k' : Int) (l' : List D), (l'.length ≤ 1048576 ∧ k' < l'.length) → (k').toNat < (k).toNat → Tt (fun m => (k).toNat ≤ m) (fun y => (y.1 = a' ∧ y.2.1 = b' ∧ y.2.2.1 = i' ∧ y.2.2.2.1 = j' ∧ y.2.2.2.2.length = l'.length)) (fun m => n_Z58 m a' b' i' j' k' l') :=
  fun a' b' i' j' k' l' q1 q2 => ih (a', b', i', j', k', l') q1 q2
 clear ih
 simp only at hi
 show Tt _ _ (fun m => c_Z58 (n_Z58 m) a b i j k l some)
 unfold c_Z58
 simp only [less_eq, Option.bind_some, Option.bind_fun_some, List.length_set, wq]
 (repeat' first | refine Tt.ite (by omega) ?_ | refine Tt.ndec (fun _ => ?_) fun _ => ?_ | refine Tt.dec (fun _ => ?_) fun _ => ?_ | refine Tt.cnd (fun _ => ?_) fun _ => ?_)
 all_goals first
  | exact Tt.pure (by exact ⟨rfl, rfl, rfl, rfl, rfl⟩)
  | exact (ih' _ _ _ _ _ _ (by (try simp only [List.length_set]); omega) (by omega)).mono (fun _ h => h) (fun _ h => by simpa only [List.length_set] using h)
theorem pin20_tot (a : Int) (b : Int) (i : Int) (j : Int) (k : Int) (l : List D) (hi : l.length ≤ 1048576 ∧ 1 ≤ k ∧ b ≤ l.length) :
  ∃ y, Z59 a b i j k l = some y ∧ (y.1 = a ∧ y.2.1 = b ∧ y.2.2.1 = i ∧ y.2.2.2.1 = j ∧ y.2.2.2.2.length = l.length) := by
 refine Tt.loop (fun n (x : Int × Int × Int × Int × Int × List D) => n_Z59 n x.1 x.2.1 x.2.2.1 x.2.2.2.1 x.2.2.2.2.1 x.2.2.2.2.2) (fun x => (x.2.2.2.2.2).length ≤ 1048576 ∧ 1 ≤ (x.2.2.2.2.1) ∧ (x.2.1) ≤ (x.2.2.2.2.2).length) (fun x => ((x.2.1) - (x.2.2.2.2.1)).toNat) (fun x y => (y.1 = (x.1) ∧ y.2.1 = (x.2.1) ∧ y.2.2.1 = (x.2.2.1) ∧ y.2.2.2.1 = (x.2.2.2.1) ∧ y.2.2.2.2.length = (x.2.2.2.2.2).length)) ?_ (a, b, i, j, k, l) hi
 clear hi
 rintro ⟨a, b, i, j, k, l⟩ hi ih
 have ih' : ∀ (a' : Int) (b' : Int) (i' : Int) (j' : Int) (k' : Int) (l' : List D), (l'.length ≤ 1048576 ∧ 1 ≤ k' ∧ b' ≤ l'.length) → (b' - k').toNat < (b - k).toNat → Tt (fun m => (b - k).toNat ≤ m) (fun y => (y.1 = a' ∧ y.2.1 = b' ∧ y.2.2.1 = i' ∧ y.2.2.2.1 = j' ∧ y.2.2.2.2.length = l'.length)) (fun m => n_Z59 m a' b' i' j' k' l') :=
  fun a' b' i' j' k' l' q1 q2 => ih (a', b', i', j', k', l') q1 q2
 clear ih
 simp only at hi
 show Tt _ _ (fun m => c_Z59 (n_Z59 m) a b i j k l some)
 unfold c_Z59
 simp only [less_eq, Option.bind_some, Option.bind_fun_some, List.length_set, wq]
 (repeat' first | refine Tt.ite (by omega) ?_ | refine Tt.ndec (fun _ => ?_) fun _ => ?_ | refine Tt.dec (fun _ => ?_) fun _ => ?_ | refine Tt.cnd (fun _ => ?_) fun _ => ?_)
 all_goals first
  | exact Tt.pure (by exact ⟨rfl, rfl, rfl, rfl, rfl⟩)
  | exact (ih' _ _ _ _ _ _ (by (try simp only [List.length_set]); omega) (by omega)).mono (fun _ h => h) (fun _ h => by simpa only [List.length_set] using h)
def lenP : (Bool × List D) ⊕ List D → Nat | .inl l => l.2.length | .inr l => l.length
theorem pin3_tot (a : Int) (b : Int) (i : Int) (j : Int) (l : List D) (hi : 0 ≤ a ∧ a < i ∧ i ≤ b ∧ b ≤ l.length ∧ l.length ≤ 1048576 ∧ 0 ≤ j) :
    ∃ y, Z60 a b i j l = some y ∧ (lenP y = l.length) := by
  refine Tt.loop (fun n (x : Int × Int × Int × Int × List D) => n_Z60 n x.1 x.2.1 x.2.2.1 x.2.2.2.1 x.2.2.2.2) (fun x => 0 ≤ (x.1) ∧ (x.1) < (x.2.2.1) ∧ (x.2.2.1) ≤ (x.2.1) ∧ (x.2.1) ≤ (x.2.2.2.2).length ∧ (x.2.2.2.2).length ≤ 1048576 ∧ 0 ≤ (x.2.2.2.1)) (fun x => (5 - (x.2.2.2.1)).toNat) (fun x y => (lenP y = (x.2.2.2.2).length)) ?_ (a, b, i, j, l) hi
  clear hi
  rintro ⟨a, b, i, j, l⟩ hi ih
  have ih' : ∀ (a' : Int) (b' : Int) (i' : Int) (j' : Int) (l' : List D), (0 ≤ a' ∧ a' < i' ∧ i' ≤ b' ∧ b' ≤ l'.length ∧ l'.length ≤ 1048576 ∧ 0 ≤ j') → (5 - j').toNat < (5 - j).toNat → Tt (fun m => (5 - j).toNat ≤ m) (fun y => (lenP y = l'.length)) (fun m => n_Z60 m a' b' i' j' l') :=
    fun a' b' i' j' l' q1 q2 => ih (a', b', i', j', l') q1 q2
  clear ih
  simp only at hi
  show Tt _ _ (fun m => c_Z60 (n_Z60 m) a b i j l some)
  unfold c_Z60
  simp only [less_eq, Option.bind_some, Option.bind_fun_some, List.length_set, wq]
  (repeat' first | refine Tt.ite (by omega) ?_ | refine Tt.ndec (fun _ => ?_) fun _ => ?_ | refine Tt.dec (fun _ => ?_) fun _ => ?_ | refine Tt.cnd (fun _ => ?_) fun _ => ?_)
  · refine Tt.bind (Tt.con (pin5_tot _ _ _ _ _ (by omega))) (fun v hv => ?_)
    (repeat' first | refine Tt.ite (by omega) ?_ | refine Tt.ndec (fun _ => ?_) fun _ => ?_ | refine Tt.dec (fun _ => ?_) fun _ => ?_ | refine Tt.cnd (fun _ => ?_) fun _ => ?_)
    all_goals first
      | exact Tt.pure (by simp only [lenP]; omega)
      | (refine Tt.bind (Tt.con (pin14_tot _ _ _ _ _ _ (by (try simp only [List.length_set]); omega))) (fun w hw => ?_)
         simp only [List.length_set] at hw
         (repeat' first | refine Tt.ite (by omega) ?_ | refine Tt.ndec (fun _ => ?_) fun _ => ?_ | refine Tt.dec (fun _ => ?_) fun _ => ?_ | refine Tt.cnd (fun _ => ?_) fun _ => ?_)
         · refine Tt.bind (Tt.con (pin20_tot _ _ _ _ _ _ (by (try simp only [List.length_set]); omega))) (fun u hu => ?_)
           exact (ih' _ _ _ _ _ (by omega) (by omega)).mono (fun _ h => h) (fun _ h => by omega)
         · exact (ih' _ _ _ _ _ (by omega) (by omega)).mono (fun _ h => h) (fun _ h => by omega))
      | (refine Tt.bind (Tt.con (pin20_tot _ _ _ _ _ _ (by (try simp only [List.length_set]); omega))) (fun u hu => ?_)
         simp only [List.length_set] at hu
         exact (ih' _ _ _ _ _ (by omega) (by omega)).mono (fun _ h => h) (fun _ h => by omega))
      | exact (ih' _ _ _ _ _ (by (try simp only [List.length_set]); omega) (by omega)).mono (fun _ h => h) (fun _ h => by simp only [List.length_set] at h; omega)
  · exact Tt.pure rfl
theorem pin_tot (l : List D) (a b : Int) (h : 0 ≤ a ∧ a < b ∧ b ≤ l.length ∧ l.length ≤ 1048576) : ∃ y, Z61 l a b = some y ∧ y.2.length = l.length := by
 refine Tt.out ?_
 unfold Z61 c_Z61
 simp only [wq]
 refine Tt.bind (Tt.con (pin3_tot _ _ _ _ _ (by omega))) (fun v hv => ?_)
 cases v with
 | inl v => exact Tt.pure hv
 | inr v => exact Tt.pure hv
theorem peqL3_tot (a : Int) (i : Int) (j : Int) (l : List D) (hi : 0 ≤ a ∧ a < i ∧ a < l.length ∧ j < l.length ∧ -1 ≤ j ∧ i ≤ 1048577 ∧ l.length ≤ 1048576) :
  ∃ y, Z62 a i j l = some y ∧ (y.1 = a ∧ i ≤ y.2.1 ∧ y.2.1 ≤ max i (j + 1) ∧ y.2.2.1 = j ∧ y.2.2.2.length = l.length) := by
 refine Tt.loop (fun n (x : Int × Int × Int × List D) => n_Z62 n x.1 x.2.1 x.2.2.1 x.2.2.2) (fun x => 0 ≤ (x.1) ∧ (x.1) < (x.2.1) ∧ (x.1) < (x.2.2.2).length ∧ (x.2.2.1) < (x.2.2.2).length ∧ -1 ≤ (x.2.2.1) ∧ (x.2.1) ≤ 1048577 ∧ (x.2.2.2).length ≤ 1048576) (fun x => ((x.2.2.1) + 1 - (x.2.1)).toNat) (fun x y => (y.1 = (x.1) ∧ (x.2.1) ≤ y.2.1 ∧ y.2.1 ≤ max (x.2.1) ((x.2.2.1) + 1) ∧ y.2.2.1 = (x.2.2.1) ∧ y.2.2.2.length = (x.2.2.2).length)) ?_ (a, i, j, l) hi
 clear hi
 rintro ⟨a, i, j, l⟩ hi ih
 have ih' : ∀ (a' : Int) (i' : Int) (j' : Int) (l' : List D), (0 ≤ a' ∧ a' < i' ∧ a' < l'.length ∧ j' < l'.length ∧ -1 ≤ j' ∧ i' ≤ 1048577 ∧ l'.length ≤ 1048576) → (j' + 1 - i').toNat < (j + 1 - i).toNat → Tt (fun m => (j + 1 - i).toNat ≤ m) (fun y => (y.1 = a' ∧ i' ≤ y.2.1 ∧ y.2.1 ≤ max i' (j' + 1) ∧ y.2.2.1 = j' ∧ y.2.2.2.length = l'.length)) (fun m => n_Z62 m a' i' j' l') :=
  fun a' i' j' l' q1 q2 => ih (a', i', j', l') q1 q2
 clear ih
 simp only at hi
 show Tt _ _ (fun m => c_Z62 (n_Z62 m) a i j l some)
 unfold c_Z62
 simp only [less_eq, Option.bind_some, Option.bind_fun_some, List.length_set, wq]
 (repeat' first | refine Tt.ite (by omega) ?_ | refine Tt.ndec (fun _ => ?_) fun _ => ?_ | refine Tt.dec (fun _ => ?_) fun _ => ?_ | refine Tt.cnd (fun _ => ?_) fun _ => ?_)
 all_goals first
  | exact Tt.pure (by dsimp only; omega)
  | exact (ih' _ _ _ _ (by omega) (by omega)).mono (fun _ h => h) (fun _ h => by omega)
theorem peqL5_tot (a : Int) (i : Int) (j : Int) (l : List D) (hi : 0 ≤ a ∧ a < i ∧ a < l.length ∧ j < l.length ∧ -1 ≤ j ∧ i ≤ 1048577 ∧ l.length ≤ 1048576) :
  ∃ y, Z63 a i j l = some y ∧ (y.1 = a ∧ y.2.1 = i ∧ y.2.2.1 ≤ j ∧ min j (i - 1) ≤ y.2.2.1 ∧ y.2.2.2.length = l.length) := by
 refine Tt.loop (fun n (x : Int × Int × Int × List D) => n_Z63 n x.1 x.2.1 x.2.2.1 x.2.2.2) (fun x => 0 ≤ (x.1) ∧ (x.1) < (x.2.1) ∧ (x.1) < (x.2.2.2).length ∧ (x.2.2.1) < (x.2.2.2).length ∧ -1 ≤ (x.2.2.1) ∧ (x.2.1) ≤ 1048577 ∧ (x.2.2.2).length ≤ 1048576) (fun x => ((x.2.2.1) + 1 - (x.2.1)).toNat) (fun x y => (y.1 = (x.1) ∧ y.2.1 = (x.2.1) ∧ y.2.2.1 ≤ (x.2.2.1) ∧ min (x.2.2.1) ((x.2.1) - 1) ≤ y.2.2.1 ∧ y.2.2.2.length = (x.2.2.2).length)) ?_ (a, i, j, l) hi
 clear hi
 rintro ⟨a, i, j, l⟩ hi ih
 have ih' : ∀ (a' : Int) (i' : Int) (j' : Int) (l' : List D), (0 ≤ a' ∧ a' < i' ∧ a' < l'.length ∧ j' < l'.length ∧ -1 ≤ j' ∧ i' ≤ 1048577 ∧ l'.length ≤ 1048576) → (j' + 1 - i').toNat < (j + 1 - i).toNat → Tt (fun m => (j + 1 - i).toNat ≤ m) (fun y => (y.1 = a' ∧ y.2.1 = i' ∧ y.2.2.1 ≤ j' ∧ min j' (i' - 1) ≤ y.2.2.1 ∧ y.2.2.2.length = l'.length)) (fun m => n_Z63 m a' i' j' l') :=
  fun a' i' j' l' q1 q2 => ih (a', i', j', l') q1 q2
 clear ih
 simp only at hi
 show Tt _ _ (fun m => c_Z63 (n_Z63 m) a i j l some)
 unfold c_Z63
 simp only [less_eq, Option.bind_some, Option.bind_fun_some, List.length_set, wq]
 (repeat' first | refine Tt.ite (by omega) ?_ | refine Tt.ndec (fun _ => ?_) fun _ => ?_ | refine Tt.dec (fun _ => ?_) fun _ => ?_ | refine Tt.cnd (fun _ => ?_) fun _ => ?_)
 all_goals first
  | exact Tt.pure (by dsimp only; omega)
  | exact (ih' _ _ _ _ (by omega) (by omega)).mono (fun _ h => h) (fun _ h => by omega)
theorem peqL_tot (a : Int) (i : Int) (j : Int) (l : List D) (hi : 0 ≤ a ∧ a < i ∧ a < l.length ∧ j < l.length ∧ a - 1 ≤ j ∧ i ≤ l.length ∧ l.length ≤ 1048576) :
  ∃ y, Z64 a i j l = some y ∧ (i ≤ y.1 ∧ y.1 ≤ max i (j + 1) ∧ y.2.length = l.length) := by
 refine Tt.loop (fun n (x : Int × Int × Int × List D) => n_Z64 n x.1 x.2.1 x.2.2.1 x.2.2.2) (fun x => 0 ≤ (x.1) ∧ (x.1) < (x.2.1) ∧ (x.1) < (x.2.2.2).length ∧ (x.2.2.1) < (x.2.2.2).length ∧ (x.1) - 1 ≤ (x.2.2.1) ∧ (x.2.1) ≤ (x.2.2.2).length ∧ (x.2.2.2).length ≤ 1048576) (fun x => ((x.2.2.1) + 2 - (x.2.1)).toNat) (fun x y => ((x.2.1) ≤ y.1 ∧ y.1 ≤ max (x.2.1) ((x.2.2.1) + 1) ∧ y.2.length = (x.2.2.2).length)) ?_ (a, i, j, l) hi
 clear hi
 rintro ⟨a, i, j, l⟩ hi ih
 have ih' : ∀ (a' : Int) (i' : Int) (j' : Int) (l' : List D), (0 ≤ a' ∧ a' < i' ∧ a' < l'.length ∧ j' < l'.length ∧ a' - 1 ≤ j' ∧ i' ≤ l'.length ∧ l'.length ≤ 1048576) → (j' + 2 - i').toNat < (j + 2 - i).toNat → Tt (fun m => (j + 2 - i).toNat ≤ m) (fun y => (i' ≤ y.1 ∧ y.1 ≤ max i' (j' + 1) ∧ y.2.length = l'.length)) (fun m => n_Z64 m a' i' j' l') :=
  fun a' i' j' l' q1 q2 => ih (a', i', j', l') q1 q2
 clear ih
 simp only at hi
 show Tt _ _ (fun m => c_Z64 (n_Z64 m) a i j l some)
 unfold c_Z64
 simp only [less_eq, Option.bind_some, Option.bind_fun_some, List.length_set, wq]
 refine Tt.bind (Tt.con (peqL3_tot _ _ _ _ (by omega))) (fun v hv => ?_)
 refine Tt.bind (Tt.con (peqL5_tot _ _ _ _ (by omega))) (fun w hw => ?_)
 (repeat' first | refine Tt.ite (by omega) ?_ | refine Tt.ndec (fun _ => ?_) fun _ => ?_ | refine Tt.dec (fun _ => ?_) fun _ => ?_ | refine Tt.cnd (fun _ => ?_) fun _ => ?_)
 ·exact Tt.pure (by dsimp only; omega)
 ·exact (ih' _ _ _ _ (by (try simp only [List.length_set]); omega) (by omega)).mono (fun _ h => h) (fun _ h => by simp only [List.length_set] at h; omega)
theorem peq_tot (l : List D) (a b p : Int) (h : 0 ≤ a ∧ a ≤ p ∧ p < b ∧ b ≤ l.length ∧ l.length ≤ 1048576) : ∃ y, Z65 l a b p = some y ∧ (a < y.1 ∧ y.1 ≤ b ∧ y.2.length = l.length) := by
 refine Tt.out ?_
 unfold Z65 c_Z65
 simp only [wq, List.length_set]
 (repeat' first | refine Tt.ite (by omega) ?_ | refine Tt.ndec (fun _ => ?_) fun _ => ?_ | refine Tt.dec (fun _ => ?_) fun _ => ?_ | refine Tt.cnd (fun _ => ?_) fun _ => ?_)
 refine Tt.bind (Tt.con (peqL_tot _ _ _ _ (by (try simp only [List.length_set]); omega))) (fun v hv => ?_)
 simp only [List.length_set] at hv
 exact Tt.pure (by dsimp only; omega)
theorem parL3_tot (a : Int) (i : Int) (j : Int) (l : List D) (hi : 0 ≤ a ∧ a < i ∧ a < l.length ∧ j < l.length ∧ -1 ≤ j ∧ i ≤ 1048577 ∧ l.length ≤ 1048576) :
  ∃ y, Z66 a i j l = some y ∧ (y.1 = a ∧ i ≤ y.2.1 ∧ y.2.1 ≤ max i (j + 1) ∧ y.2.2.1 = j ∧ y.2.2.2.length = l.length) := by
 refine Tt.loop (fun n (x : Int × Int × Int × List D) => n_Z66 n x.1 x.2.1 x.2.2.1 x.2.2.2) (fun x => 0 ≤ (x.1) ∧ (x.1) < (x.2.1) ∧ (x.1) < (x.2.2.2).length ∧ (x.2.2.1) < (x.2.2.2).length ∧ -1 ≤ (x.2.2.1) ∧ (x.2.1) ≤ 1048577 ∧ (x.2.2.2).length ≤ 1048576) (fun x => ((x.2.2.1) + 1 - (x.2.1)).toNat) (fun x y => (y.1 = (x.1) ∧ (x.2.1) ≤ y.2.1 ∧ y.2.1 ≤ max (x.2.1) ((x.2.2.1) + 1) ∧ y.2.2.1 = (x.2.2.1) ∧ y.2.2.2.length = (x.2.2.2).length)) ?_ (a, i, j, l) hi
 clear hi
 rintro ⟨a, i, j, l⟩ hi ih
 have ih' : ∀ (a' : Int) (i' : Int) (j' : Int) (l' : List D), (0 ≤ a' ∧ a' < i' ∧ a' < l'.length ∧ j' < l'.length ∧ -1 ≤ j' ∧ i' ≤ 1048577 ∧ l'.length ≤ 1048576) → (j' + 1 - i').toNat < (j + 1 - i).toNat → Tt (fun m => (j + 1 - i).toNat ≤ m) (fun y => (y.1 = a' ∧ i' ≤ y.2.1 ∧ y.2.1 ≤ max i' (j' + 1) ∧ y.2.2.1 = j' ∧ y.2.2.2.length = l'.length)) (fun m => n_Z66 m a' i' j' l') :=
  fun a' i' j' l' q1 q2 => ih (a', i', j', l') q1 q2
 clear ih
 simp only at hi
 show Tt _ _ (fun m => c_Z66 (n_Z66 m) a i j l some)
 unfold c_Z66
 simp only [less_eq, Option.bind_some, Option.bind_fun_some, List.length_set, wq]
 (repeat' first | refine Tt.ite (by omega) ?_ | refine Tt.ndec (fun _ => ?_) fun _ => ?_ | refine Tt.dec (fun _ => ?_) fun _ => ?_ | refine Tt.cnd (fun _ => ?_) fun _ => ?_)
 all_goals first
  | exact Tt.pure (by dsimp only; omega)
  | exact (ih' _ _ _ _ (by omega) (by omega)).mono (fun _ h => h) (fun _ h => by omega)
theorem parL5_tot (a : Int) (i : Int) (j : Int) (l : List D) (hi : 0 ≤ a ∧ a < i ∧ a < l.length ∧ j < l.length ∧ -1 ≤ j ∧ i ≤ 1048577 ∧ l.length ≤ 1048576) :
  ∃ y, Z67 a i j l = some y ∧ (y.1 = a ∧ y.2.1 = i ∧ y.2.2.1 ≤ j ∧ min j (i - 1) ≤ y.2.2.1 ∧ y.2.2.2.length = l.length) := by
 refine Tt.loop (fun n (x : Int × Int × Int × List D) => n_Z67 n x.1 x.2.1 x.2.2.1 x.2.2.2) (fun x => 0 ≤ (x.1) ∧ (x.1) < (x.2.1) ∧ (x.1) < (x.2.2.2).length ∧ (x.2.2.1) < (x.2.2.2).length ∧ -1 ≤ (x.2.2.1) ∧ (x.2.1) ≤ 1048577 ∧ (x.2.2.2).length ≤ 1048576) (fun x => ((x.2.2.1) + 1 - (x.2.1)).toNat) (fun x y => (y.1 = (x.1) ∧ y.2.1 = (x.2.1) ∧ y.2.2.1 ≤ (x.2.2.1) ∧ min (x.2.2.1) ((x.2.1) - 1) ≤ y.2.2.1 ∧ y.2.2.2.length = (x.2.2.2).length)) ?_ (a, i, j, l) hi
 clear hi
 rintro ⟨a, i, j, l⟩ hi ih
 have ih' : ∀ (a' : Int) (i' : Int) (j' : Int) (l' : List D), (0 ≤ a' ∧ a' < i' ∧ a' < l'.length ∧ j' < l'.length ∧ -1 ≤ j' ∧ i' ≤ 1048577 ∧ l'.length ≤ 1048576) → (j' + 1 - i').toNat < (j + 1 - i).toNat → Tt (fun m => (j + 1 - i).toNat ≤ m) (fun y => (y.1 = a' ∧ y.2.1 = i' ∧ y.2.2.1 ≤ j' ∧ min j' (i' - 1) ≤ y.2.2.1 ∧ y.2.2.2.length = l'.length)) (fun m => n_Z67 m a' i' j' l') :=
  fun a' i' j' l' q1 q2 => ih (a', i', j', l') q1 q2
 clear ih
 simp only at hi
 show Tt _ _ (fun m => c_Z67 (n_Z67 m) a i j l some)
 unfold c_Z67
 simp only [less_eq, Option.bind_some, Option.bind_fun_some, List.length_set, wq]
 (repeat' first | refine Tt.ite (by omega) ?_ | refine Tt.ndec (fun _ => ?_) fun _ => ?_ | refine Tt.dec (fun _ => ?_) fun _ => ?_ | refine Tt.cnd (fun _ => ?_) fun _ => ?_)
 all_goals first
  | exact Tt.pure (by dsimp only; omega)
  | exact (ih' _ _ _ _ (by omega) (by omega)).mono (fun _ h => h) (fun _ h => by omega)
theorem parL13_tot (a : Int) (i : Int) (j : Int) (l : List D) (hi : 0 ≤ a ∧ a < i ∧ a < l.length ∧ j < l.length ∧ -1 ≤ j ∧ i ≤ 1048577 ∧ l.length ≤ 1048576) :
  ∃ y, Z68 a i j l = some y ∧ (y.1 = a ∧ i ≤ y.2.1 ∧ y.2.1 ≤ max i (j + 1) ∧ y.2.2.1 = j ∧ y.2.2.2.length = l.length) := by
 refine Tt.loop (fun n (x : Int × Int × Int × List D) => n_Z68 n x.1 x.2.1 x.2.2.1 x.2.2.2) (fun x => 0 ≤ (x.1) ∧ (x.1) < (x.2.1) ∧ (x.1) < (x.2.2.2).length ∧ (x.2.2.1) < (x.2.2.2).length ∧ -1 ≤ (x.2.2.1) ∧ (x.2.1) ≤ 1048577 ∧ (x.2.2.2).length ≤ 1048576) (fun x => ((x.2.2.1) + 1 - (x.2.1)).toNat) (fun x y => (y.1 = (x.1) ∧ (x.2.1) ≤ y.2.1 ∧ y.2.1 ≤ max (x.2.1) ((x.2.2.1) + 1) ∧ y.2.2.1 = (x.2.2.1) ∧ y.2.2.2.length = (x.2.2.2).length)) ?_ (a, i, j, l) hi
 clear hi
 rintro ⟨a, i, j, l⟩ hi ih
 have ih' : ∀ (a' : Int) (i' : Int) (j' : Int) (l' : List D), (0 ≤ a' ∧ a' < i' ∧ a' < l'.length ∧ j' < l'.length ∧ -1 ≤ j' ∧ i' ≤ 1048577 ∧ l'.length ≤ 1048576) → (j' + 1 - i').toNat < (j + 1 - i).toNat → Tt (fun m => (j + 1 - i).toNat ≤ m) (fun y => (y.1 = a' ∧ i' ≤ y.2.1 ∧ y.2.1 ≤ max i' (j' + 1) ∧ y.2.2.1 = j' ∧ y.2.2.2.length = l'.length)) (fun m => n_Z68 m a' i' j' l') :=
  fun a' i' j' l' q1 q2 => ih (a', i', j', l') q1 q2
 clear ih
 simp only at hi
 show Tt _ _ (fun m => c_Z68 (n_Z68 m) a i j l some)
 unfold c_Z68
 simp only [less_eq, Option.bind_some, Option.bind_fun_some, List.length_set, wq]
 (repeat' first | refine Tt.ite (by omega) ?_ | refine Tt.ndec (fun _ => ?_) fun _ => ?_ | refine Tt.dec (fun _ => ?_) fun _ => ?_ | refine Tt.cnd (fun _ => ?_) fun _ => ?_)
 all_goals first
  | exact Tt.pure (by dsimp only; omega)
  | exact (ih' _ _ _ _ (by omega) (by omega)).mono (fun _ h => h) (fun _ h => by omega)
theorem parL15_tot (a : Int) (i : Int) (j : Int) (l : List D) (hi : 0 ≤ a ∧ a < i ∧ a < l.length ∧ j < l.length ∧ -1 ≤ j ∧ i ≤ 1048577 ∧ l.length ≤ 1048576) :
  ∃ y, Z69 a i j l = some y ∧ (y.1 = a ∧ y.2.1 = i ∧ y.2.2.1 ≤ j ∧ min j (i - 1) ≤ y.2.2.1 ∧ y.2.2.2.length = l.length) := by
 refine Tt.loop (fun n (x : Int × Int × Int × List D) => n_Z69 n x.1 x.2.1 x.2.2.1 x.2.2.2) (fun x => 0 ≤ (x.1) ∧ (x.1) < (x.2.1) ∧ (x.1) < (x.2.2.2).length ∧ (x.2.2.1) < (x.2.2.2).length ∧ -1 ≤ (x.2.2.1) ∧ (x.2.1) ≤ 1048577 ∧ (x.2.2.2).length ≤ 1048576) (fun x => ((x.2.2.1) + 1 - (x.2.1)).toNat) (fun x y => (y.1 = (x.1) ∧ y.2.1 = (x.2.1) ∧ y.2.2.1 ≤ (x.2.2.1) ∧ min (x.2.2.1) ((x.2.1) - 1) ≤ y.2.2.1 ∧ y.2.2.2.length = (x.2.2.2).length)) ?_ (a, i, j, l) hi
 clear hi
 rintro ⟨a, i, j, l⟩ hi ih
 have ih' : ∀ (a' : Int) (i' : Int) (j' : Int) (l' : List D), (0 ≤ a' ∧ a' < i' ∧ a' < l'.length ∧ j' < l'.length ∧ -1 ≤ j' ∧ i' ≤ 1048577 ∧ l'.length ≤ 1048576) → (j' + 1 - i').toNat < (j + 1 - i).toNat → Tt (fun m => (j + 1 - i).toNat ≤ m) (fun y => (y.1 = a' ∧ y.2.1 = i' ∧ y.2.2.1 ≤ j' ∧ min j' (i' - 1) ≤ y.2.2.1 ∧ y.2.2.2.length = l'.length)) (fun m => n_Z69 m a' i' j' l') :=
  fun a' i' j' l' q1 q2 => ih (a', i', j', l') q1 q2
 clear ih
 simp only at hi
 show Tt _ _ (fun m => c_Z69 (n_Z69 m) a i j l some)
 unfold c_Z69
 simp only [less_eq, Option.bind_some, Option.bind_fun_some, List.length_set, wq]
 (repeat' first | refine Tt.ite (by omega) ?_ | refine Tt.ndec (fun _ => ?_) fun _ => ?_ | refine Tt.dec (fun _ => ?_) fun _ => ?_ | refine Tt.cnd (fun _ => ?_) fun _ => ?_)
 all_goals first
  | exact Tt.pure (by dsimp only; omega)
  | exact (ih' _ _ _ _ (by omega) (by omega)).mono (fun _ h => h) (fun _ h => by omega)
theorem parL_tot (a : Int) (i : Int) (j : Int) (l : List D) (hi : 0 ≤ a ∧ a < i ∧ a < l.length ∧ j < l.length ∧ a ≤ j ∧ i ≤ l.length ∧ l.length ≤ 1048576) :
  ∃ y, Z70 a i j l = some y ∧ (y.1 = a ∧ a ≤ y.2.1 ∧ y.2.1 ≤ j ∧ y.2.2.length = l.length) := by
 refine Tt.loop (fun n (x : Int × Int × Int × List D) => n_Z70 n x.1 x.2.1 x.2.2.1 x.2.2.2) (fun x => 0 ≤ (x.1) ∧ (x.1) < (x.2.1) ∧ (x.1) < (x.2.2.2).length ∧ (x.2.2.1) < (x.2.2.2).length ∧ (x.1) ≤ (x.2.2.1) ∧ (x.2.1) ≤ (x.2.2.2).length ∧ (x.2.2.2).length ≤ 1048576) (fun x => ((x.2.2.1) + 2 - (x.2.1)).toNat) (fun x y => (y.1 = (x.1) ∧ (x.1) ≤ y.2.1 ∧ y.2.1 ≤ (x.2.2.1) ∧ y.2.2.length = (x.2.2.2).length)) ?_ (a, i, j, l) hi
 clear hi
 rintro ⟨a, i, j, l⟩ hi ih
 have ih' : ∀ (a' : Int) (i' : Int) (j' : Int) (l' : List D), (0 ≤ a' ∧ a' < i' ∧ a' < l'.length ∧ j' < l'.length ∧ a' ≤ j' ∧ i' ≤ l'.length ∧ l'.length ≤ 1048576) → (j' + 2 - i').toNat < (j + 2 - i).toNat → Tt (fun m => (j + 2 - i).toNat ≤ m) (fun y => (y.1 = a' ∧ a' ≤ y.2.1 ∧ y.2.1 ≤ j' ∧ y.2.2.length = l'.length)) (fun m => n_Z70 m a' i' j' l') :=
  fun a' i' j' l' q1 q2 => ih (a', i', j', l') q1 q2
 clear ih
 simp only at hi
 show Tt _ _ (fun m => c_Z70 (n_Z70 m) a i j l some)
 unfold c_Z70
 simp only [less_eq, Option.bind_some, Option.bind_fun_some, List.length_set, wq]
 refine Tt.bind (Tt.con (parL13_tot _ _ _ _ (by omega))) (fun v hv => ?_)
 refine Tt.bind (Tt.con (parL15_tot _ _ _ _ (by omega))) (fun w hw => ?_)
 (repeat' first | refine Tt.ite (by omega) ?_ | refine Tt.ndec (fun _ => ?_) fun _ => ?_ | refine Tt.dec (fun _ => ?_) fun _ => ?_ | refine Tt.cnd (fun _ => ?_) fun _ => ?_)
 ·exact Tt.pure (by dsimp only; omega)
 ·exact (ih' _ _ _ _ (by (try simp only [List.length_set]); omega) (by omega)).mono (fun _ h => h) (fun _ h => by simp only [List.length_set] at h; omega)
theorem par_tot (l : List D) (a b p : Int) (h : 0 ≤ a ∧ a + 1 < b ∧ a ≤ p ∧ p < b ∧ b ≤ l.length ∧ l.length ≤ 1048576) : ∃ y, Z71 l a b p = some y ∧ (a ≤ y.1 ∧ y.1 < b ∧ y.2.2.length = l.length) := by
 refine Tt.out ?_
 unfold Z71 c_Z71
 simp only [wq, List.length_set]
 (repeat' first | refine Tt.ite (by omega) ?_ | refine Tt.ndec (fun _ => ?_) fun _ => ?_ | refine Tt.dec (fun _ => ?_) fun _ => ?_ | refine Tt.cnd (fun _ => ?_) fun _ => ?_)
 refine Tt.bind (Tt.con (parL3_tot _ _ _ _ (by (try simp only [List.length_set]); omega))) (fun v hv => ?_)
 simp only [List.length_set] at hv
 refine Tt.bind (Tt.con (parL5_tot _ _ _ _ (by omega))) (fun w hw => ?_)
 (repeat' first | refine Tt.ite (by omega) ?_ | refine Tt.ndec (fun _ => ?_) fun _ => ?_ | refine Tt.dec (fun _ => ?_) fun _ => ?_ | refine Tt.cnd (fun _ => ?_) fun _ => ?_)
 ·exact Tt.pure (by dsimp only; simp only [List.length_set]; omega)
 ·refine Tt.bind (Tt.con (parL_tot _ _ _ _ (by (try simp only [List.length_set]); omega))) (fun u hu => ?_)
  simp only [List.length_set] at hu
  (repeat' first | refine Tt.ite (by omega) ?_ | refine Tt.ndec (fun _ => ?_) fun _ => ?_ | refine Tt.dec (fun _ => ?_) fun _ => ?_ | refine Tt.cnd (fun _ => ?_) fun _ => ?_)
  exact Tt.pure (by dsimp only; simp only [List.length_set]; omega)
theorem order2_tot (l : List D) (a b s : Int) (h : 0 ≤ a ∧ a < l.length ∧ 0 ≤ b ∧ b < l.length) : ∃ y, Z51 l a b s = some y ∧ ((y.1 = a ∧ y.2.1 = b) ∨ (y.1 = b ∧ y.2.1 = a)) := by
 refine Tt.out ?_
 unfold Z51 c_Z51
 simp only [less_eq, Option.bind_some]
 (repeat' first | refine Tt.ite (by omega) ?_ | refine Tt.ndec (fun _ => ?_) fun _ => ?_ | refine Tt.dec (fun _ => ?_) fun _ => ?_ | refine Tt.cnd (fun _ => ?_) fun _ => ?_)
 ·exact Tt.pure (.inr ⟨rfl, rfl⟩)
 ·exact Tt.pure (.inl ⟨rfl, rfl⟩)
theorem median_tot (l : List D) (a b c s : Int) (lo hi : Int) (h : 0 ≤ lo ∧ hi ≤ l.length ∧ lo ≤ a ∧ a < hi ∧ lo ≤ b ∧ b < hi ∧ lo ≤ c ∧ c < hi) : ∃ y, Z52 l a b c s = some y ∧ (lo ≤ y.1 ∧ y.1 < hi) := by
 refine Tt.out ?_
 unfold Z52 c_Z52
 refine Tt.bind (Tt.con (order2_tot _ _ _ _ (by omega))) (fun v hv => ?_)
 refine Tt.bind (Tt.con (order2_tot _ _ _ _ (by omega))) (fun w hw => ?_)
 refine Tt.bind (Tt.con (order2_tot _ _ _ _ (by omega))) (fun u hu => ?_)
 exact Tt.pure (by dsimp only; omega)
theorem medadj_tot (l : List D) (a s : Int) (lo hi : Int) (h : 0 ≤ lo ∧ hi ≤ l.length ∧ l.length ≤ 1048576 ∧ lo < a ∧ a + 1 < hi) : ∃ y, Z53 l a s = some y ∧ (lo ≤ y.1 ∧ y.1 < hi) := by
 refine Tt.out ?_
 unfold Z53 c_Z53
 simp only [wq]
 refine Tt.bind (Tt.con (median_tot _ _ _ _ _ lo hi (by omega))) (fun v hv => ?_)
 exact Tt.pure (by dsimp only; omega)
theorem choose_tot (l : List D) (a b : Int) (h : 0 ≤ a ∧ a < b ∧ b ≤ l.length ∧ l.length ≤ 1048576) : ∃ y, Z54 l a b = some y ∧ (a ≤ y.1 ∧ y.1 < b) := by
 refine Tt.out ?_
 unfold Z54 c_Z54
 rw [wrap_id (n := b - a) (by omega) (by omega), tq (by omega)]
 obtain ⟨q, hq, hq1, hq2⟩ : ∃ q, (b - a) / 4 = q ∧ 0 ≤ q ∧ 4 * q ≤ b - a := ⟨_, rfl, by omega, by omega⟩
 rw [hq]
 rw [wrap_id (n := q) (by omega) (by omega)]
 rw [wrap_id (n := q * 1) (by omega) (by omega), wrap_id (n := q * 2) (by omega) (by omega), wrap_id (n := q * 3) (by omega) (by omega)]
 rw [wrap_id (n := a + q * 1) (by omega) (by omega), wrap_id (n := a + q * 2) (by omega) (by omega), wrap_id (n := a + q * 3) (by omega) (by omega)]
 (repeat' first | refine Tt.ite (by omega) ?_ | refine Tt.ndec (fun _ => ?_) fun _ => ?_ | refine Tt.dec (fun _ => ?_) fun _ => ?_ | refine Tt.cnd (fun _ => ?_) fun _ => ?_)
 ·refine Tt.bind (Tt.con (medadj_tot _ _ _ a b (by omega))) (fun v hv => ?_)
  refine Tt.bind (Tt.con (medadj_tot _ _ _ a b (by omega))) (fun w hw => ?_)
  refine Tt.bind (Tt.con (medadj_tot _ _ _ a b (by omega))) (fun u hu => ?_)
  refine Tt.bind (Tt.con (median_tot _ _ _ _ _ a b (by omega))) (fun u hu => ?_)
  (repeat' first | refine Tt.ite (by omega) ?_ | refine Tt.ndec (fun _ => ?_) fun _ => ?_ | refine Tt.dec (fun _ => ?_) fun _ => ?_ | refine Tt.cnd (fun _ => ?_) fun _ => ?_) <;> exact Tt.pure hu
 ·refine Tt.bind (Tt.con (median_tot _ _ _ _ _ a b (by omega))) (fun u hu => ?_)
  (repeat' first | refine Tt.ite (by omega) ?_ | refine Tt.ndec (fun _ => ?_) fun _ => ?_ | refine Tt.dec (fun _ => ?_) fun _ => ?_ | refine Tt.cnd (fun _ => ?_) fun _ => ?_) <;> exact Tt.pure hu
 all_goals exact Tt.pure (by dsimp only; omega)
theorem uq (n : Int) : IntKind.u64.wrap n = n % 18446744073709551616 := by
 unfold IntKind.wrap
 simp [IntKind.signed, IntKind.bits]
theorem bq (n : Int) : IntKind.u8.wrap n = n % 256 := by
 unfold IntKind.wrap
 simp [IntKind.signed, IntKind.bits]
theorem len_tab : ∀ i : Fin 256, (bytes_0.data.toList.getD i.val (0 : UInt8)).toNat ≤ 8 ∧ (i.val = 0 ∨ 2 ^ (bytes_0.data.toList.getD i.val (0 : UInt8)).toNat ≤ 2 * i.val) := by
 decide +kernel
theorem len_size : (bytes_0.size : Int) = 256 := by decide +kernel
theorem fdiv_eq {n k : Int} (h : 0 ≤ k) : n.fdiv k = n / k := Int.fdiv_eq_ediv_of_nonneg n h
theorem len_at {q : Int} (h0 : 0 ≤ q) (h1 : q < 256) : ∃ t : Nat, (bytes_0.data.toList.getD q.toNat (0 : UInt8)).toNat = t ∧ t ≤ 8 ∧ (q = 0 ∨ ((2 ^ t : Nat) : Int) ≤ 2 * q) := by
 refine ⟨_, rfl, ?_⟩
 have := len_tab ⟨q.toNat, by omega⟩
 simp only at this
 refine ⟨this.1, ?_⟩
 rcases this.2 with h | h
 ·exact .inl (by omega)
 ·exact .inr (by omega)
theorem len_tot (n : Int) (h0 : 0 ≤ n) (h1 : n ≤ 1048576) : ∃ y, Z36 n = some y ∧ (0 ≤ y ∧ y ≤ 24 ∧ (n = 0 ∨ ((2 ^ y.toNat : Nat) : Int) ≤ 2 * n)) := by
 have e32 : ((2 : Int) ^ Min.min (Int.toNat (32 : Int)) IntKind.u64.bits) = 4294967296 := by decide
 have e16 : ((2 : Int) ^ Min.min (Int.toNat (16 : Int)) IntKind.u64.bits) = 65536 := by decide
 have e8 : ((2 : Int) ^ Min.min (Int.toNat (8 : Int)) IntKind.u64.bits) = 256 := by decide
 refine Tt.out ?_
 unfold Z36 c_Z36 Z35 c_Z35
 simp only [wq, bq, e32, e16, e8, len_size, Option.bind_fun_some]
 simp only [fdiv_eq (show (0:Int) ≤ 4294967296 by decide), fdiv_eq (show (0:Int) ≤ 65536 by decide), fdiv_eq (show (0:Int) ≤ 256 by decide)]
 (repeat' first | refine Tt.ite (by omega) ?_ | refine Tt.ndec (fun _ => ?_) fun _ => ?_ | refine Tt.dec (fun _ => ?_) fun _ => ?_ | refine Tt.cnd (fun _ => ?_) fun _ => ?_)
 all_goals first
  | (exfalso; omega)
  | skip
 ·obtain ⟨t, e, h3, h4⟩ := len_at (q := n / 65536 % 256) (by omega) (by omega)
  rw [e]
  refine Tt.pure ⟨by omega, by omega, ?_⟩
  rw [show (((((0 + 16 + 9223372036854775808) % 18446744073709551616 - 9223372036854775808) + ((((t : Nat) : Int) + 9223372036854775808) % 18446744073709551616 - 9223372036854775808) + 9223372036854775808) % 18446744073709551616 - 9223372036854775808) : Int).toNat = 16 + t by omega, Nat.pow_add]
  obtain ⟨z, hz⟩ : ∃ z : Nat, 2 ^ t = z := ⟨_, rfl⟩
  rw [hz] at h4 ⊢
  omega
 ·obtain ⟨t, e, h3, h4⟩ := len_at (q := n / 256 % 256) (by omega) (by omega)
  rw [e]
  refine Tt.pure ⟨by omega, by omega, ?_⟩
  rw [show (((((0 + 8 + 9223372036854775808) % 18446744073709551616 - 9223372036854775808) + ((((t : Nat) : Int) + 9223372036854775808) % 18446744073709551616 - 9223372036854775808) + 9223372036854775808) % 18446744073709551616 - 9223372036854775808) : Int).toNat = 8 + t by omega, Nat.pow_add]
  obtain ⟨z, hz⟩ : ∃ z : Nat, 2 ^ t = z := ⟨_, rfl⟩
  rw [hz] at h4 ⊢
  omega
 ·obtain ⟨t, e, h3, h4⟩ := len_at (q := n % 256) (by omega) (by omega)
  rw [e]
  refine Tt.pure ⟨by omega, by omega, ?_⟩
  rw [show (((0 + ((((t : Nat) : Int) + 9223372036854775808) % 18446744073709551616 - 9223372036854775808) + 9223372036854775808) % 18446744073709551616 - 9223372036854775808) : Int).toNat = t by omega]
  obtain ⟨z, hz⟩ : ∃ z : Nat, 2 ^ t = z := ⟨_, rfl⟩
  rw [hz] at h4 ⊢
  omega
theorem pow2_tot (n : Int) (h0 : 1 ≤ n) (h1 : n ≤ 1048576) : ∃ y, Z47 n = some y ∧ (1 ≤ y ∧ y ≤ 2 * n) := by
 refine Tt.out ?_
 unfold Z47 c_Z47
 rw [show IntKind.u64.wrap n = n by rw [uq]; omega]
 refine Tt.bind (Tt.con (len_tot n (by omega) h1)) (fun v hv => ?_)
 refine Tt.ite hv.1 ?_
 have e : (1 : Int) * 2 ^ Min.min v.toNat IntKind.u64.bits = ((2 ^ v.toNat : Nat) : Int) := by
  rw [show Min.min v.toNat IntKind.u64.bits = v.toNat by simp only [IntKind.bits]; omega]
  push_cast; omega
 rw [e]
 have h3 : ((2 ^ v.toNat : Nat) : Int) ≤ 2 * n := by omega
 have h4 : 0 < 2 ^ v.toNat := Nat.two_pow_pos _
 exact Tt.pure (by rw [uq]; omega)
theorem and_lt {r m : Int} (h0 : 1 ≤ m) (h1 : m ≤ 4194304) : 0 ≤ IntKind.i64.wrap (IntKind.u64.wrap (((BitVec.ofInt IntKind.u64.bits r &&& BitVec.ofInt IntKind.u64.bits (IntKind.u64.wrap (m - 1))).toNat : Nat) : Int)) ∧ IntKind.i64.wrap (IntKind.u64.wrap (((BitVec.ofInt IntKind.u64.bits r &&& BitVec.ofInt IntKind.u64.bits (IntKind.u64.wrap (m - 1))).toNat : Nat) : Int)) < m := by
 have h2 : (BitVec.ofInt IntKind.u64.bits r &&& BitVec.ofInt IntKind.u64.bits (IntKind.u64.wrap (m - 1))).toNat ≤ (BitVec.ofInt IntKind.u64.bits (IntKind.u64.wrap (m - 1))).toNat := by
  rw [BitVec.toNat_and]; exact Nat.and_le_right
 have h3 : (BitVec.ofInt IntKind.u64.bits (IntKind.u64.wrap (m - 1))).toNat = (m - 1).toNat := by
  rw [BitVec.toNat_ofInt, show IntKind.u64.wrap (m - 1) = m - 1 by rw [uq]; omega]
  simp only [IntKind.bits]
  omega
 rw [h3] at h2
 rw [uq, wq]
 omega
theorem xor_tot (r : Int) : ∃ y, Z48 r = some y ∧ True := by
 refine Tt.out ?_
 unfold Z48 c_Z48
 refine Tt.ite (by decide) (Tt.ite (by decide) (Tt.ite (by decide) (Tt.pure trivial)))
attribute [local irreducible] Z48 Z47 Z54 Z56 Z61 Z65 Z71 Z46 Z41
theorem bp5_tot (a n m i : Int) (l : List D) (r : Int) (hi : 0 ≤ a ∧ 8 ≤ n ∧ a + n ≤ l.length ∧ l.length ≤ 1048576 ∧ 1 ≤ m ∧ m ≤ 2 * n ∧ a ≤ i) :
  ∃ y, Z49 a n m i l r = some y ∧ y.length = l.length := by
 refine Tt.loop (fun k (x : Int × List D × Int) => n_Z49 k a n m x.1 x.2.1 x.2.2) (fun x => 0 ≤ a ∧ 8 ≤ n ∧ a + n ≤ x.2.1.length ∧ x.2.1.length ≤ 1048576 ∧ 1 ≤ m ∧ m ≤ 2 * n ∧ a ≤ x.1) (fun x => (a + n - x.1).toNat) (fun x y => y.length = x.2.1.length) ?_ (i, l, r) hi
 clear hi
 rintro ⟨i, l, r⟩ hi ih
 have ih' : ∀ (i' : Int) (l' : List D) (r' : Int), (0 ≤ a ∧ 8 ≤ n ∧ a + n ≤ l'.length ∧ l'.length ≤ 1048576 ∧ 1 ≤ m ∧ m ≤ 2 * n ∧ a ≤ i') → (a + n - i').toNat < (a + n - i).toNat → Tt (fun k => (a + n - i).toNat ≤ k) (fun y => y.length = l'.length) (fun k => n_Z49 k a n m i' l' r') :=
  fun i' l' r' q1 q2 => ih (i', l', r') q1 q2
 clear ih
 simp only at hi
 show Tt _ _ (fun k => c_Z49 (n_Z49 k) a n m i l r some)
 unfold c_Z49
 simp only [Option.bind_fun_some, List.length_set]
 rw [tq (by omega)]
 obtain ⟨q, hq, hq1, hq2⟩ : ∃ q, n / 4 = q ∧ 0 ≤ q ∧ 4 * q ≤ n := ⟨_, rfl, by omega, by omega⟩
 rw [hq]
 rw [wrap_id (n := q) (by omega) (by omega)]
 rw [wrap_id (n := q * 2) (by omega) (by omega)]
 rw [wrap_id (n := a + q * 2) (by omega) (by omega)]
 rw [wrap_id (n := a + q * 2 + 1) (by omega) (by omega)]
 (repeat' first | refine Tt.ite (by omega) ?_ | refine Tt.ndec (fun _ => ?_) fun _ => ?_ | refine Tt.dec (fun _ => ?_) fun _ => ?_ | refine Tt.cnd (fun _ => ?_) fun _ => ?_)
 ·refine Tt.bind (Tt.con (xor_tot _)) (fun v _ => ?_)
  have ho := and_lt (r := v.1) (m := m) (by omega) (by omega)
  generalize IntKind.i64.wrap (IntKind.u64.wrap (((BitVec.ofInt IntKind.u64.bits v.1 &&& BitVec.ofInt IntKind.u64.bits (IntKind.u64.wrap (m - 1))).toNat : Nat) : Int)) = o at ho ⊢
  simp only [wq]
  (repeat' first | refine Tt.ite (by omega) ?_ | refine Tt.ndec (fun _ => ?_) fun _ => ?_ | refine Tt.dec (fun _ => ?_) fun _ => ?_ | refine Tt.cnd (fun _ => ?_) fun _ => ?_)
  all_goals exact (ih' _ _ _ (by simp only [List.length_set]; omega) (by omega)).mono (fun _ h => h) (fun _ h => by simpa only [List.length_set] using h)
 ·exact Tt.pure rfl
theorem bp_tot (l : List D) (a b : Int) (h : 0 ≤ a ∧ a < b ∧ b ≤ l.length ∧ l.length ≤ 1048576) : ∃ y, Z50 l a b = some y ∧ y.length = l.length := by
 refine Tt.out ?_
 unfold Z50 c_Z50
 rw [wrap_id (n := b - a) (by omega) (by omega), tq (by omega)]
 obtain ⟨q, hq, hq1, hq2, hq3⟩ : ∃ q, (b - a) / 4 = q ∧ 0 ≤ q ∧ 4 * q ≤ b - a ∧ b - a < 4 * q + 4 := ⟨_, rfl, by omega, by omega, by omega⟩
 rw [hq]
 rw [wrap_id (n := q) (by omega) (by omega), wrap_id (n := q * 2) (by omega) (by omega), wrap_id (n := a + q * 2) (by omega) (by omega), wrap_id (n := a + q * 2 - 1) (by omega) (by omega)]
 (repeat' first | refine Tt.ite (by omega) ?_ | refine Tt.ndec (fun _ => ?_) fun _ => ?_ | refine Tt.dec (fun _ => ?_) fun _ => ?_ | refine Tt.cnd (fun _ => ?_) fun _ => ?_)
 ·refine Tt.bind (Tt.con (pow2_tot _ (by omega) (by omega))) (fun v hv => ?_)
  (repeat' first | refine Tt.ite (by omega) ?_ | refine Tt.ndec (fun _ => ?_) fun _ => ?_ | refine Tt.dec (fun _ => ?_) fun _ => ?_ | refine Tt.cnd (fun _ => ?_) fun _ => ?_)
  simp only [Option.bind_fun_some]
  exact Tt.con (bp5_tot _ _ _ _ _ _ (by omega))
 ·exact Tt.pure rfl
attribute [local irreducible] Z50
def pdGood (l : List D) (a b : Int) (y : List D) : Prop := y.length = l.length ∧ (b - a ≤ 12 → Z41 l a b = some y)
set_option maxHeartbeats 0 in
theorem pdq_in (w : Nat) (ihG : ∀ (l : List D) (a b lim : Int), (0 ≤ a ∧ a ≤ b ∧ b ≤ l.length ∧ l.length ≤ 1048576) → (b - a).toNat < w → Tt (fun m => w ≤ m) (fun y => y.length = l.length) (fun m => n_Z73 m l a b lim)) :
  ∀ v, v ≤ w → ∀ (a b lim : Int) (s t : Bool) (l : List D), (0 ≤ a ∧ a ≤ b ∧ b ≤ l.length ∧ l.length ≤ 1048576) → (b - a).toNat ≤ v →
   Tt (fun i : Nat × Nat => w ≤ i.1 ∧ v < i.2) (pdGood l a b) (fun i => n_Z72 (n_Z73 i.1) i.2 a b lim s t l) := by
 intro v
 induction v with
 | zero => 
  intro hv a b lim s t l h hw
  have : Tt (fun i : Nat × Nat => w ≤ i.1 ∧ 0 ≤ i.2) (pdGood l a b) (fun i => c_Z72 (n_Z73 i.1) (n_Z72 (n_Z73 i.1) i.2) a b lim s t l some) := by
   unfold c_Z72
   rw [wrap_id (n := b - a) (by omega) (by omega), decide_eq_true (show b - a ≤ 12 by omega)]
   simp only [cond_true, Option.bind_fun_some]
   obtain ⟨y, h1, h2⟩ := ins_tot l a b h
   exact Tt.con ⟨y, h1, h2, fun _ => h1⟩
  obtain ⟨y, h1, h2⟩ := this
  refine ⟨y, h1, ?_⟩
  rintro ⟨m, j⟩ hi
  simp only at hi
  obtain ⟨j, rfl⟩ : ∃ j', j = j' + 1 := ⟨j - 1, by omega⟩
  exact h2 (m, j) ⟨hi.1, by simp only; omega⟩
 | succ v ih =>
  intro hv a b lim s t l h hw
  have ihG' : ∀ (l : List D) (a b lim : Int), (0 ≤ a ∧ a ≤ b ∧ b ≤ l.length ∧ l.length ≤ 1048576) → (b - a).toNat < w → Tt (fun i : Nat × Nat => w ≤ i.1 ∧ v + 1 ≤ i.2) (fun y => y.length = l.length) (fun i => n_Z73 i.1 l a b lim) := by
   intro l a b lim q1 q2
   obtain ⟨y, h1, h2⟩ := ihG l a b lim q1 q2
   exact ⟨y, h1, fun i hi => h2 i.1 hi.1⟩
  have ihF : ∀ (a b lim : Int) (s t : Bool) (l : List D), (0 ≤ a ∧ a ≤ b ∧ b ≤ l.length ∧ l.length ≤ 1048576) → (b - a).toNat ≤ v →
   Tt (fun i : Nat × Nat => w ≤ i.1 ∧ v + 1 ≤ i.2) (fun y => y.length = l.length) (fun i => n_Z72 (n_Z73 i.1) i.2 a b lim s t l) :=
   fun a b lim s t l q1 q2 => (ih (by omega) a b lim s t l q1 q2).mono (fun i hi => ⟨hi.1, by omega⟩) (fun y hy => hy.1)
  clear ih ihG
  have : Tt (fun i : Nat × Nat => w ≤ i.1 ∧ v + 1 ≤ i.2) (pdGood l a b) (fun i => c_Z72 (n_Z73 i.1) (n_Z72 (n_Z73 i.1) i.2) a b lim s t l some) := by
   by_cases h12 : b - a ≤ 12
   ·unfold c_Z72
    rw [wrap_id (n := b - a) (by omega) (by omega), decide_eq_true h12]
    simp only [cond_true, Option.bind_fun_some]
    obtain ⟨y, h1, h2⟩ := ins_tot l a b h
    exact Tt.con ⟨y, h1, h2, fun _ => h1⟩
   ·have : Tt (fun i : Nat × Nat => w ≤ i.1 ∧ v + 1 ≤ i.2) (fun y => y.length = l.length) (fun i => c_Z72 (n_Z73 i.1) (n_Z72 (n_Z73 i.1) i.2) a b lim s t l some) := by
     unfold c_Z72
     rw [wrap_id (n := b - a) (by omega) (by omega), decide_eq_false h12]
     simp only [cond_false, Option.bind_fun_some, less_eq, Option.bind_some, wq]
     repeat' first
      | (first | refine Tt.ite (by omega) ?_ | refine Tt.ndec (fun _ => ?_) fun _ => ?_ | refine Tt.dec (fun _ => ?_) fun _ => ?_ | refine Tt.cnd (fun _ => ?_) fun _ => ?_)
      | refine Tt.bind (Tt.con (bp_tot _ _ _ (by omega))) (fun _ _ => ?_)
      | refine Tt.bind (Tt.con (choose_tot _ _ _ (by omega))) (fun _ _ => ?_)
      | refine Tt.bind (Tt.con (rev_tot _ _ _ (by omega))) (fun _ _ => ?_)
      | refine Tt.bind (Tt.con (pin_tot _ _ _ (by omega))) (fun _ _ => ?_)
      | refine Tt.bind (Tt.con (peq_tot _ _ _ _ (by omega))) (fun _ _ => ?_)
      | refine Tt.bind (Tt.con (par_tot _ _ _ _ (by omega))) (fun _ _ => ?_)
      | refine Tt.bind (ihG' _ _ _ _ (by omega) (by omega)) (fun _ _ => ?_)
      | exact (Tt.con (heap_tot _ _ _ (by omega)))
      | exact (ihF _ _ _ _ _ _ (by omega) (by omega)).mono (fun _ h => h) (fun _ h => by omega)
      | exact Tt.pure (by omega)
    exact this.mono (fun _ h => h) (fun y hy => ⟨hy, fun q => absurd q h12⟩)
  obtain ⟨y, h1, h2⟩ := this
  refine ⟨y, h1, ?_⟩
  rintro ⟨m, j⟩ hi
  simp only at hi
  obtain ⟨j, rfl⟩ : ∃ j', j = j' + 1 := ⟨j - 1, by omega⟩
  exact h2 (m, j) ⟨hi.1, by simp only; omega⟩
theorem pdq_key : ∀ (w : Nat) (l : List D) (a b lim : Int), (0 ≤ a ∧ a ≤ b ∧ b ≤ l.length ∧ l.length ≤ 1048576) → (b - a).toNat ≤ w → Tt (fun m => w < m) (pdGood l a b) (fun m => n_Z73 m l a b lim) := by
 intro w
 induction w with
 | zero =>
  intro l a b lim h hw
  obtain ⟨y, h1, h2⟩ := pdq_in 0 (fun _ _ _ _ _ h => absurd h (by omega)) 0 (Nat.le_refl _) a b lim Bool.true Bool.true l h hw
  refine ⟨y, h1, fun m hm => ?_⟩
  obtain ⟨m, rfl⟩ : ∃ m', m = m' + 1 := ⟨m - 1, by omega⟩
  show (ev (fun n => n_Z72 (n_Z73 m) n a b lim Bool.true Bool.true l)).bind _ = _
  rw [ev_eq 1 (fun j hj => h2 (m, j) ⟨by simp only; omega, by simp only; omega⟩)]
  rfl
 | succ w ih =>
  intro l a b lim h hw
  obtain ⟨y, h1, h2⟩ := pdq_in (w + 1) (fun l a b lim q1 q2 => (ih l a b lim q1 (by omega)).mono (fun m hm => by omega) (fun y hy => hy.1)) (w + 1) (Nat.le_refl _) a b lim Bool.true Bool.true l h hw
  refine ⟨y, h1, fun m hm => ?_⟩
  obtain ⟨m, rfl⟩ : ∃ m', m = m' + 1 := ⟨m - 1, by omega⟩
  show (ev (fun n => n_Z72 (n_Z73 m) n a b lim Bool.true Bool.true l)).bind _ = _
  rw [ev_eq (w + 2) (fun j hj => h2 (m, j) ⟨by simp only; omega, by simp only; omega⟩)]
  rfl
theorem sort_tot (l : List D) (h : l.length ≤ 1048576) : ∃ y, Z74 l = some y ∧ pdGood l 0 l.length y := by
 refine Tt.out ?_
 unfold Z74 c_Z74
 rw [show IntKind.u64.wrap ((l.length : Nat) : Int) = (l.length : Int) by rw [uq]; omega]
 refine Tt.bind (Tt.con (len_tot _ (by omega) (by omega))) (fun v hv => ?_)
 simp only [Option.bind_fun_some]
 obtain ⟨y, h1, h2⟩ := pdq_key ((l.length : Int) - 0).toNat l 0 l.length v (by omega) (Nat.le_refl _)
 exact Tt.con ⟨y, ev_eq (((l.length : Int) - 0).toNat + 1) (fun m hm => h2 m (by omega)), h1⟩
def St (l : List Int) : Prop := l.Pairwise (· ≤ ·)
def iD (l : List Int) : List D := l.map D.int
theorem iD_len (l : List Int) : (iD l).length = l.length := by simp [iD]
theorem iD_get (l : List Int) (i : Nat) : ((iD l).getD i (.int 0)).toInt = l.getD i 0 := by
 simp only [iD, List.getD_eq_getElem?_getD, List.getElem?_map]
 cases l[i]? <;> rfl
theorem iD_set (l : List Int) (i : Nat) (v : Int) : (iD l).set i (D.int v) = iD (l.set i v) := by
 simp [iD, List.map_set]
theorem iD_of {l : List D} (h : ∀ d ∈ l, ∃ k, d = D.int k) : l = iD (l.map D.toInt) := by
 induction l with
 | nil => rfl
 | cons d l ih =>
  obtain ⟨k, rfl⟩ := h d (by simp)
  have := ih (fun d hd => h d (by simp [hd]))
  simp only [iD, List.map_cons] at this ⊢
  rw [← this]; rfl
theorem ins4_spec : ∀ (n : Nat) (A B R : List Int) (v b i : Int), A.length = n → n ≤ 1048576 → St (A ++ B) → (∀ x ∈ B, v ≤ x) →
  ∃ C, St C ∧ C.Perm (A ++ v :: B) ∧ ∀ m, n < m → n_Z39 m 0 b i (n : Int) (iD (A ++ v :: (B ++ R))) = some (0, b, i, iD (C ++ R)) := by
 intro n
 induction n with
 | zero =>
  intro A B R v b i hA hn hS hB
  obtain rfl := List.eq_nil_of_length_eq_zero hA
  refine ⟨v :: B, List.pairwise_cons.2 ⟨hB, hS⟩, List.Perm.refl _, fun m hm => ?_⟩
  obtain ⟨m, rfl⟩ : ∃ m', m = m' + 1 := ⟨m - 1, by omega⟩
  show c_Z39 _ _ _ _ _ _ _ = _
  unfold c_Z39
  rw [decide_eq_false (by omega)]
  rfl
 | succ n ih =>
  intro A B R v b i hA hn hS hB
  obtain ⟨A', u, rfl⟩ : ∃ A' u, A = A' ++ [u] := by
   refine ⟨A.dropLast, A.getLast (by rintro rfl; simp at hA), (List.dropLast_concat_getLast _).symm⟩
  have hA' : A'.length = n := by simpa using hA
  have g1 : ((A' ++ [u]) ++ v :: (B ++ R)).getD (n + 1) 0 = v := by
   rw [List.getD_eq_getElem?_getD, List.getElem?_append_right (by simp; omega)]
   simp [hA']
  have g0 : ((A' ++ [u]) ++ v :: (B ++ R)).getD n 0 = u := by
   rw [List.getD_eq_getElem?_getD, List.getElem?_append_left (by simp; omega), List.getElem?_append_right (by omega)]
   simp [hA']
  have hlen : (iD ((A' ++ [u]) ++ v :: (B ++ R))).length = n + 2 + (B ++ R).length := by
   rw [iD_len]; simp; omega
  have hset : ((iD ((A' ++ [u]) ++ v :: (B ++ R))).set (n + 1) (D.int u)).set n (D.int v) = iD (A' ++ v :: (u :: B ++ R)) := by
   rw [iD_set, iD_set]
   congr 1
   rw [List.append_assoc, List.set_append_right _ _ (by omega), List.set_append_right _ _ (by omega), hA', show n + 1 - n = 1 by omega, show n - n = 0 by omega]
   rfl
  have hw : IntKind.i64.wrap (((n + 1 : Nat) : Int) - 1) = (n : Int) := by rw [wrap_id (by omega) (by omega)]; omega
  have step : ∀ m, n_Z39 (m + 1) 0 b i ((n + 1 : Nat) : Int) (iD ((A' ++ [u]) ++ v :: (B ++ R))) =
    bif decide (v < u) then n_Z39 m 0 b i (n : Int) (iD (A' ++ v :: (u :: B ++ R))) else some (0, b, i, iD ((A' ++ [u]) ++ v :: (B ++ R))) := by
   intro m
   show c_Z39 _ _ _ _ _ _ _ = _
   unfold c_Z39
   simp only [less_eq, Option.bind_some, Option.bind_fun_some, hw, List.length_set, hlen, iD_get, Int.toNat_natCast, g0, g1, hset]
   rw [decide_eq_true (show (0 : Int) < ((n + 1 : Nat) : Int) by omega)]
   rw [if_pos (by omega), if_pos (by omega), if_pos (by omega), if_pos (by omega)]
   simp only [cond_true]
   rw [if_pos (by omega), if_pos (by omega), if_pos (by omega), if_pos (by omega), if_pos (by omega), if_pos (by omega), if_pos (by omega), if_pos (by omega)]
  by_cases hvu : v < u
  ·obtain ⟨C, h1, h2, h3⟩ := ih A' (u :: B) R v b i hA' (by omega) (by simpa using hS) (by
    intro x hx
    rcases List.mem_cons.1 hx with rfl | hx
    ·omega
    ·exact hB x hx)
   refine ⟨C, h1, h2.trans ?_, fun m hm => ?_⟩
   ·rw [List.append_assoc]
    exact List.Perm.append_left _ (List.Perm.swap _ _ _)
   ·obtain ⟨m, rfl⟩ : ∃ m', m = m' + 1 := ⟨m - 1, by omega⟩
    rw [step, decide_eq_true hvu, cond_true]
    exact h3 m (by omega)
  ·refine ⟨(A' ++ [u]) ++ v :: B, ?_, List.Perm.refl _, fun m hm => ?_⟩
   ·have q := List.pairwise_append.1 hS
    have q1 := List.pairwise_append.1 q.1
    refine List.pairwise_append.2 ⟨q.1, List.pairwise_cons.2 ⟨hB, q.2.1⟩, fun x hx y hy => ?_⟩
    have hxu : x ≤ u := by
     rcases List.mem_append.1 hx with hx | hx
     ·exact q1.2.2 x hx u (by simp)
     ·simp at hx; omega
    rcases List.mem_cons.1 hy with rfl | hy
    ·omega
    ·exact q.2.2 x hx y hy
   ·obtain ⟨m, rfl⟩ : ∃ m', m = m' + 1 := ⟨m - 1, by omega⟩
    rw [step, decide_eq_false hvu, cond_false]
    simp
theorem ins1_spec : ∀ (k : Nat) (P R : List Int) (b : Int), R.length = k → (b : Int) = ((P ++ R).length : Int) → (P ++ R).length ≤ 1048576 → St P →
  ∃ C, St C ∧ C.Perm (P ++ R) ∧ ∀ m, k < m → n_Z40 m 0 b (P.length : Int) (iD (P ++ R)) = some (iD C) := by
 intro k
 induction k with
 | zero =>
  intro P R b hR hb hl hS
  obtain rfl := List.eq_nil_of_length_eq_zero hR
  refine ⟨P, hS, by simp, fun m hm => ?_⟩
  obtain ⟨m, rfl⟩ : ∃ m', m = m' + 1 := ⟨m - 1, by omega⟩
  show c_Z40 _ _ _ _ _ _ = _
  unfold c_Z40
  rw [decide_eq_false (by rw [hb]; simp)]
  simp
 | succ k ih =>
  intro P R b hR hb hl hS
  obtain ⟨v, R, rfl⟩ : ∃ v R', R = v :: R' := by
   cases R with
   | nil => simp at hR
   | cons v R => exact ⟨v, R, rfl⟩
  have hl' : P.length + (R.length + 1) ≤ 1048576 := by simpa using hl
  have hb' : b = ((P.length + (R.length + 1) : Nat) : Int) := by simpa using hb
  obtain ⟨C, h1, h2, h3⟩ := ins4_spec P.length P [] R v b (P.length : Int) rfl (by omega) (by simpa using hS) (by simp)
  have hC : C.length = P.length + 1 := by have := h2.length_eq; simpa using this
  obtain ⟨E, q1, q2, q3⟩ := ih C R b (by simpa using hR) (by rw [List.length_append, hC, hb']; omega) (by rw [List.length_append, hC]; omega) h1
  refine ⟨E, q1, q2.trans ?_, fun m hm => ?_⟩
  ·have := List.Perm.append_right R h2
   simpa using this
  ·obtain ⟨m, rfl⟩ : ∃ m', m = m' + 1 := ⟨m - 1, by omega⟩
   show c_Z40 _ _ _ _ _ _ = _
   unfold c_Z40
   rw [decide_eq_true (by omega), cond_true]
   have : Z39 0 b (P.length : Int) (P.length : Int) (iD (P ++ v :: R)) = some (0, b, (P.length : Int), iD (C ++ R)) := ev_eq (P.length + 1) (fun m hm => by simpa using h3 m (by omega))
   rw [this]
   simp only [Option.bind_some, Option.bind_fun_some]
   rw [succ_wrap (by omega)]
   rw [hC] at q3
   exact q3 m (by omega)
theorem ins_spec (xs : List Int) (hl : xs.length ≤ 1048576) : ∃ C, St C ∧ C.Perm xs ∧ Z41 (iD xs) 0 (xs.length : Int) = some (iD C) := by
 have w1 : IntKind.i64.wrap (0 + 1) = 1 := by decide
 cases xs with
 | nil =>
  refine ⟨[], List.Pairwise.nil, List.Perm.refl _, ?_⟩
  have : Z40 0 0 1 [] = some [] := ev_eq 1 (fun m hm => by
   obtain ⟨m, rfl⟩ : ∃ m', m = m' + 1 := ⟨m - 1, by omega⟩
   rfl)
  simp only [Z41, c_Z41, w1]
  show (Z40 0 0 1 []).bind _ = _
  rw [this]; rfl
 | cons x xs =>
  obtain ⟨C, h1, h2, h3⟩ := ins1_spec xs.length [x] xs ((x :: xs).length : Int) rfl rfl hl (List.pairwise_singleton _ _)
  refine ⟨C, h1, h2, ?_⟩
  have : Z40 0 ((x :: xs).length : Int) 1 (iD (x :: xs)) = some (iD C) := ev_eq (xs.length + 1) (fun m hm => h3 m (by omega))
  simp only [Z41, c_Z41, w1, this, Option.bind_some]
theorem sort_spec (xs : List Int) (hl : xs.length ≤ 1048576) : ∃ y, Z74 (iD xs) = some y ∧ y.length = xs.length ∧ (xs.length ≤ 12 → ∃ C, St C ∧ C.Perm xs ∧ y = iD C) := by
 obtain ⟨y, h1, h2, h3⟩ := sort_tot (iD xs) (by rw [iD_len]; exact hl)
 rw [iD_len] at h2 h3
 refine ⟨y, h1, h2, fun h12 => ?_⟩
 obtain ⟨C, q1, q2, q3⟩ := ins_spec xs hl
 have := h3 (by omega)
 rw [q3] at this
 exact ⟨C, q1, q2, (Option.some.inj this).symm⟩
theorem clone_eq (l : List D) (hl : l.length ≤ 1048576) : Z34 l = some l := by
 simp only [Z34, c_Z34]
 by_cases h : 1 ≤ l.length
 ·rw [if_pos h, if_pos (by simp; omega)]; simp
 ·obtain rfl : l = [] := List.eq_nil_of_length_eq_zero (by omega)
  rw [if_neg h, if_pos (by simp)]
  unfold bothK
  simp
theorem wf_ints {l : List D} (w : ∀ d ∈ l, wfD (.int .i64) d) : ∀ d ∈ l, ∃ k, d = D.int k := by
 intro d hd
 obtain ⟨k, h, _⟩ := w d hd
 exact ⟨k, h⟩
def hasP (l : List D) (v : Int) (j : Nat) : Bool := decide ((l.getD j (.int 0)).toInt = v)
theorem l1Has_eq (l : List D) (v : Int) (hl : l.length ≤ 1048576) : Z11 l v = some ((firstN (hasP l v) l.length).isSome) := by
 have key : Z10 l v 0 = some (match firstN (hasP l v) l.length with | some i => .inl true | none => .inr ()) := by
  refine scan_loop (N := fun m i => n_Z10 m l v i) (hasP l v) (fun _ => .inl true) (fun m i hi => ?_) (fun m => ?_)
  ·show c_Z10 (n_Z10 m) l v i some = _
   unfold c_Z10
   rw [decide_eq_true (show (i : Int) < (l.length : Int) by omega), cond_true, if_pos (by omega), wrap_id (by omega) (by omega)]
   simp only [Option.bind_fun_some, Int.toNat_natCast]
   rfl
  ·show c_Z10 (n_Z10 m) l v l.length some = _
   unfold c_Z10
   rw [decide_eq_false (by omega)]; rfl
 simp only [Z11, c_Z11, key, Option.bind_some]
 cases firstN (hasP l v) l.length <;> rfl
def badP (n : Int) (o : List D) (i : Nat) : Bool := !btw (o.getD i (.int 0)).toInt 0 (n - 1) || (firstN (hasP (o.take i) (o.getD i (.int 0)).toInt) (o.take i).length).isSome
theorem l16Order_L2_eq (l o : List D) (hl : l.length ≤ 1048576) (ho : o.length ≤ 1048576) :
  Z12 o 0 l = some (match firstN (badP l.length o) o.length with | some _ => .inl (o, false, l) | none => .inr (o, l)) := by
 have hw : IntKind.i64.wrap ((l.length : Int) - 1) = (l.length : Int) - 1 := wrap_id (by omega) (by omega)
 refine scan_loop (N := fun m i => n_Z12 m o i l) (badP l.length o) (fun _ => .inl (o, false, l)) (fun m i hi => ?_) (fun m => ?_)
 ·show c_Z12 (n_Z12 m) o i l some = _
  unfold c_Z12
  rw [decide_eq_true (show (i : Int) < (o.length : Int) by omega), cond_true, if_pos (by omega), hw, wrap_id (n := (i : Int) + 1) (by omega) (by omega)]
  simp only [l1In_eq, Option.bind_some, Option.bind_fun_some, Int.toNat_natCast, Int.sub_zero, Int.toNat_zero, List.drop_zero, Nat.sub_zero]
  unfold badP
  cases btw (o.getD i (.int 0)).toInt 0 ((l.length : Int) - 1) with
  | false => rfl
  | true =>
   simp only [Bool.not_true, cond_false, Bool.false_or]
   rw [if_pos (by omega), if_pos (by omega), l1Has_eq _ _ (by rw [List.length_take]; omega), Option.bind_some]
 ·show c_Z12 (n_Z12 m) o o.length l some = _
  unfold c_Z12
  rw [decide_eq_false (by omega)]; rfl
def okO (n : Nat) (o : List D) : Bool := (firstN (badP n o) o.length).isNone
theorem firstN_isNone {p : Nat → Bool} {n : Nat} : (firstN p n).isNone = true ↔ ∀ j, j < n → p j = false := by
 constructor
 ·intro h
  cases hf : firstN p n with
  | none => exact firstN_none hf
  | some i => rw [hf] at h; cases h
 ·intro h
  cases hf : firstN p n with
  | none => rfl
  | some i =>
   obtain ⟨h1, h2, _⟩ := firstN_some hf
   rw [h i h1] at h2; cases h2
theorem okO_iff (n : Nat) (xs : List Int) : okO n (iD xs) = true ↔ (∀ x ∈ xs, 0 ≤ x ∧ x < n) ∧ xs.Nodup := by
 unfold okO
 rw [firstN_isNone, iD_len]
 have hb : ∀ j, j < xs.length → (badP n (iD xs) j = false ↔ (0 ≤ xs.getD j 0 ∧ xs.getD j 0 < n) ∧ ∀ i, i < j → xs.getD i 0 ≠ xs.getD j 0) := by
  intro j hj
  unfold badP
  rw [iD_get, Bool.or_eq_false_iff, Bool.not_eq_false', btw_iff]
  have hh : (firstN (hasP ((iD xs).take j) (xs.getD j 0)) ((iD xs).take j).length).isSome = false ↔ ∀ i, i < j → xs.getD i 0 ≠ xs.getD j 0 := by
   rw [Option.isSome_eq_false_iff, firstN_isNone, List.length_take, iD_len]
   constructor
   ·intro h i hi e
    have := h i (by omega)
    unfold hasP at this
    rw [List.getD_eq_getElem?_getD, List.getElem?_take_of_lt hi, ← List.getD_eq_getElem?_getD, iD_get] at this
    simp only [decide_eq_false_iff_not] at this
    exact this e
   ·intro h i hi
    unfold hasP
    rw [List.getD_eq_getElem?_getD, List.getElem?_take_of_lt (by omega), ← List.getD_eq_getElem?_getD, iD_get]
    exact decide_eq_false (h i (by omega))
  rw [hh]
  constructor
  ·rintro ⟨h1, h2⟩; exact ⟨by omega, h2⟩
  ·rintro ⟨h1, h2⟩; exact ⟨by omega, h2⟩
 have hg : ∀ j (hj : j < xs.length), xs.getD j 0 = xs[j] := fun j hj => by rw [List.getD_eq_getElem?_getD, List.getElem?_eq_getElem hj]; rfl
 constructor
 ·intro h
  refine ⟨fun x hx => ?_, ?_⟩
  ·obtain ⟨j, hj, rfl⟩ := List.mem_iff_getElem.1 hx
   have := ((hb j hj).1 (h j hj)).1
   rw [hg j hj] at this; exact this
  ·unfold List.Nodup
   rw [List.pairwise_iff_getElem]
   intro i j hi hj hij
   have := ((hb j hj).1 (h j hj)).2 i hij
   rw [hg i hi, hg j hj] at this; exact this
 ·rintro ⟨h1, h2⟩ j hj
  rw [hb j hj, hg j hj]
  refine ⟨h1 _ (List.getElem_mem hj), fun i hi => ?_⟩
  rw [hg i (by omega)]
  unfold List.Nodup at h2
  rw [List.pairwise_iff_getElem] at h2
  exact h2 i j (by omega) hj hi
theorem upto_of : ∀ (xs : List Int) (k : Int), xs.Pairwise (· < ·) → (∀ x ∈ xs, k ≤ x ∧ x < k + xs.length) → ∀ i, i < xs.length → xs.getD i 0 = k + i
 | [], _, _, _, i, hi => by simp at hi
 | x :: xs, k, hp, hr, i, hi => by
  rw [List.pairwise_cons] at hp
  have hx := hr x (by simp)
  have hr' : ∀ y ∈ xs, k + 1 ≤ y ∧ y < k + 1 + xs.length := fun y hy => by
   have h1 := hp.1 y hy
   have h2 := hr y (by simp [hy])
   simp only [List.length_cons] at h2
   omega
  have ih := upto_of xs (k + 1) hp.2 hr'
  cases i with
  | zero =>
   show x = k + _
   cases xs with
   | nil => simp at hx; simp; omega
   | cons y ys =>
    have h1 := ih 0 (by simp)
    have h2 := hp.1 y (by simp)
    simp at h1 ⊢
    omega
  | succ i =>
   have := ih i (by simpa using hi)
   simp only [List.getD_cons_succ]
   rw [this]; omega
theorem sorted_upto {xs C : List Int} (hS : St C) (hp : C.Perm xs) : (∀ i, i < C.length → C.getD i 0 = (i : Int)) ↔ ((∀ x ∈ xs, 0 ≤ x ∧ x < xs.length) ∧ xs.Nodup) := by
 have hg : ∀ j (hj : j < C.length), C.getD j 0 = C[j] := fun j hj => by rw [List.getD_eq_getElem?_getD, List.getElem?_eq_getElem hj]; rfl
 constructor
 ·intro h
  refine ⟨fun x hx => ?_, ?_⟩
  ·have hx' := hp.mem_iff.2 hx
   obtain ⟨j, hj, rfl⟩ := List.mem_iff_getElem.1 hx'
   have := h j hj
   rw [hg j hj] at this
   rw [this, ← hp.length_eq]
   omega
  ·refine hp.nodup_iff.1 ?_
   unfold List.Nodup
   rw [List.pairwise_iff_getElem]
   intro i j hi hj hij
   have h1 := h i hi
   have h2 := h j hj
   rw [hg i hi] at h1
   rw [hg j hj] at h2
   rw [h1, h2]; omega
 ·rintro ⟨h1, h2⟩
  have hlt : C.Pairwise (· < ·) := by
   have := List.Pairwise.and hS (hp.nodup_iff.2 h2)
   exact this.imp (fun {a b} h => by have := h.1; have := h.2; omega)
  intro i hi
  have := upto_of C 0 hlt (fun x hx => by have := h1 x (hp.mem_iff.1 hx); rw [hp.length_eq]; omega) i hi
  rw [this]; omega
def notAt (y : List D) (i : Nat) : Bool := !decide ((i : Int) = (y.getD i (.int 0)).toInt)
theorem isOrder_L4_eq (o y : List D) (n : Int) (hy : y.length ≤ 1048576) : Z75 o n y.length 0 y = some (match firstN (notAt y) y.length with | some _ => .inl (o, n, false) | none => .inr (o, n)) := by
 refine scan_loop (N := fun m i => n_Z75 m o n y.length i y) (notAt y) (fun _ => .inl (o, n, false)) (fun m i hi => ?_) (fun m => ?_)
 ·show c_Z75 (n_Z75 m) o n y.length i y some = _
  unfold c_Z75
  rw [decide_eq_true (show (i : Int) < (y.length : Int) by omega), cond_true, if_pos (by omega), if_pos (by omega), wrap_id (by omega) (by omega)]
  simp only [Option.bind_fun_some, Int.toNat_natCast]
  rfl
 ·show c_Z75 (n_Z75 m) o n y.length y.length y some = _
  unfold c_Z75
  rw [decide_eq_false (by omega)]; rfl
theorem isOrder_eq (xs : List Int) (n : Nat) (hl : xs.length ≤ 1048576) (hn : n ≤ 12) : Z76 (iD xs) n = some (okO n (iD xs) && decide (xs.length = n)) := by
 obtain ⟨y, h1, h2, h3⟩ := sort_spec xs hl
 simp only [Z76, c_Z76, clone_eq (iD xs) (by rw [iD_len]; exact hl), Option.bind_some, h1, isOrder_L4_eq (iD xs) y n (by omega)]
 by_cases hq : xs.length = n
 ·obtain ⟨C, q1, q2, rfl⟩ := h3 (by omega)
  have hu := sorted_upto q1 q2
  rw [hq, ← okO_iff] at hu
  have hL : (iD C).length = C.length := iD_len C
  cases hf : firstN (notAt (iD C)) (iD C).length with
  | none =>
   have : okO n (iD xs) = true := hu.1 (fun i hi => by
    have := firstN_none hf i (by omega)
    unfold notAt at this
    rw [iD_get] at this
    simp at this
    simp [this])
   simp [this, hq, iD_len]
  | some i =>
   obtain ⟨r1, r2, _⟩ := firstN_some hf
   have : okO n (iD xs) = false := by
    cases ho : okO n (iD xs) with
    | false => rfl
    | true =>
     have := hu.2 ho i (by omega)
     unfold notAt at r2
     rw [iD_get, this] at r2
     simp at r2
   simp [this]
 ·rw [decide_eq_false hq, Bool.and_false]
  cases firstN (notAt y) y.length with
  | some i => rfl
  | none =>
   simp only [Sum.elim_inr, iD_len]
   rw [decide_eq_false (by omega)]
theorem order_same (l o : List D) (hl : l.length ≤ 1048576) (ho : o.length ≤ 1048576) (hi : ∀ d ∈ o, ∃ k, d = D.int k) :
  ∃ b, Z16 l o = some b ∧ Z77 l o = some b ∧ (b = true → GoodT l ∧ o.length = l.length ∧ (∀ d ∈ o, 0 ≤ d.toInt ∧ d.toInt < l.length) ∧ (o.map D.toInt).Nodup) := by
 obtain ⟨v, g1, g2, g3⟩ := table_good l
 have hx := iD_of hi
 simp only [Z16, c_Z16, Z77, c_Z77, l16Order_L2_eq l o hl ho, g1, g2, Option.bind_some, Option.bind_fun_some]
 have hk : okO l.length o = (firstN (badP l.length o) o.length).isNone := rfl
 cases v with
 | false =>
  refine ⟨false, ?_, rfl, fun h => by cases h⟩
  cases firstN (badP l.length o) o.length <;> simp [g1]
 | true =>
  have hg := g3 rfl
  have hn7 := hg.n7
  have := isOrder_eq (o.map D.toInt) l.length (by simpa using ho) (by omega)
  rw [← hx] at this
  refine ⟨_, ?_, this, fun h => ?_⟩
  ·rw [hk]
   cases firstN (badP l.length o) o.length with
   | some i => rfl
   | none =>
    simp [g1]
    omega
  ·simp only [Bool.and_eq_true, decide_eq_true_eq, List.length_map] at h
   have h1 := h.1
   rw [hx, okO_iff] at h1
   refine ⟨hg, h.2, fun d hd => ?_, h1.2⟩
   exact h1.1 _ (List.mem_map_of_mem hd)
theorem ev_spec {Y : Type} {f : Nat → Option Y} {y : Y} (h : ev f = some y) : ∃ n, ∀ m, n ≤ m → f m = some y := by
 unfold ev at h
 split at h
 ·rename_i hx
  simp only [Option.some.injEq] at h
  rw [← h]
  exact hx.choose_spec
 ·cases h
theorem ev_succ {Y : Type} {f g : Nat → Option Y} (h : ∀ m, f (m + 1) = g m) {y : Y} (hy : ev g = some y) : ev f = some y := by
 obtain ⟨n, hn⟩ := ev_spec hy
 refine ev_eq (n + 1) (fun m hm => ?_)
 obtain ⟨m, rfl⟩ : ∃ m', m = m' + 1 := ⟨m - 1, by omega⟩
 rw [h]; exact hn m (by omega)
def rgP (l o : List D) (t : Int) (n : Nat) (y : Int × Int) : Prop := (y.1 = -1 ∧ y.2 = -1) ∨ (0 ≤ y.1 ∧ y.1 ≤ y.2 ∧ y.2 < n ∧ ((l.getD ((o.getD y.1.toNat (.int 0)).toInt).toNat (.int 0)).items.getD t.toNat (.int 0)).toInt ≠ 0)
theorem rgP_mono {l o : List D} {t : Int} {n : Nat} {y : Int × Int} (h : rgP l o t n y) : rgP l o t (n + 1) y := by
 rcases h with h | ⟨h1, h2, h3, h4⟩
 ·exact .inl h
 ·exact .inr ⟨h1, h2, by omega, h4⟩
theorem rgP_ext {l o : List D} {t : Int} {i : Nat} {f u : Int} (h : rgP l o t i (f, u)) (hf : 0 ≤ f) : rgP l o t (i + 1) (f, (i : Int)) := by
 rcases h with ⟨h1, h2⟩ | ⟨h1, h2, h3, h4⟩
 ·simp only at h1; omega
 ·simp only at h1 h2 h3 h4; exact .inr ⟨h1, by simp only; omega, by simp only; omega, h4⟩
theorem rgP_new {l o : List D} {t : Int} {i : Nat} (h : ((l.getD ((o.getD i (.int 0)).toInt).toNat (.int 0)).items.getD t.toNat (.int 0)).toInt ≠ 0) : rgP l o t (i + 1) ((i : Int), (i : Int)) :=
 .inr ⟨by simp only; omega, by simp only; omega, by simp only; omega, h⟩
theorem range_post {l o : List D} (hg : GoodT l) (ho : o.length ≤ 1048576) (hr : ∀ d ∈ o, 0 ≤ d.toInt ∧ d.toInt < l.length) (t : Int) (ht0 : 0 ≤ t) (ht : t < ((l[0]?.getD (D.int 0)).items.length : Int)) :
  ∃ y, Z19 l o t = some y ∧ Z79 l o t = some y ∧ rgP l o t o.length y := by
 have hc10 := hg.c10
 obtain ⟨y, y', h1, h2, hR⟩ := loop_two (N := fun m (x : Int × Int × Nat) => n_Z18 m o t x.1 x.2.1 x.2.2 l) (N' := fun m (x : Int × Int × Nat) => n_Z78 m t x.1 x.2.1 o o.length x.2.2 l)
  (fun x => x.2.2 ≤ o.length ∧ rgP l o t x.2.2 (x.1, x.2.1)) (fun x => o.length - x.2.2) (fun y y' => y = y' ∧ rgP l o t o.length y) (by
   rintro ⟨f, u, i⟩ ⟨hi, hp⟩
   simp only at hi hp
   by_cases hlt : i < o.length
   ·right
    have hd := hr _ (getD_mem hlt)
    obtain ⟨a, ha⟩ : ∃ a : Nat, (o.getD i (D.int 0)).toInt = (a : Int) := ⟨((o.getD i (D.int 0)).toInt).toNat, by omega⟩
    have hal : a < l.length := by omega
    have hrow := hg.len a hal
    rw [← List.getD_eq_getElem?_getD] at hrow
    have hw : IntKind.i64.wrap ((i : Int) + 1) = ((i + 1 : Nat) : Int) := succ_wrap (by omega)
    have e1 : ∀ m, n_Z18 (m + 1) o t f u (i : Int) l = bif decide (0 < ((l.getD a (D.int 0)).items.getD t.toNat (D.int 0)).toInt) then bif decide (f < 0) then n_Z18 m o t i i ((i + 1 : Nat) : Int) l else n_Z18 m o t f i ((i + 1 : Nat) : Int) l else n_Z18 m o t f u ((i + 1 : Nat) : Int) l := by
     intro m
     show c_Z18 (n_Z18 m) o t f u i l some = _
     unfold c_Z18
     simp only [Option.bind_fun_some, Int.toNat_natCast, hw, ha]
     rw [decide_eq_true (show (i : Int) < (o.length : Int) by omega), cond_true, if_pos (by omega), if_pos (by omega), if_pos (by omega)]
    have e2 : ∀ m, n_Z78 (m + 1) t f u o o.length (i : Int) l = bif decide (0 < ((l.getD a (D.int 0)).items.getD t.toNat (D.int 0)).toInt) then bif decide (f < 0) then n_Z78 m t i i o o.length ((i + 1 : Nat) : Int) l else n_Z78 m t f i o o.length ((i + 1 : Nat) : Int) l else n_Z78 m t f u o o.length ((i + 1 : Nat) : Int) l := by
     intro m
     show c_Z78 (n_Z78 m) t f u o o.length i l some = _
     unfold c_Z78
     simp only [Option.bind_fun_some, Int.toNat_natCast, hw, ha]
     rw [decide_eq_true (show (i : Int) < (o.length : Int) by omega), cond_true, if_pos (by omega), if_pos (by omega), if_pos (by omega)]
    have ha' : ((o.getD i (D.int 0)).toInt).toNat = a := by omega
    cases q1 : decide (0 < ((l.getD a (D.int 0)).items.getD t.toNat (D.int 0)).toInt) with
    | false => exact ⟨(f, u, i + 1), ⟨by simp only; omega, rgP_mono hp⟩, by simp only; omega, fun m => ⟨by show n_Z18 (m + 1) o t f u (i : Int) l = _; rw [e1, q1]; rfl, by show n_Z78 (m + 1) t f u o o.length (i : Int) l = _; rw [e2, q1]; rfl⟩⟩
    | true =>
     cases q2 : decide (f < 0) with
     | false => exact ⟨(f, i, i + 1), ⟨by simp only; omega, rgP_ext hp (by simpa using q2)⟩, by simp only; omega, fun m => ⟨by show n_Z18 (m + 1) o t f u (i : Int) l = _; rw [e1, q1, q2]; rfl, by show n_Z78 (m + 1) t f u o o.length (i : Int) l = _; rw [e2, q1, q2]; rfl⟩⟩
     | true => exact ⟨(i, i, i + 1), ⟨by simp only; omega, rgP_new (by rw [ha']; have := of_decide_eq_true q1; omega)⟩, by simp only; omega, fun m => ⟨by show n_Z18 (m + 1) o t f u (i : Int) l = _; rw [e1, q1, q2]; rfl, by show n_Z78 (m + 1) t f u o o.length (i : Int) l = _; rw [e2, q1, q2]; rfl⟩⟩
   ·left
    refine ⟨(f, u), (f, u), ⟨rfl, by rw [show o.length = i by omega]; exact hp⟩, fun m => ⟨?_, ?_⟩⟩
    ·show c_Z18 (n_Z18 m) o t f u i l some = _
     unfold c_Z18
     rw [decide_eq_false (by omega)]; rfl
    ·show c_Z78 (n_Z78 m) t f u o o.length i l some = _
     unfold c_Z78
     rw [decide_eq_false (by omega)]; rfl) (-1, -1, 0) ⟨by simp, .inl ⟨rfl, rfl⟩⟩
 obtain ⟨rfl, hP⟩ := hR
 have k1 : Z18 o t (-1) (-1) 0 l = some y := h1
 have k2 : Z78 t (-1) (-1) o o.length 0 l = some y := h2
 refine ⟨y, ?_, ?_, hP⟩
 ·simp only [Z19, c_Z19, k1, Option.bind_some]
 ·simp only [Z79, c_Z79, k2, Option.bind_some]
def cnt (p : Nat → Bool) : Nat → Nat
 | 0 => 0
 | k + 1 => cnt p k + (bif p k then 1 else 0)
theorem cnt_le (p : Nat → Bool) : ∀ k, cnt p k ≤ k
 | 0 => Nat.le_refl 0
 | k + 1 => by have := cnt_le p k; unfold cnt; cases p k <;> simp <;> omega
theorem cnt_stop {p : Nat → Bool} {a : Nat} : ∀ {b : Nat}, a ≤ b → (∀ j, a ≤ j → j < b → p j = false) → cnt p b = cnt p a
 | 0, h, _ => by rw [show a = 0 by omega]
 | b + 1, h, hp => by
  rcases Nat.lt_or_ge a (b + 1) with hlt | hge
  ·show cnt p b + (bif p b then 1 else 0) = _
   rw [hp b (by omega) (by omega), cnt_stop (b := b) (by omega) (fun j h1 h2 => hp j h1 (by omega))]
   rfl
  ·rw [show a = b + 1 by omega]
def zeroA (l o : List D) (t : Nat) (j : Nat) : Bool := decide (((l.getD ((o.getD j (.int 0)).toInt).toNat (.int 0)).items.getD t (.int 0)).toInt = 0)
def gapP (l o : List D) (t : Nat) (f u : Int) (j : Nat) : Bool := decide (f < j) && (decide ((j : Int) < u) && zeroA l o t j)
theorem specGap7 {l o : List D} (hg : GoodT l) (hn : o.length ≤ l.length) (hr : ∀ d ∈ o, 0 ≤ d.toInt ∧ d.toInt < l.length) {t : Nat} (ht : t < (l[0]?.getD (D.int 0)).items.length) {f u : Int} (h : rgP l o t o.length (f, u)) (acc : Nat) (hacc : acc ≤ 1000) :
  Z22 o (acc : Int) (t : Int) u f l = some (o, ((acc + cnt (gapP l o t f u) o.length : Nat) : Int), (t : Int), l) := by
 have hn7 := hg.n7
 have hc10 := hg.c10
 rcases h with ⟨h1, h2⟩ | ⟨h1, h2, h3, h4⟩
 ·simp only at h1 h2
  subst h1 h2
  have hz : cnt (gapP l o t (-1) (-1)) o.length = 0 := cnt_stop (a := 0) (by omega) (fun j _ _ => by
   unfold gapP; rw [decide_eq_false (show ¬ (j : Int) < -1 by omega)]; simp)
  rw [hz]
  refine ev_eq (f := fun m => n_Z22 m o (acc : Int) (t : Int) (-1) (-1) l) 1 (fun m hm => ?_)
  obtain ⟨m, rfl⟩ : ∃ m', m = m' + 1 := ⟨m - 1, by omega⟩
  rfl
 ·simp only at h1 h2 h3 h4
  obtain ⟨f, rfl⟩ : ∃ k : Nat, f = (k : Int) := ⟨f.toNat, by omega⟩
  obtain ⟨u, rfl⟩ : ∃ k : Nat, u = (k : Int) := ⟨u.toNat, by omega⟩
  have key : ∀ k, ∀ i m, i + k = u → f ≤ i → k < m → n_Z22 m o ((acc + cnt (gapP l o t f u) i : Nat) : Int) (t : Int) (u : Int) (i : Int) l = some (o, ((acc + cnt (gapP l o t f u) o.length : Nat) : Int), (t : Int), l) := by
   intro k
   induction k with
   | zero =>
    intro i m hi hf hm
    obtain ⟨m, rfl⟩ : ∃ m', m = m' + 1 := ⟨m - 1, by omega⟩
    obtain rfl : i = u := by omega
    show c_Z22 (n_Z22 m) o _ t _ i l some = _
    unfold c_Z22
    rw [decide_eq_false (by omega), cond_false, cnt_stop (a := i) (b := o.length) (by omega) (fun j q1 _ => by
     unfold gapP; rw [decide_eq_false (show ¬ (j : Int) < (i : Int) by omega)]; simp)]
   | succ k ih =>
    intro i m hi hf hm
    obtain ⟨m, rfl⟩ : ∃ m', m = m' + 1 := ⟨m - 1, by omega⟩
    have hio : i < o.length := by omega
    have hd := hr _ (getD_mem hio)
    obtain ⟨a, ha⟩ : ∃ a : Nat, (o.getD i (D.int 0)).toInt = (a : Int) := ⟨((o.getD i (D.int 0)).toInt).toNat, by omega⟩
    have hrow := hg.len a (by omega)
    rw [← List.getD_eq_getElem?_getD] at hrow
    have hc := cnt_le (gapP l o t f u) i
    have hz : zeroA l o t i = decide (((l.getD a (D.int 0)).items.getD t (D.int 0)).toInt = 0) := by
     unfold zeroA; rw [ha, Int.toNat_natCast]
    show c_Z22 (n_Z22 m) o _ t u i l some = _
    unfold c_Z22
    simp only [Option.bind_fun_some, Int.toNat_natCast, ha]
    rw [decide_eq_true (show (i : Int) < (u : Int) by omega), cond_true, if_pos (by omega), if_pos (by omega), if_pos (by omega), succ_wrap (by omega), succ_wrap (by omega), ← hz]
    have hnext := ih (i + 1) m (by omega) (by omega) (by omega)
    have hsucc : cnt (gapP l o t f u) (i + 1) = cnt (gapP l o t f u) i + (bif gapP l o t f u i then 1 else 0) := rfl
    cases hq : zeroA l o t i with
    | true =>
     have hfi : f ≠ i := by
      rintro rfl
      rw [hz] at hq
      have := of_decide_eq_true hq
      rw [Int.toNat_natCast, Int.toNat_natCast, ha, Int.toNat_natCast] at h4
      exact h4 this
     have : gapP l o t f u i = true := by
      unfold gapP
      rw [hq, decide_eq_true (show (f : Int) < (i : Int) by omega), decide_eq_true (show (i : Int) < (u : Int) by omega)]; rfl
     rw [this] at hsucc
     simp only [cond_true] at hsucc ⊢
     rw [hsucc] at hnext
     exact hnext
    | false =>
     have : gapP l o t f u i = false := by unfold gapP; rw [hq]; simp
     rw [this] at hsucc
     simp only [cond_false] at hsucc ⊢
     rw [hsucc] at hnext
     exact hnext
  have h0 : cnt (gapP l o t f u) f = 0 := cnt_stop (a := 0) (by omega) (fun j _ q => by
   unfold gapP; rw [decide_eq_false (show ¬ (f : Int) < (j : Int) by omega)]; rfl)
  refine ev_eq (f := fun m => n_Z22 m o (acc : Int) (t : Int) (u : Int) (f : Int) l) (u - f + 1) (fun m hm => ?_)
  have := key (u - f) f m (by omega) (by omega) (by omega)
  rw [h0] at this
  exact this
def sumN (g : List Nat) : Nat := g.foldr (· + ·) 0
def nD (g : List Nat) : List D := g.map (fun (k : Nat) => D.int (k : Int))
theorem nD_len (g : List Nat) : (nD g).length = g.length := by simp [nD]
theorem nD_get (g : List Nat) (i : Nat) : ((nD g).getD i (.int 0)).toInt = ((g.getD i 0 : Nat) : Int) := by
 simp only [nD, List.getD_eq_getElem?_getD, List.getElem?_map]
 cases g[i]? <;> rfl
theorem nD_set (g : List Nat) (i v : Nat) : (nD g).set i (D.int (v : Int)) = nD (g.set i v) := by simp [nD, List.map_set]
theorem sumN_set : ∀ (g : List Nat) (i : Nat), i < g.length → sumN (g.set i (g.getD i 0 + 1)) = sumN g + 1
 | [], i, h => by simp at h
 | x :: g, 0, _ => by simp [sumN]; omega
 | x :: g, i + 1, h => by
  have := sumN_set g i (by simpa using h)
  simp only [sumN, List.set_cons_succ, List.foldr_cons, List.getD_cons_succ] at this ⊢
  omega
theorem sumN_get : ∀ (g : List Nat) (i : Nat), g.getD i 0 ≤ sumN g
 | [], i => by simp [sumN]
 | x :: g, 0 => by simp [sumN]
 | x :: g, i + 1 => by
  have := sumN_get g i
  simp only [sumN, List.foldr_cons, List.getD_cons_succ] at this ⊢
  omega
theorem implGap7 {l o : List D} (hg : GoodT l) (hn : o.length ≤ l.length) (hr : ∀ d ∈ o, 0 ≤ d.toInt ∧ d.toInt < l.length) {t : Nat} (ht : t < (l[0]?.getD (D.int 0)).items.length) (f u c : Int) (g : List Nat) (hgl : g.length = o.length) (hs : sumN g ≤ 1000) :
  ∃ g' : List Nat, g'.length = o.length ∧ sumN g' = sumN g + cnt (gapP l o t f u) o.length ∧ (∀ j, j < o.length → g'.getD j 0 = g.getD j 0 + (bif gapP l o t f u j then 1 else 0)) ∧
   Z80 o (t : Int) f u c (t : Int) o o.length 0 l (nD g) = some (o, c, (t : Int), l, nD g') := by
 have hn7 := hg.n7
 have hc10 := hg.c10
 have key : ∀ k, ∀ i (e : List Nat), i + k = o.length → e.length = o.length → sumN e = sumN g + cnt (gapP l o t f u) i → (∀ j, j < o.length → e.getD j 0 = g.getD j 0 + (bif decide (j < i) && gapP l o t f u j then 1 else 0)) → ∃ g' : List Nat, g'.length = o.length ∧ sumN g' = sumN g + cnt (gapP l o t f u) o.length ∧ (∀ j, j < o.length → g'.getD j 0 = g.getD j 0 + (bif gapP l o t f u j then 1 else 0)) ∧ ∀ m, k < m →
   n_Z80 m o (t : Int) f u c (t : Int) o o.length (i : Int) l (nD e) = some (o, c, (t : Int), l, nD g') := by
  intro k
  induction k with
  | zero =>
   intro i e hi he hse hpt
   obtain rfl : i = o.length := by omega
   refine ⟨e, he, hse, fun j hj => by rw [hpt j hj, decide_eq_true hj, Bool.true_and], fun m hm => ?_⟩
   obtain ⟨m, rfl⟩ : ∃ m', m = m' + 1 := ⟨m - 1, by omega⟩
   show c_Z80 (n_Z80 m) o t f u c t o o.length o.length l (nD e) some = _
   unfold c_Z80
   rw [decide_eq_false (by omega)]; rfl
  | succ k ih =>
   intro i e hi he hse hpt
   have hio : i < o.length := by omega
   have hd := hr _ (getD_mem hio)
   obtain ⟨a, ha⟩ : ∃ a : Nat, (o.getD i (D.int 0)).toInt = (a : Int) := ⟨((o.getD i (D.int 0)).toInt).toNat, by omega⟩
   have hrow := hg.len a (by omega)
   rw [← List.getD_eq_getElem?_getD] at hrow
   have hc := cnt_le (gapP l o t f u) i
   have hz : zeroA l o t i = decide (((l.getD a (D.int 0)).items.getD t (D.int 0)).toInt = 0) := by
    unfold zeroA; rw [ha, Int.toNat_natCast]
   have hge := sumN_get e i
   have hset : (nD e).set i (D.int (IntKind.i64.wrap (((e.getD i 0 : Nat) : Int) + 1))) = nD (e.set i (e.getD i 0 + 1)) := by
    rw [succ_wrap (by omega), nD_set]
   have step : ∀ m, n_Z80 (m + 1) o (t : Int) f u c (t : Int) o o.length (i : Int) l (nD e) =
     bif gapP l o t f u i then n_Z80 m o (t : Int) f u c (t : Int) o o.length ((i + 1 : Nat) : Int) l (nD (e.set i (e.getD i 0 + 1))) else n_Z80 m o (t : Int) f u c (t : Int) o o.length ((i + 1 : Nat) : Int) l (nD e) := by
    intro m
    show c_Z80 (n_Z80 m) o t f u c t o o.length i l (nD e) some = _
    unfold c_Z80
    simp only [Option.bind_fun_some, Int.toNat_natCast, ha, nD_len, nD_get, hset]
    rw [decide_eq_true (show (i : Int) < (o.length : Int) by omega), cond_true, if_pos (by omega), if_pos (by omega), if_pos (by omega), if_pos (by omega), if_pos (by omega), if_pos (by omega), if_pos (by omega), succ_wrap (by omega), ← hz]
    unfold gapP
    cases decide (f < (i : Int)) <;> cases decide ((i : Int) < u) <;> cases zeroA l o t i <;> rfl
   have hsucc : cnt (gapP l o t f u) (i + 1) = cnt (gapP l o t f u) i + (bif gapP l o t f u i then 1 else 0) := rfl
   cases hq : gapP l o t f u i with
   | true =>
    rw [hq, cond_true] at hsucc
    obtain ⟨g', r1, r2, r4, r3⟩ := ih (i + 1) (e.set i (e.getD i 0 + 1)) (by omega) (by simpa using he) (by rw [sumN_set e i (by omega), hse, hsucc]; omega) (by
     intro j hj
     have h0 := hpt j hj
     by_cases hji : j = i
     ·subst hji
      rw [decide_eq_false (Nat.lt_irrefl j), Bool.false_and, cond_false] at h0
      rw [List.getD_eq_getElem?_getD, List.getElem?_set_self (by omega), Option.getD_some, h0, decide_eq_true (show j < j + 1 by omega), hq]; rfl
     ·rw [List.getD_eq_getElem?_getD, List.getElem?_set_ne (fun h => hji h.symm), ← List.getD_eq_getElem?_getD, h0, show decide (j < i + 1) = decide (j < i) from decide_eq_decide.2 (by omega)])
    refine ⟨g', r1, r2, r4, fun m hm => ?_⟩
    obtain ⟨m, rfl⟩ : ∃ m', m = m' + 1 := ⟨m - 1, by omega⟩
    rw [step, hq, cond_true]
    exact r3 m (by omega)
   | false =>
    rw [hq, cond_false] at hsucc
    obtain ⟨g', r1, r2, r4, r3⟩ := ih (i + 1) e (by omega) he (by rw [hse, hsucc]; omega) (by
     intro j hj
     have h0 := hpt j hj
     by_cases hji : j = i
     ·subst hji
      rw [decide_eq_false (Nat.lt_irrefl j), Bool.false_and, cond_false] at h0
      rw [h0, hq, Bool.and_false]; rfl
     ·rw [h0, show decide (j < i + 1) = decide (j < i) from decide_eq_decide.2 (by omega)])
    refine ⟨g', r1, r2, r4, fun m hm => ?_⟩
    obtain ⟨m, rfl⟩ : ∃ m', m = m' + 1 := ⟨m - 1, by omega⟩
    rw [step, hq, cond_false]
    exact r3 m (by omega)
 obtain ⟨g', r1, r2, r4, r3⟩ := key o.length 0 g (by omega) hgl (by simp [cnt]) (fun j _ => by rw [decide_eq_false (Nat.not_lt_zero j), Bool.false_and]; rfl)
 exact ⟨g', r1, r2, r4, ev_eq (f := fun m => n_Z80 m o (t : Int) f u c (t : Int) o o.length 0 l (nD g)) (o.length + 1) (fun m hm => r3 m (by omega))⟩
theorem sumOf_nD (g : List Nat) (hl : g.length ≤ 1000) (hs : sumN g ≤ 1000000) : Z85 (nD g) = some ((sumN g : Nat) : Int) := by
 have key : ∀ k i m, i + k = g.length → k < m → n_Z84 m ((sumN (g.take i) : Nat) : Int) (nD g) g.length (i : Int) = some ((sumN g : Nat) : Int) := by
  intro k
  induction k with
  | zero =>
   intro i m hi hm
   obtain ⟨m, rfl⟩ : ∃ m', m = m' + 1 := ⟨m - 1, by omega⟩
   obtain rfl : i = g.length := by omega
   show c_Z84 (n_Z84 m) _ (nD g) g.length g.length some = _
   unfold c_Z84
   rw [decide_eq_false (by omega), cond_false, List.take_length]
  | succ k ih =>
   intro i m hi hm
   obtain ⟨m, rfl⟩ : ∃ m', m = m' + 1 := ⟨m - 1, by omega⟩
   have hil : i < g.length := by omega
   have e1 : sumN (g.take (i + 1)) = sumN (g.take i) + g.getD i 0 := by
    rw [List.take_succ_eq_append_getElem hil, List.getD_eq_getElem?_getD, List.getElem?_eq_getElem hil]
    have : ∀ (a : List Nat) (x : Nat), sumN (a ++ [x]) = sumN a + x := by
     intro a x
     induction a with
     | nil => simp [sumN]
     | cons y a ih => simp only [sumN, List.cons_append, List.foldr_cons] at ih ⊢; omega
    exact this _ _
   have e2 : sumN (g.take (i + 1)) ≤ sumN g := by
    have : ∀ (a : List Nat) (n : Nat), sumN (a.take n) ≤ sumN a := by
     intro a
     induction a with
     | nil => intro n; simp [sumN]
     | cons y a ih => intro n; cases n with
      | zero => simp [sumN]
      | succ n => have := ih n; simp only [sumN, List.take_succ_cons, List.foldr_cons] at this ⊢; omega
    exact this _ _
   show c_Z84 (n_Z84 m) _ (nD g) g.length i some = _
   unfold c_Z84
   simp only [Option.bind_fun_some, Int.toNat_natCast, nD_len, nD_get]
   rw [decide_eq_true (show (i : Int) < (g.length : Int) by omega), cond_true, if_pos (by omega), succ_wrap (by omega), wrap_id (by omega) (by omega)]
   have := ih (i + 1) m (by omega) (by omega)
   rw [e1] at this
   rw [show (((sumN (g.take i) : Nat) : Int) + ((g.getD i 0 : Nat) : Int)) = ((sumN (g.take i) + g.getD i 0 : Nat) : Int) by omega]
   exact this
 have : Z84 0 (nD g) g.length 0 = some ((sumN g : Nat) : Int) := ev_eq (f := fun m => n_Z84 m 0 (nD g) g.length 0) (g.length + 1) (fun m hm => key g.length 0 m (by omega) (by omega))
 simp only [Z85, c_Z85, nD_len, this, Option.bind_some]
noncomputable def gapT (l o : List D) (t j : Nat) : Bool := gapP l o t ((Z19 l o t).getD (0, 0)).1 ((Z19 l o t).getD (0, 0)).2 j
noncomputable def colT (l o : List D) : Nat → Nat
 | 0 => 0
 | t + 1 => colT l o t + cnt (gapT l o t) o.length
theorem gaps_same {l o : List D} (hg : GoodT l) (hn : o.length ≤ l.length) (hr : ∀ d ∈ o, 0 ≤ d.toInt ∧ d.toInt < l.length) :
  ∃ v : Nat, v ≤ 1000 ∧ Z24 l o = some (v : Int) ∧ Z86 l o = some (v : Int) ∧ v = colT l o (l[0]?.getD (D.int 0)).items.length ∧ ∃ g : List Nat, g.length = o.length ∧ sumN g = v ∧ (∀ j, j < o.length → g.getD j 0 = cnt (fun t => gapT l o t j) (l[0]?.getD (D.int 0)).items.length) ∧ Z82 l o = some (nD g) := by
 have hn7 := hg.n7
 have hn1 := hg.n1
 have hc10 := hg.c10
 obtain ⟨c, hc⟩ : ∃ c, (l[0]?.getD (D.int 0)).items.length = c := ⟨_, rfl⟩
 have hc' : (l.getD (Int.toNat 0) (D.int 0)).items.length = c := by rw [List.getD_eq_getElem?_getD]; exact hc
 obtain ⟨y, y', h1, h2, v, g, hv, rfl, rfl, hgl, hgs, hgc, hgj⟩ := loop_two (N := fun m (x : Nat × List Nat) => n_Z23 m o ((sumN x.2 : Nat) : Int) (x.1 : Int) l) (N' := fun m (x : Nat × List Nat) => n_Z81 m o (c : Int) (x.1 : Int) l (nD x.2))
  (fun x => x.1 ≤ c ∧ x.2.length = o.length ∧ sumN x.2 ≤ 10 * x.1 ∧ sumN x.2 = colT l o x.1 ∧ ∀ j, j < o.length → x.2.getD j 0 = cnt (fun t => gapT l o t j) x.1) (fun x => c - x.1) (fun y y' => ∃ (v : Nat) (g : List Nat), v ≤ 1000 ∧ y = (v : Int) ∧ y' = nD g ∧ g.length = o.length ∧ sumN g = v ∧ v = colT l o c ∧ ∀ j, j < o.length → g.getD j 0 = cnt (fun t => gapT l o t j) c) (by
   rintro ⟨t, e⟩ ⟨htc, hel, hes, hec, hej⟩
   simp only at htc hel hes hec hej
   by_cases hlt : t < c
   ·right
    obtain ⟨r, q1, q2, q3⟩ := range_post hg (by omega) hr (t : Int) (by omega) (by omega)
    obtain ⟨f, u⟩ := r
    have s1 := specGap7 hg hn hr (t := t) (by omega) q3 (sumN e) (by omega)
    obtain ⟨g', r1, r2, r4, r3⟩ := implGap7 hg hn hr (t := t) (by omega) f u (c : Int) e hel (by omega)
    have hcl := cnt_le (gapP l o t f u) o.length
    have hgt : gapT l o t = gapP l o t f u := by funext j; unfold gapT; rw [q1]; rfl
    rw [← r2] at s1
    have hw : IntKind.i64.wrap ((t : Int) + 1) = ((t + 1 : Nat) : Int) := succ_wrap (by omega)
    refine ⟨(t + 1, g'), ⟨by simp only; omega, r1, by simp only; omega, by simp only; rw [r2, hec, colT, hgt], fun j hj => by simp only; rw [r4 j hj, hej j hj, cnt, hgt]⟩, by simp only; omega, fun m => ⟨?_, ?_⟩⟩
    ·show c_Z23 (n_Z23 m) o _ t l some = _
     unfold c_Z23
     simp only [Option.bind_fun_some, hc', q1, Option.bind_some, s1, hw]
     rw [if_pos (by omega), decide_eq_true (show (t : Int) < (c : Int) by omega), cond_true]
    ·show c_Z81 (n_Z81 m) o c t l (nD e) some = _
     unfold c_Z81
     simp only [Option.bind_fun_some, q2, Option.bind_some, r3, hw]
     rw [decide_eq_true (show (t : Int) < (c : Int) by omega), cond_true]
   ·left
    have htc2 : t = c := by omega
    rw [htc2] at hec
    have hej' : ∀ j, j < o.length → e.getD j 0 = cnt (fun t => gapT l o t j) c := fun j hj => by rw [← htc2]; exact hej j hj
    refine ⟨((sumN e : Nat) : Int), nD e, ⟨sumN e, e, by omega, rfl, rfl, hel, rfl, hec, hej'⟩, fun m => ⟨?_, ?_⟩⟩
    ·show c_Z23 (n_Z23 m) o _ t l some = _
     unfold c_Z23
     simp only [hc']
     rw [if_pos (by omega), decide_eq_false (by omega)]; rfl
    ·show c_Z81 (n_Z81 m) o c t l (nD e) some = _
     unfold c_Z81
     rw [decide_eq_false (by omega)]; rfl) (0, List.replicate o.length 0) ⟨by omega, by simp, by
    have : ∀ n, sumN (List.replicate n 0) = 0 := by
     intro n
     induction n with
     | zero => rfl
     | succ n ih => simp only [List.replicate_succ, sumN, List.foldr_cons] at ih ⊢; omega
    simp only [this]
    refine ⟨by omega, rfl, fun j hj => ?_⟩
    rw [List.getD_eq_getElem?_getD, List.getElem?_replicate, if_pos hj]; rfl⟩
 have z0 : ∀ n, sumN (List.replicate n 0) = 0 := by
  intro n
  induction n with
  | zero => rfl
  | succ n ih => simp only [List.replicate_succ, sumN, List.foldr_cons] at ih ⊢; omega
 have zD : nD (List.replicate o.length 0) = List.replicate o.length (D.int 0) := by simp [nD]
 have k1 : Z23 o 0 0 l = some (v : Int) := by
  have := h1
  simp only [z0] at this
  exact this
 have k2 : Z81 o (c : Int) 0 l (List.replicate o.length (D.int 0)) = some (nD g) := by
  have := h2
  simp only [zD] at this
  exact this
 have k3 : Z82 l o = some (nD g) := by
  simp only [Z82, c_Z82, hc', Int.toNat_natCast, k2, Option.bind_some]
  rw [if_pos (by omega), if_pos (by omega)]
 rw [hc]
 refine ⟨v, hv, ?_, ?_, hgc, g, hgl, hgs, hgj, k3⟩
 ·simp only [Z24, c_Z24, k1, Option.bind_some]
 ·simp only [Z86, c_Z86, k3, Option.bind_some, sumOf_nD g (by omega) (by omega), hgs]
def markd (cell : Int → D) (c : Int) (n : Nat) : List D := (List.range n).map (fun (i : Nat) => cell (1 + c * (i : Int)))
theorem markd_len {cell : Int → D} {c : Int} {n : Nat} : (markd cell c n).length = n := by simp [markd]
theorem markd_get {cell : Int → D} {c : Int} {n i : Nat} (h : i < n) : (markd cell c n)[i]?.getD (.int 0) = cell (1 + c * (i : Int)) := by
 simp [markd, h]
theorem mark_loop {N : Nat → Int → Int → List D → Option (Int × List D)} {n : Nat} {c : Int} {cell : Int → D}
  (hs : ∀ m (i : Nat) acc, i < n → acc.length = n → N (m + 1) (1 + c * (i : Int)) (i : Int) acc = N m (1 + c * ((i + 1 : Nat) : Int)) ((i + 1 : Nat) : Int) (acc.set i (cell (1 + c * (i : Int)))))
  (he : ∀ m acc, acc.length = n → N (m + 1) (1 + c * (n : Int)) (n : Int) acc = some (1 + c * (n : Int), acc)) {l : List D} (hl : l.length = n) :
  ev (fun m => N m 1 0 l) = some (1 + c * (n : Int), markd cell c n) := by
 have key : ∀ k, ∀ m (i : Nat) acc, i + k = n → k < m → acc.length = n → acc.take i = (markd cell c n).take i → N m (1 + c * (i : Int)) (i : Int) acc = some (1 + c * (n : Int), markd cell c n) := by
  intro k
  induction k with
  | zero =>
   intro m i acc h1 h2 h3 h4
   obtain ⟨m, rfl⟩ : ∃ m', m = m' + 1 := ⟨m - 1, by omega⟩
   have hi : i = n := by omega
   subst hi
   rw [he m acc h3]
   rw [List.take_of_length_le (by omega), List.take_of_length_le (by rw [markd_len]; exact Nat.le_refl _)] at h4
   rw [h4]
  | succ k ih =>
   intro m i acc h1 h2 h3 h4
   obtain ⟨m, rfl⟩ : ∃ m', m = m' + 1 := ⟨m - 1, by omega⟩
   rw [hs m i acc (by omega) h3]
   refine ih m (i + 1) _ (by omega) (by omega) (by simpa using h3) ?_
   have hi : i < (markd cell c n).length := by rw [markd_len]; omega
   rw [List.take_succ_eq_append_getElem (by simp; omega), List.take_succ_eq_append_getElem hi]
   rw [List.take_set_of_le (by omega), h4]
   simp [markd]
 have := ev_eq (f := fun m => N m 1 0 l) (n + 1) (fun m hm => by
  have := key n m 0 l (by omega) (by omega) hl (by simp)
  simpa using this)
 exact this
theorem held_loop {X : Type} {N : Nat → Int → Int → Option X} {n : Nat} {c : Int} {x : X}
  (hs : ∀ m (i : Nat), i < n → N (m + 1) (1 + c * (i : Int)) (i : Int) = N m (1 + c * ((i + 1 : Nat) : Int)) ((i + 1 : Nat) : Int))
  (he : ∀ m, N (m + 1) (1 + c * (n : Int)) (n : Int) = some x) : ev (fun m => N m 1 0) = some x := by
 have key : ∀ k, ∀ m (i : Nat), i + k = n → k < m → N m (1 + c * (i : Int)) (i : Int) = some x := by
  intro k
  induction k with
  | zero =>
   intro m i h1 h2
   obtain ⟨m, rfl⟩ : ∃ m', m = m' + 1 := ⟨m - 1, by omega⟩
   have hi : i = n := by omega
   subst hi
   exact he m
  | succ k ih =>
   intro m i h1 h2
   obtain ⟨m, rfl⟩ : ∃ m', m = m' + 1 := ⟨m - 1, by omega⟩
   rw [hs m i (by omega)]
   exact ih m (i + 1) (by omega) (by omega)
 exact ev_eq (f := fun m => N m 1 0) (n + 1) (fun m hm => by
  have := key n m 0 (by omega) (by omega)
  simpa using this)
def markd2 (cell : Int → D) (k0 : Int) (n : Nat) : List D := (List.range n).map (fun (i : Nat) => cell (k0 + (i : Int)))
theorem markd2_len {cell : Int → D} {k0 : Int} {n : Nat} : (markd2 cell k0 n).length = n := by simp [markd2]
theorem markd2_get {cell : Int → D} {k0 : Int} {n i : Nat} (h : i < n) : (markd2 cell k0 n)[i]?.getD (.int 0) = cell (k0 + (i : Int)) := by
 simp [markd2, h]
theorem mark_loop2 {N : Nat → Int → Int → List D → Option (Int × List D)} {n : Nat} {k0 : Int} {cell : Int → D}
  (hs : ∀ m (i : Nat) acc, i < n → acc.length = n → N (m + 1) (k0 + (i : Int)) (i : Int) acc = N m (k0 + ((i + 1 : Nat) : Int)) ((i + 1 : Nat) : Int) (acc.set i (cell (k0 + (i : Int)))))
  (he : ∀ m acc, acc.length = n → N (m + 1) (k0 + (n : Int)) (n : Int) acc = some (k0 + (n : Int), acc)) {l : List D} (hl : l.length = n) :
  ev (fun m => N m k0 0 l) = some (k0 + (n : Int), markd2 cell k0 n) := by
 have key : ∀ k, ∀ m (i : Nat) acc, i + k = n → k < m → acc.length = n → acc.take i = (markd2 cell k0 n).take i → N m (k0 + (i : Int)) (i : Int) acc = some (k0 + (n : Int), markd2 cell k0 n) := by
  intro k
  induction k with
  | zero =>
   intro m i acc h1 h2 h3 h4
   obtain ⟨m, rfl⟩ : ∃ m', m = m' + 1 := ⟨m - 1, by omega⟩
   have hi : i = n := by omega
   subst hi
   rw [he m acc h3]
   rw [List.take_of_length_le (by omega), List.take_of_length_le (by rw [markd2_len]; exact Nat.le_refl _)] at h4
   rw [h4]
  | succ k ih =>
   intro m i acc h1 h2 h3 h4
   obtain ⟨m, rfl⟩ : ∃ m', m = m' + 1 := ⟨m - 1, by omega⟩
   rw [hs m i acc (by omega) h3]
   refine ih m (i + 1) _ (by omega) (by omega) (by simpa using h3) ?_
   have hi : i < (markd2 cell k0 n).length := by rw [markd2_len]; omega
   rw [List.take_succ_eq_append_getElem (by simp; omega), List.take_succ_eq_append_getElem hi]
   rw [List.take_set_of_le (by omega), h4]
   simp [markd2]
 have := ev_eq (f := fun m => N m k0 0 l) (n + 1) (fun m hm => by
  have := key n m 0 l (by omega) (by omega) hl (by simp)
  simpa using this)
 exact this
theorem held_loop2 {X : Type} {N : Nat → Int → Int → Option X} {n : Nat} {k0 : Int} {x : X}
  (hs : ∀ m (i : Nat), i < n → N (m + 1) (k0 + (i : Int)) (i : Int) = N m (k0 + ((i + 1 : Nat) : Int)) ((i + 1 : Nat) : Int))
  (he : ∀ m, N (m + 1) (k0 + (n : Int)) (n : Int) = some x) : ev (fun m => N m k0 0) = some x := by
 have key : ∀ k, ∀ m (i : Nat), i + k = n → k < m → N m (k0 + (i : Int)) (i : Int) = some x := by
  intro k
  induction k with
  | zero =>
   intro m i h1 h2
   obtain ⟨m, rfl⟩ : ∃ m', m = m' + 1 := ⟨m - 1, by omega⟩
   have hi : i = n := by omega
   subst hi
   exact he m
  | succ k ih =>
   intro m i h1 h2
   obtain ⟨m, rfl⟩ : ∃ m', m = m' + 1 := ⟨m - 1, by omega⟩
   rw [hs m i (by omega)]
   exact ih m (i + 1) (by omega) (by omega)
 exact ev_eq (f := fun m => N m k0 0) (n + 1) (fun m hm => by
  have := key n m 0 (by omega) (by omega)
  simpa using this)
def intsFrom (k : Int) (n : Nat) : List D := (List.range n).map (fun (i : Nat) => .int (k + (i : Int)))
theorem intsFrom_len {k : Int} {n : Nat} : (intsFrom k n).length = n := by simp [intsFrom]
theorem intsFrom_get {k : Int} {n i : Nat} (h : i < n) : (intsFrom k n)[i]?.getD (.int 0) = .int (k + (i : Int)) := by simp [intsFrom, h]
theorem markIntS_k (l : List D) (k0 : Int) (hk : 0 ≤ k0 ∧ k0 ≤ 4611686018427387904) (hl : l.length ≤ 1048576) : Z95 l k0 = some (k0 + (l.length : Int), intsFrom k0 l.length) := by
 have key : Z94 k0 0 l = some (k0 + (l.length : Int), markd2 (fun k => .int k) k0 l.length) := by
  refine mark_loop2 (N := n_Z94) (fun m i acc hi hacc => ?_) (fun m acc hacc => ?_) rfl
  ·have hw : IntKind.i64.wrap ((i : Int) + 1) = (i : Int) + 1 := wrap_id (by omega) (by omega)
   have w1 : IntKind.i64.wrap (k0 + (i : Int) + 1) = k0 + ((i : Int) + 1) := by rw [wrap_id (by omega) (by omega)]; omega
   have h2 : (i : Int) < acc.length := by omega
   have h3 : i + 1 ≤ acc.length := by omega
   simp [n_Z94, c_Z94, h2, h3, hw, w1]
  ·have h1 : ¬ (l.length : Int) < acc.length := by omega
   simp [n_Z94, c_Z94, h1]
 simp only [Z95, c_Z95, key, Option.bind_some]
 rfl
theorem heldIntS_k (n : Nat) (k0 : Int) (hk : 0 ≤ k0 ∧ k0 ≤ 4611686018427387904) (hn : n ≤ 1048576) : Z100 (intsFrom k0 n) k0 = some (k0 + (n : Int)) := by
 have key : Z99 (intsFrom k0 n) k0 0 = some (.inr (k0 + (n : Int))) := by
  refine held_loop2 (n := n) (N := fun m k i => n_Z99 m (intsFrom k0 n) k i) (fun m i hi => ?_) (fun m => ?_)
  ·have hw : IntKind.i64.wrap ((i : Int) + 1) = (i : Int) + 1 := wrap_id (by omega) (by omega)
   have w1 : IntKind.i64.wrap (k0 + (i : Int) + 1) = k0 + ((i : Int) + 1) := by rw [wrap_id (by omega) (by omega)]; omega
   have h2 : (i : Int) < n := by omega
   simp [n_Z99, c_Z99, intsFrom_len, h2, hw, w1, intsFrom_get hi, toInt_int]
  ·simp [n_Z99, c_Z99, intsFrom_len]
 simp only [Z100, c_Z100, key, Option.bind_some, Sum.elim_inr]
def mkSS (k : Int) : List D → List D
 | [] => []
 | d :: l => .node (intsFrom k d.items.length) :: mkSS (k + (d.items.length : Int)) l
def totSS : List D → Nat
 | [] => 0
 | d :: l => d.items.length + totSS l
theorem mkSS_len : ∀ (l : List D) (k : Int), (mkSS k l).length = l.length
 | [], _ => rfl
 | d :: l, k => by simp [mkSS, mkSS_len l]
theorem mkSS_get : ∀ (l : List D) (k : Int) (i : Nat), i < l.length → (mkSS k l)[i]?.getD (.int 0) = .node (intsFrom (k + (totSS (l.take i) : Int)) (l[i]?.getD (.int 0)).items.length)
 | [], _, _, h => by simp at h
 | d :: l, k, 0, _ => by simp [mkSS, totSS]
 | d :: l, k, i + 1, h => by
  have := mkSS_get l (k + (d.items.length : Int)) i (by simpa using h)
  simp only [mkSS, List.getElem?_cons_succ, List.take_succ_cons, totSS]
  rw [this]
  congr 2
  omega
theorem totSS_succ : ∀ (l : List D) (i : Nat), i < l.length → totSS (l.take (i + 1)) = totSS (l.take i) + (l[i]?.getD (.int 0)).items.length
 | [], _, h => by simp at h
 | d :: l, 0, _ => by simp [totSS]
 | d :: l, i + 1, h => by
  have := totSS_succ l i (by simpa using h)
  simp only [List.take_succ_cons, totSS, List.getElem?_cons_succ] at this ⊢
  omega
theorem totSS_le : ∀ (l : List D) (i : Nat), (∀ d ∈ l, d.items.length ≤ 1048576) → totSS (l.take i) ≤ i * 1048576
 | l, 0, _ => by simp [totSS]
 | [], i + 1, _ => by simp [totSS]
 | d :: l, i + 1, h => by
  have := totSS_le l i (fun x hx => h x (by simp [hx]))
  have h1 := h d (by simp)
  simp only [List.take_succ_cons, totSS, Nat.succ_mul]
  omega
theorem markIntSS_k (l : List D) (hl : l.length ≤ 1048576) (hi : ∀ d ∈ l, d.items.length ≤ 1048576) : Z97 l 1 = some (1 + (totSS l : Int), mkSS 1 l) := by
 obtain ⟨y, h1, h2⟩ := loop_post (N := fun m (s : Nat × List D) => n_Z96 m (1 + (totSS (l.take s.1) : Int)) (s.1 : Int) s.2) (fun s => s.1 ≤ l.length ∧ s.2 = (mkSS 1 l).take s.1 ++ l.drop s.1) (fun s => l.length - s.1)
  (fun s y => y = (1 + (totSS l : Int), mkSS 1 l)) (by
  rintro ⟨i, acc⟩ ⟨hi1, hacc⟩
  simp only at hi1 hacc ⊢
  have hlen : acc.length = l.length := by rw [hacc]; simp [mkSS_len]; omega
  by_cases hlt : i < l.length
  ·refine .inr ⟨(i + 1, (mkSS 1 l).take (i + 1) ++ l.drop (i + 1)), ⟨by simp; omega, rfl⟩, by simp; omega, fun y hy => hy, fun m => ?_⟩
   have hw : IntKind.i64.wrap ((i : Int) + 1) = ((i + 1 : Nat) : Int) := succ_wrap (by omega)
   have h2 : (i : Int) < acc.length := by omega
   have h3 : i + 1 ≤ acc.length := by omega
   have hgd : acc[i]?.getD (.int 0) = l[i]?.getD (.int 0) := by
    rw [hacc, List.getElem?_append_right (by simp [mkSS_len]; omega)]
    simp only [List.length_take, mkSS_len, List.getElem?_drop]
    congr 2
    omega
   have hb := totSS_le l i hi
   have hm := markIntS_k (l[i]?.getD (.int 0)).items (1 + (totSS (l.take i) : Int)) (by omega) (hi _ (get_mem hlt))
   have hset : acc.set i (.node (intsFrom (1 + (totSS (l.take i) : Int)) (l[i]?.getD (.int 0)).items.length)) = (mkSS 1 l).take (i + 1) ++ l.drop (i + 1) := by
    have hlt2 : i < (mkSS 1 l).length := by rw [mkSS_len]; exact hlt
    have hg := mkSS_get l 1 i hlt
    rw [List.getElem?_eq_getElem hlt2] at hg
    simp only [Option.getD_some] at hg
    rw [hacc, List.set_append_right _ _ (by simp [mkSS_len]; omega), List.take_succ_eq_append_getElem hlt2, hg]
    have : i - (List.take i (mkSS 1 l)).length = 0 := by simp [mkSS_len]; omega
    rw [this, drop_cons hlt]
    simp
   simp only [n_Z96, c_Z96, h2, h3, decide_true, cond_true, Int.natCast_nonneg, and_self, if_true, Int.toNat_natCast, List.getD_eq_getElem?_getD, hgd, hm, Option.bind_some, hw, hset, totSS_succ l i hlt]
   rw [show (1 : Int) + (totSS (List.take i l) : Int) + ((l[i]?.getD (D.int 0)).items.length : Int) = 1 + ((totSS (List.take i l) + (l[i]?.getD (D.int 0)).items.length : Nat) : Int) by omega]
   cases n_Z96 m (1 + ((totSS (List.take i l) + (l[i]?.getD (D.int 0)).items.length : Nat) : Int)) ((i + 1 : Nat) : Int) ((mkSS 1 l).take (i + 1) ++ l.drop (i + 1)) <;> rfl
  ·have hi' : i = l.length := by omega
   subst hi'
   have h2 : ¬ (l.length : Int) < acc.length := by omega
   refine .inl ⟨_, rfl, fun m => ?_⟩
   simp only [n_Z96, c_Z96, h2, decide_false, cond_false]
   rw [hacc, List.take_of_length_le (Nat.le_refl _), List.take_of_length_le (by rw [mkSS_len]; exact Nat.le_refl _), List.drop_of_length_le (Nat.le_refl _), List.append_nil]) (0, l) ⟨by simp, by simp⟩
 simp only [List.take_zero, totSS] at h1
 have h1' : Z96 1 0 l = some y := by show ev _ = _; simpa using h1
 subst h2
 simp only [Z97, c_Z97, h1', Option.bind_some]
def restO (o : List D) (p : Nat) : List D := o.take p ++ o.drop (p + 1)
theorem delete_eq (o : List D) (ho : o.length ≤ 1048576) {p : Nat} (hp : p < o.length) : Z83 o p ((p + 1 : Nat) : Int) = some (restO o p) := by
 unfold Z83 c_Z83
 have e1 : List.take (o.length - (p + 1)) (List.drop (p + 1) o) = o.drop (p + 1) := List.take_of_length_le (by rw [List.length_drop]; exact Nat.le_refl _)
 have e2 : (o.drop (p + 1)).length = o.length - (p + 1) := List.length_drop
 have e3 : p - 0 + (o.drop (p + 1)).length = o.length - 1 := by rw [e2]; omega
 rw [if_pos (by omega), if_pos (by omega), decide_eq_false (by omega), cond_false, if_pos (by omega), if_pos (by omega)]
 simp only [Int.toNat_natCast, e1, Nat.zero_add, Nat.sub_zero]
 simp only [Nat.sub_zero] at e3
 have e4 : o.drop (p + (o.drop (p + 1)).length) = o.drop (o.length - 1) := by rw [e3]
 have e5 : (o.take p ++ o.drop (p + 1) ++ o.drop (o.length - 1)).length = o.length := by
  simp only [List.length_append, List.length_take, List.length_drop]; omega
 rw [if_pos (by omega), if_pos (by omega)]
 simp only [e3, e5, e4]
 rw [if_pos (by omega), if_pos (by omega)]
 have e6 : (o.take p ++ o.drop (p + 1)).length = o.length - 1 := by
  simp only [List.length_append, List.length_take, List.length_drop]; omega
 have e7 : List.take (o.length - 1) (o.take p ++ o.drop (p + 1) ++ o.drop (o.length - 1)) = o.take p ++ o.drop (p + 1) := by
  rw [List.take_append_of_le_length (by omega), List.take_of_length_le (by omega)]
 simp only [e7]
 rw [if_pos (by simp only [List.length_append, e6, List.length_replicate, List.length_drop, e5]; omega)]
 simp only [List.drop_zero]
 rw [List.append_assoc, List.take_append_of_le_length (by omega), List.take_of_length_le (by omega)]
 rfl
theorem rest_len (o : List D) {p : Nat} (hp : p < o.length) : (restO o p).length = o.length - 1 := by
 simp only [restO, List.length_append, List.length_take, List.length_drop]; omega
theorem rest_mem {o : List D} {p : Nat} {d : D} (h : d ∈ restO o p) : d ∈ o := by
 rcases List.mem_append.1 h with h | h
 ·exact List.mem_of_mem_take h
 ·exact List.mem_of_mem_drop h
def neR (o : List D) (r : Int) (i : Nat) : Bool := !decide ((o.getD i (.int 0)).toInt = r)
noncomputable def befT (l o : List D) (r : Int) : Nat → Nat
 | 0 => 0
 | t + 1 => befT l o r t + cnt (fun i => gapT l o t i && neR o r i) o.length
theorem cnt_ne {o : List D} {r : Int} {p : Nat} (P : Nat → Bool) (hp : p < o.length) (hr : (o.getD p (.int 0)).toInt = r) (hu : ∀ i, i < o.length → (o.getD i (.int 0)).toInt = r → i = p) :
  ∀ k, k ≤ o.length → cnt P k = cnt (fun i => P i && neR o r i) k + (bif decide (p < k) && P p then 1 else 0)
 | 0, _ => by simp [cnt]
 | k + 1, hk => by
  have ih := cnt_ne P hp hr hu k (by omega)
  simp only [cnt, ih]
  by_cases hkp : k = p
  ·subst hkp
   have : neR o r k = false := by unfold neR; rw [hr]; simp
   rw [this, Bool.and_false, cond_false, decide_eq_false (Nat.lt_irrefl k), Bool.false_and, cond_false, decide_eq_true (show k < k + 1 by omega), Bool.true_and]
  ·have h1 : neR o r k = true := by
    unfold neR
    rw [decide_eq_false (fun h => hkp (hu k (by omega) h))]; rfl
   rw [h1, Bool.and_true, show decide (p < k + 1) = decide (p < k) from decide_eq_decide.2 (by omega)]
   omega
theorem bef_eq {l o : List D} {r : Int} {p : Nat} (hp : p < o.length) (hr : (o.getD p (.int 0)).toInt = r) (hu : ∀ i, i < o.length → (o.getD i (.int 0)).toInt = r → i = p) :
  ∀ t, befT l o r t + cnt (fun t => gapT l o t p) t = colT l o t
 | 0 => rfl
 | t + 1 => by
  have ih := bef_eq (l := l) hp hr hu t
  have h := cnt_ne (gapT l o t) hp hr hu o.length (Nat.le_refl _)
  rw [decide_eq_true hp, Bool.true_and] at h
  simp only [befT, colT, cnt]
  omega
theorem L19_eq {l o : List D} (hg : GoodT l) (hn : o.length ≤ l.length) (hr : ∀ d ∈ o, 0 ≤ d.toInt ∧ d.toInt < l.length) {t : Nat} (ht : t < (l[0]?.getD (D.int 0)).items.length) {f u : Int} (h : rgP l o t o.length (f, u)) (r : Int) (acc : Nat) (hacc : acc ≤ 1000) (out rest : List D) :
  Z20 o r (acc : Int) (t : Int) u f l out rest = some (o, r, ((acc + cnt (fun i => gapP l o t f u i && neR o r i) o.length : Nat) : Int), (t : Int), l, out, rest) := by
 have hn7 := hg.n7
 have hc10 := hg.c10
 rcases h with ⟨h1, h2⟩ | ⟨h1, h2, h3, h4⟩
 ·simp only at h1 h2
  subst h1 h2
  have hz : cnt (fun i => gapP l o t (-1) (-1) i && neR o r i) o.length = 0 := cnt_stop (a := 0) (by omega) (fun j _ _ => by
   unfold gapP; rw [decide_eq_false (show ¬ (j : Int) < -1 by omega)]; simp)
  rw [hz, Z20_fx]
  rfl
 ·simp only at h1 h2 h3 h4
  obtain ⟨f, rfl⟩ : ∃ k : Nat, f = (k : Int) := ⟨f.toNat, by omega⟩
  obtain ⟨u, rfl⟩ : ∃ k : Nat, u = (k : Int) := ⟨u.toNat, by omega⟩
  have key : ∀ k, ∀ i, i + k = u → f ≤ i → Z20 o r ((acc + cnt (fun i => gapP l o t f u i && neR o r i) i : Nat) : Int) (t : Int) (u : Int) (i : Int) l out rest = some (o, r, ((acc + cnt (fun i => gapP l o t f u i && neR o r i) o.length : Nat) : Int), (t : Int), l, out, rest) := by
   intro k
   induction k with
   | zero =>
    intro i hi hf
    obtain rfl : i = u := by omega
    rw [Z20_fx]
    unfold c_Z20
    rw [decide_eq_false (by omega), cond_false, cnt_stop (a := i) (b := o.length) (by omega) (fun j q1 _ => by
     unfold gapP; rw [decide_eq_false (show ¬ (j : Int) < (i : Int) by omega)]; simp)]
   | succ k ih =>
    intro i hi hf
    have hio : i < o.length := by omega
    have hd := hr _ (getD_mem hio)
    obtain ⟨a, ha⟩ : ∃ a : Nat, (o.getD i (D.int 0)).toInt = (a : Int) := ⟨((o.getD i (D.int 0)).toInt).toNat, by omega⟩
    have hrow := hg.len a (by omega)
    rw [← List.getD_eq_getElem?_getD] at hrow
    have hc := cnt_le (fun i => gapP l o t f u i && neR o r i) i
    have hz : zeroA l o t i = decide (((l.getD a (D.int 0)).items.getD t (D.int 0)).toInt = 0) := by
     unfold zeroA; rw [ha, Int.toNat_natCast]
    have hne : neR o r i = !decide ((a : Int) = r) := by unfold neR; rw [ha]
    rw [Z20_fx]
    unfold c_Z20
    simp only [Option.bind_fun_some, Int.toNat_natCast, ha]
    rw [decide_eq_true (show (i : Int) < (u : Int) by omega), cond_true, if_pos (by omega), if_pos (by omega), if_pos (by omega), if_pos (by omega), succ_wrap (by omega), succ_wrap (by omega), ← hz, ← hne]
    have hnext := ih (i + 1) (by omega) (by omega)
    have hsucc : cnt (fun i => gapP l o t f u i && neR o r i) (i + 1) = cnt (fun i => gapP l o t f u i && neR o r i) i + (bif gapP l o t f u i && neR o r i then 1 else 0) := rfl
    cases hm : neR o r i with
    | false =>
     rw [hm, Bool.and_false, cond_false] at hsucc
     rw [hsucc] at hnext
     exact hnext
    | true =>
     rw [hm, Bool.and_true] at hsucc
     cases hq : zeroA l o t i with
     | true =>
      have hfi : f ≠ i := by
       rintro rfl
       rw [hz] at hq
       have := of_decide_eq_true hq
       rw [Int.toNat_natCast, Int.toNat_natCast, ha, Int.toNat_natCast] at h4
       exact h4 this
      have : gapP l o t f u i = true := by
       unfold gapP
       rw [hq, decide_eq_true (show (f : Int) < (i : Int) by omega), decide_eq_true (show (i : Int) < (u : Int) by omega)]; rfl
      rw [this] at hsucc
      simp only [cond_true] at hsucc ⊢
      rw [hsucc] at hnext
      exact hnext
     | false =>
      have : gapP l o t f u i = false := by unfold gapP; rw [hq]; simp
      rw [this] at hsucc
      simp only [cond_false, cond_true] at hsucc ⊢
      rw [hsucc] at hnext
      exact hnext
  have h0 : cnt (fun i => gapP l o t f u i && neR o r i) f = 0 := cnt_stop (a := 0) (by omega) (fun j _ q => by
   unfold gapP; rw [decide_eq_false (show ¬ (f : Int) < (j : Int) by omega)]; rfl)
  have := key (u - f) f (by omega) (by omega)
  rw [h0] at this
  exact this
theorem L15_eq {l o : List D} (hg : GoodT l) (hn : o.length ≤ l.length) (hr : ∀ d ∈ o, 0 ≤ d.toInt ∧ d.toInt < l.length) (r : Int) (out rest : List D) : ∀ (k t : Nat), t + k = (l[0]?.getD (D.int 0)).items.length → befT l o r t ≤ 7 * t →
  Z21 o r ((befT l o r t : Nat) : Int) (t : Int) l out rest = some (o, r, ((befT l o r (l[0]?.getD (D.int 0)).items.length : Nat) : Int), l, out, rest)
 | 0, t, hk, hb => by
  have n1 := hg.n1
  rw [Z21_fx]
  unfold c_Z21
  rw [if_pos (by omega), decide_eq_false (by rw [Int.toNat_zero, List.getD_eq_getElem?_getD]; omega), cond_false, show t = (l[0]?.getD (D.int 0)).items.length by omega]
 | k + 1, t, hk, hb => by
  have n1 := hg.n1
  have n7 := hg.n7
  have c10 := hg.c10
  obtain ⟨q, q1, q2, q3⟩ := range_post hg (by omega) hr (t : Int) (by omega) (by omega)
  obtain ⟨f, u⟩ := q
  have hgt : gapT l o t = gapP l o t f u := by funext j; unfold gapT; rw [q1]; rfl
  have e1 := L19_eq hg hn hr (t := t) (by omega) q3 r (befT l o r t) (by omega) out rest
  rw [← hgt] at e1
  have hc := cnt_le (fun i => gapT l o t i && neR o r i) o.length
  rw [Z21_fx]
  unfold c_Z21
  rw [if_pos (by omega), decide_eq_true (by rw [Int.toNat_zero, List.getD_eq_getElem?_getD]; omega), cond_true]
  simp only [q1, Option.bind_some, e1, succ_wrap (show t < 4611686018427387904 by omega)]
  rw [show befT l o r t + cnt (fun i => gapT l o t i && neR o r i) o.length = befT l o r (t + 1) from rfl]
  rw [L15_eq hg hn hr r out rest k (t + 1) (by omega) (by simp only [befT]; omega)]
  rfl
theorem L10_eq (o : List D) (ho : o.length ≤ 1048576) (hi : ∀ d ∈ o, ∃ k, d = D.int k) (r b : Int) (l out : List D) : ∀ (k i : Nat) (acc : List D), i + k = o.length → acc.length ≤ i →
  Z17 o r b i l out acc = some (o, r, b, l, out, acc ++ (o.drop i).filter (fun d => !decide (d.toInt = r)))
 | 0, i, acc, hk, ha => by
  rw [Z17_fx]
  unfold c_Z17
  rw [decide_eq_false (by omega), cond_false, List.drop_of_length_le (by omega)]
  simp
 | k + 1, i, acc, hk, ha => by
  have hio : i < o.length := by omega
  rw [Z17_fx]
  unfold c_Z17
  rw [decide_eq_true (by omega), cond_true, if_pos (by omega), if_pos (by omega), if_pos (by simp only [List.length_cons, List.length_nil]; omega), succ_wrap (by omega), Int.toNat_natCast]
  have hd : D.int (o.getD i (.int 0)).toInt = o.getD i (.int 0) := by
   obtain ⟨k, hk⟩ := hi _ (getD_mem hio)
   rw [hk]; rfl
  have hcut : o.drop i = o.getD i (.int 0) :: o.drop (i + 1) := by rw [List.getD_eq_getElem?_getD]; exact drop_cons hio
  rw [hd, L10_eq o ho hi r b l out k (i + 1) _ (by omega) (by simp only [List.length_append, List.length_cons, List.length_nil]; omega), L10_eq o ho hi r b l out k (i + 1) _ (by omega) (by omega), hcut, List.filter_cons]
  cases hq : !decide ((o.getD i (.int 0)).toInt = r) with
  | true => simp
  | false => simp
theorem filter_rest {o : List D} {r : Int} {p : Nat} (hp : p < o.length) (hr : (o.getD p (.int 0)).toInt = r) (hu : ∀ i, i < o.length → (o.getD i (.int 0)).toInt = r → i = p) : o.filter (fun d => !decide (d.toInt = r)) = restO o p := by
 have h1 : o = o.take p ++ o.getD p (.int 0) :: o.drop (p + 1) := by
  rw [List.getD_eq_getElem?_getD, ← drop_cons hp, List.take_append_drop]
 have hne : ∀ (i : Nat) (hi : i < o.length), i ≠ p → (o[i]).toInt ≠ r := by
  intro i hi h hq
  refine h (hu i hi ?_)
  rw [List.getD_eq_getElem?_getD, List.getElem?_eq_getElem hi]; exact hq
 conv => lhs; rw [h1]
 rw [List.filter_append, List.filter_cons]
 rw [hr, decide_eq_true rfl]
 simp only [Bool.not_true, Bool.false_eq_true, if_false]
 unfold restO
 congr 1
 ·rw [List.filter_eq_self]
  intro d hd
  obtain ⟨i, hi, rfl⟩ := List.mem_iff_getElem.1 hd
  rw [List.length_take] at hi
  rw [List.getElem_take, decide_eq_false (hne i (by omega) (by omega))]; rfl
 ·rw [List.filter_eq_self]
  intro d hd
  obtain ⟨i, hi, rfl⟩ := List.mem_iff_getElem.1 hd
  rw [List.length_drop] at hi
  rw [List.getElem_drop, decide_eq_false (hne _ (by omega) (by omega))]; rfl
theorem places {o : List D} {n : Nat} (hn : o.length = n) (hn12 : n ≤ 12) (hr : ∀ d ∈ o, 0 ≤ d.toInt ∧ d.toInt < n) (hd : (o.map D.toInt).Nodup) (r : Nat) (h : r < n) :
  ∃ p, p < o.length ∧ (o.getD p (.int 0)).toInt = (r : Int) ∧ ∀ i, i < o.length → (o.getD i (.int 0)).toInt = (r : Int) → i = p := by
 have hxs : ∀ x ∈ o.map D.toInt, 0 ≤ x ∧ x < (o.map D.toInt).length := by
  intro x hx
  obtain ⟨d, h1, rfl⟩ := List.mem_map.1 hx
  rw [List.length_map, hn]
  exact hr d h1
 obtain ⟨y, _, _, h3⟩ := sort_spec (o.map D.toInt) (by rw [List.length_map]; omega)
 obtain ⟨C, c1, c2, _⟩ := h3 (by rw [List.length_map]; omega)
 have hlen : C.length = n := by rw [c2.length_eq, List.length_map, hn]
 have hC := (sorted_upto c1 c2).2 ⟨hxs, hd⟩ r (by omega)
 have hmem : (r : Int) ∈ o.map D.toInt := by
  refine c2.mem_iff.1 ?_
  rw [← hC, List.getD_eq_getElem?_getD, List.getElem?_eq_getElem (by omega)]
  exact List.getElem_mem _
 obtain ⟨p, hp, hpe⟩ := List.mem_iff_getElem.1 hmem
 rw [List.length_map] at hp
 rw [List.getElem_map] at hpe
 refine ⟨p, hp, by rw [List.getD_eq_getElem?_getD, List.getElem?_eq_getElem hp]; exact hpe, fun i hi hie => ?_⟩
 rw [List.getD_eq_getElem?_getD, List.getElem?_eq_getElem hi] at hie
 have := (List.getElem_inj (xs := o.map D.toInt) (i := i) (j := p) (h₀ := by rw [List.length_map]; exact hi) (h₁ := by rw [List.length_map]; exact hp) hd).1 (by rw [List.getElem_map, List.getElem_map, hpe]; exact hie)
 exact this
theorem spec5 {l o : List D} (hg : GoodT l) (hn : o.length = l.length) (hr : ∀ d ∈ o, 0 ≤ d.toInt ∧ d.toInt < l.length) (hi : ∀ d ∈ o, ∃ k, d = D.int k) (hd : (o.map D.toInt).Nodup) (Q : Nat → Bool)
  (hQ : ∀ p, p < o.length → ∃ w : Nat, Z24 l (restO o p) = some (w : Int) ∧ ∀ r : Nat, (o.getD p (.int 0)).toInt = (r : Int) → Q r = decide ((w : Int) < ((befT l o r (l[0]?.getD (D.int 0)).items.length : Nat) : Int))) : ∀ (k r : Nat) (acc : List D), r + k = o.length → acc.length ≤ r →
  Z25 o r l acc = some (acc ++ iD ((((List.range k).map (fun (i : Nat) => r + i)).filter Q).map (fun (i : Nat) => (i : Int))))
 | 0, r, acc, hk, ha => by
  rw [Z25_fx]
  unfold c_Z25
  rw [decide_eq_false (by omega), cond_false]
  simp [iD]
 | k + 1, r, acc, hk, ha => by
  have n7 := hg.n7
  obtain ⟨p, p1, p2, p3⟩ := places hn (by omega) hr hd r (by omega)
  obtain ⟨w, w1, w2⟩ := hQ p p1
  rw [Z25_fx]
  unfold c_Z25
  rw [decide_eq_true (by omega), cond_true]
  have e1 := L10_eq o (by omega) hi r 0 l acc o.length 0 [] (by omega) (by simp)
  have e2 := L15_eq hg (by omega) hr r acc (restO o p) (l[0]?.getD (D.int 0)).items.length 0 (by omega) (by simp [befT])
  rw [show ((0 : Nat) : Int) = 0 from rfl] at e1 e2
  rw [show ((befT l o r 0 : Nat) : Int) = 0 from rfl] at e2
  simp only [e1, Option.bind_some, List.drop_zero, List.nil_append, filter_rest p1 p2 p3, e2, w1, succ_wrap (show r < 4611686018427387904 by omega)]
  rw [← w2 r p2, if_pos (by simp only [List.length_cons, List.length_nil]; omega)]
  have hrange : (List.range (k + 1)).map (fun (i : Nat) => r + i) = r :: (List.range k).map (fun (i : Nat) => (r + 1) + i) := by
   rw [List.range_succ_eq_map, List.map_cons, List.map_map, Nat.add_zero]
   congr 1
   apply List.map_congr_left
   intro i _
   simp only [Function.comp]
   omega
  rw [hrange, List.filter_cons]
  cases hq : Q r with
  | true =>
   rw [cond_true, spec5 hg hn hr hi hd Q hQ k (r + 1) _ (by omega) (by simp only [List.length_append, List.length_cons, List.length_nil]; omega)]
   simp [iD]
  | false =>
   rw [cond_false, spec5 hg hn hr hi hd Q hQ k (r + 1) _ (by omega) (by omega)]
   simp [iD]
theorem impl6 {l o : List D} (hg : GoodT l) (hn : o.length = l.length) (hr : ∀ d ∈ o, 0 ≤ d.toInt ∧ d.toInt < l.length) (g : List Nat) (hgl : g.length = o.length) (hgs : sumN g ≤ 1000) (Q : Nat → Bool)
  (hQ : ∀ p, p < o.length → ∃ w : Nat, Z86 l (restO o p) = some (w : Int) ∧ ∀ r : Nat, (o.getD p (.int 0)).toInt = (r : Int) → Q r = decide ((w : Int) < ((sumN g - g.getD p 0 : Nat) : Int))) : ∀ (k i : Nat) (acc : List D), i + k = o.length → acc.length ≤ i →
  Z87 o o o.length i l (nD g) acc = some (acc ++ iD (((o.drop i).map D.toInt).filter (fun x => Q x.toNat)))
 | 0, i, acc, hk, ha => by
  rw [Z87_fx]
  unfold c_Z87
  rw [decide_eq_false (by omega), cond_false, List.drop_of_length_le (by omega)]
  simp [iD]
 | k + 1, i, acc, hk, ha => by
  have n7 := hg.n7
  have hio : i < o.length := by omega
  have hdd := hr _ (getD_mem hio)
  obtain ⟨r, hre⟩ : ∃ r : Nat, (o.getD i (D.int 0)).toInt = (r : Int) := ⟨((o.getD i (D.int 0)).toInt).toNat, by omega⟩
  obtain ⟨w, w1, w2⟩ := hQ i hio
  have hge := sumN_get g i
  rw [Z87_fx]
  unfold c_Z87
  rw [decide_eq_true (by omega), cond_true, if_pos (by omega)]
  simp only [clone_eq o (by omega), Option.bind_some, succ_wrap (show i < 4611686018427387904 by omega), delete_eq o (by omega) hio, w1, sumOf_nD g (by omega) (by omega), nD_len, nD_get, Int.toNat_natCast, hre]
  rw [if_pos (by omega), if_pos (by omega), wrap_id (by omega) (by omega), show ((sumN g : Nat) : Int) - ((g.getD i 0 : Nat) : Int) = ((sumN g - g.getD i 0 : Nat) : Int) by omega, ← w2 r hre, if_pos (by simp only [List.length_cons, List.length_nil]; omega)]
  have hcut : o.drop i = o.getD i (.int 0) :: o.drop (i + 1) := by rw [List.getD_eq_getElem?_getD]; exact drop_cons hio
  rw [hcut, List.map_cons, List.filter_cons, hre, Int.toNat_natCast]
  cases hq : Q r with
  | true =>
   rw [cond_true, impl6 hg hn hr g hgl hgs Q hQ k (i + 1) _ (by omega) (by simp only [List.length_append, List.length_cons, List.length_nil]; omega)]
   simp [iD]
  | false =>
   rw [cond_false, impl6 hg hn hr g hgl hgs Q hQ k (i + 1) _ (by omega) (by omega)]
   simp [iD]
theorem mis_same (l o : List D) (hl : l.length ≤ 1048576) (ho : o.length ≤ 1048576) (hi : ∀ d ∈ o, ∃ k, d = D.int k) : ∃ y, Z26 l o = some y ∧ Z88 l o = some y ∧ y.1.length ≤ 1048576 := by
 obtain ⟨b, h1, h2, h3⟩ := order_same l o hl ho hi
 simp only [Z26, c_Z26, Z88, c_Z88, h1, h2, Option.bind_some]
 cases b with
 | false => exact ⟨_, rfl, rfl, by simp⟩
 | true =>
  obtain ⟨hg, hn, hr, hd⟩ := h3 rfl
  have n1 := hg.n1
  have n7 := hg.n7
  obtain ⟨v, v1, v2, v3, v4, g, g1, g2, g3, g4⟩ := gaps_same hg (by omega) hr
  let Q : Nat → Bool := fun r => decide (((Z24 l (o.filter (fun d => !decide (d.toInt = (r : Int))))).getD 0) < ((befT l o r (l[0]?.getD (D.int 0)).items.length : Nat) : Int))
  have hpl : ∀ p, p < o.length → ∃ w : Nat, w ≤ 1000 ∧ Z24 l (restO o p) = some (w : Int) ∧ Z86 l (restO o p) = some (w : Int) := by
   intro p hp
   obtain ⟨w, w1, w2, w3, _⟩ := gaps_same (o := restO o p) hg (by rw [rest_len o hp]; omega) (fun d h => hr d (rest_mem h))
   exact ⟨w, w1, w2, w3⟩
  have hun : ∀ p, p < o.length → ∀ r : Nat, (o.getD p (.int 0)).toInt = (r : Int) → ∀ i, i < o.length → (o.getD i (.int 0)).toInt = (r : Int) → i = p := by
   intro p hp r hpr i hi' hir
   have hrl : r < l.length := by have := hr _ (getD_mem hp); omega
   obtain ⟨q, _, _, q3⟩ := places hn (by omega) hr hd r hrl
   rw [q3 i hi' hir, q3 p hp hpr]
  have hQs : ∀ p, p < o.length → ∃ w : Nat, Z24 l (restO o p) = some (w : Int) ∧ ∀ r : Nat, (o.getD p (.int 0)).toInt = (r : Int) → Q r = decide ((w : Int) < ((befT l o r (l[0]?.getD (D.int 0)).items.length : Nat) : Int)) := by
   intro p hp
   obtain ⟨w, w1, w2, w3⟩ := hpl p hp
   refine ⟨w, w2, fun r hpr => ?_⟩
   show decide (((Z24 l (o.filter (fun d => !decide (d.toInt = (r : Int))))).getD 0) < _) = _
   rw [filter_rest hp hpr (hun p hp r hpr), w2]; rfl
  have hQi : ∀ p, p < o.length → ∃ w : Nat, Z86 l (restO o p) = some (w : Int) ∧ ∀ r : Nat, (o.getD p (.int 0)).toInt = (r : Int) → Q r = decide ((w : Int) < ((sumN g - g.getD p 0 : Nat) : Int)) := by
   intro p hp
   obtain ⟨w, w1, w2, w3⟩ := hpl p hp
   refine ⟨w, w3, fun r hpr => ?_⟩
   obtain ⟨w', w1', w2'⟩ := hQs p hp
   rw [w2] at w1'
   have hww : (w : Int) = (w' : Int) := Option.some.inj w1'
   rw [w2' r hpr, ← hww]
   have hb := bef_eq (l := l) hp hpr (hun p hp r hpr) (l[0]?.getD (D.int 0)).items.length
   rw [g2, v4, ← hb, g3 p hp]
   congr 2
   omega
  have e1 := spec5 hg hn hr hi hd Q hQs o.length 0 [] (by omega) (by simp)
  have e2 := impl6 hg hn hr g g1 (by omega) Q hQi o.length 0 [] (by omega) (by simp)
  rw [show ((0 : Nat) : Int) = 0 from rfl] at e1 e2
  simp only [List.nil_append, Nat.zero_add, List.map_id', List.drop_zero] at e1 e2
  have hA : ((o.map D.toInt).filter (fun x => Q x.toNat)).length ≤ o.length := by
   have := List.length_filter_le (fun x : Int => Q x.toNat) (o.map D.toInt)
   rwa [List.length_map] at this
  obtain ⟨y, y1, _, y3⟩ := sort_spec ((o.map D.toInt).filter (fun x => Q x.toNat)) (by omega)
  obtain ⟨C, c1, c2, rfl⟩ := y3 (by omega)
  simp only [Bool.not_true, cond_false, e1, e2, g4, y1, Option.bind_some]
  have hBlt : (((List.range o.length).filter Q).map (fun (i : Nat) => (i : Int))).Pairwise (· < ·) := by
   rw [List.pairwise_map]
   refine (List.Pairwise.filter Q List.pairwise_lt_range).imp (fun {a b} h => by omega)
  have hAnd : ((o.map D.toInt).filter (fun x => Q x.toNat)).Nodup := List.Nodup.sublist List.filter_sublist hd
  have hCB : C = ((List.range o.length).filter Q).map (fun (i : Nat) => (i : Int)) := by
   have hperm : C.Perm (((List.range o.length).filter Q).map (fun (i : Nat) => (i : Int))) := by
    refine c2.trans ?_
    refine (List.perm_ext_iff_of_nodup hAnd (hBlt.imp (fun {a b} h => by omega))).2 (fun x => ?_)
    constructor
    ·intro hx
     obtain ⟨x1, x2⟩ := List.mem_filter.1 hx
     obtain ⟨d, d1, rfl⟩ := List.mem_map.1 x1
     have := hr d d1
     refine List.mem_map.2 ⟨d.toInt.toNat, List.mem_filter.2 ⟨List.mem_range.2 (by omega), x2⟩, by omega⟩
    ·intro hx
     obtain ⟨r, r1, rfl⟩ := List.mem_map.1 hx
     obtain ⟨r2, r3⟩ := List.mem_filter.1 r1
     have r4 := List.mem_range.1 r2
     obtain ⟨p, p1, p2, _⟩ := places hn (by omega) hr hd r (by omega)
     refine List.mem_filter.2 ⟨List.mem_map.2 ⟨_, getD_mem p1, p2⟩, ?_⟩
     rw [Int.toNat_natCast]; exact r3
   exact hperm.eq_of_pairwise (fun a b _ _ h1 h2 => by omega) c1 (hBlt.imp (fun {a b} h => by omega))
  refine ⟨_, rfl, by rw [hCB], ?_⟩
  simp only [iD_len, List.length_map]
  have := List.length_filter_le Q (List.range o.length)
  rw [List.length_range] at this
  omega
theorem pure_FnExactMisplacedRows (x0 : List D) (x1 : List D) (h0 : x0.length ≤ maxLen) (w0 : ∀ d ∈ x0, wfD (.slice (.int .i64)) d) (h1 : x1.length ≤ maxLen) (w1 : ∀ d ∈ x1, wfD (.int .i64) d) : Z101 x0 x1 = some true := by
 by_cases hb : (1048576 : Int) < (x1.length : Int)
 ·simp [Z101, c_Z101, hb]
 ·obtain ⟨v, hv, hv2⟩ := szTable_eq x0 h0 w0
  by_cases hneg : v < 0
  ·simp [Z101, c_Z101, hb, hv, hneg]
  ·obtain ⟨hl, hr⟩ := hv2.resolve_left hneg
   have ho : x1.length ≤ 1048576 := by omega
   obtain ⟨y, q1, q2, q3⟩ := mis_same x0 x1 hl ho (wf_ints w1)
   have e1 := markIntSS_k x0 hl hr
   have b1 : totSS x0 ≤ x0.length * 1048576 := by have := totSS_le x0 x0.length hr; rwa [List.take_of_length_le (Nat.le_refl _)] at this
   have e2 := markIntS_k x1 (1 + (totSS x0 : Int)) (by omega) ho
   have e3 : ¬ (1 + (totSS x0 : Int) + (x1.length : Int)) < 0 := by omega
   have e4 := markIntS_k y.1 1 (by omega) q3
   have e5 := heldIntS_k y.1.length 1 (by omega) q3
   have e6 : ¬ (1 + (y.1.length : Int)) < 0 := by omega
   simp only [Z101, c_Z101]
   rw [decide_eq_false hb, cond_false]
   simp [hv, hneg, toTable_id x0 hl w0 hr, toIntS_id x1 ho w1, q1, q2, eqTable_self x0 hl hr, eqIntS_self x1 ho, eqIntS_self y.1 q3, Z98, c_Z98, e1, e2, e3, e4, e5, e6]
end Go.Proofs.Ytinhphmajfiepaa
