/- Models of Go functions and their contracts, printed by a program of this session. -/
import Derived.Test.YtinhphmajfiepaaClMFnExactGapCountx0
set_option linter.unusedVariables false
set_option maxRecDepth 100000
namespace Go.Proofs.Ytinhphmajfiepaa
open Go Go.Rai
noncomputable section
/-! slices.partialInsertionSortOrdered[int], loop 3 -/
def c_slices_partialInsertionSortOrdered_L3 {R : Type} (F : Int → Int → Int → Int → List D → Option ((Bool × List D) ⊕ (List D))) (x0 : Int) (x1 : Int) (x2 : Int) (x3 : Int) (x4 : List D) (k : (Bool × List D) ⊕ (List D) → Option R) : Option R :=
 bif Decidable.decide (x3 < (5 : Int)) then
 (slices_partialInsertionSortOrdered_L5 x0 x1 x2 x3 x4).bind (fun y0 =>
 bif Decidable.decide (y0.snd.snd.fst = y0.snd.fst) then
 k (.inl (Bool.true, y0.snd.snd.snd.snd))
 else
 bif Decidable.decide (Go.IntKind.i64.wrap (y0.snd.fst - y0.fst) < (50 : Int)) then
 k (.inl (Bool.false, y0.snd.snd.snd.snd))
 else
 if (0 : Int) ≤ Go.IntKind.i64.wrap (y0.snd.snd.fst - (1 : Int)) ∧ Go.IntKind.i64.wrap (y0.snd.snd.fst - (1 : Int)) < (↑y0.snd.snd.snd.snd.length : Int) then
 if (Go.IntKind.i64.wrap (y0.snd.snd.fst - (1 : Int))).toNat + (1 : Nat) ≤ y0.snd.snd.snd.snd.length then
 if (0 : Int) ≤ y0.snd.snd.fst ∧ y0.snd.snd.fst < (↑y0.snd.snd.snd.snd.length : Int) then
 if y0.snd.snd.fst.toNat + (1 : Nat) ≤ y0.snd.snd.snd.snd.length then
 if (0 : Int) ≤ y0.snd.snd.fst ∧ y0.snd.snd.fst < (↑y0.snd.snd.snd.snd.length : Int) then
 if y0.snd.snd.fst.toNat + (1 : Nat) ≤ y0.snd.snd.snd.snd.length then
 if (0 : Int) ≤ Go.IntKind.i64.wrap (y0.snd.snd.fst - (1 : Int)) ∧ Go.IntKind.i64.wrap (y0.snd.snd.fst - (1 : Int)) < (↑(y0.snd.snd.snd.snd.set y0.snd.snd.fst.toNat (Go.Rai.D.int (y0.snd.snd.snd.snd.getD (Go.IntKind.i64.wrap (y0.snd.snd.fst - (1 : Int))).toNat (Go.Rai.D.int (0 : Int))).toInt)).length : Int) then
 if (Go.IntKind.i64.wrap (y0.snd.snd.fst - (1 : Int))).toNat + (1 : Nat) ≤ (y0.snd.snd.snd.snd.set y0.snd.snd.fst.toNat (Go.Rai.D.int (y0.snd.snd.snd.snd.getD (Go.IntKind.i64.wrap (y0.snd.snd.fst - (1 : Int))).toNat (Go.Rai.D.int (0 : Int))).toInt)).length then
 bif Decidable.decide ((2 : Int) ≤ Go.IntKind.i64.wrap (y0.snd.snd.fst - y0.fst)) then
 (slices_partialInsertionSortOrdered_L14 y0.fst y0.snd.fst y0.snd.snd.fst y0.snd.snd.snd.fst (Go.IntKind.i64.wrap (y0.snd.snd.fst - (1 : Int))) ((y0.snd.snd.snd.snd.set y0.snd.snd.fst.toNat (Go.Rai.D.int (y0.snd.snd.snd.snd.getD (Go.IntKind.i64.wrap (y0.snd.snd.fst - (1 : Int))).toNat (Go.Rai.D.int (0 : Int))).toInt)).set (Go.IntKind.i64.wrap (y0.snd.snd.fst - (1 : Int))).toNat (Go.Rai.D.int (y0.snd.snd.snd.snd.getD y0.snd.snd.fst.toNat (Go.Rai.D.int (0 : Int))).toInt))).bind (fun y1 =>
 bif Decidable.decide ((2 : Int) ≤ Go.IntKind.i64.wrap (y1.snd.fst - y1.snd.snd.fst)) then
 (slices_partialInsertionSortOrdered_L20 y1.fst y1.snd.fst y1.snd.snd.fst y1.snd.snd.snd.fst (Go.IntKind.i64.wrap (y1.snd.snd.fst + (1 : Int))) y1.snd.snd.snd.snd).bind (fun y2 =>
 (F y2.fst y2.snd.fst y2.snd.snd.fst (Go.IntKind.i64.wrap (y2.snd.snd.snd.fst + (1 : Int))) y2.snd.snd.snd.snd).bind k)
 else
 (F y1.fst y1.snd.fst y1.snd.snd.fst (Go.IntKind.i64.wrap (y1.snd.snd.snd.fst + (1 : Int))) y1.snd.snd.snd.snd).bind k)
 else
 bif Decidable.decide ((2 : Int) ≤ Go.IntKind.i64.wrap (y0.snd.fst - y0.snd.snd.fst)) then
 (slices_partialInsertionSortOrdered_L20 y0.fst y0.snd.fst y0.snd.snd.fst y0.snd.snd.snd.fst (Go.IntKind.i64.wrap (y0.snd.snd.fst + (1 : Int))) ((y0.snd.snd.snd.snd.set y0.snd.snd.fst.toNat (Go.Rai.D.int (y0.snd.snd.snd.snd.getD (Go.IntKind.i64.wrap (y0.snd.snd.fst - (1 : Int))).toNat (Go.Rai.D.int (0 : Int))).toInt)).set (Go.IntKind.i64.wrap (y0.snd.snd.fst - (1 : Int))).toNat (Go.Rai.D.int (y0.snd.snd.snd.snd.getD y0.snd.snd.fst.toNat (Go.Rai.D.int (0 : Int))).toInt))).bind (fun y3 =>
 (F y3.fst y3.snd.fst y3.snd.snd.fst (Go.IntKind.i64.wrap (y3.snd.snd.snd.fst + (1 : Int))) y3.snd.snd.snd.snd).bind k)
 else
 (F y0.fst y0.snd.fst y0.snd.snd.fst (Go.IntKind.i64.wrap (y0.snd.snd.snd.fst + (1 : Int))) ((y0.snd.snd.snd.snd.set y0.snd.snd.fst.toNat (Go.Rai.D.int (y0.snd.snd.snd.snd.getD (Go.IntKind.i64.wrap (y0.snd.snd.fst - (1 : Int))).toNat (Go.Rai.D.int (0 : Int))).toInt)).set (Go.IntKind.i64.wrap (y0.snd.snd.fst - (1 : Int))).toNat (Go.Rai.D.int (y0.snd.snd.snd.snd.getD y0.snd.snd.fst.toNat (Go.Rai.D.int (0 : Int))).toInt))).bind k
 else
 none
 else
 none
 else
 none
 else
 none
 else
 none
 else
 none
 else
 none
 else
 none)
 else
 k (.inr x4)
theorem c_slices_partialInsertionSortOrdered_L3_bind {R : Type} (F : Int → Int → Int → Int → List D → Option ((Bool × List D) ⊕ (List D))) (x0 : Int) (x1 : Int) (x2 : Int) (x3 : Int) (x4 : List D) (k : (Bool × List D) ⊕ (List D) → Option R) : c_slices_partialInsertionSortOrdered_L3 F x0 x1 x2 x3 x4 k = (c_slices_partialInsertionSortOrdered_L3 F x0 x1 x2 x3 x4 some).bind k := by
  unfold c_slices_partialInsertionSortOrdered_L3
  repeat' first
    | exact bnd_tail
    | exact bnd_none
    | exact bnd_leaf
    | apply bnd_ite
    | apply bnd_cond
    | apply bnd_sum
    | (apply bnd_bind; intro _)
    | intro _
def n_slices_partialInsertionSortOrdered_L3 : Nat → Int → Int → Int → Int → List D → Option ((Bool × List D) ⊕ (List D))
 | 0, _, _, _, _, _ => none
 | n + 1, x0, x1, x2, x3, x4 => c_slices_partialInsertionSortOrdered_L3 (n_slices_partialInsertionSortOrdered_L3 n) x0 x1 x2 x3 x4 some
noncomputable def slices_partialInsertionSortOrdered_L3 (x0 : Int) (x1 : Int) (x2 : Int) (x3 : Int) (x4 : List D) : Option ((Bool × List D) ⊕ (List D)) := ev (fun n => n_slices_partialInsertionSortOrdered_L3 n x0 x1 x2 x3 x4)
def m_slices_partialInsertionSortOrdered_L3 (F : Int → Int → Int → Int → List D → Option ((Bool × List D) ⊕ (List D))) : Lent := ⟨3, ⟨[.full 1000 [] (.int .i64), .int .i64, .int .i64, .undef, .undef, .undef, .undef, .int .i64, .int .i64, .undef, .undef, .undef, .undef, .undef, .undef, .undef, .undef, .undef, .undef, .undef, .undef, .undef, .undef, .undef, .undef, .undef, .undef, .undef, .undef, .undef, .undef, .undef, .undef, .undef, .undef, .undef, .undef, .undef, .undef, .undef, .undef, .undef, .undef, .undef, .undef, .undef, .undef, .undef, .undef, .undef, .undef, .undef, .undef, .undef, .undef, .undef, .undef, .undef, .undef, .undef, .undef, .undef, .undef, .undef, .undef, .undef, .undef, .undef, .undef, .undef, .undef, .undef, .undef, .undef, .undef, .undef, .undef, .undef, .undef, .undef, .undef, .undef, .undef, .undef, .undef, .undef, .undef, .undef, .undef, .undef, .undef, .undef, .undef, .undef, .undef, .undef, .undef, .undef, .undef, .undef, .undef, .undef, .undef, .undef, .undef, .undef, .undef, .undef, .undef, .undef, .undef, .undef, .undef, .undef, .undef, .undef, .undef, .undef, .undef, .undef, .undef, .undef, .undef, .undef, .undef, .undef, .undef, .undef, .undef, .undef, .undef, .undef, .undef], [(1000, .own (.int .i64))]⟩, [(.ret, ⟨[.full 1000 [] (.int .i64), .undef, .undef, .undef, .undef, .undef, .bool, .undef, .undef, .undef, .undef, .undef, .undef, .undef, .undef, .undef, .undef, .undef, .undef, .undef, .undef, .undef, .undef, .undef, .undef, .undef, .undef, .undef, .undef, .undef, .undef, .undef, .undef, .undef, .undef, .undef, .undef, .undef, .undef, .undef, .undef, .undef, .undef, .undef, .undef, .undef, .undef, .undef, .undef, .undef, .undef, .undef, .undef, .undef, .undef, .undef, .undef, .undef, .undef, .undef, .undef, .undef, .undef, .undef, .undef, .undef, .undef, .undef, .undef, .undef, .undef, .undef, .undef, .undef, .undef, .undef, .undef, .undef, .undef, .undef, .undef, .undef, .undef, .undef, .undef, .undef, .undef, .undef, .undef, .undef, .undef, .undef, .undef, .undef, .undef, .undef, .undef, .undef, .undef, .undef, .undef, .undef, .undef, .undef, .undef, .undef, .undef, .undef, .undef, .undef, .undef, .undef, .undef, .undef, .undef, .undef, .undef, .undef, .undef, .undef, .undef, .undef, .undef, .undef, .undef, .undef, .undef, .undef, .undef, .undef, .undef, .undef, .undef], [(1000, .own (.int .i64))]⟩), (.exit 0, ⟨[.full 1000 [] (.int .i64), .undef, .undef, .undef, .undef, .undef, .undef, .undef, .undef, .undef, .undef, .undef, .undef, .undef, .undef, .undef, .undef, .undef, .undef, .undef, .undef, .undef, .undef, .undef, .undef, .undef, .undef, .undef, .undef, .undef, .undef, .undef, .undef, .undef, .undef, .undef, .undef, .undef, .undef, .undef, .undef, .undef, .undef, .undef, .undef, .undef, .undef, .undef, .undef, .undef, .undef, .undef, .undef, .undef, .undef, .undef, .undef, .undef, .undef, .undef, .undef, .undef, .undef, .undef, .undef, .undef, .undef, .undef, .undef, .undef, .undef, .undef, .undef, .undef, .undef, .undef, .undef, .undef, .undef, .undef, .undef, .undef, .undef, .undef, .undef, .undef, .undef, .undef, .undef, .undef, .undef, .undef, .undef, .undef, .undef, .undef, .undef, .undef, .undef, .undef, .undef, .undef, .undef, .undef, .undef, .undef, .undef, .undef, .undef, .undef, .undef, .undef, .undef, .undef, .undef, .undef, .undef, .undef, .undef, .undef, .undef, .undef, .undef, .undef, .undef, .undef, .undef, .undef, .undef, .undef, .undef, .undef, .undef], [(1000, .own (.int .i64))]⟩)], fun _ ds k => dI (fun x0 ds => dI (fun x1 ds => dI (fun x2 ds => dI (fun x3 ds => dL (fun x4 ds => dE ((F x0 x1 x2 x3 x4).bind (Sum.elim (fun y => k 0 [.B y.1, .L y.2]) (fun y => k 1 [.L y]))) ds) ds) ds) ds) ds) ds⟩
theorem q_slices_partialInsertionSortOrdered_L3 (F : Int → Int → Int → Int → List D → Option ((Bool × List D) ⊕ (List D))) (x0 : Int) (x1 : Int) (x2 : Int) (x3 : Int) (x4 : List D) : runLoop (ocOf []) (olOf [m_slices_partialInsertionSortOrdered_L3 F, e_slices_partialInsertionSortOrdered_L5, e_slices_partialInsertionSortOrdered_L14, e_slices_partialInsertionSortOrdered_L20]) A 86 (codeAt (bodyOf Go.Proofs.Try.f86) 3) ((m_slices_partialInsertionSortOrdered_L3 F).sh.mk' [.I x0, .I x1, .I x2, .I x3, .L x4]) (fun e σ' => some (e, σ')) = c_slices_partialInsertionSortOrdered_L3 F x0 x1 x2 x3 x4 (Sum.elim (fun y => some (.ret, SSt.mk' ⟨[.full 1000 [] (.int .i64), .undef, .undef, .undef, .undef, .undef, .bool, .undef, .undef, .undef, .undef, .undef, .undef, .undef, .undef, .undef, .undef, .undef, .undef, .undef, .undef, .undef, .undef, .undef, .undef, .undef, .undef, .undef, .undef, .undef, .undef, .undef, .undef, .undef, .undef, .undef, .undef, .undef, .undef, .undef, .undef, .undef, .undef, .undef, .undef, .undef, .undef, .undef, .undef, .undef, .undef, .undef, .undef, .undef, .undef, .undef, .undef, .undef, .undef, .undef, .undef, .undef, .undef, .undef, .undef, .undef, .undef, .undef, .undef, .undef, .undef, .undef, .undef, .undef, .undef, .undef, .undef, .undef, .undef, .undef, .undef, .undef, .undef, .undef, .undef, .undef, .undef, .undef, .undef, .undef, .undef, .undef, .undef, .undef, .undef, .undef, .undef, .undef, .undef, .undef, .undef, .undef, .undef, .undef, .undef, .undef, .undef, .undef, .undef, .undef, .undef, .undef, .undef, .undef, .undef, .undef, .undef, .undef, .undef, .undef, .undef, .undef, .undef, .undef, .undef, .undef, .undef, .undef, .undef, .undef, .undef, .undef, .undef], [(1000, .own (.int .i64))]⟩ [.B y.1, .L y.2])) (fun y => some (.exit 0, SSt.mk' ⟨[.full 1000 [] (.int .i64), .undef, .undef, .undef, .undef, .undef, .undef, .undef, .undef, .undef, .undef, .undef, .undef, .undef, .undef, .undef, .undef, .undef, .undef, .undef, .undef, .undef, .undef, .undef, .undef, .undef, .undef, .undef, .undef, .undef, .undef, .undef, .undef, .undef, .undef, .undef, .undef, .undef, .undef, .undef, .undef, .undef, .undef, .undef, .undef, .undef, .undef, .undef, .undef, .undef, .undef, .undef, .undef, .undef, .undef, .undef, .undef, .undef, .undef, .undef, .undef, .undef, .undef, .undef, .undef, .undef, .undef, .undef, .undef, .undef, .undef, .undef, .undef, .undef, .undef, .undef, .undef, .undef, .undef, .undef, .undef, .undef, .undef, .undef, .undef, .undef, .undef, .undef, .undef, .undef, .undef, .undef, .undef, .undef, .undef, .undef, .undef, .undef, .undef, .undef, .undef, .undef, .undef, .undef, .undef, .undef, .undef, .undef, .undef, .undef, .undef, .undef, .undef, .undef, .undef, .undef, .undef, .undef, .undef, .undef, .undef, .undef, .undef, .undef, .undef, .undef, .undef, .undef, .undef, .undef, .undef, .undef, .undef], [(1000, .own (.int .i64))]⟩ [.L y]))) := by kernel_rfl
theorem m_slices_partialInsertionSortOrdered_L3_ok : ∀ n, (m_slices_partialInsertionSortOrdered_L3 (n_slices_partialInsertionSortOrdered_L3 n)).ok Go.Proofs.Try.prog (codeAt (bodyOf Go.Proofs.Try.f86) 3) := by
  intro n
  induction n with
  | zero =>
    intro R ds k r h
    unfold m_slices_partialInsertionSortOrdered_L3 at h
    obtain ⟨x0, d0, rfl, h0⟩ := dI_some h
    obtain ⟨x1, d1, rfl, h1⟩ := dI_some h0
    obtain ⟨x2, d2, rfl, h2⟩ := dI_some h1
    obtain ⟨x3, d3, rfl, h3⟩ := dI_some h2
    obtain ⟨x4, d4, rfl, h4⟩ := dL_some h3
    obtain ⟨rfl, hE⟩ := dE_some h4
    obtain ⟨y, hy, hk⟩ := bnd_some hE
    cases hy
  | succ n ih =>
    intro R ds k r h
    unfold m_slices_partialInsertionSortOrdered_L3 at h
    obtain ⟨x0, d0, rfl, h0⟩ := dI_some h
    obtain ⟨x1, d1, rfl, h1⟩ := dI_some h0
    obtain ⟨x2, d2, rfl, h2⟩ := dI_some h1
    obtain ⟨x3, d3, rfl, h3⟩ := dI_some h2
    obtain ⟨x4, d4, rfl, h4⟩ := dL_some h3
    obtain ⟨rfl, hE⟩ := dE_some h4
    obtain ⟨y, hy, hk⟩ := bnd_some hE
    have hq := q_slices_partialInsertionSortOrdered_L3 (n_slices_partialInsertionSortOrdered_L3 n) x0 x1 x2 x3 x4
    rw [c_slices_partialInsertionSortOrdered_L3_bind] at hq
    rw [show c_slices_partialInsertionSortOrdered_L3 (n_slices_partialInsertionSortOrdered_L3 n) x0 x1 x2 x3 x4 some = some y from hy] at hq
    cases y with
    | inl y =>
      refine ⟨0, _, _, _, hk, rfl, loop_ok px (fx := ⟨Go.Proofs.Try.func86, by kernel_rfl, by kernel_rfl⟩) entsOK_nil (lentsOK_cons ih (lentsOK_cons e_slices_partialInsertionSortOrdered_L5_ok (lentsOK_cons e_slices_partialInsertionSortOrdered_L14_ok (lentsOK_cons e_slices_partialInsertionSortOrdered_L20_ok lentsOK_nil)))) (by kernel_rfl) ?_⟩
      exact hq
    | inr y =>
      refine ⟨1, _, _, _, hk, rfl, loop_ok px (fx := ⟨Go.Proofs.Try.func86, by kernel_rfl, by kernel_rfl⟩) entsOK_nil (lentsOK_cons ih (lentsOK_cons e_slices_partialInsertionSortOrdered_L5_ok (lentsOK_cons e_slices_partialInsertionSortOrdered_L14_ok (lentsOK_cons e_slices_partialInsertionSortOrdered_L20_ok lentsOK_nil)))) (by kernel_rfl) ?_⟩
      exact hq
noncomputable def e_slices_partialInsertionSortOrdered_L3 : Lent := m_slices_partialInsertionSortOrdered_L3 (slices_partialInsertionSortOrdered_L3)
theorem e_slices_partialInsertionSortOrdered_L3_ok : (e_slices_partialInsertionSortOrdered_L3).ok Go.Proofs.Try.prog (codeAt (bodyOf Go.Proofs.Try.f86) 3) := by
  intro R ds k r h
  unfold e_slices_partialInsertionSortOrdered_L3 m_slices_partialInsertionSortOrdered_L3 at h
  obtain ⟨x0, d0, rfl, h0⟩ := dI_some h
  obtain ⟨x1, d1, rfl, h1⟩ := dI_some h0
  obtain ⟨x2, d2, rfl, h2⟩ := dI_some h1
  obtain ⟨x3, d3, rfl, h3⟩ := dI_some h2
  obtain ⟨x4, d4, rfl, h4⟩ := dL_some h3
  obtain ⟨rfl, hE⟩ := dE_some h4
  obtain ⟨y, hy, hk⟩ := bnd_some hE
  obtain ⟨n, hn⟩ := ev_some hy
  exact m_slices_partialInsertionSortOrdered_L3_ok n R _ k r (show (n_slices_partialInsertionSortOrdered_L3 n x0 x1 x2 x3 x4).bind _ = _ by rw [hn]; exact hk)

/-! slices.partialInsertionSortOrdered[int] -/
def c_slices_partialInsertionSortOrdered {R : Type} (x0 : List D) (x1 : Int) (x2 : Int) (k : Bool × List D → Option R) : Option R :=
 (slices_partialInsertionSortOrdered_L3 x1 x2 (Go.IntKind.i64.wrap (x1 + (1 : Int))) (0 : Int) x0).bind (Sum.elim (fun y0 =>
 k (y0.fst, y0.snd)) (fun y1 =>
 k (Bool.false, y1)))
theorem c_slices_partialInsertionSortOrdered_bind {R : Type} (x0 : List D) (x1 : Int) (x2 : Int) (k : Bool × List D → Option R) : c_slices_partialInsertionSortOrdered x0 x1 x2 k = (c_slices_partialInsertionSortOrdered x0 x1 x2 some).bind k := by
  unfold c_slices_partialInsertionSortOrdered
  repeat' first
    | exact bnd_tail
    | exact bnd_none
    | exact bnd_leaf
    | apply bnd_ite
    | apply bnd_cond
    | apply bnd_sum
    | (apply bnd_bind; intro _)
    | intro _
def slices_partialInsertionSortOrdered (x0 : List D) (x1 : Int) (x2 : Int) : Option (Bool × List D) := c_slices_partialInsertionSortOrdered x0 x1 x2 some
def e_slices_partialInsertionSortOrdered : Ent := ⟨86, [.own (.int .i64), .int .i64, .int .i64], .bool, [.own (.int .i64), .undef, .undef], fun _ ds k => dL (fun x0 ds => dI (fun x1 ds => dI (fun x2 ds => dE ((slices_partialInsertionSortOrdered x0 x1 x2).bind (fun y => k [.B y.1, .L y.2])) ds) ds) ds) ds⟩
theorem q_slices_partialInsertionSortOrdered (x0 : List D) (x1 : Int) (x2 : Int) : runFn (ocOf []) (olOf [e_slices_partialInsertionSortOrdered_L3]) A 86 Go.Proofs.Try.f86 (Sh.mks e_slices_partialInsertionSortOrdered.sh [.L x0, .I x1, .I x2]).1 (fun v os => some (v, os)) = c_slices_partialInsertionSortOrdered x0 x1 x2 (fun y => some ((e_slices_partialInsertionSortOrdered.res.mk [.B y.1, .L y.2]).1, (Sh.mks e_slices_partialInsertionSortOrdered.outs (e_slices_partialInsertionSortOrdered.res.mk [.B y.1, .L y.2]).2).1)) := by kernel_rfl
theorem e_slices_partialInsertionSortOrdered_ok : e_slices_partialInsertionSortOrdered.ok Go.Proofs.Try.prog A := by
  intro R ds k r h
  unfold e_slices_partialInsertionSortOrdered at h
  obtain ⟨x0, d0, rfl, h0⟩ := dL_some h
  obtain ⟨x1, d1, rfl, h1⟩ := dI_some h0
  obtain ⟨x2, d2, rfl, h2⟩ := dI_some h1
  obtain ⟨rfl, hE⟩ := dE_some h2
  obtain ⟨y, hy, hk⟩ := bnd_some hE
  refine ⟨_, hk, fn_ok px (fx := ⟨Go.Proofs.Try.func86, by kernel_rfl, by kernel_rfl⟩) entsOK_nil (lentsOK_cons e_slices_partialInsertionSortOrdered_L3_ok lentsOK_nil) ?_⟩
  have hq := q_slices_partialInsertionSortOrdered x0 x1 x2
  rw [c_slices_partialInsertionSortOrdered_bind] at hq
  rw [show c_slices_partialInsertionSortOrdered x0 x1 x2 some = some y from hy] at hq
  exact hq

/-! slices.partitionEqualOrdered[int], loop 3 -/
def c_slices_partitionEqualOrdered_L3 {R : Type} (F : Int → Int → Int → List D → Option (Int × Int × Int × List D)) (x0 : Int) (x1 : Int) (x2 : Int) (x3 : List D) (k : Int × Int × Int × List D → Option R) : Option R :=
 bif Decidable.decide (x1 ≤ x2) then
 if (0 : Int) ≤ x0 ∧ x0 < (↑x3.length : Int) then
 if x0.toNat + (1 : Nat) ≤ x3.length then
 if (0 : Int) ≤ x1 ∧ x1 < (↑x3.length : Int) then
 if x1.toNat + (1 : Nat) ≤ x3.length then
 (cmp_Less ((x3.getD x0.toNat (Go.Rai.D.int (0 : Int))).toInt) ((x3.getD x1.toNat (Go.Rai.D.int (0 : Int))).toInt)).bind (fun y0 =>
 bif !y0 then
 (F x0 (Go.IntKind.i64.wrap (x1 + (1 : Int))) x2 x3).bind k
 else
 k (x0, x1, x2, x3))
 else
 none
 else
 none
 else
 none
 else
 none
 else
 k (x0, x1, x2, x3)
theorem c_slices_partitionEqualOrdered_L3_bind {R : Type} (F : Int → Int → Int → List D → Option (Int × Int × Int × List D)) (x0 : Int) (x1 : Int) (x2 : Int) (x3 : List D) (k : Int × Int × Int × List D → Option R) : c_slices_partitionEqualOrdered_L3 F x0 x1 x2 x3 k = (c_slices_partitionEqualOrdered_L3 F x0 x1 x2 x3 some).bind k := by
  unfold c_slices_partitionEqualOrdered_L3
  repeat' first
    | exact bnd_tail
    | exact bnd_none
    | exact bnd_leaf
    | apply bnd_ite
    | apply bnd_cond
    | apply bnd_sum
    | (apply bnd_bind; intro _)
    | intro _
def n_slices_partitionEqualOrdered_L3 : Nat → Int → Int → Int → List D → Option (Int × Int × Int × List D)
 | 0, _, _, _, _ => none
 | n + 1, x0, x1, x2, x3 => c_slices_partitionEqualOrdered_L3 (n_slices_partitionEqualOrdered_L3 n) x0 x1 x2 x3 some
noncomputable def slices_partitionEqualOrdered_L3 (x0 : Int) (x1 : Int) (x2 : Int) (x3 : List D) : Option (Int × Int × Int × List D) := ev (fun n => n_slices_partitionEqualOrdered_L3 n x0 x1 x2 x3)
def m_slices_partitionEqualOrdered_L3 (F : Int → Int → Int → List D → Option (Int × Int × Int × List D)) : Lent := ⟨3, ⟨[.full 1000 [] (.int .i64), .int .i64, .undef, .undef, .undef, .undef, .undef, .undef, .undef, .int .i64, .int .i64, .undef, .undef, .undef, .undef, .undef, .undef, .undef, .undef, .undef, .undef, .undef, .undef, .undef, .undef, .undef, .undef, .undef, .undef, .undef, .undef, .undef, .undef, .undef, .undef, .undef, .undef, .undef, .undef, .undef, .undef, .undef, .undef, .undef, .undef, .undef, .undef, .undef, .undef, .undef, .undef, .undef, .undef, .undef, .undef, .undef, .undef, .undef, .undef, .undef, .undef, .undef, .undef, .undef, .undef, .undef, .undef, .undef, .undef, .undef, .undef, .undef, .undef, .undef, .undef, .undef, .undef, .undef, .undef, .undef, .undef, .undef, .undef, .undef], [(1000, .own (.int .i64))]⟩, [(.exit 2, ⟨[.full 1000 [] (.int .i64), .int .i64, .undef, .undef, .undef, .undef, .undef, .undef, .undef, .int .i64, .int .i64, .undef, .undef, .undef, .undef, .undef, .undef, .undef, .undef, .undef, .undef, .undef, .undef, .undef, .undef, .undef, .undef, .undef, .undef, .undef, .undef, .undef, .undef, .undef, .undef, .undef, .undef, .undef, .undef, .undef, .undef, .undef, .undef, .undef, .undef, .undef, .undef, .undef, .undef, .undef, .undef, .undef, .undef, .undef, .undef, .undef, .undef, .undef, .undef, .undef, .undef, .undef, .undef, .undef, .undef, .undef, .undef, .undef, .undef, .undef, .undef, .undef, .undef, .undef, .undef, .undef, .undef, .undef, .undef, .undef, .undef, .undef, .undef, .undef], [(1000, .own (.int .i64))]⟩)], fun _ ds k => dI (fun x0 ds => dI (fun x1 ds => dI (fun x2 ds => dL (fun x3 ds => dE ((F x0 x1 x2 x3).bind (fun y => k 0 [.I y.1, .I y.2.1, .I y.2.2.1, .L y.2.2.2])) ds) ds) ds) ds) ds⟩
theorem q_slices_partitionEqualOrdered_L3 (F : Int → Int → Int → List D → Option (Int × Int × Int × List D)) (x0 : Int) (x1 : Int) (x2 : Int) (x3 : List D) : runLoop (ocOf [e_cmp_Less]) (olOf [m_slices_partitionEqualOrdered_L3 F]) A 88 (codeAt (bodyOf Go.Proofs.Try.f88) 3) ((m_slices_partitionEqualOrdered_L3 F).sh.mk' [.I x0, .I x1, .I x2, .L x3]) (fun e σ' => some (e, σ')) = c_slices_partitionEqualOrdered_L3 F x0 x1 x2 x3 (fun y => some (.exit 2, SSt.mk' ⟨[.full 1000 [] (.int .i64), .int .i64, .undef, .undef, .undef, .undef, .undef, .undef, .undef, .int .i64, .int .i64, .undef, .undef, .undef, .undef, .undef, .undef, .undef, .undef, .undef, .undef, .undef, .undef, .undef, .undef, .undef, .undef, .undef, .undef, .undef, .undef, .undef, .undef, .undef, .undef, .undef, .undef, .undef, .undef, .undef, .undef, .undef, .undef, .undef, .undef, .undef, .undef, .undef, .undef, .undef, .undef, .undef, .undef, .undef, .undef, .undef, .undef, .undef, .undef, .undef, .undef, .undef, .undef, .undef, .undef, .undef, .undef, .undef, .undef, .undef, .undef, .undef, .undef, .undef, .undef, .undef, .undef, .undef, .undef, .undef, .undef, .undef, .undef, .undef], [(1000, .own (.int .i64))]⟩ [.I y.1, .I y.2.1, .I y.2.2.1, .L y.2.2.2])) := by kernel_rfl
theorem m_slices_partitionEqualOrdered_L3_ok : ∀ n, (m_slices_partitionEqualOrdered_L3 (n_slices_partitionEqualOrdered_L3 n)).ok Go.Proofs.Try.prog (codeAt (bodyOf Go.Proofs.Try.f88) 3) := by
  intro n
  induction n with
  | zero =>
    intro R ds k r h
    unfold m_slices_partitionEqualOrdered_L3 at h
    obtain ⟨x0, d0, rfl, h0⟩ := dI_some h
    obtain ⟨x1, d1, rfl, h1⟩ := dI_some h0
    obtain ⟨x2, d2, rfl, h2⟩ := dI_some h1
    obtain ⟨x3, d3, rfl, h3⟩ := dL_some h2
    obtain ⟨rfl, hE⟩ := dE_some h3
    obtain ⟨y, hy, hk⟩ := bnd_some hE
    cases hy
  | succ n ih =>
    intro R ds k r h
    unfold m_slices_partitionEqualOrdered_L3 at h
    obtain ⟨x0, d0, rfl, h0⟩ := dI_some h
    obtain ⟨x1, d1, rfl, h1⟩ := dI_some h0
    obtain ⟨x2, d2, rfl, h2⟩ := dI_some h1
    obtain ⟨x3, d3, rfl, h3⟩ := dL_some h2
    obtain ⟨rfl, hE⟩ := dE_some h3
    obtain ⟨y, hy, hk⟩ := bnd_some hE
    have hq := q_slices_partitionEqualOrdered_L3 (n_slices_partitionEqualOrdered_L3 n) x0 x1 x2 x3
    rw [c_slices_partitionEqualOrdered_L3_bind] at hq
    rw [show c_slices_partitionEqualOrdered_L3 (n_slices_partitionEqualOrdered_L3 n) x0 x1 x2 x3 some = some y from hy] at hq
    refine ⟨0, _, _, _, hk, rfl, loop_ok px (fx := ⟨Go.Proofs.Try.func88, by kernel_rfl, by kernel_rfl⟩) (entsOK_cons e_cmp_Less_ok entsOK_nil) (lentsOK_cons ih lentsOK_nil) (by kernel_rfl) ?_⟩
    exact hq
noncomputable def e_slices_partitionEqualOrdered_L3 : Lent := m_slices_partitionEqualOrdered_L3 (slices_partitionEqualOrdered_L3)
theorem e_slices_partitionEqualOrdered_L3_ok : (e_slices_partitionEqualOrdered_L3).ok Go.Proofs.Try.prog (codeAt (bodyOf Go.Proofs.Try.f88) 3) := by
  intro R ds k r h
  unfold e_slices_partitionEqualOrdered_L3 m_slices_partitionEqualOrdered_L3 at h
  obtain ⟨x0, d0, rfl, h0⟩ := dI_some h
  obtain ⟨x1, d1, rfl, h1⟩ := dI_some h0
  obtain ⟨x2, d2, rfl, h2⟩ := dI_some h1
  obtain ⟨x3, d3, rfl, h3⟩ := dL_some h2
  obtain ⟨rfl, hE⟩ := dE_some h3
  obtain ⟨y, hy, hk⟩ := bnd_some hE
  obtain ⟨n, hn⟩ := ev_some hy
  exact m_slices_partitionEqualOrdered_L3_ok n R _ k r (show (n_slices_partitionEqualOrdered_L3 n x0 x1 x2 x3).bind _ = _ by rw [hn]; exact hk)

/-! slices.partitionEqualOrdered[int], loop 5 -/
def c_slices_partitionEqualOrdered_L5 {R : Type} (F : Int → Int → Int → List D → Option (Int × Int × Int × List D)) (x0 : Int) (x1 : Int) (x2 : Int) (x3 : List D) (k : Int × Int × Int × List D → Option R) : Option R :=
 bif Decidable.decide (x1 ≤ x2) then
 if (0 : Int) ≤ x0 ∧ x0 < (↑x3.length : Int) then
 if x0.toNat + (1 : Nat) ≤ x3.length then
 if (0 : Int) ≤ x2 ∧ x2 < (↑x3.length : Int) then
 if x2.toNat + (1 : Nat) ≤ x3.length then
 (cmp_Less ((x3.getD x0.toNat (Go.Rai.D.int (0 : Int))).toInt) ((x3.getD x2.toNat (Go.Rai.D.int (0 : Int))).toInt)).bind (fun y0 =>
 bif y0 then
 (F x0 x1 (Go.IntKind.i64.wrap (x2 - (1 : Int))) x3).bind k
 else
 k (x0, x1, x2, x3))
 else
 none
 else
 none
 else
 none
 else
 none
 else
 k (x0, x1, x2, x3)
theorem c_slices_partitionEqualOrdered_L5_bind {R : Type} (F : Int → Int → Int → List D → Option (Int × Int × Int × List D)) (x0 : Int) (x1 : Int) (x2 : Int) (x3 : List D) (k : Int × Int × Int × List D → Option R) : c_slices_partitionEqualOrdered_L5 F x0 x1 x2 x3 k = (c_slices_partitionEqualOrdered_L5 F x0 x1 x2 x3 some).bind k := by
  unfold c_slices_partitionEqualOrdered_L5
  repeat' first
    | exact bnd_tail
    | exact bnd_none
    | exact bnd_leaf
    | apply bnd_ite
    | apply bnd_cond
    | apply bnd_sum
    | (apply bnd_bind; intro _)
    | intro _
def n_slices_partitionEqualOrdered_L5 : Nat → Int → Int → Int → List D → Option (Int × Int × Int × List D)
 | 0, _, _, _, _ => none
 | n + 1, x0, x1, x2, x3 => c_slices_partitionEqualOrdered_L5 (n_slices_partitionEqualOrdered_L5 n) x0 x1 x2 x3 some
noncomputable def slices_partitionEqualOrdered_L5 (x0 : Int) (x1 : Int) (x2 : Int) (x3 : List D) : Option (Int × Int × Int × List D) := ev (fun n => n_slices_partitionEqualOrdered_L5 n x0 x1 x2 x3)
def m_slices_partitionEqualOrdered_L5 (F : Int → Int → Int → List D → Option (Int × Int × Int × List D)) : Lent := ⟨5, ⟨[.full 1000 [] (.int .i64), .int .i64, .undef, .undef, .undef, .undef, .undef, .undef, .undef, .int .i64, .int .i64, .undef, .undef, .undef, .undef, .undef, .undef, .undef, .undef, .undef, .undef, .undef, .undef, .undef, .undef, .undef, .undef, .undef, .undef, .undef, .undef, .undef, .undef, .undef, .undef, .undef, .undef, .undef, .undef, .undef, .undef, .undef, .undef, .undef, .undef, .undef, .undef, .undef, .undef, .undef, .undef, .undef, .undef, .undef, .undef, .undef, .undef, .undef, .undef, .undef, .undef, .undef, .undef, .undef, .undef, .undef, .undef, .undef, .undef, .undef, .undef, .undef, .undef, .undef, .undef, .undef, .undef, .undef, .undef, .undef, .undef, .undef, .undef, .undef], [(1000, .own (.int .i64))]⟩, [(.exit 4, ⟨[.full 1000 [] (.int .i64), .int .i64, .undef, .undef, .undef, .undef, .undef, .undef, .undef, .int .i64, .int .i64, .undef, .undef, .undef, .undef, .undef, .undef, .undef, .undef, .undef, .undef, .undef, .undef, .undef, .undef, .undef, .undef, .undef, .undef, .undef, .undef, .undef, .undef, .undef, .undef, .undef, .undef, .undef, .undef, .undef, .undef, .undef, .undef, .undef, .undef, .undef, .undef, .undef, .undef, .undef, .undef, .undef, .undef, .undef, .undef, .undef, .undef, .undef, .undef, .undef, .undef, .undef, .undef, .undef, .undef, .undef, .undef, .undef, .undef, .undef, .undef, .undef, .undef, .undef, .undef, .undef, .undef, .undef, .undef, .undef, .undef, .undef, .undef, .undef], [(1000, .own (.int .i64))]⟩)], fun _ ds k => dI (fun x0 ds => dI (fun x1 ds => dI (fun x2 ds => dL (fun x3 ds => dE ((F x0 x1 x2 x3).bind (fun y => k 0 [.I y.1, .I y.2.1, .I y.2.2.1, .L y.2.2.2])) ds) ds) ds) ds) ds⟩
theorem q_slices_partitionEqualOrdered_L5 (F : Int → Int → Int → List D → Option (Int × Int × Int × List D)) (x0 : Int) (x1 : Int) (x2 : Int) (x3 : List D) : runLoop (ocOf [e_cmp_Less]) (olOf [m_slices_partitionEqualOrdered_L5 F]) A 88 (codeAt (bodyOf Go.Proofs.Try.f88) 5) ((m_slices_partitionEqualOrdered_L5 F).sh.mk' [.I x0, .I x1, .I x2, .L x3]) (fun e σ' => some (e, σ')) = c_slices_partitionEqualOrdered_L5 F x0 x1 x2 x3 (fun y => some (.exit 4, SSt.mk' ⟨[.full 1000 [] (.int .i64), .int .i64, .undef, .undef, .undef, .undef, .undef, .undef, .undef, .int .i64, .int .i64, .undef, .undef, .undef, .undef, .undef, .undef, .undef, .undef, .undef, .undef, .undef, .undef, .undef, .undef, .undef, .undef, .undef, .undef, .undef, .undef, .undef, .undef, .undef, .undef, .undef, .undef, .undef, .undef, .undef, .undef, .undef, .undef, .undef, .undef, .undef, .undef, .undef, .undef, .undef, .undef, .undef, .undef, .undef, .undef, .undef, .undef, .undef, .undef, .undef, .undef, .undef, .undef, .undef, .undef, .undef, .undef, .undef, .undef, .undef, .undef, .undef, .undef, .undef, .undef, .undef, .undef, .undef, .undef, .undef, .undef, .undef, .undef, .undef], [(1000, .own (.int .i64))]⟩ [.I y.1, .I y.2.1, .I y.2.2.1, .L y.2.2.2])) := by kernel_rfl
theorem m_slices_partitionEqualOrdered_L5_ok : ∀ n, (m_slices_partitionEqualOrdered_L5 (n_slices_partitionEqualOrdered_L5 n)).ok Go.Proofs.Try.prog (codeAt (bodyOf Go.Proofs.Try.f88) 5) := by
  intro n
  induction n with
  | zero =>
    intro R ds k r h
    unfold m_slices_partitionEqualOrdered_L5 at h
    obtain ⟨x0, d0, rfl, h0⟩ := dI_some h
    obtain ⟨x1, d1, rfl, h1⟩ := dI_some h0
    obtain ⟨x2, d2, rfl, h2⟩ := dI_some h1
    obtain ⟨x3, d3, rfl, h3⟩ := dL_some h2
    obtain ⟨rfl, hE⟩ := dE_some h3
    obtain ⟨y, hy, hk⟩ := bnd_some hE
    cases hy
  | succ n ih =>
    intro R ds k r h
    unfold m_slices_partitionEqualOrdered_L5 at h
    obtain ⟨x0, d0, rfl, h0⟩ := dI_some h
    obtain ⟨x1, d1, rfl, h1⟩ := dI_some h0
    obtain ⟨x2, d2, rfl, h2⟩ := dI_some h1
    obtain ⟨x3, d3, rfl, h3⟩ := dL_some h2
    obtain ⟨rfl, hE⟩ := dE_some h3
    obtain ⟨y, hy, hk⟩ := bnd_some hE
    have hq := q_slices_partitionEqualOrdered_L5 (n_slices_partitionEqualOrdered_L5 n) x0 x1 x2 x3
    rw [c_slices_partitionEqualOrdered_L5_bind] at hq
    rw [show c_slices_partitionEqualOrdered_L5 (n_slices_partitionEqualOrdered_L5 n) x0 x1 x2 x3 some = some y from hy] at hq
    refine ⟨0, _, _, _, hk, rfl, loop_ok px (fx := ⟨Go.Proofs.Try.func88, by kernel_rfl, by kernel_rfl⟩) (entsOK_cons e_cmp_Less_ok entsOK_nil) (lentsOK_cons ih lentsOK_nil) (by kernel_rfl) ?_⟩
    exact hq
noncomputable def e_slices_partitionEqualOrdered_L5 : Lent := m_slices_partitionEqualOrdered_L5 (slices_partitionEqualOrdered_L5)
theorem e_slices_partitionEqualOrdered_L5_ok : (e_slices_partitionEqualOrdered_L5).ok Go.Proofs.Try.prog (codeAt (bodyOf Go.Proofs.Try.f88) 5) := by
  intro R ds k r h
  unfold e_slices_partitionEqualOrdered_L5 m_slices_partitionEqualOrdered_L5 at h
  obtain ⟨x0, d0, rfl, h0⟩ := dI_some h
  obtain ⟨x1, d1, rfl, h1⟩ := dI_some h0
  obtain ⟨x2, d2, rfl, h2⟩ := dI_some h1
  obtain ⟨x3, d3, rfl, h3⟩ := dL_some h2
  obtain ⟨rfl, hE⟩ := dE_some h3
  obtain ⟨y, hy, hk⟩ := bnd_some hE
  obtain ⟨n, hn⟩ := ev_some hy
  exact m_slices_partitionEqualOrdered_L5_ok n R _ k r (show (n_slices_partitionEqualOrdered_L5 n x0 x1 x2 x3).bind _ = _ by rw [hn]; exact hk)

/-! slices.partitionEqualOrdered[int], loop 100003 -/
def c_slices_partitionEqualOrdered_L100003 {R : Type} (F : Int → Int → Int → List D → Option (Int × List D)) (x0 : Int) (x1 : Int) (x2 : Int) (x3 : List D) (k : Int × List D → Option R) : Option R :=
 (slices_partitionEqualOrdered_L3 x0 x1 x2 x3).bind (fun y0 =>
 (slices_partitionEqualOrdered_L5 y0.fst y0.snd.fst y0.snd.snd.fst y0.snd.snd.snd).bind (fun y1 =>
 bif Decidable.decide (y1.snd.snd.fst < y1.snd.fst) then
 k (y1.snd.fst, y1.snd.snd.snd)
 else
 if (0 : Int) ≤ y1.snd.snd.fst ∧ y1.snd.snd.fst < (↑y1.snd.snd.snd.length : Int) then
 if y1.snd.snd.fst.toNat + (1 : Nat) ≤ y1.snd.snd.snd.length then
 if (0 : Int) ≤ y1.snd.fst ∧ y1.snd.fst < (↑y1.snd.snd.snd.length : Int) then
 if y1.snd.fst.toNat + (1 : Nat) ≤ y1.snd.snd.snd.length then
 if (0 : Int) ≤ y1.snd.fst ∧ y1.snd.fst < (↑y1.snd.snd.snd.length : Int) then
 if y1.snd.fst.toNat + (1 : Nat) ≤ y1.snd.snd.snd.length then
 if (0 : Int) ≤ y1.snd.snd.fst ∧ y1.snd.snd.fst < (↑(y1.snd.snd.snd.set y1.snd.fst.toNat (Go.Rai.D.int (y1.snd.snd.snd.getD y1.snd.snd.fst.toNat (Go.Rai.D.int (0 : Int))).toInt)).length : Int) then
 if y1.snd.snd.fst.toNat + (1 : Nat) ≤ (y1.snd.snd.snd.set y1.snd.fst.toNat (Go.Rai.D.int (y1.snd.snd.snd.getD y1.snd.snd.fst.toNat (Go.Rai.D.int (0 : Int))).toInt)).length then
 (F y1.fst (Go.IntKind.i64.wrap (y1.snd.fst + (1 : Int))) (Go.IntKind.i64.wrap (y1.snd.snd.fst - (1 : Int))) ((y1.snd.snd.snd.set y1.snd.fst.toNat (Go.Rai.D.int (y1.snd.snd.snd.getD y1.snd.snd.fst.toNat (Go.Rai.D.int (0 : Int))).toInt)).set y1.snd.snd.fst.toNat (Go.Rai.D.int (y1.snd.snd.snd.getD y1.snd.fst.toNat (Go.Rai.D.int (0 : Int))).toInt))).bind k
 else
 none
 else
 none
 else
 none
 else
 none
 else
 none
 else
 none
 else
 none
 else
 none))
theorem c_slices_partitionEqualOrdered_L100003_bind {R : Type} (F : Int → Int → Int → List D → Option (Int × List D)) (x0 : Int) (x1 : Int) (x2 : Int) (x3 : List D) (k : Int × List D → Option R) : c_slices_partitionEqualOrdered_L100003 F x0 x1 x2 x3 k = (c_slices_partitionEqualOrdered_L100003 F x0 x1 x2 x3 some).bind k := by
  unfold c_slices_partitionEqualOrdered_L100003
  repeat' first
    | exact bnd_tail
    | exact bnd_none
    | exact bnd_leaf
    | apply bnd_ite
    | apply bnd_cond
    | apply bnd_sum
    | (apply bnd_bind; intro _)
    | intro _
def n_slices_partitionEqualOrdered_L100003 : Nat → Int → Int → Int → List D → Option (Int × List D)
 | 0, _, _, _, _ => none
 | n + 1, x0, x1, x2, x3 => c_slices_partitionEqualOrdered_L100003 (n_slices_partitionEqualOrdered_L100003 n) x0 x1 x2 x3 some
noncomputable def slices_partitionEqualOrdered_L100003 (x0 : Int) (x1 : Int) (x2 : Int) (x3 : List D) : Option (Int × List D) := ev (fun n => n_slices_partitionEqualOrdered_L100003 n x0 x1 x2 x3)
def m_slices_partitionEqualOrdered_L100003 (F : Int → Int → Int → List D → Option (Int × List D)) : Lent := ⟨100003, ⟨[.full 1000 [] (.int .i64), .int .i64, .undef, .undef, .undef, .undef, .undef, .undef, .undef, .int .i64, .int .i64, .undef, .undef, .undef, .undef, .undef, .undef, .undef, .undef, .undef, .undef, .undef, .undef, .undef, .undef, .undef, .undef, .undef, .undef, .undef, .undef, .undef, .undef, .undef, .undef, .undef, .undef, .undef, .undef, .undef, .undef, .undef, .undef, .undef, .undef, .undef, .undef, .undef, .undef, .undef, .undef, .undef, .undef, .undef, .undef, .undef, .undef, .undef, .undef, .undef, .undef, .undef, .undef, .undef, .undef, .undef, .undef, .undef, .undef, .undef, .undef, .undef, .undef, .undef, .undef, .undef, .undef, .undef, .undef, .undef, .undef, .undef, .undef, .undef], [(1000, .own (.int .i64))]⟩, [(.exit 0, ⟨[.full 1000 [] (.int .i64), .undef, .undef, .undef, .undef, .undef, .undef, .undef, .undef, .int .i64, .undef, .undef, .undef, .undef, .undef, .undef, .undef, .undef, .undef, .undef, .undef, .undef, .undef, .undef, .undef, .undef, .undef, .undef, .undef, .undef, .undef, .undef, .undef, .undef, .undef, .undef, .undef, .undef, .undef, .undef, .undef, .undef, .undef, .undef, .undef, .undef, .undef, .undef, .undef, .undef, .undef, .undef, .undef, .undef, .undef, .undef, .undef, .undef, .undef, .undef, .undef, .undef, .undef, .undef, .undef, .undef, .undef, .undef, .undef, .undef, .undef, .undef, .undef, .undef, .undef, .undef, .undef, .undef, .undef, .undef, .undef, .undef, .undef, .undef], [(1000, .own (.int .i64))]⟩)], fun _ ds k => dI (fun x0 ds => dI (fun x1 ds => dI (fun x2 ds => dL (fun x3 ds => dE ((F x0 x1 x2 x3).bind (fun y => k 0 [.I y.1, .L y.2])) ds) ds) ds) ds) ds⟩
theorem q_slices_partitionEqualOrdered_L100003 (F : Int → Int → Int → List D → Option (Int × List D)) (x0 : Int) (x1 : Int) (x2 : Int) (x3 : List D) : runLoop (ocOf []) (olOf [m_slices_partitionEqualOrdered_L100003 F, e_slices_partitionEqualOrdered_L3, e_slices_partitionEqualOrdered_L5]) A 88 (codeAt (bodyOf Go.Proofs.Try.f88) 100003) ((m_slices_partitionEqualOrdered_L100003 F).sh.mk' [.I x0, .I x1, .I x2, .L x3]) (fun e σ' => some (e, σ')) = c_slices_partitionEqualOrdered_L100003 F x0 x1 x2 x3 (fun y => some (.exit 0, SSt.mk' ⟨[.full 1000 [] (.int .i64), .undef, .undef, .undef, .undef, .undef, .undef, .undef, .undef, .int .i64, .undef, .undef, .undef, .undef, .undef, .undef, .undef, .undef, .undef, .undef, .undef, .undef, .undef, .undef, .undef, .undef, .undef, .undef, .undef, .undef, .undef, .undef, .undef, .undef, .undef, .undef, .undef, .undef, .undef, .undef, .undef, .undef, .undef, .undef, .undef, .undef, .undef, .undef, .undef, .undef, .undef, .undef, .undef, .undef, .undef, .undef, .undef, .undef, .undef, .undef, .undef, .undef, .undef, .undef, .undef, .undef, .undef, .undef, .undef, .undef, .undef, .undef, .undef, .undef, .undef, .undef, .undef, .undef, .undef, .undef, .undef, .undef, .undef, .undef], [(1000, .own (.int .i64))]⟩ [.I y.1, .L y.2])) := by kernel_rfl
theorem m_slices_partitionEqualOrdered_L100003_ok : ∀ n, (m_slices_partitionEqualOrdered_L100003 (n_slices_partitionEqualOrdered_L100003 n)).ok Go.Proofs.Try.prog (codeAt (bodyOf Go.Proofs.Try.f88) 100003) := by
  intro n
  induction n with
  | zero =>
    intro R ds k r h
    unfold m_slices_partitionEqualOrdered_L100003 at h
    obtain ⟨x0, d0, rfl, h0⟩ := dI_some h
    obtain ⟨x1, d1, rfl, h1⟩ := dI_some h0
    obtain ⟨x2, d2, rfl, h2⟩ := dI_some h1
    obtain ⟨x3, d3, rfl, h3⟩ := dL_some h2
    obtain ⟨rfl, hE⟩ := dE_some h3
    obtain ⟨y, hy, hk⟩ := bnd_some hE
    cases hy
  | succ n ih =>
    intro R ds k r h
    unfold m_slices_partitionEqualOrdered_L100003 at h
    obtain ⟨x0, d0, rfl, h0⟩ := dI_some h
    obtain ⟨x1, d1, rfl, h1⟩ := dI_some h0
    obtain ⟨x2, d2, rfl, h2⟩ := dI_some h1
    obtain ⟨x3, d3, rfl, h3⟩ := dL_some h2
    obtain ⟨rfl, hE⟩ := dE_some h3
    obtain ⟨y, hy, hk⟩ := bnd_some hE
    have hq := q_slices_partitionEqualOrdered_L100003 (n_slices_partitionEqualOrdered_L100003 n) x0 x1 x2 x3
    rw [c_slices_partitionEqualOrdered_L100003_bind] at hq
    rw [show c_slices_partitionEqualOrdered_L100003 (n_slices_partitionEqualOrdered_L100003 n) x0 x1 x2 x3 some = some y from hy] at hq
    refine ⟨0, _, _, _, hk, rfl, loop_ok px (fx := ⟨Go.Proofs.Try.func88, by kernel_rfl, by kernel_rfl⟩) entsOK_nil (lentsOK_cons ih (lentsOK_cons e_slices_partitionEqualOrdered_L3_ok (lentsOK_cons e_slices_partitionEqualOrdered_L5_ok lentsOK_nil))) (by kernel_rfl) ?_⟩
    exact hq
noncomputable def e_slices_partitionEqualOrdered_L100003 : Lent := m_slices_partitionEqualOrdered_L100003 (slices_partitionEqualOrdered_L100003)
theorem e_slices_partitionEqualOrdered_L100003_ok : (e_slices_partitionEqualOrdered_L100003).ok Go.Proofs.Try.prog (codeAt (bodyOf Go.Proofs.Try.f88) 100003) := by
  intro R ds k r h
  unfold e_slices_partitionEqualOrdered_L100003 m_slices_partitionEqualOrdered_L100003 at h
  obtain ⟨x0, d0, rfl, h0⟩ := dI_some h
  obtain ⟨x1, d1, rfl, h1⟩ := dI_some h0
  obtain ⟨x2, d2, rfl, h2⟩ := dI_some h1
  obtain ⟨x3, d3, rfl, h3⟩ := dL_some h2
  obtain ⟨rfl, hE⟩ := dE_some h3
  obtain ⟨y, hy, hk⟩ := bnd_some hE
  obtain ⟨n, hn⟩ := ev_some hy
  exact m_slices_partitionEqualOrdered_L100003_ok n R _ k r (show (n_slices_partitionEqualOrdered_L100003 n x0 x1 x2 x3).bind _ = _ by rw [hn]; exact hk)

/-! slices.partitionEqualOrdered[int] -/
def c_slices_partitionEqualOrdered {R : Type} (x0 : List D) (x1 : Int) (x2 : Int) (x3 : Int) (k : Int × List D → Option R) : Option R :=
 if (0 : Int) ≤ x3 ∧ x3 < (↑x0.length : Int) then
 if x3.toNat + (1 : Nat) ≤ x0.length then
 if (0 : Int) ≤ x1 ∧ x1 < (↑x0.length : Int) then
 if x1.toNat + (1 : Nat) ≤ x0.length then
 if (0 : Int) ≤ x1 ∧ x1 < (↑x0.length : Int) then
 if x1.toNat + (1 : Nat) ≤ x0.length then
 if (0 : Int) ≤ x3 ∧ x3 < (↑(x0.set x1.toNat (Go.Rai.D.int (x0.getD x3.toNat (Go.Rai.D.int (0 : Int))).toInt)).length : Int) then
 if x3.toNat + (1 : Nat) ≤ (x0.set x1.toNat (Go.Rai.D.int (x0.getD x3.toNat (Go.Rai.D.int (0 : Int))).toInt)).length then
 (slices_partitionEqualOrdered_L100003 x1 (Go.IntKind.i64.wrap (x1 + (1 : Int))) (Go.IntKind.i64.wrap (x2 - (1 : Int))) ((x0.set x1.toNat (Go.Rai.D.int (x0.getD x3.toNat (Go.Rai.D.int (0 : Int))).toInt)).set x3.toNat (Go.Rai.D.int (x0.getD x1.toNat (Go.Rai.D.int (0 : Int))).toInt))).bind (fun y0 =>
 k (y0.fst, y0.snd))
 else
 none
 else
 none
 else
 none
 else
 none
 else
 none
 else
 none
 else
 none
 else
 none
theorem c_slices_partitionEqualOrdered_bind {R : Type} (x0 : List D) (x1 : Int) (x2 : Int) (x3 : Int) (k : Int × List D → Option R) : c_slices_partitionEqualOrdered x0 x1 x2 x3 k = (c_slices_partitionEqualOrdered x0 x1 x2 x3 some).bind k := by
  unfold c_slices_partitionEqualOrdered
  repeat' first
    | exact bnd_tail
    | exact bnd_none
    | exact bnd_leaf
    | apply bnd_ite
    | apply bnd_cond
    | apply bnd_sum
    | (apply bnd_bind; intro _)
    | intro _
def slices_partitionEqualOrdered (x0 : List D) (x1 : Int) (x2 : Int) (x3 : Int) : Option (Int × List D) := c_slices_partitionEqualOrdered x0 x1 x2 x3 some
def e_slices_partitionEqualOrdered : Ent := ⟨88, [.own (.int .i64), .int .i64, .int .i64, .int .i64], .int .i64, [.own (.int .i64), .undef, .undef, .undef], fun _ ds k => dL (fun x0 ds => dI (fun x1 ds => dI (fun x2 ds => dI (fun x3 ds => dE ((slices_partitionEqualOrdered x0 x1 x2 x3).bind (fun y => k [.I y.1, .L y.2])) ds) ds) ds) ds) ds⟩
theorem q_slices_partitionEqualOrdered (x0 : List D) (x1 : Int) (x2 : Int) (x3 : Int) : runFn (ocOf []) (olOf [e_slices_partitionEqualOrdered_L100003]) A 88 Go.Proofs.Try.f88 (Sh.mks e_slices_partitionEqualOrdered.sh [.L x0, .I x1, .I x2, .I x3]).1 (fun v os => some (v, os)) = c_slices_partitionEqualOrdered x0 x1 x2 x3 (fun y => some ((e_slices_partitionEqualOrdered.res.mk [.I y.1, .L y.2]).1, (Sh.mks e_slices_partitionEqualOrdered.outs (e_slices_partitionEqualOrdered.res.mk [.I y.1, .L y.2]).2).1)) := by kernel_rfl
theorem e_slices_partitionEqualOrdered_ok : e_slices_partitionEqualOrdered.ok Go.Proofs.Try.prog A := by
  intro R ds k r h
  unfold e_slices_partitionEqualOrdered at h
  obtain ⟨x0, d0, rfl, h0⟩ := dL_some h
  obtain ⟨x1, d1, rfl, h1⟩ := dI_some h0
  obtain ⟨x2, d2, rfl, h2⟩ := dI_some h1
  obtain ⟨x3, d3, rfl, h3⟩ := dI_some h2
  obtain ⟨rfl, hE⟩ := dE_some h3
  obtain ⟨y, hy, hk⟩ := bnd_some hE
  refine ⟨_, hk, fn_ok px (fx := ⟨Go.Proofs.Try.func88, by kernel_rfl, by kernel_rfl⟩) entsOK_nil (lentsOK_cons e_slices_partitionEqualOrdered_L100003_ok lentsOK_nil) ?_⟩
  have hq := q_slices_partitionEqualOrdered x0 x1 x2 x3
  rw [c_slices_partitionEqualOrdered_bind] at hq
  rw [show c_slices_partitionEqualOrdered x0 x1 x2 x3 some = some y from hy] at hq
  exact hq

/-! slices.partitionOrdered[int], loop 3 -/
def c_slices_partitionOrdered_L3 {R : Type} (F : Int → Int → Int → List D → Option (Int × Int × Int × List D)) (x0 : Int) (x1 : Int) (x2 : Int) (x3 : List D) (k : Int × Int × Int × List D → Option R) : Option R :=
 bif Decidable.decide (x1 ≤ x2) then
 if (0 : Int) ≤ x1 ∧ x1 < (↑x3.length : Int) then
 if x1.toNat + (1 : Nat) ≤ x3.length then
 if (0 : Int) ≤ x0 ∧ x0 < (↑x3.length : Int) then
 if x0.toNat + (1 : Nat) ≤ x3.length then
 (cmp_Less ((x3.getD x1.toNat (Go.Rai.D.int (0 : Int))).toInt) ((x3.getD x0.toNat (Go.Rai.D.int (0 : Int))).toInt)).bind (fun y0 =>
 bif y0 then
 (F x0 (Go.IntKind.i64.wrap (x1 + (1 : Int))) x2 x3).bind k
 else
 k (x0, x1, x2, x3))
 else
 none
 else
 none
 else
 none
 else
 none
 else
 k (x0, x1, x2, x3)
theorem c_slices_partitionOrdered_L3_bind {R : Type} (F : Int → Int → Int → List D → Option (Int × Int × Int × List D)) (x0 : Int) (x1 : Int) (x2 : Int) (x3 : List D) (k : Int × Int × Int × List D → Option R) : c_slices_partitionOrdered_L3 F x0 x1 x2 x3 k = (c_slices_partitionOrdered_L3 F x0 x1 x2 x3 some).bind k := by
  unfold c_slices_partitionOrdered_L3
  repeat' first
    | exact bnd_tail
    | exact bnd_none
    | exact bnd_leaf
    | apply bnd_ite
    | apply bnd_cond
    | apply bnd_sum
    | (apply bnd_bind; intro _)
    | intro _
def n_slices_partitionOrdered_L3 : Nat → Int → Int → Int → List D → Option (Int × Int × Int × List D)
 | 0, _, _, _, _ => none
 | n + 1, x0, x1, x2, x3 => c_slices_partitionOrdered_L3 (n_slices_partitionOrdered_L3 n) x0 x1 x2 x3 some
noncomputable def slices_partitionOrdered_L3 (x0 : Int) (x1 : Int) (x2 : Int) (x3 : List D) : Option (Int × Int × Int × List D) := ev (fun n => n_slices_partitionOrdered_L3 n x0 x1 x2 x3)
def m_slices_partitionOrdered_L3 (F : Int → Int → Int → List D → Option (Int × Int × Int × List D)) : Lent := ⟨3, ⟨[.full 1000 [] (.int .i64), .int .i64, .undef, .undef, .undef, .undef, .undef, .undef, .undef, .undef, .int .i64, .int .i64, .undef, .undef, .undef, .undef, .undef, .undef, .undef, .undef, .undef, .undef, .undef, .undef, .undef, .undef, .undef, .undef, .undef, .undef, .undef, .undef, .undef, .undef, .undef, .undef, .undef, .undef, .undef, .undef, .undef, .undef, .undef, .undef, .undef, .undef, .undef, .undef, .undef, .undef, .undef, .undef, .undef, .undef, .undef, .undef, .undef, .undef, .undef, .undef, .undef, .undef, .undef, .undef, .undef, .undef, .undef, .undef, .undef, .undef, .undef, .undef, .undef, .undef, .undef, .undef, .undef, .undef, .undef, .undef, .undef, .undef, .undef, .undef, .undef, .undef, .undef, .undef, .undef, .undef, .undef, .undef, .undef, .undef, .undef, .undef, .undef, .undef, .undef, .undef, .undef, .undef, .undef, .undef, .undef, .undef, .undef, .undef, .undef, .undef, .undef, .undef, .undef, .undef, .undef, .undef, .undef, .undef, .undef, .undef, .undef, .undef, .undef, .undef, .undef, .undef, .undef, .undef, .undef, .undef, .undef, .undef, .undef, .undef, .undef, .undef, .undef, .undef, .undef, .undef, .undef, .undef, .undef, .undef, .undef, .undef, .undef, .undef, .undef, .undef, .undef, .undef, .undef, .undef, .undef, .undef, .undef, .undef, .undef, .undef, .undef, .undef, .undef, .undef, .undef, .undef, .undef, .undef], [(1000, .own (.int .i64))]⟩, [(.exit 0, ⟨[.full 1000 [] (.int .i64), .int .i64, .undef, .undef, .undef, .undef, .undef, .undef, .undef, .undef, .int .i64, .int .i64, .undef, .undef, .undef, .undef, .undef, .undef, .undef, .undef, .undef, .undef, .undef, .undef, .undef, .undef, .undef, .undef, .undef, .undef, .undef, .undef, .undef, .undef, .undef, .undef, .undef, .undef, .undef, .undef, .undef, .undef, .undef, .undef, .undef, .undef, .undef, .undef, .undef, .undef, .undef, .undef, .undef, .undef, .undef, .undef, .undef, .undef, .undef, .undef, .undef, .undef, .undef, .undef, .undef, .undef, .undef, .undef, .undef, .undef, .undef, .undef, .undef, .undef, .undef, .undef, .undef, .undef, .undef, .undef, .undef, .undef, .undef, .undef, .undef, .undef, .undef, .undef, .undef, .undef, .undef, .undef, .undef, .undef, .undef, .undef, .undef, .undef, .undef, .undef, .undef, .undef, .undef, .undef, .undef, .undef, .undef, .undef, .undef, .undef, .undef, .undef, .undef, .undef, .undef, .undef, .undef, .undef, .undef, .undef, .undef, .undef, .undef, .undef, .undef, .undef, .undef, .undef, .undef, .undef, .undef, .undef, .undef, .undef, .undef, .undef, .undef, .undef, .undef, .undef, .undef, .undef, .undef, .undef, .undef, .undef, .undef, .undef, .undef, .undef, .undef, .undef, .undef, .undef, .undef, .undef, .undef, .undef, .undef, .undef, .undef, .undef, .undef, .undef, .undef, .undef, .undef, .undef], [(1000, .own (.int .i64))]⟩)], fun _ ds k => dI (fun x0 ds => dI (fun x1 ds => dI (fun x2 ds => dL (fun x3 ds => dE ((F x0 x1 x2 x3).bind (fun y => k 0 [.I y.1, .I y.2.1, .I y.2.2.1, .L y.2.2.2])) ds) ds) ds) ds) ds⟩
theorem q_slices_partitionOrdered_L3 (F : Int → Int → Int → List D → Option (Int × Int × Int × List D)) (x0 : Int) (x1 : Int) (x2 : Int) (x3 : List D) : runLoop (ocOf [e_cmp_Less]) (olOf [m_slices_partitionOrdered_L3 F]) A 89 (codeAt (bodyOf Go.Proofs.Try.f89) 3) ((m_slices_partitionOrdered_L3 F).sh.mk' [.I x0, .I x1, .I x2, .L x3]) (fun e σ' => some (e, σ')) = c_slices_partitionOrdered_L3 F x0 x1 x2 x3 (fun y => some (.exit 0, SSt.mk' ⟨[.full 1000 [] (.int .i64), .int .i64, .undef, .undef, .undef, .undef, .undef, .undef, .undef, .undef, .int .i64, .int .i64, .undef, .undef, .undef, .undef, .undef, .undef, .undef, .undef, .undef, .undef, .undef, .undef, .undef, .undef, .undef, .undef, .undef, .undef, .undef, .undef, .undef, .undef, .undef, .undef, .undef, .undef, .undef, .undef, .undef, .undef, .undef, .undef, .undef, .undef, .undef, .undef, .undef, .undef, .undef, .undef, .undef, .undef, .undef, .undef, .undef, .undef, .undef, .undef, .undef, .undef, .undef, .undef, .undef, .undef, .undef, .undef, .undef, .undef, .undef, .undef, .undef, .undef, .undef, .undef, .undef, .undef, .undef, .undef, .undef, .undef, .undef, .undef, .undef, .undef, .undef, .undef, .undef, .undef, .undef, .undef, .undef, .undef, .undef, .undef, .undef, .undef, .undef, .undef, .undef, .undef, .undef, .undef, .undef, .undef, .undef, .undef, .undef, .undef, .undef, .undef, .undef, .undef, .undef, .undef, .undef, .undef, .undef, .undef, .undef, .undef, .undef, .undef, .undef, .undef, .undef, .undef, .undef, .undef, .undef, .undef, .undef, .undef, .undef, .undef, .undef, .undef, .undef, .undef, .undef, .undef, .undef, .undef, .undef, .undef, .undef, .undef, .undef, .undef, .undef, .undef, .undef, .undef, .undef, .undef, .undef, .undef, .undef, .undef, .undef, .undef, .undef, .undef, .undef, .undef, .undef, .undef], [(1000, .own (.int .i64))]⟩ [.I y.1, .I y.2.1, .I y.2.2.1, .L y.2.2.2])) := by kernel_rfl
theorem m_slices_partitionOrdered_L3_ok : ∀ n, (m_slices_partitionOrdered_L3 (n_slices_partitionOrdered_L3 n)).ok Go.Proofs.Try.prog (codeAt (bodyOf Go.Proofs.Try.f89) 3) := by
  intro n
  induction n with
  | zero =>
    intro R ds k r h
    unfold m_slices_partitionOrdered_L3 at h
    obtain ⟨x0, d0, rfl, h0⟩ := dI_some h
    obtain ⟨x1, d1, rfl, h1⟩ := dI_some h0
    obtain ⟨x2, d2, rfl, h2⟩ := dI_some h1
    obtain ⟨x3, d3, rfl, h3⟩ := dL_some h2
    obtain ⟨rfl, hE⟩ := dE_some h3
    obtain ⟨y, hy, hk⟩ := bnd_some hE
    cases hy
  | succ n ih =>
    intro R ds k r h
    unfold m_slices_partitionOrdered_L3 at h
    obtain ⟨x0, d0, rfl, h0⟩ := dI_some h
    obtain ⟨x1, d1, rfl, h1⟩ := dI_some h0
    obtain ⟨x2, d2, rfl, h2⟩ := dI_some h1
    obtain ⟨x3, d3, rfl, h3⟩ := dL_some h2
    obtain ⟨rfl, hE⟩ := dE_some h3
    obtain ⟨y, hy, hk⟩ := bnd_some hE
    have hq := q_slices_partitionOrdered_L3 (n_slices_partitionOrdered_L3 n) x0 x1 x2 x3
    rw [c_slices_partitionOrdered_L3_bind] at hq
    rw [show c_slices_partitionOrdered_L3 (n_slices_partitionOrdered_L3 n) x0 x1 x2 x3 some = some y from hy] at hq
    refine ⟨0, _, _, _, hk, rfl, loop_ok px (fx := ⟨Go.Proofs.Try.func89, by kernel_rfl, by kernel_rfl⟩) (entsOK_cons e_cmp_Less_ok entsOK_nil) (lentsOK_cons ih lentsOK_nil) (by kernel_rfl) ?_⟩
    exact hq
noncomputable def e_slices_partitionOrdered_L3 : Lent := m_slices_partitionOrdered_L3 (slices_partitionOrdered_L3)
theorem e_slices_partitionOrdered_L3_ok : (e_slices_partitionOrdered_L3).ok Go.Proofs.Try.prog (codeAt (bodyOf Go.Proofs.Try.f89) 3) := by
  intro R ds k r h
  unfold e_slices_partitionOrdered_L3 m_slices_partitionOrdered_L3 at h
  obtain ⟨x0, d0, rfl, h0⟩ := dI_some h
  obtain ⟨x1, d1, rfl, h1⟩ := dI_some h0
  obtain ⟨x2, d2, rfl, h2⟩ := dI_some h1
  obtain ⟨x3, d3, rfl, h3⟩ := dL_some h2
  obtain ⟨rfl, hE⟩ := dE_some h3
  obtain ⟨y, hy, hk⟩ := bnd_some hE
  obtain ⟨n, hn⟩ := ev_some hy
  exact m_slices_partitionOrdered_L3_ok n R _ k r (show (n_slices_partitionOrdered_L3 n x0 x1 x2 x3).bind _ = _ by rw [hn]; exact hk)

/-! slices.partitionOrdered[int], loop 5 -/
def c_slices_partitionOrdered_L5 {R : Type} (F : Int → Int → Int → List D → Option (Int × Int × Int × List D)) (x0 : Int) (x1 : Int) (x2 : Int) (x3 : List D) (k : Int × Int × Int × List D → Option R) : Option R :=
 bif Decidable.decide (x1 ≤ x2) then
 if (0 : Int) ≤ x2 ∧ x2 < (↑x3.length : Int) then
 if x2.toNat + (1 : Nat) ≤ x3.length then
 if (0 : Int) ≤ x0 ∧ x0 < (↑x3.length : Int) then
 if x0.toNat + (1 : Nat) ≤ x3.length then
 (cmp_Less ((x3.getD x2.toNat (Go.Rai.D.int (0 : Int))).toInt) ((x3.getD x0.toNat (Go.Rai.D.int (0 : Int))).toInt)).bind (fun y0 =>
 bif !y0 then
 (F x0 x1 (Go.IntKind.i64.wrap (x2 - (1 : Int))) x3).bind k
 else
 k (x0, x1, x2, x3))
 else
 none
 else
 none
 else
 none
 else
 none
 else
 k (x0, x1, x2, x3)
theorem c_slices_partitionOrdered_L5_bind {R : Type} (F : Int → Int → Int → List D → Option (Int × Int × Int × List D)) (x0 : Int) (x1 : Int) (x2 : Int) (x3 : List D) (k : Int × Int × Int × List D → Option R) : c_slices_partitionOrdered_L5 F x0 x1 x2 x3 k = (c_slices_partitionOrdered_L5 F x0 x1 x2 x3 some).bind k := by
  unfold c_slices_partitionOrdered_L5
  repeat' first
    | exact bnd_tail
    | exact bnd_none
    | exact bnd_leaf
    | apply bnd_ite
    | apply bnd_cond
    | apply bnd_sum
    | (apply bnd_bind; intro _)
    | intro _
def n_slices_partitionOrdered_L5 : Nat → Int → Int → Int → List D → Option (Int × Int × Int × List D)
 | 0, _, _, _, _ => none
 | n + 1, x0, x1, x2, x3 => c_slices_partitionOrdered_L5 (n_slices_partitionOrdered_L5 n) x0 x1 x2 x3 some
noncomputable def slices_partitionOrdered_L5 (x0 : Int) (x1 : Int) (x2 : Int) (x3 : List D) : Option (Int × Int × Int × List D) := ev (fun n => n_slices_partitionOrdered_L5 n x0 x1 x2 x3)
def m_slices_partitionOrdered_L5 (F : Int → Int → Int → List D → Option (Int × Int × Int × List D)) : Lent := ⟨5, ⟨[.full 1000 [] (.int .i64), .int .i64, .undef, .undef, .undef, .undef, .undef, .undef, .undef, .undef, .int .i64, .int .i64, .undef, .undef, .undef, .undef, .undef, .undef, .undef, .undef, .undef, .undef, .undef, .undef, .undef, .undef, .undef, .undef, .undef, .undef, .undef, .undef, .undef, .undef, .undef, .undef, .undef, .undef, .undef, .undef, .undef, .undef, .undef, .undef, .undef, .undef, .undef, .undef, .undef, .undef, .undef, .undef, .undef, .undef, .undef, .undef, .undef, .undef, .undef, .undef, .undef, .undef, .undef, .undef, .undef, .undef, .undef, .undef, .undef, .undef, .undef, .undef, .undef, .undef, .undef, .undef, .undef, .undef, .undef, .undef, .undef, .undef, .undef, .undef, .undef, .undef, .undef, .undef, .undef, .undef, .undef, .undef, .undef, .undef, .undef, .undef, .undef, .undef, .undef, .undef, .undef, .undef, .undef, .undef, .undef, .undef, .undef, .undef, .undef, .undef, .undef, .undef, .undef, .undef, .undef, .undef, .undef, .undef, .undef, .undef, .undef, .undef, .undef, .undef, .undef, .undef, .undef, .undef, .undef, .undef, .undef, .undef, .undef, .undef, .undef, .undef, .undef, .undef, .undef, .undef, .undef, .undef, .undef, .undef, .undef, .undef, .undef, .undef, .undef, .undef, .undef, .undef, .undef, .undef, .undef, .undef, .undef, .undef, .undef, .undef, .undef, .undef, .undef, .undef, .undef, .undef, .undef, .undef], [(1000, .own (.int .i64))]⟩, [(.exit 2, ⟨[.full 1000 [] (.int .i64), .int .i64, .undef, .undef, .undef, .undef, .undef, .undef, .undef, .undef, .int .i64, .int .i64, .undef, .undef, .undef, .undef, .undef, .undef, .undef, .undef, .undef, .undef, .undef, .undef, .undef, .undef, .undef, .undef, .undef, .undef, .undef, .undef, .undef, .undef, .undef, .undef, .undef, .undef, .undef, .undef, .undef, .undef, .undef, .undef, .undef, .undef, .undef, .undef, .undef, .undef, .undef, .undef, .undef, .undef, .undef, .undef, .undef, .undef, .undef, .undef, .undef, .undef, .undef, .undef, .undef, .undef, .undef, .undef, .undef, .undef, .undef, .undef, .undef, .undef, .undef, .undef, .undef, .undef, .undef, .undef, .undef, .undef, .undef, .undef, .undef, .undef, .undef, .undef, .undef, .undef, .undef, .undef, .undef, .undef, .undef, .undef, .undef, .undef, .undef, .undef, .undef, .undef, .undef, .undef, .undef, .undef, .undef, .undef, .undef, .undef, .undef, .undef, .undef, .undef, .undef, .undef, .undef, .undef, .undef, .undef, .undef, .undef, .undef, .undef, .undef, .undef, .undef, .undef, .undef, .undef, .undef, .undef, .undef, .undef, .undef, .undef, .undef, .undef, .undef, .undef, .undef, .undef, .undef, .undef, .undef, .undef, .undef, .undef, .undef, .undef, .undef, .undef, .undef, .undef, .undef, .undef, .undef, .undef, .undef, .undef, .undef, .undef, .undef, .undef, .undef, .undef, .undef, .undef], [(1000, .own (.int .i64))]⟩)], fun _ ds k => dI (fun x0 ds => dI (fun x1 ds => dI (fun x2 ds => dL (fun x3 ds => dE ((F x0 x1 x2 x3).bind (fun y => k 0 [.I y.1, .I y.2.1, .I y.2.2.1, .L y.2.2.2])) ds) ds) ds) ds) ds⟩
theorem q_slices_partitionOrdered_L5 (F : Int → Int → Int → List D → Option (Int × Int × Int × List D)) (x0 : Int) (x1 : Int) (x2 : Int) (x3 : List D) : runLoop (ocOf [e_cmp_Less]) (olOf [m_slices_partitionOrdered_L5 F]) A 89 (codeAt (bodyOf Go.Proofs.Try.f89) 5) ((m_slices_partitionOrdered_L5 F).sh.mk' [.I x0, .I x1, .I x2, .L x3]) (fun e σ' => some (e, σ')) = c_slices_partitionOrdered_L5 F x0 x1 x2 x3 (fun y => some (.exit 2, SSt.mk' ⟨[.full 1000 [] (.int .i64), .int .i64, .undef, .undef, .undef, .undef, .undef, .undef, .undef, .undef, .int .i64, .int .i64, .undef, .undef, .undef, .undef, .undef, .undef, .undef, .undef, .undef, .undef, .undef, .undef, .undef, .undef, .undef, .undef, .undef, .undef, .undef, .undef, .undef, .undef, .undef, .undef, .undef, .undef, .undef, .undef, .undef, .undef, .undef, .undef, .undef, .undef, .undef, .undef, .undef, .undef, .undef, .undef, .undef, .undef, .undef, .undef, .undef, .undef, .undef, .undef, .undef, .undef, .undef, .undef, .undef, .undef, .undef, .undef, .undef, .undef, .undef, .undef, .undef, .undef, .undef, .undef, .undef, .undef, .undef, .undef, .undef, .undef, .undef, .undef, .undef, .undef, .undef, .undef, .undef, .undef, .undef, .undef, .undef, .undef, .undef, .undef, .undef, .undef, .undef, .undef, .undef, .undef, .undef, .undef, .undef, .undef, .undef, .undef, .undef, .undef, .undef, .undef, .undef, .undef, .undef, .undef, .undef, .undef, .undef, .undef, .undef, .undef, .undef, .undef, .undef, .undef, .undef, .undef, .undef, .undef, .undef, .undef, .undef, .undef, .undef, .undef, .undef, .undef, .undef, .undef, .undef, .undef, .undef, .undef, .undef, .undef, .undef, .undef, .undef, .undef, .undef, .undef, .undef, .undef, .undef, .undef, .undef, .undef, .undef, .undef, .undef, .undef, .undef, .undef, .undef, .undef, .undef, .undef], [(1000, .own (.int .i64))]⟩ [.I y.1, .I y.2.1, .I y.2.2.1, .L y.2.2.2])) := by kernel_rfl
theorem m_slices_partitionOrdered_L5_ok : ∀ n, (m_slices_partitionOrdered_L5 (n_slices_partitionOrdered_L5 n)).ok Go.Proofs.Try.prog (codeAt (bodyOf Go.Proofs.Try.f89) 5) := by
  intro n
  induction n with
  | zero =>
    intro R ds k r h
    unfold m_slices_partitionOrdered_L5 at h
    obtain ⟨x0, d0, rfl, h0⟩ := dI_some h
    obtain ⟨x1, d1, rfl, h1⟩ := dI_some h0
    obtain ⟨x2, d2, rfl, h2⟩ := dI_some h1
    obtain ⟨x3, d3, rfl, h3⟩ := dL_some h2
    obtain ⟨rfl, hE⟩ := dE_some h3
    obtain ⟨y, hy, hk⟩ := bnd_some hE
    cases hy
  | succ n ih =>
    intro R ds k r h
    unfold m_slices_partitionOrdered_L5 at h
    obtain ⟨x0, d0, rfl, h0⟩ := dI_some h
    obtain ⟨x1, d1, rfl, h1⟩ := dI_some h0
    obtain ⟨x2, d2, rfl, h2⟩ := dI_some h1
    obtain ⟨x3, d3, rfl, h3⟩ := dL_some h2
    obtain ⟨rfl, hE⟩ := dE_some h3
    obtain ⟨y, hy, hk⟩ := bnd_some hE
    have hq := q_slices_partitionOrdered_L5 (n_slices_partitionOrdered_L5 n) x0 x1 x2 x3
    rw [c_slices_partitionOrdered_L5_bind] at hq
    rw [show c_slices_partitionOrdered_L5 (n_slices_partitionOrdered_L5 n) x0 x1 x2 x3 some = some y from hy] at hq
    refine ⟨0, _, _, _, hk, rfl, loop_ok px (fx := ⟨Go.Proofs.Try.func89, by kernel_rfl, by kernel_rfl⟩) (entsOK_cons e_cmp_Less_ok entsOK_nil) (lentsOK_cons ih lentsOK_nil) (by kernel_rfl) ?_⟩
    exact hq
noncomputable def e_slices_partitionOrdered_L5 : Lent := m_slices_partitionOrdered_L5 (slices_partitionOrdered_L5)
theorem e_slices_partitionOrdered_L5_ok : (e_slices_partitionOrdered_L5).ok Go.Proofs.Try.prog (codeAt (bodyOf Go.Proofs.Try.f89) 5) := by
  intro R ds k r h
  unfold e_slices_partitionOrdered_L5 m_slices_partitionOrdered_L5 at h
  obtain ⟨x0, d0, rfl, h0⟩ := dI_some h
  obtain ⟨x1, d1, rfl, h1⟩ := dI_some h0
  obtain ⟨x2, d2, rfl, h2⟩ := dI_some h1
  obtain ⟨x3, d3, rfl, h3⟩ := dL_some h2
  obtain ⟨rfl, hE⟩ := dE_some h3
  obtain ⟨y, hy, hk⟩ := bnd_some hE
  obtain ⟨n, hn⟩ := ev_some hy
  exact m_slices_partitionOrdered_L5_ok n R _ k r (show (n_slices_partitionOrdered_L5 n x0 x1 x2 x3).bind _ = _ by rw [hn]; exact hk)

/-! slices.partitionOrdered[int], loop 13 -/
def c_slices_partitionOrdered_L13 {R : Type} (F : Int → Int → Int → List D → Option (Int × Int × Int × List D)) (x0 : Int) (x1 : Int) (x2 : Int) (x3 : List D) (k : Int × Int × Int × List D → Option R) : Option R :=
 bif Decidable.decide (x1 ≤ x2) then
 if (0 : Int) ≤ x1 ∧ x1 < (↑x3.length : Int) then
 if x1.toNat + (1 : Nat) ≤ x3.length then
 if (0 : Int) ≤ x0 ∧ x0 < (↑x3.length : Int) then
 if x0.toNat + (1 : Nat) ≤ x3.length then
 (cmp_Less ((x3.getD x1.toNat (Go.Rai.D.int (0 : Int))).toInt) ((x3.getD x0.toNat (Go.Rai.D.int (0 : Int))).toInt)).bind (fun y0 =>
 bif y0 then
 (F x0 (Go.IntKind.i64.wrap (x1 + (1 : Int))) x2 x3).bind k
 else
 k (x0, x1, x2, x3))
 else
 none
 else
 none
 else
 none
 else
 none
 else
 k (x0, x1, x2, x3)
theorem c_slices_partitionOrdered_L13_bind {R : Type} (F : Int → Int → Int → List D → Option (Int × Int × Int × List D)) (x0 : Int) (x1 : Int) (x2 : Int) (x3 : List D) (k : Int × Int × Int × List D → Option R) : c_slices_partitionOrdered_L13 F x0 x1 x2 x3 k = (c_slices_partitionOrdered_L13 F x0 x1 x2 x3 some).bind k := by
  unfold c_slices_partitionOrdered_L13
  repeat' first
    | exact bnd_tail
    | exact bnd_none
    | exact bnd_leaf
    | apply bnd_ite
    | apply bnd_cond
    | apply bnd_sum
    | (apply bnd_bind; intro _)
    | intro _
def n_slices_partitionOrdered_L13 : Nat → Int → Int → Int → List D → Option (Int × Int × Int × List D)
 | 0, _, _, _, _ => none
 | n + 1, x0, x1, x2, x3 => c_slices_partitionOrdered_L13 (n_slices_partitionOrdered_L13 n) x0 x1 x2 x3 some
noncomputable def slices_partitionOrdered_L13 (x0 : Int) (x1 : Int) (x2 : Int) (x3 : List D) : Option (Int × Int × Int × List D) := ev (fun n => n_slices_partitionOrdered_L13 n x0 x1 x2 x3)
def m_slices_partitionOrdered_L13 (F : Int → Int → Int → List D → Option (Int × Int × Int × List D)) : Lent := ⟨13, ⟨[.full 1000 [] (.int .i64), .int .i64, .undef, .undef, .undef, .undef, .undef, .undef, .undef, .undef, .int .i64, .int .i64, .undef, .undef, .undef, .undef, .undef, .undef, .undef, .undef, .undef, .undef, .undef, .undef, .undef, .undef, .undef, .undef, .undef, .undef, .undef, .undef, .undef, .undef, .undef, .undef, .undef, .undef, .undef, .undef, .undef, .undef, .undef, .undef, .undef, .undef, .undef, .undef, .undef, .undef, .undef, .undef, .undef, .undef, .undef, .undef, .undef, .undef, .undef, .undef, .undef, .undef, .undef, .undef, .undef, .undef, .undef, .undef, .undef, .undef, .undef, .undef, .undef, .undef, .undef, .undef, .undef, .undef, .undef, .undef, .undef, .undef, .undef, .undef, .undef, .undef, .undef, .undef, .undef, .undef, .undef, .undef, .undef, .undef, .undef, .undef, .undef, .undef, .undef, .undef, .undef, .undef, .undef, .undef, .undef, .undef, .undef, .undef, .undef, .undef, .undef, .undef, .undef, .undef, .undef, .undef, .undef, .undef, .undef, .undef, .undef, .undef, .undef, .undef, .undef, .undef, .undef, .undef, .undef, .undef, .undef, .undef, .undef, .undef, .undef, .undef, .undef, .undef, .undef, .undef, .undef, .undef, .undef, .undef, .undef, .undef, .undef, .undef, .undef, .undef, .undef, .undef, .undef, .undef, .undef, .undef, .undef, .undef, .undef, .undef, .undef, .undef, .undef, .undef, .undef, .undef, .undef, .undef], [(1000, .own (.int .i64))]⟩, [(.exit 6, ⟨[.full 1000 [] (.int .i64), .int .i64, .undef, .undef, .undef, .undef, .undef, .undef, .undef, .undef, .int .i64, .int .i64, .undef, .undef, .undef, .undef, .undef, .undef, .undef, .undef, .undef, .undef, .undef, .undef, .undef, .undef, .undef, .undef, .undef, .undef, .undef, .undef, .undef, .undef, .undef, .undef, .undef, .undef, .undef, .undef, .undef, .undef, .undef, .undef, .undef, .undef, .undef, .undef, .undef, .undef, .undef, .undef, .undef, .undef, .undef, .undef, .undef, .undef, .undef, .undef, .undef, .undef, .undef, .undef, .undef, .undef, .undef, .undef, .undef, .undef, .undef, .undef, .undef, .undef, .undef, .undef, .undef, .undef, .undef, .undef, .undef, .undef, .undef, .undef, .undef, .undef, .undef, .undef, .undef, .undef, .undef, .undef, .undef, .undef, .undef, .undef, .undef, .undef, .undef, .undef, .undef, .undef, .undef, .undef, .undef, .undef, .undef, .undef, .undef, .undef, .undef, .undef, .undef, .undef, .undef, .undef, .undef, .undef, .undef, .undef, .undef, .undef, .undef, .undef, .undef, .undef, .undef, .undef, .undef, .undef, .undef, .undef, .undef, .undef, .undef, .undef, .undef, .undef, .undef, .undef, .undef, .undef, .undef, .undef, .undef, .undef, .undef, .undef, .undef, .undef, .undef, .undef, .undef, .undef, .undef, .undef, .undef, .undef, .undef, .undef, .undef, .undef, .undef, .undef, .undef, .undef, .undef, .undef], [(1000, .own (.int .i64))]⟩)], fun _ ds k => dI (fun x0 ds => dI (fun x1 ds => dI (fun x2 ds => dL (fun x3 ds => dE ((F x0 x1 x2 x3).bind (fun y => k 0 [.I y.1, .I y.2.1, .I y.2.2.1, .L y.2.2.2])) ds) ds) ds) ds) ds⟩
theorem q_slices_partitionOrdered_L13 (F : Int → Int → Int → List D → Option (Int × Int × Int × List D)) (x0 : Int) (x1 : Int) (x2 : Int) (x3 : List D) : runLoop (ocOf [e_cmp_Less]) (olOf [m_slices_partitionOrdered_L13 F]) A 89 (codeAt (bodyOf Go.Proofs.Try.f89) 13) ((m_slices_partitionOrdered_L13 F).sh.mk' [.I x0, .I x1, .I x2, .L x3]) (fun e σ' => some (e, σ')) = c_slices_partitionOrdered_L13 F x0 x1 x2 x3 (fun y => some (.exit 6, SSt.mk' ⟨[.full 1000 [] (.int .i64), .int .i64, .undef, .undef, .undef, .undef, .undef, .undef, .undef, .undef, .int .i64, .int .i64, .undef, .undef, .undef, .undef, .undef, .undef, .undef, .undef, .undef, .undef, .undef, .undef, .undef, .undef, .undef, .undef, .undef, .undef, .undef, .undef, .undef, .undef, .undef, .undef, .undef, .undef, .undef, .undef, .undef, .undef, .undef, .undef, .undef, .undef, .undef, .undef, .undef, .undef, .undef, .undef, .undef, .undef, .undef, .undef, .undef, .undef, .undef, .undef, .undef, .undef, .undef, .undef, .undef, .undef, .undef, .undef, .undef, .undef, .undef, .undef, .undef, .undef, .undef, .undef, .undef, .undef, .undef, .undef, .undef, .undef, .undef, .undef, .undef, .undef, .undef, .undef, .undef, .undef, .undef, .undef, .undef, .undef, .undef, .undef, .undef, .undef, .undef, .undef, .undef, .undef, .undef, .undef, .undef, .undef, .undef, .undef, .undef, .undef, .undef, .undef, .undef, .undef, .undef, .undef, .undef, .undef, .undef, .undef, .undef, .undef, .undef, .undef, .undef, .undef, .undef, .undef, .undef, .undef, .undef, .undef, .undef, .undef, .undef, .undef, .undef, .undef, .undef, .undef, .undef, .undef, .undef, .undef, .undef, .undef, .undef, .undef, .undef, .undef, .undef, .undef, .undef, .undef, .undef, .undef, .undef, .undef, .undef, .undef, .undef, .undef, .undef, .undef, .undef, .undef, .undef, .undef], [(1000, .own (.int .i64))]⟩ [.I y.1, .I y.2.1, .I y.2.2.1, .L y.2.2.2])) := by kernel_rfl
theorem m_slices_partitionOrdered_L13_ok : ∀ n, (m_slices_partitionOrdered_L13 (n_slices_partitionOrdered_L13 n)).ok Go.Proofs.Try.prog (codeAt (bodyOf Go.Proofs.Try.f89) 13) := by
  intro n
  induction n with
  | zero =>
    intro R ds k r h
    unfold m_slices_partitionOrdered_L13 at h
    obtain ⟨x0, d0, rfl, h0⟩ := dI_some h
    obtain ⟨x1, d1, rfl, h1⟩ := dI_some h0
    obtain ⟨x2, d2, rfl, h2⟩ := dI_some h1
    obtain ⟨x3, d3, rfl, h3⟩ := dL_some h2
    obtain ⟨rfl, hE⟩ := dE_some h3
    obtain ⟨y, hy, hk⟩ := bnd_some hE
    cases hy
  | succ n ih =>
    intro R ds k r h
    unfold m_slices_partitionOrdered_L13 at h
    obtain ⟨x0, d0, rfl, h0⟩ := dI_some h
    obtain ⟨x1, d1, rfl, h1⟩ := dI_some h0
    obtain ⟨x2, d2, rfl, h2⟩ := dI_some h1
    obtain ⟨x3, d3, rfl, h3⟩ := dL_some h2
    obtain ⟨rfl, hE⟩ := dE_some h3
    obtain ⟨y, hy, hk⟩ := bnd_some hE
    have hq := q_slices_partitionOrdered_L13 (n_slices_partitionOrdered_L13 n) x0 x1 x2 x3
    rw [c_slices_partitionOrdered_L13_bind] at hq
    rw [show c_slices_partitionOrdered_L13 (n_slices_partitionOrdered_L13 n) x0 x1 x2 x3 some = some y from hy] at hq
    refine ⟨0, _, _, _, hk, rfl, loop_ok px (fx := ⟨Go.Proofs.Try.func89, by kernel_rfl, by kernel_rfl⟩) (entsOK_cons e_cmp_Less_ok entsOK_nil) (lentsOK_cons ih lentsOK_nil) (by kernel_rfl) ?_⟩
    exact hq
noncomputable def e_slices_partitionOrdered_L13 : Lent := m_slices_partitionOrdered_L13 (slices_partitionOrdered_L13)
theorem e_slices_partitionOrdered_L13_ok : (e_slices_partitionOrdered_L13).ok Go.Proofs.Try.prog (codeAt (bodyOf Go.Proofs.Try.f89) 13) := by
  intro R ds k r h
  unfold e_slices_partitionOrdered_L13 m_slices_partitionOrdered_L13 at h
  obtain ⟨x0, d0, rfl, h0⟩ := dI_some h
  obtain ⟨x1, d1, rfl, h1⟩ := dI_some h0
  obtain ⟨x2, d2, rfl, h2⟩ := dI_some h1
  obtain ⟨x3, d3, rfl, h3⟩ := dL_some h2
  obtain ⟨rfl, hE⟩ := dE_some h3
  obtain ⟨y, hy, hk⟩ := bnd_some hE
  obtain ⟨n, hn⟩ := ev_some hy
  exact m_slices_partitionOrdered_L13_ok n R _ k r (show (n_slices_partitionOrdered_L13 n x0 x1 x2 x3).bind _ = _ by rw [hn]; exact hk)

/-! slices.partitionOrdered[int], loop 15 -/
def c_slices_partitionOrdered_L15 {R : Type} (F : Int → Int → Int → List D → Option (Int × Int × Int × List D)) (x0 : Int) (x1 : Int) (x2 : Int) (x3 : List D) (k : Int × Int × Int × List D → Option R) : Option R :=
 bif Decidable.decide (x1 ≤ x2) then
 if (0 : Int) ≤ x2 ∧ x2 < (↑x3.length : Int) then
 if x2.toNat + (1 : Nat) ≤ x3.length then
 if (0 : Int) ≤ x0 ∧ x0 < (↑x3.length : Int) then
 if x0.toNat + (1 : Nat) ≤ x3.length then
 (cmp_Less ((x3.getD x2.toNat (Go.Rai.D.int (0 : Int))).toInt) ((x3.getD x0.toNat (Go.Rai.D.int (0 : Int))).toInt)).bind (fun y0 =>
 bif !y0 then
 (F x0 x1 (Go.IntKind.i64.wrap (x2 - (1 : Int))) x3).bind k
 else
 k (x0, x1, x2, x3))
 else
 none
 else
 none
 else
 none
 else
 none
 else
 k (x0, x1, x2, x3)
theorem c_slices_partitionOrdered_L15_bind {R : Type} (F : Int → Int → Int → List D → Option (Int × Int × Int × List D)) (x0 : Int) (x1 : Int) (x2 : Int) (x3 : List D) (k : Int × Int × Int × List D → Option R) : c_slices_partitionOrdered_L15 F x0 x1 x2 x3 k = (c_slices_partitionOrdered_L15 F x0 x1 x2 x3 some).bind k := by
  unfold c_slices_partitionOrdered_L15
  repeat' first
    | exact bnd_tail
    | exact bnd_none
    | exact bnd_leaf
    | apply bnd_ite
    | apply bnd_cond
    | apply bnd_sum
    | (apply bnd_bind; intro _)
    | intro _
def n_slices_partitionOrdered_L15 : Nat → Int → Int → Int → List D → Option (Int × Int × Int × List D)
 | 0, _, _, _, _ => none
 | n + 1, x0, x1, x2, x3 => c_slices_partitionOrdered_L15 (n_slices_partitionOrdered_L15 n) x0 x1 x2 x3 some
noncomputable def slices_partitionOrdered_L15 (x0 : Int) (x1 : Int) (x2 : Int) (x3 : List D) : Option (Int × Int × Int × List D) := ev (fun n => n_slices_partitionOrdered_L15 n x0 x1 x2 x3)
def m_slices_partitionOrdered_L15 (F : Int → Int → Int → List D → Option (Int × Int × Int × List D)) : Lent := ⟨15, ⟨[.full 1000 [] (.int .i64), .int .i64, .undef, .undef, .undef, .undef, .undef, .undef, .undef, .undef, .int .i64, .int .i64, .undef, .undef, .undef, .undef, .undef, .undef, .undef, .undef, .undef, .undef, .undef, .undef, .undef, .undef, .undef, .undef, .undef, .undef, .undef, .undef, .undef, .undef, .undef, .undef, .undef, .undef, .undef, .undef, .undef, .undef, .undef, .undef, .undef, .undef, .undef, .undef, .undef, .undef, .undef, .undef, .undef, .undef, .undef, .undef, .undef, .undef, .undef, .undef, .undef, .undef, .undef, .undef, .undef, .undef, .undef, .undef, .undef, .undef, .undef, .undef, .undef, .undef, .undef, .undef, .undef, .undef, .undef, .undef, .undef, .undef, .undef, .undef, .undef, .undef, .undef, .undef, .undef, .undef, .undef, .undef, .undef, .undef, .undef, .undef, .undef, .undef, .undef, .undef, .undef, .undef, .undef, .undef, .undef, .undef, .undef, .undef, .undef, .undef, .undef, .undef, .undef, .undef, .undef, .undef, .undef, .undef, .undef, .undef, .undef, .undef, .undef, .undef, .undef, .undef, .undef, .undef, .undef, .undef, .undef, .undef, .undef, .undef, .undef, .undef, .undef, .undef, .undef, .undef, .undef, .undef, .undef, .undef, .undef, .undef, .undef, .undef, .undef, .undef, .undef, .undef, .undef, .undef, .undef, .undef, .undef, .undef, .undef, .undef, .undef, .undef, .undef, .undef, .undef, .undef, .undef, .undef], [(1000, .own (.int .i64))]⟩, [(.exit 8, ⟨[.full 1000 [] (.int .i64), .int .i64, .undef, .undef, .undef, .undef, .undef, .undef, .undef, .undef, .int .i64, .int .i64, .undef, .undef, .undef, .undef, .undef, .undef, .undef, .undef, .undef, .undef, .undef, .undef, .undef, .undef, .undef, .undef, .undef, .undef, .undef, .undef, .undef, .undef, .undef, .undef, .undef, .undef, .undef, .undef, .undef, .undef, .undef, .undef, .undef, .undef, .undef, .undef, .undef, .undef, .undef, .undef, .undef, .undef, .undef, .undef, .undef, .undef, .undef, .undef, .undef, .undef, .undef, .undef, .undef, .undef, .undef, .undef, .undef, .undef, .undef, .undef, .undef, .undef, .undef, .undef, .undef, .undef, .undef, .undef, .undef, .undef, .undef, .undef, .undef, .undef, .undef, .undef, .undef, .undef, .undef, .undef, .undef, .undef, .undef, .undef, .undef, .undef, .undef, .undef, .undef, .undef, .undef, .undef, .undef, .undef, .undef, .undef, .undef, .undef, .undef, .undef, .undef, .undef, .undef, .undef, .undef, .undef, .undef, .undef, .undef, .undef, .undef, .undef, .undef, .undef, .undef, .undef, .undef, .undef, .undef, .undef, .undef, .undef, .undef, .undef, .undef, .undef, .undef, .undef, .undef, .undef, .undef, .undef, .undef, .undef, .undef, .undef, .undef, .undef, .undef, .undef, .undef, .undef, .undef, .undef, .undef, .undef, .undef, .undef, .undef, .undef, .undef, .undef, .undef, .undef, .undef, .undef], [(1000, .own (.int .i64))]⟩)], fun _ ds k => dI (fun x0 ds => dI (fun x1 ds => dI (fun x2 ds => dL (fun x3 ds => dE ((F x0 x1 x2 x3).bind (fun y => k 0 [.I y.1, .I y.2.1, .I y.2.2.1, .L y.2.2.2])) ds) ds) ds) ds) ds⟩
theorem q_slices_partitionOrdered_L15 (F : Int → Int → Int → List D → Option (Int × Int × Int × List D)) (x0 : Int) (x1 : Int) (x2 : Int) (x3 : List D) : runLoop (ocOf [e_cmp_Less]) (olOf [m_slices_partitionOrdered_L15 F]) A 89 (codeAt (bodyOf Go.Proofs.Try.f89) 15) ((m_slices_partitionOrdered_L15 F).sh.mk' [.I x0, .I x1, .I x2, .L x3]) (fun e σ' => some (e, σ')) = c_slices_partitionOrdered_L15 F x0 x1 x2 x3 (fun y => some (.exit 8, SSt.mk' ⟨[.full 1000 [] (.int .i64), .int .i64, .undef, .undef, .undef, .undef, .undef, .undef, .undef, .undef, .int .i64, .int .i64, .undef, .undef, .undef, .undef, .undef, .undef, .undef, .undef, .undef, .undef, .undef, .undef, .undef, .undef, .undef, .undef, .undef, .undef, .undef, .undef, .undef, .undef, .undef, .undef, .undef, .undef, .undef, .undef, .undef, .undef, .undef, .undef, .undef, .undef, .undef, .undef, .undef, .undef, .undef, .undef, .undef, .undef, .undef, .undef, .undef, .undef, .undef, .undef, .undef, .undef, .undef, .undef, .undef, .undef, .undef, .undef, .undef, .undef, .undef, .undef, .undef, .undef, .undef, .undef, .undef, .undef, .undef, .undef, .undef, .undef, .undef, .undef, .undef, .undef, .undef, .undef, .undef, .undef, .undef, .undef, .undef, .undef, .undef, .undef, .undef, .undef, .undef, .undef, .undef, .undef, .undef, .undef, .undef, .undef, .undef, .undef, .undef, .undef, .undef, .undef, .undef, .undef, .undef, .undef, .undef, .undef, .undef, .undef, .undef, .undef, .undef, .undef, .undef, .undef, .undef, .undef, .undef, .undef, .undef, .undef, .undef, .undef, .undef, .undef, .undef, .undef, .undef, .undef, .undef, .undef, .undef, .undef, .undef, .undef, .undef, .undef, .undef, .undef, .undef, .undef, .undef, .undef, .undef, .undef, .undef, .undef, .undef, .undef, .undef, .undef, .undef, .undef, .undef, .undef, .undef, .undef], [(1000, .own (.int .i64))]⟩ [.I y.1, .I y.2.1, .I y.2.2.1, .L y.2.2.2])) := by kernel_rfl
theorem m_slices_partitionOrdered_L15_ok : ∀ n, (m_slices_partitionOrdered_L15 (n_slices_partitionOrdered_L15 n)).ok Go.Proofs.Try.prog (codeAt (bodyOf Go.Proofs.Try.f89) 15) := by
  intro n
  induction n with
  | zero =>
    intro R ds k r h
    unfold m_slices_partitionOrdered_L15 at h
    obtain ⟨x0, d0, rfl, h0⟩ := dI_some h
    obtain ⟨x1, d1, rfl, h1⟩ := dI_some h0
    obtain ⟨x2, d2, rfl, h2⟩ := dI_some h1
    obtain ⟨x3, d3, rfl, h3⟩ := dL_some h2
    obtain ⟨rfl, hE⟩ := dE_some h3
    obtain ⟨y, hy, hk⟩ := bnd_some hE
    cases hy
  | succ n ih =>
    intro R ds k r h
    unfold m_slices_partitionOrdered_L15 at h
    obtain ⟨x0, d0, rfl, h0⟩ := dI_some h
    obtain ⟨x1, d1, rfl, h1⟩ := dI_some h0
    obtain ⟨x2, d2, rfl, h2⟩ := dI_some h1
    obtain ⟨x3, d3, rfl, h3⟩ := dL_some h2
    obtain ⟨rfl, hE⟩ := dE_some h3
    obtain ⟨y, hy, hk⟩ := bnd_some hE
    have hq := q_slices_partitionOrdered_L15 (n_slices_partitionOrdered_L15 n) x0 x1 x2 x3
    rw [c_slices_partitionOrdered_L15_bind] at hq
    rw [show c_slices_partitionOrdered_L15 (n_slices_partitionOrdered_L15 n) x0 x1 x2 x3 some = some y from hy] at hq
    refine ⟨0, _, _, _, hk, rfl, loop_ok px (fx := ⟨Go.Proofs.Try.func89, by kernel_rfl, by kernel_rfl⟩) (entsOK_cons e_cmp_Less_ok entsOK_nil) (lentsOK_cons ih lentsOK_nil) (by kernel_rfl) ?_⟩
    exact hq
noncomputable def e_slices_partitionOrdered_L15 : Lent := m_slices_partitionOrdered_L15 (slices_partitionOrdered_L15)
theorem e_slices_partitionOrdered_L15_ok : (e_slices_partitionOrdered_L15).ok Go.Proofs.Try.prog (codeAt (bodyOf Go.Proofs.Try.f89) 15) := by
  intro R ds k r h
  unfold e_slices_partitionOrdered_L15 m_slices_partitionOrdered_L15 at h
  obtain ⟨x0, d0, rfl, h0⟩ := dI_some h
  obtain ⟨x1, d1, rfl, h1⟩ := dI_some h0
  obtain ⟨x2, d2, rfl, h2⟩ := dI_some h1
  obtain ⟨x3, d3, rfl, h3⟩ := dL_some h2
  obtain ⟨rfl, hE⟩ := dE_some h3
  obtain ⟨y, hy, hk⟩ := bnd_some hE
  obtain ⟨n, hn⟩ := ev_some hy
  exact m_slices_partitionOrdered_L15_ok n R _ k r (show (n_slices_partitionOrdered_L15 n x0 x1 x2 x3).bind _ = _ by rw [hn]; exact hk)

/-! slices.partitionOrdered[int], loop 100013 -/
def c_slices_partitionOrdered_L100013 {R : Type} (F : Int → Int → Int → List D → Option (Int × Int × List D)) (x0 : Int) (x1 : Int) (x2 : Int) (x3 : List D) (k : Int × Int × List D → Option R) : Option R :=
 (slices_partitionOrdered_L13 x0 x1 x2 x3).bind (fun y0 =>
 (slices_partitionOrdered_L15 y0.fst y0.snd.fst y0.snd.snd.fst y0.snd.snd.snd).bind (fun y1 =>
 bif Decidable.decide (y1.snd.snd.fst < y1.snd.fst) then
 k (y1.fst, y1.snd.snd.fst, y1.snd.snd.snd)
 else
 if (0 : Int) ≤ y1.snd.snd.fst ∧ y1.snd.snd.fst < (↑y1.snd.snd.snd.length : Int) then
 if y1.snd.snd.fst.toNat + (1 : Nat) ≤ y1.snd.snd.snd.length then
 if (0 : Int) ≤ y1.snd.fst ∧ y1.snd.fst < (↑y1.snd.snd.snd.length : Int) then
 if y1.snd.fst.toNat + (1 : Nat) ≤ y1.snd.snd.snd.length then
 if (0 : Int) ≤ y1.snd.fst ∧ y1.snd.fst < (↑y1.snd.snd.snd.length : Int) then
 if y1.snd.fst.toNat + (1 : Nat) ≤ y1.snd.snd.snd.length then
 if (0 : Int) ≤ y1.snd.snd.fst ∧ y1.snd.snd.fst < (↑(y1.snd.snd.snd.set y1.snd.fst.toNat (Go.Rai.D.int (y1.snd.snd.snd.getD y1.snd.snd.fst.toNat (Go.Rai.D.int (0 : Int))).toInt)).length : Int) then
 if y1.snd.snd.fst.toNat + (1 : Nat) ≤ (y1.snd.snd.snd.set y1.snd.fst.toNat (Go.Rai.D.int (y1.snd.snd.snd.getD y1.snd.snd.fst.toNat (Go.Rai.D.int (0 : Int))).toInt)).length then
 (F y1.fst (Go.IntKind.i64.wrap (y1.snd.fst + (1 : Int))) (Go.IntKind.i64.wrap (y1.snd.snd.fst - (1 : Int))) ((y1.snd.snd.snd.set y1.snd.fst.toNat (Go.Rai.D.int (y1.snd.snd.snd.getD y1.snd.snd.fst.toNat (Go.Rai.D.int (0 : Int))).toInt)).set y1.snd.snd.fst.toNat (Go.Rai.D.int (y1.snd.snd.snd.getD y1.snd.fst.toNat (Go.Rai.D.int (0 : Int))).toInt))).bind k
 else
 none
 else
 none
 else
 none
 else
 none
 else
 none
 else
 none
 else
 none
 else
 none))
theorem c_slices_partitionOrdered_L100013_bind {R : Type} (F : Int → Int → Int → List D → Option (Int × Int × List D)) (x0 : Int) (x1 : Int) (x2 : Int) (x3 : List D) (k : Int × Int × List D → Option R) : c_slices_partitionOrdered_L100013 F x0 x1 x2 x3 k = (c_slices_partitionOrdered_L100013 F x0 x1 x2 x3 some).bind k := by
  unfold c_slices_partitionOrdered_L100013
  repeat' first
    | exact bnd_tail
    | exact bnd_none
    | exact bnd_leaf
    | apply bnd_ite
    | apply bnd_cond
    | apply bnd_sum
    | (apply bnd_bind; intro _)
    | intro _
def n_slices_partitionOrdered_L100013 : Nat → Int → Int → Int → List D → Option (Int × Int × List D)
 | 0, _, _, _, _ => none
 | n + 1, x0, x1, x2, x3 => c_slices_partitionOrdered_L100013 (n_slices_partitionOrdered_L100013 n) x0 x1 x2 x3 some
noncomputable def slices_partitionOrdered_L100013 (x0 : Int) (x1 : Int) (x2 : Int) (x3 : List D) : Option (Int × Int × List D) := ev (fun n => n_slices_partitionOrdered_L100013 n x0 x1 x2 x3)
def m_slices_partitionOrdered_L100013 (F : Int → Int → Int → List D → Option (Int × Int × List D)) : Lent := ⟨100013, ⟨[.full 1000 [] (.int .i64), .int .i64, .undef, .undef, .undef, .undef, .undef, .undef, .undef, .undef, .int .i64, .int .i64, .undef, .undef, .undef, .undef, .undef, .undef, .undef, .undef, .undef, .undef, .undef, .undef, .undef, .undef, .undef, .undef, .undef, .undef, .undef, .undef, .undef, .undef, .undef, .undef, .undef, .undef, .undef, .undef, .undef, .undef, .undef, .undef, .undef, .undef, .undef, .undef, .undef, .undef, .undef, .undef, .undef, .undef, .undef, .undef, .undef, .undef, .undef, .undef, .undef, .undef, .undef, .undef, .undef, .undef, .undef, .undef, .undef, .undef, .undef, .undef, .undef, .undef, .undef, .undef, .undef, .undef, .undef, .undef, .undef, .undef, .undef, .undef, .undef, .undef, .undef, .undef, .undef, .undef, .undef, .undef, .undef, .undef, .undef, .undef, .undef, .undef, .undef, .undef, .undef, .undef, .undef, .undef, .undef, .undef, .undef, .undef, .undef, .undef, .undef, .undef, .undef, .undef, .undef, .undef, .undef, .undef, .undef, .undef, .undef, .undef, .undef, .undef, .undef, .undef, .undef, .undef, .undef, .undef, .undef, .undef, .undef, .undef, .undef, .undef, .undef, .undef, .undef, .undef, .undef, .undef, .undef, .undef, .undef, .undef, .undef, .undef, .undef, .undef, .undef, .undef, .undef, .undef, .undef, .undef, .undef, .undef, .undef, .undef, .undef, .undef, .undef, .undef, .undef, .undef, .undef, .undef], [(1000, .own (.int .i64))]⟩, [(.exit 4, ⟨[.full 1000 [] (.int .i64), .int .i64, .undef, .undef, .undef, .undef, .undef, .undef, .undef, .undef, .undef, .int .i64, .undef, .undef, .undef, .undef, .undef, .undef, .undef, .undef, .undef, .undef, .undef, .undef, .undef, .undef, .undef, .undef, .undef, .undef, .undef, .undef, .undef, .undef, .undef, .undef, .undef, .undef, .undef, .undef, .undef, .undef, .undef, .undef, .undef, .undef, .undef, .undef, .undef, .undef, .undef, .undef, .undef, .undef, .undef, .undef, .undef, .undef, .undef, .undef, .undef, .undef, .undef, .undef, .undef, .undef, .undef, .undef, .undef, .undef, .undef, .undef, .undef, .undef, .undef, .undef, .undef, .undef, .undef, .undef, .undef, .undef, .undef, .undef, .undef, .undef, .undef, .undef, .undef, .undef, .undef, .undef, .undef, .undef, .undef, .undef, .undef, .undef, .undef, .undef, .undef, .undef, .undef, .undef, .undef, .undef, .undef, .undef, .undef, .undef, .undef, .undef, .undef, .undef, .undef, .undef, .undef, .undef, .undef, .undef, .undef, .undef, .undef, .undef, .undef, .undef, .undef, .undef, .undef, .undef, .undef, .undef, .undef, .undef, .undef, .undef, .undef, .undef, .undef, .undef, .undef, .undef, .undef, .undef, .undef, .undef, .undef, .undef, .undef, .undef, .undef, .undef, .undef, .undef, .undef, .undef, .undef, .undef, .undef, .undef, .undef, .undef, .undef, .undef, .undef, .undef, .undef, .undef], [(1000, .own (.int .i64))]⟩)], fun _ ds k => dI (fun x0 ds => dI (fun x1 ds => dI (fun x2 ds => dL (fun x3 ds => dE ((F x0 x1 x2 x3).bind (fun y => k 0 [.I y.1, .I y.2.1, .L y.2.2])) ds) ds) ds) ds) ds⟩
theorem q_slices_partitionOrdered_L100013 (F : Int → Int → Int → List D → Option (Int × Int × List D)) (x0 : Int) (x1 : Int) (x2 : Int) (x3 : List D) : runLoop (ocOf []) (olOf [m_slices_partitionOrdered_L100013 F, e_slices_partitionOrdered_L13, e_slices_partitionOrdered_L15]) A 89 (codeAt (bodyOf Go.Proofs.Try.f89) 100013) ((m_slices_partitionOrdered_L100013 F).sh.mk' [.I x0, .I x1, .I x2, .L x3]) (fun e σ' => some (e, σ')) = c_slices_partitionOrdered_L100013 F x0 x1 x2 x3 (fun y => some (.exit 4, SSt.mk' ⟨[.full 1000 [] (.int .i64), .int .i64, .undef, .undef, .undef, .undef, .undef, .undef, .undef, .undef, .undef, .int .i64, .undef, .undef, .undef, .undef, .undef, .undef, .undef, .undef, .undef, .undef, .undef, .undef, .undef, .undef, .undef, .undef, .undef, .undef, .undef, .undef, .undef, .undef, .undef, .undef, .undef, .undef, .undef, .undef, .undef, .undef, .undef, .undef, .undef, .undef, .undef, .undef, .undef, .undef, .undef, .undef, .undef, .undef, .undef, .undef, .undef, .undef, .undef, .undef, .undef, .undef, .undef, .undef, .undef, .undef, .undef, .undef, .undef, .undef, .undef, .undef, .undef, .undef, .undef, .undef, .undef, .undef, .undef, .undef, .undef, .undef, .undef, .undef, .undef, .undef, .undef, .undef, .undef, .undef, .undef, .undef, .undef, .undef, .undef, .undef, .undef, .undef, .undef, .undef, .undef, .undef, .undef, .undef, .undef, .undef, .undef, .undef, .undef, .undef, .undef, .undef, .undef, .undef, .undef, .undef, .undef, .undef, .undef, .undef, .undef, .undef, .undef, .undef, .undef, .undef, .undef, .undef, .undef, .undef, .undef, .undef, .undef, .undef, .undef, .undef, .undef, .undef, .undef, .undef, .undef, .undef, .undef, .undef, .undef, .undef, .undef, .undef, .undef, .undef, .undef, .undef, .undef, .undef, .undef, .undef, .undef, .undef, .undef, .undef, .undef, .undef, .undef, .undef, .undef, .undef, .undef, .undef], [(1000, .own (.int .i64))]⟩ [.I y.1, .I y.2.1, .L y.2.2])) := by kernel_rfl
theorem m_slices_partitionOrdered_L100013_ok : ∀ n, (m_slices_partitionOrdered_L100013 (n_slices_partitionOrdered_L100013 n)).ok Go.Proofs.Try.prog (codeAt (bodyOf Go.Proofs.Try.f89) 100013) := by
  intro n
  induction n with
  | zero =>
    intro R ds k r h
    unfold m_slices_partitionOrdered_L100013 at h
    obtain ⟨x0, d0, rfl, h0⟩ := dI_some h
    obtain ⟨x1, d1, rfl, h1⟩ := dI_some h0
    obtain ⟨x2, d2, rfl, h2⟩ := dI_some h1
    obtain ⟨x3, d3, rfl, h3⟩ := dL_some h2
    obtain ⟨rfl, hE⟩ := dE_some h3
    obtain ⟨y, hy, hk⟩ := bnd_some hE
    cases hy
  | succ n ih =>
    intro R ds k r h
    unfold m_slices_partitionOrdered_L100013 at h
    obtain ⟨x0, d0, rfl, h0⟩ := dI_some h
    obtain ⟨x1, d1, rfl, h1⟩ := dI_some h0
    obtain ⟨x2, d2, rfl, h2⟩ := dI_some h1
    obtain ⟨x3, d3, rfl, h3⟩ := dL_some h2
    obtain ⟨rfl, hE⟩ := dE_some h3
    obtain ⟨y, hy, hk⟩ := bnd_some hE
    have hq := q_slices_partitionOrdered_L100013 (n_slices_partitionOrdered_L100013 n) x0 x1 x2 x3
    rw [c_slices_partitionOrdered_L100013_bind] at hq
    rw [show c_slices_partitionOrdered_L100013 (n_slices_partitionOrdered_L100013 n) x0 x1 x2 x3 some = some y from hy] at hq
    refine ⟨0, _, _, _, hk, rfl, loop_ok px (fx := ⟨Go.Proofs.Try.func89, by kernel_rfl, by kernel_rfl⟩) entsOK_nil (lentsOK_cons ih (lentsOK_cons e_slices_partitionOrdered_L13_ok (lentsOK_cons e_slices_partitionOrdered_L15_ok lentsOK_nil))) (by kernel_rfl) ?_⟩
    exact hq
noncomputable def e_slices_partitionOrdered_L100013 : Lent := m_slices_partitionOrdered_L100013 (slices_partitionOrdered_L100013)
theorem e_slices_partitionOrdered_L100013_ok : (e_slices_partitionOrdered_L100013).ok Go.Proofs.Try.prog (codeAt (bodyOf Go.Proofs.Try.f89) 100013) := by
  intro R ds k r h
  unfold e_slices_partitionOrdered_L100013 m_slices_partitionOrdered_L100013 at h
  obtain ⟨x0, d0, rfl, h0⟩ := dI_some h
  obtain ⟨x1, d1, rfl, h1⟩ := dI_some h0
  obtain ⟨x2, d2, rfl, h2⟩ := dI_some h1
  obtain ⟨x3, d3, rfl, h3⟩ := dL_some h2
  obtain ⟨rfl, hE⟩ := dE_some h3
  obtain ⟨y, hy, hk⟩ := bnd_some hE
  obtain ⟨n, hn⟩ := ev_some hy
  exact m_slices_partitionOrdered_L100013_ok n R _ k r (show (n_slices_partitionOrdered_L100013 n x0 x1 x2 x3).bind _ = _ by rw [hn]; exact hk)

/-! slices.partitionOrdered[int] -/
def c_slices_partitionOrdered {R : Type} (x0 : List D) (x1 : Int) (x2 : Int) (x3 : Int) (k : Int × Bool × List D → Option R) : Option R :=
 if (0 : Int) ≤ x3 ∧ x3 < (↑x0.length : Int) then
 if x3.toNat + (1 : Nat) ≤ x0.length then
 if (0 : Int) ≤ x1 ∧ x1 < (↑x0.length : Int) then
 if x1.toNat + (1 : Nat) ≤ x0.length then
 if (0 : Int) ≤ x1 ∧ x1 < (↑x0.length : Int) then
 if x1.toNat + (1 : Nat) ≤ x0.length then
 if (0 : Int) ≤ x3 ∧ x3 < (↑(x0.set x1.toNat (Go.Rai.D.int (x0.getD x3.toNat (Go.Rai.D.int (0 : Int))).toInt)).length : Int) then
 if x3.toNat + (1 : Nat) ≤ (x0.set x1.toNat (Go.Rai.D.int (x0.getD x3.toNat (Go.Rai.D.int (0 : Int))).toInt)).length then
 (slices_partitionOrdered_L3 x1 (Go.IntKind.i64.wrap (x1 + (1 : Int))) (Go.IntKind.i64.wrap (x2 - (1 : Int))) ((x0.set x1.toNat (Go.Rai.D.int (x0.getD x3.toNat (Go.Rai.D.int (0 : Int))).toInt)).set x3.toNat (Go.Rai.D.int (x0.getD x1.toNat (Go.Rai.D.int (0 : Int))).toInt))).bind (fun y0 =>
 (slices_partitionOrdered_L5 y0.fst y0.snd.fst y0.snd.snd.fst y0.snd.snd.snd).bind (fun y1 =>
 bif Decidable.decide (y1.snd.snd.fst < y1.snd.fst) then
 if (0 : Int) ≤ y1.fst ∧ y1.fst < (↑y1.snd.snd.snd.length : Int) then
 if y1.fst.toNat + (1 : Nat) ≤ y1.snd.snd.snd.length then
 if (0 : Int) ≤ y1.snd.snd.fst ∧ y1.snd.snd.fst < (↑y1.snd.snd.snd.length : Int) then
 if y1.snd.snd.fst.toNat + (1 : Nat) ≤ y1.snd.snd.snd.length then
 if (0 : Int) ≤ y1.snd.snd.fst ∧ y1.snd.snd.fst < (↑y1.snd.snd.snd.length : Int) then
 if y1.snd.snd.fst.toNat + (1 : Nat) ≤ y1.snd.snd.snd.length then
 if (0 : Int) ≤ y1.fst ∧ y1.fst < (↑(y1.snd.snd.snd.set y1.snd.snd.fst.toNat (Go.Rai.D.int (y1.snd.snd.snd.getD y1.fst.toNat (Go.Rai.D.int (0 : Int))).toInt)).length : Int) then
 if y1.fst.toNat + (1 : Nat) ≤ (y1.snd.snd.snd.set y1.snd.snd.fst.toNat (Go.Rai.D.int (y1.snd.snd.snd.getD y1.fst.toNat (Go.Rai.D.int (0 : Int))).toInt)).length then
 k (y1.snd.snd.fst, Bool.true, (y1.snd.snd.snd.set y1.snd.snd.fst.toNat (Go.Rai.D.int (y1.snd.snd.snd.getD y1.fst.toNat (Go.Rai.D.int (0 : Int))).toInt)).set y1.fst.toNat (Go.Rai.D.int (y1.snd.snd.snd.getD y1.snd.snd.fst.toNat (Go.Rai.D.int (0 : Int))).toInt))
 else
 none
 else
 none
 else
 none
 else
 none
 else
 none
 else
 none
 else
 none
 else
 none
 else
 if (0 : Int) ≤ y1.snd.snd.fst ∧ y1.snd.snd.fst < (↑y1.snd.snd.snd.length : Int) then
 if y1.snd.snd.fst.toNat + (1 : Nat) ≤ y1.snd.snd.snd.length then
 if (0 : Int) ≤ y1.snd.fst ∧ y1.snd.fst < (↑y1.snd.snd.snd.length : Int) then
 if y1.snd.fst.toNat + (1 : Nat) ≤ y1.snd.snd.snd.length then
 if (0 : Int) ≤ y1.snd.fst ∧ y1.snd.fst < (↑y1.snd.snd.snd.length : Int) then
 if y1.snd.fst.toNat + (1 : Nat) ≤ y1.snd.snd.snd.length then
 if (0 : Int) ≤ y1.snd.snd.fst ∧ y1.snd.snd.fst < (↑(y1.snd.snd.snd.set y1.snd.fst.toNat (Go.Rai.D.int (y1.snd.snd.snd.getD y1.snd.snd.fst.toNat (Go.Rai.D.int (0 : Int))).toInt)).length : Int) then
 if y1.snd.snd.fst.toNat + (1 : Nat) ≤ (y1.snd.snd.snd.set y1.snd.fst.toNat (Go.Rai.D.int (y1.snd.snd.snd.getD y1.snd.snd.fst.toNat (Go.Rai.D.int (0 : Int))).toInt)).length then
 (slices_partitionOrdered_L100013 y1.fst (Go.IntKind.i64.wrap (y1.snd.fst + (1 : Int))) (Go.IntKind.i64.wrap (y1.snd.snd.fst - (1 : Int))) ((y1.snd.snd.snd.set y1.snd.fst.toNat (Go.Rai.D.int (y1.snd.snd.snd.getD y1.snd.snd.fst.toNat (Go.Rai.D.int (0 : Int))).toInt)).set y1.snd.snd.fst.toNat (Go.Rai.D.int (y1.snd.snd.snd.getD y1.snd.fst.toNat (Go.Rai.D.int (0 : Int))).toInt))).bind (fun y2 =>
 if (0 : Int) ≤ y2.fst ∧ y2.fst < (↑y2.snd.snd.length : Int) then
 if y2.fst.toNat + (1 : Nat) ≤ y2.snd.snd.length then
 if (0 : Int) ≤ y2.snd.fst ∧ y2.snd.fst < (↑y2.snd.snd.length : Int) then
 if y2.snd.fst.toNat + (1 : Nat) ≤ y2.snd.snd.length then
 if (0 : Int) ≤ y2.snd.fst ∧ y2.snd.fst < (↑y2.snd.snd.length : Int) then
 if y2.snd.fst.toNat + (1 : Nat) ≤ y2.snd.snd.length then
 if (0 : Int) ≤ y2.fst ∧ y2.fst < (↑(y2.snd.snd.set y2.snd.fst.toNat (Go.Rai.D.int (y2.snd.snd.getD y2.fst.toNat (Go.Rai.D.int (0 : Int))).toInt)).length : Int) then
 if y2.fst.toNat + (1 : Nat) ≤ (y2.snd.snd.set y2.snd.fst.toNat (Go.Rai.D.int (y2.snd.snd.getD y2.fst.toNat (Go.Rai.D.int (0 : Int))).toInt)).length then
 k (y2.snd.fst, Bool.false, (y2.snd.snd.set y2.snd.fst.toNat (Go.Rai.D.int (y2.snd.snd.getD y2.fst.toNat (Go.Rai.D.int (0 : Int))).toInt)).set y2.fst.toNat (Go.Rai.D.int (y2.snd.snd.getD y2.snd.fst.toNat (Go.Rai.D.int (0 : Int))).toInt))
 else
 none
 else
 none
 else
 none
 else
 none
 else
 none
 else
 none
 else
 none
 else
 none)
 else
 none
 else
 none
 else
 none
 else
 none
 else
 none
 else
 none
 else
 none
 else
 none))
 else
 none
 else
 none
 else
 none
 else
 none
 else
 none
 else
 none
 else
 none
 else
 none
theorem c_slices_partitionOrdered_bind {R : Type} (x0 : List D) (x1 : Int) (x2 : Int) (x3 : Int) (k : Int × Bool × List D → Option R) : c_slices_partitionOrdered x0 x1 x2 x3 k = (c_slices_partitionOrdered x0 x1 x2 x3 some).bind k := by
  unfold c_slices_partitionOrdered
  repeat' first
    | exact bnd_tail
    | exact bnd_none
    | exact bnd_leaf
    | apply bnd_ite
    | apply bnd_cond
    | apply bnd_sum
    | (apply bnd_bind; intro _)
    | intro _
def slices_partitionOrdered (x0 : List D) (x1 : Int) (x2 : Int) (x3 : Int) : Option (Int × Bool × List D) := c_slices_partitionOrdered x0 x1 x2 x3 some
def e_slices_partitionOrdered : Ent := ⟨89, [.own (.int .i64), .int .i64, .int .i64, .int .i64], .tup [.int .i64, .bool], [.own (.int .i64), .undef, .undef, .undef], fun _ ds k => dL (fun x0 ds => dI (fun x1 ds => dI (fun x2 ds => dI (fun x3 ds => dE ((slices_partitionOrdered x0 x1 x2 x3).bind (fun y => k [.I y.1, .B y.2.1, .L y.2.2])) ds) ds) ds) ds) ds⟩
theorem q_slices_partitionOrdered (x0 : List D) (x1 : Int) (x2 : Int) (x3 : Int) : runFn (ocOf []) (olOf [e_slices_partitionOrdered_L3, e_slices_partitionOrdered_L5, e_slices_partitionOrdered_L100013]) A 89 Go.Proofs.Try.f89 (Sh.mks e_slices_partitionOrdered.sh [.L x0, .I x1, .I x2, .I x3]).1 (fun v os => some (v, os)) = c_slices_partitionOrdered x0 x1 x2 x3 (fun y => some ((e_slices_partitionOrdered.res.mk [.I y.1, .B y.2.1, .L y.2.2]).1, (Sh.mks e_slices_partitionOrdered.outs (e_slices_partitionOrdered.res.mk [.I y.1, .B y.2.1, .L y.2.2]).2).1)) := by kernel_rfl
theorem e_slices_partitionOrdered_ok : e_slices_partitionOrdered.ok Go.Proofs.Try.prog A := by
  intro R ds k r h
  unfold e_slices_partitionOrdered at h
  obtain ⟨x0, d0, rfl, h0⟩ := dL_some h
  obtain ⟨x1, d1, rfl, h1⟩ := dI_some h0
  obtain ⟨x2, d2, rfl, h2⟩ := dI_some h1
  obtain ⟨x3, d3, rfl, h3⟩ := dI_some h2
  obtain ⟨rfl, hE⟩ := dE_some h3
  obtain ⟨y, hy, hk⟩ := bnd_some hE
  refine ⟨_, hk, fn_ok px (fx := ⟨Go.Proofs.Try.func89, by kernel_rfl, by kernel_rfl⟩) entsOK_nil (lentsOK_cons e_slices_partitionOrdered_L3_ok (lentsOK_cons e_slices_partitionOrdered_L5_ok (lentsOK_cons e_slices_partitionOrdered_L100013_ok lentsOK_nil))) ?_⟩
  have hq := q_slices_partitionOrdered x0 x1 x2 x3
  rw [c_slices_partitionOrdered_bind] at hq
  rw [show c_slices_partitionOrdered x0 x1 x2 x3 some = some y from hy] at hq
  exact hq

def m_slices_pdqsortOrdered (F : List D → Int → Int → Int → Option (List D)) : Ent := ⟨76, [.own (.int .i64), .int .i64, .int .i64, .int .i64], .tup [], [.own (.int .i64), .undef, .undef, .undef], fun _ ds k => dL (fun x0 ds => dI (fun x1 ds => dI (fun x2 ds => dI (fun x3 ds => dE ((F x0 x1 x2 x3).bind (fun y => k [.L y])) ds) ds) ds) ds) ds⟩

/-! slices.pdqsortOrdered[int], loop 2 -/
def c_slices_pdqsortOrdered_L2 {R : Type} (G_slices_pdqsortOrdered : List D → Int → Int → Int → Option (List D)) (F : Int → Int → Int → Bool → Bool → List D → Option (List D)) (x0 : Int) (x1 : Int) (x2 : Int) (x3 : Bool) (x4 : Bool) (x5 : List D) (k : List D → Option R) : Option R :=
 bif Decidable.decide (Go.IntKind.i64.wrap (x1 - x0) ≤ (12 : Int)) then
 (slices_insertionSortOrdered x5 x0 x1).bind (fun y0 =>
 k y0)
 else
 bif Decidable.decide (x2 = (0 : Int)) then
 (slices_heapSortOrdered x5 x0 x1).bind (fun y1 =>
 k y1)
 else
 bif !x3 then
 (slices_breakPatternsOrdered x5 x0 x1).bind (fun y2 =>
 (slices_choosePivotOrdered y2 x0 x1).bind (fun y3 =>
 bif Decidable.decide (y3.snd = (2 : Int)) then
 (slices_reverseRangeOrdered y2 x0 x1).bind (fun y4 =>
 bif x3 then
 bif x4 then
 bif Decidable.decide ((1 : Int) = (1 : Int)) then
 (slices_partialInsertionSortOrdered y4 x0 x1).bind (fun y5 =>
 bif y5.fst then
 k y5.snd
 else
 bif Decidable.decide ((0 : Int) < x0) then
 if (0 : Int) ≤ Go.IntKind.i64.wrap (x0 - (1 : Int)) ∧ Go.IntKind.i64.wrap (x0 - (1 : Int)) < (↑y5.snd.length : Int) then
 if (Go.IntKind.i64.wrap (x0 - (1 : Int))).toNat + (1 : Nat) ≤ y5.snd.length then
 if (0 : Int) ≤ Go.IntKind.i64.wrap (Go.IntKind.i64.wrap (x1 - (1 : Int)) - Go.IntKind.i64.wrap (y3.fst - x0)) ∧ Go.IntKind.i64.wrap (Go.IntKind.i64.wrap (x1 - (1 : Int)) - Go.IntKind.i64.wrap (y3.fst - x0)) < (↑y5.snd.length : Int) then
 if (Go.IntKind.i64.wrap (Go.IntKind.i64.wrap (x1 - (1 : Int)) - Go.IntKind.i64.wrap (y3.fst - x0))).toNat + (1 : Nat) ≤ y5.snd.length then
 (cmp_Less ((y5.snd.getD (Go.IntKind.i64.wrap (x0 - (1 : Int))).toNat (Go.Rai.D.int (0 : Int))).toInt) ((y5.snd.getD (Go.IntKind.i64.wrap (Go.IntKind.i64.wrap (x1 - (1 : Int)) - Go.IntKind.i64.wrap (y3.fst - x0))).toNat (Go.Rai.D.int (0 : Int))).toInt)).bind (fun y6 =>
 bif !y6 then
 (slices_partitionEqualOrdered y5.snd x0 x1 (Go.IntKind.i64.wrap (Go.IntKind.i64.wrap (x1 - (1 : Int)) - Go.IntKind.i64.wrap (y3.fst - x0)))).bind (fun y7 =>
 (F y7.fst x1 (Go.IntKind.i64.wrap (x2 - (1 : Int))) x3 x4 y7.snd).bind k)
 else
 (slices_partitionOrdered y5.snd x0 x1 (Go.IntKind.i64.wrap (Go.IntKind.i64.wrap (x1 - (1 : Int)) - Go.IntKind.i64.wrap (y3.fst - x0)))).bind (fun y8 =>
 if (8 : Int) ≠ (0 : Int) then
 bif Decidable.decide (Go.IntKind.i64.wrap (y8.fst - x0) < Go.IntKind.i64.wrap (x1 - y8.fst)) then
 (G_slices_pdqsortOrdered y8.snd.snd x0 y8.fst (Go.IntKind.i64.wrap (x2 - (1 : Int)))).bind (fun y9 =>
 (F (Go.IntKind.i64.wrap (y8.fst + (1 : Int))) x1 (Go.IntKind.i64.wrap (x2 - (1 : Int))) (Decidable.decide (Go.IntKind.i64.wrap ((Go.IntKind.i64.wrap (x1 - x0)).tdiv (8 : Int)) ≤ Go.IntKind.i64.wrap (y8.fst - x0))) y8.snd.fst y9).bind k)
 else
 (G_slices_pdqsortOrdered y8.snd.snd (Go.IntKind.i64.wrap (y8.fst + (1 : Int))) x1 (Go.IntKind.i64.wrap (x2 - (1 : Int)))).bind (fun y10 =>
 (F x0 y8.fst (Go.IntKind.i64.wrap (x2 - (1 : Int))) (Decidable.decide (Go.IntKind.i64.wrap ((Go.IntKind.i64.wrap (x1 - x0)).tdiv (8 : Int)) ≤ Go.IntKind.i64.wrap (x1 - y8.fst))) y8.snd.fst y10).bind k)
 else
 none))
 else
 none
 else
 none
 else
 none
 else
 none
 else
 (slices_partitionOrdered y5.snd x0 x1 (Go.IntKind.i64.wrap (Go.IntKind.i64.wrap (x1 - (1 : Int)) - Go.IntKind.i64.wrap (y3.fst - x0)))).bind (fun y11 =>
 if (8 : Int) ≠ (0 : Int) then
 bif Decidable.decide (Go.IntKind.i64.wrap (y11.fst - x0) < Go.IntKind.i64.wrap (x1 - y11.fst)) then
 (G_slices_pdqsortOrdered y11.snd.snd x0 y11.fst (Go.IntKind.i64.wrap (x2 - (1 : Int)))).bind (fun y12 =>
 (F (Go.IntKind.i64.wrap (y11.fst + (1 : Int))) x1 (Go.IntKind.i64.wrap (x2 - (1 : Int))) (Decidable.decide (Go.IntKind.i64.wrap ((Go.IntKind.i64.wrap (x1 - x0)).tdiv (8 : Int)) ≤ Go.IntKind.i64.wrap (y11.fst - x0))) y11.snd.fst y12).bind k)
 else
 (G_slices_pdqsortOrdered y11.snd.snd (Go.IntKind.i64.wrap (y11.fst + (1 : Int))) x1 (Go.IntKind.i64.wrap (x2 - (1 : Int)))).bind (fun y13 =>
 (F x0 y11.fst (Go.IntKind.i64.wrap (x2 - (1 : Int))) (Decidable.decide (Go.IntKind.i64.wrap ((Go.IntKind.i64.wrap (x1 - x0)).tdiv (8 : Int)) ≤ Go.IntKind.i64.wrap (x1 - y11.fst))) y11.snd.fst y13).bind k)
 else
 none))
 else
 bif Decidable.decide ((0 : Int) < x0) then
 if (0 : Int) ≤ Go.IntKind.i64.wrap (x0 - (1 : Int)) ∧ Go.IntKind.i64.wrap (x0 - (1 : Int)) < (↑y4.length : Int) then
 if (Go.IntKind.i64.wrap (x0 - (1 : Int))).toNat + (1 : Nat) ≤ y4.length then
 if (0 : Int) ≤ Go.IntKind.i64.wrap (Go.IntKind.i64.wrap (x1 - (1 : Int)) - Go.IntKind.i64.wrap (y3.fst - x0)) ∧ Go.IntKind.i64.wrap (Go.IntKind.i64.wrap (x1 - (1 : Int)) - Go.IntKind.i64.wrap (y3.fst - x0)) < (↑y4.length : Int) then
 if (Go.IntKind.i64.wrap (Go.IntKind.i64.wrap (x1 - (1 : Int)) - Go.IntKind.i64.wrap (y3.fst - x0))).toNat + (1 : Nat) ≤ y4.length then
 (cmp_Less ((y4.getD (Go.IntKind.i64.wrap (x0 - (1 : Int))).toNat (Go.Rai.D.int (0 : Int))).toInt) ((y4.getD (Go.IntKind.i64.wrap (Go.IntKind.i64.wrap (x1 - (1 : Int)) - Go.IntKind.i64.wrap (y3.fst - x0))).toNat (Go.Rai.D.int (0 : Int))).toInt)).bind (fun y14 =>
 bif !y14 then
 (slices_partitionEqualOrdered y4 x0 x1 (Go.IntKind.i64.wrap (Go.IntKind.i64.wrap (x1 - (1 : Int)) - Go.IntKind.i64.wrap (y3.fst - x0)))).bind (fun y15 =>
 (F y15.fst x1 (Go.IntKind.i64.wrap (x2 - (1 : Int))) x3 x4 y15.snd).bind k)
 else
 (slices_partitionOrdered y4 x0 x1 (Go.IntKind.i64.wrap (Go.IntKind.i64.wrap (x1 - (1 : Int)) - Go.IntKind.i64.wrap (y3.fst - x0)))).bind (fun y16 =>
 if (8 : Int) ≠ (0 : Int) then
 bif Decidable.decide (Go.IntKind.i64.wrap (y16.fst - x0) < Go.IntKind.i64.wrap (x1 - y16.fst)) then
 (G_slices_pdqsortOrdered y16.snd.snd x0 y16.fst (Go.IntKind.i64.wrap (x2 - (1 : Int)))).bind (fun y17 =>
 (F (Go.IntKind.i64.wrap (y16.fst + (1 : Int))) x1 (Go.IntKind.i64.wrap (x2 - (1 : Int))) (Decidable.decide (Go.IntKind.i64.wrap ((Go.IntKind.i64.wrap (x1 - x0)).tdiv (8 : Int)) ≤ Go.IntKind.i64.wrap (y16.fst - x0))) y16.snd.fst y17).bind k)
 else
 (G_slices_pdqsortOrdered y16.snd.snd (Go.IntKind.i64.wrap (y16.fst + (1 : Int))) x1 (Go.IntKind.i64.wrap (x2 - (1 : Int)))).bind (fun y18 =>
 (F x0 y16.fst (Go.IntKind.i64.wrap (x2 - (1 : Int))) (Decidable.decide (Go.IntKind.i64.wrap ((Go.IntKind.i64.wrap (x1 - x0)).tdiv (8 : Int)) ≤ Go.IntKind.i64.wrap (x1 - y16.fst))) y16.snd.fst y18).bind k)
 else
 none))
 else
 none
 else
 none
 else
 none
 else
 none
 else
 (slices_partitionOrdered y4 x0 x1 (Go.IntKind.i64.wrap (Go.IntKind.i64.wrap (x1 - (1 : Int)) - Go.IntKind.i64.wrap (y3.fst - x0)))).bind (fun y19 =>
 if (8 : Int) ≠ (0 : Int) then
 bif Decidable.decide (Go.IntKind.i64.wrap (y19.fst - x0) < Go.IntKind.i64.wrap (x1 - y19.fst)) then
 (G_slices_pdqsortOrdered y19.snd.snd x0 y19.fst (Go.IntKind.i64.wrap (x2 - (1 : Int)))).bind (fun y20 =>
 (F (Go.IntKind.i64.wrap (y19.fst + (1 : Int))) x1 (Go.IntKind.i64.wrap (x2 - (1 : Int))) (Decidable.decide (Go.IntKind.i64.wrap ((Go.IntKind.i64.wrap (x1 - x0)).tdiv (8 : Int)) ≤ Go.IntKind.i64.wrap (y19.fst - x0))) y19.snd.fst y20).bind k)
 else
 (G_slices_pdqsortOrdered y19.snd.snd (Go.IntKind.i64.wrap (y19.fst + (1 : Int))) x1 (Go.IntKind.i64.wrap (x2 - (1 : Int)))).bind (fun y21 =>
 (F x0 y19.fst (Go.IntKind.i64.wrap (x2 - (1 : Int))) (Decidable.decide (Go.IntKind.i64.wrap ((Go.IntKind.i64.wrap (x1 - x0)).tdiv (8 : Int)) ≤ Go.IntKind.i64.wrap (x1 - y19.fst))) y19.snd.fst y21).bind k)
 else
 none)
 else
 bif Decidable.decide ((0 : Int) < x0) then
 if (0 : Int) ≤ Go.IntKind.i64.wrap (x0 - (1 : Int)) ∧ Go.IntKind.i64.wrap (x0 - (1 : Int)) < (↑y4.length : Int) then
 if (Go.IntKind.i64.wrap (x0 - (1 : Int))).toNat + (1 : Nat) ≤ y4.length then
 if (0 : Int) ≤ Go.IntKind.i64.wrap (Go.IntKind.i64.wrap (x1 - (1 : Int)) - Go.IntKind.i64.wrap (y3.fst - x0)) ∧ Go.IntKind.i64.wrap (Go.IntKind.i64.wrap (x1 - (1 : Int)) - Go.IntKind.i64.wrap (y3.fst - x0)) < (↑y4.length : Int) then
 if (Go.IntKind.i64.wrap (Go.IntKind.i64.wrap (x1 - (1 : Int)) - Go.IntKind.i64.wrap (y3.fst - x0))).toNat + (1 : Nat) ≤ y4.length then
 (cmp_Less ((y4.getD (Go.IntKind.i64.wrap (x0 - (1 : Int))).toNat (Go.Rai.D.int (0 : Int))).toInt) ((y4.getD (Go.IntKind.i64.wrap (Go.IntKind.i64.wrap (x1 - (1 : Int)) - Go.IntKind.i64.wrap (y3.fst - x0))).toNat (Go.Rai.D.int (0 : Int))).toInt)).bind (fun y22 =>
 bif !y22 then
 (slices_partitionEqualOrdered y4 x0 x1 (Go.IntKind.i64.wrap (Go.IntKind.i64.wrap (x1 - (1 : Int)) - Go.IntKind.i64.wrap (y3.fst - x0)))).bind (fun y23 =>
 (F y23.fst x1 (Go.IntKind.i64.wrap (x2 - (1 : Int))) x3 x4 y23.snd).bind k)
 else
 (slices_partitionOrdered y4 x0 x1 (Go.IntKind.i64.wrap (Go.IntKind.i64.wrap (x1 - (1 : Int)) - Go.IntKind.i64.wrap (y3.fst - x0)))).bind (fun y24 =>
 if (8 : Int) ≠ (0 : Int) then
 bif Decidable.decide (Go.IntKind.i64.wrap (y24.fst - x0) < Go.IntKind.i64.wrap (x1 - y24.fst)) then
 (G_slices_pdqsortOrdered y24.snd.snd x0 y24.fst (Go.IntKind.i64.wrap (x2 - (1 : Int)))).bind (fun y25 =>
 (F (Go.IntKind.i64.wrap (y24.fst + (1 : Int))) x1 (Go.IntKind.i64.wrap (x2 - (1 : Int))) (Decidable.decide (Go.IntKind.i64.wrap ((Go.IntKind.i64.wrap (x1 - x0)).tdiv (8 : Int)) ≤ Go.IntKind.i64.wrap (y24.fst - x0))) y24.snd.fst y25).bind k)
 else
 (G_slices_pdqsortOrdered y24.snd.snd (Go.IntKind.i64.wrap (y24.fst + (1 : Int))) x1 (Go.IntKind.i64.wrap (x2 - (1 : Int)))).bind (fun y26 =>
 (F x0 y24.fst (Go.IntKind.i64.wrap (x2 - (1 : Int))) (Decidable.decide (Go.IntKind.i64.wrap ((Go.IntKind.i64.wrap (x1 - x0)).tdiv (8 : Int)) ≤ Go.IntKind.i64.wrap (x1 - y24.fst))) y24.snd.fst y26).bind k)
 else
 none))
 else
 none
 else
 none
 else
 none
 else
 none
 else
 (slices_partitionOrdered y4 x0 x1 (Go.IntKind.i64.wrap (Go.IntKind.i64.wrap (x1 - (1 : Int)) - Go.IntKind.i64.wrap (y3.fst - x0)))).bind (fun y27 =>
 if (8 : Int) ≠ (0 : Int) then
 bif Decidable.decide (Go.IntKind.i64.wrap (y27.fst - x0) < Go.IntKind.i64.wrap (x1 - y27.fst)) then
 (G_slices_pdqsortOrdered y27.snd.snd x0 y27.fst (Go.IntKind.i64.wrap (x2 - (1 : Int)))).bind (fun y28 =>
 (F (Go.IntKind.i64.wrap (y27.fst + (1 : Int))) x1 (Go.IntKind.i64.wrap (x2 - (1 : Int))) (Decidable.decide (Go.IntKind.i64.wrap ((Go.IntKind.i64.wrap (x1 - x0)).tdiv (8 : Int)) ≤ Go.IntKind.i64.wrap (y27.fst - x0))) y27.snd.fst y28).bind k)
 else
 (G_slices_pdqsortOrdered y27.snd.snd (Go.IntKind.i64.wrap (y27.fst + (1 : Int))) x1 (Go.IntKind.i64.wrap (x2 - (1 : Int)))).bind (fun y29 =>
 (F x0 y27.fst (Go.IntKind.i64.wrap (x2 - (1 : Int))) (Decidable.decide (Go.IntKind.i64.wrap ((Go.IntKind.i64.wrap (x1 - x0)).tdiv (8 : Int)) ≤ Go.IntKind.i64.wrap (x1 - y27.fst))) y27.snd.fst y29).bind k)
 else
 none)
 else
 bif Decidable.decide ((0 : Int) < x0) then
 if (0 : Int) ≤ Go.IntKind.i64.wrap (x0 - (1 : Int)) ∧ Go.IntKind.i64.wrap (x0 - (1 : Int)) < (↑y4.length : Int) then
 if (Go.IntKind.i64.wrap (x0 - (1 : Int))).toNat + (1 : Nat) ≤ y4.length then
 if (0 : Int) ≤ Go.IntKind.i64.wrap (Go.IntKind.i64.wrap (x1 - (1 : Int)) - Go.IntKind.i64.wrap (y3.fst - x0)) ∧ Go.IntKind.i64.wrap (Go.IntKind.i64.wrap (x1 - (1 : Int)) - Go.IntKind.i64.wrap (y3.fst - x0)) < (↑y4.length : Int) then
 if (Go.IntKind.i64.wrap (Go.IntKind.i64.wrap (x1 - (1 : Int)) - Go.IntKind.i64.wrap (y3.fst - x0))).toNat + (1 : Nat) ≤ y4.length then
 (cmp_Less ((y4.getD (Go.IntKind.i64.wrap (x0 - (1 : Int))).toNat (Go.Rai.D.int (0 : Int))).toInt) ((y4.getD (Go.IntKind.i64.wrap (Go.IntKind.i64.wrap (x1 - (1 : Int)) - Go.IntKind.i64.wrap (y3.fst - x0))).toNat (Go.Rai.D.int (0 : Int))).toInt)).bind (fun y30 =>
 bif !y30 then
 (slices_partitionEqualOrdered y4 x0 x1 (Go.IntKind.i64.wrap (Go.IntKind.i64.wrap (x1 - (1 : Int)) - Go.IntKind.i64.wrap (y3.fst - x0)))).bind (fun y31 =>
 (F y31.fst x1 (Go.IntKind.i64.wrap (x2 - (1 : Int))) x3 x4 y31.snd).bind k)
 else
 (slices_partitionOrdered y4 x0 x1 (Go.IntKind.i64.wrap (Go.IntKind.i64.wrap (x1 - (1 : Int)) - Go.IntKind.i64.wrap (y3.fst - x0)))).bind (fun y32 =>
 if (8 : Int) ≠ (0 : Int) then
 bif Decidable.decide (Go.IntKind.i64.wrap (y32.fst - x0) < Go.IntKind.i64.wrap (x1 - y32.fst)) then
 (G_slices_pdqsortOrdered y32.snd.snd x0 y32.fst (Go.IntKind.i64.wrap (x2 - (1 : Int)))).bind (fun y33 =>
 (F (Go.IntKind.i64.wrap (y32.fst + (1 : Int))) x1 (Go.IntKind.i64.wrap (x2 - (1 : Int))) (Decidable.decide (Go.IntKind.i64.wrap ((Go.IntKind.i64.wrap (x1 - x0)).tdiv (8 : Int)) ≤ Go.IntKind.i64.wrap (y32.fst - x0))) y32.snd.fst y33).bind k)
 else
 (G_slices_pdqsortOrdered y32.snd.snd (Go.IntKind.i64.wrap (y32.fst + (1 : Int))) x1 (Go.IntKind.i64.wrap (x2 - (1 : Int)))).bind (fun y34 =>
 (F x0 y32.fst (Go.IntKind.i64.wrap (x2 - (1 : Int))) (Decidable.decide (Go.IntKind.i64.wrap ((Go.IntKind.i64.wrap (x1 - x0)).tdiv (8 : Int)) ≤ Go.IntKind.i64.wrap (x1 - y32.fst))) y32.snd.fst y34).bind k)
 else
 none))
 else
 none
 else
 none
 else
 none
 else
 none
 else
 (slices_partitionOrdered y4 x0 x1 (Go.IntKind.i64.wrap (Go.IntKind.i64.wrap (x1 - (1 : Int)) - Go.IntKind.i64.wrap (y3.fst - x0)))).bind (fun y35 =>
 if (8 : Int) ≠ (0 : Int) then
 bif Decidable.decide (Go.IntKind.i64.wrap (y35.fst - x0) < Go.IntKind.i64.wrap (x1 - y35.fst)) then
 (G_slices_pdqsortOrdered y35.snd.snd x0 y35.fst (Go.IntKind.i64.wrap (x2 - (1 : Int)))).bind (fun y36 =>
 (F (Go.IntKind.i64.wrap (y35.fst + (1 : Int))) x1 (Go.IntKind.i64.wrap (x2 - (1 : Int))) (Decidable.decide (Go.IntKind.i64.wrap ((Go.IntKind.i64.wrap (x1 - x0)).tdiv (8 : Int)) ≤ Go.IntKind.i64.wrap (y35.fst - x0))) y35.snd.fst y36).bind k)
 else
 (G_slices_pdqsortOrdered y35.snd.snd (Go.IntKind.i64.wrap (y35.fst + (1 : Int))) x1 (Go.IntKind.i64.wrap (x2 - (1 : Int)))).bind (fun y37 =>
 (F x0 y35.fst (Go.IntKind.i64.wrap (x2 - (1 : Int))) (Decidable.decide (Go.IntKind.i64.wrap ((Go.IntKind.i64.wrap (x1 - x0)).tdiv (8 : Int)) ≤ Go.IntKind.i64.wrap (x1 - y35.fst))) y35.snd.fst y37).bind k)
 else
 none))
 else
 bif x3 then
 bif x4 then
 bif Decidable.decide (y3.snd = (1 : Int)) then
 (slices_partialInsertionSortOrdered y2 x0 x1).bind (fun y38 =>
 bif y38.fst then
 k y38.snd
 else
 bif Decidable.decide ((0 : Int) < x0) then
 if (0 : Int) ≤ Go.IntKind.i64.wrap (x0 - (1 : Int)) ∧ Go.IntKind.i64.wrap (x0 - (1 : Int)) < (↑y38.snd.length : Int) then
 if (Go.IntKind.i64.wrap (x0 - (1 : Int))).toNat + (1 : Nat) ≤ y38.snd.length then
 if (0 : Int) ≤ y3.fst ∧ y3.fst < (↑y38.snd.length : Int) then
 if y3.fst.toNat + (1 : Nat) ≤ y38.snd.length then
 (cmp_Less ((y38.snd.getD (Go.IntKind.i64.wrap (x0 - (1 : Int))).toNat (Go.Rai.D.int (0 : Int))).toInt) ((y38.snd.getD y3.fst.toNat (Go.Rai.D.int (0 : Int))).toInt)).bind (fun y39 =>
 bif !y39 then
 (slices_partitionEqualOrdered y38.snd x0 x1 y3.fst).bind (fun y40 =>
 (F y40.fst x1 (Go.IntKind.i64.wrap (x2 - (1 : Int))) x3 x4 y40.snd).bind k)
 else
 (slices_partitionOrdered y38.snd x0 x1 y3.fst).bind (fun y41 =>
 if (8 : Int) ≠ (0 : Int) then
 bif Decidable.decide (Go.IntKind.i64.wrap (y41.fst - x0) < Go.IntKind.i64.wrap (x1 - y41.fst)) then
 (G_slices_pdqsortOrdered y41.snd.snd x0 y41.fst (Go.IntKind.i64.wrap (x2 - (1 : Int)))).bind (fun y42 =>
 (F (Go.IntKind.i64.wrap (y41.fst + (1 : Int))) x1 (Go.IntKind.i64.wrap (x2 - (1 : Int))) (Decidable.decide (Go.IntKind.i64.wrap ((Go.IntKind.i64.wrap (x1 - x0)).tdiv (8 : Int)) ≤ Go.IntKind.i64.wrap (y41.fst - x0))) y41.snd.fst y42).bind k)
 else
 (G_slices_pdqsortOrdered y41.snd.snd (Go.IntKind.i64.wrap (y41.fst + (1 : Int))) x1 (Go.IntKind.i64.wrap (x2 - (1 : Int)))).bind (fun y43 =>
 (F x0 y41.fst (Go.IntKind.i64.wrap (x2 - (1 : Int))) (Decidable.decide (Go.IntKind.i64.wrap ((Go.IntKind.i64.wrap (x1 - x0)).tdiv (8 : Int)) ≤ Go.IntKind.i64.wrap (x1 - y41.fst))) y41.snd.fst y43).bind k)
 else
 none))
 else
 none
 else
 none
 else
 none
 else
 none
 else
 (slices_partitionOrdered y38.snd x0 x1 y3.fst).bind (fun y44 =>
 if (8 : Int) ≠ (0 : Int) then
 bif Decidable.decide (Go.IntKind.i64.wrap (y44.fst - x0) < Go.IntKind.i64.wrap (x1 - y44.fst)) then
 (G_slices_pdqsortOrdered y44.snd.snd x0 y44.fst (Go.IntKind.i64.wrap (x2 - (1 : Int)))).bind (fun y45 =>
 (F (Go.IntKind.i64.wrap (y44.fst + (1 : Int))) x1 (Go.IntKind.i64.wrap (x2 - (1 : Int))) (Decidable.decide (Go.IntKind.i64.wrap ((Go.IntKind.i64.wrap (x1 - x0)).tdiv (8 : Int)) ≤ Go.IntKind.i64.wrap (y44.fst - x0))) y44.snd.fst y45).bind k)
 else
 (G_slices_pdqsortOrdered y44.snd.snd (Go.IntKind.i64.wrap (y44.fst + (1 : Int))) x1 (Go.IntKind.i64.wrap (x2 - (1 : Int)))).bind (fun y46 =>
 (F x0 y44.fst (Go.IntKind.i64.wrap (x2 - (1 : Int))) (Decidable.decide (Go.IntKind.i64.wrap ((Go.IntKind.i64.wrap (x1 - x0)).tdiv (8 : Int)) ≤ Go.IntKind.i64.wrap (x1 - y44.fst))) y44.snd.fst y46).bind k)
 else
 none))
 else
 bif Decidable.decide ((0 : Int) < x0) then
 if (0 : Int) ≤ Go.IntKind.i64.wrap (x0 - (1 : Int)) ∧ Go.IntKind.i64.wrap (x0 - (1 : Int)) < (↑y2.length : Int) then
 if (Go.IntKind.i64.wrap (x0 - (1 : Int))).toNat + (1 : Nat) ≤ y2.length then
 if (0 : Int) ≤ y3.fst ∧ y3.fst < (↑y2.length : Int) then
 if y3.fst.toNat + (1 : Nat) ≤ y2.length then
 (cmp_Less ((y2.getD (Go.IntKind.i64.wrap (x0 - (1 : Int))).toNat (Go.Rai.D.int (0 : Int))).toInt) ((y2.getD y3.fst.toNat (Go.Rai.D.int (0 : Int))).toInt)).bind (fun y47 =>
 bif !y47 then
 (slices_partitionEqualOrdered y2 x0 x1 y3.fst).bind (fun y48 =>
 (F y48.fst x1 (Go.IntKind.i64.wrap (x2 - (1 : Int))) x3 x4 y48.snd).bind k)
 else
 (slices_partitionOrdered y2 x0 x1 y3.fst).bind (fun y49 =>
 if (8 : Int) ≠ (0 : Int) then
 bif Decidable.decide (Go.IntKind.i64.wrap (y49.fst - x0) < Go.IntKind.i64.wrap (x1 - y49.fst)) then
 (G_slices_pdqsortOrdered y49.snd.snd x0 y49.fst (Go.IntKind.i64.wrap (x2 - (1 : Int)))).bind (fun y50 =>
 (F (Go.IntKind.i64.wrap (y49.fst + (1 : Int))) x1 (Go.IntKind.i64.wrap (x2 - (1 : Int))) (Decidable.decide (Go.IntKind.i64.wrap ((Go.IntKind.i64.wrap (x1 - x0)).tdiv (8 : Int)) ≤ Go.IntKind.i64.wrap (y49.fst - x0))) y49.snd.fst y50).bind k)
 else
 (G_slices_pdqsortOrdered y49.snd.snd (Go.IntKind.i64.wrap (y49.fst + (1 : Int))) x1 (Go.IntKind.i64.wrap (x2 - (1 : Int)))).bind (fun y51 =>
 (F x0 y49.fst (Go.IntKind.i64.wrap (x2 - (1 : Int))) (Decidable.decide (Go.IntKind.i64.wrap ((Go.IntKind.i64.wrap (x1 - x0)).tdiv (8 : Int)) ≤ Go.IntKind.i64.wrap (x1 - y49.fst))) y49.snd.fst y51).bind k)
 else
 none))
 else
 none
 else
 none
 else
 none
 else
 none
 else
 (slices_partitionOrdered y2 x0 x1 y3.fst).bind (fun y52 =>
 if (8 : Int) ≠ (0 : Int) then
 bif Decidable.decide (Go.IntKind.i64.wrap (y52.fst - x0) < Go.IntKind.i64.wrap (x1 - y52.fst)) then
 (G_slices_pdqsortOrdered y52.snd.snd x0 y52.fst (Go.IntKind.i64.wrap (x2 - (1 : Int)))).bind (fun y53 =>
 (F (Go.IntKind.i64.wrap (y52.fst + (1 : Int))) x1 (Go.IntKind.i64.wrap (x2 - (1 : Int))) (Decidable.decide (Go.IntKind.i64.wrap ((Go.IntKind.i64.wrap (x1 - x0)).tdiv (8 : Int)) ≤ Go.IntKind.i64.wrap (y52.fst - x0))) y52.snd.fst y53).bind k)
 else
 (G_slices_pdqsortOrdered y52.snd.snd (Go.IntKind.i64.wrap (y52.fst + (1 : Int))) x1 (Go.IntKind.i64.wrap (x2 - (1 : Int)))).bind (fun y54 =>
 (F x0 y52.fst (Go.IntKind.i64.wrap (x2 - (1 : Int))) (Decidable.decide (Go.IntKind.i64.wrap ((Go.IntKind.i64.wrap (x1 - x0)).tdiv (8 : Int)) ≤ Go.IntKind.i64.wrap (x1 - y52.fst))) y52.snd.fst y54).bind k)
 else
 none)
 else
 bif Decidable.decide ((0 : Int) < x0) then
 if (0 : Int) ≤ Go.IntKind.i64.wrap (x0 - (1 : Int)) ∧ Go.IntKind.i64.wrap (x0 - (1 : Int)) < (↑y2.length : Int) then
 if (Go.IntKind.i64.wrap (x0 - (1 : Int))).toNat + (1 : Nat) ≤ y2.length then
 if (0 : Int) ≤ y3.fst ∧ y3.fst < (↑y2.length : Int) then
 if y3.fst.toNat + (1 : Nat) ≤ y2.length then
 (cmp_Less ((y2.getD (Go.IntKind.i64.wrap (x0 - (1 : Int))).toNat (Go.Rai.D.int (0 : Int))).toInt) ((y2.getD y3.fst.toNat (Go.Rai.D.int (0 : Int))).toInt)).bind (fun y55 =>
 bif !y55 then
 (slices_partitionEqualOrdered y2 x0 x1 y3.fst).bind (fun y56 =>
 (F y56.fst x1 (Go.IntKind.i64.wrap (x2 - (1 : Int))) x3 x4 y56.snd).bind k)
 else
 (slices_partitionOrdered y2 x0 x1 y3.fst).bind (fun y57 =>
 if (8 : Int) ≠ (0 : Int) then
 bif Decidable.decide (Go.IntKind.i64.wrap (y57.fst - x0) < Go.IntKind.i64.wrap (x1 - y57.fst)) then
 (G_slices_pdqsortOrdered y57.snd.snd x0 y57.fst (Go.IntKind.i64.wrap (x2 - (1 : Int)))).bind (fun y58 =>
 (F (Go.IntKind.i64.wrap (y57.fst + (1 : Int))) x1 (Go.IntKind.i64.wrap (x2 - (1 : Int))) (Decidable.decide (Go.IntKind.i64.wrap ((Go.IntKind.i64.wrap (x1 - x0)).tdiv (8 : Int)) ≤ Go.IntKind.i64.wrap (y57.fst - x0))) y57.snd.fst y58).bind k)
 else
 (G_slices_pdqsortOrdered y57.snd.snd (Go.IntKind.i64.wrap (y57.fst + (1 : Int))) x1 (Go.IntKind.i64.wrap (x2 - (1 : Int)))).bind (fun y59 =>
 (F x0 y57.fst (Go.IntKind.i64.wrap (x2 - (1 : Int))) (Decidable.decide (Go.IntKind.i64.wrap ((Go.IntKind.i64.wrap (x1 - x0)).tdiv (8 : Int)) ≤ Go.IntKind.i64.wrap (x1 - y57.fst))) y57.snd.fst y59).bind k)
 else
 none))
 else
 none
 else
 none
 else
 none
 else
 none
 else
 (slices_partitionOrdered y2 x0 x1 y3.fst).bind (fun y60 =>
 if (8 : Int) ≠ (0 : Int) then
 bif Decidable.decide (Go.IntKind.i64.wrap (y60.fst - x0) < Go.IntKind.i64.wrap (x1 - y60.fst)) then
 (G_slices_pdqsortOrdered y60.snd.snd x0 y60.fst (Go.IntKind.i64.wrap (x2 - (1 : Int)))).bind (fun y61 =>
 (F (Go.IntKind.i64.wrap (y60.fst + (1 : Int))) x1 (Go.IntKind.i64.wrap (x2 - (1 : Int))) (Decidable.decide (Go.IntKind.i64.wrap ((Go.IntKind.i64.wrap (x1 - x0)).tdiv (8 : Int)) ≤ Go.IntKind.i64.wrap (y60.fst - x0))) y60.snd.fst y61).bind k)
 else
 (G_slices_pdqsortOrdered y60.snd.snd (Go.IntKind.i64.wrap (y60.fst + (1 : Int))) x1 (Go.IntKind.i64.wrap (x2 - (1 : Int)))).bind (fun y62 =>
 (F x0 y60.fst (Go.IntKind.i64.wrap (x2 - (1 : Int))) (Decidable.decide (Go.IntKind.i64.wrap ((Go.IntKind.i64.wrap (x1 - x0)).tdiv (8 : Int)) ≤ Go.IntKind.i64.wrap (x1 - y60.fst))) y60.snd.fst y62).bind k)
 else
 none)
 else
 bif Decidable.decide ((0 : Int) < x0) then
 if (0 : Int) ≤ Go.IntKind.i64.wrap (x0 - (1 : Int)) ∧ Go.IntKind.i64.wrap (x0 - (1 : Int)) < (↑y2.length : Int) then
 if (Go.IntKind.i64.wrap (x0 - (1 : Int))).toNat + (1 : Nat) ≤ y2.length then
 if (0 : Int) ≤ y3.fst ∧ y3.fst < (↑y2.length : Int) then
 if y3.fst.toNat + (1 : Nat) ≤ y2.length then
 (cmp_Less ((y2.getD (Go.IntKind.i64.wrap (x0 - (1 : Int))).toNat (Go.Rai.D.int (0 : Int))).toInt) ((y2.getD y3.fst.toNat (Go.Rai.D.int (0 : Int))).toInt)).bind (fun y63 =>
 bif !y63 then
 (slices_partitionEqualOrdered y2 x0 x1 y3.fst).bind (fun y64 =>
 (F y64.fst x1 (Go.IntKind.i64.wrap (x2 - (1 : Int))) x3 x4 y64.snd).bind k)
 else
 (slices_partitionOrdered y2 x0 x1 y3.fst).bind (fun y65 =>
 if (8 : Int) ≠ (0 : Int) then
 bif Decidable.decide (Go.IntKind.i64.wrap (y65.fst - x0) < Go.IntKind.i64.wrap (x1 - y65.fst)) then
 (G_slices_pdqsortOrdered y65.snd.snd x0 y65.fst (Go.IntKind.i64.wrap (x2 - (1 : Int)))).bind (fun y66 =>
 (F (Go.IntKind.i64.wrap (y65.fst + (1 : Int))) x1 (Go.IntKind.i64.wrap (x2 - (1 : Int))) (Decidable.decide (Go.IntKind.i64.wrap ((Go.IntKind.i64.wrap (x1 - x0)).tdiv (8 : Int)) ≤ Go.IntKind.i64.wrap (y65.fst - x0))) y65.snd.fst y66).bind k)
 else
 (G_slices_pdqsortOrdered y65.snd.snd (Go.IntKind.i64.wrap (y65.fst + (1 : Int))) x1 (Go.IntKind.i64.wrap (x2 - (1 : Int)))).bind (fun y67 =>
 (F x0 y65.fst (Go.IntKind.i64.wrap (x2 - (1 : Int))) (Decidable.decide (Go.IntKind.i64.wrap ((Go.IntKind.i64.wrap (x1 - x0)).tdiv (8 : Int)) ≤ Go.IntKind.i64.wrap (x1 - y65.fst))) y65.snd.fst y67).bind k)
 else
 none))
 else
 none
 else
 none
 else
 none
 else
 none
 else
 (slices_partitionOrdered y2 x0 x1 y3.fst).bind (fun y68 =>
 if (8 : Int) ≠ (0 : Int) then
 bif Decidable.decide (Go.IntKind.i64.wrap (y68.fst - x0) < Go.IntKind.i64.wrap (x1 - y68.fst)) then
 (G_slices_pdqsortOrdered y68.snd.snd x0 y68.fst (Go.IntKind.i64.wrap (x2 - (1 : Int)))).bind (fun y69 =>
 (F (Go.IntKind.i64.wrap (y68.fst + (1 : Int))) x1 (Go.IntKind.i64.wrap (x2 - (1 : Int))) (Decidable.decide (Go.IntKind.i64.wrap ((Go.IntKind.i64.wrap (x1 - x0)).tdiv (8 : Int)) ≤ Go.IntKind.i64.wrap (y68.fst - x0))) y68.snd.fst y69).bind k)
 else
 (G_slices_pdqsortOrdered y68.snd.snd (Go.IntKind.i64.wrap (y68.fst + (1 : Int))) x1 (Go.IntKind.i64.wrap (x2 - (1 : Int)))).bind (fun y70 =>
 (F x0 y68.fst (Go.IntKind.i64.wrap (x2 - (1 : Int))) (Decidable.decide (Go.IntKind.i64.wrap ((Go.IntKind.i64.wrap (x1 - x0)).tdiv (8 : Int)) ≤ Go.IntKind.i64.wrap (x1 - y68.fst))) y68.snd.fst y70).bind k)
 else
 none)))
 else
 (slices_choosePivotOrdered x5 x0 x1).bind (fun y71 =>
 bif Decidable.decide (y71.snd = (2 : Int)) then
 (slices_reverseRangeOrdered x5 x0 x1).bind (fun y72 =>
 bif x3 then
 bif x4 then
 bif Decidable.decide ((1 : Int) = (1 : Int)) then
 (slices_partialInsertionSortOrdered y72 x0 x1).bind (fun y73 =>
 bif y73.fst then
 k y73.snd
 else
 bif Decidable.decide ((0 : Int) < x0) then
 if (0 : Int) ≤ Go.IntKind.i64.wrap (x0 - (1 : Int)) ∧ Go.IntKind.i64.wrap (x0 - (1 : Int)) < (↑y73.snd.length : Int) then
 if (Go.IntKind.i64.wrap (x0 - (1 : Int))).toNat + (1 : Nat) ≤ y73.snd.length then
 if (0 : Int) ≤ Go.IntKind.i64.wrap (Go.IntKind.i64.wrap (x1 - (1 : Int)) - Go.IntKind.i64.wrap (y71.fst - x0)) ∧ Go.IntKind.i64.wrap (Go.IntKind.i64.wrap (x1 - (1 : Int)) - Go.IntKind.i64.wrap (y71.fst - x0)) < (↑y73.snd.length : Int) then
 if (Go.IntKind.i64.wrap (Go.IntKind.i64.wrap (x1 - (1 : Int)) - Go.IntKind.i64.wrap (y71.fst - x0))).toNat + (1 : Nat) ≤ y73.snd.length then
 (cmp_Less ((y73.snd.getD (Go.IntKind.i64.wrap (x0 - (1 : Int))).toNat (Go.Rai.D.int (0 : Int))).toInt) ((y73.snd.getD (Go.IntKind.i64.wrap (Go.IntKind.i64.wrap (x1 - (1 : Int)) - Go.IntKind.i64.wrap (y71.fst - x0))).toNat (Go.Rai.D.int (0 : Int))).toInt)).bind (fun y74 =>
 bif !y74 then
 (slices_partitionEqualOrdered y73.snd x0 x1 (Go.IntKind.i64.wrap (Go.IntKind.i64.wrap (x1 - (1 : Int)) - Go.IntKind.i64.wrap (y71.fst - x0)))).bind (fun y75 =>
 (F y75.fst x1 x2 x3 x4 y75.snd).bind k)
 else
 (slices_partitionOrdered y73.snd x0 x1 (Go.IntKind.i64.wrap (Go.IntKind.i64.wrap (x1 - (1 : Int)) - Go.IntKind.i64.wrap (y71.fst - x0)))).bind (fun y76 =>
 if (8 : Int) ≠ (0 : Int) then
 bif Decidable.decide (Go.IntKind.i64.wrap (y76.fst - x0) < Go.IntKind.i64.wrap (x1 - y76.fst)) then
 (G_slices_pdqsortOrdered y76.snd.snd x0 y76.fst x2).bind (fun y77 =>
 (F (Go.IntKind.i64.wrap (y76.fst + (1 : Int))) x1 x2 (Decidable.decide (Go.IntKind.i64.wrap ((Go.IntKind.i64.wrap (x1 - x0)).tdiv (8 : Int)) ≤ Go.IntKind.i64.wrap (y76.fst - x0))) y76.snd.fst y77).bind k)
 else
 (G_slices_pdqsortOrdered y76.snd.snd (Go.IntKind.i64.wrap (y76.fst + (1 : Int))) x1 x2).bind (fun y78 =>
 (F x0 y76.fst x2 (Decidable.decide (Go.IntKind.i64.wrap ((Go.IntKind.i64.wrap (x1 - x0)).tdiv (8 : Int)) ≤ Go.IntKind.i64.wrap (x1 - y76.fst))) y76.snd.fst y78).bind k)
 else
 none))
 else
 none
 else
 none
 else
 none
 else
 none
 else
 (slices_partitionOrdered y73.snd x0 x1 (Go.IntKind.i64.wrap (Go.IntKind.i64.wrap (x1 - (1 : Int)) - Go.IntKind.i64.wrap (y71.fst - x0)))).bind (fun y79 =>
 if (8 : Int) ≠ (0 : Int) then
 bif Decidable.decide (Go.IntKind.i64.wrap (y79.fst - x0) < Go.IntKind.i64.wrap (x1 - y79.fst)) then
 (G_slices_pdqsortOrdered y79.snd.snd x0 y79.fst x2).bind (fun y80 =>
 (F (Go.IntKind.i64.wrap (y79.fst + (1 : Int))) x1 x2 (Decidable.decide (Go.IntKind.i64.wrap ((Go.IntKind.i64.wrap (x1 - x0)).tdiv (8 : Int)) ≤ Go.IntKind.i64.wrap (y79.fst - x0))) y79.snd.fst y80).bind k)
 else
 (G_slices_pdqsortOrdered y79.snd.snd (Go.IntKind.i64.wrap (y79.fst + (1 : Int))) x1 x2).bind (fun y81 =>
 (F x0 y79.fst x2 (Decidable.decide (Go.IntKind.i64.wrap ((Go.IntKind.i64.wrap (x1 - x0)).tdiv (8 : Int)) ≤ Go.IntKind.i64.wrap (x1 - y79.fst))) y79.snd.fst y81).bind k)
 else
 none))
 else
 bif Decidable.decide ((0 : Int) < x0) then
 if (0 : Int) ≤ Go.IntKind.i64.wrap (x0 - (1 : Int)) ∧ Go.IntKind.i64.wrap (x0 - (1 : Int)) < (↑y72.length : Int) then
 if (Go.IntKind.i64.wrap (x0 - (1 : Int))).toNat + (1 : Nat) ≤ y72.length then
 if (0 : Int) ≤ Go.IntKind.i64.wrap (Go.IntKind.i64.wrap (x1 - (1 : Int)) - Go.IntKind.i64.wrap (y71.fst - x0)) ∧ Go.IntKind.i64.wrap (Go.IntKind.i64.wrap (x1 - (1 : Int)) - Go.IntKind.i64.wrap (y71.fst - x0)) < (↑y72.length : Int) then
 if (Go.IntKind.i64.wrap (Go.IntKind.i64.wrap (x1 - (1 : Int)) - Go.IntKind.i64.wrap (y71.fst - x0))).toNat + (1 : Nat) ≤ y72.length then
 (cmp_Less ((y72.getD (Go.IntKind.i64.wrap (x0 - (1 : Int))).toNat (Go.Rai.D.int (0 : Int))).toInt) ((y72.getD (Go.IntKind.i64.wrap (Go.IntKind.i64.wrap (x1 - (1 : Int)) - Go.IntKind.i64.wrap (y71.fst - x0))).toNat (Go.Rai.D.int (0 : Int))).toInt)).bind (fun y82 =>
 bif !y82 then
 (slices_partitionEqualOrdered y72 x0 x1 (Go.IntKind.i64.wrap (Go.IntKind.i64.wrap (x1 - (1 : Int)) - Go.IntKind.i64.wrap (y71.fst - x0)))).bind (fun y83 =>
 (F y83.fst x1 x2 x3 x4 y83.snd).bind k)
 else
 (slices_partitionOrdered y72 x0 x1 (Go.IntKind.i64.wrap (Go.IntKind.i64.wrap (x1 - (1 : Int)) - Go.IntKind.i64.wrap (y71.fst - x0)))).bind (fun y84 =>
 if (8 : Int) ≠ (0 : Int) then
 bif Decidable.decide (Go.IntKind.i64.wrap (y84.fst - x0) < Go.IntKind.i64.wrap (x1 - y84.fst)) then
 (G_slices_pdqsortOrdered y84.snd.snd x0 y84.fst x2).bind (fun y85 =>
 (F (Go.IntKind.i64.wrap (y84.fst + (1 : Int))) x1 x2 (Decidable.decide (Go.IntKind.i64.wrap ((Go.IntKind.i64.wrap (x1 - x0)).tdiv (8 : Int)) ≤ Go.IntKind.i64.wrap (y84.fst - x0))) y84.snd.fst y85).bind k)
 else
 (G_slices_pdqsortOrdered y84.snd.snd (Go.IntKind.i64.wrap (y84.fst + (1 : Int))) x1 x2).bind (fun y86 =>
 (F x0 y84.fst x2 (Decidable.decide (Go.IntKind.i64.wrap ((Go.IntKind.i64.wrap (x1 - x0)).tdiv (8 : Int)) ≤ Go.IntKind.i64.wrap (x1 - y84.fst))) y84.snd.fst y86).bind k)
 else
 none))
 else
 none
 else
 none
 else
 none
 else
 none
 else
 (slices_partitionOrdered y72 x0 x1 (Go.IntKind.i64.wrap (Go.IntKind.i64.wrap (x1 - (1 : Int)) - Go.IntKind.i64.wrap (y71.fst - x0)))).bind (fun y87 =>
 if (8 : Int) ≠ (0 : Int) then
 bif Decidable.decide (Go.IntKind.i64.wrap (y87.fst - x0) < Go.IntKind.i64.wrap (x1 - y87.fst)) then
 (G_slices_pdqsortOrdered y87.snd.snd x0 y87.fst x2).bind (fun y88 =>
 (F (Go.IntKind.i64.wrap (y87.fst + (1 : Int))) x1 x2 (Decidable.decide (Go.IntKind.i64.wrap ((Go.IntKind.i64.wrap (x1 - x0)).tdiv (8 : Int)) ≤ Go.IntKind.i64.wrap (y87.fst - x0))) y87.snd.fst y88).bind k)
 else
 (G_slices_pdqsortOrdered y87.snd.snd (Go.IntKind.i64.wrap (y87.fst + (1 : Int))) x1 x2).bind (fun y89 =>
 (F x0 y87.fst x2 (Decidable.decide (Go.IntKind.i64.wrap ((Go.IntKind.i64.wrap (x1 - x0)).tdiv (8 : Int)) ≤ Go.IntKind.i64.wrap (x1 - y87.fst))) y87.snd.fst y89).bind k)
 else
 none)
 else
 bif Decidable.decide ((0 : Int) < x0) then
 if (0 : Int) ≤ Go.IntKind.i64.wrap (x0 - (1 : Int)) ∧ Go.IntKind.i64.wrap (x0 - (1 : Int)) < (↑y72.length : Int) then
 if (Go.IntKind.i64.wrap (x0 - (1 : Int))).toNat + (1 : Nat) ≤ y72.length then
 if (0 : Int) ≤ Go.IntKind.i64.wrap (Go.IntKind.i64.wrap (x1 - (1 : Int)) - Go.IntKind.i64.wrap (y71.fst - x0)) ∧ Go.IntKind.i64.wrap (Go.IntKind.i64.wrap (x1 - (1 : Int)) - Go.IntKind.i64.wrap (y71.fst - x0)) < (↑y72.length : Int) then
 if (Go.IntKind.i64.wrap (Go.IntKind.i64.wrap (x1 - (1 : Int)) - Go.IntKind.i64.wrap (y71.fst - x0))).toNat + (1 : Nat) ≤ y72.length then
 (cmp_Less ((y72.getD (Go.IntKind.i64.wrap (x0 - (1 : Int))).toNat (Go.Rai.D.int (0 : Int))).toInt) ((y72.getD (Go.IntKind.i64.wrap (Go.IntKind.i64.wrap (x1 - (1 : Int)) - Go.IntKind.i64.wrap (y71.fst - x0))).toNat (Go.Rai.D.int (0 : Int))).toInt)).bind (fun y90 =>
 bif !y90 then
 (slices_partitionEqualOrdered y72 x0 x1 (Go.IntKind.i64.wrap (Go.IntKind.i64.wrap (x1 - (1 : Int)) - Go.IntKind.i64.wrap (y71.fst - x0)))).bind (fun y91 =>
 (F y91.fst x1 x2 x3 x4 y91.snd).bind k)
 else
 (slices_partitionOrdered y72 x0 x1 (Go.IntKind.i64.wrap (Go.IntKind.i64.wrap (x1 - (1 : Int)) - Go.IntKind.i64.wrap (y71.fst - x0)))).bind (fun y92 =>
 if (8 : Int) ≠ (0 : Int) then
 bif Decidable.decide (Go.IntKind.i64.wrap (y92.fst - x0) < Go.IntKind.i64.wrap (x1 - y92.fst)) then
 (G_slices_pdqsortOrdered y92.snd.snd x0 y92.fst x2).bind (fun y93 =>
 (F (Go.IntKind.i64.wrap (y92.fst + (1 : Int))) x1 x2 (Decidable.decide (Go.IntKind.i64.wrap ((Go.IntKind.i64.wrap (x1 - x0)).tdiv (8 : Int)) ≤ Go.IntKind.i64.wrap (y92.fst - x0))) y92.snd.fst y93).bind k)
 else
 (G_slices_pdqsortOrdered y92.snd.snd (Go.IntKind.i64.wrap (y92.fst + (1 : Int))) x1 x2).bind (fun y94 =>
 (F x0 y92.fst x2 (Decidable.decide (Go.IntKind.i64.wrap ((Go.IntKind.i64.wrap (x1 - x0)).tdiv (8 : Int)) ≤ Go.IntKind.i64.wrap (x1 - y92.fst))) y92.snd.fst y94).bind k)
 else
 none))
 else
 none
 else
 none
 else
 none
 else
 none
 else
 (slices_partitionOrdered y72 x0 x1 (Go.IntKind.i64.wrap (Go.IntKind.i64.wrap (x1 - (1 : Int)) - Go.IntKind.i64.wrap (y71.fst - x0)))).bind (fun y95 =>
 if (8 : Int) ≠ (0 : Int) then
 bif Decidable.decide (Go.IntKind.i64.wrap (y95.fst - x0) < Go.IntKind.i64.wrap (x1 - y95.fst)) then
 (G_slices_pdqsortOrdered y95.snd.snd x0 y95.fst x2).bind (fun y96 =>
 (F (Go.IntKind.i64.wrap (y95.fst + (1 : Int))) x1 x2 (Decidable.decide (Go.IntKind.i64.wrap ((Go.IntKind.i64.wrap (x1 - x0)).tdiv (8 : Int)) ≤ Go.IntKind.i64.wrap (y95.fst - x0))) y95.snd.fst y96).bind k)
 else
 (G_slices_pdqsortOrdered y95.snd.snd (Go.IntKind.i64.wrap (y95.fst + (1 : Int))) x1 x2).bind (fun y97 =>
 (F x0 y95.fst x2 (Decidable.decide (Go.IntKind.i64.wrap ((Go.IntKind.i64.wrap (x1 - x0)).tdiv (8 : Int)) ≤ Go.IntKind.i64.wrap (x1 - y95.fst))) y95.snd.fst y97).bind k)
 else
 none)
 else
 bif Decidable.decide ((0 : Int) < x0) then
 if (0 : Int) ≤ Go.IntKind.i64.wrap (x0 - (1 : Int)) ∧ Go.IntKind.i64.wrap (x0 - (1 : Int)) < (↑y72.length : Int) then
 if (Go.IntKind.i64.wrap (x0 - (1 : Int))).toNat + (1 : Nat) ≤ y72.length then
 if (0 : Int) ≤ Go.IntKind.i64.wrap (Go.IntKind.i64.wrap (x1 - (1 : Int)) - Go.IntKind.i64.wrap (y71.fst - x0)) ∧ Go.IntKind.i64.wrap (Go.IntKind.i64.wrap (x1 - (1 : Int)) - Go.IntKind.i64.wrap (y71.fst - x0)) < (↑y72.length : Int) then
 if (Go.IntKind.i64.wrap (Go.IntKind.i64.wrap (x1 - (1 : Int)) - Go.IntKind.i64.wrap (y71.fst - x0))).toNat + (1 : Nat) ≤ y72.length then
 (cmp_Less ((y72.getD (Go.IntKind.i64.wrap (x0 - (1 : Int))).toNat (Go.Rai.D.int (0 : Int))).toInt) ((y72.getD (Go.IntKind.i64.wrap (Go.IntKind.i64.wrap (x1 - (1 : Int)) - Go.IntKind.i64.wrap (y71.fst - x0))).toNat (Go.Rai.D.int (0 : Int))).toInt)).bind (fun y98 =>
 bif !y98 then
 (slices_partitionEqualOrdered y72 x0 x1 (Go.IntKind.i64.wrap (Go.IntKind.i64.wrap (x1 - (1 : Int)) - Go.IntKind.i64.wrap (y71.fst - x0)))).bind (fun y99 =>
 (F y99.fst x1 x2 x3 x4 y99.snd).bind k)
 else
 (slices_partitionOrdered y72 x0 x1 (Go.IntKind.i64.wrap (Go.IntKind.i64.wrap (x1 - (1 : Int)) - Go.IntKind.i64.wrap (y71.fst - x0)))).bind (fun y100 =>
 if (8 : Int) ≠ (0 : Int) then
 bif Decidable.decide (Go.IntKind.i64.wrap (y100.fst - x0) < Go.IntKind.i64.wrap (x1 - y100.fst)) then
 (G_slices_pdqsortOrdered y100.snd.snd x0 y100.fst x2).bind (fun y101 =>
 (F (Go.IntKind.i64.wrap (y100.fst + (1 : Int))) x1 x2 (Decidable.decide (Go.IntKind.i64.wrap ((Go.IntKind.i64.wrap (x1 - x0)).tdiv (8 : Int)) ≤ Go.IntKind.i64.wrap (y100.fst - x0))) y100.snd.fst y101).bind k)
 else
 (G_slices_pdqsortOrdered y100.snd.snd (Go.IntKind.i64.wrap (y100.fst + (1 : Int))) x1 x2).bind (fun y102 =>
 (F x0 y100.fst x2 (Decidable.decide (Go.IntKind.i64.wrap ((Go.IntKind.i64.wrap (x1 - x0)).tdiv (8 : Int)) ≤ Go.IntKind.i64.wrap (x1 - y100.fst))) y100.snd.fst y102).bind k)
 else
 none))
 else
 none
 else
 none
 else
 none
 else
 none
 else
 (slices_partitionOrdered y72 x0 x1 (Go.IntKind.i64.wrap (Go.IntKind.i64.wrap (x1 - (1 : Int)) - Go.IntKind.i64.wrap (y71.fst - x0)))).bind (fun y103 =>
 if (8 : Int) ≠ (0 : Int) then
 bif Decidable.decide (Go.IntKind.i64.wrap (y103.fst - x0) < Go.IntKind.i64.wrap (x1 - y103.fst)) then
 (G_slices_pdqsortOrdered y103.snd.snd x0 y103.fst x2).bind (fun y104 =>
 (F (Go.IntKind.i64.wrap (y103.fst + (1 : Int))) x1 x2 (Decidable.decide (Go.IntKind.i64.wrap ((Go.IntKind.i64.wrap (x1 - x0)).tdiv (8 : Int)) ≤ Go.IntKind.i64.wrap (y103.fst - x0))) y103.snd.fst y104).bind k)
 else
 (G_slices_pdqsortOrdered y103.snd.snd (Go.IntKind.i64.wrap (y103.fst + (1 : Int))) x1 x2).bind (fun y105 =>
 (F x0 y103.fst x2 (Decidable.decide (Go.IntKind.i64.wrap ((Go.IntKind.i64.wrap (x1 - x0)).tdiv (8 : Int)) ≤ Go.IntKind.i64.wrap (x1 - y103.fst))) y103.snd.fst y105).bind k)
 else
 none))
 else
 bif x3 then
 bif x4 then
 bif Decidable.decide (y71.snd = (1 : Int)) then
 (slices_partialInsertionSortOrdered x5 x0 x1).bind (fun y106 =>
 bif y106.fst then
 k y106.snd
 else
 bif Decidable.decide ((0 : Int) < x0) then
 if (0 : Int) ≤ Go.IntKind.i64.wrap (x0 - (1 : Int)) ∧ Go.IntKind.i64.wrap (x0 - (1 : Int)) < (↑y106.snd.length : Int) then
 if (Go.IntKind.i64.wrap (x0 - (1 : Int))).toNat + (1 : Nat) ≤ y106.snd.length then
 if (0 : Int) ≤ y71.fst ∧ y71.fst < (↑y106.snd.length : Int) then
 if y71.fst.toNat + (1 : Nat) ≤ y106.snd.length then
 (cmp_Less ((y106.snd.getD (Go.IntKind.i64.wrap (x0 - (1 : Int))).toNat (Go.Rai.D.int (0 : Int))).toInt) ((y106.snd.getD y71.fst.toNat (Go.Rai.D.int (0 : Int))).toInt)).bind (fun y107 =>
 bif !y107 then
 (slices_partitionEqualOrdered y106.snd x0 x1 y71.fst).bind (fun y108 =>
 (F y108.fst x1 x2 x3 x4 y108.snd).bind k)
 else
 (slices_partitionOrdered y106.snd x0 x1 y71.fst).bind (fun y109 =>
 if (8 : Int) ≠ (0 : Int) then
 bif Decidable.decide (Go.IntKind.i64.wrap (y109.fst - x0) < Go.IntKind.i64.wrap (x1 - y109.fst)) then
 (G_slices_pdqsortOrdered y109.snd.snd x0 y109.fst x2).bind (fun y110 =>
 (F (Go.IntKind.i64.wrap (y109.fst + (1 : Int))) x1 x2 (Decidable.decide (Go.IntKind.i64.wrap ((Go.IntKind.i64.wrap (x1 - x0)).tdiv (8 : Int)) ≤ Go.IntKind.i64.wrap (y109.fst - x0))) y109.snd.fst y110).bind k)
 else
 (G_slices_pdqsortOrdered y109.snd.snd (Go.IntKind.i64.wrap (y109.fst + (1 : Int))) x1 x2).bind (fun y111 =>
 (F x0 y109.fst x2 (Decidable.decide (Go.IntKind.i64.wrap ((Go.IntKind.i64.wrap (x1 - x0)).tdiv (8 : Int)) ≤ Go.IntKind.i64.wrap (x1 - y109.fst))) y109.snd.fst y111).bind k)
 else
 none))
 else
 none
 else
 none
 else
 none
 else
 none
 else
 (slices_partitionOrdered y106.snd x0 x1 y71.fst).bind (fun y112 =>
 if (8 : Int) ≠ (0 : Int) then
 bif Decidable.decide (Go.IntKind.i64.wrap (y112.fst - x0) < Go.IntKind.i64.wrap (x1 - y112.fst)) then
 (G_slices_pdqsortOrdered y112.snd.snd x0 y112.fst x2).bind (fun y113 =>
 (F (Go.IntKind.i64.wrap (y112.fst + (1 : Int))) x1 x2 (Decidable.decide (Go.IntKind.i64.wrap ((Go.IntKind.i64.wrap (x1 - x0)).tdiv (8 : Int)) ≤ Go.IntKind.i64.wrap (y112.fst - x0))) y112.snd.fst y113).bind k)
 else
 (G_slices_pdqsortOrdered y112.snd.snd (Go.IntKind.i64.wrap (y112.fst + (1 : Int))) x1 x2).bind (fun y114 =>
 (F x0 y112.fst x2 (Decidable.decide (Go.IntKind.i64.wrap ((Go.IntKind.i64.wrap (x1 - x0)).tdiv (8 : Int)) ≤ Go.IntKind.i64.wrap (x1 - y112.fst))) y112.snd.fst y114).bind k)
 else
 none))
 else
 bif Decidable.decide ((0 : Int) < x0) then
 if (0 : Int) ≤ Go.IntKind.i64.wrap (x0 - (1 : Int)) ∧ Go.IntKind.i64.wrap (x0 - (1 : Int)) < (↑x5.length : Int) then
 if (Go.IntKind.i64.wrap (x0 - (1 : Int))).toNat + (1 : Nat) ≤ x5.length then
 if (0 : Int) ≤ y71.fst ∧ y71.fst < (↑x5.length : Int) then
 if y71.fst.toNat + (1 : Nat) ≤ x5.length then
 (cmp_Less ((x5.getD (Go.IntKind.i64.wrap (x0 - (1 : Int))).toNat (Go.Rai.D.int (0 : Int))).toInt) ((x5.getD y71.fst.toNat (Go.Rai.D.int (0 : Int))).toInt)).bind (fun y115 =>
 bif !y115 then
 (slices_partitionEqualOrdered x5 x0 x1 y71.fst).bind (fun y116 =>
 (F y116.fst x1 x2 x3 x4 y116.snd).bind k)
 else
 (slices_partitionOrdered x5 x0 x1 y71.fst).bind (fun y117 =>
 if (8 : Int) ≠ (0 : Int) then
 bif Decidable.decide (Go.IntKind.i64.wrap (y117.fst - x0) < Go.IntKind.i64.wrap (x1 - y117.fst)) then
 (G_slices_pdqsortOrdered y117.snd.snd x0 y117.fst x2).bind (fun y118 =>
 (F (Go.IntKind.i64.wrap (y117.fst + (1 : Int))) x1 x2 (Decidable.decide (Go.IntKind.i64.wrap ((Go.IntKind.i64.wrap (x1 - x0)).tdiv (8 : Int)) ≤ Go.IntKind.i64.wrap (y117.fst - x0))) y117.snd.fst y118).bind k)
 else
 (G_slices_pdqsortOrdered y117.snd.snd (Go.IntKind.i64.wrap (y117.fst + (1 : Int))) x1 x2).bind (fun y119 =>
 (F x0 y117.fst x2 (Decidable.decide (Go.IntKind.i64.wrap ((Go.IntKind.i64.wrap (x1 - x0)).tdiv (8 : Int)) ≤ Go.IntKind.i64.wrap (x1 - y117.fst))) y117.snd.fst y119).bind k)
 else
 none))
 else
 none
 else
 none
 else
 none
 else
 none
 else
 (slices_partitionOrdered x5 x0 x1 y71.fst).bind (fun y120 =>
 if (8 : Int) ≠ (0 : Int) then
 bif Decidable.decide (Go.IntKind.i64.wrap (y120.fst - x0) < Go.IntKind.i64.wrap (x1 - y120.fst)) then
 (G_slices_pdqsortOrdered y120.snd.snd x0 y120.fst x2).bind (fun y121 =>
 (F (Go.IntKind.i64.wrap (y120.fst + (1 : Int))) x1 x2 (Decidable.decide (Go.IntKind.i64.wrap ((Go.IntKind.i64.wrap (x1 - x0)).tdiv (8 : Int)) ≤ Go.IntKind.i64.wrap (y120.fst - x0))) y120.snd.fst y121).bind k)
 else
 (G_slices_pdqsortOrdered y120.snd.snd (Go.IntKind.i64.wrap (y120.fst + (1 : Int))) x1 x2).bind (fun y122 =>
 (F x0 y120.fst x2 (Decidable.decide (Go.IntKind.i64.wrap ((Go.IntKind.i64.wrap (x1 - x0)).tdiv (8 : Int)) ≤ Go.IntKind.i64.wrap (x1 - y120.fst))) y120.snd.fst y122).bind k)
 else
 none)
 else
 bif Decidable.decide ((0 : Int) < x0) then
 if (0 : Int) ≤ Go.IntKind.i64.wrap (x0 - (1 : Int)) ∧ Go.IntKind.i64.wrap (x0 - (1 : Int)) < (↑x5.length : Int) then
 if (Go.IntKind.i64.wrap (x0 - (1 : Int))).toNat + (1 : Nat) ≤ x5.length then
 if (0 : Int) ≤ y71.fst ∧ y71.fst < (↑x5.length : Int) then
 if y71.fst.toNat + (1 : Nat) ≤ x5.length then
 (cmp_Less ((x5.getD (Go.IntKind.i64.wrap (x0 - (1 : Int))).toNat (Go.Rai.D.int (0 : Int))).toInt) ((x5.getD y71.fst.toNat (Go.Rai.D.int (0 : Int))).toInt)).bind (fun y123 =>
 bif !y123 then
 (slices_partitionEqualOrdered x5 x0 x1 y71.fst).bind (fun y124 =>
 (F y124.fst x1 x2 x3 x4 y124.snd).bind k)
 else
 (slices_partitionOrdered x5 x0 x1 y71.fst).bind (fun y125 =>
 if (8 : Int) ≠ (0 : Int) then
 bif Decidable.decide (Go.IntKind.i64.wrap (y125.fst - x0) < Go.IntKind.i64.wrap (x1 - y125.fst)) then
 (G_slices_pdqsortOrdered y125.snd.snd x0 y125.fst x2).bind (fun y126 =>
 (F (Go.IntKind.i64.wrap (y125.fst + (1 : Int))) x1 x2 (Decidable.decide (Go.IntKind.i64.wrap ((Go.IntKind.i64.wrap (x1 - x0)).tdiv (8 : Int)) ≤ Go.IntKind.i64.wrap (y125.fst - x0))) y125.snd.fst y126).bind k)
 else
 (G_slices_pdqsortOrdered y125.snd.snd (Go.IntKind.i64.wrap (y125.fst + (1 : Int))) x1 x2).bind (fun y127 =>
 (F x0 y125.fst x2 (Decidable.decide (Go.IntKind.i64.wrap ((Go.IntKind.i64.wrap (x1 - x0)).tdiv (8 : Int)) ≤ Go.IntKind.i64.wrap (x1 - y125.fst))) y125.snd.fst y127).bind k)
 else
 none))
 else
 none
 else
 none
 else
 none
 else
 none
 else
 (slices_partitionOrdered x5 x0 x1 y71.fst).bind (fun y128 =>
 if (8 : Int) ≠ (0 : Int) then
 bif Decidable.decide (Go.IntKind.i64.wrap (y128.fst - x0) < Go.IntKind.i64.wrap (x1 - y128.fst)) then
 (G_slices_pdqsortOrdered y128.snd.snd x0 y128.fst x2).bind (fun y129 =>
 (F (Go.IntKind.i64.wrap (y128.fst + (1 : Int))) x1 x2 (Decidable.decide (Go.IntKind.i64.wrap ((Go.IntKind.i64.wrap (x1 - x0)).tdiv (8 : Int)) ≤ Go.IntKind.i64.wrap (y128.fst - x0))) y128.snd.fst y129).bind k)
 else
 (G_slices_pdqsortOrdered y128.snd.snd (Go.IntKind.i64.wrap (y128.fst + (1 : Int))) x1 x2).bind (fun y130 =>
 (F x0 y128.fst x2 (Decidable.decide (Go.IntKind.i64.wrap ((Go.IntKind.i64.wrap (x1 - x0)).tdiv (8 : Int)) ≤ Go.IntKind.i64.wrap (x1 - y128.fst))) y128.snd.fst y130).bind k)
 else
 none)
 else
 bif Decidable.decide ((0 : Int) < x0) then
 if (0 : Int) ≤ Go.IntKind.i64.wrap (x0 - (1 : Int)) ∧ Go.IntKind.i64.wrap (x0 - (1 : Int)) < (↑x5.length : Int) then
 if (Go.IntKind.i64.wrap (x0 - (1 : Int))).toNat + (1 : Nat) ≤ x5.length then
 if (0 : Int) ≤ y71.fst ∧ y71.fst < (↑x5.length : Int) then
 if y71.fst.toNat + (1 : Nat) ≤ x5.length then
 (cmp_Less ((x5.getD (Go.IntKind.i64.wrap (x0 - (1 : Int))).toNat (Go.Rai.D.int (0 : Int))).toInt) ((x5.getD y71.fst.toNat (Go.Rai.D.int (0 : Int))).toInt)).bind (fun y131 =>
 bif !y131 then
 (slices_partitionEqualOrdered x5 x0 x1 y71.fst).bind (fun y132 =>
 (F y132.fst x1 x2 x3 x4 y132.snd).bind k)
 else
 (slices_partitionOrdered x5 x0 x1 y71.fst).bind (fun y133 =>
 if (8 : Int) ≠ (0 : Int) then
 bif Decidable.decide (Go.IntKind.i64.wrap (y133.fst - x0) < Go.IntKind.i64.wrap (x1 - y133.fst)) then
 (G_slices_pdqsortOrdered y133.snd.snd x0 y133.fst x2).bind (fun y134 =>
 (F (Go.IntKind.i64.wrap (y133.fst + (1 : Int))) x1 x2 (Decidable.decide (Go.IntKind.i64.wrap ((Go.IntKind.i64.wrap (x1 - x0)).tdiv (8 : Int)) ≤ Go.IntKind.i64.wrap (y133.fst - x0))) y133.snd.fst y134).bind k)
 else
 (G_slices_pdqsortOrdered y133.snd.snd (Go.IntKind.i64.wrap (y133.fst + (1 : Int))) x1 x2).bind (fun y135 =>
 (F x0 y133.fst x2 (Decidable.decide (Go.IntKind.i64.wrap ((Go.IntKind.i64.wrap (x1 - x0)).tdiv (8 : Int)) ≤ Go.IntKind.i64.wrap (x1 - y133.fst))) y133.snd.fst y135).bind k)
 else
 none))
 else
 none
 else
 none
 else
 none
 else
 none
 else
 (slices_partitionOrdered x5 x0 x1 y71.fst).bind (fun y136 =>
 if (8 : Int) ≠ (0 : Int) then
 bif Decidable.decide (Go.IntKind.i64.wrap (y136.fst - x0) < Go.IntKind.i64.wrap (x1 - y136.fst)) then
 (G_slices_pdqsortOrdered y136.snd.snd x0 y136.fst x2).bind (fun y137 =>
 (F (Go.IntKind.i64.wrap (y136.fst + (1 : Int))) x1 x2 (Decidable.decide (Go.IntKind.i64.wrap ((Go.IntKind.i64.wrap (x1 - x0)).tdiv (8 : Int)) ≤ Go.IntKind.i64.wrap (y136.fst - x0))) y136.snd.fst y137).bind k)
 else
 (G_slices_pdqsortOrdered y136.snd.snd (Go.IntKind.i64.wrap (y136.fst + (1 : Int))) x1 x2).bind (fun y138 =>
 (F x0 y136.fst x2 (Decidable.decide (Go.IntKind.i64.wrap ((Go.IntKind.i64.wrap (x1 - x0)).tdiv (8 : Int)) ≤ Go.IntKind.i64.wrap (x1 - y136.fst))) y136.snd.fst y138).bind k)
 else
 none))
theorem c_slices_pdqsortOrdered_L2_bind {R : Type} (G_slices_pdqsortOrdered : List D → Int → Int → Int → Option (List D)) (F : Int → Int → Int → Bool → Bool → List D → Option (List D)) (x0 : Int) (x1 : Int) (x2 : Int) (x3 : Bool) (x4 : Bool) (x5 : List D) (k : List D → Option R) : c_slices_pdqsortOrdered_L2 G_slices_pdqsortOrdered F x0 x1 x2 x3 x4 x5 k = (c_slices_pdqsortOrdered_L2 G_slices_pdqsortOrdered F x0 x1 x2 x3 x4 x5 some).bind k := by
  unfold c_slices_pdqsortOrdered_L2
  repeat' first
    | exact bnd_tail
    | exact bnd_none
    | exact bnd_leaf
    | apply bnd_ite
    | apply bnd_cond
    | apply bnd_sum
    | (apply bnd_bind; intro _)
    | intro _
def n_slices_pdqsortOrdered_L2 (G_slices_pdqsortOrdered : List D → Int → Int → Int → Option (List D)) : Nat → Int → Int → Int → Bool → Bool → List D → Option (List D)
 | 0, _, _, _, _, _, _ => none
 | n + 1, x0, x1, x2, x3, x4, x5 => c_slices_pdqsortOrdered_L2 G_slices_pdqsortOrdered (n_slices_pdqsortOrdered_L2 G_slices_pdqsortOrdered n) x0 x1 x2 x3 x4 x5 some
noncomputable def slices_pdqsortOrdered_L2 (G_slices_pdqsortOrdered : List D → Int → Int → Int → Option (List D)) (x0 : Int) (x1 : Int) (x2 : Int) (x3 : Bool) (x4 : Bool) (x5 : List D) : Option (List D) := ev (fun n => n_slices_pdqsortOrdered_L2 G_slices_pdqsortOrdered n x0 x1 x2 x3 x4 x5)
def m_slices_pdqsortOrdered_L2 (F : Int → Int → Int → Bool → Bool → List D → Option (List D)) : Lent := ⟨2, ⟨[.full 1000 [] (.int .i64), .int .i64, .int .i64, .int .i64, .undef, .undef, .undef, .undef, .bool, .bool, .undef, .undef, .undef, .undef, .undef, .undef, .undef, .undef, .undef, .undef, .undef, .undef, .undef, .undef, .undef, .undef, .undef, .undef, .undef, .undef, .undef, .undef, .undef, .undef, .undef, .undef, .undef, .undef, .undef, .undef, .undef, .undef, .undef, .undef, .undef, .undef, .undef, .undef, .undef, .undef, .undef, .undef, .undef, .undef, .undef, .undef, .undef, .undef, .undef, .undef, .undef, .undef, .undef, .undef, .undef, .undef, .undef, .undef, .undef, .undef, .undef, .undef, .undef, .undef, .undef, .undef, .undef, .undef, .undef, .undef, .undef, .undef, .undef, .undef, .undef, .undef, .undef, .undef, .undef, .undef, .undef, .undef, .undef, .undef, .undef, .undef, .undef, .undef, .undef, .undef, .undef, .undef, .undef, .undef, .undef, .undef, .undef, .undef, .undef, .undef, .undef, .undef, .undef, .undef, .undef, .undef, .undef, .undef, .undef, .undef, .undef, .undef, .undef, .undef, .undef, .undef, .undef, .undef, .undef, .undef, .undef, .undef, .undef, .undef], [(1000, .own (.int .i64))]⟩, [(.ret, ⟨[.full 1000 [] (.int .i64), .undef, .undef, .undef, .undef, .undef, .undef, .undef, .undef, .undef, .undef, .undef, .undef, .undef, .undef, .undef, .undef, .undef, .undef, .undef, .undef, .undef, .undef, .undef, .undef, .undef, .undef, .undef, .undef, .undef, .undef, .undef, .undef, .undef, .undef, .undef, .undef, .undef, .undef, .undef, .undef, .undef, .undef, .undef, .undef, .undef, .undef, .undef, .undef, .undef, .undef, .undef, .undef, .undef, .undef, .undef, .undef, .undef, .undef, .undef, .undef, .undef, .undef, .undef, .undef, .undef, .undef, .undef, .undef, .undef, .undef, .undef, .undef, .undef, .undef, .undef, .undef, .undef, .undef, .undef, .undef, .undef, .undef, .undef, .undef, .undef, .undef, .undef, .undef, .undef, .undef, .undef, .undef, .undef, .undef, .undef, .undef, .undef, .undef, .undef, .undef, .undef, .undef, .undef, .undef, .undef, .undef, .undef, .undef, .undef, .undef, .undef, .undef, .undef, .undef, .undef, .undef, .undef, .undef, .undef, .undef, .undef, .undef, .undef, .undef, .undef, .undef, .undef, .undef, .undef, .undef, .undef, .undef, .undef], [(1000, .own (.int .i64))]⟩)], fun _ ds k => dI (fun x0 ds => dI (fun x1 ds => dI (fun x2 ds => dB (fun x3 ds => dB (fun x4 ds => dL (fun x5 ds => dE ((F x0 x1 x2 x3 x4 x5).bind (fun y => k 0 [.L y])) ds) ds) ds) ds) ds) ds) ds⟩
theorem q_slices_pdqsortOrdered_L2 (G_slices_pdqsortOrdered : List D → Int → Int → Int → Option (List D)) (F : Int → Int → Int → Bool → Bool → List D → Option (List D)) (x0 : Int) (x1 : Int) (x2 : Int) (x3 : Bool) (x4 : Bool) (x5 : List D) : runLoop (ocOf [e_slices_insertionSortOrdered, e_slices_heapSortOrdered, e_slices_breakPatternsOrdered, e_slices_choosePivotOrdered, e_slices_reverseRangeOrdered, e_slices_partialInsertionSortOrdered, e_cmp_Less, e_slices_partitionEqualOrdered, e_slices_partitionOrdered, m_slices_pdqsortOrdered G_slices_pdqsortOrdered]) (olOf [m_slices_pdqsortOrdered_L2 F]) A 76 (codeAt (bodyOf Go.Proofs.Try.f76) 2) ((m_slices_pdqsortOrdered_L2 F).sh.mk' [.I x0, .I x1, .I x2, .B x3, .B x4, .L x5]) (fun e σ' => some (e, σ')) = c_slices_pdqsortOrdered_L2 G_slices_pdqsortOrdered F x0 x1 x2 x3 x4 x5 (fun y => some (.ret, SSt.mk' ⟨[.full 1000 [] (.int .i64), .undef, .undef, .undef, .undef, .undef, .undef, .undef, .undef, .undef, .undef, .undef, .undef, .undef, .undef, .undef, .undef, .undef, .undef, .undef, .undef, .undef, .undef, .undef, .undef, .undef, .undef, .undef, .undef, .undef, .undef, .undef, .undef, .undef, .undef, .undef, .undef, .undef, .undef, .undef, .undef, .undef, .undef, .undef, .undef, .undef, .undef, .undef, .undef, .undef, .undef, .undef, .undef, .undef, .undef, .undef, .undef, .undef, .undef, .undef, .undef, .undef, .undef, .undef, .undef, .undef, .undef, .undef, .undef, .undef, .undef, .undef, .undef, .undef, .undef, .undef, .undef, .undef, .undef, .undef, .undef, .undef, .undef, .undef, .undef, .undef, .undef, .undef, .undef, .undef, .undef, .undef, .undef, .undef, .undef, .undef, .undef, .undef, .undef, .undef, .undef, .undef, .undef, .undef, .undef, .undef, .undef, .undef, .undef, .undef, .undef, .undef, .undef, .undef, .undef, .undef, .undef, .undef, .undef, .undef, .undef, .undef, .undef, .undef, .undef, .undef, .undef, .undef, .undef, .undef, .undef, .undef, .undef, .undef], [(1000, .own (.int .i64))]⟩ [.L y])) := by kernel_rfl
theorem m_slices_pdqsortOrdered_L2_ok (G_slices_pdqsortOrdered : List D → Int → Int → Int → Option (List D)) (hG_slices_pdqsortOrdered : (m_slices_pdqsortOrdered G_slices_pdqsortOrdered).ok Go.Proofs.Try.prog A) : ∀ n, (m_slices_pdqsortOrdered_L2 (n_slices_pdqsortOrdered_L2 G_slices_pdqsortOrdered n)).ok Go.Proofs.Try.prog (codeAt (bodyOf Go.Proofs.Try.f76) 2) := by
  intro n
  induction n with
  | zero =>
    intro R ds k r h
    unfold m_slices_pdqsortOrdered_L2 at h
    obtain ⟨x0, d0, rfl, h0⟩ := dI_some h
    obtain ⟨x1, d1, rfl, h1⟩ := dI_some h0
    obtain ⟨x2, d2, rfl, h2⟩ := dI_some h1
    obtain ⟨x3, d3, rfl, h3⟩ := dB_some h2
    obtain ⟨x4, d4, rfl, h4⟩ := dB_some h3
    obtain ⟨x5, d5, rfl, h5⟩ := dL_some h4
    obtain ⟨rfl, hE⟩ := dE_some h5
    obtain ⟨y, hy, hk⟩ := bnd_some hE
    cases hy
  | succ n ih =>
    intro R ds k r h
    unfold m_slices_pdqsortOrdered_L2 at h
    obtain ⟨x0, d0, rfl, h0⟩ := dI_some h
    obtain ⟨x1, d1, rfl, h1⟩ := dI_some h0
    obtain ⟨x2, d2, rfl, h2⟩ := dI_some h1
    obtain ⟨x3, d3, rfl, h3⟩ := dB_some h2
    obtain ⟨x4, d4, rfl, h4⟩ := dB_some h3
    obtain ⟨x5, d5, rfl, h5⟩ := dL_some h4
    obtain ⟨rfl, hE⟩ := dE_some h5
    obtain ⟨y, hy, hk⟩ := bnd_some hE
    have hq := q_slices_pdqsortOrdered_L2 G_slices_pdqsortOrdered (n_slices_pdqsortOrdered_L2 G_slices_pdqsortOrdered n) x0 x1 x2 x3 x4 x5
    rw [c_slices_pdqsortOrdered_L2_bind] at hq
    rw [show c_slices_pdqsortOrdered_L2 G_slices_pdqsortOrdered (n_slices_pdqsortOrdered_L2 G_slices_pdqsortOrdered n) x0 x1 x2 x3 x4 x5 some = some y from hy] at hq
    refine ⟨0, _, _, _, hk, rfl, loop_ok px (fx := ⟨Go.Proofs.Try.func76, by kernel_rfl, by kernel_rfl⟩) (entsOK_cons e_slices_insertionSortOrdered_ok (entsOK_cons e_slices_heapSortOrdered_ok (entsOK_cons e_slices_breakPatternsOrdered_ok (entsOK_cons e_slices_choosePivotOrdered_ok (entsOK_cons e_slices_reverseRangeOrdered_ok (entsOK_cons e_slices_partialInsertionSortOrdered_ok (entsOK_cons e_cmp_Less_ok (entsOK_cons e_slices_partitionEqualOrdered_ok (entsOK_cons e_slices_partitionOrdered_ok (entsOK_cons hG_slices_pdqsortOrdered entsOK_nil)))))))))) (lentsOK_cons ih lentsOK_nil) (by kernel_rfl) ?_⟩
    exact hq
noncomputable def e_slices_pdqsortOrdered_L2 (G_slices_pdqsortOrdered : List D → Int → Int → Int → Option (List D)) : Lent := m_slices_pdqsortOrdered_L2 (slices_pdqsortOrdered_L2 G_slices_pdqsortOrdered)
theorem e_slices_pdqsortOrdered_L2_ok (G_slices_pdqsortOrdered : List D → Int → Int → Int → Option (List D)) (hG_slices_pdqsortOrdered : (m_slices_pdqsortOrdered G_slices_pdqsortOrdered).ok Go.Proofs.Try.prog A) : (e_slices_pdqsortOrdered_L2 G_slices_pdqsortOrdered).ok Go.Proofs.Try.prog (codeAt (bodyOf Go.Proofs.Try.f76) 2) := by
  intro R ds k r h
  unfold e_slices_pdqsortOrdered_L2 m_slices_pdqsortOrdered_L2 at h
  obtain ⟨x0, d0, rfl, h0⟩ := dI_some h
  obtain ⟨x1, d1, rfl, h1⟩ := dI_some h0
  obtain ⟨x2, d2, rfl, h2⟩ := dI_some h1
  obtain ⟨x3, d3, rfl, h3⟩ := dB_some h2
  obtain ⟨x4, d4, rfl, h4⟩ := dB_some h3
  obtain ⟨x5, d5, rfl, h5⟩ := dL_some h4
  obtain ⟨rfl, hE⟩ := dE_some h5
  obtain ⟨y, hy, hk⟩ := bnd_some hE
  obtain ⟨n, hn⟩ := ev_some hy
  exact m_slices_pdqsortOrdered_L2_ok G_slices_pdqsortOrdered hG_slices_pdqsortOrdered n R _ k r (show (n_slices_pdqsortOrdered_L2 G_slices_pdqsortOrdered n x0 x1 x2 x3 x4 x5).bind _ = _ by rw [hn]; exact hk)

/-! slices.pdqsortOrdered[int] -/
def c_slices_pdqsortOrdered {R : Type} (F : List D → Int → Int → Int → Option (List D)) (x0 : List D) (x1 : Int) (x2 : Int) (x3 : Int) (k : List D → Option R) : Option R :=
 (slices_pdqsortOrdered_L2 F x1 x2 x3 Bool.true Bool.true x0).bind (fun y0 =>
 k y0)
theorem c_slices_pdqsortOrdered_bind {R : Type} (F : List D → Int → Int → Int → Option (List D)) (x0 : List D) (x1 : Int) (x2 : Int) (x3 : Int) (k : List D → Option R) : c_slices_pdqsortOrdered F x0 x1 x2 x3 k = (c_slices_pdqsortOrdered F x0 x1 x2 x3 some).bind k := by
  unfold c_slices_pdqsortOrdered
  repeat' first
    | exact bnd_tail
    | exact bnd_none
    | exact bnd_leaf
    | apply bnd_ite
    | apply bnd_cond
    | apply bnd_sum
    | (apply bnd_bind; intro _)
    | intro _
def n_slices_pdqsortOrdered : Nat → List D → Int → Int → Int → Option (List D)
 | 0, _, _, _, _ => none
 | n + 1, x0, x1, x2, x3 => c_slices_pdqsortOrdered (n_slices_pdqsortOrdered n) x0 x1 x2 x3 some
noncomputable def slices_pdqsortOrdered (x0 : List D) (x1 : Int) (x2 : Int) (x3 : Int) : Option (List D) := ev (fun n => n_slices_pdqsortOrdered n x0 x1 x2 x3)
theorem q_slices_pdqsortOrdered (F : List D → Int → Int → Int → Option (List D)) (x0 : List D) (x1 : Int) (x2 : Int) (x3 : Int) : runFn (ocOf []) (olOf [e_slices_pdqsortOrdered_L2 F]) A 76 Go.Proofs.Try.f76 (Sh.mks (m_slices_pdqsortOrdered F).sh [.L x0, .I x1, .I x2, .I x3]).1 (fun v os => some (v, os)) = c_slices_pdqsortOrdered F x0 x1 x2 x3 (fun y => some (((m_slices_pdqsortOrdered F).res.mk [.L y]).1, (Sh.mks (m_slices_pdqsortOrdered F).outs ((m_slices_pdqsortOrdered F).res.mk [.L y]).2).1)) := by kernel_rfl
theorem m_slices_pdqsortOrdered_ok : ∀ n, (m_slices_pdqsortOrdered (n_slices_pdqsortOrdered n)).ok Go.Proofs.Try.prog A := by
  intro n
  induction n with
  | zero =>
    intro R ds k r h
    unfold m_slices_pdqsortOrdered at h
    obtain ⟨x0, d0, rfl, h0⟩ := dL_some h
    obtain ⟨x1, d1, rfl, h1⟩ := dI_some h0
    obtain ⟨x2, d2, rfl, h2⟩ := dI_some h1
    obtain ⟨x3, d3, rfl, h3⟩ := dI_some h2
    obtain ⟨rfl, hE⟩ := dE_some h3
    obtain ⟨y, hy, hk⟩ := bnd_some hE
    cases hy
  | succ n ih =>
    intro R ds k r h
    unfold m_slices_pdqsortOrdered at h
    obtain ⟨x0, d0, rfl, h0⟩ := dL_some h
    obtain ⟨x1, d1, rfl, h1⟩ := dI_some h0
    obtain ⟨x2, d2, rfl, h2⟩ := dI_some h1
    obtain ⟨x3, d3, rfl, h3⟩ := dI_some h2
    obtain ⟨rfl, hE⟩ := dE_some h3
    obtain ⟨y, hy, hk⟩ := bnd_some hE
    have hme := ih
    refine ⟨_, hk, fn_ok px (fx := ⟨Go.Proofs.Try.func76, by kernel_rfl, by kernel_rfl⟩) entsOK_nil (lentsOK_cons (e_slices_pdqsortOrdered_L2_ok _ hme) lentsOK_nil) ?_⟩
    have hq := q_slices_pdqsortOrdered (n_slices_pdqsortOrdered n) x0 x1 x2 x3
    rw [c_slices_pdqsortOrdered_bind] at hq
    rw [show c_slices_pdqsortOrdered (n_slices_pdqsortOrdered n) x0 x1 x2 x3 some = some y from hy] at hq
    exact hq
def e_slices_pdqsortOrdered : Ent := m_slices_pdqsortOrdered slices_pdqsortOrdered
theorem e_slices_pdqsortOrdered_ok : e_slices_pdqsortOrdered.ok Go.Proofs.Try.prog A := by
  intro R ds k r h
  unfold e_slices_pdqsortOrdered m_slices_pdqsortOrdered at h
  obtain ⟨x0, d0, rfl, h0⟩ := dL_some h
  obtain ⟨x1, d1, rfl, h1⟩ := dI_some h0
  obtain ⟨x2, d2, rfl, h2⟩ := dI_some h1
  obtain ⟨x3, d3, rfl, h3⟩ := dI_some h2
  obtain ⟨rfl, hE⟩ := dE_some h3
  obtain ⟨y, hy, hk⟩ := bnd_some hE
  obtain ⟨n, hn⟩ := ev_some hy
  exact m_slices_pdqsortOrdered_ok n R _ k r (show (n_slices_pdqsortOrdered n x0 x1 x2 x3).bind _ = _ by rw [hn]; exact hk)

/-! slices.Sort[[]int,int] -/
def c_slices_Sort {R : Type} (x0 : List D) (k : List D → Option R) : Option R :=
 (math_bits_Len (Go.IntKind.u64.wrap (↑x0.length : Int))).bind (fun y0 =>
 (slices_pdqsortOrdered x0 (0 : Int) (↑x0.length : Int) y0).bind (fun y1 =>
 k y1))
theorem c_slices_Sort_bind {R : Type} (x0 : List D) (k : List D → Option R) : c_slices_Sort x0 k = (c_slices_Sort x0 some).bind k := by
  unfold c_slices_Sort
  repeat' first
    | exact bnd_tail
    | exact bnd_none
    | exact bnd_leaf
    | apply bnd_ite
    | apply bnd_cond
    | apply bnd_sum
    | (apply bnd_bind; intro _)
    | intro _
def slices_Sort (x0 : List D) : Option (List D) := c_slices_Sort x0 some
def e_slices_Sort : Ent := ⟨65, [.own (.int .i64)], .tup [], [.own (.int .i64)], fun _ ds k => dL (fun x0 ds => dE ((slices_Sort x0).bind (fun y => k [.L y])) ds) ds⟩
theorem q_slices_Sort (x0 : List D) : runFn (ocOf [e_math_bits_Len, e_slices_pdqsortOrdered]) (olOf []) A 65 Go.Proofs.Try.f65 (Sh.mks e_slices_Sort.sh [.L x0]).1 (fun v os => some (v, os)) = c_slices_Sort x0 (fun y => some ((e_slices_Sort.res.mk [.L y]).1, (Sh.mks e_slices_Sort.outs (e_slices_Sort.res.mk [.L y]).2).1)) := by kernel_rfl
theorem e_slices_Sort_ok : e_slices_Sort.ok Go.Proofs.Try.prog A := by
  intro R ds k r h
  unfold e_slices_Sort at h
  obtain ⟨x0, d0, rfl, h0⟩ := dL_some h
  obtain ⟨rfl, hE⟩ := dE_some h0
  obtain ⟨y, hy, hk⟩ := bnd_some hE
  refine ⟨_, hk, fn_ok px (fx := ⟨Go.Proofs.Try.func65, by kernel_rfl, by kernel_rfl⟩) (entsOK_cons e_math_bits_Len_ok (entsOK_cons e_slices_pdqsortOrdered_ok entsOK_nil)) lentsOK_nil ?_⟩
  have hq := q_slices_Sort x0
  rw [c_slices_Sort_bind] at hq
  rw [show c_slices_Sort x0 some = some y from hy] at hq
  exact hq

/-! loop.example/g00876/impl.isOrder, loop 4 -/
def c_impl_isOrder_L4 {R : Type} (F : List D → Int → Int → Int → List D → Option ((List D × Int × Bool) ⊕ (List D × Int))) (x0 : List D) (x1 : Int) (x2 : Int) (x3 : Int) (x4 : List D) (k : (List D × Int × Bool) ⊕ (List D × Int) → Option R) : Option R :=
 bif Decidable.decide (x3 < x2) then
 if (0 : Int) ≤ x3 ∧ x3 < (↑x4.length : Int) then
 if x3.toNat + (1 : Nat) ≤ x4.length then
 bif !Decidable.decide (x3 = (x4.getD x3.toNat (Go.Rai.D.int (0 : Int))).toInt) then
 k (.inl (x0, x1, Bool.false))
 else
 (F x0 x1 x2 (Go.IntKind.i64.wrap (x3 + (1 : Int))) x4).bind k
 else
 none
 else
 none
 else
 k (.inr (x0, x1))
theorem c_impl_isOrder_L4_bind {R : Type} (F : List D → Int → Int → Int → List D → Option ((List D × Int × Bool) ⊕ (List D × Int))) (x0 : List D) (x1 : Int) (x2 : Int) (x3 : Int) (x4 : List D) (k : (List D × Int × Bool) ⊕ (List D × Int) → Option R) : c_impl_isOrder_L4 F x0 x1 x2 x3 x4 k = (c_impl_isOrder_L4 F x0 x1 x2 x3 x4 some).bind k := by
  unfold c_impl_isOrder_L4
  repeat' first
    | exact bnd_tail
    | exact bnd_none
    | exact bnd_leaf
    | apply bnd_ite
    | apply bnd_cond
    | apply bnd_sum
    | (apply bnd_bind; intro _)
    | intro _
def n_impl_isOrder_L4 : Nat → List D → Int → Int → Int → List D → Option ((List D × Int × Bool) ⊕ (List D × Int))
 | 0, _, _, _, _, _ => none
 | n + 1, x0, x1, x2, x3, x4 => c_impl_isOrder_L4 (n_impl_isOrder_L4 n) x0 x1 x2 x3 x4 some
noncomputable def impl_isOrder_L4 (x0 : List D) (x1 : Int) (x2 : Int) (x3 : Int) (x4 : List D) : Option ((List D × Int × Bool) ⊕ (List D × Int)) := ev (fun n => n_impl_isOrder_L4 n x0 x1 x2 x3 x4)
def m_impl_isOrder_L4 (F : List D → Int → Int → Int → List D → Option ((List D × Int × Bool) ⊕ (List D × Int))) : Lent := ⟨4, ⟨[.rd (.int .i64), .int .i64, .undef, .undef, .undef, .undef, .undef, .undef, .undef, .undef, .undef, .undef, .full 1000 [] (.int .i64), .int .i64, .int .i64, .undef, .undef, .undef, .undef, .undef, .undef, .undef, .undef, .undef, .undef, .undef, .undef], [(1000, .own (.int .i64))]⟩, [(.ret, ⟨[.rd (.int .i64), .int .i64, .undef, .undef, .bool, .undef, .undef, .undef, .undef, .undef, .undef, .undef, .undef, .undef, .undef, .undef, .undef, .undef, .undef, .undef, .undef, .undef, .undef, .undef, .undef, .undef, .undef], []⟩), (.exit 0, ⟨[.rd (.int .i64), .int .i64, .undef, .undef, .undef, .undef, .undef, .undef, .undef, .undef, .undef, .undef, .undef, .undef, .undef, .undef, .undef, .undef, .undef, .undef, .undef, .undef, .undef, .undef, .undef, .undef, .undef], []⟩)], fun _ ds k => dL (fun x0 ds => dI (fun x1 ds => dI (fun x2 ds => dI (fun x3 ds => dL (fun x4 ds => dE ((F x0 x1 x2 x3 x4).bind (Sum.elim (fun y => k 0 [.L y.1, .I y.2.1, .B y.2.2]) (fun y => k 1 [.L y.1, .I y.2]))) ds) ds) ds) ds) ds) ds⟩
theorem q_impl_isOrder_L4 (F : List D → Int → Int → Int → List D → Option ((List D × Int × Bool) ⊕ (List D × Int))) (x0 : List D) (x1 : Int) (x2 : Int) (x3 : Int) (x4 : List D) : runLoop (ocOf []) (olOf [m_impl_isOrder_L4 F]) A 75 (codeAt (bodyOf Go.Proofs.Try.f75) 4) ((m_impl_isOrder_L4 F).sh.mk' [.L x0, .I x1, .I x2, .I x3, .L x4]) (fun e σ' => some (e, σ')) = c_impl_isOrder_L4 F x0 x1 x2 x3 x4 (Sum.elim (fun y => some (.ret, SSt.mk' ⟨[.rd (.int .i64), .int .i64, .undef, .undef, .bool, .undef, .undef, .undef, .undef, .undef, .undef, .undef, .undef, .undef, .undef, .undef, .undef, .undef, .undef, .undef, .undef, .undef, .undef, .undef, .undef, .undef, .undef], []⟩ [.L y.1, .I y.2.1, .B y.2.2])) (fun y => some (.exit 0, SSt.mk' ⟨[.rd (.int .i64), .int .i64, .undef, .undef, .undef, .undef, .undef, .undef, .undef, .undef, .undef, .undef, .undef, .undef, .undef, .undef, .undef, .undef, .undef, .undef, .undef, .undef, .undef, .undef, .undef, .undef, .undef], []⟩ [.L y.1, .I y.2]))) := by kernel_rfl
theorem m_impl_isOrder_L4_ok : ∀ n, (m_impl_isOrder_L4 (n_impl_isOrder_L4 n)).ok Go.Proofs.Try.prog (codeAt (bodyOf Go.Proofs.Try.f75) 4) := by
  intro n
  induction n with
  | zero =>
    intro R ds k r h
    unfold m_impl_isOrder_L4 at h
    obtain ⟨x0, d0, rfl, h0⟩ := dL_some h
    obtain ⟨x1, d1, rfl, h1⟩ := dI_some h0
    obtain ⟨x2, d2, rfl, h2⟩ := dI_some h1
    obtain ⟨x3, d3, rfl, h3⟩ := dI_some h2
    obtain ⟨x4, d4, rfl, h4⟩ := dL_some h3
    obtain ⟨rfl, hE⟩ := dE_some h4
    obtain ⟨y, hy, hk⟩ := bnd_some hE
    cases hy
  | succ n ih =>
    intro R ds k r h
    unfold m_impl_isOrder_L4 at h
    obtain ⟨x0, d0, rfl, h0⟩ := dL_some h
    obtain ⟨x1, d1, rfl, h1⟩ := dI_some h0
    obtain ⟨x2, d2, rfl, h2⟩ := dI_some h1
    obtain ⟨x3, d3, rfl, h3⟩ := dI_some h2
    obtain ⟨x4, d4, rfl, h4⟩ := dL_some h3
    obtain ⟨rfl, hE⟩ := dE_some h4
    obtain ⟨y, hy, hk⟩ := bnd_some hE
    have hq := q_impl_isOrder_L4 (n_impl_isOrder_L4 n) x0 x1 x2 x3 x4
    rw [c_impl_isOrder_L4_bind] at hq
    rw [show c_impl_isOrder_L4 (n_impl_isOrder_L4 n) x0 x1 x2 x3 x4 some = some y from hy] at hq
    cases y with
    | inl y =>
      refine ⟨0, _, _, _, hk, rfl, loop_ok px (fx := ⟨Go.Proofs.Try.func75, by kernel_rfl, by kernel_rfl⟩) entsOK_nil (lentsOK_cons ih lentsOK_nil) (by kernel_rfl) ?_⟩
      exact hq
    | inr y =>
      refine ⟨1, _, _, _, hk, rfl, loop_ok px (fx := ⟨Go.Proofs.Try.func75, by kernel_rfl, by kernel_rfl⟩) entsOK_nil (lentsOK_cons ih lentsOK_nil) (by kernel_rfl) ?_⟩
      exact hq
noncomputable def e_impl_isOrder_L4 : Lent := m_impl_isOrder_L4 (impl_isOrder_L4)
theorem e_impl_isOrder_L4_ok : (e_impl_isOrder_L4).ok Go.Proofs.Try.prog (codeAt (bodyOf Go.Proofs.Try.f75) 4) := by
  intro R ds k r h
  unfold e_impl_isOrder_L4 m_impl_isOrder_L4 at h
  obtain ⟨x0, d0, rfl, h0⟩ := dL_some h
  obtain ⟨x1, d1, rfl, h1⟩ := dI_some h0
  obtain ⟨x2, d2, rfl, h2⟩ := dI_some h1
  obtain ⟨x3, d3, rfl, h3⟩ := dI_some h2
  obtain ⟨x4, d4, rfl, h4⟩ := dL_some h3
  obtain ⟨rfl, hE⟩ := dE_some h4
  obtain ⟨y, hy, hk⟩ := bnd_some hE
  obtain ⟨n, hn⟩ := ev_some hy
  exact m_impl_isOrder_L4_ok n R _ k r (show (n_impl_isOrder_L4 n x0 x1 x2 x3 x4).bind _ = _ by rw [hn]; exact hk)

/-! loop.example/g00876/impl.isOrder -/
def c_impl_isOrder {R : Type} (x0 : List D) (x1 : Int) (k : Bool → Option R) : Option R :=
 (slices_Clone x0).bind (fun y0 =>
 (slices_Sort y0).bind (fun y1 =>
 (impl_isOrder_L4 x0 x1 (↑y1.length : Int) (0 : Int) y1).bind (Sum.elim (fun y2 =>
 k y2.snd.snd) (fun y3 =>
 k (Decidable.decide ((↑y3.fst.length : Int) = y3.snd))))))
theorem c_impl_isOrder_bind {R : Type} (x0 : List D) (x1 : Int) (k : Bool → Option R) : c_impl_isOrder x0 x1 k = (c_impl_isOrder x0 x1 some).bind k := by
  unfold c_impl_isOrder
  repeat' first
    | exact bnd_tail
    | exact bnd_none
    | exact bnd_leaf
    | apply bnd_ite
    | apply bnd_cond
    | apply bnd_sum
    | (apply bnd_bind; intro _)
    | intro _
def impl_isOrder (x0 : List D) (x1 : Int) : Option (Bool) := c_impl_isOrder x0 x1 some
def e_impl_isOrder : Ent := ⟨75, [.rd (.int .i64), .int .i64], .bool, [.undef, .undef], fun _ ds k => dL (fun x0 ds => dI (fun x1 ds => dE ((impl_isOrder x0 x1).bind (fun y => k [.B y])) ds) ds) ds⟩
theorem q_impl_isOrder (x0 : List D) (x1 : Int) : runFn (ocOf [e_slices_Clone, e_slices_Sort]) (olOf [e_impl_isOrder_L4]) A 75 Go.Proofs.Try.f75 (Sh.mks e_impl_isOrder.sh [.L x0, .I x1]).1 (fun v os => some (v, os)) = c_impl_isOrder x0 x1 (fun y => some ((e_impl_isOrder.res.mk [.B y]).1, (Sh.mks e_impl_isOrder.outs (e_impl_isOrder.res.mk [.B y]).2).1)) := by kernel_rfl
theorem e_impl_isOrder_ok : e_impl_isOrder.ok Go.Proofs.Try.prog A := by
  intro R ds k r h
  unfold e_impl_isOrder at h
  obtain ⟨x0, d0, rfl, h0⟩ := dL_some h
  obtain ⟨x1, d1, rfl, h1⟩ := dI_some h0
  obtain ⟨rfl, hE⟩ := dE_some h1
  obtain ⟨y, hy, hk⟩ := bnd_some hE
  refine ⟨_, hk, fn_ok px (fx := ⟨Go.Proofs.Try.func75, by kernel_rfl, by kernel_rfl⟩) (entsOK_cons e_slices_Clone_ok (entsOK_cons e_slices_Sort_ok entsOK_nil)) (lentsOK_cons e_impl_isOrder_L4_ok lentsOK_nil) ?_⟩
  have hq := q_impl_isOrder x0 x1
  rw [c_impl_isOrder_bind] at hq
  rw [show c_impl_isOrder x0 x1 some = some y from hy] at hq
  exact hq

/-! loop.example/g00876/impl.areTableOrder -/
def c_impl_areTableOrder {R : Type} (x0 : List D) (x1 : List D) (k : Bool → Option R) : Option R :=
 (impl_IsValidTable x0).bind (fun y0 =>
 bif y0 then
 (impl_isOrder x1 (↑x0.length : Int)).bind (fun y1 =>
 k y1)
 else
 k Bool.false)
theorem c_impl_areTableOrder_bind {R : Type} (x0 : List D) (x1 : List D) (k : Bool → Option R) : c_impl_areTableOrder x0 x1 k = (c_impl_areTableOrder x0 x1 some).bind k := by
  unfold c_impl_areTableOrder
  repeat' first
    | exact bnd_tail
    | exact bnd_none
    | exact bnd_leaf
    | apply bnd_ite
    | apply bnd_cond
    | apply bnd_sum
    | (apply bnd_bind; intro _)
    | intro _
def impl_areTableOrder (x0 : List D) (x1 : List D) : Option (Bool) := c_impl_areTableOrder x0 x1 some
def e_impl_areTableOrder : Ent := ⟨56, [.agg [.rd (.slice (.int .i64))], .rd (.int .i64)], .bool, [.undef, .undef], fun _ ds k => dL (fun x0 ds => dL (fun x1 ds => dE ((impl_areTableOrder x0 x1).bind (fun y => k [.B y])) ds) ds) ds⟩
theorem q_impl_areTableOrder (x0 : List D) (x1 : List D) : runFn (ocOf [e_impl_IsValidTable, e_impl_isOrder]) (olOf []) A 56 Go.Proofs.Try.f56 (Sh.mks e_impl_areTableOrder.sh [.L x0, .L x1]).1 (fun v os => some (v, os)) = c_impl_areTableOrder x0 x1 (fun y => some ((e_impl_areTableOrder.res.mk [.B y]).1, (Sh.mks e_impl_areTableOrder.outs (e_impl_areTableOrder.res.mk [.B y]).2).1)) := by kernel_rfl
theorem e_impl_areTableOrder_ok : e_impl_areTableOrder.ok Go.Proofs.Try.prog A := by
  intro R ds k r h
  unfold e_impl_areTableOrder at h
  obtain ⟨x0, d0, rfl, h0⟩ := dL_some h
  obtain ⟨x1, d1, rfl, h1⟩ := dL_some h0
  obtain ⟨rfl, hE⟩ := dE_some h1
  obtain ⟨y, hy, hk⟩ := bnd_some hE
  refine ⟨_, hk, fn_ok px (fx := ⟨Go.Proofs.Try.func56, by kernel_rfl, by kernel_rfl⟩) (entsOK_cons e_impl_IsValidTable_ok (entsOK_cons e_impl_isOrder_ok entsOK_nil)) lentsOK_nil ?_⟩
  have hq := q_impl_areTableOrder x0 x1
  rw [c_impl_areTableOrder_bind] at hq
  rw [show c_impl_areTableOrder x0 x1 some = some y from hy] at hq
  exact hq

/-! loop.example/g00876/impl.typeRange, loop 3 -/
def c_impl_typeRange_L3 {R : Type} (F : Int → Int → Int → List D → Int → Int → List D → Option (Int × Int)) (x0 : Int) (x1 : Int) (x2 : Int) (x3 : List D) (x4 : Int) (x5 : Int) (x6 : List D) (k : Int × Int → Option R) : Option R :=
 bif Decidable.decide (x5 < x4) then
 if (0 : Int) ≤ x5 ∧ x5 < (↑x3.length : Int) then
 if (0 : Int) ≤ (x3.getD x5.toNat (Go.Rai.D.int (0 : Int))).toInt ∧ (x3.getD x5.toNat (Go.Rai.D.int (0 : Int))).toInt < (↑x6.length : Int) then
 if (0 : Int) ≤ x0 ∧ x0 < (↑(x6.getD (x3.getD x5.toNat (Go.Rai.D.int (0 : Int))).toInt.toNat (Go.Rai.D.int (0 : Int))).items.length : Int) then
 bif Decidable.decide ((0 : Int) < ((x6.getD (x3.getD x5.toNat (Go.Rai.D.int (0 : Int))).toInt.toNat (Go.Rai.D.int (0 : Int))).items.getD x0.toNat (Go.Rai.D.int (0 : Int))).toInt) then
 bif Decidable.decide (x1 < (0 : Int)) then
 (F x0 x5 x5 x3 x4 (Go.IntKind.i64.wrap (x5 + (1 : Int))) x6).bind k
 else
 (F x0 x1 x5 x3 x4 (Go.IntKind.i64.wrap (x5 + (1 : Int))) x6).bind k
 else
 (F x0 x1 x2 x3 x4 (Go.IntKind.i64.wrap (x5 + (1 : Int))) x6).bind k
 else
 none
 else
 none
 else
 none
 else
 k (x1, x2)
theorem c_impl_typeRange_L3_bind {R : Type} (F : Int → Int → Int → List D → Int → Int → List D → Option (Int × Int)) (x0 : Int) (x1 : Int) (x2 : Int) (x3 : List D) (x4 : Int) (x5 : Int) (x6 : List D) (k : Int × Int → Option R) : c_impl_typeRange_L3 F x0 x1 x2 x3 x4 x5 x6 k = (c_impl_typeRange_L3 F x0 x1 x2 x3 x4 x5 x6 some).bind k := by
  unfold c_impl_typeRange_L3
  repeat' first
    | exact bnd_tail
    | exact bnd_none
    | exact bnd_leaf
    | apply bnd_ite
    | apply bnd_cond
    | apply bnd_sum
    | (apply bnd_bind; intro _)
    | intro _
def n_impl_typeRange_L3 : Nat → Int → Int → Int → List D → Int → Int → List D → Option (Int × Int)
 | 0, _, _, _, _, _, _, _ => none
 | n + 1, x0, x1, x2, x3, x4, x5, x6 => c_impl_typeRange_L3 (n_impl_typeRange_L3 n) x0 x1 x2 x3 x4 x5 x6 some
noncomputable def impl_typeRange_L3 (x0 : Int) (x1 : Int) (x2 : Int) (x3 : List D) (x4 : Int) (x5 : Int) (x6 : List D) : Option (Int × Int) := ev (fun n => n_impl_typeRange_L3 n x0 x1 x2 x3 x4 x5 x6)
def m_impl_typeRange_L3 (F : Int → Int → Int → List D → Int → Int → List D → Option (Int × Int)) : Lent := ⟨3, ⟨[.undef, .undef, .int .i64, .ptr 1000 [0], .undef, .undef, .undef, .undef, .int .i64, .int .i64, .undef, .undef, .rd (.int .i64), .int .i64, .int .i64, .undef, .undef, .undef, .undef, .undef, .undef, .undef, .undef, .undef, .undef, .undef, .undef, .undef, .undef, .undef, .undef, .undef, .undef, .undef, .undef], [(1000, .obox (.agg [.rd (.slice (.int .i64))]))]⟩, [(.exit 0, ⟨[.undef, .undef, .undef, .undef, .undef, .undef, .undef, .undef, .int .i64, .int .i64, .undef, .undef, .undef, .undef, .undef, .undef, .undef, .undef, .undef, .undef, .undef, .undef, .undef, .undef, .undef, .undef, .undef, .undef, .undef, .undef, .undef, .undef, .undef, .undef, .undef], []⟩)], fun _ ds k => dI (fun x0 ds => dI (fun x1 ds => dI (fun x2 ds => dL (fun x3 ds => dI (fun x4 ds => dI (fun x5 ds => dL (fun x6 ds => dE ((F x0 x1 x2 x3 x4 x5 x6).bind (fun y => k 0 [.I y.1, .I y.2])) ds) ds) ds) ds) ds) ds) ds) ds⟩
theorem q_impl_typeRange_L3 (F : Int → Int → Int → List D → Int → Int → List D → Option (Int × Int)) (x0 : Int) (x1 : Int) (x2 : Int) (x3 : List D) (x4 : Int) (x5 : Int) (x6 : List D) : runLoop (ocOf []) (olOf [m_impl_typeRange_L3 F]) A 57 (codeAt (bodyOf Go.Proofs.Try.f57) 3) ((m_impl_typeRange_L3 F).sh.mk' [.I x0, .I x1, .I x2, .L x3, .I x4, .I x5, .L x6]) (fun e σ' => some (e, σ')) = c_impl_typeRange_L3 F x0 x1 x2 x3 x4 x5 x6 (fun y => some (.exit 0, SSt.mk' ⟨[.undef, .undef, .undef, .undef, .undef, .undef, .undef, .undef, .int .i64, .int .i64, .undef, .undef, .undef, .undef, .undef, .undef, .undef, .undef, .undef, .undef, .undef, .undef, .undef, .undef, .undef, .undef, .undef, .undef, .undef, .undef, .undef, .undef, .undef, .undef, .undef], []⟩ [.I y.1, .I y.2])) := by kernel_rfl
theorem m_impl_typeRange_L3_ok : ∀ n, (m_impl_typeRange_L3 (n_impl_typeRange_L3 n)).ok Go.Proofs.Try.prog (codeAt (bodyOf Go.Proofs.Try.f57) 3) := by
  intro n
  induction n with
  | zero =>
    intro R ds k r h
    unfold m_impl_typeRange_L3 at h
    obtain ⟨x0, d0, rfl, h0⟩ := dI_some h
    obtain ⟨x1, d1, rfl, h1⟩ := dI_some h0
    obtain ⟨x2, d2, rfl, h2⟩ := dI_some h1
    obtain ⟨x3, d3, rfl, h3⟩ := dL_some h2
    obtain ⟨x4, d4, rfl, h4⟩ := dI_some h3
    obtain ⟨x5, d5, rfl, h5⟩ := dI_some h4
    obtain ⟨x6, d6, rfl, h6⟩ := dL_some h5
    obtain ⟨rfl, hE⟩ := dE_some h6
    obtain ⟨y, hy, hk⟩ := bnd_some hE
    cases hy
  | succ n ih =>
    intro R ds k r h
    unfold m_impl_typeRange_L3 at h
    obtain ⟨x0, d0, rfl, h0⟩ := dI_some h
    obtain ⟨x1, d1, rfl, h1⟩ := dI_some h0
    obtain ⟨x2, d2, rfl, h2⟩ := dI_some h1
    obtain ⟨x3, d3, rfl, h3⟩ := dL_some h2
    obtain ⟨x4, d4, rfl, h4⟩ := dI_some h3
    obtain ⟨x5, d5, rfl, h5⟩ := dI_some h4
    obtain ⟨x6, d6, rfl, h6⟩ := dL_some h5
    obtain ⟨rfl, hE⟩ := dE_some h6
    obtain ⟨y, hy, hk⟩ := bnd_some hE
    have hq := q_impl_typeRange_L3 (n_impl_typeRange_L3 n) x0 x1 x2 x3 x4 x5 x6
    rw [c_impl_typeRange_L3_bind] at hq
    rw [show c_impl_typeRange_L3 (n_impl_typeRange_L3 n) x0 x1 x2 x3 x4 x5 x6 some = some y from hy] at hq
    refine ⟨0, _, _, _, hk, rfl, loop_ok px (fx := ⟨Go.Proofs.Try.func57, by kernel_rfl, by kernel_rfl⟩) entsOK_nil (lentsOK_cons ih lentsOK_nil) (by kernel_rfl) ?_⟩
    exact hq
noncomputable def e_impl_typeRange_L3 : Lent := m_impl_typeRange_L3 (impl_typeRange_L3)
theorem e_impl_typeRange_L3_ok : (e_impl_typeRange_L3).ok Go.Proofs.Try.prog (codeAt (bodyOf Go.Proofs.Try.f57) 3) := by
  intro R ds k r h
  unfold e_impl_typeRange_L3 m_impl_typeRange_L3 at h
  obtain ⟨x0, d0, rfl, h0⟩ := dI_some h
  obtain ⟨x1, d1, rfl, h1⟩ := dI_some h0
  obtain ⟨x2, d2, rfl, h2⟩ := dI_some h1
  obtain ⟨x3, d3, rfl, h3⟩ := dL_some h2
  obtain ⟨x4, d4, rfl, h4⟩ := dI_some h3
  obtain ⟨x5, d5, rfl, h5⟩ := dI_some h4
  obtain ⟨x6, d6, rfl, h6⟩ := dL_some h5
  obtain ⟨rfl, hE⟩ := dE_some h6
  obtain ⟨y, hy, hk⟩ := bnd_some hE
  obtain ⟨n, hn⟩ := ev_some hy
  exact m_impl_typeRange_L3_ok n R _ k r (show (n_impl_typeRange_L3 n x0 x1 x2 x3 x4 x5 x6).bind _ = _ by rw [hn]; exact hk)

/-! loop.example/g00876/impl.typeRange -/
def c_impl_typeRange {R : Type} (x0 : List D) (x1 : List D) (x2 : Int) (k : Int × Int → Option R) : Option R :=
 (impl_typeRange_L3 x2 (-1 : Int) (-1 : Int) x1 (↑x1.length : Int) (0 : Int) x0).bind (fun y0 =>
 k (y0.fst, y0.snd))
theorem c_impl_typeRange_bind {R : Type} (x0 : List D) (x1 : List D) (x2 : Int) (k : Int × Int → Option R) : c_impl_typeRange x0 x1 x2 k = (c_impl_typeRange x0 x1 x2 some).bind k := by
  unfold c_impl_typeRange
  repeat' first
    | exact bnd_tail
    | exact bnd_none
    | exact bnd_leaf
    | apply bnd_ite
    | apply bnd_cond
    | apply bnd_sum
    | (apply bnd_bind; intro _)
    | intro _
def impl_typeRange (x0 : List D) (x1 : List D) (x2 : Int) : Option (Int × Int) := c_impl_typeRange x0 x1 x2 some
def e_impl_typeRange : Ent := ⟨57, [.agg [.rd (.slice (.int .i64))], .rd (.int .i64), .int .i64], .tup [.int .i64, .int .i64], [.undef, .undef, .undef], fun _ ds k => dL (fun x0 ds => dL (fun x1 ds => dI (fun x2 ds => dE ((impl_typeRange x0 x1 x2).bind (fun y => k [.I y.1, .I y.2])) ds) ds) ds) ds⟩
theorem q_impl_typeRange (x0 : List D) (x1 : List D) (x2 : Int) : runFn (ocOf []) (olOf [e_impl_typeRange_L3]) A 57 Go.Proofs.Try.f57 (Sh.mks e_impl_typeRange.sh [.L x0, .L x1, .I x2]).1 (fun v os => some (v, os)) = c_impl_typeRange x0 x1 x2 (fun y => some ((e_impl_typeRange.res.mk [.I y.1, .I y.2]).1, (Sh.mks e_impl_typeRange.outs (e_impl_typeRange.res.mk [.I y.1, .I y.2]).2).1)) := by kernel_rfl
theorem e_impl_typeRange_ok : e_impl_typeRange.ok Go.Proofs.Try.prog A := by
  intro R ds k r h
  unfold e_impl_typeRange at h
  obtain ⟨x0, d0, rfl, h0⟩ := dL_some h
  obtain ⟨x1, d1, rfl, h1⟩ := dL_some h0
  obtain ⟨x2, d2, rfl, h2⟩ := dI_some h1
  obtain ⟨rfl, hE⟩ := dE_some h2
  obtain ⟨y, hy, hk⟩ := bnd_some hE
  refine ⟨_, hk, fn_ok px (fx := ⟨Go.Proofs.Try.func57, by kernel_rfl, by kernel_rfl⟩) entsOK_nil (lentsOK_cons e_impl_typeRange_L3_ok lentsOK_nil) ?_⟩
  have hq := q_impl_typeRange x0 x1 x2
  rw [c_impl_typeRange_bind] at hq
  rw [show c_impl_typeRange x0 x1 x2 some = some y from hy] at hq
  exact hq

/-! loop.example/g00876/impl.gapsAt, loop 7 -/
def c_impl_gapsAt_L7 {R : Type} (F : List D → Int → Int → Int → Int → Int → List D → Int → Int → List D → List D → Option (List D × Int × Int × List D × List D)) (x0 : List D) (x1 : Int) (x2 : Int) (x3 : Int) (x4 : Int) (x5 : Int) (x6 : List D) (x7 : Int) (x8 : Int) (x9 : List D) (x10 : List D) (k : List D × Int × Int × List D × List D → Option R) : Option R :=
 bif Decidable.decide (x8 < x7) then
 if (0 : Int) ≤ x8 ∧ x8 < (↑x6.length : Int) then
 bif Decidable.decide (x2 < x8) then
 bif Decidable.decide (x8 < x3) then
 if (0 : Int) ≤ (x6.getD x8.toNat (Go.Rai.D.int (0 : Int))).toInt ∧ (x6.getD x8.toNat (Go.Rai.D.int (0 : Int))).toInt < (↑x9.length : Int) then
 if (0 : Int) ≤ x1 ∧ x1 < (↑(x9.getD (x6.getD x8.toNat (Go.Rai.D.int (0 : Int))).toInt.toNat (Go.Rai.D.int (0 : Int))).items.length : Int) then
 bif Decidable.decide (((x9.getD (x6.getD x8.toNat (Go.Rai.D.int (0 : Int))).toInt.toNat (Go.Rai.D.int (0 : Int))).items.getD x1.toNat (Go.Rai.D.int (0 : Int))).toInt = (0 : Int)) then
 if (0 : Int) ≤ x8 ∧ x8 < (↑x10.length : Int) then
 if x8.toNat + (1 : Nat) ≤ x10.length then
 if (0 : Int) ≤ x8 ∧ x8 < (↑x10.length : Int) then
 if x8.toNat + (1 : Nat) ≤ x10.length then
 (F x0 x1 x2 x3 x4 x5 x6 x7 (Go.IntKind.i64.wrap (x8 + (1 : Int))) x9 (x10.set x8.toNat (Go.Rai.D.int (Go.IntKind.i64.wrap ((x10.getD x8.toNat (Go.Rai.D.int (0 : Int))).toInt + (1 : Int)))))).bind k
 else
 none
 else
 none
 else
 none
 else
 none
 else
 (F x0 x1 x2 x3 x4 x5 x6 x7 (Go.IntKind.i64.wrap (x8 + (1 : Int))) x9 x10).bind k
 else
 none
 else
 none
 else
 (F x0 x1 x2 x3 x4 x5 x6 x7 (Go.IntKind.i64.wrap (x8 + (1 : Int))) x9 x10).bind k
 else
 (F x0 x1 x2 x3 x4 x5 x6 x7 (Go.IntKind.i64.wrap (x8 + (1 : Int))) x9 x10).bind k
 else
 none
 else
 k (x0, x4, x5, x9, x10)
theorem c_impl_gapsAt_L7_bind {R : Type} (F : List D → Int → Int → Int → Int → Int → List D → Int → Int → List D → List D → Option (List D × Int × Int × List D × List D)) (x0 : List D) (x1 : Int) (x2 : Int) (x3 : Int) (x4 : Int) (x5 : Int) (x6 : List D) (x7 : Int) (x8 : Int) (x9 : List D) (x10 : List D) (k : List D × Int × Int × List D × List D → Option R) : c_impl_gapsAt_L7 F x0 x1 x2 x3 x4 x5 x6 x7 x8 x9 x10 k = (c_impl_gapsAt_L7 F x0 x1 x2 x3 x4 x5 x6 x7 x8 x9 x10 some).bind k := by
  unfold c_impl_gapsAt_L7
  repeat' first
    | exact bnd_tail
    | exact bnd_none
    | exact bnd_leaf
    | apply bnd_ite
    | apply bnd_cond
    | apply bnd_sum
    | (apply bnd_bind; intro _)
    | intro _
def n_impl_gapsAt_L7 : Nat → List D → Int → Int → Int → Int → Int → List D → Int → Int → List D → List D → Option (List D × Int × Int × List D × List D)
 | 0, _, _, _, _, _, _, _, _, _, _, _ => none
 | n + 1, x0, x1, x2, x3, x4, x5, x6, x7, x8, x9, x10 => c_impl_gapsAt_L7 (n_impl_gapsAt_L7 n) x0 x1 x2 x3 x4 x5 x6 x7 x8 x9 x10 some
noncomputable def impl_gapsAt_L7 (x0 : List D) (x1 : Int) (x2 : Int) (x3 : Int) (x4 : Int) (x5 : Int) (x6 : List D) (x7 : Int) (x8 : Int) (x9 : List D) (x10 : List D) : Option (List D × Int × Int × List D × List D) := ev (fun n => n_impl_gapsAt_L7 n x0 x1 x2 x3 x4 x5 x6 x7 x8 x9 x10)
def m_impl_gapsAt_L7 (F : List D → Int → Int → Int → Int → Int → List D → Int → Int → List D → List D → Option (List D × Int × Int × List D × List D)) : Lent := ⟨7, ⟨[.undef, .rd (.int .i64), .ptr 1000 [0], .undef, .undef, .full 1001 [] (.int .i64), .int .i64, .int .i64, .int .i64, .undef, .undef, .undef, .undef, .undef, .undef, .undef, .undef, .undef, .int .i64, .int .i64, .undef, .undef, .undef, .undef, .undef, .undef, .undef, .undef, .undef, .rd (.int .i64), .int .i64, .int .i64, .undef, .undef, .undef, .undef, .undef, .undef, .undef, .undef, .undef, .undef, .undef, .undef, .undef, .undef, .undef, .undef, .undef, .undef, .undef, .undef, .undef, .undef, .undef, .undef, .undef, .undef, .undef, .undef, .undef, .undef, .undef, .undef], [(1000, .obox (.agg [.rd (.slice (.int .i64))])), (1001, .own (.int .i64))]⟩, [(.exit 2, ⟨[.undef, .rd (.int .i64), .ptr 1000 [0], .undef, .undef, .full 1001 [] (.int .i64), .undef, .undef, .undef, .undef, .undef, .undef, .undef, .undef, .undef, .undef, .undef, .undef, .int .i64, .int .i64, .undef, .undef, .undef, .undef, .undef, .undef, .undef, .undef, .undef, .undef, .undef, .undef, .undef, .undef, .undef, .undef, .undef, .undef, .undef, .undef, .undef, .undef, .undef, .undef, .undef, .undef, .undef, .undef, .undef, .undef, .undef, .undef, .undef, .undef, .undef, .undef, .undef, .undef, .undef, .undef, .undef, .undef, .undef, .undef], [(1000, .obox (.agg [.rd (.slice (.int .i64))])), (1001, .own (.int .i64))]⟩)], fun _ ds k => dL (fun x0 ds => dI (fun x1 ds => dI (fun x2 ds => dI (fun x3 ds => dI (fun x4 ds => dI (fun x5 ds => dL (fun x6 ds => dI (fun x7 ds => dI (fun x8 ds => dL (fun x9 ds => dL (fun x10 ds => dE ((F x0 x1 x2 x3 x4 x5 x6 x7 x8 x9 x10).bind (fun y => k 0 [.L y.1, .I y.2.1, .I y.2.2.1, .L y.2.2.2.1, .L y.2.2.2.2])) ds) ds) ds) ds) ds) ds) ds) ds) ds) ds) ds) ds⟩
theorem q_impl_gapsAt_L7 (F : List D → Int → Int → Int → Int → Int → List D → Int → Int → List D → List D → Option (List D × Int × Int × List D × List D)) (x0 : List D) (x1 : Int) (x2 : Int) (x3 : Int) (x4 : Int) (x5 : Int) (x6 : List D) (x7 : Int) (x8 : Int) (x9 : List D) (x10 : List D) : runLoop (ocOf []) (olOf [m_impl_gapsAt_L7 F]) A 62 (codeAt (bodyOf Go.Proofs.Try.f62) 7) ((m_impl_gapsAt_L7 F).sh.mk' [.L x0, .I x1, .I x2, .I x3, .I x4, .I x5, .L x6, .I x7, .I x8, .L x9, .L x10]) (fun e σ' => some (e, σ')) = c_impl_gapsAt_L7 F x0 x1 x2 x3 x4 x5 x6 x7 x8 x9 x10 (fun y => some (.exit 2, SSt.mk' ⟨[.undef, .rd (.int .i64), .ptr 1000 [0], .undef, .undef, .full 1001 [] (.int .i64), .undef, .undef, .undef, .undef, .undef, .undef, .undef, .undef, .undef, .undef, .undef, .undef, .int .i64, .int .i64, .undef, .undef, .undef, .undef, .undef, .undef, .undef, .undef, .undef, .undef, .undef, .undef, .undef, .undef, .undef, .undef, .undef, .undef, .undef, .undef, .undef, .undef, .undef, .undef, .undef, .undef, .undef, .undef, .undef, .undef, .undef, .undef, .undef, .undef, .undef, .undef, .undef, .undef, .undef, .undef, .undef, .undef, .undef, .undef], [(1000, .obox (.agg [.rd (.slice (.int .i64))])), (1001, .own (.int .i64))]⟩ [.L y.1, .I y.2.1, .I y.2.2.1, .L y.2.2.2.1, .L y.2.2.2.2])) := by kernel_rfl
theorem m_impl_gapsAt_L7_ok : ∀ n, (m_impl_gapsAt_L7 (n_impl_gapsAt_L7 n)).ok Go.Proofs.Try.prog (codeAt (bodyOf Go.Proofs.Try.f62) 7) := by
  intro n
  induction n with
  | zero =>
    intro R ds k r h
    unfold m_impl_gapsAt_L7 at h
    obtain ⟨x0, d0, rfl, h0⟩ := dL_some h
    obtain ⟨x1, d1, rfl, h1⟩ := dI_some h0
    obtain ⟨x2, d2, rfl, h2⟩ := dI_some h1
    obtain ⟨x3, d3, rfl, h3⟩ := dI_some h2
    obtain ⟨x4, d4, rfl, h4⟩ := dI_some h3
    obtain ⟨x5, d5, rfl, h5⟩ := dI_some h4
    obtain ⟨x6, d6, rfl, h6⟩ := dL_some h5
    obtain ⟨x7, d7, rfl, h7⟩ := dI_some h6
    obtain ⟨x8, d8, rfl, h8⟩ := dI_some h7
    obtain ⟨x9, d9, rfl, h9⟩ := dL_some h8
    obtain ⟨x10, d10, rfl, h10⟩ := dL_some h9
    obtain ⟨rfl, hE⟩ := dE_some h10
    obtain ⟨y, hy, hk⟩ := bnd_some hE
    cases hy
  | succ n ih =>
    intro R ds k r h
    unfold m_impl_gapsAt_L7 at h
    obtain ⟨x0, d0, rfl, h0⟩ := dL_some h
    obtain ⟨x1, d1, rfl, h1⟩ := dI_some h0
    obtain ⟨x2, d2, rfl, h2⟩ := dI_some h1
    obtain ⟨x3, d3, rfl, h3⟩ := dI_some h2
    obtain ⟨x4, d4, rfl, h4⟩ := dI_some h3
    obtain ⟨x5, d5, rfl, h5⟩ := dI_some h4
    obtain ⟨x6, d6, rfl, h6⟩ := dL_some h5
    obtain ⟨x7, d7, rfl, h7⟩ := dI_some h6
    obtain ⟨x8, d8, rfl, h8⟩ := dI_some h7
    obtain ⟨x9, d9, rfl, h9⟩ := dL_some h8
    obtain ⟨x10, d10, rfl, h10⟩ := dL_some h9
    obtain ⟨rfl, hE⟩ := dE_some h10
    obtain ⟨y, hy, hk⟩ := bnd_some hE
    have hq := q_impl_gapsAt_L7 (n_impl_gapsAt_L7 n) x0 x1 x2 x3 x4 x5 x6 x7 x8 x9 x10
    rw [c_impl_gapsAt_L7_bind] at hq
    rw [show c_impl_gapsAt_L7 (n_impl_gapsAt_L7 n) x0 x1 x2 x3 x4 x5 x6 x7 x8 x9 x10 some = some y from hy] at hq
    refine ⟨0, _, _, _, hk, rfl, loop_ok px (fx := ⟨Go.Proofs.Try.func62, by kernel_rfl, by kernel_rfl⟩) entsOK_nil (lentsOK_cons ih lentsOK_nil) (by kernel_rfl) ?_⟩
    exact hq
noncomputable def e_impl_gapsAt_L7 : Lent := m_impl_gapsAt_L7 (impl_gapsAt_L7)
theorem e_impl_gapsAt_L7_ok : (e_impl_gapsAt_L7).ok Go.Proofs.Try.prog (codeAt (bodyOf Go.Proofs.Try.f62) 7) := by
  intro R ds k r h
  unfold e_impl_gapsAt_L7 m_impl_gapsAt_L7 at h
  obtain ⟨x0, d0, rfl, h0⟩ := dL_some h
  obtain ⟨x1, d1, rfl, h1⟩ := dI_some h0
  obtain ⟨x2, d2, rfl, h2⟩ := dI_some h1
  obtain ⟨x3, d3, rfl, h3⟩ := dI_some h2
  obtain ⟨x4, d4, rfl, h4⟩ := dI_some h3
  obtain ⟨x5, d5, rfl, h5⟩ := dI_some h4
  obtain ⟨x6, d6, rfl, h6⟩ := dL_some h5
  obtain ⟨x7, d7, rfl, h7⟩ := dI_some h6
  obtain ⟨x8, d8, rfl, h8⟩ := dI_some h7
  obtain ⟨x9, d9, rfl, h9⟩ := dL_some h8
  obtain ⟨x10, d10, rfl, h10⟩ := dL_some h9
  obtain ⟨rfl, hE⟩ := dE_some h10
  obtain ⟨y, hy, hk⟩ := bnd_some hE
  obtain ⟨n, hn⟩ := ev_some hy
  exact m_impl_gapsAt_L7_ok n R _ k r (show (n_impl_gapsAt_L7 n x0 x1 x2 x3 x4 x5 x6 x7 x8 x9 x10).bind _ = _ by rw [hn]; exact hk)

/-! loop.example/g00876/impl.gapsAt, loop 3 -/
def c_impl_gapsAt_L3 {R : Type} (F : List D → Int → Int → List D → List D → Option (List D)) (x0 : List D) (x1 : Int) (x2 : Int) (x3 : List D) (x4 : List D) (k : List D → Option R) : Option R :=
 bif Decidable.decide (x2 < x1) then
 (impl_typeRange x3 x0 x2).bind (fun y0 =>
 (impl_gapsAt_L7 x0 x2 y0.fst y0.snd x1 x2 x0 (↑x0.length : Int) (0 : Int) x3 x4).bind (fun y1 =>
 (F y1.fst y1.snd.fst (Go.IntKind.i64.wrap (y1.snd.snd.fst + (1 : Int))) y1.snd.snd.snd.fst y1.snd.snd.snd.snd).bind k))
 else
 k x4
theorem c_impl_gapsAt_L3_bind {R : Type} (F : List D → Int → Int → List D → List D → Option (List D)) (x0 : List D) (x1 : Int) (x2 : Int) (x3 : List D) (x4 : List D) (k : List D → Option R) : c_impl_gapsAt_L3 F x0 x1 x2 x3 x4 k = (c_impl_gapsAt_L3 F x0 x1 x2 x3 x4 some).bind k := by
  unfold c_impl_gapsAt_L3
  repeat' first
    | exact bnd_tail
    | exact bnd_none
    | exact bnd_leaf
    | apply bnd_ite
    | apply bnd_cond
    | apply bnd_sum
    | (apply bnd_bind; intro _)
    | intro _
def n_impl_gapsAt_L3 : Nat → List D → Int → Int → List D → List D → Option (List D)
 | 0, _, _, _, _, _ => none
 | n + 1, x0, x1, x2, x3, x4 => c_impl_gapsAt_L3 (n_impl_gapsAt_L3 n) x0 x1 x2 x3 x4 some
noncomputable def impl_gapsAt_L3 (x0 : List D) (x1 : Int) (x2 : Int) (x3 : List D) (x4 : List D) : Option (List D) := ev (fun n => n_impl_gapsAt_L3 n x0 x1 x2 x3 x4)
def m_impl_gapsAt_L3 (F : List D → Int → Int → List D → List D → Option (List D)) : Lent := ⟨3, ⟨[.undef, .rd (.int .i64), .ptr 1000 [0], .undef, .undef, .full 1001 [] (.int .i64), .undef, .undef, .undef, .undef, .undef, .undef, .undef, .undef, .undef, .undef, .undef, .undef, .int .i64, .int .i64, .undef, .undef, .undef, .undef, .undef, .undef, .undef, .undef, .undef, .undef, .undef, .undef, .undef, .undef, .undef, .undef, .undef, .undef, .undef, .undef, .undef, .undef, .undef, .undef, .undef, .undef, .undef, .undef, .undef, .undef, .undef, .undef, .undef, .undef, .undef, .undef, .undef, .undef, .undef, .undef, .undef, .undef, .undef, .undef], [(1000, .obox (.agg [.rd (.slice (.int .i64))])), (1001, .own (.int .i64))]⟩, [(.exit 0, ⟨[.undef, .undef, .undef, .undef, .undef, .full 1000 [] (.int .i64), .undef, .undef, .undef, .undef, .undef, .undef, .undef, .undef, .undef, .undef, .undef, .undef, .undef, .undef, .undef, .undef, .undef, .undef, .undef, .undef, .undef, .undef, .undef, .undef, .undef, .undef, .undef, .undef, .undef, .undef, .undef, .undef, .undef, .undef, .undef, .undef, .undef, .undef, .undef, .undef, .undef, .undef, .undef, .undef, .undef, .undef, .undef, .undef, .undef, .undef, .undef, .undef, .undef, .undef, .undef, .undef, .undef, .undef], [(1000, .own (.int .i64))]⟩)], fun _ ds k => dL (fun x0 ds => dI (fun x1 ds => dI (fun x2 ds => dL (fun x3 ds => dL (fun x4 ds => dE ((F x0 x1 x2 x3 x4).bind (fun y => k 0 [.L y])) ds) ds) ds) ds) ds) ds⟩
theorem q_impl_gapsAt_L3 (F : List D → Int → Int → List D → List D → Option (List D)) (x0 : List D) (x1 : Int) (x2 : Int) (x3 : List D) (x4 : List D) : runLoop (ocOf [e_impl_typeRange]) (olOf [m_impl_gapsAt_L3 F, e_impl_gapsAt_L7]) A 62 (codeAt (bodyOf Go.Proofs.Try.f62) 3) ((m_impl_gapsAt_L3 F).sh.mk' [.L x0, .I x1, .I x2, .L x3, .L x4]) (fun e σ' => some (e, σ')) = c_impl_gapsAt_L3 F x0 x1 x2 x3 x4 (fun y => some (.exit 0, SSt.mk' ⟨[.undef, .undef, .undef, .undef, .undef, .full 1000 [] (.int .i64), .undef, .undef, .undef, .undef, .undef, .undef, .undef, .undef, .undef, .undef, .undef, .undef, .undef, .undef, .undef, .undef, .undef, .undef, .undef, .undef, .undef, .undef, .undef, .undef, .undef, .undef, .undef, .undef, .undef, .undef, .undef, .undef, .undef, .undef, .undef, .undef, .undef, .undef, .undef, .undef, .undef, .undef, .undef, .undef, .undef, .undef, .undef, .undef, .undef, .undef, .undef, .undef, .undef, .undef, .undef, .undef, .undef, .undef], [(1000, .own (.int .i64))]⟩ [.L y])) := by kernel_rfl
theorem m_impl_gapsAt_L3_ok : ∀ n, (m_impl_gapsAt_L3 (n_impl_gapsAt_L3 n)).ok Go.Proofs.Try.prog (codeAt (bodyOf Go.Proofs.Try.f62) 3) := by
  intro n
  induction n with
  | zero =>
    intro R ds k r h
    unfold m_impl_gapsAt_L3 at h
    obtain ⟨x0, d0, rfl, h0⟩ := dL_some h
    obtain ⟨x1, d1, rfl, h1⟩ := dI_some h0
    obtain ⟨x2, d2, rfl, h2⟩ := dI_some h1
    obtain ⟨x3, d3, rfl, h3⟩ := dL_some h2
    obtain ⟨x4, d4, rfl, h4⟩ := dL_some h3
    obtain ⟨rfl, hE⟩ := dE_some h4
    obtain ⟨y, hy, hk⟩ := bnd_some hE
    cases hy
  | succ n ih =>
    intro R ds k r h
    unfold m_impl_gapsAt_L3 at h
    obtain ⟨x0, d0, rfl, h0⟩ := dL_some h
    obtain ⟨x1, d1, rfl, h1⟩ := dI_some h0
    obtain ⟨x2, d2, rfl, h2⟩ := dI_some h1
    obtain ⟨x3, d3, rfl, h3⟩ := dL_some h2
    obtain ⟨x4, d4, rfl, h4⟩ := dL_some h3
    obtain ⟨rfl, hE⟩ := dE_some h4
    obtain ⟨y, hy, hk⟩ := bnd_some hE
    have hq := q_impl_gapsAt_L3 (n_impl_gapsAt_L3 n) x0 x1 x2 x3 x4
    rw [c_impl_gapsAt_L3_bind] at hq
    rw [show c_impl_gapsAt_L3 (n_impl_gapsAt_L3 n) x0 x1 x2 x3 x4 some = some y from hy] at hq
    refine ⟨0, _, _, _, hk, rfl, loop_ok px (fx := ⟨Go.Proofs.Try.func62, by kernel_rfl, by kernel_rfl⟩) (entsOK_cons e_impl_typeRange_ok entsOK_nil) (lentsOK_cons ih (lentsOK_cons e_impl_gapsAt_L7_ok lentsOK_nil)) (by kernel_rfl) ?_⟩
    exact hq
noncomputable def e_impl_gapsAt_L3 : Lent := m_impl_gapsAt_L3 (impl_gapsAt_L3)
theorem e_impl_gapsAt_L3_ok : (e_impl_gapsAt_L3).ok Go.Proofs.Try.prog (codeAt (bodyOf Go.Proofs.Try.f62) 3) := by
  intro R ds k r h
  unfold e_impl_gapsAt_L3 m_impl_gapsAt_L3 at h
  obtain ⟨x0, d0, rfl, h0⟩ := dL_some h
  obtain ⟨x1, d1, rfl, h1⟩ := dI_some h0
  obtain ⟨x2, d2, rfl, h2⟩ := dI_some h1
  obtain ⟨x3, d3, rfl, h3⟩ := dL_some h2
  obtain ⟨x4, d4, rfl, h4⟩ := dL_some h3
  obtain ⟨rfl, hE⟩ := dE_some h4
  obtain ⟨y, hy, hk⟩ := bnd_some hE
  obtain ⟨n, hn⟩ := ev_some hy
  exact m_impl_gapsAt_L3_ok n R _ k r (show (n_impl_gapsAt_L3 n x0 x1 x2 x3 x4).bind _ = _ by rw [hn]; exact hk)

/-! loop.example/g00876/impl.gapsAt -/
def c_impl_gapsAt {R : Type} (x0 : List D) (x1 : List D) (k : List D → Option R) : Option R :=
 if (0 : Int) ≤ (↑x1.length : Int) ∧ (↑x1.length : Int) ≤ (↑x1.length : Int) ∧ (↑x1.length : Int) ≤ (4294967296 : Int) then
 if (0 : Int) ≤ (0 : Int) ∧ (0 : Int) < (↑x0.length : Int) then
 (impl_gapsAt_L3 x1 (↑(x0.getD (Int.toNat (0 : Int)) (Go.Rai.D.int (0 : Int))).items.length : Int) (0 : Int) x0 (List.replicate (↑x1.length : Int).toNat (Go.Rai.D.int (0 : Int)))).bind (fun y0 =>
 k y0)
 else
 none
 else
 none
theorem c_impl_gapsAt_bind {R : Type} (x0 : List D) (x1 : List D) (k : List D → Option R) : c_impl_gapsAt x0 x1 k = (c_impl_gapsAt x0 x1 some).bind k := by
  unfold c_impl_gapsAt
  repeat' first
    | exact bnd_tail
    | exact bnd_none
    | exact bnd_leaf
    | apply bnd_ite
    | apply bnd_cond
    | apply bnd_sum
    | (apply bnd_bind; intro _)
    | intro _
def impl_gapsAt (x0 : List D) (x1 : List D) : Option (List D) := c_impl_gapsAt x0 x1 some
def e_impl_gapsAt : Ent := ⟨62, [.agg [.rd (.slice (.int .i64))], .rd (.int .i64)], .own (.int .i64), [.undef, .undef], fun _ ds k => dL (fun x0 ds => dL (fun x1 ds => dE ((impl_gapsAt x0 x1).bind (fun y => k [.L y])) ds) ds) ds⟩
theorem q_impl_gapsAt (x0 : List D) (x1 : List D) : runFn (ocOf []) (olOf [e_impl_gapsAt_L3]) A 62 Go.Proofs.Try.f62 (Sh.mks e_impl_gapsAt.sh [.L x0, .L x1]).1 (fun v os => some (v, os)) = c_impl_gapsAt x0 x1 (fun y => some ((e_impl_gapsAt.res.mk [.L y]).1, (Sh.mks e_impl_gapsAt.outs (e_impl_gapsAt.res.mk [.L y]).2).1)) := by kernel_rfl
theorem e_impl_gapsAt_ok : e_impl_gapsAt.ok Go.Proofs.Try.prog A := by
  intro R ds k r h
  unfold e_impl_gapsAt at h
  obtain ⟨x0, d0, rfl, h0⟩ := dL_some h
  obtain ⟨x1, d1, rfl, h1⟩ := dL_some h0
  obtain ⟨rfl, hE⟩ := dE_some h1
  obtain ⟨y, hy, hk⟩ := bnd_some hE
  refine ⟨_, hk, fn_ok px (fx := ⟨Go.Proofs.Try.func62, by kernel_rfl, by kernel_rfl⟩) entsOK_nil (lentsOK_cons e_impl_gapsAt_L3_ok lentsOK_nil) ?_⟩
  have hq := q_impl_gapsAt x0 x1
  rw [c_impl_gapsAt_bind] at hq
  rw [show c_impl_gapsAt x0 x1 some = some y from hy] at hq
  exact hq

/-! loop.example/g00876/impl.sumOf, loop 3 -/
def c_impl_sumOf_L3 {R : Type} (F : Int → List D → Int → Int → Option (Int)) (x0 : Int) (x1 : List D) (x2 : Int) (x3 : Int) (k : Int → Option R) : Option R :=
 bif Decidable.decide (x3 < x2) then
 if (0 : Int) ≤ x3 ∧ x3 < (↑x1.length : Int) then
 (F (Go.IntKind.i64.wrap (x0 + (x1.getD x3.toNat (Go.Rai.D.int (0 : Int))).toInt)) x1 x2 (Go.IntKind.i64.wrap (x3 + (1 : Int)))).bind k
 else
 none
 else
 k x0
theorem c_impl_sumOf_L3_bind {R : Type} (F : Int → List D → Int → Int → Option (Int)) (x0 : Int) (x1 : List D) (x2 : Int) (x3 : Int) (k : Int → Option R) : c_impl_sumOf_L3 F x0 x1 x2 x3 k = (c_impl_sumOf_L3 F x0 x1 x2 x3 some).bind k := by
  unfold c_impl_sumOf_L3
  repeat' first
    | exact bnd_tail
    | exact bnd_none
    | exact bnd_leaf
    | apply bnd_ite
    | apply bnd_cond
    | apply bnd_sum
    | (apply bnd_bind; intro _)
    | intro _
def n_impl_sumOf_L3 : Nat → Int → List D → Int → Int → Option (Int)
 | 0, _, _, _, _ => none
 | n + 1, x0, x1, x2, x3 => c_impl_sumOf_L3 (n_impl_sumOf_L3 n) x0 x1 x2 x3 some
noncomputable def impl_sumOf_L3 (x0 : Int) (x1 : List D) (x2 : Int) (x3 : Int) : Option (Int) := ev (fun n => n_impl_sumOf_L3 n x0 x1 x2 x3)
def m_impl_sumOf_L3 (F : Int → List D → Int → Int → Option (Int)) : Lent := ⟨3, ⟨[.undef, .undef, .undef, .int .i64, .undef, .undef, .rd (.int .i64), .int .i64, .int .i64, .undef, .undef, .undef, .undef, .undef, .undef, .undef, .undef], []⟩, [(.exit 0, ⟨[.undef, .undef, .undef, .int .i64, .undef, .undef, .undef, .undef, .undef, .undef, .undef, .undef, .undef, .undef, .undef, .undef, .undef], []⟩)], fun _ ds k => dI (fun x0 ds => dL (fun x1 ds => dI (fun x2 ds => dI (fun x3 ds => dE ((F x0 x1 x2 x3).bind (fun y => k 0 [.I y])) ds) ds) ds) ds) ds⟩
theorem q_impl_sumOf_L3 (F : Int → List D → Int → Int → Option (Int)) (x0 : Int) (x1 : List D) (x2 : Int) (x3 : Int) : runLoop (ocOf []) (olOf [m_impl_sumOf_L3 F]) A 64 (codeAt (bodyOf Go.Proofs.Try.f64) 3) ((m_impl_sumOf_L3 F).sh.mk' [.I x0, .L x1, .I x2, .I x3]) (fun e σ' => some (e, σ')) = c_impl_sumOf_L3 F x0 x1 x2 x3 (fun y => some (.exit 0, SSt.mk' ⟨[.undef, .undef, .undef, .int .i64, .undef, .undef, .undef, .undef, .undef, .undef, .undef, .undef, .undef, .undef, .undef, .undef, .undef], []⟩ [.I y])) := by kernel_rfl
theorem m_impl_sumOf_L3_ok : ∀ n, (m_impl_sumOf_L3 (n_impl_sumOf_L3 n)).ok Go.Proofs.Try.prog (codeAt (bodyOf Go.Proofs.Try.f64) 3) := by
  intro n
  induction n with
  | zero =>
    intro R ds k r h
    unfold m_impl_sumOf_L3 at h
    obtain ⟨x0, d0, rfl, h0⟩ := dI_some h
    obtain ⟨x1, d1, rfl, h1⟩ := dL_some h0
    obtain ⟨x2, d2, rfl, h2⟩ := dI_some h1
    obtain ⟨x3, d3, rfl, h3⟩ := dI_some h2
    obtain ⟨rfl, hE⟩ := dE_some h3
    obtain ⟨y, hy, hk⟩ := bnd_some hE
    cases hy
  | succ n ih =>
    intro R ds k r h
    unfold m_impl_sumOf_L3 at h
    obtain ⟨x0, d0, rfl, h0⟩ := dI_some h
    obtain ⟨x1, d1, rfl, h1⟩ := dL_some h0
    obtain ⟨x2, d2, rfl, h2⟩ := dI_some h1
    obtain ⟨x3, d3, rfl, h3⟩ := dI_some h2
    obtain ⟨rfl, hE⟩ := dE_some h3
    obtain ⟨y, hy, hk⟩ := bnd_some hE
    have hq := q_impl_sumOf_L3 (n_impl_sumOf_L3 n) x0 x1 x2 x3
    rw [c_impl_sumOf_L3_bind] at hq
    rw [show c_impl_sumOf_L3 (n_impl_sumOf_L3 n) x0 x1 x2 x3 some = some y from hy] at hq
    refine ⟨0, _, _, _, hk, rfl, loop_ok px (fx := ⟨Go.Proofs.Try.func64, by kernel_rfl, by kernel_rfl⟩) entsOK_nil (lentsOK_cons ih lentsOK_nil) (by kernel_rfl) ?_⟩
    exact hq
noncomputable def e_impl_sumOf_L3 : Lent := m_impl_sumOf_L3 (impl_sumOf_L3)
theorem e_impl_sumOf_L3_ok : (e_impl_sumOf_L3).ok Go.Proofs.Try.prog (codeAt (bodyOf Go.Proofs.Try.f64) 3) := by
  intro R ds k r h
  unfold e_impl_sumOf_L3 m_impl_sumOf_L3 at h
  obtain ⟨x0, d0, rfl, h0⟩ := dI_some h
  obtain ⟨x1, d1, rfl, h1⟩ := dL_some h0
  obtain ⟨x2, d2, rfl, h2⟩ := dI_some h1
  obtain ⟨x3, d3, rfl, h3⟩ := dI_some h2
  obtain ⟨rfl, hE⟩ := dE_some h3
  obtain ⟨y, hy, hk⟩ := bnd_some hE
  obtain ⟨n, hn⟩ := ev_some hy
  exact m_impl_sumOf_L3_ok n R _ k r (show (n_impl_sumOf_L3 n x0 x1 x2 x3).bind _ = _ by rw [hn]; exact hk)

/-! loop.example/g00876/impl.sumOf -/
def c_impl_sumOf {R : Type} (x0 : List D) (k : Int → Option R) : Option R :=
 (impl_sumOf_L3 (0 : Int) x0 (↑x0.length : Int) (0 : Int)).bind (fun y0 =>
 k y0)
theorem c_impl_sumOf_bind {R : Type} (x0 : List D) (k : Int → Option R) : c_impl_sumOf x0 k = (c_impl_sumOf x0 some).bind k := by
  unfold c_impl_sumOf
  repeat' first
    | exact bnd_tail
    | exact bnd_none
    | exact bnd_leaf
    | apply bnd_ite
    | apply bnd_cond
    | apply bnd_sum
    | (apply bnd_bind; intro _)
    | intro _
def impl_sumOf (x0 : List D) : Option (Int) := c_impl_sumOf x0 some
def e_impl_sumOf : Ent := ⟨64, [.rd (.int .i64)], .int .i64, [.undef], fun _ ds k => dL (fun x0 ds => dE ((impl_sumOf x0).bind (fun y => k [.I y])) ds) ds⟩
theorem q_impl_sumOf (x0 : List D) : runFn (ocOf []) (olOf [e_impl_sumOf_L3]) A 64 Go.Proofs.Try.f64 (Sh.mks e_impl_sumOf.sh [.L x0]).1 (fun v os => some (v, os)) = c_impl_sumOf x0 (fun y => some ((e_impl_sumOf.res.mk [.I y]).1, (Sh.mks e_impl_sumOf.outs (e_impl_sumOf.res.mk [.I y]).2).1)) := by kernel_rfl
theorem e_impl_sumOf_ok : e_impl_sumOf.ok Go.Proofs.Try.prog A := by
  intro R ds k r h
  unfold e_impl_sumOf at h
  obtain ⟨x0, d0, rfl, h0⟩ := dL_some h
  obtain ⟨rfl, hE⟩ := dE_some h0
  obtain ⟨y, hy, hk⟩ := bnd_some hE
  refine ⟨_, hk, fn_ok px (fx := ⟨Go.Proofs.Try.func64, by kernel_rfl, by kernel_rfl⟩) entsOK_nil (lentsOK_cons e_impl_sumOf_L3_ok lentsOK_nil) ?_⟩
  have hq := q_impl_sumOf x0
  rw [c_impl_sumOf_bind] at hq
  rw [show c_impl_sumOf x0 some = some y from hy] at hq
  exact hq

/-! loop.example/g00876/impl.gapCount -/
def c_impl_gapCount {R : Type} (x0 : List D) (x1 : List D) (k : Int → Option R) : Option R :=
 (impl_gapsAt x0 x1).bind (fun y0 =>
 (impl_sumOf y0).bind (fun y1 =>
 k y1))
theorem c_impl_gapCount_bind {R : Type} (x0 : List D) (x1 : List D) (k : Int → Option R) : c_impl_gapCount x0 x1 k = (c_impl_gapCount x0 x1 some).bind k := by
  unfold c_impl_gapCount
  repeat' first
    | exact bnd_tail
    | exact bnd_none
    | exact bnd_leaf
    | apply bnd_ite
    | apply bnd_cond
    | apply bnd_sum
    | (apply bnd_bind; intro _)
    | intro _
def impl_gapCount (x0 : List D) (x1 : List D) : Option (Int) := c_impl_gapCount x0 x1 some
def e_impl_gapCount : Ent := ⟨53, [.agg [.rd (.slice (.int .i64))], .rd (.int .i64)], .int .i64, [.undef, .undef], fun _ ds k => dL (fun x0 ds => dL (fun x1 ds => dE ((impl_gapCount x0 x1).bind (fun y => k [.I y])) ds) ds) ds⟩
theorem q_impl_gapCount (x0 : List D) (x1 : List D) : runFn (ocOf [e_impl_gapsAt, e_impl_sumOf]) (olOf []) A 53 Go.Proofs.Try.f53 (Sh.mks e_impl_gapCount.sh [.L x0, .L x1]).1 (fun v os => some (v, os)) = c_impl_gapCount x0 x1 (fun y => some ((e_impl_gapCount.res.mk [.I y]).1, (Sh.mks e_impl_gapCount.outs (e_impl_gapCount.res.mk [.I y]).2).1)) := by kernel_rfl
theorem e_impl_gapCount_ok : e_impl_gapCount.ok Go.Proofs.Try.prog A := by
  intro R ds k r h
  unfold e_impl_gapCount at h
  obtain ⟨x0, d0, rfl, h0⟩ := dL_some h
  obtain ⟨x1, d1, rfl, h1⟩ := dL_some h0
  obtain ⟨rfl, hE⟩ := dE_some h1
  obtain ⟨y, hy, hk⟩ := bnd_some hE
  refine ⟨_, hk, fn_ok px (fx := ⟨Go.Proofs.Try.func53, by kernel_rfl, by kernel_rfl⟩) (entsOK_cons e_impl_gapsAt_ok (entsOK_cons e_impl_sumOf_ok entsOK_nil)) lentsOK_nil ?_⟩
  have hq := q_impl_gapCount x0 x1
  rw [c_impl_gapCount_bind] at hq
  rw [show c_impl_gapCount x0 x1 some = some y from hy] at hq
  exact hq

/-! loop.example/g00876/impl.GapCount -/
def c_impl_GapCount {R : Type} (x0 : List D) (x1 : List D) (k : Int × Bool → Option R) : Option R :=
 (impl_areTableOrder x0 x1).bind (fun y0 =>
 bif !y0 then
 k ((0 : Int), Bool.false)
 else
 (impl_gapCount x0 x1).bind (fun y1 =>
 k (y1, Bool.true)))
theorem c_impl_GapCount_bind {R : Type} (x0 : List D) (x1 : List D) (k : Int × Bool → Option R) : c_impl_GapCount x0 x1 k = (c_impl_GapCount x0 x1 some).bind k := by
  unfold c_impl_GapCount
  repeat' first
    | exact bnd_tail
    | exact bnd_none
    | exact bnd_leaf
    | apply bnd_ite
    | apply bnd_cond
    | apply bnd_sum
    | (apply bnd_bind; intro _)
    | intro _
def impl_GapCount (x0 : List D) (x1 : List D) : Option (Int × Bool) := c_impl_GapCount x0 x1 some
def e_impl_GapCount : Ent := ⟨33, [.agg [.rd (.slice (.int .i64))], .rd (.int .i64)], .tup [.int .i64, .bool], [.undef, .undef], fun _ ds k => dL (fun x0 ds => dL (fun x1 ds => dE ((impl_GapCount x0 x1).bind (fun y => k [.I y.1, .B y.2])) ds) ds) ds⟩
theorem q_impl_GapCount (x0 : List D) (x1 : List D) : runFn (ocOf [e_impl_areTableOrder, e_impl_gapCount]) (olOf []) A 33 Go.Proofs.Try.f33 (Sh.mks e_impl_GapCount.sh [.L x0, .L x1]).1 (fun v os => some (v, os)) = c_impl_GapCount x0 x1 (fun y => some ((e_impl_GapCount.res.mk [.I y.1, .B y.2]).1, (Sh.mks e_impl_GapCount.outs (e_impl_GapCount.res.mk [.I y.1, .B y.2]).2).1)) := by kernel_rfl
theorem e_impl_GapCount_ok : e_impl_GapCount.ok Go.Proofs.Try.prog A := by
  intro R ds k r h
  unfold e_impl_GapCount at h
  obtain ⟨x0, d0, rfl, h0⟩ := dL_some h
  obtain ⟨x1, d1, rfl, h1⟩ := dL_some h0
  obtain ⟨rfl, hE⟩ := dE_some h1
  obtain ⟨y, hy, hk⟩ := bnd_some hE
  refine ⟨_, hk, fn_ok px (fx := ⟨Go.Proofs.Try.func33, by kernel_rfl, by kernel_rfl⟩) (entsOK_cons e_impl_areTableOrder_ok (entsOK_cons e_impl_gapCount_ok entsOK_nil)) lentsOK_nil ?_⟩
  have hq := q_impl_GapCount x0 x1
  rw [c_impl_GapCount_bind] at hq
  rw [show c_impl_GapCount x0 x1 some = some y from hy] at hq
  exact hq

/-! loop.example/g00876/laws.eqIntS, loop 4 -/
def c_laws_eqIntS_L4 {R : Type} (F : List D → List D → Int → Option ((Bool) ⊕ (Unit))) (x0 : List D) (x1 : List D) (x2 : Int) (k : (Bool) ⊕ (Unit) → Option R) : Option R :=
 bif Decidable.decide (x2 < (↑x0.length : Int)) then
 if (0 : Int) ≤ x2 ∧ x2 < (↑x0.length : Int) then
 if (0 : Int) ≤ x2 ∧ x2 < (↑x1.length : Int) then
 bif !Decidable.decide ((x0.getD x2.toNat (Go.Rai.D.int (0 : Int))).toInt = (x1.getD x2.toNat (Go.Rai.D.int (0 : Int))).toInt) then
 k (.inl Bool.false)
 else
 (F x0 x1 (Go.IntKind.i64.wrap (x2 + (1 : Int)))).bind k
 else
 none
 else
 none
 else
 k (.inr ())
theorem c_laws_eqIntS_L4_bind {R : Type} (F : List D → List D → Int → Option ((Bool) ⊕ (Unit))) (x0 : List D) (x1 : List D) (x2 : Int) (k : (Bool) ⊕ (Unit) → Option R) : c_laws_eqIntS_L4 F x0 x1 x2 k = (c_laws_eqIntS_L4 F x0 x1 x2 some).bind k := by
  unfold c_laws_eqIntS_L4
  repeat' first
    | exact bnd_tail
    | exact bnd_none
    | exact bnd_leaf
    | apply bnd_ite
    | apply bnd_cond
    | apply bnd_sum
    | (apply bnd_bind; intro _)
    | intro _
def n_laws_eqIntS_L4 : Nat → List D → List D → Int → Option ((Bool) ⊕ (Unit))
 | 0, _, _, _ => none
 | n + 1, x0, x1, x2 => c_laws_eqIntS_L4 (n_laws_eqIntS_L4 n) x0 x1 x2 some
noncomputable def laws_eqIntS_L4 (x0 : List D) (x1 : List D) (x2 : Int) : Option ((Bool) ⊕ (Unit)) := ev (fun n => n_laws_eqIntS_L4 n x0 x1 x2)
def m_laws_eqIntS_L4 (F : List D → List D → Int → Option ((Bool) ⊕ (Unit))) : Lent := ⟨4, ⟨[.rd (.int .i64), .rd (.int .i64), .undef, .undef, .undef, .int .i64, .undef, .undef, .undef, .undef, .undef, .undef, .undef, .undef, .undef, .undef, .undef, .undef, .undef, .undef, .undef, .undef, .undef, .undef, .undef, .undef], []⟩, [(.ret, ⟨[.undef, .undef, .undef, .undef, .bool, .undef, .undef, .undef, .undef, .undef, .undef, .undef, .undef, .undef, .undef, .undef, .undef, .undef, .undef, .undef, .undef, .undef, .undef, .undef, .undef, .undef], []⟩), (.exit 0, ⟨[.undef, .undef, .undef, .undef, .undef, .undef, .undef, .undef, .undef, .undef, .undef, .undef, .undef, .undef, .undef, .undef, .undef, .undef, .undef, .undef, .undef, .undef, .undef, .undef, .undef, .undef], []⟩)], fun _ ds k => dL (fun x0 ds => dL (fun x1 ds => dI (fun x2 ds => dE ((F x0 x1 x2).bind (Sum.elim (fun y => k 0 [.B y]) (fun y => k 1 []))) ds) ds) ds) ds⟩
theorem q_laws_eqIntS_L4 (F : List D → List D → Int → Option ((Bool) ⊕ (Unit))) (x0 : List D) (x1 : List D) (x2 : Int) : runLoop (ocOf []) (olOf [m_laws_eqIntS_L4 F]) A 21 (codeAt (bodyOf Go.Proofs.Try.f21) 4) ((m_laws_eqIntS_L4 F).sh.mk' [.L x0, .L x1, .I x2]) (fun e σ' => some (e, σ')) = c_laws_eqIntS_L4 F x0 x1 x2 (Sum.elim (fun y => some (.ret, SSt.mk' ⟨[.undef, .undef, .undef, .undef, .bool, .undef, .undef, .undef, .undef, .undef, .undef, .undef, .undef, .undef, .undef, .undef, .undef, .undef, .undef, .undef, .undef, .undef, .undef, .undef, .undef, .undef], []⟩ [.B y])) (fun y => some (.exit 0, SSt.mk' ⟨[.undef, .undef, .undef, .undef, .undef, .undef, .undef, .undef, .undef, .undef, .undef, .undef, .undef, .undef, .undef, .undef, .undef, .undef, .undef, .undef, .undef, .undef, .undef, .undef, .undef, .undef], []⟩ []))) := by kernel_rfl
theorem m_laws_eqIntS_L4_ok : ∀ n, (m_laws_eqIntS_L4 (n_laws_eqIntS_L4 n)).ok Go.Proofs.Try.prog (codeAt (bodyOf Go.Proofs.Try.f21) 4) := by
  intro n
  induction n with
  | zero =>
    intro R ds k r h
    unfold m_laws_eqIntS_L4 at h
    obtain ⟨x0, d0, rfl, h0⟩ := dL_some h
    obtain ⟨x1, d1, rfl, h1⟩ := dL_some h0
    obtain ⟨x2, d2, rfl, h2⟩ := dI_some h1
    obtain ⟨rfl, hE⟩ := dE_some h2
    obtain ⟨y, hy, hk⟩ := bnd_some hE
    cases hy
  | succ n ih =>
    intro R ds k r h
    unfold m_laws_eqIntS_L4 at h
    obtain ⟨x0, d0, rfl, h0⟩ := dL_some h
    obtain ⟨x1, d1, rfl, h1⟩ := dL_some h0
    obtain ⟨x2, d2, rfl, h2⟩ := dI_some h1
    obtain ⟨rfl, hE⟩ := dE_some h2
    obtain ⟨y, hy, hk⟩ := bnd_some hE
    have hq := q_laws_eqIntS_L4 (n_laws_eqIntS_L4 n) x0 x1 x2
    rw [c_laws_eqIntS_L4_bind] at hq
    rw [show c_laws_eqIntS_L4 (n_laws_eqIntS_L4 n) x0 x1 x2 some = some y from hy] at hq
    cases y with
    | inl y =>
      refine ⟨0, _, _, _, hk, rfl, loop_ok px (fx := ⟨Go.Proofs.Try.func21, by kernel_rfl, by kernel_rfl⟩) entsOK_nil (lentsOK_cons ih lentsOK_nil) (by kernel_rfl) ?_⟩
      exact hq
    | inr y =>
      refine ⟨1, _, _, _, hk, rfl, loop_ok px (fx := ⟨Go.Proofs.Try.func21, by kernel_rfl, by kernel_rfl⟩) entsOK_nil (lentsOK_cons ih lentsOK_nil) (by kernel_rfl) ?_⟩
      exact hq
noncomputable def e_laws_eqIntS_L4 : Lent := m_laws_eqIntS_L4 (laws_eqIntS_L4)
theorem e_laws_eqIntS_L4_ok : (e_laws_eqIntS_L4).ok Go.Proofs.Try.prog (codeAt (bodyOf Go.Proofs.Try.f21) 4) := by
  intro R ds k r h
  unfold e_laws_eqIntS_L4 m_laws_eqIntS_L4 at h
  obtain ⟨x0, d0, rfl, h0⟩ := dL_some h
  obtain ⟨x1, d1, rfl, h1⟩ := dL_some h0
  obtain ⟨x2, d2, rfl, h2⟩ := dI_some h1
  obtain ⟨rfl, hE⟩ := dE_some h2
  obtain ⟨y, hy, hk⟩ := bnd_some hE
  obtain ⟨n, hn⟩ := ev_some hy
  exact m_laws_eqIntS_L4_ok n R _ k r (show (n_laws_eqIntS_L4 n x0 x1 x2).bind _ = _ by rw [hn]; exact hk)

/-! loop.example/g00876/laws.eqIntS -/
def c_laws_eqIntS {R : Type} (x0 : List D) (x1 : List D) (k : Bool → Option R) : Option R :=
 bif !Decidable.decide ((↑x0.length : Int) = (↑x1.length : Int)) then
 k Bool.false
 else
 (laws_eqIntS_L4 x0 x1 (0 : Int)).bind (Sum.elim (fun y0 =>
 k y0) (fun y1 =>
 k Bool.true))
theorem c_laws_eqIntS_bind {R : Type} (x0 : List D) (x1 : List D) (k : Bool → Option R) : c_laws_eqIntS x0 x1 k = (c_laws_eqIntS x0 x1 some).bind k := by
  unfold c_laws_eqIntS
  repeat' first
    | exact bnd_tail
    | exact bnd_none
    | exact bnd_leaf
    | apply bnd_ite
    | apply bnd_cond
    | apply bnd_sum
    | (apply bnd_bind; intro _)
    | intro _
def laws_eqIntS (x0 : List D) (x1 : List D) : Option (Bool) := c_laws_eqIntS x0 x1 some
def e_laws_eqIntS : Ent := ⟨21, [.rd (.int .i64), .rd (.int .i64)], .bool, [.undef, .undef], fun _ ds k => dL (fun x0 ds => dL (fun x1 ds => dE ((laws_eqIntS x0 x1).bind (fun y => k [.B y])) ds) ds) ds⟩
theorem q_laws_eqIntS (x0 : List D) (x1 : List D) : runFn (ocOf []) (olOf [e_laws_eqIntS_L4]) A 21 Go.Proofs.Try.f21 (Sh.mks e_laws_eqIntS.sh [.L x0, .L x1]).1 (fun v os => some (v, os)) = c_laws_eqIntS x0 x1 (fun y => some ((e_laws_eqIntS.res.mk [.B y]).1, (Sh.mks e_laws_eqIntS.outs (e_laws_eqIntS.res.mk [.B y]).2).1)) := by kernel_rfl
theorem e_laws_eqIntS_ok : e_laws_eqIntS.ok Go.Proofs.Try.prog A := by
  intro R ds k r h
  unfold e_laws_eqIntS at h
  obtain ⟨x0, d0, rfl, h0⟩ := dL_some h
  obtain ⟨x1, d1, rfl, h1⟩ := dL_some h0
  obtain ⟨rfl, hE⟩ := dE_some h1
  obtain ⟨y, hy, hk⟩ := bnd_some hE
  refine ⟨_, hk, fn_ok px (fx := ⟨Go.Proofs.Try.func21, by kernel_rfl, by kernel_rfl⟩) entsOK_nil (lentsOK_cons e_laws_eqIntS_L4_ok lentsOK_nil) ?_⟩
  have hq := q_laws_eqIntS x0 x1
  rw [c_laws_eqIntS_bind] at hq
  rw [show c_laws_eqIntS x0 x1 some = some y from hy] at hq
  exact hq

/-! loop.example/g00876/laws.eqIntSS, loop 4 -/
def c_laws_eqIntSS_L4 {R : Type} (F : List D → List D → Int → Option ((Bool) ⊕ (Unit))) (x0 : List D) (x1 : List D) (x2 : Int) (k : (Bool) ⊕ (Unit) → Option R) : Option R :=
 bif Decidable.decide (x2 < (↑x0.length : Int)) then
 if (0 : Int) ≤ x2 ∧ x2 < (↑x0.length : Int) then
 if (0 : Int) ≤ x2 ∧ x2 < (↑x1.length : Int) then
 (laws_eqIntS ((x0.getD x2.toNat (Go.Rai.D.int (0 : Int))).items) ((x1.getD x2.toNat (Go.Rai.D.int (0 : Int))).items)).bind (fun y0 =>
 bif !y0 then
 k (.inl Bool.false)
 else
 (F x0 x1 (Go.IntKind.i64.wrap (x2 + (1 : Int)))).bind k)
 else
 none
 else
 none
 else
 k (.inr ())
theorem c_laws_eqIntSS_L4_bind {R : Type} (F : List D → List D → Int → Option ((Bool) ⊕ (Unit))) (x0 : List D) (x1 : List D) (x2 : Int) (k : (Bool) ⊕ (Unit) → Option R) : c_laws_eqIntSS_L4 F x0 x1 x2 k = (c_laws_eqIntSS_L4 F x0 x1 x2 some).bind k := by
  unfold c_laws_eqIntSS_L4
  repeat' first
    | exact bnd_tail
    | exact bnd_none
    | exact bnd_leaf
    | apply bnd_ite
    | apply bnd_cond
    | apply bnd_sum
    | (apply bnd_bind; intro _)
    | intro _
def n_laws_eqIntSS_L4 : Nat → List D → List D → Int → Option ((Bool) ⊕ (Unit))
 | 0, _, _, _ => none
 | n + 1, x0, x1, x2 => c_laws_eqIntSS_L4 (n_laws_eqIntSS_L4 n) x0 x1 x2 some
noncomputable def laws_eqIntSS_L4 (x0 : List D) (x1 : List D) (x2 : Int) : Option ((Bool) ⊕ (Unit)) := ev (fun n => n_laws_eqIntSS_L4 n x0 x1 x2)
def m_laws_eqIntSS_L4 (F : List D → List D → Int → Option ((Bool) ⊕ (Unit))) : Lent := ⟨4, ⟨[.rd (.slice (.int .i64)), .rd (.slice (.int .i64)), .undef, .undef, .undef, .int .i64, .undef, .undef, .undef, .undef, .undef, .undef, .undef, .undef, .undef, .undef, .undef, .undef, .undef, .undef, .undef, .undef, .undef, .undef, .undef, .undef, .undef], []⟩, [(.ret, ⟨[.undef, .undef, .undef, .undef, .bool, .undef, .undef, .undef, .undef, .undef, .undef, .undef, .undef, .undef, .undef, .undef, .undef, .undef, .undef, .undef, .undef, .undef, .undef, .undef, .undef, .undef, .undef], []⟩), (.exit 0, ⟨[.undef, .undef, .undef, .undef, .undef, .undef, .undef, .undef, .undef, .undef, .undef, .undef, .undef, .undef, .undef, .undef, .undef, .undef, .undef, .undef, .undef, .undef, .undef, .undef, .undef, .undef, .undef], []⟩)], fun _ ds k => dL (fun x0 ds => dL (fun x1 ds => dI (fun x2 ds => dE ((F x0 x1 x2).bind (Sum.elim (fun y => k 0 [.B y]) (fun y => k 1 []))) ds) ds) ds) ds⟩
theorem q_laws_eqIntSS_L4 (F : List D → List D → Int → Option ((Bool) ⊕ (Unit))) (x0 : List D) (x1 : List D) (x2 : Int) : runLoop (ocOf [e_laws_eqIntS]) (olOf [m_laws_eqIntSS_L4 F]) A 46 (codeAt (bodyOf Go.Proofs.Try.f46) 4) ((m_laws_eqIntSS_L4 F).sh.mk' [.L x0, .L x1, .I x2]) (fun e σ' => some (e, σ')) = c_laws_eqIntSS_L4 F x0 x1 x2 (Sum.elim (fun y => some (.ret, SSt.mk' ⟨[.undef, .undef, .undef, .undef, .bool, .undef, .undef, .undef, .undef, .undef, .undef, .undef, .undef, .undef, .undef, .undef, .undef, .undef, .undef, .undef, .undef, .undef, .undef, .undef, .undef, .undef, .undef], []⟩ [.B y])) (fun y => some (.exit 0, SSt.mk' ⟨[.undef, .undef, .undef, .undef, .undef, .undef, .undef, .undef, .undef, .undef, .undef, .undef, .undef, .undef, .undef, .undef, .undef, .undef, .undef, .undef, .undef, .undef, .undef, .undef, .undef, .undef, .undef], []⟩ []))) := by kernel_rfl
theorem m_laws_eqIntSS_L4_ok : ∀ n, (m_laws_eqIntSS_L4 (n_laws_eqIntSS_L4 n)).ok Go.Proofs.Try.prog (codeAt (bodyOf Go.Proofs.Try.f46) 4) := by
  intro n
  induction n with
  | zero =>
    intro R ds k r h
    unfold m_laws_eqIntSS_L4 at h
    obtain ⟨x0, d0, rfl, h0⟩ := dL_some h
    obtain ⟨x1, d1, rfl, h1⟩ := dL_some h0
    obtain ⟨x2, d2, rfl, h2⟩ := dI_some h1
    obtain ⟨rfl, hE⟩ := dE_some h2
    obtain ⟨y, hy, hk⟩ := bnd_some hE
    cases hy
  | succ n ih =>
    intro R ds k r h
    unfold m_laws_eqIntSS_L4 at h
    obtain ⟨x0, d0, rfl, h0⟩ := dL_some h
    obtain ⟨x1, d1, rfl, h1⟩ := dL_some h0
    obtain ⟨x2, d2, rfl, h2⟩ := dI_some h1
    obtain ⟨rfl, hE⟩ := dE_some h2
    obtain ⟨y, hy, hk⟩ := bnd_some hE
    have hq := q_laws_eqIntSS_L4 (n_laws_eqIntSS_L4 n) x0 x1 x2
    rw [c_laws_eqIntSS_L4_bind] at hq
    rw [show c_laws_eqIntSS_L4 (n_laws_eqIntSS_L4 n) x0 x1 x2 some = some y from hy] at hq
    cases y with
    | inl y =>
      refine ⟨0, _, _, _, hk, rfl, loop_ok px (fx := ⟨Go.Proofs.Try.func46, by kernel_rfl, by kernel_rfl⟩) (entsOK_cons e_laws_eqIntS_ok entsOK_nil) (lentsOK_cons ih lentsOK_nil) (by kernel_rfl) ?_⟩
      exact hq
    | inr y =>
      refine ⟨1, _, _, _, hk, rfl, loop_ok px (fx := ⟨Go.Proofs.Try.func46, by kernel_rfl, by kernel_rfl⟩) (entsOK_cons e_laws_eqIntS_ok entsOK_nil) (lentsOK_cons ih lentsOK_nil) (by kernel_rfl) ?_⟩
      exact hq
noncomputable def e_laws_eqIntSS_L4 : Lent := m_laws_eqIntSS_L4 (laws_eqIntSS_L4)
theorem e_laws_eqIntSS_L4_ok : (e_laws_eqIntSS_L4).ok Go.Proofs.Try.prog (codeAt (bodyOf Go.Proofs.Try.f46) 4) := by
  intro R ds k r h
  unfold e_laws_eqIntSS_L4 m_laws_eqIntSS_L4 at h
  obtain ⟨x0, d0, rfl, h0⟩ := dL_some h
  obtain ⟨x1, d1, rfl, h1⟩ := dL_some h0
  obtain ⟨x2, d2, rfl, h2⟩ := dI_some h1
  obtain ⟨rfl, hE⟩ := dE_some h2
  obtain ⟨y, hy, hk⟩ := bnd_some hE
  obtain ⟨n, hn⟩ := ev_some hy
  exact m_laws_eqIntSS_L4_ok n R _ k r (show (n_laws_eqIntSS_L4 n x0 x1 x2).bind _ = _ by rw [hn]; exact hk)

/-! loop.example/g00876/laws.eqIntSS -/
def c_laws_eqIntSS {R : Type} (x0 : List D) (x1 : List D) (k : Bool → Option R) : Option R :=
 bif !Decidable.decide ((↑x0.length : Int) = (↑x1.length : Int)) then
 k Bool.false
 else
 (laws_eqIntSS_L4 x0 x1 (0 : Int)).bind (Sum.elim (fun y0 =>
 k y0) (fun y1 =>
 k Bool.true))
theorem c_laws_eqIntSS_bind {R : Type} (x0 : List D) (x1 : List D) (k : Bool → Option R) : c_laws_eqIntSS x0 x1 k = (c_laws_eqIntSS x0 x1 some).bind k := by
  unfold c_laws_eqIntSS
  repeat' first
    | exact bnd_tail
    | exact bnd_none
    | exact bnd_leaf
    | apply bnd_ite
    | apply bnd_cond
    | apply bnd_sum
    | (apply bnd_bind; intro _)
    | intro _
def laws_eqIntSS (x0 : List D) (x1 : List D) : Option (Bool) := c_laws_eqIntSS x0 x1 some
def e_laws_eqIntSS : Ent := ⟨46, [.rd (.slice (.int .i64)), .rd (.slice (.int .i64))], .bool, [.undef, .undef], fun _ ds k => dL (fun x0 ds => dL (fun x1 ds => dE ((laws_eqIntSS x0 x1).bind (fun y => k [.B y])) ds) ds) ds⟩
theorem q_laws_eqIntSS (x0 : List D) (x1 : List D) : runFn (ocOf []) (olOf [e_laws_eqIntSS_L4]) A 46 Go.Proofs.Try.f46 (Sh.mks e_laws_eqIntSS.sh [.L x0, .L x1]).1 (fun v os => some (v, os)) = c_laws_eqIntSS x0 x1 (fun y => some ((e_laws_eqIntSS.res.mk [.B y]).1, (Sh.mks e_laws_eqIntSS.outs (e_laws_eqIntSS.res.mk [.B y]).2).1)) := by kernel_rfl
theorem e_laws_eqIntSS_ok : e_laws_eqIntSS.ok Go.Proofs.Try.prog A := by
  intro R ds k r h
  unfold e_laws_eqIntSS at h
  obtain ⟨x0, d0, rfl, h0⟩ := dL_some h
  obtain ⟨x1, d1, rfl, h1⟩ := dL_some h0
  obtain ⟨rfl, hE⟩ := dE_some h1
  obtain ⟨y, hy, hk⟩ := bnd_some hE
  refine ⟨_, hk, fn_ok px (fx := ⟨Go.Proofs.Try.func46, by kernel_rfl, by kernel_rfl⟩) entsOK_nil (lentsOK_cons e_laws_eqIntSS_L4_ok lentsOK_nil) ?_⟩
  have hq := q_laws_eqIntSS x0 x1
  rw [c_laws_eqIntSS_bind] at hq
  rw [show c_laws_eqIntSS x0 x1 some = some y from hy] at hq
  exact hq

/-! loop.example/g00876/laws.eqTable -/
def c_laws_eqTable {R : Type} (x0 : List D) (x1 : List D) (k : Bool → Option R) : Option R :=
 (laws_eqIntSS x0 x1).bind (fun y0 =>
 bif !y0 then
 k Bool.false
 else
 k Bool.true)
theorem c_laws_eqTable_bind {R : Type} (x0 : List D) (x1 : List D) (k : Bool → Option R) : c_laws_eqTable x0 x1 k = (c_laws_eqTable x0 x1 some).bind k := by
  unfold c_laws_eqTable
  repeat' first
    | exact bnd_tail
    | exact bnd_none
    | exact bnd_leaf
    | apply bnd_ite
    | apply bnd_cond
    | apply bnd_sum
    | (apply bnd_bind; intro _)
    | intro _
def laws_eqTable (x0 : List D) (x1 : List D) : Option (Bool) := c_laws_eqTable x0 x1 some
def e_laws_eqTable : Ent := ⟨16, [.agg [.rd (.slice (.int .i64))], .agg [.rd (.slice (.int .i64))]], .bool, [.undef, .undef], fun _ ds k => dL (fun x0 ds => dL (fun x1 ds => dE ((laws_eqTable x0 x1).bind (fun y => k [.B y])) ds) ds) ds⟩
theorem q_laws_eqTable (x0 : List D) (x1 : List D) : runFn (ocOf [e_laws_eqIntSS]) (olOf []) A 16 Go.Proofs.Try.f16 (Sh.mks e_laws_eqTable.sh [.L x0, .L x1]).1 (fun v os => some (v, os)) = c_laws_eqTable x0 x1 (fun y => some ((e_laws_eqTable.res.mk [.B y]).1, (Sh.mks e_laws_eqTable.outs (e_laws_eqTable.res.mk [.B y]).2).1)) := by kernel_rfl
theorem e_laws_eqTable_ok : e_laws_eqTable.ok Go.Proofs.Try.prog A := by
  intro R ds k r h
  unfold e_laws_eqTable at h
  obtain ⟨x0, d0, rfl, h0⟩ := dL_some h
  obtain ⟨x1, d1, rfl, h1⟩ := dL_some h0
  obtain ⟨rfl, hE⟩ := dE_some h1
  obtain ⟨y, hy, hk⟩ := bnd_some hE
  refine ⟨_, hk, fn_ok px (fx := ⟨Go.Proofs.Try.func16, by kernel_rfl, by kernel_rfl⟩) (entsOK_cons e_laws_eqIntSS_ok entsOK_nil) lentsOK_nil ?_⟩
  have hq := q_laws_eqTable x0 x1
  rw [c_laws_eqTable_bind] at hq
  rw [show c_laws_eqTable x0 x1 some = some y from hy] at hq
  exact hq

/-! loop.example/g00876/laws.FnExactGapCount -/
def c_laws_FnExactGapCount {R : Type} (x0 : List D) (x1 : List D) (k : Bool → Option R) : Option R :=
 bif Decidable.decide ((1048576 : Int) < (↑x1.length : Int)) then
 k Bool.true
 else
 (laws_szTable x0 (1048576 : Int)).bind (fun y0 =>
 bif Decidable.decide (y0 < (0 : Int)) then
 k Bool.true
 else
 (laws_toTable x0).bind (fun y1 =>
 (laws_toIntS x1).bind (fun y2 =>
 (spec_GapCount y1 y2).bind (fun y3 =>
 (laws_toTable x0).bind (fun y4 =>
 (laws_toIntS x1).bind (fun y5 =>
 (impl_GapCount y4 y5).bind (fun y6 =>
 bif !Decidable.decide (y6.fst = y3.fst) then
 k Bool.false
 else
 bif !y6.snd == y3.snd then
 k Bool.false
 else
 (laws_toTable x0).bind (fun y7 =>
 (laws_eqTable y4 y7).bind (fun y8 =>
 bif !y8 then
 k Bool.false
 else
 (laws_toIntS x1).bind (fun y9 =>
 (laws_eqIntS y5 y9).bind (fun y10 =>
 bif !y10 then
 k Bool.false
 else
 k Bool.true)))))))))))
theorem c_laws_FnExactGapCount_bind {R : Type} (x0 : List D) (x1 : List D) (k : Bool → Option R) : c_laws_FnExactGapCount x0 x1 k = (c_laws_FnExactGapCount x0 x1 some).bind k := by
  unfold c_laws_FnExactGapCount
  repeat' first
    | exact bnd_tail
    | exact bnd_none
    | exact bnd_leaf
    | apply bnd_ite
    | apply bnd_cond
    | apply bnd_sum
    | (apply bnd_bind; intro _)
    | intro _
def laws_FnExactGapCount (x0 : List D) (x1 : List D) : Option (Bool) := c_laws_FnExactGapCount x0 x1 some
def e_laws_FnExactGapCount : Ent := ⟨9, [.agg [.rd (.slice (.int .i64))], .rd (.int .i64)], .bool, [.undef, .undef], fun _ ds k => dL (fun x0 ds => dL (fun x1 ds => dE ((laws_FnExactGapCount x0 x1).bind (fun y => k [.B y])) ds) ds) ds⟩
theorem q_laws_FnExactGapCount (x0 : List D) (x1 : List D) : runFn (ocOf [e_laws_szTable, e_laws_toTable, e_laws_toIntS, e_spec_GapCount, e_impl_GapCount, e_laws_eqTable, e_laws_eqIntS]) (olOf []) A 9 Go.Proofs.Try.f9 (Sh.mks e_laws_FnExactGapCount.sh [.L x0, .L x1]).1 (fun v os => some (v, os)) = c_laws_FnExactGapCount x0 x1 (fun y => some ((e_laws_FnExactGapCount.res.mk [.B y]).1, (Sh.mks e_laws_FnExactGapCount.outs (e_laws_FnExactGapCount.res.mk [.B y]).2).1)) := by kernel_rfl
theorem e_laws_FnExactGapCount_ok : e_laws_FnExactGapCount.ok Go.Proofs.Try.prog A := by
  intro R ds k r h
  unfold e_laws_FnExactGapCount at h
  obtain ⟨x0, d0, rfl, h0⟩ := dL_some h
  obtain ⟨x1, d1, rfl, h1⟩ := dL_some h0
  obtain ⟨rfl, hE⟩ := dE_some h1
  obtain ⟨y, hy, hk⟩ := bnd_some hE
  refine ⟨_, hk, fn_ok px (fx := ⟨Go.Proofs.Try.func9, by kernel_rfl, by kernel_rfl⟩) (entsOK_cons e_laws_szTable_ok (entsOK_cons e_laws_toTable_ok (entsOK_cons e_laws_toIntS_ok (entsOK_cons e_spec_GapCount_ok (entsOK_cons e_impl_GapCount_ok (entsOK_cons e_laws_eqTable_ok (entsOK_cons e_laws_eqIntS_ok entsOK_nil))))))) lentsOK_nil ?_⟩
  have hq := q_laws_FnExactGapCount x0 x1
  rw [c_laws_FnExactGapCount_bind] at hq
  rw [show c_laws_FnExactGapCount x0 x1 some = some y from hy] at hq
  exact hq
end
end Go.Proofs.Ytinhphmajfiepaa
