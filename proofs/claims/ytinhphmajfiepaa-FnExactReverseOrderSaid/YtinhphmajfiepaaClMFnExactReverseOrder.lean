/- Models of Go functions and their contracts, printed by a program of this session. -/
import Derived.Test.YtinhphmajfiepaaClMFnExactReverseOrderx0
set_option linter.unusedVariables false
set_option maxRecDepth 100000
namespace Go.Proofs.Ytinhphmajfiepaa
open Go Go.Rai
noncomputable section
/-!-/
def c_slices_partitionOrdered {R : Type} (x0 : List D) (x1 : Int) (x2 : Int) (x3 : Int) (k : Int × Bool × List D → Option R) : Option R :=
 if 0 ≤ x3 ∧ x3 < (↑x0.length : Int) then
 if x3.toNat + 1 ≤ x0.length then
 if 0 ≤ x1 ∧ x1 < (↑x0.length : Int) then
 if x1.toNat + 1 ≤ x0.length then
 if 0 ≤ x1 ∧ x1 < (↑x0.length : Int) then
 if x1.toNat + 1 ≤ x0.length then
 if 0 ≤ x3 ∧ x3 < (↑(x0.set x1.toNat (D.int (x0.getD x3.toNat (D.int 0)).toInt)).length : Int) then
 if x3.toNat + 1 ≤ (x0.set x1.toNat (D.int (x0.getD x3.toNat (D.int 0)).toInt)).length then
 (slices_partitionOrdered_L3 x1 (IntKind.i64.wrap (x1 + 1)) (IntKind.i64.wrap (x2 - 1)) ((x0.set x1.toNat (D.int (x0.getD x3.toNat (D.int 0)).toInt)).set x3.toNat (D.int (x0.getD x1.toNat (D.int 0)).toInt))).bind (fun y0 =>
 (slices_partitionOrdered_L5 y0.fst y0.snd.fst y0.snd.snd.fst y0.snd.snd.snd).bind (fun y1 =>
 bif decide (y1.snd.snd.fst < y1.snd.fst) then
 if 0 ≤ y1.fst ∧ y1.fst < (↑y1.snd.snd.snd.length : Int) then
 if y1.fst.toNat + 1 ≤ y1.snd.snd.snd.length then
 if 0 ≤ y1.snd.snd.fst ∧ y1.snd.snd.fst < (↑y1.snd.snd.snd.length : Int) then
 if y1.snd.snd.fst.toNat + 1 ≤ y1.snd.snd.snd.length then
 if 0 ≤ y1.snd.snd.fst ∧ y1.snd.snd.fst < (↑y1.snd.snd.snd.length : Int) then
 if y1.snd.snd.fst.toNat + 1 ≤ y1.snd.snd.snd.length then
 if 0 ≤ y1.fst ∧ y1.fst < (↑(y1.snd.snd.snd.set y1.snd.snd.fst.toNat (D.int (y1.snd.snd.snd.getD y1.fst.toNat (D.int 0)).toInt)).length : Int) then
 if y1.fst.toNat + 1 ≤ (y1.snd.snd.snd.set y1.snd.snd.fst.toNat (D.int (y1.snd.snd.snd.getD y1.fst.toNat (D.int 0)).toInt)).length then
 k (y1.snd.snd.fst, Bool.true, (y1.snd.snd.snd.set y1.snd.snd.fst.toNat (D.int (y1.snd.snd.snd.getD y1.fst.toNat (D.int 0)).toInt)).set y1.fst.toNat (D.int (y1.snd.snd.snd.getD y1.snd.snd.fst.toNat (D.int 0)).toInt))
 else
 none
 else
 none
 else
 none
 else
 none
 else
 none
 else
 none
 else
 none
 else
 none
 else
 if 0 ≤ y1.snd.snd.fst ∧ y1.snd.snd.fst < (↑y1.snd.snd.snd.length : Int) then
 if y1.snd.snd.fst.toNat + 1 ≤ y1.snd.snd.snd.length then
 if 0 ≤ y1.snd.fst ∧ y1.snd.fst < (↑y1.snd.snd.snd.length : Int) then
 if y1.snd.fst.toNat + 1 ≤ y1.snd.snd.snd.length then
 if 0 ≤ y1.snd.fst ∧ y1.snd.fst < (↑y1.snd.snd.snd.length : Int) then
 if y1.snd.fst.toNat + 1 ≤ y1.snd.snd.snd.length then
 if 0 ≤ y1.snd.snd.fst ∧ y1.snd.snd.fst < (↑(y1.snd.snd.snd.set y1.snd.fst.toNat (D.int (y1.snd.snd.snd.getD y1.snd.snd.fst.toNat (D.int 0)).toInt)).length : Int) then
 if y1.snd.snd.fst.toNat + 1 ≤ (y1.snd.snd.snd.set y1.snd.fst.toNat (D.int (y1.snd.snd.snd.getD y1.snd.snd.fst.toNat (D.int 0)).toInt)).length then
 (slices_partitionOrdered_L100013 y1.fst (IntKind.i64.wrap (y1.snd.fst + 1)) (IntKind.i64.wrap (y1.snd.snd.fst - 1)) ((y1.snd.snd.snd.set y1.snd.fst.toNat (D.int (y1.snd.snd.snd.getD y1.snd.snd.fst.toNat (D.int 0)).toInt)).set y1.snd.snd.fst.toNat (D.int (y1.snd.snd.snd.getD y1.snd.fst.toNat (D.int 0)).toInt))).bind (fun y2 =>
 if 0 ≤ y2.fst ∧ y2.fst < (↑y2.snd.snd.length : Int) then
 if y2.fst.toNat + 1 ≤ y2.snd.snd.length then
 if 0 ≤ y2.snd.fst ∧ y2.snd.fst < (↑y2.snd.snd.length : Int) then
 if y2.snd.fst.toNat + 1 ≤ y2.snd.snd.length then
 if 0 ≤ y2.snd.fst ∧ y2.snd.fst < (↑y2.snd.snd.length : Int) then
 if y2.snd.fst.toNat + 1 ≤ y2.snd.snd.length then
 if 0 ≤ y2.fst ∧ y2.fst < (↑(y2.snd.snd.set y2.snd.fst.toNat (D.int (y2.snd.snd.getD y2.fst.toNat (D.int 0)).toInt)).length : Int) then
 if y2.fst.toNat + 1 ≤ (y2.snd.snd.set y2.snd.fst.toNat (D.int (y2.snd.snd.getD y2.fst.toNat (D.int 0)).toInt)).length then
 k (y2.snd.fst, Bool.false, (y2.snd.snd.set y2.snd.fst.toNat (D.int (y2.snd.snd.getD y2.fst.toNat (D.int 0)).toInt)).set y2.fst.toNat (D.int (y2.snd.snd.getD y2.snd.fst.toNat (D.int 0)).toInt))
 else
 none
 else
 none
 else
 none
 else
 none
 else
 none
 else
 none
 else
 none
 else
 none)
 else
 none
 else
 none
 else
 none
 else
 none
 else
 none
 else
 none
 else
 none
 else
 none))
 else
 none
 else
 none
 else
 none
 else
 none
 else
 none
 else
 none
 else
 none
 else
 none
theorem c_slices_partitionOrdered_bind {R : Type} (x0 : List D) (x1 : Int) (x2 : Int) (x3 : Int) (k : Int × Bool × List D → Option R) : c_slices_partitionOrdered x0 x1 x2 x3 k = (c_slices_partitionOrdered x0 x1 x2 x3 some).bind k := by
 unfold c_slices_partitionOrdered
 repeat' first|exact bnd_tail|exact bnd_none|exact bnd_leaf|apply bnd_ite|apply bnd_cond|apply bnd_sum|(apply bnd_bind;intro _)|intro _
def slices_partitionOrdered (x0 : List D) (x1 : Int) (x2 : Int) (x3 : Int) : Option (Int × Bool × List D) := c_slices_partitionOrdered x0 x1 x2 x3 some
def e_slices_partitionOrdered : Ent := ⟨89, [.own (.int .i64), .int .i64, .int .i64, .int .i64], .tup [.int .i64, .bool], [.own (.int .i64), .undef, .undef, .undef], fun _ ds k => dL (fun x0 ds => dI (fun x1 ds => dI (fun x2 ds => dI (fun x3 ds => dE ((slices_partitionOrdered x0 x1 x2 x3).bind (fun y => k [.I y.1, .B y.2.1, .L y.2.2])) ds) ds) ds) ds) ds⟩
theorem q_slices_partitionOrdered (x0 : List D) (x1 : Int) (x2 : Int) (x3 : Int) : runFn (ocOf []) (olOf [e_slices_partitionOrdered_L3, e_slices_partitionOrdered_L5, e_slices_partitionOrdered_L100013]) A 89 Try.f89 (Sh.mks e_slices_partitionOrdered.sh [.L x0, .I x1, .I x2, .I x3]).1 (fun v os => some (v, os)) = c_slices_partitionOrdered x0 x1 x2 x3 (fun y => some ((e_slices_partitionOrdered.res.mk [.I y.1, .B y.2.1, .L y.2.2]).1, (Sh.mks e_slices_partitionOrdered.outs (e_slices_partitionOrdered.res.mk [.I y.1, .B y.2.1, .L y.2.2]).2).1)) := by kernel_rfl
theorem e_slices_partitionOrdered_ok : e_slices_partitionOrdered.ok Try.prog A := by
 intro R ds k r h
 unfold e_slices_partitionOrdered at h
 obtain ⟨x0, d0, rfl, h0⟩ := dL_some h
 obtain ⟨x1, d1, rfl, h1⟩ := dI_some h0
 obtain ⟨x2, d2, rfl, h2⟩ := dI_some h1
 obtain ⟨x3, d3, rfl, h3⟩ := dI_some h2
 obtain ⟨rfl, hE⟩ := dE_some h3
 obtain ⟨y, hy, hk⟩ := bnd_some hE
 refine ⟨_, hk, fn_ok px (fx := ⟨Try.func89, by kernel_rfl, by kernel_rfl⟩) entsOK_nil (lentsOK_cons e_slices_partitionOrdered_L3_ok (lentsOK_cons e_slices_partitionOrdered_L5_ok (lentsOK_cons e_slices_partitionOrdered_L100013_ok lentsOK_nil))) ?_⟩
 have hq := q_slices_partitionOrdered x0 x1 x2 x3
 rw [c_slices_partitionOrdered_bind] at hq
 rw [show c_slices_partitionOrdered x0 x1 x2 x3 some = some y from hy] at hq
 exact hq

def m_slices_pdqsortOrdered (F : List D → Int → Int → Int → Option (List D)) : Ent := ⟨76, [.own (.int .i64), .int .i64, .int .i64, .int .i64], .tup [], [.own (.int .i64), .undef, .undef, .undef], fun _ ds k => dL (fun x0 ds => dI (fun x1 ds => dI (fun x2 ds => dI (fun x3 ds => dE ((F x0 x1 x2 x3).bind (fun y => k [.L y])) ds) ds) ds) ds) ds⟩

/-!-/
def c_slices_pdqsortOrdered_L2 {R : Type} (G_slices_pdqsortOrdered : List D → Int → Int → Int → Option (List D)) (F : Int → Int → Int → Bool → Bool → List D → Option (List D)) (x0 : Int) (x1 : Int) (x2 : Int) (x3 : Bool) (x4 : Bool) (x5 : List D) (k : List D → Option R) : Option R :=
 bif decide (IntKind.i64.wrap (x1 - x0) ≤ (12 : Int)) then
 (slices_insertionSortOrdered x5 x0 x1).bind (fun y0 =>
 k y0)
 else
 bif decide (x2 = (0 : Int)) then
 (slices_heapSortOrdered x5 x0 x1).bind (fun y1 =>
 k y1)
 else
 bif !x3 then
 (slices_breakPatternsOrdered x5 x0 x1).bind (fun y2 =>
 (slices_choosePivotOrdered y2 x0 x1).bind (fun y3 =>
 bif decide (y3.snd = (2 : Int)) then
 (slices_reverseRangeOrdered y2 x0 x1).bind (fun y4 =>
 bif x3 then
 bif x4 then
 bif decide ((1 : Int) = (1 : Int)) then
 (slices_partialInsertionSortOrdered y4 x0 x1).bind (fun y5 =>
 bif y5.fst then
 k y5.snd
 else
 bif decide ((0 : Int) < x0) then
 if (0 : Int) ≤ IntKind.i64.wrap (x0 - 1) ∧ IntKind.i64.wrap (x0 - 1) < (↑y5.snd.length : Int) then
 if (IntKind.i64.wrap (x0 - 1)).toNat + 1 ≤ y5.snd.length then
 if (0 : Int) ≤ IntKind.i64.wrap (IntKind.i64.wrap (x1 - 1) - IntKind.i64.wrap (y3.fst - x0)) ∧ IntKind.i64.wrap (IntKind.i64.wrap (x1 - 1) - IntKind.i64.wrap (y3.fst - x0)) < (↑y5.snd.length : Int) then
 if (IntKind.i64.wrap (IntKind.i64.wrap (x1 - 1) - IntKind.i64.wrap (y3.fst - x0))).toNat + 1 ≤ y5.snd.length then
 (cmp_Less ((y5.snd.getD (IntKind.i64.wrap (x0 - 1)).toNat (D.int 0)).toInt) ((y5.snd.getD (IntKind.i64.wrap (IntKind.i64.wrap (x1 - 1) - IntKind.i64.wrap (y3.fst - x0))).toNat (D.int 0)).toInt)).bind (fun y6 =>
 bif !y6 then
 (slices_partitionEqualOrdered y5.snd x0 x1 (IntKind.i64.wrap (IntKind.i64.wrap (x1 - 1) - IntKind.i64.wrap (y3.fst - x0)))).bind (fun y7 =>
 (F y7.fst x1 (IntKind.i64.wrap (x2 - 1)) x3 x4 y7.snd).bind k)
 else
 (slices_partitionOrdered y5.snd x0 x1 (IntKind.i64.wrap (IntKind.i64.wrap (x1 - 1) - IntKind.i64.wrap (y3.fst - x0)))).bind (fun y8 =>
 if (8 : Int) ≠ (0 : Int) then
 bif decide (IntKind.i64.wrap (y8.fst - x0) < IntKind.i64.wrap (x1 - y8.fst)) then
 (G_slices_pdqsortOrdered y8.snd.snd x0 y8.fst (IntKind.i64.wrap (x2 - 1))).bind (fun y9 =>
 (F (IntKind.i64.wrap (y8.fst + 1)) x1 (IntKind.i64.wrap (x2 - 1)) (decide (IntKind.i64.wrap ((IntKind.i64.wrap (x1 - x0)).tdiv (8 : Int)) ≤ IntKind.i64.wrap (y8.fst - x0))) y8.snd.fst y9).bind k)
 else
 (G_slices_pdqsortOrdered y8.snd.snd (IntKind.i64.wrap (y8.fst + 1)) x1 (IntKind.i64.wrap (x2 - 1))).bind (fun y10 =>
 (F x0 y8.fst (IntKind.i64.wrap (x2 - 1)) (decide (IntKind.i64.wrap ((IntKind.i64.wrap (x1 - x0)).tdiv (8 : Int)) ≤ IntKind.i64.wrap (x1 - y8.fst))) y8.snd.fst y10).bind k)
 else
 none))
 else
 none
 else
 none
 else
 none
 else
 none
 else
 (slices_partitionOrdered y5.snd x0 x1 (IntKind.i64.wrap (IntKind.i64.wrap (x1 - 1) - IntKind.i64.wrap (y3.fst - x0)))).bind (fun y11 =>
 if (8 : Int) ≠ (0 : Int) then
 bif decide (IntKind.i64.wrap (y11.fst - x0) < IntKind.i64.wrap (x1 - y11.fst)) then
 (G_slices_pdqsortOrdered y11.snd.snd x0 y11.fst (IntKind.i64.wrap (x2 - 1))).bind (fun y12 =>
 (F (IntKind.i64.wrap (y11.fst + 1)) x1 (IntKind.i64.wrap (x2 - 1)) (decide (IntKind.i64.wrap ((IntKind.i64.wrap (x1 - x0)).tdiv (8 : Int)) ≤ IntKind.i64.wrap (y11.fst - x0))) y11.snd.fst y12).bind k)
 else
 (G_slices_pdqsortOrdered y11.snd.snd (IntKind.i64.wrap (y11.fst + 1)) x1 (IntKind.i64.wrap (x2 - 1))).bind (fun y13 =>
 (F x0 y11.fst (IntKind.i64.wrap (x2 - 1)) (decide (IntKind.i64.wrap ((IntKind.i64.wrap (x1 - x0)).tdiv (8 : Int)) ≤ IntKind.i64.wrap (x1 - y11.fst))) y11.snd.fst y13).bind k)
 else
 none))
 else
 bif decide ((0 : Int) < x0) then
 if (0 : Int) ≤ IntKind.i64.wrap (x0 - 1) ∧ IntKind.i64.wrap (x0 - 1) < (↑y4.length : Int) then
 if (IntKind.i64.wrap (x0 - 1)).toNat + 1 ≤ y4.length then
 if (0 : Int) ≤ IntKind.i64.wrap (IntKind.i64.wrap (x1 - 1) - IntKind.i64.wrap (y3.fst - x0)) ∧ IntKind.i64.wrap (IntKind.i64.wrap (x1 - 1) - IntKind.i64.wrap (y3.fst - x0)) < (↑y4.length : Int) then
 if (IntKind.i64.wrap (IntKind.i64.wrap (x1 - 1) - IntKind.i64.wrap (y3.fst - x0))).toNat + 1 ≤ y4.length then
 (cmp_Less ((y4.getD (IntKind.i64.wrap (x0 - 1)).toNat (D.int 0)).toInt) ((y4.getD (IntKind.i64.wrap (IntKind.i64.wrap (x1 - 1) - IntKind.i64.wrap (y3.fst - x0))).toNat (D.int 0)).toInt)).bind (fun y14 =>
 bif !y14 then
 (slices_partitionEqualOrdered y4 x0 x1 (IntKind.i64.wrap (IntKind.i64.wrap (x1 - 1) - IntKind.i64.wrap (y3.fst - x0)))).bind (fun y15 =>
 (F y15.fst x1 (IntKind.i64.wrap (x2 - 1)) x3 x4 y15.snd).bind k)
 else
 (slices_partitionOrdered y4 x0 x1 (IntKind.i64.wrap (IntKind.i64.wrap (x1 - 1) - IntKind.i64.wrap (y3.fst - x0)))).bind (fun y16 =>
 if (8 : Int) ≠ (0 : Int) then
 bif decide (IntKind.i64.wrap (y16.fst - x0) < IntKind.i64.wrap (x1 - y16.fst)) then
 (G_slices_pdqsortOrdered y16.snd.snd x0 y16.fst (IntKind.i64.wrap (x2 - 1))).bind (fun y17 =>
 (F (IntKind.i64.wrap (y16.fst + 1)) x1 (IntKind.i64.wrap (x2 - 1)) (decide (IntKind.i64.wrap ((IntKind.i64.wrap (x1 - x0)).tdiv (8 : Int)) ≤ IntKind.i64.wrap (y16.fst - x0))) y16.snd.fst y17).bind k)
 else
 (G_slices_pdqsortOrdered y16.snd.snd (IntKind.i64.wrap (y16.fst + 1)) x1 (IntKind.i64.wrap (x2 - 1))).bind (fun y18 =>
 (F x0 y16.fst (IntKind.i64.wrap (x2 - 1)) (decide (IntKind.i64.wrap ((IntKind.i64.wrap (x1 - x0)).tdiv (8 : Int)) ≤ IntKind.i64.wrap (x1 - y16.fst))) y16.snd.fst y18).bind k)
 else
 none))
 else
 none
 else
 none
 else
 none
 else
 none
 else
 (slices_partitionOrdered y4 x0 x1 (IntKind.i64.wrap (IntKind.i64.wrap (x1 - 1) - IntKind.i64.wrap (y3.fst - x0)))).bind (fun y19 =>
 if (8 : Int) ≠ (0 : Int) then
 bif decide (IntKind.i64.wrap (y19.fst - x0) < IntKind.i64.wrap (x1 - y19.fst)) then
 (G_slices_pdqsortOrdered y19.snd.snd x0 y19.fst (IntKind.i64.wrap (x2 - 1))).bind (fun y20 =>
 (F (IntKind.i64.wrap (y19.fst + 1)) x1 (IntKind.i64.wrap (x2 - 1)) (decide (IntKind.i64.wrap ((IntKind.i64.wrap (x1 - x0)).tdiv (8 : Int)) ≤ IntKind.i64.wrap (y19.fst - x0))) y19.snd.fst y20).bind k)
 else
 (G_slices_pdqsortOrdered y19.snd.snd (IntKind.i64.wrap (y19.fst + 1)) x1 (IntKind.i64.wrap (x2 - 1))).bind (fun y21 =>
 (F x0 y19.fst (IntKind.i64.wrap (x2 - 1)) (decide (IntKind.i64.wrap ((IntKind.i64.wrap (x1 - x0)).tdiv (8 : Int)) ≤ IntKind.i64.wrap (x1 - y19.fst))) y19.snd.fst y21).bind k)
 else
 none)
 else
 bif decide ((0 : Int) < x0) then
 if (0 : Int) ≤ IntKind.i64.wrap (x0 - 1) ∧ IntKind.i64.wrap (x0 - 1) < (↑y4.length : Int) then
 if (IntKind.i64.wrap (x0 - 1)).toNat + 1 ≤ y4.length then
 if (0 : Int) ≤ IntKind.i64.wrap (IntKind.i64.wrap (x1 - 1) - IntKind.i64.wrap (y3.fst - x0)) ∧ IntKind.i64.wrap (IntKind.i64.wrap (x1 - 1) - IntKind.i64.wrap (y3.fst - x0)) < (↑y4.length : Int) then
 if (IntKind.i64.wrap (IntKind.i64.wrap (x1 - 1) - IntKind.i64.wrap (y3.fst - x0))).toNat + 1 ≤ y4.length then
 (cmp_Less ((y4.getD (IntKind.i64.wrap (x0 - 1)).toNat (D.int 0)).toInt) ((y4.getD (IntKind.i64.wrap (IntKind.i64.wrap (x1 - 1) - IntKind.i64.wrap (y3.fst - x0))).toNat (D.int 0)).toInt)).bind (fun y22 =>
 bif !y22 then
 (slices_partitionEqualOrdered y4 x0 x1 (IntKind.i64.wrap (IntKind.i64.wrap (x1 - 1) - IntKind.i64.wrap (y3.fst - x0)))).bind (fun y23 =>
 (F y23.fst x1 (IntKind.i64.wrap (x2 - 1)) x3 x4 y23.snd).bind k)
 else
 (slices_partitionOrdered y4 x0 x1 (IntKind.i64.wrap (IntKind.i64.wrap (x1 - 1) - IntKind.i64.wrap (y3.fst - x0)))).bind (fun y24 =>
 if (8 : Int) ≠ (0 : Int) then
 bif decide (IntKind.i64.wrap (y24.fst - x0) < IntKind.i64.wrap (x1 - y24.fst)) then
 (G_slices_pdqsortOrdered y24.snd.snd x0 y24.fst (IntKind.i64.wrap (x2 - 1))).bind (fun y25 =>
 (F (IntKind.i64.wrap (y24.fst + 1)) x1 (IntKind.i64.wrap (x2 - 1)) (decide (IntKind.i64.wrap ((IntKind.i64.wrap (x1 - x0)).tdiv (8 : Int)) ≤ IntKind.i64.wrap (y24.fst - x0))) y24.snd.fst y25).bind k)
 else
 (G_slices_pdqsortOrdered y24.snd.snd (IntKind.i64.wrap (y24.fst + 1)) x1 (IntKind.i64.wrap (x2 - 1))).bind (fun y26 =>
 (F x0 y24.fst (IntKind.i64.wrap (x2 - 1)) (decide (IntKind.i64.wrap ((IntKind.i64.wrap (x1 - x0)).tdiv (8 : Int)) ≤ IntKind.i64.wrap (x1 - y24.fst))) y24.snd.fst y26).bind k)
 else
 none))
 else
 none
 else
 none
 else
 none
 else
 none
 else
 (slices_partitionOrdered y4 x0 x1 (IntKind.i64.wrap (IntKind.i64.wrap (x1 - 1) - IntKind.i64.wrap (y3.fst - x0)))).bind (fun y27 =>
 if (8 : Int) ≠ (0 : Int) then
 bif decide (IntKind.i64.wrap (y27.fst - x0) < IntKind.i64.wrap (x1 - y27.fst)) then
 (G_slices_pdqsortOrdered y27.snd.snd x0 y27.fst (IntKind.i64.wrap (x2 - 1))).bind (fun y28 =>
 (F (IntKind.i64.wrap (y27.fst + 1)) x1 (IntKind.i64.wrap (x2 - 1)) (decide (IntKind.i64.wrap ((IntKind.i64.wrap (x1 - x0)).tdiv (8 : Int)) ≤ IntKind.i64.wrap (y27.fst - x0))) y27.snd.fst y28).bind k)
 else
 (G_slices_pdqsortOrdered y27.snd.snd (IntKind.i64.wrap (y27.fst + 1)) x1 (IntKind.i64.wrap (x2 - 1))).bind (fun y29 =>
 (F x0 y27.fst (IntKind.i64.wrap (x2 - 1)) (decide (IntKind.i64.wrap ((IntKind.i64.wrap (x1 - x0)).tdiv (8 : Int)) ≤ IntKind.i64.wrap (x1 - y27.fst))) y27.snd.fst y29).bind k)
 else
 none)
 else
 bif decide ((0 : Int) < x0) then
 if (0 : Int) ≤ IntKind.i64.wrap (x0 - 1) ∧ IntKind.i64.wrap (x0 - 1) < (↑y4.length : Int) then
 if (IntKind.i64.wrap (x0 - 1)).toNat + 1 ≤ y4.length then
 if (0 : Int) ≤ IntKind.i64.wrap (IntKind.i64.wrap (x1 - 1) - IntKind.i64.wrap (y3.fst - x0)) ∧ IntKind.i64.wrap (IntKind.i64.wrap (x1 - 1) - IntKind.i64.wrap (y3.fst - x0)) < (↑y4.length : Int) then
 if (IntKind.i64.wrap (IntKind.i64.wrap (x1 - 1) - IntKind.i64.wrap (y3.fst - x0))).toNat + 1 ≤ y4.length then
 (cmp_Less ((y4.getD (IntKind.i64.wrap (x0 - 1)).toNat (D.int 0)).toInt) ((y4.getD (IntKind.i64.wrap (IntKind.i64.wrap (x1 - 1) - IntKind.i64.wrap (y3.fst - x0))).toNat (D.int 0)).toInt)).bind (fun y30 =>
 bif !y30 then
 (slices_partitionEqualOrdered y4 x0 x1 (IntKind.i64.wrap (IntKind.i64.wrap (x1 - 1) - IntKind.i64.wrap (y3.fst - x0)))).bind (fun y31 =>
 (F y31.fst x1 (IntKind.i64.wrap (x2 - 1)) x3 x4 y31.snd).bind k)
 else
 (slices_partitionOrdered y4 x0 x1 (IntKind.i64.wrap (IntKind.i64.wrap (x1 - 1) - IntKind.i64.wrap (y3.fst - x0)))).bind (fun y32 =>
 if (8 : Int) ≠ (0 : Int) then
 bif decide (IntKind.i64.wrap (y32.fst - x0) < IntKind.i64.wrap (x1 - y32.fst)) then
 (G_slices_pdqsortOrdered y32.snd.snd x0 y32.fst (IntKind.i64.wrap (x2 - 1))).bind (fun y33 =>
 (F (IntKind.i64.wrap (y32.fst + 1)) x1 (IntKind.i64.wrap (x2 - 1)) (decide (IntKind.i64.wrap ((IntKind.i64.wrap (x1 - x0)).tdiv (8 : Int)) ≤ IntKind.i64.wrap (y32.fst - x0))) y32.snd.fst y33).bind k)
 else
 (G_slices_pdqsortOrdered y32.snd.snd (IntKind.i64.wrap (y32.fst + 1)) x1 (IntKind.i64.wrap (x2 - 1))).bind (fun y34 =>
 (F x0 y32.fst (IntKind.i64.wrap (x2 - 1)) (decide (IntKind.i64.wrap ((IntKind.i64.wrap (x1 - x0)).tdiv (8 : Int)) ≤ IntKind.i64.wrap (x1 - y32.fst))) y32.snd.fst y34).bind k)
 else
 none))
 else
 none
 else
 none
 else
 none
 else
 none
 else
 (slices_partitionOrdered y4 x0 x1 (IntKind.i64.wrap (IntKind.i64.wrap (x1 - 1) - IntKind.i64.wrap (y3.fst - x0)))).bind (fun y35 =>
 if (8 : Int) ≠ (0 : Int) then
 bif decide (IntKind.i64.wrap (y35.fst - x0) < IntKind.i64.wrap (x1 - y35.fst)) then
 (G_slices_pdqsortOrdered y35.snd.snd x0 y35.fst (IntKind.i64.wrap (x2 - 1))).bind (fun y36 =>
 (F (IntKind.i64.wrap (y35.fst + 1)) x1 (IntKind.i64.wrap (x2 - 1)) (decide (IntKind.i64.wrap ((IntKind.i64.wrap (x1 - x0)).tdiv (8 : Int)) ≤ IntKind.i64.wrap (y35.fst - x0))) y35.snd.fst y36).bind k)
 else
 (G_slices_pdqsortOrdered y35.snd.snd (IntKind.i64.wrap (y35.fst + 1)) x1 (IntKind.i64.wrap (x2 - 1))).bind (fun y37 =>
 (F x0 y35.fst (IntKind.i64.wrap (x2 - 1)) (decide (IntKind.i64.wrap ((IntKind.i64.wrap (x1 - x0)).tdiv (8 : Int)) ≤ IntKind.i64.wrap (x1 - y35.fst))) y35.snd.fst y37).bind k)
 else
 none))
 else
 bif x3 then
 bif x4 then
 bif decide (y3.snd = (1 : Int)) then
 (slices_partialInsertionSortOrdered y2 x0 x1).bind (fun y38 =>
 bif y38.fst then
 k y38.snd
 else
 bif decide ((0 : Int) < x0) then
 if (0 : Int) ≤ IntKind.i64.wrap (x0 - 1) ∧ IntKind.i64.wrap (x0 - 1) < (↑y38.snd.length : Int) then
 if (IntKind.i64.wrap (x0 - 1)).toNat + 1 ≤ y38.snd.length then
 if 0 ≤ y3.fst ∧ y3.fst < (↑y38.snd.length : Int) then
 if y3.fst.toNat + 1 ≤ y38.snd.length then
 (cmp_Less ((y38.snd.getD (IntKind.i64.wrap (x0 - 1)).toNat (D.int 0)).toInt) ((y38.snd.getD y3.fst.toNat (D.int 0)).toInt)).bind (fun y39 =>
 bif !y39 then
 (slices_partitionEqualOrdered y38.snd x0 x1 y3.fst).bind (fun y40 =>
 (F y40.fst x1 (IntKind.i64.wrap (x2 - 1)) x3 x4 y40.snd).bind k)
 else
 (slices_partitionOrdered y38.snd x0 x1 y3.fst).bind (fun y41 =>
 if (8 : Int) ≠ (0 : Int) then
 bif decide (IntKind.i64.wrap (y41.fst - x0) < IntKind.i64.wrap (x1 - y41.fst)) then
 (G_slices_pdqsortOrdered y41.snd.snd x0 y41.fst (IntKind.i64.wrap (x2 - 1))).bind (fun y42 =>
 (F (IntKind.i64.wrap (y41.fst + 1)) x1 (IntKind.i64.wrap (x2 - 1)) (decide (IntKind.i64.wrap ((IntKind.i64.wrap (x1 - x0)).tdiv (8 : Int)) ≤ IntKind.i64.wrap (y41.fst - x0))) y41.snd.fst y42).bind k)
 else
 (G_slices_pdqsortOrdered y41.snd.snd (IntKind.i64.wrap (y41.fst + 1)) x1 (IntKind.i64.wrap (x2 - 1))).bind (fun y43 =>
 (F x0 y41.fst (IntKind.i64.wrap (x2 - 1)) (decide (IntKind.i64.wrap ((IntKind.i64.wrap (x1 - x0)).tdiv (8 : Int)) ≤ IntKind.i64.wrap (x1 - y41.fst))) y41.snd.fst y43).bind k)
 else
 none))
 else
 none
 else
 none
 else
 none
 else
 none
 else
 (slices_partitionOrdered y38.snd x0 x1 y3.fst).bind (fun y44 =>
 if (8 : Int) ≠ (0 : Int) then
 bif decide (IntKind.i64.wrap (y44.fst - x0) < IntKind.i64.wrap (x1 - y44.fst)) then
 (G_slices_pdqsortOrdered y44.snd.snd x0 y44.fst (IntKind.i64.wrap (x2 - 1))).bind (fun y45 =>
 (F (IntKind.i64.wrap (y44.fst + 1)) x1 (IntKind.i64.wrap (x2 - 1)) (decide (IntKind.i64.wrap ((IntKind.i64.wrap (x1 - x0)).tdiv (8 : Int)) ≤ IntKind.i64.wrap (y44.fst - x0))) y44.snd.fst y45).bind k)
 else
 (G_slices_pdqsortOrdered y44.snd.snd (IntKind.i64.wrap (y44.fst + 1)) x1 (IntKind.i64.wrap (x2 - 1))).bind (fun y46 =>
 (F x0 y44.fst (IntKind.i64.wrap (x2 - 1)) (decide (IntKind.i64.wrap ((IntKind.i64.wrap (x1 - x0)).tdiv (8 : Int)) ≤ IntKind.i64.wrap (x1 - y44.fst))) y44.snd.fst y46).bind k)
 else
 none))
 else
 bif decide ((0 : Int) < x0) then
 if (0 : Int) ≤ IntKind.i64.wrap (x0 - 1) ∧ IntKind.i64.wrap (x0 - 1) < (↑y2.length : Int) then
 if (IntKind.i64.wrap (x0 - 1)).toNat + 1 ≤ y2.length then
 if 0 ≤ y3.fst ∧ y3.fst < (↑y2.length : Int) then
 if y3.fst.toNat + 1 ≤ y2.length then
 (cmp_Less ((y2.getD (IntKind.i64.wrap (x0 - 1)).toNat (D.int 0)).toInt) ((y2.getD y3.fst.toNat (D.int 0)).toInt)).bind (fun y47 =>
 bif !y47 then
 (slices_partitionEqualOrdered y2 x0 x1 y3.fst).bind (fun y48 =>
 (F y48.fst x1 (IntKind.i64.wrap (x2 - 1)) x3 x4 y48.snd).bind k)
 else
 (slices_partitionOrdered y2 x0 x1 y3.fst).bind (fun y49 =>
 if (8 : Int) ≠ (0 : Int) then
 bif decide (IntKind.i64.wrap (y49.fst - x0) < IntKind.i64.wrap (x1 - y49.fst)) then
 (G_slices_pdqsortOrdered y49.snd.snd x0 y49.fst (IntKind.i64.wrap (x2 - 1))).bind (fun y50 =>
 (F (IntKind.i64.wrap (y49.fst + 1)) x1 (IntKind.i64.wrap (x2 - 1)) (decide (IntKind.i64.wrap ((IntKind.i64.wrap (x1 - x0)).tdiv (8 : Int)) ≤ IntKind.i64.wrap (y49.fst - x0))) y49.snd.fst y50).bind k)
 else
 (G_slices_pdqsortOrdered y49.snd.snd (IntKind.i64.wrap (y49.fst + 1)) x1 (IntKind.i64.wrap (x2 - 1))).bind (fun y51 =>
 (F x0 y49.fst (IntKind.i64.wrap (x2 - 1)) (decide (IntKind.i64.wrap ((IntKind.i64.wrap (x1 - x0)).tdiv (8 : Int)) ≤ IntKind.i64.wrap (x1 - y49.fst))) y49.snd.fst y51).bind k)
 else
 none))
 else
 none
 else
 none
 else
 none
 else
 none
 else
 (slices_partitionOrdered y2 x0 x1 y3.fst).bind (fun y52 =>
 if (8 : Int) ≠ (0 : Int) then
 bif decide (IntKind.i64.wrap (y52.fst - x0) < IntKind.i64.wrap (x1 - y52.fst)) then
 (G_slices_pdqsortOrdered y52.snd.snd x0 y52.fst (IntKind.i64.wrap (x2 - 1))).bind (fun y53 =>
 (F (IntKind.i64.wrap (y52.fst + 1)) x1 (IntKind.i64.wrap (x2 - 1)) (decide (IntKind.i64.wrap ((IntKind.i64.wrap (x1 - x0)).tdiv (8 : Int)) ≤ IntKind.i64.wrap (y52.fst - x0))) y52.snd.fst y53).bind k)
 else
 (G_slices_pdqsortOrdered y52.snd.snd (IntKind.i64.wrap (y52.fst + 1)) x1 (IntKind.i64.wrap (x2 - 1))).bind (fun y54 =>
 (F x0 y52.fst (IntKind.i64.wrap (x2 - 1)) (decide (IntKind.i64.wrap ((IntKind.i64.wrap (x1 - x0)).tdiv (8 : Int)) ≤ IntKind.i64.wrap (x1 - y52.fst))) y52.snd.fst y54).bind k)
 else
 none)
 else
 bif decide ((0 : Int) < x0) then
 if (0 : Int) ≤ IntKind.i64.wrap (x0 - 1) ∧ IntKind.i64.wrap (x0 - 1) < (↑y2.length : Int) then
 if (IntKind.i64.wrap (x0 - 1)).toNat + 1 ≤ y2.length then
 if 0 ≤ y3.fst ∧ y3.fst < (↑y2.length : Int) then
 if y3.fst.toNat + 1 ≤ y2.length then
 (cmp_Less ((y2.getD (IntKind.i64.wrap (x0 - 1)).toNat (D.int 0)).toInt) ((y2.getD y3.fst.toNat (D.int 0)).toInt)).bind (fun y55 =>
 bif !y55 then
 (slices_partitionEqualOrdered y2 x0 x1 y3.fst).bind (fun y56 =>
 (F y56.fst x1 (IntKind.i64.wrap (x2 - 1)) x3 x4 y56.snd).bind k)
 else
 (slices_partitionOrdered y2 x0 x1 y3.fst).bind (fun y57 =>
 if (8 : Int) ≠ (0 : Int) then
 bif decide (IntKind.i64.wrap (y57.fst - x0) < IntKind.i64.wrap (x1 - y57.fst)) then
 (G_slices_pdqsortOrdered y57.snd.snd x0 y57.fst (IntKind.i64.wrap (x2 - 1))).bind (fun y58 =>
 (F (IntKind.i64.wrap (y57.fst + 1)) x1 (IntKind.i64.wrap (x2 - 1)) (decide (IntKind.i64.wrap ((IntKind.i64.wrap (x1 - x0)).tdiv (8 : Int)) ≤ IntKind.i64.wrap (y57.fst - x0))) y57.snd.fst y58).bind k)
 else
 (G_slices_pdqsortOrdered y57.snd.snd (IntKind.i64.wrap (y57.fst + 1)) x1 (IntKind.i64.wrap (x2 - 1))).bind (fun y59 =>
 (F x0 y57.fst (IntKind.i64.wrap (x2 - 1)) (decide (IntKind.i64.wrap ((IntKind.i64.wrap (x1 - x0)).tdiv (8 : Int)) ≤ IntKind.i64.wrap (x1 - y57.fst))) y57.snd.fst y59).bind k)
 else
 none))
 else
 none
 else
 none
 else
 none
 else
 none
 else
 (slices_partitionOrdered y2 x0 x1 y3.fst).bind (fun y60 =>
 if (8 : Int) ≠ (0 : Int) then
 bif decide (IntKind.i64.wrap (y60.fst - x0) < IntKind.i64.wrap (x1 - y60.fst)) then
 (G_slices_pdqsortOrdered y60.snd.snd x0 y60.fst (IntKind.i64.wrap (x2 - 1))).bind (fun y61 =>
 (F (IntKind.i64.wrap (y60.fst + 1)) x1 (IntKind.i64.wrap (x2 - 1)) (decide (IntKind.i64.wrap ((IntKind.i64.wrap (x1 - x0)).tdiv (8 : Int)) ≤ IntKind.i64.wrap (y60.fst - x0))) y60.snd.fst y61).bind k)
 else
 (G_slices_pdqsortOrdered y60.snd.snd (IntKind.i64.wrap (y60.fst + 1)) x1 (IntKind.i64.wrap (x2 - 1))).bind (fun y62 =>
 (F x0 y60.fst (IntKind.i64.wrap (x2 - 1)) (decide (IntKind.i64.wrap ((IntKind.i64.wrap (x1 - x0)).tdiv (8 : Int)) ≤ IntKind.i64.wrap (x1 - y60.fst))) y60.snd.fst y62).bind k)
 else
 none)
 else
 bif decide ((0 : Int) < x0) then
 if (0 : Int) ≤ IntKind.i64.wrap (x0 - 1) ∧ IntKind.i64.wrap (x0 - 1) < (↑y2.length : Int) then
 if (IntKind.i64.wrap (x0 - 1)).toNat + 1 ≤ y2.length then
 if 0 ≤ y3.fst ∧ y3.fst < (↑y2.length : Int) then
 if y3.fst.toNat + 1 ≤ y2.length then
 (cmp_Less ((y2.getD (IntKind.i64.wrap (x0 - 1)).toNat (D.int 0)).toInt) ((y2.getD y3.fst.toNat (D.int 0)).toInt)).bind (fun y63 =>
 bif !y63 then
 (slices_partitionEqualOrdered y2 x0 x1 y3.fst).bind (fun y64 =>
 (F y64.fst x1 (IntKind.i64.wrap (x2 - 1)) x3 x4 y64.snd).bind k)
 else
 (slices_partitionOrdered y2 x0 x1 y3.fst).bind (fun y65 =>
 if (8 : Int) ≠ (0 : Int) then
 bif decide (IntKind.i64.wrap (y65.fst - x0) < IntKind.i64.wrap (x1 - y65.fst)) then
 (G_slices_pdqsortOrdered y65.snd.snd x0 y65.fst (IntKind.i64.wrap (x2 - 1))).bind (fun y66 =>
 (F (IntKind.i64.wrap (y65.fst + 1)) x1 (IntKind.i64.wrap (x2 - 1)) (decide (IntKind.i64.wrap ((IntKind.i64.wrap (x1 - x0)).tdiv (8 : Int)) ≤ IntKind.i64.wrap (y65.fst - x0))) y65.snd.fst y66).bind k)
 else
 (G_slices_pdqsortOrdered y65.snd.snd (IntKind.i64.wrap (y65.fst + 1)) x1 (IntKind.i64.wrap (x2 - 1))).bind (fun y67 =>
 (F x0 y65.fst (IntKind.i64.wrap (x2 - 1)) (decide (IntKind.i64.wrap ((IntKind.i64.wrap (x1 - x0)).tdiv (8 : Int)) ≤ IntKind.i64.wrap (x1 - y65.fst))) y65.snd.fst y67).bind k)
 else
 none))
 else
 none
 else
 none
 else
 none
 else
 none
 else
 (slices_partitionOrdered y2 x0 x1 y3.fst).bind (fun y68 =>
 if (8 : Int) ≠ (0 : Int) then
 bif decide (IntKind.i64.wrap (y68.fst - x0) < IntKind.i64.wrap (x1 - y68.fst)) then
 (G_slices_pdqsortOrdered y68.snd.snd x0 y68.fst (IntKind.i64.wrap (x2 - 1))).bind (fun y69 =>
 (F (IntKind.i64.wrap (y68.fst + 1)) x1 (IntKind.i64.wrap (x2 - 1)) (decide (IntKind.i64.wrap ((IntKind.i64.wrap (x1 - x0)).tdiv (8 : Int)) ≤ IntKind.i64.wrap (y68.fst - x0))) y68.snd.fst y69).bind k)
 else
 (G_slices_pdqsortOrdered y68.snd.snd (IntKind.i64.wrap (y68.fst + 1)) x1 (IntKind.i64.wrap (x2 - 1))).bind (fun y70 =>
 (F x0 y68.fst (IntKind.i64.wrap (x2 - 1)) (decide (IntKind.i64.wrap ((IntKind.i64.wrap (x1 - x0)).tdiv (8 : Int)) ≤ IntKind.i64.wrap (x1 - y68.fst))) y68.snd.fst y70).bind k)
 else
 none)))
 else
 (slices_choosePivotOrdered x5 x0 x1).bind (fun y71 =>
 bif decide (y71.snd = (2 : Int)) then
 (slices_reverseRangeOrdered x5 x0 x1).bind (fun y72 =>
 bif x3 then
 bif x4 then
 bif decide ((1 : Int) = (1 : Int)) then
 (slices_partialInsertionSortOrdered y72 x0 x1).bind (fun y73 =>
 bif y73.fst then
 k y73.snd
 else
 bif decide ((0 : Int) < x0) then
 if (0 : Int) ≤ IntKind.i64.wrap (x0 - 1) ∧ IntKind.i64.wrap (x0 - 1) < (↑y73.snd.length : Int) then
 if (IntKind.i64.wrap (x0 - 1)).toNat + 1 ≤ y73.snd.length then
 if (0 : Int) ≤ IntKind.i64.wrap (IntKind.i64.wrap (x1 - 1) - IntKind.i64.wrap (y71.fst - x0)) ∧ IntKind.i64.wrap (IntKind.i64.wrap (x1 - 1) - IntKind.i64.wrap (y71.fst - x0)) < (↑y73.snd.length : Int) then
 if (IntKind.i64.wrap (IntKind.i64.wrap (x1 - 1) - IntKind.i64.wrap (y71.fst - x0))).toNat + 1 ≤ y73.snd.length then
 (cmp_Less ((y73.snd.getD (IntKind.i64.wrap (x0 - 1)).toNat (D.int 0)).toInt) ((y73.snd.getD (IntKind.i64.wrap (IntKind.i64.wrap (x1 - 1) - IntKind.i64.wrap (y71.fst - x0))).toNat (D.int 0)).toInt)).bind (fun y74 =>
 bif !y74 then
 (slices_partitionEqualOrdered y73.snd x0 x1 (IntKind.i64.wrap (IntKind.i64.wrap (x1 - 1) - IntKind.i64.wrap (y71.fst - x0)))).bind (fun y75 =>
 (F y75.fst x1 x2 x3 x4 y75.snd).bind k)
 else
 (slices_partitionOrdered y73.snd x0 x1 (IntKind.i64.wrap (IntKind.i64.wrap (x1 - 1) - IntKind.i64.wrap (y71.fst - x0)))).bind (fun y76 =>
 if (8 : Int) ≠ (0 : Int) then
 bif decide (IntKind.i64.wrap (y76.fst - x0) < IntKind.i64.wrap (x1 - y76.fst)) then
 (G_slices_pdqsortOrdered y76.snd.snd x0 y76.fst x2).bind (fun y77 =>
 (F (IntKind.i64.wrap (y76.fst + 1)) x1 x2 (decide (IntKind.i64.wrap ((IntKind.i64.wrap (x1 - x0)).tdiv (8 : Int)) ≤ IntKind.i64.wrap (y76.fst - x0))) y76.snd.fst y77).bind k)
 else
 (G_slices_pdqsortOrdered y76.snd.snd (IntKind.i64.wrap (y76.fst + 1)) x1 x2).bind (fun y78 =>
 (F x0 y76.fst x2 (decide (IntKind.i64.wrap ((IntKind.i64.wrap (x1 - x0)).tdiv (8 : Int)) ≤ IntKind.i64.wrap (x1 - y76.fst))) y76.snd.fst y78).bind k)
 else
 none))
 else
 none
 else
 none
 else
 none
 else
 none
 else
 (slices_partitionOrdered y73.snd x0 x1 (IntKind.i64.wrap (IntKind.i64.wrap (x1 - 1) - IntKind.i64.wrap (y71.fst - x0)))).bind (fun y79 =>
 if (8 : Int) ≠ (0 : Int) then
 bif decide (IntKind.i64.wrap (y79.fst - x0) < IntKind.i64.wrap (x1 - y79.fst)) then
 (G_slices_pdqsortOrdered y79.snd.snd x0 y79.fst x2).bind (fun y80 =>
 (F (IntKind.i64.wrap (y79.fst + 1)) x1 x2 (decide (IntKind.i64.wrap ((IntKind.i64.wrap (x1 - x0)).tdiv (8 : Int)) ≤ IntKind.i64.wrap (y79.fst - x0))) y79.snd.fst y80).bind k)
 else
 (G_slices_pdqsortOrdered y79.snd.snd (IntKind.i64.wrap (y79.fst + 1)) x1 x2).bind (fun y81 =>
 (F x0 y79.fst x2 (decide (IntKind.i64.wrap ((IntKind.i64.wrap (x1 - x0)).tdiv (8 : Int)) ≤ IntKind.i64.wrap (x1 - y79.fst))) y79.snd.fst y81).bind k)
 else
 none))
 else
 bif decide ((0 : Int) < x0) then
 if (0 : Int) ≤ IntKind.i64.wrap (x0 - 1) ∧ IntKind.i64.wrap (x0 - 1) < (↑y72.length : Int) then
 if (IntKind.i64.wrap (x0 - 1)).toNat + 1 ≤ y72.length then
 if (0 : Int) ≤ IntKind.i64.wrap (IntKind.i64.wrap (x1 - 1) - IntKind.i64.wrap (y71.fst - x0)) ∧ IntKind.i64.wrap (IntKind.i64.wrap (x1 - 1) - IntKind.i64.wrap (y71.fst - x0)) < (↑y72.length : Int) then
 if (IntKind.i64.wrap (IntKind.i64.wrap (x1 - 1) - IntKind.i64.wrap (y71.fst - x0))).toNat + 1 ≤ y72.length then
 (cmp_Less ((y72.getD (IntKind.i64.wrap (x0 - 1)).toNat (D.int 0)).toInt) ((y72.getD (IntKind.i64.wrap (IntKind.i64.wrap (x1 - 1) - IntKind.i64.wrap (y71.fst - x0))).toNat (D.int 0)).toInt)).bind (fun y82 =>
 bif !y82 then
 (slices_partitionEqualOrdered y72 x0 x1 (IntKind.i64.wrap (IntKind.i64.wrap (x1 - 1) - IntKind.i64.wrap (y71.fst - x0)))).bind (fun y83 =>
 (F y83.fst x1 x2 x3 x4 y83.snd).bind k)
 else
 (slices_partitionOrdered y72 x0 x1 (IntKind.i64.wrap (IntKind.i64.wrap (x1 - 1) - IntKind.i64.wrap (y71.fst - x0)))).bind (fun y84 =>
 if (8 : Int) ≠ (0 : Int) then
 bif decide (IntKind.i64.wrap (y84.fst - x0) < IntKind.i64.wrap (x1 - y84.fst)) then
 (G_slices_pdqsortOrdered y84.snd.snd x0 y84.fst x2).bind (fun y85 =>
 (F (IntKind.i64.wrap (y84.fst + 1)) x1 x2 (decide (IntKind.i64.wrap ((IntKind.i64.wrap (x1 - x0)).tdiv (8 : Int)) ≤ IntKind.i64.wrap (y84.fst - x0))) y84.snd.fst y85).bind k)
 else
 (G_slices_pdqsortOrdered y84.snd.snd (IntKind.i64.wrap (y84.fst + 1)) x1 x2).bind (fun y86 =>
 (F x0 y84.fst x2 (decide (IntKind.i64.wrap ((IntKind.i64.wrap (x1 - x0)).tdiv (8 : Int)) ≤ IntKind.i64.wrap (x1 - y84.fst))) y84.snd.fst y86).bind k)
 else
 none))
 else
 none
 else
 none
 else
 none
 else
 none
 else
 (slices_partitionOrdered y72 x0 x1 (IntKind.i64.wrap (IntKind.i64.wrap (x1 - 1) - IntKind.i64.wrap (y71.fst - x0)))).bind (fun y87 =>
 if (8 : Int) ≠ (0 : Int) then
 bif decide (IntKind.i64.wrap (y87.fst - x0) < IntKind.i64.wrap (x1 - y87.fst)) then
 (G_slices_pdqsortOrdered y87.snd.snd x0 y87.fst x2).bind (fun y88 =>
 (F (IntKind.i64.wrap (y87.fst + 1)) x1 x2 (decide (IntKind.i64.wrap ((IntKind.i64.wrap (x1 - x0)).tdiv (8 : Int)) ≤ IntKind.i64.wrap (y87.fst - x0))) y87.snd.fst y88).bind k)
 else
 (G_slices_pdqsortOrdered y87.snd.snd (IntKind.i64.wrap (y87.fst + 1)) x1 x2).bind (fun y89 =>
 (F x0 y87.fst x2 (decide (IntKind.i64.wrap ((IntKind.i64.wrap (x1 - x0)).tdiv (8 : Int)) ≤ IntKind.i64.wrap (x1 - y87.fst))) y87.snd.fst y89).bind k)
 else
 none)
 else
 bif decide ((0 : Int) < x0) then
 if (0 : Int) ≤ IntKind.i64.wrap (x0 - 1) ∧ IntKind.i64.wrap (x0 - 1) < (↑y72.length : Int) then
 if (IntKind.i64.wrap (x0 - 1)).toNat + 1 ≤ y72.length then
 if (0 : Int) ≤ IntKind.i64.wrap (IntKind.i64.wrap (x1 - 1) - IntKind.i64.wrap (y71.fst - x0)) ∧ IntKind.i64.wrap (IntKind.i64.wrap (x1 - 1) - IntKind.i64.wrap (y71.fst - x0)) < (↑y72.length : Int) then
 if (IntKind.i64.wrap (IntKind.i64.wrap (x1 - 1) - IntKind.i64.wrap (y71.fst - x0))).toNat + 1 ≤ y72.length then
 (cmp_Less ((y72.getD (IntKind.i64.wrap (x0 - 1)).toNat (D.int 0)).toInt) ((y72.getD (IntKind.i64.wrap (IntKind.i64.wrap (x1 - 1) - IntKind.i64.wrap (y71.fst - x0))).toNat (D.int 0)).toInt)).bind (fun y90 =>
 bif !y90 then
 (slices_partitionEqualOrdered y72 x0 x1 (IntKind.i64.wrap (IntKind.i64.wrap (x1 - 1) - IntKind.i64.wrap (y71.fst - x0)))).bind (fun y91 =>
 (F y91.fst x1 x2 x3 x4 y91.snd).bind k)
 else
 (slices_partitionOrdered y72 x0 x1 (IntKind.i64.wrap (IntKind.i64.wrap (x1 - 1) - IntKind.i64.wrap (y71.fst - x0)))).bind (fun y92 =>
 if (8 : Int) ≠ (0 : Int) then
 bif decide (IntKind.i64.wrap (y92.fst - x0) < IntKind.i64.wrap (x1 - y92.fst)) then
 (G_slices_pdqsortOrdered y92.snd.snd x0 y92.fst x2).bind (fun y93 =>
 (F (IntKind.i64.wrap (y92.fst + 1)) x1 x2 (decide (IntKind.i64.wrap ((IntKind.i64.wrap (x1 - x0)).tdiv (8 : Int)) ≤ IntKind.i64.wrap (y92.fst - x0))) y92.snd.fst y93).bind k)
 else
 (G_slices_pdqsortOrdered y92.snd.snd (IntKind.i64.wrap (y92.fst + 1)) x1 x2).bind (fun y94 =>
 (F x0 y92.fst x2 (decide (IntKind.i64.wrap ((IntKind.i64.wrap (x1 - x0)).tdiv (8 : Int)) ≤ IntKind.i64.wrap (x1 - y92.fst))) y92.snd.fst y94).bind k)
 else
 none))
 else
 none
 else
 none
 else
 none
 else
 none
 else
 (slices_partitionOrdered y72 x0 x1 (IntKind.i64.wrap (IntKind.i64.wrap (x1 - 1) - IntKind.i64.wrap (y71.fst - x0)))).bind (fun y95 =>
 if (8 : Int) ≠ (0 : Int) then
 bif decide (IntKind.i64.wrap (y95.fst - x0) < IntKind.i64.wrap (x1 - y95.fst)) then
 (G_slices_pdqsortOrdered y95.snd.snd x0 y95.fst x2).bind (fun y96 =>
 (F (IntKind.i64.wrap (y95.fst + 1)) x1 x2 (decide (IntKind.i64.wrap ((IntKind.i64.wrap (x1 - x0)).tdiv (8 : Int)) ≤ IntKind.i64.wrap (y95.fst - x0))) y95.snd.fst y96).bind k)
 else
 (G_slices_pdqsortOrdered y95.snd.snd (IntKind.i64.wrap (y95.fst + 1)) x1 x2).bind (fun y97 =>
 (F x0 y95.fst x2 (decide (IntKind.i64.wrap ((IntKind.i64.wrap (x1 - x0)).tdiv (8 : Int)) ≤ IntKind.i64.wrap (x1 - y95.fst))) y95.snd.fst y97).bind k)
 else
 none)
 else
 bif decide ((0 : Int) < x0) then
 if (0 : Int) ≤ IntKind.i64.wrap (x0 - 1) ∧ IntKind.i64.wrap (x0 - 1) < (↑y72.length : Int) then
 if (IntKind.i64.wrap (x0 - 1)).toNat + 1 ≤ y72.length then
 if (0 : Int) ≤ IntKind.i64.wrap (IntKind.i64.wrap (x1 - 1) - IntKind.i64.wrap (y71.fst - x0)) ∧ IntKind.i64.wrap (IntKind.i64.wrap (x1 - 1) - IntKind.i64.wrap (y71.fst - x0)) < (↑y72.length : Int) then
 if (IntKind.i64.wrap (IntKind.i64.wrap (x1 - 1) - IntKind.i64.wrap (y71.fst - x0))).toNat + 1 ≤ y72.length then
 (cmp_Less ((y72.getD (IntKind.i64.wrap (x0 - 1)).toNat (D.int 0)).toInt) ((y72.getD (IntKind.i64.wrap (IntKind.i64.wrap (x1 - 1) - IntKind.i64.wrap (y71.fst - x0))).toNat (D.int 0)).toInt)).bind (fun y98 =>
 bif !y98 then
 (slices_partitionEqualOrdered y72 x0 x1 (IntKind.i64.wrap (IntKind.i64.wrap (x1 - 1) - IntKind.i64.wrap (y71.fst - x0)))).bind (fun y99 =>
 (F y99.fst x1 x2 x3 x4 y99.snd).bind k)
 else
 (slices_partitionOrdered y72 x0 x1 (IntKind.i64.wrap (IntKind.i64.wrap (x1 - 1) - IntKind.i64.wrap (y71.fst - x0)))).bind (fun y100 =>
 if (8 : Int) ≠ (0 : Int) then
 bif decide (IntKind.i64.wrap (y100.fst - x0) < IntKind.i64.wrap (x1 - y100.fst)) then
 (G_slices_pdqsortOrdered y100.snd.snd x0 y100.fst x2).bind (fun y101 =>
 (F (IntKind.i64.wrap (y100.fst + 1)) x1 x2 (decide (IntKind.i64.wrap ((IntKind.i64.wrap (x1 - x0)).tdiv (8 : Int)) ≤ IntKind.i64.wrap (y100.fst - x0))) y100.snd.fst y101).bind k)
 else
 (G_slices_pdqsortOrdered y100.snd.snd (IntKind.i64.wrap (y100.fst + 1)) x1 x2).bind (fun y102 =>
 (F x0 y100.fst x2 (decide (IntKind.i64.wrap ((IntKind.i64.wrap (x1 - x0)).tdiv (8 : Int)) ≤ IntKind.i64.wrap (x1 - y100.fst))) y100.snd.fst y102).bind k)
 else
 none))
 else
 none
 else
 none
 else
 none
 else
 none
 else
 (slices_partitionOrdered y72 x0 x1 (IntKind.i64.wrap (IntKind.i64.wrap (x1 - 1) - IntKind.i64.wrap (y71.fst - x0)))).bind (fun y103 =>
 if (8 : Int) ≠ (0 : Int) then
 bif decide (IntKind.i64.wrap (y103.fst - x0) < IntKind.i64.wrap (x1 - y103.fst)) then
 (G_slices_pdqsortOrdered y103.snd.snd x0 y103.fst x2).bind (fun y104 =>
 (F (IntKind.i64.wrap (y103.fst + 1)) x1 x2 (decide (IntKind.i64.wrap ((IntKind.i64.wrap (x1 - x0)).tdiv (8 : Int)) ≤ IntKind.i64.wrap (y103.fst - x0))) y103.snd.fst y104).bind k)
 else
 (G_slices_pdqsortOrdered y103.snd.snd (IntKind.i64.wrap (y103.fst + 1)) x1 x2).bind (fun y105 =>
 (F x0 y103.fst x2 (decide (IntKind.i64.wrap ((IntKind.i64.wrap (x1 - x0)).tdiv (8 : Int)) ≤ IntKind.i64.wrap (x1 - y103.fst))) y103.snd.fst y105).bind k)
 else
 none))
 else
 bif x3 then
 bif x4 then
 bif decide (y71.snd = (1 : Int)) then
 (slices_partialInsertionSortOrdered x5 x0 x1).bind (fun y106 =>
 bif y106.fst then
 k y106.snd
 else
 bif decide ((0 : Int) < x0) then
 if (0 : Int) ≤ IntKind.i64.wrap (x0 - 1) ∧ IntKind.i64.wrap (x0 - 1) < (↑y106.snd.length : Int) then
 if (IntKind.i64.wrap (x0 - 1)).toNat + 1 ≤ y106.snd.length then
 if 0 ≤ y71.fst ∧ y71.fst < (↑y106.snd.length : Int) then
 if y71.fst.toNat + 1 ≤ y106.snd.length then
 (cmp_Less ((y106.snd.getD (IntKind.i64.wrap (x0 - 1)).toNat (D.int 0)).toInt) ((y106.snd.getD y71.fst.toNat (D.int 0)).toInt)).bind (fun y107 =>
 bif !y107 then
 (slices_partitionEqualOrdered y106.snd x0 x1 y71.fst).bind (fun y108 =>
 (F y108.fst x1 x2 x3 x4 y108.snd).bind k)
 else
 (slices_partitionOrdered y106.snd x0 x1 y71.fst).bind (fun y109 =>
 if (8 : Int) ≠ (0 : Int) then
 bif decide (IntKind.i64.wrap (y109.fst - x0) < IntKind.i64.wrap (x1 - y109.fst)) then
 (G_slices_pdqsortOrdered y109.snd.snd x0 y109.fst x2).bind (fun y110 =>
 (F (IntKind.i64.wrap (y109.fst + 1)) x1 x2 (decide (IntKind.i64.wrap ((IntKind.i64.wrap (x1 - x0)).tdiv (8 : Int)) ≤ IntKind.i64.wrap (y109.fst - x0))) y109.snd.fst y110).bind k)
 else
 (G_slices_pdqsortOrdered y109.snd.snd (IntKind.i64.wrap (y109.fst + 1)) x1 x2).bind (fun y111 =>
 (F x0 y109.fst x2 (decide (IntKind.i64.wrap ((IntKind.i64.wrap (x1 - x0)).tdiv (8 : Int)) ≤ IntKind.i64.wrap (x1 - y109.fst))) y109.snd.fst y111).bind k)
 else
 none))
 else
 none
 else
 none
 else
 none
 else
 none
 else
 (slices_partitionOrdered y106.snd x0 x1 y71.fst).bind (fun y112 =>
 if (8 : Int) ≠ (0 : Int) then
 bif decide (IntKind.i64.wrap (y112.fst - x0) < IntKind.i64.wrap (x1 - y112.fst)) then
 (G_slices_pdqsortOrdered y112.snd.snd x0 y112.fst x2).bind (fun y113 =>
 (F (IntKind.i64.wrap (y112.fst + 1)) x1 x2 (decide (IntKind.i64.wrap ((IntKind.i64.wrap (x1 - x0)).tdiv (8 : Int)) ≤ IntKind.i64.wrap (y112.fst - x0))) y112.snd.fst y113).bind k)
 else
 (G_slices_pdqsortOrdered y112.snd.snd (IntKind.i64.wrap (y112.fst + 1)) x1 x2).bind (fun y114 =>
 (F x0 y112.fst x2 (decide (IntKind.i64.wrap ((IntKind.i64.wrap (x1 - x0)).tdiv (8 : Int)) ≤ IntKind.i64.wrap (x1 - y112.fst))) y112.snd.fst y114).bind k)
 else
 none))
 else
 bif decide ((0 : Int) < x0) then
 if (0 : Int) ≤ IntKind.i64.wrap (x0 - 1) ∧ IntKind.i64.wrap (x0 - 1) < (↑x5.length : Int) then
 if (IntKind.i64.wrap (x0 - 1)).toNat + 1 ≤ x5.length then
 if 0 ≤ y71.fst ∧ y71.fst < (↑x5.length : Int) then
 if y71.fst.toNat + 1 ≤ x5.length then
 (cmp_Less ((x5.getD (IntKind.i64.wrap (x0 - 1)).toNat (D.int 0)).toInt) ((x5.getD y71.fst.toNat (D.int 0)).toInt)).bind (fun y115 =>
 bif !y115 then
 (slices_partitionEqualOrdered x5 x0 x1 y71.fst).bind (fun y116 =>
 (F y116.fst x1 x2 x3 x4 y116.snd).bind k)
 else
 (slices_partitionOrdered x5 x0 x1 y71.fst).bind (fun y117 =>
 if (8 : Int) ≠ (0 : Int) then
 bif decide (IntKind.i64.wrap (y117.fst - x0) < IntKind.i64.wrap (x1 - y117.fst)) then
 (G_slices_pdqsortOrdered y117.snd.snd x0 y117.fst x2).bind (fun y118 =>
 (F (IntKind.i64.wrap (y117.fst + 1)) x1 x2 (decide (IntKind.i64.wrap ((IntKind.i64.wrap (x1 - x0)).tdiv (8 : Int)) ≤ IntKind.i64.wrap (y117.fst - x0))) y117.snd.fst y118).bind k)
 else
 (G_slices_pdqsortOrdered y117.snd.snd (IntKind.i64.wrap (y117.fst + 1)) x1 x2).bind (fun y119 =>
 (F x0 y117.fst x2 (decide (IntKind.i64.wrap ((IntKind.i64.wrap (x1 - x0)).tdiv (8 : Int)) ≤ IntKind.i64.wrap (x1 - y117.fst))) y117.snd.fst y119).bind k)
 else
 none))
 else
 none
 else
 none
 else
 none
 else
 none
 else
 (slices_partitionOrdered x5 x0 x1 y71.fst).bind (fun y120 =>
 if (8 : Int) ≠ (0 : Int) then
 bif decide (IntKind.i64.wrap (y120.fst - x0) < IntKind.i64.wrap (x1 - y120.fst)) then
 (G_slices_pdqsortOrdered y120.snd.snd x0 y120.fst x2).bind (fun y121 =>
 (F (IntKind.i64.wrap (y120.fst + 1)) x1 x2 (decide (IntKind.i64.wrap ((IntKind.i64.wrap (x1 - x0)).tdiv (8 : Int)) ≤ IntKind.i64.wrap (y120.fst - x0))) y120.snd.fst y121).bind k)
 else
 (G_slices_pdqsortOrdered y120.snd.snd (IntKind.i64.wrap (y120.fst + 1)) x1 x2).bind (fun y122 =>
 (F x0 y120.fst x2 (decide (IntKind.i64.wrap ((IntKind.i64.wrap (x1 - x0)).tdiv (8 : Int)) ≤ IntKind.i64.wrap (x1 - y120.fst))) y120.snd.fst y122).bind k)
 else
 none)
 else
 bif decide ((0 : Int) < x0) then
 if (0 : Int) ≤ IntKind.i64.wrap (x0 - 1) ∧ IntKind.i64.wrap (x0 - 1) < (↑x5.length : Int) then
 if (IntKind.i64.wrap (x0 - 1)).toNat + 1 ≤ x5.length then
 if 0 ≤ y71.fst ∧ y71.fst < (↑x5.length : Int) then
 if y71.fst.toNat + 1 ≤ x5.length then
 (cmp_Less ((x5.getD (IntKind.i64.wrap (x0 - 1)).toNat (D.int 0)).toInt) ((x5.getD y71.fst.toNat (D.int 0)).toInt)).bind (fun y123 =>
 bif !y123 then
 (slices_partitionEqualOrdered x5 x0 x1 y71.fst).bind (fun y124 =>
 (F y124.fst x1 x2 x3 x4 y124.snd).bind k)
 else
 (slices_partitionOrdered x5 x0 x1 y71.fst).bind (fun y125 =>
 if (8 : Int) ≠ (0 : Int) then
 bif decide (IntKind.i64.wrap (y125.fst - x0) < IntKind.i64.wrap (x1 - y125.fst)) then
 (G_slices_pdqsortOrdered y125.snd.snd x0 y125.fst x2).bind (fun y126 =>
 (F (IntKind.i64.wrap (y125.fst + 1)) x1 x2 (decide (IntKind.i64.wrap ((IntKind.i64.wrap (x1 - x0)).tdiv (8 : Int)) ≤ IntKind.i64.wrap (y125.fst - x0))) y125.snd.fst y126).bind k)
 else
 (G_slices_pdqsortOrdered y125.snd.snd (IntKind.i64.wrap (y125.fst + 1)) x1 x2).bind (fun y127 =>
 (F x0 y125.fst x2 (decide (IntKind.i64.wrap ((IntKind.i64.wrap (x1 - x0)).tdiv (8 : Int)) ≤ IntKind.i64.wrap (x1 - y125.fst))) y125.snd.fst y127).bind k)
 else
 none))
 else
 none
 else
 none
 else
 none
 else
 none
 else
 (slices_partitionOrdered x5 x0 x1 y71.fst).bind (fun y128 =>
 if (8 : Int) ≠ (0 : Int) then
 bif decide (IntKind.i64.wrap (y128.fst - x0) < IntKind.i64.wrap (x1 - y128.fst)) then
 (G_slices_pdqsortOrdered y128.snd.snd x0 y128.fst x2).bind (fun y129 =>
 (F (IntKind.i64.wrap (y128.fst + 1)) x1 x2 (decide (IntKind.i64.wrap ((IntKind.i64.wrap (x1 - x0)).tdiv (8 : Int)) ≤ IntKind.i64.wrap (y128.fst - x0))) y128.snd.fst y129).bind k)
 else
 (G_slices_pdqsortOrdered y128.snd.snd (IntKind.i64.wrap (y128.fst + 1)) x1 x2).bind (fun y130 =>
 (F x0 y128.fst x2 (decide (IntKind.i64.wrap ((IntKind.i64.wrap (x1 - x0)).tdiv (8 : Int)) ≤ IntKind.i64.wrap (x1 - y128.fst))) y128.snd.fst y130).bind k)
 else
 none)
 else
 bif decide ((0 : Int) < x0) then
 if (0 : Int) ≤ IntKind.i64.wrap (x0 - 1) ∧ IntKind.i64.wrap (x0 - 1) < (↑x5.length : Int) then
 if (IntKind.i64.wrap (x0 - 1)).toNat + 1 ≤ x5.length then
 if 0 ≤ y71.fst ∧ y71.fst < (↑x5.length : Int) then
 if y71.fst.toNat + 1 ≤ x5.length then
 (cmp_Less ((x5.getD (IntKind.i64.wrap (x0 - 1)).toNat (D.int 0)).toInt) ((x5.getD y71.fst.toNat (D.int 0)).toInt)).bind (fun y131 =>
 bif !y131 then
 (slices_partitionEqualOrdered x5 x0 x1 y71.fst).bind (fun y132 =>
 (F y132.fst x1 x2 x3 x4 y132.snd).bind k)
 else
 (slices_partitionOrdered x5 x0 x1 y71.fst).bind (fun y133 =>
 if (8 : Int) ≠ (0 : Int) then
 bif decide (IntKind.i64.wrap (y133.fst - x0) < IntKind.i64.wrap (x1 - y133.fst)) then
 (G_slices_pdqsortOrdered y133.snd.snd x0 y133.fst x2).bind (fun y134 =>
 (F (IntKind.i64.wrap (y133.fst + 1)) x1 x2 (decide (IntKind.i64.wrap ((IntKind.i64.wrap (x1 - x0)).tdiv (8 : Int)) ≤ IntKind.i64.wrap (y133.fst - x0))) y133.snd.fst y134).bind k)
 else
 (G_slices_pdqsortOrdered y133.snd.snd (IntKind.i64.wrap (y133.fst + 1)) x1 x2).bind (fun y135 =>
 (F x0 y133.fst x2 (decide (IntKind.i64.wrap ((IntKind.i64.wrap (x1 - x0)).tdiv (8 : Int)) ≤ IntKind.i64.wrap (x1 - y133.fst))) y133.snd.fst y135).bind k)
 else
 none))
 else
 none
 else
 none
 else
 none
 else
 none
 else
 (slices_partitionOrdered x5 x0 x1 y71.fst).bind (fun y136 =>
 if (8 : Int) ≠ (0 : Int) then
 bif decide (IntKind.i64.wrap (y136.fst - x0) < IntKind.i64.wrap (x1 - y136.fst)) then
 (G_slices_pdqsortOrdered y136.snd.snd x0 y136.fst x2).bind (fun y137 =>
 (F (IntKind.i64.wrap (y136.fst + 1)) x1 x2 (decide (IntKind.i64.wrap ((IntKind.i64.wrap (x1 - x0)).tdiv (8 : Int)) ≤ IntKind.i64.wrap (y136.fst - x0))) y136.snd.fst y137).bind k)
 else
 (G_slices_pdqsortOrdered y136.snd.snd (IntKind.i64.wrap (y136.fst + 1)) x1 x2).bind (fun y138 =>
 (F x0 y136.fst x2 (decide (IntKind.i64.wrap ((IntKind.i64.wrap (x1 - x0)).tdiv (8 : Int)) ≤ IntKind.i64.wrap (x1 - y136.fst))) y136.snd.fst y138).bind k)
 else
 none))
theorem c_slices_pdqsortOrdered_L2_bind {R : Type} (G_slices_pdqsortOrdered : List D → Int → Int → Int → Option (List D)) (F : Int → Int → Int → Bool → Bool → List D → Option (List D)) (x0 : Int) (x1 : Int) (x2 : Int) (x3 : Bool) (x4 : Bool) (x5 : List D) (k : List D → Option R) : c_slices_pdqsortOrdered_L2 G_slices_pdqsortOrdered F x0 x1 x2 x3 x4 x5 k = (c_slices_pdqsortOrdered_L2 G_slices_pdqsortOrdered F x0 x1 x2 x3 x4 x5 some).bind k := by
 unfold c_slices_pdqsortOrdered_L2
 repeat' first|exact bnd_tail|exact bnd_none|exact bnd_leaf|apply bnd_ite|apply bnd_cond|apply bnd_sum|(apply bnd_bind;intro _)|intro _
def n_slices_pdqsortOrdered_L2 (G_slices_pdqsortOrdered : List D → Int → Int → Int → Option (List D)) : Nat → Int → Int → Int → Bool → Bool → List D → Option (List D)
 | 0, _, _, _, _, _, _ => none
 | n + 1, x0, x1, x2, x3, x4, x5 => c_slices_pdqsortOrdered_L2 G_slices_pdqsortOrdered (n_slices_pdqsortOrdered_L2 G_slices_pdqsortOrdered n) x0 x1 x2 x3 x4 x5 some
noncomputable def slices_pdqsortOrdered_L2 (G_slices_pdqsortOrdered : List D → Int → Int → Int → Option (List D)) (x0 : Int) (x1 : Int) (x2 : Int) (x3 : Bool) (x4 : Bool) (x5 : List D) : Option (List D) := ev (fun n => n_slices_pdqsortOrdered_L2 G_slices_pdqsortOrdered n x0 x1 x2 x3 x4 x5)
def m_slices_pdqsortOrdered_L2 (F : Int → Int → Int → Bool → Bool → List D → Option (List D)) : Lent := ⟨2, ⟨(.full 1000 [] (.int .i64) :: .int .i64 :: .int .i64 :: .int .i64 :: uu 4 (.bool :: .bool :: uu 124 ([]))), [(1000, .own (.int .i64))]⟩, [(.ret, ⟨(.full 1000 [] (.int .i64) :: uu 133 ([])), [(1000, .own (.int .i64))]⟩)], fun _ ds k => dI (fun x0 ds => dI (fun x1 ds => dI (fun x2 ds => dB (fun x3 ds => dB (fun x4 ds => dL (fun x5 ds => dE ((F x0 x1 x2 x3 x4 x5).bind (fun y => k 0 [.L y])) ds) ds) ds) ds) ds) ds) ds⟩
theorem q_slices_pdqsortOrdered_L2 (G_slices_pdqsortOrdered : List D → Int → Int → Int → Option (List D)) (F : Int → Int → Int → Bool → Bool → List D → Option (List D)) (x0 : Int) (x1 : Int) (x2 : Int) (x3 : Bool) (x4 : Bool) (x5 : List D) : runLoop (ocOf [e_slices_insertionSortOrdered, e_slices_heapSortOrdered, e_slices_breakPatternsOrdered, e_slices_choosePivotOrdered, e_slices_reverseRangeOrdered, e_slices_partialInsertionSortOrdered, e_cmp_Less, e_slices_partitionEqualOrdered, e_slices_partitionOrdered, m_slices_pdqsortOrdered G_slices_pdqsortOrdered]) (olOf [m_slices_pdqsortOrdered_L2 F]) A 76 (codeAt (bodyOf Try.f76) 2) ((m_slices_pdqsortOrdered_L2 F).sh.mk' [.I x0, .I x1, .I x2, .B x3, .B x4, .L x5]) (fun e σ' => some (e, σ')) = c_slices_pdqsortOrdered_L2 G_slices_pdqsortOrdered F x0 x1 x2 x3 x4 x5 (fun y => some (.ret, SSt.mk' ⟨(.full 1000 [] (.int .i64) :: uu 133 ([])), [(1000, .own (.int .i64))]⟩ [.L y])) := by kernel_rfl
theorem m_slices_pdqsortOrdered_L2_ok (G_slices_pdqsortOrdered : List D → Int → Int → Int → Option (List D)) (hG_slices_pdqsortOrdered : (m_slices_pdqsortOrdered G_slices_pdqsortOrdered).ok Try.prog A) : ∀ n, (m_slices_pdqsortOrdered_L2 (n_slices_pdqsortOrdered_L2 G_slices_pdqsortOrdered n)).ok Try.prog (codeAt (bodyOf Try.f76) 2) := by
 intro n
 induction n with
 | zero =>
  intro R ds k r h
  unfold m_slices_pdqsortOrdered_L2 at h
  obtain ⟨x0, d0, rfl, h0⟩ := dI_some h
  obtain ⟨x1, d1, rfl, h1⟩ := dI_some h0
  obtain ⟨x2, d2, rfl, h2⟩ := dI_some h1
  obtain ⟨x3, d3, rfl, h3⟩ := dB_some h2
  obtain ⟨x4, d4, rfl, h4⟩ := dB_some h3
  obtain ⟨x5, d5, rfl, h5⟩ := dL_some h4
  obtain ⟨rfl, hE⟩ := dE_some h5
  obtain ⟨y, hy, hk⟩ := bnd_some hE
  cases hy
 | succ n ih =>
  intro R ds k r h
  unfold m_slices_pdqsortOrdered_L2 at h
  obtain ⟨x0, d0, rfl, h0⟩ := dI_some h
  obtain ⟨x1, d1, rfl, h1⟩ := dI_some h0
  obtain ⟨x2, d2, rfl, h2⟩ := dI_some h1
  obtain ⟨x3, d3, rfl, h3⟩ := dB_some h2
  obtain ⟨x4, d4, rfl, h4⟩ := dB_some h3
  obtain ⟨x5, d5, rfl, h5⟩ := dL_some h4
  obtain ⟨rfl, hE⟩ := dE_some h5
  obtain ⟨y, hy, hk⟩ := bnd_some hE
  have hq := q_slices_pdqsortOrdered_L2 G_slices_pdqsortOrdered (n_slices_pdqsortOrdered_L2 G_slices_pdqsortOrdered n) x0 x1 x2 x3 x4 x5
  rw [c_slices_pdqsortOrdered_L2_bind] at hq
  rw [show c_slices_pdqsortOrdered_L2 G_slices_pdqsortOrdered (n_slices_pdqsortOrdered_L2 G_slices_pdqsortOrdered n) x0 x1 x2 x3 x4 x5 some = some y from hy] at hq
  refine ⟨0, _, _, _, hk, rfl, loop_ok px (fx := ⟨Try.func76, by kernel_rfl, by kernel_rfl⟩) (entsOK_cons e_slices_insertionSortOrdered_ok (entsOK_cons e_slices_heapSortOrdered_ok (entsOK_cons e_slices_breakPatternsOrdered_ok (entsOK_cons e_slices_choosePivotOrdered_ok (entsOK_cons e_slices_reverseRangeOrdered_ok (entsOK_cons e_slices_partialInsertionSortOrdered_ok (entsOK_cons e_cmp_Less_ok (entsOK_cons e_slices_partitionEqualOrdered_ok (entsOK_cons e_slices_partitionOrdered_ok (entsOK_cons hG_slices_pdqsortOrdered entsOK_nil)))))))))) (lentsOK_cons ih lentsOK_nil) (by kernel_rfl) ?_⟩
  exact hq
noncomputable def e_slices_pdqsortOrdered_L2 (G_slices_pdqsortOrdered : List D → Int → Int → Int → Option (List D)) : Lent := m_slices_pdqsortOrdered_L2 (slices_pdqsortOrdered_L2 G_slices_pdqsortOrdered)
theorem e_slices_pdqsortOrdered_L2_ok (G_slices_pdqsortOrdered : List D → Int → Int → Int → Option (List D)) (hG_slices_pdqsortOrdered : (m_slices_pdqsortOrdered G_slices_pdqsortOrdered).ok Try.prog A) : (e_slices_pdqsortOrdered_L2 G_slices_pdqsortOrdered).ok Try.prog (codeAt (bodyOf Try.f76) 2) := by
 intro R ds k r h
 unfold e_slices_pdqsortOrdered_L2 m_slices_pdqsortOrdered_L2 at h
 obtain ⟨x0, d0, rfl, h0⟩ := dI_some h
 obtain ⟨x1, d1, rfl, h1⟩ := dI_some h0
 obtain ⟨x2, d2, rfl, h2⟩ := dI_some h1
 obtain ⟨x3, d3, rfl, h3⟩ := dB_some h2
 obtain ⟨x4, d4, rfl, h4⟩ := dB_some h3
 obtain ⟨x5, d5, rfl, h5⟩ := dL_some h4
 obtain ⟨rfl, hE⟩ := dE_some h5
 obtain ⟨y, hy, hk⟩ := bnd_some hE
 obtain ⟨n, hn⟩ := ev_some hy
 exact m_slices_pdqsortOrdered_L2_ok G_slices_pdqsortOrdered hG_slices_pdqsortOrdered n R _ k r (show (n_slices_pdqsortOrdered_L2 G_slices_pdqsortOrdered n x0 x1 x2 x3 x4 x5).bind _ = _ by rw [hn]; exact hk)

/-!-/
def c_slices_pdqsortOrdered {R : Type} (F : List D → Int → Int → Int → Option (List D)) (x0 : List D) (x1 : Int) (x2 : Int) (x3 : Int) (k : List D → Option R) : Option R :=
 (slices_pdqsortOrdered_L2 F x1 x2 x3 Bool.true Bool.true x0).bind (fun y0 =>
 k y0)
theorem c_slices_pdqsortOrdered_bind {R : Type} (F : List D → Int → Int → Int → Option (List D)) (x0 : List D) (x1 : Int) (x2 : Int) (x3 : Int) (k : List D → Option R) : c_slices_pdqsortOrdered F x0 x1 x2 x3 k = (c_slices_pdqsortOrdered F x0 x1 x2 x3 some).bind k := by
 unfold c_slices_pdqsortOrdered
 repeat' first|exact bnd_tail|exact bnd_none|exact bnd_leaf|apply bnd_ite|apply bnd_cond|apply bnd_sum|(apply bnd_bind;intro _)|intro _
def n_slices_pdqsortOrdered : Nat → List D → Int → Int → Int → Option (List D)
 | 0, _, _, _, _ => none
 | n + 1, x0, x1, x2, x3 => c_slices_pdqsortOrdered (n_slices_pdqsortOrdered n) x0 x1 x2 x3 some
noncomputable def slices_pdqsortOrdered (x0 : List D) (x1 : Int) (x2 : Int) (x3 : Int) : Option (List D) := ev (fun n => n_slices_pdqsortOrdered n x0 x1 x2 x3)
theorem q_slices_pdqsortOrdered (F : List D → Int → Int → Int → Option (List D)) (x0 : List D) (x1 : Int) (x2 : Int) (x3 : Int) : runFn (ocOf []) (olOf [e_slices_pdqsortOrdered_L2 F]) A 76 Try.f76 (Sh.mks (m_slices_pdqsortOrdered F).sh [.L x0, .I x1, .I x2, .I x3]).1 (fun v os => some (v, os)) = c_slices_pdqsortOrdered F x0 x1 x2 x3 (fun y => some (((m_slices_pdqsortOrdered F).res.mk [.L y]).1, (Sh.mks (m_slices_pdqsortOrdered F).outs ((m_slices_pdqsortOrdered F).res.mk [.L y]).2).1)) := by kernel_rfl
theorem m_slices_pdqsortOrdered_ok : ∀ n, (m_slices_pdqsortOrdered (n_slices_pdqsortOrdered n)).ok Try.prog A := by
 intro n
 induction n with
 | zero =>
  intro R ds k r h
  unfold m_slices_pdqsortOrdered at h
  obtain ⟨x0, d0, rfl, h0⟩ := dL_some h
  obtain ⟨x1, d1, rfl, h1⟩ := dI_some h0
  obtain ⟨x2, d2, rfl, h2⟩ := dI_some h1
  obtain ⟨x3, d3, rfl, h3⟩ := dI_some h2
  obtain ⟨rfl, hE⟩ := dE_some h3
  obtain ⟨y, hy, hk⟩ := bnd_some hE
  cases hy
 | succ n ih =>
  intro R ds k r h
  unfold m_slices_pdqsortOrdered at h
  obtain ⟨x0, d0, rfl, h0⟩ := dL_some h
  obtain ⟨x1, d1, rfl, h1⟩ := dI_some h0
  obtain ⟨x2, d2, rfl, h2⟩ := dI_some h1
  obtain ⟨x3, d3, rfl, h3⟩ := dI_some h2
  obtain ⟨rfl, hE⟩ := dE_some h3
  obtain ⟨y, hy, hk⟩ := bnd_some hE
  have hme := ih
  refine ⟨_, hk, fn_ok px (fx := ⟨Try.func76, by kernel_rfl, by kernel_rfl⟩) entsOK_nil (lentsOK_cons (e_slices_pdqsortOrdered_L2_ok _ hme) lentsOK_nil) ?_⟩
  have hq := q_slices_pdqsortOrdered (n_slices_pdqsortOrdered n) x0 x1 x2 x3
  rw [c_slices_pdqsortOrdered_bind] at hq
  rw [show c_slices_pdqsortOrdered (n_slices_pdqsortOrdered n) x0 x1 x2 x3 some = some y from hy] at hq
  exact hq
def e_slices_pdqsortOrdered : Ent := m_slices_pdqsortOrdered slices_pdqsortOrdered
theorem e_slices_pdqsortOrdered_ok : e_slices_pdqsortOrdered.ok Try.prog A := by
 intro R ds k r h
 unfold e_slices_pdqsortOrdered m_slices_pdqsortOrdered at h
 obtain ⟨x0, d0, rfl, h0⟩ := dL_some h
 obtain ⟨x1, d1, rfl, h1⟩ := dI_some h0
 obtain ⟨x2, d2, rfl, h2⟩ := dI_some h1
 obtain ⟨x3, d3, rfl, h3⟩ := dI_some h2
 obtain ⟨rfl, hE⟩ := dE_some h3
 obtain ⟨y, hy, hk⟩ := bnd_some hE
 obtain ⟨n, hn⟩ := ev_some hy
 exact m_slices_pdqsortOrdered_ok n R _ k r (show (n_slices_pdqsortOrdered n x0 x1 x2 x3).bind _ = _ by rw [hn]; exact hk)

/-!-/
def c_slices_Sort {R : Type} (x0 : List D) (k : List D → Option R) : Option R :=
 (math_bits_Len (IntKind.u64.wrap (↑x0.length : Int))).bind (fun y0 =>
 (slices_pdqsortOrdered x0 (0 : Int) (↑x0.length : Int) y0).bind (fun y1 =>
 k y1))
theorem c_slices_Sort_bind {R : Type} (x0 : List D) (k : List D → Option R) : c_slices_Sort x0 k = (c_slices_Sort x0 some).bind k := by
 unfold c_slices_Sort
 repeat' first|exact bnd_tail|exact bnd_none|exact bnd_leaf|apply bnd_ite|apply bnd_cond|apply bnd_sum|(apply bnd_bind;intro _)|intro _
def slices_Sort (x0 : List D) : Option (List D) := c_slices_Sort x0 some
def e_slices_Sort : Ent := ⟨65, [.own (.int .i64)], .tup [], [.own (.int .i64)], fun _ ds k => dL (fun x0 ds => dE ((slices_Sort x0).bind (fun y => k [.L y])) ds) ds⟩
theorem q_slices_Sort (x0 : List D) : runFn (ocOf [e_math_bits_Len, e_slices_pdqsortOrdered]) (olOf []) A 65 Try.f65 (Sh.mks e_slices_Sort.sh [.L x0]).1 (fun v os => some (v, os)) = c_slices_Sort x0 (fun y => some ((e_slices_Sort.res.mk [.L y]).1, (Sh.mks e_slices_Sort.outs (e_slices_Sort.res.mk [.L y]).2).1)) := by kernel_rfl
theorem e_slices_Sort_ok : e_slices_Sort.ok Try.prog A := by
 intro R ds k r h
 unfold e_slices_Sort at h
 obtain ⟨x0, d0, rfl, h0⟩ := dL_some h
 obtain ⟨rfl, hE⟩ := dE_some h0
 obtain ⟨y, hy, hk⟩ := bnd_some hE
 refine ⟨_, hk, fn_ok px (fx := ⟨Try.func65, by kernel_rfl, by kernel_rfl⟩) (entsOK_cons e_math_bits_Len_ok (entsOK_cons e_slices_pdqsortOrdered_ok entsOK_nil)) lentsOK_nil ?_⟩
 have hq := q_slices_Sort x0
 rw [c_slices_Sort_bind] at hq
 rw [show c_slices_Sort x0 some = some y from hy] at hq
 exact hq

/-!-/
def c_impl_isOrder_L4 {R : Type} (F : List D → Int → Int → Int → List D → Option ((List D × Int × Bool) ⊕ (List D × Int))) (x0 : List D) (x1 : Int) (x2 : Int) (x3 : Int) (x4 : List D) (k : (List D × Int × Bool) ⊕ (List D × Int) → Option R) : Option R :=
 bif decide (x3 < x2) then
 if 0 ≤ x3 ∧ x3 < (↑x4.length : Int) then
 if x3.toNat + 1 ≤ x4.length then
 bif !decide (x3 = (x4.getD x3.toNat (D.int 0)).toInt) then
 k (.inl (x0, x1, Bool.false))
 else
 (F x0 x1 x2 (IntKind.i64.wrap (x3 + 1)) x4).bind k
 else
 none
 else
 none
 else
 k (.inr (x0, x1))
theorem c_impl_isOrder_L4_bind {R : Type} (F : List D → Int → Int → Int → List D → Option ((List D × Int × Bool) ⊕ (List D × Int))) (x0 : List D) (x1 : Int) (x2 : Int) (x3 : Int) (x4 : List D) (k : (List D × Int × Bool) ⊕ (List D × Int) → Option R) : c_impl_isOrder_L4 F x0 x1 x2 x3 x4 k = (c_impl_isOrder_L4 F x0 x1 x2 x3 x4 some).bind k := by
 unfold c_impl_isOrder_L4
 repeat' first|exact bnd_tail|exact bnd_none|exact bnd_leaf|apply bnd_ite|apply bnd_cond|apply bnd_sum|(apply bnd_bind;intro _)|intro _
def n_impl_isOrder_L4 : Nat → List D → Int → Int → Int → List D → Option ((List D × Int × Bool) ⊕ (List D × Int))
 | 0, _, _, _, _, _ => none
 | n + 1, x0, x1, x2, x3, x4 => c_impl_isOrder_L4 (n_impl_isOrder_L4 n) x0 x1 x2 x3 x4 some
noncomputable def impl_isOrder_L4 (x0 : List D) (x1 : Int) (x2 : Int) (x3 : Int) (x4 : List D) : Option ((List D × Int × Bool) ⊕ (List D × Int)) := ev (fun n => n_impl_isOrder_L4 n x0 x1 x2 x3 x4)
def m_impl_isOrder_L4 (F : List D → Int → Int → Int → List D → Option ((List D × Int × Bool) ⊕ (List D × Int))) : Lent := ⟨4, ⟨(.rd (.int .i64) :: .int .i64 :: uu 10 (.full 1000 [] (.int .i64) :: .int .i64 :: .int .i64 :: uu 12 ([]))), [(1000, .own (.int .i64))]⟩, [(.ret, ⟨(.rd (.int .i64) :: .int .i64 :: .undef :: .undef :: .bool :: uu 22 ([])), []⟩), (.exit 0, ⟨(.rd (.int .i64) :: .int .i64 :: uu 25 ([])), []⟩)], fun _ ds k => dL (fun x0 ds => dI (fun x1 ds => dI (fun x2 ds => dI (fun x3 ds => dL (fun x4 ds => dE ((F x0 x1 x2 x3 x4).bind (Sum.elim (fun y => k 0 [.L y.1, .I y.2.1, .B y.2.2]) (fun y => k 1 [.L y.1, .I y.2]))) ds) ds) ds) ds) ds) ds⟩
theorem q_impl_isOrder_L4 (F : List D → Int → Int → Int → List D → Option ((List D × Int × Bool) ⊕ (List D × Int))) (x0 : List D) (x1 : Int) (x2 : Int) (x3 : Int) (x4 : List D) : runLoop (ocOf []) (olOf [m_impl_isOrder_L4 F]) A 75 (codeAt (bodyOf Try.f75) 4) ((m_impl_isOrder_L4 F).sh.mk' [.L x0, .I x1, .I x2, .I x3, .L x4]) (fun e σ' => some (e, σ')) = c_impl_isOrder_L4 F x0 x1 x2 x3 x4 (Sum.elim (fun y => some (.ret, SSt.mk' ⟨(.rd (.int .i64) :: .int .i64 :: .undef :: .undef :: .bool :: uu 22 ([])), []⟩ [.L y.1, .I y.2.1, .B y.2.2])) (fun y => some (.exit 0, SSt.mk' ⟨(.rd (.int .i64) :: .int .i64 :: uu 25 ([])), []⟩ [.L y.1, .I y.2]))) := by kernel_rfl
theorem m_impl_isOrder_L4_ok : ∀ n, (m_impl_isOrder_L4 (n_impl_isOrder_L4 n)).ok Try.prog (codeAt (bodyOf Try.f75) 4) := by
 intro n
 induction n with
 | zero =>
  intro R ds k r h
  unfold m_impl_isOrder_L4 at h
  obtain ⟨x0, d0, rfl, h0⟩ := dL_some h
  obtain ⟨x1, d1, rfl, h1⟩ := dI_some h0
  obtain ⟨x2, d2, rfl, h2⟩ := dI_some h1
  obtain ⟨x3, d3, rfl, h3⟩ := dI_some h2
  obtain ⟨x4, d4, rfl, h4⟩ := dL_some h3
  obtain ⟨rfl, hE⟩ := dE_some h4
  obtain ⟨y, hy, hk⟩ := bnd_some hE
  cases hy
 | succ n ih =>
  intro R ds k r h
  unfold m_impl_isOrder_L4 at h
  obtain ⟨x0, d0, rfl, h0⟩ := dL_some h
  obtain ⟨x1, d1, rfl, h1⟩ := dI_some h0
  obtain ⟨x2, d2, rfl, h2⟩ := dI_some h1
  obtain ⟨x3, d3, rfl, h3⟩ := dI_some h2
  obtain ⟨x4, d4, rfl, h4⟩ := dL_some h3
  obtain ⟨rfl, hE⟩ := dE_some h4
  obtain ⟨y, hy, hk⟩ := bnd_some hE
  have hq := q_impl_isOrder_L4 (n_impl_isOrder_L4 n) x0 x1 x2 x3 x4
  rw [c_impl_isOrder_L4_bind] at hq
  rw [show c_impl_isOrder_L4 (n_impl_isOrder_L4 n) x0 x1 x2 x3 x4 some = some y from hy] at hq
  cases y with
  | inl y =>
   refine ⟨0, _, _, _, hk, rfl, loop_ok px (fx := ⟨Try.func75, by kernel_rfl, by kernel_rfl⟩) entsOK_nil (lentsOK_cons ih lentsOK_nil) (by kernel_rfl) ?_⟩
   exact hq
  | inr y =>
   refine ⟨1, _, _, _, hk, rfl, loop_ok px (fx := ⟨Try.func75, by kernel_rfl, by kernel_rfl⟩) entsOK_nil (lentsOK_cons ih lentsOK_nil) (by kernel_rfl) ?_⟩
   exact hq
noncomputable def e_impl_isOrder_L4 : Lent := m_impl_isOrder_L4 (impl_isOrder_L4)
theorem e_impl_isOrder_L4_ok : (e_impl_isOrder_L4).ok Try.prog (codeAt (bodyOf Try.f75) 4) := by
 intro R ds k r h
 unfold e_impl_isOrder_L4 m_impl_isOrder_L4 at h
 obtain ⟨x0, d0, rfl, h0⟩ := dL_some h
 obtain ⟨x1, d1, rfl, h1⟩ := dI_some h0
 obtain ⟨x2, d2, rfl, h2⟩ := dI_some h1
 obtain ⟨x3, d3, rfl, h3⟩ := dI_some h2
 obtain ⟨x4, d4, rfl, h4⟩ := dL_some h3
 obtain ⟨rfl, hE⟩ := dE_some h4
 obtain ⟨y, hy, hk⟩ := bnd_some hE
 obtain ⟨n, hn⟩ := ev_some hy
 exact m_impl_isOrder_L4_ok n R _ k r (show (n_impl_isOrder_L4 n x0 x1 x2 x3 x4).bind _ = _ by rw [hn]; exact hk)

/-!-/
def c_impl_isOrder {R : Type} (x0 : List D) (x1 : Int) (k : Bool → Option R) : Option R :=
 (slices_Clone x0).bind (fun y0 =>
 (slices_Sort y0).bind (fun y1 =>
 (impl_isOrder_L4 x0 x1 (↑y1.length : Int) (0 : Int) y1).bind (Sum.elim (fun y2 =>
 k y2.snd.snd) (fun y3 =>
 k (decide ((↑y3.fst.length : Int) = y3.snd))))))
theorem c_impl_isOrder_bind {R : Type} (x0 : List D) (x1 : Int) (k : Bool → Option R) : c_impl_isOrder x0 x1 k = (c_impl_isOrder x0 x1 some).bind k := by
 unfold c_impl_isOrder
 repeat' first|exact bnd_tail|exact bnd_none|exact bnd_leaf|apply bnd_ite|apply bnd_cond|apply bnd_sum|(apply bnd_bind;intro _)|intro _
def impl_isOrder (x0 : List D) (x1 : Int) : Option (Bool) := c_impl_isOrder x0 x1 some
def e_impl_isOrder : Ent := ⟨75, [.rd (.int .i64), .int .i64], .bool, [.undef, .undef], fun _ ds k => dL (fun x0 ds => dI (fun x1 ds => dE ((impl_isOrder x0 x1).bind (fun y => k [.B y])) ds) ds) ds⟩
theorem q_impl_isOrder (x0 : List D) (x1 : Int) : runFn (ocOf [e_slices_Clone, e_slices_Sort]) (olOf [e_impl_isOrder_L4]) A 75 Try.f75 (Sh.mks e_impl_isOrder.sh [.L x0, .I x1]).1 (fun v os => some (v, os)) = c_impl_isOrder x0 x1 (fun y => some ((e_impl_isOrder.res.mk [.B y]).1, (Sh.mks e_impl_isOrder.outs (e_impl_isOrder.res.mk [.B y]).2).1)) := by kernel_rfl
theorem e_impl_isOrder_ok : e_impl_isOrder.ok Try.prog A := by
 intro R ds k r h
 unfold e_impl_isOrder at h
 obtain ⟨x0, d0, rfl, h0⟩ := dL_some h
 obtain ⟨x1, d1, rfl, h1⟩ := dI_some h0
 obtain ⟨rfl, hE⟩ := dE_some h1
 obtain ⟨y, hy, hk⟩ := bnd_some hE
 refine ⟨_, hk, fn_ok px (fx := ⟨Try.func75, by kernel_rfl, by kernel_rfl⟩) (entsOK_cons e_slices_Clone_ok (entsOK_cons e_slices_Sort_ok entsOK_nil)) (lentsOK_cons e_impl_isOrder_L4_ok lentsOK_nil) ?_⟩
 have hq := q_impl_isOrder x0 x1
 rw [c_impl_isOrder_bind] at hq
 rw [show c_impl_isOrder x0 x1 some = some y from hy] at hq
 exact hq

/-!-/
def c_impl_areTableOrder {R : Type} (x0 : List D) (x1 : List D) (k : Bool → Option R) : Option R :=
 (impl_IsValidTable x0).bind (fun y0 =>
 bif y0 then
 (impl_isOrder x1 (↑x0.length : Int)).bind (fun y1 =>
 k y1)
 else
 k Bool.false)
theorem c_impl_areTableOrder_bind {R : Type} (x0 : List D) (x1 : List D) (k : Bool → Option R) : c_impl_areTableOrder x0 x1 k = (c_impl_areTableOrder x0 x1 some).bind k := by
 unfold c_impl_areTableOrder
 repeat' first|exact bnd_tail|exact bnd_none|exact bnd_leaf|apply bnd_ite|apply bnd_cond|apply bnd_sum|(apply bnd_bind;intro _)|intro _
def impl_areTableOrder (x0 : List D) (x1 : List D) : Option (Bool) := c_impl_areTableOrder x0 x1 some
def e_impl_areTableOrder : Ent := ⟨56, [.agg [.rd (.slice (.int .i64))], .rd (.int .i64)], .bool, [.undef, .undef], fun _ ds k => dL (fun x0 ds => dL (fun x1 ds => dE ((impl_areTableOrder x0 x1).bind (fun y => k [.B y])) ds) ds) ds⟩
theorem q_impl_areTableOrder (x0 : List D) (x1 : List D) : runFn (ocOf [e_impl_IsValidTable, e_impl_isOrder]) (olOf []) A 56 Try.f56 (Sh.mks e_impl_areTableOrder.sh [.L x0, .L x1]).1 (fun v os => some (v, os)) = c_impl_areTableOrder x0 x1 (fun y => some ((e_impl_areTableOrder.res.mk [.B y]).1, (Sh.mks e_impl_areTableOrder.outs (e_impl_areTableOrder.res.mk [.B y]).2).1)) := by kernel_rfl
theorem e_impl_areTableOrder_ok : e_impl_areTableOrder.ok Try.prog A := by
 intro R ds k r h
 unfold e_impl_areTableOrder at h
 obtain ⟨x0, d0, rfl, h0⟩ := dL_some h
 obtain ⟨x1, d1, rfl, h1⟩ := dL_some h0
 obtain ⟨rfl, hE⟩ := dE_some h1
 obtain ⟨y, hy, hk⟩ := bnd_some hE
 refine ⟨_, hk, fn_ok px (fx := ⟨Try.func56, by kernel_rfl, by kernel_rfl⟩) (entsOK_cons e_impl_IsValidTable_ok (entsOK_cons e_impl_isOrder_ok entsOK_nil)) lentsOK_nil ?_⟩
 have hq := q_impl_areTableOrder x0 x1
 rw [c_impl_areTableOrder_bind] at hq
 rw [show c_impl_areTableOrder x0 x1 some = some y from hy] at hq
 exact hq

/-!-/
def c_slices_Reverse_L1 {R : Type} (F : Int → Int → List D → Option (List D)) (x0 : Int) (x1 : Int) (x2 : List D) (k : List D → Option R) : Option R :=
 bif decide (x0 < x1) then
 if 0 ≤ x1 ∧ x1 < (↑x2.length : Int) then
 if x1.toNat + 1 ≤ x2.length then
 if 0 ≤ x0 ∧ x0 < (↑x2.length : Int) then
 if x0.toNat + 1 ≤ x2.length then
 if 0 ≤ x0 ∧ x0 < (↑x2.length : Int) then
 if x0.toNat + 1 ≤ x2.length then
 if 0 ≤ x1 ∧ x1 < (↑(x2.set x0.toNat (D.int (x2.getD x1.toNat (D.int 0)).toInt)).length : Int) then
 if x1.toNat + 1 ≤ (x2.set x0.toNat (D.int (x2.getD x1.toNat (D.int 0)).toInt)).length then
 (F (IntKind.i64.wrap (x0 + 1)) (IntKind.i64.wrap (x1 - 1)) ((x2.set x0.toNat (D.int (x2.getD x1.toNat (D.int 0)).toInt)).set x1.toNat (D.int (x2.getD x0.toNat (D.int 0)).toInt))).bind k
 else
 none
 else
 none
 else
 none
 else
 none
 else
 none
 else
 none
 else
 none
 else
 none
 else
 k x2
theorem c_slices_Reverse_L1_bind {R : Type} (F : Int → Int → List D → Option (List D)) (x0 : Int) (x1 : Int) (x2 : List D) (k : List D → Option R) : c_slices_Reverse_L1 F x0 x1 x2 k = (c_slices_Reverse_L1 F x0 x1 x2 some).bind k := by
 unfold c_slices_Reverse_L1
 repeat' first|exact bnd_tail|exact bnd_none|exact bnd_leaf|apply bnd_ite|apply bnd_cond|apply bnd_sum|(apply bnd_bind;intro _)|intro _
def n_slices_Reverse_L1 : Nat → Int → Int → List D → Option (List D)
 | 0, _, _, _ => none
 | n + 1, x0, x1, x2 => c_slices_Reverse_L1 (n_slices_Reverse_L1 n) x0 x1 x2 some
noncomputable def slices_Reverse_L1 (x0 : Int) (x1 : Int) (x2 : List D) : Option (List D) := ev (fun n => n_slices_Reverse_L1 n x0 x1 x2)
def m_slices_Reverse_L1 (F : Int → Int → List D → Option (List D)) : Lent := ⟨1, ⟨(.full 1000 [] (.int .i64) :: .undef :: .int .i64 :: .int .i64 :: uu 24 ([])), [(1000, .own (.int .i64))]⟩, [(.exit 0, ⟨(.full 1000 [] (.int .i64) :: uu 27 ([])), [(1000, .own (.int .i64))]⟩)], fun _ ds k => dI (fun x0 ds => dI (fun x1 ds => dL (fun x2 ds => dE ((F x0 x1 x2).bind (fun y => k 0 [.L y])) ds) ds) ds) ds⟩
theorem q_slices_Reverse_L1 (F : Int → Int → List D → Option (List D)) (x0 : Int) (x1 : Int) (x2 : List D) : runLoop (ocOf []) (olOf [m_slices_Reverse_L1 F]) A 59 (codeAt (bodyOf Try.f59) 1) ((m_slices_Reverse_L1 F).sh.mk' [.I x0, .I x1, .L x2]) (fun e σ' => some (e, σ')) = c_slices_Reverse_L1 F x0 x1 x2 (fun y => some (.exit 0, SSt.mk' ⟨(.full 1000 [] (.int .i64) :: uu 27 ([])), [(1000, .own (.int .i64))]⟩ [.L y])) := by kernel_rfl
theorem m_slices_Reverse_L1_ok : ∀ n, (m_slices_Reverse_L1 (n_slices_Reverse_L1 n)).ok Try.prog (codeAt (bodyOf Try.f59) 1) := by
 intro n
 induction n with
 | zero =>
  intro R ds k r h
  unfold m_slices_Reverse_L1 at h
  obtain ⟨x0, d0, rfl, h0⟩ := dI_some h
  obtain ⟨x1, d1, rfl, h1⟩ := dI_some h0
  obtain ⟨x2, d2, rfl, h2⟩ := dL_some h1
  obtain ⟨rfl, hE⟩ := dE_some h2
  obtain ⟨y, hy, hk⟩ := bnd_some hE
  cases hy
 | succ n ih =>
  intro R ds k r h
  unfold m_slices_Reverse_L1 at h
  obtain ⟨x0, d0, rfl, h0⟩ := dI_some h
  obtain ⟨x1, d1, rfl, h1⟩ := dI_some h0
  obtain ⟨x2, d2, rfl, h2⟩ := dL_some h1
  obtain ⟨rfl, hE⟩ := dE_some h2
  obtain ⟨y, hy, hk⟩ := bnd_some hE
  have hq := q_slices_Reverse_L1 (n_slices_Reverse_L1 n) x0 x1 x2
  rw [c_slices_Reverse_L1_bind] at hq
  rw [show c_slices_Reverse_L1 (n_slices_Reverse_L1 n) x0 x1 x2 some = some y from hy] at hq
  refine ⟨0, _, _, _, hk, rfl, loop_ok px (fx := ⟨Try.func59, by kernel_rfl, by kernel_rfl⟩) entsOK_nil (lentsOK_cons ih lentsOK_nil) (by kernel_rfl) ?_⟩
  exact hq
noncomputable def e_slices_Reverse_L1 : Lent := m_slices_Reverse_L1 (slices_Reverse_L1)
theorem e_slices_Reverse_L1_ok : (e_slices_Reverse_L1).ok Try.prog (codeAt (bodyOf Try.f59) 1) := by
 intro R ds k r h
 unfold e_slices_Reverse_L1 m_slices_Reverse_L1 at h
 obtain ⟨x0, d0, rfl, h0⟩ := dI_some h
 obtain ⟨x1, d1, rfl, h1⟩ := dI_some h0
 obtain ⟨x2, d2, rfl, h2⟩ := dL_some h1
 obtain ⟨rfl, hE⟩ := dE_some h2
 obtain ⟨y, hy, hk⟩ := bnd_some hE
 obtain ⟨n, hn⟩ := ev_some hy
 exact m_slices_Reverse_L1_ok n R _ k r (show (n_slices_Reverse_L1 n x0 x1 x2).bind _ = _ by rw [hn]; exact hk)

/-!-/
def c_slices_Reverse {R : Type} (x0 : List D) (k : List D → Option R) : Option R :=
 (slices_Reverse_L1 (0 : Int) (IntKind.i64.wrap ((↑x0.length : Int) - (1 : Int))) x0).bind (fun y0 =>
 k y0)
theorem c_slices_Reverse_bind {R : Type} (x0 : List D) (k : List D → Option R) : c_slices_Reverse x0 k = (c_slices_Reverse x0 some).bind k := by
 unfold c_slices_Reverse
 repeat' first|exact bnd_tail|exact bnd_none|exact bnd_leaf|apply bnd_ite|apply bnd_cond|apply bnd_sum|(apply bnd_bind;intro _)|intro _
def slices_Reverse (x0 : List D) : Option (List D) := c_slices_Reverse x0 some
def e_slices_Reverse : Ent := ⟨59, [.own (.int .i64)], .tup [], [.own (.int .i64)], fun _ ds k => dL (fun x0 ds => dE ((slices_Reverse x0).bind (fun y => k [.L y])) ds) ds⟩
theorem q_slices_Reverse (x0 : List D) : runFn (ocOf []) (olOf [e_slices_Reverse_L1]) A 59 Try.f59 (Sh.mks e_slices_Reverse.sh [.L x0]).1 (fun v os => some (v, os)) = c_slices_Reverse x0 (fun y => some ((e_slices_Reverse.res.mk [.L y]).1, (Sh.mks e_slices_Reverse.outs (e_slices_Reverse.res.mk [.L y]).2).1)) := by kernel_rfl
theorem e_slices_Reverse_ok : e_slices_Reverse.ok Try.prog A := by
 intro R ds k r h
 unfold e_slices_Reverse at h
 obtain ⟨x0, d0, rfl, h0⟩ := dL_some h
 obtain ⟨rfl, hE⟩ := dE_some h0
 obtain ⟨y, hy, hk⟩ := bnd_some hE
 refine ⟨_, hk, fn_ok px (fx := ⟨Try.func59, by kernel_rfl, by kernel_rfl⟩) entsOK_nil (lentsOK_cons e_slices_Reverse_L1_ok lentsOK_nil) ?_⟩
 have hq := q_slices_Reverse x0
 rw [c_slices_Reverse_bind] at hq
 rw [show c_slices_Reverse x0 some = some y from hy] at hq
 exact hq

/-!-/
def c_impl_ReverseOrder {R : Type} (x0 : List D) (x1 : List D) (k : List D × Bool → Option R) : Option R :=
 (impl_areTableOrder x0 x1).bind (fun y0 =>
 bif !y0 then
 k ([], Bool.false)
 else
 (slices_Clone x1).bind (fun y1 =>
 (slices_Reverse y1).bind (fun y2 =>
 k (y2, Bool.true))))
theorem c_impl_ReverseOrder_bind {R : Type} (x0 : List D) (x1 : List D) (k : List D × Bool → Option R) : c_impl_ReverseOrder x0 x1 k = (c_impl_ReverseOrder x0 x1 some).bind k := by
 unfold c_impl_ReverseOrder
 repeat' first|exact bnd_tail|exact bnd_none|exact bnd_leaf|apply bnd_ite|apply bnd_cond|apply bnd_sum|(apply bnd_bind;intro _)|intro _
def impl_ReverseOrder (x0 : List D) (x1 : List D) : Option (List D × Bool) := c_impl_ReverseOrder x0 x1 some
def e_impl_ReverseOrder : Ent := ⟨31, [.agg [.rd (.slice (.int .i64))], .rd (.int .i64)], .tup [.own (.int .i64), .bool], [.undef, .undef], fun _ ds k => dL (fun x0 ds => dL (fun x1 ds => dE ((impl_ReverseOrder x0 x1).bind (fun y => k [.L y.1, .B y.2])) ds) ds) ds⟩
theorem q_impl_ReverseOrder (x0 : List D) (x1 : List D) : runFn (ocOf [e_impl_areTableOrder, e_slices_Clone, e_slices_Reverse]) (olOf []) A 31 Try.f31 (Sh.mks e_impl_ReverseOrder.sh [.L x0, .L x1]).1 (fun v os => some (v, os)) = c_impl_ReverseOrder x0 x1 (fun y => some ((e_impl_ReverseOrder.res.mk [.L y.1, .B y.2]).1, (Sh.mks e_impl_ReverseOrder.outs (e_impl_ReverseOrder.res.mk [.L y.1, .B y.2]).2).1)) := by kernel_rfl
theorem e_impl_ReverseOrder_ok : e_impl_ReverseOrder.ok Try.prog A := by
 intro R ds k r h
 unfold e_impl_ReverseOrder at h
 obtain ⟨x0, d0, rfl, h0⟩ := dL_some h
 obtain ⟨x1, d1, rfl, h1⟩ := dL_some h0
 obtain ⟨rfl, hE⟩ := dE_some h1
 obtain ⟨y, hy, hk⟩ := bnd_some hE
 refine ⟨_, hk, fn_ok px (fx := ⟨Try.func31, by kernel_rfl, by kernel_rfl⟩) (entsOK_cons e_impl_areTableOrder_ok (entsOK_cons e_slices_Clone_ok (entsOK_cons e_slices_Reverse_ok entsOK_nil))) lentsOK_nil ?_⟩
 have hq := q_impl_ReverseOrder x0 x1
 rw [c_impl_ReverseOrder_bind] at hq
 rw [show c_impl_ReverseOrder x0 x1 some = some y from hy] at hq
 exact hq

/-!-/
def c_laws_eqIntS_L4 {R : Type} (F : List D → List D → Int → Option ((Bool) ⊕ (Unit))) (x0 : List D) (x1 : List D) (x2 : Int) (k : (Bool) ⊕ (Unit) → Option R) : Option R :=
 bif decide (x2 < (↑x0.length : Int)) then
 if 0 ≤ x2 ∧ x2 < (↑x0.length : Int) then
 if 0 ≤ x2 ∧ x2 < (↑x1.length : Int) then
 bif !decide ((x0.getD x2.toNat (D.int 0)).toInt = (x1.getD x2.toNat (D.int 0)).toInt) then
 k (.inl Bool.false)
 else
 (F x0 x1 (IntKind.i64.wrap (x2 + 1))).bind k
 else
 none
 else
 none
 else
 k (.inr ())
theorem c_laws_eqIntS_L4_bind {R : Type} (F : List D → List D → Int → Option ((Bool) ⊕ (Unit))) (x0 : List D) (x1 : List D) (x2 : Int) (k : (Bool) ⊕ (Unit) → Option R) : c_laws_eqIntS_L4 F x0 x1 x2 k = (c_laws_eqIntS_L4 F x0 x1 x2 some).bind k := by
 unfold c_laws_eqIntS_L4
 repeat' first|exact bnd_tail|exact bnd_none|exact bnd_leaf|apply bnd_ite|apply bnd_cond|apply bnd_sum|(apply bnd_bind;intro _)|intro _
def n_laws_eqIntS_L4 : Nat → List D → List D → Int → Option ((Bool) ⊕ (Unit))
 | 0, _, _, _ => none
 | n + 1, x0, x1, x2 => c_laws_eqIntS_L4 (n_laws_eqIntS_L4 n) x0 x1 x2 some
noncomputable def laws_eqIntS_L4 (x0 : List D) (x1 : List D) (x2 : Int) : Option ((Bool) ⊕ (Unit)) := ev (fun n => n_laws_eqIntS_L4 n x0 x1 x2)
def m_laws_eqIntS_L4 (F : List D → List D → Int → Option ((Bool) ⊕ (Unit))) : Lent := ⟨4, ⟨(.rd (.int .i64) :: .rd (.int .i64) :: .undef :: .undef :: .undef :: .int .i64 :: uu 20 ([])), []⟩, [(.ret, ⟨(uu 4 (.bool :: uu 21 ([]))), []⟩), (.exit 0, ⟨(uu 26 ([])), []⟩)], fun _ ds k => dL (fun x0 ds => dL (fun x1 ds => dI (fun x2 ds => dE ((F x0 x1 x2).bind (Sum.elim (fun y => k 0 [.B y]) (fun y => k 1 []))) ds) ds) ds) ds⟩
theorem q_laws_eqIntS_L4 (F : List D → List D → Int → Option ((Bool) ⊕ (Unit))) (x0 : List D) (x1 : List D) (x2 : Int) : runLoop (ocOf []) (olOf [m_laws_eqIntS_L4 F]) A 21 (codeAt (bodyOf Try.f21) 4) ((m_laws_eqIntS_L4 F).sh.mk' [.L x0, .L x1, .I x2]) (fun e σ' => some (e, σ')) = c_laws_eqIntS_L4 F x0 x1 x2 (Sum.elim (fun y => some (.ret, SSt.mk' ⟨(uu 4 (.bool :: uu 21 ([]))), []⟩ [.B y])) (fun y => some (.exit 0, SSt.mk' ⟨(uu 26 ([])), []⟩ []))) := by kernel_rfl
theorem m_laws_eqIntS_L4_ok : ∀ n, (m_laws_eqIntS_L4 (n_laws_eqIntS_L4 n)).ok Try.prog (codeAt (bodyOf Try.f21) 4) := by
 intro n
 induction n with
 | zero =>
  intro R ds k r h
  unfold m_laws_eqIntS_L4 at h
  obtain ⟨x0, d0, rfl, h0⟩ := dL_some h
  obtain ⟨x1, d1, rfl, h1⟩ := dL_some h0
  obtain ⟨x2, d2, rfl, h2⟩ := dI_some h1
  obtain ⟨rfl, hE⟩ := dE_some h2
  obtain ⟨y, hy, hk⟩ := bnd_some hE
  cases hy
 | succ n ih =>
  intro R ds k r h
  unfold m_laws_eqIntS_L4 at h
  obtain ⟨x0, d0, rfl, h0⟩ := dL_some h
  obtain ⟨x1, d1, rfl, h1⟩ := dL_some h0
  obtain ⟨x2, d2, rfl, h2⟩ := dI_some h1
  obtain ⟨rfl, hE⟩ := dE_some h2
  obtain ⟨y, hy, hk⟩ := bnd_some hE
  have hq := q_laws_eqIntS_L4 (n_laws_eqIntS_L4 n) x0 x1 x2
  rw [c_laws_eqIntS_L4_bind] at hq
  rw [show c_laws_eqIntS_L4 (n_laws_eqIntS_L4 n) x0 x1 x2 some = some y from hy] at hq
  cases y with
  | inl y =>
   refine ⟨0, _, _, _, hk, rfl, loop_ok px (fx := ⟨Try.func21, by kernel_rfl, by kernel_rfl⟩) entsOK_nil (lentsOK_cons ih lentsOK_nil) (by kernel_rfl) ?_⟩
   exact hq
  | inr y =>
   refine ⟨1, _, _, _, hk, rfl, loop_ok px (fx := ⟨Try.func21, by kernel_rfl, by kernel_rfl⟩) entsOK_nil (lentsOK_cons ih lentsOK_nil) (by kernel_rfl) ?_⟩
   exact hq
noncomputable def e_laws_eqIntS_L4 : Lent := m_laws_eqIntS_L4 (laws_eqIntS_L4)
theorem e_laws_eqIntS_L4_ok : (e_laws_eqIntS_L4).ok Try.prog (codeAt (bodyOf Try.f21) 4) := by
 intro R ds k r h
 unfold e_laws_eqIntS_L4 m_laws_eqIntS_L4 at h
 obtain ⟨x0, d0, rfl, h0⟩ := dL_some h
 obtain ⟨x1, d1, rfl, h1⟩ := dL_some h0
 obtain ⟨x2, d2, rfl, h2⟩ := dI_some h1
 obtain ⟨rfl, hE⟩ := dE_some h2
 obtain ⟨y, hy, hk⟩ := bnd_some hE
 obtain ⟨n, hn⟩ := ev_some hy
 exact m_laws_eqIntS_L4_ok n R _ k r (show (n_laws_eqIntS_L4 n x0 x1 x2).bind _ = _ by rw [hn]; exact hk)

/-!-/
def c_laws_eqIntS {R : Type} (x0 : List D) (x1 : List D) (k : Bool → Option R) : Option R :=
 bif !decide ((↑x0.length : Int) = (↑x1.length : Int)) then
 k Bool.false
 else
 (laws_eqIntS_L4 x0 x1 (0 : Int)).bind (Sum.elim (fun y0 =>
 k y0) (fun y1 =>
 k Bool.true))
theorem c_laws_eqIntS_bind {R : Type} (x0 : List D) (x1 : List D) (k : Bool → Option R) : c_laws_eqIntS x0 x1 k = (c_laws_eqIntS x0 x1 some).bind k := by
 unfold c_laws_eqIntS
 repeat' first|exact bnd_tail|exact bnd_none|exact bnd_leaf|apply bnd_ite|apply bnd_cond|apply bnd_sum|(apply bnd_bind;intro _)|intro _
def laws_eqIntS (x0 : List D) (x1 : List D) : Option (Bool) := c_laws_eqIntS x0 x1 some
def e_laws_eqIntS : Ent := ⟨21, [.rd (.int .i64), .rd (.int .i64)], .bool, [.undef, .undef], fun _ ds k => dL (fun x0 ds => dL (fun x1 ds => dE ((laws_eqIntS x0 x1).bind (fun y => k [.B y])) ds) ds) ds⟩
theorem q_laws_eqIntS (x0 : List D) (x1 : List D) : runFn (ocOf []) (olOf [e_laws_eqIntS_L4]) A 21 Try.f21 (Sh.mks e_laws_eqIntS.sh [.L x0, .L x1]).1 (fun v os => some (v, os)) = c_laws_eqIntS x0 x1 (fun y => some ((e_laws_eqIntS.res.mk [.B y]).1, (Sh.mks e_laws_eqIntS.outs (e_laws_eqIntS.res.mk [.B y]).2).1)) := by kernel_rfl
theorem e_laws_eqIntS_ok : e_laws_eqIntS.ok Try.prog A := by
 intro R ds k r h
 unfold e_laws_eqIntS at h
 obtain ⟨x0, d0, rfl, h0⟩ := dL_some h
 obtain ⟨x1, d1, rfl, h1⟩ := dL_some h0
 obtain ⟨rfl, hE⟩ := dE_some h1
 obtain ⟨y, hy, hk⟩ := bnd_some hE
 refine ⟨_, hk, fn_ok px (fx := ⟨Try.func21, by kernel_rfl, by kernel_rfl⟩) entsOK_nil (lentsOK_cons e_laws_eqIntS_L4_ok lentsOK_nil) ?_⟩
 have hq := q_laws_eqIntS x0 x1
 rw [c_laws_eqIntS_bind] at hq
 rw [show c_laws_eqIntS x0 x1 some = some y from hy] at hq
 exact hq

/-!-/
def c_laws_eqIntSS_L4 {R : Type} (F : List D → List D → Int → Option ((Bool) ⊕ (Unit))) (x0 : List D) (x1 : List D) (x2 : Int) (k : (Bool) ⊕ (Unit) → Option R) : Option R :=
 bif decide (x2 < (↑x0.length : Int)) then
 if 0 ≤ x2 ∧ x2 < (↑x0.length : Int) then
 if 0 ≤ x2 ∧ x2 < (↑x1.length : Int) then
 (laws_eqIntS ((x0.getD x2.toNat (D.int 0)).items) ((x1.getD x2.toNat (D.int 0)).items)).bind (fun y0 =>
 bif !y0 then
 k (.inl Bool.false)
 else
 (F x0 x1 (IntKind.i64.wrap (x2 + 1))).bind k)
 else
 none
 else
 none
 else
 k (.inr ())
theorem c_laws_eqIntSS_L4_bind {R : Type} (F : List D → List D → Int → Option ((Bool) ⊕ (Unit))) (x0 : List D) (x1 : List D) (x2 : Int) (k : (Bool) ⊕ (Unit) → Option R) : c_laws_eqIntSS_L4 F x0 x1 x2 k = (c_laws_eqIntSS_L4 F x0 x1 x2 some).bind k := by
 unfold c_laws_eqIntSS_L4
 repeat' first|exact bnd_tail|exact bnd_none|exact bnd_leaf|apply bnd_ite|apply bnd_cond|apply bnd_sum|(apply bnd_bind;intro _)|intro _
def n_laws_eqIntSS_L4 : Nat → List D → List D → Int → Option ((Bool) ⊕ (Unit))
 | 0, _, _, _ => none
 | n + 1, x0, x1, x2 => c_laws_eqIntSS_L4 (n_laws_eqIntSS_L4 n) x0 x1 x2 some
noncomputable def laws_eqIntSS_L4 (x0 : List D) (x1 : List D) (x2 : Int) : Option ((Bool) ⊕ (Unit)) := ev (fun n => n_laws_eqIntSS_L4 n x0 x1 x2)
def m_laws_eqIntSS_L4 (F : List D → List D → Int → Option ((Bool) ⊕ (Unit))) : Lent := ⟨4, ⟨(.rd (.slice (.int .i64)) :: .rd (.slice (.int .i64)) :: .undef :: .undef :: .undef :: .int .i64 :: uu 21 ([])), []⟩, [(.ret, ⟨(uu 4 (.bool :: uu 22 ([]))), []⟩), (.exit 0, ⟨(uu 27 ([])), []⟩)], fun _ ds k => dL (fun x0 ds => dL (fun x1 ds => dI (fun x2 ds => dE ((F x0 x1 x2).bind (Sum.elim (fun y => k 0 [.B y]) (fun y => k 1 []))) ds) ds) ds) ds⟩
theorem q_laws_eqIntSS_L4 (F : List D → List D → Int → Option ((Bool) ⊕ (Unit))) (x0 : List D) (x1 : List D) (x2 : Int) : runLoop (ocOf [e_laws_eqIntS]) (olOf [m_laws_eqIntSS_L4 F]) A 46 (codeAt (bodyOf Try.f46) 4) ((m_laws_eqIntSS_L4 F).sh.mk' [.L x0, .L x1, .I x2]) (fun e σ' => some (e, σ')) = c_laws_eqIntSS_L4 F x0 x1 x2 (Sum.elim (fun y => some (.ret, SSt.mk' ⟨(uu 4 (.bool :: uu 22 ([]))), []⟩ [.B y])) (fun y => some (.exit 0, SSt.mk' ⟨(uu 27 ([])), []⟩ []))) := by kernel_rfl
theorem m_laws_eqIntSS_L4_ok : ∀ n, (m_laws_eqIntSS_L4 (n_laws_eqIntSS_L4 n)).ok Try.prog (codeAt (bodyOf Try.f46) 4) := by
 intro n
 induction n with
 | zero =>
  intro R ds k r h
  unfold m_laws_eqIntSS_L4 at h
  obtain ⟨x0, d0, rfl, h0⟩ := dL_some h
  obtain ⟨x1, d1, rfl, h1⟩ := dL_some h0
  obtain ⟨x2, d2, rfl, h2⟩ := dI_some h1
  obtain ⟨rfl, hE⟩ := dE_some h2
  obtain ⟨y, hy, hk⟩ := bnd_some hE
  cases hy
 | succ n ih =>
  intro R ds k r h
  unfold m_laws_eqIntSS_L4 at h
  obtain ⟨x0, d0, rfl, h0⟩ := dL_some h
  obtain ⟨x1, d1, rfl, h1⟩ := dL_some h0
  obtain ⟨x2, d2, rfl, h2⟩ := dI_some h1
  obtain ⟨rfl, hE⟩ := dE_some h2
  obtain ⟨y, hy, hk⟩ := bnd_some hE
  have hq := q_laws_eqIntSS_L4 (n_laws_eqIntSS_L4 n) x0 x1 x2
  rw [c_laws_eqIntSS_L4_bind] at hq
  rw [show c_laws_eqIntSS_L4 (n_laws_eqIntSS_L4 n) x0 x1 x2 some = some y from hy] at hq
  cases y with
  | inl y =>
   refine ⟨0, _, _, _, hk, rfl, loop_ok px (fx := ⟨Try.func46, by kernel_rfl, by kernel_rfl⟩) (entsOK_cons e_laws_eqIntS_ok entsOK_nil) (lentsOK_cons ih lentsOK_nil) (by kernel_rfl) ?_⟩
   exact hq
  | inr y =>
   refine ⟨1, _, _, _, hk, rfl, loop_ok px (fx := ⟨Try.func46, by kernel_rfl, by kernel_rfl⟩) (entsOK_cons e_laws_eqIntS_ok entsOK_nil) (lentsOK_cons ih lentsOK_nil) (by kernel_rfl) ?_⟩
   exact hq
noncomputable def e_laws_eqIntSS_L4 : Lent := m_laws_eqIntSS_L4 (laws_eqIntSS_L4)
theorem e_laws_eqIntSS_L4_ok : (e_laws_eqIntSS_L4).ok Try.prog (codeAt (bodyOf Try.f46) 4) := by
 intro R ds k r h
 unfold e_laws_eqIntSS_L4 m_laws_eqIntSS_L4 at h
 obtain ⟨x0, d0, rfl, h0⟩ := dL_some h
 obtain ⟨x1, d1, rfl, h1⟩ := dL_some h0
 obtain ⟨x2, d2, rfl, h2⟩ := dI_some h1
 obtain ⟨rfl, hE⟩ := dE_some h2
 obtain ⟨y, hy, hk⟩ := bnd_some hE
 obtain ⟨n, hn⟩ := ev_some hy
 exact m_laws_eqIntSS_L4_ok n R _ k r (show (n_laws_eqIntSS_L4 n x0 x1 x2).bind _ = _ by rw [hn]; exact hk)

/-!-/
def c_laws_eqIntSS {R : Type} (x0 : List D) (x1 : List D) (k : Bool → Option R) : Option R :=
 bif !decide ((↑x0.length : Int) = (↑x1.length : Int)) then
 k Bool.false
 else
 (laws_eqIntSS_L4 x0 x1 (0 : Int)).bind (Sum.elim (fun y0 =>
 k y0) (fun y1 =>
 k Bool.true))
theorem c_laws_eqIntSS_bind {R : Type} (x0 : List D) (x1 : List D) (k : Bool → Option R) : c_laws_eqIntSS x0 x1 k = (c_laws_eqIntSS x0 x1 some).bind k := by
 unfold c_laws_eqIntSS
 repeat' first|exact bnd_tail|exact bnd_none|exact bnd_leaf|apply bnd_ite|apply bnd_cond|apply bnd_sum|(apply bnd_bind;intro _)|intro _
def laws_eqIntSS (x0 : List D) (x1 : List D) : Option (Bool) := c_laws_eqIntSS x0 x1 some
def e_laws_eqIntSS : Ent := ⟨46, [.rd (.slice (.int .i64)), .rd (.slice (.int .i64))], .bool, [.undef, .undef], fun _ ds k => dL (fun x0 ds => dL (fun x1 ds => dE ((laws_eqIntSS x0 x1).bind (fun y => k [.B y])) ds) ds) ds⟩
theorem q_laws_eqIntSS (x0 : List D) (x1 : List D) : runFn (ocOf []) (olOf [e_laws_eqIntSS_L4]) A 46 Try.f46 (Sh.mks e_laws_eqIntSS.sh [.L x0, .L x1]).1 (fun v os => some (v, os)) = c_laws_eqIntSS x0 x1 (fun y => some ((e_laws_eqIntSS.res.mk [.B y]).1, (Sh.mks e_laws_eqIntSS.outs (e_laws_eqIntSS.res.mk [.B y]).2).1)) := by kernel_rfl
theorem e_laws_eqIntSS_ok : e_laws_eqIntSS.ok Try.prog A := by
 intro R ds k r h
 unfold e_laws_eqIntSS at h
 obtain ⟨x0, d0, rfl, h0⟩ := dL_some h
 obtain ⟨x1, d1, rfl, h1⟩ := dL_some h0
 obtain ⟨rfl, hE⟩ := dE_some h1
 obtain ⟨y, hy, hk⟩ := bnd_some hE
 refine ⟨_, hk, fn_ok px (fx := ⟨Try.func46, by kernel_rfl, by kernel_rfl⟩) entsOK_nil (lentsOK_cons e_laws_eqIntSS_L4_ok lentsOK_nil) ?_⟩
 have hq := q_laws_eqIntSS x0 x1
 rw [c_laws_eqIntSS_bind] at hq
 rw [show c_laws_eqIntSS x0 x1 some = some y from hy] at hq
 exact hq

/-!-/
def c_laws_eqTable {R : Type} (x0 : List D) (x1 : List D) (k : Bool → Option R) : Option R :=
 (laws_eqIntSS x0 x1).bind (fun y0 =>
 bif !y0 then
 k Bool.false
 else
 k Bool.true)
theorem c_laws_eqTable_bind {R : Type} (x0 : List D) (x1 : List D) (k : Bool → Option R) : c_laws_eqTable x0 x1 k = (c_laws_eqTable x0 x1 some).bind k := by
 unfold c_laws_eqTable
 repeat' first|exact bnd_tail|exact bnd_none|exact bnd_leaf|apply bnd_ite|apply bnd_cond|apply bnd_sum|(apply bnd_bind;intro _)|intro _
def laws_eqTable (x0 : List D) (x1 : List D) : Option (Bool) := c_laws_eqTable x0 x1 some
def e_laws_eqTable : Ent := ⟨16, [.agg [.rd (.slice (.int .i64))], .agg [.rd (.slice (.int .i64))]], .bool, [.undef, .undef], fun _ ds k => dL (fun x0 ds => dL (fun x1 ds => dE ((laws_eqTable x0 x1).bind (fun y => k [.B y])) ds) ds) ds⟩
theorem q_laws_eqTable (x0 : List D) (x1 : List D) : runFn (ocOf [e_laws_eqIntSS]) (olOf []) A 16 Try.f16 (Sh.mks e_laws_eqTable.sh [.L x0, .L x1]).1 (fun v os => some (v, os)) = c_laws_eqTable x0 x1 (fun y => some ((e_laws_eqTable.res.mk [.B y]).1, (Sh.mks e_laws_eqTable.outs (e_laws_eqTable.res.mk [.B y]).2).1)) := by kernel_rfl
theorem e_laws_eqTable_ok : e_laws_eqTable.ok Try.prog A := by
 intro R ds k r h
 unfold e_laws_eqTable at h
 obtain ⟨x0, d0, rfl, h0⟩ := dL_some h
 obtain ⟨x1, d1, rfl, h1⟩ := dL_some h0
 obtain ⟨rfl, hE⟩ := dE_some h1
 obtain ⟨y, hy, hk⟩ := bnd_some hE
 refine ⟨_, hk, fn_ok px (fx := ⟨Try.func16, by kernel_rfl, by kernel_rfl⟩) (entsOK_cons e_laws_eqIntSS_ok entsOK_nil) lentsOK_nil ?_⟩
 have hq := q_laws_eqTable x0 x1
 rw [c_laws_eqTable_bind] at hq
 rw [show c_laws_eqTable x0 x1 some = some y from hy] at hq
 exact hq

/-!-/
def c_laws_markIntS_L2 {R : Type} (F : Int → Int → List D → Option (Int × List D)) (x0 : Int) (x1 : Int) (x2 : List D) (k : Int × List D → Option R) : Option R :=
 bif decide (x1 < (↑x2.length : Int)) then
 if 0 ≤ x1 ∧ x1 < (↑x2.length : Int) then
 if x1.toNat + 1 ≤ x2.length then
 (F (IntKind.i64.wrap (x0 + 1)) (IntKind.i64.wrap (x1 + 1)) (x2.set x1.toNat (D.int x0))).bind k
 else
 none
 else
 none
 else
 k (x0, x2)
theorem c_laws_markIntS_L2_bind {R : Type} (F : Int → Int → List D → Option (Int × List D)) (x0 : Int) (x1 : Int) (x2 : List D) (k : Int × List D → Option R) : c_laws_markIntS_L2 F x0 x1 x2 k = (c_laws_markIntS_L2 F x0 x1 x2 some).bind k := by
 unfold c_laws_markIntS_L2
 repeat' first|exact bnd_tail|exact bnd_none|exact bnd_leaf|apply bnd_ite|apply bnd_cond|apply bnd_sum|(apply bnd_bind;intro _)|intro _
def n_laws_markIntS_L2 : Nat → Int → Int → List D → Option (Int × List D)
 | 0, _, _, _ => none
 | n + 1, x0, x1, x2 => c_laws_markIntS_L2 (n_laws_markIntS_L2 n) x0 x1 x2 some
noncomputable def laws_markIntS_L2 (x0 : Int) (x1 : Int) (x2 : List D) : Option (Int × List D) := ev (fun n => n_laws_markIntS_L2 n x0 x1 x2)
def m_laws_markIntS_L2 (F : Int → Int → List D → Option (Int × List D)) : Lent := ⟨2, ⟨(.full 1000 [] (.int .i64) :: .int .i64 :: .undef :: .undef :: .undef :: .int .i64 :: uu 13 ([])), [(1000, .own (.int .i64))]⟩, [(.exit 0, ⟨(.full 1000 [] (.int .i64) :: .int .i64 :: uu 17 ([])), [(1000, .own (.int .i64))]⟩)], fun _ ds k => dI (fun x0 ds => dI (fun x1 ds => dL (fun x2 ds => dE ((F x0 x1 x2).bind (fun y => k 0 [.I y.1, .L y.2])) ds) ds) ds) ds⟩
theorem q_laws_markIntS_L2 (F : Int → Int → List D → Option (Int × List D)) (x0 : Int) (x1 : Int) (x2 : List D) : runLoop (ocOf []) (olOf [m_laws_markIntS_L2 F]) A 23 (codeAt (bodyOf Try.f23) 2) ((m_laws_markIntS_L2 F).sh.mk' [.I x0, .I x1, .L x2]) (fun e σ' => some (e, σ')) = c_laws_markIntS_L2 F x0 x1 x2 (fun y => some (.exit 0, SSt.mk' ⟨(.full 1000 [] (.int .i64) :: .int .i64 :: uu 17 ([])), [(1000, .own (.int .i64))]⟩ [.I y.1, .L y.2])) := by kernel_rfl
theorem m_laws_markIntS_L2_ok : ∀ n, (m_laws_markIntS_L2 (n_laws_markIntS_L2 n)).ok Try.prog (codeAt (bodyOf Try.f23) 2) := by
 intro n
 induction n with
 | zero =>
  intro R ds k r h
  unfold m_laws_markIntS_L2 at h
  obtain ⟨x0, d0, rfl, h0⟩ := dI_some h
  obtain ⟨x1, d1, rfl, h1⟩ := dI_some h0
  obtain ⟨x2, d2, rfl, h2⟩ := dL_some h1
  obtain ⟨rfl, hE⟩ := dE_some h2
  obtain ⟨y, hy, hk⟩ := bnd_some hE
  cases hy
 | succ n ih =>
  intro R ds k r h
  unfold m_laws_markIntS_L2 at h
  obtain ⟨x0, d0, rfl, h0⟩ := dI_some h
  obtain ⟨x1, d1, rfl, h1⟩ := dI_some h0
  obtain ⟨x2, d2, rfl, h2⟩ := dL_some h1
  obtain ⟨rfl, hE⟩ := dE_some h2
  obtain ⟨y, hy, hk⟩ := bnd_some hE
  have hq := q_laws_markIntS_L2 (n_laws_markIntS_L2 n) x0 x1 x2
  rw [c_laws_markIntS_L2_bind] at hq
  rw [show c_laws_markIntS_L2 (n_laws_markIntS_L2 n) x0 x1 x2 some = some y from hy] at hq
  refine ⟨0, _, _, _, hk, rfl, loop_ok px (fx := ⟨Try.func23, by kernel_rfl, by kernel_rfl⟩) entsOK_nil (lentsOK_cons ih lentsOK_nil) (by kernel_rfl) ?_⟩
  exact hq
noncomputable def e_laws_markIntS_L2 : Lent := m_laws_markIntS_L2 (laws_markIntS_L2)
theorem e_laws_markIntS_L2_ok : (e_laws_markIntS_L2).ok Try.prog (codeAt (bodyOf Try.f23) 2) := by
 intro R ds k r h
 unfold e_laws_markIntS_L2 m_laws_markIntS_L2 at h
 obtain ⟨x0, d0, rfl, h0⟩ := dI_some h
 obtain ⟨x1, d1, rfl, h1⟩ := dI_some h0
 obtain ⟨x2, d2, rfl, h2⟩ := dL_some h1
 obtain ⟨rfl, hE⟩ := dE_some h2
 obtain ⟨y, hy, hk⟩ := bnd_some hE
 obtain ⟨n, hn⟩ := ev_some hy
 exact m_laws_markIntS_L2_ok n R _ k r (show (n_laws_markIntS_L2 n x0 x1 x2).bind _ = _ by rw [hn]; exact hk)

/-!-/
def c_laws_markIntS {R : Type} (x0 : List D) (x1 : Int) (k : Int × List D → Option R) : Option R :=
 (laws_markIntS_L2 x1 (0 : Int) x0).bind (fun y0 =>
 k (y0.fst, y0.snd))
theorem c_laws_markIntS_bind {R : Type} (x0 : List D) (x1 : Int) (k : Int × List D → Option R) : c_laws_markIntS x0 x1 k = (c_laws_markIntS x0 x1 some).bind k := by
 unfold c_laws_markIntS
 repeat' first|exact bnd_tail|exact bnd_none|exact bnd_leaf|apply bnd_ite|apply bnd_cond|apply bnd_sum|(apply bnd_bind;intro _)|intro _
def laws_markIntS (x0 : List D) (x1 : Int) : Option (Int × List D) := c_laws_markIntS x0 x1 some
def e_laws_markIntS : Ent := ⟨23, [.own (.int .i64), .int .i64], .int .i64, [.own (.int .i64), .undef], fun _ ds k => dL (fun x0 ds => dI (fun x1 ds => dE ((laws_markIntS x0 x1).bind (fun y => k [.I y.1, .L y.2])) ds) ds) ds⟩
theorem q_laws_markIntS (x0 : List D) (x1 : Int) : runFn (ocOf []) (olOf [e_laws_markIntS_L2]) A 23 Try.f23 (Sh.mks e_laws_markIntS.sh [.L x0, .I x1]).1 (fun v os => some (v, os)) = c_laws_markIntS x0 x1 (fun y => some ((e_laws_markIntS.res.mk [.I y.1, .L y.2]).1, (Sh.mks e_laws_markIntS.outs (e_laws_markIntS.res.mk [.I y.1, .L y.2]).2).1)) := by kernel_rfl
theorem e_laws_markIntS_ok : e_laws_markIntS.ok Try.prog A := by
 intro R ds k r h
 unfold e_laws_markIntS at h
 obtain ⟨x0, d0, rfl, h0⟩ := dL_some h
 obtain ⟨x1, d1, rfl, h1⟩ := dI_some h0
 obtain ⟨rfl, hE⟩ := dE_some h1
 obtain ⟨y, hy, hk⟩ := bnd_some hE
 refine ⟨_, hk, fn_ok px (fx := ⟨Try.func23, by kernel_rfl, by kernel_rfl⟩) entsOK_nil (lentsOK_cons e_laws_markIntS_L2_ok lentsOK_nil) ?_⟩
 have hq := q_laws_markIntS x0 x1
 rw [c_laws_markIntS_bind] at hq
 rw [show c_laws_markIntS x0 x1 some = some y from hy] at hq
 exact hq

/-!-/
def c_laws_markIntSS_L2 {R : Type} (F : Int → Int → List D → Option (Int × List D)) (x0 : Int) (x1 : Int) (x2 : List D) (k : Int × List D → Option R) : Option R :=
 bif decide (x1 < (↑x2.length : Int)) then
 if 0 ≤ x1 ∧ x1 < (↑x2.length : Int) then
 if x1.toNat + 1 ≤ x2.length then
 if x1.toNat + 1 ≤ x2.length then
 (laws_markIntS ((x2.getD x1.toNat (D.int 0)).items) x0).bind (fun y0 =>
 (F y0.fst (IntKind.i64.wrap (x1 + 1)) (x2.set x1.toNat (D.node y0.snd))).bind k)
 else
 none
 else
 none
 else
 none
 else
 k (x0, x2)
theorem c_laws_markIntSS_L2_bind {R : Type} (F : Int → Int → List D → Option (Int × List D)) (x0 : Int) (x1 : Int) (x2 : List D) (k : Int × List D → Option R) : c_laws_markIntSS_L2 F x0 x1 x2 k = (c_laws_markIntSS_L2 F x0 x1 x2 some).bind k := by
 unfold c_laws_markIntSS_L2
 repeat' first|exact bnd_tail|exact bnd_none|exact bnd_leaf|apply bnd_ite|apply bnd_cond|apply bnd_sum|(apply bnd_bind;intro _)|intro _
def n_laws_markIntSS_L2 : Nat → Int → Int → List D → Option (Int × List D)
 | 0, _, _, _ => none
 | n + 1, x0, x1, x2 => c_laws_markIntSS_L2 (n_laws_markIntSS_L2 n) x0 x1 x2 some
noncomputable def laws_markIntSS_L2 (x0 : Int) (x1 : Int) (x2 : List D) : Option (Int × List D) := ev (fun n => n_laws_markIntSS_L2 n x0 x1 x2)
def m_laws_markIntSS_L2 (F : Int → Int → List D → Option (Int × List D)) : Lent := ⟨2, ⟨(.full 1000 [] (.slice (.int .i64)) :: .int .i64 :: .undef :: .undef :: .undef :: .int .i64 :: uu 13 ([])), [(1000, .own (.slice (.int .i64)))]⟩, [(.exit 0, ⟨(.full 1000 [] (.slice (.int .i64)) :: .int .i64 :: uu 17 ([])), [(1000, .own (.slice (.int .i64)))]⟩)], fun _ ds k => dI (fun x0 ds => dI (fun x1 ds => dL (fun x2 ds => dE ((F x0 x1 x2).bind (fun y => k 0 [.I y.1, .L y.2])) ds) ds) ds) ds⟩
theorem q_laws_markIntSS_L2 (F : Int → Int → List D → Option (Int × List D)) (x0 : Int) (x1 : Int) (x2 : List D) : runLoop (ocOf [e_laws_markIntS]) (olOf [m_laws_markIntSS_L2 F]) A 51 (codeAt (bodyOf Try.f51) 2) ((m_laws_markIntSS_L2 F).sh.mk' [.I x0, .I x1, .L x2]) (fun e σ' => some (e, σ')) = c_laws_markIntSS_L2 F x0 x1 x2 (fun y => some (.exit 0, SSt.mk' ⟨(.full 1000 [] (.slice (.int .i64)) :: .int .i64 :: uu 17 ([])), [(1000, .own (.slice (.int .i64)))]⟩ [.I y.1, .L y.2])) := by kernel_rfl
theorem m_laws_markIntSS_L2_ok : ∀ n, (m_laws_markIntSS_L2 (n_laws_markIntSS_L2 n)).ok Try.prog (codeAt (bodyOf Try.f51) 2) := by
 intro n
 induction n with
 | zero =>
  intro R ds k r h
  unfold m_laws_markIntSS_L2 at h
  obtain ⟨x0, d0, rfl, h0⟩ := dI_some h
  obtain ⟨x1, d1, rfl, h1⟩ := dI_some h0
  obtain ⟨x2, d2, rfl, h2⟩ := dL_some h1
  obtain ⟨rfl, hE⟩ := dE_some h2
  obtain ⟨y, hy, hk⟩ := bnd_some hE
  cases hy
 | succ n ih =>
  intro R ds k r h
  unfold m_laws_markIntSS_L2 at h
  obtain ⟨x0, d0, rfl, h0⟩ := dI_some h
  obtain ⟨x1, d1, rfl, h1⟩ := dI_some h0
  obtain ⟨x2, d2, rfl, h2⟩ := dL_some h1
  obtain ⟨rfl, hE⟩ := dE_some h2
  obtain ⟨y, hy, hk⟩ := bnd_some hE
  have hq := q_laws_markIntSS_L2 (n_laws_markIntSS_L2 n) x0 x1 x2
  rw [c_laws_markIntSS_L2_bind] at hq
  rw [show c_laws_markIntSS_L2 (n_laws_markIntSS_L2 n) x0 x1 x2 some = some y from hy] at hq
  refine ⟨0, _, _, _, hk, rfl, loop_ok px (fx := ⟨Try.func51, by kernel_rfl, by kernel_rfl⟩) (entsOK_cons e_laws_markIntS_ok entsOK_nil) (lentsOK_cons ih lentsOK_nil) (by kernel_rfl) ?_⟩
  exact hq
noncomputable def e_laws_markIntSS_L2 : Lent := m_laws_markIntSS_L2 (laws_markIntSS_L2)
theorem e_laws_markIntSS_L2_ok : (e_laws_markIntSS_L2).ok Try.prog (codeAt (bodyOf Try.f51) 2) := by
 intro R ds k r h
 unfold e_laws_markIntSS_L2 m_laws_markIntSS_L2 at h
 obtain ⟨x0, d0, rfl, h0⟩ := dI_some h
 obtain ⟨x1, d1, rfl, h1⟩ := dI_some h0
 obtain ⟨x2, d2, rfl, h2⟩ := dL_some h1
 obtain ⟨rfl, hE⟩ := dE_some h2
 obtain ⟨y, hy, hk⟩ := bnd_some hE
 obtain ⟨n, hn⟩ := ev_some hy
 exact m_laws_markIntSS_L2_ok n R _ k r (show (n_laws_markIntSS_L2 n x0 x1 x2).bind _ = _ by rw [hn]; exact hk)

/-!-/
def c_laws_markIntSS {R : Type} (x0 : List D) (x1 : Int) (k : Int × List D → Option R) : Option R :=
 (laws_markIntSS_L2 x1 (0 : Int) x0).bind (fun y0 =>
 k (y0.fst, y0.snd))
theorem c_laws_markIntSS_bind {R : Type} (x0 : List D) (x1 : Int) (k : Int × List D → Option R) : c_laws_markIntSS x0 x1 k = (c_laws_markIntSS x0 x1 some).bind k := by
 unfold c_laws_markIntSS
 repeat' first|exact bnd_tail|exact bnd_none|exact bnd_leaf|apply bnd_ite|apply bnd_cond|apply bnd_sum|(apply bnd_bind;intro _)|intro _
def laws_markIntSS (x0 : List D) (x1 : Int) : Option (Int × List D) := c_laws_markIntSS x0 x1 some
def e_laws_markIntSS : Ent := ⟨51, [.own (.slice (.int .i64)), .int .i64], .int .i64, [.own (.slice (.int .i64)), .undef], fun _ ds k => dL (fun x0 ds => dI (fun x1 ds => dE ((laws_markIntSS x0 x1).bind (fun y => k [.I y.1, .L y.2])) ds) ds) ds⟩
theorem q_laws_markIntSS (x0 : List D) (x1 : Int) : runFn (ocOf []) (olOf [e_laws_markIntSS_L2]) A 51 Try.f51 (Sh.mks e_laws_markIntSS.sh [.L x0, .I x1]).1 (fun v os => some (v, os)) = c_laws_markIntSS x0 x1 (fun y => some ((e_laws_markIntSS.res.mk [.I y.1, .L y.2]).1, (Sh.mks e_laws_markIntSS.outs (e_laws_markIntSS.res.mk [.I y.1, .L y.2]).2).1)) := by kernel_rfl
theorem e_laws_markIntSS_ok : e_laws_markIntSS.ok Try.prog A := by
 intro R ds k r h
 unfold e_laws_markIntSS at h
 obtain ⟨x0, d0, rfl, h0⟩ := dL_some h
 obtain ⟨x1, d1, rfl, h1⟩ := dI_some h0
 obtain ⟨rfl, hE⟩ := dE_some h1
 obtain ⟨y, hy, hk⟩ := bnd_some hE
 refine ⟨_, hk, fn_ok px (fx := ⟨Try.func51, by kernel_rfl, by kernel_rfl⟩) entsOK_nil (lentsOK_cons e_laws_markIntSS_L2_ok lentsOK_nil) ?_⟩
 have hq := q_laws_markIntSS x0 x1
 rw [c_laws_markIntSS_bind] at hq
 rw [show c_laws_markIntSS x0 x1 some = some y from hy] at hq
 exact hq

/-!-/
def c_laws_markTable {R : Type} (x0 : List D) (x1 : Int) (k : Int × List D → Option R) : Option R :=
 (laws_markIntSS x0 x1).bind (fun y0 =>
 k (y0.fst, y0.snd))
theorem c_laws_markTable_bind {R : Type} (x0 : List D) (x1 : Int) (k : Int × List D → Option R) : c_laws_markTable x0 x1 k = (c_laws_markTable x0 x1 some).bind k := by
 unfold c_laws_markTable
 repeat' first|exact bnd_tail|exact bnd_none|exact bnd_leaf|apply bnd_ite|apply bnd_cond|apply bnd_sum|(apply bnd_bind;intro _)|intro _
def laws_markTable (x0 : List D) (x1 : Int) : Option (Int × List D) := c_laws_markTable x0 x1 some
def e_laws_markTable : Ent := ⟨22, [.agg [.own (.slice (.int .i64))], .int .i64], .int .i64, [.agg [.own (.slice (.int .i64))], .undef], fun _ ds k => dL (fun x0 ds => dI (fun x1 ds => dE ((laws_markTable x0 x1).bind (fun y => k [.I y.1, .L y.2])) ds) ds) ds⟩
theorem q_laws_markTable (x0 : List D) (x1 : Int) : runFn (ocOf [e_laws_markIntSS]) (olOf []) A 22 Try.f22 (Sh.mks e_laws_markTable.sh [.L x0, .I x1]).1 (fun v os => some (v, os)) = c_laws_markTable x0 x1 (fun y => some ((e_laws_markTable.res.mk [.I y.1, .L y.2]).1, (Sh.mks e_laws_markTable.outs (e_laws_markTable.res.mk [.I y.1, .L y.2]).2).1)) := by kernel_rfl
theorem e_laws_markTable_ok : e_laws_markTable.ok Try.prog A := by
 intro R ds k r h
 unfold e_laws_markTable at h
 obtain ⟨x0, d0, rfl, h0⟩ := dL_some h
 obtain ⟨x1, d1, rfl, h1⟩ := dI_some h0
 obtain ⟨rfl, hE⟩ := dE_some h1
 obtain ⟨y, hy, hk⟩ := bnd_some hE
 refine ⟨_, hk, fn_ok px (fx := ⟨Try.func22, by kernel_rfl, by kernel_rfl⟩) (entsOK_cons e_laws_markIntSS_ok entsOK_nil) lentsOK_nil ?_⟩
 have hq := q_laws_markTable x0 x1
 rw [c_laws_markTable_bind] at hq
 rw [show c_laws_markTable x0 x1 some = some y from hy] at hq
 exact hq

/-!-/
def c_laws_heldIntS_L2 {R : Type} (F : List D → Int → Int → Option ((Int × Int) ⊕ (Int))) (x0 : List D) (x1 : Int) (x2 : Int) (k : (Int × Int) ⊕ (Int) → Option R) : Option R :=
 bif decide (x2 < (↑x0.length : Int)) then
 if 0 ≤ x2 ∧ x2 < (↑x0.length : Int) then
 bif !decide ((x0.getD x2.toNat (D.int 0)).toInt = x1) then
 k (.inl (x1, (-1 : Int)))
 else
 (F x0 (IntKind.i64.wrap (x1 + 1)) (IntKind.i64.wrap (x2 + 1))).bind k
 else
 none
 else
 k (.inr x1)
theorem c_laws_heldIntS_L2_bind {R : Type} (F : List D → Int → Int → Option ((Int × Int) ⊕ (Int))) (x0 : List D) (x1 : Int) (x2 : Int) (k : (Int × Int) ⊕ (Int) → Option R) : c_laws_heldIntS_L2 F x0 x1 x2 k = (c_laws_heldIntS_L2 F x0 x1 x2 some).bind k := by
 unfold c_laws_heldIntS_L2
 repeat' first|exact bnd_tail|exact bnd_none|exact bnd_leaf|apply bnd_ite|apply bnd_cond|apply bnd_sum|(apply bnd_bind;intro _)|intro _
def n_laws_heldIntS_L2 : Nat → List D → Int → Int → Option ((Int × Int) ⊕ (Int))
 | 0, _, _, _ => none
 | n + 1, x0, x1, x2 => c_laws_heldIntS_L2 (n_laws_heldIntS_L2 n) x0 x1 x2 some
noncomputable def laws_heldIntS_L2 (x0 : List D) (x1 : Int) (x2 : Int) : Option ((Int × Int) ⊕ (Int)) := ev (fun n => n_laws_heldIntS_L2 n x0 x1 x2)
def m_laws_heldIntS_L2 (F : List D → Int → Int → Option ((Int × Int) ⊕ (Int))) : Lent := ⟨2, ⟨(.rd (.int .i64) :: .int .i64 :: .undef :: .undef :: .undef :: .int .i64 :: uu 15 ([])), []⟩, [(.ret, ⟨(.undef :: .int .i64 :: .undef :: .undef :: .int .i64 :: uu 16 ([])), []⟩), (.exit 0, ⟨(.undef :: .int .i64 :: uu 19 ([])), []⟩)], fun _ ds k => dL (fun x0 ds => dI (fun x1 ds => dI (fun x2 ds => dE ((F x0 x1 x2).bind (Sum.elim (fun y => k 0 [.I y.1, .I y.2]) (fun y => k 1 [.I y]))) ds) ds) ds) ds⟩
theorem q_laws_heldIntS_L2 (F : List D → Int → Int → Option ((Int × Int) ⊕ (Int))) (x0 : List D) (x1 : Int) (x2 : Int) : runLoop (ocOf []) (olOf [m_laws_heldIntS_L2 F]) A 24 (codeAt (bodyOf Try.f24) 2) ((m_laws_heldIntS_L2 F).sh.mk' [.L x0, .I x1, .I x2]) (fun e σ' => some (e, σ')) = c_laws_heldIntS_L2 F x0 x1 x2 (Sum.elim (fun y => some (.ret, SSt.mk' ⟨(.undef :: .int .i64 :: .undef :: .undef :: .int .i64 :: uu 16 ([])), []⟩ [.I y.1, .I y.2])) (fun y => some (.exit 0, SSt.mk' ⟨(.undef :: .int .i64 :: uu 19 ([])), []⟩ [.I y]))) := by kernel_rfl
theorem m_laws_heldIntS_L2_ok : ∀ n, (m_laws_heldIntS_L2 (n_laws_heldIntS_L2 n)).ok Try.prog (codeAt (bodyOf Try.f24) 2) := by
 intro n
 induction n with
 | zero =>
  intro R ds k r h
  unfold m_laws_heldIntS_L2 at h
  obtain ⟨x0, d0, rfl, h0⟩ := dL_some h
  obtain ⟨x1, d1, rfl, h1⟩ := dI_some h0
  obtain ⟨x2, d2, rfl, h2⟩ := dI_some h1
  obtain ⟨rfl, hE⟩ := dE_some h2
  obtain ⟨y, hy, hk⟩ := bnd_some hE
  cases hy
 | succ n ih =>
  intro R ds k r h
  unfold m_laws_heldIntS_L2 at h
  obtain ⟨x0, d0, rfl, h0⟩ := dL_some h
  obtain ⟨x1, d1, rfl, h1⟩ := dI_some h0
  obtain ⟨x2, d2, rfl, h2⟩ := dI_some h1
  obtain ⟨rfl, hE⟩ := dE_some h2
  obtain ⟨y, hy, hk⟩ := bnd_some hE
  have hq := q_laws_heldIntS_L2 (n_laws_heldIntS_L2 n) x0 x1 x2
  rw [c_laws_heldIntS_L2_bind] at hq
  rw [show c_laws_heldIntS_L2 (n_laws_heldIntS_L2 n) x0 x1 x2 some = some y from hy] at hq
  cases y with
  | inl y =>
   refine ⟨0, _, _, _, hk, rfl, loop_ok px (fx := ⟨Try.func24, by kernel_rfl, by kernel_rfl⟩) entsOK_nil (lentsOK_cons ih lentsOK_nil) (by kernel_rfl) ?_⟩
   exact hq
  | inr y =>
   refine ⟨1, _, _, _, hk, rfl, loop_ok px (fx := ⟨Try.func24, by kernel_rfl, by kernel_rfl⟩) entsOK_nil (lentsOK_cons ih lentsOK_nil) (by kernel_rfl) ?_⟩
   exact hq
noncomputable def e_laws_heldIntS_L2 : Lent := m_laws_heldIntS_L2 (laws_heldIntS_L2)
theorem e_laws_heldIntS_L2_ok : (e_laws_heldIntS_L2).ok Try.prog (codeAt (bodyOf Try.f24) 2) := by
 intro R ds k r h
 unfold e_laws_heldIntS_L2 m_laws_heldIntS_L2 at h
 obtain ⟨x0, d0, rfl, h0⟩ := dL_some h
 obtain ⟨x1, d1, rfl, h1⟩ := dI_some h0
 obtain ⟨x2, d2, rfl, h2⟩ := dI_some h1
 obtain ⟨rfl, hE⟩ := dE_some h2
 obtain ⟨y, hy, hk⟩ := bnd_some hE
 obtain ⟨n, hn⟩ := ev_some hy
 exact m_laws_heldIntS_L2_ok n R _ k r (show (n_laws_heldIntS_L2 n x0 x1 x2).bind _ = _ by rw [hn]; exact hk)

/-!-/
def c_laws_heldIntS {R : Type} (x0 : List D) (x1 : Int) (k : Int → Option R) : Option R :=
 (laws_heldIntS_L2 x0 x1 (0 : Int)).bind (Sum.elim (fun y0 =>
 k y0.snd) (fun y1 =>
 k y1))
theorem c_laws_heldIntS_bind {R : Type} (x0 : List D) (x1 : Int) (k : Int → Option R) : c_laws_heldIntS x0 x1 k = (c_laws_heldIntS x0 x1 some).bind k := by
 unfold c_laws_heldIntS
 repeat' first|exact bnd_tail|exact bnd_none|exact bnd_leaf|apply bnd_ite|apply bnd_cond|apply bnd_sum|(apply bnd_bind;intro _)|intro _
def laws_heldIntS (x0 : List D) (x1 : Int) : Option (Int) := c_laws_heldIntS x0 x1 some
def e_laws_heldIntS : Ent := ⟨24, [.rd (.int .i64), .int .i64], .int .i64, [.undef, .undef], fun _ ds k => dL (fun x0 ds => dI (fun x1 ds => dE ((laws_heldIntS x0 x1).bind (fun y => k [.I y])) ds) ds) ds⟩
theorem q_laws_heldIntS (x0 : List D) (x1 : Int) : runFn (ocOf []) (olOf [e_laws_heldIntS_L2]) A 24 Try.f24 (Sh.mks e_laws_heldIntS.sh [.L x0, .I x1]).1 (fun v os => some (v, os)) = c_laws_heldIntS x0 x1 (fun y => some ((e_laws_heldIntS.res.mk [.I y]).1, (Sh.mks e_laws_heldIntS.outs (e_laws_heldIntS.res.mk [.I y]).2).1)) := by kernel_rfl
theorem e_laws_heldIntS_ok : e_laws_heldIntS.ok Try.prog A := by
 intro R ds k r h
 unfold e_laws_heldIntS at h
 obtain ⟨x0, d0, rfl, h0⟩ := dL_some h
 obtain ⟨x1, d1, rfl, h1⟩ := dI_some h0
 obtain ⟨rfl, hE⟩ := dE_some h1
 obtain ⟨y, hy, hk⟩ := bnd_some hE
 refine ⟨_, hk, fn_ok px (fx := ⟨Try.func24, by kernel_rfl, by kernel_rfl⟩) entsOK_nil (lentsOK_cons e_laws_heldIntS_L2_ok lentsOK_nil) ?_⟩
 have hq := q_laws_heldIntS x0 x1
 rw [c_laws_heldIntS_bind] at hq
 rw [show c_laws_heldIntS x0 x1 some = some y from hy] at hq
 exact hq

/-!-/
def c_laws_FnExactReverseOrder {R : Type} (x0 : List D) (x1 : List D) (k : Bool → Option R) : Option R :=
 bif decide ((1048576 : Int) < (↑x1.length : Int)) then
 k Bool.true
 else
 (laws_szTable x0 (1048576 : Int)).bind (fun y0 =>
 bif decide (y0 < (0 : Int)) then
 k Bool.true
 else
 (laws_toTable x0).bind (fun y1 =>
 (laws_toIntS x1).bind (fun y2 =>
 (spec_ReverseOrder y1 y2).bind (fun y3 =>
 (laws_toTable x0).bind (fun y4 =>
 (laws_toIntS x1).bind (fun y5 =>
 (impl_ReverseOrder y4 y5).bind (fun y6 =>
 (laws_eqIntS y6.fst y3.fst).bind (fun y7 =>
 bif !y7 then
 k Bool.false
 else
 bif !y6.snd == y3.snd then
 k Bool.false
 else
 (laws_toTable x0).bind (fun y8 =>
 (laws_eqTable y4 y8).bind (fun y9 =>
 bif !y9 then
 k Bool.false
 else
 (laws_toIntS x1).bind (fun y10 =>
 (laws_eqIntS y5 y10).bind (fun y11 =>
 bif !y11 then
 k Bool.false
 else
 if (0 : Nat) ≤ (0 : Nat) then
 if (0 : Nat) ≤ (0 : Nat) then
 if (0 : Nat) ≤ (0 : Nat) then
 if (0 : Nat) ≤ (0 : Nat) then
 (laws_markTable y4 (1 : Int)).bind (fun y12 =>
 (laws_markIntS y5 y12.fst).bind (fun y13 =>
 bif decide (y13.fst < (0 : Int)) then
 k Bool.false
 else
 (laws_eqIntS y6.fst y3.fst).bind (fun y14 =>
 bif !y14 then
 k Bool.false
 else
 bif !y6.snd == y3.snd then
 k Bool.false
 else
 (laws_markIntS y6.fst (1 : Int)).bind (fun y15 =>
 (laws_heldIntS y15.snd (1 : Int)).bind (fun y16 =>
 bif decide (y16 < (0 : Int)) then
 k Bool.false
 else
 bif !decide (y16 = y15.fst) then
 k Bool.false
 else
 (laws_toTable x0).bind (fun y17 =>
 (laws_toIntS x1).bind (fun y18 =>
 (impl_ReverseOrder y17 y18).bind (fun y19 =>
 (laws_eqIntS y19.fst y3.fst).bind (fun y20 =>
 bif !y20 then
 k Bool.false
 else
 bif !y19.snd == y3.snd then
 k Bool.false
 else
 (laws_heldIntS y15.snd (1 : Int)).bind (fun y21 =>
 bif decide (y21 < (0 : Int)) then
 k Bool.false
 else
 bif !decide (y21 = y15.fst) then
 k Bool.false
 else
 k Bool.true))))))))))
 else
 none
 else
 none
 else
 none
 else
 none))))))))))))
theorem c_laws_FnExactReverseOrder_bind {R : Type} (x0 : List D) (x1 : List D) (k : Bool → Option R) : c_laws_FnExactReverseOrder x0 x1 k = (c_laws_FnExactReverseOrder x0 x1 some).bind k := by
 unfold c_laws_FnExactReverseOrder
 repeat' first|exact bnd_tail|exact bnd_none|exact bnd_leaf|apply bnd_ite|apply bnd_cond|apply bnd_sum|(apply bnd_bind;intro _)|intro _
def laws_FnExactReverseOrder (x0 : List D) (x1 : List D) : Option (Bool) := c_laws_FnExactReverseOrder x0 x1 some
def e_laws_FnExactReverseOrder : Ent := ⟨8, [.agg [.rd (.slice (.int .i64))], .rd (.int .i64)], .bool, [.undef, .undef], fun _ ds k => dL (fun x0 ds => dL (fun x1 ds => dE ((laws_FnExactReverseOrder x0 x1).bind (fun y => k [.B y])) ds) ds) ds⟩
theorem q_laws_FnExactReverseOrder (x0 : List D) (x1 : List D) : runFn (ocOf [e_laws_szTable, e_laws_toTable, e_laws_toIntS, e_spec_ReverseOrder, e_impl_ReverseOrder, e_laws_eqIntS, e_laws_eqTable, e_laws_markTable, e_laws_markIntS, e_laws_heldIntS]) (olOf []) A 8 Try.f8 (Sh.mks e_laws_FnExactReverseOrder.sh [.L x0, .L x1]).1 (fun v os => some (v, os)) = c_laws_FnExactReverseOrder x0 x1 (fun y => some ((e_laws_FnExactReverseOrder.res.mk [.B y]).1, (Sh.mks e_laws_FnExactReverseOrder.outs (e_laws_FnExactReverseOrder.res.mk [.B y]).2).1)) := by kernel_rfl
theorem e_laws_FnExactReverseOrder_ok : e_laws_FnExactReverseOrder.ok Try.prog A := by
 intro R ds k r h
 unfold e_laws_FnExactReverseOrder at h
 obtain ⟨x0, d0, rfl, h0⟩ := dL_some h
 obtain ⟨x1, d1, rfl, h1⟩ := dL_some h0
 obtain ⟨rfl, hE⟩ := dE_some h1
 obtain ⟨y, hy, hk⟩ := bnd_some hE
 refine ⟨_, hk, fn_ok px (fx := ⟨Try.func8, by kernel_rfl, by kernel_rfl⟩) (entsOK_cons e_laws_szTable_ok (entsOK_cons e_laws_toTable_ok (entsOK_cons e_laws_toIntS_ok (entsOK_cons e_spec_ReverseOrder_ok (entsOK_cons e_impl_ReverseOrder_ok (entsOK_cons e_laws_eqIntS_ok (entsOK_cons e_laws_eqTable_ok (entsOK_cons e_laws_markTable_ok (entsOK_cons e_laws_markIntS_ok (entsOK_cons e_laws_heldIntS_ok entsOK_nil)))))))))) lentsOK_nil ?_⟩
 have hq := q_laws_FnExactReverseOrder x0 x1
 rw [c_laws_FnExactReverseOrder_bind] at hq
 rw [show c_laws_FnExactReverseOrder x0 x1 some = some y from hy] at hq
 exact hq
end
end Go.Proofs.Ytinhphmajfiepaa
