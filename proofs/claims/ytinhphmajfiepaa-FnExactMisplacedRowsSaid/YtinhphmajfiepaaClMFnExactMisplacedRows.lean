/- Models of Go functions and their contracts, printed by a program of this session. -/
import Derived.Test.YtinhphmajfiepaaClMFnExactMisplacedRowsx0
set_option linter.unusedVariables false
set_option maxRecDepth 100000
namespace Go.Proofs.Ytinhphmajfiepaa
open Go Go.Rai
noncomputable section
/-!-/
def c_Z71 {R : Type} (x0 : List D) (x1 : Int) (x2 : Int) (x3 : Int) (k : Int × Bool × List D → Option R) : Option R :=
 if 0 ≤ x3 ∧ x3 < (↑x0.length : Int) then
 if x3.toNat + 1 ≤ x0.length then
 if 0 ≤ x1 ∧ x1 < (↑x0.length : Int) then
 if x1.toNat + 1 ≤ x0.length then
 if 0 ≤ x1 ∧ x1 < (↑x0.length : Int) then
 if x1.toNat + 1 ≤ x0.length then
 if 0 ≤ x3 ∧ x3 < (↑(x0.set x1.toNat (D.int (x0.getD x3.toNat (D.int 0)).toInt)).length : Int) then
 if x3.toNat + 1 ≤ (x0.set x1.toNat (D.int (x0.getD x3.toNat (D.int 0)).toInt)).length then
 (Z66 x1 (IntKind.i64.wrap (x1 + 1)) (IntKind.i64.wrap (x2 - 1)) ((x0.set x1.toNat (D.int (x0.getD x3.toNat (D.int 0)).toInt)).set x3.toNat (D.int (x0.getD x1.toNat (D.int 0)).toInt))).bind (fun y0 =>
 (Z67 y0.fst y0.snd.fst y0.snd.snd.fst y0.snd.snd.snd).bind (fun y1 =>
 bif decide (y1.snd.snd.fst < y1.snd.fst) then
 if 0 ≤ y1.fst ∧ y1.fst < (↑y1.snd.snd.snd.length : Int) then
 if y1.fst.toNat + 1 ≤ y1.snd.snd.snd.length then
 if 0 ≤ y1.snd.snd.fst ∧ y1.snd.snd.fst < (↑y1.snd.snd.snd.length : Int) then
 if y1.snd.snd.fst.toNat + 1 ≤ y1.snd.snd.snd.length then
 if 0 ≤ y1.snd.snd.fst ∧ y1.snd.snd.fst < (↑y1.snd.snd.snd.length : Int) then
 if y1.snd.snd.fst.toNat + 1 ≤ y1.snd.snd.snd.length then
 if 0 ≤ y1.fst ∧ y1.fst < (↑(y1.snd.snd.snd.set y1.snd.snd.fst.toNat (D.int (y1.snd.snd.snd.getD y1.fst.toNat (D.int 0)).toInt)).length : Int) then
 if y1.fst.toNat + 1 ≤ (y1.snd.snd.snd.set y1.snd.snd.fst.toNat (D.int (y1.snd.snd.snd.getD y1.fst.toNat (D.int 0)).toInt)).length then
 k (y1.snd.snd.fst, Bool.true, (y1.snd.snd.snd.set y1.snd.snd.fst.toNat (D.int (y1.snd.snd.snd.getD y1.fst.toNat (D.int 0)).toInt)).set y1.fst.toNat (D.int (y1.snd.snd.snd.getD y1.snd.snd.fst.toNat (D.int 0)).toInt))
 else
 none
 else
 none
 else
 none
 else
 none
 else
 none
 else
 none
 else
 none
 else
 none
 else
 if 0 ≤ y1.snd.snd.fst ∧ y1.snd.snd.fst < (↑y1.snd.snd.snd.length : Int) then
 if y1.snd.snd.fst.toNat + 1 ≤ y1.snd.snd.snd.length then
 if 0 ≤ y1.snd.fst ∧ y1.snd.fst < (↑y1.snd.snd.snd.length : Int) then
 if y1.snd.fst.toNat + 1 ≤ y1.snd.snd.snd.length then
 if 0 ≤ y1.snd.fst ∧ y1.snd.fst < (↑y1.snd.snd.snd.length : Int) then
 if y1.snd.fst.toNat + 1 ≤ y1.snd.snd.snd.length then
 if 0 ≤ y1.snd.snd.fst ∧ y1.snd.snd.fst < (↑(y1.snd.snd.snd.set y1.snd.fst.toNat (D.int (y1.snd.snd.snd.getD y1.snd.snd.fst.toNat (D.int 0)).toInt)).length : Int) then
 if y1.snd.snd.fst.toNat + 1 ≤ (y1.snd.snd.snd.set y1.snd.fst.toNat (D.int (y1.snd.snd.snd.getD y1.snd.snd.fst.toNat (D.int 0)).toInt)).length then
 (Z70 y1.fst (IntKind.i64.wrap (y1.snd.fst + 1)) (IntKind.i64.wrap (y1.snd.snd.fst - 1)) ((y1.snd.snd.snd.set y1.snd.fst.toNat (D.int (y1.snd.snd.snd.getD y1.snd.snd.fst.toNat (D.int 0)).toInt)).set y1.snd.snd.fst.toNat (D.int (y1.snd.snd.snd.getD y1.snd.fst.toNat (D.int 0)).toInt))).bind (fun y2 =>
 if 0 ≤ y2.fst ∧ y2.fst < (↑y2.snd.snd.length : Int) then
 if y2.fst.toNat + 1 ≤ y2.snd.snd.length then
 if 0 ≤ y2.snd.fst ∧ y2.snd.fst < (↑y2.snd.snd.length : Int) then
 if y2.snd.fst.toNat + 1 ≤ y2.snd.snd.length then
 if 0 ≤ y2.snd.fst ∧ y2.snd.fst < (↑y2.snd.snd.length : Int) then
 if y2.snd.fst.toNat + 1 ≤ y2.snd.snd.length then
 if 0 ≤ y2.fst ∧ y2.fst < (↑(y2.snd.snd.set y2.snd.fst.toNat (D.int (y2.snd.snd.getD y2.fst.toNat (D.int 0)).toInt)).length : Int) then
 if y2.fst.toNat + 1 ≤ (y2.snd.snd.set y2.snd.fst.toNat (D.int (y2.snd.snd.getD y2.fst.toNat (D.int 0)).toInt)).length then
 k (y2.snd.fst, Bool.false, (y2.snd.snd.set y2.snd.fst.toNat (D.int (y2.snd.snd.getD y2.fst.toNat (D.int 0)).toInt)).set y2.fst.toNat (D.int (y2.snd.snd.getD y2.snd.fst.toNat (D.int 0)).toInt))
 else
 none
 else
 none
 else
 none
 else
 none
 else
 none
 else
 none
 else
 none
 else
 none)
 else
 none
 else
 none
 else
 none
 else
 none
 else
 none
 else
 none
 else
 none
 else
 none))
 else
 none
 else
 none
 else
 none
 else
 none
 else
 none
 else
 none
 else
 none
 else
 none
theorem c_Z71_bind {R : Type} (x0 : List D) (x1 : Int) (x2 : Int) (x3 : Int) (k : Int × Bool × List D → Option R) : c_Z71 x0 x1 x2 x3 k = (c_Z71 x0 x1 x2 x3 some).bind k := by
 unfold c_Z71
 repeat' first|exact bnd_tail|exact bnd_none|exact bnd_leaf|apply bnd_ite|apply bnd_cond|apply bnd_sum|(apply bnd_bind;intro _)|intro _
def Z71 (x0 : List D) (x1 : Int) (x2 : Int) (x3 : Int) : Option (Int × Bool × List D) := c_Z71 x0 x1 x2 x3 some
def e_Z71 : Ent := ⟨89, [.own (.int .i64), .int .i64, .int .i64, .int .i64], .tup [.int .i64, .bool], [.own (.int .i64), .undef, .undef, .undef], fun _ ds k => dL (fun x0 ds => dI (fun x1 ds => dI (fun x2 ds => dI (fun x3 ds => dE ((Z71 x0 x1 x2 x3).bind (fun y => k [.I y.1, .B y.2.1, .L y.2.2])) ds) ds) ds) ds) ds⟩
theorem q_Z71 (x0 : List D) (x1 : Int) (x2 : Int) (x3 : Int) : runFn (ocOf []) (olOf [e_Z66, e_Z67, e_Z70]) A 89 Try.f89 (Sh.mks e_Z71.sh [.L x0, .I x1, .I x2, .I x3]).1 (fun v os => some (v, os)) = c_Z71 x0 x1 x2 x3 (fun y => some ((e_Z71.res.mk [.I y.1, .B y.2.1, .L y.2.2]).1, (Sh.mks e_Z71.outs (e_Z71.res.mk [.I y.1, .B y.2.1, .L y.2.2]).2).1)) := by kernel_rfl
theorem e_Z71_ok : e_Z71.ok Try.prog A := by
 intro R ds k r h
 unfold e_Z71 at h
 obtain ⟨x0, d0, rfl, h0⟩ := dL_some h
 obtain ⟨x1, d1, rfl, h1⟩ := dI_some h0
 obtain ⟨x2, d2, rfl, h2⟩ := dI_some h1
 obtain ⟨x3, d3, rfl, h3⟩ := dI_some h2
 obtain ⟨rfl, hE⟩ := dE_some h3
 obtain ⟨y, hy, hk⟩ := bnd_some hE
 refine ⟨_, hk, fn_ok px (fx := ⟨Try.func89, by kernel_rfl, by kernel_rfl⟩) entsOK_nil (lentsOK_cons e_Z66_ok (lentsOK_cons e_Z67_ok (lentsOK_cons e_Z70_ok lentsOK_nil))) ?_⟩
 have hq := q_Z71 x0 x1 x2 x3
 rw [c_Z71_bind] at hq
 rw [show c_Z71 x0 x1 x2 x3 some = some y from hy] at hq
 exact hq

def m_Z73 (F : List D → Int → Int → Int → Option (List D)) : Ent := ⟨76, [.own (.int .i64), .int .i64, .int .i64, .int .i64], .tup [], [.own (.int .i64), .undef, .undef, .undef], fun _ ds k => dL (fun x0 ds => dI (fun x1 ds => dI (fun x2 ds => dI (fun x3 ds => dE ((F x0 x1 x2 x3).bind (fun y => k [.L y])) ds) ds) ds) ds) ds⟩

/-!-/
def c_Z72 {R : Type} (G_slices_pdqsortOrdered : List D → Int → Int → Int → Option (List D)) (F : Int → Int → Int → Bool → Bool → List D → Option (List D)) (x0 : Int) (x1 : Int) (x2 : Int) (x3 : Bool) (x4 : Bool) (x5 : List D) (k : List D → Option R) : Option R :=
 bif decide (IntKind.i64.wrap (x1 - x0) ≤ (12 : Int)) then
 (Z41 x5 x0 x1).bind (fun y0 =>
 k y0)
 else
 bif decide (x2 = (0 : Int)) then
 (Z46 x5 x0 x1).bind (fun y1 =>
 k y1)
 else
 bif !x3 then
 (Z50 x5 x0 x1).bind (fun y2 =>
 (Z54 y2 x0 x1).bind (fun y3 =>
 bif decide (y3.snd = (2 : Int)) then
 (Z56 y2 x0 x1).bind (fun y4 =>
 bif x3 then
 bif x4 then
 bif decide ((1 : Int) = (1 : Int)) then
 (Z61 y4 x0 x1).bind (fun y5 =>
 bif y5.fst then
 k y5.snd
 else
 bif decide ((0 : Int) < x0) then
 if (0 : Int) ≤ IntKind.i64.wrap (x0 - 1) ∧ IntKind.i64.wrap (x0 - 1) < (↑y5.snd.length : Int) then
 if (IntKind.i64.wrap (x0 - 1)).toNat + 1 ≤ y5.snd.length then
 if (0 : Int) ≤ IntKind.i64.wrap (IntKind.i64.wrap (x1 - 1) - IntKind.i64.wrap (y3.fst - x0)) ∧ IntKind.i64.wrap (IntKind.i64.wrap (x1 - 1) - IntKind.i64.wrap (y3.fst - x0)) < (↑y5.snd.length : Int) then
 if (IntKind.i64.wrap (IntKind.i64.wrap (x1 - 1) - IntKind.i64.wrap (y3.fst - x0))).toNat + 1 ≤ y5.snd.length then
 (Z38 ((y5.snd.getD (IntKind.i64.wrap (x0 - 1)).toNat (D.int 0)).toInt) ((y5.snd.getD (IntKind.i64.wrap (IntKind.i64.wrap (x1 - 1) - IntKind.i64.wrap (y3.fst - x0))).toNat (D.int 0)).toInt)).bind (fun y6 =>
 bif !y6 then
 (Z65 y5.snd x0 x1 (IntKind.i64.wrap (IntKind.i64.wrap (x1 - 1) - IntKind.i64.wrap (y3.fst - x0)))).bind (fun y7 =>
 (F y7.fst x1 (IntKind.i64.wrap (x2 - 1)) x3 x4 y7.snd).bind k)
 else
 (Z71 y5.snd x0 x1 (IntKind.i64.wrap (IntKind.i64.wrap (x1 - 1) - IntKind.i64.wrap (y3.fst - x0)))).bind (fun y8 =>
 if (8 : Int) ≠ (0 : Int) then
 bif decide (IntKind.i64.wrap (y8.fst - x0) < IntKind.i64.wrap (x1 - y8.fst)) then
 (G_slices_pdqsortOrdered y8.snd.snd x0 y8.fst (IntKind.i64.wrap (x2 - 1))).bind (fun y9 =>
 (F (IntKind.i64.wrap (y8.fst + 1)) x1 (IntKind.i64.wrap (x2 - 1)) (decide (IntKind.i64.wrap ((IntKind.i64.wrap (x1 - x0)).tdiv (8 : Int)) ≤ IntKind.i64.wrap (y8.fst - x0))) y8.snd.fst y9).bind k)
 else
 (G_slices_pdqsortOrdered y8.snd.snd (IntKind.i64.wrap (y8.fst + 1)) x1 (IntKind.i64.wrap (x2 - 1))).bind (fun y10 =>
 (F x0 y8.fst (IntKind.i64.wrap (x2 - 1)) (decide (IntKind.i64.wrap ((IntKind.i64.wrap (x1 - x0)).tdiv (8 : Int)) ≤ IntKind.i64.wrap (x1 - y8.fst))) y8.snd.fst y10).bind k)
 else
 none))
 else
 none
 else
 none
 else
 none
 else
 none
 else
 (Z71 y5.snd x0 x1 (IntKind.i64.wrap (IntKind.i64.wrap (x1 - 1) - IntKind.i64.wrap (y3.fst - x0)))).bind (fun y11 =>
 if (8 : Int) ≠ (0 : Int) then
 bif decide (IntKind.i64.wrap (y11.fst - x0) < IntKind.i64.wrap (x1 - y11.fst)) then
 (G_slices_pdqsortOrdered y11.snd.snd x0 y11.fst (IntKind.i64.wrap (x2 - 1))).bind (fun y12 =>
 (F (IntKind.i64.wrap (y11.fst + 1)) x1 (IntKind.i64.wrap (x2 - 1)) (decide (IntKind.i64.wrap ((IntKind.i64.wrap (x1 - x0)).tdiv (8 : Int)) ≤ IntKind.i64.wrap (y11.fst - x0))) y11.snd.fst y12).bind k)
 else
 (G_slices_pdqsortOrdered y11.snd.snd (IntKind.i64.wrap (y11.fst + 1)) x1 (IntKind.i64.wrap (x2 - 1))).bind (fun y13 =>
 (F x0 y11.fst (IntKind.i64.wrap (x2 - 1)) (decide (IntKind.i64.wrap ((IntKind.i64.wrap (x1 - x0)).tdiv (8 : Int)) ≤ IntKind.i64.wrap (x1 - y11.fst))) y11.snd.fst y13).bind k)
 else
 none))
 else
 bif decide ((0 : Int) < x0) then
 if (0 : Int) ≤ IntKind.i64.wrap (x0 - 1) ∧ IntKind.i64.wrap (x0 - 1) < (↑y4.length : Int) then
 if (IntKind.i64.wrap (x0 - 1)).toNat + 1 ≤ y4.length then
 if (0 : Int) ≤ IntKind.i64.wrap (IntKind.i64.wrap (x1 - 1) - IntKind.i64.wrap (y3.fst - x0)) ∧ IntKind.i64.wrap (IntKind.i64.wrap (x1 - 1) - IntKind.i64.wrap (y3.fst - x0)) < (↑y4.length : Int) then
 if (IntKind.i64.wrap (IntKind.i64.wrap (x1 - 1) - IntKind.i64.wrap (y3.fst - x0))).toNat + 1 ≤ y4.length then
 (Z38 ((y4.getD (IntKind.i64.wrap (x0 - 1)).toNat (D.int 0)).toInt) ((y4.getD (IntKind.i64.wrap (IntKind.i64.wrap (x1 - 1) - IntKind.i64.wrap (y3.fst - x0))).toNat (D.int 0)).toInt)).bind (fun y14 =>
 bif !y14 then
 (Z65 y4 x0 x1 (IntKind.i64.wrap (IntKind.i64.wrap (x1 - 1) - IntKind.i64.wrap (y3.fst - x0)))).bind (fun y15 =>
 (F y15.fst x1 (IntKind.i64.wrap (x2 - 1)) x3 x4 y15.snd).bind k)
 else
 (Z71 y4 x0 x1 (IntKind.i64.wrap (IntKind.i64.wrap (x1 - 1) - IntKind.i64.wrap (y3.fst - x0)))).bind (fun y16 =>
 if (8 : Int) ≠ (0 : Int) then
 bif decide (IntKind.i64.wrap (y16.fst - x0) < IntKind.i64.wrap (x1 - y16.fst)) then
 (G_slices_pdqsortOrdered y16.snd.snd x0 y16.fst (IntKind.i64.wrap (x2 - 1))).bind (fun y17 =>
 (F (IntKind.i64.wrap (y16.fst + 1)) x1 (IntKind.i64.wrap (x2 - 1)) (decide (IntKind.i64.wrap ((IntKind.i64.wrap (x1 - x0)).tdiv (8 : Int)) ≤ IntKind.i64.wrap (y16.fst - x0))) y16.snd.fst y17).bind k)
 else
 (G_slices_pdqsortOrdered y16.snd.snd (IntKind.i64.wrap (y16.fst + 1)) x1 (IntKind.i64.wrap (x2 - 1))).bind (fun y18 =>
 (F x0 y16.fst (IntKind.i64.wrap (x2 - 1)) (decide (IntKind.i64.wrap ((IntKind.i64.wrap (x1 - x0)).tdiv (8 : Int)) ≤ IntKind.i64.wrap (x1 - y16.fst))) y16.snd.fst y18).bind k)
 else
 none))
 else
 none
 else
 none
 else
 none
 else
 none
 else
 (Z71 y4 x0 x1 (IntKind.i64.wrap (IntKind.i64.wrap (x1 - 1) - IntKind.i64.wrap (y3.fst - x0)))).bind (fun y19 =>
 if (8 : Int) ≠ (0 : Int) then
 bif decide (IntKind.i64.wrap (y19.fst - x0) < IntKind.i64.wrap (x1 - y19.fst)) then
 (G_slices_pdqsortOrdered y19.snd.snd x0 y19.fst (IntKind.i64.wrap (x2 - 1))).bind (fun y20 =>
 (F (IntKind.i64.wrap (y19.fst + 1)) x1 (IntKind.i64.wrap (x2 - 1)) (decide (IntKind.i64.wrap ((IntKind.i64.wrap (x1 - x0)).tdiv (8 : Int)) ≤ IntKind.i64.wrap (y19.fst - x0))) y19.snd.fst y20).bind k)
 else
 (G_slices_pdqsortOrdered y19.snd.snd (IntKind.i64.wrap (y19.fst + 1)) x1 (IntKind.i64.wrap (x2 - 1))).bind (fun y21 =>
 (F x0 y19.fst (IntKind.i64.wrap (x2 - 1)) (decide (IntKind.i64.wrap ((IntKind.i64.wrap (x1 - x0)).tdiv (8 : Int)) ≤ IntKind.i64.wrap (x1 - y19.fst))) y19.snd.fst y21).bind k)
 else
 none)
 else
 bif decide ((0 : Int) < x0) then
 if (0 : Int) ≤ IntKind.i64.wrap (x0 - 1) ∧ IntKind.i64.wrap (x0 - 1) < (↑y4.length : Int) then
 if (IntKind.i64.wrap (x0 - 1)).toNat + 1 ≤ y4.length then
 if (0 : Int) ≤ IntKind.i64.wrap (IntKind.i64.wrap (x1 - 1) - IntKind.i64.wrap (y3.fst - x0)) ∧ IntKind.i64.wrap (IntKind.i64.wrap (x1 - 1) - IntKind.i64.wrap (y3.fst - x0)) < (↑y4.length : Int) then
 if (IntKind.i64.wrap (IntKind.i64.wrap (x1 - 1) - IntKind.i64.wrap (y3.fst - x0))).toNat + 1 ≤ y4.length then
 (Z38 ((y4.getD (IntKind.i64.wrap (x0 - 1)).toNat (D.int 0)).toInt) ((y4.getD (IntKind.i64.wrap (IntKind.i64.wrap (x1 - 1) - IntKind.i64.wrap (y3.fst - x0))).toNat (D.int 0)).toInt)).bind (fun y22 =>
 bif !y22 then
 (Z65 y4 x0 x1 (IntKind.i64.wrap (IntKind.i64.wrap (x1 - 1) - IntKind.i64.wrap (y3.fst - x0)))).bind (fun y23 =>
 (F y23.fst x1 (IntKind.i64.wrap (x2 - 1)) x3 x4 y23.snd).bind k)
 else
 (Z71 y4 x0 x1 (IntKind.i64.wrap (IntKind.i64.wrap (x1 - 1) - IntKind.i64.wrap (y3.fst - x0)))).bind (fun y24 =>
 if (8 : Int) ≠ (0 : Int) then
 bif decide (IntKind.i64.wrap (y24.fst - x0) < IntKind.i64.wrap (x1 - y24.fst)) then
 (G_slices_pdqsortOrdered y24.snd.snd x0 y24.fst (IntKind.i64.wrap (x2 - 1))).bind (fun y25 =>
 (F (IntKind.i64.wrap (y24.fst + 1)) x1 (IntKind.i64.wrap (x2 - 1)) (decide (IntKind.i64.wrap ((IntKind.i64.wrap (x1 - x0)).tdiv (8 : Int)) ≤ IntKind.i64.wrap (y24.fst - x0))) y24.snd.fst y25).bind k)
 else
 (G_slices_pdqsortOrdered y24.snd.snd (IntKind.i64.wrap (y24.fst + 1)) x1 (IntKind.i64.wrap (x2 - 1))).bind (fun y26 =>
 (F x0 y24.fst (IntKind.i64.wrap (x2 - 1)) (decide (IntKind.i64.wrap ((IntKind.i64.wrap (x1 - x0)).tdiv (8 : Int)) ≤ IntKind.i64.wrap (x1 - y24.fst))) y24.snd.fst y26).bind k)
 else
 none))
 else
 none
 else
 none
 else
 none
 else
 none
 else
 (Z71 y4 x0 x1 (IntKind.i64.wrap (IntKind.i64.wrap (x1 - 1) - IntKind.i64.wrap (y3.fst - x0)))).bind (fun y27 =>
 if (8 : Int) ≠ (0 : Int) then
 bif decide (IntKind.i64.wrap (y27.fst - x0) < IntKind.i64.wrap (x1 - y27.fst)) then
 (G_slices_pdqsortOrdered y27.snd.snd x0 y27.fst (IntKind.i64.wrap (x2 - 1))).bind (fun y28 =>
 (F (IntKind.i64.wrap (y27.fst + 1)) x1 (IntKind.i64.wrap (x2 - 1)) (decide (IntKind.i64.wrap ((IntKind.i64.wrap (x1 - x0)).tdiv (8 : Int)) ≤ IntKind.i64.wrap (y27.fst - x0))) y27.snd.fst y28).bind k)
 else
 (G_slices_pdqsortOrdered y27.snd.snd (IntKind.i64.wrap (y27.fst + 1)) x1 (IntKind.i64.wrap (x2 - 1))).bind (fun y29 =>
 (F x0 y27.fst (IntKind.i64.wrap (x2 - 1)) (decide (IntKind.i64.wrap ((IntKind.i64.wrap (x1 - x0)).tdiv (8 : Int)) ≤ IntKind.i64.wrap (x1 - y27.fst))) y27.snd.fst y29).bind k)
 else
 none)
 else
 bif decide ((0 : Int) < x0) then
 if (0 : Int) ≤ IntKind.i64.wrap (x0 - 1) ∧ IntKind.i64.wrap (x0 - 1) < (↑y4.length : Int) then
 if (IntKind.i64.wrap (x0 - 1)).toNat + 1 ≤ y4.length then
 if (0 : Int) ≤ IntKind.i64.wrap (IntKind.i64.wrap (x1 - 1) - IntKind.i64.wrap (y3.fst - x0)) ∧ IntKind.i64.wrap (IntKind.i64.wrap (x1 - 1) - IntKind.i64.wrap (y3.fst - x0)) < (↑y4.length : Int) then
 if (IntKind.i64.wrap (IntKind.i64.wrap (x1 - 1) - IntKind.i64.wrap (y3.fst - x0))).toNat + 1 ≤ y4.length then
 (Z38 ((y4.getD (IntKind.i64.wrap (x0 - 1)).toNat (D.int 0)).toInt) ((y4.getD (IntKind.i64.wrap (IntKind.i64.wrap (x1 - 1) - IntKind.i64.wrap (y3.fst - x0))).toNat (D.int 0)).toInt)).bind (fun y30 =>
 bif !y30 then
 (Z65 y4 x0 x1 (IntKind.i64.wrap (IntKind.i64.wrap (x1 - 1) - IntKind.i64.wrap (y3.fst - x0)))).bind (fun y31 =>
 (F y31.fst x1 (IntKind.i64.wrap (x2 - 1)) x3 x4 y31.snd).bind k)
 else
 (Z71 y4 x0 x1 (IntKind.i64.wrap (IntKind.i64.wrap (x1 - 1) - IntKind.i64.wrap (y3.fst - x0)))).bind (fun y32 =>
 if (8 : Int) ≠ (0 : Int) then
 bif decide (IntKind.i64.wrap (y32.fst - x0) < IntKind.i64.wrap (x1 - y32.fst)) then
 (G_slices_pdqsortOrdered y32.snd.snd x0 y32.fst (IntKind.i64.wrap (x2 - 1))).bind (fun y33 =>
 (F (IntKind.i64.wrap (y32.fst + 1)) x1 (IntKind.i64.wrap (x2 - 1)) (decide (IntKind.i64.wrap ((IntKind.i64.wrap (x1 - x0)).tdiv (8 : Int)) ≤ IntKind.i64.wrap (y32.fst - x0))) y32.snd.fst y33).bind k)
 else
 (G_slices_pdqsortOrdered y32.snd.snd (IntKind.i64.wrap (y32.fst + 1)) x1 (IntKind.i64.wrap (x2 - 1))).bind (fun y34 =>
 (F x0 y32.fst (IntKind.i64.wrap (x2 - 1)) (decide (IntKind.i64.wrap ((IntKind.i64.wrap (x1 - x0)).tdiv (8 : Int)) ≤ IntKind.i64.wrap (x1 - y32.fst))) y32.snd.fst y34).bind k)
 else
 none))
 else
 none
 else
 none
 else
 none
 else
 none
 else
 (Z71 y4 x0 x1 (IntKind.i64.wrap (IntKind.i64.wrap (x1 - 1) - IntKind.i64.wrap (y3.fst - x0)))).bind (fun y35 =>
 if (8 : Int) ≠ (0 : Int) then
 bif decide (IntKind.i64.wrap (y35.fst - x0) < IntKind.i64.wrap (x1 - y35.fst)) then
 (G_slices_pdqsortOrdered y35.snd.snd x0 y35.fst (IntKind.i64.wrap (x2 - 1))).bind (fun y36 =>
 (F (IntKind.i64.wrap (y35.fst + 1)) x1 (IntKind.i64.wrap (x2 - 1)) (decide (IntKind.i64.wrap ((IntKind.i64.wrap (x1 - x0)).tdiv (8 : Int)) ≤ IntKind.i64.wrap (y35.fst - x0))) y35.snd.fst y36).bind k)
 else
 (G_slices_pdqsortOrdered y35.snd.snd (IntKind.i64.wrap (y35.fst + 1)) x1 (IntKind.i64.wrap (x2 - 1))).bind (fun y37 =>
 (F x0 y35.fst (IntKind.i64.wrap (x2 - 1)) (decide (IntKind.i64.wrap ((IntKind.i64.wrap (x1 - x0)).tdiv (8 : Int)) ≤ IntKind.i64.wrap (x1 - y35.fst))) y35.snd.fst y37).bind k)
 else
 none))
 else
 bif x3 then
 bif x4 then
 bif decide (y3.snd = (1 : Int)) then
 (Z61 y2 x0 x1).bind (fun y38 =>
 bif y38.fst then
 k y38.snd
 else
 bif decide ((0 : Int) < x0) then
 if (0 : Int) ≤ IntKind.i64.wrap (x0 - 1) ∧ IntKind.i64.wrap (x0 - 1) < (↑y38.snd.length : Int) then
 if (IntKind.i64.wrap (x0 - 1)).toNat + 1 ≤ y38.snd.length then
 if 0 ≤ y3.fst ∧ y3.fst < (↑y38.snd.length : Int) then
 if y3.fst.toNat + 1 ≤ y38.snd.length then
 (Z38 ((y38.snd.getD (IntKind.i64.wrap (x0 - 1)).toNat (D.int 0)).toInt) ((y38.snd.getD y3.fst.toNat (D.int 0)).toInt)).bind (fun y39 =>
 bif !y39 then
 (Z65 y38.snd x0 x1 y3.fst).bind (fun y40 =>
 (F y40.fst x1 (IntKind.i64.wrap (x2 - 1)) x3 x4 y40.snd).bind k)
 else
 (Z71 y38.snd x0 x1 y3.fst).bind (fun y41 =>
 if (8 : Int) ≠ (0 : Int) then
 bif decide (IntKind.i64.wrap (y41.fst - x0) < IntKind.i64.wrap (x1 - y41.fst)) then
 (G_slices_pdqsortOrdered y41.snd.snd x0 y41.fst (IntKind.i64.wrap (x2 - 1))).bind (fun y42 =>
 (F (IntKind.i64.wrap (y41.fst + 1)) x1 (IntKind.i64.wrap (x2 - 1)) (decide (IntKind.i64.wrap ((IntKind.i64.wrap (x1 - x0)).tdiv (8 : Int)) ≤ IntKind.i64.wrap (y41.fst - x0))) y41.snd.fst y42).bind k)
 else
 (G_slices_pdqsortOrdered y41.snd.snd (IntKind.i64.wrap (y41.fst + 1)) x1 (IntKind.i64.wrap (x2 - 1))).bind (fun y43 =>
 (F x0 y41.fst (IntKind.i64.wrap (x2 - 1)) (decide (IntKind.i64.wrap ((IntKind.i64.wrap (x1 - x0)).tdiv (8 : Int)) ≤ IntKind.i64.wrap (x1 - y41.fst))) y41.snd.fst y43).bind k)
 else
 none))
 else
 none
 else
 none
 else
 none
 else
 none
 else
 (Z71 y38.snd x0 x1 y3.fst).bind (fun y44 =>
 if (8 : Int) ≠ (0 : Int) then
 bif decide (IntKind.i64.wrap (y44.fst - x0) < IntKind.i64.wrap (x1 - y44.fst)) then
 (G_slices_pdqsortOrdered y44.snd.snd x0 y44.fst (IntKind.i64.wrap (x2 - 1))).bind (fun y45 =>
 (F (IntKind.i64.wrap (y44.fst + 1)) x1 (IntKind.i64.wrap (x2 - 1)) (decide (IntKind.i64.wrap ((IntKind.i64.wrap (x1 - x0)).tdiv (8 : Int)) ≤ IntKind.i64.wrap (y44.fst - x0))) y44.snd.fst y45).bind k)
 else
 (G_slices_pdqsortOrdered y44.snd.snd (IntKind.i64.wrap (y44.fst + 1)) x1 (IntKind.i64.wrap (x2 - 1))).bind (fun y46 =>
 (F x0 y44.fst (IntKind.i64.wrap (x2 - 1)) (decide (IntKind.i64.wrap ((IntKind.i64.wrap (x1 - x0)).tdiv (8 : Int)) ≤ IntKind.i64.wrap (x1 - y44.fst))) y44.snd.fst y46).bind k)
 else
 none))
 else
 bif decide ((0 : Int) < x0) then
 if (0 : Int) ≤ IntKind.i64.wrap (x0 - 1) ∧ IntKind.i64.wrap (x0 - 1) < (↑y2.length : Int) then
 if (IntKind.i64.wrap (x0 - 1)).toNat + 1 ≤ y2.length then
 if 0 ≤ y3.fst ∧ y3.fst < (↑y2.length : Int) then
 if y3.fst.toNat + 1 ≤ y2.length then
 (Z38 ((y2.getD (IntKind.i64.wrap (x0 - 1)).toNat (D.int 0)).toInt) ((y2.getD y3.fst.toNat (D.int 0)).toInt)).bind (fun y47 =>
 bif !y47 then
 (Z65 y2 x0 x1 y3.fst).bind (fun y48 =>
 (F y48.fst x1 (IntKind.i64.wrap (x2 - 1)) x3 x4 y48.snd).bind k)
 else
 (Z71 y2 x0 x1 y3.fst).bind (fun y49 =>
 if (8 : Int) ≠ (0 : Int) then
 bif decide (IntKind.i64.wrap (y49.fst - x0) < IntKind.i64.wrap (x1 - y49.fst)) then
 (G_slices_pdqsortOrdered y49.snd.snd x0 y49.fst (IntKind.i64.wrap (x2 - 1))).bind (fun y50 =>
 (F (IntKind.i64.wrap (y49.fst + 1)) x1 (IntKind.i64.wrap (x2 - 1)) (decide (IntKind.i64.wrap ((IntKind.i64.wrap (x1 - x0)).tdiv (8 : Int)) ≤ IntKind.i64.wrap (y49.fst - x0))) y49.snd.fst y50).bind k)
 else
 (G_slices_pdqsortOrdered y49.snd.snd (IntKind.i64.wrap (y49.fst + 1)) x1 (IntKind.i64.wrap (x2 - 1))).bind (fun y51 =>
 (F x0 y49.fst (IntKind.i64.wrap (x2 - 1)) (decide (IntKind.i64.wrap ((IntKind.i64.wrap (x1 - x0)).tdiv (8 : Int)) ≤ IntKind.i64.wrap (x1 - y49.fst))) y49.snd.fst y51).bind k)
 else
 none))
 else
 none
 else
 none
 else
 none
 else
 none
 else
 (Z71 y2 x0 x1 y3.fst).bind (fun y52 =>
 if (8 : Int) ≠ (0 : Int) then
 bif decide (IntKind.i64.wrap (y52.fst - x0) < IntKind.i64.wrap (x1 - y52.fst)) then
 (G_slices_pdqsortOrdered y52.snd.snd x0 y52.fst (IntKind.i64.wrap (x2 - 1))).bind (fun y53 =>
 (F (IntKind.i64.wrap (y52.fst + 1)) x1 (IntKind.i64.wrap (x2 - 1)) (decide (IntKind.i64.wrap ((IntKind.i64.wrap (x1 - x0)).tdiv (8 : Int)) ≤ IntKind.i64.wrap (y52.fst - x0))) y52.snd.fst y53).bind k)
 else
 (G_slices_pdqsortOrdered y52.snd.snd (IntKind.i64.wrap (y52.fst + 1)) x1 (IntKind.i64.wrap (x2 - 1))).bind (fun y54 =>
 (F x0 y52.fst (IntKind.i64.wrap (x2 - 1)) (decide (IntKind.i64.wrap ((IntKind.i64.wrap (x1 - x0)).tdiv (8 : Int)) ≤ IntKind.i64.wrap (x1 - y52.fst))) y52.snd.fst y54).bind k)
 else
 none)
 else
 bif decide ((0 : Int) < x0) then
 if (0 : Int) ≤ IntKind.i64.wrap (x0 - 1) ∧ IntKind.i64.wrap (x0 - 1) < (↑y2.length : Int) then
 if (IntKind.i64.wrap (x0 - 1)).toNat + 1 ≤ y2.length then
 if 0 ≤ y3.fst ∧ y3.fst < (↑y2.length : Int) then
 if y3.fst.toNat + 1 ≤ y2.length then
 (Z38 ((y2.getD (IntKind.i64.wrap (x0 - 1)).toNat (D.int 0)).toInt) ((y2.getD y3.fst.toNat (D.int 0)).toInt)).bind (fun y55 =>
 bif !y55 then
 (Z65 y2 x0 x1 y3.fst).bind (fun y56 =>
 (F y56.fst x1 (IntKind.i64.wrap (x2 - 1)) x3 x4 y56.snd).bind k)
 else
 (Z71 y2 x0 x1 y3.fst).bind (fun y57 =>
 if (8 : Int) ≠ (0 : Int) then
 bif decide (IntKind.i64.wrap (y57.fst - x0) < IntKind.i64.wrap (x1 - y57.fst)) then
 (G_slices_pdqsortOrdered y57.snd.snd x0 y57.fst (IntKind.i64.wrap (x2 - 1))).bind (fun y58 =>
 (F (IntKind.i64.wrap (y57.fst + 1)) x1 (IntKind.i64.wrap (x2 - 1)) (decide (IntKind.i64.wrap ((IntKind.i64.wrap (x1 - x0)).tdiv (8 : Int)) ≤ IntKind.i64.wrap (y57.fst - x0))) y57.snd.fst y58).bind k)
 else
 (G_slices_pdqsortOrdered y57.snd.snd (IntKind.i64.wrap (y57.fst + 1)) x1 (IntKind.i64.wrap (x2 - 1))).bind (fun y59 =>
 (F x0 y57.fst (IntKind.i64.wrap (x2 - 1)) (decide (IntKind.i64.wrap ((IntKind.i64.wrap (x1 - x0)).tdiv (8 : Int)) ≤ IntKind.i64.wrap (x1 - y57.fst))) y57.snd.fst y59).bind k)
 else
 none))
 else
 none
 else
 none
 else
 none
 else
 none
 else
 (Z71 y2 x0 x1 y3.fst).bind (fun y60 =>
 if (8 : Int) ≠ (0 : Int) then
 bif decide (IntKind.i64.wrap (y60.fst - x0) < IntKind.i64.wrap (x1 - y60.fst)) then
 (G_slices_pdqsortOrdered y60.snd.snd x0 y60.fst (IntKind.i64.wrap (x2 - 1))).bind (fun y61 =>
 (F (IntKind.i64.wrap (y60.fst + 1)) x1 (IntKind.i64.wrap (x2 - 1)) (decide (IntKind.i64.wrap ((IntKind.i64.wrap (x1 - x0)).tdiv (8 : Int)) ≤ IntKind.i64.wrap (y60.fst - x0))) y60.snd.fst y61).bind k)
 else
 (G_slices_pdqsortOrdered y60.snd.snd (IntKind.i64.wrap (y60.fst + 1)) x1 (IntKind.i64.wrap (x2 - 1))).bind (fun y62 =>
 (F x0 y60.fst (IntKind.i64.wrap (x2 - 1)) (decide (IntKind.i64.wrap ((IntKind.i64.wrap (x1 - x0)).tdiv (8 : Int)) ≤ IntKind.i64.wrap (x1 - y60.fst))) y60.snd.fst y62).bind k)
 else
 none)
 else
 bif decide ((0 : Int) < x0) then
 if (0 : Int) ≤ IntKind.i64.wrap (x0 - 1) ∧ IntKind.i64.wrap (x0 - 1) < (↑y2.length : Int) then
 if (IntKind.i64.wrap (x0 - 1)).toNat + 1 ≤ y2.length then
 if 0 ≤ y3.fst ∧ y3.fst < (↑y2.length : Int) then
 if y3.fst.toNat + 1 ≤ y2.length then
 (Z38 ((y2.getD (IntKind.i64.wrap (x0 - 1)).toNat (D.int 0)).toInt) ((y2.getD y3.fst.toNat (D.int 0)).toInt)).bind (fun y63 =>
 bif !y63 then
 (Z65 y2 x0 x1 y3.fst).bind (fun y64 =>
 (F y64.fst x1 (IntKind.i64.wrap (x2 - 1)) x3 x4 y64.snd).bind k)
 else
 (Z71 y2 x0 x1 y3.fst).bind (fun y65 =>
 if (8 : Int) ≠ (0 : Int) then
 bif decide (IntKind.i64.wrap (y65.fst - x0) < IntKind.i64.wrap (x1 - y65.fst)) then
 (G_slices_pdqsortOrdered y65.snd.snd x0 y65.fst (IntKind.i64.wrap (x2 - 1))).bind (fun y66 =>
 (F (IntKind.i64.wrap (y65.fst + 1)) x1 (IntKind.i64.wrap (x2 - 1)) (decide (IntKind.i64.wrap ((IntKind.i64.wrap (x1 - x0)).tdiv (8 : Int)) ≤ IntKind.i64.wrap (y65.fst - x0))) y65.snd.fst y66).bind k)
 else
 (G_slices_pdqsortOrdered y65.snd.snd (IntKind.i64.wrap (y65.fst + 1)) x1 (IntKind.i64.wrap (x2 - 1))).bind (fun y67 =>
 (F x0 y65.fst (IntKind.i64.wrap (x2 - 1)) (decide (IntKind.i64.wrap ((IntKind.i64.wrap (x1 - x0)).tdiv (8 : Int)) ≤ IntKind.i64.wrap (x1 - y65.fst))) y65.snd.fst y67).bind k)
 else
 none))
 else
 none
 else
 none
 else
 none
 else
 none
 else
 (Z71 y2 x0 x1 y3.fst).bind (fun y68 =>
 if (8 : Int) ≠ (0 : Int) then
 bif decide (IntKind.i64.wrap (y68.fst - x0) < IntKind.i64.wrap (x1 - y68.fst)) then
 (G_slices_pdqsortOrdered y68.snd.snd x0 y68.fst (IntKind.i64.wrap (x2 - 1))).bind (fun y69 =>
 (F (IntKind.i64.wrap (y68.fst + 1)) x1 (IntKind.i64.wrap (x2 - 1)) (decide (IntKind.i64.wrap ((IntKind.i64.wrap (x1 - x0)).tdiv (8 : Int)) ≤ IntKind.i64.wrap (y68.fst - x0))) y68.snd.fst y69).bind k)
 else
 (G_slices_pdqsortOrdered y68.snd.snd (IntKind.i64.wrap (y68.fst + 1)) x1 (IntKind.i64.wrap (x2 - 1))).bind (fun y70 =>
 (F x0 y68.fst (IntKind.i64.wrap (x2 - 1)) (decide (IntKind.i64.wrap ((IntKind.i64.wrap (x1 - x0)).tdiv (8 : Int)) ≤ IntKind.i64.wrap (x1 - y68.fst))) y68.snd.fst y70).bind k)
 else
 none)))
 else
 (Z54 x5 x0 x1).bind (fun y71 =>
 bif decide (y71.snd = (2 : Int)) then
 (Z56 x5 x0 x1).bind (fun y72 =>
 bif x3 then
 bif x4 then
 bif decide ((1 : Int) = (1 : Int)) then
 (Z61 y72 x0 x1).bind (fun y73 =>
 bif y73.fst then
 k y73.snd
 else
 bif decide ((0 : Int) < x0) then
 if (0 : Int) ≤ IntKind.i64.wrap (x0 - 1) ∧ IntKind.i64.wrap (x0 - 1) < (↑y73.snd.length : Int) then
 if (IntKind.i64.wrap (x0 - 1)).toNat + 1 ≤ y73.snd.length then
 if (0 : Int) ≤ IntKind.i64.wrap (IntKind.i64.wrap (x1 - 1) - IntKind.i64.wrap (y71.fst - x0)) ∧ IntKind.i64.wrap (IntKind.i64.wrap (x1 - 1) - IntKind.i64.wrap (y71.fst - x0)) < (↑y73.snd.length : Int) then
 if (IntKind.i64.wrap (IntKind.i64.wrap (x1 - 1) - IntKind.i64.wrap (y71.fst - x0))).toNat + 1 ≤ y73.snd.length then
 (Z38 ((y73.snd.getD (IntKind.i64.wrap (x0 - 1)).toNat (D.int 0)).toInt) ((y73.snd.getD (IntKind.i64.wrap (IntKind.i64.wrap (x1 - 1) - IntKind.i64.wrap (y71.fst - x0))).toNat (D.int 0)).toInt)).bind (fun y74 =>
 bif !y74 then
 (Z65 y73.snd x0 x1 (IntKind.i64.wrap (IntKind.i64.wrap (x1 - 1) - IntKind.i64.wrap (y71.fst - x0)))).bind (fun y75 =>
 (F y75.fst x1 x2 x3 x4 y75.snd).bind k)
 else
 (Z71 y73.snd x0 x1 (IntKind.i64.wrap (IntKind.i64.wrap (x1 - 1) - IntKind.i64.wrap (y71.fst - x0)))).bind (fun y76 =>
 if (8 : Int) ≠ (0 : Int) then
 bif decide (IntKind.i64.wrap (y76.fst - x0) < IntKind.i64.wrap (x1 - y76.fst)) then
 (G_slices_pdqsortOrdered y76.snd.snd x0 y76.fst x2).bind (fun y77 =>
 (F (IntKind.i64.wrap (y76.fst + 1)) x1 x2 (decide (IntKind.i64.wrap ((IntKind.i64.wrap (x1 - x0)).tdiv (8 : Int)) ≤ IntKind.i64.wrap (y76.fst - x0))) y76.snd.fst y77).bind k)
 else
 (G_slices_pdqsortOrdered y76.snd.snd (IntKind.i64.wrap (y76.fst + 1)) x1 x2).bind (fun y78 =>
 (F x0 y76.fst x2 (decide (IntKind.i64.wrap ((IntKind.i64.wrap (x1 - x0)).tdiv (8 : Int)) ≤ IntKind.i64.wrap (x1 - y76.fst))) y76.snd.fst y78).bind k)
 else
 none))
 else
 none
 else
 none
 else
 none
 else
 none
 else
 (Z71 y73.snd x0 x1 (IntKind.i64.wrap (IntKind.i64.wrap (x1 - 1) - IntKind.i64.wrap (y71.fst - x0)))).bind (fun y79 =>
 if (8 : Int) ≠ (0 : Int) then
 bif decide (IntKind.i64.wrap (y79.fst - x0) < IntKind.i64.wrap (x1 - y79.fst)) then
 (G_slices_pdqsortOrdered y79.snd.snd x0 y79.fst x2).bind (fun y80 =>
 (F (IntKind.i64.wrap (y79.fst + 1)) x1 x2 (decide (IntKind.i64.wrap ((IntKind.i64.wrap (x1 - x0)).tdiv (8 : Int)) ≤ IntKind.i64.wrap (y79.fst - x0))) y79.snd.fst y80).bind k)
 else
 (G_slices_pdqsortOrdered y79.snd.snd (IntKind.i64.wrap (y79.fst + 1)) x1 x2).bind (fun y81 =>
 (F x0 y79.fst x2 (decide (IntKind.i64.wrap ((IntKind.i64.wrap (x1 - x0)).tdiv (8 : Int)) ≤ IntKind.i64.wrap (x1 - y79.fst))) y79.snd.fst y81).bind k)
 else
 none))
 else
 bif decide ((0 : Int) < x0) then
 if (0 : Int) ≤ IntKind.i64.wrap (x0 - 1) ∧ IntKind.i64.wrap (x0 - 1) < (↑y72.length : Int) then
 if (IntKind.i64.wrap (x0 - 1)).toNat + 1 ≤ y72.length then
 if (0 : Int) ≤ IntKind.i64.wrap (IntKind.i64.wrap (x1 - 1) - IntKind.i64.wrap (y71.fst - x0)) ∧ IntKind.i64.wrap (IntKind.i64.wrap (x1 - 1) - IntKind.i64.wrap (y71.fst - x0)) < (↑y72.length : Int) then
 if (IntKind.i64.wrap (IntKind.i64.wrap (x1 - 1) - IntKind.i64.wrap (y71.fst - x0))).toNat + 1 ≤ y72.length then
 (Z38 ((y72.getD (IntKind.i64.wrap (x0 - 1)).toNat (D.int 0)).toInt) ((y72.getD (IntKind.i64.wrap (IntKind.i64.wrap (x1 - 1) - IntKind.i64.wrap (y71.fst - x0))).toNat (D.int 0)).toInt)).bind (fun y82 =>
 bif !y82 then
 (Z65 y72 x0 x1 (IntKind.i64.wrap (IntKind.i64.wrap (x1 - 1) - IntKind.i64.wrap (y71.fst - x0)))).bind (fun y83 =>
 (F y83.fst x1 x2 x3 x4 y83.snd).bind k)
 else
 (Z71 y72 x0 x1 (IntKind.i64.wrap (IntKind.i64.wrap (x1 - 1) - IntKind.i64.wrap (y71.fst - x0)))).bind (fun y84 =>
 if (8 : Int) ≠ (0 : Int) then
 bif decide (IntKind.i64.wrap (y84.fst - x0) < IntKind.i64.wrap (x1 - y84.fst)) then
 (G_slices_pdqsortOrdered y84.snd.snd x0 y84.fst x2).bind (fun y85 =>
 (F (IntKind.i64.wrap (y84.fst + 1)) x1 x2 (decide (IntKind.i64.wrap ((IntKind.i64.wrap (x1 - x0)).tdiv (8 : Int)) ≤ IntKind.i64.wrap (y84.fst - x0))) y84.snd.fst y85).bind k)
 else
 (G_slices_pdqsortOrdered y84.snd.snd (IntKind.i64.wrap (y84.fst + 1)) x1 x2).bind (fun y86 =>
 (F x0 y84.fst x2 (decide (IntKind.i64.wrap ((IntKind.i64.wrap (x1 - x0)).tdiv (8 : Int)) ≤ IntKind.i64.wrap (x1 - y84.fst))) y84.snd.fst y86).bind k)
 else
 none))
 else
 none
 else
 none
 else
 none
 else
 none
 else
 (Z71 y72 x0 x1 (IntKind.i64.wrap (IntKind.i64.wrap (x1 - 1) - IntKind.i64.wrap (y71.fst - x0)))).bind (fun y87 =>
 if (8 : Int) ≠ (0 : Int) then
 bif decide (IntKind.i64.wrap (y87.fst - x0) < IntKind.i64.wrap (x1 - y87.fst)) then
 (G_slices_pdqsortOrdered y87.snd.snd x0 y87.fst x2).bind (fun y88 =>
 (F (IntKind.i64.wrap (y87.fst + 1)) x1 x2 (decide (IntKind.i64.wrap ((IntKind.i64.wrap (x1 - x0)).tdiv (8 : Int)) ≤ IntKind.i64.wrap (y87.fst - x0))) y87.snd.fst y88).bind k)
 else
 (G_slices_pdqsortOrdered y87.snd.snd (IntKind.i64.wrap (y87.fst + 1)) x1 x2).bind (fun y89 =>
 (F x0 y87.fst x2 (decide (IntKind.i64.wrap ((IntKind.i64.wrap (x1 - x0)).tdiv (8 : Int)) ≤ IntKind.i64.wrap (x1 - y87.fst))) y87.snd.fst y89).bind k)
 else
 none)
 else
 bif decide ((0 : Int) < x0) then
 if (0 : Int) ≤ IntKind.i64.wrap (x0 - 1) ∧ IntKind.i64.wrap (x0 - 1) < (↑y72.length : Int) then
 if (IntKind.i64.wrap (x0 - 1)).toNat + 1 ≤ y72.length then
 if (0 : Int) ≤ IntKind.i64.wrap (IntKind.i64.wrap (x1 - 1) - IntKind.i64.wrap (y71.fst - x0)) ∧ IntKind.i64.wrap (IntKind.i64.wrap (x1 - 1) - IntKind.i64.wrap (y71.fst - x0)) < (↑y72.length : Int) then
 if (IntKind.i64.wrap (IntKind.i64.wrap (x1 - 1) - IntKind.i64.wrap (y71.fst - x0))).toNat + 1 ≤ y72.length then
 (Z38 ((y72.getD (IntKind.i64.wrap (x0 - 1)).toNat (D.int 0)).toInt) ((y72.getD (IntKind.i64.wrap (IntKind.i64.wrap (x1 - 1) - IntKind.i64.wrap (y71.fst - x0))).toNat (D.int 0)).toInt)).bind (fun y90 =>
 bif !y90 then
 (Z65 y72 x0 x1 (IntKind.i64.wrap (IntKind.i64.wrap (x1 - 1) - IntKind.i64.wrap (y71.fst - x0)))).bind (fun y91 =>
 (F y91.fst x1 x2 x3 x4 y91.snd).bind k)
 else
 (Z71 y72 x0 x1 (IntKind.i64.wrap (IntKind.i64.wrap (x1 - 1) - IntKind.i64.wrap (y71.fst - x0)))).bind (fun y92 =>
 if (8 : Int) ≠ (0 : Int) then
 bif decide (IntKind.i64.wrap (y92.fst - x0) < IntKind.i64.wrap (x1 - y92.fst)) then
 (G_slices_pdqsortOrdered y92.snd.snd x0 y92.fst x2).bind (fun y93 =>
 (F (IntKind.i64.wrap (y92.fst + 1)) x1 x2 (decide (IntKind.i64.wrap ((IntKind.i64.wrap (x1 - x0)).tdiv (8 : Int)) ≤ IntKind.i64.wrap (y92.fst - x0))) y92.snd.fst y93).bind k)
 else
 (G_slices_pdqsortOrdered y92.snd.snd (IntKind.i64.wrap (y92.fst + 1)) x1 x2).bind (fun y94 =>
 (F x0 y92.fst x2 (decide (IntKind.i64.wrap ((IntKind.i64.wrap (x1 - x0)).tdiv (8 : Int)) ≤ IntKind.i64.wrap (x1 - y92.fst))) y92.snd.fst y94).bind k)
 else
 none))
 else
 none
 else
 none
 else
 none
 else
 none
 else
 (Z71 y72 x0 x1 (IntKind.i64.wrap (IntKind.i64.wrap (x1 - 1) - IntKind.i64.wrap (y71.fst - x0)))).bind (fun y95 =>
 if (8 : Int) ≠ (0 : Int) then
 bif decide (IntKind.i64.wrap (y95.fst - x0) < IntKind.i64.wrap (x1 - y95.fst)) then
 (G_slices_pdqsortOrdered y95.snd.snd x0 y95.fst x2).bind (fun y96 =>
 (F (IntKind.i64.wrap (y95.fst + 1)) x1 x2 (decide (IntKind.i64.wrap ((IntKind.i64.wrap (x1 - x0)).tdiv (8 : Int)) ≤ IntKind.i64.wrap (y95.fst - x0))) y95.snd.fst y96).bind k)
 else
 (G_slices_pdqsortOrdered y95.snd.snd (IntKind.i64.wrap (y95.fst + 1)) x1 x2).bind (fun y97 =>
 (F x0 y95.fst x2 (decide (IntKind.i64.wrap ((IntKind.i64.wrap (x1 - x0)).tdiv (8 : Int)) ≤ IntKind.i64.wrap (x1 - y95.fst))) y95.snd.fst y97).bind k)
 else
 none)
 else
 bif decide ((0 : Int) < x0) then
 if (0 : Int) ≤ IntKind.i64.wrap (x0 - 1) ∧ IntKind.i64.wrap (x0 - 1) < (↑y72.length : Int) then
 if (IntKind.i64.wrap (x0 - 1)).toNat + 1 ≤ y72.length then
 if (0 : Int) ≤ IntKind.i64.wrap (IntKind.i64.wrap (x1 - 1) - IntKind.i64.wrap (y71.fst - x0)) ∧ IntKind.i64.wrap (IntKind.i64.wrap (x1 - 1) - IntKind.i64.wrap (y71.fst - x0)) < (↑y72.length : Int) then
 if (IntKind.i64.wrap (IntKind.i64.wrap (x1 - 1) - IntKind.i64.wrap (y71.fst - x0))).toNat + 1 ≤ y72.length then
 (Z38 ((y72.getD (IntKind.i64.wrap (x0 - 1)).toNat (D.int 0)).toInt) ((y72.getD (IntKind.i64.wrap (IntKind.i64.wrap (x1 - 1) - IntKind.i64.wrap (y71.fst - x0))).toNat (D.int 0)).toInt)).bind (fun y98 =>
 bif !y98 then
 (Z65 y72 x0 x1 (IntKind.i64.wrap (IntKind.i64.wrap (x1 - 1) - IntKind.i64.wrap (y71.fst - x0)))).bind (fun y99 =>
 (F y99.fst x1 x2 x3 x4 y99.snd).bind k)
 else
 (Z71 y72 x0 x1 (IntKind.i64.wrap (IntKind.i64.wrap (x1 - 1) - IntKind.i64.wrap (y71.fst - x0)))).bind (fun y100 =>
 if (8 : Int) ≠ (0 : Int) then
 bif decide (IntKind.i64.wrap (y100.fst - x0) < IntKind.i64.wrap (x1 - y100.fst)) then
 (G_slices_pdqsortOrdered y100.snd.snd x0 y100.fst x2).bind (fun y101 =>
 (F (IntKind.i64.wrap (y100.fst + 1)) x1 x2 (decide (IntKind.i64.wrap ((IntKind.i64.wrap (x1 - x0)).tdiv (8 : Int)) ≤ IntKind.i64.wrap (y100.fst - x0))) y100.snd.fst y101).bind k)
 else
 (G_slices_pdqsortOrdered y100.snd.snd (IntKind.i64.wrap (y100.fst + 1)) x1 x2).bind (fun y102 =>
 (F x0 y100.fst x2 (decide (IntKind.i64.wrap ((IntKind.i64.wrap (x1 - x0)).tdiv (8 : Int)) ≤ IntKind.i64.wrap (x1 - y100.fst))) y100.snd.fst y102).bind k)
 else
 none))
 else
 none
 else
 none
 else
 none
 else
 none
 else
 (Z71 y72 x0 x1 (IntKind.i64.wrap (IntKind.i64.wrap (x1 - 1) - IntKind.i64.wrap (y71.fst - x0)))).bind (fun y103 =>
 if (8 : Int) ≠ (0 : Int) then
 bif decide (IntKind.i64.wrap (y103.fst - x0) < IntKind.i64.wrap (x1 - y103.fst)) then
 (G_slices_pdqsortOrdered y103.snd.snd x0 y103.fst x2).bind (fun y104 =>
 (F (IntKind.i64.wrap (y103.fst + 1)) x1 x2 (decide (IntKind.i64.wrap ((IntKind.i64.wrap (x1 - x0)).tdiv (8 : Int)) ≤ IntKind.i64.wrap (y103.fst - x0))) y103.snd.fst y104).bind k)
 else
 (G_slices_pdqsortOrdered y103.snd.snd (IntKind.i64.wrap (y103.fst + 1)) x1 x2).bind (fun y105 =>
 (F x0 y103.fst x2 (decide (IntKind.i64.wrap ((IntKind.i64.wrap (x1 - x0)).tdiv (8 : Int)) ≤ IntKind.i64.wrap (x1 - y103.fst))) y103.snd.fst y105).bind k)
 else
 none))
 else
 bif x3 then
 bif x4 then
 bif decide (y71.snd = (1 : Int)) then
 (Z61 x5 x0 x1).bind (fun y106 =>
 bif y106.fst then
 k y106.snd
 else
 bif decide ((0 : Int) < x0) then
 if (0 : Int) ≤ IntKind.i64.wrap (x0 - 1) ∧ IntKind.i64.wrap (x0 - 1) < (↑y106.snd.length : Int) then
 if (IntKind.i64.wrap (x0 - 1)).toNat + 1 ≤ y106.snd.length then
 if 0 ≤ y71.fst ∧ y71.fst < (↑y106.snd.length : Int) then
 if y71.fst.toNat + 1 ≤ y106.snd.length then
 (Z38 ((y106.snd.getD (IntKind.i64.wrap (x0 - 1)).toNat (D.int 0)).toInt) ((y106.snd.getD y71.fst.toNat (D.int 0)).toInt)).bind (fun y107 =>
 bif !y107 then
 (Z65 y106.snd x0 x1 y71.fst).bind (fun y108 =>
 (F y108.fst x1 x2 x3 x4 y108.snd).bind k)
 else
 (Z71 y106.snd x0 x1 y71.fst).bind (fun y109 =>
 if (8 : Int) ≠ (0 : Int) then
 bif decide (IntKind.i64.wrap (y109.fst - x0) < IntKind.i64.wrap (x1 - y109.fst)) then
 (G_slices_pdqsortOrdered y109.snd.snd x0 y109.fst x2).bind (fun y110 =>
 (F (IntKind.i64.wrap (y109.fst + 1)) x1 x2 (decide (IntKind.i64.wrap ((IntKind.i64.wrap (x1 - x0)).tdiv (8 : Int)) ≤ IntKind.i64.wrap (y109.fst - x0))) y109.snd.fst y110).bind k)
 else
 (G_slices_pdqsortOrdered y109.snd.snd (IntKind.i64.wrap (y109.fst + 1)) x1 x2).bind (fun y111 =>
 (F x0 y109.fst x2 (decide (IntKind.i64.wrap ((IntKind.i64.wrap (x1 - x0)).tdiv (8 : Int)) ≤ IntKind.i64.wrap (x1 - y109.fst))) y109.snd.fst y111).bind k)
 else
 none))
 else
 none
 else
 none
 else
 none
 else
 none
 else
 (Z71 y106.snd x0 x1 y71.fst).bind (fun y112 =>
 if (8 : Int) ≠ (0 : Int) then
 bif decide (IntKind.i64.wrap (y112.fst - x0) < IntKind.i64.wrap (x1 - y112.fst)) then
 (G_slices_pdqsortOrdered y112.snd.snd x0 y112.fst x2).bind (fun y113 =>
 (F (IntKind.i64.wrap (y112.fst + 1)) x1 x2 (decide (IntKind.i64.wrap ((IntKind.i64.wrap (x1 - x0)).tdiv (8 : Int)) ≤ IntKind.i64.wrap (y112.fst - x0))) y112.snd.fst y113).bind k)
 else
 (G_slices_pdqsortOrdered y112.snd.snd (IntKind.i64.wrap (y112.fst + 1)) x1 x2).bind (fun y114 =>
 (F x0 y112.fst x2 (decide (IntKind.i64.wrap ((IntKind.i64.wrap (x1 - x0)).tdiv (8 : Int)) ≤ IntKind.i64.wrap (x1 - y112.fst))) y112.snd.fst y114).bind k)
 else
 none))
 else
 bif decide ((0 : Int) < x0) then
 if (0 : Int) ≤ IntKind.i64.wrap (x0 - 1) ∧ IntKind.i64.wrap (x0 - 1) < (↑x5.length : Int) then
 if (IntKind.i64.wrap (x0 - 1)).toNat + 1 ≤ x5.length then
 if 0 ≤ y71.fst ∧ y71.fst < (↑x5.length : Int) then
 if y71.fst.toNat + 1 ≤ x5.length then
 (Z38 ((x5.getD (IntKind.i64.wrap (x0 - 1)).toNat (D.int 0)).toInt) ((x5.getD y71.fst.toNat (D.int 0)).toInt)).bind (fun y115 =>
 bif !y115 then
 (Z65 x5 x0 x1 y71.fst).bind (fun y116 =>
 (F y116.fst x1 x2 x3 x4 y116.snd).bind k)
 else
 (Z71 x5 x0 x1 y71.fst).bind (fun y117 =>
 if (8 : Int) ≠ (0 : Int) then
 bif decide (IntKind.i64.wrap (y117.fst - x0) < IntKind.i64.wrap (x1 - y117.fst)) then
 (G_slices_pdqsortOrdered y117.snd.snd x0 y117.fst x2).bind (fun y118 =>
 (F (IntKind.i64.wrap (y117.fst + 1)) x1 x2 (decide (IntKind.i64.wrap ((IntKind.i64.wrap (x1 - x0)).tdiv (8 : Int)) ≤ IntKind.i64.wrap (y117.fst - x0))) y117.snd.fst y118).bind k)
 else
 (G_slices_pdqsortOrdered y117.snd.snd (IntKind.i64.wrap (y117.fst + 1)) x1 x2).bind (fun y119 =>
 (F x0 y117.fst x2 (decide (IntKind.i64.wrap ((IntKind.i64.wrap (x1 - x0)).tdiv (8 : Int)) ≤ IntKind.i64.wrap (x1 - y117.fst))) y117.snd.fst y119).bind k)
 else
 none))
 else
 none
 else
 none
 else
 none
 else
 none
 else
 (Z71 x5 x0 x1 y71.fst).bind (fun y120 =>
 if (8 : Int) ≠ (0 : Int) then
 bif decide (IntKind.i64.wrap (y120.fst - x0) < IntKind.i64.wrap (x1 - y120.fst)) then
 (G_slices_pdqsortOrdered y120.snd.snd x0 y120.fst x2).bind (fun y121 =>
 (F (IntKind.i64.wrap (y120.fst + 1)) x1 x2 (decide (IntKind.i64.wrap ((IntKind.i64.wrap (x1 - x0)).tdiv (8 : Int)) ≤ IntKind.i64.wrap (y120.fst - x0))) y120.snd.fst y121).bind k)
 else
 (G_slices_pdqsortOrdered y120.snd.snd (IntKind.i64.wrap (y120.fst + 1)) x1 x2).bind (fun y122 =>
 (F x0 y120.fst x2 (decide (IntKind.i64.wrap ((IntKind.i64.wrap (x1 - x0)).tdiv (8 : Int)) ≤ IntKind.i64.wrap (x1 - y120.fst))) y120.snd.fst y122).bind k)
 else
 none)
 else
 bif decide ((0 : Int) < x0) then
 if (0 : Int) ≤ IntKind.i64.wrap (x0 - 1) ∧ IntKind.i64.wrap (x0 - 1) < (↑x5.length : Int) then
 if (IntKind.i64.wrap (x0 - 1)).toNat + 1 ≤ x5.length then
 if 0 ≤ y71.fst ∧ y71.fst < (↑x5.length : Int) then
 if y71.fst.toNat + 1 ≤ x5.length then
 (Z38 ((x5.getD (IntKind.i64.wrap (x0 - 1)).toNat (D.int 0)).toInt) ((x5.getD y71.fst.toNat (D.int 0)).toInt)).bind (fun y123 =>
 bif !y123 then
 (Z65 x5 x0 x1 y71.fst).bind (fun y124 =>
 (F y124.fst x1 x2 x3 x4 y124.snd).bind k)
 else
 (Z71 x5 x0 x1 y71.fst).bind (fun y125 =>
 if (8 : Int) ≠ (0 : Int) then
 bif decide (IntKind.i64.wrap (y125.fst - x0) < IntKind.i64.wrap (x1 - y125.fst)) then
 (G_slices_pdqsortOrdered y125.snd.snd x0 y125.fst x2).bind (fun y126 =>
 (F (IntKind.i64.wrap (y125.fst + 1)) x1 x2 (decide (IntKind.i64.wrap ((IntKind.i64.wrap (x1 - x0)).tdiv (8 : Int)) ≤ IntKind.i64.wrap (y125.fst - x0))) y125.snd.fst y126).bind k)
 else
 (G_slices_pdqsortOrdered y125.snd.snd (IntKind.i64.wrap (y125.fst + 1)) x1 x2).bind (fun y127 =>
 (F x0 y125.fst x2 (decide (IntKind.i64.wrap ((IntKind.i64.wrap (x1 - x0)).tdiv (8 : Int)) ≤ IntKind.i64.wrap (x1 - y125.fst))) y125.snd.fst y127).bind k)
 else
 none))
 else
 none
 else
 none
 else
 none
 else
 none
 else
 (Z71 x5 x0 x1 y71.fst).bind (fun y128 =>
 if (8 : Int) ≠ (0 : Int) then
 bif decide (IntKind.i64.wrap (y128.fst - x0) < IntKind.i64.wrap (x1 - y128.fst)) then
 (G_slices_pdqsortOrdered y128.snd.snd x0 y128.fst x2).bind (fun y129 =>
 (F (IntKind.i64.wrap (y128.fst + 1)) x1 x2 (decide (IntKind.i64.wrap ((IntKind.i64.wrap (x1 - x0)).tdiv (8 : Int)) ≤ IntKind.i64.wrap (y128.fst - x0))) y128.snd.fst y129).bind k)
 else
 (G_slices_pdqsortOrdered y128.snd.snd (IntKind.i64.wrap (y128.fst + 1)) x1 x2).bind (fun y130 =>
 (F x0 y128.fst x2 (decide (IntKind.i64.wrap ((IntKind.i64.wrap (x1 - x0)).tdiv (8 : Int)) ≤ IntKind.i64.wrap (x1 - y128.fst))) y128.snd.fst y130).bind k)
 else
 none)
 else
 bif decide ((0 : Int) < x0) then
 if (0 : Int) ≤ IntKind.i64.wrap (x0 - 1) ∧ IntKind.i64.wrap (x0 - 1) < (↑x5.length : Int) then
 if (IntKind.i64.wrap (x0 - 1)).toNat + 1 ≤ x5.length then
 if 0 ≤ y71.fst ∧ y71.fst < (↑x5.length : Int) then
 if y71.fst.toNat + 1 ≤ x5.length then
 (Z38 ((x5.getD (IntKind.i64.wrap (x0 - 1)).toNat (D.int 0)).toInt) ((x5.getD y71.fst.toNat (D.int 0)).toInt)).bind (fun y131 =>
 bif !y131 then
 (Z65 x5 x0 x1 y71.fst).bind (fun y132 =>
 (F y132.fst x1 x2 x3 x4 y132.snd).bind k)
 else
 (Z71 x5 x0 x1 y71.fst).bind (fun y133 =>
 if (8 : Int) ≠ (0 : Int) then
 bif decide (IntKind.i64.wrap (y133.fst - x0) < IntKind.i64.wrap (x1 - y133.fst)) then
 (G_slices_pdqsortOrdered y133.snd.snd x0 y133.fst x2).bind (fun y134 =>
 (F (IntKind.i64.wrap (y133.fst + 1)) x1 x2 (decide (IntKind.i64.wrap ((IntKind.i64.wrap (x1 - x0)).tdiv (8 : Int)) ≤ IntKind.i64.wrap (y133.fst - x0))) y133.snd.fst y134).bind k)
 else
 (G_slices_pdqsortOrdered y133.snd.snd (IntKind.i64.wrap (y133.fst + 1)) x1 x2).bind (fun y135 =>
 (F x0 y133.fst x2 (decide (IntKind.i64.wrap ((IntKind.i64.wrap (x1 - x0)).tdiv (8 : Int)) ≤ IntKind.i64.wrap (x1 - y133.fst))) y133.snd.fst y135).bind k)
 else
 none))
 else
 none
 else
 none
 else
 none
 else
 none
 else
 (Z71 x5 x0 x1 y71.fst).bind (fun y136 =>
 if (8 : Int) ≠ (0 : Int) then
 bif decide (IntKind.i64.wrap (y136.fst - x0) < IntKind.i64.wrap (x1 - y136.fst)) then
 (G_slices_pdqsortOrdered y136.snd.snd x0 y136.fst x2).bind (fun y137 =>
 (F (IntKind.i64.wrap (y136.fst + 1)) x1 x2 (decide (IntKind.i64.wrap ((IntKind.i64.wrap (x1 - x0)).tdiv (8 : Int)) ≤ IntKind.i64.wrap (y136.fst - x0))) y136.snd.fst y137).bind k)
 else
 (G_slices_pdqsortOrdered y136.snd.snd (IntKind.i64.wrap (y136.fst + 1)) x1 x2).bind (fun y138 =>
 (F x0 y136.fst x2 (decide (IntKind.i64.wrap ((IntKind.i64.wrap (x1 - x0)).tdiv (8 : Int)) ≤ IntKind.i64.wrap (x1 - y136.fst))) y136.snd.fst y138).bind k)
 else
 none))
theorem c_Z72_bind {R : Type} (G_slices_pdqsortOrdered : List D → Int → Int → Int → Option (List D)) (F : Int → Int → Int → Bool → Bool → List D → Option (List D)) (x0 : Int) (x1 : Int) (x2 : Int) (x3 : Bool) (x4 : Bool) (x5 : List D) (k : List D → Option R) : c_Z72 G_slices_pdqsortOrdered F x0 x1 x2 x3 x4 x5 k = (c_Z72 G_slices_pdqsortOrdered F x0 x1 x2 x3 x4 x5 some).bind k := by
 unfold c_Z72
 repeat' first|exact bnd_tail|exact bnd_none|exact bnd_leaf|apply bnd_ite|apply bnd_cond|apply bnd_sum|(apply bnd_bind;intro _)|intro _
def n_Z72 (G_slices_pdqsortOrdered : List D → Int → Int → Int → Option (List D)) : Nat → Int → Int → Int → Bool → Bool → List D → Option (List D)
 | 0, _, _, _, _, _, _ => none
 | n + 1, x0, x1, x2, x3, x4, x5 => c_Z72 G_slices_pdqsortOrdered (n_Z72 G_slices_pdqsortOrdered n) x0 x1 x2 x3 x4 x5 some
noncomputable def Z72 (G_slices_pdqsortOrdered : List D → Int → Int → Int → Option (List D)) (x0 : Int) (x1 : Int) (x2 : Int) (x3 : Bool) (x4 : Bool) (x5 : List D) : Option (List D) := ev (fun n => n_Z72 G_slices_pdqsortOrdered n x0 x1 x2 x3 x4 x5)
def m_Z72 (F : Int → Int → Int → Bool → Bool → List D → Option (List D)) : Lent := ⟨2, ⟨(.full 1000 [] (.int .i64) :: .int .i64 :: .int .i64 :: .int .i64 :: uu 4 (.bool :: .bool :: uu 124 ([]))), [(1000, .own (.int .i64))]⟩, [(.ret, ⟨(.full 1000 [] (.int .i64) :: uu 133 ([])), [(1000, .own (.int .i64))]⟩)], fun _ ds k => dI (fun x0 ds => dI (fun x1 ds => dI (fun x2 ds => dB (fun x3 ds => dB (fun x4 ds => dL (fun x5 ds => dE ((F x0 x1 x2 x3 x4 x5).bind (fun y => k 0 [.L y])) ds) ds) ds) ds) ds) ds) ds⟩
theorem q_Z72 (G_slices_pdqsortOrdered : List D → Int → Int → Int → Option (List D)) (F : Int → Int → Int → Bool → Bool → List D → Option (List D)) (x0 : Int) (x1 : Int) (x2 : Int) (x3 : Bool) (x4 : Bool) (x5 : List D) : runLoop (ocOf [e_Z41, e_Z46, e_Z50, e_Z54, e_Z56, e_Z61, e_Z38, e_Z65, e_Z71, m_Z73 G_slices_pdqsortOrdered]) (olOf [m_Z72 F]) A 76 (codeAt (bodyOf Try.f76) 2) ((m_Z72 F).sh.mk' [.I x0, .I x1, .I x2, .B x3, .B x4, .L x5]) (fun e σ' => some (e, σ')) = c_Z72 G_slices_pdqsortOrdered F x0 x1 x2 x3 x4 x5 (fun y => some (.ret, SSt.mk' ⟨(.full 1000 [] (.int .i64) :: uu 133 ([])), [(1000, .own (.int .i64))]⟩ [.L y])) := by kernel_rfl
theorem m_Z72_ok (G_slices_pdqsortOrdered : List D → Int → Int → Int → Option (List D)) (hG_slices_pdqsortOrdered : (m_Z73 G_slices_pdqsortOrdered).ok Try.prog A) : ∀ n, (m_Z72 (n_Z72 G_slices_pdqsortOrdered n)).ok Try.prog (codeAt (bodyOf Try.f76) 2) := by
 intro n
 induction n with
 | zero =>
  intro R ds k r h
  unfold m_Z72 at h
  obtain ⟨x0, d0, rfl, h0⟩ := dI_some h
  obtain ⟨x1, d1, rfl, h1⟩ := dI_some h0
  obtain ⟨x2, d2, rfl, h2⟩ := dI_some h1
  obtain ⟨x3, d3, rfl, h3⟩ := dB_some h2
  obtain ⟨x4, d4, rfl, h4⟩ := dB_some h3
  obtain ⟨x5, d5, rfl, h5⟩ := dL_some h4
  obtain ⟨rfl, hE⟩ := dE_some h5
  obtain ⟨y, hy, hk⟩ := bnd_some hE
  cases hy
 | succ n ih =>
  intro R ds k r h
  unfold m_Z72 at h
  obtain ⟨x0, d0, rfl, h0⟩ := dI_some h
  obtain ⟨x1, d1, rfl, h1⟩ := dI_some h0
  obtain ⟨x2, d2, rfl, h2⟩ := dI_some h1
  obtain ⟨x3, d3, rfl, h3⟩ := dB_some h2
  obtain ⟨x4, d4, rfl, h4⟩ := dB_some h3
  obtain ⟨x5, d5, rfl, h5⟩ := dL_some h4
  obtain ⟨rfl, hE⟩ := dE_some h5
  obtain ⟨y, hy, hk⟩ := bnd_some hE
  have hq := q_Z72 G_slices_pdqsortOrdered (n_Z72 G_slices_pdqsortOrdered n) x0 x1 x2 x3 x4 x5
  rw [c_Z72_bind] at hq
  rw [show c_Z72 G_slices_pdqsortOrdered (n_Z72 G_slices_pdqsortOrdered n) x0 x1 x2 x3 x4 x5 some = some y from hy] at hq
  refine ⟨0, _, _, _, hk, rfl, loop_ok px (fx := ⟨Try.func76, by kernel_rfl, by kernel_rfl⟩) (entsOK_cons e_Z41_ok (entsOK_cons e_Z46_ok (entsOK_cons e_Z50_ok (entsOK_cons e_Z54_ok (entsOK_cons e_Z56_ok (entsOK_cons e_Z61_ok (entsOK_cons e_Z38_ok (entsOK_cons e_Z65_ok (entsOK_cons e_Z71_ok (entsOK_cons hG_slices_pdqsortOrdered entsOK_nil)))))))))) (lentsOK_cons ih lentsOK_nil) (by kernel_rfl) ?_⟩
  exact hq
noncomputable def e_Z72 (G_slices_pdqsortOrdered : List D → Int → Int → Int → Option (List D)) : Lent := m_Z72 (Z72 G_slices_pdqsortOrdered)
theorem e_Z72_ok (G_slices_pdqsortOrdered : List D → Int → Int → Int → Option (List D)) (hG_slices_pdqsortOrdered : (m_Z73 G_slices_pdqsortOrdered).ok Try.prog A) : (e_Z72 G_slices_pdqsortOrdered).ok Try.prog (codeAt (bodyOf Try.f76) 2) := by
 intro R ds k r h
 unfold e_Z72 m_Z72 at h
 obtain ⟨x0, d0, rfl, h0⟩ := dI_some h
 obtain ⟨x1, d1, rfl, h1⟩ := dI_some h0
 obtain ⟨x2, d2, rfl, h2⟩ := dI_some h1
 obtain ⟨x3, d3, rfl, h3⟩ := dB_some h2
 obtain ⟨x4, d4, rfl, h4⟩ := dB_some h3
 obtain ⟨x5, d5, rfl, h5⟩ := dL_some h4
 obtain ⟨rfl, hE⟩ := dE_some h5
 obtain ⟨y, hy, hk⟩ := bnd_some hE
 obtain ⟨n, hn⟩ := ev_some hy
 exact m_Z72_ok G_slices_pdqsortOrdered hG_slices_pdqsortOrdered n R _ k r (show (n_Z72 G_slices_pdqsortOrdered n x0 x1 x2 x3 x4 x5).bind _ = _ by rw [hn]; exact hk)

/-!-/
def c_Z73 {R : Type} (F : List D → Int → Int → Int → Option (List D)) (x0 : List D) (x1 : Int) (x2 : Int) (x3 : Int) (k : List D → Option R) : Option R :=
 (Z72 F x1 x2 x3 Bool.true Bool.true x0).bind (fun y0 =>
 k y0)
theorem c_Z73_bind {R : Type} (F : List D → Int → Int → Int → Option (List D)) (x0 : List D) (x1 : Int) (x2 : Int) (x3 : Int) (k : List D → Option R) : c_Z73 F x0 x1 x2 x3 k = (c_Z73 F x0 x1 x2 x3 some).bind k := by
 unfold c_Z73
 repeat' first|exact bnd_tail|exact bnd_none|exact bnd_leaf|apply bnd_ite|apply bnd_cond|apply bnd_sum|(apply bnd_bind;intro _)|intro _
def n_Z73 : Nat → List D → Int → Int → Int → Option (List D)
 | 0, _, _, _, _ => none
 | n + 1, x0, x1, x2, x3 => c_Z73 (n_Z73 n) x0 x1 x2 x3 some
noncomputable def Z73 (x0 : List D) (x1 : Int) (x2 : Int) (x3 : Int) : Option (List D) := ev (fun n => n_Z73 n x0 x1 x2 x3)
theorem q_Z73 (F : List D → Int → Int → Int → Option (List D)) (x0 : List D) (x1 : Int) (x2 : Int) (x3 : Int) : runFn (ocOf []) (olOf [e_Z72 F]) A 76 Try.f76 (Sh.mks (m_Z73 F).sh [.L x0, .I x1, .I x2, .I x3]).1 (fun v os => some (v, os)) = c_Z73 F x0 x1 x2 x3 (fun y => some (((m_Z73 F).res.mk [.L y]).1, (Sh.mks (m_Z73 F).outs ((m_Z73 F).res.mk [.L y]).2).1)) := by kernel_rfl
theorem m_Z73_ok : ∀ n, (m_Z73 (n_Z73 n)).ok Try.prog A := by
 intro n
 induction n with
 | zero =>
  intro R ds k r h
  unfold m_Z73 at h
  obtain ⟨x0, d0, rfl, h0⟩ := dL_some h
  obtain ⟨x1, d1, rfl, h1⟩ := dI_some h0
  obtain ⟨x2, d2, rfl, h2⟩ := dI_some h1
  obtain ⟨x3, d3, rfl, h3⟩ := dI_some h2
  obtain ⟨rfl, hE⟩ := dE_some h3
  obtain ⟨y, hy, hk⟩ := bnd_some hE
  cases hy
 | succ n ih =>
  intro R ds k r h
  unfold m_Z73 at h
  obtain ⟨x0, d0, rfl, h0⟩ := dL_some h
  obtain ⟨x1, d1, rfl, h1⟩ := dI_some h0
  obtain ⟨x2, d2, rfl, h2⟩ := dI_some h1
  obtain ⟨x3, d3, rfl, h3⟩ := dI_some h2
  obtain ⟨rfl, hE⟩ := dE_some h3
  obtain ⟨y, hy, hk⟩ := bnd_some hE
  have hme := ih
  refine ⟨_, hk, fn_ok px (fx := ⟨Try.func76, by kernel_rfl, by kernel_rfl⟩) entsOK_nil (lentsOK_cons (e_Z72_ok _ hme) lentsOK_nil) ?_⟩
  have hq := q_Z73 (n_Z73 n) x0 x1 x2 x3
  rw [c_Z73_bind] at hq
  rw [show c_Z73 (n_Z73 n) x0 x1 x2 x3 some = some y from hy] at hq
  exact hq
def e_Z73 : Ent := m_Z73 Z73
theorem e_Z73_ok : e_Z73.ok Try.prog A := by
 intro R ds k r h
 unfold e_Z73 m_Z73 at h
 obtain ⟨x0, d0, rfl, h0⟩ := dL_some h
 obtain ⟨x1, d1, rfl, h1⟩ := dI_some h0
 obtain ⟨x2, d2, rfl, h2⟩ := dI_some h1
 obtain ⟨x3, d3, rfl, h3⟩ := dI_some h2
 obtain ⟨rfl, hE⟩ := dE_some h3
 obtain ⟨y, hy, hk⟩ := bnd_some hE
 obtain ⟨n, hn⟩ := ev_some hy
 exact m_Z73_ok n R _ k r (show (n_Z73 n x0 x1 x2 x3).bind _ = _ by rw [hn]; exact hk)

/-!-/
def c_Z74 {R : Type} (x0 : List D) (k : List D → Option R) : Option R :=
 (Z36 (IntKind.u64.wrap (↑x0.length : Int))).bind (fun y0 =>
 (Z73 x0 (0 : Int) (↑x0.length : Int) y0).bind (fun y1 =>
 k y1))
theorem c_Z74_bind {R : Type} (x0 : List D) (k : List D → Option R) : c_Z74 x0 k = (c_Z74 x0 some).bind k := by
 unfold c_Z74
 repeat' first|exact bnd_tail|exact bnd_none|exact bnd_leaf|apply bnd_ite|apply bnd_cond|apply bnd_sum|(apply bnd_bind;intro _)|intro _
def Z74 (x0 : List D) : Option (List D) := c_Z74 x0 some
def e_Z74 : Ent := ⟨65, [.own (.int .i64)], .tup [], [.own (.int .i64)], fun _ ds k => dL (fun x0 ds => dE ((Z74 x0).bind (fun y => k [.L y])) ds) ds⟩
theorem q_Z74 (x0 : List D) : runFn (ocOf [e_Z36, e_Z73]) (olOf []) A 65 Try.f65 (Sh.mks e_Z74.sh [.L x0]).1 (fun v os => some (v, os)) = c_Z74 x0 (fun y => some ((e_Z74.res.mk [.L y]).1, (Sh.mks e_Z74.outs (e_Z74.res.mk [.L y]).2).1)) := by kernel_rfl
theorem e_Z74_ok : e_Z74.ok Try.prog A := by
 intro R ds k r h
 unfold e_Z74 at h
 obtain ⟨x0, d0, rfl, h0⟩ := dL_some h
 obtain ⟨rfl, hE⟩ := dE_some h0
 obtain ⟨y, hy, hk⟩ := bnd_some hE
 refine ⟨_, hk, fn_ok px (fx := ⟨Try.func65, by kernel_rfl, by kernel_rfl⟩) (entsOK_cons e_Z36_ok (entsOK_cons e_Z73_ok entsOK_nil)) lentsOK_nil ?_⟩
 have hq := q_Z74 x0
 rw [c_Z74_bind] at hq
 rw [show c_Z74 x0 some = some y from hy] at hq
 exact hq

/-!-/
def c_Z75 {R : Type} (F : List D → Int → Int → Int → List D → Option ((List D × Int × Bool) ⊕ (List D × Int))) (x0 : List D) (x1 : Int) (x2 : Int) (x3 : Int) (x4 : List D) (k : (List D × Int × Bool) ⊕ (List D × Int) → Option R) : Option R :=
 bif decide (x3 < x2) then
 if 0 ≤ x3 ∧ x3 < (↑x4.length : Int) then
 if x3.toNat + 1 ≤ x4.length then
 bif !decide (x3 = (x4.getD x3.toNat (D.int 0)).toInt) then
 k (.inl (x0, x1, Bool.false))
 else
 (F x0 x1 x2 (IntKind.i64.wrap (x3 + 1)) x4).bind k
 else
 none
 else
 none
 else
 k (.inr (x0, x1))
theorem c_Z75_bind {R : Type} (F : List D → Int → Int → Int → List D → Option ((List D × Int × Bool) ⊕ (List D × Int))) (x0 : List D) (x1 : Int) (x2 : Int) (x3 : Int) (x4 : List D) (k : (List D × Int × Bool) ⊕ (List D × Int) → Option R) : c_Z75 F x0 x1 x2 x3 x4 k = (c_Z75 F x0 x1 x2 x3 x4 some).bind k := by
 unfold c_Z75
 repeat' first|exact bnd_tail|exact bnd_none|exact bnd_leaf|apply bnd_ite|apply bnd_cond|apply bnd_sum|(apply bnd_bind;intro _)|intro _
def n_Z75 : Nat → List D → Int → Int → Int → List D → Option ((List D × Int × Bool) ⊕ (List D × Int))
 | 0, _, _, _, _, _ => none
 | n + 1, x0, x1, x2, x3, x4 => c_Z75 (n_Z75 n) x0 x1 x2 x3 x4 some
noncomputable def Z75 (x0 : List D) (x1 : Int) (x2 : Int) (x3 : Int) (x4 : List D) : Option ((List D × Int × Bool) ⊕ (List D × Int)) := ev (fun n => n_Z75 n x0 x1 x2 x3 x4)
def m_Z75 (F : List D → Int → Int → Int → List D → Option ((List D × Int × Bool) ⊕ (List D × Int))) : Lent := ⟨4, ⟨(.rd (.int .i64) :: .int .i64 :: uu 10 (.full 1000 [] (.int .i64) :: .int .i64 :: .int .i64 :: uu 12 ([]))), [(1000, .own (.int .i64))]⟩, [(.ret, ⟨(.rd (.int .i64) :: .int .i64 :: .undef :: .undef :: .bool :: uu 22 ([])), []⟩), (.exit 0, ⟨(.rd (.int .i64) :: .int .i64 :: uu 25 ([])), []⟩)], fun _ ds k => dL (fun x0 ds => dI (fun x1 ds => dI (fun x2 ds => dI (fun x3 ds => dL (fun x4 ds => dE ((F x0 x1 x2 x3 x4).bind (Sum.elim (fun y => k 0 [.L y.1, .I y.2.1, .B y.2.2]) (fun y => k 1 [.L y.1, .I y.2]))) ds) ds) ds) ds) ds) ds⟩
theorem q_Z75 (F : List D → Int → Int → Int → List D → Option ((List D × Int × Bool) ⊕ (List D × Int))) (x0 : List D) (x1 : Int) (x2 : Int) (x3 : Int) (x4 : List D) : runLoop (ocOf []) (olOf [m_Z75 F]) A 75 (codeAt (bodyOf Try.f75) 4) ((m_Z75 F).sh.mk' [.L x0, .I x1, .I x2, .I x3, .L x4]) (fun e σ' => some (e, σ')) = c_Z75 F x0 x1 x2 x3 x4 (Sum.elim (fun y => some (.ret, SSt.mk' ⟨(.rd (.int .i64) :: .int .i64 :: .undef :: .undef :: .bool :: uu 22 ([])), []⟩ [.L y.1, .I y.2.1, .B y.2.2])) (fun y => some (.exit 0, SSt.mk' ⟨(.rd (.int .i64) :: .int .i64 :: uu 25 ([])), []⟩ [.L y.1, .I y.2]))) := by kernel_rfl
theorem m_Z75_ok : ∀ n, (m_Z75 (n_Z75 n)).ok Try.prog (codeAt (bodyOf Try.f75) 4) := by
 intro n
 induction n with
 | zero =>
  intro R ds k r h
  unfold m_Z75 at h
  obtain ⟨x0, d0, rfl, h0⟩ := dL_some h
  obtain ⟨x1, d1, rfl, h1⟩ := dI_some h0
  obtain ⟨x2, d2, rfl, h2⟩ := dI_some h1
  obtain ⟨x3, d3, rfl, h3⟩ := dI_some h2
  obtain ⟨x4, d4, rfl, h4⟩ := dL_some h3
  obtain ⟨rfl, hE⟩ := dE_some h4
  obtain ⟨y, hy, hk⟩ := bnd_some hE
  cases hy
 | succ n ih =>
  intro R ds k r h
  unfold m_Z75 at h
  obtain ⟨x0, d0, rfl, h0⟩ := dL_some h
  obtain ⟨x1, d1, rfl, h1⟩ := dI_some h0
  obtain ⟨x2, d2, rfl, h2⟩ := dI_some h1
  obtain ⟨x3, d3, rfl, h3⟩ := dI_some h2
  obtain ⟨x4, d4, rfl, h4⟩ := dL_some h3
  obtain ⟨rfl, hE⟩ := dE_some h4
  obtain ⟨y, hy, hk⟩ := bnd_some hE
  have hq := q_Z75 (n_Z75 n) x0 x1 x2 x3 x4
  rw [c_Z75_bind] at hq
  rw [show c_Z75 (n_Z75 n) x0 x1 x2 x3 x4 some = some y from hy] at hq
  cases y with
  | inl y =>
   refine ⟨0, _, _, _, hk, rfl, loop_ok px (fx := ⟨Try.func75, by kernel_rfl, by kernel_rfl⟩) entsOK_nil (lentsOK_cons ih lentsOK_nil) (by kernel_rfl) ?_⟩
   exact hq
  | inr y =>
   refine ⟨1, _, _, _, hk, rfl, loop_ok px (fx := ⟨Try.func75, by kernel_rfl, by kernel_rfl⟩) entsOK_nil (lentsOK_cons ih lentsOK_nil) (by kernel_rfl) ?_⟩
   exact hq
noncomputable def e_Z75 : Lent := m_Z75 (Z75)
theorem e_Z75_ok : (e_Z75).ok Try.prog (codeAt (bodyOf Try.f75) 4) := by
 intro R ds k r h
 unfold e_Z75 m_Z75 at h
 obtain ⟨x0, d0, rfl, h0⟩ := dL_some h
 obtain ⟨x1, d1, rfl, h1⟩ := dI_some h0
 obtain ⟨x2, d2, rfl, h2⟩ := dI_some h1
 obtain ⟨x3, d3, rfl, h3⟩ := dI_some h2
 obtain ⟨x4, d4, rfl, h4⟩ := dL_some h3
 obtain ⟨rfl, hE⟩ := dE_some h4
 obtain ⟨y, hy, hk⟩ := bnd_some hE
 obtain ⟨n, hn⟩ := ev_some hy
 exact m_Z75_ok n R _ k r (show (n_Z75 n x0 x1 x2 x3 x4).bind _ = _ by rw [hn]; exact hk)

/-!-/
def c_Z76 {R : Type} (x0 : List D) (x1 : Int) (k : Bool → Option R) : Option R :=
 (Z34 x0).bind (fun y0 =>
 (Z74 y0).bind (fun y1 =>
 (Z75 x0 x1 (↑y1.length : Int) (0 : Int) y1).bind (Sum.elim (fun y2 =>
 k y2.snd.snd) (fun y3 =>
 k (decide ((↑y3.fst.length : Int) = y3.snd))))))
theorem c_Z76_bind {R : Type} (x0 : List D) (x1 : Int) (k : Bool → Option R) : c_Z76 x0 x1 k = (c_Z76 x0 x1 some).bind k := by
 unfold c_Z76
 repeat' first|exact bnd_tail|exact bnd_none|exact bnd_leaf|apply bnd_ite|apply bnd_cond|apply bnd_sum|(apply bnd_bind;intro _)|intro _
def Z76 (x0 : List D) (x1 : Int) : Option (Bool) := c_Z76 x0 x1 some
def e_Z76 : Ent := ⟨75, [.rd (.int .i64), .int .i64], .bool, [.undef, .undef], fun _ ds k => dL (fun x0 ds => dI (fun x1 ds => dE ((Z76 x0 x1).bind (fun y => k [.B y])) ds) ds) ds⟩
theorem q_Z76 (x0 : List D) (x1 : Int) : runFn (ocOf [e_Z34, e_Z74]) (olOf [e_Z75]) A 75 Try.f75 (Sh.mks e_Z76.sh [.L x0, .I x1]).1 (fun v os => some (v, os)) = c_Z76 x0 x1 (fun y => some ((e_Z76.res.mk [.B y]).1, (Sh.mks e_Z76.outs (e_Z76.res.mk [.B y]).2).1)) := by kernel_rfl
theorem e_Z76_ok : e_Z76.ok Try.prog A := by
 intro R ds k r h
 unfold e_Z76 at h
 obtain ⟨x0, d0, rfl, h0⟩ := dL_some h
 obtain ⟨x1, d1, rfl, h1⟩ := dI_some h0
 obtain ⟨rfl, hE⟩ := dE_some h1
 obtain ⟨y, hy, hk⟩ := bnd_some hE
 refine ⟨_, hk, fn_ok px (fx := ⟨Try.func75, by kernel_rfl, by kernel_rfl⟩) (entsOK_cons e_Z34_ok (entsOK_cons e_Z74_ok entsOK_nil)) (lentsOK_cons e_Z75_ok lentsOK_nil) ?_⟩
 have hq := q_Z76 x0 x1
 rw [c_Z76_bind] at hq
 rw [show c_Z76 x0 x1 some = some y from hy] at hq
 exact hq

/-!-/
def c_Z77 {R : Type} (x0 : List D) (x1 : List D) (k : Bool → Option R) : Option R :=
 (Z33 x0).bind (fun y0 =>
 bif y0 then
 (Z76 x1 (↑x0.length : Int)).bind (fun y1 =>
 k y1)
 else
 k Bool.false)
theorem c_Z77_bind {R : Type} (x0 : List D) (x1 : List D) (k : Bool → Option R) : c_Z77 x0 x1 k = (c_Z77 x0 x1 some).bind k := by
 unfold c_Z77
 repeat' first|exact bnd_tail|exact bnd_none|exact bnd_leaf|apply bnd_ite|apply bnd_cond|apply bnd_sum|(apply bnd_bind;intro _)|intro _
def Z77 (x0 : List D) (x1 : List D) : Option (Bool) := c_Z77 x0 x1 some
def e_Z77 : Ent := ⟨56, [.agg [.rd (.slice (.int .i64))], .rd (.int .i64)], .bool, [.undef, .undef], fun _ ds k => dL (fun x0 ds => dL (fun x1 ds => dE ((Z77 x0 x1).bind (fun y => k [.B y])) ds) ds) ds⟩
theorem q_Z77 (x0 : List D) (x1 : List D) : runFn (ocOf [e_Z33, e_Z76]) (olOf []) A 56 Try.f56 (Sh.mks e_Z77.sh [.L x0, .L x1]).1 (fun v os => some (v, os)) = c_Z77 x0 x1 (fun y => some ((e_Z77.res.mk [.B y]).1, (Sh.mks e_Z77.outs (e_Z77.res.mk [.B y]).2).1)) := by kernel_rfl
theorem e_Z77_ok : e_Z77.ok Try.prog A := by
 intro R ds k r h
 unfold e_Z77 at h
 obtain ⟨x0, d0, rfl, h0⟩ := dL_some h
 obtain ⟨x1, d1, rfl, h1⟩ := dL_some h0
 obtain ⟨rfl, hE⟩ := dE_some h1
 obtain ⟨y, hy, hk⟩ := bnd_some hE
 refine ⟨_, hk, fn_ok px (fx := ⟨Try.func56, by kernel_rfl, by kernel_rfl⟩) (entsOK_cons e_Z33_ok (entsOK_cons e_Z76_ok entsOK_nil)) lentsOK_nil ?_⟩
 have hq := q_Z77 x0 x1
 rw [c_Z77_bind] at hq
 rw [show c_Z77 x0 x1 some = some y from hy] at hq
 exact hq

/-!-/
def c_Z78 {R : Type} (F : Int → Int → Int → List D → Int → Int → List D → Option (Int × Int)) (x0 : Int) (x1 : Int) (x2 : Int) (x3 : List D) (x4 : Int) (x5 : Int) (x6 : List D) (k : Int × Int → Option R) : Option R :=
 bif decide (x5 < x4) then
 if 0 ≤ x5 ∧ x5 < (↑x3.length : Int) then
 if (0 : Int) ≤ (x3.getD x5.toNat (D.int 0)).toInt ∧ (x3.getD x5.toNat (D.int 0)).toInt < (↑x6.length : Int) then
 if 0 ≤ x0 ∧ x0 < (↑(x6.getD (x3.getD x5.toNat (D.int 0)).toInt.toNat (D.int 0)).items.length : Int) then
 bif decide ((0 : Int) < ((x6.getD (x3.getD x5.toNat (D.int 0)).toInt.toNat (D.int 0)).items.getD x0.toNat (D.int 0)).toInt) then
 bif decide (x1 < (0 : Int)) then
 (F x0 x5 x5 x3 x4 (IntKind.i64.wrap (x5 + 1)) x6).bind k
 else
 (F x0 x1 x5 x3 x4 (IntKind.i64.wrap (x5 + 1)) x6).bind k
 else
 (F x0 x1 x2 x3 x4 (IntKind.i64.wrap (x5 + 1)) x6).bind k
 else
 none
 else
 none
 else
 none
 else
 k (x1, x2)
theorem c_Z78_bind {R : Type} (F : Int → Int → Int → List D → Int → Int → List D → Option (Int × Int)) (x0 : Int) (x1 : Int) (x2 : Int) (x3 : List D) (x4 : Int) (x5 : Int) (x6 : List D) (k : Int × Int → Option R) : c_Z78 F x0 x1 x2 x3 x4 x5 x6 k = (c_Z78 F x0 x1 x2 x3 x4 x5 x6 some).bind k := by
 unfold c_Z78
 repeat' first|exact bnd_tail|exact bnd_none|exact bnd_leaf|apply bnd_ite|apply bnd_cond|apply bnd_sum|(apply bnd_bind;intro _)|intro _
def n_Z78 : Nat → Int → Int → Int → List D → Int → Int → List D → Option (Int × Int)
 | 0, _, _, _, _, _, _, _ => none
 | n + 1, x0, x1, x2, x3, x4, x5, x6 => c_Z78 (n_Z78 n) x0 x1 x2 x3 x4 x5 x6 some
noncomputable def Z78 (x0 : Int) (x1 : Int) (x2 : Int) (x3 : List D) (x4 : Int) (x5 : Int) (x6 : List D) : Option (Int × Int) := ev (fun n => n_Z78 n x0 x1 x2 x3 x4 x5 x6)
def m_Z78 (F : Int → Int → Int → List D → Int → Int → List D → Option (Int × Int)) : Lent := ⟨3, ⟨(.undef :: .undef :: .int .i64 :: .ptr 1000 [0] :: uu 4 (.int .i64 :: .int .i64 :: .undef :: .undef :: .rd (.int .i64) :: .int .i64 :: .int .i64 :: uu 20 ([]))), [(1000, .obox (.agg [.rd (.slice (.int .i64))]))]⟩, [(.exit 0, ⟨(uu 8 (.int .i64 :: .int .i64 :: uu 25 ([]))), []⟩)], fun _ ds k => dI (fun x0 ds => dI (fun x1 ds => dI (fun x2 ds => dL (fun x3 ds => dI (fun x4 ds => dI (fun x5 ds => dL (fun x6 ds => dE ((F x0 x1 x2 x3 x4 x5 x6).bind (fun y => k 0 [.I y.1, .I y.2])) ds) ds) ds) ds) ds) ds) ds) ds⟩
theorem q_Z78 (F : Int → Int → Int → List D → Int → Int → List D → Option (Int × Int)) (x0 : Int) (x1 : Int) (x2 : Int) (x3 : List D) (x4 : Int) (x5 : Int) (x6 : List D) : runLoop (ocOf []) (olOf [m_Z78 F]) A 57 (codeAt (bodyOf Try.f57) 3) ((m_Z78 F).sh.mk' [.I x0, .I x1, .I x2, .L x3, .I x4, .I x5, .L x6]) (fun e σ' => some (e, σ')) = c_Z78 F x0 x1 x2 x3 x4 x5 x6 (fun y => some (.exit 0, SSt.mk' ⟨(uu 8 (.int .i64 :: .int .i64 :: uu 25 ([]))), []⟩ [.I y.1, .I y.2])) := by kernel_rfl
theorem m_Z78_ok : ∀ n, (m_Z78 (n_Z78 n)).ok Try.prog (codeAt (bodyOf Try.f57) 3) := by
 intro n
 induction n with
 | zero =>
  intro R ds k r h
  unfold m_Z78 at h
  obtain ⟨x0, d0, rfl, h0⟩ := dI_some h
  obtain ⟨x1, d1, rfl, h1⟩ := dI_some h0
  obtain ⟨x2, d2, rfl, h2⟩ := dI_some h1
  obtain ⟨x3, d3, rfl, h3⟩ := dL_some h2
  obtain ⟨x4, d4, rfl, h4⟩ := dI_some h3
  obtain ⟨x5, d5, rfl, h5⟩ := dI_some h4
  obtain ⟨x6, d6, rfl, h6⟩ := dL_some h5
  obtain ⟨rfl, hE⟩ := dE_some h6
  obtain ⟨y, hy, hk⟩ := bnd_some hE
  cases hy
 | succ n ih =>
  intro R ds k r h
  unfold m_Z78 at h
  obtain ⟨x0, d0, rfl, h0⟩ := dI_some h
  obtain ⟨x1, d1, rfl, h1⟩ := dI_some h0
  obtain ⟨x2, d2, rfl, h2⟩ := dI_some h1
  obtain ⟨x3, d3, rfl, h3⟩ := dL_some h2
  obtain ⟨x4, d4, rfl, h4⟩ := dI_some h3
  obtain ⟨x5, d5, rfl, h5⟩ := dI_some h4
  obtain ⟨x6, d6, rfl, h6⟩ := dL_some h5
  obtain ⟨rfl, hE⟩ := dE_some h6
  obtain ⟨y, hy, hk⟩ := bnd_some hE
  have hq := q_Z78 (n_Z78 n) x0 x1 x2 x3 x4 x5 x6
  rw [c_Z78_bind] at hq
  rw [show c_Z78 (n_Z78 n) x0 x1 x2 x3 x4 x5 x6 some = some y from hy] at hq
  refine ⟨0, _, _, _, hk, rfl, loop_ok px (fx := ⟨Try.func57, by kernel_rfl, by kernel_rfl⟩) entsOK_nil (lentsOK_cons ih lentsOK_nil) (by kernel_rfl) ?_⟩
  exact hq
noncomputable def e_Z78 : Lent := m_Z78 (Z78)
theorem e_Z78_ok : (e_Z78).ok Try.prog (codeAt (bodyOf Try.f57) 3) := by
 intro R ds k r h
 unfold e_Z78 m_Z78 at h
 obtain ⟨x0, d0, rfl, h0⟩ := dI_some h
 obtain ⟨x1, d1, rfl, h1⟩ := dI_some h0
 obtain ⟨x2, d2, rfl, h2⟩ := dI_some h1
 obtain ⟨x3, d3, rfl, h3⟩ := dL_some h2
 obtain ⟨x4, d4, rfl, h4⟩ := dI_some h3
 obtain ⟨x5, d5, rfl, h5⟩ := dI_some h4
 obtain ⟨x6, d6, rfl, h6⟩ := dL_some h5
 obtain ⟨rfl, hE⟩ := dE_some h6
 obtain ⟨y, hy, hk⟩ := bnd_some hE
 obtain ⟨n, hn⟩ := ev_some hy
 exact m_Z78_ok n R _ k r (show (n_Z78 n x0 x1 x2 x3 x4 x5 x6).bind _ = _ by rw [hn]; exact hk)

/-!-/
def c_Z79 {R : Type} (x0 : List D) (x1 : List D) (x2 : Int) (k : Int × Int → Option R) : Option R :=
 (Z78 x2 (-1 : Int) (-1 : Int) x1 (↑x1.length : Int) (0 : Int) x0).bind (fun y0 =>
 k (y0.fst, y0.snd))
theorem c_Z79_bind {R : Type} (x0 : List D) (x1 : List D) (x2 : Int) (k : Int × Int → Option R) : c_Z79 x0 x1 x2 k = (c_Z79 x0 x1 x2 some).bind k := by
 unfold c_Z79
 repeat' first|exact bnd_tail|exact bnd_none|exact bnd_leaf|apply bnd_ite|apply bnd_cond|apply bnd_sum|(apply bnd_bind;intro _)|intro _
def Z79 (x0 : List D) (x1 : List D) (x2 : Int) : Option (Int × Int) := c_Z79 x0 x1 x2 some
def e_Z79 : Ent := ⟨57, [.agg [.rd (.slice (.int .i64))], .rd (.int .i64), .int .i64], .tup [.int .i64, .int .i64], [.undef, .undef, .undef], fun _ ds k => dL (fun x0 ds => dL (fun x1 ds => dI (fun x2 ds => dE ((Z79 x0 x1 x2).bind (fun y => k [.I y.1, .I y.2])) ds) ds) ds) ds⟩
theorem q_Z79 (x0 : List D) (x1 : List D) (x2 : Int) : runFn (ocOf []) (olOf [e_Z78]) A 57 Try.f57 (Sh.mks e_Z79.sh [.L x0, .L x1, .I x2]).1 (fun v os => some (v, os)) = c_Z79 x0 x1 x2 (fun y => some ((e_Z79.res.mk [.I y.1, .I y.2]).1, (Sh.mks e_Z79.outs (e_Z79.res.mk [.I y.1, .I y.2]).2).1)) := by kernel_rfl
theorem e_Z79_ok : e_Z79.ok Try.prog A := by
 intro R ds k r h
 unfold e_Z79 at h
 obtain ⟨x0, d0, rfl, h0⟩ := dL_some h
 obtain ⟨x1, d1, rfl, h1⟩ := dL_some h0
 obtain ⟨x2, d2, rfl, h2⟩ := dI_some h1
 obtain ⟨rfl, hE⟩ := dE_some h2
 obtain ⟨y, hy, hk⟩ := bnd_some hE
 refine ⟨_, hk, fn_ok px (fx := ⟨Try.func57, by kernel_rfl, by kernel_rfl⟩) entsOK_nil (lentsOK_cons e_Z78_ok lentsOK_nil) ?_⟩
 have hq := q_Z79 x0 x1 x2
 rw [c_Z79_bind] at hq
 rw [show c_Z79 x0 x1 x2 some = some y from hy] at hq
 exact hq

/-!-/
def c_Z80 {R : Type} (F : List D → Int → Int → Int → Int → Int → List D → Int → Int → List D → List D → Option (List D × Int × Int × List D × List D)) (x0 : List D) (x1 : Int) (x2 : Int) (x3 : Int) (x4 : Int) (x5 : Int) (x6 : List D) (x7 : Int) (x8 : Int) (x9 : List D) (x10 : List D) (k : List D × Int × Int × List D × List D → Option R) : Option R :=
 bif decide (x8 < x7) then
 if 0 ≤ x8 ∧ x8 < (↑x6.length : Int) then
 bif decide (x2 < x8) then
 bif decide (x8 < x3) then
 if (0 : Int) ≤ (x6.getD x8.toNat (D.int 0)).toInt ∧ (x6.getD x8.toNat (D.int 0)).toInt < (↑x9.length : Int) then
 if 0 ≤ x1 ∧ x1 < (↑(x9.getD (x6.getD x8.toNat (D.int 0)).toInt.toNat (D.int 0)).items.length : Int) then
 bif decide (((x9.getD (x6.getD x8.toNat (D.int 0)).toInt.toNat (D.int 0)).items.getD x1.toNat (D.int 0)).toInt = (0 : Int)) then
 if 0 ≤ x8 ∧ x8 < (↑x10.length : Int) then
 if x8.toNat + 1 ≤ x10.length then
 if 0 ≤ x8 ∧ x8 < (↑x10.length : Int) then
 if x8.toNat + 1 ≤ x10.length then
 (F x0 x1 x2 x3 x4 x5 x6 x7 (IntKind.i64.wrap (x8 + 1)) x9 (x10.set x8.toNat (D.int (IntKind.i64.wrap ((x10.getD x8.toNat (D.int 0)).toInt + (1 : Int)))))).bind k
 else
 none
 else
 none
 else
 none
 else
 none
 else
 (F x0 x1 x2 x3 x4 x5 x6 x7 (IntKind.i64.wrap (x8 + 1)) x9 x10).bind k
 else
 none
 else
 none
 else
 (F x0 x1 x2 x3 x4 x5 x6 x7 (IntKind.i64.wrap (x8 + 1)) x9 x10).bind k
 else
 (F x0 x1 x2 x3 x4 x5 x6 x7 (IntKind.i64.wrap (x8 + 1)) x9 x10).bind k
 else
 none
 else
 k (x0, x4, x5, x9, x10)
theorem c_Z80_bind {R : Type} (F : List D → Int → Int → Int → Int → Int → List D → Int → Int → List D → List D → Option (List D × Int × Int × List D × List D)) (x0 : List D) (x1 : Int) (x2 : Int) (x3 : Int) (x4 : Int) (x5 : Int) (x6 : List D) (x7 : Int) (x8 : Int) (x9 : List D) (x10 : List D) (k : List D × Int × Int × List D × List D → Option R) : c_Z80 F x0 x1 x2 x3 x4 x5 x6 x7 x8 x9 x10 k = (c_Z80 F x0 x1 x2 x3 x4 x5 x6 x7 x8 x9 x10 some).bind k := by
 unfold c_Z80
 repeat' first|exact bnd_tail|exact bnd_none|exact bnd_leaf|apply bnd_ite|apply bnd_cond|apply bnd_sum|(apply bnd_bind;intro _)|intro _
def n_Z80 : Nat → List D → Int → Int → Int → Int → Int → List D → Int → Int → List D → List D → Option (List D × Int × Int × List D × List D)
 | 0, _, _, _, _, _, _, _, _, _, _, _ => none
 | n + 1, x0, x1, x2, x3, x4, x5, x6, x7, x8, x9, x10 => c_Z80 (n_Z80 n) x0 x1 x2 x3 x4 x5 x6 x7 x8 x9 x10 some
noncomputable def Z80 (x0 : List D) (x1 : Int) (x2 : Int) (x3 : Int) (x4 : Int) (x5 : Int) (x6 : List D) (x7 : Int) (x8 : Int) (x9 : List D) (x10 : List D) : Option (List D × Int × Int × List D × List D) := ev (fun n => n_Z80 n x0 x1 x2 x3 x4 x5 x6 x7 x8 x9 x10)
def m_Z80 (F : List D → Int → Int → Int → Int → Int → List D → Int → Int → List D → List D → Option (List D × Int × Int × List D × List D)) : Lent := ⟨7, ⟨(.undef :: .rd (.int .i64) :: .ptr 1000 [0] :: .undef :: .undef :: .full 1001 [] (.int .i64) :: .int .i64 :: .int .i64 :: .int .i64 :: uu 9 (.int .i64 :: .int .i64 :: uu 9 (.rd (.int .i64) :: .int .i64 :: .int .i64 :: uu 32 ([])))), [(1000, .obox (.agg [.rd (.slice (.int .i64))])), (1001, .own (.int .i64))]⟩, [(.exit 2, ⟨(.undef :: .rd (.int .i64) :: .ptr 1000 [0] :: .undef :: .undef :: .full 1001 [] (.int .i64) :: uu 12 (.int .i64 :: .int .i64 :: uu 44 ([]))), [(1000, .obox (.agg [.rd (.slice (.int .i64))])), (1001, .own (.int .i64))]⟩)], fun _ ds k => dL (fun x0 ds => dI (fun x1 ds => dI (fun x2 ds => dI (fun x3 ds => dI (fun x4 ds => dI (fun x5 ds => dL (fun x6 ds => dI (fun x7 ds => dI (fun x8 ds => dL (fun x9 ds => dL (fun x10 ds => dE ((F x0 x1 x2 x3 x4 x5 x6 x7 x8 x9 x10).bind (fun y => k 0 [.L y.1, .I y.2.1, .I y.2.2.1, .L y.2.2.2.1, .L y.2.2.2.2])) ds) ds) ds) ds) ds) ds) ds) ds) ds) ds) ds) ds⟩
theorem q_Z80 (F : List D → Int → Int → Int → Int → Int → List D → Int → Int → List D → List D → Option (List D × Int × Int × List D × List D)) (x0 : List D) (x1 : Int) (x2 : Int) (x3 : Int) (x4 : Int) (x5 : Int) (x6 : List D) (x7 : Int) (x8 : Int) (x9 : List D) (x10 : List D) : runLoop (ocOf []) (olOf [m_Z80 F]) A 62 (codeAt (bodyOf Try.f62) 7) ((m_Z80 F).sh.mk' [.L x0, .I x1, .I x2, .I x3, .I x4, .I x5, .L x6, .I x7, .I x8, .L x9, .L x10]) (fun e σ' => some (e, σ')) = c_Z80 F x0 x1 x2 x3 x4 x5 x6 x7 x8 x9 x10 (fun y => some (.exit 2, SSt.mk' ⟨(.undef :: .rd (.int .i64) :: .ptr 1000 [0] :: .undef :: .undef :: .full 1001 [] (.int .i64) :: uu 12 (.int .i64 :: .int .i64 :: uu 44 ([]))), [(1000, .obox (.agg [.rd (.slice (.int .i64))])), (1001, .own (.int .i64))]⟩ [.L y.1, .I y.2.1, .I y.2.2.1, .L y.2.2.2.1, .L y.2.2.2.2])) := by kernel_rfl
theorem m_Z80_ok : ∀ n, (m_Z80 (n_Z80 n)).ok Try.prog (codeAt (bodyOf Try.f62) 7) := by
 intro n
 induction n with
 | zero =>
  intro R ds k r h
  unfold m_Z80 at h
  obtain ⟨x0, d0, rfl, h0⟩ := dL_some h
  obtain ⟨x1, d1, rfl, h1⟩ := dI_some h0
  obtain ⟨x2, d2, rfl, h2⟩ := dI_some h1
  obtain ⟨x3, d3, rfl, h3⟩ := dI_some h2
  obtain ⟨x4, d4, rfl, h4⟩ := dI_some h3
  obtain ⟨x5, d5, rfl, h5⟩ := dI_some h4
  obtain ⟨x6, d6, rfl, h6⟩ := dL_some h5
  obtain ⟨x7, d7, rfl, h7⟩ := dI_some h6
  obtain ⟨x8, d8, rfl, h8⟩ := dI_some h7
  obtain ⟨x9, d9, rfl, h9⟩ := dL_some h8
  obtain ⟨x10, d10, rfl, h10⟩ := dL_some h9
  obtain ⟨rfl, hE⟩ := dE_some h10
  obtain ⟨y, hy, hk⟩ := bnd_some hE
  cases hy
 | succ n ih =>
  intro R ds k r h
  unfold m_Z80 at h
  obtain ⟨x0, d0, rfl, h0⟩ := dL_some h
  obtain ⟨x1, d1, rfl, h1⟩ := dI_some h0
  obtain ⟨x2, d2, rfl, h2⟩ := dI_some h1
  obtain ⟨x3, d3, rfl, h3⟩ := dI_some h2
  obtain ⟨x4, d4, rfl, h4⟩ := dI_some h3
  obtain ⟨x5, d5, rfl, h5⟩ := dI_some h4
  obtain ⟨x6, d6, rfl, h6⟩ := dL_some h5
  obtain ⟨x7, d7, rfl, h7⟩ := dI_some h6
  obtain ⟨x8, d8, rfl, h8⟩ := dI_some h7
  obtain ⟨x9, d9, rfl, h9⟩ := dL_some h8
  obtain ⟨x10, d10, rfl, h10⟩ := dL_some h9
  obtain ⟨rfl, hE⟩ := dE_some h10
  obtain ⟨y, hy, hk⟩ := bnd_some hE
  have hq := q_Z80 (n_Z80 n) x0 x1 x2 x3 x4 x5 x6 x7 x8 x9 x10
  rw [c_Z80_bind] at hq
  rw [show c_Z80 (n_Z80 n) x0 x1 x2 x3 x4 x5 x6 x7 x8 x9 x10 some = some y from hy] at hq
  refine ⟨0, _, _, _, hk, rfl, loop_ok px (fx := ⟨Try.func62, by kernel_rfl, by kernel_rfl⟩) entsOK_nil (lentsOK_cons ih lentsOK_nil) (by kernel_rfl) ?_⟩
  exact hq
noncomputable def e_Z80 : Lent := m_Z80 (Z80)
theorem e_Z80_ok : (e_Z80).ok Try.prog (codeAt (bodyOf Try.f62) 7) := by
 intro R ds k r h
 unfold e_Z80 m_Z80 at h
 obtain ⟨x0, d0, rfl, h0⟩ := dL_some h
 obtain ⟨x1, d1, rfl, h1⟩ := dI_some h0
 obtain ⟨x2, d2, rfl, h2⟩ := dI_some h1
 obtain ⟨x3, d3, rfl, h3⟩ := dI_some h2
 obtain ⟨x4, d4, rfl, h4⟩ := dI_some h3
 obtain ⟨x5, d5, rfl, h5⟩ := dI_some h4
 obtain ⟨x6, d6, rfl, h6⟩ := dL_some h5
 obtain ⟨x7, d7, rfl, h7⟩ := dI_some h6
 obtain ⟨x8, d8, rfl, h8⟩ := dI_some h7
 obtain ⟨x9, d9, rfl, h9⟩ := dL_some h8
 obtain ⟨x10, d10, rfl, h10⟩ := dL_some h9
 obtain ⟨rfl, hE⟩ := dE_some h10
 obtain ⟨y, hy, hk⟩ := bnd_some hE
 obtain ⟨n, hn⟩ := ev_some hy
 exact m_Z80_ok n R _ k r (show (n_Z80 n x0 x1 x2 x3 x4 x5 x6 x7 x8 x9 x10).bind _ = _ by rw [hn]; exact hk)

/-!-/
def c_Z81 {R : Type} (F : List D → Int → Int → List D → List D → Option (List D)) (x0 : List D) (x1 : Int) (x2 : Int) (x3 : List D) (x4 : List D) (k : List D → Option R) : Option R :=
 bif decide (x2 < x1) then
 (Z79 x3 x0 x2).bind (fun y0 =>
 (Z80 x0 x2 y0.fst y0.snd x1 x2 x0 (↑x0.length : Int) (0 : Int) x3 x4).bind (fun y1 =>
 (F y1.fst y1.snd.fst (IntKind.i64.wrap (y1.snd.snd.fst + 1)) y1.snd.snd.snd.fst y1.snd.snd.snd.snd).bind k))
 else
 k x4
theorem c_Z81_bind {R : Type} (F : List D → Int → Int → List D → List D → Option (List D)) (x0 : List D) (x1 : Int) (x2 : Int) (x3 : List D) (x4 : List D) (k : List D → Option R) : c_Z81 F x0 x1 x2 x3 x4 k = (c_Z81 F x0 x1 x2 x3 x4 some).bind k := by
 unfold c_Z81
 repeat' first|exact bnd_tail|exact bnd_none|exact bnd_leaf|apply bnd_ite|apply bnd_cond|apply bnd_sum|(apply bnd_bind;intro _)|intro _
def n_Z81 : Nat → List D → Int → Int → List D → List D → Option (List D)
 | 0, _, _, _, _, _ => none
 | n + 1, x0, x1, x2, x3, x4 => c_Z81 (n_Z81 n) x0 x1 x2 x3 x4 some
noncomputable def Z81 (x0 : List D) (x1 : Int) (x2 : Int) (x3 : List D) (x4 : List D) : Option (List D) := ev (fun n => n_Z81 n x0 x1 x2 x3 x4)
def m_Z81 (F : List D → Int → Int → List D → List D → Option (List D)) : Lent := ⟨3, ⟨(.undef :: .rd (.int .i64) :: .ptr 1000 [0] :: .undef :: .undef :: .full 1001 [] (.int .i64) :: uu 12 (.int .i64 :: .int .i64 :: uu 44 ([]))), [(1000, .obox (.agg [.rd (.slice (.int .i64))])), (1001, .own (.int .i64))]⟩, [(.exit 0, ⟨(uu 5 (.full 1000 [] (.int .i64) :: uu 58 ([]))), [(1000, .own (.int .i64))]⟩)], fun _ ds k => dL (fun x0 ds => dI (fun x1 ds => dI (fun x2 ds => dL (fun x3 ds => dL (fun x4 ds => dE ((F x0 x1 x2 x3 x4).bind (fun y => k 0 [.L y])) ds) ds) ds) ds) ds) ds⟩
theorem q_Z81 (F : List D → Int → Int → List D → List D → Option (List D)) (x0 : List D) (x1 : Int) (x2 : Int) (x3 : List D) (x4 : List D) : runLoop (ocOf [e_Z79]) (olOf [m_Z81 F, e_Z80]) A 62 (codeAt (bodyOf Try.f62) 3) ((m_Z81 F).sh.mk' [.L x0, .I x1, .I x2, .L x3, .L x4]) (fun e σ' => some (e, σ')) = c_Z81 F x0 x1 x2 x3 x4 (fun y => some (.exit 0, SSt.mk' ⟨(uu 5 (.full 1000 [] (.int .i64) :: uu 58 ([]))), [(1000, .own (.int .i64))]⟩ [.L y])) := by kernel_rfl
theorem m_Z81_ok : ∀ n, (m_Z81 (n_Z81 n)).ok Try.prog (codeAt (bodyOf Try.f62) 3) := by
 intro n
 induction n with
 | zero =>
  intro R ds k r h
  unfold m_Z81 at h
  obtain ⟨x0, d0, rfl, h0⟩ := dL_some h
  obtain ⟨x1, d1, rfl, h1⟩ := dI_some h0
  obtain ⟨x2, d2, rfl, h2⟩ := dI_some h1
  obtain ⟨x3, d3, rfl, h3⟩ := dL_some h2
  obtain ⟨x4, d4, rfl, h4⟩ := dL_some h3
  obtain ⟨rfl, hE⟩ := dE_some h4
  obtain ⟨y, hy, hk⟩ := bnd_some hE
  cases hy
 | succ n ih =>
  intro R ds k r h
  unfold m_Z81 at h
  obtain ⟨x0, d0, rfl, h0⟩ := dL_some h
  obtain ⟨x1, d1, rfl, h1⟩ := dI_some h0
  obtain ⟨x2, d2, rfl, h2⟩ := dI_some h1
  obtain ⟨x3, d3, rfl, h3⟩ := dL_some h2
  obtain ⟨x4, d4, rfl, h4⟩ := dL_some h3
  obtain ⟨rfl, hE⟩ := dE_some h4
  obtain ⟨y, hy, hk⟩ := bnd_some hE
  have hq := q_Z81 (n_Z81 n) x0 x1 x2 x3 x4
  rw [c_Z81_bind] at hq
  rw [show c_Z81 (n_Z81 n) x0 x1 x2 x3 x4 some = some y from hy] at hq
  refine ⟨0, _, _, _, hk, rfl, loop_ok px (fx := ⟨Try.func62, by kernel_rfl, by kernel_rfl⟩) (entsOK_cons e_Z79_ok entsOK_nil) (lentsOK_cons ih (lentsOK_cons e_Z80_ok lentsOK_nil)) (by kernel_rfl) ?_⟩
  exact hq
noncomputable def e_Z81 : Lent := m_Z81 (Z81)
theorem e_Z81_ok : (e_Z81).ok Try.prog (codeAt (bodyOf Try.f62) 3) := by
 intro R ds k r h
 unfold e_Z81 m_Z81 at h
 obtain ⟨x0, d0, rfl, h0⟩ := dL_some h
 obtain ⟨x1, d1, rfl, h1⟩ := dI_some h0
 obtain ⟨x2, d2, rfl, h2⟩ := dI_some h1
 obtain ⟨x3, d3, rfl, h3⟩ := dL_some h2
 obtain ⟨x4, d4, rfl, h4⟩ := dL_some h3
 obtain ⟨rfl, hE⟩ := dE_some h4
 obtain ⟨y, hy, hk⟩ := bnd_some hE
 obtain ⟨n, hn⟩ := ev_some hy
 exact m_Z81_ok n R _ k r (show (n_Z81 n x0 x1 x2 x3 x4).bind _ = _ by rw [hn]; exact hk)

/-!-/
def c_Z82 {R : Type} (x0 : List D) (x1 : List D) (k : List D → Option R) : Option R :=
 if (0 : Int) ≤ (↑x1.length : Int) ∧ (↑x1.length : Int) ≤ (↑x1.length : Int) ∧ (↑x1.length : Int) ≤ (4294967296 : Int) then
 if (0 : Int) ≤ (0 : Int) ∧ (0 : Int) < (↑x0.length : Int) then
 (Z81 x1 (↑(x0.getD (Int.toNat (0 : Int)) (D.int 0)).items.length : Int) (0 : Int) x0 (List.replicate (↑x1.length : Int).toNat (D.int 0))).bind (fun y0 =>
 k y0)
 else
 none
 else
 none
theorem c_Z82_bind {R : Type} (x0 : List D) (x1 : List D) (k : List D → Option R) : c_Z82 x0 x1 k = (c_Z82 x0 x1 some).bind k := by
 unfold c_Z82
 repeat' first|exact bnd_tail|exact bnd_none|exact bnd_leaf|apply bnd_ite|apply bnd_cond|apply bnd_sum|(apply bnd_bind;intro _)|intro _
def Z82 (x0 : List D) (x1 : List D) : Option (List D) := c_Z82 x0 x1 some
def e_Z82 : Ent := ⟨62, [.agg [.rd (.slice (.int .i64))], .rd (.int .i64)], .own (.int .i64), [.undef, .undef], fun _ ds k => dL (fun x0 ds => dL (fun x1 ds => dE ((Z82 x0 x1).bind (fun y => k [.L y])) ds) ds) ds⟩
theorem q_Z82 (x0 : List D) (x1 : List D) : runFn (ocOf []) (olOf [e_Z81]) A 62 Try.f62 (Sh.mks e_Z82.sh [.L x0, .L x1]).1 (fun v os => some (v, os)) = c_Z82 x0 x1 (fun y => some ((e_Z82.res.mk [.L y]).1, (Sh.mks e_Z82.outs (e_Z82.res.mk [.L y]).2).1)) := by kernel_rfl
theorem e_Z82_ok : e_Z82.ok Try.prog A := by
 intro R ds k r h
 unfold e_Z82 at h
 obtain ⟨x0, d0, rfl, h0⟩ := dL_some h
 obtain ⟨x1, d1, rfl, h1⟩ := dL_some h0
 obtain ⟨rfl, hE⟩ := dE_some h1
 obtain ⟨y, hy, hk⟩ := bnd_some hE
 refine ⟨_, hk, fn_ok px (fx := ⟨Try.func62, by kernel_rfl, by kernel_rfl⟩) entsOK_nil (lentsOK_cons e_Z81_ok lentsOK_nil) ?_⟩
 have hq := q_Z82 x0 x1
 rw [c_Z82_bind] at hq
 rw [show c_Z82 x0 x1 some = some y from hy] at hq
 exact hq

/-!-/
def c_Z83 {R : Type} (x0 : List D) (x1 : Int) (x2 : Int) (k : List D → Option R) : Option R :=
 if 0 ≤ x1 ∧ x1 ≤ x2 ∧ x2 ≤ (↑x0.length : Int) then
 if 0 ≤ x2 ∧ x2 ≤ (↑x0.length : Int) ∧ (↑x0.length : Int) ≤ (↑x0.length : Int) then
 bif decide (x1 = x2) then
 k x0
 else
 if (0 : Int) ≤ (0 : Int) ∧ 0 ≤ x1 ∧ x1 ≤ (↑x0.length : Int) then
 if 0 ≤ x2 ∧ x2 ≤ (↑x0.length : Int) ∧ (↑x0.length : Int) ≤ (↑x0.length : Int) then
 if x2.toNat + (x0.length - x2.toNat) ≤ x0.length then
 if (0 : Nat) + (x1.toNat - (0 : Nat)) + (List.take (x0.length - x2.toNat) (List.drop x2.toNat x0)).length ≤ x0.length then
 if (0 : Int) ≤ (↑(x1.toNat - (0 : Nat) + (List.take (x0.length - x2.toNat) (List.drop x2.toNat x0)).length) : Int) ∧ (↑(x1.toNat - (0 : Nat) + (List.take (x0.length - x2.toNat) (List.drop x2.toNat x0)).length) : Int) ≤ (↑x0.length : Int) ∧ (↑x0.length : Int) ≤ (↑((List.take ((0 : Nat) + (x1.toNat - (0 : Nat))) x0 ++ List.take (x0.length - x2.toNat) (List.drop x2.toNat x0) ++ List.drop ((0 : Nat) + (x1.toNat - (0 : Nat)) + (List.take (x0.length - x2.toNat) (List.drop x2.toNat x0)).length) x0).length - (0 : Nat)) : Int) then
 if (0 : Nat) + (↑(x1.toNat - (0 : Nat) + (List.take (x0.length - x2.toNat) (List.drop x2.toNat x0)).length) : Int).toNat + ((↑x0.length : Int).toNat - (↑(x1.toNat - (0 : Nat) + (List.take (x0.length - x2.toNat) (List.drop x2.toNat x0)).length) : Int).toNat) ≤ (List.take ((0 : Nat) + (x1.toNat - (0 : Nat))) x0 ++ List.take (x0.length - x2.toNat) (List.drop x2.toNat x0) ++ List.drop ((0 : Nat) + (x1.toNat - (0 : Nat)) + (List.take (x0.length - x2.toNat) (List.drop x2.toNat x0)).length) x0).length then
 if (0 : Nat) + (x1.toNat - (0 : Nat) + (List.take (x0.length - x2.toNat) (List.drop x2.toNat x0)).length) ≤ (List.take ((0 : Nat) + (↑(x1.toNat - (0 : Nat) + (List.take (x0.length - x2.toNat) (List.drop x2.toNat x0)).length) : Int).toNat) (List.take ((0 : Nat) + (x1.toNat - (0 : Nat))) x0 ++ List.take (x0.length - x2.toNat) (List.drop x2.toNat x0) ++ List.drop ((0 : Nat) + (x1.toNat - (0 : Nat)) + (List.take (x0.length - x2.toNat) (List.drop x2.toNat x0)).length) x0) ++ List.replicate ((↑x0.length : Int).toNat - (↑(x1.toNat - (0 : Nat) + (List.take (x0.length - x2.toNat) (List.drop x2.toNat x0)).length) : Int).toNat) (D.int 0) ++ List.drop ((0 : Nat) + (↑(x1.toNat - (0 : Nat) + (List.take (x0.length - x2.toNat) (List.drop x2.toNat x0)).length) : Int).toNat + (List.replicate ((↑x0.length : Int).toNat - (↑(x1.toNat - (0 : Nat) + (List.take (x0.length - x2.toNat) (List.drop x2.toNat x0)).length) : Int).toNat) (D.int 0)).length) (List.take ((0 : Nat) + (x1.toNat - (0 : Nat))) x0 ++ List.take (x0.length - x2.toNat) (List.drop x2.toNat x0) ++ List.drop ((0 : Nat) + (x1.toNat - (0 : Nat)) + (List.take (x0.length - x2.toNat) (List.drop x2.toNat x0)).length) x0)).length then
 k (List.take (x1.toNat - (0 : Nat) + (List.take (x0.length - x2.toNat) (List.drop x2.toNat x0)).length) (List.drop (0 : Nat) (List.take ((0 : Nat) + (↑(x1.toNat - (0 : Nat) + (List.take (x0.length - x2.toNat) (List.drop x2.toNat x0)).length) : Int).toNat) (List.take ((0 : Nat) + (x1.toNat - (0 : Nat))) x0 ++ List.take (x0.length - x2.toNat) (List.drop x2.toNat x0) ++ List.drop ((0 : Nat) + (x1.toNat - (0 : Nat)) + (List.take (x0.length - x2.toNat) (List.drop x2.toNat x0)).length) x0) ++ List.replicate ((↑x0.length : Int).toNat - (↑(x1.toNat - (0 : Nat) + (List.take (x0.length - x2.toNat) (List.drop x2.toNat x0)).length) : Int).toNat) (D.int 0) ++ List.drop ((0 : Nat) + (↑(x1.toNat - (0 : Nat) + (List.take (x0.length - x2.toNat) (List.drop x2.toNat x0)).length) : Int).toNat + (List.replicate ((↑x0.length : Int).toNat - (↑(x1.toNat - (0 : Nat) + (List.take (x0.length - x2.toNat) (List.drop x2.toNat x0)).length) : Int).toNat) (D.int 0)).length) (List.take ((0 : Nat) + (x1.toNat - (0 : Nat))) x0 ++ List.take (x0.length - x2.toNat) (List.drop x2.toNat x0) ++ List.drop ((0 : Nat) + (x1.toNat - (0 : Nat)) + (List.take (x0.length - x2.toNat) (List.drop x2.toNat x0)).length) x0))))
 else
 none
 else
 none
 else
 none
 else
 none
 else
 none
 else
 none
 else
 none
 else
 none
 else
 none
theorem c_Z83_bind {R : Type} (x0 : List D) (x1 : Int) (x2 : Int) (k : List D → Option R) : c_Z83 x0 x1 x2 k = (c_Z83 x0 x1 x2 some).bind k := by
 unfold c_Z83
 repeat' first|exact bnd_tail|exact bnd_none|exact bnd_leaf|apply bnd_ite|apply bnd_cond|apply bnd_sum|(apply bnd_bind;intro _)|intro _
def Z83 (x0 : List D) (x1 : Int) (x2 : Int) : Option (List D) := c_Z83 x0 x1 x2 some
def e_Z83 : Ent := ⟨63, [.own (.int .i64), .int .i64, .int .i64], .own (.int .i64), [.undef, .undef, .undef], fun _ ds k => dL (fun x0 ds => dI (fun x1 ds => dI (fun x2 ds => dE ((Z83 x0 x1 x2).bind (fun y => k [.L y])) ds) ds) ds) ds⟩
theorem q_Z83 (x0 : List D) (x1 : Int) (x2 : Int) : runFn (ocOf []) (olOf []) A 63 Try.f63 (Sh.mks e_Z83.sh [.L x0, .I x1, .I x2]).1 (fun v os => some (v, os)) = c_Z83 x0 x1 x2 (fun y => some ((e_Z83.res.mk [.L y]).1, (Sh.mks e_Z83.outs (e_Z83.res.mk [.L y]).2).1)) := by kernel_rfl
theorem e_Z83_ok : e_Z83.ok Try.prog A := by
 intro R ds k r h
 unfold e_Z83 at h
 obtain ⟨x0, d0, rfl, h0⟩ := dL_some h
 obtain ⟨x1, d1, rfl, h1⟩ := dI_some h0
 obtain ⟨x2, d2, rfl, h2⟩ := dI_some h1
 obtain ⟨rfl, hE⟩ := dE_some h2
 obtain ⟨y, hy, hk⟩ := bnd_some hE
 refine ⟨_, hk, fn_ok px (fx := ⟨Try.func63, by kernel_rfl, by kernel_rfl⟩) entsOK_nil lentsOK_nil ?_⟩
 have hq := q_Z83 x0 x1 x2
 rw [c_Z83_bind] at hq
 rw [show c_Z83 x0 x1 x2 some = some y from hy] at hq
 exact hq

/-!-/
def c_Z84 {R : Type} (F : Int → List D → Int → Int → Option (Int)) (x0 : Int) (x1 : List D) (x2 : Int) (x3 : Int) (k : Int → Option R) : Option R :=
 bif decide (x3 < x2) then
 if 0 ≤ x3 ∧ x3 < (↑x1.length : Int) then
 (F (IntKind.i64.wrap (x0 + (x1.getD x3.toNat (D.int 0)).toInt)) x1 x2 (IntKind.i64.wrap (x3 + 1))).bind k
 else
 none
 else
 k x0
theorem c_Z84_bind {R : Type} (F : Int → List D → Int → Int → Option (Int)) (x0 : Int) (x1 : List D) (x2 : Int) (x3 : Int) (k : Int → Option R) : c_Z84 F x0 x1 x2 x3 k = (c_Z84 F x0 x1 x2 x3 some).bind k := by
 unfold c_Z84
 repeat' first|exact bnd_tail|exact bnd_none|exact bnd_leaf|apply bnd_ite|apply bnd_cond|apply bnd_sum|(apply bnd_bind;intro _)|intro _
def n_Z84 : Nat → Int → List D → Int → Int → Option (Int)
 | 0, _, _, _, _ => none
 | n + 1, x0, x1, x2, x3 => c_Z84 (n_Z84 n) x0 x1 x2 x3 some
noncomputable def Z84 (x0 : Int) (x1 : List D) (x2 : Int) (x3 : Int) : Option (Int) := ev (fun n => n_Z84 n x0 x1 x2 x3)
def m_Z84 (F : Int → List D → Int → Int → Option (Int)) : Lent := ⟨3, ⟨(.undef :: .undef :: .undef :: .int .i64 :: .undef :: .undef :: .rd (.int .i64) :: .int .i64 :: .int .i64 :: uu 8 ([])), []⟩, [(.exit 0, ⟨(.undef :: .undef :: .undef :: .int .i64 :: uu 13 ([])), []⟩)], fun _ ds k => dI (fun x0 ds => dL (fun x1 ds => dI (fun x2 ds => dI (fun x3 ds => dE ((F x0 x1 x2 x3).bind (fun y => k 0 [.I y])) ds) ds) ds) ds) ds⟩
theorem q_Z84 (F : Int → List D → Int → Int → Option (Int)) (x0 : Int) (x1 : List D) (x2 : Int) (x3 : Int) : runLoop (ocOf []) (olOf [m_Z84 F]) A 64 (codeAt (bodyOf Try.f64) 3) ((m_Z84 F).sh.mk' [.I x0, .L x1, .I x2, .I x3]) (fun e σ' => some (e, σ')) = c_Z84 F x0 x1 x2 x3 (fun y => some (.exit 0, SSt.mk' ⟨(.undef :: .undef :: .undef :: .int .i64 :: uu 13 ([])), []⟩ [.I y])) := by kernel_rfl
theorem m_Z84_ok : ∀ n, (m_Z84 (n_Z84 n)).ok Try.prog (codeAt (bodyOf Try.f64) 3) := by
 intro n
 induction n with
 | zero =>
  intro R ds k r h
  unfold m_Z84 at h
  obtain ⟨x0, d0, rfl, h0⟩ := dI_some h
  obtain ⟨x1, d1, rfl, h1⟩ := dL_some h0
  obtain ⟨x2, d2, rfl, h2⟩ := dI_some h1
  obtain ⟨x3, d3, rfl, h3⟩ := dI_some h2
  obtain ⟨rfl, hE⟩ := dE_some h3
  obtain ⟨y, hy, hk⟩ := bnd_some hE
  cases hy
 | succ n ih =>
  intro R ds k r h
  unfold m_Z84 at h
  obtain ⟨x0, d0, rfl, h0⟩ := dI_some h
  obtain ⟨x1, d1, rfl, h1⟩ := dL_some h0
  obtain ⟨x2, d2, rfl, h2⟩ := dI_some h1
  obtain ⟨x3, d3, rfl, h3⟩ := dI_some h2
  obtain ⟨rfl, hE⟩ := dE_some h3
  obtain ⟨y, hy, hk⟩ := bnd_some hE
  have hq := q_Z84 (n_Z84 n) x0 x1 x2 x3
  rw [c_Z84_bind] at hq
  rw [show c_Z84 (n_Z84 n) x0 x1 x2 x3 some = some y from hy] at hq
  refine ⟨0, _, _, _, hk, rfl, loop_ok px (fx := ⟨Try.func64, by kernel_rfl, by kernel_rfl⟩) entsOK_nil (lentsOK_cons ih lentsOK_nil) (by kernel_rfl) ?_⟩
  exact hq
noncomputable def e_Z84 : Lent := m_Z84 (Z84)
theorem e_Z84_ok : (e_Z84).ok Try.prog (codeAt (bodyOf Try.f64) 3) := by
 intro R ds k r h
 unfold e_Z84 m_Z84 at h
 obtain ⟨x0, d0, rfl, h0⟩ := dI_some h
 obtain ⟨x1, d1, rfl, h1⟩ := dL_some h0
 obtain ⟨x2, d2, rfl, h2⟩ := dI_some h1
 obtain ⟨x3, d3, rfl, h3⟩ := dI_some h2
 obtain ⟨rfl, hE⟩ := dE_some h3
 obtain ⟨y, hy, hk⟩ := bnd_some hE
 obtain ⟨n, hn⟩ := ev_some hy
 exact m_Z84_ok n R _ k r (show (n_Z84 n x0 x1 x2 x3).bind _ = _ by rw [hn]; exact hk)

/-!-/
def c_Z85 {R : Type} (x0 : List D) (k : Int → Option R) : Option R :=
 (Z84 (0 : Int) x0 (↑x0.length : Int) (0 : Int)).bind (fun y0 =>
 k y0)
theorem c_Z85_bind {R : Type} (x0 : List D) (k : Int → Option R) : c_Z85 x0 k = (c_Z85 x0 some).bind k := by
 unfold c_Z85
 repeat' first|exact bnd_tail|exact bnd_none|exact bnd_leaf|apply bnd_ite|apply bnd_cond|apply bnd_sum|(apply bnd_bind;intro _)|intro _
def Z85 (x0 : List D) : Option (Int) := c_Z85 x0 some
def e_Z85 : Ent := ⟨64, [.rd (.int .i64)], .int .i64, [.undef], fun _ ds k => dL (fun x0 ds => dE ((Z85 x0).bind (fun y => k [.I y])) ds) ds⟩
theorem q_Z85 (x0 : List D) : runFn (ocOf []) (olOf [e_Z84]) A 64 Try.f64 (Sh.mks e_Z85.sh [.L x0]).1 (fun v os => some (v, os)) = c_Z85 x0 (fun y => some ((e_Z85.res.mk [.I y]).1, (Sh.mks e_Z85.outs (e_Z85.res.mk [.I y]).2).1)) := by kernel_rfl
theorem e_Z85_ok : e_Z85.ok Try.prog A := by
 intro R ds k r h
 unfold e_Z85 at h
 obtain ⟨x0, d0, rfl, h0⟩ := dL_some h
 obtain ⟨rfl, hE⟩ := dE_some h0
 obtain ⟨y, hy, hk⟩ := bnd_some hE
 refine ⟨_, hk, fn_ok px (fx := ⟨Try.func64, by kernel_rfl, by kernel_rfl⟩) entsOK_nil (lentsOK_cons e_Z84_ok lentsOK_nil) ?_⟩
 have hq := q_Z85 x0
 rw [c_Z85_bind] at hq
 rw [show c_Z85 x0 some = some y from hy] at hq
 exact hq

/-!-/
def c_Z86 {R : Type} (x0 : List D) (x1 : List D) (k : Int → Option R) : Option R :=
 (Z82 x0 x1).bind (fun y0 =>
 (Z85 y0).bind (fun y1 =>
 k y1))
theorem c_Z86_bind {R : Type} (x0 : List D) (x1 : List D) (k : Int → Option R) : c_Z86 x0 x1 k = (c_Z86 x0 x1 some).bind k := by
 unfold c_Z86
 repeat' first|exact bnd_tail|exact bnd_none|exact bnd_leaf|apply bnd_ite|apply bnd_cond|apply bnd_sum|(apply bnd_bind;intro _)|intro _
def Z86 (x0 : List D) (x1 : List D) : Option (Int) := c_Z86 x0 x1 some
def e_Z86 : Ent := ⟨53, [.agg [.rd (.slice (.int .i64))], .rd (.int .i64)], .int .i64, [.undef, .undef], fun _ ds k => dL (fun x0 ds => dL (fun x1 ds => dE ((Z86 x0 x1).bind (fun y => k [.I y])) ds) ds) ds⟩
theorem q_Z86 (x0 : List D) (x1 : List D) : runFn (ocOf [e_Z82, e_Z85]) (olOf []) A 53 Try.f53 (Sh.mks e_Z86.sh [.L x0, .L x1]).1 (fun v os => some (v, os)) = c_Z86 x0 x1 (fun y => some ((e_Z86.res.mk [.I y]).1, (Sh.mks e_Z86.outs (e_Z86.res.mk [.I y]).2).1)) := by kernel_rfl
theorem e_Z86_ok : e_Z86.ok Try.prog A := by
 intro R ds k r h
 unfold e_Z86 at h
 obtain ⟨x0, d0, rfl, h0⟩ := dL_some h
 obtain ⟨x1, d1, rfl, h1⟩ := dL_some h0
 obtain ⟨rfl, hE⟩ := dE_some h1
 obtain ⟨y, hy, hk⟩ := bnd_some hE
 refine ⟨_, hk, fn_ok px (fx := ⟨Try.func53, by kernel_rfl, by kernel_rfl⟩) (entsOK_cons e_Z82_ok (entsOK_cons e_Z85_ok entsOK_nil)) lentsOK_nil ?_⟩
 have hq := q_Z86 x0 x1
 rw [c_Z86_bind] at hq
 rw [show c_Z86 x0 x1 some = some y from hy] at hq
 exact hq

/-!-/
def c_Z87 {R : Type} (F : List D → List D → Int → Int → List D → List D → List D → Option (List D)) (x0 : List D) (x1 : List D) (x2 : Int) (x3 : Int) (x4 : List D) (x5 : List D) (x6 : List D) (k : List D → Option R) : Option R :=
 bif decide (x3 < x2) then
 if 0 ≤ x3 ∧ x3 < (↑x1.length : Int) then
 (Z34 x0).bind (fun y0 =>
 (Z83 y0 x3 (IntKind.i64.wrap (x3 + 1))).bind (fun y1 =>
 (Z86 x4 y1).bind (fun y2 =>
 (Z85 x5).bind (fun y3 =>
 if 0 ≤ x3 ∧ x3 < (↑x5.length : Int) then
 if x3.toNat + 1 ≤ x5.length then
 bif decide (y2 < IntKind.i64.wrap (y3 - (x5.getD x3.toNat (D.int 0)).toInt)) then
 if x6.length + [D.int (x1.getD x3.toNat (D.int 0)).toInt].length ≤ (4294967296 : Nat) then
 (F x0 x1 x2 (IntKind.i64.wrap (x3 + 1)) x4 x5 (x6 ++ [D.int (x1.getD x3.toNat (D.int 0)).toInt])).bind k
 else
 none
 else
 (F x0 x1 x2 (IntKind.i64.wrap (x3 + 1)) x4 x5 x6).bind k
 else
 none
 else
 none))))
 else
 none
 else
 k x6
theorem c_Z87_bind {R : Type} (F : List D → List D → Int → Int → List D → List D → List D → Option (List D)) (x0 : List D) (x1 : List D) (x2 : Int) (x3 : Int) (x4 : List D) (x5 : List D) (x6 : List D) (k : List D → Option R) : c_Z87 F x0 x1 x2 x3 x4 x5 x6 k = (c_Z87 F x0 x1 x2 x3 x4 x5 x6 some).bind k := by
 unfold c_Z87
 repeat' first|exact bnd_tail|exact bnd_none|exact bnd_leaf|apply bnd_ite|apply bnd_cond|apply bnd_sum|(apply bnd_bind;intro _)|intro _
def n_Z87 : Nat → List D → List D → Int → Int → List D → List D → List D → Option (List D)
 | 0, _, _, _, _, _, _, _ => none
 | n + 1, x0, x1, x2, x3, x4, x5, x6 => c_Z87 (n_Z87 n) x0 x1 x2 x3 x4 x5 x6 some
noncomputable def Z87 (x0 : List D) (x1 : List D) (x2 : Int) (x3 : Int) (x4 : List D) (x5 : List D) (x6 : List D) : Option (List D) := ev (fun n => n_Z87 n x0 x1 x2 x3 x4 x5 x6)
def m_Z87 (F : List D → List D → Int → Int → List D → List D → List D → Option (List D)) : Lent := ⟨6, ⟨(.undef :: .rd (.int .i64) :: .ptr 1000 [0] :: .undef :: .undef :: .undef :: .full 1001 [] (.int .i64) :: .full 1002 [] (.int .i64) :: uu 11 (.rd (.int .i64) :: .int .i64 :: .int .i64 :: uu 29 ([]))), [(1000, .obox (.agg [.rd (.slice (.int .i64))])), (1001, .own (.int .i64)), (1002, .own (.int .i64))]⟩, [(.exit 0, ⟨(uu 7 (.full 1000 [] (.int .i64) :: uu 43 ([]))), [(1000, .own (.int .i64))]⟩)], fun _ ds k => dL (fun x0 ds => dL (fun x1 ds => dI (fun x2 ds => dI (fun x3 ds => dL (fun x4 ds => dL (fun x5 ds => dL (fun x6 ds => dE ((F x0 x1 x2 x3 x4 x5 x6).bind (fun y => k 0 [.L y])) ds) ds) ds) ds) ds) ds) ds) ds⟩
theorem q_Z87 (F : List D → List D → Int → Int → List D → List D → List D → Option (List D)) (x0 : List D) (x1 : List D) (x2 : Int) (x3 : Int) (x4 : List D) (x5 : List D) (x6 : List D) : runLoop (ocOf [e_Z34, e_Z83, e_Z86, e_Z85]) (olOf [m_Z87 F]) A 37 (codeAt (bodyOf Try.f37) 6) ((m_Z87 F).sh.mk' [.L x0, .L x1, .I x2, .I x3, .L x4, .L x5, .L x6]) (fun e σ' => some (e, σ')) = c_Z87 F x0 x1 x2 x3 x4 x5 x6 (fun y => some (.exit 0, SSt.mk' ⟨(uu 7 (.full 1000 [] (.int .i64) :: uu 43 ([]))), [(1000, .own (.int .i64))]⟩ [.L y])) := by kernel_rfl
theorem m_Z87_ok : ∀ n, (m_Z87 (n_Z87 n)).ok Try.prog (codeAt (bodyOf Try.f37) 6) := by
 intro n
 induction n with
 | zero =>
  intro R ds k r h
  unfold m_Z87 at h
  obtain ⟨x0, d0, rfl, h0⟩ := dL_some h
  obtain ⟨x1, d1, rfl, h1⟩ := dL_some h0
  obtain ⟨x2, d2, rfl, h2⟩ := dI_some h1
  obtain ⟨x3, d3, rfl, h3⟩ := dI_some h2
  obtain ⟨x4, d4, rfl, h4⟩ := dL_some h3
  obtain ⟨x5, d5, rfl, h5⟩ := dL_some h4
  obtain ⟨x6, d6, rfl, h6⟩ := dL_some h5
  obtain ⟨rfl, hE⟩ := dE_some h6
  obtain ⟨y, hy, hk⟩ := bnd_some hE
  cases hy
 | succ n ih =>
  intro R ds k r h
  unfold m_Z87 at h
  obtain ⟨x0, d0, rfl, h0⟩ := dL_some h
  obtain ⟨x1, d1, rfl, h1⟩ := dL_some h0
  obtain ⟨x2, d2, rfl, h2⟩ := dI_some h1
  obtain ⟨x3, d3, rfl, h3⟩ := dI_some h2
  obtain ⟨x4, d4, rfl, h4⟩ := dL_some h3
  obtain ⟨x5, d5, rfl, h5⟩ := dL_some h4
  obtain ⟨x6, d6, rfl, h6⟩ := dL_some h5
  obtain ⟨rfl, hE⟩ := dE_some h6
  obtain ⟨y, hy, hk⟩ := bnd_some hE
  have hq := q_Z87 (n_Z87 n) x0 x1 x2 x3 x4 x5 x6
  rw [c_Z87_bind] at hq
  rw [show c_Z87 (n_Z87 n) x0 x1 x2 x3 x4 x5 x6 some = some y from hy] at hq
  refine ⟨0, _, _, _, hk, rfl, loop_ok px (fx := ⟨Try.func37, by kernel_rfl, by kernel_rfl⟩) (entsOK_cons e_Z34_ok (entsOK_cons e_Z83_ok (entsOK_cons e_Z86_ok (entsOK_cons e_Z85_ok entsOK_nil)))) (lentsOK_cons ih lentsOK_nil) (by kernel_rfl) ?_⟩
  exact hq
noncomputable def e_Z87 : Lent := m_Z87 (Z87)
theorem e_Z87_ok : (e_Z87).ok Try.prog (codeAt (bodyOf Try.f37) 6) := by
 intro R ds k r h
 unfold e_Z87 m_Z87 at h
 obtain ⟨x0, d0, rfl, h0⟩ := dL_some h
 obtain ⟨x1, d1, rfl, h1⟩ := dL_some h0
 obtain ⟨x2, d2, rfl, h2⟩ := dI_some h1
 obtain ⟨x3, d3, rfl, h3⟩ := dI_some h2
 obtain ⟨x4, d4, rfl, h4⟩ := dL_some h3
 obtain ⟨x5, d5, rfl, h5⟩ := dL_some h4
 obtain ⟨x6, d6, rfl, h6⟩ := dL_some h5
 obtain ⟨rfl, hE⟩ := dE_some h6
 obtain ⟨y, hy, hk⟩ := bnd_some hE
 obtain ⟨n, hn⟩ := ev_some hy
 exact m_Z87_ok n R _ k r (show (n_Z87 n x0 x1 x2 x3 x4 x5 x6).bind _ = _ by rw [hn]; exact hk)

/-!-/
def c_Z88 {R : Type} (x0 : List D) (x1 : List D) (k : List D × Bool → Option R) : Option R :=
 (Z77 x0 x1).bind (fun y0 =>
 bif !y0 then
 k ([], Bool.false)
 else
 (Z82 x0 x1).bind (fun y1 =>
 (Z87 x1 x1 (↑x1.length : Int) (0 : Int) x0 y1 []).bind (fun y2 =>
 (Z74 y2).bind (fun y3 =>
 k (y3, Bool.true)))))
theorem c_Z88_bind {R : Type} (x0 : List D) (x1 : List D) (k : List D × Bool → Option R) : c_Z88 x0 x1 k = (c_Z88 x0 x1 some).bind k := by
 unfold c_Z88
 repeat' first|exact bnd_tail|exact bnd_none|exact bnd_leaf|apply bnd_ite|apply bnd_cond|apply bnd_sum|(apply bnd_bind;intro _)|intro _
def Z88 (x0 : List D) (x1 : List D) : Option (List D × Bool) := c_Z88 x0 x1 some
def e_Z88 : Ent := ⟨37, [.agg [.rd (.slice (.int .i64))], .rd (.int .i64)], .tup [.own (.int .i64), .bool], [.undef, .undef], fun _ ds k => dL (fun x0 ds => dL (fun x1 ds => dE ((Z88 x0 x1).bind (fun y => k [.L y.1, .B y.2])) ds) ds) ds⟩
theorem q_Z88 (x0 : List D) (x1 : List D) : runFn (ocOf [e_Z77, e_Z82, e_Z74]) (olOf [e_Z87]) A 37 Try.f37 (Sh.mks e_Z88.sh [.L x0, .L x1]).1 (fun v os => some (v, os)) = c_Z88 x0 x1 (fun y => some ((e_Z88.res.mk [.L y.1, .B y.2]).1, (Sh.mks e_Z88.outs (e_Z88.res.mk [.L y.1, .B y.2]).2).1)) := by kernel_rfl
theorem e_Z88_ok : e_Z88.ok Try.prog A := by
 intro R ds k r h
 unfold e_Z88 at h
 obtain ⟨x0, d0, rfl, h0⟩ := dL_some h
 obtain ⟨x1, d1, rfl, h1⟩ := dL_some h0
 obtain ⟨rfl, hE⟩ := dE_some h1
 obtain ⟨y, hy, hk⟩ := bnd_some hE
 refine ⟨_, hk, fn_ok px (fx := ⟨Try.func37, by kernel_rfl, by kernel_rfl⟩) (entsOK_cons e_Z77_ok (entsOK_cons e_Z82_ok (entsOK_cons e_Z74_ok entsOK_nil))) (lentsOK_cons e_Z87_ok lentsOK_nil) ?_⟩
 have hq := q_Z88 x0 x1
 rw [c_Z88_bind] at hq
 rw [show c_Z88 x0 x1 some = some y from hy] at hq
 exact hq

/-!-/
def c_Z89 {R : Type} (F : List D → List D → Int → Option ((Bool) ⊕ (Unit))) (x0 : List D) (x1 : List D) (x2 : Int) (k : (Bool) ⊕ (Unit) → Option R) : Option R :=
 bif decide (x2 < (↑x0.length : Int)) then
 if 0 ≤ x2 ∧ x2 < (↑x0.length : Int) then
 if 0 ≤ x2 ∧ x2 < (↑x1.length : Int) then
 bif !decide ((x0.getD x2.toNat (D.int 0)).toInt = (x1.getD x2.toNat (D.int 0)).toInt) then
 k (.inl Bool.false)
 else
 (F x0 x1 (IntKind.i64.wrap (x2 + 1))).bind k
 else
 none
 else
 none
 else
 k (.inr ())
theorem c_Z89_bind {R : Type} (F : List D → List D → Int → Option ((Bool) ⊕ (Unit))) (x0 : List D) (x1 : List D) (x2 : Int) (k : (Bool) ⊕ (Unit) → Option R) : c_Z89 F x0 x1 x2 k = (c_Z89 F x0 x1 x2 some).bind k := by
 unfold c_Z89
 repeat' first|exact bnd_tail|exact bnd_none|exact bnd_leaf|apply bnd_ite|apply bnd_cond|apply bnd_sum|(apply bnd_bind;intro _)|intro _
def n_Z89 : Nat → List D → List D → Int → Option ((Bool) ⊕ (Unit))
 | 0, _, _, _ => none
 | n + 1, x0, x1, x2 => c_Z89 (n_Z89 n) x0 x1 x2 some
noncomputable def Z89 (x0 : List D) (x1 : List D) (x2 : Int) : Option ((Bool) ⊕ (Unit)) := ev (fun n => n_Z89 n x0 x1 x2)
def m_Z89 (F : List D → List D → Int → Option ((Bool) ⊕ (Unit))) : Lent := ⟨4, ⟨(.rd (.int .i64) :: .rd (.int .i64) :: .undef :: .undef :: .undef :: .int .i64 :: uu 20 ([])), []⟩, [(.ret, ⟨(uu 4 (.bool :: uu 21 ([]))), []⟩), (.exit 0, ⟨(uu 26 ([])), []⟩)], fun _ ds k => dL (fun x0 ds => dL (fun x1 ds => dI (fun x2 ds => dE ((F x0 x1 x2).bind (Sum.elim (fun y => k 0 [.B y]) (fun y => k 1 []))) ds) ds) ds) ds⟩
theorem q_Z89 (F : List D → List D → Int → Option ((Bool) ⊕ (Unit))) (x0 : List D) (x1 : List D) (x2 : Int) : runLoop (ocOf []) (olOf [m_Z89 F]) A 21 (codeAt (bodyOf Try.f21) 4) ((m_Z89 F).sh.mk' [.L x0, .L x1, .I x2]) (fun e σ' => some (e, σ')) = c_Z89 F x0 x1 x2 (Sum.elim (fun y => some (.ret, SSt.mk' ⟨(uu 4 (.bool :: uu 21 ([]))), []⟩ [.B y])) (fun y => some (.exit 0, SSt.mk' ⟨(uu 26 ([])), []⟩ []))) := by kernel_rfl
theorem m_Z89_ok : ∀ n, (m_Z89 (n_Z89 n)).ok Try.prog (codeAt (bodyOf Try.f21) 4) := by
 intro n
 induction n with
 | zero =>
  intro R ds k r h
  unfold m_Z89 at h
  obtain ⟨x0, d0, rfl, h0⟩ := dL_some h
  obtain ⟨x1, d1, rfl, h1⟩ := dL_some h0
  obtain ⟨x2, d2, rfl, h2⟩ := dI_some h1
  obtain ⟨rfl, hE⟩ := dE_some h2
  obtain ⟨y, hy, hk⟩ := bnd_some hE
  cases hy
 | succ n ih =>
  intro R ds k r h
  unfold m_Z89 at h
  obtain ⟨x0, d0, rfl, h0⟩ := dL_some h
  obtain ⟨x1, d1, rfl, h1⟩ := dL_some h0
  obtain ⟨x2, d2, rfl, h2⟩ := dI_some h1
  obtain ⟨rfl, hE⟩ := dE_some h2
  obtain ⟨y, hy, hk⟩ := bnd_some hE
  have hq := q_Z89 (n_Z89 n) x0 x1 x2
  rw [c_Z89_bind] at hq
  rw [show c_Z89 (n_Z89 n) x0 x1 x2 some = some y from hy] at hq
  cases y with
  | inl y =>
   refine ⟨0, _, _, _, hk, rfl, loop_ok px (fx := ⟨Try.func21, by kernel_rfl, by kernel_rfl⟩) entsOK_nil (lentsOK_cons ih lentsOK_nil) (by kernel_rfl) ?_⟩
   exact hq
  | inr y =>
   refine ⟨1, _, _, _, hk, rfl, loop_ok px (fx := ⟨Try.func21, by kernel_rfl, by kernel_rfl⟩) entsOK_nil (lentsOK_cons ih lentsOK_nil) (by kernel_rfl) ?_⟩
   exact hq
noncomputable def e_Z89 : Lent := m_Z89 (Z89)
theorem e_Z89_ok : (e_Z89).ok Try.prog (codeAt (bodyOf Try.f21) 4) := by
 intro R ds k r h
 unfold e_Z89 m_Z89 at h
 obtain ⟨x0, d0, rfl, h0⟩ := dL_some h
 obtain ⟨x1, d1, rfl, h1⟩ := dL_some h0
 obtain ⟨x2, d2, rfl, h2⟩ := dI_some h1
 obtain ⟨rfl, hE⟩ := dE_some h2
 obtain ⟨y, hy, hk⟩ := bnd_some hE
 obtain ⟨n, hn⟩ := ev_some hy
 exact m_Z89_ok n R _ k r (show (n_Z89 n x0 x1 x2).bind _ = _ by rw [hn]; exact hk)

/-!-/
def c_Z90 {R : Type} (x0 : List D) (x1 : List D) (k : Bool → Option R) : Option R :=
 bif !decide ((↑x0.length : Int) = (↑x1.length : Int)) then
 k Bool.false
 else
 (Z89 x0 x1 (0 : Int)).bind (Sum.elim (fun y0 =>
 k y0) (fun y1 =>
 k Bool.true))
theorem c_Z90_bind {R : Type} (x0 : List D) (x1 : List D) (k : Bool → Option R) : c_Z90 x0 x1 k = (c_Z90 x0 x1 some).bind k := by
 unfold c_Z90
 repeat' first|exact bnd_tail|exact bnd_none|exact bnd_leaf|apply bnd_ite|apply bnd_cond|apply bnd_sum|(apply bnd_bind;intro _)|intro _
def Z90 (x0 : List D) (x1 : List D) : Option (Bool) := c_Z90 x0 x1 some
def e_Z90 : Ent := ⟨21, [.rd (.int .i64), .rd (.int .i64)], .bool, [.undef, .undef], fun _ ds k => dL (fun x0 ds => dL (fun x1 ds => dE ((Z90 x0 x1).bind (fun y => k [.B y])) ds) ds) ds⟩
theorem q_Z90 (x0 : List D) (x1 : List D) : runFn (ocOf []) (olOf [e_Z89]) A 21 Try.f21 (Sh.mks e_Z90.sh [.L x0, .L x1]).1 (fun v os => some (v, os)) = c_Z90 x0 x1 (fun y => some ((e_Z90.res.mk [.B y]).1, (Sh.mks e_Z90.outs (e_Z90.res.mk [.B y]).2).1)) := by kernel_rfl
theorem e_Z90_ok : e_Z90.ok Try.prog A := by
 intro R ds k r h
 unfold e_Z90 at h
 obtain ⟨x0, d0, rfl, h0⟩ := dL_some h
 obtain ⟨x1, d1, rfl, h1⟩ := dL_some h0
 obtain ⟨rfl, hE⟩ := dE_some h1
 obtain ⟨y, hy, hk⟩ := bnd_some hE
 refine ⟨_, hk, fn_ok px (fx := ⟨Try.func21, by kernel_rfl, by kernel_rfl⟩) entsOK_nil (lentsOK_cons e_Z89_ok lentsOK_nil) ?_⟩
 have hq := q_Z90 x0 x1
 rw [c_Z90_bind] at hq
 rw [show c_Z90 x0 x1 some = some y from hy] at hq
 exact hq

/-!-/
def c_Z91 {R : Type} (F : List D → List D → Int → Option ((Bool) ⊕ (Unit))) (x0 : List D) (x1 : List D) (x2 : Int) (k : (Bool) ⊕ (Unit) → Option R) : Option R :=
 bif decide (x2 < (↑x0.length : Int)) then
 if 0 ≤ x2 ∧ x2 < (↑x0.length : Int) then
 if 0 ≤ x2 ∧ x2 < (↑x1.length : Int) then
 (Z90 ((x0.getD x2.toNat (D.int 0)).items) ((x1.getD x2.toNat (D.int 0)).items)).bind (fun y0 =>
 bif !y0 then
 k (.inl Bool.false)
 else
 (F x0 x1 (IntKind.i64.wrap (x2 + 1))).bind k)
 else
 none
 else
 none
 else
 k (.inr ())
theorem c_Z91_bind {R : Type} (F : List D → List D → Int → Option ((Bool) ⊕ (Unit))) (x0 : List D) (x1 : List D) (x2 : Int) (k : (Bool) ⊕ (Unit) → Option R) : c_Z91 F x0 x1 x2 k = (c_Z91 F x0 x1 x2 some).bind k := by
 unfold c_Z91
 repeat' first|exact bnd_tail|exact bnd_none|exact bnd_leaf|apply bnd_ite|apply bnd_cond|apply bnd_sum|(apply bnd_bind;intro _)|intro _
def n_Z91 : Nat → List D → List D → Int → Option ((Bool) ⊕ (Unit))
 | 0, _, _, _ => none
 | n + 1, x0, x1, x2 => c_Z91 (n_Z91 n) x0 x1 x2 some
noncomputable def Z91 (x0 : List D) (x1 : List D) (x2 : Int) : Option ((Bool) ⊕ (Unit)) := ev (fun n => n_Z91 n x0 x1 x2)
def m_Z91 (F : List D → List D → Int → Option ((Bool) ⊕ (Unit))) : Lent := ⟨4, ⟨(.rd (.slice (.int .i64)) :: .rd (.slice (.int .i64)) :: .undef :: .undef :: .undef :: .int .i64 :: uu 21 ([])), []⟩, [(.ret, ⟨(uu 4 (.bool :: uu 22 ([]))), []⟩), (.exit 0, ⟨(uu 27 ([])), []⟩)], fun _ ds k => dL (fun x0 ds => dL (fun x1 ds => dI (fun x2 ds => dE ((F x0 x1 x2).bind (Sum.elim (fun y => k 0 [.B y]) (fun y => k 1 []))) ds) ds) ds) ds⟩
theorem q_Z91 (F : List D → List D → Int → Option ((Bool) ⊕ (Unit))) (x0 : List D) (x1 : List D) (x2 : Int) : runLoop (ocOf [e_Z90]) (olOf [m_Z91 F]) A 46 (codeAt (bodyOf Try.f46) 4) ((m_Z91 F).sh.mk' [.L x0, .L x1, .I x2]) (fun e σ' => some (e, σ')) = c_Z91 F x0 x1 x2 (Sum.elim (fun y => some (.ret, SSt.mk' ⟨(uu 4 (.bool :: uu 22 ([]))), []⟩ [.B y])) (fun y => some (.exit 0, SSt.mk' ⟨(uu 27 ([])), []⟩ []))) := by kernel_rfl
theorem m_Z91_ok : ∀ n, (m_Z91 (n_Z91 n)).ok Try.prog (codeAt (bodyOf Try.f46) 4) := by
 intro n
 induction n with
 | zero =>
  intro R ds k r h
  unfold m_Z91 at h
  obtain ⟨x0, d0, rfl, h0⟩ := dL_some h
  obtain ⟨x1, d1, rfl, h1⟩ := dL_some h0
  obtain ⟨x2, d2, rfl, h2⟩ := dI_some h1
  obtain ⟨rfl, hE⟩ := dE_some h2
  obtain ⟨y, hy, hk⟩ := bnd_some hE
  cases hy
 | succ n ih =>
  intro R ds k r h
  unfold m_Z91 at h
  obtain ⟨x0, d0, rfl, h0⟩ := dL_some h
  obtain ⟨x1, d1, rfl, h1⟩ := dL_some h0
  obtain ⟨x2, d2, rfl, h2⟩ := dI_some h1
  obtain ⟨rfl, hE⟩ := dE_some h2
  obtain ⟨y, hy, hk⟩ := bnd_some hE
  have hq := q_Z91 (n_Z91 n) x0 x1 x2
  rw [c_Z91_bind] at hq
  rw [show c_Z91 (n_Z91 n) x0 x1 x2 some = some y from hy] at hq
  cases y with
  | inl y =>
   refine ⟨0, _, _, _, hk, rfl, loop_ok px (fx := ⟨Try.func46, by kernel_rfl, by kernel_rfl⟩) (entsOK_cons e_Z90_ok entsOK_nil) (lentsOK_cons ih lentsOK_nil) (by kernel_rfl) ?_⟩
   exact hq
  | inr y =>
   refine ⟨1, _, _, _, hk, rfl, loop_ok px (fx := ⟨Try.func46, by kernel_rfl, by kernel_rfl⟩) (entsOK_cons e_Z90_ok entsOK_nil) (lentsOK_cons ih lentsOK_nil) (by kernel_rfl) ?_⟩
   exact hq
noncomputable def e_Z91 : Lent := m_Z91 (Z91)
theorem e_Z91_ok : (e_Z91).ok Try.prog (codeAt (bodyOf Try.f46) 4) := by
 intro R ds k r h
 unfold e_Z91 m_Z91 at h
 obtain ⟨x0, d0, rfl, h0⟩ := dL_some h
 obtain ⟨x1, d1, rfl, h1⟩ := dL_some h0
 obtain ⟨x2, d2, rfl, h2⟩ := dI_some h1
 obtain ⟨rfl, hE⟩ := dE_some h2
 obtain ⟨y, hy, hk⟩ := bnd_some hE
 obtain ⟨n, hn⟩ := ev_some hy
 exact m_Z91_ok n R _ k r (show (n_Z91 n x0 x1 x2).bind _ = _ by rw [hn]; exact hk)

/-!-/
def c_Z92 {R : Type} (x0 : List D) (x1 : List D) (k : Bool → Option R) : Option R :=
 bif !decide ((↑x0.length : Int) = (↑x1.length : Int)) then
 k Bool.false
 else
 (Z91 x0 x1 (0 : Int)).bind (Sum.elim (fun y0 =>
 k y0) (fun y1 =>
 k Bool.true))
theorem c_Z92_bind {R : Type} (x0 : List D) (x1 : List D) (k : Bool → Option R) : c_Z92 x0 x1 k = (c_Z92 x0 x1 some).bind k := by
 unfold c_Z92
 repeat' first|exact bnd_tail|exact bnd_none|exact bnd_leaf|apply bnd_ite|apply bnd_cond|apply bnd_sum|(apply bnd_bind;intro _)|intro _
def Z92 (x0 : List D) (x1 : List D) : Option (Bool) := c_Z92 x0 x1 some
def e_Z92 : Ent := ⟨46, [.rd (.slice (.int .i64)), .rd (.slice (.int .i64))], .bool, [.undef, .undef], fun _ ds k => dL (fun x0 ds => dL (fun x1 ds => dE ((Z92 x0 x1).bind (fun y => k [.B y])) ds) ds) ds⟩
theorem q_Z92 (x0 : List D) (x1 : List D) : runFn (ocOf []) (olOf [e_Z91]) A 46 Try.f46 (Sh.mks e_Z92.sh [.L x0, .L x1]).1 (fun v os => some (v, os)) = c_Z92 x0 x1 (fun y => some ((e_Z92.res.mk [.B y]).1, (Sh.mks e_Z92.outs (e_Z92.res.mk [.B y]).2).1)) := by kernel_rfl
theorem e_Z92_ok : e_Z92.ok Try.prog A := by
 intro R ds k r h
 unfold e_Z92 at h
 obtain ⟨x0, d0, rfl, h0⟩ := dL_some h
 obtain ⟨x1, d1, rfl, h1⟩ := dL_some h0
 obtain ⟨rfl, hE⟩ := dE_some h1
 obtain ⟨y, hy, hk⟩ := bnd_some hE
 refine ⟨_, hk, fn_ok px (fx := ⟨Try.func46, by kernel_rfl, by kernel_rfl⟩) entsOK_nil (lentsOK_cons e_Z91_ok lentsOK_nil) ?_⟩
 have hq := q_Z92 x0 x1
 rw [c_Z92_bind] at hq
 rw [show c_Z92 x0 x1 some = some y from hy] at hq
 exact hq

/-!-/
def c_Z93 {R : Type} (x0 : List D) (x1 : List D) (k : Bool → Option R) : Option R :=
 (Z92 x0 x1).bind (fun y0 =>
 bif !y0 then
 k Bool.false
 else
 k Bool.true)
theorem c_Z93_bind {R : Type} (x0 : List D) (x1 : List D) (k : Bool → Option R) : c_Z93 x0 x1 k = (c_Z93 x0 x1 some).bind k := by
 unfold c_Z93
 repeat' first|exact bnd_tail|exact bnd_none|exact bnd_leaf|apply bnd_ite|apply bnd_cond|apply bnd_sum|(apply bnd_bind;intro _)|intro _
def Z93 (x0 : List D) (x1 : List D) : Option (Bool) := c_Z93 x0 x1 some
def e_Z93 : Ent := ⟨16, [.agg [.rd (.slice (.int .i64))], .agg [.rd (.slice (.int .i64))]], .bool, [.undef, .undef], fun _ ds k => dL (fun x0 ds => dL (fun x1 ds => dE ((Z93 x0 x1).bind (fun y => k [.B y])) ds) ds) ds⟩
theorem q_Z93 (x0 : List D) (x1 : List D) : runFn (ocOf [e_Z92]) (olOf []) A 16 Try.f16 (Sh.mks e_Z93.sh [.L x0, .L x1]).1 (fun v os => some (v, os)) = c_Z93 x0 x1 (fun y => some ((e_Z93.res.mk [.B y]).1, (Sh.mks e_Z93.outs (e_Z93.res.mk [.B y]).2).1)) := by kernel_rfl
theorem e_Z93_ok : e_Z93.ok Try.prog A := by
 intro R ds k r h
 unfold e_Z93 at h
 obtain ⟨x0, d0, rfl, h0⟩ := dL_some h
 obtain ⟨x1, d1, rfl, h1⟩ := dL_some h0
 obtain ⟨rfl, hE⟩ := dE_some h1
 obtain ⟨y, hy, hk⟩ := bnd_some hE
 refine ⟨_, hk, fn_ok px (fx := ⟨Try.func16, by kernel_rfl, by kernel_rfl⟩) (entsOK_cons e_Z92_ok entsOK_nil) lentsOK_nil ?_⟩
 have hq := q_Z93 x0 x1
 rw [c_Z93_bind] at hq
 rw [show c_Z93 x0 x1 some = some y from hy] at hq
 exact hq

/-!-/
def c_Z94 {R : Type} (F : Int → Int → List D → Option (Int × List D)) (x0 : Int) (x1 : Int) (x2 : List D) (k : Int × List D → Option R) : Option R :=
 bif decide (x1 < (↑x2.length : Int)) then
 if 0 ≤ x1 ∧ x1 < (↑x2.length : Int) then
 if x1.toNat + 1 ≤ x2.length then
 (F (IntKind.i64.wrap (x0 + 1)) (IntKind.i64.wrap (x1 + 1)) (x2.set x1.toNat (D.int x0))).bind k
 else
 none
 else
 none
 else
 k (x0, x2)
theorem c_Z94_bind {R : Type} (F : Int → Int → List D → Option (Int × List D)) (x0 : Int) (x1 : Int) (x2 : List D) (k : Int × List D → Option R) : c_Z94 F x0 x1 x2 k = (c_Z94 F x0 x1 x2 some).bind k := by
 unfold c_Z94
 repeat' first|exact bnd_tail|exact bnd_none|exact bnd_leaf|apply bnd_ite|apply bnd_cond|apply bnd_sum|(apply bnd_bind;intro _)|intro _
def n_Z94 : Nat → Int → Int → List D → Option (Int × List D)
 | 0, _, _, _ => none
 | n + 1, x0, x1, x2 => c_Z94 (n_Z94 n) x0 x1 x2 some
noncomputable def Z94 (x0 : Int) (x1 : Int) (x2 : List D) : Option (Int × List D) := ev (fun n => n_Z94 n x0 x1 x2)
def m_Z94 (F : Int → Int → List D → Option (Int × List D)) : Lent := ⟨2, ⟨(.full 1000 [] (.int .i64) :: .int .i64 :: .undef :: .undef :: .undef :: .int .i64 :: uu 13 ([])), [(1000, .own (.int .i64))]⟩, [(.exit 0, ⟨(.full 1000 [] (.int .i64) :: .int .i64 :: uu 17 ([])), [(1000, .own (.int .i64))]⟩)], fun _ ds k => dI (fun x0 ds => dI (fun x1 ds => dL (fun x2 ds => dE ((F x0 x1 x2).bind (fun y => k 0 [.I y.1, .L y.2])) ds) ds) ds) ds⟩
theorem q_Z94 (F : Int → Int → List D → Option (Int × List D)) (x0 : Int) (x1 : Int) (x2 : List D) : runLoop (ocOf []) (olOf [m_Z94 F]) A 23 (codeAt (bodyOf Try.f23) 2) ((m_Z94 F).sh.mk' [.I x0, .I x1, .L x2]) (fun e σ' => some (e, σ')) = c_Z94 F x0 x1 x2 (fun y => some (.exit 0, SSt.mk' ⟨(.full 1000 [] (.int .i64) :: .int .i64 :: uu 17 ([])), [(1000, .own (.int .i64))]⟩ [.I y.1, .L y.2])) := by kernel_rfl
theorem m_Z94_ok : ∀ n, (m_Z94 (n_Z94 n)).ok Try.prog (codeAt (bodyOf Try.f23) 2) := by
 intro n
 induction n with
 | zero =>
  intro R ds k r h
  unfold m_Z94 at h
  obtain ⟨x0, d0, rfl, h0⟩ := dI_some h
  obtain ⟨x1, d1, rfl, h1⟩ := dI_some h0
  obtain ⟨x2, d2, rfl, h2⟩ := dL_some h1
  obtain ⟨rfl, hE⟩ := dE_some h2
  obtain ⟨y, hy, hk⟩ := bnd_some hE
  cases hy
 | succ n ih =>
  intro R ds k r h
  unfold m_Z94 at h
  obtain ⟨x0, d0, rfl, h0⟩ := dI_some h
  obtain ⟨x1, d1, rfl, h1⟩ := dI_some h0
  obtain ⟨x2, d2, rfl, h2⟩ := dL_some h1
  obtain ⟨rfl, hE⟩ := dE_some h2
  obtain ⟨y, hy, hk⟩ := bnd_some hE
  have hq := q_Z94 (n_Z94 n) x0 x1 x2
  rw [c_Z94_bind] at hq
  rw [show c_Z94 (n_Z94 n) x0 x1 x2 some = some y from hy] at hq
  refine ⟨0, _, _, _, hk, rfl, loop_ok px (fx := ⟨Try.func23, by kernel_rfl, by kernel_rfl⟩) entsOK_nil (lentsOK_cons ih lentsOK_nil) (by kernel_rfl) ?_⟩
  exact hq
noncomputable def e_Z94 : Lent := m_Z94 (Z94)
theorem e_Z94_ok : (e_Z94).ok Try.prog (codeAt (bodyOf Try.f23) 2) := by
 intro R ds k r h
 unfold e_Z94 m_Z94 at h
 obtain ⟨x0, d0, rfl, h0⟩ := dI_some h
 obtain ⟨x1, d1, rfl, h1⟩ := dI_some h0
 obtain ⟨x2, d2, rfl, h2⟩ := dL_some h1
 obtain ⟨rfl, hE⟩ := dE_some h2
 obtain ⟨y, hy, hk⟩ := bnd_some hE
 obtain ⟨n, hn⟩ := ev_some hy
 exact m_Z94_ok n R _ k r (show (n_Z94 n x0 x1 x2).bind _ = _ by rw [hn]; exact hk)

/-!-/
def c_Z95 {R : Type} (x0 : List D) (x1 : Int) (k : Int × List D → Option R) : Option R :=
 (Z94 x1 (0 : Int) x0).bind (fun y0 =>
 k (y0.fst, y0.snd))
theorem c_Z95_bind {R : Type} (x0 : List D) (x1 : Int) (k : Int × List D → Option R) : c_Z95 x0 x1 k = (c_Z95 x0 x1 some).bind k := by
 unfold c_Z95
 repeat' first|exact bnd_tail|exact bnd_none|exact bnd_leaf|apply bnd_ite|apply bnd_cond|apply bnd_sum|(apply bnd_bind;intro _)|intro _
def Z95 (x0 : List D) (x1 : Int) : Option (Int × List D) := c_Z95 x0 x1 some
def e_Z95 : Ent := ⟨23, [.own (.int .i64), .int .i64], .int .i64, [.own (.int .i64), .undef], fun _ ds k => dL (fun x0 ds => dI (fun x1 ds => dE ((Z95 x0 x1).bind (fun y => k [.I y.1, .L y.2])) ds) ds) ds⟩
theorem q_Z95 (x0 : List D) (x1 : Int) : runFn (ocOf []) (olOf [e_Z94]) A 23 Try.f23 (Sh.mks e_Z95.sh [.L x0, .I x1]).1 (fun v os => some (v, os)) = c_Z95 x0 x1 (fun y => some ((e_Z95.res.mk [.I y.1, .L y.2]).1, (Sh.mks e_Z95.outs (e_Z95.res.mk [.I y.1, .L y.2]).2).1)) := by kernel_rfl
theorem e_Z95_ok : e_Z95.ok Try.prog A := by
 intro R ds k r h
 unfold e_Z95 at h
 obtain ⟨x0, d0, rfl, h0⟩ := dL_some h
 obtain ⟨x1, d1, rfl, h1⟩ := dI_some h0
 obtain ⟨rfl, hE⟩ := dE_some h1
 obtain ⟨y, hy, hk⟩ := bnd_some hE
 refine ⟨_, hk, fn_ok px (fx := ⟨Try.func23, by kernel_rfl, by kernel_rfl⟩) entsOK_nil (lentsOK_cons e_Z94_ok lentsOK_nil) ?_⟩
 have hq := q_Z95 x0 x1
 rw [c_Z95_bind] at hq
 rw [show c_Z95 x0 x1 some = some y from hy] at hq
 exact hq

/-!-/
def c_Z96 {R : Type} (F : Int → Int → List D → Option (Int × List D)) (x0 : Int) (x1 : Int) (x2 : List D) (k : Int × List D → Option R) : Option R :=
 bif decide (x1 < (↑x2.length : Int)) then
 if 0 ≤ x1 ∧ x1 < (↑x2.length : Int) then
 if x1.toNat + 1 ≤ x2.length then
 if x1.toNat + 1 ≤ x2.length then
 (Z95 ((x2.getD x1.toNat (D.int 0)).items) x0).bind (fun y0 =>
 (F y0.fst (IntKind.i64.wrap (x1 + 1)) (x2.set x1.toNat (D.node y0.snd))).bind k)
 else
 none
 else
 none
 else
 none
 else
 k (x0, x2)
theorem c_Z96_bind {R : Type} (F : Int → Int → List D → Option (Int × List D)) (x0 : Int) (x1 : Int) (x2 : List D) (k : Int × List D → Option R) : c_Z96 F x0 x1 x2 k = (c_Z96 F x0 x1 x2 some).bind k := by
 unfold c_Z96
 repeat' first|exact bnd_tail|exact bnd_none|exact bnd_leaf|apply bnd_ite|apply bnd_cond|apply bnd_sum|(apply bnd_bind;intro _)|intro _
def n_Z96 : Nat → Int → Int → List D → Option (Int × List D)
 | 0, _, _, _ => none
 | n + 1, x0, x1, x2 => c_Z96 (n_Z96 n) x0 x1 x2 some
noncomputable def Z96 (x0 : Int) (x1 : Int) (x2 : List D) : Option (Int × List D) := ev (fun n => n_Z96 n x0 x1 x2)
def m_Z96 (F : Int → Int → List D → Option (Int × List D)) : Lent := ⟨2, ⟨(.full 1000 [] (.slice (.int .i64)) :: .int .i64 :: .undef :: .undef :: .undef :: .int .i64 :: uu 13 ([])), [(1000, .own (.slice (.int .i64)))]⟩, [(.exit 0, ⟨(.full 1000 [] (.slice (.int .i64)) :: .int .i64 :: uu 17 ([])), [(1000, .own (.slice (.int .i64)))]⟩)], fun _ ds k => dI (fun x0 ds => dI (fun x1 ds => dL (fun x2 ds => dE ((F x0 x1 x2).bind (fun y => k 0 [.I y.1, .L y.2])) ds) ds) ds) ds⟩
theorem q_Z96 (F : Int → Int → List D → Option (Int × List D)) (x0 : Int) (x1 : Int) (x2 : List D) : runLoop (ocOf [e_Z95]) (olOf [m_Z96 F]) A 51 (codeAt (bodyOf Try.f51) 2) ((m_Z96 F).sh.mk' [.I x0, .I x1, .L x2]) (fun e σ' => some (e, σ')) = c_Z96 F x0 x1 x2 (fun y => some (.exit 0, SSt.mk' ⟨(.full 1000 [] (.slice (.int .i64)) :: .int .i64 :: uu 17 ([])), [(1000, .own (.slice (.int .i64)))]⟩ [.I y.1, .L y.2])) := by kernel_rfl
theorem m_Z96_ok : ∀ n, (m_Z96 (n_Z96 n)).ok Try.prog (codeAt (bodyOf Try.f51) 2) := by
 intro n
 induction n with
 | zero =>
  intro R ds k r h
  unfold m_Z96 at h
  obtain ⟨x0, d0, rfl, h0⟩ := dI_some h
  obtain ⟨x1, d1, rfl, h1⟩ := dI_some h0
  obtain ⟨x2, d2, rfl, h2⟩ := dL_some h1
  obtain ⟨rfl, hE⟩ := dE_some h2
  obtain ⟨y, hy, hk⟩ := bnd_some hE
  cases hy
 | succ n ih =>
  intro R ds k r h
  unfold m_Z96 at h
  obtain ⟨x0, d0, rfl, h0⟩ := dI_some h
  obtain ⟨x1, d1, rfl, h1⟩ := dI_some h0
  obtain ⟨x2, d2, rfl, h2⟩ := dL_some h1
  obtain ⟨rfl, hE⟩ := dE_some h2
  obtain ⟨y, hy, hk⟩ := bnd_some hE
  have hq := q_Z96 (n_Z96 n) x0 x1 x2
  rw [c_Z96_bind] at hq
  rw [show c_Z96 (n_Z96 n) x0 x1 x2 some = some y from hy] at hq
  refine ⟨0, _, _, _, hk, rfl, loop_ok px (fx := ⟨Try.func51, by kernel_rfl, by kernel_rfl⟩) (entsOK_cons e_Z95_ok entsOK_nil) (lentsOK_cons ih lentsOK_nil) (by kernel_rfl) ?_⟩
  exact hq
noncomputable def e_Z96 : Lent := m_Z96 (Z96)
theorem e_Z96_ok : (e_Z96).ok Try.prog (codeAt (bodyOf Try.f51) 2) := by
 intro R ds k r h
 unfold e_Z96 m_Z96 at h
 obtain ⟨x0, d0, rfl, h0⟩ := dI_some h
 obtain ⟨x1, d1, rfl, h1⟩ := dI_some h0
 obtain ⟨x2, d2, rfl, h2⟩ := dL_some h1
 obtain ⟨rfl, hE⟩ := dE_some h2
 obtain ⟨y, hy, hk⟩ := bnd_some hE
 obtain ⟨n, hn⟩ := ev_some hy
 exact m_Z96_ok n R _ k r (show (n_Z96 n x0 x1 x2).bind _ = _ by rw [hn]; exact hk)

/-!-/
def c_Z97 {R : Type} (x0 : List D) (x1 : Int) (k : Int × List D → Option R) : Option R :=
 (Z96 x1 (0 : Int) x0).bind (fun y0 =>
 k (y0.fst, y0.snd))
theorem c_Z97_bind {R : Type} (x0 : List D) (x1 : Int) (k : Int × List D → Option R) : c_Z97 x0 x1 k = (c_Z97 x0 x1 some).bind k := by
 unfold c_Z97
 repeat' first|exact bnd_tail|exact bnd_none|exact bnd_leaf|apply bnd_ite|apply bnd_cond|apply bnd_sum|(apply bnd_bind;intro _)|intro _
def Z97 (x0 : List D) (x1 : Int) : Option (Int × List D) := c_Z97 x0 x1 some
def e_Z97 : Ent := ⟨51, [.own (.slice (.int .i64)), .int .i64], .int .i64, [.own (.slice (.int .i64)), .undef], fun _ ds k => dL (fun x0 ds => dI (fun x1 ds => dE ((Z97 x0 x1).bind (fun y => k [.I y.1, .L y.2])) ds) ds) ds⟩
theorem q_Z97 (x0 : List D) (x1 : Int) : runFn (ocOf []) (olOf [e_Z96]) A 51 Try.f51 (Sh.mks e_Z97.sh [.L x0, .I x1]).1 (fun v os => some (v, os)) = c_Z97 x0 x1 (fun y => some ((e_Z97.res.mk [.I y.1, .L y.2]).1, (Sh.mks e_Z97.outs (e_Z97.res.mk [.I y.1, .L y.2]).2).1)) := by kernel_rfl
theorem e_Z97_ok : e_Z97.ok Try.prog A := by
 intro R ds k r h
 unfold e_Z97 at h
 obtain ⟨x0, d0, rfl, h0⟩ := dL_some h
 obtain ⟨x1, d1, rfl, h1⟩ := dI_some h0
 obtain ⟨rfl, hE⟩ := dE_some h1
 obtain ⟨y, hy, hk⟩ := bnd_some hE
 refine ⟨_, hk, fn_ok px (fx := ⟨Try.func51, by kernel_rfl, by kernel_rfl⟩) entsOK_nil (lentsOK_cons e_Z96_ok lentsOK_nil) ?_⟩
 have hq := q_Z97 x0 x1
 rw [c_Z97_bind] at hq
 rw [show c_Z97 x0 x1 some = some y from hy] at hq
 exact hq

/-!-/
def c_Z98 {R : Type} (x0 : List D) (x1 : Int) (k : Int × List D → Option R) : Option R :=
 (Z97 x0 x1).bind (fun y0 =>
 k (y0.fst, y0.snd))
theorem c_Z98_bind {R : Type} (x0 : List D) (x1 : Int) (k : Int × List D → Option R) : c_Z98 x0 x1 k = (c_Z98 x0 x1 some).bind k := by
 unfold c_Z98
 repeat' first|exact bnd_tail|exact bnd_none|exact bnd_leaf|apply bnd_ite|apply bnd_cond|apply bnd_sum|(apply bnd_bind;intro _)|intro _
def Z98 (x0 : List D) (x1 : Int) : Option (Int × List D) := c_Z98 x0 x1 some
def e_Z98 : Ent := ⟨22, [.agg [.own (.slice (.int .i64))], .int .i64], .int .i64, [.agg [.own (.slice (.int .i64))], .undef], fun _ ds k => dL (fun x0 ds => dI (fun x1 ds => dE ((Z98 x0 x1).bind (fun y => k [.I y.1, .L y.2])) ds) ds) ds⟩
theorem q_Z98 (x0 : List D) (x1 : Int) : runFn (ocOf [e_Z97]) (olOf []) A 22 Try.f22 (Sh.mks e_Z98.sh [.L x0, .I x1]).1 (fun v os => some (v, os)) = c_Z98 x0 x1 (fun y => some ((e_Z98.res.mk [.I y.1, .L y.2]).1, (Sh.mks e_Z98.outs (e_Z98.res.mk [.I y.1, .L y.2]).2).1)) := by kernel_rfl
theorem e_Z98_ok : e_Z98.ok Try.prog A := by
 intro R ds k r h
 unfold e_Z98 at h
 obtain ⟨x0, d0, rfl, h0⟩ := dL_some h
 obtain ⟨x1, d1, rfl, h1⟩ := dI_some h0
 obtain ⟨rfl, hE⟩ := dE_some h1
 obtain ⟨y, hy, hk⟩ := bnd_some hE
 refine ⟨_, hk, fn_ok px (fx := ⟨Try.func22, by kernel_rfl, by kernel_rfl⟩) (entsOK_cons e_Z97_ok entsOK_nil) lentsOK_nil ?_⟩
 have hq := q_Z98 x0 x1
 rw [c_Z98_bind] at hq
 rw [show c_Z98 x0 x1 some = some y from hy] at hq
 exact hq

/-!-/
def c_Z99 {R : Type} (F : List D → Int → Int → Option ((Int × Int) ⊕ (Int))) (x0 : List D) (x1 : Int) (x2 : Int) (k : (Int × Int) ⊕ (Int) → Option R) : Option R :=
 bif decide (x2 < (↑x0.length : Int)) then
 if 0 ≤ x2 ∧ x2 < (↑x0.length : Int) then
 bif !decide ((x0.getD x2.toNat (D.int 0)).toInt = x1) then
 k (.inl (x1, (-1 : Int)))
 else
 (F x0 (IntKind.i64.wrap (x1 + 1)) (IntKind.i64.wrap (x2 + 1))).bind k
 else
 none
 else
 k (.inr x1)
theorem c_Z99_bind {R : Type} (F : List D → Int → Int → Option ((Int × Int) ⊕ (Int))) (x0 : List D) (x1 : Int) (x2 : Int) (k : (Int × Int) ⊕ (Int) → Option R) : c_Z99 F x0 x1 x2 k = (c_Z99 F x0 x1 x2 some).bind k := by
 unfold c_Z99
 repeat' first|exact bnd_tail|exact bnd_none|exact bnd_leaf|apply bnd_ite|apply bnd_cond|apply bnd_sum|(apply bnd_bind;intro _)|intro _
def n_Z99 : Nat → List D → Int → Int → Option ((Int × Int) ⊕ (Int))
 | 0, _, _, _ => none
 | n + 1, x0, x1, x2 => c_Z99 (n_Z99 n) x0 x1 x2 some
noncomputable def Z99 (x0 : List D) (x1 : Int) (x2 : Int) : Option ((Int × Int) ⊕ (Int)) := ev (fun n => n_Z99 n x0 x1 x2)
def m_Z99 (F : List D → Int → Int → Option ((Int × Int) ⊕ (Int))) : Lent := ⟨2, ⟨(.rd (.int .i64) :: .int .i64 :: .undef :: .undef :: .undef :: .int .i64 :: uu 15 ([])), []⟩, [(.ret, ⟨(.undef :: .int .i64 :: .undef :: .undef :: .int .i64 :: uu 16 ([])), []⟩), (.exit 0, ⟨(.undef :: .int .i64 :: uu 19 ([])), []⟩)], fun _ ds k => dL (fun x0 ds => dI (fun x1 ds => dI (fun x2 ds => dE ((F x0 x1 x2).bind (Sum.elim (fun y => k 0 [.I y.1, .I y.2]) (fun y => k 1 [.I y]))) ds) ds) ds) ds⟩
theorem q_Z99 (F : List D → Int → Int → Option ((Int × Int) ⊕ (Int))) (x0 : List D) (x1 : Int) (x2 : Int) : runLoop (ocOf []) (olOf [m_Z99 F]) A 24 (codeAt (bodyOf Try.f24) 2) ((m_Z99 F).sh.mk' [.L x0, .I x1, .I x2]) (fun e σ' => some (e, σ')) = c_Z99 F x0 x1 x2 (Sum.elim (fun y => some (.ret, SSt.mk' ⟨(.undef :: .int .i64 :: .undef :: .undef :: .int .i64 :: uu 16 ([])), []⟩ [.I y.1, .I y.2])) (fun y => some (.exit 0, SSt.mk' ⟨(.undef :: .int .i64 :: uu 19 ([])), []⟩ [.I y]))) := by kernel_rfl
theorem m_Z99_ok : ∀ n, (m_Z99 (n_Z99 n)).ok Try.prog (codeAt (bodyOf Try.f24) 2) := by
 intro n
 induction n with
 | zero =>
  intro R ds k r h
  unfold m_Z99 at h
  obtain ⟨x0, d0, rfl, h0⟩ := dL_some h
  obtain ⟨x1, d1, rfl, h1⟩ := dI_some h0
  obtain ⟨x2, d2, rfl, h2⟩ := dI_some h1
  obtain ⟨rfl, hE⟩ := dE_some h2
  obtain ⟨y, hy, hk⟩ := bnd_some hE
  cases hy
 | succ n ih =>
  intro R ds k r h
  unfold m_Z99 at h
  obtain ⟨x0, d0, rfl, h0⟩ := dL_some h
  obtain ⟨x1, d1, rfl, h1⟩ := dI_some h0
  obtain ⟨x2, d2, rfl, h2⟩ := dI_some h1
  obtain ⟨rfl, hE⟩ := dE_some h2
  obtain ⟨y, hy, hk⟩ := bnd_some hE
  have hq := q_Z99 (n_Z99 n) x0 x1 x2
  rw [c_Z99_bind] at hq
  rw [show c_Z99 (n_Z99 n) x0 x1 x2 some = some y from hy] at hq
  cases y with
  | inl y =>
   refine ⟨0, _, _, _, hk, rfl, loop_ok px (fx := ⟨Try.func24, by kernel_rfl, by kernel_rfl⟩) entsOK_nil (lentsOK_cons ih lentsOK_nil) (by kernel_rfl) ?_⟩
   exact hq
  | inr y =>
   refine ⟨1, _, _, _, hk, rfl, loop_ok px (fx := ⟨Try.func24, by kernel_rfl, by kernel_rfl⟩) entsOK_nil (lentsOK_cons ih lentsOK_nil) (by kernel_rfl) ?_⟩
   exact hq
noncomputable def e_Z99 : Lent := m_Z99 (Z99)
theorem e_Z99_ok : (e_Z99).ok Try.prog (codeAt (bodyOf Try.f24) 2) := by
 intro R ds k r h
 unfold e_Z99 m_Z99 at h
 obtain ⟨x0, d0, rfl, h0⟩ := dL_some h
 obtain ⟨x1, d1, rfl, h1⟩ := dI_some h0
 obtain ⟨x2, d2, rfl, h2⟩ := dI_some h1
 obtain ⟨rfl, hE⟩ := dE_some h2
 obtain ⟨y, hy, hk⟩ := bnd_some hE
 obtain ⟨n, hn⟩ := ev_some hy
 exact m_Z99_ok n R _ k r (show (n_Z99 n x0 x1 x2).bind _ = _ by rw [hn]; exact hk)

/-!-/
def c_Z100 {R : Type} (x0 : List D) (x1 : Int) (k : Int → Option R) : Option R :=
 (Z99 x0 x1 (0 : Int)).bind (Sum.elim (fun y0 =>
 k y0.snd) (fun y1 =>
 k y1))
theorem c_Z100_bind {R : Type} (x0 : List D) (x1 : Int) (k : Int → Option R) : c_Z100 x0 x1 k = (c_Z100 x0 x1 some).bind k := by
 unfold c_Z100
 repeat' first|exact bnd_tail|exact bnd_none|exact bnd_leaf|apply bnd_ite|apply bnd_cond|apply bnd_sum|(apply bnd_bind;intro _)|intro _
def Z100 (x0 : List D) (x1 : Int) : Option (Int) := c_Z100 x0 x1 some
def e_Z100 : Ent := ⟨24, [.rd (.int .i64), .int .i64], .int .i64, [.undef, .undef], fun _ ds k => dL (fun x0 ds => dI (fun x1 ds => dE ((Z100 x0 x1).bind (fun y => k [.I y])) ds) ds) ds⟩
theorem q_Z100 (x0 : List D) (x1 : Int) : runFn (ocOf []) (olOf [e_Z99]) A 24 Try.f24 (Sh.mks e_Z100.sh [.L x0, .I x1]).1 (fun v os => some (v, os)) = c_Z100 x0 x1 (fun y => some ((e_Z100.res.mk [.I y]).1, (Sh.mks e_Z100.outs (e_Z100.res.mk [.I y]).2).1)) := by kernel_rfl
theorem e_Z100_ok : e_Z100.ok Try.prog A := by
 intro R ds k r h
 unfold e_Z100 at h
 obtain ⟨x0, d0, rfl, h0⟩ := dL_some h
 obtain ⟨x1, d1, rfl, h1⟩ := dI_some h0
 obtain ⟨rfl, hE⟩ := dE_some h1
 obtain ⟨y, hy, hk⟩ := bnd_some hE
 refine ⟨_, hk, fn_ok px (fx := ⟨Try.func24, by kernel_rfl, by kernel_rfl⟩) entsOK_nil (lentsOK_cons e_Z99_ok lentsOK_nil) ?_⟩
 have hq := q_Z100 x0 x1
 rw [c_Z100_bind] at hq
 rw [show c_Z100 x0 x1 some = some y from hy] at hq
 exact hq

/-!-/
def c_Z101 {R : Type} (x0 : List D) (x1 : List D) (k : Bool → Option R) : Option R :=
 bif decide ((1048576 : Int) < (↑x1.length : Int)) then
 k Bool.true
 else
 (Z3 x0 (1048576 : Int)).bind (fun y0 =>
 bif decide (y0 < (0 : Int)) then
 k Bool.true
 else
 (Z8 x0).bind (fun y1 =>
 (Z5 x1).bind (fun y2 =>
 (Z26 y1 y2).bind (fun y3 =>
 (Z8 x0).bind (fun y4 =>
 (Z5 x1).bind (fun y5 =>
 (Z88 y4 y5).bind (fun y6 =>
 (Z90 y6.fst y3.fst).bind (fun y7 =>
 bif !y7 then
 k Bool.false
 else
 bif !y6.snd == y3.snd then
 k Bool.false
 else
 (Z8 x0).bind (fun y8 =>
 (Z93 y4 y8).bind (fun y9 =>
 bif !y9 then
 k Bool.false
 else
 (Z5 x1).bind (fun y10 =>
 (Z90 y5 y10).bind (fun y11 =>
 bif !y11 then
 k Bool.false
 else
 if (0 : Nat) ≤ (0 : Nat) then
 if (0 : Nat) ≤ (0 : Nat) then
 if (0 : Nat) ≤ (0 : Nat) then
 if (0 : Nat) ≤ (0 : Nat) then
 (Z98 y4 (1 : Int)).bind (fun y12 =>
 (Z95 y5 y12.fst).bind (fun y13 =>
 bif decide (y13.fst < (0 : Int)) then
 k Bool.false
 else
 (Z90 y6.fst y3.fst).bind (fun y14 =>
 bif !y14 then
 k Bool.false
 else
 bif !y6.snd == y3.snd then
 k Bool.false
 else
 (Z95 y6.fst (1 : Int)).bind (fun y15 =>
 (Z100 y15.snd (1 : Int)).bind (fun y16 =>
 bif decide (y16 < (0 : Int)) then
 k Bool.false
 else
 bif !decide (y16 = y15.fst) then
 k Bool.false
 else
 (Z8 x0).bind (fun y17 =>
 (Z5 x1).bind (fun y18 =>
 (Z88 y17 y18).bind (fun y19 =>
 (Z90 y19.fst y3.fst).bind (fun y20 =>
 bif !y20 then
 k Bool.false
 else
 bif !y19.snd == y3.snd then
 k Bool.false
 else
 (Z100 y15.snd (1 : Int)).bind (fun y21 =>
 bif decide (y21 < (0 : Int)) then
 k Bool.false
 else
 bif !decide (y21 = y15.fst) then
 k Bool.false
 else
 k Bool.true))))))))))
 else
 none
 else
 none
 else
 none
 else
 none))))))))))))
theorem c_Z101_bind {R : Type} (x0 : List D) (x1 : List D) (k : Bool → Option R) : c_Z101 x0 x1 k = (c_Z101 x0 x1 some).bind k := by
 unfold c_Z101
 repeat' first|exact bnd_tail|exact bnd_none|exact bnd_leaf|apply bnd_ite|apply bnd_cond|apply bnd_sum|(apply bnd_bind;intro _)|intro _
def Z101 (x0 : List D) (x1 : List D) : Option (Bool) := c_Z101 x0 x1 some
def e_Z101 : Ent := ⟨11, [.agg [.rd (.slice (.int .i64))], .rd (.int .i64)], .bool, [.undef, .undef], fun _ ds k => dL (fun x0 ds => dL (fun x1 ds => dE ((Z101 x0 x1).bind (fun y => k [.B y])) ds) ds) ds⟩
theorem q_Z101 (x0 : List D) (x1 : List D) : runFn (ocOf [e_Z3, e_Z8, e_Z5, e_Z26, e_Z88, e_Z90, e_Z93, e_Z98, e_Z95, e_Z100]) (olOf []) A 11 Try.f11 (Sh.mks e_Z101.sh [.L x0, .L x1]).1 (fun v os => some (v, os)) = c_Z101 x0 x1 (fun y => some ((e_Z101.res.mk [.B y]).1, (Sh.mks e_Z101.outs (e_Z101.res.mk [.B y]).2).1)) := by kernel_rfl
theorem e_Z101_ok : e_Z101.ok Try.prog A := by
 intro R ds k r h
 unfold e_Z101 at h
 obtain ⟨x0, d0, rfl, h0⟩ := dL_some h
 obtain ⟨x1, d1, rfl, h1⟩ := dL_some h0
 obtain ⟨rfl, hE⟩ := dE_some h1
 obtain ⟨y, hy, hk⟩ := bnd_some hE
 refine ⟨_, hk, fn_ok px (fx := ⟨Try.func11, by kernel_rfl, by kernel_rfl⟩) (entsOK_cons e_Z3_ok (entsOK_cons e_Z8_ok (entsOK_cons e_Z5_ok (entsOK_cons e_Z26_ok (entsOK_cons e_Z88_ok (entsOK_cons e_Z90_ok (entsOK_cons e_Z93_ok (entsOK_cons e_Z98_ok (entsOK_cons e_Z95_ok (entsOK_cons e_Z100_ok entsOK_nil)))))))))) lentsOK_nil ?_⟩
 have hq := q_Z101 x0 x1
 rw [c_Z101_bind] at hq
 rw [show c_Z101 x0 x1 some = some y from hy] at hq
 exact hq
end
end Go.Proofs.Ytinhphmajfiepaa
