/- Models of Go functions and their contracts, printed by a program of this session. -/
import Derived.Test.YticcpkmednijlaaClA
set_option linter.unusedVariables false
set_option maxRecDepth 100000
namespace Go.Proofs.Yticcpkmednijlaa
open Go Go.Rai
noncomputable section
/-!-/
def c_Z0 {R : Type} (x0 : List D) (k : Bool → Option R) : Option R :=
 k (decide ((65536 : Int) < (↑x0.length : Int)))
theorem c_Z0_bind {R : Type} (x0 : List D) (k : Bool → Option R) : c_Z0 x0 k = (c_Z0 x0 some).bind k := by
 unfold c_Z0
 repeat' first|exact bnd_tail|exact bnd_none|exact bnd_leaf|apply bnd_ite|apply bnd_cond|apply bnd_sum|(apply bnd_bind;intro _)|intro _
def Z0 (x0 : List D) : Option (Bool) := c_Z0 x0 some
def e_Z0 : Ent := ⟨27, [.rd (.int .u8)], .bool, [.undef], fun _ ds k => dL (fun x0 ds => dE ((Z0 x0).bind (fun y => k [.B y])) ds) ds⟩
theorem q_Z0 (x0 : List D) : runFn (ocOf []) (olOf []) A 27 Try.f27 (Sh.mks e_Z0.sh [.L x0]).1 (fun v os => some (v, os)) = c_Z0 x0 (fun y => some ((e_Z0.res.mk [.B y]).1, (Sh.mks e_Z0.outs (e_Z0.res.mk [.B y]).2).1)) := by kernel_rfl
theorem e_Z0_ok : e_Z0.ok Try.prog A := by
 intro R ds k r h
 unfold e_Z0 at h
 obtain ⟨x0, d0, rfl, h0⟩ := dL_some h
 obtain ⟨rfl, hE⟩ := dE_some h0
 obtain ⟨y, hy, hk⟩ := bnd_some hE
 refine ⟨_, hk, fn_ok px (fx := ⟨Try.func27, by kernel_rfl, by kernel_rfl⟩) entsOK_nil lentsOK_nil ?_⟩
 have hq := q_Z0 x0
 rw [c_Z0_bind] at hq
 rw [show c_Z0 x0 some = some y from hy] at hq
 exact hq

/-!-/
def c_Z1 {R : Type} (x0 : List D) (x1 : Int) (x2 : Int) (k : Int × List D × Int × Int → Option R) : Option R :=
 bif decide (x1 < (↑x0.length : Int)) then
 if 0 ≤ x1 ∧ x1 < (↑x0.length : Int) then
 bif decide (IntKind.i64.wrap (x1 + 1) ≤ (↑x0.length : Int)) then
 k (IntKind.i64.wrap (x0.getD x1.toNat (D.int 0)).toInt, x0, IntKind.i64.wrap (x1 + 1), IntKind.u64.wrap (IntKind.u64.wrap (IntKind.u64.wrap (x2 * (6364136223846793005 : Int)) + IntKind.u64.wrap (IntKind.i64.wrap (x0.getD x1.toNat (D.int 0)).toInt)) + (876876 : Int)))
 else
 if (0 : Int) ≤ (40 : Int) then
 k (IntKind.i64.wrap (IntKind.u64.wrap (↑(BitVec.ofInt IntKind.u64.bits ((IntKind.u64.wrap (IntKind.u64.wrap (IntKind.u64.wrap (x2 * (6364136223846793005 : Int)) + IntKind.u64.wrap (IntKind.i64.wrap (x0.getD x1.toNat (D.int 0)).toInt)) + (876876 : Int))).fdiv ((2 : Int) ^ Min.min (Int.toNat (40 : Int)) IntKind.u64.bits)) &&& BitVec.ofInt IntKind.u64.bits (255 : Int)).toNat : Int)), x0, IntKind.i64.wrap (x1 + 1), IntKind.u64.wrap (IntKind.u64.wrap (IntKind.u64.wrap (x2 * (6364136223846793005 : Int)) + IntKind.u64.wrap (IntKind.i64.wrap (x0.getD x1.toNat (D.int 0)).toInt)) + (876876 : Int)))
 else
 none
 else
 none
 else
 bif decide (IntKind.i64.wrap (x1 + 1) ≤ (↑x0.length : Int)) then
 k ((0 : Int), x0, IntKind.i64.wrap (x1 + 1), IntKind.u64.wrap (IntKind.u64.wrap (IntKind.u64.wrap (x2 * (6364136223846793005 : Int)) + IntKind.u64.wrap (0 : Int)) + (876876 : Int)))
 else
 if (0 : Int) ≤ (40 : Int) then
 k (IntKind.i64.wrap (IntKind.u64.wrap (↑(BitVec.ofInt IntKind.u64.bits ((IntKind.u64.wrap (IntKind.u64.wrap (IntKind.u64.wrap (x2 * (6364136223846793005 : Int)) + IntKind.u64.wrap (0 : Int)) + (876876 : Int))).fdiv ((2 : Int) ^ Min.min (Int.toNat (40 : Int)) IntKind.u64.bits)) &&& BitVec.ofInt IntKind.u64.bits (255 : Int)).toNat : Int)), x0, IntKind.i64.wrap (x1 + 1), IntKind.u64.wrap (IntKind.u64.wrap (IntKind.u64.wrap (x2 * (6364136223846793005 : Int)) + IntKind.u64.wrap (0 : Int)) + (876876 : Int)))
 else
 none
theorem c_Z1_bind {R : Type} (x0 : List D) (x1 : Int) (x2 : Int) (k : Int × List D × Int × Int → Option R) : c_Z1 x0 x1 x2 k = (c_Z1 x0 x1 x2 some).bind k := by
 unfold c_Z1
 repeat' first|exact bnd_tail|exact bnd_none|exact bnd_leaf|apply bnd_ite|apply bnd_cond|apply bnd_sum|(apply bnd_bind;intro _)|intro _
def Z1 (x0 : List D) (x1 : Int) (x2 : Int) : Option (Int × List D × Int × Int) := c_Z1 x0 x1 x2 some
def e_Z1 : Ent := ⟨127, [.obox (.agg [.rd (.int .u8), .int .i64, .int .u64])], .int .i64, [.obox (.agg [.rd (.int .u8), .int .i64, .int .u64])], fun _ ds k => dL (fun x0 ds => dI (fun x1 ds => dI (fun x2 ds => dE ((Z1 x0 x1 x2).bind (fun y => k [.I y.1, .L y.2.1, .I y.2.2.1, .I y.2.2.2])) ds) ds) ds) ds⟩
theorem q_Z1 (x0 : List D) (x1 : Int) (x2 : Int) : runFn (ocOf []) (olOf []) A 127 Try.f127 (Sh.mks e_Z1.sh [.L x0, .I x1, .I x2]).1 (fun v os => some (v, os)) = c_Z1 x0 x1 x2 (fun y => some ((e_Z1.res.mk [.I y.1, .L y.2.1, .I y.2.2.1, .I y.2.2.2]).1, (Sh.mks e_Z1.outs (e_Z1.res.mk [.I y.1, .L y.2.1, .I y.2.2.1, .I y.2.2.2]).2).1)) := by kernel_rfl
theorem e_Z1_ok : e_Z1.ok Try.prog A := by
 intro R ds k r h
 unfold e_Z1 at h
 obtain ⟨x0, d0, rfl, h0⟩ := dL_some h
 obtain ⟨x1, d1, rfl, h1⟩ := dI_some h0
 obtain ⟨x2, d2, rfl, h2⟩ := dI_some h1
 obtain ⟨rfl, hE⟩ := dE_some h2
 obtain ⟨y, hy, hk⟩ := bnd_some hE
 refine ⟨_, hk, fn_ok px (fx := ⟨Try.func127, by kernel_rfl, by kernel_rfl⟩) entsOK_nil lentsOK_nil ?_⟩
 have hq := q_Z1 x0 x1 x2
 rw [c_Z1_bind] at hq
 rw [show c_Z1 x0 x1 x2 some = some y from hy] at hq
 exact hq

/-!-/
def c_Z2 {R : Type} (x0 : List D) (x1 : Int) (x2 : Int) (x3 : Int) (k : Int × List D × Int × Int → Option R) : Option R :=
 bif decide (x3 ≤ (1 : Int)) then
 k ((0 : Int), x0, x1, x2)
 else
 (Z1 x0 x1 x2).bind (fun y0 =>
 bif decide ((200 : Int) < x3) then
 (Z1 y0.snd.fst y0.snd.snd.fst y0.snd.snd.snd).bind (fun y1 =>
 if x3 ≠ (0 : Int) then
 k ((IntKind.i64.wrap (IntKind.i64.wrap (y0.fst * (256 : Int)) + y1.fst)).tmod x3, y1.snd.fst, y1.snd.snd.fst, y1.snd.snd.snd)
 else
 none)
 else
 if x3 ≠ (0 : Int) then
 k (y0.fst.tmod x3, y0.snd.fst, y0.snd.snd.fst, y0.snd.snd.snd)
 else
 none)
theorem c_Z2_bind {R : Type} (x0 : List D) (x1 : Int) (x2 : Int) (x3 : Int) (k : Int × List D × Int × Int → Option R) : c_Z2 x0 x1 x2 x3 k = (c_Z2 x0 x1 x2 x3 some).bind k := by
 unfold c_Z2
 repeat' first|exact bnd_tail|exact bnd_none|exact bnd_leaf|apply bnd_ite|apply bnd_cond|apply bnd_sum|(apply bnd_bind;intro _)|intro _
def Z2 (x0 : List D) (x1 : Int) (x2 : Int) (x3 : Int) : Option (Int × List D × Int × Int) := c_Z2 x0 x1 x2 x3 some
def e_Z2 : Ent := ⟨99, [.obox (.agg [.rd (.int .u8), .int .i64, .int .u64]), .int .i64], .int .i64, [.obox (.agg [.rd (.int .u8), .int .i64, .int .u64]), .undef], fun _ ds k => dL (fun x0 ds => dI (fun x1 ds => dI (fun x2 ds => dI (fun x3 ds => dE ((Z2 x0 x1 x2 x3).bind (fun y => k [.I y.1, .L y.2.1, .I y.2.2.1, .I y.2.2.2])) ds) ds) ds) ds) ds⟩
theorem q_Z2 (x0 : List D) (x1 : Int) (x2 : Int) (x3 : Int) : runFn (ocOf [e_Z1]) (olOf []) A 99 Try.f99 (Sh.mks e_Z2.sh [.L x0, .I x1, .I x2, .I x3]).1 (fun v os => some (v, os)) = c_Z2 x0 x1 x2 x3 (fun y => some ((e_Z2.res.mk [.I y.1, .L y.2.1, .I y.2.2.1, .I y.2.2.2]).1, (Sh.mks e_Z2.outs (e_Z2.res.mk [.I y.1, .L y.2.1, .I y.2.2.1, .I y.2.2.2]).2).1)) := by kernel_rfl
theorem e_Z2_ok : e_Z2.ok Try.prog A := by
 intro R ds k r h
 unfold e_Z2 at h
 obtain ⟨x0, d0, rfl, h0⟩ := dL_some h
 obtain ⟨x1, d1, rfl, h1⟩ := dI_some h0
 obtain ⟨x2, d2, rfl, h2⟩ := dI_some h1
 obtain ⟨x3, d3, rfl, h3⟩ := dI_some h2
 obtain ⟨rfl, hE⟩ := dE_some h3
 obtain ⟨y, hy, hk⟩ := bnd_some hE
 refine ⟨_, hk, fn_ok px (fx := ⟨Try.func99, by kernel_rfl, by kernel_rfl⟩) (entsOK_cons e_Z1_ok entsOK_nil) lentsOK_nil ?_⟩
 have hq := q_Z2 x0 x1 x2 x3
 rw [c_Z2_bind] at hq
 rw [show c_Z2 x0 x1 x2 x3 some = some y from hy] at hq
 exact hq

/-!-/
def c_Z3 {R : Type} (x0 : List D) (x1 : Int) (x2 : Int) (x3 : Int) (k : Bool × List D × Int × Int → Option R) : Option R :=
 (Z2 x0 x1 x2 x3).bind (fun y0 =>
 k (decide (y0.fst = (0 : Int)), y0.snd.fst, y0.snd.snd.fst, y0.snd.snd.snd))
theorem c_Z3_bind {R : Type} (x0 : List D) (x1 : Int) (x2 : Int) (x3 : Int) (k : Bool × List D × Int × Int → Option R) : c_Z3 x0 x1 x2 x3 k = (c_Z3 x0 x1 x2 x3 some).bind k := by
 unfold c_Z3
 repeat' first|exact bnd_tail|exact bnd_none|exact bnd_leaf|apply bnd_ite|apply bnd_cond|apply bnd_sum|(apply bnd_bind;intro _)|intro _
def Z3 (x0 : List D) (x1 : Int) (x2 : Int) (x3 : Int) : Option (Bool × List D × Int × Int) := c_Z3 x0 x1 x2 x3 some
def e_Z3 : Ent := ⟨100, [.obox (.agg [.rd (.int .u8), .int .i64, .int .u64]), .int .i64], .bool, [.obox (.agg [.rd (.int .u8), .int .i64, .int .u64]), .undef], fun _ ds k => dL (fun x0 ds => dI (fun x1 ds => dI (fun x2 ds => dI (fun x3 ds => dE ((Z3 x0 x1 x2 x3).bind (fun y => k [.B y.1, .L y.2.1, .I y.2.2.1, .I y.2.2.2])) ds) ds) ds) ds) ds⟩
theorem q_Z3 (x0 : List D) (x1 : Int) (x2 : Int) (x3 : Int) : runFn (ocOf [e_Z2]) (olOf []) A 100 Try.f100 (Sh.mks e_Z3.sh [.L x0, .I x1, .I x2, .I x3]).1 (fun v os => some (v, os)) = c_Z3 x0 x1 x2 x3 (fun y => some ((e_Z3.res.mk [.B y.1, .L y.2.1, .I y.2.2.1, .I y.2.2.2]).1, (Sh.mks e_Z3.outs (e_Z3.res.mk [.B y.1, .L y.2.1, .I y.2.2.1, .I y.2.2.2]).2).1)) := by kernel_rfl
theorem e_Z3_ok : e_Z3.ok Try.prog A := by
 intro R ds k r h
 unfold e_Z3 at h
 obtain ⟨x0, d0, rfl, h0⟩ := dL_some h
 obtain ⟨x1, d1, rfl, h1⟩ := dI_some h0
 obtain ⟨x2, d2, rfl, h2⟩ := dI_some h1
 obtain ⟨x3, d3, rfl, h3⟩ := dI_some h2
 obtain ⟨rfl, hE⟩ := dE_some h3
 obtain ⟨y, hy, hk⟩ := bnd_some hE
 refine ⟨_, hk, fn_ok px (fx := ⟨Try.func100, by kernel_rfl, by kernel_rfl⟩) (entsOK_cons e_Z2_ok entsOK_nil) lentsOK_nil ?_⟩
 have hq := q_Z3 x0 x1 x2 x3
 rw [c_Z3_bind] at hq
 rw [show c_Z3 x0 x1 x2 x3 some = some y from hy] at hq
 exact hq

/-!-/
def c_Z4 {R : Type} (x0 : List D) (x1 : Int) (x2 : Int) (x3 : List D) (k : Int × List D × Int × Int → Option R) : Option R :=
 (Z2 x0 x1 x2 (↑x3.length : Int)).bind (fun y0 =>
 if 0 ≤ y0.fst ∧ y0.fst < (↑x3.length : Int) then
 if y0.fst.toNat + 1 ≤ x3.length then
 k ((x3.getD y0.fst.toNat (D.int 0)).toInt, y0.snd.fst, y0.snd.snd.fst, y0.snd.snd.snd)
 else
 none
 else
 none)
theorem c_Z4_bind {R : Type} (x0 : List D) (x1 : Int) (x2 : Int) (x3 : List D) (k : Int × List D × Int × Int → Option R) : c_Z4 x0 x1 x2 x3 k = (c_Z4 x0 x1 x2 x3 some).bind k := by
 unfold c_Z4
 repeat' first|exact bnd_tail|exact bnd_none|exact bnd_leaf|apply bnd_ite|apply bnd_cond|apply bnd_sum|(apply bnd_bind;intro _)|intro _
def Z4 (x0 : List D) (x1 : Int) (x2 : Int) (x3 : List D) : Option (Int × List D × Int × Int) := c_Z4 x0 x1 x2 x3 some
def e_Z4 : Ent := ⟨101, [.obox (.agg [.rd (.int .u8), .int .i64, .int .u64]), .own (.int .i64)], .int .i64, [.obox (.agg [.rd (.int .u8), .int .i64, .int .u64]), .undef], fun _ ds k => dL (fun x0 ds => dI (fun x1 ds => dI (fun x2 ds => dL (fun x3 ds => dE ((Z4 x0 x1 x2 x3).bind (fun y => k [.I y.1, .L y.2.1, .I y.2.2.1, .I y.2.2.2])) ds) ds) ds) ds) ds⟩
theorem q_Z4 (x0 : List D) (x1 : Int) (x2 : Int) (x3 : List D) : runFn (ocOf [e_Z2]) (olOf []) A 101 Try.f101 (Sh.mks e_Z4.sh [.L x0, .I x1, .I x2, .L x3]).1 (fun v os => some (v, os)) = c_Z4 x0 x1 x2 x3 (fun y => some ((e_Z4.res.mk [.I y.1, .L y.2.1, .I y.2.2.1, .I y.2.2.2]).1, (Sh.mks e_Z4.outs (e_Z4.res.mk [.I y.1, .L y.2.1, .I y.2.2.1, .I y.2.2.2]).2).1)) := by kernel_rfl
theorem e_Z4_ok : e_Z4.ok Try.prog A := by
 intro R ds k r h
 unfold e_Z4 at h
 obtain ⟨x0, d0, rfl, h0⟩ := dL_some h
 obtain ⟨x1, d1, rfl, h1⟩ := dI_some h0
 obtain ⟨x2, d2, rfl, h2⟩ := dI_some h1
 obtain ⟨x3, d3, rfl, h3⟩ := dL_some h2
 obtain ⟨rfl, hE⟩ := dE_some h3
 obtain ⟨y, hy, hk⟩ := bnd_some hE
 refine ⟨_, hk, fn_ok px (fx := ⟨Try.func101, by kernel_rfl, by kernel_rfl⟩) (entsOK_cons e_Z2_ok entsOK_nil) lentsOK_nil ?_⟩
 have hq := q_Z4 x0 x1 x2 x3
 rw [c_Z4_bind] at hq
 rw [show c_Z4 x0 x1 x2 x3 some = some y from hy] at hq
 exact hq

/-!-/
def c_Z5 {R : Type} (F : Int → Int → List D → Int → Int → List D → Option (Int × List D × Int × Int × List D)) (x0 : Int) (x1 : Int) (x2 : List D) (x3 : Int) (x4 : Int) (x5 : List D) (k : Int × List D × Int × Int × List D → Option R) : Option R :=
 bif decide (x1 < x0) then
 (Z3 x2 x3 x4 (12 : Int)).bind (fun y0 =>
 bif !y0.fst then
 (Z2 y0.snd.fst y0.snd.snd.fst y0.snd.snd.snd x1).bind (fun y1 =>
 (Z2 y1.snd.fst y1.snd.snd.fst y1.snd.snd.snd (41 : Int)).bind (fun y2 =>
 (Z4 y2.snd.fst y2.snd.snd.fst y2.snd.snd.snd ([D.int (1 : Int), D.int (1 : Int), D.int (2 : Int), D.int (3 : Int), D.int (5 : Int), D.int (6 : Int)])).bind (fun y3 =>
 if x5.length + [D.node [D.int y1.fst, D.int x1, D.int (IntKind.i64.wrap (y2.fst - 20)), D.int y3.fst]].length ≤ (4294967296 : Nat) then
 (F x0 (IntKind.i64.wrap (x1 + 1)) y3.snd.fst y3.snd.snd.fst y3.snd.snd.snd (x5 ++ [D.node [D.int y1.fst, D.int x1, D.int (IntKind.i64.wrap (y2.fst - 20)), D.int y3.fst]])).bind k
 else
 none)))
 else
 (F x0 (IntKind.i64.wrap (x1 + 1)) y0.snd.fst y0.snd.snd.fst y0.snd.snd.snd x5).bind k)
 else
 k (x0, x2, x3, x4, x5)
theorem c_Z5_bind {R : Type} (F : Int → Int → List D → Int → Int → List D → Option (Int × List D × Int × Int × List D)) (x0 : Int) (x1 : Int) (x2 : List D) (x3 : Int) (x4 : Int) (x5 : List D) (k : Int × List D × Int × Int × List D → Option R) : c_Z5 F x0 x1 x2 x3 x4 x5 k = (c_Z5 F x0 x1 x2 x3 x4 x5 some).bind k := by
 unfold c_Z5
 repeat' first|exact bnd_tail|exact bnd_none|exact bnd_leaf|apply bnd_ite|apply bnd_cond|apply bnd_sum|(apply bnd_bind;intro _)|intro _
def n_Z5 : Nat → Int → Int → List D → Int → Int → List D → Option (Int × List D × Int × Int × List D)
 | 0, _, _, _, _, _, _ => none
 | n + 1, x0, x1, x2, x3, x4, x5 => c_Z5 (n_Z5 n) x0 x1 x2 x3 x4 x5 some
noncomputable def Z5 (x0 : Int) (x1 : Int) (x2 : List D) (x3 : Int) (x4 : Int) (x5 : List D) : Option (Int × List D × Int × Int × List D) := ev (fun n => n_Z5 n x0 x1 x2 x3 x4 x5)
def m_Z5 (F : Int → Int → List D → Int → Int → List D → Option (Int × List D × Int × Int × List D)) : Lent := ⟨4, ⟨(.ptr 1000 [0] :: .undef :: .undef :: .undef :: .int .i64 :: .full 1001 [] (.struct [.int .i64, .int .i64, .int .i64, .int .i64]) :: .int .i64 :: uu 87 ([])), [(1000, .obox (.agg [.rd (.int .u8), .int .i64, .int .u64])), (1001, .own (.struct [.int .i64, .int .i64, .int .i64, .int .i64]))]⟩, [(.exit 0, ⟨(.ptr 1000 [0] :: .undef :: .undef :: .undef :: .int .i64 :: .full 1001 [] (.struct [.int .i64, .int .i64, .int .i64, .int .i64]) :: uu 88 ([])), [(1000, .obox (.agg [.rd (.int .u8), .int .i64, .int .u64])), (1001, .own (.struct [.int .i64, .int .i64, .int .i64, .int .i64]))]⟩)], fun _ ds k => dI (fun x0 ds => dI (fun x1 ds => dL (fun x2 ds => dI (fun x3 ds => dI (fun x4 ds => dL (fun x5 ds => dE ((F x0 x1 x2 x3 x4 x5).bind (fun y => k 0 [.I y.1, .L y.2.1, .I y.2.2.1, .I y.2.2.2.1, .L y.2.2.2.2])) ds) ds) ds) ds) ds) ds) ds⟩
theorem q_Z5 (F : Int → Int → List D → Int → Int → List D → Option (Int × List D × Int × Int × List D)) (x0 : Int) (x1 : Int) (x2 : List D) (x3 : Int) (x4 : Int) (x5 : List D) : runLoop (ocOf [e_Z3, e_Z2, e_Z4]) (olOf [m_Z5 F]) A 98 (codeAt (bodyOf Try.f98) 4) ((m_Z5 F).sh.mk' [.I x0, .I x1, .L x2, .I x3, .I x4, .L x5]) (fun e σ' => some (e, σ')) = c_Z5 F x0 x1 x2 x3 x4 x5 (fun y => some (.exit 0, SSt.mk' ⟨(.ptr 1000 [0] :: .undef :: .undef :: .undef :: .int .i64 :: .full 1001 [] (.struct [.int .i64, .int .i64, .int .i64, .int .i64]) :: uu 88 ([])), [(1000, .obox (.agg [.rd (.int .u8), .int .i64, .int .u64])), (1001, .own (.struct [.int .i64, .int .i64, .int .i64, .int .i64]))]⟩ [.I y.1, .L y.2.1, .I y.2.2.1, .I y.2.2.2.1, .L y.2.2.2.2])) := by kernel_rfl
theorem m_Z5_ok : ∀ n, (m_Z5 (n_Z5 n)).ok Try.prog (codeAt (bodyOf Try.f98) 4) := by
 intro n
 induction n with
 | zero =>
  intro R ds k r h
  unfold m_Z5 at h
  obtain ⟨x0, d0, rfl, h0⟩ := dI_some h
  obtain ⟨x1, d1, rfl, h1⟩ := dI_some h0
  obtain ⟨x2, d2, rfl, h2⟩ := dL_some h1
  obtain ⟨x3, d3, rfl, h3⟩ := dI_some h2
  obtain ⟨x4, d4, rfl, h4⟩ := dI_some h3
  obtain ⟨x5, d5, rfl, h5⟩ := dL_some h4
  obtain ⟨rfl, hE⟩ := dE_some h5
  obtain ⟨y, hy, hk⟩ := bnd_some hE
  cases hy
 | succ n ih =>
  intro R ds k r h
  unfold m_Z5 at h
  obtain ⟨x0, d0, rfl, h0⟩ := dI_some h
  obtain ⟨x1, d1, rfl, h1⟩ := dI_some h0
  obtain ⟨x2, d2, rfl, h2⟩ := dL_some h1
  obtain ⟨x3, d3, rfl, h3⟩ := dI_some h2
  obtain ⟨x4, d4, rfl, h4⟩ := dI_some h3
  obtain ⟨x5, d5, rfl, h5⟩ := dL_some h4
  obtain ⟨rfl, hE⟩ := dE_some h5
  obtain ⟨y, hy, hk⟩ := bnd_some hE
  have hq := q_Z5 (n_Z5 n) x0 x1 x2 x3 x4 x5
  rw [c_Z5_bind] at hq
  rw [show c_Z5 (n_Z5 n) x0 x1 x2 x3 x4 x5 some = some y from hy] at hq
  refine ⟨0, _, _, _, hk, rfl, loop_ok px (fx := ⟨Try.func98, by kernel_rfl, by kernel_rfl⟩) (entsOK_cons e_Z3_ok (entsOK_cons e_Z2_ok (entsOK_cons e_Z4_ok entsOK_nil))) (lentsOK_cons ih lentsOK_nil) (by kernel_rfl) ?_⟩
  exact hq
noncomputable def e_Z5 : Lent := m_Z5 (Z5)
theorem e_Z5_ok : (e_Z5).ok Try.prog (codeAt (bodyOf Try.f98) 4) := by
 intro R ds k r h
 unfold e_Z5 m_Z5 at h
 obtain ⟨x0, d0, rfl, h0⟩ := dI_some h
 obtain ⟨x1, d1, rfl, h1⟩ := dI_some h0
 obtain ⟨x2, d2, rfl, h2⟩ := dL_some h1
 obtain ⟨x3, d3, rfl, h3⟩ := dI_some h2
 obtain ⟨x4, d4, rfl, h4⟩ := dI_some h3
 obtain ⟨x5, d5, rfl, h5⟩ := dL_some h4
 obtain ⟨rfl, hE⟩ := dE_some h5
 obtain ⟨y, hy, hk⟩ := bnd_some hE
 obtain ⟨n, hn⟩ := ev_some hy
 exact m_Z5_ok n R _ k r (show (n_Z5 n x0 x1 x2 x3 x4 x5).bind _ = _ by rw [hn]; exact hk)

/-!-/
def c_Z6 {R : Type} (F : Int → Int → List D → Int → Int → List D → Option (Int × List D × Int × Int × List D)) (x0 : Int) (x1 : Int) (x2 : List D) (x3 : Int) (x4 : Int) (x5 : List D) (k : Int × List D × Int × Int × List D → Option R) : Option R :=
 bif decide ((0 : Int) < x1) then
 (Z2 x2 x3 x4 x0).bind (fun y0 =>
 (Z2 y0.snd.fst y0.snd.snd.fst y0.snd.snd.snd (IntKind.i64.wrap (x0 - 1))).bind (fun y1 =>
 if x0 ≠ (0 : Int) then
 (Z2 y1.snd.fst y1.snd.snd.fst y1.snd.snd.snd (41 : Int)).bind (fun y2 =>
 (Z4 y2.snd.fst y2.snd.snd.fst y2.snd.snd.snd ([D.int (1 : Int), D.int (2 : Int), D.int (4 : Int), D.int (6 : Int)])).bind (fun y3 =>
 if x5.length + [D.node [D.int y0.fst, D.int ((IntKind.i64.wrap (IntKind.i64.wrap (y0.fst + 1) + y1.fst)).tmod x0), D.int (IntKind.i64.wrap (y2.fst - 20)), D.int y3.fst]].length ≤ (4294967296 : Nat) then
 (F x0 (IntKind.i64.wrap (x1 - 1)) y3.snd.fst y3.snd.snd.fst y3.snd.snd.snd (x5 ++ [D.node [D.int y0.fst, D.int ((IntKind.i64.wrap (IntKind.i64.wrap (y0.fst + 1) + y1.fst)).tmod x0), D.int (IntKind.i64.wrap (y2.fst - 20)), D.int y3.fst]])).bind k
 else
 none))
 else
 none))
 else
 k (x0, x2, x3, x4, x5)
theorem c_Z6_bind {R : Type} (F : Int → Int → List D → Int → Int → List D → Option (Int × List D × Int × Int × List D)) (x0 : Int) (x1 : Int) (x2 : List D) (x3 : Int) (x4 : Int) (x5 : List D) (k : Int × List D × Int × Int × List D → Option R) : c_Z6 F x0 x1 x2 x3 x4 x5 k = (c_Z6 F x0 x1 x2 x3 x4 x5 some).bind k := by
 unfold c_Z6
 repeat' first|exact bnd_tail|exact bnd_none|exact bnd_leaf|apply bnd_ite|apply bnd_cond|apply bnd_sum|(apply bnd_bind;intro _)|intro _
def n_Z6 : Nat → Int → Int → List D → Int → Int → List D → Option (Int × List D × Int × Int × List D)
 | 0, _, _, _, _, _, _ => none
 | n + 1, x0, x1, x2, x3, x4, x5 => c_Z6 (n_Z6 n) x0 x1 x2 x3 x4 x5 some
noncomputable def Z6 (x0 : Int) (x1 : Int) (x2 : List D) (x3 : Int) (x4 : Int) (x5 : List D) : Option (Int × List D × Int × Int × List D) := ev (fun n => n_Z6 n x0 x1 x2 x3 x4 x5)
def m_Z6 (F : Int → Int → List D → Int → Int → List D → Option (Int × List D × Int × Int × List D)) : Lent := ⟨9, ⟨(.ptr 1000 [0] :: .undef :: .undef :: .undef :: .int .i64 :: .full 1001 [] (.struct [.int .i64, .int .i64, .int .i64, .int .i64]) :: .undef :: .int .i64 :: uu 86 ([])), [(1000, .obox (.agg [.rd (.int .u8), .int .i64, .int .u64])), (1001, .own (.struct [.int .i64, .int .i64, .int .i64, .int .i64]))]⟩, [(.exit 2, ⟨(.ptr 1000 [0] :: .undef :: .undef :: .undef :: .int .i64 :: .full 1001 [] (.struct [.int .i64, .int .i64, .int .i64, .int .i64]) :: uu 88 ([])), [(1000, .obox (.agg [.rd (.int .u8), .int .i64, .int .u64])), (1001, .own (.struct [.int .i64, .int .i64, .int .i64, .int .i64]))]⟩)], fun _ ds k => dI (fun x0 ds => dI (fun x1 ds => dL (fun x2 ds => dI (fun x3 ds => dI (fun x4 ds => dL (fun x5 ds => dE ((F x0 x1 x2 x3 x4 x5).bind (fun y => k 0 [.I y.1, .L y.2.1, .I y.2.2.1, .I y.2.2.2.1, .L y.2.2.2.2])) ds) ds) ds) ds) ds) ds) ds⟩
theorem q_Z6 (F : Int → Int → List D → Int → Int → List D → Option (Int × List D × Int × Int × List D)) (x0 : Int) (x1 : Int) (x2 : List D) (x3 : Int) (x4 : Int) (x5 : List D) : runLoop (ocOf [e_Z2, e_Z4]) (olOf [m_Z6 F]) A 98 (codeAt (bodyOf Try.f98) 9) ((m_Z6 F).sh.mk' [.I x0, .I x1, .L x2, .I x3, .I x4, .L x5]) (fun e σ' => some (e, σ')) = c_Z6 F x0 x1 x2 x3 x4 x5 (fun y => some (.exit 2, SSt.mk' ⟨(.ptr 1000 [0] :: .undef :: .undef :: .undef :: .int .i64 :: .full 1001 [] (.struct [.int .i64, .int .i64, .int .i64, .int .i64]) :: uu 88 ([])), [(1000, .obox (.agg [.rd (.int .u8), .int .i64, .int .u64])), (1001, .own (.struct [.int .i64, .int .i64, .int .i64, .int .i64]))]⟩ [.I y.1, .L y.2.1, .I y.2.2.1, .I y.2.2.2.1, .L y.2.2.2.2])) := by kernel_rfl
theorem m_Z6_ok : ∀ n, (m_Z6 (n_Z6 n)).ok Try.prog (codeAt (bodyOf Try.f98) 9) := by
 intro n
 induction n with
 | zero =>
  intro R ds k r h
  unfold m_Z6 at h
  obtain ⟨x0, d0, rfl, h0⟩ := dI_some h
  obtain ⟨x1, d1, rfl, h1⟩ := dI_some h0
  obtain ⟨x2, d2, rfl, h2⟩ := dL_some h1
  obtain ⟨x3, d3, rfl, h3⟩ := dI_some h2
  obtain ⟨x4, d4, rfl, h4⟩ := dI_some h3
  obtain ⟨x5, d5, rfl, h5⟩ := dL_some h4
  obtain ⟨rfl, hE⟩ := dE_some h5
  obtain ⟨y, hy, hk⟩ := bnd_some hE
  cases hy
 | succ n ih =>
  intro R ds k r h
  unfold m_Z6 at h
  obtain ⟨x0, d0, rfl, h0⟩ := dI_some h
  obtain ⟨x1, d1, rfl, h1⟩ := dI_some h0
  obtain ⟨x2, d2, rfl, h2⟩ := dL_some h1
  obtain ⟨x3, d3, rfl, h3⟩ := dI_some h2
  obtain ⟨x4, d4, rfl, h4⟩ := dI_some h3
  obtain ⟨x5, d5, rfl, h5⟩ := dL_some h4
  obtain ⟨rfl, hE⟩ := dE_some h5
  obtain ⟨y, hy, hk⟩ := bnd_some hE
  have hq := q_Z6 (n_Z6 n) x0 x1 x2 x3 x4 x5
  rw [c_Z6_bind] at hq
  rw [show c_Z6 (n_Z6 n) x0 x1 x2 x3 x4 x5 some = some y from hy] at hq
  refine ⟨0, _, _, _, hk, rfl, loop_ok px (fx := ⟨Try.func98, by kernel_rfl, by kernel_rfl⟩) (entsOK_cons e_Z2_ok (entsOK_cons e_Z4_ok entsOK_nil)) (lentsOK_cons ih lentsOK_nil) (by kernel_rfl) ?_⟩
  exact hq
noncomputable def e_Z6 : Lent := m_Z6 (Z6)
theorem e_Z6_ok : (e_Z6).ok Try.prog (codeAt (bodyOf Try.f98) 9) := by
 intro R ds k r h
 unfold e_Z6 m_Z6 at h
 obtain ⟨x0, d0, rfl, h0⟩ := dI_some h
 obtain ⟨x1, d1, rfl, h1⟩ := dI_some h0
 obtain ⟨x2, d2, rfl, h2⟩ := dL_some h1
 obtain ⟨x3, d3, rfl, h3⟩ := dI_some h2
 obtain ⟨x4, d4, rfl, h4⟩ := dI_some h3
 obtain ⟨x5, d5, rfl, h5⟩ := dL_some h4
 obtain ⟨rfl, hE⟩ := dE_some h5
 obtain ⟨y, hy, hk⟩ := bnd_some hE
 obtain ⟨n, hn⟩ := ev_some hy
 exact m_Z6_ok n R _ k r (show (n_Z6 n x0 x1 x2 x3 x4 x5).bind _ = _ by rw [hn]; exact hk)

/-!-/
def c_Z7 {R : Type} (x0 : List D) (x1 : Int) (x2 : Int) (k : List D × Int × List D × Int × Int → Option R) : Option R :=
 (Z2 x0 x1 x2 (4 : Int)).bind (fun y0 =>
 (Z5 (IntKind.i64.wrap ((2 : Int) + y0.fst)) (1 : Int) y0.snd.fst y0.snd.snd.fst y0.snd.snd.snd []).bind (fun y1 =>
 (Z2 y1.snd.fst y1.snd.snd.fst y1.snd.snd.snd.fst (4 : Int)).bind (fun y2 =>
 (Z6 y1.fst y2.fst y2.snd.fst y2.snd.snd.fst y2.snd.snd.snd y1.snd.snd.snd.snd).bind (fun y3 =>
 (Z2 y3.snd.fst y3.snd.snd.fst y3.snd.snd.snd.fst (40 : Int)).bind (fun y4 =>
 bif decide (y4.fst = (0 : Int)) then
 (Z4 y4.snd.fst y4.snd.snd.fst y4.snd.snd.snd ([D.int (1 : Int), D.int (9 : Int), D.int (6 : Int)])).bind (fun y5 =>
 k (y3.snd.snd.snd.snd, y5.fst, y5.snd.fst, y5.snd.snd.fst, y5.snd.snd.snd))
 else
 bif decide (y4.fst = (1 : Int)) then
 (Z4 y4.snd.fst y4.snd.snd.fst y4.snd.snd.snd ([D.int 0, D.int (8 : Int)])).bind (fun y6 =>
 if y3.snd.snd.snd.snd.length + [D.node [D.int 0, D.int y6.fst, D.int 0, D.int (1 : Int)]].length ≤ (4294967296 : Nat) then
 k (y3.snd.snd.snd.snd ++ [D.node [D.int 0, D.int y6.fst, D.int 0, D.int (1 : Int)]], y3.fst, y6.snd.fst, y6.snd.snd.fst, y6.snd.snd.snd)
 else
 none)
 else
 bif decide (y4.fst = (2 : Int)) then
 (Z4 y4.snd.fst y4.snd.snd.fst y4.snd.snd.snd ([D.int (1000 : Int), D.int (1001 : Int), D.int (100001 : Int)])).bind (fun y7 =>
 (Z4 y7.snd.fst y7.snd.snd.fst y7.snd.snd.snd ([D.int 0, D.int (6 : Int), D.int (7 : Int), D.int (1001 : Int)])).bind (fun y8 =>
 if y3.snd.snd.snd.snd.length + [D.node [D.int 0, D.int (1 : Int), D.int y7.fst, D.int y8.fst]].length ≤ (4294967296 : Nat) then
 k (y3.snd.snd.snd.snd ++ [D.node [D.int 0, D.int (1 : Int), D.int y7.fst, D.int y8.fst]], y3.fst, y8.snd.fst, y8.snd.snd.fst, y8.snd.snd.snd)
 else
 none))
 else
 k (y3.snd.snd.snd.snd, y3.fst, y4.snd.fst, y4.snd.snd.fst, y4.snd.snd.snd))))))
theorem c_Z7_bind {R : Type} (x0 : List D) (x1 : Int) (x2 : Int) (k : List D × Int × List D × Int × Int → Option R) : c_Z7 x0 x1 x2 k = (c_Z7 x0 x1 x2 some).bind k := by
 unfold c_Z7
 repeat' first|exact bnd_tail|exact bnd_none|exact bnd_leaf|apply bnd_ite|apply bnd_cond|apply bnd_sum|(apply bnd_bind;intro _)|intro _
def Z7 (x0 : List D) (x1 : Int) (x2 : Int) : Option (List D × Int × List D × Int × Int) := c_Z7 x0 x1 x2 some
def e_Z7 : Ent := ⟨98, [.obox (.agg [.rd (.int .u8), .int .i64, .int .u64])], .tup [.own (.struct [.int .i64, .int .i64, .int .i64, .int .i64]), .int .i64], [.obox (.agg [.rd (.int .u8), .int .i64, .int .u64])], fun _ ds k => dL (fun x0 ds => dI (fun x1 ds => dI (fun x2 ds => dE ((Z7 x0 x1 x2).bind (fun y => k [.L y.1, .I y.2.1, .L y.2.2.1, .I y.2.2.2.1, .I y.2.2.2.2])) ds) ds) ds) ds⟩
theorem q_Z7 (x0 : List D) (x1 : Int) (x2 : Int) : runFn (ocOf [e_Z2, e_Z4]) (olOf [e_Z5, e_Z6]) A 98 Try.f98 (Sh.mks e_Z7.sh [.L x0, .I x1, .I x2]).1 (fun v os => some (v, os)) = c_Z7 x0 x1 x2 (fun y => some ((e_Z7.res.mk [.L y.1, .I y.2.1, .L y.2.2.1, .I y.2.2.2.1, .I y.2.2.2.2]).1, (Sh.mks e_Z7.outs (e_Z7.res.mk [.L y.1, .I y.2.1, .L y.2.2.1, .I y.2.2.2.1, .I y.2.2.2.2]).2).1)) := by kernel_rfl
theorem e_Z7_ok : e_Z7.ok Try.prog A := by
 intro R ds k r h
 unfold e_Z7 at h
 obtain ⟨x0, d0, rfl, h0⟩ := dL_some h
 obtain ⟨x1, d1, rfl, h1⟩ := dI_some h0
 obtain ⟨x2, d2, rfl, h2⟩ := dI_some h1
 obtain ⟨rfl, hE⟩ := dE_some h2
 obtain ⟨y, hy, hk⟩ := bnd_some hE
 refine ⟨_, hk, fn_ok px (fx := ⟨Try.func98, by kernel_rfl, by kernel_rfl⟩) (entsOK_cons e_Z2_ok (entsOK_cons e_Z4_ok entsOK_nil)) (lentsOK_cons e_Z5_ok (lentsOK_cons e_Z6_ok lentsOK_nil)) ?_⟩
 have hq := q_Z7 x0 x1 x2
 rw [c_Z7_bind] at hq
 rw [show c_Z7 x0 x1 x2 some = some y from hy] at hq
 exact hq

/-!-/
def c_Z8 {R : Type} (x0 : Int) (x1 : Int) (k : Int → Option R) : Option R :=
 bif decide (x1 < x0) then
 k x0
 else
 k x1
theorem c_Z8_bind {R : Type} (x0 : Int) (x1 : Int) (k : Int → Option R) : c_Z8 x0 x1 k = (c_Z8 x0 x1 some).bind k := by
 unfold c_Z8
 repeat' first|exact bnd_tail|exact bnd_none|exact bnd_leaf|apply bnd_ite|apply bnd_cond|apply bnd_sum|(apply bnd_bind;intro _)|intro _
def Z8 (x0 : Int) (x1 : Int) : Option (Int) := c_Z8 x0 x1 some
def e_Z8 : Ent := ⟨93, [.int .i64, .int .i64], .int .i64, [.undef, .undef], fun _ ds k => dI (fun x0 ds => dI (fun x1 ds => dE ((Z8 x0 x1).bind (fun y => k [.I y])) ds) ds) ds⟩
theorem q_Z8 (x0 : Int) (x1 : Int) : runFn (ocOf []) (olOf []) A 93 Try.f93 (Sh.mks e_Z8.sh [.I x0, .I x1]).1 (fun v os => some (v, os)) = c_Z8 x0 x1 (fun y => some ((e_Z8.res.mk [.I y]).1, (Sh.mks e_Z8.outs (e_Z8.res.mk [.I y]).2).1)) := by kernel_rfl
theorem e_Z8_ok : e_Z8.ok Try.prog A := by
 intro R ds k r h
 unfold e_Z8 at h
 obtain ⟨x0, d0, rfl, h0⟩ := dI_some h
 obtain ⟨x1, d1, rfl, h1⟩ := dI_some h0
 obtain ⟨rfl, hE⟩ := dE_some h1
 obtain ⟨y, hy, hk⟩ := bnd_some hE
 refine ⟨_, hk, fn_ok px (fx := ⟨Try.func93, by kernel_rfl, by kernel_rfl⟩) entsOK_nil lentsOK_nil ?_⟩
 have hq := q_Z8 x0 x1
 rw [c_Z8_bind] at hq
 rw [show c_Z8 x0 x1 some = some y from hy] at hq
 exact hq

/-!-/
def c_Z9 {R : Type} (F : Int → Int → List D → Int → Int → List D → List D → Option (Int × List D × Int × Int × List D × List D)) (x0 : Int) (x1 : Int) (x2 : List D) (x3 : Int) (x4 : Int) (x5 : List D) (x6 : List D) (k : Int × List D × Int × Int × List D × List D → Option R) : Option R :=
 bif decide ((0 : Int) < x1) then
 (Z8 x0 (1 : Int)).bind (fun y0 =>
 (Z2 x2 x3 x4 y0).bind (fun y1 =>
 if x6.length + [D.int y1.fst].length ≤ (4294967296 : Nat) then
 (F x0 (IntKind.i64.wrap (x1 - 1)) y1.snd.fst y1.snd.snd.fst y1.snd.snd.snd x5 (x6 ++ [D.int y1.fst])).bind k
 else
 none))
 else
 k (x0, x2, x3, x4, x5, x6)
theorem c_Z9_bind {R : Type} (F : Int → Int → List D → Int → Int → List D → List D → Option (Int × List D × Int × Int × List D × List D)) (x0 : Int) (x1 : Int) (x2 : List D) (x3 : Int) (x4 : Int) (x5 : List D) (x6 : List D) (k : Int × List D × Int × Int × List D × List D → Option R) : c_Z9 F x0 x1 x2 x3 x4 x5 x6 k = (c_Z9 F x0 x1 x2 x3 x4 x5 x6 some).bind k := by
 unfold c_Z9
 repeat' first|exact bnd_tail|exact bnd_none|exact bnd_leaf|apply bnd_ite|apply bnd_cond|apply bnd_sum|(apply bnd_bind;intro _)|intro _
def n_Z9 : Nat → Int → Int → List D → Int → Int → List D → List D → Option (Int × List D × Int × Int × List D × List D)
 | 0, _, _, _, _, _, _, _ => none
 | n + 1, x0, x1, x2, x3, x4, x5, x6 => c_Z9 (n_Z9 n) x0 x1 x2 x3 x4 x5 x6 some
noncomputable def Z9 (x0 : Int) (x1 : Int) (x2 : List D) (x3 : Int) (x4 : Int) (x5 : List D) (x6 : List D) : Option (Int × List D × Int × Int × List D × List D) := ev (fun n => n_Z9 n x0 x1 x2 x3 x4 x5 x6)
def m_Z9 (F : Int → Int → List D → Int → Int → List D → List D → Option (Int × List D × Int × Int × List D × List D)) : Lent := ⟨5, ⟨(uu 5 (.ptr 1000 [0] :: .full 1001 [] (.struct [.int .i64, .int .i64, .int .i64, .int .i64]) :: .int .i64 :: .full 1002 [] (.int .i64) :: .int .i64 :: uu 51 ([]))), [(1000, .obox (.agg [.rd (.int .u8), .int .i64, .int .u64])), (1001, .own (.struct [.int .i64, .int .i64, .int .i64, .int .i64])), (1002, .own (.int .i64))]⟩, [(.exit 0, ⟨(uu 5 (.ptr 1000 [0] :: .full 1001 [] (.struct [.int .i64, .int .i64, .int .i64, .int .i64]) :: .int .i64 :: .full 1002 [] (.int .i64) :: uu 52 ([]))), [(1000, .obox (.agg [.rd (.int .u8), .int .i64, .int .u64])), (1001, .own (.struct [.int .i64, .int .i64, .int .i64, .int .i64])), (1002, .own (.int .i64))]⟩)], fun _ ds k => dI (fun x0 ds => dI (fun x1 ds => dL (fun x2 ds => dI (fun x3 ds => dI (fun x4 ds => dL (fun x5 ds => dL (fun x6 ds => dE ((F x0 x1 x2 x3 x4 x5 x6).bind (fun y => k 0 [.I y.1, .L y.2.1, .I y.2.2.1, .I y.2.2.2.1, .L y.2.2.2.2.1, .L y.2.2.2.2.2])) ds) ds) ds) ds) ds) ds) ds) ds⟩
theorem q_Z9 (F : Int → Int → List D → Int → Int → List D → List D → Option (Int × List D × Int × Int × List D × List D)) (x0 : Int) (x1 : Int) (x2 : List D) (x3 : Int) (x4 : Int) (x5 : List D) (x6 : List D) : runLoop (ocOf [e_Z8, e_Z2]) (olOf [m_Z9 F]) A 53 (codeAt (bodyOf Try.f53) 5) ((m_Z9 F).sh.mk' [.I x0, .I x1, .L x2, .I x3, .I x4, .L x5, .L x6]) (fun e σ' => some (e, σ')) = c_Z9 F x0 x1 x2 x3 x4 x5 x6 (fun y => some (.exit 0, SSt.mk' ⟨(uu 5 (.ptr 1000 [0] :: .full 1001 [] (.struct [.int .i64, .int .i64, .int .i64, .int .i64]) :: .int .i64 :: .full 1002 [] (.int .i64) :: uu 52 ([]))), [(1000, .obox (.agg [.rd (.int .u8), .int .i64, .int .u64])), (1001, .own (.struct [.int .i64, .int .i64, .int .i64, .int .i64])), (1002, .own (.int .i64))]⟩ [.I y.1, .L y.2.1, .I y.2.2.1, .I y.2.2.2.1, .L y.2.2.2.2.1, .L y.2.2.2.2.2])) := by kernel_rfl
theorem m_Z9_ok : ∀ n, (m_Z9 (n_Z9 n)).ok Try.prog (codeAt (bodyOf Try.f53) 5) := by
 intro n
 induction n with
 | zero =>
  intro R ds k r h
  unfold m_Z9 at h
  obtain ⟨x0, d0, rfl, h0⟩ := dI_some h
  obtain ⟨x1, d1, rfl, h1⟩ := dI_some h0
  obtain ⟨x2, d2, rfl, h2⟩ := dL_some h1
  obtain ⟨x3, d3, rfl, h3⟩ := dI_some h2
  obtain ⟨x4, d4, rfl, h4⟩ := dI_some h3
  obtain ⟨x5, d5, rfl, h5⟩ := dL_some h4
  obtain ⟨x6, d6, rfl, h6⟩ := dL_some h5
  obtain ⟨rfl, hE⟩ := dE_some h6
  obtain ⟨y, hy, hk⟩ := bnd_some hE
  cases hy
 | succ n ih =>
  intro R ds k r h
  unfold m_Z9 at h
  obtain ⟨x0, d0, rfl, h0⟩ := dI_some h
  obtain ⟨x1, d1, rfl, h1⟩ := dI_some h0
  obtain ⟨x2, d2, rfl, h2⟩ := dL_some h1
  obtain ⟨x3, d3, rfl, h3⟩ := dI_some h2
  obtain ⟨x4, d4, rfl, h4⟩ := dI_some h3
  obtain ⟨x5, d5, rfl, h5⟩ := dL_some h4
  obtain ⟨x6, d6, rfl, h6⟩ := dL_some h5
  obtain ⟨rfl, hE⟩ := dE_some h6
  obtain ⟨y, hy, hk⟩ := bnd_some hE
  have hq := q_Z9 (n_Z9 n) x0 x1 x2 x3 x4 x5 x6
  rw [c_Z9_bind] at hq
  rw [show c_Z9 (n_Z9 n) x0 x1 x2 x3 x4 x5 x6 some = some y from hy] at hq
  refine ⟨0, _, _, _, hk, rfl, loop_ok px (fx := ⟨Try.func53, by kernel_rfl, by kernel_rfl⟩) (entsOK_cons e_Z8_ok (entsOK_cons e_Z2_ok entsOK_nil)) (lentsOK_cons ih lentsOK_nil) (by kernel_rfl) ?_⟩
  exact hq
noncomputable def e_Z9 : Lent := m_Z9 (Z9)
theorem e_Z9_ok : (e_Z9).ok Try.prog (codeAt (bodyOf Try.f53) 5) := by
 intro R ds k r h
 unfold e_Z9 m_Z9 at h
 obtain ⟨x0, d0, rfl, h0⟩ := dI_some h
 obtain ⟨x1, d1, rfl, h1⟩ := dI_some h0
 obtain ⟨x2, d2, rfl, h2⟩ := dL_some h1
 obtain ⟨x3, d3, rfl, h3⟩ := dI_some h2
 obtain ⟨x4, d4, rfl, h4⟩ := dI_some h3
 obtain ⟨x5, d5, rfl, h5⟩ := dL_some h4
 obtain ⟨x6, d6, rfl, h6⟩ := dL_some h5
 obtain ⟨rfl, hE⟩ := dE_some h6
 obtain ⟨y, hy, hk⟩ := bnd_some hE
 obtain ⟨n, hn⟩ := ev_some hy
 exact m_Z9_ok n R _ k r (show (n_Z9 n x0 x1 x2 x3 x4 x5 x6).bind _ = _ by rw [hn]; exact hk)

/-!-/
def c_Z10 {R : Type} (x0 : List D) (k : List D × Int × List D → Option R) : Option R :=
 (Z7 x0 (0 : Int) (0 : Int)).bind (fun y0 =>
 (Z2 y0.snd.snd.fst y0.snd.snd.snd.fst y0.snd.snd.snd.snd (4 : Int)).bind (fun y1 =>
 (Z9 y0.snd.fst (IntKind.i64.wrap ((1 : Int) + y1.fst)) y1.snd.fst y1.snd.snd.fst y1.snd.snd.snd y0.fst []).bind (fun y2 =>
 bif decide ((0 : Int) < (↑y2.snd.snd.snd.snd.fst.length : Int)) then
 (Z3 y2.snd.fst y2.snd.snd.fst y2.snd.snd.snd.fst (2 : Int)).bind (fun y3 =>
 bif y3.fst then
 if (0 : Int) ≤ (0 : Int) ∧ (0 : Int) < (↑y2.snd.snd.snd.snd.fst.length : Int) then
 if Int.toNat (0 : Int) + (1 : Nat) ≤ y2.snd.snd.snd.snd.fst.length then
 if Int.toNat (0 : Int) + (1 : Nat) ≤ y2.snd.snd.snd.snd.fst.length then
 if (0 : Int) ≤ (0 : Int) ∧ (0 : Int) < (↑y2.snd.snd.snd.snd.fst.length : Int) then
 if Int.toNat (0 : Int) + (1 : Nat) ≤ y2.snd.snd.snd.snd.fst.length then
 if Int.toNat (0 : Int) + (1 : Nat) ≤ y2.snd.snd.snd.snd.fst.length then
 (Z3 y3.snd.fst y3.snd.snd.fst y3.snd.snd.snd (2 : Int)).bind (fun y4 =>
 bif y4.fst then
 (Z8 y2.fst (1 : Int)).bind (fun y5 =>
 (Z2 y4.snd.fst y4.snd.snd.fst y4.snd.snd.snd y5).bind (fun y6 =>
 if [D.int ((y2.snd.snd.snd.snd.fst.getD (Int.toNat (0 : Int)) (D.int 0)).fld (0 : Nat)).toInt, D.int ((y2.snd.snd.snd.snd.fst.getD (Int.toNat (0 : Int)) (D.int 0)).fld (1 : Nat)).toInt].length + [D.int y6.fst].length ≤ (4294967296 : Nat) then
 k (y2.snd.snd.snd.snd.fst, y2.fst, [D.int ((y2.snd.snd.snd.snd.fst.getD (Int.toNat (0 : Int)) (D.int 0)).fld (0 : Nat)).toInt, D.int ((y2.snd.snd.snd.snd.fst.getD (Int.toNat (0 : Int)) (D.int 0)).fld (1 : Nat)).toInt] ++ [D.int y6.fst])
 else
 none))
 else
 k (y2.snd.snd.snd.snd.fst, y2.fst, [D.int ((y2.snd.snd.snd.snd.fst.getD (Int.toNat (0 : Int)) (D.int 0)).fld (0 : Nat)).toInt, D.int ((y2.snd.snd.snd.snd.fst.getD (Int.toNat (0 : Int)) (D.int 0)).fld (1 : Nat)).toInt]))
 else
 none
 else
 none
 else
 none
 else
 none
 else
 none
 else
 none
 else
 k (y2.snd.snd.snd.snd.fst, y2.fst, y2.snd.snd.snd.snd.snd))
 else
 k (y2.snd.snd.snd.snd.fst, y2.fst, y2.snd.snd.snd.snd.snd))))
theorem c_Z10_bind {R : Type} (x0 : List D) (k : List D × Int × List D → Option R) : c_Z10 x0 k = (c_Z10 x0 some).bind k := by
 unfold c_Z10
 repeat' first|exact bnd_tail|exact bnd_none|exact bnd_leaf|apply bnd_ite|apply bnd_cond|apply bnd_sum|(apply bnd_bind;intro _)|intro _
def Z10 (x0 : List D) : Option (List D × Int × List D) := c_Z10 x0 some
def e_Z10 : Ent := ⟨53, [.rd (.int .u8)], .tup [.own (.struct [.int .i64, .int .i64, .int .i64, .int .i64]), .int .i64, .own (.int .i64)], [.undef], fun _ ds k => dL (fun x0 ds => dE ((Z10 x0).bind (fun y => k [.L y.1, .I y.2.1, .L y.2.2])) ds) ds⟩
theorem q_Z10 (x0 : List D) : runFn (ocOf [e_Z7, e_Z2, e_Z3, e_Z8]) (olOf [e_Z9]) A 53 Try.f53 (Sh.mks e_Z10.sh [.L x0]).1 (fun v os => some (v, os)) = c_Z10 x0 (fun y => some ((e_Z10.res.mk [.L y.1, .I y.2.1, .L y.2.2]).1, (Sh.mks e_Z10.outs (e_Z10.res.mk [.L y.1, .I y.2.1, .L y.2.2]).2).1)) := by kernel_rfl
theorem e_Z10_ok : e_Z10.ok Try.prog A := by
 intro R ds k r h
 unfold e_Z10 at h
 obtain ⟨x0, d0, rfl, h0⟩ := dL_some h
 obtain ⟨rfl, hE⟩ := dE_some h0
 obtain ⟨y, hy, hk⟩ := bnd_some hE
 refine ⟨_, hk, fn_ok px (fx := ⟨Try.func53, by kernel_rfl, by kernel_rfl⟩) (entsOK_cons e_Z7_ok (entsOK_cons e_Z2_ok (entsOK_cons e_Z3_ok (entsOK_cons e_Z8_ok entsOK_nil)))) (lentsOK_cons e_Z9_ok lentsOK_nil) ?_⟩
 have hq := q_Z10 x0
 rw [c_Z10_bind] at hq
 rw [show c_Z10 x0 some = some y from hy] at hq
 exact hq

/-!-/
def c_Z11 {R : Type} (x0 : Int) (x1 : Int) (x2 : Int) (k : Bool → Option R) : Option R :=
 bif decide (x1 ≤ x0) then
 k (decide (x0 ≤ x2))
 else
 k Bool.false
theorem c_Z11_bind {R : Type} (x0 : Int) (x1 : Int) (x2 : Int) (k : Bool → Option R) : c_Z11 x0 x1 x2 k = (c_Z11 x0 x1 x2 some).bind k := by
 unfold c_Z11
 repeat' first|exact bnd_tail|exact bnd_none|exact bnd_leaf|apply bnd_ite|apply bnd_cond|apply bnd_sum|(apply bnd_bind;intro _)|intro _
def Z11 (x0 : Int) (x1 : Int) (x2 : Int) : Option (Bool) := c_Z11 x0 x1 x2 some
def e_Z11 : Ent := ⟨71, [.int .i64, .int .i64, .int .i64], .bool, [.undef, .undef, .undef], fun _ ds k => dI (fun x0 ds => dI (fun x1 ds => dI (fun x2 ds => dE ((Z11 x0 x1 x2).bind (fun y => k [.B y])) ds) ds) ds) ds⟩
theorem q_Z11 (x0 : Int) (x1 : Int) (x2 : Int) : runFn (ocOf []) (olOf []) A 71 Try.f71 (Sh.mks e_Z11.sh [.I x0, .I x1, .I x2]).1 (fun v os => some (v, os)) = c_Z11 x0 x1 x2 (fun y => some ((e_Z11.res.mk [.B y]).1, (Sh.mks e_Z11.outs (e_Z11.res.mk [.B y]).2).1)) := by kernel_rfl
theorem e_Z11_ok : e_Z11.ok Try.prog A := by
 intro R ds k r h
 unfold e_Z11 at h
 obtain ⟨x0, d0, rfl, h0⟩ := dI_some h
 obtain ⟨x1, d1, rfl, h1⟩ := dI_some h0
 obtain ⟨x2, d2, rfl, h2⟩ := dI_some h1
 obtain ⟨rfl, hE⟩ := dE_some h2
 obtain ⟨y, hy, hk⟩ := bnd_some hE
 refine ⟨_, hk, fn_ok px (fx := ⟨Try.func71, by kernel_rfl, by kernel_rfl⟩) entsOK_nil lentsOK_nil ?_⟩
 have hq := q_Z11 x0 x1 x2
 rw [c_Z11_bind] at hq
 rw [show c_Z11 x0 x1 x2 some = some y from hy] at hq
 exact hq

/-!-/
def c_Z12 {R : Type} (x0 : Int) (x1 : Int) (x2 : Int) (x3 : Int) (x4 : Int) (k : Bool → Option R) : Option R :=
 (Z11 x0 (0 : Int) (IntKind.i64.wrap (x4 - 1))).bind (fun y0 =>
 bif !y0 then
 k Bool.true
 else
 (Z11 x1 (0 : Int) (IntKind.i64.wrap (x4 - 1))).bind (fun y1 =>
 bif !y1 then
 k Bool.true
 else
 bif decide (x0 = x1) then
 k Bool.true
 else
 (Z11 x2 (-100000 : Int) (100000 : Int)).bind (fun y2 =>
 bif !y2 then
 k Bool.true
 else
 (Z11 x3 (1 : Int) (1000 : Int)).bind (fun y3 =>
 k !y3))))
theorem c_Z12_bind {R : Type} (x0 : Int) (x1 : Int) (x2 : Int) (x3 : Int) (x4 : Int) (k : Bool → Option R) : c_Z12 x0 x1 x2 x3 x4 k = (c_Z12 x0 x1 x2 x3 x4 some).bind k := by
 unfold c_Z12
 repeat' first|exact bnd_tail|exact bnd_none|exact bnd_leaf|apply bnd_ite|apply bnd_cond|apply bnd_sum|(apply bnd_bind;intro _)|intro _
def Z12 (x0 : Int) (x1 : Int) (x2 : Int) (x3 : Int) (x4 : Int) : Option (Bool) := c_Z12 x0 x1 x2 x3 x4 some
def e_Z12 : Ent := ⟨118, [.agg [.int .i64, .int .i64, .int .i64, .int .i64], .rp (.int .i64)], .bool, [.undef, .undef], fun _ ds k => dI (fun x0 ds => dI (fun x1 ds => dI (fun x2 ds => dI (fun x3 ds => dI (fun x4 ds => dE ((Z12 x0 x1 x2 x3 x4).bind (fun y => k [.B y])) ds) ds) ds) ds) ds) ds⟩
theorem q_Z12 (x0 : Int) (x1 : Int) (x2 : Int) (x3 : Int) (x4 : Int) : runFn (ocOf [e_Z11]) (olOf []) A 118 Try.f118 (Sh.mks e_Z12.sh [.I x0, .I x1, .I x2, .I x3, .I x4]).1 (fun v os => some (v, os)) = c_Z12 x0 x1 x2 x3 x4 (fun y => some ((e_Z12.res.mk [.B y]).1, (Sh.mks e_Z12.outs (e_Z12.res.mk [.B y]).2).1)) := by kernel_rfl
theorem e_Z12_ok : e_Z12.ok Try.prog A := by
 intro R ds k r h
 unfold e_Z12 at h
 obtain ⟨x0, d0, rfl, h0⟩ := dI_some h
 obtain ⟨x1, d1, rfl, h1⟩ := dI_some h0
 obtain ⟨x2, d2, rfl, h2⟩ := dI_some h1
 obtain ⟨x3, d3, rfl, h3⟩ := dI_some h2
 obtain ⟨x4, d4, rfl, h4⟩ := dI_some h3
 obtain ⟨rfl, hE⟩ := dE_some h4
 obtain ⟨y, hy, hk⟩ := bnd_some hE
 refine ⟨_, hk, fn_ok px (fx := ⟨Try.func118, by kernel_rfl, by kernel_rfl⟩) (entsOK_cons e_Z11_ok entsOK_nil) lentsOK_nil ?_⟩
 have hq := q_Z12 x0 x1 x2 x3 x4
 rw [c_Z12_bind] at hq
 rw [show c_Z12 x0 x1 x2 x3 x4 some = some y from hy] at hq
 exact hq

/-!-/
def c_Z13 {R : Type} (F : List D → Int → Int → Int → Option ((Int) ⊕ (Unit))) (x0 : List D) (x1 : Int) (x2 : Int) (x3 : Int) (k : (Int) ⊕ (Unit) → Option R) : Option R :=
 bif decide (x3 < x2) then
 if 0 ≤ x3 ∧ x3 < (↑x0.length : Int) then
 (Z12 (((x0.getD x3.toNat (D.int 0)).fld (0 : Nat)).toInt) (((x0.getD x3.toNat (D.int 0)).fld (1 : Nat)).toInt) (((x0.getD x3.toNat (D.int 0)).fld (2 : Nat)).toInt) (((x0.getD x3.toNat (D.int 0)).fld (3 : Nat)).toInt) x1).bind (fun y0 =>
 bif y0 then
 k (.inl x3)
 else
 (F x0 x1 x2 (IntKind.i64.wrap (x3 + 1))).bind k)
 else
 none
 else
 k (.inr ())
theorem c_Z13_bind {R : Type} (F : List D → Int → Int → Int → Option ((Int) ⊕ (Unit))) (x0 : List D) (x1 : Int) (x2 : Int) (x3 : Int) (k : (Int) ⊕ (Unit) → Option R) : c_Z13 F x0 x1 x2 x3 k = (c_Z13 F x0 x1 x2 x3 some).bind k := by
 unfold c_Z13
 repeat' first|exact bnd_tail|exact bnd_none|exact bnd_leaf|apply bnd_ite|apply bnd_cond|apply bnd_sum|(apply bnd_bind;intro _)|intro _
def n_Z13 : Nat → List D → Int → Int → Int → Option ((Int) ⊕ (Unit))
 | 0, _, _, _, _ => none
 | n + 1, x0, x1, x2, x3 => c_Z13 (n_Z13 n) x0 x1 x2 x3 some
noncomputable def Z13 (x0 : List D) (x1 : Int) (x2 : Int) (x3 : Int) : Option ((Int) ⊕ (Unit)) := ev (fun n => n_Z13 n x0 x1 x2 x3)
def m_Z13 (F : List D → Int → Int → Int → Option ((Int) ⊕ (Unit))) : Lent := ⟨2, ⟨(.rd (.struct [.int .i64, .int .i64, .int .i64, .int .i64]) :: .fn 118 [.rp (.int .i64)] :: uu 5 (.int .i64 :: .int .i64 :: uu 10 ([]))), []⟩, [(.ret, ⟨(uu 4 (.int .i64 :: uu 14 ([]))), []⟩), (.exit 0, ⟨(uu 19 ([])), []⟩)], fun _ ds k => dL (fun x0 ds => dI (fun x1 ds => dI (fun x2 ds => dI (fun x3 ds => dE ((F x0 x1 x2 x3).bind (Sum.elim (fun y => k 0 [.I y]) (fun y => k 1 []))) ds) ds) ds) ds) ds⟩
theorem q_Z13 (F : List D → Int → Int → Int → Option ((Int) ⊕ (Unit))) (x0 : List D) (x1 : Int) (x2 : Int) (x3 : Int) : runLoop (ocOf [e_Z12]) (olOf [m_Z13 F]) A 72 (codeAt (bodyOf Try.f72) 2) ((m_Z13 F).sh.mk' [.L x0, .I x1, .I x2, .I x3]) (fun e σ' => some (e, σ')) = c_Z13 F x0 x1 x2 x3 (Sum.elim (fun y => some (.ret, SSt.mk' ⟨(uu 4 (.int .i64 :: uu 14 ([]))), []⟩ [.I y])) (fun y => some (.exit 0, SSt.mk' ⟨(uu 19 ([])), []⟩ []))) := by kernel_rfl
theorem m_Z13_ok : ∀ n, (m_Z13 (n_Z13 n)).ok Try.prog (codeAt (bodyOf Try.f72) 2) := by
 intro n
 induction n with
 | zero =>
  intro R ds k r h
  unfold m_Z13 at h
  obtain ⟨x0, d0, rfl, h0⟩ := dL_some h
  obtain ⟨x1, d1, rfl, h1⟩ := dI_some h0
  obtain ⟨x2, d2, rfl, h2⟩ := dI_some h1
  obtain ⟨x3, d3, rfl, h3⟩ := dI_some h2
  obtain ⟨rfl, hE⟩ := dE_some h3
  obtain ⟨y, hy, hk⟩ := bnd_some hE
  cases hy
 | succ n ih =>
  intro R ds k r h
  unfold m_Z13 at h
  obtain ⟨x0, d0, rfl, h0⟩ := dL_some h
  obtain ⟨x1, d1, rfl, h1⟩ := dI_some h0
  obtain ⟨x2, d2, rfl, h2⟩ := dI_some h1
  obtain ⟨x3, d3, rfl, h3⟩ := dI_some h2
  obtain ⟨rfl, hE⟩ := dE_some h3
  obtain ⟨y, hy, hk⟩ := bnd_some hE
  have hq := q_Z13 (n_Z13 n) x0 x1 x2 x3
  rw [c_Z13_bind] at hq
  rw [show c_Z13 (n_Z13 n) x0 x1 x2 x3 some = some y from hy] at hq
  cases y with
  | inl y =>
   refine ⟨0, _, _, _, hk, rfl, loop_ok px (fx := ⟨Try.func72, by kernel_rfl, by kernel_rfl⟩) (entsOK_cons e_Z12_ok entsOK_nil) (lentsOK_cons ih lentsOK_nil) (by kernel_rfl) ?_⟩
   exact hq
  | inr y =>
   refine ⟨1, _, _, _, hk, rfl, loop_ok px (fx := ⟨Try.func72, by kernel_rfl, by kernel_rfl⟩) (entsOK_cons e_Z12_ok entsOK_nil) (lentsOK_cons ih lentsOK_nil) (by kernel_rfl) ?_⟩
   exact hq
noncomputable def e_Z13 : Lent := m_Z13 (Z13)
theorem e_Z13_ok : (e_Z13).ok Try.prog (codeAt (bodyOf Try.f72) 2) := by
 intro R ds k r h
 unfold e_Z13 m_Z13 at h
 obtain ⟨x0, d0, rfl, h0⟩ := dL_some h
 obtain ⟨x1, d1, rfl, h1⟩ := dI_some h0
 obtain ⟨x2, d2, rfl, h2⟩ := dI_some h1
 obtain ⟨x3, d3, rfl, h3⟩ := dI_some h2
 obtain ⟨rfl, hE⟩ := dE_some h3
 obtain ⟨y, hy, hk⟩ := bnd_some hE
 obtain ⟨n, hn⟩ := ev_some hy
 exact m_Z13_ok n R _ k r (show (n_Z13 n x0 x1 x2 x3).bind _ = _ by rw [hn]; exact hk)

/-!-/
def c_Z14 {R : Type} (x0 : List D) (x1 : Int) (k : Int → Option R) : Option R :=
 (Z13 x0 x1 (↑x0.length : Int) (0 : Int)).bind (Sum.elim (fun y0 =>
 k y0) (fun y1 =>
 k (-1 : Int)))
theorem c_Z14_bind {R : Type} (x0 : List D) (x1 : Int) (k : Int → Option R) : c_Z14 x0 x1 k = (c_Z14 x0 x1 some).bind k := by
 unfold c_Z14
 repeat' first|exact bnd_tail|exact bnd_none|exact bnd_leaf|apply bnd_ite|apply bnd_cond|apply bnd_sum|(apply bnd_bind;intro _)|intro _
def Z14 (x0 : List D) (x1 : Int) : Option (Int) := c_Z14 x0 x1 some
def e_Z14 : Ent := ⟨72, [.rd (.struct [.int .i64, .int .i64, .int .i64, .int .i64]), .fn 118 [.rp (.int .i64)]], .int .i64, [.undef, .undef], fun _ ds k => dL (fun x0 ds => dI (fun x1 ds => dE ((Z14 x0 x1).bind (fun y => k [.I y])) ds) ds) ds⟩
theorem q_Z14 (x0 : List D) (x1 : Int) : runFn (ocOf []) (olOf [e_Z13]) A 72 Try.f72 (Sh.mks e_Z14.sh [.L x0, .I x1]).1 (fun v os => some (v, os)) = c_Z14 x0 x1 (fun y => some ((e_Z14.res.mk [.I y]).1, (Sh.mks e_Z14.outs (e_Z14.res.mk [.I y]).2).1)) := by kernel_rfl
theorem e_Z14_ok : e_Z14.ok Try.prog A := by
 intro R ds k r h
 unfold e_Z14 at h
 obtain ⟨x0, d0, rfl, h0⟩ := dL_some h
 obtain ⟨x1, d1, rfl, h1⟩ := dI_some h0
 obtain ⟨rfl, hE⟩ := dE_some h1
 obtain ⟨y, hy, hk⟩ := bnd_some hE
 refine ⟨_, hk, fn_ok px (fx := ⟨Try.func72, by kernel_rfl, by kernel_rfl⟩) entsOK_nil (lentsOK_cons e_Z13_ok lentsOK_nil) ?_⟩
 have hq := q_Z14 x0 x1
 rw [c_Z14_bind] at hq
 rw [show c_Z14 x0 x1 some = some y from hy] at hq
 exact hq

/-!-/
def c_Z15 {R : Type} (x0 : List D) (x1 : Int) (k : Bool → Option R) : Option R :=
 (Z14 x0 x1).bind (fun y0 =>
 k (decide ((0 : Int) ≤ y0)))
theorem c_Z15_bind {R : Type} (x0 : List D) (x1 : Int) (k : Bool → Option R) : c_Z15 x0 x1 k = (c_Z15 x0 x1 some).bind k := by
 unfold c_Z15
 repeat' first|exact bnd_tail|exact bnd_none|exact bnd_leaf|apply bnd_ite|apply bnd_cond|apply bnd_sum|(apply bnd_bind;intro _)|intro _
def Z15 (x0 : List D) (x1 : Int) : Option (Bool) := c_Z15 x0 x1 some
def e_Z15 : Ent := ⟨117, [.rd (.struct [.int .i64, .int .i64, .int .i64, .int .i64]), .fn 118 [.rp (.int .i64)]], .bool, [.undef, .undef], fun _ ds k => dL (fun x0 ds => dI (fun x1 ds => dE ((Z15 x0 x1).bind (fun y => k [.B y])) ds) ds) ds⟩
theorem q_Z15 (x0 : List D) (x1 : Int) : runFn (ocOf [e_Z14]) (olOf []) A 117 Try.f117 (Sh.mks e_Z15.sh [.L x0, .I x1]).1 (fun v os => some (v, os)) = c_Z15 x0 x1 (fun y => some ((e_Z15.res.mk [.B y]).1, (Sh.mks e_Z15.outs (e_Z15.res.mk [.B y]).2).1)) := by kernel_rfl
theorem e_Z15_ok : e_Z15.ok Try.prog A := by
 intro R ds k r h
 unfold e_Z15 at h
 obtain ⟨x0, d0, rfl, h0⟩ := dL_some h
 obtain ⟨x1, d1, rfl, h1⟩ := dI_some h0
 obtain ⟨rfl, hE⟩ := dE_some h1
 obtain ⟨y, hy, hk⟩ := bnd_some hE
 refine ⟨_, hk, fn_ok px (fx := ⟨Try.func117, by kernel_rfl, by kernel_rfl⟩) (entsOK_cons e_Z14_ok entsOK_nil) lentsOK_nil ?_⟩
 have hq := q_Z15 x0 x1
 rw [c_Z15_bind] at hq
 rw [show c_Z15 x0 x1 some = some y from hy] at hq
 exact hq

/-!-/
def c_Z16 {R : Type} (x0 : List D) (x1 : Int) (k : Bool → Option R) : Option R :=
 (Z11 x1 (2 : Int) (8 : Int)).bind (fun y0 =>
 bif !y0 then
 k Bool.false
 else
 bif decide ((16 : Int) < (↑x0.length : Int)) then
 k Bool.false
 else
 (Z15 x0 x1).bind (fun y1 =>
 k !y1))
theorem c_Z16_bind {R : Type} (x0 : List D) (x1 : Int) (k : Bool → Option R) : c_Z16 x0 x1 k = (c_Z16 x0 x1 some).bind k := by
 unfold c_Z16
 repeat' first|exact bnd_tail|exact bnd_none|exact bnd_leaf|apply bnd_ite|apply bnd_cond|apply bnd_sum|(apply bnd_bind;intro _)|intro _
def Z16 (x0 : List D) (x1 : Int) : Option (Bool) := c_Z16 x0 x1 some
def e_Z16 : Ent := ⟨70, [.rd (.struct [.int .i64, .int .i64, .int .i64, .int .i64]), .int .i64], .bool, [.undef, .undef], fun _ ds k => dL (fun x0 ds => dI (fun x1 ds => dE ((Z16 x0 x1).bind (fun y => k [.B y])) ds) ds) ds⟩
theorem q_Z16 (x0 : List D) (x1 : Int) : runFn (ocOf [e_Z11, e_Z15]) (olOf []) A 70 Try.f70 (Sh.mks e_Z16.sh [.L x0, .I x1]).1 (fun v os => some (v, os)) = c_Z16 x0 x1 (fun y => some ((e_Z16.res.mk [.B y]).1, (Sh.mks e_Z16.outs (e_Z16.res.mk [.B y]).2).1)) := by kernel_rfl
theorem e_Z16_ok : e_Z16.ok Try.prog A := by
 intro R ds k r h
 unfold e_Z16 at h
 obtain ⟨x0, d0, rfl, h0⟩ := dL_some h
 obtain ⟨x1, d1, rfl, h1⟩ := dI_some h0
 obtain ⟨rfl, hE⟩ := dE_some h1
 obtain ⟨y, hy, hk⟩ := bnd_some hE
 refine ⟨_, hk, fn_ok px (fx := ⟨Try.func70, by kernel_rfl, by kernel_rfl⟩) (entsOK_cons e_Z11_ok (entsOK_cons e_Z15_ok entsOK_nil)) lentsOK_nil ?_⟩
 have hq := q_Z16 x0 x1
 rw [c_Z16_bind] at hq
 rw [show c_Z16 x0 x1 some = some y from hy] at hq
 exact hq

/-!-/
def c_Z17 {R : Type} (x0 : Int) (x1 : Int) (x2 : Int) (x3 : Int) (x4 : Int) (x5 : Int) (k : Bool → Option R) : Option R :=
 bif decide (x0 = x4) then
 bif decide (x1 = x5) then
 k Bool.true
 else
 bif decide (x0 = x5) then
 k (decide (x1 = x4))
 else
 k Bool.false
 else
 bif decide (x0 = x5) then
 k (decide (x1 = x4))
 else
 k Bool.false
theorem c_Z17_bind {R : Type} (x0 : Int) (x1 : Int) (x2 : Int) (x3 : Int) (x4 : Int) (x5 : Int) (k : Bool → Option R) : c_Z17 x0 x1 x2 x3 x4 x5 k = (c_Z17 x0 x1 x2 x3 x4 x5 some).bind k := by
 unfold c_Z17
 repeat' first|exact bnd_tail|exact bnd_none|exact bnd_leaf|apply bnd_ite|apply bnd_cond|apply bnd_sum|(apply bnd_bind;intro _)|intro _
def Z17 (x0 : Int) (x1 : Int) (x2 : Int) (x3 : Int) (x4 : Int) (x5 : Int) : Option (Bool) := c_Z17 x0 x1 x2 x3 x4 x5 some
def e_Z17 : Ent := ⟨73, [.agg [.int .i64, .int .i64, .int .i64, .int .i64], .rp (.int .i64), .rp (.int .i64)], .bool, [.undef, .undef, .undef], fun _ ds k => dI (fun x0 ds => dI (fun x1 ds => dI (fun x2 ds => dI (fun x3 ds => dI (fun x4 ds => dI (fun x5 ds => dE ((Z17 x0 x1 x2 x3 x4 x5).bind (fun y => k [.B y])) ds) ds) ds) ds) ds) ds) ds⟩
theorem q_Z17 (x0 : Int) (x1 : Int) (x2 : Int) (x3 : Int) (x4 : Int) (x5 : Int) : runFn (ocOf []) (olOf []) A 73 Try.f73 (Sh.mks e_Z17.sh [.I x0, .I x1, .I x2, .I x3, .I x4, .I x5]).1 (fun v os => some (v, os)) = c_Z17 x0 x1 x2 x3 x4 x5 (fun y => some ((e_Z17.res.mk [.B y]).1, (Sh.mks e_Z17.outs (e_Z17.res.mk [.B y]).2).1)) := by kernel_rfl
theorem e_Z17_ok : e_Z17.ok Try.prog A := by
 intro R ds k r h
 unfold e_Z17 at h
 obtain ⟨x0, d0, rfl, h0⟩ := dI_some h
 obtain ⟨x1, d1, rfl, h1⟩ := dI_some h0
 obtain ⟨x2, d2, rfl, h2⟩ := dI_some h1
 obtain ⟨x3, d3, rfl, h3⟩ := dI_some h2
 obtain ⟨x4, d4, rfl, h4⟩ := dI_some h3
 obtain ⟨x5, d5, rfl, h5⟩ := dI_some h4
 obtain ⟨rfl, hE⟩ := dE_some h5
 obtain ⟨y, hy, hk⟩ := bnd_some hE
 refine ⟨_, hk, fn_ok px (fx := ⟨Try.func73, by kernel_rfl, by kernel_rfl⟩) entsOK_nil lentsOK_nil ?_⟩
 have hq := q_Z17 x0 x1 x2 x3 x4 x5
 rw [c_Z17_bind] at hq
 rw [show c_Z17 x0 x1 x2 x3 x4 x5 some = some y from hy] at hq
 exact hq

/-!-/
def c_Z18 {R : Type} (F : List D → Int → Int → Int → Int → Option ((Int) ⊕ (Unit))) (x0 : List D) (x1 : Int) (x2 : Int) (x3 : Int) (x4 : Int) (k : (Int) ⊕ (Unit) → Option R) : Option R :=
 bif decide (x4 < x3) then
 if 0 ≤ x4 ∧ x4 < (↑x0.length : Int) then
 (Z17 (((x0.getD x4.toNat (D.int 0)).fld (0 : Nat)).toInt) (((x0.getD x4.toNat (D.int 0)).fld (1 : Nat)).toInt) (((x0.getD x4.toNat (D.int 0)).fld (2 : Nat)).toInt) (((x0.getD x4.toNat (D.int 0)).fld (3 : Nat)).toInt) x1 x2).bind (fun y0 =>
 bif y0 then
 k (.inl x4)
 else
 (F x0 x1 x2 x3 (IntKind.i64.wrap (x4 + 1))).bind k)
 else
 none
 else
 k (.inr ())
theorem c_Z18_bind {R : Type} (F : List D → Int → Int → Int → Int → Option ((Int) ⊕ (Unit))) (x0 : List D) (x1 : Int) (x2 : Int) (x3 : Int) (x4 : Int) (k : (Int) ⊕ (Unit) → Option R) : c_Z18 F x0 x1 x2 x3 x4 k = (c_Z18 F x0 x1 x2 x3 x4 some).bind k := by
 unfold c_Z18
 repeat' first|exact bnd_tail|exact bnd_none|exact bnd_leaf|apply bnd_ite|apply bnd_cond|apply bnd_sum|(apply bnd_bind;intro _)|intro _
def n_Z18 : Nat → List D → Int → Int → Int → Int → Option ((Int) ⊕ (Unit))
 | 0, _, _, _, _, _ => none
 | n + 1, x0, x1, x2, x3, x4 => c_Z18 (n_Z18 n) x0 x1 x2 x3 x4 some
noncomputable def Z18 (x0 : List D) (x1 : Int) (x2 : Int) (x3 : Int) (x4 : Int) : Option ((Int) ⊕ (Unit)) := ev (fun n => n_Z18 n x0 x1 x2 x3 x4)
def m_Z18 (F : List D → Int → Int → Int → Int → Option ((Int) ⊕ (Unit))) : Lent := ⟨2, ⟨(.rd (.struct [.int .i64, .int .i64, .int .i64, .int .i64]) :: .fn 73 [.rp (.int .i64), .rp (.int .i64)] :: uu 5 (.int .i64 :: .int .i64 :: uu 10 ([]))), []⟩, [(.ret, ⟨(uu 4 (.int .i64 :: uu 14 ([]))), []⟩), (.exit 0, ⟨(uu 19 ([])), []⟩)], fun _ ds k => dL (fun x0 ds => dI (fun x1 ds => dI (fun x2 ds => dI (fun x3 ds => dI (fun x4 ds => dE ((F x0 x1 x2 x3 x4).bind (Sum.elim (fun y => k 0 [.I y]) (fun y => k 1 []))) ds) ds) ds) ds) ds) ds⟩
theorem q_Z18 (F : List D → Int → Int → Int → Int → Option ((Int) ⊕ (Unit))) (x0 : List D) (x1 : Int) (x2 : Int) (x3 : Int) (x4 : Int) : runLoop (ocOf [e_Z17]) (olOf [m_Z18 F]) A 72 (codeAt (bodyOf Try.f72) 2) ((m_Z18 F).sh.mk' [.L x0, .I x1, .I x2, .I x3, .I x4]) (fun e σ' => some (e, σ')) = c_Z18 F x0 x1 x2 x3 x4 (Sum.elim (fun y => some (.ret, SSt.mk' ⟨(uu 4 (.int .i64 :: uu 14 ([]))), []⟩ [.I y])) (fun y => some (.exit 0, SSt.mk' ⟨(uu 19 ([])), []⟩ []))) := by kernel_rfl
theorem m_Z18_ok : ∀ n, (m_Z18 (n_Z18 n)).ok Try.prog (codeAt (bodyOf Try.f72) 2) := by
 intro n
 induction n with
 | zero =>
  intro R ds k r h
  unfold m_Z18 at h
  obtain ⟨x0, d0, rfl, h0⟩ := dL_some h
  obtain ⟨x1, d1, rfl, h1⟩ := dI_some h0
  obtain ⟨x2, d2, rfl, h2⟩ := dI_some h1
  obtain ⟨x3, d3, rfl, h3⟩ := dI_some h2
  obtain ⟨x4, d4, rfl, h4⟩ := dI_some h3
  obtain ⟨rfl, hE⟩ := dE_some h4
  obtain ⟨y, hy, hk⟩ := bnd_some hE
  cases hy
 | succ n ih =>
  intro R ds k r h
  unfold m_Z18 at h
  obtain ⟨x0, d0, rfl, h0⟩ := dL_some h
  obtain ⟨x1, d1, rfl, h1⟩ := dI_some h0
  obtain ⟨x2, d2, rfl, h2⟩ := dI_some h1
  obtain ⟨x3, d3, rfl, h3⟩ := dI_some h2
  obtain ⟨x4, d4, rfl, h4⟩ := dI_some h3
  obtain ⟨rfl, hE⟩ := dE_some h4
  obtain ⟨y, hy, hk⟩ := bnd_some hE
  have hq := q_Z18 (n_Z18 n) x0 x1 x2 x3 x4
  rw [c_Z18_bind] at hq
  rw [show c_Z18 (n_Z18 n) x0 x1 x2 x3 x4 some = some y from hy] at hq
  cases y with
  | inl y =>
   refine ⟨0, _, _, _, hk, rfl, loop_ok px (fx := ⟨Try.func72, by kernel_rfl, by kernel_rfl⟩) (entsOK_cons e_Z17_ok entsOK_nil) (lentsOK_cons ih lentsOK_nil) (by kernel_rfl) ?_⟩
   exact hq
  | inr y =>
   refine ⟨1, _, _, _, hk, rfl, loop_ok px (fx := ⟨Try.func72, by kernel_rfl, by kernel_rfl⟩) (entsOK_cons e_Z17_ok entsOK_nil) (lentsOK_cons ih lentsOK_nil) (by kernel_rfl) ?_⟩
   exact hq
noncomputable def e_Z18 : Lent := m_Z18 (Z18)
theorem e_Z18_ok : (e_Z18).ok Try.prog (codeAt (bodyOf Try.f72) 2) := by
 intro R ds k r h
 unfold e_Z18 m_Z18 at h
 obtain ⟨x0, d0, rfl, h0⟩ := dL_some h
 obtain ⟨x1, d1, rfl, h1⟩ := dI_some h0
 obtain ⟨x2, d2, rfl, h2⟩ := dI_some h1
 obtain ⟨x3, d3, rfl, h3⟩ := dI_some h2
 obtain ⟨x4, d4, rfl, h4⟩ := dI_some h3
 obtain ⟨rfl, hE⟩ := dE_some h4
 obtain ⟨y, hy, hk⟩ := bnd_some hE
 obtain ⟨n, hn⟩ := ev_some hy
 exact m_Z18_ok n R _ k r (show (n_Z18 n x0 x1 x2 x3 x4).bind _ = _ by rw [hn]; exact hk)

/-!-/
def c_Z19 {R : Type} (x0 : List D) (x1 : Int) (x2 : Int) (k : Int → Option R) : Option R :=
 (Z18 x0 x1 x2 (↑x0.length : Int) (0 : Int)).bind (Sum.elim (fun y0 =>
 k y0) (fun y1 =>
 k (-1 : Int)))
theorem c_Z19_bind {R : Type} (x0 : List D) (x1 : Int) (x2 : Int) (k : Int → Option R) : c_Z19 x0 x1 x2 k = (c_Z19 x0 x1 x2 some).bind k := by
 unfold c_Z19
 repeat' first|exact bnd_tail|exact bnd_none|exact bnd_leaf|apply bnd_ite|apply bnd_cond|apply bnd_sum|(apply bnd_bind;intro _)|intro _
def Z19 (x0 : List D) (x1 : Int) (x2 : Int) : Option (Int) := c_Z19 x0 x1 x2 some
def e_Z19 : Ent := ⟨72, [.rd (.struct [.int .i64, .int .i64, .int .i64, .int .i64]), .fn 73 [.rp (.int .i64), .rp (.int .i64)]], .int .i64, [.undef, .undef], fun _ ds k => dL (fun x0 ds => dI (fun x1 ds => dI (fun x2 ds => dE ((Z19 x0 x1 x2).bind (fun y => k [.I y])) ds) ds) ds) ds⟩
theorem q_Z19 (x0 : List D) (x1 : Int) (x2 : Int) : runFn (ocOf []) (olOf [e_Z18]) A 72 Try.f72 (Sh.mks e_Z19.sh [.L x0, .I x1, .I x2]).1 (fun v os => some (v, os)) = c_Z19 x0 x1 x2 (fun y => some ((e_Z19.res.mk [.I y]).1, (Sh.mks e_Z19.outs (e_Z19.res.mk [.I y]).2).1)) := by kernel_rfl
theorem e_Z19_ok : e_Z19.ok Try.prog A := by
 intro R ds k r h
 unfold e_Z19 at h
 obtain ⟨x0, d0, rfl, h0⟩ := dL_some h
 obtain ⟨x1, d1, rfl, h1⟩ := dI_some h0
 obtain ⟨x2, d2, rfl, h2⟩ := dI_some h1
 obtain ⟨rfl, hE⟩ := dE_some h2
 obtain ⟨y, hy, hk⟩ := bnd_some hE
 refine ⟨_, hk, fn_ok px (fx := ⟨Try.func72, by kernel_rfl, by kernel_rfl⟩) entsOK_nil (lentsOK_cons e_Z18_ok lentsOK_nil) ?_⟩
 have hq := q_Z19 x0 x1 x2
 rw [c_Z19_bind] at hq
 rw [show c_Z19 x0 x1 x2 some = some y from hy] at hq
 exact hq

/-!-/
def c_Z20 {R : Type} (F : List D → List D → Int → List D → Int → Int → Option ((Int × Bool × Int) ⊕ (Int))) (x0 : List D) (x1 : List D) (x2 : Int) (x3 : List D) (x4 : Int) (x5 : Int) (k : (Int × Bool × Int) ⊕ (Int) → Option R) : Option R :=
 bif decide (x5 < x4) then
 if 0 ≤ x5 ∧ x5 < (↑x3.length : Int) then
 if (↑x1.length : Int) ≠ (0 : Int) then
 if (0 : Int) ≤ (IntKind.i64.wrap (x5 + 1)).tmod (↑x1.length : Int) ∧ (IntKind.i64.wrap (x5 + 1)).tmod (↑x1.length : Int) < (↑x1.length : Int) then
 (Z19 x0 ((x3.getD x5.toNat (D.int 0)).toInt) ((x1.getD ((IntKind.i64.wrap (x5 + 1)).tmod (↑x1.length : Int)).toNat (D.int 0)).toInt)).bind (fun y0 =>
 bif decide (y0 < (0 : Int)) then
 k (.inl ((0 : Int), Bool.false, x2))
 else
 if 0 ≤ y0 ∧ y0 < (↑x0.length : Int) then
 bif decide (((x0.getD y0.toNat (D.int 0)).fld (0 : Nat)).toInt = (x3.getD x5.toNat (D.int 0)).toInt) then
 if 0 ≤ y0 ∧ y0 < (↑x0.length : Int) then
 (F x0 x1 (IntKind.i64.wrap (x2 + ((x0.getD y0.toNat (D.int 0)).fld (2 : Nat)).toInt)) x3 x4 (IntKind.i64.wrap (x5 + 1))).bind k
 else
 none
 else
 if 0 ≤ y0 ∧ y0 < (↑x0.length : Int) then
 (F x0 x1 (IntKind.i64.wrap (x2 - ((x0.getD y0.toNat (D.int 0)).fld (2 : Nat)).toInt)) x3 x4 (IntKind.i64.wrap (x5 + 1))).bind k
 else
 none
 else
 none)
 else
 none
 else
 none
 else
 none
 else
 k (.inr x2)
theorem c_Z20_bind {R : Type} (F : List D → List D → Int → List D → Int → Int → Option ((Int × Bool × Int) ⊕ (Int))) (x0 : List D) (x1 : List D) (x2 : Int) (x3 : List D) (x4 : Int) (x5 : Int) (k : (Int × Bool × Int) ⊕ (Int) → Option R) : c_Z20 F x0 x1 x2 x3 x4 x5 k = (c_Z20 F x0 x1 x2 x3 x4 x5 some).bind k := by
 unfold c_Z20
 repeat' first|exact bnd_tail|exact bnd_none|exact bnd_leaf|apply bnd_ite|apply bnd_cond|apply bnd_sum|(apply bnd_bind;intro _)|intro _
def n_Z20 : Nat → List D → List D → Int → List D → Int → Int → Option ((Int × Bool × Int) ⊕ (Int))
 | 0, _, _, _, _, _, _ => none
 | n + 1, x0, x1, x2, x3, x4, x5 => c_Z20 (n_Z20 n) x0 x1 x2 x3 x4 x5 some
noncomputable def Z20 (x0 : List D) (x1 : List D) (x2 : Int) (x3 : List D) (x4 : Int) (x5 : Int) : Option ((Int × Bool × Int) ⊕ (Int)) := ev (fun n => n_Z20 n x0 x1 x2 x3 x4 x5)
def m_Z20 (F : List D → List D → Int → List D → Int → Int → Option ((Int × Bool × Int) ⊕ (Int))) : Lent := ⟨5, ⟨(.rd (.struct [.int .i64, .int .i64, .int .i64, .int .i64]) :: .undef :: .rd (.int .i64) :: uu 5 (.int .i64 :: uu 14 (.rd (.int .i64) :: .int .i64 :: .int .i64 :: uu 40 ([])))), []⟩, [(.ret, ⟨(uu 6 (.int .i64 :: .bool :: .int .i64 :: uu 57 ([]))), []⟩), (.exit 0, ⟨(uu 8 (.int .i64 :: uu 57 ([]))), []⟩)], fun _ ds k => dL (fun x0 ds => dL (fun x1 ds => dI (fun x2 ds => dL (fun x3 ds => dI (fun x4 ds => dI (fun x5 ds => dE ((F x0 x1 x2 x3 x4 x5).bind (Sum.elim (fun y => k 0 [.I y.1, .B y.2.1, .I y.2.2]) (fun y => k 1 [.I y]))) ds) ds) ds) ds) ds) ds) ds⟩
theorem q_Z20 (F : List D → List D → Int → List D → Int → Int → Option ((Int × Bool × Int) ⊕ (Int))) (x0 : List D) (x1 : List D) (x2 : Int) (x3 : List D) (x4 : Int) (x5 : Int) : runLoop (ocOf [e_Z19]) (olOf [m_Z20 F]) A 19 (codeAt (bodyOf Try.f19) 5) ((m_Z20 F).sh.mk' [.L x0, .L x1, .I x2, .L x3, .I x4, .I x5]) (fun e σ' => some (e, σ')) = c_Z20 F x0 x1 x2 x3 x4 x5 (Sum.elim (fun y => some (.ret, SSt.mk' ⟨(uu 6 (.int .i64 :: .bool :: .int .i64 :: uu 57 ([]))), []⟩ [.I y.1, .B y.2.1, .I y.2.2])) (fun y => some (.exit 0, SSt.mk' ⟨(uu 8 (.int .i64 :: uu 57 ([]))), []⟩ [.I y]))) := by kernel_rfl
theorem m_Z20_ok : ∀ n, (m_Z20 (n_Z20 n)).ok Try.prog (codeAt (bodyOf Try.f19) 5) := by
 intro n
 induction n with
 | zero =>
  intro R ds k r h
  unfold m_Z20 at h
  obtain ⟨x0, d0, rfl, h0⟩ := dL_some h
  obtain ⟨x1, d1, rfl, h1⟩ := dL_some h0
  obtain ⟨x2, d2, rfl, h2⟩ := dI_some h1
  obtain ⟨x3, d3, rfl, h3⟩ := dL_some h2
  obtain ⟨x4, d4, rfl, h4⟩ := dI_some h3
  obtain ⟨x5, d5, rfl, h5⟩ := dI_some h4
  obtain ⟨rfl, hE⟩ := dE_some h5
  obtain ⟨y, hy, hk⟩ := bnd_some hE
  cases hy
 | succ n ih =>
  intro R ds k r h
  unfold m_Z20 at h
  obtain ⟨x0, d0, rfl, h0⟩ := dL_some h
  obtain ⟨x1, d1, rfl, h1⟩ := dL_some h0
  obtain ⟨x2, d2, rfl, h2⟩ := dI_some h1
  obtain ⟨x3, d3, rfl, h3⟩ := dL_some h2
  obtain ⟨x4, d4, rfl, h4⟩ := dI_some h3
  obtain ⟨x5, d5, rfl, h5⟩ := dI_some h4
  obtain ⟨rfl, hE⟩ := dE_some h5
  obtain ⟨y, hy, hk⟩ := bnd_some hE
  have hq := q_Z20 (n_Z20 n) x0 x1 x2 x3 x4 x5
  rw [c_Z20_bind] at hq
  rw [show c_Z20 (n_Z20 n) x0 x1 x2 x3 x4 x5 some = some y from hy] at hq
  cases y with
  | inl y =>
   refine ⟨0, _, _, _, hk, rfl, loop_ok px (fx := ⟨Try.func19, by kernel_rfl, by kernel_rfl⟩) (entsOK_cons e_Z19_ok entsOK_nil) (lentsOK_cons ih lentsOK_nil) (by kernel_rfl) ?_⟩
   exact hq
  | inr y =>
   refine ⟨1, _, _, _, hk, rfl, loop_ok px (fx := ⟨Try.func19, by kernel_rfl, by kernel_rfl⟩) (entsOK_cons e_Z19_ok entsOK_nil) (lentsOK_cons ih lentsOK_nil) (by kernel_rfl) ?_⟩
   exact hq
noncomputable def e_Z20 : Lent := m_Z20 (Z20)
theorem e_Z20_ok : (e_Z20).ok Try.prog (codeAt (bodyOf Try.f19) 5) := by
 intro R ds k r h
 unfold e_Z20 m_Z20 at h
 obtain ⟨x0, d0, rfl, h0⟩ := dL_some h
 obtain ⟨x1, d1, rfl, h1⟩ := dL_some h0
 obtain ⟨x2, d2, rfl, h2⟩ := dI_some h1
 obtain ⟨x3, d3, rfl, h3⟩ := dL_some h2
 obtain ⟨x4, d4, rfl, h4⟩ := dI_some h3
 obtain ⟨x5, d5, rfl, h5⟩ := dI_some h4
 obtain ⟨rfl, hE⟩ := dE_some h5
 obtain ⟨y, hy, hk⟩ := bnd_some hE
 obtain ⟨n, hn⟩ := ev_some hy
 exact m_Z20_ok n R _ k r (show (n_Z20 n x0 x1 x2 x3 x4 x5).bind _ = _ by rw [hn]; exact hk)

/-!-/
def c_Z21 {R : Type} (x0 : List D) (x1 : Int) (x2 : List D) (k : Int × Bool → Option R) : Option R :=
 (Z16 x0 x1).bind (fun y0 =>
 bif !y0 then
 k ((0 : Int), Bool.false)
 else
 (Z11 (↑x2.length : Int) (1 : Int) (16 : Int)).bind (fun y1 =>
 bif !y1 then
 k ((0 : Int), Bool.false)
 else
 (Z20 x0 x2 (0 : Int) x2 (↑x2.length : Int) (0 : Int)).bind (Sum.elim (fun y2 =>
 k (y2.fst, y2.snd.fst)) (fun y3 =>
 k (y3, Bool.true)))))
theorem c_Z21_bind {R : Type} (x0 : List D) (x1 : Int) (x2 : List D) (k : Int × Bool → Option R) : c_Z21 x0 x1 x2 k = (c_Z21 x0 x1 x2 some).bind k := by
 unfold c_Z21
 repeat' first|exact bnd_tail|exact bnd_none|exact bnd_leaf|apply bnd_ite|apply bnd_cond|apply bnd_sum|(apply bnd_bind;intro _)|intro _
def Z21 (x0 : List D) (x1 : Int) (x2 : List D) : Option (Int × Bool) := c_Z21 x0 x1 x2 some
def e_Z21 : Ent := ⟨19, [.rd (.struct [.int .i64, .int .i64, .int .i64, .int .i64]), .int .i64, .rd (.int .i64)], .tup [.int .i64, .bool], [.undef, .undef, .undef], fun _ ds k => dL (fun x0 ds => dI (fun x1 ds => dL (fun x2 ds => dE ((Z21 x0 x1 x2).bind (fun y => k [.I y.1, .B y.2])) ds) ds) ds) ds⟩
theorem q_Z21 (x0 : List D) (x1 : Int) (x2 : List D) : runFn (ocOf [e_Z16, e_Z11]) (olOf [e_Z20]) A 19 Try.f19 (Sh.mks e_Z21.sh [.L x0, .I x1, .L x2]).1 (fun v os => some (v, os)) = c_Z21 x0 x1 x2 (fun y => some ((e_Z21.res.mk [.I y.1, .B y.2]).1, (Sh.mks e_Z21.outs (e_Z21.res.mk [.I y.1, .B y.2]).2).1)) := by kernel_rfl
theorem e_Z21_ok : e_Z21.ok Try.prog A := by
 intro R ds k r h
 unfold e_Z21 at h
 obtain ⟨x0, d0, rfl, h0⟩ := dL_some h
 obtain ⟨x1, d1, rfl, h1⟩ := dI_some h0
 obtain ⟨x2, d2, rfl, h2⟩ := dL_some h1
 obtain ⟨rfl, hE⟩ := dE_some h2
 obtain ⟨y, hy, hk⟩ := bnd_some hE
 refine ⟨_, hk, fn_ok px (fx := ⟨Try.func19, by kernel_rfl, by kernel_rfl⟩) (entsOK_cons e_Z16_ok (entsOK_cons e_Z11_ok entsOK_nil)) (lentsOK_cons e_Z20_ok lentsOK_nil) ?_⟩
 have hq := q_Z21 x0 x1 x2
 rw [c_Z21_bind] at hq
 rw [show c_Z21 x0 x1 x2 some = some y from hy] at hq
 exact hq

/-!-/
def c_Z22 {R : Type} (x0 : Int) (x1 : Int) (x2 : Int) (k : Bool → Option R) : Option R :=
 bif decide (x1 ≤ x0) then
 k (decide (x0 ≤ x2))
 else
 k Bool.false
theorem c_Z22_bind {R : Type} (x0 : Int) (x1 : Int) (x2 : Int) (k : Bool → Option R) : c_Z22 x0 x1 x2 k = (c_Z22 x0 x1 x2 some).bind k := by
 unfold c_Z22
 repeat' first|exact bnd_tail|exact bnd_none|exact bnd_leaf|apply bnd_ite|apply bnd_cond|apply bnd_sum|(apply bnd_bind;intro _)|intro _
def Z22 (x0 : Int) (x1 : Int) (x2 : Int) : Option (Bool) := c_Z22 x0 x1 x2 some
def e_Z22 : Ent := ⟨67, [.int .i64, .int .i64, .int .i64], .bool, [.undef, .undef, .undef], fun _ ds k => dI (fun x0 ds => dI (fun x1 ds => dI (fun x2 ds => dE ((Z22 x0 x1 x2).bind (fun y => k [.B y])) ds) ds) ds) ds⟩
theorem q_Z22 (x0 : Int) (x1 : Int) (x2 : Int) : runFn (ocOf []) (olOf []) A 67 Try.f67 (Sh.mks e_Z22.sh [.I x0, .I x1, .I x2]).1 (fun v os => some (v, os)) = c_Z22 x0 x1 x2 (fun y => some ((e_Z22.res.mk [.B y]).1, (Sh.mks e_Z22.outs (e_Z22.res.mk [.B y]).2).1)) := by kernel_rfl
theorem e_Z22_ok : e_Z22.ok Try.prog A := by
 intro R ds k r h
 unfold e_Z22 at h
 obtain ⟨x0, d0, rfl, h0⟩ := dI_some h
 obtain ⟨x1, d1, rfl, h1⟩ := dI_some h0
 obtain ⟨x2, d2, rfl, h2⟩ := dI_some h1
 obtain ⟨rfl, hE⟩ := dE_some h2
 obtain ⟨y, hy, hk⟩ := bnd_some hE
 refine ⟨_, hk, fn_ok px (fx := ⟨Try.func67, by kernel_rfl, by kernel_rfl⟩) entsOK_nil lentsOK_nil ?_⟩
 have hq := q_Z22 x0 x1 x2
 rw [c_Z22_bind] at hq
 rw [show c_Z22 x0 x1 x2 some = some y from hy] at hq
 exact hq

/-!-/
def c_Z23 {R : Type} (F : List D → Int → Int → Option ((Bool) ⊕ (Unit))) (x0 : List D) (x1 : Int) (x2 : Int) (k : (Bool) ⊕ (Unit) → Option R) : Option R :=
 bif decide (x2 < (↑x0.length : Int)) then
 if 0 ≤ x2 ∧ x2 < (↑x0.length : Int) then
 (Z22 (((x0.getD x2.toNat (D.int 0)).fld (0 : Nat)).toInt) (0 : Int) (IntKind.i64.wrap (x1 - 1))).bind (fun y0 =>
 bif !y0 then
 k (.inl Bool.false)
 else
 (Z22 (((x0.getD x2.toNat (D.int 0)).fld (1 : Nat)).toInt) (0 : Int) (IntKind.i64.wrap (x1 - 1))).bind (fun y1 =>
 bif !y1 then
 k (.inl Bool.false)
 else
 bif decide (((x0.getD x2.toNat (D.int 0)).fld (0 : Nat)).toInt = ((x0.getD x2.toNat (D.int 0)).fld (1 : Nat)).toInt) then
 k (.inl Bool.false)
 else
 (Z22 (((x0.getD x2.toNat (D.int 0)).fld (2 : Nat)).toInt) (-100000 : Int) (100000 : Int)).bind (fun y2 =>
 bif !y2 then
 k (.inl Bool.false)
 else
 (Z22 (((x0.getD x2.toNat (D.int 0)).fld (3 : Nat)).toInt) (1 : Int) (1000 : Int)).bind (fun y3 =>
 bif !y3 then
 k (.inl Bool.false)
 else
 (F x0 x1 (IntKind.i64.wrap (x2 + 1))).bind k))))
 else
 none
 else
 k (.inr ())
theorem c_Z23_bind {R : Type} (F : List D → Int → Int → Option ((Bool) ⊕ (Unit))) (x0 : List D) (x1 : Int) (x2 : Int) (k : (Bool) ⊕ (Unit) → Option R) : c_Z23 F x0 x1 x2 k = (c_Z23 F x0 x1 x2 some).bind k := by
 unfold c_Z23
 repeat' first|exact bnd_tail|exact bnd_none|exact bnd_leaf|apply bnd_ite|apply bnd_cond|apply bnd_sum|(apply bnd_bind;intro _)|intro _
def n_Z23 : Nat → List D → Int → Int → Option ((Bool) ⊕ (Unit))
 | 0, _, _, _ => none
 | n + 1, x0, x1, x2 => c_Z23 (n_Z23 n) x0 x1 x2 some
noncomputable def Z23 (x0 : List D) (x1 : Int) (x2 : Int) : Option ((Bool) ⊕ (Unit)) := ev (fun n => n_Z23 n x0 x1 x2)
def m_Z23 (F : List D → Int → Int → Option ((Bool) ⊕ (Unit))) : Lent := ⟨4, ⟨(.rd (.struct [.int .i64, .int .i64, .int .i64, .int .i64]) :: .int .i64 :: .undef :: .undef :: .undef :: .int .i64 :: uu 52 ([])), []⟩, [(.ret, ⟨(uu 4 (.bool :: uu 53 ([]))), []⟩), (.exit 0, ⟨(uu 58 ([])), []⟩)], fun _ ds k => dL (fun x0 ds => dI (fun x1 ds => dI (fun x2 ds => dE ((F x0 x1 x2).bind (Sum.elim (fun y => k 0 [.B y]) (fun y => k 1 []))) ds) ds) ds) ds⟩
theorem q_Z23 (F : List D → Int → Int → Option ((Bool) ⊕ (Unit))) (x0 : List D) (x1 : Int) (x2 : Int) : runLoop (ocOf [e_Z22]) (olOf [m_Z23 F]) A 66 (codeAt (bodyOf Try.f66) 4) ((m_Z23 F).sh.mk' [.L x0, .I x1, .I x2]) (fun e σ' => some (e, σ')) = c_Z23 F x0 x1 x2 (Sum.elim (fun y => some (.ret, SSt.mk' ⟨(uu 4 (.bool :: uu 53 ([]))), []⟩ [.B y])) (fun y => some (.exit 0, SSt.mk' ⟨(uu 58 ([])), []⟩ []))) := by kernel_rfl
theorem m_Z23_ok : ∀ n, (m_Z23 (n_Z23 n)).ok Try.prog (codeAt (bodyOf Try.f66) 4) := by
 intro n
 induction n with
 | zero =>
  intro R ds k r h
  unfold m_Z23 at h
  obtain ⟨x0, d0, rfl, h0⟩ := dL_some h
  obtain ⟨x1, d1, rfl, h1⟩ := dI_some h0
  obtain ⟨x2, d2, rfl, h2⟩ := dI_some h1
  obtain ⟨rfl, hE⟩ := dE_some h2
  obtain ⟨y, hy, hk⟩ := bnd_some hE
  cases hy
 | succ n ih =>
  intro R ds k r h
  unfold m_Z23 at h
  obtain ⟨x0, d0, rfl, h0⟩ := dL_some h
  obtain ⟨x1, d1, rfl, h1⟩ := dI_some h0
  obtain ⟨x2, d2, rfl, h2⟩ := dI_some h1
  obtain ⟨rfl, hE⟩ := dE_some h2
  obtain ⟨y, hy, hk⟩ := bnd_some hE
  have hq := q_Z23 (n_Z23 n) x0 x1 x2
  rw [c_Z23_bind] at hq
  rw [show c_Z23 (n_Z23 n) x0 x1 x2 some = some y from hy] at hq
  cases y with
  | inl y =>
   refine ⟨0, _, _, _, hk, rfl, loop_ok px (fx := ⟨Try.func66, by kernel_rfl, by kernel_rfl⟩) (entsOK_cons e_Z22_ok entsOK_nil) (lentsOK_cons ih lentsOK_nil) (by kernel_rfl) ?_⟩
   exact hq
  | inr y =>
   refine ⟨1, _, _, _, hk, rfl, loop_ok px (fx := ⟨Try.func66, by kernel_rfl, by kernel_rfl⟩) (entsOK_cons e_Z22_ok entsOK_nil) (lentsOK_cons ih lentsOK_nil) (by kernel_rfl) ?_⟩
   exact hq
noncomputable def e_Z23 : Lent := m_Z23 (Z23)
theorem e_Z23_ok : (e_Z23).ok Try.prog (codeAt (bodyOf Try.f66) 4) := by
 intro R ds k r h
 unfold e_Z23 m_Z23 at h
 obtain ⟨x0, d0, rfl, h0⟩ := dL_some h
 obtain ⟨x1, d1, rfl, h1⟩ := dI_some h0
 obtain ⟨x2, d2, rfl, h2⟩ := dI_some h1
 obtain ⟨rfl, hE⟩ := dE_some h2
 obtain ⟨y, hy, hk⟩ := bnd_some hE
 obtain ⟨n, hn⟩ := ev_some hy
 exact m_Z23_ok n R _ k r (show (n_Z23 n x0 x1 x2).bind _ = _ by rw [hn]; exact hk)

/-!-/
def c_Z24 {R : Type} (x0 : List D) (x1 : Int) (k : Bool → Option R) : Option R :=
 (Z22 x1 (2 : Int) (8 : Int)).bind (fun y0 =>
 bif !y0 then
 k Bool.false
 else
 bif decide ((16 : Int) < (↑x0.length : Int)) then
 k Bool.false
 else
 (Z23 x0 x1 (0 : Int)).bind (Sum.elim (fun y1 =>
 k y1) (fun y2 =>
 k Bool.true)))
theorem c_Z24_bind {R : Type} (x0 : List D) (x1 : Int) (k : Bool → Option R) : c_Z24 x0 x1 k = (c_Z24 x0 x1 some).bind k := by
 unfold c_Z24
 repeat' first|exact bnd_tail|exact bnd_none|exact bnd_leaf|apply bnd_ite|apply bnd_cond|apply bnd_sum|(apply bnd_bind;intro _)|intro _
def Z24 (x0 : List D) (x1 : Int) : Option (Bool) := c_Z24 x0 x1 some
def e_Z24 : Ent := ⟨66, [.rd (.struct [.int .i64, .int .i64, .int .i64, .int .i64]), .int .i64], .bool, [.undef, .undef], fun _ ds k => dL (fun x0 ds => dI (fun x1 ds => dE ((Z24 x0 x1).bind (fun y => k [.B y])) ds) ds) ds⟩
theorem q_Z24 (x0 : List D) (x1 : Int) : runFn (ocOf [e_Z22]) (olOf [e_Z23]) A 66 Try.f66 (Sh.mks e_Z24.sh [.L x0, .I x1]).1 (fun v os => some (v, os)) = c_Z24 x0 x1 (fun y => some ((e_Z24.res.mk [.B y]).1, (Sh.mks e_Z24.outs (e_Z24.res.mk [.B y]).2).1)) := by kernel_rfl
theorem e_Z24_ok : e_Z24.ok Try.prog A := by
 intro R ds k r h
 unfold e_Z24 at h
 obtain ⟨x0, d0, rfl, h0⟩ := dL_some h
 obtain ⟨x1, d1, rfl, h1⟩ := dI_some h0
 obtain ⟨rfl, hE⟩ := dE_some h1
 obtain ⟨y, hy, hk⟩ := bnd_some hE
 refine ⟨_, hk, fn_ok px (fx := ⟨Try.func66, by kernel_rfl, by kernel_rfl⟩) (entsOK_cons e_Z22_ok entsOK_nil) (lentsOK_cons e_Z23_ok lentsOK_nil) ?_⟩
 have hq := q_Z24 x0 x1
 rw [c_Z24_bind] at hq
 rw [show c_Z24 x0 x1 some = some y from hy] at hq
 exact hq

/-!-/
def c_Z25 {R : Type} (F : List D → Int → Int → Int → Option ((Int × Bool) ⊕ (Unit))) (x0 : List D) (x1 : Int) (x2 : Int) (x3 : Int) (k : (Int × Bool) ⊕ (Unit) → Option R) : Option R :=
 bif decide (x3 < (↑x0.length : Int)) then
 if 0 ≤ x3 ∧ x3 < (↑x0.length : Int) then
 bif decide (((x0.getD x3.toNat (D.int 0)).fld (0 : Nat)).toInt = x1) then
 if 0 ≤ x3 ∧ x3 < (↑x0.length : Int) then
 bif decide (((x0.getD x3.toNat (D.int 0)).fld (1 : Nat)).toInt = x2) then
 if 0 ≤ x3 ∧ x3 < (↑x0.length : Int) then
 k (.inl (((x0.getD x3.toNat (D.int 0)).fld (2 : Nat)).toInt, Bool.true))
 else
 none
 else
 if 0 ≤ x3 ∧ x3 < (↑x0.length : Int) then
 bif decide (((x0.getD x3.toNat (D.int 0)).fld (0 : Nat)).toInt = x2) then
 if 0 ≤ x3 ∧ x3 < (↑x0.length : Int) then
 bif decide (((x0.getD x3.toNat (D.int 0)).fld (1 : Nat)).toInt = x1) then
 if 0 ≤ x3 ∧ x3 < (↑x0.length : Int) then
 k (.inl (IntKind.i64.wrap ((0 : Int) - ((x0.getD x3.toNat (D.int 0)).fld (2 : Nat)).toInt), Bool.true))
 else
 none
 else
 (F x0 x1 x2 (IntKind.i64.wrap (x3 + 1))).bind k
 else
 none
 else
 (F x0 x1 x2 (IntKind.i64.wrap (x3 + 1))).bind k
 else
 none
 else
 none
 else
 if 0 ≤ x3 ∧ x3 < (↑x0.length : Int) then
 bif decide (((x0.getD x3.toNat (D.int 0)).fld (0 : Nat)).toInt = x2) then
 if 0 ≤ x3 ∧ x3 < (↑x0.length : Int) then
 bif decide (((x0.getD x3.toNat (D.int 0)).fld (1 : Nat)).toInt = x1) then
 if 0 ≤ x3 ∧ x3 < (↑x0.length : Int) then
 k (.inl (IntKind.i64.wrap ((0 : Int) - ((x0.getD x3.toNat (D.int 0)).fld (2 : Nat)).toInt), Bool.true))
 else
 none
 else
 (F x0 x1 x2 (IntKind.i64.wrap (x3 + 1))).bind k
 else
 none
 else
 (F x0 x1 x2 (IntKind.i64.wrap (x3 + 1))).bind k
 else
 none
 else
 none
 else
 k (.inr ())
theorem c_Z25_bind {R : Type} (F : List D → Int → Int → Int → Option ((Int × Bool) ⊕ (Unit))) (x0 : List D) (x1 : Int) (x2 : Int) (x3 : Int) (k : (Int × Bool) ⊕ (Unit) → Option R) : c_Z25 F x0 x1 x2 x3 k = (c_Z25 F x0 x1 x2 x3 some).bind k := by
 unfold c_Z25
 repeat' first|exact bnd_tail|exact bnd_none|exact bnd_leaf|apply bnd_ite|apply bnd_cond|apply bnd_sum|(apply bnd_bind;intro _)|intro _
def n_Z25 : Nat → List D → Int → Int → Int → Option ((Int × Bool) ⊕ (Unit))
 | 0, _, _, _, _ => none
 | n + 1, x0, x1, x2, x3 => c_Z25 (n_Z25 n) x0 x1 x2 x3 some
noncomputable def Z25 (x0 : List D) (x1 : Int) (x2 : Int) (x3 : Int) : Option ((Int × Bool) ⊕ (Unit)) := ev (fun n => n_Z25 n x0 x1 x2 x3)
def m_Z25 (F : List D → Int → Int → Int → Option ((Int × Bool) ⊕ (Unit))) : Lent := ⟨2, ⟨(.rd (.struct [.int .i64, .int .i64, .int .i64, .int .i64]) :: .int .i64 :: .int .i64 :: uu 5 (.int .i64 :: uu 49 ([]))), []⟩, [(.ret, ⟨(uu 6 (.int .i64 :: .bool :: uu 50 ([]))), []⟩), (.exit 0, ⟨(uu 58 ([])), []⟩)], fun _ ds k => dL (fun x0 ds => dI (fun x1 ds => dI (fun x2 ds => dI (fun x3 ds => dE ((F x0 x1 x2 x3).bind (Sum.elim (fun y => k 0 [.I y.1, .B y.2]) (fun y => k 1 []))) ds) ds) ds) ds) ds⟩
theorem q_Z25 (F : List D → Int → Int → Int → Option ((Int × Bool) ⊕ (Unit))) (x0 : List D) (x1 : Int) (x2 : Int) (x3 : Int) : runLoop (ocOf []) (olOf [m_Z25 F]) A 68 (codeAt (bodyOf Try.f68) 2) ((m_Z25 F).sh.mk' [.L x0, .I x1, .I x2, .I x3]) (fun e σ' => some (e, σ')) = c_Z25 F x0 x1 x2 x3 (Sum.elim (fun y => some (.ret, SSt.mk' ⟨(uu 6 (.int .i64 :: .bool :: uu 50 ([]))), []⟩ [.I y.1, .B y.2])) (fun y => some (.exit 0, SSt.mk' ⟨(uu 58 ([])), []⟩ []))) := by kernel_rfl
theorem m_Z25_ok : ∀ n, (m_Z25 (n_Z25 n)).ok Try.prog (codeAt (bodyOf Try.f68) 2) := by
 intro n
 induction n with
 | zero =>
  intro R ds k r h
  unfold m_Z25 at h
  obtain ⟨x0, d0, rfl, h0⟩ := dL_some h
  obtain ⟨x1, d1, rfl, h1⟩ := dI_some h0
  obtain ⟨x2, d2, rfl, h2⟩ := dI_some h1
  obtain ⟨x3, d3, rfl, h3⟩ := dI_some h2
  obtain ⟨rfl, hE⟩ := dE_some h3
  obtain ⟨y, hy, hk⟩ := bnd_some hE
  cases hy
 | succ n ih =>
  intro R ds k r h
  unfold m_Z25 at h
  obtain ⟨x0, d0, rfl, h0⟩ := dL_some h
  obtain ⟨x1, d1, rfl, h1⟩ := dI_some h0
  obtain ⟨x2, d2, rfl, h2⟩ := dI_some h1
  obtain ⟨x3, d3, rfl, h3⟩ := dI_some h2
  obtain ⟨rfl, hE⟩ := dE_some h3
  obtain ⟨y, hy, hk⟩ := bnd_some hE
  have hq := q_Z25 (n_Z25 n) x0 x1 x2 x3
  rw [c_Z25_bind] at hq
  rw [show c_Z25 (n_Z25 n) x0 x1 x2 x3 some = some y from hy] at hq
  cases y with
  | inl y =>
   refine ⟨0, _, _, _, hk, rfl, loop_ok px (fx := ⟨Try.func68, by kernel_rfl, by kernel_rfl⟩) entsOK_nil (lentsOK_cons ih lentsOK_nil) (by kernel_rfl) ?_⟩
   exact hq
  | inr y =>
   refine ⟨1, _, _, _, hk, rfl, loop_ok px (fx := ⟨Try.func68, by kernel_rfl, by kernel_rfl⟩) entsOK_nil (lentsOK_cons ih lentsOK_nil) (by kernel_rfl) ?_⟩
   exact hq
noncomputable def e_Z25 : Lent := m_Z25 (Z25)
theorem e_Z25_ok : (e_Z25).ok Try.prog (codeAt (bodyOf Try.f68) 2) := by
 intro R ds k r h
 unfold e_Z25 m_Z25 at h
 obtain ⟨x0, d0, rfl, h0⟩ := dL_some h
 obtain ⟨x1, d1, rfl, h1⟩ := dI_some h0
 obtain ⟨x2, d2, rfl, h2⟩ := dI_some h1
 obtain ⟨x3, d3, rfl, h3⟩ := dI_some h2
 obtain ⟨rfl, hE⟩ := dE_some h3
 obtain ⟨y, hy, hk⟩ := bnd_some hE
 obtain ⟨n, hn⟩ := ev_some hy
 exact m_Z25_ok n R _ k r (show (n_Z25 n x0 x1 x2 x3).bind _ = _ by rw [hn]; exact hk)

/-!-/
def c_Z26 {R : Type} (x0 : List D) (x1 : Int) (x2 : Int) (k : Int × Bool → Option R) : Option R :=
 (Z25 x0 x1 x2 (0 : Int)).bind (Sum.elim (fun y0 =>
 k (y0.fst, y0.snd)) (fun y1 =>
 k ((0 : Int), Bool.false)))
theorem c_Z26_bind {R : Type} (x0 : List D) (x1 : Int) (x2 : Int) (k : Int × Bool → Option R) : c_Z26 x0 x1 x2 k = (c_Z26 x0 x1 x2 some).bind k := by
 unfold c_Z26
 repeat' first|exact bnd_tail|exact bnd_none|exact bnd_leaf|apply bnd_ite|apply bnd_cond|apply bnd_sum|(apply bnd_bind;intro _)|intro _
def Z26 (x0 : List D) (x1 : Int) (x2 : Int) : Option (Int × Bool) := c_Z26 x0 x1 x2 some
def e_Z26 : Ent := ⟨68, [.rd (.struct [.int .i64, .int .i64, .int .i64, .int .i64]), .int .i64, .int .i64], .tup [.int .i64, .bool], [.undef, .undef, .undef], fun _ ds k => dL (fun x0 ds => dI (fun x1 ds => dI (fun x2 ds => dE ((Z26 x0 x1 x2).bind (fun y => k [.I y.1, .B y.2])) ds) ds) ds) ds⟩
theorem q_Z26 (x0 : List D) (x1 : Int) (x2 : Int) : runFn (ocOf []) (olOf [e_Z25]) A 68 Try.f68 (Sh.mks e_Z26.sh [.L x0, .I x1, .I x2]).1 (fun v os => some (v, os)) = c_Z26 x0 x1 x2 (fun y => some ((e_Z26.res.mk [.I y.1, .B y.2]).1, (Sh.mks e_Z26.outs (e_Z26.res.mk [.I y.1, .B y.2]).2).1)) := by kernel_rfl
theorem e_Z26_ok : e_Z26.ok Try.prog A := by
 intro R ds k r h
 unfold e_Z26 at h
 obtain ⟨x0, d0, rfl, h0⟩ := dL_some h
 obtain ⟨x1, d1, rfl, h1⟩ := dI_some h0
 obtain ⟨x2, d2, rfl, h2⟩ := dI_some h1
 obtain ⟨rfl, hE⟩ := dE_some h2
 obtain ⟨y, hy, hk⟩ := bnd_some hE
 refine ⟨_, hk, fn_ok px (fx := ⟨Try.func68, by kernel_rfl, by kernel_rfl⟩) entsOK_nil (lentsOK_cons e_Z25_ok lentsOK_nil) ?_⟩
 have hq := q_Z26 x0 x1 x2
 rw [c_Z26_bind] at hq
 rw [show c_Z26 x0 x1 x2 some = some y from hy] at hq
 exact hq

/-!-/
def c_Z27 {R : Type} (F : List D → List D → Int → Int → Option ((Int × Bool × Int) ⊕ (Int))) (x0 : List D) (x1 : List D) (x2 : Int) (x3 : Int) (k : (Int × Bool × Int) ⊕ (Int) → Option R) : Option R :=
 bif decide (x3 < (↑x1.length : Int)) then
 if 0 ≤ x3 ∧ x3 < (↑x1.length : Int) then
 if (↑x1.length : Int) ≠ (0 : Int) then
 if (0 : Int) ≤ (IntKind.i64.wrap (x3 + 1)).tmod (↑x1.length : Int) ∧ (IntKind.i64.wrap (x3 + 1)).tmod (↑x1.length : Int) < (↑x1.length : Int) then
 (Z26 x0 ((x1.getD x3.toNat (D.int 0)).toInt) ((x1.getD ((IntKind.i64.wrap (x3 + 1)).tmod (↑x1.length : Int)).toNat (D.int 0)).toInt)).bind (fun y0 =>
 bif !y0.snd then
 k (.inl ((0 : Int), Bool.false, x2))
 else
 (F x0 x1 (IntKind.i64.wrap (x2 + y0.fst)) (IntKind.i64.wrap (x3 + 1))).bind k)
 else
 none
 else
 none
 else
 none
 else
 k (.inr x2)
theorem c_Z27_bind {R : Type} (F : List D → List D → Int → Int → Option ((Int × Bool × Int) ⊕ (Int))) (x0 : List D) (x1 : List D) (x2 : Int) (x3 : Int) (k : (Int × Bool × Int) ⊕ (Int) → Option R) : c_Z27 F x0 x1 x2 x3 k = (c_Z27 F x0 x1 x2 x3 some).bind k := by
 unfold c_Z27
 repeat' first|exact bnd_tail|exact bnd_none|exact bnd_leaf|apply bnd_ite|apply bnd_cond|apply bnd_sum|(apply bnd_bind;intro _)|intro _
def n_Z27 : Nat → List D → List D → Int → Int → Option ((Int × Bool × Int) ⊕ (Int))
 | 0, _, _, _, _ => none
 | n + 1, x0, x1, x2, x3 => c_Z27 (n_Z27 n) x0 x1 x2 x3 some
noncomputable def Z27 (x0 : List D) (x1 : List D) (x2 : Int) (x3 : Int) : Option ((Int × Bool × Int) ⊕ (Int)) := ev (fun n => n_Z27 n x0 x1 x2 x3)
def m_Z27 (F : List D → List D → Int → Int → Option ((Int × Bool × Int) ⊕ (Int))) : Lent := ⟨5, ⟨(.rd (.struct [.int .i64, .int .i64, .int .i64, .int .i64]) :: .undef :: .rd (.int .i64) :: uu 5 (.int .i64 :: .int .i64 :: uu 41 ([]))), []⟩, [(.ret, ⟨(uu 6 (.int .i64 :: .bool :: .int .i64 :: uu 42 ([]))), []⟩), (.exit 0, ⟨(uu 8 (.int .i64 :: uu 42 ([]))), []⟩)], fun _ ds k => dL (fun x0 ds => dL (fun x1 ds => dI (fun x2 ds => dI (fun x3 ds => dE ((F x0 x1 x2 x3).bind (Sum.elim (fun y => k 0 [.I y.1, .B y.2.1, .I y.2.2]) (fun y => k 1 [.I y]))) ds) ds) ds) ds) ds⟩
theorem q_Z27 (F : List D → List D → Int → Int → Option ((Int × Bool × Int) ⊕ (Int))) (x0 : List D) (x1 : List D) (x2 : Int) (x3 : Int) : runLoop (ocOf [e_Z26]) (olOf [m_Z27 F]) A 16 (codeAt (bodyOf Try.f16) 5) ((m_Z27 F).sh.mk' [.L x0, .L x1, .I x2, .I x3]) (fun e σ' => some (e, σ')) = c_Z27 F x0 x1 x2 x3 (Sum.elim (fun y => some (.ret, SSt.mk' ⟨(uu 6 (.int .i64 :: .bool :: .int .i64 :: uu 42 ([]))), []⟩ [.I y.1, .B y.2.1, .I y.2.2])) (fun y => some (.exit 0, SSt.mk' ⟨(uu 8 (.int .i64 :: uu 42 ([]))), []⟩ [.I y]))) := by kernel_rfl
theorem m_Z27_ok : ∀ n, (m_Z27 (n_Z27 n)).ok Try.prog (codeAt (bodyOf Try.f16) 5) := by
 intro n
 induction n with
 | zero =>
  intro R ds k r h
  unfold m_Z27 at h
  obtain ⟨x0, d0, rfl, h0⟩ := dL_some h
  obtain ⟨x1, d1, rfl, h1⟩ := dL_some h0
  obtain ⟨x2, d2, rfl, h2⟩ := dI_some h1
  obtain ⟨x3, d3, rfl, h3⟩ := dI_some h2
  obtain ⟨rfl, hE⟩ := dE_some h3
  obtain ⟨y, hy, hk⟩ := bnd_some hE
  cases hy
 | succ n ih =>
  intro R ds k r h
  unfold m_Z27 at h
  obtain ⟨x0, d0, rfl, h0⟩ := dL_some h
  obtain ⟨x1, d1, rfl, h1⟩ := dL_some h0
  obtain ⟨x2, d2, rfl, h2⟩ := dI_some h1
  obtain ⟨x3, d3, rfl, h3⟩ := dI_some h2
  obtain ⟨rfl, hE⟩ := dE_some h3
  obtain ⟨y, hy, hk⟩ := bnd_some hE
  have hq := q_Z27 (n_Z27 n) x0 x1 x2 x3
  rw [c_Z27_bind] at hq
  rw [show c_Z27 (n_Z27 n) x0 x1 x2 x3 some = some y from hy] at hq
  cases y with
  | inl y =>
   refine ⟨0, _, _, _, hk, rfl, loop_ok px (fx := ⟨Try.func16, by kernel_rfl, by kernel_rfl⟩) (entsOK_cons e_Z26_ok entsOK_nil) (lentsOK_cons ih lentsOK_nil) (by kernel_rfl) ?_⟩
   exact hq
  | inr y =>
   refine ⟨1, _, _, _, hk, rfl, loop_ok px (fx := ⟨Try.func16, by kernel_rfl, by kernel_rfl⟩) (entsOK_cons e_Z26_ok entsOK_nil) (lentsOK_cons ih lentsOK_nil) (by kernel_rfl) ?_⟩
   exact hq
noncomputable def e_Z27 : Lent := m_Z27 (Z27)
theorem e_Z27_ok : (e_Z27).ok Try.prog (codeAt (bodyOf Try.f16) 5) := by
 intro R ds k r h
 unfold e_Z27 m_Z27 at h
 obtain ⟨x0, d0, rfl, h0⟩ := dL_some h
 obtain ⟨x1, d1, rfl, h1⟩ := dL_some h0
 obtain ⟨x2, d2, rfl, h2⟩ := dI_some h1
 obtain ⟨x3, d3, rfl, h3⟩ := dI_some h2
 obtain ⟨rfl, hE⟩ := dE_some h3
 obtain ⟨y, hy, hk⟩ := bnd_some hE
 obtain ⟨n, hn⟩ := ev_some hy
 exact m_Z27_ok n R _ k r (show (n_Z27 n x0 x1 x2 x3).bind _ = _ by rw [hn]; exact hk)

/-!-/
def c_Z28 {R : Type} (x0 : List D) (x1 : Int) (x2 : List D) (k : Int × Bool → Option R) : Option R :=
 (Z24 x0 x1).bind (fun y0 =>
 bif !y0 then
 k ((0 : Int), Bool.false)
 else
 (Z22 (↑x2.length : Int) (1 : Int) (16 : Int)).bind (fun y1 =>
 bif !y1 then
 k ((0 : Int), Bool.false)
 else
 (Z27 x0 x2 (0 : Int) (0 : Int)).bind (Sum.elim (fun y2 =>
 k (y2.fst, y2.snd.fst)) (fun y3 =>
 k (y3, Bool.true)))))
theorem c_Z28_bind {R : Type} (x0 : List D) (x1 : Int) (x2 : List D) (k : Int × Bool → Option R) : c_Z28 x0 x1 x2 k = (c_Z28 x0 x1 x2 some).bind k := by
 unfold c_Z28
 repeat' first|exact bnd_tail|exact bnd_none|exact bnd_leaf|apply bnd_ite|apply bnd_cond|apply bnd_sum|(apply bnd_bind;intro _)|intro _
def Z28 (x0 : List D) (x1 : Int) (x2 : List D) : Option (Int × Bool) := c_Z28 x0 x1 x2 some
def e_Z28 : Ent := ⟨16, [.rd (.struct [.int .i64, .int .i64, .int .i64, .int .i64]), .int .i64, .rd (.int .i64)], .tup [.int .i64, .bool], [.undef, .undef, .undef], fun _ ds k => dL (fun x0 ds => dI (fun x1 ds => dL (fun x2 ds => dE ((Z28 x0 x1 x2).bind (fun y => k [.I y.1, .B y.2])) ds) ds) ds) ds⟩
theorem q_Z28 (x0 : List D) (x1 : Int) (x2 : List D) : runFn (ocOf [e_Z24, e_Z22]) (olOf [e_Z27]) A 16 Try.f16 (Sh.mks e_Z28.sh [.L x0, .I x1, .L x2]).1 (fun v os => some (v, os)) = c_Z28 x0 x1 x2 (fun y => some ((e_Z28.res.mk [.I y.1, .B y.2]).1, (Sh.mks e_Z28.outs (e_Z28.res.mk [.I y.1, .B y.2]).2).1)) := by kernel_rfl
theorem e_Z28_ok : e_Z28.ok Try.prog A := by
 intro R ds k r h
 unfold e_Z28 at h
 obtain ⟨x0, d0, rfl, h0⟩ := dL_some h
 obtain ⟨x1, d1, rfl, h1⟩ := dI_some h0
 obtain ⟨x2, d2, rfl, h2⟩ := dL_some h1
 obtain ⟨rfl, hE⟩ := dE_some h2
 obtain ⟨y, hy, hk⟩ := bnd_some hE
 refine ⟨_, hk, fn_ok px (fx := ⟨Try.func16, by kernel_rfl, by kernel_rfl⟩) (entsOK_cons e_Z24_ok (entsOK_cons e_Z22_ok entsOK_nil)) (lentsOK_cons e_Z27_ok lentsOK_nil) ?_⟩
 have hq := q_Z28 x0 x1 x2
 rw [c_Z28_bind] at hq
 rw [show c_Z28 x0 x1 x2 some = some y from hy] at hq
 exact hq

/-!-/
def c_Z29 {R : Type} (x0 : List D) (k : List D × Int × Int → Option R) : Option R :=
 (Z7 x0 (0 : Int) (0 : Int)).bind (fun y0 =>
 (Z2 y0.snd.snd.fst y0.snd.snd.snd.fst y0.snd.snd.snd.snd (40 : Int)).bind (fun y1 =>
 if (39 : Int) ≠ (0 : Int) then
 if (0 : Int) ≤ (0 : Int) ∧ (0 : Int) ≤ IntKind.i64.wrap ((4 : Int) + IntKind.i64.wrap (y1.fst.tdiv (39 : Int))) ∧ IntKind.i64.wrap ((4 : Int) + IntKind.i64.wrap (y1.fst.tdiv (39 : Int))) ≤ (↑[D.int 0, D.int (100 : Int), D.int (-1000 : Int), D.int (999990 : Int), D.int (1000001 : Int)].length : Int) then
 if (0 : Nat) + ((IntKind.i64.wrap ((4 : Int) + IntKind.i64.wrap (y1.fst.tdiv (39 : Int)))).toNat - (0 : Nat)) ≤ [D.int 0, D.int (100 : Int), D.int (-1000 : Int), D.int (999990 : Int), D.int (1000001 : Int)].length then
 (Z4 y1.snd.fst y1.snd.snd.fst y1.snd.snd.snd (List.take ((IntKind.i64.wrap ((4 : Int) + IntKind.i64.wrap (y1.fst.tdiv (39 : Int)))).toNat - (0 : Nat)) (List.drop (0 : Nat) [D.int 0, D.int (100 : Int), D.int (-1000 : Int), D.int (999990 : Int), D.int (1000001 : Int)]))).bind (fun y2 =>
 k (y0.fst, y0.snd.fst, y2.fst))
 else
 none
 else
 none
 else
 none))
theorem c_Z29_bind {R : Type} (x0 : List D) (k : List D × Int × Int → Option R) : c_Z29 x0 k = (c_Z29 x0 some).bind k := by
 unfold c_Z29
 repeat' first|exact bnd_tail|exact bnd_none|exact bnd_leaf|apply bnd_ite|apply bnd_cond|apply bnd_sum|(apply bnd_bind;intro _)|intro _
def Z29 (x0 : List D) : Option (List D × Int × Int) := c_Z29 x0 some
def e_Z29 : Ent := ⟨54, [.rd (.int .u8)], .tup [.own (.struct [.int .i64, .int .i64, .int .i64, .int .i64]), .int .i64, .int .i64], [.undef], fun _ ds k => dL (fun x0 ds => dE ((Z29 x0).bind (fun y => k [.L y.1, .I y.2.1, .I y.2.2])) ds) ds⟩
theorem q_Z29 (x0 : List D) : runFn (ocOf [e_Z7, e_Z2, e_Z4]) (olOf []) A 54 Try.f54 (Sh.mks e_Z29.sh [.L x0]).1 (fun v os => some (v, os)) = c_Z29 x0 (fun y => some ((e_Z29.res.mk [.L y.1, .I y.2.1, .I y.2.2]).1, (Sh.mks e_Z29.outs (e_Z29.res.mk [.L y.1, .I y.2.1, .I y.2.2]).2).1)) := by kernel_rfl
theorem e_Z29_ok : e_Z29.ok Try.prog A := by
 intro R ds k r h
 unfold e_Z29 at h
 obtain ⟨x0, d0, rfl, h0⟩ := dL_some h
 obtain ⟨rfl, hE⟩ := dE_some h0
 obtain ⟨y, hy, hk⟩ := bnd_some hE
 refine ⟨_, hk, fn_ok px (fx := ⟨Try.func54, by kernel_rfl, by kernel_rfl⟩) (entsOK_cons e_Z7_ok (entsOK_cons e_Z2_ok (entsOK_cons e_Z4_ok entsOK_nil))) lentsOK_nil ?_⟩
 have hq := q_Z29 x0
 rw [c_Z29_bind] at hq
 rw [show c_Z29 x0 some = some y from hy] at hq
 exact hq

/-!-/
def c_Z30 {R : Type} (x0 : Int) (k : Bool → Option R) : Option R :=
 (Z11 x0 (-1000000 : Int) (1000000 : Int)).bind (fun y0 =>
 k y0)
theorem c_Z30_bind {R : Type} (x0 : Int) (k : Bool → Option R) : c_Z30 x0 k = (c_Z30 x0 some).bind k := by
 unfold c_Z30
 repeat' first|exact bnd_tail|exact bnd_none|exact bnd_leaf|apply bnd_ite|apply bnd_cond|apply bnd_sum|(apply bnd_bind;intro _)|intro _
def Z30 (x0 : Int) : Option (Bool) := c_Z30 x0 some
def e_Z30 : Ent := ⟨94, [.int .i64], .bool, [.undef], fun _ ds k => dI (fun x0 ds => dE ((Z30 x0).bind (fun y => k [.B y])) ds) ds⟩
theorem q_Z30 (x0 : Int) : runFn (ocOf [e_Z11]) (olOf []) A 94 Try.f94 (Sh.mks e_Z30.sh [.I x0]).1 (fun v os => some (v, os)) = c_Z30 x0 (fun y => some ((e_Z30.res.mk [.B y]).1, (Sh.mks e_Z30.outs (e_Z30.res.mk [.B y]).2).1)) := by kernel_rfl
theorem e_Z30_ok : e_Z30.ok Try.prog A := by
 intro R ds k r h
 unfold e_Z30 at h
 obtain ⟨x0, d0, rfl, h0⟩ := dI_some h
 obtain ⟨rfl, hE⟩ := dE_some h0
 obtain ⟨y, hy, hk⟩ := bnd_some hE
 refine ⟨_, hk, fn_ok px (fx := ⟨Try.func94, by kernel_rfl, by kernel_rfl⟩) (entsOK_cons e_Z11_ok entsOK_nil) lentsOK_nil ?_⟩
 have hq := q_Z30 x0
 rw [c_Z30_bind] at hq
 rw [show c_Z30 x0 some = some y from hy] at hq
 exact hq

/-!-/
def c_Z31 {R : Type} (x0 : Int) (x1 : Int) (x2 : Int) (x3 : Int) (x4 : List D) (k : Bool → Option R) : Option R :=
 if 0 ≤ x0 ∧ x0 < (↑x4.length : Int) then
 if 0 ≤ x1 ∧ x1 < (↑x4.length : Int) then
 k (!(x4.getD x0.toNat (D.int 0)).toBool == (x4.getD x1.toNat (D.int 0)).toBool)
 else
 none
 else
 none
theorem c_Z31_bind {R : Type} (x0 : Int) (x1 : Int) (x2 : Int) (x3 : Int) (x4 : List D) (k : Bool → Option R) : c_Z31 x0 x1 x2 x3 x4 k = (c_Z31 x0 x1 x2 x3 x4 some).bind k := by
 unfold c_Z31
 repeat' first|exact bnd_tail|exact bnd_none|exact bnd_leaf|apply bnd_ite|apply bnd_cond|apply bnd_sum|(apply bnd_bind;intro _)|intro _
def Z31 (x0 : Int) (x1 : Int) (x2 : Int) (x3 : Int) (x4 : List D) : Option (Bool) := c_Z31 x0 x1 x2 x3 x4 some
def e_Z31 : Ent := ⟨95, [.agg [.int .i64, .int .i64, .int .i64, .int .i64], .rp (.rd (.bool))], .bool, [.undef, .undef], fun _ ds k => dI (fun x0 ds => dI (fun x1 ds => dI (fun x2 ds => dI (fun x3 ds => dL (fun x4 ds => dE ((Z31 x0 x1 x2 x3 x4).bind (fun y => k [.B y])) ds) ds) ds) ds) ds) ds⟩
theorem q_Z31 (x0 : Int) (x1 : Int) (x2 : Int) (x3 : Int) (x4 : List D) : runFn (ocOf []) (olOf []) A 95 Try.f95 (Sh.mks e_Z31.sh [.I x0, .I x1, .I x2, .I x3, .L x4]).1 (fun v os => some (v, os)) = c_Z31 x0 x1 x2 x3 x4 (fun y => some ((e_Z31.res.mk [.B y]).1, (Sh.mks e_Z31.outs (e_Z31.res.mk [.B y]).2).1)) := by kernel_rfl
theorem e_Z31_ok : e_Z31.ok Try.prog A := by
 intro R ds k r h
 unfold e_Z31 at h
 obtain ⟨x0, d0, rfl, h0⟩ := dI_some h
 obtain ⟨x1, d1, rfl, h1⟩ := dI_some h0
 obtain ⟨x2, d2, rfl, h2⟩ := dI_some h1
 obtain ⟨x3, d3, rfl, h3⟩ := dI_some h2
 obtain ⟨x4, d4, rfl, h4⟩ := dL_some h3
 obtain ⟨rfl, hE⟩ := dE_some h4
 obtain ⟨y, hy, hk⟩ := bnd_some hE
 refine ⟨_, hk, fn_ok px (fx := ⟨Try.func95, by kernel_rfl, by kernel_rfl⟩) entsOK_nil lentsOK_nil ?_⟩
 have hq := q_Z31 x0 x1 x2 x3 x4
 rw [c_Z31_bind] at hq
 rw [show c_Z31 x0 x1 x2 x3 x4 some = some y from hy] at hq
 exact hq

/-!-/
def c_Z32 {R : Type} (F : List D → List D → Int → Int → Option ((Int) ⊕ (Unit))) (x0 : List D) (x1 : List D) (x2 : Int) (x3 : Int) (k : (Int) ⊕ (Unit) → Option R) : Option R :=
 bif decide (x3 < x2) then
 if 0 ≤ x3 ∧ x3 < (↑x0.length : Int) then
 (Z31 (((x0.getD x3.toNat (D.int 0)).fld (0 : Nat)).toInt) (((x0.getD x3.toNat (D.int 0)).fld (1 : Nat)).toInt) (((x0.getD x3.toNat (D.int 0)).fld (2 : Nat)).toInt) (((x0.getD x3.toNat (D.int 0)).fld (3 : Nat)).toInt) x1).bind (fun y0 =>
 bif y0 then
 k (.inl x3)
 else
 (F x0 x1 x2 (IntKind.i64.wrap (x3 + 1))).bind k)
 else
 none
 else
 k (.inr ())
theorem c_Z32_bind {R : Type} (F : List D → List D → Int → Int → Option ((Int) ⊕ (Unit))) (x0 : List D) (x1 : List D) (x2 : Int) (x3 : Int) (k : (Int) ⊕ (Unit) → Option R) : c_Z32 F x0 x1 x2 x3 k = (c_Z32 F x0 x1 x2 x3 some).bind k := by
 unfold c_Z32
 repeat' first|exact bnd_tail|exact bnd_none|exact bnd_leaf|apply bnd_ite|apply bnd_cond|apply bnd_sum|(apply bnd_bind;intro _)|intro _
def n_Z32 : Nat → List D → List D → Int → Int → Option ((Int) ⊕ (Unit))
 | 0, _, _, _, _ => none
 | n + 1, x0, x1, x2, x3 => c_Z32 (n_Z32 n) x0 x1 x2 x3 some
noncomputable def Z32 (x0 : List D) (x1 : List D) (x2 : Int) (x3 : Int) : Option ((Int) ⊕ (Unit)) := ev (fun n => n_Z32 n x0 x1 x2 x3)
def m_Z32 (F : List D → List D → Int → Int → Option ((Int) ⊕ (Unit))) : Lent := ⟨2, ⟨(.rd (.struct [.int .i64, .int .i64, .int .i64, .int .i64]) :: .fn 95 [.rp (.rd (.bool))] :: uu 5 (.int .i64 :: .int .i64 :: uu 10 ([]))), []⟩, [(.ret, ⟨(uu 4 (.int .i64 :: uu 14 ([]))), []⟩), (.exit 0, ⟨(uu 19 ([])), []⟩)], fun _ ds k => dL (fun x0 ds => dL (fun x1 ds => dI (fun x2 ds => dI (fun x3 ds => dE ((F x0 x1 x2 x3).bind (Sum.elim (fun y => k 0 [.I y]) (fun y => k 1 []))) ds) ds) ds) ds) ds⟩
theorem q_Z32 (F : List D → List D → Int → Int → Option ((Int) ⊕ (Unit))) (x0 : List D) (x1 : List D) (x2 : Int) (x3 : Int) : runLoop (ocOf [e_Z31]) (olOf [m_Z32 F]) A 72 (codeAt (bodyOf Try.f72) 2) ((m_Z32 F).sh.mk' [.L x0, .L x1, .I x2, .I x3]) (fun e σ' => some (e, σ')) = c_Z32 F x0 x1 x2 x3 (Sum.elim (fun y => some (.ret, SSt.mk' ⟨(uu 4 (.int .i64 :: uu 14 ([]))), []⟩ [.I y])) (fun y => some (.exit 0, SSt.mk' ⟨(uu 19 ([])), []⟩ []))) := by kernel_rfl
theorem m_Z32_ok : ∀ n, (m_Z32 (n_Z32 n)).ok Try.prog (codeAt (bodyOf Try.f72) 2) := by
 intro n
 induction n with
 | zero =>
  intro R ds k r h
  unfold m_Z32 at h
  obtain ⟨x0, d0, rfl, h0⟩ := dL_some h
  obtain ⟨x1, d1, rfl, h1⟩ := dL_some h0
  obtain ⟨x2, d2, rfl, h2⟩ := dI_some h1
  obtain ⟨x3, d3, rfl, h3⟩ := dI_some h2
  obtain ⟨rfl, hE⟩ := dE_some h3
  obtain ⟨y, hy, hk⟩ := bnd_some hE
  cases hy
 | succ n ih =>
  intro R ds k r h
  unfold m_Z32 at h
  obtain ⟨x0, d0, rfl, h0⟩ := dL_some h
  obtain ⟨x1, d1, rfl, h1⟩ := dL_some h0
  obtain ⟨x2, d2, rfl, h2⟩ := dI_some h1
  obtain ⟨x3, d3, rfl, h3⟩ := dI_some h2
  obtain ⟨rfl, hE⟩ := dE_some h3
  obtain ⟨y, hy, hk⟩ := bnd_some hE
  have hq := q_Z32 (n_Z32 n) x0 x1 x2 x3
  rw [c_Z32_bind] at hq
  rw [show c_Z32 (n_Z32 n) x0 x1 x2 x3 some = some y from hy] at hq
  cases y with
  | inl y =>
   refine ⟨0, _, _, _, hk, rfl, loop_ok px (fx := ⟨Try.func72, by kernel_rfl, by kernel_rfl⟩) (entsOK_cons e_Z31_ok entsOK_nil) (lentsOK_cons ih lentsOK_nil) (by kernel_rfl) ?_⟩
   exact hq
  | inr y =>
   refine ⟨1, _, _, _, hk, rfl, loop_ok px (fx := ⟨Try.func72, by kernel_rfl, by kernel_rfl⟩) (entsOK_cons e_Z31_ok entsOK_nil) (lentsOK_cons ih lentsOK_nil) (by kernel_rfl) ?_⟩
   exact hq
noncomputable def e_Z32 : Lent := m_Z32 (Z32)
theorem e_Z32_ok : (e_Z32).ok Try.prog (codeAt (bodyOf Try.f72) 2) := by
 intro R ds k r h
 unfold e_Z32 m_Z32 at h
 obtain ⟨x0, d0, rfl, h0⟩ := dL_some h
 obtain ⟨x1, d1, rfl, h1⟩ := dL_some h0
 obtain ⟨x2, d2, rfl, h2⟩ := dI_some h1
 obtain ⟨x3, d3, rfl, h3⟩ := dI_some h2
 obtain ⟨rfl, hE⟩ := dE_some h3
 obtain ⟨y, hy, hk⟩ := bnd_some hE
 obtain ⟨n, hn⟩ := ev_some hy
 exact m_Z32_ok n R _ k r (show (n_Z32 n x0 x1 x2 x3).bind _ = _ by rw [hn]; exact hk)

/-!-/
def c_Z33 {R : Type} (x0 : List D) (x1 : List D) (k : Int → Option R) : Option R :=
 (Z32 x0 x1 (↑x0.length : Int) (0 : Int)).bind (Sum.elim (fun y0 =>
 k y0) (fun y1 =>
 k (-1 : Int)))
theorem c_Z33_bind {R : Type} (x0 : List D) (x1 : List D) (k : Int → Option R) : c_Z33 x0 x1 k = (c_Z33 x0 x1 some).bind k := by
 unfold c_Z33
 repeat' first|exact bnd_tail|exact bnd_none|exact bnd_leaf|apply bnd_ite|apply bnd_cond|apply bnd_sum|(apply bnd_bind;intro _)|intro _
def Z33 (x0 : List D) (x1 : List D) : Option (Int) := c_Z33 x0 x1 some
def e_Z33 : Ent := ⟨72, [.rd (.struct [.int .i64, .int .i64, .int .i64, .int .i64]), .fn 95 [.rp (.rd (.bool))]], .int .i64, [.undef, .undef], fun _ ds k => dL (fun x0 ds => dL (fun x1 ds => dE ((Z33 x0 x1).bind (fun y => k [.I y])) ds) ds) ds⟩
theorem q_Z33 (x0 : List D) (x1 : List D) : runFn (ocOf []) (olOf [e_Z32]) A 72 Try.f72 (Sh.mks e_Z33.sh [.L x0, .L x1]).1 (fun v os => some (v, os)) = c_Z33 x0 x1 (fun y => some ((e_Z33.res.mk [.I y]).1, (Sh.mks e_Z33.outs (e_Z33.res.mk [.I y]).2).1)) := by kernel_rfl
theorem e_Z33_ok : e_Z33.ok Try.prog A := by
 intro R ds k r h
 unfold e_Z33 at h
 obtain ⟨x0, d0, rfl, h0⟩ := dL_some h
 obtain ⟨x1, d1, rfl, h1⟩ := dL_some h0
 obtain ⟨rfl, hE⟩ := dE_some h1
 obtain ⟨y, hy, hk⟩ := bnd_some hE
 refine ⟨_, hk, fn_ok px (fx := ⟨Try.func72, by kernel_rfl, by kernel_rfl⟩) entsOK_nil (lentsOK_cons e_Z32_ok lentsOK_nil) ?_⟩
 have hq := q_Z33 x0 x1
 rw [c_Z33_bind] at hq
 rw [show c_Z33 x0 x1 some = some y from hy] at hq
 exact hq

/-!-/
def c_Z34 {R : Type} (F : List D → List D → List D → Option ((Bool × List D × List D) ⊕ (Bool))) (x0 : List D) (x1 : List D) (x2 : List D) (k : (Bool × List D × List D) ⊕ (Bool) → Option R) : Option R :=
 (Z33 x0 x2).bind (fun y0 =>
 bif decide (y0 < (0 : Int)) then
 k (.inl (Bool.true, x1, x2))
 else
 if 0 ≤ y0 ∧ y0 < (↑x0.length : Int) then
 if (0 : Int) ≤ ((x0.getD y0.toNat (D.int 0)).fld (0 : Nat)).toInt ∧ ((x0.getD y0.toNat (D.int 0)).fld (0 : Nat)).toInt < (↑x1.length : Int) then
 if ((x0.getD y0.toNat (D.int 0)).fld (0 : Nat)).toInt.toNat + 1 ≤ x1.length then
 if (0 : Int) ≤ ((x0.getD y0.toNat (D.int 0)).fld (1 : Nat)).toInt ∧ ((x0.getD y0.toNat (D.int 0)).fld (1 : Nat)).toInt < (↑x2.length : Int) then
 if ((x0.getD y0.toNat (D.int 0)).fld (1 : Nat)).toInt.toNat + 1 ≤ x2.length then
 bif (x2.getD ((x0.getD y0.toNat (D.int 0)).fld (1 : Nat)).toInt.toNat (D.int 0)).toBool then
 if (0 : Int) ≤ ((x0.getD y0.toNat (D.int 0)).fld (1 : Nat)).toInt ∧ ((x0.getD y0.toNat (D.int 0)).fld (1 : Nat)).toInt < (↑x1.length : Int) then
 if ((x0.getD y0.toNat (D.int 0)).fld (1 : Nat)).toInt.toNat + 1 ≤ x1.length then
 (Z30 (IntKind.i64.wrap ((x1.getD ((x0.getD y0.toNat (D.int 0)).fld (1 : Nat)).toInt.toNat (D.int 0)).toInt - ((x0.getD y0.toNat (D.int 0)).fld (2 : Nat)).toInt))).bind (fun y1 =>
 bif !y1 then
 k (.inr Bool.false)
 else
 if (0 : Int) ≤ ((x0.getD y0.toNat (D.int 0)).fld (0 : Nat)).toInt ∧ ((x0.getD y0.toNat (D.int 0)).fld (0 : Nat)).toInt < (↑x1.length : Int) then
 if ((x0.getD y0.toNat (D.int 0)).fld (0 : Nat)).toInt.toNat + 1 ≤ x1.length then
 if (0 : Int) ≤ ((x0.getD y0.toNat (D.int 0)).fld (0 : Nat)).toInt ∧ ((x0.getD y0.toNat (D.int 0)).fld (0 : Nat)).toInt < (↑x2.length : Int) then
 if ((x0.getD y0.toNat (D.int 0)).fld (0 : Nat)).toInt.toNat + 1 ≤ x2.length then
 (F x0 (x1.set ((x0.getD y0.toNat (D.int 0)).fld (0 : Nat)).toInt.toNat (D.int (IntKind.i64.wrap ((x1.getD ((x0.getD y0.toNat (D.int 0)).fld (1 : Nat)).toInt.toNat (D.int 0)).toInt - ((x0.getD y0.toNat (D.int 0)).fld (2 : Nat)).toInt)))) (x2.set ((x0.getD y0.toNat (D.int 0)).fld (0 : Nat)).toInt.toNat (D.bool Bool.true))).bind k
 else
 none
 else
 none
 else
 none
 else
 none)
 else
 none
 else
 none
 else
 (Z30 (IntKind.i64.wrap ((x1.getD ((x0.getD y0.toNat (D.int 0)).fld (0 : Nat)).toInt.toNat (D.int 0)).toInt + ((x0.getD y0.toNat (D.int 0)).fld (2 : Nat)).toInt))).bind (fun y2 =>
 bif !y2 then
 k (.inr Bool.false)
 else
 if (0 : Int) ≤ ((x0.getD y0.toNat (D.int 0)).fld (1 : Nat)).toInt ∧ ((x0.getD y0.toNat (D.int 0)).fld (1 : Nat)).toInt < (↑x1.length : Int) then
 if ((x0.getD y0.toNat (D.int 0)).fld (1 : Nat)).toInt.toNat + 1 ≤ x1.length then
 if (0 : Int) ≤ ((x0.getD y0.toNat (D.int 0)).fld (1 : Nat)).toInt ∧ ((x0.getD y0.toNat (D.int 0)).fld (1 : Nat)).toInt < (↑x2.length : Int) then
 if ((x0.getD y0.toNat (D.int 0)).fld (1 : Nat)).toInt.toNat + 1 ≤ x2.length then
 (F x0 (x1.set ((x0.getD y0.toNat (D.int 0)).fld (1 : Nat)).toInt.toNat (D.int (IntKind.i64.wrap ((x1.getD ((x0.getD y0.toNat (D.int 0)).fld (0 : Nat)).toInt.toNat (D.int 0)).toInt + ((x0.getD y0.toNat (D.int 0)).fld (2 : Nat)).toInt)))) (x2.set ((x0.getD y0.toNat (D.int 0)).fld (1 : Nat)).toInt.toNat (D.bool Bool.true))).bind k
 else
 none
 else
 none
 else
 none
 else
 none)
 else
 none
 else
 none
 else
 none
 else
 none
 else
 none)
theorem c_Z34_bind {R : Type} (F : List D → List D → List D → Option ((Bool × List D × List D) ⊕ (Bool))) (x0 : List D) (x1 : List D) (x2 : List D) (k : (Bool × List D × List D) ⊕ (Bool) → Option R) : c_Z34 F x0 x1 x2 k = (c_Z34 F x0 x1 x2 some).bind k := by
 unfold c_Z34
 repeat' first|exact bnd_tail|exact bnd_none|exact bnd_leaf|apply bnd_ite|apply bnd_cond|apply bnd_sum|(apply bnd_bind;intro _)|intro _
def n_Z34 : Nat → List D → List D → List D → Option ((Bool × List D × List D) ⊕ (Bool))
 | 0, _, _, _ => none
 | n + 1, x0, x1, x2 => c_Z34 (n_Z34 n) x0 x1 x2 some
noncomputable def Z34 (x0 : List D) (x1 : List D) (x2 : List D) : Option ((Bool × List D × List D) ⊕ (Bool)) := ev (fun n => n_Z34 n x0 x1 x2)
def m_Z34 (F : List D → List D → List D → Option ((Bool × List D × List D) ⊕ (Bool))) : Lent := ⟨5, ⟨(.rd (.struct [.int .i64, .int .i64, .int .i64, .int .i64]) :: uu 8 (.full 1000 [] (.int .i64) :: .ptr 1001 [0] :: uu 68 ([]))), [(1000, .own (.int .i64)), (1001, .obox (.full 1002 [] (.bool))), (1002, .own (.bool))]⟩, [(.ret, ⟨(uu 6 (.full 1000 [] (.int .i64) :: .full 1001 [] (.bool) :: .bool :: uu 70 ([]))), [(1000, .own (.int .i64)), (1001, .own (.bool))]⟩), (.ret, ⟨(uu 6 (.nilsl :: .nilsl :: .bool :: uu 70 ([]))), []⟩)], fun _ ds k => dL (fun x0 ds => dL (fun x1 ds => dL (fun x2 ds => dE ((F x0 x1 x2).bind (Sum.elim (fun y => k 0 [.B y.1, .L y.2.1, .L y.2.2]) (fun y => k 1 [.B y]))) ds) ds) ds) ds⟩
theorem q_Z34 (F : List D → List D → List D → Option ((Bool × List D × List D) ⊕ (Bool))) (x0 : List D) (x1 : List D) (x2 : List D) : runLoop (ocOf [e_Z33, e_Z30]) (olOf [m_Z34 F]) A 44 (codeAt (bodyOf Try.f44) 5) ((m_Z34 F).sh.mk' [.L x0, .L x1, .L x2]) (fun e σ' => some (e, σ')) = c_Z34 F x0 x1 x2 (Sum.elim (fun y => some (.ret, SSt.mk' ⟨(uu 6 (.full 1000 [] (.int .i64) :: .full 1001 [] (.bool) :: .bool :: uu 70 ([]))), [(1000, .own (.int .i64)), (1001, .own (.bool))]⟩ [.B y.1, .L y.2.1, .L y.2.2])) (fun y => some (.ret, SSt.mk' ⟨(uu 6 (.nilsl :: .nilsl :: .bool :: uu 70 ([]))), []⟩ [.B y]))) := by kernel_rfl
theorem m_Z34_ok : ∀ n, (m_Z34 (n_Z34 n)).ok Try.prog (codeAt (bodyOf Try.f44) 5) := by
 intro n
 induction n with
 | zero =>
  intro R ds k r h
  unfold m_Z34 at h
  obtain ⟨x0, d0, rfl, h0⟩ := dL_some h
  obtain ⟨x1, d1, rfl, h1⟩ := dL_some h0
  obtain ⟨x2, d2, rfl, h2⟩ := dL_some h1
  obtain ⟨rfl, hE⟩ := dE_some h2
  obtain ⟨y, hy, hk⟩ := bnd_some hE
  cases hy
 | succ n ih =>
  intro R ds k r h
  unfold m_Z34 at h
  obtain ⟨x0, d0, rfl, h0⟩ := dL_some h
  obtain ⟨x1, d1, rfl, h1⟩ := dL_some h0
  obtain ⟨x2, d2, rfl, h2⟩ := dL_some h1
  obtain ⟨rfl, hE⟩ := dE_some h2
  obtain ⟨y, hy, hk⟩ := bnd_some hE
  have hq := q_Z34 (n_Z34 n) x0 x1 x2
  rw [c_Z34_bind] at hq
  rw [show c_Z34 (n_Z34 n) x0 x1 x2 some = some y from hy] at hq
  cases y with
  | inl y =>
   refine ⟨0, _, _, _, hk, rfl, loop_ok px (fx := ⟨Try.func44, by kernel_rfl, by kernel_rfl⟩) (entsOK_cons e_Z33_ok (entsOK_cons e_Z30_ok entsOK_nil)) (lentsOK_cons ih lentsOK_nil) (by kernel_rfl) ?_⟩
   exact hq
  | inr y =>
   refine ⟨1, _, _, _, hk, rfl, loop_ok px (fx := ⟨Try.func44, by kernel_rfl, by kernel_rfl⟩) (entsOK_cons e_Z33_ok (entsOK_cons e_Z30_ok entsOK_nil)) (lentsOK_cons ih lentsOK_nil) (by kernel_rfl) ?_⟩
   exact hq
noncomputable def e_Z34 : Lent := m_Z34 (Z34)
theorem e_Z34_ok : (e_Z34).ok Try.prog (codeAt (bodyOf Try.f44) 5) := by
 intro R ds k r h
 unfold e_Z34 m_Z34 at h
 obtain ⟨x0, d0, rfl, h0⟩ := dL_some h
 obtain ⟨x1, d1, rfl, h1⟩ := dL_some h0
 obtain ⟨x2, d2, rfl, h2⟩ := dL_some h1
 obtain ⟨rfl, hE⟩ := dE_some h2
 obtain ⟨y, hy, hk⟩ := bnd_some hE
 obtain ⟨n, hn⟩ := ev_some hy
 exact m_Z34_ok n R _ k r (show (n_Z34 n x0 x1 x2).bind _ = _ by rw [hn]; exact hk)

/-!-/
def c_Z35 {R : Type} (x0 : List D) (x1 : Int) (x2 : Int) (k : List D × List D × Bool → Option R) : Option R :=
 (Z16 x0 x1).bind (fun y0 =>
 bif !y0 then
 k ([], [], Bool.false)
 else
 (Z30 x2).bind (fun y1 =>
 bif !y1 then
 k ([], [], Bool.false)
 else
 if 0 ≤ x1 ∧ x1 ≤ x1 ∧ x1 ≤ (4294967296 : Int) then
 if 0 ≤ x1 ∧ x1 ≤ x1 ∧ x1 ≤ (4294967296 : Int) then
 if (0 : Int) ≤ (0 : Int) ∧ (0 : Int) < (↑(List.replicate x1.toNat (D.int 0)).length : Int) then
 if Int.toNat (0 : Int) + (1 : Nat) ≤ (List.replicate x1.toNat (D.int 0)).length then
 if (0 : Int) ≤ (0 : Int) ∧ (0 : Int) < (↑(List.replicate x1.toNat (D.bool Bool.false)).length : Int) then
 if Int.toNat (0 : Int) + (1 : Nat) ≤ (List.replicate x1.toNat (D.bool Bool.false)).length then
 (Z34 x0 ((List.replicate x1.toNat (D.int 0)).set (Int.toNat (0 : Int)) (D.int x2)) ((List.replicate x1.toNat (D.bool Bool.false)).set (Int.toNat (0 : Int)) (D.bool Bool.true))).bind (Sum.elim (fun y2 =>
 k (y2.snd.fst, y2.snd.snd, y2.fst)) (fun y3 =>
 k ([], [], y3)))
 else
 none
 else
 none
 else
 none
 else
 none
 else
 none
 else
 none))
theorem c_Z35_bind {R : Type} (x0 : List D) (x1 : Int) (x2 : Int) (k : List D × List D × Bool → Option R) : c_Z35 x0 x1 x2 k = (c_Z35 x0 x1 x2 some).bind k := by
 unfold c_Z35
 repeat' first|exact bnd_tail|exact bnd_none|exact bnd_leaf|apply bnd_ite|apply bnd_cond|apply bnd_sum|(apply bnd_bind;intro _)|intro _
def Z35 (x0 : List D) (x1 : Int) (x2 : Int) : Option (List D × List D × Bool) := c_Z35 x0 x1 x2 some
def e_Z35 : Ent := ⟨44, [.rd (.struct [.int .i64, .int .i64, .int .i64, .int .i64]), .int .i64, .int .i64], .tup [.own (.int .i64), .own (.bool), .bool], [.undef, .undef, .undef], fun _ ds k => dL (fun x0 ds => dI (fun x1 ds => dI (fun x2 ds => dE ((Z35 x0 x1 x2).bind (fun y => k [.L y.1, .L y.2.1, .B y.2.2])) ds) ds) ds) ds⟩
theorem q_Z35 (x0 : List D) (x1 : Int) (x2 : Int) : runFn (ocOf [e_Z16, e_Z30]) (olOf [e_Z34]) A 44 Try.f44 (Sh.mks e_Z35.sh [.L x0, .I x1, .I x2]).1 (fun v os => some (v, os)) = c_Z35 x0 x1 x2 (fun y => some ((e_Z35.res.mk [.L y.1, .L y.2.1, .B y.2.2]).1, (Sh.mks e_Z35.outs (e_Z35.res.mk [.L y.1, .L y.2.1, .B y.2.2]).2).1)) := by kernel_rfl
theorem e_Z35_ok : e_Z35.ok Try.prog A := by
 intro R ds k r h
 unfold e_Z35 at h
 obtain ⟨x0, d0, rfl, h0⟩ := dL_some h
 obtain ⟨x1, d1, rfl, h1⟩ := dI_some h0
 obtain ⟨x2, d2, rfl, h2⟩ := dI_some h1
 obtain ⟨rfl, hE⟩ := dE_some h2
 obtain ⟨y, hy, hk⟩ := bnd_some hE
 refine ⟨_, hk, fn_ok px (fx := ⟨Try.func44, by kernel_rfl, by kernel_rfl⟩) (entsOK_cons e_Z16_ok (entsOK_cons e_Z30_ok entsOK_nil)) (lentsOK_cons e_Z34_ok lentsOK_nil) ?_⟩
 have hq := q_Z35 x0 x1 x2
 rw [c_Z35_bind] at hq
 rw [show c_Z35 x0 x1 x2 some = some y from hy] at hq
 exact hq

/-!-/
def c_Z36 {R : Type} (F : List D → Int → List D → List D → Option ((Bool × List D × List D × List D × List D) ⊕ (List D × List D))) (x0 : List D) (x1 : Int) (x2 : List D) (x3 : List D) (k : (Bool × List D × List D × List D × List D) ⊕ (List D × List D) → Option R) : Option R :=
 bif decide (x1 < (↑x0.length : Int)) then
 if 0 ≤ x1 ∧ x1 < (↑x0.length : Int) then
 if (0 : Int) ≤ ((x0.getD x1.toNat (D.int 0)).fld (0 : Nat)).toInt ∧ ((x0.getD x1.toNat (D.int 0)).fld (0 : Nat)).toInt < (↑x3.length : Int) then
 if ((x0.getD x1.toNat (D.int 0)).fld (0 : Nat)).toInt.toNat + 1 ≤ x3.length then
 if (0 : Int) ≤ ((x0.getD x1.toNat (D.int 0)).fld (1 : Nat)).toInt ∧ ((x0.getD x1.toNat (D.int 0)).fld (1 : Nat)).toInt < (↑x3.length : Int) then
 if ((x0.getD x1.toNat (D.int 0)).fld (1 : Nat)).toInt.toNat + 1 ≤ x3.length then
 bif (x3.getD ((x0.getD x1.toNat (D.int 0)).fld (0 : Nat)).toInt.toNat (D.int 0)).toBool == (x3.getD ((x0.getD x1.toNat (D.int 0)).fld (1 : Nat)).toInt.toNat (D.int 0)).toBool then
 (F x0 (IntKind.i64.wrap (x1 + 1)) x2 x3).bind k
 else
 if (0 : Int) ≤ ((x0.getD x1.toNat (D.int 0)).fld (0 : Nat)).toInt ∧ ((x0.getD x1.toNat (D.int 0)).fld (0 : Nat)).toInt < (↑x3.length : Int) then
 if ((x0.getD x1.toNat (D.int 0)).fld (0 : Nat)).toInt.toNat + 1 ≤ x3.length then
 bif (x3.getD ((x0.getD x1.toNat (D.int 0)).fld (0 : Nat)).toInt.toNat (D.int 0)).toBool then
 if (0 : Int) ≤ ((x0.getD x1.toNat (D.int 0)).fld (0 : Nat)).toInt ∧ ((x0.getD x1.toNat (D.int 0)).fld (0 : Nat)).toInt < (↑x2.length : Int) then
 if ((x0.getD x1.toNat (D.int 0)).fld (0 : Nat)).toInt.toNat + 1 ≤ x2.length then
 if (0 : Int) ≤ ((x0.getD x1.toNat (D.int 0)).fld (1 : Nat)).toInt ∧ ((x0.getD x1.toNat (D.int 0)).fld (1 : Nat)).toInt < (↑x2.length : Int) then
 if ((x0.getD x1.toNat (D.int 0)).fld (1 : Nat)).toInt.toNat + 1 ≤ x2.length then
 if (0 : Int) ≤ ((x0.getD x1.toNat (D.int 0)).fld (0 : Nat)).toInt ∧ ((x0.getD x1.toNat (D.int 0)).fld (0 : Nat)).toInt < (↑x3.length : Int) then
 if ((x0.getD x1.toNat (D.int 0)).fld (0 : Nat)).toInt.toNat + 1 ≤ x3.length then
 if (0 : Int) ≤ ((x0.getD x1.toNat (D.int 0)).fld (1 : Nat)).toInt ∧ ((x0.getD x1.toNat (D.int 0)).fld (1 : Nat)).toInt < (↑(x3.set ((x0.getD x1.toNat (D.int 0)).fld (0 : Nat)).toInt.toNat (D.bool Bool.true)).length : Int) then
 if ((x0.getD x1.toNat (D.int 0)).fld (1 : Nat)).toInt.toNat + 1 ≤ (x3.set ((x0.getD x1.toNat (D.int 0)).fld (0 : Nat)).toInt.toNat (D.bool Bool.true)).length then
 if (0 : Int) ≤ ((x0.getD x1.toNat (D.int 0)).fld (0 : Nat)).toInt ∧ ((x0.getD x1.toNat (D.int 0)).fld (0 : Nat)).toInt < (↑(x2.set ((x0.getD x1.toNat (D.int 0)).fld (1 : Nat)).toInt.toNat (D.int (IntKind.i64.wrap ((x2.getD ((x0.getD x1.toNat (D.int 0)).fld (0 : Nat)).toInt.toNat (D.int 0)).toInt + ((x0.getD x1.toNat (D.int 0)).fld (2 : Nat)).toInt)))).length : Int) then
 if ((x0.getD x1.toNat (D.int 0)).fld (0 : Nat)).toInt.toNat + 1 ≤ (x2.set ((x0.getD x1.toNat (D.int 0)).fld (1 : Nat)).toInt.toNat (D.int (IntKind.i64.wrap ((x2.getD ((x0.getD x1.toNat (D.int 0)).fld (0 : Nat)).toInt.toNat (D.int 0)).toInt + ((x0.getD x1.toNat (D.int 0)).fld (2 : Nat)).toInt)))).length then
 (Z22 (((x2.set ((x0.getD x1.toNat (D.int 0)).fld (1 : Nat)).toInt.toNat (D.int (IntKind.i64.wrap ((x2.getD ((x0.getD x1.toNat (D.int 0)).fld (0 : Nat)).toInt.toNat (D.int 0)).toInt + ((x0.getD x1.toNat (D.int 0)).fld (2 : Nat)).toInt)))).getD ((x0.getD x1.toNat (D.int 0)).fld (0 : Nat)).toInt.toNat (D.int 0)).toInt) (-1000000 : Int) (1000000 : Int)).bind (fun y0 =>
 bif !y0 then
 k (.inl (Bool.false, [], [], x2.set ((x0.getD x1.toNat (D.int 0)).fld (1 : Nat)).toInt.toNat (D.int (IntKind.i64.wrap ((x2.getD ((x0.getD x1.toNat (D.int 0)).fld (0 : Nat)).toInt.toNat (D.int 0)).toInt + ((x0.getD x1.toNat (D.int 0)).fld (2 : Nat)).toInt))), (x3.set ((x0.getD x1.toNat (D.int 0)).fld (0 : Nat)).toInt.toNat (D.bool Bool.true)).set ((x0.getD x1.toNat (D.int 0)).fld (1 : Nat)).toInt.toNat (D.bool Bool.true)))
 else
 if (0 : Int) ≤ ((x0.getD x1.toNat (D.int 0)).fld (1 : Nat)).toInt ∧ ((x0.getD x1.toNat (D.int 0)).fld (1 : Nat)).toInt < (↑(x2.set ((x0.getD x1.toNat (D.int 0)).fld (1 : Nat)).toInt.toNat (D.int (IntKind.i64.wrap ((x2.getD ((x0.getD x1.toNat (D.int 0)).fld (0 : Nat)).toInt.toNat (D.int 0)).toInt + ((x0.getD x1.toNat (D.int 0)).fld (2 : Nat)).toInt)))).length : Int) then
 if ((x0.getD x1.toNat (D.int 0)).fld (1 : Nat)).toInt.toNat + 1 ≤ (x2.set ((x0.getD x1.toNat (D.int 0)).fld (1 : Nat)).toInt.toNat (D.int (IntKind.i64.wrap ((x2.getD ((x0.getD x1.toNat (D.int 0)).fld (0 : Nat)).toInt.toNat (D.int 0)).toInt + ((x0.getD x1.toNat (D.int 0)).fld (2 : Nat)).toInt)))).length then
 (Z22 (((x2.set ((x0.getD x1.toNat (D.int 0)).fld (1 : Nat)).toInt.toNat (D.int (IntKind.i64.wrap ((x2.getD ((x0.getD x1.toNat (D.int 0)).fld (0 : Nat)).toInt.toNat (D.int 0)).toInt + ((x0.getD x1.toNat (D.int 0)).fld (2 : Nat)).toInt)))).getD ((x0.getD x1.toNat (D.int 0)).fld (1 : Nat)).toInt.toNat (D.int 0)).toInt) (-1000000 : Int) (1000000 : Int)).bind (fun y1 =>
 bif !y1 then
 k (.inl (Bool.false, [], [], x2.set ((x0.getD x1.toNat (D.int 0)).fld (1 : Nat)).toInt.toNat (D.int (IntKind.i64.wrap ((x2.getD ((x0.getD x1.toNat (D.int 0)).fld (0 : Nat)).toInt.toNat (D.int 0)).toInt + ((x0.getD x1.toNat (D.int 0)).fld (2 : Nat)).toInt))), (x3.set ((x0.getD x1.toNat (D.int 0)).fld (0 : Nat)).toInt.toNat (D.bool Bool.true)).set ((x0.getD x1.toNat (D.int 0)).fld (1 : Nat)).toInt.toNat (D.bool Bool.true)))
 else
 (F x0 (IntKind.i64.wrap ((-1 : Int) + (1 : Int))) (x2.set ((x0.getD x1.toNat (D.int 0)).fld (1 : Nat)).toInt.toNat (D.int (IntKind.i64.wrap ((x2.getD ((x0.getD x1.toNat (D.int 0)).fld (0 : Nat)).toInt.toNat (D.int 0)).toInt + ((x0.getD x1.toNat (D.int 0)).fld (2 : Nat)).toInt)))) ((x3.set ((x0.getD x1.toNat (D.int 0)).fld (0 : Nat)).toInt.toNat (D.bool Bool.true)).set ((x0.getD x1.toNat (D.int 0)).fld (1 : Nat)).toInt.toNat (D.bool Bool.true))).bind k)
 else
 none
 else
 none)
 else
 none
 else
 none
 else
 none
 else
 none
 else
 none
 else
 none
 else
 none
 else
 none
 else
 none
 else
 none
 else
 if (0 : Int) ≤ ((x0.getD x1.toNat (D.int 0)).fld (1 : Nat)).toInt ∧ ((x0.getD x1.toNat (D.int 0)).fld (1 : Nat)).toInt < (↑x2.length : Int) then
 if ((x0.getD x1.toNat (D.int 0)).fld (1 : Nat)).toInt.toNat + 1 ≤ x2.length then
 if (0 : Int) ≤ ((x0.getD x1.toNat (D.int 0)).fld (0 : Nat)).toInt ∧ ((x0.getD x1.toNat (D.int 0)).fld (0 : Nat)).toInt < (↑x2.length : Int) then
 if ((x0.getD x1.toNat (D.int 0)).fld (0 : Nat)).toInt.toNat + 1 ≤ x2.length then
 if (0 : Int) ≤ ((x0.getD x1.toNat (D.int 0)).fld (0 : Nat)).toInt ∧ ((x0.getD x1.toNat (D.int 0)).fld (0 : Nat)).toInt < (↑x3.length : Int) then
 if ((x0.getD x1.toNat (D.int 0)).fld (0 : Nat)).toInt.toNat + 1 ≤ x3.length then
 if (0 : Int) ≤ ((x0.getD x1.toNat (D.int 0)).fld (1 : Nat)).toInt ∧ ((x0.getD x1.toNat (D.int 0)).fld (1 : Nat)).toInt < (↑(x3.set ((x0.getD x1.toNat (D.int 0)).fld (0 : Nat)).toInt.toNat (D.bool Bool.true)).length : Int) then
 if ((x0.getD x1.toNat (D.int 0)).fld (1 : Nat)).toInt.toNat + 1 ≤ (x3.set ((x0.getD x1.toNat (D.int 0)).fld (0 : Nat)).toInt.toNat (D.bool Bool.true)).length then
 if (0 : Int) ≤ ((x0.getD x1.toNat (D.int 0)).fld (0 : Nat)).toInt ∧ ((x0.getD x1.toNat (D.int 0)).fld (0 : Nat)).toInt < (↑(x2.set ((x0.getD x1.toNat (D.int 0)).fld (0 : Nat)).toInt.toNat (D.int (IntKind.i64.wrap ((x2.getD ((x0.getD x1.toNat (D.int 0)).fld (1 : Nat)).toInt.toNat (D.int 0)).toInt - ((x0.getD x1.toNat (D.int 0)).fld (2 : Nat)).toInt)))).length : Int) then
 if ((x0.getD x1.toNat (D.int 0)).fld (0 : Nat)).toInt.toNat + 1 ≤ (x2.set ((x0.getD x1.toNat (D.int 0)).fld (0 : Nat)).toInt.toNat (D.int (IntKind.i64.wrap ((x2.getD ((x0.getD x1.toNat (D.int 0)).fld (1 : Nat)).toInt.toNat (D.int 0)).toInt - ((x0.getD x1.toNat (D.int 0)).fld (2 : Nat)).toInt)))).length then
 (Z22 (((x2.set ((x0.getD x1.toNat (D.int 0)).fld (0 : Nat)).toInt.toNat (D.int (IntKind.i64.wrap ((x2.getD ((x0.getD x1.toNat (D.int 0)).fld (1 : Nat)).toInt.toNat (D.int 0)).toInt - ((x0.getD x1.toNat (D.int 0)).fld (2 : Nat)).toInt)))).getD ((x0.getD x1.toNat (D.int 0)).fld (0 : Nat)).toInt.toNat (D.int 0)).toInt) (-1000000 : Int) (1000000 : Int)).bind (fun y2 =>
 bif !y2 then
 k (.inl (Bool.false, [], [], x2.set ((x0.getD x1.toNat (D.int 0)).fld (0 : Nat)).toInt.toNat (D.int (IntKind.i64.wrap ((x2.getD ((x0.getD x1.toNat (D.int 0)).fld (1 : Nat)).toInt.toNat (D.int 0)).toInt - ((x0.getD x1.toNat (D.int 0)).fld (2 : Nat)).toInt))), (x3.set ((x0.getD x1.toNat (D.int 0)).fld (0 : Nat)).toInt.toNat (D.bool Bool.true)).set ((x0.getD x1.toNat (D.int 0)).fld (1 : Nat)).toInt.toNat (D.bool Bool.true)))
 else
 if (0 : Int) ≤ ((x0.getD x1.toNat (D.int 0)).fld (1 : Nat)).toInt ∧ ((x0.getD x1.toNat (D.int 0)).fld (1 : Nat)).toInt < (↑(x2.set ((x0.getD x1.toNat (D.int 0)).fld (0 : Nat)).toInt.toNat (D.int (IntKind.i64.wrap ((x2.getD ((x0.getD x1.toNat (D.int 0)).fld (1 : Nat)).toInt.toNat (D.int 0)).toInt - ((x0.getD x1.toNat (D.int 0)).fld (2 : Nat)).toInt)))).length : Int) then
 if ((x0.getD x1.toNat (D.int 0)).fld (1 : Nat)).toInt.toNat + 1 ≤ (x2.set ((x0.getD x1.toNat (D.int 0)).fld (0 : Nat)).toInt.toNat (D.int (IntKind.i64.wrap ((x2.getD ((x0.getD x1.toNat (D.int 0)).fld (1 : Nat)).toInt.toNat (D.int 0)).toInt - ((x0.getD x1.toNat (D.int 0)).fld (2 : Nat)).toInt)))).length then
 (Z22 (((x2.set ((x0.getD x1.toNat (D.int 0)).fld (0 : Nat)).toInt.toNat (D.int (IntKind.i64.wrap ((x2.getD ((x0.getD x1.toNat (D.int 0)).fld (1 : Nat)).toInt.toNat (D.int 0)).toInt - ((x0.getD x1.toNat (D.int 0)).fld (2 : Nat)).toInt)))).getD ((x0.getD x1.toNat (D.int 0)).fld (1 : Nat)).toInt.toNat (D.int 0)).toInt) (-1000000 : Int) (1000000 : Int)).bind (fun y3 =>
 bif !y3 then
 k (.inl (Bool.false, [], [], x2.set ((x0.getD x1.toNat (D.int 0)).fld (0 : Nat)).toInt.toNat (D.int (IntKind.i64.wrap ((x2.getD ((x0.getD x1.toNat (D.int 0)).fld (1 : Nat)).toInt.toNat (D.int 0)).toInt - ((x0.getD x1.toNat (D.int 0)).fld (2 : Nat)).toInt))), (x3.set ((x0.getD x1.toNat (D.int 0)).fld (0 : Nat)).toInt.toNat (D.bool Bool.true)).set ((x0.getD x1.toNat (D.int 0)).fld (1 : Nat)).toInt.toNat (D.bool Bool.true)))
 else
 (F x0 (IntKind.i64.wrap ((-1 : Int) + (1 : Int))) (x2.set ((x0.getD x1.toNat (D.int 0)).fld (0 : Nat)).toInt.toNat (D.int (IntKind.i64.wrap ((x2.getD ((x0.getD x1.toNat (D.int 0)).fld (1 : Nat)).toInt.toNat (D.int 0)).toInt - ((x0.getD x1.toNat (D.int 0)).fld (2 : Nat)).toInt)))) ((x3.set ((x0.getD x1.toNat (D.int 0)).fld (0 : Nat)).toInt.toNat (D.bool Bool.true)).set ((x0.getD x1.toNat (D.int 0)).fld (1 : Nat)).toInt.toNat (D.bool Bool.true))).bind k)
 else
 none
 else
 none)
 else
 none
 else
 none
 else
 none
 else
 none
 else
 none
 else
 none
 else
 none
 else
 none
 else
 none
 else
 none
 else
 none
 else
 none
 else
 none
 else
 none
 else
 none
 else
 none
 else
 none
 else
 k (.inr (x2, x3))
theorem c_Z36_bind {R : Type} (F : List D → Int → List D → List D → Option ((Bool × List D × List D × List D × List D) ⊕ (List D × List D))) (x0 : List D) (x1 : Int) (x2 : List D) (x3 : List D) (k : (Bool × List D × List D × List D × List D) ⊕ (List D × List D) → Option R) : c_Z36 F x0 x1 x2 x3 k = (c_Z36 F x0 x1 x2 x3 some).bind k := by
 unfold c_Z36
 repeat' first|exact bnd_tail|exact bnd_none|exact bnd_leaf|apply bnd_ite|apply bnd_cond|apply bnd_sum|(apply bnd_bind;intro _)|intro _
def n_Z36 : Nat → List D → Int → List D → List D → Option ((Bool × List D × List D × List D × List D) ⊕ (List D × List D))
 | 0, _, _, _, _ => none
 | n + 1, x0, x1, x2, x3 => c_Z36 (n_Z36 n) x0 x1 x2 x3 some
noncomputable def Z36 (x0 : List D) (x1 : Int) (x2 : List D) (x3 : List D) : Option ((Bool × List D × List D × List D × List D) ⊕ (List D × List D)) := ev (fun n => n_Z36 n x0 x1 x2 x3)
def m_Z36 (F : List D → Int → List D → List D → Option ((Bool × List D × List D × List D × List D) ⊕ (List D × List D))) : Lent := ⟨8, ⟨(.rd (.struct [.int .i64, .int .i64, .int .i64, .int .i64]) :: uu 8 (.full 1000 [] (.int .i64) :: .full 1001 [] (.bool) :: .int .i64 :: uu 99 ([]))), [(1000, .own (.int .i64)), (1001, .own (.bool))]⟩, [(.ret, ⟨(uu 6 (.full 1000 [] (.int .i64) :: .full 1001 [] (.bool) :: .bool :: .full 1002 [] (.int .i64) :: .full 1003 [] (.bool) :: uu 100 ([]))), [(1000, .own (.int .i64)), (1001, .own (.bool)), (1002, .own (.int .i64)), (1003, .own (.bool))]⟩), (.exit 0, ⟨(uu 9 (.full 1000 [] (.int .i64) :: .full 1001 [] (.bool) :: uu 100 ([]))), [(1000, .own (.int .i64)), (1001, .own (.bool))]⟩)], fun _ ds k => dL (fun x0 ds => dI (fun x1 ds => dL (fun x2 ds => dL (fun x3 ds => dE ((F x0 x1 x2 x3).bind (Sum.elim (fun y => k 0 [.B y.1, .L y.2.1, .L y.2.2.1, .L y.2.2.2.1, .L y.2.2.2.2]) (fun y => k 1 [.L y.1, .L y.2]))) ds) ds) ds) ds) ds⟩
theorem q_Z36 (F : List D → Int → List D → List D → Option ((Bool × List D × List D × List D × List D) ⊕ (List D × List D))) (x0 : List D) (x1 : Int) (x2 : List D) (x3 : List D) : runLoop (ocOf [e_Z22]) (olOf [m_Z36 F]) A 43 (codeAt (bodyOf Try.f43) 8) ((m_Z36 F).sh.mk' [.L x0, .I x1, .L x2, .L x3]) (fun e σ' => some (e, σ')) = c_Z36 F x0 x1 x2 x3 (Sum.elim (fun y => some (.ret, SSt.mk' ⟨(uu 6 (.full 1000 [] (.int .i64) :: .full 1001 [] (.bool) :: .bool :: .full 1002 [] (.int .i64) :: .full 1003 [] (.bool) :: uu 100 ([]))), [(1000, .own (.int .i64)), (1001, .own (.bool)), (1002, .own (.int .i64)), (1003, .own (.bool))]⟩ [.B y.1, .L y.2.1, .L y.2.2.1, .L y.2.2.2.1, .L y.2.2.2.2])) (fun y => some (.exit 0, SSt.mk' ⟨(uu 9 (.full 1000 [] (.int .i64) :: .full 1001 [] (.bool) :: uu 100 ([]))), [(1000, .own (.int .i64)), (1001, .own (.bool))]⟩ [.L y.1, .L y.2]))) := by kernel_rfl
theorem m_Z36_ok : ∀ n, (m_Z36 (n_Z36 n)).ok Try.prog (codeAt (bodyOf Try.f43) 8) := by
 intro n
 induction n with
 | zero =>
  intro R ds k r h
  unfold m_Z36 at h
  obtain ⟨x0, d0, rfl, h0⟩ := dL_some h
  obtain ⟨x1, d1, rfl, h1⟩ := dI_some h0
  obtain ⟨x2, d2, rfl, h2⟩ := dL_some h1
  obtain ⟨x3, d3, rfl, h3⟩ := dL_some h2
  obtain ⟨rfl, hE⟩ := dE_some h3
  obtain ⟨y, hy, hk⟩ := bnd_some hE
  cases hy
 | succ n ih =>
  intro R ds k r h
  unfold m_Z36 at h
  obtain ⟨x0, d0, rfl, h0⟩ := dL_some h
  obtain ⟨x1, d1, rfl, h1⟩ := dI_some h0
  obtain ⟨x2, d2, rfl, h2⟩ := dL_some h1
  obtain ⟨x3, d3, rfl, h3⟩ := dL_some h2
  obtain ⟨rfl, hE⟩ := dE_some h3
  obtain ⟨y, hy, hk⟩ := bnd_some hE
  have hq := q_Z36 (n_Z36 n) x0 x1 x2 x3
  rw [c_Z36_bind] at hq
  rw [show c_Z36 (n_Z36 n) x0 x1 x2 x3 some = some y from hy] at hq
  cases y with
  | inl y =>
   refine ⟨0, _, _, _, hk, rfl, loop_ok px (fx := ⟨Try.func43, by kernel_rfl, by kernel_rfl⟩) (entsOK_cons e_Z22_ok entsOK_nil) (lentsOK_cons ih lentsOK_nil) (by kernel_rfl) ?_⟩
   exact hq
  | inr y =>
   refine ⟨1, _, _, _, hk, rfl, loop_ok px (fx := ⟨Try.func43, by kernel_rfl, by kernel_rfl⟩) (entsOK_cons e_Z22_ok entsOK_nil) (lentsOK_cons ih lentsOK_nil) (by kernel_rfl) ?_⟩
   exact hq
noncomputable def e_Z36 : Lent := m_Z36 (Z36)
theorem e_Z36_ok : (e_Z36).ok Try.prog (codeAt (bodyOf Try.f43) 8) := by
 intro R ds k r h
 unfold e_Z36 m_Z36 at h
 obtain ⟨x0, d0, rfl, h0⟩ := dL_some h
 obtain ⟨x1, d1, rfl, h1⟩ := dI_some h0
 obtain ⟨x2, d2, rfl, h2⟩ := dL_some h1
 obtain ⟨x3, d3, rfl, h3⟩ := dL_some h2
 obtain ⟨rfl, hE⟩ := dE_some h3
 obtain ⟨y, hy, hk⟩ := bnd_some hE
 obtain ⟨n, hn⟩ := ev_some hy
 exact m_Z36_ok n R _ k r (show (n_Z36 n x0 x1 x2 x3).bind _ = _ by rw [hn]; exact hk)

/-!-/
def c_Z37 {R : Type} (x0 : List D) (x1 : Int) (x2 : Int) (k : List D × List D × Bool → Option R) : Option R :=
 (Z24 x0 x1).bind (fun y0 =>
 bif !y0 then
 k ([], [], Bool.false)
 else
 (Z22 x2 (-1000000 : Int) (1000000 : Int)).bind (fun y1 =>
 bif !y1 then
 k ([], [], Bool.false)
 else
 if 0 ≤ x1 ∧ x1 ≤ x1 ∧ x1 ≤ (4294967296 : Int) then
 if 0 ≤ x1 ∧ x1 ≤ x1 ∧ x1 ≤ (4294967296 : Int) then
 if (0 : Int) ≤ (0 : Int) ∧ (0 : Int) < (↑(List.replicate x1.toNat (D.int 0)).length : Int) then
 if Int.toNat (0 : Int) + (1 : Nat) ≤ (List.replicate x1.toNat (D.int 0)).length then
 if (0 : Int) ≤ (0 : Int) ∧ (0 : Int) < (↑(List.replicate x1.toNat (D.bool Bool.false)).length : Int) then
 if Int.toNat (0 : Int) + (1 : Nat) ≤ (List.replicate x1.toNat (D.bool Bool.false)).length then
 (Z36 x0 (0 : Int) ((List.replicate x1.toNat (D.int 0)).set (Int.toNat (0 : Int)) (D.int x2)) ((List.replicate x1.toNat (D.bool Bool.false)).set (Int.toNat (0 : Int)) (D.bool Bool.true))).bind (Sum.elim (fun y2 =>
 k (y2.snd.fst, y2.snd.snd.fst, y2.fst)) (fun y3 =>
 k (y3.fst, y3.snd, Bool.true)))
 else
 none
 else
 none
 else
 none
 else
 none
 else
 none
 else
 none))
theorem c_Z37_bind {R : Type} (x0 : List D) (x1 : Int) (x2 : Int) (k : List D × List D × Bool → Option R) : c_Z37 x0 x1 x2 k = (c_Z37 x0 x1 x2 some).bind k := by
 unfold c_Z37
 repeat' first|exact bnd_tail|exact bnd_none|exact bnd_leaf|apply bnd_ite|apply bnd_cond|apply bnd_sum|(apply bnd_bind;intro _)|intro _
def Z37 (x0 : List D) (x1 : Int) (x2 : Int) : Option (List D × List D × Bool) := c_Z37 x0 x1 x2 some
def e_Z37 : Ent := ⟨43, [.rd (.struct [.int .i64, .int .i64, .int .i64, .int .i64]), .int .i64, .int .i64], .tup [.own (.int .i64), .own (.bool), .bool], [.undef, .undef, .undef], fun _ ds k => dL (fun x0 ds => dI (fun x1 ds => dI (fun x2 ds => dE ((Z37 x0 x1 x2).bind (fun y => k [.L y.1, .L y.2.1, .B y.2.2])) ds) ds) ds) ds⟩
theorem q_Z37 (x0 : List D) (x1 : Int) (x2 : Int) : runFn (ocOf [e_Z24, e_Z22]) (olOf [e_Z36]) A 43 Try.f43 (Sh.mks e_Z37.sh [.L x0, .I x1, .I x2]).1 (fun v os => some (v, os)) = c_Z37 x0 x1 x2 (fun y => some ((e_Z37.res.mk [.L y.1, .L y.2.1, .B y.2.2]).1, (Sh.mks e_Z37.outs (e_Z37.res.mk [.L y.1, .L y.2.1, .B y.2.2]).2).1)) := by kernel_rfl
theorem e_Z37_ok : e_Z37.ok Try.prog A := by
 intro R ds k r h
 unfold e_Z37 at h
 obtain ⟨x0, d0, rfl, h0⟩ := dL_some h
 obtain ⟨x1, d1, rfl, h1⟩ := dI_some h0
 obtain ⟨x2, d2, rfl, h2⟩ := dI_some h1
 obtain ⟨rfl, hE⟩ := dE_some h2
 obtain ⟨y, hy, hk⟩ := bnd_some hE
 refine ⟨_, hk, fn_ok px (fx := ⟨Try.func43, by kernel_rfl, by kernel_rfl⟩) (entsOK_cons e_Z24_ok (entsOK_cons e_Z22_ok entsOK_nil)) (lentsOK_cons e_Z36_ok lentsOK_nil) ?_⟩
 have hq := q_Z37 x0 x1 x2
 rw [c_Z37_bind] at hq
 rw [show c_Z37 x0 x1 x2 some = some y from hy] at hq
 exact hq

/-!-/
def c_Z38 {R : Type} (F : List D → List D → Int → Option ((Bool) ⊕ (Unit))) (x0 : List D) (x1 : List D) (x2 : Int) (k : (Bool) ⊕ (Unit) → Option R) : Option R :=
 bif decide (x2 < (↑x0.length : Int)) then
 if 0 ≤ x2 ∧ x2 < (↑x0.length : Int) then
 if 0 ≤ x2 ∧ x2 < (↑x1.length : Int) then
 bif !decide ((x0.getD x2.toNat (D.int 0)).toInt = (x1.getD x2.toNat (D.int 0)).toInt) then
 k (.inl Bool.false)
 else
 (F x0 x1 (IntKind.i64.wrap (x2 + 1))).bind k
 else
 none
 else
 none
 else
 k (.inr ())
theorem c_Z38_bind {R : Type} (F : List D → List D → Int → Option ((Bool) ⊕ (Unit))) (x0 : List D) (x1 : List D) (x2 : Int) (k : (Bool) ⊕ (Unit) → Option R) : c_Z38 F x0 x1 x2 k = (c_Z38 F x0 x1 x2 some).bind k := by
 unfold c_Z38
 repeat' first|exact bnd_tail|exact bnd_none|exact bnd_leaf|apply bnd_ite|apply bnd_cond|apply bnd_sum|(apply bnd_bind;intro _)|intro _
def n_Z38 : Nat → List D → List D → Int → Option ((Bool) ⊕ (Unit))
 | 0, _, _, _ => none
 | n + 1, x0, x1, x2 => c_Z38 (n_Z38 n) x0 x1 x2 some
noncomputable def Z38 (x0 : List D) (x1 : List D) (x2 : Int) : Option ((Bool) ⊕ (Unit)) := ev (fun n => n_Z38 n x0 x1 x2)
def m_Z38 (F : List D → List D → Int → Option ((Bool) ⊕ (Unit))) : Lent := ⟨4, ⟨(.rd (.int .i64) :: .rd (.int .i64) :: .undef :: .undef :: .undef :: .int .i64 :: uu 20 ([])), []⟩, [(.ret, ⟨(uu 4 (.bool :: uu 21 ([]))), []⟩), (.exit 0, ⟨(uu 26 ([])), []⟩)], fun _ ds k => dL (fun x0 ds => dL (fun x1 ds => dI (fun x2 ds => dE ((F x0 x1 x2).bind (Sum.elim (fun y => k 0 [.B y]) (fun y => k 1 []))) ds) ds) ds) ds⟩
theorem q_Z38 (F : List D → List D → Int → Option ((Bool) ⊕ (Unit))) (x0 : List D) (x1 : List D) (x2 : Int) : runLoop (ocOf []) (olOf [m_Z38 F]) A 55 (codeAt (bodyOf Try.f55) 4) ((m_Z38 F).sh.mk' [.L x0, .L x1, .I x2]) (fun e σ' => some (e, σ')) = c_Z38 F x0 x1 x2 (Sum.elim (fun y => some (.ret, SSt.mk' ⟨(uu 4 (.bool :: uu 21 ([]))), []⟩ [.B y])) (fun y => some (.exit 0, SSt.mk' ⟨(uu 26 ([])), []⟩ []))) := by kernel_rfl
theorem m_Z38_ok : ∀ n, (m_Z38 (n_Z38 n)).ok Try.prog (codeAt (bodyOf Try.f55) 4) := by
 intro n
 induction n with
 | zero =>
  intro R ds k r h
  unfold m_Z38 at h
  obtain ⟨x0, d0, rfl, h0⟩ := dL_some h
  obtain ⟨x1, d1, rfl, h1⟩ := dL_some h0
  obtain ⟨x2, d2, rfl, h2⟩ := dI_some h1
  obtain ⟨rfl, hE⟩ := dE_some h2
  obtain ⟨y, hy, hk⟩ := bnd_some hE
  cases hy
 | succ n ih =>
  intro R ds k r h
  unfold m_Z38 at h
  obtain ⟨x0, d0, rfl, h0⟩ := dL_some h
  obtain ⟨x1, d1, rfl, h1⟩ := dL_some h0
  obtain ⟨x2, d2, rfl, h2⟩ := dI_some h1
  obtain ⟨rfl, hE⟩ := dE_some h2
  obtain ⟨y, hy, hk⟩ := bnd_some hE
  have hq := q_Z38 (n_Z38 n) x0 x1 x2
  rw [c_Z38_bind] at hq
  rw [show c_Z38 (n_Z38 n) x0 x1 x2 some = some y from hy] at hq
  cases y with
  | inl y =>
   refine ⟨0, _, _, _, hk, rfl, loop_ok px (fx := ⟨Try.func55, by kernel_rfl, by kernel_rfl⟩) entsOK_nil (lentsOK_cons ih lentsOK_nil) (by kernel_rfl) ?_⟩
   exact hq
  | inr y =>
   refine ⟨1, _, _, _, hk, rfl, loop_ok px (fx := ⟨Try.func55, by kernel_rfl, by kernel_rfl⟩) entsOK_nil (lentsOK_cons ih lentsOK_nil) (by kernel_rfl) ?_⟩
   exact hq
noncomputable def e_Z38 : Lent := m_Z38 (Z38)
theorem e_Z38_ok : (e_Z38).ok Try.prog (codeAt (bodyOf Try.f55) 4) := by
 intro R ds k r h
 unfold e_Z38 m_Z38 at h
 obtain ⟨x0, d0, rfl, h0⟩ := dL_some h
 obtain ⟨x1, d1, rfl, h1⟩ := dL_some h0
 obtain ⟨x2, d2, rfl, h2⟩ := dI_some h1
 obtain ⟨rfl, hE⟩ := dE_some h2
 obtain ⟨y, hy, hk⟩ := bnd_some hE
 obtain ⟨n, hn⟩ := ev_some hy
 exact m_Z38_ok n R _ k r (show (n_Z38 n x0 x1 x2).bind _ = _ by rw [hn]; exact hk)

/-!-/
def c_Z39 {R : Type} (x0 : List D) (x1 : List D) (k : Bool → Option R) : Option R :=
 bif !decide ((↑x0.length : Int) = (↑x1.length : Int)) then
 k Bool.false
 else
 (Z38 x0 x1 (0 : Int)).bind (Sum.elim (fun y0 =>
 k y0) (fun y1 =>
 k Bool.true))
theorem c_Z39_bind {R : Type} (x0 : List D) (x1 : List D) (k : Bool → Option R) : c_Z39 x0 x1 k = (c_Z39 x0 x1 some).bind k := by
 unfold c_Z39
 repeat' first|exact bnd_tail|exact bnd_none|exact bnd_leaf|apply bnd_ite|apply bnd_cond|apply bnd_sum|(apply bnd_bind;intro _)|intro _
def Z39 (x0 : List D) (x1 : List D) : Option (Bool) := c_Z39 x0 x1 some
def e_Z39 : Ent := ⟨55, [.rd (.int .i64), .rd (.int .i64)], .bool, [.undef, .undef], fun _ ds k => dL (fun x0 ds => dL (fun x1 ds => dE ((Z39 x0 x1).bind (fun y => k [.B y])) ds) ds) ds⟩
theorem q_Z39 (x0 : List D) (x1 : List D) : runFn (ocOf []) (olOf [e_Z38]) A 55 Try.f55 (Sh.mks e_Z39.sh [.L x0, .L x1]).1 (fun v os => some (v, os)) = c_Z39 x0 x1 (fun y => some ((e_Z39.res.mk [.B y]).1, (Sh.mks e_Z39.outs (e_Z39.res.mk [.B y]).2).1)) := by kernel_rfl
theorem e_Z39_ok : e_Z39.ok Try.prog A := by
 intro R ds k r h
 unfold e_Z39 at h
 obtain ⟨x0, d0, rfl, h0⟩ := dL_some h
 obtain ⟨x1, d1, rfl, h1⟩ := dL_some h0
 obtain ⟨rfl, hE⟩ := dE_some h1
 obtain ⟨y, hy, hk⟩ := bnd_some hE
 refine ⟨_, hk, fn_ok px (fx := ⟨Try.func55, by kernel_rfl, by kernel_rfl⟩) entsOK_nil (lentsOK_cons e_Z38_ok lentsOK_nil) ?_⟩
 have hq := q_Z39 x0 x1
 rw [c_Z39_bind] at hq
 rw [show c_Z39 x0 x1 some = some y from hy] at hq
 exact hq

/-!-/
def c_Z40 {R : Type} (F : Int → List D → List D → Option ((Bool) ⊕ (Unit))) (x0 : Int) (x1 : List D) (x2 : List D) (k : (Bool) ⊕ (Unit) → Option R) : Option R :=
 bif decide (x0 < (↑x1.length : Int)) then
 if 0 ≤ x0 ∧ x0 < (↑x1.length : Int) then
 if x0.toNat + 1 ≤ x1.length then
 if x0.toNat + 1 ≤ x1.length then
 if (0 : Int) ≤ ((x1.getD x0.toNat (D.int 0)).fld (0 : Nat)).toInt ∧ ((x1.getD x0.toNat (D.int 0)).fld (0 : Nat)).toInt < (↑x2.length : Int) then
 if ((x1.getD x0.toNat (D.int 0)).fld (0 : Nat)).toInt.toNat + 1 ≤ x2.length then
 if 0 ≤ x0 ∧ x0 < (↑x1.length : Int) then
 if x0.toNat + 1 ≤ x1.length then
 if x0.toNat + 1 ≤ x1.length then
 if (0 : Int) ≤ ((x1.getD x0.toNat (D.int 0)).fld (1 : Nat)).toInt ∧ ((x1.getD x0.toNat (D.int 0)).fld (1 : Nat)).toInt < (↑x2.length : Int) then
 if ((x1.getD x0.toNat (D.int 0)).fld (1 : Nat)).toInt.toNat + 1 ≤ x2.length then
 bif !(x2.getD ((x1.getD x0.toNat (D.int 0)).fld (0 : Nat)).toInt.toNat (D.int 0)).toBool == (x2.getD ((x1.getD x0.toNat (D.int 0)).fld (1 : Nat)).toInt.toNat (D.int 0)).toBool then
 k (.inl Bool.false)
 else
 (F (IntKind.i64.wrap (x0 + 1)) x1 x2).bind k
 else
 none
 else
 none
 else
 none
 else
 none
 else
 none
 else
 none
 else
 none
 else
 none
 else
 none
 else
 none
 else
 k (.inr ())
theorem c_Z40_bind {R : Type} (F : Int → List D → List D → Option ((Bool) ⊕ (Unit))) (x0 : Int) (x1 : List D) (x2 : List D) (k : (Bool) ⊕ (Unit) → Option R) : c_Z40 F x0 x1 x2 k = (c_Z40 F x0 x1 x2 some).bind k := by
 unfold c_Z40
 repeat' first|exact bnd_tail|exact bnd_none|exact bnd_leaf|apply bnd_ite|apply bnd_cond|apply bnd_sum|(apply bnd_bind;intro _)|intro _
def n_Z40 : Nat → Int → List D → List D → Option ((Bool) ⊕ (Unit))
 | 0, _, _, _ => none
 | n + 1, x0, x1, x2 => c_Z40 (n_Z40 n) x0 x1 x2 some
noncomputable def Z40 (x0 : Int) (x1 : List D) (x2 : List D) : Option ((Bool) ⊕ (Unit)) := ev (fun n => n_Z40 n x0 x1 x2)
def m_Z40 (F : Int → List D → List D → Option ((Bool) ⊕ (Unit))) : Lent := ⟨18, ⟨(uu 10 (.full 1000 [] (.struct [.int .i64, .int .i64, .int .i64, .int .i64]) :: .undef :: .undef :: .undef :: .full 1001 [] (.bool) :: uu 4 (.int .i64 :: uu 123 ([])))), [(1000, .own (.struct [.int .i64, .int .i64, .int .i64, .int .i64])), (1001, .own (.bool))]⟩, [(.ret, ⟨(.undef :: .undef :: .bool :: uu 140 ([])), []⟩), (.exit 0, ⟨(uu 143 ([])), []⟩)], fun _ ds k => dI (fun x0 ds => dL (fun x1 ds => dL (fun x2 ds => dE ((F x0 x1 x2).bind (Sum.elim (fun y => k 0 [.B y]) (fun y => k 1 []))) ds) ds) ds) ds⟩
theorem q_Z40 (F : Int → List D → List D → Option ((Bool) ⊕ (Unit))) (x0 : Int) (x1 : List D) (x2 : List D) : runLoop (ocOf []) (olOf [m_Z40 F]) A 10 (codeAt (bodyOf Try.f10) 18) ((m_Z40 F).sh.mk' [.I x0, .L x1, .L x2]) (fun e σ' => some (e, σ')) = c_Z40 F x0 x1 x2 (Sum.elim (fun y => some (.ret, SSt.mk' ⟨(.undef :: .undef :: .bool :: uu 140 ([])), []⟩ [.B y])) (fun y => some (.exit 0, SSt.mk' ⟨(uu 143 ([])), []⟩ []))) := by kernel_rfl
theorem m_Z40_ok : ∀ n, (m_Z40 (n_Z40 n)).ok Try.prog (codeAt (bodyOf Try.f10) 18) := by
 intro n
 induction n with
 | zero =>
  intro R ds k r h
  unfold m_Z40 at h
  obtain ⟨x0, d0, rfl, h0⟩ := dI_some h
  obtain ⟨x1, d1, rfl, h1⟩ := dL_some h0
  obtain ⟨x2, d2, rfl, h2⟩ := dL_some h1
  obtain ⟨rfl, hE⟩ := dE_some h2
  obtain ⟨y, hy, hk⟩ := bnd_some hE
  cases hy
 | succ n ih =>
  intro R ds k r h
  unfold m_Z40 at h
  obtain ⟨x0, d0, rfl, h0⟩ := dI_some h
  obtain ⟨x1, d1, rfl, h1⟩ := dL_some h0
  obtain ⟨x2, d2, rfl, h2⟩ := dL_some h1
  obtain ⟨rfl, hE⟩ := dE_some h2
  obtain ⟨y, hy, hk⟩ := bnd_some hE
  have hq := q_Z40 (n_Z40 n) x0 x1 x2
  rw [c_Z40_bind] at hq
  rw [show c_Z40 (n_Z40 n) x0 x1 x2 some = some y from hy] at hq
  cases y with
  | inl y =>
   refine ⟨0, _, _, _, hk, rfl, loop_ok px (fx := ⟨Try.func10, by kernel_rfl, by kernel_rfl⟩) entsOK_nil (lentsOK_cons ih lentsOK_nil) (by kernel_rfl) ?_⟩
   exact hq
  | inr y =>
   refine ⟨1, _, _, _, hk, rfl, loop_ok px (fx := ⟨Try.func10, by kernel_rfl, by kernel_rfl⟩) entsOK_nil (lentsOK_cons ih lentsOK_nil) (by kernel_rfl) ?_⟩
   exact hq
noncomputable def e_Z40 : Lent := m_Z40 (Z40)
theorem e_Z40_ok : (e_Z40).ok Try.prog (codeAt (bodyOf Try.f10) 18) := by
 intro R ds k r h
 unfold e_Z40 m_Z40 at h
 obtain ⟨x0, d0, rfl, h0⟩ := dI_some h
 obtain ⟨x1, d1, rfl, h1⟩ := dL_some h0
 obtain ⟨x2, d2, rfl, h2⟩ := dL_some h1
 obtain ⟨rfl, hE⟩ := dE_some h2
 obtain ⟨y, hy, hk⟩ := bnd_some hE
 obtain ⟨n, hn⟩ := ev_some hy
 exact m_Z40_ok n R _ k r (show (n_Z40 n x0 x1 x2).bind _ = _ by rw [hn]; exact hk)

/-!-/
def c_Z41 {R : Type} (x0 : List D) (k : Bool → Option R) : Option R :=
 (Z0 x0).bind (fun y0 =>
 bif y0 then
 k Bool.true
 else
 (Z10 x0).bind (fun y1 =>
 (Z21 y1.fst y1.snd.fst y1.snd.snd).bind (fun y2 =>
 (Z28 y1.fst y1.snd.fst y1.snd.snd).bind (fun y3 =>
 bif !decide (y2.fst = y3.fst) then
 k Bool.false
 else
 bif !y2.snd == y3.snd then
 k Bool.false
 else
 bif y2.snd then
 bif decide ((↑y1.snd.snd.length : Int) = (2 : Int)) then
 bif !decide (y2.fst = (0 : Int)) then
 k Bool.false
 else
 (Z29 x0).bind (fun y4 =>
 (Z35 y4.fst y4.snd.fst y4.snd.snd).bind (fun y5 =>
 (Z37 y4.fst y4.snd.fst y4.snd.snd).bind (fun y6 =>
 bif !y5.snd.snd == y6.snd.snd then
 bif y5.snd.snd == y6.snd.snd then
 (Z39 y5.fst y6.fst).bind (fun y7 =>
 k y7)
 else
 k Bool.false
 else
 (Z39 y5.fst y6.fst).bind (fun y8 =>
 bif !y8 then
 bif y5.snd.snd == y6.snd.snd then
 (Z39 y5.fst y6.fst).bind (fun y9 =>
 k y9)
 else
 k Bool.false
 else
 bif !y5.snd.snd then
 bif y5.snd.snd == y6.snd.snd then
 (Z39 y5.fst y6.fst).bind (fun y10 =>
 k y10)
 else
 k Bool.false
 else
 if (0 : Int) ≤ (0 : Int) ∧ (0 : Int) < (↑y5.fst.length : Int) then
 if Int.toNat (0 : Int) + (1 : Nat) ≤ y5.fst.length then
 bif !decide ((y5.fst.getD (Int.toNat (0 : Int)) (D.int 0)).toInt = y4.snd.snd) then
 k Bool.false
 else
 if (0 : Int) ≤ (0 : Int) ∧ (0 : Int) < (↑y5.snd.fst.length : Int) then
 if Int.toNat (0 : Int) + (1 : Nat) ≤ y5.snd.fst.length then
 bif !(y5.snd.fst.getD (Int.toNat (0 : Int)) (D.int 0)).toBool then
 k Bool.false
 else
 bif !decide ((↑y5.snd.fst.length : Int) = y4.snd.fst) then
 k Bool.false
 else
 (Z40 (0 : Int) y4.fst y5.snd.fst).bind (Sum.elim (fun y11 =>
 k y11) (fun y12 =>
 k Bool.true))
 else
 none
 else
 none
 else
 none
 else
 none))))
 else
 (Z29 x0).bind (fun y13 =>
 (Z35 y13.fst y13.snd.fst y13.snd.snd).bind (fun y14 =>
 (Z37 y13.fst y13.snd.fst y13.snd.snd).bind (fun y15 =>
 bif !y14.snd.snd == y15.snd.snd then
 bif y14.snd.snd == y15.snd.snd then
 (Z39 y14.fst y15.fst).bind (fun y16 =>
 k y16)
 else
 k Bool.false
 else
 (Z39 y14.fst y15.fst).bind (fun y17 =>
 bif !y17 then
 bif y14.snd.snd == y15.snd.snd then
 (Z39 y14.fst y15.fst).bind (fun y18 =>
 k y18)
 else
 k Bool.false
 else
 bif !y14.snd.snd then
 bif y14.snd.snd == y15.snd.snd then
 (Z39 y14.fst y15.fst).bind (fun y19 =>
 k y19)
 else
 k Bool.false
 else
 if (0 : Int) ≤ (0 : Int) ∧ (0 : Int) < (↑y14.fst.length : Int) then
 if Int.toNat (0 : Int) + (1 : Nat) ≤ y14.fst.length then
 bif !decide ((y14.fst.getD (Int.toNat (0 : Int)) (D.int 0)).toInt = y13.snd.snd) then
 k Bool.false
 else
 if (0 : Int) ≤ (0 : Int) ∧ (0 : Int) < (↑y14.snd.fst.length : Int) then
 if Int.toNat (0 : Int) + (1 : Nat) ≤ y14.snd.fst.length then
 bif !(y14.snd.fst.getD (Int.toNat (0 : Int)) (D.int 0)).toBool then
 k Bool.false
 else
 bif !decide ((↑y14.snd.fst.length : Int) = y13.snd.fst) then
 k Bool.false
 else
 (Z40 (0 : Int) y13.fst y14.snd.fst).bind (Sum.elim (fun y20 =>
 k y20) (fun y21 =>
 k Bool.true))
 else
 none
 else
 none
 else
 none
 else
 none))))
 else
 (Z29 x0).bind (fun y22 =>
 (Z35 y22.fst y22.snd.fst y22.snd.snd).bind (fun y23 =>
 (Z37 y22.fst y22.snd.fst y22.snd.snd).bind (fun y24 =>
 bif !y23.snd.snd == y24.snd.snd then
 bif y23.snd.snd == y24.snd.snd then
 (Z39 y23.fst y24.fst).bind (fun y25 =>
 k y25)
 else
 k Bool.false
 else
 (Z39 y23.fst y24.fst).bind (fun y26 =>
 bif !y26 then
 bif y23.snd.snd == y24.snd.snd then
 (Z39 y23.fst y24.fst).bind (fun y27 =>
 k y27)
 else
 k Bool.false
 else
 bif !y23.snd.snd then
 bif y23.snd.snd == y24.snd.snd then
 (Z39 y23.fst y24.fst).bind (fun y28 =>
 k y28)
 else
 k Bool.false
 else
 if (0 : Int) ≤ (0 : Int) ∧ (0 : Int) < (↑y23.fst.length : Int) then
 if Int.toNat (0 : Int) + (1 : Nat) ≤ y23.fst.length then
 bif !decide ((y23.fst.getD (Int.toNat (0 : Int)) (D.int 0)).toInt = y22.snd.snd) then
 k Bool.false
 else
 if (0 : Int) ≤ (0 : Int) ∧ (0 : Int) < (↑y23.snd.fst.length : Int) then
 if Int.toNat (0 : Int) + (1 : Nat) ≤ y23.snd.fst.length then
 bif !(y23.snd.fst.getD (Int.toNat (0 : Int)) (D.int 0)).toBool then
 k Bool.false
 else
 bif !decide ((↑y23.snd.fst.length : Int) = y22.snd.fst) then
 k Bool.false
 else
 (Z40 (0 : Int) y22.fst y23.snd.fst).bind (Sum.elim (fun y29 =>
 k y29) (fun y30 =>
 k Bool.true))
 else
 none
 else
 none
 else
 none
 else
 none))))))))
theorem c_Z41_bind {R : Type} (x0 : List D) (k : Bool → Option R) : c_Z41 x0 k = (c_Z41 x0 some).bind k := by
 unfold c_Z41
 repeat' first|exact bnd_tail|exact bnd_none|exact bnd_leaf|apply bnd_ite|apply bnd_cond|apply bnd_sum|(apply bnd_bind;intro _)|intro _
def Z41 (x0 : List D) : Option (Bool) := c_Z41 x0 some
def e_Z41 : Ent := ⟨10, [.rd (.int .u8)], .bool, [.undef], fun _ ds k => dL (fun x0 ds => dE ((Z41 x0).bind (fun y => k [.B y])) ds) ds⟩
theorem q_Z41 (x0 : List D) : runFn (ocOf [e_Z0, e_Z10, e_Z21, e_Z28, e_Z29, e_Z35, e_Z37, e_Z39]) (olOf [e_Z40]) A 10 Try.f10 (Sh.mks e_Z41.sh [.L x0]).1 (fun v os => some (v, os)) = c_Z41 x0 (fun y => some ((e_Z41.res.mk [.B y]).1, (Sh.mks e_Z41.outs (e_Z41.res.mk [.B y]).2).1)) := by kernel_rfl
theorem e_Z41_ok : e_Z41.ok Try.prog A := by
 intro R ds k r h
 unfold e_Z41 at h
 obtain ⟨x0, d0, rfl, h0⟩ := dL_some h
 obtain ⟨rfl, hE⟩ := dE_some h0
 obtain ⟨y, hy, hk⟩ := bnd_some hE
 refine ⟨_, hk, fn_ok px (fx := ⟨Try.func10, by kernel_rfl, by kernel_rfl⟩) (entsOK_cons e_Z0_ok (entsOK_cons e_Z10_ok (entsOK_cons e_Z21_ok (entsOK_cons e_Z28_ok (entsOK_cons e_Z29_ok (entsOK_cons e_Z35_ok (entsOK_cons e_Z37_ok (entsOK_cons e_Z39_ok entsOK_nil)))))))) (lentsOK_cons e_Z40_ok lentsOK_nil) ?_⟩
 have hq := q_Z41 x0
 rw [c_Z41_bind] at hq
 rw [show c_Z41 x0 some = some y from hy] at hq
 exact hq
end
end Go.Proofs.Yticcpkmednijlaa
