/- Models of Go functions and their contracts, printed by a program of this session. -/
import Derived.Test.YtpigfmlahmapaaaClA
set_option linter.unusedVariables false
set_option maxRecDepth 100000
namespace Go.Proofs.Ytpigfmlahmapaaa
open Go Go.Rai
noncomputable section
/-!-/
def c_Z0 {R : Type} (x0 : List D) (k : Bool → Option R) : Option R :=
 k (decide ((65536 : Int) < (↑x0.length : Int)))
theorem c_Z0_bind {R : Type} (x0 : List D) (k : Bool → Option R) : c_Z0 x0 k = (c_Z0 x0 some).bind k := by
 unfold c_Z0
 repeat' first|exact bnd_tail|exact bnd_none|exact bnd_leaf|apply bnd_ite|apply bnd_cond|apply bnd_sum|(apply bnd_bind;intro _)|intro _
def Z0 (x0 : List D) : Option (Bool) := c_Z0 x0 some
def e_Z0 : Ent := ⟨11, [.rd (.int .u8)], .bool, [.undef], fun _ ds k => dL (fun x0 ds => dE ((Z0 x0).bind (fun y => k [.B y])) ds) ds⟩
theorem q_Z0 (x0 : List D) : runFn (ocOf []) (olOf []) A 11 Try.f11 (Sh.mks e_Z0.sh [.L x0]).1 (fun v os => some (v, os)) = c_Z0 x0 (fun y => some ((e_Z0.res.mk [.B y]).1, (Sh.mks e_Z0.outs (e_Z0.res.mk [.B y]).2).1)) := by kernel_rfl
theorem e_Z0_ok : e_Z0.ok Try.prog A := by
 intro R ds k r h
 unfold e_Z0 at h
 obtain ⟨x0, d0, rfl, h0⟩ := dL_some h
 obtain ⟨rfl, hE⟩ := dE_some h0
 obtain ⟨y, hy, hk⟩ := bnd_some hE
 refine ⟨_, hk, fn_ok px (fx := ⟨Try.func11, by kernel_rfl, by kernel_rfl⟩) entsOK_nil lentsOK_nil ?_⟩
 have hq := q_Z0 x0
 rw [c_Z0_bind] at hq
 rw [show c_Z0 x0 some = some y from hy] at hq
 exact hq

/-!-/
def c_Z1 {R : Type} (x0 : List D) (x1 : Int) (x2 : Int) (k : Int × List D × Int × Int → Option R) : Option R :=
 bif decide (x1 < (↑x0.length : Int)) then
 if 0 ≤ x1 ∧ x1 < (↑x0.length : Int) then
 bif decide (IntKind.i64.wrap (x1 + 1) ≤ (↑x0.length : Int)) then
 k (IntKind.i64.wrap (x0.getD x1.toNat (D.int 0)).toInt, x0, IntKind.i64.wrap (x1 + 1), IntKind.u64.wrap (IntKind.u64.wrap (IntKind.u64.wrap (x2 * (6364136223846793005 : Int)) + IntKind.u64.wrap (IntKind.i64.wrap (x0.getD x1.toNat (D.int 0)).toInt)) + (876876 : Int)))
 else
 if (0 : Int) ≤ (40 : Int) then
 k (IntKind.i64.wrap (IntKind.u64.wrap (↑(BitVec.ofInt IntKind.u64.bits ((IntKind.u64.wrap (IntKind.u64.wrap (IntKind.u64.wrap (x2 * (6364136223846793005 : Int)) + IntKind.u64.wrap (IntKind.i64.wrap (x0.getD x1.toNat (D.int 0)).toInt)) + (876876 : Int))).fdiv ((2 : Int) ^ Min.min (Int.toNat (40 : Int)) IntKind.u64.bits)) &&& BitVec.ofInt IntKind.u64.bits (255 : Int)).toNat : Int)), x0, IntKind.i64.wrap (x1 + 1), IntKind.u64.wrap (IntKind.u64.wrap (IntKind.u64.wrap (x2 * (6364136223846793005 : Int)) + IntKind.u64.wrap (IntKind.i64.wrap (x0.getD x1.toNat (D.int 0)).toInt)) + (876876 : Int)))
 else
 none
 else
 none
 else
 bif decide (IntKind.i64.wrap (x1 + 1) ≤ (↑x0.length : Int)) then
 k ((0 : Int), x0, IntKind.i64.wrap (x1 + 1), IntKind.u64.wrap (IntKind.u64.wrap (IntKind.u64.wrap (x2 * (6364136223846793005 : Int)) + IntKind.u64.wrap (0 : Int)) + (876876 : Int)))
 else
 if (0 : Int) ≤ (40 : Int) then
 k (IntKind.i64.wrap (IntKind.u64.wrap (↑(BitVec.ofInt IntKind.u64.bits ((IntKind.u64.wrap (IntKind.u64.wrap (IntKind.u64.wrap (x2 * (6364136223846793005 : Int)) + IntKind.u64.wrap (0 : Int)) + (876876 : Int))).fdiv ((2 : Int) ^ Min.min (Int.toNat (40 : Int)) IntKind.u64.bits)) &&& BitVec.ofInt IntKind.u64.bits (255 : Int)).toNat : Int)), x0, IntKind.i64.wrap (x1 + 1), IntKind.u64.wrap (IntKind.u64.wrap (IntKind.u64.wrap (x2 * (6364136223846793005 : Int)) + IntKind.u64.wrap (0 : Int)) + (876876 : Int)))
 else
 none
theorem c_Z1_bind {R : Type} (x0 : List D) (x1 : Int) (x2 : Int) (k : Int × List D × Int × Int → Option R) : c_Z1 x0 x1 x2 k = (c_Z1 x0 x1 x2 some).bind k := by
 unfold c_Z1
 repeat' first|exact bnd_tail|exact bnd_none|exact bnd_leaf|apply bnd_ite|apply bnd_cond|apply bnd_sum|(apply bnd_bind;intro _)|intro _
def Z1 (x0 : List D) (x1 : Int) (x2 : Int) : Option (Int × List D × Int × Int) := c_Z1 x0 x1 x2 some
def e_Z1 : Ent := ⟨151, [.obox (.agg [.rd (.int .u8), .int .i64, .int .u64])], .int .i64, [.obox (.agg [.rd (.int .u8), .int .i64, .int .u64])], fun _ ds k => dL (fun x0 ds => dI (fun x1 ds => dI (fun x2 ds => dE ((Z1 x0 x1 x2).bind (fun y => k [.I y.1, .L y.2.1, .I y.2.2.1, .I y.2.2.2])) ds) ds) ds) ds⟩
theorem q_Z1 (x0 : List D) (x1 : Int) (x2 : Int) : runFn (ocOf []) (olOf []) A 151 Try.f151 (Sh.mks e_Z1.sh [.L x0, .I x1, .I x2]).1 (fun v os => some (v, os)) = c_Z1 x0 x1 x2 (fun y => some ((e_Z1.res.mk [.I y.1, .L y.2.1, .I y.2.2.1, .I y.2.2.2]).1, (Sh.mks e_Z1.outs (e_Z1.res.mk [.I y.1, .L y.2.1, .I y.2.2.1, .I y.2.2.2]).2).1)) := by kernel_rfl
theorem e_Z1_ok : e_Z1.ok Try.prog A := by
 intro R ds k r h
 unfold e_Z1 at h
 obtain ⟨x0, d0, rfl, h0⟩ := dL_some h
 obtain ⟨x1, d1, rfl, h1⟩ := dI_some h0
 obtain ⟨x2, d2, rfl, h2⟩ := dI_some h1
 obtain ⟨rfl, hE⟩ := dE_some h2
 obtain ⟨y, hy, hk⟩ := bnd_some hE
 refine ⟨_, hk, fn_ok px (fx := ⟨Try.func151, by kernel_rfl, by kernel_rfl⟩) entsOK_nil lentsOK_nil ?_⟩
 have hq := q_Z1 x0 x1 x2
 rw [c_Z1_bind] at hq
 rw [show c_Z1 x0 x1 x2 some = some y from hy] at hq
 exact hq

/-!-/
def c_Z2 {R : Type} (x0 : List D) (x1 : Int) (x2 : Int) (x3 : Int) (k : Int × List D × Int × Int → Option R) : Option R :=
 bif decide (x3 ≤ (1 : Int)) then
 k ((0 : Int), x0, x1, x2)
 else
 (Z1 x0 x1 x2).bind (fun y0 =>
 bif decide ((200 : Int) < x3) then
 (Z1 y0.snd.fst y0.snd.snd.fst y0.snd.snd.snd).bind (fun y1 =>
 if x3 ≠ (0 : Int) then
 k ((IntKind.i64.wrap (IntKind.i64.wrap (y0.fst * (256 : Int)) + y1.fst)).tmod x3, y1.snd.fst, y1.snd.snd.fst, y1.snd.snd.snd)
 else
 none)
 else
 if x3 ≠ (0 : Int) then
 k (y0.fst.tmod x3, y0.snd.fst, y0.snd.snd.fst, y0.snd.snd.snd)
 else
 none)
theorem c_Z2_bind {R : Type} (x0 : List D) (x1 : Int) (x2 : Int) (x3 : Int) (k : Int × List D × Int × Int → Option R) : c_Z2 x0 x1 x2 x3 k = (c_Z2 x0 x1 x2 x3 some).bind k := by
 unfold c_Z2
 repeat' first|exact bnd_tail|exact bnd_none|exact bnd_leaf|apply bnd_ite|apply bnd_cond|apply bnd_sum|(apply bnd_bind;intro _)|intro _
def Z2 (x0 : List D) (x1 : Int) (x2 : Int) (x3 : Int) : Option (Int × List D × Int × Int) := c_Z2 x0 x1 x2 x3 some
def e_Z2 : Ent := ⟨90, [.obox (.agg [.rd (.int .u8), .int .i64, .int .u64]), .int .i64], .int .i64, [.obox (.agg [.rd (.int .u8), .int .i64, .int .u64]), .undef], fun _ ds k => dL (fun x0 ds => dI (fun x1 ds => dI (fun x2 ds => dI (fun x3 ds => dE ((Z2 x0 x1 x2 x3).bind (fun y => k [.I y.1, .L y.2.1, .I y.2.2.1, .I y.2.2.2])) ds) ds) ds) ds) ds⟩
theorem q_Z2 (x0 : List D) (x1 : Int) (x2 : Int) (x3 : Int) : runFn (ocOf [e_Z1]) (olOf []) A 90 Try.f90 (Sh.mks e_Z2.sh [.L x0, .I x1, .I x2, .I x3]).1 (fun v os => some (v, os)) = c_Z2 x0 x1 x2 x3 (fun y => some ((e_Z2.res.mk [.I y.1, .L y.2.1, .I y.2.2.1, .I y.2.2.2]).1, (Sh.mks e_Z2.outs (e_Z2.res.mk [.I y.1, .L y.2.1, .I y.2.2.1, .I y.2.2.2]).2).1)) := by kernel_rfl
theorem e_Z2_ok : e_Z2.ok Try.prog A := by
 intro R ds k r h
 unfold e_Z2 at h
 obtain ⟨x0, d0, rfl, h0⟩ := dL_some h
 obtain ⟨x1, d1, rfl, h1⟩ := dI_some h0
 obtain ⟨x2, d2, rfl, h2⟩ := dI_some h1
 obtain ⟨x3, d3, rfl, h3⟩ := dI_some h2
 obtain ⟨rfl, hE⟩ := dE_some h3
 obtain ⟨y, hy, hk⟩ := bnd_some hE
 refine ⟨_, hk, fn_ok px (fx := ⟨Try.func90, by kernel_rfl, by kernel_rfl⟩) (entsOK_cons e_Z1_ok entsOK_nil) lentsOK_nil ?_⟩
 have hq := q_Z2 x0 x1 x2 x3
 rw [c_Z2_bind] at hq
 rw [show c_Z2 x0 x1 x2 x3 some = some y from hy] at hq
 exact hq

/-!-/
def c_Z3 {R : Type} (x0 : List D) (x1 : Int) (x2 : Int) (x3 : List D) (k : Int × List D × Int × Int → Option R) : Option R :=
 (Z2 x0 x1 x2 (↑x3.length : Int)).bind (fun y0 =>
 if 0 ≤ y0.fst ∧ y0.fst < (↑x3.length : Int) then
 if y0.fst.toNat + 1 ≤ x3.length then
 k ((x3.getD y0.fst.toNat (D.int 0)).toInt, y0.snd.fst, y0.snd.snd.fst, y0.snd.snd.snd)
 else
 none
 else
 none)
theorem c_Z3_bind {R : Type} (x0 : List D) (x1 : Int) (x2 : Int) (x3 : List D) (k : Int × List D × Int × Int → Option R) : c_Z3 x0 x1 x2 x3 k = (c_Z3 x0 x1 x2 x3 some).bind k := by
 unfold c_Z3
 repeat' first|exact bnd_tail|exact bnd_none|exact bnd_leaf|apply bnd_ite|apply bnd_cond|apply bnd_sum|(apply bnd_bind;intro _)|intro _
def Z3 (x0 : List D) (x1 : Int) (x2 : Int) (x3 : List D) : Option (Int × List D × Int × Int) := c_Z3 x0 x1 x2 x3 some
def e_Z3 : Ent := ⟨74, [.obox (.agg [.rd (.int .u8), .int .i64, .int .u64]), .own (.int .i64)], .int .i64, [.obox (.agg [.rd (.int .u8), .int .i64, .int .u64]), .undef], fun _ ds k => dL (fun x0 ds => dI (fun x1 ds => dI (fun x2 ds => dL (fun x3 ds => dE ((Z3 x0 x1 x2 x3).bind (fun y => k [.I y.1, .L y.2.1, .I y.2.2.1, .I y.2.2.2])) ds) ds) ds) ds) ds⟩
theorem q_Z3 (x0 : List D) (x1 : Int) (x2 : Int) (x3 : List D) : runFn (ocOf [e_Z2]) (olOf []) A 74 Try.f74 (Sh.mks e_Z3.sh [.L x0, .I x1, .I x2, .L x3]).1 (fun v os => some (v, os)) = c_Z3 x0 x1 x2 x3 (fun y => some ((e_Z3.res.mk [.I y.1, .L y.2.1, .I y.2.2.1, .I y.2.2.2]).1, (Sh.mks e_Z3.outs (e_Z3.res.mk [.I y.1, .L y.2.1, .I y.2.2.1, .I y.2.2.2]).2).1)) := by kernel_rfl
theorem e_Z3_ok : e_Z3.ok Try.prog A := by
 intro R ds k r h
 unfold e_Z3 at h
 obtain ⟨x0, d0, rfl, h0⟩ := dL_some h
 obtain ⟨x1, d1, rfl, h1⟩ := dI_some h0
 obtain ⟨x2, d2, rfl, h2⟩ := dI_some h1
 obtain ⟨x3, d3, rfl, h3⟩ := dL_some h2
 obtain ⟨rfl, hE⟩ := dE_some h3
 obtain ⟨y, hy, hk⟩ := bnd_some hE
 refine ⟨_, hk, fn_ok px (fx := ⟨Try.func74, by kernel_rfl, by kernel_rfl⟩) (entsOK_cons e_Z2_ok entsOK_nil) lentsOK_nil ?_⟩
 have hq := q_Z3 x0 x1 x2 x3
 rw [c_Z3_bind] at hq
 rw [show c_Z3 x0 x1 x2 x3 some = some y from hy] at hq
 exact hq

/-!-/
def c_Z4 {R : Type} (x0 : List D) (x1 : Int) (x2 : Int) (k : Int × List D × Int × Int → Option R) : Option R :=
 (Z3 x0 x1 x2 ([D.int (-500 : Int), D.int 0, D.int (100 : Int), D.int (1000 : Int), D.int (-19990 : Int), D.int (2090 : Int), D.int (-3 : Int)])).bind (fun y0 =>
 k (y0.fst, y0.snd.fst, y0.snd.snd.fst, y0.snd.snd.snd))
theorem c_Z4_bind {R : Type} (x0 : List D) (x1 : Int) (x2 : Int) (k : Int × List D × Int × Int → Option R) : c_Z4 x0 x1 x2 k = (c_Z4 x0 x1 x2 some).bind k := by
 unfold c_Z4
 repeat' first|exact bnd_tail|exact bnd_none|exact bnd_leaf|apply bnd_ite|apply bnd_cond|apply bnd_sum|(apply bnd_bind;intro _)|intro _
def Z4 (x0 : List D) (x1 : Int) (x2 : Int) : Option (Int × List D × Int × Int) := c_Z4 x0 x1 x2 some
def e_Z4 : Ent := ⟨91, [.obox (.agg [.rd (.int .u8), .int .i64, .int .u64])], .int .i64, [.obox (.agg [.rd (.int .u8), .int .i64, .int .u64])], fun _ ds k => dL (fun x0 ds => dI (fun x1 ds => dI (fun x2 ds => dE ((Z4 x0 x1 x2).bind (fun y => k [.I y.1, .L y.2.1, .I y.2.2.1, .I y.2.2.2])) ds) ds) ds) ds⟩
theorem q_Z4 (x0 : List D) (x1 : Int) (x2 : Int) : runFn (ocOf [e_Z3]) (olOf []) A 91 Try.f91 (Sh.mks e_Z4.sh [.L x0, .I x1, .I x2]).1 (fun v os => some (v, os)) = c_Z4 x0 x1 x2 (fun y => some ((e_Z4.res.mk [.I y.1, .L y.2.1, .I y.2.2.1, .I y.2.2.2]).1, (Sh.mks e_Z4.outs (e_Z4.res.mk [.I y.1, .L y.2.1, .I y.2.2.1, .I y.2.2.2]).2).1)) := by kernel_rfl
theorem e_Z4_ok : e_Z4.ok Try.prog A := by
 intro R ds k r h
 unfold e_Z4 at h
 obtain ⟨x0, d0, rfl, h0⟩ := dL_some h
 obtain ⟨x1, d1, rfl, h1⟩ := dI_some h0
 obtain ⟨x2, d2, rfl, h2⟩ := dI_some h1
 obtain ⟨rfl, hE⟩ := dE_some h2
 obtain ⟨y, hy, hk⟩ := bnd_some hE
 refine ⟨_, hk, fn_ok px (fx := ⟨Try.func91, by kernel_rfl, by kernel_rfl⟩) (entsOK_cons e_Z3_ok entsOK_nil) lentsOK_nil ?_⟩
 have hq := q_Z4 x0 x1 x2
 rw [c_Z4_bind] at hq
 rw [show c_Z4 x0 x1 x2 some = some y from hy] at hq
 exact hq

/-!-/
def c_Z5 {R : Type} (F : Int → Int → List D → Int → Int → Int → List D → Option (Int × List D × Int × Int × Int × List D)) (x0 : Int) (x1 : Int) (x2 : List D) (x3 : Int) (x4 : Int) (x5 : Int) (x6 : List D) (k : Int × List D × Int × Int × Int × List D → Option R) : Option R :=
 bif decide ((0 : Int) < x1) then
 (Z3 x2 x3 x4 ([D.int 0, D.int (1 : Int), D.int (1 : Int), D.int (2 : Int), D.int (3 : Int), D.int (5 : Int), D.int (10 : Int)])).bind (fun y0 =>
 if x6.length + [D.int y0.fst].length ≤ (4294967296 : Nat) then
 (F x0 (IntKind.i64.wrap (x1 - 1)) y0.snd.fst y0.snd.snd.fst y0.snd.snd.snd x5 (x6 ++ [D.int y0.fst])).bind k
 else
 none)
 else
 k (x0, x2, x3, x4, x5, x6)
theorem c_Z5_bind {R : Type} (F : Int → Int → List D → Int → Int → Int → List D → Option (Int × List D × Int × Int × Int × List D)) (x0 : Int) (x1 : Int) (x2 : List D) (x3 : Int) (x4 : Int) (x5 : Int) (x6 : List D) (k : Int × List D × Int × Int × Int × List D → Option R) : c_Z5 F x0 x1 x2 x3 x4 x5 x6 k = (c_Z5 F x0 x1 x2 x3 x4 x5 x6 some).bind k := by
 unfold c_Z5
 repeat' first|exact bnd_tail|exact bnd_none|exact bnd_leaf|apply bnd_ite|apply bnd_cond|apply bnd_sum|(apply bnd_bind;intro _)|intro _
def n_Z5 : Nat → Int → Int → List D → Int → Int → Int → List D → Option (Int × List D × Int × Int × Int × List D)
 | 0, _, _, _, _, _, _, _ => none
 | n + 1, x0, x1, x2, x3, x4, x5, x6 => c_Z5 (n_Z5 n) x0 x1 x2 x3 x4 x5 x6 some
noncomputable def Z5 (x0 : Int) (x1 : Int) (x2 : List D) (x3 : Int) (x4 : Int) (x5 : Int) (x6 : List D) : Option (Int × List D × Int × Int × Int × List D) := ev (fun n => n_Z5 n x0 x1 x2 x3 x4 x5 x6)
def m_Z5 (F : Int → Int → List D → Int → Int → Int → List D → Option (Int × List D × Int × Int × Int × List D)) : Lent := ⟨3, ⟨(.ptr 1000 [0] :: .int .i64 :: .undef :: .undef :: .ptr 1001 [0] :: .full 1002 [] (.int .i64) :: .int .i64 :: uu 32 ([])), [(1000, .obox (.agg [.rd (.int .u8), .int .i64, .int .u64])), (1001, .obox (.agg [.int .i64, .nilsl])), (1002, .own (.int .i64))]⟩, [(.exit 0, ⟨(.ptr 1000 [0] :: .int .i64 :: .undef :: .undef :: .ptr 1001 [0] :: .full 1002 [] (.int .i64) :: uu 33 ([])), [(1000, .obox (.agg [.rd (.int .u8), .int .i64, .int .u64])), (1001, .obox (.agg [.int .i64, .nilsl])), (1002, .own (.int .i64))]⟩)], fun _ ds k => dI (fun x0 ds => dI (fun x1 ds => dL (fun x2 ds => dI (fun x3 ds => dI (fun x4 ds => dI (fun x5 ds => dL (fun x6 ds => dE ((F x0 x1 x2 x3 x4 x5 x6).bind (fun y => k 0 [.I y.1, .L y.2.1, .I y.2.2.1, .I y.2.2.2.1, .I y.2.2.2.2.1, .L y.2.2.2.2.2])) ds) ds) ds) ds) ds) ds) ds) ds⟩
theorem q_Z5 (F : Int → Int → List D → Int → Int → Int → List D → Option (Int × List D × Int × Int × Int × List D)) (x0 : Int) (x1 : Int) (x2 : List D) (x3 : Int) (x4 : Int) (x5 : Int) (x6 : List D) : runLoop (ocOf [e_Z3]) (olOf [m_Z5 F]) A 154 (codeAt (bodyOf Try.f154) 3) ((m_Z5 F).sh.mk' [.I x0, .I x1, .L x2, .I x3, .I x4, .I x5, .L x6]) (fun e σ' => some (e, σ')) = c_Z5 F x0 x1 x2 x3 x4 x5 x6 (fun y => some (.exit 0, SSt.mk' ⟨(.ptr 1000 [0] :: .int .i64 :: .undef :: .undef :: .ptr 1001 [0] :: .full 1002 [] (.int .i64) :: uu 33 ([])), [(1000, .obox (.agg [.rd (.int .u8), .int .i64, .int .u64])), (1001, .obox (.agg [.int .i64, .nilsl])), (1002, .own (.int .i64))]⟩ [.I y.1, .L y.2.1, .I y.2.2.1, .I y.2.2.2.1, .I y.2.2.2.2.1, .L y.2.2.2.2.2])) := by kernel_rfl
theorem m_Z5_ok : ∀ n, (m_Z5 (n_Z5 n)).ok Try.prog (codeAt (bodyOf Try.f154) 3) := by
 intro n
 induction n with
 | zero =>
  intro R ds k r h
  unfold m_Z5 at h
  obtain ⟨x0, d0, rfl, h0⟩ := dI_some h
  obtain ⟨x1, d1, rfl, h1⟩ := dI_some h0
  obtain ⟨x2, d2, rfl, h2⟩ := dL_some h1
  obtain ⟨x3, d3, rfl, h3⟩ := dI_some h2
  obtain ⟨x4, d4, rfl, h4⟩ := dI_some h3
  obtain ⟨x5, d5, rfl, h5⟩ := dI_some h4
  obtain ⟨x6, d6, rfl, h6⟩ := dL_some h5
  obtain ⟨rfl, hE⟩ := dE_some h6
  obtain ⟨y, hy, hk⟩ := bnd_some hE
  cases hy
 | succ n ih =>
  intro R ds k r h
  unfold m_Z5 at h
  obtain ⟨x0, d0, rfl, h0⟩ := dI_some h
  obtain ⟨x1, d1, rfl, h1⟩ := dI_some h0
  obtain ⟨x2, d2, rfl, h2⟩ := dL_some h1
  obtain ⟨x3, d3, rfl, h3⟩ := dI_some h2
  obtain ⟨x4, d4, rfl, h4⟩ := dI_some h3
  obtain ⟨x5, d5, rfl, h5⟩ := dI_some h4
  obtain ⟨x6, d6, rfl, h6⟩ := dL_some h5
  obtain ⟨rfl, hE⟩ := dE_some h6
  obtain ⟨y, hy, hk⟩ := bnd_some hE
  have hq := q_Z5 (n_Z5 n) x0 x1 x2 x3 x4 x5 x6
  rw [c_Z5_bind] at hq
  rw [show c_Z5 (n_Z5 n) x0 x1 x2 x3 x4 x5 x6 some = some y from hy] at hq
  refine ⟨0, _, _, _, hk, rfl, loop_ok px (fx := ⟨Try.func154, by kernel_rfl, by kernel_rfl⟩) (entsOK_cons e_Z3_ok entsOK_nil) (lentsOK_cons ih lentsOK_nil) (by kernel_rfl) ?_⟩
  exact hq
noncomputable def e_Z5 : Lent := m_Z5 (Z5)
theorem e_Z5_ok : (e_Z5).ok Try.prog (codeAt (bodyOf Try.f154) 3) := by
 intro R ds k r h
 unfold e_Z5 m_Z5 at h
 obtain ⟨x0, d0, rfl, h0⟩ := dI_some h
 obtain ⟨x1, d1, rfl, h1⟩ := dI_some h0
 obtain ⟨x2, d2, rfl, h2⟩ := dL_some h1
 obtain ⟨x3, d3, rfl, h3⟩ := dI_some h2
 obtain ⟨x4, d4, rfl, h4⟩ := dI_some h3
 obtain ⟨x5, d5, rfl, h5⟩ := dI_some h4
 obtain ⟨x6, d6, rfl, h6⟩ := dL_some h5
 obtain ⟨rfl, hE⟩ := dE_some h6
 obtain ⟨y, hy, hk⟩ := bnd_some hE
 obtain ⟨n, hn⟩ := ev_some hy
 exact m_Z5_ok n R _ k r (show (n_Z5 n x0 x1 x2 x3 x4 x5 x6).bind _ = _ by rw [hn]; exact hk)

/-!-/
def c_Z6 {R : Type} (F : Int → List D → Int → Int → Int → Int → Option (Int × List D × Int × Int × Int × Int)) (x0 : Int) (x1 : List D) (x2 : Int) (x3 : Int) (x4 : Int) (x5 : Int) (k : Int × List D × Int × Int × Int × Int → Option R) : Option R :=
 bif decide (x2 < x3) then
 if 0 ≤ x2 ∧ x2 < (↑x1.length : Int) then
 bif decide ((x1.getD x2.toNat (D.int 0)).toInt = (0 : Int)) then
 (F x0 x1 (IntKind.i64.wrap (x2 + 1)) x3 x4 x5).bind k
 else
 k (x0, x1, x2, x3, x4, x5)
 else
 none
 else
 k (x0, x1, x2, x3, x4, x5)
theorem c_Z6_bind {R : Type} (F : Int → List D → Int → Int → Int → Int → Option (Int × List D × Int × Int × Int × Int)) (x0 : Int) (x1 : List D) (x2 : Int) (x3 : Int) (x4 : Int) (x5 : Int) (k : Int × List D × Int × Int × Int × Int → Option R) : c_Z6 F x0 x1 x2 x3 x4 x5 k = (c_Z6 F x0 x1 x2 x3 x4 x5 some).bind k := by
 unfold c_Z6
 repeat' first|exact bnd_tail|exact bnd_none|exact bnd_leaf|apply bnd_ite|apply bnd_cond|apply bnd_sum|(apply bnd_bind;intro _)|intro _
def n_Z6 : Nat → Int → List D → Int → Int → Int → Int → Option (Int × List D × Int × Int × Int × Int)
 | 0, _, _, _, _, _, _ => none
 | n + 1, x0, x1, x2, x3, x4, x5 => c_Z6 (n_Z6 n) x0 x1 x2 x3 x4 x5 some
noncomputable def Z6 (x0 : Int) (x1 : List D) (x2 : Int) (x3 : Int) (x4 : Int) (x5 : Int) : Option (Int × List D × Int × Int × Int × Int) := ev (fun n => n_Z6 n x0 x1 x2 x3 x4 x5)
def m_Z6 (F : Int → List D → Int → Int → Int → Int → Option (Int × List D × Int × Int × Int × Int)) : Lent := ⟨3, ⟨(.int .i64 :: .rd (.int .i64) :: .undef :: .undef :: .ptr 1000 [0] :: .undef :: .ptr 1001 [0] :: .int .i64 :: .int .i64 :: uu 75 ([])), [(1000, .obox (.agg [.int .i64, .nilsl])), (1001, .obox (.agg [.int .i64, .nilsl]))]⟩, [(.exit 0, ⟨(.int .i64 :: .rd (.int .i64) :: .undef :: .undef :: .ptr 1000 [0] :: .undef :: .ptr 1001 [0] :: .int .i64 :: .int .i64 :: uu 75 ([])), [(1000, .obox (.agg [.int .i64, .nilsl])), (1001, .obox (.agg [.int .i64, .nilsl]))]⟩)], fun _ ds k => dI (fun x0 ds => dL (fun x1 ds => dI (fun x2 ds => dI (fun x3 ds => dI (fun x4 ds => dI (fun x5 ds => dE ((F x0 x1 x2 x3 x4 x5).bind (fun y => k 0 [.I y.1, .L y.2.1, .I y.2.2.1, .I y.2.2.2.1, .I y.2.2.2.2.1, .I y.2.2.2.2.2])) ds) ds) ds) ds) ds) ds) ds⟩
theorem q_Z6 (F : Int → List D → Int → Int → Int → Int → Option (Int × List D × Int × Int × Int × Int)) (x0 : Int) (x1 : List D) (x2 : Int) (x3 : Int) (x4 : Int) (x5 : Int) : runLoop (ocOf []) (olOf [m_Z6 F]) A 95 (codeAt (bodyOf Try.f95) 3) ((m_Z6 F).sh.mk' [.I x0, .L x1, .I x2, .I x3, .I x4, .I x5]) (fun e σ' => some (e, σ')) = c_Z6 F x0 x1 x2 x3 x4 x5 (fun y => some (.exit 0, SSt.mk' ⟨(.int .i64 :: .rd (.int .i64) :: .undef :: .undef :: .ptr 1000 [0] :: .undef :: .ptr 1001 [0] :: .int .i64 :: .int .i64 :: uu 75 ([])), [(1000, .obox (.agg [.int .i64, .nilsl])), (1001, .obox (.agg [.int .i64, .nilsl]))]⟩ [.I y.1, .L y.2.1, .I y.2.2.1, .I y.2.2.2.1, .I y.2.2.2.2.1, .I y.2.2.2.2.2])) := by kernel_rfl
theorem m_Z6_ok : ∀ n, (m_Z6 (n_Z6 n)).ok Try.prog (codeAt (bodyOf Try.f95) 3) := by
 intro n
 induction n with
 | zero =>
  intro R ds k r h
  unfold m_Z6 at h
  obtain ⟨x0, d0, rfl, h0⟩ := dI_some h
  obtain ⟨x1, d1, rfl, h1⟩ := dL_some h0
  obtain ⟨x2, d2, rfl, h2⟩ := dI_some h1
  obtain ⟨x3, d3, rfl, h3⟩ := dI_some h2
  obtain ⟨x4, d4, rfl, h4⟩ := dI_some h3
  obtain ⟨x5, d5, rfl, h5⟩ := dI_some h4
  obtain ⟨rfl, hE⟩ := dE_some h5
  obtain ⟨y, hy, hk⟩ := bnd_some hE
  cases hy
 | succ n ih =>
  intro R ds k r h
  unfold m_Z6 at h
  obtain ⟨x0, d0, rfl, h0⟩ := dI_some h
  obtain ⟨x1, d1, rfl, h1⟩ := dL_some h0
  obtain ⟨x2, d2, rfl, h2⟩ := dI_some h1
  obtain ⟨x3, d3, rfl, h3⟩ := dI_some h2
  obtain ⟨x4, d4, rfl, h4⟩ := dI_some h3
  obtain ⟨x5, d5, rfl, h5⟩ := dI_some h4
  obtain ⟨rfl, hE⟩ := dE_some h5
  obtain ⟨y, hy, hk⟩ := bnd_some hE
  have hq := q_Z6 (n_Z6 n) x0 x1 x2 x3 x4 x5
  rw [c_Z6_bind] at hq
  rw [show c_Z6 (n_Z6 n) x0 x1 x2 x3 x4 x5 some = some y from hy] at hq
  refine ⟨0, _, _, _, hk, rfl, loop_ok px (fx := ⟨Try.func95, by kernel_rfl, by kernel_rfl⟩) entsOK_nil (lentsOK_cons ih lentsOK_nil) (by kernel_rfl) ?_⟩
  exact hq
noncomputable def e_Z6 : Lent := m_Z6 (Z6)
theorem e_Z6_ok : (e_Z6).ok Try.prog (codeAt (bodyOf Try.f95) 3) := by
 intro R ds k r h
 unfold e_Z6 m_Z6 at h
 obtain ⟨x0, d0, rfl, h0⟩ := dI_some h
 obtain ⟨x1, d1, rfl, h1⟩ := dL_some h0
 obtain ⟨x2, d2, rfl, h2⟩ := dI_some h1
 obtain ⟨x3, d3, rfl, h3⟩ := dI_some h2
 obtain ⟨x4, d4, rfl, h4⟩ := dI_some h3
 obtain ⟨x5, d5, rfl, h5⟩ := dI_some h4
 obtain ⟨rfl, hE⟩ := dE_some h5
 obtain ⟨y, hy, hk⟩ := bnd_some hE
 obtain ⟨n, hn⟩ := ev_some hy
 exact m_Z6_ok n R _ k r (show (n_Z6 n x0 x1 x2 x3 x4 x5).bind _ = _ by rw [hn]; exact hk)

/-!-/
def c_Z7 {R : Type} (F : Int → List D → Int → Int → Int → Int → Option (Int × List D × Int × Int × Int × Int)) (x0 : Int) (x1 : List D) (x2 : Int) (x3 : Int) (x4 : Int) (x5 : Int) (k : Int × List D × Int × Int × Int × Int → Option R) : Option R :=
 bif decide (x2 < x3) then
 if (0 : Int) ≤ IntKind.i64.wrap (x3 - 1) ∧ IntKind.i64.wrap (x3 - 1) < (↑x1.length : Int) then
 bif decide ((x1.getD (IntKind.i64.wrap (x3 - 1)).toNat (D.int 0)).toInt = (0 : Int)) then
 (F x0 x1 x2 (IntKind.i64.wrap (x3 - 1)) x4 x5).bind k
 else
 k (x0, x1, x2, x3, x4, x5)
 else
 none
 else
 k (x0, x1, x2, x3, x4, x5)
theorem c_Z7_bind {R : Type} (F : Int → List D → Int → Int → Int → Int → Option (Int × List D × Int × Int × Int × Int)) (x0 : Int) (x1 : List D) (x2 : Int) (x3 : Int) (x4 : Int) (x5 : Int) (k : Int × List D × Int × Int × Int × Int → Option R) : c_Z7 F x0 x1 x2 x3 x4 x5 k = (c_Z7 F x0 x1 x2 x3 x4 x5 some).bind k := by
 unfold c_Z7
 repeat' first|exact bnd_tail|exact bnd_none|exact bnd_leaf|apply bnd_ite|apply bnd_cond|apply bnd_sum|(apply bnd_bind;intro _)|intro _
def n_Z7 : Nat → Int → List D → Int → Int → Int → Int → Option (Int × List D × Int × Int × Int × Int)
 | 0, _, _, _, _, _, _ => none
 | n + 1, x0, x1, x2, x3, x4, x5 => c_Z7 (n_Z7 n) x0 x1 x2 x3 x4 x5 some
noncomputable def Z7 (x0 : Int) (x1 : List D) (x2 : Int) (x3 : Int) (x4 : Int) (x5 : Int) : Option (Int × List D × Int × Int × Int × Int) := ev (fun n => n_Z7 n x0 x1 x2 x3 x4 x5)
def m_Z7 (F : Int → List D → Int → Int → Int → Int → Option (Int × List D × Int × Int × Int × Int)) : Lent := ⟨5, ⟨(.int .i64 :: .rd (.int .i64) :: .undef :: .undef :: .ptr 1000 [0] :: .undef :: .ptr 1001 [0] :: .int .i64 :: .int .i64 :: uu 75 ([])), [(1000, .obox (.agg [.int .i64, .nilsl])), (1001, .obox (.agg [.int .i64, .nilsl]))]⟩, [(.exit 2, ⟨(.int .i64 :: .rd (.int .i64) :: .undef :: .undef :: .ptr 1000 [0] :: .undef :: .ptr 1001 [0] :: .int .i64 :: .int .i64 :: uu 75 ([])), [(1000, .obox (.agg [.int .i64, .nilsl])), (1001, .obox (.agg [.int .i64, .nilsl]))]⟩)], fun _ ds k => dI (fun x0 ds => dL (fun x1 ds => dI (fun x2 ds => dI (fun x3 ds => dI (fun x4 ds => dI (fun x5 ds => dE ((F x0 x1 x2 x3 x4 x5).bind (fun y => k 0 [.I y.1, .L y.2.1, .I y.2.2.1, .I y.2.2.2.1, .I y.2.2.2.2.1, .I y.2.2.2.2.2])) ds) ds) ds) ds) ds) ds) ds⟩
theorem q_Z7 (F : Int → List D → Int → Int → Int → Int → Option (Int × List D × Int × Int × Int × Int)) (x0 : Int) (x1 : List D) (x2 : Int) (x3 : Int) (x4 : Int) (x5 : Int) : runLoop (ocOf []) (olOf [m_Z7 F]) A 95 (codeAt (bodyOf Try.f95) 5) ((m_Z7 F).sh.mk' [.I x0, .L x1, .I x2, .I x3, .I x4, .I x5]) (fun e σ' => some (e, σ')) = c_Z7 F x0 x1 x2 x3 x4 x5 (fun y => some (.exit 2, SSt.mk' ⟨(.int .i64 :: .rd (.int .i64) :: .undef :: .undef :: .ptr 1000 [0] :: .undef :: .ptr 1001 [0] :: .int .i64 :: .int .i64 :: uu 75 ([])), [(1000, .obox (.agg [.int .i64, .nilsl])), (1001, .obox (.agg [.int .i64, .nilsl]))]⟩ [.I y.1, .L y.2.1, .I y.2.2.1, .I y.2.2.2.1, .I y.2.2.2.2.1, .I y.2.2.2.2.2])) := by kernel_rfl
theorem m_Z7_ok : ∀ n, (m_Z7 (n_Z7 n)).ok Try.prog (codeAt (bodyOf Try.f95) 5) := by
 intro n
 induction n with
 | zero =>
  intro R ds k r h
  unfold m_Z7 at h
  obtain ⟨x0, d0, rfl, h0⟩ := dI_some h
  obtain ⟨x1, d1, rfl, h1⟩ := dL_some h0
  obtain ⟨x2, d2, rfl, h2⟩ := dI_some h1
  obtain ⟨x3, d3, rfl, h3⟩ := dI_some h2
  obtain ⟨x4, d4, rfl, h4⟩ := dI_some h3
  obtain ⟨x5, d5, rfl, h5⟩ := dI_some h4
  obtain ⟨rfl, hE⟩ := dE_some h5
  obtain ⟨y, hy, hk⟩ := bnd_some hE
  cases hy
 | succ n ih =>
  intro R ds k r h
  unfold m_Z7 at h
  obtain ⟨x0, d0, rfl, h0⟩ := dI_some h
  obtain ⟨x1, d1, rfl, h1⟩ := dL_some h0
  obtain ⟨x2, d2, rfl, h2⟩ := dI_some h1
  obtain ⟨x3, d3, rfl, h3⟩ := dI_some h2
  obtain ⟨x4, d4, rfl, h4⟩ := dI_some h3
  obtain ⟨x5, d5, rfl, h5⟩ := dI_some h4
  obtain ⟨rfl, hE⟩ := dE_some h5
  obtain ⟨y, hy, hk⟩ := bnd_some hE
  have hq := q_Z7 (n_Z7 n) x0 x1 x2 x3 x4 x5
  rw [c_Z7_bind] at hq
  rw [show c_Z7 (n_Z7 n) x0 x1 x2 x3 x4 x5 some = some y from hy] at hq
  refine ⟨0, _, _, _, hk, rfl, loop_ok px (fx := ⟨Try.func95, by kernel_rfl, by kernel_rfl⟩) entsOK_nil (lentsOK_cons ih lentsOK_nil) (by kernel_rfl) ?_⟩
  exact hq
noncomputable def e_Z7 : Lent := m_Z7 (Z7)
theorem e_Z7_ok : (e_Z7).ok Try.prog (codeAt (bodyOf Try.f95) 5) := by
 intro R ds k r h
 unfold e_Z7 m_Z7 at h
 obtain ⟨x0, d0, rfl, h0⟩ := dI_some h
 obtain ⟨x1, d1, rfl, h1⟩ := dL_some h0
 obtain ⟨x2, d2, rfl, h2⟩ := dI_some h1
 obtain ⟨x3, d3, rfl, h3⟩ := dI_some h2
 obtain ⟨x4, d4, rfl, h4⟩ := dI_some h3
 obtain ⟨x5, d5, rfl, h5⟩ := dI_some h4
 obtain ⟨rfl, hE⟩ := dE_some h5
 obtain ⟨y, hy, hk⟩ := bnd_some hE
 obtain ⟨n, hn⟩ := ev_some hy
 exact m_Z7_ok n R _ k r (show (n_Z7 n x0 x1 x2 x3 x4 x5).bind _ = _ by rw [hn]; exact hk)

/-!-/
def c_Z8 {R : Type} (F : Int → Int → Option (Int)) (x0 : Int) (x1 : Int) (k : Int → Option R) : Option R :=
 bif !decide (x1 = (0 : Int)) then
 if x1 ≠ (0 : Int) then
 (F x1 (x0.tmod x1)).bind k
 else
 none
 else
 k x0
theorem c_Z8_bind {R : Type} (F : Int → Int → Option (Int)) (x0 : Int) (x1 : Int) (k : Int → Option R) : c_Z8 F x0 x1 k = (c_Z8 F x0 x1 some).bind k := by
 unfold c_Z8
 repeat' first|exact bnd_tail|exact bnd_none|exact bnd_leaf|apply bnd_ite|apply bnd_cond|apply bnd_sum|(apply bnd_bind;intro _)|intro _
def n_Z8 : Nat → Int → Int → Option (Int)
 | 0, _, _ => none
 | n + 1, x0, x1 => c_Z8 (n_Z8 n) x0 x1 some
noncomputable def Z8 (x0 : Int) (x1 : Int) : Option (Int) := ev (fun n => n_Z8 n x0 x1)
def m_Z8 (F : Int → Int → Option (Int)) : Lent := ⟨1, ⟨(.int .i64 :: .int .i64 :: uu 12 ([])), []⟩, [(.exit 0, ⟨(.int .i64 :: uu 13 ([])), []⟩)], fun _ ds k => dI (fun x0 ds => dI (fun x1 ds => dE ((F x0 x1).bind (fun y => k 0 [.I y])) ds) ds) ds⟩
theorem q_Z8 (F : Int → Int → Option (Int)) (x0 : Int) (x1 : Int) : runLoop (ocOf []) (olOf [m_Z8 F]) A 150 (codeAt (bodyOf Try.f150) 1) ((m_Z8 F).sh.mk' [.I x0, .I x1]) (fun e σ' => some (e, σ')) = c_Z8 F x0 x1 (fun y => some (.exit 0, SSt.mk' ⟨(.int .i64 :: uu 13 ([])), []⟩ [.I y])) := by kernel_rfl
theorem m_Z8_ok : ∀ n, (m_Z8 (n_Z8 n)).ok Try.prog (codeAt (bodyOf Try.f150) 1) := by
 intro n
 induction n with
 | zero =>
  intro R ds k r h
  unfold m_Z8 at h
  obtain ⟨x0, d0, rfl, h0⟩ := dI_some h
  obtain ⟨x1, d1, rfl, h1⟩ := dI_some h0
  obtain ⟨rfl, hE⟩ := dE_some h1
  obtain ⟨y, hy, hk⟩ := bnd_some hE
  cases hy
 | succ n ih =>
  intro R ds k r h
  unfold m_Z8 at h
  obtain ⟨x0, d0, rfl, h0⟩ := dI_some h
  obtain ⟨x1, d1, rfl, h1⟩ := dI_some h0
  obtain ⟨rfl, hE⟩ := dE_some h1
  obtain ⟨y, hy, hk⟩ := bnd_some hE
  have hq := q_Z8 (n_Z8 n) x0 x1
  rw [c_Z8_bind] at hq
  rw [show c_Z8 (n_Z8 n) x0 x1 some = some y from hy] at hq
  refine ⟨0, _, _, _, hk, rfl, loop_ok px (fx := ⟨Try.func150, by kernel_rfl, by kernel_rfl⟩) entsOK_nil (lentsOK_cons ih lentsOK_nil) (by kernel_rfl) ?_⟩
  exact hq
noncomputable def e_Z8 : Lent := m_Z8 (Z8)
theorem e_Z8_ok : (e_Z8).ok Try.prog (codeAt (bodyOf Try.f150) 1) := by
 intro R ds k r h
 unfold e_Z8 m_Z8 at h
 obtain ⟨x0, d0, rfl, h0⟩ := dI_some h
 obtain ⟨x1, d1, rfl, h1⟩ := dI_some h0
 obtain ⟨rfl, hE⟩ := dE_some h1
 obtain ⟨y, hy, hk⟩ := bnd_some hE
 obtain ⟨n, hn⟩ := ev_some hy
 exact m_Z8_ok n R _ k r (show (n_Z8 n x0 x1).bind _ = _ by rw [hn]; exact hk)

/-!-/
def c_Z9 {R : Type} (x0 : Int) (x1 : Int) (k : Int → Option R) : Option R :=
 (Z8 x0 x1).bind (fun y0 =>
 k y0)
theorem c_Z9_bind {R : Type} (x0 : Int) (x1 : Int) (k : Int → Option R) : c_Z9 x0 x1 k = (c_Z9 x0 x1 some).bind k := by
 unfold c_Z9
 repeat' first|exact bnd_tail|exact bnd_none|exact bnd_leaf|apply bnd_ite|apply bnd_cond|apply bnd_sum|(apply bnd_bind;intro _)|intro _
def Z9 (x0 : Int) (x1 : Int) : Option (Int) := c_Z9 x0 x1 some
def e_Z9 : Ent := ⟨150, [.int .i64, .int .i64], .int .i64, [.undef, .undef], fun _ ds k => dI (fun x0 ds => dI (fun x1 ds => dE ((Z9 x0 x1).bind (fun y => k [.I y])) ds) ds) ds⟩
theorem q_Z9 (x0 : Int) (x1 : Int) : runFn (ocOf []) (olOf [e_Z8]) A 150 Try.f150 (Sh.mks e_Z9.sh [.I x0, .I x1]).1 (fun v os => some (v, os)) = c_Z9 x0 x1 (fun y => some ((e_Z9.res.mk [.I y]).1, (Sh.mks e_Z9.outs (e_Z9.res.mk [.I y]).2).1)) := by kernel_rfl
theorem e_Z9_ok : e_Z9.ok Try.prog A := by
 intro R ds k r h
 unfold e_Z9 at h
 obtain ⟨x0, d0, rfl, h0⟩ := dI_some h
 obtain ⟨x1, d1, rfl, h1⟩ := dI_some h0
 obtain ⟨rfl, hE⟩ := dE_some h1
 obtain ⟨y, hy, hk⟩ := bnd_some hE
 refine ⟨_, hk, fn_ok px (fx := ⟨Try.func150, by kernel_rfl, by kernel_rfl⟩) entsOK_nil (lentsOK_cons e_Z8_ok lentsOK_nil) ?_⟩
 have hq := q_Z9 x0 x1
 rw [c_Z9_bind] at hq
 rw [show c_Z9 x0 x1 some = some y from hy] at hq
 exact hq

/-!-/
def c_Z10 {R : Type} (F : Int → List D → Int → Int → Int → Int → Int → Int → Option (Int × List D × Int × Int × Int × Int × Int)) (x0 : Int) (x1 : List D) (x2 : Int) (x3 : Int) (x4 : Int) (x5 : Int) (x6 : Int) (x7 : Int) (k : Int × List D × Int × Int × Int × Int × Int → Option R) : Option R :=
 bif decide (x5 < x3) then
 if 0 ≤ x5 ∧ x5 < (↑x1.length : Int) then
 (Z9 x4 ((x1.getD x5.toNat (D.int 0)).toInt)).bind (fun y0 =>
 (F x0 x1 x2 x3 y0 (IntKind.i64.wrap (x5 + 1)) x6 x7).bind k)
 else
 none
 else
 k (x0, x1, x2, x3, x4, x6, x7)
theorem c_Z10_bind {R : Type} (F : Int → List D → Int → Int → Int → Int → Int → Int → Option (Int × List D × Int × Int × Int × Int × Int)) (x0 : Int) (x1 : List D) (x2 : Int) (x3 : Int) (x4 : Int) (x5 : Int) (x6 : Int) (x7 : Int) (k : Int × List D × Int × Int × Int × Int × Int → Option R) : c_Z10 F x0 x1 x2 x3 x4 x5 x6 x7 k = (c_Z10 F x0 x1 x2 x3 x4 x5 x6 x7 some).bind k := by
 unfold c_Z10
 repeat' first|exact bnd_tail|exact bnd_none|exact bnd_leaf|apply bnd_ite|apply bnd_cond|apply bnd_sum|(apply bnd_bind;intro _)|intro _
def n_Z10 : Nat → Int → List D → Int → Int → Int → Int → Int → Int → Option (Int × List D × Int × Int × Int × Int × Int)
 | 0, _, _, _, _, _, _, _, _ => none
 | n + 1, x0, x1, x2, x3, x4, x5, x6, x7 => c_Z10 (n_Z10 n) x0 x1 x2 x3 x4 x5 x6 x7 some
noncomputable def Z10 (x0 : Int) (x1 : List D) (x2 : Int) (x3 : Int) (x4 : Int) (x5 : Int) (x6 : Int) (x7 : Int) : Option (Int × List D × Int × Int × Int × Int × Int) := ev (fun n => n_Z10 n x0 x1 x2 x3 x4 x5 x6 x7)
def m_Z10 (F : Int → List D → Int → Int → Int → Int → Int → Int → Option (Int × List D × Int × Int × Int × Int × Int)) : Lent := ⟨9, ⟨(.int .i64 :: .rd (.int .i64) :: .undef :: .undef :: .ptr 1000 [0] :: .undef :: .ptr 1001 [0] :: .int .i64 :: .int .i64 :: .int .i64 :: .int .i64 :: uu 73 ([])), [(1000, .obox (.agg [.int .i64, .nilsl])), (1001, .obox (.agg [.int .i64, .nilsl]))]⟩, [(.exit 4, ⟨(.int .i64 :: .rd (.int .i64) :: .undef :: .undef :: .ptr 1000 [0] :: .undef :: .ptr 1001 [0] :: .int .i64 :: .int .i64 :: .int .i64 :: uu 74 ([])), [(1000, .obox (.agg [.int .i64, .nilsl])), (1001, .obox (.agg [.int .i64, .nilsl]))]⟩)], fun _ ds k => dI (fun x0 ds => dL (fun x1 ds => dI (fun x2 ds => dI (fun x3 ds => dI (fun x4 ds => dI (fun x5 ds => dI (fun x6 ds => dI (fun x7 ds => dE ((F x0 x1 x2 x3 x4 x5 x6 x7).bind (fun y => k 0 [.I y.1, .L y.2.1, .I y.2.2.1, .I y.2.2.2.1, .I y.2.2.2.2.1, .I y.2.2.2.2.2.1, .I y.2.2.2.2.2.2])) ds) ds) ds) ds) ds) ds) ds) ds) ds⟩
theorem q_Z10 (F : Int → List D → Int → Int → Int → Int → Int → Int → Option (Int × List D × Int × Int × Int × Int × Int)) (x0 : Int) (x1 : List D) (x2 : Int) (x3 : Int) (x4 : Int) (x5 : Int) (x6 : Int) (x7 : Int) : runLoop (ocOf [e_Z9]) (olOf [m_Z10 F]) A 95 (codeAt (bodyOf Try.f95) 9) ((m_Z10 F).sh.mk' [.I x0, .L x1, .I x2, .I x3, .I x4, .I x5, .I x6, .I x7]) (fun e σ' => some (e, σ')) = c_Z10 F x0 x1 x2 x3 x4 x5 x6 x7 (fun y => some (.exit 4, SSt.mk' ⟨(.int .i64 :: .rd (.int .i64) :: .undef :: .undef :: .ptr 1000 [0] :: .undef :: .ptr 1001 [0] :: .int .i64 :: .int .i64 :: .int .i64 :: uu 74 ([])), [(1000, .obox (.agg [.int .i64, .nilsl])), (1001, .obox (.agg [.int .i64, .nilsl]))]⟩ [.I y.1, .L y.2.1, .I y.2.2.1, .I y.2.2.2.1, .I y.2.2.2.2.1, .I y.2.2.2.2.2.1, .I y.2.2.2.2.2.2])) := by kernel_rfl
theorem m_Z10_ok : ∀ n, (m_Z10 (n_Z10 n)).ok Try.prog (codeAt (bodyOf Try.f95) 9) := by
 intro n
 induction n with
 | zero =>
  intro R ds k r h
  unfold m_Z10 at h
  obtain ⟨x0, d0, rfl, h0⟩ := dI_some h
  obtain ⟨x1, d1, rfl, h1⟩ := dL_some h0
  obtain ⟨x2, d2, rfl, h2⟩ := dI_some h1
  obtain ⟨x3, d3, rfl, h3⟩ := dI_some h2
  obtain ⟨x4, d4, rfl, h4⟩ := dI_some h3
  obtain ⟨x5, d5, rfl, h5⟩ := dI_some h4
  obtain ⟨x6, d6, rfl, h6⟩ := dI_some h5
  obtain ⟨x7, d7, rfl, h7⟩ := dI_some h6
  obtain ⟨rfl, hE⟩ := dE_some h7
  obtain ⟨y, hy, hk⟩ := bnd_some hE
  cases hy
 | succ n ih =>
  intro R ds k r h
  unfold m_Z10 at h
  obtain ⟨x0, d0, rfl, h0⟩ := dI_some h
  obtain ⟨x1, d1, rfl, h1⟩ := dL_some h0
  obtain ⟨x2, d2, rfl, h2⟩ := dI_some h1
  obtain ⟨x3, d3, rfl, h3⟩ := dI_some h2
  obtain ⟨x4, d4, rfl, h4⟩ := dI_some h3
  obtain ⟨x5, d5, rfl, h5⟩ := dI_some h4
  obtain ⟨x6, d6, rfl, h6⟩ := dI_some h5
  obtain ⟨x7, d7, rfl, h7⟩ := dI_some h6
  obtain ⟨rfl, hE⟩ := dE_some h7
  obtain ⟨y, hy, hk⟩ := bnd_some hE
  have hq := q_Z10 (n_Z10 n) x0 x1 x2 x3 x4 x5 x6 x7
  rw [c_Z10_bind] at hq
  rw [show c_Z10 (n_Z10 n) x0 x1 x2 x3 x4 x5 x6 x7 some = some y from hy] at hq
  refine ⟨0, _, _, _, hk, rfl, loop_ok px (fx := ⟨Try.func95, by kernel_rfl, by kernel_rfl⟩) (entsOK_cons e_Z9_ok entsOK_nil) (lentsOK_cons ih lentsOK_nil) (by kernel_rfl) ?_⟩
  exact hq
noncomputable def e_Z10 : Lent := m_Z10 (Z10)
theorem e_Z10_ok : (e_Z10).ok Try.prog (codeAt (bodyOf Try.f95) 9) := by
 intro R ds k r h
 unfold e_Z10 m_Z10 at h
 obtain ⟨x0, d0, rfl, h0⟩ := dI_some h
 obtain ⟨x1, d1, rfl, h1⟩ := dL_some h0
 obtain ⟨x2, d2, rfl, h2⟩ := dI_some h1
 obtain ⟨x3, d3, rfl, h3⟩ := dI_some h2
 obtain ⟨x4, d4, rfl, h4⟩ := dI_some h3
 obtain ⟨x5, d5, rfl, h5⟩ := dI_some h4
 obtain ⟨x6, d6, rfl, h6⟩ := dI_some h5
 obtain ⟨x7, d7, rfl, h7⟩ := dI_some h6
 obtain ⟨rfl, hE⟩ := dE_some h7
 obtain ⟨y, hy, hk⟩ := bnd_some hE
 obtain ⟨n, hn⟩ := ev_some hy
 exact m_Z10_ok n R _ k r (show (n_Z10 n x0 x1 x2 x3 x4 x5 x6 x7).bind _ = _ by rw [hn]; exact hk)

/-!-/
def c_Z11 {R : Type} (F : List D → Int → Int → Int → Int → Int → Int → List D → Option (Int × Int × Int × List D)) (x0 : List D) (x1 : Int) (x2 : Int) (x3 : Int) (x4 : Int) (x5 : Int) (x6 : Int) (x7 : List D) (k : Int × Int × Int × List D → Option R) : Option R :=
 bif decide (x3 < x1) then
 if 0 ≤ x3 ∧ x3 < (↑x0.length : Int) then
 if x2 ≠ (0 : Int) then
 if x7.length + [D.int (IntKind.i64.wrap ((x0.getD x3.toNat (D.int 0)).toInt.tdiv x2))].length ≤ (4294967296 : Nat) then
 (F x0 x1 x2 (IntKind.i64.wrap (x3 + 1)) x4 x5 x6 (x7 ++ [D.int (IntKind.i64.wrap ((x0.getD x3.toNat (D.int 0)).toInt.tdiv x2))])).bind k
 else
 none
 else
 none
 else
 none
 else
 k (x4, x5, x6, x7)
theorem c_Z11_bind {R : Type} (F : List D → Int → Int → Int → Int → Int → Int → List D → Option (Int × Int × Int × List D)) (x0 : List D) (x1 : Int) (x2 : Int) (x3 : Int) (x4 : Int) (x5 : Int) (x6 : Int) (x7 : List D) (k : Int × Int × Int × List D → Option R) : c_Z11 F x0 x1 x2 x3 x4 x5 x6 x7 k = (c_Z11 F x0 x1 x2 x3 x4 x5 x6 x7 some).bind k := by
 unfold c_Z11
 repeat' first|exact bnd_tail|exact bnd_none|exact bnd_leaf|apply bnd_ite|apply bnd_cond|apply bnd_sum|(apply bnd_bind;intro _)|intro _
def n_Z11 : Nat → List D → Int → Int → Int → Int → Int → Int → List D → Option (Int × Int × Int × List D)
 | 0, _, _, _, _, _, _, _, _ => none
 | n + 1, x0, x1, x2, x3, x4, x5, x6, x7 => c_Z11 (n_Z11 n) x0 x1 x2 x3 x4 x5 x6 x7 some
noncomputable def Z11 (x0 : List D) (x1 : Int) (x2 : Int) (x3 : Int) (x4 : Int) (x5 : Int) (x6 : Int) (x7 : List D) : Option (Int × Int × Int × List D) := ev (fun n => n_Z11 n x0 x1 x2 x3 x4 x5 x6 x7)
def m_Z11 (F : List D → Int → Int → Int → Int → Int → Int → List D → Option (Int × Int × Int × List D)) : Lent := ⟨16, ⟨(.undef :: .rd (.int .i64) :: .undef :: .undef :: .ptr 1000 [0] :: .undef :: .ptr 1001 [0] :: .undef :: .int .i64 :: .int .i64 :: .undef :: .ptr 1002 [0] :: .int .i64 :: uu 71 ([])), [(1000, .obox (.agg [.int .i64, .nilsl])), (1001, .obox (.agg [.int .i64, .nilsl])), (1002, .obox (.agg [.int .i64, .full 1003 [] (.int .i64)])), (1003, .own (.int .i64))]⟩, [(.exit 6, ⟨(uu 4 (.ptr 1000 [0] :: .undef :: .ptr 1001 [0] :: uu 4 (.ptr 1002 [0] :: uu 72 ([])))), [(1000, .obox (.agg [.int .i64, .nilsl])), (1001, .obox (.agg [.int .i64, .nilsl])), (1002, .obox (.agg [.int .i64, .full 1003 [] (.int .i64)])), (1003, .own (.int .i64))]⟩)], fun _ ds k => dL (fun x0 ds => dI (fun x1 ds => dI (fun x2 ds => dI (fun x3 ds => dI (fun x4 ds => dI (fun x5 ds => dI (fun x6 ds => dL (fun x7 ds => dE ((F x0 x1 x2 x3 x4 x5 x6 x7).bind (fun y => k 0 [.I y.1, .I y.2.1, .I y.2.2.1, .L y.2.2.2])) ds) ds) ds) ds) ds) ds) ds) ds) ds⟩
theorem q_Z11 (F : List D → Int → Int → Int → Int → Int → Int → List D → Option (Int × Int × Int × List D)) (x0 : List D) (x1 : Int) (x2 : Int) (x3 : Int) (x4 : Int) (x5 : Int) (x6 : Int) (x7 : List D) : runLoop (ocOf []) (olOf [m_Z11 F]) A 95 (codeAt (bodyOf Try.f95) 16) ((m_Z11 F).sh.mk' [.L x0, .I x1, .I x2, .I x3, .I x4, .I x5, .I x6, .L x7]) (fun e σ' => some (e, σ')) = c_Z11 F x0 x1 x2 x3 x4 x5 x6 x7 (fun y => some (.exit 6, SSt.mk' ⟨(uu 4 (.ptr 1000 [0] :: .undef :: .ptr 1001 [0] :: uu 4 (.ptr 1002 [0] :: uu 72 ([])))), [(1000, .obox (.agg [.int .i64, .nilsl])), (1001, .obox (.agg [.int .i64, .nilsl])), (1002, .obox (.agg [.int .i64, .full 1003 [] (.int .i64)])), (1003, .own (.int .i64))]⟩ [.I y.1, .I y.2.1, .I y.2.2.1, .L y.2.2.2])) := by kernel_rfl
theorem m_Z11_ok : ∀ n, (m_Z11 (n_Z11 n)).ok Try.prog (codeAt (bodyOf Try.f95) 16) := by
 intro n
 induction n with
 | zero =>
  intro R ds k r h
  unfold m_Z11 at h
  obtain ⟨x0, d0, rfl, h0⟩ := dL_some h
  obtain ⟨x1, d1, rfl, h1⟩ := dI_some h0
  obtain ⟨x2, d2, rfl, h2⟩ := dI_some h1
  obtain ⟨x3, d3, rfl, h3⟩ := dI_some h2
  obtain ⟨x4, d4, rfl, h4⟩ := dI_some h3
  obtain ⟨x5, d5, rfl, h5⟩ := dI_some h4
  obtain ⟨x6, d6, rfl, h6⟩ := dI_some h5
  obtain ⟨x7, d7, rfl, h7⟩ := dL_some h6
  obtain ⟨rfl, hE⟩ := dE_some h7
  obtain ⟨y, hy, hk⟩ := bnd_some hE
  cases hy
 | succ n ih =>
  intro R ds k r h
  unfold m_Z11 at h
  obtain ⟨x0, d0, rfl, h0⟩ := dL_some h
  obtain ⟨x1, d1, rfl, h1⟩ := dI_some h0
  obtain ⟨x2, d2, rfl, h2⟩ := dI_some h1
  obtain ⟨x3, d3, rfl, h3⟩ := dI_some h2
  obtain ⟨x4, d4, rfl, h4⟩ := dI_some h3
  obtain ⟨x5, d5, rfl, h5⟩ := dI_some h4
  obtain ⟨x6, d6, rfl, h6⟩ := dI_some h5
  obtain ⟨x7, d7, rfl, h7⟩ := dL_some h6
  obtain ⟨rfl, hE⟩ := dE_some h7
  obtain ⟨y, hy, hk⟩ := bnd_some hE
  have hq := q_Z11 (n_Z11 n) x0 x1 x2 x3 x4 x5 x6 x7
  rw [c_Z11_bind] at hq
  rw [show c_Z11 (n_Z11 n) x0 x1 x2 x3 x4 x5 x6 x7 some = some y from hy] at hq
  refine ⟨0, _, _, _, hk, rfl, loop_ok px (fx := ⟨Try.func95, by kernel_rfl, by kernel_rfl⟩) entsOK_nil (lentsOK_cons ih lentsOK_nil) (by kernel_rfl) ?_⟩
  exact hq
noncomputable def e_Z11 : Lent := m_Z11 (Z11)
theorem e_Z11_ok : (e_Z11).ok Try.prog (codeAt (bodyOf Try.f95) 16) := by
 intro R ds k r h
 unfold e_Z11 m_Z11 at h
 obtain ⟨x0, d0, rfl, h0⟩ := dL_some h
 obtain ⟨x1, d1, rfl, h1⟩ := dI_some h0
 obtain ⟨x2, d2, rfl, h2⟩ := dI_some h1
 obtain ⟨x3, d3, rfl, h3⟩ := dI_some h2
 obtain ⟨x4, d4, rfl, h4⟩ := dI_some h3
 obtain ⟨x5, d5, rfl, h5⟩ := dI_some h4
 obtain ⟨x6, d6, rfl, h6⟩ := dI_some h5
 obtain ⟨x7, d7, rfl, h7⟩ := dL_some h6
 obtain ⟨rfl, hE⟩ := dE_some h7
 obtain ⟨y, hy, hk⟩ := bnd_some hE
 obtain ⟨n, hn⟩ := ev_some hy
 exact m_Z11_ok n R _ k r (show (n_Z11 n x0 x1 x2 x3 x4 x5 x6 x7).bind _ = _ by rw [hn]; exact hk)

/-!-/
def c_Z12 {R : Type} (x0 : Int) (x1 : Int) (x2 : Int) (k : Bool → Option R) : Option R :=
 bif decide (x1 ≤ x0) then
 k (decide (x0 ≤ x2))
 else
 k Bool.false
theorem c_Z12_bind {R : Type} (x0 : Int) (x1 : Int) (x2 : Int) (k : Bool → Option R) : c_Z12 x0 x1 x2 k = (c_Z12 x0 x1 x2 some).bind k := by
 unfold c_Z12
 repeat' first|exact bnd_tail|exact bnd_none|exact bnd_leaf|apply bnd_ite|apply bnd_cond|apply bnd_sum|(apply bnd_bind;intro _)|intro _
def Z12 (x0 : Int) (x1 : Int) (x2 : Int) : Option (Bool) := c_Z12 x0 x1 x2 some
def e_Z12 : Ent := ⟨78, [.int .i64, .int .i64, .int .i64], .bool, [.undef, .undef, .undef], fun _ ds k => dI (fun x0 ds => dI (fun x1 ds => dI (fun x2 ds => dE ((Z12 x0 x1 x2).bind (fun y => k [.B y])) ds) ds) ds) ds⟩
theorem q_Z12 (x0 : Int) (x1 : Int) (x2 : Int) : runFn (ocOf []) (olOf []) A 78 Try.f78 (Sh.mks e_Z12.sh [.I x0, .I x1, .I x2]).1 (fun v os => some (v, os)) = c_Z12 x0 x1 x2 (fun y => some ((e_Z12.res.mk [.B y]).1, (Sh.mks e_Z12.outs (e_Z12.res.mk [.B y]).2).1)) := by kernel_rfl
theorem e_Z12_ok : e_Z12.ok Try.prog A := by
 intro R ds k r h
 unfold e_Z12 at h
 obtain ⟨x0, d0, rfl, h0⟩ := dI_some h
 obtain ⟨x1, d1, rfl, h1⟩ := dI_some h0
 obtain ⟨x2, d2, rfl, h2⟩ := dI_some h1
 obtain ⟨rfl, hE⟩ := dE_some h2
 obtain ⟨y, hy, hk⟩ := bnd_some hE
 refine ⟨_, hk, fn_ok px (fx := ⟨Try.func78, by kernel_rfl, by kernel_rfl⟩) entsOK_nil lentsOK_nil ?_⟩
 have hq := q_Z12 x0 x1 x2
 rw [c_Z12_bind] at hq
 rw [show c_Z12 x0 x1 x2 some = some y from hy] at hq
 exact hq

/-!-/
def c_Z13 {R : Type} (F : Int → Int → Int → Int → List D → Option ((Bool × Int) ⊕ (Int))) (x0 : Int) (x1 : Int) (x2 : Int) (x3 : Int) (x4 : List D) (k : (Bool × Int) ⊕ (Int) → Option R) : Option R :=
 bif decide (x2 < x0) then
 if 0 ≤ x2 ∧ x2 < (↑x4.length : Int) then
 (Z12 ((x4.getD x2.toNat (D.int 0)).toInt) (0 : Int) (1000000 : Int)).bind (fun y0 =>
 bif !y0 then
 k (.inl (Bool.false, x1))
 else
 if 0 ≤ x2 ∧ x2 < (↑x4.length : Int) then
 (Z9 x1 ((x4.getD x2.toNat (D.int 0)).toInt)).bind (fun y1 =>
 (F x0 y1 (IntKind.i64.wrap (x2 + 1)) x3 x4).bind k)
 else
 none)
 else
 none
 else
 k (.inr x1)
theorem c_Z13_bind {R : Type} (F : Int → Int → Int → Int → List D → Option ((Bool × Int) ⊕ (Int))) (x0 : Int) (x1 : Int) (x2 : Int) (x3 : Int) (x4 : List D) (k : (Bool × Int) ⊕ (Int) → Option R) : c_Z13 F x0 x1 x2 x3 x4 k = (c_Z13 F x0 x1 x2 x3 x4 some).bind k := by
 unfold c_Z13
 repeat' first|exact bnd_tail|exact bnd_none|exact bnd_leaf|apply bnd_ite|apply bnd_cond|apply bnd_sum|(apply bnd_bind;intro _)|intro _
def n_Z13 : Nat → Int → Int → Int → Int → List D → Option ((Bool × Int) ⊕ (Int))
 | 0, _, _, _, _, _ => none
 | n + 1, x0, x1, x2, x3, x4 => c_Z13 (n_Z13 n) x0 x1 x2 x3 x4 some
noncomputable def Z13 (x0 : Int) (x1 : Int) (x2 : Int) (x3 : Int) (x4 : List D) : Option ((Bool × Int) ⊕ (Int)) := ev (fun n => n_Z13 n x0 x1 x2 x3 x4)
def m_Z13 (F : Int → Int → Int → Int → List D → Option ((Bool × Int) ⊕ (Int))) : Lent := ⟨6, ⟨(.undef :: .ptr 1000 [0] :: .undef :: .int .i64 :: .int .i64 :: .int .i64 :: uu 52 ([])), [(1000, .obox (.agg [.int .i64, .rd (.int .i64)]))]⟩, [(.ret, ⟨(.undef :: .undef :: .bool :: .undef :: .int .i64 :: uu 53 ([])), []⟩), (.exit 0, ⟨(uu 4 (.int .i64 :: uu 53 ([]))), []⟩)], fun _ ds k => dI (fun x0 ds => dI (fun x1 ds => dI (fun x2 ds => dI (fun x3 ds => dL (fun x4 ds => dE ((F x0 x1 x2 x3 x4).bind (Sum.elim (fun y => k 0 [.B y.1, .I y.2]) (fun y => k 1 [.I y]))) ds) ds) ds) ds) ds) ds⟩
theorem q_Z13 (F : Int → Int → Int → Int → List D → Option ((Bool × Int) ⊕ (Int))) (x0 : Int) (x1 : Int) (x2 : Int) (x3 : Int) (x4 : List D) : runLoop (ocOf [e_Z12, e_Z9]) (olOf [m_Z13 F]) A 86 (codeAt (bodyOf Try.f86) 6) ((m_Z13 F).sh.mk' [.I x0, .I x1, .I x2, .I x3, .L x4]) (fun e σ' => some (e, σ')) = c_Z13 F x0 x1 x2 x3 x4 (Sum.elim (fun y => some (.ret, SSt.mk' ⟨(.undef :: .undef :: .bool :: .undef :: .int .i64 :: uu 53 ([])), []⟩ [.B y.1, .I y.2])) (fun y => some (.exit 0, SSt.mk' ⟨(uu 4 (.int .i64 :: uu 53 ([]))), []⟩ [.I y]))) := by kernel_rfl
theorem m_Z13_ok : ∀ n, (m_Z13 (n_Z13 n)).ok Try.prog (codeAt (bodyOf Try.f86) 6) := by
 intro n
 induction n with
 | zero =>
  intro R ds k r h
  unfold m_Z13 at h
  obtain ⟨x0, d0, rfl, h0⟩ := dI_some h
  obtain ⟨x1, d1, rfl, h1⟩ := dI_some h0
  obtain ⟨x2, d2, rfl, h2⟩ := dI_some h1
  obtain ⟨x3, d3, rfl, h3⟩ := dI_some h2
  obtain ⟨x4, d4, rfl, h4⟩ := dL_some h3
  obtain ⟨rfl, hE⟩ := dE_some h4
  obtain ⟨y, hy, hk⟩ := bnd_some hE
  cases hy
 | succ n ih =>
  intro R ds k r h
  unfold m_Z13 at h
  obtain ⟨x0, d0, rfl, h0⟩ := dI_some h
  obtain ⟨x1, d1, rfl, h1⟩ := dI_some h0
  obtain ⟨x2, d2, rfl, h2⟩ := dI_some h1
  obtain ⟨x3, d3, rfl, h3⟩ := dI_some h2
  obtain ⟨x4, d4, rfl, h4⟩ := dL_some h3
  obtain ⟨rfl, hE⟩ := dE_some h4
  obtain ⟨y, hy, hk⟩ := bnd_some hE
  have hq := q_Z13 (n_Z13 n) x0 x1 x2 x3 x4
  rw [c_Z13_bind] at hq
  rw [show c_Z13 (n_Z13 n) x0 x1 x2 x3 x4 some = some y from hy] at hq
  cases y with
  | inl y =>
   refine ⟨0, _, _, _, hk, rfl, loop_ok px (fx := ⟨Try.func86, by kernel_rfl, by kernel_rfl⟩) (entsOK_cons e_Z12_ok (entsOK_cons e_Z9_ok entsOK_nil)) (lentsOK_cons ih lentsOK_nil) (by kernel_rfl) ?_⟩
   exact hq
  | inr y =>
   refine ⟨1, _, _, _, hk, rfl, loop_ok px (fx := ⟨Try.func86, by kernel_rfl, by kernel_rfl⟩) (entsOK_cons e_Z12_ok (entsOK_cons e_Z9_ok entsOK_nil)) (lentsOK_cons ih lentsOK_nil) (by kernel_rfl) ?_⟩
   exact hq
noncomputable def e_Z13 : Lent := m_Z13 (Z13)
theorem e_Z13_ok : (e_Z13).ok Try.prog (codeAt (bodyOf Try.f86) 6) := by
 intro R ds k r h
 unfold e_Z13 m_Z13 at h
 obtain ⟨x0, d0, rfl, h0⟩ := dI_some h
 obtain ⟨x1, d1, rfl, h1⟩ := dI_some h0
 obtain ⟨x2, d2, rfl, h2⟩ := dI_some h1
 obtain ⟨x3, d3, rfl, h3⟩ := dI_some h2
 obtain ⟨x4, d4, rfl, h4⟩ := dL_some h3
 obtain ⟨rfl, hE⟩ := dE_some h4
 obtain ⟨y, hy, hk⟩ := bnd_some hE
 obtain ⟨n, hn⟩ := ev_some hy
 exact m_Z13_ok n R _ k r (show (n_Z13 n x0 x1 x2 x3 x4).bind _ = _ by rw [hn]; exact hk)

/-!-/
def c_Z14 {R : Type} (x0 : Int) (x1 : List D) (k : Bool → Option R) : Option R :=
 (Z12 (↑x1.length : Int) (1 : Int) (60 : Int)).bind (fun y0 =>
 bif !y0 then
 k Bool.false
 else
 (Z12 x0 (-20000 : Int) (IntKind.i64.wrap (IntKind.i64.wrap ((2100 : Int) - (↑x1.length : Int)) + (1 : Int)))).bind (fun y1 =>
 bif !y1 then
 k Bool.false
 else
 if (0 : Int) ≤ (0 : Int) ∧ (0 : Int) < (↑x1.length : Int) then
 bif decide ((x1.getD (Int.toNat (0 : Int)) (D.int 0)).toInt ≤ (0 : Int)) then
 k Bool.false
 else
 if (0 : Int) ≤ IntKind.i64.wrap ((↑x1.length : Int) - (1 : Int)) ∧ IntKind.i64.wrap ((↑x1.length : Int) - (1 : Int)) < (↑x1.length : Int) then
 bif decide ((x1.getD (IntKind.i64.wrap ((↑x1.length : Int) - (1 : Int))).toNat (D.int 0)).toInt ≤ (0 : Int)) then
 k Bool.false
 else
 (Z13 (↑x1.length : Int) (0 : Int) (0 : Int) x0 x1).bind (Sum.elim (fun y2 =>
 k y2.fst) (fun y3 =>
 k (decide (y3 = (1 : Int)))))
 else
 none
 else
 none))
theorem c_Z14_bind {R : Type} (x0 : Int) (x1 : List D) (k : Bool → Option R) : c_Z14 x0 x1 k = (c_Z14 x0 x1 some).bind k := by
 unfold c_Z14
 repeat' first|exact bnd_tail|exact bnd_none|exact bnd_leaf|apply bnd_ite|apply bnd_cond|apply bnd_sum|(apply bnd_bind;intro _)|intro _
def Z14 (x0 : Int) (x1 : List D) : Option (Bool) := c_Z14 x0 x1 some
def e_Z14 : Ent := ⟨86, [.agg [.int .i64, .rd (.int .i64)]], .bool, [.undef], fun _ ds k => dI (fun x0 ds => dL (fun x1 ds => dE ((Z14 x0 x1).bind (fun y => k [.B y])) ds) ds) ds⟩
theorem q_Z14 (x0 : Int) (x1 : List D) : runFn (ocOf [e_Z12]) (olOf [e_Z13]) A 86 Try.f86 (Sh.mks e_Z14.sh [.I x0, .L x1]).1 (fun v os => some (v, os)) = c_Z14 x0 x1 (fun y => some ((e_Z14.res.mk [.B y]).1, (Sh.mks e_Z14.outs (e_Z14.res.mk [.B y]).2).1)) := by kernel_rfl
theorem e_Z14_ok : e_Z14.ok Try.prog A := by
 intro R ds k r h
 unfold e_Z14 at h
 obtain ⟨x0, d0, rfl, h0⟩ := dI_some h
 obtain ⟨x1, d1, rfl, h1⟩ := dL_some h0
 obtain ⟨rfl, hE⟩ := dE_some h1
 obtain ⟨y, hy, hk⟩ := bnd_some hE
 refine ⟨_, hk, fn_ok px (fx := ⟨Try.func86, by kernel_rfl, by kernel_rfl⟩) (entsOK_cons e_Z12_ok entsOK_nil) (lentsOK_cons e_Z13_ok lentsOK_nil) ?_⟩
 have hq := q_Z14 x0 x1
 rw [c_Z14_bind] at hq
 rw [show c_Z14 x0 x1 some = some y from hy] at hq
 exact hq

/-!-/
def c_Z15 {R : Type} (x0 : Int) (x1 : List D) (k : Int × List D × Bool → Option R) : Option R :=
 (Z6 x0 x1 (0 : Int) (↑x1.length : Int) (0 : Int) (0 : Int)).bind (fun y0 =>
 (Z7 y0.fst y0.snd.fst y0.snd.snd.fst y0.snd.snd.snd.fst y0.snd.snd.snd.snd.fst y0.snd.snd.snd.snd.snd).bind (fun y1 =>
 (Z10 y1.fst y1.snd.fst y1.snd.snd.fst y1.snd.snd.snd.fst (0 : Int) y1.snd.snd.fst y1.snd.snd.snd.snd.fst y1.snd.snd.snd.snd.snd).bind (fun y2 =>
 bif decide (y2.snd.snd.fst = y2.snd.snd.snd.fst) then
 k (y2.snd.snd.snd.snd.snd.snd, [], Bool.false)
 else
 (Z11 y2.snd.fst y2.snd.snd.snd.fst y2.snd.snd.snd.snd.fst y2.snd.snd.fst y2.snd.snd.snd.snd.snd.fst y2.snd.snd.snd.snd.snd.snd (IntKind.i64.wrap (y2.fst + y2.snd.snd.fst)) []).bind (fun y3 =>
 (Z14 y3.snd.snd.fst y3.snd.snd.snd).bind (fun y4 =>
 bif !y4 then
 k (y3.snd.fst, [], Bool.false)
 else
 k (y3.snd.snd.fst, y3.snd.snd.snd, Bool.true))))))
theorem c_Z15_bind {R : Type} (x0 : Int) (x1 : List D) (k : Int × List D × Bool → Option R) : c_Z15 x0 x1 k = (c_Z15 x0 x1 some).bind k := by
 unfold c_Z15
 repeat' first|exact bnd_tail|exact bnd_none|exact bnd_leaf|apply bnd_ite|apply bnd_cond|apply bnd_sum|(apply bnd_bind;intro _)|intro _
def Z15 (x0 : Int) (x1 : List D) : Option (Int × List D × Bool) := c_Z15 x0 x1 some
def e_Z15 : Ent := ⟨95, [.int .i64, .rd (.int .i64)], .tup [.agg [.int .i64, .own (.int .i64)], .bool], [.undef, .undef], fun _ ds k => dI (fun x0 ds => dL (fun x1 ds => dE ((Z15 x0 x1).bind (fun y => k [.I y.1, .L y.2.1, .B y.2.2])) ds) ds) ds⟩
theorem q_Z15 (x0 : Int) (x1 : List D) : runFn (ocOf [e_Z14]) (olOf [e_Z6, e_Z7, e_Z10, e_Z11]) A 95 Try.f95 (Sh.mks e_Z15.sh [.I x0, .L x1]).1 (fun v os => some (v, os)) = c_Z15 x0 x1 (fun y => some ((e_Z15.res.mk [.I y.1, .L y.2.1, .B y.2.2]).1, (Sh.mks e_Z15.outs (e_Z15.res.mk [.I y.1, .L y.2.1, .B y.2.2]).2).1)) := by kernel_rfl
theorem e_Z15_ok : e_Z15.ok Try.prog A := by
 intro R ds k r h
 unfold e_Z15 at h
 obtain ⟨x0, d0, rfl, h0⟩ := dI_some h
 obtain ⟨x1, d1, rfl, h1⟩ := dL_some h0
 obtain ⟨rfl, hE⟩ := dE_some h1
 obtain ⟨y, hy, hk⟩ := bnd_some hE
 refine ⟨_, hk, fn_ok px (fx := ⟨Try.func95, by kernel_rfl, by kernel_rfl⟩) (entsOK_cons e_Z14_ok entsOK_nil) (lentsOK_cons e_Z6_ok (lentsOK_cons e_Z7_ok (lentsOK_cons e_Z10_ok (lentsOK_cons e_Z11_ok lentsOK_nil)))) ?_⟩
 have hq := q_Z15 x0 x1
 rw [c_Z15_bind] at hq
 rw [show c_Z15 x0 x1 some = some y from hy] at hq
 exact hq

/-!-/
def c_Z16 {R : Type} (x0 : List D) (x1 : Int) (x2 : Int) (x3 : Int) (k : Int × List D × List D × Int × Int → Option R) : Option R :=
 (Z2 x0 x1 x2 (8 : Int)).bind (fun y0 =>
 (Z5 x3 (IntKind.i64.wrap ((1 : Int) + y0.fst)) y0.snd.fst y0.snd.snd.fst y0.snd.snd.snd (0 : Int) []).bind (fun y1 =>
 (Z2 y1.snd.fst y1.snd.snd.fst y1.snd.snd.snd.fst (9 : Int)).bind (fun y2 =>
 (Z15 (IntKind.i64.wrap (IntKind.i64.wrap (y1.fst + y2.fst) - (4 : Int))) y1.snd.snd.snd.snd.snd).bind (fun y3 =>
 bif !y3.snd.snd then
 k (y1.fst, [D.int (1 : Int)], y2.snd.fst, y2.snd.snd.fst, y2.snd.snd.snd)
 else
 k (y3.fst, y3.snd.fst, y2.snd.fst, y2.snd.snd.fst, y2.snd.snd.snd)))))
theorem c_Z16_bind {R : Type} (x0 : List D) (x1 : Int) (x2 : Int) (x3 : Int) (k : Int × List D × List D × Int × Int → Option R) : c_Z16 x0 x1 x2 x3 k = (c_Z16 x0 x1 x2 x3 some).bind k := by
 unfold c_Z16
 repeat' first|exact bnd_tail|exact bnd_none|exact bnd_leaf|apply bnd_ite|apply bnd_cond|apply bnd_sum|(apply bnd_bind;intro _)|intro _
def Z16 (x0 : List D) (x1 : Int) (x2 : Int) (x3 : Int) : Option (Int × List D × List D × Int × Int) := c_Z16 x0 x1 x2 x3 some
def e_Z16 : Ent := ⟨154, [.obox (.agg [.rd (.int .u8), .int .i64, .int .u64]), .int .i64], .agg [.int .i64, .own (.int .i64)], [.obox (.agg [.rd (.int .u8), .int .i64, .int .u64]), .undef], fun _ ds k => dL (fun x0 ds => dI (fun x1 ds => dI (fun x2 ds => dI (fun x3 ds => dE ((Z16 x0 x1 x2 x3).bind (fun y => k [.I y.1, .L y.2.1, .L y.2.2.1, .I y.2.2.2.1, .I y.2.2.2.2])) ds) ds) ds) ds) ds⟩
theorem q_Z16 (x0 : List D) (x1 : Int) (x2 : Int) (x3 : Int) : runFn (ocOf [e_Z2, e_Z15]) (olOf [e_Z5]) A 154 Try.f154 (Sh.mks e_Z16.sh [.L x0, .I x1, .I x2, .I x3]).1 (fun v os => some (v, os)) = c_Z16 x0 x1 x2 x3 (fun y => some ((e_Z16.res.mk [.I y.1, .L y.2.1, .L y.2.2.1, .I y.2.2.2.1, .I y.2.2.2.2]).1, (Sh.mks e_Z16.outs (e_Z16.res.mk [.I y.1, .L y.2.1, .L y.2.2.1, .I y.2.2.2.1, .I y.2.2.2.2]).2).1)) := by kernel_rfl
theorem e_Z16_ok : e_Z16.ok Try.prog A := by
 intro R ds k r h
 unfold e_Z16 at h
 obtain ⟨x0, d0, rfl, h0⟩ := dL_some h
 obtain ⟨x1, d1, rfl, h1⟩ := dI_some h0
 obtain ⟨x2, d2, rfl, h2⟩ := dI_some h1
 obtain ⟨x3, d3, rfl, h3⟩ := dI_some h2
 obtain ⟨rfl, hE⟩ := dE_some h3
 obtain ⟨y, hy, hk⟩ := bnd_some hE
 refine ⟨_, hk, fn_ok px (fx := ⟨Try.func154, by kernel_rfl, by kernel_rfl⟩) (entsOK_cons e_Z2_ok (entsOK_cons e_Z15_ok entsOK_nil)) (lentsOK_cons e_Z5_ok lentsOK_nil) ?_⟩
 have hq := q_Z16 x0 x1 x2 x3
 rw [c_Z16_bind] at hq
 rw [show c_Z16 x0 x1 x2 x3 some = some y from hy] at hq
 exact hq

/-!-/
def c_Z17 {R : Type} (F : List D → Int → Int → Int → Int → List D → Option (List D × Int × Int × Int × Int × List D)) (x0 : List D) (x1 : Int) (x2 : Int) (x3 : Int) (x4 : Int) (x5 : List D) (k : List D × Int × Int × Int × Int × List D → Option R) : Option R :=
 (Z2 x0 x1 x2 (2 : Int)).bind (fun y0 =>
 bif decide ((↑x5.length : Int) < IntKind.i64.wrap ((60 : Int) + y0.fst)) then
 if x5.length + [D.int (1 : Int)].length ≤ (4294967296 : Nat) then
 (F y0.snd.fst y0.snd.snd.fst y0.snd.snd.snd x3 x4 (x5 ++ [D.int (1 : Int)])).bind k
 else
 none
 else
 k (y0.snd.fst, y0.snd.snd.fst, y0.snd.snd.snd, x3, x4, x5))
theorem c_Z17_bind {R : Type} (F : List D → Int → Int → Int → Int → List D → Option (List D × Int × Int × Int × Int × List D)) (x0 : List D) (x1 : Int) (x2 : Int) (x3 : Int) (x4 : Int) (x5 : List D) (k : List D × Int × Int × Int × Int × List D → Option R) : c_Z17 F x0 x1 x2 x3 x4 x5 k = (c_Z17 F x0 x1 x2 x3 x4 x5 some).bind k := by
 unfold c_Z17
 repeat' first|exact bnd_tail|exact bnd_none|exact bnd_leaf|apply bnd_ite|apply bnd_cond|apply bnd_sum|(apply bnd_bind;intro _)|intro _
def n_Z17 : Nat → List D → Int → Int → Int → Int → List D → Option (List D × Int × Int × Int × Int × List D)
 | 0, _, _, _, _, _, _ => none
 | n + 1, x0, x1, x2, x3, x4, x5 => c_Z17 (n_Z17 n) x0 x1 x2 x3 x4 x5 some
noncomputable def Z17 (x0 : List D) (x1 : Int) (x2 : Int) (x3 : Int) (x4 : Int) (x5 : List D) : Option (List D × Int × Int × Int × Int × List D) := ev (fun n => n_Z17 n x0 x1 x2 x3 x4 x5)
def m_Z17 (F : List D → Int → Int → Int → Int → List D → Option (List D × Int × Int × Int × Int × List D)) : Lent := ⟨12, ⟨(.ptr 1000 [0] :: .undef :: .undef :: .undef :: .ptr 1001 [0] :: .ptr 1002 [0] :: uu 44 ([])), [(1000, .obox (.agg [.rd (.int .u8), .int .i64, .int .u64])), (1001, .obox (.agg [.int .i64, .nilsl])), (1002, .obox (.agg [.int .i64, .full 1003 [] (.int .i64)])), (1003, .own (.int .i64))]⟩, [(.exit 1, ⟨(.ptr 1000 [0] :: .undef :: .undef :: .undef :: .ptr 1001 [0] :: .ptr 1002 [0] :: uu 44 ([])), [(1000, .obox (.agg [.rd (.int .u8), .int .i64, .int .u64])), (1001, .obox (.agg [.int .i64, .nilsl])), (1002, .obox (.agg [.int .i64, .full 1003 [] (.int .i64)])), (1003, .own (.int .i64))]⟩)], fun _ ds k => dL (fun x0 ds => dI (fun x1 ds => dI (fun x2 ds => dI (fun x3 ds => dI (fun x4 ds => dL (fun x5 ds => dE ((F x0 x1 x2 x3 x4 x5).bind (fun y => k 0 [.L y.1, .I y.2.1, .I y.2.2.1, .I y.2.2.2.1, .I y.2.2.2.2.1, .L y.2.2.2.2.2])) ds) ds) ds) ds) ds) ds) ds⟩
theorem q_Z17 (F : List D → Int → Int → Int → Int → List D → Option (List D × Int × Int × Int × Int × List D)) (x0 : List D) (x1 : Int) (x2 : Int) (x3 : Int) (x4 : Int) (x5 : List D) : runLoop (ocOf [e_Z2]) (olOf [m_Z17 F]) A 99 (codeAt (bodyOf Try.f99) 12) ((m_Z17 F).sh.mk' [.L x0, .I x1, .I x2, .I x3, .I x4, .L x5]) (fun e σ' => some (e, σ')) = c_Z17 F x0 x1 x2 x3 x4 x5 (fun y => some (.exit 1, SSt.mk' ⟨(.ptr 1000 [0] :: .undef :: .undef :: .undef :: .ptr 1001 [0] :: .ptr 1002 [0] :: uu 44 ([])), [(1000, .obox (.agg [.rd (.int .u8), .int .i64, .int .u64])), (1001, .obox (.agg [.int .i64, .nilsl])), (1002, .obox (.agg [.int .i64, .full 1003 [] (.int .i64)])), (1003, .own (.int .i64))]⟩ [.L y.1, .I y.2.1, .I y.2.2.1, .I y.2.2.2.1, .I y.2.2.2.2.1, .L y.2.2.2.2.2])) := by kernel_rfl
theorem m_Z17_ok : ∀ n, (m_Z17 (n_Z17 n)).ok Try.prog (codeAt (bodyOf Try.f99) 12) := by
 intro n
 induction n with
 | zero =>
  intro R ds k r h
  unfold m_Z17 at h
  obtain ⟨x0, d0, rfl, h0⟩ := dL_some h
  obtain ⟨x1, d1, rfl, h1⟩ := dI_some h0
  obtain ⟨x2, d2, rfl, h2⟩ := dI_some h1
  obtain ⟨x3, d3, rfl, h3⟩ := dI_some h2
  obtain ⟨x4, d4, rfl, h4⟩ := dI_some h3
  obtain ⟨x5, d5, rfl, h5⟩ := dL_some h4
  obtain ⟨rfl, hE⟩ := dE_some h5
  obtain ⟨y, hy, hk⟩ := bnd_some hE
  cases hy
 | succ n ih =>
  intro R ds k r h
  unfold m_Z17 at h
  obtain ⟨x0, d0, rfl, h0⟩ := dL_some h
  obtain ⟨x1, d1, rfl, h1⟩ := dI_some h0
  obtain ⟨x2, d2, rfl, h2⟩ := dI_some h1
  obtain ⟨x3, d3, rfl, h3⟩ := dI_some h2
  obtain ⟨x4, d4, rfl, h4⟩ := dI_some h3
  obtain ⟨x5, d5, rfl, h5⟩ := dL_some h4
  obtain ⟨rfl, hE⟩ := dE_some h5
  obtain ⟨y, hy, hk⟩ := bnd_some hE
  have hq := q_Z17 (n_Z17 n) x0 x1 x2 x3 x4 x5
  rw [c_Z17_bind] at hq
  rw [show c_Z17 (n_Z17 n) x0 x1 x2 x3 x4 x5 some = some y from hy] at hq
  refine ⟨0, _, _, _, hk, rfl, loop_ok px (fx := ⟨Try.func99, by kernel_rfl, by kernel_rfl⟩) (entsOK_cons e_Z2_ok entsOK_nil) (lentsOK_cons ih lentsOK_nil) (by kernel_rfl) ?_⟩
  exact hq
noncomputable def e_Z17 : Lent := m_Z17 (Z17)
theorem e_Z17_ok : (e_Z17).ok Try.prog (codeAt (bodyOf Try.f99) 12) := by
 intro R ds k r h
 unfold e_Z17 m_Z17 at h
 obtain ⟨x0, d0, rfl, h0⟩ := dL_some h
 obtain ⟨x1, d1, rfl, h1⟩ := dI_some h0
 obtain ⟨x2, d2, rfl, h2⟩ := dI_some h1
 obtain ⟨x3, d3, rfl, h3⟩ := dI_some h2
 obtain ⟨x4, d4, rfl, h4⟩ := dI_some h3
 obtain ⟨x5, d5, rfl, h5⟩ := dL_some h4
 obtain ⟨rfl, hE⟩ := dE_some h5
 obtain ⟨y, hy, hk⟩ := bnd_some hE
 obtain ⟨n, hn⟩ := ev_some hy
 exact m_Z17_ok n R _ k r (show (n_Z17 n x0 x1 x2 x3 x4 x5).bind _ = _ by rw [hn]; exact hk)

/-!-/
def c_Z18 {R : Type} (F : List D → Int → Int → Int → Int → List D → Option ((List D × Int × Int × Int × Int × List D) ⊕ (List D × Int × Int × Int × Int × List D))) (x0 : List D) (x1 : Int) (x2 : Int) (x3 : Int) (x4 : Int) (x5 : List D) (k : (List D × Int × Int × Int × Int × List D) ⊕ (List D × Int × Int × Int × Int × List D) → Option R) : Option R :=
 (Z2 x0 x1 x2 (2 : Int)).bind (fun y0 =>
 bif decide ((↑x5.length : Int) < IntKind.i64.wrap ((60 : Int) + y0.fst)) then
 if x5.length + [D.int (1 : Int)].length ≤ (4294967296 : Nat) then
 (Z17 y0.snd.fst y0.snd.snd.fst y0.snd.snd.snd x3 x4 (x5 ++ [D.int (1 : Int)])).bind (fun y1 =>
 k (.inl (y1.fst, y1.snd.fst, y1.snd.snd.fst, y1.snd.snd.snd.fst, y1.snd.snd.snd.snd.fst, y1.snd.snd.snd.snd.snd)))
 else
 none
 else
 k (.inr (y0.snd.fst, y0.snd.snd.fst, y0.snd.snd.snd, x3, x4, x5)))
theorem c_Z18_bind {R : Type} (F : List D → Int → Int → Int → Int → List D → Option ((List D × Int × Int × Int × Int × List D) ⊕ (List D × Int × Int × Int × Int × List D))) (x0 : List D) (x1 : Int) (x2 : Int) (x3 : Int) (x4 : Int) (x5 : List D) (k : (List D × Int × Int × Int × Int × List D) ⊕ (List D × Int × Int × Int × Int × List D) → Option R) : c_Z18 F x0 x1 x2 x3 x4 x5 k = (c_Z18 F x0 x1 x2 x3 x4 x5 some).bind k := by
 unfold c_Z18
 repeat' first|exact bnd_tail|exact bnd_none|exact bnd_leaf|apply bnd_ite|apply bnd_cond|apply bnd_sum|(apply bnd_bind;intro _)|intro _
def n_Z18 : Nat → List D → Int → Int → Int → Int → List D → Option ((List D × Int × Int × Int × Int × List D) ⊕ (List D × Int × Int × Int × Int × List D))
 | 0, _, _, _, _, _, _ => none
 | n + 1, x0, x1, x2, x3, x4, x5 => c_Z18 (n_Z18 n) x0 x1 x2 x3 x4 x5 some
noncomputable def Z18 (x0 : List D) (x1 : Int) (x2 : Int) (x3 : Int) (x4 : Int) (x5 : List D) : Option ((List D × Int × Int × Int × Int × List D) ⊕ (List D × Int × Int × Int × Int × List D)) := ev (fun n => n_Z18 n x0 x1 x2 x3 x4 x5)
def m_Z18 (F : List D → Int → Int → Int → Int → List D → Option ((List D × Int × Int × Int × Int × List D) ⊕ (List D × Int × Int × Int × Int × List D))) : Lent := ⟨12, ⟨(.ptr 1000 [0] :: .undef :: .undef :: .undef :: .ptr 1001 [0] :: .ptr 1002 [0] :: uu 44 ([])), [(1000, .obox (.agg [.rd (.int .u8), .int .i64, .int .u64])), (1001, .obox (.agg [.int .i64, .nilsl])), (1002, .obox (.agg [.int .i64, .own (.int .i64)]))]⟩, [(.exit 1, ⟨(.ptr 1000 [0] :: .undef :: .undef :: .undef :: .ptr 1001 [0] :: .ptr 1002 [0] :: uu 44 ([])), [(1000, .obox (.agg [.rd (.int .u8), .int .i64, .int .u64])), (1001, .obox (.agg [.int .i64, .nilsl])), (1002, .obox (.agg [.int .i64, .full 1003 [] (.int .i64)])), (1003, .own (.int .i64))]⟩), (.exit 1, ⟨(.ptr 1000 [0] :: .undef :: .undef :: .undef :: .ptr 1001 [0] :: .ptr 1002 [0] :: uu 44 ([])), [(1000, .obox (.agg [.rd (.int .u8), .int .i64, .int .u64])), (1001, .obox (.agg [.int .i64, .nilsl])), (1002, .obox (.agg [.int .i64, .own (.int .i64)]))]⟩)], fun _ ds k => dL (fun x0 ds => dI (fun x1 ds => dI (fun x2 ds => dI (fun x3 ds => dI (fun x4 ds => dL (fun x5 ds => dE ((F x0 x1 x2 x3 x4 x5).bind (Sum.elim (fun y => k 0 [.L y.1, .I y.2.1, .I y.2.2.1, .I y.2.2.2.1, .I y.2.2.2.2.1, .L y.2.2.2.2.2]) (fun y => k 1 [.L y.1, .I y.2.1, .I y.2.2.1, .I y.2.2.2.1, .I y.2.2.2.2.1, .L y.2.2.2.2.2]))) ds) ds) ds) ds) ds) ds) ds⟩
theorem q_Z18 (F : List D → Int → Int → Int → Int → List D → Option ((List D × Int × Int × Int × Int × List D) ⊕ (List D × Int × Int × Int × Int × List D))) (x0 : List D) (x1 : Int) (x2 : Int) (x3 : Int) (x4 : Int) (x5 : List D) : runLoop (ocOf [e_Z2]) (olOf [m_Z18 F, e_Z17]) A 99 (codeAt (bodyOf Try.f99) 12) ((m_Z18 F).sh.mk' [.L x0, .I x1, .I x2, .I x3, .I x4, .L x5]) (fun e σ' => some (e, σ')) = c_Z18 F x0 x1 x2 x3 x4 x5 (Sum.elim (fun y => some (.exit 1, SSt.mk' ⟨(.ptr 1000 [0] :: .undef :: .undef :: .undef :: .ptr 1001 [0] :: .ptr 1002 [0] :: uu 44 ([])), [(1000, .obox (.agg [.rd (.int .u8), .int .i64, .int .u64])), (1001, .obox (.agg [.int .i64, .nilsl])), (1002, .obox (.agg [.int .i64, .full 1003 [] (.int .i64)])), (1003, .own (.int .i64))]⟩ [.L y.1, .I y.2.1, .I y.2.2.1, .I y.2.2.2.1, .I y.2.2.2.2.1, .L y.2.2.2.2.2])) (fun y => some (.exit 1, SSt.mk' ⟨(.ptr 1000 [0] :: .undef :: .undef :: .undef :: .ptr 1001 [0] :: .ptr 1002 [0] :: uu 44 ([])), [(1000, .obox (.agg [.rd (.int .u8), .int .i64, .int .u64])), (1001, .obox (.agg [.int .i64, .nilsl])), (1002, .obox (.agg [.int .i64, .own (.int .i64)]))]⟩ [.L y.1, .I y.2.1, .I y.2.2.1, .I y.2.2.2.1, .I y.2.2.2.2.1, .L y.2.2.2.2.2]))) := by kernel_rfl
theorem m_Z18_ok : ∀ n, (m_Z18 (n_Z18 n)).ok Try.prog (codeAt (bodyOf Try.f99) 12) := by
 intro n
 induction n with
 | zero =>
  intro R ds k r h
  unfold m_Z18 at h
  obtain ⟨x0, d0, rfl, h0⟩ := dL_some h
  obtain ⟨x1, d1, rfl, h1⟩ := dI_some h0
  obtain ⟨x2, d2, rfl, h2⟩ := dI_some h1
  obtain ⟨x3, d3, rfl, h3⟩ := dI_some h2
  obtain ⟨x4, d4, rfl, h4⟩ := dI_some h3
  obtain ⟨x5, d5, rfl, h5⟩ := dL_some h4
  obtain ⟨rfl, hE⟩ := dE_some h5
  obtain ⟨y, hy, hk⟩ := bnd_some hE
  cases hy
 | succ n ih =>
  intro R ds k r h
  unfold m_Z18 at h
  obtain ⟨x0, d0, rfl, h0⟩ := dL_some h
  obtain ⟨x1, d1, rfl, h1⟩ := dI_some h0
  obtain ⟨x2, d2, rfl, h2⟩ := dI_some h1
  obtain ⟨x3, d3, rfl, h3⟩ := dI_some h2
  obtain ⟨x4, d4, rfl, h4⟩ := dI_some h3
  obtain ⟨x5, d5, rfl, h5⟩ := dL_some h4
  obtain ⟨rfl, hE⟩ := dE_some h5
  obtain ⟨y, hy, hk⟩ := bnd_some hE
  have hq := q_Z18 (n_Z18 n) x0 x1 x2 x3 x4 x5
  rw [c_Z18_bind] at hq
  rw [show c_Z18 (n_Z18 n) x0 x1 x2 x3 x4 x5 some = some y from hy] at hq
  cases y with
  | inl y =>
   refine ⟨0, _, _, _, hk, rfl, loop_ok px (fx := ⟨Try.func99, by kernel_rfl, by kernel_rfl⟩) (entsOK_cons e_Z2_ok entsOK_nil) (lentsOK_cons ih (lentsOK_cons e_Z17_ok lentsOK_nil)) (by kernel_rfl) ?_⟩
   exact hq
  | inr y =>
   refine ⟨1, _, _, _, hk, rfl, loop_ok px (fx := ⟨Try.func99, by kernel_rfl, by kernel_rfl⟩) (entsOK_cons e_Z2_ok entsOK_nil) (lentsOK_cons ih (lentsOK_cons e_Z17_ok lentsOK_nil)) (by kernel_rfl) ?_⟩
   exact hq
noncomputable def e_Z18 : Lent := m_Z18 (Z18)
theorem e_Z18_ok : (e_Z18).ok Try.prog (codeAt (bodyOf Try.f99) 12) := by
 intro R ds k r h
 unfold e_Z18 m_Z18 at h
 obtain ⟨x0, d0, rfl, h0⟩ := dL_some h
 obtain ⟨x1, d1, rfl, h1⟩ := dI_some h0
 obtain ⟨x2, d2, rfl, h2⟩ := dI_some h1
 obtain ⟨x3, d3, rfl, h3⟩ := dI_some h2
 obtain ⟨x4, d4, rfl, h4⟩ := dI_some h3
 obtain ⟨x5, d5, rfl, h5⟩ := dL_some h4
 obtain ⟨rfl, hE⟩ := dE_some h5
 obtain ⟨y, hy, hk⟩ := bnd_some hE
 obtain ⟨n, hn⟩ := ev_some hy
 exact m_Z18_ok n R _ k r (show (n_Z18 n x0 x1 x2 x3 x4 x5).bind _ = _ by rw [hn]; exact hk)

/-!-/
def c_Z19 {R : Type} (x0 : List D) (x1 : Int) (x2 : Int) (x3 : Int) (k : Int × List D × List D × Int × Int → Option R) : Option R :=
 (Z16 x0 x1 x2 x3).bind (fun y0 =>
 (Z2 y0.snd.snd.fst y0.snd.snd.snd.fst y0.snd.snd.snd.snd (30 : Int)).bind (fun y1 =>
 bif decide (y1.fst = (0 : Int)) then
 (Z3 y1.snd.fst y1.snd.snd.fst y1.snd.snd.snd ([D.int (-20001 : Int), D.int (2100 : Int), D.int (2101 : Int)])).bind (fun y2 =>
 k (y2.fst, y0.snd.fst, y2.snd.fst, y2.snd.snd.fst, y2.snd.snd.snd))
 else
 bif decide (y1.fst = (1 : Int)) then
 (Z3 y1.snd.fst y1.snd.snd.fst y1.snd.snd.snd ([D.int 0, D.int (-1 : Int), D.int (1000001 : Int)])).bind (fun y3 =>
 if y0.snd.fst.length + [D.int y3.fst].length ≤ (4294967296 : Nat) then
 k (y0.fst, y0.snd.fst ++ [D.int y3.fst], y3.snd.fst, y3.snd.snd.fst, y3.snd.snd.snd)
 else
 none)
 else
 bif decide (y1.fst = (2 : Int)) then
 k (y0.fst, [D.int (2 : Int), D.int (4 : Int)], y1.snd.fst, y1.snd.snd.fst, y1.snd.snd.snd)
 else
 bif decide (y1.fst = (3 : Int)) then
 k (y0.fst, [], y1.snd.fst, y1.snd.snd.fst, y1.snd.snd.snd)
 else
 bif decide (y1.fst = (4 : Int)) then
 (Z18 y1.snd.fst y1.snd.snd.fst y1.snd.snd.snd (0 : Int) y0.fst y0.snd.fst).bind (Sum.elim (fun y4 =>
 k (y4.snd.snd.snd.snd.fst, y4.snd.snd.snd.snd.snd, y4.fst, y4.snd.fst, y4.snd.snd.fst)) (fun y5 =>
 k (y5.snd.snd.snd.snd.fst, y5.snd.snd.snd.snd.snd, y5.fst, y5.snd.fst, y5.snd.snd.fst)))
 else
 k (y0.fst, y0.snd.fst, y1.snd.fst, y1.snd.snd.fst, y1.snd.snd.snd)))
theorem c_Z19_bind {R : Type} (x0 : List D) (x1 : Int) (x2 : Int) (x3 : Int) (k : Int × List D × List D × Int × Int → Option R) : c_Z19 x0 x1 x2 x3 k = (c_Z19 x0 x1 x2 x3 some).bind k := by
 unfold c_Z19
 repeat' first|exact bnd_tail|exact bnd_none|exact bnd_leaf|apply bnd_ite|apply bnd_cond|apply bnd_sum|(apply bnd_bind;intro _)|intro _
def Z19 (x0 : List D) (x1 : Int) (x2 : Int) (x3 : Int) : Option (Int × List D × List D × Int × Int) := c_Z19 x0 x1 x2 x3 some
def e_Z19 : Ent := ⟨99, [.obox (.agg [.rd (.int .u8), .int .i64, .int .u64]), .int .i64], .agg [.int .i64, .own (.int .i64)], [.obox (.agg [.rd (.int .u8), .int .i64, .int .u64]), .undef], fun _ ds k => dL (fun x0 ds => dI (fun x1 ds => dI (fun x2 ds => dI (fun x3 ds => dE ((Z19 x0 x1 x2 x3).bind (fun y => k [.I y.1, .L y.2.1, .L y.2.2.1, .I y.2.2.2.1, .I y.2.2.2.2])) ds) ds) ds) ds) ds⟩
theorem q_Z19 (x0 : List D) (x1 : Int) (x2 : Int) (x3 : Int) : runFn (ocOf [e_Z16, e_Z2, e_Z3]) (olOf [e_Z18]) A 99 Try.f99 (Sh.mks e_Z19.sh [.L x0, .I x1, .I x2, .I x3]).1 (fun v os => some (v, os)) = c_Z19 x0 x1 x2 x3 (fun y => some ((e_Z19.res.mk [.I y.1, .L y.2.1, .L y.2.2.1, .I y.2.2.2.1, .I y.2.2.2.2]).1, (Sh.mks e_Z19.outs (e_Z19.res.mk [.I y.1, .L y.2.1, .L y.2.2.1, .I y.2.2.2.1, .I y.2.2.2.2]).2).1)) := by kernel_rfl
theorem e_Z19_ok : e_Z19.ok Try.prog A := by
 intro R ds k r h
 unfold e_Z19 at h
 obtain ⟨x0, d0, rfl, h0⟩ := dL_some h
 obtain ⟨x1, d1, rfl, h1⟩ := dI_some h0
 obtain ⟨x2, d2, rfl, h2⟩ := dI_some h1
 obtain ⟨x3, d3, rfl, h3⟩ := dI_some h2
 obtain ⟨rfl, hE⟩ := dE_some h3
 obtain ⟨y, hy, hk⟩ := bnd_some hE
 refine ⟨_, hk, fn_ok px (fx := ⟨Try.func99, by kernel_rfl, by kernel_rfl⟩) (entsOK_cons e_Z16_ok (entsOK_cons e_Z2_ok (entsOK_cons e_Z3_ok entsOK_nil))) (lentsOK_cons e_Z18_ok lentsOK_nil) ?_⟩
 have hq := q_Z19 x0 x1 x2 x3
 rw [c_Z19_bind] at hq
 rw [show c_Z19 x0 x1 x2 x3 some = some y from hy] at hq
 exact hq

/-!-/
def c_Z20 {R : Type} (F : Int → Int → List D → Int → Int → List D → Option (List D)) (x0 : Int) (x1 : Int) (x2 : List D) (x3 : Int) (x4 : Int) (x5 : List D) (k : List D → Option R) : Option R :=
 bif decide ((0 : Int) < x1) then
 (Z2 x2 x3 x4 (5 : Int)).bind (fun y0 =>
 (Z19 y0.snd.fst y0.snd.snd.fst y0.snd.snd.snd (IntKind.i64.wrap (x0 + y0.fst))).bind (fun y1 =>
 if x5.length + [D.node [D.int y1.fst, D.node y1.snd.fst]].length ≤ (4294967296 : Nat) then
 (F x0 (IntKind.i64.wrap (x1 - 1)) y1.snd.snd.fst y1.snd.snd.snd.fst y1.snd.snd.snd.snd (x5 ++ [D.node [D.int y1.fst, D.node y1.snd.fst]])).bind k
 else
 none))
 else
 k x5
theorem c_Z20_bind {R : Type} (F : Int → Int → List D → Int → Int → List D → Option (List D)) (x0 : Int) (x1 : Int) (x2 : List D) (x3 : Int) (x4 : Int) (x5 : List D) (k : List D → Option R) : c_Z20 F x0 x1 x2 x3 x4 x5 k = (c_Z20 F x0 x1 x2 x3 x4 x5 some).bind k := by
 unfold c_Z20
 repeat' first|exact bnd_tail|exact bnd_none|exact bnd_leaf|apply bnd_ite|apply bnd_cond|apply bnd_sum|(apply bnd_bind;intro _)|intro _
def n_Z20 : Nat → Int → Int → List D → Int → Int → List D → Option (List D)
 | 0, _, _, _, _, _, _ => none
 | n + 1, x0, x1, x2, x3, x4, x5 => c_Z20 (n_Z20 n) x0 x1 x2 x3 x4 x5 some
noncomputable def Z20 (x0 : Int) (x1 : Int) (x2 : List D) (x3 : Int) (x4 : Int) (x5 : List D) : Option (List D) := ev (fun n => n_Z20 n x0 x1 x2 x3 x4 x5)
def m_Z20 (F : Int → Int → List D → Int → Int → List D → Option (List D)) : Lent := ⟨5, ⟨(.undef :: .undef :: .undef :: .ptr 1000 [0] :: .int .i64 :: .full 1001 [] (.struct [.int .i64, .slice (.int .i64)]) :: .int .i64 :: uu 28 ([])), [(1000, .obox (.agg [.rd (.int .u8), .int .i64, .int .u64])), (1001, .own (.struct [.int .i64, .slice (.int .i64)]))]⟩, [(.exit 0, ⟨(uu 5 (.full 1000 [] (.struct [.int .i64, .slice (.int .i64)]) :: uu 29 ([]))), [(1000, .own (.struct [.int .i64, .slice (.int .i64)]))]⟩)], fun _ ds k => dI (fun x0 ds => dI (fun x1 ds => dL (fun x2 ds => dI (fun x3 ds => dI (fun x4 ds => dL (fun x5 ds => dE ((F x0 x1 x2 x3 x4 x5).bind (fun y => k 0 [.L y])) ds) ds) ds) ds) ds) ds) ds⟩
theorem q_Z20 (F : Int → Int → List D → Int → Int → List D → Option (List D)) (x0 : Int) (x1 : Int) (x2 : List D) (x3 : Int) (x4 : Int) (x5 : List D) : runLoop (ocOf [e_Z2, e_Z19]) (olOf [m_Z20 F]) A 52 (codeAt (bodyOf Try.f52) 5) ((m_Z20 F).sh.mk' [.I x0, .I x1, .L x2, .I x3, .I x4, .L x5]) (fun e σ' => some (e, σ')) = c_Z20 F x0 x1 x2 x3 x4 x5 (fun y => some (.exit 0, SSt.mk' ⟨(uu 5 (.full 1000 [] (.struct [.int .i64, .slice (.int .i64)]) :: uu 29 ([]))), [(1000, .own (.struct [.int .i64, .slice (.int .i64)]))]⟩ [.L y])) := by kernel_rfl
theorem m_Z20_ok : ∀ n, (m_Z20 (n_Z20 n)).ok Try.prog (codeAt (bodyOf Try.f52) 5) := by
 intro n
 induction n with
 | zero =>
  intro R ds k r h
  unfold m_Z20 at h
  obtain ⟨x0, d0, rfl, h0⟩ := dI_some h
  obtain ⟨x1, d1, rfl, h1⟩ := dI_some h0
  obtain ⟨x2, d2, rfl, h2⟩ := dL_some h1
  obtain ⟨x3, d3, rfl, h3⟩ := dI_some h2
  obtain ⟨x4, d4, rfl, h4⟩ := dI_some h3
  obtain ⟨x5, d5, rfl, h5⟩ := dL_some h4
  obtain ⟨rfl, hE⟩ := dE_some h5
  obtain ⟨y, hy, hk⟩ := bnd_some hE
  cases hy
 | succ n ih =>
  intro R ds k r h
  unfold m_Z20 at h
  obtain ⟨x0, d0, rfl, h0⟩ := dI_some h
  obtain ⟨x1, d1, rfl, h1⟩ := dI_some h0
  obtain ⟨x2, d2, rfl, h2⟩ := dL_some h1
  obtain ⟨x3, d3, rfl, h3⟩ := dI_some h2
  obtain ⟨x4, d4, rfl, h4⟩ := dI_some h3
  obtain ⟨x5, d5, rfl, h5⟩ := dL_some h4
  obtain ⟨rfl, hE⟩ := dE_some h5
  obtain ⟨y, hy, hk⟩ := bnd_some hE
  have hq := q_Z20 (n_Z20 n) x0 x1 x2 x3 x4 x5
  rw [c_Z20_bind] at hq
  rw [show c_Z20 (n_Z20 n) x0 x1 x2 x3 x4 x5 some = some y from hy] at hq
  refine ⟨0, _, _, _, hk, rfl, loop_ok px (fx := ⟨Try.func52, by kernel_rfl, by kernel_rfl⟩) (entsOK_cons e_Z2_ok (entsOK_cons e_Z19_ok entsOK_nil)) (lentsOK_cons ih lentsOK_nil) (by kernel_rfl) ?_⟩
  exact hq
noncomputable def e_Z20 : Lent := m_Z20 (Z20)
theorem e_Z20_ok : (e_Z20).ok Try.prog (codeAt (bodyOf Try.f52) 5) := by
 intro R ds k r h
 unfold e_Z20 m_Z20 at h
 obtain ⟨x0, d0, rfl, h0⟩ := dI_some h
 obtain ⟨x1, d1, rfl, h1⟩ := dI_some h0
 obtain ⟨x2, d2, rfl, h2⟩ := dL_some h1
 obtain ⟨x3, d3, rfl, h3⟩ := dI_some h2
 obtain ⟨x4, d4, rfl, h4⟩ := dI_some h3
 obtain ⟨x5, d5, rfl, h5⟩ := dL_some h4
 obtain ⟨rfl, hE⟩ := dE_some h5
 obtain ⟨y, hy, hk⟩ := bnd_some hE
 obtain ⟨n, hn⟩ := ev_some hy
 exact m_Z20_ok n R _ k r (show (n_Z20 n x0 x1 x2 x3 x4 x5).bind _ = _ by rw [hn]; exact hk)

/-!-/
def c_Z21 {R : Type} (x0 : List D) (k : List D → Option R) : Option R :=
 (Z4 x0 (0 : Int) (0 : Int)).bind (fun y0 =>
 (Z2 y0.snd.fst y0.snd.snd.fst y0.snd.snd.snd (40 : Int)).bind (fun y1 =>
 if (20 : Int) ≠ (0 : Int) then
 if (0 : Int) ≤ (0 : Int) ∧ (0 : Int) ≤ IntKind.i64.wrap ((5 : Int) + IntKind.i64.wrap (y1.fst.tdiv (20 : Int))) ∧ IntKind.i64.wrap ((5 : Int) + IntKind.i64.wrap (y1.fst.tdiv (20 : Int))) ≤ (↑[D.int (1 : Int), D.int (2 : Int), D.int (3 : Int), D.int (4 : Int), D.int (2 : Int), D.int 0, D.int (5 : Int)].length : Int) then
 if (0 : Nat) + ((IntKind.i64.wrap ((5 : Int) + IntKind.i64.wrap (y1.fst.tdiv (20 : Int)))).toNat - (0 : Nat)) ≤ [D.int (1 : Int), D.int (2 : Int), D.int (3 : Int), D.int (4 : Int), D.int (2 : Int), D.int 0, D.int (5 : Int)].length then
 (Z3 y1.snd.fst y1.snd.snd.fst y1.snd.snd.snd (List.take ((IntKind.i64.wrap ((5 : Int) + IntKind.i64.wrap (y1.fst.tdiv (20 : Int)))).toNat - (0 : Nat)) (List.drop (0 : Nat) [D.int (1 : Int), D.int (2 : Int), D.int (3 : Int), D.int (4 : Int), D.int (2 : Int), D.int 0, D.int (5 : Int)]))).bind (fun y2 =>
 (Z20 y0.fst y2.fst y2.snd.fst y2.snd.snd.fst y2.snd.snd.snd []).bind (fun y3 =>
 k y3))
 else
 none
 else
 none
 else
 none))
theorem c_Z21_bind {R : Type} (x0 : List D) (k : List D → Option R) : c_Z21 x0 k = (c_Z21 x0 some).bind k := by
 unfold c_Z21
 repeat' first|exact bnd_tail|exact bnd_none|exact bnd_leaf|apply bnd_ite|apply bnd_cond|apply bnd_sum|(apply bnd_bind;intro _)|intro _
def Z21 (x0 : List D) : Option (List D) := c_Z21 x0 some
def e_Z21 : Ent := ⟨52, [.rd (.int .u8)], .own (.struct [.int .i64, .slice (.int .i64)]), [.undef], fun _ ds k => dL (fun x0 ds => dE ((Z21 x0).bind (fun y => k [.L y])) ds) ds⟩
theorem q_Z21 (x0 : List D) : runFn (ocOf [e_Z4, e_Z2, e_Z3]) (olOf [e_Z20]) A 52 Try.f52 (Sh.mks e_Z21.sh [.L x0]).1 (fun v os => some (v, os)) = c_Z21 x0 (fun y => some ((e_Z21.res.mk [.L y]).1, (Sh.mks e_Z21.outs (e_Z21.res.mk [.L y]).2).1)) := by kernel_rfl
theorem e_Z21_ok : e_Z21.ok Try.prog A := by
 intro R ds k r h
 unfold e_Z21 at h
 obtain ⟨x0, d0, rfl, h0⟩ := dL_some h
 obtain ⟨rfl, hE⟩ := dE_some h0
 obtain ⟨y, hy, hk⟩ := bnd_some hE
 refine ⟨_, hk, fn_ok px (fx := ⟨Try.func52, by kernel_rfl, by kernel_rfl⟩) (entsOK_cons e_Z4_ok (entsOK_cons e_Z2_ok (entsOK_cons e_Z3_ok entsOK_nil))) (lentsOK_cons e_Z20_ok lentsOK_nil) ?_⟩
 have hq := q_Z21 x0
 rw [c_Z21_bind] at hq
 rw [show c_Z21 x0 some = some y from hy] at hq
 exact hq

/-!-/
def c_Z22 {R : Type} (x0 : Int) (x1 : Int) (x2 : Int) (k : Bool → Option R) : Option R :=
 bif decide (x1 ≤ x0) then
 k (decide (x0 ≤ x2))
 else
 k Bool.false
theorem c_Z22_bind {R : Type} (x0 : Int) (x1 : Int) (x2 : Int) (k : Bool → Option R) : c_Z22 x0 x1 x2 k = (c_Z22 x0 x1 x2 some).bind k := by
 unfold c_Z22
 repeat' first|exact bnd_tail|exact bnd_none|exact bnd_leaf|apply bnd_ite|apply bnd_cond|apply bnd_sum|(apply bnd_bind;intro _)|intro _
def Z22 (x0 : Int) (x1 : Int) (x2 : Int) : Option (Bool) := c_Z22 x0 x1 x2 some
def e_Z22 : Ent := ⟨75, [.int .i64, .int .i64, .int .i64], .bool, [.undef, .undef, .undef], fun _ ds k => dI (fun x0 ds => dI (fun x1 ds => dI (fun x2 ds => dE ((Z22 x0 x1 x2).bind (fun y => k [.B y])) ds) ds) ds) ds⟩
theorem q_Z22 (x0 : Int) (x1 : Int) (x2 : Int) : runFn (ocOf []) (olOf []) A 75 Try.f75 (Sh.mks e_Z22.sh [.I x0, .I x1, .I x2]).1 (fun v os => some (v, os)) = c_Z22 x0 x1 x2 (fun y => some ((e_Z22.res.mk [.B y]).1, (Sh.mks e_Z22.outs (e_Z22.res.mk [.B y]).2).1)) := by kernel_rfl
theorem e_Z22_ok : e_Z22.ok Try.prog A := by
 intro R ds k r h
 unfold e_Z22 at h
 obtain ⟨x0, d0, rfl, h0⟩ := dI_some h
 obtain ⟨x1, d1, rfl, h1⟩ := dI_some h0
 obtain ⟨x2, d2, rfl, h2⟩ := dI_some h1
 obtain ⟨rfl, hE⟩ := dE_some h2
 obtain ⟨y, hy, hk⟩ := bnd_some hE
 refine ⟨_, hk, fn_ok px (fx := ⟨Try.func75, by kernel_rfl, by kernel_rfl⟩) entsOK_nil lentsOK_nil ?_⟩
 have hq := q_Z22 x0 x1 x2
 rw [c_Z22_bind] at hq
 rw [show c_Z22 x0 x1 x2 some = some y from hy] at hq
 exact hq

/-!-/
def c_Z23 {R : Type} (x0 : Int) (k : Bool → Option R) : Option R :=
 (Z22 x0 (-20000 : Int) (2100 : Int)).bind (fun y0 =>
 k y0)
theorem c_Z23_bind {R : Type} (x0 : Int) (k : Bool → Option R) : c_Z23 x0 k = (c_Z23 x0 some).bind k := by
 unfold c_Z23
 repeat' first|exact bnd_tail|exact bnd_none|exact bnd_leaf|apply bnd_ite|apply bnd_cond|apply bnd_sum|(apply bnd_bind;intro _)|intro _
def Z23 (x0 : Int) : Option (Bool) := c_Z23 x0 some
def e_Z23 : Ent := ⟨79, [.int .i64], .bool, [.undef], fun _ ds k => dI (fun x0 ds => dE ((Z23 x0).bind (fun y => k [.B y])) ds) ds⟩
theorem q_Z23 (x0 : Int) : runFn (ocOf [e_Z22]) (olOf []) A 79 Try.f79 (Sh.mks e_Z23.sh [.I x0]).1 (fun v os => some (v, os)) = c_Z23 x0 (fun y => some ((e_Z23.res.mk [.B y]).1, (Sh.mks e_Z23.outs (e_Z23.res.mk [.B y]).2).1)) := by kernel_rfl
theorem e_Z23_ok : e_Z23.ok Try.prog A := by
 intro R ds k r h
 unfold e_Z23 at h
 obtain ⟨x0, d0, rfl, h0⟩ := dI_some h
 obtain ⟨rfl, hE⟩ := dE_some h0
 obtain ⟨y, hy, hk⟩ := bnd_some hE
 refine ⟨_, hk, fn_ok px (fx := ⟨Try.func79, by kernel_rfl, by kernel_rfl⟩) (entsOK_cons e_Z22_ok entsOK_nil) lentsOK_nil ?_⟩
 have hq := q_Z23 x0
 rw [c_Z23_bind] at hq
 rw [show c_Z23 x0 some = some y from hy] at hq
 exact hq

/-!-/
def c_Z24 {R : Type} (x0 : Int) (x1 : List D) (k : Int → Option R) : Option R :=
 k (IntKind.i64.wrap (IntKind.i64.wrap (x0 + (↑x1.length : Int)) - (1 : Int)))
theorem c_Z24_bind {R : Type} (x0 : Int) (x1 : List D) (k : Int → Option R) : c_Z24 x0 x1 k = (c_Z24 x0 x1 some).bind k := by
 unfold c_Z24
 repeat' first|exact bnd_tail|exact bnd_none|exact bnd_leaf|apply bnd_ite|apply bnd_cond|apply bnd_sum|(apply bnd_bind;intro _)|intro _
def Z24 (x0 : Int) (x1 : List D) : Option (Int) := c_Z24 x0 x1 some
def e_Z24 : Ent := ⟨96, [.agg [.int .i64, .rd (.int .i64)]], .int .i64, [.undef], fun _ ds k => dI (fun x0 ds => dL (fun x1 ds => dE ((Z24 x0 x1).bind (fun y => k [.I y])) ds) ds) ds⟩
theorem q_Z24 (x0 : Int) (x1 : List D) : runFn (ocOf []) (olOf []) A 96 Try.f96 (Sh.mks e_Z24.sh [.I x0, .L x1]).1 (fun v os => some (v, os)) = c_Z24 x0 x1 (fun y => some ((e_Z24.res.mk [.I y]).1, (Sh.mks e_Z24.outs (e_Z24.res.mk [.I y]).2).1)) := by kernel_rfl
theorem e_Z24_ok : e_Z24.ok Try.prog A := by
 intro R ds k r h
 unfold e_Z24 at h
 obtain ⟨x0, d0, rfl, h0⟩ := dI_some h
 obtain ⟨x1, d1, rfl, h1⟩ := dL_some h0
 obtain ⟨rfl, hE⟩ := dE_some h1
 obtain ⟨y, hy, hk⟩ := bnd_some hE
 refine ⟨_, hk, fn_ok px (fx := ⟨Try.func96, by kernel_rfl, by kernel_rfl⟩) entsOK_nil lentsOK_nil ?_⟩
 have hq := q_Z24 x0 x1
 rw [c_Z24_bind] at hq
 rw [show c_Z24 x0 x1 some = some y from hy] at hq
 exact hq

/-!-/
def c_Z25 {R : Type} (x0 : Int) (k : Bool → Option R) : Option R :=
 (Z22 x0 (0 : Int) (1000000 : Int)).bind (fun y0 =>
 k !y0)
theorem c_Z25_bind {R : Type} (x0 : Int) (k : Bool → Option R) : c_Z25 x0 k = (c_Z25 x0 some).bind k := by
 unfold c_Z25
 repeat' first|exact bnd_tail|exact bnd_none|exact bnd_leaf|apply bnd_ite|apply bnd_cond|apply bnd_sum|(apply bnd_bind;intro _)|intro _
def Z25 (x0 : Int) : Option (Bool) := c_Z25 x0 some
def e_Z25 : Ent := ⟨97, [.int .i64], .bool, [.undef], fun _ ds k => dI (fun x0 ds => dE ((Z25 x0).bind (fun y => k [.B y])) ds) ds⟩
theorem q_Z25 (x0 : Int) : runFn (ocOf [e_Z22]) (olOf []) A 97 Try.f97 (Sh.mks e_Z25.sh [.I x0]).1 (fun v os => some (v, os)) = c_Z25 x0 (fun y => some ((e_Z25.res.mk [.B y]).1, (Sh.mks e_Z25.outs (e_Z25.res.mk [.B y]).2).1)) := by kernel_rfl
theorem e_Z25_ok : e_Z25.ok Try.prog A := by
 intro R ds k r h
 unfold e_Z25 at h
 obtain ⟨x0, d0, rfl, h0⟩ := dI_some h
 obtain ⟨rfl, hE⟩ := dE_some h0
 obtain ⟨y, hy, hk⟩ := bnd_some hE
 refine ⟨_, hk, fn_ok px (fx := ⟨Try.func97, by kernel_rfl, by kernel_rfl⟩) (entsOK_cons e_Z22_ok entsOK_nil) lentsOK_nil ?_⟩
 have hq := q_Z25 x0
 rw [c_Z25_bind] at hq
 rw [show c_Z25 x0 some = some y from hy] at hq
 exact hq

/-!-/
def c_Z26 {R : Type} (F : List D → Int → Int → Option ((Int) ⊕ (Unit))) (x0 : List D) (x1 : Int) (x2 : Int) (k : (Int) ⊕ (Unit) → Option R) : Option R :=
 bif decide (x2 < x1) then
 if 0 ≤ x2 ∧ x2 < (↑x0.length : Int) then
 (Z25 ((x0.getD x2.toNat (D.int 0)).toInt)).bind (fun y0 =>
 bif y0 then
 k (.inl x2)
 else
 (F x0 x1 (IntKind.i64.wrap (x2 + 1))).bind k)
 else
 none
 else
 k (.inr ())
theorem c_Z26_bind {R : Type} (F : List D → Int → Int → Option ((Int) ⊕ (Unit))) (x0 : List D) (x1 : Int) (x2 : Int) (k : (Int) ⊕ (Unit) → Option R) : c_Z26 F x0 x1 x2 k = (c_Z26 F x0 x1 x2 some).bind k := by
 unfold c_Z26
 repeat' first|exact bnd_tail|exact bnd_none|exact bnd_leaf|apply bnd_ite|apply bnd_cond|apply bnd_sum|(apply bnd_bind;intro _)|intro _
def n_Z26 : Nat → List D → Int → Int → Option ((Int) ⊕ (Unit))
 | 0, _, _, _ => none
 | n + 1, x0, x1, x2 => c_Z26 (n_Z26 n) x0 x1 x2 some
noncomputable def Z26 (x0 : List D) (x1 : Int) (x2 : Int) : Option ((Int) ⊕ (Unit)) := ev (fun n => n_Z26 n x0 x1 x2)
def m_Z26 (F : List D → Int → Int → Option ((Int) ⊕ (Unit))) : Lent := ⟨2, ⟨(.rd (.int .i64) :: .fn 97 [] :: uu 5 (.int .i64 :: .int .i64 :: uu 10 ([]))), []⟩, [(.ret, ⟨(uu 4 (.int .i64 :: uu 14 ([]))), []⟩), (.exit 0, ⟨(uu 19 ([])), []⟩)], fun _ ds k => dL (fun x0 ds => dI (fun x1 ds => dI (fun x2 ds => dE ((F x0 x1 x2).bind (Sum.elim (fun y => k 0 [.I y]) (fun y => k 1 []))) ds) ds) ds) ds⟩
theorem q_Z26 (F : List D → Int → Int → Option ((Int) ⊕ (Unit))) (x0 : List D) (x1 : Int) (x2 : Int) : runLoop (ocOf [e_Z25]) (olOf [m_Z26 F]) A 152 (codeAt (bodyOf Try.f152) 2) ((m_Z26 F).sh.mk' [.L x0, .I x1, .I x2]) (fun e σ' => some (e, σ')) = c_Z26 F x0 x1 x2 (Sum.elim (fun y => some (.ret, SSt.mk' ⟨(uu 4 (.int .i64 :: uu 14 ([]))), []⟩ [.I y])) (fun y => some (.exit 0, SSt.mk' ⟨(uu 19 ([])), []⟩ []))) := by kernel_rfl
theorem m_Z26_ok : ∀ n, (m_Z26 (n_Z26 n)).ok Try.prog (codeAt (bodyOf Try.f152) 2) := by
 intro n
 induction n with
 | zero =>
  intro R ds k r h
  unfold m_Z26 at h
  obtain ⟨x0, d0, rfl, h0⟩ := dL_some h
  obtain ⟨x1, d1, rfl, h1⟩ := dI_some h0
  obtain ⟨x2, d2, rfl, h2⟩ := dI_some h1
  obtain ⟨rfl, hE⟩ := dE_some h2
  obtain ⟨y, hy, hk⟩ := bnd_some hE
  cases hy
 | succ n ih =>
  intro R ds k r h
  unfold m_Z26 at h
  obtain ⟨x0, d0, rfl, h0⟩ := dL_some h
  obtain ⟨x1, d1, rfl, h1⟩ := dI_some h0
  obtain ⟨x2, d2, rfl, h2⟩ := dI_some h1
  obtain ⟨rfl, hE⟩ := dE_some h2
  obtain ⟨y, hy, hk⟩ := bnd_some hE
  have hq := q_Z26 (n_Z26 n) x0 x1 x2
  rw [c_Z26_bind] at hq
  rw [show c_Z26 (n_Z26 n) x0 x1 x2 some = some y from hy] at hq
  cases y with
  | inl y =>
   refine ⟨0, _, _, _, hk, rfl, loop_ok px (fx := ⟨Try.func152, by kernel_rfl, by kernel_rfl⟩) (entsOK_cons e_Z25_ok entsOK_nil) (lentsOK_cons ih lentsOK_nil) (by kernel_rfl) ?_⟩
   exact hq
  | inr y =>
   refine ⟨1, _, _, _, hk, rfl, loop_ok px (fx := ⟨Try.func152, by kernel_rfl, by kernel_rfl⟩) (entsOK_cons e_Z25_ok entsOK_nil) (lentsOK_cons ih lentsOK_nil) (by kernel_rfl) ?_⟩
   exact hq
noncomputable def e_Z26 : Lent := m_Z26 (Z26)
theorem e_Z26_ok : (e_Z26).ok Try.prog (codeAt (bodyOf Try.f152) 2) := by
 intro R ds k r h
 unfold e_Z26 m_Z26 at h
 obtain ⟨x0, d0, rfl, h0⟩ := dL_some h
 obtain ⟨x1, d1, rfl, h1⟩ := dI_some h0
 obtain ⟨x2, d2, rfl, h2⟩ := dI_some h1
 obtain ⟨rfl, hE⟩ := dE_some h2
 obtain ⟨y, hy, hk⟩ := bnd_some hE
 obtain ⟨n, hn⟩ := ev_some hy
 exact m_Z26_ok n R _ k r (show (n_Z26 n x0 x1 x2).bind _ = _ by rw [hn]; exact hk)

/-!-/
def c_Z27 {R : Type} (x0 : List D) (k : Int → Option R) : Option R :=
 (Z26 x0 (↑x0.length : Int) (0 : Int)).bind (Sum.elim (fun y0 =>
 k y0) (fun y1 =>
 k (-1 : Int)))
theorem c_Z27_bind {R : Type} (x0 : List D) (k : Int → Option R) : c_Z27 x0 k = (c_Z27 x0 some).bind k := by
 unfold c_Z27
 repeat' first|exact bnd_tail|exact bnd_none|exact bnd_leaf|apply bnd_ite|apply bnd_cond|apply bnd_sum|(apply bnd_bind;intro _)|intro _
def Z27 (x0 : List D) : Option (Int) := c_Z27 x0 some
def e_Z27 : Ent := ⟨152, [.rd (.int .i64), .fn 97 []], .int .i64, [.undef, .undef], fun _ ds k => dL (fun x0 ds => dE ((Z27 x0).bind (fun y => k [.I y])) ds) ds⟩
theorem q_Z27 (x0 : List D) : runFn (ocOf []) (olOf [e_Z26]) A 152 Try.f152 (Sh.mks e_Z27.sh [.L x0]).1 (fun v os => some (v, os)) = c_Z27 x0 (fun y => some ((e_Z27.res.mk [.I y]).1, (Sh.mks e_Z27.outs (e_Z27.res.mk [.I y]).2).1)) := by kernel_rfl
theorem e_Z27_ok : e_Z27.ok Try.prog A := by
 intro R ds k r h
 unfold e_Z27 at h
 obtain ⟨x0, d0, rfl, h0⟩ := dL_some h
 obtain ⟨rfl, hE⟩ := dE_some h0
 obtain ⟨y, hy, hk⟩ := bnd_some hE
 refine ⟨_, hk, fn_ok px (fx := ⟨Try.func152, by kernel_rfl, by kernel_rfl⟩) entsOK_nil (lentsOK_cons e_Z26_ok lentsOK_nil) ?_⟩
 have hq := q_Z27 x0
 rw [c_Z27_bind] at hq
 rw [show c_Z27 x0 some = some y from hy] at hq
 exact hq

/-!-/
def c_Z28 {R : Type} (x0 : List D) (k : Bool → Option R) : Option R :=
 (Z27 x0).bind (fun y0 =>
 k (decide ((0 : Int) ≤ y0)))
theorem c_Z28_bind {R : Type} (x0 : List D) (k : Bool → Option R) : c_Z28 x0 k = (c_Z28 x0 some).bind k := by
 unfold c_Z28
 repeat' first|exact bnd_tail|exact bnd_none|exact bnd_leaf|apply bnd_ite|apply bnd_cond|apply bnd_sum|(apply bnd_bind;intro _)|intro _
def Z28 (x0 : List D) : Option (Bool) := c_Z28 x0 some
def e_Z28 : Ent := ⟨92, [.rd (.int .i64), .fn 97 []], .bool, [.undef, .undef], fun _ ds k => dL (fun x0 ds => dE ((Z28 x0).bind (fun y => k [.B y])) ds) ds⟩
theorem q_Z28 (x0 : List D) : runFn (ocOf [e_Z27]) (olOf []) A 92 Try.f92 (Sh.mks e_Z28.sh [.L x0]).1 (fun v os => some (v, os)) = c_Z28 x0 (fun y => some ((e_Z28.res.mk [.B y]).1, (Sh.mks e_Z28.outs (e_Z28.res.mk [.B y]).2).1)) := by kernel_rfl
theorem e_Z28_ok : e_Z28.ok Try.prog A := by
 intro R ds k r h
 unfold e_Z28 at h
 obtain ⟨x0, d0, rfl, h0⟩ := dL_some h
 obtain ⟨rfl, hE⟩ := dE_some h0
 obtain ⟨y, hy, hk⟩ := bnd_some hE
 refine ⟨_, hk, fn_ok px (fx := ⟨Try.func92, by kernel_rfl, by kernel_rfl⟩) (entsOK_cons e_Z27_ok entsOK_nil) lentsOK_nil ?_⟩
 have hq := q_Z28 x0
 rw [c_Z28_bind] at hq
 rw [show c_Z28 x0 some = some y from hy] at hq
 exact hq

/-!-/
def c_Z29 {R : Type} (F : Int → Int → Option (Int)) (x0 : Int) (x1 : Int) (k : Int → Option R) : Option R :=
 bif !decide (x1 = (0 : Int)) then
 if x1 ≠ (0 : Int) then
 (F x1 (x0.tmod x1)).bind k
 else
 none
 else
 k x0
theorem c_Z29_bind {R : Type} (F : Int → Int → Option (Int)) (x0 : Int) (x1 : Int) (k : Int → Option R) : c_Z29 F x0 x1 k = (c_Z29 F x0 x1 some).bind k := by
 unfold c_Z29
 repeat' first|exact bnd_tail|exact bnd_none|exact bnd_leaf|apply bnd_ite|apply bnd_cond|apply bnd_sum|(apply bnd_bind;intro _)|intro _
def n_Z29 : Nat → Int → Int → Option (Int)
 | 0, _, _ => none
 | n + 1, x0, x1 => c_Z29 (n_Z29 n) x0 x1 some
noncomputable def Z29 (x0 : Int) (x1 : Int) : Option (Int) := ev (fun n => n_Z29 n x0 x1)
def m_Z29 (F : Int → Int → Option (Int)) : Lent := ⟨1, ⟨(.int .i64 :: .int .i64 :: uu 10 ([])), []⟩, [(.exit 0, ⟨(.int .i64 :: uu 11 ([])), []⟩)], fun _ ds k => dI (fun x0 ds => dI (fun x1 ds => dE ((F x0 x1).bind (fun y => k 0 [.I y])) ds) ds) ds⟩
theorem q_Z29 (F : Int → Int → Option (Int)) (x0 : Int) (x1 : Int) : runLoop (ocOf []) (olOf [m_Z29 F]) A 153 (codeAt (bodyOf Try.f153) 1) ((m_Z29 F).sh.mk' [.I x0, .I x1]) (fun e σ' => some (e, σ')) = c_Z29 F x0 x1 (fun y => some (.exit 0, SSt.mk' ⟨(.int .i64 :: uu 11 ([])), []⟩ [.I y])) := by kernel_rfl
theorem m_Z29_ok : ∀ n, (m_Z29 (n_Z29 n)).ok Try.prog (codeAt (bodyOf Try.f153) 1) := by
 intro n
 induction n with
 | zero =>
  intro R ds k r h
  unfold m_Z29 at h
  obtain ⟨x0, d0, rfl, h0⟩ := dI_some h
  obtain ⟨x1, d1, rfl, h1⟩ := dI_some h0
  obtain ⟨rfl, hE⟩ := dE_some h1
  obtain ⟨y, hy, hk⟩ := bnd_some hE
  cases hy
 | succ n ih =>
  intro R ds k r h
  unfold m_Z29 at h
  obtain ⟨x0, d0, rfl, h0⟩ := dI_some h
  obtain ⟨x1, d1, rfl, h1⟩ := dI_some h0
  obtain ⟨rfl, hE⟩ := dE_some h1
  obtain ⟨y, hy, hk⟩ := bnd_some hE
  have hq := q_Z29 (n_Z29 n) x0 x1
  rw [c_Z29_bind] at hq
  rw [show c_Z29 (n_Z29 n) x0 x1 some = some y from hy] at hq
  refine ⟨0, _, _, _, hk, rfl, loop_ok px (fx := ⟨Try.func153, by kernel_rfl, by kernel_rfl⟩) entsOK_nil (lentsOK_cons ih lentsOK_nil) (by kernel_rfl) ?_⟩
  exact hq
noncomputable def e_Z29 : Lent := m_Z29 (Z29)
theorem e_Z29_ok : (e_Z29).ok Try.prog (codeAt (bodyOf Try.f153) 1) := by
 intro R ds k r h
 unfold e_Z29 m_Z29 at h
 obtain ⟨x0, d0, rfl, h0⟩ := dI_some h
 obtain ⟨x1, d1, rfl, h1⟩ := dI_some h0
 obtain ⟨rfl, hE⟩ := dE_some h1
 obtain ⟨y, hy, hk⟩ := bnd_some hE
 obtain ⟨n, hn⟩ := ev_some hy
 exact m_Z29_ok n R _ k r (show (n_Z29 n x0 x1).bind _ = _ by rw [hn]; exact hk)

/-!-/
def c_Z30 {R : Type} (x0 : Int) (x1 : Int) (k : Int → Option R) : Option R :=
 (Z29 x0 x1).bind (fun y0 =>
 k y0)
theorem c_Z30_bind {R : Type} (x0 : Int) (x1 : Int) (k : Int → Option R) : c_Z30 x0 x1 k = (c_Z30 x0 x1 some).bind k := by
 unfold c_Z30
 repeat' first|exact bnd_tail|exact bnd_none|exact bnd_leaf|apply bnd_ite|apply bnd_cond|apply bnd_sum|(apply bnd_bind;intro _)|intro _
def Z30 (x0 : Int) (x1 : Int) : Option (Int) := c_Z30 x0 x1 some
def e_Z30 : Ent := ⟨153, [.int .i64, .int .i64], .int .i64, [.undef, .undef], fun _ ds k => dI (fun x0 ds => dI (fun x1 ds => dE ((Z30 x0 x1).bind (fun y => k [.I y])) ds) ds) ds⟩
theorem q_Z30 (x0 : Int) (x1 : Int) : runFn (ocOf []) (olOf [e_Z29]) A 153 Try.f153 (Sh.mks e_Z30.sh [.I x0, .I x1]).1 (fun v os => some (v, os)) = c_Z30 x0 x1 (fun y => some ((e_Z30.res.mk [.I y]).1, (Sh.mks e_Z30.outs (e_Z30.res.mk [.I y]).2).1)) := by kernel_rfl
theorem e_Z30_ok : e_Z30.ok Try.prog A := by
 intro R ds k r h
 unfold e_Z30 at h
 obtain ⟨x0, d0, rfl, h0⟩ := dI_some h
 obtain ⟨x1, d1, rfl, h1⟩ := dI_some h0
 obtain ⟨rfl, hE⟩ := dE_some h1
 obtain ⟨y, hy, hk⟩ := bnd_some hE
 refine ⟨_, hk, fn_ok px (fx := ⟨Try.func153, by kernel_rfl, by kernel_rfl⟩) entsOK_nil (lentsOK_cons e_Z29_ok lentsOK_nil) ?_⟩
 have hq := q_Z30 x0 x1
 rw [c_Z30_bind] at hq
 rw [show c_Z30 x0 x1 some = some y from hy] at hq
 exact hq

/-!-/
def c_Z31 {R : Type} (F : Int → List D → Int → Int → Option (Int)) (x0 : Int) (x1 : List D) (x2 : Int) (x3 : Int) (k : Int → Option R) : Option R :=
 bif decide (x3 < x2) then
 if 0 ≤ x3 ∧ x3 < (↑x1.length : Int) then
 (Z30 x0 ((x1.getD x3.toNat (D.int 0)).toInt)).bind (fun y0 =>
 (F y0 x1 x2 (IntKind.i64.wrap (x3 + 1))).bind k)
 else
 none
 else
 k x0
theorem c_Z31_bind {R : Type} (F : Int → List D → Int → Int → Option (Int)) (x0 : Int) (x1 : List D) (x2 : Int) (x3 : Int) (k : Int → Option R) : c_Z31 F x0 x1 x2 x3 k = (c_Z31 F x0 x1 x2 x3 some).bind k := by
 unfold c_Z31
 repeat' first|exact bnd_tail|exact bnd_none|exact bnd_leaf|apply bnd_ite|apply bnd_cond|apply bnd_sum|(apply bnd_bind;intro _)|intro _
def n_Z31 : Nat → Int → List D → Int → Int → Option (Int)
 | 0, _, _, _, _ => none
 | n + 1, x0, x1, x2, x3 => c_Z31 (n_Z31 n) x0 x1 x2 x3 some
noncomputable def Z31 (x0 : Int) (x1 : List D) (x2 : Int) (x3 : Int) : Option (Int) := ev (fun n => n_Z31 n x0 x1 x2 x3)
def m_Z31 (F : Int → List D → Int → Int → Option (Int)) : Lent := ⟨3, ⟨(.undef :: .undef :: .undef :: .int .i64 :: .undef :: .undef :: .rd (.int .i64) :: .int .i64 :: .int .i64 :: uu 8 ([])), []⟩, [(.exit 0, ⟨(.undef :: .undef :: .undef :: .int .i64 :: uu 13 ([])), []⟩)], fun _ ds k => dI (fun x0 ds => dL (fun x1 ds => dI (fun x2 ds => dI (fun x3 ds => dE ((F x0 x1 x2 x3).bind (fun y => k 0 [.I y])) ds) ds) ds) ds) ds⟩
theorem q_Z31 (F : Int → List D → Int → Int → Option (Int)) (x0 : Int) (x1 : List D) (x2 : Int) (x3 : Int) : runLoop (ocOf [e_Z30]) (olOf [m_Z31 F]) A 98 (codeAt (bodyOf Try.f98) 3) ((m_Z31 F).sh.mk' [.I x0, .L x1, .I x2, .I x3]) (fun e σ' => some (e, σ')) = c_Z31 F x0 x1 x2 x3 (fun y => some (.exit 0, SSt.mk' ⟨(.undef :: .undef :: .undef :: .int .i64 :: uu 13 ([])), []⟩ [.I y])) := by kernel_rfl
theorem m_Z31_ok : ∀ n, (m_Z31 (n_Z31 n)).ok Try.prog (codeAt (bodyOf Try.f98) 3) := by
 intro n
 induction n with
 | zero =>
  intro R ds k r h
  unfold m_Z31 at h
  obtain ⟨x0, d0, rfl, h0⟩ := dI_some h
  obtain ⟨x1, d1, rfl, h1⟩ := dL_some h0
  obtain ⟨x2, d2, rfl, h2⟩ := dI_some h1
  obtain ⟨x3, d3, rfl, h3⟩ := dI_some h2
  obtain ⟨rfl, hE⟩ := dE_some h3
  obtain ⟨y, hy, hk⟩ := bnd_some hE
  cases hy
 | succ n ih =>
  intro R ds k r h
  unfold m_Z31 at h
  obtain ⟨x0, d0, rfl, h0⟩ := dI_some h
  obtain ⟨x1, d1, rfl, h1⟩ := dL_some h0
  obtain ⟨x2, d2, rfl, h2⟩ := dI_some h1
  obtain ⟨x3, d3, rfl, h3⟩ := dI_some h2
  obtain ⟨rfl, hE⟩ := dE_some h3
  obtain ⟨y, hy, hk⟩ := bnd_some hE
  have hq := q_Z31 (n_Z31 n) x0 x1 x2 x3
  rw [c_Z31_bind] at hq
  rw [show c_Z31 (n_Z31 n) x0 x1 x2 x3 some = some y from hy] at hq
  refine ⟨0, _, _, _, hk, rfl, loop_ok px (fx := ⟨Try.func98, by kernel_rfl, by kernel_rfl⟩) (entsOK_cons e_Z30_ok entsOK_nil) (lentsOK_cons ih lentsOK_nil) (by kernel_rfl) ?_⟩
  exact hq
noncomputable def e_Z31 : Lent := m_Z31 (Z31)
theorem e_Z31_ok : (e_Z31).ok Try.prog (codeAt (bodyOf Try.f98) 3) := by
 intro R ds k r h
 unfold e_Z31 m_Z31 at h
 obtain ⟨x0, d0, rfl, h0⟩ := dI_some h
 obtain ⟨x1, d1, rfl, h1⟩ := dL_some h0
 obtain ⟨x2, d2, rfl, h2⟩ := dI_some h1
 obtain ⟨x3, d3, rfl, h3⟩ := dI_some h2
 obtain ⟨rfl, hE⟩ := dE_some h3
 obtain ⟨y, hy, hk⟩ := bnd_some hE
 obtain ⟨n, hn⟩ := ev_some hy
 exact m_Z31_ok n R _ k r (show (n_Z31 n x0 x1 x2 x3).bind _ = _ by rw [hn]; exact hk)

/-!-/
def c_Z32 {R : Type} (x0 : List D) (k : Int → Option R) : Option R :=
 (Z31 (0 : Int) x0 (↑x0.length : Int) (0 : Int)).bind (fun y0 =>
 k y0)
theorem c_Z32_bind {R : Type} (x0 : List D) (k : Int → Option R) : c_Z32 x0 k = (c_Z32 x0 some).bind k := by
 unfold c_Z32
 repeat' first|exact bnd_tail|exact bnd_none|exact bnd_leaf|apply bnd_ite|apply bnd_cond|apply bnd_sum|(apply bnd_bind;intro _)|intro _
def Z32 (x0 : List D) : Option (Int) := c_Z32 x0 some
def e_Z32 : Ent := ⟨98, [.rd (.int .i64)], .int .i64, [.undef], fun _ ds k => dL (fun x0 ds => dE ((Z32 x0).bind (fun y => k [.I y])) ds) ds⟩
theorem q_Z32 (x0 : List D) : runFn (ocOf []) (olOf [e_Z31]) A 98 Try.f98 (Sh.mks e_Z32.sh [.L x0]).1 (fun v os => some (v, os)) = c_Z32 x0 (fun y => some ((e_Z32.res.mk [.I y]).1, (Sh.mks e_Z32.outs (e_Z32.res.mk [.I y]).2).1)) := by kernel_rfl
theorem e_Z32_ok : e_Z32.ok Try.prog A := by
 intro R ds k r h
 unfold e_Z32 at h
 obtain ⟨x0, d0, rfl, h0⟩ := dL_some h
 obtain ⟨rfl, hE⟩ := dE_some h0
 obtain ⟨y, hy, hk⟩ := bnd_some hE
 refine ⟨_, hk, fn_ok px (fx := ⟨Try.func98, by kernel_rfl, by kernel_rfl⟩) entsOK_nil (lentsOK_cons e_Z31_ok lentsOK_nil) ?_⟩
 have hq := q_Z32 x0
 rw [c_Z32_bind] at hq
 rw [show c_Z32 x0 some = some y from hy] at hq
 exact hq

/-!-/
def c_Z33 {R : Type} (x0 : Int) (x1 : List D) (k : Bool → Option R) : Option R :=
 bif decide ((↑x1.length : Int) < (1 : Int)) then
 k Bool.false
 else
 bif decide ((60 : Int) < (↑x1.length : Int)) then
 k Bool.false
 else
 (Z23 x0).bind (fun y0 =>
 bif !y0 then
 k Bool.false
 else
 (Z24 x0 x1).bind (fun y1 =>
 (Z23 y1).bind (fun y2 =>
 bif !y2 then
 k Bool.false
 else
 (Z28 x1).bind (fun y3 =>
 bif y3 then
 k Bool.false
 else
 if (0 : Int) ≤ (0 : Int) ∧ (0 : Int) < (↑x1.length : Int) then
 bif decide ((0 : Int) < (x1.getD (Int.toNat (0 : Int)) (D.int 0)).toInt) then
 if (0 : Int) ≤ IntKind.i64.wrap ((↑x1.length : Int) - (1 : Int)) ∧ IntKind.i64.wrap ((↑x1.length : Int) - (1 : Int)) < (↑x1.length : Int) then
 bif decide ((0 : Int) < (x1.getD (IntKind.i64.wrap ((↑x1.length : Int) - (1 : Int))).toNat (D.int 0)).toInt) then
 (Z32 x1).bind (fun y4 =>
 k (decide (y4 = (1 : Int))))
 else
 k Bool.false
 else
 none
 else
 k Bool.false
 else
 none))))
theorem c_Z33_bind {R : Type} (x0 : Int) (x1 : List D) (k : Bool → Option R) : c_Z33 x0 x1 k = (c_Z33 x0 x1 some).bind k := by
 unfold c_Z33
 repeat' first|exact bnd_tail|exact bnd_none|exact bnd_leaf|apply bnd_ite|apply bnd_cond|apply bnd_sum|(apply bnd_bind;intro _)|intro _
def Z33 (x0 : Int) (x1 : List D) : Option (Bool) := c_Z33 x0 x1 some
def e_Z33 : Ent := ⟨32, [.agg [.int .i64, .rd (.int .i64)]], .bool, [.undef], fun _ ds k => dI (fun x0 ds => dL (fun x1 ds => dE ((Z33 x0 x1).bind (fun y => k [.B y])) ds) ds) ds⟩
theorem q_Z33 (x0 : Int) (x1 : List D) : runFn (ocOf [e_Z23, e_Z24, e_Z28, e_Z32]) (olOf []) A 32 Try.f32 (Sh.mks e_Z33.sh [.I x0, .L x1]).1 (fun v os => some (v, os)) = c_Z33 x0 x1 (fun y => some ((e_Z33.res.mk [.B y]).1, (Sh.mks e_Z33.outs (e_Z33.res.mk [.B y]).2).1)) := by kernel_rfl
theorem e_Z33_ok : e_Z33.ok Try.prog A := by
 intro R ds k r h
 unfold e_Z33 at h
 obtain ⟨x0, d0, rfl, h0⟩ := dI_some h
 obtain ⟨x1, d1, rfl, h1⟩ := dL_some h0
 obtain ⟨rfl, hE⟩ := dE_some h1
 obtain ⟨y, hy, hk⟩ := bnd_some hE
 refine ⟨_, hk, fn_ok px (fx := ⟨Try.func32, by kernel_rfl, by kernel_rfl⟩) (entsOK_cons e_Z23_ok (entsOK_cons e_Z24_ok (entsOK_cons e_Z28_ok (entsOK_cons e_Z32_ok entsOK_nil)))) lentsOK_nil ?_⟩
 have hq := q_Z33 x0 x1
 rw [c_Z33_bind] at hq
 rw [show c_Z33 x0 x1 some = some y from hy] at hq
 exact hq

/-!-/
def c_Z34 {R : Type} (F : Int → List D → Int → Int → Option (Int)) (x0 : Int) (x1 : List D) (x2 : Int) (x3 : Int) (k : Int → Option R) : Option R :=
 bif decide (x3 < x2) then
 if 0 ≤ x3 ∧ x3 < (↑x1.length : Int) then
 (F (IntKind.i64.wrap (x0 + (x1.getD x3.toNat (D.int 0)).toInt)) x1 x2 (IntKind.i64.wrap (x3 + 1))).bind k
 else
 none
 else
 k x0
theorem c_Z34_bind {R : Type} (F : Int → List D → Int → Int → Option (Int)) (x0 : Int) (x1 : List D) (x2 : Int) (x3 : Int) (k : Int → Option R) : c_Z34 F x0 x1 x2 x3 k = (c_Z34 F x0 x1 x2 x3 some).bind k := by
 unfold c_Z34
 repeat' first|exact bnd_tail|exact bnd_none|exact bnd_leaf|apply bnd_ite|apply bnd_cond|apply bnd_sum|(apply bnd_bind;intro _)|intro _
def n_Z34 : Nat → Int → List D → Int → Int → Option (Int)
 | 0, _, _, _, _ => none
 | n + 1, x0, x1, x2, x3 => c_Z34 (n_Z34 n) x0 x1 x2 x3 some
noncomputable def Z34 (x0 : Int) (x1 : List D) (x2 : Int) (x3 : Int) : Option (Int) := ev (fun n => n_Z34 n x0 x1 x2 x3)
def m_Z34 (F : Int → List D → Int → Int → Option (Int)) : Lent := ⟨3, ⟨(.undef :: .undef :: .undef :: .int .i64 :: .undef :: .undef :: .rd (.int .i64) :: .int .i64 :: .int .i64 :: uu 8 ([])), []⟩, [(.exit 0, ⟨(.undef :: .undef :: .undef :: .int .i64 :: uu 13 ([])), []⟩)], fun _ ds k => dI (fun x0 ds => dL (fun x1 ds => dI (fun x2 ds => dI (fun x3 ds => dE ((F x0 x1 x2 x3).bind (fun y => k 0 [.I y])) ds) ds) ds) ds) ds⟩
theorem q_Z34 (F : Int → List D → Int → Int → Option (Int)) (x0 : Int) (x1 : List D) (x2 : Int) (x3 : Int) : runLoop (ocOf []) (olOf [m_Z34 F]) A 84 (codeAt (bodyOf Try.f84) 3) ((m_Z34 F).sh.mk' [.I x0, .L x1, .I x2, .I x3]) (fun e σ' => some (e, σ')) = c_Z34 F x0 x1 x2 x3 (fun y => some (.exit 0, SSt.mk' ⟨(.undef :: .undef :: .undef :: .int .i64 :: uu 13 ([])), []⟩ [.I y])) := by kernel_rfl
theorem m_Z34_ok : ∀ n, (m_Z34 (n_Z34 n)).ok Try.prog (codeAt (bodyOf Try.f84) 3) := by
 intro n
 induction n with
 | zero =>
  intro R ds k r h
  unfold m_Z34 at h
  obtain ⟨x0, d0, rfl, h0⟩ := dI_some h
  obtain ⟨x1, d1, rfl, h1⟩ := dL_some h0
  obtain ⟨x2, d2, rfl, h2⟩ := dI_some h1
  obtain ⟨x3, d3, rfl, h3⟩ := dI_some h2
  obtain ⟨rfl, hE⟩ := dE_some h3
  obtain ⟨y, hy, hk⟩ := bnd_some hE
  cases hy
 | succ n ih =>
  intro R ds k r h
  unfold m_Z34 at h
  obtain ⟨x0, d0, rfl, h0⟩ := dI_some h
  obtain ⟨x1, d1, rfl, h1⟩ := dL_some h0
  obtain ⟨x2, d2, rfl, h2⟩ := dI_some h1
  obtain ⟨x3, d3, rfl, h3⟩ := dI_some h2
  obtain ⟨rfl, hE⟩ := dE_some h3
  obtain ⟨y, hy, hk⟩ := bnd_some hE
  have hq := q_Z34 (n_Z34 n) x0 x1 x2 x3
  rw [c_Z34_bind] at hq
  rw [show c_Z34 (n_Z34 n) x0 x1 x2 x3 some = some y from hy] at hq
  refine ⟨0, _, _, _, hk, rfl, loop_ok px (fx := ⟨Try.func84, by kernel_rfl, by kernel_rfl⟩) entsOK_nil (lentsOK_cons ih lentsOK_nil) (by kernel_rfl) ?_⟩
  exact hq
noncomputable def e_Z34 : Lent := m_Z34 (Z34)
theorem e_Z34_ok : (e_Z34).ok Try.prog (codeAt (bodyOf Try.f84) 3) := by
 intro R ds k r h
 unfold e_Z34 m_Z34 at h
 obtain ⟨x0, d0, rfl, h0⟩ := dI_some h
 obtain ⟨x1, d1, rfl, h1⟩ := dL_some h0
 obtain ⟨x2, d2, rfl, h2⟩ := dI_some h1
 obtain ⟨x3, d3, rfl, h3⟩ := dI_some h2
 obtain ⟨rfl, hE⟩ := dE_some h3
 obtain ⟨y, hy, hk⟩ := bnd_some hE
 obtain ⟨n, hn⟩ := ev_some hy
 exact m_Z34_ok n R _ k r (show (n_Z34 n x0 x1 x2 x3).bind _ = _ by rw [hn]; exact hk)

/-!-/
def c_Z35 {R : Type} (x0 : List D) (k : Int → Option R) : Option R :=
 (Z34 (0 : Int) x0 (↑x0.length : Int) (0 : Int)).bind (fun y0 =>
 k y0)
theorem c_Z35_bind {R : Type} (x0 : List D) (k : Int → Option R) : c_Z35 x0 k = (c_Z35 x0 some).bind k := by
 unfold c_Z35
 repeat' first|exact bnd_tail|exact bnd_none|exact bnd_leaf|apply bnd_ite|apply bnd_cond|apply bnd_sum|(apply bnd_bind;intro _)|intro _
def Z35 (x0 : List D) : Option (Int) := c_Z35 x0 some
def e_Z35 : Ent := ⟨84, [.rd (.int .i64)], .int .i64, [.undef], fun _ ds k => dL (fun x0 ds => dE ((Z35 x0).bind (fun y => k [.I y])) ds) ds⟩
theorem q_Z35 (x0 : List D) : runFn (ocOf []) (olOf [e_Z34]) A 84 Try.f84 (Sh.mks e_Z35.sh [.L x0]).1 (fun v os => some (v, os)) = c_Z35 x0 (fun y => some ((e_Z35.res.mk [.I y]).1, (Sh.mks e_Z35.outs (e_Z35.res.mk [.I y]).2).1)) := by kernel_rfl
theorem e_Z35_ok : e_Z35.ok Try.prog A := by
 intro R ds k r h
 unfold e_Z35 at h
 obtain ⟨x0, d0, rfl, h0⟩ := dL_some h
 obtain ⟨rfl, hE⟩ := dE_some h0
 obtain ⟨y, hy, hk⟩ := bnd_some hE
 refine ⟨_, hk, fn_ok px (fx := ⟨Try.func84, by kernel_rfl, by kernel_rfl⟩) entsOK_nil (lentsOK_cons e_Z34_ok lentsOK_nil) ?_⟩
 have hq := q_Z35 x0
 rw [c_Z35_bind] at hq
 rw [show c_Z35 x0 some = some y from hy] at hq
 exact hq

/-!-/
def c_Z36 {R : Type} (x0 : Int) (x1 : List D) (k : Int → Option R) : Option R :=
 (Z35 x1).bind (fun y0 =>
 k y0)
theorem c_Z36_bind {R : Type} (x0 : Int) (x1 : List D) (k : Int → Option R) : c_Z36 x0 x1 k = (c_Z36 x0 x1 some).bind k := by
 unfold c_Z36
 repeat' first|exact bnd_tail|exact bnd_none|exact bnd_leaf|apply bnd_ite|apply bnd_cond|apply bnd_sum|(apply bnd_bind;intro _)|intro _
def Z36 (x0 : Int) (x1 : List D) : Option (Int) := c_Z36 x0 x1 some
def e_Z36 : Ent := ⟨85, [.agg [.int .i64, .rd (.int .i64)]], .int .i64, [.undef], fun _ ds k => dI (fun x0 ds => dL (fun x1 ds => dE ((Z36 x0 x1).bind (fun y => k [.I y])) ds) ds) ds⟩
theorem q_Z36 (x0 : Int) (x1 : List D) : runFn (ocOf [e_Z35]) (olOf []) A 85 Try.f85 (Sh.mks e_Z36.sh [.I x0, .L x1]).1 (fun v os => some (v, os)) = c_Z36 x0 x1 (fun y => some ((e_Z36.res.mk [.I y]).1, (Sh.mks e_Z36.outs (e_Z36.res.mk [.I y]).2).1)) := by kernel_rfl
theorem e_Z36_ok : e_Z36.ok Try.prog A := by
 intro R ds k r h
 unfold e_Z36 at h
 obtain ⟨x0, d0, rfl, h0⟩ := dI_some h
 obtain ⟨x1, d1, rfl, h1⟩ := dL_some h0
 obtain ⟨rfl, hE⟩ := dE_some h1
 obtain ⟨y, hy, hk⟩ := bnd_some hE
 refine ⟨_, hk, fn_ok px (fx := ⟨Try.func85, by kernel_rfl, by kernel_rfl⟩) (entsOK_cons e_Z35_ok entsOK_nil) lentsOK_nil ?_⟩
 have hq := q_Z36 x0 x1
 rw [c_Z36_bind] at hq
 rw [show c_Z36 x0 x1 some = some y from hy] at hq
 exact hq

/-!-/
def c_Z37 {R : Type} (F : List D → Int → Int → Int → List D → Int → Int → Int → Option ((List D × Bool × Int × Int × Int) ⊕ (List D × Int × Int × Int))) (x0 : List D) (x1 : Int) (x2 : Int) (x3 : Int) (x4 : List D) (x5 : Int) (x6 : Int) (x7 : Int) (k : (List D × Bool × Int × Int × Int) ⊕ (List D × Int × Int × Int) → Option R) : Option R :=
 bif decide (x6 < x5) then
 if 0 ≤ x6 ∧ x6 < (↑x4.length : Int) then
 (Z33 (((x4.getD x6.toNat (D.int 0)).fld (0 : Nat)).toInt) (((x4.getD x6.toNat (D.int 0)).fld (1 : Nat)).items)).bind (fun y0 =>
 bif !y0 then
 k (.inl (x0, Bool.false, x2, x3, (0 : Int)))
 else
 (Z36 (((x4.getD x6.toNat (D.int 0)).fld (0 : Nat)).toInt) (((x4.getD x6.toNat (D.int 0)).fld (1 : Nat)).items)).bind (fun y1 =>
 if y1 ≠ (0 : Int) then
 bif decide (IntKind.i64.wrap (Int.tdiv (1000000000000000 : Int) y1) < x1) then
 k (.inl (x0, Bool.false, x2, x3, (0 : Int)))
 else
 (Z36 (((x4.getD x6.toNat (D.int 0)).fld (0 : Nat)).toInt) (((x4.getD x6.toNat (D.int 0)).fld (1 : Nat)).items)).bind (fun y2 =>
 (Z24 (((x4.getD x6.toNat (D.int 0)).fld (0 : Nat)).toInt) (((x4.getD x6.toNat (D.int 0)).fld (1 : Nat)).items)).bind (fun y3 =>
 (F x0 (IntKind.i64.wrap (x1 * y2)) (if ((x4.getD x6.toNat (D.int 0)).fld (0 : Nat)).toInt < x2 then ((x4.getD x6.toNat (D.int 0)).fld (0 : Nat)).toInt else x2) (if y3 > x3 then y3 else x3) x4 x5 (IntKind.i64.wrap (x6 + 1)) x7).bind k))
 else
 none))
 else
 none
 else
 k (.inr (x0, x2, x3, x7))
theorem c_Z37_bind {R : Type} (F : List D → Int → Int → Int → List D → Int → Int → Int → Option ((List D × Bool × Int × Int × Int) ⊕ (List D × Int × Int × Int))) (x0 : List D) (x1 : Int) (x2 : Int) (x3 : Int) (x4 : List D) (x5 : Int) (x6 : Int) (x7 : Int) (k : (List D × Bool × Int × Int × Int) ⊕ (List D × Int × Int × Int) → Option R) : c_Z37 F x0 x1 x2 x3 x4 x5 x6 x7 k = (c_Z37 F x0 x1 x2 x3 x4 x5 x6 x7 some).bind k := by
 unfold c_Z37
 repeat' first|exact bnd_tail|exact bnd_none|exact bnd_leaf|apply bnd_ite|apply bnd_cond|apply bnd_sum|(apply bnd_bind;intro _)|intro _
def n_Z37 : Nat → List D → Int → Int → Int → List D → Int → Int → Int → Option ((List D × Bool × Int × Int × Int) ⊕ (List D × Int × Int × Int))
 | 0, _, _, _, _, _, _, _, _ => none
 | n + 1, x0, x1, x2, x3, x4, x5, x6, x7 => c_Z37 (n_Z37 n) x0 x1 x2 x3 x4 x5 x6 x7 some
noncomputable def Z37 (x0 : List D) (x1 : Int) (x2 : Int) (x3 : Int) (x4 : List D) (x5 : Int) (x6 : Int) (x7 : Int) : Option ((List D × Bool × Int × Int × Int) ⊕ (List D × Int × Int × Int)) := ev (fun n => n_Z37 n x0 x1 x2 x3 x4 x5 x6 x7)
def m_Z37 (F : List D → Int → Int → Int → List D → Int → Int → Int → Option ((List D × Bool × Int × Int × Int) ⊕ (List D × Int × Int × Int))) : Lent := ⟨6, ⟨(.rd (.struct [.int .i64, .slice (.int .i64)]) :: .undef :: .ptr 1000 [0] :: .undef :: .int .i64 :: .int .i64 :: .int .i64 :: uu 16 (.rd (.struct [.int .i64, .slice (.int .i64)]) :: .int .i64 :: .int .i64 :: uu 80 ([]))), [(1000, .obox (.agg [.int .i64, .nilsl]))]⟩, [(.ret, ⟨(.rd (.struct [.int .i64, .slice (.int .i64)]) :: .undef :: .ptr 1000 [0] :: .bool :: .undef :: .int .i64 :: .int .i64 :: uu 99 ([])), [(1000, .obox (.agg [.int .i64, .nilsl]))]⟩), (.exit 0, ⟨(.rd (.struct [.int .i64, .slice (.int .i64)]) :: .undef :: .ptr 1000 [0] :: .undef :: .undef :: .int .i64 :: .int .i64 :: uu 99 ([])), [(1000, .obox (.agg [.int .i64, .nilsl]))]⟩)], fun _ ds k => dL (fun x0 ds => dI (fun x1 ds => dI (fun x2 ds => dI (fun x3 ds => dL (fun x4 ds => dI (fun x5 ds => dI (fun x6 ds => dI (fun x7 ds => dE ((F x0 x1 x2 x3 x4 x5 x6 x7).bind (Sum.elim (fun y => k 0 [.L y.1, .B y.2.1, .I y.2.2.1, .I y.2.2.2.1, .I y.2.2.2.2]) (fun y => k 1 [.L y.1, .I y.2.1, .I y.2.2.1, .I y.2.2.2]))) ds) ds) ds) ds) ds) ds) ds) ds) ds⟩
theorem q_Z37 (F : List D → Int → Int → Int → List D → Int → Int → Int → Option ((List D × Bool × Int × Int × Int) ⊕ (List D × Int × Int × Int))) (x0 : List D) (x1 : Int) (x2 : Int) (x3 : Int) (x4 : List D) (x5 : Int) (x6 : Int) (x7 : Int) : runLoop (ocOf [e_Z33, e_Z36, e_Z24]) (olOf [m_Z37 F]) A 53 (codeAt (bodyOf Try.f53) 6) ((m_Z37 F).sh.mk' [.L x0, .I x1, .I x2, .I x3, .L x4, .I x5, .I x6, .I x7]) (fun e σ' => some (e, σ')) = c_Z37 F x0 x1 x2 x3 x4 x5 x6 x7 (Sum.elim (fun y => some (.ret, SSt.mk' ⟨(.rd (.struct [.int .i64, .slice (.int .i64)]) :: .undef :: .ptr 1000 [0] :: .bool :: .undef :: .int .i64 :: .int .i64 :: uu 99 ([])), [(1000, .obox (.agg [.int .i64, .nilsl]))]⟩ [.L y.1, .B y.2.1, .I y.2.2.1, .I y.2.2.2.1, .I y.2.2.2.2])) (fun y => some (.exit 0, SSt.mk' ⟨(.rd (.struct [.int .i64, .slice (.int .i64)]) :: .undef :: .ptr 1000 [0] :: .undef :: .undef :: .int .i64 :: .int .i64 :: uu 99 ([])), [(1000, .obox (.agg [.int .i64, .nilsl]))]⟩ [.L y.1, .I y.2.1, .I y.2.2.1, .I y.2.2.2]))) := by kernel_rfl
theorem m_Z37_ok : ∀ n, (m_Z37 (n_Z37 n)).ok Try.prog (codeAt (bodyOf Try.f53) 6) := by
 intro n
 induction n with
 | zero =>
  intro R ds k r h
  unfold m_Z37 at h
  obtain ⟨x0, d0, rfl, h0⟩ := dL_some h
  obtain ⟨x1, d1, rfl, h1⟩ := dI_some h0
  obtain ⟨x2, d2, rfl, h2⟩ := dI_some h1
  obtain ⟨x3, d3, rfl, h3⟩ := dI_some h2
  obtain ⟨x4, d4, rfl, h4⟩ := dL_some h3
  obtain ⟨x5, d5, rfl, h5⟩ := dI_some h4
  obtain ⟨x6, d6, rfl, h6⟩ := dI_some h5
  obtain ⟨x7, d7, rfl, h7⟩ := dI_some h6
  obtain ⟨rfl, hE⟩ := dE_some h7
  obtain ⟨y, hy, hk⟩ := bnd_some hE
  cases hy
 | succ n ih =>
  intro R ds k r h
  unfold m_Z37 at h
  obtain ⟨x0, d0, rfl, h0⟩ := dL_some h
  obtain ⟨x1, d1, rfl, h1⟩ := dI_some h0
  obtain ⟨x2, d2, rfl, h2⟩ := dI_some h1
  obtain ⟨x3, d3, rfl, h3⟩ := dI_some h2
  obtain ⟨x4, d4, rfl, h4⟩ := dL_some h3
  obtain ⟨x5, d5, rfl, h5⟩ := dI_some h4
  obtain ⟨x6, d6, rfl, h6⟩ := dI_some h5
  obtain ⟨x7, d7, rfl, h7⟩ := dI_some h6
  obtain ⟨rfl, hE⟩ := dE_some h7
  obtain ⟨y, hy, hk⟩ := bnd_some hE
  have hq := q_Z37 (n_Z37 n) x0 x1 x2 x3 x4 x5 x6 x7
  rw [c_Z37_bind] at hq
  rw [show c_Z37 (n_Z37 n) x0 x1 x2 x3 x4 x5 x6 x7 some = some y from hy] at hq
  cases y with
  | inl y =>
   refine ⟨0, _, _, _, hk, rfl, loop_ok px (fx := ⟨Try.func53, by kernel_rfl, by kernel_rfl⟩) (entsOK_cons e_Z33_ok (entsOK_cons e_Z36_ok (entsOK_cons e_Z24_ok entsOK_nil))) (lentsOK_cons ih lentsOK_nil) (by kernel_rfl) ?_⟩
   exact hq
  | inr y =>
   refine ⟨1, _, _, _, hk, rfl, loop_ok px (fx := ⟨Try.func53, by kernel_rfl, by kernel_rfl⟩) (entsOK_cons e_Z33_ok (entsOK_cons e_Z36_ok (entsOK_cons e_Z24_ok entsOK_nil))) (lentsOK_cons ih lentsOK_nil) (by kernel_rfl) ?_⟩
   exact hq
noncomputable def e_Z37 : Lent := m_Z37 (Z37)
theorem e_Z37_ok : (e_Z37).ok Try.prog (codeAt (bodyOf Try.f53) 6) := by
 intro R ds k r h
 unfold e_Z37 m_Z37 at h
 obtain ⟨x0, d0, rfl, h0⟩ := dL_some h
 obtain ⟨x1, d1, rfl, h1⟩ := dI_some h0
 obtain ⟨x2, d2, rfl, h2⟩ := dI_some h1
 obtain ⟨x3, d3, rfl, h3⟩ := dI_some h2
 obtain ⟨x4, d4, rfl, h4⟩ := dL_some h3
 obtain ⟨x5, d5, rfl, h5⟩ := dI_some h4
 obtain ⟨x6, d6, rfl, h6⟩ := dI_some h5
 obtain ⟨x7, d7, rfl, h7⟩ := dI_some h6
 obtain ⟨rfl, hE⟩ := dE_some h7
 obtain ⟨y, hy, hk⟩ := bnd_some hE
 obtain ⟨n, hn⟩ := ev_some hy
 exact m_Z37_ok n R _ k r (show (n_Z37 n x0 x1 x2 x3 x4 x5 x6 x7).bind _ = _ by rw [hn]; exact hk)

/-!-/
def c_Z38 {R : Type} (F : List D → Int → Int → Int → Int → Int → Int → List D → Int → Int → List D → Int → Int → Int → List D → Int → List D → Option (List D × Int × Int × Int × Int × Int × Int × List D × Int × Int × Int × List D)) (x0 : List D) (x1 : Int) (x2 : Int) (x3 : Int) (x4 : Int) (x5 : Int) (x6 : Int) (x7 : List D) (x8 : Int) (x9 : Int) (x10 : List D) (x11 : Int) (x12 : Int) (x13 : Int) (x14 : List D) (x15 : Int) (x16 : List D) (k : List D × Int × Int × Int × Int × Int × Int × List D × Int × Int × Int × List D → Option R) : Option R :=
 bif decide (x12 < x11) then
 if 0 ≤ x12 ∧ x12 < (↑x10.length : Int) then
 bif decide (IntKind.i64.wrap (x15 + x12) ≤ x4) then
 (F x0 x1 x2 x3 x4 x5 (IntKind.i64.wrap (x6 + (x10.getD x12.toNat (D.int 0)).toInt)) x7 x8 x9 x10 x11 (IntKind.i64.wrap (x12 + 1)) x13 x14 x15 x16).bind k
 else
 (F x0 x1 x2 x3 x4 x5 x6 x7 x8 x9 x10 x11 (IntKind.i64.wrap (x12 + 1)) x13 x14 x15 x16).bind k
 else
 none
 else
 k (x0, x1, x2, x3, x4, x5, x6, x7, x8, x9, x13, x14)
theorem c_Z38_bind {R : Type} (F : List D → Int → Int → Int → Int → Int → Int → List D → Int → Int → List D → Int → Int → Int → List D → Int → List D → Option (List D × Int × Int × Int × Int × Int × Int × List D × Int × Int × Int × List D)) (x0 : List D) (x1 : Int) (x2 : Int) (x3 : Int) (x4 : Int) (x5 : Int) (x6 : Int) (x7 : List D) (x8 : Int) (x9 : Int) (x10 : List D) (x11 : Int) (x12 : Int) (x13 : Int) (x14 : List D) (x15 : Int) (x16 : List D) (k : List D × Int × Int × Int × Int × Int × Int × List D × Int × Int × Int × List D → Option R) : c_Z38 F x0 x1 x2 x3 x4 x5 x6 x7 x8 x9 x10 x11 x12 x13 x14 x15 x16 k = (c_Z38 F x0 x1 x2 x3 x4 x5 x6 x7 x8 x9 x10 x11 x12 x13 x14 x15 x16 some).bind k := by
 unfold c_Z38
 repeat' first|exact bnd_tail|exact bnd_none|exact bnd_leaf|apply bnd_ite|apply bnd_cond|apply bnd_sum|(apply bnd_bind;intro _)|intro _
def n_Z38 : Nat → List D → Int → Int → Int → Int → Int → Int → List D → Int → Int → List D → Int → Int → Int → List D → Int → List D → Option (List D × Int × Int × Int × Int × Int × Int × List D × Int × Int × Int × List D)
 | 0, _, _, _, _, _, _, _, _, _, _, _, _, _, _, _, _, _ => none
 | n + 1, x0, x1, x2, x3, x4, x5, x6, x7, x8, x9, x10, x11, x12, x13, x14, x15, x16 => c_Z38 (n_Z38 n) x0 x1 x2 x3 x4 x5 x6 x7 x8 x9 x10 x11 x12 x13 x14 x15 x16 some
noncomputable def Z38 (x0 : List D) (x1 : Int) (x2 : Int) (x3 : Int) (x4 : Int) (x5 : Int) (x6 : Int) (x7 : List D) (x8 : Int) (x9 : Int) (x10 : List D) (x11 : Int) (x12 : Int) (x13 : Int) (x14 : List D) (x15 : Int) (x16 : List D) : Option (List D × Int × Int × Int × Int × Int × Int × List D × Int × Int × Int × List D) := ev (fun n => n_Z38 n x0 x1 x2 x3 x4 x5 x6 x7 x8 x9 x10 x11 x12 x13 x14 x15 x16)
def m_Z38 (F : List D → Int → Int → Int → Int → Int → Int → List D → Int → Int → List D → Int → Int → Int → List D → Int → List D → Option (List D × Int × Int × Int × Int × Int × Int × List D × Int × Int × Int × List D)) : Lent := ⟨27, ⟨(.rd (.struct [.int .i64, .slice (.int .i64)]) :: .undef :: .ptr 1000 [0] :: .undef :: .undef :: .int .i64 :: .int .i64 :: .undef :: .undef :: .full 1001 [] (.int .i64) :: .int .i64 :: .int .i64 :: .int .i64 :: .undef :: .ptr 1002 [0] :: .int .i64 :: uu 50 (.rd (.struct [.int .i64, .slice (.int .i64)]) :: .int .i64 :: .int .i64 :: uu 4 (.rd (.int .i64) :: .int .i64 :: .int .i64 :: uu 30 ([])))), [(1000, .obox (.agg [.int .i64, .nilsl])), (1001, .own (.int .i64)), (1002, .obox (.agg [.int .i64, .rd (.int .i64)]))]⟩, [(.exit 6, ⟨(.rd (.struct [.int .i64, .slice (.int .i64)]) :: .undef :: .ptr 1000 [0] :: .undef :: .undef :: .int .i64 :: .int .i64 :: .undef :: .undef :: .full 1001 [] (.int .i64) :: .int .i64 :: .int .i64 :: .int .i64 :: .undef :: .undef :: .int .i64 :: uu 50 (.rd (.struct [.int .i64, .slice (.int .i64)]) :: .int .i64 :: .int .i64 :: uu 37 ([]))), [(1000, .obox (.agg [.int .i64, .nilsl])), (1001, .own (.int .i64))]⟩)], fun _ ds k => dL (fun x0 ds => dI (fun x1 ds => dI (fun x2 ds => dI (fun x3 ds => dI (fun x4 ds => dI (fun x5 ds => dI (fun x6 ds => dL (fun x7 ds => dI (fun x8 ds => dI (fun x9 ds => dL (fun x10 ds => dI (fun x11 ds => dI (fun x12 ds => dI (fun x13 ds => dL (fun x14 ds => dI (fun x15 ds => dL (fun x16 ds => dE ((F x0 x1 x2 x3 x4 x5 x6 x7 x8 x9 x10 x11 x12 x13 x14 x15 x16).bind (fun y => k 0 [.L y.1, .I y.2.1, .I y.2.2.1, .I y.2.2.2.1, .I y.2.2.2.2.1, .I y.2.2.2.2.2.1, .I y.2.2.2.2.2.2.1, .L y.2.2.2.2.2.2.2.1, .I y.2.2.2.2.2.2.2.2.1, .I y.2.2.2.2.2.2.2.2.2.1, .I y.2.2.2.2.2.2.2.2.2.2.1, .L y.2.2.2.2.2.2.2.2.2.2.2])) ds) ds) ds) ds) ds) ds) ds) ds) ds) ds) ds) ds) ds) ds) ds) ds) ds) ds⟩
theorem q_Z38 (F : List D → Int → Int → Int → Int → Int → Int → List D → Int → Int → List D → Int → Int → Int → List D → Int → List D → Option (List D × Int × Int × Int × Int × Int × Int × List D × Int × Int × Int × List D)) (x0 : List D) (x1 : Int) (x2 : Int) (x3 : Int) (x4 : Int) (x5 : Int) (x6 : Int) (x7 : List D) (x8 : Int) (x9 : Int) (x10 : List D) (x11 : Int) (x12 : Int) (x13 : Int) (x14 : List D) (x15 : Int) (x16 : List D) : runLoop (ocOf []) (olOf [m_Z38 F]) A 53 (codeAt (bodyOf Try.f53) 27) ((m_Z38 F).sh.mk' [.L x0, .I x1, .I x2, .I x3, .I x4, .I x5, .I x6, .L x7, .I x8, .I x9, .L x10, .I x11, .I x12, .I x13, .L x14, .I x15, .L x16]) (fun e σ' => some (e, σ')) = c_Z38 F x0 x1 x2 x3 x4 x5 x6 x7 x8 x9 x10 x11 x12 x13 x14 x15 x16 (fun y => some (.exit 6, SSt.mk' ⟨(.rd (.struct [.int .i64, .slice (.int .i64)]) :: .undef :: .ptr 1000 [0] :: .undef :: .undef :: .int .i64 :: .int .i64 :: .undef :: .undef :: .full 1001 [] (.int .i64) :: .int .i64 :: .int .i64 :: .int .i64 :: .undef :: .undef :: .int .i64 :: uu 50 (.rd (.struct [.int .i64, .slice (.int .i64)]) :: .int .i64 :: .int .i64 :: uu 37 ([]))), [(1000, .obox (.agg [.int .i64, .nilsl])), (1001, .own (.int .i64))]⟩ [.L y.1, .I y.2.1, .I y.2.2.1, .I y.2.2.2.1, .I y.2.2.2.2.1, .I y.2.2.2.2.2.1, .I y.2.2.2.2.2.2.1, .L y.2.2.2.2.2.2.2.1, .I y.2.2.2.2.2.2.2.2.1, .I y.2.2.2.2.2.2.2.2.2.1, .I y.2.2.2.2.2.2.2.2.2.2.1, .L y.2.2.2.2.2.2.2.2.2.2.2])) := by kernel_rfl
theorem m_Z38_ok : ∀ n, (m_Z38 (n_Z38 n)).ok Try.prog (codeAt (bodyOf Try.f53) 27) := by
 intro n
 induction n with
 | zero =>
  intro R ds k r h
  unfold m_Z38 at h
  obtain ⟨x0, d0, rfl, h0⟩ := dL_some h
  obtain ⟨x1, d1, rfl, h1⟩ := dI_some h0
  obtain ⟨x2, d2, rfl, h2⟩ := dI_some h1
  obtain ⟨x3, d3, rfl, h3⟩ := dI_some h2
  obtain ⟨x4, d4, rfl, h4⟩ := dI_some h3
  obtain ⟨x5, d5, rfl, h5⟩ := dI_some h4
  obtain ⟨x6, d6, rfl, h6⟩ := dI_some h5
  obtain ⟨x7, d7, rfl, h7⟩ := dL_some h6
  obtain ⟨x8, d8, rfl, h8⟩ := dI_some h7
  obtain ⟨x9, d9, rfl, h9⟩ := dI_some h8
  obtain ⟨x10, d10, rfl, h10⟩ := dL_some h9
  obtain ⟨x11, d11, rfl, h11⟩ := dI_some h10
  obtain ⟨x12, d12, rfl, h12⟩ := dI_some h11
  obtain ⟨x13, d13, rfl, h13⟩ := dI_some h12
  obtain ⟨x14, d14, rfl, h14⟩ := dL_some h13
  obtain ⟨x15, d15, rfl, h15⟩ := dI_some h14
  obtain ⟨x16, d16, rfl, h16⟩ := dL_some h15
  obtain ⟨rfl, hE⟩ := dE_some h16
  obtain ⟨y, hy, hk⟩ := bnd_some hE
  cases hy
 | succ n ih =>
  intro R ds k r h
  unfold m_Z38 at h
  obtain ⟨x0, d0, rfl, h0⟩ := dL_some h
  obtain ⟨x1, d1, rfl, h1⟩ := dI_some h0
  obtain ⟨x2, d2, rfl, h2⟩ := dI_some h1
  obtain ⟨x3, d3, rfl, h3⟩ := dI_some h2
  obtain ⟨x4, d4, rfl, h4⟩ := dI_some h3
  obtain ⟨x5, d5, rfl, h5⟩ := dI_some h4
  obtain ⟨x6, d6, rfl, h6⟩ := dI_some h5
  obtain ⟨x7, d7, rfl, h7⟩ := dL_some h6
  obtain ⟨x8, d8, rfl, h8⟩ := dI_some h7
  obtain ⟨x9, d9, rfl, h9⟩ := dI_some h8
  obtain ⟨x10, d10, rfl, h10⟩ := dL_some h9
  obtain ⟨x11, d11, rfl, h11⟩ := dI_some h10
  obtain ⟨x12, d12, rfl, h12⟩ := dI_some h11
  obtain ⟨x13, d13, rfl, h13⟩ := dI_some h12
  obtain ⟨x14, d14, rfl, h14⟩ := dL_some h13
  obtain ⟨x15, d15, rfl, h15⟩ := dI_some h14
  obtain ⟨x16, d16, rfl, h16⟩ := dL_some h15
  obtain ⟨rfl, hE⟩ := dE_some h16
  obtain ⟨y, hy, hk⟩ := bnd_some hE
  have hq := q_Z38 (n_Z38 n) x0 x1 x2 x3 x4 x5 x6 x7 x8 x9 x10 x11 x12 x13 x14 x15 x16
  rw [c_Z38_bind] at hq
  rw [show c_Z38 (n_Z38 n) x0 x1 x2 x3 x4 x5 x6 x7 x8 x9 x10 x11 x12 x13 x14 x15 x16 some = some y from hy] at hq
  refine ⟨0, _, _, _, hk, rfl, loop_ok px (fx := ⟨Try.func53, by kernel_rfl, by kernel_rfl⟩) entsOK_nil (lentsOK_cons ih lentsOK_nil) (by kernel_rfl) ?_⟩
  exact hq
noncomputable def e_Z38 : Lent := m_Z38 (Z38)
theorem e_Z38_ok : (e_Z38).ok Try.prog (codeAt (bodyOf Try.f53) 27) := by
 intro R ds k r h
 unfold e_Z38 m_Z38 at h
 obtain ⟨x0, d0, rfl, h0⟩ := dL_some h
 obtain ⟨x1, d1, rfl, h1⟩ := dI_some h0
 obtain ⟨x2, d2, rfl, h2⟩ := dI_some h1
 obtain ⟨x3, d3, rfl, h3⟩ := dI_some h2
 obtain ⟨x4, d4, rfl, h4⟩ := dI_some h3
 obtain ⟨x5, d5, rfl, h5⟩ := dI_some h4
 obtain ⟨x6, d6, rfl, h6⟩ := dI_some h5
 obtain ⟨x7, d7, rfl, h7⟩ := dL_some h6
 obtain ⟨x8, d8, rfl, h8⟩ := dI_some h7
 obtain ⟨x9, d9, rfl, h9⟩ := dI_some h8
 obtain ⟨x10, d10, rfl, h10⟩ := dL_some h9
 obtain ⟨x11, d11, rfl, h11⟩ := dI_some h10
 obtain ⟨x12, d12, rfl, h12⟩ := dI_some h11
 obtain ⟨x13, d13, rfl, h13⟩ := dI_some h12
 obtain ⟨x14, d14, rfl, h14⟩ := dL_some h13
 obtain ⟨x15, d15, rfl, h15⟩ := dI_some h14
 obtain ⟨x16, d16, rfl, h16⟩ := dL_some h15
 obtain ⟨rfl, hE⟩ := dE_some h16
 obtain ⟨y, hy, hk⟩ := bnd_some hE
 obtain ⟨n, hn⟩ := ev_some hy
 exact m_Z38_ok n R _ k r (show (n_Z38 n x0 x1 x2 x3 x4 x5 x6 x7 x8 x9 x10 x11 x12 x13 x14 x15 x16).bind _ = _ by rw [hn]; exact hk)

/-!-/
def c_Z39 {R : Type} (F : List D → Int → Int → Int → Int → Int → List D → Int → Int → Int → List D → Option (List D × Int × Int × Int × Int × Int × Int × List D)) (x0 : List D) (x1 : Int) (x2 : Int) (x3 : Int) (x4 : Int) (x5 : Int) (x6 : List D) (x7 : Int) (x8 : Int) (x9 : Int) (x10 : List D) (k : List D × Int × Int × Int × Int × Int × Int × List D → Option R) : Option R :=
 bif decide (x8 < x7) then
 if 0 ≤ x8 ∧ x8 < (↑x6.length : Int) then
 (Z38 x0 x1 x2 x3 x4 x5 (0 : Int) x6 x7 x8 (((x6.getD x8.toNat (D.int 0)).fld (1 : Nat)).items) (↑((x6.getD x8.toNat (D.int 0)).fld (1 : Nat)).items.length : Int) (0 : Int) x9 x10 (((x6.getD x8.toNat (D.int 0)).fld (0 : Nat)).toInt) (((x6.getD x8.toNat (D.int 0)).fld (1 : Nat)).items)).bind (fun y0 =>
 (F y0.fst y0.snd.fst y0.snd.snd.fst y0.snd.snd.snd.fst y0.snd.snd.snd.snd.fst (IntKind.i64.wrap (y0.snd.snd.snd.snd.snd.fst * y0.snd.snd.snd.snd.snd.snd.fst)) y0.snd.snd.snd.snd.snd.snd.snd.fst y0.snd.snd.snd.snd.snd.snd.snd.snd.fst (IntKind.i64.wrap (y0.snd.snd.snd.snd.snd.snd.snd.snd.snd.fst + 1)) y0.snd.snd.snd.snd.snd.snd.snd.snd.snd.snd.fst y0.snd.snd.snd.snd.snd.snd.snd.snd.snd.snd.snd).bind k)
 else
 none
 else
 k (x0, x1, x2, x3, x4, x5, x9, x10)
theorem c_Z39_bind {R : Type} (F : List D → Int → Int → Int → Int → Int → List D → Int → Int → Int → List D → Option (List D × Int × Int × Int × Int × Int × Int × List D)) (x0 : List D) (x1 : Int) (x2 : Int) (x3 : Int) (x4 : Int) (x5 : Int) (x6 : List D) (x7 : Int) (x8 : Int) (x9 : Int) (x10 : List D) (k : List D × Int × Int × Int × Int × Int × Int × List D → Option R) : c_Z39 F x0 x1 x2 x3 x4 x5 x6 x7 x8 x9 x10 k = (c_Z39 F x0 x1 x2 x3 x4 x5 x6 x7 x8 x9 x10 some).bind k := by
 unfold c_Z39
 repeat' first|exact bnd_tail|exact bnd_none|exact bnd_leaf|apply bnd_ite|apply bnd_cond|apply bnd_sum|(apply bnd_bind;intro _)|intro _
def n_Z39 : Nat → List D → Int → Int → Int → Int → Int → List D → Int → Int → Int → List D → Option (List D × Int × Int × Int × Int × Int × Int × List D)
 | 0, _, _, _, _, _, _, _, _, _, _, _ => none
 | n + 1, x0, x1, x2, x3, x4, x5, x6, x7, x8, x9, x10 => c_Z39 (n_Z39 n) x0 x1 x2 x3 x4 x5 x6 x7 x8 x9 x10 some
noncomputable def Z39 (x0 : List D) (x1 : Int) (x2 : Int) (x3 : Int) (x4 : Int) (x5 : Int) (x6 : List D) (x7 : Int) (x8 : Int) (x9 : Int) (x10 : List D) : Option (List D × Int × Int × Int × Int × Int × Int × List D) := ev (fun n => n_Z39 n x0 x1 x2 x3 x4 x5 x6 x7 x8 x9 x10)
def m_Z39 (F : List D → Int → Int → Int → Int → Int → List D → Int → Int → Int → List D → Option (List D × Int × Int × Int × Int × Int × Int × List D)) : Lent := ⟨23, ⟨(.rd (.struct [.int .i64, .slice (.int .i64)]) :: .undef :: .ptr 1000 [0] :: .undef :: .undef :: .int .i64 :: .int .i64 :: .undef :: .undef :: .full 1001 [] (.int .i64) :: .int .i64 :: .int .i64 :: .int .i64 :: uu 53 (.rd (.struct [.int .i64, .slice (.int .i64)]) :: .int .i64 :: .int .i64 :: uu 37 ([]))), [(1000, .obox (.agg [.int .i64, .nilsl])), (1001, .own (.int .i64))]⟩, [(.exit 4, ⟨(.rd (.struct [.int .i64, .slice (.int .i64)]) :: .undef :: .ptr 1000 [0] :: .undef :: .undef :: .int .i64 :: .int .i64 :: .undef :: .undef :: .full 1001 [] (.int .i64) :: .int .i64 :: .int .i64 :: .int .i64 :: uu 93 ([])), [(1000, .obox (.agg [.int .i64, .nilsl])), (1001, .own (.int .i64))]⟩)], fun _ ds k => dL (fun x0 ds => dI (fun x1 ds => dI (fun x2 ds => dI (fun x3 ds => dI (fun x4 ds => dI (fun x5 ds => dL (fun x6 ds => dI (fun x7 ds => dI (fun x8 ds => dI (fun x9 ds => dL (fun x10 ds => dE ((F x0 x1 x2 x3 x4 x5 x6 x7 x8 x9 x10).bind (fun y => k 0 [.L y.1, .I y.2.1, .I y.2.2.1, .I y.2.2.2.1, .I y.2.2.2.2.1, .I y.2.2.2.2.2.1, .I y.2.2.2.2.2.2.1, .L y.2.2.2.2.2.2.2])) ds) ds) ds) ds) ds) ds) ds) ds) ds) ds) ds) ds⟩
theorem q_Z39 (F : List D → Int → Int → Int → Int → Int → List D → Int → Int → Int → List D → Option (List D × Int × Int × Int × Int × Int × Int × List D)) (x0 : List D) (x1 : Int) (x2 : Int) (x3 : Int) (x4 : Int) (x5 : Int) (x6 : List D) (x7 : Int) (x8 : Int) (x9 : Int) (x10 : List D) : runLoop (ocOf []) (olOf [m_Z39 F, e_Z38]) A 53 (codeAt (bodyOf Try.f53) 23) ((m_Z39 F).sh.mk' [.L x0, .I x1, .I x2, .I x3, .I x4, .I x5, .L x6, .I x7, .I x8, .I x9, .L x10]) (fun e σ' => some (e, σ')) = c_Z39 F x0 x1 x2 x3 x4 x5 x6 x7 x8 x9 x10 (fun y => some (.exit 4, SSt.mk' ⟨(.rd (.struct [.int .i64, .slice (.int .i64)]) :: .undef :: .ptr 1000 [0] :: .undef :: .undef :: .int .i64 :: .int .i64 :: .undef :: .undef :: .full 1001 [] (.int .i64) :: .int .i64 :: .int .i64 :: .int .i64 :: uu 93 ([])), [(1000, .obox (.agg [.int .i64, .nilsl])), (1001, .own (.int .i64))]⟩ [.L y.1, .I y.2.1, .I y.2.2.1, .I y.2.2.2.1, .I y.2.2.2.2.1, .I y.2.2.2.2.2.1, .I y.2.2.2.2.2.2.1, .L y.2.2.2.2.2.2.2])) := by kernel_rfl
theorem m_Z39_ok : ∀ n, (m_Z39 (n_Z39 n)).ok Try.prog (codeAt (bodyOf Try.f53) 23) := by
 intro n
 induction n with
 | zero =>
  intro R ds k r h
  unfold m_Z39 at h
  obtain ⟨x0, d0, rfl, h0⟩ := dL_some h
  obtain ⟨x1, d1, rfl, h1⟩ := dI_some h0
  obtain ⟨x2, d2, rfl, h2⟩ := dI_some h1
  obtain ⟨x3, d3, rfl, h3⟩ := dI_some h2
  obtain ⟨x4, d4, rfl, h4⟩ := dI_some h3
  obtain ⟨x5, d5, rfl, h5⟩ := dI_some h4
  obtain ⟨x6, d6, rfl, h6⟩ := dL_some h5
  obtain ⟨x7, d7, rfl, h7⟩ := dI_some h6
  obtain ⟨x8, d8, rfl, h8⟩ := dI_some h7
  obtain ⟨x9, d9, rfl, h9⟩ := dI_some h8
  obtain ⟨x10, d10, rfl, h10⟩ := dL_some h9
  obtain ⟨rfl, hE⟩ := dE_some h10
  obtain ⟨y, hy, hk⟩ := bnd_some hE
  cases hy
 | succ n ih =>
  intro R ds k r h
  unfold m_Z39 at h
  obtain ⟨x0, d0, rfl, h0⟩ := dL_some h
  obtain ⟨x1, d1, rfl, h1⟩ := dI_some h0
  obtain ⟨x2, d2, rfl, h2⟩ := dI_some h1
  obtain ⟨x3, d3, rfl, h3⟩ := dI_some h2
  obtain ⟨x4, d4, rfl, h4⟩ := dI_some h3
  obtain ⟨x5, d5, rfl, h5⟩ := dI_some h4
  obtain ⟨x6, d6, rfl, h6⟩ := dL_some h5
  obtain ⟨x7, d7, rfl, h7⟩ := dI_some h6
  obtain ⟨x8, d8, rfl, h8⟩ := dI_some h7
  obtain ⟨x9, d9, rfl, h9⟩ := dI_some h8
  obtain ⟨x10, d10, rfl, h10⟩ := dL_some h9
  obtain ⟨rfl, hE⟩ := dE_some h10
  obtain ⟨y, hy, hk⟩ := bnd_some hE
  have hq := q_Z39 (n_Z39 n) x0 x1 x2 x3 x4 x5 x6 x7 x8 x9 x10
  rw [c_Z39_bind] at hq
  rw [show c_Z39 (n_Z39 n) x0 x1 x2 x3 x4 x5 x6 x7 x8 x9 x10 some = some y from hy] at hq
  refine ⟨0, _, _, _, hk, rfl, loop_ok px (fx := ⟨Try.func53, by kernel_rfl, by kernel_rfl⟩) entsOK_nil (lentsOK_cons ih (lentsOK_cons e_Z38_ok lentsOK_nil)) (by kernel_rfl) ?_⟩
  exact hq
noncomputable def e_Z39 : Lent := m_Z39 (Z39)
theorem e_Z39_ok : (e_Z39).ok Try.prog (codeAt (bodyOf Try.f53) 23) := by
 intro R ds k r h
 unfold e_Z39 m_Z39 at h
 obtain ⟨x0, d0, rfl, h0⟩ := dL_some h
 obtain ⟨x1, d1, rfl, h1⟩ := dI_some h0
 obtain ⟨x2, d2, rfl, h2⟩ := dI_some h1
 obtain ⟨x3, d3, rfl, h3⟩ := dI_some h2
 obtain ⟨x4, d4, rfl, h4⟩ := dI_some h3
 obtain ⟨x5, d5, rfl, h5⟩ := dI_some h4
 obtain ⟨x6, d6, rfl, h6⟩ := dL_some h5
 obtain ⟨x7, d7, rfl, h7⟩ := dI_some h6
 obtain ⟨x8, d8, rfl, h8⟩ := dI_some h7
 obtain ⟨x9, d9, rfl, h9⟩ := dI_some h8
 obtain ⟨x10, d10, rfl, h10⟩ := dL_some h9
 obtain ⟨rfl, hE⟩ := dE_some h10
 obtain ⟨y, hy, hk⟩ := bnd_some hE
 obtain ⟨n, hn⟩ := ev_some hy
 exact m_Z39_ok n R _ k r (show (n_Z39 n x0 x1 x2 x3 x4 x5 x6 x7 x8 x9 x10).bind _ = _ by rw [hn]; exact hk)

/-!-/
def c_Z40 {R : Type} (F : List D → Int → Int → Int → Int → Int → List D → Option (Int × Int × List D)) (x0 : List D) (x1 : Int) (x2 : Int) (x3 : Int) (x4 : Int) (x5 : Int) (x6 : List D) (k : Int × Int × List D → Option R) : Option R :=
 bif decide (x4 ≤ x2) then
 (Z39 x0 x1 x2 x3 x4 (1 : Int) x0 (↑x0.length : Int) (0 : Int) x5 x6).bind (fun y0 =>
 if y0.snd.snd.snd.snd.snd.snd.snd.length + [D.int (IntKind.i64.wrap (y0.snd.snd.snd.snd.snd.fst - y0.snd.snd.snd.fst))].length ≤ (4294967296 : Nat) then
 (F y0.fst y0.snd.fst y0.snd.snd.fst y0.snd.snd.snd.snd.snd.fst (IntKind.i64.wrap (y0.snd.snd.snd.snd.fst + 1)) y0.snd.snd.snd.snd.snd.snd.fst (y0.snd.snd.snd.snd.snd.snd.snd ++ [D.int (IntKind.i64.wrap (y0.snd.snd.snd.snd.snd.fst - y0.snd.snd.snd.fst))])).bind k
 else
 none)
 else
 k (x1, x5, x6)
theorem c_Z40_bind {R : Type} (F : List D → Int → Int → Int → Int → Int → List D → Option (Int × Int × List D)) (x0 : List D) (x1 : Int) (x2 : Int) (x3 : Int) (x4 : Int) (x5 : Int) (x6 : List D) (k : Int × Int × List D → Option R) : c_Z40 F x0 x1 x2 x3 x4 x5 x6 k = (c_Z40 F x0 x1 x2 x3 x4 x5 x6 some).bind k := by
 unfold c_Z40
 repeat' first|exact bnd_tail|exact bnd_none|exact bnd_leaf|apply bnd_ite|apply bnd_cond|apply bnd_sum|(apply bnd_bind;intro _)|intro _
def n_Z40 : Nat → List D → Int → Int → Int → Int → Int → List D → Option (Int × Int × List D)
 | 0, _, _, _, _, _, _, _ => none
 | n + 1, x0, x1, x2, x3, x4, x5, x6 => c_Z40 (n_Z40 n) x0 x1 x2 x3 x4 x5 x6 some
noncomputable def Z40 (x0 : List D) (x1 : Int) (x2 : Int) (x3 : Int) (x4 : Int) (x5 : Int) (x6 : List D) : Option (Int × Int × List D) := ev (fun n => n_Z40 n x0 x1 x2 x3 x4 x5 x6)
def m_Z40 (F : List D → Int → Int → Int → Int → Int → List D → Option (Int × Int × List D)) : Lent := ⟨19, ⟨(.rd (.struct [.int .i64, .slice (.int .i64)]) :: .undef :: .ptr 1000 [0] :: .undef :: .undef :: .int .i64 :: .int .i64 :: .undef :: .undef :: .full 1001 [] (.int .i64) :: .int .i64 :: .int .i64 :: uu 94 ([])), [(1000, .obox (.agg [.int .i64, .nilsl])), (1001, .own (.int .i64))]⟩, [(.exit 2, ⟨(.undef :: .undef :: .ptr 1000 [0] :: .undef :: .undef :: .int .i64 :: .undef :: .undef :: .undef :: .full 1001 [] (.int .i64) :: uu 96 ([])), [(1000, .obox (.agg [.int .i64, .nilsl])), (1001, .own (.int .i64))]⟩)], fun _ ds k => dL (fun x0 ds => dI (fun x1 ds => dI (fun x2 ds => dI (fun x3 ds => dI (fun x4 ds => dI (fun x5 ds => dL (fun x6 ds => dE ((F x0 x1 x2 x3 x4 x5 x6).bind (fun y => k 0 [.I y.1, .I y.2.1, .L y.2.2])) ds) ds) ds) ds) ds) ds) ds) ds⟩
theorem q_Z40 (F : List D → Int → Int → Int → Int → Int → List D → Option (Int × Int × List D)) (x0 : List D) (x1 : Int) (x2 : Int) (x3 : Int) (x4 : Int) (x5 : Int) (x6 : List D) : runLoop (ocOf []) (olOf [m_Z40 F, e_Z39]) A 53 (codeAt (bodyOf Try.f53) 19) ((m_Z40 F).sh.mk' [.L x0, .I x1, .I x2, .I x3, .I x4, .I x5, .L x6]) (fun e σ' => some (e, σ')) = c_Z40 F x0 x1 x2 x3 x4 x5 x6 (fun y => some (.exit 2, SSt.mk' ⟨(.undef :: .undef :: .ptr 1000 [0] :: .undef :: .undef :: .int .i64 :: .undef :: .undef :: .undef :: .full 1001 [] (.int .i64) :: uu 96 ([])), [(1000, .obox (.agg [.int .i64, .nilsl])), (1001, .own (.int .i64))]⟩ [.I y.1, .I y.2.1, .L y.2.2])) := by kernel_rfl
theorem m_Z40_ok : ∀ n, (m_Z40 (n_Z40 n)).ok Try.prog (codeAt (bodyOf Try.f53) 19) := by
 intro n
 induction n with
 | zero =>
  intro R ds k r h
  unfold m_Z40 at h
  obtain ⟨x0, d0, rfl, h0⟩ := dL_some h
  obtain ⟨x1, d1, rfl, h1⟩ := dI_some h0
  obtain ⟨x2, d2, rfl, h2⟩ := dI_some h1
  obtain ⟨x3, d3, rfl, h3⟩ := dI_some h2
  obtain ⟨x4, d4, rfl, h4⟩ := dI_some h3
  obtain ⟨x5, d5, rfl, h5⟩ := dI_some h4
  obtain ⟨x6, d6, rfl, h6⟩ := dL_some h5
  obtain ⟨rfl, hE⟩ := dE_some h6
  obtain ⟨y, hy, hk⟩ := bnd_some hE
  cases hy
 | succ n ih =>
  intro R ds k r h
  unfold m_Z40 at h
  obtain ⟨x0, d0, rfl, h0⟩ := dL_some h
  obtain ⟨x1, d1, rfl, h1⟩ := dI_some h0
  obtain ⟨x2, d2, rfl, h2⟩ := dI_some h1
  obtain ⟨x3, d3, rfl, h3⟩ := dI_some h2
  obtain ⟨x4, d4, rfl, h4⟩ := dI_some h3
  obtain ⟨x5, d5, rfl, h5⟩ := dI_some h4
  obtain ⟨x6, d6, rfl, h6⟩ := dL_some h5
  obtain ⟨rfl, hE⟩ := dE_some h6
  obtain ⟨y, hy, hk⟩ := bnd_some hE
  have hq := q_Z40 (n_Z40 n) x0 x1 x2 x3 x4 x5 x6
  rw [c_Z40_bind] at hq
  rw [show c_Z40 (n_Z40 n) x0 x1 x2 x3 x4 x5 x6 some = some y from hy] at hq
  refine ⟨0, _, _, _, hk, rfl, loop_ok px (fx := ⟨Try.func53, by kernel_rfl, by kernel_rfl⟩) entsOK_nil (lentsOK_cons ih (lentsOK_cons e_Z39_ok lentsOK_nil)) (by kernel_rfl) ?_⟩
  exact hq
noncomputable def e_Z40 : Lent := m_Z40 (Z40)
theorem e_Z40_ok : (e_Z40).ok Try.prog (codeAt (bodyOf Try.f53) 19) := by
 intro R ds k r h
 unfold e_Z40 m_Z40 at h
 obtain ⟨x0, d0, rfl, h0⟩ := dL_some h
 obtain ⟨x1, d1, rfl, h1⟩ := dI_some h0
 obtain ⟨x2, d2, rfl, h2⟩ := dI_some h1
 obtain ⟨x3, d3, rfl, h3⟩ := dI_some h2
 obtain ⟨x4, d4, rfl, h4⟩ := dI_some h3
 obtain ⟨x5, d5, rfl, h5⟩ := dI_some h4
 obtain ⟨x6, d6, rfl, h6⟩ := dL_some h5
 obtain ⟨rfl, hE⟩ := dE_some h6
 obtain ⟨y, hy, hk⟩ := bnd_some hE
 obtain ⟨n, hn⟩ := ev_some hy
 exact m_Z40_ok n R _ k r (show (n_Z40 n x0 x1 x2 x3 x4 x5 x6).bind _ = _ by rw [hn]; exact hk)

/-!-/
def c_Z41 {R : Type} (F : List D → Int → Int → Option (Int)) (x0 : List D) (x1 : Int) (x2 : Int) (k : Int → Option R) : Option R :=
 bif decide (x2 < (↑x0.length : Int)) then
 if 0 ≤ x2 ∧ x2 < (↑x0.length : Int) then
 (F x0 (if (x0.getD x2.toNat (D.int 0)).toInt > x1 then (x0.getD x2.toNat (D.int 0)).toInt else x1) (IntKind.i64.wrap (x2 + 1))).bind k
 else
 none
 else
 k x1
theorem c_Z41_bind {R : Type} (F : List D → Int → Int → Option (Int)) (x0 : List D) (x1 : Int) (x2 : Int) (k : Int → Option R) : c_Z41 F x0 x1 x2 k = (c_Z41 F x0 x1 x2 some).bind k := by
 unfold c_Z41
 repeat' first|exact bnd_tail|exact bnd_none|exact bnd_leaf|apply bnd_ite|apply bnd_cond|apply bnd_sum|(apply bnd_bind;intro _)|intro _
def n_Z41 : Nat → List D → Int → Int → Option (Int)
 | 0, _, _, _ => none
 | n + 1, x0, x1, x2 => c_Z41 (n_Z41 n) x0 x1 x2 some
noncomputable def Z41 (x0 : List D) (x1 : Int) (x2 : Int) : Option (Int) := ev (fun n => n_Z41 n x0 x1 x2)
def m_Z41 (F : List D → Int → Int → Option (Int)) : Lent := ⟨5, ⟨(.rd (.int .i64) :: .undef :: .undef :: .int .i64 :: .int .i64 :: uu 20 ([])), []⟩, [(.exit 0, ⟨(.undef :: .undef :: .undef :: .int .i64 :: uu 21 ([])), []⟩)], fun _ ds k => dL (fun x0 ds => dI (fun x1 ds => dI (fun x2 ds => dE ((F x0 x1 x2).bind (fun y => k 0 [.I y])) ds) ds) ds) ds⟩
theorem q_Z41 (F : List D → Int → Int → Option (Int)) (x0 : List D) (x1 : Int) (x2 : Int) : runLoop (ocOf []) (olOf [m_Z41 F]) A 159 (codeAt (bodyOf Try.f159) 5) ((m_Z41 F).sh.mk' [.L x0, .I x1, .I x2]) (fun e σ' => some (e, σ')) = c_Z41 F x0 x1 x2 (fun y => some (.exit 0, SSt.mk' ⟨(.undef :: .undef :: .undef :: .int .i64 :: uu 21 ([])), []⟩ [.I y])) := by kernel_rfl
theorem m_Z41_ok : ∀ n, (m_Z41 (n_Z41 n)).ok Try.prog (codeAt (bodyOf Try.f159) 5) := by
 intro n
 induction n with
 | zero =>
  intro R ds k r h
  unfold m_Z41 at h
  obtain ⟨x0, d0, rfl, h0⟩ := dL_some h
  obtain ⟨x1, d1, rfl, h1⟩ := dI_some h0
  obtain ⟨x2, d2, rfl, h2⟩ := dI_some h1
  obtain ⟨rfl, hE⟩ := dE_some h2
  obtain ⟨y, hy, hk⟩ := bnd_some hE
  cases hy
 | succ n ih =>
  intro R ds k r h
  unfold m_Z41 at h
  obtain ⟨x0, d0, rfl, h0⟩ := dL_some h
  obtain ⟨x1, d1, rfl, h1⟩ := dI_some h0
  obtain ⟨x2, d2, rfl, h2⟩ := dI_some h1
  obtain ⟨rfl, hE⟩ := dE_some h2
  obtain ⟨y, hy, hk⟩ := bnd_some hE
  have hq := q_Z41 (n_Z41 n) x0 x1 x2
  rw [c_Z41_bind] at hq
  rw [show c_Z41 (n_Z41 n) x0 x1 x2 some = some y from hy] at hq
  refine ⟨0, _, _, _, hk, rfl, loop_ok px (fx := ⟨Try.func159, by kernel_rfl, by kernel_rfl⟩) entsOK_nil (lentsOK_cons ih lentsOK_nil) (by kernel_rfl) ?_⟩
  exact hq
noncomputable def e_Z41 : Lent := m_Z41 (Z41)
theorem e_Z41_ok : (e_Z41).ok Try.prog (codeAt (bodyOf Try.f159) 5) := by
 intro R ds k r h
 unfold e_Z41 m_Z41 at h
 obtain ⟨x0, d0, rfl, h0⟩ := dL_some h
 obtain ⟨x1, d1, rfl, h1⟩ := dI_some h0
 obtain ⟨x2, d2, rfl, h2⟩ := dI_some h1
 obtain ⟨rfl, hE⟩ := dE_some h2
 obtain ⟨y, hy, hk⟩ := bnd_some hE
 obtain ⟨n, hn⟩ := ev_some hy
 exact m_Z41_ok n R _ k r (show (n_Z41 n x0 x1 x2).bind _ = _ by rw [hn]; exact hk)

/-!-/
def c_Z42 {R : Type} (x0 : List D) (k : Int → Option R) : Option R :=
 bif decide ((↑x0.length : Int) < (1 : Int)) then
 none
 else
 if (0 : Int) ≤ (0 : Int) ∧ (0 : Int) < (↑x0.length : Int) then
 (Z41 x0 ((x0.getD (Int.toNat (0 : Int)) (D.int 0)).toInt) (1 : Int)).bind (fun y0 =>
 k y0)
 else
 none
theorem c_Z42_bind {R : Type} (x0 : List D) (k : Int → Option R) : c_Z42 x0 k = (c_Z42 x0 some).bind k := by
 unfold c_Z42
 repeat' first|exact bnd_tail|exact bnd_none|exact bnd_leaf|apply bnd_ite|apply bnd_cond|apply bnd_sum|(apply bnd_bind;intro _)|intro _
def Z42 (x0 : List D) : Option (Int) := c_Z42 x0 some
def e_Z42 : Ent := ⟨159, [.rd (.int .i64)], .int .i64, [.undef], fun _ ds k => dL (fun x0 ds => dE ((Z42 x0).bind (fun y => k [.I y])) ds) ds⟩
theorem q_Z42 (x0 : List D) : runFn (ocOf []) (olOf [e_Z41]) A 159 Try.f159 (Sh.mks e_Z42.sh [.L x0]).1 (fun v os => some (v, os)) = c_Z42 x0 (fun y => some ((e_Z42.res.mk [.I y]).1, (Sh.mks e_Z42.outs (e_Z42.res.mk [.I y]).2).1)) := by kernel_rfl
theorem e_Z42_ok : e_Z42.ok Try.prog A := by
 intro R ds k r h
 unfold e_Z42 at h
 obtain ⟨x0, d0, rfl, h0⟩ := dL_some h
 obtain ⟨rfl, hE⟩ := dE_some h0
 obtain ⟨y, hy, hk⟩ := bnd_some hE
 refine ⟨_, hk, fn_ok px (fx := ⟨Try.func159, by kernel_rfl, by kernel_rfl⟩) entsOK_nil (lentsOK_cons e_Z41_ok lentsOK_nil) ?_⟩
 have hq := q_Z42 x0
 rw [c_Z42_bind] at hq
 rw [show c_Z42 x0 some = some y from hy] at hq
 exact hq

/-!-/
def c_Z43 {R : Type} (F : Int → Int → List D → Int → Int → Int → List D → Option (Int × Int × List D)) (x0 : Int) (x1 : Int) (x2 : List D) (x3 : Int) (x4 : Int) (x5 : Int) (x6 : List D) (k : Int × Int × List D → Option R) : Option R :=
 bif decide (x4 < x3) then
 if 0 ≤ x4 ∧ x4 < (↑x2.length : Int) then
 if x1 ≠ (0 : Int) then
 if x6.length + [D.int (IntKind.i64.wrap ((x2.getD x4.toNat (D.int 0)).toInt.tdiv x1))].length ≤ (4294967296 : Nat) then
 (F x0 x1 x2 x3 (IntKind.i64.wrap (x4 + 1)) x5 (x6 ++ [D.int (IntKind.i64.wrap ((x2.getD x4.toNat (D.int 0)).toInt.tdiv x1))])).bind k
 else
 none
 else
 none
 else
 none
 else
 k (x0, x5, x6)
theorem c_Z43_bind {R : Type} (F : Int → Int → List D → Int → Int → Int → List D → Option (Int × Int × List D)) (x0 : Int) (x1 : Int) (x2 : List D) (x3 : Int) (x4 : Int) (x5 : Int) (x6 : List D) (k : Int × Int × List D → Option R) : c_Z43 F x0 x1 x2 x3 x4 x5 x6 k = (c_Z43 F x0 x1 x2 x3 x4 x5 x6 some).bind k := by
 unfold c_Z43
 repeat' first|exact bnd_tail|exact bnd_none|exact bnd_leaf|apply bnd_ite|apply bnd_cond|apply bnd_sum|(apply bnd_bind;intro _)|intro _
def n_Z43 : Nat → Int → Int → List D → Int → Int → Int → List D → Option (Int × Int × List D)
 | 0, _, _, _, _, _, _, _ => none
 | n + 1, x0, x1, x2, x3, x4, x5, x6 => c_Z43 (n_Z43 n) x0 x1 x2 x3 x4 x5 x6 some
noncomputable def Z43 (x0 : Int) (x1 : Int) (x2 : List D) (x3 : Int) (x4 : Int) (x5 : Int) (x6 : List D) : Option (Int × Int × List D) := ev (fun n => n_Z43 n x0 x1 x2 x3 x4 x5 x6)
def m_Z43 (F : Int → Int → List D → Int → Int → Int → List D → Option (Int × Int × List D)) : Lent := ⟨4, ⟨(.int .i64 :: .undef :: .undef :: .undef :: .ptr 1000 [0] :: .undef :: .int .i64 :: .full 1001 [] (.int .i64) :: uu 8 (.rd (.int .i64) :: .int .i64 :: .int .i64 :: uu 15 ([]))), [(1000, .obox (.agg [.int .i64, .nilsl])), (1001, .own (.int .i64))]⟩, [(.exit 0, ⟨(.int .i64 :: .undef :: .undef :: .undef :: .ptr 1000 [0] :: .undef :: .undef :: .full 1001 [] (.int .i64) :: uu 26 ([])), [(1000, .obox (.agg [.int .i64, .nilsl])), (1001, .own (.int .i64))]⟩)], fun _ ds k => dI (fun x0 ds => dI (fun x1 ds => dL (fun x2 ds => dI (fun x3 ds => dI (fun x4 ds => dI (fun x5 ds => dL (fun x6 ds => dE ((F x0 x1 x2 x3 x4 x5 x6).bind (fun y => k 0 [.I y.1, .I y.2.1, .L y.2.2])) ds) ds) ds) ds) ds) ds) ds) ds⟩
theorem q_Z43 (F : Int → Int → List D → Int → Int → Int → List D → Option (Int × Int × List D)) (x0 : Int) (x1 : Int) (x2 : List D) (x3 : Int) (x4 : Int) (x5 : Int) (x6 : List D) : runLoop (ocOf []) (olOf [m_Z43 F]) A 121 (codeAt (bodyOf Try.f121) 4) ((m_Z43 F).sh.mk' [.I x0, .I x1, .L x2, .I x3, .I x4, .I x5, .L x6]) (fun e σ' => some (e, σ')) = c_Z43 F x0 x1 x2 x3 x4 x5 x6 (fun y => some (.exit 0, SSt.mk' ⟨(.int .i64 :: .undef :: .undef :: .undef :: .ptr 1000 [0] :: .undef :: .undef :: .full 1001 [] (.int .i64) :: uu 26 ([])), [(1000, .obox (.agg [.int .i64, .nilsl])), (1001, .own (.int .i64))]⟩ [.I y.1, .I y.2.1, .L y.2.2])) := by kernel_rfl
theorem m_Z43_ok : ∀ n, (m_Z43 (n_Z43 n)).ok Try.prog (codeAt (bodyOf Try.f121) 4) := by
 intro n
 induction n with
 | zero =>
  intro R ds k r h
  unfold m_Z43 at h
  obtain ⟨x0, d0, rfl, h0⟩ := dI_some h
  obtain ⟨x1, d1, rfl, h1⟩ := dI_some h0
  obtain ⟨x2, d2, rfl, h2⟩ := dL_some h1
  obtain ⟨x3, d3, rfl, h3⟩ := dI_some h2
  obtain ⟨x4, d4, rfl, h4⟩ := dI_some h3
  obtain ⟨x5, d5, rfl, h5⟩ := dI_some h4
  obtain ⟨x6, d6, rfl, h6⟩ := dL_some h5
  obtain ⟨rfl, hE⟩ := dE_some h6
  obtain ⟨y, hy, hk⟩ := bnd_some hE
  cases hy
 | succ n ih =>
  intro R ds k r h
  unfold m_Z43 at h
  obtain ⟨x0, d0, rfl, h0⟩ := dI_some h
  obtain ⟨x1, d1, rfl, h1⟩ := dI_some h0
  obtain ⟨x2, d2, rfl, h2⟩ := dL_some h1
  obtain ⟨x3, d3, rfl, h3⟩ := dI_some h2
  obtain ⟨x4, d4, rfl, h4⟩ := dI_some h3
  obtain ⟨x5, d5, rfl, h5⟩ := dI_some h4
  obtain ⟨x6, d6, rfl, h6⟩ := dL_some h5
  obtain ⟨rfl, hE⟩ := dE_some h6
  obtain ⟨y, hy, hk⟩ := bnd_some hE
  have hq := q_Z43 (n_Z43 n) x0 x1 x2 x3 x4 x5 x6
  rw [c_Z43_bind] at hq
  rw [show c_Z43 (n_Z43 n) x0 x1 x2 x3 x4 x5 x6 some = some y from hy] at hq
  refine ⟨0, _, _, _, hk, rfl, loop_ok px (fx := ⟨Try.func121, by kernel_rfl, by kernel_rfl⟩) entsOK_nil (lentsOK_cons ih lentsOK_nil) (by kernel_rfl) ?_⟩
  exact hq
noncomputable def e_Z43 : Lent := m_Z43 (Z43)
theorem e_Z43_ok : (e_Z43).ok Try.prog (codeAt (bodyOf Try.f121) 4) := by
 intro R ds k r h
 unfold e_Z43 m_Z43 at h
 obtain ⟨x0, d0, rfl, h0⟩ := dI_some h
 obtain ⟨x1, d1, rfl, h1⟩ := dI_some h0
 obtain ⟨x2, d2, rfl, h2⟩ := dL_some h1
 obtain ⟨x3, d3, rfl, h3⟩ := dI_some h2
 obtain ⟨x4, d4, rfl, h4⟩ := dI_some h3
 obtain ⟨x5, d5, rfl, h5⟩ := dI_some h4
 obtain ⟨x6, d6, rfl, h6⟩ := dL_some h5
 obtain ⟨rfl, hE⟩ := dE_some h6
 obtain ⟨y, hy, hk⟩ := bnd_some hE
 obtain ⟨n, hn⟩ := ev_some hy
 exact m_Z43_ok n R _ k r (show (n_Z43 n x0 x1 x2 x3 x4 x5 x6).bind _ = _ by rw [hn]; exact hk)

/-!-/
def c_Z44 {R : Type} (x0 : Int) (k : Bool → Option R) : Option R :=
 (Z22 x0 (0 : Int) (1000000000000 : Int)).bind (fun y0 =>
 k !y0)
theorem c_Z44_bind {R : Type} (x0 : Int) (k : Bool → Option R) : c_Z44 x0 k = (c_Z44 x0 some).bind k := by
 unfold c_Z44
 repeat' first|exact bnd_tail|exact bnd_none|exact bnd_leaf|apply bnd_ite|apply bnd_cond|apply bnd_sum|(apply bnd_bind;intro _)|intro _
def Z44 (x0 : Int) : Option (Bool) := c_Z44 x0 some
def e_Z44 : Ent := ⟨93, [.int .i64], .bool, [.undef], fun _ ds k => dI (fun x0 ds => dE ((Z44 x0).bind (fun y => k [.B y])) ds) ds⟩
theorem q_Z44 (x0 : Int) : runFn (ocOf [e_Z22]) (olOf []) A 93 Try.f93 (Sh.mks e_Z44.sh [.I x0]).1 (fun v os => some (v, os)) = c_Z44 x0 (fun y => some ((e_Z44.res.mk [.B y]).1, (Sh.mks e_Z44.outs (e_Z44.res.mk [.B y]).2).1)) := by kernel_rfl
theorem e_Z44_ok : e_Z44.ok Try.prog A := by
 intro R ds k r h
 unfold e_Z44 at h
 obtain ⟨x0, d0, rfl, h0⟩ := dI_some h
 obtain ⟨rfl, hE⟩ := dE_some h0
 obtain ⟨y, hy, hk⟩ := bnd_some hE
 refine ⟨_, hk, fn_ok px (fx := ⟨Try.func93, by kernel_rfl, by kernel_rfl⟩) (entsOK_cons e_Z22_ok entsOK_nil) lentsOK_nil ?_⟩
 have hq := q_Z44 x0
 rw [c_Z44_bind] at hq
 rw [show c_Z44 x0 some = some y from hy] at hq
 exact hq

/-!-/
def c_Z45 {R : Type} (F : List D → Int → Int → Option ((Int) ⊕ (Unit))) (x0 : List D) (x1 : Int) (x2 : Int) (k : (Int) ⊕ (Unit) → Option R) : Option R :=
 bif decide (x2 < x1) then
 if 0 ≤ x2 ∧ x2 < (↑x0.length : Int) then
 (Z44 ((x0.getD x2.toNat (D.int 0)).toInt)).bind (fun y0 =>
 bif y0 then
 k (.inl x2)
 else
 (F x0 x1 (IntKind.i64.wrap (x2 + 1))).bind k)
 else
 none
 else
 k (.inr ())
theorem c_Z45_bind {R : Type} (F : List D → Int → Int → Option ((Int) ⊕ (Unit))) (x0 : List D) (x1 : Int) (x2 : Int) (k : (Int) ⊕ (Unit) → Option R) : c_Z45 F x0 x1 x2 k = (c_Z45 F x0 x1 x2 some).bind k := by
 unfold c_Z45
 repeat' first|exact bnd_tail|exact bnd_none|exact bnd_leaf|apply bnd_ite|apply bnd_cond|apply bnd_sum|(apply bnd_bind;intro _)|intro _
def n_Z45 : Nat → List D → Int → Int → Option ((Int) ⊕ (Unit))
 | 0, _, _, _ => none
 | n + 1, x0, x1, x2 => c_Z45 (n_Z45 n) x0 x1 x2 some
noncomputable def Z45 (x0 : List D) (x1 : Int) (x2 : Int) : Option ((Int) ⊕ (Unit)) := ev (fun n => n_Z45 n x0 x1 x2)
def m_Z45 (F : List D → Int → Int → Option ((Int) ⊕ (Unit))) : Lent := ⟨2, ⟨(.rd (.int .i64) :: .fn 93 [] :: uu 5 (.int .i64 :: .int .i64 :: uu 10 ([]))), []⟩, [(.ret, ⟨(uu 4 (.int .i64 :: uu 14 ([]))), []⟩), (.exit 0, ⟨(uu 19 ([])), []⟩)], fun _ ds k => dL (fun x0 ds => dI (fun x1 ds => dI (fun x2 ds => dE ((F x0 x1 x2).bind (Sum.elim (fun y => k 0 [.I y]) (fun y => k 1 []))) ds) ds) ds) ds⟩
theorem q_Z45 (F : List D → Int → Int → Option ((Int) ⊕ (Unit))) (x0 : List D) (x1 : Int) (x2 : Int) : runLoop (ocOf [e_Z44]) (olOf [m_Z45 F]) A 152 (codeAt (bodyOf Try.f152) 2) ((m_Z45 F).sh.mk' [.L x0, .I x1, .I x2]) (fun e σ' => some (e, σ')) = c_Z45 F x0 x1 x2 (Sum.elim (fun y => some (.ret, SSt.mk' ⟨(uu 4 (.int .i64 :: uu 14 ([]))), []⟩ [.I y])) (fun y => some (.exit 0, SSt.mk' ⟨(uu 19 ([])), []⟩ []))) := by kernel_rfl
theorem m_Z45_ok : ∀ n, (m_Z45 (n_Z45 n)).ok Try.prog (codeAt (bodyOf Try.f152) 2) := by
 intro n
 induction n with
 | zero =>
  intro R ds k r h
  unfold m_Z45 at h
  obtain ⟨x0, d0, rfl, h0⟩ := dL_some h
  obtain ⟨x1, d1, rfl, h1⟩ := dI_some h0
  obtain ⟨x2, d2, rfl, h2⟩ := dI_some h1
  obtain ⟨rfl, hE⟩ := dE_some h2
  obtain ⟨y, hy, hk⟩ := bnd_some hE
  cases hy
 | succ n ih =>
  intro R ds k r h
  unfold m_Z45 at h
  obtain ⟨x0, d0, rfl, h0⟩ := dL_some h
  obtain ⟨x1, d1, rfl, h1⟩ := dI_some h0
  obtain ⟨x2, d2, rfl, h2⟩ := dI_some h1
  obtain ⟨rfl, hE⟩ := dE_some h2
  obtain ⟨y, hy, hk⟩ := bnd_some hE
  have hq := q_Z45 (n_Z45 n) x0 x1 x2
  rw [c_Z45_bind] at hq
  rw [show c_Z45 (n_Z45 n) x0 x1 x2 some = some y from hy] at hq
  cases y with
  | inl y =>
   refine ⟨0, _, _, _, hk, rfl, loop_ok px (fx := ⟨Try.func152, by kernel_rfl, by kernel_rfl⟩) (entsOK_cons e_Z44_ok entsOK_nil) (lentsOK_cons ih lentsOK_nil) (by kernel_rfl) ?_⟩
   exact hq
  | inr y =>
   refine ⟨1, _, _, _, hk, rfl, loop_ok px (fx := ⟨Try.func152, by kernel_rfl, by kernel_rfl⟩) (entsOK_cons e_Z44_ok entsOK_nil) (lentsOK_cons ih lentsOK_nil) (by kernel_rfl) ?_⟩
   exact hq
noncomputable def e_Z45 : Lent := m_Z45 (Z45)
theorem e_Z45_ok : (e_Z45).ok Try.prog (codeAt (bodyOf Try.f152) 2) := by
 intro R ds k r h
 unfold e_Z45 m_Z45 at h
 obtain ⟨x0, d0, rfl, h0⟩ := dL_some h
 obtain ⟨x1, d1, rfl, h1⟩ := dI_some h0
 obtain ⟨x2, d2, rfl, h2⟩ := dI_some h1
 obtain ⟨rfl, hE⟩ := dE_some h2
 obtain ⟨y, hy, hk⟩ := bnd_some hE
 obtain ⟨n, hn⟩ := ev_some hy
 exact m_Z45_ok n R _ k r (show (n_Z45 n x0 x1 x2).bind _ = _ by rw [hn]; exact hk)

/-!-/
def c_Z46 {R : Type} (x0 : List D) (k : Int → Option R) : Option R :=
 (Z45 x0 (↑x0.length : Int) (0 : Int)).bind (Sum.elim (fun y0 =>
 k y0) (fun y1 =>
 k (-1 : Int)))
theorem c_Z46_bind {R : Type} (x0 : List D) (k : Int → Option R) : c_Z46 x0 k = (c_Z46 x0 some).bind k := by
 unfold c_Z46
 repeat' first|exact bnd_tail|exact bnd_none|exact bnd_leaf|apply bnd_ite|apply bnd_cond|apply bnd_sum|(apply bnd_bind;intro _)|intro _
def Z46 (x0 : List D) : Option (Int) := c_Z46 x0 some
def e_Z46 : Ent := ⟨152, [.rd (.int .i64), .fn 93 []], .int .i64, [.undef, .undef], fun _ ds k => dL (fun x0 ds => dE ((Z46 x0).bind (fun y => k [.I y])) ds) ds⟩
theorem q_Z46 (x0 : List D) : runFn (ocOf []) (olOf [e_Z45]) A 152 Try.f152 (Sh.mks e_Z46.sh [.L x0]).1 (fun v os => some (v, os)) = c_Z46 x0 (fun y => some ((e_Z46.res.mk [.I y]).1, (Sh.mks e_Z46.outs (e_Z46.res.mk [.I y]).2).1)) := by kernel_rfl
theorem e_Z46_ok : e_Z46.ok Try.prog A := by
 intro R ds k r h
 unfold e_Z46 at h
 obtain ⟨x0, d0, rfl, h0⟩ := dL_some h
 obtain ⟨rfl, hE⟩ := dE_some h0
 obtain ⟨y, hy, hk⟩ := bnd_some hE
 refine ⟨_, hk, fn_ok px (fx := ⟨Try.func152, by kernel_rfl, by kernel_rfl⟩) entsOK_nil (lentsOK_cons e_Z45_ok lentsOK_nil) ?_⟩
 have hq := q_Z46 x0
 rw [c_Z46_bind] at hq
 rw [show c_Z46 x0 some = some y from hy] at hq
 exact hq

/-!-/
def c_Z47 {R : Type} (x0 : List D) (k : Bool → Option R) : Option R :=
 (Z46 x0).bind (fun y0 =>
 k (decide ((0 : Int) ≤ y0)))
theorem c_Z47_bind {R : Type} (x0 : List D) (k : Bool → Option R) : c_Z47 x0 k = (c_Z47 x0 some).bind k := by
 unfold c_Z47
 repeat' first|exact bnd_tail|exact bnd_none|exact bnd_leaf|apply bnd_ite|apply bnd_cond|apply bnd_sum|(apply bnd_bind;intro _)|intro _
def Z47 (x0 : List D) : Option (Bool) := c_Z47 x0 some
def e_Z47 : Ent := ⟨92, [.rd (.int .i64), .fn 93 []], .bool, [.undef, .undef], fun _ ds k => dL (fun x0 ds => dE ((Z47 x0).bind (fun y => k [.B y])) ds) ds⟩
theorem q_Z47 (x0 : List D) : runFn (ocOf [e_Z46]) (olOf []) A 92 Try.f92 (Sh.mks e_Z47.sh [.L x0]).1 (fun v os => some (v, os)) = c_Z47 x0 (fun y => some ((e_Z47.res.mk [.B y]).1, (Sh.mks e_Z47.outs (e_Z47.res.mk [.B y]).2).1)) := by kernel_rfl
theorem e_Z47_ok : e_Z47.ok Try.prog A := by
 intro R ds k r h
 unfold e_Z47 at h
 obtain ⟨x0, d0, rfl, h0⟩ := dL_some h
 obtain ⟨rfl, hE⟩ := dE_some h0
 obtain ⟨y, hy, hk⟩ := bnd_some hE
 refine ⟨_, hk, fn_ok px (fx := ⟨Try.func92, by kernel_rfl, by kernel_rfl⟩) (entsOK_cons e_Z46_ok entsOK_nil) lentsOK_nil ?_⟩
 have hq := q_Z47 x0
 rw [c_Z47_bind] at hq
 rw [show c_Z47 x0 some = some y from hy] at hq
 exact hq

/-!-/
def c_Z48 {R : Type} (F : Int → List D → Int → Int → Int → Int → Option (Int × List D × Int × Int × Int × Int)) (x0 : Int) (x1 : List D) (x2 : Int) (x3 : Int) (x4 : Int) (x5 : Int) (k : Int × List D × Int × Int × Int × Int → Option R) : Option R :=
 if 0 ≤ x3 ∧ x3 < (↑x1.length : Int) then
 bif decide ((x1.getD x3.toNat (D.int 0)).toInt = (0 : Int)) then
 (F x0 x1 x2 (IntKind.i64.wrap (x3 + 1)) x4 x5).bind k
 else
 k (x0, x1, x2, x3, x4, x5)
 else
 none
theorem c_Z48_bind {R : Type} (F : Int → List D → Int → Int → Int → Int → Option (Int × List D × Int × Int × Int × Int)) (x0 : Int) (x1 : List D) (x2 : Int) (x3 : Int) (x4 : Int) (x5 : Int) (k : Int × List D × Int × Int × Int × Int → Option R) : c_Z48 F x0 x1 x2 x3 x4 x5 k = (c_Z48 F x0 x1 x2 x3 x4 x5 some).bind k := by
 unfold c_Z48
 repeat' first|exact bnd_tail|exact bnd_none|exact bnd_leaf|apply bnd_ite|apply bnd_cond|apply bnd_sum|(apply bnd_bind;intro _)|intro _
def n_Z48 : Nat → Int → List D → Int → Int → Int → Int → Option (Int × List D × Int × Int × Int × Int)
 | 0, _, _, _, _, _, _ => none
 | n + 1, x0, x1, x2, x3, x4, x5 => c_Z48 (n_Z48 n) x0 x1 x2 x3 x4 x5 some
noncomputable def Z48 (x0 : Int) (x1 : List D) (x2 : Int) (x3 : Int) (x4 : Int) (x5 : Int) : Option (Int × List D × Int × Int × Int × Int) := ev (fun n => n_Z48 n x0 x1 x2 x3 x4 x5)
def m_Z48 (F : Int → List D → Int → Int → Int → Int → Option (Int × List D × Int × Int × Int × Int)) : Lent := ⟨5, ⟨(.int .i64 :: .rd (.int .i64) :: .undef :: .undef :: .ptr 1000 [0] :: .undef :: .int .i64 :: .int .i64 :: .int .i64 :: uu 52 ([])), [(1000, .obox (.agg [.int .i64, .nilsl]))]⟩, [(.exit 0, ⟨(.int .i64 :: .rd (.int .i64) :: .undef :: .undef :: .ptr 1000 [0] :: .undef :: .int .i64 :: .int .i64 :: .int .i64 :: uu 52 ([])), [(1000, .obox (.agg [.int .i64, .nilsl]))]⟩)], fun _ ds k => dI (fun x0 ds => dL (fun x1 ds => dI (fun x2 ds => dI (fun x3 ds => dI (fun x4 ds => dI (fun x5 ds => dE ((F x0 x1 x2 x3 x4 x5).bind (fun y => k 0 [.I y.1, .L y.2.1, .I y.2.2.1, .I y.2.2.2.1, .I y.2.2.2.2.1, .I y.2.2.2.2.2])) ds) ds) ds) ds) ds) ds) ds⟩
theorem q_Z48 (F : Int → List D → Int → Int → Int → Int → Option (Int × List D × Int × Int × Int × Int)) (x0 : Int) (x1 : List D) (x2 : Int) (x3 : Int) (x4 : Int) (x5 : Int) : runLoop (ocOf []) (olOf [m_Z48 F]) A 94 (codeAt (bodyOf Try.f94) 5) ((m_Z48 F).sh.mk' [.I x0, .L x1, .I x2, .I x3, .I x4, .I x5]) (fun e σ' => some (e, σ')) = c_Z48 F x0 x1 x2 x3 x4 x5 (fun y => some (.exit 0, SSt.mk' ⟨(.int .i64 :: .rd (.int .i64) :: .undef :: .undef :: .ptr 1000 [0] :: .undef :: .int .i64 :: .int .i64 :: .int .i64 :: uu 52 ([])), [(1000, .obox (.agg [.int .i64, .nilsl]))]⟩ [.I y.1, .L y.2.1, .I y.2.2.1, .I y.2.2.2.1, .I y.2.2.2.2.1, .I y.2.2.2.2.2])) := by kernel_rfl
theorem m_Z48_ok : ∀ n, (m_Z48 (n_Z48 n)).ok Try.prog (codeAt (bodyOf Try.f94) 5) := by
 intro n
 induction n with
 | zero =>
  intro R ds k r h
  unfold m_Z48 at h
  obtain ⟨x0, d0, rfl, h0⟩ := dI_some h
  obtain ⟨x1, d1, rfl, h1⟩ := dL_some h0
  obtain ⟨x2, d2, rfl, h2⟩ := dI_some h1
  obtain ⟨x3, d3, rfl, h3⟩ := dI_some h2
  obtain ⟨x4, d4, rfl, h4⟩ := dI_some h3
  obtain ⟨x5, d5, rfl, h5⟩ := dI_some h4
  obtain ⟨rfl, hE⟩ := dE_some h5
  obtain ⟨y, hy, hk⟩ := bnd_some hE
  cases hy
 | succ n ih =>
  intro R ds k r h
  unfold m_Z48 at h
  obtain ⟨x0, d0, rfl, h0⟩ := dI_some h
  obtain ⟨x1, d1, rfl, h1⟩ := dL_some h0
  obtain ⟨x2, d2, rfl, h2⟩ := dI_some h1
  obtain ⟨x3, d3, rfl, h3⟩ := dI_some h2
  obtain ⟨x4, d4, rfl, h4⟩ := dI_some h3
  obtain ⟨x5, d5, rfl, h5⟩ := dI_some h4
  obtain ⟨rfl, hE⟩ := dE_some h5
  obtain ⟨y, hy, hk⟩ := bnd_some hE
  have hq := q_Z48 (n_Z48 n) x0 x1 x2 x3 x4 x5
  rw [c_Z48_bind] at hq
  rw [show c_Z48 (n_Z48 n) x0 x1 x2 x3 x4 x5 some = some y from hy] at hq
  refine ⟨0, _, _, _, hk, rfl, loop_ok px (fx := ⟨Try.func94, by kernel_rfl, by kernel_rfl⟩) entsOK_nil (lentsOK_cons ih lentsOK_nil) (by kernel_rfl) ?_⟩
  exact hq
noncomputable def e_Z48 : Lent := m_Z48 (Z48)
theorem e_Z48_ok : (e_Z48).ok Try.prog (codeAt (bodyOf Try.f94) 5) := by
 intro R ds k r h
 unfold e_Z48 m_Z48 at h
 obtain ⟨x0, d0, rfl, h0⟩ := dI_some h
 obtain ⟨x1, d1, rfl, h1⟩ := dL_some h0
 obtain ⟨x2, d2, rfl, h2⟩ := dI_some h1
 obtain ⟨x3, d3, rfl, h3⟩ := dI_some h2
 obtain ⟨x4, d4, rfl, h4⟩ := dI_some h3
 obtain ⟨x5, d5, rfl, h5⟩ := dI_some h4
 obtain ⟨rfl, hE⟩ := dE_some h5
 obtain ⟨y, hy, hk⟩ := bnd_some hE
 obtain ⟨n, hn⟩ := ev_some hy
 exact m_Z48_ok n R _ k r (show (n_Z48 n x0 x1 x2 x3 x4 x5).bind _ = _ by rw [hn]; exact hk)

/-!-/
def c_Z49 {R : Type} (F : Int → List D → Int → Int → Int → Int → Option (Int × List D × Int × Int × Int × Int)) (x0 : Int) (x1 : List D) (x2 : Int) (x3 : Int) (x4 : Int) (x5 : Int) (k : Int × List D × Int × Int × Int × Int → Option R) : Option R :=
 if (0 : Int) ≤ IntKind.i64.wrap (x4 - 1) ∧ IntKind.i64.wrap (x4 - 1) < (↑x1.length : Int) then
 bif decide ((x1.getD (IntKind.i64.wrap (x4 - 1)).toNat (D.int 0)).toInt = (0 : Int)) then
 (F x0 x1 x2 x3 (IntKind.i64.wrap (x4 - 1)) x5).bind k
 else
 k (x0, x1, x2, x3, x4, x5)
 else
 none
theorem c_Z49_bind {R : Type} (F : Int → List D → Int → Int → Int → Int → Option (Int × List D × Int × Int × Int × Int)) (x0 : Int) (x1 : List D) (x2 : Int) (x3 : Int) (x4 : Int) (x5 : Int) (k : Int × List D × Int × Int × Int × Int → Option R) : c_Z49 F x0 x1 x2 x3 x4 x5 k = (c_Z49 F x0 x1 x2 x3 x4 x5 some).bind k := by
 unfold c_Z49
 repeat' first|exact bnd_tail|exact bnd_none|exact bnd_leaf|apply bnd_ite|apply bnd_cond|apply bnd_sum|(apply bnd_bind;intro _)|intro _
def n_Z49 : Nat → Int → List D → Int → Int → Int → Int → Option (Int × List D × Int × Int × Int × Int)
 | 0, _, _, _, _, _, _ => none
 | n + 1, x0, x1, x2, x3, x4, x5 => c_Z49 (n_Z49 n) x0 x1 x2 x3 x4 x5 some
noncomputable def Z49 (x0 : Int) (x1 : List D) (x2 : Int) (x3 : Int) (x4 : Int) (x5 : Int) : Option (Int × List D × Int × Int × Int × Int) := ev (fun n => n_Z49 n x0 x1 x2 x3 x4 x5)
def m_Z49 (F : Int → List D → Int → Int → Int → Int → Option (Int × List D × Int × Int × Int × Int)) : Lent := ⟨7, ⟨(.int .i64 :: .rd (.int .i64) :: .undef :: .undef :: .ptr 1000 [0] :: .undef :: .int .i64 :: .int .i64 :: .int .i64 :: uu 52 ([])), [(1000, .obox (.agg [.int .i64, .nilsl]))]⟩, [(.exit 2, ⟨(.int .i64 :: .rd (.int .i64) :: .undef :: .undef :: .ptr 1000 [0] :: .undef :: .int .i64 :: .int .i64 :: .int .i64 :: uu 52 ([])), [(1000, .obox (.agg [.int .i64, .nilsl]))]⟩)], fun _ ds k => dI (fun x0 ds => dL (fun x1 ds => dI (fun x2 ds => dI (fun x3 ds => dI (fun x4 ds => dI (fun x5 ds => dE ((F x0 x1 x2 x3 x4 x5).bind (fun y => k 0 [.I y.1, .L y.2.1, .I y.2.2.1, .I y.2.2.2.1, .I y.2.2.2.2.1, .I y.2.2.2.2.2])) ds) ds) ds) ds) ds) ds) ds⟩
theorem q_Z49 (F : Int → List D → Int → Int → Int → Int → Option (Int × List D × Int × Int × Int × Int)) (x0 : Int) (x1 : List D) (x2 : Int) (x3 : Int) (x4 : Int) (x5 : Int) : runLoop (ocOf []) (olOf [m_Z49 F]) A 94 (codeAt (bodyOf Try.f94) 7) ((m_Z49 F).sh.mk' [.I x0, .L x1, .I x2, .I x3, .I x4, .I x5]) (fun e σ' => some (e, σ')) = c_Z49 F x0 x1 x2 x3 x4 x5 (fun y => some (.exit 2, SSt.mk' ⟨(.int .i64 :: .rd (.int .i64) :: .undef :: .undef :: .ptr 1000 [0] :: .undef :: .int .i64 :: .int .i64 :: .int .i64 :: uu 52 ([])), [(1000, .obox (.agg [.int .i64, .nilsl]))]⟩ [.I y.1, .L y.2.1, .I y.2.2.1, .I y.2.2.2.1, .I y.2.2.2.2.1, .I y.2.2.2.2.2])) := by kernel_rfl
theorem m_Z49_ok : ∀ n, (m_Z49 (n_Z49 n)).ok Try.prog (codeAt (bodyOf Try.f94) 7) := by
 intro n
 induction n with
 | zero =>
  intro R ds k r h
  unfold m_Z49 at h
  obtain ⟨x0, d0, rfl, h0⟩ := dI_some h
  obtain ⟨x1, d1, rfl, h1⟩ := dL_some h0
  obtain ⟨x2, d2, rfl, h2⟩ := dI_some h1
  obtain ⟨x3, d3, rfl, h3⟩ := dI_some h2
  obtain ⟨x4, d4, rfl, h4⟩ := dI_some h3
  obtain ⟨x5, d5, rfl, h5⟩ := dI_some h4
  obtain ⟨rfl, hE⟩ := dE_some h5
  obtain ⟨y, hy, hk⟩ := bnd_some hE
  cases hy
 | succ n ih =>
  intro R ds k r h
  unfold m_Z49 at h
  obtain ⟨x0, d0, rfl, h0⟩ := dI_some h
  obtain ⟨x1, d1, rfl, h1⟩ := dL_some h0
  obtain ⟨x2, d2, rfl, h2⟩ := dI_some h1
  obtain ⟨x3, d3, rfl, h3⟩ := dI_some h2
  obtain ⟨x4, d4, rfl, h4⟩ := dI_some h3
  obtain ⟨x5, d5, rfl, h5⟩ := dI_some h4
  obtain ⟨rfl, hE⟩ := dE_some h5
  obtain ⟨y, hy, hk⟩ := bnd_some hE
  have hq := q_Z49 (n_Z49 n) x0 x1 x2 x3 x4 x5
  rw [c_Z49_bind] at hq
  rw [show c_Z49 (n_Z49 n) x0 x1 x2 x3 x4 x5 some = some y from hy] at hq
  refine ⟨0, _, _, _, hk, rfl, loop_ok px (fx := ⟨Try.func94, by kernel_rfl, by kernel_rfl⟩) entsOK_nil (lentsOK_cons ih lentsOK_nil) (by kernel_rfl) ?_⟩
  exact hq
noncomputable def e_Z49 : Lent := m_Z49 (Z49)
theorem e_Z49_ok : (e_Z49).ok Try.prog (codeAt (bodyOf Try.f94) 7) := by
 intro R ds k r h
 unfold e_Z49 m_Z49 at h
 obtain ⟨x0, d0, rfl, h0⟩ := dI_some h
 obtain ⟨x1, d1, rfl, h1⟩ := dL_some h0
 obtain ⟨x2, d2, rfl, h2⟩ := dI_some h1
 obtain ⟨x3, d3, rfl, h3⟩ := dI_some h2
 obtain ⟨x4, d4, rfl, h4⟩ := dI_some h3
 obtain ⟨x5, d5, rfl, h5⟩ := dI_some h4
 obtain ⟨rfl, hE⟩ := dE_some h5
 obtain ⟨y, hy, hk⟩ := bnd_some hE
 obtain ⟨n, hn⟩ := ev_some hy
 exact m_Z49_ok n R _ k r (show (n_Z49 n x0 x1 x2 x3 x4 x5).bind _ = _ by rw [hn]; exact hk)

/-!-/
def c_Z50 {R : Type} (F : Int → List D → Int → Int → Int → Int → List D → Option (Int × Int × List D)) (x0 : Int) (x1 : List D) (x2 : Int) (x3 : Int) (x4 : Int) (x5 : Int) (x6 : List D) (k : Int × Int × List D → Option R) : Option R :=
 bif decide (x3 < x2) then
 if 0 ≤ x3 ∧ x3 < (↑x1.length : Int) then
 if x0 ≠ (0 : Int) then
 if x6.length + [D.int (IntKind.i64.wrap ((x1.getD x3.toNat (D.int 0)).toInt.tdiv x0))].length ≤ (4294967296 : Nat) then
 (F x0 x1 x2 (IntKind.i64.wrap (x3 + 1)) x4 x5 (x6 ++ [D.int (IntKind.i64.wrap ((x1.getD x3.toNat (D.int 0)).toInt.tdiv x0))])).bind k
 else
 none
 else
 none
 else
 none
 else
 k (x4, x5, x6)
theorem c_Z50_bind {R : Type} (F : Int → List D → Int → Int → Int → Int → List D → Option (Int × Int × List D)) (x0 : Int) (x1 : List D) (x2 : Int) (x3 : Int) (x4 : Int) (x5 : Int) (x6 : List D) (k : Int × Int × List D → Option R) : c_Z50 F x0 x1 x2 x3 x4 x5 x6 k = (c_Z50 F x0 x1 x2 x3 x4 x5 x6 some).bind k := by
 unfold c_Z50
 repeat' first|exact bnd_tail|exact bnd_none|exact bnd_leaf|apply bnd_ite|apply bnd_cond|apply bnd_sum|(apply bnd_bind;intro _)|intro _
def n_Z50 : Nat → Int → List D → Int → Int → Int → Int → List D → Option (Int × Int × List D)
 | 0, _, _, _, _, _, _, _ => none
 | n + 1, x0, x1, x2, x3, x4, x5, x6 => c_Z50 (n_Z50 n) x0 x1 x2 x3 x4 x5 x6 some
noncomputable def Z50 (x0 : Int) (x1 : List D) (x2 : Int) (x3 : Int) (x4 : Int) (x5 : Int) (x6 : List D) : Option (Int × Int × List D) := ev (fun n => n_Z50 n x0 x1 x2 x3 x4 x5 x6)
def m_Z50 (F : Int → List D → Int → Int → Int → Int → List D → Option (Int × Int × List D)) : Lent := ⟨11, ⟨(uu 4 (.ptr 1000 [0] :: .undef :: .int .i64 :: .undef :: .undef :: .ptr 1001 [0] :: uu 31 (.rd (.int .i64) :: .int .i64 :: .int .i64 :: uu 17 ([])))), [(1000, .obox (.agg [.int .i64, .nilsl])), (1001, .obox (.agg [.int .i64, .full 1002 [] (.int .i64)])), (1002, .own (.int .i64))]⟩, [(.exit 4, ⟨(uu 4 (.ptr 1000 [0] :: uu 4 (.ptr 1001 [0] :: uu 51 ([])))), [(1000, .obox (.agg [.int .i64, .nilsl])), (1001, .obox (.agg [.int .i64, .full 1002 [] (.int .i64)])), (1002, .own (.int .i64))]⟩)], fun _ ds k => dI (fun x0 ds => dL (fun x1 ds => dI (fun x2 ds => dI (fun x3 ds => dI (fun x4 ds => dI (fun x5 ds => dL (fun x6 ds => dE ((F x0 x1 x2 x3 x4 x5 x6).bind (fun y => k 0 [.I y.1, .I y.2.1, .L y.2.2])) ds) ds) ds) ds) ds) ds) ds) ds⟩
theorem q_Z50 (F : Int → List D → Int → Int → Int → Int → List D → Option (Int × Int × List D)) (x0 : Int) (x1 : List D) (x2 : Int) (x3 : Int) (x4 : Int) (x5 : Int) (x6 : List D) : runLoop (ocOf []) (olOf [m_Z50 F]) A 94 (codeAt (bodyOf Try.f94) 11) ((m_Z50 F).sh.mk' [.I x0, .L x1, .I x2, .I x3, .I x4, .I x5, .L x6]) (fun e σ' => some (e, σ')) = c_Z50 F x0 x1 x2 x3 x4 x5 x6 (fun y => some (.exit 4, SSt.mk' ⟨(uu 4 (.ptr 1000 [0] :: uu 4 (.ptr 1001 [0] :: uu 51 ([])))), [(1000, .obox (.agg [.int .i64, .nilsl])), (1001, .obox (.agg [.int .i64, .full 1002 [] (.int .i64)])), (1002, .own (.int .i64))]⟩ [.I y.1, .I y.2.1, .L y.2.2])) := by kernel_rfl
theorem m_Z50_ok : ∀ n, (m_Z50 (n_Z50 n)).ok Try.prog (codeAt (bodyOf Try.f94) 11) := by
 intro n
 induction n with
 | zero =>
  intro R ds k r h
  unfold m_Z50 at h
  obtain ⟨x0, d0, rfl, h0⟩ := dI_some h
  obtain ⟨x1, d1, rfl, h1⟩ := dL_some h0
  obtain ⟨x2, d2, rfl, h2⟩ := dI_some h1
  obtain ⟨x3, d3, rfl, h3⟩ := dI_some h2
  obtain ⟨x4, d4, rfl, h4⟩ := dI_some h3
  obtain ⟨x5, d5, rfl, h5⟩ := dI_some h4
  obtain ⟨x6, d6, rfl, h6⟩ := dL_some h5
  obtain ⟨rfl, hE⟩ := dE_some h6
  obtain ⟨y, hy, hk⟩ := bnd_some hE
  cases hy
 | succ n ih =>
  intro R ds k r h
  unfold m_Z50 at h
  obtain ⟨x0, d0, rfl, h0⟩ := dI_some h
  obtain ⟨x1, d1, rfl, h1⟩ := dL_some h0
  obtain ⟨x2, d2, rfl, h2⟩ := dI_some h1
  obtain ⟨x3, d3, rfl, h3⟩ := dI_some h2
  obtain ⟨x4, d4, rfl, h4⟩ := dI_some h3
  obtain ⟨x5, d5, rfl, h5⟩ := dI_some h4
  obtain ⟨x6, d6, rfl, h6⟩ := dL_some h5
  obtain ⟨rfl, hE⟩ := dE_some h6
  obtain ⟨y, hy, hk⟩ := bnd_some hE
  have hq := q_Z50 (n_Z50 n) x0 x1 x2 x3 x4 x5 x6
  rw [c_Z50_bind] at hq
  rw [show c_Z50 (n_Z50 n) x0 x1 x2 x3 x4 x5 x6 some = some y from hy] at hq
  refine ⟨0, _, _, _, hk, rfl, loop_ok px (fx := ⟨Try.func94, by kernel_rfl, by kernel_rfl⟩) entsOK_nil (lentsOK_cons ih lentsOK_nil) (by kernel_rfl) ?_⟩
  exact hq
noncomputable def e_Z50 : Lent := m_Z50 (Z50)
theorem e_Z50_ok : (e_Z50).ok Try.prog (codeAt (bodyOf Try.f94) 11) := by
 intro R ds k r h
 unfold e_Z50 m_Z50 at h
 obtain ⟨x0, d0, rfl, h0⟩ := dI_some h
 obtain ⟨x1, d1, rfl, h1⟩ := dL_some h0
 obtain ⟨x2, d2, rfl, h2⟩ := dI_some h1
 obtain ⟨x3, d3, rfl, h3⟩ := dI_some h2
 obtain ⟨x4, d4, rfl, h4⟩ := dI_some h3
 obtain ⟨x5, d5, rfl, h5⟩ := dI_some h4
 obtain ⟨x6, d6, rfl, h6⟩ := dL_some h5
 obtain ⟨rfl, hE⟩ := dE_some h6
 obtain ⟨y, hy, hk⟩ := bnd_some hE
 obtain ⟨n, hn⟩ := ev_some hy
 exact m_Z50_ok n R _ k r (show (n_Z50 n x0 x1 x2 x3 x4 x5 x6).bind _ = _ by rw [hn]; exact hk)

/-!-/
def c_Z51 {R : Type} (F : Int → List D → Int → Int → Int → Int → Option ((Int × Int × List D) ⊕ (Int × Int))) (x0 : Int) (x1 : List D) (x2 : Int) (x3 : Int) (x4 : Int) (x5 : Int) (k : (Int × Int × List D) ⊕ (Int × Int) → Option R) : Option R :=
 bif decide (x3 < x2) then
 if 0 ≤ x3 ∧ x3 < (↑x1.length : Int) then
 if x0 ≠ (0 : Int) then
 if (0 : Nat) + [D.int (IntKind.i64.wrap ((x1.getD x3.toNat (D.int 0)).toInt.tdiv x0))].length ≤ (4294967296 : Nat) then
 (Z50 x0 x1 x2 (IntKind.i64.wrap (x3 + 1)) x4 x5 ([D.int (IntKind.i64.wrap ((x1.getD x3.toNat (D.int 0)).toInt.tdiv x0))])).bind (fun y0 =>
 k (.inl (y0.fst, y0.snd.fst, y0.snd.snd)))
 else
 none
 else
 none
 else
 none
 else
 k (.inr (x4, x5))
theorem c_Z51_bind {R : Type} (F : Int → List D → Int → Int → Int → Int → Option ((Int × Int × List D) ⊕ (Int × Int))) (x0 : Int) (x1 : List D) (x2 : Int) (x3 : Int) (x4 : Int) (x5 : Int) (k : (Int × Int × List D) ⊕ (Int × Int) → Option R) : c_Z51 F x0 x1 x2 x3 x4 x5 k = (c_Z51 F x0 x1 x2 x3 x4 x5 some).bind k := by
 unfold c_Z51
 repeat' first|exact bnd_tail|exact bnd_none|exact bnd_leaf|apply bnd_ite|apply bnd_cond|apply bnd_sum|(apply bnd_bind;intro _)|intro _
def n_Z51 : Nat → Int → List D → Int → Int → Int → Int → Option ((Int × Int × List D) ⊕ (Int × Int))
 | 0, _, _, _, _, _, _ => none
 | n + 1, x0, x1, x2, x3, x4, x5 => c_Z51 (n_Z51 n) x0 x1 x2 x3 x4 x5 some
noncomputable def Z51 (x0 : Int) (x1 : List D) (x2 : Int) (x3 : Int) (x4 : Int) (x5 : Int) : Option ((Int × Int × List D) ⊕ (Int × Int)) := ev (fun n => n_Z51 n x0 x1 x2 x3 x4 x5)
def m_Z51 (F : Int → List D → Int → Int → Int → Int → Option ((Int × Int × List D) ⊕ (Int × Int))) : Lent := ⟨11, ⟨(uu 4 (.ptr 1000 [0] :: .undef :: .int .i64 :: .undef :: .undef :: .ptr 1001 [0] :: uu 31 (.rd (.int .i64) :: .int .i64 :: .int .i64 :: uu 17 ([])))), [(1000, .obox (.agg [.int .i64, .nilsl])), (1001, .obox (.agg [.int .i64, .nilsl]))]⟩, [(.exit 4, ⟨(uu 4 (.ptr 1000 [0] :: uu 4 (.ptr 1001 [0] :: uu 51 ([])))), [(1000, .obox (.agg [.int .i64, .nilsl])), (1001, .obox (.agg [.int .i64, .full 1002 [] (.int .i64)])), (1002, .own (.int .i64))]⟩), (.exit 4, ⟨(uu 4 (.ptr 1000 [0] :: uu 4 (.ptr 1001 [0] :: uu 51 ([])))), [(1000, .obox (.agg [.int .i64, .nilsl])), (1001, .obox (.agg [.int .i64, .nilsl]))]⟩)], fun _ ds k => dI (fun x0 ds => dL (fun x1 ds => dI (fun x2 ds => dI (fun x3 ds => dI (fun x4 ds => dI (fun x5 ds => dE ((F x0 x1 x2 x3 x4 x5).bind (Sum.elim (fun y => k 0 [.I y.1, .I y.2.1, .L y.2.2]) (fun y => k 1 [.I y.1, .I y.2]))) ds) ds) ds) ds) ds) ds) ds⟩
theorem q_Z51 (F : Int → List D → Int → Int → Int → Int → Option ((Int × Int × List D) ⊕ (Int × Int))) (x0 : Int) (x1 : List D) (x2 : Int) (x3 : Int) (x4 : Int) (x5 : Int) : runLoop (ocOf []) (olOf [m_Z51 F, e_Z50]) A 94 (codeAt (bodyOf Try.f94) 11) ((m_Z51 F).sh.mk' [.I x0, .L x1, .I x2, .I x3, .I x4, .I x5]) (fun e σ' => some (e, σ')) = c_Z51 F x0 x1 x2 x3 x4 x5 (Sum.elim (fun y => some (.exit 4, SSt.mk' ⟨(uu 4 (.ptr 1000 [0] :: uu 4 (.ptr 1001 [0] :: uu 51 ([])))), [(1000, .obox (.agg [.int .i64, .nilsl])), (1001, .obox (.agg [.int .i64, .full 1002 [] (.int .i64)])), (1002, .own (.int .i64))]⟩ [.I y.1, .I y.2.1, .L y.2.2])) (fun y => some (.exit 4, SSt.mk' ⟨(uu 4 (.ptr 1000 [0] :: uu 4 (.ptr 1001 [0] :: uu 51 ([])))), [(1000, .obox (.agg [.int .i64, .nilsl])), (1001, .obox (.agg [.int .i64, .nilsl]))]⟩ [.I y.1, .I y.2]))) := by kernel_rfl
theorem m_Z51_ok : ∀ n, (m_Z51 (n_Z51 n)).ok Try.prog (codeAt (bodyOf Try.f94) 11) := by
 intro n
 induction n with
 | zero =>
  intro R ds k r h
  unfold m_Z51 at h
  obtain ⟨x0, d0, rfl, h0⟩ := dI_some h
  obtain ⟨x1, d1, rfl, h1⟩ := dL_some h0
  obtain ⟨x2, d2, rfl, h2⟩ := dI_some h1
  obtain ⟨x3, d3, rfl, h3⟩ := dI_some h2
  obtain ⟨x4, d4, rfl, h4⟩ := dI_some h3
  obtain ⟨x5, d5, rfl, h5⟩ := dI_some h4
  obtain ⟨rfl, hE⟩ := dE_some h5
  obtain ⟨y, hy, hk⟩ := bnd_some hE
  cases hy
 | succ n ih =>
  intro R ds k r h
  unfold m_Z51 at h
  obtain ⟨x0, d0, rfl, h0⟩ := dI_some h
  obtain ⟨x1, d1, rfl, h1⟩ := dL_some h0
  obtain ⟨x2, d2, rfl, h2⟩ := dI_some h1
  obtain ⟨x3, d3, rfl, h3⟩ := dI_some h2
  obtain ⟨x4, d4, rfl, h4⟩ := dI_some h3
  obtain ⟨x5, d5, rfl, h5⟩ := dI_some h4
  obtain ⟨rfl, hE⟩ := dE_some h5
  obtain ⟨y, hy, hk⟩ := bnd_some hE
  have hq := q_Z51 (n_Z51 n) x0 x1 x2 x3 x4 x5
  rw [c_Z51_bind] at hq
  rw [show c_Z51 (n_Z51 n) x0 x1 x2 x3 x4 x5 some = some y from hy] at hq
  cases y with
  | inl y =>
   refine ⟨0, _, _, _, hk, rfl, loop_ok px (fx := ⟨Try.func94, by kernel_rfl, by kernel_rfl⟩) entsOK_nil (lentsOK_cons ih (lentsOK_cons e_Z50_ok lentsOK_nil)) (by kernel_rfl) ?_⟩
   exact hq
  | inr y =>
   refine ⟨1, _, _, _, hk, rfl, loop_ok px (fx := ⟨Try.func94, by kernel_rfl, by kernel_rfl⟩) entsOK_nil (lentsOK_cons ih (lentsOK_cons e_Z50_ok lentsOK_nil)) (by kernel_rfl) ?_⟩
   exact hq
noncomputable def e_Z51 : Lent := m_Z51 (Z51)
theorem e_Z51_ok : (e_Z51).ok Try.prog (codeAt (bodyOf Try.f94) 11) := by
 intro R ds k r h
 unfold e_Z51 m_Z51 at h
 obtain ⟨x0, d0, rfl, h0⟩ := dI_some h
 obtain ⟨x1, d1, rfl, h1⟩ := dL_some h0
 obtain ⟨x2, d2, rfl, h2⟩ := dI_some h1
 obtain ⟨x3, d3, rfl, h3⟩ := dI_some h2
 obtain ⟨x4, d4, rfl, h4⟩ := dI_some h3
 obtain ⟨x5, d5, rfl, h5⟩ := dI_some h4
 obtain ⟨rfl, hE⟩ := dE_some h5
 obtain ⟨y, hy, hk⟩ := bnd_some hE
 obtain ⟨n, hn⟩ := ev_some hy
 exact m_Z51_ok n R _ k r (show (n_Z51 n x0 x1 x2 x3 x4 x5).bind _ = _ by rw [hn]; exact hk)

/-!-/
def c_Z52 {R : Type} (x0 : Int) (k : Bool → Option R) : Option R :=
 bif decide ((↑([] : List D).length : Int) < (1 : Int)) then
 k Bool.false
 else
 bif decide ((60 : Int) < (↑([] : List D).length : Int)) then
 k Bool.false
 else
 (Z23 x0).bind (fun y0 =>
 bif !y0 then
 k Bool.false
 else
 (Z24 x0 []).bind (fun y1 =>
 (Z23 y1).bind (fun y2 =>
 bif !y2 then
 k Bool.false
 else
 (Z28 []).bind (fun y3 =>
 bif y3 then
 k Bool.false
 else
 if (0 : Int) ≤ (0 : Int) ∧ (0 : Int) < (↑([] : List D).length : Int) then
 if Int.toNat (0 : Int) + (1 : Nat) ≤ ([] : List D).length then
 bif decide ((0 : Int) < ([].getD (Int.toNat (0 : Int)) (D.int 0)).toInt) then
 if (0 : Int) ≤ IntKind.i64.wrap ((↑([] : List D).length : Int) - (1 : Int)) ∧ IntKind.i64.wrap ((↑([] : List D).length : Int) - (1 : Int)) < (↑([] : List D).length : Int) then
 if (IntKind.i64.wrap ((↑([] : List D).length : Int) - (1 : Int))).toNat + 1 ≤ ([] : List D).length then
 bif decide ((0 : Int) < ([].getD (IntKind.i64.wrap ((↑([] : List D).length : Int) - (1 : Int))).toNat (D.int 0)).toInt) then
 (Z32 []).bind (fun y4 =>
 k (decide (y4 = (1 : Int))))
 else
 k Bool.false
 else
 none
 else
 none
 else
 k Bool.false
 else
 none
 else
 none))))
theorem c_Z52_bind {R : Type} (x0 : Int) (k : Bool → Option R) : c_Z52 x0 k = (c_Z52 x0 some).bind k := by
 unfold c_Z52
 repeat' first|exact bnd_tail|exact bnd_none|exact bnd_leaf|apply bnd_ite|apply bnd_cond|apply bnd_sum|(apply bnd_bind;intro _)|intro _
def Z52 (x0 : Int) : Option (Bool) := c_Z52 x0 some
def e_Z52 : Ent := ⟨32, [.agg [.int .i64, .nilsl]], .bool, [.undef], fun _ ds k => dI (fun x0 ds => dE ((Z52 x0).bind (fun y => k [.B y])) ds) ds⟩
theorem q_Z52 (x0 : Int) : runFn (ocOf [e_Z23, e_Z24, e_Z28, e_Z32]) (olOf []) A 32 Try.f32 (Sh.mks e_Z52.sh [.I x0]).1 (fun v os => some (v, os)) = c_Z52 x0 (fun y => some ((e_Z52.res.mk [.B y]).1, (Sh.mks e_Z52.outs (e_Z52.res.mk [.B y]).2).1)) := by kernel_rfl
theorem e_Z52_ok : e_Z52.ok Try.prog A := by
 intro R ds k r h
 unfold e_Z52 at h
 obtain ⟨x0, d0, rfl, h0⟩ := dI_some h
 obtain ⟨rfl, hE⟩ := dE_some h0
 obtain ⟨y, hy, hk⟩ := bnd_some hE
 refine ⟨_, hk, fn_ok px (fx := ⟨Try.func32, by kernel_rfl, by kernel_rfl⟩) (entsOK_cons e_Z23_ok (entsOK_cons e_Z24_ok (entsOK_cons e_Z28_ok (entsOK_cons e_Z32_ok entsOK_nil)))) lentsOK_nil ?_⟩
 have hq := q_Z52 x0
 rw [c_Z52_bind] at hq
 rw [show c_Z52 x0 some = some y from hy] at hq
 exact hq

/-!-/
def c_Z53 {R : Type} (x0 : Int) (x1 : List D) (k : Int × List D × Bool → Option R) : Option R :=
 (Z32 x1).bind (fun y0 =>
 bif decide (y0 = (0 : Int)) then
 k ((0 : Int), [], Bool.false)
 else
 (Z48 x0 x1 y0 (0 : Int) (↑x1.length : Int) (0 : Int)).bind (fun y1 =>
 (Z49 y1.fst y1.snd.fst y1.snd.snd.fst y1.snd.snd.snd.fst y1.snd.snd.snd.snd.fst y1.snd.snd.snd.snd.snd).bind (fun y2 =>
 if 0 ≤ y2.snd.snd.snd.fst ∧ y2.snd.snd.snd.fst ≤ y2.snd.snd.snd.snd.fst ∧ y2.snd.snd.snd.snd.fst ≤ (↑y2.snd.fst.length : Int) then
 (Z51 y2.snd.snd.fst (List.take (y2.snd.snd.snd.snd.fst.toNat - y2.snd.snd.snd.fst.toNat) (List.drop y2.snd.snd.snd.fst.toNat y2.snd.fst)) (↑(List.take (y2.snd.snd.snd.snd.fst.toNat - y2.snd.snd.snd.fst.toNat) (List.drop y2.snd.snd.snd.fst.toNat y2.snd.fst)).length : Int) (0 : Int) y2.snd.snd.snd.snd.snd (IntKind.i64.wrap (y2.fst + y2.snd.snd.snd.fst))).bind (Sum.elim (fun y3 =>
 (Z33 y3.snd.fst y3.snd.snd).bind (fun y4 =>
 bif !y4 then
 k ((0 : Int), [], Bool.false)
 else
 k (y3.snd.fst, y3.snd.snd, Bool.true))) (fun y5 =>
 (Z52 y5.snd).bind (fun y6 =>
 bif !y6 then
 k ((0 : Int), [], Bool.false)
 else
 k (y5.snd, [], Bool.true))))
 else
 none)))
theorem c_Z53_bind {R : Type} (x0 : Int) (x1 : List D) (k : Int × List D × Bool → Option R) : c_Z53 x0 x1 k = (c_Z53 x0 x1 some).bind k := by
 unfold c_Z53
 repeat' first|exact bnd_tail|exact bnd_none|exact bnd_leaf|apply bnd_ite|apply bnd_cond|apply bnd_sum|(apply bnd_bind;intro _)|intro _
def Z53 (x0 : Int) (x1 : List D) : Option (Int × List D × Bool) := c_Z53 x0 x1 some
def e_Z53 : Ent := ⟨94, [.int .i64, .rd (.int .i64)], .tup [.agg [.int .i64, .own (.int .i64)], .bool], [.undef, .undef], fun _ ds k => dI (fun x0 ds => dL (fun x1 ds => dE ((Z53 x0 x1).bind (fun y => k [.I y.1, .L y.2.1, .B y.2.2])) ds) ds) ds⟩
theorem q_Z53 (x0 : Int) (x1 : List D) : runFn (ocOf [e_Z32, e_Z33, e_Z52]) (olOf [e_Z48, e_Z49, e_Z51]) A 94 Try.f94 (Sh.mks e_Z53.sh [.I x0, .L x1]).1 (fun v os => some (v, os)) = c_Z53 x0 x1 (fun y => some ((e_Z53.res.mk [.I y.1, .L y.2.1, .B y.2.2]).1, (Sh.mks e_Z53.outs (e_Z53.res.mk [.I y.1, .L y.2.1, .B y.2.2]).2).1)) := by kernel_rfl
theorem e_Z53_ok : e_Z53.ok Try.prog A := by
 intro R ds k r h
 unfold e_Z53 at h
 obtain ⟨x0, d0, rfl, h0⟩ := dI_some h
 obtain ⟨x1, d1, rfl, h1⟩ := dL_some h0
 obtain ⟨rfl, hE⟩ := dE_some h1
 obtain ⟨y, hy, hk⟩ := bnd_some hE
 refine ⟨_, hk, fn_ok px (fx := ⟨Try.func94, by kernel_rfl, by kernel_rfl⟩) (entsOK_cons e_Z32_ok (entsOK_cons e_Z33_ok (entsOK_cons e_Z52_ok entsOK_nil))) (lentsOK_cons e_Z48_ok (lentsOK_cons e_Z49_ok (lentsOK_cons e_Z51_ok lentsOK_nil))) ?_⟩
 have hq := q_Z53 x0 x1
 rw [c_Z53_bind] at hq
 rw [show c_Z53 x0 x1 some = some y from hy] at hq
 exact hq

/-!-/
def c_Z54 {R : Type} (x0 : Int) (x1 : List D) (k : Int × List D × Bool → Option R) : Option R :=
 (Z23 x0).bind (fun y0 =>
 bif !y0 then
 k ((0 : Int), [], Bool.false)
 else
 bif decide ((200 : Int) < (↑x1.length : Int)) then
 k ((0 : Int), [], Bool.false)
 else
 (Z47 x1).bind (fun y1 =>
 bif y1 then
 k ((0 : Int), [], Bool.false)
 else
 (Z53 x0 x1).bind (fun y2 =>
 k (y2.fst, y2.snd.fst, y2.snd.snd))))
theorem c_Z54_bind {R : Type} (x0 : Int) (x1 : List D) (k : Int × List D × Bool → Option R) : c_Z54 x0 x1 k = (c_Z54 x0 x1 some).bind k := by
 unfold c_Z54
 repeat' first|exact bnd_tail|exact bnd_none|exact bnd_leaf|apply bnd_ite|apply bnd_cond|apply bnd_sum|(apply bnd_bind;intro _)|intro _
def Z54 (x0 : Int) (x1 : List D) : Option (Int × List D × Bool) := c_Z54 x0 x1 some
def e_Z54 : Ent := ⟨29, [.int .i64, .rd (.int .i64)], .tup [.agg [.int .i64, .own (.int .i64)], .bool], [.undef, .undef], fun _ ds k => dI (fun x0 ds => dL (fun x1 ds => dE ((Z54 x0 x1).bind (fun y => k [.I y.1, .L y.2.1, .B y.2.2])) ds) ds) ds⟩
theorem q_Z54 (x0 : Int) (x1 : List D) : runFn (ocOf [e_Z23, e_Z47, e_Z53]) (olOf []) A 29 Try.f29 (Sh.mks e_Z54.sh [.I x0, .L x1]).1 (fun v os => some (v, os)) = c_Z54 x0 x1 (fun y => some ((e_Z54.res.mk [.I y.1, .L y.2.1, .B y.2.2]).1, (Sh.mks e_Z54.outs (e_Z54.res.mk [.I y.1, .L y.2.1, .B y.2.2]).2).1)) := by kernel_rfl
theorem e_Z54_ok : e_Z54.ok Try.prog A := by
 intro R ds k r h
 unfold e_Z54 at h
 obtain ⟨x0, d0, rfl, h0⟩ := dI_some h
 obtain ⟨x1, d1, rfl, h1⟩ := dL_some h0
 obtain ⟨rfl, hE⟩ := dE_some h1
 obtain ⟨y, hy, hk⟩ := bnd_some hE
 refine ⟨_, hk, fn_ok px (fx := ⟨Try.func29, by kernel_rfl, by kernel_rfl⟩) (entsOK_cons e_Z23_ok (entsOK_cons e_Z47_ok (entsOK_cons e_Z53_ok entsOK_nil))) lentsOK_nil ?_⟩
 have hq := q_Z54 x0 x1
 rw [c_Z54_bind] at hq
 rw [show c_Z54 x0 x1 some = some y from hy] at hq
 exact hq

/-!-/
def c_Z55 {R : Type} (x0 : Int) (x1 : List D) (k : Int × List D × Bool → Option R) : Option R :=
 (Z42 x1).bind (fun y0 =>
 if (1000000 : Int) ≠ (0 : Int) then
 (Z43 x0 (IntKind.i64.wrap (IntKind.i64.wrap ((IntKind.i64.wrap (y0 - 1)).tdiv (1000000 : Int)) + (1 : Int))) x1 (↑x1.length : Int) (0 : Int) (0 : Int) []).bind (fun y1 =>
 (Z54 y1.fst y1.snd.snd).bind (fun y2 =>
 k (y2.fst, y2.snd.fst, y2.snd.snd)))
 else
 none)
theorem c_Z55_bind {R : Type} (x0 : Int) (x1 : List D) (k : Int × List D × Bool → Option R) : c_Z55 x0 x1 k = (c_Z55 x0 x1 some).bind k := by
 unfold c_Z55
 repeat' first|exact bnd_tail|exact bnd_none|exact bnd_leaf|apply bnd_ite|apply bnd_cond|apply bnd_sum|(apply bnd_bind;intro _)|intro _
def Z55 (x0 : Int) (x1 : List D) : Option (Int × List D × Bool) := c_Z55 x0 x1 some
def e_Z55 : Ent := ⟨121, [.int .i64, .rd (.int .i64)], .tup [.agg [.int .i64, .own (.int .i64)], .bool], [.undef, .undef], fun _ ds k => dI (fun x0 ds => dL (fun x1 ds => dE ((Z55 x0 x1).bind (fun y => k [.I y.1, .L y.2.1, .B y.2.2])) ds) ds) ds⟩
theorem q_Z55 (x0 : Int) (x1 : List D) : runFn (ocOf [e_Z42, e_Z54]) (olOf [e_Z43]) A 121 Try.f121 (Sh.mks e_Z55.sh [.I x0, .L x1]).1 (fun v os => some (v, os)) = c_Z55 x0 x1 (fun y => some ((e_Z55.res.mk [.I y.1, .L y.2.1, .B y.2.2]).1, (Sh.mks e_Z55.outs (e_Z55.res.mk [.I y.1, .L y.2.1, .B y.2.2]).2).1)) := by kernel_rfl
theorem e_Z55_ok : e_Z55.ok Try.prog A := by
 intro R ds k r h
 unfold e_Z55 at h
 obtain ⟨x0, d0, rfl, h0⟩ := dI_some h
 obtain ⟨x1, d1, rfl, h1⟩ := dL_some h0
 obtain ⟨rfl, hE⟩ := dE_some h1
 obtain ⟨y, hy, hk⟩ := bnd_some hE
 refine ⟨_, hk, fn_ok px (fx := ⟨Try.func121, by kernel_rfl, by kernel_rfl⟩) (entsOK_cons e_Z42_ok (entsOK_cons e_Z54_ok entsOK_nil)) (lentsOK_cons e_Z43_ok lentsOK_nil) ?_⟩
 have hq := q_Z55 x0 x1
 rw [c_Z55_bind] at hq
 rw [show c_Z55 x0 x1 some = some y from hy] at hq
 exact hq

/-!-/
def c_Z56 {R : Type} (x0 : List D) (k : Int × List D × Bool → Option R) : Option R :=
 (Z22 (↑x0.length : Int) (1 : Int) (4 : Int)).bind (fun y0 =>
 bif !y0 then
 k ((0 : Int), [], Bool.false)
 else
 (Z37 x0 (1 : Int) (2100 : Int) (-20000 : Int) x0 (↑x0.length : Int) (0 : Int) (0 : Int)).bind (Sum.elim (fun y1 =>
 k (y1.snd.snd.snd.snd, [], y1.snd.fst)) (fun y2 =>
 bif decide ((200 : Int) < IntKind.i64.wrap (IntKind.i64.wrap (y2.snd.snd.fst - y2.snd.fst) + (1 : Int))) then
 k ((0 : Int), [], Bool.false)
 else
 (Z40 y2.fst y2.snd.fst y2.snd.snd.fst (0 : Int) y2.snd.fst y2.snd.snd.snd []).bind (fun y3 =>
 (Z55 y3.fst y3.snd.snd).bind (fun y4 =>
 k (y4.fst, y4.snd.fst, y4.snd.snd))))))
theorem c_Z56_bind {R : Type} (x0 : List D) (k : Int × List D × Bool → Option R) : c_Z56 x0 k = (c_Z56 x0 some).bind k := by
 unfold c_Z56
 repeat' first|exact bnd_tail|exact bnd_none|exact bnd_leaf|apply bnd_ite|apply bnd_cond|apply bnd_sum|(apply bnd_bind;intro _)|intro _
def Z56 (x0 : List D) : Option (Int × List D × Bool) := c_Z56 x0 some
def e_Z56 : Ent := ⟨53, [.rd (.struct [.int .i64, .slice (.int .i64)])], .tup [.agg [.int .i64, .own (.int .i64)], .bool], [.undef], fun _ ds k => dL (fun x0 ds => dE ((Z56 x0).bind (fun y => k [.I y.1, .L y.2.1, .B y.2.2])) ds) ds⟩
theorem q_Z56 (x0 : List D) : runFn (ocOf [e_Z22, e_Z55]) (olOf [e_Z37, e_Z40]) A 53 Try.f53 (Sh.mks e_Z56.sh [.L x0]).1 (fun v os => some (v, os)) = c_Z56 x0 (fun y => some ((e_Z56.res.mk [.I y.1, .L y.2.1, .B y.2.2]).1, (Sh.mks e_Z56.outs (e_Z56.res.mk [.I y.1, .L y.2.1, .B y.2.2]).2).1)) := by kernel_rfl
theorem e_Z56_ok : e_Z56.ok Try.prog A := by
 intro R ds k r h
 unfold e_Z56 at h
 obtain ⟨x0, d0, rfl, h0⟩ := dL_some h
 obtain ⟨rfl, hE⟩ := dE_some h0
 obtain ⟨y, hy, hk⟩ := bnd_some hE
 refine ⟨_, hk, fn_ok px (fx := ⟨Try.func53, by kernel_rfl, by kernel_rfl⟩) (entsOK_cons e_Z22_ok (entsOK_cons e_Z55_ok entsOK_nil)) (lentsOK_cons e_Z37_ok (lentsOK_cons e_Z40_ok lentsOK_nil)) ?_⟩
 have hq := q_Z56 x0
 rw [c_Z56_bind] at hq
 rw [show c_Z56 x0 some = some y from hy] at hq
 exact hq

/-!-/
def c_Z57 {R : Type} (F : List D → Int → Int → Option (Int)) (x0 : List D) (x1 : Int) (x2 : Int) (k : Int → Option R) : Option R :=
 bif decide (x2 < (↑x0.length : Int)) then
 if 0 ≤ x2 ∧ x2 < (↑x0.length : Int) then
 (F x0 (IntKind.i64.wrap (x1 + (x0.getD x2.toNat (D.int 0)).toInt)) (IntKind.i64.wrap (x2 + 1))).bind k
 else
 none
 else
 k x1
theorem c_Z57_bind {R : Type} (F : List D → Int → Int → Option (Int)) (x0 : List D) (x1 : Int) (x2 : Int) (k : Int → Option R) : c_Z57 F x0 x1 x2 k = (c_Z57 F x0 x1 x2 some).bind k := by
 unfold c_Z57
 repeat' first|exact bnd_tail|exact bnd_none|exact bnd_leaf|apply bnd_ite|apply bnd_cond|apply bnd_sum|(apply bnd_bind;intro _)|intro _
def n_Z57 : Nat → List D → Int → Int → Option (Int)
 | 0, _, _, _ => none
 | n + 1, x0, x1, x2 => c_Z57 (n_Z57 n) x0 x1 x2 some
noncomputable def Z57 (x0 : List D) (x1 : Int) (x2 : Int) : Option (Int) := ev (fun n => n_Z57 n x0 x1 x2)
def m_Z57 (F : List D → Int → Int → Option (Int)) : Lent := ⟨3, ⟨(.rd (.int .i64) :: .undef :: .undef :: .int .i64 :: .int .i64 :: uu 13 ([])), []⟩, [(.exit 0, ⟨(.undef :: .undef :: .undef :: .int .i64 :: uu 14 ([])), []⟩)], fun _ ds k => dL (fun x0 ds => dI (fun x1 ds => dI (fun x2 ds => dE ((F x0 x1 x2).bind (fun y => k 0 [.I y])) ds) ds) ds) ds⟩
theorem q_Z57 (F : List D → Int → Int → Option (Int)) (x0 : List D) (x1 : Int) (x2 : Int) : runLoop (ocOf []) (olOf [m_Z57 F]) A 88 (codeAt (bodyOf Try.f88) 3) ((m_Z57 F).sh.mk' [.L x0, .I x1, .I x2]) (fun e σ' => some (e, σ')) = c_Z57 F x0 x1 x2 (fun y => some (.exit 0, SSt.mk' ⟨(.undef :: .undef :: .undef :: .int .i64 :: uu 14 ([])), []⟩ [.I y])) := by kernel_rfl
theorem m_Z57_ok : ∀ n, (m_Z57 (n_Z57 n)).ok Try.prog (codeAt (bodyOf Try.f88) 3) := by
 intro n
 induction n with
 | zero =>
  intro R ds k r h
  unfold m_Z57 at h
  obtain ⟨x0, d0, rfl, h0⟩ := dL_some h
  obtain ⟨x1, d1, rfl, h1⟩ := dI_some h0
  obtain ⟨x2, d2, rfl, h2⟩ := dI_some h1
  obtain ⟨rfl, hE⟩ := dE_some h2
  obtain ⟨y, hy, hk⟩ := bnd_some hE
  cases hy
 | succ n ih =>
  intro R ds k r h
  unfold m_Z57 at h
  obtain ⟨x0, d0, rfl, h0⟩ := dL_some h
  obtain ⟨x1, d1, rfl, h1⟩ := dI_some h0
  obtain ⟨x2, d2, rfl, h2⟩ := dI_some h1
  obtain ⟨rfl, hE⟩ := dE_some h2
  obtain ⟨y, hy, hk⟩ := bnd_some hE
  have hq := q_Z57 (n_Z57 n) x0 x1 x2
  rw [c_Z57_bind] at hq
  rw [show c_Z57 (n_Z57 n) x0 x1 x2 some = some y from hy] at hq
  refine ⟨0, _, _, _, hk, rfl, loop_ok px (fx := ⟨Try.func88, by kernel_rfl, by kernel_rfl⟩) entsOK_nil (lentsOK_cons ih lentsOK_nil) (by kernel_rfl) ?_⟩
  exact hq
noncomputable def e_Z57 : Lent := m_Z57 (Z57)
theorem e_Z57_ok : (e_Z57).ok Try.prog (codeAt (bodyOf Try.f88) 3) := by
 intro R ds k r h
 unfold e_Z57 m_Z57 at h
 obtain ⟨x0, d0, rfl, h0⟩ := dL_some h
 obtain ⟨x1, d1, rfl, h1⟩ := dI_some h0
 obtain ⟨x2, d2, rfl, h2⟩ := dI_some h1
 obtain ⟨rfl, hE⟩ := dE_some h2
 obtain ⟨y, hy, hk⟩ := bnd_some hE
 obtain ⟨n, hn⟩ := ev_some hy
 exact m_Z57_ok n R _ k r (show (n_Z57 n x0 x1 x2).bind _ = _ by rw [hn]; exact hk)

/-!-/
def c_Z58 {R : Type} (x0 : List D) (k : Int → Option R) : Option R :=
 (Z57 x0 (0 : Int) (0 : Int)).bind (fun y0 =>
 k y0)
theorem c_Z58_bind {R : Type} (x0 : List D) (k : Int → Option R) : c_Z58 x0 k = (c_Z58 x0 some).bind k := by
 unfold c_Z58
 repeat' first|exact bnd_tail|exact bnd_none|exact bnd_leaf|apply bnd_ite|apply bnd_cond|apply bnd_sum|(apply bnd_bind;intro _)|intro _
def Z58 (x0 : List D) : Option (Int) := c_Z58 x0 some
def e_Z58 : Ent := ⟨88, [.rd (.int .i64)], .int .i64, [.undef], fun _ ds k => dL (fun x0 ds => dE ((Z58 x0).bind (fun y => k [.I y])) ds) ds⟩
theorem q_Z58 (x0 : List D) : runFn (ocOf []) (olOf [e_Z57]) A 88 Try.f88 (Sh.mks e_Z58.sh [.L x0]).1 (fun v os => some (v, os)) = c_Z58 x0 (fun y => some ((e_Z58.res.mk [.I y]).1, (Sh.mks e_Z58.outs (e_Z58.res.mk [.I y]).2).1)) := by kernel_rfl
theorem e_Z58_ok : e_Z58.ok Try.prog A := by
 intro R ds k r h
 unfold e_Z58 at h
 obtain ⟨x0, d0, rfl, h0⟩ := dL_some h
 obtain ⟨rfl, hE⟩ := dE_some h0
 obtain ⟨y, hy, hk⟩ := bnd_some hE
 refine ⟨_, hk, fn_ok px (fx := ⟨Try.func88, by kernel_rfl, by kernel_rfl⟩) entsOK_nil (lentsOK_cons e_Z57_ok lentsOK_nil) ?_⟩
 have hq := q_Z58 x0
 rw [c_Z58_bind] at hq
 rw [show c_Z58 x0 some = some y from hy] at hq
 exact hq

/-!-/
def c_Z59 {R : Type} (x0 : Int) (x1 : Int) (k : Int → Option R) : Option R :=
 bif decide (x0 < x1) then
 k x0
 else
 k x1
theorem c_Z59_bind {R : Type} (x0 : Int) (x1 : Int) (k : Int → Option R) : c_Z59 x0 x1 k = (c_Z59 x0 x1 some).bind k := by
 unfold c_Z59
 repeat' first|exact bnd_tail|exact bnd_none|exact bnd_leaf|apply bnd_ite|apply bnd_cond|apply bnd_sum|(apply bnd_bind;intro _)|intro _
def Z59 (x0 : Int) (x1 : Int) : Option (Int) := c_Z59 x0 x1 some
def e_Z59 : Ent := ⟨122, [.int .i64, .int .i64], .int .i64, [.undef, .undef], fun _ ds k => dI (fun x0 ds => dI (fun x1 ds => dE ((Z59 x0 x1).bind (fun y => k [.I y])) ds) ds) ds⟩
theorem q_Z59 (x0 : Int) (x1 : Int) : runFn (ocOf []) (olOf []) A 122 Try.f122 (Sh.mks e_Z59.sh [.I x0, .I x1]).1 (fun v os => some (v, os)) = c_Z59 x0 x1 (fun y => some ((e_Z59.res.mk [.I y]).1, (Sh.mks e_Z59.outs (e_Z59.res.mk [.I y]).2).1)) := by kernel_rfl
theorem e_Z59_ok : e_Z59.ok Try.prog A := by
 intro R ds k r h
 unfold e_Z59 at h
 obtain ⟨x0, d0, rfl, h0⟩ := dI_some h
 obtain ⟨x1, d1, rfl, h1⟩ := dI_some h0
 obtain ⟨rfl, hE⟩ := dE_some h1
 obtain ⟨y, hy, hk⟩ := bnd_some hE
 refine ⟨_, hk, fn_ok px (fx := ⟨Try.func122, by kernel_rfl, by kernel_rfl⟩) entsOK_nil lentsOK_nil ?_⟩
 have hq := q_Z59 x0 x1
 rw [c_Z59_bind] at hq
 rw [show c_Z59 x0 x1 some = some y from hy] at hq
 exact hq

/-!-/
def c_Z60 {R : Type} (x0 : Int) (x1 : Int) (k : Int → Option R) : Option R :=
 bif decide (x1 < x0) then
 k x0
 else
 k x1
theorem c_Z60_bind {R : Type} (x0 : Int) (x1 : Int) (k : Int → Option R) : c_Z60 x0 x1 k = (c_Z60 x0 x1 some).bind k := by
 unfold c_Z60
 repeat' first|exact bnd_tail|exact bnd_none|exact bnd_leaf|apply bnd_ite|apply bnd_cond|apply bnd_sum|(apply bnd_bind;intro _)|intro _
def Z60 (x0 : Int) (x1 : Int) : Option (Int) := c_Z60 x0 x1 some
def e_Z60 : Ent := ⟨123, [.int .i64, .int .i64], .int .i64, [.undef, .undef], fun _ ds k => dI (fun x0 ds => dI (fun x1 ds => dE ((Z60 x0 x1).bind (fun y => k [.I y])) ds) ds) ds⟩
theorem q_Z60 (x0 : Int) (x1 : Int) : runFn (ocOf []) (olOf []) A 123 Try.f123 (Sh.mks e_Z60.sh [.I x0, .I x1]).1 (fun v os => some (v, os)) = c_Z60 x0 x1 (fun y => some ((e_Z60.res.mk [.I y]).1, (Sh.mks e_Z60.outs (e_Z60.res.mk [.I y]).2).1)) := by kernel_rfl
theorem e_Z60_ok : e_Z60.ok Try.prog A := by
 intro R ds k r h
 unfold e_Z60 at h
 obtain ⟨x0, d0, rfl, h0⟩ := dI_some h
 obtain ⟨x1, d1, rfl, h1⟩ := dI_some h0
 obtain ⟨rfl, hE⟩ := dE_some h1
 obtain ⟨y, hy, hk⟩ := bnd_some hE
 refine ⟨_, hk, fn_ok px (fx := ⟨Try.func123, by kernel_rfl, by kernel_rfl⟩) entsOK_nil lentsOK_nil ?_⟩
 have hq := q_Z60 x0 x1
 rw [c_Z60_bind] at hq
 rw [show c_Z60 x0 x1 some = some y from hy] at hq
 exact hq

/-!-/
def c_Z61 {R : Type} (F : List D → Int → Int → Int → Int → Int → Int → Option ((List D × Bool × Int × Int × Int × Int) ⊕ (List D × Int × Int × Int × Int))) (x0 : List D) (x1 : Int) (x2 : Int) (x3 : Int) (x4 : Int) (x5 : Int) (x6 : Int) (k : (List D × Bool × Int × Int × Int × Int) ⊕ (List D × Int × Int × Int × Int) → Option R) : Option R :=
 bif decide (x4 < (↑x0.length : Int)) then
 if 0 ≤ x4 ∧ x4 < (↑x0.length : Int) then
 (Z14 (((x0.getD x4.toNat (D.int 0)).fld (0 : Nat)).toInt) (((x0.getD x4.toNat (D.int 0)).fld (1 : Nat)).items)).bind (fun y0 =>
 bif !y0 then
 k (.inl (x0, Bool.false, x1, x2, x6, x6))
 else
 if 0 ≤ x4 ∧ x4 < (↑x0.length : Int) then
 (Z58 (((x0.getD x4.toNat (D.int 0)).fld (1 : Nat)).items)).bind (fun y1 =>
 if y1 ≠ (0 : Int) then
 bif decide (IntKind.i64.wrap (Int.tdiv (1000000000000000 : Int) y1) < x3) then
 k (.inl (x0, Bool.false, x1, x2, x6, x6))
 else
 if 0 ≤ x4 ∧ x4 < (↑x0.length : Int) then
 (Z58 (((x0.getD x4.toNat (D.int 0)).fld (1 : Nat)).items)).bind (fun y2 =>
 if 0 ≤ x4 ∧ x4 < (↑x0.length : Int) then
 (Z59 x1 (((x0.getD x4.toNat (D.int 0)).fld (0 : Nat)).toInt)).bind (fun y3 =>
 if 0 ≤ x4 ∧ x4 < (↑x0.length : Int) then
 if 0 ≤ x4 ∧ x4 < (↑x0.length : Int) then
 (Z60 x2 (IntKind.i64.wrap (IntKind.i64.wrap (((x0.getD x4.toNat (D.int 0)).fld (0 : Nat)).toInt + (↑((x0.getD x4.toNat (D.int 0)).fld (1 : Nat)).items.length : Int)) - (1 : Int)))).bind (fun y4 =>
 (F x0 y3 y4 (IntKind.i64.wrap (x3 * y2)) (IntKind.i64.wrap (x4 + 1)) x5 x6).bind k)
 else
 none
 else
 none)
 else
 none)
 else
 none
 else
 none)
 else
 none)
 else
 none
 else
 k (.inr (x0, x1, x2, x5, x6))
theorem c_Z61_bind {R : Type} (F : List D → Int → Int → Int → Int → Int → Int → Option ((List D × Bool × Int × Int × Int × Int) ⊕ (List D × Int × Int × Int × Int))) (x0 : List D) (x1 : Int) (x2 : Int) (x3 : Int) (x4 : Int) (x5 : Int) (x6 : Int) (k : (List D × Bool × Int × Int × Int × Int) ⊕ (List D × Int × Int × Int × Int) → Option R) : c_Z61 F x0 x1 x2 x3 x4 x5 x6 k = (c_Z61 F x0 x1 x2 x3 x4 x5 x6 some).bind k := by
 unfold c_Z61
 repeat' first|exact bnd_tail|exact bnd_none|exact bnd_leaf|apply bnd_ite|apply bnd_cond|apply bnd_sum|(apply bnd_bind;intro _)|intro _
def n_Z61 : Nat → List D → Int → Int → Int → Int → Int → Int → Option ((List D × Bool × Int × Int × Int × Int) ⊕ (List D × Int × Int × Int × Int))
 | 0, _, _, _, _, _, _, _ => none
 | n + 1, x0, x1, x2, x3, x4, x5, x6 => c_Z61 (n_Z61 n) x0 x1 x2 x3 x4 x5 x6 some
noncomputable def Z61 (x0 : List D) (x1 : Int) (x2 : Int) (x3 : Int) (x4 : Int) (x5 : Int) (x6 : Int) : Option ((List D × Bool × Int × Int × Int × Int) ⊕ (List D × Int × Int × Int × Int)) := ev (fun n => n_Z61 n x0 x1 x2 x3 x4 x5 x6)
def m_Z61 (F : List D → Int → Int → Int → Int → Int → Int → Option ((List D × Bool × Int × Int × Int × Int) ⊕ (List D × Int × Int × Int × Int))) : Lent := ⟨6, ⟨(.rd (.struct [.int .i64, .slice (.int .i64)]) :: .undef :: .ptr 1000 [0] :: .undef :: .ptr 1001 [0] :: .int .i64 :: .int .i64 :: .int .i64 :: .int .i64 :: uu 103 ([])), [(1000, .obox (.agg [.int .i64, .nilsl])), (1001, .obox (.agg [.int .i64, .nilsl]))]⟩, [(.ret, ⟨(.rd (.struct [.int .i64, .slice (.int .i64)]) :: .undef :: .ptr 1000 [0] :: .bool :: .ptr 1001 [0] :: .int .i64 :: .int .i64 :: uu 105 ([])), [(1000, .obox (.agg [.int .i64, .nilsl])), (1001, .obox (.agg [.int .i64, .nilsl]))]⟩), (.exit 0, ⟨(.rd (.struct [.int .i64, .slice (.int .i64)]) :: .undef :: .ptr 1000 [0] :: .undef :: .ptr 1001 [0] :: .int .i64 :: .int .i64 :: uu 105 ([])), [(1000, .obox (.agg [.int .i64, .nilsl])), (1001, .obox (.agg [.int .i64, .nilsl]))]⟩)], fun _ ds k => dL (fun x0 ds => dI (fun x1 ds => dI (fun x2 ds => dI (fun x3 ds => dI (fun x4 ds => dI (fun x5 ds => dI (fun x6 ds => dE ((F x0 x1 x2 x3 x4 x5 x6).bind (Sum.elim (fun y => k 0 [.L y.1, .B y.2.1, .I y.2.2.1, .I y.2.2.2.1, .I y.2.2.2.2.1, .I y.2.2.2.2.2]) (fun y => k 1 [.L y.1, .I y.2.1, .I y.2.2.1, .I y.2.2.2.1, .I y.2.2.2.2]))) ds) ds) ds) ds) ds) ds) ds) ds⟩
theorem q_Z61 (F : List D → Int → Int → Int → Int → Int → Int → Option ((List D × Bool × Int × Int × Int × Int) ⊕ (List D × Int × Int × Int × Int))) (x0 : List D) (x1 : Int) (x2 : Int) (x3 : Int) (x4 : Int) (x5 : Int) (x6 : Int) : runLoop (ocOf [e_Z14, e_Z58, e_Z59, e_Z60]) (olOf [m_Z61 F]) A 54 (codeAt (bodyOf Try.f54) 6) ((m_Z61 F).sh.mk' [.L x0, .I x1, .I x2, .I x3, .I x4, .I x5, .I x6]) (fun e σ' => some (e, σ')) = c_Z61 F x0 x1 x2 x3 x4 x5 x6 (Sum.elim (fun y => some (.ret, SSt.mk' ⟨(.rd (.struct [.int .i64, .slice (.int .i64)]) :: .undef :: .ptr 1000 [0] :: .bool :: .ptr 1001 [0] :: .int .i64 :: .int .i64 :: uu 105 ([])), [(1000, .obox (.agg [.int .i64, .nilsl])), (1001, .obox (.agg [.int .i64, .nilsl]))]⟩ [.L y.1, .B y.2.1, .I y.2.2.1, .I y.2.2.2.1, .I y.2.2.2.2.1, .I y.2.2.2.2.2])) (fun y => some (.exit 0, SSt.mk' ⟨(.rd (.struct [.int .i64, .slice (.int .i64)]) :: .undef :: .ptr 1000 [0] :: .undef :: .ptr 1001 [0] :: .int .i64 :: .int .i64 :: uu 105 ([])), [(1000, .obox (.agg [.int .i64, .nilsl])), (1001, .obox (.agg [.int .i64, .nilsl]))]⟩ [.L y.1, .I y.2.1, .I y.2.2.1, .I y.2.2.2.1, .I y.2.2.2.2]))) := by kernel_rfl
theorem m_Z61_ok : ∀ n, (m_Z61 (n_Z61 n)).ok Try.prog (codeAt (bodyOf Try.f54) 6) := by
 intro n
 induction n with
 | zero =>
  intro R ds k r h
  unfold m_Z61 at h
  obtain ⟨x0, d0, rfl, h0⟩ := dL_some h
  obtain ⟨x1, d1, rfl, h1⟩ := dI_some h0
  obtain ⟨x2, d2, rfl, h2⟩ := dI_some h1
  obtain ⟨x3, d3, rfl, h3⟩ := dI_some h2
  obtain ⟨x4, d4, rfl, h4⟩ := dI_some h3
  obtain ⟨x5, d5, rfl, h5⟩ := dI_some h4
  obtain ⟨x6, d6, rfl, h6⟩ := dI_some h5
  obtain ⟨rfl, hE⟩ := dE_some h6
  obtain ⟨y, hy, hk⟩ := bnd_some hE
  cases hy
 | succ n ih =>
  intro R ds k r h
  unfold m_Z61 at h
  obtain ⟨x0, d0, rfl, h0⟩ := dL_some h
  obtain ⟨x1, d1, rfl, h1⟩ := dI_some h0
  obtain ⟨x2, d2, rfl, h2⟩ := dI_some h1
  obtain ⟨x3, d3, rfl, h3⟩ := dI_some h2
  obtain ⟨x4, d4, rfl, h4⟩ := dI_some h3
  obtain ⟨x5, d5, rfl, h5⟩ := dI_some h4
  obtain ⟨x6, d6, rfl, h6⟩ := dI_some h5
  obtain ⟨rfl, hE⟩ := dE_some h6
  obtain ⟨y, hy, hk⟩ := bnd_some hE
  have hq := q_Z61 (n_Z61 n) x0 x1 x2 x3 x4 x5 x6
  rw [c_Z61_bind] at hq
  rw [show c_Z61 (n_Z61 n) x0 x1 x2 x3 x4 x5 x6 some = some y from hy] at hq
  cases y with
  | inl y =>
   refine ⟨0, _, _, _, hk, rfl, loop_ok px (fx := ⟨Try.func54, by kernel_rfl, by kernel_rfl⟩) (entsOK_cons e_Z14_ok (entsOK_cons e_Z58_ok (entsOK_cons e_Z59_ok (entsOK_cons e_Z60_ok entsOK_nil)))) (lentsOK_cons ih lentsOK_nil) (by kernel_rfl) ?_⟩
   exact hq
  | inr y =>
   refine ⟨1, _, _, _, hk, rfl, loop_ok px (fx := ⟨Try.func54, by kernel_rfl, by kernel_rfl⟩) (entsOK_cons e_Z14_ok (entsOK_cons e_Z58_ok (entsOK_cons e_Z59_ok (entsOK_cons e_Z60_ok entsOK_nil)))) (lentsOK_cons ih lentsOK_nil) (by kernel_rfl) ?_⟩
   exact hq
noncomputable def e_Z61 : Lent := m_Z61 (Z61)
theorem e_Z61_ok : (e_Z61).ok Try.prog (codeAt (bodyOf Try.f54) 6) := by
 intro R ds k r h
 unfold e_Z61 m_Z61 at h
 obtain ⟨x0, d0, rfl, h0⟩ := dL_some h
 obtain ⟨x1, d1, rfl, h1⟩ := dI_some h0
 obtain ⟨x2, d2, rfl, h2⟩ := dI_some h1
 obtain ⟨x3, d3, rfl, h3⟩ := dI_some h2
 obtain ⟨x4, d4, rfl, h4⟩ := dI_some h3
 obtain ⟨x5, d5, rfl, h5⟩ := dI_some h4
 obtain ⟨x6, d6, rfl, h6⟩ := dI_some h5
 obtain ⟨rfl, hE⟩ := dE_some h6
 obtain ⟨y, hy, hk⟩ := bnd_some hE
 obtain ⟨n, hn⟩ := ev_some hy
 exact m_Z61_ok n R _ k r (show (n_Z61 n x0 x1 x2 x3 x4 x5 x6).bind _ = _ by rw [hn]; exact hk)

/-!-/
def c_Z62 {R : Type} (x0 : Int) (x1 : List D) (x2 : Int) (k : Int → Option R) : Option R :=
 (Z60 (IntKind.i64.wrap (IntKind.i64.wrap (x2 - x0) + (1 : Int))) (0 : Int)).bind (fun y0 =>
 (Z59 y0 (↑x1.length : Int)).bind (fun y1 =>
 if (0 : Int) ≤ (0 : Int) ∧ 0 ≤ y1 ∧ y1 ≤ (↑x1.length : Int) then
 (Z58 (List.take (y1.toNat - (0 : Nat)) (List.drop (0 : Nat) x1))).bind (fun y2 =>
 k y2)
 else
 none))
theorem c_Z62_bind {R : Type} (x0 : Int) (x1 : List D) (x2 : Int) (k : Int → Option R) : c_Z62 x0 x1 x2 k = (c_Z62 x0 x1 x2 some).bind k := by
 unfold c_Z62
 repeat' first|exact bnd_tail|exact bnd_none|exact bnd_leaf|apply bnd_ite|apply bnd_cond|apply bnd_sum|(apply bnd_bind;intro _)|intro _
def Z62 (x0 : Int) (x1 : List D) (x2 : Int) : Option (Int) := c_Z62 x0 x1 x2 some
def e_Z62 : Ent := ⟨124, [.agg [.int .i64, .rd (.int .i64)], .int .i64], .int .i64, [.undef, .undef], fun _ ds k => dI (fun x0 ds => dL (fun x1 ds => dI (fun x2 ds => dE ((Z62 x0 x1 x2).bind (fun y => k [.I y])) ds) ds) ds) ds⟩
theorem q_Z62 (x0 : Int) (x1 : List D) (x2 : Int) : runFn (ocOf [e_Z60, e_Z59, e_Z58]) (olOf []) A 124 Try.f124 (Sh.mks e_Z62.sh [.I x0, .L x1, .I x2]).1 (fun v os => some (v, os)) = c_Z62 x0 x1 x2 (fun y => some ((e_Z62.res.mk [.I y]).1, (Sh.mks e_Z62.outs (e_Z62.res.mk [.I y]).2).1)) := by kernel_rfl
theorem e_Z62_ok : e_Z62.ok Try.prog A := by
 intro R ds k r h
 unfold e_Z62 at h
 obtain ⟨x0, d0, rfl, h0⟩ := dI_some h
 obtain ⟨x1, d1, rfl, h1⟩ := dL_some h0
 obtain ⟨x2, d2, rfl, h2⟩ := dI_some h1
 obtain ⟨rfl, hE⟩ := dE_some h2
 obtain ⟨y, hy, hk⟩ := bnd_some hE
 refine ⟨_, hk, fn_ok px (fx := ⟨Try.func124, by kernel_rfl, by kernel_rfl⟩) (entsOK_cons e_Z60_ok (entsOK_cons e_Z59_ok (entsOK_cons e_Z58_ok entsOK_nil))) lentsOK_nil ?_⟩
 have hq := q_Z62 x0 x1 x2
 rw [c_Z62_bind] at hq
 rw [show c_Z62 x0 x1 x2 some = some y from hy] at hq
 exact hq

/-!-/
def c_Z63 {R : Type} (F : List D → Int → Int → Int → Int → Int → Int → Int → List D → Option (List D × Int × Int × Int × Int × Int × Int × List D)) (x0 : List D) (x1 : Int) (x2 : Int) (x3 : Int) (x4 : Int) (x5 : Int) (x6 : Int) (x7 : Int) (x8 : List D) (k : List D × Int × Int × Int × Int × Int × Int × List D → Option R) : Option R :=
 bif decide (x6 < (↑x0.length : Int)) then
 if 0 ≤ x6 ∧ x6 < (↑x0.length : Int) then
 (Z62 (((x0.getD x6.toNat (D.int 0)).fld (0 : Nat)).toInt) (((x0.getD x6.toNat (D.int 0)).fld (1 : Nat)).items) x4).bind (fun y0 =>
 (F x0 x1 x2 x3 x4 (IntKind.i64.wrap (x5 * y0)) (IntKind.i64.wrap (x6 + 1)) x7 x8).bind k)
 else
 none
 else
 k (x0, x1, x2, x3, x4, x5, x7, x8)
theorem c_Z63_bind {R : Type} (F : List D → Int → Int → Int → Int → Int → Int → Int → List D → Option (List D × Int × Int × Int × Int × Int × Int × List D)) (x0 : List D) (x1 : Int) (x2 : Int) (x3 : Int) (x4 : Int) (x5 : Int) (x6 : Int) (x7 : Int) (x8 : List D) (k : List D × Int × Int × Int × Int × Int × Int × List D → Option R) : c_Z63 F x0 x1 x2 x3 x4 x5 x6 x7 x8 k = (c_Z63 F x0 x1 x2 x3 x4 x5 x6 x7 x8 some).bind k := by
 unfold c_Z63
 repeat' first|exact bnd_tail|exact bnd_none|exact bnd_leaf|apply bnd_ite|apply bnd_cond|apply bnd_sum|(apply bnd_bind;intro _)|intro _
def n_Z63 : Nat → List D → Int → Int → Int → Int → Int → Int → Int → List D → Option (List D × Int × Int × Int × Int × Int × Int × List D)
 | 0, _, _, _, _, _, _, _, _, _ => none
 | n + 1, x0, x1, x2, x3, x4, x5, x6, x7, x8 => c_Z63 (n_Z63 n) x0 x1 x2 x3 x4 x5 x6 x7 x8 some
noncomputable def Z63 (x0 : List D) (x1 : Int) (x2 : Int) (x3 : Int) (x4 : Int) (x5 : Int) (x6 : Int) (x7 : Int) (x8 : List D) : Option (List D × Int × Int × Int × Int × Int × Int × List D) := ev (fun n => n_Z63 n x0 x1 x2 x3 x4 x5 x6 x7 x8)
def m_Z63 (F : List D → Int → Int → Int → Int → Int → Int → Int → List D → Option (List D × Int × Int × Int × Int × Int × Int × List D)) : Lent := ⟨22, ⟨(.rd (.struct [.int .i64, .slice (.int .i64)]) :: .undef :: .ptr 1000 [0] :: .undef :: .undef :: .int .i64 :: .int .i64 :: .undef :: .undef :: .full 1001 [] (.int .i64) :: .int .i64 :: .int .i64 :: .int .i64 :: .int .i64 :: uu 98 ([])), [(1000, .obox (.agg [.int .i64, .nilsl])), (1001, .own (.int .i64))]⟩, [(.exit 4, ⟨(.rd (.struct [.int .i64, .slice (.int .i64)]) :: .undef :: .ptr 1000 [0] :: .undef :: .undef :: .int .i64 :: .int .i64 :: .undef :: .undef :: .full 1001 [] (.int .i64) :: .int .i64 :: .int .i64 :: .int .i64 :: uu 99 ([])), [(1000, .obox (.agg [.int .i64, .nilsl])), (1001, .own (.int .i64))]⟩)], fun _ ds k => dL (fun x0 ds => dI (fun x1 ds => dI (fun x2 ds => dI (fun x3 ds => dI (fun x4 ds => dI (fun x5 ds => dI (fun x6 ds => dI (fun x7 ds => dL (fun x8 ds => dE ((F x0 x1 x2 x3 x4 x5 x6 x7 x8).bind (fun y => k 0 [.L y.1, .I y.2.1, .I y.2.2.1, .I y.2.2.2.1, .I y.2.2.2.2.1, .I y.2.2.2.2.2.1, .I y.2.2.2.2.2.2.1, .L y.2.2.2.2.2.2.2])) ds) ds) ds) ds) ds) ds) ds) ds) ds) ds⟩
theorem q_Z63 (F : List D → Int → Int → Int → Int → Int → Int → Int → List D → Option (List D × Int × Int × Int × Int × Int × Int × List D)) (x0 : List D) (x1 : Int) (x2 : Int) (x3 : Int) (x4 : Int) (x5 : Int) (x6 : Int) (x7 : Int) (x8 : List D) : runLoop (ocOf [e_Z62]) (olOf [m_Z63 F]) A 54 (codeAt (bodyOf Try.f54) 22) ((m_Z63 F).sh.mk' [.L x0, .I x1, .I x2, .I x3, .I x4, .I x5, .I x6, .I x7, .L x8]) (fun e σ' => some (e, σ')) = c_Z63 F x0 x1 x2 x3 x4 x5 x6 x7 x8 (fun y => some (.exit 4, SSt.mk' ⟨(.rd (.struct [.int .i64, .slice (.int .i64)]) :: .undef :: .ptr 1000 [0] :: .undef :: .undef :: .int .i64 :: .int .i64 :: .undef :: .undef :: .full 1001 [] (.int .i64) :: .int .i64 :: .int .i64 :: .int .i64 :: uu 99 ([])), [(1000, .obox (.agg [.int .i64, .nilsl])), (1001, .own (.int .i64))]⟩ [.L y.1, .I y.2.1, .I y.2.2.1, .I y.2.2.2.1, .I y.2.2.2.2.1, .I y.2.2.2.2.2.1, .I y.2.2.2.2.2.2.1, .L y.2.2.2.2.2.2.2])) := by kernel_rfl
theorem m_Z63_ok : ∀ n, (m_Z63 (n_Z63 n)).ok Try.prog (codeAt (bodyOf Try.f54) 22) := by
 intro n
 induction n with
 | zero =>
  intro R ds k r h
  unfold m_Z63 at h
  obtain ⟨x0, d0, rfl, h0⟩ := dL_some h
  obtain ⟨x1, d1, rfl, h1⟩ := dI_some h0
  obtain ⟨x2, d2, rfl, h2⟩ := dI_some h1
  obtain ⟨x3, d3, rfl, h3⟩ := dI_some h2
  obtain ⟨x4, d4, rfl, h4⟩ := dI_some h3
  obtain ⟨x5, d5, rfl, h5⟩ := dI_some h4
  obtain ⟨x6, d6, rfl, h6⟩ := dI_some h5
  obtain ⟨x7, d7, rfl, h7⟩ := dI_some h6
  obtain ⟨x8, d8, rfl, h8⟩ := dL_some h7
  obtain ⟨rfl, hE⟩ := dE_some h8
  obtain ⟨y, hy, hk⟩ := bnd_some hE
  cases hy
 | succ n ih =>
  intro R ds k r h
  unfold m_Z63 at h
  obtain ⟨x0, d0, rfl, h0⟩ := dL_some h
  obtain ⟨x1, d1, rfl, h1⟩ := dI_some h0
  obtain ⟨x2, d2, rfl, h2⟩ := dI_some h1
  obtain ⟨x3, d3, rfl, h3⟩ := dI_some h2
  obtain ⟨x4, d4, rfl, h4⟩ := dI_some h3
  obtain ⟨x5, d5, rfl, h5⟩ := dI_some h4
  obtain ⟨x6, d6, rfl, h6⟩ := dI_some h5
  obtain ⟨x7, d7, rfl, h7⟩ := dI_some h6
  obtain ⟨x8, d8, rfl, h8⟩ := dL_some h7
  obtain ⟨rfl, hE⟩ := dE_some h8
  obtain ⟨y, hy, hk⟩ := bnd_some hE
  have hq := q_Z63 (n_Z63 n) x0 x1 x2 x3 x4 x5 x6 x7 x8
  rw [c_Z63_bind] at hq
  rw [show c_Z63 (n_Z63 n) x0 x1 x2 x3 x4 x5 x6 x7 x8 some = some y from hy] at hq
  refine ⟨0, _, _, _, hk, rfl, loop_ok px (fx := ⟨Try.func54, by kernel_rfl, by kernel_rfl⟩) (entsOK_cons e_Z62_ok entsOK_nil) (lentsOK_cons ih lentsOK_nil) (by kernel_rfl) ?_⟩
  exact hq
noncomputable def e_Z63 : Lent := m_Z63 (Z63)
theorem e_Z63_ok : (e_Z63).ok Try.prog (codeAt (bodyOf Try.f54) 22) := by
 intro R ds k r h
 unfold e_Z63 m_Z63 at h
 obtain ⟨x0, d0, rfl, h0⟩ := dL_some h
 obtain ⟨x1, d1, rfl, h1⟩ := dI_some h0
 obtain ⟨x2, d2, rfl, h2⟩ := dI_some h1
 obtain ⟨x3, d3, rfl, h3⟩ := dI_some h2
 obtain ⟨x4, d4, rfl, h4⟩ := dI_some h3
 obtain ⟨x5, d5, rfl, h5⟩ := dI_some h4
 obtain ⟨x6, d6, rfl, h6⟩ := dI_some h5
 obtain ⟨x7, d7, rfl, h7⟩ := dI_some h6
 obtain ⟨x8, d8, rfl, h8⟩ := dL_some h7
 obtain ⟨rfl, hE⟩ := dE_some h8
 obtain ⟨y, hy, hk⟩ := bnd_some hE
 obtain ⟨n, hn⟩ := ev_some hy
 exact m_Z63_ok n R _ k r (show (n_Z63 n x0 x1 x2 x3 x4 x5 x6 x7 x8).bind _ = _ by rw [hn]; exact hk)

/-!-/
def c_Z64 {R : Type} (F : List D → Int → Int → Int → Int → Int → List D → Option (Int × Int × List D)) (x0 : List D) (x1 : Int) (x2 : Int) (x3 : Int) (x4 : Int) (x5 : Int) (x6 : List D) (k : Int × Int × List D → Option R) : Option R :=
 bif decide (x4 ≤ x2) then
 (Z63 x0 x1 x2 x3 x4 (1 : Int) (0 : Int) x5 x6).bind (fun y0 =>
 if y0.snd.snd.snd.snd.snd.snd.snd.length + [D.int (IntKind.i64.wrap (y0.snd.snd.snd.snd.snd.fst - y0.snd.snd.snd.fst))].length ≤ (4294967296 : Nat) then
 (F y0.fst y0.snd.fst y0.snd.snd.fst y0.snd.snd.snd.snd.snd.fst (IntKind.i64.wrap (y0.snd.snd.snd.snd.fst + 1)) y0.snd.snd.snd.snd.snd.snd.fst (y0.snd.snd.snd.snd.snd.snd.snd ++ [D.int (IntKind.i64.wrap (y0.snd.snd.snd.snd.snd.fst - y0.snd.snd.snd.fst))])).bind k
 else
 none)
 else
 k (x1, x5, x6)
theorem c_Z64_bind {R : Type} (F : List D → Int → Int → Int → Int → Int → List D → Option (Int × Int × List D)) (x0 : List D) (x1 : Int) (x2 : Int) (x3 : Int) (x4 : Int) (x5 : Int) (x6 : List D) (k : Int × Int × List D → Option R) : c_Z64 F x0 x1 x2 x3 x4 x5 x6 k = (c_Z64 F x0 x1 x2 x3 x4 x5 x6 some).bind k := by
 unfold c_Z64
 repeat' first|exact bnd_tail|exact bnd_none|exact bnd_leaf|apply bnd_ite|apply bnd_cond|apply bnd_sum|(apply bnd_bind;intro _)|intro _
def n_Z64 : Nat → List D → Int → Int → Int → Int → Int → List D → Option (Int × Int × List D)
 | 0, _, _, _, _, _, _, _ => none
 | n + 1, x0, x1, x2, x3, x4, x5, x6 => c_Z64 (n_Z64 n) x0 x1 x2 x3 x4 x5 x6 some
noncomputable def Z64 (x0 : List D) (x1 : Int) (x2 : Int) (x3 : Int) (x4 : Int) (x5 : Int) (x6 : List D) : Option (Int × Int × List D) := ev (fun n => n_Z64 n x0 x1 x2 x3 x4 x5 x6)
def m_Z64 (F : List D → Int → Int → Int → Int → Int → List D → Option (Int × Int × List D)) : Lent := ⟨18, ⟨(.rd (.struct [.int .i64, .slice (.int .i64)]) :: .undef :: .ptr 1000 [0] :: .undef :: .undef :: .int .i64 :: .int .i64 :: .undef :: .undef :: .full 1001 [] (.int .i64) :: .int .i64 :: .int .i64 :: uu 100 ([])), [(1000, .obox (.agg [.int .i64, .nilsl])), (1001, .own (.int .i64))]⟩, [(.exit 2, ⟨(.undef :: .undef :: .ptr 1000 [0] :: .undef :: .undef :: .int .i64 :: .undef :: .undef :: .undef :: .full 1001 [] (.int .i64) :: uu 102 ([])), [(1000, .obox (.agg [.int .i64, .nilsl])), (1001, .own (.int .i64))]⟩)], fun _ ds k => dL (fun x0 ds => dI (fun x1 ds => dI (fun x2 ds => dI (fun x3 ds => dI (fun x4 ds => dI (fun x5 ds => dL (fun x6 ds => dE ((F x0 x1 x2 x3 x4 x5 x6).bind (fun y => k 0 [.I y.1, .I y.2.1, .L y.2.2])) ds) ds) ds) ds) ds) ds) ds) ds⟩
theorem q_Z64 (F : List D → Int → Int → Int → Int → Int → List D → Option (Int × Int × List D)) (x0 : List D) (x1 : Int) (x2 : Int) (x3 : Int) (x4 : Int) (x5 : Int) (x6 : List D) : runLoop (ocOf []) (olOf [m_Z64 F, e_Z63]) A 54 (codeAt (bodyOf Try.f54) 18) ((m_Z64 F).sh.mk' [.L x0, .I x1, .I x2, .I x3, .I x4, .I x5, .L x6]) (fun e σ' => some (e, σ')) = c_Z64 F x0 x1 x2 x3 x4 x5 x6 (fun y => some (.exit 2, SSt.mk' ⟨(.undef :: .undef :: .ptr 1000 [0] :: .undef :: .undef :: .int .i64 :: .undef :: .undef :: .undef :: .full 1001 [] (.int .i64) :: uu 102 ([])), [(1000, .obox (.agg [.int .i64, .nilsl])), (1001, .own (.int .i64))]⟩ [.I y.1, .I y.2.1, .L y.2.2])) := by kernel_rfl
theorem m_Z64_ok : ∀ n, (m_Z64 (n_Z64 n)).ok Try.prog (codeAt (bodyOf Try.f54) 18) := by
 intro n
 induction n with
 | zero =>
  intro R ds k r h
  unfold m_Z64 at h
  obtain ⟨x0, d0, rfl, h0⟩ := dL_some h
  obtain ⟨x1, d1, rfl, h1⟩ := dI_some h0
  obtain ⟨x2, d2, rfl, h2⟩ := dI_some h1
  obtain ⟨x3, d3, rfl, h3⟩ := dI_some h2
  obtain ⟨x4, d4, rfl, h4⟩ := dI_some h3
  obtain ⟨x5, d5, rfl, h5⟩ := dI_some h4
  obtain ⟨x6, d6, rfl, h6⟩ := dL_some h5
  obtain ⟨rfl, hE⟩ := dE_some h6
  obtain ⟨y, hy, hk⟩ := bnd_some hE
  cases hy
 | succ n ih =>
  intro R ds k r h
  unfold m_Z64 at h
  obtain ⟨x0, d0, rfl, h0⟩ := dL_some h
  obtain ⟨x1, d1, rfl, h1⟩ := dI_some h0
  obtain ⟨x2, d2, rfl, h2⟩ := dI_some h1
  obtain ⟨x3, d3, rfl, h3⟩ := dI_some h2
  obtain ⟨x4, d4, rfl, h4⟩ := dI_some h3
  obtain ⟨x5, d5, rfl, h5⟩ := dI_some h4
  obtain ⟨x6, d6, rfl, h6⟩ := dL_some h5
  obtain ⟨rfl, hE⟩ := dE_some h6
  obtain ⟨y, hy, hk⟩ := bnd_some hE
  have hq := q_Z64 (n_Z64 n) x0 x1 x2 x3 x4 x5 x6
  rw [c_Z64_bind] at hq
  rw [show c_Z64 (n_Z64 n) x0 x1 x2 x3 x4 x5 x6 some = some y from hy] at hq
  refine ⟨0, _, _, _, hk, rfl, loop_ok px (fx := ⟨Try.func54, by kernel_rfl, by kernel_rfl⟩) entsOK_nil (lentsOK_cons ih (lentsOK_cons e_Z63_ok lentsOK_nil)) (by kernel_rfl) ?_⟩
  exact hq
noncomputable def e_Z64 : Lent := m_Z64 (Z64)
theorem e_Z64_ok : (e_Z64).ok Try.prog (codeAt (bodyOf Try.f54) 18) := by
 intro R ds k r h
 unfold e_Z64 m_Z64 at h
 obtain ⟨x0, d0, rfl, h0⟩ := dL_some h
 obtain ⟨x1, d1, rfl, h1⟩ := dI_some h0
 obtain ⟨x2, d2, rfl, h2⟩ := dI_some h1
 obtain ⟨x3, d3, rfl, h3⟩ := dI_some h2
 obtain ⟨x4, d4, rfl, h4⟩ := dI_some h3
 obtain ⟨x5, d5, rfl, h5⟩ := dI_some h4
 obtain ⟨x6, d6, rfl, h6⟩ := dL_some h5
 obtain ⟨rfl, hE⟩ := dE_some h6
 obtain ⟨y, hy, hk⟩ := bnd_some hE
 obtain ⟨n, hn⟩ := ev_some hy
 exact m_Z64_ok n R _ k r (show (n_Z64 n x0 x1 x2 x3 x4 x5 x6).bind _ = _ by rw [hn]; exact hk)

/-!-/
def c_Z65 {R : Type} (F : Int → List D → Int → Int → Int → Option (Int × List D × Int × Int)) (x0 : Int) (x1 : List D) (x2 : Int) (x3 : Int) (x4 : Int) (k : Int × List D × Int × Int → Option R) : Option R :=
 bif decide (x3 < (↑x1.length : Int)) then
 if 0 ≤ x3 ∧ x3 < (↑x1.length : Int) then
 (Z60 x2 ((x1.getD x3.toNat (D.int 0)).toInt)).bind (fun y0 =>
 (F x0 x1 y0 (IntKind.i64.wrap (x3 + 1)) x4).bind k)
 else
 none
 else
 k (x0, x1, x2, x4)
theorem c_Z65_bind {R : Type} (F : Int → List D → Int → Int → Int → Option (Int × List D × Int × Int)) (x0 : Int) (x1 : List D) (x2 : Int) (x3 : Int) (x4 : Int) (k : Int × List D × Int × Int → Option R) : c_Z65 F x0 x1 x2 x3 x4 k = (c_Z65 F x0 x1 x2 x3 x4 some).bind k := by
 unfold c_Z65
 repeat' first|exact bnd_tail|exact bnd_none|exact bnd_leaf|apply bnd_ite|apply bnd_cond|apply bnd_sum|(apply bnd_bind;intro _)|intro _
def n_Z65 : Nat → Int → List D → Int → Int → Int → Option (Int × List D × Int × Int)
 | 0, _, _, _, _, _ => none
 | n + 1, x0, x1, x2, x3, x4 => c_Z65 (n_Z65 n) x0 x1 x2 x3 x4 some
noncomputable def Z65 (x0 : Int) (x1 : List D) (x2 : Int) (x3 : Int) (x4 : Int) : Option (Int × List D × Int × Int) := ev (fun n => n_Z65 n x0 x1 x2 x3 x4)
def m_Z65 (F : Int → List D → Int → Int → Int → Option (Int × List D × Int × Int)) : Lent := ⟨3, ⟨(.int .i64 :: .rd (.int .i64) :: .undef :: .undef :: .ptr 1000 [0] :: .undef :: .int .i64 :: .int .i64 :: uu 40 ([])), [(1000, .obox (.agg [.int .i64, .nilsl]))]⟩, [(.exit 0, ⟨(.int .i64 :: .rd (.int .i64) :: .undef :: .undef :: .ptr 1000 [0] :: .undef :: .int .i64 :: uu 41 ([])), [(1000, .obox (.agg [.int .i64, .nilsl]))]⟩)], fun _ ds k => dI (fun x0 ds => dL (fun x1 ds => dI (fun x2 ds => dI (fun x3 ds => dI (fun x4 ds => dE ((F x0 x1 x2 x3 x4).bind (fun y => k 0 [.I y.1, .L y.2.1, .I y.2.2.1, .I y.2.2.2])) ds) ds) ds) ds) ds) ds⟩
theorem q_Z65 (F : Int → List D → Int → Int → Int → Option (Int × List D × Int × Int)) (x0 : Int) (x1 : List D) (x2 : Int) (x3 : Int) (x4 : Int) : runLoop (ocOf [e_Z60]) (olOf [m_Z65 F]) A 125 (codeAt (bodyOf Try.f125) 3) ((m_Z65 F).sh.mk' [.I x0, .L x1, .I x2, .I x3, .I x4]) (fun e σ' => some (e, σ')) = c_Z65 F x0 x1 x2 x3 x4 (fun y => some (.exit 0, SSt.mk' ⟨(.int .i64 :: .rd (.int .i64) :: .undef :: .undef :: .ptr 1000 [0] :: .undef :: .int .i64 :: uu 41 ([])), [(1000, .obox (.agg [.int .i64, .nilsl]))]⟩ [.I y.1, .L y.2.1, .I y.2.2.1, .I y.2.2.2])) := by kernel_rfl
theorem m_Z65_ok : ∀ n, (m_Z65 (n_Z65 n)).ok Try.prog (codeAt (bodyOf Try.f125) 3) := by
 intro n
 induction n with
 | zero =>
  intro R ds k r h
  unfold m_Z65 at h
  obtain ⟨x0, d0, rfl, h0⟩ := dI_some h
  obtain ⟨x1, d1, rfl, h1⟩ := dL_some h0
  obtain ⟨x2, d2, rfl, h2⟩ := dI_some h1
  obtain ⟨x3, d3, rfl, h3⟩ := dI_some h2
  obtain ⟨x4, d4, rfl, h4⟩ := dI_some h3
  obtain ⟨rfl, hE⟩ := dE_some h4
  obtain ⟨y, hy, hk⟩ := bnd_some hE
  cases hy
 | succ n ih =>
  intro R ds k r h
  unfold m_Z65 at h
  obtain ⟨x0, d0, rfl, h0⟩ := dI_some h
  obtain ⟨x1, d1, rfl, h1⟩ := dL_some h0
  obtain ⟨x2, d2, rfl, h2⟩ := dI_some h1
  obtain ⟨x3, d3, rfl, h3⟩ := dI_some h2
  obtain ⟨x4, d4, rfl, h4⟩ := dI_some h3
  obtain ⟨rfl, hE⟩ := dE_some h4
  obtain ⟨y, hy, hk⟩ := bnd_some hE
  have hq := q_Z65 (n_Z65 n) x0 x1 x2 x3 x4
  rw [c_Z65_bind] at hq
  rw [show c_Z65 (n_Z65 n) x0 x1 x2 x3 x4 some = some y from hy] at hq
  refine ⟨0, _, _, _, hk, rfl, loop_ok px (fx := ⟨Try.func125, by kernel_rfl, by kernel_rfl⟩) (entsOK_cons e_Z60_ok entsOK_nil) (lentsOK_cons ih lentsOK_nil) (by kernel_rfl) ?_⟩
  exact hq
noncomputable def e_Z65 : Lent := m_Z65 (Z65)
theorem e_Z65_ok : (e_Z65).ok Try.prog (codeAt (bodyOf Try.f125) 3) := by
 intro R ds k r h
 unfold e_Z65 m_Z65 at h
 obtain ⟨x0, d0, rfl, h0⟩ := dI_some h
 obtain ⟨x1, d1, rfl, h1⟩ := dL_some h0
 obtain ⟨x2, d2, rfl, h2⟩ := dI_some h1
 obtain ⟨x3, d3, rfl, h3⟩ := dI_some h2
 obtain ⟨x4, d4, rfl, h4⟩ := dI_some h3
 obtain ⟨rfl, hE⟩ := dE_some h4
 obtain ⟨y, hy, hk⟩ := bnd_some hE
 obtain ⟨n, hn⟩ := ev_some hy
 exact m_Z65_ok n R _ k r (show (n_Z65 n x0 x1 x2 x3 x4).bind _ = _ by rw [hn]; exact hk)

/-!-/
def c_Z66 {R : Type} (F : Int → List D → Int → Int → Int → List D → Option (Int × Int × List D)) (x0 : Int) (x1 : List D) (x2 : Int) (x3 : Int) (x4 : Int) (x5 : List D) (k : Int × Int × List D → Option R) : Option R :=
 bif decide (x3 < (↑x1.length : Int)) then
 if 0 ≤ x3 ∧ x3 < (↑x1.length : Int) then
 if x2 ≠ (0 : Int) then
 if x5.length + [D.int (IntKind.i64.wrap ((x1.getD x3.toNat (D.int 0)).toInt.tdiv x2))].length ≤ (4294967296 : Nat) then
 (F x0 x1 x2 (IntKind.i64.wrap (x3 + 1)) x4 (x5 ++ [D.int (IntKind.i64.wrap ((x1.getD x3.toNat (D.int 0)).toInt.tdiv x2))])).bind k
 else
 none
 else
 none
 else
 none
 else
 k (x0, x4, x5)
theorem c_Z66_bind {R : Type} (F : Int → List D → Int → Int → Int → List D → Option (Int × Int × List D)) (x0 : Int) (x1 : List D) (x2 : Int) (x3 : Int) (x4 : Int) (x5 : List D) (k : Int × Int × List D → Option R) : c_Z66 F x0 x1 x2 x3 x4 x5 k = (c_Z66 F x0 x1 x2 x3 x4 x5 some).bind k := by
 unfold c_Z66
 repeat' first|exact bnd_tail|exact bnd_none|exact bnd_leaf|apply bnd_ite|apply bnd_cond|apply bnd_sum|(apply bnd_bind;intro _)|intro _
def n_Z66 : Nat → Int → List D → Int → Int → Int → List D → Option (Int × Int × List D)
 | 0, _, _, _, _, _, _ => none
 | n + 1, x0, x1, x2, x3, x4, x5 => c_Z66 (n_Z66 n) x0 x1 x2 x3 x4 x5 some
noncomputable def Z66 (x0 : Int) (x1 : List D) (x2 : Int) (x3 : Int) (x4 : Int) (x5 : List D) : Option (Int × Int × List D) := ev (fun n => n_Z66 n x0 x1 x2 x3 x4 x5)
def m_Z66 (F : Int → List D → Int → Int → Int → List D → Option (Int × Int × List D)) : Lent := ⟨9, ⟨(.int .i64 :: .rd (.int .i64) :: .undef :: .undef :: .ptr 1000 [0] :: .undef :: .undef :: .undef :: .int .i64 :: .full 1001 [] (.int .i64) :: .int .i64 :: uu 37 ([])), [(1000, .obox (.agg [.int .i64, .nilsl])), (1001, .own (.int .i64))]⟩, [(.exit 2, ⟨(.int .i64 :: .undef :: .undef :: .undef :: .ptr 1000 [0] :: uu 4 (.full 1001 [] (.int .i64) :: uu 38 ([]))), [(1000, .obox (.agg [.int .i64, .nilsl])), (1001, .own (.int .i64))]⟩)], fun _ ds k => dI (fun x0 ds => dL (fun x1 ds => dI (fun x2 ds => dI (fun x3 ds => dI (fun x4 ds => dL (fun x5 ds => dE ((F x0 x1 x2 x3 x4 x5).bind (fun y => k 0 [.I y.1, .I y.2.1, .L y.2.2])) ds) ds) ds) ds) ds) ds) ds⟩
theorem q_Z66 (F : Int → List D → Int → Int → Int → List D → Option (Int × Int × List D)) (x0 : Int) (x1 : List D) (x2 : Int) (x3 : Int) (x4 : Int) (x5 : List D) : runLoop (ocOf []) (olOf [m_Z66 F]) A 125 (codeAt (bodyOf Try.f125) 9) ((m_Z66 F).sh.mk' [.I x0, .L x1, .I x2, .I x3, .I x4, .L x5]) (fun e σ' => some (e, σ')) = c_Z66 F x0 x1 x2 x3 x4 x5 (fun y => some (.exit 2, SSt.mk' ⟨(.int .i64 :: .undef :: .undef :: .undef :: .ptr 1000 [0] :: uu 4 (.full 1001 [] (.int .i64) :: uu 38 ([]))), [(1000, .obox (.agg [.int .i64, .nilsl])), (1001, .own (.int .i64))]⟩ [.I y.1, .I y.2.1, .L y.2.2])) := by kernel_rfl
theorem m_Z66_ok : ∀ n, (m_Z66 (n_Z66 n)).ok Try.prog (codeAt (bodyOf Try.f125) 9) := by
 intro n
 induction n with
 | zero =>
  intro R ds k r h
  unfold m_Z66 at h
  obtain ⟨x0, d0, rfl, h0⟩ := dI_some h
  obtain ⟨x1, d1, rfl, h1⟩ := dL_some h0
  obtain ⟨x2, d2, rfl, h2⟩ := dI_some h1
  obtain ⟨x3, d3, rfl, h3⟩ := dI_some h2
  obtain ⟨x4, d4, rfl, h4⟩ := dI_some h3
  obtain ⟨x5, d5, rfl, h5⟩ := dL_some h4
  obtain ⟨rfl, hE⟩ := dE_some h5
  obtain ⟨y, hy, hk⟩ := bnd_some hE
  cases hy
 | succ n ih =>
  intro R ds k r h
  unfold m_Z66 at h
  obtain ⟨x0, d0, rfl, h0⟩ := dI_some h
  obtain ⟨x1, d1, rfl, h1⟩ := dL_some h0
  obtain ⟨x2, d2, rfl, h2⟩ := dI_some h1
  obtain ⟨x3, d3, rfl, h3⟩ := dI_some h2
  obtain ⟨x4, d4, rfl, h4⟩ := dI_some h3
  obtain ⟨x5, d5, rfl, h5⟩ := dL_some h4
  obtain ⟨rfl, hE⟩ := dE_some h5
  obtain ⟨y, hy, hk⟩ := bnd_some hE
  have hq := q_Z66 (n_Z66 n) x0 x1 x2 x3 x4 x5
  rw [c_Z66_bind] at hq
  rw [show c_Z66 (n_Z66 n) x0 x1 x2 x3 x4 x5 some = some y from hy] at hq
  refine ⟨0, _, _, _, hk, rfl, loop_ok px (fx := ⟨Try.func125, by kernel_rfl, by kernel_rfl⟩) entsOK_nil (lentsOK_cons ih lentsOK_nil) (by kernel_rfl) ?_⟩
  exact hq
noncomputable def e_Z66 : Lent := m_Z66 (Z66)
theorem e_Z66_ok : (e_Z66).ok Try.prog (codeAt (bodyOf Try.f125) 9) := by
 intro R ds k r h
 unfold e_Z66 m_Z66 at h
 obtain ⟨x0, d0, rfl, h0⟩ := dI_some h
 obtain ⟨x1, d1, rfl, h1⟩ := dL_some h0
 obtain ⟨x2, d2, rfl, h2⟩ := dI_some h1
 obtain ⟨x3, d3, rfl, h3⟩ := dI_some h2
 obtain ⟨x4, d4, rfl, h4⟩ := dI_some h3
 obtain ⟨x5, d5, rfl, h5⟩ := dL_some h4
 obtain ⟨rfl, hE⟩ := dE_some h5
 obtain ⟨y, hy, hk⟩ := bnd_some hE
 obtain ⟨n, hn⟩ := ev_some hy
 exact m_Z66_ok n R _ k r (show (n_Z66 n x0 x1 x2 x3 x4 x5).bind _ = _ by rw [hn]; exact hk)

/-!-/
def c_Z67 {R : Type} (x0 : Int) (x1 : List D) (k : Int × List D × Bool → Option R) : Option R :=
 (Z65 x0 x1 (1 : Int) (0 : Int) (0 : Int)).bind (fun y0 =>
 if (1000000 : Int) ≠ (0 : Int) then
 (Z66 y0.fst y0.snd.fst (IntKind.i64.wrap (IntKind.i64.wrap ((IntKind.i64.wrap (y0.snd.snd.fst - 1)).tdiv (1000000 : Int)) + (1 : Int))) (0 : Int) y0.snd.snd.snd []).bind (fun y1 =>
 (Z15 y1.fst y1.snd.snd).bind (fun y2 =>
 k (y2.fst, y2.snd.fst, y2.snd.snd)))
 else
 none)
theorem c_Z67_bind {R : Type} (x0 : Int) (x1 : List D) (k : Int × List D × Bool → Option R) : c_Z67 x0 x1 k = (c_Z67 x0 x1 some).bind k := by
 unfold c_Z67
 repeat' first|exact bnd_tail|exact bnd_none|exact bnd_leaf|apply bnd_ite|apply bnd_cond|apply bnd_sum|(apply bnd_bind;intro _)|intro _
def Z67 (x0 : Int) (x1 : List D) : Option (Int × List D × Bool) := c_Z67 x0 x1 some
def e_Z67 : Ent := ⟨125, [.int .i64, .rd (.int .i64)], .tup [.agg [.int .i64, .own (.int .i64)], .bool], [.undef, .undef], fun _ ds k => dI (fun x0 ds => dL (fun x1 ds => dE ((Z67 x0 x1).bind (fun y => k [.I y.1, .L y.2.1, .B y.2.2])) ds) ds) ds⟩
theorem q_Z67 (x0 : Int) (x1 : List D) : runFn (ocOf [e_Z15]) (olOf [e_Z65, e_Z66]) A 125 Try.f125 (Sh.mks e_Z67.sh [.I x0, .L x1]).1 (fun v os => some (v, os)) = c_Z67 x0 x1 (fun y => some ((e_Z67.res.mk [.I y.1, .L y.2.1, .B y.2.2]).1, (Sh.mks e_Z67.outs (e_Z67.res.mk [.I y.1, .L y.2.1, .B y.2.2]).2).1)) := by kernel_rfl
theorem e_Z67_ok : e_Z67.ok Try.prog A := by
 intro R ds k r h
 unfold e_Z67 at h
 obtain ⟨x0, d0, rfl, h0⟩ := dI_some h
 obtain ⟨x1, d1, rfl, h1⟩ := dL_some h0
 obtain ⟨rfl, hE⟩ := dE_some h1
 obtain ⟨y, hy, hk⟩ := bnd_some hE
 refine ⟨_, hk, fn_ok px (fx := ⟨Try.func125, by kernel_rfl, by kernel_rfl⟩) (entsOK_cons e_Z15_ok entsOK_nil) (lentsOK_cons e_Z65_ok (lentsOK_cons e_Z66_ok lentsOK_nil)) ?_⟩
 have hq := q_Z67 x0 x1
 rw [c_Z67_bind] at hq
 rw [show c_Z67 x0 x1 some = some y from hy] at hq
 exact hq

/-!-/
def c_Z68 {R : Type} (x0 : List D) (k : Int × List D × Bool → Option R) : Option R :=
 (Z12 (↑x0.length : Int) (1 : Int) (4 : Int)).bind (fun y0 =>
 bif !y0 then
 k ((0 : Int), [], Bool.false)
 else
 (Z61 x0 (2100 : Int) (-20000 : Int) (1 : Int) (0 : Int) (0 : Int) (0 : Int)).bind (Sum.elim (fun y1 =>
 k (y1.snd.snd.snd.snd.fst, [], y1.snd.fst)) (fun y2 =>
 bif decide ((200 : Int) ≤ IntKind.i64.wrap (y2.snd.snd.fst - y2.snd.fst)) then
 k (y2.snd.snd.snd.snd, [], Bool.false)
 else
 (Z64 y2.fst y2.snd.fst y2.snd.snd.fst (0 : Int) y2.snd.fst y2.snd.snd.snd.fst []).bind (fun y3 =>
 (Z67 y3.fst y3.snd.snd).bind (fun y4 =>
 k (y4.fst, y4.snd.fst, y4.snd.snd))))))
theorem c_Z68_bind {R : Type} (x0 : List D) (k : Int × List D × Bool → Option R) : c_Z68 x0 k = (c_Z68 x0 some).bind k := by
 unfold c_Z68
 repeat' first|exact bnd_tail|exact bnd_none|exact bnd_leaf|apply bnd_ite|apply bnd_cond|apply bnd_sum|(apply bnd_bind;intro _)|intro _
def Z68 (x0 : List D) : Option (Int × List D × Bool) := c_Z68 x0 some
def e_Z68 : Ent := ⟨54, [.rd (.struct [.int .i64, .slice (.int .i64)])], .tup [.agg [.int .i64, .own (.int .i64)], .bool], [.undef], fun _ ds k => dL (fun x0 ds => dE ((Z68 x0).bind (fun y => k [.I y.1, .L y.2.1, .B y.2.2])) ds) ds⟩
theorem q_Z68 (x0 : List D) : runFn (ocOf [e_Z12, e_Z67]) (olOf [e_Z61, e_Z64]) A 54 Try.f54 (Sh.mks e_Z68.sh [.L x0]).1 (fun v os => some (v, os)) = c_Z68 x0 (fun y => some ((e_Z68.res.mk [.I y.1, .L y.2.1, .B y.2.2]).1, (Sh.mks e_Z68.outs (e_Z68.res.mk [.I y.1, .L y.2.1, .B y.2.2]).2).1)) := by kernel_rfl
theorem e_Z68_ok : e_Z68.ok Try.prog A := by
 intro R ds k r h
 unfold e_Z68 at h
 obtain ⟨x0, d0, rfl, h0⟩ := dL_some h
 obtain ⟨rfl, hE⟩ := dE_some h0
 obtain ⟨y, hy, hk⟩ := bnd_some hE
 refine ⟨_, hk, fn_ok px (fx := ⟨Try.func54, by kernel_rfl, by kernel_rfl⟩) (entsOK_cons e_Z12_ok (entsOK_cons e_Z67_ok entsOK_nil)) (lentsOK_cons e_Z61_ok (lentsOK_cons e_Z64_ok lentsOK_nil)) ?_⟩
 have hq := q_Z68 x0
 rw [c_Z68_bind] at hq
 rw [show c_Z68 x0 some = some y from hy] at hq
 exact hq

/-!-/
def c_Z69 {R : Type} (F : List D → List D → Int → Option ((Bool) ⊕ (Unit))) (x0 : List D) (x1 : List D) (x2 : Int) (k : (Bool) ⊕ (Unit) → Option R) : Option R :=
 bif decide (x2 < (↑x0.length : Int)) then
 if 0 ≤ x2 ∧ x2 < (↑x0.length : Int) then
 if 0 ≤ x2 ∧ x2 < (↑x1.length : Int) then
 bif !decide ((x0.getD x2.toNat (D.int 0)).toInt = (x1.getD x2.toNat (D.int 0)).toInt) then
 k (.inl Bool.false)
 else
 (F x0 x1 (IntKind.i64.wrap (x2 + 1))).bind k
 else
 none
 else
 none
 else
 k (.inr ())
theorem c_Z69_bind {R : Type} (F : List D → List D → Int → Option ((Bool) ⊕ (Unit))) (x0 : List D) (x1 : List D) (x2 : Int) (k : (Bool) ⊕ (Unit) → Option R) : c_Z69 F x0 x1 x2 k = (c_Z69 F x0 x1 x2 some).bind k := by
 unfold c_Z69
 repeat' first|exact bnd_tail|exact bnd_none|exact bnd_leaf|apply bnd_ite|apply bnd_cond|apply bnd_sum|(apply bnd_bind;intro _)|intro _
def n_Z69 : Nat → List D → List D → Int → Option ((Bool) ⊕ (Unit))
 | 0, _, _, _ => none
 | n + 1, x0, x1, x2 => c_Z69 (n_Z69 n) x0 x1 x2 some
noncomputable def Z69 (x0 : List D) (x1 : List D) (x2 : Int) : Option ((Bool) ⊕ (Unit)) := ev (fun n => n_Z69 n x0 x1 x2)
def m_Z69 (F : List D → List D → Int → Option ((Bool) ⊕ (Unit))) : Lent := ⟨4, ⟨(.rd (.int .i64) :: .rd (.int .i64) :: .undef :: .undef :: .undef :: .int .i64 :: uu 20 ([])), []⟩, [(.ret, ⟨(uu 4 (.bool :: uu 21 ([]))), []⟩), (.exit 0, ⟨(uu 26 ([])), []⟩)], fun _ ds k => dL (fun x0 ds => dL (fun x1 ds => dI (fun x2 ds => dE ((F x0 x1 x2).bind (Sum.elim (fun y => k 0 [.B y]) (fun y => k 1 []))) ds) ds) ds) ds⟩
theorem q_Z69 (F : List D → List D → Int → Option ((Bool) ⊕ (Unit))) (x0 : List D) (x1 : List D) (x2 : Int) : runLoop (ocOf []) (olOf [m_Z69 F]) A 21 (codeAt (bodyOf Try.f21) 4) ((m_Z69 F).sh.mk' [.L x0, .L x1, .I x2]) (fun e σ' => some (e, σ')) = c_Z69 F x0 x1 x2 (Sum.elim (fun y => some (.ret, SSt.mk' ⟨(uu 4 (.bool :: uu 21 ([]))), []⟩ [.B y])) (fun y => some (.exit 0, SSt.mk' ⟨(uu 26 ([])), []⟩ []))) := by kernel_rfl
theorem m_Z69_ok : ∀ n, (m_Z69 (n_Z69 n)).ok Try.prog (codeAt (bodyOf Try.f21) 4) := by
 intro n
 induction n with
 | zero =>
  intro R ds k r h
  unfold m_Z69 at h
  obtain ⟨x0, d0, rfl, h0⟩ := dL_some h
  obtain ⟨x1, d1, rfl, h1⟩ := dL_some h0
  obtain ⟨x2, d2, rfl, h2⟩ := dI_some h1
  obtain ⟨rfl, hE⟩ := dE_some h2
  obtain ⟨y, hy, hk⟩ := bnd_some hE
  cases hy
 | succ n ih =>
  intro R ds k r h
  unfold m_Z69 at h
  obtain ⟨x0, d0, rfl, h0⟩ := dL_some h
  obtain ⟨x1, d1, rfl, h1⟩ := dL_some h0
  obtain ⟨x2, d2, rfl, h2⟩ := dI_some h1
  obtain ⟨rfl, hE⟩ := dE_some h2
  obtain ⟨y, hy, hk⟩ := bnd_some hE
  have hq := q_Z69 (n_Z69 n) x0 x1 x2
  rw [c_Z69_bind] at hq
  rw [show c_Z69 (n_Z69 n) x0 x1 x2 some = some y from hy] at hq
  cases y with
  | inl y =>
   refine ⟨0, _, _, _, hk, rfl, loop_ok px (fx := ⟨Try.func21, by kernel_rfl, by kernel_rfl⟩) entsOK_nil (lentsOK_cons ih lentsOK_nil) (by kernel_rfl) ?_⟩
   exact hq
  | inr y =>
   refine ⟨1, _, _, _, hk, rfl, loop_ok px (fx := ⟨Try.func21, by kernel_rfl, by kernel_rfl⟩) entsOK_nil (lentsOK_cons ih lentsOK_nil) (by kernel_rfl) ?_⟩
   exact hq
noncomputable def e_Z69 : Lent := m_Z69 (Z69)
theorem e_Z69_ok : (e_Z69).ok Try.prog (codeAt (bodyOf Try.f21) 4) := by
 intro R ds k r h
 unfold e_Z69 m_Z69 at h
 obtain ⟨x0, d0, rfl, h0⟩ := dL_some h
 obtain ⟨x1, d1, rfl, h1⟩ := dL_some h0
 obtain ⟨x2, d2, rfl, h2⟩ := dI_some h1
 obtain ⟨rfl, hE⟩ := dE_some h2
 obtain ⟨y, hy, hk⟩ := bnd_some hE
 obtain ⟨n, hn⟩ := ev_some hy
 exact m_Z69_ok n R _ k r (show (n_Z69 n x0 x1 x2).bind _ = _ by rw [hn]; exact hk)

/-!-/
def c_Z70 {R : Type} (x0 : List D) (x1 : List D) (k : Bool → Option R) : Option R :=
 bif !decide ((↑x0.length : Int) = (↑x1.length : Int)) then
 k Bool.false
 else
 (Z69 x0 x1 (0 : Int)).bind (Sum.elim (fun y0 =>
 k y0) (fun y1 =>
 k Bool.true))
theorem c_Z70_bind {R : Type} (x0 : List D) (x1 : List D) (k : Bool → Option R) : c_Z70 x0 x1 k = (c_Z70 x0 x1 some).bind k := by
 unfold c_Z70
 repeat' first|exact bnd_tail|exact bnd_none|exact bnd_leaf|apply bnd_ite|apply bnd_cond|apply bnd_sum|(apply bnd_bind;intro _)|intro _
def Z70 (x0 : List D) (x1 : List D) : Option (Bool) := c_Z70 x0 x1 some
def e_Z70 : Ent := ⟨21, [.rd (.int .i64), .rd (.int .i64)], .bool, [.undef, .undef], fun _ ds k => dL (fun x0 ds => dL (fun x1 ds => dE ((Z70 x0 x1).bind (fun y => k [.B y])) ds) ds) ds⟩
theorem q_Z70 (x0 : List D) (x1 : List D) : runFn (ocOf []) (olOf [e_Z69]) A 21 Try.f21 (Sh.mks e_Z70.sh [.L x0, .L x1]).1 (fun v os => some (v, os)) = c_Z70 x0 x1 (fun y => some ((e_Z70.res.mk [.B y]).1, (Sh.mks e_Z70.outs (e_Z70.res.mk [.B y]).2).1)) := by kernel_rfl
theorem e_Z70_ok : e_Z70.ok Try.prog A := by
 intro R ds k r h
 unfold e_Z70 at h
 obtain ⟨x0, d0, rfl, h0⟩ := dL_some h
 obtain ⟨x1, d1, rfl, h1⟩ := dL_some h0
 obtain ⟨rfl, hE⟩ := dE_some h1
 obtain ⟨y, hy, hk⟩ := bnd_some hE
 refine ⟨_, hk, fn_ok px (fx := ⟨Try.func21, by kernel_rfl, by kernel_rfl⟩) entsOK_nil (lentsOK_cons e_Z69_ok lentsOK_nil) ?_⟩
 have hq := q_Z70 x0 x1
 rw [c_Z70_bind] at hq
 rw [show c_Z70 x0 x1 some = some y from hy] at hq
 exact hq

/-!-/
def c_Z71 {R : Type} (x0 : Int) (x1 : List D) (x2 : Int) (x3 : List D) (k : Bool → Option R) : Option R :=
 bif decide (x0 = x2) then
 (Z70 x1 x3).bind (fun y0 =>
 k y0)
 else
 k Bool.false
theorem c_Z71_bind {R : Type} (x0 : Int) (x1 : List D) (x2 : Int) (x3 : List D) (k : Bool → Option R) : c_Z71 x0 x1 x2 x3 k = (c_Z71 x0 x1 x2 x3 some).bind k := by
 unfold c_Z71
 repeat' first|exact bnd_tail|exact bnd_none|exact bnd_leaf|apply bnd_ite|apply bnd_cond|apply bnd_sum|(apply bnd_bind;intro _)|intro _
def Z71 (x0 : Int) (x1 : List D) (x2 : Int) (x3 : List D) : Option (Bool) := c_Z71 x0 x1 x2 x3 some
def e_Z71 : Ent := ⟨31, [.agg [.int .i64, .rd (.int .i64)], .agg [.int .i64, .rd (.int .i64)]], .bool, [.undef, .undef], fun _ ds k => dI (fun x0 ds => dL (fun x1 ds => dI (fun x2 ds => dL (fun x3 ds => dE ((Z71 x0 x1 x2 x3).bind (fun y => k [.B y])) ds) ds) ds) ds) ds⟩
theorem q_Z71 (x0 : Int) (x1 : List D) (x2 : Int) (x3 : List D) : runFn (ocOf [e_Z70]) (olOf []) A 31 Try.f31 (Sh.mks e_Z71.sh [.I x0, .L x1, .I x2, .L x3]).1 (fun v os => some (v, os)) = c_Z71 x0 x1 x2 x3 (fun y => some ((e_Z71.res.mk [.B y]).1, (Sh.mks e_Z71.outs (e_Z71.res.mk [.B y]).2).1)) := by kernel_rfl
theorem e_Z71_ok : e_Z71.ok Try.prog A := by
 intro R ds k r h
 unfold e_Z71 at h
 obtain ⟨x0, d0, rfl, h0⟩ := dI_some h
 obtain ⟨x1, d1, rfl, h1⟩ := dL_some h0
 obtain ⟨x2, d2, rfl, h2⟩ := dI_some h1
 obtain ⟨x3, d3, rfl, h3⟩ := dL_some h2
 obtain ⟨rfl, hE⟩ := dE_some h3
 obtain ⟨y, hy, hk⟩ := bnd_some hE
 refine ⟨_, hk, fn_ok px (fx := ⟨Try.func31, by kernel_rfl, by kernel_rfl⟩) (entsOK_cons e_Z70_ok entsOK_nil) lentsOK_nil ?_⟩
 have hq := q_Z71 x0 x1 x2 x3
 rw [c_Z71_bind] at hq
 rw [show c_Z71 x0 x1 x2 x3 some = some y from hy] at hq
 exact hq

/-!-/
def c_Z72 {R : Type} (F : List D → Bool → Int → List D → Int → Int → List D → Option ((List D × Bool × Bool × List D × Int × Int × List D) ⊕ (List D × Bool × List D × Int × Int × List D))) (x0 : List D) (x1 : Bool) (x2 : Int) (x3 : List D) (x4 : Int) (x5 : Int) (x6 : List D) (k : (List D × Bool × Bool × List D × Int × Int × List D) ⊕ (List D × Bool × List D × Int × Int × List D) → Option R) : Option R :=
 bif decide (x2 < (↑x3.length : Int)) then
 bif x1 then
 if 0 ≤ x2 ∧ x2 < (↑x3.length : Int) then
 if x2.toNat + 1 ≤ x3.length then
 if x2.toNat + 1 ≤ x3.length then
 bif decide (x4 < ((x3.getD x2.toNat (D.int 0)).fld (0 : Nat)).toInt) then
 k (.inl (x0, Bool.false, x1, x3, x4, x5, x6))
 else
 (F x0 x1 (IntKind.i64.wrap (x2 + 1)) x3 x4 x5 x6).bind k
 else
 none
 else
 none
 else
 none
 else
 k (.inr (x0, x1, x3, x4, x5, x6))
 else
 k (.inr (x0, x1, x3, x4, x5, x6))
theorem c_Z72_bind {R : Type} (F : List D → Bool → Int → List D → Int → Int → List D → Option ((List D × Bool × Bool × List D × Int × Int × List D) ⊕ (List D × Bool × List D × Int × Int × List D))) (x0 : List D) (x1 : Bool) (x2 : Int) (x3 : List D) (x4 : Int) (x5 : Int) (x6 : List D) (k : (List D × Bool × Bool × List D × Int × Int × List D) ⊕ (List D × Bool × List D × Int × Int × List D) → Option R) : c_Z72 F x0 x1 x2 x3 x4 x5 x6 k = (c_Z72 F x0 x1 x2 x3 x4 x5 x6 some).bind k := by
 unfold c_Z72
 repeat' first|exact bnd_tail|exact bnd_none|exact bnd_leaf|apply bnd_ite|apply bnd_cond|apply bnd_sum|(apply bnd_bind;intro _)|intro _
def n_Z72 : Nat → List D → Bool → Int → List D → Int → Int → List D → Option ((List D × Bool × Bool × List D × Int × Int × List D) ⊕ (List D × Bool × List D × Int × Int × List D))
 | 0, _, _, _, _, _, _, _ => none
 | n + 1, x0, x1, x2, x3, x4, x5, x6 => c_Z72 (n_Z72 n) x0 x1 x2 x3 x4 x5 x6 some
noncomputable def Z72 (x0 : List D) (x1 : Bool) (x2 : Int) (x3 : List D) (x4 : Int) (x5 : Int) (x6 : List D) : Option ((List D × Bool × Bool × List D × Int × Int × List D) ⊕ (List D × Bool × List D × Int × Int × List D)) := ev (fun n => n_Z72 n x0 x1 x2 x3 x4 x5 x6)
def m_Z72 (F : List D → Bool → Int → List D → Int → Int → List D → Option ((List D × Bool × Bool × List D × Int × Int × List D) ⊕ (List D × Bool × List D × Int × Int × List D))) : Lent := ⟨9, ⟨(.rd (.int .u8) :: .undef :: .undef :: .full 1000 [] (.struct [.int .i64, .slice (.int .i64)]) :: .ptr 1001 [0] :: .bool :: .undef :: .undef :: .int .i64 :: uu 144 ([])), [(1000, .own (.struct [.int .i64, .slice (.int .i64)])), (1001, .obox (.agg [.int .i64, .full 1002 [1] (.int .i64)])), (1002, .agg [.int .i64, .own (.int .i64)])]⟩, [(.ret, ⟨(.rd (.int .u8) :: .undef :: .bool :: .full 1000 [] (.struct [.int .i64, .slice (.int .i64)]) :: .ptr 1001 [0] :: .bool :: uu 147 ([])), [(1000, .own (.struct [.int .i64, .slice (.int .i64)])), (1001, .obox (.agg [.int .i64, .full 1002 [1] (.int .i64)])), (1002, .agg [.int .i64, .own (.int .i64)])]⟩), (.exit 0, ⟨(.rd (.int .u8) :: .undef :: .undef :: .full 1000 [] (.struct [.int .i64, .slice (.int .i64)]) :: .ptr 1001 [0] :: .bool :: uu 147 ([])), [(1000, .own (.struct [.int .i64, .slice (.int .i64)])), (1001, .obox (.agg [.int .i64, .full 1002 [1] (.int .i64)])), (1002, .agg [.int .i64, .own (.int .i64)])]⟩)], fun _ ds k => dL (fun x0 ds => dB (fun x1 ds => dI (fun x2 ds => dL (fun x3 ds => dI (fun x4 ds => dI (fun x5 ds => dL (fun x6 ds => dE ((F x0 x1 x2 x3 x4 x5 x6).bind (Sum.elim (fun y => k 0 [.L y.1, .B y.2.1, .B y.2.2.1, .L y.2.2.2.1, .I y.2.2.2.2.1, .I y.2.2.2.2.2.1, .L y.2.2.2.2.2.2]) (fun y => k 1 [.L y.1, .B y.2.1, .L y.2.2.1, .I y.2.2.2.1, .I y.2.2.2.2.1, .L y.2.2.2.2.2]))) ds) ds) ds) ds) ds) ds) ds) ds⟩
theorem q_Z72 (F : List D → Bool → Int → List D → Int → Int → List D → Option ((List D × Bool × Bool × List D × Int × Int × List D) ⊕ (List D × Bool × List D × Int × Int × List D))) (x0 : List D) (x1 : Bool) (x2 : Int) (x3 : List D) (x4 : Int) (x5 : Int) (x6 : List D) : runLoop (ocOf []) (olOf [m_Z72 F]) A 8 (codeAt (bodyOf Try.f8) 9) ((m_Z72 F).sh.mk' [.L x0, .B x1, .I x2, .L x3, .I x4, .I x5, .L x6]) (fun e σ' => some (e, σ')) = c_Z72 F x0 x1 x2 x3 x4 x5 x6 (Sum.elim (fun y => some (.ret, SSt.mk' ⟨(.rd (.int .u8) :: .undef :: .bool :: .full 1000 [] (.struct [.int .i64, .slice (.int .i64)]) :: .ptr 1001 [0] :: .bool :: uu 147 ([])), [(1000, .own (.struct [.int .i64, .slice (.int .i64)])), (1001, .obox (.agg [.int .i64, .full 1002 [1] (.int .i64)])), (1002, .agg [.int .i64, .own (.int .i64)])]⟩ [.L y.1, .B y.2.1, .B y.2.2.1, .L y.2.2.2.1, .I y.2.2.2.2.1, .I y.2.2.2.2.2.1, .L y.2.2.2.2.2.2])) (fun y => some (.exit 0, SSt.mk' ⟨(.rd (.int .u8) :: .undef :: .undef :: .full 1000 [] (.struct [.int .i64, .slice (.int .i64)]) :: .ptr 1001 [0] :: .bool :: uu 147 ([])), [(1000, .own (.struct [.int .i64, .slice (.int .i64)])), (1001, .obox (.agg [.int .i64, .full 1002 [1] (.int .i64)])), (1002, .agg [.int .i64, .own (.int .i64)])]⟩ [.L y.1, .B y.2.1, .L y.2.2.1, .I y.2.2.2.1, .I y.2.2.2.2.1, .L y.2.2.2.2.2]))) := by kernel_rfl
theorem m_Z72_ok : ∀ n, (m_Z72 (n_Z72 n)).ok Try.prog (codeAt (bodyOf Try.f8) 9) := by
 intro n
 induction n with
 | zero =>
  intro R ds k r h
  unfold m_Z72 at h
  obtain ⟨x0, d0, rfl, h0⟩ := dL_some h
  obtain ⟨x1, d1, rfl, h1⟩ := dB_some h0
  obtain ⟨x2, d2, rfl, h2⟩ := dI_some h1
  obtain ⟨x3, d3, rfl, h3⟩ := dL_some h2
  obtain ⟨x4, d4, rfl, h4⟩ := dI_some h3
  obtain ⟨x5, d5, rfl, h5⟩ := dI_some h4
  obtain ⟨x6, d6, rfl, h6⟩ := dL_some h5
  obtain ⟨rfl, hE⟩ := dE_some h6
  obtain ⟨y, hy, hk⟩ := bnd_some hE
  cases hy
 | succ n ih =>
  intro R ds k r h
  unfold m_Z72 at h
  obtain ⟨x0, d0, rfl, h0⟩ := dL_some h
  obtain ⟨x1, d1, rfl, h1⟩ := dB_some h0
  obtain ⟨x2, d2, rfl, h2⟩ := dI_some h1
  obtain ⟨x3, d3, rfl, h3⟩ := dL_some h2
  obtain ⟨x4, d4, rfl, h4⟩ := dI_some h3
  obtain ⟨x5, d5, rfl, h5⟩ := dI_some h4
  obtain ⟨x6, d6, rfl, h6⟩ := dL_some h5
  obtain ⟨rfl, hE⟩ := dE_some h6
  obtain ⟨y, hy, hk⟩ := bnd_some hE
  have hq := q_Z72 (n_Z72 n) x0 x1 x2 x3 x4 x5 x6
  rw [c_Z72_bind] at hq
  rw [show c_Z72 (n_Z72 n) x0 x1 x2 x3 x4 x5 x6 some = some y from hy] at hq
  cases y with
  | inl y =>
   refine ⟨0, _, _, _, hk, rfl, loop_ok px (fx := ⟨Try.func8, by kernel_rfl, by kernel_rfl⟩) entsOK_nil (lentsOK_cons ih lentsOK_nil) (by kernel_rfl) ?_⟩
   exact hq
  | inr y =>
   refine ⟨1, _, _, _, hk, rfl, loop_ok px (fx := ⟨Try.func8, by kernel_rfl, by kernel_rfl⟩) entsOK_nil (lentsOK_cons ih lentsOK_nil) (by kernel_rfl) ?_⟩
   exact hq
noncomputable def e_Z72 : Lent := m_Z72 (Z72)
theorem e_Z72_ok : (e_Z72).ok Try.prog (codeAt (bodyOf Try.f8) 9) := by
 intro R ds k r h
 unfold e_Z72 m_Z72 at h
 obtain ⟨x0, d0, rfl, h0⟩ := dL_some h
 obtain ⟨x1, d1, rfl, h1⟩ := dB_some h0
 obtain ⟨x2, d2, rfl, h2⟩ := dI_some h1
 obtain ⟨x3, d3, rfl, h3⟩ := dL_some h2
 obtain ⟨x4, d4, rfl, h4⟩ := dI_some h3
 obtain ⟨x5, d5, rfl, h5⟩ := dI_some h4
 obtain ⟨x6, d6, rfl, h6⟩ := dL_some h5
 obtain ⟨rfl, hE⟩ := dE_some h6
 obtain ⟨y, hy, hk⟩ := bnd_some hE
 obtain ⟨n, hn⟩ := ev_some hy
 exact m_Z72_ok n R _ k r (show (n_Z72 n x0 x1 x2 x3 x4 x5 x6).bind _ = _ by rw [hn]; exact hk)

/-!-/
def c_Z73 {R : Type} (x0 : Int) (x1 : Int) (k : Bool → Option R) : Option R :=
 (Z22 x1 (1 : Int) (1000 : Int)).bind (fun y0 =>
 bif y0 then
 (Z22 x0 (1 : Int) x1).bind (fun y1 =>
 k y1)
 else
 k Bool.false)
theorem c_Z73_bind {R : Type} (x0 : Int) (x1 : Int) (k : Bool → Option R) : c_Z73 x0 x1 k = (c_Z73 x0 x1 some).bind k := by
 unfold c_Z73
 repeat' first|exact bnd_tail|exact bnd_none|exact bnd_leaf|apply bnd_ite|apply bnd_cond|apply bnd_sum|(apply bnd_bind;intro _)|intro _
def Z73 (x0 : Int) (x1 : Int) : Option (Bool) := c_Z73 x0 x1 some
def e_Z73 : Ent := ⟨83, [.int .i64, .int .i64], .bool, [.undef, .undef], fun _ ds k => dI (fun x0 ds => dI (fun x1 ds => dE ((Z73 x0 x1).bind (fun y => k [.B y])) ds) ds) ds⟩
theorem q_Z73 (x0 : Int) (x1 : Int) : runFn (ocOf [e_Z22]) (olOf []) A 83 Try.f83 (Sh.mks e_Z73.sh [.I x0, .I x1]).1 (fun v os => some (v, os)) = c_Z73 x0 x1 (fun y => some ((e_Z73.res.mk [.B y]).1, (Sh.mks e_Z73.outs (e_Z73.res.mk [.B y]).2).1)) := by kernel_rfl
theorem e_Z73_ok : e_Z73.ok Try.prog A := by
 intro R ds k r h
 unfold e_Z73 at h
 obtain ⟨x0, d0, rfl, h0⟩ := dI_some h
 obtain ⟨x1, d1, rfl, h1⟩ := dI_some h0
 obtain ⟨rfl, hE⟩ := dE_some h1
 obtain ⟨y, hy, hk⟩ := bnd_some hE
 refine ⟨_, hk, fn_ok px (fx := ⟨Try.func83, by kernel_rfl, by kernel_rfl⟩) (entsOK_cons e_Z22_ok entsOK_nil) lentsOK_nil ?_⟩
 have hq := q_Z73 x0 x1
 rw [c_Z73_bind] at hq
 rw [show c_Z73 x0 x1 some = some y from hy] at hq
 exact hq

/-!-/
def c_Z74 {R : Type} (F : Int → Int → Int → List D → Int → Int → Int → List D → Option ((Int × Bool) ⊕ (Unit))) (x0 : Int) (x1 : Int) (x2 : Int) (x3 : List D) (x4 : Int) (x5 : Int) (x6 : Int) (x7 : List D) (k : (Int × Bool) ⊕ (Unit) → Option R) : Option R :=
 bif decide (x5 < x4) then
 if 0 ≤ x5 ∧ x5 < (↑x3.length : Int) then
 (Z36 x6 x7).bind (fun y0 =>
 bif decide (IntKind.i64.wrap (x0 * y0) ≤ IntKind.i64.wrap (IntKind.i64.wrap (x2 + (x3.getD x5.toNat (D.int 0)).toInt) * x1)) then
 k (.inl (IntKind.i64.wrap (x6 + x5), Bool.true))
 else
 (F x0 x1 (IntKind.i64.wrap (x2 + (x3.getD x5.toNat (D.int 0)).toInt)) x3 x4 (IntKind.i64.wrap (x5 + 1)) x6 x7).bind k)
 else
 none
 else
 k (.inr ())
theorem c_Z74_bind {R : Type} (F : Int → Int → Int → List D → Int → Int → Int → List D → Option ((Int × Bool) ⊕ (Unit))) (x0 : Int) (x1 : Int) (x2 : Int) (x3 : List D) (x4 : Int) (x5 : Int) (x6 : Int) (x7 : List D) (k : (Int × Bool) ⊕ (Unit) → Option R) : c_Z74 F x0 x1 x2 x3 x4 x5 x6 x7 k = (c_Z74 F x0 x1 x2 x3 x4 x5 x6 x7 some).bind k := by
 unfold c_Z74
 repeat' first|exact bnd_tail|exact bnd_none|exact bnd_leaf|apply bnd_ite|apply bnd_cond|apply bnd_sum|(apply bnd_bind;intro _)|intro _
def n_Z74 : Nat → Int → Int → Int → List D → Int → Int → Int → List D → Option ((Int × Bool) ⊕ (Unit))
 | 0, _, _, _, _, _, _, _, _ => none
 | n + 1, x0, x1, x2, x3, x4, x5, x6, x7 => c_Z74 (n_Z74 n) x0 x1 x2 x3 x4 x5 x6 x7 some
noncomputable def Z74 (x0 : Int) (x1 : Int) (x2 : Int) (x3 : List D) (x4 : Int) (x5 : Int) (x6 : Int) (x7 : List D) : Option ((Int × Bool) ⊕ (Unit)) := ev (fun n => n_Z74 n x0 x1 x2 x3 x4 x5 x6 x7)
def m_Z74 (F : Int → Int → Int → List D → Int → Int → Int → List D → Option ((Int × Bool) ⊕ (Unit))) : Lent := ⟨5, ⟨(.undef :: .int .i64 :: .int .i64 :: .ptr 1000 [0] :: uu 4 (.int .i64 :: uu 12 (.rd (.int .i64) :: .int .i64 :: .int .i64 :: uu 20 ([])))), [(1000, .obox (.agg [.int .i64, .rd (.int .i64)]))]⟩, [(.ret, ⟨(uu 6 (.int .i64 :: .bool :: uu 36 ([]))), []⟩), (.exit 0, ⟨(uu 44 ([])), []⟩)], fun _ ds k => dI (fun x0 ds => dI (fun x1 ds => dI (fun x2 ds => dL (fun x3 ds => dI (fun x4 ds => dI (fun x5 ds => dI (fun x6 ds => dL (fun x7 ds => dE ((F x0 x1 x2 x3 x4 x5 x6 x7).bind (Sum.elim (fun y => k 0 [.I y.1, .B y.2]) (fun y => k 1 []))) ds) ds) ds) ds) ds) ds) ds) ds) ds⟩
theorem q_Z74 (F : Int → Int → Int → List D → Int → Int → Int → List D → Option ((Int × Bool) ⊕ (Unit))) (x0 : Int) (x1 : Int) (x2 : Int) (x3 : List D) (x4 : Int) (x5 : Int) (x6 : Int) (x7 : List D) : runLoop (ocOf [e_Z36]) (olOf [m_Z74 F]) A 26 (codeAt (bodyOf Try.f26) 5) ((m_Z74 F).sh.mk' [.I x0, .I x1, .I x2, .L x3, .I x4, .I x5, .I x6, .L x7]) (fun e σ' => some (e, σ')) = c_Z74 F x0 x1 x2 x3 x4 x5 x6 x7 (Sum.elim (fun y => some (.ret, SSt.mk' ⟨(uu 6 (.int .i64 :: .bool :: uu 36 ([]))), []⟩ [.I y.1, .B y.2])) (fun y => some (.exit 0, SSt.mk' ⟨(uu 44 ([])), []⟩ []))) := by kernel_rfl
theorem m_Z74_ok : ∀ n, (m_Z74 (n_Z74 n)).ok Try.prog (codeAt (bodyOf Try.f26) 5) := by
 intro n
 induction n with
 | zero =>
  intro R ds k r h
  unfold m_Z74 at h
  obtain ⟨x0, d0, rfl, h0⟩ := dI_some h
  obtain ⟨x1, d1, rfl, h1⟩ := dI_some h0
  obtain ⟨x2, d2, rfl, h2⟩ := dI_some h1
  obtain ⟨x3, d3, rfl, h3⟩ := dL_some h2
  obtain ⟨x4, d4, rfl, h4⟩ := dI_some h3
  obtain ⟨x5, d5, rfl, h5⟩ := dI_some h4
  obtain ⟨x6, d6, rfl, h6⟩ := dI_some h5
  obtain ⟨x7, d7, rfl, h7⟩ := dL_some h6
  obtain ⟨rfl, hE⟩ := dE_some h7
  obtain ⟨y, hy, hk⟩ := bnd_some hE
  cases hy
 | succ n ih =>
  intro R ds k r h
  unfold m_Z74 at h
  obtain ⟨x0, d0, rfl, h0⟩ := dI_some h
  obtain ⟨x1, d1, rfl, h1⟩ := dI_some h0
  obtain ⟨x2, d2, rfl, h2⟩ := dI_some h1
  obtain ⟨x3, d3, rfl, h3⟩ := dL_some h2
  obtain ⟨x4, d4, rfl, h4⟩ := dI_some h3
  obtain ⟨x5, d5, rfl, h5⟩ := dI_some h4
  obtain ⟨x6, d6, rfl, h6⟩ := dI_some h5
  obtain ⟨x7, d7, rfl, h7⟩ := dL_some h6
  obtain ⟨rfl, hE⟩ := dE_some h7
  obtain ⟨y, hy, hk⟩ := bnd_some hE
  have hq := q_Z74 (n_Z74 n) x0 x1 x2 x3 x4 x5 x6 x7
  rw [c_Z74_bind] at hq
  rw [show c_Z74 (n_Z74 n) x0 x1 x2 x3 x4 x5 x6 x7 some = some y from hy] at hq
  cases y with
  | inl y =>
   refine ⟨0, _, _, _, hk, rfl, loop_ok px (fx := ⟨Try.func26, by kernel_rfl, by kernel_rfl⟩) (entsOK_cons e_Z36_ok entsOK_nil) (lentsOK_cons ih lentsOK_nil) (by kernel_rfl) ?_⟩
   exact hq
  | inr y =>
   refine ⟨1, _, _, _, hk, rfl, loop_ok px (fx := ⟨Try.func26, by kernel_rfl, by kernel_rfl⟩) (entsOK_cons e_Z36_ok entsOK_nil) (lentsOK_cons ih lentsOK_nil) (by kernel_rfl) ?_⟩
   exact hq
noncomputable def e_Z74 : Lent := m_Z74 (Z74)
theorem e_Z74_ok : (e_Z74).ok Try.prog (codeAt (bodyOf Try.f26) 5) := by
 intro R ds k r h
 unfold e_Z74 m_Z74 at h
 obtain ⟨x0, d0, rfl, h0⟩ := dI_some h
 obtain ⟨x1, d1, rfl, h1⟩ := dI_some h0
 obtain ⟨x2, d2, rfl, h2⟩ := dI_some h1
 obtain ⟨x3, d3, rfl, h3⟩ := dL_some h2
 obtain ⟨x4, d4, rfl, h4⟩ := dI_some h3
 obtain ⟨x5, d5, rfl, h5⟩ := dI_some h4
 obtain ⟨x6, d6, rfl, h6⟩ := dI_some h5
 obtain ⟨x7, d7, rfl, h7⟩ := dL_some h6
 obtain ⟨rfl, hE⟩ := dE_some h7
 obtain ⟨y, hy, hk⟩ := bnd_some hE
 obtain ⟨n, hn⟩ := ev_some hy
 exact m_Z74_ok n R _ k r (show (n_Z74 n x0 x1 x2 x3 x4 x5 x6 x7).bind _ = _ by rw [hn]; exact hk)

end
end Go.Proofs.Ytpigfmlahmapaaa
