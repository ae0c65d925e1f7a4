/- Models of Go functions and their contracts, printed by a program of this session. -/
import Derived.Test.YtpigfmlahmapaaaClA
set_option linter.unusedVariables false
set_option maxRecDepth 100000
namespace Go.Proofs.Ytpigfmlahmapaaa
open Go Go.Rai
noncomputable section
/-!-/
def c_Z0 {R : Type} (x0 : List D) (k : Bool → Option R) : Option R :=
 k (decide ((65536 : Int) < (↑x0.length : Int)))
theorem c_Z0_bind {R : Type} (x0 : List D) (k : Bool → Option R) : c_Z0 x0 k = (c_Z0 x0 some).bind k := by
 unfold c_Z0
 repeat' first|exact bnd_tail|exact bnd_none|exact bnd_leaf|apply bnd_ite|apply bnd_cond|apply bnd_sum|(apply bnd_bind;intro _)|intro _
def Z0 (x0 : List D) : Option (Bool) := c_Z0 x0 some
def e_Z0 : Ent := ⟨11, [.rd (.int .u8)], .bool, [.undef], fun _ ds k => dL (fun x0 ds => dE ((Z0 x0).bind (fun y => k [.B y])) ds) ds⟩
theorem q_Z0 (x0 : List D) : runFn (ocOf []) (olOf []) A 11 Try.f11 (Sh.mks e_Z0.sh [.L x0]).1 (fun v os => some (v, os)) = c_Z0 x0 (fun y => some ((e_Z0.res.mk [.B y]).1, (Sh.mks e_Z0.outs (e_Z0.res.mk [.B y]).2).1)) := by kernel_rfl
theorem e_Z0_ok : e_Z0.ok Try.prog A := by
 intro R ds k r h
 unfold e_Z0 at h
 obtain ⟨x0, d0, rfl, h0⟩ := dL_some h
 obtain ⟨rfl, hE⟩ := dE_some h0
 obtain ⟨y, hy, hk⟩ := bnd_some hE
 refine ⟨_, hk, fn_ok px (fx := ⟨Try.func11, by kernel_rfl, by kernel_rfl⟩) entsOK_nil lentsOK_nil ?_⟩
 have hq := q_Z0 x0
 rw [c_Z0_bind] at hq
 rw [show c_Z0 x0 some = some y from hy] at hq
 exact hq

/-!-/
def c_Z1 {R : Type} (x0 : List D) (x1 : Int) (x2 : Int) (k : Int × List D × Int × Int → Option R) : Option R :=
 bif decide (x1 < (↑x0.length : Int)) then
 if 0 ≤ x1 ∧ x1 < (↑x0.length : Int) then
 bif decide (IntKind.i64.wrap (x1 + 1) ≤ (↑x0.length : Int)) then
 k (IntKind.i64.wrap (x0.getD x1.toNat (D.int 0)).toInt, x0, IntKind.i64.wrap (x1 + 1), IntKind.u64.wrap (IntKind.u64.wrap (IntKind.u64.wrap (x2 * (6364136223846793005 : Int)) + IntKind.u64.wrap (IntKind.i64.wrap (x0.getD x1.toNat (D.int 0)).toInt)) + (876876 : Int)))
 else
 if (0 : Int) ≤ (40 : Int) then
 k (IntKind.i64.wrap (IntKind.u64.wrap (↑(BitVec.ofInt IntKind.u64.bits ((IntKind.u64.wrap (IntKind.u64.wrap (IntKind.u64.wrap (x2 * (6364136223846793005 : Int)) + IntKind.u64.wrap (IntKind.i64.wrap (x0.getD x1.toNat (D.int 0)).toInt)) + (876876 : Int))).fdiv ((2 : Int) ^ Min.min (Int.toNat (40 : Int)) IntKind.u64.bits)) &&& BitVec.ofInt IntKind.u64.bits (255 : Int)).toNat : Int)), x0, IntKind.i64.wrap (x1 + 1), IntKind.u64.wrap (IntKind.u64.wrap (IntKind.u64.wrap (x2 * (6364136223846793005 : Int)) + IntKind.u64.wrap (IntKind.i64.wrap (x0.getD x1.toNat (D.int 0)).toInt)) + (876876 : Int)))
 else
 none
 else
 none
 else
 bif decide (IntKind.i64.wrap (x1 + 1) ≤ (↑x0.length : Int)) then
 k ((0 : Int), x0, IntKind.i64.wrap (x1 + 1), IntKind.u64.wrap (IntKind.u64.wrap (IntKind.u64.wrap (x2 * (6364136223846793005 : Int)) + IntKind.u64.wrap (0 : Int)) + (876876 : Int)))
 else
 if (0 : Int) ≤ (40 : Int) then
 k (IntKind.i64.wrap (IntKind.u64.wrap (↑(BitVec.ofInt IntKind.u64.bits ((IntKind.u64.wrap (IntKind.u64.wrap (IntKind.u64.wrap (x2 * (6364136223846793005 : Int)) + IntKind.u64.wrap (0 : Int)) + (876876 : Int))).fdiv ((2 : Int) ^ Min.min (Int.toNat (40 : Int)) IntKind.u64.bits)) &&& BitVec.ofInt IntKind.u64.bits (255 : Int)).toNat : Int)), x0, IntKind.i64.wrap (x1 + 1), IntKind.u64.wrap (IntKind.u64.wrap (IntKind.u64.wrap (x2 * (6364136223846793005 : Int)) + IntKind.u64.wrap (0 : Int)) + (876876 : Int)))
 else
 none
theorem c_Z1_bind {R : Type} (x0 : List D) (x1 : Int) (x2 : Int) (k : Int × List D × Int × Int → Option R) : c_Z1 x0 x1 x2 k = (c_Z1 x0 x1 x2 some).bind k := by
 unfold c_Z1
 repeat' first|exact bnd_tail|exact bnd_none|exact bnd_leaf|apply bnd_ite|apply bnd_cond|apply bnd_sum|(apply bnd_bind;intro _)|intro _
def Z1 (x0 : List D) (x1 : Int) (x2 : Int) : Option (Int × List D × Int × Int) := c_Z1 x0 x1 x2 some
def e_Z1 : Ent := ⟨151, [.obox (.agg [.rd (.int .u8), .int .i64, .int .u64])], .int .i64, [.obox (.agg [.rd (.int .u8), .int .i64, .int .u64])], fun _ ds k => dL (fun x0 ds => dI (fun x1 ds => dI (fun x2 ds => dE ((Z1 x0 x1 x2).bind (fun y => k [.I y.1, .L y.2.1, .I y.2.2.1, .I y.2.2.2])) ds) ds) ds) ds⟩
theorem q_Z1 (x0 : List D) (x1 : Int) (x2 : Int) : runFn (ocOf []) (olOf []) A 151 Try.f151 (Sh.mks e_Z1.sh [.L x0, .I x1, .I x2]).1 (fun v os => some (v, os)) = c_Z1 x0 x1 x2 (fun y => some ((e_Z1.res.mk [.I y.1, .L y.2.1, .I y.2.2.1, .I y.2.2.2]).1, (Sh.mks e_Z1.outs (e_Z1.res.mk [.I y.1, .L y.2.1, .I y.2.2.1, .I y.2.2.2]).2).1)) := by kernel_rfl
theorem e_Z1_ok : e_Z1.ok Try.prog A := by
 intro R ds k r h
 unfold e_Z1 at h
 obtain ⟨x0, d0, rfl, h0⟩ := dL_some h
 obtain ⟨x1, d1, rfl, h1⟩ := dI_some h0
 obtain ⟨x2, d2, rfl, h2⟩ := dI_some h1
 obtain ⟨rfl, hE⟩ := dE_some h2
 obtain ⟨y, hy, hk⟩ := bnd_some hE
 refine ⟨_, hk, fn_ok px (fx := ⟨Try.func151, by kernel_rfl, by kernel_rfl⟩) entsOK_nil lentsOK_nil ?_⟩
 have hq := q_Z1 x0 x1 x2
 rw [c_Z1_bind] at hq
 rw [show c_Z1 x0 x1 x2 some = some y from hy] at hq
 exact hq

/-!-/
def c_Z2 {R : Type} (x0 : List D) (x1 : Int) (x2 : Int) (x3 : Int) (k : Int × List D × Int × Int → Option R) : Option R :=
 bif decide (x3 ≤ (1 : Int)) then
 k ((0 : Int), x0, x1, x2)
 else
 (Z1 x0 x1 x2).bind (fun y0 =>
 bif decide ((200 : Int) < x3) then
 (Z1 y0.snd.fst y0.snd.snd.fst y0.snd.snd.snd).bind (fun y1 =>
 if x3 ≠ (0 : Int) then
 k ((IntKind.i64.wrap (IntKind.i64.wrap (y0.fst * (256 : Int)) + y1.fst)).tmod x3, y1.snd.fst, y1.snd.snd.fst, y1.snd.snd.snd)
 else
 none)
 else
 if x3 ≠ (0 : Int) then
 k (y0.fst.tmod x3, y0.snd.fst, y0.snd.snd.fst, y0.snd.snd.snd)
 else
 none)
theorem c_Z2_bind {R : Type} (x0 : List D) (x1 : Int) (x2 : Int) (x3 : Int) (k : Int × List D × Int × Int → Option R) : c_Z2 x0 x1 x2 x3 k = (c_Z2 x0 x1 x2 x3 some).bind k := by
 unfold c_Z2
 repeat' first|exact bnd_tail|exact bnd_none|exact bnd_leaf|apply bnd_ite|apply bnd_cond|apply bnd_sum|(apply bnd_bind;intro _)|intro _
def Z2 (x0 : List D) (x1 : Int) (x2 : Int) (x3 : Int) : Option (Int × List D × Int × Int) := c_Z2 x0 x1 x2 x3 some
def e_Z2 : Ent := ⟨90, [.obox (.agg [.rd (.int .u8), .int .i64, .int .u64]), .int .i64], .int .i64, [.obox (.agg [.rd (.int .u8), .int .i64, .int .u64]), .undef], fun _ ds k => dL (fun x0 ds => dI (fun x1 ds => dI (fun x2 ds => dI (fun x3 ds => dE ((Z2 x0 x1 x2 x3).bind (fun y => k [.I y.1, .L y.2.1, .I y.2.2.1, .I y.2.2.2])) ds) ds) ds) ds) ds⟩
theorem q_Z2 (x0 : List D) (x1 : Int) (x2 : Int) (x3 : Int) : runFn (ocOf [e_Z1]) (olOf []) A 90 Try.f90 (Sh.mks e_Z2.sh [.L x0, .I x1, .I x2, .I x3]).1 (fun v os => some (v, os)) = c_Z2 x0 x1 x2 x3 (fun y => some ((e_Z2.res.mk [.I y.1, .L y.2.1, .I y.2.2.1, .I y.2.2.2]).1, (Sh.mks e_Z2.outs (e_Z2.res.mk [.I y.1, .L y.2.1, .I y.2.2.1, .I y.2.2.2]).2).1)) := by kernel_rfl
theorem e_Z2_ok : e_Z2.ok Try.prog A := by
 intro R ds k r h
 unfold e_Z2 at h
 obtain ⟨x0, d0, rfl, h0⟩ := dL_some h
 obtain ⟨x1, d1, rfl, h1⟩ := dI_some h0
 obtain ⟨x2, d2, rfl, h2⟩ := dI_some h1
 obtain ⟨x3, d3, rfl, h3⟩ := dI_some h2
 obtain ⟨rfl, hE⟩ := dE_some h3
 obtain ⟨y, hy, hk⟩ := bnd_some hE
 refine ⟨_, hk, fn_ok px (fx := ⟨Try.func90, by kernel_rfl, by kernel_rfl⟩) (entsOK_cons e_Z1_ok entsOK_nil) lentsOK_nil ?_⟩
 have hq := q_Z2 x0 x1 x2 x3
 rw [c_Z2_bind] at hq
 rw [show c_Z2 x0 x1 x2 x3 some = some y from hy] at hq
 exact hq

/-!-/
def c_Z3 {R : Type} (x0 : List D) (x1 : Int) (x2 : Int) (x3 : List D) (k : Int × List D × Int × Int → Option R) : Option R :=
 (Z2 x0 x1 x2 (↑x3.length : Int)).bind (fun y0 =>
 if 0 ≤ y0.fst ∧ y0.fst < (↑x3.length : Int) then
 if y0.fst.toNat + 1 ≤ x3.length then
 k ((x3.getD y0.fst.toNat (D.int 0)).toInt, y0.snd.fst, y0.snd.snd.fst, y0.snd.snd.snd)
 else
 none
 else
 none)
theorem c_Z3_bind {R : Type} (x0 : List D) (x1 : Int) (x2 : Int) (x3 : List D) (k : Int × List D × Int × Int → Option R) : c_Z3 x0 x1 x2 x3 k = (c_Z3 x0 x1 x2 x3 some).bind k := by
 unfold c_Z3
 repeat' first|exact bnd_tail|exact bnd_none|exact bnd_leaf|apply bnd_ite|apply bnd_cond|apply bnd_sum|(apply bnd_bind;intro _)|intro _
def Z3 (x0 : List D) (x1 : Int) (x2 : Int) (x3 : List D) : Option (Int × List D × Int × Int) := c_Z3 x0 x1 x2 x3 some
def e_Z3 : Ent := ⟨74, [.obox (.agg [.rd (.int .u8), .int .i64, .int .u64]), .own (.int .i64)], .int .i64, [.obox (.agg [.rd (.int .u8), .int .i64, .int .u64]), .undef], fun _ ds k => dL (fun x0 ds => dI (fun x1 ds => dI (fun x2 ds => dL (fun x3 ds => dE ((Z3 x0 x1 x2 x3).bind (fun y => k [.I y.1, .L y.2.1, .I y.2.2.1, .I y.2.2.2])) ds) ds) ds) ds) ds⟩
theorem q_Z3 (x0 : List D) (x1 : Int) (x2 : Int) (x3 : List D) : runFn (ocOf [e_Z2]) (olOf []) A 74 Try.f74 (Sh.mks e_Z3.sh [.L x0, .I x1, .I x2, .L x3]).1 (fun v os => some (v, os)) = c_Z3 x0 x1 x2 x3 (fun y => some ((e_Z3.res.mk [.I y.1, .L y.2.1, .I y.2.2.1, .I y.2.2.2]).1, (Sh.mks e_Z3.outs (e_Z3.res.mk [.I y.1, .L y.2.1, .I y.2.2.1, .I y.2.2.2]).2).1)) := by kernel_rfl
theorem e_Z3_ok : e_Z3.ok Try.prog A := by
 intro R ds k r h
 unfold e_Z3 at h
 obtain ⟨x0, d0, rfl, h0⟩ := dL_some h
 obtain ⟨x1, d1, rfl, h1⟩ := dI_some h0
 obtain ⟨x2, d2, rfl, h2⟩ := dI_some h1
 obtain ⟨x3, d3, rfl, h3⟩ := dL_some h2
 obtain ⟨rfl, hE⟩ := dE_some h3
 obtain ⟨y, hy, hk⟩ := bnd_some hE
 refine ⟨_, hk, fn_ok px (fx := ⟨Try.func74, by kernel_rfl, by kernel_rfl⟩) (entsOK_cons e_Z2_ok entsOK_nil) lentsOK_nil ?_⟩
 have hq := q_Z3 x0 x1 x2 x3
 rw [c_Z3_bind] at hq
 rw [show c_Z3 x0 x1 x2 x3 some = some y from hy] at hq
 exact hq

/-!-/
def c_Z4 {R : Type} (x0 : Int) (x1 : Int) (k : Int → Option R) : Option R :=
 bif decide (x1 < x0) then
 k x0
 else
 k x1
theorem c_Z4_bind {R : Type} (x0 : Int) (x1 : Int) (k : Int → Option R) : c_Z4 x0 x1 k = (c_Z4 x0 x1 some).bind k := by
 unfold c_Z4
 repeat' first|exact bnd_tail|exact bnd_none|exact bnd_leaf|apply bnd_ite|apply bnd_cond|apply bnd_sum|(apply bnd_bind;intro _)|intro _
def Z4 (x0 : Int) (x1 : Int) : Option (Int) := c_Z4 x0 x1 some
def e_Z4 : Ent := ⟨123, [.int .i64, .int .i64], .int .i64, [.undef, .undef], fun _ ds k => dI (fun x0 ds => dI (fun x1 ds => dE ((Z4 x0 x1).bind (fun y => k [.I y])) ds) ds) ds⟩
theorem q_Z4 (x0 : Int) (x1 : Int) : runFn (ocOf []) (olOf []) A 123 Try.f123 (Sh.mks e_Z4.sh [.I x0, .I x1]).1 (fun v os => some (v, os)) = c_Z4 x0 x1 (fun y => some ((e_Z4.res.mk [.I y]).1, (Sh.mks e_Z4.outs (e_Z4.res.mk [.I y]).2).1)) := by kernel_rfl
theorem e_Z4_ok : e_Z4.ok Try.prog A := by
 intro R ds k r h
 unfold e_Z4 at h
 obtain ⟨x0, d0, rfl, h0⟩ := dI_some h
 obtain ⟨x1, d1, rfl, h1⟩ := dI_some h0
 obtain ⟨rfl, hE⟩ := dE_some h1
 obtain ⟨y, hy, hk⟩ := bnd_some hE
 refine ⟨_, hk, fn_ok px (fx := ⟨Try.func123, by kernel_rfl, by kernel_rfl⟩) entsOK_nil lentsOK_nil ?_⟩
 have hq := q_Z4 x0 x1
 rw [c_Z4_bind] at hq
 rw [show c_Z4 x0 x1 some = some y from hy] at hq
 exact hq

/-!-/
def c_Z5 {R : Type} (F : Int → Int → Int → List D → Int → Int → List D → Option (List D × Int × Int × List D)) (x0 : Int) (x1 : Int) (x2 : Int) (x3 : List D) (x4 : Int) (x5 : Int) (x6 : List D) (k : List D × Int × Int × List D → Option R) : Option R :=
 bif decide ((0 : Int) < x2) then
 (Z2 x3 x4 x5 (4 : Int)).bind (fun y0 =>
 if x6.length + [D.node [D.int x0, D.int x1, D.int y0.fst]].length ≤ (4294967296 : Nat) then
 (Z3 y0.snd.fst y0.snd.snd.fst y0.snd.snd.snd ([D.int (1 : Int), D.int (2 : Int), D.int (4 : Int), D.int (5 : Int), D.int (10 : Int)])).bind (fun y1 =>
 (Z3 y1.snd.fst y1.snd.snd.fst y1.snd.snd.snd ([D.int (-20 : Int), D.int (-10 : Int), D.int (-5 : Int), D.int (5 : Int), D.int 0, D.int (-3 : Int)])).bind (fun y2 =>
 (Z4 (IntKind.i64.wrap (x1 + y2.fst)) (0 : Int)).bind (fun y3 =>
 (F (IntKind.i64.wrap (x0 + y1.fst)) y3 (IntKind.i64.wrap (x2 - 1)) y2.snd.fst y2.snd.snd.fst y2.snd.snd.snd (x6 ++ [D.node [D.int x0, D.int x1, D.int y0.fst]])).bind k)))
 else
 none)
 else
 k (x3, x4, x5, x6)
theorem c_Z5_bind {R : Type} (F : Int → Int → Int → List D → Int → Int → List D → Option (List D × Int × Int × List D)) (x0 : Int) (x1 : Int) (x2 : Int) (x3 : List D) (x4 : Int) (x5 : Int) (x6 : List D) (k : List D × Int × Int × List D → Option R) : c_Z5 F x0 x1 x2 x3 x4 x5 x6 k = (c_Z5 F x0 x1 x2 x3 x4 x5 x6 some).bind k := by
 unfold c_Z5
 repeat' first|exact bnd_tail|exact bnd_none|exact bnd_leaf|apply bnd_ite|apply bnd_cond|apply bnd_sum|(apply bnd_bind;intro _)|intro _
def n_Z5 : Nat → Int → Int → Int → List D → Int → Int → List D → Option (List D × Int × Int × List D)
 | 0, _, _, _, _, _, _, _ => none
 | n + 1, x0, x1, x2, x3, x4, x5, x6 => c_Z5 (n_Z5 n) x0 x1 x2 x3 x4 x5 x6 some
noncomputable def Z5 (x0 : Int) (x1 : Int) (x2 : Int) (x3 : List D) (x4 : Int) (x5 : Int) (x6 : List D) : Option (List D × Int × Int × List D) := ev (fun n => n_Z5 n x0 x1 x2 x3 x4 x5 x6)
def m_Z5 (F : Int → Int → Int → List D → Int → Int → List D → Option (List D × Int × Int × List D)) : Lent := ⟨5, ⟨(.ptr 1000 [0] :: .undef :: .undef :: .full 1001 [] (.struct [.int .i64, .int .i64, .int .i64]) :: .int .i64 :: .int .i64 :: .int .i64 :: uu 34 ([])), [(1000, .obox (.agg [.rd (.int .u8), .int .i64, .int .u64])), (1001, .own (.struct [.int .i64, .int .i64, .int .i64]))]⟩, [(.exit 0, ⟨(.ptr 1000 [0] :: .undef :: .undef :: .full 1001 [] (.struct [.int .i64, .int .i64, .int .i64]) :: uu 37 ([])), [(1000, .obox (.agg [.rd (.int .u8), .int .i64, .int .u64])), (1001, .own (.struct [.int .i64, .int .i64, .int .i64]))]⟩)], fun _ ds k => dI (fun x0 ds => dI (fun x1 ds => dI (fun x2 ds => dL (fun x3 ds => dI (fun x4 ds => dI (fun x5 ds => dL (fun x6 ds => dE ((F x0 x1 x2 x3 x4 x5 x6).bind (fun y => k 0 [.L y.1, .I y.2.1, .I y.2.2.1, .L y.2.2.2])) ds) ds) ds) ds) ds) ds) ds) ds⟩
theorem q_Z5 (F : Int → Int → Int → List D → Int → Int → List D → Option (List D × Int × Int × List D)) (x0 : Int) (x1 : Int) (x2 : Int) (x3 : List D) (x4 : Int) (x5 : Int) (x6 : List D) : runLoop (ocOf [e_Z2, e_Z3, e_Z4]) (olOf [m_Z5 F]) A 118 (codeAt (bodyOf Try.f118) 5) ((m_Z5 F).sh.mk' [.I x0, .I x1, .I x2, .L x3, .I x4, .I x5, .L x6]) (fun e σ' => some (e, σ')) = c_Z5 F x0 x1 x2 x3 x4 x5 x6 (fun y => some (.exit 0, SSt.mk' ⟨(.ptr 1000 [0] :: .undef :: .undef :: .full 1001 [] (.struct [.int .i64, .int .i64, .int .i64]) :: uu 37 ([])), [(1000, .obox (.agg [.rd (.int .u8), .int .i64, .int .u64])), (1001, .own (.struct [.int .i64, .int .i64, .int .i64]))]⟩ [.L y.1, .I y.2.1, .I y.2.2.1, .L y.2.2.2])) := by kernel_rfl
theorem m_Z5_ok : ∀ n, (m_Z5 (n_Z5 n)).ok Try.prog (codeAt (bodyOf Try.f118) 5) := by
 intro n
 induction n with
 | zero =>
  intro R ds k r h
  unfold m_Z5 at h
  obtain ⟨x0, d0, rfl, h0⟩ := dI_some h
  obtain ⟨x1, d1, rfl, h1⟩ := dI_some h0
  obtain ⟨x2, d2, rfl, h2⟩ := dI_some h1
  obtain ⟨x3, d3, rfl, h3⟩ := dL_some h2
  obtain ⟨x4, d4, rfl, h4⟩ := dI_some h3
  obtain ⟨x5, d5, rfl, h5⟩ := dI_some h4
  obtain ⟨x6, d6, rfl, h6⟩ := dL_some h5
  obtain ⟨rfl, hE⟩ := dE_some h6
  obtain ⟨y, hy, hk⟩ := bnd_some hE
  cases hy
 | succ n ih =>
  intro R ds k r h
  unfold m_Z5 at h
  obtain ⟨x0, d0, rfl, h0⟩ := dI_some h
  obtain ⟨x1, d1, rfl, h1⟩ := dI_some h0
  obtain ⟨x2, d2, rfl, h2⟩ := dI_some h1
  obtain ⟨x3, d3, rfl, h3⟩ := dL_some h2
  obtain ⟨x4, d4, rfl, h4⟩ := dI_some h3
  obtain ⟨x5, d5, rfl, h5⟩ := dI_some h4
  obtain ⟨x6, d6, rfl, h6⟩ := dL_some h5
  obtain ⟨rfl, hE⟩ := dE_some h6
  obtain ⟨y, hy, hk⟩ := bnd_some hE
  have hq := q_Z5 (n_Z5 n) x0 x1 x2 x3 x4 x5 x6
  rw [c_Z5_bind] at hq
  rw [show c_Z5 (n_Z5 n) x0 x1 x2 x3 x4 x5 x6 some = some y from hy] at hq
  refine ⟨0, _, _, _, hk, rfl, loop_ok px (fx := ⟨Try.func118, by kernel_rfl, by kernel_rfl⟩) (entsOK_cons e_Z2_ok (entsOK_cons e_Z3_ok (entsOK_cons e_Z4_ok entsOK_nil))) (lentsOK_cons ih lentsOK_nil) (by kernel_rfl) ?_⟩
  exact hq
noncomputable def e_Z5 : Lent := m_Z5 (Z5)
theorem e_Z5_ok : (e_Z5).ok Try.prog (codeAt (bodyOf Try.f118) 5) := by
 intro R ds k r h
 unfold e_Z5 m_Z5 at h
 obtain ⟨x0, d0, rfl, h0⟩ := dI_some h
 obtain ⟨x1, d1, rfl, h1⟩ := dI_some h0
 obtain ⟨x2, d2, rfl, h2⟩ := dI_some h1
 obtain ⟨x3, d3, rfl, h3⟩ := dL_some h2
 obtain ⟨x4, d4, rfl, h4⟩ := dI_some h3
 obtain ⟨x5, d5, rfl, h5⟩ := dI_some h4
 obtain ⟨x6, d6, rfl, h6⟩ := dL_some h5
 obtain ⟨rfl, hE⟩ := dE_some h6
 obtain ⟨y, hy, hk⟩ := bnd_some hE
 obtain ⟨n, hn⟩ := ev_some hy
 exact m_Z5_ok n R _ k r (show (n_Z5 n x0 x1 x2 x3 x4 x5 x6).bind _ = _ by rw [hn]; exact hk)

/-!-/
def c_Z6 {R : Type} (x0 : List D) (x1 : Int) (x2 : Int) (k : List D × List D × Int × Int → Option R) : Option R :=
 (Z3 x0 x1 x2 ([D.int (-500 : Int), D.int 0, D.int (1000 : Int), D.int (-20000 : Int), D.int (2000 : Int)])).bind (fun y0 =>
 (Z3 y0.snd.fst y0.snd.snd.fst y0.snd.snd.snd ([D.int (3000 : Int), D.int (2000 : Int), D.int (1000 : Int), D.int (60 : Int)])).bind (fun y1 =>
 (Z2 y1.snd.fst y1.snd.snd.fst y1.snd.snd.snd (7 : Int)).bind (fun y2 =>
 (Z5 y0.fst y1.fst (IntKind.i64.wrap ((2 : Int) + y2.fst)) y2.snd.fst y2.snd.snd.fst y2.snd.snd.snd []).bind (fun y3 =>
 k (y3.snd.snd.snd, y3.fst, y3.snd.fst, y3.snd.snd.fst)))))
theorem c_Z6_bind {R : Type} (x0 : List D) (x1 : Int) (x2 : Int) (k : List D × List D × Int × Int → Option R) : c_Z6 x0 x1 x2 k = (c_Z6 x0 x1 x2 some).bind k := by
 unfold c_Z6
 repeat' first|exact bnd_tail|exact bnd_none|exact bnd_leaf|apply bnd_ite|apply bnd_cond|apply bnd_sum|(apply bnd_bind;intro _)|intro _
def Z6 (x0 : List D) (x1 : Int) (x2 : Int) : Option (List D × List D × Int × Int) := c_Z6 x0 x1 x2 some
def e_Z6 : Ent := ⟨118, [.obox (.agg [.rd (.int .u8), .int .i64, .int .u64])], .own (.struct [.int .i64, .int .i64, .int .i64]), [.obox (.agg [.rd (.int .u8), .int .i64, .int .u64])], fun _ ds k => dL (fun x0 ds => dI (fun x1 ds => dI (fun x2 ds => dE ((Z6 x0 x1 x2).bind (fun y => k [.L y.1, .L y.2.1, .I y.2.2.1, .I y.2.2.2])) ds) ds) ds) ds⟩
theorem q_Z6 (x0 : List D) (x1 : Int) (x2 : Int) : runFn (ocOf [e_Z3, e_Z2]) (olOf [e_Z5]) A 118 Try.f118 (Sh.mks e_Z6.sh [.L x0, .I x1, .I x2]).1 (fun v os => some (v, os)) = c_Z6 x0 x1 x2 (fun y => some ((e_Z6.res.mk [.L y.1, .L y.2.1, .I y.2.2.1, .I y.2.2.2]).1, (Sh.mks e_Z6.outs (e_Z6.res.mk [.L y.1, .L y.2.1, .I y.2.2.1, .I y.2.2.2]).2).1)) := by kernel_rfl
theorem e_Z6_ok : e_Z6.ok Try.prog A := by
 intro R ds k r h
 unfold e_Z6 at h
 obtain ⟨x0, d0, rfl, h0⟩ := dL_some h
 obtain ⟨x1, d1, rfl, h1⟩ := dI_some h0
 obtain ⟨x2, d2, rfl, h2⟩ := dI_some h1
 obtain ⟨rfl, hE⟩ := dE_some h2
 obtain ⟨y, hy, hk⟩ := bnd_some hE
 refine ⟨_, hk, fn_ok px (fx := ⟨Try.func118, by kernel_rfl, by kernel_rfl⟩) (entsOK_cons e_Z3_ok (entsOK_cons e_Z2_ok entsOK_nil)) (lentsOK_cons e_Z5_ok lentsOK_nil) ?_⟩
 have hq := q_Z6 x0 x1 x2
 rw [c_Z6_bind] at hq
 rw [show c_Z6 x0 x1 x2 some = some y from hy] at hq
 exact hq

/-!-/
def c_Z7 {R : Type} (x0 : List D) (x1 : Int) (x2 : Int) (k : List D × List D × Int × Int → Option R) : Option R :=
 (Z6 x0 x1 x2).bind (fun y0 =>
 (Z2 y0.snd.fst y0.snd.snd.fst y0.snd.snd.snd (↑y0.fst.length : Int)).bind (fun y1 =>
 if 0 ≤ y1.fst ∧ y1.fst < (↑y0.fst.length : Int) then
 if y1.fst.toNat + 1 ≤ y0.fst.length then
 (Z2 y1.snd.fst y1.snd.snd.fst y1.snd.snd.snd (30 : Int)).bind (fun y2 =>
 bif decide (y2.fst = (0 : Int)) then
 (Z3 y2.snd.fst y2.snd.snd.fst y2.snd.snd.snd ([D.int (-30 : Int), D.int (60 : Int), D.int (50 : Int)])).bind (fun y3 =>
 if 0 ≤ y1.fst ∧ y1.fst < (↑y0.fst.length : Int) then
 if y1.fst.toNat + 1 ≤ y0.fst.length then
 k (y0.fst.set y1.fst.toNat (D.node [D.int (IntKind.i64.wrap (((y0.fst.getD y1.fst.toNat (D.int 0)).fld (0 : Nat)).toInt + y3.fst)), D.int ((y0.fst.getD y1.fst.toNat (D.int 0)).fld (1 : Nat)).toInt, D.int ((y0.fst.getD y1.fst.toNat (D.int 0)).fld (2 : Nat)).toInt]), y3.snd.fst, y3.snd.snd.fst, y3.snd.snd.snd)
 else
 none
 else
 none)
 else
 bif decide (y2.fst = (1 : Int)) then
 (Z3 y2.snd.fst y2.snd.snd.fst y2.snd.snd.snd ([D.int (-1 : Int), D.int (60001 : Int)])).bind (fun y4 =>
 if 0 ≤ y1.fst ∧ y1.fst < (↑y0.fst.length : Int) then
 if y1.fst.toNat + 1 ≤ y0.fst.length then
 k (y0.fst.set y1.fst.toNat (D.node [D.int ((y0.fst.getD y1.fst.toNat (D.int 0)).fld (0 : Nat)).toInt, D.int y4.fst, D.int ((y0.fst.getD y1.fst.toNat (D.int 0)).fld (2 : Nat)).toInt]), y4.snd.fst, y4.snd.snd.fst, y4.snd.snd.snd)
 else
 none
 else
 none)
 else
 bif decide (y2.fst = (2 : Int)) then
 (Z3 y2.snd.fst y2.snd.snd.fst y2.snd.snd.snd ([D.int (-1 : Int), D.int (1001 : Int)])).bind (fun y5 =>
 if 0 ≤ y1.fst ∧ y1.fst < (↑y0.fst.length : Int) then
 if y1.fst.toNat + 1 ≤ y0.fst.length then
 k (y0.fst.set y1.fst.toNat (D.node [D.int ((y0.fst.getD y1.fst.toNat (D.int 0)).fld (0 : Nat)).toInt, D.int ((y0.fst.getD y1.fst.toNat (D.int 0)).fld (1 : Nat)).toInt, D.int y5.fst]), y5.snd.fst, y5.snd.snd.fst, y5.snd.snd.snd)
 else
 none
 else
 none)
 else
 bif decide (y2.fst = (3 : Int)) then
 if (0 : Int) ≤ (0 : Int) ∧ (0 : Int) ≤ (1 : Int) ∧ (1 : Int) ≤ (↑y0.fst.length : Int) then
 if (0 : Nat) + (Int.toNat (1 : Int) - (0 : Nat)) ≤ y0.fst.length then
 k (List.take (Int.toNat (1 : Int) - (0 : Nat)) (List.drop (0 : Nat) y0.fst), y2.snd.fst, y2.snd.snd.fst, y2.snd.snd.snd)
 else
 none
 else
 none
 else
 if 0 ≤ y1.fst ∧ y1.fst < (↑y0.fst.length : Int) then
 if y1.fst.toNat + 1 ≤ y0.fst.length then
 k (y0.fst.set y1.fst.toNat (D.node [D.int ((y0.fst.getD y1.fst.toNat (D.int 0)).fld (0 : Nat)).toInt, D.int ((y0.fst.getD y1.fst.toNat (D.int 0)).fld (1 : Nat)).toInt, D.int ((y0.fst.getD y1.fst.toNat (D.int 0)).fld (2 : Nat)).toInt]), y2.snd.fst, y2.snd.snd.fst, y2.snd.snd.snd)
 else
 none
 else
 none)
 else
 none
 else
 none))
theorem c_Z7_bind {R : Type} (x0 : List D) (x1 : Int) (x2 : Int) (k : List D × List D × Int × Int → Option R) : c_Z7 x0 x1 x2 k = (c_Z7 x0 x1 x2 some).bind k := by
 unfold c_Z7
 repeat' first|exact bnd_tail|exact bnd_none|exact bnd_leaf|apply bnd_ite|apply bnd_cond|apply bnd_sum|(apply bnd_bind;intro _)|intro _
def Z7 (x0 : List D) (x1 : Int) (x2 : Int) : Option (List D × List D × Int × Int) := c_Z7 x0 x1 x2 some
def e_Z7 : Ent := ⟨73, [.obox (.agg [.rd (.int .u8), .int .i64, .int .u64])], .own (.struct [.int .i64, .int .i64, .int .i64]), [.obox (.agg [.rd (.int .u8), .int .i64, .int .u64])], fun _ ds k => dL (fun x0 ds => dI (fun x1 ds => dI (fun x2 ds => dE ((Z7 x0 x1 x2).bind (fun y => k [.L y.1, .L y.2.1, .I y.2.2.1, .I y.2.2.2])) ds) ds) ds) ds⟩
theorem q_Z7 (x0 : List D) (x1 : Int) (x2 : Int) : runFn (ocOf [e_Z6, e_Z2, e_Z3]) (olOf []) A 73 Try.f73 (Sh.mks e_Z7.sh [.L x0, .I x1, .I x2]).1 (fun v os => some (v, os)) = c_Z7 x0 x1 x2 (fun y => some ((e_Z7.res.mk [.L y.1, .L y.2.1, .I y.2.2.1, .I y.2.2.2]).1, (Sh.mks e_Z7.outs (e_Z7.res.mk [.L y.1, .L y.2.1, .I y.2.2.1, .I y.2.2.2]).2).1)) := by kernel_rfl
theorem e_Z7_ok : e_Z7.ok Try.prog A := by
 intro R ds k r h
 unfold e_Z7 at h
 obtain ⟨x0, d0, rfl, h0⟩ := dL_some h
 obtain ⟨x1, d1, rfl, h1⟩ := dI_some h0
 obtain ⟨x2, d2, rfl, h2⟩ := dI_some h1
 obtain ⟨rfl, hE⟩ := dE_some h2
 obtain ⟨y, hy, hk⟩ := bnd_some hE
 refine ⟨_, hk, fn_ok px (fx := ⟨Try.func73, by kernel_rfl, by kernel_rfl⟩) (entsOK_cons e_Z6_ok (entsOK_cons e_Z2_ok (entsOK_cons e_Z3_ok entsOK_nil))) lentsOK_nil ?_⟩
 have hq := q_Z7 x0 x1 x2
 rw [c_Z7_bind] at hq
 rw [show c_Z7 x0 x1 x2 some = some y from hy] at hq
 exact hq

/-!-/
def c_Z8 {R : Type} (x0 : List D) (k : List D × Int × Int → Option R) : Option R :=
 (Z7 x0 (0 : Int) (0 : Int)).bind (fun y0 =>
 (Z3 y0.snd.fst y0.snd.snd.fst y0.snd.snd.snd ([D.int 0, D.int (10 : Int), D.int (-10 : Int), D.int (-60 : Int), D.int (58000 : Int), D.int (60001 : Int)])).bind (fun y1 =>
 (Z3 y1.snd.fst y1.snd.snd.fst y1.snd.snd.snd ([D.int 0, D.int (1 : Int), D.int (2 : Int), D.int (-1 : Int), D.int (999 : Int), D.int (1001 : Int)])).bind (fun y2 =>
 k (y0.fst, y1.fst, y2.fst))))
theorem c_Z8_bind {R : Type} (x0 : List D) (k : List D × Int × Int → Option R) : c_Z8 x0 k = (c_Z8 x0 some).bind k := by
 unfold c_Z8
 repeat' first|exact bnd_tail|exact bnd_none|exact bnd_leaf|apply bnd_ite|apply bnd_cond|apply bnd_sum|(apply bnd_bind;intro _)|intro _
def Z8 (x0 : List D) : Option (List D × Int × Int) := c_Z8 x0 some
def e_Z8 : Ent := ⟨12, [.rd (.int .u8)], .tup [.own (.struct [.int .i64, .int .i64, .int .i64]), .int .i64, .int .i64], [.undef], fun _ ds k => dL (fun x0 ds => dE ((Z8 x0).bind (fun y => k [.L y.1, .I y.2.1, .I y.2.2])) ds) ds⟩
theorem q_Z8 (x0 : List D) : runFn (ocOf [e_Z7, e_Z3]) (olOf []) A 12 Try.f12 (Sh.mks e_Z8.sh [.L x0]).1 (fun v os => some (v, os)) = c_Z8 x0 (fun y => some ((e_Z8.res.mk [.L y.1, .I y.2.1, .I y.2.2]).1, (Sh.mks e_Z8.outs (e_Z8.res.mk [.L y.1, .I y.2.1, .I y.2.2]).2).1)) := by kernel_rfl
theorem e_Z8_ok : e_Z8.ok Try.prog A := by
 intro R ds k r h
 unfold e_Z8 at h
 obtain ⟨x0, d0, rfl, h0⟩ := dL_some h
 obtain ⟨rfl, hE⟩ := dE_some h0
 obtain ⟨y, hy, hk⟩ := bnd_some hE
 refine ⟨_, hk, fn_ok px (fx := ⟨Try.func12, by kernel_rfl, by kernel_rfl⟩) (entsOK_cons e_Z7_ok (entsOK_cons e_Z3_ok entsOK_nil)) lentsOK_nil ?_⟩
 have hq := q_Z8 x0
 rw [c_Z8_bind] at hq
 rw [show c_Z8 x0 some = some y from hy] at hq
 exact hq

/-!-/
def c_Z9 {R : Type} (x0 : Int) (x1 : Int) (x2 : Int) (k : Bool → Option R) : Option R :=
 bif decide (x1 ≤ x0) then
 k (decide (x0 ≤ x2))
 else
 k Bool.false
theorem c_Z9_bind {R : Type} (x0 : Int) (x1 : Int) (x2 : Int) (k : Bool → Option R) : c_Z9 x0 x1 x2 k = (c_Z9 x0 x1 x2 some).bind k := by
 unfold c_Z9
 repeat' first|exact bnd_tail|exact bnd_none|exact bnd_leaf|apply bnd_ite|apply bnd_cond|apply bnd_sum|(apply bnd_bind;intro _)|intro _
def Z9 (x0 : Int) (x1 : Int) (x2 : Int) : Option (Bool) := c_Z9 x0 x1 x2 some
def e_Z9 : Ent := ⟨75, [.int .i64, .int .i64, .int .i64], .bool, [.undef, .undef, .undef], fun _ ds k => dI (fun x0 ds => dI (fun x1 ds => dI (fun x2 ds => dE ((Z9 x0 x1 x2).bind (fun y => k [.B y])) ds) ds) ds) ds⟩
theorem q_Z9 (x0 : Int) (x1 : Int) (x2 : Int) : runFn (ocOf []) (olOf []) A 75 Try.f75 (Sh.mks e_Z9.sh [.I x0, .I x1, .I x2]).1 (fun v os => some (v, os)) = c_Z9 x0 x1 x2 (fun y => some ((e_Z9.res.mk [.B y]).1, (Sh.mks e_Z9.outs (e_Z9.res.mk [.B y]).2).1)) := by kernel_rfl
theorem e_Z9_ok : e_Z9.ok Try.prog A := by
 intro R ds k r h
 unfold e_Z9 at h
 obtain ⟨x0, d0, rfl, h0⟩ := dI_some h
 obtain ⟨x1, d1, rfl, h1⟩ := dI_some h0
 obtain ⟨x2, d2, rfl, h2⟩ := dI_some h1
 obtain ⟨rfl, hE⟩ := dE_some h2
 obtain ⟨y, hy, hk⟩ := bnd_some hE
 refine ⟨_, hk, fn_ok px (fx := ⟨Try.func75, by kernel_rfl, by kernel_rfl⟩) entsOK_nil lentsOK_nil ?_⟩
 have hq := q_Z9 x0 x1 x2
 rw [c_Z9_bind] at hq
 rw [show c_Z9 x0 x1 x2 some = some y from hy] at hq
 exact hq

/-!-/
def c_Z10 {R : Type} (x0 : Int) (k : Bool → Option R) : Option R :=
 (Z9 x0 (-20000 : Int) (2100 : Int)).bind (fun y0 =>
 k y0)
theorem c_Z10_bind {R : Type} (x0 : Int) (k : Bool → Option R) : c_Z10 x0 k = (c_Z10 x0 some).bind k := by
 unfold c_Z10
 repeat' first|exact bnd_tail|exact bnd_none|exact bnd_leaf|apply bnd_ite|apply bnd_cond|apply bnd_sum|(apply bnd_bind;intro _)|intro _
def Z10 (x0 : Int) : Option (Bool) := c_Z10 x0 some
def e_Z10 : Ent := ⟨79, [.int .i64], .bool, [.undef], fun _ ds k => dI (fun x0 ds => dE ((Z10 x0).bind (fun y => k [.B y])) ds) ds⟩
theorem q_Z10 (x0 : Int) : runFn (ocOf [e_Z9]) (olOf []) A 79 Try.f79 (Sh.mks e_Z10.sh [.I x0]).1 (fun v os => some (v, os)) = c_Z10 x0 (fun y => some ((e_Z10.res.mk [.B y]).1, (Sh.mks e_Z10.outs (e_Z10.res.mk [.B y]).2).1)) := by kernel_rfl
theorem e_Z10_ok : e_Z10.ok Try.prog A := by
 intro R ds k r h
 unfold e_Z10 at h
 obtain ⟨x0, d0, rfl, h0⟩ := dI_some h
 obtain ⟨rfl, hE⟩ := dE_some h0
 obtain ⟨y, hy, hk⟩ := bnd_some hE
 refine ⟨_, hk, fn_ok px (fx := ⟨Try.func79, by kernel_rfl, by kernel_rfl⟩) (entsOK_cons e_Z9_ok entsOK_nil) lentsOK_nil ?_⟩
 have hq := q_Z10 x0
 rw [c_Z10_bind] at hq
 rw [show c_Z10 x0 some = some y from hy] at hq
 exact hq

/-!-/
def c_Z11 {R : Type} (F : List D → List D → Int → Int → Option ((List D × Bool) ⊕ (List D))) (x0 : List D) (x1 : List D) (x2 : Int) (x3 : Int) (k : (List D × Bool) ⊕ (List D) → Option R) : Option R :=
 bif decide (x3 < x2) then
 if 0 ≤ x3 ∧ x3 < (↑x1.length : Int) then
 (Z10 (((x1.getD x3.toNat (D.int 0)).fld (0 : Nat)).toInt)).bind (fun y0 =>
 bif !y0 then
 k (.inl (x0, Bool.false))
 else
 (Z9 (((x1.getD x3.toNat (D.int 0)).fld (1 : Nat)).toInt) (0 : Int) (60000 : Int)).bind (fun y1 =>
 bif !y1 then
 k (.inl (x0, Bool.false))
 else
 (Z9 (((x1.getD x3.toNat (D.int 0)).fld (2 : Nat)).toInt) (0 : Int) (1000 : Int)).bind (fun y2 =>
 bif !y2 then
 k (.inl (x0, Bool.false))
 else
 bif decide ((0 : Int) < x3) then
 if (0 : Int) ≤ IntKind.i64.wrap (x3 - 1) ∧ IntKind.i64.wrap (x3 - 1) < (↑x0.length : Int) then
 (Z9 (IntKind.i64.wrap (((x1.getD x3.toNat (D.int 0)).fld (0 : Nat)).toInt - ((x0.getD (IntKind.i64.wrap (x3 - 1)).toNat (D.int 0)).fld (0 : Nat)).toInt)) (1 : Int) (50 : Int)).bind (fun y3 =>
 bif !y3 then
 k (.inl (x0, Bool.false))
 else
 (F x0 x1 x2 (IntKind.i64.wrap (x3 + 1))).bind k)
 else
 none
 else
 (F x0 x1 x2 (IntKind.i64.wrap (x3 + 1))).bind k)))
 else
 none
 else
 k (.inr x0)
theorem c_Z11_bind {R : Type} (F : List D → List D → Int → Int → Option ((List D × Bool) ⊕ (List D))) (x0 : List D) (x1 : List D) (x2 : Int) (x3 : Int) (k : (List D × Bool) ⊕ (List D) → Option R) : c_Z11 F x0 x1 x2 x3 k = (c_Z11 F x0 x1 x2 x3 some).bind k := by
 unfold c_Z11
 repeat' first|exact bnd_tail|exact bnd_none|exact bnd_leaf|apply bnd_ite|apply bnd_cond|apply bnd_sum|(apply bnd_bind;intro _)|intro _
def n_Z11 : Nat → List D → List D → Int → Int → Option ((List D × Bool) ⊕ (List D))
 | 0, _, _, _, _ => none
 | n + 1, x0, x1, x2, x3 => c_Z11 (n_Z11 n) x0 x1 x2 x3 some
noncomputable def Z11 (x0 : List D) (x1 : List D) (x2 : Int) (x3 : Int) : Option ((List D × Bool) ⊕ (List D)) := ev (fun n => n_Z11 n x0 x1 x2 x3)
def m_Z11 (F : List D → List D → Int → Int → Option ((List D × Bool) ⊕ (List D))) : Lent := ⟨4, ⟨(.rd (.struct [.int .i64, .int .i64, .int .i64]) :: uu 8 (.rd (.struct [.int .i64, .int .i64, .int .i64]) :: .int .i64 :: .int .i64 :: uu 49 ([]))), []⟩, [(.ret, ⟨(.rd (.struct [.int .i64, .int .i64, .int .i64]) :: .undef :: .bool :: uu 58 ([])), []⟩), (.exit 0, ⟨(.rd (.struct [.int .i64, .int .i64, .int .i64]) :: uu 60 ([])), []⟩)], fun _ ds k => dL (fun x0 ds => dL (fun x1 ds => dI (fun x2 ds => dI (fun x3 ds => dE ((F x0 x1 x2 x3).bind (Sum.elim (fun y => k 0 [.L y.1, .B y.2]) (fun y => k 1 [.L y]))) ds) ds) ds) ds) ds⟩
theorem q_Z11 (F : List D → List D → Int → Int → Option ((List D × Bool) ⊕ (List D))) (x0 : List D) (x1 : List D) (x2 : Int) (x3 : Int) : runLoop (ocOf [e_Z10, e_Z9]) (olOf [m_Z11 F]) A 15 (codeAt (bodyOf Try.f15) 4) ((m_Z11 F).sh.mk' [.L x0, .L x1, .I x2, .I x3]) (fun e σ' => some (e, σ')) = c_Z11 F x0 x1 x2 x3 (Sum.elim (fun y => some (.ret, SSt.mk' ⟨(.rd (.struct [.int .i64, .int .i64, .int .i64]) :: .undef :: .bool :: uu 58 ([])), []⟩ [.L y.1, .B y.2])) (fun y => some (.exit 0, SSt.mk' ⟨(.rd (.struct [.int .i64, .int .i64, .int .i64]) :: uu 60 ([])), []⟩ [.L y]))) := by kernel_rfl
theorem m_Z11_ok : ∀ n, (m_Z11 (n_Z11 n)).ok Try.prog (codeAt (bodyOf Try.f15) 4) := by
 intro n
 induction n with
 | zero =>
  intro R ds k r h
  unfold m_Z11 at h
  obtain ⟨x0, d0, rfl, h0⟩ := dL_some h
  obtain ⟨x1, d1, rfl, h1⟩ := dL_some h0
  obtain ⟨x2, d2, rfl, h2⟩ := dI_some h1
  obtain ⟨x3, d3, rfl, h3⟩ := dI_some h2
  obtain ⟨rfl, hE⟩ := dE_some h3
  obtain ⟨y, hy, hk⟩ := bnd_some hE
  cases hy
 | succ n ih =>
  intro R ds k r h
  unfold m_Z11 at h
  obtain ⟨x0, d0, rfl, h0⟩ := dL_some h
  obtain ⟨x1, d1, rfl, h1⟩ := dL_some h0
  obtain ⟨x2, d2, rfl, h2⟩ := dI_some h1
  obtain ⟨x3, d3, rfl, h3⟩ := dI_some h2
  obtain ⟨rfl, hE⟩ := dE_some h3
  obtain ⟨y, hy, hk⟩ := bnd_some hE
  have hq := q_Z11 (n_Z11 n) x0 x1 x2 x3
  rw [c_Z11_bind] at hq
  rw [show c_Z11 (n_Z11 n) x0 x1 x2 x3 some = some y from hy] at hq
  cases y with
  | inl y =>
   refine ⟨0, _, _, _, hk, rfl, loop_ok px (fx := ⟨Try.func15, by kernel_rfl, by kernel_rfl⟩) (entsOK_cons e_Z10_ok (entsOK_cons e_Z9_ok entsOK_nil)) (lentsOK_cons ih lentsOK_nil) (by kernel_rfl) ?_⟩
   exact hq
  | inr y =>
   refine ⟨1, _, _, _, hk, rfl, loop_ok px (fx := ⟨Try.func15, by kernel_rfl, by kernel_rfl⟩) (entsOK_cons e_Z10_ok (entsOK_cons e_Z9_ok entsOK_nil)) (lentsOK_cons ih lentsOK_nil) (by kernel_rfl) ?_⟩
   exact hq
noncomputable def e_Z11 : Lent := m_Z11 (Z11)
theorem e_Z11_ok : (e_Z11).ok Try.prog (codeAt (bodyOf Try.f15) 4) := by
 intro R ds k r h
 unfold e_Z11 m_Z11 at h
 obtain ⟨x0, d0, rfl, h0⟩ := dL_some h
 obtain ⟨x1, d1, rfl, h1⟩ := dL_some h0
 obtain ⟨x2, d2, rfl, h2⟩ := dI_some h1
 obtain ⟨x3, d3, rfl, h3⟩ := dI_some h2
 obtain ⟨rfl, hE⟩ := dE_some h3
 obtain ⟨y, hy, hk⟩ := bnd_some hE
 obtain ⟨n, hn⟩ := ev_some hy
 exact m_Z11_ok n R _ k r (show (n_Z11 n x0 x1 x2 x3).bind _ = _ by rw [hn]; exact hk)

/-!-/
def c_Z12 {R : Type} (x0 : List D) (k : Bool → Option R) : Option R :=
 (Z9 (↑x0.length : Int) (2 : Int) (40 : Int)).bind (fun y0 =>
 bif !y0 then
 k Bool.false
 else
 (Z11 x0 x0 (↑x0.length : Int) (0 : Int)).bind (Sum.elim (fun y1 =>
 k y1.snd) (fun y2 =>
 if (0 : Int) ≤ IntKind.i64.wrap ((↑y2.length : Int) - (1 : Int)) ∧ IntKind.i64.wrap ((↑y2.length : Int) - (1 : Int)) < (↑y2.length : Int) then
 if (0 : Int) ≤ (0 : Int) ∧ (0 : Int) < (↑y2.length : Int) then
 k (decide (IntKind.i64.wrap (((y2.getD (IntKind.i64.wrap ((↑y2.length : Int) - (1 : Int))).toNat (D.int 0)).fld (0 : Nat)).toInt - ((y2.getD (Int.toNat (0 : Int)) (D.int 0)).fld (0 : Nat)).toInt) < (400 : Int)))
 else
 none
 else
 none)))
theorem c_Z12_bind {R : Type} (x0 : List D) (k : Bool → Option R) : c_Z12 x0 k = (c_Z12 x0 some).bind k := by
 unfold c_Z12
 repeat' first|exact bnd_tail|exact bnd_none|exact bnd_leaf|apply bnd_ite|apply bnd_cond|apply bnd_sum|(apply bnd_bind;intro _)|intro _
def Z12 (x0 : List D) : Option (Bool) := c_Z12 x0 some
def e_Z12 : Ent := ⟨15, [.rd (.struct [.int .i64, .int .i64, .int .i64])], .bool, [.undef], fun _ ds k => dL (fun x0 ds => dE ((Z12 x0).bind (fun y => k [.B y])) ds) ds⟩
theorem q_Z12 (x0 : List D) : runFn (ocOf [e_Z9]) (olOf [e_Z11]) A 15 Try.f15 (Sh.mks e_Z12.sh [.L x0]).1 (fun v os => some (v, os)) = c_Z12 x0 (fun y => some ((e_Z12.res.mk [.B y]).1, (Sh.mks e_Z12.outs (e_Z12.res.mk [.B y]).2).1)) := by kernel_rfl
theorem e_Z12_ok : e_Z12.ok Try.prog A := by
 intro R ds k r h
 unfold e_Z12 at h
 obtain ⟨x0, d0, rfl, h0⟩ := dL_some h
 obtain ⟨rfl, hE⟩ := dE_some h0
 obtain ⟨y, hy, hk⟩ := bnd_some hE
 refine ⟨_, hk, fn_ok px (fx := ⟨Try.func15, by kernel_rfl, by kernel_rfl⟩) (entsOK_cons e_Z9_ok entsOK_nil) (lentsOK_cons e_Z11_ok lentsOK_nil) ?_⟩
 have hq := q_Z12 x0
 rw [c_Z12_bind] at hq
 rw [show c_Z12 x0 some = some y from hy] at hq
 exact hq

/-!-/
def c_Z13 {R : Type} (x0 : List D) (k : List D → Option R) : Option R :=
 if (1 : Nat) ≤ x0.length then
 if ([] : List D).length + x0.length ≤ (4294967296 : Nat) then
 k ([] ++ x0)
 else
 none
 else
 bothK (
 if ([] : List D).length + x0.length ≤ (4294967296 : Nat) then
 k ([] ++ x0)
 else
 none) (
 k [])
theorem c_Z13_imp {R : Type} (x0 : List D) (k : List D → Option R) (y : List D) : c_Z13 x0 some = some y → c_Z13 x0 k = k y := by
 unfold c_Z13
 repeat' first
  | exact imp_leaf
  | exact imp_none
  | exact imp_tail
  | apply imp_both
  | apply imp_ite
  | apply imp_cond
  | apply imp_sum
  | (apply imp_bind; intro _)
  | intro _
def Z13 (x0 : List D) : Option (List D) := c_Z13 x0 some
def e_Z13 : Ent := ⟨76, [.rd (.struct [.int .i64, .int .i64, .int .i64])], .own (.struct [.int .i64, .int .i64, .int .i64]), [.undef], fun _ ds k => dL (fun x0 ds => dE ((Z13 x0).bind (fun y => k [.L y])) ds) ds⟩
theorem q_Z13 (x0 : List D) : runFn (ocOf []) (olOf []) A 76 Try.f76 (Sh.mks e_Z13.sh [.L x0]).1 (fun v os => some (v, os)) = c_Z13 x0 (fun y => some ((e_Z13.res.mk [.L y]).1, (Sh.mks e_Z13.outs (e_Z13.res.mk [.L y]).2).1)) := by kernel_rfl
theorem e_Z13_ok : e_Z13.ok Try.prog A := by
 intro R ds k r h
 unfold e_Z13 at h
 obtain ⟨x0, d0, rfl, h0⟩ := dL_some h
 obtain ⟨rfl, hE⟩ := dE_some h0
 obtain ⟨y, hy, hk⟩ := bnd_some hE
 refine ⟨_, hk, fn_ok px (fx := ⟨Try.func76, by kernel_rfl, by kernel_rfl⟩) entsOK_nil lentsOK_nil ?_⟩
 have hq := q_Z13 x0
 rw [c_Z13_imp x0 _ y hy] at hq
 exact hq

/-!-/
def c_Z14 {R : Type} (F : Int → Int → Int → Int → List D → Option (List D)) (x0 : Int) (x1 : Int) (x2 : Int) (x3 : Int) (x4 : List D) (k : List D → Option R) : Option R :=
 bif decide (x3 < x2) then
 if 0 ≤ x3 ∧ x3 < (↑x4.length : Int) then
 if x3.toNat + 1 ≤ x4.length then
 if x3.toNat + 1 ≤ x4.length then
 if 0 ≤ x3 ∧ x3 < (↑x4.length : Int) then
 if x3.toNat + 1 ≤ x4.length then
 if x3.toNat + 1 ≤ x4.length then
 if 0 ≤ x3 ∧ x3 < (↑(x4.set x3.toNat (D.node [D.int ((x4.getD x3.toNat (D.int 0)).fld (0 : Nat)).toInt, D.int (IntKind.i64.wrap (((x4.getD x3.toNat (D.int 0)).fld (1 : Nat)).toInt + x0)), D.int ((x4.getD x3.toNat (D.int 0)).fld (2 : Nat)).toInt])).length : Int) then
 if x3.toNat + 1 ≤ (x4.set x3.toNat (D.node [D.int ((x4.getD x3.toNat (D.int 0)).fld (0 : Nat)).toInt, D.int (IntKind.i64.wrap (((x4.getD x3.toNat (D.int 0)).fld (1 : Nat)).toInt + x0)), D.int ((x4.getD x3.toNat (D.int 0)).fld (2 : Nat)).toInt])).length then
 if x3.toNat + 1 ≤ (x4.set x3.toNat (D.node [D.int ((x4.getD x3.toNat (D.int 0)).fld (0 : Nat)).toInt, D.int (IntKind.i64.wrap (((x4.getD x3.toNat (D.int 0)).fld (1 : Nat)).toInt + x0)), D.int ((x4.getD x3.toNat (D.int 0)).fld (2 : Nat)).toInt])).length then
 if 0 ≤ x3 ∧ x3 < (↑(x4.set x3.toNat (D.node [D.int ((x4.getD x3.toNat (D.int 0)).fld (0 : Nat)).toInt, D.int (IntKind.i64.wrap (((x4.getD x3.toNat (D.int 0)).fld (1 : Nat)).toInt + x0)), D.int ((x4.getD x3.toNat (D.int 0)).fld (2 : Nat)).toInt])).length : Int) then
 if x3.toNat + 1 ≤ (x4.set x3.toNat (D.node [D.int ((x4.getD x3.toNat (D.int 0)).fld (0 : Nat)).toInt, D.int (IntKind.i64.wrap (((x4.getD x3.toNat (D.int 0)).fld (1 : Nat)).toInt + x0)), D.int ((x4.getD x3.toNat (D.int 0)).fld (2 : Nat)).toInt])).length then
 if x3.toNat + 1 ≤ (x4.set x3.toNat (D.node [D.int ((x4.getD x3.toNat (D.int 0)).fld (0 : Nat)).toInt, D.int (IntKind.i64.wrap (((x4.getD x3.toNat (D.int 0)).fld (1 : Nat)).toInt + x0)), D.int ((x4.getD x3.toNat (D.int 0)).fld (2 : Nat)).toInt])).length then
 (F x0 x1 x2 (IntKind.i64.wrap (x3 + 1)) ((x4.set x3.toNat (D.node [D.int ((x4.getD x3.toNat (D.int 0)).fld (0 : Nat)).toInt, D.int (IntKind.i64.wrap (((x4.getD x3.toNat (D.int 0)).fld (1 : Nat)).toInt + x0)), D.int ((x4.getD x3.toNat (D.int 0)).fld (2 : Nat)).toInt])).set x3.toNat (D.node [D.int (((x4.set x3.toNat (D.node [D.int ((x4.getD x3.toNat (D.int 0)).fld (0 : Nat)).toInt, D.int (IntKind.i64.wrap (((x4.getD x3.toNat (D.int 0)).fld (1 : Nat)).toInt + x0)), D.int ((x4.getD x3.toNat (D.int 0)).fld (2 : Nat)).toInt])).getD x3.toNat (D.int 0)).fld (0 : Nat)).toInt, D.int (((x4.set x3.toNat (D.node [D.int ((x4.getD x3.toNat (D.int 0)).fld (0 : Nat)).toInt, D.int (IntKind.i64.wrap (((x4.getD x3.toNat (D.int 0)).fld (1 : Nat)).toInt + x0)), D.int ((x4.getD x3.toNat (D.int 0)).fld (2 : Nat)).toInt])).getD x3.toNat (D.int 0)).fld (1 : Nat)).toInt, D.int (IntKind.i64.wrap ((((x4.set x3.toNat (D.node [D.int ((x4.getD x3.toNat (D.int 0)).fld (0 : Nat)).toInt, D.int (IntKind.i64.wrap (((x4.getD x3.toNat (D.int 0)).fld (1 : Nat)).toInt + x0)), D.int ((x4.getD x3.toNat (D.int 0)).fld (2 : Nat)).toInt])).getD x3.toNat (D.int 0)).fld (2 : Nat)).toInt + x1))]))).bind k
 else
 none
 else
 none
 else
 none
 else
 none
 else
 none
 else
 none
 else
 none
 else
 none
 else
 none
 else
 none
 else
 none
 else
 none
 else
 k x4
theorem c_Z14_bind {R : Type} (F : Int → Int → Int → Int → List D → Option (List D)) (x0 : Int) (x1 : Int) (x2 : Int) (x3 : Int) (x4 : List D) (k : List D → Option R) : c_Z14 F x0 x1 x2 x3 x4 k = (c_Z14 F x0 x1 x2 x3 x4 some).bind k := by
 unfold c_Z14
 repeat' first|exact bnd_tail|exact bnd_none|exact bnd_leaf|apply bnd_ite|apply bnd_cond|apply bnd_sum|(apply bnd_bind;intro _)|intro _
def n_Z14 : Nat → Int → Int → Int → Int → List D → Option (List D)
 | 0, _, _, _, _, _ => none
 | n + 1, x0, x1, x2, x3, x4 => c_Z14 (n_Z14 n) x0 x1 x2 x3 x4 some
noncomputable def Z14 (x0 : Int) (x1 : Int) (x2 : Int) (x3 : Int) (x4 : List D) : Option (List D) := ev (fun n => n_Z14 n x0 x1 x2 x3 x4)
def m_Z14 (F : Int → Int → Int → Int → List D → Option (List D)) : Lent := ⟨5, ⟨(.undef :: .int .i64 :: .int .i64 :: uu 5 (.full 1000 [] (.struct [.int .i64, .int .i64, .int .i64]) :: uu 17 (.int .i64 :: .int .i64 :: uu 25 ([])))), [(1000, .own (.struct [.int .i64, .int .i64, .int .i64]))]⟩, [(.exit 0, ⟨(uu 8 (.full 1000 [] (.struct [.int .i64, .int .i64, .int .i64]) :: uu 44 ([]))), [(1000, .own (.struct [.int .i64, .int .i64, .int .i64]))]⟩)], fun _ ds k => dI (fun x0 ds => dI (fun x1 ds => dI (fun x2 ds => dI (fun x3 ds => dL (fun x4 ds => dE ((F x0 x1 x2 x3 x4).bind (fun y => k 0 [.L y])) ds) ds) ds) ds) ds) ds⟩
theorem q_Z14 (F : Int → Int → Int → Int → List D → Option (List D)) (x0 : Int) (x1 : Int) (x2 : Int) (x3 : Int) (x4 : List D) : runLoop (ocOf []) (olOf [m_Z14 F]) A 13 (codeAt (bodyOf Try.f13) 5) ((m_Z14 F).sh.mk' [.I x0, .I x1, .I x2, .I x3, .L x4]) (fun e σ' => some (e, σ')) = c_Z14 F x0 x1 x2 x3 x4 (fun y => some (.exit 0, SSt.mk' ⟨(uu 8 (.full 1000 [] (.struct [.int .i64, .int .i64, .int .i64]) :: uu 44 ([]))), [(1000, .own (.struct [.int .i64, .int .i64, .int .i64]))]⟩ [.L y])) := by kernel_rfl
theorem m_Z14_ok : ∀ n, (m_Z14 (n_Z14 n)).ok Try.prog (codeAt (bodyOf Try.f13) 5) := by
 intro n
 induction n with
 | zero =>
  intro R ds k r h
  unfold m_Z14 at h
  obtain ⟨x0, d0, rfl, h0⟩ := dI_some h
  obtain ⟨x1, d1, rfl, h1⟩ := dI_some h0
  obtain ⟨x2, d2, rfl, h2⟩ := dI_some h1
  obtain ⟨x3, d3, rfl, h3⟩ := dI_some h2
  obtain ⟨x4, d4, rfl, h4⟩ := dL_some h3
  obtain ⟨rfl, hE⟩ := dE_some h4
  obtain ⟨y, hy, hk⟩ := bnd_some hE
  cases hy
 | succ n ih =>
  intro R ds k r h
  unfold m_Z14 at h
  obtain ⟨x0, d0, rfl, h0⟩ := dI_some h
  obtain ⟨x1, d1, rfl, h1⟩ := dI_some h0
  obtain ⟨x2, d2, rfl, h2⟩ := dI_some h1
  obtain ⟨x3, d3, rfl, h3⟩ := dI_some h2
  obtain ⟨x4, d4, rfl, h4⟩ := dL_some h3
  obtain ⟨rfl, hE⟩ := dE_some h4
  obtain ⟨y, hy, hk⟩ := bnd_some hE
  have hq := q_Z14 (n_Z14 n) x0 x1 x2 x3 x4
  rw [c_Z14_bind] at hq
  rw [show c_Z14 (n_Z14 n) x0 x1 x2 x3 x4 some = some y from hy] at hq
  refine ⟨0, _, _, _, hk, rfl, loop_ok px (fx := ⟨Try.func13, by kernel_rfl, by kernel_rfl⟩) entsOK_nil (lentsOK_cons ih lentsOK_nil) (by kernel_rfl) ?_⟩
  exact hq
noncomputable def e_Z14 : Lent := m_Z14 (Z14)
theorem e_Z14_ok : (e_Z14).ok Try.prog (codeAt (bodyOf Try.f13) 5) := by
 intro R ds k r h
 unfold e_Z14 m_Z14 at h
 obtain ⟨x0, d0, rfl, h0⟩ := dI_some h
 obtain ⟨x1, d1, rfl, h1⟩ := dI_some h0
 obtain ⟨x2, d2, rfl, h2⟩ := dI_some h1
 obtain ⟨x3, d3, rfl, h3⟩ := dI_some h2
 obtain ⟨x4, d4, rfl, h4⟩ := dL_some h3
 obtain ⟨rfl, hE⟩ := dE_some h4
 obtain ⟨y, hy, hk⟩ := bnd_some hE
 obtain ⟨n, hn⟩ := ev_some hy
 exact m_Z14_ok n R _ k r (show (n_Z14 n x0 x1 x2 x3 x4).bind _ = _ by rw [hn]; exact hk)

/-!-/
def c_Z15 {R : Type} (x0 : List D) (x1 : Int) (x2 : Int) (k : List D × Bool → Option R) : Option R :=
 (Z12 x0).bind (fun y0 =>
 bif !y0 then
 k ([], Bool.false)
 else
 (Z9 x1 (-60000 : Int) (60000 : Int)).bind (fun y1 =>
 bif !y1 then
 k ([], Bool.false)
 else
 (Z9 x2 (-1000 : Int) (1000 : Int)).bind (fun y2 =>
 bif !y2 then
 k ([], Bool.false)
 else
 (Z13 x0).bind (fun y3 =>
 (Z14 x1 x2 (↑y3.length : Int) (0 : Int) y3).bind (fun y4 =>
 (Z12 y4).bind (fun y5 =>
 bif !y5 then
 k ([], Bool.false)
 else
 k (y4, Bool.true)))))))
theorem c_Z15_bind {R : Type} (x0 : List D) (x1 : Int) (x2 : Int) (k : List D × Bool → Option R) : c_Z15 x0 x1 x2 k = (c_Z15 x0 x1 x2 some).bind k := by
 unfold c_Z15
 repeat' first|exact bnd_tail|exact bnd_none|exact bnd_leaf|apply bnd_ite|apply bnd_cond|apply bnd_sum|(apply bnd_bind;intro _)|intro _
def Z15 (x0 : List D) (x1 : Int) (x2 : Int) : Option (List D × Bool) := c_Z15 x0 x1 x2 some
def e_Z15 : Ent := ⟨13, [.rd (.struct [.int .i64, .int .i64, .int .i64]), .int .i64, .int .i64], .tup [.own (.struct [.int .i64, .int .i64, .int .i64]), .bool], [.undef, .undef, .undef], fun _ ds k => dL (fun x0 ds => dI (fun x1 ds => dI (fun x2 ds => dE ((Z15 x0 x1 x2).bind (fun y => k [.L y.1, .B y.2])) ds) ds) ds) ds⟩
theorem q_Z15 (x0 : List D) (x1 : Int) (x2 : Int) : runFn (ocOf [e_Z12, e_Z9, e_Z13]) (olOf [e_Z14]) A 13 Try.f13 (Sh.mks e_Z15.sh [.L x0, .I x1, .I x2]).1 (fun v os => some (v, os)) = c_Z15 x0 x1 x2 (fun y => some ((e_Z15.res.mk [.L y.1, .B y.2]).1, (Sh.mks e_Z15.outs (e_Z15.res.mk [.L y.1, .B y.2]).2).1)) := by kernel_rfl
theorem e_Z15_ok : e_Z15.ok Try.prog A := by
 intro R ds k r h
 unfold e_Z15 at h
 obtain ⟨x0, d0, rfl, h0⟩ := dL_some h
 obtain ⟨x1, d1, rfl, h1⟩ := dI_some h0
 obtain ⟨x2, d2, rfl, h2⟩ := dI_some h1
 obtain ⟨rfl, hE⟩ := dE_some h2
 obtain ⟨y, hy, hk⟩ := bnd_some hE
 refine ⟨_, hk, fn_ok px (fx := ⟨Try.func13, by kernel_rfl, by kernel_rfl⟩) (entsOK_cons e_Z12_ok (entsOK_cons e_Z9_ok (entsOK_cons e_Z13_ok entsOK_nil))) (lentsOK_cons e_Z14_ok lentsOK_nil) ?_⟩
 have hq := q_Z15 x0 x1 x2
 rw [c_Z15_bind] at hq
 rw [show c_Z15 x0 x1 x2 some = some y from hy] at hq
 exact hq

/-!-/
def c_Z16 {R : Type} (x0 : Int) (x1 : Int) (x2 : Int) (k : Bool → Option R) : Option R :=
 bif decide (x1 ≤ x0) then
 k (decide (x0 ≤ x2))
 else
 k Bool.false
theorem c_Z16_bind {R : Type} (x0 : Int) (x1 : Int) (x2 : Int) (k : Bool → Option R) : c_Z16 x0 x1 x2 k = (c_Z16 x0 x1 x2 some).bind k := by
 unfold c_Z16
 repeat' first|exact bnd_tail|exact bnd_none|exact bnd_leaf|apply bnd_ite|apply bnd_cond|apply bnd_sum|(apply bnd_bind;intro _)|intro _
def Z16 (x0 : Int) (x1 : Int) (x2 : Int) : Option (Bool) := c_Z16 x0 x1 x2 some
def e_Z16 : Ent := ⟨78, [.int .i64, .int .i64, .int .i64], .bool, [.undef, .undef, .undef], fun _ ds k => dI (fun x0 ds => dI (fun x1 ds => dI (fun x2 ds => dE ((Z16 x0 x1 x2).bind (fun y => k [.B y])) ds) ds) ds) ds⟩
theorem q_Z16 (x0 : Int) (x1 : Int) (x2 : Int) : runFn (ocOf []) (olOf []) A 78 Try.f78 (Sh.mks e_Z16.sh [.I x0, .I x1, .I x2]).1 (fun v os => some (v, os)) = c_Z16 x0 x1 x2 (fun y => some ((e_Z16.res.mk [.B y]).1, (Sh.mks e_Z16.outs (e_Z16.res.mk [.B y]).2).1)) := by kernel_rfl
theorem e_Z16_ok : e_Z16.ok Try.prog A := by
 intro R ds k r h
 unfold e_Z16 at h
 obtain ⟨x0, d0, rfl, h0⟩ := dI_some h
 obtain ⟨x1, d1, rfl, h1⟩ := dI_some h0
 obtain ⟨x2, d2, rfl, h2⟩ := dI_some h1
 obtain ⟨rfl, hE⟩ := dE_some h2
 obtain ⟨y, hy, hk⟩ := bnd_some hE
 refine ⟨_, hk, fn_ok px (fx := ⟨Try.func78, by kernel_rfl, by kernel_rfl⟩) entsOK_nil lentsOK_nil ?_⟩
 have hq := q_Z16 x0 x1 x2
 rw [c_Z16_bind] at hq
 rw [show c_Z16 x0 x1 x2 some = some y from hy] at hq
 exact hq

/-!-/
def c_Z17 {R : Type} (F : List D → Int → Int → Option ((List D × Bool × Int) ⊕ (List D × Int))) (x0 : List D) (x1 : Int) (x2 : Int) (k : (List D × Bool × Int) ⊕ (List D × Int) → Option R) : Option R :=
 bif decide (x2 < x1) then
 if 0 ≤ x2 ∧ x2 < (↑x0.length : Int) then
 (Z16 (((x0.getD x2.toNat (D.int 0)).fld (0 : Nat)).toInt) (-20000 : Int) (2100 : Int)).bind (fun y0 =>
 bif !y0 then
 k (.inl (x0, Bool.false, x1))
 else
 (Z16 (((x0.getD x2.toNat (D.int 0)).fld (1 : Nat)).toInt) (0 : Int) (60000 : Int)).bind (fun y1 =>
 bif !y1 then
 k (.inl (x0, Bool.false, x1))
 else
 (Z16 (((x0.getD x2.toNat (D.int 0)).fld (2 : Nat)).toInt) (0 : Int) (1000 : Int)).bind (fun y2 =>
 bif !y2 then
 k (.inl (x0, Bool.false, x1))
 else
 bif decide ((0 : Int) < x2) then
 if (0 : Int) ≤ IntKind.i64.wrap (x2 - 1) ∧ IntKind.i64.wrap (x2 - 1) < (↑x0.length : Int) then
 (Z16 (IntKind.i64.wrap (((x0.getD x2.toNat (D.int 0)).fld (0 : Nat)).toInt - ((x0.getD (IntKind.i64.wrap (x2 - 1)).toNat (D.int 0)).fld (0 : Nat)).toInt)) (1 : Int) (50 : Int)).bind (fun y3 =>
 bif !y3 then
 k (.inl (x0, Bool.false, x1))
 else
 (F x0 x1 (IntKind.i64.wrap (x2 + 1))).bind k)
 else
 none
 else
 (F x0 x1 (IntKind.i64.wrap (x2 + 1))).bind k)))
 else
 none
 else
 k (.inr (x0, x1))
theorem c_Z17_bind {R : Type} (F : List D → Int → Int → Option ((List D × Bool × Int) ⊕ (List D × Int))) (x0 : List D) (x1 : Int) (x2 : Int) (k : (List D × Bool × Int) ⊕ (List D × Int) → Option R) : c_Z17 F x0 x1 x2 k = (c_Z17 F x0 x1 x2 some).bind k := by
 unfold c_Z17
 repeat' first|exact bnd_tail|exact bnd_none|exact bnd_leaf|apply bnd_ite|apply bnd_cond|apply bnd_sum|(apply bnd_bind;intro _)|intro _
def n_Z17 : Nat → List D → Int → Int → Option ((List D × Bool × Int) ⊕ (List D × Int))
 | 0, _, _, _ => none
 | n + 1, x0, x1, x2 => c_Z17 (n_Z17 n) x0 x1 x2 some
noncomputable def Z17 (x0 : List D) (x1 : Int) (x2 : Int) : Option ((List D × Bool × Int) ⊕ (List D × Int)) := ev (fun n => n_Z17 n x0 x1 x2)
def m_Z17 (F : List D → Int → Int → Option ((List D × Bool × Int) ⊕ (List D × Int))) : Lent := ⟨5, ⟨(.rd (.struct [.int .i64, .int .i64, .int .i64]) :: .undef :: .undef :: .int .i64 :: .int .i64 :: uu 58 ([])), []⟩, [(.ret, ⟨(.rd (.struct [.int .i64, .int .i64, .int .i64]) :: .undef :: .bool :: .int .i64 :: uu 59 ([])), []⟩), (.exit 0, ⟨(.rd (.struct [.int .i64, .int .i64, .int .i64]) :: .undef :: .undef :: .int .i64 :: uu 59 ([])), []⟩)], fun _ ds k => dL (fun x0 ds => dI (fun x1 ds => dI (fun x2 ds => dE ((F x0 x1 x2).bind (Sum.elim (fun y => k 0 [.L y.1, .B y.2.1, .I y.2.2]) (fun y => k 1 [.L y.1, .I y.2]))) ds) ds) ds) ds⟩
theorem q_Z17 (F : List D → Int → Int → Option ((List D × Bool × Int) ⊕ (List D × Int))) (x0 : List D) (x1 : Int) (x2 : Int) : runLoop (ocOf [e_Z16]) (olOf [m_Z17 F]) A 77 (codeAt (bodyOf Try.f77) 5) ((m_Z17 F).sh.mk' [.L x0, .I x1, .I x2]) (fun e σ' => some (e, σ')) = c_Z17 F x0 x1 x2 (Sum.elim (fun y => some (.ret, SSt.mk' ⟨(.rd (.struct [.int .i64, .int .i64, .int .i64]) :: .undef :: .bool :: .int .i64 :: uu 59 ([])), []⟩ [.L y.1, .B y.2.1, .I y.2.2])) (fun y => some (.exit 0, SSt.mk' ⟨(.rd (.struct [.int .i64, .int .i64, .int .i64]) :: .undef :: .undef :: .int .i64 :: uu 59 ([])), []⟩ [.L y.1, .I y.2]))) := by kernel_rfl
theorem m_Z17_ok : ∀ n, (m_Z17 (n_Z17 n)).ok Try.prog (codeAt (bodyOf Try.f77) 5) := by
 intro n
 induction n with
 | zero =>
  intro R ds k r h
  unfold m_Z17 at h
  obtain ⟨x0, d0, rfl, h0⟩ := dL_some h
  obtain ⟨x1, d1, rfl, h1⟩ := dI_some h0
  obtain ⟨x2, d2, rfl, h2⟩ := dI_some h1
  obtain ⟨rfl, hE⟩ := dE_some h2
  obtain ⟨y, hy, hk⟩ := bnd_some hE
  cases hy
 | succ n ih =>
  intro R ds k r h
  unfold m_Z17 at h
  obtain ⟨x0, d0, rfl, h0⟩ := dL_some h
  obtain ⟨x1, d1, rfl, h1⟩ := dI_some h0
  obtain ⟨x2, d2, rfl, h2⟩ := dI_some h1
  obtain ⟨rfl, hE⟩ := dE_some h2
  obtain ⟨y, hy, hk⟩ := bnd_some hE
  have hq := q_Z17 (n_Z17 n) x0 x1 x2
  rw [c_Z17_bind] at hq
  rw [show c_Z17 (n_Z17 n) x0 x1 x2 some = some y from hy] at hq
  cases y with
  | inl y =>
   refine ⟨0, _, _, _, hk, rfl, loop_ok px (fx := ⟨Try.func77, by kernel_rfl, by kernel_rfl⟩) (entsOK_cons e_Z16_ok entsOK_nil) (lentsOK_cons ih lentsOK_nil) (by kernel_rfl) ?_⟩
   exact hq
  | inr y =>
   refine ⟨1, _, _, _, hk, rfl, loop_ok px (fx := ⟨Try.func77, by kernel_rfl, by kernel_rfl⟩) (entsOK_cons e_Z16_ok entsOK_nil) (lentsOK_cons ih lentsOK_nil) (by kernel_rfl) ?_⟩
   exact hq
noncomputable def e_Z17 : Lent := m_Z17 (Z17)
theorem e_Z17_ok : (e_Z17).ok Try.prog (codeAt (bodyOf Try.f77) 5) := by
 intro R ds k r h
 unfold e_Z17 m_Z17 at h
 obtain ⟨x0, d0, rfl, h0⟩ := dL_some h
 obtain ⟨x1, d1, rfl, h1⟩ := dI_some h0
 obtain ⟨x2, d2, rfl, h2⟩ := dI_some h1
 obtain ⟨rfl, hE⟩ := dE_some h2
 obtain ⟨y, hy, hk⟩ := bnd_some hE
 obtain ⟨n, hn⟩ := ev_some hy
 exact m_Z17_ok n R _ k r (show (n_Z17 n x0 x1 x2).bind _ = _ by rw [hn]; exact hk)

/-!-/
def c_Z18 {R : Type} (x0 : List D) (k : Bool → Option R) : Option R :=
 (Z16 (↑x0.length : Int) (2 : Int) (40 : Int)).bind (fun y0 =>
 bif !y0 then
 k Bool.false
 else
 (Z17 x0 (↑x0.length : Int) (0 : Int)).bind (Sum.elim (fun y1 =>
 k y1.snd.fst) (fun y2 =>
 if (0 : Int) ≤ IntKind.i64.wrap (y2.snd - 1) ∧ IntKind.i64.wrap (y2.snd - 1) < (↑y2.fst.length : Int) then
 if (0 : Int) ≤ (0 : Int) ∧ (0 : Int) < (↑y2.fst.length : Int) then
 k (decide (IntKind.i64.wrap (((y2.fst.getD (IntKind.i64.wrap (y2.snd - 1)).toNat (D.int 0)).fld (0 : Nat)).toInt - ((y2.fst.getD (Int.toNat (0 : Int)) (D.int 0)).fld (0 : Nat)).toInt) < (400 : Int)))
 else
 none
 else
 none)))
theorem c_Z18_bind {R : Type} (x0 : List D) (k : Bool → Option R) : c_Z18 x0 k = (c_Z18 x0 some).bind k := by
 unfold c_Z18
 repeat' first|exact bnd_tail|exact bnd_none|exact bnd_leaf|apply bnd_ite|apply bnd_cond|apply bnd_sum|(apply bnd_bind;intro _)|intro _
def Z18 (x0 : List D) : Option (Bool) := c_Z18 x0 some
def e_Z18 : Ent := ⟨77, [.rd (.struct [.int .i64, .int .i64, .int .i64])], .bool, [.undef], fun _ ds k => dL (fun x0 ds => dE ((Z18 x0).bind (fun y => k [.B y])) ds) ds⟩
theorem q_Z18 (x0 : List D) : runFn (ocOf [e_Z16]) (olOf [e_Z17]) A 77 Try.f77 (Sh.mks e_Z18.sh [.L x0]).1 (fun v os => some (v, os)) = c_Z18 x0 (fun y => some ((e_Z18.res.mk [.B y]).1, (Sh.mks e_Z18.outs (e_Z18.res.mk [.B y]).2).1)) := by kernel_rfl
theorem e_Z18_ok : e_Z18.ok Try.prog A := by
 intro R ds k r h
 unfold e_Z18 at h
 obtain ⟨x0, d0, rfl, h0⟩ := dL_some h
 obtain ⟨rfl, hE⟩ := dE_some h0
 obtain ⟨y, hy, hk⟩ := bnd_some hE
 refine ⟨_, hk, fn_ok px (fx := ⟨Try.func77, by kernel_rfl, by kernel_rfl⟩) (entsOK_cons e_Z16_ok entsOK_nil) (lentsOK_cons e_Z17_ok lentsOK_nil) ?_⟩
 have hq := q_Z18 x0
 rw [c_Z18_bind] at hq
 rw [show c_Z18 x0 some = some y from hy] at hq
 exact hq

/-!-/
def c_Z19 {R : Type} (F : List D → Int → Int → Int → List D → Option (List D)) (x0 : List D) (x1 : Int) (x2 : Int) (x3 : Int) (x4 : List D) (k : List D → Option R) : Option R :=
 bif decide (x3 < (↑x0.length : Int)) then
 if 0 ≤ x3 ∧ x3 < (↑x0.length : Int) then
 if x4.length + [D.node [D.int ((x0.getD x3.toNat (D.int 0)).fld (0 : Nat)).toInt, D.int (IntKind.i64.wrap (((x0.getD x3.toNat (D.int 0)).fld (1 : Nat)).toInt + x1)), D.int (IntKind.i64.wrap (((x0.getD x3.toNat (D.int 0)).fld (2 : Nat)).toInt + x2))]].length ≤ (4294967296 : Nat) then
 (F x0 x1 x2 (IntKind.i64.wrap (x3 + 1)) (x4 ++ [D.node [D.int ((x0.getD x3.toNat (D.int 0)).fld (0 : Nat)).toInt, D.int (IntKind.i64.wrap (((x0.getD x3.toNat (D.int 0)).fld (1 : Nat)).toInt + x1)), D.int (IntKind.i64.wrap (((x0.getD x3.toNat (D.int 0)).fld (2 : Nat)).toInt + x2))]])).bind k
 else
 none
 else
 none
 else
 k x4
theorem c_Z19_bind {R : Type} (F : List D → Int → Int → Int → List D → Option (List D)) (x0 : List D) (x1 : Int) (x2 : Int) (x3 : Int) (x4 : List D) (k : List D → Option R) : c_Z19 F x0 x1 x2 x3 x4 k = (c_Z19 F x0 x1 x2 x3 x4 some).bind k := by
 unfold c_Z19
 repeat' first|exact bnd_tail|exact bnd_none|exact bnd_leaf|apply bnd_ite|apply bnd_cond|apply bnd_sum|(apply bnd_bind;intro _)|intro _
def n_Z19 : Nat → List D → Int → Int → Int → List D → Option (List D)
 | 0, _, _, _, _, _ => none
 | n + 1, x0, x1, x2, x3, x4 => c_Z19 (n_Z19 n) x0 x1 x2 x3 x4 some
noncomputable def Z19 (x0 : List D) (x1 : Int) (x2 : Int) (x3 : Int) (x4 : List D) : Option (List D) := ev (fun n => n_Z19 n x0 x1 x2 x3 x4)
def m_Z19 (F : List D → Int → Int → Int → List D → Option (List D)) : Lent := ⟨5, ⟨(.rd (.struct [.int .i64, .int .i64, .int .i64]) :: .int .i64 :: .int .i64 :: uu 5 (.full 1000 [] (.struct [.int .i64, .int .i64, .int .i64]) :: .int .i64 :: uu 45 ([]))), [(1000, .own (.struct [.int .i64, .int .i64, .int .i64]))]⟩, [(.exit 0, ⟨(uu 8 (.full 1000 [] (.struct [.int .i64, .int .i64, .int .i64]) :: uu 46 ([]))), [(1000, .own (.struct [.int .i64, .int .i64, .int .i64]))]⟩)], fun _ ds k => dL (fun x0 ds => dI (fun x1 ds => dI (fun x2 ds => dI (fun x3 ds => dL (fun x4 ds => dE ((F x0 x1 x2 x3 x4).bind (fun y => k 0 [.L y])) ds) ds) ds) ds) ds) ds⟩
theorem q_Z19 (F : List D → Int → Int → Int → List D → Option (List D)) (x0 : List D) (x1 : Int) (x2 : Int) (x3 : Int) (x4 : List D) : runLoop (ocOf []) (olOf [m_Z19 F]) A 14 (codeAt (bodyOf Try.f14) 5) ((m_Z19 F).sh.mk' [.L x0, .I x1, .I x2, .I x3, .L x4]) (fun e σ' => some (e, σ')) = c_Z19 F x0 x1 x2 x3 x4 (fun y => some (.exit 0, SSt.mk' ⟨(uu 8 (.full 1000 [] (.struct [.int .i64, .int .i64, .int .i64]) :: uu 46 ([]))), [(1000, .own (.struct [.int .i64, .int .i64, .int .i64]))]⟩ [.L y])) := by kernel_rfl
theorem m_Z19_ok : ∀ n, (m_Z19 (n_Z19 n)).ok Try.prog (codeAt (bodyOf Try.f14) 5) := by
 intro n
 induction n with
 | zero =>
  intro R ds k r h
  unfold m_Z19 at h
  obtain ⟨x0, d0, rfl, h0⟩ := dL_some h
  obtain ⟨x1, d1, rfl, h1⟩ := dI_some h0
  obtain ⟨x2, d2, rfl, h2⟩ := dI_some h1
  obtain ⟨x3, d3, rfl, h3⟩ := dI_some h2
  obtain ⟨x4, d4, rfl, h4⟩ := dL_some h3
  obtain ⟨rfl, hE⟩ := dE_some h4
  obtain ⟨y, hy, hk⟩ := bnd_some hE
  cases hy
 | succ n ih =>
  intro R ds k r h
  unfold m_Z19 at h
  obtain ⟨x0, d0, rfl, h0⟩ := dL_some h
  obtain ⟨x1, d1, rfl, h1⟩ := dI_some h0
  obtain ⟨x2, d2, rfl, h2⟩ := dI_some h1
  obtain ⟨x3, d3, rfl, h3⟩ := dI_some h2
  obtain ⟨x4, d4, rfl, h4⟩ := dL_some h3
  obtain ⟨rfl, hE⟩ := dE_some h4
  obtain ⟨y, hy, hk⟩ := bnd_some hE
  have hq := q_Z19 (n_Z19 n) x0 x1 x2 x3 x4
  rw [c_Z19_bind] at hq
  rw [show c_Z19 (n_Z19 n) x0 x1 x2 x3 x4 some = some y from hy] at hq
  refine ⟨0, _, _, _, hk, rfl, loop_ok px (fx := ⟨Try.func14, by kernel_rfl, by kernel_rfl⟩) entsOK_nil (lentsOK_cons ih lentsOK_nil) (by kernel_rfl) ?_⟩
  exact hq
noncomputable def e_Z19 : Lent := m_Z19 (Z19)
theorem e_Z19_ok : (e_Z19).ok Try.prog (codeAt (bodyOf Try.f14) 5) := by
 intro R ds k r h
 unfold e_Z19 m_Z19 at h
 obtain ⟨x0, d0, rfl, h0⟩ := dL_some h
 obtain ⟨x1, d1, rfl, h1⟩ := dI_some h0
 obtain ⟨x2, d2, rfl, h2⟩ := dI_some h1
 obtain ⟨x3, d3, rfl, h3⟩ := dI_some h2
 obtain ⟨x4, d4, rfl, h4⟩ := dL_some h3
 obtain ⟨rfl, hE⟩ := dE_some h4
 obtain ⟨y, hy, hk⟩ := bnd_some hE
 obtain ⟨n, hn⟩ := ev_some hy
 exact m_Z19_ok n R _ k r (show (n_Z19 n x0 x1 x2 x3 x4).bind _ = _ by rw [hn]; exact hk)

/-!-/
def c_Z20 {R : Type} (x0 : List D) (x1 : Int) (x2 : Int) (k : List D × Bool → Option R) : Option R :=
 (Z18 x0).bind (fun y0 =>
 bif !y0 then
 k ([], Bool.false)
 else
 (Z16 x1 (-60000 : Int) (60000 : Int)).bind (fun y1 =>
 bif !y1 then
 k ([], Bool.false)
 else
 (Z16 x2 (-1000 : Int) (1000 : Int)).bind (fun y2 =>
 bif !y2 then
 k ([], Bool.false)
 else
 (Z19 x0 x1 x2 (0 : Int) []).bind (fun y3 =>
 (Z18 y3).bind (fun y4 =>
 bif !y4 then
 k ([], Bool.false)
 else
 k (y3, Bool.true))))))
theorem c_Z20_bind {R : Type} (x0 : List D) (x1 : Int) (x2 : Int) (k : List D × Bool → Option R) : c_Z20 x0 x1 x2 k = (c_Z20 x0 x1 x2 some).bind k := by
 unfold c_Z20
 repeat' first|exact bnd_tail|exact bnd_none|exact bnd_leaf|apply bnd_ite|apply bnd_cond|apply bnd_sum|(apply bnd_bind;intro _)|intro _
def Z20 (x0 : List D) (x1 : Int) (x2 : Int) : Option (List D × Bool) := c_Z20 x0 x1 x2 some
def e_Z20 : Ent := ⟨14, [.rd (.struct [.int .i64, .int .i64, .int .i64]), .int .i64, .int .i64], .tup [.own (.struct [.int .i64, .int .i64, .int .i64]), .bool], [.undef, .undef, .undef], fun _ ds k => dL (fun x0 ds => dI (fun x1 ds => dI (fun x2 ds => dE ((Z20 x0 x1 x2).bind (fun y => k [.L y.1, .B y.2])) ds) ds) ds) ds⟩
theorem q_Z20 (x0 : List D) (x1 : Int) (x2 : Int) : runFn (ocOf [e_Z18, e_Z16]) (olOf [e_Z19]) A 14 Try.f14 (Sh.mks e_Z20.sh [.L x0, .I x1, .I x2]).1 (fun v os => some (v, os)) = c_Z20 x0 x1 x2 (fun y => some ((e_Z20.res.mk [.L y.1, .B y.2]).1, (Sh.mks e_Z20.outs (e_Z20.res.mk [.L y.1, .B y.2]).2).1)) := by kernel_rfl
theorem e_Z20_ok : e_Z20.ok Try.prog A := by
 intro R ds k r h
 unfold e_Z20 at h
 obtain ⟨x0, d0, rfl, h0⟩ := dL_some h
 obtain ⟨x1, d1, rfl, h1⟩ := dI_some h0
 obtain ⟨x2, d2, rfl, h2⟩ := dI_some h1
 obtain ⟨rfl, hE⟩ := dE_some h2
 obtain ⟨y, hy, hk⟩ := bnd_some hE
 refine ⟨_, hk, fn_ok px (fx := ⟨Try.func14, by kernel_rfl, by kernel_rfl⟩) (entsOK_cons e_Z18_ok (entsOK_cons e_Z16_ok entsOK_nil)) (lentsOK_cons e_Z19_ok lentsOK_nil) ?_⟩
 have hq := q_Z20 x0 x1 x2
 rw [c_Z20_bind] at hq
 rw [show c_Z20 x0 x1 x2 some = some y from hy] at hq
 exact hq

/-!-/
def c_Z21 {R : Type} (x0 : List D) (k : Bool → Option R) : Option R :=
 (Z18 x0).bind (fun y0 =>
 k y0)
theorem c_Z21_bind {R : Type} (x0 : List D) (k : Bool → Option R) : c_Z21 x0 k = (c_Z21 x0 some).bind k := by
 unfold c_Z21
 repeat' first|exact bnd_tail|exact bnd_none|exact bnd_leaf|apply bnd_ite|apply bnd_cond|apply bnd_sum|(apply bnd_bind;intro _)|intro _
def Z21 (x0 : List D) : Option (Bool) := c_Z21 x0 some
def e_Z21 : Ent := ⟨16, [.rd (.struct [.int .i64, .int .i64, .int .i64])], .bool, [.undef], fun _ ds k => dL (fun x0 ds => dE ((Z21 x0).bind (fun y => k [.B y])) ds) ds⟩
theorem q_Z21 (x0 : List D) : runFn (ocOf [e_Z18]) (olOf []) A 16 Try.f16 (Sh.mks e_Z21.sh [.L x0]).1 (fun v os => some (v, os)) = c_Z21 x0 (fun y => some ((e_Z21.res.mk [.B y]).1, (Sh.mks e_Z21.outs (e_Z21.res.mk [.B y]).2).1)) := by kernel_rfl
theorem e_Z21_ok : e_Z21.ok Try.prog A := by
 intro R ds k r h
 unfold e_Z21 at h
 obtain ⟨x0, d0, rfl, h0⟩ := dL_some h
 obtain ⟨rfl, hE⟩ := dE_some h0
 obtain ⟨y, hy, hk⟩ := bnd_some hE
 refine ⟨_, hk, fn_ok px (fx := ⟨Try.func16, by kernel_rfl, by kernel_rfl⟩) (entsOK_cons e_Z18_ok entsOK_nil) lentsOK_nil ?_⟩
 have hq := q_Z21 x0
 rw [c_Z21_bind] at hq
 rw [show c_Z21 x0 some = some y from hy] at hq
 exact hq

/-!-/
def c_Z22 {R : Type} (x0 : List D) (k : Int × Int → Option R) : Option R :=
 if (0 : Int) ≤ (0 : Int) ∧ (0 : Int) < (↑x0.length : Int) then
 if (0 : Int) ≤ IntKind.i64.wrap ((↑x0.length : Int) - (1 : Int)) ∧ IntKind.i64.wrap ((↑x0.length : Int) - (1 : Int)) < (↑x0.length : Int) then
 k (((x0.getD (Int.toNat (0 : Int)) (D.int 0)).fld (0 : Nat)).toInt, ((x0.getD (IntKind.i64.wrap ((↑x0.length : Int) - (1 : Int))).toNat (D.int 0)).fld (0 : Nat)).toInt)
 else
 none
 else
 none
theorem c_Z22_bind {R : Type} (x0 : List D) (k : Int × Int → Option R) : c_Z22 x0 k = (c_Z22 x0 some).bind k := by
 unfold c_Z22
 repeat' first|exact bnd_tail|exact bnd_none|exact bnd_leaf|apply bnd_ite|apply bnd_cond|apply bnd_sum|(apply bnd_bind;intro _)|intro _
def Z22 (x0 : List D) : Option (Int × Int) := c_Z22 x0 some
def e_Z22 : Ent := ⟨80, [.rd (.struct [.int .i64, .int .i64, .int .i64])], .tup [.int .i64, .int .i64], [.undef], fun _ ds k => dL (fun x0 ds => dE ((Z22 x0).bind (fun y => k [.I y.1, .I y.2])) ds) ds⟩
theorem q_Z22 (x0 : List D) : runFn (ocOf []) (olOf []) A 80 Try.f80 (Sh.mks e_Z22.sh [.L x0]).1 (fun v os => some (v, os)) = c_Z22 x0 (fun y => some ((e_Z22.res.mk [.I y.1, .I y.2]).1, (Sh.mks e_Z22.outs (e_Z22.res.mk [.I y.1, .I y.2]).2).1)) := by kernel_rfl
theorem e_Z22_ok : e_Z22.ok Try.prog A := by
 intro R ds k r h
 unfold e_Z22 at h
 obtain ⟨x0, d0, rfl, h0⟩ := dL_some h
 obtain ⟨rfl, hE⟩ := dE_some h0
 obtain ⟨y, hy, hk⟩ := bnd_some hE
 refine ⟨_, hk, fn_ok px (fx := ⟨Try.func80, by kernel_rfl, by kernel_rfl⟩) entsOK_nil lentsOK_nil ?_⟩
 have hq := q_Z22 x0
 rw [c_Z22_bind] at hq
 rw [show c_Z22 x0 some = some y from hy] at hq
 exact hq

/-!-/
def c_Z23 {R : Type} (F : List D → Int → Int → Option (List D × Int × Int)) (x0 : List D) (x1 : Int) (x2 : Int) (k : List D × Int × Int → Option R) : Option R :=
 if 0 ≤ x2 ∧ x2 < (↑x0.length : Int) then
 bif decide (((x0.getD x2.toNat (D.int 0)).fld (0 : Nat)).toInt < x1) then
 (F x0 x1 (IntKind.i64.wrap (x2 + 1))).bind k
 else
 k (x0, x1, x2)
 else
 none
theorem c_Z23_bind {R : Type} (F : List D → Int → Int → Option (List D × Int × Int)) (x0 : List D) (x1 : Int) (x2 : Int) (k : List D × Int × Int → Option R) : c_Z23 F x0 x1 x2 k = (c_Z23 F x0 x1 x2 some).bind k := by
 unfold c_Z23
 repeat' first|exact bnd_tail|exact bnd_none|exact bnd_leaf|apply bnd_ite|apply bnd_cond|apply bnd_sum|(apply bnd_bind;intro _)|intro _
def n_Z23 : Nat → List D → Int → Int → Option (List D × Int × Int)
 | 0, _, _, _ => none
 | n + 1, x0, x1, x2 => c_Z23 (n_Z23 n) x0 x1 x2 some
noncomputable def Z23 (x0 : List D) (x1 : Int) (x2 : Int) : Option (List D × Int × Int) := ev (fun n => n_Z23 n x0 x1 x2)
def m_Z23 (F : List D → Int → Int → Option (List D × Int × Int)) : Lent := ⟨2, ⟨(.rd (.struct [.int .i64, .int .i64, .int .i64]) :: .int .i64 :: uu 4 (.int .i64 :: uu 55 ([]))), []⟩, [(.exit 0, ⟨(.rd (.struct [.int .i64, .int .i64, .int .i64]) :: .int .i64 :: uu 4 (.int .i64 :: uu 55 ([]))), []⟩)], fun _ ds k => dL (fun x0 ds => dI (fun x1 ds => dI (fun x2 ds => dE ((F x0 x1 x2).bind (fun y => k 0 [.L y.1, .I y.2.1, .I y.2.2])) ds) ds) ds) ds⟩
theorem q_Z23 (F : List D → Int → Int → Option (List D × Int × Int)) (x0 : List D) (x1 : Int) (x2 : Int) : runLoop (ocOf []) (olOf [m_Z23 F]) A 81 (codeAt (bodyOf Try.f81) 2) ((m_Z23 F).sh.mk' [.L x0, .I x1, .I x2]) (fun e σ' => some (e, σ')) = c_Z23 F x0 x1 x2 (fun y => some (.exit 0, SSt.mk' ⟨(.rd (.struct [.int .i64, .int .i64, .int .i64]) :: .int .i64 :: uu 4 (.int .i64 :: uu 55 ([]))), []⟩ [.L y.1, .I y.2.1, .I y.2.2])) := by kernel_rfl
theorem m_Z23_ok : ∀ n, (m_Z23 (n_Z23 n)).ok Try.prog (codeAt (bodyOf Try.f81) 2) := by
 intro n
 induction n with
 | zero =>
  intro R ds k r h
  unfold m_Z23 at h
  obtain ⟨x0, d0, rfl, h0⟩ := dL_some h
  obtain ⟨x1, d1, rfl, h1⟩ := dI_some h0
  obtain ⟨x2, d2, rfl, h2⟩ := dI_some h1
  obtain ⟨rfl, hE⟩ := dE_some h2
  obtain ⟨y, hy, hk⟩ := bnd_some hE
  cases hy
 | succ n ih =>
  intro R ds k r h
  unfold m_Z23 at h
  obtain ⟨x0, d0, rfl, h0⟩ := dL_some h
  obtain ⟨x1, d1, rfl, h1⟩ := dI_some h0
  obtain ⟨x2, d2, rfl, h2⟩ := dI_some h1
  obtain ⟨rfl, hE⟩ := dE_some h2
  obtain ⟨y, hy, hk⟩ := bnd_some hE
  have hq := q_Z23 (n_Z23 n) x0 x1 x2
  rw [c_Z23_bind] at hq
  rw [show c_Z23 (n_Z23 n) x0 x1 x2 some = some y from hy] at hq
  refine ⟨0, _, _, _, hk, rfl, loop_ok px (fx := ⟨Try.func81, by kernel_rfl, by kernel_rfl⟩) entsOK_nil (lentsOK_cons ih lentsOK_nil) (by kernel_rfl) ?_⟩
  exact hq
noncomputable def e_Z23 : Lent := m_Z23 (Z23)
theorem e_Z23_ok : (e_Z23).ok Try.prog (codeAt (bodyOf Try.f81) 2) := by
 intro R ds k r h
 unfold e_Z23 m_Z23 at h
 obtain ⟨x0, d0, rfl, h0⟩ := dL_some h
 obtain ⟨x1, d1, rfl, h1⟩ := dI_some h0
 obtain ⟨x2, d2, rfl, h2⟩ := dI_some h1
 obtain ⟨rfl, hE⟩ := dE_some h2
 obtain ⟨y, hy, hk⟩ := bnd_some hE
 obtain ⟨n, hn⟩ := ev_some hy
 exact m_Z23_ok n R _ k r (show (n_Z23 n x0 x1 x2).bind _ = _ by rw [hn]; exact hk)

/-!-/
def c_Z24 {R : Type} (F : Int → Int → Option (Int)) (x0 : Int) (x1 : Int) (k : Int → Option R) : Option R :=
 bif decide (x0 < (0 : Int)) then
 (F (IntKind.i64.wrap ((0 : Int) - x0)) x1).bind (fun y0 =>
 k (IntKind.i64.wrap ((0 : Int) - y0)))
 else
 if IntKind.i64.wrap ((2 : Int) * x1) ≠ (0 : Int) then
 k (IntKind.i64.wrap ((IntKind.i64.wrap (IntKind.i64.wrap ((2 : Int) * x0) + x1)).tdiv (IntKind.i64.wrap ((2 : Int) * x1))))
 else
 none
theorem c_Z24_bind {R : Type} (F : Int → Int → Option (Int)) (x0 : Int) (x1 : Int) (k : Int → Option R) : c_Z24 F x0 x1 k = (c_Z24 F x0 x1 some).bind k := by
 unfold c_Z24
 repeat' first|exact bnd_tail|exact bnd_none|exact bnd_leaf|apply bnd_ite|apply bnd_cond|apply bnd_sum|(apply bnd_bind;intro _)|intro _
def n_Z24 : Nat → Int → Int → Option (Int)
 | 0, _, _ => none
 | n + 1, x0, x1 => c_Z24 (n_Z24 n) x0 x1 some
noncomputable def Z24 (x0 : Int) (x1 : Int) : Option (Int) := ev (fun n => n_Z24 n x0 x1)
def m_Z24 (F : Int → Int → Option (Int)) : Ent := ⟨148, [.int .i64, .int .i64], .int .i64, [.undef, .undef], fun _ ds k => dI (fun x0 ds => dI (fun x1 ds => dE ((F x0 x1).bind (fun y => k [.I y])) ds) ds) ds⟩
theorem q_Z24 (F : Int → Int → Option (Int)) (x0 : Int) (x1 : Int) : runFn (ocOf [m_Z24 F]) (olOf []) A 148 Try.f148 (Sh.mks (m_Z24 F).sh [.I x0, .I x1]).1 (fun v os => some (v, os)) = c_Z24 F x0 x1 (fun y => some (((m_Z24 F).res.mk [.I y]).1, (Sh.mks (m_Z24 F).outs ((m_Z24 F).res.mk [.I y]).2).1)) := by kernel_rfl
theorem m_Z24_ok : ∀ n, (m_Z24 (n_Z24 n)).ok Try.prog A := by
 intro n
 induction n with
 | zero =>
  intro R ds k r h
  unfold m_Z24 at h
  obtain ⟨x0, d0, rfl, h0⟩ := dI_some h
  obtain ⟨x1, d1, rfl, h1⟩ := dI_some h0
  obtain ⟨rfl, hE⟩ := dE_some h1
  obtain ⟨y, hy, hk⟩ := bnd_some hE
  cases hy
 | succ n ih =>
  intro R ds k r h
  unfold m_Z24 at h
  obtain ⟨x0, d0, rfl, h0⟩ := dI_some h
  obtain ⟨x1, d1, rfl, h1⟩ := dI_some h0
  obtain ⟨rfl, hE⟩ := dE_some h1
  obtain ⟨y, hy, hk⟩ := bnd_some hE
  have hme := ih
  refine ⟨_, hk, fn_ok px (fx := ⟨Try.func148, by kernel_rfl, by kernel_rfl⟩) (entsOK_cons (hme) entsOK_nil) lentsOK_nil ?_⟩
  have hq := q_Z24 (n_Z24 n) x0 x1
  rw [c_Z24_bind] at hq
  rw [show c_Z24 (n_Z24 n) x0 x1 some = some y from hy] at hq
  exact hq
def e_Z24 : Ent := m_Z24 Z24
theorem e_Z24_ok : e_Z24.ok Try.prog A := by
 intro R ds k r h
 unfold e_Z24 m_Z24 at h
 obtain ⟨x0, d0, rfl, h0⟩ := dI_some h
 obtain ⟨x1, d1, rfl, h1⟩ := dI_some h0
 obtain ⟨rfl, hE⟩ := dE_some h1
 obtain ⟨y, hy, hk⟩ := bnd_some hE
 obtain ⟨n, hn⟩ := ev_some hy
 exact m_Z24_ok n R _ k r (show (n_Z24 n x0 x1).bind _ = _ by rw [hn]; exact hk)

/-!-/
def c_Z25 {R : Type} (x0 : List D) (x1 : Int) (k : Int × Int → Option R) : Option R :=
 (Z23 x0 x1 (1 : Int)).bind (fun y0 =>
 if (0 : Int) ≤ IntKind.i64.wrap (y0.snd.snd - 1) ∧ IntKind.i64.wrap (y0.snd.snd - 1) < (↑y0.fst.length : Int) then
 if 0 ≤ y0.snd.snd ∧ y0.snd.snd < (↑y0.fst.length : Int) then
 (Z24 (IntKind.i64.wrap (IntKind.i64.wrap (((y0.fst.getD y0.snd.snd.toNat (D.int 0)).fld (1 : Nat)).toInt - ((y0.fst.getD (IntKind.i64.wrap (y0.snd.snd - 1)).toNat (D.int 0)).fld (1 : Nat)).toInt) * IntKind.i64.wrap (y0.snd.fst - ((y0.fst.getD (IntKind.i64.wrap (y0.snd.snd - 1)).toNat (D.int 0)).fld (0 : Nat)).toInt))) (IntKind.i64.wrap (((y0.fst.getD y0.snd.snd.toNat (D.int 0)).fld (0 : Nat)).toInt - ((y0.fst.getD (IntKind.i64.wrap (y0.snd.snd - 1)).toNat (D.int 0)).fld (0 : Nat)).toInt))).bind (fun y1 =>
 (Z24 (IntKind.i64.wrap (IntKind.i64.wrap (((y0.fst.getD y0.snd.snd.toNat (D.int 0)).fld (2 : Nat)).toInt - ((y0.fst.getD (IntKind.i64.wrap (y0.snd.snd - 1)).toNat (D.int 0)).fld (2 : Nat)).toInt) * IntKind.i64.wrap (y0.snd.fst - ((y0.fst.getD (IntKind.i64.wrap (y0.snd.snd - 1)).toNat (D.int 0)).fld (0 : Nat)).toInt))) (IntKind.i64.wrap (((y0.fst.getD y0.snd.snd.toNat (D.int 0)).fld (0 : Nat)).toInt - ((y0.fst.getD (IntKind.i64.wrap (y0.snd.snd - 1)).toNat (D.int 0)).fld (0 : Nat)).toInt))).bind (fun y2 =>
 k (IntKind.i64.wrap (((y0.fst.getD (IntKind.i64.wrap (y0.snd.snd - 1)).toNat (D.int 0)).fld (1 : Nat)).toInt + y1), IntKind.i64.wrap (((y0.fst.getD (IntKind.i64.wrap (y0.snd.snd - 1)).toNat (D.int 0)).fld (2 : Nat)).toInt + y2))))
 else
 none
 else
 none)
theorem c_Z25_bind {R : Type} (x0 : List D) (x1 : Int) (k : Int × Int → Option R) : c_Z25 x0 x1 k = (c_Z25 x0 x1 some).bind k := by
 unfold c_Z25
 repeat' first|exact bnd_tail|exact bnd_none|exact bnd_leaf|apply bnd_ite|apply bnd_cond|apply bnd_sum|(apply bnd_bind;intro _)|intro _
def Z25 (x0 : List D) (x1 : Int) : Option (Int × Int) := c_Z25 x0 x1 some
def e_Z25 : Ent := ⟨81, [.rd (.struct [.int .i64, .int .i64, .int .i64]), .int .i64], .tup [.int .i64, .int .i64], [.undef, .undef], fun _ ds k => dL (fun x0 ds => dI (fun x1 ds => dE ((Z25 x0 x1).bind (fun y => k [.I y.1, .I y.2])) ds) ds) ds⟩
theorem q_Z25 (x0 : List D) (x1 : Int) : runFn (ocOf [e_Z24]) (olOf [e_Z23]) A 81 Try.f81 (Sh.mks e_Z25.sh [.L x0, .I x1]).1 (fun v os => some (v, os)) = c_Z25 x0 x1 (fun y => some ((e_Z25.res.mk [.I y.1, .I y.2]).1, (Sh.mks e_Z25.outs (e_Z25.res.mk [.I y.1, .I y.2]).2).1)) := by kernel_rfl
theorem e_Z25_ok : e_Z25.ok Try.prog A := by
 intro R ds k r h
 unfold e_Z25 at h
 obtain ⟨x0, d0, rfl, h0⟩ := dL_some h
 obtain ⟨x1, d1, rfl, h1⟩ := dI_some h0
 obtain ⟨rfl, hE⟩ := dE_some h1
 obtain ⟨y, hy, hk⟩ := bnd_some hE
 refine ⟨_, hk, fn_ok px (fx := ⟨Try.func81, by kernel_rfl, by kernel_rfl⟩) (entsOK_cons e_Z24_ok entsOK_nil) (lentsOK_cons e_Z23_ok lentsOK_nil) ?_⟩
 have hq := q_Z25 x0 x1
 rw [c_Z25_bind] at hq
 rw [show c_Z25 x0 x1 some = some y from hy] at hq
 exact hq

/-!-/
def c_Z26 {R : Type} (x0 : List D) (x1 : Int) (k : Int × Int × Bool → Option R) : Option R :=
 (Z12 x0).bind (fun y0 =>
 bif !y0 then
 k ((0 : Int), (0 : Int), Bool.false)
 else
 (Z22 x0).bind (fun y1 =>
 (Z9 x1 y1.fst y1.snd).bind (fun y2 =>
 bif !y2 then
 k ((0 : Int), (0 : Int), Bool.false)
 else
 (Z25 x0 x1).bind (fun y3 =>
 k (y3.fst, y3.snd, Bool.true)))))
theorem c_Z26_bind {R : Type} (x0 : List D) (x1 : Int) (k : Int × Int × Bool → Option R) : c_Z26 x0 x1 k = (c_Z26 x0 x1 some).bind k := by
 unfold c_Z26
 repeat' first|exact bnd_tail|exact bnd_none|exact bnd_leaf|apply bnd_ite|apply bnd_cond|apply bnd_sum|(apply bnd_bind;intro _)|intro _
def Z26 (x0 : List D) (x1 : Int) : Option (Int × Int × Bool) := c_Z26 x0 x1 some
def e_Z26 : Ent := ⟨17, [.rd (.struct [.int .i64, .int .i64, .int .i64]), .int .i64], .tup [.int .i64, .int .i64, .bool], [.undef, .undef], fun _ ds k => dL (fun x0 ds => dI (fun x1 ds => dE ((Z26 x0 x1).bind (fun y => k [.I y.1, .I y.2.1, .B y.2.2])) ds) ds) ds⟩
theorem q_Z26 (x0 : List D) (x1 : Int) : runFn (ocOf [e_Z12, e_Z22, e_Z9, e_Z25]) (olOf []) A 17 Try.f17 (Sh.mks e_Z26.sh [.L x0, .I x1]).1 (fun v os => some (v, os)) = c_Z26 x0 x1 (fun y => some ((e_Z26.res.mk [.I y.1, .I y.2.1, .B y.2.2]).1, (Sh.mks e_Z26.outs (e_Z26.res.mk [.I y.1, .I y.2.1, .B y.2.2]).2).1)) := by kernel_rfl
theorem e_Z26_ok : e_Z26.ok Try.prog A := by
 intro R ds k r h
 unfold e_Z26 at h
 obtain ⟨x0, d0, rfl, h0⟩ := dL_some h
 obtain ⟨x1, d1, rfl, h1⟩ := dI_some h0
 obtain ⟨rfl, hE⟩ := dE_some h1
 obtain ⟨y, hy, hk⟩ := bnd_some hE
 refine ⟨_, hk, fn_ok px (fx := ⟨Try.func17, by kernel_rfl, by kernel_rfl⟩) (entsOK_cons e_Z12_ok (entsOK_cons e_Z22_ok (entsOK_cons e_Z9_ok (entsOK_cons e_Z25_ok entsOK_nil)))) lentsOK_nil ?_⟩
 have hq := q_Z26 x0 x1
 rw [c_Z26_bind] at hq
 rw [show c_Z26 x0 x1 some = some y from hy] at hq
 exact hq

/-!-/
def c_Z27 {R : Type} (F : Int → Int → Bool → Int → List D → List D → Option ((Bool × List D) ⊕ (List D))) (x0 : Int) (x1 : Int) (x2 : Bool) (x3 : Int) (x4 : List D) (x5 : List D) (k : (Bool × List D) ⊕ (List D) → Option R) : Option R :=
 bif decide (x3 < (↑x4.length : Int)) then
 if 0 ≤ x3 ∧ x3 < (↑x4.length : Int) then
 if x3.toNat + 1 ≤ x4.length then
 if x3.toNat + 1 ≤ x4.length then
 (Z26 x4 (((x4.getD x3.toNat (D.int 0)).fld (0 : Nat)).toInt)).bind (fun y0 =>
 bif !y0.snd.snd then
 k (.inl (Bool.false, x4))
 else
 if 0 ≤ x3 ∧ x3 < (↑x4.length : Int) then
 if x3.toNat + 1 ≤ x4.length then
 if x3.toNat + 1 ≤ x4.length then
 bif !decide (y0.fst = ((x4.getD x3.toNat (D.int 0)).fld (1 : Nat)).toInt) then
 k (.inl (Bool.false, x4))
 else
 if 0 ≤ x3 ∧ x3 < (↑x4.length : Int) then
 if x3.toNat + 1 ≤ x4.length then
 if x3.toNat + 1 ≤ x4.length then
 bif !decide (y0.snd.fst = ((x4.getD x3.toNat (D.int 0)).fld (2 : Nat)).toInt) then
 k (.inl (Bool.false, x4))
 else
 bif x2 then
 if 0 ≤ x3 ∧ x3 < (↑x4.length : Int) then
 if x3.toNat + 1 ≤ x4.length then
 if x3.toNat + 1 ≤ x4.length then
 (Z26 x5 (((x4.getD x3.toNat (D.int 0)).fld (0 : Nat)).toInt)).bind (fun y1 =>
 bif !y1.snd.snd then
 k (.inl (Bool.false, x4))
 else
 bif !decide (y1.fst = IntKind.i64.wrap (y0.fst + x0)) then
 k (.inl (Bool.false, x4))
 else
 bif !decide (y1.snd.fst = IntKind.i64.wrap (y0.snd.fst + x1)) then
 k (.inl (Bool.false, x4))
 else
 (F x0 x1 x2 (IntKind.i64.wrap (x3 + 1)) x4 x5).bind k)
 else
 none
 else
 none
 else
 none
 else
 (F x0 x1 x2 (IntKind.i64.wrap (x3 + 1)) x4 x5).bind k
 else
 none
 else
 none
 else
 none
 else
 none
 else
 none
 else
 none)
 else
 none
 else
 none
 else
 none
 else
 k (.inr x4)
theorem c_Z27_bind {R : Type} (F : Int → Int → Bool → Int → List D → List D → Option ((Bool × List D) ⊕ (List D))) (x0 : Int) (x1 : Int) (x2 : Bool) (x3 : Int) (x4 : List D) (x5 : List D) (k : (Bool × List D) ⊕ (List D) → Option R) : c_Z27 F x0 x1 x2 x3 x4 x5 k = (c_Z27 F x0 x1 x2 x3 x4 x5 some).bind k := by
 unfold c_Z27
 repeat' first|exact bnd_tail|exact bnd_none|exact bnd_leaf|apply bnd_ite|apply bnd_cond|apply bnd_sum|(apply bnd_bind;intro _)|intro _
def n_Z27 : Nat → Int → Int → Bool → Int → List D → List D → Option ((Bool × List D) ⊕ (List D))
 | 0, _, _, _, _, _, _ => none
 | n + 1, x0, x1, x2, x3, x4, x5 => c_Z27 (n_Z27 n) x0 x1 x2 x3 x4 x5 some
noncomputable def Z27 (x0 : Int) (x1 : Int) (x2 : Bool) (x3 : Int) (x4 : List D) (x5 : List D) : Option ((Bool × List D) ⊕ (List D)) := ev (fun n => n_Z27 n x0 x1 x2 x3 x4 x5)
def m_Z27 (F : Int → Int → Bool → Int → List D → List D → Option ((Bool × List D) ⊕ (List D))) : Lent := ⟨11, ⟨(.undef :: .undef :: .undef :: .full 1000 [] (.struct [.int .i64, .int .i64, .int .i64]) :: .int .i64 :: .int .i64 :: .full 1001 [] (.struct [.int .i64, .int .i64, .int .i64]) :: .bool :: .undef :: .undef :: .int .i64 :: uu 154 ([])), [(1000, .own (.struct [.int .i64, .int .i64, .int .i64])), (1001, .own (.struct [.int .i64, .int .i64, .int .i64]))]⟩, [(.ret, ⟨(.undef :: .undef :: .bool :: .full 1000 [] (.struct [.int .i64, .int .i64, .int .i64]) :: uu 161 ([])), [(1000, .own (.struct [.int .i64, .int .i64, .int .i64]))]⟩), (.exit 0, ⟨(.undef :: .undef :: .undef :: .full 1000 [] (.struct [.int .i64, .int .i64, .int .i64]) :: uu 161 ([])), [(1000, .own (.struct [.int .i64, .int .i64, .int .i64]))]⟩)], fun _ ds k => dI (fun x0 ds => dI (fun x1 ds => dB (fun x2 ds => dI (fun x3 ds => dL (fun x4 ds => dL (fun x5 ds => dE ((F x0 x1 x2 x3 x4 x5).bind (Sum.elim (fun y => k 0 [.B y.1, .L y.2]) (fun y => k 1 [.L y]))) ds) ds) ds) ds) ds) ds) ds⟩
theorem q_Z27 (F : Int → Int → Bool → Int → List D → List D → Option ((Bool × List D) ⊕ (List D))) (x0 : Int) (x1 : Int) (x2 : Bool) (x3 : Int) (x4 : List D) (x5 : List D) : runLoop (ocOf [e_Z26]) (olOf [m_Z27 F]) A 3 (codeAt (bodyOf Try.f3) 11) ((m_Z27 F).sh.mk' [.I x0, .I x1, .B x2, .I x3, .L x4, .L x5]) (fun e σ' => some (e, σ')) = c_Z27 F x0 x1 x2 x3 x4 x5 (Sum.elim (fun y => some (.ret, SSt.mk' ⟨(.undef :: .undef :: .bool :: .full 1000 [] (.struct [.int .i64, .int .i64, .int .i64]) :: uu 161 ([])), [(1000, .own (.struct [.int .i64, .int .i64, .int .i64]))]⟩ [.B y.1, .L y.2])) (fun y => some (.exit 0, SSt.mk' ⟨(.undef :: .undef :: .undef :: .full 1000 [] (.struct [.int .i64, .int .i64, .int .i64]) :: uu 161 ([])), [(1000, .own (.struct [.int .i64, .int .i64, .int .i64]))]⟩ [.L y]))) := by kernel_rfl
theorem m_Z27_ok : ∀ n, (m_Z27 (n_Z27 n)).ok Try.prog (codeAt (bodyOf Try.f3) 11) := by
 intro n
 induction n with
 | zero =>
  intro R ds k r h
  unfold m_Z27 at h
  obtain ⟨x0, d0, rfl, h0⟩ := dI_some h
  obtain ⟨x1, d1, rfl, h1⟩ := dI_some h0
  obtain ⟨x2, d2, rfl, h2⟩ := dB_some h1
  obtain ⟨x3, d3, rfl, h3⟩ := dI_some h2
  obtain ⟨x4, d4, rfl, h4⟩ := dL_some h3
  obtain ⟨x5, d5, rfl, h5⟩ := dL_some h4
  obtain ⟨rfl, hE⟩ := dE_some h5
  obtain ⟨y, hy, hk⟩ := bnd_some hE
  cases hy
 | succ n ih =>
  intro R ds k r h
  unfold m_Z27 at h
  obtain ⟨x0, d0, rfl, h0⟩ := dI_some h
  obtain ⟨x1, d1, rfl, h1⟩ := dI_some h0
  obtain ⟨x2, d2, rfl, h2⟩ := dB_some h1
  obtain ⟨x3, d3, rfl, h3⟩ := dI_some h2
  obtain ⟨x4, d4, rfl, h4⟩ := dL_some h3
  obtain ⟨x5, d5, rfl, h5⟩ := dL_some h4
  obtain ⟨rfl, hE⟩ := dE_some h5
  obtain ⟨y, hy, hk⟩ := bnd_some hE
  have hq := q_Z27 (n_Z27 n) x0 x1 x2 x3 x4 x5
  rw [c_Z27_bind] at hq
  rw [show c_Z27 (n_Z27 n) x0 x1 x2 x3 x4 x5 some = some y from hy] at hq
  cases y with
  | inl y =>
   refine ⟨0, _, _, _, hk, rfl, loop_ok px (fx := ⟨Try.func3, by kernel_rfl, by kernel_rfl⟩) (entsOK_cons e_Z26_ok entsOK_nil) (lentsOK_cons ih lentsOK_nil) (by kernel_rfl) ?_⟩
   exact hq
  | inr y =>
   refine ⟨1, _, _, _, hk, rfl, loop_ok px (fx := ⟨Try.func3, by kernel_rfl, by kernel_rfl⟩) (entsOK_cons e_Z26_ok entsOK_nil) (lentsOK_cons ih lentsOK_nil) (by kernel_rfl) ?_⟩
   exact hq
noncomputable def e_Z27 : Lent := m_Z27 (Z27)
theorem e_Z27_ok : (e_Z27).ok Try.prog (codeAt (bodyOf Try.f3) 11) := by
 intro R ds k r h
 unfold e_Z27 m_Z27 at h
 obtain ⟨x0, d0, rfl, h0⟩ := dI_some h
 obtain ⟨x1, d1, rfl, h1⟩ := dI_some h0
 obtain ⟨x2, d2, rfl, h2⟩ := dB_some h1
 obtain ⟨x3, d3, rfl, h3⟩ := dI_some h2
 obtain ⟨x4, d4, rfl, h4⟩ := dL_some h3
 obtain ⟨x5, d5, rfl, h5⟩ := dL_some h4
 obtain ⟨rfl, hE⟩ := dE_some h5
 obtain ⟨y, hy, hk⟩ := bnd_some hE
 obtain ⟨n, hn⟩ := ev_some hy
 exact m_Z27_ok n R _ k r (show (n_Z27 n x0 x1 x2 x3 x4 x5).bind _ = _ by rw [hn]; exact hk)

/-!-/
def c_Z28 {R : Type} (F : List D → Int → Int → Int → Int → List D → Option (List D)) (x0 : List D) (x1 : Int) (x2 : Int) (x3 : Int) (x4 : Int) (x5 : List D) (k : List D → Option R) : Option R :=
 bif decide (x4 ≤ x3) then
 (Z25 x0 x4).bind (fun y0 =>
 (Z9 y0.fst x1 x2).bind (fun y1 =>
 bif y1 then
 if x5.length + [D.int x4].length ≤ (4294967296 : Nat) then
 (F x0 x1 x2 x3 (IntKind.i64.wrap (x4 + 1)) (x5 ++ [D.int x4])).bind k
 else
 none
 else
 (F x0 x1 x2 x3 (IntKind.i64.wrap (x4 + 1)) x5).bind k))
 else
 k x5
theorem c_Z28_bind {R : Type} (F : List D → Int → Int → Int → Int → List D → Option (List D)) (x0 : List D) (x1 : Int) (x2 : Int) (x3 : Int) (x4 : Int) (x5 : List D) (k : List D → Option R) : c_Z28 F x0 x1 x2 x3 x4 x5 k = (c_Z28 F x0 x1 x2 x3 x4 x5 some).bind k := by
 unfold c_Z28
 repeat' first|exact bnd_tail|exact bnd_none|exact bnd_leaf|apply bnd_ite|apply bnd_cond|apply bnd_sum|(apply bnd_bind;intro _)|intro _
def n_Z28 : Nat → List D → Int → Int → Int → Int → List D → Option (List D)
 | 0, _, _, _, _, _, _ => none
 | n + 1, x0, x1, x2, x3, x4, x5 => c_Z28 (n_Z28 n) x0 x1 x2 x3 x4 x5 some
noncomputable def Z28 (x0 : List D) (x1 : Int) (x2 : Int) (x3 : Int) (x4 : Int) (x5 : List D) : Option (List D) := ev (fun n => n_Z28 n x0 x1 x2 x3 x4 x5)
def m_Z28 (F : List D → Int → Int → Int → Int → List D → Option (List D)) : Lent := ⟨6, ⟨(.rd (.struct [.int .i64, .int .i64, .int .i64]) :: .int .i64 :: .int .i64 :: uu 5 (.full 1000 [] (.int .i64) :: .undef :: .int .i64 :: .int .i64 :: uu 32 ([]))), [(1000, .own (.int .i64))]⟩, [(.exit 0, ⟨(uu 8 (.full 1000 [] (.int .i64) :: uu 35 ([]))), [(1000, .own (.int .i64))]⟩)], fun _ ds k => dL (fun x0 ds => dI (fun x1 ds => dI (fun x2 ds => dI (fun x3 ds => dI (fun x4 ds => dL (fun x5 ds => dE ((F x0 x1 x2 x3 x4 x5).bind (fun y => k 0 [.L y])) ds) ds) ds) ds) ds) ds) ds⟩
theorem q_Z28 (F : List D → Int → Int → Int → Int → List D → Option (List D)) (x0 : List D) (x1 : Int) (x2 : Int) (x3 : Int) (x4 : Int) (x5 : List D) : runLoop (ocOf [e_Z25, e_Z9]) (olOf [m_Z28 F]) A 18 (codeAt (bodyOf Try.f18) 6) ((m_Z28 F).sh.mk' [.L x0, .I x1, .I x2, .I x3, .I x4, .L x5]) (fun e σ' => some (e, σ')) = c_Z28 F x0 x1 x2 x3 x4 x5 (fun y => some (.exit 0, SSt.mk' ⟨(uu 8 (.full 1000 [] (.int .i64) :: uu 35 ([]))), [(1000, .own (.int .i64))]⟩ [.L y])) := by kernel_rfl
theorem m_Z28_ok : ∀ n, (m_Z28 (n_Z28 n)).ok Try.prog (codeAt (bodyOf Try.f18) 6) := by
 intro n
 induction n with
 | zero =>
  intro R ds k r h
  unfold m_Z28 at h
  obtain ⟨x0, d0, rfl, h0⟩ := dL_some h
  obtain ⟨x1, d1, rfl, h1⟩ := dI_some h0
  obtain ⟨x2, d2, rfl, h2⟩ := dI_some h1
  obtain ⟨x3, d3, rfl, h3⟩ := dI_some h2
  obtain ⟨x4, d4, rfl, h4⟩ := dI_some h3
  obtain ⟨x5, d5, rfl, h5⟩ := dL_some h4
  obtain ⟨rfl, hE⟩ := dE_some h5
  obtain ⟨y, hy, hk⟩ := bnd_some hE
  cases hy
 | succ n ih =>
  intro R ds k r h
  unfold m_Z28 at h
  obtain ⟨x0, d0, rfl, h0⟩ := dL_some h
  obtain ⟨x1, d1, rfl, h1⟩ := dI_some h0
  obtain ⟨x2, d2, rfl, h2⟩ := dI_some h1
  obtain ⟨x3, d3, rfl, h3⟩ := dI_some h2
  obtain ⟨x4, d4, rfl, h4⟩ := dI_some h3
  obtain ⟨x5, d5, rfl, h5⟩ := dL_some h4
  obtain ⟨rfl, hE⟩ := dE_some h5
  obtain ⟨y, hy, hk⟩ := bnd_some hE
  have hq := q_Z28 (n_Z28 n) x0 x1 x2 x3 x4 x5
  rw [c_Z28_bind] at hq
  rw [show c_Z28 (n_Z28 n) x0 x1 x2 x3 x4 x5 some = some y from hy] at hq
  refine ⟨0, _, _, _, hk, rfl, loop_ok px (fx := ⟨Try.func18, by kernel_rfl, by kernel_rfl⟩) (entsOK_cons e_Z25_ok (entsOK_cons e_Z9_ok entsOK_nil)) (lentsOK_cons ih lentsOK_nil) (by kernel_rfl) ?_⟩
  exact hq
noncomputable def e_Z28 : Lent := m_Z28 (Z28)
theorem e_Z28_ok : (e_Z28).ok Try.prog (codeAt (bodyOf Try.f18) 6) := by
 intro R ds k r h
 unfold e_Z28 m_Z28 at h
 obtain ⟨x0, d0, rfl, h0⟩ := dL_some h
 obtain ⟨x1, d1, rfl, h1⟩ := dI_some h0
 obtain ⟨x2, d2, rfl, h2⟩ := dI_some h1
 obtain ⟨x3, d3, rfl, h3⟩ := dI_some h2
 obtain ⟨x4, d4, rfl, h4⟩ := dI_some h3
 obtain ⟨x5, d5, rfl, h5⟩ := dL_some h4
 obtain ⟨rfl, hE⟩ := dE_some h5
 obtain ⟨y, hy, hk⟩ := bnd_some hE
 obtain ⟨n, hn⟩ := ev_some hy
 exact m_Z28_ok n R _ k r (show (n_Z28 n x0 x1 x2 x3 x4 x5).bind _ = _ by rw [hn]; exact hk)

/-!-/
def c_Z29 {R : Type} (x0 : List D) (x1 : Int) (x2 : Int) (k : List D × Bool → Option R) : Option R :=
 (Z12 x0).bind (fun y0 =>
 bif !y0 then
 k ([], Bool.false)
 else
 (Z22 x0).bind (fun y1 =>
 (Z28 x0 x1 x2 y1.snd y1.fst []).bind (fun y2 =>
 k (y2, Bool.true))))
theorem c_Z29_bind {R : Type} (x0 : List D) (x1 : Int) (x2 : Int) (k : List D × Bool → Option R) : c_Z29 x0 x1 x2 k = (c_Z29 x0 x1 x2 some).bind k := by
 unfold c_Z29
 repeat' first|exact bnd_tail|exact bnd_none|exact bnd_leaf|apply bnd_ite|apply bnd_cond|apply bnd_sum|(apply bnd_bind;intro _)|intro _
def Z29 (x0 : List D) (x1 : Int) (x2 : Int) : Option (List D × Bool) := c_Z29 x0 x1 x2 some
def e_Z29 : Ent := ⟨18, [.rd (.struct [.int .i64, .int .i64, .int .i64]), .int .i64, .int .i64], .tup [.own (.int .i64), .bool], [.undef, .undef, .undef], fun _ ds k => dL (fun x0 ds => dI (fun x1 ds => dI (fun x2 ds => dE ((Z29 x0 x1 x2).bind (fun y => k [.L y.1, .B y.2])) ds) ds) ds) ds⟩
theorem q_Z29 (x0 : List D) (x1 : Int) (x2 : Int) : runFn (ocOf [e_Z12, e_Z22]) (olOf [e_Z28]) A 18 Try.f18 (Sh.mks e_Z29.sh [.L x0, .I x1, .I x2]).1 (fun v os => some (v, os)) = c_Z29 x0 x1 x2 (fun y => some ((e_Z29.res.mk [.L y.1, .B y.2]).1, (Sh.mks e_Z29.outs (e_Z29.res.mk [.L y.1, .B y.2]).2).1)) := by kernel_rfl
theorem e_Z29_ok : e_Z29.ok Try.prog A := by
 intro R ds k r h
 unfold e_Z29 at h
 obtain ⟨x0, d0, rfl, h0⟩ := dL_some h
 obtain ⟨x1, d1, rfl, h1⟩ := dI_some h0
 obtain ⟨x2, d2, rfl, h2⟩ := dI_some h1
 obtain ⟨rfl, hE⟩ := dE_some h2
 obtain ⟨y, hy, hk⟩ := bnd_some hE
 refine ⟨_, hk, fn_ok px (fx := ⟨Try.func18, by kernel_rfl, by kernel_rfl⟩) (entsOK_cons e_Z12_ok (entsOK_cons e_Z22_ok entsOK_nil)) (lentsOK_cons e_Z28_ok lentsOK_nil) ?_⟩
 have hq := q_Z29 x0 x1 x2
 rw [c_Z29_bind] at hq
 rw [show c_Z29 x0 x1 x2 some = some y from hy] at hq
 exact hq

/-!-/
def c_Z30 {R : Type} (F : List D → Int → List D → Option (List D)) (x0 : List D) (x1 : Int) (x2 : List D) (k : List D → Option R) : Option R :=
 bif decide (IntKind.i64.wrap (x1 + 1) < (↑x0.length : Int)) then
 if (0 : Int) ≤ IntKind.i64.wrap (x1 - 1) ∧ IntKind.i64.wrap (x1 - 1) < (↑x0.length : Int) then
 if 0 ≤ x1 ∧ x1 < (↑x0.length : Int) then
 if (0 : Int) ≤ IntKind.i64.wrap (x1 + 1) ∧ IntKind.i64.wrap (x1 + 1) < (↑x0.length : Int) then
 if 0 ≤ x1 ∧ x1 < (↑x0.length : Int) then
 bif decide ((0 : Int) < IntKind.i64.wrap (IntKind.i64.wrap (((x0.getD (IntKind.i64.wrap (x1 - 1)).toNat (D.int 0)).fld (1 : Nat)).toInt - ((x0.getD x1.toNat (D.int 0)).fld (1 : Nat)).toInt) * IntKind.i64.wrap (((x0.getD (IntKind.i64.wrap (x1 + 1)).toNat (D.int 0)).fld (1 : Nat)).toInt - ((x0.getD x1.toNat (D.int 0)).fld (1 : Nat)).toInt))) then
 if 0 ≤ x1 ∧ x1 < (↑x0.length : Int) then
 if x2.length + [D.int ((x0.getD x1.toNat (D.int 0)).fld (0 : Nat)).toInt].length ≤ (4294967296 : Nat) then
 (F x0 (IntKind.i64.wrap (x1 + 1)) (x2 ++ [D.int ((x0.getD x1.toNat (D.int 0)).fld (0 : Nat)).toInt])).bind k
 else
 none
 else
 none
 else
 (F x0 (IntKind.i64.wrap (x1 + 1)) x2).bind k
 else
 none
 else
 none
 else
 none
 else
 none
 else
 k x2
theorem c_Z30_bind {R : Type} (F : List D → Int → List D → Option (List D)) (x0 : List D) (x1 : Int) (x2 : List D) (k : List D → Option R) : c_Z30 F x0 x1 x2 k = (c_Z30 F x0 x1 x2 some).bind k := by
 unfold c_Z30
 repeat' first|exact bnd_tail|exact bnd_none|exact bnd_leaf|apply bnd_ite|apply bnd_cond|apply bnd_sum|(apply bnd_bind;intro _)|intro _
def n_Z30 : Nat → List D → Int → List D → Option (List D)
 | 0, _, _, _ => none
 | n + 1, x0, x1, x2 => c_Z30 (n_Z30 n) x0 x1 x2 some
noncomputable def Z30 (x0 : List D) (x1 : Int) (x2 : List D) : Option (List D) := ev (fun n => n_Z30 n x0 x1 x2)
def m_Z30 (F : List D → Int → List D → Option (List D)) : Lent := ⟨5, ⟨(.rd (.struct [.int .i64, .int .i64, .int .i64]) :: .undef :: .undef :: .undef :: .full 1000 [] (.int .i64) :: .int .i64 :: uu 46 ([])), [(1000, .own (.int .i64))]⟩, [(.exit 0, ⟨(uu 4 (.full 1000 [] (.int .i64) :: uu 47 ([]))), [(1000, .own (.int .i64))]⟩)], fun _ ds k => dL (fun x0 ds => dI (fun x1 ds => dL (fun x2 ds => dE ((F x0 x1 x2).bind (fun y => k 0 [.L y])) ds) ds) ds) ds⟩
theorem q_Z30 (F : List D → Int → List D → Option (List D)) (x0 : List D) (x1 : Int) (x2 : List D) : runLoop (ocOf []) (olOf [m_Z30 F]) A 19 (codeAt (bodyOf Try.f19) 5) ((m_Z30 F).sh.mk' [.L x0, .I x1, .L x2]) (fun e σ' => some (e, σ')) = c_Z30 F x0 x1 x2 (fun y => some (.exit 0, SSt.mk' ⟨(uu 4 (.full 1000 [] (.int .i64) :: uu 47 ([]))), [(1000, .own (.int .i64))]⟩ [.L y])) := by kernel_rfl
theorem m_Z30_ok : ∀ n, (m_Z30 (n_Z30 n)).ok Try.prog (codeAt (bodyOf Try.f19) 5) := by
 intro n
 induction n with
 | zero =>
  intro R ds k r h
  unfold m_Z30 at h
  obtain ⟨x0, d0, rfl, h0⟩ := dL_some h
  obtain ⟨x1, d1, rfl, h1⟩ := dI_some h0
  obtain ⟨x2, d2, rfl, h2⟩ := dL_some h1
  obtain ⟨rfl, hE⟩ := dE_some h2
  obtain ⟨y, hy, hk⟩ := bnd_some hE
  cases hy
 | succ n ih =>
  intro R ds k r h
  unfold m_Z30 at h
  obtain ⟨x0, d0, rfl, h0⟩ := dL_some h
  obtain ⟨x1, d1, rfl, h1⟩ := dI_some h0
  obtain ⟨x2, d2, rfl, h2⟩ := dL_some h1
  obtain ⟨rfl, hE⟩ := dE_some h2
  obtain ⟨y, hy, hk⟩ := bnd_some hE
  have hq := q_Z30 (n_Z30 n) x0 x1 x2
  rw [c_Z30_bind] at hq
  rw [show c_Z30 (n_Z30 n) x0 x1 x2 some = some y from hy] at hq
  refine ⟨0, _, _, _, hk, rfl, loop_ok px (fx := ⟨Try.func19, by kernel_rfl, by kernel_rfl⟩) entsOK_nil (lentsOK_cons ih lentsOK_nil) (by kernel_rfl) ?_⟩
  exact hq
noncomputable def e_Z30 : Lent := m_Z30 (Z30)
theorem e_Z30_ok : (e_Z30).ok Try.prog (codeAt (bodyOf Try.f19) 5) := by
 intro R ds k r h
 unfold e_Z30 m_Z30 at h
 obtain ⟨x0, d0, rfl, h0⟩ := dL_some h
 obtain ⟨x1, d1, rfl, h1⟩ := dI_some h0
 obtain ⟨x2, d2, rfl, h2⟩ := dL_some h1
 obtain ⟨rfl, hE⟩ := dE_some h2
 obtain ⟨y, hy, hk⟩ := bnd_some hE
 obtain ⟨n, hn⟩ := ev_some hy
 exact m_Z30_ok n R _ k r (show (n_Z30 n x0 x1 x2).bind _ = _ by rw [hn]; exact hk)

/-!-/
def c_Z31 {R : Type} (x0 : List D) (k : List D × Bool → Option R) : Option R :=
 (Z12 x0).bind (fun y0 =>
 bif !y0 then
 k ([], Bool.false)
 else
 (Z30 x0 (1 : Int) []).bind (fun y1 =>
 k (y1, Bool.true)))
theorem c_Z31_bind {R : Type} (x0 : List D) (k : List D × Bool → Option R) : c_Z31 x0 k = (c_Z31 x0 some).bind k := by
 unfold c_Z31
 repeat' first|exact bnd_tail|exact bnd_none|exact bnd_leaf|apply bnd_ite|apply bnd_cond|apply bnd_sum|(apply bnd_bind;intro _)|intro _
def Z31 (x0 : List D) : Option (List D × Bool) := c_Z31 x0 some
def e_Z31 : Ent := ⟨19, [.rd (.struct [.int .i64, .int .i64, .int .i64])], .tup [.own (.int .i64), .bool], [.undef], fun _ ds k => dL (fun x0 ds => dE ((Z31 x0).bind (fun y => k [.L y.1, .B y.2])) ds) ds⟩
theorem q_Z31 (x0 : List D) : runFn (ocOf [e_Z12]) (olOf [e_Z30]) A 19 Try.f19 (Sh.mks e_Z31.sh [.L x0]).1 (fun v os => some (v, os)) = c_Z31 x0 (fun y => some ((e_Z31.res.mk [.L y.1, .B y.2]).1, (Sh.mks e_Z31.outs (e_Z31.res.mk [.L y.1, .B y.2]).2).1)) := by kernel_rfl
theorem e_Z31_ok : e_Z31.ok Try.prog A := by
 intro R ds k r h
 unfold e_Z31 at h
 obtain ⟨x0, d0, rfl, h0⟩ := dL_some h
 obtain ⟨rfl, hE⟩ := dE_some h0
 obtain ⟨y, hy, hk⟩ := bnd_some hE
 refine ⟨_, hk, fn_ok px (fx := ⟨Try.func19, by kernel_rfl, by kernel_rfl⟩) (entsOK_cons e_Z12_ok entsOK_nil) (lentsOK_cons e_Z30_ok lentsOK_nil) ?_⟩
 have hq := q_Z31 x0
 rw [c_Z31_bind] at hq
 rw [show c_Z31 x0 some = some y from hy] at hq
 exact hq

/-!-/
def c_Z32 {R : Type} (F : List D → Int → List D → Option (List D)) (x0 : List D) (x1 : Int) (x2 : List D) (k : List D → Option R) : Option R :=
 bif decide (IntKind.i64.wrap (x1 + 1) < (↑x0.length : Int)) then
 if (0 : Int) ≤ IntKind.i64.wrap (x1 - 1) ∧ IntKind.i64.wrap (x1 - 1) < (↑x0.length : Int) then
 if 0 ≤ x1 ∧ x1 < (↑x0.length : Int) then
 if (0 : Int) ≤ IntKind.i64.wrap (x1 + 1) ∧ IntKind.i64.wrap (x1 + 1) < (↑x0.length : Int) then
 if 0 ≤ x1 ∧ x1 < (↑x0.length : Int) then
 bif decide ((0 : Int) < IntKind.i64.wrap (((x0.getD (IntKind.i64.wrap (x1 - 1)).toNat (D.int 0)).fld (1 : Nat)).toInt - ((x0.getD x1.toNat (D.int 0)).fld (1 : Nat)).toInt)) then
 bif decide ((0 : Int) < IntKind.i64.wrap (((x0.getD (IntKind.i64.wrap (x1 + 1)).toNat (D.int 0)).fld (1 : Nat)).toInt - ((x0.getD x1.toNat (D.int 0)).fld (1 : Nat)).toInt)) then
 if 0 ≤ x1 ∧ x1 < (↑x0.length : Int) then
 if x2.length + [D.int ((x0.getD x1.toNat (D.int 0)).fld (0 : Nat)).toInt].length ≤ (4294967296 : Nat) then
 (F x0 (IntKind.i64.wrap (x1 + 1)) (x2 ++ [D.int ((x0.getD x1.toNat (D.int 0)).fld (0 : Nat)).toInt])).bind k
 else
 none
 else
 none
 else
 bif decide (IntKind.i64.wrap (((x0.getD (IntKind.i64.wrap (x1 - 1)).toNat (D.int 0)).fld (1 : Nat)).toInt - ((x0.getD x1.toNat (D.int 0)).fld (1 : Nat)).toInt) < (0 : Int)) then
 bif decide (IntKind.i64.wrap (((x0.getD (IntKind.i64.wrap (x1 + 1)).toNat (D.int 0)).fld (1 : Nat)).toInt - ((x0.getD x1.toNat (D.int 0)).fld (1 : Nat)).toInt) < (0 : Int)) then
 if 0 ≤ x1 ∧ x1 < (↑x0.length : Int) then
 if x2.length + [D.int ((x0.getD x1.toNat (D.int 0)).fld (0 : Nat)).toInt].length ≤ (4294967296 : Nat) then
 (F x0 (IntKind.i64.wrap (x1 + 1)) (x2 ++ [D.int ((x0.getD x1.toNat (D.int 0)).fld (0 : Nat)).toInt])).bind k
 else
 none
 else
 none
 else
 (F x0 (IntKind.i64.wrap (x1 + 1)) x2).bind k
 else
 (F x0 (IntKind.i64.wrap (x1 + 1)) x2).bind k
 else
 bif decide (IntKind.i64.wrap (((x0.getD (IntKind.i64.wrap (x1 - 1)).toNat (D.int 0)).fld (1 : Nat)).toInt - ((x0.getD x1.toNat (D.int 0)).fld (1 : Nat)).toInt) < (0 : Int)) then
 bif decide (IntKind.i64.wrap (((x0.getD (IntKind.i64.wrap (x1 + 1)).toNat (D.int 0)).fld (1 : Nat)).toInt - ((x0.getD x1.toNat (D.int 0)).fld (1 : Nat)).toInt) < (0 : Int)) then
 if 0 ≤ x1 ∧ x1 < (↑x0.length : Int) then
 if x2.length + [D.int ((x0.getD x1.toNat (D.int 0)).fld (0 : Nat)).toInt].length ≤ (4294967296 : Nat) then
 (F x0 (IntKind.i64.wrap (x1 + 1)) (x2 ++ [D.int ((x0.getD x1.toNat (D.int 0)).fld (0 : Nat)).toInt])).bind k
 else
 none
 else
 none
 else
 (F x0 (IntKind.i64.wrap (x1 + 1)) x2).bind k
 else
 (F x0 (IntKind.i64.wrap (x1 + 1)) x2).bind k
 else
 none
 else
 none
 else
 none
 else
 none
 else
 k x2
theorem c_Z32_bind {R : Type} (F : List D → Int → List D → Option (List D)) (x0 : List D) (x1 : Int) (x2 : List D) (k : List D → Option R) : c_Z32 F x0 x1 x2 k = (c_Z32 F x0 x1 x2 some).bind k := by
 unfold c_Z32
 repeat' first|exact bnd_tail|exact bnd_none|exact bnd_leaf|apply bnd_ite|apply bnd_cond|apply bnd_sum|(apply bnd_bind;intro _)|intro _
def n_Z32 : Nat → List D → Int → List D → Option (List D)
 | 0, _, _, _ => none
 | n + 1, x0, x1, x2 => c_Z32 (n_Z32 n) x0 x1 x2 some
noncomputable def Z32 (x0 : List D) (x1 : Int) (x2 : List D) : Option (List D) := ev (fun n => n_Z32 n x0 x1 x2)
def m_Z32 (F : List D → Int → List D → Option (List D)) : Lent := ⟨5, ⟨(.rd (.struct [.int .i64, .int .i64, .int .i64]) :: .undef :: .undef :: .undef :: .full 1000 [] (.int .i64) :: .int .i64 :: uu 61 ([])), [(1000, .own (.int .i64))]⟩, [(.exit 0, ⟨(uu 4 (.full 1000 [] (.int .i64) :: uu 62 ([]))), [(1000, .own (.int .i64))]⟩)], fun _ ds k => dL (fun x0 ds => dI (fun x1 ds => dL (fun x2 ds => dE ((F x0 x1 x2).bind (fun y => k 0 [.L y])) ds) ds) ds) ds⟩
theorem q_Z32 (F : List D → Int → List D → Option (List D)) (x0 : List D) (x1 : Int) (x2 : List D) : runLoop (ocOf []) (olOf [m_Z32 F]) A 20 (codeAt (bodyOf Try.f20) 5) ((m_Z32 F).sh.mk' [.L x0, .I x1, .L x2]) (fun e σ' => some (e, σ')) = c_Z32 F x0 x1 x2 (fun y => some (.exit 0, SSt.mk' ⟨(uu 4 (.full 1000 [] (.int .i64) :: uu 62 ([]))), [(1000, .own (.int .i64))]⟩ [.L y])) := by kernel_rfl
theorem m_Z32_ok : ∀ n, (m_Z32 (n_Z32 n)).ok Try.prog (codeAt (bodyOf Try.f20) 5) := by
 intro n
 induction n with
 | zero =>
  intro R ds k r h
  unfold m_Z32 at h
  obtain ⟨x0, d0, rfl, h0⟩ := dL_some h
  obtain ⟨x1, d1, rfl, h1⟩ := dI_some h0
  obtain ⟨x2, d2, rfl, h2⟩ := dL_some h1
  obtain ⟨rfl, hE⟩ := dE_some h2
  obtain ⟨y, hy, hk⟩ := bnd_some hE
  cases hy
 | succ n ih =>
  intro R ds k r h
  unfold m_Z32 at h
  obtain ⟨x0, d0, rfl, h0⟩ := dL_some h
  obtain ⟨x1, d1, rfl, h1⟩ := dI_some h0
  obtain ⟨x2, d2, rfl, h2⟩ := dL_some h1
  obtain ⟨rfl, hE⟩ := dE_some h2
  obtain ⟨y, hy, hk⟩ := bnd_some hE
  have hq := q_Z32 (n_Z32 n) x0 x1 x2
  rw [c_Z32_bind] at hq
  rw [show c_Z32 (n_Z32 n) x0 x1 x2 some = some y from hy] at hq
  refine ⟨0, _, _, _, hk, rfl, loop_ok px (fx := ⟨Try.func20, by kernel_rfl, by kernel_rfl⟩) entsOK_nil (lentsOK_cons ih lentsOK_nil) (by kernel_rfl) ?_⟩
  exact hq
noncomputable def e_Z32 : Lent := m_Z32 (Z32)
theorem e_Z32_ok : (e_Z32).ok Try.prog (codeAt (bodyOf Try.f20) 5) := by
 intro R ds k r h
 unfold e_Z32 m_Z32 at h
 obtain ⟨x0, d0, rfl, h0⟩ := dL_some h
 obtain ⟨x1, d1, rfl, h1⟩ := dI_some h0
 obtain ⟨x2, d2, rfl, h2⟩ := dL_some h1
 obtain ⟨rfl, hE⟩ := dE_some h2
 obtain ⟨y, hy, hk⟩ := bnd_some hE
 obtain ⟨n, hn⟩ := ev_some hy
 exact m_Z32_ok n R _ k r (show (n_Z32 n x0 x1 x2).bind _ = _ by rw [hn]; exact hk)

/-!-/
def c_Z33 {R : Type} (x0 : List D) (k : List D × Bool → Option R) : Option R :=
 (Z18 x0).bind (fun y0 =>
 bif !y0 then
 k ([], Bool.false)
 else
 (Z32 x0 (1 : Int) []).bind (fun y1 =>
 k (y1, Bool.true)))
theorem c_Z33_bind {R : Type} (x0 : List D) (k : List D × Bool → Option R) : c_Z33 x0 k = (c_Z33 x0 some).bind k := by
 unfold c_Z33
 repeat' first|exact bnd_tail|exact bnd_none|exact bnd_leaf|apply bnd_ite|apply bnd_cond|apply bnd_sum|(apply bnd_bind;intro _)|intro _
def Z33 (x0 : List D) : Option (List D × Bool) := c_Z33 x0 some
def e_Z33 : Ent := ⟨20, [.rd (.struct [.int .i64, .int .i64, .int .i64])], .tup [.own (.int .i64), .bool], [.undef], fun _ ds k => dL (fun x0 ds => dE ((Z33 x0).bind (fun y => k [.L y.1, .B y.2])) ds) ds⟩
theorem q_Z33 (x0 : List D) : runFn (ocOf [e_Z18]) (olOf [e_Z32]) A 20 Try.f20 (Sh.mks e_Z33.sh [.L x0]).1 (fun v os => some (v, os)) = c_Z33 x0 (fun y => some ((e_Z33.res.mk [.L y.1, .B y.2]).1, (Sh.mks e_Z33.outs (e_Z33.res.mk [.L y.1, .B y.2]).2).1)) := by kernel_rfl
theorem e_Z33_ok : e_Z33.ok Try.prog A := by
 intro R ds k r h
 unfold e_Z33 at h
 obtain ⟨x0, d0, rfl, h0⟩ := dL_some h
 obtain ⟨rfl, hE⟩ := dE_some h0
 obtain ⟨y, hy, hk⟩ := bnd_some hE
 refine ⟨_, hk, fn_ok px (fx := ⟨Try.func20, by kernel_rfl, by kernel_rfl⟩) (entsOK_cons e_Z18_ok entsOK_nil) (lentsOK_cons e_Z32_ok lentsOK_nil) ?_⟩
 have hq := q_Z33 x0
 rw [c_Z33_bind] at hq
 rw [show c_Z33 x0 some = some y from hy] at hq
 exact hq

/-!-/
def c_Z34 {R : Type} (F : List D → List D → Int → Option ((Bool) ⊕ (Unit))) (x0 : List D) (x1 : List D) (x2 : Int) (k : (Bool) ⊕ (Unit) → Option R) : Option R :=
 bif decide (x2 < (↑x0.length : Int)) then
 if 0 ≤ x2 ∧ x2 < (↑x0.length : Int) then
 if 0 ≤ x2 ∧ x2 < (↑x1.length : Int) then
 bif !decide ((x0.getD x2.toNat (D.int 0)).toInt = (x1.getD x2.toNat (D.int 0)).toInt) then
 k (.inl Bool.false)
 else
 (F x0 x1 (IntKind.i64.wrap (x2 + 1))).bind k
 else
 none
 else
 none
 else
 k (.inr ())
theorem c_Z34_bind {R : Type} (F : List D → List D → Int → Option ((Bool) ⊕ (Unit))) (x0 : List D) (x1 : List D) (x2 : Int) (k : (Bool) ⊕ (Unit) → Option R) : c_Z34 F x0 x1 x2 k = (c_Z34 F x0 x1 x2 some).bind k := by
 unfold c_Z34
 repeat' first|exact bnd_tail|exact bnd_none|exact bnd_leaf|apply bnd_ite|apply bnd_cond|apply bnd_sum|(apply bnd_bind;intro _)|intro _
def n_Z34 : Nat → List D → List D → Int → Option ((Bool) ⊕ (Unit))
 | 0, _, _, _ => none
 | n + 1, x0, x1, x2 => c_Z34 (n_Z34 n) x0 x1 x2 some
noncomputable def Z34 (x0 : List D) (x1 : List D) (x2 : Int) : Option ((Bool) ⊕ (Unit)) := ev (fun n => n_Z34 n x0 x1 x2)
def m_Z34 (F : List D → List D → Int → Option ((Bool) ⊕ (Unit))) : Lent := ⟨4, ⟨(.rd (.int .i64) :: .rd (.int .i64) :: .undef :: .undef :: .undef :: .int .i64 :: uu 20 ([])), []⟩, [(.ret, ⟨(uu 4 (.bool :: uu 21 ([]))), []⟩), (.exit 0, ⟨(uu 26 ([])), []⟩)], fun _ ds k => dL (fun x0 ds => dL (fun x1 ds => dI (fun x2 ds => dE ((F x0 x1 x2).bind (Sum.elim (fun y => k 0 [.B y]) (fun y => k 1 []))) ds) ds) ds) ds⟩
theorem q_Z34 (F : List D → List D → Int → Option ((Bool) ⊕ (Unit))) (x0 : List D) (x1 : List D) (x2 : Int) : runLoop (ocOf []) (olOf [m_Z34 F]) A 21 (codeAt (bodyOf Try.f21) 4) ((m_Z34 F).sh.mk' [.L x0, .L x1, .I x2]) (fun e σ' => some (e, σ')) = c_Z34 F x0 x1 x2 (Sum.elim (fun y => some (.ret, SSt.mk' ⟨(uu 4 (.bool :: uu 21 ([]))), []⟩ [.B y])) (fun y => some (.exit 0, SSt.mk' ⟨(uu 26 ([])), []⟩ []))) := by kernel_rfl
theorem m_Z34_ok : ∀ n, (m_Z34 (n_Z34 n)).ok Try.prog (codeAt (bodyOf Try.f21) 4) := by
 intro n
 induction n with
 | zero =>
  intro R ds k r h
  unfold m_Z34 at h
  obtain ⟨x0, d0, rfl, h0⟩ := dL_some h
  obtain ⟨x1, d1, rfl, h1⟩ := dL_some h0
  obtain ⟨x2, d2, rfl, h2⟩ := dI_some h1
  obtain ⟨rfl, hE⟩ := dE_some h2
  obtain ⟨y, hy, hk⟩ := bnd_some hE
  cases hy
 | succ n ih =>
  intro R ds k r h
  unfold m_Z34 at h
  obtain ⟨x0, d0, rfl, h0⟩ := dL_some h
  obtain ⟨x1, d1, rfl, h1⟩ := dL_some h0
  obtain ⟨x2, d2, rfl, h2⟩ := dI_some h1
  obtain ⟨rfl, hE⟩ := dE_some h2
  obtain ⟨y, hy, hk⟩ := bnd_some hE
  have hq := q_Z34 (n_Z34 n) x0 x1 x2
  rw [c_Z34_bind] at hq
  rw [show c_Z34 (n_Z34 n) x0 x1 x2 some = some y from hy] at hq
  cases y with
  | inl y =>
   refine ⟨0, _, _, _, hk, rfl, loop_ok px (fx := ⟨Try.func21, by kernel_rfl, by kernel_rfl⟩) entsOK_nil (lentsOK_cons ih lentsOK_nil) (by kernel_rfl) ?_⟩
   exact hq
  | inr y =>
   refine ⟨1, _, _, _, hk, rfl, loop_ok px (fx := ⟨Try.func21, by kernel_rfl, by kernel_rfl⟩) entsOK_nil (lentsOK_cons ih lentsOK_nil) (by kernel_rfl) ?_⟩
   exact hq
noncomputable def e_Z34 : Lent := m_Z34 (Z34)
theorem e_Z34_ok : (e_Z34).ok Try.prog (codeAt (bodyOf Try.f21) 4) := by
 intro R ds k r h
 unfold e_Z34 m_Z34 at h
 obtain ⟨x0, d0, rfl, h0⟩ := dL_some h
 obtain ⟨x1, d1, rfl, h1⟩ := dL_some h0
 obtain ⟨x2, d2, rfl, h2⟩ := dI_some h1
 obtain ⟨rfl, hE⟩ := dE_some h2
 obtain ⟨y, hy, hk⟩ := bnd_some hE
 obtain ⟨n, hn⟩ := ev_some hy
 exact m_Z34_ok n R _ k r (show (n_Z34 n x0 x1 x2).bind _ = _ by rw [hn]; exact hk)

/-!-/
def c_Z35 {R : Type} (x0 : List D) (x1 : List D) (k : Bool → Option R) : Option R :=
 bif !decide ((↑x0.length : Int) = (↑x1.length : Int)) then
 k Bool.false
 else
 (Z34 x0 x1 (0 : Int)).bind (Sum.elim (fun y0 =>
 k y0) (fun y1 =>
 k Bool.true))
theorem c_Z35_bind {R : Type} (x0 : List D) (x1 : List D) (k : Bool → Option R) : c_Z35 x0 x1 k = (c_Z35 x0 x1 some).bind k := by
 unfold c_Z35
 repeat' first|exact bnd_tail|exact bnd_none|exact bnd_leaf|apply bnd_ite|apply bnd_cond|apply bnd_sum|(apply bnd_bind;intro _)|intro _
def Z35 (x0 : List D) (x1 : List D) : Option (Bool) := c_Z35 x0 x1 some
def e_Z35 : Ent := ⟨21, [.rd (.int .i64), .rd (.int .i64)], .bool, [.undef, .undef], fun _ ds k => dL (fun x0 ds => dL (fun x1 ds => dE ((Z35 x0 x1).bind (fun y => k [.B y])) ds) ds) ds⟩
theorem q_Z35 (x0 : List D) (x1 : List D) : runFn (ocOf []) (olOf [e_Z34]) A 21 Try.f21 (Sh.mks e_Z35.sh [.L x0, .L x1]).1 (fun v os => some (v, os)) = c_Z35 x0 x1 (fun y => some ((e_Z35.res.mk [.B y]).1, (Sh.mks e_Z35.outs (e_Z35.res.mk [.B y]).2).1)) := by kernel_rfl
theorem e_Z35_ok : e_Z35.ok Try.prog A := by
 intro R ds k r h
 unfold e_Z35 at h
 obtain ⟨x0, d0, rfl, h0⟩ := dL_some h
 obtain ⟨x1, d1, rfl, h1⟩ := dL_some h0
 obtain ⟨rfl, hE⟩ := dE_some h1
 obtain ⟨y, hy, hk⟩ := bnd_some hE
 refine ⟨_, hk, fn_ok px (fx := ⟨Try.func21, by kernel_rfl, by kernel_rfl⟩) entsOK_nil (lentsOK_cons e_Z34_ok lentsOK_nil) ?_⟩
 have hq := q_Z35 x0 x1
 rw [c_Z35_bind] at hq
 rw [show c_Z35 x0 x1 some = some y from hy] at hq
 exact hq

/-!-/
def c_Z36 {R : Type} (x0 : List D) (k : Bool → Option R) : Option R :=
 (Z0 x0).bind (fun y0 =>
 bif y0 then
 k Bool.true
 else
 (Z8 x0).bind (fun y1 =>
 (Z15 y1.fst y1.snd.fst y1.snd.snd).bind (fun y2 =>
 (Z20 y1.fst y1.snd.fst y1.snd.snd).bind (fun y3 =>
 bif !y2.snd == y3.snd then
 k Bool.false
 else
 (Z12 y1.fst).bind (fun y4 =>
 bif !y4 then
 bif !y2.snd then
 (Z21 y1.fst).bind (fun y5 =>
 k !y5)
 else
 k Bool.false
 else
 (Z27 y1.snd.fst y1.snd.snd y2.snd (0 : Int) y1.fst y2.fst).bind (Sum.elim (fun y6 =>
 k y6.fst) (fun y7 =>
 (Z29 y7 (0 : Int) (60000 : Int)).bind (fun y8 =>
 (Z31 y7).bind (fun y9 =>
 (Z33 y7).bind (fun y10 =>
 bif y8.snd then
 bif y9.snd then
 (Z35 y9.fst y10.fst).bind (fun y11 =>
 bif y11 then
 if (0 : Int) ≤ IntKind.i64.wrap ((↑y7.length : Int) - (1 : Int)) ∧ IntKind.i64.wrap ((↑y7.length : Int) - (1 : Int)) < (↑y7.length : Int) then
 if (IntKind.i64.wrap ((↑y7.length : Int) - (1 : Int))).toNat + 1 ≤ y7.length then
 if (IntKind.i64.wrap ((↑y7.length : Int) - (1 : Int))).toNat + 1 ≤ y7.length then
 if (0 : Int) ≤ (0 : Int) ∧ (0 : Int) < (↑y7.length : Int) then
 if Int.toNat (0 : Int) + (1 : Nat) ≤ y7.length then
 if Int.toNat (0 : Int) + (1 : Nat) ≤ y7.length then
 k (decide ((↑y8.fst.length : Int) = IntKind.i64.wrap (IntKind.i64.wrap (((y7.getD (IntKind.i64.wrap ((↑y7.length : Int) - (1 : Int))).toNat (D.int 0)).fld (0 : Nat)).toInt - ((y7.getD (Int.toNat (0 : Int)) (D.int 0)).fld (0 : Nat)).toInt) + (1 : Int))))
 else
 none
 else
 none
 else
 none
 else
 none
 else
 none
 else
 none
 else
 k Bool.false)
 else
 k Bool.false
 else
 k Bool.false))))))))))
theorem c_Z36_bind {R : Type} (x0 : List D) (k : Bool → Option R) : c_Z36 x0 k = (c_Z36 x0 some).bind k := by
 unfold c_Z36
 repeat' first|exact bnd_tail|exact bnd_none|exact bnd_leaf|apply bnd_ite|apply bnd_cond|apply bnd_sum|(apply bnd_bind;intro _)|intro _
def Z36 (x0 : List D) : Option (Bool) := c_Z36 x0 some
def e_Z36 : Ent := ⟨3, [.rd (.int .u8)], .bool, [.undef], fun _ ds k => dL (fun x0 ds => dE ((Z36 x0).bind (fun y => k [.B y])) ds) ds⟩
theorem q_Z36 (x0 : List D) : runFn (ocOf [e_Z0, e_Z8, e_Z15, e_Z20, e_Z12, e_Z21, e_Z29, e_Z31, e_Z33, e_Z35]) (olOf [e_Z27]) A 3 Try.f3 (Sh.mks e_Z36.sh [.L x0]).1 (fun v os => some (v, os)) = c_Z36 x0 (fun y => some ((e_Z36.res.mk [.B y]).1, (Sh.mks e_Z36.outs (e_Z36.res.mk [.B y]).2).1)) := by kernel_rfl
theorem e_Z36_ok : e_Z36.ok Try.prog A := by
 intro R ds k r h
 unfold e_Z36 at h
 obtain ⟨x0, d0, rfl, h0⟩ := dL_some h
 obtain ⟨rfl, hE⟩ := dE_some h0
 obtain ⟨y, hy, hk⟩ := bnd_some hE
 refine ⟨_, hk, fn_ok px (fx := ⟨Try.func3, by kernel_rfl, by kernel_rfl⟩) (entsOK_cons e_Z0_ok (entsOK_cons e_Z8_ok (entsOK_cons e_Z15_ok (entsOK_cons e_Z20_ok (entsOK_cons e_Z12_ok (entsOK_cons e_Z21_ok (entsOK_cons e_Z29_ok (entsOK_cons e_Z31_ok (entsOK_cons e_Z33_ok (entsOK_cons e_Z35_ok entsOK_nil)))))))))) (lentsOK_cons e_Z27_ok lentsOK_nil) ?_⟩
 have hq := q_Z36 x0
 rw [c_Z36_bind] at hq
 rw [show c_Z36 x0 some = some y from hy] at hq
 exact hq
end
end Go.Proofs.Ytpigfmlahmapaaa
