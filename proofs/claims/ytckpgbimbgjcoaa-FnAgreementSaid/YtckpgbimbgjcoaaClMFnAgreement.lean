/- Models of Go functions and their contracts, printed by a program of this session. -/
import Derived.Test.YtckpgbimbgjcoaaClA
set_option linter.unusedVariables false
set_option maxRecDepth 100000
namespace Go.Proofs.Ytckpgbimbgjcoaa
open Go Go.Rai
noncomputable section
/-!-/
def c_Z0 {R : Type} (x0 : List D) (k : Bool → Option R) : Option R :=
 k (decide ((65536 : Int) < (↑x0.length : Int)))
theorem c_Z0_bind {R : Type} (x0 : List D) (k : Bool → Option R) : c_Z0 x0 k = (c_Z0 x0 some).bind k := by
 unfold c_Z0
 repeat' first|exact bnd_tail|exact bnd_none|exact bnd_leaf|apply bnd_ite|apply bnd_cond|apply bnd_sum|(apply bnd_bind;intro _)|intro _
def Z0 (x0 : List D) : Option (Bool) := c_Z0 x0 some
def e_Z0 : Ent := ⟨7, [.rd (.int .u8)], [(.bool, [.undef])], fun _ ds k => dL (fun x0 ds => dE ((Z0 x0).bind (fun y => k 0 [.B y])) ds) ds⟩
theorem q_Z0 (x0 : List D) : runFn (ocOf []) (olOf []) A 7 Try.f7 (Sh.mks e_Z0.sh [.L x0]).1 (fun v os => some (v, os)) = c_Z0 x0 (fun y => retO e_Z0 0 [.B y]) := by kernel_rfl
theorem e_Z0_ok : e_Z0.ok Try.prog A := by
 intro R ds k r h
 unfold e_Z0 at h
 obtain ⟨x0, d0, rfl, h0⟩ := dL_some h
 obtain ⟨rfl, hE⟩ := dE_some h0
 obtain ⟨y, hy, hk⟩ := bnd_some hE
 have hq := q_Z0 x0
 rw [c_Z0_bind] at hq
 rw [show c_Z0 x0 some = some y from hy] at hq
 refine ⟨0, _, _, _, hk, rfl, fn_ok px (fx := ⟨Try.func7, by kernel_rfl, by kernel_rfl⟩) entsOK_nil lentsOK_nil ?_⟩
 exact hq

/-!-/
def c_Z1 {R : Type} (x0 : List D) (x1 : Int) (x2 : Int) (k : Int × List D × Int × Int → Option R) : Option R :=
 bif decide (x1 < (↑x0.length : Int)) then
 if 0 ≤ x1 ∧ x1 < (↑x0.length : Int) then
 bif decide (IntKind.i64.wrap (x1 + 1) ≤ (↑x0.length : Int)) then
 k (IntKind.i64.wrap (x0.getD x1.toNat (D.int 0)).toInt, x0, IntKind.i64.wrap (x1 + 1), IntKind.u64.wrap (IntKind.u64.wrap (IntKind.u64.wrap (x2 * (6364136223846793005 : Int)) + IntKind.u64.wrap (IntKind.i64.wrap (x0.getD x1.toNat (D.int 0)).toInt)) + (876876 : Int)))
 else
 if (0 : Int) ≤ (40 : Int) then
 k (IntKind.i64.wrap (IntKind.u64.wrap (↑(BitVec.ofInt IntKind.u64.bits ((IntKind.u64.wrap (IntKind.u64.wrap (IntKind.u64.wrap (x2 * (6364136223846793005 : Int)) + IntKind.u64.wrap (IntKind.i64.wrap (x0.getD x1.toNat (D.int 0)).toInt)) + (876876 : Int))).fdiv ((2 : Int) ^ Min.min (Int.toNat (40 : Int)) IntKind.u64.bits)) &&& BitVec.ofInt IntKind.u64.bits (255 : Int)).toNat : Int)), x0, IntKind.i64.wrap (x1 + 1), IntKind.u64.wrap (IntKind.u64.wrap (IntKind.u64.wrap (x2 * (6364136223846793005 : Int)) + IntKind.u64.wrap (IntKind.i64.wrap (x0.getD x1.toNat (D.int 0)).toInt)) + (876876 : Int)))
 else
 none
 else
 none
 else
 bif decide (IntKind.i64.wrap (x1 + 1) ≤ (↑x0.length : Int)) then
 k ((0 : Int), x0, IntKind.i64.wrap (x1 + 1), IntKind.u64.wrap (IntKind.u64.wrap (IntKind.u64.wrap (x2 * (6364136223846793005 : Int)) + IntKind.u64.wrap (0 : Int)) + (876876 : Int)))
 else
 if (0 : Int) ≤ (40 : Int) then
 k (IntKind.i64.wrap (IntKind.u64.wrap (↑(BitVec.ofInt IntKind.u64.bits ((IntKind.u64.wrap (IntKind.u64.wrap (IntKind.u64.wrap (x2 * (6364136223846793005 : Int)) + IntKind.u64.wrap (0 : Int)) + (876876 : Int))).fdiv ((2 : Int) ^ Min.min (Int.toNat (40 : Int)) IntKind.u64.bits)) &&& BitVec.ofInt IntKind.u64.bits (255 : Int)).toNat : Int)), x0, IntKind.i64.wrap (x1 + 1), IntKind.u64.wrap (IntKind.u64.wrap (IntKind.u64.wrap (x2 * (6364136223846793005 : Int)) + IntKind.u64.wrap (0 : Int)) + (876876 : Int)))
 else
 none
theorem c_Z1_bind {R : Type} (x0 : List D) (x1 : Int) (x2 : Int) (k : Int × List D × Int × Int → Option R) : c_Z1 x0 x1 x2 k = (c_Z1 x0 x1 x2 some).bind k := by
 unfold c_Z1
 repeat' first|exact bnd_tail|exact bnd_none|exact bnd_leaf|apply bnd_ite|apply bnd_cond|apply bnd_sum|(apply bnd_bind;intro _)|intro _
def Z1 (x0 : List D) (x1 : Int) (x2 : Int) : Option (Int × List D × Int × Int) := c_Z1 x0 x1 x2 some
def e_Z1 : Ent := ⟨95, [.obox (.agg [.rd (.int .u8), .int .i64, .int .u64])], [(.int .i64, [.obox (.agg [.rd (.int .u8), .int .i64, .int .u64])])], fun _ ds k => dL (fun x0 ds => dI (fun x1 ds => dI (fun x2 ds => dE ((Z1 x0 x1 x2).bind (fun y => k 0 [.I y.1, .L y.2.1, .I y.2.2.1, .I y.2.2.2])) ds) ds) ds) ds⟩
theorem q_Z1 (x0 : List D) (x1 : Int) (x2 : Int) : runFn (ocOf []) (olOf []) A 95 Try.f95 (Sh.mks e_Z1.sh [.L x0, .I x1, .I x2]).1 (fun v os => some (v, os)) = c_Z1 x0 x1 x2 (fun y => retO e_Z1 0 [.I y.1, .L y.2.1, .I y.2.2.1, .I y.2.2.2]) := by kernel_rfl
theorem e_Z1_ok : e_Z1.ok Try.prog A := by
 intro R ds k r h
 unfold e_Z1 at h
 obtain ⟨x0, d0, rfl, h0⟩ := dL_some h
 obtain ⟨x1, d1, rfl, h1⟩ := dI_some h0
 obtain ⟨x2, d2, rfl, h2⟩ := dI_some h1
 obtain ⟨rfl, hE⟩ := dE_some h2
 obtain ⟨y, hy, hk⟩ := bnd_some hE
 have hq := q_Z1 x0 x1 x2
 rw [c_Z1_bind] at hq
 rw [show c_Z1 x0 x1 x2 some = some y from hy] at hq
 refine ⟨0, _, _, _, hk, rfl, fn_ok px (fx := ⟨Try.func95, by kernel_rfl, by kernel_rfl⟩) entsOK_nil lentsOK_nil ?_⟩
 exact hq

/-!-/
def c_Z2 {R : Type} (x0 : List D) (x1 : Int) (x2 : Int) (x3 : Int) (k : Int × List D × Int × Int → Option R) : Option R :=
 bif decide (x3 ≤ (1 : Int)) then
 k ((0 : Int), x0, x1, x2)
 else
 (Z1 x0 x1 x2).bind (fun y0 =>
 bif decide ((200 : Int) < x3) then
 (Z1 y0.snd.fst y0.snd.snd.fst y0.snd.snd.snd).bind (fun y1 =>
 if x3 ≠ (0 : Int) then
 k ((IntKind.i64.wrap (IntKind.i64.wrap (y0.fst * (256 : Int)) + y1.fst)).tmod x3, y1.snd.fst, y1.snd.snd.fst, y1.snd.snd.snd)
 else
 none)
 else
 if x3 ≠ (0 : Int) then
 k (y0.fst.tmod x3, y0.snd.fst, y0.snd.snd.fst, y0.snd.snd.snd)
 else
 none)
theorem c_Z2_bind {R : Type} (x0 : List D) (x1 : Int) (x2 : Int) (x3 : Int) (k : Int × List D × Int × Int → Option R) : c_Z2 x0 x1 x2 x3 k = (c_Z2 x0 x1 x2 x3 some).bind k := by
 unfold c_Z2
 repeat' first|exact bnd_tail|exact bnd_none|exact bnd_leaf|apply bnd_ite|apply bnd_cond|apply bnd_sum|(apply bnd_bind;intro _)|intro _
def Z2 (x0 : List D) (x1 : Int) (x2 : Int) (x3 : Int) : Option (Int × List D × Int × Int) := c_Z2 x0 x1 x2 x3 some
def e_Z2 : Ent := ⟨58, [.obox (.agg [.rd (.int .u8), .int .i64, .int .u64]), .int .i64], [(.int .i64, [.obox (.agg [.rd (.int .u8), .int .i64, .int .u64]), .undef])], fun _ ds k => dL (fun x0 ds => dI (fun x1 ds => dI (fun x2 ds => dI (fun x3 ds => dE ((Z2 x0 x1 x2 x3).bind (fun y => k 0 [.I y.1, .L y.2.1, .I y.2.2.1, .I y.2.2.2])) ds) ds) ds) ds) ds⟩
theorem q_Z2 (x0 : List D) (x1 : Int) (x2 : Int) (x3 : Int) : runFn (ocOf [e_Z1]) (olOf []) A 58 Try.f58 (Sh.mks e_Z2.sh [.L x0, .I x1, .I x2, .I x3]).1 (fun v os => some (v, os)) = c_Z2 x0 x1 x2 x3 (fun y => retO e_Z2 0 [.I y.1, .L y.2.1, .I y.2.2.1, .I y.2.2.2]) := by kernel_rfl
theorem e_Z2_ok : e_Z2.ok Try.prog A := by
 intro R ds k r h
 unfold e_Z2 at h
 obtain ⟨x0, d0, rfl, h0⟩ := dL_some h
 obtain ⟨x1, d1, rfl, h1⟩ := dI_some h0
 obtain ⟨x2, d2, rfl, h2⟩ := dI_some h1
 obtain ⟨x3, d3, rfl, h3⟩ := dI_some h2
 obtain ⟨rfl, hE⟩ := dE_some h3
 obtain ⟨y, hy, hk⟩ := bnd_some hE
 have hq := q_Z2 x0 x1 x2 x3
 rw [c_Z2_bind] at hq
 rw [show c_Z2 x0 x1 x2 x3 some = some y from hy] at hq
 refine ⟨0, _, _, _, hk, rfl, fn_ok px (fx := ⟨Try.func58, by kernel_rfl, by kernel_rfl⟩) (entsOK_cons e_Z1_ok entsOK_nil) lentsOK_nil ?_⟩
 exact hq

/-!-/
def c_Z3 {R : Type} (x0 : List D) (x1 : Int) (x2 : Int) (x3 : List D) (k : Int × List D × Int × Int → Option R) : Option R :=
 (Z2 x0 x1 x2 (↑x3.length : Int)).bind (fun y0 =>
 if 0 ≤ y0.fst ∧ y0.fst < (↑x3.length : Int) then
 if y0.fst.toNat + 1 ≤ x3.length then
 k ((x3.getD y0.fst.toNat (D.int 0)).toInt, y0.snd.fst, y0.snd.snd.fst, y0.snd.snd.snd)
 else
 none
 else
 none)
theorem c_Z3_bind {R : Type} (x0 : List D) (x1 : Int) (x2 : Int) (x3 : List D) (k : Int × List D × Int × Int → Option R) : c_Z3 x0 x1 x2 x3 k = (c_Z3 x0 x1 x2 x3 some).bind k := by
 unfold c_Z3
 repeat' first|exact bnd_tail|exact bnd_none|exact bnd_leaf|apply bnd_ite|apply bnd_cond|apply bnd_sum|(apply bnd_bind;intro _)|intro _
def Z3 (x0 : List D) (x1 : Int) (x2 : Int) (x3 : List D) : Option (Int × List D × Int × Int) := c_Z3 x0 x1 x2 x3 some
def e_Z3 : Ent := ⟨57, [.obox (.agg [.rd (.int .u8), .int .i64, .int .u64]), .own (.int .i64)], [(.int .i64, [.obox (.agg [.rd (.int .u8), .int .i64, .int .u64]), .undef])], fun _ ds k => dL (fun x0 ds => dI (fun x1 ds => dI (fun x2 ds => dL (fun x3 ds => dE ((Z3 x0 x1 x2 x3).bind (fun y => k 0 [.I y.1, .L y.2.1, .I y.2.2.1, .I y.2.2.2])) ds) ds) ds) ds) ds⟩
theorem q_Z3 (x0 : List D) (x1 : Int) (x2 : Int) (x3 : List D) : runFn (ocOf [e_Z2]) (olOf []) A 57 Try.f57 (Sh.mks e_Z3.sh [.L x0, .I x1, .I x2, .L x3]).1 (fun v os => some (v, os)) = c_Z3 x0 x1 x2 x3 (fun y => retO e_Z3 0 [.I y.1, .L y.2.1, .I y.2.2.1, .I y.2.2.2]) := by kernel_rfl
theorem e_Z3_ok : e_Z3.ok Try.prog A := by
 intro R ds k r h
 unfold e_Z3 at h
 obtain ⟨x0, d0, rfl, h0⟩ := dL_some h
 obtain ⟨x1, d1, rfl, h1⟩ := dI_some h0
 obtain ⟨x2, d2, rfl, h2⟩ := dI_some h1
 obtain ⟨x3, d3, rfl, h3⟩ := dL_some h2
 obtain ⟨rfl, hE⟩ := dE_some h3
 obtain ⟨y, hy, hk⟩ := bnd_some hE
 have hq := q_Z3 x0 x1 x2 x3
 rw [c_Z3_bind] at hq
 rw [show c_Z3 x0 x1 x2 x3 some = some y from hy] at hq
 refine ⟨0, _, _, _, hk, rfl, fn_ok px (fx := ⟨Try.func57, by kernel_rfl, by kernel_rfl⟩) (entsOK_cons e_Z2_ok entsOK_nil) lentsOK_nil ?_⟩
 exact hq

/-!-/
def c_Z4 {R : Type} (x0 : Int) (x1 : Int) (k : Int → Option R) : Option R :=
 bif decide (x1 < x0) then
 k x0
 else
 k x1
theorem c_Z4_bind {R : Type} (x0 : Int) (x1 : Int) (k : Int → Option R) : c_Z4 x0 x1 k = (c_Z4 x0 x1 some).bind k := by
 unfold c_Z4
 repeat' first|exact bnd_tail|exact bnd_none|exact bnd_leaf|apply bnd_ite|apply bnd_cond|apply bnd_sum|(apply bnd_bind;intro _)|intro _
def Z4 (x0 : Int) (x1 : Int) : Option (Int) := c_Z4 x0 x1 some
def e_Z4 : Ent := ⟨36, [.int .i64, .int .i64], [(.int .i64, [.undef, .undef])], fun _ ds k => dI (fun x0 ds => dI (fun x1 ds => dE ((Z4 x0 x1).bind (fun y => k 0 [.I y])) ds) ds) ds⟩
theorem q_Z4 (x0 : Int) (x1 : Int) : runFn (ocOf []) (olOf []) A 36 Try.f36 (Sh.mks e_Z4.sh [.I x0, .I x1]).1 (fun v os => some (v, os)) = c_Z4 x0 x1 (fun y => retO e_Z4 0 [.I y]) := by kernel_rfl
theorem e_Z4_ok : e_Z4.ok Try.prog A := by
 intro R ds k r h
 unfold e_Z4 at h
 obtain ⟨x0, d0, rfl, h0⟩ := dI_some h
 obtain ⟨x1, d1, rfl, h1⟩ := dI_some h0
 obtain ⟨rfl, hE⟩ := dE_some h1
 obtain ⟨y, hy, hk⟩ := bnd_some hE
 have hq := q_Z4 x0 x1
 rw [c_Z4_bind] at hq
 rw [show c_Z4 x0 x1 some = some y from hy] at hq
 refine ⟨0, _, _, _, hk, rfl, fn_ok px (fx := ⟨Try.func36, by kernel_rfl, by kernel_rfl⟩) entsOK_nil lentsOK_nil ?_⟩
 exact hq

/-!-/
def c_Z5 {R : Type} (F : Int → Int → Int → List D → Int → Int → List D → Option (List D × Int × Int × List D)) (x0 : Int) (x1 : Int) (x2 : Int) (x3 : List D) (x4 : Int) (x5 : Int) (x6 : List D) (k : List D × Int × Int × List D → Option R) : Option R :=
 bif decide ((0 : Int) < x2) then
 (Z2 x3 x4 x5 (4 : Int)).bind (fun y0 =>
 if x6.length + [D.node [D.int x0, D.int x1, D.int y0.fst]].length ≤ (4294967296 : Nat) then
 (Z3 y0.snd.fst y0.snd.snd.fst y0.snd.snd.snd ([D.int (1 : Int), D.int (2 : Int), D.int (4 : Int), D.int (5 : Int), D.int (10 : Int)])).bind (fun y1 =>
 (Z3 y1.snd.fst y1.snd.snd.fst y1.snd.snd.snd ([D.int (-20 : Int), D.int (-10 : Int), D.int (-5 : Int), D.int (5 : Int), D.int 0, D.int (-3 : Int)])).bind (fun y2 =>
 (Z4 (IntKind.i64.wrap (x1 + y2.fst)) (0 : Int)).bind (fun y3 =>
 (F (IntKind.i64.wrap (x0 + y1.fst)) y3 (IntKind.i64.wrap (x2 - 1)) y2.snd.fst y2.snd.snd.fst y2.snd.snd.snd (x6 ++ [D.node [D.int x0, D.int x1, D.int y0.fst]])).bind k)))
 else
 none)
 else
 k (x3, x4, x5, x6)
theorem c_Z5_bind {R : Type} (F : Int → Int → Int → List D → Int → Int → List D → Option (List D × Int × Int × List D)) (x0 : Int) (x1 : Int) (x2 : Int) (x3 : List D) (x4 : Int) (x5 : Int) (x6 : List D) (k : List D × Int × Int × List D → Option R) : c_Z5 F x0 x1 x2 x3 x4 x5 x6 k = (c_Z5 F x0 x1 x2 x3 x4 x5 x6 some).bind k := by
 unfold c_Z5
 repeat' first|exact bnd_tail|exact bnd_none|exact bnd_leaf|apply bnd_ite|apply bnd_cond|apply bnd_sum|(apply bnd_bind;intro _)|intro _
def n_Z5 : Nat → Int → Int → Int → List D → Int → Int → List D → Option (List D × Int × Int × List D)
 | 0, _, _, _, _, _, _, _ => none
 | n + 1, x0, x1, x2, x3, x4, x5, x6 => c_Z5 (n_Z5 n) x0 x1 x2 x3 x4 x5 x6 some
noncomputable def Z5 (x0 : Int) (x1 : Int) (x2 : Int) (x3 : List D) (x4 : Int) (x5 : Int) (x6 : List D) : Option (List D × Int × Int × List D) := ev (fun n => n_Z5 n x0 x1 x2 x3 x4 x5 x6)
def m_Z5 (F : Int → Int → Int → List D → Int → Int → List D → Option (List D × Int × Int × List D)) : Lent := ⟨5, ⟨(.ptr 1000 [0] :: .undef :: .undef :: .full 1001 [] (.struct [.int .i64, .int .i64, .int .i64]) :: .int .i64 :: .int .i64 :: .int .i64 :: uu 34 ([])), [(1000, .obox (.agg [.rd (.int .u8), .int .i64, .int .u64])), (1001, .own (.struct [.int .i64, .int .i64, .int .i64]))]⟩, [(.exit 0, ⟨(.ptr 1000 [0] :: .undef :: .undef :: .full 1001 [] (.struct [.int .i64, .int .i64, .int .i64]) :: uu 37 ([])), [(1000, .obox (.agg [.rd (.int .u8), .int .i64, .int .u64])), (1001, .own (.struct [.int .i64, .int .i64, .int .i64]))]⟩)], fun _ ds k => dI (fun x0 ds => dI (fun x1 ds => dI (fun x2 ds => dL (fun x3 ds => dI (fun x4 ds => dI (fun x5 ds => dL (fun x6 ds => dE ((F x0 x1 x2 x3 x4 x5 x6).bind (fun y => k 0 [.L y.1, .I y.2.1, .I y.2.2.1, .L y.2.2.2])) ds) ds) ds) ds) ds) ds) ds) ds⟩
theorem q_Z5 (F : Int → Int → Int → List D → Int → Int → List D → Option (List D × Int × Int × List D)) (x0 : Int) (x1 : Int) (x2 : Int) (x3 : List D) (x4 : Int) (x5 : Int) (x6 : List D) : runLoop (ocOf [e_Z2, e_Z3, e_Z4]) (olOf [m_Z5 F]) A 56 (codeAt (bodyOf Try.f56) 5) ((m_Z5 F).sh.mk' [.I x0, .I x1, .I x2, .L x3, .I x4, .I x5, .L x6]) (fun e σ' => some (e, σ')) = c_Z5 F x0 x1 x2 x3 x4 x5 x6 (fun y => some (.exit 0, SSt.mk' ⟨(.ptr 1000 [0] :: .undef :: .undef :: .full 1001 [] (.struct [.int .i64, .int .i64, .int .i64]) :: uu 37 ([])), [(1000, .obox (.agg [.rd (.int .u8), .int .i64, .int .u64])), (1001, .own (.struct [.int .i64, .int .i64, .int .i64]))]⟩ [.L y.1, .I y.2.1, .I y.2.2.1, .L y.2.2.2])) := by kernel_rfl
theorem m_Z5_ok : ∀ n, (m_Z5 (n_Z5 n)).ok Try.prog (codeAt (bodyOf Try.f56) 5) := by
 intro n
 induction n with
 | zero =>
  intro R ds k r h
  unfold m_Z5 at h
  obtain ⟨x0, d0, rfl, h0⟩ := dI_some h
  obtain ⟨x1, d1, rfl, h1⟩ := dI_some h0
  obtain ⟨x2, d2, rfl, h2⟩ := dI_some h1
  obtain ⟨x3, d3, rfl, h3⟩ := dL_some h2
  obtain ⟨x4, d4, rfl, h4⟩ := dI_some h3
  obtain ⟨x5, d5, rfl, h5⟩ := dI_some h4
  obtain ⟨x6, d6, rfl, h6⟩ := dL_some h5
  obtain ⟨rfl, hE⟩ := dE_some h6
  obtain ⟨y, hy, hk⟩ := bnd_some hE
  cases hy
 | succ n ih =>
  intro R ds k r h
  unfold m_Z5 at h
  obtain ⟨x0, d0, rfl, h0⟩ := dI_some h
  obtain ⟨x1, d1, rfl, h1⟩ := dI_some h0
  obtain ⟨x2, d2, rfl, h2⟩ := dI_some h1
  obtain ⟨x3, d3, rfl, h3⟩ := dL_some h2
  obtain ⟨x4, d4, rfl, h4⟩ := dI_some h3
  obtain ⟨x5, d5, rfl, h5⟩ := dI_some h4
  obtain ⟨x6, d6, rfl, h6⟩ := dL_some h5
  obtain ⟨rfl, hE⟩ := dE_some h6
  obtain ⟨y, hy, hk⟩ := bnd_some hE
  have hq := q_Z5 (n_Z5 n) x0 x1 x2 x3 x4 x5 x6
  rw [c_Z5_bind] at hq
  rw [show c_Z5 (n_Z5 n) x0 x1 x2 x3 x4 x5 x6 some = some y from hy] at hq
  refine ⟨0, _, _, _, hk, rfl, loop_ok px (fx := ⟨Try.func56, by kernel_rfl, by kernel_rfl⟩) (entsOK_cons e_Z2_ok (entsOK_cons e_Z3_ok (entsOK_cons e_Z4_ok entsOK_nil))) (lentsOK_cons ih lentsOK_nil) (by kernel_rfl) ?_⟩
  exact hq
noncomputable def e_Z5 : Lent := m_Z5 (Z5)
theorem e_Z5_ok : (e_Z5).ok Try.prog (codeAt (bodyOf Try.f56) 5) := by
 intro R ds k r h
 unfold e_Z5 m_Z5 at h
 obtain ⟨x0, d0, rfl, h0⟩ := dI_some h
 obtain ⟨x1, d1, rfl, h1⟩ := dI_some h0
 obtain ⟨x2, d2, rfl, h2⟩ := dI_some h1
 obtain ⟨x3, d3, rfl, h3⟩ := dL_some h2
 obtain ⟨x4, d4, rfl, h4⟩ := dI_some h3
 obtain ⟨x5, d5, rfl, h5⟩ := dI_some h4
 obtain ⟨x6, d6, rfl, h6⟩ := dL_some h5
 obtain ⟨rfl, hE⟩ := dE_some h6
 obtain ⟨y, hy, hk⟩ := bnd_some hE
 obtain ⟨n, hn⟩ := ev_some hy
 exact m_Z5_ok n R _ k r (show (n_Z5 n x0 x1 x2 x3 x4 x5 x6).bind _ = _ by rw [hn]; exact hk)

/-!-/
def c_Z6 {R : Type} (x0 : List D) (x1 : Int) (x2 : Int) (k : List D × List D × Int × Int → Option R) : Option R :=
 (Z3 x0 x1 x2 ([D.int (-500 : Int), D.int 0, D.int (1000 : Int), D.int (-20000 : Int), D.int (2000 : Int)])).bind (fun y0 =>
 (Z3 y0.snd.fst y0.snd.snd.fst y0.snd.snd.snd ([D.int (3000 : Int), D.int (2000 : Int), D.int (1000 : Int), D.int (60 : Int)])).bind (fun y1 =>
 (Z2 y1.snd.fst y1.snd.snd.fst y1.snd.snd.snd (7 : Int)).bind (fun y2 =>
 (Z5 y0.fst y1.fst (IntKind.i64.wrap ((2 : Int) + y2.fst)) y2.snd.fst y2.snd.snd.fst y2.snd.snd.snd []).bind (fun y3 =>
 k (y3.snd.snd.snd, y3.fst, y3.snd.fst, y3.snd.snd.fst)))))
theorem c_Z6_bind {R : Type} (x0 : List D) (x1 : Int) (x2 : Int) (k : List D × List D × Int × Int → Option R) : c_Z6 x0 x1 x2 k = (c_Z6 x0 x1 x2 some).bind k := by
 unfold c_Z6
 repeat' first|exact bnd_tail|exact bnd_none|exact bnd_leaf|apply bnd_ite|apply bnd_cond|apply bnd_sum|(apply bnd_bind;intro _)|intro _
def Z6 (x0 : List D) (x1 : Int) (x2 : Int) : Option (List D × List D × Int × Int) := c_Z6 x0 x1 x2 some
def e_Z6 : Ent := ⟨56, [.obox (.agg [.rd (.int .u8), .int .i64, .int .u64])], [(.own (.struct [.int .i64, .int .i64, .int .i64]), [.obox (.agg [.rd (.int .u8), .int .i64, .int .u64])])], fun _ ds k => dL (fun x0 ds => dI (fun x1 ds => dI (fun x2 ds => dE ((Z6 x0 x1 x2).bind (fun y => k 0 [.L y.1, .L y.2.1, .I y.2.2.1, .I y.2.2.2])) ds) ds) ds) ds⟩
theorem q_Z6 (x0 : List D) (x1 : Int) (x2 : Int) : runFn (ocOf [e_Z3, e_Z2]) (olOf [e_Z5]) A 56 Try.f56 (Sh.mks e_Z6.sh [.L x0, .I x1, .I x2]).1 (fun v os => some (v, os)) = c_Z6 x0 x1 x2 (fun y => retO e_Z6 0 [.L y.1, .L y.2.1, .I y.2.2.1, .I y.2.2.2]) := by kernel_rfl
theorem e_Z6_ok : e_Z6.ok Try.prog A := by
 intro R ds k r h
 unfold e_Z6 at h
 obtain ⟨x0, d0, rfl, h0⟩ := dL_some h
 obtain ⟨x1, d1, rfl, h1⟩ := dI_some h0
 obtain ⟨x2, d2, rfl, h2⟩ := dI_some h1
 obtain ⟨rfl, hE⟩ := dE_some h2
 obtain ⟨y, hy, hk⟩ := bnd_some hE
 have hq := q_Z6 x0 x1 x2
 rw [c_Z6_bind] at hq
 rw [show c_Z6 x0 x1 x2 some = some y from hy] at hq
 refine ⟨0, _, _, _, hk, rfl, fn_ok px (fx := ⟨Try.func56, by kernel_rfl, by kernel_rfl⟩) (entsOK_cons e_Z3_ok (entsOK_cons e_Z2_ok entsOK_nil)) (lentsOK_cons e_Z5_ok lentsOK_nil) ?_⟩
 exact hq

/-!-/
def c_Z7 {R : Type} (x0 : List D) (x1 : Int) (x2 : Int) (x3 : List D) (k : Int × Int × List D × Int × Int → Option R) : Option R :=
 (Z2 x0 x1 x2 (↑x3.length : Int)).bind (fun y0 =>
 if 0 ≤ y0.fst ∧ y0.fst < (↑x3.length : Int) then
 (Z2 y0.snd.fst y0.snd.snd.fst y0.snd.snd.snd (21 : Int)).bind (fun y1 =>
 (Z2 y1.snd.fst y1.snd.snd.fst y1.snd.snd.snd (12 : Int)).bind (fun y2 =>
 (Z2 y2.snd.fst y2.snd.snd.fst y2.snd.snd.snd (40 : Int)).bind (fun y3 =>
 bif decide (y3.fst = (0 : Int)) then
 (Z3 y3.snd.fst y3.snd.snd.fst y3.snd.snd.snd ([D.int 0, D.int (1001 : Int), D.int (1000 : Int)])).bind (fun y4 =>
 k (IntKind.i64.wrap (IntKind.i64.wrap (((x3.getD y0.fst.toNat (D.int 0)).fld (1 : Nat)).toInt + y1.fst) - (10 : Int)), y4.fst, y4.snd.fst, y4.snd.snd.fst, y4.snd.snd.snd))
 else
 bif decide (y3.fst = (1 : Int)) then
 (Z3 y3.snd.fst y3.snd.snd.fst y3.snd.snd.snd ([D.int (-1 : Int), D.int (60001 : Int), D.int (60000 : Int)])).bind (fun y5 =>
 k (y5.fst, IntKind.i64.wrap ((1 : Int) + y2.fst), y5.snd.fst, y5.snd.snd.fst, y5.snd.snd.snd))
 else
 k (IntKind.i64.wrap (IntKind.i64.wrap (((x3.getD y0.fst.toNat (D.int 0)).fld (1 : Nat)).toInt + y1.fst) - (10 : Int)), IntKind.i64.wrap ((1 : Int) + y2.fst), y3.snd.fst, y3.snd.snd.fst, y3.snd.snd.snd))))
 else
 none)
theorem c_Z7_bind {R : Type} (x0 : List D) (x1 : Int) (x2 : Int) (x3 : List D) (k : Int × Int × List D × Int × Int → Option R) : c_Z7 x0 x1 x2 x3 k = (c_Z7 x0 x1 x2 x3 some).bind k := by
 unfold c_Z7
 repeat' first|exact bnd_tail|exact bnd_none|exact bnd_leaf|apply bnd_ite|apply bnd_cond|apply bnd_sum|(apply bnd_bind;intro _)|intro _
def Z7 (x0 : List D) (x1 : Int) (x2 : Int) (x3 : List D) : Option (Int × Int × List D × Int × Int) := c_Z7 x0 x1 x2 x3 some
def e_Z7 : Ent := ⟨39, [.obox (.agg [.rd (.int .u8), .int .i64, .int .u64]), .rd (.struct [.int .i64, .int .i64, .int .i64])], [(.agg [.int .i64, .int .i64], [.obox (.agg [.rd (.int .u8), .int .i64, .int .u64]), .undef])], fun _ ds k => dL (fun x0 ds => dI (fun x1 ds => dI (fun x2 ds => dL (fun x3 ds => dE ((Z7 x0 x1 x2 x3).bind (fun y => k 0 [.I y.1, .I y.2.1, .L y.2.2.1, .I y.2.2.2.1, .I y.2.2.2.2])) ds) ds) ds) ds) ds⟩
theorem q_Z7 (x0 : List D) (x1 : Int) (x2 : Int) (x3 : List D) : runFn (ocOf [e_Z2, e_Z3]) (olOf []) A 39 Try.f39 (Sh.mks e_Z7.sh [.L x0, .I x1, .I x2, .L x3]).1 (fun v os => some (v, os)) = c_Z7 x0 x1 x2 x3 (fun y => retO e_Z7 0 [.I y.1, .I y.2.1, .L y.2.2.1, .I y.2.2.2.1, .I y.2.2.2.2]) := by kernel_rfl
theorem e_Z7_ok : e_Z7.ok Try.prog A := by
 intro R ds k r h
 unfold e_Z7 at h
 obtain ⟨x0, d0, rfl, h0⟩ := dL_some h
 obtain ⟨x1, d1, rfl, h1⟩ := dI_some h0
 obtain ⟨x2, d2, rfl, h2⟩ := dI_some h1
 obtain ⟨x3, d3, rfl, h3⟩ := dL_some h2
 obtain ⟨rfl, hE⟩ := dE_some h3
 obtain ⟨y, hy, hk⟩ := bnd_some hE
 have hq := q_Z7 x0 x1 x2 x3
 rw [c_Z7_bind] at hq
 rw [show c_Z7 x0 x1 x2 x3 some = some y from hy] at hq
 refine ⟨0, _, _, _, hk, rfl, fn_ok px (fx := ⟨Try.func39, by kernel_rfl, by kernel_rfl⟩) (entsOK_cons e_Z2_ok (entsOK_cons e_Z3_ok entsOK_nil)) lentsOK_nil ?_⟩
 exact hq

/-!-/
def c_Z8 {R : Type} (x0 : List D) (x1 : Int) (x2 : Int) (x3 : Int) (k : Bool × List D × Int × Int → Option R) : Option R :=
 (Z2 x0 x1 x2 x3).bind (fun y0 =>
 k (decide (y0.fst = (0 : Int)), y0.snd.fst, y0.snd.snd.fst, y0.snd.snd.snd))
theorem c_Z8_bind {R : Type} (x0 : List D) (x1 : Int) (x2 : Int) (x3 : Int) (k : Bool × List D × Int × Int → Option R) : c_Z8 x0 x1 x2 x3 k = (c_Z8 x0 x1 x2 x3 some).bind k := by
 unfold c_Z8
 repeat' first|exact bnd_tail|exact bnd_none|exact bnd_leaf|apply bnd_ite|apply bnd_cond|apply bnd_sum|(apply bnd_bind;intro _)|intro _
def Z8 (x0 : List D) (x1 : Int) (x2 : Int) (x3 : Int) : Option (Bool × List D × Int × Int) := c_Z8 x0 x1 x2 x3 some
def e_Z8 : Ent := ⟨59, [.obox (.agg [.rd (.int .u8), .int .i64, .int .u64]), .int .i64], [(.bool, [.obox (.agg [.rd (.int .u8), .int .i64, .int .u64]), .undef])], fun _ ds k => dL (fun x0 ds => dI (fun x1 ds => dI (fun x2 ds => dI (fun x3 ds => dE ((Z8 x0 x1 x2 x3).bind (fun y => k 0 [.B y.1, .L y.2.1, .I y.2.2.1, .I y.2.2.2])) ds) ds) ds) ds) ds⟩
theorem q_Z8 (x0 : List D) (x1 : Int) (x2 : Int) (x3 : Int) : runFn (ocOf [e_Z2]) (olOf []) A 59 Try.f59 (Sh.mks e_Z8.sh [.L x0, .I x1, .I x2, .I x3]).1 (fun v os => some (v, os)) = c_Z8 x0 x1 x2 x3 (fun y => retO e_Z8 0 [.B y.1, .L y.2.1, .I y.2.2.1, .I y.2.2.2]) := by kernel_rfl
theorem e_Z8_ok : e_Z8.ok Try.prog A := by
 intro R ds k r h
 unfold e_Z8 at h
 obtain ⟨x0, d0, rfl, h0⟩ := dL_some h
 obtain ⟨x1, d1, rfl, h1⟩ := dI_some h0
 obtain ⟨x2, d2, rfl, h2⟩ := dI_some h1
 obtain ⟨x3, d3, rfl, h3⟩ := dI_some h2
 obtain ⟨rfl, hE⟩ := dE_some h3
 obtain ⟨y, hy, hk⟩ := bnd_some hE
 have hq := q_Z8 x0 x1 x2 x3
 rw [c_Z8_bind] at hq
 rw [show c_Z8 x0 x1 x2 x3 some = some y from hy] at hq
 refine ⟨0, _, _, _, hk, rfl, fn_ok px (fx := ⟨Try.func59, by kernel_rfl, by kernel_rfl⟩) (entsOK_cons e_Z2_ok entsOK_nil) lentsOK_nil ?_⟩
 exact hq

/-!-/
def c_Z9 {R : Type} (F : Int → List D → Int → Int → List D → List D → Option (List D)) (x0 : Int) (x1 : List D) (x2 : Int) (x3 : Int) (x4 : List D) (x5 : List D) (k : List D → Option R) : Option R :=
 bif decide ((0 : Int) < x0) then
 if (0 : Int) ≤ (0 : Int) ∧ (0 : Int) ≤ (1 : Int) ∧ (1 : Int) ≤ (↑x4.length : Int) then
 if (0 : Nat) + (Int.toNat (1 : Int) - (0 : Nat)) ≤ x4.length then
 (Z7 x1 x2 x3 (List.take (Int.toNat (1 : Int) - (0 : Nat)) (List.drop (0 : Nat) x4))).bind (fun y0 =>
 (Z8 y0.snd.snd.fst y0.snd.snd.snd.fst y0.snd.snd.snd.snd (6 : Int)).bind (fun y1 =>
 bif y1.fst then
 (Z3 y1.snd.fst y1.snd.snd.fst y1.snd.snd.snd ([D.int (30 : Int), D.int (100 : Int), D.int (1000 : Int)])).bind (fun y2 =>
 if x5.length + [D.node [D.int y0.fst, D.int y2.fst]].length ≤ (4294967296 : Nat) then
 (F (IntKind.i64.wrap (x0 - 1)) y2.snd.fst y2.snd.snd.fst y2.snd.snd.snd x4 (x5 ++ [D.node [D.int y0.fst, D.int y2.fst]])).bind k
 else
 none)
 else
 if x5.length + [D.node [D.int y0.fst, D.int y0.snd.fst]].length ≤ (4294967296 : Nat) then
 (F (IntKind.i64.wrap (x0 - 1)) y1.snd.fst y1.snd.snd.fst y1.snd.snd.snd x4 (x5 ++ [D.node [D.int y0.fst, D.int y0.snd.fst]])).bind k
 else
 none))
 else
 none
 else
 none
 else
 k x5
theorem c_Z9_bind {R : Type} (F : Int → List D → Int → Int → List D → List D → Option (List D)) (x0 : Int) (x1 : List D) (x2 : Int) (x3 : Int) (x4 : List D) (x5 : List D) (k : List D → Option R) : c_Z9 F x0 x1 x2 x3 x4 x5 k = (c_Z9 F x0 x1 x2 x3 x4 x5 some).bind k := by
 unfold c_Z9
 repeat' first|exact bnd_tail|exact bnd_none|exact bnd_leaf|apply bnd_ite|apply bnd_cond|apply bnd_sum|(apply bnd_bind;intro _)|intro _
def n_Z9 : Nat → Int → List D → Int → Int → List D → List D → Option (List D)
 | 0, _, _, _, _, _, _ => none
 | n + 1, x0, x1, x2, x3, x4, x5 => c_Z9 (n_Z9 n) x0 x1 x2 x3 x4 x5 some
noncomputable def Z9 (x0 : Int) (x1 : List D) (x2 : Int) (x3 : Int) (x4 : List D) (x5 : List D) : Option (List D) := ev (fun n => n_Z9 n x0 x1 x2 x3 x4 x5)
def m_Z9 (F : Int → List D → Int → Int → List D → List D → Option (List D)) : Lent := ⟨5, ⟨(.undef :: .undef :: .undef :: .ptr 1000 [0] :: .full 1001 [] (.struct [.int .i64, .int .i64, .int .i64]) :: .full 1002 [] (.struct [.int .i64, .int .i64]) :: .int .i64 :: uu 34 ([])), [(1000, .obox (.agg [.rd (.int .u8), .int .i64, .int .u64])), (1001, .own (.struct [.int .i64, .int .i64, .int .i64])), (1002, .own (.struct [.int .i64, .int .i64]))]⟩, [(.exit 0, ⟨(uu 5 (.full 1000 [] (.struct [.int .i64, .int .i64]) :: uu 35 ([]))), [(1000, .own (.struct [.int .i64, .int .i64]))]⟩)], fun _ ds k => dI (fun x0 ds => dL (fun x1 ds => dI (fun x2 ds => dI (fun x3 ds => dL (fun x4 ds => dL (fun x5 ds => dE ((F x0 x1 x2 x3 x4 x5).bind (fun y => k 0 [.L y])) ds) ds) ds) ds) ds) ds) ds⟩
theorem q_Z9 (F : Int → List D → Int → Int → List D → List D → Option (List D)) (x0 : Int) (x1 : List D) (x2 : Int) (x3 : Int) (x4 : List D) (x5 : List D) : runLoop (ocOf [e_Z7, e_Z8, e_Z3]) (olOf [m_Z9 F]) A 17 (codeAt (bodyOf Try.f17) 5) ((m_Z9 F).sh.mk' [.I x0, .L x1, .I x2, .I x3, .L x4, .L x5]) (fun e σ' => some (e, σ')) = c_Z9 F x0 x1 x2 x3 x4 x5 (fun y => some (.exit 0, SSt.mk' ⟨(uu 5 (.full 1000 [] (.struct [.int .i64, .int .i64]) :: uu 35 ([]))), [(1000, .own (.struct [.int .i64, .int .i64]))]⟩ [.L y])) := by kernel_rfl
theorem m_Z9_ok : ∀ n, (m_Z9 (n_Z9 n)).ok Try.prog (codeAt (bodyOf Try.f17) 5) := by
 intro n
 induction n with
 | zero =>
  intro R ds k r h
  unfold m_Z9 at h
  obtain ⟨x0, d0, rfl, h0⟩ := dI_some h
  obtain ⟨x1, d1, rfl, h1⟩ := dL_some h0
  obtain ⟨x2, d2, rfl, h2⟩ := dI_some h1
  obtain ⟨x3, d3, rfl, h3⟩ := dI_some h2
  obtain ⟨x4, d4, rfl, h4⟩ := dL_some h3
  obtain ⟨x5, d5, rfl, h5⟩ := dL_some h4
  obtain ⟨rfl, hE⟩ := dE_some h5
  obtain ⟨y, hy, hk⟩ := bnd_some hE
  cases hy
 | succ n ih =>
  intro R ds k r h
  unfold m_Z9 at h
  obtain ⟨x0, d0, rfl, h0⟩ := dI_some h
  obtain ⟨x1, d1, rfl, h1⟩ := dL_some h0
  obtain ⟨x2, d2, rfl, h2⟩ := dI_some h1
  obtain ⟨x3, d3, rfl, h3⟩ := dI_some h2
  obtain ⟨x4, d4, rfl, h4⟩ := dL_some h3
  obtain ⟨x5, d5, rfl, h5⟩ := dL_some h4
  obtain ⟨rfl, hE⟩ := dE_some h5
  obtain ⟨y, hy, hk⟩ := bnd_some hE
  have hq := q_Z9 (n_Z9 n) x0 x1 x2 x3 x4 x5
  rw [c_Z9_bind] at hq
  rw [show c_Z9 (n_Z9 n) x0 x1 x2 x3 x4 x5 some = some y from hy] at hq
  refine ⟨0, _, _, _, hk, rfl, loop_ok px (fx := ⟨Try.func17, by kernel_rfl, by kernel_rfl⟩) (entsOK_cons e_Z7_ok (entsOK_cons e_Z8_ok (entsOK_cons e_Z3_ok entsOK_nil))) (lentsOK_cons ih lentsOK_nil) (by kernel_rfl) ?_⟩
  exact hq
noncomputable def e_Z9 : Lent := m_Z9 (Z9)
theorem e_Z9_ok : (e_Z9).ok Try.prog (codeAt (bodyOf Try.f17) 5) := by
 intro R ds k r h
 unfold e_Z9 m_Z9 at h
 obtain ⟨x0, d0, rfl, h0⟩ := dI_some h
 obtain ⟨x1, d1, rfl, h1⟩ := dL_some h0
 obtain ⟨x2, d2, rfl, h2⟩ := dI_some h1
 obtain ⟨x3, d3, rfl, h3⟩ := dI_some h2
 obtain ⟨x4, d4, rfl, h4⟩ := dL_some h3
 obtain ⟨x5, d5, rfl, h5⟩ := dL_some h4
 obtain ⟨rfl, hE⟩ := dE_some h5
 obtain ⟨y, hy, hk⟩ := bnd_some hE
 obtain ⟨n, hn⟩ := ev_some hy
 exact m_Z9_ok n R _ k r (show (n_Z9 n x0 x1 x2 x3 x4 x5).bind _ = _ by rw [hn]; exact hk)

/-!-/
def c_Z10 {R : Type} (x0 : List D) (k : List D → Option R) : Option R :=
 (Z6 x0 (0 : Int) (0 : Int)).bind (fun y0 =>
 (Z2 y0.snd.fst y0.snd.snd.fst y0.snd.snd.snd (40 : Int)).bind (fun y1 =>
 if (20 : Int) ≠ (0 : Int) then
 if (0 : Int) ≤ (0 : Int) ∧ (0 : Int) ≤ IntKind.i64.wrap ((6 : Int) + IntKind.i64.wrap (y1.fst.tdiv (20 : Int))) ∧ IntKind.i64.wrap ((6 : Int) + IntKind.i64.wrap (y1.fst.tdiv (20 : Int))) ≤ (↑[D.int (1 : Int), D.int (2 : Int), D.int (3 : Int), D.int (4 : Int), D.int (5 : Int), D.int 0, D.int (10 : Int), D.int (11 : Int)].length : Int) then
 if (0 : Nat) + ((IntKind.i64.wrap ((6 : Int) + IntKind.i64.wrap (y1.fst.tdiv (20 : Int)))).toNat - (0 : Nat)) ≤ [D.int (1 : Int), D.int (2 : Int), D.int (3 : Int), D.int (4 : Int), D.int (5 : Int), D.int 0, D.int (10 : Int), D.int (11 : Int)].length then
 (Z3 y1.snd.fst y1.snd.snd.fst y1.snd.snd.snd (List.take ((IntKind.i64.wrap ((6 : Int) + IntKind.i64.wrap (y1.fst.tdiv (20 : Int)))).toNat - (0 : Nat)) (List.drop (0 : Nat) [D.int (1 : Int), D.int (2 : Int), D.int (3 : Int), D.int (4 : Int), D.int (5 : Int), D.int 0, D.int (10 : Int), D.int (11 : Int)]))).bind (fun y2 =>
 (Z9 y2.fst y2.snd.fst y2.snd.snd.fst y2.snd.snd.snd y0.fst []).bind (fun y3 =>
 k y3))
 else
 none
 else
 none
 else
 none))
theorem c_Z10_bind {R : Type} (x0 : List D) (k : List D → Option R) : c_Z10 x0 k = (c_Z10 x0 some).bind k := by
 unfold c_Z10
 repeat' first|exact bnd_tail|exact bnd_none|exact bnd_leaf|apply bnd_ite|apply bnd_cond|apply bnd_sum|(apply bnd_bind;intro _)|intro _
def Z10 (x0 : List D) : Option (List D) := c_Z10 x0 some
def e_Z10 : Ent := ⟨17, [.rd (.int .u8)], [(.own (.struct [.int .i64, .int .i64]), [.undef])], fun _ ds k => dL (fun x0 ds => dE ((Z10 x0).bind (fun y => k 0 [.L y])) ds) ds⟩
theorem q_Z10 (x0 : List D) : runFn (ocOf [e_Z6, e_Z2, e_Z3]) (olOf [e_Z9]) A 17 Try.f17 (Sh.mks e_Z10.sh [.L x0]).1 (fun v os => some (v, os)) = c_Z10 x0 (fun y => retO e_Z10 0 [.L y]) := by kernel_rfl
theorem e_Z10_ok : e_Z10.ok Try.prog A := by
 intro R ds k r h
 unfold e_Z10 at h
 obtain ⟨x0, d0, rfl, h0⟩ := dL_some h
 obtain ⟨rfl, hE⟩ := dE_some h0
 obtain ⟨y, hy, hk⟩ := bnd_some hE
 have hq := q_Z10 x0
 rw [c_Z10_bind] at hq
 rw [show c_Z10 x0 some = some y from hy] at hq
 refine ⟨0, _, _, _, hk, rfl, fn_ok px (fx := ⟨Try.func17, by kernel_rfl, by kernel_rfl⟩) (entsOK_cons e_Z6_ok (entsOK_cons e_Z2_ok (entsOK_cons e_Z3_ok entsOK_nil))) (lentsOK_cons e_Z9_ok lentsOK_nil) ?_⟩
 exact hq

/-!-/
def c_Z11 {R : Type} (x0 : List D) (k : List D → Option R) : Option R :=
 (Z10 x0).bind (fun y0 =>
 k y0)
theorem c_Z11_bind {R : Type} (x0 : List D) (k : List D → Option R) : c_Z11 x0 k = (c_Z11 x0 some).bind k := by
 unfold c_Z11
 repeat' first|exact bnd_tail|exact bnd_none|exact bnd_leaf|apply bnd_ite|apply bnd_cond|apply bnd_sum|(apply bnd_bind;intro _)|intro _
def Z11 (x0 : List D) : Option (List D) := c_Z11 x0 some
def e_Z11 : Ent := ⟨8, [.rd (.int .u8)], [(.own (.struct [.int .i64, .int .i64]), [.undef])], fun _ ds k => dL (fun x0 ds => dE ((Z11 x0).bind (fun y => k 0 [.L y])) ds) ds⟩
theorem q_Z11 (x0 : List D) : runFn (ocOf [e_Z10]) (olOf []) A 8 Try.f8 (Sh.mks e_Z11.sh [.L x0]).1 (fun v os => some (v, os)) = c_Z11 x0 (fun y => retO e_Z11 0 [.L y]) := by kernel_rfl
theorem e_Z11_ok : e_Z11.ok Try.prog A := by
 intro R ds k r h
 unfold e_Z11 at h
 obtain ⟨x0, d0, rfl, h0⟩ := dL_some h
 obtain ⟨rfl, hE⟩ := dE_some h0
 obtain ⟨y, hy, hk⟩ := bnd_some hE
 have hq := q_Z11 x0
 rw [c_Z11_bind] at hq
 rw [show c_Z11 x0 some = some y from hy] at hq
 refine ⟨0, _, _, _, hk, rfl, fn_ok px (fx := ⟨Try.func8, by kernel_rfl, by kernel_rfl⟩) (entsOK_cons e_Z10_ok entsOK_nil) lentsOK_nil ?_⟩
 exact hq

/-!-/
def c_Z12 {R : Type} (x0 : Int) (x1 : Int) (x2 : Int) (k : Bool → Option R) : Option R :=
 bif decide (x1 ≤ x0) then
 k (decide (x0 ≤ x2))
 else
 k Bool.false
theorem c_Z12_bind {R : Type} (x0 : Int) (x1 : Int) (x2 : Int) (k : Bool → Option R) : c_Z12 x0 x1 x2 k = (c_Z12 x0 x1 x2 some).bind k := by
 unfold c_Z12
 repeat' first|exact bnd_tail|exact bnd_none|exact bnd_leaf|apply bnd_ite|apply bnd_cond|apply bnd_sum|(apply bnd_bind;intro _)|intro _
def Z12 (x0 : Int) (x1 : Int) (x2 : Int) : Option (Bool) := c_Z12 x0 x1 x2 some
def e_Z12 : Ent := ⟨53, [.int .i64, .int .i64, .int .i64], [(.bool, [.undef, .undef, .undef])], fun _ ds k => dI (fun x0 ds => dI (fun x1 ds => dI (fun x2 ds => dE ((Z12 x0 x1 x2).bind (fun y => k 0 [.B y])) ds) ds) ds) ds⟩
theorem q_Z12 (x0 : Int) (x1 : Int) (x2 : Int) : runFn (ocOf []) (olOf []) A 53 Try.f53 (Sh.mks e_Z12.sh [.I x0, .I x1, .I x2]).1 (fun v os => some (v, os)) = c_Z12 x0 x1 x2 (fun y => retO e_Z12 0 [.B y]) := by kernel_rfl
theorem e_Z12_ok : e_Z12.ok Try.prog A := by
 intro R ds k r h
 unfold e_Z12 at h
 obtain ⟨x0, d0, rfl, h0⟩ := dI_some h
 obtain ⟨x1, d1, rfl, h1⟩ := dI_some h0
 obtain ⟨x2, d2, rfl, h2⟩ := dI_some h1
 obtain ⟨rfl, hE⟩ := dE_some h2
 obtain ⟨y, hy, hk⟩ := bnd_some hE
 have hq := q_Z12 x0 x1 x2
 rw [c_Z12_bind] at hq
 rw [show c_Z12 x0 x1 x2 some = some y from hy] at hq
 refine ⟨0, _, _, _, hk, rfl, fn_ok px (fx := ⟨Try.func53, by kernel_rfl, by kernel_rfl⟩) entsOK_nil lentsOK_nil ?_⟩
 exact hq

/-!-/
def c_Z13 {R : Type} (x0 : Int) (x1 : Int) (k : Bool → Option R) : Option R :=
 (Z12 x0 (0 : Int) (60000 : Int)).bind (fun y0 =>
 bif y0 then
 (Z12 x1 (1 : Int) (1000 : Int)).bind (fun y1 =>
 k y1)
 else
 k Bool.false)
theorem c_Z13_bind {R : Type} (x0 : Int) (x1 : Int) (k : Bool → Option R) : c_Z13 x0 x1 k = (c_Z13 x0 x1 some).bind k := by
 unfold c_Z13
 repeat' first|exact bnd_tail|exact bnd_none|exact bnd_leaf|apply bnd_ite|apply bnd_cond|apply bnd_sum|(apply bnd_bind;intro _)|intro _
def Z13 (x0 : Int) (x1 : Int) : Option (Bool) := c_Z13 x0 x1 some
def e_Z13 : Ent := ⟨41, [.agg [.int .i64, .int .i64]], [(.bool, [.undef])], fun _ ds k => dI (fun x0 ds => dI (fun x1 ds => dE ((Z13 x0 x1).bind (fun y => k 0 [.B y])) ds) ds) ds⟩
theorem q_Z13 (x0 : Int) (x1 : Int) : runFn (ocOf [e_Z12]) (olOf []) A 41 Try.f41 (Sh.mks e_Z13.sh [.I x0, .I x1]).1 (fun v os => some (v, os)) = c_Z13 x0 x1 (fun y => retO e_Z13 0 [.B y]) := by kernel_rfl
theorem e_Z13_ok : e_Z13.ok Try.prog A := by
 intro R ds k r h
 unfold e_Z13 at h
 obtain ⟨x0, d0, rfl, h0⟩ := dI_some h
 obtain ⟨x1, d1, rfl, h1⟩ := dI_some h0
 obtain ⟨rfl, hE⟩ := dE_some h1
 obtain ⟨y, hy, hk⟩ := bnd_some hE
 have hq := q_Z13 x0 x1
 rw [c_Z13_bind] at hq
 rw [show c_Z13 x0 x1 some = some y from hy] at hq
 refine ⟨0, _, _, _, hk, rfl, fn_ok px (fx := ⟨Try.func41, by kernel_rfl, by kernel_rfl⟩) (entsOK_cons e_Z12_ok entsOK_nil) lentsOK_nil ?_⟩
 exact hq

/-!-/
def c_Z14 {R : Type} (x0 : Int) (x1 : Int) (k : Bool → Option R) : Option R :=
 (Z13 x0 x1).bind (fun y0 =>
 k !y0)
theorem c_Z14_bind {R : Type} (x0 : Int) (x1 : Int) (k : Bool → Option R) : c_Z14 x0 x1 k = (c_Z14 x0 x1 some).bind k := by
 unfold c_Z14
 repeat' first|exact bnd_tail|exact bnd_none|exact bnd_leaf|apply bnd_ite|apply bnd_cond|apply bnd_sum|(apply bnd_bind;intro _)|intro _
def Z14 (x0 : Int) (x1 : Int) : Option (Bool) := c_Z14 x0 x1 some
def e_Z14 : Ent := ⟨87, [.agg [.int .i64, .int .i64]], [(.bool, [.undef])], fun _ ds k => dI (fun x0 ds => dI (fun x1 ds => dE ((Z14 x0 x1).bind (fun y => k 0 [.B y])) ds) ds) ds⟩
theorem q_Z14 (x0 : Int) (x1 : Int) : runFn (ocOf [e_Z13]) (olOf []) A 87 Try.f87 (Sh.mks e_Z14.sh [.I x0, .I x1]).1 (fun v os => some (v, os)) = c_Z14 x0 x1 (fun y => retO e_Z14 0 [.B y]) := by kernel_rfl
theorem e_Z14_ok : e_Z14.ok Try.prog A := by
 intro R ds k r h
 unfold e_Z14 at h
 obtain ⟨x0, d0, rfl, h0⟩ := dI_some h
 obtain ⟨x1, d1, rfl, h1⟩ := dI_some h0
 obtain ⟨rfl, hE⟩ := dE_some h1
 obtain ⟨y, hy, hk⟩ := bnd_some hE
 have hq := q_Z14 x0 x1
 rw [c_Z14_bind] at hq
 rw [show c_Z14 x0 x1 some = some y from hy] at hq
 refine ⟨0, _, _, _, hk, rfl, fn_ok px (fx := ⟨Try.func87, by kernel_rfl, by kernel_rfl⟩) (entsOK_cons e_Z13_ok entsOK_nil) lentsOK_nil ?_⟩
 exact hq

/-!-/
def c_Z15 {R : Type} (F : List D → Int → Int → Option ((Int) ⊕ (Unit))) (x0 : List D) (x1 : Int) (x2 : Int) (k : (Int) ⊕ (Unit) → Option R) : Option R :=
 bif decide (x2 < x1) then
 if 0 ≤ x2 ∧ x2 < (↑x0.length : Int) then
 (Z14 (((x0.getD x2.toNat (D.int 0)).fld (0 : Nat)).toInt) (((x0.getD x2.toNat (D.int 0)).fld (1 : Nat)).toInt)).bind (fun y0 =>
 bif y0 then
 k (.inl x2)
 else
 (F x0 x1 (IntKind.i64.wrap (x2 + 1))).bind k)
 else
 none
 else
 k (.inr ())
theorem c_Z15_bind {R : Type} (F : List D → Int → Int → Option ((Int) ⊕ (Unit))) (x0 : List D) (x1 : Int) (x2 : Int) (k : (Int) ⊕ (Unit) → Option R) : c_Z15 F x0 x1 x2 k = (c_Z15 F x0 x1 x2 some).bind k := by
 unfold c_Z15
 repeat' first|exact bnd_tail|exact bnd_none|exact bnd_leaf|apply bnd_ite|apply bnd_cond|apply bnd_sum|(apply bnd_bind;intro _)|intro _
def n_Z15 : Nat → List D → Int → Int → Option ((Int) ⊕ (Unit))
 | 0, _, _, _ => none
 | n + 1, x0, x1, x2 => c_Z15 (n_Z15 n) x0 x1 x2 some
noncomputable def Z15 (x0 : List D) (x1 : Int) (x2 : Int) : Option ((Int) ⊕ (Unit)) := ev (fun n => n_Z15 n x0 x1 x2)
def m_Z15 (F : List D → Int → Int → Option ((Int) ⊕ (Unit))) : Lent := ⟨2, ⟨(.rd (.struct [.int .i64, .int .i64]) :: .fn 87 [] :: uu 5 (.int .i64 :: .int .i64 :: uu 10 ([]))), []⟩, [(.ret, ⟨(uu 4 (.int .i64 :: uu 14 ([]))), []⟩), (.exit 0, ⟨(uu 19 ([])), []⟩)], fun _ ds k => dL (fun x0 ds => dI (fun x1 ds => dI (fun x2 ds => dE ((F x0 x1 x2).bind (Sum.elim (fun y => k 0 [.I y]) (fun y => k 1 []))) ds) ds) ds) ds⟩
theorem q_Z15 (F : List D → Int → Int → Option ((Int) ⊕ (Unit))) (x0 : List D) (x1 : Int) (x2 : Int) : runLoop (ocOf [e_Z14]) (olOf [m_Z15 F]) A 109 (codeAt (bodyOf Try.f109) 2) ((m_Z15 F).sh.mk' [.L x0, .I x1, .I x2]) (fun e σ' => some (e, σ')) = c_Z15 F x0 x1 x2 (Sum.elim (fun y => some (.ret, SSt.mk' ⟨(uu 4 (.int .i64 :: uu 14 ([]))), []⟩ [.I y])) (fun y => some (.exit 0, SSt.mk' ⟨(uu 19 ([])), []⟩ []))) := by kernel_rfl
theorem m_Z15_ok : ∀ n, (m_Z15 (n_Z15 n)).ok Try.prog (codeAt (bodyOf Try.f109) 2) := by
 intro n
 induction n with
 | zero =>
  intro R ds k r h
  unfold m_Z15 at h
  obtain ⟨x0, d0, rfl, h0⟩ := dL_some h
  obtain ⟨x1, d1, rfl, h1⟩ := dI_some h0
  obtain ⟨x2, d2, rfl, h2⟩ := dI_some h1
  obtain ⟨rfl, hE⟩ := dE_some h2
  obtain ⟨y, hy, hk⟩ := bnd_some hE
  cases hy
 | succ n ih =>
  intro R ds k r h
  unfold m_Z15 at h
  obtain ⟨x0, d0, rfl, h0⟩ := dL_some h
  obtain ⟨x1, d1, rfl, h1⟩ := dI_some h0
  obtain ⟨x2, d2, rfl, h2⟩ := dI_some h1
  obtain ⟨rfl, hE⟩ := dE_some h2
  obtain ⟨y, hy, hk⟩ := bnd_some hE
  have hq := q_Z15 (n_Z15 n) x0 x1 x2
  rw [c_Z15_bind] at hq
  rw [show c_Z15 (n_Z15 n) x0 x1 x2 some = some y from hy] at hq
  cases y with
  | inl y =>
   refine ⟨0, _, _, _, hk, rfl, loop_ok px (fx := ⟨Try.func109, by kernel_rfl, by kernel_rfl⟩) (entsOK_cons e_Z14_ok entsOK_nil) (lentsOK_cons ih lentsOK_nil) (by kernel_rfl) ?_⟩
   exact hq
  | inr y =>
   refine ⟨1, _, _, _, hk, rfl, loop_ok px (fx := ⟨Try.func109, by kernel_rfl, by kernel_rfl⟩) (entsOK_cons e_Z14_ok entsOK_nil) (lentsOK_cons ih lentsOK_nil) (by kernel_rfl) ?_⟩
   exact hq
noncomputable def e_Z15 : Lent := m_Z15 (Z15)
theorem e_Z15_ok : (e_Z15).ok Try.prog (codeAt (bodyOf Try.f109) 2) := by
 intro R ds k r h
 unfold e_Z15 m_Z15 at h
 obtain ⟨x0, d0, rfl, h0⟩ := dL_some h
 obtain ⟨x1, d1, rfl, h1⟩ := dI_some h0
 obtain ⟨x2, d2, rfl, h2⟩ := dI_some h1
 obtain ⟨rfl, hE⟩ := dE_some h2
 obtain ⟨y, hy, hk⟩ := bnd_some hE
 obtain ⟨n, hn⟩ := ev_some hy
 exact m_Z15_ok n R _ k r (show (n_Z15 n x0 x1 x2).bind _ = _ by rw [hn]; exact hk)

/-!-/
def c_Z16 {R : Type} (x0 : List D) (k : Int → Option R) : Option R :=
 (Z15 x0 (↑x0.length : Int) (0 : Int)).bind (Sum.elim (fun y0 =>
 k y0) (fun y1 =>
 k (-1 : Int)))
theorem c_Z16_bind {R : Type} (x0 : List D) (k : Int → Option R) : c_Z16 x0 k = (c_Z16 x0 some).bind k := by
 unfold c_Z16
 repeat' first|exact bnd_tail|exact bnd_none|exact bnd_leaf|apply bnd_ite|apply bnd_cond|apply bnd_sum|(apply bnd_bind;intro _)|intro _
def Z16 (x0 : List D) : Option (Int) := c_Z16 x0 some
def e_Z16 : Ent := ⟨109, [.rd (.struct [.int .i64, .int .i64]), .fn 87 []], [(.int .i64, [.undef, .undef])], fun _ ds k => dL (fun x0 ds => dE ((Z16 x0).bind (fun y => k 0 [.I y])) ds) ds⟩
theorem q_Z16 (x0 : List D) : runFn (ocOf []) (olOf [e_Z15]) A 109 Try.f109 (Sh.mks e_Z16.sh [.L x0]).1 (fun v os => some (v, os)) = c_Z16 x0 (fun y => retO e_Z16 0 [.I y]) := by kernel_rfl
theorem e_Z16_ok : e_Z16.ok Try.prog A := by
 intro R ds k r h
 unfold e_Z16 at h
 obtain ⟨x0, d0, rfl, h0⟩ := dL_some h
 obtain ⟨rfl, hE⟩ := dE_some h0
 obtain ⟨y, hy, hk⟩ := bnd_some hE
 have hq := q_Z16 x0
 rw [c_Z16_bind] at hq
 rw [show c_Z16 x0 some = some y from hy] at hq
 refine ⟨0, _, _, _, hk, rfl, fn_ok px (fx := ⟨Try.func109, by kernel_rfl, by kernel_rfl⟩) entsOK_nil (lentsOK_cons e_Z15_ok lentsOK_nil) ?_⟩
 exact hq

/-!-/
def c_Z17 {R : Type} (x0 : List D) (k : Bool → Option R) : Option R :=
 (Z16 x0).bind (fun y0 =>
 k (decide ((0 : Int) ≤ y0)))
theorem c_Z17_bind {R : Type} (x0 : List D) (k : Bool → Option R) : c_Z17 x0 k = (c_Z17 x0 some).bind k := by
 unfold c_Z17
 repeat' first|exact bnd_tail|exact bnd_none|exact bnd_leaf|apply bnd_ite|apply bnd_cond|apply bnd_sum|(apply bnd_bind;intro _)|intro _
def Z17 (x0 : List D) : Option (Bool) := c_Z17 x0 some
def e_Z17 : Ent := ⟨86, [.rd (.struct [.int .i64, .int .i64]), .fn 87 []], [(.bool, [.undef, .undef])], fun _ ds k => dL (fun x0 ds => dE ((Z17 x0).bind (fun y => k 0 [.B y])) ds) ds⟩
theorem q_Z17 (x0 : List D) : runFn (ocOf [e_Z16]) (olOf []) A 86 Try.f86 (Sh.mks e_Z17.sh [.L x0]).1 (fun v os => some (v, os)) = c_Z17 x0 (fun y => retO e_Z17 0 [.B y]) := by kernel_rfl
theorem e_Z17_ok : e_Z17.ok Try.prog A := by
 intro R ds k r h
 unfold e_Z17 at h
 obtain ⟨x0, d0, rfl, h0⟩ := dL_some h
 obtain ⟨rfl, hE⟩ := dE_some h0
 obtain ⟨y, hy, hk⟩ := bnd_some hE
 have hq := q_Z17 x0
 rw [c_Z17_bind] at hq
 rw [show c_Z17 x0 some = some y from hy] at hq
 refine ⟨0, _, _, _, hk, rfl, fn_ok px (fx := ⟨Try.func86, by kernel_rfl, by kernel_rfl⟩) (entsOK_cons e_Z16_ok entsOK_nil) lentsOK_nil ?_⟩
 exact hq

/-!-/
def c_Z18 {R : Type} (x0 : List D) (x1 : Int) (k : Bool → Option R) : Option R :=
 (Z12 (↑x0.length : Int) (1 : Int) x1).bind (fun y0 =>
 bif y0 then
 (Z17 x0).bind (fun y1 =>
 k !y1)
 else
 k Bool.false)
theorem c_Z18_bind {R : Type} (x0 : List D) (x1 : Int) (k : Bool → Option R) : c_Z18 x0 x1 k = (c_Z18 x0 x1 some).bind k := by
 unfold c_Z18
 repeat' first|exact bnd_tail|exact bnd_none|exact bnd_leaf|apply bnd_ite|apply bnd_cond|apply bnd_sum|(apply bnd_bind;intro _)|intro _
def Z18 (x0 : List D) (x1 : Int) : Option (Bool) := c_Z18 x0 x1 some
def e_Z18 : Ent := ⟨34, [.rd (.struct [.int .i64, .int .i64]), .int .i64], [(.bool, [.undef, .undef])], fun _ ds k => dL (fun x0 ds => dI (fun x1 ds => dE ((Z18 x0 x1).bind (fun y => k 0 [.B y])) ds) ds) ds⟩
theorem q_Z18 (x0 : List D) (x1 : Int) : runFn (ocOf [e_Z12, e_Z17]) (olOf []) A 34 Try.f34 (Sh.mks e_Z18.sh [.L x0, .I x1]).1 (fun v os => some (v, os)) = c_Z18 x0 x1 (fun y => retO e_Z18 0 [.B y]) := by kernel_rfl
theorem e_Z18_ok : e_Z18.ok Try.prog A := by
 intro R ds k r h
 unfold e_Z18 at h
 obtain ⟨x0, d0, rfl, h0⟩ := dL_some h
 obtain ⟨x1, d1, rfl, h1⟩ := dI_some h0
 obtain ⟨rfl, hE⟩ := dE_some h1
 obtain ⟨y, hy, hk⟩ := bnd_some hE
 have hq := q_Z18 x0 x1
 rw [c_Z18_bind] at hq
 rw [show c_Z18 x0 x1 some = some y from hy] at hq
 refine ⟨0, _, _, _, hk, rfl, fn_ok px (fx := ⟨Try.func34, by kernel_rfl, by kernel_rfl⟩) (entsOK_cons e_Z12_ok (entsOK_cons e_Z17_ok entsOK_nil)) lentsOK_nil ?_⟩
 exact hq

/-!-/
def c_Z19 {R : Type} (F : Int → Int → List D → Int → Int → Option (Int × Int)) (x0 : Int) (x1 : Int) (x2 : List D) (x3 : Int) (x4 : Int) (k : Int × Int → Option R) : Option R :=
 bif decide (x4 < x3) then
 if 0 ≤ x4 ∧ x4 < (↑x2.length : Int) then
 (F (if IntKind.i64.wrap (((x2.getD x4.toNat (D.int 0)).fld (0 : Nat)).toInt - IntKind.i64.wrap ((2 : Int) * ((x2.getD x4.toNat (D.int 0)).fld (1 : Nat)).toInt)) > x0 then IntKind.i64.wrap (((x2.getD x4.toNat (D.int 0)).fld (0 : Nat)).toInt - IntKind.i64.wrap ((2 : Int) * ((x2.getD x4.toNat (D.int 0)).fld (1 : Nat)).toInt)) else x0) (if IntKind.i64.wrap (((x2.getD x4.toNat (D.int 0)).fld (0 : Nat)).toInt + IntKind.i64.wrap ((2 : Int) * ((x2.getD x4.toNat (D.int 0)).fld (1 : Nat)).toInt)) < x1 then IntKind.i64.wrap (((x2.getD x4.toNat (D.int 0)).fld (0 : Nat)).toInt + IntKind.i64.wrap ((2 : Int) * ((x2.getD x4.toNat (D.int 0)).fld (1 : Nat)).toInt)) else x1) x2 x3 (IntKind.i64.wrap (x4 + 1))).bind k
 else
 none
 else
 k (x0, x1)
theorem c_Z19_bind {R : Type} (F : Int → Int → List D → Int → Int → Option (Int × Int)) (x0 : Int) (x1 : Int) (x2 : List D) (x3 : Int) (x4 : Int) (k : Int × Int → Option R) : c_Z19 F x0 x1 x2 x3 x4 k = (c_Z19 F x0 x1 x2 x3 x4 some).bind k := by
 unfold c_Z19
 repeat' first|exact bnd_tail|exact bnd_none|exact bnd_leaf|apply bnd_ite|apply bnd_cond|apply bnd_sum|(apply bnd_bind;intro _)|intro _
def n_Z19 : Nat → Int → Int → List D → Int → Int → Option (Int × Int)
 | 0, _, _, _, _, _ => none
 | n + 1, x0, x1, x2, x3, x4 => c_Z19 (n_Z19 n) x0 x1 x2 x3 x4 some
noncomputable def Z19 (x0 : Int) (x1 : Int) (x2 : List D) (x3 : Int) (x4 : Int) : Option (Int × Int) := ev (fun n => n_Z19 n x0 x1 x2 x3 x4)
def m_Z19 (F : Int → Int → List D → Int → Int → Option (Int × Int)) : Lent := ⟨5, ⟨(uu 5 (.int .i64 :: .int .i64 :: uu 5 (.rd (.struct [.int .i64, .int .i64]) :: .int .i64 :: .int .i64 :: uu 25 ([])))), []⟩, [(.exit 0, ⟨(uu 5 (.int .i64 :: .int .i64 :: uu 33 ([]))), []⟩)], fun _ ds k => dI (fun x0 ds => dI (fun x1 ds => dL (fun x2 ds => dI (fun x3 ds => dI (fun x4 ds => dE ((F x0 x1 x2 x3 x4).bind (fun y => k 0 [.I y.1, .I y.2])) ds) ds) ds) ds) ds) ds⟩
theorem q_Z19 (F : Int → Int → List D → Int → Int → Option (Int × Int)) (x0 : Int) (x1 : Int) (x2 : List D) (x3 : Int) (x4 : Int) : runLoop (ocOf []) (olOf [m_Z19 F]) A 9 (codeAt (bodyOf Try.f9) 5) ((m_Z19 F).sh.mk' [.I x0, .I x1, .L x2, .I x3, .I x4]) (fun e σ' => some (e, σ')) = c_Z19 F x0 x1 x2 x3 x4 (fun y => some (.exit 0, SSt.mk' ⟨(uu 5 (.int .i64 :: .int .i64 :: uu 33 ([]))), []⟩ [.I y.1, .I y.2])) := by kernel_rfl
theorem m_Z19_ok : ∀ n, (m_Z19 (n_Z19 n)).ok Try.prog (codeAt (bodyOf Try.f9) 5) := by
 intro n
 induction n with
 | zero =>
  intro R ds k r h
  unfold m_Z19 at h
  obtain ⟨x0, d0, rfl, h0⟩ := dI_some h
  obtain ⟨x1, d1, rfl, h1⟩ := dI_some h0
  obtain ⟨x2, d2, rfl, h2⟩ := dL_some h1
  obtain ⟨x3, d3, rfl, h3⟩ := dI_some h2
  obtain ⟨x4, d4, rfl, h4⟩ := dI_some h3
  obtain ⟨rfl, hE⟩ := dE_some h4
  obtain ⟨y, hy, hk⟩ := bnd_some hE
  cases hy
 | succ n ih =>
  intro R ds k r h
  unfold m_Z19 at h
  obtain ⟨x0, d0, rfl, h0⟩ := dI_some h
  obtain ⟨x1, d1, rfl, h1⟩ := dI_some h0
  obtain ⟨x2, d2, rfl, h2⟩ := dL_some h1
  obtain ⟨x3, d3, rfl, h3⟩ := dI_some h2
  obtain ⟨x4, d4, rfl, h4⟩ := dI_some h3
  obtain ⟨rfl, hE⟩ := dE_some h4
  obtain ⟨y, hy, hk⟩ := bnd_some hE
  have hq := q_Z19 (n_Z19 n) x0 x1 x2 x3 x4
  rw [c_Z19_bind] at hq
  rw [show c_Z19 (n_Z19 n) x0 x1 x2 x3 x4 some = some y from hy] at hq
  refine ⟨0, _, _, _, hk, rfl, loop_ok px (fx := ⟨Try.func9, by kernel_rfl, by kernel_rfl⟩) entsOK_nil (lentsOK_cons ih lentsOK_nil) (by kernel_rfl) ?_⟩
  exact hq
noncomputable def e_Z19 : Lent := m_Z19 (Z19)
theorem e_Z19_ok : (e_Z19).ok Try.prog (codeAt (bodyOf Try.f9) 5) := by
 intro R ds k r h
 unfold e_Z19 m_Z19 at h
 obtain ⟨x0, d0, rfl, h0⟩ := dI_some h
 obtain ⟨x1, d1, rfl, h1⟩ := dI_some h0
 obtain ⟨x2, d2, rfl, h2⟩ := dL_some h1
 obtain ⟨x3, d3, rfl, h3⟩ := dI_some h2
 obtain ⟨x4, d4, rfl, h4⟩ := dI_some h3
 obtain ⟨rfl, hE⟩ := dE_some h4
 obtain ⟨y, hy, hk⟩ := bnd_some hE
 obtain ⟨n, hn⟩ := ev_some hy
 exact m_Z19_ok n R _ k r (show (n_Z19 n x0 x1 x2 x3 x4).bind _ = _ by rw [hn]; exact hk)

/-!-/
def c_Z20 {R : Type} (x0 : List D) (k : Int × Int × Bool → Option R) : Option R :=
 (Z18 x0 (10 : Int)).bind (fun y0 =>
 bif !y0 then
 k ((0 : Int), (0 : Int), Bool.false)
 else
 (Z19 (0 : Int) (60000 : Int) x0 (↑x0.length : Int) (0 : Int)).bind (fun y1 =>
 bif decide (y1.snd < y1.fst) then
 k ((0 : Int), (0 : Int), Bool.false)
 else
 k (y1.fst, y1.snd, Bool.true)))
theorem c_Z20_bind {R : Type} (x0 : List D) (k : Int × Int × Bool → Option R) : c_Z20 x0 k = (c_Z20 x0 some).bind k := by
 unfold c_Z20
 repeat' first|exact bnd_tail|exact bnd_none|exact bnd_leaf|apply bnd_ite|apply bnd_cond|apply bnd_sum|(apply bnd_bind;intro _)|intro _
def Z20 (x0 : List D) : Option (Int × Int × Bool) := c_Z20 x0 some
def e_Z20 : Ent := ⟨9, [.rd (.struct [.int .i64, .int .i64])], [(.tup [.int .i64, .int .i64, .bool], [.undef])], fun _ ds k => dL (fun x0 ds => dE ((Z20 x0).bind (fun y => k 0 [.I y.1, .I y.2.1, .B y.2.2])) ds) ds⟩
theorem q_Z20 (x0 : List D) : runFn (ocOf [e_Z18]) (olOf [e_Z19]) A 9 Try.f9 (Sh.mks e_Z20.sh [.L x0]).1 (fun v os => some (v, os)) = c_Z20 x0 (fun y => retO e_Z20 0 [.I y.1, .I y.2.1, .B y.2.2]) := by kernel_rfl
theorem e_Z20_ok : e_Z20.ok Try.prog A := by
 intro R ds k r h
 unfold e_Z20 at h
 obtain ⟨x0, d0, rfl, h0⟩ := dL_some h
 obtain ⟨rfl, hE⟩ := dE_some h0
 obtain ⟨y, hy, hk⟩ := bnd_some hE
 have hq := q_Z20 x0
 rw [c_Z20_bind] at hq
 rw [show c_Z20 x0 some = some y from hy] at hq
 refine ⟨0, _, _, _, hk, rfl, fn_ok px (fx := ⟨Try.func9, by kernel_rfl, by kernel_rfl⟩) (entsOK_cons e_Z18_ok entsOK_nil) (lentsOK_cons e_Z19_ok lentsOK_nil) ?_⟩
 exact hq

/-!-/
def c_Z21 {R : Type} (x0 : Int) (x1 : Int) (x2 : Int) (k : Bool → Option R) : Option R :=
 bif decide (x1 ≤ x0) then
 k (decide (x0 ≤ x2))
 else
 k Bool.false
theorem c_Z21_bind {R : Type} (x0 : Int) (x1 : Int) (x2 : Int) (k : Bool → Option R) : c_Z21 x0 x1 x2 k = (c_Z21 x0 x1 x2 some).bind k := by
 unfold c_Z21
 repeat' first|exact bnd_tail|exact bnd_none|exact bnd_leaf|apply bnd_ite|apply bnd_cond|apply bnd_sum|(apply bnd_bind;intro _)|intro _
def Z21 (x0 : Int) (x1 : Int) (x2 : Int) : Option (Bool) := c_Z21 x0 x1 x2 some
def e_Z21 : Ent := ⟨66, [.int .i64, .int .i64, .int .i64], [(.bool, [.undef, .undef, .undef])], fun _ ds k => dI (fun x0 ds => dI (fun x1 ds => dI (fun x2 ds => dE ((Z21 x0 x1 x2).bind (fun y => k 0 [.B y])) ds) ds) ds) ds⟩
theorem q_Z21 (x0 : Int) (x1 : Int) (x2 : Int) : runFn (ocOf []) (olOf []) A 66 Try.f66 (Sh.mks e_Z21.sh [.I x0, .I x1, .I x2]).1 (fun v os => some (v, os)) = c_Z21 x0 x1 x2 (fun y => retO e_Z21 0 [.B y]) := by kernel_rfl
theorem e_Z21_ok : e_Z21.ok Try.prog A := by
 intro R ds k r h
 unfold e_Z21 at h
 obtain ⟨x0, d0, rfl, h0⟩ := dI_some h
 obtain ⟨x1, d1, rfl, h1⟩ := dI_some h0
 obtain ⟨x2, d2, rfl, h2⟩ := dI_some h1
 obtain ⟨rfl, hE⟩ := dE_some h2
 obtain ⟨y, hy, hk⟩ := bnd_some hE
 have hq := q_Z21 x0 x1 x2
 rw [c_Z21_bind] at hq
 rw [show c_Z21 x0 x1 x2 some = some y from hy] at hq
 refine ⟨0, _, _, _, hk, rfl, fn_ok px (fx := ⟨Try.func66, by kernel_rfl, by kernel_rfl⟩) entsOK_nil lentsOK_nil ?_⟩
 exact hq

/-!-/
def c_Z22 {R : Type} (x0 : Int) (x1 : Int) (k : Bool → Option R) : Option R :=
 (Z21 x0 (0 : Int) (60000 : Int)).bind (fun y0 =>
 bif y0 then
 (Z21 x1 (1 : Int) (1000 : Int)).bind (fun y1 =>
 k y1)
 else
 k Bool.false)
theorem c_Z22_bind {R : Type} (x0 : Int) (x1 : Int) (k : Bool → Option R) : c_Z22 x0 x1 k = (c_Z22 x0 x1 some).bind k := by
 unfold c_Z22
 repeat' first|exact bnd_tail|exact bnd_none|exact bnd_leaf|apply bnd_ite|apply bnd_cond|apply bnd_sum|(apply bnd_bind;intro _)|intro _
def Z22 (x0 : Int) (x1 : Int) : Option (Bool) := c_Z22 x0 x1 some
def e_Z22 : Ent := ⟨47, [.agg [.int .i64, .int .i64]], [(.bool, [.undef])], fun _ ds k => dI (fun x0 ds => dI (fun x1 ds => dE ((Z22 x0 x1).bind (fun y => k 0 [.B y])) ds) ds) ds⟩
theorem q_Z22 (x0 : Int) (x1 : Int) : runFn (ocOf [e_Z21]) (olOf []) A 47 Try.f47 (Sh.mks e_Z22.sh [.I x0, .I x1]).1 (fun v os => some (v, os)) = c_Z22 x0 x1 (fun y => retO e_Z22 0 [.B y]) := by kernel_rfl
theorem e_Z22_ok : e_Z22.ok Try.prog A := by
 intro R ds k r h
 unfold e_Z22 at h
 obtain ⟨x0, d0, rfl, h0⟩ := dI_some h
 obtain ⟨x1, d1, rfl, h1⟩ := dI_some h0
 obtain ⟨rfl, hE⟩ := dE_some h1
 obtain ⟨y, hy, hk⟩ := bnd_some hE
 have hq := q_Z22 x0 x1
 rw [c_Z22_bind] at hq
 rw [show c_Z22 x0 x1 some = some y from hy] at hq
 refine ⟨0, _, _, _, hk, rfl, fn_ok px (fx := ⟨Try.func47, by kernel_rfl, by kernel_rfl⟩) (entsOK_cons e_Z21_ok entsOK_nil) lentsOK_nil ?_⟩
 exact hq

/-!-/
def c_Z23 {R : Type} (F : List D → Int → Option ((List D × Bool) ⊕ (List D))) (x0 : List D) (x1 : Int) (k : (List D × Bool) ⊕ (List D) → Option R) : Option R :=
 bif decide (x1 < (↑x0.length : Int)) then
 bif decide (x1 ≤ (10 : Int)) then
 if 0 ≤ x1 ∧ x1 < (↑x0.length : Int) then
 (Z22 (((x0.getD x1.toNat (D.int 0)).fld (0 : Nat)).toInt) (((x0.getD x1.toNat (D.int 0)).fld (1 : Nat)).toInt)).bind (fun y0 =>
 bif !y0 then
 k (.inl (x0, Bool.false))
 else
 (F x0 (IntKind.i64.wrap (x1 + 1))).bind k)
 else
 none
 else
 k (.inr x0)
 else
 k (.inr x0)
theorem c_Z23_bind {R : Type} (F : List D → Int → Option ((List D × Bool) ⊕ (List D))) (x0 : List D) (x1 : Int) (k : (List D × Bool) ⊕ (List D) → Option R) : c_Z23 F x0 x1 k = (c_Z23 F x0 x1 some).bind k := by
 unfold c_Z23
 repeat' first|exact bnd_tail|exact bnd_none|exact bnd_leaf|apply bnd_ite|apply bnd_cond|apply bnd_sum|(apply bnd_bind;intro _)|intro _
def n_Z23 : Nat → List D → Int → Option ((List D × Bool) ⊕ (List D))
 | 0, _, _ => none
 | n + 1, x0, x1 => c_Z23 (n_Z23 n) x0 x1 some
noncomputable def Z23 (x0 : List D) (x1 : Int) : Option ((List D × Bool) ⊕ (List D)) := ev (fun n => n_Z23 n x0 x1)
def m_Z23 (F : List D → Int → Option ((List D × Bool) ⊕ (List D))) : Lent := ⟨2, ⟨(.rd (.struct [.int .i64, .int .i64]) :: .undef :: .undef :: .int .i64 :: uu 19 ([])), []⟩, [(.ret, ⟨(.rd (.struct [.int .i64, .int .i64]) :: .undef :: .bool :: uu 20 ([])), []⟩), (.exit 0, ⟨(.rd (.struct [.int .i64, .int .i64]) :: uu 22 ([])), []⟩)], fun _ ds k => dL (fun x0 ds => dI (fun x1 ds => dE ((F x0 x1).bind (Sum.elim (fun y => k 0 [.L y.1, .B y.2]) (fun y => k 1 [.L y]))) ds) ds) ds⟩
theorem q_Z23 (F : List D → Int → Option ((List D × Bool) ⊕ (List D))) (x0 : List D) (x1 : Int) : runLoop (ocOf [e_Z22]) (olOf [m_Z23 F]) A 35 (codeAt (bodyOf Try.f35) 2) ((m_Z23 F).sh.mk' [.L x0, .I x1]) (fun e σ' => some (e, σ')) = c_Z23 F x0 x1 (Sum.elim (fun y => some (.ret, SSt.mk' ⟨(.rd (.struct [.int .i64, .int .i64]) :: .undef :: .bool :: uu 20 ([])), []⟩ [.L y.1, .B y.2])) (fun y => some (.exit 0, SSt.mk' ⟨(.rd (.struct [.int .i64, .int .i64]) :: uu 22 ([])), []⟩ [.L y]))) := by kernel_rfl
theorem m_Z23_ok : ∀ n, (m_Z23 (n_Z23 n)).ok Try.prog (codeAt (bodyOf Try.f35) 2) := by
 intro n
 induction n with
 | zero =>
  intro R ds k r h
  unfold m_Z23 at h
  obtain ⟨x0, d0, rfl, h0⟩ := dL_some h
  obtain ⟨x1, d1, rfl, h1⟩ := dI_some h0
  obtain ⟨rfl, hE⟩ := dE_some h1
  obtain ⟨y, hy, hk⟩ := bnd_some hE
  cases hy
 | succ n ih =>
  intro R ds k r h
  unfold m_Z23 at h
  obtain ⟨x0, d0, rfl, h0⟩ := dL_some h
  obtain ⟨x1, d1, rfl, h1⟩ := dI_some h0
  obtain ⟨rfl, hE⟩ := dE_some h1
  obtain ⟨y, hy, hk⟩ := bnd_some hE
  have hq := q_Z23 (n_Z23 n) x0 x1
  rw [c_Z23_bind] at hq
  rw [show c_Z23 (n_Z23 n) x0 x1 some = some y from hy] at hq
  cases y with
  | inl y =>
   refine ⟨0, _, _, _, hk, rfl, loop_ok px (fx := ⟨Try.func35, by kernel_rfl, by kernel_rfl⟩) (entsOK_cons e_Z22_ok entsOK_nil) (lentsOK_cons ih lentsOK_nil) (by kernel_rfl) ?_⟩
   exact hq
  | inr y =>
   refine ⟨1, _, _, _, hk, rfl, loop_ok px (fx := ⟨Try.func35, by kernel_rfl, by kernel_rfl⟩) (entsOK_cons e_Z22_ok entsOK_nil) (lentsOK_cons ih lentsOK_nil) (by kernel_rfl) ?_⟩
   exact hq
noncomputable def e_Z23 : Lent := m_Z23 (Z23)
theorem e_Z23_ok : (e_Z23).ok Try.prog (codeAt (bodyOf Try.f35) 2) := by
 intro R ds k r h
 unfold e_Z23 m_Z23 at h
 obtain ⟨x0, d0, rfl, h0⟩ := dL_some h
 obtain ⟨x1, d1, rfl, h1⟩ := dI_some h0
 obtain ⟨rfl, hE⟩ := dE_some h1
 obtain ⟨y, hy, hk⟩ := bnd_some hE
 obtain ⟨n, hn⟩ := ev_some hy
 exact m_Z23_ok n R _ k r (show (n_Z23 n x0 x1).bind _ = _ by rw [hn]; exact hk)

/-!-/
def c_Z24 {R : Type} (x0 : List D) (k : Bool → Option R) : Option R :=
 (Z23 x0 (0 : Int)).bind (Sum.elim (fun y0 =>
 k y0.snd) (fun y1 =>
 (Z21 (↑y1.length : Int) (1 : Int) (10 : Int)).bind (fun y2 =>
 k y2)))
theorem c_Z24_bind {R : Type} (x0 : List D) (k : Bool → Option R) : c_Z24 x0 k = (c_Z24 x0 some).bind k := by
 unfold c_Z24
 repeat' first|exact bnd_tail|exact bnd_none|exact bnd_leaf|apply bnd_ite|apply bnd_cond|apply bnd_sum|(apply bnd_bind;intro _)|intro _
def Z24 (x0 : List D) : Option (Bool) := c_Z24 x0 some
def e_Z24 : Ent := ⟨35, [.rd (.struct [.int .i64, .int .i64])], [(.bool, [.undef])], fun _ ds k => dL (fun x0 ds => dE ((Z24 x0).bind (fun y => k 0 [.B y])) ds) ds⟩
theorem q_Z24 (x0 : List D) : runFn (ocOf [e_Z21]) (olOf [e_Z23]) A 35 Try.f35 (Sh.mks e_Z24.sh [.L x0]).1 (fun v os => some (v, os)) = c_Z24 x0 (fun y => retO e_Z24 0 [.B y]) := by kernel_rfl
theorem e_Z24_ok : e_Z24.ok Try.prog A := by
 intro R ds k r h
 unfold e_Z24 at h
 obtain ⟨x0, d0, rfl, h0⟩ := dL_some h
 obtain ⟨rfl, hE⟩ := dE_some h0
 obtain ⟨y, hy, hk⟩ := bnd_some hE
 have hq := q_Z24 x0
 rw [c_Z24_bind] at hq
 rw [show c_Z24 x0 some = some y from hy] at hq
 refine ⟨0, _, _, _, hk, rfl, fn_ok px (fx := ⟨Try.func35, by kernel_rfl, by kernel_rfl⟩) (entsOK_cons e_Z21_ok entsOK_nil) (lentsOK_cons e_Z23_ok lentsOK_nil) ?_⟩
 exact hq

/-!-/
def c_Z25 {R : Type} (x0 : Int) (x1 : Int) (k : Int → Option R) : Option R :=
 bif decide (x0 < x1) then
 k x0
 else
 k x1
theorem c_Z25_bind {R : Type} (x0 : Int) (x1 : Int) (k : Int → Option R) : c_Z25 x0 x1 k = (c_Z25 x0 x1 some).bind k := by
 unfold c_Z25
 repeat' first|exact bnd_tail|exact bnd_none|exact bnd_leaf|apply bnd_ite|apply bnd_cond|apply bnd_sum|(apply bnd_bind;intro _)|intro _
def Z25 (x0 : Int) (x1 : Int) : Option (Int) := c_Z25 x0 x1 some
def e_Z25 : Ent := ⟨37, [.int .i64, .int .i64], [(.int .i64, [.undef, .undef])], fun _ ds k => dI (fun x0 ds => dI (fun x1 ds => dE ((Z25 x0 x1).bind (fun y => k 0 [.I y])) ds) ds) ds⟩
theorem q_Z25 (x0 : Int) (x1 : Int) : runFn (ocOf []) (olOf []) A 37 Try.f37 (Sh.mks e_Z25.sh [.I x0, .I x1]).1 (fun v os => some (v, os)) = c_Z25 x0 x1 (fun y => retO e_Z25 0 [.I y]) := by kernel_rfl
theorem e_Z25_ok : e_Z25.ok Try.prog A := by
 intro R ds k r h
 unfold e_Z25 at h
 obtain ⟨x0, d0, rfl, h0⟩ := dI_some h
 obtain ⟨x1, d1, rfl, h1⟩ := dI_some h0
 obtain ⟨rfl, hE⟩ := dE_some h1
 obtain ⟨y, hy, hk⟩ := bnd_some hE
 have hq := q_Z25 x0 x1
 rw [c_Z25_bind] at hq
 rw [show c_Z25 x0 x1 some = some y from hy] at hq
 refine ⟨0, _, _, _, hk, rfl, fn_ok px (fx := ⟨Try.func37, by kernel_rfl, by kernel_rfl⟩) entsOK_nil lentsOK_nil ?_⟩
 exact hq

/-!-/
def c_Z26 {R : Type} (F : List D → Int → Int → Int → Option (Int × Int)) (x0 : List D) (x1 : Int) (x2 : Int) (x3 : Int) (k : Int × Int → Option R) : Option R :=
 bif decide (x3 < (↑x0.length : Int)) then
 if 0 ≤ x3 ∧ x3 < (↑x0.length : Int) then
 if 0 ≤ x3 ∧ x3 < (↑x0.length : Int) then
 (Z4 x1 (IntKind.i64.wrap (((x0.getD x3.toNat (D.int 0)).fld (0 : Nat)).toInt - IntKind.i64.wrap ((2 : Int) * ((x0.getD x3.toNat (D.int 0)).fld (1 : Nat)).toInt)))).bind (fun y0 =>
 if 0 ≤ x3 ∧ x3 < (↑x0.length : Int) then
 if 0 ≤ x3 ∧ x3 < (↑x0.length : Int) then
 (Z25 x2 (IntKind.i64.wrap (((x0.getD x3.toNat (D.int 0)).fld (0 : Nat)).toInt + IntKind.i64.wrap ((2 : Int) * ((x0.getD x3.toNat (D.int 0)).fld (1 : Nat)).toInt)))).bind (fun y1 =>
 (F x0 y0 y1 (IntKind.i64.wrap (x3 + 1))).bind k)
 else
 none
 else
 none)
 else
 none
 else
 none
 else
 k (x1, x2)
theorem c_Z26_bind {R : Type} (F : List D → Int → Int → Int → Option (Int × Int)) (x0 : List D) (x1 : Int) (x2 : Int) (x3 : Int) (k : Int × Int → Option R) : c_Z26 F x0 x1 x2 x3 k = (c_Z26 F x0 x1 x2 x3 some).bind k := by
 unfold c_Z26
 repeat' first|exact bnd_tail|exact bnd_none|exact bnd_leaf|apply bnd_ite|apply bnd_cond|apply bnd_sum|(apply bnd_bind;intro _)|intro _
def n_Z26 : Nat → List D → Int → Int → Int → Option (Int × Int)
 | 0, _, _, _, _ => none
 | n + 1, x0, x1, x2, x3 => c_Z26 (n_Z26 n) x0 x1 x2 x3 some
noncomputable def Z26 (x0 : List D) (x1 : Int) (x2 : Int) (x3 : Int) : Option (Int × Int) := ev (fun n => n_Z26 n x0 x1 x2 x3)
def m_Z26 (F : List D → Int → Int → Int → Option (Int × Int)) : Lent := ⟨5, ⟨(.rd (.struct [.int .i64, .int .i64]) :: uu 4 (.int .i64 :: .int .i64 :: .int .i64 :: uu 42 ([]))), []⟩, [(.exit 0, ⟨(uu 5 (.int .i64 :: .int .i64 :: uu 43 ([]))), []⟩)], fun _ ds k => dL (fun x0 ds => dI (fun x1 ds => dI (fun x2 ds => dI (fun x3 ds => dE ((F x0 x1 x2 x3).bind (fun y => k 0 [.I y.1, .I y.2])) ds) ds) ds) ds) ds⟩
theorem q_Z26 (F : List D → Int → Int → Int → Option (Int × Int)) (x0 : List D) (x1 : Int) (x2 : Int) (x3 : Int) : runLoop (ocOf [e_Z4, e_Z25]) (olOf [m_Z26 F]) A 10 (codeAt (bodyOf Try.f10) 5) ((m_Z26 F).sh.mk' [.L x0, .I x1, .I x2, .I x3]) (fun e σ' => some (e, σ')) = c_Z26 F x0 x1 x2 x3 (fun y => some (.exit 0, SSt.mk' ⟨(uu 5 (.int .i64 :: .int .i64 :: uu 43 ([]))), []⟩ [.I y.1, .I y.2])) := by kernel_rfl
theorem m_Z26_ok : ∀ n, (m_Z26 (n_Z26 n)).ok Try.prog (codeAt (bodyOf Try.f10) 5) := by
 intro n
 induction n with
 | zero =>
  intro R ds k r h
  unfold m_Z26 at h
  obtain ⟨x0, d0, rfl, h0⟩ := dL_some h
  obtain ⟨x1, d1, rfl, h1⟩ := dI_some h0
  obtain ⟨x2, d2, rfl, h2⟩ := dI_some h1
  obtain ⟨x3, d3, rfl, h3⟩ := dI_some h2
  obtain ⟨rfl, hE⟩ := dE_some h3
  obtain ⟨y, hy, hk⟩ := bnd_some hE
  cases hy
 | succ n ih =>
  intro R ds k r h
  unfold m_Z26 at h
  obtain ⟨x0, d0, rfl, h0⟩ := dL_some h
  obtain ⟨x1, d1, rfl, h1⟩ := dI_some h0
  obtain ⟨x2, d2, rfl, h2⟩ := dI_some h1
  obtain ⟨x3, d3, rfl, h3⟩ := dI_some h2
  obtain ⟨rfl, hE⟩ := dE_some h3
  obtain ⟨y, hy, hk⟩ := bnd_some hE
  have hq := q_Z26 (n_Z26 n) x0 x1 x2 x3
  rw [c_Z26_bind] at hq
  rw [show c_Z26 (n_Z26 n) x0 x1 x2 x3 some = some y from hy] at hq
  refine ⟨0, _, _, _, hk, rfl, loop_ok px (fx := ⟨Try.func10, by kernel_rfl, by kernel_rfl⟩) (entsOK_cons e_Z4_ok (entsOK_cons e_Z25_ok entsOK_nil)) (lentsOK_cons ih lentsOK_nil) (by kernel_rfl) ?_⟩
  exact hq
noncomputable def e_Z26 : Lent := m_Z26 (Z26)
theorem e_Z26_ok : (e_Z26).ok Try.prog (codeAt (bodyOf Try.f10) 5) := by
 intro R ds k r h
 unfold e_Z26 m_Z26 at h
 obtain ⟨x0, d0, rfl, h0⟩ := dL_some h
 obtain ⟨x1, d1, rfl, h1⟩ := dI_some h0
 obtain ⟨x2, d2, rfl, h2⟩ := dI_some h1
 obtain ⟨x3, d3, rfl, h3⟩ := dI_some h2
 obtain ⟨rfl, hE⟩ := dE_some h3
 obtain ⟨y, hy, hk⟩ := bnd_some hE
 obtain ⟨n, hn⟩ := ev_some hy
 exact m_Z26_ok n R _ k r (show (n_Z26 n x0 x1 x2 x3).bind _ = _ by rw [hn]; exact hk)

/-!-/
def c_Z27 {R : Type} (x0 : List D) (k : Int × Int × Bool → Option R) : Option R :=
 (Z24 x0).bind (fun y0 =>
 bif !y0 then
 k ((0 : Int), (0 : Int), Bool.false)
 else
 (Z26 x0 (0 : Int) (60000 : Int) (0 : Int)).bind (fun y1 =>
 bif decide (y1.snd < y1.fst) then
 k ((0 : Int), (0 : Int), Bool.false)
 else
 k (y1.fst, y1.snd, Bool.true)))
theorem c_Z27_bind {R : Type} (x0 : List D) (k : Int × Int × Bool → Option R) : c_Z27 x0 k = (c_Z27 x0 some).bind k := by
 unfold c_Z27
 repeat' first|exact bnd_tail|exact bnd_none|exact bnd_leaf|apply bnd_ite|apply bnd_cond|apply bnd_sum|(apply bnd_bind;intro _)|intro _
def Z27 (x0 : List D) : Option (Int × Int × Bool) := c_Z27 x0 some
def e_Z27 : Ent := ⟨10, [.rd (.struct [.int .i64, .int .i64])], [(.tup [.int .i64, .int .i64, .bool], [.undef])], fun _ ds k => dL (fun x0 ds => dE ((Z27 x0).bind (fun y => k 0 [.I y.1, .I y.2.1, .B y.2.2])) ds) ds⟩
theorem q_Z27 (x0 : List D) : runFn (ocOf [e_Z24]) (olOf [e_Z26]) A 10 Try.f10 (Sh.mks e_Z27.sh [.L x0]).1 (fun v os => some (v, os)) = c_Z27 x0 (fun y => retO e_Z27 0 [.I y.1, .I y.2.1, .B y.2.2]) := by kernel_rfl
theorem e_Z27_ok : e_Z27.ok Try.prog A := by
 intro R ds k r h
 unfold e_Z27 at h
 obtain ⟨x0, d0, rfl, h0⟩ := dL_some h
 obtain ⟨rfl, hE⟩ := dE_some h0
 obtain ⟨y, hy, hk⟩ := bnd_some hE
 have hq := q_Z27 x0
 rw [c_Z27_bind] at hq
 rw [show c_Z27 x0 some = some y from hy] at hq
 refine ⟨0, _, _, _, hk, rfl, fn_ok px (fx := ⟨Try.func10, by kernel_rfl, by kernel_rfl⟩) (entsOK_cons e_Z24_ok entsOK_nil) (lentsOK_cons e_Z26_ok lentsOK_nil) ?_⟩
 exact hq

/-!-/
def c_Z28 {R : Type} (F : List D → Int → Int → Option ((Bool) ⊕ (Unit))) (x0 : List D) (x1 : Int) (x2 : Int) (k : (Bool) ⊕ (Unit) → Option R) : Option R :=
 bif decide (x2 < (↑x0.length : Int)) then
 if 0 ≤ x2 ∧ x2 < (↑x0.length : Int) then
 if 0 ≤ x2 ∧ x2 < (↑x0.length : Int) then
 bif decide (x1 < IntKind.i64.wrap (((x0.getD x2.toNat (D.int 0)).fld (0 : Nat)).toInt - IntKind.i64.wrap ((2 : Int) * ((x0.getD x2.toNat (D.int 0)).fld (1 : Nat)).toInt))) then
 k (.inl Bool.false)
 else
 if 0 ≤ x2 ∧ x2 < (↑x0.length : Int) then
 if 0 ≤ x2 ∧ x2 < (↑x0.length : Int) then
 bif decide (IntKind.i64.wrap (((x0.getD x2.toNat (D.int 0)).fld (0 : Nat)).toInt + IntKind.i64.wrap ((2 : Int) * ((x0.getD x2.toNat (D.int 0)).fld (1 : Nat)).toInt)) < x1) then
 k (.inl Bool.false)
 else
 (F x0 x1 (IntKind.i64.wrap (x2 + 1))).bind k
 else
 none
 else
 none
 else
 none
 else
 none
 else
 k (.inr ())
theorem c_Z28_bind {R : Type} (F : List D → Int → Int → Option ((Bool) ⊕ (Unit))) (x0 : List D) (x1 : Int) (x2 : Int) (k : (Bool) ⊕ (Unit) → Option R) : c_Z28 F x0 x1 x2 k = (c_Z28 F x0 x1 x2 some).bind k := by
 unfold c_Z28
 repeat' first|exact bnd_tail|exact bnd_none|exact bnd_leaf|apply bnd_ite|apply bnd_cond|apply bnd_sum|(apply bnd_bind;intro _)|intro _
def n_Z28 : Nat → List D → Int → Int → Option ((Bool) ⊕ (Unit))
 | 0, _, _, _ => none
 | n + 1, x0, x1, x2 => c_Z28 (n_Z28 n) x0 x1 x2 some
noncomputable def Z28 (x0 : List D) (x1 : Int) (x2 : Int) : Option ((Bool) ⊕ (Unit)) := ev (fun n => n_Z28 n x0 x1 x2)
def m_Z28 (F : List D → Int → Int → Option ((Bool) ⊕ (Unit))) : Lent := ⟨2, ⟨(.rd (.struct [.int .i64, .int .i64]) :: .int .i64 :: .undef :: .undef :: .undef :: .int .i64 :: uu 36 ([])), []⟩, [(.ret, ⟨(uu 4 (.bool :: uu 37 ([]))), []⟩), (.exit 0, ⟨(uu 42 ([])), []⟩)], fun _ ds k => dL (fun x0 ds => dI (fun x1 ds => dI (fun x2 ds => dE ((F x0 x1 x2).bind (Sum.elim (fun y => k 0 [.B y]) (fun y => k 1 []))) ds) ds) ds) ds⟩
theorem q_Z28 (F : List D → Int → Int → Option ((Bool) ⊕ (Unit))) (x0 : List D) (x1 : Int) (x2 : Int) : runLoop (ocOf []) (olOf [m_Z28 F]) A 11 (codeAt (bodyOf Try.f11) 2) ((m_Z28 F).sh.mk' [.L x0, .I x1, .I x2]) (fun e σ' => some (e, σ')) = c_Z28 F x0 x1 x2 (Sum.elim (fun y => some (.ret, SSt.mk' ⟨(uu 4 (.bool :: uu 37 ([]))), []⟩ [.B y])) (fun y => some (.exit 0, SSt.mk' ⟨(uu 42 ([])), []⟩ []))) := by kernel_rfl
theorem m_Z28_ok : ∀ n, (m_Z28 (n_Z28 n)).ok Try.prog (codeAt (bodyOf Try.f11) 2) := by
 intro n
 induction n with
 | zero =>
  intro R ds k r h
  unfold m_Z28 at h
  obtain ⟨x0, d0, rfl, h0⟩ := dL_some h
  obtain ⟨x1, d1, rfl, h1⟩ := dI_some h0
  obtain ⟨x2, d2, rfl, h2⟩ := dI_some h1
  obtain ⟨rfl, hE⟩ := dE_some h2
  obtain ⟨y, hy, hk⟩ := bnd_some hE
  cases hy
 | succ n ih =>
  intro R ds k r h
  unfold m_Z28 at h
  obtain ⟨x0, d0, rfl, h0⟩ := dL_some h
  obtain ⟨x1, d1, rfl, h1⟩ := dI_some h0
  obtain ⟨x2, d2, rfl, h2⟩ := dI_some h1
  obtain ⟨rfl, hE⟩ := dE_some h2
  obtain ⟨y, hy, hk⟩ := bnd_some hE
  have hq := q_Z28 (n_Z28 n) x0 x1 x2
  rw [c_Z28_bind] at hq
  rw [show c_Z28 (n_Z28 n) x0 x1 x2 some = some y from hy] at hq
  cases y with
  | inl y =>
   refine ⟨0, _, _, _, hk, rfl, loop_ok px (fx := ⟨Try.func11, by kernel_rfl, by kernel_rfl⟩) entsOK_nil (lentsOK_cons ih lentsOK_nil) (by kernel_rfl) ?_⟩
   exact hq
  | inr y =>
   refine ⟨1, _, _, _, hk, rfl, loop_ok px (fx := ⟨Try.func11, by kernel_rfl, by kernel_rfl⟩) entsOK_nil (lentsOK_cons ih lentsOK_nil) (by kernel_rfl) ?_⟩
   exact hq
noncomputable def e_Z28 : Lent := m_Z28 (Z28)
theorem e_Z28_ok : (e_Z28).ok Try.prog (codeAt (bodyOf Try.f11) 2) := by
 intro R ds k r h
 unfold e_Z28 m_Z28 at h
 obtain ⟨x0, d0, rfl, h0⟩ := dL_some h
 obtain ⟨x1, d1, rfl, h1⟩ := dI_some h0
 obtain ⟨x2, d2, rfl, h2⟩ := dI_some h1
 obtain ⟨rfl, hE⟩ := dE_some h2
 obtain ⟨y, hy, hk⟩ := bnd_some hE
 obtain ⟨n, hn⟩ := ev_some hy
 exact m_Z28_ok n R _ k r (show (n_Z28 n x0 x1 x2).bind _ = _ by rw [hn]; exact hk)

/-!-/
def c_Z29 {R : Type} (x0 : List D) (x1 : Int) (k : Bool → Option R) : Option R :=
 (Z28 x0 x1 (0 : Int)).bind (Sum.elim (fun y0 =>
 k y0) (fun y1 =>
 k Bool.true))
theorem c_Z29_bind {R : Type} (x0 : List D) (x1 : Int) (k : Bool → Option R) : c_Z29 x0 x1 k = (c_Z29 x0 x1 some).bind k := by
 unfold c_Z29
 repeat' first|exact bnd_tail|exact bnd_none|exact bnd_leaf|apply bnd_ite|apply bnd_cond|apply bnd_sum|(apply bnd_bind;intro _)|intro _
def Z29 (x0 : List D) (x1 : Int) : Option (Bool) := c_Z29 x0 x1 some
def e_Z29 : Ent := ⟨11, [.rd (.struct [.int .i64, .int .i64]), .int .i64], [(.bool, [.undef, .undef])], fun _ ds k => dL (fun x0 ds => dI (fun x1 ds => dE ((Z29 x0 x1).bind (fun y => k 0 [.B y])) ds) ds) ds⟩
theorem q_Z29 (x0 : List D) (x1 : Int) : runFn (ocOf []) (olOf [e_Z28]) A 11 Try.f11 (Sh.mks e_Z29.sh [.L x0, .I x1]).1 (fun v os => some (v, os)) = c_Z29 x0 x1 (fun y => retO e_Z29 0 [.B y]) := by kernel_rfl
theorem e_Z29_ok : e_Z29.ok Try.prog A := by
 intro R ds k r h
 unfold e_Z29 at h
 obtain ⟨x0, d0, rfl, h0⟩ := dL_some h
 obtain ⟨x1, d1, rfl, h1⟩ := dI_some h0
 obtain ⟨rfl, hE⟩ := dE_some h1
 obtain ⟨y, hy, hk⟩ := bnd_some hE
 have hq := q_Z29 x0 x1
 rw [c_Z29_bind] at hq
 rw [show c_Z29 x0 x1 some = some y from hy] at hq
 refine ⟨0, _, _, _, hk, rfl, fn_ok px (fx := ⟨Try.func11, by kernel_rfl, by kernel_rfl⟩) entsOK_nil (lentsOK_cons e_Z28_ok lentsOK_nil) ?_⟩
 exact hq

/-!-/
def c_Z30 {R : Type} (x0 : List D) (k : Bool → Option R) : Option R :=
 (Z0 x0).bind (fun y0 =>
 bif y0 then
 k Bool.true
 else
 (Z11 x0).bind (fun y1 =>
 (Z20 y1).bind (fun y2 =>
 (Z27 y1).bind (fun y3 =>
 bif !decide (y2.fst = y3.fst) then
 bif decide (y2.fst = y3.fst) then
 bif decide (y2.snd.fst = y3.snd.fst) then
 k (y2.snd.snd == y3.snd.snd)
 else
 k Bool.false
 else
 k Bool.false
 else
 bif !decide (y2.snd.fst = y3.snd.fst) then
 bif decide (y2.fst = y3.fst) then
 bif decide (y2.snd.fst = y3.snd.fst) then
 k (y2.snd.snd == y3.snd.snd)
 else
 k Bool.false
 else
 k Bool.false
 else
 bif !y2.snd.snd == y3.snd.snd then
 bif decide (y2.fst = y3.fst) then
 bif decide (y2.snd.fst = y3.snd.fst) then
 k (y2.snd.snd == y3.snd.snd)
 else
 k Bool.false
 else
 k Bool.false
 else
 bif !y2.snd.snd then
 bif decide (y2.fst = y3.fst) then
 bif decide (y2.snd.fst = y3.snd.fst) then
 k (y2.snd.snd == y3.snd.snd)
 else
 k Bool.false
 else
 k Bool.false
 else
 (Z29 y1 y2.fst).bind (fun y4 =>
 bif y4 then
 (Z29 y1 y2.snd.fst).bind (fun y5 =>
 bif y5 then
 bif decide (y2.fst = (0 : Int)) then
 bif decide (y2.snd.fst = (60000 : Int)) then
 k Bool.true
 else
 (Z29 y1 (IntKind.i64.wrap (y2.snd.fst + 1))).bind (fun y6 =>
 k !y6)
 else
 (Z29 y1 (IntKind.i64.wrap (y2.fst - 1))).bind (fun y7 =>
 bif !y7 then
 bif decide (y2.snd.fst = (60000 : Int)) then
 k Bool.true
 else
 (Z29 y1 (IntKind.i64.wrap (y2.snd.fst + 1))).bind (fun y8 =>
 k !y8)
 else
 k Bool.false)
 else
 k Bool.false)
 else
 k Bool.false)))))
theorem c_Z30_bind {R : Type} (x0 : List D) (k : Bool → Option R) : c_Z30 x0 k = (c_Z30 x0 some).bind k := by
 unfold c_Z30
 repeat' first|exact bnd_tail|exact bnd_none|exact bnd_leaf|apply bnd_ite|apply bnd_cond|apply bnd_sum|(apply bnd_bind;intro _)|intro _
def Z30 (x0 : List D) : Option (Bool) := c_Z30 x0 some
def e_Z30 : Ent := ⟨3, [.rd (.int .u8)], [(.bool, [.undef])], fun _ ds k => dL (fun x0 ds => dE ((Z30 x0).bind (fun y => k 0 [.B y])) ds) ds⟩
theorem q_Z30 (x0 : List D) : runFn (ocOf [e_Z0, e_Z11, e_Z20, e_Z27, e_Z29]) (olOf []) A 3 Try.f3 (Sh.mks e_Z30.sh [.L x0]).1 (fun v os => some (v, os)) = c_Z30 x0 (fun y => retO e_Z30 0 [.B y]) := by kernel_rfl
theorem e_Z30_ok : e_Z30.ok Try.prog A := by
 intro R ds k r h
 unfold e_Z30 at h
 obtain ⟨x0, d0, rfl, h0⟩ := dL_some h
 obtain ⟨rfl, hE⟩ := dE_some h0
 obtain ⟨y, hy, hk⟩ := bnd_some hE
 have hq := q_Z30 x0
 rw [c_Z30_bind] at hq
 rw [show c_Z30 x0 some = some y from hy] at hq
 refine ⟨0, _, _, _, hk, rfl, fn_ok px (fx := ⟨Try.func3, by kernel_rfl, by kernel_rfl⟩) (entsOK_cons e_Z0_ok (entsOK_cons e_Z11_ok (entsOK_cons e_Z20_ok (entsOK_cons e_Z27_ok (entsOK_cons e_Z29_ok entsOK_nil))))) lentsOK_nil ?_⟩
 exact hq
end
end Go.Proofs.Ytckpgbimbgjcoaa
