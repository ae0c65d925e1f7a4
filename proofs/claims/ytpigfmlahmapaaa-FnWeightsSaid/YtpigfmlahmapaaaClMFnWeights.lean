/- Models of Go functions and their contracts, printed by a program of this session. -/
import Derived.Test.YtpigfmlahmapaaaClA
set_option linter.unusedVariables false
set_option maxRecDepth 100000
namespace Go.Proofs.Ytpigfmlahmapaaa
open Go Go.Rai
noncomputable section
/-!-/
def c_Z0 {R : Type} (x0 : List D) (k : Bool → Option R) : Option R :=
 k (decide ((65536 : Int) < (↑x0.length : Int)))
theorem c_Z0_bind {R : Type} (x0 : List D) (k : Bool → Option R) : c_Z0 x0 k = (c_Z0 x0 some).bind k := by
 unfold c_Z0
 repeat' first|exact bnd_tail|exact bnd_none|exact bnd_leaf|apply bnd_ite|apply bnd_cond|apply bnd_sum|(apply bnd_bind;intro _)|intro _
def Z0 (x0 : List D) : Option (Bool) := c_Z0 x0 some
def e_Z0 : Ent := ⟨11, [.rd (.int .u8)], .bool, [.undef], fun _ ds k => dL (fun x0 ds => dE ((Z0 x0).bind (fun y => k [.B y])) ds) ds⟩
theorem q_Z0 (x0 : List D) : runFn (ocOf []) (olOf []) A 11 Try.f11 (Sh.mks e_Z0.sh [.L x0]).1 (fun v os => some (v, os)) = c_Z0 x0 (fun y => some ((e_Z0.res.mk [.B y]).1, (Sh.mks e_Z0.outs (e_Z0.res.mk [.B y]).2).1)) := by kernel_rfl
theorem e_Z0_ok : e_Z0.ok Try.prog A := by
 intro R ds k r h
 unfold e_Z0 at h
 obtain ⟨x0, d0, rfl, h0⟩ := dL_some h
 obtain ⟨rfl, hE⟩ := dE_some h0
 obtain ⟨y, hy, hk⟩ := bnd_some hE
 refine ⟨_, hk, fn_ok px (fx := ⟨Try.func11, by kernel_rfl, by kernel_rfl⟩) entsOK_nil lentsOK_nil ?_⟩
 have hq := q_Z0 x0
 rw [c_Z0_bind] at hq
 rw [show c_Z0 x0 some = some y from hy] at hq
 exact hq

/-!-/
def c_Z1 {R : Type} (x0 : List D) (x1 : Int) (x2 : Int) (k : Int × List D × Int × Int → Option R) : Option R :=
 bif decide (x1 < (↑x0.length : Int)) then
 if 0 ≤ x1 ∧ x1 < (↑x0.length : Int) then
 bif decide (IntKind.i64.wrap (x1 + 1) ≤ (↑x0.length : Int)) then
 k (IntKind.i64.wrap (x0.getD x1.toNat (D.int 0)).toInt, x0, IntKind.i64.wrap (x1 + 1), IntKind.u64.wrap (IntKind.u64.wrap (IntKind.u64.wrap (x2 * (6364136223846793005 : Int)) + IntKind.u64.wrap (IntKind.i64.wrap (x0.getD x1.toNat (D.int 0)).toInt)) + (876876 : Int)))
 else
 if (0 : Int) ≤ (40 : Int) then
 k (IntKind.i64.wrap (IntKind.u64.wrap (↑(BitVec.ofInt IntKind.u64.bits ((IntKind.u64.wrap (IntKind.u64.wrap (IntKind.u64.wrap (x2 * (6364136223846793005 : Int)) + IntKind.u64.wrap (IntKind.i64.wrap (x0.getD x1.toNat (D.int 0)).toInt)) + (876876 : Int))).fdiv ((2 : Int) ^ Min.min (Int.toNat (40 : Int)) IntKind.u64.bits)) &&& BitVec.ofInt IntKind.u64.bits (255 : Int)).toNat : Int)), x0, IntKind.i64.wrap (x1 + 1), IntKind.u64.wrap (IntKind.u64.wrap (IntKind.u64.wrap (x2 * (6364136223846793005 : Int)) + IntKind.u64.wrap (IntKind.i64.wrap (x0.getD x1.toNat (D.int 0)).toInt)) + (876876 : Int)))
 else
 none
 else
 none
 else
 bif decide (IntKind.i64.wrap (x1 + 1) ≤ (↑x0.length : Int)) then
 k ((0 : Int), x0, IntKind.i64.wrap (x1 + 1), IntKind.u64.wrap (IntKind.u64.wrap (IntKind.u64.wrap (x2 * (6364136223846793005 : Int)) + IntKind.u64.wrap (0 : Int)) + (876876 : Int)))
 else
 if (0 : Int) ≤ (40 : Int) then
 k (IntKind.i64.wrap (IntKind.u64.wrap (↑(BitVec.ofInt IntKind.u64.bits ((IntKind.u64.wrap (IntKind.u64.wrap (IntKind.u64.wrap (x2 * (6364136223846793005 : Int)) + IntKind.u64.wrap (0 : Int)) + (876876 : Int))).fdiv ((2 : Int) ^ Min.min (Int.toNat (40 : Int)) IntKind.u64.bits)) &&& BitVec.ofInt IntKind.u64.bits (255 : Int)).toNat : Int)), x0, IntKind.i64.wrap (x1 + 1), IntKind.u64.wrap (IntKind.u64.wrap (IntKind.u64.wrap (x2 * (6364136223846793005 : Int)) + IntKind.u64.wrap (0 : Int)) + (876876 : Int)))
 else
 none
theorem c_Z1_bind {R : Type} (x0 : List D) (x1 : Int) (x2 : Int) (k : Int × List D × Int × Int → Option R) : c_Z1 x0 x1 x2 k = (c_Z1 x0 x1 x2 some).bind k := by
 unfold c_Z1
 repeat' first|exact bnd_tail|exact bnd_none|exact bnd_leaf|apply bnd_ite|apply bnd_cond|apply bnd_sum|(apply bnd_bind;intro _)|intro _
def Z1 (x0 : List D) (x1 : Int) (x2 : Int) : Option (Int × List D × Int × Int) := c_Z1 x0 x1 x2 some
def e_Z1 : Ent := ⟨151, [.obox (.agg [.rd (.int .u8), .int .i64, .int .u64])], .int .i64, [.obox (.agg [.rd (.int .u8), .int .i64, .int .u64])], fun _ ds k => dL (fun x0 ds => dI (fun x1 ds => dI (fun x2 ds => dE ((Z1 x0 x1 x2).bind (fun y => k [.I y.1, .L y.2.1, .I y.2.2.1, .I y.2.2.2])) ds) ds) ds) ds⟩
theorem q_Z1 (x0 : List D) (x1 : Int) (x2 : Int) : runFn (ocOf []) (olOf []) A 151 Try.f151 (Sh.mks e_Z1.sh [.L x0, .I x1, .I x2]).1 (fun v os => some (v, os)) = c_Z1 x0 x1 x2 (fun y => some ((e_Z1.res.mk [.I y.1, .L y.2.1, .I y.2.2.1, .I y.2.2.2]).1, (Sh.mks e_Z1.outs (e_Z1.res.mk [.I y.1, .L y.2.1, .I y.2.2.1, .I y.2.2.2]).2).1)) := by kernel_rfl
theorem e_Z1_ok : e_Z1.ok Try.prog A := by
 intro R ds k r h
 unfold e_Z1 at h
 obtain ⟨x0, d0, rfl, h0⟩ := dL_some h
 obtain ⟨x1, d1, rfl, h1⟩ := dI_some h0
 obtain ⟨x2, d2, rfl, h2⟩ := dI_some h1
 obtain ⟨rfl, hE⟩ := dE_some h2
 obtain ⟨y, hy, hk⟩ := bnd_some hE
 refine ⟨_, hk, fn_ok px (fx := ⟨Try.func151, by kernel_rfl, by kernel_rfl⟩) entsOK_nil lentsOK_nil ?_⟩
 have hq := q_Z1 x0 x1 x2
 rw [c_Z1_bind] at hq
 rw [show c_Z1 x0 x1 x2 some = some y from hy] at hq
 exact hq

/-!-/
def c_Z2 {R : Type} (x0 : List D) (x1 : Int) (x2 : Int) (x3 : Int) (k : Int × List D × Int × Int → Option R) : Option R :=
 bif decide (x3 ≤ (1 : Int)) then
 k ((0 : Int), x0, x1, x2)
 else
 (Z1 x0 x1 x2).bind (fun y0 =>
 bif decide ((200 : Int) < x3) then
 (Z1 y0.snd.fst y0.snd.snd.fst y0.snd.snd.snd).bind (fun y1 =>
 if x3 ≠ (0 : Int) then
 k ((IntKind.i64.wrap (IntKind.i64.wrap (y0.fst * (256 : Int)) + y1.fst)).tmod x3, y1.snd.fst, y1.snd.snd.fst, y1.snd.snd.snd)
 else
 none)
 else
 if x3 ≠ (0 : Int) then
 k (y0.fst.tmod x3, y0.snd.fst, y0.snd.snd.fst, y0.snd.snd.snd)
 else
 none)
theorem c_Z2_bind {R : Type} (x0 : List D) (x1 : Int) (x2 : Int) (x3 : Int) (k : Int × List D × Int × Int → Option R) : c_Z2 x0 x1 x2 x3 k = (c_Z2 x0 x1 x2 x3 some).bind k := by
 unfold c_Z2
 repeat' first|exact bnd_tail|exact bnd_none|exact bnd_leaf|apply bnd_ite|apply bnd_cond|apply bnd_sum|(apply bnd_bind;intro _)|intro _
def Z2 (x0 : List D) (x1 : Int) (x2 : Int) (x3 : Int) : Option (Int × List D × Int × Int) := c_Z2 x0 x1 x2 x3 some
def e_Z2 : Ent := ⟨90, [.obox (.agg [.rd (.int .u8), .int .i64, .int .u64]), .int .i64], .int .i64, [.obox (.agg [.rd (.int .u8), .int .i64, .int .u64]), .undef], fun _ ds k => dL (fun x0 ds => dI (fun x1 ds => dI (fun x2 ds => dI (fun x3 ds => dE ((Z2 x0 x1 x2 x3).bind (fun y => k [.I y.1, .L y.2.1, .I y.2.2.1, .I y.2.2.2])) ds) ds) ds) ds) ds⟩
theorem q_Z2 (x0 : List D) (x1 : Int) (x2 : Int) (x3 : Int) : runFn (ocOf [e_Z1]) (olOf []) A 90 Try.f90 (Sh.mks e_Z2.sh [.L x0, .I x1, .I x2, .I x3]).1 (fun v os => some (v, os)) = c_Z2 x0 x1 x2 x3 (fun y => some ((e_Z2.res.mk [.I y.1, .L y.2.1, .I y.2.2.1, .I y.2.2.2]).1, (Sh.mks e_Z2.outs (e_Z2.res.mk [.I y.1, .L y.2.1, .I y.2.2.1, .I y.2.2.2]).2).1)) := by kernel_rfl
theorem e_Z2_ok : e_Z2.ok Try.prog A := by
 intro R ds k r h
 unfold e_Z2 at h
 obtain ⟨x0, d0, rfl, h0⟩ := dL_some h
 obtain ⟨x1, d1, rfl, h1⟩ := dI_some h0
 obtain ⟨x2, d2, rfl, h2⟩ := dI_some h1
 obtain ⟨x3, d3, rfl, h3⟩ := dI_some h2
 obtain ⟨rfl, hE⟩ := dE_some h3
 obtain ⟨y, hy, hk⟩ := bnd_some hE
 refine ⟨_, hk, fn_ok px (fx := ⟨Try.func90, by kernel_rfl, by kernel_rfl⟩) (entsOK_cons e_Z1_ok entsOK_nil) lentsOK_nil ?_⟩
 have hq := q_Z2 x0 x1 x2 x3
 rw [c_Z2_bind] at hq
 rw [show c_Z2 x0 x1 x2 x3 some = some y from hy] at hq
 exact hq

/-!-/
def c_Z3 {R : Type} (x0 : List D) (x1 : Int) (x2 : Int) (x3 : List D) (k : Int × List D × Int × Int → Option R) : Option R :=
 (Z2 x0 x1 x2 (↑x3.length : Int)).bind (fun y0 =>
 if 0 ≤ y0.fst ∧ y0.fst < (↑x3.length : Int) then
 if y0.fst.toNat + 1 ≤ x3.length then
 k ((x3.getD y0.fst.toNat (D.int 0)).toInt, y0.snd.fst, y0.snd.snd.fst, y0.snd.snd.snd)
 else
 none
 else
 none)
theorem c_Z3_bind {R : Type} (x0 : List D) (x1 : Int) (x2 : Int) (x3 : List D) (k : Int × List D × Int × Int → Option R) : c_Z3 x0 x1 x2 x3 k = (c_Z3 x0 x1 x2 x3 some).bind k := by
 unfold c_Z3
 repeat' first|exact bnd_tail|exact bnd_none|exact bnd_leaf|apply bnd_ite|apply bnd_cond|apply bnd_sum|(apply bnd_bind;intro _)|intro _
def Z3 (x0 : List D) (x1 : Int) (x2 : Int) (x3 : List D) : Option (Int × List D × Int × Int) := c_Z3 x0 x1 x2 x3 some
def e_Z3 : Ent := ⟨74, [.obox (.agg [.rd (.int .u8), .int .i64, .int .u64]), .own (.int .i64)], .int .i64, [.obox (.agg [.rd (.int .u8), .int .i64, .int .u64]), .undef], fun _ ds k => dL (fun x0 ds => dI (fun x1 ds => dI (fun x2 ds => dL (fun x3 ds => dE ((Z3 x0 x1 x2 x3).bind (fun y => k [.I y.1, .L y.2.1, .I y.2.2.1, .I y.2.2.2])) ds) ds) ds) ds) ds⟩
theorem q_Z3 (x0 : List D) (x1 : Int) (x2 : Int) (x3 : List D) : runFn (ocOf [e_Z2]) (olOf []) A 74 Try.f74 (Sh.mks e_Z3.sh [.L x0, .I x1, .I x2, .L x3]).1 (fun v os => some (v, os)) = c_Z3 x0 x1 x2 x3 (fun y => some ((e_Z3.res.mk [.I y.1, .L y.2.1, .I y.2.2.1, .I y.2.2.2]).1, (Sh.mks e_Z3.outs (e_Z3.res.mk [.I y.1, .L y.2.1, .I y.2.2.1, .I y.2.2.2]).2).1)) := by kernel_rfl
theorem e_Z3_ok : e_Z3.ok Try.prog A := by
 intro R ds k r h
 unfold e_Z3 at h
 obtain ⟨x0, d0, rfl, h0⟩ := dL_some h
 obtain ⟨x1, d1, rfl, h1⟩ := dI_some h0
 obtain ⟨x2, d2, rfl, h2⟩ := dI_some h1
 obtain ⟨x3, d3, rfl, h3⟩ := dL_some h2
 obtain ⟨rfl, hE⟩ := dE_some h3
 obtain ⟨y, hy, hk⟩ := bnd_some hE
 refine ⟨_, hk, fn_ok px (fx := ⟨Try.func74, by kernel_rfl, by kernel_rfl⟩) (entsOK_cons e_Z2_ok entsOK_nil) lentsOK_nil ?_⟩
 have hq := q_Z3 x0 x1 x2 x3
 rw [c_Z3_bind] at hq
 rw [show c_Z3 x0 x1 x2 x3 some = some y from hy] at hq
 exact hq

/-!-/
def c_Z4 {R : Type} (F : Int → List D → Int → Int → List D → Option (List D × Int × Int × List D)) (x0 : Int) (x1 : List D) (x2 : Int) (x3 : Int) (x4 : List D) (k : List D × Int × Int × List D → Option R) : Option R :=
 bif decide ((0 : Int) < x0) then
 (Z3 x1 x2 x3 ([D.int 0, D.int 0, D.int (2 : Int), D.int (4 : Int), D.int (6 : Int), D.int (1000 : Int), D.int (3000000 : Int), D.int (1000000000000 : Int)])).bind (fun y0 =>
 if x4.length + [D.int y0.fst].length ≤ (4294967296 : Nat) then
 (F (IntKind.i64.wrap (x0 - 1)) y0.snd.fst y0.snd.snd.fst y0.snd.snd.snd (x4 ++ [D.int y0.fst])).bind k
 else
 none)
 else
 k (x1, x2, x3, x4)
theorem c_Z4_bind {R : Type} (F : Int → List D → Int → Int → List D → Option (List D × Int × Int × List D)) (x0 : Int) (x1 : List D) (x2 : Int) (x3 : Int) (x4 : List D) (k : List D × Int × Int × List D → Option R) : c_Z4 F x0 x1 x2 x3 x4 k = (c_Z4 F x0 x1 x2 x3 x4 some).bind k := by
 unfold c_Z4
 repeat' first|exact bnd_tail|exact bnd_none|exact bnd_leaf|apply bnd_ite|apply bnd_cond|apply bnd_sum|(apply bnd_bind;intro _)|intro _
def n_Z4 : Nat → Int → List D → Int → Int → List D → Option (List D × Int × Int × List D)
 | 0, _, _, _, _, _ => none
 | n + 1, x0, x1, x2, x3, x4 => c_Z4 (n_Z4 n) x0 x1 x2 x3 x4 some
noncomputable def Z4 (x0 : Int) (x1 : List D) (x2 : Int) (x3 : Int) (x4 : List D) : Option (List D × Int × Int × List D) := ev (fun n => n_Z4 n x0 x1 x2 x3 x4)
def m_Z4 (F : Int → List D → Int → Int → List D → Option (List D × Int × Int × List D)) : Lent := ⟨4, ⟨(uu 4 (.ptr 1000 [0] :: .full 1001 [] (.int .i64) :: .int .i64 :: uu 33 ([]))), [(1000, .obox (.agg [.rd (.int .u8), .int .i64, .int .u64])), (1001, .own (.int .i64))]⟩, [(.exit 0, ⟨(uu 4 (.ptr 1000 [0] :: .full 1001 [] (.int .i64) :: uu 34 ([]))), [(1000, .obox (.agg [.rd (.int .u8), .int .i64, .int .u64])), (1001, .own (.int .i64))]⟩)], fun _ ds k => dI (fun x0 ds => dL (fun x1 ds => dI (fun x2 ds => dI (fun x3 ds => dL (fun x4 ds => dE ((F x0 x1 x2 x3 x4).bind (fun y => k 0 [.L y.1, .I y.2.1, .I y.2.2.1, .L y.2.2.2])) ds) ds) ds) ds) ds) ds⟩
theorem q_Z4 (F : Int → List D → Int → Int → List D → Option (List D × Int × Int × List D)) (x0 : Int) (x1 : List D) (x2 : Int) (x3 : Int) (x4 : List D) : runLoop (ocOf [e_Z3]) (olOf [m_Z4 F]) A 28 (codeAt (bodyOf Try.f28) 4) ((m_Z4 F).sh.mk' [.I x0, .L x1, .I x2, .I x3, .L x4]) (fun e σ' => some (e, σ')) = c_Z4 F x0 x1 x2 x3 x4 (fun y => some (.exit 0, SSt.mk' ⟨(uu 4 (.ptr 1000 [0] :: .full 1001 [] (.int .i64) :: uu 34 ([]))), [(1000, .obox (.agg [.rd (.int .u8), .int .i64, .int .u64])), (1001, .own (.int .i64))]⟩ [.L y.1, .I y.2.1, .I y.2.2.1, .L y.2.2.2])) := by kernel_rfl
theorem m_Z4_ok : ∀ n, (m_Z4 (n_Z4 n)).ok Try.prog (codeAt (bodyOf Try.f28) 4) := by
 intro n
 induction n with
 | zero =>
  intro R ds k r h
  unfold m_Z4 at h
  obtain ⟨x0, d0, rfl, h0⟩ := dI_some h
  obtain ⟨x1, d1, rfl, h1⟩ := dL_some h0
  obtain ⟨x2, d2, rfl, h2⟩ := dI_some h1
  obtain ⟨x3, d3, rfl, h3⟩ := dI_some h2
  obtain ⟨x4, d4, rfl, h4⟩ := dL_some h3
  obtain ⟨rfl, hE⟩ := dE_some h4
  obtain ⟨y, hy, hk⟩ := bnd_some hE
  cases hy
 | succ n ih =>
  intro R ds k r h
  unfold m_Z4 at h
  obtain ⟨x0, d0, rfl, h0⟩ := dI_some h
  obtain ⟨x1, d1, rfl, h1⟩ := dL_some h0
  obtain ⟨x2, d2, rfl, h2⟩ := dI_some h1
  obtain ⟨x3, d3, rfl, h3⟩ := dI_some h2
  obtain ⟨x4, d4, rfl, h4⟩ := dL_some h3
  obtain ⟨rfl, hE⟩ := dE_some h4
  obtain ⟨y, hy, hk⟩ := bnd_some hE
  have hq := q_Z4 (n_Z4 n) x0 x1 x2 x3 x4
  rw [c_Z4_bind] at hq
  rw [show c_Z4 (n_Z4 n) x0 x1 x2 x3 x4 some = some y from hy] at hq
  refine ⟨0, _, _, _, hk, rfl, loop_ok px (fx := ⟨Try.func28, by kernel_rfl, by kernel_rfl⟩) (entsOK_cons e_Z3_ok entsOK_nil) (lentsOK_cons ih lentsOK_nil) (by kernel_rfl) ?_⟩
  exact hq
noncomputable def e_Z4 : Lent := m_Z4 (Z4)
theorem e_Z4_ok : (e_Z4).ok Try.prog (codeAt (bodyOf Try.f28) 4) := by
 intro R ds k r h
 unfold e_Z4 m_Z4 at h
 obtain ⟨x0, d0, rfl, h0⟩ := dI_some h
 obtain ⟨x1, d1, rfl, h1⟩ := dL_some h0
 obtain ⟨x2, d2, rfl, h2⟩ := dI_some h1
 obtain ⟨x3, d3, rfl, h3⟩ := dI_some h2
 obtain ⟨x4, d4, rfl, h4⟩ := dL_some h3
 obtain ⟨rfl, hE⟩ := dE_some h4
 obtain ⟨y, hy, hk⟩ := bnd_some hE
 obtain ⟨n, hn⟩ := ev_some hy
 exact m_Z4_ok n R _ k r (show (n_Z4 n x0 x1 x2 x3 x4).bind _ = _ by rw [hn]; exact hk)

/-!-/
def c_Z5 {R : Type} (x0 : List D) (x1 : Int) (x2 : Int) (k : Int × List D × Int × Int → Option R) : Option R :=
 (Z3 x0 x1 x2 ([D.int (-500 : Int), D.int 0, D.int (100 : Int), D.int (1000 : Int), D.int (-19990 : Int), D.int (2090 : Int), D.int (-3 : Int)])).bind (fun y0 =>
 k (y0.fst, y0.snd.fst, y0.snd.snd.fst, y0.snd.snd.snd))
theorem c_Z5_bind {R : Type} (x0 : List D) (x1 : Int) (x2 : Int) (k : Int × List D × Int × Int → Option R) : c_Z5 x0 x1 x2 k = (c_Z5 x0 x1 x2 some).bind k := by
 unfold c_Z5
 repeat' first|exact bnd_tail|exact bnd_none|exact bnd_leaf|apply bnd_ite|apply bnd_cond|apply bnd_sum|(apply bnd_bind;intro _)|intro _
def Z5 (x0 : List D) (x1 : Int) (x2 : Int) : Option (Int × List D × Int × Int) := c_Z5 x0 x1 x2 some
def e_Z5 : Ent := ⟨91, [.obox (.agg [.rd (.int .u8), .int .i64, .int .u64])], .int .i64, [.obox (.agg [.rd (.int .u8), .int .i64, .int .u64])], fun _ ds k => dL (fun x0 ds => dI (fun x1 ds => dI (fun x2 ds => dE ((Z5 x0 x1 x2).bind (fun y => k [.I y.1, .L y.2.1, .I y.2.2.1, .I y.2.2.2])) ds) ds) ds) ds⟩
theorem q_Z5 (x0 : List D) (x1 : Int) (x2 : Int) : runFn (ocOf [e_Z3]) (olOf []) A 91 Try.f91 (Sh.mks e_Z5.sh [.L x0, .I x1, .I x2]).1 (fun v os => some (v, os)) = c_Z5 x0 x1 x2 (fun y => some ((e_Z5.res.mk [.I y.1, .L y.2.1, .I y.2.2.1, .I y.2.2.2]).1, (Sh.mks e_Z5.outs (e_Z5.res.mk [.I y.1, .L y.2.1, .I y.2.2.1, .I y.2.2.2]).2).1)) := by kernel_rfl
theorem e_Z5_ok : e_Z5.ok Try.prog A := by
 intro R ds k r h
 unfold e_Z5 at h
 obtain ⟨x0, d0, rfl, h0⟩ := dL_some h
 obtain ⟨x1, d1, rfl, h1⟩ := dI_some h0
 obtain ⟨x2, d2, rfl, h2⟩ := dI_some h1
 obtain ⟨rfl, hE⟩ := dE_some h2
 obtain ⟨y, hy, hk⟩ := bnd_some hE
 refine ⟨_, hk, fn_ok px (fx := ⟨Try.func91, by kernel_rfl, by kernel_rfl⟩) (entsOK_cons e_Z3_ok entsOK_nil) lentsOK_nil ?_⟩
 have hq := q_Z5 x0 x1 x2
 rw [c_Z5_bind] at hq
 rw [show c_Z5 x0 x1 x2 some = some y from hy] at hq
 exact hq

/-!-/
def c_Z6 {R : Type} (x0 : List D) (k : Int × List D → Option R) : Option R :=
 (Z2 x0 (0 : Int) (0 : Int) (9 : Int)).bind (fun y0 =>
 (Z4 y0.fst y0.snd.fst y0.snd.snd.fst y0.snd.snd.snd []).bind (fun y1 =>
 (Z2 y1.fst y1.snd.fst y1.snd.snd.fst (30 : Int)).bind (fun y2 =>
 bif decide (y2.fst = (0 : Int)) then
 (Z3 y2.snd.fst y2.snd.snd.fst y2.snd.snd.snd ([D.int (-1 : Int), D.int (1000000000001 : Int)])).bind (fun y3 =>
 if y1.snd.snd.snd.length + [D.int y3.fst].length ≤ (4294967296 : Nat) then
 (Z5 y3.snd.fst y3.snd.snd.fst y3.snd.snd.snd).bind (fun y4 =>
 k (y4.fst, y1.snd.snd.snd ++ [D.int y3.fst]))
 else
 none)
 else
 bif decide (y2.fst = (1 : Int)) then
 if (0 : Int) ≤ (200 : Int) ∧ (200 : Int) ≤ (200 : Int) ∧ (200 : Int) ≤ (4294967296 : Int) then
 if y1.snd.snd.snd.length + Int.toNat (200 : Int) ≤ (4294967296 : Nat) then
 (Z5 y2.snd.fst y2.snd.snd.fst y2.snd.snd.snd).bind (fun y5 =>
 k (y5.fst, y1.snd.snd.snd ++ List.replicate (Int.toNat (200 : Int)) (D.int 0)))
 else
 none
 else
 none
 else
 (Z5 y2.snd.fst y2.snd.snd.fst y2.snd.snd.snd).bind (fun y6 =>
 k (y6.fst, y1.snd.snd.snd)))))
theorem c_Z6_bind {R : Type} (x0 : List D) (k : Int × List D → Option R) : c_Z6 x0 k = (c_Z6 x0 some).bind k := by
 unfold c_Z6
 repeat' first|exact bnd_tail|exact bnd_none|exact bnd_leaf|apply bnd_ite|apply bnd_cond|apply bnd_sum|(apply bnd_bind;intro _)|intro _
def Z6 (x0 : List D) : Option (Int × List D) := c_Z6 x0 some
def e_Z6 : Ent := ⟨28, [.rd (.int .u8)], .tup [.int .i64, .own (.int .i64)], [.undef], fun _ ds k => dL (fun x0 ds => dE ((Z6 x0).bind (fun y => k [.I y.1, .L y.2])) ds) ds⟩
theorem q_Z6 (x0 : List D) : runFn (ocOf [e_Z2, e_Z3, e_Z5]) (olOf [e_Z4]) A 28 Try.f28 (Sh.mks e_Z6.sh [.L x0]).1 (fun v os => some (v, os)) = c_Z6 x0 (fun y => some ((e_Z6.res.mk [.I y.1, .L y.2]).1, (Sh.mks e_Z6.outs (e_Z6.res.mk [.I y.1, .L y.2]).2).1)) := by kernel_rfl
theorem e_Z6_ok : e_Z6.ok Try.prog A := by
 intro R ds k r h
 unfold e_Z6 at h
 obtain ⟨x0, d0, rfl, h0⟩ := dL_some h
 obtain ⟨rfl, hE⟩ := dE_some h0
 obtain ⟨y, hy, hk⟩ := bnd_some hE
 refine ⟨_, hk, fn_ok px (fx := ⟨Try.func28, by kernel_rfl, by kernel_rfl⟩) (entsOK_cons e_Z2_ok (entsOK_cons e_Z3_ok (entsOK_cons e_Z5_ok entsOK_nil))) (lentsOK_cons e_Z4_ok lentsOK_nil) ?_⟩
 have hq := q_Z6 x0
 rw [c_Z6_bind] at hq
 rw [show c_Z6 x0 some = some y from hy] at hq
 exact hq

/-!-/
def c_Z7 {R : Type} (x0 : Int) (x1 : Int) (x2 : Int) (k : Bool → Option R) : Option R :=
 bif decide (x1 ≤ x0) then
 k (decide (x0 ≤ x2))
 else
 k Bool.false
theorem c_Z7_bind {R : Type} (x0 : Int) (x1 : Int) (x2 : Int) (k : Bool → Option R) : c_Z7 x0 x1 x2 k = (c_Z7 x0 x1 x2 some).bind k := by
 unfold c_Z7
 repeat' first|exact bnd_tail|exact bnd_none|exact bnd_leaf|apply bnd_ite|apply bnd_cond|apply bnd_sum|(apply bnd_bind;intro _)|intro _
def Z7 (x0 : Int) (x1 : Int) (x2 : Int) : Option (Bool) := c_Z7 x0 x1 x2 some
def e_Z7 : Ent := ⟨75, [.int .i64, .int .i64, .int .i64], .bool, [.undef, .undef, .undef], fun _ ds k => dI (fun x0 ds => dI (fun x1 ds => dI (fun x2 ds => dE ((Z7 x0 x1 x2).bind (fun y => k [.B y])) ds) ds) ds) ds⟩
theorem q_Z7 (x0 : Int) (x1 : Int) (x2 : Int) : runFn (ocOf []) (olOf []) A 75 Try.f75 (Sh.mks e_Z7.sh [.I x0, .I x1, .I x2]).1 (fun v os => some (v, os)) = c_Z7 x0 x1 x2 (fun y => some ((e_Z7.res.mk [.B y]).1, (Sh.mks e_Z7.outs (e_Z7.res.mk [.B y]).2).1)) := by kernel_rfl
theorem e_Z7_ok : e_Z7.ok Try.prog A := by
 intro R ds k r h
 unfold e_Z7 at h
 obtain ⟨x0, d0, rfl, h0⟩ := dI_some h
 obtain ⟨x1, d1, rfl, h1⟩ := dI_some h0
 obtain ⟨x2, d2, rfl, h2⟩ := dI_some h1
 obtain ⟨rfl, hE⟩ := dE_some h2
 obtain ⟨y, hy, hk⟩ := bnd_some hE
 refine ⟨_, hk, fn_ok px (fx := ⟨Try.func75, by kernel_rfl, by kernel_rfl⟩) entsOK_nil lentsOK_nil ?_⟩
 have hq := q_Z7 x0 x1 x2
 rw [c_Z7_bind] at hq
 rw [show c_Z7 x0 x1 x2 some = some y from hy] at hq
 exact hq

/-!-/
def c_Z8 {R : Type} (x0 : Int) (k : Bool → Option R) : Option R :=
 (Z7 x0 (-20000 : Int) (2100 : Int)).bind (fun y0 =>
 k y0)
theorem c_Z8_bind {R : Type} (x0 : Int) (k : Bool → Option R) : c_Z8 x0 k = (c_Z8 x0 some).bind k := by
 unfold c_Z8
 repeat' first|exact bnd_tail|exact bnd_none|exact bnd_leaf|apply bnd_ite|apply bnd_cond|apply bnd_sum|(apply bnd_bind;intro _)|intro _
def Z8 (x0 : Int) : Option (Bool) := c_Z8 x0 some
def e_Z8 : Ent := ⟨79, [.int .i64], .bool, [.undef], fun _ ds k => dI (fun x0 ds => dE ((Z8 x0).bind (fun y => k [.B y])) ds) ds⟩
theorem q_Z8 (x0 : Int) : runFn (ocOf [e_Z7]) (olOf []) A 79 Try.f79 (Sh.mks e_Z8.sh [.I x0]).1 (fun v os => some (v, os)) = c_Z8 x0 (fun y => some ((e_Z8.res.mk [.B y]).1, (Sh.mks e_Z8.outs (e_Z8.res.mk [.B y]).2).1)) := by kernel_rfl
theorem e_Z8_ok : e_Z8.ok Try.prog A := by
 intro R ds k r h
 unfold e_Z8 at h
 obtain ⟨x0, d0, rfl, h0⟩ := dI_some h
 obtain ⟨rfl, hE⟩ := dE_some h0
 obtain ⟨y, hy, hk⟩ := bnd_some hE
 refine ⟨_, hk, fn_ok px (fx := ⟨Try.func79, by kernel_rfl, by kernel_rfl⟩) (entsOK_cons e_Z7_ok entsOK_nil) lentsOK_nil ?_⟩
 have hq := q_Z8 x0
 rw [c_Z8_bind] at hq
 rw [show c_Z8 x0 some = some y from hy] at hq
 exact hq

/-!-/
def c_Z9 {R : Type} (x0 : Int) (k : Bool → Option R) : Option R :=
 (Z7 x0 (0 : Int) (1000000000000 : Int)).bind (fun y0 =>
 k !y0)
theorem c_Z9_bind {R : Type} (x0 : Int) (k : Bool → Option R) : c_Z9 x0 k = (c_Z9 x0 some).bind k := by
 unfold c_Z9
 repeat' first|exact bnd_tail|exact bnd_none|exact bnd_leaf|apply bnd_ite|apply bnd_cond|apply bnd_sum|(apply bnd_bind;intro _)|intro _
def Z9 (x0 : Int) : Option (Bool) := c_Z9 x0 some
def e_Z9 : Ent := ⟨93, [.int .i64], .bool, [.undef], fun _ ds k => dI (fun x0 ds => dE ((Z9 x0).bind (fun y => k [.B y])) ds) ds⟩
theorem q_Z9 (x0 : Int) : runFn (ocOf [e_Z7]) (olOf []) A 93 Try.f93 (Sh.mks e_Z9.sh [.I x0]).1 (fun v os => some (v, os)) = c_Z9 x0 (fun y => some ((e_Z9.res.mk [.B y]).1, (Sh.mks e_Z9.outs (e_Z9.res.mk [.B y]).2).1)) := by kernel_rfl
theorem e_Z9_ok : e_Z9.ok Try.prog A := by
 intro R ds k r h
 unfold e_Z9 at h
 obtain ⟨x0, d0, rfl, h0⟩ := dI_some h
 obtain ⟨rfl, hE⟩ := dE_some h0
 obtain ⟨y, hy, hk⟩ := bnd_some hE
 refine ⟨_, hk, fn_ok px (fx := ⟨Try.func93, by kernel_rfl, by kernel_rfl⟩) (entsOK_cons e_Z7_ok entsOK_nil) lentsOK_nil ?_⟩
 have hq := q_Z9 x0
 rw [c_Z9_bind] at hq
 rw [show c_Z9 x0 some = some y from hy] at hq
 exact hq

/-!-/
def c_Z10 {R : Type} (F : List D → Int → Int → Option ((Int) ⊕ (Unit))) (x0 : List D) (x1 : Int) (x2 : Int) (k : (Int) ⊕ (Unit) → Option R) : Option R :=
 bif decide (x2 < x1) then
 if 0 ≤ x2 ∧ x2 < (↑x0.length : Int) then
 (Z9 ((x0.getD x2.toNat (D.int 0)).toInt)).bind (fun y0 =>
 bif y0 then
 k (.inl x2)
 else
 (F x0 x1 (IntKind.i64.wrap (x2 + 1))).bind k)
 else
 none
 else
 k (.inr ())
theorem c_Z10_bind {R : Type} (F : List D → Int → Int → Option ((Int) ⊕ (Unit))) (x0 : List D) (x1 : Int) (x2 : Int) (k : (Int) ⊕ (Unit) → Option R) : c_Z10 F x0 x1 x2 k = (c_Z10 F x0 x1 x2 some).bind k := by
 unfold c_Z10
 repeat' first|exact bnd_tail|exact bnd_none|exact bnd_leaf|apply bnd_ite|apply bnd_cond|apply bnd_sum|(apply bnd_bind;intro _)|intro _
def n_Z10 : Nat → List D → Int → Int → Option ((Int) ⊕ (Unit))
 | 0, _, _, _ => none
 | n + 1, x0, x1, x2 => c_Z10 (n_Z10 n) x0 x1 x2 some
noncomputable def Z10 (x0 : List D) (x1 : Int) (x2 : Int) : Option ((Int) ⊕ (Unit)) := ev (fun n => n_Z10 n x0 x1 x2)
def m_Z10 (F : List D → Int → Int → Option ((Int) ⊕ (Unit))) : Lent := ⟨2, ⟨(.rd (.int .i64) :: .fn 93 [] :: uu 5 (.int .i64 :: .int .i64 :: uu 10 ([]))), []⟩, [(.ret, ⟨(uu 4 (.int .i64 :: uu 14 ([]))), []⟩), (.exit 0, ⟨(uu 19 ([])), []⟩)], fun _ ds k => dL (fun x0 ds => dI (fun x1 ds => dI (fun x2 ds => dE ((F x0 x1 x2).bind (Sum.elim (fun y => k 0 [.I y]) (fun y => k 1 []))) ds) ds) ds) ds⟩
theorem q_Z10 (F : List D → Int → Int → Option ((Int) ⊕ (Unit))) (x0 : List D) (x1 : Int) (x2 : Int) : runLoop (ocOf [e_Z9]) (olOf [m_Z10 F]) A 152 (codeAt (bodyOf Try.f152) 2) ((m_Z10 F).sh.mk' [.L x0, .I x1, .I x2]) (fun e σ' => some (e, σ')) = c_Z10 F x0 x1 x2 (Sum.elim (fun y => some (.ret, SSt.mk' ⟨(uu 4 (.int .i64 :: uu 14 ([]))), []⟩ [.I y])) (fun y => some (.exit 0, SSt.mk' ⟨(uu 19 ([])), []⟩ []))) := by kernel_rfl
theorem m_Z10_ok : ∀ n, (m_Z10 (n_Z10 n)).ok Try.prog (codeAt (bodyOf Try.f152) 2) := by
 intro n
 induction n with
 | zero =>
  intro R ds k r h
  unfold m_Z10 at h
  obtain ⟨x0, d0, rfl, h0⟩ := dL_some h
  obtain ⟨x1, d1, rfl, h1⟩ := dI_some h0
  obtain ⟨x2, d2, rfl, h2⟩ := dI_some h1
  obtain ⟨rfl, hE⟩ := dE_some h2
  obtain ⟨y, hy, hk⟩ := bnd_some hE
  cases hy
 | succ n ih =>
  intro R ds k r h
  unfold m_Z10 at h
  obtain ⟨x0, d0, rfl, h0⟩ := dL_some h
  obtain ⟨x1, d1, rfl, h1⟩ := dI_some h0
  obtain ⟨x2, d2, rfl, h2⟩ := dI_some h1
  obtain ⟨rfl, hE⟩ := dE_some h2
  obtain ⟨y, hy, hk⟩ := bnd_some hE
  have hq := q_Z10 (n_Z10 n) x0 x1 x2
  rw [c_Z10_bind] at hq
  rw [show c_Z10 (n_Z10 n) x0 x1 x2 some = some y from hy] at hq
  cases y with
  | inl y =>
   refine ⟨0, _, _, _, hk, rfl, loop_ok px (fx := ⟨Try.func152, by kernel_rfl, by kernel_rfl⟩) (entsOK_cons e_Z9_ok entsOK_nil) (lentsOK_cons ih lentsOK_nil) (by kernel_rfl) ?_⟩
   exact hq
  | inr y =>
   refine ⟨1, _, _, _, hk, rfl, loop_ok px (fx := ⟨Try.func152, by kernel_rfl, by kernel_rfl⟩) (entsOK_cons e_Z9_ok entsOK_nil) (lentsOK_cons ih lentsOK_nil) (by kernel_rfl) ?_⟩
   exact hq
noncomputable def e_Z10 : Lent := m_Z10 (Z10)
theorem e_Z10_ok : (e_Z10).ok Try.prog (codeAt (bodyOf Try.f152) 2) := by
 intro R ds k r h
 unfold e_Z10 m_Z10 at h
 obtain ⟨x0, d0, rfl, h0⟩ := dL_some h
 obtain ⟨x1, d1, rfl, h1⟩ := dI_some h0
 obtain ⟨x2, d2, rfl, h2⟩ := dI_some h1
 obtain ⟨rfl, hE⟩ := dE_some h2
 obtain ⟨y, hy, hk⟩ := bnd_some hE
 obtain ⟨n, hn⟩ := ev_some hy
 exact m_Z10_ok n R _ k r (show (n_Z10 n x0 x1 x2).bind _ = _ by rw [hn]; exact hk)

/-!-/
def c_Z11 {R : Type} (x0 : List D) (k : Int → Option R) : Option R :=
 (Z10 x0 (↑x0.length : Int) (0 : Int)).bind (Sum.elim (fun y0 =>
 k y0) (fun y1 =>
 k (-1 : Int)))
theorem c_Z11_bind {R : Type} (x0 : List D) (k : Int → Option R) : c_Z11 x0 k = (c_Z11 x0 some).bind k := by
 unfold c_Z11
 repeat' first|exact bnd_tail|exact bnd_none|exact bnd_leaf|apply bnd_ite|apply bnd_cond|apply bnd_sum|(apply bnd_bind;intro _)|intro _
def Z11 (x0 : List D) : Option (Int) := c_Z11 x0 some
def e_Z11 : Ent := ⟨152, [.rd (.int .i64), .fn 93 []], .int .i64, [.undef, .undef], fun _ ds k => dL (fun x0 ds => dE ((Z11 x0).bind (fun y => k [.I y])) ds) ds⟩
theorem q_Z11 (x0 : List D) : runFn (ocOf []) (olOf [e_Z10]) A 152 Try.f152 (Sh.mks e_Z11.sh [.L x0]).1 (fun v os => some (v, os)) = c_Z11 x0 (fun y => some ((e_Z11.res.mk [.I y]).1, (Sh.mks e_Z11.outs (e_Z11.res.mk [.I y]).2).1)) := by kernel_rfl
theorem e_Z11_ok : e_Z11.ok Try.prog A := by
 intro R ds k r h
 unfold e_Z11 at h
 obtain ⟨x0, d0, rfl, h0⟩ := dL_some h
 obtain ⟨rfl, hE⟩ := dE_some h0
 obtain ⟨y, hy, hk⟩ := bnd_some hE
 refine ⟨_, hk, fn_ok px (fx := ⟨Try.func152, by kernel_rfl, by kernel_rfl⟩) entsOK_nil (lentsOK_cons e_Z10_ok lentsOK_nil) ?_⟩
 have hq := q_Z11 x0
 rw [c_Z11_bind] at hq
 rw [show c_Z11 x0 some = some y from hy] at hq
 exact hq

/-!-/
def c_Z12 {R : Type} (x0 : List D) (k : Bool → Option R) : Option R :=
 (Z11 x0).bind (fun y0 =>
 k (decide ((0 : Int) ≤ y0)))
theorem c_Z12_bind {R : Type} (x0 : List D) (k : Bool → Option R) : c_Z12 x0 k = (c_Z12 x0 some).bind k := by
 unfold c_Z12
 repeat' first|exact bnd_tail|exact bnd_none|exact bnd_leaf|apply bnd_ite|apply bnd_cond|apply bnd_sum|(apply bnd_bind;intro _)|intro _
def Z12 (x0 : List D) : Option (Bool) := c_Z12 x0 some
def e_Z12 : Ent := ⟨92, [.rd (.int .i64), .fn 93 []], .bool, [.undef, .undef], fun _ ds k => dL (fun x0 ds => dE ((Z12 x0).bind (fun y => k [.B y])) ds) ds⟩
theorem q_Z12 (x0 : List D) : runFn (ocOf [e_Z11]) (olOf []) A 92 Try.f92 (Sh.mks e_Z12.sh [.L x0]).1 (fun v os => some (v, os)) = c_Z12 x0 (fun y => some ((e_Z12.res.mk [.B y]).1, (Sh.mks e_Z12.outs (e_Z12.res.mk [.B y]).2).1)) := by kernel_rfl
theorem e_Z12_ok : e_Z12.ok Try.prog A := by
 intro R ds k r h
 unfold e_Z12 at h
 obtain ⟨x0, d0, rfl, h0⟩ := dL_some h
 obtain ⟨rfl, hE⟩ := dE_some h0
 obtain ⟨y, hy, hk⟩ := bnd_some hE
 refine ⟨_, hk, fn_ok px (fx := ⟨Try.func92, by kernel_rfl, by kernel_rfl⟩) (entsOK_cons e_Z11_ok entsOK_nil) lentsOK_nil ?_⟩
 have hq := q_Z12 x0
 rw [c_Z12_bind] at hq
 rw [show c_Z12 x0 some = some y from hy] at hq
 exact hq

/-!-/
def c_Z13 {R : Type} (F : Int → Int → Option (Int)) (x0 : Int) (x1 : Int) (k : Int → Option R) : Option R :=
 bif !decide (x1 = (0 : Int)) then
 if x1 ≠ (0 : Int) then
 (F x1 (x0.tmod x1)).bind k
 else
 none
 else
 k x0
theorem c_Z13_bind {R : Type} (F : Int → Int → Option (Int)) (x0 : Int) (x1 : Int) (k : Int → Option R) : c_Z13 F x0 x1 k = (c_Z13 F x0 x1 some).bind k := by
 unfold c_Z13
 repeat' first|exact bnd_tail|exact bnd_none|exact bnd_leaf|apply bnd_ite|apply bnd_cond|apply bnd_sum|(apply bnd_bind;intro _)|intro _
def n_Z13 : Nat → Int → Int → Option (Int)
 | 0, _, _ => none
 | n + 1, x0, x1 => c_Z13 (n_Z13 n) x0 x1 some
noncomputable def Z13 (x0 : Int) (x1 : Int) : Option (Int) := ev (fun n => n_Z13 n x0 x1)
def m_Z13 (F : Int → Int → Option (Int)) : Lent := ⟨1, ⟨(.int .i64 :: .int .i64 :: uu 10 ([])), []⟩, [(.exit 0, ⟨(.int .i64 :: uu 11 ([])), []⟩)], fun _ ds k => dI (fun x0 ds => dI (fun x1 ds => dE ((F x0 x1).bind (fun y => k 0 [.I y])) ds) ds) ds⟩
theorem q_Z13 (F : Int → Int → Option (Int)) (x0 : Int) (x1 : Int) : runLoop (ocOf []) (olOf [m_Z13 F]) A 153 (codeAt (bodyOf Try.f153) 1) ((m_Z13 F).sh.mk' [.I x0, .I x1]) (fun e σ' => some (e, σ')) = c_Z13 F x0 x1 (fun y => some (.exit 0, SSt.mk' ⟨(.int .i64 :: uu 11 ([])), []⟩ [.I y])) := by kernel_rfl
theorem m_Z13_ok : ∀ n, (m_Z13 (n_Z13 n)).ok Try.prog (codeAt (bodyOf Try.f153) 1) := by
 intro n
 induction n with
 | zero =>
  intro R ds k r h
  unfold m_Z13 at h
  obtain ⟨x0, d0, rfl, h0⟩ := dI_some h
  obtain ⟨x1, d1, rfl, h1⟩ := dI_some h0
  obtain ⟨rfl, hE⟩ := dE_some h1
  obtain ⟨y, hy, hk⟩ := bnd_some hE
  cases hy
 | succ n ih =>
  intro R ds k r h
  unfold m_Z13 at h
  obtain ⟨x0, d0, rfl, h0⟩ := dI_some h
  obtain ⟨x1, d1, rfl, h1⟩ := dI_some h0
  obtain ⟨rfl, hE⟩ := dE_some h1
  obtain ⟨y, hy, hk⟩ := bnd_some hE
  have hq := q_Z13 (n_Z13 n) x0 x1
  rw [c_Z13_bind] at hq
  rw [show c_Z13 (n_Z13 n) x0 x1 some = some y from hy] at hq
  refine ⟨0, _, _, _, hk, rfl, loop_ok px (fx := ⟨Try.func153, by kernel_rfl, by kernel_rfl⟩) entsOK_nil (lentsOK_cons ih lentsOK_nil) (by kernel_rfl) ?_⟩
  exact hq
noncomputable def e_Z13 : Lent := m_Z13 (Z13)
theorem e_Z13_ok : (e_Z13).ok Try.prog (codeAt (bodyOf Try.f153) 1) := by
 intro R ds k r h
 unfold e_Z13 m_Z13 at h
 obtain ⟨x0, d0, rfl, h0⟩ := dI_some h
 obtain ⟨x1, d1, rfl, h1⟩ := dI_some h0
 obtain ⟨rfl, hE⟩ := dE_some h1
 obtain ⟨y, hy, hk⟩ := bnd_some hE
 obtain ⟨n, hn⟩ := ev_some hy
 exact m_Z13_ok n R _ k r (show (n_Z13 n x0 x1).bind _ = _ by rw [hn]; exact hk)

/-!-/
def c_Z14 {R : Type} (x0 : Int) (x1 : Int) (k : Int → Option R) : Option R :=
 (Z13 x0 x1).bind (fun y0 =>
 k y0)
theorem c_Z14_bind {R : Type} (x0 : Int) (x1 : Int) (k : Int → Option R) : c_Z14 x0 x1 k = (c_Z14 x0 x1 some).bind k := by
 unfold c_Z14
 repeat' first|exact bnd_tail|exact bnd_none|exact bnd_leaf|apply bnd_ite|apply bnd_cond|apply bnd_sum|(apply bnd_bind;intro _)|intro _
def Z14 (x0 : Int) (x1 : Int) : Option (Int) := c_Z14 x0 x1 some
def e_Z14 : Ent := ⟨153, [.int .i64, .int .i64], .int .i64, [.undef, .undef], fun _ ds k => dI (fun x0 ds => dI (fun x1 ds => dE ((Z14 x0 x1).bind (fun y => k [.I y])) ds) ds) ds⟩
theorem q_Z14 (x0 : Int) (x1 : Int) : runFn (ocOf []) (olOf [e_Z13]) A 153 Try.f153 (Sh.mks e_Z14.sh [.I x0, .I x1]).1 (fun v os => some (v, os)) = c_Z14 x0 x1 (fun y => some ((e_Z14.res.mk [.I y]).1, (Sh.mks e_Z14.outs (e_Z14.res.mk [.I y]).2).1)) := by kernel_rfl
theorem e_Z14_ok : e_Z14.ok Try.prog A := by
 intro R ds k r h
 unfold e_Z14 at h
 obtain ⟨x0, d0, rfl, h0⟩ := dI_some h
 obtain ⟨x1, d1, rfl, h1⟩ := dI_some h0
 obtain ⟨rfl, hE⟩ := dE_some h1
 obtain ⟨y, hy, hk⟩ := bnd_some hE
 refine ⟨_, hk, fn_ok px (fx := ⟨Try.func153, by kernel_rfl, by kernel_rfl⟩) entsOK_nil (lentsOK_cons e_Z13_ok lentsOK_nil) ?_⟩
 have hq := q_Z14 x0 x1
 rw [c_Z14_bind] at hq
 rw [show c_Z14 x0 x1 some = some y from hy] at hq
 exact hq

/-!-/
def c_Z15 {R : Type} (F : Int → List D → Int → Int → Option (Int)) (x0 : Int) (x1 : List D) (x2 : Int) (x3 : Int) (k : Int → Option R) : Option R :=
 bif decide (x3 < x2) then
 if 0 ≤ x3 ∧ x3 < (↑x1.length : Int) then
 (Z14 x0 ((x1.getD x3.toNat (D.int 0)).toInt)).bind (fun y0 =>
 (F y0 x1 x2 (IntKind.i64.wrap (x3 + 1))).bind k)
 else
 none
 else
 k x0
theorem c_Z15_bind {R : Type} (F : Int → List D → Int → Int → Option (Int)) (x0 : Int) (x1 : List D) (x2 : Int) (x3 : Int) (k : Int → Option R) : c_Z15 F x0 x1 x2 x3 k = (c_Z15 F x0 x1 x2 x3 some).bind k := by
 unfold c_Z15
 repeat' first|exact bnd_tail|exact bnd_none|exact bnd_leaf|apply bnd_ite|apply bnd_cond|apply bnd_sum|(apply bnd_bind;intro _)|intro _
def n_Z15 : Nat → Int → List D → Int → Int → Option (Int)
 | 0, _, _, _, _ => none
 | n + 1, x0, x1, x2, x3 => c_Z15 (n_Z15 n) x0 x1 x2 x3 some
noncomputable def Z15 (x0 : Int) (x1 : List D) (x2 : Int) (x3 : Int) : Option (Int) := ev (fun n => n_Z15 n x0 x1 x2 x3)
def m_Z15 (F : Int → List D → Int → Int → Option (Int)) : Lent := ⟨3, ⟨(.undef :: .undef :: .undef :: .int .i64 :: .undef :: .undef :: .rd (.int .i64) :: .int .i64 :: .int .i64 :: uu 8 ([])), []⟩, [(.exit 0, ⟨(.undef :: .undef :: .undef :: .int .i64 :: uu 13 ([])), []⟩)], fun _ ds k => dI (fun x0 ds => dL (fun x1 ds => dI (fun x2 ds => dI (fun x3 ds => dE ((F x0 x1 x2 x3).bind (fun y => k 0 [.I y])) ds) ds) ds) ds) ds⟩
theorem q_Z15 (F : Int → List D → Int → Int → Option (Int)) (x0 : Int) (x1 : List D) (x2 : Int) (x3 : Int) : runLoop (ocOf [e_Z14]) (olOf [m_Z15 F]) A 98 (codeAt (bodyOf Try.f98) 3) ((m_Z15 F).sh.mk' [.I x0, .L x1, .I x2, .I x3]) (fun e σ' => some (e, σ')) = c_Z15 F x0 x1 x2 x3 (fun y => some (.exit 0, SSt.mk' ⟨(.undef :: .undef :: .undef :: .int .i64 :: uu 13 ([])), []⟩ [.I y])) := by kernel_rfl
theorem m_Z15_ok : ∀ n, (m_Z15 (n_Z15 n)).ok Try.prog (codeAt (bodyOf Try.f98) 3) := by
 intro n
 induction n with
 | zero =>
  intro R ds k r h
  unfold m_Z15 at h
  obtain ⟨x0, d0, rfl, h0⟩ := dI_some h
  obtain ⟨x1, d1, rfl, h1⟩ := dL_some h0
  obtain ⟨x2, d2, rfl, h2⟩ := dI_some h1
  obtain ⟨x3, d3, rfl, h3⟩ := dI_some h2
  obtain ⟨rfl, hE⟩ := dE_some h3
  obtain ⟨y, hy, hk⟩ := bnd_some hE
  cases hy
 | succ n ih =>
  intro R ds k r h
  unfold m_Z15 at h
  obtain ⟨x0, d0, rfl, h0⟩ := dI_some h
  obtain ⟨x1, d1, rfl, h1⟩ := dL_some h0
  obtain ⟨x2, d2, rfl, h2⟩ := dI_some h1
  obtain ⟨x3, d3, rfl, h3⟩ := dI_some h2
  obtain ⟨rfl, hE⟩ := dE_some h3
  obtain ⟨y, hy, hk⟩ := bnd_some hE
  have hq := q_Z15 (n_Z15 n) x0 x1 x2 x3
  rw [c_Z15_bind] at hq
  rw [show c_Z15 (n_Z15 n) x0 x1 x2 x3 some = some y from hy] at hq
  refine ⟨0, _, _, _, hk, rfl, loop_ok px (fx := ⟨Try.func98, by kernel_rfl, by kernel_rfl⟩) (entsOK_cons e_Z14_ok entsOK_nil) (lentsOK_cons ih lentsOK_nil) (by kernel_rfl) ?_⟩
  exact hq
noncomputable def e_Z15 : Lent := m_Z15 (Z15)
theorem e_Z15_ok : (e_Z15).ok Try.prog (codeAt (bodyOf Try.f98) 3) := by
 intro R ds k r h
 unfold e_Z15 m_Z15 at h
 obtain ⟨x0, d0, rfl, h0⟩ := dI_some h
 obtain ⟨x1, d1, rfl, h1⟩ := dL_some h0
 obtain ⟨x2, d2, rfl, h2⟩ := dI_some h1
 obtain ⟨x3, d3, rfl, h3⟩ := dI_some h2
 obtain ⟨rfl, hE⟩ := dE_some h3
 obtain ⟨y, hy, hk⟩ := bnd_some hE
 obtain ⟨n, hn⟩ := ev_some hy
 exact m_Z15_ok n R _ k r (show (n_Z15 n x0 x1 x2 x3).bind _ = _ by rw [hn]; exact hk)

/-!-/
def c_Z16 {R : Type} (x0 : List D) (k : Int → Option R) : Option R :=
 (Z15 (0 : Int) x0 (↑x0.length : Int) (0 : Int)).bind (fun y0 =>
 k y0)
theorem c_Z16_bind {R : Type} (x0 : List D) (k : Int → Option R) : c_Z16 x0 k = (c_Z16 x0 some).bind k := by
 unfold c_Z16
 repeat' first|exact bnd_tail|exact bnd_none|exact bnd_leaf|apply bnd_ite|apply bnd_cond|apply bnd_sum|(apply bnd_bind;intro _)|intro _
def Z16 (x0 : List D) : Option (Int) := c_Z16 x0 some
def e_Z16 : Ent := ⟨98, [.rd (.int .i64)], .int .i64, [.undef], fun _ ds k => dL (fun x0 ds => dE ((Z16 x0).bind (fun y => k [.I y])) ds) ds⟩
theorem q_Z16 (x0 : List D) : runFn (ocOf []) (olOf [e_Z15]) A 98 Try.f98 (Sh.mks e_Z16.sh [.L x0]).1 (fun v os => some (v, os)) = c_Z16 x0 (fun y => some ((e_Z16.res.mk [.I y]).1, (Sh.mks e_Z16.outs (e_Z16.res.mk [.I y]).2).1)) := by kernel_rfl
theorem e_Z16_ok : e_Z16.ok Try.prog A := by
 intro R ds k r h
 unfold e_Z16 at h
 obtain ⟨x0, d0, rfl, h0⟩ := dL_some h
 obtain ⟨rfl, hE⟩ := dE_some h0
 obtain ⟨y, hy, hk⟩ := bnd_some hE
 refine ⟨_, hk, fn_ok px (fx := ⟨Try.func98, by kernel_rfl, by kernel_rfl⟩) entsOK_nil (lentsOK_cons e_Z15_ok lentsOK_nil) ?_⟩
 have hq := q_Z16 x0
 rw [c_Z16_bind] at hq
 rw [show c_Z16 x0 some = some y from hy] at hq
 exact hq

/-!-/
def c_Z17 {R : Type} (F : Int → List D → Int → Int → Int → Int → Option (Int × List D × Int × Int × Int × Int)) (x0 : Int) (x1 : List D) (x2 : Int) (x3 : Int) (x4 : Int) (x5 : Int) (k : Int × List D × Int × Int × Int × Int → Option R) : Option R :=
 if 0 ≤ x3 ∧ x3 < (↑x1.length : Int) then
 bif decide ((x1.getD x3.toNat (D.int 0)).toInt = (0 : Int)) then
 (F x0 x1 x2 (IntKind.i64.wrap (x3 + 1)) x4 x5).bind k
 else
 k (x0, x1, x2, x3, x4, x5)
 else
 none
theorem c_Z17_bind {R : Type} (F : Int → List D → Int → Int → Int → Int → Option (Int × List D × Int × Int × Int × Int)) (x0 : Int) (x1 : List D) (x2 : Int) (x3 : Int) (x4 : Int) (x5 : Int) (k : Int × List D × Int × Int × Int × Int → Option R) : c_Z17 F x0 x1 x2 x3 x4 x5 k = (c_Z17 F x0 x1 x2 x3 x4 x5 some).bind k := by
 unfold c_Z17
 repeat' first|exact bnd_tail|exact bnd_none|exact bnd_leaf|apply bnd_ite|apply bnd_cond|apply bnd_sum|(apply bnd_bind;intro _)|intro _
def n_Z17 : Nat → Int → List D → Int → Int → Int → Int → Option (Int × List D × Int × Int × Int × Int)
 | 0, _, _, _, _, _, _ => none
 | n + 1, x0, x1, x2, x3, x4, x5 => c_Z17 (n_Z17 n) x0 x1 x2 x3 x4 x5 some
noncomputable def Z17 (x0 : Int) (x1 : List D) (x2 : Int) (x3 : Int) (x4 : Int) (x5 : Int) : Option (Int × List D × Int × Int × Int × Int) := ev (fun n => n_Z17 n x0 x1 x2 x3 x4 x5)
def m_Z17 (F : Int → List D → Int → Int → Int → Int → Option (Int × List D × Int × Int × Int × Int)) : Lent := ⟨5, ⟨(.int .i64 :: .rd (.int .i64) :: .undef :: .undef :: .ptr 1000 [0] :: .undef :: .int .i64 :: .int .i64 :: .int .i64 :: uu 52 ([])), [(1000, .obox (.agg [.int .i64, .nilsl]))]⟩, [(.exit 0, ⟨(.int .i64 :: .rd (.int .i64) :: .undef :: .undef :: .ptr 1000 [0] :: .undef :: .int .i64 :: .int .i64 :: .int .i64 :: uu 52 ([])), [(1000, .obox (.agg [.int .i64, .nilsl]))]⟩)], fun _ ds k => dI (fun x0 ds => dL (fun x1 ds => dI (fun x2 ds => dI (fun x3 ds => dI (fun x4 ds => dI (fun x5 ds => dE ((F x0 x1 x2 x3 x4 x5).bind (fun y => k 0 [.I y.1, .L y.2.1, .I y.2.2.1, .I y.2.2.2.1, .I y.2.2.2.2.1, .I y.2.2.2.2.2])) ds) ds) ds) ds) ds) ds) ds⟩
theorem q_Z17 (F : Int → List D → Int → Int → Int → Int → Option (Int × List D × Int × Int × Int × Int)) (x0 : Int) (x1 : List D) (x2 : Int) (x3 : Int) (x4 : Int) (x5 : Int) : runLoop (ocOf []) (olOf [m_Z17 F]) A 94 (codeAt (bodyOf Try.f94) 5) ((m_Z17 F).sh.mk' [.I x0, .L x1, .I x2, .I x3, .I x4, .I x5]) (fun e σ' => some (e, σ')) = c_Z17 F x0 x1 x2 x3 x4 x5 (fun y => some (.exit 0, SSt.mk' ⟨(.int .i64 :: .rd (.int .i64) :: .undef :: .undef :: .ptr 1000 [0] :: .undef :: .int .i64 :: .int .i64 :: .int .i64 :: uu 52 ([])), [(1000, .obox (.agg [.int .i64, .nilsl]))]⟩ [.I y.1, .L y.2.1, .I y.2.2.1, .I y.2.2.2.1, .I y.2.2.2.2.1, .I y.2.2.2.2.2])) := by kernel_rfl
theorem m_Z17_ok : ∀ n, (m_Z17 (n_Z17 n)).ok Try.prog (codeAt (bodyOf Try.f94) 5) := by
 intro n
 induction n with
 | zero =>
  intro R ds k r h
  unfold m_Z17 at h
  obtain ⟨x0, d0, rfl, h0⟩ := dI_some h
  obtain ⟨x1, d1, rfl, h1⟩ := dL_some h0
  obtain ⟨x2, d2, rfl, h2⟩ := dI_some h1
  obtain ⟨x3, d3, rfl, h3⟩ := dI_some h2
  obtain ⟨x4, d4, rfl, h4⟩ := dI_some h3
  obtain ⟨x5, d5, rfl, h5⟩ := dI_some h4
  obtain ⟨rfl, hE⟩ := dE_some h5
  obtain ⟨y, hy, hk⟩ := bnd_some hE
  cases hy
 | succ n ih =>
  intro R ds k r h
  unfold m_Z17 at h
  obtain ⟨x0, d0, rfl, h0⟩ := dI_some h
  obtain ⟨x1, d1, rfl, h1⟩ := dL_some h0
  obtain ⟨x2, d2, rfl, h2⟩ := dI_some h1
  obtain ⟨x3, d3, rfl, h3⟩ := dI_some h2
  obtain ⟨x4, d4, rfl, h4⟩ := dI_some h3
  obtain ⟨x5, d5, rfl, h5⟩ := dI_some h4
  obtain ⟨rfl, hE⟩ := dE_some h5
  obtain ⟨y, hy, hk⟩ := bnd_some hE
  have hq := q_Z17 (n_Z17 n) x0 x1 x2 x3 x4 x5
  rw [c_Z17_bind] at hq
  rw [show c_Z17 (n_Z17 n) x0 x1 x2 x3 x4 x5 some = some y from hy] at hq
  refine ⟨0, _, _, _, hk, rfl, loop_ok px (fx := ⟨Try.func94, by kernel_rfl, by kernel_rfl⟩) entsOK_nil (lentsOK_cons ih lentsOK_nil) (by kernel_rfl) ?_⟩
  exact hq
noncomputable def e_Z17 : Lent := m_Z17 (Z17)
theorem e_Z17_ok : (e_Z17).ok Try.prog (codeAt (bodyOf Try.f94) 5) := by
 intro R ds k r h
 unfold e_Z17 m_Z17 at h
 obtain ⟨x0, d0, rfl, h0⟩ := dI_some h
 obtain ⟨x1, d1, rfl, h1⟩ := dL_some h0
 obtain ⟨x2, d2, rfl, h2⟩ := dI_some h1
 obtain ⟨x3, d3, rfl, h3⟩ := dI_some h2
 obtain ⟨x4, d4, rfl, h4⟩ := dI_some h3
 obtain ⟨x5, d5, rfl, h5⟩ := dI_some h4
 obtain ⟨rfl, hE⟩ := dE_some h5
 obtain ⟨y, hy, hk⟩ := bnd_some hE
 obtain ⟨n, hn⟩ := ev_some hy
 exact m_Z17_ok n R _ k r (show (n_Z17 n x0 x1 x2 x3 x4 x5).bind _ = _ by rw [hn]; exact hk)

/-!-/
def c_Z18 {R : Type} (F : Int → List D → Int → Int → Int → Int → Option (Int × List D × Int × Int × Int × Int)) (x0 : Int) (x1 : List D) (x2 : Int) (x3 : Int) (x4 : Int) (x5 : Int) (k : Int × List D × Int × Int × Int × Int → Option R) : Option R :=
 if (0 : Int) ≤ IntKind.i64.wrap (x4 - 1) ∧ IntKind.i64.wrap (x4 - 1) < (↑x1.length : Int) then
 bif decide ((x1.getD (IntKind.i64.wrap (x4 - 1)).toNat (D.int 0)).toInt = (0 : Int)) then
 (F x0 x1 x2 x3 (IntKind.i64.wrap (x4 - 1)) x5).bind k
 else
 k (x0, x1, x2, x3, x4, x5)
 else
 none
theorem c_Z18_bind {R : Type} (F : Int → List D → Int → Int → Int → Int → Option (Int × List D × Int × Int × Int × Int)) (x0 : Int) (x1 : List D) (x2 : Int) (x3 : Int) (x4 : Int) (x5 : Int) (k : Int × List D × Int × Int × Int × Int → Option R) : c_Z18 F x0 x1 x2 x3 x4 x5 k = (c_Z18 F x0 x1 x2 x3 x4 x5 some).bind k := by
 unfold c_Z18
 repeat' first|exact bnd_tail|exact bnd_none|exact bnd_leaf|apply bnd_ite|apply bnd_cond|apply bnd_sum|(apply bnd_bind;intro _)|intro _
def n_Z18 : Nat → Int → List D → Int → Int → Int → Int → Option (Int × List D × Int × Int × Int × Int)
 | 0, _, _, _, _, _, _ => none
 | n + 1, x0, x1, x2, x3, x4, x5 => c_Z18 (n_Z18 n) x0 x1 x2 x3 x4 x5 some
noncomputable def Z18 (x0 : Int) (x1 : List D) (x2 : Int) (x3 : Int) (x4 : Int) (x5 : Int) : Option (Int × List D × Int × Int × Int × Int) := ev (fun n => n_Z18 n x0 x1 x2 x3 x4 x5)
def m_Z18 (F : Int → List D → Int → Int → Int → Int → Option (Int × List D × Int × Int × Int × Int)) : Lent := ⟨7, ⟨(.int .i64 :: .rd (.int .i64) :: .undef :: .undef :: .ptr 1000 [0] :: .undef :: .int .i64 :: .int .i64 :: .int .i64 :: uu 52 ([])), [(1000, .obox (.agg [.int .i64, .nilsl]))]⟩, [(.exit 2, ⟨(.int .i64 :: .rd (.int .i64) :: .undef :: .undef :: .ptr 1000 [0] :: .undef :: .int .i64 :: .int .i64 :: .int .i64 :: uu 52 ([])), [(1000, .obox (.agg [.int .i64, .nilsl]))]⟩)], fun _ ds k => dI (fun x0 ds => dL (fun x1 ds => dI (fun x2 ds => dI (fun x3 ds => dI (fun x4 ds => dI (fun x5 ds => dE ((F x0 x1 x2 x3 x4 x5).bind (fun y => k 0 [.I y.1, .L y.2.1, .I y.2.2.1, .I y.2.2.2.1, .I y.2.2.2.2.1, .I y.2.2.2.2.2])) ds) ds) ds) ds) ds) ds) ds⟩
theorem q_Z18 (F : Int → List D → Int → Int → Int → Int → Option (Int × List D × Int × Int × Int × Int)) (x0 : Int) (x1 : List D) (x2 : Int) (x3 : Int) (x4 : Int) (x5 : Int) : runLoop (ocOf []) (olOf [m_Z18 F]) A 94 (codeAt (bodyOf Try.f94) 7) ((m_Z18 F).sh.mk' [.I x0, .L x1, .I x2, .I x3, .I x4, .I x5]) (fun e σ' => some (e, σ')) = c_Z18 F x0 x1 x2 x3 x4 x5 (fun y => some (.exit 2, SSt.mk' ⟨(.int .i64 :: .rd (.int .i64) :: .undef :: .undef :: .ptr 1000 [0] :: .undef :: .int .i64 :: .int .i64 :: .int .i64 :: uu 52 ([])), [(1000, .obox (.agg [.int .i64, .nilsl]))]⟩ [.I y.1, .L y.2.1, .I y.2.2.1, .I y.2.2.2.1, .I y.2.2.2.2.1, .I y.2.2.2.2.2])) := by kernel_rfl
theorem m_Z18_ok : ∀ n, (m_Z18 (n_Z18 n)).ok Try.prog (codeAt (bodyOf Try.f94) 7) := by
 intro n
 induction n with
 | zero =>
  intro R ds k r h
  unfold m_Z18 at h
  obtain ⟨x0, d0, rfl, h0⟩ := dI_some h
  obtain ⟨x1, d1, rfl, h1⟩ := dL_some h0
  obtain ⟨x2, d2, rfl, h2⟩ := dI_some h1
  obtain ⟨x3, d3, rfl, h3⟩ := dI_some h2
  obtain ⟨x4, d4, rfl, h4⟩ := dI_some h3
  obtain ⟨x5, d5, rfl, h5⟩ := dI_some h4
  obtain ⟨rfl, hE⟩ := dE_some h5
  obtain ⟨y, hy, hk⟩ := bnd_some hE
  cases hy
 | succ n ih =>
  intro R ds k r h
  unfold m_Z18 at h
  obtain ⟨x0, d0, rfl, h0⟩ := dI_some h
  obtain ⟨x1, d1, rfl, h1⟩ := dL_some h0
  obtain ⟨x2, d2, rfl, h2⟩ := dI_some h1
  obtain ⟨x3, d3, rfl, h3⟩ := dI_some h2
  obtain ⟨x4, d4, rfl, h4⟩ := dI_some h3
  obtain ⟨x5, d5, rfl, h5⟩ := dI_some h4
  obtain ⟨rfl, hE⟩ := dE_some h5
  obtain ⟨y, hy, hk⟩ := bnd_some hE
  have hq := q_Z18 (n_Z18 n) x0 x1 x2 x3 x4 x5
  rw [c_Z18_bind] at hq
  rw [show c_Z18 (n_Z18 n) x0 x1 x2 x3 x4 x5 some = some y from hy] at hq
  refine ⟨0, _, _, _, hk, rfl, loop_ok px (fx := ⟨Try.func94, by kernel_rfl, by kernel_rfl⟩) entsOK_nil (lentsOK_cons ih lentsOK_nil) (by kernel_rfl) ?_⟩
  exact hq
noncomputable def e_Z18 : Lent := m_Z18 (Z18)
theorem e_Z18_ok : (e_Z18).ok Try.prog (codeAt (bodyOf Try.f94) 7) := by
 intro R ds k r h
 unfold e_Z18 m_Z18 at h
 obtain ⟨x0, d0, rfl, h0⟩ := dI_some h
 obtain ⟨x1, d1, rfl, h1⟩ := dL_some h0
 obtain ⟨x2, d2, rfl, h2⟩ := dI_some h1
 obtain ⟨x3, d3, rfl, h3⟩ := dI_some h2
 obtain ⟨x4, d4, rfl, h4⟩ := dI_some h3
 obtain ⟨x5, d5, rfl, h5⟩ := dI_some h4
 obtain ⟨rfl, hE⟩ := dE_some h5
 obtain ⟨y, hy, hk⟩ := bnd_some hE
 obtain ⟨n, hn⟩ := ev_some hy
 exact m_Z18_ok n R _ k r (show (n_Z18 n x0 x1 x2 x3 x4 x5).bind _ = _ by rw [hn]; exact hk)

/-!-/
def c_Z19 {R : Type} (F : Int → List D → Int → Int → Int → Int → List D → Option (Int × Int × List D)) (x0 : Int) (x1 : List D) (x2 : Int) (x3 : Int) (x4 : Int) (x5 : Int) (x6 : List D) (k : Int × Int × List D → Option R) : Option R :=
 bif decide (x3 < x2) then
 if 0 ≤ x3 ∧ x3 < (↑x1.length : Int) then
 if x0 ≠ (0 : Int) then
 if x6.length + [D.int (IntKind.i64.wrap ((x1.getD x3.toNat (D.int 0)).toInt.tdiv x0))].length ≤ (4294967296 : Nat) then
 (F x0 x1 x2 (IntKind.i64.wrap (x3 + 1)) x4 x5 (x6 ++ [D.int (IntKind.i64.wrap ((x1.getD x3.toNat (D.int 0)).toInt.tdiv x0))])).bind k
 else
 none
 else
 none
 else
 none
 else
 k (x4, x5, x6)
theorem c_Z19_bind {R : Type} (F : Int → List D → Int → Int → Int → Int → List D → Option (Int × Int × List D)) (x0 : Int) (x1 : List D) (x2 : Int) (x3 : Int) (x4 : Int) (x5 : Int) (x6 : List D) (k : Int × Int × List D → Option R) : c_Z19 F x0 x1 x2 x3 x4 x5 x6 k = (c_Z19 F x0 x1 x2 x3 x4 x5 x6 some).bind k := by
 unfold c_Z19
 repeat' first|exact bnd_tail|exact bnd_none|exact bnd_leaf|apply bnd_ite|apply bnd_cond|apply bnd_sum|(apply bnd_bind;intro _)|intro _
def n_Z19 : Nat → Int → List D → Int → Int → Int → Int → List D → Option (Int × Int × List D)
 | 0, _, _, _, _, _, _, _ => none
 | n + 1, x0, x1, x2, x3, x4, x5, x6 => c_Z19 (n_Z19 n) x0 x1 x2 x3 x4 x5 x6 some
noncomputable def Z19 (x0 : Int) (x1 : List D) (x2 : Int) (x3 : Int) (x4 : Int) (x5 : Int) (x6 : List D) : Option (Int × Int × List D) := ev (fun n => n_Z19 n x0 x1 x2 x3 x4 x5 x6)
def m_Z19 (F : Int → List D → Int → Int → Int → Int → List D → Option (Int × Int × List D)) : Lent := ⟨11, ⟨(uu 4 (.ptr 1000 [0] :: .undef :: .int .i64 :: .undef :: .undef :: .ptr 1001 [0] :: uu 31 (.rd (.int .i64) :: .int .i64 :: .int .i64 :: uu 17 ([])))), [(1000, .obox (.agg [.int .i64, .nilsl])), (1001, .obox (.agg [.int .i64, .full 1002 [] (.int .i64)])), (1002, .own (.int .i64))]⟩, [(.exit 4, ⟨(uu 4 (.ptr 1000 [0] :: uu 4 (.ptr 1001 [0] :: uu 51 ([])))), [(1000, .obox (.agg [.int .i64, .nilsl])), (1001, .obox (.agg [.int .i64, .full 1002 [] (.int .i64)])), (1002, .own (.int .i64))]⟩)], fun _ ds k => dI (fun x0 ds => dL (fun x1 ds => dI (fun x2 ds => dI (fun x3 ds => dI (fun x4 ds => dI (fun x5 ds => dL (fun x6 ds => dE ((F x0 x1 x2 x3 x4 x5 x6).bind (fun y => k 0 [.I y.1, .I y.2.1, .L y.2.2])) ds) ds) ds) ds) ds) ds) ds) ds⟩
theorem q_Z19 (F : Int → List D → Int → Int → Int → Int → List D → Option (Int × Int × List D)) (x0 : Int) (x1 : List D) (x2 : Int) (x3 : Int) (x4 : Int) (x5 : Int) (x6 : List D) : runLoop (ocOf []) (olOf [m_Z19 F]) A 94 (codeAt (bodyOf Try.f94) 11) ((m_Z19 F).sh.mk' [.I x0, .L x1, .I x2, .I x3, .I x4, .I x5, .L x6]) (fun e σ' => some (e, σ')) = c_Z19 F x0 x1 x2 x3 x4 x5 x6 (fun y => some (.exit 4, SSt.mk' ⟨(uu 4 (.ptr 1000 [0] :: uu 4 (.ptr 1001 [0] :: uu 51 ([])))), [(1000, .obox (.agg [.int .i64, .nilsl])), (1001, .obox (.agg [.int .i64, .full 1002 [] (.int .i64)])), (1002, .own (.int .i64))]⟩ [.I y.1, .I y.2.1, .L y.2.2])) := by kernel_rfl
theorem m_Z19_ok : ∀ n, (m_Z19 (n_Z19 n)).ok Try.prog (codeAt (bodyOf Try.f94) 11) := by
 intro n
 induction n with
 | zero =>
  intro R ds k r h
  unfold m_Z19 at h
  obtain ⟨x0, d0, rfl, h0⟩ := dI_some h
  obtain ⟨x1, d1, rfl, h1⟩ := dL_some h0
  obtain ⟨x2, d2, rfl, h2⟩ := dI_some h1
  obtain ⟨x3, d3, rfl, h3⟩ := dI_some h2
  obtain ⟨x4, d4, rfl, h4⟩ := dI_some h3
  obtain ⟨x5, d5, rfl, h5⟩ := dI_some h4
  obtain ⟨x6, d6, rfl, h6⟩ := dL_some h5
  obtain ⟨rfl, hE⟩ := dE_some h6
  obtain ⟨y, hy, hk⟩ := bnd_some hE
  cases hy
 | succ n ih =>
  intro R ds k r h
  unfold m_Z19 at h
  obtain ⟨x0, d0, rfl, h0⟩ := dI_some h
  obtain ⟨x1, d1, rfl, h1⟩ := dL_some h0
  obtain ⟨x2, d2, rfl, h2⟩ := dI_some h1
  obtain ⟨x3, d3, rfl, h3⟩ := dI_some h2
  obtain ⟨x4, d4, rfl, h4⟩ := dI_some h3
  obtain ⟨x5, d5, rfl, h5⟩ := dI_some h4
  obtain ⟨x6, d6, rfl, h6⟩ := dL_some h5
  obtain ⟨rfl, hE⟩ := dE_some h6
  obtain ⟨y, hy, hk⟩ := bnd_some hE
  have hq := q_Z19 (n_Z19 n) x0 x1 x2 x3 x4 x5 x6
  rw [c_Z19_bind] at hq
  rw [show c_Z19 (n_Z19 n) x0 x1 x2 x3 x4 x5 x6 some = some y from hy] at hq
  refine ⟨0, _, _, _, hk, rfl, loop_ok px (fx := ⟨Try.func94, by kernel_rfl, by kernel_rfl⟩) entsOK_nil (lentsOK_cons ih lentsOK_nil) (by kernel_rfl) ?_⟩
  exact hq
noncomputable def e_Z19 : Lent := m_Z19 (Z19)
theorem e_Z19_ok : (e_Z19).ok Try.prog (codeAt (bodyOf Try.f94) 11) := by
 intro R ds k r h
 unfold e_Z19 m_Z19 at h
 obtain ⟨x0, d0, rfl, h0⟩ := dI_some h
 obtain ⟨x1, d1, rfl, h1⟩ := dL_some h0
 obtain ⟨x2, d2, rfl, h2⟩ := dI_some h1
 obtain ⟨x3, d3, rfl, h3⟩ := dI_some h2
 obtain ⟨x4, d4, rfl, h4⟩ := dI_some h3
 obtain ⟨x5, d5, rfl, h5⟩ := dI_some h4
 obtain ⟨x6, d6, rfl, h6⟩ := dL_some h5
 obtain ⟨rfl, hE⟩ := dE_some h6
 obtain ⟨y, hy, hk⟩ := bnd_some hE
 obtain ⟨n, hn⟩ := ev_some hy
 exact m_Z19_ok n R _ k r (show (n_Z19 n x0 x1 x2 x3 x4 x5 x6).bind _ = _ by rw [hn]; exact hk)

/-!-/
def c_Z20 {R : Type} (F : Int → List D → Int → Int → Int → Int → Option ((Int × Int × List D) ⊕ (Int × Int))) (x0 : Int) (x1 : List D) (x2 : Int) (x3 : Int) (x4 : Int) (x5 : Int) (k : (Int × Int × List D) ⊕ (Int × Int) → Option R) : Option R :=
 bif decide (x3 < x2) then
 if 0 ≤ x3 ∧ x3 < (↑x1.length : Int) then
 if x0 ≠ (0 : Int) then
 if (0 : Nat) + [D.int (IntKind.i64.wrap ((x1.getD x3.toNat (D.int 0)).toInt.tdiv x0))].length ≤ (4294967296 : Nat) then
 (Z19 x0 x1 x2 (IntKind.i64.wrap (x3 + 1)) x4 x5 ([D.int (IntKind.i64.wrap ((x1.getD x3.toNat (D.int 0)).toInt.tdiv x0))])).bind (fun y0 =>
 k (.inl (y0.fst, y0.snd.fst, y0.snd.snd)))
 else
 none
 else
 none
 else
 none
 else
 k (.inr (x4, x5))
theorem c_Z20_bind {R : Type} (F : Int → List D → Int → Int → Int → Int → Option ((Int × Int × List D) ⊕ (Int × Int))) (x0 : Int) (x1 : List D) (x2 : Int) (x3 : Int) (x4 : Int) (x5 : Int) (k : (Int × Int × List D) ⊕ (Int × Int) → Option R) : c_Z20 F x0 x1 x2 x3 x4 x5 k = (c_Z20 F x0 x1 x2 x3 x4 x5 some).bind k := by
 unfold c_Z20
 repeat' first|exact bnd_tail|exact bnd_none|exact bnd_leaf|apply bnd_ite|apply bnd_cond|apply bnd_sum|(apply bnd_bind;intro _)|intro _
def n_Z20 : Nat → Int → List D → Int → Int → Int → Int → Option ((Int × Int × List D) ⊕ (Int × Int))
 | 0, _, _, _, _, _, _ => none
 | n + 1, x0, x1, x2, x3, x4, x5 => c_Z20 (n_Z20 n) x0 x1 x2 x3 x4 x5 some
noncomputable def Z20 (x0 : Int) (x1 : List D) (x2 : Int) (x3 : Int) (x4 : Int) (x5 : Int) : Option ((Int × Int × List D) ⊕ (Int × Int)) := ev (fun n => n_Z20 n x0 x1 x2 x3 x4 x5)
def m_Z20 (F : Int → List D → Int → Int → Int → Int → Option ((Int × Int × List D) ⊕ (Int × Int))) : Lent := ⟨11, ⟨(uu 4 (.ptr 1000 [0] :: .undef :: .int .i64 :: .undef :: .undef :: .ptr 1001 [0] :: uu 31 (.rd (.int .i64) :: .int .i64 :: .int .i64 :: uu 17 ([])))), [(1000, .obox (.agg [.int .i64, .nilsl])), (1001, .obox (.agg [.int .i64, .nilsl]))]⟩, [(.exit 4, ⟨(uu 4 (.ptr 1000 [0] :: uu 4 (.ptr 1001 [0] :: uu 51 ([])))), [(1000, .obox (.agg [.int .i64, .nilsl])), (1001, .obox (.agg [.int .i64, .full 1002 [] (.int .i64)])), (1002, .own (.int .i64))]⟩), (.exit 4, ⟨(uu 4 (.ptr 1000 [0] :: uu 4 (.ptr 1001 [0] :: uu 51 ([])))), [(1000, .obox (.agg [.int .i64, .nilsl])), (1001, .obox (.agg [.int .i64, .nilsl]))]⟩)], fun _ ds k => dI (fun x0 ds => dL (fun x1 ds => dI (fun x2 ds => dI (fun x3 ds => dI (fun x4 ds => dI (fun x5 ds => dE ((F x0 x1 x2 x3 x4 x5).bind (Sum.elim (fun y => k 0 [.I y.1, .I y.2.1, .L y.2.2]) (fun y => k 1 [.I y.1, .I y.2]))) ds) ds) ds) ds) ds) ds) ds⟩
theorem q_Z20 (F : Int → List D → Int → Int → Int → Int → Option ((Int × Int × List D) ⊕ (Int × Int))) (x0 : Int) (x1 : List D) (x2 : Int) (x3 : Int) (x4 : Int) (x5 : Int) : runLoop (ocOf []) (olOf [m_Z20 F, e_Z19]) A 94 (codeAt (bodyOf Try.f94) 11) ((m_Z20 F).sh.mk' [.I x0, .L x1, .I x2, .I x3, .I x4, .I x5]) (fun e σ' => some (e, σ')) = c_Z20 F x0 x1 x2 x3 x4 x5 (Sum.elim (fun y => some (.exit 4, SSt.mk' ⟨(uu 4 (.ptr 1000 [0] :: uu 4 (.ptr 1001 [0] :: uu 51 ([])))), [(1000, .obox (.agg [.int .i64, .nilsl])), (1001, .obox (.agg [.int .i64, .full 1002 [] (.int .i64)])), (1002, .own (.int .i64))]⟩ [.I y.1, .I y.2.1, .L y.2.2])) (fun y => some (.exit 4, SSt.mk' ⟨(uu 4 (.ptr 1000 [0] :: uu 4 (.ptr 1001 [0] :: uu 51 ([])))), [(1000, .obox (.agg [.int .i64, .nilsl])), (1001, .obox (.agg [.int .i64, .nilsl]))]⟩ [.I y.1, .I y.2]))) := by kernel_rfl
theorem m_Z20_ok : ∀ n, (m_Z20 (n_Z20 n)).ok Try.prog (codeAt (bodyOf Try.f94) 11) := by
 intro n
 induction n with
 | zero =>
  intro R ds k r h
  unfold m_Z20 at h
  obtain ⟨x0, d0, rfl, h0⟩ := dI_some h
  obtain ⟨x1, d1, rfl, h1⟩ := dL_some h0
  obtain ⟨x2, d2, rfl, h2⟩ := dI_some h1
  obtain ⟨x3, d3, rfl, h3⟩ := dI_some h2
  obtain ⟨x4, d4, rfl, h4⟩ := dI_some h3
  obtain ⟨x5, d5, rfl, h5⟩ := dI_some h4
  obtain ⟨rfl, hE⟩ := dE_some h5
  obtain ⟨y, hy, hk⟩ := bnd_some hE
  cases hy
 | succ n ih =>
  intro R ds k r h
  unfold m_Z20 at h
  obtain ⟨x0, d0, rfl, h0⟩ := dI_some h
  obtain ⟨x1, d1, rfl, h1⟩ := dL_some h0
  obtain ⟨x2, d2, rfl, h2⟩ := dI_some h1
  obtain ⟨x3, d3, rfl, h3⟩ := dI_some h2
  obtain ⟨x4, d4, rfl, h4⟩ := dI_some h3
  obtain ⟨x5, d5, rfl, h5⟩ := dI_some h4
  obtain ⟨rfl, hE⟩ := dE_some h5
  obtain ⟨y, hy, hk⟩ := bnd_some hE
  have hq := q_Z20 (n_Z20 n) x0 x1 x2 x3 x4 x5
  rw [c_Z20_bind] at hq
  rw [show c_Z20 (n_Z20 n) x0 x1 x2 x3 x4 x5 some = some y from hy] at hq
  cases y with
  | inl y =>
   refine ⟨0, _, _, _, hk, rfl, loop_ok px (fx := ⟨Try.func94, by kernel_rfl, by kernel_rfl⟩) entsOK_nil (lentsOK_cons ih (lentsOK_cons e_Z19_ok lentsOK_nil)) (by kernel_rfl) ?_⟩
   exact hq
  | inr y =>
   refine ⟨1, _, _, _, hk, rfl, loop_ok px (fx := ⟨Try.func94, by kernel_rfl, by kernel_rfl⟩) entsOK_nil (lentsOK_cons ih (lentsOK_cons e_Z19_ok lentsOK_nil)) (by kernel_rfl) ?_⟩
   exact hq
noncomputable def e_Z20 : Lent := m_Z20 (Z20)
theorem e_Z20_ok : (e_Z20).ok Try.prog (codeAt (bodyOf Try.f94) 11) := by
 intro R ds k r h
 unfold e_Z20 m_Z20 at h
 obtain ⟨x0, d0, rfl, h0⟩ := dI_some h
 obtain ⟨x1, d1, rfl, h1⟩ := dL_some h0
 obtain ⟨x2, d2, rfl, h2⟩ := dI_some h1
 obtain ⟨x3, d3, rfl, h3⟩ := dI_some h2
 obtain ⟨x4, d4, rfl, h4⟩ := dI_some h3
 obtain ⟨x5, d5, rfl, h5⟩ := dI_some h4
 obtain ⟨rfl, hE⟩ := dE_some h5
 obtain ⟨y, hy, hk⟩ := bnd_some hE
 obtain ⟨n, hn⟩ := ev_some hy
 exact m_Z20_ok n R _ k r (show (n_Z20 n x0 x1 x2 x3 x4 x5).bind _ = _ by rw [hn]; exact hk)

/-!-/
def c_Z21 {R : Type} (x0 : Int) (x1 : List D) (k : Int → Option R) : Option R :=
 k (IntKind.i64.wrap (IntKind.i64.wrap (x0 + (↑x1.length : Int)) - (1 : Int)))
theorem c_Z21_bind {R : Type} (x0 : Int) (x1 : List D) (k : Int → Option R) : c_Z21 x0 x1 k = (c_Z21 x0 x1 some).bind k := by
 unfold c_Z21
 repeat' first|exact bnd_tail|exact bnd_none|exact bnd_leaf|apply bnd_ite|apply bnd_cond|apply bnd_sum|(apply bnd_bind;intro _)|intro _
def Z21 (x0 : Int) (x1 : List D) : Option (Int) := c_Z21 x0 x1 some
def e_Z21 : Ent := ⟨96, [.agg [.int .i64, .rd (.int .i64)]], .int .i64, [.undef], fun _ ds k => dI (fun x0 ds => dL (fun x1 ds => dE ((Z21 x0 x1).bind (fun y => k [.I y])) ds) ds) ds⟩
theorem q_Z21 (x0 : Int) (x1 : List D) : runFn (ocOf []) (olOf []) A 96 Try.f96 (Sh.mks e_Z21.sh [.I x0, .L x1]).1 (fun v os => some (v, os)) = c_Z21 x0 x1 (fun y => some ((e_Z21.res.mk [.I y]).1, (Sh.mks e_Z21.outs (e_Z21.res.mk [.I y]).2).1)) := by kernel_rfl
theorem e_Z21_ok : e_Z21.ok Try.prog A := by
 intro R ds k r h
 unfold e_Z21 at h
 obtain ⟨x0, d0, rfl, h0⟩ := dI_some h
 obtain ⟨x1, d1, rfl, h1⟩ := dL_some h0
 obtain ⟨rfl, hE⟩ := dE_some h1
 obtain ⟨y, hy, hk⟩ := bnd_some hE
 refine ⟨_, hk, fn_ok px (fx := ⟨Try.func96, by kernel_rfl, by kernel_rfl⟩) entsOK_nil lentsOK_nil ?_⟩
 have hq := q_Z21 x0 x1
 rw [c_Z21_bind] at hq
 rw [show c_Z21 x0 x1 some = some y from hy] at hq
 exact hq

/-!-/
def c_Z22 {R : Type} (x0 : Int) (k : Bool → Option R) : Option R :=
 (Z7 x0 (0 : Int) (1000000 : Int)).bind (fun y0 =>
 k !y0)
theorem c_Z22_bind {R : Type} (x0 : Int) (k : Bool → Option R) : c_Z22 x0 k = (c_Z22 x0 some).bind k := by
 unfold c_Z22
 repeat' first|exact bnd_tail|exact bnd_none|exact bnd_leaf|apply bnd_ite|apply bnd_cond|apply bnd_sum|(apply bnd_bind;intro _)|intro _
def Z22 (x0 : Int) : Option (Bool) := c_Z22 x0 some
def e_Z22 : Ent := ⟨97, [.int .i64], .bool, [.undef], fun _ ds k => dI (fun x0 ds => dE ((Z22 x0).bind (fun y => k [.B y])) ds) ds⟩
theorem q_Z22 (x0 : Int) : runFn (ocOf [e_Z7]) (olOf []) A 97 Try.f97 (Sh.mks e_Z22.sh [.I x0]).1 (fun v os => some (v, os)) = c_Z22 x0 (fun y => some ((e_Z22.res.mk [.B y]).1, (Sh.mks e_Z22.outs (e_Z22.res.mk [.B y]).2).1)) := by kernel_rfl
theorem e_Z22_ok : e_Z22.ok Try.prog A := by
 intro R ds k r h
 unfold e_Z22 at h
 obtain ⟨x0, d0, rfl, h0⟩ := dI_some h
 obtain ⟨rfl, hE⟩ := dE_some h0
 obtain ⟨y, hy, hk⟩ := bnd_some hE
 refine ⟨_, hk, fn_ok px (fx := ⟨Try.func97, by kernel_rfl, by kernel_rfl⟩) (entsOK_cons e_Z7_ok entsOK_nil) lentsOK_nil ?_⟩
 have hq := q_Z22 x0
 rw [c_Z22_bind] at hq
 rw [show c_Z22 x0 some = some y from hy] at hq
 exact hq

/-!-/
def c_Z23 {R : Type} (F : List D → Int → Int → Option ((Int) ⊕ (Unit))) (x0 : List D) (x1 : Int) (x2 : Int) (k : (Int) ⊕ (Unit) → Option R) : Option R :=
 bif decide (x2 < x1) then
 if 0 ≤ x2 ∧ x2 < (↑x0.length : Int) then
 (Z22 ((x0.getD x2.toNat (D.int 0)).toInt)).bind (fun y0 =>
 bif y0 then
 k (.inl x2)
 else
 (F x0 x1 (IntKind.i64.wrap (x2 + 1))).bind k)
 else
 none
 else
 k (.inr ())
theorem c_Z23_bind {R : Type} (F : List D → Int → Int → Option ((Int) ⊕ (Unit))) (x0 : List D) (x1 : Int) (x2 : Int) (k : (Int) ⊕ (Unit) → Option R) : c_Z23 F x0 x1 x2 k = (c_Z23 F x0 x1 x2 some).bind k := by
 unfold c_Z23
 repeat' first|exact bnd_tail|exact bnd_none|exact bnd_leaf|apply bnd_ite|apply bnd_cond|apply bnd_sum|(apply bnd_bind;intro _)|intro _
def n_Z23 : Nat → List D → Int → Int → Option ((Int) ⊕ (Unit))
 | 0, _, _, _ => none
 | n + 1, x0, x1, x2 => c_Z23 (n_Z23 n) x0 x1 x2 some
noncomputable def Z23 (x0 : List D) (x1 : Int) (x2 : Int) : Option ((Int) ⊕ (Unit)) := ev (fun n => n_Z23 n x0 x1 x2)
def m_Z23 (F : List D → Int → Int → Option ((Int) ⊕ (Unit))) : Lent := ⟨2, ⟨(.rd (.int .i64) :: .fn 97 [] :: uu 5 (.int .i64 :: .int .i64 :: uu 10 ([]))), []⟩, [(.ret, ⟨(uu 4 (.int .i64 :: uu 14 ([]))), []⟩), (.exit 0, ⟨(uu 19 ([])), []⟩)], fun _ ds k => dL (fun x0 ds => dI (fun x1 ds => dI (fun x2 ds => dE ((F x0 x1 x2).bind (Sum.elim (fun y => k 0 [.I y]) (fun y => k 1 []))) ds) ds) ds) ds⟩
theorem q_Z23 (F : List D → Int → Int → Option ((Int) ⊕ (Unit))) (x0 : List D) (x1 : Int) (x2 : Int) : runLoop (ocOf [e_Z22]) (olOf [m_Z23 F]) A 152 (codeAt (bodyOf Try.f152) 2) ((m_Z23 F).sh.mk' [.L x0, .I x1, .I x2]) (fun e σ' => some (e, σ')) = c_Z23 F x0 x1 x2 (Sum.elim (fun y => some (.ret, SSt.mk' ⟨(uu 4 (.int .i64 :: uu 14 ([]))), []⟩ [.I y])) (fun y => some (.exit 0, SSt.mk' ⟨(uu 19 ([])), []⟩ []))) := by kernel_rfl
theorem m_Z23_ok : ∀ n, (m_Z23 (n_Z23 n)).ok Try.prog (codeAt (bodyOf Try.f152) 2) := by
 intro n
 induction n with
 | zero =>
  intro R ds k r h
  unfold m_Z23 at h
  obtain ⟨x0, d0, rfl, h0⟩ := dL_some h
  obtain ⟨x1, d1, rfl, h1⟩ := dI_some h0
  obtain ⟨x2, d2, rfl, h2⟩ := dI_some h1
  obtain ⟨rfl, hE⟩ := dE_some h2
  obtain ⟨y, hy, hk⟩ := bnd_some hE
  cases hy
 | succ n ih =>
  intro R ds k r h
  unfold m_Z23 at h
  obtain ⟨x0, d0, rfl, h0⟩ := dL_some h
  obtain ⟨x1, d1, rfl, h1⟩ := dI_some h0
  obtain ⟨x2, d2, rfl, h2⟩ := dI_some h1
  obtain ⟨rfl, hE⟩ := dE_some h2
  obtain ⟨y, hy, hk⟩ := bnd_some hE
  have hq := q_Z23 (n_Z23 n) x0 x1 x2
  rw [c_Z23_bind] at hq
  rw [show c_Z23 (n_Z23 n) x0 x1 x2 some = some y from hy] at hq
  cases y with
  | inl y =>
   refine ⟨0, _, _, _, hk, rfl, loop_ok px (fx := ⟨Try.func152, by kernel_rfl, by kernel_rfl⟩) (entsOK_cons e_Z22_ok entsOK_nil) (lentsOK_cons ih lentsOK_nil) (by kernel_rfl) ?_⟩
   exact hq
  | inr y =>
   refine ⟨1, _, _, _, hk, rfl, loop_ok px (fx := ⟨Try.func152, by kernel_rfl, by kernel_rfl⟩) (entsOK_cons e_Z22_ok entsOK_nil) (lentsOK_cons ih lentsOK_nil) (by kernel_rfl) ?_⟩
   exact hq
noncomputable def e_Z23 : Lent := m_Z23 (Z23)
theorem e_Z23_ok : (e_Z23).ok Try.prog (codeAt (bodyOf Try.f152) 2) := by
 intro R ds k r h
 unfold e_Z23 m_Z23 at h
 obtain ⟨x0, d0, rfl, h0⟩ := dL_some h
 obtain ⟨x1, d1, rfl, h1⟩ := dI_some h0
 obtain ⟨x2, d2, rfl, h2⟩ := dI_some h1
 obtain ⟨rfl, hE⟩ := dE_some h2
 obtain ⟨y, hy, hk⟩ := bnd_some hE
 obtain ⟨n, hn⟩ := ev_some hy
 exact m_Z23_ok n R _ k r (show (n_Z23 n x0 x1 x2).bind _ = _ by rw [hn]; exact hk)

/-!-/
def c_Z24 {R : Type} (x0 : List D) (k : Int → Option R) : Option R :=
 (Z23 x0 (↑x0.length : Int) (0 : Int)).bind (Sum.elim (fun y0 =>
 k y0) (fun y1 =>
 k (-1 : Int)))
theorem c_Z24_bind {R : Type} (x0 : List D) (k : Int → Option R) : c_Z24 x0 k = (c_Z24 x0 some).bind k := by
 unfold c_Z24
 repeat' first|exact bnd_tail|exact bnd_none|exact bnd_leaf|apply bnd_ite|apply bnd_cond|apply bnd_sum|(apply bnd_bind;intro _)|intro _
def Z24 (x0 : List D) : Option (Int) := c_Z24 x0 some
def e_Z24 : Ent := ⟨152, [.rd (.int .i64), .fn 97 []], .int .i64, [.undef, .undef], fun _ ds k => dL (fun x0 ds => dE ((Z24 x0).bind (fun y => k [.I y])) ds) ds⟩
theorem q_Z24 (x0 : List D) : runFn (ocOf []) (olOf [e_Z23]) A 152 Try.f152 (Sh.mks e_Z24.sh [.L x0]).1 (fun v os => some (v, os)) = c_Z24 x0 (fun y => some ((e_Z24.res.mk [.I y]).1, (Sh.mks e_Z24.outs (e_Z24.res.mk [.I y]).2).1)) := by kernel_rfl
theorem e_Z24_ok : e_Z24.ok Try.prog A := by
 intro R ds k r h
 unfold e_Z24 at h
 obtain ⟨x0, d0, rfl, h0⟩ := dL_some h
 obtain ⟨rfl, hE⟩ := dE_some h0
 obtain ⟨y, hy, hk⟩ := bnd_some hE
 refine ⟨_, hk, fn_ok px (fx := ⟨Try.func152, by kernel_rfl, by kernel_rfl⟩) entsOK_nil (lentsOK_cons e_Z23_ok lentsOK_nil) ?_⟩
 have hq := q_Z24 x0
 rw [c_Z24_bind] at hq
 rw [show c_Z24 x0 some = some y from hy] at hq
 exact hq

/-!-/
def c_Z25 {R : Type} (x0 : List D) (k : Bool → Option R) : Option R :=
 (Z24 x0).bind (fun y0 =>
 k (decide ((0 : Int) ≤ y0)))
theorem c_Z25_bind {R : Type} (x0 : List D) (k : Bool → Option R) : c_Z25 x0 k = (c_Z25 x0 some).bind k := by
 unfold c_Z25
 repeat' first|exact bnd_tail|exact bnd_none|exact bnd_leaf|apply bnd_ite|apply bnd_cond|apply bnd_sum|(apply bnd_bind;intro _)|intro _
def Z25 (x0 : List D) : Option (Bool) := c_Z25 x0 some
def e_Z25 : Ent := ⟨92, [.rd (.int .i64), .fn 97 []], .bool, [.undef, .undef], fun _ ds k => dL (fun x0 ds => dE ((Z25 x0).bind (fun y => k [.B y])) ds) ds⟩
theorem q_Z25 (x0 : List D) : runFn (ocOf [e_Z24]) (olOf []) A 92 Try.f92 (Sh.mks e_Z25.sh [.L x0]).1 (fun v os => some (v, os)) = c_Z25 x0 (fun y => some ((e_Z25.res.mk [.B y]).1, (Sh.mks e_Z25.outs (e_Z25.res.mk [.B y]).2).1)) := by kernel_rfl
theorem e_Z25_ok : e_Z25.ok Try.prog A := by
 intro R ds k r h
 unfold e_Z25 at h
 obtain ⟨x0, d0, rfl, h0⟩ := dL_some h
 obtain ⟨rfl, hE⟩ := dE_some h0
 obtain ⟨y, hy, hk⟩ := bnd_some hE
 refine ⟨_, hk, fn_ok px (fx := ⟨Try.func92, by kernel_rfl, by kernel_rfl⟩) (entsOK_cons e_Z24_ok entsOK_nil) lentsOK_nil ?_⟩
 have hq := q_Z25 x0
 rw [c_Z25_bind] at hq
 rw [show c_Z25 x0 some = some y from hy] at hq
 exact hq

/-!-/
def c_Z26 {R : Type} (x0 : Int) (x1 : List D) (k : Bool → Option R) : Option R :=
 bif decide ((↑x1.length : Int) < (1 : Int)) then
 k Bool.false
 else
 bif decide ((60 : Int) < (↑x1.length : Int)) then
 k Bool.false
 else
 (Z8 x0).bind (fun y0 =>
 bif !y0 then
 k Bool.false
 else
 (Z21 x0 x1).bind (fun y1 =>
 (Z8 y1).bind (fun y2 =>
 bif !y2 then
 k Bool.false
 else
 (Z25 x1).bind (fun y3 =>
 bif y3 then
 k Bool.false
 else
 if (0 : Int) ≤ (0 : Int) ∧ (0 : Int) < (↑x1.length : Int) then
 bif decide ((0 : Int) < (x1.getD (Int.toNat (0 : Int)) (D.int 0)).toInt) then
 if (0 : Int) ≤ IntKind.i64.wrap ((↑x1.length : Int) - (1 : Int)) ∧ IntKind.i64.wrap ((↑x1.length : Int) - (1 : Int)) < (↑x1.length : Int) then
 bif decide ((0 : Int) < (x1.getD (IntKind.i64.wrap ((↑x1.length : Int) - (1 : Int))).toNat (D.int 0)).toInt) then
 (Z16 x1).bind (fun y4 =>
 k (decide (y4 = (1 : Int))))
 else
 k Bool.false
 else
 none
 else
 k Bool.false
 else
 none))))
theorem c_Z26_bind {R : Type} (x0 : Int) (x1 : List D) (k : Bool → Option R) : c_Z26 x0 x1 k = (c_Z26 x0 x1 some).bind k := by
 unfold c_Z26
 repeat' first|exact bnd_tail|exact bnd_none|exact bnd_leaf|apply bnd_ite|apply bnd_cond|apply bnd_sum|(apply bnd_bind;intro _)|intro _
def Z26 (x0 : Int) (x1 : List D) : Option (Bool) := c_Z26 x0 x1 some
def e_Z26 : Ent := ⟨32, [.agg [.int .i64, .rd (.int .i64)]], .bool, [.undef], fun _ ds k => dI (fun x0 ds => dL (fun x1 ds => dE ((Z26 x0 x1).bind (fun y => k [.B y])) ds) ds) ds⟩
theorem q_Z26 (x0 : Int) (x1 : List D) : runFn (ocOf [e_Z8, e_Z21, e_Z25, e_Z16]) (olOf []) A 32 Try.f32 (Sh.mks e_Z26.sh [.I x0, .L x1]).1 (fun v os => some (v, os)) = c_Z26 x0 x1 (fun y => some ((e_Z26.res.mk [.B y]).1, (Sh.mks e_Z26.outs (e_Z26.res.mk [.B y]).2).1)) := by kernel_rfl
theorem e_Z26_ok : e_Z26.ok Try.prog A := by
 intro R ds k r h
 unfold e_Z26 at h
 obtain ⟨x0, d0, rfl, h0⟩ := dI_some h
 obtain ⟨x1, d1, rfl, h1⟩ := dL_some h0
 obtain ⟨rfl, hE⟩ := dE_some h1
 obtain ⟨y, hy, hk⟩ := bnd_some hE
 refine ⟨_, hk, fn_ok px (fx := ⟨Try.func32, by kernel_rfl, by kernel_rfl⟩) (entsOK_cons e_Z8_ok (entsOK_cons e_Z21_ok (entsOK_cons e_Z25_ok (entsOK_cons e_Z16_ok entsOK_nil)))) lentsOK_nil ?_⟩
 have hq := q_Z26 x0 x1
 rw [c_Z26_bind] at hq
 rw [show c_Z26 x0 x1 some = some y from hy] at hq
 exact hq

/-!-/
def c_Z27 {R : Type} (x0 : Int) (k : Bool → Option R) : Option R :=
 bif decide ((↑([] : List D).length : Int) < (1 : Int)) then
 k Bool.false
 else
 bif decide ((60 : Int) < (↑([] : List D).length : Int)) then
 k Bool.false
 else
 (Z8 x0).bind (fun y0 =>
 bif !y0 then
 k Bool.false
 else
 (Z21 x0 []).bind (fun y1 =>
 (Z8 y1).bind (fun y2 =>
 bif !y2 then
 k Bool.false
 else
 (Z25 []).bind (fun y3 =>
 bif y3 then
 k Bool.false
 else
 if (0 : Int) ≤ (0 : Int) ∧ (0 : Int) < (↑([] : List D).length : Int) then
 if Int.toNat (0 : Int) + (1 : Nat) ≤ ([] : List D).length then
 bif decide ((0 : Int) < ([].getD (Int.toNat (0 : Int)) (D.int 0)).toInt) then
 if (0 : Int) ≤ IntKind.i64.wrap ((↑([] : List D).length : Int) - (1 : Int)) ∧ IntKind.i64.wrap ((↑([] : List D).length : Int) - (1 : Int)) < (↑([] : List D).length : Int) then
 if (IntKind.i64.wrap ((↑([] : List D).length : Int) - (1 : Int))).toNat + 1 ≤ ([] : List D).length then
 bif decide ((0 : Int) < ([].getD (IntKind.i64.wrap ((↑([] : List D).length : Int) - (1 : Int))).toNat (D.int 0)).toInt) then
 (Z16 []).bind (fun y4 =>
 k (decide (y4 = (1 : Int))))
 else
 k Bool.false
 else
 none
 else
 none
 else
 k Bool.false
 else
 none
 else
 none))))
theorem c_Z27_bind {R : Type} (x0 : Int) (k : Bool → Option R) : c_Z27 x0 k = (c_Z27 x0 some).bind k := by
 unfold c_Z27
 repeat' first|exact bnd_tail|exact bnd_none|exact bnd_leaf|apply bnd_ite|apply bnd_cond|apply bnd_sum|(apply bnd_bind;intro _)|intro _
def Z27 (x0 : Int) : Option (Bool) := c_Z27 x0 some
def e_Z27 : Ent := ⟨32, [.agg [.int .i64, .nilsl]], .bool, [.undef], fun _ ds k => dI (fun x0 ds => dE ((Z27 x0).bind (fun y => k [.B y])) ds) ds⟩
theorem q_Z27 (x0 : Int) : runFn (ocOf [e_Z8, e_Z21, e_Z25, e_Z16]) (olOf []) A 32 Try.f32 (Sh.mks e_Z27.sh [.I x0]).1 (fun v os => some (v, os)) = c_Z27 x0 (fun y => some ((e_Z27.res.mk [.B y]).1, (Sh.mks e_Z27.outs (e_Z27.res.mk [.B y]).2).1)) := by kernel_rfl
theorem e_Z27_ok : e_Z27.ok Try.prog A := by
 intro R ds k r h
 unfold e_Z27 at h
 obtain ⟨x0, d0, rfl, h0⟩ := dI_some h
 obtain ⟨rfl, hE⟩ := dE_some h0
 obtain ⟨y, hy, hk⟩ := bnd_some hE
 refine ⟨_, hk, fn_ok px (fx := ⟨Try.func32, by kernel_rfl, by kernel_rfl⟩) (entsOK_cons e_Z8_ok (entsOK_cons e_Z21_ok (entsOK_cons e_Z25_ok (entsOK_cons e_Z16_ok entsOK_nil)))) lentsOK_nil ?_⟩
 have hq := q_Z27 x0
 rw [c_Z27_bind] at hq
 rw [show c_Z27 x0 some = some y from hy] at hq
 exact hq

/-!-/
def c_Z28 {R : Type} (x0 : Int) (x1 : List D) (k : Int × List D × Bool → Option R) : Option R :=
 (Z16 x1).bind (fun y0 =>
 bif decide (y0 = (0 : Int)) then
 k ((0 : Int), [], Bool.false)
 else
 (Z17 x0 x1 y0 (0 : Int) (↑x1.length : Int) (0 : Int)).bind (fun y1 =>
 (Z18 y1.fst y1.snd.fst y1.snd.snd.fst y1.snd.snd.snd.fst y1.snd.snd.snd.snd.fst y1.snd.snd.snd.snd.snd).bind (fun y2 =>
 if 0 ≤ y2.snd.snd.snd.fst ∧ y2.snd.snd.snd.fst ≤ y2.snd.snd.snd.snd.fst ∧ y2.snd.snd.snd.snd.fst ≤ (↑y2.snd.fst.length : Int) then
 (Z20 y2.snd.snd.fst (List.take (y2.snd.snd.snd.snd.fst.toNat - y2.snd.snd.snd.fst.toNat) (List.drop y2.snd.snd.snd.fst.toNat y2.snd.fst)) (↑(List.take (y2.snd.snd.snd.snd.fst.toNat - y2.snd.snd.snd.fst.toNat) (List.drop y2.snd.snd.snd.fst.toNat y2.snd.fst)).length : Int) (0 : Int) y2.snd.snd.snd.snd.snd (IntKind.i64.wrap (y2.fst + y2.snd.snd.snd.fst))).bind (Sum.elim (fun y3 =>
 (Z26 y3.snd.fst y3.snd.snd).bind (fun y4 =>
 bif !y4 then
 k ((0 : Int), [], Bool.false)
 else
 k (y3.snd.fst, y3.snd.snd, Bool.true))) (fun y5 =>
 (Z27 y5.snd).bind (fun y6 =>
 bif !y6 then
 k ((0 : Int), [], Bool.false)
 else
 k (y5.snd, [], Bool.true))))
 else
 none)))
theorem c_Z28_bind {R : Type} (x0 : Int) (x1 : List D) (k : Int × List D × Bool → Option R) : c_Z28 x0 x1 k = (c_Z28 x0 x1 some).bind k := by
 unfold c_Z28
 repeat' first|exact bnd_tail|exact bnd_none|exact bnd_leaf|apply bnd_ite|apply bnd_cond|apply bnd_sum|(apply bnd_bind;intro _)|intro _
def Z28 (x0 : Int) (x1 : List D) : Option (Int × List D × Bool) := c_Z28 x0 x1 some
def e_Z28 : Ent := ⟨94, [.int .i64, .rd (.int .i64)], .tup [.agg [.int .i64, .own (.int .i64)], .bool], [.undef, .undef], fun _ ds k => dI (fun x0 ds => dL (fun x1 ds => dE ((Z28 x0 x1).bind (fun y => k [.I y.1, .L y.2.1, .B y.2.2])) ds) ds) ds⟩
theorem q_Z28 (x0 : Int) (x1 : List D) : runFn (ocOf [e_Z16, e_Z26, e_Z27]) (olOf [e_Z17, e_Z18, e_Z20]) A 94 Try.f94 (Sh.mks e_Z28.sh [.I x0, .L x1]).1 (fun v os => some (v, os)) = c_Z28 x0 x1 (fun y => some ((e_Z28.res.mk [.I y.1, .L y.2.1, .B y.2.2]).1, (Sh.mks e_Z28.outs (e_Z28.res.mk [.I y.1, .L y.2.1, .B y.2.2]).2).1)) := by kernel_rfl
theorem e_Z28_ok : e_Z28.ok Try.prog A := by
 intro R ds k r h
 unfold e_Z28 at h
 obtain ⟨x0, d0, rfl, h0⟩ := dI_some h
 obtain ⟨x1, d1, rfl, h1⟩ := dL_some h0
 obtain ⟨rfl, hE⟩ := dE_some h1
 obtain ⟨y, hy, hk⟩ := bnd_some hE
 refine ⟨_, hk, fn_ok px (fx := ⟨Try.func94, by kernel_rfl, by kernel_rfl⟩) (entsOK_cons e_Z16_ok (entsOK_cons e_Z26_ok (entsOK_cons e_Z27_ok entsOK_nil))) (lentsOK_cons e_Z17_ok (lentsOK_cons e_Z18_ok (lentsOK_cons e_Z20_ok lentsOK_nil))) ?_⟩
 have hq := q_Z28 x0 x1
 rw [c_Z28_bind] at hq
 rw [show c_Z28 x0 x1 some = some y from hy] at hq
 exact hq

/-!-/
def c_Z29 {R : Type} (x0 : Int) (x1 : List D) (k : Int × List D × Bool → Option R) : Option R :=
 (Z8 x0).bind (fun y0 =>
 bif !y0 then
 k ((0 : Int), [], Bool.false)
 else
 bif decide ((200 : Int) < (↑x1.length : Int)) then
 k ((0 : Int), [], Bool.false)
 else
 (Z12 x1).bind (fun y1 =>
 bif y1 then
 k ((0 : Int), [], Bool.false)
 else
 (Z28 x0 x1).bind (fun y2 =>
 k (y2.fst, y2.snd.fst, y2.snd.snd))))
theorem c_Z29_bind {R : Type} (x0 : Int) (x1 : List D) (k : Int × List D × Bool → Option R) : c_Z29 x0 x1 k = (c_Z29 x0 x1 some).bind k := by
 unfold c_Z29
 repeat' first|exact bnd_tail|exact bnd_none|exact bnd_leaf|apply bnd_ite|apply bnd_cond|apply bnd_sum|(apply bnd_bind;intro _)|intro _
def Z29 (x0 : Int) (x1 : List D) : Option (Int × List D × Bool) := c_Z29 x0 x1 some
def e_Z29 : Ent := ⟨29, [.int .i64, .rd (.int .i64)], .tup [.agg [.int .i64, .own (.int .i64)], .bool], [.undef, .undef], fun _ ds k => dI (fun x0 ds => dL (fun x1 ds => dE ((Z29 x0 x1).bind (fun y => k [.I y.1, .L y.2.1, .B y.2.2])) ds) ds) ds⟩
theorem q_Z29 (x0 : Int) (x1 : List D) : runFn (ocOf [e_Z8, e_Z12, e_Z28]) (olOf []) A 29 Try.f29 (Sh.mks e_Z29.sh [.I x0, .L x1]).1 (fun v os => some (v, os)) = c_Z29 x0 x1 (fun y => some ((e_Z29.res.mk [.I y.1, .L y.2.1, .B y.2.2]).1, (Sh.mks e_Z29.outs (e_Z29.res.mk [.I y.1, .L y.2.1, .B y.2.2]).2).1)) := by kernel_rfl
theorem e_Z29_ok : e_Z29.ok Try.prog A := by
 intro R ds k r h
 unfold e_Z29 at h
 obtain ⟨x0, d0, rfl, h0⟩ := dI_some h
 obtain ⟨x1, d1, rfl, h1⟩ := dL_some h0
 obtain ⟨rfl, hE⟩ := dE_some h1
 obtain ⟨y, hy, hk⟩ := bnd_some hE
 refine ⟨_, hk, fn_ok px (fx := ⟨Try.func29, by kernel_rfl, by kernel_rfl⟩) (entsOK_cons e_Z8_ok (entsOK_cons e_Z12_ok (entsOK_cons e_Z28_ok entsOK_nil))) lentsOK_nil ?_⟩
 have hq := q_Z29 x0 x1
 rw [c_Z29_bind] at hq
 rw [show c_Z29 x0 x1 some = some y from hy] at hq
 exact hq

/-!-/
def c_Z30 {R : Type} (x0 : Int) (x1 : Int) (x2 : Int) (k : Bool → Option R) : Option R :=
 bif decide (x1 ≤ x0) then
 k (decide (x0 ≤ x2))
 else
 k Bool.false
theorem c_Z30_bind {R : Type} (x0 : Int) (x1 : Int) (x2 : Int) (k : Bool → Option R) : c_Z30 x0 x1 x2 k = (c_Z30 x0 x1 x2 some).bind k := by
 unfold c_Z30
 repeat' first|exact bnd_tail|exact bnd_none|exact bnd_leaf|apply bnd_ite|apply bnd_cond|apply bnd_sum|(apply bnd_bind;intro _)|intro _
def Z30 (x0 : Int) (x1 : Int) (x2 : Int) : Option (Bool) := c_Z30 x0 x1 x2 some
def e_Z30 : Ent := ⟨78, [.int .i64, .int .i64, .int .i64], .bool, [.undef, .undef, .undef], fun _ ds k => dI (fun x0 ds => dI (fun x1 ds => dI (fun x2 ds => dE ((Z30 x0 x1 x2).bind (fun y => k [.B y])) ds) ds) ds) ds⟩
theorem q_Z30 (x0 : Int) (x1 : Int) (x2 : Int) : runFn (ocOf []) (olOf []) A 78 Try.f78 (Sh.mks e_Z30.sh [.I x0, .I x1, .I x2]).1 (fun v os => some (v, os)) = c_Z30 x0 x1 x2 (fun y => some ((e_Z30.res.mk [.B y]).1, (Sh.mks e_Z30.outs (e_Z30.res.mk [.B y]).2).1)) := by kernel_rfl
theorem e_Z30_ok : e_Z30.ok Try.prog A := by
 intro R ds k r h
 unfold e_Z30 at h
 obtain ⟨x0, d0, rfl, h0⟩ := dI_some h
 obtain ⟨x1, d1, rfl, h1⟩ := dI_some h0
 obtain ⟨x2, d2, rfl, h2⟩ := dI_some h1
 obtain ⟨rfl, hE⟩ := dE_some h2
 obtain ⟨y, hy, hk⟩ := bnd_some hE
 refine ⟨_, hk, fn_ok px (fx := ⟨Try.func78, by kernel_rfl, by kernel_rfl⟩) entsOK_nil lentsOK_nil ?_⟩
 have hq := q_Z30 x0 x1 x2
 rw [c_Z30_bind] at hq
 rw [show c_Z30 x0 x1 x2 some = some y from hy] at hq
 exact hq

/-!-/
def c_Z31 {R : Type} (F : Int → List D → Int → Int → Option ((Int × List D × Bool × Int) ⊕ (Int × List D × Int))) (x0 : Int) (x1 : List D) (x2 : Int) (x3 : Int) (k : (Int × List D × Bool × Int) ⊕ (Int × List D × Int) → Option R) : Option R :=
 bif decide (x2 < (↑x1.length : Int)) then
 if 0 ≤ x2 ∧ x2 < (↑x1.length : Int) then
 (Z30 ((x1.getD x2.toNat (D.int 0)).toInt) (0 : Int) (1000000000000 : Int)).bind (fun y0 =>
 bif !y0 then
 k (.inl (x0, x1, Bool.false, (0 : Int)))
 else
 (F x0 x1 (IntKind.i64.wrap (x2 + 1)) x3).bind k)
 else
 none
 else
 k (.inr (x0, x1, x3))
theorem c_Z31_bind {R : Type} (F : Int → List D → Int → Int → Option ((Int × List D × Bool × Int) ⊕ (Int × List D × Int))) (x0 : Int) (x1 : List D) (x2 : Int) (x3 : Int) (k : (Int × List D × Bool × Int) ⊕ (Int × List D × Int) → Option R) : c_Z31 F x0 x1 x2 x3 k = (c_Z31 F x0 x1 x2 x3 some).bind k := by
 unfold c_Z31
 repeat' first|exact bnd_tail|exact bnd_none|exact bnd_leaf|apply bnd_ite|apply bnd_cond|apply bnd_sum|(apply bnd_bind;intro _)|intro _
def n_Z31 : Nat → Int → List D → Int → Int → Option ((Int × List D × Bool × Int) ⊕ (Int × List D × Int))
 | 0, _, _, _, _ => none
 | n + 1, x0, x1, x2, x3 => c_Z31 (n_Z31 n) x0 x1 x2 x3 some
noncomputable def Z31 (x0 : Int) (x1 : List D) (x2 : Int) (x3 : Int) : Option ((Int × List D × Bool × Int) ⊕ (Int × List D × Int)) := ev (fun n => n_Z31 n x0 x1 x2 x3)
def m_Z31 (F : Int → List D → Int → Int → Option ((Int × List D × Bool × Int) ⊕ (Int × List D × Int))) : Lent := ⟨4, ⟨(.int .i64 :: .rd (.int .i64) :: .undef :: .undef :: .ptr 1000 [0] :: .undef :: .int .i64 :: uu 27 ([])), [(1000, .obox (.agg [.int .i64, .nilsl]))]⟩, [(.ret, ⟨(.int .i64 :: .rd (.int .i64) :: .undef :: .undef :: .ptr 1000 [0] :: .bool :: uu 28 ([])), [(1000, .obox (.agg [.int .i64, .nilsl]))]⟩), (.exit 0, ⟨(.int .i64 :: .rd (.int .i64) :: .undef :: .undef :: .ptr 1000 [0] :: uu 29 ([])), [(1000, .obox (.agg [.int .i64, .nilsl]))]⟩)], fun _ ds k => dI (fun x0 ds => dL (fun x1 ds => dI (fun x2 ds => dI (fun x3 ds => dE ((F x0 x1 x2 x3).bind (Sum.elim (fun y => k 0 [.I y.1, .L y.2.1, .B y.2.2.1, .I y.2.2.2]) (fun y => k 1 [.I y.1, .L y.2.1, .I y.2.2]))) ds) ds) ds) ds) ds⟩
theorem q_Z31 (F : Int → List D → Int → Int → Option ((Int × List D × Bool × Int) ⊕ (Int × List D × Int))) (x0 : Int) (x1 : List D) (x2 : Int) (x3 : Int) : runLoop (ocOf [e_Z30]) (olOf [m_Z31 F]) A 30 (codeAt (bodyOf Try.f30) 4) ((m_Z31 F).sh.mk' [.I x0, .L x1, .I x2, .I x3]) (fun e σ' => some (e, σ')) = c_Z31 F x0 x1 x2 x3 (Sum.elim (fun y => some (.ret, SSt.mk' ⟨(.int .i64 :: .rd (.int .i64) :: .undef :: .undef :: .ptr 1000 [0] :: .bool :: uu 28 ([])), [(1000, .obox (.agg [.int .i64, .nilsl]))]⟩ [.I y.1, .L y.2.1, .B y.2.2.1, .I y.2.2.2])) (fun y => some (.exit 0, SSt.mk' ⟨(.int .i64 :: .rd (.int .i64) :: .undef :: .undef :: .ptr 1000 [0] :: uu 29 ([])), [(1000, .obox (.agg [.int .i64, .nilsl]))]⟩ [.I y.1, .L y.2.1, .I y.2.2]))) := by kernel_rfl
theorem m_Z31_ok : ∀ n, (m_Z31 (n_Z31 n)).ok Try.prog (codeAt (bodyOf Try.f30) 4) := by
 intro n
 induction n with
 | zero =>
  intro R ds k r h
  unfold m_Z31 at h
  obtain ⟨x0, d0, rfl, h0⟩ := dI_some h
  obtain ⟨x1, d1, rfl, h1⟩ := dL_some h0
  obtain ⟨x2, d2, rfl, h2⟩ := dI_some h1
  obtain ⟨x3, d3, rfl, h3⟩ := dI_some h2
  obtain ⟨rfl, hE⟩ := dE_some h3
  obtain ⟨y, hy, hk⟩ := bnd_some hE
  cases hy
 | succ n ih =>
  intro R ds k r h
  unfold m_Z31 at h
  obtain ⟨x0, d0, rfl, h0⟩ := dI_some h
  obtain ⟨x1, d1, rfl, h1⟩ := dL_some h0
  obtain ⟨x2, d2, rfl, h2⟩ := dI_some h1
  obtain ⟨x3, d3, rfl, h3⟩ := dI_some h2
  obtain ⟨rfl, hE⟩ := dE_some h3
  obtain ⟨y, hy, hk⟩ := bnd_some hE
  have hq := q_Z31 (n_Z31 n) x0 x1 x2 x3
  rw [c_Z31_bind] at hq
  rw [show c_Z31 (n_Z31 n) x0 x1 x2 x3 some = some y from hy] at hq
  cases y with
  | inl y =>
   refine ⟨0, _, _, _, hk, rfl, loop_ok px (fx := ⟨Try.func30, by kernel_rfl, by kernel_rfl⟩) (entsOK_cons e_Z30_ok entsOK_nil) (lentsOK_cons ih lentsOK_nil) (by kernel_rfl) ?_⟩
   exact hq
  | inr y =>
   refine ⟨1, _, _, _, hk, rfl, loop_ok px (fx := ⟨Try.func30, by kernel_rfl, by kernel_rfl⟩) (entsOK_cons e_Z30_ok entsOK_nil) (lentsOK_cons ih lentsOK_nil) (by kernel_rfl) ?_⟩
   exact hq
noncomputable def e_Z31 : Lent := m_Z31 (Z31)
theorem e_Z31_ok : (e_Z31).ok Try.prog (codeAt (bodyOf Try.f30) 4) := by
 intro R ds k r h
 unfold e_Z31 m_Z31 at h
 obtain ⟨x0, d0, rfl, h0⟩ := dI_some h
 obtain ⟨x1, d1, rfl, h1⟩ := dL_some h0
 obtain ⟨x2, d2, rfl, h2⟩ := dI_some h1
 obtain ⟨x3, d3, rfl, h3⟩ := dI_some h2
 obtain ⟨rfl, hE⟩ := dE_some h3
 obtain ⟨y, hy, hk⟩ := bnd_some hE
 obtain ⟨n, hn⟩ := ev_some hy
 exact m_Z31_ok n R _ k r (show (n_Z31 n x0 x1 x2 x3).bind _ = _ by rw [hn]; exact hk)

/-!-/
def c_Z32 {R : Type} (F : Int → List D → Int → Int → Int → Int → Option (Int × List D × Int × Int × Int × Int)) (x0 : Int) (x1 : List D) (x2 : Int) (x3 : Int) (x4 : Int) (x5 : Int) (k : Int × List D × Int × Int × Int × Int → Option R) : Option R :=
 bif decide (x2 < x3) then
 if 0 ≤ x2 ∧ x2 < (↑x1.length : Int) then
 bif decide ((x1.getD x2.toNat (D.int 0)).toInt = (0 : Int)) then
 (F x0 x1 (IntKind.i64.wrap (x2 + 1)) x3 x4 x5).bind k
 else
 k (x0, x1, x2, x3, x4, x5)
 else
 none
 else
 k (x0, x1, x2, x3, x4, x5)
theorem c_Z32_bind {R : Type} (F : Int → List D → Int → Int → Int → Int → Option (Int × List D × Int × Int × Int × Int)) (x0 : Int) (x1 : List D) (x2 : Int) (x3 : Int) (x4 : Int) (x5 : Int) (k : Int × List D × Int × Int × Int × Int → Option R) : c_Z32 F x0 x1 x2 x3 x4 x5 k = (c_Z32 F x0 x1 x2 x3 x4 x5 some).bind k := by
 unfold c_Z32
 repeat' first|exact bnd_tail|exact bnd_none|exact bnd_leaf|apply bnd_ite|apply bnd_cond|apply bnd_sum|(apply bnd_bind;intro _)|intro _
def n_Z32 : Nat → Int → List D → Int → Int → Int → Int → Option (Int × List D × Int × Int × Int × Int)
 | 0, _, _, _, _, _, _ => none
 | n + 1, x0, x1, x2, x3, x4, x5 => c_Z32 (n_Z32 n) x0 x1 x2 x3 x4 x5 some
noncomputable def Z32 (x0 : Int) (x1 : List D) (x2 : Int) (x3 : Int) (x4 : Int) (x5 : Int) : Option (Int × List D × Int × Int × Int × Int) := ev (fun n => n_Z32 n x0 x1 x2 x3 x4 x5)
def m_Z32 (F : Int → List D → Int → Int → Int → Int → Option (Int × List D × Int × Int × Int × Int)) : Lent := ⟨3, ⟨(.int .i64 :: .rd (.int .i64) :: .undef :: .undef :: .ptr 1000 [0] :: .undef :: .ptr 1001 [0] :: .int .i64 :: .int .i64 :: uu 75 ([])), [(1000, .obox (.agg [.int .i64, .nilsl])), (1001, .obox (.agg [.int .i64, .nilsl]))]⟩, [(.exit 0, ⟨(.int .i64 :: .rd (.int .i64) :: .undef :: .undef :: .ptr 1000 [0] :: .undef :: .ptr 1001 [0] :: .int .i64 :: .int .i64 :: uu 75 ([])), [(1000, .obox (.agg [.int .i64, .nilsl])), (1001, .obox (.agg [.int .i64, .nilsl]))]⟩)], fun _ ds k => dI (fun x0 ds => dL (fun x1 ds => dI (fun x2 ds => dI (fun x3 ds => dI (fun x4 ds => dI (fun x5 ds => dE ((F x0 x1 x2 x3 x4 x5).bind (fun y => k 0 [.I y.1, .L y.2.1, .I y.2.2.1, .I y.2.2.2.1, .I y.2.2.2.2.1, .I y.2.2.2.2.2])) ds) ds) ds) ds) ds) ds) ds⟩
theorem q_Z32 (F : Int → List D → Int → Int → Int → Int → Option (Int × List D × Int × Int × Int × Int)) (x0 : Int) (x1 : List D) (x2 : Int) (x3 : Int) (x4 : Int) (x5 : Int) : runLoop (ocOf []) (olOf [m_Z32 F]) A 95 (codeAt (bodyOf Try.f95) 3) ((m_Z32 F).sh.mk' [.I x0, .L x1, .I x2, .I x3, .I x4, .I x5]) (fun e σ' => some (e, σ')) = c_Z32 F x0 x1 x2 x3 x4 x5 (fun y => some (.exit 0, SSt.mk' ⟨(.int .i64 :: .rd (.int .i64) :: .undef :: .undef :: .ptr 1000 [0] :: .undef :: .ptr 1001 [0] :: .int .i64 :: .int .i64 :: uu 75 ([])), [(1000, .obox (.agg [.int .i64, .nilsl])), (1001, .obox (.agg [.int .i64, .nilsl]))]⟩ [.I y.1, .L y.2.1, .I y.2.2.1, .I y.2.2.2.1, .I y.2.2.2.2.1, .I y.2.2.2.2.2])) := by kernel_rfl
theorem m_Z32_ok : ∀ n, (m_Z32 (n_Z32 n)).ok Try.prog (codeAt (bodyOf Try.f95) 3) := by
 intro n
 induction n with
 | zero =>
  intro R ds k r h
  unfold m_Z32 at h
  obtain ⟨x0, d0, rfl, h0⟩ := dI_some h
  obtain ⟨x1, d1, rfl, h1⟩ := dL_some h0
  obtain ⟨x2, d2, rfl, h2⟩ := dI_some h1
  obtain ⟨x3, d3, rfl, h3⟩ := dI_some h2
  obtain ⟨x4, d4, rfl, h4⟩ := dI_some h3
  obtain ⟨x5, d5, rfl, h5⟩ := dI_some h4
  obtain ⟨rfl, hE⟩ := dE_some h5
  obtain ⟨y, hy, hk⟩ := bnd_some hE
  cases hy
 | succ n ih =>
  intro R ds k r h
  unfold m_Z32 at h
  obtain ⟨x0, d0, rfl, h0⟩ := dI_some h
  obtain ⟨x1, d1, rfl, h1⟩ := dL_some h0
  obtain ⟨x2, d2, rfl, h2⟩ := dI_some h1
  obtain ⟨x3, d3, rfl, h3⟩ := dI_some h2
  obtain ⟨x4, d4, rfl, h4⟩ := dI_some h3
  obtain ⟨x5, d5, rfl, h5⟩ := dI_some h4
  obtain ⟨rfl, hE⟩ := dE_some h5
  obtain ⟨y, hy, hk⟩ := bnd_some hE
  have hq := q_Z32 (n_Z32 n) x0 x1 x2 x3 x4 x5
  rw [c_Z32_bind] at hq
  rw [show c_Z32 (n_Z32 n) x0 x1 x2 x3 x4 x5 some = some y from hy] at hq
  refine ⟨0, _, _, _, hk, rfl, loop_ok px (fx := ⟨Try.func95, by kernel_rfl, by kernel_rfl⟩) entsOK_nil (lentsOK_cons ih lentsOK_nil) (by kernel_rfl) ?_⟩
  exact hq
noncomputable def e_Z32 : Lent := m_Z32 (Z32)
theorem e_Z32_ok : (e_Z32).ok Try.prog (codeAt (bodyOf Try.f95) 3) := by
 intro R ds k r h
 unfold e_Z32 m_Z32 at h
 obtain ⟨x0, d0, rfl, h0⟩ := dI_some h
 obtain ⟨x1, d1, rfl, h1⟩ := dL_some h0
 obtain ⟨x2, d2, rfl, h2⟩ := dI_some h1
 obtain ⟨x3, d3, rfl, h3⟩ := dI_some h2
 obtain ⟨x4, d4, rfl, h4⟩ := dI_some h3
 obtain ⟨x5, d5, rfl, h5⟩ := dI_some h4
 obtain ⟨rfl, hE⟩ := dE_some h5
 obtain ⟨y, hy, hk⟩ := bnd_some hE
 obtain ⟨n, hn⟩ := ev_some hy
 exact m_Z32_ok n R _ k r (show (n_Z32 n x0 x1 x2 x3 x4 x5).bind _ = _ by rw [hn]; exact hk)

/-!-/
def c_Z33 {R : Type} (F : Int → List D → Int → Int → Int → Int → Option (Int × List D × Int × Int × Int × Int)) (x0 : Int) (x1 : List D) (x2 : Int) (x3 : Int) (x4 : Int) (x5 : Int) (k : Int × List D × Int × Int × Int × Int → Option R) : Option R :=
 bif decide (x2 < x3) then
 if (0 : Int) ≤ IntKind.i64.wrap (x3 - 1) ∧ IntKind.i64.wrap (x3 - 1) < (↑x1.length : Int) then
 bif decide ((x1.getD (IntKind.i64.wrap (x3 - 1)).toNat (D.int 0)).toInt = (0 : Int)) then
 (F x0 x1 x2 (IntKind.i64.wrap (x3 - 1)) x4 x5).bind k
 else
 k (x0, x1, x2, x3, x4, x5)
 else
 none
 else
 k (x0, x1, x2, x3, x4, x5)
theorem c_Z33_bind {R : Type} (F : Int → List D → Int → Int → Int → Int → Option (Int × List D × Int × Int × Int × Int)) (x0 : Int) (x1 : List D) (x2 : Int) (x3 : Int) (x4 : Int) (x5 : Int) (k : Int × List D × Int × Int × Int × Int → Option R) : c_Z33 F x0 x1 x2 x3 x4 x5 k = (c_Z33 F x0 x1 x2 x3 x4 x5 some).bind k := by
 unfold c_Z33
 repeat' first|exact bnd_tail|exact bnd_none|exact bnd_leaf|apply bnd_ite|apply bnd_cond|apply bnd_sum|(apply bnd_bind;intro _)|intro _
def n_Z33 : Nat → Int → List D → Int → Int → Int → Int → Option (Int × List D × Int × Int × Int × Int)
 | 0, _, _, _, _, _, _ => none
 | n + 1, x0, x1, x2, x3, x4, x5 => c_Z33 (n_Z33 n) x0 x1 x2 x3 x4 x5 some
noncomputable def Z33 (x0 : Int) (x1 : List D) (x2 : Int) (x3 : Int) (x4 : Int) (x5 : Int) : Option (Int × List D × Int × Int × Int × Int) := ev (fun n => n_Z33 n x0 x1 x2 x3 x4 x5)
def m_Z33 (F : Int → List D → Int → Int → Int → Int → Option (Int × List D × Int × Int × Int × Int)) : Lent := ⟨5, ⟨(.int .i64 :: .rd (.int .i64) :: .undef :: .undef :: .ptr 1000 [0] :: .undef :: .ptr 1001 [0] :: .int .i64 :: .int .i64 :: uu 75 ([])), [(1000, .obox (.agg [.int .i64, .nilsl])), (1001, .obox (.agg [.int .i64, .nilsl]))]⟩, [(.exit 2, ⟨(.int .i64 :: .rd (.int .i64) :: .undef :: .undef :: .ptr 1000 [0] :: .undef :: .ptr 1001 [0] :: .int .i64 :: .int .i64 :: uu 75 ([])), [(1000, .obox (.agg [.int .i64, .nilsl])), (1001, .obox (.agg [.int .i64, .nilsl]))]⟩)], fun _ ds k => dI (fun x0 ds => dL (fun x1 ds => dI (fun x2 ds => dI (fun x3 ds => dI (fun x4 ds => dI (fun x5 ds => dE ((F x0 x1 x2 x3 x4 x5).bind (fun y => k 0 [.I y.1, .L y.2.1, .I y.2.2.1, .I y.2.2.2.1, .I y.2.2.2.2.1, .I y.2.2.2.2.2])) ds) ds) ds) ds) ds) ds) ds⟩
theorem q_Z33 (F : Int → List D → Int → Int → Int → Int → Option (Int × List D × Int × Int × Int × Int)) (x0 : Int) (x1 : List D) (x2 : Int) (x3 : Int) (x4 : Int) (x5 : Int) : runLoop (ocOf []) (olOf [m_Z33 F]) A 95 (codeAt (bodyOf Try.f95) 5) ((m_Z33 F).sh.mk' [.I x0, .L x1, .I x2, .I x3, .I x4, .I x5]) (fun e σ' => some (e, σ')) = c_Z33 F x0 x1 x2 x3 x4 x5 (fun y => some (.exit 2, SSt.mk' ⟨(.int .i64 :: .rd (.int .i64) :: .undef :: .undef :: .ptr 1000 [0] :: .undef :: .ptr 1001 [0] :: .int .i64 :: .int .i64 :: uu 75 ([])), [(1000, .obox (.agg [.int .i64, .nilsl])), (1001, .obox (.agg [.int .i64, .nilsl]))]⟩ [.I y.1, .L y.2.1, .I y.2.2.1, .I y.2.2.2.1, .I y.2.2.2.2.1, .I y.2.2.2.2.2])) := by kernel_rfl
theorem m_Z33_ok : ∀ n, (m_Z33 (n_Z33 n)).ok Try.prog (codeAt (bodyOf Try.f95) 5) := by
 intro n
 induction n with
 | zero =>
  intro R ds k r h
  unfold m_Z33 at h
  obtain ⟨x0, d0, rfl, h0⟩ := dI_some h
  obtain ⟨x1, d1, rfl, h1⟩ := dL_some h0
  obtain ⟨x2, d2, rfl, h2⟩ := dI_some h1
  obtain ⟨x3, d3, rfl, h3⟩ := dI_some h2
  obtain ⟨x4, d4, rfl, h4⟩ := dI_some h3
  obtain ⟨x5, d5, rfl, h5⟩ := dI_some h4
  obtain ⟨rfl, hE⟩ := dE_some h5
  obtain ⟨y, hy, hk⟩ := bnd_some hE
  cases hy
 | succ n ih =>
  intro R ds k r h
  unfold m_Z33 at h
  obtain ⟨x0, d0, rfl, h0⟩ := dI_some h
  obtain ⟨x1, d1, rfl, h1⟩ := dL_some h0
  obtain ⟨x2, d2, rfl, h2⟩ := dI_some h1
  obtain ⟨x3, d3, rfl, h3⟩ := dI_some h2
  obtain ⟨x4, d4, rfl, h4⟩ := dI_some h3
  obtain ⟨x5, d5, rfl, h5⟩ := dI_some h4
  obtain ⟨rfl, hE⟩ := dE_some h5
  obtain ⟨y, hy, hk⟩ := bnd_some hE
  have hq := q_Z33 (n_Z33 n) x0 x1 x2 x3 x4 x5
  rw [c_Z33_bind] at hq
  rw [show c_Z33 (n_Z33 n) x0 x1 x2 x3 x4 x5 some = some y from hy] at hq
  refine ⟨0, _, _, _, hk, rfl, loop_ok px (fx := ⟨Try.func95, by kernel_rfl, by kernel_rfl⟩) entsOK_nil (lentsOK_cons ih lentsOK_nil) (by kernel_rfl) ?_⟩
  exact hq
noncomputable def e_Z33 : Lent := m_Z33 (Z33)
theorem e_Z33_ok : (e_Z33).ok Try.prog (codeAt (bodyOf Try.f95) 5) := by
 intro R ds k r h
 unfold e_Z33 m_Z33 at h
 obtain ⟨x0, d0, rfl, h0⟩ := dI_some h
 obtain ⟨x1, d1, rfl, h1⟩ := dL_some h0
 obtain ⟨x2, d2, rfl, h2⟩ := dI_some h1
 obtain ⟨x3, d3, rfl, h3⟩ := dI_some h2
 obtain ⟨x4, d4, rfl, h4⟩ := dI_some h3
 obtain ⟨x5, d5, rfl, h5⟩ := dI_some h4
 obtain ⟨rfl, hE⟩ := dE_some h5
 obtain ⟨y, hy, hk⟩ := bnd_some hE
 obtain ⟨n, hn⟩ := ev_some hy
 exact m_Z33_ok n R _ k r (show (n_Z33 n x0 x1 x2 x3 x4 x5).bind _ = _ by rw [hn]; exact hk)

/-!-/
def c_Z34 {R : Type} (F : Int → Int → Option (Int)) (x0 : Int) (x1 : Int) (k : Int → Option R) : Option R :=
 bif !decide (x1 = (0 : Int)) then
 if x1 ≠ (0 : Int) then
 (F x1 (x0.tmod x1)).bind k
 else
 none
 else
 k x0
theorem c_Z34_bind {R : Type} (F : Int → Int → Option (Int)) (x0 : Int) (x1 : Int) (k : Int → Option R) : c_Z34 F x0 x1 k = (c_Z34 F x0 x1 some).bind k := by
 unfold c_Z34
 repeat' first|exact bnd_tail|exact bnd_none|exact bnd_leaf|apply bnd_ite|apply bnd_cond|apply bnd_sum|(apply bnd_bind;intro _)|intro _
def n_Z34 : Nat → Int → Int → Option (Int)
 | 0, _, _ => none
 | n + 1, x0, x1 => c_Z34 (n_Z34 n) x0 x1 some
noncomputable def Z34 (x0 : Int) (x1 : Int) : Option (Int) := ev (fun n => n_Z34 n x0 x1)
def m_Z34 (F : Int → Int → Option (Int)) : Lent := ⟨1, ⟨(.int .i64 :: .int .i64 :: uu 12 ([])), []⟩, [(.exit 0, ⟨(.int .i64 :: uu 13 ([])), []⟩)], fun _ ds k => dI (fun x0 ds => dI (fun x1 ds => dE ((F x0 x1).bind (fun y => k 0 [.I y])) ds) ds) ds⟩
theorem q_Z34 (F : Int → Int → Option (Int)) (x0 : Int) (x1 : Int) : runLoop (ocOf []) (olOf [m_Z34 F]) A 150 (codeAt (bodyOf Try.f150) 1) ((m_Z34 F).sh.mk' [.I x0, .I x1]) (fun e σ' => some (e, σ')) = c_Z34 F x0 x1 (fun y => some (.exit 0, SSt.mk' ⟨(.int .i64 :: uu 13 ([])), []⟩ [.I y])) := by kernel_rfl
theorem m_Z34_ok : ∀ n, (m_Z34 (n_Z34 n)).ok Try.prog (codeAt (bodyOf Try.f150) 1) := by
 intro n
 induction n with
 | zero =>
  intro R ds k r h
  unfold m_Z34 at h
  obtain ⟨x0, d0, rfl, h0⟩ := dI_some h
  obtain ⟨x1, d1, rfl, h1⟩ := dI_some h0
  obtain ⟨rfl, hE⟩ := dE_some h1
  obtain ⟨y, hy, hk⟩ := bnd_some hE
  cases hy
 | succ n ih =>
  intro R ds k r h
  unfold m_Z34 at h
  obtain ⟨x0, d0, rfl, h0⟩ := dI_some h
  obtain ⟨x1, d1, rfl, h1⟩ := dI_some h0
  obtain ⟨rfl, hE⟩ := dE_some h1
  obtain ⟨y, hy, hk⟩ := bnd_some hE
  have hq := q_Z34 (n_Z34 n) x0 x1
  rw [c_Z34_bind] at hq
  rw [show c_Z34 (n_Z34 n) x0 x1 some = some y from hy] at hq
  refine ⟨0, _, _, _, hk, rfl, loop_ok px (fx := ⟨Try.func150, by kernel_rfl, by kernel_rfl⟩) entsOK_nil (lentsOK_cons ih lentsOK_nil) (by kernel_rfl) ?_⟩
  exact hq
noncomputable def e_Z34 : Lent := m_Z34 (Z34)
theorem e_Z34_ok : (e_Z34).ok Try.prog (codeAt (bodyOf Try.f150) 1) := by
 intro R ds k r h
 unfold e_Z34 m_Z34 at h
 obtain ⟨x0, d0, rfl, h0⟩ := dI_some h
 obtain ⟨x1, d1, rfl, h1⟩ := dI_some h0
 obtain ⟨rfl, hE⟩ := dE_some h1
 obtain ⟨y, hy, hk⟩ := bnd_some hE
 obtain ⟨n, hn⟩ := ev_some hy
 exact m_Z34_ok n R _ k r (show (n_Z34 n x0 x1).bind _ = _ by rw [hn]; exact hk)

/-!-/
def c_Z35 {R : Type} (x0 : Int) (x1 : Int) (k : Int → Option R) : Option R :=
 (Z34 x0 x1).bind (fun y0 =>
 k y0)
theorem c_Z35_bind {R : Type} (x0 : Int) (x1 : Int) (k : Int → Option R) : c_Z35 x0 x1 k = (c_Z35 x0 x1 some).bind k := by
 unfold c_Z35
 repeat' first|exact bnd_tail|exact bnd_none|exact bnd_leaf|apply bnd_ite|apply bnd_cond|apply bnd_sum|(apply bnd_bind;intro _)|intro _
def Z35 (x0 : Int) (x1 : Int) : Option (Int) := c_Z35 x0 x1 some
def e_Z35 : Ent := ⟨150, [.int .i64, .int .i64], .int .i64, [.undef, .undef], fun _ ds k => dI (fun x0 ds => dI (fun x1 ds => dE ((Z35 x0 x1).bind (fun y => k [.I y])) ds) ds) ds⟩
theorem q_Z35 (x0 : Int) (x1 : Int) : runFn (ocOf []) (olOf [e_Z34]) A 150 Try.f150 (Sh.mks e_Z35.sh [.I x0, .I x1]).1 (fun v os => some (v, os)) = c_Z35 x0 x1 (fun y => some ((e_Z35.res.mk [.I y]).1, (Sh.mks e_Z35.outs (e_Z35.res.mk [.I y]).2).1)) := by kernel_rfl
theorem e_Z35_ok : e_Z35.ok Try.prog A := by
 intro R ds k r h
 unfold e_Z35 at h
 obtain ⟨x0, d0, rfl, h0⟩ := dI_some h
 obtain ⟨x1, d1, rfl, h1⟩ := dI_some h0
 obtain ⟨rfl, hE⟩ := dE_some h1
 obtain ⟨y, hy, hk⟩ := bnd_some hE
 refine ⟨_, hk, fn_ok px (fx := ⟨Try.func150, by kernel_rfl, by kernel_rfl⟩) entsOK_nil (lentsOK_cons e_Z34_ok lentsOK_nil) ?_⟩
 have hq := q_Z35 x0 x1
 rw [c_Z35_bind] at hq
 rw [show c_Z35 x0 x1 some = some y from hy] at hq
 exact hq

/-!-/
def c_Z36 {R : Type} (F : Int → List D → Int → Int → Int → Int → Int → Int → Option (Int × List D × Int × Int × Int × Int × Int)) (x0 : Int) (x1 : List D) (x2 : Int) (x3 : Int) (x4 : Int) (x5 : Int) (x6 : Int) (x7 : Int) (k : Int × List D × Int × Int × Int × Int × Int → Option R) : Option R :=
 bif decide (x5 < x3) then
 if 0 ≤ x5 ∧ x5 < (↑x1.length : Int) then
 (Z35 x4 ((x1.getD x5.toNat (D.int 0)).toInt)).bind (fun y0 =>
 (F x0 x1 x2 x3 y0 (IntKind.i64.wrap (x5 + 1)) x6 x7).bind k)
 else
 none
 else
 k (x0, x1, x2, x3, x4, x6, x7)
theorem c_Z36_bind {R : Type} (F : Int → List D → Int → Int → Int → Int → Int → Int → Option (Int × List D × Int × Int × Int × Int × Int)) (x0 : Int) (x1 : List D) (x2 : Int) (x3 : Int) (x4 : Int) (x5 : Int) (x6 : Int) (x7 : Int) (k : Int × List D × Int × Int × Int × Int × Int → Option R) : c_Z36 F x0 x1 x2 x3 x4 x5 x6 x7 k = (c_Z36 F x0 x1 x2 x3 x4 x5 x6 x7 some).bind k := by
 unfold c_Z36
 repeat' first|exact bnd_tail|exact bnd_none|exact bnd_leaf|apply bnd_ite|apply bnd_cond|apply bnd_sum|(apply bnd_bind;intro _)|intro _
def n_Z36 : Nat → Int → List D → Int → Int → Int → Int → Int → Int → Option (Int × List D × Int × Int × Int × Int × Int)
 | 0, _, _, _, _, _, _, _, _ => none
 | n + 1, x0, x1, x2, x3, x4, x5, x6, x7 => c_Z36 (n_Z36 n) x0 x1 x2 x3 x4 x5 x6 x7 some
noncomputable def Z36 (x0 : Int) (x1 : List D) (x2 : Int) (x3 : Int) (x4 : Int) (x5 : Int) (x6 : Int) (x7 : Int) : Option (Int × List D × Int × Int × Int × Int × Int) := ev (fun n => n_Z36 n x0 x1 x2 x3 x4 x5 x6 x7)
def m_Z36 (F : Int → List D → Int → Int → Int → Int → Int → Int → Option (Int × List D × Int × Int × Int × Int × Int)) : Lent := ⟨9, ⟨(.int .i64 :: .rd (.int .i64) :: .undef :: .undef :: .ptr 1000 [0] :: .undef :: .ptr 1001 [0] :: .int .i64 :: .int .i64 :: .int .i64 :: .int .i64 :: uu 73 ([])), [(1000, .obox (.agg [.int .i64, .nilsl])), (1001, .obox (.agg [.int .i64, .nilsl]))]⟩, [(.exit 4, ⟨(.int .i64 :: .rd (.int .i64) :: .undef :: .undef :: .ptr 1000 [0] :: .undef :: .ptr 1001 [0] :: .int .i64 :: .int .i64 :: .int .i64 :: uu 74 ([])), [(1000, .obox (.agg [.int .i64, .nilsl])), (1001, .obox (.agg [.int .i64, .nilsl]))]⟩)], fun _ ds k => dI (fun x0 ds => dL (fun x1 ds => dI (fun x2 ds => dI (fun x3 ds => dI (fun x4 ds => dI (fun x5 ds => dI (fun x6 ds => dI (fun x7 ds => dE ((F x0 x1 x2 x3 x4 x5 x6 x7).bind (fun y => k 0 [.I y.1, .L y.2.1, .I y.2.2.1, .I y.2.2.2.1, .I y.2.2.2.2.1, .I y.2.2.2.2.2.1, .I y.2.2.2.2.2.2])) ds) ds) ds) ds) ds) ds) ds) ds) ds⟩
theorem q_Z36 (F : Int → List D → Int → Int → Int → Int → Int → Int → Option (Int × List D × Int × Int × Int × Int × Int)) (x0 : Int) (x1 : List D) (x2 : Int) (x3 : Int) (x4 : Int) (x5 : Int) (x6 : Int) (x7 : Int) : runLoop (ocOf [e_Z35]) (olOf [m_Z36 F]) A 95 (codeAt (bodyOf Try.f95) 9) ((m_Z36 F).sh.mk' [.I x0, .L x1, .I x2, .I x3, .I x4, .I x5, .I x6, .I x7]) (fun e σ' => some (e, σ')) = c_Z36 F x0 x1 x2 x3 x4 x5 x6 x7 (fun y => some (.exit 4, SSt.mk' ⟨(.int .i64 :: .rd (.int .i64) :: .undef :: .undef :: .ptr 1000 [0] :: .undef :: .ptr 1001 [0] :: .int .i64 :: .int .i64 :: .int .i64 :: uu 74 ([])), [(1000, .obox (.agg [.int .i64, .nilsl])), (1001, .obox (.agg [.int .i64, .nilsl]))]⟩ [.I y.1, .L y.2.1, .I y.2.2.1, .I y.2.2.2.1, .I y.2.2.2.2.1, .I y.2.2.2.2.2.1, .I y.2.2.2.2.2.2])) := by kernel_rfl
theorem m_Z36_ok : ∀ n, (m_Z36 (n_Z36 n)).ok Try.prog (codeAt (bodyOf Try.f95) 9) := by
 intro n
 induction n with
 | zero =>
  intro R ds k r h
  unfold m_Z36 at h
  obtain ⟨x0, d0, rfl, h0⟩ := dI_some h
  obtain ⟨x1, d1, rfl, h1⟩ := dL_some h0
  obtain ⟨x2, d2, rfl, h2⟩ := dI_some h1
  obtain ⟨x3, d3, rfl, h3⟩ := dI_some h2
  obtain ⟨x4, d4, rfl, h4⟩ := dI_some h3
  obtain ⟨x5, d5, rfl, h5⟩ := dI_some h4
  obtain ⟨x6, d6, rfl, h6⟩ := dI_some h5
  obtain ⟨x7, d7, rfl, h7⟩ := dI_some h6
  obtain ⟨rfl, hE⟩ := dE_some h7
  obtain ⟨y, hy, hk⟩ := bnd_some hE
  cases hy
 | succ n ih =>
  intro R ds k r h
  unfold m_Z36 at h
  obtain ⟨x0, d0, rfl, h0⟩ := dI_some h
  obtain ⟨x1, d1, rfl, h1⟩ := dL_some h0
  obtain ⟨x2, d2, rfl, h2⟩ := dI_some h1
  obtain ⟨x3, d3, rfl, h3⟩ := dI_some h2
  obtain ⟨x4, d4, rfl, h4⟩ := dI_some h3
  obtain ⟨x5, d5, rfl, h5⟩ := dI_some h4
  obtain ⟨x6, d6, rfl, h6⟩ := dI_some h5
  obtain ⟨x7, d7, rfl, h7⟩ := dI_some h6
  obtain ⟨rfl, hE⟩ := dE_some h7
  obtain ⟨y, hy, hk⟩ := bnd_some hE
  have hq := q_Z36 (n_Z36 n) x0 x1 x2 x3 x4 x5 x6 x7
  rw [c_Z36_bind] at hq
  rw [show c_Z36 (n_Z36 n) x0 x1 x2 x3 x4 x5 x6 x7 some = some y from hy] at hq
  refine ⟨0, _, _, _, hk, rfl, loop_ok px (fx := ⟨Try.func95, by kernel_rfl, by kernel_rfl⟩) (entsOK_cons e_Z35_ok entsOK_nil) (lentsOK_cons ih lentsOK_nil) (by kernel_rfl) ?_⟩
  exact hq
noncomputable def e_Z36 : Lent := m_Z36 (Z36)
theorem e_Z36_ok : (e_Z36).ok Try.prog (codeAt (bodyOf Try.f95) 9) := by
 intro R ds k r h
 unfold e_Z36 m_Z36 at h
 obtain ⟨x0, d0, rfl, h0⟩ := dI_some h
 obtain ⟨x1, d1, rfl, h1⟩ := dL_some h0
 obtain ⟨x2, d2, rfl, h2⟩ := dI_some h1
 obtain ⟨x3, d3, rfl, h3⟩ := dI_some h2
 obtain ⟨x4, d4, rfl, h4⟩ := dI_some h3
 obtain ⟨x5, d5, rfl, h5⟩ := dI_some h4
 obtain ⟨x6, d6, rfl, h6⟩ := dI_some h5
 obtain ⟨x7, d7, rfl, h7⟩ := dI_some h6
 obtain ⟨rfl, hE⟩ := dE_some h7
 obtain ⟨y, hy, hk⟩ := bnd_some hE
 obtain ⟨n, hn⟩ := ev_some hy
 exact m_Z36_ok n R _ k r (show (n_Z36 n x0 x1 x2 x3 x4 x5 x6 x7).bind _ = _ by rw [hn]; exact hk)

/-!-/
def c_Z37 {R : Type} (F : List D → Int → Int → Int → Int → Int → Int → List D → Option (Int × Int × Int × List D)) (x0 : List D) (x1 : Int) (x2 : Int) (x3 : Int) (x4 : Int) (x5 : Int) (x6 : Int) (x7 : List D) (k : Int × Int × Int × List D → Option R) : Option R :=
 bif decide (x3 < x1) then
 if 0 ≤ x3 ∧ x3 < (↑x0.length : Int) then
 if x2 ≠ (0 : Int) then
 if x7.length + [D.int (IntKind.i64.wrap ((x0.getD x3.toNat (D.int 0)).toInt.tdiv x2))].length ≤ (4294967296 : Nat) then
 (F x0 x1 x2 (IntKind.i64.wrap (x3 + 1)) x4 x5 x6 (x7 ++ [D.int (IntKind.i64.wrap ((x0.getD x3.toNat (D.int 0)).toInt.tdiv x2))])).bind k
 else
 none
 else
 none
 else
 none
 else
 k (x4, x5, x6, x7)
theorem c_Z37_bind {R : Type} (F : List D → Int → Int → Int → Int → Int → Int → List D → Option (Int × Int × Int × List D)) (x0 : List D) (x1 : Int) (x2 : Int) (x3 : Int) (x4 : Int) (x5 : Int) (x6 : Int) (x7 : List D) (k : Int × Int × Int × List D → Option R) : c_Z37 F x0 x1 x2 x3 x4 x5 x6 x7 k = (c_Z37 F x0 x1 x2 x3 x4 x5 x6 x7 some).bind k := by
 unfold c_Z37
 repeat' first|exact bnd_tail|exact bnd_none|exact bnd_leaf|apply bnd_ite|apply bnd_cond|apply bnd_sum|(apply bnd_bind;intro _)|intro _
def n_Z37 : Nat → List D → Int → Int → Int → Int → Int → Int → List D → Option (Int × Int × Int × List D)
 | 0, _, _, _, _, _, _, _, _ => none
 | n + 1, x0, x1, x2, x3, x4, x5, x6, x7 => c_Z37 (n_Z37 n) x0 x1 x2 x3 x4 x5 x6 x7 some
noncomputable def Z37 (x0 : List D) (x1 : Int) (x2 : Int) (x3 : Int) (x4 : Int) (x5 : Int) (x6 : Int) (x7 : List D) : Option (Int × Int × Int × List D) := ev (fun n => n_Z37 n x0 x1 x2 x3 x4 x5 x6 x7)
def m_Z37 (F : List D → Int → Int → Int → Int → Int → Int → List D → Option (Int × Int × Int × List D)) : Lent := ⟨16, ⟨(.undef :: .rd (.int .i64) :: .undef :: .undef :: .ptr 1000 [0] :: .undef :: .ptr 1001 [0] :: .undef :: .int .i64 :: .int .i64 :: .undef :: .ptr 1002 [0] :: .int .i64 :: uu 71 ([])), [(1000, .obox (.agg [.int .i64, .nilsl])), (1001, .obox (.agg [.int .i64, .nilsl])), (1002, .obox (.agg [.int .i64, .full 1003 [] (.int .i64)])), (1003, .own (.int .i64))]⟩, [(.exit 6, ⟨(uu 4 (.ptr 1000 [0] :: .undef :: .ptr 1001 [0] :: uu 4 (.ptr 1002 [0] :: uu 72 ([])))), [(1000, .obox (.agg [.int .i64, .nilsl])), (1001, .obox (.agg [.int .i64, .nilsl])), (1002, .obox (.agg [.int .i64, .full 1003 [] (.int .i64)])), (1003, .own (.int .i64))]⟩)], fun _ ds k => dL (fun x0 ds => dI (fun x1 ds => dI (fun x2 ds => dI (fun x3 ds => dI (fun x4 ds => dI (fun x5 ds => dI (fun x6 ds => dL (fun x7 ds => dE ((F x0 x1 x2 x3 x4 x5 x6 x7).bind (fun y => k 0 [.I y.1, .I y.2.1, .I y.2.2.1, .L y.2.2.2])) ds) ds) ds) ds) ds) ds) ds) ds) ds⟩
theorem q_Z37 (F : List D → Int → Int → Int → Int → Int → Int → List D → Option (Int × Int × Int × List D)) (x0 : List D) (x1 : Int) (x2 : Int) (x3 : Int) (x4 : Int) (x5 : Int) (x6 : Int) (x7 : List D) : runLoop (ocOf []) (olOf [m_Z37 F]) A 95 (codeAt (bodyOf Try.f95) 16) ((m_Z37 F).sh.mk' [.L x0, .I x1, .I x2, .I x3, .I x4, .I x5, .I x6, .L x7]) (fun e σ' => some (e, σ')) = c_Z37 F x0 x1 x2 x3 x4 x5 x6 x7 (fun y => some (.exit 6, SSt.mk' ⟨(uu 4 (.ptr 1000 [0] :: .undef :: .ptr 1001 [0] :: uu 4 (.ptr 1002 [0] :: uu 72 ([])))), [(1000, .obox (.agg [.int .i64, .nilsl])), (1001, .obox (.agg [.int .i64, .nilsl])), (1002, .obox (.agg [.int .i64, .full 1003 [] (.int .i64)])), (1003, .own (.int .i64))]⟩ [.I y.1, .I y.2.1, .I y.2.2.1, .L y.2.2.2])) := by kernel_rfl
theorem m_Z37_ok : ∀ n, (m_Z37 (n_Z37 n)).ok Try.prog (codeAt (bodyOf Try.f95) 16) := by
 intro n
 induction n with
 | zero =>
  intro R ds k r h
  unfold m_Z37 at h
  obtain ⟨x0, d0, rfl, h0⟩ := dL_some h
  obtain ⟨x1, d1, rfl, h1⟩ := dI_some h0
  obtain ⟨x2, d2, rfl, h2⟩ := dI_some h1
  obtain ⟨x3, d3, rfl, h3⟩ := dI_some h2
  obtain ⟨x4, d4, rfl, h4⟩ := dI_some h3
  obtain ⟨x5, d5, rfl, h5⟩ := dI_some h4
  obtain ⟨x6, d6, rfl, h6⟩ := dI_some h5
  obtain ⟨x7, d7, rfl, h7⟩ := dL_some h6
  obtain ⟨rfl, hE⟩ := dE_some h7
  obtain ⟨y, hy, hk⟩ := bnd_some hE
  cases hy
 | succ n ih =>
  intro R ds k r h
  unfold m_Z37 at h
  obtain ⟨x0, d0, rfl, h0⟩ := dL_some h
  obtain ⟨x1, d1, rfl, h1⟩ := dI_some h0
  obtain ⟨x2, d2, rfl, h2⟩ := dI_some h1
  obtain ⟨x3, d3, rfl, h3⟩ := dI_some h2
  obtain ⟨x4, d4, rfl, h4⟩ := dI_some h3
  obtain ⟨x5, d5, rfl, h5⟩ := dI_some h4
  obtain ⟨x6, d6, rfl, h6⟩ := dI_some h5
  obtain ⟨x7, d7, rfl, h7⟩ := dL_some h6
  obtain ⟨rfl, hE⟩ := dE_some h7
  obtain ⟨y, hy, hk⟩ := bnd_some hE
  have hq := q_Z37 (n_Z37 n) x0 x1 x2 x3 x4 x5 x6 x7
  rw [c_Z37_bind] at hq
  rw [show c_Z37 (n_Z37 n) x0 x1 x2 x3 x4 x5 x6 x7 some = some y from hy] at hq
  refine ⟨0, _, _, _, hk, rfl, loop_ok px (fx := ⟨Try.func95, by kernel_rfl, by kernel_rfl⟩) entsOK_nil (lentsOK_cons ih lentsOK_nil) (by kernel_rfl) ?_⟩
  exact hq
noncomputable def e_Z37 : Lent := m_Z37 (Z37)
theorem e_Z37_ok : (e_Z37).ok Try.prog (codeAt (bodyOf Try.f95) 16) := by
 intro R ds k r h
 unfold e_Z37 m_Z37 at h
 obtain ⟨x0, d0, rfl, h0⟩ := dL_some h
 obtain ⟨x1, d1, rfl, h1⟩ := dI_some h0
 obtain ⟨x2, d2, rfl, h2⟩ := dI_some h1
 obtain ⟨x3, d3, rfl, h3⟩ := dI_some h2
 obtain ⟨x4, d4, rfl, h4⟩ := dI_some h3
 obtain ⟨x5, d5, rfl, h5⟩ := dI_some h4
 obtain ⟨x6, d6, rfl, h6⟩ := dI_some h5
 obtain ⟨x7, d7, rfl, h7⟩ := dL_some h6
 obtain ⟨rfl, hE⟩ := dE_some h7
 obtain ⟨y, hy, hk⟩ := bnd_some hE
 obtain ⟨n, hn⟩ := ev_some hy
 exact m_Z37_ok n R _ k r (show (n_Z37 n x0 x1 x2 x3 x4 x5 x6 x7).bind _ = _ by rw [hn]; exact hk)

/-!-/
def c_Z38 {R : Type} (F : Int → Int → Int → Int → List D → Option ((Bool × Int) ⊕ (Int))) (x0 : Int) (x1 : Int) (x2 : Int) (x3 : Int) (x4 : List D) (k : (Bool × Int) ⊕ (Int) → Option R) : Option R :=
 bif decide (x2 < x0) then
 if 0 ≤ x2 ∧ x2 < (↑x4.length : Int) then
 (Z30 ((x4.getD x2.toNat (D.int 0)).toInt) (0 : Int) (1000000 : Int)).bind (fun y0 =>
 bif !y0 then
 k (.inl (Bool.false, x1))
 else
 if 0 ≤ x2 ∧ x2 < (↑x4.length : Int) then
 (Z35 x1 ((x4.getD x2.toNat (D.int 0)).toInt)).bind (fun y1 =>
 (F x0 y1 (IntKind.i64.wrap (x2 + 1)) x3 x4).bind k)
 else
 none)
 else
 none
 else
 k (.inr x1)
theorem c_Z38_bind {R : Type} (F : Int → Int → Int → Int → List D → Option ((Bool × Int) ⊕ (Int))) (x0 : Int) (x1 : Int) (x2 : Int) (x3 : Int) (x4 : List D) (k : (Bool × Int) ⊕ (Int) → Option R) : c_Z38 F x0 x1 x2 x3 x4 k = (c_Z38 F x0 x1 x2 x3 x4 some).bind k := by
 unfold c_Z38
 repeat' first|exact bnd_tail|exact bnd_none|exact bnd_leaf|apply bnd_ite|apply bnd_cond|apply bnd_sum|(apply bnd_bind;intro _)|intro _
def n_Z38 : Nat → Int → Int → Int → Int → List D → Option ((Bool × Int) ⊕ (Int))
 | 0, _, _, _, _, _ => none
 | n + 1, x0, x1, x2, x3, x4 => c_Z38 (n_Z38 n) x0 x1 x2 x3 x4 some
noncomputable def Z38 (x0 : Int) (x1 : Int) (x2 : Int) (x3 : Int) (x4 : List D) : Option ((Bool × Int) ⊕ (Int)) := ev (fun n => n_Z38 n x0 x1 x2 x3 x4)
def m_Z38 (F : Int → Int → Int → Int → List D → Option ((Bool × Int) ⊕ (Int))) : Lent := ⟨6, ⟨(.undef :: .ptr 1000 [0] :: .undef :: .int .i64 :: .int .i64 :: .int .i64 :: uu 52 ([])), [(1000, .obox (.agg [.int .i64, .rd (.int .i64)]))]⟩, [(.ret, ⟨(.undef :: .undef :: .bool :: .undef :: .int .i64 :: uu 53 ([])), []⟩), (.exit 0, ⟨(uu 4 (.int .i64 :: uu 53 ([]))), []⟩)], fun _ ds k => dI (fun x0 ds => dI (fun x1 ds => dI (fun x2 ds => dI (fun x3 ds => dL (fun x4 ds => dE ((F x0 x1 x2 x3 x4).bind (Sum.elim (fun y => k 0 [.B y.1, .I y.2]) (fun y => k 1 [.I y]))) ds) ds) ds) ds) ds) ds⟩
theorem q_Z38 (F : Int → Int → Int → Int → List D → Option ((Bool × Int) ⊕ (Int))) (x0 : Int) (x1 : Int) (x2 : Int) (x3 : Int) (x4 : List D) : runLoop (ocOf [e_Z30, e_Z35]) (olOf [m_Z38 F]) A 86 (codeAt (bodyOf Try.f86) 6) ((m_Z38 F).sh.mk' [.I x0, .I x1, .I x2, .I x3, .L x4]) (fun e σ' => some (e, σ')) = c_Z38 F x0 x1 x2 x3 x4 (Sum.elim (fun y => some (.ret, SSt.mk' ⟨(.undef :: .undef :: .bool :: .undef :: .int .i64 :: uu 53 ([])), []⟩ [.B y.1, .I y.2])) (fun y => some (.exit 0, SSt.mk' ⟨(uu 4 (.int .i64 :: uu 53 ([]))), []⟩ [.I y]))) := by kernel_rfl
theorem m_Z38_ok : ∀ n, (m_Z38 (n_Z38 n)).ok Try.prog (codeAt (bodyOf Try.f86) 6) := by
 intro n
 induction n with
 | zero =>
  intro R ds k r h
  unfold m_Z38 at h
  obtain ⟨x0, d0, rfl, h0⟩ := dI_some h
  obtain ⟨x1, d1, rfl, h1⟩ := dI_some h0
  obtain ⟨x2, d2, rfl, h2⟩ := dI_some h1
  obtain ⟨x3, d3, rfl, h3⟩ := dI_some h2
  obtain ⟨x4, d4, rfl, h4⟩ := dL_some h3
  obtain ⟨rfl, hE⟩ := dE_some h4
  obtain ⟨y, hy, hk⟩ := bnd_some hE
  cases hy
 | succ n ih =>
  intro R ds k r h
  unfold m_Z38 at h
  obtain ⟨x0, d0, rfl, h0⟩ := dI_some h
  obtain ⟨x1, d1, rfl, h1⟩ := dI_some h0
  obtain ⟨x2, d2, rfl, h2⟩ := dI_some h1
  obtain ⟨x3, d3, rfl, h3⟩ := dI_some h2
  obtain ⟨x4, d4, rfl, h4⟩ := dL_some h3
  obtain ⟨rfl, hE⟩ := dE_some h4
  obtain ⟨y, hy, hk⟩ := bnd_some hE
  have hq := q_Z38 (n_Z38 n) x0 x1 x2 x3 x4
  rw [c_Z38_bind] at hq
  rw [show c_Z38 (n_Z38 n) x0 x1 x2 x3 x4 some = some y from hy] at hq
  cases y with
  | inl y =>
   refine ⟨0, _, _, _, hk, rfl, loop_ok px (fx := ⟨Try.func86, by kernel_rfl, by kernel_rfl⟩) (entsOK_cons e_Z30_ok (entsOK_cons e_Z35_ok entsOK_nil)) (lentsOK_cons ih lentsOK_nil) (by kernel_rfl) ?_⟩
   exact hq
  | inr y =>
   refine ⟨1, _, _, _, hk, rfl, loop_ok px (fx := ⟨Try.func86, by kernel_rfl, by kernel_rfl⟩) (entsOK_cons e_Z30_ok (entsOK_cons e_Z35_ok entsOK_nil)) (lentsOK_cons ih lentsOK_nil) (by kernel_rfl) ?_⟩
   exact hq
noncomputable def e_Z38 : Lent := m_Z38 (Z38)
theorem e_Z38_ok : (e_Z38).ok Try.prog (codeAt (bodyOf Try.f86) 6) := by
 intro R ds k r h
 unfold e_Z38 m_Z38 at h
 obtain ⟨x0, d0, rfl, h0⟩ := dI_some h
 obtain ⟨x1, d1, rfl, h1⟩ := dI_some h0
 obtain ⟨x2, d2, rfl, h2⟩ := dI_some h1
 obtain ⟨x3, d3, rfl, h3⟩ := dI_some h2
 obtain ⟨x4, d4, rfl, h4⟩ := dL_some h3
 obtain ⟨rfl, hE⟩ := dE_some h4
 obtain ⟨y, hy, hk⟩ := bnd_some hE
 obtain ⟨n, hn⟩ := ev_some hy
 exact m_Z38_ok n R _ k r (show (n_Z38 n x0 x1 x2 x3 x4).bind _ = _ by rw [hn]; exact hk)

/-!-/
def c_Z39 {R : Type} (x0 : Int) (x1 : List D) (k : Bool → Option R) : Option R :=
 (Z30 (↑x1.length : Int) (1 : Int) (60 : Int)).bind (fun y0 =>
 bif !y0 then
 k Bool.false
 else
 (Z30 x0 (-20000 : Int) (IntKind.i64.wrap (IntKind.i64.wrap ((2100 : Int) - (↑x1.length : Int)) + (1 : Int)))).bind (fun y1 =>
 bif !y1 then
 k Bool.false
 else
 if (0 : Int) ≤ (0 : Int) ∧ (0 : Int) < (↑x1.length : Int) then
 bif decide ((x1.getD (Int.toNat (0 : Int)) (D.int 0)).toInt ≤ (0 : Int)) then
 k Bool.false
 else
 if (0 : Int) ≤ IntKind.i64.wrap ((↑x1.length : Int) - (1 : Int)) ∧ IntKind.i64.wrap ((↑x1.length : Int) - (1 : Int)) < (↑x1.length : Int) then
 bif decide ((x1.getD (IntKind.i64.wrap ((↑x1.length : Int) - (1 : Int))).toNat (D.int 0)).toInt ≤ (0 : Int)) then
 k Bool.false
 else
 (Z38 (↑x1.length : Int) (0 : Int) (0 : Int) x0 x1).bind (Sum.elim (fun y2 =>
 k y2.fst) (fun y3 =>
 k (decide (y3 = (1 : Int)))))
 else
 none
 else
 none))
theorem c_Z39_bind {R : Type} (x0 : Int) (x1 : List D) (k : Bool → Option R) : c_Z39 x0 x1 k = (c_Z39 x0 x1 some).bind k := by
 unfold c_Z39
 repeat' first|exact bnd_tail|exact bnd_none|exact bnd_leaf|apply bnd_ite|apply bnd_cond|apply bnd_sum|(apply bnd_bind;intro _)|intro _
def Z39 (x0 : Int) (x1 : List D) : Option (Bool) := c_Z39 x0 x1 some
def e_Z39 : Ent := ⟨86, [.agg [.int .i64, .rd (.int .i64)]], .bool, [.undef], fun _ ds k => dI (fun x0 ds => dL (fun x1 ds => dE ((Z39 x0 x1).bind (fun y => k [.B y])) ds) ds) ds⟩
theorem q_Z39 (x0 : Int) (x1 : List D) : runFn (ocOf [e_Z30]) (olOf [e_Z38]) A 86 Try.f86 (Sh.mks e_Z39.sh [.I x0, .L x1]).1 (fun v os => some (v, os)) = c_Z39 x0 x1 (fun y => some ((e_Z39.res.mk [.B y]).1, (Sh.mks e_Z39.outs (e_Z39.res.mk [.B y]).2).1)) := by kernel_rfl
theorem e_Z39_ok : e_Z39.ok Try.prog A := by
 intro R ds k r h
 unfold e_Z39 at h
 obtain ⟨x0, d0, rfl, h0⟩ := dI_some h
 obtain ⟨x1, d1, rfl, h1⟩ := dL_some h0
 obtain ⟨rfl, hE⟩ := dE_some h1
 obtain ⟨y, hy, hk⟩ := bnd_some hE
 refine ⟨_, hk, fn_ok px (fx := ⟨Try.func86, by kernel_rfl, by kernel_rfl⟩) (entsOK_cons e_Z30_ok entsOK_nil) (lentsOK_cons e_Z38_ok lentsOK_nil) ?_⟩
 have hq := q_Z39 x0 x1
 rw [c_Z39_bind] at hq
 rw [show c_Z39 x0 x1 some = some y from hy] at hq
 exact hq

/-!-/
def c_Z40 {R : Type} (x0 : Int) (x1 : List D) (k : Int × List D × Bool → Option R) : Option R :=
 (Z32 x0 x1 (0 : Int) (↑x1.length : Int) (0 : Int) (0 : Int)).bind (fun y0 =>
 (Z33 y0.fst y0.snd.fst y0.snd.snd.fst y0.snd.snd.snd.fst y0.snd.snd.snd.snd.fst y0.snd.snd.snd.snd.snd).bind (fun y1 =>
 (Z36 y1.fst y1.snd.fst y1.snd.snd.fst y1.snd.snd.snd.fst (0 : Int) y1.snd.snd.fst y1.snd.snd.snd.snd.fst y1.snd.snd.snd.snd.snd).bind (fun y2 =>
 bif decide (y2.snd.snd.fst = y2.snd.snd.snd.fst) then
 k (y2.snd.snd.snd.snd.snd.snd, [], Bool.false)
 else
 (Z37 y2.snd.fst y2.snd.snd.snd.fst y2.snd.snd.snd.snd.fst y2.snd.snd.fst y2.snd.snd.snd.snd.snd.fst y2.snd.snd.snd.snd.snd.snd (IntKind.i64.wrap (y2.fst + y2.snd.snd.fst)) []).bind (fun y3 =>
 (Z39 y3.snd.snd.fst y3.snd.snd.snd).bind (fun y4 =>
 bif !y4 then
 k (y3.snd.fst, [], Bool.false)
 else
 k (y3.snd.snd.fst, y3.snd.snd.snd, Bool.true))))))
theorem c_Z40_bind {R : Type} (x0 : Int) (x1 : List D) (k : Int × List D × Bool → Option R) : c_Z40 x0 x1 k = (c_Z40 x0 x1 some).bind k := by
 unfold c_Z40
 repeat' first|exact bnd_tail|exact bnd_none|exact bnd_leaf|apply bnd_ite|apply bnd_cond|apply bnd_sum|(apply bnd_bind;intro _)|intro _
def Z40 (x0 : Int) (x1 : List D) : Option (Int × List D × Bool) := c_Z40 x0 x1 some
def e_Z40 : Ent := ⟨95, [.int .i64, .rd (.int .i64)], .tup [.agg [.int .i64, .own (.int .i64)], .bool], [.undef, .undef], fun _ ds k => dI (fun x0 ds => dL (fun x1 ds => dE ((Z40 x0 x1).bind (fun y => k [.I y.1, .L y.2.1, .B y.2.2])) ds) ds) ds⟩
theorem q_Z40 (x0 : Int) (x1 : List D) : runFn (ocOf [e_Z39]) (olOf [e_Z32, e_Z33, e_Z36, e_Z37]) A 95 Try.f95 (Sh.mks e_Z40.sh [.I x0, .L x1]).1 (fun v os => some (v, os)) = c_Z40 x0 x1 (fun y => some ((e_Z40.res.mk [.I y.1, .L y.2.1, .B y.2.2]).1, (Sh.mks e_Z40.outs (e_Z40.res.mk [.I y.1, .L y.2.1, .B y.2.2]).2).1)) := by kernel_rfl
theorem e_Z40_ok : e_Z40.ok Try.prog A := by
 intro R ds k r h
 unfold e_Z40 at h
 obtain ⟨x0, d0, rfl, h0⟩ := dI_some h
 obtain ⟨x1, d1, rfl, h1⟩ := dL_some h0
 obtain ⟨rfl, hE⟩ := dE_some h1
 obtain ⟨y, hy, hk⟩ := bnd_some hE
 refine ⟨_, hk, fn_ok px (fx := ⟨Try.func95, by kernel_rfl, by kernel_rfl⟩) (entsOK_cons e_Z39_ok entsOK_nil) (lentsOK_cons e_Z32_ok (lentsOK_cons e_Z33_ok (lentsOK_cons e_Z36_ok (lentsOK_cons e_Z37_ok lentsOK_nil)))) ?_⟩
 have hq := q_Z40 x0 x1
 rw [c_Z40_bind] at hq
 rw [show c_Z40 x0 x1 some = some y from hy] at hq
 exact hq

/-!-/
def c_Z41 {R : Type} (x0 : Int) (x1 : List D) (k : Int × List D × Bool → Option R) : Option R :=
 (Z30 x0 (-20000 : Int) (2100 : Int)).bind (fun y0 =>
 bif !y0 then
 k ((0 : Int), [], Bool.false)
 else
 bif decide ((200 : Int) < (↑x1.length : Int)) then
 k ((0 : Int), [], Bool.false)
 else
 (Z31 x0 x1 (0 : Int) (0 : Int)).bind (Sum.elim (fun y1 =>
 k (y1.snd.snd.snd, [], y1.snd.snd.fst)) (fun y2 =>
 (Z40 y2.fst y2.snd.fst).bind (fun y3 =>
 k (y3.fst, y3.snd.fst, y3.snd.snd)))))
theorem c_Z41_bind {R : Type} (x0 : Int) (x1 : List D) (k : Int × List D × Bool → Option R) : c_Z41 x0 x1 k = (c_Z41 x0 x1 some).bind k := by
 unfold c_Z41
 repeat' first|exact bnd_tail|exact bnd_none|exact bnd_leaf|apply bnd_ite|apply bnd_cond|apply bnd_sum|(apply bnd_bind;intro _)|intro _
def Z41 (x0 : Int) (x1 : List D) : Option (Int × List D × Bool) := c_Z41 x0 x1 some
def e_Z41 : Ent := ⟨30, [.int .i64, .rd (.int .i64)], .tup [.agg [.int .i64, .own (.int .i64)], .bool], [.undef, .undef], fun _ ds k => dI (fun x0 ds => dL (fun x1 ds => dE ((Z41 x0 x1).bind (fun y => k [.I y.1, .L y.2.1, .B y.2.2])) ds) ds) ds⟩
theorem q_Z41 (x0 : Int) (x1 : List D) : runFn (ocOf [e_Z30, e_Z40]) (olOf [e_Z31]) A 30 Try.f30 (Sh.mks e_Z41.sh [.I x0, .L x1]).1 (fun v os => some (v, os)) = c_Z41 x0 x1 (fun y => some ((e_Z41.res.mk [.I y.1, .L y.2.1, .B y.2.2]).1, (Sh.mks e_Z41.outs (e_Z41.res.mk [.I y.1, .L y.2.1, .B y.2.2]).2).1)) := by kernel_rfl
theorem e_Z41_ok : e_Z41.ok Try.prog A := by
 intro R ds k r h
 unfold e_Z41 at h
 obtain ⟨x0, d0, rfl, h0⟩ := dI_some h
 obtain ⟨x1, d1, rfl, h1⟩ := dL_some h0
 obtain ⟨rfl, hE⟩ := dE_some h1
 obtain ⟨y, hy, hk⟩ := bnd_some hE
 refine ⟨_, hk, fn_ok px (fx := ⟨Try.func30, by kernel_rfl, by kernel_rfl⟩) (entsOK_cons e_Z30_ok (entsOK_cons e_Z40_ok entsOK_nil)) (lentsOK_cons e_Z31_ok lentsOK_nil) ?_⟩
 have hq := q_Z41 x0 x1
 rw [c_Z41_bind] at hq
 rw [show c_Z41 x0 x1 some = some y from hy] at hq
 exact hq

/-!-/
def c_Z42 {R : Type} (F : List D → List D → Int → Option ((Bool) ⊕ (Unit))) (x0 : List D) (x1 : List D) (x2 : Int) (k : (Bool) ⊕ (Unit) → Option R) : Option R :=
 bif decide (x2 < (↑x0.length : Int)) then
 if 0 ≤ x2 ∧ x2 < (↑x0.length : Int) then
 if 0 ≤ x2 ∧ x2 < (↑x1.length : Int) then
 bif !decide ((x0.getD x2.toNat (D.int 0)).toInt = (x1.getD x2.toNat (D.int 0)).toInt) then
 k (.inl Bool.false)
 else
 (F x0 x1 (IntKind.i64.wrap (x2 + 1))).bind k
 else
 none
 else
 none
 else
 k (.inr ())
theorem c_Z42_bind {R : Type} (F : List D → List D → Int → Option ((Bool) ⊕ (Unit))) (x0 : List D) (x1 : List D) (x2 : Int) (k : (Bool) ⊕ (Unit) → Option R) : c_Z42 F x0 x1 x2 k = (c_Z42 F x0 x1 x2 some).bind k := by
 unfold c_Z42
 repeat' first|exact bnd_tail|exact bnd_none|exact bnd_leaf|apply bnd_ite|apply bnd_cond|apply bnd_sum|(apply bnd_bind;intro _)|intro _
def n_Z42 : Nat → List D → List D → Int → Option ((Bool) ⊕ (Unit))
 | 0, _, _, _ => none
 | n + 1, x0, x1, x2 => c_Z42 (n_Z42 n) x0 x1 x2 some
noncomputable def Z42 (x0 : List D) (x1 : List D) (x2 : Int) : Option ((Bool) ⊕ (Unit)) := ev (fun n => n_Z42 n x0 x1 x2)
def m_Z42 (F : List D → List D → Int → Option ((Bool) ⊕ (Unit))) : Lent := ⟨4, ⟨(.rd (.int .i64) :: .rd (.int .i64) :: .undef :: .undef :: .undef :: .int .i64 :: uu 20 ([])), []⟩, [(.ret, ⟨(uu 4 (.bool :: uu 21 ([]))), []⟩), (.exit 0, ⟨(uu 26 ([])), []⟩)], fun _ ds k => dL (fun x0 ds => dL (fun x1 ds => dI (fun x2 ds => dE ((F x0 x1 x2).bind (Sum.elim (fun y => k 0 [.B y]) (fun y => k 1 []))) ds) ds) ds) ds⟩
theorem q_Z42 (F : List D → List D → Int → Option ((Bool) ⊕ (Unit))) (x0 : List D) (x1 : List D) (x2 : Int) : runLoop (ocOf []) (olOf [m_Z42 F]) A 21 (codeAt (bodyOf Try.f21) 4) ((m_Z42 F).sh.mk' [.L x0, .L x1, .I x2]) (fun e σ' => some (e, σ')) = c_Z42 F x0 x1 x2 (Sum.elim (fun y => some (.ret, SSt.mk' ⟨(uu 4 (.bool :: uu 21 ([]))), []⟩ [.B y])) (fun y => some (.exit 0, SSt.mk' ⟨(uu 26 ([])), []⟩ []))) := by kernel_rfl
theorem m_Z42_ok : ∀ n, (m_Z42 (n_Z42 n)).ok Try.prog (codeAt (bodyOf Try.f21) 4) := by
 intro n
 induction n with
 | zero =>
  intro R ds k r h
  unfold m_Z42 at h
  obtain ⟨x0, d0, rfl, h0⟩ := dL_some h
  obtain ⟨x1, d1, rfl, h1⟩ := dL_some h0
  obtain ⟨x2, d2, rfl, h2⟩ := dI_some h1
  obtain ⟨rfl, hE⟩ := dE_some h2
  obtain ⟨y, hy, hk⟩ := bnd_some hE
  cases hy
 | succ n ih =>
  intro R ds k r h
  unfold m_Z42 at h
  obtain ⟨x0, d0, rfl, h0⟩ := dL_some h
  obtain ⟨x1, d1, rfl, h1⟩ := dL_some h0
  obtain ⟨x2, d2, rfl, h2⟩ := dI_some h1
  obtain ⟨rfl, hE⟩ := dE_some h2
  obtain ⟨y, hy, hk⟩ := bnd_some hE
  have hq := q_Z42 (n_Z42 n) x0 x1 x2
  rw [c_Z42_bind] at hq
  rw [show c_Z42 (n_Z42 n) x0 x1 x2 some = some y from hy] at hq
  cases y with
  | inl y =>
   refine ⟨0, _, _, _, hk, rfl, loop_ok px (fx := ⟨Try.func21, by kernel_rfl, by kernel_rfl⟩) entsOK_nil (lentsOK_cons ih lentsOK_nil) (by kernel_rfl) ?_⟩
   exact hq
  | inr y =>
   refine ⟨1, _, _, _, hk, rfl, loop_ok px (fx := ⟨Try.func21, by kernel_rfl, by kernel_rfl⟩) entsOK_nil (lentsOK_cons ih lentsOK_nil) (by kernel_rfl) ?_⟩
   exact hq
noncomputable def e_Z42 : Lent := m_Z42 (Z42)
theorem e_Z42_ok : (e_Z42).ok Try.prog (codeAt (bodyOf Try.f21) 4) := by
 intro R ds k r h
 unfold e_Z42 m_Z42 at h
 obtain ⟨x0, d0, rfl, h0⟩ := dL_some h
 obtain ⟨x1, d1, rfl, h1⟩ := dL_some h0
 obtain ⟨x2, d2, rfl, h2⟩ := dI_some h1
 obtain ⟨rfl, hE⟩ := dE_some h2
 obtain ⟨y, hy, hk⟩ := bnd_some hE
 obtain ⟨n, hn⟩ := ev_some hy
 exact m_Z42_ok n R _ k r (show (n_Z42 n x0 x1 x2).bind _ = _ by rw [hn]; exact hk)

/-!-/
def c_Z43 {R : Type} (x0 : List D) (x1 : List D) (k : Bool → Option R) : Option R :=
 bif !decide ((↑x0.length : Int) = (↑x1.length : Int)) then
 k Bool.false
 else
 (Z42 x0 x1 (0 : Int)).bind (Sum.elim (fun y0 =>
 k y0) (fun y1 =>
 k Bool.true))
theorem c_Z43_bind {R : Type} (x0 : List D) (x1 : List D) (k : Bool → Option R) : c_Z43 x0 x1 k = (c_Z43 x0 x1 some).bind k := by
 unfold c_Z43
 repeat' first|exact bnd_tail|exact bnd_none|exact bnd_leaf|apply bnd_ite|apply bnd_cond|apply bnd_sum|(apply bnd_bind;intro _)|intro _
def Z43 (x0 : List D) (x1 : List D) : Option (Bool) := c_Z43 x0 x1 some
def e_Z43 : Ent := ⟨21, [.rd (.int .i64), .rd (.int .i64)], .bool, [.undef, .undef], fun _ ds k => dL (fun x0 ds => dL (fun x1 ds => dE ((Z43 x0 x1).bind (fun y => k [.B y])) ds) ds) ds⟩
theorem q_Z43 (x0 : List D) (x1 : List D) : runFn (ocOf []) (olOf [e_Z42]) A 21 Try.f21 (Sh.mks e_Z43.sh [.L x0, .L x1]).1 (fun v os => some (v, os)) = c_Z43 x0 x1 (fun y => some ((e_Z43.res.mk [.B y]).1, (Sh.mks e_Z43.outs (e_Z43.res.mk [.B y]).2).1)) := by kernel_rfl
theorem e_Z43_ok : e_Z43.ok Try.prog A := by
 intro R ds k r h
 unfold e_Z43 at h
 obtain ⟨x0, d0, rfl, h0⟩ := dL_some h
 obtain ⟨x1, d1, rfl, h1⟩ := dL_some h0
 obtain ⟨rfl, hE⟩ := dE_some h1
 obtain ⟨y, hy, hk⟩ := bnd_some hE
 refine ⟨_, hk, fn_ok px (fx := ⟨Try.func21, by kernel_rfl, by kernel_rfl⟩) entsOK_nil (lentsOK_cons e_Z42_ok lentsOK_nil) ?_⟩
 have hq := q_Z43 x0 x1
 rw [c_Z43_bind] at hq
 rw [show c_Z43 x0 x1 some = some y from hy] at hq
 exact hq

/-!-/
def c_Z44 {R : Type} (x0 : Int) (x1 : List D) (x2 : Int) (x3 : List D) (k : Bool → Option R) : Option R :=
 bif decide (x0 = x2) then
 (Z43 x1 x3).bind (fun y0 =>
 k y0)
 else
 k Bool.false
theorem c_Z44_bind {R : Type} (x0 : Int) (x1 : List D) (x2 : Int) (x3 : List D) (k : Bool → Option R) : c_Z44 x0 x1 x2 x3 k = (c_Z44 x0 x1 x2 x3 some).bind k := by
 unfold c_Z44
 repeat' first|exact bnd_tail|exact bnd_none|exact bnd_leaf|apply bnd_ite|apply bnd_cond|apply bnd_sum|(apply bnd_bind;intro _)|intro _
def Z44 (x0 : Int) (x1 : List D) (x2 : Int) (x3 : List D) : Option (Bool) := c_Z44 x0 x1 x2 x3 some
def e_Z44 : Ent := ⟨31, [.agg [.int .i64, .rd (.int .i64)], .agg [.int .i64, .rd (.int .i64)]], .bool, [.undef, .undef], fun _ ds k => dI (fun x0 ds => dL (fun x1 ds => dI (fun x2 ds => dL (fun x3 ds => dE ((Z44 x0 x1 x2 x3).bind (fun y => k [.B y])) ds) ds) ds) ds) ds⟩
theorem q_Z44 (x0 : Int) (x1 : List D) (x2 : Int) (x3 : List D) : runFn (ocOf [e_Z43]) (olOf []) A 31 Try.f31 (Sh.mks e_Z44.sh [.I x0, .L x1, .I x2, .L x3]).1 (fun v os => some (v, os)) = c_Z44 x0 x1 x2 x3 (fun y => some ((e_Z44.res.mk [.B y]).1, (Sh.mks e_Z44.outs (e_Z44.res.mk [.B y]).2).1)) := by kernel_rfl
theorem e_Z44_ok : e_Z44.ok Try.prog A := by
 intro R ds k r h
 unfold e_Z44 at h
 obtain ⟨x0, d0, rfl, h0⟩ := dI_some h
 obtain ⟨x1, d1, rfl, h1⟩ := dL_some h0
 obtain ⟨x2, d2, rfl, h2⟩ := dI_some h1
 obtain ⟨x3, d3, rfl, h3⟩ := dL_some h2
 obtain ⟨rfl, hE⟩ := dE_some h3
 obtain ⟨y, hy, hk⟩ := bnd_some hE
 refine ⟨_, hk, fn_ok px (fx := ⟨Try.func31, by kernel_rfl, by kernel_rfl⟩) (entsOK_cons e_Z43_ok entsOK_nil) lentsOK_nil ?_⟩
 have hq := q_Z44 x0 x1 x2 x3
 rw [c_Z44_bind] at hq
 rw [show c_Z44 x0 x1 x2 x3 some = some y from hy] at hq
 exact hq

/-!-/
def c_Z45 {R : Type} (x0 : Int) (x1 : List D) (x2 : Int) (k : Int → Option R) : Option R :=
 bif decide (x2 < x0) then
 k (0 : Int)
 else
 (Z21 x0 x1).bind (fun y0 =>
 bif decide (y0 < x2) then
 k (0 : Int)
 else
 if (0 : Int) ≤ IntKind.i64.wrap (x2 - x0) ∧ IntKind.i64.wrap (x2 - x0) < (↑x1.length : Int) then
 k ((x1.getD (IntKind.i64.wrap (x2 - x0)).toNat (D.int 0)).toInt)
 else
 none)
theorem c_Z45_bind {R : Type} (x0 : Int) (x1 : List D) (x2 : Int) (k : Int → Option R) : c_Z45 x0 x1 x2 k = (c_Z45 x0 x1 x2 some).bind k := by
 unfold c_Z45
 repeat' first|exact bnd_tail|exact bnd_none|exact bnd_leaf|apply bnd_ite|apply bnd_cond|apply bnd_sum|(apply bnd_bind;intro _)|intro _
def Z45 (x0 : Int) (x1 : List D) (x2 : Int) : Option (Int) := c_Z45 x0 x1 x2 some
def e_Z45 : Ent := ⟨89, [.agg [.int .i64, .rd (.int .i64)], .int .i64], .int .i64, [.undef, .undef], fun _ ds k => dI (fun x0 ds => dL (fun x1 ds => dI (fun x2 ds => dE ((Z45 x0 x1 x2).bind (fun y => k [.I y])) ds) ds) ds) ds⟩
theorem q_Z45 (x0 : Int) (x1 : List D) (x2 : Int) : runFn (ocOf [e_Z21]) (olOf []) A 89 Try.f89 (Sh.mks e_Z45.sh [.I x0, .L x1, .I x2]).1 (fun v os => some (v, os)) = c_Z45 x0 x1 x2 (fun y => some ((e_Z45.res.mk [.I y]).1, (Sh.mks e_Z45.outs (e_Z45.res.mk [.I y]).2).1)) := by kernel_rfl
theorem e_Z45_ok : e_Z45.ok Try.prog A := by
 intro R ds k r h
 unfold e_Z45 at h
 obtain ⟨x0, d0, rfl, h0⟩ := dI_some h
 obtain ⟨x1, d1, rfl, h1⟩ := dL_some h0
 obtain ⟨x2, d2, rfl, h2⟩ := dI_some h1
 obtain ⟨rfl, hE⟩ := dE_some h2
 obtain ⟨y, hy, hk⟩ := bnd_some hE
 refine ⟨_, hk, fn_ok px (fx := ⟨Try.func89, by kernel_rfl, by kernel_rfl⟩) (entsOK_cons e_Z21_ok entsOK_nil) lentsOK_nil ?_⟩
 have hq := q_Z45 x0 x1 x2
 rw [c_Z45_bind] at hq
 rw [show c_Z45 x0 x1 x2 some = some y from hy] at hq
 exact hq

/-!-/
def c_Z46 {R : Type} (F : Int → List D → Int → Int → Option (Int)) (x0 : Int) (x1 : List D) (x2 : Int) (x3 : Int) (k : Int → Option R) : Option R :=
 bif decide (x3 < x2) then
 if 0 ≤ x3 ∧ x3 < (↑x1.length : Int) then
 (F (IntKind.i64.wrap (x0 + (x1.getD x3.toNat (D.int 0)).toInt)) x1 x2 (IntKind.i64.wrap (x3 + 1))).bind k
 else
 none
 else
 k x0
theorem c_Z46_bind {R : Type} (F : Int → List D → Int → Int → Option (Int)) (x0 : Int) (x1 : List D) (x2 : Int) (x3 : Int) (k : Int → Option R) : c_Z46 F x0 x1 x2 x3 k = (c_Z46 F x0 x1 x2 x3 some).bind k := by
 unfold c_Z46
 repeat' first|exact bnd_tail|exact bnd_none|exact bnd_leaf|apply bnd_ite|apply bnd_cond|apply bnd_sum|(apply bnd_bind;intro _)|intro _
def n_Z46 : Nat → Int → List D → Int → Int → Option (Int)
 | 0, _, _, _, _ => none
 | n + 1, x0, x1, x2, x3 => c_Z46 (n_Z46 n) x0 x1 x2 x3 some
noncomputable def Z46 (x0 : Int) (x1 : List D) (x2 : Int) (x3 : Int) : Option (Int) := ev (fun n => n_Z46 n x0 x1 x2 x3)
def m_Z46 (F : Int → List D → Int → Int → Option (Int)) : Lent := ⟨3, ⟨(.undef :: .undef :: .undef :: .int .i64 :: .undef :: .undef :: .rd (.int .i64) :: .int .i64 :: .int .i64 :: uu 8 ([])), []⟩, [(.exit 0, ⟨(.undef :: .undef :: .undef :: .int .i64 :: uu 13 ([])), []⟩)], fun _ ds k => dI (fun x0 ds => dL (fun x1 ds => dI (fun x2 ds => dI (fun x3 ds => dE ((F x0 x1 x2 x3).bind (fun y => k 0 [.I y])) ds) ds) ds) ds) ds⟩
theorem q_Z46 (F : Int → List D → Int → Int → Option (Int)) (x0 : Int) (x1 : List D) (x2 : Int) (x3 : Int) : runLoop (ocOf []) (olOf [m_Z46 F]) A 84 (codeAt (bodyOf Try.f84) 3) ((m_Z46 F).sh.mk' [.I x0, .L x1, .I x2, .I x3]) (fun e σ' => some (e, σ')) = c_Z46 F x0 x1 x2 x3 (fun y => some (.exit 0, SSt.mk' ⟨(.undef :: .undef :: .undef :: .int .i64 :: uu 13 ([])), []⟩ [.I y])) := by kernel_rfl
theorem m_Z46_ok : ∀ n, (m_Z46 (n_Z46 n)).ok Try.prog (codeAt (bodyOf Try.f84) 3) := by
 intro n
 induction n with
 | zero =>
  intro R ds k r h
  unfold m_Z46 at h
  obtain ⟨x0, d0, rfl, h0⟩ := dI_some h
  obtain ⟨x1, d1, rfl, h1⟩ := dL_some h0
  obtain ⟨x2, d2, rfl, h2⟩ := dI_some h1
  obtain ⟨x3, d3, rfl, h3⟩ := dI_some h2
  obtain ⟨rfl, hE⟩ := dE_some h3
  obtain ⟨y, hy, hk⟩ := bnd_some hE
  cases hy
 | succ n ih =>
  intro R ds k r h
  unfold m_Z46 at h
  obtain ⟨x0, d0, rfl, h0⟩ := dI_some h
  obtain ⟨x1, d1, rfl, h1⟩ := dL_some h0
  obtain ⟨x2, d2, rfl, h2⟩ := dI_some h1
  obtain ⟨x3, d3, rfl, h3⟩ := dI_some h2
  obtain ⟨rfl, hE⟩ := dE_some h3
  obtain ⟨y, hy, hk⟩ := bnd_some hE
  have hq := q_Z46 (n_Z46 n) x0 x1 x2 x3
  rw [c_Z46_bind] at hq
  rw [show c_Z46 (n_Z46 n) x0 x1 x2 x3 some = some y from hy] at hq
  refine ⟨0, _, _, _, hk, rfl, loop_ok px (fx := ⟨Try.func84, by kernel_rfl, by kernel_rfl⟩) entsOK_nil (lentsOK_cons ih lentsOK_nil) (by kernel_rfl) ?_⟩
  exact hq
noncomputable def e_Z46 : Lent := m_Z46 (Z46)
theorem e_Z46_ok : (e_Z46).ok Try.prog (codeAt (bodyOf Try.f84) 3) := by
 intro R ds k r h
 unfold e_Z46 m_Z46 at h
 obtain ⟨x0, d0, rfl, h0⟩ := dI_some h
 obtain ⟨x1, d1, rfl, h1⟩ := dL_some h0
 obtain ⟨x2, d2, rfl, h2⟩ := dI_some h1
 obtain ⟨x3, d3, rfl, h3⟩ := dI_some h2
 obtain ⟨rfl, hE⟩ := dE_some h3
 obtain ⟨y, hy, hk⟩ := bnd_some hE
 obtain ⟨n, hn⟩ := ev_some hy
 exact m_Z46_ok n R _ k r (show (n_Z46 n x0 x1 x2 x3).bind _ = _ by rw [hn]; exact hk)

/-!-/
def c_Z47 {R : Type} (x0 : List D) (k : Int → Option R) : Option R :=
 (Z46 (0 : Int) x0 (↑x0.length : Int) (0 : Int)).bind (fun y0 =>
 k y0)
theorem c_Z47_bind {R : Type} (x0 : List D) (k : Int → Option R) : c_Z47 x0 k = (c_Z47 x0 some).bind k := by
 unfold c_Z47
 repeat' first|exact bnd_tail|exact bnd_none|exact bnd_leaf|apply bnd_ite|apply bnd_cond|apply bnd_sum|(apply bnd_bind;intro _)|intro _
def Z47 (x0 : List D) : Option (Int) := c_Z47 x0 some
def e_Z47 : Ent := ⟨84, [.rd (.int .i64)], .int .i64, [.undef], fun _ ds k => dL (fun x0 ds => dE ((Z47 x0).bind (fun y => k [.I y])) ds) ds⟩
theorem q_Z47 (x0 : List D) : runFn (ocOf []) (olOf [e_Z46]) A 84 Try.f84 (Sh.mks e_Z47.sh [.L x0]).1 (fun v os => some (v, os)) = c_Z47 x0 (fun y => some ((e_Z47.res.mk [.I y]).1, (Sh.mks e_Z47.outs (e_Z47.res.mk [.I y]).2).1)) := by kernel_rfl
theorem e_Z47_ok : e_Z47.ok Try.prog A := by
 intro R ds k r h
 unfold e_Z47 at h
 obtain ⟨x0, d0, rfl, h0⟩ := dL_some h
 obtain ⟨rfl, hE⟩ := dE_some h0
 obtain ⟨y, hy, hk⟩ := bnd_some hE
 refine ⟨_, hk, fn_ok px (fx := ⟨Try.func84, by kernel_rfl, by kernel_rfl⟩) entsOK_nil (lentsOK_cons e_Z46_ok lentsOK_nil) ?_⟩
 have hq := q_Z47 x0
 rw [c_Z47_bind] at hq
 rw [show c_Z47 x0 some = some y from hy] at hq
 exact hq

/-!-/
def c_Z48 {R : Type} (x0 : Int) (x1 : List D) (k : Int → Option R) : Option R :=
 (Z47 x1).bind (fun y0 =>
 k y0)
theorem c_Z48_bind {R : Type} (x0 : Int) (x1 : List D) (k : Int → Option R) : c_Z48 x0 x1 k = (c_Z48 x0 x1 some).bind k := by
 unfold c_Z48
 repeat' first|exact bnd_tail|exact bnd_none|exact bnd_leaf|apply bnd_ite|apply bnd_cond|apply bnd_sum|(apply bnd_bind;intro _)|intro _
def Z48 (x0 : Int) (x1 : List D) : Option (Int) := c_Z48 x0 x1 some
def e_Z48 : Ent := ⟨85, [.agg [.int .i64, .rd (.int .i64)]], .int .i64, [.undef], fun _ ds k => dI (fun x0 ds => dL (fun x1 ds => dE ((Z48 x0 x1).bind (fun y => k [.I y])) ds) ds) ds⟩
theorem q_Z48 (x0 : Int) (x1 : List D) : runFn (ocOf [e_Z47]) (olOf []) A 85 Try.f85 (Sh.mks e_Z48.sh [.I x0, .L x1]).1 (fun v os => some (v, os)) = c_Z48 x0 x1 (fun y => some ((e_Z48.res.mk [.I y]).1, (Sh.mks e_Z48.outs (e_Z48.res.mk [.I y]).2).1)) := by kernel_rfl
theorem e_Z48_ok : e_Z48.ok Try.prog A := by
 intro R ds k r h
 unfold e_Z48 at h
 obtain ⟨x0, d0, rfl, h0⟩ := dI_some h
 obtain ⟨x1, d1, rfl, h1⟩ := dL_some h0
 obtain ⟨rfl, hE⟩ := dE_some h1
 obtain ⟨y, hy, hk⟩ := bnd_some hE
 refine ⟨_, hk, fn_ok px (fx := ⟨Try.func85, by kernel_rfl, by kernel_rfl⟩) (entsOK_cons e_Z47_ok entsOK_nil) lentsOK_nil ?_⟩
 have hq := q_Z48 x0 x1
 rw [c_Z48_bind] at hq
 rw [show c_Z48 x0 x1 some = some y from hy] at hq
 exact hq

/-!-/
def c_Z49 {R : Type} (x0 : Int) (x1 : List D) (x2 : Int) (k : Int × Int × Bool → Option R) : Option R :=
 (Z26 x0 x1).bind (fun y0 =>
 bif !y0 then
 k ((0 : Int), (0 : Int), Bool.false)
 else
 (Z8 x2).bind (fun y1 =>
 bif !y1 then
 k ((0 : Int), (0 : Int), Bool.false)
 else
 (Z45 x0 x1 x2).bind (fun y2 =>
 (Z48 x0 x1).bind (fun y3 =>
 k (y2, y3, Bool.true)))))
theorem c_Z49_bind {R : Type} (x0 : Int) (x1 : List D) (x2 : Int) (k : Int × Int × Bool → Option R) : c_Z49 x0 x1 x2 k = (c_Z49 x0 x1 x2 some).bind k := by
 unfold c_Z49
 repeat' first|exact bnd_tail|exact bnd_none|exact bnd_leaf|apply bnd_ite|apply bnd_cond|apply bnd_sum|(apply bnd_bind;intro _)|intro _
def Z49 (x0 : Int) (x1 : List D) (x2 : Int) : Option (Int × Int × Bool) := c_Z49 x0 x1 x2 some
def e_Z49 : Ent := ⟨25, [.agg [.int .i64, .rd (.int .i64)], .int .i64], .tup [.int .i64, .int .i64, .bool], [.undef, .undef], fun _ ds k => dI (fun x0 ds => dL (fun x1 ds => dI (fun x2 ds => dE ((Z49 x0 x1 x2).bind (fun y => k [.I y.1, .I y.2.1, .B y.2.2])) ds) ds) ds) ds⟩
theorem q_Z49 (x0 : Int) (x1 : List D) (x2 : Int) : runFn (ocOf [e_Z26, e_Z8, e_Z45, e_Z48]) (olOf []) A 25 Try.f25 (Sh.mks e_Z49.sh [.I x0, .L x1, .I x2]).1 (fun v os => some (v, os)) = c_Z49 x0 x1 x2 (fun y => some ((e_Z49.res.mk [.I y.1, .I y.2.1, .B y.2.2]).1, (Sh.mks e_Z49.outs (e_Z49.res.mk [.I y.1, .I y.2.1, .B y.2.2]).2).1)) := by kernel_rfl
theorem e_Z49_ok : e_Z49.ok Try.prog A := by
 intro R ds k r h
 unfold e_Z49 at h
 obtain ⟨x0, d0, rfl, h0⟩ := dI_some h
 obtain ⟨x1, d1, rfl, h1⟩ := dL_some h0
 obtain ⟨x2, d2, rfl, h2⟩ := dI_some h1
 obtain ⟨rfl, hE⟩ := dE_some h2
 obtain ⟨y, hy, hk⟩ := bnd_some hE
 refine ⟨_, hk, fn_ok px (fx := ⟨Try.func25, by kernel_rfl, by kernel_rfl⟩) (entsOK_cons e_Z26_ok (entsOK_cons e_Z8_ok (entsOK_cons e_Z45_ok (entsOK_cons e_Z48_ok entsOK_nil)))) lentsOK_nil ?_⟩
 have hq := q_Z49 x0 x1 x2
 rw [c_Z49_bind] at hq
 rw [show c_Z49 x0 x1 x2 some = some y from hy] at hq
 exact hq

/-!-/
def c_Z50 {R : Type} (F : List D → Int → Int → Int → List D → Int → Int → List D → Option ((List D × Bool) ⊕ (List D))) (x0 : List D) (x1 : Int) (x2 : Int) (x3 : Int) (x4 : List D) (x5 : Int) (x6 : Int) (x7 : List D) (k : (List D × Bool) ⊕ (List D) → Option R) : Option R :=
 bif decide (x3 < (↑x4.length : Int)) then
 (Z49 x5 x7 (IntKind.i64.wrap (x1 + x3))).bind (fun y0 =>
 bif !y0.snd.snd then
 k (.inl (x0, Bool.false))
 else
 if 0 ≤ x3 ∧ x3 < (↑x4.length : Int) then
 if x3.toNat + 1 ≤ x4.length then
 bif !decide (y0.fst = (0 : Int)) == decide ((x4.getD x3.toNat (D.int 0)).toInt = (0 : Int)) then
 k (.inl (x0, Bool.false))
 else
 bif decide ((0 : Int) < y0.fst) then
 bif decide (x2 = (0 : Int)) then
 if 0 ≤ x3 ∧ x3 < (↑x4.length : Int) then
 if x3.toNat + 1 ≤ x4.length then
 if y0.fst ≠ (0 : Int) then
 if 0 ≤ x3 ∧ x3 < (↑x4.length : Int) then
 if x3.toNat + 1 ≤ x4.length then
 bif !decide (IntKind.i64.wrap (y0.fst * IntKind.i64.wrap ((x4.getD x3.toNat (D.int 0)).toInt.tdiv y0.fst)) = (x4.getD x3.toNat (D.int 0)).toInt) then
 k (.inl (x0, Bool.false))
 else
 (F x0 x1 (IntKind.i64.wrap ((x4.getD x3.toNat (D.int 0)).toInt.tdiv y0.fst)) (IntKind.i64.wrap (x3 + 1)) x4 x5 x6 x7).bind k
 else
 none
 else
 none
 else
 none
 else
 none
 else
 none
 else
 if 0 ≤ x3 ∧ x3 < (↑x4.length : Int) then
 if x3.toNat + 1 ≤ x4.length then
 bif !decide (IntKind.i64.wrap (y0.fst * x2) = (x4.getD x3.toNat (D.int 0)).toInt) then
 k (.inl (x0, Bool.false))
 else
 (F x0 x1 x2 (IntKind.i64.wrap (x3 + 1)) x4 x5 x6 x7).bind k
 else
 none
 else
 none
 else
 if 0 ≤ x3 ∧ x3 < (↑x4.length : Int) then
 if x3.toNat + 1 ≤ x4.length then
 bif !decide (IntKind.i64.wrap (y0.fst * x2) = (x4.getD x3.toNat (D.int 0)).toInt) then
 k (.inl (x0, Bool.false))
 else
 (F x0 x1 x2 (IntKind.i64.wrap (x3 + 1)) x4 x5 x6 x7).bind k
 else
 none
 else
 none
 else
 none
 else
 none)
 else
 k (.inr x0)
theorem c_Z50_bind {R : Type} (F : List D → Int → Int → Int → List D → Int → Int → List D → Option ((List D × Bool) ⊕ (List D))) (x0 : List D) (x1 : Int) (x2 : Int) (x3 : Int) (x4 : List D) (x5 : Int) (x6 : Int) (x7 : List D) (k : (List D × Bool) ⊕ (List D) → Option R) : c_Z50 F x0 x1 x2 x3 x4 x5 x6 x7 k = (c_Z50 F x0 x1 x2 x3 x4 x5 x6 x7 some).bind k := by
 unfold c_Z50
 repeat' first|exact bnd_tail|exact bnd_none|exact bnd_leaf|apply bnd_ite|apply bnd_cond|apply bnd_sum|(apply bnd_bind;intro _)|intro _
def n_Z50 : Nat → List D → Int → Int → Int → List D → Int → Int → List D → Option ((List D × Bool) ⊕ (List D))
 | 0, _, _, _, _, _, _, _, _ => none
 | n + 1, x0, x1, x2, x3, x4, x5, x6, x7 => c_Z50 (n_Z50 n) x0 x1 x2 x3 x4 x5 x6 x7 some
noncomputable def Z50 (x0 : List D) (x1 : Int) (x2 : Int) (x3 : Int) (x4 : List D) (x5 : Int) (x6 : Int) (x7 : List D) : Option ((List D × Bool) ⊕ (List D)) := ev (fun n => n_Z50 n x0 x1 x2 x3 x4 x5 x6 x7)
def m_Z50 (F : List D → Int → Int → Int → List D → Int → Int → List D → Option ((List D × Bool) ⊕ (List D))) : Lent := ⟨13, ⟨(.rd (.int .u8) :: .undef :: .undef :: .int .i64 :: .full 1000 [] (.int .i64) :: .ptr 1001 [0] :: .undef :: .undef :: .undef :: .int .i64 :: .int .i64 :: uu 130 ([])), [(1000, .own (.int .i64)), (1001, .obox (.agg [.int .i64, .full 1002 [1] (.int .i64)])), (1002, .agg [.int .i64, .own (.int .i64)])]⟩, [(.ret, ⟨(.rd (.int .u8) :: .undef :: .bool :: uu 138 ([])), []⟩), (.exit 0, ⟨(.rd (.int .u8) :: uu 140 ([])), []⟩)], fun _ ds k => dL (fun x0 ds => dI (fun x1 ds => dI (fun x2 ds => dI (fun x3 ds => dL (fun x4 ds => dI (fun x5 ds => dI (fun x6 ds => dL (fun x7 ds => dE ((F x0 x1 x2 x3 x4 x5 x6 x7).bind (Sum.elim (fun y => k 0 [.L y.1, .B y.2]) (fun y => k 1 [.L y]))) ds) ds) ds) ds) ds) ds) ds) ds) ds⟩
theorem q_Z50 (F : List D → Int → Int → Int → List D → Int → Int → List D → Option ((List D × Bool) ⊕ (List D))) (x0 : List D) (x1 : Int) (x2 : Int) (x3 : Int) (x4 : List D) (x5 : Int) (x6 : Int) (x7 : List D) : runLoop (ocOf [e_Z49]) (olOf [m_Z50 F]) A 5 (codeAt (bodyOf Try.f5) 13) ((m_Z50 F).sh.mk' [.L x0, .I x1, .I x2, .I x3, .L x4, .I x5, .I x6, .L x7]) (fun e σ' => some (e, σ')) = c_Z50 F x0 x1 x2 x3 x4 x5 x6 x7 (Sum.elim (fun y => some (.ret, SSt.mk' ⟨(.rd (.int .u8) :: .undef :: .bool :: uu 138 ([])), []⟩ [.L y.1, .B y.2])) (fun y => some (.exit 0, SSt.mk' ⟨(.rd (.int .u8) :: uu 140 ([])), []⟩ [.L y]))) := by kernel_rfl
theorem m_Z50_ok : ∀ n, (m_Z50 (n_Z50 n)).ok Try.prog (codeAt (bodyOf Try.f5) 13) := by
 intro n
 induction n with
 | zero =>
  intro R ds k r h
  unfold m_Z50 at h
  obtain ⟨x0, d0, rfl, h0⟩ := dL_some h
  obtain ⟨x1, d1, rfl, h1⟩ := dI_some h0
  obtain ⟨x2, d2, rfl, h2⟩ := dI_some h1
  obtain ⟨x3, d3, rfl, h3⟩ := dI_some h2
  obtain ⟨x4, d4, rfl, h4⟩ := dL_some h3
  obtain ⟨x5, d5, rfl, h5⟩ := dI_some h4
  obtain ⟨x6, d6, rfl, h6⟩ := dI_some h5
  obtain ⟨x7, d7, rfl, h7⟩ := dL_some h6
  obtain ⟨rfl, hE⟩ := dE_some h7
  obtain ⟨y, hy, hk⟩ := bnd_some hE
  cases hy
 | succ n ih =>
  intro R ds k r h
  unfold m_Z50 at h
  obtain ⟨x0, d0, rfl, h0⟩ := dL_some h
  obtain ⟨x1, d1, rfl, h1⟩ := dI_some h0
  obtain ⟨x2, d2, rfl, h2⟩ := dI_some h1
  obtain ⟨x3, d3, rfl, h3⟩ := dI_some h2
  obtain ⟨x4, d4, rfl, h4⟩ := dL_some h3
  obtain ⟨x5, d5, rfl, h5⟩ := dI_some h4
  obtain ⟨x6, d6, rfl, h6⟩ := dI_some h5
  obtain ⟨x7, d7, rfl, h7⟩ := dL_some h6
  obtain ⟨rfl, hE⟩ := dE_some h7
  obtain ⟨y, hy, hk⟩ := bnd_some hE
  have hq := q_Z50 (n_Z50 n) x0 x1 x2 x3 x4 x5 x6 x7
  rw [c_Z50_bind] at hq
  rw [show c_Z50 (n_Z50 n) x0 x1 x2 x3 x4 x5 x6 x7 some = some y from hy] at hq
  cases y with
  | inl y =>
   refine ⟨0, _, _, _, hk, rfl, loop_ok px (fx := ⟨Try.func5, by kernel_rfl, by kernel_rfl⟩) (entsOK_cons e_Z49_ok entsOK_nil) (lentsOK_cons ih lentsOK_nil) (by kernel_rfl) ?_⟩
   exact hq
  | inr y =>
   refine ⟨1, _, _, _, hk, rfl, loop_ok px (fx := ⟨Try.func5, by kernel_rfl, by kernel_rfl⟩) (entsOK_cons e_Z49_ok entsOK_nil) (lentsOK_cons ih lentsOK_nil) (by kernel_rfl) ?_⟩
   exact hq
noncomputable def e_Z50 : Lent := m_Z50 (Z50)
theorem e_Z50_ok : (e_Z50).ok Try.prog (codeAt (bodyOf Try.f5) 13) := by
 intro R ds k r h
 unfold e_Z50 m_Z50 at h
 obtain ⟨x0, d0, rfl, h0⟩ := dL_some h
 obtain ⟨x1, d1, rfl, h1⟩ := dI_some h0
 obtain ⟨x2, d2, rfl, h2⟩ := dI_some h1
 obtain ⟨x3, d3, rfl, h3⟩ := dI_some h2
 obtain ⟨x4, d4, rfl, h4⟩ := dL_some h3
 obtain ⟨x5, d5, rfl, h5⟩ := dI_some h4
 obtain ⟨x6, d6, rfl, h6⟩ := dI_some h5
 obtain ⟨x7, d7, rfl, h7⟩ := dL_some h6
 obtain ⟨rfl, hE⟩ := dE_some h7
 obtain ⟨y, hy, hk⟩ := bnd_some hE
 obtain ⟨n, hn⟩ := ev_some hy
 exact m_Z50_ok n R _ k r (show (n_Z50 n x0 x1 x2 x3 x4 x5 x6 x7).bind _ = _ by rw [hn]; exact hk)

/-!-/
def c_Z51 {R : Type} (F : Int → Int → List D → Int → Int → Int → List D → Option (Int × List D × Int × Int × Int × List D)) (x0 : Int) (x1 : Int) (x2 : List D) (x3 : Int) (x4 : Int) (x5 : Int) (x6 : List D) (k : Int × List D × Int × Int × Int × List D → Option R) : Option R :=
 bif decide ((0 : Int) < x1) then
 (Z3 x2 x3 x4 ([D.int 0, D.int (1 : Int), D.int (1 : Int), D.int (2 : Int), D.int (3 : Int), D.int (5 : Int), D.int (10 : Int)])).bind (fun y0 =>
 if x6.length + [D.int y0.fst].length ≤ (4294967296 : Nat) then
 (F x0 (IntKind.i64.wrap (x1 - 1)) y0.snd.fst y0.snd.snd.fst y0.snd.snd.snd x5 (x6 ++ [D.int y0.fst])).bind k
 else
 none)
 else
 k (x0, x2, x3, x4, x5, x6)
theorem c_Z51_bind {R : Type} (F : Int → Int → List D → Int → Int → Int → List D → Option (Int × List D × Int × Int × Int × List D)) (x0 : Int) (x1 : Int) (x2 : List D) (x3 : Int) (x4 : Int) (x5 : Int) (x6 : List D) (k : Int × List D × Int × Int × Int × List D → Option R) : c_Z51 F x0 x1 x2 x3 x4 x5 x6 k = (c_Z51 F x0 x1 x2 x3 x4 x5 x6 some).bind k := by
 unfold c_Z51
 repeat' first|exact bnd_tail|exact bnd_none|exact bnd_leaf|apply bnd_ite|apply bnd_cond|apply bnd_sum|(apply bnd_bind;intro _)|intro _
def n_Z51 : Nat → Int → Int → List D → Int → Int → Int → List D → Option (Int × List D × Int × Int × Int × List D)
 | 0, _, _, _, _, _, _, _ => none
 | n + 1, x0, x1, x2, x3, x4, x5, x6 => c_Z51 (n_Z51 n) x0 x1 x2 x3 x4 x5 x6 some
noncomputable def Z51 (x0 : Int) (x1 : Int) (x2 : List D) (x3 : Int) (x4 : Int) (x5 : Int) (x6 : List D) : Option (Int × List D × Int × Int × Int × List D) := ev (fun n => n_Z51 n x0 x1 x2 x3 x4 x5 x6)
def m_Z51 (F : Int → Int → List D → Int → Int → Int → List D → Option (Int × List D × Int × Int × Int × List D)) : Lent := ⟨3, ⟨(.ptr 1000 [0] :: .int .i64 :: .undef :: .undef :: .ptr 1001 [0] :: .full 1002 [] (.int .i64) :: .int .i64 :: uu 32 ([])), [(1000, .obox (.agg [.rd (.int .u8), .int .i64, .int .u64])), (1001, .obox (.agg [.int .i64, .nilsl])), (1002, .own (.int .i64))]⟩, [(.exit 0, ⟨(.ptr 1000 [0] :: .int .i64 :: .undef :: .undef :: .ptr 1001 [0] :: .full 1002 [] (.int .i64) :: uu 33 ([])), [(1000, .obox (.agg [.rd (.int .u8), .int .i64, .int .u64])), (1001, .obox (.agg [.int .i64, .nilsl])), (1002, .own (.int .i64))]⟩)], fun _ ds k => dI (fun x0 ds => dI (fun x1 ds => dL (fun x2 ds => dI (fun x3 ds => dI (fun x4 ds => dI (fun x5 ds => dL (fun x6 ds => dE ((F x0 x1 x2 x3 x4 x5 x6).bind (fun y => k 0 [.I y.1, .L y.2.1, .I y.2.2.1, .I y.2.2.2.1, .I y.2.2.2.2.1, .L y.2.2.2.2.2])) ds) ds) ds) ds) ds) ds) ds) ds⟩
theorem q_Z51 (F : Int → Int → List D → Int → Int → Int → List D → Option (Int × List D × Int × Int × Int × List D)) (x0 : Int) (x1 : Int) (x2 : List D) (x3 : Int) (x4 : Int) (x5 : Int) (x6 : List D) : runLoop (ocOf [e_Z3]) (olOf [m_Z51 F]) A 154 (codeAt (bodyOf Try.f154) 3) ((m_Z51 F).sh.mk' [.I x0, .I x1, .L x2, .I x3, .I x4, .I x5, .L x6]) (fun e σ' => some (e, σ')) = c_Z51 F x0 x1 x2 x3 x4 x5 x6 (fun y => some (.exit 0, SSt.mk' ⟨(.ptr 1000 [0] :: .int .i64 :: .undef :: .undef :: .ptr 1001 [0] :: .full 1002 [] (.int .i64) :: uu 33 ([])), [(1000, .obox (.agg [.rd (.int .u8), .int .i64, .int .u64])), (1001, .obox (.agg [.int .i64, .nilsl])), (1002, .own (.int .i64))]⟩ [.I y.1, .L y.2.1, .I y.2.2.1, .I y.2.2.2.1, .I y.2.2.2.2.1, .L y.2.2.2.2.2])) := by kernel_rfl
theorem m_Z51_ok : ∀ n, (m_Z51 (n_Z51 n)).ok Try.prog (codeAt (bodyOf Try.f154) 3) := by
 intro n
 induction n with
 | zero =>
  intro R ds k r h
  unfold m_Z51 at h
  obtain ⟨x0, d0, rfl, h0⟩ := dI_some h
  obtain ⟨x1, d1, rfl, h1⟩ := dI_some h0
  obtain ⟨x2, d2, rfl, h2⟩ := dL_some h1
  obtain ⟨x3, d3, rfl, h3⟩ := dI_some h2
  obtain ⟨x4, d4, rfl, h4⟩ := dI_some h3
  obtain ⟨x5, d5, rfl, h5⟩ := dI_some h4
  obtain ⟨x6, d6, rfl, h6⟩ := dL_some h5
  obtain ⟨rfl, hE⟩ := dE_some h6
  obtain ⟨y, hy, hk⟩ := bnd_some hE
  cases hy
 | succ n ih =>
  intro R ds k r h
  unfold m_Z51 at h
  obtain ⟨x0, d0, rfl, h0⟩ := dI_some h
  obtain ⟨x1, d1, rfl, h1⟩ := dI_some h0
  obtain ⟨x2, d2, rfl, h2⟩ := dL_some h1
  obtain ⟨x3, d3, rfl, h3⟩ := dI_some h2
  obtain ⟨x4, d4, rfl, h4⟩ := dI_some h3
  obtain ⟨x5, d5, rfl, h5⟩ := dI_some h4
  obtain ⟨x6, d6, rfl, h6⟩ := dL_some h5
  obtain ⟨rfl, hE⟩ := dE_some h6
  obtain ⟨y, hy, hk⟩ := bnd_some hE
  have hq := q_Z51 (n_Z51 n) x0 x1 x2 x3 x4 x5 x6
  rw [c_Z51_bind] at hq
  rw [show c_Z51 (n_Z51 n) x0 x1 x2 x3 x4 x5 x6 some = some y from hy] at hq
  refine ⟨0, _, _, _, hk, rfl, loop_ok px (fx := ⟨Try.func154, by kernel_rfl, by kernel_rfl⟩) (entsOK_cons e_Z3_ok entsOK_nil) (lentsOK_cons ih lentsOK_nil) (by kernel_rfl) ?_⟩
  exact hq
noncomputable def e_Z51 : Lent := m_Z51 (Z51)
theorem e_Z51_ok : (e_Z51).ok Try.prog (codeAt (bodyOf Try.f154) 3) := by
 intro R ds k r h
 unfold e_Z51 m_Z51 at h
 obtain ⟨x0, d0, rfl, h0⟩ := dI_some h
 obtain ⟨x1, d1, rfl, h1⟩ := dI_some h0
 obtain ⟨x2, d2, rfl, h2⟩ := dL_some h1
 obtain ⟨x3, d3, rfl, h3⟩ := dI_some h2
 obtain ⟨x4, d4, rfl, h4⟩ := dI_some h3
 obtain ⟨x5, d5, rfl, h5⟩ := dI_some h4
 obtain ⟨x6, d6, rfl, h6⟩ := dL_some h5
 obtain ⟨rfl, hE⟩ := dE_some h6
 obtain ⟨y, hy, hk⟩ := bnd_some hE
 obtain ⟨n, hn⟩ := ev_some hy
 exact m_Z51_ok n R _ k r (show (n_Z51 n x0 x1 x2 x3 x4 x5 x6).bind _ = _ by rw [hn]; exact hk)

/-!-/
def c_Z52 {R : Type} (x0 : List D) (x1 : Int) (x2 : Int) (x3 : Int) (k : Int × List D × List D × Int × Int → Option R) : Option R :=
 (Z2 x0 x1 x2 (8 : Int)).bind (fun y0 =>
 (Z51 x3 (IntKind.i64.wrap ((1 : Int) + y0.fst)) y0.snd.fst y0.snd.snd.fst y0.snd.snd.snd (0 : Int) []).bind (fun y1 =>
 (Z2 y1.snd.fst y1.snd.snd.fst y1.snd.snd.snd.fst (9 : Int)).bind (fun y2 =>
 (Z40 (IntKind.i64.wrap (IntKind.i64.wrap (y1.fst + y2.fst) - (4 : Int))) y1.snd.snd.snd.snd.snd).bind (fun y3 =>
 bif !y3.snd.snd then
 k (y1.fst, [D.int (1 : Int)], y2.snd.fst, y2.snd.snd.fst, y2.snd.snd.snd)
 else
 k (y3.fst, y3.snd.fst, y2.snd.fst, y2.snd.snd.fst, y2.snd.snd.snd)))))
theorem c_Z52_bind {R : Type} (x0 : List D) (x1 : Int) (x2 : Int) (x3 : Int) (k : Int × List D × List D × Int × Int → Option R) : c_Z52 x0 x1 x2 x3 k = (c_Z52 x0 x1 x2 x3 some).bind k := by
 unfold c_Z52
 repeat' first|exact bnd_tail|exact bnd_none|exact bnd_leaf|apply bnd_ite|apply bnd_cond|apply bnd_sum|(apply bnd_bind;intro _)|intro _
def Z52 (x0 : List D) (x1 : Int) (x2 : Int) (x3 : Int) : Option (Int × List D × List D × Int × Int) := c_Z52 x0 x1 x2 x3 some
def e_Z52 : Ent := ⟨154, [.obox (.agg [.rd (.int .u8), .int .i64, .int .u64]), .int .i64], .agg [.int .i64, .own (.int .i64)], [.obox (.agg [.rd (.int .u8), .int .i64, .int .u64]), .undef], fun _ ds k => dL (fun x0 ds => dI (fun x1 ds => dI (fun x2 ds => dI (fun x3 ds => dE ((Z52 x0 x1 x2 x3).bind (fun y => k [.I y.1, .L y.2.1, .L y.2.2.1, .I y.2.2.2.1, .I y.2.2.2.2])) ds) ds) ds) ds) ds⟩
theorem q_Z52 (x0 : List D) (x1 : Int) (x2 : Int) (x3 : Int) : runFn (ocOf [e_Z2, e_Z40]) (olOf [e_Z51]) A 154 Try.f154 (Sh.mks e_Z52.sh [.L x0, .I x1, .I x2, .I x3]).1 (fun v os => some (v, os)) = c_Z52 x0 x1 x2 x3 (fun y => some ((e_Z52.res.mk [.I y.1, .L y.2.1, .L y.2.2.1, .I y.2.2.2.1, .I y.2.2.2.2]).1, (Sh.mks e_Z52.outs (e_Z52.res.mk [.I y.1, .L y.2.1, .L y.2.2.1, .I y.2.2.2.1, .I y.2.2.2.2]).2).1)) := by kernel_rfl
theorem e_Z52_ok : e_Z52.ok Try.prog A := by
 intro R ds k r h
 unfold e_Z52 at h
 obtain ⟨x0, d0, rfl, h0⟩ := dL_some h
 obtain ⟨x1, d1, rfl, h1⟩ := dI_some h0
 obtain ⟨x2, d2, rfl, h2⟩ := dI_some h1
 obtain ⟨x3, d3, rfl, h3⟩ := dI_some h2
 obtain ⟨rfl, hE⟩ := dE_some h3
 obtain ⟨y, hy, hk⟩ := bnd_some hE
 refine ⟨_, hk, fn_ok px (fx := ⟨Try.func154, by kernel_rfl, by kernel_rfl⟩) (entsOK_cons e_Z2_ok (entsOK_cons e_Z40_ok entsOK_nil)) (lentsOK_cons e_Z51_ok lentsOK_nil) ?_⟩
 have hq := q_Z52 x0 x1 x2 x3
 rw [c_Z52_bind] at hq
 rw [show c_Z52 x0 x1 x2 x3 some = some y from hy] at hq
 exact hq

/-!-/
def c_Z53 {R : Type} (F : List D → Int → Int → Int → Int → List D → Option (List D × Int × Int × Int × Int × List D)) (x0 : List D) (x1 : Int) (x2 : Int) (x3 : Int) (x4 : Int) (x5 : List D) (k : List D × Int × Int × Int × Int × List D → Option R) : Option R :=
 (Z2 x0 x1 x2 (2 : Int)).bind (fun y0 =>
 bif decide ((↑x5.length : Int) < IntKind.i64.wrap ((60 : Int) + y0.fst)) then
 if x5.length + [D.int (1 : Int)].length ≤ (4294967296 : Nat) then
 (F y0.snd.fst y0.snd.snd.fst y0.snd.snd.snd x3 x4 (x5 ++ [D.int (1 : Int)])).bind k
 else
 none
 else
 k (y0.snd.fst, y0.snd.snd.fst, y0.snd.snd.snd, x3, x4, x5))
theorem c_Z53_bind {R : Type} (F : List D → Int → Int → Int → Int → List D → Option (List D × Int × Int × Int × Int × List D)) (x0 : List D) (x1 : Int) (x2 : Int) (x3 : Int) (x4 : Int) (x5 : List D) (k : List D × Int × Int × Int × Int × List D → Option R) : c_Z53 F x0 x1 x2 x3 x4 x5 k = (c_Z53 F x0 x1 x2 x3 x4 x5 some).bind k := by
 unfold c_Z53
 repeat' first|exact bnd_tail|exact bnd_none|exact bnd_leaf|apply bnd_ite|apply bnd_cond|apply bnd_sum|(apply bnd_bind;intro _)|intro _
def n_Z53 : Nat → List D → Int → Int → Int → Int → List D → Option (List D × Int × Int × Int × Int × List D)
 | 0, _, _, _, _, _, _ => none
 | n + 1, x0, x1, x2, x3, x4, x5 => c_Z53 (n_Z53 n) x0 x1 x2 x3 x4 x5 some
noncomputable def Z53 (x0 : List D) (x1 : Int) (x2 : Int) (x3 : Int) (x4 : Int) (x5 : List D) : Option (List D × Int × Int × Int × Int × List D) := ev (fun n => n_Z53 n x0 x1 x2 x3 x4 x5)
def m_Z53 (F : List D → Int → Int → Int → Int → List D → Option (List D × Int × Int × Int × Int × List D)) : Lent := ⟨12, ⟨(.ptr 1000 [0] :: .undef :: .undef :: .undef :: .ptr 1001 [0] :: .ptr 1002 [0] :: uu 44 ([])), [(1000, .obox (.agg [.rd (.int .u8), .int .i64, .int .u64])), (1001, .obox (.agg [.int .i64, .nilsl])), (1002, .obox (.agg [.int .i64, .full 1003 [] (.int .i64)])), (1003, .own (.int .i64))]⟩, [(.exit 1, ⟨(.ptr 1000 [0] :: .undef :: .undef :: .undef :: .ptr 1001 [0] :: .ptr 1002 [0] :: uu 44 ([])), [(1000, .obox (.agg [.rd (.int .u8), .int .i64, .int .u64])), (1001, .obox (.agg [.int .i64, .nilsl])), (1002, .obox (.agg [.int .i64, .full 1003 [] (.int .i64)])), (1003, .own (.int .i64))]⟩)], fun _ ds k => dL (fun x0 ds => dI (fun x1 ds => dI (fun x2 ds => dI (fun x3 ds => dI (fun x4 ds => dL (fun x5 ds => dE ((F x0 x1 x2 x3 x4 x5).bind (fun y => k 0 [.L y.1, .I y.2.1, .I y.2.2.1, .I y.2.2.2.1, .I y.2.2.2.2.1, .L y.2.2.2.2.2])) ds) ds) ds) ds) ds) ds) ds⟩
theorem q_Z53 (F : List D → Int → Int → Int → Int → List D → Option (List D × Int × Int × Int × Int × List D)) (x0 : List D) (x1 : Int) (x2 : Int) (x3 : Int) (x4 : Int) (x5 : List D) : runLoop (ocOf [e_Z2]) (olOf [m_Z53 F]) A 99 (codeAt (bodyOf Try.f99) 12) ((m_Z53 F).sh.mk' [.L x0, .I x1, .I x2, .I x3, .I x4, .L x5]) (fun e σ' => some (e, σ')) = c_Z53 F x0 x1 x2 x3 x4 x5 (fun y => some (.exit 1, SSt.mk' ⟨(.ptr 1000 [0] :: .undef :: .undef :: .undef :: .ptr 1001 [0] :: .ptr 1002 [0] :: uu 44 ([])), [(1000, .obox (.agg [.rd (.int .u8), .int .i64, .int .u64])), (1001, .obox (.agg [.int .i64, .nilsl])), (1002, .obox (.agg [.int .i64, .full 1003 [] (.int .i64)])), (1003, .own (.int .i64))]⟩ [.L y.1, .I y.2.1, .I y.2.2.1, .I y.2.2.2.1, .I y.2.2.2.2.1, .L y.2.2.2.2.2])) := by kernel_rfl
theorem m_Z53_ok : ∀ n, (m_Z53 (n_Z53 n)).ok Try.prog (codeAt (bodyOf Try.f99) 12) := by
 intro n
 induction n with
 | zero =>
  intro R ds k r h
  unfold m_Z53 at h
  obtain ⟨x0, d0, rfl, h0⟩ := dL_some h
  obtain ⟨x1, d1, rfl, h1⟩ := dI_some h0
  obtain ⟨x2, d2, rfl, h2⟩ := dI_some h1
  obtain ⟨x3, d3, rfl, h3⟩ := dI_some h2
  obtain ⟨x4, d4, rfl, h4⟩ := dI_some h3
  obtain ⟨x5, d5, rfl, h5⟩ := dL_some h4
  obtain ⟨rfl, hE⟩ := dE_some h5
  obtain ⟨y, hy, hk⟩ := bnd_some hE
  cases hy
 | succ n ih =>
  intro R ds k r h
  unfold m_Z53 at h
  obtain ⟨x0, d0, rfl, h0⟩ := dL_some h
  obtain ⟨x1, d1, rfl, h1⟩ := dI_some h0
  obtain ⟨x2, d2, rfl, h2⟩ := dI_some h1
  obtain ⟨x3, d3, rfl, h3⟩ := dI_some h2
  obtain ⟨x4, d4, rfl, h4⟩ := dI_some h3
  obtain ⟨x5, d5, rfl, h5⟩ := dL_some h4
  obtain ⟨rfl, hE⟩ := dE_some h5
  obtain ⟨y, hy, hk⟩ := bnd_some hE
  have hq := q_Z53 (n_Z53 n) x0 x1 x2 x3 x4 x5
  rw [c_Z53_bind] at hq
  rw [show c_Z53 (n_Z53 n) x0 x1 x2 x3 x4 x5 some = some y from hy] at hq
  refine ⟨0, _, _, _, hk, rfl, loop_ok px (fx := ⟨Try.func99, by kernel_rfl, by kernel_rfl⟩) (entsOK_cons e_Z2_ok entsOK_nil) (lentsOK_cons ih lentsOK_nil) (by kernel_rfl) ?_⟩
  exact hq
noncomputable def e_Z53 : Lent := m_Z53 (Z53)
theorem e_Z53_ok : (e_Z53).ok Try.prog (codeAt (bodyOf Try.f99) 12) := by
 intro R ds k r h
 unfold e_Z53 m_Z53 at h
 obtain ⟨x0, d0, rfl, h0⟩ := dL_some h
 obtain ⟨x1, d1, rfl, h1⟩ := dI_some h0
 obtain ⟨x2, d2, rfl, h2⟩ := dI_some h1
 obtain ⟨x3, d3, rfl, h3⟩ := dI_some h2
 obtain ⟨x4, d4, rfl, h4⟩ := dI_some h3
 obtain ⟨x5, d5, rfl, h5⟩ := dL_some h4
 obtain ⟨rfl, hE⟩ := dE_some h5
 obtain ⟨y, hy, hk⟩ := bnd_some hE
 obtain ⟨n, hn⟩ := ev_some hy
 exact m_Z53_ok n R _ k r (show (n_Z53 n x0 x1 x2 x3 x4 x5).bind _ = _ by rw [hn]; exact hk)

/-!-/
def c_Z54 {R : Type} (F : List D → Int → Int → Int → Int → List D → Option ((List D × Int × Int × Int × Int × List D) ⊕ (List D × Int × Int × Int × Int × List D))) (x0 : List D) (x1 : Int) (x2 : Int) (x3 : Int) (x4 : Int) (x5 : List D) (k : (List D × Int × Int × Int × Int × List D) ⊕ (List D × Int × Int × Int × Int × List D) → Option R) : Option R :=
 (Z2 x0 x1 x2 (2 : Int)).bind (fun y0 =>
 bif decide ((↑x5.length : Int) < IntKind.i64.wrap ((60 : Int) + y0.fst)) then
 if x5.length + [D.int (1 : Int)].length ≤ (4294967296 : Nat) then
 (Z53 y0.snd.fst y0.snd.snd.fst y0.snd.snd.snd x3 x4 (x5 ++ [D.int (1 : Int)])).bind (fun y1 =>
 k (.inl (y1.fst, y1.snd.fst, y1.snd.snd.fst, y1.snd.snd.snd.fst, y1.snd.snd.snd.snd.fst, y1.snd.snd.snd.snd.snd)))
 else
 none
 else
 k (.inr (y0.snd.fst, y0.snd.snd.fst, y0.snd.snd.snd, x3, x4, x5)))
theorem c_Z54_bind {R : Type} (F : List D → Int → Int → Int → Int → List D → Option ((List D × Int × Int × Int × Int × List D) ⊕ (List D × Int × Int × Int × Int × List D))) (x0 : List D) (x1 : Int) (x2 : Int) (x3 : Int) (x4 : Int) (x5 : List D) (k : (List D × Int × Int × Int × Int × List D) ⊕ (List D × Int × Int × Int × Int × List D) → Option R) : c_Z54 F x0 x1 x2 x3 x4 x5 k = (c_Z54 F x0 x1 x2 x3 x4 x5 some).bind k := by
 unfold c_Z54
 repeat' first|exact bnd_tail|exact bnd_none|exact bnd_leaf|apply bnd_ite|apply bnd_cond|apply bnd_sum|(apply bnd_bind;intro _)|intro _
def n_Z54 : Nat → List D → Int → Int → Int → Int → List D → Option ((List D × Int × Int × Int × Int × List D) ⊕ (List D × Int × Int × Int × Int × List D))
 | 0, _, _, _, _, _, _ => none
 | n + 1, x0, x1, x2, x3, x4, x5 => c_Z54 (n_Z54 n) x0 x1 x2 x3 x4 x5 some
noncomputable def Z54 (x0 : List D) (x1 : Int) (x2 : Int) (x3 : Int) (x4 : Int) (x5 : List D) : Option ((List D × Int × Int × Int × Int × List D) ⊕ (List D × Int × Int × Int × Int × List D)) := ev (fun n => n_Z54 n x0 x1 x2 x3 x4 x5)
def m_Z54 (F : List D → Int → Int → Int → Int → List D → Option ((List D × Int × Int × Int × Int × List D) ⊕ (List D × Int × Int × Int × Int × List D))) : Lent := ⟨12, ⟨(.ptr 1000 [0] :: .undef :: .undef :: .undef :: .ptr 1001 [0] :: .ptr 1002 [0] :: uu 44 ([])), [(1000, .obox (.agg [.rd (.int .u8), .int .i64, .int .u64])), (1001, .obox (.agg [.int .i64, .nilsl])), (1002, .obox (.agg [.int .i64, .own (.int .i64)]))]⟩, [(.exit 1, ⟨(.ptr 1000 [0] :: .undef :: .undef :: .undef :: .ptr 1001 [0] :: .ptr 1002 [0] :: uu 44 ([])), [(1000, .obox (.agg [.rd (.int .u8), .int .i64, .int .u64])), (1001, .obox (.agg [.int .i64, .nilsl])), (1002, .obox (.agg [.int .i64, .full 1003 [] (.int .i64)])), (1003, .own (.int .i64))]⟩), (.exit 1, ⟨(.ptr 1000 [0] :: .undef :: .undef :: .undef :: .ptr 1001 [0] :: .ptr 1002 [0] :: uu 44 ([])), [(1000, .obox (.agg [.rd (.int .u8), .int .i64, .int .u64])), (1001, .obox (.agg [.int .i64, .nilsl])), (1002, .obox (.agg [.int .i64, .own (.int .i64)]))]⟩)], fun _ ds k => dL (fun x0 ds => dI (fun x1 ds => dI (fun x2 ds => dI (fun x3 ds => dI (fun x4 ds => dL (fun x5 ds => dE ((F x0 x1 x2 x3 x4 x5).bind (Sum.elim (fun y => k 0 [.L y.1, .I y.2.1, .I y.2.2.1, .I y.2.2.2.1, .I y.2.2.2.2.1, .L y.2.2.2.2.2]) (fun y => k 1 [.L y.1, .I y.2.1, .I y.2.2.1, .I y.2.2.2.1, .I y.2.2.2.2.1, .L y.2.2.2.2.2]))) ds) ds) ds) ds) ds) ds) ds⟩
theorem q_Z54 (F : List D → Int → Int → Int → Int → List D → Option ((List D × Int × Int × Int × Int × List D) ⊕ (List D × Int × Int × Int × Int × List D))) (x0 : List D) (x1 : Int) (x2 : Int) (x3 : Int) (x4 : Int) (x5 : List D) : runLoop (ocOf [e_Z2]) (olOf [m_Z54 F, e_Z53]) A 99 (codeAt (bodyOf Try.f99) 12) ((m_Z54 F).sh.mk' [.L x0, .I x1, .I x2, .I x3, .I x4, .L x5]) (fun e σ' => some (e, σ')) = c_Z54 F x0 x1 x2 x3 x4 x5 (Sum.elim (fun y => some (.exit 1, SSt.mk' ⟨(.ptr 1000 [0] :: .undef :: .undef :: .undef :: .ptr 1001 [0] :: .ptr 1002 [0] :: uu 44 ([])), [(1000, .obox (.agg [.rd (.int .u8), .int .i64, .int .u64])), (1001, .obox (.agg [.int .i64, .nilsl])), (1002, .obox (.agg [.int .i64, .full 1003 [] (.int .i64)])), (1003, .own (.int .i64))]⟩ [.L y.1, .I y.2.1, .I y.2.2.1, .I y.2.2.2.1, .I y.2.2.2.2.1, .L y.2.2.2.2.2])) (fun y => some (.exit 1, SSt.mk' ⟨(.ptr 1000 [0] :: .undef :: .undef :: .undef :: .ptr 1001 [0] :: .ptr 1002 [0] :: uu 44 ([])), [(1000, .obox (.agg [.rd (.int .u8), .int .i64, .int .u64])), (1001, .obox (.agg [.int .i64, .nilsl])), (1002, .obox (.agg [.int .i64, .own (.int .i64)]))]⟩ [.L y.1, .I y.2.1, .I y.2.2.1, .I y.2.2.2.1, .I y.2.2.2.2.1, .L y.2.2.2.2.2]))) := by kernel_rfl
theorem m_Z54_ok : ∀ n, (m_Z54 (n_Z54 n)).ok Try.prog (codeAt (bodyOf Try.f99) 12) := by
 intro n
 induction n with
 | zero =>
  intro R ds k r h
  unfold m_Z54 at h
  obtain ⟨x0, d0, rfl, h0⟩ := dL_some h
  obtain ⟨x1, d1, rfl, h1⟩ := dI_some h0
  obtain ⟨x2, d2, rfl, h2⟩ := dI_some h1
  obtain ⟨x3, d3, rfl, h3⟩ := dI_some h2
  obtain ⟨x4, d4, rfl, h4⟩ := dI_some h3
  obtain ⟨x5, d5, rfl, h5⟩ := dL_some h4
  obtain ⟨rfl, hE⟩ := dE_some h5
  obtain ⟨y, hy, hk⟩ := bnd_some hE
  cases hy
 | succ n ih =>
  intro R ds k r h
  unfold m_Z54 at h
  obtain ⟨x0, d0, rfl, h0⟩ := dL_some h
  obtain ⟨x1, d1, rfl, h1⟩ := dI_some h0
  obtain ⟨x2, d2, rfl, h2⟩ := dI_some h1
  obtain ⟨x3, d3, rfl, h3⟩ := dI_some h2
  obtain ⟨x4, d4, rfl, h4⟩ := dI_some h3
  obtain ⟨x5, d5, rfl, h5⟩ := dL_some h4
  obtain ⟨rfl, hE⟩ := dE_some h5
  obtain ⟨y, hy, hk⟩ := bnd_some hE
  have hq := q_Z54 (n_Z54 n) x0 x1 x2 x3 x4 x5
  rw [c_Z54_bind] at hq
  rw [show c_Z54 (n_Z54 n) x0 x1 x2 x3 x4 x5 some = some y from hy] at hq
  cases y with
  | inl y =>
   refine ⟨0, _, _, _, hk, rfl, loop_ok px (fx := ⟨Try.func99, by kernel_rfl, by kernel_rfl⟩) (entsOK_cons e_Z2_ok entsOK_nil) (lentsOK_cons ih (lentsOK_cons e_Z53_ok lentsOK_nil)) (by kernel_rfl) ?_⟩
   exact hq
  | inr y =>
   refine ⟨1, _, _, _, hk, rfl, loop_ok px (fx := ⟨Try.func99, by kernel_rfl, by kernel_rfl⟩) (entsOK_cons e_Z2_ok entsOK_nil) (lentsOK_cons ih (lentsOK_cons e_Z53_ok lentsOK_nil)) (by kernel_rfl) ?_⟩
   exact hq
noncomputable def e_Z54 : Lent := m_Z54 (Z54)
theorem e_Z54_ok : (e_Z54).ok Try.prog (codeAt (bodyOf Try.f99) 12) := by
 intro R ds k r h
 unfold e_Z54 m_Z54 at h
 obtain ⟨x0, d0, rfl, h0⟩ := dL_some h
 obtain ⟨x1, d1, rfl, h1⟩ := dI_some h0
 obtain ⟨x2, d2, rfl, h2⟩ := dI_some h1
 obtain ⟨x3, d3, rfl, h3⟩ := dI_some h2
 obtain ⟨x4, d4, rfl, h4⟩ := dI_some h3
 obtain ⟨x5, d5, rfl, h5⟩ := dL_some h4
 obtain ⟨rfl, hE⟩ := dE_some h5
 obtain ⟨y, hy, hk⟩ := bnd_some hE
 obtain ⟨n, hn⟩ := ev_some hy
 exact m_Z54_ok n R _ k r (show (n_Z54 n x0 x1 x2 x3 x4 x5).bind _ = _ by rw [hn]; exact hk)

/-!-/
def c_Z55 {R : Type} (x0 : List D) (x1 : Int) (x2 : Int) (x3 : Int) (k : Int × List D × List D × Int × Int → Option R) : Option R :=
 (Z52 x0 x1 x2 x3).bind (fun y0 =>
 (Z2 y0.snd.snd.fst y0.snd.snd.snd.fst y0.snd.snd.snd.snd (30 : Int)).bind (fun y1 =>
 bif decide (y1.fst = (0 : Int)) then
 (Z3 y1.snd.fst y1.snd.snd.fst y1.snd.snd.snd ([D.int (-20001 : Int), D.int (2100 : Int), D.int (2101 : Int)])).bind (fun y2 =>
 k (y2.fst, y0.snd.fst, y2.snd.fst, y2.snd.snd.fst, y2.snd.snd.snd))
 else
 bif decide (y1.fst = (1 : Int)) then
 (Z3 y1.snd.fst y1.snd.snd.fst y1.snd.snd.snd ([D.int 0, D.int (-1 : Int), D.int (1000001 : Int)])).bind (fun y3 =>
 if y0.snd.fst.length + [D.int y3.fst].length ≤ (4294967296 : Nat) then
 k (y0.fst, y0.snd.fst ++ [D.int y3.fst], y3.snd.fst, y3.snd.snd.fst, y3.snd.snd.snd)
 else
 none)
 else
 bif decide (y1.fst = (2 : Int)) then
 k (y0.fst, [D.int (2 : Int), D.int (4 : Int)], y1.snd.fst, y1.snd.snd.fst, y1.snd.snd.snd)
 else
 bif decide (y1.fst = (3 : Int)) then
 k (y0.fst, [], y1.snd.fst, y1.snd.snd.fst, y1.snd.snd.snd)
 else
 bif decide (y1.fst = (4 : Int)) then
 (Z54 y1.snd.fst y1.snd.snd.fst y1.snd.snd.snd (0 : Int) y0.fst y0.snd.fst).bind (Sum.elim (fun y4 =>
 k (y4.snd.snd.snd.snd.fst, y4.snd.snd.snd.snd.snd, y4.fst, y4.snd.fst, y4.snd.snd.fst)) (fun y5 =>
 k (y5.snd.snd.snd.snd.fst, y5.snd.snd.snd.snd.snd, y5.fst, y5.snd.fst, y5.snd.snd.fst)))
 else
 k (y0.fst, y0.snd.fst, y1.snd.fst, y1.snd.snd.fst, y1.snd.snd.snd)))
theorem c_Z55_bind {R : Type} (x0 : List D) (x1 : Int) (x2 : Int) (x3 : Int) (k : Int × List D × List D × Int × Int → Option R) : c_Z55 x0 x1 x2 x3 k = (c_Z55 x0 x1 x2 x3 some).bind k := by
 unfold c_Z55
 repeat' first|exact bnd_tail|exact bnd_none|exact bnd_leaf|apply bnd_ite|apply bnd_cond|apply bnd_sum|(apply bnd_bind;intro _)|intro _
def Z55 (x0 : List D) (x1 : Int) (x2 : Int) (x3 : Int) : Option (Int × List D × List D × Int × Int) := c_Z55 x0 x1 x2 x3 some
def e_Z55 : Ent := ⟨99, [.obox (.agg [.rd (.int .u8), .int .i64, .int .u64]), .int .i64], .agg [.int .i64, .own (.int .i64)], [.obox (.agg [.rd (.int .u8), .int .i64, .int .u64]), .undef], fun _ ds k => dL (fun x0 ds => dI (fun x1 ds => dI (fun x2 ds => dI (fun x3 ds => dE ((Z55 x0 x1 x2 x3).bind (fun y => k [.I y.1, .L y.2.1, .L y.2.2.1, .I y.2.2.2.1, .I y.2.2.2.2])) ds) ds) ds) ds) ds⟩
theorem q_Z55 (x0 : List D) (x1 : Int) (x2 : Int) (x3 : Int) : runFn (ocOf [e_Z52, e_Z2, e_Z3]) (olOf [e_Z54]) A 99 Try.f99 (Sh.mks e_Z55.sh [.L x0, .I x1, .I x2, .I x3]).1 (fun v os => some (v, os)) = c_Z55 x0 x1 x2 x3 (fun y => some ((e_Z55.res.mk [.I y.1, .L y.2.1, .L y.2.2.1, .I y.2.2.2.1, .I y.2.2.2.2]).1, (Sh.mks e_Z55.outs (e_Z55.res.mk [.I y.1, .L y.2.1, .L y.2.2.1, .I y.2.2.2.1, .I y.2.2.2.2]).2).1)) := by kernel_rfl
theorem e_Z55_ok : e_Z55.ok Try.prog A := by
 intro R ds k r h
 unfold e_Z55 at h
 obtain ⟨x0, d0, rfl, h0⟩ := dL_some h
 obtain ⟨x1, d1, rfl, h1⟩ := dI_some h0
 obtain ⟨x2, d2, rfl, h2⟩ := dI_some h1
 obtain ⟨x3, d3, rfl, h3⟩ := dI_some h2
 obtain ⟨rfl, hE⟩ := dE_some h3
 obtain ⟨y, hy, hk⟩ := bnd_some hE
 refine ⟨_, hk, fn_ok px (fx := ⟨Try.func99, by kernel_rfl, by kernel_rfl⟩) (entsOK_cons e_Z52_ok (entsOK_cons e_Z2_ok (entsOK_cons e_Z3_ok entsOK_nil))) (lentsOK_cons e_Z54_ok lentsOK_nil) ?_⟩
 have hq := q_Z55 x0 x1 x2 x3
 rw [c_Z55_bind] at hq
 rw [show c_Z55 x0 x1 x2 x3 some = some y from hy] at hq
 exact hq

/-!-/
def c_Z56 {R : Type} (x0 : List D) (k : Int × List D × Int → Option R) : Option R :=
 (Z5 x0 (0 : Int) (0 : Int)).bind (fun y0 =>
 (Z55 y0.snd.fst y0.snd.snd.fst y0.snd.snd.snd y0.fst).bind (fun y1 =>
 (Z3 y1.snd.snd.fst y1.snd.snd.snd.fst y1.snd.snd.snd.snd ([D.int 0, D.int (1 : Int), D.int (-1 : Int), D.int (100 : Int), D.int (-1000 : Int), D.int (30000 : Int), D.int (2000 : Int)])).bind (fun y2 =>
 k (y1.fst, y1.snd.fst, y2.fst))))
theorem c_Z56_bind {R : Type} (x0 : List D) (k : Int × List D × Int → Option R) : c_Z56 x0 k = (c_Z56 x0 some).bind k := by
 unfold c_Z56
 repeat' first|exact bnd_tail|exact bnd_none|exact bnd_leaf|apply bnd_ite|apply bnd_cond|apply bnd_sum|(apply bnd_bind;intro _)|intro _
def Z56 (x0 : List D) : Option (Int × List D × Int) := c_Z56 x0 some
def e_Z56 : Ent := ⟨33, [.rd (.int .u8)], .tup [.agg [.int .i64, .own (.int .i64)], .int .i64], [.undef], fun _ ds k => dL (fun x0 ds => dE ((Z56 x0).bind (fun y => k [.I y.1, .L y.2.1, .I y.2.2])) ds) ds⟩
theorem q_Z56 (x0 : List D) : runFn (ocOf [e_Z5, e_Z55, e_Z3]) (olOf []) A 33 Try.f33 (Sh.mks e_Z56.sh [.L x0]).1 (fun v os => some (v, os)) = c_Z56 x0 (fun y => some ((e_Z56.res.mk [.I y.1, .L y.2.1, .I y.2.2]).1, (Sh.mks e_Z56.outs (e_Z56.res.mk [.I y.1, .L y.2.1, .I y.2.2]).2).1)) := by kernel_rfl
theorem e_Z56_ok : e_Z56.ok Try.prog A := by
 intro R ds k r h
 unfold e_Z56 at h
 obtain ⟨x0, d0, rfl, h0⟩ := dL_some h
 obtain ⟨rfl, hE⟩ := dE_some h0
 obtain ⟨y, hy, hk⟩ := bnd_some hE
 refine ⟨_, hk, fn_ok px (fx := ⟨Try.func33, by kernel_rfl, by kernel_rfl⟩) (entsOK_cons e_Z5_ok (entsOK_cons e_Z55_ok (entsOK_cons e_Z3_ok entsOK_nil))) lentsOK_nil ?_⟩
 have hq := q_Z56 x0
 rw [c_Z56_bind] at hq
 rw [show c_Z56 x0 some = some y from hy] at hq
 exact hq

/-!-/
def c_Z57 {R : Type} (x0 : List D) (k : List D → Option R) : Option R :=
 if (1 : Nat) ≤ x0.length then
 if ([] : List D).length + x0.length ≤ (4294967296 : Nat) then
 k ([] ++ x0)
 else
 none
 else
 bothK (
 if ([] : List D).length + x0.length ≤ (4294967296 : Nat) then
 k ([] ++ x0)
 else
 none) (
 k [])
theorem c_Z57_imp {R : Type} (x0 : List D) (k : List D → Option R) (y : List D) : c_Z57 x0 some = some y → c_Z57 x0 k = k y := by
 unfold c_Z57
 repeat' first
  | exact imp_leaf
  | exact imp_none
  | exact imp_tail
  | apply imp_both
  | apply imp_ite
  | apply imp_cond
  | apply imp_sum
  | (apply imp_bind; intro _)
  | intro _
def Z57 (x0 : List D) : Option (List D) := c_Z57 x0 some
def e_Z57 : Ent := ⟨100, [.rd (.int .i64)], .own (.int .i64), [.undef], fun _ ds k => dL (fun x0 ds => dE ((Z57 x0).bind (fun y => k [.L y])) ds) ds⟩
theorem q_Z57 (x0 : List D) : runFn (ocOf []) (olOf []) A 100 Try.f100 (Sh.mks e_Z57.sh [.L x0]).1 (fun v os => some (v, os)) = c_Z57 x0 (fun y => some ((e_Z57.res.mk [.L y]).1, (Sh.mks e_Z57.outs (e_Z57.res.mk [.L y]).2).1)) := by kernel_rfl
theorem e_Z57_ok : e_Z57.ok Try.prog A := by
 intro R ds k r h
 unfold e_Z57 at h
 obtain ⟨x0, d0, rfl, h0⟩ := dL_some h
 obtain ⟨rfl, hE⟩ := dE_some h0
 obtain ⟨y, hy, hk⟩ := bnd_some hE
 refine ⟨_, hk, fn_ok px (fx := ⟨Try.func100, by kernel_rfl, by kernel_rfl⟩) entsOK_nil lentsOK_nil ?_⟩
 have hq := q_Z57 x0
 rw [c_Z57_imp x0 _ y hy] at hq
 exact hq

/-!-/
def c_Z58 {R : Type} (x0 : Int) (x1 : List D) (x2 : Int) (k : Int × List D × Bool → Option R) : Option R :=
 (Z26 x0 x1).bind (fun y0 =>
 bif !y0 then
 k ((0 : Int), [], Bool.false)
 else
 (Z7 x2 (-22100 : Int) (22100 : Int)).bind (fun y1 =>
 bif !y1 then
 k ((0 : Int), [], Bool.false)
 else
 (Z57 x1).bind (fun y2 =>
 (Z26 (IntKind.i64.wrap (x0 + x2)) y2).bind (fun y3 =>
 bif !y3 then
 k ((0 : Int), [], Bool.false)
 else
 k (IntKind.i64.wrap (x0 + x2), y2, Bool.true)))))
theorem c_Z58_bind {R : Type} (x0 : Int) (x1 : List D) (x2 : Int) (k : Int × List D × Bool → Option R) : c_Z58 x0 x1 x2 k = (c_Z58 x0 x1 x2 some).bind k := by
 unfold c_Z58
 repeat' first|exact bnd_tail|exact bnd_none|exact bnd_leaf|apply bnd_ite|apply bnd_cond|apply bnd_sum|(apply bnd_bind;intro _)|intro _
def Z58 (x0 : Int) (x1 : List D) (x2 : Int) : Option (Int × List D × Bool) := c_Z58 x0 x1 x2 some
def e_Z58 : Ent := ⟨34, [.agg [.int .i64, .rd (.int .i64)], .int .i64], .tup [.agg [.int .i64, .own (.int .i64)], .bool], [.undef, .undef], fun _ ds k => dI (fun x0 ds => dL (fun x1 ds => dI (fun x2 ds => dE ((Z58 x0 x1 x2).bind (fun y => k [.I y.1, .L y.2.1, .B y.2.2])) ds) ds) ds) ds⟩
theorem q_Z58 (x0 : Int) (x1 : List D) (x2 : Int) : runFn (ocOf [e_Z26, e_Z7, e_Z57]) (olOf []) A 34 Try.f34 (Sh.mks e_Z58.sh [.I x0, .L x1, .I x2]).1 (fun v os => some (v, os)) = c_Z58 x0 x1 x2 (fun y => some ((e_Z58.res.mk [.I y.1, .L y.2.1, .B y.2.2]).1, (Sh.mks e_Z58.outs (e_Z58.res.mk [.I y.1, .L y.2.1, .B y.2.2]).2).1)) := by kernel_rfl
theorem e_Z58_ok : e_Z58.ok Try.prog A := by
 intro R ds k r h
 unfold e_Z58 at h
 obtain ⟨x0, d0, rfl, h0⟩ := dI_some h
 obtain ⟨x1, d1, rfl, h1⟩ := dL_some h0
 obtain ⟨x2, d2, rfl, h2⟩ := dI_some h1
 obtain ⟨rfl, hE⟩ := dE_some h2
 obtain ⟨y, hy, hk⟩ := bnd_some hE
 refine ⟨_, hk, fn_ok px (fx := ⟨Try.func34, by kernel_rfl, by kernel_rfl⟩) (entsOK_cons e_Z26_ok (entsOK_cons e_Z7_ok (entsOK_cons e_Z57_ok entsOK_nil))) lentsOK_nil ?_⟩
 have hq := q_Z58 x0 x1 x2
 rw [c_Z58_bind] at hq
 rw [show c_Z58 x0 x1 x2 some = some y from hy] at hq
 exact hq

/-!-/
def c_Z59 {R : Type} (x0 : List D) (k : List D → Option R) : Option R :=
 if ([] : List D).length + x0.length ≤ (4294967296 : Nat) then
 k ([] ++ x0)
 else
 none
theorem c_Z59_bind {R : Type} (x0 : List D) (k : List D → Option R) : c_Z59 x0 k = (c_Z59 x0 some).bind k := by
 unfold c_Z59
 repeat' first|exact bnd_tail|exact bnd_none|exact bnd_leaf|apply bnd_ite|apply bnd_cond|apply bnd_sum|(apply bnd_bind;intro _)|intro _
def Z59 (x0 : List D) : Option (List D) := c_Z59 x0 some
def e_Z59 : Ent := ⟨101, [.rd (.int .i64)], .own (.int .i64), [.undef], fun _ ds k => dL (fun x0 ds => dE ((Z59 x0).bind (fun y => k [.L y])) ds) ds⟩
theorem q_Z59 (x0 : List D) : runFn (ocOf []) (olOf []) A 101 Try.f101 (Sh.mks e_Z59.sh [.L x0]).1 (fun v os => some (v, os)) = c_Z59 x0 (fun y => some ((e_Z59.res.mk [.L y]).1, (Sh.mks e_Z59.outs (e_Z59.res.mk [.L y]).2).1)) := by kernel_rfl
theorem e_Z59_ok : e_Z59.ok Try.prog A := by
 intro R ds k r h
 unfold e_Z59 at h
 obtain ⟨x0, d0, rfl, h0⟩ := dL_some h
 obtain ⟨rfl, hE⟩ := dE_some h0
 obtain ⟨y, hy, hk⟩ := bnd_some hE
 refine ⟨_, hk, fn_ok px (fx := ⟨Try.func101, by kernel_rfl, by kernel_rfl⟩) entsOK_nil lentsOK_nil ?_⟩
 have hq := q_Z59 x0
 rw [c_Z59_bind] at hq
 rw [show c_Z59 x0 some = some y from hy] at hq
 exact hq

/-!-/
def c_Z60 {R : Type} (x0 : Int) (x1 : List D) (x2 : Int) (k : Int × List D × Bool → Option R) : Option R :=
 (Z39 x0 x1).bind (fun y0 =>
 bif !y0 then
 k ((0 : Int), [], Bool.false)
 else
 (Z30 x2 (-22100 : Int) (22100 : Int)).bind (fun y1 =>
 bif !y1 then
 k ((0 : Int), [], Bool.false)
 else
 (Z59 x1).bind (fun y2 =>
 (Z39 (IntKind.i64.wrap (x0 + x2)) y2).bind (fun y3 =>
 bif !y3 then
 k ((0 : Int), [], Bool.false)
 else
 k (IntKind.i64.wrap (x0 + x2), y2, Bool.true)))))
theorem c_Z60_bind {R : Type} (x0 : Int) (x1 : List D) (x2 : Int) (k : Int × List D × Bool → Option R) : c_Z60 x0 x1 x2 k = (c_Z60 x0 x1 x2 some).bind k := by
 unfold c_Z60
 repeat' first|exact bnd_tail|exact bnd_none|exact bnd_leaf|apply bnd_ite|apply bnd_cond|apply bnd_sum|(apply bnd_bind;intro _)|intro _
def Z60 (x0 : Int) (x1 : List D) (x2 : Int) : Option (Int × List D × Bool) := c_Z60 x0 x1 x2 some
def e_Z60 : Ent := ⟨35, [.agg [.int .i64, .rd (.int .i64)], .int .i64], .tup [.agg [.int .i64, .own (.int .i64)], .bool], [.undef, .undef], fun _ ds k => dI (fun x0 ds => dL (fun x1 ds => dI (fun x2 ds => dE ((Z60 x0 x1 x2).bind (fun y => k [.I y.1, .L y.2.1, .B y.2.2])) ds) ds) ds) ds⟩
theorem q_Z60 (x0 : Int) (x1 : List D) (x2 : Int) : runFn (ocOf [e_Z39, e_Z30, e_Z59]) (olOf []) A 35 Try.f35 (Sh.mks e_Z60.sh [.I x0, .L x1, .I x2]).1 (fun v os => some (v, os)) = c_Z60 x0 x1 x2 (fun y => some ((e_Z60.res.mk [.I y.1, .L y.2.1, .B y.2.2]).1, (Sh.mks e_Z60.outs (e_Z60.res.mk [.I y.1, .L y.2.1, .B y.2.2]).2).1)) := by kernel_rfl
theorem e_Z60_ok : e_Z60.ok Try.prog A := by
 intro R ds k r h
 unfold e_Z60 at h
 obtain ⟨x0, d0, rfl, h0⟩ := dI_some h
 obtain ⟨x1, d1, rfl, h1⟩ := dL_some h0
 obtain ⟨x2, d2, rfl, h2⟩ := dI_some h1
 obtain ⟨rfl, hE⟩ := dE_some h2
 obtain ⟨y, hy, hk⟩ := bnd_some hE
 refine ⟨_, hk, fn_ok px (fx := ⟨Try.func35, by kernel_rfl, by kernel_rfl⟩) (entsOK_cons e_Z39_ok (entsOK_cons e_Z30_ok (entsOK_cons e_Z59_ok entsOK_nil))) lentsOK_nil ?_⟩
 have hq := q_Z60 x0 x1 x2
 rw [c_Z60_bind] at hq
 rw [show c_Z60 x0 x1 x2 some = some y from hy] at hq
 exact hq

/-!-/
def c_Z61 {R : Type} (x0 : List D) (k : Bool → Option R) : Option R :=
 (Z0 x0).bind (fun y0 =>
 bif y0 then
 k Bool.true
 else
 (Z6 x0).bind (fun y1 =>
 (Z29 y1.fst y1.snd).bind (fun y2 =>
 (Z41 y1.fst y1.snd).bind (fun y3 =>
 bif !y2.snd.snd == y3.snd.snd then
 k Bool.false
 else
 (Z44 y2.fst y2.snd.fst y3.fst y3.snd.fst).bind (fun y4 =>
 bif !y4 then
 k Bool.false
 else
 bif y2.snd.snd then
 (Z26 y2.fst y2.snd.fst).bind (fun y5 =>
 bif !y5 then
 k Bool.false
 else
 (Z50 x0 y1.fst (0 : Int) (0 : Int) y1.snd y2.fst y2.fst y2.snd.fst).bind (Sum.elim (fun y6 =>
 k y6.snd) (fun y7 =>
 (Z56 y7).bind (fun y8 =>
 (Z58 y8.fst y8.snd.fst y8.snd.snd).bind (fun y9 =>
 (Z60 y8.fst y8.snd.fst y8.snd.snd).bind (fun y10 =>
 bif !y9.snd.snd == y10.snd.snd then
 k (y9.snd.snd == y10.snd.snd)
 else
 bif !y9.snd.snd then
 k (y9.snd.snd == y10.snd.snd)
 else
 (Z58 y9.fst y9.snd.fst (IntKind.i64.wrap ((0 : Int) - y8.snd.snd))).bind (fun y11 =>
 bif y11.snd.snd then
 (Z44 y11.fst y11.snd.fst y8.fst y8.snd.fst).bind (fun y12 =>
 k y12)
 else
 k Bool.false)))))))
 else
 (Z56 x0).bind (fun y13 =>
 (Z58 y13.fst y13.snd.fst y13.snd.snd).bind (fun y14 =>
 (Z60 y13.fst y13.snd.fst y13.snd.snd).bind (fun y15 =>
 bif !y14.snd.snd == y15.snd.snd then
 k (y14.snd.snd == y15.snd.snd)
 else
 bif !y14.snd.snd then
 k (y14.snd.snd == y15.snd.snd)
 else
 (Z58 y14.fst y14.snd.fst (IntKind.i64.wrap ((0 : Int) - y13.snd.snd))).bind (fun y16 =>
 bif y16.snd.snd then
 (Z44 y16.fst y16.snd.fst y13.fst y13.snd.fst).bind (fun y17 =>
 k y17)
 else
 k Bool.false)))))))))
theorem c_Z61_bind {R : Type} (x0 : List D) (k : Bool → Option R) : c_Z61 x0 k = (c_Z61 x0 some).bind k := by
 unfold c_Z61
 repeat' first|exact bnd_tail|exact bnd_none|exact bnd_leaf|apply bnd_ite|apply bnd_cond|apply bnd_sum|(apply bnd_bind;intro _)|intro _
def Z61 (x0 : List D) : Option (Bool) := c_Z61 x0 some
def e_Z61 : Ent := ⟨5, [.rd (.int .u8)], .bool, [.undef], fun _ ds k => dL (fun x0 ds => dE ((Z61 x0).bind (fun y => k [.B y])) ds) ds⟩
theorem q_Z61 (x0 : List D) : runFn (ocOf [e_Z0, e_Z6, e_Z29, e_Z41, e_Z44, e_Z26, e_Z56, e_Z58, e_Z60]) (olOf [e_Z50]) A 5 Try.f5 (Sh.mks e_Z61.sh [.L x0]).1 (fun v os => some (v, os)) = c_Z61 x0 (fun y => some ((e_Z61.res.mk [.B y]).1, (Sh.mks e_Z61.outs (e_Z61.res.mk [.B y]).2).1)) := by kernel_rfl
theorem e_Z61_ok : e_Z61.ok Try.prog A := by
 intro R ds k r h
 unfold e_Z61 at h
 obtain ⟨x0, d0, rfl, h0⟩ := dL_some h
 obtain ⟨rfl, hE⟩ := dE_some h0
 obtain ⟨y, hy, hk⟩ := bnd_some hE
 refine ⟨_, hk, fn_ok px (fx := ⟨Try.func5, by kernel_rfl, by kernel_rfl⟩) (entsOK_cons e_Z0_ok (entsOK_cons e_Z6_ok (entsOK_cons e_Z29_ok (entsOK_cons e_Z41_ok (entsOK_cons e_Z44_ok (entsOK_cons e_Z26_ok (entsOK_cons e_Z56_ok (entsOK_cons e_Z58_ok (entsOK_cons e_Z60_ok entsOK_nil))))))))) (lentsOK_cons e_Z50_ok lentsOK_nil) ?_⟩
 have hq := q_Z61 x0
 rw [c_Z61_bind] at hq
 rw [show c_Z61 x0 some = some y from hy] at hq
 exact hq
end
end Go.Proofs.Ytpigfmlahmapaaa
