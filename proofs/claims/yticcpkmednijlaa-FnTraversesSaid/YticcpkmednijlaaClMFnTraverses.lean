/- Models of Go functions and their contracts, printed by a program of this session. -/
import Derived.Test.YticcpkmednijlaaClA
set_option linter.unusedVariables false
set_option maxRecDepth 100000
namespace Go.Proofs.Yticcpkmednijlaa
open Go Go.Rai
noncomputable section
/-! loop.example/g00876/laws.rBig -/
def c_laws_rBig {R : Type} (x0 : List D) (k : Bool → Option R) : Option R :=
 k (Decidable.decide ((65536 : Int) < (↑x0.length : Int)))
theorem c_laws_rBig_bind {R : Type} (x0 : List D) (k : Bool → Option R) : c_laws_rBig x0 k = (c_laws_rBig x0 some).bind k := by
  unfold c_laws_rBig
  repeat' first
    | exact bnd_tail
    | exact bnd_none
    | exact bnd_leaf
    | apply bnd_ite
    | apply bnd_cond
    | apply bnd_sum
    | (apply bnd_bind; intro _)
    | intro _
def laws_rBig (x0 : List D) : Option (Bool) := c_laws_rBig x0 some
def e_laws_rBig : Ent := ⟨27, [.rd (.int .u8)], .bool, [.undef], fun _ ds k => dL (fun x0 ds => dE ((laws_rBig x0).bind (fun y => k [.B y])) ds) ds⟩
theorem q_laws_rBig (x0 : List D) : runFn (ocOf []) (olOf []) A 27 Go.Proofs.Try.f27 (Sh.mks e_laws_rBig.sh [.L x0]).1 (fun v os => some (v, os)) = c_laws_rBig x0 (fun y => some ((e_laws_rBig.res.mk [.B y]).1, (Sh.mks e_laws_rBig.outs (e_laws_rBig.res.mk [.B y]).2).1)) := by kernel_rfl
theorem e_laws_rBig_ok : e_laws_rBig.ok Go.Proofs.Try.prog A := by
  intro R ds k r h
  unfold e_laws_rBig at h
  obtain ⟨x0, d0, rfl, h0⟩ := dL_some h
  obtain ⟨rfl, hE⟩ := dE_some h0
  obtain ⟨y, hy, hk⟩ := bnd_some hE
  refine ⟨_, hk, fn_ok px (fx := ⟨Go.Proofs.Try.func27, by kernel_rfl, by kernel_rfl⟩) entsOK_nil lentsOK_nil ?_⟩
  have hq := q_laws_rBig x0
  rw [c_laws_rBig_bind] at hq
  rw [show c_laws_rBig x0 some = some y from hy] at hq
  exact hq

/-! (*loop.example/g00876/spec.l1Cur).next -/
def c_spec_l1Cur_next {R : Type} (x0 : List D) (x1 : Int) (x2 : Int) (k : Int × List D × Int × Int → Option R) : Option R :=
 bif Decidable.decide (x1 < (↑x0.length : Int)) then
 if (0 : Int) ≤ x1 ∧ x1 < (↑x0.length : Int) then
 bif Decidable.decide (Go.IntKind.i64.wrap (x1 + (1 : Int)) ≤ (↑x0.length : Int)) then
 k (Go.IntKind.i64.wrap (x0.getD x1.toNat (Go.Rai.D.int (0 : Int))).toInt, x0, Go.IntKind.i64.wrap (x1 + (1 : Int)), Go.IntKind.u64.wrap (Go.IntKind.u64.wrap (Go.IntKind.u64.wrap (x2 * (6364136223846793005 : Int)) + Go.IntKind.u64.wrap (Go.IntKind.i64.wrap (x0.getD x1.toNat (Go.Rai.D.int (0 : Int))).toInt)) + (876876 : Int)))
 else
 if (0 : Int) ≤ (40 : Int) then
 k (Go.IntKind.i64.wrap (Go.IntKind.u64.wrap (↑(BitVec.ofInt Go.IntKind.u64.bits ((Go.IntKind.u64.wrap (Go.IntKind.u64.wrap (Go.IntKind.u64.wrap (x2 * (6364136223846793005 : Int)) + Go.IntKind.u64.wrap (Go.IntKind.i64.wrap (x0.getD x1.toNat (Go.Rai.D.int (0 : Int))).toInt)) + (876876 : Int))).fdiv ((2 : Int) ^ Min.min (Int.toNat (40 : Int)) Go.IntKind.u64.bits)) &&& BitVec.ofInt Go.IntKind.u64.bits (255 : Int)).toNat : Int)), x0, Go.IntKind.i64.wrap (x1 + (1 : Int)), Go.IntKind.u64.wrap (Go.IntKind.u64.wrap (Go.IntKind.u64.wrap (x2 * (6364136223846793005 : Int)) + Go.IntKind.u64.wrap (Go.IntKind.i64.wrap (x0.getD x1.toNat (Go.Rai.D.int (0 : Int))).toInt)) + (876876 : Int)))
 else
 none
 else
 none
 else
 bif Decidable.decide (Go.IntKind.i64.wrap (x1 + (1 : Int)) ≤ (↑x0.length : Int)) then
 k ((0 : Int), x0, Go.IntKind.i64.wrap (x1 + (1 : Int)), Go.IntKind.u64.wrap (Go.IntKind.u64.wrap (Go.IntKind.u64.wrap (x2 * (6364136223846793005 : Int)) + Go.IntKind.u64.wrap (0 : Int)) + (876876 : Int)))
 else
 if (0 : Int) ≤ (40 : Int) then
 k (Go.IntKind.i64.wrap (Go.IntKind.u64.wrap (↑(BitVec.ofInt Go.IntKind.u64.bits ((Go.IntKind.u64.wrap (Go.IntKind.u64.wrap (Go.IntKind.u64.wrap (x2 * (6364136223846793005 : Int)) + Go.IntKind.u64.wrap (0 : Int)) + (876876 : Int))).fdiv ((2 : Int) ^ Min.min (Int.toNat (40 : Int)) Go.IntKind.u64.bits)) &&& BitVec.ofInt Go.IntKind.u64.bits (255 : Int)).toNat : Int)), x0, Go.IntKind.i64.wrap (x1 + (1 : Int)), Go.IntKind.u64.wrap (Go.IntKind.u64.wrap (Go.IntKind.u64.wrap (x2 * (6364136223846793005 : Int)) + Go.IntKind.u64.wrap (0 : Int)) + (876876 : Int)))
 else
 none
theorem c_spec_l1Cur_next_bind {R : Type} (x0 : List D) (x1 : Int) (x2 : Int) (k : Int × List D × Int × Int → Option R) : c_spec_l1Cur_next x0 x1 x2 k = (c_spec_l1Cur_next x0 x1 x2 some).bind k := by
  unfold c_spec_l1Cur_next
  repeat' first
    | exact bnd_tail
    | exact bnd_none
    | exact bnd_leaf
    | apply bnd_ite
    | apply bnd_cond
    | apply bnd_sum
    | (apply bnd_bind; intro _)
    | intro _
def spec_l1Cur_next (x0 : List D) (x1 : Int) (x2 : Int) : Option (Int × List D × Int × Int) := c_spec_l1Cur_next x0 x1 x2 some
def e_spec_l1Cur_next : Ent := ⟨127, [.obox (.agg [.rd (.int .u8), .int .i64, .int .u64])], .int .i64, [.obox (.agg [.rd (.int .u8), .int .i64, .int .u64])], fun _ ds k => dL (fun x0 ds => dI (fun x1 ds => dI (fun x2 ds => dE ((spec_l1Cur_next x0 x1 x2).bind (fun y => k [.I y.1, .L y.2.1, .I y.2.2.1, .I y.2.2.2])) ds) ds) ds) ds⟩
theorem q_spec_l1Cur_next (x0 : List D) (x1 : Int) (x2 : Int) : runFn (ocOf []) (olOf []) A 127 Go.Proofs.Try.f127 (Sh.mks e_spec_l1Cur_next.sh [.L x0, .I x1, .I x2]).1 (fun v os => some (v, os)) = c_spec_l1Cur_next x0 x1 x2 (fun y => some ((e_spec_l1Cur_next.res.mk [.I y.1, .L y.2.1, .I y.2.2.1, .I y.2.2.2]).1, (Sh.mks e_spec_l1Cur_next.outs (e_spec_l1Cur_next.res.mk [.I y.1, .L y.2.1, .I y.2.2.1, .I y.2.2.2]).2).1)) := by kernel_rfl
theorem e_spec_l1Cur_next_ok : e_spec_l1Cur_next.ok Go.Proofs.Try.prog A := by
  intro R ds k r h
  unfold e_spec_l1Cur_next at h
  obtain ⟨x0, d0, rfl, h0⟩ := dL_some h
  obtain ⟨x1, d1, rfl, h1⟩ := dI_some h0
  obtain ⟨x2, d2, rfl, h2⟩ := dI_some h1
  obtain ⟨rfl, hE⟩ := dE_some h2
  obtain ⟨y, hy, hk⟩ := bnd_some hE
  refine ⟨_, hk, fn_ok px (fx := ⟨Go.Proofs.Try.func127, by kernel_rfl, by kernel_rfl⟩) entsOK_nil lentsOK_nil ?_⟩
  have hq := q_spec_l1Cur_next x0 x1 x2
  rw [c_spec_l1Cur_next_bind] at hq
  rw [show c_spec_l1Cur_next x0 x1 x2 some = some y from hy] at hq
  exact hq

/-! (*loop.example/g00876/spec.l1Cur).pick -/
def c_spec_l1Cur_pick {R : Type} (x0 : List D) (x1 : Int) (x2 : Int) (x3 : Int) (k : Int × List D × Int × Int → Option R) : Option R :=
 bif Decidable.decide (x3 ≤ (1 : Int)) then
 k ((0 : Int), x0, x1, x2)
 else
 (spec_l1Cur_next x0 x1 x2).bind (fun y0 =>
 bif Decidable.decide ((200 : Int) < x3) then
 (spec_l1Cur_next y0.snd.fst y0.snd.snd.fst y0.snd.snd.snd).bind (fun y1 =>
 if x3 ≠ (0 : Int) then
 k ((Go.IntKind.i64.wrap (Go.IntKind.i64.wrap (y0.fst * (256 : Int)) + y1.fst)).tmod x3, y1.snd.fst, y1.snd.snd.fst, y1.snd.snd.snd)
 else
 none)
 else
 if x3 ≠ (0 : Int) then
 k (y0.fst.tmod x3, y0.snd.fst, y0.snd.snd.fst, y0.snd.snd.snd)
 else
 none)
theorem c_spec_l1Cur_pick_bind {R : Type} (x0 : List D) (x1 : Int) (x2 : Int) (x3 : Int) (k : Int × List D × Int × Int → Option R) : c_spec_l1Cur_pick x0 x1 x2 x3 k = (c_spec_l1Cur_pick x0 x1 x2 x3 some).bind k := by
  unfold c_spec_l1Cur_pick
  repeat' first
    | exact bnd_tail
    | exact bnd_none
    | exact bnd_leaf
    | apply bnd_ite
    | apply bnd_cond
    | apply bnd_sum
    | (apply bnd_bind; intro _)
    | intro _
def spec_l1Cur_pick (x0 : List D) (x1 : Int) (x2 : Int) (x3 : Int) : Option (Int × List D × Int × Int) := c_spec_l1Cur_pick x0 x1 x2 x3 some
def e_spec_l1Cur_pick : Ent := ⟨99, [.obox (.agg [.rd (.int .u8), .int .i64, .int .u64]), .int .i64], .int .i64, [.obox (.agg [.rd (.int .u8), .int .i64, .int .u64]), .undef], fun _ ds k => dL (fun x0 ds => dI (fun x1 ds => dI (fun x2 ds => dI (fun x3 ds => dE ((spec_l1Cur_pick x0 x1 x2 x3).bind (fun y => k [.I y.1, .L y.2.1, .I y.2.2.1, .I y.2.2.2])) ds) ds) ds) ds) ds⟩
theorem q_spec_l1Cur_pick (x0 : List D) (x1 : Int) (x2 : Int) (x3 : Int) : runFn (ocOf [e_spec_l1Cur_next]) (olOf []) A 99 Go.Proofs.Try.f99 (Sh.mks e_spec_l1Cur_pick.sh [.L x0, .I x1, .I x2, .I x3]).1 (fun v os => some (v, os)) = c_spec_l1Cur_pick x0 x1 x2 x3 (fun y => some ((e_spec_l1Cur_pick.res.mk [.I y.1, .L y.2.1, .I y.2.2.1, .I y.2.2.2]).1, (Sh.mks e_spec_l1Cur_pick.outs (e_spec_l1Cur_pick.res.mk [.I y.1, .L y.2.1, .I y.2.2.1, .I y.2.2.2]).2).1)) := by kernel_rfl
theorem e_spec_l1Cur_pick_ok : e_spec_l1Cur_pick.ok Go.Proofs.Try.prog A := by
  intro R ds k r h
  unfold e_spec_l1Cur_pick at h
  obtain ⟨x0, d0, rfl, h0⟩ := dL_some h
  obtain ⟨x1, d1, rfl, h1⟩ := dI_some h0
  obtain ⟨x2, d2, rfl, h2⟩ := dI_some h1
  obtain ⟨x3, d3, rfl, h3⟩ := dI_some h2
  obtain ⟨rfl, hE⟩ := dE_some h3
  obtain ⟨y, hy, hk⟩ := bnd_some hE
  refine ⟨_, hk, fn_ok px (fx := ⟨Go.Proofs.Try.func99, by kernel_rfl, by kernel_rfl⟩) (entsOK_cons e_spec_l1Cur_next_ok entsOK_nil) lentsOK_nil ?_⟩
  have hq := q_spec_l1Cur_pick x0 x1 x2 x3
  rw [c_spec_l1Cur_pick_bind] at hq
  rw [show c_spec_l1Cur_pick x0 x1 x2 x3 some = some y from hy] at hq
  exact hq

/-! (*loop.example/g00876/spec.l1Cur).among -/
def c_spec_l1Cur_among {R : Type} (x0 : List D) (x1 : Int) (x2 : Int) (x3 : List D) (k : Int × List D × Int × Int → Option R) : Option R :=
 (spec_l1Cur_pick x0 x1 x2 (↑x3.length : Int)).bind (fun y0 =>
 if (0 : Int) ≤ y0.fst ∧ y0.fst < (↑x3.length : Int) then
 if y0.fst.toNat + (1 : Nat) ≤ x3.length then
 k ((x3.getD y0.fst.toNat (Go.Rai.D.int (0 : Int))).toInt, y0.snd.fst, y0.snd.snd.fst, y0.snd.snd.snd)
 else
 none
 else
 none)
theorem c_spec_l1Cur_among_bind {R : Type} (x0 : List D) (x1 : Int) (x2 : Int) (x3 : List D) (k : Int × List D × Int × Int → Option R) : c_spec_l1Cur_among x0 x1 x2 x3 k = (c_spec_l1Cur_among x0 x1 x2 x3 some).bind k := by
  unfold c_spec_l1Cur_among
  repeat' first
    | exact bnd_tail
    | exact bnd_none
    | exact bnd_leaf
    | apply bnd_ite
    | apply bnd_cond
    | apply bnd_sum
    | (apply bnd_bind; intro _)
    | intro _
def spec_l1Cur_among (x0 : List D) (x1 : Int) (x2 : Int) (x3 : List D) : Option (Int × List D × Int × Int) := c_spec_l1Cur_among x0 x1 x2 x3 some
def e_spec_l1Cur_among : Ent := ⟨101, [.obox (.agg [.rd (.int .u8), .int .i64, .int .u64]), .own (.int .i64)], .int .i64, [.obox (.agg [.rd (.int .u8), .int .i64, .int .u64]), .undef], fun _ ds k => dL (fun x0 ds => dI (fun x1 ds => dI (fun x2 ds => dL (fun x3 ds => dE ((spec_l1Cur_among x0 x1 x2 x3).bind (fun y => k [.I y.1, .L y.2.1, .I y.2.2.1, .I y.2.2.2])) ds) ds) ds) ds) ds⟩
theorem q_spec_l1Cur_among (x0 : List D) (x1 : Int) (x2 : Int) (x3 : List D) : runFn (ocOf [e_spec_l1Cur_pick]) (olOf []) A 101 Go.Proofs.Try.f101 (Sh.mks e_spec_l1Cur_among.sh [.L x0, .I x1, .I x2, .L x3]).1 (fun v os => some (v, os)) = c_spec_l1Cur_among x0 x1 x2 x3 (fun y => some ((e_spec_l1Cur_among.res.mk [.I y.1, .L y.2.1, .I y.2.2.1, .I y.2.2.2]).1, (Sh.mks e_spec_l1Cur_among.outs (e_spec_l1Cur_among.res.mk [.I y.1, .L y.2.1, .I y.2.2.1, .I y.2.2.2]).2).1)) := by kernel_rfl
theorem e_spec_l1Cur_among_ok : e_spec_l1Cur_among.ok Go.Proofs.Try.prog A := by
  intro R ds k r h
  unfold e_spec_l1Cur_among at h
  obtain ⟨x0, d0, rfl, h0⟩ := dL_some h
  obtain ⟨x1, d1, rfl, h1⟩ := dI_some h0
  obtain ⟨x2, d2, rfl, h2⟩ := dI_some h1
  obtain ⟨x3, d3, rfl, h3⟩ := dL_some h2
  obtain ⟨rfl, hE⟩ := dE_some h3
  obtain ⟨y, hy, hk⟩ := bnd_some hE
  refine ⟨_, hk, fn_ok px (fx := ⟨Go.Proofs.Try.func101, by kernel_rfl, by kernel_rfl⟩) (entsOK_cons e_spec_l1Cur_pick_ok entsOK_nil) lentsOK_nil ?_⟩
  have hq := q_spec_l1Cur_among x0 x1 x2 x3
  rw [c_spec_l1Cur_among_bind] at hq
  rw [show c_spec_l1Cur_among x0 x1 x2 x3 some = some y from hy] at hq
  exact hq

/-! (*loop.example/g00876/spec.l1Cur).one -/
def c_spec_l1Cur_one {R : Type} (x0 : List D) (x1 : Int) (x2 : Int) (x3 : Int) (k : Bool × List D × Int × Int → Option R) : Option R :=
 (spec_l1Cur_pick x0 x1 x2 x3).bind (fun y0 =>
 k (Decidable.decide (y0.fst = (0 : Int)), y0.snd.fst, y0.snd.snd.fst, y0.snd.snd.snd))
theorem c_spec_l1Cur_one_bind {R : Type} (x0 : List D) (x1 : Int) (x2 : Int) (x3 : Int) (k : Bool × List D × Int × Int → Option R) : c_spec_l1Cur_one x0 x1 x2 x3 k = (c_spec_l1Cur_one x0 x1 x2 x3 some).bind k := by
  unfold c_spec_l1Cur_one
  repeat' first
    | exact bnd_tail
    | exact bnd_none
    | exact bnd_leaf
    | apply bnd_ite
    | apply bnd_cond
    | apply bnd_sum
    | (apply bnd_bind; intro _)
    | intro _
def spec_l1Cur_one (x0 : List D) (x1 : Int) (x2 : Int) (x3 : Int) : Option (Bool × List D × Int × Int) := c_spec_l1Cur_one x0 x1 x2 x3 some
def e_spec_l1Cur_one : Ent := ⟨100, [.obox (.agg [.rd (.int .u8), .int .i64, .int .u64]), .int .i64], .bool, [.obox (.agg [.rd (.int .u8), .int .i64, .int .u64]), .undef], fun _ ds k => dL (fun x0 ds => dI (fun x1 ds => dI (fun x2 ds => dI (fun x3 ds => dE ((spec_l1Cur_one x0 x1 x2 x3).bind (fun y => k [.B y.1, .L y.2.1, .I y.2.2.1, .I y.2.2.2])) ds) ds) ds) ds) ds⟩
theorem q_spec_l1Cur_one (x0 : List D) (x1 : Int) (x2 : Int) (x3 : Int) : runFn (ocOf [e_spec_l1Cur_pick]) (olOf []) A 100 Go.Proofs.Try.f100 (Sh.mks e_spec_l1Cur_one.sh [.L x0, .I x1, .I x2, .I x3]).1 (fun v os => some (v, os)) = c_spec_l1Cur_one x0 x1 x2 x3 (fun y => some ((e_spec_l1Cur_one.res.mk [.B y.1, .L y.2.1, .I y.2.2.1, .I y.2.2.2]).1, (Sh.mks e_spec_l1Cur_one.outs (e_spec_l1Cur_one.res.mk [.B y.1, .L y.2.1, .I y.2.2.1, .I y.2.2.2]).2).1)) := by kernel_rfl
theorem e_spec_l1Cur_one_ok : e_spec_l1Cur_one.ok Go.Proofs.Try.prog A := by
  intro R ds k r h
  unfold e_spec_l1Cur_one at h
  obtain ⟨x0, d0, rfl, h0⟩ := dL_some h
  obtain ⟨x1, d1, rfl, h1⟩ := dI_some h0
  obtain ⟨x2, d2, rfl, h2⟩ := dI_some h1
  obtain ⟨x3, d3, rfl, h3⟩ := dI_some h2
  obtain ⟨rfl, hE⟩ := dE_some h3
  obtain ⟨y, hy, hk⟩ := bnd_some hE
  refine ⟨_, hk, fn_ok px (fx := ⟨Go.Proofs.Try.func100, by kernel_rfl, by kernel_rfl⟩) (entsOK_cons e_spec_l1Cur_pick_ok entsOK_nil) lentsOK_nil ?_⟩
  have hq := q_spec_l1Cur_one x0 x1 x2 x3
  rw [c_spec_l1Cur_one_bind] at hq
  rw [show c_spec_l1Cur_one x0 x1 x2 x3 some = some y from hy] at hq
  exact hq

/-! (*loop.example/g00876/spec.l1Cur).point -/
def c_spec_l1Cur_point {R : Type} (x0 : List D) (x1 : Int) (x2 : Int) (k : Int × Int × List D × Int × Int → Option R) : Option R :=
 (spec_l1Cur_among x0 x1 x2 ([Go.Rai.D.int (0 : Int), Go.Rai.D.int (100 : Int), Go.Rai.D.int (-250 : Int), Go.Rai.D.int (5000 : Int)])).bind (fun y0 =>
 (spec_l1Cur_among y0.snd.fst y0.snd.snd.fst y0.snd.snd.snd ([Go.Rai.D.int (0 : Int), Go.Rai.D.int (7 : Int), Go.Rai.D.int (300 : Int), Go.Rai.D.int (-1000 : Int)])).bind (fun y1 =>
 (spec_l1Cur_one y1.snd.fst y1.snd.snd.fst y1.snd.snd.snd (40 : Int)).bind (fun y2 =>
 bif y2.fst then
 (spec_l1Cur_among y2.snd.fst y2.snd.snd.fst y2.snd.snd.snd ([Go.Rai.D.int (1000000 : Int), Go.Rai.D.int (1000001 : Int), Go.Rai.D.int (-1000000 : Int)])).bind (fun y3 =>
 k (y3.fst, y1.fst, y3.snd.fst, y3.snd.snd.fst, y3.snd.snd.snd))
 else
 k (y0.fst, y1.fst, y2.snd.fst, y2.snd.snd.fst, y2.snd.snd.snd))))
theorem c_spec_l1Cur_point_bind {R : Type} (x0 : List D) (x1 : Int) (x2 : Int) (k : Int × Int × List D × Int × Int → Option R) : c_spec_l1Cur_point x0 x1 x2 k = (c_spec_l1Cur_point x0 x1 x2 some).bind k := by
  unfold c_spec_l1Cur_point
  repeat' first
    | exact bnd_tail
    | exact bnd_none
    | exact bnd_leaf
    | apply bnd_ite
    | apply bnd_cond
    | apply bnd_sum
    | (apply bnd_bind; intro _)
    | intro _
def spec_l1Cur_point (x0 : List D) (x1 : Int) (x2 : Int) : Option (Int × Int × List D × Int × Int) := c_spec_l1Cur_point x0 x1 x2 some
def e_spec_l1Cur_point : Ent := ⟨124, [.obox (.agg [.rd (.int .u8), .int .i64, .int .u64])], .agg [.int .i64, .int .i64], [.obox (.agg [.rd (.int .u8), .int .i64, .int .u64])], fun _ ds k => dL (fun x0 ds => dI (fun x1 ds => dI (fun x2 ds => dE ((spec_l1Cur_point x0 x1 x2).bind (fun y => k [.I y.1, .I y.2.1, .L y.2.2.1, .I y.2.2.2.1, .I y.2.2.2.2])) ds) ds) ds) ds⟩
theorem q_spec_l1Cur_point (x0 : List D) (x1 : Int) (x2 : Int) : runFn (ocOf [e_spec_l1Cur_among, e_spec_l1Cur_one]) (olOf []) A 124 Go.Proofs.Try.f124 (Sh.mks e_spec_l1Cur_point.sh [.L x0, .I x1, .I x2]).1 (fun v os => some (v, os)) = c_spec_l1Cur_point x0 x1 x2 (fun y => some ((e_spec_l1Cur_point.res.mk [.I y.1, .I y.2.1, .L y.2.2.1, .I y.2.2.2.1, .I y.2.2.2.2]).1, (Sh.mks e_spec_l1Cur_point.outs (e_spec_l1Cur_point.res.mk [.I y.1, .I y.2.1, .L y.2.2.1, .I y.2.2.2.1, .I y.2.2.2.2]).2).1)) := by kernel_rfl
theorem e_spec_l1Cur_point_ok : e_spec_l1Cur_point.ok Go.Proofs.Try.prog A := by
  intro R ds k r h
  unfold e_spec_l1Cur_point at h
  obtain ⟨x0, d0, rfl, h0⟩ := dL_some h
  obtain ⟨x1, d1, rfl, h1⟩ := dI_some h0
  obtain ⟨x2, d2, rfl, h2⟩ := dI_some h1
  obtain ⟨rfl, hE⟩ := dE_some h2
  obtain ⟨y, hy, hk⟩ := bnd_some hE
  refine ⟨_, hk, fn_ok px (fx := ⟨Go.Proofs.Try.func124, by kernel_rfl, by kernel_rfl⟩) (entsOK_cons e_spec_l1Cur_among_ok (entsOK_cons e_spec_l1Cur_one_ok entsOK_nil)) lentsOK_nil ?_⟩
  have hq := q_spec_l1Cur_point x0 x1 x2
  rw [c_spec_l1Cur_point_bind] at hq
  rw [show c_spec_l1Cur_point x0 x1 x2 some = some y from hy] at hq
  exact hq

/-! (*loop.example/g00876/spec.l1Cur).legs, loop 3 -/
def c_spec_l1Cur_legs_L3 {R : Type} (F : Int → List D → Int → Int → List D → Option (List D × Int × Int × List D)) (x0 : Int) (x1 : List D) (x2 : Int) (x3 : Int) (x4 : List D) (k : List D × Int × Int × List D → Option R) : Option R :=
 bif Decidable.decide ((0 : Int) < x0) then
 (spec_l1Cur_among x1 x2 x3 ([Go.Rai.D.int (0 : Int), Go.Rai.D.int (10 : Int), Go.Rai.D.int (-10 : Int), Go.Rai.D.int (333 : Int), Go.Rai.D.int (1000 : Int), Go.Rai.D.int (-707 : Int)])).bind (fun y0 =>
 (spec_l1Cur_among y0.snd.fst y0.snd.snd.fst y0.snd.snd.snd ([Go.Rai.D.int (0 : Int), Go.Rai.D.int (10 : Int), Go.Rai.D.int (25 : Int), Go.Rai.D.int (-333 : Int), Go.Rai.D.int (500 : Int)])).bind (fun y1 =>
 if x4.length + [Go.Rai.D.node [Go.Rai.D.int y0.fst, Go.Rai.D.int y1.fst]].length ≤ (4294967296 : Nat) then
 (F (Go.IntKind.i64.wrap (x0 - (1 : Int))) y1.snd.fst y1.snd.snd.fst y1.snd.snd.snd (x4 ++ [Go.Rai.D.node [Go.Rai.D.int y0.fst, Go.Rai.D.int y1.fst]])).bind k
 else
 none))
 else
 k (x1, x2, x3, x4)
theorem c_spec_l1Cur_legs_L3_bind {R : Type} (F : Int → List D → Int → Int → List D → Option (List D × Int × Int × List D)) (x0 : Int) (x1 : List D) (x2 : Int) (x3 : Int) (x4 : List D) (k : List D × Int × Int × List D → Option R) : c_spec_l1Cur_legs_L3 F x0 x1 x2 x3 x4 k = (c_spec_l1Cur_legs_L3 F x0 x1 x2 x3 x4 some).bind k := by
  unfold c_spec_l1Cur_legs_L3
  repeat' first
    | exact bnd_tail
    | exact bnd_none
    | exact bnd_leaf
    | apply bnd_ite
    | apply bnd_cond
    | apply bnd_sum
    | (apply bnd_bind; intro _)
    | intro _
def n_spec_l1Cur_legs_L3 : Nat → Int → List D → Int → Int → List D → Option (List D × Int × Int × List D)
 | 0, _, _, _, _, _ => none
 | n + 1, x0, x1, x2, x3, x4 => c_spec_l1Cur_legs_L3 (n_spec_l1Cur_legs_L3 n) x0 x1 x2 x3 x4 some
noncomputable def spec_l1Cur_legs_L3 (x0 : Int) (x1 : List D) (x2 : Int) (x3 : Int) (x4 : List D) : Option (List D × Int × Int × List D) := ev (fun n => n_spec_l1Cur_legs_L3 n x0 x1 x2 x3 x4)
def m_spec_l1Cur_legs_L3 (F : Int → List D → Int → Int → List D → Option (List D × Int × Int × List D)) : Lent := ⟨3, ⟨[.ptr 1000 [0], .undef, .undef, .full 1001 [] (.struct [.int .i64, .int .i64]), .int .i64, .undef, .undef, .undef, .undef, .undef, .undef, .undef, .undef, .undef, .undef, .undef, .undef, .undef, .undef, .undef, .undef, .undef, .undef, .undef, .undef, .undef, .undef, .undef, .undef, .undef, .undef, .undef, .undef, .undef, .undef, .undef, .undef, .undef, .undef, .undef, .undef, .undef, .undef, .undef, .undef, .undef, .undef, .undef, .undef, .undef, .undef], [(1000, .obox (.agg [.rd (.int .u8), .int .i64, .int .u64])), (1001, .own (.struct [.int .i64, .int .i64]))]⟩, [(.exit 0, ⟨[.ptr 1000 [0], .undef, .undef, .full 1001 [] (.struct [.int .i64, .int .i64]), .undef, .undef, .undef, .undef, .undef, .undef, .undef, .undef, .undef, .undef, .undef, .undef, .undef, .undef, .undef, .undef, .undef, .undef, .undef, .undef, .undef, .undef, .undef, .undef, .undef, .undef, .undef, .undef, .undef, .undef, .undef, .undef, .undef, .undef, .undef, .undef, .undef, .undef, .undef, .undef, .undef, .undef, .undef, .undef, .undef, .undef, .undef], [(1000, .obox (.agg [.rd (.int .u8), .int .i64, .int .u64])), (1001, .own (.struct [.int .i64, .int .i64]))]⟩)], fun _ ds k => dI (fun x0 ds => dL (fun x1 ds => dI (fun x2 ds => dI (fun x3 ds => dL (fun x4 ds => dE ((F x0 x1 x2 x3 x4).bind (fun y => k 0 [.L y.1, .I y.2.1, .I y.2.2.1, .L y.2.2.2])) ds) ds) ds) ds) ds) ds⟩
theorem q_spec_l1Cur_legs_L3 (F : Int → List D → Int → Int → List D → Option (List D × Int × Int × List D)) (x0 : Int) (x1 : List D) (x2 : Int) (x3 : Int) (x4 : List D) : runLoop (ocOf [e_spec_l1Cur_among]) (olOf [m_spec_l1Cur_legs_L3 F]) A 125 (codeAt (bodyOf Go.Proofs.Try.f125) 3) ((m_spec_l1Cur_legs_L3 F).sh.mk' [.I x0, .L x1, .I x2, .I x3, .L x4]) (fun e σ' => some (e, σ')) = c_spec_l1Cur_legs_L3 F x0 x1 x2 x3 x4 (fun y => some (.exit 0, SSt.mk' ⟨[.ptr 1000 [0], .undef, .undef, .full 1001 [] (.struct [.int .i64, .int .i64]), .undef, .undef, .undef, .undef, .undef, .undef, .undef, .undef, .undef, .undef, .undef, .undef, .undef, .undef, .undef, .undef, .undef, .undef, .undef, .undef, .undef, .undef, .undef, .undef, .undef, .undef, .undef, .undef, .undef, .undef, .undef, .undef, .undef, .undef, .undef, .undef, .undef, .undef, .undef, .undef, .undef, .undef, .undef, .undef, .undef, .undef, .undef], [(1000, .obox (.agg [.rd (.int .u8), .int .i64, .int .u64])), (1001, .own (.struct [.int .i64, .int .i64]))]⟩ [.L y.1, .I y.2.1, .I y.2.2.1, .L y.2.2.2])) := by kernel_rfl
theorem m_spec_l1Cur_legs_L3_ok : ∀ n, (m_spec_l1Cur_legs_L3 (n_spec_l1Cur_legs_L3 n)).ok Go.Proofs.Try.prog (codeAt (bodyOf Go.Proofs.Try.f125) 3) := by
  intro n
  induction n with
  | zero =>
    intro R ds k r h
    unfold m_spec_l1Cur_legs_L3 at h
    obtain ⟨x0, d0, rfl, h0⟩ := dI_some h
    obtain ⟨x1, d1, rfl, h1⟩ := dL_some h0
    obtain ⟨x2, d2, rfl, h2⟩ := dI_some h1
    obtain ⟨x3, d3, rfl, h3⟩ := dI_some h2
    obtain ⟨x4, d4, rfl, h4⟩ := dL_some h3
    obtain ⟨rfl, hE⟩ := dE_some h4
    obtain ⟨y, hy, hk⟩ := bnd_some hE
    cases hy
  | succ n ih =>
    intro R ds k r h
    unfold m_spec_l1Cur_legs_L3 at h
    obtain ⟨x0, d0, rfl, h0⟩ := dI_some h
    obtain ⟨x1, d1, rfl, h1⟩ := dL_some h0
    obtain ⟨x2, d2, rfl, h2⟩ := dI_some h1
    obtain ⟨x3, d3, rfl, h3⟩ := dI_some h2
    obtain ⟨x4, d4, rfl, h4⟩ := dL_some h3
    obtain ⟨rfl, hE⟩ := dE_some h4
    obtain ⟨y, hy, hk⟩ := bnd_some hE
    have hq := q_spec_l1Cur_legs_L3 (n_spec_l1Cur_legs_L3 n) x0 x1 x2 x3 x4
    rw [c_spec_l1Cur_legs_L3_bind] at hq
    rw [show c_spec_l1Cur_legs_L3 (n_spec_l1Cur_legs_L3 n) x0 x1 x2 x3 x4 some = some y from hy] at hq
    refine ⟨0, _, _, _, hk, rfl, loop_ok px (fx := ⟨Go.Proofs.Try.func125, by kernel_rfl, by kernel_rfl⟩) (entsOK_cons e_spec_l1Cur_among_ok entsOK_nil) (lentsOK_cons ih lentsOK_nil) (by kernel_rfl) ?_⟩
    exact hq
noncomputable def e_spec_l1Cur_legs_L3 : Lent := m_spec_l1Cur_legs_L3 (spec_l1Cur_legs_L3)
theorem e_spec_l1Cur_legs_L3_ok : (e_spec_l1Cur_legs_L3).ok Go.Proofs.Try.prog (codeAt (bodyOf Go.Proofs.Try.f125) 3) := by
  intro R ds k r h
  unfold e_spec_l1Cur_legs_L3 m_spec_l1Cur_legs_L3 at h
  obtain ⟨x0, d0, rfl, h0⟩ := dI_some h
  obtain ⟨x1, d1, rfl, h1⟩ := dL_some h0
  obtain ⟨x2, d2, rfl, h2⟩ := dI_some h1
  obtain ⟨x3, d3, rfl, h3⟩ := dI_some h2
  obtain ⟨x4, d4, rfl, h4⟩ := dL_some h3
  obtain ⟨rfl, hE⟩ := dE_some h4
  obtain ⟨y, hy, hk⟩ := bnd_some hE
  obtain ⟨n, hn⟩ := ev_some hy
  exact m_spec_l1Cur_legs_L3_ok n R _ k r (show (n_spec_l1Cur_legs_L3 n x0 x1 x2 x3 x4).bind _ = _ by rw [hn]; exact hk)

/-! (*loop.example/g00876/spec.l1Cur).legs, loop 12 -/
def c_spec_l1Cur_legs_L12 {R : Type} (F : List D → Int → Int → List D → Option (List D × Int × Int × List D)) (x0 : List D) (x1 : Int) (x2 : Int) (x3 : List D) (k : List D × Int × Int × List D → Option R) : Option R :=
 (spec_l1Cur_pick x0 x1 x2 (2 : Int)).bind (fun y0 =>
 bif Decidable.decide ((↑x3.length : Int) < Go.IntKind.i64.wrap ((20 : Int) + y0.fst)) then
 if x3.length + [Go.Rai.D.node [Go.Rai.D.int (1 : Int), Go.Rai.D.int (0 : Int)]].length ≤ (4294967296 : Nat) then
 (F y0.snd.fst y0.snd.snd.fst y0.snd.snd.snd (x3 ++ [Go.Rai.D.node [Go.Rai.D.int (1 : Int), Go.Rai.D.int (0 : Int)]])).bind k
 else
 none
 else
 k (y0.snd.fst, y0.snd.snd.fst, y0.snd.snd.snd, x3))
theorem c_spec_l1Cur_legs_L12_bind {R : Type} (F : List D → Int → Int → List D → Option (List D × Int × Int × List D)) (x0 : List D) (x1 : Int) (x2 : Int) (x3 : List D) (k : List D × Int × Int × List D → Option R) : c_spec_l1Cur_legs_L12 F x0 x1 x2 x3 k = (c_spec_l1Cur_legs_L12 F x0 x1 x2 x3 some).bind k := by
  unfold c_spec_l1Cur_legs_L12
  repeat' first
    | exact bnd_tail
    | exact bnd_none
    | exact bnd_leaf
    | apply bnd_ite
    | apply bnd_cond
    | apply bnd_sum
    | (apply bnd_bind; intro _)
    | intro _
def n_spec_l1Cur_legs_L12 : Nat → List D → Int → Int → List D → Option (List D × Int × Int × List D)
 | 0, _, _, _, _ => none
 | n + 1, x0, x1, x2, x3 => c_spec_l1Cur_legs_L12 (n_spec_l1Cur_legs_L12 n) x0 x1 x2 x3 some
noncomputable def spec_l1Cur_legs_L12 (x0 : List D) (x1 : Int) (x2 : Int) (x3 : List D) : Option (List D × Int × Int × List D) := ev (fun n => n_spec_l1Cur_legs_L12 n x0 x1 x2 x3)
def m_spec_l1Cur_legs_L12 (F : List D → Int → Int → List D → Option (List D × Int × Int × List D)) : Lent := ⟨12, ⟨[.ptr 1000 [0], .undef, .undef, .full 1001 [] (.struct [.int .i64, .int .i64]), .undef, .undef, .undef, .undef, .undef, .undef, .undef, .undef, .undef, .undef, .undef, .undef, .undef, .undef, .undef, .undef, .undef, .undef, .undef, .undef, .undef, .undef, .undef, .undef, .undef, .undef, .undef, .undef, .undef, .undef, .undef, .undef, .undef, .undef, .undef, .undef, .undef, .undef, .undef, .undef, .undef, .undef, .undef, .undef, .undef, .undef, .undef], [(1000, .obox (.agg [.rd (.int .u8), .int .i64, .int .u64])), (1001, .own (.struct [.int .i64, .int .i64]))]⟩, [(.exit 3, ⟨[.ptr 1000 [0], .undef, .undef, .full 1001 [] (.struct [.int .i64, .int .i64]), .undef, .undef, .undef, .undef, .undef, .undef, .undef, .undef, .undef, .undef, .undef, .undef, .undef, .undef, .undef, .undef, .undef, .undef, .undef, .undef, .undef, .undef, .undef, .undef, .undef, .undef, .undef, .undef, .undef, .undef, .undef, .undef, .undef, .undef, .undef, .undef, .undef, .undef, .undef, .undef, .undef, .undef, .undef, .undef, .undef, .undef, .undef], [(1000, .obox (.agg [.rd (.int .u8), .int .i64, .int .u64])), (1001, .own (.struct [.int .i64, .int .i64]))]⟩)], fun _ ds k => dL (fun x0 ds => dI (fun x1 ds => dI (fun x2 ds => dL (fun x3 ds => dE ((F x0 x1 x2 x3).bind (fun y => k 0 [.L y.1, .I y.2.1, .I y.2.2.1, .L y.2.2.2])) ds) ds) ds) ds) ds⟩
theorem q_spec_l1Cur_legs_L12 (F : List D → Int → Int → List D → Option (List D × Int × Int × List D)) (x0 : List D) (x1 : Int) (x2 : Int) (x3 : List D) : runLoop (ocOf [e_spec_l1Cur_pick]) (olOf [m_spec_l1Cur_legs_L12 F]) A 125 (codeAt (bodyOf Go.Proofs.Try.f125) 12) ((m_spec_l1Cur_legs_L12 F).sh.mk' [.L x0, .I x1, .I x2, .L x3]) (fun e σ' => some (e, σ')) = c_spec_l1Cur_legs_L12 F x0 x1 x2 x3 (fun y => some (.exit 3, SSt.mk' ⟨[.ptr 1000 [0], .undef, .undef, .full 1001 [] (.struct [.int .i64, .int .i64]), .undef, .undef, .undef, .undef, .undef, .undef, .undef, .undef, .undef, .undef, .undef, .undef, .undef, .undef, .undef, .undef, .undef, .undef, .undef, .undef, .undef, .undef, .undef, .undef, .undef, .undef, .undef, .undef, .undef, .undef, .undef, .undef, .undef, .undef, .undef, .undef, .undef, .undef, .undef, .undef, .undef, .undef, .undef, .undef, .undef, .undef, .undef], [(1000, .obox (.agg [.rd (.int .u8), .int .i64, .int .u64])), (1001, .own (.struct [.int .i64, .int .i64]))]⟩ [.L y.1, .I y.2.1, .I y.2.2.1, .L y.2.2.2])) := by kernel_rfl
theorem m_spec_l1Cur_legs_L12_ok : ∀ n, (m_spec_l1Cur_legs_L12 (n_spec_l1Cur_legs_L12 n)).ok Go.Proofs.Try.prog (codeAt (bodyOf Go.Proofs.Try.f125) 12) := by
  intro n
  induction n with
  | zero =>
    intro R ds k r h
    unfold m_spec_l1Cur_legs_L12 at h
    obtain ⟨x0, d0, rfl, h0⟩ := dL_some h
    obtain ⟨x1, d1, rfl, h1⟩ := dI_some h0
    obtain ⟨x2, d2, rfl, h2⟩ := dI_some h1
    obtain ⟨x3, d3, rfl, h3⟩ := dL_some h2
    obtain ⟨rfl, hE⟩ := dE_some h3
    obtain ⟨y, hy, hk⟩ := bnd_some hE
    cases hy
  | succ n ih =>
    intro R ds k r h
    unfold m_spec_l1Cur_legs_L12 at h
    obtain ⟨x0, d0, rfl, h0⟩ := dL_some h
    obtain ⟨x1, d1, rfl, h1⟩ := dI_some h0
    obtain ⟨x2, d2, rfl, h2⟩ := dI_some h1
    obtain ⟨x3, d3, rfl, h3⟩ := dL_some h2
    obtain ⟨rfl, hE⟩ := dE_some h3
    obtain ⟨y, hy, hk⟩ := bnd_some hE
    have hq := q_spec_l1Cur_legs_L12 (n_spec_l1Cur_legs_L12 n) x0 x1 x2 x3
    rw [c_spec_l1Cur_legs_L12_bind] at hq
    rw [show c_spec_l1Cur_legs_L12 (n_spec_l1Cur_legs_L12 n) x0 x1 x2 x3 some = some y from hy] at hq
    refine ⟨0, _, _, _, hk, rfl, loop_ok px (fx := ⟨Go.Proofs.Try.func125, by kernel_rfl, by kernel_rfl⟩) (entsOK_cons e_spec_l1Cur_pick_ok entsOK_nil) (lentsOK_cons ih lentsOK_nil) (by kernel_rfl) ?_⟩
    exact hq
noncomputable def e_spec_l1Cur_legs_L12 : Lent := m_spec_l1Cur_legs_L12 (spec_l1Cur_legs_L12)
theorem e_spec_l1Cur_legs_L12_ok : (e_spec_l1Cur_legs_L12).ok Go.Proofs.Try.prog (codeAt (bodyOf Go.Proofs.Try.f125) 12) := by
  intro R ds k r h
  unfold e_spec_l1Cur_legs_L12 m_spec_l1Cur_legs_L12 at h
  obtain ⟨x0, d0, rfl, h0⟩ := dL_some h
  obtain ⟨x1, d1, rfl, h1⟩ := dI_some h0
  obtain ⟨x2, d2, rfl, h2⟩ := dI_some h1
  obtain ⟨x3, d3, rfl, h3⟩ := dL_some h2
  obtain ⟨rfl, hE⟩ := dE_some h3
  obtain ⟨y, hy, hk⟩ := bnd_some hE
  obtain ⟨n, hn⟩ := ev_some hy
  exact m_spec_l1Cur_legs_L12_ok n R _ k r (show (n_spec_l1Cur_legs_L12 n x0 x1 x2 x3).bind _ = _ by rw [hn]; exact hk)

/-! (*loop.example/g00876/spec.l1Cur).legs -/
def c_spec_l1Cur_legs {R : Type} (x0 : List D) (x1 : Int) (x2 : Int) (k : List D × List D × Int × Int → Option R) : Option R :=
 (spec_l1Cur_pick x0 x1 x2 (6 : Int)).bind (fun y0 =>
 (spec_l1Cur_legs_L3 (Go.IntKind.i64.wrap ((1 : Int) + y0.fst)) y0.snd.fst y0.snd.snd.fst y0.snd.snd.snd []).bind (fun y1 =>
 (spec_l1Cur_pick y1.fst y1.snd.fst y1.snd.snd.fst (40 : Int)).bind (fun y2 =>
 bif Decidable.decide (y2.fst = (0 : Int)) then
 (spec_l1Cur_among y2.snd.fst y2.snd.snd.fst y2.snd.snd.snd ([Go.Rai.D.int (100000 : Int), Go.Rai.D.int (100001 : Int)])).bind (fun y3 =>
 if y1.snd.snd.snd.length + [Go.Rai.D.node [Go.Rai.D.int y3.fst, Go.Rai.D.int (0 : Int)]].length ≤ (4294967296 : Nat) then
 k (y1.snd.snd.snd ++ [Go.Rai.D.node [Go.Rai.D.int y3.fst, Go.Rai.D.int (0 : Int)]], y3.snd.fst, y3.snd.snd.fst, y3.snd.snd.snd)
 else
 none)
 else
 bif Decidable.decide (y2.fst = (1 : Int)) then
 if (0 : Int) ≤ (0 : Int) ∧ (0 : Int) ≤ (0 : Int) ∧ (0 : Int) ≤ (↑y1.snd.snd.snd.length : Int) then
 if (0 : Nat) + (Int.toNat (0 : Int) - (0 : Nat)) ≤ y1.snd.snd.snd.length then
 k (List.take (Int.toNat (0 : Int) - (0 : Nat)) (List.drop (0 : Nat) y1.snd.snd.snd), y2.snd.fst, y2.snd.snd.fst, y2.snd.snd.snd)
 else
 none
 else
 none
 else
 bif Decidable.decide (y2.fst = (2 : Int)) then
 (spec_l1Cur_legs_L12 y2.snd.fst y2.snd.snd.fst y2.snd.snd.snd y1.snd.snd.snd).bind (fun y4 =>
 k (y4.snd.snd.snd, y4.fst, y4.snd.fst, y4.snd.snd.fst))
 else
 k (y1.snd.snd.snd, y2.snd.fst, y2.snd.snd.fst, y2.snd.snd.snd))))
theorem c_spec_l1Cur_legs_bind {R : Type} (x0 : List D) (x1 : Int) (x2 : Int) (k : List D × List D × Int × Int → Option R) : c_spec_l1Cur_legs x0 x1 x2 k = (c_spec_l1Cur_legs x0 x1 x2 some).bind k := by
  unfold c_spec_l1Cur_legs
  repeat' first
    | exact bnd_tail
    | exact bnd_none
    | exact bnd_leaf
    | apply bnd_ite
    | apply bnd_cond
    | apply bnd_sum
    | (apply bnd_bind; intro _)
    | intro _
def spec_l1Cur_legs (x0 : List D) (x1 : Int) (x2 : Int) : Option (List D × List D × Int × Int) := c_spec_l1Cur_legs x0 x1 x2 some
def e_spec_l1Cur_legs : Ent := ⟨125, [.obox (.agg [.rd (.int .u8), .int .i64, .int .u64])], .own (.struct [.int .i64, .int .i64]), [.obox (.agg [.rd (.int .u8), .int .i64, .int .u64])], fun _ ds k => dL (fun x0 ds => dI (fun x1 ds => dI (fun x2 ds => dE ((spec_l1Cur_legs x0 x1 x2).bind (fun y => k [.L y.1, .L y.2.1, .I y.2.2.1, .I y.2.2.2])) ds) ds) ds) ds⟩
theorem q_spec_l1Cur_legs (x0 : List D) (x1 : Int) (x2 : Int) : runFn (ocOf [e_spec_l1Cur_pick, e_spec_l1Cur_among]) (olOf [e_spec_l1Cur_legs_L3, e_spec_l1Cur_legs_L12]) A 125 Go.Proofs.Try.f125 (Sh.mks e_spec_l1Cur_legs.sh [.L x0, .I x1, .I x2]).1 (fun v os => some (v, os)) = c_spec_l1Cur_legs x0 x1 x2 (fun y => some ((e_spec_l1Cur_legs.res.mk [.L y.1, .L y.2.1, .I y.2.2.1, .I y.2.2.2]).1, (Sh.mks e_spec_l1Cur_legs.outs (e_spec_l1Cur_legs.res.mk [.L y.1, .L y.2.1, .I y.2.2.1, .I y.2.2.2]).2).1)) := by kernel_rfl
theorem e_spec_l1Cur_legs_ok : e_spec_l1Cur_legs.ok Go.Proofs.Try.prog A := by
  intro R ds k r h
  unfold e_spec_l1Cur_legs at h
  obtain ⟨x0, d0, rfl, h0⟩ := dL_some h
  obtain ⟨x1, d1, rfl, h1⟩ := dI_some h0
  obtain ⟨x2, d2, rfl, h2⟩ := dI_some h1
  obtain ⟨rfl, hE⟩ := dE_some h2
  obtain ⟨y, hy, hk⟩ := bnd_some hE
  refine ⟨_, hk, fn_ok px (fx := ⟨Go.Proofs.Try.func125, by kernel_rfl, by kernel_rfl⟩) (entsOK_cons e_spec_l1Cur_pick_ok (entsOK_cons e_spec_l1Cur_among_ok entsOK_nil)) (lentsOK_cons e_spec_l1Cur_legs_L3_ok (lentsOK_cons e_spec_l1Cur_legs_L12_ok lentsOK_nil)) ?_⟩
  have hq := q_spec_l1Cur_legs x0 x1 x2
  rw [c_spec_l1Cur_legs_bind] at hq
  rw [show c_spec_l1Cur_legs x0 x1 x2 some = some y from hy] at hq
  exact hq

/-! loop.example/g00876/spec.l1In -/
def c_spec_l1In {R : Type} (x0 : Int) (x1 : Int) (x2 : Int) (k : Bool → Option R) : Option R :=
 bif Decidable.decide (x1 ≤ x0) then
 k (Decidable.decide (x0 ≤ x2))
 else
 k Bool.false
theorem c_spec_l1In_bind {R : Type} (x0 : Int) (x1 : Int) (x2 : Int) (k : Bool → Option R) : c_spec_l1In x0 x1 x2 k = (c_spec_l1In x0 x1 x2 some).bind k := by
  unfold c_spec_l1In
  repeat' first
    | exact bnd_tail
    | exact bnd_none
    | exact bnd_leaf
    | apply bnd_ite
    | apply bnd_cond
    | apply bnd_sum
    | (apply bnd_bind; intro _)
    | intro _
def spec_l1In (x0 : Int) (x1 : Int) (x2 : Int) : Option (Bool) := c_spec_l1In x0 x1 x2 some
def e_spec_l1In : Ent := ⟨67, [.int .i64, .int .i64, .int .i64], .bool, [.undef, .undef, .undef], fun _ ds k => dI (fun x0 ds => dI (fun x1 ds => dI (fun x2 ds => dE ((spec_l1In x0 x1 x2).bind (fun y => k [.B y])) ds) ds) ds) ds⟩
theorem q_spec_l1In (x0 : Int) (x1 : Int) (x2 : Int) : runFn (ocOf []) (olOf []) A 67 Go.Proofs.Try.f67 (Sh.mks e_spec_l1In.sh [.I x0, .I x1, .I x2]).1 (fun v os => some (v, os)) = c_spec_l1In x0 x1 x2 (fun y => some ((e_spec_l1In.res.mk [.B y]).1, (Sh.mks e_spec_l1In.outs (e_spec_l1In.res.mk [.B y]).2).1)) := by kernel_rfl
theorem e_spec_l1In_ok : e_spec_l1In.ok Go.Proofs.Try.prog A := by
  intro R ds k r h
  unfold e_spec_l1In at h
  obtain ⟨x0, d0, rfl, h0⟩ := dI_some h
  obtain ⟨x1, d1, rfl, h1⟩ := dI_some h0
  obtain ⟨x2, d2, rfl, h2⟩ := dI_some h1
  obtain ⟨rfl, hE⟩ := dE_some h2
  obtain ⟨y, hy, hk⟩ := bnd_some hE
  refine ⟨_, hk, fn_ok px (fx := ⟨Go.Proofs.Try.func67, by kernel_rfl, by kernel_rfl⟩) entsOK_nil lentsOK_nil ?_⟩
  have hq := q_spec_l1In x0 x1 x2
  rw [c_spec_l1In_bind] at hq
  rw [show c_spec_l1In x0 x1 x2 some = some y from hy] at hq
  exact hq

/-! loop.example/g00876/spec.l17Legs, loop 2 -/
def c_spec_l17Legs_L2 {R : Type} (F : List D → Int → Option ((List D × Bool) ⊕ (List D))) (x0 : List D) (x1 : Int) (k : (List D × Bool) ⊕ (List D) → Option R) : Option R :=
 bif Decidable.decide (x1 < (↑x0.length : Int)) then
 bif Decidable.decide (x1 ≤ (20 : Int)) then
 if (0 : Int) ≤ x1 ∧ x1 < (↑x0.length : Int) then
 (spec_l1In (((x0.getD x1.toNat (Go.Rai.D.int (0 : Int))).fld (0 : Nat)).toInt) (-100000 : Int) (100000 : Int)).bind (fun y0 =>
 bif !y0 then
 k (.inl (x0, Bool.false))
 else
 if (0 : Int) ≤ x1 ∧ x1 < (↑x0.length : Int) then
 (spec_l1In (((x0.getD x1.toNat (Go.Rai.D.int (0 : Int))).fld (1 : Nat)).toInt) (-100000 : Int) (100000 : Int)).bind (fun y1 =>
 bif !y1 then
 k (.inl (x0, Bool.false))
 else
 (F x0 (Go.IntKind.i64.wrap (x1 + (1 : Int)))).bind k)
 else
 none)
 else
 none
 else
 k (.inr x0)
 else
 k (.inr x0)
theorem c_spec_l17Legs_L2_bind {R : Type} (F : List D → Int → Option ((List D × Bool) ⊕ (List D))) (x0 : List D) (x1 : Int) (k : (List D × Bool) ⊕ (List D) → Option R) : c_spec_l17Legs_L2 F x0 x1 k = (c_spec_l17Legs_L2 F x0 x1 some).bind k := by
  unfold c_spec_l17Legs_L2
  repeat' first
    | exact bnd_tail
    | exact bnd_none
    | exact bnd_leaf
    | apply bnd_ite
    | apply bnd_cond
    | apply bnd_sum
    | (apply bnd_bind; intro _)
    | intro _
def n_spec_l17Legs_L2 : Nat → List D → Int → Option ((List D × Bool) ⊕ (List D))
 | 0, _, _ => none
 | n + 1, x0, x1 => c_spec_l17Legs_L2 (n_spec_l17Legs_L2 n) x0 x1 some
noncomputable def spec_l17Legs_L2 (x0 : List D) (x1 : Int) : Option ((List D × Bool) ⊕ (List D)) := ev (fun n => n_spec_l17Legs_L2 n x0 x1)
def m_spec_l17Legs_L2 (F : List D → Int → Option ((List D × Bool) ⊕ (List D))) : Lent := ⟨2, ⟨[.rd (.struct [.int .i64, .int .i64]), .undef, .undef, .int .i64, .undef, .undef, .undef, .undef, .undef, .undef, .undef, .undef, .undef, .undef, .undef, .undef, .undef, .undef, .undef, .undef, .undef, .undef, .undef, .undef, .undef, .undef, .undef, .undef, .undef, .undef, .undef, .undef, .undef], []⟩, [(.ret, ⟨[.rd (.struct [.int .i64, .int .i64]), .undef, .bool, .undef, .undef, .undef, .undef, .undef, .undef, .undef, .undef, .undef, .undef, .undef, .undef, .undef, .undef, .undef, .undef, .undef, .undef, .undef, .undef, .undef, .undef, .undef, .undef, .undef, .undef, .undef, .undef, .undef, .undef], []⟩), (.exit 0, ⟨[.rd (.struct [.int .i64, .int .i64]), .undef, .undef, .undef, .undef, .undef, .undef, .undef, .undef, .undef, .undef, .undef, .undef, .undef, .undef, .undef, .undef, .undef, .undef, .undef, .undef, .undef, .undef, .undef, .undef, .undef, .undef, .undef, .undef, .undef, .undef, .undef, .undef], []⟩)], fun _ ds k => dL (fun x0 ds => dI (fun x1 ds => dE ((F x0 x1).bind (Sum.elim (fun y => k 0 [.L y.1, .B y.2]) (fun y => k 1 [.L y]))) ds) ds) ds⟩
theorem q_spec_l17Legs_L2 (F : List D → Int → Option ((List D × Bool) ⊕ (List D))) (x0 : List D) (x1 : Int) : runLoop (ocOf [e_spec_l1In]) (olOf [m_spec_l17Legs_L2 F]) A 126 (codeAt (bodyOf Go.Proofs.Try.f126) 2) ((m_spec_l17Legs_L2 F).sh.mk' [.L x0, .I x1]) (fun e σ' => some (e, σ')) = c_spec_l17Legs_L2 F x0 x1 (Sum.elim (fun y => some (.ret, SSt.mk' ⟨[.rd (.struct [.int .i64, .int .i64]), .undef, .bool, .undef, .undef, .undef, .undef, .undef, .undef, .undef, .undef, .undef, .undef, .undef, .undef, .undef, .undef, .undef, .undef, .undef, .undef, .undef, .undef, .undef, .undef, .undef, .undef, .undef, .undef, .undef, .undef, .undef, .undef], []⟩ [.L y.1, .B y.2])) (fun y => some (.exit 0, SSt.mk' ⟨[.rd (.struct [.int .i64, .int .i64]), .undef, .undef, .undef, .undef, .undef, .undef, .undef, .undef, .undef, .undef, .undef, .undef, .undef, .undef, .undef, .undef, .undef, .undef, .undef, .undef, .undef, .undef, .undef, .undef, .undef, .undef, .undef, .undef, .undef, .undef, .undef, .undef], []⟩ [.L y]))) := by kernel_rfl
theorem m_spec_l17Legs_L2_ok : ∀ n, (m_spec_l17Legs_L2 (n_spec_l17Legs_L2 n)).ok Go.Proofs.Try.prog (codeAt (bodyOf Go.Proofs.Try.f126) 2) := by
  intro n
  induction n with
  | zero =>
    intro R ds k r h
    unfold m_spec_l17Legs_L2 at h
    obtain ⟨x0, d0, rfl, h0⟩ := dL_some h
    obtain ⟨x1, d1, rfl, h1⟩ := dI_some h0
    obtain ⟨rfl, hE⟩ := dE_some h1
    obtain ⟨y, hy, hk⟩ := bnd_some hE
    cases hy
  | succ n ih =>
    intro R ds k r h
    unfold m_spec_l17Legs_L2 at h
    obtain ⟨x0, d0, rfl, h0⟩ := dL_some h
    obtain ⟨x1, d1, rfl, h1⟩ := dI_some h0
    obtain ⟨rfl, hE⟩ := dE_some h1
    obtain ⟨y, hy, hk⟩ := bnd_some hE
    have hq := q_spec_l17Legs_L2 (n_spec_l17Legs_L2 n) x0 x1
    rw [c_spec_l17Legs_L2_bind] at hq
    rw [show c_spec_l17Legs_L2 (n_spec_l17Legs_L2 n) x0 x1 some = some y from hy] at hq
    cases y with
    | inl y =>
      refine ⟨0, _, _, _, hk, rfl, loop_ok px (fx := ⟨Go.Proofs.Try.func126, by kernel_rfl, by kernel_rfl⟩) (entsOK_cons e_spec_l1In_ok entsOK_nil) (lentsOK_cons ih lentsOK_nil) (by kernel_rfl) ?_⟩
      exact hq
    | inr y =>
      refine ⟨1, _, _, _, hk, rfl, loop_ok px (fx := ⟨Go.Proofs.Try.func126, by kernel_rfl, by kernel_rfl⟩) (entsOK_cons e_spec_l1In_ok entsOK_nil) (lentsOK_cons ih lentsOK_nil) (by kernel_rfl) ?_⟩
      exact hq
noncomputable def e_spec_l17Legs_L2 : Lent := m_spec_l17Legs_L2 (spec_l17Legs_L2)
theorem e_spec_l17Legs_L2_ok : (e_spec_l17Legs_L2).ok Go.Proofs.Try.prog (codeAt (bodyOf Go.Proofs.Try.f126) 2) := by
  intro R ds k r h
  unfold e_spec_l17Legs_L2 m_spec_l17Legs_L2 at h
  obtain ⟨x0, d0, rfl, h0⟩ := dL_some h
  obtain ⟨x1, d1, rfl, h1⟩ := dI_some h0
  obtain ⟨rfl, hE⟩ := dE_some h1
  obtain ⟨y, hy, hk⟩ := bnd_some hE
  obtain ⟨n, hn⟩ := ev_some hy
  exact m_spec_l17Legs_L2_ok n R _ k r (show (n_spec_l17Legs_L2 n x0 x1).bind _ = _ by rw [hn]; exact hk)

/-! loop.example/g00876/spec.l17Legs -/
def c_spec_l17Legs {R : Type} (x0 : List D) (k : Bool → Option R) : Option R :=
 (spec_l17Legs_L2 x0 (0 : Int)).bind (Sum.elim (fun y0 =>
 k y0.snd) (fun y1 =>
 (spec_l1In (↑y1.length : Int) (1 : Int) (20 : Int)).bind (fun y2 =>
 k y2)))
theorem c_spec_l17Legs_bind {R : Type} (x0 : List D) (k : Bool → Option R) : c_spec_l17Legs x0 k = (c_spec_l17Legs x0 some).bind k := by
  unfold c_spec_l17Legs
  repeat' first
    | exact bnd_tail
    | exact bnd_none
    | exact bnd_leaf
    | apply bnd_ite
    | apply bnd_cond
    | apply bnd_sum
    | (apply bnd_bind; intro _)
    | intro _
def spec_l17Legs (x0 : List D) : Option (Bool) := c_spec_l17Legs x0 some
def e_spec_l17Legs : Ent := ⟨126, [.rd (.struct [.int .i64, .int .i64])], .bool, [.undef], fun _ ds k => dL (fun x0 ds => dE ((spec_l17Legs x0).bind (fun y => k [.B y])) ds) ds⟩
theorem q_spec_l17Legs (x0 : List D) : runFn (ocOf [e_spec_l1In]) (olOf [e_spec_l17Legs_L2]) A 126 Go.Proofs.Try.f126 (Sh.mks e_spec_l17Legs.sh [.L x0]).1 (fun v os => some (v, os)) = c_spec_l17Legs x0 (fun y => some ((e_spec_l17Legs.res.mk [.B y]).1, (Sh.mks e_spec_l17Legs.outs (e_spec_l17Legs.res.mk [.B y]).2).1)) := by kernel_rfl
theorem e_spec_l17Legs_ok : e_spec_l17Legs.ok Go.Proofs.Try.prog A := by
  intro R ds k r h
  unfold e_spec_l17Legs at h
  obtain ⟨x0, d0, rfl, h0⟩ := dL_some h
  obtain ⟨rfl, hE⟩ := dE_some h0
  obtain ⟨y, hy, hk⟩ := bnd_some hE
  refine ⟨_, hk, fn_ok px (fx := ⟨Go.Proofs.Try.func126, by kernel_rfl, by kernel_rfl⟩) (entsOK_cons e_spec_l1In_ok entsOK_nil) (lentsOK_cons e_spec_l17Legs_L2_ok lentsOK_nil) ?_⟩
  have hq := q_spec_l17Legs x0
  rw [c_spec_l17Legs_bind] at hq
  rw [show c_spec_l17Legs x0 some = some y from hy] at hq
  exact hq

/-! loop.example/g00876/spec.l17Point -/
def c_spec_l17Point {R : Type} (x0 : Int) (x1 : Int) (k : Bool → Option R) : Option R :=
 (spec_l1In x0 (-1000000 : Int) (1000000 : Int)).bind (fun y0 =>
 bif y0 then
 (spec_l1In x1 (-1000000 : Int) (1000000 : Int)).bind (fun y1 =>
 k y1)
 else
 k Bool.false)
theorem c_spec_l17Point_bind {R : Type} (x0 : Int) (x1 : Int) (k : Bool → Option R) : c_spec_l17Point x0 x1 k = (c_spec_l17Point x0 x1 some).bind k := by
  unfold c_spec_l17Point
  repeat' first
    | exact bnd_tail
    | exact bnd_none
    | exact bnd_leaf
    | apply bnd_ite
    | apply bnd_cond
    | apply bnd_sum
    | (apply bnd_bind; intro _)
    | intro _
def spec_l17Point (x0 : Int) (x1 : Int) : Option (Bool) := c_spec_l17Point x0 x1 some
def e_spec_l17Point : Ent := ⟨86, [.agg [.int .i64, .int .i64]], .bool, [.undef], fun _ ds k => dI (fun x0 ds => dI (fun x1 ds => dE ((spec_l17Point x0 x1).bind (fun y => k [.B y])) ds) ds) ds⟩
theorem q_spec_l17Point (x0 : Int) (x1 : Int) : runFn (ocOf [e_spec_l1In]) (olOf []) A 86 Go.Proofs.Try.f86 (Sh.mks e_spec_l17Point.sh [.I x0, .I x1]).1 (fun v os => some (v, os)) = c_spec_l17Point x0 x1 (fun y => some ((e_spec_l17Point.res.mk [.B y]).1, (Sh.mks e_spec_l17Point.outs (e_spec_l17Point.res.mk [.B y]).2).1)) := by kernel_rfl
theorem e_spec_l17Point_ok : e_spec_l17Point.ok Go.Proofs.Try.prog A := by
  intro R ds k r h
  unfold e_spec_l17Point at h
  obtain ⟨x0, d0, rfl, h0⟩ := dI_some h
  obtain ⟨x1, d1, rfl, h1⟩ := dI_some h0
  obtain ⟨rfl, hE⟩ := dE_some h1
  obtain ⟨y, hy, hk⟩ := bnd_some hE
  refine ⟨_, hk, fn_ok px (fx := ⟨Go.Proofs.Try.func86, by kernel_rfl, by kernel_rfl⟩) (entsOK_cons e_spec_l1In_ok entsOK_nil) lentsOK_nil ?_⟩
  have hq := q_spec_l17Point x0 x1
  rw [c_spec_l17Point_bind] at hq
  rw [show c_spec_l17Point x0 x1 some = some y from hy] at hq
  exact hq

/-! loop.example/g00876/spec.l17Points, loop 6 -/
def c_spec_l17Points_L6 {R : Type} (F : List D → Int → List D → Int → Int → Option ((Bool × List D × List D) ⊕ (List D))) (x0 : List D) (x1 : Int) (x2 : List D) (x3 : Int) (x4 : Int) (k : (Bool × List D × List D) ⊕ (List D) → Option R) : Option R :=
 bif Decidable.decide (x1 < (↑x0.length : Int)) then
 if (0 : Int) ≤ x1 ∧ x1 < (↑x0.length : Int) then
 if (0 : Int) ≤ x1 ∧ x1 < (↑x0.length : Int) then
 (spec_l17Point (Go.IntKind.i64.wrap (x3 + ((x0.getD x1.toNat (Go.Rai.D.int (0 : Int))).fld (0 : Nat)).toInt)) (Go.IntKind.i64.wrap (x4 + ((x0.getD x1.toNat (Go.Rai.D.int (0 : Int))).fld (1 : Nat)).toInt))).bind (fun y0 =>
 bif !y0 then
 k (.inl (Bool.false, [], x2))
 else
 if x2.length + [Go.Rai.D.node [Go.Rai.D.int (Go.IntKind.i64.wrap (x3 + ((x0.getD x1.toNat (Go.Rai.D.int (0 : Int))).fld (0 : Nat)).toInt)), Go.Rai.D.int (Go.IntKind.i64.wrap (x4 + ((x0.getD x1.toNat (Go.Rai.D.int (0 : Int))).fld (1 : Nat)).toInt))]].length ≤ (4294967296 : Nat) then
 (F x0 (Go.IntKind.i64.wrap (x1 + (1 : Int))) (x2 ++ [Go.Rai.D.node [Go.Rai.D.int (Go.IntKind.i64.wrap (x3 + ((x0.getD x1.toNat (Go.Rai.D.int (0 : Int))).fld (0 : Nat)).toInt)), Go.Rai.D.int (Go.IntKind.i64.wrap (x4 + ((x0.getD x1.toNat (Go.Rai.D.int (0 : Int))).fld (1 : Nat)).toInt))]]) (Go.IntKind.i64.wrap (x3 + ((x0.getD x1.toNat (Go.Rai.D.int (0 : Int))).fld (0 : Nat)).toInt)) (Go.IntKind.i64.wrap (x4 + ((x0.getD x1.toNat (Go.Rai.D.int (0 : Int))).fld (1 : Nat)).toInt))).bind k
 else
 none)
 else
 none
 else
 none
 else
 k (.inr x2)
theorem c_spec_l17Points_L6_bind {R : Type} (F : List D → Int → List D → Int → Int → Option ((Bool × List D × List D) ⊕ (List D))) (x0 : List D) (x1 : Int) (x2 : List D) (x3 : Int) (x4 : Int) (k : (Bool × List D × List D) ⊕ (List D) → Option R) : c_spec_l17Points_L6 F x0 x1 x2 x3 x4 k = (c_spec_l17Points_L6 F x0 x1 x2 x3 x4 some).bind k := by
  unfold c_spec_l17Points_L6
  repeat' first
    | exact bnd_tail
    | exact bnd_none
    | exact bnd_leaf
    | apply bnd_ite
    | apply bnd_cond
    | apply bnd_sum
    | (apply bnd_bind; intro _)
    | intro _
def n_spec_l17Points_L6 : Nat → List D → Int → List D → Int → Int → Option ((Bool × List D × List D) ⊕ (List D))
 | 0, _, _, _, _, _ => none
 | n + 1, x0, x1, x2, x3, x4 => c_spec_l17Points_L6 (n_spec_l17Points_L6 n) x0 x1 x2 x3 x4 some
noncomputable def spec_l17Points_L6 (x0 : List D) (x1 : Int) (x2 : List D) (x3 : Int) (x4 : Int) : Option ((Bool × List D × List D) ⊕ (List D)) := ev (fun n => n_spec_l17Points_L6 n x0 x1 x2 x3 x4)
def m_spec_l17Points_L6 (F : List D → Int → List D → Int → Int → Option ((Bool × List D × List D) ⊕ (List D))) : Lent := ⟨6, ⟨[.undef, .rd (.struct [.int .i64, .int .i64]), .undef, .undef, .undef, .undef, .full 1000 [] (.struct [.int .i64, .int .i64]), .ptr 1001 [0], .int .i64, .undef, .undef, .undef, .undef, .undef, .undef, .undef, .undef, .undef, .undef, .undef, .undef, .undef, .undef, .undef, .undef, .undef, .undef, .undef, .undef, .undef, .undef, .undef, .undef, .undef, .undef, .undef, .undef, .undef, .undef, .undef, .undef, .undef, .undef, .undef, .undef, .undef, .undef, .undef, .undef, .undef, .undef, .undef], [(1000, .own (.struct [.int .i64, .int .i64])), (1001, .obox (.agg [.int .i64, .int .i64]))]⟩, [(.ret, ⟨[.undef, .undef, .undef, .undef, .full 1000 [] (.struct [.int .i64, .int .i64]), .bool, .full 1001 [] (.struct [.int .i64, .int .i64]), .undef, .undef, .undef, .undef, .undef, .undef, .undef, .undef, .undef, .undef, .undef, .undef, .undef, .undef, .undef, .undef, .undef, .undef, .undef, .undef, .undef, .undef, .undef, .undef, .undef, .undef, .undef, .undef, .undef, .undef, .undef, .undef, .undef, .undef, .undef, .undef, .undef, .undef, .undef, .undef, .undef, .undef, .undef, .undef, .undef], [(1000, .own (.struct [.int .i64, .int .i64])), (1001, .own (.struct [.int .i64, .int .i64]))]⟩), (.exit 0, ⟨[.undef, .undef, .undef, .undef, .undef, .undef, .full 1000 [] (.struct [.int .i64, .int .i64]), .undef, .undef, .undef, .undef, .undef, .undef, .undef, .undef, .undef, .undef, .undef, .undef, .undef, .undef, .undef, .undef, .undef, .undef, .undef, .undef, .undef, .undef, .undef, .undef, .undef, .undef, .undef, .undef, .undef, .undef, .undef, .undef, .undef, .undef, .undef, .undef, .undef, .undef, .undef, .undef, .undef, .undef, .undef, .undef, .undef], [(1000, .own (.struct [.int .i64, .int .i64]))]⟩)], fun _ ds k => dL (fun x0 ds => dI (fun x1 ds => dL (fun x2 ds => dI (fun x3 ds => dI (fun x4 ds => dE ((F x0 x1 x2 x3 x4).bind (Sum.elim (fun y => k 0 [.B y.1, .L y.2.1, .L y.2.2]) (fun y => k 1 [.L y]))) ds) ds) ds) ds) ds) ds⟩
theorem q_spec_l17Points_L6 (F : List D → Int → List D → Int → Int → Option ((Bool × List D × List D) ⊕ (List D))) (x0 : List D) (x1 : Int) (x2 : List D) (x3 : Int) (x4 : Int) : runLoop (ocOf [e_spec_l17Point]) (olOf [m_spec_l17Points_L6 F]) A 90 (codeAt (bodyOf Go.Proofs.Try.f90) 6) ((m_spec_l17Points_L6 F).sh.mk' [.L x0, .I x1, .L x2, .I x3, .I x4]) (fun e σ' => some (e, σ')) = c_spec_l17Points_L6 F x0 x1 x2 x3 x4 (Sum.elim (fun y => some (.ret, SSt.mk' ⟨[.undef, .undef, .undef, .undef, .full 1000 [] (.struct [.int .i64, .int .i64]), .bool, .full 1001 [] (.struct [.int .i64, .int .i64]), .undef, .undef, .undef, .undef, .undef, .undef, .undef, .undef, .undef, .undef, .undef, .undef, .undef, .undef, .undef, .undef, .undef, .undef, .undef, .undef, .undef, .undef, .undef, .undef, .undef, .undef, .undef, .undef, .undef, .undef, .undef, .undef, .undef, .undef, .undef, .undef, .undef, .undef, .undef, .undef, .undef, .undef, .undef, .undef, .undef], [(1000, .own (.struct [.int .i64, .int .i64])), (1001, .own (.struct [.int .i64, .int .i64]))]⟩ [.B y.1, .L y.2.1, .L y.2.2])) (fun y => some (.exit 0, SSt.mk' ⟨[.undef, .undef, .undef, .undef, .undef, .undef, .full 1000 [] (.struct [.int .i64, .int .i64]), .undef, .undef, .undef, .undef, .undef, .undef, .undef, .undef, .undef, .undef, .undef, .undef, .undef, .undef, .undef, .undef, .undef, .undef, .undef, .undef, .undef, .undef, .undef, .undef, .undef, .undef, .undef, .undef, .undef, .undef, .undef, .undef, .undef, .undef, .undef, .undef, .undef, .undef, .undef, .undef, .undef, .undef, .undef, .undef, .undef], [(1000, .own (.struct [.int .i64, .int .i64]))]⟩ [.L y]))) := by kernel_rfl
theorem m_spec_l17Points_L6_ok : ∀ n, (m_spec_l17Points_L6 (n_spec_l17Points_L6 n)).ok Go.Proofs.Try.prog (codeAt (bodyOf Go.Proofs.Try.f90) 6) := by
  intro n
  induction n with
  | zero =>
    intro R ds k r h
    unfold m_spec_l17Points_L6 at h
    obtain ⟨x0, d0, rfl, h0⟩ := dL_some h
    obtain ⟨x1, d1, rfl, h1⟩ := dI_some h0
    obtain ⟨x2, d2, rfl, h2⟩ := dL_some h1
    obtain ⟨x3, d3, rfl, h3⟩ := dI_some h2
    obtain ⟨x4, d4, rfl, h4⟩ := dI_some h3
    obtain ⟨rfl, hE⟩ := dE_some h4
    obtain ⟨y, hy, hk⟩ := bnd_some hE
    cases hy
  | succ n ih =>
    intro R ds k r h
    unfold m_spec_l17Points_L6 at h
    obtain ⟨x0, d0, rfl, h0⟩ := dL_some h
    obtain ⟨x1, d1, rfl, h1⟩ := dI_some h0
    obtain ⟨x2, d2, rfl, h2⟩ := dL_some h1
    obtain ⟨x3, d3, rfl, h3⟩ := dI_some h2
    obtain ⟨x4, d4, rfl, h4⟩ := dI_some h3
    obtain ⟨rfl, hE⟩ := dE_some h4
    obtain ⟨y, hy, hk⟩ := bnd_some hE
    have hq := q_spec_l17Points_L6 (n_spec_l17Points_L6 n) x0 x1 x2 x3 x4
    rw [c_spec_l17Points_L6_bind] at hq
    rw [show c_spec_l17Points_L6 (n_spec_l17Points_L6 n) x0 x1 x2 x3 x4 some = some y from hy] at hq
    cases y with
    | inl y =>
      refine ⟨0, _, _, _, hk, rfl, loop_ok px (fx := ⟨Go.Proofs.Try.func90, by kernel_rfl, by kernel_rfl⟩) (entsOK_cons e_spec_l17Point_ok entsOK_nil) (lentsOK_cons ih lentsOK_nil) (by kernel_rfl) ?_⟩
      exact hq
    | inr y =>
      refine ⟨1, _, _, _, hk, rfl, loop_ok px (fx := ⟨Go.Proofs.Try.func90, by kernel_rfl, by kernel_rfl⟩) (entsOK_cons e_spec_l17Point_ok entsOK_nil) (lentsOK_cons ih lentsOK_nil) (by kernel_rfl) ?_⟩
      exact hq
noncomputable def e_spec_l17Points_L6 : Lent := m_spec_l17Points_L6 (spec_l17Points_L6)
theorem e_spec_l17Points_L6_ok : (e_spec_l17Points_L6).ok Go.Proofs.Try.prog (codeAt (bodyOf Go.Proofs.Try.f90) 6) := by
  intro R ds k r h
  unfold e_spec_l17Points_L6 m_spec_l17Points_L6 at h
  obtain ⟨x0, d0, rfl, h0⟩ := dL_some h
  obtain ⟨x1, d1, rfl, h1⟩ := dI_some h0
  obtain ⟨x2, d2, rfl, h2⟩ := dL_some h1
  obtain ⟨x3, d3, rfl, h3⟩ := dI_some h2
  obtain ⟨x4, d4, rfl, h4⟩ := dI_some h3
  obtain ⟨rfl, hE⟩ := dE_some h4
  obtain ⟨y, hy, hk⟩ := bnd_some hE
  obtain ⟨n, hn⟩ := ev_some hy
  exact m_spec_l17Points_L6_ok n R _ k r (show (n_spec_l17Points_L6 n x0 x1 x2 x3 x4).bind _ = _ by rw [hn]; exact hk)

/-! loop.example/g00876/spec.l17Points -/
def c_spec_l17Points {R : Type} (x0 : Int) (x1 : Int) (x2 : List D) (k : List D × Bool → Option R) : Option R :=
 (spec_l17Legs x2).bind (fun y0 =>
 bif !y0 then
 k ([], Bool.false)
 else
 (spec_l17Point x0 x1).bind (fun y1 =>
 bif !y1 then
 k ([], Bool.false)
 else
 (spec_l17Points_L6 x2 (0 : Int) [] x0 x1).bind (Sum.elim (fun y2 =>
 k (y2.snd.fst, y2.fst)) (fun y3 =>
 k (y3, Bool.true)))))
theorem c_spec_l17Points_bind {R : Type} (x0 : Int) (x1 : Int) (x2 : List D) (k : List D × Bool → Option R) : c_spec_l17Points x0 x1 x2 k = (c_spec_l17Points x0 x1 x2 some).bind k := by
  unfold c_spec_l17Points
  repeat' first
    | exact bnd_tail
    | exact bnd_none
    | exact bnd_leaf
    | apply bnd_ite
    | apply bnd_cond
    | apply bnd_sum
    | (apply bnd_bind; intro _)
    | intro _
def spec_l17Points (x0 : Int) (x1 : Int) (x2 : List D) : Option (List D × Bool) := c_spec_l17Points x0 x1 x2 some
def e_spec_l17Points : Ent := ⟨90, [.agg [.int .i64, .int .i64], .rd (.struct [.int .i64, .int .i64])], .tup [.own (.struct [.int .i64, .int .i64]), .bool], [.undef, .undef], fun _ ds k => dI (fun x0 ds => dI (fun x1 ds => dL (fun x2 ds => dE ((spec_l17Points x0 x1 x2).bind (fun y => k [.L y.1, .B y.2])) ds) ds) ds) ds⟩
theorem q_spec_l17Points (x0 : Int) (x1 : Int) (x2 : List D) : runFn (ocOf [e_spec_l17Legs, e_spec_l17Point]) (olOf [e_spec_l17Points_L6]) A 90 Go.Proofs.Try.f90 (Sh.mks e_spec_l17Points.sh [.I x0, .I x1, .L x2]).1 (fun v os => some (v, os)) = c_spec_l17Points x0 x1 x2 (fun y => some ((e_spec_l17Points.res.mk [.L y.1, .B y.2]).1, (Sh.mks e_spec_l17Points.outs (e_spec_l17Points.res.mk [.L y.1, .B y.2]).2).1)) := by kernel_rfl
theorem e_spec_l17Points_ok : e_spec_l17Points.ok Go.Proofs.Try.prog A := by
  intro R ds k r h
  unfold e_spec_l17Points at h
  obtain ⟨x0, d0, rfl, h0⟩ := dI_some h
  obtain ⟨x1, d1, rfl, h1⟩ := dI_some h0
  obtain ⟨x2, d2, rfl, h2⟩ := dL_some h1
  obtain ⟨rfl, hE⟩ := dE_some h2
  obtain ⟨y, hy, hk⟩ := bnd_some hE
  refine ⟨_, hk, fn_ok px (fx := ⟨Go.Proofs.Try.func90, by kernel_rfl, by kernel_rfl⟩) (entsOK_cons e_spec_l17Legs_ok (entsOK_cons e_spec_l17Point_ok entsOK_nil)) (lentsOK_cons e_spec_l17Points_L6_ok lentsOK_nil) ?_⟩
  have hq := q_spec_l17Points x0 x1 x2
  rw [c_spec_l17Points_bind] at hq
  rw [show c_spec_l17Points x0 x1 x2 some = some y from hy] at hq
  exact hq

/-! loop.example/g00876/spec.TraverseEnd -/
def c_spec_TraverseEnd {R : Type} (x0 : Int) (x1 : Int) (x2 : List D) (k : Int × Int × Bool → Option R) : Option R :=
 (spec_l17Points x0 x1 x2).bind (fun y0 =>
 bif !y0.snd then
 k ((0 : Int), (0 : Int), Bool.false)
 else
 if (0 : Int) ≤ Go.IntKind.i64.wrap ((↑y0.fst.length : Int) - (1 : Int)) ∧ Go.IntKind.i64.wrap ((↑y0.fst.length : Int) - (1 : Int)) < (↑y0.fst.length : Int) then
 if (Go.IntKind.i64.wrap ((↑y0.fst.length : Int) - (1 : Int))).toNat + (1 : Nat) ≤ y0.fst.length then
 k (((y0.fst.getD (Go.IntKind.i64.wrap ((↑y0.fst.length : Int) - (1 : Int))).toNat (Go.Rai.D.int (0 : Int))).fld (0 : Nat)).toInt, ((y0.fst.getD (Go.IntKind.i64.wrap ((↑y0.fst.length : Int) - (1 : Int))).toNat (Go.Rai.D.int (0 : Int))).fld (1 : Nat)).toInt, Bool.true)
 else
 none
 else
 none)
theorem c_spec_TraverseEnd_bind {R : Type} (x0 : Int) (x1 : Int) (x2 : List D) (k : Int × Int × Bool → Option R) : c_spec_TraverseEnd x0 x1 x2 k = (c_spec_TraverseEnd x0 x1 x2 some).bind k := by
  unfold c_spec_TraverseEnd
  repeat' first
    | exact bnd_tail
    | exact bnd_none
    | exact bnd_leaf
    | apply bnd_ite
    | apply bnd_cond
    | apply bnd_sum
    | (apply bnd_bind; intro _)
    | intro _
def spec_TraverseEnd (x0 : Int) (x1 : Int) (x2 : List D) : Option (Int × Int × Bool) := c_spec_TraverseEnd x0 x1 x2 some
def e_spec_TraverseEnd : Ent := ⟨85, [.agg [.int .i64, .int .i64], .rd (.struct [.int .i64, .int .i64])], .tup [.agg [.int .i64, .int .i64], .bool], [.undef, .undef], fun _ ds k => dI (fun x0 ds => dI (fun x1 ds => dL (fun x2 ds => dE ((spec_TraverseEnd x0 x1 x2).bind (fun y => k [.I y.1, .I y.2.1, .B y.2.2])) ds) ds) ds) ds⟩
theorem q_spec_TraverseEnd (x0 : Int) (x1 : Int) (x2 : List D) : runFn (ocOf [e_spec_l17Points]) (olOf []) A 85 Go.Proofs.Try.f85 (Sh.mks e_spec_TraverseEnd.sh [.I x0, .I x1, .L x2]).1 (fun v os => some (v, os)) = c_spec_TraverseEnd x0 x1 x2 (fun y => some ((e_spec_TraverseEnd.res.mk [.I y.1, .I y.2.1, .B y.2.2]).1, (Sh.mks e_spec_TraverseEnd.outs (e_spec_TraverseEnd.res.mk [.I y.1, .I y.2.1, .B y.2.2]).2).1)) := by kernel_rfl
theorem e_spec_TraverseEnd_ok : e_spec_TraverseEnd.ok Go.Proofs.Try.prog A := by
  intro R ds k r h
  unfold e_spec_TraverseEnd at h
  obtain ⟨x0, d0, rfl, h0⟩ := dI_some h
  obtain ⟨x1, d1, rfl, h1⟩ := dI_some h0
  obtain ⟨x2, d2, rfl, h2⟩ := dL_some h1
  obtain ⟨rfl, hE⟩ := dE_some h2
  obtain ⟨y, hy, hk⟩ := bnd_some hE
  refine ⟨_, hk, fn_ok px (fx := ⟨Go.Proofs.Try.func85, by kernel_rfl, by kernel_rfl⟩) (entsOK_cons e_spec_l17Points_ok entsOK_nil) lentsOK_nil ?_⟩
  have hq := q_spec_TraverseEnd x0 x1 x2
  rw [c_spec_TraverseEnd_bind] at hq
  rw [show c_spec_TraverseEnd x0 x1 x2 some = some y from hy] at hq
  exact hq

/-! loop.example/g00876/spec.DrawMisclosure -/
def c_spec_DrawMisclosure {R : Type} (x0 : List D) (k : Int × Int × List D × Int × Int → Option R) : Option R :=
 (spec_l1Cur_point x0 (0 : Int) (0 : Int)).bind (fun y0 =>
 (spec_l1Cur_legs y0.snd.snd.fst y0.snd.snd.snd.fst y0.snd.snd.snd.snd).bind (fun y1 =>
 (spec_TraverseEnd y0.fst y0.snd.fst y1.fst).bind (fun y2 =>
 bif !y2.snd.snd then
 (spec_l1Cur_point y1.snd.fst y1.snd.snd.fst y1.snd.snd.snd).bind (fun y3 =>
 (spec_l1Cur_among y3.snd.snd.fst y3.snd.snd.snd.fst y3.snd.snd.snd.snd ([Go.Rai.D.int (0 : Int), Go.Rai.D.int (1 : Int), Go.Rai.D.int (-3 : Int), Go.Rai.D.int (10 : Int), Go.Rai.D.int (100 : Int)])).bind (fun y4 =>
 (spec_l1Cur_among y4.snd.fst y4.snd.snd.fst y4.snd.snd.snd ([Go.Rai.D.int (0 : Int), Go.Rai.D.int (-1 : Int), Go.Rai.D.int (2 : Int), Go.Rai.D.int (7 : Int)])).bind (fun y5 =>
 k (y0.fst, y0.snd.fst, y1.fst, Go.IntKind.i64.wrap (y3.fst + y4.fst), Go.IntKind.i64.wrap (y3.snd.fst + y5.fst)))))
 else
 (spec_l1Cur_one y1.snd.fst y1.snd.snd.fst y1.snd.snd.snd (6 : Int)).bind (fun y6 =>
 bif y6.fst then
 (spec_l1Cur_point y6.snd.fst y6.snd.snd.fst y6.snd.snd.snd).bind (fun y7 =>
 (spec_l1Cur_among y7.snd.snd.fst y7.snd.snd.snd.fst y7.snd.snd.snd.snd ([Go.Rai.D.int (0 : Int), Go.Rai.D.int (1 : Int), Go.Rai.D.int (-3 : Int), Go.Rai.D.int (10 : Int), Go.Rai.D.int (100 : Int)])).bind (fun y8 =>
 (spec_l1Cur_among y8.snd.fst y8.snd.snd.fst y8.snd.snd.snd ([Go.Rai.D.int (0 : Int), Go.Rai.D.int (-1 : Int), Go.Rai.D.int (2 : Int), Go.Rai.D.int (7 : Int)])).bind (fun y9 =>
 k (y0.fst, y0.snd.fst, y1.fst, Go.IntKind.i64.wrap (y7.fst + y8.fst), Go.IntKind.i64.wrap (y7.snd.fst + y9.fst)))))
 else
 (spec_l1Cur_among y6.snd.fst y6.snd.snd.fst y6.snd.snd.snd ([Go.Rai.D.int (0 : Int), Go.Rai.D.int (1 : Int), Go.Rai.D.int (-3 : Int), Go.Rai.D.int (10 : Int), Go.Rai.D.int (100 : Int)])).bind (fun y10 =>
 (spec_l1Cur_among y10.snd.fst y10.snd.snd.fst y10.snd.snd.snd ([Go.Rai.D.int (0 : Int), Go.Rai.D.int (-1 : Int), Go.Rai.D.int (2 : Int), Go.Rai.D.int (7 : Int)])).bind (fun y11 =>
 k (y0.fst, y0.snd.fst, y1.fst, Go.IntKind.i64.wrap (y2.fst + y10.fst), Go.IntKind.i64.wrap (y2.snd.fst + y11.fst))))))))
theorem c_spec_DrawMisclosure_bind {R : Type} (x0 : List D) (k : Int × Int × List D × Int × Int → Option R) : c_spec_DrawMisclosure x0 k = (c_spec_DrawMisclosure x0 some).bind k := by
  unfold c_spec_DrawMisclosure
  repeat' first
    | exact bnd_tail
    | exact bnd_none
    | exact bnd_leaf
    | apply bnd_ite
    | apply bnd_cond
    | apply bnd_sum
    | (apply bnd_bind; intro _)
    | intro _
def spec_DrawMisclosure (x0 : List D) : Option (Int × Int × List D × Int × Int) := c_spec_DrawMisclosure x0 some
def e_spec_DrawMisclosure : Ent := ⟨83, [.rd (.int .u8)], .tup [.agg [.int .i64, .int .i64], .own (.struct [.int .i64, .int .i64]), .agg [.int .i64, .int .i64]], [.undef], fun _ ds k => dL (fun x0 ds => dE ((spec_DrawMisclosure x0).bind (fun y => k [.I y.1, .I y.2.1, .L y.2.2.1, .I y.2.2.2.1, .I y.2.2.2.2])) ds) ds⟩
theorem q_spec_DrawMisclosure (x0 : List D) : runFn (ocOf [e_spec_l1Cur_point, e_spec_l1Cur_legs, e_spec_TraverseEnd, e_spec_l1Cur_among, e_spec_l1Cur_one]) (olOf []) A 83 Go.Proofs.Try.f83 (Sh.mks e_spec_DrawMisclosure.sh [.L x0]).1 (fun v os => some (v, os)) = c_spec_DrawMisclosure x0 (fun y => some ((e_spec_DrawMisclosure.res.mk [.I y.1, .I y.2.1, .L y.2.2.1, .I y.2.2.2.1, .I y.2.2.2.2]).1, (Sh.mks e_spec_DrawMisclosure.outs (e_spec_DrawMisclosure.res.mk [.I y.1, .I y.2.1, .L y.2.2.1, .I y.2.2.2.1, .I y.2.2.2.2]).2).1)) := by kernel_rfl
theorem e_spec_DrawMisclosure_ok : e_spec_DrawMisclosure.ok Go.Proofs.Try.prog A := by
  intro R ds k r h
  unfold e_spec_DrawMisclosure at h
  obtain ⟨x0, d0, rfl, h0⟩ := dL_some h
  obtain ⟨rfl, hE⟩ := dE_some h0
  obtain ⟨y, hy, hk⟩ := bnd_some hE
  refine ⟨_, hk, fn_ok px (fx := ⟨Go.Proofs.Try.func83, by kernel_rfl, by kernel_rfl⟩) (entsOK_cons e_spec_l1Cur_point_ok (entsOK_cons e_spec_l1Cur_legs_ok (entsOK_cons e_spec_TraverseEnd_ok (entsOK_cons e_spec_l1Cur_among_ok (entsOK_cons e_spec_l1Cur_one_ok entsOK_nil))))) lentsOK_nil ?_⟩
  have hq := q_spec_DrawMisclosure x0
  rw [c_spec_DrawMisclosure_bind] at hq
  rw [show c_spec_DrawMisclosure x0 some = some y from hy] at hq
  exact hq

/-! loop.example/g00876/spec.DrawAdjustTraverse -/
def c_spec_DrawAdjustTraverse {R : Type} (x0 : List D) (k : Int × Int × List D × Int × Int → Option R) : Option R :=
 (spec_DrawMisclosure x0).bind (fun y0 =>
 k (y0.fst, y0.snd.fst, y0.snd.snd.fst, y0.snd.snd.snd.fst, y0.snd.snd.snd.snd))
theorem c_spec_DrawAdjustTraverse_bind {R : Type} (x0 : List D) (k : Int × Int × List D × Int × Int → Option R) : c_spec_DrawAdjustTraverse x0 k = (c_spec_DrawAdjustTraverse x0 some).bind k := by
  unfold c_spec_DrawAdjustTraverse
  repeat' first
    | exact bnd_tail
    | exact bnd_none
    | exact bnd_leaf
    | apply bnd_ite
    | apply bnd_cond
    | apply bnd_sum
    | (apply bnd_bind; intro _)
    | intro _
def spec_DrawAdjustTraverse (x0 : List D) : Option (Int × Int × List D × Int × Int) := c_spec_DrawAdjustTraverse x0 some
def e_spec_DrawAdjustTraverse : Ent := ⟨28, [.rd (.int .u8)], .tup [.agg [.int .i64, .int .i64], .own (.struct [.int .i64, .int .i64]), .agg [.int .i64, .int .i64]], [.undef], fun _ ds k => dL (fun x0 ds => dE ((spec_DrawAdjustTraverse x0).bind (fun y => k [.I y.1, .I y.2.1, .L y.2.2.1, .I y.2.2.2.1, .I y.2.2.2.2])) ds) ds⟩
theorem q_spec_DrawAdjustTraverse (x0 : List D) : runFn (ocOf [e_spec_DrawMisclosure]) (olOf []) A 28 Go.Proofs.Try.f28 (Sh.mks e_spec_DrawAdjustTraverse.sh [.L x0]).1 (fun v os => some (v, os)) = c_spec_DrawAdjustTraverse x0 (fun y => some ((e_spec_DrawAdjustTraverse.res.mk [.I y.1, .I y.2.1, .L y.2.2.1, .I y.2.2.2.1, .I y.2.2.2.2]).1, (Sh.mks e_spec_DrawAdjustTraverse.outs (e_spec_DrawAdjustTraverse.res.mk [.I y.1, .I y.2.1, .L y.2.2.1, .I y.2.2.2.1, .I y.2.2.2.2]).2).1)) := by kernel_rfl
theorem e_spec_DrawAdjustTraverse_ok : e_spec_DrawAdjustTraverse.ok Go.Proofs.Try.prog A := by
  intro R ds k r h
  unfold e_spec_DrawAdjustTraverse at h
  obtain ⟨x0, d0, rfl, h0⟩ := dL_some h
  obtain ⟨rfl, hE⟩ := dE_some h0
  obtain ⟨y, hy, hk⟩ := bnd_some hE
  refine ⟨_, hk, fn_ok px (fx := ⟨Go.Proofs.Try.func28, by kernel_rfl, by kernel_rfl⟩) (entsOK_cons e_spec_DrawMisclosure_ok entsOK_nil) lentsOK_nil ?_⟩
  have hq := q_spec_DrawAdjustTraverse x0
  rw [c_spec_DrawAdjustTraverse_bind] at hq
  rw [show c_spec_DrawAdjustTraverse x0 some = some y from hy] at hq
  exact hq

/-! loop.example/g00876/impl.within -/
def c_impl_within {R : Type} (x0 : Int) (x1 : Int) (x2 : Int) (k : Bool → Option R) : Option R :=
 bif Decidable.decide (x1 ≤ x0) then
 k (Decidable.decide (x0 ≤ x2))
 else
 k Bool.false
theorem c_impl_within_bind {R : Type} (x0 : Int) (x1 : Int) (x2 : Int) (k : Bool → Option R) : c_impl_within x0 x1 x2 k = (c_impl_within x0 x1 x2 some).bind k := by
  unfold c_impl_within
  repeat' first
    | exact bnd_tail
    | exact bnd_none
    | exact bnd_leaf
    | apply bnd_ite
    | apply bnd_cond
    | apply bnd_sum
    | (apply bnd_bind; intro _)
    | intro _
def impl_within (x0 : Int) (x1 : Int) (x2 : Int) : Option (Bool) := c_impl_within x0 x1 x2 some
def e_impl_within : Ent := ⟨71, [.int .i64, .int .i64, .int .i64], .bool, [.undef, .undef, .undef], fun _ ds k => dI (fun x0 ds => dI (fun x1 ds => dI (fun x2 ds => dE ((impl_within x0 x1 x2).bind (fun y => k [.B y])) ds) ds) ds) ds⟩
theorem q_impl_within (x0 : Int) (x1 : Int) (x2 : Int) : runFn (ocOf []) (olOf []) A 71 Go.Proofs.Try.f71 (Sh.mks e_impl_within.sh [.I x0, .I x1, .I x2]).1 (fun v os => some (v, os)) = c_impl_within x0 x1 x2 (fun y => some ((e_impl_within.res.mk [.B y]).1, (Sh.mks e_impl_within.outs (e_impl_within.res.mk [.B y]).2).1)) := by kernel_rfl
theorem e_impl_within_ok : e_impl_within.ok Go.Proofs.Try.prog A := by
  intro R ds k r h
  unfold e_impl_within at h
  obtain ⟨x0, d0, rfl, h0⟩ := dI_some h
  obtain ⟨x1, d1, rfl, h1⟩ := dI_some h0
  obtain ⟨x2, d2, rfl, h2⟩ := dI_some h1
  obtain ⟨rfl, hE⟩ := dE_some h2
  obtain ⟨y, hy, hk⟩ := bnd_some hE
  refine ⟨_, hk, fn_ok px (fx := ⟨Go.Proofs.Try.func71, by kernel_rfl, by kernel_rfl⟩) entsOK_nil lentsOK_nil ?_⟩
  have hq := q_impl_within x0 x1 x2
  rw [c_impl_within_bind] at hq
  rw [show c_impl_within x0 x1 x2 some = some y from hy] at hq
  exact hq

/-! loop.example/g00876/impl.isCoordinate -/
def c_impl_isCoordinate {R : Type} (x0 : Int) (k : Bool → Option R) : Option R :=
 (impl_within x0 (-1000000 : Int) (1000000 : Int)).bind (fun y0 =>
 k y0)
theorem c_impl_isCoordinate_bind {R : Type} (x0 : Int) (k : Bool → Option R) : c_impl_isCoordinate x0 k = (c_impl_isCoordinate x0 some).bind k := by
  unfold c_impl_isCoordinate
  repeat' first
    | exact bnd_tail
    | exact bnd_none
    | exact bnd_leaf
    | apply bnd_ite
    | apply bnd_cond
    | apply bnd_sum
    | (apply bnd_bind; intro _)
    | intro _
def impl_isCoordinate (x0 : Int) : Option (Bool) := c_impl_isCoordinate x0 some
def e_impl_isCoordinate : Ent := ⟨94, [.int .i64], .bool, [.undef], fun _ ds k => dI (fun x0 ds => dE ((impl_isCoordinate x0).bind (fun y => k [.B y])) ds) ds⟩
theorem q_impl_isCoordinate (x0 : Int) : runFn (ocOf [e_impl_within]) (olOf []) A 94 Go.Proofs.Try.f94 (Sh.mks e_impl_isCoordinate.sh [.I x0]).1 (fun v os => some (v, os)) = c_impl_isCoordinate x0 (fun y => some ((e_impl_isCoordinate.res.mk [.B y]).1, (Sh.mks e_impl_isCoordinate.outs (e_impl_isCoordinate.res.mk [.B y]).2).1)) := by kernel_rfl
theorem e_impl_isCoordinate_ok : e_impl_isCoordinate.ok Go.Proofs.Try.prog A := by
  intro R ds k r h
  unfold e_impl_isCoordinate at h
  obtain ⟨x0, d0, rfl, h0⟩ := dI_some h
  obtain ⟨rfl, hE⟩ := dE_some h0
  obtain ⟨y, hy, hk⟩ := bnd_some hE
  refine ⟨_, hk, fn_ok px (fx := ⟨Go.Proofs.Try.func94, by kernel_rfl, by kernel_rfl⟩) (entsOK_cons e_impl_within_ok entsOK_nil) lentsOK_nil ?_⟩
  have hq := q_impl_isCoordinate x0
  rw [c_impl_isCoordinate_bind] at hq
  rw [show c_impl_isCoordinate x0 some = some y from hy] at hq
  exact hq

/-! loop.example/g00876/impl.isPoint -/
def c_impl_isPoint {R : Type} (x0 : Int) (x1 : Int) (k : Bool → Option R) : Option R :=
 (impl_isCoordinate x0).bind (fun y0 =>
 bif y0 then
 (impl_isCoordinate x1).bind (fun y1 =>
 k y1)
 else
 k Bool.false)
theorem c_impl_isPoint_bind {R : Type} (x0 : Int) (x1 : Int) (k : Bool → Option R) : c_impl_isPoint x0 x1 k = (c_impl_isPoint x0 x1 some).bind k := by
  unfold c_impl_isPoint
  repeat' first
    | exact bnd_tail
    | exact bnd_none
    | exact bnd_leaf
    | apply bnd_ite
    | apply bnd_cond
    | apply bnd_sum
    | (apply bnd_bind; intro _)
    | intro _
def impl_isPoint (x0 : Int) (x1 : Int) : Option (Bool) := c_impl_isPoint x0 x1 some
def e_impl_isPoint : Ent := ⟨84, [.agg [.int .i64, .int .i64]], .bool, [.undef], fun _ ds k => dI (fun x0 ds => dI (fun x1 ds => dE ((impl_isPoint x0 x1).bind (fun y => k [.B y])) ds) ds) ds⟩
theorem q_impl_isPoint (x0 : Int) (x1 : Int) : runFn (ocOf [e_impl_isCoordinate]) (olOf []) A 84 Go.Proofs.Try.f84 (Sh.mks e_impl_isPoint.sh [.I x0, .I x1]).1 (fun v os => some (v, os)) = c_impl_isPoint x0 x1 (fun y => some ((e_impl_isPoint.res.mk [.B y]).1, (Sh.mks e_impl_isPoint.outs (e_impl_isPoint.res.mk [.B y]).2).1)) := by kernel_rfl
theorem e_impl_isPoint_ok : e_impl_isPoint.ok Go.Proofs.Try.prog A := by
  intro R ds k r h
  unfold e_impl_isPoint at h
  obtain ⟨x0, d0, rfl, h0⟩ := dI_some h
  obtain ⟨x1, d1, rfl, h1⟩ := dI_some h0
  obtain ⟨rfl, hE⟩ := dE_some h1
  obtain ⟨y, hy, hk⟩ := bnd_some hE
  refine ⟨_, hk, fn_ok px (fx := ⟨Go.Proofs.Try.func84, by kernel_rfl, by kernel_rfl⟩) (entsOK_cons e_impl_isCoordinate_ok entsOK_nil) lentsOK_nil ?_⟩
  have hq := q_impl_isPoint x0 x1
  rw [c_impl_isPoint_bind] at hq
  rw [show c_impl_isPoint x0 x1 some = some y from hy] at hq
  exact hq

/-! loop.example/g00876/impl.reached, loop 6 -/
def c_impl_reached_L6 {R : Type} (F : List D → Int → Int → List D → Int → Int → Option ((Bool × List D) ⊕ (List D))) (x0 : List D) (x1 : Int) (x2 : Int) (x3 : List D) (x4 : Int) (x5 : Int) (k : (Bool × List D) ⊕ (List D) → Option R) : Option R :=
 bif Decidable.decide (x2 < x1) then
 if (0 : Int) ≤ x2 ∧ x2 < (↑x0.length : Int) then
 (impl_within (((x0.getD x2.toNat (Go.Rai.D.int (0 : Int))).fld (0 : Nat)).toInt) (-100000 : Int) (100000 : Int)).bind (fun y0 =>
 bif !y0 then
 k (.inl (Bool.false, x3))
 else
 (impl_within (((x0.getD x2.toNat (Go.Rai.D.int (0 : Int))).fld (1 : Nat)).toInt) (-100000 : Int) (100000 : Int)).bind (fun y1 =>
 bif !y1 then
 k (.inl (Bool.false, x3))
 else
 (impl_isPoint (Go.IntKind.i64.wrap (x4 + ((x0.getD x2.toNat (Go.Rai.D.int (0 : Int))).fld (0 : Nat)).toInt)) (Go.IntKind.i64.wrap (x5 + ((x0.getD x2.toNat (Go.Rai.D.int (0 : Int))).fld (1 : Nat)).toInt))).bind (fun y2 =>
 bif !y2 then
 k (.inl (Bool.false, x3))
 else
 if x3.length + [Go.Rai.D.node [Go.Rai.D.int (Go.IntKind.i64.wrap (x4 + ((x0.getD x2.toNat (Go.Rai.D.int (0 : Int))).fld (0 : Nat)).toInt)), Go.Rai.D.int (Go.IntKind.i64.wrap (x5 + ((x0.getD x2.toNat (Go.Rai.D.int (0 : Int))).fld (1 : Nat)).toInt))]].length ≤ (4294967296 : Nat) then
 (F x0 x1 (Go.IntKind.i64.wrap (x2 + (1 : Int))) (x3 ++ [Go.Rai.D.node [Go.Rai.D.int (Go.IntKind.i64.wrap (x4 + ((x0.getD x2.toNat (Go.Rai.D.int (0 : Int))).fld (0 : Nat)).toInt)), Go.Rai.D.int (Go.IntKind.i64.wrap (x5 + ((x0.getD x2.toNat (Go.Rai.D.int (0 : Int))).fld (1 : Nat)).toInt))]]) (Go.IntKind.i64.wrap (x4 + ((x0.getD x2.toNat (Go.Rai.D.int (0 : Int))).fld (0 : Nat)).toInt)) (Go.IntKind.i64.wrap (x5 + ((x0.getD x2.toNat (Go.Rai.D.int (0 : Int))).fld (1 : Nat)).toInt))).bind k
 else
 none)))
 else
 none
 else
 k (.inr x3)
theorem c_impl_reached_L6_bind {R : Type} (F : List D → Int → Int → List D → Int → Int → Option ((Bool × List D) ⊕ (List D))) (x0 : List D) (x1 : Int) (x2 : Int) (x3 : List D) (x4 : Int) (x5 : Int) (k : (Bool × List D) ⊕ (List D) → Option R) : c_impl_reached_L6 F x0 x1 x2 x3 x4 x5 k = (c_impl_reached_L6 F x0 x1 x2 x3 x4 x5 some).bind k := by
  unfold c_impl_reached_L6
  repeat' first
    | exact bnd_tail
    | exact bnd_none
    | exact bnd_leaf
    | apply bnd_ite
    | apply bnd_cond
    | apply bnd_sum
    | (apply bnd_bind; intro _)
    | intro _
def n_impl_reached_L6 : Nat → List D → Int → Int → List D → Int → Int → Option ((Bool × List D) ⊕ (List D))
 | 0, _, _, _, _, _, _ => none
 | n + 1, x0, x1, x2, x3, x4, x5 => c_impl_reached_L6 (n_impl_reached_L6 n) x0 x1 x2 x3 x4 x5 some
noncomputable def impl_reached_L6 (x0 : List D) (x1 : Int) (x2 : Int) (x3 : List D) (x4 : Int) (x5 : Int) : Option ((Bool × List D) ⊕ (List D)) := ev (fun n => n_impl_reached_L6 n x0 x1 x2 x3 x4 x5)
def m_impl_reached_L6 (F : List D → Int → Int → List D → Int → Int → Option ((Bool × List D) ⊕ (List D))) : Lent := ⟨6, ⟨[.undef, .undef, .undef, .undef, .undef, .undef, .full 1000 [] (.struct [.int .i64, .int .i64]), .ptr 1001 [0], .undef, .undef, .undef, .undef, .undef, .undef, .undef, .undef, .undef, .undef, .undef, .undef, .undef, .rd (.struct [.int .i64, .int .i64]), .int .i64, .int .i64, .undef, .undef, .undef, .undef, .undef, .undef, .undef, .undef, .undef, .undef, .undef, .undef, .undef, .undef, .undef, .undef, .undef, .undef, .undef, .undef, .undef, .undef, .undef, .undef, .undef, .undef, .undef, .undef, .undef, .undef, .undef, .undef, .undef], [(1000, .own (.struct [.int .i64, .int .i64])), (1001, .obox (.agg [.int .i64, .int .i64]))]⟩, [(.ret, ⟨[.undef, .undef, .undef, .undef, .nilsl, .bool, .full 1000 [] (.struct [.int .i64, .int .i64]), .undef, .undef, .undef, .undef, .undef, .undef, .undef, .undef, .undef, .undef, .undef, .undef, .undef, .undef, .undef, .undef, .undef, .undef, .undef, .undef, .undef, .undef, .undef, .undef, .undef, .undef, .undef, .undef, .undef, .undef, .undef, .undef, .undef, .undef, .undef, .undef, .undef, .undef, .undef, .undef, .undef, .undef, .undef, .undef, .undef, .undef, .undef, .undef, .undef, .undef], [(1000, .own (.struct [.int .i64, .int .i64]))]⟩), (.exit 0, ⟨[.undef, .undef, .undef, .undef, .undef, .undef, .full 1000 [] (.struct [.int .i64, .int .i64]), .undef, .undef, .undef, .undef, .undef, .undef, .undef, .undef, .undef, .undef, .undef, .undef, .undef, .undef, .undef, .undef, .undef, .undef, .undef, .undef, .undef, .undef, .undef, .undef, .undef, .undef, .undef, .undef, .undef, .undef, .undef, .undef, .undef, .undef, .undef, .undef, .undef, .undef, .undef, .undef, .undef, .undef, .undef, .undef, .undef, .undef, .undef, .undef, .undef, .undef], [(1000, .own (.struct [.int .i64, .int .i64]))]⟩)], fun _ ds k => dL (fun x0 ds => dI (fun x1 ds => dI (fun x2 ds => dL (fun x3 ds => dI (fun x4 ds => dI (fun x5 ds => dE ((F x0 x1 x2 x3 x4 x5).bind (Sum.elim (fun y => k 0 [.B y.1, .L y.2]) (fun y => k 1 [.L y]))) ds) ds) ds) ds) ds) ds) ds⟩
theorem q_impl_reached_L6 (F : List D → Int → Int → List D → Int → Int → Option ((Bool × List D) ⊕ (List D))) (x0 : List D) (x1 : Int) (x2 : Int) (x3 : List D) (x4 : Int) (x5 : Int) : runLoop (ocOf [e_impl_within, e_impl_isPoint]) (olOf [m_impl_reached_L6 F]) A 87 (codeAt (bodyOf Go.Proofs.Try.f87) 6) ((m_impl_reached_L6 F).sh.mk' [.L x0, .I x1, .I x2, .L x3, .I x4, .I x5]) (fun e σ' => some (e, σ')) = c_impl_reached_L6 F x0 x1 x2 x3 x4 x5 (Sum.elim (fun y => some (.ret, SSt.mk' ⟨[.undef, .undef, .undef, .undef, .nilsl, .bool, .full 1000 [] (.struct [.int .i64, .int .i64]), .undef, .undef, .undef, .undef, .undef, .undef, .undef, .undef, .undef, .undef, .undef, .undef, .undef, .undef, .undef, .undef, .undef, .undef, .undef, .undef, .undef, .undef, .undef, .undef, .undef, .undef, .undef, .undef, .undef, .undef, .undef, .undef, .undef, .undef, .undef, .undef, .undef, .undef, .undef, .undef, .undef, .undef, .undef, .undef, .undef, .undef, .undef, .undef, .undef, .undef], [(1000, .own (.struct [.int .i64, .int .i64]))]⟩ [.B y.1, .L y.2])) (fun y => some (.exit 0, SSt.mk' ⟨[.undef, .undef, .undef, .undef, .undef, .undef, .full 1000 [] (.struct [.int .i64, .int .i64]), .undef, .undef, .undef, .undef, .undef, .undef, .undef, .undef, .undef, .undef, .undef, .undef, .undef, .undef, .undef, .undef, .undef, .undef, .undef, .undef, .undef, .undef, .undef, .undef, .undef, .undef, .undef, .undef, .undef, .undef, .undef, .undef, .undef, .undef, .undef, .undef, .undef, .undef, .undef, .undef, .undef, .undef, .undef, .undef, .undef, .undef, .undef, .undef, .undef, .undef], [(1000, .own (.struct [.int .i64, .int .i64]))]⟩ [.L y]))) := by kernel_rfl
theorem m_impl_reached_L6_ok : ∀ n, (m_impl_reached_L6 (n_impl_reached_L6 n)).ok Go.Proofs.Try.prog (codeAt (bodyOf Go.Proofs.Try.f87) 6) := by
  intro n
  induction n with
  | zero =>
    intro R ds k r h
    unfold m_impl_reached_L6 at h
    obtain ⟨x0, d0, rfl, h0⟩ := dL_some h
    obtain ⟨x1, d1, rfl, h1⟩ := dI_some h0
    obtain ⟨x2, d2, rfl, h2⟩ := dI_some h1
    obtain ⟨x3, d3, rfl, h3⟩ := dL_some h2
    obtain ⟨x4, d4, rfl, h4⟩ := dI_some h3
    obtain ⟨x5, d5, rfl, h5⟩ := dI_some h4
    obtain ⟨rfl, hE⟩ := dE_some h5
    obtain ⟨y, hy, hk⟩ := bnd_some hE
    cases hy
  | succ n ih =>
    intro R ds k r h
    unfold m_impl_reached_L6 at h
    obtain ⟨x0, d0, rfl, h0⟩ := dL_some h
    obtain ⟨x1, d1, rfl, h1⟩ := dI_some h0
    obtain ⟨x2, d2, rfl, h2⟩ := dI_some h1
    obtain ⟨x3, d3, rfl, h3⟩ := dL_some h2
    obtain ⟨x4, d4, rfl, h4⟩ := dI_some h3
    obtain ⟨x5, d5, rfl, h5⟩ := dI_some h4
    obtain ⟨rfl, hE⟩ := dE_some h5
    obtain ⟨y, hy, hk⟩ := bnd_some hE
    have hq := q_impl_reached_L6 (n_impl_reached_L6 n) x0 x1 x2 x3 x4 x5
    rw [c_impl_reached_L6_bind] at hq
    rw [show c_impl_reached_L6 (n_impl_reached_L6 n) x0 x1 x2 x3 x4 x5 some = some y from hy] at hq
    cases y with
    | inl y =>
      refine ⟨0, _, _, _, hk, rfl, loop_ok px (fx := ⟨Go.Proofs.Try.func87, by kernel_rfl, by kernel_rfl⟩) (entsOK_cons e_impl_within_ok (entsOK_cons e_impl_isPoint_ok entsOK_nil)) (lentsOK_cons ih lentsOK_nil) (by kernel_rfl) ?_⟩
      exact hq
    | inr y =>
      refine ⟨1, _, _, _, hk, rfl, loop_ok px (fx := ⟨Go.Proofs.Try.func87, by kernel_rfl, by kernel_rfl⟩) (entsOK_cons e_impl_within_ok (entsOK_cons e_impl_isPoint_ok entsOK_nil)) (lentsOK_cons ih lentsOK_nil) (by kernel_rfl) ?_⟩
      exact hq
noncomputable def e_impl_reached_L6 : Lent := m_impl_reached_L6 (impl_reached_L6)
theorem e_impl_reached_L6_ok : (e_impl_reached_L6).ok Go.Proofs.Try.prog (codeAt (bodyOf Go.Proofs.Try.f87) 6) := by
  intro R ds k r h
  unfold e_impl_reached_L6 m_impl_reached_L6 at h
  obtain ⟨x0, d0, rfl, h0⟩ := dL_some h
  obtain ⟨x1, d1, rfl, h1⟩ := dI_some h0
  obtain ⟨x2, d2, rfl, h2⟩ := dI_some h1
  obtain ⟨x3, d3, rfl, h3⟩ := dL_some h2
  obtain ⟨x4, d4, rfl, h4⟩ := dI_some h3
  obtain ⟨x5, d5, rfl, h5⟩ := dI_some h4
  obtain ⟨rfl, hE⟩ := dE_some h5
  obtain ⟨y, hy, hk⟩ := bnd_some hE
  obtain ⟨n, hn⟩ := ev_some hy
  exact m_impl_reached_L6_ok n R _ k r (show (n_impl_reached_L6 n x0 x1 x2 x3 x4 x5).bind _ = _ by rw [hn]; exact hk)

/-! loop.example/g00876/impl.reached -/
def c_impl_reached {R : Type} (x0 : Int) (x1 : Int) (x2 : List D) (k : List D × Bool → Option R) : Option R :=
 (impl_isPoint x0 x1).bind (fun y0 =>
 bif !y0 then
 k ([], Bool.false)
 else
 (impl_within (↑x2.length : Int) (1 : Int) (20 : Int)).bind (fun y1 =>
 bif !y1 then
 k ([], Bool.false)
 else
 (impl_reached_L6 x2 (↑x2.length : Int) (0 : Int) [] x0 x1).bind (Sum.elim (fun y2 =>
 k ([], y2.fst)) (fun y3 =>
 k (y3, Bool.true)))))
theorem c_impl_reached_bind {R : Type} (x0 : Int) (x1 : Int) (x2 : List D) (k : List D × Bool → Option R) : c_impl_reached x0 x1 x2 k = (c_impl_reached x0 x1 x2 some).bind k := by
  unfold c_impl_reached
  repeat' first
    | exact bnd_tail
    | exact bnd_none
    | exact bnd_leaf
    | apply bnd_ite
    | apply bnd_cond
    | apply bnd_sum
    | (apply bnd_bind; intro _)
    | intro _
def impl_reached (x0 : Int) (x1 : Int) (x2 : List D) : Option (List D × Bool) := c_impl_reached x0 x1 x2 some
def e_impl_reached : Ent := ⟨87, [.agg [.int .i64, .int .i64], .rd (.struct [.int .i64, .int .i64])], .tup [.own (.struct [.int .i64, .int .i64]), .bool], [.undef, .undef], fun _ ds k => dI (fun x0 ds => dI (fun x1 ds => dL (fun x2 ds => dE ((impl_reached x0 x1 x2).bind (fun y => k [.L y.1, .B y.2])) ds) ds) ds) ds⟩
theorem q_impl_reached (x0 : Int) (x1 : Int) (x2 : List D) : runFn (ocOf [e_impl_isPoint, e_impl_within]) (olOf [e_impl_reached_L6]) A 87 Go.Proofs.Try.f87 (Sh.mks e_impl_reached.sh [.I x0, .I x1, .L x2]).1 (fun v os => some (v, os)) = c_impl_reached x0 x1 x2 (fun y => some ((e_impl_reached.res.mk [.L y.1, .B y.2]).1, (Sh.mks e_impl_reached.outs (e_impl_reached.res.mk [.L y.1, .B y.2]).2).1)) := by kernel_rfl
theorem e_impl_reached_ok : e_impl_reached.ok Go.Proofs.Try.prog A := by
  intro R ds k r h
  unfold e_impl_reached at h
  obtain ⟨x0, d0, rfl, h0⟩ := dI_some h
  obtain ⟨x1, d1, rfl, h1⟩ := dI_some h0
  obtain ⟨x2, d2, rfl, h2⟩ := dL_some h1
  obtain ⟨rfl, hE⟩ := dE_some h2
  obtain ⟨y, hy, hk⟩ := bnd_some hE
  refine ⟨_, hk, fn_ok px (fx := ⟨Go.Proofs.Try.func87, by kernel_rfl, by kernel_rfl⟩) (entsOK_cons e_impl_isPoint_ok (entsOK_cons e_impl_within_ok entsOK_nil)) (lentsOK_cons e_impl_reached_L6_ok lentsOK_nil) ?_⟩
  have hq := q_impl_reached x0 x1 x2
  rw [c_impl_reached_bind] at hq
  rw [show c_impl_reached x0 x1 x2 some = some y from hy] at hq
  exact hq

/-! loop.example/g00876/impl.TraverseEnd -/
def c_impl_TraverseEnd {R : Type} (x0 : Int) (x1 : Int) (x2 : List D) (k : Int × Int × Bool → Option R) : Option R :=
 (impl_reached x0 x1 x2).bind (fun y0 =>
 bif !y0.snd then
 k ((0 : Int), (0 : Int), Bool.false)
 else
 if (0 : Int) ≤ Go.IntKind.i64.wrap ((↑y0.fst.length : Int) - (1 : Int)) ∧ Go.IntKind.i64.wrap ((↑y0.fst.length : Int) - (1 : Int)) < (↑y0.fst.length : Int) then
 if (Go.IntKind.i64.wrap ((↑y0.fst.length : Int) - (1 : Int))).toNat + (1 : Nat) ≤ y0.fst.length then
 k (((y0.fst.getD (Go.IntKind.i64.wrap ((↑y0.fst.length : Int) - (1 : Int))).toNat (Go.Rai.D.int (0 : Int))).fld (0 : Nat)).toInt, ((y0.fst.getD (Go.IntKind.i64.wrap ((↑y0.fst.length : Int) - (1 : Int))).toNat (Go.Rai.D.int (0 : Int))).fld (1 : Nat)).toInt, Bool.true)
 else
 none
 else
 none)
theorem c_impl_TraverseEnd_bind {R : Type} (x0 : Int) (x1 : Int) (x2 : List D) (k : Int × Int × Bool → Option R) : c_impl_TraverseEnd x0 x1 x2 k = (c_impl_TraverseEnd x0 x1 x2 some).bind k := by
  unfold c_impl_TraverseEnd
  repeat' first
    | exact bnd_tail
    | exact bnd_none
    | exact bnd_leaf
    | apply bnd_ite
    | apply bnd_cond
    | apply bnd_sum
    | (apply bnd_bind; intro _)
    | intro _
def impl_TraverseEnd (x0 : Int) (x1 : Int) (x2 : List D) : Option (Int × Int × Bool) := c_impl_TraverseEnd x0 x1 x2 some
def e_impl_TraverseEnd : Ent := ⟨33, [.agg [.int .i64, .int .i64], .rd (.struct [.int .i64, .int .i64])], .tup [.agg [.int .i64, .int .i64], .bool], [.undef, .undef], fun _ ds k => dI (fun x0 ds => dI (fun x1 ds => dL (fun x2 ds => dE ((impl_TraverseEnd x0 x1 x2).bind (fun y => k [.I y.1, .I y.2.1, .B y.2.2])) ds) ds) ds) ds⟩
theorem q_impl_TraverseEnd (x0 : Int) (x1 : Int) (x2 : List D) : runFn (ocOf [e_impl_reached]) (olOf []) A 33 Go.Proofs.Try.f33 (Sh.mks e_impl_TraverseEnd.sh [.I x0, .I x1, .L x2]).1 (fun v os => some (v, os)) = c_impl_TraverseEnd x0 x1 x2 (fun y => some ((e_impl_TraverseEnd.res.mk [.I y.1, .I y.2.1, .B y.2.2]).1, (Sh.mks e_impl_TraverseEnd.outs (e_impl_TraverseEnd.res.mk [.I y.1, .I y.2.1, .B y.2.2]).2).1)) := by kernel_rfl
theorem e_impl_TraverseEnd_ok : e_impl_TraverseEnd.ok Go.Proofs.Try.prog A := by
  intro R ds k r h
  unfold e_impl_TraverseEnd at h
  obtain ⟨x0, d0, rfl, h0⟩ := dI_some h
  obtain ⟨x1, d1, rfl, h1⟩ := dI_some h0
  obtain ⟨x2, d2, rfl, h2⟩ := dL_some h1
  obtain ⟨rfl, hE⟩ := dE_some h2
  obtain ⟨y, hy, hk⟩ := bnd_some hE
  refine ⟨_, hk, fn_ok px (fx := ⟨Go.Proofs.Try.func33, by kernel_rfl, by kernel_rfl⟩) (entsOK_cons e_impl_reached_ok entsOK_nil) lentsOK_nil ?_⟩
  have hq := q_impl_TraverseEnd x0 x1 x2
  rw [c_impl_TraverseEnd_bind] at hq
  rw [show c_impl_TraverseEnd x0 x1 x2 some = some y from hy] at hq
  exact hq

/-! loop.example/g00876/impl.Misclosure -/
def c_impl_Misclosure {R : Type} (x0 : Int) (x1 : Int) (x2 : List D) (x3 : Int) (x4 : Int) (k : Int × Int × Bool → Option R) : Option R :=
 (impl_TraverseEnd x0 x1 x2).bind (fun y0 =>
 bif !y0.snd.snd then
 k ((0 : Int), (0 : Int), Bool.false)
 else
 (impl_isPoint x3 x4).bind (fun y1 =>
 bif !y1 then
 k ((0 : Int), (0 : Int), Bool.false)
 else
 k (Go.IntKind.i64.wrap (y0.fst - x3), Go.IntKind.i64.wrap (y0.snd.fst - x4), Bool.true)))
theorem c_impl_Misclosure_bind {R : Type} (x0 : Int) (x1 : Int) (x2 : List D) (x3 : Int) (x4 : Int) (k : Int × Int × Bool → Option R) : c_impl_Misclosure x0 x1 x2 x3 x4 k = (c_impl_Misclosure x0 x1 x2 x3 x4 some).bind k := by
  unfold c_impl_Misclosure
  repeat' first
    | exact bnd_tail
    | exact bnd_none
    | exact bnd_leaf
    | apply bnd_ite
    | apply bnd_cond
    | apply bnd_sum
    | (apply bnd_bind; intro _)
    | intro _
def impl_Misclosure (x0 : Int) (x1 : Int) (x2 : List D) (x3 : Int) (x4 : Int) : Option (Int × Int × Bool) := c_impl_Misclosure x0 x1 x2 x3 x4 some
def e_impl_Misclosure : Ent := ⟨29, [.agg [.int .i64, .int .i64], .rd (.struct [.int .i64, .int .i64]), .agg [.int .i64, .int .i64]], .tup [.agg [.int .i64, .int .i64], .bool], [.undef, .undef, .undef], fun _ ds k => dI (fun x0 ds => dI (fun x1 ds => dL (fun x2 ds => dI (fun x3 ds => dI (fun x4 ds => dE ((impl_Misclosure x0 x1 x2 x3 x4).bind (fun y => k [.I y.1, .I y.2.1, .B y.2.2])) ds) ds) ds) ds) ds) ds⟩
theorem q_impl_Misclosure (x0 : Int) (x1 : Int) (x2 : List D) (x3 : Int) (x4 : Int) : runFn (ocOf [e_impl_TraverseEnd, e_impl_isPoint]) (olOf []) A 29 Go.Proofs.Try.f29 (Sh.mks e_impl_Misclosure.sh [.I x0, .I x1, .L x2, .I x3, .I x4]).1 (fun v os => some (v, os)) = c_impl_Misclosure x0 x1 x2 x3 x4 (fun y => some ((e_impl_Misclosure.res.mk [.I y.1, .I y.2.1, .B y.2.2]).1, (Sh.mks e_impl_Misclosure.outs (e_impl_Misclosure.res.mk [.I y.1, .I y.2.1, .B y.2.2]).2).1)) := by kernel_rfl
theorem e_impl_Misclosure_ok : e_impl_Misclosure.ok Go.Proofs.Try.prog A := by
  intro R ds k r h
  unfold e_impl_Misclosure at h
  obtain ⟨x0, d0, rfl, h0⟩ := dI_some h
  obtain ⟨x1, d1, rfl, h1⟩ := dI_some h0
  obtain ⟨x2, d2, rfl, h2⟩ := dL_some h1
  obtain ⟨x3, d3, rfl, h3⟩ := dI_some h2
  obtain ⟨x4, d4, rfl, h4⟩ := dI_some h3
  obtain ⟨rfl, hE⟩ := dE_some h4
  obtain ⟨y, hy, hk⟩ := bnd_some hE
  refine ⟨_, hk, fn_ok px (fx := ⟨Go.Proofs.Try.func29, by kernel_rfl, by kernel_rfl⟩) (entsOK_cons e_impl_TraverseEnd_ok (entsOK_cons e_impl_isPoint_ok entsOK_nil)) lentsOK_nil ?_⟩
  have hq := q_impl_Misclosure x0 x1 x2 x3 x4
  rw [c_impl_Misclosure_bind] at hq
  rw [show c_impl_Misclosure x0 x1 x2 x3 x4 some = some y from hy] at hq
  exact hq

/-! loop.example/g00876/spec.Misclosure -/
def c_spec_Misclosure {R : Type} (x0 : Int) (x1 : Int) (x2 : List D) (x3 : Int) (x4 : Int) (k : Int × Int × Bool → Option R) : Option R :=
 (spec_TraverseEnd x0 x1 x2).bind (fun y0 =>
 bif !y0.snd.snd then
 k ((0 : Int), (0 : Int), Bool.false)
 else
 (spec_l17Point x3 x4).bind (fun y1 =>
 bif !y1 then
 k ((0 : Int), (0 : Int), Bool.false)
 else
 k (Go.IntKind.i64.wrap (y0.fst - x3), Go.IntKind.i64.wrap (y0.snd.fst - x4), Bool.true)))
theorem c_spec_Misclosure_bind {R : Type} (x0 : Int) (x1 : Int) (x2 : List D) (x3 : Int) (x4 : Int) (k : Int × Int × Bool → Option R) : c_spec_Misclosure x0 x1 x2 x3 x4 k = (c_spec_Misclosure x0 x1 x2 x3 x4 some).bind k := by
  unfold c_spec_Misclosure
  repeat' first
    | exact bnd_tail
    | exact bnd_none
    | exact bnd_leaf
    | apply bnd_ite
    | apply bnd_cond
    | apply bnd_sum
    | (apply bnd_bind; intro _)
    | intro _
def spec_Misclosure (x0 : Int) (x1 : Int) (x2 : List D) (x3 : Int) (x4 : Int) : Option (Int × Int × Bool) := c_spec_Misclosure x0 x1 x2 x3 x4 some
def e_spec_Misclosure : Ent := ⟨30, [.agg [.int .i64, .int .i64], .rd (.struct [.int .i64, .int .i64]), .agg [.int .i64, .int .i64]], .tup [.agg [.int .i64, .int .i64], .bool], [.undef, .undef, .undef], fun _ ds k => dI (fun x0 ds => dI (fun x1 ds => dL (fun x2 ds => dI (fun x3 ds => dI (fun x4 ds => dE ((spec_Misclosure x0 x1 x2 x3 x4).bind (fun y => k [.I y.1, .I y.2.1, .B y.2.2])) ds) ds) ds) ds) ds) ds⟩
theorem q_spec_Misclosure (x0 : Int) (x1 : Int) (x2 : List D) (x3 : Int) (x4 : Int) : runFn (ocOf [e_spec_TraverseEnd, e_spec_l17Point]) (olOf []) A 30 Go.Proofs.Try.f30 (Sh.mks e_spec_Misclosure.sh [.I x0, .I x1, .L x2, .I x3, .I x4]).1 (fun v os => some (v, os)) = c_spec_Misclosure x0 x1 x2 x3 x4 (fun y => some ((e_spec_Misclosure.res.mk [.I y.1, .I y.2.1, .B y.2.2]).1, (Sh.mks e_spec_Misclosure.outs (e_spec_Misclosure.res.mk [.I y.1, .I y.2.1, .B y.2.2]).2).1)) := by kernel_rfl
theorem e_spec_Misclosure_ok : e_spec_Misclosure.ok Go.Proofs.Try.prog A := by
  intro R ds k r h
  unfold e_spec_Misclosure at h
  obtain ⟨x0, d0, rfl, h0⟩ := dI_some h
  obtain ⟨x1, d1, rfl, h1⟩ := dI_some h0
  obtain ⟨x2, d2, rfl, h2⟩ := dL_some h1
  obtain ⟨x3, d3, rfl, h3⟩ := dI_some h2
  obtain ⟨x4, d4, rfl, h4⟩ := dI_some h3
  obtain ⟨rfl, hE⟩ := dE_some h4
  obtain ⟨y, hy, hk⟩ := bnd_some hE
  refine ⟨_, hk, fn_ok px (fx := ⟨Go.Proofs.Try.func30, by kernel_rfl, by kernel_rfl⟩) (entsOK_cons e_spec_TraverseEnd_ok (entsOK_cons e_spec_l17Point_ok entsOK_nil)) lentsOK_nil ?_⟩
  have hq := q_spec_Misclosure x0 x1 x2 x3 x4
  rw [c_spec_Misclosure_bind] at hq
  rw [show c_spec_Misclosure x0 x1 x2 x3 x4 some = some y from hy] at hq
  exact hq

/-! loop.example/g00876/impl.absolute -/
def c_impl_absolute {R : Type} (x0 : Int) (k : Int → Option R) : Option R :=
 k (if Go.IntKind.i64.wrap ((0 : Int) - x0) > x0 then Go.IntKind.i64.wrap ((0 : Int) - x0) else x0)
theorem c_impl_absolute_bind {R : Type} (x0 : Int) (k : Int → Option R) : c_impl_absolute x0 k = (c_impl_absolute x0 some).bind k := by
  unfold c_impl_absolute
  repeat' first
    | exact bnd_tail
    | exact bnd_none
    | exact bnd_leaf
    | apply bnd_ite
    | apply bnd_cond
    | apply bnd_sum
    | (apply bnd_bind; intro _)
    | intro _
def impl_absolute (x0 : Int) : Option (Int) := c_impl_absolute x0 some
def e_impl_absolute : Ent := ⟨88, [.int .i64], .int .i64, [.undef], fun _ ds k => dI (fun x0 ds => dE ((impl_absolute x0).bind (fun y => k [.I y])) ds) ds⟩
theorem q_impl_absolute (x0 : Int) : runFn (ocOf []) (olOf []) A 88 Go.Proofs.Try.f88 (Sh.mks e_impl_absolute.sh [.I x0]).1 (fun v os => some (v, os)) = c_impl_absolute x0 (fun y => some ((e_impl_absolute.res.mk [.I y]).1, (Sh.mks e_impl_absolute.outs (e_impl_absolute.res.mk [.I y]).2).1)) := by kernel_rfl
theorem e_impl_absolute_ok : e_impl_absolute.ok Go.Proofs.Try.prog A := by
  intro R ds k r h
  unfold e_impl_absolute at h
  obtain ⟨x0, d0, rfl, h0⟩ := dI_some h
  obtain ⟨rfl, hE⟩ := dE_some h0
  obtain ⟨y, hy, hk⟩ := bnd_some hE
  refine ⟨_, hk, fn_ok px (fx := ⟨Go.Proofs.Try.func88, by kernel_rfl, by kernel_rfl⟩) entsOK_nil lentsOK_nil ?_⟩
  have hq := q_impl_absolute x0
  rw [c_impl_absolute_bind] at hq
  rw [show c_impl_absolute x0 some = some y from hy] at hq
  exact hq

/-! loop.example/g00876/impl.AdjustTraverse, loop 8 -/
def c_impl_AdjustTraverse_L8 {R : Type} (F : Int → List D → Int → Int → Int → Int → List D → List D → Option (Int × Int × Int × List D × List D)) (x0 : Int) (x1 : List D) (x2 : Int) (x3 : Int) (x4 : Int) (x5 : Int) (x6 : List D) (x7 : List D) (k : Int × Int × Int × List D × List D → Option R) : Option R :=
 bif Decidable.decide (x3 < x2) then
 if (0 : Int) ≤ x3 ∧ x3 < (↑x1.length : Int) then
 (impl_absolute (((x1.getD x3.toNat (Go.Rai.D.int (0 : Int))).fld (0 : Nat)).toInt)).bind (fun y0 =>
 (impl_absolute (((x1.getD x3.toNat (Go.Rai.D.int (0 : Int))).fld (1 : Nat)).toInt)).bind (fun y1 =>
 if x7.length + [Go.Rai.D.int (Go.IntKind.i64.wrap (x0 + Go.IntKind.i64.wrap (y0 + y1)))].length ≤ (4294967296 : Nat) then
 (F (Go.IntKind.i64.wrap (x0 + Go.IntKind.i64.wrap (y0 + y1))) x1 x2 (Go.IntKind.i64.wrap (x3 + (1 : Int))) x4 x5 x6 (x7 ++ [Go.Rai.D.int (Go.IntKind.i64.wrap (x0 + Go.IntKind.i64.wrap (y0 + y1)))])).bind k
 else
 none))
 else
 none
 else
 k (x0, x4, x5, x6, x7)
theorem c_impl_AdjustTraverse_L8_bind {R : Type} (F : Int → List D → Int → Int → Int → Int → List D → List D → Option (Int × Int × Int × List D × List D)) (x0 : Int) (x1 : List D) (x2 : Int) (x3 : Int) (x4 : Int) (x5 : Int) (x6 : List D) (x7 : List D) (k : Int × Int × Int × List D × List D → Option R) : c_impl_AdjustTraverse_L8 F x0 x1 x2 x3 x4 x5 x6 x7 k = (c_impl_AdjustTraverse_L8 F x0 x1 x2 x3 x4 x5 x6 x7 some).bind k := by
  unfold c_impl_AdjustTraverse_L8
  repeat' first
    | exact bnd_tail
    | exact bnd_none
    | exact bnd_leaf
    | apply bnd_ite
    | apply bnd_cond
    | apply bnd_sum
    | (apply bnd_bind; intro _)
    | intro _
def n_impl_AdjustTraverse_L8 : Nat → Int → List D → Int → Int → Int → Int → List D → List D → Option (Int × Int × Int × List D × List D)
 | 0, _, _, _, _, _, _, _, _ => none
 | n + 1, x0, x1, x2, x3, x4, x5, x6, x7 => c_impl_AdjustTraverse_L8 (n_impl_AdjustTraverse_L8 n) x0 x1 x2 x3 x4 x5 x6 x7 some
noncomputable def impl_AdjustTraverse_L8 (x0 : Int) (x1 : List D) (x2 : Int) (x3 : Int) (x4 : Int) (x5 : Int) (x6 : List D) (x7 : List D) : Option (Int × Int × Int × List D × List D) := ev (fun n => n_impl_AdjustTraverse_L8 n x0 x1 x2 x3 x4 x5 x6 x7)
def m_impl_AdjustTraverse_L8 (F : Int → List D → Int → Int → Int → Int → List D → List D → Option (Int × Int × Int × List D × List D)) : Lent := ⟨8, ⟨[.undef, .undef, .undef, .undef, .undef, .undef, .undef, .undef, .ptr 1000 [0], .undef, .full 1001 [] (.struct [.int .i64, .int .i64]), .undef, .full 1002 [] (.int .i64), .int .i64, .undef, .undef, .undef, .undef, .undef, .undef, .undef, .undef, .undef, .undef, .undef, .undef, .undef, .undef, .undef, .undef, .undef, .undef, .undef, .undef, .rd (.struct [.int .i64, .int .i64]), .int .i64, .int .i64, .undef, .undef, .undef, .undef, .undef, .undef, .undef, .undef, .undef, .undef, .undef, .undef, .undef, .undef, .undef, .undef, .undef, .undef, .undef, .undef, .undef, .undef, .undef, .undef, .undef, .undef, .undef, .undef, .undef, .undef, .undef, .undef, .undef, .undef, .undef, .undef, .undef, .undef, .undef, .undef, .undef, .undef, .undef, .undef, .undef, .undef, .undef, .undef, .undef, .undef, .undef, .undef, .undef, .undef, .undef, .undef, .undef, .undef, .undef, .undef, .undef, .undef], [(1000, .obox (.agg [.int .i64, .int .i64])), (1001, .own (.struct [.int .i64, .int .i64])), (1002, .own (.int .i64))]⟩, [(.exit 0, ⟨[.undef, .undef, .undef, .undef, .undef, .undef, .undef, .undef, .ptr 1000 [0], .undef, .full 1001 [] (.struct [.int .i64, .int .i64]), .undef, .full 1002 [] (.int .i64), .int .i64, .undef, .undef, .undef, .undef, .undef, .undef, .undef, .undef, .undef, .undef, .undef, .undef, .undef, .undef, .undef, .undef, .undef, .undef, .undef, .undef, .undef, .undef, .undef, .undef, .undef, .undef, .undef, .undef, .undef, .undef, .undef, .undef, .undef, .undef, .undef, .undef, .undef, .undef, .undef, .undef, .undef, .undef, .undef, .undef, .undef, .undef, .undef, .undef, .undef, .undef, .undef, .undef, .undef, .undef, .undef, .undef, .undef, .undef, .undef, .undef, .undef, .undef, .undef, .undef, .undef, .undef, .undef, .undef, .undef, .undef, .undef, .undef, .undef, .undef, .undef, .undef, .undef, .undef, .undef, .undef, .undef, .undef, .undef, .undef, .undef], [(1000, .obox (.agg [.int .i64, .int .i64])), (1001, .own (.struct [.int .i64, .int .i64])), (1002, .own (.int .i64))]⟩)], fun _ ds k => dI (fun x0 ds => dL (fun x1 ds => dI (fun x2 ds => dI (fun x3 ds => dI (fun x4 ds => dI (fun x5 ds => dL (fun x6 ds => dL (fun x7 ds => dE ((F x0 x1 x2 x3 x4 x5 x6 x7).bind (fun y => k 0 [.I y.1, .I y.2.1, .I y.2.2.1, .L y.2.2.2.1, .L y.2.2.2.2])) ds) ds) ds) ds) ds) ds) ds) ds) ds⟩
theorem q_impl_AdjustTraverse_L8 (F : Int → List D → Int → Int → Int → Int → List D → List D → Option (Int × Int × Int × List D × List D)) (x0 : Int) (x1 : List D) (x2 : Int) (x3 : Int) (x4 : Int) (x5 : Int) (x6 : List D) (x7 : List D) : runLoop (ocOf [e_impl_absolute]) (olOf [m_impl_AdjustTraverse_L8 F]) A 31 (codeAt (bodyOf Go.Proofs.Try.f31) 8) ((m_impl_AdjustTraverse_L8 F).sh.mk' [.I x0, .L x1, .I x2, .I x3, .I x4, .I x5, .L x6, .L x7]) (fun e σ' => some (e, σ')) = c_impl_AdjustTraverse_L8 F x0 x1 x2 x3 x4 x5 x6 x7 (fun y => some (.exit 0, SSt.mk' ⟨[.undef, .undef, .undef, .undef, .undef, .undef, .undef, .undef, .ptr 1000 [0], .undef, .full 1001 [] (.struct [.int .i64, .int .i64]), .undef, .full 1002 [] (.int .i64), .int .i64, .undef, .undef, .undef, .undef, .undef, .undef, .undef, .undef, .undef, .undef, .undef, .undef, .undef, .undef, .undef, .undef, .undef, .undef, .undef, .undef, .undef, .undef, .undef, .undef, .undef, .undef, .undef, .undef, .undef, .undef, .undef, .undef, .undef, .undef, .undef, .undef, .undef, .undef, .undef, .undef, .undef, .undef, .undef, .undef, .undef, .undef, .undef, .undef, .undef, .undef, .undef, .undef, .undef, .undef, .undef, .undef, .undef, .undef, .undef, .undef, .undef, .undef, .undef, .undef, .undef, .undef, .undef, .undef, .undef, .undef, .undef, .undef, .undef, .undef, .undef, .undef, .undef, .undef, .undef, .undef, .undef, .undef, .undef, .undef, .undef], [(1000, .obox (.agg [.int .i64, .int .i64])), (1001, .own (.struct [.int .i64, .int .i64])), (1002, .own (.int .i64))]⟩ [.I y.1, .I y.2.1, .I y.2.2.1, .L y.2.2.2.1, .L y.2.2.2.2])) := by kernel_rfl
theorem m_impl_AdjustTraverse_L8_ok : ∀ n, (m_impl_AdjustTraverse_L8 (n_impl_AdjustTraverse_L8 n)).ok Go.Proofs.Try.prog (codeAt (bodyOf Go.Proofs.Try.f31) 8) := by
  intro n
  induction n with
  | zero =>
    intro R ds k r h
    unfold m_impl_AdjustTraverse_L8 at h
    obtain ⟨x0, d0, rfl, h0⟩ := dI_some h
    obtain ⟨x1, d1, rfl, h1⟩ := dL_some h0
    obtain ⟨x2, d2, rfl, h2⟩ := dI_some h1
    obtain ⟨x3, d3, rfl, h3⟩ := dI_some h2
    obtain ⟨x4, d4, rfl, h4⟩ := dI_some h3
    obtain ⟨x5, d5, rfl, h5⟩ := dI_some h4
    obtain ⟨x6, d6, rfl, h6⟩ := dL_some h5
    obtain ⟨x7, d7, rfl, h7⟩ := dL_some h6
    obtain ⟨rfl, hE⟩ := dE_some h7
    obtain ⟨y, hy, hk⟩ := bnd_some hE
    cases hy
  | succ n ih =>
    intro R ds k r h
    unfold m_impl_AdjustTraverse_L8 at h
    obtain ⟨x0, d0, rfl, h0⟩ := dI_some h
    obtain ⟨x1, d1, rfl, h1⟩ := dL_some h0
    obtain ⟨x2, d2, rfl, h2⟩ := dI_some h1
    obtain ⟨x3, d3, rfl, h3⟩ := dI_some h2
    obtain ⟨x4, d4, rfl, h4⟩ := dI_some h3
    obtain ⟨x5, d5, rfl, h5⟩ := dI_some h4
    obtain ⟨x6, d6, rfl, h6⟩ := dL_some h5
    obtain ⟨x7, d7, rfl, h7⟩ := dL_some h6
    obtain ⟨rfl, hE⟩ := dE_some h7
    obtain ⟨y, hy, hk⟩ := bnd_some hE
    have hq := q_impl_AdjustTraverse_L8 (n_impl_AdjustTraverse_L8 n) x0 x1 x2 x3 x4 x5 x6 x7
    rw [c_impl_AdjustTraverse_L8_bind] at hq
    rw [show c_impl_AdjustTraverse_L8 (n_impl_AdjustTraverse_L8 n) x0 x1 x2 x3 x4 x5 x6 x7 some = some y from hy] at hq
    refine ⟨0, _, _, _, hk, rfl, loop_ok px (fx := ⟨Go.Proofs.Try.func31, by kernel_rfl, by kernel_rfl⟩) (entsOK_cons e_impl_absolute_ok entsOK_nil) (lentsOK_cons ih lentsOK_nil) (by kernel_rfl) ?_⟩
    exact hq
noncomputable def e_impl_AdjustTraverse_L8 : Lent := m_impl_AdjustTraverse_L8 (impl_AdjustTraverse_L8)
theorem e_impl_AdjustTraverse_L8_ok : (e_impl_AdjustTraverse_L8).ok Go.Proofs.Try.prog (codeAt (bodyOf Go.Proofs.Try.f31) 8) := by
  intro R ds k r h
  unfold e_impl_AdjustTraverse_L8 m_impl_AdjustTraverse_L8 at h
  obtain ⟨x0, d0, rfl, h0⟩ := dI_some h
  obtain ⟨x1, d1, rfl, h1⟩ := dL_some h0
  obtain ⟨x2, d2, rfl, h2⟩ := dI_some h1
  obtain ⟨x3, d3, rfl, h3⟩ := dI_some h2
  obtain ⟨x4, d4, rfl, h4⟩ := dI_some h3
  obtain ⟨x5, d5, rfl, h5⟩ := dI_some h4
  obtain ⟨x6, d6, rfl, h6⟩ := dL_some h5
  obtain ⟨x7, d7, rfl, h7⟩ := dL_some h6
  obtain ⟨rfl, hE⟩ := dE_some h7
  obtain ⟨y, hy, hk⟩ := bnd_some hE
  obtain ⟨n, hn⟩ := ev_some hy
  exact m_impl_AdjustTraverse_L8_ok n R _ k r (show (n_impl_AdjustTraverse_L8 n x0 x1 x2 x3 x4 x5 x6 x7).bind _ = _ by rw [hn]; exact hk)

/-! loop.example/g00876/impl.AdjustTraverse, loop 16 -/
def c_impl_AdjustTraverse_L16 {R : Type} (F : Int → Int → Int → Int → Int → List D → List D → Option ((Bool × List D) ⊕ (List D))) (x0 : Int) (x1 : Int) (x2 : Int) (x3 : Int) (x4 : Int) (x5 : List D) (x6 : List D) (k : (Bool × List D) ⊕ (List D) → Option R) : Option R :=
 bif Decidable.decide (x2 < x1) then
 if (0 : Int) ≤ x2 ∧ x2 < (↑x5.length : Int) then
 if x2.toNat + (1 : Nat) ≤ x5.length then
 if (0 : Int) ≤ x2 ∧ x2 < (↑x6.length : Int) then
 if x2.toNat + (1 : Nat) ≤ x6.length then
 if x0 ≠ (0 : Int) then
 if (0 : Int) ≤ x2 ∧ x2 < (↑x6.length : Int) then
 if x2.toNat + (1 : Nat) ≤ x6.length then
 if x0 ≠ (0 : Int) then
 if (0 : Int) ≤ x2 ∧ x2 < (↑x5.length : Int) then
 if x2.toNat + (1 : Nat) ≤ x5.length then
 if (0 : Int) ≤ x2 ∧ x2 < (↑(x5.set x2.toNat (Go.Rai.D.node [Go.Rai.D.int (Go.IntKind.i64.wrap (((x5.getD x2.toNat (Go.Rai.D.int (0 : Int))).fld (0 : Nat)).toInt - Go.IntKind.i64.wrap ((Go.IntKind.i64.wrap (x3 * (x6.getD x2.toNat (Go.Rai.D.int (0 : Int))).toInt)).tdiv x0))), Go.Rai.D.int (Go.IntKind.i64.wrap (((x5.getD x2.toNat (Go.Rai.D.int (0 : Int))).fld (1 : Nat)).toInt - Go.IntKind.i64.wrap ((Go.IntKind.i64.wrap (x4 * (x6.getD x2.toNat (Go.Rai.D.int (0 : Int))).toInt)).tdiv x0)))])).length : Int) then
 if x2.toNat + (1 : Nat) ≤ (x5.set x2.toNat (Go.Rai.D.node [Go.Rai.D.int (Go.IntKind.i64.wrap (((x5.getD x2.toNat (Go.Rai.D.int (0 : Int))).fld (0 : Nat)).toInt - Go.IntKind.i64.wrap ((Go.IntKind.i64.wrap (x3 * (x6.getD x2.toNat (Go.Rai.D.int (0 : Int))).toInt)).tdiv x0))), Go.Rai.D.int (Go.IntKind.i64.wrap (((x5.getD x2.toNat (Go.Rai.D.int (0 : Int))).fld (1 : Nat)).toInt - Go.IntKind.i64.wrap ((Go.IntKind.i64.wrap (x4 * (x6.getD x2.toNat (Go.Rai.D.int (0 : Int))).toInt)).tdiv x0)))])).length then
 (impl_isPoint ((((x5.set x2.toNat (Go.Rai.D.node [Go.Rai.D.int (Go.IntKind.i64.wrap (((x5.getD x2.toNat (Go.Rai.D.int (0 : Int))).fld (0 : Nat)).toInt - Go.IntKind.i64.wrap ((Go.IntKind.i64.wrap (x3 * (x6.getD x2.toNat (Go.Rai.D.int (0 : Int))).toInt)).tdiv x0))), Go.Rai.D.int (Go.IntKind.i64.wrap (((x5.getD x2.toNat (Go.Rai.D.int (0 : Int))).fld (1 : Nat)).toInt - Go.IntKind.i64.wrap ((Go.IntKind.i64.wrap (x4 * (x6.getD x2.toNat (Go.Rai.D.int (0 : Int))).toInt)).tdiv x0)))])).getD x2.toNat (Go.Rai.D.int (0 : Int))).fld (0 : Nat)).toInt) ((((x5.set x2.toNat (Go.Rai.D.node [Go.Rai.D.int (Go.IntKind.i64.wrap (((x5.getD x2.toNat (Go.Rai.D.int (0 : Int))).fld (0 : Nat)).toInt - Go.IntKind.i64.wrap ((Go.IntKind.i64.wrap (x3 * (x6.getD x2.toNat (Go.Rai.D.int (0 : Int))).toInt)).tdiv x0))), Go.Rai.D.int (Go.IntKind.i64.wrap (((x5.getD x2.toNat (Go.Rai.D.int (0 : Int))).fld (1 : Nat)).toInt - Go.IntKind.i64.wrap ((Go.IntKind.i64.wrap (x4 * (x6.getD x2.toNat (Go.Rai.D.int (0 : Int))).toInt)).tdiv x0)))])).getD x2.toNat (Go.Rai.D.int (0 : Int))).fld (1 : Nat)).toInt)).bind (fun y0 =>
 bif !y0 then
 k (.inl (Bool.false, x5.set x2.toNat (Go.Rai.D.node [Go.Rai.D.int (Go.IntKind.i64.wrap (((x5.getD x2.toNat (Go.Rai.D.int (0 : Int))).fld (0 : Nat)).toInt - Go.IntKind.i64.wrap ((Go.IntKind.i64.wrap (x3 * (x6.getD x2.toNat (Go.Rai.D.int (0 : Int))).toInt)).tdiv x0))), Go.Rai.D.int (Go.IntKind.i64.wrap (((x5.getD x2.toNat (Go.Rai.D.int (0 : Int))).fld (1 : Nat)).toInt - Go.IntKind.i64.wrap ((Go.IntKind.i64.wrap (x4 * (x6.getD x2.toNat (Go.Rai.D.int (0 : Int))).toInt)).tdiv x0)))])))
 else
 (F x0 x1 (Go.IntKind.i64.wrap (x2 + (1 : Int))) x3 x4 (x5.set x2.toNat (Go.Rai.D.node [Go.Rai.D.int (Go.IntKind.i64.wrap (((x5.getD x2.toNat (Go.Rai.D.int (0 : Int))).fld (0 : Nat)).toInt - Go.IntKind.i64.wrap ((Go.IntKind.i64.wrap (x3 * (x6.getD x2.toNat (Go.Rai.D.int (0 : Int))).toInt)).tdiv x0))), Go.Rai.D.int (Go.IntKind.i64.wrap (((x5.getD x2.toNat (Go.Rai.D.int (0 : Int))).fld (1 : Nat)).toInt - Go.IntKind.i64.wrap ((Go.IntKind.i64.wrap (x4 * (x6.getD x2.toNat (Go.Rai.D.int (0 : Int))).toInt)).tdiv x0)))])) x6).bind k)
 else
 none
 else
 none
 else
 none
 else
 none
 else
 none
 else
 none
 else
 none
 else
 none
 else
 none
 else
 none
 else
 none
 else
 none
 else
 k (.inr x5)
theorem c_impl_AdjustTraverse_L16_bind {R : Type} (F : Int → Int → Int → Int → Int → List D → List D → Option ((Bool × List D) ⊕ (List D))) (x0 : Int) (x1 : Int) (x2 : Int) (x3 : Int) (x4 : Int) (x5 : List D) (x6 : List D) (k : (Bool × List D) ⊕ (List D) → Option R) : c_impl_AdjustTraverse_L16 F x0 x1 x2 x3 x4 x5 x6 k = (c_impl_AdjustTraverse_L16 F x0 x1 x2 x3 x4 x5 x6 some).bind k := by
  unfold c_impl_AdjustTraverse_L16
  repeat' first
    | exact bnd_tail
    | exact bnd_none
    | exact bnd_leaf
    | apply bnd_ite
    | apply bnd_cond
    | apply bnd_sum
    | (apply bnd_bind; intro _)
    | intro _
def n_impl_AdjustTraverse_L16 : Nat → Int → Int → Int → Int → Int → List D → List D → Option ((Bool × List D) ⊕ (List D))
 | 0, _, _, _, _, _, _, _ => none
 | n + 1, x0, x1, x2, x3, x4, x5, x6 => c_impl_AdjustTraverse_L16 (n_impl_AdjustTraverse_L16 n) x0 x1 x2 x3 x4 x5 x6 some
noncomputable def impl_AdjustTraverse_L16 (x0 : Int) (x1 : Int) (x2 : Int) (x3 : Int) (x4 : Int) (x5 : List D) (x6 : List D) : Option ((Bool × List D) ⊕ (List D)) := ev (fun n => n_impl_AdjustTraverse_L16 n x0 x1 x2 x3 x4 x5 x6)
def m_impl_AdjustTraverse_L16 (F : Int → Int → Int → Int → Int → List D → List D → Option ((Bool × List D) ⊕ (List D))) : Lent := ⟨16, ⟨[.undef, .undef, .undef, .undef, .undef, .undef, .undef, .undef, .ptr 1000 [0], .undef, .full 1001 [] (.struct [.int .i64, .int .i64]), .undef, .full 1002 [] (.int .i64), .int .i64, .undef, .undef, .undef, .undef, .undef, .undef, .undef, .undef, .undef, .undef, .undef, .undef, .undef, .undef, .undef, .undef, .undef, .undef, .undef, .undef, .undef, .undef, .undef, .undef, .undef, .undef, .undef, .undef, .undef, .undef, .undef, .undef, .undef, .undef, .undef, .undef, .undef, .undef, .undef, .undef, .undef, .undef, .full 1001 [] (.struct [.int .i64, .int .i64]), .int .i64, .int .i64, .undef, .undef, .undef, .undef, .undef, .undef, .undef, .undef, .undef, .undef, .undef, .undef, .undef, .undef, .undef, .undef, .undef, .undef, .undef, .undef, .undef, .undef, .undef, .undef, .undef, .undef, .undef, .undef, .undef, .undef, .undef, .undef, .undef, .undef, .undef, .undef, .undef, .undef, .undef, .undef], [(1000, .obox (.agg [.int .i64, .int .i64])), (1001, .own (.struct [.int .i64, .int .i64])), (1002, .own (.int .i64))]⟩, [(.ret, ⟨[.undef, .undef, .undef, .undef, .undef, .undef, .nilsl, .bool, .undef, .undef, .full 1000 [] (.struct [.int .i64, .int .i64]), .undef, .undef, .undef, .undef, .undef, .undef, .undef, .undef, .undef, .undef, .undef, .undef, .undef, .undef, .undef, .undef, .undef, .undef, .undef, .undef, .undef, .undef, .undef, .undef, .undef, .undef, .undef, .undef, .undef, .undef, .undef, .undef, .undef, .undef, .undef, .undef, .undef, .undef, .undef, .undef, .undef, .undef, .undef, .undef, .undef, .undef, .undef, .undef, .undef, .undef, .undef, .undef, .undef, .undef, .undef, .undef, .undef, .undef, .undef, .undef, .undef, .undef, .undef, .undef, .undef, .undef, .undef, .undef, .undef, .undef, .undef, .undef, .undef, .undef, .undef, .undef, .undef, .undef, .undef, .undef, .undef, .undef, .undef, .undef, .undef, .undef, .undef, .undef], [(1000, .own (.struct [.int .i64, .int .i64]))]⟩), (.exit 2, ⟨[.undef, .undef, .undef, .undef, .undef, .undef, .undef, .undef, .undef, .undef, .full 1000 [] (.struct [.int .i64, .int .i64]), .undef, .undef, .undef, .undef, .undef, .undef, .undef, .undef, .undef, .undef, .undef, .undef, .undef, .undef, .undef, .undef, .undef, .undef, .undef, .undef, .undef, .undef, .undef, .undef, .undef, .undef, .undef, .undef, .undef, .undef, .undef, .undef, .undef, .undef, .undef, .undef, .undef, .undef, .undef, .undef, .undef, .undef, .undef, .undef, .undef, .undef, .undef, .undef, .undef, .undef, .undef, .undef, .undef, .undef, .undef, .undef, .undef, .undef, .undef, .undef, .undef, .undef, .undef, .undef, .undef, .undef, .undef, .undef, .undef, .undef, .undef, .undef, .undef, .undef, .undef, .undef, .undef, .undef, .undef, .undef, .undef, .undef, .undef, .undef, .undef, .undef, .undef, .undef], [(1000, .own (.struct [.int .i64, .int .i64]))]⟩)], fun _ ds k => dI (fun x0 ds => dI (fun x1 ds => dI (fun x2 ds => dI (fun x3 ds => dI (fun x4 ds => dL (fun x5 ds => dL (fun x6 ds => dE ((F x0 x1 x2 x3 x4 x5 x6).bind (Sum.elim (fun y => k 0 [.B y.1, .L y.2]) (fun y => k 1 [.L y]))) ds) ds) ds) ds) ds) ds) ds) ds⟩
theorem q_impl_AdjustTraverse_L16 (F : Int → Int → Int → Int → Int → List D → List D → Option ((Bool × List D) ⊕ (List D))) (x0 : Int) (x1 : Int) (x2 : Int) (x3 : Int) (x4 : Int) (x5 : List D) (x6 : List D) : runLoop (ocOf [e_impl_isPoint]) (olOf [m_impl_AdjustTraverse_L16 F]) A 31 (codeAt (bodyOf Go.Proofs.Try.f31) 16) ((m_impl_AdjustTraverse_L16 F).sh.mk' [.I x0, .I x1, .I x2, .I x3, .I x4, .L x5, .L x6]) (fun e σ' => some (e, σ')) = c_impl_AdjustTraverse_L16 F x0 x1 x2 x3 x4 x5 x6 (Sum.elim (fun y => some (.ret, SSt.mk' ⟨[.undef, .undef, .undef, .undef, .undef, .undef, .nilsl, .bool, .undef, .undef, .full 1000 [] (.struct [.int .i64, .int .i64]), .undef, .undef, .undef, .undef, .undef, .undef, .undef, .undef, .undef, .undef, .undef, .undef, .undef, .undef, .undef, .undef, .undef, .undef, .undef, .undef, .undef, .undef, .undef, .undef, .undef, .undef, .undef, .undef, .undef, .undef, .undef, .undef, .undef, .undef, .undef, .undef, .undef, .undef, .undef, .undef, .undef, .undef, .undef, .undef, .undef, .undef, .undef, .undef, .undef, .undef, .undef, .undef, .undef, .undef, .undef, .undef, .undef, .undef, .undef, .undef, .undef, .undef, .undef, .undef, .undef, .undef, .undef, .undef, .undef, .undef, .undef, .undef, .undef, .undef, .undef, .undef, .undef, .undef, .undef, .undef, .undef, .undef, .undef, .undef, .undef, .undef, .undef, .undef], [(1000, .own (.struct [.int .i64, .int .i64]))]⟩ [.B y.1, .L y.2])) (fun y => some (.exit 2, SSt.mk' ⟨[.undef, .undef, .undef, .undef, .undef, .undef, .undef, .undef, .undef, .undef, .full 1000 [] (.struct [.int .i64, .int .i64]), .undef, .undef, .undef, .undef, .undef, .undef, .undef, .undef, .undef, .undef, .undef, .undef, .undef, .undef, .undef, .undef, .undef, .undef, .undef, .undef, .undef, .undef, .undef, .undef, .undef, .undef, .undef, .undef, .undef, .undef, .undef, .undef, .undef, .undef, .undef, .undef, .undef, .undef, .undef, .undef, .undef, .undef, .undef, .undef, .undef, .undef, .undef, .undef, .undef, .undef, .undef, .undef, .undef, .undef, .undef, .undef, .undef, .undef, .undef, .undef, .undef, .undef, .undef, .undef, .undef, .undef, .undef, .undef, .undef, .undef, .undef, .undef, .undef, .undef, .undef, .undef, .undef, .undef, .undef, .undef, .undef, .undef, .undef, .undef, .undef, .undef, .undef, .undef], [(1000, .own (.struct [.int .i64, .int .i64]))]⟩ [.L y]))) := by kernel_rfl
theorem m_impl_AdjustTraverse_L16_ok : ∀ n, (m_impl_AdjustTraverse_L16 (n_impl_AdjustTraverse_L16 n)).ok Go.Proofs.Try.prog (codeAt (bodyOf Go.Proofs.Try.f31) 16) := by
  intro n
  induction n with
  | zero =>
    intro R ds k r h
    unfold m_impl_AdjustTraverse_L16 at h
    obtain ⟨x0, d0, rfl, h0⟩ := dI_some h
    obtain ⟨x1, d1, rfl, h1⟩ := dI_some h0
    obtain ⟨x2, d2, rfl, h2⟩ := dI_some h1
    obtain ⟨x3, d3, rfl, h3⟩ := dI_some h2
    obtain ⟨x4, d4, rfl, h4⟩ := dI_some h3
    obtain ⟨x5, d5, rfl, h5⟩ := dL_some h4
    obtain ⟨x6, d6, rfl, h6⟩ := dL_some h5
    obtain ⟨rfl, hE⟩ := dE_some h6
    obtain ⟨y, hy, hk⟩ := bnd_some hE
    cases hy
  | succ n ih =>
    intro R ds k r h
    unfold m_impl_AdjustTraverse_L16 at h
    obtain ⟨x0, d0, rfl, h0⟩ := dI_some h
    obtain ⟨x1, d1, rfl, h1⟩ := dI_some h0
    obtain ⟨x2, d2, rfl, h2⟩ := dI_some h1
    obtain ⟨x3, d3, rfl, h3⟩ := dI_some h2
    obtain ⟨x4, d4, rfl, h4⟩ := dI_some h3
    obtain ⟨x5, d5, rfl, h5⟩ := dL_some h4
    obtain ⟨x6, d6, rfl, h6⟩ := dL_some h5
    obtain ⟨rfl, hE⟩ := dE_some h6
    obtain ⟨y, hy, hk⟩ := bnd_some hE
    have hq := q_impl_AdjustTraverse_L16 (n_impl_AdjustTraverse_L16 n) x0 x1 x2 x3 x4 x5 x6
    rw [c_impl_AdjustTraverse_L16_bind] at hq
    rw [show c_impl_AdjustTraverse_L16 (n_impl_AdjustTraverse_L16 n) x0 x1 x2 x3 x4 x5 x6 some = some y from hy] at hq
    cases y with
    | inl y =>
      refine ⟨0, _, _, _, hk, rfl, loop_ok px (fx := ⟨Go.Proofs.Try.func31, by kernel_rfl, by kernel_rfl⟩) (entsOK_cons e_impl_isPoint_ok entsOK_nil) (lentsOK_cons ih lentsOK_nil) (by kernel_rfl) ?_⟩
      exact hq
    | inr y =>
      refine ⟨1, _, _, _, hk, rfl, loop_ok px (fx := ⟨Go.Proofs.Try.func31, by kernel_rfl, by kernel_rfl⟩) (entsOK_cons e_impl_isPoint_ok entsOK_nil) (lentsOK_cons ih lentsOK_nil) (by kernel_rfl) ?_⟩
      exact hq
noncomputable def e_impl_AdjustTraverse_L16 : Lent := m_impl_AdjustTraverse_L16 (impl_AdjustTraverse_L16)
theorem e_impl_AdjustTraverse_L16_ok : (e_impl_AdjustTraverse_L16).ok Go.Proofs.Try.prog (codeAt (bodyOf Go.Proofs.Try.f31) 16) := by
  intro R ds k r h
  unfold e_impl_AdjustTraverse_L16 m_impl_AdjustTraverse_L16 at h
  obtain ⟨x0, d0, rfl, h0⟩ := dI_some h
  obtain ⟨x1, d1, rfl, h1⟩ := dI_some h0
  obtain ⟨x2, d2, rfl, h2⟩ := dI_some h1
  obtain ⟨x3, d3, rfl, h3⟩ := dI_some h2
  obtain ⟨x4, d4, rfl, h4⟩ := dI_some h3
  obtain ⟨x5, d5, rfl, h5⟩ := dL_some h4
  obtain ⟨x6, d6, rfl, h6⟩ := dL_some h5
  obtain ⟨rfl, hE⟩ := dE_some h6
  obtain ⟨y, hy, hk⟩ := bnd_some hE
  obtain ⟨n, hn⟩ := ev_some hy
  exact m_impl_AdjustTraverse_L16_ok n R _ k r (show (n_impl_AdjustTraverse_L16 n x0 x1 x2 x3 x4 x5 x6).bind _ = _ by rw [hn]; exact hk)

/-! loop.example/g00876/impl.AdjustTraverse -/
def c_impl_AdjustTraverse {R : Type} (x0 : Int) (x1 : Int) (x2 : List D) (x3 : Int) (x4 : Int) (k : List D × Bool → Option R) : Option R :=
 (impl_Misclosure x0 x1 x2 x3 x4).bind (fun y0 =>
 bif !y0.snd.snd then
 k ([], Bool.false)
 else
 (impl_reached x0 x1 x2).bind (fun y1 =>
 (impl_AdjustTraverse_L8 (0 : Int) x2 (↑x2.length : Int) (0 : Int) y0.fst y0.snd.fst y1.fst []).bind (fun y2 =>
 bif Decidable.decide (y2.fst = (0 : Int)) then
 k ([], Bool.false)
 else
 (impl_AdjustTraverse_L16 y2.fst (↑y2.snd.snd.snd.fst.length : Int) (0 : Int) y2.snd.fst y2.snd.snd.fst y2.snd.snd.snd.fst y2.snd.snd.snd.snd).bind (Sum.elim (fun y3 =>
 k ([], y3.fst)) (fun y4 =>
 k (y4, Bool.true))))))
theorem c_impl_AdjustTraverse_bind {R : Type} (x0 : Int) (x1 : Int) (x2 : List D) (x3 : Int) (x4 : Int) (k : List D × Bool → Option R) : c_impl_AdjustTraverse x0 x1 x2 x3 x4 k = (c_impl_AdjustTraverse x0 x1 x2 x3 x4 some).bind k := by
  unfold c_impl_AdjustTraverse
  repeat' first
    | exact bnd_tail
    | exact bnd_none
    | exact bnd_leaf
    | apply bnd_ite
    | apply bnd_cond
    | apply bnd_sum
    | (apply bnd_bind; intro _)
    | intro _
def impl_AdjustTraverse (x0 : Int) (x1 : Int) (x2 : List D) (x3 : Int) (x4 : Int) : Option (List D × Bool) := c_impl_AdjustTraverse x0 x1 x2 x3 x4 some
def e_impl_AdjustTraverse : Ent := ⟨31, [.agg [.int .i64, .int .i64], .rd (.struct [.int .i64, .int .i64]), .agg [.int .i64, .int .i64]], .tup [.own (.struct [.int .i64, .int .i64]), .bool], [.undef, .undef, .undef], fun _ ds k => dI (fun x0 ds => dI (fun x1 ds => dL (fun x2 ds => dI (fun x3 ds => dI (fun x4 ds => dE ((impl_AdjustTraverse x0 x1 x2 x3 x4).bind (fun y => k [.L y.1, .B y.2])) ds) ds) ds) ds) ds) ds⟩
theorem q_impl_AdjustTraverse (x0 : Int) (x1 : Int) (x2 : List D) (x3 : Int) (x4 : Int) : runFn (ocOf [e_impl_Misclosure, e_impl_reached]) (olOf [e_impl_AdjustTraverse_L8, e_impl_AdjustTraverse_L16]) A 31 Go.Proofs.Try.f31 (Sh.mks e_impl_AdjustTraverse.sh [.I x0, .I x1, .L x2, .I x3, .I x4]).1 (fun v os => some (v, os)) = c_impl_AdjustTraverse x0 x1 x2 x3 x4 (fun y => some ((e_impl_AdjustTraverse.res.mk [.L y.1, .B y.2]).1, (Sh.mks e_impl_AdjustTraverse.outs (e_impl_AdjustTraverse.res.mk [.L y.1, .B y.2]).2).1)) := by kernel_rfl
theorem e_impl_AdjustTraverse_ok : e_impl_AdjustTraverse.ok Go.Proofs.Try.prog A := by
  intro R ds k r h
  unfold e_impl_AdjustTraverse at h
  obtain ⟨x0, d0, rfl, h0⟩ := dI_some h
  obtain ⟨x1, d1, rfl, h1⟩ := dI_some h0
  obtain ⟨x2, d2, rfl, h2⟩ := dL_some h1
  obtain ⟨x3, d3, rfl, h3⟩ := dI_some h2
  obtain ⟨x4, d4, rfl, h4⟩ := dI_some h3
  obtain ⟨rfl, hE⟩ := dE_some h4
  obtain ⟨y, hy, hk⟩ := bnd_some hE
  refine ⟨_, hk, fn_ok px (fx := ⟨Go.Proofs.Try.func31, by kernel_rfl, by kernel_rfl⟩) (entsOK_cons e_impl_Misclosure_ok (entsOK_cons e_impl_reached_ok entsOK_nil)) (lentsOK_cons e_impl_AdjustTraverse_L8_ok (lentsOK_cons e_impl_AdjustTraverse_L16_ok lentsOK_nil)) ?_⟩
  have hq := q_impl_AdjustTraverse x0 x1 x2 x3 x4
  rw [c_impl_AdjustTraverse_bind] at hq
  rw [show c_impl_AdjustTraverse x0 x1 x2 x3 x4 some = some y from hy] at hq
  exact hq

/-! loop.example/g00876/spec.l1Most -/
def c_spec_l1Most {R : Type} (x0 : Int) (x1 : Int) (k : Int → Option R) : Option R :=
 bif Decidable.decide (x1 < x0) then
 k x0
 else
 k x1
theorem c_spec_l1Most_bind {R : Type} (x0 : Int) (x1 : Int) (k : Int → Option R) : c_spec_l1Most x0 x1 k = (c_spec_l1Most x0 x1 some).bind k := by
  unfold c_spec_l1Most
  repeat' first
    | exact bnd_tail
    | exact bnd_none
    | exact bnd_leaf
    | apply bnd_ite
    | apply bnd_cond
    | apply bnd_sum
    | (apply bnd_bind; intro _)
    | intro _
def spec_l1Most (x0 : Int) (x1 : Int) : Option (Int) := c_spec_l1Most x0 x1 some
def e_spec_l1Most : Ent := ⟨93, [.int .i64, .int .i64], .int .i64, [.undef, .undef], fun _ ds k => dI (fun x0 ds => dI (fun x1 ds => dE ((spec_l1Most x0 x1).bind (fun y => k [.I y])) ds) ds) ds⟩
theorem q_spec_l1Most (x0 : Int) (x1 : Int) : runFn (ocOf []) (olOf []) A 93 Go.Proofs.Try.f93 (Sh.mks e_spec_l1Most.sh [.I x0, .I x1]).1 (fun v os => some (v, os)) = c_spec_l1Most x0 x1 (fun y => some ((e_spec_l1Most.res.mk [.I y]).1, (Sh.mks e_spec_l1Most.outs (e_spec_l1Most.res.mk [.I y]).2).1)) := by kernel_rfl
theorem e_spec_l1Most_ok : e_spec_l1Most.ok Go.Proofs.Try.prog A := by
  intro R ds k r h
  unfold e_spec_l1Most at h
  obtain ⟨x0, d0, rfl, h0⟩ := dI_some h
  obtain ⟨x1, d1, rfl, h1⟩ := dI_some h0
  obtain ⟨rfl, hE⟩ := dE_some h1
  obtain ⟨y, hy, hk⟩ := bnd_some hE
  refine ⟨_, hk, fn_ok px (fx := ⟨Go.Proofs.Try.func93, by kernel_rfl, by kernel_rfl⟩) entsOK_nil lentsOK_nil ?_⟩
  have hq := q_spec_l1Most x0 x1
  rw [c_spec_l1Most_bind] at hq
  rw [show c_spec_l1Most x0 x1 some = some y from hy] at hq
  exact hq

/-! loop.example/g00876/spec.l17Length -/
def c_spec_l17Length {R : Type} (x0 : Int) (x1 : Int) (k : Int → Option R) : Option R :=
 (spec_l1Most x0 (Go.IntKind.i64.wrap ((0 : Int) - x0))).bind (fun y0 =>
 (spec_l1Most x1 (Go.IntKind.i64.wrap ((0 : Int) - x1))).bind (fun y1 =>
 k (Go.IntKind.i64.wrap (y0 + y1))))
theorem c_spec_l17Length_bind {R : Type} (x0 : Int) (x1 : Int) (k : Int → Option R) : c_spec_l17Length x0 x1 k = (c_spec_l17Length x0 x1 some).bind k := by
  unfold c_spec_l17Length
  repeat' first
    | exact bnd_tail
    | exact bnd_none
    | exact bnd_leaf
    | apply bnd_ite
    | apply bnd_cond
    | apply bnd_sum
    | (apply bnd_bind; intro _)
    | intro _
def spec_l17Length (x0 : Int) (x1 : Int) : Option (Int) := c_spec_l17Length x0 x1 some
def e_spec_l17Length : Ent := ⟨89, [.agg [.int .i64, .int .i64]], .int .i64, [.undef], fun _ ds k => dI (fun x0 ds => dI (fun x1 ds => dE ((spec_l17Length x0 x1).bind (fun y => k [.I y])) ds) ds) ds⟩
theorem q_spec_l17Length (x0 : Int) (x1 : Int) : runFn (ocOf [e_spec_l1Most]) (olOf []) A 89 Go.Proofs.Try.f89 (Sh.mks e_spec_l17Length.sh [.I x0, .I x1]).1 (fun v os => some (v, os)) = c_spec_l17Length x0 x1 (fun y => some ((e_spec_l17Length.res.mk [.I y]).1, (Sh.mks e_spec_l17Length.outs (e_spec_l17Length.res.mk [.I y]).2).1)) := by kernel_rfl
theorem e_spec_l17Length_ok : e_spec_l17Length.ok Go.Proofs.Try.prog A := by
  intro R ds k r h
  unfold e_spec_l17Length at h
  obtain ⟨x0, d0, rfl, h0⟩ := dI_some h
  obtain ⟨x1, d1, rfl, h1⟩ := dI_some h0
  obtain ⟨rfl, hE⟩ := dE_some h1
  obtain ⟨y, hy, hk⟩ := bnd_some hE
  refine ⟨_, hk, fn_ok px (fx := ⟨Go.Proofs.Try.func89, by kernel_rfl, by kernel_rfl⟩) (entsOK_cons e_spec_l1Most_ok entsOK_nil) lentsOK_nil ?_⟩
  have hq := q_spec_l17Length x0 x1
  rw [c_spec_l17Length_bind] at hq
  rw [show c_spec_l17Length x0 x1 some = some y from hy] at hq
  exact hq

/-! loop.example/g00876/spec.AdjustTraverse, loop 6 -/
def c_spec_AdjustTraverse_L6 {R : Type} (F : List D → Int → Int → Int → Int → Int → Int → Option (List D × Int × Int × Int × Int × Int)) (x0 : List D) (x1 : Int) (x2 : Int) (x3 : Int) (x4 : Int) (x5 : Int) (x6 : Int) (k : List D × Int × Int × Int × Int × Int → Option R) : Option R :=
 bif Decidable.decide (x2 < (↑x0.length : Int)) then
 if (0 : Int) ≤ x2 ∧ x2 < (↑x0.length : Int) then
 (spec_l17Length (((x0.getD x2.toNat (Go.Rai.D.int (0 : Int))).fld (0 : Nat)).toInt) (((x0.getD x2.toNat (Go.Rai.D.int (0 : Int))).fld (1 : Nat)).toInt)).bind (fun y0 =>
 (F x0 (Go.IntKind.i64.wrap (x1 + y0)) (Go.IntKind.i64.wrap (x2 + (1 : Int))) x3 x4 x5 x6).bind k)
 else
 none
 else
 k (x0, x1, x3, x4, x5, x6)
theorem c_spec_AdjustTraverse_L6_bind {R : Type} (F : List D → Int → Int → Int → Int → Int → Int → Option (List D × Int × Int × Int × Int × Int)) (x0 : List D) (x1 : Int) (x2 : Int) (x3 : Int) (x4 : Int) (x5 : Int) (x6 : Int) (k : List D × Int × Int × Int × Int × Int → Option R) : c_spec_AdjustTraverse_L6 F x0 x1 x2 x3 x4 x5 x6 k = (c_spec_AdjustTraverse_L6 F x0 x1 x2 x3 x4 x5 x6 some).bind k := by
  unfold c_spec_AdjustTraverse_L6
  repeat' first
    | exact bnd_tail
    | exact bnd_none
    | exact bnd_leaf
    | apply bnd_ite
    | apply bnd_cond
    | apply bnd_sum
    | (apply bnd_bind; intro _)
    | intro _
def n_spec_AdjustTraverse_L6 : Nat → List D → Int → Int → Int → Int → Int → Int → Option (List D × Int × Int × Int × Int × Int)
 | 0, _, _, _, _, _, _, _ => none
 | n + 1, x0, x1, x2, x3, x4, x5, x6 => c_spec_AdjustTraverse_L6 (n_spec_AdjustTraverse_L6 n) x0 x1 x2 x3 x4 x5 x6 some
noncomputable def spec_AdjustTraverse_L6 (x0 : List D) (x1 : Int) (x2 : Int) (x3 : Int) (x4 : Int) (x5 : Int) (x6 : Int) : Option (List D × Int × Int × Int × Int × Int) := ev (fun n => n_spec_AdjustTraverse_L6 n x0 x1 x2 x3 x4 x5 x6)
def m_spec_AdjustTraverse_L6 (F : List D → Int → Int → Int → Int → Int → Int → Option (List D × Int × Int × Int × Int × Int)) : Lent := ⟨6, ⟨[.undef, .rd (.struct [.int .i64, .int .i64]), .undef, .ptr 1000 [0], .undef, .undef, .undef, .undef, .ptr 1001 [0], .undef, .int .i64, .int .i64, .undef, .undef, .undef, .undef, .undef, .undef, .undef, .undef, .undef, .undef, .undef, .undef, .undef, .undef, .undef, .undef, .undef, .undef, .undef, .undef, .undef, .undef, .undef, .undef, .undef, .undef, .undef, .undef, .undef, .undef, .undef, .undef, .undef, .undef, .undef, .undef, .undef, .undef, .undef, .undef, .undef, .undef, .undef, .undef, .undef, .undef, .undef, .undef, .undef, .undef, .undef, .undef, .undef, .undef, .undef, .undef, .undef, .undef, .undef, .undef, .undef, .undef, .undef, .undef, .undef, .undef, .undef, .undef, .undef, .undef, .undef, .undef, .undef, .undef, .undef, .undef, .undef, .undef, .undef, .undef, .undef, .undef, .undef, .undef, .undef, .undef], [(1000, .obox (.agg [.int .i64, .int .i64])), (1001, .obox (.agg [.int .i64, .int .i64]))]⟩, [(.exit 0, ⟨[.undef, .rd (.struct [.int .i64, .int .i64]), .undef, .ptr 1000 [0], .undef, .undef, .undef, .undef, .ptr 1001 [0], .undef, .int .i64, .undef, .undef, .undef, .undef, .undef, .undef, .undef, .undef, .undef, .undef, .undef, .undef, .undef, .undef, .undef, .undef, .undef, .undef, .undef, .undef, .undef, .undef, .undef, .undef, .undef, .undef, .undef, .undef, .undef, .undef, .undef, .undef, .undef, .undef, .undef, .undef, .undef, .undef, .undef, .undef, .undef, .undef, .undef, .undef, .undef, .undef, .undef, .undef, .undef, .undef, .undef, .undef, .undef, .undef, .undef, .undef, .undef, .undef, .undef, .undef, .undef, .undef, .undef, .undef, .undef, .undef, .undef, .undef, .undef, .undef, .undef, .undef, .undef, .undef, .undef, .undef, .undef, .undef, .undef, .undef, .undef, .undef, .undef, .undef, .undef, .undef, .undef], [(1000, .obox (.agg [.int .i64, .int .i64])), (1001, .obox (.agg [.int .i64, .int .i64]))]⟩)], fun _ ds k => dL (fun x0 ds => dI (fun x1 ds => dI (fun x2 ds => dI (fun x3 ds => dI (fun x4 ds => dI (fun x5 ds => dI (fun x6 ds => dE ((F x0 x1 x2 x3 x4 x5 x6).bind (fun y => k 0 [.L y.1, .I y.2.1, .I y.2.2.1, .I y.2.2.2.1, .I y.2.2.2.2.1, .I y.2.2.2.2.2])) ds) ds) ds) ds) ds) ds) ds) ds⟩
theorem q_spec_AdjustTraverse_L6 (F : List D → Int → Int → Int → Int → Int → Int → Option (List D × Int × Int × Int × Int × Int)) (x0 : List D) (x1 : Int) (x2 : Int) (x3 : Int) (x4 : Int) (x5 : Int) (x6 : Int) : runLoop (ocOf [e_spec_l17Length]) (olOf [m_spec_AdjustTraverse_L6 F]) A 32 (codeAt (bodyOf Go.Proofs.Try.f32) 6) ((m_spec_AdjustTraverse_L6 F).sh.mk' [.L x0, .I x1, .I x2, .I x3, .I x4, .I x5, .I x6]) (fun e σ' => some (e, σ')) = c_spec_AdjustTraverse_L6 F x0 x1 x2 x3 x4 x5 x6 (fun y => some (.exit 0, SSt.mk' ⟨[.undef, .rd (.struct [.int .i64, .int .i64]), .undef, .ptr 1000 [0], .undef, .undef, .undef, .undef, .ptr 1001 [0], .undef, .int .i64, .undef, .undef, .undef, .undef, .undef, .undef, .undef, .undef, .undef, .undef, .undef, .undef, .undef, .undef, .undef, .undef, .undef, .undef, .undef, .undef, .undef, .undef, .undef, .undef, .undef, .undef, .undef, .undef, .undef, .undef, .undef, .undef, .undef, .undef, .undef, .undef, .undef, .undef, .undef, .undef, .undef, .undef, .undef, .undef, .undef, .undef, .undef, .undef, .undef, .undef, .undef, .undef, .undef, .undef, .undef, .undef, .undef, .undef, .undef, .undef, .undef, .undef, .undef, .undef, .undef, .undef, .undef, .undef, .undef, .undef, .undef, .undef, .undef, .undef, .undef, .undef, .undef, .undef, .undef, .undef, .undef, .undef, .undef, .undef, .undef, .undef, .undef], [(1000, .obox (.agg [.int .i64, .int .i64])), (1001, .obox (.agg [.int .i64, .int .i64]))]⟩ [.L y.1, .I y.2.1, .I y.2.2.1, .I y.2.2.2.1, .I y.2.2.2.2.1, .I y.2.2.2.2.2])) := by kernel_rfl
theorem m_spec_AdjustTraverse_L6_ok : ∀ n, (m_spec_AdjustTraverse_L6 (n_spec_AdjustTraverse_L6 n)).ok Go.Proofs.Try.prog (codeAt (bodyOf Go.Proofs.Try.f32) 6) := by
  intro n
  induction n with
  | zero =>
    intro R ds k r h
    unfold m_spec_AdjustTraverse_L6 at h
    obtain ⟨x0, d0, rfl, h0⟩ := dL_some h
    obtain ⟨x1, d1, rfl, h1⟩ := dI_some h0
    obtain ⟨x2, d2, rfl, h2⟩ := dI_some h1
    obtain ⟨x3, d3, rfl, h3⟩ := dI_some h2
    obtain ⟨x4, d4, rfl, h4⟩ := dI_some h3
    obtain ⟨x5, d5, rfl, h5⟩ := dI_some h4
    obtain ⟨x6, d6, rfl, h6⟩ := dI_some h5
    obtain ⟨rfl, hE⟩ := dE_some h6
    obtain ⟨y, hy, hk⟩ := bnd_some hE
    cases hy
  | succ n ih =>
    intro R ds k r h
    unfold m_spec_AdjustTraverse_L6 at h
    obtain ⟨x0, d0, rfl, h0⟩ := dL_some h
    obtain ⟨x1, d1, rfl, h1⟩ := dI_some h0
    obtain ⟨x2, d2, rfl, h2⟩ := dI_some h1
    obtain ⟨x3, d3, rfl, h3⟩ := dI_some h2
    obtain ⟨x4, d4, rfl, h4⟩ := dI_some h3
    obtain ⟨x5, d5, rfl, h5⟩ := dI_some h4
    obtain ⟨x6, d6, rfl, h6⟩ := dI_some h5
    obtain ⟨rfl, hE⟩ := dE_some h6
    obtain ⟨y, hy, hk⟩ := bnd_some hE
    have hq := q_spec_AdjustTraverse_L6 (n_spec_AdjustTraverse_L6 n) x0 x1 x2 x3 x4 x5 x6
    rw [c_spec_AdjustTraverse_L6_bind] at hq
    rw [show c_spec_AdjustTraverse_L6 (n_spec_AdjustTraverse_L6 n) x0 x1 x2 x3 x4 x5 x6 some = some y from hy] at hq
    refine ⟨0, _, _, _, hk, rfl, loop_ok px (fx := ⟨Go.Proofs.Try.func32, by kernel_rfl, by kernel_rfl⟩) (entsOK_cons e_spec_l17Length_ok entsOK_nil) (lentsOK_cons ih lentsOK_nil) (by kernel_rfl) ?_⟩
    exact hq
noncomputable def e_spec_AdjustTraverse_L6 : Lent := m_spec_AdjustTraverse_L6 (spec_AdjustTraverse_L6)
theorem e_spec_AdjustTraverse_L6_ok : (e_spec_AdjustTraverse_L6).ok Go.Proofs.Try.prog (codeAt (bodyOf Go.Proofs.Try.f32) 6) := by
  intro R ds k r h
  unfold e_spec_AdjustTraverse_L6 m_spec_AdjustTraverse_L6 at h
  obtain ⟨x0, d0, rfl, h0⟩ := dL_some h
  obtain ⟨x1, d1, rfl, h1⟩ := dI_some h0
  obtain ⟨x2, d2, rfl, h2⟩ := dI_some h1
  obtain ⟨x3, d3, rfl, h3⟩ := dI_some h2
  obtain ⟨x4, d4, rfl, h4⟩ := dI_some h3
  obtain ⟨x5, d5, rfl, h5⟩ := dI_some h4
  obtain ⟨x6, d6, rfl, h6⟩ := dI_some h5
  obtain ⟨rfl, hE⟩ := dE_some h6
  obtain ⟨y, hy, hk⟩ := bnd_some hE
  obtain ⟨n, hn⟩ := ev_some hy
  exact m_spec_AdjustTraverse_L6_ok n R _ k r (show (n_spec_AdjustTraverse_L6 n x0 x1 x2 x3 x4 x5 x6).bind _ = _ by rw [hn]; exact hk)

/-! loop.example/g00876/spec.AdjustTraverse, loop 15 -/
def c_spec_AdjustTraverse_L15 {R : Type} (F : List D → Int → Int → Int → Int → Int → List D → List D → Option ((Bool × List D × List D) ⊕ (List D))) (x0 : List D) (x1 : Int) (x2 : Int) (x3 : Int) (x4 : Int) (x5 : Int) (x6 : List D) (x7 : List D) (k : (Bool × List D × List D) ⊕ (List D) → Option R) : Option R :=
 bif Decidable.decide (x3 < (↑x6.length : Int)) then
 if (0 : Int) ≤ x3 ∧ x3 < (↑x0.length : Int) then
 (spec_l17Length (((x0.getD x3.toNat (Go.Rai.D.int (0 : Int))).fld (0 : Nat)).toInt) (((x0.getD x3.toNat (Go.Rai.D.int (0 : Int))).fld (1 : Nat)).toInt)).bind (fun y0 =>
 if (0 : Int) ≤ x3 ∧ x3 < (↑x6.length : Int) then
 if x3.toNat + (1 : Nat) ≤ x6.length then
 if x3.toNat + (1 : Nat) ≤ x6.length then
 if x1 ≠ (0 : Int) then
 if (0 : Int) ≤ x3 ∧ x3 < (↑x6.length : Int) then
 if x3.toNat + (1 : Nat) ≤ x6.length then
 if x3.toNat + (1 : Nat) ≤ x6.length then
 if x1 ≠ (0 : Int) then
 (spec_l17Point (Go.IntKind.i64.wrap (((x6.getD x3.toNat (Go.Rai.D.int (0 : Int))).fld (0 : Nat)).toInt - Go.IntKind.i64.wrap ((Go.IntKind.i64.wrap (x4 * Go.IntKind.i64.wrap (x2 + y0))).tdiv x1))) (Go.IntKind.i64.wrap (((x6.getD x3.toNat (Go.Rai.D.int (0 : Int))).fld (1 : Nat)).toInt - Go.IntKind.i64.wrap ((Go.IntKind.i64.wrap (x5 * Go.IntKind.i64.wrap (x2 + y0))).tdiv x1)))).bind (fun y1 =>
 bif !y1 then
 k (.inl (Bool.false, [], x7))
 else
 if x7.length + [Go.Rai.D.node [Go.Rai.D.int (Go.IntKind.i64.wrap (((x6.getD x3.toNat (Go.Rai.D.int (0 : Int))).fld (0 : Nat)).toInt - Go.IntKind.i64.wrap ((Go.IntKind.i64.wrap (x4 * Go.IntKind.i64.wrap (x2 + y0))).tdiv x1))), Go.Rai.D.int (Go.IntKind.i64.wrap (((x6.getD x3.toNat (Go.Rai.D.int (0 : Int))).fld (1 : Nat)).toInt - Go.IntKind.i64.wrap ((Go.IntKind.i64.wrap (x5 * Go.IntKind.i64.wrap (x2 + y0))).tdiv x1)))]].length ≤ (4294967296 : Nat) then
 (F x0 x1 (Go.IntKind.i64.wrap (x2 + y0)) (Go.IntKind.i64.wrap (x3 + (1 : Int))) x4 x5 x6 (x7 ++ [Go.Rai.D.node [Go.Rai.D.int (Go.IntKind.i64.wrap (((x6.getD x3.toNat (Go.Rai.D.int (0 : Int))).fld (0 : Nat)).toInt - Go.IntKind.i64.wrap ((Go.IntKind.i64.wrap (x4 * Go.IntKind.i64.wrap (x2 + y0))).tdiv x1))), Go.Rai.D.int (Go.IntKind.i64.wrap (((x6.getD x3.toNat (Go.Rai.D.int (0 : Int))).fld (1 : Nat)).toInt - Go.IntKind.i64.wrap ((Go.IntKind.i64.wrap (x5 * Go.IntKind.i64.wrap (x2 + y0))).tdiv x1)))]])).bind k
 else
 none)
 else
 none
 else
 none
 else
 none
 else
 none
 else
 none
 else
 none
 else
 none
 else
 none)
 else
 none
 else
 k (.inr x7)
theorem c_spec_AdjustTraverse_L15_bind {R : Type} (F : List D → Int → Int → Int → Int → Int → List D → List D → Option ((Bool × List D × List D) ⊕ (List D))) (x0 : List D) (x1 : Int) (x2 : Int) (x3 : Int) (x4 : Int) (x5 : Int) (x6 : List D) (x7 : List D) (k : (Bool × List D × List D) ⊕ (List D) → Option R) : c_spec_AdjustTraverse_L15 F x0 x1 x2 x3 x4 x5 x6 x7 k = (c_spec_AdjustTraverse_L15 F x0 x1 x2 x3 x4 x5 x6 x7 some).bind k := by
  unfold c_spec_AdjustTraverse_L15
  repeat' first
    | exact bnd_tail
    | exact bnd_none
    | exact bnd_leaf
    | apply bnd_ite
    | apply bnd_cond
    | apply bnd_sum
    | (apply bnd_bind; intro _)
    | intro _
def n_spec_AdjustTraverse_L15 : Nat → List D → Int → Int → Int → Int → Int → List D → List D → Option ((Bool × List D × List D) ⊕ (List D))
 | 0, _, _, _, _, _, _, _, _ => none
 | n + 1, x0, x1, x2, x3, x4, x5, x6, x7 => c_spec_AdjustTraverse_L15 (n_spec_AdjustTraverse_L15 n) x0 x1 x2 x3 x4 x5 x6 x7 some
noncomputable def spec_AdjustTraverse_L15 (x0 : List D) (x1 : Int) (x2 : Int) (x3 : Int) (x4 : Int) (x5 : Int) (x6 : List D) (x7 : List D) : Option ((Bool × List D × List D) ⊕ (List D)) := ev (fun n => n_spec_AdjustTraverse_L15 n x0 x1 x2 x3 x4 x5 x6 x7)
def m_spec_AdjustTraverse_L15 (F : List D → Int → Int → Int → Int → Int → List D → List D → Option ((Bool × List D × List D) ⊕ (List D))) : Lent := ⟨15, ⟨[.undef, .rd (.struct [.int .i64, .int .i64]), .undef, .undef, .undef, .undef, .undef, .undef, .ptr 1000 [0], .undef, .int .i64, .undef, .full 1001 [] (.struct [.int .i64, .int .i64]), .undef, .full 1002 [] (.struct [.int .i64, .int .i64]), .int .i64, .int .i64, .undef, .undef, .undef, .undef, .undef, .undef, .undef, .undef, .undef, .undef, .undef, .undef, .undef, .undef, .undef, .undef, .undef, .undef, .undef, .undef, .undef, .undef, .undef, .undef, .undef, .undef, .undef, .undef, .undef, .undef, .undef, .undef, .undef, .undef, .undef, .undef, .undef, .undef, .undef, .undef, .undef, .undef, .undef, .undef, .undef, .undef, .undef, .undef, .undef, .undef, .undef, .undef, .undef, .undef, .undef, .undef, .undef, .undef, .undef, .undef, .undef, .undef, .undef, .undef, .undef, .undef, .undef, .undef, .undef, .undef, .undef, .undef, .undef, .undef, .undef, .undef, .undef, .undef, .undef, .undef, .undef], [(1000, .obox (.agg [.int .i64, .int .i64])), (1001, .own (.struct [.int .i64, .int .i64])), (1002, .own (.struct [.int .i64, .int .i64]))]⟩, [(.ret, ⟨[.undef, .undef, .undef, .undef, .undef, .undef, .full 1000 [] (.struct [.int .i64, .int .i64]), .bool, .undef, .undef, .undef, .undef, .undef, .undef, .full 1001 [] (.struct [.int .i64, .int .i64]), .undef, .undef, .undef, .undef, .undef, .undef, .undef, .undef, .undef, .undef, .undef, .undef, .undef, .undef, .undef, .undef, .undef, .undef, .undef, .undef, .undef, .undef, .undef, .undef, .undef, .undef, .undef, .undef, .undef, .undef, .undef, .undef, .undef, .undef, .undef, .undef, .undef, .undef, .undef, .undef, .undef, .undef, .undef, .undef, .undef, .undef, .undef, .undef, .undef, .undef, .undef, .undef, .undef, .undef, .undef, .undef, .undef, .undef, .undef, .undef, .undef, .undef, .undef, .undef, .undef, .undef, .undef, .undef, .undef, .undef, .undef, .undef, .undef, .undef, .undef, .undef, .undef, .undef, .undef, .undef, .undef, .undef, .undef], [(1000, .own (.struct [.int .i64, .int .i64])), (1001, .own (.struct [.int .i64, .int .i64]))]⟩), (.exit 2, ⟨[.undef, .undef, .undef, .undef, .undef, .undef, .undef, .undef, .undef, .undef, .undef, .undef, .undef, .undef, .full 1000 [] (.struct [.int .i64, .int .i64]), .undef, .undef, .undef, .undef, .undef, .undef, .undef, .undef, .undef, .undef, .undef, .undef, .undef, .undef, .undef, .undef, .undef, .undef, .undef, .undef, .undef, .undef, .undef, .undef, .undef, .undef, .undef, .undef, .undef, .undef, .undef, .undef, .undef, .undef, .undef, .undef, .undef, .undef, .undef, .undef, .undef, .undef, .undef, .undef, .undef, .undef, .undef, .undef, .undef, .undef, .undef, .undef, .undef, .undef, .undef, .undef, .undef, .undef, .undef, .undef, .undef, .undef, .undef, .undef, .undef, .undef, .undef, .undef, .undef, .undef, .undef, .undef, .undef, .undef, .undef, .undef, .undef, .undef, .undef, .undef, .undef, .undef, .undef], [(1000, .own (.struct [.int .i64, .int .i64]))]⟩)], fun _ ds k => dL (fun x0 ds => dI (fun x1 ds => dI (fun x2 ds => dI (fun x3 ds => dI (fun x4 ds => dI (fun x5 ds => dL (fun x6 ds => dL (fun x7 ds => dE ((F x0 x1 x2 x3 x4 x5 x6 x7).bind (Sum.elim (fun y => k 0 [.B y.1, .L y.2.1, .L y.2.2]) (fun y => k 1 [.L y]))) ds) ds) ds) ds) ds) ds) ds) ds) ds⟩
theorem q_spec_AdjustTraverse_L15 (F : List D → Int → Int → Int → Int → Int → List D → List D → Option ((Bool × List D × List D) ⊕ (List D))) (x0 : List D) (x1 : Int) (x2 : Int) (x3 : Int) (x4 : Int) (x5 : Int) (x6 : List D) (x7 : List D) : runLoop (ocOf [e_spec_l17Length, e_spec_l17Point]) (olOf [m_spec_AdjustTraverse_L15 F]) A 32 (codeAt (bodyOf Go.Proofs.Try.f32) 15) ((m_spec_AdjustTraverse_L15 F).sh.mk' [.L x0, .I x1, .I x2, .I x3, .I x4, .I x5, .L x6, .L x7]) (fun e σ' => some (e, σ')) = c_spec_AdjustTraverse_L15 F x0 x1 x2 x3 x4 x5 x6 x7 (Sum.elim (fun y => some (.ret, SSt.mk' ⟨[.undef, .undef, .undef, .undef, .undef, .undef, .full 1000 [] (.struct [.int .i64, .int .i64]), .bool, .undef, .undef, .undef, .undef, .undef, .undef, .full 1001 [] (.struct [.int .i64, .int .i64]), .undef, .undef, .undef, .undef, .undef, .undef, .undef, .undef, .undef, .undef, .undef, .undef, .undef, .undef, .undef, .undef, .undef, .undef, .undef, .undef, .undef, .undef, .undef, .undef, .undef, .undef, .undef, .undef, .undef, .undef, .undef, .undef, .undef, .undef, .undef, .undef, .undef, .undef, .undef, .undef, .undef, .undef, .undef, .undef, .undef, .undef, .undef, .undef, .undef, .undef, .undef, .undef, .undef, .undef, .undef, .undef, .undef, .undef, .undef, .undef, .undef, .undef, .undef, .undef, .undef, .undef, .undef, .undef, .undef, .undef, .undef, .undef, .undef, .undef, .undef, .undef, .undef, .undef, .undef, .undef, .undef, .undef, .undef], [(1000, .own (.struct [.int .i64, .int .i64])), (1001, .own (.struct [.int .i64, .int .i64]))]⟩ [.B y.1, .L y.2.1, .L y.2.2])) (fun y => some (.exit 2, SSt.mk' ⟨[.undef, .undef, .undef, .undef, .undef, .undef, .undef, .undef, .undef, .undef, .undef, .undef, .undef, .undef, .full 1000 [] (.struct [.int .i64, .int .i64]), .undef, .undef, .undef, .undef, .undef, .undef, .undef, .undef, .undef, .undef, .undef, .undef, .undef, .undef, .undef, .undef, .undef, .undef, .undef, .undef, .undef, .undef, .undef, .undef, .undef, .undef, .undef, .undef, .undef, .undef, .undef, .undef, .undef, .undef, .undef, .undef, .undef, .undef, .undef, .undef, .undef, .undef, .undef, .undef, .undef, .undef, .undef, .undef, .undef, .undef, .undef, .undef, .undef, .undef, .undef, .undef, .undef, .undef, .undef, .undef, .undef, .undef, .undef, .undef, .undef, .undef, .undef, .undef, .undef, .undef, .undef, .undef, .undef, .undef, .undef, .undef, .undef, .undef, .undef, .undef, .undef, .undef, .undef], [(1000, .own (.struct [.int .i64, .int .i64]))]⟩ [.L y]))) := by kernel_rfl
theorem m_spec_AdjustTraverse_L15_ok : ∀ n, (m_spec_AdjustTraverse_L15 (n_spec_AdjustTraverse_L15 n)).ok Go.Proofs.Try.prog (codeAt (bodyOf Go.Proofs.Try.f32) 15) := by
  intro n
  induction n with
  | zero =>
    intro R ds k r h
    unfold m_spec_AdjustTraverse_L15 at h
    obtain ⟨x0, d0, rfl, h0⟩ := dL_some h
    obtain ⟨x1, d1, rfl, h1⟩ := dI_some h0
    obtain ⟨x2, d2, rfl, h2⟩ := dI_some h1
    obtain ⟨x3, d3, rfl, h3⟩ := dI_some h2
    obtain ⟨x4, d4, rfl, h4⟩ := dI_some h3
    obtain ⟨x5, d5, rfl, h5⟩ := dI_some h4
    obtain ⟨x6, d6, rfl, h6⟩ := dL_some h5
    obtain ⟨x7, d7, rfl, h7⟩ := dL_some h6
    obtain ⟨rfl, hE⟩ := dE_some h7
    obtain ⟨y, hy, hk⟩ := bnd_some hE
    cases hy
  | succ n ih =>
    intro R ds k r h
    unfold m_spec_AdjustTraverse_L15 at h
    obtain ⟨x0, d0, rfl, h0⟩ := dL_some h
    obtain ⟨x1, d1, rfl, h1⟩ := dI_some h0
    obtain ⟨x2, d2, rfl, h2⟩ := dI_some h1
    obtain ⟨x3, d3, rfl, h3⟩ := dI_some h2
    obtain ⟨x4, d4, rfl, h4⟩ := dI_some h3
    obtain ⟨x5, d5, rfl, h5⟩ := dI_some h4
    obtain ⟨x6, d6, rfl, h6⟩ := dL_some h5
    obtain ⟨x7, d7, rfl, h7⟩ := dL_some h6
    obtain ⟨rfl, hE⟩ := dE_some h7
    obtain ⟨y, hy, hk⟩ := bnd_some hE
    have hq := q_spec_AdjustTraverse_L15 (n_spec_AdjustTraverse_L15 n) x0 x1 x2 x3 x4 x5 x6 x7
    rw [c_spec_AdjustTraverse_L15_bind] at hq
    rw [show c_spec_AdjustTraverse_L15 (n_spec_AdjustTraverse_L15 n) x0 x1 x2 x3 x4 x5 x6 x7 some = some y from hy] at hq
    cases y with
    | inl y =>
      refine ⟨0, _, _, _, hk, rfl, loop_ok px (fx := ⟨Go.Proofs.Try.func32, by kernel_rfl, by kernel_rfl⟩) (entsOK_cons e_spec_l17Length_ok (entsOK_cons e_spec_l17Point_ok entsOK_nil)) (lentsOK_cons ih lentsOK_nil) (by kernel_rfl) ?_⟩
      exact hq
    | inr y =>
      refine ⟨1, _, _, _, hk, rfl, loop_ok px (fx := ⟨Go.Proofs.Try.func32, by kernel_rfl, by kernel_rfl⟩) (entsOK_cons e_spec_l17Length_ok (entsOK_cons e_spec_l17Point_ok entsOK_nil)) (lentsOK_cons ih lentsOK_nil) (by kernel_rfl) ?_⟩
      exact hq
noncomputable def e_spec_AdjustTraverse_L15 : Lent := m_spec_AdjustTraverse_L15 (spec_AdjustTraverse_L15)
theorem e_spec_AdjustTraverse_L15_ok : (e_spec_AdjustTraverse_L15).ok Go.Proofs.Try.prog (codeAt (bodyOf Go.Proofs.Try.f32) 15) := by
  intro R ds k r h
  unfold e_spec_AdjustTraverse_L15 m_spec_AdjustTraverse_L15 at h
  obtain ⟨x0, d0, rfl, h0⟩ := dL_some h
  obtain ⟨x1, d1, rfl, h1⟩ := dI_some h0
  obtain ⟨x2, d2, rfl, h2⟩ := dI_some h1
  obtain ⟨x3, d3, rfl, h3⟩ := dI_some h2
  obtain ⟨x4, d4, rfl, h4⟩ := dI_some h3
  obtain ⟨x5, d5, rfl, h5⟩ := dI_some h4
  obtain ⟨x6, d6, rfl, h6⟩ := dL_some h5
  obtain ⟨x7, d7, rfl, h7⟩ := dL_some h6
  obtain ⟨rfl, hE⟩ := dE_some h7
  obtain ⟨y, hy, hk⟩ := bnd_some hE
  obtain ⟨n, hn⟩ := ev_some hy
  exact m_spec_AdjustTraverse_L15_ok n R _ k r (show (n_spec_AdjustTraverse_L15 n x0 x1 x2 x3 x4 x5 x6 x7).bind _ = _ by rw [hn]; exact hk)

/-! loop.example/g00876/spec.AdjustTraverse -/
def c_spec_AdjustTraverse {R : Type} (x0 : Int) (x1 : Int) (x2 : List D) (x3 : Int) (x4 : Int) (k : List D × Bool → Option R) : Option R :=
 (spec_Misclosure x0 x1 x2 x3 x4).bind (fun y0 =>
 bif !y0.snd.snd then
 k ([], Bool.false)
 else
 (spec_AdjustTraverse_L6 x2 (0 : Int) (0 : Int) x0 x1 y0.fst y0.snd.fst).bind (fun y1 =>
 bif Decidable.decide (y1.snd.fst = (0 : Int)) then
 k ([], Bool.false)
 else
 (spec_l17Points y1.snd.snd.fst y1.snd.snd.snd.fst y1.fst).bind (fun y2 =>
 (spec_AdjustTraverse_L15 y1.fst y1.snd.fst (0 : Int) (0 : Int) y1.snd.snd.snd.snd.fst y1.snd.snd.snd.snd.snd y2.fst []).bind (Sum.elim (fun y3 =>
 k (y3.snd.fst, y3.fst)) (fun y4 =>
 k (y4, Bool.true))))))
theorem c_spec_AdjustTraverse_bind {R : Type} (x0 : Int) (x1 : Int) (x2 : List D) (x3 : Int) (x4 : Int) (k : List D × Bool → Option R) : c_spec_AdjustTraverse x0 x1 x2 x3 x4 k = (c_spec_AdjustTraverse x0 x1 x2 x3 x4 some).bind k := by
  unfold c_spec_AdjustTraverse
  repeat' first
    | exact bnd_tail
    | exact bnd_none
    | exact bnd_leaf
    | apply bnd_ite
    | apply bnd_cond
    | apply bnd_sum
    | (apply bnd_bind; intro _)
    | intro _
def spec_AdjustTraverse (x0 : Int) (x1 : Int) (x2 : List D) (x3 : Int) (x4 : Int) : Option (List D × Bool) := c_spec_AdjustTraverse x0 x1 x2 x3 x4 some
def e_spec_AdjustTraverse : Ent := ⟨32, [.agg [.int .i64, .int .i64], .rd (.struct [.int .i64, .int .i64]), .agg [.int .i64, .int .i64]], .tup [.own (.struct [.int .i64, .int .i64]), .bool], [.undef, .undef, .undef], fun _ ds k => dI (fun x0 ds => dI (fun x1 ds => dL (fun x2 ds => dI (fun x3 ds => dI (fun x4 ds => dE ((spec_AdjustTraverse x0 x1 x2 x3 x4).bind (fun y => k [.L y.1, .B y.2])) ds) ds) ds) ds) ds) ds⟩
theorem q_spec_AdjustTraverse (x0 : Int) (x1 : Int) (x2 : List D) (x3 : Int) (x4 : Int) : runFn (ocOf [e_spec_Misclosure, e_spec_l17Points]) (olOf [e_spec_AdjustTraverse_L6, e_spec_AdjustTraverse_L15]) A 32 Go.Proofs.Try.f32 (Sh.mks e_spec_AdjustTraverse.sh [.I x0, .I x1, .L x2, .I x3, .I x4]).1 (fun v os => some (v, os)) = c_spec_AdjustTraverse x0 x1 x2 x3 x4 (fun y => some ((e_spec_AdjustTraverse.res.mk [.L y.1, .B y.2]).1, (Sh.mks e_spec_AdjustTraverse.outs (e_spec_AdjustTraverse.res.mk [.L y.1, .B y.2]).2).1)) := by kernel_rfl
theorem e_spec_AdjustTraverse_ok : e_spec_AdjustTraverse.ok Go.Proofs.Try.prog A := by
  intro R ds k r h
  unfold e_spec_AdjustTraverse at h
  obtain ⟨x0, d0, rfl, h0⟩ := dI_some h
  obtain ⟨x1, d1, rfl, h1⟩ := dI_some h0
  obtain ⟨x2, d2, rfl, h2⟩ := dL_some h1
  obtain ⟨x3, d3, rfl, h3⟩ := dI_some h2
  obtain ⟨x4, d4, rfl, h4⟩ := dI_some h3
  obtain ⟨rfl, hE⟩ := dE_some h4
  obtain ⟨y, hy, hk⟩ := bnd_some hE
  refine ⟨_, hk, fn_ok px (fx := ⟨Go.Proofs.Try.func32, by kernel_rfl, by kernel_rfl⟩) (entsOK_cons e_spec_Misclosure_ok (entsOK_cons e_spec_l17Points_ok entsOK_nil)) (lentsOK_cons e_spec_AdjustTraverse_L6_ok (lentsOK_cons e_spec_AdjustTraverse_L15_ok lentsOK_nil)) ?_⟩
  have hq := q_spec_AdjustTraverse x0 x1 x2 x3 x4
  rw [c_spec_AdjustTraverse_bind] at hq
  rw [show c_spec_AdjustTraverse x0 x1 x2 x3 x4 some = some y from hy] at hq
  exact hq

/-! loop.example/g00876/laws.FnTraverses, loop 18 -/
def c_laws_FnTraverses_L18 {R : Type} (F : Int → Int → Int → List D → Int → Int → List D → Int → Int → Option ((Bool × Int × Int × List D × Int × Int) ⊕ (Int × Int × List D × Int × Int))) (x0 : Int) (x1 : Int) (x2 : Int) (x3 : List D) (x4 : Int) (x5 : Int) (x6 : List D) (x7 : Int) (x8 : Int) (k : (Bool × Int × Int × List D × Int × Int) ⊕ (Int × Int × List D × Int × Int) → Option R) : Option R :=
 bif Decidable.decide (x0 < (↑x3.length : Int)) then
 if (0 : Int) ≤ x0 ∧ x0 < (↑x3.length : Int) then
 if x0.toNat + (1 : Nat) ≤ x3.length then
 if x0.toNat + (1 : Nat) ≤ x3.length then
 if (0 : Int) ≤ x0 ∧ x0 < (↑x3.length : Int) then
 if x0.toNat + (1 : Nat) ≤ x3.length then
 if x0.toNat + (1 : Nat) ≤ x3.length then
 if (0 : Int) ≤ x0 ∧ x0 < (↑x6.length : Int) then
 if x0.toNat + (1 : Nat) ≤ x6.length then
 bif !(Decidable.decide (((x6.getD x0.toNat (Go.Rai.D.int (0 : Int))).fld (0 : Nat)).toInt = Go.IntKind.i64.wrap (x7 + ((x3.getD x0.toNat (Go.Rai.D.int (0 : Int))).fld (0 : Nat)).toInt)) && (Decidable.decide (((x6.getD x0.toNat (Go.Rai.D.int (0 : Int))).fld (1 : Nat)).toInt = Go.IntKind.i64.wrap (x8 + ((x3.getD x0.toNat (Go.Rai.D.int (0 : Int))).fld (1 : Nat)).toInt)) && Bool.true)) then
 k (.inl (Bool.false, x1, x2, x3, x4, x5))
 else
 (F (Go.IntKind.i64.wrap (x0 + (1 : Int))) x1 x2 x3 x4 x5 x6 (Go.IntKind.i64.wrap (x7 + ((x3.getD x0.toNat (Go.Rai.D.int (0 : Int))).fld (0 : Nat)).toInt)) (Go.IntKind.i64.wrap (x8 + ((x3.getD x0.toNat (Go.Rai.D.int (0 : Int))).fld (1 : Nat)).toInt))).bind k
 else
 none
 else
 none
 else
 none
 else
 none
 else
 none
 else
 none
 else
 none
 else
 none
 else
 k (.inr (x1, x2, x3, x4, x5))
theorem c_laws_FnTraverses_L18_bind {R : Type} (F : Int → Int → Int → List D → Int → Int → List D → Int → Int → Option ((Bool × Int × Int × List D × Int × Int) ⊕ (Int × Int × List D × Int × Int))) (x0 : Int) (x1 : Int) (x2 : Int) (x3 : List D) (x4 : Int) (x5 : Int) (x6 : List D) (x7 : Int) (x8 : Int) (k : (Bool × Int × Int × List D × Int × Int) ⊕ (Int × Int × List D × Int × Int) → Option R) : c_laws_FnTraverses_L18 F x0 x1 x2 x3 x4 x5 x6 x7 x8 k = (c_laws_FnTraverses_L18 F x0 x1 x2 x3 x4 x5 x6 x7 x8 some).bind k := by
  unfold c_laws_FnTraverses_L18
  repeat' first
    | exact bnd_tail
    | exact bnd_none
    | exact bnd_leaf
    | apply bnd_ite
    | apply bnd_cond
    | apply bnd_sum
    | (apply bnd_bind; intro _)
    | intro _
def n_laws_FnTraverses_L18 : Nat → Int → Int → Int → List D → Int → Int → List D → Int → Int → Option ((Bool × Int × Int × List D × Int × Int) ⊕ (Int × Int × List D × Int × Int))
 | 0, _, _, _, _, _, _, _, _, _ => none
 | n + 1, x0, x1, x2, x3, x4, x5, x6, x7, x8 => c_laws_FnTraverses_L18 (n_laws_FnTraverses_L18 n) x0 x1 x2 x3 x4 x5 x6 x7 x8 some
noncomputable def laws_FnTraverses_L18 (x0 : Int) (x1 : Int) (x2 : Int) (x3 : List D) (x4 : Int) (x5 : Int) (x6 : List D) (x7 : Int) (x8 : Int) : Option ((Bool × Int × Int × List D × Int × Int) ⊕ (Int × Int × List D × Int × Int)) := ev (fun n => n_laws_FnTraverses_L18 n x0 x1 x2 x3 x4 x5 x6 x7 x8)
def m_laws_FnTraverses_L18 (F : Int → Int → Int → List D → Int → Int → List D → Int → Int → Option ((Bool × Int × Int × List D × Int × Int) ⊕ (Int × Int × List D × Int × Int))) : Lent := ⟨18, ⟨[.undef, .undef, .undef, .ptr 1000 [0], .full 1001 [] (.struct [.int .i64, .int .i64]), .ptr 1002 [0], .undef, .undef, .undef, .undef, .full 1003 [] (.struct [.int .i64, .int .i64]), .undef, .undef, .undef, .ptr 1004 [0], .int .i64, .undef, .undef, .undef, .undef, .undef, .undef, .undef, .undef, .undef, .undef, .undef, .undef, .undef, .undef, .undef, .undef, .undef, .undef, .undef, .undef, .undef, .undef, .undef, .undef, .undef, .undef, .undef, .undef, .undef, .undef, .undef, .undef, .undef, .undef, .undef, .undef, .undef, .undef, .undef, .undef, .undef, .undef, .undef, .undef, .undef, .undef, .undef, .undef, .undef, .undef, .undef, .undef, .undef, .undef, .undef, .undef, .undef, .undef, .undef, .undef, .undef, .undef, .undef, .undef, .undef, .undef, .undef, .undef, .undef, .undef, .undef, .undef, .undef, .undef, .undef, .undef, .undef, .undef, .undef, .undef, .undef, .undef, .undef, .undef, .undef, .undef, .undef, .undef, .undef, .undef, .undef, .undef, .undef, .undef, .undef, .undef, .undef, .undef, .undef, .undef, .undef, .undef, .undef, .undef, .undef, .undef, .undef, .undef, .undef, .undef, .undef, .undef, .undef, .undef, .undef, .undef, .undef, .undef, .undef, .undef, .undef, .undef, .undef, .undef, .undef, .undef], [(1000, .obox (.agg [.int .i64, .int .i64])), (1001, .own (.struct [.int .i64, .int .i64])), (1002, .obox (.agg [.int .i64, .int .i64])), (1003, .own (.struct [.int .i64, .int .i64])), (1004, .obox (.agg [.int .i64, .int .i64]))]⟩, [(.ret, ⟨[.undef, .undef, .bool, .ptr 1000 [0], .full 1001 [] (.struct [.int .i64, .int .i64]), .ptr 1002 [0], .undef, .undef, .undef, .undef, .undef, .undef, .undef, .undef, .undef, .undef, .undef, .undef, .undef, .undef, .undef, .undef, .undef, .undef, .undef, .undef, .undef, .undef, .undef, .undef, .undef, .undef, .undef, .undef, .undef, .undef, .undef, .undef, .undef, .undef, .undef, .undef, .undef, .undef, .undef, .undef, .undef, .undef, .undef, .undef, .undef, .undef, .undef, .undef, .undef, .undef, .undef, .undef, .undef, .undef, .undef, .undef, .undef, .undef, .undef, .undef, .undef, .undef, .undef, .undef, .undef, .undef, .undef, .undef, .undef, .undef, .undef, .undef, .undef, .undef, .undef, .undef, .undef, .undef, .undef, .undef, .undef, .undef, .undef, .undef, .undef, .undef, .undef, .undef, .undef, .undef, .undef, .undef, .undef, .undef, .undef, .undef, .undef, .undef, .undef, .undef, .undef, .undef, .undef, .undef, .undef, .undef, .undef, .undef, .undef, .undef, .undef, .undef, .undef, .undef, .undef, .undef, .undef, .undef, .undef, .undef, .undef, .undef, .undef, .undef, .undef, .undef, .undef, .undef, .undef, .undef, .undef, .undef, .undef, .undef, .undef, .undef], [(1000, .obox (.agg [.int .i64, .int .i64])), (1001, .own (.struct [.int .i64, .int .i64])), (1002, .obox (.agg [.int .i64, .int .i64]))]⟩), (.exit 0, ⟨[.undef, .undef, .undef, .ptr 1000 [0], .full 1001 [] (.struct [.int .i64, .int .i64]), .ptr 1002 [0], .undef, .undef, .undef, .undef, .undef, .undef, .undef, .undef, .undef, .undef, .undef, .undef, .undef, .undef, .undef, .undef, .undef, .undef, .undef, .undef, .undef, .undef, .undef, .undef, .undef, .undef, .undef, .undef, .undef, .undef, .undef, .undef, .undef, .undef, .undef, .undef, .undef, .undef, .undef, .undef, .undef, .undef, .undef, .undef, .undef, .undef, .undef, .undef, .undef, .undef, .undef, .undef, .undef, .undef, .undef, .undef, .undef, .undef, .undef, .undef, .undef, .undef, .undef, .undef, .undef, .undef, .undef, .undef, .undef, .undef, .undef, .undef, .undef, .undef, .undef, .undef, .undef, .undef, .undef, .undef, .undef, .undef, .undef, .undef, .undef, .undef, .undef, .undef, .undef, .undef, .undef, .undef, .undef, .undef, .undef, .undef, .undef, .undef, .undef, .undef, .undef, .undef, .undef, .undef, .undef, .undef, .undef, .undef, .undef, .undef, .undef, .undef, .undef, .undef, .undef, .undef, .undef, .undef, .undef, .undef, .undef, .undef, .undef, .undef, .undef, .undef, .undef, .undef, .undef, .undef, .undef, .undef, .undef, .undef, .undef, .undef], [(1000, .obox (.agg [.int .i64, .int .i64])), (1001, .own (.struct [.int .i64, .int .i64])), (1002, .obox (.agg [.int .i64, .int .i64]))]⟩)], fun _ ds k => dI (fun x0 ds => dI (fun x1 ds => dI (fun x2 ds => dL (fun x3 ds => dI (fun x4 ds => dI (fun x5 ds => dL (fun x6 ds => dI (fun x7 ds => dI (fun x8 ds => dE ((F x0 x1 x2 x3 x4 x5 x6 x7 x8).bind (Sum.elim (fun y => k 0 [.B y.1, .I y.2.1, .I y.2.2.1, .L y.2.2.2.1, .I y.2.2.2.2.1, .I y.2.2.2.2.2]) (fun y => k 1 [.I y.1, .I y.2.1, .L y.2.2.1, .I y.2.2.2.1, .I y.2.2.2.2]))) ds) ds) ds) ds) ds) ds) ds) ds) ds) ds⟩
theorem q_laws_FnTraverses_L18 (F : Int → Int → Int → List D → Int → Int → List D → Int → Int → Option ((Bool × Int × Int × List D × Int × Int) ⊕ (Int × Int × List D × Int × Int))) (x0 : Int) (x1 : Int) (x2 : Int) (x3 : List D) (x4 : Int) (x5 : Int) (x6 : List D) (x7 : Int) (x8 : Int) : runLoop (ocOf []) (olOf [m_laws_FnTraverses_L18 F]) A 5 (codeAt (bodyOf Go.Proofs.Try.f5) 18) ((m_laws_FnTraverses_L18 F).sh.mk' [.I x0, .I x1, .I x2, .L x3, .I x4, .I x5, .L x6, .I x7, .I x8]) (fun e σ' => some (e, σ')) = c_laws_FnTraverses_L18 F x0 x1 x2 x3 x4 x5 x6 x7 x8 (Sum.elim (fun y => some (.ret, SSt.mk' ⟨[.undef, .undef, .bool, .ptr 1000 [0], .full 1001 [] (.struct [.int .i64, .int .i64]), .ptr 1002 [0], .undef, .undef, .undef, .undef, .undef, .undef, .undef, .undef, .undef, .undef, .undef, .undef, .undef, .undef, .undef, .undef, .undef, .undef, .undef, .undef, .undef, .undef, .undef, .undef, .undef, .undef, .undef, .undef, .undef, .undef, .undef, .undef, .undef, .undef, .undef, .undef, .undef, .undef, .undef, .undef, .undef, .undef, .undef, .undef, .undef, .undef, .undef, .undef, .undef, .undef, .undef, .undef, .undef, .undef, .undef, .undef, .undef, .undef, .undef, .undef, .undef, .undef, .undef, .undef, .undef, .undef, .undef, .undef, .undef, .undef, .undef, .undef, .undef, .undef, .undef, .undef, .undef, .undef, .undef, .undef, .undef, .undef, .undef, .undef, .undef, .undef, .undef, .undef, .undef, .undef, .undef, .undef, .undef, .undef, .undef, .undef, .undef, .undef, .undef, .undef, .undef, .undef, .undef, .undef, .undef, .undef, .undef, .undef, .undef, .undef, .undef, .undef, .undef, .undef, .undef, .undef, .undef, .undef, .undef, .undef, .undef, .undef, .undef, .undef, .undef, .undef, .undef, .undef, .undef, .undef, .undef, .undef, .undef, .undef, .undef, .undef], [(1000, .obox (.agg [.int .i64, .int .i64])), (1001, .own (.struct [.int .i64, .int .i64])), (1002, .obox (.agg [.int .i64, .int .i64]))]⟩ [.B y.1, .I y.2.1, .I y.2.2.1, .L y.2.2.2.1, .I y.2.2.2.2.1, .I y.2.2.2.2.2])) (fun y => some (.exit 0, SSt.mk' ⟨[.undef, .undef, .undef, .ptr 1000 [0], .full 1001 [] (.struct [.int .i64, .int .i64]), .ptr 1002 [0], .undef, .undef, .undef, .undef, .undef, .undef, .undef, .undef, .undef, .undef, .undef, .undef, .undef, .undef, .undef, .undef, .undef, .undef, .undef, .undef, .undef, .undef, .undef, .undef, .undef, .undef, .undef, .undef, .undef, .undef, .undef, .undef, .undef, .undef, .undef, .undef, .undef, .undef, .undef, .undef, .undef, .undef, .undef, .undef, .undef, .undef, .undef, .undef, .undef, .undef, .undef, .undef, .undef, .undef, .undef, .undef, .undef, .undef, .undef, .undef, .undef, .undef, .undef, .undef, .undef, .undef, .undef, .undef, .undef, .undef, .undef, .undef, .undef, .undef, .undef, .undef, .undef, .undef, .undef, .undef, .undef, .undef, .undef, .undef, .undef, .undef, .undef, .undef, .undef, .undef, .undef, .undef, .undef, .undef, .undef, .undef, .undef, .undef, .undef, .undef, .undef, .undef, .undef, .undef, .undef, .undef, .undef, .undef, .undef, .undef, .undef, .undef, .undef, .undef, .undef, .undef, .undef, .undef, .undef, .undef, .undef, .undef, .undef, .undef, .undef, .undef, .undef, .undef, .undef, .undef, .undef, .undef, .undef, .undef, .undef, .undef], [(1000, .obox (.agg [.int .i64, .int .i64])), (1001, .own (.struct [.int .i64, .int .i64])), (1002, .obox (.agg [.int .i64, .int .i64]))]⟩ [.I y.1, .I y.2.1, .L y.2.2.1, .I y.2.2.2.1, .I y.2.2.2.2]))) := by kernel_rfl
theorem m_laws_FnTraverses_L18_ok : ∀ n, (m_laws_FnTraverses_L18 (n_laws_FnTraverses_L18 n)).ok Go.Proofs.Try.prog (codeAt (bodyOf Go.Proofs.Try.f5) 18) := by
  intro n
  induction n with
  | zero =>
    intro R ds k r h
    unfold m_laws_FnTraverses_L18 at h
    obtain ⟨x0, d0, rfl, h0⟩ := dI_some h
    obtain ⟨x1, d1, rfl, h1⟩ := dI_some h0
    obtain ⟨x2, d2, rfl, h2⟩ := dI_some h1
    obtain ⟨x3, d3, rfl, h3⟩ := dL_some h2
    obtain ⟨x4, d4, rfl, h4⟩ := dI_some h3
    obtain ⟨x5, d5, rfl, h5⟩ := dI_some h4
    obtain ⟨x6, d6, rfl, h6⟩ := dL_some h5
    obtain ⟨x7, d7, rfl, h7⟩ := dI_some h6
    obtain ⟨x8, d8, rfl, h8⟩ := dI_some h7
    obtain ⟨rfl, hE⟩ := dE_some h8
    obtain ⟨y, hy, hk⟩ := bnd_some hE
    cases hy
  | succ n ih =>
    intro R ds k r h
    unfold m_laws_FnTraverses_L18 at h
    obtain ⟨x0, d0, rfl, h0⟩ := dI_some h
    obtain ⟨x1, d1, rfl, h1⟩ := dI_some h0
    obtain ⟨x2, d2, rfl, h2⟩ := dI_some h1
    obtain ⟨x3, d3, rfl, h3⟩ := dL_some h2
    obtain ⟨x4, d4, rfl, h4⟩ := dI_some h3
    obtain ⟨x5, d5, rfl, h5⟩ := dI_some h4
    obtain ⟨x6, d6, rfl, h6⟩ := dL_some h5
    obtain ⟨x7, d7, rfl, h7⟩ := dI_some h6
    obtain ⟨x8, d8, rfl, h8⟩ := dI_some h7
    obtain ⟨rfl, hE⟩ := dE_some h8
    obtain ⟨y, hy, hk⟩ := bnd_some hE
    have hq := q_laws_FnTraverses_L18 (n_laws_FnTraverses_L18 n) x0 x1 x2 x3 x4 x5 x6 x7 x8
    rw [c_laws_FnTraverses_L18_bind] at hq
    rw [show c_laws_FnTraverses_L18 (n_laws_FnTraverses_L18 n) x0 x1 x2 x3 x4 x5 x6 x7 x8 some = some y from hy] at hq
    cases y with
    | inl y =>
      refine ⟨0, _, _, _, hk, rfl, loop_ok px (fx := ⟨Go.Proofs.Try.func5, by kernel_rfl, by kernel_rfl⟩) entsOK_nil (lentsOK_cons ih lentsOK_nil) (by kernel_rfl) ?_⟩
      exact hq
    | inr y =>
      refine ⟨1, _, _, _, hk, rfl, loop_ok px (fx := ⟨Go.Proofs.Try.func5, by kernel_rfl, by kernel_rfl⟩) entsOK_nil (lentsOK_cons ih lentsOK_nil) (by kernel_rfl) ?_⟩
      exact hq
noncomputable def e_laws_FnTraverses_L18 : Lent := m_laws_FnTraverses_L18 (laws_FnTraverses_L18)
theorem e_laws_FnTraverses_L18_ok : (e_laws_FnTraverses_L18).ok Go.Proofs.Try.prog (codeAt (bodyOf Go.Proofs.Try.f5) 18) := by
  intro R ds k r h
  unfold e_laws_FnTraverses_L18 m_laws_FnTraverses_L18 at h
  obtain ⟨x0, d0, rfl, h0⟩ := dI_some h
  obtain ⟨x1, d1, rfl, h1⟩ := dI_some h0
  obtain ⟨x2, d2, rfl, h2⟩ := dI_some h1
  obtain ⟨x3, d3, rfl, h3⟩ := dL_some h2
  obtain ⟨x4, d4, rfl, h4⟩ := dI_some h3
  obtain ⟨x5, d5, rfl, h5⟩ := dI_some h4
  obtain ⟨x6, d6, rfl, h6⟩ := dL_some h5
  obtain ⟨x7, d7, rfl, h7⟩ := dI_some h6
  obtain ⟨x8, d8, rfl, h8⟩ := dI_some h7
  obtain ⟨rfl, hE⟩ := dE_some h8
  obtain ⟨y, hy, hk⟩ := bnd_some hE
  obtain ⟨n, hn⟩ := ev_some hy
  exact m_laws_FnTraverses_L18_ok n R _ k r (show (n_laws_FnTraverses_L18 n x0 x1 x2 x3 x4 x5 x6 x7 x8).bind _ = _ by rw [hn]; exact hk)

/-! loop.example/g00876/laws.FnTraverses -/
def c_laws_FnTraverses {R : Type} (x0 : List D) (k : Bool → Option R) : Option R :=
 (laws_rBig x0).bind (fun y0 =>
 bif y0 then
 k Bool.true
 else
 (spec_DrawAdjustTraverse x0).bind (fun y1 =>
 (impl_Misclosure y1.fst y1.snd.fst y1.snd.snd.fst y1.snd.snd.snd.fst y1.snd.snd.snd.snd).bind (fun y2 =>
 (spec_Misclosure y1.fst y1.snd.fst y1.snd.snd.fst y1.snd.snd.snd.fst y1.snd.snd.snd.snd).bind (fun y3 =>
 bif !(Decidable.decide (y2.fst = y3.fst) && (Decidable.decide (y2.snd.fst = y3.snd.fst) && Bool.true)) then
 k Bool.false
 else
 bif !y2.snd.snd == y3.snd.snd then
 k Bool.false
 else
 (impl_AdjustTraverse y1.fst y1.snd.fst y1.snd.snd.fst y1.snd.snd.snd.fst y1.snd.snd.snd.snd).bind (fun y4 =>
 (spec_AdjustTraverse y1.fst y1.snd.fst y1.snd.snd.fst y1.snd.snd.snd.fst y1.snd.snd.snd.snd).bind (fun y5 =>
 bif !y4.snd == y5.snd then
 bif y4.snd == y5.snd then
 k (Decidable.decide ((↑y4.fst.length : Int) = (0 : Int)))
 else
 k Bool.false
 else
 bif !y4.snd then
 bif y4.snd == y5.snd then
 k (Decidable.decide ((↑y4.fst.length : Int) = (0 : Int)))
 else
 k Bool.false
 else
 bif !Decidable.decide ((↑y4.fst.length : Int) = (↑y1.snd.snd.fst.length : Int)) then
 k Bool.false
 else
 if (0 : Int) ≤ Go.IntKind.i64.wrap ((↑y4.fst.length : Int) - (1 : Int)) ∧ Go.IntKind.i64.wrap ((↑y4.fst.length : Int) - (1 : Int)) < (↑y4.fst.length : Int) then
 if (Go.IntKind.i64.wrap ((↑y4.fst.length : Int) - (1 : Int))).toNat + (1 : Nat) ≤ y4.fst.length then
 bif !(Decidable.decide (((y4.fst.getD (Go.IntKind.i64.wrap ((↑y4.fst.length : Int) - (1 : Int))).toNat (Go.Rai.D.int (0 : Int))).fld (0 : Nat)).toInt = y1.snd.snd.snd.fst) && (Decidable.decide (((y4.fst.getD (Go.IntKind.i64.wrap ((↑y4.fst.length : Int) - (1 : Int))).toNat (Go.Rai.D.int (0 : Int))).fld (1 : Nat)).toInt = y1.snd.snd.snd.snd) && Bool.true)) then
 k Bool.false
 else
 bif !Decidable.decide (y2.fst = (0 : Int)) then
 k Bool.true
 else
 bif !Decidable.decide (y2.snd.fst = (0 : Int)) then
 k Bool.true
 else
 (laws_FnTraverses_L18 (0 : Int) y1.fst y1.snd.fst y1.snd.snd.fst y1.snd.snd.snd.fst y1.snd.snd.snd.snd y4.fst y1.fst y1.snd.fst).bind (Sum.elim (fun y6 =>
 k y6.fst) (fun y7 =>
 (impl_TraverseEnd y7.fst y7.snd.fst y7.snd.snd.fst).bind (fun y8 =>
 bif y8.snd.snd then
 k (Decidable.decide (y8.fst = y7.snd.snd.snd.fst) && (Decidable.decide (y8.snd.fst = y7.snd.snd.snd.snd) && Bool.true))
 else
 k Bool.false)))
 else
 none
 else
 none))))))
theorem c_laws_FnTraverses_bind {R : Type} (x0 : List D) (k : Bool → Option R) : c_laws_FnTraverses x0 k = (c_laws_FnTraverses x0 some).bind k := by
  unfold c_laws_FnTraverses
  repeat' first
    | exact bnd_tail
    | exact bnd_none
    | exact bnd_leaf
    | apply bnd_ite
    | apply bnd_cond
    | apply bnd_sum
    | (apply bnd_bind; intro _)
    | intro _
def laws_FnTraverses (x0 : List D) : Option (Bool) := c_laws_FnTraverses x0 some
def e_laws_FnTraverses : Ent := ⟨5, [.rd (.int .u8)], .bool, [.undef], fun _ ds k => dL (fun x0 ds => dE ((laws_FnTraverses x0).bind (fun y => k [.B y])) ds) ds⟩
theorem q_laws_FnTraverses (x0 : List D) : runFn (ocOf [e_laws_rBig, e_spec_DrawAdjustTraverse, e_impl_Misclosure, e_spec_Misclosure, e_impl_AdjustTraverse, e_spec_AdjustTraverse, e_impl_TraverseEnd]) (olOf [e_laws_FnTraverses_L18]) A 5 Go.Proofs.Try.f5 (Sh.mks e_laws_FnTraverses.sh [.L x0]).1 (fun v os => some (v, os)) = c_laws_FnTraverses x0 (fun y => some ((e_laws_FnTraverses.res.mk [.B y]).1, (Sh.mks e_laws_FnTraverses.outs (e_laws_FnTraverses.res.mk [.B y]).2).1)) := by kernel_rfl
theorem e_laws_FnTraverses_ok : e_laws_FnTraverses.ok Go.Proofs.Try.prog A := by
  intro R ds k r h
  unfold e_laws_FnTraverses at h
  obtain ⟨x0, d0, rfl, h0⟩ := dL_some h
  obtain ⟨rfl, hE⟩ := dE_some h0
  obtain ⟨y, hy, hk⟩ := bnd_some hE
  refine ⟨_, hk, fn_ok px (fx := ⟨Go.Proofs.Try.func5, by kernel_rfl, by kernel_rfl⟩) (entsOK_cons e_laws_rBig_ok (entsOK_cons e_spec_DrawAdjustTraverse_ok (entsOK_cons e_impl_Misclosure_ok (entsOK_cons e_spec_Misclosure_ok (entsOK_cons e_impl_AdjustTraverse_ok (entsOK_cons e_spec_AdjustTraverse_ok (entsOK_cons e_impl_TraverseEnd_ok entsOK_nil))))))) (lentsOK_cons e_laws_FnTraverses_L18_ok lentsOK_nil) ?_⟩
  have hq := q_laws_FnTraverses x0
  rw [c_laws_FnTraverses_bind] at hq
  rw [show c_laws_FnTraverses x0 some = some y from hy] at hq
  exact hq
end
end Go.Proofs.Yticcpkmednijlaa
