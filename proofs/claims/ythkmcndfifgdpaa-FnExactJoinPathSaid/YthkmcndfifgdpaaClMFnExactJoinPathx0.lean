/- Models of Go functions and their contracts, printed by a program of this session. -/
import Derived.Test.YthkmcndfifgdpaaClA
set_option linter.unusedVariables false
set_option maxRecDepth 100000
namespace Go.Proofs.Ythkmcndfifgdpaa
open Go Go.Rai
noncomputable section
/-! loop.example/g00876/laws.szSherdS -/
def c_laws_szSherdS {R : Type} (x0 : List D) (x1 : Int) (k : Int → Option R) : Option R :=
 bif Decidable.decide (Go.IntKind.i64.wrap (x1 - (↑x0.length : Int)) < (0 : Int)) then
 k (-1 : Int)
 else
 k (Go.IntKind.i64.wrap (x1 - (↑x0.length : Int)))
theorem c_laws_szSherdS_bind {R : Type} (x0 : List D) (x1 : Int) (k : Int → Option R) : c_laws_szSherdS x0 x1 k = (c_laws_szSherdS x0 x1 some).bind k := by
  unfold c_laws_szSherdS
  repeat' first
    | exact bnd_tail
    | exact bnd_none
    | exact bnd_leaf
    | apply bnd_ite
    | apply bnd_cond
    | apply bnd_sum
    | (apply bnd_bind; intro _)
    | intro _
def laws_szSherdS (x0 : List D) (x1 : Int) : Option (Int) := c_laws_szSherdS x0 x1 some
def e_laws_szSherdS : Ent := ⟨14, [.rd (.struct [.int .i64, .int .i64, .int .i64, .int .i64]), .int .i64], .int .i64, [.undef, .undef], fun _ ds k => dL (fun x0 ds => dI (fun x1 ds => dE ((laws_szSherdS x0 x1).bind (fun y => k [.I y])) ds) ds) ds⟩
theorem q_laws_szSherdS (x0 : List D) (x1 : Int) : runFn (ocOf []) (olOf []) A 14 Go.Proofs.Try.f14 (Sh.mks e_laws_szSherdS.sh [.L x0, .I x1]).1 (fun v os => some (v, os)) = c_laws_szSherdS x0 x1 (fun y => some ((e_laws_szSherdS.res.mk [.I y]).1, (Sh.mks e_laws_szSherdS.outs (e_laws_szSherdS.res.mk [.I y]).2).1)) := by kernel_rfl
theorem e_laws_szSherdS_ok : e_laws_szSherdS.ok Go.Proofs.Try.prog A := by
  intro R ds k r h
  unfold e_laws_szSherdS at h
  obtain ⟨x0, d0, rfl, h0⟩ := dL_some h
  obtain ⟨x1, d1, rfl, h1⟩ := dI_some h0
  obtain ⟨rfl, hE⟩ := dE_some h1
  obtain ⟨y, hy, hk⟩ := bnd_some hE
  refine ⟨_, hk, fn_ok px (fx := ⟨Go.Proofs.Try.func14, by kernel_rfl, by kernel_rfl⟩) entsOK_nil lentsOK_nil ?_⟩
  have hq := q_laws_szSherdS x0 x1
  rw [c_laws_szSherdS_bind] at hq
  rw [show c_laws_szSherdS x0 x1 some = some y from hy] at hq
  exact hq

/-! loop.example/g00876/laws.szJoinS -/
def c_laws_szJoinS {R : Type} (x0 : List D) (x1 : Int) (k : Int → Option R) : Option R :=
 bif Decidable.decide (Go.IntKind.i64.wrap (x1 - (↑x0.length : Int)) < (0 : Int)) then
 k (-1 : Int)
 else
 k (Go.IntKind.i64.wrap (x1 - (↑x0.length : Int)))
theorem c_laws_szJoinS_bind {R : Type} (x0 : List D) (x1 : Int) (k : Int → Option R) : c_laws_szJoinS x0 x1 k = (c_laws_szJoinS x0 x1 some).bind k := by
  unfold c_laws_szJoinS
  repeat' first
    | exact bnd_tail
    | exact bnd_none
    | exact bnd_leaf
    | apply bnd_ite
    | apply bnd_cond
    | apply bnd_sum
    | (apply bnd_bind; intro _)
    | intro _
def laws_szJoinS (x0 : List D) (x1 : Int) : Option (Int) := c_laws_szJoinS x0 x1 some
def e_laws_szJoinS : Ent := ⟨15, [.rd (.struct [.int .i64, .int .i64]), .int .i64], .int .i64, [.undef, .undef], fun _ ds k => dL (fun x0 ds => dI (fun x1 ds => dE ((laws_szJoinS x0 x1).bind (fun y => k [.I y])) ds) ds) ds⟩
theorem q_laws_szJoinS (x0 : List D) (x1 : Int) : runFn (ocOf []) (olOf []) A 15 Go.Proofs.Try.f15 (Sh.mks e_laws_szJoinS.sh [.L x0, .I x1]).1 (fun v os => some (v, os)) = c_laws_szJoinS x0 x1 (fun y => some ((e_laws_szJoinS.res.mk [.I y]).1, (Sh.mks e_laws_szJoinS.outs (e_laws_szJoinS.res.mk [.I y]).2).1)) := by kernel_rfl
theorem e_laws_szJoinS_ok : e_laws_szJoinS.ok Go.Proofs.Try.prog A := by
  intro R ds k r h
  unfold e_laws_szJoinS at h
  obtain ⟨x0, d0, rfl, h0⟩ := dL_some h
  obtain ⟨x1, d1, rfl, h1⟩ := dI_some h0
  obtain ⟨rfl, hE⟩ := dE_some h1
  obtain ⟨y, hy, hk⟩ := bnd_some hE
  refine ⟨_, hk, fn_ok px (fx := ⟨Go.Proofs.Try.func15, by kernel_rfl, by kernel_rfl⟩) entsOK_nil lentsOK_nil ?_⟩
  have hq := q_laws_szJoinS x0 x1
  rw [c_laws_szJoinS_bind] at hq
  rw [show c_laws_szJoinS x0 x1 some = some y from hy] at hq
  exact hq

/-! loop.example/g00876/laws.toSherd -/
def c_laws_toSherd {R : Type} (x0 : Int) (x1 : Int) (x2 : Int) (x3 : Int) (k : Int × Int × Int × Int → Option R) : Option R :=
 k (x0, x1, x2, x3)
theorem c_laws_toSherd_bind {R : Type} (x0 : Int) (x1 : Int) (x2 : Int) (x3 : Int) (k : Int × Int × Int × Int → Option R) : c_laws_toSherd x0 x1 x2 x3 k = (c_laws_toSherd x0 x1 x2 x3 some).bind k := by
  unfold c_laws_toSherd
  repeat' first
    | exact bnd_tail
    | exact bnd_none
    | exact bnd_leaf
    | apply bnd_ite
    | apply bnd_cond
    | apply bnd_sum
    | (apply bnd_bind; intro _)
    | intro _
def laws_toSherd (x0 : Int) (x1 : Int) (x2 : Int) (x3 : Int) : Option (Int × Int × Int × Int) := c_laws_toSherd x0 x1 x2 x3 some
def e_laws_toSherd : Ent := ⟨52, [.agg [.int .i64, .int .i64, .int .i64, .int .i64]], .agg [.int .i64, .int .i64, .int .i64, .int .i64], [.undef], fun _ ds k => dI (fun x0 ds => dI (fun x1 ds => dI (fun x2 ds => dI (fun x3 ds => dE ((laws_toSherd x0 x1 x2 x3).bind (fun y => k [.I y.1, .I y.2.1, .I y.2.2.1, .I y.2.2.2])) ds) ds) ds) ds) ds⟩
theorem q_laws_toSherd (x0 : Int) (x1 : Int) (x2 : Int) (x3 : Int) : runFn (ocOf []) (olOf []) A 52 Go.Proofs.Try.f52 (Sh.mks e_laws_toSherd.sh [.I x0, .I x1, .I x2, .I x3]).1 (fun v os => some (v, os)) = c_laws_toSherd x0 x1 x2 x3 (fun y => some ((e_laws_toSherd.res.mk [.I y.1, .I y.2.1, .I y.2.2.1, .I y.2.2.2]).1, (Sh.mks e_laws_toSherd.outs (e_laws_toSherd.res.mk [.I y.1, .I y.2.1, .I y.2.2.1, .I y.2.2.2]).2).1)) := by kernel_rfl
theorem e_laws_toSherd_ok : e_laws_toSherd.ok Go.Proofs.Try.prog A := by
  intro R ds k r h
  unfold e_laws_toSherd at h
  obtain ⟨x0, d0, rfl, h0⟩ := dI_some h
  obtain ⟨x1, d1, rfl, h1⟩ := dI_some h0
  obtain ⟨x2, d2, rfl, h2⟩ := dI_some h1
  obtain ⟨x3, d3, rfl, h3⟩ := dI_some h2
  obtain ⟨rfl, hE⟩ := dE_some h3
  obtain ⟨y, hy, hk⟩ := bnd_some hE
  refine ⟨_, hk, fn_ok px (fx := ⟨Go.Proofs.Try.func52, by kernel_rfl, by kernel_rfl⟩) entsOK_nil lentsOK_nil ?_⟩
  have hq := q_laws_toSherd x0 x1 x2 x3
  rw [c_laws_toSherd_bind] at hq
  rw [show c_laws_toSherd x0 x1 x2 x3 some = some y from hy] at hq
  exact hq

/-! loop.example/g00876/laws.toSherdS, loop 3 -/
def c_laws_toSherdS_L3 {R : Type} (F : List D → Int → List D → Option (List D)) (x0 : List D) (x1 : Int) (x2 : List D) (k : List D → Option R) : Option R :=
 bif Decidable.decide (x1 < (↑x0.length : Int)) then
 if (0 : Int) ≤ x1 ∧ x1 < (↑x0.length : Int) then
 (laws_toSherd (((x0.getD x1.toNat (Go.Rai.D.int (0 : Int))).fld (0 : Nat)).toInt) (((x0.getD x1.toNat (Go.Rai.D.int (0 : Int))).fld (1 : Nat)).toInt) (((x0.getD x1.toNat (Go.Rai.D.int (0 : Int))).fld (2 : Nat)).toInt) (((x0.getD x1.toNat (Go.Rai.D.int (0 : Int))).fld (3 : Nat)).toInt)).bind (fun y0 =>
 if (0 : Int) ≤ x1 ∧ x1 < (↑x2.length : Int) then
 if x1.toNat + (1 : Nat) ≤ x2.length then
 (F x0 (Go.IntKind.i64.wrap (x1 + (1 : Int))) (x2.set x1.toNat (Go.Rai.D.node [Go.Rai.D.int y0.fst, Go.Rai.D.int y0.snd.fst, Go.Rai.D.int y0.snd.snd.fst, Go.Rai.D.int y0.snd.snd.snd]))).bind k
 else
 none
 else
 none)
 else
 none
 else
 k x2
theorem c_laws_toSherdS_L3_bind {R : Type} (F : List D → Int → List D → Option (List D)) (x0 : List D) (x1 : Int) (x2 : List D) (k : List D → Option R) : c_laws_toSherdS_L3 F x0 x1 x2 k = (c_laws_toSherdS_L3 F x0 x1 x2 some).bind k := by
  unfold c_laws_toSherdS_L3
  repeat' first
    | exact bnd_tail
    | exact bnd_none
    | exact bnd_leaf
    | apply bnd_ite
    | apply bnd_cond
    | apply bnd_sum
    | (apply bnd_bind; intro _)
    | intro _
def n_laws_toSherdS_L3 : Nat → List D → Int → List D → Option (List D)
 | 0, _, _, _ => none
 | n + 1, x0, x1, x2 => c_laws_toSherdS_L3 (n_laws_toSherdS_L3 n) x0 x1 x2 some
noncomputable def laws_toSherdS_L3 (x0 : List D) (x1 : Int) (x2 : List D) : Option (List D) := ev (fun n => n_laws_toSherdS_L3 n x0 x1 x2)
def m_laws_toSherdS_L3 (F : List D → Int → List D → Option (List D)) : Lent := ⟨3, ⟨[.rd (.struct [.int .i64, .int .i64, .int .i64, .int .i64]), .undef, .undef, .full 1000 [] (.struct [.int .i64, .int .i64, .int .i64, .int .i64]), .int .i64, .undef, .undef, .undef, .undef, .undef, .undef, .undef, .undef, .undef, .undef, .undef, .undef, .undef, .undef, .undef, .undef, .undef, .undef], [(1000, .own (.struct [.int .i64, .int .i64, .int .i64, .int .i64]))]⟩, [(.exit 0, ⟨[.undef, .undef, .undef, .full 1000 [] (.struct [.int .i64, .int .i64, .int .i64, .int .i64]), .undef, .undef, .undef, .undef, .undef, .undef, .undef, .undef, .undef, .undef, .undef, .undef, .undef, .undef, .undef, .undef, .undef, .undef, .undef], [(1000, .own (.struct [.int .i64, .int .i64, .int .i64, .int .i64]))]⟩)], fun _ ds k => dL (fun x0 ds => dI (fun x1 ds => dL (fun x2 ds => dE ((F x0 x1 x2).bind (fun y => k 0 [.L y])) ds) ds) ds) ds⟩
theorem q_laws_toSherdS_L3 (F : List D → Int → List D → Option (List D)) (x0 : List D) (x1 : Int) (x2 : List D) : runLoop (ocOf [e_laws_toSherd]) (olOf [m_laws_toSherdS_L3 F]) A 17 (codeAt (bodyOf Go.Proofs.Try.f17) 3) ((m_laws_toSherdS_L3 F).sh.mk' [.L x0, .I x1, .L x2]) (fun e σ' => some (e, σ')) = c_laws_toSherdS_L3 F x0 x1 x2 (fun y => some (.exit 0, SSt.mk' ⟨[.undef, .undef, .undef, .full 1000 [] (.struct [.int .i64, .int .i64, .int .i64, .int .i64]), .undef, .undef, .undef, .undef, .undef, .undef, .undef, .undef, .undef, .undef, .undef, .undef, .undef, .undef, .undef, .undef, .undef, .undef, .undef], [(1000, .own (.struct [.int .i64, .int .i64, .int .i64, .int .i64]))]⟩ [.L y])) := by kernel_rfl
theorem m_laws_toSherdS_L3_ok : ∀ n, (m_laws_toSherdS_L3 (n_laws_toSherdS_L3 n)).ok Go.Proofs.Try.prog (codeAt (bodyOf Go.Proofs.Try.f17) 3) := by
  intro n
  induction n with
  | zero =>
    intro R ds k r h
    unfold m_laws_toSherdS_L3 at h
    obtain ⟨x0, d0, rfl, h0⟩ := dL_some h
    obtain ⟨x1, d1, rfl, h1⟩ := dI_some h0
    obtain ⟨x2, d2, rfl, h2⟩ := dL_some h1
    obtain ⟨rfl, hE⟩ := dE_some h2
    obtain ⟨y, hy, hk⟩ := bnd_some hE
    cases hy
  | succ n ih =>
    intro R ds k r h
    unfold m_laws_toSherdS_L3 at h
    obtain ⟨x0, d0, rfl, h0⟩ := dL_some h
    obtain ⟨x1, d1, rfl, h1⟩ := dI_some h0
    obtain ⟨x2, d2, rfl, h2⟩ := dL_some h1
    obtain ⟨rfl, hE⟩ := dE_some h2
    obtain ⟨y, hy, hk⟩ := bnd_some hE
    have hq := q_laws_toSherdS_L3 (n_laws_toSherdS_L3 n) x0 x1 x2
    rw [c_laws_toSherdS_L3_bind] at hq
    rw [show c_laws_toSherdS_L3 (n_laws_toSherdS_L3 n) x0 x1 x2 some = some y from hy] at hq
    refine ⟨0, _, _, _, hk, rfl, loop_ok px (fx := ⟨Go.Proofs.Try.func17, by kernel_rfl, by kernel_rfl⟩) (entsOK_cons e_laws_toSherd_ok entsOK_nil) (lentsOK_cons ih lentsOK_nil) (by kernel_rfl) ?_⟩
    exact hq
noncomputable def e_laws_toSherdS_L3 : Lent := m_laws_toSherdS_L3 (laws_toSherdS_L3)
theorem e_laws_toSherdS_L3_ok : (e_laws_toSherdS_L3).ok Go.Proofs.Try.prog (codeAt (bodyOf Go.Proofs.Try.f17) 3) := by
  intro R ds k r h
  unfold e_laws_toSherdS_L3 m_laws_toSherdS_L3 at h
  obtain ⟨x0, d0, rfl, h0⟩ := dL_some h
  obtain ⟨x1, d1, rfl, h1⟩ := dI_some h0
  obtain ⟨x2, d2, rfl, h2⟩ := dL_some h1
  obtain ⟨rfl, hE⟩ := dE_some h2
  obtain ⟨y, hy, hk⟩ := bnd_some hE
  obtain ⟨n, hn⟩ := ev_some hy
  exact m_laws_toSherdS_L3_ok n R _ k r (show (n_laws_toSherdS_L3 n x0 x1 x2).bind _ = _ by rw [hn]; exact hk)

/-! loop.example/g00876/laws.toSherdS -/
def c_laws_toSherdS {R : Type} (x0 : List D) (k : List D → Option R) : Option R :=
 if (0 : Int) ≤ (↑x0.length : Int) ∧ (↑x0.length : Int) ≤ (↑x0.length : Int) ∧ (↑x0.length : Int) ≤ (4294967296 : Int) then
 (laws_toSherdS_L3 x0 (0 : Int) (List.replicate (↑x0.length : Int).toNat (Go.Rai.D.node [Go.Rai.D.int (0 : Int), Go.Rai.D.int (0 : Int), Go.Rai.D.int (0 : Int), Go.Rai.D.int (0 : Int)]))).bind (fun y0 =>
 k y0)
 else
 none
theorem c_laws_toSherdS_bind {R : Type} (x0 : List D) (k : List D → Option R) : c_laws_toSherdS x0 k = (c_laws_toSherdS x0 some).bind k := by
  unfold c_laws_toSherdS
  repeat' first
    | exact bnd_tail
    | exact bnd_none
    | exact bnd_leaf
    | apply bnd_ite
    | apply bnd_cond
    | apply bnd_sum
    | (apply bnd_bind; intro _)
    | intro _
def laws_toSherdS (x0 : List D) : Option (List D) := c_laws_toSherdS x0 some
def e_laws_toSherdS : Ent := ⟨17, [.rd (.struct [.int .i64, .int .i64, .int .i64, .int .i64])], .own (.struct [.int .i64, .int .i64, .int .i64, .int .i64]), [.undef], fun _ ds k => dL (fun x0 ds => dE ((laws_toSherdS x0).bind (fun y => k [.L y])) ds) ds⟩
theorem q_laws_toSherdS (x0 : List D) : runFn (ocOf []) (olOf [e_laws_toSherdS_L3]) A 17 Go.Proofs.Try.f17 (Sh.mks e_laws_toSherdS.sh [.L x0]).1 (fun v os => some (v, os)) = c_laws_toSherdS x0 (fun y => some ((e_laws_toSherdS.res.mk [.L y]).1, (Sh.mks e_laws_toSherdS.outs (e_laws_toSherdS.res.mk [.L y]).2).1)) := by kernel_rfl
theorem e_laws_toSherdS_ok : e_laws_toSherdS.ok Go.Proofs.Try.prog A := by
  intro R ds k r h
  unfold e_laws_toSherdS at h
  obtain ⟨x0, d0, rfl, h0⟩ := dL_some h
  obtain ⟨rfl, hE⟩ := dE_some h0
  obtain ⟨y, hy, hk⟩ := bnd_some hE
  refine ⟨_, hk, fn_ok px (fx := ⟨Go.Proofs.Try.func17, by kernel_rfl, by kernel_rfl⟩) entsOK_nil (lentsOK_cons e_laws_toSherdS_L3_ok lentsOK_nil) ?_⟩
  have hq := q_laws_toSherdS x0
  rw [c_laws_toSherdS_bind] at hq
  rw [show c_laws_toSherdS x0 some = some y from hy] at hq
  exact hq

/-! loop.example/g00876/laws.toJoin -/
def c_laws_toJoin {R : Type} (x0 : Int) (x1 : Int) (k : Int × Int → Option R) : Option R :=
 k (x0, x1)
theorem c_laws_toJoin_bind {R : Type} (x0 : Int) (x1 : Int) (k : Int × Int → Option R) : c_laws_toJoin x0 x1 k = (c_laws_toJoin x0 x1 some).bind k := by
  unfold c_laws_toJoin
  repeat' first
    | exact bnd_tail
    | exact bnd_none
    | exact bnd_leaf
    | apply bnd_ite
    | apply bnd_cond
    | apply bnd_sum
    | (apply bnd_bind; intro _)
    | intro _
def laws_toJoin (x0 : Int) (x1 : Int) : Option (Int × Int) := c_laws_toJoin x0 x1 some
def e_laws_toJoin : Ent := ⟨53, [.agg [.int .i64, .int .i64]], .agg [.int .i64, .int .i64], [.undef], fun _ ds k => dI (fun x0 ds => dI (fun x1 ds => dE ((laws_toJoin x0 x1).bind (fun y => k [.I y.1, .I y.2])) ds) ds) ds⟩
theorem q_laws_toJoin (x0 : Int) (x1 : Int) : runFn (ocOf []) (olOf []) A 53 Go.Proofs.Try.f53 (Sh.mks e_laws_toJoin.sh [.I x0, .I x1]).1 (fun v os => some (v, os)) = c_laws_toJoin x0 x1 (fun y => some ((e_laws_toJoin.res.mk [.I y.1, .I y.2]).1, (Sh.mks e_laws_toJoin.outs (e_laws_toJoin.res.mk [.I y.1, .I y.2]).2).1)) := by kernel_rfl
theorem e_laws_toJoin_ok : e_laws_toJoin.ok Go.Proofs.Try.prog A := by
  intro R ds k r h
  unfold e_laws_toJoin at h
  obtain ⟨x0, d0, rfl, h0⟩ := dI_some h
  obtain ⟨x1, d1, rfl, h1⟩ := dI_some h0
  obtain ⟨rfl, hE⟩ := dE_some h1
  obtain ⟨y, hy, hk⟩ := bnd_some hE
  refine ⟨_, hk, fn_ok px (fx := ⟨Go.Proofs.Try.func53, by kernel_rfl, by kernel_rfl⟩) entsOK_nil lentsOK_nil ?_⟩
  have hq := q_laws_toJoin x0 x1
  rw [c_laws_toJoin_bind] at hq
  rw [show c_laws_toJoin x0 x1 some = some y from hy] at hq
  exact hq

/-! loop.example/g00876/laws.toJoinS, loop 3 -/
def c_laws_toJoinS_L3 {R : Type} (F : List D → Int → List D → Option (List D)) (x0 : List D) (x1 : Int) (x2 : List D) (k : List D → Option R) : Option R :=
 bif Decidable.decide (x1 < (↑x0.length : Int)) then
 if (0 : Int) ≤ x1 ∧ x1 < (↑x0.length : Int) then
 (laws_toJoin (((x0.getD x1.toNat (Go.Rai.D.int (0 : Int))).fld (0 : Nat)).toInt) (((x0.getD x1.toNat (Go.Rai.D.int (0 : Int))).fld (1 : Nat)).toInt)).bind (fun y0 =>
 if (0 : Int) ≤ x1 ∧ x1 < (↑x2.length : Int) then
 if x1.toNat + (1 : Nat) ≤ x2.length then
 (F x0 (Go.IntKind.i64.wrap (x1 + (1 : Int))) (x2.set x1.toNat (Go.Rai.D.node [Go.Rai.D.int y0.fst, Go.Rai.D.int y0.snd]))).bind k
 else
 none
 else
 none)
 else
 none
 else
 k x2
theorem c_laws_toJoinS_L3_bind {R : Type} (F : List D → Int → List D → Option (List D)) (x0 : List D) (x1 : Int) (x2 : List D) (k : List D → Option R) : c_laws_toJoinS_L3 F x0 x1 x2 k = (c_laws_toJoinS_L3 F x0 x1 x2 some).bind k := by
  unfold c_laws_toJoinS_L3
  repeat' first
    | exact bnd_tail
    | exact bnd_none
    | exact bnd_leaf
    | apply bnd_ite
    | apply bnd_cond
    | apply bnd_sum
    | (apply bnd_bind; intro _)
    | intro _
def n_laws_toJoinS_L3 : Nat → List D → Int → List D → Option (List D)
 | 0, _, _, _ => none
 | n + 1, x0, x1, x2 => c_laws_toJoinS_L3 (n_laws_toJoinS_L3 n) x0 x1 x2 some
noncomputable def laws_toJoinS_L3 (x0 : List D) (x1 : Int) (x2 : List D) : Option (List D) := ev (fun n => n_laws_toJoinS_L3 n x0 x1 x2)
def m_laws_toJoinS_L3 (F : List D → Int → List D → Option (List D)) : Lent := ⟨3, ⟨[.rd (.struct [.int .i64, .int .i64]), .undef, .undef, .full 1000 [] (.struct [.int .i64, .int .i64]), .int .i64, .undef, .undef, .undef, .undef, .undef, .undef, .undef, .undef, .undef, .undef, .undef, .undef, .undef, .undef, .undef, .undef, .undef, .undef], [(1000, .own (.struct [.int .i64, .int .i64]))]⟩, [(.exit 0, ⟨[.undef, .undef, .undef, .full 1000 [] (.struct [.int .i64, .int .i64]), .undef, .undef, .undef, .undef, .undef, .undef, .undef, .undef, .undef, .undef, .undef, .undef, .undef, .undef, .undef, .undef, .undef, .undef, .undef], [(1000, .own (.struct [.int .i64, .int .i64]))]⟩)], fun _ ds k => dL (fun x0 ds => dI (fun x1 ds => dL (fun x2 ds => dE ((F x0 x1 x2).bind (fun y => k 0 [.L y])) ds) ds) ds) ds⟩
theorem q_laws_toJoinS_L3 (F : List D → Int → List D → Option (List D)) (x0 : List D) (x1 : Int) (x2 : List D) : runLoop (ocOf [e_laws_toJoin]) (olOf [m_laws_toJoinS_L3 F]) A 18 (codeAt (bodyOf Go.Proofs.Try.f18) 3) ((m_laws_toJoinS_L3 F).sh.mk' [.L x0, .I x1, .L x2]) (fun e σ' => some (e, σ')) = c_laws_toJoinS_L3 F x0 x1 x2 (fun y => some (.exit 0, SSt.mk' ⟨[.undef, .undef, .undef, .full 1000 [] (.struct [.int .i64, .int .i64]), .undef, .undef, .undef, .undef, .undef, .undef, .undef, .undef, .undef, .undef, .undef, .undef, .undef, .undef, .undef, .undef, .undef, .undef, .undef], [(1000, .own (.struct [.int .i64, .int .i64]))]⟩ [.L y])) := by kernel_rfl
theorem m_laws_toJoinS_L3_ok : ∀ n, (m_laws_toJoinS_L3 (n_laws_toJoinS_L3 n)).ok Go.Proofs.Try.prog (codeAt (bodyOf Go.Proofs.Try.f18) 3) := by
  intro n
  induction n with
  | zero =>
    intro R ds k r h
    unfold m_laws_toJoinS_L3 at h
    obtain ⟨x0, d0, rfl, h0⟩ := dL_some h
    obtain ⟨x1, d1, rfl, h1⟩ := dI_some h0
    obtain ⟨x2, d2, rfl, h2⟩ := dL_some h1
    obtain ⟨rfl, hE⟩ := dE_some h2
    obtain ⟨y, hy, hk⟩ := bnd_some hE
    cases hy
  | succ n ih =>
    intro R ds k r h
    unfold m_laws_toJoinS_L3 at h
    obtain ⟨x0, d0, rfl, h0⟩ := dL_some h
    obtain ⟨x1, d1, rfl, h1⟩ := dI_some h0
    obtain ⟨x2, d2, rfl, h2⟩ := dL_some h1
    obtain ⟨rfl, hE⟩ := dE_some h2
    obtain ⟨y, hy, hk⟩ := bnd_some hE
    have hq := q_laws_toJoinS_L3 (n_laws_toJoinS_L3 n) x0 x1 x2
    rw [c_laws_toJoinS_L3_bind] at hq
    rw [show c_laws_toJoinS_L3 (n_laws_toJoinS_L3 n) x0 x1 x2 some = some y from hy] at hq
    refine ⟨0, _, _, _, hk, rfl, loop_ok px (fx := ⟨Go.Proofs.Try.func18, by kernel_rfl, by kernel_rfl⟩) (entsOK_cons e_laws_toJoin_ok entsOK_nil) (lentsOK_cons ih lentsOK_nil) (by kernel_rfl) ?_⟩
    exact hq
noncomputable def e_laws_toJoinS_L3 : Lent := m_laws_toJoinS_L3 (laws_toJoinS_L3)
theorem e_laws_toJoinS_L3_ok : (e_laws_toJoinS_L3).ok Go.Proofs.Try.prog (codeAt (bodyOf Go.Proofs.Try.f18) 3) := by
  intro R ds k r h
  unfold e_laws_toJoinS_L3 m_laws_toJoinS_L3 at h
  obtain ⟨x0, d0, rfl, h0⟩ := dL_some h
  obtain ⟨x1, d1, rfl, h1⟩ := dI_some h0
  obtain ⟨x2, d2, rfl, h2⟩ := dL_some h1
  obtain ⟨rfl, hE⟩ := dE_some h2
  obtain ⟨y, hy, hk⟩ := bnd_some hE
  obtain ⟨n, hn⟩ := ev_some hy
  exact m_laws_toJoinS_L3_ok n R _ k r (show (n_laws_toJoinS_L3 n x0 x1 x2).bind _ = _ by rw [hn]; exact hk)

/-! loop.example/g00876/laws.toJoinS -/
def c_laws_toJoinS {R : Type} (x0 : List D) (k : List D → Option R) : Option R :=
 if (0 : Int) ≤ (↑x0.length : Int) ∧ (↑x0.length : Int) ≤ (↑x0.length : Int) ∧ (↑x0.length : Int) ≤ (4294967296 : Int) then
 (laws_toJoinS_L3 x0 (0 : Int) (List.replicate (↑x0.length : Int).toNat (Go.Rai.D.node [Go.Rai.D.int (0 : Int), Go.Rai.D.int (0 : Int)]))).bind (fun y0 =>
 k y0)
 else
 none
theorem c_laws_toJoinS_bind {R : Type} (x0 : List D) (k : List D → Option R) : c_laws_toJoinS x0 k = (c_laws_toJoinS x0 some).bind k := by
  unfold c_laws_toJoinS
  repeat' first
    | exact bnd_tail
    | exact bnd_none
    | exact bnd_leaf
    | apply bnd_ite
    | apply bnd_cond
    | apply bnd_sum
    | (apply bnd_bind; intro _)
    | intro _
def laws_toJoinS (x0 : List D) : Option (List D) := c_laws_toJoinS x0 some
def e_laws_toJoinS : Ent := ⟨18, [.rd (.struct [.int .i64, .int .i64])], .own (.struct [.int .i64, .int .i64]), [.undef], fun _ ds k => dL (fun x0 ds => dE ((laws_toJoinS x0).bind (fun y => k [.L y])) ds) ds⟩
theorem q_laws_toJoinS (x0 : List D) : runFn (ocOf []) (olOf [e_laws_toJoinS_L3]) A 18 Go.Proofs.Try.f18 (Sh.mks e_laws_toJoinS.sh [.L x0]).1 (fun v os => some (v, os)) = c_laws_toJoinS x0 (fun y => some ((e_laws_toJoinS.res.mk [.L y]).1, (Sh.mks e_laws_toJoinS.outs (e_laws_toJoinS.res.mk [.L y]).2).1)) := by kernel_rfl
theorem e_laws_toJoinS_ok : e_laws_toJoinS.ok Go.Proofs.Try.prog A := by
  intro R ds k r h
  unfold e_laws_toJoinS at h
  obtain ⟨x0, d0, rfl, h0⟩ := dL_some h
  obtain ⟨rfl, hE⟩ := dE_some h0
  obtain ⟨y, hy, hk⟩ := bnd_some hE
  refine ⟨_, hk, fn_ok px (fx := ⟨Go.Proofs.Try.func18, by kernel_rfl, by kernel_rfl⟩) entsOK_nil (lentsOK_cons e_laws_toJoinS_L3_ok lentsOK_nil) ?_⟩
  have hq := q_laws_toJoinS x0
  rw [c_laws_toJoinS_bind] at hq
  rw [show c_laws_toJoinS x0 some = some y from hy] at hq
  exact hq

/-! loop.example/g00876/spec.l1In -/
def c_spec_l1In {R : Type} (x0 : Int) (x1 : Int) (x2 : Int) (k : Bool → Option R) : Option R :=
 bif Decidable.decide (x1 ≤ x0) then
 k (Decidable.decide (x0 ≤ x2))
 else
 k Bool.false
theorem c_spec_l1In_bind {R : Type} (x0 : Int) (x1 : Int) (x2 : Int) (k : Bool → Option R) : c_spec_l1In x0 x1 x2 k = (c_spec_l1In x0 x1 x2 some).bind k := by
  unfold c_spec_l1In
  repeat' first
    | exact bnd_tail
    | exact bnd_none
    | exact bnd_leaf
    | apply bnd_ite
    | apply bnd_cond
    | apply bnd_sum
    | (apply bnd_bind; intro _)
    | intro _
def spec_l1In (x0 : Int) (x1 : Int) (x2 : Int) : Option (Bool) := c_spec_l1In x0 x1 x2 some
def e_spec_l1In : Ent := ⟨66, [.int .i64, .int .i64, .int .i64], .bool, [.undef, .undef, .undef], fun _ ds k => dI (fun x0 ds => dI (fun x1 ds => dI (fun x2 ds => dE ((spec_l1In x0 x1 x2).bind (fun y => k [.B y])) ds) ds) ds) ds⟩
theorem q_spec_l1In (x0 : Int) (x1 : Int) (x2 : Int) : runFn (ocOf []) (olOf []) A 66 Go.Proofs.Try.f66 (Sh.mks e_spec_l1In.sh [.I x0, .I x1, .I x2]).1 (fun v os => some (v, os)) = c_spec_l1In x0 x1 x2 (fun y => some ((e_spec_l1In.res.mk [.B y]).1, (Sh.mks e_spec_l1In.outs (e_spec_l1In.res.mk [.B y]).2).1)) := by kernel_rfl
theorem e_spec_l1In_ok : e_spec_l1In.ok Go.Proofs.Try.prog A := by
  intro R ds k r h
  unfold e_spec_l1In at h
  obtain ⟨x0, d0, rfl, h0⟩ := dI_some h
  obtain ⟨x1, d1, rfl, h1⟩ := dI_some h0
  obtain ⟨x2, d2, rfl, h2⟩ := dI_some h1
  obtain ⟨rfl, hE⟩ := dE_some h2
  obtain ⟨y, hy, hk⟩ := bnd_some hE
  refine ⟨_, hk, fn_ok px (fx := ⟨Go.Proofs.Try.func66, by kernel_rfl, by kernel_rfl⟩) entsOK_nil lentsOK_nil ?_⟩
  have hq := q_spec_l1In x0 x1 x2
  rw [c_spec_l1In_bind] at hq
  rw [show c_spec_l1In x0 x1 x2 some = some y from hy] at hq
  exact hq

/-! loop.example/g00876/spec.l15Good, loop 4 -/
def c_spec_l15Good_L4 {R : Type} (F : List D → List D → Int → Option ((List D × List D × Bool) ⊕ (List D × List D))) (x0 : List D) (x1 : List D) (x2 : Int) (k : (List D × List D × Bool) ⊕ (List D × List D) → Option R) : Option R :=
 bif Decidable.decide (x2 < (↑x0.length : Int)) then
 if (0 : Int) ≤ x2 ∧ x2 < (↑x0.length : Int) then
 (spec_l1In (((x0.getD x2.toNat (Go.Rai.D.int (0 : Int))).fld (0 : Nat)).toInt) (1 : Int) (999 : Int)).bind (fun y0 =>
 bif !y0 then
 k (.inl (x0, x1, Bool.false))
 else
 (spec_l1In (((x0.getD x2.toNat (Go.Rai.D.int (0 : Int))).fld (1 : Nat)).toInt) (0 : Int) (9 : Int)).bind (fun y1 =>
 bif !y1 then
 k (.inl (x0, x1, Bool.false))
 else
 (spec_l1In (((x0.getD x2.toNat (Go.Rai.D.int (0 : Int))).fld (2 : Nat)).toInt) (0 : Int) (3599 : Int)).bind (fun y2 =>
 bif !y2 then
 k (.inl (x0, x1, Bool.false))
 else
 (spec_l1In (((x0.getD x2.toNat (Go.Rai.D.int (0 : Int))).fld (3 : Nat)).toInt) (1 : Int) (3600 : Int)).bind (fun y3 =>
 bif !y3 then
 k (.inl (x0, x1, Bool.false))
 else
 (F x0 x1 (Go.IntKind.i64.wrap (x2 + (1 : Int)))).bind k))))
 else
 none
 else
 k (.inr (x0, x1))
theorem c_spec_l15Good_L4_bind {R : Type} (F : List D → List D → Int → Option ((List D × List D × Bool) ⊕ (List D × List D))) (x0 : List D) (x1 : List D) (x2 : Int) (k : (List D × List D × Bool) ⊕ (List D × List D) → Option R) : c_spec_l15Good_L4 F x0 x1 x2 k = (c_spec_l15Good_L4 F x0 x1 x2 some).bind k := by
  unfold c_spec_l15Good_L4
  repeat' first
    | exact bnd_tail
    | exact bnd_none
    | exact bnd_leaf
    | apply bnd_ite
    | apply bnd_cond
    | apply bnd_sum
    | (apply bnd_bind; intro _)
    | intro _
def n_spec_l15Good_L4 : Nat → List D → List D → Int → Option ((List D × List D × Bool) ⊕ (List D × List D))
 | 0, _, _, _ => none
 | n + 1, x0, x1, x2 => c_spec_l15Good_L4 (n_spec_l15Good_L4 n) x0 x1 x2 some
noncomputable def spec_l15Good_L4 (x0 : List D) (x1 : List D) (x2 : Int) : Option ((List D × List D × Bool) ⊕ (List D × List D)) := ev (fun n => n_spec_l15Good_L4 n x0 x1 x2)
def m_spec_l15Good_L4 (F : List D → List D → Int → Option ((List D × List D × Bool) ⊕ (List D × List D))) : Lent := ⟨4, ⟨[.rd (.struct [.int .i64, .int .i64, .int .i64, .int .i64]), .rd (.struct [.int .i64, .int .i64]), .undef, .undef, .undef, .int .i64, .undef, .undef, .undef, .undef, .undef, .undef, .undef, .undef, .undef, .undef, .undef, .undef, .undef, .undef, .undef, .undef, .undef, .undef, .undef, .undef, .undef, .undef, .undef, .undef, .undef, .undef, .undef, .undef, .undef, .undef, .undef, .undef, .undef, .undef, .undef, .undef, .undef, .undef, .undef, .undef, .undef, .undef, .undef, .undef, .undef, .undef, .undef, .undef, .undef, .undef, .undef, .undef, .undef, .undef, .undef, .undef, .undef, .undef, .undef, .undef, .undef, .undef, .undef, .undef, .undef, .undef, .undef, .undef, .undef, .undef, .undef, .undef, .undef, .undef, .undef, .undef, .undef, .undef, .undef, .undef, .undef, .undef, .undef, .undef, .undef, .undef, .undef, .undef, .undef, .undef, .undef, .undef, .undef, .undef, .undef, .undef, .undef, .undef, .undef, .undef, .undef, .undef, .undef, .undef], []⟩, [(.ret, ⟨[.rd (.struct [.int .i64, .int .i64, .int .i64, .int .i64]), .rd (.struct [.int .i64, .int .i64]), .undef, .undef, .bool, .undef, .undef, .undef, .undef, .undef, .undef, .undef, .undef, .undef, .undef, .undef, .undef, .undef, .undef, .undef, .undef, .undef, .undef, .undef, .undef, .undef, .undef, .undef, .undef, .undef, .undef, .undef, .undef, .undef, .undef, .undef, .undef, .undef, .undef, .undef, .undef, .undef, .undef, .undef, .undef, .undef, .undef, .undef, .undef, .undef, .undef, .undef, .undef, .undef, .undef, .undef, .undef, .undef, .undef, .undef, .undef, .undef, .undef, .undef, .undef, .undef, .undef, .undef, .undef, .undef, .undef, .undef, .undef, .undef, .undef, .undef, .undef, .undef, .undef, .undef, .undef, .undef, .undef, .undef, .undef, .undef, .undef, .undef, .undef, .undef, .undef, .undef, .undef, .undef, .undef, .undef, .undef, .undef, .undef, .undef, .undef, .undef, .undef, .undef, .undef, .undef, .undef, .undef, .undef, .undef], []⟩), (.exit 0, ⟨[.rd (.struct [.int .i64, .int .i64, .int .i64, .int .i64]), .rd (.struct [.int .i64, .int .i64]), .undef, .undef, .undef, .undef, .undef, .undef, .undef, .undef, .undef, .undef, .undef, .undef, .undef, .undef, .undef, .undef, .undef, .undef, .undef, .undef, .undef, .undef, .undef, .undef, .undef, .undef, .undef, .undef, .undef, .undef, .undef, .undef, .undef, .undef, .undef, .undef, .undef, .undef, .undef, .undef, .undef, .undef, .undef, .undef, .undef, .undef, .undef, .undef, .undef, .undef, .undef, .undef, .undef, .undef, .undef, .undef, .undef, .undef, .undef, .undef, .undef, .undef, .undef, .undef, .undef, .undef, .undef, .undef, .undef, .undef, .undef, .undef, .undef, .undef, .undef, .undef, .undef, .undef, .undef, .undef, .undef, .undef, .undef, .undef, .undef, .undef, .undef, .undef, .undef, .undef, .undef, .undef, .undef, .undef, .undef, .undef, .undef, .undef, .undef, .undef, .undef, .undef, .undef, .undef, .undef, .undef, .undef, .undef], []⟩)], fun _ ds k => dL (fun x0 ds => dL (fun x1 ds => dI (fun x2 ds => dE ((F x0 x1 x2).bind (Sum.elim (fun y => k 0 [.L y.1, .L y.2.1, .B y.2.2]) (fun y => k 1 [.L y.1, .L y.2]))) ds) ds) ds) ds⟩
theorem q_spec_l15Good_L4 (F : List D → List D → Int → Option ((List D × List D × Bool) ⊕ (List D × List D))) (x0 : List D) (x1 : List D) (x2 : Int) : runLoop (ocOf [e_spec_l1In]) (olOf [m_spec_l15Good_L4 F]) A 51 (codeAt (bodyOf Go.Proofs.Try.f51) 4) ((m_spec_l15Good_L4 F).sh.mk' [.L x0, .L x1, .I x2]) (fun e σ' => some (e, σ')) = c_spec_l15Good_L4 F x0 x1 x2 (Sum.elim (fun y => some (.ret, SSt.mk' ⟨[.rd (.struct [.int .i64, .int .i64, .int .i64, .int .i64]), .rd (.struct [.int .i64, .int .i64]), .undef, .undef, .bool, .undef, .undef, .undef, .undef, .undef, .undef, .undef, .undef, .undef, .undef, .undef, .undef, .undef, .undef, .undef, .undef, .undef, .undef, .undef, .undef, .undef, .undef, .undef, .undef, .undef, .undef, .undef, .undef, .undef, .undef, .undef, .undef, .undef, .undef, .undef, .undef, .undef, .undef, .undef, .undef, .undef, .undef, .undef, .undef, .undef, .undef, .undef, .undef, .undef, .undef, .undef, .undef, .undef, .undef, .undef, .undef, .undef, .undef, .undef, .undef, .undef, .undef, .undef, .undef, .undef, .undef, .undef, .undef, .undef, .undef, .undef, .undef, .undef, .undef, .undef, .undef, .undef, .undef, .undef, .undef, .undef, .undef, .undef, .undef, .undef, .undef, .undef, .undef, .undef, .undef, .undef, .undef, .undef, .undef, .undef, .undef, .undef, .undef, .undef, .undef, .undef, .undef, .undef, .undef, .undef], []⟩ [.L y.1, .L y.2.1, .B y.2.2])) (fun y => some (.exit 0, SSt.mk' ⟨[.rd (.struct [.int .i64, .int .i64, .int .i64, .int .i64]), .rd (.struct [.int .i64, .int .i64]), .undef, .undef, .undef, .undef, .undef, .undef, .undef, .undef, .undef, .undef, .undef, .undef, .undef, .undef, .undef, .undef, .undef, .undef, .undef, .undef, .undef, .undef, .undef, .undef, .undef, .undef, .undef, .undef, .undef, .undef, .undef, .undef, .undef, .undef, .undef, .undef, .undef, .undef, .undef, .undef, .undef, .undef, .undef, .undef, .undef, .undef, .undef, .undef, .undef, .undef, .undef, .undef, .undef, .undef, .undef, .undef, .undef, .undef, .undef, .undef, .undef, .undef, .undef, .undef, .undef, .undef, .undef, .undef, .undef, .undef, .undef, .undef, .undef, .undef, .undef, .undef, .undef, .undef, .undef, .undef, .undef, .undef, .undef, .undef, .undef, .undef, .undef, .undef, .undef, .undef, .undef, .undef, .undef, .undef, .undef, .undef, .undef, .undef, .undef, .undef, .undef, .undef, .undef, .undef, .undef, .undef, .undef, .undef], []⟩ [.L y.1, .L y.2]))) := by kernel_rfl
theorem m_spec_l15Good_L4_ok : ∀ n, (m_spec_l15Good_L4 (n_spec_l15Good_L4 n)).ok Go.Proofs.Try.prog (codeAt (bodyOf Go.Proofs.Try.f51) 4) := by
  intro n
  induction n with
  | zero =>
    intro R ds k r h
    unfold m_spec_l15Good_L4 at h
    obtain ⟨x0, d0, rfl, h0⟩ := dL_some h
    obtain ⟨x1, d1, rfl, h1⟩ := dL_some h0
    obtain ⟨x2, d2, rfl, h2⟩ := dI_some h1
    obtain ⟨rfl, hE⟩ := dE_some h2
    obtain ⟨y, hy, hk⟩ := bnd_some hE
    cases hy
  | succ n ih =>
    intro R ds k r h
    unfold m_spec_l15Good_L4 at h
    obtain ⟨x0, d0, rfl, h0⟩ := dL_some h
    obtain ⟨x1, d1, rfl, h1⟩ := dL_some h0
    obtain ⟨x2, d2, rfl, h2⟩ := dI_some h1
    obtain ⟨rfl, hE⟩ := dE_some h2
    obtain ⟨y, hy, hk⟩ := bnd_some hE
    have hq := q_spec_l15Good_L4 (n_spec_l15Good_L4 n) x0 x1 x2
    rw [c_spec_l15Good_L4_bind] at hq
    rw [show c_spec_l15Good_L4 (n_spec_l15Good_L4 n) x0 x1 x2 some = some y from hy] at hq
    cases y with
    | inl y =>
      refine ⟨0, _, _, _, hk, rfl, loop_ok px (fx := ⟨Go.Proofs.Try.func51, by kernel_rfl, by kernel_rfl⟩) (entsOK_cons e_spec_l1In_ok entsOK_nil) (lentsOK_cons ih lentsOK_nil) (by kernel_rfl) ?_⟩
      exact hq
    | inr y =>
      refine ⟨1, _, _, _, hk, rfl, loop_ok px (fx := ⟨Go.Proofs.Try.func51, by kernel_rfl, by kernel_rfl⟩) (entsOK_cons e_spec_l1In_ok entsOK_nil) (lentsOK_cons ih lentsOK_nil) (by kernel_rfl) ?_⟩
      exact hq
noncomputable def e_spec_l15Good_L4 : Lent := m_spec_l15Good_L4 (spec_l15Good_L4)
theorem e_spec_l15Good_L4_ok : (e_spec_l15Good_L4).ok Go.Proofs.Try.prog (codeAt (bodyOf Go.Proofs.Try.f51) 4) := by
  intro R ds k r h
  unfold e_spec_l15Good_L4 m_spec_l15Good_L4 at h
  obtain ⟨x0, d0, rfl, h0⟩ := dL_some h
  obtain ⟨x1, d1, rfl, h1⟩ := dL_some h0
  obtain ⟨x2, d2, rfl, h2⟩ := dI_some h1
  obtain ⟨rfl, hE⟩ := dE_some h2
  obtain ⟨y, hy, hk⟩ := bnd_some hE
  obtain ⟨n, hn⟩ := ev_some hy
  exact m_spec_l15Good_L4_ok n R _ k r (show (n_spec_l15Good_L4 n x0 x1 x2).bind _ = _ by rw [hn]; exact hk)

/-! loop.example/g00876/spec.l15Good, loop 10 -/
def c_spec_l15Good_L10 {R : Type} (F : List D → List D → Int → Option ((Bool) ⊕ (Unit))) (x0 : List D) (x1 : List D) (x2 : Int) (k : (Bool) ⊕ (Unit) → Option R) : Option R :=
 bif Decidable.decide (x2 < (↑x1.length : Int)) then
 if (0 : Int) ≤ x2 ∧ x2 < (↑x1.length : Int) then
 (spec_l1In (((x1.getD x2.toNat (Go.Rai.D.int (0 : Int))).fld (1 : Nat)).toInt) (1 : Int) (Go.IntKind.i64.wrap ((↑x0.length : Int) - (1 : Int)))).bind (fun y0 =>
 bif !y0 then
 k (.inl Bool.false)
 else
 (spec_l1In (((x1.getD x2.toNat (Go.Rai.D.int (0 : Int))).fld (0 : Nat)).toInt) (0 : Int) (Go.IntKind.i64.wrap (((x1.getD x2.toNat (Go.Rai.D.int (0 : Int))).fld (1 : Nat)).toInt - (1 : Int)))).bind (fun y1 =>
 bif !y1 then
 k (.inl Bool.false)
 else
 bif Decidable.decide ((0 : Int) < x2) then
 if (0 : Int) ≤ Go.IntKind.i64.wrap (x2 - (1 : Int)) ∧ Go.IntKind.i64.wrap (x2 - (1 : Int)) < (↑x1.length : Int) then
 bif Decidable.decide (((x1.getD x2.toNat (Go.Rai.D.int (0 : Int))).fld (0 : Nat)).toInt < ((x1.getD (Go.IntKind.i64.wrap (x2 - (1 : Int))).toNat (Go.Rai.D.int (0 : Int))).fld (0 : Nat)).toInt) then
 k (.inl Bool.false)
 else
 if (0 : Int) ≤ Go.IntKind.i64.wrap (x2 - (1 : Int)) ∧ Go.IntKind.i64.wrap (x2 - (1 : Int)) < (↑x1.length : Int) then
 bif Decidable.decide (((x1.getD (Go.IntKind.i64.wrap (x2 - (1 : Int))).toNat (Go.Rai.D.int (0 : Int))).fld (0 : Nat)).toInt = ((x1.getD x2.toNat (Go.Rai.D.int (0 : Int))).fld (0 : Nat)).toInt) then
 if (0 : Int) ≤ Go.IntKind.i64.wrap (x2 - (1 : Int)) ∧ Go.IntKind.i64.wrap (x2 - (1 : Int)) < (↑x1.length : Int) then
 bif Decidable.decide (((x1.getD x2.toNat (Go.Rai.D.int (0 : Int))).fld (1 : Nat)).toInt ≤ ((x1.getD (Go.IntKind.i64.wrap (x2 - (1 : Int))).toNat (Go.Rai.D.int (0 : Int))).fld (1 : Nat)).toInt) then
 k (.inl Bool.false)
 else
 (F x0 x1 (Go.IntKind.i64.wrap (x2 + (1 : Int)))).bind k
 else
 none
 else
 (F x0 x1 (Go.IntKind.i64.wrap (x2 + (1 : Int)))).bind k
 else
 none
 else
 none
 else
 (F x0 x1 (Go.IntKind.i64.wrap (x2 + (1 : Int)))).bind k))
 else
 none
 else
 k (.inr ())
theorem c_spec_l15Good_L10_bind {R : Type} (F : List D → List D → Int → Option ((Bool) ⊕ (Unit))) (x0 : List D) (x1 : List D) (x2 : Int) (k : (Bool) ⊕ (Unit) → Option R) : c_spec_l15Good_L10 F x0 x1 x2 k = (c_spec_l15Good_L10 F x0 x1 x2 some).bind k := by
  unfold c_spec_l15Good_L10
  repeat' first
    | exact bnd_tail
    | exact bnd_none
    | exact bnd_leaf
    | apply bnd_ite
    | apply bnd_cond
    | apply bnd_sum
    | (apply bnd_bind; intro _)
    | intro _
def n_spec_l15Good_L10 : Nat → List D → List D → Int → Option ((Bool) ⊕ (Unit))
 | 0, _, _, _ => none
 | n + 1, x0, x1, x2 => c_spec_l15Good_L10 (n_spec_l15Good_L10 n) x0 x1 x2 some
noncomputable def spec_l15Good_L10 (x0 : List D) (x1 : List D) (x2 : Int) : Option ((Bool) ⊕ (Unit)) := ev (fun n => n_spec_l15Good_L10 n x0 x1 x2)
def m_spec_l15Good_L10 (F : List D → List D → Int → Option ((Bool) ⊕ (Unit))) : Lent := ⟨10, ⟨[.rd (.struct [.int .i64, .int .i64, .int .i64, .int .i64]), .rd (.struct [.int .i64, .int .i64]), .undef, .undef, .undef, .undef, .undef, .int .i64, .undef, .undef, .undef, .undef, .undef, .undef, .undef, .undef, .undef, .undef, .undef, .undef, .undef, .undef, .undef, .undef, .undef, .undef, .undef, .undef, .undef, .undef, .undef, .undef, .undef, .undef, .undef, .undef, .undef, .undef, .undef, .undef, .undef, .undef, .undef, .undef, .undef, .undef, .undef, .undef, .undef, .undef, .undef, .undef, .undef, .undef, .undef, .undef, .undef, .undef, .undef, .undef, .undef, .undef, .undef, .undef, .undef, .undef, .undef, .undef, .undef, .undef, .undef, .undef, .undef, .undef, .undef, .undef, .undef, .undef, .undef, .undef, .undef, .undef, .undef, .undef, .undef, .undef, .undef, .undef, .undef, .undef, .undef, .undef, .undef, .undef, .undef, .undef, .undef, .undef, .undef, .undef, .undef, .undef, .undef, .undef, .undef, .undef, .undef, .undef, .undef, .undef], []⟩, [(.ret, ⟨[.undef, .undef, .undef, .undef, .bool, .undef, .undef, .undef, .undef, .undef, .undef, .undef, .undef, .undef, .undef, .undef, .undef, .undef, .undef, .undef, .undef, .undef, .undef, .undef, .undef, .undef, .undef, .undef, .undef, .undef, .undef, .undef, .undef, .undef, .undef, .undef, .undef, .undef, .undef, .undef, .undef, .undef, .undef, .undef, .undef, .undef, .undef, .undef, .undef, .undef, .undef, .undef, .undef, .undef, .undef, .undef, .undef, .undef, .undef, .undef, .undef, .undef, .undef, .undef, .undef, .undef, .undef, .undef, .undef, .undef, .undef, .undef, .undef, .undef, .undef, .undef, .undef, .undef, .undef, .undef, .undef, .undef, .undef, .undef, .undef, .undef, .undef, .undef, .undef, .undef, .undef, .undef, .undef, .undef, .undef, .undef, .undef, .undef, .undef, .undef, .undef, .undef, .undef, .undef, .undef, .undef, .undef, .undef, .undef, .undef], []⟩), (.exit 2, ⟨[.undef, .undef, .undef, .undef, .undef, .undef, .undef, .undef, .undef, .undef, .undef, .undef, .undef, .undef, .undef, .undef, .undef, .undef, .undef, .undef, .undef, .undef, .undef, .undef, .undef, .undef, .undef, .undef, .undef, .undef, .undef, .undef, .undef, .undef, .undef, .undef, .undef, .undef, .undef, .undef, .undef, .undef, .undef, .undef, .undef, .undef, .undef, .undef, .undef, .undef, .undef, .undef, .undef, .undef, .undef, .undef, .undef, .undef, .undef, .undef, .undef, .undef, .undef, .undef, .undef, .undef, .undef, .undef, .undef, .undef, .undef, .undef, .undef, .undef, .undef, .undef, .undef, .undef, .undef, .undef, .undef, .undef, .undef, .undef, .undef, .undef, .undef, .undef, .undef, .undef, .undef, .undef, .undef, .undef, .undef, .undef, .undef, .undef, .undef, .undef, .undef, .undef, .undef, .undef, .undef, .undef, .undef, .undef, .undef, .undef], []⟩)], fun _ ds k => dL (fun x0 ds => dL (fun x1 ds => dI (fun x2 ds => dE ((F x0 x1 x2).bind (Sum.elim (fun y => k 0 [.B y]) (fun y => k 1 []))) ds) ds) ds) ds⟩
theorem q_spec_l15Good_L10 (F : List D → List D → Int → Option ((Bool) ⊕ (Unit))) (x0 : List D) (x1 : List D) (x2 : Int) : runLoop (ocOf [e_spec_l1In]) (olOf [m_spec_l15Good_L10 F]) A 51 (codeAt (bodyOf Go.Proofs.Try.f51) 10) ((m_spec_l15Good_L10 F).sh.mk' [.L x0, .L x1, .I x2]) (fun e σ' => some (e, σ')) = c_spec_l15Good_L10 F x0 x1 x2 (Sum.elim (fun y => some (.ret, SSt.mk' ⟨[.undef, .undef, .undef, .undef, .bool, .undef, .undef, .undef, .undef, .undef, .undef, .undef, .undef, .undef, .undef, .undef, .undef, .undef, .undef, .undef, .undef, .undef, .undef, .undef, .undef, .undef, .undef, .undef, .undef, .undef, .undef, .undef, .undef, .undef, .undef, .undef, .undef, .undef, .undef, .undef, .undef, .undef, .undef, .undef, .undef, .undef, .undef, .undef, .undef, .undef, .undef, .undef, .undef, .undef, .undef, .undef, .undef, .undef, .undef, .undef, .undef, .undef, .undef, .undef, .undef, .undef, .undef, .undef, .undef, .undef, .undef, .undef, .undef, .undef, .undef, .undef, .undef, .undef, .undef, .undef, .undef, .undef, .undef, .undef, .undef, .undef, .undef, .undef, .undef, .undef, .undef, .undef, .undef, .undef, .undef, .undef, .undef, .undef, .undef, .undef, .undef, .undef, .undef, .undef, .undef, .undef, .undef, .undef, .undef, .undef], []⟩ [.B y])) (fun y => some (.exit 2, SSt.mk' ⟨[.undef, .undef, .undef, .undef, .undef, .undef, .undef, .undef, .undef, .undef, .undef, .undef, .undef, .undef, .undef, .undef, .undef, .undef, .undef, .undef, .undef, .undef, .undef, .undef, .undef, .undef, .undef, .undef, .undef, .undef, .undef, .undef, .undef, .undef, .undef, .undef, .undef, .undef, .undef, .undef, .undef, .undef, .undef, .undef, .undef, .undef, .undef, .undef, .undef, .undef, .undef, .undef, .undef, .undef, .undef, .undef, .undef, .undef, .undef, .undef, .undef, .undef, .undef, .undef, .undef, .undef, .undef, .undef, .undef, .undef, .undef, .undef, .undef, .undef, .undef, .undef, .undef, .undef, .undef, .undef, .undef, .undef, .undef, .undef, .undef, .undef, .undef, .undef, .undef, .undef, .undef, .undef, .undef, .undef, .undef, .undef, .undef, .undef, .undef, .undef, .undef, .undef, .undef, .undef, .undef, .undef, .undef, .undef, .undef, .undef], []⟩ []))) := by kernel_rfl
theorem m_spec_l15Good_L10_ok : ∀ n, (m_spec_l15Good_L10 (n_spec_l15Good_L10 n)).ok Go.Proofs.Try.prog (codeAt (bodyOf Go.Proofs.Try.f51) 10) := by
  intro n
  induction n with
  | zero =>
    intro R ds k r h
    unfold m_spec_l15Good_L10 at h
    obtain ⟨x0, d0, rfl, h0⟩ := dL_some h
    obtain ⟨x1, d1, rfl, h1⟩ := dL_some h0
    obtain ⟨x2, d2, rfl, h2⟩ := dI_some h1
    obtain ⟨rfl, hE⟩ := dE_some h2
    obtain ⟨y, hy, hk⟩ := bnd_some hE
    cases hy
  | succ n ih =>
    intro R ds k r h
    unfold m_spec_l15Good_L10 at h
    obtain ⟨x0, d0, rfl, h0⟩ := dL_some h
    obtain ⟨x1, d1, rfl, h1⟩ := dL_some h0
    obtain ⟨x2, d2, rfl, h2⟩ := dI_some h1
    obtain ⟨rfl, hE⟩ := dE_some h2
    obtain ⟨y, hy, hk⟩ := bnd_some hE
    have hq := q_spec_l15Good_L10 (n_spec_l15Good_L10 n) x0 x1 x2
    rw [c_spec_l15Good_L10_bind] at hq
    rw [show c_spec_l15Good_L10 (n_spec_l15Good_L10 n) x0 x1 x2 some = some y from hy] at hq
    cases y with
    | inl y =>
      refine ⟨0, _, _, _, hk, rfl, loop_ok px (fx := ⟨Go.Proofs.Try.func51, by kernel_rfl, by kernel_rfl⟩) (entsOK_cons e_spec_l1In_ok entsOK_nil) (lentsOK_cons ih lentsOK_nil) (by kernel_rfl) ?_⟩
      exact hq
    | inr y =>
      refine ⟨1, _, _, _, hk, rfl, loop_ok px (fx := ⟨Go.Proofs.Try.func51, by kernel_rfl, by kernel_rfl⟩) (entsOK_cons e_spec_l1In_ok entsOK_nil) (lentsOK_cons ih lentsOK_nil) (by kernel_rfl) ?_⟩
      exact hq
noncomputable def e_spec_l15Good_L10 : Lent := m_spec_l15Good_L10 (spec_l15Good_L10)
theorem e_spec_l15Good_L10_ok : (e_spec_l15Good_L10).ok Go.Proofs.Try.prog (codeAt (bodyOf Go.Proofs.Try.f51) 10) := by
  intro R ds k r h
  unfold e_spec_l15Good_L10 m_spec_l15Good_L10 at h
  obtain ⟨x0, d0, rfl, h0⟩ := dL_some h
  obtain ⟨x1, d1, rfl, h1⟩ := dL_some h0
  obtain ⟨x2, d2, rfl, h2⟩ := dI_some h1
  obtain ⟨rfl, hE⟩ := dE_some h2
  obtain ⟨y, hy, hk⟩ := bnd_some hE
  obtain ⟨n, hn⟩ := ev_some hy
  exact m_spec_l15Good_L10_ok n R _ k r (show (n_spec_l15Good_L10 n x0 x1 x2).bind _ = _ by rw [hn]; exact hk)

/-! loop.example/g00876/spec.l15Good -/
def c_spec_l15Good {R : Type} (x0 : List D) (x1 : List D) (k : Bool → Option R) : Option R :=
 bif Decidable.decide ((12 : Int) < (↑x0.length : Int)) then
 k Bool.false
 else
 bif Decidable.decide ((20 : Int) < (↑x1.length : Int)) then
 k Bool.false
 else
 (spec_l15Good_L4 x0 x1 (0 : Int)).bind (Sum.elim (fun y0 =>
 k y0.snd.snd) (fun y1 =>
 (spec_l15Good_L10 y1.fst y1.snd (0 : Int)).bind (Sum.elim (fun y2 =>
 k y2) (fun y3 =>
 k Bool.true))))
theorem c_spec_l15Good_bind {R : Type} (x0 : List D) (x1 : List D) (k : Bool → Option R) : c_spec_l15Good x0 x1 k = (c_spec_l15Good x0 x1 some).bind k := by
  unfold c_spec_l15Good
  repeat' first
    | exact bnd_tail
    | exact bnd_none
    | exact bnd_leaf
    | apply bnd_ite
    | apply bnd_cond
    | apply bnd_sum
    | (apply bnd_bind; intro _)
    | intro _
def spec_l15Good (x0 : List D) (x1 : List D) : Option (Bool) := c_spec_l15Good x0 x1 some
def e_spec_l15Good : Ent := ⟨51, [.rd (.struct [.int .i64, .int .i64, .int .i64, .int .i64]), .rd (.struct [.int .i64, .int .i64])], .bool, [.undef, .undef], fun _ ds k => dL (fun x0 ds => dL (fun x1 ds => dE ((spec_l15Good x0 x1).bind (fun y => k [.B y])) ds) ds) ds⟩
theorem q_spec_l15Good (x0 : List D) (x1 : List D) : runFn (ocOf []) (olOf [e_spec_l15Good_L4, e_spec_l15Good_L10]) A 51 Go.Proofs.Try.f51 (Sh.mks e_spec_l15Good.sh [.L x0, .L x1]).1 (fun v os => some (v, os)) = c_spec_l15Good x0 x1 (fun y => some ((e_spec_l15Good.res.mk [.B y]).1, (Sh.mks e_spec_l15Good.outs (e_spec_l15Good.res.mk [.B y]).2).1)) := by kernel_rfl
theorem e_spec_l15Good_ok : e_spec_l15Good.ok Go.Proofs.Try.prog A := by
  intro R ds k r h
  unfold e_spec_l15Good at h
  obtain ⟨x0, d0, rfl, h0⟩ := dL_some h
  obtain ⟨x1, d1, rfl, h1⟩ := dL_some h0
  obtain ⟨rfl, hE⟩ := dE_some h1
  obtain ⟨y, hy, hk⟩ := bnd_some hE
  refine ⟨_, hk, fn_ok px (fx := ⟨Go.Proofs.Try.func51, by kernel_rfl, by kernel_rfl⟩) entsOK_nil (lentsOK_cons e_spec_l15Good_L4_ok (lentsOK_cons e_spec_l15Good_L10_ok lentsOK_nil)) ?_⟩
  have hq := q_spec_l15Good x0 x1
  rw [c_spec_l15Good_bind] at hq
  rw [show c_spec_l15Good x0 x1 some = some y from hy] at hq
  exact hq

/-! loop.example/g00876/spec.l15Labels, loop 3 -/
def c_spec_l15Labels_L3 {R : Type} (F : Int → List D → Int → List D → Option (List D × List D)) (x0 : Int) (x1 : List D) (x2 : Int) (x3 : List D) (k : List D × List D → Option R) : Option R :=
 bif Decidable.decide (x2 < x0) then
 if x3.length + [Go.Rai.D.int x2].length ≤ (4294967296 : Nat) then
 (F x0 x1 (Go.IntKind.i64.wrap (x2 + (1 : Int))) (x3 ++ [Go.Rai.D.int x2])).bind k
 else
 none
 else
 k (x1, x3)
theorem c_spec_l15Labels_L3_bind {R : Type} (F : Int → List D → Int → List D → Option (List D × List D)) (x0 : Int) (x1 : List D) (x2 : Int) (x3 : List D) (k : List D × List D → Option R) : c_spec_l15Labels_L3 F x0 x1 x2 x3 k = (c_spec_l15Labels_L3 F x0 x1 x2 x3 some).bind k := by
  unfold c_spec_l15Labels_L3
  repeat' first
    | exact bnd_tail
    | exact bnd_none
    | exact bnd_leaf
    | apply bnd_ite
    | apply bnd_cond
    | apply bnd_sum
    | (apply bnd_bind; intro _)
    | intro _
def n_spec_l15Labels_L3 : Nat → Int → List D → Int → List D → Option (List D × List D)
 | 0, _, _, _, _ => none
 | n + 1, x0, x1, x2, x3 => c_spec_l15Labels_L3 (n_spec_l15Labels_L3 n) x0 x1 x2 x3 some
noncomputable def spec_l15Labels_L3 (x0 : Int) (x1 : List D) (x2 : Int) (x3 : List D) : Option (List D × List D) := ev (fun n => n_spec_l15Labels_L3 n x0 x1 x2 x3)
def m_spec_l15Labels_L3 (F : Int → List D → Int → List D → Option (List D × List D)) : Lent := ⟨3, ⟨[.int .i64, .rd (.struct [.int .i64, .int .i64]), .undef, .undef, .undef, .full 1000 [] (.int .i64), .int .i64, .undef, .undef, .undef, .undef, .undef, .undef, .undef, .undef, .undef, .undef, .undef, .undef, .undef, .undef, .undef, .undef, .undef, .undef, .undef, .undef, .undef, .undef, .undef, .undef, .undef, .undef, .undef, .undef, .undef, .undef, .undef, .undef, .undef, .undef, .undef, .undef, .undef, .undef, .undef, .undef, .undef, .undef, .undef, .undef, .undef, .undef, .undef, .undef, .undef, .undef, .undef, .undef, .undef, .undef, .undef, .undef, .undef, .undef, .undef], [(1000, .own (.int .i64))]⟩, [(.exit 0, ⟨[.undef, .rd (.struct [.int .i64, .int .i64]), .undef, .undef, .undef, .full 1000 [] (.int .i64), .undef, .undef, .undef, .undef, .undef, .undef, .undef, .undef, .undef, .undef, .undef, .undef, .undef, .undef, .undef, .undef, .undef, .undef, .undef, .undef, .undef, .undef, .undef, .undef, .undef, .undef, .undef, .undef, .undef, .undef, .undef, .undef, .undef, .undef, .undef, .undef, .undef, .undef, .undef, .undef, .undef, .undef, .undef, .undef, .undef, .undef, .undef, .undef, .undef, .undef, .undef, .undef, .undef, .undef, .undef, .undef, .undef, .undef, .undef, .undef], [(1000, .own (.int .i64))]⟩)], fun _ ds k => dI (fun x0 ds => dL (fun x1 ds => dI (fun x2 ds => dL (fun x3 ds => dE ((F x0 x1 x2 x3).bind (fun y => k 0 [.L y.1, .L y.2])) ds) ds) ds) ds) ds⟩
theorem q_spec_l15Labels_L3 (F : Int → List D → Int → List D → Option (List D × List D)) (x0 : Int) (x1 : List D) (x2 : Int) (x3 : List D) : runLoop (ocOf []) (olOf [m_spec_l15Labels_L3 F]) A 70 (codeAt (bodyOf Go.Proofs.Try.f70) 3) ((m_spec_l15Labels_L3 F).sh.mk' [.I x0, .L x1, .I x2, .L x3]) (fun e σ' => some (e, σ')) = c_spec_l15Labels_L3 F x0 x1 x2 x3 (fun y => some (.exit 0, SSt.mk' ⟨[.undef, .rd (.struct [.int .i64, .int .i64]), .undef, .undef, .undef, .full 1000 [] (.int .i64), .undef, .undef, .undef, .undef, .undef, .undef, .undef, .undef, .undef, .undef, .undef, .undef, .undef, .undef, .undef, .undef, .undef, .undef, .undef, .undef, .undef, .undef, .undef, .undef, .undef, .undef, .undef, .undef, .undef, .undef, .undef, .undef, .undef, .undef, .undef, .undef, .undef, .undef, .undef, .undef, .undef, .undef, .undef, .undef, .undef, .undef, .undef, .undef, .undef, .undef, .undef, .undef, .undef, .undef, .undef, .undef, .undef, .undef, .undef, .undef], [(1000, .own (.int .i64))]⟩ [.L y.1, .L y.2])) := by kernel_rfl
theorem m_spec_l15Labels_L3_ok : ∀ n, (m_spec_l15Labels_L3 (n_spec_l15Labels_L3 n)).ok Go.Proofs.Try.prog (codeAt (bodyOf Go.Proofs.Try.f70) 3) := by
  intro n
  induction n with
  | zero =>
    intro R ds k r h
    unfold m_spec_l15Labels_L3 at h
    obtain ⟨x0, d0, rfl, h0⟩ := dI_some h
    obtain ⟨x1, d1, rfl, h1⟩ := dL_some h0
    obtain ⟨x2, d2, rfl, h2⟩ := dI_some h1
    obtain ⟨x3, d3, rfl, h3⟩ := dL_some h2
    obtain ⟨rfl, hE⟩ := dE_some h3
    obtain ⟨y, hy, hk⟩ := bnd_some hE
    cases hy
  | succ n ih =>
    intro R ds k r h
    unfold m_spec_l15Labels_L3 at h
    obtain ⟨x0, d0, rfl, h0⟩ := dI_some h
    obtain ⟨x1, d1, rfl, h1⟩ := dL_some h0
    obtain ⟨x2, d2, rfl, h2⟩ := dI_some h1
    obtain ⟨x3, d3, rfl, h3⟩ := dL_some h2
    obtain ⟨rfl, hE⟩ := dE_some h3
    obtain ⟨y, hy, hk⟩ := bnd_some hE
    have hq := q_spec_l15Labels_L3 (n_spec_l15Labels_L3 n) x0 x1 x2 x3
    rw [c_spec_l15Labels_L3_bind] at hq
    rw [show c_spec_l15Labels_L3 (n_spec_l15Labels_L3 n) x0 x1 x2 x3 some = some y from hy] at hq
    refine ⟨0, _, _, _, hk, rfl, loop_ok px (fx := ⟨Go.Proofs.Try.func70, by kernel_rfl, by kernel_rfl⟩) entsOK_nil (lentsOK_cons ih lentsOK_nil) (by kernel_rfl) ?_⟩
    exact hq
noncomputable def e_spec_l15Labels_L3 : Lent := m_spec_l15Labels_L3 (spec_l15Labels_L3)
theorem e_spec_l15Labels_L3_ok : (e_spec_l15Labels_L3).ok Go.Proofs.Try.prog (codeAt (bodyOf Go.Proofs.Try.f70) 3) := by
  intro R ds k r h
  unfold e_spec_l15Labels_L3 m_spec_l15Labels_L3 at h
  obtain ⟨x0, d0, rfl, h0⟩ := dI_some h
  obtain ⟨x1, d1, rfl, h1⟩ := dL_some h0
  obtain ⟨x2, d2, rfl, h2⟩ := dI_some h1
  obtain ⟨x3, d3, rfl, h3⟩ := dL_some h2
  obtain ⟨rfl, hE⟩ := dE_some h3
  obtain ⟨y, hy, hk⟩ := bnd_some hE
  obtain ⟨n, hn⟩ := ev_some hy
  exact m_spec_l15Labels_L3_ok n R _ k r (show (n_spec_l15Labels_L3 n x0 x1 x2 x3).bind _ = _ by rw [hn]; exact hk)

/-! loop.example/g00876/spec.l1Least -/
def c_spec_l1Least {R : Type} (x0 : Int) (x1 : Int) (k : Int → Option R) : Option R :=
 bif Decidable.decide (x0 < x1) then
 k x0
 else
 k x1
theorem c_spec_l1Least_bind {R : Type} (x0 : Int) (x1 : Int) (k : Int → Option R) : c_spec_l1Least x0 x1 k = (c_spec_l1Least x0 x1 some).bind k := by
  unfold c_spec_l1Least
  repeat' first
    | exact bnd_tail
    | exact bnd_none
    | exact bnd_leaf
    | apply bnd_ite
    | apply bnd_cond
    | apply bnd_sum
    | (apply bnd_bind; intro _)
    | intro _
def spec_l1Least (x0 : Int) (x1 : Int) : Option (Int) := c_spec_l1Least x0 x1 some
def e_spec_l1Least : Ent := ⟨76, [.int .i64, .int .i64], .int .i64, [.undef, .undef], fun _ ds k => dI (fun x0 ds => dI (fun x1 ds => dE ((spec_l1Least x0 x1).bind (fun y => k [.I y])) ds) ds) ds⟩
theorem q_spec_l1Least (x0 : Int) (x1 : Int) : runFn (ocOf []) (olOf []) A 76 Go.Proofs.Try.f76 (Sh.mks e_spec_l1Least.sh [.I x0, .I x1]).1 (fun v os => some (v, os)) = c_spec_l1Least x0 x1 (fun y => some ((e_spec_l1Least.res.mk [.I y]).1, (Sh.mks e_spec_l1Least.outs (e_spec_l1Least.res.mk [.I y]).2).1)) := by kernel_rfl
theorem e_spec_l1Least_ok : e_spec_l1Least.ok Go.Proofs.Try.prog A := by
  intro R ds k r h
  unfold e_spec_l1Least at h
  obtain ⟨x0, d0, rfl, h0⟩ := dI_some h
  obtain ⟨x1, d1, rfl, h1⟩ := dI_some h0
  obtain ⟨rfl, hE⟩ := dE_some h1
  obtain ⟨y, hy, hk⟩ := bnd_some hE
  refine ⟨_, hk, fn_ok px (fx := ⟨Go.Proofs.Try.func76, by kernel_rfl, by kernel_rfl⟩) entsOK_nil lentsOK_nil ?_⟩
  have hq := q_spec_l1Least x0 x1
  rw [c_spec_l1Least_bind] at hq
  rw [show c_spec_l1Least x0 x1 some = some y from hy] at hq
  exact hq

/-! loop.example/g00876/spec.l15Labels, loop 10 -/
def c_spec_l15Labels_L10 {R : Type} (F : List D → Bool → Int → List D → Option (List D × Bool × List D)) (x0 : List D) (x1 : Bool) (x2 : Int) (x3 : List D) (k : List D × Bool × List D → Option R) : Option R :=
 bif Decidable.decide (x2 < (↑x0.length : Int)) then
 if (0 : Int) ≤ x2 ∧ x2 < (↑x0.length : Int) then
 if (0 : Int) ≤ x2 ∧ x2 < (↑x0.length : Int) then
 if (0 : Int) ≤ ((x0.getD x2.toNat (Go.Rai.D.int (0 : Int))).fld (0 : Nat)).toInt ∧ ((x0.getD x2.toNat (Go.Rai.D.int (0 : Int))).fld (0 : Nat)).toInt < (↑x3.length : Int) then
 if ((x0.getD x2.toNat (Go.Rai.D.int (0 : Int))).fld (0 : Nat)).toInt.toNat + (1 : Nat) ≤ x3.length then
 if (0 : Int) ≤ ((x0.getD x2.toNat (Go.Rai.D.int (0 : Int))).fld (1 : Nat)).toInt ∧ ((x0.getD x2.toNat (Go.Rai.D.int (0 : Int))).fld (1 : Nat)).toInt < (↑x3.length : Int) then
 if ((x0.getD x2.toNat (Go.Rai.D.int (0 : Int))).fld (1 : Nat)).toInt.toNat + (1 : Nat) ≤ x3.length then
 bif !Decidable.decide ((x3.getD ((x0.getD x2.toNat (Go.Rai.D.int (0 : Int))).fld (0 : Nat)).toInt.toNat (Go.Rai.D.int (0 : Int))).toInt = (x3.getD ((x0.getD x2.toNat (Go.Rai.D.int (0 : Int))).fld (1 : Nat)).toInt.toNat (Go.Rai.D.int (0 : Int))).toInt) then
 if (0 : Int) ≤ ((x0.getD x2.toNat (Go.Rai.D.int (0 : Int))).fld (0 : Nat)).toInt ∧ ((x0.getD x2.toNat (Go.Rai.D.int (0 : Int))).fld (0 : Nat)).toInt < (↑x3.length : Int) then
 if ((x0.getD x2.toNat (Go.Rai.D.int (0 : Int))).fld (0 : Nat)).toInt.toNat + (1 : Nat) ≤ x3.length then
 if (0 : Int) ≤ ((x0.getD x2.toNat (Go.Rai.D.int (0 : Int))).fld (1 : Nat)).toInt ∧ ((x0.getD x2.toNat (Go.Rai.D.int (0 : Int))).fld (1 : Nat)).toInt < (↑x3.length : Int) then
 if ((x0.getD x2.toNat (Go.Rai.D.int (0 : Int))).fld (1 : Nat)).toInt.toNat + (1 : Nat) ≤ x3.length then
 (spec_l1Least ((x3.getD ((x0.getD x2.toNat (Go.Rai.D.int (0 : Int))).fld (0 : Nat)).toInt.toNat (Go.Rai.D.int (0 : Int))).toInt) ((x3.getD ((x0.getD x2.toNat (Go.Rai.D.int (0 : Int))).fld (1 : Nat)).toInt.toNat (Go.Rai.D.int (0 : Int))).toInt)).bind (fun y0 =>
 if (0 : Int) ≤ ((x0.getD x2.toNat (Go.Rai.D.int (0 : Int))).fld (0 : Nat)).toInt ∧ ((x0.getD x2.toNat (Go.Rai.D.int (0 : Int))).fld (0 : Nat)).toInt < (↑x3.length : Int) then
 if ((x0.getD x2.toNat (Go.Rai.D.int (0 : Int))).fld (0 : Nat)).toInt.toNat + (1 : Nat) ≤ x3.length then
 if (0 : Int) ≤ ((x0.getD x2.toNat (Go.Rai.D.int (0 : Int))).fld (1 : Nat)).toInt ∧ ((x0.getD x2.toNat (Go.Rai.D.int (0 : Int))).fld (1 : Nat)).toInt < (↑(x3.set ((x0.getD x2.toNat (Go.Rai.D.int (0 : Int))).fld (0 : Nat)).toInt.toNat (Go.Rai.D.int y0)).length : Int) then
 if ((x0.getD x2.toNat (Go.Rai.D.int (0 : Int))).fld (1 : Nat)).toInt.toNat + (1 : Nat) ≤ (x3.set ((x0.getD x2.toNat (Go.Rai.D.int (0 : Int))).fld (0 : Nat)).toInt.toNat (Go.Rai.D.int y0)).length then
 (F x0 Bool.true (Go.IntKind.i64.wrap (x2 + (1 : Int))) ((x3.set ((x0.getD x2.toNat (Go.Rai.D.int (0 : Int))).fld (0 : Nat)).toInt.toNat (Go.Rai.D.int y0)).set ((x0.getD x2.toNat (Go.Rai.D.int (0 : Int))).fld (1 : Nat)).toInt.toNat (Go.Rai.D.int y0))).bind k
 else
 none
 else
 none
 else
 none
 else
 none)
 else
 none
 else
 none
 else
 none
 else
 none
 else
 (F x0 x1 (Go.IntKind.i64.wrap (x2 + (1 : Int))) x3).bind k
 else
 none
 else
 none
 else
 none
 else
 none
 else
 none
 else
 none
 else
 k (x0, x1, x3)
theorem c_spec_l15Labels_L10_bind {R : Type} (F : List D → Bool → Int → List D → Option (List D × Bool × List D)) (x0 : List D) (x1 : Bool) (x2 : Int) (x3 : List D) (k : List D × Bool × List D → Option R) : c_spec_l15Labels_L10 F x0 x1 x2 x3 k = (c_spec_l15Labels_L10 F x0 x1 x2 x3 some).bind k := by
  unfold c_spec_l15Labels_L10
  repeat' first
    | exact bnd_tail
    | exact bnd_none
    | exact bnd_leaf
    | apply bnd_ite
    | apply bnd_cond
    | apply bnd_sum
    | (apply bnd_bind; intro _)
    | intro _
def n_spec_l15Labels_L10 : Nat → List D → Bool → Int → List D → Option (List D × Bool × List D)
 | 0, _, _, _, _ => none
 | n + 1, x0, x1, x2, x3 => c_spec_l15Labels_L10 (n_spec_l15Labels_L10 n) x0 x1 x2 x3 some
noncomputable def spec_l15Labels_L10 (x0 : List D) (x1 : Bool) (x2 : Int) (x3 : List D) : Option (List D × Bool × List D) := ev (fun n => n_spec_l15Labels_L10 n x0 x1 x2 x3)
def m_spec_l15Labels_L10 (F : List D → Bool → Int → List D → Option (List D × Bool × List D)) : Lent := ⟨10, ⟨[.undef, .rd (.struct [.int .i64, .int .i64]), .undef, .undef, .undef, .full 1000 [] (.int .i64), .undef, .bool, .int .i64, .undef, .undef, .undef, .undef, .undef, .undef, .undef, .undef, .undef, .undef, .undef, .undef, .undef, .undef, .undef, .undef, .undef, .undef, .undef, .undef, .undef, .undef, .undef, .undef, .undef, .undef, .undef, .undef, .undef, .undef, .undef, .undef, .undef, .undef, .undef, .undef, .undef, .undef, .undef, .undef, .undef, .undef, .undef, .undef, .undef, .undef, .undef, .undef, .undef, .undef, .undef, .undef, .undef, .undef, .undef, .undef, .undef], [(1000, .own (.int .i64))]⟩, [(.exit 4, ⟨[.undef, .rd (.struct [.int .i64, .int .i64]), .undef, .undef, .undef, .full 1000 [] (.int .i64), .undef, .bool, .undef, .undef, .undef, .undef, .undef, .undef, .undef, .undef, .undef, .undef, .undef, .undef, .undef, .undef, .undef, .undef, .undef, .undef, .undef, .undef, .undef, .undef, .undef, .undef, .undef, .undef, .undef, .undef, .undef, .undef, .undef, .undef, .undef, .undef, .undef, .undef, .undef, .undef, .undef, .undef, .undef, .undef, .undef, .undef, .undef, .undef, .undef, .undef, .undef, .undef, .undef, .undef, .undef, .undef, .undef, .undef, .undef, .undef], [(1000, .own (.int .i64))]⟩)], fun _ ds k => dL (fun x0 ds => dB (fun x1 ds => dI (fun x2 ds => dL (fun x3 ds => dE ((F x0 x1 x2 x3).bind (fun y => k 0 [.L y.1, .B y.2.1, .L y.2.2])) ds) ds) ds) ds) ds⟩
theorem q_spec_l15Labels_L10 (F : List D → Bool → Int → List D → Option (List D × Bool × List D)) (x0 : List D) (x1 : Bool) (x2 : Int) (x3 : List D) : runLoop (ocOf [e_spec_l1Least]) (olOf [m_spec_l15Labels_L10 F]) A 70 (codeAt (bodyOf Go.Proofs.Try.f70) 10) ((m_spec_l15Labels_L10 F).sh.mk' [.L x0, .B x1, .I x2, .L x3]) (fun e σ' => some (e, σ')) = c_spec_l15Labels_L10 F x0 x1 x2 x3 (fun y => some (.exit 4, SSt.mk' ⟨[.undef, .rd (.struct [.int .i64, .int .i64]), .undef, .undef, .undef, .full 1000 [] (.int .i64), .undef, .bool, .undef, .undef, .undef, .undef, .undef, .undef, .undef, .undef, .undef, .undef, .undef, .undef, .undef, .undef, .undef, .undef, .undef, .undef, .undef, .undef, .undef, .undef, .undef, .undef, .undef, .undef, .undef, .undef, .undef, .undef, .undef, .undef, .undef, .undef, .undef, .undef, .undef, .undef, .undef, .undef, .undef, .undef, .undef, .undef, .undef, .undef, .undef, .undef, .undef, .undef, .undef, .undef, .undef, .undef, .undef, .undef, .undef, .undef], [(1000, .own (.int .i64))]⟩ [.L y.1, .B y.2.1, .L y.2.2])) := by kernel_rfl
theorem m_spec_l15Labels_L10_ok : ∀ n, (m_spec_l15Labels_L10 (n_spec_l15Labels_L10 n)).ok Go.Proofs.Try.prog (codeAt (bodyOf Go.Proofs.Try.f70) 10) := by
  intro n
  induction n with
  | zero =>
    intro R ds k r h
    unfold m_spec_l15Labels_L10 at h
    obtain ⟨x0, d0, rfl, h0⟩ := dL_some h
    obtain ⟨x1, d1, rfl, h1⟩ := dB_some h0
    obtain ⟨x2, d2, rfl, h2⟩ := dI_some h1
    obtain ⟨x3, d3, rfl, h3⟩ := dL_some h2
    obtain ⟨rfl, hE⟩ := dE_some h3
    obtain ⟨y, hy, hk⟩ := bnd_some hE
    cases hy
  | succ n ih =>
    intro R ds k r h
    unfold m_spec_l15Labels_L10 at h
    obtain ⟨x0, d0, rfl, h0⟩ := dL_some h
    obtain ⟨x1, d1, rfl, h1⟩ := dB_some h0
    obtain ⟨x2, d2, rfl, h2⟩ := dI_some h1
    obtain ⟨x3, d3, rfl, h3⟩ := dL_some h2
    obtain ⟨rfl, hE⟩ := dE_some h3
    obtain ⟨y, hy, hk⟩ := bnd_some hE
    have hq := q_spec_l15Labels_L10 (n_spec_l15Labels_L10 n) x0 x1 x2 x3
    rw [c_spec_l15Labels_L10_bind] at hq
    rw [show c_spec_l15Labels_L10 (n_spec_l15Labels_L10 n) x0 x1 x2 x3 some = some y from hy] at hq
    refine ⟨0, _, _, _, hk, rfl, loop_ok px (fx := ⟨Go.Proofs.Try.func70, by kernel_rfl, by kernel_rfl⟩) (entsOK_cons e_spec_l1Least_ok entsOK_nil) (lentsOK_cons ih lentsOK_nil) (by kernel_rfl) ?_⟩
    exact hq
noncomputable def e_spec_l15Labels_L10 : Lent := m_spec_l15Labels_L10 (spec_l15Labels_L10)
theorem e_spec_l15Labels_L10_ok : (e_spec_l15Labels_L10).ok Go.Proofs.Try.prog (codeAt (bodyOf Go.Proofs.Try.f70) 10) := by
  intro R ds k r h
  unfold e_spec_l15Labels_L10 m_spec_l15Labels_L10 at h
  obtain ⟨x0, d0, rfl, h0⟩ := dL_some h
  obtain ⟨x1, d1, rfl, h1⟩ := dB_some h0
  obtain ⟨x2, d2, rfl, h2⟩ := dI_some h1
  obtain ⟨x3, d3, rfl, h3⟩ := dL_some h2
  obtain ⟨rfl, hE⟩ := dE_some h3
  obtain ⟨y, hy, hk⟩ := bnd_some hE
  obtain ⟨n, hn⟩ := ev_some hy
  exact m_spec_l15Labels_L10_ok n R _ k r (show (n_spec_l15Labels_L10 n x0 x1 x2 x3).bind _ = _ by rw [hn]; exact hk)

/-! loop.example/g00876/spec.l15Labels, loop 7 -/
def c_spec_l15Labels_L7 {R : Type} (F : List D → Bool → List D → Option (List D)) (x0 : List D) (x1 : Bool) (x2 : List D) (k : List D → Option R) : Option R :=
 bif x1 then
 (spec_l15Labels_L10 x0 Bool.false (0 : Int) x2).bind (fun y0 =>
 (F y0.fst y0.snd.fst y0.snd.snd).bind k)
 else
 k x2
theorem c_spec_l15Labels_L7_bind {R : Type} (F : List D → Bool → List D → Option (List D)) (x0 : List D) (x1 : Bool) (x2 : List D) (k : List D → Option R) : c_spec_l15Labels_L7 F x0 x1 x2 k = (c_spec_l15Labels_L7 F x0 x1 x2 some).bind k := by
  unfold c_spec_l15Labels_L7
  repeat' first
    | exact bnd_tail
    | exact bnd_none
    | exact bnd_leaf
    | apply bnd_ite
    | apply bnd_cond
    | apply bnd_sum
    | (apply bnd_bind; intro _)
    | intro _
def n_spec_l15Labels_L7 : Nat → List D → Bool → List D → Option (List D)
 | 0, _, _, _ => none
 | n + 1, x0, x1, x2 => c_spec_l15Labels_L7 (n_spec_l15Labels_L7 n) x0 x1 x2 some
noncomputable def spec_l15Labels_L7 (x0 : List D) (x1 : Bool) (x2 : List D) : Option (List D) := ev (fun n => n_spec_l15Labels_L7 n x0 x1 x2)
def m_spec_l15Labels_L7 (F : List D → Bool → List D → Option (List D)) : Lent := ⟨7, ⟨[.undef, .rd (.struct [.int .i64, .int .i64]), .undef, .undef, .undef, .full 1000 [] (.int .i64), .undef, .bool, .undef, .undef, .undef, .undef, .undef, .undef, .undef, .undef, .undef, .undef, .undef, .undef, .undef, .undef, .undef, .undef, .undef, .undef, .undef, .undef, .undef, .undef, .undef, .undef, .undef, .undef, .undef, .undef, .undef, .undef, .undef, .undef, .undef, .undef, .undef, .undef, .undef, .undef, .undef, .undef, .undef, .undef, .undef, .undef, .undef, .undef, .undef, .undef, .undef, .undef, .undef, .undef, .undef, .undef, .undef, .undef, .undef, .undef], [(1000, .own (.int .i64))]⟩, [(.exit 2, ⟨[.undef, .undef, .undef, .undef, .undef, .full 1000 [] (.int .i64), .undef, .undef, .undef, .undef, .undef, .undef, .undef, .undef, .undef, .undef, .undef, .undef, .undef, .undef, .undef, .undef, .undef, .undef, .undef, .undef, .undef, .undef, .undef, .undef, .undef, .undef, .undef, .undef, .undef, .undef, .undef, .undef, .undef, .undef, .undef, .undef, .undef, .undef, .undef, .undef, .undef, .undef, .undef, .undef, .undef, .undef, .undef, .undef, .undef, .undef, .undef, .undef, .undef, .undef, .undef, .undef, .undef, .undef, .undef, .undef], [(1000, .own (.int .i64))]⟩)], fun _ ds k => dL (fun x0 ds => dB (fun x1 ds => dL (fun x2 ds => dE ((F x0 x1 x2).bind (fun y => k 0 [.L y])) ds) ds) ds) ds⟩
theorem q_spec_l15Labels_L7 (F : List D → Bool → List D → Option (List D)) (x0 : List D) (x1 : Bool) (x2 : List D) : runLoop (ocOf []) (olOf [m_spec_l15Labels_L7 F, e_spec_l15Labels_L10]) A 70 (codeAt (bodyOf Go.Proofs.Try.f70) 7) ((m_spec_l15Labels_L7 F).sh.mk' [.L x0, .B x1, .L x2]) (fun e σ' => some (e, σ')) = c_spec_l15Labels_L7 F x0 x1 x2 (fun y => some (.exit 2, SSt.mk' ⟨[.undef, .undef, .undef, .undef, .undef, .full 1000 [] (.int .i64), .undef, .undef, .undef, .undef, .undef, .undef, .undef, .undef, .undef, .undef, .undef, .undef, .undef, .undef, .undef, .undef, .undef, .undef, .undef, .undef, .undef, .undef, .undef, .undef, .undef, .undef, .undef, .undef, .undef, .undef, .undef, .undef, .undef, .undef, .undef, .undef, .undef, .undef, .undef, .undef, .undef, .undef, .undef, .undef, .undef, .undef, .undef, .undef, .undef, .undef, .undef, .undef, .undef, .undef, .undef, .undef, .undef, .undef, .undef, .undef], [(1000, .own (.int .i64))]⟩ [.L y])) := by kernel_rfl
theorem m_spec_l15Labels_L7_ok : ∀ n, (m_spec_l15Labels_L7 (n_spec_l15Labels_L7 n)).ok Go.Proofs.Try.prog (codeAt (bodyOf Go.Proofs.Try.f70) 7) := by
  intro n
  induction n with
  | zero =>
    intro R ds k r h
    unfold m_spec_l15Labels_L7 at h
    obtain ⟨x0, d0, rfl, h0⟩ := dL_some h
    obtain ⟨x1, d1, rfl, h1⟩ := dB_some h0
    obtain ⟨x2, d2, rfl, h2⟩ := dL_some h1
    obtain ⟨rfl, hE⟩ := dE_some h2
    obtain ⟨y, hy, hk⟩ := bnd_some hE
    cases hy
  | succ n ih =>
    intro R ds k r h
    unfold m_spec_l15Labels_L7 at h
    obtain ⟨x0, d0, rfl, h0⟩ := dL_some h
    obtain ⟨x1, d1, rfl, h1⟩ := dB_some h0
    obtain ⟨x2, d2, rfl, h2⟩ := dL_some h1
    obtain ⟨rfl, hE⟩ := dE_some h2
    obtain ⟨y, hy, hk⟩ := bnd_some hE
    have hq := q_spec_l15Labels_L7 (n_spec_l15Labels_L7 n) x0 x1 x2
    rw [c_spec_l15Labels_L7_bind] at hq
    rw [show c_spec_l15Labels_L7 (n_spec_l15Labels_L7 n) x0 x1 x2 some = some y from hy] at hq
    refine ⟨0, _, _, _, hk, rfl, loop_ok px (fx := ⟨Go.Proofs.Try.func70, by kernel_rfl, by kernel_rfl⟩) entsOK_nil (lentsOK_cons ih (lentsOK_cons e_spec_l15Labels_L10_ok lentsOK_nil)) (by kernel_rfl) ?_⟩
    exact hq
noncomputable def e_spec_l15Labels_L7 : Lent := m_spec_l15Labels_L7 (spec_l15Labels_L7)
theorem e_spec_l15Labels_L7_ok : (e_spec_l15Labels_L7).ok Go.Proofs.Try.prog (codeAt (bodyOf Go.Proofs.Try.f70) 7) := by
  intro R ds k r h
  unfold e_spec_l15Labels_L7 m_spec_l15Labels_L7 at h
  obtain ⟨x0, d0, rfl, h0⟩ := dL_some h
  obtain ⟨x1, d1, rfl, h1⟩ := dB_some h0
  obtain ⟨x2, d2, rfl, h2⟩ := dL_some h1
  obtain ⟨rfl, hE⟩ := dE_some h2
  obtain ⟨y, hy, hk⟩ := bnd_some hE
  obtain ⟨n, hn⟩ := ev_some hy
  exact m_spec_l15Labels_L7_ok n R _ k r (show (n_spec_l15Labels_L7 n x0 x1 x2).bind _ = _ by rw [hn]; exact hk)

/-! loop.example/g00876/spec.l15Labels -/
def c_spec_l15Labels {R : Type} (x0 : Int) (x1 : List D) (k : List D → Option R) : Option R :=
 (spec_l15Labels_L3 x0 x1 (0 : Int) []).bind (fun y0 =>
 (spec_l15Labels_L7 y0.fst Bool.true y0.snd).bind (fun y1 =>
 k y1))
theorem c_spec_l15Labels_bind {R : Type} (x0 : Int) (x1 : List D) (k : List D → Option R) : c_spec_l15Labels x0 x1 k = (c_spec_l15Labels x0 x1 some).bind k := by
  unfold c_spec_l15Labels
  repeat' first
    | exact bnd_tail
    | exact bnd_none
    | exact bnd_leaf
    | apply bnd_ite
    | apply bnd_cond
    | apply bnd_sum
    | (apply bnd_bind; intro _)
    | intro _
def spec_l15Labels (x0 : Int) (x1 : List D) : Option (List D) := c_spec_l15Labels x0 x1 some
def e_spec_l15Labels : Ent := ⟨70, [.int .i64, .rd (.struct [.int .i64, .int .i64])], .own (.int .i64), [.undef, .undef], fun _ ds k => dI (fun x0 ds => dL (fun x1 ds => dE ((spec_l15Labels x0 x1).bind (fun y => k [.L y])) ds) ds) ds⟩
theorem q_spec_l15Labels (x0 : Int) (x1 : List D) : runFn (ocOf []) (olOf [e_spec_l15Labels_L3, e_spec_l15Labels_L7]) A 70 Go.Proofs.Try.f70 (Sh.mks e_spec_l15Labels.sh [.I x0, .L x1]).1 (fun v os => some (v, os)) = c_spec_l15Labels x0 x1 (fun y => some ((e_spec_l15Labels.res.mk [.L y]).1, (Sh.mks e_spec_l15Labels.outs (e_spec_l15Labels.res.mk [.L y]).2).1)) := by kernel_rfl
theorem e_spec_l15Labels_ok : e_spec_l15Labels.ok Go.Proofs.Try.prog A := by
  intro R ds k r h
  unfold e_spec_l15Labels at h
  obtain ⟨x0, d0, rfl, h0⟩ := dI_some h
  obtain ⟨x1, d1, rfl, h1⟩ := dL_some h0
  obtain ⟨rfl, hE⟩ := dE_some h1
  obtain ⟨y, hy, hk⟩ := bnd_some hE
  refine ⟨_, hk, fn_ok px (fx := ⟨Go.Proofs.Try.func70, by kernel_rfl, by kernel_rfl⟩) entsOK_nil (lentsOK_cons e_spec_l15Labels_L3_ok (lentsOK_cons e_spec_l15Labels_L7_ok lentsOK_nil)) ?_⟩
  have hq := q_spec_l15Labels x0 x1
  rw [c_spec_l15Labels_bind] at hq
  rw [show c_spec_l15Labels x0 x1 some = some y from hy] at hq
  exact hq

/-! loop.example/g00876/spec.l1Most -/
def c_spec_l1Most {R : Type} (x0 : Int) (x1 : Int) (k : Int → Option R) : Option R :=
 bif Decidable.decide (x1 < x0) then
 k x0
 else
 k x1
theorem c_spec_l1Most_bind {R : Type} (x0 : Int) (x1 : Int) (k : Int → Option R) : c_spec_l1Most x0 x1 k = (c_spec_l1Most x0 x1 some).bind k := by
  unfold c_spec_l1Most
  repeat' first
    | exact bnd_tail
    | exact bnd_none
    | exact bnd_leaf
    | apply bnd_ite
    | apply bnd_cond
    | apply bnd_sum
    | (apply bnd_bind; intro _)
    | intro _
def spec_l1Most (x0 : Int) (x1 : Int) : Option (Int) := c_spec_l1Most x0 x1 some
def e_spec_l1Most : Ent := ⟨75, [.int .i64, .int .i64], .int .i64, [.undef, .undef], fun _ ds k => dI (fun x0 ds => dI (fun x1 ds => dE ((spec_l1Most x0 x1).bind (fun y => k [.I y])) ds) ds) ds⟩
theorem q_spec_l1Most (x0 : Int) (x1 : Int) : runFn (ocOf []) (olOf []) A 75 Go.Proofs.Try.f75 (Sh.mks e_spec_l1Most.sh [.I x0, .I x1]).1 (fun v os => some (v, os)) = c_spec_l1Most x0 x1 (fun y => some ((e_spec_l1Most.res.mk [.I y]).1, (Sh.mks e_spec_l1Most.outs (e_spec_l1Most.res.mk [.I y]).2).1)) := by kernel_rfl
theorem e_spec_l1Most_ok : e_spec_l1Most.ok Go.Proofs.Try.prog A := by
  intro R ds k r h
  unfold e_spec_l1Most at h
  obtain ⟨x0, d0, rfl, h0⟩ := dI_some h
  obtain ⟨x1, d1, rfl, h1⟩ := dI_some h0
  obtain ⟨rfl, hE⟩ := dE_some h1
  obtain ⟨y, hy, hk⟩ := bnd_some hE
  refine ⟨_, hk, fn_ok px (fx := ⟨Go.Proofs.Try.func75, by kernel_rfl, by kernel_rfl⟩) entsOK_nil lentsOK_nil ?_⟩
  have hq := q_spec_l1Most x0 x1
  rw [c_spec_l1Most_bind] at hq
  rw [show c_spec_l1Most x0 x1 some = some y from hy] at hq
  exact hq

/-! loop.example/g00876/spec.l15Joined, loop 2 -/
def c_spec_l15Joined_L2 {R : Type} (F : List D → Int → Int → Int → Option ((Bool) ⊕ (Unit))) (x0 : List D) (x1 : Int) (x2 : Int) (x3 : Int) (k : (Bool) ⊕ (Unit) → Option R) : Option R :=
 bif Decidable.decide (x3 < (↑x0.length : Int)) then
 if (0 : Int) ≤ x3 ∧ x3 < (↑x0.length : Int) then
 (spec_l1Least x1 x2).bind (fun y0 =>
 bif Decidable.decide (((x0.getD x3.toNat (Go.Rai.D.int (0 : Int))).fld (0 : Nat)).toInt = y0) then
 if (0 : Int) ≤ x3 ∧ x3 < (↑x0.length : Int) then
 (spec_l1Most x1 x2).bind (fun y1 =>
 bif Decidable.decide (((x0.getD x3.toNat (Go.Rai.D.int (0 : Int))).fld (1 : Nat)).toInt = y1) then
 k (.inl Bool.true)
 else
 (F x0 x1 x2 (Go.IntKind.i64.wrap (x3 + (1 : Int)))).bind k)
 else
 none
 else
 (F x0 x1 x2 (Go.IntKind.i64.wrap (x3 + (1 : Int)))).bind k)
 else
 none
 else
 k (.inr ())
theorem c_spec_l15Joined_L2_bind {R : Type} (F : List D → Int → Int → Int → Option ((Bool) ⊕ (Unit))) (x0 : List D) (x1 : Int) (x2 : Int) (x3 : Int) (k : (Bool) ⊕ (Unit) → Option R) : c_spec_l15Joined_L2 F x0 x1 x2 x3 k = (c_spec_l15Joined_L2 F x0 x1 x2 x3 some).bind k := by
  unfold c_spec_l15Joined_L2
  repeat' first
    | exact bnd_tail
    | exact bnd_none
    | exact bnd_leaf
    | apply bnd_ite
    | apply bnd_cond
    | apply bnd_sum
    | (apply bnd_bind; intro _)
    | intro _
def n_spec_l15Joined_L2 : Nat → List D → Int → Int → Int → Option ((Bool) ⊕ (Unit))
 | 0, _, _, _, _ => none
 | n + 1, x0, x1, x2, x3 => c_spec_l15Joined_L2 (n_spec_l15Joined_L2 n) x0 x1 x2 x3 some
noncomputable def spec_l15Joined_L2 (x0 : List D) (x1 : Int) (x2 : Int) (x3 : Int) : Option ((Bool) ⊕ (Unit)) := ev (fun n => n_spec_l15Joined_L2 n x0 x1 x2 x3)
def m_spec_l15Joined_L2 (F : List D → Int → Int → Int → Option ((Bool) ⊕ (Unit))) : Lent := ⟨2, ⟨[.rd (.struct [.int .i64, .int .i64]), .int .i64, .int .i64, .undef, .undef, .undef, .undef, .int .i64, .undef, .undef, .undef, .undef, .undef, .undef, .undef, .undef, .undef, .undef, .undef, .undef, .undef, .undef, .undef, .undef, .undef, .undef, .undef, .undef, .undef, .undef, .undef, .undef, .undef, .undef], []⟩, [(.ret, ⟨[.undef, .undef, .undef, .undef, .undef, .undef, .bool, .undef, .undef, .undef, .undef, .undef, .undef, .undef, .undef, .undef, .undef, .undef, .undef, .undef, .undef, .undef, .undef, .undef, .undef, .undef, .undef, .undef, .undef, .undef, .undef, .undef, .undef, .undef], []⟩), (.exit 0, ⟨[.undef, .undef, .undef, .undef, .undef, .undef, .undef, .undef, .undef, .undef, .undef, .undef, .undef, .undef, .undef, .undef, .undef, .undef, .undef, .undef, .undef, .undef, .undef, .undef, .undef, .undef, .undef, .undef, .undef, .undef, .undef, .undef, .undef, .undef], []⟩)], fun _ ds k => dL (fun x0 ds => dI (fun x1 ds => dI (fun x2 ds => dI (fun x3 ds => dE ((F x0 x1 x2 x3).bind (Sum.elim (fun y => k 0 [.B y]) (fun y => k 1 []))) ds) ds) ds) ds) ds⟩
theorem q_spec_l15Joined_L2 (F : List D → Int → Int → Int → Option ((Bool) ⊕ (Unit))) (x0 : List D) (x1 : Int) (x2 : Int) (x3 : Int) : runLoop (ocOf [e_spec_l1Least, e_spec_l1Most]) (olOf [m_spec_l15Joined_L2 F]) A 89 (codeAt (bodyOf Go.Proofs.Try.f89) 2) ((m_spec_l15Joined_L2 F).sh.mk' [.L x0, .I x1, .I x2, .I x3]) (fun e σ' => some (e, σ')) = c_spec_l15Joined_L2 F x0 x1 x2 x3 (Sum.elim (fun y => some (.ret, SSt.mk' ⟨[.undef, .undef, .undef, .undef, .undef, .undef, .bool, .undef, .undef, .undef, .undef, .undef, .undef, .undef, .undef, .undef, .undef, .undef, .undef, .undef, .undef, .undef, .undef, .undef, .undef, .undef, .undef, .undef, .undef, .undef, .undef, .undef, .undef, .undef], []⟩ [.B y])) (fun y => some (.exit 0, SSt.mk' ⟨[.undef, .undef, .undef, .undef, .undef, .undef, .undef, .undef, .undef, .undef, .undef, .undef, .undef, .undef, .undef, .undef, .undef, .undef, .undef, .undef, .undef, .undef, .undef, .undef, .undef, .undef, .undef, .undef, .undef, .undef, .undef, .undef, .undef, .undef], []⟩ []))) := by kernel_rfl
theorem m_spec_l15Joined_L2_ok : ∀ n, (m_spec_l15Joined_L2 (n_spec_l15Joined_L2 n)).ok Go.Proofs.Try.prog (codeAt (bodyOf Go.Proofs.Try.f89) 2) := by
  intro n
  induction n with
  | zero =>
    intro R ds k r h
    unfold m_spec_l15Joined_L2 at h
    obtain ⟨x0, d0, rfl, h0⟩ := dL_some h
    obtain ⟨x1, d1, rfl, h1⟩ := dI_some h0
    obtain ⟨x2, d2, rfl, h2⟩ := dI_some h1
    obtain ⟨x3, d3, rfl, h3⟩ := dI_some h2
    obtain ⟨rfl, hE⟩ := dE_some h3
    obtain ⟨y, hy, hk⟩ := bnd_some hE
    cases hy
  | succ n ih =>
    intro R ds k r h
    unfold m_spec_l15Joined_L2 at h
    obtain ⟨x0, d0, rfl, h0⟩ := dL_some h
    obtain ⟨x1, d1, rfl, h1⟩ := dI_some h0
    obtain ⟨x2, d2, rfl, h2⟩ := dI_some h1
    obtain ⟨x3, d3, rfl, h3⟩ := dI_some h2
    obtain ⟨rfl, hE⟩ := dE_some h3
    obtain ⟨y, hy, hk⟩ := bnd_some hE
    have hq := q_spec_l15Joined_L2 (n_spec_l15Joined_L2 n) x0 x1 x2 x3
    rw [c_spec_l15Joined_L2_bind] at hq
    rw [show c_spec_l15Joined_L2 (n_spec_l15Joined_L2 n) x0 x1 x2 x3 some = some y from hy] at hq
    cases y with
    | inl y =>
      refine ⟨0, _, _, _, hk, rfl, loop_ok px (fx := ⟨Go.Proofs.Try.func89, by kernel_rfl, by kernel_rfl⟩) (entsOK_cons e_spec_l1Least_ok (entsOK_cons e_spec_l1Most_ok entsOK_nil)) (lentsOK_cons ih lentsOK_nil) (by kernel_rfl) ?_⟩
      exact hq
    | inr y =>
      refine ⟨1, _, _, _, hk, rfl, loop_ok px (fx := ⟨Go.Proofs.Try.func89, by kernel_rfl, by kernel_rfl⟩) (entsOK_cons e_spec_l1Least_ok (entsOK_cons e_spec_l1Most_ok entsOK_nil)) (lentsOK_cons ih lentsOK_nil) (by kernel_rfl) ?_⟩
      exact hq
noncomputable def e_spec_l15Joined_L2 : Lent := m_spec_l15Joined_L2 (spec_l15Joined_L2)
theorem e_spec_l15Joined_L2_ok : (e_spec_l15Joined_L2).ok Go.Proofs.Try.prog (codeAt (bodyOf Go.Proofs.Try.f89) 2) := by
  intro R ds k r h
  unfold e_spec_l15Joined_L2 m_spec_l15Joined_L2 at h
  obtain ⟨x0, d0, rfl, h0⟩ := dL_some h
  obtain ⟨x1, d1, rfl, h1⟩ := dI_some h0
  obtain ⟨x2, d2, rfl, h2⟩ := dI_some h1
  obtain ⟨x3, d3, rfl, h3⟩ := dI_some h2
  obtain ⟨rfl, hE⟩ := dE_some h3
  obtain ⟨y, hy, hk⟩ := bnd_some hE
  obtain ⟨n, hn⟩ := ev_some hy
  exact m_spec_l15Joined_L2_ok n R _ k r (show (n_spec_l15Joined_L2 n x0 x1 x2 x3).bind _ = _ by rw [hn]; exact hk)

/-! loop.example/g00876/spec.l15Joined -/
def c_spec_l15Joined {R : Type} (x0 : List D) (x1 : Int) (x2 : Int) (k : Bool → Option R) : Option R :=
 (spec_l15Joined_L2 x0 x1 x2 (0 : Int)).bind (Sum.elim (fun y0 =>
 k y0) (fun y1 =>
 k Bool.false))
theorem c_spec_l15Joined_bind {R : Type} (x0 : List D) (x1 : Int) (x2 : Int) (k : Bool → Option R) : c_spec_l15Joined x0 x1 x2 k = (c_spec_l15Joined x0 x1 x2 some).bind k := by
  unfold c_spec_l15Joined
  repeat' first
    | exact bnd_tail
    | exact bnd_none
    | exact bnd_leaf
    | apply bnd_ite
    | apply bnd_cond
    | apply bnd_sum
    | (apply bnd_bind; intro _)
    | intro _
def spec_l15Joined (x0 : List D) (x1 : Int) (x2 : Int) : Option (Bool) := c_spec_l15Joined x0 x1 x2 some
def e_spec_l15Joined : Ent := ⟨89, [.rd (.struct [.int .i64, .int .i64]), .int .i64, .int .i64], .bool, [.undef, .undef, .undef], fun _ ds k => dL (fun x0 ds => dI (fun x1 ds => dI (fun x2 ds => dE ((spec_l15Joined x0 x1 x2).bind (fun y => k [.B y])) ds) ds) ds) ds⟩
theorem q_spec_l15Joined (x0 : List D) (x1 : Int) (x2 : Int) : runFn (ocOf []) (olOf [e_spec_l15Joined_L2]) A 89 Go.Proofs.Try.f89 (Sh.mks e_spec_l15Joined.sh [.L x0, .I x1, .I x2]).1 (fun v os => some (v, os)) = c_spec_l15Joined x0 x1 x2 (fun y => some ((e_spec_l15Joined.res.mk [.B y]).1, (Sh.mks e_spec_l15Joined.outs (e_spec_l15Joined.res.mk [.B y]).2).1)) := by kernel_rfl
theorem e_spec_l15Joined_ok : e_spec_l15Joined.ok Go.Proofs.Try.prog A := by
  intro R ds k r h
  unfold e_spec_l15Joined at h
  obtain ⟨x0, d0, rfl, h0⟩ := dL_some h
  obtain ⟨x1, d1, rfl, h1⟩ := dI_some h0
  obtain ⟨x2, d2, rfl, h2⟩ := dI_some h1
  obtain ⟨rfl, hE⟩ := dE_some h2
  obtain ⟨y, hy, hk⟩ := bnd_some hE
  refine ⟨_, hk, fn_ok px (fx := ⟨Go.Proofs.Try.func89, by kernel_rfl, by kernel_rfl⟩) entsOK_nil (lentsOK_cons e_spec_l15Joined_L2_ok lentsOK_nil) ?_⟩
  have hq := q_spec_l15Joined x0 x1 x2
  rw [c_spec_l15Joined_bind] at hq
  rw [show c_spec_l15Joined x0 x1 x2 some = some y from hy] at hq
  exact hq

/-! loop.example/g00876/spec.l1Has, loop 2 -/
def c_spec_l1Has_L2 {R : Type} (F : List D → Int → Int → Option ((Bool) ⊕ (Unit))) (x0 : List D) (x1 : Int) (x2 : Int) (k : (Bool) ⊕ (Unit) → Option R) : Option R :=
 bif Decidable.decide (x2 < (↑x0.length : Int)) then
 if (0 : Int) ≤ x2 ∧ x2 < (↑x0.length : Int) then
 bif Decidable.decide ((x0.getD x2.toNat (Go.Rai.D.int (0 : Int))).toInt = x1) then
 k (.inl Bool.true)
 else
 (F x0 x1 (Go.IntKind.i64.wrap (x2 + (1 : Int)))).bind k
 else
 none
 else
 k (.inr ())
theorem c_spec_l1Has_L2_bind {R : Type} (F : List D → Int → Int → Option ((Bool) ⊕ (Unit))) (x0 : List D) (x1 : Int) (x2 : Int) (k : (Bool) ⊕ (Unit) → Option R) : c_spec_l1Has_L2 F x0 x1 x2 k = (c_spec_l1Has_L2 F x0 x1 x2 some).bind k := by
  unfold c_spec_l1Has_L2
  repeat' first
    | exact bnd_tail
    | exact bnd_none
    | exact bnd_leaf
    | apply bnd_ite
    | apply bnd_cond
    | apply bnd_sum
    | (apply bnd_bind; intro _)
    | intro _
def n_spec_l1Has_L2 : Nat → List D → Int → Int → Option ((Bool) ⊕ (Unit))
 | 0, _, _, _ => none
 | n + 1, x0, x1, x2 => c_spec_l1Has_L2 (n_spec_l1Has_L2 n) x0 x1 x2 some
noncomputable def spec_l1Has_L2 (x0 : List D) (x1 : Int) (x2 : Int) : Option ((Bool) ⊕ (Unit)) := ev (fun n => n_spec_l1Has_L2 n x0 x1 x2)
def m_spec_l1Has_L2 (F : List D → Int → Int → Option ((Bool) ⊕ (Unit))) : Lent := ⟨2, ⟨[.rd (.int .i64), .int .i64, .undef, .undef, .undef, .int .i64, .undef, .undef, .undef, .undef, .undef, .undef, .undef, .undef, .undef, .undef, .undef, .undef], []⟩, [(.ret, ⟨[.undef, .undef, .undef, .undef, .bool, .undef, .undef, .undef, .undef, .undef, .undef, .undef, .undef, .undef, .undef, .undef, .undef, .undef], []⟩), (.exit 0, ⟨[.undef, .undef, .undef, .undef, .undef, .undef, .undef, .undef, .undef, .undef, .undef, .undef, .undef, .undef, .undef, .undef, .undef, .undef], []⟩)], fun _ ds k => dL (fun x0 ds => dI (fun x1 ds => dI (fun x2 ds => dE ((F x0 x1 x2).bind (Sum.elim (fun y => k 0 [.B y]) (fun y => k 1 []))) ds) ds) ds) ds⟩
theorem q_spec_l1Has_L2 (F : List D → Int → Int → Option ((Bool) ⊕ (Unit))) (x0 : List D) (x1 : Int) (x2 : Int) : runLoop (ocOf []) (olOf [m_spec_l1Has_L2 F]) A 90 (codeAt (bodyOf Go.Proofs.Try.f90) 2) ((m_spec_l1Has_L2 F).sh.mk' [.L x0, .I x1, .I x2]) (fun e σ' => some (e, σ')) = c_spec_l1Has_L2 F x0 x1 x2 (Sum.elim (fun y => some (.ret, SSt.mk' ⟨[.undef, .undef, .undef, .undef, .bool, .undef, .undef, .undef, .undef, .undef, .undef, .undef, .undef, .undef, .undef, .undef, .undef, .undef], []⟩ [.B y])) (fun y => some (.exit 0, SSt.mk' ⟨[.undef, .undef, .undef, .undef, .undef, .undef, .undef, .undef, .undef, .undef, .undef, .undef, .undef, .undef, .undef, .undef, .undef, .undef], []⟩ []))) := by kernel_rfl
theorem m_spec_l1Has_L2_ok : ∀ n, (m_spec_l1Has_L2 (n_spec_l1Has_L2 n)).ok Go.Proofs.Try.prog (codeAt (bodyOf Go.Proofs.Try.f90) 2) := by
  intro n
  induction n with
  | zero =>
    intro R ds k r h
    unfold m_spec_l1Has_L2 at h
    obtain ⟨x0, d0, rfl, h0⟩ := dL_some h
    obtain ⟨x1, d1, rfl, h1⟩ := dI_some h0
    obtain ⟨x2, d2, rfl, h2⟩ := dI_some h1
    obtain ⟨rfl, hE⟩ := dE_some h2
    obtain ⟨y, hy, hk⟩ := bnd_some hE
    cases hy
  | succ n ih =>
    intro R ds k r h
    unfold m_spec_l1Has_L2 at h
    obtain ⟨x0, d0, rfl, h0⟩ := dL_some h
    obtain ⟨x1, d1, rfl, h1⟩ := dI_some h0
    obtain ⟨x2, d2, rfl, h2⟩ := dI_some h1
    obtain ⟨rfl, hE⟩ := dE_some h2
    obtain ⟨y, hy, hk⟩ := bnd_some hE
    have hq := q_spec_l1Has_L2 (n_spec_l1Has_L2 n) x0 x1 x2
    rw [c_spec_l1Has_L2_bind] at hq
    rw [show c_spec_l1Has_L2 (n_spec_l1Has_L2 n) x0 x1 x2 some = some y from hy] at hq
    cases y with
    | inl y =>
      refine ⟨0, _, _, _, hk, rfl, loop_ok px (fx := ⟨Go.Proofs.Try.func90, by kernel_rfl, by kernel_rfl⟩) entsOK_nil (lentsOK_cons ih lentsOK_nil) (by kernel_rfl) ?_⟩
      exact hq
    | inr y =>
      refine ⟨1, _, _, _, hk, rfl, loop_ok px (fx := ⟨Go.Proofs.Try.func90, by kernel_rfl, by kernel_rfl⟩) entsOK_nil (lentsOK_cons ih lentsOK_nil) (by kernel_rfl) ?_⟩
      exact hq
noncomputable def e_spec_l1Has_L2 : Lent := m_spec_l1Has_L2 (spec_l1Has_L2)
theorem e_spec_l1Has_L2_ok : (e_spec_l1Has_L2).ok Go.Proofs.Try.prog (codeAt (bodyOf Go.Proofs.Try.f90) 2) := by
  intro R ds k r h
  unfold e_spec_l1Has_L2 m_spec_l1Has_L2 at h
  obtain ⟨x0, d0, rfl, h0⟩ := dL_some h
  obtain ⟨x1, d1, rfl, h1⟩ := dI_some h0
  obtain ⟨x2, d2, rfl, h2⟩ := dI_some h1
  obtain ⟨rfl, hE⟩ := dE_some h2
  obtain ⟨y, hy, hk⟩ := bnd_some hE
  obtain ⟨n, hn⟩ := ev_some hy
  exact m_spec_l1Has_L2_ok n R _ k r (show (n_spec_l1Has_L2 n x0 x1 x2).bind _ = _ by rw [hn]; exact hk)

/-! loop.example/g00876/spec.l1Has -/
def c_spec_l1Has {R : Type} (x0 : List D) (x1 : Int) (k : Bool → Option R) : Option R :=
 (spec_l1Has_L2 x0 x1 (0 : Int)).bind (Sum.elim (fun y0 =>
 k y0) (fun y1 =>
 k Bool.false))
theorem c_spec_l1Has_bind {R : Type} (x0 : List D) (x1 : Int) (k : Bool → Option R) : c_spec_l1Has x0 x1 k = (c_spec_l1Has x0 x1 some).bind k := by
  unfold c_spec_l1Has
  repeat' first
    | exact bnd_tail
    | exact bnd_none
    | exact bnd_leaf
    | apply bnd_ite
    | apply bnd_cond
    | apply bnd_sum
    | (apply bnd_bind; intro _)
    | intro _
def spec_l1Has (x0 : List D) (x1 : Int) : Option (Bool) := c_spec_l1Has x0 x1 some
def e_spec_l1Has : Ent := ⟨90, [.rd (.int .i64), .int .i64], .bool, [.undef, .undef], fun _ ds k => dL (fun x0 ds => dI (fun x1 ds => dE ((spec_l1Has x0 x1).bind (fun y => k [.B y])) ds) ds) ds⟩
theorem q_spec_l1Has (x0 : List D) (x1 : Int) : runFn (ocOf []) (olOf [e_spec_l1Has_L2]) A 90 Go.Proofs.Try.f90 (Sh.mks e_spec_l1Has.sh [.L x0, .I x1]).1 (fun v os => some (v, os)) = c_spec_l1Has x0 x1 (fun y => some ((e_spec_l1Has.res.mk [.B y]).1, (Sh.mks e_spec_l1Has.outs (e_spec_l1Has.res.mk [.B y]).2).1)) := by kernel_rfl
theorem e_spec_l1Has_ok : e_spec_l1Has.ok Go.Proofs.Try.prog A := by
  intro R ds k r h
  unfold e_spec_l1Has at h
  obtain ⟨x0, d0, rfl, h0⟩ := dL_some h
  obtain ⟨x1, d1, rfl, h1⟩ := dI_some h0
  obtain ⟨rfl, hE⟩ := dE_some h1
  obtain ⟨y, hy, hk⟩ := bnd_some hE
  refine ⟨_, hk, fn_ok px (fx := ⟨Go.Proofs.Try.func90, by kernel_rfl, by kernel_rfl⟩) entsOK_nil (lentsOK_cons e_spec_l1Has_L2_ok lentsOK_nil) ?_⟩
  have hq := q_spec_l1Has x0 x1
  rw [c_spec_l1Has_bind] at hq
  rw [show c_spec_l1Has x0 x1 some = some y from hy] at hq
  exact hq

/-! loop.example/g00876/spec.l1Own -/
def c_spec_l1Own {R : Type} (x0 : List D) (k : List D → Option R) : Option R :=
 if ([] : List D).length + x0.length ≤ (4294967296 : Nat) then
 k ([] ++ x0)
 else
 none
theorem c_spec_l1Own_bind {R : Type} (x0 : List D) (k : List D → Option R) : c_spec_l1Own x0 k = (c_spec_l1Own x0 some).bind k := by
  unfold c_spec_l1Own
  repeat' first
    | exact bnd_tail
    | exact bnd_none
    | exact bnd_leaf
    | apply bnd_ite
    | apply bnd_cond
    | apply bnd_sum
    | (apply bnd_bind; intro _)
    | intro _
def spec_l1Own (x0 : List D) : Option (List D) := c_spec_l1Own x0 some
def e_spec_l1Own : Ent := ⟨83, [.rd (.int .i64)], .own (.int .i64), [.undef], fun _ ds k => dL (fun x0 ds => dE ((spec_l1Own x0).bind (fun y => k [.L y])) ds) ds⟩
theorem q_spec_l1Own (x0 : List D) : runFn (ocOf []) (olOf []) A 83 Go.Proofs.Try.f83 (Sh.mks e_spec_l1Own.sh [.L x0]).1 (fun v os => some (v, os)) = c_spec_l1Own x0 (fun y => some ((e_spec_l1Own.res.mk [.L y]).1, (Sh.mks e_spec_l1Own.outs (e_spec_l1Own.res.mk [.L y]).2).1)) := by kernel_rfl
theorem e_spec_l1Own_ok : e_spec_l1Own.ok Go.Proofs.Try.prog A := by
  intro R ds k r h
  unfold e_spec_l1Own at h
  obtain ⟨x0, d0, rfl, h0⟩ := dL_some h
  obtain ⟨rfl, hE⟩ := dE_some h0
  obtain ⟨y, hy, hk⟩ := bnd_some hE
  refine ⟨_, hk, fn_ok px (fx := ⟨Go.Proofs.Try.func83, by kernel_rfl, by kernel_rfl⟩) entsOK_nil lentsOK_nil ?_⟩
  have hq := q_spec_l1Own x0
  rw [c_spec_l1Own_bind] at hq
  rw [show c_spec_l1Own x0 some = some y from hy] at hq
  exact hq

def m_spec_l15Path (F : Int → List D → List D → Int → Int → Option (List D)) : Ent := ⟨73, [.int .i64, .rd (.struct [.int .i64, .int .i64]), .own (.int .i64), .int .i64, .int .i64], .own (.int .i64), [.undef, .undef, .undef, .undef, .undef], fun _ ds k => dI (fun x0 ds => dL (fun x1 ds => dL (fun x2 ds => dI (fun x3 ds => dI (fun x4 ds => dE ((F x0 x1 x2 x3 x4).bind (fun y => k [.L y])) ds) ds) ds) ds) ds) ds⟩

/-! loop.example/g00876/spec.l15Path, loop 7 -/
def c_spec_l15Path_L7 {R : Type} (G_spec_l15Path : Int → List D → List D → Int → Int → Option (List D)) (F : Int → List D → Int → Int → Int → Int → List D → Option ((List D) ⊕ (Unit))) (x0 : Int) (x1 : List D) (x2 : Int) (x3 : Int) (x4 : Int) (x5 : Int) (x6 : List D) (k : (List D) ⊕ (Unit) → Option R) : Option R :=
 bif Decidable.decide (x5 < x0) then
 (spec_l15Joined x1 x4 x5).bind (fun y0 =>
 bif y0 then
 (spec_l1Has x6 x5).bind (fun y1 =>
 bif !y1 then
 (spec_l1Own x6).bind (fun y2 =>
 if y2.length + [Go.Rai.D.int x5].length ≤ (4294967296 : Nat) then
 (G_spec_l15Path x0 x1 (y2 ++ [Go.Rai.D.int x5]) x2 (Go.IntKind.i64.wrap (x3 - (1 : Int)))).bind (fun y3 =>
 bif Decidable.decide ((0 : Int) < (↑y3.length : Int)) then
 k (.inl y3)
 else
 (F x0 x1 x2 x3 x4 (Go.IntKind.i64.wrap (x5 + (1 : Int))) x6).bind k)
 else
 none)
 else
 (F x0 x1 x2 x3 x4 (Go.IntKind.i64.wrap (x5 + (1 : Int))) x6).bind k)
 else
 (F x0 x1 x2 x3 x4 (Go.IntKind.i64.wrap (x5 + (1 : Int))) x6).bind k)
 else
 k (.inr ())
theorem c_spec_l15Path_L7_bind {R : Type} (G_spec_l15Path : Int → List D → List D → Int → Int → Option (List D)) (F : Int → List D → Int → Int → Int → Int → List D → Option ((List D) ⊕ (Unit))) (x0 : Int) (x1 : List D) (x2 : Int) (x3 : Int) (x4 : Int) (x5 : Int) (x6 : List D) (k : (List D) ⊕ (Unit) → Option R) : c_spec_l15Path_L7 G_spec_l15Path F x0 x1 x2 x3 x4 x5 x6 k = (c_spec_l15Path_L7 G_spec_l15Path F x0 x1 x2 x3 x4 x5 x6 some).bind k := by
  unfold c_spec_l15Path_L7
  repeat' first
    | exact bnd_tail
    | exact bnd_none
    | exact bnd_leaf
    | apply bnd_ite
    | apply bnd_cond
    | apply bnd_sum
    | (apply bnd_bind; intro _)
    | intro _
def n_spec_l15Path_L7 (G_spec_l15Path : Int → List D → List D → Int → Int → Option (List D)) : Nat → Int → List D → Int → Int → Int → Int → List D → Option ((List D) ⊕ (Unit))
 | 0, _, _, _, _, _, _, _ => none
 | n + 1, x0, x1, x2, x3, x4, x5, x6 => c_spec_l15Path_L7 G_spec_l15Path (n_spec_l15Path_L7 G_spec_l15Path n) x0 x1 x2 x3 x4 x5 x6 some
noncomputable def spec_l15Path_L7 (G_spec_l15Path : Int → List D → List D → Int → Int → Option (List D)) (x0 : Int) (x1 : List D) (x2 : Int) (x3 : Int) (x4 : Int) (x5 : Int) (x6 : List D) : Option ((List D) ⊕ (Unit)) := ev (fun n => n_spec_l15Path_L7 G_spec_l15Path n x0 x1 x2 x3 x4 x5 x6)
def m_spec_l15Path_L7 (F : Int → List D → Int → Int → Int → Int → List D → Option ((List D) ⊕ (Unit))) : Lent := ⟨7, ⟨[.int .i64, .rd (.struct [.int .i64, .int .i64]), .full 1000 [] (.int .i64), .int .i64, .int .i64, .undef, .undef, .undef, .undef, .undef, .undef, .int .i64, .int .i64, .undef, .undef, .undef, .undef, .undef, .undef, .undef, .undef, .undef, .undef, .undef, .undef, .undef, .undef, .undef, .undef, .undef, .undef, .undef, .undef, .undef, .undef, .undef, .undef, .undef, .undef, .undef, .undef, .undef, .undef, .undef, .undef, .undef, .undef, .undef, .undef, .undef, .undef, .undef, .undef, .undef, .undef, .undef, .undef, .undef], [(1000, .own (.int .i64))]⟩, [(.ret, ⟨[.undef, .undef, .undef, .undef, .undef, .undef, .undef, .undef, .undef, .undef, .full 1000 [] (.int .i64), .undef, .undef, .undef, .undef, .undef, .undef, .undef, .undef, .undef, .undef, .undef, .undef, .undef, .undef, .undef, .undef, .undef, .undef, .undef, .undef, .undef, .undef, .undef, .undef, .undef, .undef, .undef, .undef, .undef, .undef, .undef, .undef, .undef, .undef, .undef, .undef, .undef, .undef, .undef, .undef, .undef, .undef, .undef, .undef, .undef, .undef, .undef], [(1000, .own (.int .i64))]⟩), (.exit 0, ⟨[.undef, .undef, .undef, .undef, .undef, .undef, .undef, .undef, .undef, .undef, .undef, .undef, .undef, .undef, .undef, .undef, .undef, .undef, .undef, .undef, .undef, .undef, .undef, .undef, .undef, .undef, .undef, .undef, .undef, .undef, .undef, .undef, .undef, .undef, .undef, .undef, .undef, .undef, .undef, .undef, .undef, .undef, .undef, .undef, .undef, .undef, .undef, .undef, .undef, .undef, .undef, .undef, .undef, .undef, .undef, .undef, .undef, .undef], []⟩)], fun _ ds k => dI (fun x0 ds => dL (fun x1 ds => dI (fun x2 ds => dI (fun x3 ds => dI (fun x4 ds => dI (fun x5 ds => dL (fun x6 ds => dE ((F x0 x1 x2 x3 x4 x5 x6).bind (Sum.elim (fun y => k 0 [.L y]) (fun y => k 1 []))) ds) ds) ds) ds) ds) ds) ds) ds⟩
theorem q_spec_l15Path_L7 (G_spec_l15Path : Int → List D → List D → Int → Int → Option (List D)) (F : Int → List D → Int → Int → Int → Int → List D → Option ((List D) ⊕ (Unit))) (x0 : Int) (x1 : List D) (x2 : Int) (x3 : Int) (x4 : Int) (x5 : Int) (x6 : List D) : runLoop (ocOf [e_spec_l15Joined, e_spec_l1Has, e_spec_l1Own, m_spec_l15Path G_spec_l15Path]) (olOf [m_spec_l15Path_L7 F]) A 73 (codeAt (bodyOf Go.Proofs.Try.f73) 7) ((m_spec_l15Path_L7 F).sh.mk' [.I x0, .L x1, .I x2, .I x3, .I x4, .I x5, .L x6]) (fun e σ' => some (e, σ')) = c_spec_l15Path_L7 G_spec_l15Path F x0 x1 x2 x3 x4 x5 x6 (Sum.elim (fun y => some (.ret, SSt.mk' ⟨[.undef, .undef, .undef, .undef, .undef, .undef, .undef, .undef, .undef, .undef, .full 1000 [] (.int .i64), .undef, .undef, .undef, .undef, .undef, .undef, .undef, .undef, .undef, .undef, .undef, .undef, .undef, .undef, .undef, .undef, .undef, .undef, .undef, .undef, .undef, .undef, .undef, .undef, .undef, .undef, .undef, .undef, .undef, .undef, .undef, .undef, .undef, .undef, .undef, .undef, .undef, .undef, .undef, .undef, .undef, .undef, .undef, .undef, .undef, .undef, .undef], [(1000, .own (.int .i64))]⟩ [.L y])) (fun y => some (.exit 0, SSt.mk' ⟨[.undef, .undef, .undef, .undef, .undef, .undef, .undef, .undef, .undef, .undef, .undef, .undef, .undef, .undef, .undef, .undef, .undef, .undef, .undef, .undef, .undef, .undef, .undef, .undef, .undef, .undef, .undef, .undef, .undef, .undef, .undef, .undef, .undef, .undef, .undef, .undef, .undef, .undef, .undef, .undef, .undef, .undef, .undef, .undef, .undef, .undef, .undef, .undef, .undef, .undef, .undef, .undef, .undef, .undef, .undef, .undef, .undef, .undef], []⟩ []))) := by kernel_rfl
theorem m_spec_l15Path_L7_ok (G_spec_l15Path : Int → List D → List D → Int → Int → Option (List D)) (hG_spec_l15Path : (m_spec_l15Path G_spec_l15Path).ok Go.Proofs.Try.prog A) : ∀ n, (m_spec_l15Path_L7 (n_spec_l15Path_L7 G_spec_l15Path n)).ok Go.Proofs.Try.prog (codeAt (bodyOf Go.Proofs.Try.f73) 7) := by
  intro n
  induction n with
  | zero =>
    intro R ds k r h
    unfold m_spec_l15Path_L7 at h
    obtain ⟨x0, d0, rfl, h0⟩ := dI_some h
    obtain ⟨x1, d1, rfl, h1⟩ := dL_some h0
    obtain ⟨x2, d2, rfl, h2⟩ := dI_some h1
    obtain ⟨x3, d3, rfl, h3⟩ := dI_some h2
    obtain ⟨x4, d4, rfl, h4⟩ := dI_some h3
    obtain ⟨x5, d5, rfl, h5⟩ := dI_some h4
    obtain ⟨x6, d6, rfl, h6⟩ := dL_some h5
    obtain ⟨rfl, hE⟩ := dE_some h6
    obtain ⟨y, hy, hk⟩ := bnd_some hE
    cases hy
  | succ n ih =>
    intro R ds k r h
    unfold m_spec_l15Path_L7 at h
    obtain ⟨x0, d0, rfl, h0⟩ := dI_some h
    obtain ⟨x1, d1, rfl, h1⟩ := dL_some h0
    obtain ⟨x2, d2, rfl, h2⟩ := dI_some h1
    obtain ⟨x3, d3, rfl, h3⟩ := dI_some h2
    obtain ⟨x4, d4, rfl, h4⟩ := dI_some h3
    obtain ⟨x5, d5, rfl, h5⟩ := dI_some h4
    obtain ⟨x6, d6, rfl, h6⟩ := dL_some h5
    obtain ⟨rfl, hE⟩ := dE_some h6
    obtain ⟨y, hy, hk⟩ := bnd_some hE
    have hq := q_spec_l15Path_L7 G_spec_l15Path (n_spec_l15Path_L7 G_spec_l15Path n) x0 x1 x2 x3 x4 x5 x6
    rw [c_spec_l15Path_L7_bind] at hq
    rw [show c_spec_l15Path_L7 G_spec_l15Path (n_spec_l15Path_L7 G_spec_l15Path n) x0 x1 x2 x3 x4 x5 x6 some = some y from hy] at hq
    cases y with
    | inl y =>
      refine ⟨0, _, _, _, hk, rfl, loop_ok px (fx := ⟨Go.Proofs.Try.func73, by kernel_rfl, by kernel_rfl⟩) (entsOK_cons e_spec_l15Joined_ok (entsOK_cons e_spec_l1Has_ok (entsOK_cons e_spec_l1Own_ok (entsOK_cons hG_spec_l15Path entsOK_nil)))) (lentsOK_cons ih lentsOK_nil) (by kernel_rfl) ?_⟩
      exact hq
    | inr y =>
      refine ⟨1, _, _, _, hk, rfl, loop_ok px (fx := ⟨Go.Proofs.Try.func73, by kernel_rfl, by kernel_rfl⟩) (entsOK_cons e_spec_l15Joined_ok (entsOK_cons e_spec_l1Has_ok (entsOK_cons e_spec_l1Own_ok (entsOK_cons hG_spec_l15Path entsOK_nil)))) (lentsOK_cons ih lentsOK_nil) (by kernel_rfl) ?_⟩
      exact hq
noncomputable def e_spec_l15Path_L7 (G_spec_l15Path : Int → List D → List D → Int → Int → Option (List D)) : Lent := m_spec_l15Path_L7 (spec_l15Path_L7 G_spec_l15Path)
theorem e_spec_l15Path_L7_ok (G_spec_l15Path : Int → List D → List D → Int → Int → Option (List D)) (hG_spec_l15Path : (m_spec_l15Path G_spec_l15Path).ok Go.Proofs.Try.prog A) : (e_spec_l15Path_L7 G_spec_l15Path).ok Go.Proofs.Try.prog (codeAt (bodyOf Go.Proofs.Try.f73) 7) := by
  intro R ds k r h
  unfold e_spec_l15Path_L7 m_spec_l15Path_L7 at h
  obtain ⟨x0, d0, rfl, h0⟩ := dI_some h
  obtain ⟨x1, d1, rfl, h1⟩ := dL_some h0
  obtain ⟨x2, d2, rfl, h2⟩ := dI_some h1
  obtain ⟨x3, d3, rfl, h3⟩ := dI_some h2
  obtain ⟨x4, d4, rfl, h4⟩ := dI_some h3
  obtain ⟨x5, d5, rfl, h5⟩ := dI_some h4
  obtain ⟨x6, d6, rfl, h6⟩ := dL_some h5
  obtain ⟨rfl, hE⟩ := dE_some h6
  obtain ⟨y, hy, hk⟩ := bnd_some hE
  obtain ⟨n, hn⟩ := ev_some hy
  exact m_spec_l15Path_L7_ok G_spec_l15Path hG_spec_l15Path n R _ k r (show (n_spec_l15Path_L7 G_spec_l15Path n x0 x1 x2 x3 x4 x5 x6).bind _ = _ by rw [hn]; exact hk)

/-! loop.example/g00876/spec.l15Path -/
def c_spec_l15Path {R : Type} (F : Int → List D → List D → Int → Int → Option (List D)) (x0 : Int) (x1 : List D) (x2 : List D) (x3 : Int) (x4 : Int) (k : List D → Option R) : Option R :=
 if (0 : Int) ≤ Go.IntKind.i64.wrap ((↑x2.length : Int) - (1 : Int)) ∧ Go.IntKind.i64.wrap ((↑x2.length : Int) - (1 : Int)) < (↑x2.length : Int) then
 if (Go.IntKind.i64.wrap ((↑x2.length : Int) - (1 : Int))).toNat + (1 : Nat) ≤ x2.length then
 bif Decidable.decide (x4 = (0 : Int)) then
 bif Decidable.decide ((x2.getD (Go.IntKind.i64.wrap ((↑x2.length : Int) - (1 : Int))).toNat (Go.Rai.D.int (0 : Int))).toInt = x3) then
 k x2
 else
 k []
 else
 (spec_l15Path_L7 F x0 x1 x3 x4 ((x2.getD (Go.IntKind.i64.wrap ((↑x2.length : Int) - (1 : Int))).toNat (Go.Rai.D.int (0 : Int))).toInt) (0 : Int) x2).bind (Sum.elim (fun y0 =>
 k y0) (fun y1 =>
 k []))
 else
 none
 else
 none
theorem c_spec_l15Path_bind {R : Type} (F : Int → List D → List D → Int → Int → Option (List D)) (x0 : Int) (x1 : List D) (x2 : List D) (x3 : Int) (x4 : Int) (k : List D → Option R) : c_spec_l15Path F x0 x1 x2 x3 x4 k = (c_spec_l15Path F x0 x1 x2 x3 x4 some).bind k := by
  unfold c_spec_l15Path
  repeat' first
    | exact bnd_tail
    | exact bnd_none
    | exact bnd_leaf
    | apply bnd_ite
    | apply bnd_cond
    | apply bnd_sum
    | (apply bnd_bind; intro _)
    | intro _
def n_spec_l15Path : Nat → Int → List D → List D → Int → Int → Option (List D)
 | 0, _, _, _, _, _ => none
 | n + 1, x0, x1, x2, x3, x4 => c_spec_l15Path (n_spec_l15Path n) x0 x1 x2 x3 x4 some
noncomputable def spec_l15Path (x0 : Int) (x1 : List D) (x2 : List D) (x3 : Int) (x4 : Int) : Option (List D) := ev (fun n => n_spec_l15Path n x0 x1 x2 x3 x4)
theorem q_spec_l15Path (F : Int → List D → List D → Int → Int → Option (List D)) (x0 : Int) (x1 : List D) (x2 : List D) (x3 : Int) (x4 : Int) : runFn (ocOf []) (olOf [e_spec_l15Path_L7 F]) A 73 Go.Proofs.Try.f73 (Sh.mks (m_spec_l15Path F).sh [.I x0, .L x1, .L x2, .I x3, .I x4]).1 (fun v os => some (v, os)) = c_spec_l15Path F x0 x1 x2 x3 x4 (fun y => some (((m_spec_l15Path F).res.mk [.L y]).1, (Sh.mks (m_spec_l15Path F).outs ((m_spec_l15Path F).res.mk [.L y]).2).1)) := by kernel_rfl
theorem m_spec_l15Path_ok : ∀ n, (m_spec_l15Path (n_spec_l15Path n)).ok Go.Proofs.Try.prog A := by
  intro n
  induction n with
  | zero =>
    intro R ds k r h
    unfold m_spec_l15Path at h
    obtain ⟨x0, d0, rfl, h0⟩ := dI_some h
    obtain ⟨x1, d1, rfl, h1⟩ := dL_some h0
    obtain ⟨x2, d2, rfl, h2⟩ := dL_some h1
    obtain ⟨x3, d3, rfl, h3⟩ := dI_some h2
    obtain ⟨x4, d4, rfl, h4⟩ := dI_some h3
    obtain ⟨rfl, hE⟩ := dE_some h4
    obtain ⟨y, hy, hk⟩ := bnd_some hE
    cases hy
  | succ n ih =>
    intro R ds k r h
    unfold m_spec_l15Path at h
    obtain ⟨x0, d0, rfl, h0⟩ := dI_some h
    obtain ⟨x1, d1, rfl, h1⟩ := dL_some h0
    obtain ⟨x2, d2, rfl, h2⟩ := dL_some h1
    obtain ⟨x3, d3, rfl, h3⟩ := dI_some h2
    obtain ⟨x4, d4, rfl, h4⟩ := dI_some h3
    obtain ⟨rfl, hE⟩ := dE_some h4
    obtain ⟨y, hy, hk⟩ := bnd_some hE
    have hme := ih
    refine ⟨_, hk, fn_ok px (fx := ⟨Go.Proofs.Try.func73, by kernel_rfl, by kernel_rfl⟩) entsOK_nil (lentsOK_cons (e_spec_l15Path_L7_ok _ hme) lentsOK_nil) ?_⟩
    have hq := q_spec_l15Path (n_spec_l15Path n) x0 x1 x2 x3 x4
    rw [c_spec_l15Path_bind] at hq
    rw [show c_spec_l15Path (n_spec_l15Path n) x0 x1 x2 x3 x4 some = some y from hy] at hq
    exact hq
def e_spec_l15Path : Ent := m_spec_l15Path spec_l15Path
theorem e_spec_l15Path_ok : e_spec_l15Path.ok Go.Proofs.Try.prog A := by
  intro R ds k r h
  unfold e_spec_l15Path m_spec_l15Path at h
  obtain ⟨x0, d0, rfl, h0⟩ := dI_some h
  obtain ⟨x1, d1, rfl, h1⟩ := dL_some h0
  obtain ⟨x2, d2, rfl, h2⟩ := dL_some h1
  obtain ⟨x3, d3, rfl, h3⟩ := dI_some h2
  obtain ⟨x4, d4, rfl, h4⟩ := dI_some h3
  obtain ⟨rfl, hE⟩ := dE_some h4
  obtain ⟨y, hy, hk⟩ := bnd_some hE
  obtain ⟨n, hn⟩ := ev_some hy
  exact m_spec_l15Path_ok n R _ k r (show (n_spec_l15Path n x0 x1 x2 x3 x4).bind _ = _ by rw [hn]; exact hk)

/-! loop.example/g00876/spec.JoinPath, loop 6 -/
def c_spec_JoinPath_L6 {R : Type} (F : List D → Int → Int → Int → Int → List D → Option ((Bool × List D) ⊕ (Unit))) (x0 : List D) (x1 : Int) (x2 : Int) (x3 : Int) (x4 : Int) (x5 : List D) (k : (Bool × List D) ⊕ (Unit) → Option R) : Option R :=
 bif Decidable.decide (x4 < x3) then
 if (0 : Int) ≤ x1 ∧ x1 < (↑x5.length : Int) then
 if x1.toNat + (1 : Nat) ≤ x5.length then
 if (0 : Int) ≤ x2 ∧ x2 < (↑x5.length : Int) then
 if x2.toNat + (1 : Nat) ≤ x5.length then
 bif Decidable.decide ((x5.getD x1.toNat (Go.Rai.D.int (0 : Int))).toInt = (x5.getD x2.toNat (Go.Rai.D.int (0 : Int))).toInt) then
 (spec_l15Path x3 x0 ([Go.Rai.D.int x1]) x2 x4).bind (fun y0 =>
 bif Decidable.decide ((0 : Int) < (↑y0.length : Int)) then
 k (.inl (Bool.true, y0))
 else
 (F x0 x1 x2 x3 (Go.IntKind.i64.wrap (x4 + (1 : Int))) x5).bind k)
 else
 k (.inr ())
 else
 none
 else
 none
 else
 none
 else
 none
 else
 k (.inr ())
theorem c_spec_JoinPath_L6_bind {R : Type} (F : List D → Int → Int → Int → Int → List D → Option ((Bool × List D) ⊕ (Unit))) (x0 : List D) (x1 : Int) (x2 : Int) (x3 : Int) (x4 : Int) (x5 : List D) (k : (Bool × List D) ⊕ (Unit) → Option R) : c_spec_JoinPath_L6 F x0 x1 x2 x3 x4 x5 k = (c_spec_JoinPath_L6 F x0 x1 x2 x3 x4 x5 some).bind k := by
  unfold c_spec_JoinPath_L6
  repeat' first
    | exact bnd_tail
    | exact bnd_none
    | exact bnd_leaf
    | apply bnd_ite
    | apply bnd_cond
    | apply bnd_sum
    | (apply bnd_bind; intro _)
    | intro _
def n_spec_JoinPath_L6 : Nat → List D → Int → Int → Int → Int → List D → Option ((Bool × List D) ⊕ (Unit))
 | 0, _, _, _, _, _, _ => none
 | n + 1, x0, x1, x2, x3, x4, x5 => c_spec_JoinPath_L6 (n_spec_JoinPath_L6 n) x0 x1 x2 x3 x4 x5 some
noncomputable def spec_JoinPath_L6 (x0 : List D) (x1 : Int) (x2 : Int) (x3 : Int) (x4 : Int) (x5 : List D) : Option ((Bool × List D) ⊕ (Unit)) := ev (fun n => n_spec_JoinPath_L6 n x0 x1 x2 x3 x4 x5)
def m_spec_JoinPath_L6 (F : List D → Int → Int → Int → Int → List D → Option ((Bool × List D) ⊕ (Unit))) : Lent := ⟨6, ⟨[.undef, .rd (.struct [.int .i64, .int .i64]), .int .i64, .int .i64, .undef, .undef, .undef, .undef, .undef, .undef, .int .i64, .full 1000 [] (.int .i64), .int .i64, .undef, .undef, .undef, .undef, .undef, .undef, .undef, .undef, .undef, .undef, .undef, .undef, .undef, .undef, .undef, .undef, .undef, .undef, .undef, .undef, .undef, .undef, .undef, .undef, .undef, .undef, .undef, .undef, .undef, .undef, .undef, .undef, .undef, .undef, .undef, .undef, .undef, .undef, .undef, .undef, .undef, .undef, .undef, .undef, .undef, .undef, .undef, .undef, .undef, .undef, .undef, .undef, .undef], [(1000, .own (.int .i64))]⟩, [(.ret, ⟨[.undef, .undef, .undef, .undef, .undef, .undef, .undef, .undef, .full 1000 [] (.int .i64), .bool, .undef, .undef, .undef, .undef, .undef, .undef, .undef, .undef, .undef, .undef, .undef, .undef, .undef, .undef, .undef, .undef, .undef, .undef, .undef, .undef, .undef, .undef, .undef, .undef, .undef, .undef, .undef, .undef, .undef, .undef, .undef, .undef, .undef, .undef, .undef, .undef, .undef, .undef, .undef, .undef, .undef, .undef, .undef, .undef, .undef, .undef, .undef, .undef, .undef, .undef, .undef, .undef, .undef, .undef, .undef, .undef], [(1000, .own (.int .i64))]⟩), (.exit 0, ⟨[.undef, .undef, .undef, .undef, .undef, .undef, .undef, .undef, .undef, .undef, .undef, .undef, .undef, .undef, .undef, .undef, .undef, .undef, .undef, .undef, .undef, .undef, .undef, .undef, .undef, .undef, .undef, .undef, .undef, .undef, .undef, .undef, .undef, .undef, .undef, .undef, .undef, .undef, .undef, .undef, .undef, .undef, .undef, .undef, .undef, .undef, .undef, .undef, .undef, .undef, .undef, .undef, .undef, .undef, .undef, .undef, .undef, .undef, .undef, .undef, .undef, .undef, .undef, .undef, .undef, .undef], []⟩)], fun _ ds k => dL (fun x0 ds => dI (fun x1 ds => dI (fun x2 ds => dI (fun x3 ds => dI (fun x4 ds => dL (fun x5 ds => dE ((F x0 x1 x2 x3 x4 x5).bind (Sum.elim (fun y => k 0 [.B y.1, .L y.2]) (fun y => k 1 []))) ds) ds) ds) ds) ds) ds) ds⟩
theorem q_spec_JoinPath_L6 (F : List D → Int → Int → Int → Int → List D → Option ((Bool × List D) ⊕ (Unit))) (x0 : List D) (x1 : Int) (x2 : Int) (x3 : Int) (x4 : Int) (x5 : List D) : runLoop (ocOf [e_spec_l15Path]) (olOf [m_spec_JoinPath_L6 F]) A 44 (codeAt (bodyOf Go.Proofs.Try.f44) 6) ((m_spec_JoinPath_L6 F).sh.mk' [.L x0, .I x1, .I x2, .I x3, .I x4, .L x5]) (fun e σ' => some (e, σ')) = c_spec_JoinPath_L6 F x0 x1 x2 x3 x4 x5 (Sum.elim (fun y => some (.ret, SSt.mk' ⟨[.undef, .undef, .undef, .undef, .undef, .undef, .undef, .undef, .full 1000 [] (.int .i64), .bool, .undef, .undef, .undef, .undef, .undef, .undef, .undef, .undef, .undef, .undef, .undef, .undef, .undef, .undef, .undef, .undef, .undef, .undef, .undef, .undef, .undef, .undef, .undef, .undef, .undef, .undef, .undef, .undef, .undef, .undef, .undef, .undef, .undef, .undef, .undef, .undef, .undef, .undef, .undef, .undef, .undef, .undef, .undef, .undef, .undef, .undef, .undef, .undef, .undef, .undef, .undef, .undef, .undef, .undef, .undef, .undef], [(1000, .own (.int .i64))]⟩ [.B y.1, .L y.2])) (fun y => some (.exit 0, SSt.mk' ⟨[.undef, .undef, .undef, .undef, .undef, .undef, .undef, .undef, .undef, .undef, .undef, .undef, .undef, .undef, .undef, .undef, .undef, .undef, .undef, .undef, .undef, .undef, .undef, .undef, .undef, .undef, .undef, .undef, .undef, .undef, .undef, .undef, .undef, .undef, .undef, .undef, .undef, .undef, .undef, .undef, .undef, .undef, .undef, .undef, .undef, .undef, .undef, .undef, .undef, .undef, .undef, .undef, .undef, .undef, .undef, .undef, .undef, .undef, .undef, .undef, .undef, .undef, .undef, .undef, .undef, .undef], []⟩ []))) := by kernel_rfl
theorem m_spec_JoinPath_L6_ok : ∀ n, (m_spec_JoinPath_L6 (n_spec_JoinPath_L6 n)).ok Go.Proofs.Try.prog (codeAt (bodyOf Go.Proofs.Try.f44) 6) := by
  intro n
  induction n with
  | zero =>
    intro R ds k r h
    unfold m_spec_JoinPath_L6 at h
    obtain ⟨x0, d0, rfl, h0⟩ := dL_some h
    obtain ⟨x1, d1, rfl, h1⟩ := dI_some h0
    obtain ⟨x2, d2, rfl, h2⟩ := dI_some h1
    obtain ⟨x3, d3, rfl, h3⟩ := dI_some h2
    obtain ⟨x4, d4, rfl, h4⟩ := dI_some h3
    obtain ⟨x5, d5, rfl, h5⟩ := dL_some h4
    obtain ⟨rfl, hE⟩ := dE_some h5
    obtain ⟨y, hy, hk⟩ := bnd_some hE
    cases hy
  | succ n ih =>
    intro R ds k r h
    unfold m_spec_JoinPath_L6 at h
    obtain ⟨x0, d0, rfl, h0⟩ := dL_some h
    obtain ⟨x1, d1, rfl, h1⟩ := dI_some h0
    obtain ⟨x2, d2, rfl, h2⟩ := dI_some h1
    obtain ⟨x3, d3, rfl, h3⟩ := dI_some h2
    obtain ⟨x4, d4, rfl, h4⟩ := dI_some h3
    obtain ⟨x5, d5, rfl, h5⟩ := dL_some h4
    obtain ⟨rfl, hE⟩ := dE_some h5
    obtain ⟨y, hy, hk⟩ := bnd_some hE
    have hq := q_spec_JoinPath_L6 (n_spec_JoinPath_L6 n) x0 x1 x2 x3 x4 x5
    rw [c_spec_JoinPath_L6_bind] at hq
    rw [show c_spec_JoinPath_L6 (n_spec_JoinPath_L6 n) x0 x1 x2 x3 x4 x5 some = some y from hy] at hq
    cases y with
    | inl y =>
      refine ⟨0, _, _, _, hk, rfl, loop_ok px (fx := ⟨Go.Proofs.Try.func44, by kernel_rfl, by kernel_rfl⟩) (entsOK_cons e_spec_l15Path_ok entsOK_nil) (lentsOK_cons ih lentsOK_nil) (by kernel_rfl) ?_⟩
      exact hq
    | inr y =>
      refine ⟨1, _, _, _, hk, rfl, loop_ok px (fx := ⟨Go.Proofs.Try.func44, by kernel_rfl, by kernel_rfl⟩) (entsOK_cons e_spec_l15Path_ok entsOK_nil) (lentsOK_cons ih lentsOK_nil) (by kernel_rfl) ?_⟩
      exact hq
noncomputable def e_spec_JoinPath_L6 : Lent := m_spec_JoinPath_L6 (spec_JoinPath_L6)
theorem e_spec_JoinPath_L6_ok : (e_spec_JoinPath_L6).ok Go.Proofs.Try.prog (codeAt (bodyOf Go.Proofs.Try.f44) 6) := by
  intro R ds k r h
  unfold e_spec_JoinPath_L6 m_spec_JoinPath_L6 at h
  obtain ⟨x0, d0, rfl, h0⟩ := dL_some h
  obtain ⟨x1, d1, rfl, h1⟩ := dI_some h0
  obtain ⟨x2, d2, rfl, h2⟩ := dI_some h1
  obtain ⟨x3, d3, rfl, h3⟩ := dI_some h2
  obtain ⟨x4, d4, rfl, h4⟩ := dI_some h3
  obtain ⟨x5, d5, rfl, h5⟩ := dL_some h4
  obtain ⟨rfl, hE⟩ := dE_some h5
  obtain ⟨y, hy, hk⟩ := bnd_some hE
  obtain ⟨n, hn⟩ := ev_some hy
  exact m_spec_JoinPath_L6_ok n R _ k r (show (n_spec_JoinPath_L6 n x0 x1 x2 x3 x4 x5).bind _ = _ by rw [hn]; exact hk)

/-! loop.example/g00876/spec.JoinPath -/
def c_spec_JoinPath {R : Type} (x0 : List D) (x1 : List D) (x2 : Int) (x3 : Int) (k : List D × Bool → Option R) : Option R :=
 (spec_l15Good x0 x1).bind (fun y0 =>
 bif !y0 then
 k ([], Bool.false)
 else
 (spec_l1In x2 (0 : Int) (Go.IntKind.i64.wrap ((↑x0.length : Int) - (1 : Int)))).bind (fun y1 =>
 bif !y1 then
 k ([], Bool.false)
 else
 (spec_l1In x3 (0 : Int) (Go.IntKind.i64.wrap ((↑x0.length : Int) - (1 : Int)))).bind (fun y2 =>
 bif !y2 then
 k ([], Bool.false)
 else
 (spec_l15Labels (↑x0.length : Int) x1).bind (fun y3 =>
 (spec_JoinPath_L6 x1 x2 x3 (↑x0.length : Int) (0 : Int) y3).bind (Sum.elim (fun y4 =>
 k (y4.snd, y4.fst)) (fun y5 =>
 k ([], Bool.false)))))))
theorem c_spec_JoinPath_bind {R : Type} (x0 : List D) (x1 : List D) (x2 : Int) (x3 : Int) (k : List D × Bool → Option R) : c_spec_JoinPath x0 x1 x2 x3 k = (c_spec_JoinPath x0 x1 x2 x3 some).bind k := by
  unfold c_spec_JoinPath
  repeat' first
    | exact bnd_tail
    | exact bnd_none
    | exact bnd_leaf
    | apply bnd_ite
    | apply bnd_cond
    | apply bnd_sum
    | (apply bnd_bind; intro _)
    | intro _
def spec_JoinPath (x0 : List D) (x1 : List D) (x2 : Int) (x3 : Int) : Option (List D × Bool) := c_spec_JoinPath x0 x1 x2 x3 some
def e_spec_JoinPath : Ent := ⟨44, [.rd (.struct [.int .i64, .int .i64, .int .i64, .int .i64]), .rd (.struct [.int .i64, .int .i64]), .int .i64, .int .i64], .tup [.own (.int .i64), .bool], [.undef, .undef, .undef, .undef], fun _ ds k => dL (fun x0 ds => dL (fun x1 ds => dI (fun x2 ds => dI (fun x3 ds => dE ((spec_JoinPath x0 x1 x2 x3).bind (fun y => k [.L y.1, .B y.2])) ds) ds) ds) ds) ds⟩
theorem q_spec_JoinPath (x0 : List D) (x1 : List D) (x2 : Int) (x3 : Int) : runFn (ocOf [e_spec_l15Good, e_spec_l1In, e_spec_l15Labels]) (olOf [e_spec_JoinPath_L6]) A 44 Go.Proofs.Try.f44 (Sh.mks e_spec_JoinPath.sh [.L x0, .L x1, .I x2, .I x3]).1 (fun v os => some (v, os)) = c_spec_JoinPath x0 x1 x2 x3 (fun y => some ((e_spec_JoinPath.res.mk [.L y.1, .B y.2]).1, (Sh.mks e_spec_JoinPath.outs (e_spec_JoinPath.res.mk [.L y.1, .B y.2]).2).1)) := by kernel_rfl
theorem e_spec_JoinPath_ok : e_spec_JoinPath.ok Go.Proofs.Try.prog A := by
  intro R ds k r h
  unfold e_spec_JoinPath at h
  obtain ⟨x0, d0, rfl, h0⟩ := dL_some h
  obtain ⟨x1, d1, rfl, h1⟩ := dL_some h0
  obtain ⟨x2, d2, rfl, h2⟩ := dI_some h1
  obtain ⟨x3, d3, rfl, h3⟩ := dI_some h2
  obtain ⟨rfl, hE⟩ := dE_some h3
  obtain ⟨y, hy, hk⟩ := bnd_some hE
  refine ⟨_, hk, fn_ok px (fx := ⟨Go.Proofs.Try.func44, by kernel_rfl, by kernel_rfl⟩) (entsOK_cons e_spec_l15Good_ok (entsOK_cons e_spec_l1In_ok (entsOK_cons e_spec_l15Labels_ok entsOK_nil))) (lentsOK_cons e_spec_JoinPath_L6_ok lentsOK_nil) ?_⟩
  have hq := q_spec_JoinPath x0 x1 x2 x3
  rw [c_spec_JoinPath_bind] at hq
  rw [show c_spec_JoinPath x0 x1 x2 x3 some = some y from hy] at hq
  exact hq

/-! loop.example/g00876/impl.within -/
def c_impl_within {R : Type} (x0 : Int) (x1 : Int) (x2 : Int) (k : Bool → Option R) : Option R :=
 bif Decidable.decide (x1 ≤ x0) then
 k (Decidable.decide (x0 ≤ x2))
 else
 k Bool.false
theorem c_impl_within_bind {R : Type} (x0 : Int) (x1 : Int) (x2 : Int) (k : Bool → Option R) : c_impl_within x0 x1 x2 k = (c_impl_within x0 x1 x2 some).bind k := by
  unfold c_impl_within
  repeat' first
    | exact bnd_tail
    | exact bnd_none
    | exact bnd_leaf
    | apply bnd_ite
    | apply bnd_cond
    | apply bnd_sum
    | (apply bnd_bind; intro _)
    | intro _
def impl_within (x0 : Int) (x1 : Int) (x2 : Int) : Option (Bool) := c_impl_within x0 x1 x2 some
def e_impl_within : Ent := ⟨55, [.int .i64, .int .i64, .int .i64], .bool, [.undef, .undef, .undef], fun _ ds k => dI (fun x0 ds => dI (fun x1 ds => dI (fun x2 ds => dE ((impl_within x0 x1 x2).bind (fun y => k [.B y])) ds) ds) ds) ds⟩
theorem q_impl_within (x0 : Int) (x1 : Int) (x2 : Int) : runFn (ocOf []) (olOf []) A 55 Go.Proofs.Try.f55 (Sh.mks e_impl_within.sh [.I x0, .I x1, .I x2]).1 (fun v os => some (v, os)) = c_impl_within x0 x1 x2 (fun y => some ((e_impl_within.res.mk [.B y]).1, (Sh.mks e_impl_within.outs (e_impl_within.res.mk [.B y]).2).1)) := by kernel_rfl
theorem e_impl_within_ok : e_impl_within.ok Go.Proofs.Try.prog A := by
  intro R ds k r h
  unfold e_impl_within at h
  obtain ⟨x0, d0, rfl, h0⟩ := dI_some h
  obtain ⟨x1, d1, rfl, h1⟩ := dI_some h0
  obtain ⟨x2, d2, rfl, h2⟩ := dI_some h1
  obtain ⟨rfl, hE⟩ := dE_some h2
  obtain ⟨y, hy, hk⟩ := bnd_some hE
  refine ⟨_, hk, fn_ok px (fx := ⟨Go.Proofs.Try.func55, by kernel_rfl, by kernel_rfl⟩) entsOK_nil lentsOK_nil ?_⟩
  have hq := q_impl_within x0 x1 x2
  rw [c_impl_within_bind] at hq
  rw [show c_impl_within x0 x1 x2 some = some y from hy] at hq
  exact hq

/-! loop.example/g00876/impl.isNumber -/
def c_impl_isNumber {R : Type} (x0 : Int) (k : Bool → Option R) : Option R :=
 (impl_within x0 (1 : Int) (999 : Int)).bind (fun y0 =>
 k y0)
theorem c_impl_isNumber_bind {R : Type} (x0 : Int) (k : Bool → Option R) : c_impl_isNumber x0 k = (c_impl_isNumber x0 some).bind k := by
  unfold c_impl_isNumber
  repeat' first
    | exact bnd_tail
    | exact bnd_none
    | exact bnd_leaf
    | apply bnd_ite
    | apply bnd_cond
    | apply bnd_sum
    | (apply bnd_bind; intro _)
    | intro _
def impl_isNumber (x0 : Int) : Option (Bool) := c_impl_isNumber x0 some
def e_impl_isNumber : Ent := ⟨54, [.int .i64], .bool, [.undef], fun _ ds k => dI (fun x0 ds => dE ((impl_isNumber x0).bind (fun y => k [.B y])) ds) ds⟩
theorem q_impl_isNumber (x0 : Int) : runFn (ocOf [e_impl_within]) (olOf []) A 54 Go.Proofs.Try.f54 (Sh.mks e_impl_isNumber.sh [.I x0]).1 (fun v os => some (v, os)) = c_impl_isNumber x0 (fun y => some ((e_impl_isNumber.res.mk [.B y]).1, (Sh.mks e_impl_isNumber.outs (e_impl_isNumber.res.mk [.B y]).2).1)) := by kernel_rfl
theorem e_impl_isNumber_ok : e_impl_isNumber.ok Go.Proofs.Try.prog A := by
  intro R ds k r h
  unfold e_impl_isNumber at h
  obtain ⟨x0, d0, rfl, h0⟩ := dI_some h
  obtain ⟨rfl, hE⟩ := dE_some h0
  obtain ⟨y, hy, hk⟩ := bnd_some hE
  refine ⟨_, hk, fn_ok px (fx := ⟨Go.Proofs.Try.func54, by kernel_rfl, by kernel_rfl⟩) (entsOK_cons e_impl_within_ok entsOK_nil) lentsOK_nil ?_⟩
  have hq := q_impl_isNumber x0
  rw [c_impl_isNumber_bind] at hq
  rw [show c_impl_isNumber x0 some = some y from hy] at hq
  exact hq

/-! loop.example/g00876/impl.IsValidSherds, loop 2 -/
def c_impl_IsValidSherds_L2 {R : Type} (F : List D → List D → List D → Int → Int → Option ((List D × List D × Bool) ⊕ (List D × List D))) (x0 : List D) (x1 : List D) (x2 : List D) (x3 : Int) (x4 : Int) (k : (List D × List D × Bool) ⊕ (List D × List D) → Option R) : Option R :=
 bif Decidable.decide (x4 < x3) then
 if (0 : Int) ≤ x4 ∧ x4 < (↑x2.length : Int) then
 (impl_isNumber (((x2.getD x4.toNat (Go.Rai.D.int (0 : Int))).fld (0 : Nat)).toInt)).bind (fun y0 =>
 bif !y0 then
 k (.inl (x0, x1, Bool.false))
 else
 (impl_within (((x2.getD x4.toNat (Go.Rai.D.int (0 : Int))).fld (1 : Nat)).toInt) (0 : Int) (9 : Int)).bind (fun y1 =>
 bif !y1 then
 k (.inl (x0, x1, Bool.false))
 else
 (impl_within (((x2.getD x4.toNat (Go.Rai.D.int (0 : Int))).fld (2 : Nat)).toInt) (0 : Int) (3599 : Int)).bind (fun y2 =>
 bif !y2 then
 k (.inl (x0, x1, Bool.false))
 else
 (impl_within (((x2.getD x4.toNat (Go.Rai.D.int (0 : Int))).fld (3 : Nat)).toInt) (1 : Int) (3600 : Int)).bind (fun y3 =>
 bif !y3 then
 k (.inl (x0, x1, Bool.false))
 else
 (F x0 x1 x2 x3 (Go.IntKind.i64.wrap (x4 + (1 : Int)))).bind k))))
 else
 none
 else
 k (.inr (x0, x1))
theorem c_impl_IsValidSherds_L2_bind {R : Type} (F : List D → List D → List D → Int → Int → Option ((List D × List D × Bool) ⊕ (List D × List D))) (x0 : List D) (x1 : List D) (x2 : List D) (x3 : Int) (x4 : Int) (k : (List D × List D × Bool) ⊕ (List D × List D) → Option R) : c_impl_IsValidSherds_L2 F x0 x1 x2 x3 x4 k = (c_impl_IsValidSherds_L2 F x0 x1 x2 x3 x4 some).bind k := by
  unfold c_impl_IsValidSherds_L2
  repeat' first
    | exact bnd_tail
    | exact bnd_none
    | exact bnd_leaf
    | apply bnd_ite
    | apply bnd_cond
    | apply bnd_sum
    | (apply bnd_bind; intro _)
    | intro _
def n_impl_IsValidSherds_L2 : Nat → List D → List D → List D → Int → Int → Option ((List D × List D × Bool) ⊕ (List D × List D))
 | 0, _, _, _, _, _ => none
 | n + 1, x0, x1, x2, x3, x4 => c_impl_IsValidSherds_L2 (n_impl_IsValidSherds_L2 n) x0 x1 x2 x3 x4 some
noncomputable def impl_IsValidSherds_L2 (x0 : List D) (x1 : List D) (x2 : List D) (x3 : Int) (x4 : Int) : Option ((List D × List D × Bool) ⊕ (List D × List D)) := ev (fun n => n_impl_IsValidSherds_L2 n x0 x1 x2 x3 x4)
def m_impl_IsValidSherds_L2 (F : List D → List D → List D → Int → Int → Option ((List D × List D × Bool) ⊕ (List D × List D))) : Lent := ⟨2, ⟨[.rd (.struct [.int .i64, .int .i64, .int .i64, .int .i64]), .rd (.struct [.int .i64, .int .i64]), .undef, .undef, .undef, .undef, .undef, .undef, .undef, .rd (.struct [.int .i64, .int .i64, .int .i64, .int .i64]), .int .i64, .int .i64, .undef, .undef, .undef, .undef, .undef, .undef, .undef, .undef, .undef, .undef, .undef, .undef, .undef, .undef, .undef, .undef, .undef, .undef, .undef, .undef, .undef, .undef, .undef, .undef, .undef, .undef, .undef, .undef, .undef, .undef, .undef, .undef, .undef, .undef, .undef, .undef, .undef, .undef, .undef, .undef, .undef, .undef, .undef, .undef, .undef, .undef, .undef, .undef, .undef, .undef, .undef, .undef, .undef, .undef, .undef, .undef, .undef, .undef, .undef, .undef, .undef, .undef, .undef, .undef, .undef, .undef, .undef, .undef, .undef, .undef, .undef, .undef, .undef, .undef, .undef, .undef, .undef, .undef, .undef, .undef, .undef, .undef, .undef, .undef], []⟩, [(.ret, ⟨[.rd (.struct [.int .i64, .int .i64, .int .i64, .int .i64]), .rd (.struct [.int .i64, .int .i64]), .undef, .undef, .bool, .undef, .undef, .undef, .undef, .undef, .undef, .undef, .undef, .undef, .undef, .undef, .undef, .undef, .undef, .undef, .undef, .undef, .undef, .undef, .undef, .undef, .undef, .undef, .undef, .undef, .undef, .undef, .undef, .undef, .undef, .undef, .undef, .undef, .undef, .undef, .undef, .undef, .undef, .undef, .undef, .undef, .undef, .undef, .undef, .undef, .undef, .undef, .undef, .undef, .undef, .undef, .undef, .undef, .undef, .undef, .undef, .undef, .undef, .undef, .undef, .undef, .undef, .undef, .undef, .undef, .undef, .undef, .undef, .undef, .undef, .undef, .undef, .undef, .undef, .undef, .undef, .undef, .undef, .undef, .undef, .undef, .undef, .undef, .undef, .undef, .undef, .undef, .undef, .undef, .undef, .undef], []⟩), (.exit 0, ⟨[.rd (.struct [.int .i64, .int .i64, .int .i64, .int .i64]), .rd (.struct [.int .i64, .int .i64]), .undef, .undef, .undef, .undef, .undef, .undef, .undef, .undef, .undef, .undef, .undef, .undef, .undef, .undef, .undef, .undef, .undef, .undef, .undef, .undef, .undef, .undef, .undef, .undef, .undef, .undef, .undef, .undef, .undef, .undef, .undef, .undef, .undef, .undef, .undef, .undef, .undef, .undef, .undef, .undef, .undef, .undef, .undef, .undef, .undef, .undef, .undef, .undef, .undef, .undef, .undef, .undef, .undef, .undef, .undef, .undef, .undef, .undef, .undef, .undef, .undef, .undef, .undef, .undef, .undef, .undef, .undef, .undef, .undef, .undef, .undef, .undef, .undef, .undef, .undef, .undef, .undef, .undef, .undef, .undef, .undef, .undef, .undef, .undef, .undef, .undef, .undef, .undef, .undef, .undef, .undef, .undef, .undef, .undef], []⟩)], fun _ ds k => dL (fun x0 ds => dL (fun x1 ds => dL (fun x2 ds => dI (fun x3 ds => dI (fun x4 ds => dE ((F x0 x1 x2 x3 x4).bind (Sum.elim (fun y => k 0 [.L y.1, .L y.2.1, .B y.2.2]) (fun y => k 1 [.L y.1, .L y.2]))) ds) ds) ds) ds) ds) ds⟩
theorem q_impl_IsValidSherds_L2 (F : List D → List D → List D → Int → Int → Option ((List D × List D × Bool) ⊕ (List D × List D))) (x0 : List D) (x1 : List D) (x2 : List D) (x3 : Int) (x4 : Int) : runLoop (ocOf [e_impl_isNumber, e_impl_within]) (olOf [m_impl_IsValidSherds_L2 F]) A 19 (codeAt (bodyOf Go.Proofs.Try.f19) 2) ((m_impl_IsValidSherds_L2 F).sh.mk' [.L x0, .L x1, .L x2, .I x3, .I x4]) (fun e σ' => some (e, σ')) = c_impl_IsValidSherds_L2 F x0 x1 x2 x3 x4 (Sum.elim (fun y => some (.ret, SSt.mk' ⟨[.rd (.struct [.int .i64, .int .i64, .int .i64, .int .i64]), .rd (.struct [.int .i64, .int .i64]), .undef, .undef, .bool, .undef, .undef, .undef, .undef, .undef, .undef, .undef, .undef, .undef, .undef, .undef, .undef, .undef, .undef, .undef, .undef, .undef, .undef, .undef, .undef, .undef, .undef, .undef, .undef, .undef, .undef, .undef, .undef, .undef, .undef, .undef, .undef, .undef, .undef, .undef, .undef, .undef, .undef, .undef, .undef, .undef, .undef, .undef, .undef, .undef, .undef, .undef, .undef, .undef, .undef, .undef, .undef, .undef, .undef, .undef, .undef, .undef, .undef, .undef, .undef, .undef, .undef, .undef, .undef, .undef, .undef, .undef, .undef, .undef, .undef, .undef, .undef, .undef, .undef, .undef, .undef, .undef, .undef, .undef, .undef, .undef, .undef, .undef, .undef, .undef, .undef, .undef, .undef, .undef, .undef, .undef], []⟩ [.L y.1, .L y.2.1, .B y.2.2])) (fun y => some (.exit 0, SSt.mk' ⟨[.rd (.struct [.int .i64, .int .i64, .int .i64, .int .i64]), .rd (.struct [.int .i64, .int .i64]), .undef, .undef, .undef, .undef, .undef, .undef, .undef, .undef, .undef, .undef, .undef, .undef, .undef, .undef, .undef, .undef, .undef, .undef, .undef, .undef, .undef, .undef, .undef, .undef, .undef, .undef, .undef, .undef, .undef, .undef, .undef, .undef, .undef, .undef, .undef, .undef, .undef, .undef, .undef, .undef, .undef, .undef, .undef, .undef, .undef, .undef, .undef, .undef, .undef, .undef, .undef, .undef, .undef, .undef, .undef, .undef, .undef, .undef, .undef, .undef, .undef, .undef, .undef, .undef, .undef, .undef, .undef, .undef, .undef, .undef, .undef, .undef, .undef, .undef, .undef, .undef, .undef, .undef, .undef, .undef, .undef, .undef, .undef, .undef, .undef, .undef, .undef, .undef, .undef, .undef, .undef, .undef, .undef, .undef], []⟩ [.L y.1, .L y.2]))) := by kernel_rfl
theorem m_impl_IsValidSherds_L2_ok : ∀ n, (m_impl_IsValidSherds_L2 (n_impl_IsValidSherds_L2 n)).ok Go.Proofs.Try.prog (codeAt (bodyOf Go.Proofs.Try.f19) 2) := by
  intro n
  induction n with
  | zero =>
    intro R ds k r h
    unfold m_impl_IsValidSherds_L2 at h
    obtain ⟨x0, d0, rfl, h0⟩ := dL_some h
    obtain ⟨x1, d1, rfl, h1⟩ := dL_some h0
    obtain ⟨x2, d2, rfl, h2⟩ := dL_some h1
    obtain ⟨x3, d3, rfl, h3⟩ := dI_some h2
    obtain ⟨x4, d4, rfl, h4⟩ := dI_some h3
    obtain ⟨rfl, hE⟩ := dE_some h4
    obtain ⟨y, hy, hk⟩ := bnd_some hE
    cases hy
  | succ n ih =>
    intro R ds k r h
    unfold m_impl_IsValidSherds_L2 at h
    obtain ⟨x0, d0, rfl, h0⟩ := dL_some h
    obtain ⟨x1, d1, rfl, h1⟩ := dL_some h0
    obtain ⟨x2, d2, rfl, h2⟩ := dL_some h1
    obtain ⟨x3, d3, rfl, h3⟩ := dI_some h2
    obtain ⟨x4, d4, rfl, h4⟩ := dI_some h3
    obtain ⟨rfl, hE⟩ := dE_some h4
    obtain ⟨y, hy, hk⟩ := bnd_some hE
    have hq := q_impl_IsValidSherds_L2 (n_impl_IsValidSherds_L2 n) x0 x1 x2 x3 x4
    rw [c_impl_IsValidSherds_L2_bind] at hq
    rw [show c_impl_IsValidSherds_L2 (n_impl_IsValidSherds_L2 n) x0 x1 x2 x3 x4 some = some y from hy] at hq
    cases y with
    | inl y =>
      refine ⟨0, _, _, _, hk, rfl, loop_ok px (fx := ⟨Go.Proofs.Try.func19, by kernel_rfl, by kernel_rfl⟩) (entsOK_cons e_impl_isNumber_ok (entsOK_cons e_impl_within_ok entsOK_nil)) (lentsOK_cons ih lentsOK_nil) (by kernel_rfl) ?_⟩
      exact hq
    | inr y =>
      refine ⟨1, _, _, _, hk, rfl, loop_ok px (fx := ⟨Go.Proofs.Try.func19, by kernel_rfl, by kernel_rfl⟩) (entsOK_cons e_impl_isNumber_ok (entsOK_cons e_impl_within_ok entsOK_nil)) (lentsOK_cons ih lentsOK_nil) (by kernel_rfl) ?_⟩
      exact hq
noncomputable def e_impl_IsValidSherds_L2 : Lent := m_impl_IsValidSherds_L2 (impl_IsValidSherds_L2)
theorem e_impl_IsValidSherds_L2_ok : (e_impl_IsValidSherds_L2).ok Go.Proofs.Try.prog (codeAt (bodyOf Go.Proofs.Try.f19) 2) := by
  intro R ds k r h
  unfold e_impl_IsValidSherds_L2 m_impl_IsValidSherds_L2 at h
  obtain ⟨x0, d0, rfl, h0⟩ := dL_some h
  obtain ⟨x1, d1, rfl, h1⟩ := dL_some h0
  obtain ⟨x2, d2, rfl, h2⟩ := dL_some h1
  obtain ⟨x3, d3, rfl, h3⟩ := dI_some h2
  obtain ⟨x4, d4, rfl, h4⟩ := dI_some h3
  obtain ⟨rfl, hE⟩ := dE_some h4
  obtain ⟨y, hy, hk⟩ := bnd_some hE
  obtain ⟨n, hn⟩ := ev_some hy
  exact m_impl_IsValidSherds_L2_ok n R _ k r (show (n_impl_IsValidSherds_L2 n x0 x1 x2 x3 x4).bind _ = _ by rw [hn]; exact hk)

/-! cmp.isNaN[int] -/
def c_cmp_isNaN {R : Type} (x0 : Int) (k : Bool → Option R) : Option R :=
 k (!Decidable.decide (x0 = x0))
theorem c_cmp_isNaN_bind {R : Type} (x0 : Int) (k : Bool → Option R) : c_cmp_isNaN x0 k = (c_cmp_isNaN x0 some).bind k := by
  unfold c_cmp_isNaN
  repeat' first
    | exact bnd_tail
    | exact bnd_none
    | exact bnd_leaf
    | apply bnd_ite
    | apply bnd_cond
    | apply bnd_sum
    | (apply bnd_bind; intro _)
    | intro _
def cmp_isNaN (x0 : Int) : Option (Bool) := c_cmp_isNaN x0 some
def e_cmp_isNaN : Ent := ⟨82, [.int .i64], .bool, [.undef], fun _ ds k => dI (fun x0 ds => dE ((cmp_isNaN x0).bind (fun y => k [.B y])) ds) ds⟩
theorem q_cmp_isNaN (x0 : Int) : runFn (ocOf []) (olOf []) A 82 Go.Proofs.Try.f82 (Sh.mks e_cmp_isNaN.sh [.I x0]).1 (fun v os => some (v, os)) = c_cmp_isNaN x0 (fun y => some ((e_cmp_isNaN.res.mk [.B y]).1, (Sh.mks e_cmp_isNaN.outs (e_cmp_isNaN.res.mk [.B y]).2).1)) := by kernel_rfl
theorem e_cmp_isNaN_ok : e_cmp_isNaN.ok Go.Proofs.Try.prog A := by
  intro R ds k r h
  unfold e_cmp_isNaN at h
  obtain ⟨x0, d0, rfl, h0⟩ := dI_some h
  obtain ⟨rfl, hE⟩ := dE_some h0
  obtain ⟨y, hy, hk⟩ := bnd_some hE
  refine ⟨_, hk, fn_ok px (fx := ⟨Go.Proofs.Try.func82, by kernel_rfl, by kernel_rfl⟩) entsOK_nil lentsOK_nil ?_⟩
  have hq := q_cmp_isNaN x0
  rw [c_cmp_isNaN_bind] at hq
  rw [show c_cmp_isNaN x0 some = some y from hy] at hq
  exact hq

/-! cmp.Compare[int] -/
def c_cmp_Compare {R : Type} (x0 : Int) (x1 : Int) (k : Int → Option R) : Option R :=
 (cmp_isNaN x0).bind (fun y0 =>
 (cmp_isNaN x1).bind (fun y1 =>
 bif y0 then
 bif y1 then
 k (0 : Int)
 else
 k (-1 : Int)
 else
 bif y1 then
 k (1 : Int)
 else
 bif Decidable.decide (x0 < x1) then
 k (-1 : Int)
 else
 bif Decidable.decide (x1 < x0) then
 k (1 : Int)
 else
 k (0 : Int)))
theorem c_cmp_Compare_bind {R : Type} (x0 : Int) (x1 : Int) (k : Int → Option R) : c_cmp_Compare x0 x1 k = (c_cmp_Compare x0 x1 some).bind k := by
  unfold c_cmp_Compare
  repeat' first
    | exact bnd_tail
    | exact bnd_none
    | exact bnd_leaf
    | apply bnd_ite
    | apply bnd_cond
    | apply bnd_sum
    | (apply bnd_bind; intro _)
    | intro _
def cmp_Compare (x0 : Int) (x1 : Int) : Option (Int) := c_cmp_Compare x0 x1 some
def e_cmp_Compare : Ent := ⟨57, [.int .i64, .int .i64], .int .i64, [.undef, .undef], fun _ ds k => dI (fun x0 ds => dI (fun x1 ds => dE ((cmp_Compare x0 x1).bind (fun y => k [.I y])) ds) ds) ds⟩
theorem q_cmp_Compare (x0 : Int) (x1 : Int) : runFn (ocOf [e_cmp_isNaN]) (olOf []) A 57 Go.Proofs.Try.f57 (Sh.mks e_cmp_Compare.sh [.I x0, .I x1]).1 (fun v os => some (v, os)) = c_cmp_Compare x0 x1 (fun y => some ((e_cmp_Compare.res.mk [.I y]).1, (Sh.mks e_cmp_Compare.outs (e_cmp_Compare.res.mk [.I y]).2).1)) := by kernel_rfl
theorem e_cmp_Compare_ok : e_cmp_Compare.ok Go.Proofs.Try.prog A := by
  intro R ds k r h
  unfold e_cmp_Compare at h
  obtain ⟨x0, d0, rfl, h0⟩ := dI_some h
  obtain ⟨x1, d1, rfl, h1⟩ := dI_some h0
  obtain ⟨rfl, hE⟩ := dE_some h1
  obtain ⟨y, hy, hk⟩ := bnd_some hE
  refine ⟨_, hk, fn_ok px (fx := ⟨Go.Proofs.Try.func57, by kernel_rfl, by kernel_rfl⟩) (entsOK_cons e_cmp_isNaN_ok entsOK_nil) lentsOK_nil ?_⟩
  have hq := q_cmp_Compare x0 x1
  rw [c_cmp_Compare_bind] at hq
  rw [show c_cmp_Compare x0 x1 some = some y from hy] at hq
  exact hq

/-! cmp.Or[int], loop 3 -/
def c_cmp_Or_L3 {R : Type} (F : Int → List D → Int → Int → Option ((Int × Int) ⊕ (Int))) (x0 : Int) (x1 : List D) (x2 : Int) (x3 : Int) (k : (Int × Int) ⊕ (Int) → Option R) : Option R :=
 bif Decidable.decide (x3 < x2) then
 if (0 : Int) ≤ x3 ∧ x3 < (↑x1.length : Int) then
 bif !Decidable.decide ((x1.getD x3.toNat (Go.Rai.D.int (0 : Int))).toInt = x0) then
 k (.inl ((x1.getD x3.toNat (Go.Rai.D.int (0 : Int))).toInt, x0))
 else
 (F x0 x1 x2 (Go.IntKind.i64.wrap (x3 + (1 : Int)))).bind k
 else
 none
 else
 k (.inr x0)
theorem c_cmp_Or_L3_bind {R : Type} (F : Int → List D → Int → Int → Option ((Int × Int) ⊕ (Int))) (x0 : Int) (x1 : List D) (x2 : Int) (x3 : Int) (k : (Int × Int) ⊕ (Int) → Option R) : c_cmp_Or_L3 F x0 x1 x2 x3 k = (c_cmp_Or_L3 F x0 x1 x2 x3 some).bind k := by
  unfold c_cmp_Or_L3
  repeat' first
    | exact bnd_tail
    | exact bnd_none
    | exact bnd_leaf
    | apply bnd_ite
    | apply bnd_cond
    | apply bnd_sum
    | (apply bnd_bind; intro _)
    | intro _
def n_cmp_Or_L3 : Nat → Int → List D → Int → Int → Option ((Int × Int) ⊕ (Int))
 | 0, _, _, _, _ => none
 | n + 1, x0, x1, x2, x3 => c_cmp_Or_L3 (n_cmp_Or_L3 n) x0 x1 x2 x3 some
noncomputable def cmp_Or_L3 (x0 : Int) (x1 : List D) (x2 : Int) (x3 : Int) : Option ((Int × Int) ⊕ (Int)) := ev (fun n => n_cmp_Or_L3 n x0 x1 x2 x3)
def m_cmp_Or_L3 (F : Int → List D → Int → Int → Option ((Int × Int) ⊕ (Int))) : Lent := ⟨3, ⟨[.undef, .undef, .undef, .int .i64, .undef, .undef, .rd (.int .i64), .int .i64, .int .i64, .undef, .undef, .undef, .undef, .undef, .undef, .undef, .undef, .undef], []⟩, [(.ret, ⟨[.undef, .undef, .int .i64, .int .i64, .undef, .undef, .undef, .undef, .undef, .undef, .undef, .undef, .undef, .undef, .undef, .undef, .undef, .undef], []⟩), (.exit 0, ⟨[.undef, .undef, .undef, .int .i64, .undef, .undef, .undef, .undef, .undef, .undef, .undef, .undef, .undef, .undef, .undef, .undef, .undef, .undef], []⟩)], fun _ ds k => dI (fun x0 ds => dL (fun x1 ds => dI (fun x2 ds => dI (fun x3 ds => dE ((F x0 x1 x2 x3).bind (Sum.elim (fun y => k 0 [.I y.1, .I y.2]) (fun y => k 1 [.I y]))) ds) ds) ds) ds) ds⟩
theorem q_cmp_Or_L3 (F : Int → List D → Int → Int → Option ((Int × Int) ⊕ (Int))) (x0 : Int) (x1 : List D) (x2 : Int) (x3 : Int) : runLoop (ocOf []) (olOf [m_cmp_Or_L3 F]) A 56 (codeAt (bodyOf Go.Proofs.Try.f56) 3) ((m_cmp_Or_L3 F).sh.mk' [.I x0, .L x1, .I x2, .I x3]) (fun e σ' => some (e, σ')) = c_cmp_Or_L3 F x0 x1 x2 x3 (Sum.elim (fun y => some (.ret, SSt.mk' ⟨[.undef, .undef, .int .i64, .int .i64, .undef, .undef, .undef, .undef, .undef, .undef, .undef, .undef, .undef, .undef, .undef, .undef, .undef, .undef], []⟩ [.I y.1, .I y.2])) (fun y => some (.exit 0, SSt.mk' ⟨[.undef, .undef, .undef, .int .i64, .undef, .undef, .undef, .undef, .undef, .undef, .undef, .undef, .undef, .undef, .undef, .undef, .undef, .undef], []⟩ [.I y]))) := by kernel_rfl
theorem m_cmp_Or_L3_ok : ∀ n, (m_cmp_Or_L3 (n_cmp_Or_L3 n)).ok Go.Proofs.Try.prog (codeAt (bodyOf Go.Proofs.Try.f56) 3) := by
  intro n
  induction n with
  | zero =>
    intro R ds k r h
    unfold m_cmp_Or_L3 at h
    obtain ⟨x0, d0, rfl, h0⟩ := dI_some h
    obtain ⟨x1, d1, rfl, h1⟩ := dL_some h0
    obtain ⟨x2, d2, rfl, h2⟩ := dI_some h1
    obtain ⟨x3, d3, rfl, h3⟩ := dI_some h2
    obtain ⟨rfl, hE⟩ := dE_some h3
    obtain ⟨y, hy, hk⟩ := bnd_some hE
    cases hy
  | succ n ih =>
    intro R ds k r h
    unfold m_cmp_Or_L3 at h
    obtain ⟨x0, d0, rfl, h0⟩ := dI_some h
    obtain ⟨x1, d1, rfl, h1⟩ := dL_some h0
    obtain ⟨x2, d2, rfl, h2⟩ := dI_some h1
    obtain ⟨x3, d3, rfl, h3⟩ := dI_some h2
    obtain ⟨rfl, hE⟩ := dE_some h3
    obtain ⟨y, hy, hk⟩ := bnd_some hE
    have hq := q_cmp_Or_L3 (n_cmp_Or_L3 n) x0 x1 x2 x3
    rw [c_cmp_Or_L3_bind] at hq
    rw [show c_cmp_Or_L3 (n_cmp_Or_L3 n) x0 x1 x2 x3 some = some y from hy] at hq
    cases y with
    | inl y =>
      refine ⟨0, _, _, _, hk, rfl, loop_ok px (fx := ⟨Go.Proofs.Try.func56, by kernel_rfl, by kernel_rfl⟩) entsOK_nil (lentsOK_cons ih lentsOK_nil) (by kernel_rfl) ?_⟩
      exact hq
    | inr y =>
      refine ⟨1, _, _, _, hk, rfl, loop_ok px (fx := ⟨Go.Proofs.Try.func56, by kernel_rfl, by kernel_rfl⟩) entsOK_nil (lentsOK_cons ih lentsOK_nil) (by kernel_rfl) ?_⟩
      exact hq
noncomputable def e_cmp_Or_L3 : Lent := m_cmp_Or_L3 (cmp_Or_L3)
theorem e_cmp_Or_L3_ok : (e_cmp_Or_L3).ok Go.Proofs.Try.prog (codeAt (bodyOf Go.Proofs.Try.f56) 3) := by
  intro R ds k r h
  unfold e_cmp_Or_L3 m_cmp_Or_L3 at h
  obtain ⟨x0, d0, rfl, h0⟩ := dI_some h
  obtain ⟨x1, d1, rfl, h1⟩ := dL_some h0
  obtain ⟨x2, d2, rfl, h2⟩ := dI_some h1
  obtain ⟨x3, d3, rfl, h3⟩ := dI_some h2
  obtain ⟨rfl, hE⟩ := dE_some h3
  obtain ⟨y, hy, hk⟩ := bnd_some hE
  obtain ⟨n, hn⟩ := ev_some hy
  exact m_cmp_Or_L3_ok n R _ k r (show (n_cmp_Or_L3 n x0 x1 x2 x3).bind _ = _ by rw [hn]; exact hk)

/-! cmp.Or[int] -/
def c_cmp_Or {R : Type} (x0 : List D) (k : Int → Option R) : Option R :=
 (cmp_Or_L3 (0 : Int) x0 (↑x0.length : Int) (0 : Int)).bind (Sum.elim (fun y0 =>
 k y0.fst) (fun y1 =>
 k y1))
theorem c_cmp_Or_bind {R : Type} (x0 : List D) (k : Int → Option R) : c_cmp_Or x0 k = (c_cmp_Or x0 some).bind k := by
  unfold c_cmp_Or
  repeat' first
    | exact bnd_tail
    | exact bnd_none
    | exact bnd_leaf
    | apply bnd_ite
    | apply bnd_cond
    | apply bnd_sum
    | (apply bnd_bind; intro _)
    | intro _
def cmp_Or (x0 : List D) : Option (Int) := c_cmp_Or x0 some
def e_cmp_Or : Ent := ⟨56, [.rd (.int .i64)], .int .i64, [.undef], fun _ ds k => dL (fun x0 ds => dE ((cmp_Or x0).bind (fun y => k [.I y])) ds) ds⟩
theorem q_cmp_Or (x0 : List D) : runFn (ocOf []) (olOf [e_cmp_Or_L3]) A 56 Go.Proofs.Try.f56 (Sh.mks e_cmp_Or.sh [.L x0]).1 (fun v os => some (v, os)) = c_cmp_Or x0 (fun y => some ((e_cmp_Or.res.mk [.I y]).1, (Sh.mks e_cmp_Or.outs (e_cmp_Or.res.mk [.I y]).2).1)) := by kernel_rfl
theorem e_cmp_Or_ok : e_cmp_Or.ok Go.Proofs.Try.prog A := by
  intro R ds k r h
  unfold e_cmp_Or at h
  obtain ⟨x0, d0, rfl, h0⟩ := dL_some h
  obtain ⟨rfl, hE⟩ := dE_some h0
  obtain ⟨y, hy, hk⟩ := bnd_some hE
  refine ⟨_, hk, fn_ok px (fx := ⟨Go.Proofs.Try.func56, by kernel_rfl, by kernel_rfl⟩) entsOK_nil (lentsOK_cons e_cmp_Or_L3_ok lentsOK_nil) ?_⟩
  have hq := q_cmp_Or x0
  rw [c_cmp_Or_bind] at hq
  rw [show c_cmp_Or x0 some = some y from hy] at hq
  exact hq

/-! loop.example/g00876/impl.IsValidSherds, loop 8 -/
def c_impl_IsValidSherds_L8 {R : Type} (F : List D → List D → List D → Int → Int → Option ((List D × List D × Bool) ⊕ (List D × List D))) (x0 : List D) (x1 : List D) (x2 : List D) (x3 : Int) (x4 : Int) (k : (List D × List D × Bool) ⊕ (List D × List D) → Option R) : Option R :=
 bif Decidable.decide (x4 < x3) then
 if (0 : Int) ≤ x4 ∧ x4 < (↑x2.length : Int) then
 bif Decidable.decide (((x2.getD x4.toNat (Go.Rai.D.int (0 : Int))).fld (0 : Nat)).toInt < (0 : Int)) then
 k (.inl (x0, x1, Bool.false))
 else
 bif Decidable.decide ((↑x0.length : Int) ≤ ((x2.getD x4.toNat (Go.Rai.D.int (0 : Int))).fld (1 : Nat)).toInt) then
 k (.inl (x0, x1, Bool.false))
 else
 bif Decidable.decide (((x2.getD x4.toNat (Go.Rai.D.int (0 : Int))).fld (1 : Nat)).toInt ≤ ((x2.getD x4.toNat (Go.Rai.D.int (0 : Int))).fld (0 : Nat)).toInt) then
 k (.inl (x0, x1, Bool.false))
 else
 bif Decidable.decide ((0 : Int) < x4) then
 if (0 : Int) ≤ Go.IntKind.i64.wrap (x4 - (1 : Int)) ∧ Go.IntKind.i64.wrap (x4 - (1 : Int)) < (↑x1.length : Int) then
 (cmp_Compare (((x1.getD (Go.IntKind.i64.wrap (x4 - (1 : Int))).toNat (Go.Rai.D.int (0 : Int))).fld (0 : Nat)).toInt) (((x2.getD x4.toNat (Go.Rai.D.int (0 : Int))).fld (0 : Nat)).toInt)).bind (fun y0 =>
 if (0 : Int) ≤ Go.IntKind.i64.wrap (x4 - (1 : Int)) ∧ Go.IntKind.i64.wrap (x4 - (1 : Int)) < (↑x1.length : Int) then
 (cmp_Compare (((x1.getD (Go.IntKind.i64.wrap (x4 - (1 : Int))).toNat (Go.Rai.D.int (0 : Int))).fld (1 : Nat)).toInt) (((x2.getD x4.toNat (Go.Rai.D.int (0 : Int))).fld (1 : Nat)).toInt)).bind (fun y1 =>
 (cmp_Or ([Go.Rai.D.int y0, Go.Rai.D.int y1])).bind (fun y2 =>
 bif Decidable.decide ((0 : Int) ≤ y2) then
 k (.inl (x0, x1, Bool.false))
 else
 (F x0 x1 x2 x3 (Go.IntKind.i64.wrap (x4 + (1 : Int)))).bind k))
 else
 none)
 else
 none
 else
 (F x0 x1 x2 x3 (Go.IntKind.i64.wrap (x4 + (1 : Int)))).bind k
 else
 none
 else
 k (.inr (x0, x1))
theorem c_impl_IsValidSherds_L8_bind {R : Type} (F : List D → List D → List D → Int → Int → Option ((List D × List D × Bool) ⊕ (List D × List D))) (x0 : List D) (x1 : List D) (x2 : List D) (x3 : Int) (x4 : Int) (k : (List D × List D × Bool) ⊕ (List D × List D) → Option R) : c_impl_IsValidSherds_L8 F x0 x1 x2 x3 x4 k = (c_impl_IsValidSherds_L8 F x0 x1 x2 x3 x4 some).bind k := by
  unfold c_impl_IsValidSherds_L8
  repeat' first
    | exact bnd_tail
    | exact bnd_none
    | exact bnd_leaf
    | apply bnd_ite
    | apply bnd_cond
    | apply bnd_sum
    | (apply bnd_bind; intro _)
    | intro _
def n_impl_IsValidSherds_L8 : Nat → List D → List D → List D → Int → Int → Option ((List D × List D × Bool) ⊕ (List D × List D))
 | 0, _, _, _, _, _ => none
 | n + 1, x0, x1, x2, x3, x4 => c_impl_IsValidSherds_L8 (n_impl_IsValidSherds_L8 n) x0 x1 x2 x3 x4 some
noncomputable def impl_IsValidSherds_L8 (x0 : List D) (x1 : List D) (x2 : List D) (x3 : Int) (x4 : Int) : Option ((List D × List D × Bool) ⊕ (List D × List D)) := ev (fun n => n_impl_IsValidSherds_L8 n x0 x1 x2 x3 x4)
def m_impl_IsValidSherds_L8 (F : List D → List D → List D → Int → Int → Option ((List D × List D × Bool) ⊕ (List D × List D))) : Lent := ⟨8, ⟨[.rd (.struct [.int .i64, .int .i64, .int .i64, .int .i64]), .rd (.struct [.int .i64, .int .i64]), .undef, .undef, .undef, .undef, .undef, .undef, .undef, .undef, .undef, .undef, .undef, .undef, .undef, .undef, .undef, .undef, .undef, .undef, .undef, .undef, .undef, .undef, .undef, .undef, .undef, .undef, .undef, .undef, .undef, .undef, .undef, .undef, .undef, .undef, .undef, .undef, .rd (.struct [.int .i64, .int .i64]), .int .i64, .int .i64, .undef, .undef, .undef, .undef, .undef, .undef, .undef, .undef, .undef, .undef, .undef, .undef, .undef, .undef, .undef, .undef, .undef, .undef, .undef, .undef, .undef, .undef, .undef, .undef, .undef, .undef, .undef, .undef, .undef, .undef, .undef, .undef, .undef, .undef, .undef, .undef, .undef, .undef, .undef, .undef, .undef, .undef, .undef, .undef, .undef, .undef, .undef, .undef, .undef, .undef, .undef, .undef, .undef, .undef, .undef], []⟩, [(.ret, ⟨[.rd (.struct [.int .i64, .int .i64, .int .i64, .int .i64]), .rd (.struct [.int .i64, .int .i64]), .undef, .undef, .bool, .undef, .undef, .undef, .undef, .undef, .undef, .undef, .undef, .undef, .undef, .undef, .undef, .undef, .undef, .undef, .undef, .undef, .undef, .undef, .undef, .undef, .undef, .undef, .undef, .undef, .undef, .undef, .undef, .undef, .undef, .undef, .undef, .undef, .undef, .undef, .undef, .undef, .undef, .undef, .undef, .undef, .undef, .undef, .undef, .undef, .undef, .undef, .undef, .undef, .undef, .undef, .undef, .undef, .undef, .undef, .undef, .undef, .undef, .undef, .undef, .undef, .undef, .undef, .undef, .undef, .undef, .undef, .undef, .undef, .undef, .undef, .undef, .undef, .undef, .undef, .undef, .undef, .undef, .undef, .undef, .undef, .undef, .undef, .undef, .undef, .undef, .undef, .undef, .undef, .undef, .undef], []⟩), (.exit 2, ⟨[.rd (.struct [.int .i64, .int .i64, .int .i64, .int .i64]), .rd (.struct [.int .i64, .int .i64]), .undef, .undef, .undef, .undef, .undef, .undef, .undef, .undef, .undef, .undef, .undef, .undef, .undef, .undef, .undef, .undef, .undef, .undef, .undef, .undef, .undef, .undef, .undef, .undef, .undef, .undef, .undef, .undef, .undef, .undef, .undef, .undef, .undef, .undef, .undef, .undef, .undef, .undef, .undef, .undef, .undef, .undef, .undef, .undef, .undef, .undef, .undef, .undef, .undef, .undef, .undef, .undef, .undef, .undef, .undef, .undef, .undef, .undef, .undef, .undef, .undef, .undef, .undef, .undef, .undef, .undef, .undef, .undef, .undef, .undef, .undef, .undef, .undef, .undef, .undef, .undef, .undef, .undef, .undef, .undef, .undef, .undef, .undef, .undef, .undef, .undef, .undef, .undef, .undef, .undef, .undef, .undef, .undef, .undef], []⟩)], fun _ ds k => dL (fun x0 ds => dL (fun x1 ds => dL (fun x2 ds => dI (fun x3 ds => dI (fun x4 ds => dE ((F x0 x1 x2 x3 x4).bind (Sum.elim (fun y => k 0 [.L y.1, .L y.2.1, .B y.2.2]) (fun y => k 1 [.L y.1, .L y.2]))) ds) ds) ds) ds) ds) ds⟩
theorem q_impl_IsValidSherds_L8 (F : List D → List D → List D → Int → Int → Option ((List D × List D × Bool) ⊕ (List D × List D))) (x0 : List D) (x1 : List D) (x2 : List D) (x3 : Int) (x4 : Int) : runLoop (ocOf [e_cmp_Compare, e_cmp_Or]) (olOf [m_impl_IsValidSherds_L8 F]) A 19 (codeAt (bodyOf Go.Proofs.Try.f19) 8) ((m_impl_IsValidSherds_L8 F).sh.mk' [.L x0, .L x1, .L x2, .I x3, .I x4]) (fun e σ' => some (e, σ')) = c_impl_IsValidSherds_L8 F x0 x1 x2 x3 x4 (Sum.elim (fun y => some (.ret, SSt.mk' ⟨[.rd (.struct [.int .i64, .int .i64, .int .i64, .int .i64]), .rd (.struct [.int .i64, .int .i64]), .undef, .undef, .bool, .undef, .undef, .undef, .undef, .undef, .undef, .undef, .undef, .undef, .undef, .undef, .undef, .undef, .undef, .undef, .undef, .undef, .undef, .undef, .undef, .undef, .undef, .undef, .undef, .undef, .undef, .undef, .undef, .undef, .undef, .undef, .undef, .undef, .undef, .undef, .undef, .undef, .undef, .undef, .undef, .undef, .undef, .undef, .undef, .undef, .undef, .undef, .undef, .undef, .undef, .undef, .undef, .undef, .undef, .undef, .undef, .undef, .undef, .undef, .undef, .undef, .undef, .undef, .undef, .undef, .undef, .undef, .undef, .undef, .undef, .undef, .undef, .undef, .undef, .undef, .undef, .undef, .undef, .undef, .undef, .undef, .undef, .undef, .undef, .undef, .undef, .undef, .undef, .undef, .undef, .undef], []⟩ [.L y.1, .L y.2.1, .B y.2.2])) (fun y => some (.exit 2, SSt.mk' ⟨[.rd (.struct [.int .i64, .int .i64, .int .i64, .int .i64]), .rd (.struct [.int .i64, .int .i64]), .undef, .undef, .undef, .undef, .undef, .undef, .undef, .undef, .undef, .undef, .undef, .undef, .undef, .undef, .undef, .undef, .undef, .undef, .undef, .undef, .undef, .undef, .undef, .undef, .undef, .undef, .undef, .undef, .undef, .undef, .undef, .undef, .undef, .undef, .undef, .undef, .undef, .undef, .undef, .undef, .undef, .undef, .undef, .undef, .undef, .undef, .undef, .undef, .undef, .undef, .undef, .undef, .undef, .undef, .undef, .undef, .undef, .undef, .undef, .undef, .undef, .undef, .undef, .undef, .undef, .undef, .undef, .undef, .undef, .undef, .undef, .undef, .undef, .undef, .undef, .undef, .undef, .undef, .undef, .undef, .undef, .undef, .undef, .undef, .undef, .undef, .undef, .undef, .undef, .undef, .undef, .undef, .undef, .undef], []⟩ [.L y.1, .L y.2]))) := by kernel_rfl
theorem m_impl_IsValidSherds_L8_ok : ∀ n, (m_impl_IsValidSherds_L8 (n_impl_IsValidSherds_L8 n)).ok Go.Proofs.Try.prog (codeAt (bodyOf Go.Proofs.Try.f19) 8) := by
  intro n
  induction n with
  | zero =>
    intro R ds k r h
    unfold m_impl_IsValidSherds_L8 at h
    obtain ⟨x0, d0, rfl, h0⟩ := dL_some h
    obtain ⟨x1, d1, rfl, h1⟩ := dL_some h0
    obtain ⟨x2, d2, rfl, h2⟩ := dL_some h1
    obtain ⟨x3, d3, rfl, h3⟩ := dI_some h2
    obtain ⟨x4, d4, rfl, h4⟩ := dI_some h3
    obtain ⟨rfl, hE⟩ := dE_some h4
    obtain ⟨y, hy, hk⟩ := bnd_some hE
    cases hy
  | succ n ih =>
    intro R ds k r h
    unfold m_impl_IsValidSherds_L8 at h
    obtain ⟨x0, d0, rfl, h0⟩ := dL_some h
    obtain ⟨x1, d1, rfl, h1⟩ := dL_some h0
    obtain ⟨x2, d2, rfl, h2⟩ := dL_some h1
    obtain ⟨x3, d3, rfl, h3⟩ := dI_some h2
    obtain ⟨x4, d4, rfl, h4⟩ := dI_some h3
    obtain ⟨rfl, hE⟩ := dE_some h4
    obtain ⟨y, hy, hk⟩ := bnd_some hE
    have hq := q_impl_IsValidSherds_L8 (n_impl_IsValidSherds_L8 n) x0 x1 x2 x3 x4
    rw [c_impl_IsValidSherds_L8_bind] at hq
    rw [show c_impl_IsValidSherds_L8 (n_impl_IsValidSherds_L8 n) x0 x1 x2 x3 x4 some = some y from hy] at hq
    cases y with
    | inl y =>
      refine ⟨0, _, _, _, hk, rfl, loop_ok px (fx := ⟨Go.Proofs.Try.func19, by kernel_rfl, by kernel_rfl⟩) (entsOK_cons e_cmp_Compare_ok (entsOK_cons e_cmp_Or_ok entsOK_nil)) (lentsOK_cons ih lentsOK_nil) (by kernel_rfl) ?_⟩
      exact hq
    | inr y =>
      refine ⟨1, _, _, _, hk, rfl, loop_ok px (fx := ⟨Go.Proofs.Try.func19, by kernel_rfl, by kernel_rfl⟩) (entsOK_cons e_cmp_Compare_ok (entsOK_cons e_cmp_Or_ok entsOK_nil)) (lentsOK_cons ih lentsOK_nil) (by kernel_rfl) ?_⟩
      exact hq
noncomputable def e_impl_IsValidSherds_L8 : Lent := m_impl_IsValidSherds_L8 (impl_IsValidSherds_L8)
theorem e_impl_IsValidSherds_L8_ok : (e_impl_IsValidSherds_L8).ok Go.Proofs.Try.prog (codeAt (bodyOf Go.Proofs.Try.f19) 8) := by
  intro R ds k r h
  unfold e_impl_IsValidSherds_L8 m_impl_IsValidSherds_L8 at h
  obtain ⟨x0, d0, rfl, h0⟩ := dL_some h
  obtain ⟨x1, d1, rfl, h1⟩ := dL_some h0
  obtain ⟨x2, d2, rfl, h2⟩ := dL_some h1
  obtain ⟨x3, d3, rfl, h3⟩ := dI_some h2
  obtain ⟨x4, d4, rfl, h4⟩ := dI_some h3
  obtain ⟨rfl, hE⟩ := dE_some h4
  obtain ⟨y, hy, hk⟩ := bnd_some hE
  obtain ⟨n, hn⟩ := ev_some hy
  exact m_impl_IsValidSherds_L8_ok n R _ k r (show (n_impl_IsValidSherds_L8 n x0 x1 x2 x3 x4).bind _ = _ by rw [hn]; exact hk)

/-! loop.example/g00876/impl.IsValidSherds -/
def c_impl_IsValidSherds {R : Type} (x0 : List D) (x1 : List D) (k : Bool → Option R) : Option R :=
 (impl_IsValidSherds_L2 x0 x1 x0 (↑x0.length : Int) (0 : Int)).bind (Sum.elim (fun y0 =>
 k y0.snd.snd) (fun y1 =>
 (impl_IsValidSherds_L8 y1.fst y1.snd y1.snd (↑y1.snd.length : Int) (0 : Int)).bind (Sum.elim (fun y2 =>
 k y2.snd.snd) (fun y3 =>
 bif Decidable.decide ((↑y3.fst.length : Int) ≤ (12 : Int)) then
 k (Decidable.decide ((↑y3.snd.length : Int) ≤ (20 : Int)))
 else
 k Bool.false))))
theorem c_impl_IsValidSherds_bind {R : Type} (x0 : List D) (x1 : List D) (k : Bool → Option R) : c_impl_IsValidSherds x0 x1 k = (c_impl_IsValidSherds x0 x1 some).bind k := by
  unfold c_impl_IsValidSherds
  repeat' first
    | exact bnd_tail
    | exact bnd_none
    | exact bnd_leaf
    | apply bnd_ite
    | apply bnd_cond
    | apply bnd_sum
    | (apply bnd_bind; intro _)
    | intro _
def impl_IsValidSherds (x0 : List D) (x1 : List D) : Option (Bool) := c_impl_IsValidSherds x0 x1 some
def e_impl_IsValidSherds : Ent := ⟨19, [.rd (.struct [.int .i64, .int .i64, .int .i64, .int .i64]), .rd (.struct [.int .i64, .int .i64])], .bool, [.undef, .undef], fun _ ds k => dL (fun x0 ds => dL (fun x1 ds => dE ((impl_IsValidSherds x0 x1).bind (fun y => k [.B y])) ds) ds) ds⟩
theorem q_impl_IsValidSherds (x0 : List D) (x1 : List D) : runFn (ocOf []) (olOf [e_impl_IsValidSherds_L2, e_impl_IsValidSherds_L8]) A 19 Go.Proofs.Try.f19 (Sh.mks e_impl_IsValidSherds.sh [.L x0, .L x1]).1 (fun v os => some (v, os)) = c_impl_IsValidSherds x0 x1 (fun y => some ((e_impl_IsValidSherds.res.mk [.B y]).1, (Sh.mks e_impl_IsValidSherds.outs (e_impl_IsValidSherds.res.mk [.B y]).2).1)) := by kernel_rfl
theorem e_impl_IsValidSherds_ok : e_impl_IsValidSherds.ok Go.Proofs.Try.prog A := by
  intro R ds k r h
  unfold e_impl_IsValidSherds at h
  obtain ⟨x0, d0, rfl, h0⟩ := dL_some h
  obtain ⟨x1, d1, rfl, h1⟩ := dL_some h0
  obtain ⟨rfl, hE⟩ := dE_some h1
  obtain ⟨y, hy, hk⟩ := bnd_some hE
  refine ⟨_, hk, fn_ok px (fx := ⟨Go.Proofs.Try.func19, by kernel_rfl, by kernel_rfl⟩) entsOK_nil (lentsOK_cons e_impl_IsValidSherds_L2_ok (lentsOK_cons e_impl_IsValidSherds_L8_ok lentsOK_nil)) ?_⟩
  have hq := q_impl_IsValidSherds x0 x1
  rw [c_impl_IsValidSherds_bind] at hq
  rw [show c_impl_IsValidSherds x0 x1 some = some y from hy] at hq
  exact hq

/-! math/bits.Mul64 -/
def c_math_bits_Mul64 {R : Type} (x0 : Int) (x1 : Int) (k : Int × Int → Option R) : Option R :=
 if (0 : Int) ≤ (32 : Int) then
 if (0 : Int) ≤ (32 : Int) then
 if (0 : Int) ≤ (32 : Int) then
 if (0 : Int) ≤ (32 : Int) then
 if (0 : Int) ≤ (32 : Int) then
 k (Go.IntKind.u64.wrap (Go.IntKind.u64.wrap (Go.IntKind.u64.wrap (x0.fdiv ((2 : Int) ^ Min.min (Int.toNat (32 : Int)) Go.IntKind.u64.bits) * x1.fdiv ((2 : Int) ^ Min.min (Int.toNat (32 : Int)) Go.IntKind.u64.bits)) + (Go.IntKind.u64.wrap (Go.IntKind.u64.wrap (x0.fdiv ((2 : Int) ^ Min.min (Int.toNat (32 : Int)) Go.IntKind.u64.bits) * Go.IntKind.u64.wrap (↑(BitVec.ofInt Go.IntKind.u64.bits x1 &&& BitVec.ofInt Go.IntKind.u64.bits (4294967295 : Int)).toNat : Int)) + (Go.IntKind.u64.wrap (Go.IntKind.u64.wrap (↑(BitVec.ofInt Go.IntKind.u64.bits x0 &&& BitVec.ofInt Go.IntKind.u64.bits (4294967295 : Int)).toNat : Int) * Go.IntKind.u64.wrap (↑(BitVec.ofInt Go.IntKind.u64.bits x1 &&& BitVec.ofInt Go.IntKind.u64.bits (4294967295 : Int)).toNat : Int))).fdiv ((2 : Int) ^ Min.min (Int.toNat (32 : Int)) Go.IntKind.u64.bits))).fdiv ((2 : Int) ^ Min.min (Int.toNat (32 : Int)) Go.IntKind.u64.bits)) + (Go.IntKind.u64.wrap (Go.IntKind.u64.wrap (↑(BitVec.ofInt Go.IntKind.u64.bits (Go.IntKind.u64.wrap (Go.IntKind.u64.wrap (x0.fdiv ((2 : Int) ^ Min.min (Int.toNat (32 : Int)) Go.IntKind.u64.bits) * Go.IntKind.u64.wrap (↑(BitVec.ofInt Go.IntKind.u64.bits x1 &&& BitVec.ofInt Go.IntKind.u64.bits (4294967295 : Int)).toNat : Int)) + (Go.IntKind.u64.wrap (Go.IntKind.u64.wrap (↑(BitVec.ofInt Go.IntKind.u64.bits x0 &&& BitVec.ofInt Go.IntKind.u64.bits (4294967295 : Int)).toNat : Int) * Go.IntKind.u64.wrap (↑(BitVec.ofInt Go.IntKind.u64.bits x1 &&& BitVec.ofInt Go.IntKind.u64.bits (4294967295 : Int)).toNat : Int))).fdiv ((2 : Int) ^ Min.min (Int.toNat (32 : Int)) Go.IntKind.u64.bits))) &&& BitVec.ofInt Go.IntKind.u64.bits (4294967295 : Int)).toNat : Int) + Go.IntKind.u64.wrap (Go.IntKind.u64.wrap (↑(BitVec.ofInt Go.IntKind.u64.bits x0 &&& BitVec.ofInt Go.IntKind.u64.bits (4294967295 : Int)).toNat : Int) * x1.fdiv ((2 : Int) ^ Min.min (Int.toNat (32 : Int)) Go.IntKind.u64.bits)))).fdiv ((2 : Int) ^ Min.min (Int.toNat (32 : Int)) Go.IntKind.u64.bits)), Go.IntKind.u64.wrap (x0 * x1))
 else
 none
 else
 none
 else
 none
 else
 none
 else
 none
theorem c_math_bits_Mul64_bind {R : Type} (x0 : Int) (x1 : Int) (k : Int × Int → Option R) : c_math_bits_Mul64 x0 x1 k = (c_math_bits_Mul64 x0 x1 some).bind k := by
  unfold c_math_bits_Mul64
  repeat' first
    | exact bnd_tail
    | exact bnd_none
    | exact bnd_leaf
    | apply bnd_ite
    | apply bnd_cond
    | apply bnd_sum
    | (apply bnd_bind; intro _)
    | intro _
def math_bits_Mul64 (x0 : Int) (x1 : Int) : Option (Int × Int) := c_math_bits_Mul64 x0 x1 some
def e_math_bits_Mul64 : Ent := ⟨95, [.int .u64, .int .u64], .tup [.int .u64, .int .u64], [.undef, .undef], fun _ ds k => dI (fun x0 ds => dI (fun x1 ds => dE ((math_bits_Mul64 x0 x1).bind (fun y => k [.I y.1, .I y.2])) ds) ds) ds⟩
theorem q_math_bits_Mul64 (x0 : Int) (x1 : Int) : runFn (ocOf []) (olOf []) A 95 Go.Proofs.Try.f95 (Sh.mks e_math_bits_Mul64.sh [.I x0, .I x1]).1 (fun v os => some (v, os)) = c_math_bits_Mul64 x0 x1 (fun y => some ((e_math_bits_Mul64.res.mk [.I y.1, .I y.2]).1, (Sh.mks e_math_bits_Mul64.outs (e_math_bits_Mul64.res.mk [.I y.1, .I y.2]).2).1)) := by kernel_rfl
theorem e_math_bits_Mul64_ok : e_math_bits_Mul64.ok Go.Proofs.Try.prog A := by
  intro R ds k r h
  unfold e_math_bits_Mul64 at h
  obtain ⟨x0, d0, rfl, h0⟩ := dI_some h
  obtain ⟨x1, d1, rfl, h1⟩ := dI_some h0
  obtain ⟨rfl, hE⟩ := dE_some h1
  obtain ⟨y, hy, hk⟩ := bnd_some hE
  refine ⟨_, hk, fn_ok px (fx := ⟨Go.Proofs.Try.func95, by kernel_rfl, by kernel_rfl⟩) entsOK_nil lentsOK_nil ?_⟩
  have hq := q_math_bits_Mul64 x0 x1
  rw [c_math_bits_Mul64_bind] at hq
  rw [show c_math_bits_Mul64 x0 x1 some = some y from hy] at hq
  exact hq

/-! math/bits.Mul -/
def c_math_bits_Mul {R : Type} (x0 : Int) (x1 : Int) (k : Int × Int → Option R) : Option R :=
 (math_bits_Mul64 x0 x1).bind (fun y0 =>
 k (y0.fst, y0.snd))
theorem c_math_bits_Mul_bind {R : Type} (x0 : Int) (x1 : Int) (k : Int × Int → Option R) : c_math_bits_Mul x0 x1 k = (c_math_bits_Mul x0 x1 some).bind k := by
  unfold c_math_bits_Mul
  repeat' first
    | exact bnd_tail
    | exact bnd_none
    | exact bnd_leaf
    | apply bnd_ite
    | apply bnd_cond
    | apply bnd_sum
    | (apply bnd_bind; intro _)
    | intro _
def math_bits_Mul (x0 : Int) (x1 : Int) : Option (Int × Int) := c_math_bits_Mul x0 x1 some
def e_math_bits_Mul : Ent := ⟨91, [.int .u64, .int .u64], .tup [.int .u64, .int .u64], [.undef, .undef], fun _ ds k => dI (fun x0 ds => dI (fun x1 ds => dE ((math_bits_Mul x0 x1).bind (fun y => k [.I y.1, .I y.2])) ds) ds) ds⟩
theorem q_math_bits_Mul (x0 : Int) (x1 : Int) : runFn (ocOf [e_math_bits_Mul64]) (olOf []) A 91 Go.Proofs.Try.f91 (Sh.mks e_math_bits_Mul.sh [.I x0, .I x1]).1 (fun v os => some (v, os)) = c_math_bits_Mul x0 x1 (fun y => some ((e_math_bits_Mul.res.mk [.I y.1, .I y.2]).1, (Sh.mks e_math_bits_Mul.outs (e_math_bits_Mul.res.mk [.I y.1, .I y.2]).2).1)) := by kernel_rfl
theorem e_math_bits_Mul_ok : e_math_bits_Mul.ok Go.Proofs.Try.prog A := by
  intro R ds k r h
  unfold e_math_bits_Mul at h
  obtain ⟨x0, d0, rfl, h0⟩ := dI_some h
  obtain ⟨x1, d1, rfl, h1⟩ := dI_some h0
  obtain ⟨rfl, hE⟩ := dE_some h1
  obtain ⟨y, hy, hk⟩ := bnd_some hE
  refine ⟨_, hk, fn_ok px (fx := ⟨Go.Proofs.Try.func91, by kernel_rfl, by kernel_rfl⟩) (entsOK_cons e_math_bits_Mul64_ok entsOK_nil) lentsOK_nil ?_⟩
  have hq := q_math_bits_Mul x0 x1
  rw [c_math_bits_Mul_bind] at hq
  rw [show c_math_bits_Mul x0 x1 some = some y from hy] at hq
  exact hq

/-! slices.Repeat[[]int,int], loop 8 -/
def c_slices_Repeat_L8 {R : Type} (F : Int → List D → Option (List D)) (x0 : Int) (x1 : List D) (k : List D → Option R) : Option R :=
 bif Decidable.decide (x0 < (↑x1.length : Int)) then
 if (0 : Int) ≤ x0 ∧ x0 ≤ (↑x1.length : Int) ∧ (↑x1.length : Int) ≤ (↑x1.length : Int) then
 if (0 : Int) ≤ (0 : Int) ∧ (0 : Int) ≤ x0 ∧ x0 ≤ (↑x1.length : Int) then
 if (0 : Nat) + (x0.toNat - (0 : Nat)) ≤ x1.length then
 if x0.toNat + (x1.length - x0.toNat) ≤ x1.length then
 (F (Go.IntKind.i64.wrap (x0 + (↑(List.take (x1.length - x0.toNat) (List.take (x0.toNat - (0 : Nat)) (List.drop (0 : Nat) x1))).length : Int))) (List.take x0.toNat x1 ++ List.take (x1.length - x0.toNat) (List.take (x0.toNat - (0 : Nat)) (List.drop (0 : Nat) x1)) ++ List.drop (x0.toNat + (List.take (x1.length - x0.toNat) (List.take (x0.toNat - (0 : Nat)) (List.drop (0 : Nat) x1))).length) x1)).bind k
 else
 none
 else
 none
 else
 none
 else
 none
 else
 k x1
theorem c_slices_Repeat_L8_bind {R : Type} (F : Int → List D → Option (List D)) (x0 : Int) (x1 : List D) (k : List D → Option R) : c_slices_Repeat_L8 F x0 x1 k = (c_slices_Repeat_L8 F x0 x1 some).bind k := by
  unfold c_slices_Repeat_L8
  repeat' first
    | exact bnd_tail
    | exact bnd_none
    | exact bnd_leaf
    | apply bnd_ite
    | apply bnd_cond
    | apply bnd_sum
    | (apply bnd_bind; intro _)
    | intro _
def n_slices_Repeat_L8 : Nat → Int → List D → Option (List D)
 | 0, _, _ => none
 | n + 1, x0, x1 => c_slices_Repeat_L8 (n_slices_Repeat_L8 n) x0 x1 some
noncomputable def slices_Repeat_L8 (x0 : Int) (x1 : List D) : Option (List D) := ev (fun n => n_slices_Repeat_L8 n x0 x1)
def m_slices_Repeat_L8 (F : Int → List D → Option (List D)) : Lent := ⟨8, ⟨[.undef, .undef, .undef, .undef, .undef, .undef, .undef, .full 1000 [] (.int .i64), .int .i64, .undef, .undef, .undef, .undef, .undef, .undef, .undef, .undef, .undef, .undef, .undef, .undef, .undef, .undef, .undef, .undef, .undef, .undef, .undef, .undef, .undef, .undef, .undef, .undef, .undef, .undef, .undef, .undef, .undef, .undef, .undef, .undef, .undef, .undef, .undef, .undef, .undef, .undef, .undef], [(1000, .own (.int .i64))]⟩, [(.exit 0, ⟨[.undef, .undef, .undef, .undef, .undef, .undef, .undef, .full 1000 [] (.int .i64), .undef, .undef, .undef, .undef, .undef, .undef, .undef, .undef, .undef, .undef, .undef, .undef, .undef, .undef, .undef, .undef, .undef, .undef, .undef, .undef, .undef, .undef, .undef, .undef, .undef, .undef, .undef, .undef, .undef, .undef, .undef, .undef, .undef, .undef, .undef, .undef, .undef, .undef, .undef, .undef], [(1000, .own (.int .i64))]⟩)], fun _ ds k => dI (fun x0 ds => dL (fun x1 ds => dE ((F x0 x1).bind (fun y => k 0 [.L y])) ds) ds) ds⟩
theorem q_slices_Repeat_L8 (F : Int → List D → Option (List D)) (x0 : Int) (x1 : List D) : runLoop (ocOf []) (olOf [m_slices_Repeat_L8 F]) A 74 (codeAt (bodyOf Go.Proofs.Try.f74) 8) ((m_slices_Repeat_L8 F).sh.mk' [.I x0, .L x1]) (fun e σ' => some (e, σ')) = c_slices_Repeat_L8 F x0 x1 (fun y => some (.exit 0, SSt.mk' ⟨[.undef, .undef, .undef, .undef, .undef, .undef, .undef, .full 1000 [] (.int .i64), .undef, .undef, .undef, .undef, .undef, .undef, .undef, .undef, .undef, .undef, .undef, .undef, .undef, .undef, .undef, .undef, .undef, .undef, .undef, .undef, .undef, .undef, .undef, .undef, .undef, .undef, .undef, .undef, .undef, .undef, .undef, .undef, .undef, .undef, .undef, .undef, .undef, .undef, .undef, .undef], [(1000, .own (.int .i64))]⟩ [.L y])) := by kernel_rfl
theorem m_slices_Repeat_L8_ok : ∀ n, (m_slices_Repeat_L8 (n_slices_Repeat_L8 n)).ok Go.Proofs.Try.prog (codeAt (bodyOf Go.Proofs.Try.f74) 8) := by
  intro n
  induction n with
  | zero =>
    intro R ds k r h
    unfold m_slices_Repeat_L8 at h
    obtain ⟨x0, d0, rfl, h0⟩ := dI_some h
    obtain ⟨x1, d1, rfl, h1⟩ := dL_some h0
    obtain ⟨rfl, hE⟩ := dE_some h1
    obtain ⟨y, hy, hk⟩ := bnd_some hE
    cases hy
  | succ n ih =>
    intro R ds k r h
    unfold m_slices_Repeat_L8 at h
    obtain ⟨x0, d0, rfl, h0⟩ := dI_some h
    obtain ⟨x1, d1, rfl, h1⟩ := dL_some h0
    obtain ⟨rfl, hE⟩ := dE_some h1
    obtain ⟨y, hy, hk⟩ := bnd_some hE
    have hq := q_slices_Repeat_L8 (n_slices_Repeat_L8 n) x0 x1
    rw [c_slices_Repeat_L8_bind] at hq
    rw [show c_slices_Repeat_L8 (n_slices_Repeat_L8 n) x0 x1 some = some y from hy] at hq
    refine ⟨0, _, _, _, hk, rfl, loop_ok px (fx := ⟨Go.Proofs.Try.func74, by kernel_rfl, by kernel_rfl⟩) entsOK_nil (lentsOK_cons ih lentsOK_nil) (by kernel_rfl) ?_⟩
    exact hq
noncomputable def e_slices_Repeat_L8 : Lent := m_slices_Repeat_L8 (slices_Repeat_L8)
theorem e_slices_Repeat_L8_ok : (e_slices_Repeat_L8).ok Go.Proofs.Try.prog (codeAt (bodyOf Go.Proofs.Try.f74) 8) := by
  intro R ds k r h
  unfold e_slices_Repeat_L8 m_slices_Repeat_L8 at h
  obtain ⟨x0, d0, rfl, h0⟩ := dI_some h
  obtain ⟨x1, d1, rfl, h1⟩ := dL_some h0
  obtain ⟨rfl, hE⟩ := dE_some h1
  obtain ⟨y, hy, hk⟩ := bnd_some hE
  obtain ⟨n, hn⟩ := ev_some hy
  exact m_slices_Repeat_L8_ok n R _ k r (show (n_slices_Repeat_L8 n x0 x1).bind _ = _ by rw [hn]; exact hk)

/-! slices.Repeat[[]int,int] -/
def c_slices_Repeat {R : Type} (x0 : List D) (x1 : Int) (k : List D → Option R) : Option R :=
 bif Decidable.decide (x1 < (0 : Int)) then
 none
 else
 (math_bits_Mul (Go.IntKind.u64.wrap (↑x0.length : Int)) (Go.IntKind.u64.wrap x1)).bind (fun y0 =>
 bif Decidable.decide ((0 : Int) < y0.fst) then
 none
 else
 bif Decidable.decide ((9223372036854775807 : Int) < y0.snd) then
 none
 else
 if (0 : Int) ≤ Go.IntKind.i64.wrap y0.snd ∧ Go.IntKind.i64.wrap y0.snd ≤ Go.IntKind.i64.wrap y0.snd ∧ Go.IntKind.i64.wrap y0.snd ≤ (4294967296 : Int) then
 (slices_Repeat_L8 (↑(List.take (List.replicate (Go.IntKind.i64.wrap y0.snd).toNat (Go.Rai.D.int (0 : Int))).length x0).length : Int) (List.take (0 : Nat) (List.replicate (Go.IntKind.i64.wrap y0.snd).toNat (Go.Rai.D.int (0 : Int))) ++ List.take (List.replicate (Go.IntKind.i64.wrap y0.snd).toNat (Go.Rai.D.int (0 : Int))).length x0 ++ List.drop ((0 : Nat) + (List.take (List.replicate (Go.IntKind.i64.wrap y0.snd).toNat (Go.Rai.D.int (0 : Int))).length x0).length) (List.replicate (Go.IntKind.i64.wrap y0.snd).toNat (Go.Rai.D.int (0 : Int))))).bind (fun y1 =>
 k y1)
 else
 none)
theorem c_slices_Repeat_bind {R : Type} (x0 : List D) (x1 : Int) (k : List D → Option R) : c_slices_Repeat x0 x1 k = (c_slices_Repeat x0 x1 some).bind k := by
  unfold c_slices_Repeat
  repeat' first
    | exact bnd_tail
    | exact bnd_none
    | exact bnd_leaf
    | apply bnd_ite
    | apply bnd_cond
    | apply bnd_sum
    | (apply bnd_bind; intro _)
    | intro _
def slices_Repeat (x0 : List D) (x1 : Int) : Option (List D) := c_slices_Repeat x0 x1 some
def e_slices_Repeat : Ent := ⟨74, [.rd (.int .i64), .int .i64], .own (.int .i64), [.undef, .undef], fun _ ds k => dL (fun x0 ds => dI (fun x1 ds => dE ((slices_Repeat x0 x1).bind (fun y => k [.L y])) ds) ds) ds⟩
theorem q_slices_Repeat (x0 : List D) (x1 : Int) : runFn (ocOf [e_math_bits_Mul]) (olOf [e_slices_Repeat_L8]) A 74 Go.Proofs.Try.f74 (Sh.mks e_slices_Repeat.sh [.L x0, .I x1]).1 (fun v os => some (v, os)) = c_slices_Repeat x0 x1 (fun y => some ((e_slices_Repeat.res.mk [.L y]).1, (Sh.mks e_slices_Repeat.outs (e_slices_Repeat.res.mk [.L y]).2).1)) := by kernel_rfl
theorem e_slices_Repeat_ok : e_slices_Repeat.ok Go.Proofs.Try.prog A := by
  intro R ds k r h
  unfold e_slices_Repeat at h
  obtain ⟨x0, d0, rfl, h0⟩ := dL_some h
  obtain ⟨x1, d1, rfl, h1⟩ := dI_some h0
  obtain ⟨rfl, hE⟩ := dE_some h1
  obtain ⟨y, hy, hk⟩ := bnd_some hE
  refine ⟨_, hk, fn_ok px (fx := ⟨Go.Proofs.Try.func74, by kernel_rfl, by kernel_rfl⟩) (entsOK_cons e_math_bits_Mul_ok entsOK_nil) (lentsOK_cons e_slices_Repeat_L8_ok lentsOK_nil) ?_⟩
  have hq := q_slices_Repeat x0 x1
  rw [c_slices_Repeat_bind] at hq
  rw [show c_slices_Repeat x0 x1 some = some y from hy] at hq
  exact hq

/-! loop.example/g00876/impl.JoinPath, loop 9 -/
def c_impl_JoinPath_L9 {R : Type} (F : List D → Int → Int → Int → Int → Int → List D → Int → Int → List D → Option (List D × Int × Int × Int × Int × Int × List D)) (x0 : List D) (x1 : Int) (x2 : Int) (x3 : Int) (x4 : Int) (x5 : Int) (x6 : List D) (x7 : Int) (x8 : Int) (x9 : List D) (k : List D × Int × Int × Int × Int × Int × List D → Option R) : Option R :=
 bif Decidable.decide (x8 < x7) then
 if (0 : Int) ≤ x8 ∧ x8 < (↑x6.length : Int) then
 if (0 : Int) ≤ ((x6.getD x8.toNat (Go.Rai.D.int (0 : Int))).fld (0 : Nat)).toInt ∧ ((x6.getD x8.toNat (Go.Rai.D.int (0 : Int))).fld (0 : Nat)).toInt < (↑x9.length : Int) then
 if ((x6.getD x8.toNat (Go.Rai.D.int (0 : Int))).fld (0 : Nat)).toInt.toNat + (1 : Nat) ≤ x9.length then
 if (0 : Int) ≤ ((x6.getD x8.toNat (Go.Rai.D.int (0 : Int))).fld (1 : Nat)).toInt ∧ ((x6.getD x8.toNat (Go.Rai.D.int (0 : Int))).fld (1 : Nat)).toInt < (↑x9.length : Int) then
 if ((x6.getD x8.toNat (Go.Rai.D.int (0 : Int))).fld (1 : Nat)).toInt.toNat + (1 : Nat) ≤ x9.length then
 if (0 : Int) ≤ ((x6.getD x8.toNat (Go.Rai.D.int (0 : Int))).fld (0 : Nat)).toInt ∧ ((x6.getD x8.toNat (Go.Rai.D.int (0 : Int))).fld (0 : Nat)).toInt < (↑x9.length : Int) then
 if ((x6.getD x8.toNat (Go.Rai.D.int (0 : Int))).fld (0 : Nat)).toInt.toNat + (1 : Nat) ≤ x9.length then
 if (0 : Int) ≤ ((x6.getD x8.toNat (Go.Rai.D.int (0 : Int))).fld (1 : Nat)).toInt ∧ ((x6.getD x8.toNat (Go.Rai.D.int (0 : Int))).fld (1 : Nat)).toInt < (↑(x9.set ((x6.getD x8.toNat (Go.Rai.D.int (0 : Int))).fld (0 : Nat)).toInt.toNat (Go.Rai.D.int (if Go.IntKind.i64.wrap ((x9.getD ((x6.getD x8.toNat (Go.Rai.D.int (0 : Int))).fld (1 : Nat)).toInt.toNat (Go.Rai.D.int (0 : Int))).toInt + (1 : Int)) < (x9.getD ((x6.getD x8.toNat (Go.Rai.D.int (0 : Int))).fld (0 : Nat)).toInt.toNat (Go.Rai.D.int (0 : Int))).toInt then Go.IntKind.i64.wrap ((x9.getD ((x6.getD x8.toNat (Go.Rai.D.int (0 : Int))).fld (1 : Nat)).toInt.toNat (Go.Rai.D.int (0 : Int))).toInt + (1 : Int)) else (x9.getD ((x6.getD x8.toNat (Go.Rai.D.int (0 : Int))).fld (0 : Nat)).toInt.toNat (Go.Rai.D.int (0 : Int))).toInt))).length : Int) then
 if ((x6.getD x8.toNat (Go.Rai.D.int (0 : Int))).fld (1 : Nat)).toInt.toNat + (1 : Nat) ≤ (x9.set ((x6.getD x8.toNat (Go.Rai.D.int (0 : Int))).fld (0 : Nat)).toInt.toNat (Go.Rai.D.int (if Go.IntKind.i64.wrap ((x9.getD ((x6.getD x8.toNat (Go.Rai.D.int (0 : Int))).fld (1 : Nat)).toInt.toNat (Go.Rai.D.int (0 : Int))).toInt + (1 : Int)) < (x9.getD ((x6.getD x8.toNat (Go.Rai.D.int (0 : Int))).fld (0 : Nat)).toInt.toNat (Go.Rai.D.int (0 : Int))).toInt then Go.IntKind.i64.wrap ((x9.getD ((x6.getD x8.toNat (Go.Rai.D.int (0 : Int))).fld (1 : Nat)).toInt.toNat (Go.Rai.D.int (0 : Int))).toInt + (1 : Int)) else (x9.getD ((x6.getD x8.toNat (Go.Rai.D.int (0 : Int))).fld (0 : Nat)).toInt.toNat (Go.Rai.D.int (0 : Int))).toInt))).length then
 if (0 : Int) ≤ ((x6.getD x8.toNat (Go.Rai.D.int (0 : Int))).fld (0 : Nat)).toInt ∧ ((x6.getD x8.toNat (Go.Rai.D.int (0 : Int))).fld (0 : Nat)).toInt < (↑(x9.set ((x6.getD x8.toNat (Go.Rai.D.int (0 : Int))).fld (0 : Nat)).toInt.toNat (Go.Rai.D.int (if Go.IntKind.i64.wrap ((x9.getD ((x6.getD x8.toNat (Go.Rai.D.int (0 : Int))).fld (1 : Nat)).toInt.toNat (Go.Rai.D.int (0 : Int))).toInt + (1 : Int)) < (x9.getD ((x6.getD x8.toNat (Go.Rai.D.int (0 : Int))).fld (0 : Nat)).toInt.toNat (Go.Rai.D.int (0 : Int))).toInt then Go.IntKind.i64.wrap ((x9.getD ((x6.getD x8.toNat (Go.Rai.D.int (0 : Int))).fld (1 : Nat)).toInt.toNat (Go.Rai.D.int (0 : Int))).toInt + (1 : Int)) else (x9.getD ((x6.getD x8.toNat (Go.Rai.D.int (0 : Int))).fld (0 : Nat)).toInt.toNat (Go.Rai.D.int (0 : Int))).toInt))).length : Int) then
 if ((x6.getD x8.toNat (Go.Rai.D.int (0 : Int))).fld (0 : Nat)).toInt.toNat + (1 : Nat) ≤ (x9.set ((x6.getD x8.toNat (Go.Rai.D.int (0 : Int))).fld (0 : Nat)).toInt.toNat (Go.Rai.D.int (if Go.IntKind.i64.wrap ((x9.getD ((x6.getD x8.toNat (Go.Rai.D.int (0 : Int))).fld (1 : Nat)).toInt.toNat (Go.Rai.D.int (0 : Int))).toInt + (1 : Int)) < (x9.getD ((x6.getD x8.toNat (Go.Rai.D.int (0 : Int))).fld (0 : Nat)).toInt.toNat (Go.Rai.D.int (0 : Int))).toInt then Go.IntKind.i64.wrap ((x9.getD ((x6.getD x8.toNat (Go.Rai.D.int (0 : Int))).fld (1 : Nat)).toInt.toNat (Go.Rai.D.int (0 : Int))).toInt + (1 : Int)) else (x9.getD ((x6.getD x8.toNat (Go.Rai.D.int (0 : Int))).fld (0 : Nat)).toInt.toNat (Go.Rai.D.int (0 : Int))).toInt))).length then
 if (0 : Int) ≤ ((x6.getD x8.toNat (Go.Rai.D.int (0 : Int))).fld (1 : Nat)).toInt ∧ ((x6.getD x8.toNat (Go.Rai.D.int (0 : Int))).fld (1 : Nat)).toInt < (↑(x9.set ((x6.getD x8.toNat (Go.Rai.D.int (0 : Int))).fld (0 : Nat)).toInt.toNat (Go.Rai.D.int (if Go.IntKind.i64.wrap ((x9.getD ((x6.getD x8.toNat (Go.Rai.D.int (0 : Int))).fld (1 : Nat)).toInt.toNat (Go.Rai.D.int (0 : Int))).toInt + (1 : Int)) < (x9.getD ((x6.getD x8.toNat (Go.Rai.D.int (0 : Int))).fld (0 : Nat)).toInt.toNat (Go.Rai.D.int (0 : Int))).toInt then Go.IntKind.i64.wrap ((x9.getD ((x6.getD x8.toNat (Go.Rai.D.int (0 : Int))).fld (1 : Nat)).toInt.toNat (Go.Rai.D.int (0 : Int))).toInt + (1 : Int)) else (x9.getD ((x6.getD x8.toNat (Go.Rai.D.int (0 : Int))).fld (0 : Nat)).toInt.toNat (Go.Rai.D.int (0 : Int))).toInt))).length : Int) then
 if ((x6.getD x8.toNat (Go.Rai.D.int (0 : Int))).fld (1 : Nat)).toInt.toNat + (1 : Nat) ≤ (x9.set ((x6.getD x8.toNat (Go.Rai.D.int (0 : Int))).fld (0 : Nat)).toInt.toNat (Go.Rai.D.int (if Go.IntKind.i64.wrap ((x9.getD ((x6.getD x8.toNat (Go.Rai.D.int (0 : Int))).fld (1 : Nat)).toInt.toNat (Go.Rai.D.int (0 : Int))).toInt + (1 : Int)) < (x9.getD ((x6.getD x8.toNat (Go.Rai.D.int (0 : Int))).fld (0 : Nat)).toInt.toNat (Go.Rai.D.int (0 : Int))).toInt then Go.IntKind.i64.wrap ((x9.getD ((x6.getD x8.toNat (Go.Rai.D.int (0 : Int))).fld (1 : Nat)).toInt.toNat (Go.Rai.D.int (0 : Int))).toInt + (1 : Int)) else (x9.getD ((x6.getD x8.toNat (Go.Rai.D.int (0 : Int))).fld (0 : Nat)).toInt.toNat (Go.Rai.D.int (0 : Int))).toInt))).length then
 (F x0 x1 x2 x3 x4 x5 x6 x7 (Go.IntKind.i64.wrap (x8 + (1 : Int))) ((x9.set ((x6.getD x8.toNat (Go.Rai.D.int (0 : Int))).fld (0 : Nat)).toInt.toNat (Go.Rai.D.int (if Go.IntKind.i64.wrap ((x9.getD ((x6.getD x8.toNat (Go.Rai.D.int (0 : Int))).fld (1 : Nat)).toInt.toNat (Go.Rai.D.int (0 : Int))).toInt + (1 : Int)) < (x9.getD ((x6.getD x8.toNat (Go.Rai.D.int (0 : Int))).fld (0 : Nat)).toInt.toNat (Go.Rai.D.int (0 : Int))).toInt then Go.IntKind.i64.wrap ((x9.getD ((x6.getD x8.toNat (Go.Rai.D.int (0 : Int))).fld (1 : Nat)).toInt.toNat (Go.Rai.D.int (0 : Int))).toInt + (1 : Int)) else (x9.getD ((x6.getD x8.toNat (Go.Rai.D.int (0 : Int))).fld (0 : Nat)).toInt.toNat (Go.Rai.D.int (0 : Int))).toInt))).set ((x6.getD x8.toNat (Go.Rai.D.int (0 : Int))).fld (1 : Nat)).toInt.toNat (Go.Rai.D.int (if Go.IntKind.i64.wrap (((x9.set ((x6.getD x8.toNat (Go.Rai.D.int (0 : Int))).fld (0 : Nat)).toInt.toNat (Go.Rai.D.int (if Go.IntKind.i64.wrap ((x9.getD ((x6.getD x8.toNat (Go.Rai.D.int (0 : Int))).fld (1 : Nat)).toInt.toNat (Go.Rai.D.int (0 : Int))).toInt + (1 : Int)) < (x9.getD ((x6.getD x8.toNat (Go.Rai.D.int (0 : Int))).fld (0 : Nat)).toInt.toNat (Go.Rai.D.int (0 : Int))).toInt then Go.IntKind.i64.wrap ((x9.getD ((x6.getD x8.toNat (Go.Rai.D.int (0 : Int))).fld (1 : Nat)).toInt.toNat (Go.Rai.D.int (0 : Int))).toInt + (1 : Int)) else (x9.getD ((x6.getD x8.toNat (Go.Rai.D.int (0 : Int))).fld (0 : Nat)).toInt.toNat (Go.Rai.D.int (0 : Int))).toInt))).getD ((x6.getD x8.toNat (Go.Rai.D.int (0 : Int))).fld (0 : Nat)).toInt.toNat (Go.Rai.D.int (0 : Int))).toInt + (1 : Int)) < ((x9.set ((x6.getD x8.toNat (Go.Rai.D.int (0 : Int))).fld (0 : Nat)).toInt.toNat (Go.Rai.D.int (if Go.IntKind.i64.wrap ((x9.getD ((x6.getD x8.toNat (Go.Rai.D.int (0 : Int))).fld (1 : Nat)).toInt.toNat (Go.Rai.D.int (0 : Int))).toInt + (1 : Int)) < (x9.getD ((x6.getD x8.toNat (Go.Rai.D.int (0 : Int))).fld (0 : Nat)).toInt.toNat (Go.Rai.D.int (0 : Int))).toInt then Go.IntKind.i64.wrap ((x9.getD ((x6.getD x8.toNat (Go.Rai.D.int (0 : Int))).fld (1 : Nat)).toInt.toNat (Go.Rai.D.int (0 : Int))).toInt + (1 : Int)) else (x9.getD ((x6.getD x8.toNat (Go.Rai.D.int (0 : Int))).fld (0 : Nat)).toInt.toNat (Go.Rai.D.int (0 : Int))).toInt))).getD ((x6.getD x8.toNat (Go.Rai.D.int (0 : Int))).fld (1 : Nat)).toInt.toNat (Go.Rai.D.int (0 : Int))).toInt then Go.IntKind.i64.wrap (((x9.set ((x6.getD x8.toNat (Go.Rai.D.int (0 : Int))).fld (0 : Nat)).toInt.toNat (Go.Rai.D.int (if Go.IntKind.i64.wrap ((x9.getD ((x6.getD x8.toNat (Go.Rai.D.int (0 : Int))).fld (1 : Nat)).toInt.toNat (Go.Rai.D.int (0 : Int))).toInt + (1 : Int)) < (x9.getD ((x6.getD x8.toNat (Go.Rai.D.int (0 : Int))).fld (0 : Nat)).toInt.toNat (Go.Rai.D.int (0 : Int))).toInt then Go.IntKind.i64.wrap ((x9.getD ((x6.getD x8.toNat (Go.Rai.D.int (0 : Int))).fld (1 : Nat)).toInt.toNat (Go.Rai.D.int (0 : Int))).toInt + (1 : Int)) else (x9.getD ((x6.getD x8.toNat (Go.Rai.D.int (0 : Int))).fld (0 : Nat)).toInt.toNat (Go.Rai.D.int (0 : Int))).toInt))).getD ((x6.getD x8.toNat (Go.Rai.D.int (0 : Int))).fld (0 : Nat)).toInt.toNat (Go.Rai.D.int (0 : Int))).toInt + (1 : Int)) else ((x9.set ((x6.getD x8.toNat (Go.Rai.D.int (0 : Int))).fld (0 : Nat)).toInt.toNat (Go.Rai.D.int (if Go.IntKind.i64.wrap ((x9.getD ((x6.getD x8.toNat (Go.Rai.D.int (0 : Int))).fld (1 : Nat)).toInt.toNat (Go.Rai.D.int (0 : Int))).toInt + (1 : Int)) < (x9.getD ((x6.getD x8.toNat (Go.Rai.D.int (0 : Int))).fld (0 : Nat)).toInt.toNat (Go.Rai.D.int (0 : Int))).toInt then Go.IntKind.i64.wrap ((x9.getD ((x6.getD x8.toNat (Go.Rai.D.int (0 : Int))).fld (1 : Nat)).toInt.toNat (Go.Rai.D.int (0 : Int))).toInt + (1 : Int)) else (x9.getD ((x6.getD x8.toNat (Go.Rai.D.int (0 : Int))).fld (0 : Nat)).toInt.toNat (Go.Rai.D.int (0 : Int))).toInt))).getD ((x6.getD x8.toNat (Go.Rai.D.int (0 : Int))).fld (1 : Nat)).toInt.toNat (Go.Rai.D.int (0 : Int))).toInt)))).bind k
 else
 none
 else
 none
 else
 none
 else
 none
 else
 none
 else
 none
 else
 none
 else
 none
 else
 none
 else
 none
 else
 none
 else
 none
 else
 none
 else
 k (x0, x1, x2, x3, x4, x5, x9)
theorem c_impl_JoinPath_L9_bind {R : Type} (F : List D → Int → Int → Int → Int → Int → List D → Int → Int → List D → Option (List D × Int × Int × Int × Int × Int × List D)) (x0 : List D) (x1 : Int) (x2 : Int) (x3 : Int) (x4 : Int) (x5 : Int) (x6 : List D) (x7 : Int) (x8 : Int) (x9 : List D) (k : List D × Int × Int × Int × Int × Int × List D → Option R) : c_impl_JoinPath_L9 F x0 x1 x2 x3 x4 x5 x6 x7 x8 x9 k = (c_impl_JoinPath_L9 F x0 x1 x2 x3 x4 x5 x6 x7 x8 x9 some).bind k := by
  unfold c_impl_JoinPath_L9
  repeat' first
    | exact bnd_tail
    | exact bnd_none
    | exact bnd_leaf
    | apply bnd_ite
    | apply bnd_cond
    | apply bnd_sum
    | (apply bnd_bind; intro _)
    | intro _
def n_impl_JoinPath_L9 : Nat → List D → Int → Int → Int → Int → Int → List D → Int → Int → List D → Option (List D × Int × Int × Int × Int × Int × List D)
 | 0, _, _, _, _, _, _, _, _, _, _ => none
 | n + 1, x0, x1, x2, x3, x4, x5, x6, x7, x8, x9 => c_impl_JoinPath_L9 (n_impl_JoinPath_L9 n) x0 x1 x2 x3 x4 x5 x6 x7 x8 x9 some
noncomputable def impl_JoinPath_L9 (x0 : List D) (x1 : Int) (x2 : Int) (x3 : Int) (x4 : Int) (x5 : Int) (x6 : List D) (x7 : Int) (x8 : Int) (x9 : List D) : Option (List D × Int × Int × Int × Int × Int × List D) := ev (fun n => n_impl_JoinPath_L9 n x0 x1 x2 x3 x4 x5 x6 x7 x8 x9)
def m_impl_JoinPath_L9 (F : List D → Int → Int → Int → Int → Int → List D → Int → Int → List D → Option (List D × Int × Int × Int × Int × Int × List D)) : Lent := ⟨9, ⟨[.undef, .rd (.struct [.int .i64, .int .i64]), .int .i64, .int .i64, .undef, .undef, .undef, .undef, .undef, .undef, .int .i64, .full 1000 [] (.int .i64), .undef, .undef, .undef, .undef, .undef, .undef, .undef, .undef, .undef, .undef, .undef, .undef, .undef, .undef, .undef, .undef, .undef, .undef, .undef, .undef, .undef, .undef, .undef, .undef, .undef, .undef, .undef, .undef, .undef, .undef, .undef, .undef, .undef, .undef, .int .i64, .int .i64, .undef, .rd (.struct [.int .i64, .int .i64]), .int .i64, .int .i64, .undef, .undef, .undef, .undef, .undef, .undef, .undef, .undef, .undef, .undef, .undef, .undef, .undef, .undef, .undef, .undef, .undef, .undef, .undef, .undef, .undef, .undef, .undef, .undef, .undef, .undef, .undef, .undef, .undef, .undef, .undef, .undef, .undef, .undef, .undef, .undef, .undef, .undef, .undef, .undef, .undef, .undef, .undef, .undef, .undef, .undef, .undef, .undef, .undef, .undef, .undef, .undef, .undef, .undef, .undef, .undef, .undef, .undef, .undef, .undef, .undef, .undef, .undef, .undef, .undef, .undef, .undef, .undef, .undef, .undef, .undef, .undef, .undef, .undef, .undef, .undef, .undef, .undef, .undef, .undef, .undef, .undef, .undef, .undef, .undef, .undef, .undef, .undef, .undef, .undef, .undef, .undef, .undef, .undef, .undef, .undef, .undef, .undef, .undef, .undef, .undef, .undef, .undef, .undef, .undef], [(1000, .own (.int .i64))]⟩, [(.exit 2, ⟨[.undef, .rd (.struct [.int .i64, .int .i64]), .int .i64, .int .i64, .undef, .undef, .undef, .undef, .undef, .undef, .int .i64, .full 1000 [] (.int .i64), .undef, .undef, .undef, .undef, .undef, .undef, .undef, .undef, .undef, .undef, .undef, .undef, .undef, .undef, .undef, .undef, .undef, .undef, .undef, .undef, .undef, .undef, .undef, .undef, .undef, .undef, .undef, .undef, .undef, .undef, .undef, .undef, .undef, .undef, .int .i64, .int .i64, .undef, .undef, .undef, .undef, .undef, .undef, .undef, .undef, .undef, .undef, .undef, .undef, .undef, .undef, .undef, .undef, .undef, .undef, .undef, .undef, .undef, .undef, .undef, .undef, .undef, .undef, .undef, .undef, .undef, .undef, .undef, .undef, .undef, .undef, .undef, .undef, .undef, .undef, .undef, .undef, .undef, .undef, .undef, .undef, .undef, .undef, .undef, .undef, .undef, .undef, .undef, .undef, .undef, .undef, .undef, .undef, .undef, .undef, .undef, .undef, .undef, .undef, .undef, .undef, .undef, .undef, .undef, .undef, .undef, .undef, .undef, .undef, .undef, .undef, .undef, .undef, .undef, .undef, .undef, .undef, .undef, .undef, .undef, .undef, .undef, .undef, .undef, .undef, .undef, .undef, .undef, .undef, .undef, .undef, .undef, .undef, .undef, .undef, .undef, .undef, .undef, .undef, .undef, .undef, .undef, .undef, .undef, .undef, .undef], [(1000, .own (.int .i64))]⟩)], fun _ ds k => dL (fun x0 ds => dI (fun x1 ds => dI (fun x2 ds => dI (fun x3 ds => dI (fun x4 ds => dI (fun x5 ds => dL (fun x6 ds => dI (fun x7 ds => dI (fun x8 ds => dL (fun x9 ds => dE ((F x0 x1 x2 x3 x4 x5 x6 x7 x8 x9).bind (fun y => k 0 [.L y.1, .I y.2.1, .I y.2.2.1, .I y.2.2.2.1, .I y.2.2.2.2.1, .I y.2.2.2.2.2.1, .L y.2.2.2.2.2.2])) ds) ds) ds) ds) ds) ds) ds) ds) ds) ds) ds⟩
theorem q_impl_JoinPath_L9 (F : List D → Int → Int → Int → Int → Int → List D → Int → Int → List D → Option (List D × Int × Int × Int × Int × Int × List D)) (x0 : List D) (x1 : Int) (x2 : Int) (x3 : Int) (x4 : Int) (x5 : Int) (x6 : List D) (x7 : Int) (x8 : Int) (x9 : List D) : runLoop (ocOf []) (olOf [m_impl_JoinPath_L9 F]) A 45 (codeAt (bodyOf Go.Proofs.Try.f45) 9) ((m_impl_JoinPath_L9 F).sh.mk' [.L x0, .I x1, .I x2, .I x3, .I x4, .I x5, .L x6, .I x7, .I x8, .L x9]) (fun e σ' => some (e, σ')) = c_impl_JoinPath_L9 F x0 x1 x2 x3 x4 x5 x6 x7 x8 x9 (fun y => some (.exit 2, SSt.mk' ⟨[.undef, .rd (.struct [.int .i64, .int .i64]), .int .i64, .int .i64, .undef, .undef, .undef, .undef, .undef, .undef, .int .i64, .full 1000 [] (.int .i64), .undef, .undef, .undef, .undef, .undef, .undef, .undef, .undef, .undef, .undef, .undef, .undef, .undef, .undef, .undef, .undef, .undef, .undef, .undef, .undef, .undef, .undef, .undef, .undef, .undef, .undef, .undef, .undef, .undef, .undef, .undef, .undef, .undef, .undef, .int .i64, .int .i64, .undef, .undef, .undef, .undef, .undef, .undef, .undef, .undef, .undef, .undef, .undef, .undef, .undef, .undef, .undef, .undef, .undef, .undef, .undef, .undef, .undef, .undef, .undef, .undef, .undef, .undef, .undef, .undef, .undef, .undef, .undef, .undef, .undef, .undef, .undef, .undef, .undef, .undef, .undef, .undef, .undef, .undef, .undef, .undef, .undef, .undef, .undef, .undef, .undef, .undef, .undef, .undef, .undef, .undef, .undef, .undef, .undef, .undef, .undef, .undef, .undef, .undef, .undef, .undef, .undef, .undef, .undef, .undef, .undef, .undef, .undef, .undef, .undef, .undef, .undef, .undef, .undef, .undef, .undef, .undef, .undef, .undef, .undef, .undef, .undef, .undef, .undef, .undef, .undef, .undef, .undef, .undef, .undef, .undef, .undef, .undef, .undef, .undef, .undef, .undef, .undef, .undef, .undef, .undef, .undef, .undef, .undef, .undef, .undef], [(1000, .own (.int .i64))]⟩ [.L y.1, .I y.2.1, .I y.2.2.1, .I y.2.2.2.1, .I y.2.2.2.2.1, .I y.2.2.2.2.2.1, .L y.2.2.2.2.2.2])) := by kernel_rfl
theorem m_impl_JoinPath_L9_ok : ∀ n, (m_impl_JoinPath_L9 (n_impl_JoinPath_L9 n)).ok Go.Proofs.Try.prog (codeAt (bodyOf Go.Proofs.Try.f45) 9) := by
  intro n
  induction n with
  | zero =>
    intro R ds k r h
    unfold m_impl_JoinPath_L9 at h
    obtain ⟨x0, d0, rfl, h0⟩ := dL_some h
    obtain ⟨x1, d1, rfl, h1⟩ := dI_some h0
    obtain ⟨x2, d2, rfl, h2⟩ := dI_some h1
    obtain ⟨x3, d3, rfl, h3⟩ := dI_some h2
    obtain ⟨x4, d4, rfl, h4⟩ := dI_some h3
    obtain ⟨x5, d5, rfl, h5⟩ := dI_some h4
    obtain ⟨x6, d6, rfl, h6⟩ := dL_some h5
    obtain ⟨x7, d7, rfl, h7⟩ := dI_some h6
    obtain ⟨x8, d8, rfl, h8⟩ := dI_some h7
    obtain ⟨x9, d9, rfl, h9⟩ := dL_some h8
    obtain ⟨rfl, hE⟩ := dE_some h9
    obtain ⟨y, hy, hk⟩ := bnd_some hE
    cases hy
  | succ n ih =>
    intro R ds k r h
    unfold m_impl_JoinPath_L9 at h
    obtain ⟨x0, d0, rfl, h0⟩ := dL_some h
    obtain ⟨x1, d1, rfl, h1⟩ := dI_some h0
    obtain ⟨x2, d2, rfl, h2⟩ := dI_some h1
    obtain ⟨x3, d3, rfl, h3⟩ := dI_some h2
    obtain ⟨x4, d4, rfl, h4⟩ := dI_some h3
    obtain ⟨x5, d5, rfl, h5⟩ := dI_some h4
    obtain ⟨x6, d6, rfl, h6⟩ := dL_some h5
    obtain ⟨x7, d7, rfl, h7⟩ := dI_some h6
    obtain ⟨x8, d8, rfl, h8⟩ := dI_some h7
    obtain ⟨x9, d9, rfl, h9⟩ := dL_some h8
    obtain ⟨rfl, hE⟩ := dE_some h9
    obtain ⟨y, hy, hk⟩ := bnd_some hE
    have hq := q_impl_JoinPath_L9 (n_impl_JoinPath_L9 n) x0 x1 x2 x3 x4 x5 x6 x7 x8 x9
    rw [c_impl_JoinPath_L9_bind] at hq
    rw [show c_impl_JoinPath_L9 (n_impl_JoinPath_L9 n) x0 x1 x2 x3 x4 x5 x6 x7 x8 x9 some = some y from hy] at hq
    refine ⟨0, _, _, _, hk, rfl, loop_ok px (fx := ⟨Go.Proofs.Try.func45, by kernel_rfl, by kernel_rfl⟩) entsOK_nil (lentsOK_cons ih lentsOK_nil) (by kernel_rfl) ?_⟩
    exact hq
noncomputable def e_impl_JoinPath_L9 : Lent := m_impl_JoinPath_L9 (impl_JoinPath_L9)
theorem e_impl_JoinPath_L9_ok : (e_impl_JoinPath_L9).ok Go.Proofs.Try.prog (codeAt (bodyOf Go.Proofs.Try.f45) 9) := by
  intro R ds k r h
  unfold e_impl_JoinPath_L9 m_impl_JoinPath_L9 at h
  obtain ⟨x0, d0, rfl, h0⟩ := dL_some h
  obtain ⟨x1, d1, rfl, h1⟩ := dI_some h0
  obtain ⟨x2, d2, rfl, h2⟩ := dI_some h1
  obtain ⟨x3, d3, rfl, h3⟩ := dI_some h2
  obtain ⟨x4, d4, rfl, h4⟩ := dI_some h3
  obtain ⟨x5, d5, rfl, h5⟩ := dI_some h4
  obtain ⟨x6, d6, rfl, h6⟩ := dL_some h5
  obtain ⟨x7, d7, rfl, h7⟩ := dI_some h6
  obtain ⟨x8, d8, rfl, h8⟩ := dI_some h7
  obtain ⟨x9, d9, rfl, h9⟩ := dL_some h8
  obtain ⟨rfl, hE⟩ := dE_some h9
  obtain ⟨y, hy, hk⟩ := bnd_some hE
  obtain ⟨n, hn⟩ := ev_some hy
  exact m_impl_JoinPath_L9_ok n R _ k r (show (n_impl_JoinPath_L9 n x0 x1 x2 x3 x4 x5 x6 x7 x8 x9).bind _ = _ by rw [hn]; exact hk)

/-! loop.example/g00876/impl.JoinPath, loop 7 -/
def c_impl_JoinPath_L7 {R : Type} (F : List D → Int → Int → Int → Int → Int → List D → Option (List D × Int × Int × Int × List D)) (x0 : List D) (x1 : Int) (x2 : Int) (x3 : Int) (x4 : Int) (x5 : Int) (x6 : List D) (k : List D × Int × Int × Int × List D → Option R) : Option R :=
 bif Decidable.decide (x5 < x4) then
 (impl_JoinPath_L9 x0 x1 x2 x3 x4 x5 x0 (↑x0.length : Int) (0 : Int) x6).bind (fun y0 =>
 (F y0.fst y0.snd.fst y0.snd.snd.fst y0.snd.snd.snd.fst y0.snd.snd.snd.snd.fst (Go.IntKind.i64.wrap (y0.snd.snd.snd.snd.snd.fst + (1 : Int))) y0.snd.snd.snd.snd.snd.snd).bind k)
 else
 k (x0, x1, x2, x3, x6)
theorem c_impl_JoinPath_L7_bind {R : Type} (F : List D → Int → Int → Int → Int → Int → List D → Option (List D × Int × Int × Int × List D)) (x0 : List D) (x1 : Int) (x2 : Int) (x3 : Int) (x4 : Int) (x5 : Int) (x6 : List D) (k : List D × Int × Int × Int × List D → Option R) : c_impl_JoinPath_L7 F x0 x1 x2 x3 x4 x5 x6 k = (c_impl_JoinPath_L7 F x0 x1 x2 x3 x4 x5 x6 some).bind k := by
  unfold c_impl_JoinPath_L7
  repeat' first
    | exact bnd_tail
    | exact bnd_none
    | exact bnd_leaf
    | apply bnd_ite
    | apply bnd_cond
    | apply bnd_sum
    | (apply bnd_bind; intro _)
    | intro _
def n_impl_JoinPath_L7 : Nat → List D → Int → Int → Int → Int → Int → List D → Option (List D × Int × Int × Int × List D)
 | 0, _, _, _, _, _, _, _ => none
 | n + 1, x0, x1, x2, x3, x4, x5, x6 => c_impl_JoinPath_L7 (n_impl_JoinPath_L7 n) x0 x1 x2 x3 x4 x5 x6 some
noncomputable def impl_JoinPath_L7 (x0 : List D) (x1 : Int) (x2 : Int) (x3 : Int) (x4 : Int) (x5 : Int) (x6 : List D) : Option (List D × Int × Int × Int × List D) := ev (fun n => n_impl_JoinPath_L7 n x0 x1 x2 x3 x4 x5 x6)
def m_impl_JoinPath_L7 (F : List D → Int → Int → Int → Int → Int → List D → Option (List D × Int × Int × Int × List D)) : Lent := ⟨7, ⟨[.undef, .rd (.struct [.int .i64, .int .i64]), .int .i64, .int .i64, .undef, .undef, .undef, .undef, .undef, .undef, .int .i64, .full 1000 [] (.int .i64), .undef, .undef, .undef, .undef, .undef, .undef, .undef, .undef, .undef, .undef, .undef, .undef, .undef, .undef, .undef, .undef, .undef, .undef, .undef, .undef, .undef, .undef, .undef, .undef, .undef, .undef, .undef, .undef, .undef, .undef, .undef, .undef, .undef, .undef, .int .i64, .int .i64, .undef, .undef, .undef, .undef, .undef, .undef, .undef, .undef, .undef, .undef, .undef, .undef, .undef, .undef, .undef, .undef, .undef, .undef, .undef, .undef, .undef, .undef, .undef, .undef, .undef, .undef, .undef, .undef, .undef, .undef, .undef, .undef, .undef, .undef, .undef, .undef, .undef, .undef, .undef, .undef, .undef, .undef, .undef, .undef, .undef, .undef, .undef, .undef, .undef, .undef, .undef, .undef, .undef, .undef, .undef, .undef, .undef, .undef, .undef, .undef, .undef, .undef, .undef, .undef, .undef, .undef, .undef, .undef, .undef, .undef, .undef, .undef, .undef, .undef, .undef, .undef, .undef, .undef, .undef, .undef, .undef, .undef, .undef, .undef, .undef, .undef, .undef, .undef, .undef, .undef, .undef, .undef, .undef, .undef, .undef, .undef, .undef, .undef, .undef, .undef, .undef, .undef, .undef, .undef, .undef, .undef, .undef, .undef, .undef], [(1000, .own (.int .i64))]⟩, [(.exit 0, ⟨[.undef, .rd (.struct [.int .i64, .int .i64]), .int .i64, .int .i64, .undef, .undef, .undef, .undef, .undef, .undef, .int .i64, .full 1000 [] (.int .i64), .undef, .undef, .undef, .undef, .undef, .undef, .undef, .undef, .undef, .undef, .undef, .undef, .undef, .undef, .undef, .undef, .undef, .undef, .undef, .undef, .undef, .undef, .undef, .undef, .undef, .undef, .undef, .undef, .undef, .undef, .undef, .undef, .undef, .undef, .undef, .undef, .undef, .undef, .undef, .undef, .undef, .undef, .undef, .undef, .undef, .undef, .undef, .undef, .undef, .undef, .undef, .undef, .undef, .undef, .undef, .undef, .undef, .undef, .undef, .undef, .undef, .undef, .undef, .undef, .undef, .undef, .undef, .undef, .undef, .undef, .undef, .undef, .undef, .undef, .undef, .undef, .undef, .undef, .undef, .undef, .undef, .undef, .undef, .undef, .undef, .undef, .undef, .undef, .undef, .undef, .undef, .undef, .undef, .undef, .undef, .undef, .undef, .undef, .undef, .undef, .undef, .undef, .undef, .undef, .undef, .undef, .undef, .undef, .undef, .undef, .undef, .undef, .undef, .undef, .undef, .undef, .undef, .undef, .undef, .undef, .undef, .undef, .undef, .undef, .undef, .undef, .undef, .undef, .undef, .undef, .undef, .undef, .undef, .undef, .undef, .undef, .undef, .undef, .undef, .undef, .undef, .undef, .undef, .undef, .undef], [(1000, .own (.int .i64))]⟩)], fun _ ds k => dL (fun x0 ds => dI (fun x1 ds => dI (fun x2 ds => dI (fun x3 ds => dI (fun x4 ds => dI (fun x5 ds => dL (fun x6 ds => dE ((F x0 x1 x2 x3 x4 x5 x6).bind (fun y => k 0 [.L y.1, .I y.2.1, .I y.2.2.1, .I y.2.2.2.1, .L y.2.2.2.2])) ds) ds) ds) ds) ds) ds) ds) ds⟩
theorem q_impl_JoinPath_L7 (F : List D → Int → Int → Int → Int → Int → List D → Option (List D × Int × Int × Int × List D)) (x0 : List D) (x1 : Int) (x2 : Int) (x3 : Int) (x4 : Int) (x5 : Int) (x6 : List D) : runLoop (ocOf []) (olOf [m_impl_JoinPath_L7 F, e_impl_JoinPath_L9]) A 45 (codeAt (bodyOf Go.Proofs.Try.f45) 7) ((m_impl_JoinPath_L7 F).sh.mk' [.L x0, .I x1, .I x2, .I x3, .I x4, .I x5, .L x6]) (fun e σ' => some (e, σ')) = c_impl_JoinPath_L7 F x0 x1 x2 x3 x4 x5 x6 (fun y => some (.exit 0, SSt.mk' ⟨[.undef, .rd (.struct [.int .i64, .int .i64]), .int .i64, .int .i64, .undef, .undef, .undef, .undef, .undef, .undef, .int .i64, .full 1000 [] (.int .i64), .undef, .undef, .undef, .undef, .undef, .undef, .undef, .undef, .undef, .undef, .undef, .undef, .undef, .undef, .undef, .undef, .undef, .undef, .undef, .undef, .undef, .undef, .undef, .undef, .undef, .undef, .undef, .undef, .undef, .undef, .undef, .undef, .undef, .undef, .undef, .undef, .undef, .undef, .undef, .undef, .undef, .undef, .undef, .undef, .undef, .undef, .undef, .undef, .undef, .undef, .undef, .undef, .undef, .undef, .undef, .undef, .undef, .undef, .undef, .undef, .undef, .undef, .undef, .undef, .undef, .undef, .undef, .undef, .undef, .undef, .undef, .undef, .undef, .undef, .undef, .undef, .undef, .undef, .undef, .undef, .undef, .undef, .undef, .undef, .undef, .undef, .undef, .undef, .undef, .undef, .undef, .undef, .undef, .undef, .undef, .undef, .undef, .undef, .undef, .undef, .undef, .undef, .undef, .undef, .undef, .undef, .undef, .undef, .undef, .undef, .undef, .undef, .undef, .undef, .undef, .undef, .undef, .undef, .undef, .undef, .undef, .undef, .undef, .undef, .undef, .undef, .undef, .undef, .undef, .undef, .undef, .undef, .undef, .undef, .undef, .undef, .undef, .undef, .undef, .undef, .undef, .undef, .undef, .undef, .undef], [(1000, .own (.int .i64))]⟩ [.L y.1, .I y.2.1, .I y.2.2.1, .I y.2.2.2.1, .L y.2.2.2.2])) := by kernel_rfl
theorem m_impl_JoinPath_L7_ok : ∀ n, (m_impl_JoinPath_L7 (n_impl_JoinPath_L7 n)).ok Go.Proofs.Try.prog (codeAt (bodyOf Go.Proofs.Try.f45) 7) := by
  intro n
  induction n with
  | zero =>
    intro R ds k r h
    unfold m_impl_JoinPath_L7 at h
    obtain ⟨x0, d0, rfl, h0⟩ := dL_some h
    obtain ⟨x1, d1, rfl, h1⟩ := dI_some h0
    obtain ⟨x2, d2, rfl, h2⟩ := dI_some h1
    obtain ⟨x3, d3, rfl, h3⟩ := dI_some h2
    obtain ⟨x4, d4, rfl, h4⟩ := dI_some h3
    obtain ⟨x5, d5, rfl, h5⟩ := dI_some h4
    obtain ⟨x6, d6, rfl, h6⟩ := dL_some h5
    obtain ⟨rfl, hE⟩ := dE_some h6
    obtain ⟨y, hy, hk⟩ := bnd_some hE
    cases hy
  | succ n ih =>
    intro R ds k r h
    unfold m_impl_JoinPath_L7 at h
    obtain ⟨x0, d0, rfl, h0⟩ := dL_some h
    obtain ⟨x1, d1, rfl, h1⟩ := dI_some h0
    obtain ⟨x2, d2, rfl, h2⟩ := dI_some h1
    obtain ⟨x3, d3, rfl, h3⟩ := dI_some h2
    obtain ⟨x4, d4, rfl, h4⟩ := dI_some h3
    obtain ⟨x5, d5, rfl, h5⟩ := dI_some h4
    obtain ⟨x6, d6, rfl, h6⟩ := dL_some h5
    obtain ⟨rfl, hE⟩ := dE_some h6
    obtain ⟨y, hy, hk⟩ := bnd_some hE
    have hq := q_impl_JoinPath_L7 (n_impl_JoinPath_L7 n) x0 x1 x2 x3 x4 x5 x6
    rw [c_impl_JoinPath_L7_bind] at hq
    rw [show c_impl_JoinPath_L7 (n_impl_JoinPath_L7 n) x0 x1 x2 x3 x4 x5 x6 some = some y from hy] at hq
    refine ⟨0, _, _, _, hk, rfl, loop_ok px (fx := ⟨Go.Proofs.Try.func45, by kernel_rfl, by kernel_rfl⟩) entsOK_nil (lentsOK_cons ih (lentsOK_cons e_impl_JoinPath_L9_ok lentsOK_nil)) (by kernel_rfl) ?_⟩
    exact hq
noncomputable def e_impl_JoinPath_L7 : Lent := m_impl_JoinPath_L7 (impl_JoinPath_L7)
theorem e_impl_JoinPath_L7_ok : (e_impl_JoinPath_L7).ok Go.Proofs.Try.prog (codeAt (bodyOf Go.Proofs.Try.f45) 7) := by
  intro R ds k r h
  unfold e_impl_JoinPath_L7 m_impl_JoinPath_L7 at h
  obtain ⟨x0, d0, rfl, h0⟩ := dL_some h
  obtain ⟨x1, d1, rfl, h1⟩ := dI_some h0
  obtain ⟨x2, d2, rfl, h2⟩ := dI_some h1
  obtain ⟨x3, d3, rfl, h3⟩ := dI_some h2
  obtain ⟨x4, d4, rfl, h4⟩ := dI_some h3
  obtain ⟨x5, d5, rfl, h5⟩ := dI_some h4
  obtain ⟨x6, d6, rfl, h6⟩ := dL_some h5
  obtain ⟨rfl, hE⟩ := dE_some h6
  obtain ⟨y, hy, hk⟩ := bnd_some hE
  obtain ⟨n, hn⟩ := ev_some hy
  exact m_impl_JoinPath_L7_ok n R _ k r (show (n_impl_JoinPath_L7 n x0 x1 x2 x3 x4 x5 x6).bind _ = _ by rw [hn]; exact hk)

/-! loop.example/g00876/impl.JoinPath, loop 22 -/
def c_impl_JoinPath_L22 {R : Type} (F : List D → Int → Int → Int → Int → List D → Int → Int → List D → List D → Option (List D × Int × Int × Int × Int × List D × List D)) (x0 : List D) (x1 : Int) (x2 : Int) (x3 : Int) (x4 : Int) (x5 : List D) (x6 : Int) (x7 : Int) (x8 : List D) (x9 : List D) (k : List D × Int × Int × Int × Int × List D × List D → Option R) : Option R :=
 bif Decidable.decide (x7 < x6) then
 if (0 : Int) ≤ x7 ∧ x7 < (↑x5.length : Int) then
 bif Decidable.decide (((x5.getD x7.toNat (Go.Rai.D.int (0 : Int))).fld (0 : Nat)).toInt = x3) then
 if (0 : Int) ≤ ((x5.getD x7.toNat (Go.Rai.D.int (0 : Int))).fld (1 : Nat)).toInt ∧ ((x5.getD x7.toNat (Go.Rai.D.int (0 : Int))).fld (1 : Nat)).toInt < (↑x8.length : Int) then
 if ((x5.getD x7.toNat (Go.Rai.D.int (0 : Int))).fld (1 : Nat)).toInt.toNat + (1 : Nat) ≤ x8.length then
 if (0 : Int) ≤ x3 ∧ x3 < (↑x8.length : Int) then
 if x3.toNat + (1 : Nat) ≤ x8.length then
 bif Decidable.decide ((x8.getD ((x5.getD x7.toNat (Go.Rai.D.int (0 : Int))).fld (1 : Nat)).toInt.toNat (Go.Rai.D.int (0 : Int))).toInt = Go.IntKind.i64.wrap ((x8.getD x3.toNat (Go.Rai.D.int (0 : Int))).toInt - (1 : Int))) then
 bif Decidable.decide (((x5.getD x7.toNat (Go.Rai.D.int (0 : Int))).fld (1 : Nat)).toInt = x3) then
 if (0 : Int) ≤ ((x5.getD x7.toNat (Go.Rai.D.int (0 : Int))).fld (0 : Nat)).toInt ∧ ((x5.getD x7.toNat (Go.Rai.D.int (0 : Int))).fld (0 : Nat)).toInt < (↑x8.length : Int) then
 if ((x5.getD x7.toNat (Go.Rai.D.int (0 : Int))).fld (0 : Nat)).toInt.toNat + (1 : Nat) ≤ x8.length then
 if (0 : Int) ≤ x3 ∧ x3 < (↑x8.length : Int) then
 if x3.toNat + (1 : Nat) ≤ x8.length then
 bif Decidable.decide ((x8.getD ((x5.getD x7.toNat (Go.Rai.D.int (0 : Int))).fld (0 : Nat)).toInt.toNat (Go.Rai.D.int (0 : Int))).toInt = Go.IntKind.i64.wrap ((x8.getD x3.toNat (Go.Rai.D.int (0 : Int))).toInt - (1 : Int))) then
 (F x0 x1 x2 x3 (if ((x5.getD x7.toNat (Go.Rai.D.int (0 : Int))).fld (0 : Nat)).toInt < if ((x5.getD x7.toNat (Go.Rai.D.int (0 : Int))).fld (1 : Nat)).toInt < x4 then ((x5.getD x7.toNat (Go.Rai.D.int (0 : Int))).fld (1 : Nat)).toInt else x4 then ((x5.getD x7.toNat (Go.Rai.D.int (0 : Int))).fld (0 : Nat)).toInt else if ((x5.getD x7.toNat (Go.Rai.D.int (0 : Int))).fld (1 : Nat)).toInt < x4 then ((x5.getD x7.toNat (Go.Rai.D.int (0 : Int))).fld (1 : Nat)).toInt else x4) x5 x6 (Go.IntKind.i64.wrap (x7 + (1 : Int))) x8 x9).bind k
 else
 (F x0 x1 x2 x3 (if ((x5.getD x7.toNat (Go.Rai.D.int (0 : Int))).fld (1 : Nat)).toInt < x4 then ((x5.getD x7.toNat (Go.Rai.D.int (0 : Int))).fld (1 : Nat)).toInt else x4) x5 x6 (Go.IntKind.i64.wrap (x7 + (1 : Int))) x8 x9).bind k
 else
 none
 else
 none
 else
 none
 else
 none
 else
 (F x0 x1 x2 x3 (if ((x5.getD x7.toNat (Go.Rai.D.int (0 : Int))).fld (1 : Nat)).toInt < x4 then ((x5.getD x7.toNat (Go.Rai.D.int (0 : Int))).fld (1 : Nat)).toInt else x4) x5 x6 (Go.IntKind.i64.wrap (x7 + (1 : Int))) x8 x9).bind k
 else
 bif Decidable.decide (((x5.getD x7.toNat (Go.Rai.D.int (0 : Int))).fld (1 : Nat)).toInt = x3) then
 if (0 : Int) ≤ ((x5.getD x7.toNat (Go.Rai.D.int (0 : Int))).fld (0 : Nat)).toInt ∧ ((x5.getD x7.toNat (Go.Rai.D.int (0 : Int))).fld (0 : Nat)).toInt < (↑x8.length : Int) then
 if ((x5.getD x7.toNat (Go.Rai.D.int (0 : Int))).fld (0 : Nat)).toInt.toNat + (1 : Nat) ≤ x8.length then
 if (0 : Int) ≤ x3 ∧ x3 < (↑x8.length : Int) then
 if x3.toNat + (1 : Nat) ≤ x8.length then
 bif Decidable.decide ((x8.getD ((x5.getD x7.toNat (Go.Rai.D.int (0 : Int))).fld (0 : Nat)).toInt.toNat (Go.Rai.D.int (0 : Int))).toInt = Go.IntKind.i64.wrap ((x8.getD x3.toNat (Go.Rai.D.int (0 : Int))).toInt - (1 : Int))) then
 (F x0 x1 x2 x3 (if ((x5.getD x7.toNat (Go.Rai.D.int (0 : Int))).fld (0 : Nat)).toInt < x4 then ((x5.getD x7.toNat (Go.Rai.D.int (0 : Int))).fld (0 : Nat)).toInt else x4) x5 x6 (Go.IntKind.i64.wrap (x7 + (1 : Int))) x8 x9).bind k
 else
 (F x0 x1 x2 x3 x4 x5 x6 (Go.IntKind.i64.wrap (x7 + (1 : Int))) x8 x9).bind k
 else
 none
 else
 none
 else
 none
 else
 none
 else
 (F x0 x1 x2 x3 x4 x5 x6 (Go.IntKind.i64.wrap (x7 + (1 : Int))) x8 x9).bind k
 else
 none
 else
 none
 else
 none
 else
 none
 else
 bif Decidable.decide (((x5.getD x7.toNat (Go.Rai.D.int (0 : Int))).fld (1 : Nat)).toInt = x3) then
 if (0 : Int) ≤ ((x5.getD x7.toNat (Go.Rai.D.int (0 : Int))).fld (0 : Nat)).toInt ∧ ((x5.getD x7.toNat (Go.Rai.D.int (0 : Int))).fld (0 : Nat)).toInt < (↑x8.length : Int) then
 if ((x5.getD x7.toNat (Go.Rai.D.int (0 : Int))).fld (0 : Nat)).toInt.toNat + (1 : Nat) ≤ x8.length then
 if (0 : Int) ≤ x3 ∧ x3 < (↑x8.length : Int) then
 if x3.toNat + (1 : Nat) ≤ x8.length then
 bif Decidable.decide ((x8.getD ((x5.getD x7.toNat (Go.Rai.D.int (0 : Int))).fld (0 : Nat)).toInt.toNat (Go.Rai.D.int (0 : Int))).toInt = Go.IntKind.i64.wrap ((x8.getD x3.toNat (Go.Rai.D.int (0 : Int))).toInt - (1 : Int))) then
 (F x0 x1 x2 x3 (if ((x5.getD x7.toNat (Go.Rai.D.int (0 : Int))).fld (0 : Nat)).toInt < x4 then ((x5.getD x7.toNat (Go.Rai.D.int (0 : Int))).fld (0 : Nat)).toInt else x4) x5 x6 (Go.IntKind.i64.wrap (x7 + (1 : Int))) x8 x9).bind k
 else
 (F x0 x1 x2 x3 x4 x5 x6 (Go.IntKind.i64.wrap (x7 + (1 : Int))) x8 x9).bind k
 else
 none
 else
 none
 else
 none
 else
 none
 else
 (F x0 x1 x2 x3 x4 x5 x6 (Go.IntKind.i64.wrap (x7 + (1 : Int))) x8 x9).bind k
 else
 none
 else
 k (x0, x1, x2, x3, x4, x8, x9)
theorem c_impl_JoinPath_L22_bind {R : Type} (F : List D → Int → Int → Int → Int → List D → Int → Int → List D → List D → Option (List D × Int × Int × Int × Int × List D × List D)) (x0 : List D) (x1 : Int) (x2 : Int) (x3 : Int) (x4 : Int) (x5 : List D) (x6 : Int) (x7 : Int) (x8 : List D) (x9 : List D) (k : List D × Int × Int × Int × Int × List D × List D → Option R) : c_impl_JoinPath_L22 F x0 x1 x2 x3 x4 x5 x6 x7 x8 x9 k = (c_impl_JoinPath_L22 F x0 x1 x2 x3 x4 x5 x6 x7 x8 x9 some).bind k := by
  unfold c_impl_JoinPath_L22
  repeat' first
    | exact bnd_tail
    | exact bnd_none
    | exact bnd_leaf
    | apply bnd_ite
    | apply bnd_cond
    | apply bnd_sum
    | (apply bnd_bind; intro _)
    | intro _
def n_impl_JoinPath_L22 : Nat → List D → Int → Int → Int → Int → List D → Int → Int → List D → List D → Option (List D × Int × Int × Int × Int × List D × List D)
 | 0, _, _, _, _, _, _, _, _, _, _ => none
 | n + 1, x0, x1, x2, x3, x4, x5, x6, x7, x8, x9 => c_impl_JoinPath_L22 (n_impl_JoinPath_L22 n) x0 x1 x2 x3 x4 x5 x6 x7 x8 x9 some
noncomputable def impl_JoinPath_L22 (x0 : List D) (x1 : Int) (x2 : Int) (x3 : Int) (x4 : Int) (x5 : List D) (x6 : Int) (x7 : Int) (x8 : List D) (x9 : List D) : Option (List D × Int × Int × Int × Int × List D × List D) := ev (fun n => n_impl_JoinPath_L22 n x0 x1 x2 x3 x4 x5 x6 x7 x8 x9)
def m_impl_JoinPath_L22 (F : List D → Int → Int → Int → Int → List D → Int → Int → List D → List D → Option (List D × Int × Int × Int × Int × List D × List D)) : Lent := ⟨22, ⟨[.undef, .rd (.struct [.int .i64, .int .i64]), .undef, .int .i64, .undef, .undef, .undef, .undef, .undef, .undef, .int .i64, .full 1000 [] (.int .i64), .undef, .undef, .full 1001 [] (.int .i64), .int .i64, .int .i64, .undef, .undef, .undef, .undef, .undef, .undef, .undef, .undef, .undef, .undef, .undef, .undef, .undef, .undef, .undef, .undef, .undef, .undef, .undef, .undef, .undef, .undef, .undef, .undef, .undef, .undef, .undef, .undef, .undef, .undef, .undef, .undef, .undef, .undef, .undef, .undef, .undef, .undef, .undef, .undef, .undef, .undef, .undef, .undef, .undef, .undef, .undef, .undef, .undef, .undef, .undef, .undef, .undef, .undef, .undef, .undef, .undef, .undef, .undef, .undef, .undef, .undef, .undef, .undef, .undef, .undef, .undef, .undef, .undef, .undef, .undef, .undef, .undef, .undef, .undef, .undef, .undef, .undef, .undef, .undef, .undef, .undef, .undef, .undef, .undef, .rd (.struct [.int .i64, .int .i64]), .int .i64, .int .i64, .undef, .undef, .undef, .undef, .undef, .undef, .undef, .undef, .undef, .undef, .undef, .undef, .undef, .undef, .undef, .undef, .undef, .undef, .undef, .undef, .undef, .undef, .undef, .undef, .undef, .undef, .undef, .undef, .undef, .undef, .undef, .undef, .undef, .undef, .undef, .undef, .undef, .undef, .undef, .undef, .undef, .undef, .undef, .undef, .undef, .undef, .undef, .undef, .undef, .undef, .undef, .undef], [(1000, .own (.int .i64)), (1001, .own (.int .i64))]⟩, [(.exit 6, ⟨[.undef, .rd (.struct [.int .i64, .int .i64]), .undef, .int .i64, .undef, .undef, .undef, .undef, .undef, .undef, .int .i64, .full 1000 [] (.int .i64), .undef, .undef, .full 1001 [] (.int .i64), .int .i64, .int .i64, .undef, .undef, .undef, .undef, .undef, .undef, .undef, .undef, .undef, .undef, .undef, .undef, .undef, .undef, .undef, .undef, .undef, .undef, .undef, .undef, .undef, .undef, .undef, .undef, .undef, .undef, .undef, .undef, .undef, .undef, .undef, .undef, .undef, .undef, .undef, .undef, .undef, .undef, .undef, .undef, .undef, .undef, .undef, .undef, .undef, .undef, .undef, .undef, .undef, .undef, .undef, .undef, .undef, .undef, .undef, .undef, .undef, .undef, .undef, .undef, .undef, .undef, .undef, .undef, .undef, .undef, .undef, .undef, .undef, .undef, .undef, .undef, .undef, .undef, .undef, .undef, .undef, .undef, .undef, .undef, .undef, .undef, .undef, .undef, .undef, .undef, .undef, .undef, .undef, .undef, .undef, .undef, .undef, .undef, .undef, .undef, .undef, .undef, .undef, .undef, .undef, .undef, .undef, .undef, .undef, .undef, .undef, .undef, .undef, .undef, .undef, .undef, .undef, .undef, .undef, .undef, .undef, .undef, .undef, .undef, .undef, .undef, .undef, .undef, .undef, .undef, .undef, .undef, .undef, .undef, .undef, .undef, .undef, .undef, .undef, .undef, .undef, .undef, .undef, .undef], [(1000, .own (.int .i64)), (1001, .own (.int .i64))]⟩)], fun _ ds k => dL (fun x0 ds => dI (fun x1 ds => dI (fun x2 ds => dI (fun x3 ds => dI (fun x4 ds => dL (fun x5 ds => dI (fun x6 ds => dI (fun x7 ds => dL (fun x8 ds => dL (fun x9 ds => dE ((F x0 x1 x2 x3 x4 x5 x6 x7 x8 x9).bind (fun y => k 0 [.L y.1, .I y.2.1, .I y.2.2.1, .I y.2.2.2.1, .I y.2.2.2.2.1, .L y.2.2.2.2.2.1, .L y.2.2.2.2.2.2])) ds) ds) ds) ds) ds) ds) ds) ds) ds) ds) ds⟩
theorem q_impl_JoinPath_L22 (F : List D → Int → Int → Int → Int → List D → Int → Int → List D → List D → Option (List D × Int × Int × Int × Int × List D × List D)) (x0 : List D) (x1 : Int) (x2 : Int) (x3 : Int) (x4 : Int) (x5 : List D) (x6 : Int) (x7 : Int) (x8 : List D) (x9 : List D) : runLoop (ocOf []) (olOf [m_impl_JoinPath_L22 F]) A 45 (codeAt (bodyOf Go.Proofs.Try.f45) 22) ((m_impl_JoinPath_L22 F).sh.mk' [.L x0, .I x1, .I x2, .I x3, .I x4, .L x5, .I x6, .I x7, .L x8, .L x9]) (fun e σ' => some (e, σ')) = c_impl_JoinPath_L22 F x0 x1 x2 x3 x4 x5 x6 x7 x8 x9 (fun y => some (.exit 6, SSt.mk' ⟨[.undef, .rd (.struct [.int .i64, .int .i64]), .undef, .int .i64, .undef, .undef, .undef, .undef, .undef, .undef, .int .i64, .full 1000 [] (.int .i64), .undef, .undef, .full 1001 [] (.int .i64), .int .i64, .int .i64, .undef, .undef, .undef, .undef, .undef, .undef, .undef, .undef, .undef, .undef, .undef, .undef, .undef, .undef, .undef, .undef, .undef, .undef, .undef, .undef, .undef, .undef, .undef, .undef, .undef, .undef, .undef, .undef, .undef, .undef, .undef, .undef, .undef, .undef, .undef, .undef, .undef, .undef, .undef, .undef, .undef, .undef, .undef, .undef, .undef, .undef, .undef, .undef, .undef, .undef, .undef, .undef, .undef, .undef, .undef, .undef, .undef, .undef, .undef, .undef, .undef, .undef, .undef, .undef, .undef, .undef, .undef, .undef, .undef, .undef, .undef, .undef, .undef, .undef, .undef, .undef, .undef, .undef, .undef, .undef, .undef, .undef, .undef, .undef, .undef, .undef, .undef, .undef, .undef, .undef, .undef, .undef, .undef, .undef, .undef, .undef, .undef, .undef, .undef, .undef, .undef, .undef, .undef, .undef, .undef, .undef, .undef, .undef, .undef, .undef, .undef, .undef, .undef, .undef, .undef, .undef, .undef, .undef, .undef, .undef, .undef, .undef, .undef, .undef, .undef, .undef, .undef, .undef, .undef, .undef, .undef, .undef, .undef, .undef, .undef, .undef, .undef, .undef, .undef, .undef], [(1000, .own (.int .i64)), (1001, .own (.int .i64))]⟩ [.L y.1, .I y.2.1, .I y.2.2.1, .I y.2.2.2.1, .I y.2.2.2.2.1, .L y.2.2.2.2.2.1, .L y.2.2.2.2.2.2])) := by kernel_rfl
theorem m_impl_JoinPath_L22_ok : ∀ n, (m_impl_JoinPath_L22 (n_impl_JoinPath_L22 n)).ok Go.Proofs.Try.prog (codeAt (bodyOf Go.Proofs.Try.f45) 22) := by
  intro n
  induction n with
  | zero =>
    intro R ds k r h
    unfold m_impl_JoinPath_L22 at h
    obtain ⟨x0, d0, rfl, h0⟩ := dL_some h
    obtain ⟨x1, d1, rfl, h1⟩ := dI_some h0
    obtain ⟨x2, d2, rfl, h2⟩ := dI_some h1
    obtain ⟨x3, d3, rfl, h3⟩ := dI_some h2
    obtain ⟨x4, d4, rfl, h4⟩ := dI_some h3
    obtain ⟨x5, d5, rfl, h5⟩ := dL_some h4
    obtain ⟨x6, d6, rfl, h6⟩ := dI_some h5
    obtain ⟨x7, d7, rfl, h7⟩ := dI_some h6
    obtain ⟨x8, d8, rfl, h8⟩ := dL_some h7
    obtain ⟨x9, d9, rfl, h9⟩ := dL_some h8
    obtain ⟨rfl, hE⟩ := dE_some h9
    obtain ⟨y, hy, hk⟩ := bnd_some hE
    cases hy
  | succ n ih =>
    intro R ds k r h
    unfold m_impl_JoinPath_L22 at h
    obtain ⟨x0, d0, rfl, h0⟩ := dL_some h
    obtain ⟨x1, d1, rfl, h1⟩ := dI_some h0
    obtain ⟨x2, d2, rfl, h2⟩ := dI_some h1
    obtain ⟨x3, d3, rfl, h3⟩ := dI_some h2
    obtain ⟨x4, d4, rfl, h4⟩ := dI_some h3
    obtain ⟨x5, d5, rfl, h5⟩ := dL_some h4
    obtain ⟨x6, d6, rfl, h6⟩ := dI_some h5
    obtain ⟨x7, d7, rfl, h7⟩ := dI_some h6
    obtain ⟨x8, d8, rfl, h8⟩ := dL_some h7
    obtain ⟨x9, d9, rfl, h9⟩ := dL_some h8
    obtain ⟨rfl, hE⟩ := dE_some h9
    obtain ⟨y, hy, hk⟩ := bnd_some hE
    have hq := q_impl_JoinPath_L22 (n_impl_JoinPath_L22 n) x0 x1 x2 x3 x4 x5 x6 x7 x8 x9
    rw [c_impl_JoinPath_L22_bind] at hq
    rw [show c_impl_JoinPath_L22 (n_impl_JoinPath_L22 n) x0 x1 x2 x3 x4 x5 x6 x7 x8 x9 some = some y from hy] at hq
    refine ⟨0, _, _, _, hk, rfl, loop_ok px (fx := ⟨Go.Proofs.Try.func45, by kernel_rfl, by kernel_rfl⟩) entsOK_nil (lentsOK_cons ih lentsOK_nil) (by kernel_rfl) ?_⟩
    exact hq
noncomputable def e_impl_JoinPath_L22 : Lent := m_impl_JoinPath_L22 (impl_JoinPath_L22)
theorem e_impl_JoinPath_L22_ok : (e_impl_JoinPath_L22).ok Go.Proofs.Try.prog (codeAt (bodyOf Go.Proofs.Try.f45) 22) := by
  intro R ds k r h
  unfold e_impl_JoinPath_L22 m_impl_JoinPath_L22 at h
  obtain ⟨x0, d0, rfl, h0⟩ := dL_some h
  obtain ⟨x1, d1, rfl, h1⟩ := dI_some h0
  obtain ⟨x2, d2, rfl, h2⟩ := dI_some h1
  obtain ⟨x3, d3, rfl, h3⟩ := dI_some h2
  obtain ⟨x4, d4, rfl, h4⟩ := dI_some h3
  obtain ⟨x5, d5, rfl, h5⟩ := dL_some h4
  obtain ⟨x6, d6, rfl, h6⟩ := dI_some h5
  obtain ⟨x7, d7, rfl, h7⟩ := dI_some h6
  obtain ⟨x8, d8, rfl, h8⟩ := dL_some h7
  obtain ⟨x9, d9, rfl, h9⟩ := dL_some h8
  obtain ⟨rfl, hE⟩ := dE_some h9
  obtain ⟨y, hy, hk⟩ := bnd_some hE
  obtain ⟨n, hn⟩ := ev_some hy
  exact m_impl_JoinPath_L22_ok n R _ k r (show (n_impl_JoinPath_L22 n x0 x1 x2 x3 x4 x5 x6 x7 x8 x9).bind _ = _ by rw [hn]; exact hk)

/-! loop.example/g00876/impl.JoinPath, loop 19 -/
def c_impl_JoinPath_L19 {R : Type} (F : List D → Int → Int → Int → List D → List D → Option (List D)) (x0 : List D) (x1 : Int) (x2 : Int) (x3 : Int) (x4 : List D) (x5 : List D) (k : List D → Option R) : Option R :=
 bif !Decidable.decide (x3 = x1) then
 (impl_JoinPath_L22 x0 x1 x2 x3 x2 x0 (↑x0.length : Int) (0 : Int) x4 x5).bind (fun y0 =>
 if y0.snd.snd.snd.snd.snd.snd.length + [Go.Rai.D.int y0.snd.snd.snd.snd.fst].length ≤ (4294967296 : Nat) then
 (F y0.fst y0.snd.fst y0.snd.snd.fst y0.snd.snd.snd.snd.fst y0.snd.snd.snd.snd.snd.fst (y0.snd.snd.snd.snd.snd.snd ++ [Go.Rai.D.int y0.snd.snd.snd.snd.fst])).bind k
 else
 none)
 else
 k x5
theorem c_impl_JoinPath_L19_bind {R : Type} (F : List D → Int → Int → Int → List D → List D → Option (List D)) (x0 : List D) (x1 : Int) (x2 : Int) (x3 : Int) (x4 : List D) (x5 : List D) (k : List D → Option R) : c_impl_JoinPath_L19 F x0 x1 x2 x3 x4 x5 k = (c_impl_JoinPath_L19 F x0 x1 x2 x3 x4 x5 some).bind k := by
  unfold c_impl_JoinPath_L19
  repeat' first
    | exact bnd_tail
    | exact bnd_none
    | exact bnd_leaf
    | apply bnd_ite
    | apply bnd_cond
    | apply bnd_sum
    | (apply bnd_bind; intro _)
    | intro _
def n_impl_JoinPath_L19 : Nat → List D → Int → Int → Int → List D → List D → Option (List D)
 | 0, _, _, _, _, _, _ => none
 | n + 1, x0, x1, x2, x3, x4, x5 => c_impl_JoinPath_L19 (n_impl_JoinPath_L19 n) x0 x1 x2 x3 x4 x5 some
noncomputable def impl_JoinPath_L19 (x0 : List D) (x1 : Int) (x2 : Int) (x3 : Int) (x4 : List D) (x5 : List D) : Option (List D) := ev (fun n => n_impl_JoinPath_L19 n x0 x1 x2 x3 x4 x5)
def m_impl_JoinPath_L19 (F : List D → Int → Int → Int → List D → List D → Option (List D)) : Lent := ⟨19, ⟨[.undef, .rd (.struct [.int .i64, .int .i64]), .undef, .int .i64, .undef, .undef, .undef, .undef, .undef, .undef, .int .i64, .full 1000 [] (.int .i64), .undef, .undef, .full 1001 [] (.int .i64), .int .i64, .undef, .undef, .undef, .undef, .undef, .undef, .undef, .undef, .undef, .undef, .undef, .undef, .undef, .undef, .undef, .undef, .undef, .undef, .undef, .undef, .undef, .undef, .undef, .undef, .undef, .undef, .undef, .undef, .undef, .undef, .undef, .undef, .undef, .undef, .undef, .undef, .undef, .undef, .undef, .undef, .undef, .undef, .undef, .undef, .undef, .undef, .undef, .undef, .undef, .undef, .undef, .undef, .undef, .undef, .undef, .undef, .undef, .undef, .undef, .undef, .undef, .undef, .undef, .undef, .undef, .undef, .undef, .undef, .undef, .undef, .undef, .undef, .undef, .undef, .undef, .undef, .undef, .undef, .undef, .undef, .undef, .undef, .undef, .undef, .undef, .undef, .undef, .undef, .undef, .undef, .undef, .undef, .undef, .undef, .undef, .undef, .undef, .undef, .undef, .undef, .undef, .undef, .undef, .undef, .undef, .undef, .undef, .undef, .undef, .undef, .undef, .undef, .undef, .undef, .undef, .undef, .undef, .undef, .undef, .undef, .undef, .undef, .undef, .undef, .undef, .undef, .undef, .undef, .undef, .undef, .undef, .undef, .undef, .undef, .undef, .undef, .undef, .undef, .undef, .undef, .undef], [(1000, .own (.int .i64)), (1001, .own (.int .i64))]⟩, [(.exit 4, ⟨[.undef, .undef, .undef, .undef, .undef, .undef, .undef, .undef, .undef, .undef, .undef, .undef, .undef, .undef, .full 1000 [] (.int .i64), .undef, .undef, .undef, .undef, .undef, .undef, .undef, .undef, .undef, .undef, .undef, .undef, .undef, .undef, .undef, .undef, .undef, .undef, .undef, .undef, .undef, .undef, .undef, .undef, .undef, .undef, .undef, .undef, .undef, .undef, .undef, .undef, .undef, .undef, .undef, .undef, .undef, .undef, .undef, .undef, .undef, .undef, .undef, .undef, .undef, .undef, .undef, .undef, .undef, .undef, .undef, .undef, .undef, .undef, .undef, .undef, .undef, .undef, .undef, .undef, .undef, .undef, .undef, .undef, .undef, .undef, .undef, .undef, .undef, .undef, .undef, .undef, .undef, .undef, .undef, .undef, .undef, .undef, .undef, .undef, .undef, .undef, .undef, .undef, .undef, .undef, .undef, .undef, .undef, .undef, .undef, .undef, .undef, .undef, .undef, .undef, .undef, .undef, .undef, .undef, .undef, .undef, .undef, .undef, .undef, .undef, .undef, .undef, .undef, .undef, .undef, .undef, .undef, .undef, .undef, .undef, .undef, .undef, .undef, .undef, .undef, .undef, .undef, .undef, .undef, .undef, .undef, .undef, .undef, .undef, .undef, .undef, .undef, .undef, .undef, .undef, .undef, .undef, .undef, .undef, .undef, .undef], [(1000, .own (.int .i64))]⟩)], fun _ ds k => dL (fun x0 ds => dI (fun x1 ds => dI (fun x2 ds => dI (fun x3 ds => dL (fun x4 ds => dL (fun x5 ds => dE ((F x0 x1 x2 x3 x4 x5).bind (fun y => k 0 [.L y])) ds) ds) ds) ds) ds) ds) ds⟩
theorem q_impl_JoinPath_L19 (F : List D → Int → Int → Int → List D → List D → Option (List D)) (x0 : List D) (x1 : Int) (x2 : Int) (x3 : Int) (x4 : List D) (x5 : List D) : runLoop (ocOf []) (olOf [m_impl_JoinPath_L19 F, e_impl_JoinPath_L22]) A 45 (codeAt (bodyOf Go.Proofs.Try.f45) 19) ((m_impl_JoinPath_L19 F).sh.mk' [.L x0, .I x1, .I x2, .I x3, .L x4, .L x5]) (fun e σ' => some (e, σ')) = c_impl_JoinPath_L19 F x0 x1 x2 x3 x4 x5 (fun y => some (.exit 4, SSt.mk' ⟨[.undef, .undef, .undef, .undef, .undef, .undef, .undef, .undef, .undef, .undef, .undef, .undef, .undef, .undef, .full 1000 [] (.int .i64), .undef, .undef, .undef, .undef, .undef, .undef, .undef, .undef, .undef, .undef, .undef, .undef, .undef, .undef, .undef, .undef, .undef, .undef, .undef, .undef, .undef, .undef, .undef, .undef, .undef, .undef, .undef, .undef, .undef, .undef, .undef, .undef, .undef, .undef, .undef, .undef, .undef, .undef, .undef, .undef, .undef, .undef, .undef, .undef, .undef, .undef, .undef, .undef, .undef, .undef, .undef, .undef, .undef, .undef, .undef, .undef, .undef, .undef, .undef, .undef, .undef, .undef, .undef, .undef, .undef, .undef, .undef, .undef, .undef, .undef, .undef, .undef, .undef, .undef, .undef, .undef, .undef, .undef, .undef, .undef, .undef, .undef, .undef, .undef, .undef, .undef, .undef, .undef, .undef, .undef, .undef, .undef, .undef, .undef, .undef, .undef, .undef, .undef, .undef, .undef, .undef, .undef, .undef, .undef, .undef, .undef, .undef, .undef, .undef, .undef, .undef, .undef, .undef, .undef, .undef, .undef, .undef, .undef, .undef, .undef, .undef, .undef, .undef, .undef, .undef, .undef, .undef, .undef, .undef, .undef, .undef, .undef, .undef, .undef, .undef, .undef, .undef, .undef, .undef, .undef, .undef, .undef], [(1000, .own (.int .i64))]⟩ [.L y])) := by kernel_rfl
theorem m_impl_JoinPath_L19_ok : ∀ n, (m_impl_JoinPath_L19 (n_impl_JoinPath_L19 n)).ok Go.Proofs.Try.prog (codeAt (bodyOf Go.Proofs.Try.f45) 19) := by
  intro n
  induction n with
  | zero =>
    intro R ds k r h
    unfold m_impl_JoinPath_L19 at h
    obtain ⟨x0, d0, rfl, h0⟩ := dL_some h
    obtain ⟨x1, d1, rfl, h1⟩ := dI_some h0
    obtain ⟨x2, d2, rfl, h2⟩ := dI_some h1
    obtain ⟨x3, d3, rfl, h3⟩ := dI_some h2
    obtain ⟨x4, d4, rfl, h4⟩ := dL_some h3
    obtain ⟨x5, d5, rfl, h5⟩ := dL_some h4
    obtain ⟨rfl, hE⟩ := dE_some h5
    obtain ⟨y, hy, hk⟩ := bnd_some hE
    cases hy
  | succ n ih =>
    intro R ds k r h
    unfold m_impl_JoinPath_L19 at h
    obtain ⟨x0, d0, rfl, h0⟩ := dL_some h
    obtain ⟨x1, d1, rfl, h1⟩ := dI_some h0
    obtain ⟨x2, d2, rfl, h2⟩ := dI_some h1
    obtain ⟨x3, d3, rfl, h3⟩ := dI_some h2
    obtain ⟨x4, d4, rfl, h4⟩ := dL_some h3
    obtain ⟨x5, d5, rfl, h5⟩ := dL_some h4
    obtain ⟨rfl, hE⟩ := dE_some h5
    obtain ⟨y, hy, hk⟩ := bnd_some hE
    have hq := q_impl_JoinPath_L19 (n_impl_JoinPath_L19 n) x0 x1 x2 x3 x4 x5
    rw [c_impl_JoinPath_L19_bind] at hq
    rw [show c_impl_JoinPath_L19 (n_impl_JoinPath_L19 n) x0 x1 x2 x3 x4 x5 some = some y from hy] at hq
    refine ⟨0, _, _, _, hk, rfl, loop_ok px (fx := ⟨Go.Proofs.Try.func45, by kernel_rfl, by kernel_rfl⟩) entsOK_nil (lentsOK_cons ih (lentsOK_cons e_impl_JoinPath_L22_ok lentsOK_nil)) (by kernel_rfl) ?_⟩
    exact hq
noncomputable def e_impl_JoinPath_L19 : Lent := m_impl_JoinPath_L19 (impl_JoinPath_L19)
theorem e_impl_JoinPath_L19_ok : (e_impl_JoinPath_L19).ok Go.Proofs.Try.prog (codeAt (bodyOf Go.Proofs.Try.f45) 19) := by
  intro R ds k r h
  unfold e_impl_JoinPath_L19 m_impl_JoinPath_L19 at h
  obtain ⟨x0, d0, rfl, h0⟩ := dL_some h
  obtain ⟨x1, d1, rfl, h1⟩ := dI_some h0
  obtain ⟨x2, d2, rfl, h2⟩ := dI_some h1
  obtain ⟨x3, d3, rfl, h3⟩ := dI_some h2
  obtain ⟨x4, d4, rfl, h4⟩ := dL_some h3
  obtain ⟨x5, d5, rfl, h5⟩ := dL_some h4
  obtain ⟨rfl, hE⟩ := dE_some h5
  obtain ⟨y, hy, hk⟩ := bnd_some hE
  obtain ⟨n, hn⟩ := ev_some hy
  exact m_impl_JoinPath_L19_ok n R _ k r (show (n_impl_JoinPath_L19 n x0 x1 x2 x3 x4 x5).bind _ = _ by rw [hn]; exact hk)

/-! loop.example/g00876/impl.JoinPath -/
def c_impl_JoinPath {R : Type} (x0 : List D) (x1 : List D) (x2 : Int) (x3 : Int) (k : List D × Bool → Option R) : Option R :=
 (impl_IsValidSherds x0 x1).bind (fun y0 =>
 bif !y0 then
 k ([], Bool.false)
 else
 (impl_within x2 (0 : Int) (Go.IntKind.i64.wrap ((↑x0.length : Int) - (1 : Int)))).bind (fun y1 =>
 bif !y1 then
 k ([], Bool.false)
 else
 (impl_within x3 (0 : Int) (Go.IntKind.i64.wrap ((↑x0.length : Int) - (1 : Int)))).bind (fun y2 =>
 bif !y2 then
 k ([], Bool.false)
 else
 (slices_Repeat ([Go.Rai.D.int (↑x0.length : Int)]) (↑x0.length : Int)).bind (fun y3 =>
 if (0 : Int) ≤ x3 ∧ x3 < (↑y3.length : Int) then
 if x3.toNat + (1 : Nat) ≤ y3.length then
 (impl_JoinPath_L7 x1 x2 x3 (↑x0.length : Int) (↑x0.length : Int) (0 : Int) (y3.set x3.toNat (Go.Rai.D.int (0 : Int)))).bind (fun y4 =>
 if (0 : Int) ≤ y4.snd.fst ∧ y4.snd.fst < (↑y4.snd.snd.snd.snd.length : Int) then
 if y4.snd.fst.toNat + (1 : Nat) ≤ y4.snd.snd.snd.snd.length then
 bif Decidable.decide (y4.snd.snd.snd.fst ≤ (y4.snd.snd.snd.snd.getD y4.snd.fst.toNat (Go.Rai.D.int (0 : Int))).toInt) then
 k ([], Bool.false)
 else
 (impl_JoinPath_L19 y4.fst y4.snd.snd.fst y4.snd.snd.snd.fst y4.snd.fst y4.snd.snd.snd.snd ([Go.Rai.D.int y4.snd.fst])).bind (fun y5 =>
 k (y5, Bool.true))
 else
 none
 else
 none)
 else
 none
 else
 none))))
theorem c_impl_JoinPath_bind {R : Type} (x0 : List D) (x1 : List D) (x2 : Int) (x3 : Int) (k : List D × Bool → Option R) : c_impl_JoinPath x0 x1 x2 x3 k = (c_impl_JoinPath x0 x1 x2 x3 some).bind k := by
  unfold c_impl_JoinPath
  repeat' first
    | exact bnd_tail
    | exact bnd_none
    | exact bnd_leaf
    | apply bnd_ite
    | apply bnd_cond
    | apply bnd_sum
    | (apply bnd_bind; intro _)
    | intro _
def impl_JoinPath (x0 : List D) (x1 : List D) (x2 : Int) (x3 : Int) : Option (List D × Bool) := c_impl_JoinPath x0 x1 x2 x3 some
def e_impl_JoinPath : Ent := ⟨45, [.rd (.struct [.int .i64, .int .i64, .int .i64, .int .i64]), .rd (.struct [.int .i64, .int .i64]), .int .i64, .int .i64], .tup [.own (.int .i64), .bool], [.undef, .undef, .undef, .undef], fun _ ds k => dL (fun x0 ds => dL (fun x1 ds => dI (fun x2 ds => dI (fun x3 ds => dE ((impl_JoinPath x0 x1 x2 x3).bind (fun y => k [.L y.1, .B y.2])) ds) ds) ds) ds) ds⟩
theorem q_impl_JoinPath (x0 : List D) (x1 : List D) (x2 : Int) (x3 : Int) : runFn (ocOf [e_impl_IsValidSherds, e_impl_within, e_slices_Repeat]) (olOf [e_impl_JoinPath_L7, e_impl_JoinPath_L19]) A 45 Go.Proofs.Try.f45 (Sh.mks e_impl_JoinPath.sh [.L x0, .L x1, .I x2, .I x3]).1 (fun v os => some (v, os)) = c_impl_JoinPath x0 x1 x2 x3 (fun y => some ((e_impl_JoinPath.res.mk [.L y.1, .B y.2]).1, (Sh.mks e_impl_JoinPath.outs (e_impl_JoinPath.res.mk [.L y.1, .B y.2]).2).1)) := by kernel_rfl
theorem e_impl_JoinPath_ok : e_impl_JoinPath.ok Go.Proofs.Try.prog A := by
  intro R ds k r h
  unfold e_impl_JoinPath at h
  obtain ⟨x0, d0, rfl, h0⟩ := dL_some h
  obtain ⟨x1, d1, rfl, h1⟩ := dL_some h0
  obtain ⟨x2, d2, rfl, h2⟩ := dI_some h1
  obtain ⟨x3, d3, rfl, h3⟩ := dI_some h2
  obtain ⟨rfl, hE⟩ := dE_some h3
  obtain ⟨y, hy, hk⟩ := bnd_some hE
  refine ⟨_, hk, fn_ok px (fx := ⟨Go.Proofs.Try.func45, by kernel_rfl, by kernel_rfl⟩) (entsOK_cons e_impl_IsValidSherds_ok (entsOK_cons e_impl_within_ok (entsOK_cons e_slices_Repeat_ok entsOK_nil))) (lentsOK_cons e_impl_JoinPath_L7_ok (lentsOK_cons e_impl_JoinPath_L19_ok lentsOK_nil)) ?_⟩
  have hq := q_impl_JoinPath x0 x1 x2 x3
  rw [c_impl_JoinPath_bind] at hq
  rw [show c_impl_JoinPath x0 x1 x2 x3 some = some y from hy] at hq
  exact hq

/-! loop.example/g00876/laws.eqIntS, loop 4 -/
def c_laws_eqIntS_L4 {R : Type} (F : List D → List D → Int → Option ((Bool) ⊕ (Unit))) (x0 : List D) (x1 : List D) (x2 : Int) (k : (Bool) ⊕ (Unit) → Option R) : Option R :=
 bif Decidable.decide (x2 < (↑x0.length : Int)) then
 if (0 : Int) ≤ x2 ∧ x2 < (↑x0.length : Int) then
 if (0 : Int) ≤ x2 ∧ x2 < (↑x1.length : Int) then
 bif !Decidable.decide ((x0.getD x2.toNat (Go.Rai.D.int (0 : Int))).toInt = (x1.getD x2.toNat (Go.Rai.D.int (0 : Int))).toInt) then
 k (.inl Bool.false)
 else
 (F x0 x1 (Go.IntKind.i64.wrap (x2 + (1 : Int)))).bind k
 else
 none
 else
 none
 else
 k (.inr ())
theorem c_laws_eqIntS_L4_bind {R : Type} (F : List D → List D → Int → Option ((Bool) ⊕ (Unit))) (x0 : List D) (x1 : List D) (x2 : Int) (k : (Bool) ⊕ (Unit) → Option R) : c_laws_eqIntS_L4 F x0 x1 x2 k = (c_laws_eqIntS_L4 F x0 x1 x2 some).bind k := by
  unfold c_laws_eqIntS_L4
  repeat' first
    | exact bnd_tail
    | exact bnd_none
    | exact bnd_leaf
    | apply bnd_ite
    | apply bnd_cond
    | apply bnd_sum
    | (apply bnd_bind; intro _)
    | intro _
def n_laws_eqIntS_L4 : Nat → List D → List D → Int → Option ((Bool) ⊕ (Unit))
 | 0, _, _, _ => none
 | n + 1, x0, x1, x2 => c_laws_eqIntS_L4 (n_laws_eqIntS_L4 n) x0 x1 x2 some
noncomputable def laws_eqIntS_L4 (x0 : List D) (x1 : List D) (x2 : Int) : Option ((Bool) ⊕ (Unit)) := ev (fun n => n_laws_eqIntS_L4 n x0 x1 x2)
def m_laws_eqIntS_L4 (F : List D → List D → Int → Option ((Bool) ⊕ (Unit))) : Lent := ⟨4, ⟨[.rd (.int .i64), .rd (.int .i64), .undef, .undef, .undef, .int .i64, .undef, .undef, .undef, .undef, .undef, .undef, .undef, .undef, .undef, .undef, .undef, .undef, .undef, .undef, .undef, .undef, .undef, .undef, .undef, .undef], []⟩, [(.ret, ⟨[.undef, .undef, .undef, .undef, .bool, .undef, .undef, .undef, .undef, .undef, .undef, .undef, .undef, .undef, .undef, .undef, .undef, .undef, .undef, .undef, .undef, .undef, .undef, .undef, .undef, .undef], []⟩), (.exit 0, ⟨[.undef, .undef, .undef, .undef, .undef, .undef, .undef, .undef, .undef, .undef, .undef, .undef, .undef, .undef, .undef, .undef, .undef, .undef, .undef, .undef, .undef, .undef, .undef, .undef, .undef, .undef], []⟩)], fun _ ds k => dL (fun x0 ds => dL (fun x1 ds => dI (fun x2 ds => dE ((F x0 x1 x2).bind (Sum.elim (fun y => k 0 [.B y]) (fun y => k 1 []))) ds) ds) ds) ds⟩
theorem q_laws_eqIntS_L4 (F : List D → List D → Int → Option ((Bool) ⊕ (Unit))) (x0 : List D) (x1 : List D) (x2 : Int) : runLoop (ocOf []) (olOf [m_laws_eqIntS_L4 F]) A 41 (codeAt (bodyOf Go.Proofs.Try.f41) 4) ((m_laws_eqIntS_L4 F).sh.mk' [.L x0, .L x1, .I x2]) (fun e σ' => some (e, σ')) = c_laws_eqIntS_L4 F x0 x1 x2 (Sum.elim (fun y => some (.ret, SSt.mk' ⟨[.undef, .undef, .undef, .undef, .bool, .undef, .undef, .undef, .undef, .undef, .undef, .undef, .undef, .undef, .undef, .undef, .undef, .undef, .undef, .undef, .undef, .undef, .undef, .undef, .undef, .undef], []⟩ [.B y])) (fun y => some (.exit 0, SSt.mk' ⟨[.undef, .undef, .undef, .undef, .undef, .undef, .undef, .undef, .undef, .undef, .undef, .undef, .undef, .undef, .undef, .undef, .undef, .undef, .undef, .undef, .undef, .undef, .undef, .undef, .undef, .undef], []⟩ []))) := by kernel_rfl
theorem m_laws_eqIntS_L4_ok : ∀ n, (m_laws_eqIntS_L4 (n_laws_eqIntS_L4 n)).ok Go.Proofs.Try.prog (codeAt (bodyOf Go.Proofs.Try.f41) 4) := by
  intro n
  induction n with
  | zero =>
    intro R ds k r h
    unfold m_laws_eqIntS_L4 at h
    obtain ⟨x0, d0, rfl, h0⟩ := dL_some h
    obtain ⟨x1, d1, rfl, h1⟩ := dL_some h0
    obtain ⟨x2, d2, rfl, h2⟩ := dI_some h1
    obtain ⟨rfl, hE⟩ := dE_some h2
    obtain ⟨y, hy, hk⟩ := bnd_some hE
    cases hy
  | succ n ih =>
    intro R ds k r h
    unfold m_laws_eqIntS_L4 at h
    obtain ⟨x0, d0, rfl, h0⟩ := dL_some h
    obtain ⟨x1, d1, rfl, h1⟩ := dL_some h0
    obtain ⟨x2, d2, rfl, h2⟩ := dI_some h1
    obtain ⟨rfl, hE⟩ := dE_some h2
    obtain ⟨y, hy, hk⟩ := bnd_some hE
    have hq := q_laws_eqIntS_L4 (n_laws_eqIntS_L4 n) x0 x1 x2
    rw [c_laws_eqIntS_L4_bind] at hq
    rw [show c_laws_eqIntS_L4 (n_laws_eqIntS_L4 n) x0 x1 x2 some = some y from hy] at hq
    cases y with
    | inl y =>
      refine ⟨0, _, _, _, hk, rfl, loop_ok px (fx := ⟨Go.Proofs.Try.func41, by kernel_rfl, by kernel_rfl⟩) entsOK_nil (lentsOK_cons ih lentsOK_nil) (by kernel_rfl) ?_⟩
      exact hq
    | inr y =>
      refine ⟨1, _, _, _, hk, rfl, loop_ok px (fx := ⟨Go.Proofs.Try.func41, by kernel_rfl, by kernel_rfl⟩) entsOK_nil (lentsOK_cons ih lentsOK_nil) (by kernel_rfl) ?_⟩
      exact hq
noncomputable def e_laws_eqIntS_L4 : Lent := m_laws_eqIntS_L4 (laws_eqIntS_L4)
theorem e_laws_eqIntS_L4_ok : (e_laws_eqIntS_L4).ok Go.Proofs.Try.prog (codeAt (bodyOf Go.Proofs.Try.f41) 4) := by
  intro R ds k r h
  unfold e_laws_eqIntS_L4 m_laws_eqIntS_L4 at h
  obtain ⟨x0, d0, rfl, h0⟩ := dL_some h
  obtain ⟨x1, d1, rfl, h1⟩ := dL_some h0
  obtain ⟨x2, d2, rfl, h2⟩ := dI_some h1
  obtain ⟨rfl, hE⟩ := dE_some h2
  obtain ⟨y, hy, hk⟩ := bnd_some hE
  obtain ⟨n, hn⟩ := ev_some hy
  exact m_laws_eqIntS_L4_ok n R _ k r (show (n_laws_eqIntS_L4 n x0 x1 x2).bind _ = _ by rw [hn]; exact hk)

/-! loop.example/g00876/laws.eqIntS -/
def c_laws_eqIntS {R : Type} (x0 : List D) (x1 : List D) (k : Bool → Option R) : Option R :=
 bif !Decidable.decide ((↑x0.length : Int) = (↑x1.length : Int)) then
 k Bool.false
 else
 (laws_eqIntS_L4 x0 x1 (0 : Int)).bind (Sum.elim (fun y0 =>
 k y0) (fun y1 =>
 k Bool.true))
theorem c_laws_eqIntS_bind {R : Type} (x0 : List D) (x1 : List D) (k : Bool → Option R) : c_laws_eqIntS x0 x1 k = (c_laws_eqIntS x0 x1 some).bind k := by
  unfold c_laws_eqIntS
  repeat' first
    | exact bnd_tail
    | exact bnd_none
    | exact bnd_leaf
    | apply bnd_ite
    | apply bnd_cond
    | apply bnd_sum
    | (apply bnd_bind; intro _)
    | intro _
def laws_eqIntS (x0 : List D) (x1 : List D) : Option (Bool) := c_laws_eqIntS x0 x1 some
def e_laws_eqIntS : Ent := ⟨41, [.rd (.int .i64), .rd (.int .i64)], .bool, [.undef, .undef], fun _ ds k => dL (fun x0 ds => dL (fun x1 ds => dE ((laws_eqIntS x0 x1).bind (fun y => k [.B y])) ds) ds) ds⟩
theorem q_laws_eqIntS (x0 : List D) (x1 : List D) : runFn (ocOf []) (olOf [e_laws_eqIntS_L4]) A 41 Go.Proofs.Try.f41 (Sh.mks e_laws_eqIntS.sh [.L x0, .L x1]).1 (fun v os => some (v, os)) = c_laws_eqIntS x0 x1 (fun y => some ((e_laws_eqIntS.res.mk [.B y]).1, (Sh.mks e_laws_eqIntS.outs (e_laws_eqIntS.res.mk [.B y]).2).1)) := by kernel_rfl
theorem e_laws_eqIntS_ok : e_laws_eqIntS.ok Go.Proofs.Try.prog A := by
  intro R ds k r h
  unfold e_laws_eqIntS at h
  obtain ⟨x0, d0, rfl, h0⟩ := dL_some h
  obtain ⟨x1, d1, rfl, h1⟩ := dL_some h0
  obtain ⟨rfl, hE⟩ := dE_some h1
  obtain ⟨y, hy, hk⟩ := bnd_some hE
  refine ⟨_, hk, fn_ok px (fx := ⟨Go.Proofs.Try.func41, by kernel_rfl, by kernel_rfl⟩) entsOK_nil (lentsOK_cons e_laws_eqIntS_L4_ok lentsOK_nil) ?_⟩
  have hq := q_laws_eqIntS x0 x1
  rw [c_laws_eqIntS_bind] at hq
  rw [show c_laws_eqIntS x0 x1 some = some y from hy] at hq
  exact hq

/-! loop.example/g00876/laws.eqSherd -/
def c_laws_eqSherd {R : Type} (x0 : Int) (x1 : Int) (x2 : Int) (x3 : Int) (x4 : Int) (x5 : Int) (x6 : Int) (x7 : Int) (k : Bool → Option R) : Option R :=
 bif !Decidable.decide (x0 = x4) then
 k Bool.false
 else
 bif !Decidable.decide (x1 = x5) then
 k Bool.false
 else
 bif !Decidable.decide (x2 = x6) then
 k Bool.false
 else
 bif !Decidable.decide (x3 = x7) then
 k Bool.false
 else
 k Bool.true
theorem c_laws_eqSherd_bind {R : Type} (x0 : Int) (x1 : Int) (x2 : Int) (x3 : Int) (x4 : Int) (x5 : Int) (x6 : Int) (x7 : Int) (k : Bool → Option R) : c_laws_eqSherd x0 x1 x2 x3 x4 x5 x6 x7 k = (c_laws_eqSherd x0 x1 x2 x3 x4 x5 x6 x7 some).bind k := by
  unfold c_laws_eqSherd
  repeat' first
    | exact bnd_tail
    | exact bnd_none
    | exact bnd_leaf
    | apply bnd_ite
    | apply bnd_cond
    | apply bnd_sum
    | (apply bnd_bind; intro _)
    | intro _
def laws_eqSherd (x0 : Int) (x1 : Int) (x2 : Int) (x3 : Int) (x4 : Int) (x5 : Int) (x6 : Int) (x7 : Int) : Option (Bool) := c_laws_eqSherd x0 x1 x2 x3 x4 x5 x6 x7 some
def e_laws_eqSherd : Ent := ⟨58, [.agg [.int .i64, .int .i64, .int .i64, .int .i64], .agg [.int .i64, .int .i64, .int .i64, .int .i64]], .bool, [.undef, .undef], fun _ ds k => dI (fun x0 ds => dI (fun x1 ds => dI (fun x2 ds => dI (fun x3 ds => dI (fun x4 ds => dI (fun x5 ds => dI (fun x6 ds => dI (fun x7 ds => dE ((laws_eqSherd x0 x1 x2 x3 x4 x5 x6 x7).bind (fun y => k [.B y])) ds) ds) ds) ds) ds) ds) ds) ds) ds⟩
theorem q_laws_eqSherd (x0 : Int) (x1 : Int) (x2 : Int) (x3 : Int) (x4 : Int) (x5 : Int) (x6 : Int) (x7 : Int) : runFn (ocOf []) (olOf []) A 58 Go.Proofs.Try.f58 (Sh.mks e_laws_eqSherd.sh [.I x0, .I x1, .I x2, .I x3, .I x4, .I x5, .I x6, .I x7]).1 (fun v os => some (v, os)) = c_laws_eqSherd x0 x1 x2 x3 x4 x5 x6 x7 (fun y => some ((e_laws_eqSherd.res.mk [.B y]).1, (Sh.mks e_laws_eqSherd.outs (e_laws_eqSherd.res.mk [.B y]).2).1)) := by kernel_rfl
theorem e_laws_eqSherd_ok : e_laws_eqSherd.ok Go.Proofs.Try.prog A := by
  intro R ds k r h
  unfold e_laws_eqSherd at h
  obtain ⟨x0, d0, rfl, h0⟩ := dI_some h
  obtain ⟨x1, d1, rfl, h1⟩ := dI_some h0
  obtain ⟨x2, d2, rfl, h2⟩ := dI_some h1
  obtain ⟨x3, d3, rfl, h3⟩ := dI_some h2
  obtain ⟨x4, d4, rfl, h4⟩ := dI_some h3
  obtain ⟨x5, d5, rfl, h5⟩ := dI_some h4
  obtain ⟨x6, d6, rfl, h6⟩ := dI_some h5
  obtain ⟨x7, d7, rfl, h7⟩ := dI_some h6
  obtain ⟨rfl, hE⟩ := dE_some h7
  obtain ⟨y, hy, hk⟩ := bnd_some hE
  refine ⟨_, hk, fn_ok px (fx := ⟨Go.Proofs.Try.func58, by kernel_rfl, by kernel_rfl⟩) entsOK_nil lentsOK_nil ?_⟩
  have hq := q_laws_eqSherd x0 x1 x2 x3 x4 x5 x6 x7
  rw [c_laws_eqSherd_bind] at hq
  rw [show c_laws_eqSherd x0 x1 x2 x3 x4 x5 x6 x7 some = some y from hy] at hq
  exact hq

/-! loop.example/g00876/laws.eqSherdS, loop 4 -/
def c_laws_eqSherdS_L4 {R : Type} (F : List D → List D → Int → Option ((Bool) ⊕ (Unit))) (x0 : List D) (x1 : List D) (x2 : Int) (k : (Bool) ⊕ (Unit) → Option R) : Option R :=
 bif Decidable.decide (x2 < (↑x0.length : Int)) then
 if (0 : Int) ≤ x2 ∧ x2 < (↑x0.length : Int) then
 if (0 : Int) ≤ x2 ∧ x2 < (↑x1.length : Int) then
 (laws_eqSherd (((x0.getD x2.toNat (Go.Rai.D.int (0 : Int))).fld (0 : Nat)).toInt) (((x0.getD x2.toNat (Go.Rai.D.int (0 : Int))).fld (1 : Nat)).toInt) (((x0.getD x2.toNat (Go.Rai.D.int (0 : Int))).fld (2 : Nat)).toInt) (((x0.getD x2.toNat (Go.Rai.D.int (0 : Int))).fld (3 : Nat)).toInt) (((x1.getD x2.toNat (Go.Rai.D.int (0 : Int))).fld (0 : Nat)).toInt) (((x1.getD x2.toNat (Go.Rai.D.int (0 : Int))).fld (1 : Nat)).toInt) (((x1.getD x2.toNat (Go.Rai.D.int (0 : Int))).fld (2 : Nat)).toInt) (((x1.getD x2.toNat (Go.Rai.D.int (0 : Int))).fld (3 : Nat)).toInt)).bind (fun y0 =>
 bif !y0 then
 k (.inl Bool.false)
 else
 (F x0 x1 (Go.IntKind.i64.wrap (x2 + (1 : Int)))).bind k)
 else
 none
 else
 none
 else
 k (.inr ())
theorem c_laws_eqSherdS_L4_bind {R : Type} (F : List D → List D → Int → Option ((Bool) ⊕ (Unit))) (x0 : List D) (x1 : List D) (x2 : Int) (k : (Bool) ⊕ (Unit) → Option R) : c_laws_eqSherdS_L4 F x0 x1 x2 k = (c_laws_eqSherdS_L4 F x0 x1 x2 some).bind k := by
  unfold c_laws_eqSherdS_L4
  repeat' first
    | exact bnd_tail
    | exact bnd_none
    | exact bnd_leaf
    | apply bnd_ite
    | apply bnd_cond
    | apply bnd_sum
    | (apply bnd_bind; intro _)
    | intro _
def n_laws_eqSherdS_L4 : Nat → List D → List D → Int → Option ((Bool) ⊕ (Unit))
 | 0, _, _, _ => none
 | n + 1, x0, x1, x2 => c_laws_eqSherdS_L4 (n_laws_eqSherdS_L4 n) x0 x1 x2 some
noncomputable def laws_eqSherdS_L4 (x0 : List D) (x1 : List D) (x2 : Int) : Option ((Bool) ⊕ (Unit)) := ev (fun n => n_laws_eqSherdS_L4 n x0 x1 x2)
def m_laws_eqSherdS_L4 (F : List D → List D → Int → Option ((Bool) ⊕ (Unit))) : Lent := ⟨4, ⟨[.rd (.struct [.int .i64, .int .i64, .int .i64, .int .i64]), .rd (.struct [.int .i64, .int .i64, .int .i64, .int .i64]), .undef, .undef, .undef, .int .i64, .undef, .undef, .undef, .undef, .undef, .undef, .undef, .undef, .undef, .undef, .undef, .undef, .undef, .undef, .undef, .undef, .undef, .undef, .undef, .undef, .undef], []⟩, [(.ret, ⟨[.undef, .undef, .undef, .undef, .bool, .undef, .undef, .undef, .undef, .undef, .undef, .undef, .undef, .undef, .undef, .undef, .undef, .undef, .undef, .undef, .undef, .undef, .undef, .undef, .undef, .undef, .undef], []⟩), (.exit 0, ⟨[.undef, .undef, .undef, .undef, .undef, .undef, .undef, .undef, .undef, .undef, .undef, .undef, .undef, .undef, .undef, .undef, .undef, .undef, .undef, .undef, .undef, .undef, .undef, .undef, .undef, .undef, .undef], []⟩)], fun _ ds k => dL (fun x0 ds => dL (fun x1 ds => dI (fun x2 ds => dE ((F x0 x1 x2).bind (Sum.elim (fun y => k 0 [.B y]) (fun y => k 1 []))) ds) ds) ds) ds⟩
theorem q_laws_eqSherdS_L4 (F : List D → List D → Int → Option ((Bool) ⊕ (Unit))) (x0 : List D) (x1 : List D) (x2 : Int) : runLoop (ocOf [e_laws_eqSherd]) (olOf [m_laws_eqSherdS_L4 F]) A 20 (codeAt (bodyOf Go.Proofs.Try.f20) 4) ((m_laws_eqSherdS_L4 F).sh.mk' [.L x0, .L x1, .I x2]) (fun e σ' => some (e, σ')) = c_laws_eqSherdS_L4 F x0 x1 x2 (Sum.elim (fun y => some (.ret, SSt.mk' ⟨[.undef, .undef, .undef, .undef, .bool, .undef, .undef, .undef, .undef, .undef, .undef, .undef, .undef, .undef, .undef, .undef, .undef, .undef, .undef, .undef, .undef, .undef, .undef, .undef, .undef, .undef, .undef], []⟩ [.B y])) (fun y => some (.exit 0, SSt.mk' ⟨[.undef, .undef, .undef, .undef, .undef, .undef, .undef, .undef, .undef, .undef, .undef, .undef, .undef, .undef, .undef, .undef, .undef, .undef, .undef, .undef, .undef, .undef, .undef, .undef, .undef, .undef, .undef], []⟩ []))) := by kernel_rfl
theorem m_laws_eqSherdS_L4_ok : ∀ n, (m_laws_eqSherdS_L4 (n_laws_eqSherdS_L4 n)).ok Go.Proofs.Try.prog (codeAt (bodyOf Go.Proofs.Try.f20) 4) := by
  intro n
  induction n with
  | zero =>
    intro R ds k r h
    unfold m_laws_eqSherdS_L4 at h
    obtain ⟨x0, d0, rfl, h0⟩ := dL_some h
    obtain ⟨x1, d1, rfl, h1⟩ := dL_some h0
    obtain ⟨x2, d2, rfl, h2⟩ := dI_some h1
    obtain ⟨rfl, hE⟩ := dE_some h2
    obtain ⟨y, hy, hk⟩ := bnd_some hE
    cases hy
  | succ n ih =>
    intro R ds k r h
    unfold m_laws_eqSherdS_L4 at h
    obtain ⟨x0, d0, rfl, h0⟩ := dL_some h
    obtain ⟨x1, d1, rfl, h1⟩ := dL_some h0
    obtain ⟨x2, d2, rfl, h2⟩ := dI_some h1
    obtain ⟨rfl, hE⟩ := dE_some h2
    obtain ⟨y, hy, hk⟩ := bnd_some hE
    have hq := q_laws_eqSherdS_L4 (n_laws_eqSherdS_L4 n) x0 x1 x2
    rw [c_laws_eqSherdS_L4_bind] at hq
    rw [show c_laws_eqSherdS_L4 (n_laws_eqSherdS_L4 n) x0 x1 x2 some = some y from hy] at hq
    cases y with
    | inl y =>
      refine ⟨0, _, _, _, hk, rfl, loop_ok px (fx := ⟨Go.Proofs.Try.func20, by kernel_rfl, by kernel_rfl⟩) (entsOK_cons e_laws_eqSherd_ok entsOK_nil) (lentsOK_cons ih lentsOK_nil) (by kernel_rfl) ?_⟩
      exact hq
    | inr y =>
      refine ⟨1, _, _, _, hk, rfl, loop_ok px (fx := ⟨Go.Proofs.Try.func20, by kernel_rfl, by kernel_rfl⟩) (entsOK_cons e_laws_eqSherd_ok entsOK_nil) (lentsOK_cons ih lentsOK_nil) (by kernel_rfl) ?_⟩
      exact hq
noncomputable def e_laws_eqSherdS_L4 : Lent := m_laws_eqSherdS_L4 (laws_eqSherdS_L4)
theorem e_laws_eqSherdS_L4_ok : (e_laws_eqSherdS_L4).ok Go.Proofs.Try.prog (codeAt (bodyOf Go.Proofs.Try.f20) 4) := by
  intro R ds k r h
  unfold e_laws_eqSherdS_L4 m_laws_eqSherdS_L4 at h
  obtain ⟨x0, d0, rfl, h0⟩ := dL_some h
  obtain ⟨x1, d1, rfl, h1⟩ := dL_some h0
  obtain ⟨x2, d2, rfl, h2⟩ := dI_some h1
  obtain ⟨rfl, hE⟩ := dE_some h2
  obtain ⟨y, hy, hk⟩ := bnd_some hE
  obtain ⟨n, hn⟩ := ev_some hy
  exact m_laws_eqSherdS_L4_ok n R _ k r (show (n_laws_eqSherdS_L4 n x0 x1 x2).bind _ = _ by rw [hn]; exact hk)

/-! loop.example/g00876/laws.eqSherdS -/
def c_laws_eqSherdS {R : Type} (x0 : List D) (x1 : List D) (k : Bool → Option R) : Option R :=
 bif !Decidable.decide ((↑x0.length : Int) = (↑x1.length : Int)) then
 k Bool.false
 else
 (laws_eqSherdS_L4 x0 x1 (0 : Int)).bind (Sum.elim (fun y0 =>
 k y0) (fun y1 =>
 k Bool.true))
theorem c_laws_eqSherdS_bind {R : Type} (x0 : List D) (x1 : List D) (k : Bool → Option R) : c_laws_eqSherdS x0 x1 k = (c_laws_eqSherdS x0 x1 some).bind k := by
  unfold c_laws_eqSherdS
  repeat' first
    | exact bnd_tail
    | exact bnd_none
    | exact bnd_leaf
    | apply bnd_ite
    | apply bnd_cond
    | apply bnd_sum
    | (apply bnd_bind; intro _)
    | intro _
def laws_eqSherdS (x0 : List D) (x1 : List D) : Option (Bool) := c_laws_eqSherdS x0 x1 some
def e_laws_eqSherdS : Ent := ⟨20, [.rd (.struct [.int .i64, .int .i64, .int .i64, .int .i64]), .rd (.struct [.int .i64, .int .i64, .int .i64, .int .i64])], .bool, [.undef, .undef], fun _ ds k => dL (fun x0 ds => dL (fun x1 ds => dE ((laws_eqSherdS x0 x1).bind (fun y => k [.B y])) ds) ds) ds⟩
theorem q_laws_eqSherdS (x0 : List D) (x1 : List D) : runFn (ocOf []) (olOf [e_laws_eqSherdS_L4]) A 20 Go.Proofs.Try.f20 (Sh.mks e_laws_eqSherdS.sh [.L x0, .L x1]).1 (fun v os => some (v, os)) = c_laws_eqSherdS x0 x1 (fun y => some ((e_laws_eqSherdS.res.mk [.B y]).1, (Sh.mks e_laws_eqSherdS.outs (e_laws_eqSherdS.res.mk [.B y]).2).1)) := by kernel_rfl
theorem e_laws_eqSherdS_ok : e_laws_eqSherdS.ok Go.Proofs.Try.prog A := by
  intro R ds k r h
  unfold e_laws_eqSherdS at h
  obtain ⟨x0, d0, rfl, h0⟩ := dL_some h
  obtain ⟨x1, d1, rfl, h1⟩ := dL_some h0
  obtain ⟨rfl, hE⟩ := dE_some h1
  obtain ⟨y, hy, hk⟩ := bnd_some hE
  refine ⟨_, hk, fn_ok px (fx := ⟨Go.Proofs.Try.func20, by kernel_rfl, by kernel_rfl⟩) entsOK_nil (lentsOK_cons e_laws_eqSherdS_L4_ok lentsOK_nil) ?_⟩
  have hq := q_laws_eqSherdS x0 x1
  rw [c_laws_eqSherdS_bind] at hq
  rw [show c_laws_eqSherdS x0 x1 some = some y from hy] at hq
  exact hq

/-! loop.example/g00876/laws.eqJoin -/
def c_laws_eqJoin {R : Type} (x0 : Int) (x1 : Int) (x2 : Int) (x3 : Int) (k : Bool → Option R) : Option R :=
 bif !Decidable.decide (x0 = x2) then
 k Bool.false
 else
 bif !Decidable.decide (x1 = x3) then
 k Bool.false
 else
 k Bool.true
theorem c_laws_eqJoin_bind {R : Type} (x0 : Int) (x1 : Int) (x2 : Int) (x3 : Int) (k : Bool → Option R) : c_laws_eqJoin x0 x1 x2 x3 k = (c_laws_eqJoin x0 x1 x2 x3 some).bind k := by
  unfold c_laws_eqJoin
  repeat' first
    | exact bnd_tail
    | exact bnd_none
    | exact bnd_leaf
    | apply bnd_ite
    | apply bnd_cond
    | apply bnd_sum
    | (apply bnd_bind; intro _)
    | intro _
def laws_eqJoin (x0 : Int) (x1 : Int) (x2 : Int) (x3 : Int) : Option (Bool) := c_laws_eqJoin x0 x1 x2 x3 some
def e_laws_eqJoin : Ent := ⟨59, [.agg [.int .i64, .int .i64], .agg [.int .i64, .int .i64]], .bool, [.undef, .undef], fun _ ds k => dI (fun x0 ds => dI (fun x1 ds => dI (fun x2 ds => dI (fun x3 ds => dE ((laws_eqJoin x0 x1 x2 x3).bind (fun y => k [.B y])) ds) ds) ds) ds) ds⟩
theorem q_laws_eqJoin (x0 : Int) (x1 : Int) (x2 : Int) (x3 : Int) : runFn (ocOf []) (olOf []) A 59 Go.Proofs.Try.f59 (Sh.mks e_laws_eqJoin.sh [.I x0, .I x1, .I x2, .I x3]).1 (fun v os => some (v, os)) = c_laws_eqJoin x0 x1 x2 x3 (fun y => some ((e_laws_eqJoin.res.mk [.B y]).1, (Sh.mks e_laws_eqJoin.outs (e_laws_eqJoin.res.mk [.B y]).2).1)) := by kernel_rfl
theorem e_laws_eqJoin_ok : e_laws_eqJoin.ok Go.Proofs.Try.prog A := by
  intro R ds k r h
  unfold e_laws_eqJoin at h
  obtain ⟨x0, d0, rfl, h0⟩ := dI_some h
  obtain ⟨x1, d1, rfl, h1⟩ := dI_some h0
  obtain ⟨x2, d2, rfl, h2⟩ := dI_some h1
  obtain ⟨x3, d3, rfl, h3⟩ := dI_some h2
  obtain ⟨rfl, hE⟩ := dE_some h3
  obtain ⟨y, hy, hk⟩ := bnd_some hE
  refine ⟨_, hk, fn_ok px (fx := ⟨Go.Proofs.Try.func59, by kernel_rfl, by kernel_rfl⟩) entsOK_nil lentsOK_nil ?_⟩
  have hq := q_laws_eqJoin x0 x1 x2 x3
  rw [c_laws_eqJoin_bind] at hq
  rw [show c_laws_eqJoin x0 x1 x2 x3 some = some y from hy] at hq
  exact hq

/-! loop.example/g00876/laws.eqJoinS, loop 4 -/
def c_laws_eqJoinS_L4 {R : Type} (F : List D → List D → Int → Option ((Bool) ⊕ (Unit))) (x0 : List D) (x1 : List D) (x2 : Int) (k : (Bool) ⊕ (Unit) → Option R) : Option R :=
 bif Decidable.decide (x2 < (↑x0.length : Int)) then
 if (0 : Int) ≤ x2 ∧ x2 < (↑x0.length : Int) then
 if (0 : Int) ≤ x2 ∧ x2 < (↑x1.length : Int) then
 (laws_eqJoin (((x0.getD x2.toNat (Go.Rai.D.int (0 : Int))).fld (0 : Nat)).toInt) (((x0.getD x2.toNat (Go.Rai.D.int (0 : Int))).fld (1 : Nat)).toInt) (((x1.getD x2.toNat (Go.Rai.D.int (0 : Int))).fld (0 : Nat)).toInt) (((x1.getD x2.toNat (Go.Rai.D.int (0 : Int))).fld (1 : Nat)).toInt)).bind (fun y0 =>
 bif !y0 then
 k (.inl Bool.false)
 else
 (F x0 x1 (Go.IntKind.i64.wrap (x2 + (1 : Int)))).bind k)
 else
 none
 else
 none
 else
 k (.inr ())
theorem c_laws_eqJoinS_L4_bind {R : Type} (F : List D → List D → Int → Option ((Bool) ⊕ (Unit))) (x0 : List D) (x1 : List D) (x2 : Int) (k : (Bool) ⊕ (Unit) → Option R) : c_laws_eqJoinS_L4 F x0 x1 x2 k = (c_laws_eqJoinS_L4 F x0 x1 x2 some).bind k := by
  unfold c_laws_eqJoinS_L4
  repeat' first
    | exact bnd_tail
    | exact bnd_none
    | exact bnd_leaf
    | apply bnd_ite
    | apply bnd_cond
    | apply bnd_sum
    | (apply bnd_bind; intro _)
    | intro _
def n_laws_eqJoinS_L4 : Nat → List D → List D → Int → Option ((Bool) ⊕ (Unit))
 | 0, _, _, _ => none
 | n + 1, x0, x1, x2 => c_laws_eqJoinS_L4 (n_laws_eqJoinS_L4 n) x0 x1 x2 some
noncomputable def laws_eqJoinS_L4 (x0 : List D) (x1 : List D) (x2 : Int) : Option ((Bool) ⊕ (Unit)) := ev (fun n => n_laws_eqJoinS_L4 n x0 x1 x2)
def m_laws_eqJoinS_L4 (F : List D → List D → Int → Option ((Bool) ⊕ (Unit))) : Lent := ⟨4, ⟨[.rd (.struct [.int .i64, .int .i64]), .rd (.struct [.int .i64, .int .i64]), .undef, .undef, .undef, .int .i64, .undef, .undef, .undef, .undef, .undef, .undef, .undef, .undef, .undef, .undef, .undef, .undef, .undef, .undef, .undef, .undef, .undef, .undef, .undef, .undef, .undef], []⟩, [(.ret, ⟨[.undef, .undef, .undef, .undef, .bool, .undef, .undef, .undef, .undef, .undef, .undef, .undef, .undef, .undef, .undef, .undef, .undef, .undef, .undef, .undef, .undef, .undef, .undef, .undef, .undef, .undef, .undef], []⟩), (.exit 0, ⟨[.undef, .undef, .undef, .undef, .undef, .undef, .undef, .undef, .undef, .undef, .undef, .undef, .undef, .undef, .undef, .undef, .undef, .undef, .undef, .undef, .undef, .undef, .undef, .undef, .undef, .undef, .undef], []⟩)], fun _ ds k => dL (fun x0 ds => dL (fun x1 ds => dI (fun x2 ds => dE ((F x0 x1 x2).bind (Sum.elim (fun y => k 0 [.B y]) (fun y => k 1 []))) ds) ds) ds) ds⟩
theorem q_laws_eqJoinS_L4 (F : List D → List D → Int → Option ((Bool) ⊕ (Unit))) (x0 : List D) (x1 : List D) (x2 : Int) : runLoop (ocOf [e_laws_eqJoin]) (olOf [m_laws_eqJoinS_L4 F]) A 21 (codeAt (bodyOf Go.Proofs.Try.f21) 4) ((m_laws_eqJoinS_L4 F).sh.mk' [.L x0, .L x1, .I x2]) (fun e σ' => some (e, σ')) = c_laws_eqJoinS_L4 F x0 x1 x2 (Sum.elim (fun y => some (.ret, SSt.mk' ⟨[.undef, .undef, .undef, .undef, .bool, .undef, .undef, .undef, .undef, .undef, .undef, .undef, .undef, .undef, .undef, .undef, .undef, .undef, .undef, .undef, .undef, .undef, .undef, .undef, .undef, .undef, .undef], []⟩ [.B y])) (fun y => some (.exit 0, SSt.mk' ⟨[.undef, .undef, .undef, .undef, .undef, .undef, .undef, .undef, .undef, .undef, .undef, .undef, .undef, .undef, .undef, .undef, .undef, .undef, .undef, .undef, .undef, .undef, .undef, .undef, .undef, .undef, .undef], []⟩ []))) := by kernel_rfl
theorem m_laws_eqJoinS_L4_ok : ∀ n, (m_laws_eqJoinS_L4 (n_laws_eqJoinS_L4 n)).ok Go.Proofs.Try.prog (codeAt (bodyOf Go.Proofs.Try.f21) 4) := by
  intro n
  induction n with
  | zero =>
    intro R ds k r h
    unfold m_laws_eqJoinS_L4 at h
    obtain ⟨x0, d0, rfl, h0⟩ := dL_some h
    obtain ⟨x1, d1, rfl, h1⟩ := dL_some h0
    obtain ⟨x2, d2, rfl, h2⟩ := dI_some h1
    obtain ⟨rfl, hE⟩ := dE_some h2
    obtain ⟨y, hy, hk⟩ := bnd_some hE
    cases hy
  | succ n ih =>
    intro R ds k r h
    unfold m_laws_eqJoinS_L4 at h
    obtain ⟨x0, d0, rfl, h0⟩ := dL_some h
    obtain ⟨x1, d1, rfl, h1⟩ := dL_some h0
    obtain ⟨x2, d2, rfl, h2⟩ := dI_some h1
    obtain ⟨rfl, hE⟩ := dE_some h2
    obtain ⟨y, hy, hk⟩ := bnd_some hE
    have hq := q_laws_eqJoinS_L4 (n_laws_eqJoinS_L4 n) x0 x1 x2
    rw [c_laws_eqJoinS_L4_bind] at hq
    rw [show c_laws_eqJoinS_L4 (n_laws_eqJoinS_L4 n) x0 x1 x2 some = some y from hy] at hq
    cases y with
    | inl y =>
      refine ⟨0, _, _, _, hk, rfl, loop_ok px (fx := ⟨Go.Proofs.Try.func21, by kernel_rfl, by kernel_rfl⟩) (entsOK_cons e_laws_eqJoin_ok entsOK_nil) (lentsOK_cons ih lentsOK_nil) (by kernel_rfl) ?_⟩
      exact hq
    | inr y =>
      refine ⟨1, _, _, _, hk, rfl, loop_ok px (fx := ⟨Go.Proofs.Try.func21, by kernel_rfl, by kernel_rfl⟩) (entsOK_cons e_laws_eqJoin_ok entsOK_nil) (lentsOK_cons ih lentsOK_nil) (by kernel_rfl) ?_⟩
      exact hq
noncomputable def e_laws_eqJoinS_L4 : Lent := m_laws_eqJoinS_L4 (laws_eqJoinS_L4)
theorem e_laws_eqJoinS_L4_ok : (e_laws_eqJoinS_L4).ok Go.Proofs.Try.prog (codeAt (bodyOf Go.Proofs.Try.f21) 4) := by
  intro R ds k r h
  unfold e_laws_eqJoinS_L4 m_laws_eqJoinS_L4 at h
  obtain ⟨x0, d0, rfl, h0⟩ := dL_some h
  obtain ⟨x1, d1, rfl, h1⟩ := dL_some h0
  obtain ⟨x2, d2, rfl, h2⟩ := dI_some h1
  obtain ⟨rfl, hE⟩ := dE_some h2
  obtain ⟨y, hy, hk⟩ := bnd_some hE
  obtain ⟨n, hn⟩ := ev_some hy
  exact m_laws_eqJoinS_L4_ok n R _ k r (show (n_laws_eqJoinS_L4 n x0 x1 x2).bind _ = _ by rw [hn]; exact hk)

/-! loop.example/g00876/laws.eqJoinS -/
def c_laws_eqJoinS {R : Type} (x0 : List D) (x1 : List D) (k : Bool → Option R) : Option R :=
 bif !Decidable.decide ((↑x0.length : Int) = (↑x1.length : Int)) then
 k Bool.false
 else
 (laws_eqJoinS_L4 x0 x1 (0 : Int)).bind (Sum.elim (fun y0 =>
 k y0) (fun y1 =>
 k Bool.true))
theorem c_laws_eqJoinS_bind {R : Type} (x0 : List D) (x1 : List D) (k : Bool → Option R) : c_laws_eqJoinS x0 x1 k = (c_laws_eqJoinS x0 x1 some).bind k := by
  unfold c_laws_eqJoinS
  repeat' first
    | exact bnd_tail
    | exact bnd_none
    | exact bnd_leaf
    | apply bnd_ite
    | apply bnd_cond
    | apply bnd_sum
    | (apply bnd_bind; intro _)
    | intro _
def laws_eqJoinS (x0 : List D) (x1 : List D) : Option (Bool) := c_laws_eqJoinS x0 x1 some
def e_laws_eqJoinS : Ent := ⟨21, [.rd (.struct [.int .i64, .int .i64]), .rd (.struct [.int .i64, .int .i64])], .bool, [.undef, .undef], fun _ ds k => dL (fun x0 ds => dL (fun x1 ds => dE ((laws_eqJoinS x0 x1).bind (fun y => k [.B y])) ds) ds) ds⟩
theorem q_laws_eqJoinS (x0 : List D) (x1 : List D) : runFn (ocOf []) (olOf [e_laws_eqJoinS_L4]) A 21 Go.Proofs.Try.f21 (Sh.mks e_laws_eqJoinS.sh [.L x0, .L x1]).1 (fun v os => some (v, os)) = c_laws_eqJoinS x0 x1 (fun y => some ((e_laws_eqJoinS.res.mk [.B y]).1, (Sh.mks e_laws_eqJoinS.outs (e_laws_eqJoinS.res.mk [.B y]).2).1)) := by kernel_rfl
theorem e_laws_eqJoinS_ok : e_laws_eqJoinS.ok Go.Proofs.Try.prog A := by
  intro R ds k r h
  unfold e_laws_eqJoinS at h
  obtain ⟨x0, d0, rfl, h0⟩ := dL_some h
  obtain ⟨x1, d1, rfl, h1⟩ := dL_some h0
  obtain ⟨rfl, hE⟩ := dE_some h1
  obtain ⟨y, hy, hk⟩ := bnd_some hE
  refine ⟨_, hk, fn_ok px (fx := ⟨Go.Proofs.Try.func21, by kernel_rfl, by kernel_rfl⟩) entsOK_nil (lentsOK_cons e_laws_eqJoinS_L4_ok lentsOK_nil) ?_⟩
  have hq := q_laws_eqJoinS x0 x1
  rw [c_laws_eqJoinS_bind] at hq
  rw [show c_laws_eqJoinS x0 x1 some = some y from hy] at hq
  exact hq

end
end Go.Proofs.Ythkmcndfifgdpaa
