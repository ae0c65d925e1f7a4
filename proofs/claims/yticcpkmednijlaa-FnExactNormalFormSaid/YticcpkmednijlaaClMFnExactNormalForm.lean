/- Models of Go functions and their contracts, printed by a program of this session. -/
import Derived.Test.YticcpkmednijlaaClA
set_option linter.unusedVariables false
set_option maxRecDepth 100000
namespace Go.Proofs.Yticcpkmednijlaa
open Go Go.Rai
noncomputable section
/-! loop.example/g00876/laws.szCornerS -/
def c_laws_szCornerS {R : Type} (x0 : List D) (x1 : Int) (k : Int → Option R) : Option R :=
  bif Decidable.decide (Go.IntKind.i64.wrap (x1 - (↑x0.length : Int)) < (0 : Int)) then
    k (-1 : Int)
  else
    k (Go.IntKind.i64.wrap (x1 - (↑x0.length : Int)))
theorem c_laws_szCornerS_bind {R : Type} (x0 : List D) (x1 : Int) (k : Int → Option R) : c_laws_szCornerS x0 x1 k = (c_laws_szCornerS x0 x1 some).bind k := by
  unfold c_laws_szCornerS
  repeat' first
    | exact bnd_tail
    | exact bnd_none
    | exact bnd_leaf
    | apply bnd_ite
    | apply bnd_cond
    | apply bnd_sum
    | (apply bnd_bind; intro _)
    | intro _
def laws_szCornerS (x0 : List D) (x1 : Int) : Option (Int) := c_laws_szCornerS x0 x1 some
def e_laws_szCornerS : Ent := ⟨22, [.rd (.struct [.int .i64, .int .i64]), .int .i64], .int .i64, [.undef, .undef], fun _ ds k => dL (fun x0 ds => dI (fun x1 ds => dE ((laws_szCornerS x0 x1).bind (fun y => k [.I y])) ds) ds) ds⟩
theorem q_laws_szCornerS (x0 : List D) (x1 : Int) : runFn (ocOf []) (olOf []) A 22 Go.Proofs.Try.f22 (Sh.mks e_laws_szCornerS.sh [.L x0, .I x1]).1 (fun v os => some (v, os)) = c_laws_szCornerS x0 x1 (fun y => some ((e_laws_szCornerS.res.mk [.I y]).1, (Sh.mks e_laws_szCornerS.outs (e_laws_szCornerS.res.mk [.I y]).2).1)) := by kernel_rfl
theorem e_laws_szCornerS_ok : e_laws_szCornerS.ok Go.Proofs.Try.prog A := by
  intro R ds k r h
  unfold e_laws_szCornerS at h
  obtain ⟨x0, d0, rfl, h0⟩ := dL_some h
  obtain ⟨x1, d1, rfl, h1⟩ := dI_some h0
  obtain ⟨rfl, hE⟩ := dE_some h1
  obtain ⟨y, hy, hk⟩ := bnd_some hE
  refine ⟨_, hk, fn_ok px (fx := ⟨Go.Proofs.Try.func22, by kernel_rfl, by kernel_rfl⟩) entsOK_nil lentsOK_nil ?_⟩
  have hq := q_laws_szCornerS x0 x1
  rw [c_laws_szCornerS_bind] at hq
  rw [show c_laws_szCornerS x0 x1 some = some y from hy] at hq
  exact hq

/-! loop.example/g00876/laws.toCorner -/
def c_laws_toCorner {R : Type} (x0 : Int) (x1 : Int) (k : Int × Int → Option R) : Option R :=
  k (x0, x1)
theorem c_laws_toCorner_bind {R : Type} (x0 : Int) (x1 : Int) (k : Int × Int → Option R) : c_laws_toCorner x0 x1 k = (c_laws_toCorner x0 x1 some).bind k := by
  unfold c_laws_toCorner
  repeat' first
    | exact bnd_tail
    | exact bnd_none
    | exact bnd_leaf
    | apply bnd_ite
    | apply bnd_cond
    | apply bnd_sum
    | (apply bnd_bind; intro _)
    | intro _
def laws_toCorner (x0 : Int) (x1 : Int) : Option (Int × Int) := c_laws_toCorner x0 x1 some
def e_laws_toCorner : Ent := ⟨76, [.agg [.int .i64, .int .i64]], .agg [.int .i64, .int .i64], [.undef], fun _ ds k => dI (fun x0 ds => dI (fun x1 ds => dE ((laws_toCorner x0 x1).bind (fun y => k [.I y.1, .I y.2])) ds) ds) ds⟩
theorem q_laws_toCorner (x0 : Int) (x1 : Int) : runFn (ocOf []) (olOf []) A 76 Go.Proofs.Try.f76 (Sh.mks e_laws_toCorner.sh [.I x0, .I x1]).1 (fun v os => some (v, os)) = c_laws_toCorner x0 x1 (fun y => some ((e_laws_toCorner.res.mk [.I y.1, .I y.2]).1, (Sh.mks e_laws_toCorner.outs (e_laws_toCorner.res.mk [.I y.1, .I y.2]).2).1)) := by kernel_rfl
theorem e_laws_toCorner_ok : e_laws_toCorner.ok Go.Proofs.Try.prog A := by
  intro R ds k r h
  unfold e_laws_toCorner at h
  obtain ⟨x0, d0, rfl, h0⟩ := dI_some h
  obtain ⟨x1, d1, rfl, h1⟩ := dI_some h0
  obtain ⟨rfl, hE⟩ := dE_some h1
  obtain ⟨y, hy, hk⟩ := bnd_some hE
  refine ⟨_, hk, fn_ok px (fx := ⟨Go.Proofs.Try.func76, by kernel_rfl, by kernel_rfl⟩) entsOK_nil lentsOK_nil ?_⟩
  have hq := q_laws_toCorner x0 x1
  rw [c_laws_toCorner_bind] at hq
  rw [show c_laws_toCorner x0 x1 some = some y from hy] at hq
  exact hq

/-! loop.example/g00876/laws.toCornerS, loop 3 -/
def c_laws_toCornerS_L3 {R : Type} (F : List D → Int → List D → Option (List D)) (x0 : List D) (x1 : Int) (x2 : List D) (k : List D → Option R) : Option R :=
  bif Decidable.decide (x1 < (↑x0.length : Int)) then
    if (0 : Int) ≤ x1 ∧ x1 < (↑x0.length : Int) then
      (laws_toCorner (((x0.getD x1.toNat (Go.Rai.D.int (0 : Int))).fld (0 : Nat)).toInt) (((x0.getD x1.toNat (Go.Rai.D.int (0 : Int))).fld (1 : Nat)).toInt)).bind (fun y0 =>
        if (0 : Int) ≤ x1 ∧ x1 < (↑x2.length : Int) then
          if x1.toNat + (1 : Nat) ≤ x2.length then
            (F x0 (Go.IntKind.i64.wrap (x1 + (1 : Int))) (x2.set x1.toNat (Go.Rai.D.node [Go.Rai.D.int y0.fst, Go.Rai.D.int y0.snd]))).bind k
          else
            none
        else
          none)
    else
      none
  else
    k x2
theorem c_laws_toCornerS_L3_bind {R : Type} (F : List D → Int → List D → Option (List D)) (x0 : List D) (x1 : Int) (x2 : List D) (k : List D → Option R) : c_laws_toCornerS_L3 F x0 x1 x2 k = (c_laws_toCornerS_L3 F x0 x1 x2 some).bind k := by
  unfold c_laws_toCornerS_L3
  repeat' first
    | exact bnd_tail
    | exact bnd_none
    | exact bnd_leaf
    | apply bnd_ite
    | apply bnd_cond
    | apply bnd_sum
    | (apply bnd_bind; intro _)
    | intro _
def n_laws_toCornerS_L3 : Nat → List D → Int → List D → Option (List D)
  | 0, _, _, _ => none
  | n + 1, x0, x1, x2 => c_laws_toCornerS_L3 (n_laws_toCornerS_L3 n) x0 x1 x2 some
noncomputable def laws_toCornerS_L3 (x0 : List D) (x1 : Int) (x2 : List D) : Option (List D) := ev (fun n => n_laws_toCornerS_L3 n x0 x1 x2)
def m_laws_toCornerS_L3 (F : List D → Int → List D → Option (List D)) : Lent := ⟨3, ⟨[.rd (.struct [.int .i64, .int .i64]), .undef, .undef, .full 1000 [] (.struct [.int .i64, .int .i64]), .int .i64, .undef, .undef, .undef, .undef, .undef, .undef, .undef, .undef, .undef, .undef, .undef, .undef, .undef, .undef, .undef, .undef, .undef, .undef], [(1000, .own (.struct [.int .i64, .int .i64]))]⟩, [(.exit 0, ⟨[.undef, .undef, .undef, .full 1000 [] (.struct [.int .i64, .int .i64]), .undef, .undef, .undef, .undef, .undef, .undef, .undef, .undef, .undef, .undef, .undef, .undef, .undef, .undef, .undef, .undef, .undef, .undef, .undef], [(1000, .own (.struct [.int .i64, .int .i64]))]⟩)], fun _ ds k => dL (fun x0 ds => dI (fun x1 ds => dL (fun x2 ds => dE ((F x0 x1 x2).bind (fun y => k 0 [.L y])) ds) ds) ds) ds⟩
theorem q_laws_toCornerS_L3 (F : List D → Int → List D → Option (List D)) (x0 : List D) (x1 : Int) (x2 : List D) : runLoop (ocOf [e_laws_toCorner]) (olOf [m_laws_toCornerS_L3 F]) A 24 (codeAt (bodyOf Go.Proofs.Try.f24) 3) ((m_laws_toCornerS_L3 F).sh.mk' [.L x0, .I x1, .L x2]) (fun e σ' => some (e, σ')) = c_laws_toCornerS_L3 F x0 x1 x2 (fun y => some (.exit 0, SSt.mk' ⟨[.undef, .undef, .undef, .full 1000 [] (.struct [.int .i64, .int .i64]), .undef, .undef, .undef, .undef, .undef, .undef, .undef, .undef, .undef, .undef, .undef, .undef, .undef, .undef, .undef, .undef, .undef, .undef, .undef], [(1000, .own (.struct [.int .i64, .int .i64]))]⟩ [.L y])) := by kernel_rfl
theorem m_laws_toCornerS_L3_ok : ∀ n, (m_laws_toCornerS_L3 (n_laws_toCornerS_L3 n)).ok Go.Proofs.Try.prog (codeAt (bodyOf Go.Proofs.Try.f24) 3) := by
  intro n
  induction n with
  | zero =>
    intro R ds k r h
    unfold m_laws_toCornerS_L3 at h
    obtain ⟨x0, d0, rfl, h0⟩ := dL_some h
    obtain ⟨x1, d1, rfl, h1⟩ := dI_some h0
    obtain ⟨x2, d2, rfl, h2⟩ := dL_some h1
    obtain ⟨rfl, hE⟩ := dE_some h2
    obtain ⟨y, hy, hk⟩ := bnd_some hE
    cases hy
  | succ n ih =>
    intro R ds k r h
    unfold m_laws_toCornerS_L3 at h
    obtain ⟨x0, d0, rfl, h0⟩ := dL_some h
    obtain ⟨x1, d1, rfl, h1⟩ := dI_some h0
    obtain ⟨x2, d2, rfl, h2⟩ := dL_some h1
    obtain ⟨rfl, hE⟩ := dE_some h2
    obtain ⟨y, hy, hk⟩ := bnd_some hE
    have hq := q_laws_toCornerS_L3 (n_laws_toCornerS_L3 n) x0 x1 x2
    rw [c_laws_toCornerS_L3_bind] at hq
    rw [show c_laws_toCornerS_L3 (n_laws_toCornerS_L3 n) x0 x1 x2 some = some y from hy] at hq
    refine ⟨0, _, _, _, hk, rfl, loop_ok px (fx := ⟨Go.Proofs.Try.func24, by kernel_rfl, by kernel_rfl⟩) (entsOK_cons e_laws_toCorner_ok entsOK_nil) (lentsOK_cons ih lentsOK_nil) (by kernel_rfl) ?_⟩
    exact hq
noncomputable def e_laws_toCornerS_L3 : Lent := m_laws_toCornerS_L3 laws_toCornerS_L3
theorem e_laws_toCornerS_L3_ok : e_laws_toCornerS_L3.ok Go.Proofs.Try.prog (codeAt (bodyOf Go.Proofs.Try.f24) 3) := by
  intro R ds k r h
  unfold e_laws_toCornerS_L3 m_laws_toCornerS_L3 at h
  obtain ⟨x0, d0, rfl, h0⟩ := dL_some h
  obtain ⟨x1, d1, rfl, h1⟩ := dI_some h0
  obtain ⟨x2, d2, rfl, h2⟩ := dL_some h1
  obtain ⟨rfl, hE⟩ := dE_some h2
  obtain ⟨y, hy, hk⟩ := bnd_some hE
  obtain ⟨n, hn⟩ := ev_some hy
  exact m_laws_toCornerS_L3_ok n R _ k r (show (n_laws_toCornerS_L3 n x0 x1 x2).bind _ = _ by rw [hn]; exact hk)

/-! loop.example/g00876/laws.toCornerS -/
def c_laws_toCornerS {R : Type} (x0 : List D) (k : List D → Option R) : Option R :=
  if (0 : Int) ≤ (↑x0.length : Int) ∧ (↑x0.length : Int) ≤ (↑x0.length : Int) ∧ (↑x0.length : Int) ≤ (4294967296 : Int) then
    (laws_toCornerS_L3 x0 (0 : Int) (List.replicate (↑x0.length : Int).toNat (Go.Rai.D.node [Go.Rai.D.int (0 : Int), Go.Rai.D.int (0 : Int)]))).bind (fun y0 =>
      k y0)
  else
    none
theorem c_laws_toCornerS_bind {R : Type} (x0 : List D) (k : List D → Option R) : c_laws_toCornerS x0 k = (c_laws_toCornerS x0 some).bind k := by
  unfold c_laws_toCornerS
  repeat' first
    | exact bnd_tail
    | exact bnd_none
    | exact bnd_leaf
    | apply bnd_ite
    | apply bnd_cond
    | apply bnd_sum
    | (apply bnd_bind; intro _)
    | intro _
def laws_toCornerS (x0 : List D) : Option (List D) := c_laws_toCornerS x0 some
def e_laws_toCornerS : Ent := ⟨24, [.rd (.struct [.int .i64, .int .i64])], .own (.struct [.int .i64, .int .i64]), [.undef], fun _ ds k => dL (fun x0 ds => dE ((laws_toCornerS x0).bind (fun y => k [.L y])) ds) ds⟩
theorem q_laws_toCornerS (x0 : List D) : runFn (ocOf []) (olOf [e_laws_toCornerS_L3]) A 24 Go.Proofs.Try.f24 (Sh.mks e_laws_toCornerS.sh [.L x0]).1 (fun v os => some (v, os)) = c_laws_toCornerS x0 (fun y => some ((e_laws_toCornerS.res.mk [.L y]).1, (Sh.mks e_laws_toCornerS.outs (e_laws_toCornerS.res.mk [.L y]).2).1)) := by kernel_rfl
theorem e_laws_toCornerS_ok : e_laws_toCornerS.ok Go.Proofs.Try.prog A := by
  intro R ds k r h
  unfold e_laws_toCornerS at h
  obtain ⟨x0, d0, rfl, h0⟩ := dL_some h
  obtain ⟨rfl, hE⟩ := dE_some h0
  obtain ⟨y, hy, hk⟩ := bnd_some hE
  refine ⟨_, hk, fn_ok px (fx := ⟨Go.Proofs.Try.func24, by kernel_rfl, by kernel_rfl⟩) entsOK_nil (lentsOK_cons e_laws_toCornerS_L3_ok lentsOK_nil) ?_⟩
  have hq := q_laws_toCornerS x0
  rw [c_laws_toCornerS_bind] at hq
  rw [show c_laws_toCornerS x0 some = some y from hy] at hq
  exact hq

/-! loop.example/g00876/spec.l1In -/
def c_spec_l1In {R : Type} (x0 : Int) (x1 : Int) (x2 : Int) (k : Bool → Option R) : Option R :=
  bif Decidable.decide (x1 ≤ x0) then
    k (Decidable.decide (x0 ≤ x2))
  else
    k Bool.false
theorem c_spec_l1In_bind {R : Type} (x0 : Int) (x1 : Int) (x2 : Int) (k : Bool → Option R) : c_spec_l1In x0 x1 x2 k = (c_spec_l1In x0 x1 x2 some).bind k := by
  unfold c_spec_l1In
  repeat' first
    | exact bnd_tail
    | exact bnd_none
    | exact bnd_leaf
    | apply bnd_ite
    | apply bnd_cond
    | apply bnd_sum
    | (apply bnd_bind; intro _)
    | intro _
def spec_l1In (x0 : Int) (x1 : Int) (x2 : Int) : Option (Bool) := c_spec_l1In x0 x1 x2 some
def e_spec_l1In : Ent := ⟨67, [.int .i64, .int .i64, .int .i64], .bool, [.undef, .undef, .undef], fun _ ds k => dI (fun x0 ds => dI (fun x1 ds => dI (fun x2 ds => dE ((spec_l1In x0 x1 x2).bind (fun y => k [.B y])) ds) ds) ds) ds⟩
theorem q_spec_l1In (x0 : Int) (x1 : Int) (x2 : Int) : runFn (ocOf []) (olOf []) A 67 Go.Proofs.Try.f67 (Sh.mks e_spec_l1In.sh [.I x0, .I x1, .I x2]).1 (fun v os => some (v, os)) = c_spec_l1In x0 x1 x2 (fun y => some ((e_spec_l1In.res.mk [.B y]).1, (Sh.mks e_spec_l1In.outs (e_spec_l1In.res.mk [.B y]).2).1)) := by kernel_rfl
theorem e_spec_l1In_ok : e_spec_l1In.ok Go.Proofs.Try.prog A := by
  intro R ds k r h
  unfold e_spec_l1In at h
  obtain ⟨x0, d0, rfl, h0⟩ := dI_some h
  obtain ⟨x1, d1, rfl, h1⟩ := dI_some h0
  obtain ⟨x2, d2, rfl, h2⟩ := dI_some h1
  obtain ⟨rfl, hE⟩ := dE_some h2
  obtain ⟨y, hy, hk⟩ := bnd_some hE
  refine ⟨_, hk, fn_ok px (fx := ⟨Go.Proofs.Try.func67, by kernel_rfl, by kernel_rfl⟩) entsOK_nil lentsOK_nil ?_⟩
  have hq := q_spec_l1In x0 x1 x2
  rw [c_spec_l1In_bind] at hq
  rw [show c_spec_l1In x0 x1 x2 some = some y from hy] at hq
  exact hq

/-! loop.example/g00876/spec.l18Point -/
def c_spec_l18Point {R : Type} (x0 : Int) (x1 : Int) (k : Bool → Option R) : Option R :=
  (spec_l1In x0 (0 : Int) (1000 : Int)).bind (fun y0 =>
    bif y0 then
      (spec_l1In x1 (0 : Int) (1000 : Int)).bind (fun y1 =>
        k y1)
    else
      k Bool.false)
theorem c_spec_l18Point_bind {R : Type} (x0 : Int) (x1 : Int) (k : Bool → Option R) : c_spec_l18Point x0 x1 k = (c_spec_l18Point x0 x1 some).bind k := by
  unfold c_spec_l18Point
  repeat' first
    | exact bnd_tail
    | exact bnd_none
    | exact bnd_leaf
    | apply bnd_ite
    | apply bnd_cond
    | apply bnd_sum
    | (apply bnd_bind; intro _)
    | intro _
def spec_l18Point (x0 : Int) (x1 : Int) : Option (Bool) := c_spec_l18Point x0 x1 some
def e_spec_l18Point : Ent := ⟨102, [.agg [.int .i64, .int .i64]], .bool, [.undef], fun _ ds k => dI (fun x0 ds => dI (fun x1 ds => dE ((spec_l18Point x0 x1).bind (fun y => k [.B y])) ds) ds) ds⟩
theorem q_spec_l18Point (x0 : Int) (x1 : Int) : runFn (ocOf [e_spec_l1In]) (olOf []) A 102 Go.Proofs.Try.f102 (Sh.mks e_spec_l18Point.sh [.I x0, .I x1]).1 (fun v os => some (v, os)) = c_spec_l18Point x0 x1 (fun y => some ((e_spec_l18Point.res.mk [.B y]).1, (Sh.mks e_spec_l18Point.outs (e_spec_l18Point.res.mk [.B y]).2).1)) := by kernel_rfl
theorem e_spec_l18Point_ok : e_spec_l18Point.ok Go.Proofs.Try.prog A := by
  intro R ds k r h
  unfold e_spec_l18Point at h
  obtain ⟨x0, d0, rfl, h0⟩ := dI_some h
  obtain ⟨x1, d1, rfl, h1⟩ := dI_some h0
  obtain ⟨rfl, hE⟩ := dE_some h1
  obtain ⟨y, hy, hk⟩ := bnd_some hE
  refine ⟨_, hk, fn_ok px (fx := ⟨Go.Proofs.Try.func102, by kernel_rfl, by kernel_rfl⟩) (entsOK_cons e_spec_l1In_ok entsOK_nil) lentsOK_nil ?_⟩
  have hq := q_spec_l18Point x0 x1
  rw [c_spec_l18Point_bind] at hq
  rw [show c_spec_l18Point x0 x1 some = some y from hy] at hq
  exact hq

/-! loop.example/g00876/spec.l18Good, loop 10 -/
def c_spec_l18Good_L10 {R : Type} (F : List D → Int → Int → Int → Option ((List D × Bool × Int × Int) ⊕ (List D × Int × Int))) (x0 : List D) (x1 : Int) (x2 : Int) (x3 : Int) (k : (List D × Bool × Int × Int) ⊕ (List D × Int × Int) → Option R) : Option R :=
  bif Decidable.decide (x3 < x2) then
    if (0 : Int) ≤ x3 ∧ x3 < (↑x0.length : Int) then
      if (0 : Int) ≤ x2 ∧ x2 < (↑x0.length : Int) then
        bif Decidable.decide (((x0.getD x3.toNat (Go.Rai.D.int (0 : Int))).fld (0 : Nat)).toInt = ((x0.getD x2.toNat (Go.Rai.D.int (0 : Int))).fld (0 : Nat)).toInt) && (Decidable.decide (((x0.getD x3.toNat (Go.Rai.D.int (0 : Int))).fld (1 : Nat)).toInt = ((x0.getD x2.toNat (Go.Rai.D.int (0 : Int))).fld (1 : Nat)).toInt) && Bool.true) then
          k (.inl (x0, Bool.false, x1, x2))
        else
          (F x0 x1 x2 (Go.IntKind.i64.wrap (x3 + (1 : Int)))).bind k
      else
        none
    else
      none
  else
    k (.inr (x0, x1, x2))
theorem c_spec_l18Good_L10_bind {R : Type} (F : List D → Int → Int → Int → Option ((List D × Bool × Int × Int) ⊕ (List D × Int × Int))) (x0 : List D) (x1 : Int) (x2 : Int) (x3 : Int) (k : (List D × Bool × Int × Int) ⊕ (List D × Int × Int) → Option R) : c_spec_l18Good_L10 F x0 x1 x2 x3 k = (c_spec_l18Good_L10 F x0 x1 x2 x3 some).bind k := by
  unfold c_spec_l18Good_L10
  repeat' first
    | exact bnd_tail
    | exact bnd_none
    | exact bnd_leaf
    | apply bnd_ite
    | apply bnd_cond
    | apply bnd_sum
    | (apply bnd_bind; intro _)
    | intro _
def n_spec_l18Good_L10 : Nat → List D → Int → Int → Int → Option ((List D × Bool × Int × Int) ⊕ (List D × Int × Int))
  | 0, _, _, _, _ => none
  | n + 1, x0, x1, x2, x3 => c_spec_l18Good_L10 (n_spec_l18Good_L10 n) x0 x1 x2 x3 some
noncomputable def spec_l18Good_L10 (x0 : List D) (x1 : Int) (x2 : Int) (x3 : Int) : Option ((List D × Bool × Int × Int) ⊕ (List D × Int × Int)) := ev (fun n => n_spec_l18Good_L10 n x0 x1 x2 x3)
def m_spec_l18Good_L10 (F : List D → Int → Int → Int → Option ((List D × Bool × Int × Int) ⊕ (List D × Int × Int))) : Lent := ⟨10, ⟨[.rd (.struct [.int .i64, .int .i64]), .undef, .undef, .int .i64, .int .i64, .int .i64, .undef, .undef, .undef, .undef, .undef, .undef, .undef, .undef, .undef, .undef, .undef, .undef, .undef, .undef, .undef, .undef, .undef, .undef, .undef, .undef, .undef, .undef, .undef, .undef, .undef, .undef, .undef, .undef, .undef, .undef, .undef, .undef, .undef, .undef, .undef, .undef, .undef, .undef, .undef, .undef, .undef, .undef, .undef, .undef, .undef, .undef, .undef, .undef, .undef, .undef, .undef, .undef, .undef, .undef, .undef, .undef, .undef, .undef, .undef, .undef, .undef, .undef, .undef, .undef, .undef, .undef, .undef, .undef, .undef, .undef, .undef, .undef, .undef, .undef, .undef, .undef, .undef, .undef, .undef, .undef, .undef, .undef, .undef, .undef, .undef, .undef, .undef, .undef, .undef, .undef, .undef, .undef, .undef], []⟩, [(.ret, ⟨[.rd (.struct [.int .i64, .int .i64]), .undef, .bool, .int .i64, .int .i64, .undef, .undef, .undef, .undef, .undef, .undef, .undef, .undef, .undef, .undef, .undef, .undef, .undef, .undef, .undef, .undef, .undef, .undef, .undef, .undef, .undef, .undef, .undef, .undef, .undef, .undef, .undef, .undef, .undef, .undef, .undef, .undef, .undef, .undef, .undef, .undef, .undef, .undef, .undef, .undef, .undef, .undef, .undef, .undef, .undef, .undef, .undef, .undef, .undef, .undef, .undef, .undef, .undef, .undef, .undef, .undef, .undef, .undef, .undef, .undef, .undef, .undef, .undef, .undef, .undef, .undef, .undef, .undef, .undef, .undef, .undef, .undef, .undef, .undef, .undef, .undef, .undef, .undef, .undef, .undef, .undef, .undef, .undef, .undef, .undef, .undef, .undef, .undef, .undef, .undef, .undef, .undef, .undef, .undef], []⟩), (.exit 2, ⟨[.rd (.struct [.int .i64, .int .i64]), .undef, .undef, .int .i64, .int .i64, .undef, .undef, .undef, .undef, .undef, .undef, .undef, .undef, .undef, .undef, .undef, .undef, .undef, .undef, .undef, .undef, .undef, .undef, .undef, .undef, .undef, .undef, .undef, .undef, .undef, .undef, .undef, .undef, .undef, .undef, .undef, .undef, .undef, .undef, .undef, .undef, .undef, .undef, .undef, .undef, .undef, .undef, .undef, .undef, .undef, .undef, .undef, .undef, .undef, .undef, .undef, .undef, .undef, .undef, .undef, .undef, .undef, .undef, .undef, .undef, .undef, .undef, .undef, .undef, .undef, .undef, .undef, .undef, .undef, .undef, .undef, .undef, .undef, .undef, .undef, .undef, .undef, .undef, .undef, .undef, .undef, .undef, .undef, .undef, .undef, .undef, .undef, .undef, .undef, .undef, .undef, .undef, .undef, .undef], []⟩)], fun _ ds k => dL (fun x0 ds => dI (fun x1 ds => dI (fun x2 ds => dI (fun x3 ds => dE ((F x0 x1 x2 x3).bind (Sum.elim (fun y => k 0 [.L y.1, .B y.2.1, .I y.2.2.1, .I y.2.2.2]) (fun y => k 1 [.L y.1, .I y.2.1, .I y.2.2]))) ds) ds) ds) ds) ds⟩
theorem q_spec_l18Good_L10 (F : List D → Int → Int → Int → Option ((List D × Bool × Int × Int) ⊕ (List D × Int × Int))) (x0 : List D) (x1 : Int) (x2 : Int) (x3 : Int) : runLoop (ocOf []) (olOf [m_spec_l18Good_L10 F]) A 75 (codeAt (bodyOf Go.Proofs.Try.f75) 10) ((m_spec_l18Good_L10 F).sh.mk' [.L x0, .I x1, .I x2, .I x3]) (fun e σ' => some (e, σ')) = c_spec_l18Good_L10 F x0 x1 x2 x3 (Sum.elim (fun y => some (.ret, SSt.mk' ⟨[.rd (.struct [.int .i64, .int .i64]), .undef, .bool, .int .i64, .int .i64, .undef, .undef, .undef, .undef, .undef, .undef, .undef, .undef, .undef, .undef, .undef, .undef, .undef, .undef, .undef, .undef, .undef, .undef, .undef, .undef, .undef, .undef, .undef, .undef, .undef, .undef, .undef, .undef, .undef, .undef, .undef, .undef, .undef, .undef, .undef, .undef, .undef, .undef, .undef, .undef, .undef, .undef, .undef, .undef, .undef, .undef, .undef, .undef, .undef, .undef, .undef, .undef, .undef, .undef, .undef, .undef, .undef, .undef, .undef, .undef, .undef, .undef, .undef, .undef, .undef, .undef, .undef, .undef, .undef, .undef, .undef, .undef, .undef, .undef, .undef, .undef, .undef, .undef, .undef, .undef, .undef, .undef, .undef, .undef, .undef, .undef, .undef, .undef, .undef, .undef, .undef, .undef, .undef, .undef], []⟩ [.L y.1, .B y.2.1, .I y.2.2.1, .I y.2.2.2])) (fun y => some (.exit 2, SSt.mk' ⟨[.rd (.struct [.int .i64, .int .i64]), .undef, .undef, .int .i64, .int .i64, .undef, .undef, .undef, .undef, .undef, .undef, .undef, .undef, .undef, .undef, .undef, .undef, .undef, .undef, .undef, .undef, .undef, .undef, .undef, .undef, .undef, .undef, .undef, .undef, .undef, .undef, .undef, .undef, .undef, .undef, .undef, .undef, .undef, .undef, .undef, .undef, .undef, .undef, .undef, .undef, .undef, .undef, .undef, .undef, .undef, .undef, .undef, .undef, .undef, .undef, .undef, .undef, .undef, .undef, .undef, .undef, .undef, .undef, .undef, .undef, .undef, .undef, .undef, .undef, .undef, .undef, .undef, .undef, .undef, .undef, .undef, .undef, .undef, .undef, .undef, .undef, .undef, .undef, .undef, .undef, .undef, .undef, .undef, .undef, .undef, .undef, .undef, .undef, .undef, .undef, .undef, .undef, .undef, .undef], []⟩ [.L y.1, .I y.2.1, .I y.2.2]))) := by kernel_rfl
theorem m_spec_l18Good_L10_ok : ∀ n, (m_spec_l18Good_L10 (n_spec_l18Good_L10 n)).ok Go.Proofs.Try.prog (codeAt (bodyOf Go.Proofs.Try.f75) 10) := by
  intro n
  induction n with
  | zero =>
    intro R ds k r h
    unfold m_spec_l18Good_L10 at h
    obtain ⟨x0, d0, rfl, h0⟩ := dL_some h
    obtain ⟨x1, d1, rfl, h1⟩ := dI_some h0
    obtain ⟨x2, d2, rfl, h2⟩ := dI_some h1
    obtain ⟨x3, d3, rfl, h3⟩ := dI_some h2
    obtain ⟨rfl, hE⟩ := dE_some h3
    obtain ⟨y, hy, hk⟩ := bnd_some hE
    cases hy
  | succ n ih =>
    intro R ds k r h
    unfold m_spec_l18Good_L10 at h
    obtain ⟨x0, d0, rfl, h0⟩ := dL_some h
    obtain ⟨x1, d1, rfl, h1⟩ := dI_some h0
    obtain ⟨x2, d2, rfl, h2⟩ := dI_some h1
    obtain ⟨x3, d3, rfl, h3⟩ := dI_some h2
    obtain ⟨rfl, hE⟩ := dE_some h3
    obtain ⟨y, hy, hk⟩ := bnd_some hE
    have hq := q_spec_l18Good_L10 (n_spec_l18Good_L10 n) x0 x1 x2 x3
    rw [c_spec_l18Good_L10_bind] at hq
    rw [show c_spec_l18Good_L10 (n_spec_l18Good_L10 n) x0 x1 x2 x3 some = some y from hy] at hq
    cases y with
    | inl y =>
      refine ⟨0, _, _, _, hk, rfl, loop_ok px (fx := ⟨Go.Proofs.Try.func75, by kernel_rfl, by kernel_rfl⟩) entsOK_nil (lentsOK_cons ih lentsOK_nil) (by kernel_rfl) ?_⟩
      exact hq
    | inr y =>
      refine ⟨1, _, _, _, hk, rfl, loop_ok px (fx := ⟨Go.Proofs.Try.func75, by kernel_rfl, by kernel_rfl⟩) entsOK_nil (lentsOK_cons ih lentsOK_nil) (by kernel_rfl) ?_⟩
      exact hq
noncomputable def e_spec_l18Good_L10 : Lent := m_spec_l18Good_L10 spec_l18Good_L10
theorem e_spec_l18Good_L10_ok : e_spec_l18Good_L10.ok Go.Proofs.Try.prog (codeAt (bodyOf Go.Proofs.Try.f75) 10) := by
  intro R ds k r h
  unfold e_spec_l18Good_L10 m_spec_l18Good_L10 at h
  obtain ⟨x0, d0, rfl, h0⟩ := dL_some h
  obtain ⟨x1, d1, rfl, h1⟩ := dI_some h0
  obtain ⟨x2, d2, rfl, h2⟩ := dI_some h1
  obtain ⟨x3, d3, rfl, h3⟩ := dI_some h2
  obtain ⟨rfl, hE⟩ := dE_some h3
  obtain ⟨y, hy, hk⟩ := bnd_some hE
  obtain ⟨n, hn⟩ := ev_some hy
  exact m_spec_l18Good_L10_ok n R _ k r (show (n_spec_l18Good_L10 n x0 x1 x2 x3).bind _ = _ by rw [hn]; exact hk)

/-! loop.example/g00876/spec.l18Good, loop 5 -/
def c_spec_l18Good_L5 {R : Type} (F : List D → Int → Int → Option ((List D × Bool × Int) ⊕ (List D × Int))) (x0 : List D) (x1 : Int) (x2 : Int) (k : (List D × Bool × Int) ⊕ (List D × Int) → Option R) : Option R :=
  bif Decidable.decide (x2 < x1) then
    if (0 : Int) ≤ x2 ∧ x2 < (↑x0.length : Int) then
      (spec_l18Point (((x0.getD x2.toNat (Go.Rai.D.int (0 : Int))).fld (0 : Nat)).toInt) (((x0.getD x2.toNat (Go.Rai.D.int (0 : Int))).fld (1 : Nat)).toInt)).bind (fun y0 =>
        bif !y0 then
          k (.inl (x0, Bool.false, x1))
        else
          (spec_l18Good_L10 x0 x1 x2 (0 : Int)).bind (Sum.elim (fun y1 =>
            k (.inl (y1.fst, y1.snd.fst, y1.snd.snd.fst))) (fun y2 =>
            (F y2.fst y2.snd.fst (Go.IntKind.i64.wrap (y2.snd.snd + (1 : Int)))).bind k)))
    else
      none
  else
    k (.inr (x0, x1))
theorem c_spec_l18Good_L5_bind {R : Type} (F : List D → Int → Int → Option ((List D × Bool × Int) ⊕ (List D × Int))) (x0 : List D) (x1 : Int) (x2 : Int) (k : (List D × Bool × Int) ⊕ (List D × Int) → Option R) : c_spec_l18Good_L5 F x0 x1 x2 k = (c_spec_l18Good_L5 F x0 x1 x2 some).bind k := by
  unfold c_spec_l18Good_L5
  repeat' first
    | exact bnd_tail
    | exact bnd_none
    | exact bnd_leaf
    | apply bnd_ite
    | apply bnd_cond
    | apply bnd_sum
    | (apply bnd_bind; intro _)
    | intro _
def n_spec_l18Good_L5 : Nat → List D → Int → Int → Option ((List D × Bool × Int) ⊕ (List D × Int))
  | 0, _, _, _ => none
  | n + 1, x0, x1, x2 => c_spec_l18Good_L5 (n_spec_l18Good_L5 n) x0 x1 x2 some
noncomputable def spec_l18Good_L5 (x0 : List D) (x1 : Int) (x2 : Int) : Option ((List D × Bool × Int) ⊕ (List D × Int)) := ev (fun n => n_spec_l18Good_L5 n x0 x1 x2)
def m_spec_l18Good_L5 (F : List D → Int → Int → Option ((List D × Bool × Int) ⊕ (List D × Int))) : Lent := ⟨5, ⟨[.rd (.struct [.int .i64, .int .i64]), .undef, .undef, .int .i64, .int .i64, .undef, .undef, .undef, .undef, .undef, .undef, .undef, .undef, .undef, .undef, .undef, .undef, .undef, .undef, .undef, .undef, .undef, .undef, .undef, .undef, .undef, .undef, .undef, .undef, .undef, .undef, .undef, .undef, .undef, .undef, .undef, .undef, .undef, .undef, .undef, .undef, .undef, .undef, .undef, .undef, .undef, .undef, .undef, .undef, .undef, .undef, .undef, .undef, .undef, .undef, .undef, .undef, .undef, .undef, .undef, .undef, .undef, .undef, .undef, .undef, .undef, .undef, .undef, .undef, .undef, .undef, .undef, .undef, .undef, .undef, .undef, .undef, .undef, .undef, .undef, .undef, .undef, .undef, .undef, .undef, .undef, .undef, .undef, .undef, .undef, .undef, .undef, .undef, .undef, .undef, .undef, .undef, .undef, .undef], []⟩, [(.ret, ⟨[.rd (.struct [.int .i64, .int .i64]), .undef, .bool, .int .i64, .undef, .undef, .undef, .undef, .undef, .undef, .undef, .undef, .undef, .undef, .undef, .undef, .undef, .undef, .undef, .undef, .undef, .undef, .undef, .undef, .undef, .undef, .undef, .undef, .undef, .undef, .undef, .undef, .undef, .undef, .undef, .undef, .undef, .undef, .undef, .undef, .undef, .undef, .undef, .undef, .undef, .undef, .undef, .undef, .undef, .undef, .undef, .undef, .undef, .undef, .undef, .undef, .undef, .undef, .undef, .undef, .undef, .undef, .undef, .undef, .undef, .undef, .undef, .undef, .undef, .undef, .undef, .undef, .undef, .undef, .undef, .undef, .undef, .undef, .undef, .undef, .undef, .undef, .undef, .undef, .undef, .undef, .undef, .undef, .undef, .undef, .undef, .undef, .undef, .undef, .undef, .undef, .undef, .undef, .undef], []⟩), (.exit 0, ⟨[.rd (.struct [.int .i64, .int .i64]), .undef, .undef, .int .i64, .undef, .undef, .undef, .undef, .undef, .undef, .undef, .undef, .undef, .undef, .undef, .undef, .undef, .undef, .undef, .undef, .undef, .undef, .undef, .undef, .undef, .undef, .undef, .undef, .undef, .undef, .undef, .undef, .undef, .undef, .undef, .undef, .undef, .undef, .undef, .undef, .undef, .undef, .undef, .undef, .undef, .undef, .undef, .undef, .undef, .undef, .undef, .undef, .undef, .undef, .undef, .undef, .undef, .undef, .undef, .undef, .undef, .undef, .undef, .undef, .undef, .undef, .undef, .undef, .undef, .undef, .undef, .undef, .undef, .undef, .undef, .undef, .undef, .undef, .undef, .undef, .undef, .undef, .undef, .undef, .undef, .undef, .undef, .undef, .undef, .undef, .undef, .undef, .undef, .undef, .undef, .undef, .undef, .undef, .undef], []⟩)], fun _ ds k => dL (fun x0 ds => dI (fun x1 ds => dI (fun x2 ds => dE ((F x0 x1 x2).bind (Sum.elim (fun y => k 0 [.L y.1, .B y.2.1, .I y.2.2]) (fun y => k 1 [.L y.1, .I y.2]))) ds) ds) ds) ds⟩
theorem q_spec_l18Good_L5 (F : List D → Int → Int → Option ((List D × Bool × Int) ⊕ (List D × Int))) (x0 : List D) (x1 : Int) (x2 : Int) : runLoop (ocOf [e_spec_l18Point]) (olOf [m_spec_l18Good_L5 F, e_spec_l18Good_L10]) A 75 (codeAt (bodyOf Go.Proofs.Try.f75) 5) ((m_spec_l18Good_L5 F).sh.mk' [.L x0, .I x1, .I x2]) (fun e σ' => some (e, σ')) = c_spec_l18Good_L5 F x0 x1 x2 (Sum.elim (fun y => some (.ret, SSt.mk' ⟨[.rd (.struct [.int .i64, .int .i64]), .undef, .bool, .int .i64, .undef, .undef, .undef, .undef, .undef, .undef, .undef, .undef, .undef, .undef, .undef, .undef, .undef, .undef, .undef, .undef, .undef, .undef, .undef, .undef, .undef, .undef, .undef, .undef, .undef, .undef, .undef, .undef, .undef, .undef, .undef, .undef, .undef, .undef, .undef, .undef, .undef, .undef, .undef, .undef, .undef, .undef, .undef, .undef, .undef, .undef, .undef, .undef, .undef, .undef, .undef, .undef, .undef, .undef, .undef, .undef, .undef, .undef, .undef, .undef, .undef, .undef, .undef, .undef, .undef, .undef, .undef, .undef, .undef, .undef, .undef, .undef, .undef, .undef, .undef, .undef, .undef, .undef, .undef, .undef, .undef, .undef, .undef, .undef, .undef, .undef, .undef, .undef, .undef, .undef, .undef, .undef, .undef, .undef, .undef], []⟩ [.L y.1, .B y.2.1, .I y.2.2])) (fun y => some (.exit 0, SSt.mk' ⟨[.rd (.struct [.int .i64, .int .i64]), .undef, .undef, .int .i64, .undef, .undef, .undef, .undef, .undef, .undef, .undef, .undef, .undef, .undef, .undef, .undef, .undef, .undef, .undef, .undef, .undef, .undef, .undef, .undef, .undef, .undef, .undef, .undef, .undef, .undef, .undef, .undef, .undef, .undef, .undef, .undef, .undef, .undef, .undef, .undef, .undef, .undef, .undef, .undef, .undef, .undef, .undef, .undef, .undef, .undef, .undef, .undef, .undef, .undef, .undef, .undef, .undef, .undef, .undef, .undef, .undef, .undef, .undef, .undef, .undef, .undef, .undef, .undef, .undef, .undef, .undef, .undef, .undef, .undef, .undef, .undef, .undef, .undef, .undef, .undef, .undef, .undef, .undef, .undef, .undef, .undef, .undef, .undef, .undef, .undef, .undef, .undef, .undef, .undef, .undef, .undef, .undef, .undef, .undef], []⟩ [.L y.1, .I y.2]))) := by kernel_rfl
theorem m_spec_l18Good_L5_ok : ∀ n, (m_spec_l18Good_L5 (n_spec_l18Good_L5 n)).ok Go.Proofs.Try.prog (codeAt (bodyOf Go.Proofs.Try.f75) 5) := by
  intro n
  induction n with
  | zero =>
    intro R ds k r h
    unfold m_spec_l18Good_L5 at h
    obtain ⟨x0, d0, rfl, h0⟩ := dL_some h
    obtain ⟨x1, d1, rfl, h1⟩ := dI_some h0
    obtain ⟨x2, d2, rfl, h2⟩ := dI_some h1
    obtain ⟨rfl, hE⟩ := dE_some h2
    obtain ⟨y, hy, hk⟩ := bnd_some hE
    cases hy
  | succ n ih =>
    intro R ds k r h
    unfold m_spec_l18Good_L5 at h
    obtain ⟨x0, d0, rfl, h0⟩ := dL_some h
    obtain ⟨x1, d1, rfl, h1⟩ := dI_some h0
    obtain ⟨x2, d2, rfl, h2⟩ := dI_some h1
    obtain ⟨rfl, hE⟩ := dE_some h2
    obtain ⟨y, hy, hk⟩ := bnd_some hE
    have hq := q_spec_l18Good_L5 (n_spec_l18Good_L5 n) x0 x1 x2
    rw [c_spec_l18Good_L5_bind] at hq
    rw [show c_spec_l18Good_L5 (n_spec_l18Good_L5 n) x0 x1 x2 some = some y from hy] at hq
    cases y with
    | inl y =>
      refine ⟨0, _, _, _, hk, rfl, loop_ok px (fx := ⟨Go.Proofs.Try.func75, by kernel_rfl, by kernel_rfl⟩) (entsOK_cons e_spec_l18Point_ok entsOK_nil) (lentsOK_cons ih (lentsOK_cons e_spec_l18Good_L10_ok lentsOK_nil)) (by kernel_rfl) ?_⟩
      exact hq
    | inr y =>
      refine ⟨1, _, _, _, hk, rfl, loop_ok px (fx := ⟨Go.Proofs.Try.func75, by kernel_rfl, by kernel_rfl⟩) (entsOK_cons e_spec_l18Point_ok entsOK_nil) (lentsOK_cons ih (lentsOK_cons e_spec_l18Good_L10_ok lentsOK_nil)) (by kernel_rfl) ?_⟩
      exact hq
noncomputable def e_spec_l18Good_L5 : Lent := m_spec_l18Good_L5 spec_l18Good_L5
theorem e_spec_l18Good_L5_ok : e_spec_l18Good_L5.ok Go.Proofs.Try.prog (codeAt (bodyOf Go.Proofs.Try.f75) 5) := by
  intro R ds k r h
  unfold e_spec_l18Good_L5 m_spec_l18Good_L5 at h
  obtain ⟨x0, d0, rfl, h0⟩ := dL_some h
  obtain ⟨x1, d1, rfl, h1⟩ := dI_some h0
  obtain ⟨x2, d2, rfl, h2⟩ := dI_some h1
  obtain ⟨rfl, hE⟩ := dE_some h2
  obtain ⟨y, hy, hk⟩ := bnd_some hE
  obtain ⟨n, hn⟩ := ev_some hy
  exact m_spec_l18Good_L5_ok n R _ k r (show (n_spec_l18Good_L5 n x0 x1 x2).bind _ = _ by rw [hn]; exact hk)

/-! loop.example/g00876/spec.l18Turn -/
def c_spec_l18Turn {R : Type} (x0 : Int) (x1 : Int) (x2 : Int) (x3 : Int) (x4 : Int) (x5 : Int) (k : Int → Option R) : Option R :=
  k (Go.IntKind.i64.wrap (Go.IntKind.i64.wrap (Go.IntKind.i64.wrap (x2 - x0) * Go.IntKind.i64.wrap (x5 - x1)) - Go.IntKind.i64.wrap (Go.IntKind.i64.wrap (x3 - x1) * Go.IntKind.i64.wrap (x4 - x0))))
theorem c_spec_l18Turn_bind {R : Type} (x0 : Int) (x1 : Int) (x2 : Int) (x3 : Int) (x4 : Int) (x5 : Int) (k : Int → Option R) : c_spec_l18Turn x0 x1 x2 x3 x4 x5 k = (c_spec_l18Turn x0 x1 x2 x3 x4 x5 some).bind k := by
  unfold c_spec_l18Turn
  repeat' first
    | exact bnd_tail
    | exact bnd_none
    | exact bnd_leaf
    | apply bnd_ite
    | apply bnd_cond
    | apply bnd_sum
    | (apply bnd_bind; intro _)
    | intro _
def spec_l18Turn (x0 : Int) (x1 : Int) (x2 : Int) (x3 : Int) (x4 : Int) (x5 : Int) : Option (Int) := c_spec_l18Turn x0 x1 x2 x3 x4 x5 some
def e_spec_l18Turn : Ent := ⟨119, [.agg [.int .i64, .int .i64], .agg [.int .i64, .int .i64], .agg [.int .i64, .int .i64]], .int .i64, [.undef, .undef, .undef], fun _ ds k => dI (fun x0 ds => dI (fun x1 ds => dI (fun x2 ds => dI (fun x3 ds => dI (fun x4 ds => dI (fun x5 ds => dE ((spec_l18Turn x0 x1 x2 x3 x4 x5).bind (fun y => k [.I y])) ds) ds) ds) ds) ds) ds) ds⟩
theorem q_spec_l18Turn (x0 : Int) (x1 : Int) (x2 : Int) (x3 : Int) (x4 : Int) (x5 : Int) : runFn (ocOf []) (olOf []) A 119 Go.Proofs.Try.f119 (Sh.mks e_spec_l18Turn.sh [.I x0, .I x1, .I x2, .I x3, .I x4, .I x5]).1 (fun v os => some (v, os)) = c_spec_l18Turn x0 x1 x2 x3 x4 x5 (fun y => some ((e_spec_l18Turn.res.mk [.I y]).1, (Sh.mks e_spec_l18Turn.outs (e_spec_l18Turn.res.mk [.I y]).2).1)) := by kernel_rfl
theorem e_spec_l18Turn_ok : e_spec_l18Turn.ok Go.Proofs.Try.prog A := by
  intro R ds k r h
  unfold e_spec_l18Turn at h
  obtain ⟨x0, d0, rfl, h0⟩ := dI_some h
  obtain ⟨x1, d1, rfl, h1⟩ := dI_some h0
  obtain ⟨x2, d2, rfl, h2⟩ := dI_some h1
  obtain ⟨x3, d3, rfl, h3⟩ := dI_some h2
  obtain ⟨x4, d4, rfl, h4⟩ := dI_some h3
  obtain ⟨x5, d5, rfl, h5⟩ := dI_some h4
  obtain ⟨rfl, hE⟩ := dE_some h5
  obtain ⟨y, hy, hk⟩ := bnd_some hE
  refine ⟨_, hk, fn_ok px (fx := ⟨Go.Proofs.Try.func119, by kernel_rfl, by kernel_rfl⟩) entsOK_nil lentsOK_nil ?_⟩
  have hq := q_spec_l18Turn x0 x1 x2 x3 x4 x5
  rw [c_spec_l18Turn_bind] at hq
  rw [show c_spec_l18Turn x0 x1 x2 x3 x4 x5 some = some y from hy] at hq
  exact hq

/-! loop.example/g00876/spec.l1Least -/
def c_spec_l1Least {R : Type} (x0 : Int) (x1 : Int) (k : Int → Option R) : Option R :=
  bif Decidable.decide (x0 < x1) then
    k x0
  else
    k x1
theorem c_spec_l1Least_bind {R : Type} (x0 : Int) (x1 : Int) (k : Int → Option R) : c_spec_l1Least x0 x1 k = (c_spec_l1Least x0 x1 some).bind k := by
  unfold c_spec_l1Least
  repeat' first
    | exact bnd_tail
    | exact bnd_none
    | exact bnd_leaf
    | apply bnd_ite
    | apply bnd_cond
    | apply bnd_sum
    | (apply bnd_bind; intro _)
    | intro _
def spec_l1Least (x0 : Int) (x1 : Int) : Option (Int) := c_spec_l1Least x0 x1 some
def e_spec_l1Least : Ent := ⟨92, [.int .i64, .int .i64], .int .i64, [.undef, .undef], fun _ ds k => dI (fun x0 ds => dI (fun x1 ds => dE ((spec_l1Least x0 x1).bind (fun y => k [.I y])) ds) ds) ds⟩
theorem q_spec_l1Least (x0 : Int) (x1 : Int) : runFn (ocOf []) (olOf []) A 92 Go.Proofs.Try.f92 (Sh.mks e_spec_l1Least.sh [.I x0, .I x1]).1 (fun v os => some (v, os)) = c_spec_l1Least x0 x1 (fun y => some ((e_spec_l1Least.res.mk [.I y]).1, (Sh.mks e_spec_l1Least.outs (e_spec_l1Least.res.mk [.I y]).2).1)) := by kernel_rfl
theorem e_spec_l1Least_ok : e_spec_l1Least.ok Go.Proofs.Try.prog A := by
  intro R ds k r h
  unfold e_spec_l1Least at h
  obtain ⟨x0, d0, rfl, h0⟩ := dI_some h
  obtain ⟨x1, d1, rfl, h1⟩ := dI_some h0
  obtain ⟨rfl, hE⟩ := dE_some h1
  obtain ⟨y, hy, hk⟩ := bnd_some hE
  refine ⟨_, hk, fn_ok px (fx := ⟨Go.Proofs.Try.func92, by kernel_rfl, by kernel_rfl⟩) entsOK_nil lentsOK_nil ?_⟩
  have hq := q_spec_l1Least x0 x1
  rw [c_spec_l1Least_bind] at hq
  rw [show c_spec_l1Least x0 x1 some = some y from hy] at hq
  exact hq

/-! loop.example/g00876/spec.l1Most -/
def c_spec_l1Most {R : Type} (x0 : Int) (x1 : Int) (k : Int → Option R) : Option R :=
  bif Decidable.decide (x1 < x0) then
    k x0
  else
    k x1
theorem c_spec_l1Most_bind {R : Type} (x0 : Int) (x1 : Int) (k : Int → Option R) : c_spec_l1Most x0 x1 k = (c_spec_l1Most x0 x1 some).bind k := by
  unfold c_spec_l1Most
  repeat' first
    | exact bnd_tail
    | exact bnd_none
    | exact bnd_leaf
    | apply bnd_ite
    | apply bnd_cond
    | apply bnd_sum
    | (apply bnd_bind; intro _)
    | intro _
def spec_l1Most (x0 : Int) (x1 : Int) : Option (Int) := c_spec_l1Most x0 x1 some
def e_spec_l1Most : Ent := ⟨93, [.int .i64, .int .i64], .int .i64, [.undef, .undef], fun _ ds k => dI (fun x0 ds => dI (fun x1 ds => dE ((spec_l1Most x0 x1).bind (fun y => k [.I y])) ds) ds) ds⟩
theorem q_spec_l1Most (x0 : Int) (x1 : Int) : runFn (ocOf []) (olOf []) A 93 Go.Proofs.Try.f93 (Sh.mks e_spec_l1Most.sh [.I x0, .I x1]).1 (fun v os => some (v, os)) = c_spec_l1Most x0 x1 (fun y => some ((e_spec_l1Most.res.mk [.I y]).1, (Sh.mks e_spec_l1Most.outs (e_spec_l1Most.res.mk [.I y]).2).1)) := by kernel_rfl
theorem e_spec_l1Most_ok : e_spec_l1Most.ok Go.Proofs.Try.prog A := by
  intro R ds k r h
  unfold e_spec_l1Most at h
  obtain ⟨x0, d0, rfl, h0⟩ := dI_some h
  obtain ⟨x1, d1, rfl, h1⟩ := dI_some h0
  obtain ⟨rfl, hE⟩ := dE_some h1
  obtain ⟨y, hy, hk⟩ := bnd_some hE
  refine ⟨_, hk, fn_ok px (fx := ⟨Go.Proofs.Try.func93, by kernel_rfl, by kernel_rfl⟩) entsOK_nil lentsOK_nil ?_⟩
  have hq := q_spec_l1Most x0 x1
  rw [c_spec_l1Most_bind] at hq
  rw [show c_spec_l1Most x0 x1 some = some y from hy] at hq
  exact hq

/-! loop.example/g00876/spec.l18On -/
def c_spec_l18On {R : Type} (x0 : Int) (x1 : Int) (x2 : Int) (x3 : Int) (x4 : Int) (x5 : Int) (k : Bool → Option R) : Option R :=
  (spec_l18Turn x0 x1 x2 x3 x4 x5).bind (fun y0 =>
    bif Decidable.decide (y0 = (0 : Int)) then
      (spec_l1Least x0 x2).bind (fun y1 =>
        (spec_l1Most x0 x2).bind (fun y2 =>
          (spec_l1In x4 y1 y2).bind (fun y3 =>
            bif y3 then
              (spec_l1Least x1 x3).bind (fun y4 =>
                (spec_l1Most x1 x3).bind (fun y5 =>
                  (spec_l1In x5 y4 y5).bind (fun y6 =>
                    k y6)))
            else
              k Bool.false)))
    else
      k Bool.false)
theorem c_spec_l18On_bind {R : Type} (x0 : Int) (x1 : Int) (x2 : Int) (x3 : Int) (x4 : Int) (x5 : Int) (k : Bool → Option R) : c_spec_l18On x0 x1 x2 x3 x4 x5 k = (c_spec_l18On x0 x1 x2 x3 x4 x5 some).bind k := by
  unfold c_spec_l18On
  repeat' first
    | exact bnd_tail
    | exact bnd_none
    | exact bnd_leaf
    | apply bnd_ite
    | apply bnd_cond
    | apply bnd_sum
    | (apply bnd_bind; intro _)
    | intro _
def spec_l18On (x0 : Int) (x1 : Int) (x2 : Int) (x3 : Int) (x4 : Int) (x5 : Int) : Option (Bool) := c_spec_l18On x0 x1 x2 x3 x4 x5 some
def e_spec_l18On : Ent := ⟨133, [.agg [.int .i64, .int .i64], .agg [.int .i64, .int .i64], .agg [.int .i64, .int .i64]], .bool, [.undef, .undef, .undef], fun _ ds k => dI (fun x0 ds => dI (fun x1 ds => dI (fun x2 ds => dI (fun x3 ds => dI (fun x4 ds => dI (fun x5 ds => dE ((spec_l18On x0 x1 x2 x3 x4 x5).bind (fun y => k [.B y])) ds) ds) ds) ds) ds) ds) ds⟩
theorem q_spec_l18On (x0 : Int) (x1 : Int) (x2 : Int) (x3 : Int) (x4 : Int) (x5 : Int) : runFn (ocOf [e_spec_l18Turn, e_spec_l1Least, e_spec_l1Most, e_spec_l1In]) (olOf []) A 133 Go.Proofs.Try.f133 (Sh.mks e_spec_l18On.sh [.I x0, .I x1, .I x2, .I x3, .I x4, .I x5]).1 (fun v os => some (v, os)) = c_spec_l18On x0 x1 x2 x3 x4 x5 (fun y => some ((e_spec_l18On.res.mk [.B y]).1, (Sh.mks e_spec_l18On.outs (e_spec_l18On.res.mk [.B y]).2).1)) := by kernel_rfl
theorem e_spec_l18On_ok : e_spec_l18On.ok Go.Proofs.Try.prog A := by
  intro R ds k r h
  unfold e_spec_l18On at h
  obtain ⟨x0, d0, rfl, h0⟩ := dI_some h
  obtain ⟨x1, d1, rfl, h1⟩ := dI_some h0
  obtain ⟨x2, d2, rfl, h2⟩ := dI_some h1
  obtain ⟨x3, d3, rfl, h3⟩ := dI_some h2
  obtain ⟨x4, d4, rfl, h4⟩ := dI_some h3
  obtain ⟨x5, d5, rfl, h5⟩ := dI_some h4
  obtain ⟨rfl, hE⟩ := dE_some h5
  obtain ⟨y, hy, hk⟩ := bnd_some hE
  refine ⟨_, hk, fn_ok px (fx := ⟨Go.Proofs.Try.func133, by kernel_rfl, by kernel_rfl⟩) (entsOK_cons e_spec_l18Turn_ok (entsOK_cons e_spec_l1Least_ok (entsOK_cons e_spec_l1Most_ok (entsOK_cons e_spec_l1In_ok entsOK_nil)))) lentsOK_nil ?_⟩
  have hq := q_spec_l18On x0 x1 x2 x3 x4 x5
  rw [c_spec_l18On_bind] at hq
  rw [show c_spec_l18On x0 x1 x2 x3 x4 x5 some = some y from hy] at hq
  exact hq

/-! loop.example/g00876/spec.l18Sign -/
def c_spec_l18Sign {R : Type} (x0 : Int) (k : Int → Option R) : Option R :=
  bif Decidable.decide ((0 : Int) < x0) then
    k (1 : Int)
  else
    bif Decidable.decide (x0 < (0 : Int)) then
      k (-1 : Int)
    else
      k (0 : Int)
theorem c_spec_l18Sign_bind {R : Type} (x0 : Int) (k : Int → Option R) : c_spec_l18Sign x0 k = (c_spec_l18Sign x0 some).bind k := by
  unfold c_spec_l18Sign
  repeat' first
    | exact bnd_tail
    | exact bnd_none
    | exact bnd_leaf
    | apply bnd_ite
    | apply bnd_cond
    | apply bnd_sum
    | (apply bnd_bind; intro _)
    | intro _
def spec_l18Sign (x0 : Int) : Option (Int) := c_spec_l18Sign x0 some
def e_spec_l18Sign : Ent := ⟨134, [.int .i64], .int .i64, [.undef], fun _ ds k => dI (fun x0 ds => dE ((spec_l18Sign x0).bind (fun y => k [.I y])) ds) ds⟩
theorem q_spec_l18Sign (x0 : Int) : runFn (ocOf []) (olOf []) A 134 Go.Proofs.Try.f134 (Sh.mks e_spec_l18Sign.sh [.I x0]).1 (fun v os => some (v, os)) = c_spec_l18Sign x0 (fun y => some ((e_spec_l18Sign.res.mk [.I y]).1, (Sh.mks e_spec_l18Sign.outs (e_spec_l18Sign.res.mk [.I y]).2).1)) := by kernel_rfl
theorem e_spec_l18Sign_ok : e_spec_l18Sign.ok Go.Proofs.Try.prog A := by
  intro R ds k r h
  unfold e_spec_l18Sign at h
  obtain ⟨x0, d0, rfl, h0⟩ := dI_some h
  obtain ⟨rfl, hE⟩ := dE_some h0
  obtain ⟨y, hy, hk⟩ := bnd_some hE
  refine ⟨_, hk, fn_ok px (fx := ⟨Go.Proofs.Try.func134, by kernel_rfl, by kernel_rfl⟩) entsOK_nil lentsOK_nil ?_⟩
  have hq := q_spec_l18Sign x0
  rw [c_spec_l18Sign_bind] at hq
  rw [show c_spec_l18Sign x0 some = some y from hy] at hq
  exact hq

/-! loop.example/g00876/spec.l18Cross -/
def c_spec_l18Cross {R : Type} (x0 : Int) (x1 : Int) (x2 : Int) (x3 : Int) (x4 : Int) (x5 : Int) (x6 : Int) (x7 : Int) (k : Bool → Option R) : Option R :=
  (spec_l18On x0 x1 x2 x3 x4 x5).bind (fun y0 =>
    bif y0 then
      k Bool.true
    else
      (spec_l18On x0 x1 x2 x3 x6 x7).bind (fun y1 =>
        bif y1 then
          k Bool.true
        else
          (spec_l18On x4 x5 x6 x7 x0 x1).bind (fun y2 =>
            bif y2 then
              k Bool.true
            else
              (spec_l18On x4 x5 x6 x7 x2 x3).bind (fun y3 =>
                bif y3 then
                  k Bool.true
                else
                  (spec_l18Turn x0 x1 x2 x3 x4 x5).bind (fun y4 =>
                    (spec_l18Sign y4).bind (fun y5 =>
                      (spec_l18Turn x0 x1 x2 x3 x6 x7).bind (fun y6 =>
                        (spec_l18Sign y6).bind (fun y7 =>
                          bif Decidable.decide (Go.IntKind.i64.wrap (y5 * y7) < (0 : Int)) then
                            (spec_l18Turn x4 x5 x6 x7 x0 x1).bind (fun y8 =>
                              (spec_l18Sign y8).bind (fun y9 =>
                                (spec_l18Turn x4 x5 x6 x7 x2 x3).bind (fun y10 =>
                                  (spec_l18Sign y10).bind (fun y11 =>
                                    k (Decidable.decide (Go.IntKind.i64.wrap (y9 * y11) < (0 : Int)))))))
                          else
                            k Bool.false))))))))
theorem c_spec_l18Cross_bind {R : Type} (x0 : Int) (x1 : Int) (x2 : Int) (x3 : Int) (x4 : Int) (x5 : Int) (x6 : Int) (x7 : Int) (k : Bool → Option R) : c_spec_l18Cross x0 x1 x2 x3 x4 x5 x6 x7 k = (c_spec_l18Cross x0 x1 x2 x3 x4 x5 x6 x7 some).bind k := by
  unfold c_spec_l18Cross
  repeat' first
    | exact bnd_tail
    | exact bnd_none
    | exact bnd_leaf
    | apply bnd_ite
    | apply bnd_cond
    | apply bnd_sum
    | (apply bnd_bind; intro _)
    | intro _
def spec_l18Cross (x0 : Int) (x1 : Int) (x2 : Int) (x3 : Int) (x4 : Int) (x5 : Int) (x6 : Int) (x7 : Int) : Option (Bool) := c_spec_l18Cross x0 x1 x2 x3 x4 x5 x6 x7 some
def e_spec_l18Cross : Ent := ⟨120, [.agg [.int .i64, .int .i64], .agg [.int .i64, .int .i64], .agg [.int .i64, .int .i64], .agg [.int .i64, .int .i64]], .bool, [.undef, .undef, .undef, .undef], fun _ ds k => dI (fun x0 ds => dI (fun x1 ds => dI (fun x2 ds => dI (fun x3 ds => dI (fun x4 ds => dI (fun x5 ds => dI (fun x6 ds => dI (fun x7 ds => dE ((spec_l18Cross x0 x1 x2 x3 x4 x5 x6 x7).bind (fun y => k [.B y])) ds) ds) ds) ds) ds) ds) ds) ds) ds⟩
theorem q_spec_l18Cross (x0 : Int) (x1 : Int) (x2 : Int) (x3 : Int) (x4 : Int) (x5 : Int) (x6 : Int) (x7 : Int) : runFn (ocOf [e_spec_l18On, e_spec_l18Turn, e_spec_l18Sign]) (olOf []) A 120 Go.Proofs.Try.f120 (Sh.mks e_spec_l18Cross.sh [.I x0, .I x1, .I x2, .I x3, .I x4, .I x5, .I x6, .I x7]).1 (fun v os => some (v, os)) = c_spec_l18Cross x0 x1 x2 x3 x4 x5 x6 x7 (fun y => some ((e_spec_l18Cross.res.mk [.B y]).1, (Sh.mks e_spec_l18Cross.outs (e_spec_l18Cross.res.mk [.B y]).2).1)) := by kernel_rfl
theorem e_spec_l18Cross_ok : e_spec_l18Cross.ok Go.Proofs.Try.prog A := by
  intro R ds k r h
  unfold e_spec_l18Cross at h
  obtain ⟨x0, d0, rfl, h0⟩ := dI_some h
  obtain ⟨x1, d1, rfl, h1⟩ := dI_some h0
  obtain ⟨x2, d2, rfl, h2⟩ := dI_some h1
  obtain ⟨x3, d3, rfl, h3⟩ := dI_some h2
  obtain ⟨x4, d4, rfl, h4⟩ := dI_some h3
  obtain ⟨x5, d5, rfl, h5⟩ := dI_some h4
  obtain ⟨x6, d6, rfl, h6⟩ := dI_some h5
  obtain ⟨x7, d7, rfl, h7⟩ := dI_some h6
  obtain ⟨rfl, hE⟩ := dE_some h7
  obtain ⟨y, hy, hk⟩ := bnd_some hE
  refine ⟨_, hk, fn_ok px (fx := ⟨Go.Proofs.Try.func120, by kernel_rfl, by kernel_rfl⟩) (entsOK_cons e_spec_l18On_ok (entsOK_cons e_spec_l18Turn_ok (entsOK_cons e_spec_l18Sign_ok entsOK_nil))) lentsOK_nil ?_⟩
  have hq := q_spec_l18Cross x0 x1 x2 x3 x4 x5 x6 x7
  rw [c_spec_l18Cross_bind] at hq
  rw [show c_spec_l18Cross x0 x1 x2 x3 x4 x5 x6 x7 some = some y from hy] at hq
  exact hq

/-! loop.example/g00876/spec.l18Good, loop 20 -/
def c_spec_l18Good_L20 {R : Type} (F : List D → Int → Int → Int → Option ((List D × Bool × Int × Int) ⊕ (List D × Int × Int))) (x0 : List D) (x1 : Int) (x2 : Int) (x3 : Int) (k : (List D × Bool × Int × Int) ⊕ (List D × Int × Int) → Option R) : Option R :=
  bif Decidable.decide (x3 < x1) then
    if x1 ≠ (0 : Int) then
      bif !Decidable.decide ((Go.IntKind.i64.wrap (x3 + (1 : Int))).tmod x1 = x2) then
        if (0 : Int) ≤ x2 ∧ x2 < (↑x0.length : Int) then
          if (0 : Int) ≤ Go.IntKind.i64.wrap (x2 + (1 : Int)) ∧ Go.IntKind.i64.wrap (x2 + (1 : Int)) < (↑x0.length : Int) then
            if (0 : Int) ≤ x3 ∧ x3 < (↑x0.length : Int) then
              if x1 ≠ (0 : Int) then
                if (0 : Int) ≤ (Go.IntKind.i64.wrap (x3 + (1 : Int))).tmod x1 ∧ (Go.IntKind.i64.wrap (x3 + (1 : Int))).tmod x1 < (↑x0.length : Int) then
                  (spec_l18Cross (((x0.getD x2.toNat (Go.Rai.D.int (0 : Int))).fld (0 : Nat)).toInt) (((x0.getD x2.toNat (Go.Rai.D.int (0 : Int))).fld (1 : Nat)).toInt) (((x0.getD (Go.IntKind.i64.wrap (x2 + (1 : Int))).toNat (Go.Rai.D.int (0 : Int))).fld (0 : Nat)).toInt) (((x0.getD (Go.IntKind.i64.wrap (x2 + (1 : Int))).toNat (Go.Rai.D.int (0 : Int))).fld (1 : Nat)).toInt) (((x0.getD x3.toNat (Go.Rai.D.int (0 : Int))).fld (0 : Nat)).toInt) (((x0.getD x3.toNat (Go.Rai.D.int (0 : Int))).fld (1 : Nat)).toInt) (((x0.getD ((Go.IntKind.i64.wrap (x3 + (1 : Int))).tmod x1).toNat (Go.Rai.D.int (0 : Int))).fld (0 : Nat)).toInt) (((x0.getD ((Go.IntKind.i64.wrap (x3 + (1 : Int))).tmod x1).toNat (Go.Rai.D.int (0 : Int))).fld (1 : Nat)).toInt)).bind (fun y0 =>
                    bif y0 then
                      k (.inl (x0, Bool.false, x1, x2))
                    else
                      (F x0 x1 x2 (Go.IntKind.i64.wrap (x3 + (1 : Int)))).bind k)
                else
                  none
              else
                none
            else
              none
          else
            none
        else
          none
      else
        (F x0 x1 x2 (Go.IntKind.i64.wrap (x3 + (1 : Int)))).bind k
    else
      none
  else
    k (.inr (x0, x1, x2))
theorem c_spec_l18Good_L20_bind {R : Type} (F : List D → Int → Int → Int → Option ((List D × Bool × Int × Int) ⊕ (List D × Int × Int))) (x0 : List D) (x1 : Int) (x2 : Int) (x3 : Int) (k : (List D × Bool × Int × Int) ⊕ (List D × Int × Int) → Option R) : c_spec_l18Good_L20 F x0 x1 x2 x3 k = (c_spec_l18Good_L20 F x0 x1 x2 x3 some).bind k := by
  unfold c_spec_l18Good_L20
  repeat' first
    | exact bnd_tail
    | exact bnd_none
    | exact bnd_leaf
    | apply bnd_ite
    | apply bnd_cond
    | apply bnd_sum
    | (apply bnd_bind; intro _)
    | intro _
def n_spec_l18Good_L20 : Nat → List D → Int → Int → Int → Option ((List D × Bool × Int × Int) ⊕ (List D × Int × Int))
  | 0, _, _, _, _ => none
  | n + 1, x0, x1, x2, x3 => c_spec_l18Good_L20 (n_spec_l18Good_L20 n) x0 x1 x2 x3 some
noncomputable def spec_l18Good_L20 (x0 : List D) (x1 : Int) (x2 : Int) (x3 : Int) : Option ((List D × Bool × Int × Int) ⊕ (List D × Int × Int)) := ev (fun n => n_spec_l18Good_L20 n x0 x1 x2 x3)
def m_spec_l18Good_L20 (F : List D → Int → Int → Int → Option ((List D × Bool × Int × Int) ⊕ (List D × Int × Int))) : Lent := ⟨20, ⟨[.rd (.struct [.int .i64, .int .i64]), .undef, .undef, .int .i64, .undef, .undef, .int .i64, .int .i64, .undef, .undef, .undef, .undef, .undef, .undef, .undef, .undef, .undef, .undef, .undef, .undef, .undef, .undef, .undef, .undef, .undef, .undef, .undef, .undef, .undef, .undef, .undef, .undef, .undef, .undef, .undef, .undef, .undef, .undef, .undef, .undef, .undef, .undef, .undef, .undef, .undef, .undef, .undef, .undef, .undef, .undef, .undef, .undef, .undef, .undef, .undef, .undef, .undef, .undef, .undef, .undef, .undef, .undef, .undef, .undef, .undef, .undef, .undef, .undef, .undef, .undef, .undef, .undef, .undef, .undef, .undef, .undef, .undef, .undef, .undef, .undef, .undef, .undef, .undef, .undef, .undef, .undef, .undef, .undef, .undef, .undef, .undef, .undef, .undef, .undef, .undef, .undef, .undef, .undef, .undef], []⟩, [(.ret, ⟨[.rd (.struct [.int .i64, .int .i64]), .undef, .bool, .int .i64, .undef, .undef, .int .i64, .undef, .undef, .undef, .undef, .undef, .undef, .undef, .undef, .undef, .undef, .undef, .undef, .undef, .undef, .undef, .undef, .undef, .undef, .undef, .undef, .undef, .undef, .undef, .undef, .undef, .undef, .undef, .undef, .undef, .undef, .undef, .undef, .undef, .undef, .undef, .undef, .undef, .undef, .undef, .undef, .undef, .undef, .undef, .undef, .undef, .undef, .undef, .undef, .undef, .undef, .undef, .undef, .undef, .undef, .undef, .undef, .undef, .undef, .undef, .undef, .undef, .undef, .undef, .undef, .undef, .undef, .undef, .undef, .undef, .undef, .undef, .undef, .undef, .undef, .undef, .undef, .undef, .undef, .undef, .undef, .undef, .undef, .undef, .undef, .undef, .undef, .undef, .undef, .undef, .undef, .undef, .undef], []⟩), (.exit 6, ⟨[.rd (.struct [.int .i64, .int .i64]), .undef, .undef, .int .i64, .undef, .undef, .int .i64, .undef, .undef, .undef, .undef, .undef, .undef, .undef, .undef, .undef, .undef, .undef, .undef, .undef, .undef, .undef, .undef, .undef, .undef, .undef, .undef, .undef, .undef, .undef, .undef, .undef, .undef, .undef, .undef, .undef, .undef, .undef, .undef, .undef, .undef, .undef, .undef, .undef, .undef, .undef, .undef, .undef, .undef, .undef, .undef, .undef, .undef, .undef, .undef, .undef, .undef, .undef, .undef, .undef, .undef, .undef, .undef, .undef, .undef, .undef, .undef, .undef, .undef, .undef, .undef, .undef, .undef, .undef, .undef, .undef, .undef, .undef, .undef, .undef, .undef, .undef, .undef, .undef, .undef, .undef, .undef, .undef, .undef, .undef, .undef, .undef, .undef, .undef, .undef, .undef, .undef, .undef, .undef], []⟩)], fun _ ds k => dL (fun x0 ds => dI (fun x1 ds => dI (fun x2 ds => dI (fun x3 ds => dE ((F x0 x1 x2 x3).bind (Sum.elim (fun y => k 0 [.L y.1, .B y.2.1, .I y.2.2.1, .I y.2.2.2]) (fun y => k 1 [.L y.1, .I y.2.1, .I y.2.2]))) ds) ds) ds) ds) ds⟩
theorem q_spec_l18Good_L20 (F : List D → Int → Int → Int → Option ((List D × Bool × Int × Int) ⊕ (List D × Int × Int))) (x0 : List D) (x1 : Int) (x2 : Int) (x3 : Int) : runLoop (ocOf [e_spec_l18Cross]) (olOf [m_spec_l18Good_L20 F]) A 75 (codeAt (bodyOf Go.Proofs.Try.f75) 20) ((m_spec_l18Good_L20 F).sh.mk' [.L x0, .I x1, .I x2, .I x3]) (fun e σ' => some (e, σ')) = c_spec_l18Good_L20 F x0 x1 x2 x3 (Sum.elim (fun y => some (.ret, SSt.mk' ⟨[.rd (.struct [.int .i64, .int .i64]), .undef, .bool, .int .i64, .undef, .undef, .int .i64, .undef, .undef, .undef, .undef, .undef, .undef, .undef, .undef, .undef, .undef, .undef, .undef, .undef, .undef, .undef, .undef, .undef, .undef, .undef, .undef, .undef, .undef, .undef, .undef, .undef, .undef, .undef, .undef, .undef, .undef, .undef, .undef, .undef, .undef, .undef, .undef, .undef, .undef, .undef, .undef, .undef, .undef, .undef, .undef, .undef, .undef, .undef, .undef, .undef, .undef, .undef, .undef, .undef, .undef, .undef, .undef, .undef, .undef, .undef, .undef, .undef, .undef, .undef, .undef, .undef, .undef, .undef, .undef, .undef, .undef, .undef, .undef, .undef, .undef, .undef, .undef, .undef, .undef, .undef, .undef, .undef, .undef, .undef, .undef, .undef, .undef, .undef, .undef, .undef, .undef, .undef, .undef], []⟩ [.L y.1, .B y.2.1, .I y.2.2.1, .I y.2.2.2])) (fun y => some (.exit 6, SSt.mk' ⟨[.rd (.struct [.int .i64, .int .i64]), .undef, .undef, .int .i64, .undef, .undef, .int .i64, .undef, .undef, .undef, .undef, .undef, .undef, .undef, .undef, .undef, .undef, .undef, .undef, .undef, .undef, .undef, .undef, .undef, .undef, .undef, .undef, .undef, .undef, .undef, .undef, .undef, .undef, .undef, .undef, .undef, .undef, .undef, .undef, .undef, .undef, .undef, .undef, .undef, .undef, .undef, .undef, .undef, .undef, .undef, .undef, .undef, .undef, .undef, .undef, .undef, .undef, .undef, .undef, .undef, .undef, .undef, .undef, .undef, .undef, .undef, .undef, .undef, .undef, .undef, .undef, .undef, .undef, .undef, .undef, .undef, .undef, .undef, .undef, .undef, .undef, .undef, .undef, .undef, .undef, .undef, .undef, .undef, .undef, .undef, .undef, .undef, .undef, .undef, .undef, .undef, .undef, .undef, .undef], []⟩ [.L y.1, .I y.2.1, .I y.2.2]))) := by kernel_rfl
theorem m_spec_l18Good_L20_ok : ∀ n, (m_spec_l18Good_L20 (n_spec_l18Good_L20 n)).ok Go.Proofs.Try.prog (codeAt (bodyOf Go.Proofs.Try.f75) 20) := by
  intro n
  induction n with
  | zero =>
    intro R ds k r h
    unfold m_spec_l18Good_L20 at h
    obtain ⟨x0, d0, rfl, h0⟩ := dL_some h
    obtain ⟨x1, d1, rfl, h1⟩ := dI_some h0
    obtain ⟨x2, d2, rfl, h2⟩ := dI_some h1
    obtain ⟨x3, d3, rfl, h3⟩ := dI_some h2
    obtain ⟨rfl, hE⟩ := dE_some h3
    obtain ⟨y, hy, hk⟩ := bnd_some hE
    cases hy
  | succ n ih =>
    intro R ds k r h
    unfold m_spec_l18Good_L20 at h
    obtain ⟨x0, d0, rfl, h0⟩ := dL_some h
    obtain ⟨x1, d1, rfl, h1⟩ := dI_some h0
    obtain ⟨x2, d2, rfl, h2⟩ := dI_some h1
    obtain ⟨x3, d3, rfl, h3⟩ := dI_some h2
    obtain ⟨rfl, hE⟩ := dE_some h3
    obtain ⟨y, hy, hk⟩ := bnd_some hE
    have hq := q_spec_l18Good_L20 (n_spec_l18Good_L20 n) x0 x1 x2 x3
    rw [c_spec_l18Good_L20_bind] at hq
    rw [show c_spec_l18Good_L20 (n_spec_l18Good_L20 n) x0 x1 x2 x3 some = some y from hy] at hq
    cases y with
    | inl y =>
      refine ⟨0, _, _, _, hk, rfl, loop_ok px (fx := ⟨Go.Proofs.Try.func75, by kernel_rfl, by kernel_rfl⟩) (entsOK_cons e_spec_l18Cross_ok entsOK_nil) (lentsOK_cons ih lentsOK_nil) (by kernel_rfl) ?_⟩
      exact hq
    | inr y =>
      refine ⟨1, _, _, _, hk, rfl, loop_ok px (fx := ⟨Go.Proofs.Try.func75, by kernel_rfl, by kernel_rfl⟩) (entsOK_cons e_spec_l18Cross_ok entsOK_nil) (lentsOK_cons ih lentsOK_nil) (by kernel_rfl) ?_⟩
      exact hq
noncomputable def e_spec_l18Good_L20 : Lent := m_spec_l18Good_L20 spec_l18Good_L20
theorem e_spec_l18Good_L20_ok : e_spec_l18Good_L20.ok Go.Proofs.Try.prog (codeAt (bodyOf Go.Proofs.Try.f75) 20) := by
  intro R ds k r h
  unfold e_spec_l18Good_L20 m_spec_l18Good_L20 at h
  obtain ⟨x0, d0, rfl, h0⟩ := dL_some h
  obtain ⟨x1, d1, rfl, h1⟩ := dI_some h0
  obtain ⟨x2, d2, rfl, h2⟩ := dI_some h1
  obtain ⟨x3, d3, rfl, h3⟩ := dI_some h2
  obtain ⟨rfl, hE⟩ := dE_some h3
  obtain ⟨y, hy, hk⟩ := bnd_some hE
  obtain ⟨n, hn⟩ := ev_some hy
  exact m_spec_l18Good_L20_ok n R _ k r (show (n_spec_l18Good_L20 n x0 x1 x2 x3).bind _ = _ by rw [hn]; exact hk)

/-! loop.example/g00876/spec.l18Good, loop 15 -/
def c_spec_l18Good_L15 {R : Type} (F : List D → Int → Int → Option ((Bool) ⊕ (Unit))) (x0 : List D) (x1 : Int) (x2 : Int) (k : (Bool) ⊕ (Unit) → Option R) : Option R :=
  bif Decidable.decide (x2 < x1) then
    if (0 : Int) ≤ x2 ∧ x2 < (↑x0.length : Int) then
      if x1 ≠ (0 : Int) then
        if (0 : Int) ≤ (Go.IntKind.i64.wrap (x2 + (1 : Int))).tmod x1 ∧ (Go.IntKind.i64.wrap (x2 + (1 : Int))).tmod x1 < (↑x0.length : Int) then
          if x1 ≠ (0 : Int) then
            if (0 : Int) ≤ (Go.IntKind.i64.wrap (x2 + (2 : Int))).tmod x1 ∧ (Go.IntKind.i64.wrap (x2 + (2 : Int))).tmod x1 < (↑x0.length : Int) then
              (spec_l18Turn (((x0.getD x2.toNat (Go.Rai.D.int (0 : Int))).fld (0 : Nat)).toInt) (((x0.getD x2.toNat (Go.Rai.D.int (0 : Int))).fld (1 : Nat)).toInt) (((x0.getD ((Go.IntKind.i64.wrap (x2 + (1 : Int))).tmod x1).toNat (Go.Rai.D.int (0 : Int))).fld (0 : Nat)).toInt) (((x0.getD ((Go.IntKind.i64.wrap (x2 + (1 : Int))).tmod x1).toNat (Go.Rai.D.int (0 : Int))).fld (1 : Nat)).toInt) (((x0.getD ((Go.IntKind.i64.wrap (x2 + (2 : Int))).tmod x1).toNat (Go.Rai.D.int (0 : Int))).fld (0 : Nat)).toInt) (((x0.getD ((Go.IntKind.i64.wrap (x2 + (2 : Int))).tmod x1).toNat (Go.Rai.D.int (0 : Int))).fld (1 : Nat)).toInt)).bind (fun y0 =>
                bif Decidable.decide (y0 = (0 : Int)) then
                  k (.inl Bool.false)
                else
                  (spec_l18Good_L20 x0 x1 x2 (Go.IntKind.i64.wrap (x2 + (2 : Int)))).bind (Sum.elim (fun y1 =>
                    k (.inl y1.snd.fst)) (fun y2 =>
                    (F y2.fst y2.snd.fst (Go.IntKind.i64.wrap (y2.snd.snd + (1 : Int)))).bind k)))
            else
              none
          else
            none
        else
          none
      else
        none
    else
      none
  else
    k (.inr ())
theorem c_spec_l18Good_L15_bind {R : Type} (F : List D → Int → Int → Option ((Bool) ⊕ (Unit))) (x0 : List D) (x1 : Int) (x2 : Int) (k : (Bool) ⊕ (Unit) → Option R) : c_spec_l18Good_L15 F x0 x1 x2 k = (c_spec_l18Good_L15 F x0 x1 x2 some).bind k := by
  unfold c_spec_l18Good_L15
  repeat' first
    | exact bnd_tail
    | exact bnd_none
    | exact bnd_leaf
    | apply bnd_ite
    | apply bnd_cond
    | apply bnd_sum
    | (apply bnd_bind; intro _)
    | intro _
def n_spec_l18Good_L15 : Nat → List D → Int → Int → Option ((Bool) ⊕ (Unit))
  | 0, _, _, _ => none
  | n + 1, x0, x1, x2 => c_spec_l18Good_L15 (n_spec_l18Good_L15 n) x0 x1 x2 some
noncomputable def spec_l18Good_L15 (x0 : List D) (x1 : Int) (x2 : Int) : Option ((Bool) ⊕ (Unit)) := ev (fun n => n_spec_l18Good_L15 n x0 x1 x2)
def m_spec_l18Good_L15 (F : List D → Int → Int → Option ((Bool) ⊕ (Unit))) : Lent := ⟨15, ⟨[.rd (.struct [.int .i64, .int .i64]), .undef, .undef, .int .i64, .undef, .undef, .int .i64, .undef, .undef, .undef, .undef, .undef, .undef, .undef, .undef, .undef, .undef, .undef, .undef, .undef, .undef, .undef, .undef, .undef, .undef, .undef, .undef, .undef, .undef, .undef, .undef, .undef, .undef, .undef, .undef, .undef, .undef, .undef, .undef, .undef, .undef, .undef, .undef, .undef, .undef, .undef, .undef, .undef, .undef, .undef, .undef, .undef, .undef, .undef, .undef, .undef, .undef, .undef, .undef, .undef, .undef, .undef, .undef, .undef, .undef, .undef, .undef, .undef, .undef, .undef, .undef, .undef, .undef, .undef, .undef, .undef, .undef, .undef, .undef, .undef, .undef, .undef, .undef, .undef, .undef, .undef, .undef, .undef, .undef, .undef, .undef, .undef, .undef, .undef, .undef, .undef, .undef, .undef, .undef], []⟩, [(.ret, ⟨[.undef, .undef, .bool, .undef, .undef, .undef, .undef, .undef, .undef, .undef, .undef, .undef, .undef, .undef, .undef, .undef, .undef, .undef, .undef, .undef, .undef, .undef, .undef, .undef, .undef, .undef, .undef, .undef, .undef, .undef, .undef, .undef, .undef, .undef, .undef, .undef, .undef, .undef, .undef, .undef, .undef, .undef, .undef, .undef, .undef, .undef, .undef, .undef, .undef, .undef, .undef, .undef, .undef, .undef, .undef, .undef, .undef, .undef, .undef, .undef, .undef, .undef, .undef, .undef, .undef, .undef, .undef, .undef, .undef, .undef, .undef, .undef, .undef, .undef, .undef, .undef, .undef, .undef, .undef, .undef, .undef, .undef, .undef, .undef, .undef, .undef, .undef, .undef, .undef, .undef, .undef, .undef, .undef, .undef, .undef, .undef, .undef, .undef, .undef], []⟩), (.exit 4, ⟨[.undef, .undef, .undef, .undef, .undef, .undef, .undef, .undef, .undef, .undef, .undef, .undef, .undef, .undef, .undef, .undef, .undef, .undef, .undef, .undef, .undef, .undef, .undef, .undef, .undef, .undef, .undef, .undef, .undef, .undef, .undef, .undef, .undef, .undef, .undef, .undef, .undef, .undef, .undef, .undef, .undef, .undef, .undef, .undef, .undef, .undef, .undef, .undef, .undef, .undef, .undef, .undef, .undef, .undef, .undef, .undef, .undef, .undef, .undef, .undef, .undef, .undef, .undef, .undef, .undef, .undef, .undef, .undef, .undef, .undef, .undef, .undef, .undef, .undef, .undef, .undef, .undef, .undef, .undef, .undef, .undef, .undef, .undef, .undef, .undef, .undef, .undef, .undef, .undef, .undef, .undef, .undef, .undef, .undef, .undef, .undef, .undef, .undef, .undef], []⟩)], fun _ ds k => dL (fun x0 ds => dI (fun x1 ds => dI (fun x2 ds => dE ((F x0 x1 x2).bind (Sum.elim (fun y => k 0 [.B y]) (fun y => k 1 []))) ds) ds) ds) ds⟩
theorem q_spec_l18Good_L15 (F : List D → Int → Int → Option ((Bool) ⊕ (Unit))) (x0 : List D) (x1 : Int) (x2 : Int) : runLoop (ocOf [e_spec_l18Turn]) (olOf [m_spec_l18Good_L15 F, e_spec_l18Good_L20]) A 75 (codeAt (bodyOf Go.Proofs.Try.f75) 15) ((m_spec_l18Good_L15 F).sh.mk' [.L x0, .I x1, .I x2]) (fun e σ' => some (e, σ')) = c_spec_l18Good_L15 F x0 x1 x2 (Sum.elim (fun y => some (.ret, SSt.mk' ⟨[.undef, .undef, .bool, .undef, .undef, .undef, .undef, .undef, .undef, .undef, .undef, .undef, .undef, .undef, .undef, .undef, .undef, .undef, .undef, .undef, .undef, .undef, .undef, .undef, .undef, .undef, .undef, .undef, .undef, .undef, .undef, .undef, .undef, .undef, .undef, .undef, .undef, .undef, .undef, .undef, .undef, .undef, .undef, .undef, .undef, .undef, .undef, .undef, .undef, .undef, .undef, .undef, .undef, .undef, .undef, .undef, .undef, .undef, .undef, .undef, .undef, .undef, .undef, .undef, .undef, .undef, .undef, .undef, .undef, .undef, .undef, .undef, .undef, .undef, .undef, .undef, .undef, .undef, .undef, .undef, .undef, .undef, .undef, .undef, .undef, .undef, .undef, .undef, .undef, .undef, .undef, .undef, .undef, .undef, .undef, .undef, .undef, .undef, .undef], []⟩ [.B y])) (fun y => some (.exit 4, SSt.mk' ⟨[.undef, .undef, .undef, .undef, .undef, .undef, .undef, .undef, .undef, .undef, .undef, .undef, .undef, .undef, .undef, .undef, .undef, .undef, .undef, .undef, .undef, .undef, .undef, .undef, .undef, .undef, .undef, .undef, .undef, .undef, .undef, .undef, .undef, .undef, .undef, .undef, .undef, .undef, .undef, .undef, .undef, .undef, .undef, .undef, .undef, .undef, .undef, .undef, .undef, .undef, .undef, .undef, .undef, .undef, .undef, .undef, .undef, .undef, .undef, .undef, .undef, .undef, .undef, .undef, .undef, .undef, .undef, .undef, .undef, .undef, .undef, .undef, .undef, .undef, .undef, .undef, .undef, .undef, .undef, .undef, .undef, .undef, .undef, .undef, .undef, .undef, .undef, .undef, .undef, .undef, .undef, .undef, .undef, .undef, .undef, .undef, .undef, .undef, .undef], []⟩ []))) := by kernel_rfl
theorem m_spec_l18Good_L15_ok : ∀ n, (m_spec_l18Good_L15 (n_spec_l18Good_L15 n)).ok Go.Proofs.Try.prog (codeAt (bodyOf Go.Proofs.Try.f75) 15) := by
  intro n
  induction n with
  | zero =>
    intro R ds k r h
    unfold m_spec_l18Good_L15 at h
    obtain ⟨x0, d0, rfl, h0⟩ := dL_some h
    obtain ⟨x1, d1, rfl, h1⟩ := dI_some h0
    obtain ⟨x2, d2, rfl, h2⟩ := dI_some h1
    obtain ⟨rfl, hE⟩ := dE_some h2
    obtain ⟨y, hy, hk⟩ := bnd_some hE
    cases hy
  | succ n ih =>
    intro R ds k r h
    unfold m_spec_l18Good_L15 at h
    obtain ⟨x0, d0, rfl, h0⟩ := dL_some h
    obtain ⟨x1, d1, rfl, h1⟩ := dI_some h0
    obtain ⟨x2, d2, rfl, h2⟩ := dI_some h1
    obtain ⟨rfl, hE⟩ := dE_some h2
    obtain ⟨y, hy, hk⟩ := bnd_some hE
    have hq := q_spec_l18Good_L15 (n_spec_l18Good_L15 n) x0 x1 x2
    rw [c_spec_l18Good_L15_bind] at hq
    rw [show c_spec_l18Good_L15 (n_spec_l18Good_L15 n) x0 x1 x2 some = some y from hy] at hq
    cases y with
    | inl y =>
      refine ⟨0, _, _, _, hk, rfl, loop_ok px (fx := ⟨Go.Proofs.Try.func75, by kernel_rfl, by kernel_rfl⟩) (entsOK_cons e_spec_l18Turn_ok entsOK_nil) (lentsOK_cons ih (lentsOK_cons e_spec_l18Good_L20_ok lentsOK_nil)) (by kernel_rfl) ?_⟩
      exact hq
    | inr y =>
      refine ⟨1, _, _, _, hk, rfl, loop_ok px (fx := ⟨Go.Proofs.Try.func75, by kernel_rfl, by kernel_rfl⟩) (entsOK_cons e_spec_l18Turn_ok entsOK_nil) (lentsOK_cons ih (lentsOK_cons e_spec_l18Good_L20_ok lentsOK_nil)) (by kernel_rfl) ?_⟩
      exact hq
noncomputable def e_spec_l18Good_L15 : Lent := m_spec_l18Good_L15 spec_l18Good_L15
theorem e_spec_l18Good_L15_ok : e_spec_l18Good_L15.ok Go.Proofs.Try.prog (codeAt (bodyOf Go.Proofs.Try.f75) 15) := by
  intro R ds k r h
  unfold e_spec_l18Good_L15 m_spec_l18Good_L15 at h
  obtain ⟨x0, d0, rfl, h0⟩ := dL_some h
  obtain ⟨x1, d1, rfl, h1⟩ := dI_some h0
  obtain ⟨x2, d2, rfl, h2⟩ := dI_some h1
  obtain ⟨rfl, hE⟩ := dE_some h2
  obtain ⟨y, hy, hk⟩ := bnd_some hE
  obtain ⟨n, hn⟩ := ev_some hy
  exact m_spec_l18Good_L15_ok n R _ k r (show (n_spec_l18Good_L15 n x0 x1 x2).bind _ = _ by rw [hn]; exact hk)

/-! loop.example/g00876/spec.l18Good -/
def c_spec_l18Good {R : Type} (x0 : List D) (k : Bool → Option R) : Option R :=
  (spec_l1In (↑x0.length : Int) (3 : Int) (12 : Int)).bind (fun y0 =>
    bif !y0 then
      k Bool.false
    else
      (spec_l18Good_L5 x0 (↑x0.length : Int) (0 : Int)).bind (Sum.elim (fun y1 =>
        k y1.snd.fst) (fun y2 =>
        (spec_l18Good_L15 y2.fst y2.snd (0 : Int)).bind (Sum.elim (fun y3 =>
          k y3) (fun y4 =>
          k Bool.true)))))
theorem c_spec_l18Good_bind {R : Type} (x0 : List D) (k : Bool → Option R) : c_spec_l18Good x0 k = (c_spec_l18Good x0 some).bind k := by
  unfold c_spec_l18Good
  repeat' first
    | exact bnd_tail
    | exact bnd_none
    | exact bnd_leaf
    | apply bnd_ite
    | apply bnd_cond
    | apply bnd_sum
    | (apply bnd_bind; intro _)
    | intro _
def spec_l18Good (x0 : List D) : Option (Bool) := c_spec_l18Good x0 some
def e_spec_l18Good : Ent := ⟨75, [.rd (.struct [.int .i64, .int .i64])], .bool, [.undef], fun _ ds k => dL (fun x0 ds => dE ((spec_l18Good x0).bind (fun y => k [.B y])) ds) ds⟩
theorem q_spec_l18Good (x0 : List D) : runFn (ocOf [e_spec_l1In]) (olOf [e_spec_l18Good_L5, e_spec_l18Good_L15]) A 75 Go.Proofs.Try.f75 (Sh.mks e_spec_l18Good.sh [.L x0]).1 (fun v os => some (v, os)) = c_spec_l18Good x0 (fun y => some ((e_spec_l18Good.res.mk [.B y]).1, (Sh.mks e_spec_l18Good.outs (e_spec_l18Good.res.mk [.B y]).2).1)) := by kernel_rfl
theorem e_spec_l18Good_ok : e_spec_l18Good.ok Go.Proofs.Try.prog A := by
  intro R ds k r h
  unfold e_spec_l18Good at h
  obtain ⟨x0, d0, rfl, h0⟩ := dL_some h
  obtain ⟨rfl, hE⟩ := dE_some h0
  obtain ⟨y, hy, hk⟩ := bnd_some hE
  refine ⟨_, hk, fn_ok px (fx := ⟨Go.Proofs.Try.func75, by kernel_rfl, by kernel_rfl⟩) (entsOK_cons e_spec_l1In_ok entsOK_nil) (lentsOK_cons e_spec_l18Good_L5_ok (lentsOK_cons e_spec_l18Good_L15_ok lentsOK_nil)) ?_⟩
  have hq := q_spec_l18Good x0
  rw [c_spec_l18Good_bind] at hq
  rw [show c_spec_l18Good x0 some = some y from hy] at hq
  exact hq

/-! loop.example/g00876/spec.l18Before -/
def c_spec_l18Before {R : Type} (x0 : Int) (x1 : Int) (x2 : Int) (x3 : Int) (k : Bool → Option R) : Option R :=
  bif Decidable.decide (x0 < x2) then
    k Bool.true
  else
    bif Decidable.decide (x0 = x2) then
      k (Decidable.decide (x1 < x3))
    else
      k Bool.false
theorem c_spec_l18Before_bind {R : Type} (x0 : Int) (x1 : Int) (x2 : Int) (x3 : Int) (k : Bool → Option R) : c_spec_l18Before x0 x1 x2 x3 k = (c_spec_l18Before x0 x1 x2 x3 some).bind k := by
  unfold c_spec_l18Before
  repeat' first
    | exact bnd_tail
    | exact bnd_none
    | exact bnd_leaf
    | apply bnd_ite
    | apply bnd_cond
    | apply bnd_sum
    | (apply bnd_bind; intro _)
    | intro _
def spec_l18Before (x0 : Int) (x1 : Int) (x2 : Int) (x3 : Int) : Option (Bool) := c_spec_l18Before x0 x1 x2 x3 some
def e_spec_l18Before : Ent := ⟨105, [.agg [.int .i64, .int .i64], .agg [.int .i64, .int .i64]], .bool, [.undef, .undef], fun _ ds k => dI (fun x0 ds => dI (fun x1 ds => dI (fun x2 ds => dI (fun x3 ds => dE ((spec_l18Before x0 x1 x2 x3).bind (fun y => k [.B y])) ds) ds) ds) ds) ds⟩
theorem q_spec_l18Before (x0 : Int) (x1 : Int) (x2 : Int) (x3 : Int) : runFn (ocOf []) (olOf []) A 105 Go.Proofs.Try.f105 (Sh.mks e_spec_l18Before.sh [.I x0, .I x1, .I x2, .I x3]).1 (fun v os => some (v, os)) = c_spec_l18Before x0 x1 x2 x3 (fun y => some ((e_spec_l18Before.res.mk [.B y]).1, (Sh.mks e_spec_l18Before.outs (e_spec_l18Before.res.mk [.B y]).2).1)) := by kernel_rfl
theorem e_spec_l18Before_ok : e_spec_l18Before.ok Go.Proofs.Try.prog A := by
  intro R ds k r h
  unfold e_spec_l18Before at h
  obtain ⟨x0, d0, rfl, h0⟩ := dI_some h
  obtain ⟨x1, d1, rfl, h1⟩ := dI_some h0
  obtain ⟨x2, d2, rfl, h2⟩ := dI_some h1
  obtain ⟨x3, d3, rfl, h3⟩ := dI_some h2
  obtain ⟨rfl, hE⟩ := dE_some h3
  obtain ⟨y, hy, hk⟩ := bnd_some hE
  refine ⟨_, hk, fn_ok px (fx := ⟨Go.Proofs.Try.func105, by kernel_rfl, by kernel_rfl⟩) entsOK_nil lentsOK_nil ?_⟩
  have hq := q_spec_l18Before x0 x1 x2 x3
  rw [c_spec_l18Before_bind] at hq
  rw [show c_spec_l18Before x0 x1 x2 x3 some = some y from hy] at hq
  exact hq

/-! loop.example/g00876/spec.NormalForm, loop 6 -/
def c_spec_NormalForm_L6 {R : Type} (F : List D → Int → Int → Int → Option (List D × Int × Int)) (x0 : List D) (x1 : Int) (x2 : Int) (x3 : Int) (k : List D × Int × Int → Option R) : Option R :=
  bif Decidable.decide (x3 < x1) then
    if (0 : Int) ≤ x3 ∧ x3 < (↑x0.length : Int) then
      if (0 : Int) ≤ x2 ∧ x2 < (↑x0.length : Int) then
        (spec_l18Before (((x0.getD x3.toNat (Go.Rai.D.int (0 : Int))).fld (0 : Nat)).toInt) (((x0.getD x3.toNat (Go.Rai.D.int (0 : Int))).fld (1 : Nat)).toInt) (((x0.getD x2.toNat (Go.Rai.D.int (0 : Int))).fld (0 : Nat)).toInt) (((x0.getD x2.toNat (Go.Rai.D.int (0 : Int))).fld (1 : Nat)).toInt)).bind (fun y0 =>
          bif y0 then
            (F x0 x1 x3 (Go.IntKind.i64.wrap (x3 + (1 : Int)))).bind k
          else
            (F x0 x1 x2 (Go.IntKind.i64.wrap (x3 + (1 : Int)))).bind k)
      else
        none
    else
      none
  else
    k (x0, x1, x2)
theorem c_spec_NormalForm_L6_bind {R : Type} (F : List D → Int → Int → Int → Option (List D × Int × Int)) (x0 : List D) (x1 : Int) (x2 : Int) (x3 : Int) (k : List D × Int × Int → Option R) : c_spec_NormalForm_L6 F x0 x1 x2 x3 k = (c_spec_NormalForm_L6 F x0 x1 x2 x3 some).bind k := by
  unfold c_spec_NormalForm_L6
  repeat' first
    | exact bnd_tail
    | exact bnd_none
    | exact bnd_leaf
    | apply bnd_ite
    | apply bnd_cond
    | apply bnd_sum
    | (apply bnd_bind; intro _)
    | intro _
def n_spec_NormalForm_L6 : Nat → List D → Int → Int → Int → Option (List D × Int × Int)
  | 0, _, _, _, _ => none
  | n + 1, x0, x1, x2, x3 => c_spec_NormalForm_L6 (n_spec_NormalForm_L6 n) x0 x1 x2 x3 some
noncomputable def spec_NormalForm_L6 (x0 : List D) (x1 : Int) (x2 : Int) (x3 : Int) : Option (List D × Int × Int) := ev (fun n => n_spec_NormalForm_L6 n x0 x1 x2 x3)
def m_spec_NormalForm_L6 (F : List D → Int → Int → Int → Option (List D × Int × Int)) : Lent := ⟨6, ⟨[.rd (.struct [.int .i64, .int .i64]), .undef, .undef, .undef, .int .i64, .int .i64, .int .i64, .undef, .undef, .undef, .undef, .undef, .undef, .undef, .undef, .undef, .undef, .undef, .undef, .undef, .undef, .undef, .undef, .undef, .undef, .undef, .undef, .undef, .undef, .undef, .undef, .undef, .undef, .undef, .undef, .undef, .undef, .undef, .undef, .undef, .undef, .undef, .undef, .undef, .undef, .undef, .undef, .undef, .undef, .undef, .undef, .undef, .undef, .undef, .undef, .undef], []⟩, [(.exit 0, ⟨[.rd (.struct [.int .i64, .int .i64]), .undef, .undef, .undef, .int .i64, .int .i64, .undef, .undef, .undef, .undef, .undef, .undef, .undef, .undef, .undef, .undef, .undef, .undef, .undef, .undef, .undef, .undef, .undef, .undef, .undef, .undef, .undef, .undef, .undef, .undef, .undef, .undef, .undef, .undef, .undef, .undef, .undef, .undef, .undef, .undef, .undef, .undef, .undef, .undef, .undef, .undef, .undef, .undef, .undef, .undef, .undef, .undef, .undef, .undef, .undef, .undef], []⟩)], fun _ ds k => dL (fun x0 ds => dI (fun x1 ds => dI (fun x2 ds => dI (fun x3 ds => dE ((F x0 x1 x2 x3).bind (fun y => k 0 [.L y.1, .I y.2.1, .I y.2.2])) ds) ds) ds) ds) ds⟩
theorem q_spec_NormalForm_L6 (F : List D → Int → Int → Int → Option (List D × Int × Int)) (x0 : List D) (x1 : Int) (x2 : Int) (x3 : Int) : runLoop (ocOf [e_spec_l18Before]) (olOf [m_spec_NormalForm_L6 F]) A 62 (codeAt (bodyOf Go.Proofs.Try.f62) 6) ((m_spec_NormalForm_L6 F).sh.mk' [.L x0, .I x1, .I x2, .I x3]) (fun e σ' => some (e, σ')) = c_spec_NormalForm_L6 F x0 x1 x2 x3 (fun y => some (.exit 0, SSt.mk' ⟨[.rd (.struct [.int .i64, .int .i64]), .undef, .undef, .undef, .int .i64, .int .i64, .undef, .undef, .undef, .undef, .undef, .undef, .undef, .undef, .undef, .undef, .undef, .undef, .undef, .undef, .undef, .undef, .undef, .undef, .undef, .undef, .undef, .undef, .undef, .undef, .undef, .undef, .undef, .undef, .undef, .undef, .undef, .undef, .undef, .undef, .undef, .undef, .undef, .undef, .undef, .undef, .undef, .undef, .undef, .undef, .undef, .undef, .undef, .undef, .undef, .undef], []⟩ [.L y.1, .I y.2.1, .I y.2.2])) := by kernel_rfl
theorem m_spec_NormalForm_L6_ok : ∀ n, (m_spec_NormalForm_L6 (n_spec_NormalForm_L6 n)).ok Go.Proofs.Try.prog (codeAt (bodyOf Go.Proofs.Try.f62) 6) := by
  intro n
  induction n with
  | zero =>
    intro R ds k r h
    unfold m_spec_NormalForm_L6 at h
    obtain ⟨x0, d0, rfl, h0⟩ := dL_some h
    obtain ⟨x1, d1, rfl, h1⟩ := dI_some h0
    obtain ⟨x2, d2, rfl, h2⟩ := dI_some h1
    obtain ⟨x3, d3, rfl, h3⟩ := dI_some h2
    obtain ⟨rfl, hE⟩ := dE_some h3
    obtain ⟨y, hy, hk⟩ := bnd_some hE
    cases hy
  | succ n ih =>
    intro R ds k r h
    unfold m_spec_NormalForm_L6 at h
    obtain ⟨x0, d0, rfl, h0⟩ := dL_some h
    obtain ⟨x1, d1, rfl, h1⟩ := dI_some h0
    obtain ⟨x2, d2, rfl, h2⟩ := dI_some h1
    obtain ⟨x3, d3, rfl, h3⟩ := dI_some h2
    obtain ⟨rfl, hE⟩ := dE_some h3
    obtain ⟨y, hy, hk⟩ := bnd_some hE
    have hq := q_spec_NormalForm_L6 (n_spec_NormalForm_L6 n) x0 x1 x2 x3
    rw [c_spec_NormalForm_L6_bind] at hq
    rw [show c_spec_NormalForm_L6 (n_spec_NormalForm_L6 n) x0 x1 x2 x3 some = some y from hy] at hq
    refine ⟨0, _, _, _, hk, rfl, loop_ok px (fx := ⟨Go.Proofs.Try.func62, by kernel_rfl, by kernel_rfl⟩) (entsOK_cons e_spec_l18Before_ok entsOK_nil) (lentsOK_cons ih lentsOK_nil) (by kernel_rfl) ?_⟩
    exact hq
noncomputable def e_spec_NormalForm_L6 : Lent := m_spec_NormalForm_L6 spec_NormalForm_L6
theorem e_spec_NormalForm_L6_ok : e_spec_NormalForm_L6.ok Go.Proofs.Try.prog (codeAt (bodyOf Go.Proofs.Try.f62) 6) := by
  intro R ds k r h
  unfold e_spec_NormalForm_L6 m_spec_NormalForm_L6 at h
  obtain ⟨x0, d0, rfl, h0⟩ := dL_some h
  obtain ⟨x1, d1, rfl, h1⟩ := dI_some h0
  obtain ⟨x2, d2, rfl, h2⟩ := dI_some h1
  obtain ⟨x3, d3, rfl, h3⟩ := dI_some h2
  obtain ⟨rfl, hE⟩ := dE_some h3
  obtain ⟨y, hy, hk⟩ := bnd_some hE
  obtain ⟨n, hn⟩ := ev_some hy
  exact m_spec_NormalForm_L6_ok n R _ k r (show (n_spec_NormalForm_L6 n x0 x1 x2 x3).bind _ = _ by rw [hn]; exact hk)

/-! loop.example/g00876/spec.l18Area, loop 3 -/
def c_spec_l18Area_L3 {R : Type} (F : List D → Int → Int → Option (Int)) (x0 : List D) (x1 : Int) (x2 : Int) (k : Int → Option R) : Option R :=
  bif Decidable.decide (x2 < (↑x0.length : Int)) then
    if (↑x0.length : Int) ≠ (0 : Int) then
      if (0 : Int) ≤ x2 ∧ x2 < (↑x0.length : Int) then
        if (0 : Int) ≤ (Go.IntKind.i64.wrap (x2 + (1 : Int))).tmod (↑x0.length : Int) ∧ (Go.IntKind.i64.wrap (x2 + (1 : Int))).tmod (↑x0.length : Int) < (↑x0.length : Int) then
          if (0 : Int) ≤ (Go.IntKind.i64.wrap (x2 + (1 : Int))).tmod (↑x0.length : Int) ∧ (Go.IntKind.i64.wrap (x2 + (1 : Int))).tmod (↑x0.length : Int) < (↑x0.length : Int) then
            if (0 : Int) ≤ x2 ∧ x2 < (↑x0.length : Int) then
              (F x0 (Go.IntKind.i64.wrap (Go.IntKind.i64.wrap (x1 + Go.IntKind.i64.wrap (((x0.getD x2.toNat (Go.Rai.D.int (0 : Int))).fld (0 : Nat)).toInt * ((x0.getD ((Go.IntKind.i64.wrap (x2 + (1 : Int))).tmod (↑x0.length : Int)).toNat (Go.Rai.D.int (0 : Int))).fld (1 : Nat)).toInt)) - Go.IntKind.i64.wrap (((x0.getD ((Go.IntKind.i64.wrap (x2 + (1 : Int))).tmod (↑x0.length : Int)).toNat (Go.Rai.D.int (0 : Int))).fld (0 : Nat)).toInt * ((x0.getD x2.toNat (Go.Rai.D.int (0 : Int))).fld (1 : Nat)).toInt))) (Go.IntKind.i64.wrap (x2 + (1 : Int)))).bind k
            else
              none
          else
            none
        else
          none
      else
        none
    else
      none
  else
    k x1
theorem c_spec_l18Area_L3_bind {R : Type} (F : List D → Int → Int → Option (Int)) (x0 : List D) (x1 : Int) (x2 : Int) (k : Int → Option R) : c_spec_l18Area_L3 F x0 x1 x2 k = (c_spec_l18Area_L3 F x0 x1 x2 some).bind k := by
  unfold c_spec_l18Area_L3
  repeat' first
    | exact bnd_tail
    | exact bnd_none
    | exact bnd_leaf
    | apply bnd_ite
    | apply bnd_cond
    | apply bnd_sum
    | (apply bnd_bind; intro _)
    | intro _
def n_spec_l18Area_L3 : Nat → List D → Int → Int → Option (Int)
  | 0, _, _, _ => none
  | n + 1, x0, x1, x2 => c_spec_l18Area_L3 (n_spec_l18Area_L3 n) x0 x1 x2 some
noncomputable def spec_l18Area_L3 (x0 : List D) (x1 : Int) (x2 : Int) : Option (Int) := ev (fun n => n_spec_l18Area_L3 n x0 x1 x2)
def m_spec_l18Area_L3 (F : List D → Int → Int → Option (Int)) : Lent := ⟨3, ⟨[.rd (.struct [.int .i64, .int .i64]), .undef, .undef, .int .i64, .int .i64, .undef, .undef, .undef, .undef, .undef, .undef, .undef, .undef, .undef, .undef, .undef, .undef, .undef, .undef, .undef, .undef, .undef, .undef, .undef, .undef, .undef, .undef, .undef, .undef, .undef, .undef, .undef, .undef, .undef, .undef, .undef, .undef, .undef, .undef, .undef, .undef, .undef, .undef], []⟩, [(.exit 0, ⟨[.undef, .undef, .undef, .int .i64, .undef, .undef, .undef, .undef, .undef, .undef, .undef, .undef, .undef, .undef, .undef, .undef, .undef, .undef, .undef, .undef, .undef, .undef, .undef, .undef, .undef, .undef, .undef, .undef, .undef, .undef, .undef, .undef, .undef, .undef, .undef, .undef, .undef, .undef, .undef, .undef, .undef, .undef, .undef], []⟩)], fun _ ds k => dL (fun x0 ds => dI (fun x1 ds => dI (fun x2 ds => dE ((F x0 x1 x2).bind (fun y => k 0 [.I y])) ds) ds) ds) ds⟩
theorem q_spec_l18Area_L3 (F : List D → Int → Int → Option (Int)) (x0 : List D) (x1 : Int) (x2 : Int) : runLoop (ocOf []) (olOf [m_spec_l18Area_L3 F]) A 96 (codeAt (bodyOf Go.Proofs.Try.f96) 3) ((m_spec_l18Area_L3 F).sh.mk' [.L x0, .I x1, .I x2]) (fun e σ' => some (e, σ')) = c_spec_l18Area_L3 F x0 x1 x2 (fun y => some (.exit 0, SSt.mk' ⟨[.undef, .undef, .undef, .int .i64, .undef, .undef, .undef, .undef, .undef, .undef, .undef, .undef, .undef, .undef, .undef, .undef, .undef, .undef, .undef, .undef, .undef, .undef, .undef, .undef, .undef, .undef, .undef, .undef, .undef, .undef, .undef, .undef, .undef, .undef, .undef, .undef, .undef, .undef, .undef, .undef, .undef, .undef, .undef], []⟩ [.I y])) := by kernel_rfl
theorem m_spec_l18Area_L3_ok : ∀ n, (m_spec_l18Area_L3 (n_spec_l18Area_L3 n)).ok Go.Proofs.Try.prog (codeAt (bodyOf Go.Proofs.Try.f96) 3) := by
  intro n
  induction n with
  | zero =>
    intro R ds k r h
    unfold m_spec_l18Area_L3 at h
    obtain ⟨x0, d0, rfl, h0⟩ := dL_some h
    obtain ⟨x1, d1, rfl, h1⟩ := dI_some h0
    obtain ⟨x2, d2, rfl, h2⟩ := dI_some h1
    obtain ⟨rfl, hE⟩ := dE_some h2
    obtain ⟨y, hy, hk⟩ := bnd_some hE
    cases hy
  | succ n ih =>
    intro R ds k r h
    unfold m_spec_l18Area_L3 at h
    obtain ⟨x0, d0, rfl, h0⟩ := dL_some h
    obtain ⟨x1, d1, rfl, h1⟩ := dI_some h0
    obtain ⟨x2, d2, rfl, h2⟩ := dI_some h1
    obtain ⟨rfl, hE⟩ := dE_some h2
    obtain ⟨y, hy, hk⟩ := bnd_some hE
    have hq := q_spec_l18Area_L3 (n_spec_l18Area_L3 n) x0 x1 x2
    rw [c_spec_l18Area_L3_bind] at hq
    rw [show c_spec_l18Area_L3 (n_spec_l18Area_L3 n) x0 x1 x2 some = some y from hy] at hq
    refine ⟨0, _, _, _, hk, rfl, loop_ok px (fx := ⟨Go.Proofs.Try.func96, by kernel_rfl, by kernel_rfl⟩) entsOK_nil (lentsOK_cons ih lentsOK_nil) (by kernel_rfl) ?_⟩
    exact hq
noncomputable def e_spec_l18Area_L3 : Lent := m_spec_l18Area_L3 spec_l18Area_L3
theorem e_spec_l18Area_L3_ok : e_spec_l18Area_L3.ok Go.Proofs.Try.prog (codeAt (bodyOf Go.Proofs.Try.f96) 3) := by
  intro R ds k r h
  unfold e_spec_l18Area_L3 m_spec_l18Area_L3 at h
  obtain ⟨x0, d0, rfl, h0⟩ := dL_some h
  obtain ⟨x1, d1, rfl, h1⟩ := dI_some h0
  obtain ⟨x2, d2, rfl, h2⟩ := dI_some h1
  obtain ⟨rfl, hE⟩ := dE_some h2
  obtain ⟨y, hy, hk⟩ := bnd_some hE
  obtain ⟨n, hn⟩ := ev_some hy
  exact m_spec_l18Area_L3_ok n R _ k r (show (n_spec_l18Area_L3 n x0 x1 x2).bind _ = _ by rw [hn]; exact hk)

/-! loop.example/g00876/spec.l18Area -/
def c_spec_l18Area {R : Type} (x0 : List D) (k : Int → Option R) : Option R :=
  (spec_l18Area_L3 x0 (0 : Int) (0 : Int)).bind (fun y0 =>
    k y0)
theorem c_spec_l18Area_bind {R : Type} (x0 : List D) (k : Int → Option R) : c_spec_l18Area x0 k = (c_spec_l18Area x0 some).bind k := by
  unfold c_spec_l18Area
  repeat' first
    | exact bnd_tail
    | exact bnd_none
    | exact bnd_leaf
    | apply bnd_ite
    | apply bnd_cond
    | apply bnd_sum
    | (apply bnd_bind; intro _)
    | intro _
def spec_l18Area (x0 : List D) : Option (Int) := c_spec_l18Area x0 some
def e_spec_l18Area : Ent := ⟨96, [.rd (.struct [.int .i64, .int .i64])], .int .i64, [.undef], fun _ ds k => dL (fun x0 ds => dE ((spec_l18Area x0).bind (fun y => k [.I y])) ds) ds⟩
theorem q_spec_l18Area (x0 : List D) : runFn (ocOf []) (olOf [e_spec_l18Area_L3]) A 96 Go.Proofs.Try.f96 (Sh.mks e_spec_l18Area.sh [.L x0]).1 (fun v os => some (v, os)) = c_spec_l18Area x0 (fun y => some ((e_spec_l18Area.res.mk [.I y]).1, (Sh.mks e_spec_l18Area.outs (e_spec_l18Area.res.mk [.I y]).2).1)) := by kernel_rfl
theorem e_spec_l18Area_ok : e_spec_l18Area.ok Go.Proofs.Try.prog A := by
  intro R ds k r h
  unfold e_spec_l18Area at h
  obtain ⟨x0, d0, rfl, h0⟩ := dL_some h
  obtain ⟨rfl, hE⟩ := dE_some h0
  obtain ⟨y, hy, hk⟩ := bnd_some hE
  refine ⟨_, hk, fn_ok px (fx := ⟨Go.Proofs.Try.func96, by kernel_rfl, by kernel_rfl⟩) entsOK_nil (lentsOK_cons e_spec_l18Area_L3_ok lentsOK_nil) ?_⟩
  have hq := q_spec_l18Area x0
  rw [c_spec_l18Area_bind] at hq
  rw [show c_spec_l18Area x0 some = some y from hy] at hq
  exact hq

/-! loop.example/g00876/spec.NormalForm, loop 15 -/
def c_spec_NormalForm_L15 {R : Type} (F : List D → Int → Int → Int → Int → List D → Option (List D)) (x0 : List D) (x1 : Int) (x2 : Int) (x3 : Int) (x4 : Int) (x5 : List D) (k : List D → Option R) : Option R :=
  bif Decidable.decide (x4 < x1) then
    if x1 ≠ (0 : Int) then
      if (0 : Int) ≤ (Go.IntKind.i64.wrap (x2 + Go.IntKind.i64.wrap (x4 * x3))).tmod x1 ∧ (Go.IntKind.i64.wrap (x2 + Go.IntKind.i64.wrap (x4 * x3))).tmod x1 < (↑x0.length : Int) then
        if x5.length + [Go.Rai.D.node [Go.Rai.D.int ((x0.getD ((Go.IntKind.i64.wrap (x2 + Go.IntKind.i64.wrap (x4 * x3))).tmod x1).toNat (Go.Rai.D.int (0 : Int))).fld (0 : Nat)).toInt, Go.Rai.D.int ((x0.getD ((Go.IntKind.i64.wrap (x2 + Go.IntKind.i64.wrap (x4 * x3))).tmod x1).toNat (Go.Rai.D.int (0 : Int))).fld (1 : Nat)).toInt]].length ≤ (4294967296 : Nat) then
          (F x0 x1 x2 x3 (Go.IntKind.i64.wrap (x4 + (1 : Int))) (x5 ++ [Go.Rai.D.node [Go.Rai.D.int ((x0.getD ((Go.IntKind.i64.wrap (x2 + Go.IntKind.i64.wrap (x4 * x3))).tmod x1).toNat (Go.Rai.D.int (0 : Int))).fld (0 : Nat)).toInt, Go.Rai.D.int ((x0.getD ((Go.IntKind.i64.wrap (x2 + Go.IntKind.i64.wrap (x4 * x3))).tmod x1).toNat (Go.Rai.D.int (0 : Int))).fld (1 : Nat)).toInt]])).bind k
        else
          none
      else
        none
    else
      none
  else
    k x5
theorem c_spec_NormalForm_L15_bind {R : Type} (F : List D → Int → Int → Int → Int → List D → Option (List D)) (x0 : List D) (x1 : Int) (x2 : Int) (x3 : Int) (x4 : Int) (x5 : List D) (k : List D → Option R) : c_spec_NormalForm_L15 F x0 x1 x2 x3 x4 x5 k = (c_spec_NormalForm_L15 F x0 x1 x2 x3 x4 x5 some).bind k := by
  unfold c_spec_NormalForm_L15
  repeat' first
    | exact bnd_tail
    | exact bnd_none
    | exact bnd_leaf
    | apply bnd_ite
    | apply bnd_cond
    | apply bnd_sum
    | (apply bnd_bind; intro _)
    | intro _
def n_spec_NormalForm_L15 : Nat → List D → Int → Int → Int → Int → List D → Option (List D)
  | 0, _, _, _, _, _, _ => none
  | n + 1, x0, x1, x2, x3, x4, x5 => c_spec_NormalForm_L15 (n_spec_NormalForm_L15 n) x0 x1 x2 x3 x4 x5 some
noncomputable def spec_NormalForm_L15 (x0 : List D) (x1 : Int) (x2 : Int) (x3 : Int) (x4 : Int) (x5 : List D) : Option (List D) := ev (fun n => n_spec_NormalForm_L15 n x0 x1 x2 x3 x4 x5)
def m_spec_NormalForm_L15 (F : List D → Int → Int → Int → Int → List D → Option (List D)) : Lent := ⟨15, ⟨[.rd (.struct [.int .i64, .int .i64]), .undef, .undef, .undef, .int .i64, .int .i64, .undef, .int .i64, .full 1000 [] (.struct [.int .i64, .int .i64]), .int .i64, .undef, .undef, .undef, .undef, .undef, .undef, .undef, .undef, .undef, .undef, .undef, .undef, .undef, .undef, .undef, .undef, .undef, .undef, .undef, .undef, .undef, .undef, .undef, .undef, .undef, .undef, .undef, .undef, .undef, .undef, .undef, .undef, .undef, .undef, .undef, .undef, .undef, .undef, .undef, .undef, .undef, .undef, .undef, .undef, .undef, .undef], [(1000, .own (.struct [.int .i64, .int .i64]))]⟩, [(.exit 2, ⟨[.undef, .undef, .undef, .undef, .undef, .undef, .undef, .undef, .full 1000 [] (.struct [.int .i64, .int .i64]), .undef, .undef, .undef, .undef, .undef, .undef, .undef, .undef, .undef, .undef, .undef, .undef, .undef, .undef, .undef, .undef, .undef, .undef, .undef, .undef, .undef, .undef, .undef, .undef, .undef, .undef, .undef, .undef, .undef, .undef, .undef, .undef, .undef, .undef, .undef, .undef, .undef, .undef, .undef, .undef, .undef, .undef, .undef, .undef, .undef, .undef, .undef], [(1000, .own (.struct [.int .i64, .int .i64]))]⟩)], fun _ ds k => dL (fun x0 ds => dI (fun x1 ds => dI (fun x2 ds => dI (fun x3 ds => dI (fun x4 ds => dL (fun x5 ds => dE ((F x0 x1 x2 x3 x4 x5).bind (fun y => k 0 [.L y])) ds) ds) ds) ds) ds) ds) ds⟩
theorem q_spec_NormalForm_L15 (F : List D → Int → Int → Int → Int → List D → Option (List D)) (x0 : List D) (x1 : Int) (x2 : Int) (x3 : Int) (x4 : Int) (x5 : List D) : runLoop (ocOf []) (olOf [m_spec_NormalForm_L15 F]) A 62 (codeAt (bodyOf Go.Proofs.Try.f62) 15) ((m_spec_NormalForm_L15 F).sh.mk' [.L x0, .I x1, .I x2, .I x3, .I x4, .L x5]) (fun e σ' => some (e, σ')) = c_spec_NormalForm_L15 F x0 x1 x2 x3 x4 x5 (fun y => some (.exit 2, SSt.mk' ⟨[.undef, .undef, .undef, .undef, .undef, .undef, .undef, .undef, .full 1000 [] (.struct [.int .i64, .int .i64]), .undef, .undef, .undef, .undef, .undef, .undef, .undef, .undef, .undef, .undef, .undef, .undef, .undef, .undef, .undef, .undef, .undef, .undef, .undef, .undef, .undef, .undef, .undef, .undef, .undef, .undef, .undef, .undef, .undef, .undef, .undef, .undef, .undef, .undef, .undef, .undef, .undef, .undef, .undef, .undef, .undef, .undef, .undef, .undef, .undef, .undef, .undef], [(1000, .own (.struct [.int .i64, .int .i64]))]⟩ [.L y])) := by kernel_rfl
theorem m_spec_NormalForm_L15_ok : ∀ n, (m_spec_NormalForm_L15 (n_spec_NormalForm_L15 n)).ok Go.Proofs.Try.prog (codeAt (bodyOf Go.Proofs.Try.f62) 15) := by
  intro n
  induction n with
  | zero =>
    intro R ds k r h
    unfold m_spec_NormalForm_L15 at h
    obtain ⟨x0, d0, rfl, h0⟩ := dL_some h
    obtain ⟨x1, d1, rfl, h1⟩ := dI_some h0
    obtain ⟨x2, d2, rfl, h2⟩ := dI_some h1
    obtain ⟨x3, d3, rfl, h3⟩ := dI_some h2
    obtain ⟨x4, d4, rfl, h4⟩ := dI_some h3
    obtain ⟨x5, d5, rfl, h5⟩ := dL_some h4
    obtain ⟨rfl, hE⟩ := dE_some h5
    obtain ⟨y, hy, hk⟩ := bnd_some hE
    cases hy
  | succ n ih =>
    intro R ds k r h
    unfold m_spec_NormalForm_L15 at h
    obtain ⟨x0, d0, rfl, h0⟩ := dL_some h
    obtain ⟨x1, d1, rfl, h1⟩ := dI_some h0
    obtain ⟨x2, d2, rfl, h2⟩ := dI_some h1
    obtain ⟨x3, d3, rfl, h3⟩ := dI_some h2
    obtain ⟨x4, d4, rfl, h4⟩ := dI_some h3
    obtain ⟨x5, d5, rfl, h5⟩ := dL_some h4
    obtain ⟨rfl, hE⟩ := dE_some h5
    obtain ⟨y, hy, hk⟩ := bnd_some hE
    have hq := q_spec_NormalForm_L15 (n_spec_NormalForm_L15 n) x0 x1 x2 x3 x4 x5
    rw [c_spec_NormalForm_L15_bind] at hq
    rw [show c_spec_NormalForm_L15 (n_spec_NormalForm_L15 n) x0 x1 x2 x3 x4 x5 some = some y from hy] at hq
    refine ⟨0, _, _, _, hk, rfl, loop_ok px (fx := ⟨Go.Proofs.Try.func62, by kernel_rfl, by kernel_rfl⟩) entsOK_nil (lentsOK_cons ih lentsOK_nil) (by kernel_rfl) ?_⟩
    exact hq
noncomputable def e_spec_NormalForm_L15 : Lent := m_spec_NormalForm_L15 spec_NormalForm_L15
theorem e_spec_NormalForm_L15_ok : e_spec_NormalForm_L15.ok Go.Proofs.Try.prog (codeAt (bodyOf Go.Proofs.Try.f62) 15) := by
  intro R ds k r h
  unfold e_spec_NormalForm_L15 m_spec_NormalForm_L15 at h
  obtain ⟨x0, d0, rfl, h0⟩ := dL_some h
  obtain ⟨x1, d1, rfl, h1⟩ := dI_some h0
  obtain ⟨x2, d2, rfl, h2⟩ := dI_some h1
  obtain ⟨x3, d3, rfl, h3⟩ := dI_some h2
  obtain ⟨x4, d4, rfl, h4⟩ := dI_some h3
  obtain ⟨x5, d5, rfl, h5⟩ := dL_some h4
  obtain ⟨rfl, hE⟩ := dE_some h5
  obtain ⟨y, hy, hk⟩ := bnd_some hE
  obtain ⟨n, hn⟩ := ev_some hy
  exact m_spec_NormalForm_L15_ok n R _ k r (show (n_spec_NormalForm_L15 n x0 x1 x2 x3 x4 x5).bind _ = _ by rw [hn]; exact hk)

/-! loop.example/g00876/spec.NormalForm -/
def c_spec_NormalForm {R : Type} (x0 : List D) (k : List D × Bool → Option R) : Option R :=
  (spec_l18Good x0).bind (fun y0 =>
    bif !y0 then
      k ([], Bool.false)
    else
      (spec_NormalForm_L6 x0 (↑x0.length : Int) (0 : Int) (1 : Int)).bind (fun y1 =>
        (spec_l18Area y1.fst).bind (fun y2 =>
          bif Decidable.decide (y2 < (0 : Int)) then
            (spec_NormalForm_L15 y1.fst y1.snd.fst y1.snd.snd (Go.IntKind.i64.wrap (y1.snd.fst - (1 : Int))) (0 : Int) []).bind (fun y3 =>
              k (y3, Bool.true))
          else
            (spec_NormalForm_L15 y1.fst y1.snd.fst y1.snd.snd (1 : Int) (0 : Int) []).bind (fun y4 =>
              k (y4, Bool.true)))))
theorem c_spec_NormalForm_bind {R : Type} (x0 : List D) (k : List D × Bool → Option R) : c_spec_NormalForm x0 k = (c_spec_NormalForm x0 some).bind k := by
  unfold c_spec_NormalForm
  repeat' first
    | exact bnd_tail
    | exact bnd_none
    | exact bnd_leaf
    | apply bnd_ite
    | apply bnd_cond
    | apply bnd_sum
    | (apply bnd_bind; intro _)
    | intro _
def spec_NormalForm (x0 : List D) : Option (List D × Bool) := c_spec_NormalForm x0 some
def e_spec_NormalForm : Ent := ⟨62, [.rd (.struct [.int .i64, .int .i64])], .tup [.own (.struct [.int .i64, .int .i64]), .bool], [.undef], fun _ ds k => dL (fun x0 ds => dE ((spec_NormalForm x0).bind (fun y => k [.L y.1, .B y.2])) ds) ds⟩
theorem q_spec_NormalForm (x0 : List D) : runFn (ocOf [e_spec_l18Good, e_spec_l18Area]) (olOf [e_spec_NormalForm_L6, e_spec_NormalForm_L15]) A 62 Go.Proofs.Try.f62 (Sh.mks e_spec_NormalForm.sh [.L x0]).1 (fun v os => some (v, os)) = c_spec_NormalForm x0 (fun y => some ((e_spec_NormalForm.res.mk [.L y.1, .B y.2]).1, (Sh.mks e_spec_NormalForm.outs (e_spec_NormalForm.res.mk [.L y.1, .B y.2]).2).1)) := by kernel_rfl
theorem e_spec_NormalForm_ok : e_spec_NormalForm.ok Go.Proofs.Try.prog A := by
  intro R ds k r h
  unfold e_spec_NormalForm at h
  obtain ⟨x0, d0, rfl, h0⟩ := dL_some h
  obtain ⟨rfl, hE⟩ := dE_some h0
  obtain ⟨y, hy, hk⟩ := bnd_some hE
  refine ⟨_, hk, fn_ok px (fx := ⟨Go.Proofs.Try.func62, by kernel_rfl, by kernel_rfl⟩) (entsOK_cons e_spec_l18Good_ok (entsOK_cons e_spec_l18Area_ok entsOK_nil)) (lentsOK_cons e_spec_NormalForm_L6_ok (lentsOK_cons e_spec_NormalForm_L15_ok lentsOK_nil)) ?_⟩
  have hq := q_spec_NormalForm x0
  rw [c_spec_NormalForm_bind] at hq
  rw [show c_spec_NormalForm x0 some = some y from hy] at hq
  exact hq

/-! loop.example/g00876/impl.within -/
def c_impl_within {R : Type} (x0 : Int) (x1 : Int) (x2 : Int) (k : Bool → Option R) : Option R :=
  bif Decidable.decide (x1 ≤ x0) then
    k (Decidable.decide (x0 ≤ x2))
  else
    k Bool.false
theorem c_impl_within_bind {R : Type} (x0 : Int) (x1 : Int) (x2 : Int) (k : Bool → Option R) : c_impl_within x0 x1 x2 k = (c_impl_within x0 x1 x2 some).bind k := by
  unfold c_impl_within
  repeat' first
    | exact bnd_tail
    | exact bnd_none
    | exact bnd_leaf
    | apply bnd_ite
    | apply bnd_cond
    | apply bnd_sum
    | (apply bnd_bind; intro _)
    | intro _
def impl_within (x0 : Int) (x1 : Int) (x2 : Int) : Option (Bool) := c_impl_within x0 x1 x2 some
def e_impl_within : Ent := ⟨71, [.int .i64, .int .i64, .int .i64], .bool, [.undef, .undef, .undef], fun _ ds k => dI (fun x0 ds => dI (fun x1 ds => dI (fun x2 ds => dE ((impl_within x0 x1 x2).bind (fun y => k [.B y])) ds) ds) ds) ds⟩
theorem q_impl_within (x0 : Int) (x1 : Int) (x2 : Int) : runFn (ocOf []) (olOf []) A 71 Go.Proofs.Try.f71 (Sh.mks e_impl_within.sh [.I x0, .I x1, .I x2]).1 (fun v os => some (v, os)) = c_impl_within x0 x1 x2 (fun y => some ((e_impl_within.res.mk [.B y]).1, (Sh.mks e_impl_within.outs (e_impl_within.res.mk [.B y]).2).1)) := by kernel_rfl
theorem e_impl_within_ok : e_impl_within.ok Go.Proofs.Try.prog A := by
  intro R ds k r h
  unfold e_impl_within at h
  obtain ⟨x0, d0, rfl, h0⟩ := dI_some h
  obtain ⟨x1, d1, rfl, h1⟩ := dI_some h0
  obtain ⟨x2, d2, rfl, h2⟩ := dI_some h1
  obtain ⟨rfl, hE⟩ := dE_some h2
  obtain ⟨y, hy, hk⟩ := bnd_some hE
  refine ⟨_, hk, fn_ok px (fx := ⟨Go.Proofs.Try.func71, by kernel_rfl, by kernel_rfl⟩) entsOK_nil lentsOK_nil ?_⟩
  have hq := q_impl_within x0 x1 x2
  rw [c_impl_within_bind] at hq
  rw [show c_impl_within x0 x1 x2 some = some y from hy] at hq
  exact hq

/-! loop.example/g00876/impl.onPlan -/
def c_impl_onPlan {R : Type} (x0 : Int) (x1 : Int) (k : Bool → Option R) : Option R :=
  (impl_within x0 (0 : Int) (1000 : Int)).bind (fun y0 =>
    bif y0 then
      (impl_within x1 (0 : Int) (1000 : Int)).bind (fun y1 =>
        k y1)
    else
      k Bool.false)
theorem c_impl_onPlan_bind {R : Type} (x0 : Int) (x1 : Int) (k : Bool → Option R) : c_impl_onPlan x0 x1 k = (c_impl_onPlan x0 x1 some).bind k := by
  unfold c_impl_onPlan
  repeat' first
    | exact bnd_tail
    | exact bnd_none
    | exact bnd_leaf
    | apply bnd_ite
    | apply bnd_cond
    | apply bnd_sum
    | (apply bnd_bind; intro _)
    | intro _
def impl_onPlan (x0 : Int) (x1 : Int) : Option (Bool) := c_impl_onPlan x0 x1 some
def e_impl_onPlan : Ent := ⟨79, [.agg [.int .i64, .int .i64]], .bool, [.undef], fun _ ds k => dI (fun x0 ds => dI (fun x1 ds => dE ((impl_onPlan x0 x1).bind (fun y => k [.B y])) ds) ds) ds⟩
theorem q_impl_onPlan (x0 : Int) (x1 : Int) : runFn (ocOf [e_impl_within]) (olOf []) A 79 Go.Proofs.Try.f79 (Sh.mks e_impl_onPlan.sh [.I x0, .I x1]).1 (fun v os => some (v, os)) = c_impl_onPlan x0 x1 (fun y => some ((e_impl_onPlan.res.mk [.B y]).1, (Sh.mks e_impl_onPlan.outs (e_impl_onPlan.res.mk [.B y]).2).1)) := by kernel_rfl
theorem e_impl_onPlan_ok : e_impl_onPlan.ok Go.Proofs.Try.prog A := by
  intro R ds k r h
  unfold e_impl_onPlan at h
  obtain ⟨x0, d0, rfl, h0⟩ := dI_some h
  obtain ⟨x1, d1, rfl, h1⟩ := dI_some h0
  obtain ⟨rfl, hE⟩ := dE_some h1
  obtain ⟨y, hy, hk⟩ := bnd_some hE
  refine ⟨_, hk, fn_ok px (fx := ⟨Go.Proofs.Try.func79, by kernel_rfl, by kernel_rfl⟩) (entsOK_cons e_impl_within_ok entsOK_nil) lentsOK_nil ?_⟩
  have hq := q_impl_onPlan x0 x1
  rw [c_impl_onPlan_bind] at hq
  rw [show c_impl_onPlan x0 x1 some = some y from hy] at hq
  exact hq

/-! loop.example/g00876/impl.IsValidPolygon$1 -/
def c_impl_IsValidPolygon_1 {R : Type} (x0 : Int) (x1 : Int) (k : Bool → Option R) : Option R :=
  (impl_onPlan x0 x1).bind (fun y0 =>
    k !y0)
theorem c_impl_IsValidPolygon_1_bind {R : Type} (x0 : Int) (x1 : Int) (k : Bool → Option R) : c_impl_IsValidPolygon_1 x0 x1 k = (c_impl_IsValidPolygon_1 x0 x1 some).bind k := by
  unfold c_impl_IsValidPolygon_1
  repeat' first
    | exact bnd_tail
    | exact bnd_none
    | exact bnd_leaf
    | apply bnd_ite
    | apply bnd_cond
    | apply bnd_sum
    | (apply bnd_bind; intro _)
    | intro _
def impl_IsValidPolygon_1 (x0 : Int) (x1 : Int) : Option (Bool) := c_impl_IsValidPolygon_1 x0 x1 some
def e_impl_IsValidPolygon_1 : Ent := ⟨78, [.agg [.int .i64, .int .i64]], .bool, [.undef], fun _ ds k => dI (fun x0 ds => dI (fun x1 ds => dE ((impl_IsValidPolygon_1 x0 x1).bind (fun y => k [.B y])) ds) ds) ds⟩
theorem q_impl_IsValidPolygon_1 (x0 : Int) (x1 : Int) : runFn (ocOf [e_impl_onPlan]) (olOf []) A 78 Go.Proofs.Try.f78 (Sh.mks e_impl_IsValidPolygon_1.sh [.I x0, .I x1]).1 (fun v os => some (v, os)) = c_impl_IsValidPolygon_1 x0 x1 (fun y => some ((e_impl_IsValidPolygon_1.res.mk [.B y]).1, (Sh.mks e_impl_IsValidPolygon_1.outs (e_impl_IsValidPolygon_1.res.mk [.B y]).2).1)) := by kernel_rfl
theorem e_impl_IsValidPolygon_1_ok : e_impl_IsValidPolygon_1.ok Go.Proofs.Try.prog A := by
  intro R ds k r h
  unfold e_impl_IsValidPolygon_1 at h
  obtain ⟨x0, d0, rfl, h0⟩ := dI_some h
  obtain ⟨x1, d1, rfl, h1⟩ := dI_some h0
  obtain ⟨rfl, hE⟩ := dE_some h1
  obtain ⟨y, hy, hk⟩ := bnd_some hE
  refine ⟨_, hk, fn_ok px (fx := ⟨Go.Proofs.Try.func78, by kernel_rfl, by kernel_rfl⟩) (entsOK_cons e_impl_onPlan_ok entsOK_nil) lentsOK_nil ?_⟩
  have hq := q_impl_IsValidPolygon_1 x0 x1
  rw [c_impl_IsValidPolygon_1_bind] at hq
  rw [show c_impl_IsValidPolygon_1 x0 x1 some = some y from hy] at hq
  exact hq

/-! slices.IndexFunc[[]loop.example/g00876/impl.Corner,loop.example/g00876/impl.Corner], loop 2 -/
def c_slices_IndexFunc_L2 {R : Type} (F : List D → Int → Int → Option ((Int) ⊕ (Unit))) (x0 : List D) (x1 : Int) (x2 : Int) (k : (Int) ⊕ (Unit) → Option R) : Option R :=
  bif Decidable.decide (x2 < x1) then
    if (0 : Int) ≤ x2 ∧ x2 < (↑x0.length : Int) then
      (impl_IsValidPolygon_1 (((x0.getD x2.toNat (Go.Rai.D.int (0 : Int))).fld (0 : Nat)).toInt) (((x0.getD x2.toNat (Go.Rai.D.int (0 : Int))).fld (1 : Nat)).toInt)).bind (fun y0 =>
        bif y0 then
          k (.inl x2)
        else
          (F x0 x1 (Go.IntKind.i64.wrap (x2 + (1 : Int)))).bind k)
    else
      none
  else
    k (.inr ())
theorem c_slices_IndexFunc_L2_bind {R : Type} (F : List D → Int → Int → Option ((Int) ⊕ (Unit))) (x0 : List D) (x1 : Int) (x2 : Int) (k : (Int) ⊕ (Unit) → Option R) : c_slices_IndexFunc_L2 F x0 x1 x2 k = (c_slices_IndexFunc_L2 F x0 x1 x2 some).bind k := by
  unfold c_slices_IndexFunc_L2
  repeat' first
    | exact bnd_tail
    | exact bnd_none
    | exact bnd_leaf
    | apply bnd_ite
    | apply bnd_cond
    | apply bnd_sum
    | (apply bnd_bind; intro _)
    | intro _
def n_slices_IndexFunc_L2 : Nat → List D → Int → Int → Option ((Int) ⊕ (Unit))
  | 0, _, _, _ => none
  | n + 1, x0, x1, x2 => c_slices_IndexFunc_L2 (n_slices_IndexFunc_L2 n) x0 x1 x2 some
noncomputable def slices_IndexFunc_L2 (x0 : List D) (x1 : Int) (x2 : Int) : Option ((Int) ⊕ (Unit)) := ev (fun n => n_slices_IndexFunc_L2 n x0 x1 x2)
def m_slices_IndexFunc_L2 (F : List D → Int → Int → Option ((Int) ⊕ (Unit))) : Lent := ⟨2, ⟨[.rd (.struct [.int .i64, .int .i64]), .fn 78 [], .undef, .undef, .undef, .undef, .undef, .int .i64, .int .i64, .undef, .undef, .undef, .undef, .undef, .undef, .undef, .undef, .undef, .undef], []⟩, [(.ret, ⟨[.undef, .undef, .undef, .undef, .int .i64, .undef, .undef, .undef, .undef, .undef, .undef, .undef, .undef, .undef, .undef, .undef, .undef, .undef, .undef], []⟩), (.exit 0, ⟨[.undef, .undef, .undef, .undef, .undef, .undef, .undef, .undef, .undef, .undef, .undef, .undef, .undef, .undef, .undef, .undef, .undef, .undef, .undef], []⟩)], fun _ ds k => dL (fun x0 ds => dI (fun x1 ds => dI (fun x2 ds => dE ((F x0 x1 x2).bind (Sum.elim (fun y => k 0 [.I y]) (fun y => k 1 []))) ds) ds) ds) ds⟩
theorem q_slices_IndexFunc_L2 (F : List D → Int → Int → Option ((Int) ⊕ (Unit))) (x0 : List D) (x1 : Int) (x2 : Int) : runLoop (ocOf [e_impl_IsValidPolygon_1]) (olOf [m_slices_IndexFunc_L2 F]) A 121 (codeAt (bodyOf Go.Proofs.Try.f121) 2) ((m_slices_IndexFunc_L2 F).sh.mk' [.L x0, .I x1, .I x2]) (fun e σ' => some (e, σ')) = c_slices_IndexFunc_L2 F x0 x1 x2 (Sum.elim (fun y => some (.ret, SSt.mk' ⟨[.undef, .undef, .undef, .undef, .int .i64, .undef, .undef, .undef, .undef, .undef, .undef, .undef, .undef, .undef, .undef, .undef, .undef, .undef, .undef], []⟩ [.I y])) (fun y => some (.exit 0, SSt.mk' ⟨[.undef, .undef, .undef, .undef, .undef, .undef, .undef, .undef, .undef, .undef, .undef, .undef, .undef, .undef, .undef, .undef, .undef, .undef, .undef], []⟩ []))) := by kernel_rfl
theorem m_slices_IndexFunc_L2_ok : ∀ n, (m_slices_IndexFunc_L2 (n_slices_IndexFunc_L2 n)).ok Go.Proofs.Try.prog (codeAt (bodyOf Go.Proofs.Try.f121) 2) := by
  intro n
  induction n with
  | zero =>
    intro R ds k r h
    unfold m_slices_IndexFunc_L2 at h
    obtain ⟨x0, d0, rfl, h0⟩ := dL_some h
    obtain ⟨x1, d1, rfl, h1⟩ := dI_some h0
    obtain ⟨x2, d2, rfl, h2⟩ := dI_some h1
    obtain ⟨rfl, hE⟩ := dE_some h2
    obtain ⟨y, hy, hk⟩ := bnd_some hE
    cases hy
  | succ n ih =>
    intro R ds k r h
    unfold m_slices_IndexFunc_L2 at h
    obtain ⟨x0, d0, rfl, h0⟩ := dL_some h
    obtain ⟨x1, d1, rfl, h1⟩ := dI_some h0
    obtain ⟨x2, d2, rfl, h2⟩ := dI_some h1
    obtain ⟨rfl, hE⟩ := dE_some h2
    obtain ⟨y, hy, hk⟩ := bnd_some hE
    have hq := q_slices_IndexFunc_L2 (n_slices_IndexFunc_L2 n) x0 x1 x2
    rw [c_slices_IndexFunc_L2_bind] at hq
    rw [show c_slices_IndexFunc_L2 (n_slices_IndexFunc_L2 n) x0 x1 x2 some = some y from hy] at hq
    cases y with
    | inl y =>
      refine ⟨0, _, _, _, hk, rfl, loop_ok px (fx := ⟨Go.Proofs.Try.func121, by kernel_rfl, by kernel_rfl⟩) (entsOK_cons e_impl_IsValidPolygon_1_ok entsOK_nil) (lentsOK_cons ih lentsOK_nil) (by kernel_rfl) ?_⟩
      exact hq
    | inr y =>
      refine ⟨1, _, _, _, hk, rfl, loop_ok px (fx := ⟨Go.Proofs.Try.func121, by kernel_rfl, by kernel_rfl⟩) (entsOK_cons e_impl_IsValidPolygon_1_ok entsOK_nil) (lentsOK_cons ih lentsOK_nil) (by kernel_rfl) ?_⟩
      exact hq
noncomputable def e_slices_IndexFunc_L2 : Lent := m_slices_IndexFunc_L2 slices_IndexFunc_L2
theorem e_slices_IndexFunc_L2_ok : e_slices_IndexFunc_L2.ok Go.Proofs.Try.prog (codeAt (bodyOf Go.Proofs.Try.f121) 2) := by
  intro R ds k r h
  unfold e_slices_IndexFunc_L2 m_slices_IndexFunc_L2 at h
  obtain ⟨x0, d0, rfl, h0⟩ := dL_some h
  obtain ⟨x1, d1, rfl, h1⟩ := dI_some h0
  obtain ⟨x2, d2, rfl, h2⟩ := dI_some h1
  obtain ⟨rfl, hE⟩ := dE_some h2
  obtain ⟨y, hy, hk⟩ := bnd_some hE
  obtain ⟨n, hn⟩ := ev_some hy
  exact m_slices_IndexFunc_L2_ok n R _ k r (show (n_slices_IndexFunc_L2 n x0 x1 x2).bind _ = _ by rw [hn]; exact hk)

/-! slices.IndexFunc[[]loop.example/g00876/impl.Corner,loop.example/g00876/impl.Corner] -/
def c_slices_IndexFunc__impl_IsValidPolygon_1 {R : Type} (x0 : List D) (k : Int → Option R) : Option R :=
  (slices_IndexFunc_L2 x0 (↑x0.length : Int) (0 : Int)).bind (Sum.elim (fun y0 =>
    k y0) (fun y1 =>
    k (-1 : Int)))
theorem c_slices_IndexFunc__impl_IsValidPolygon_1_bind {R : Type} (x0 : List D) (k : Int → Option R) : c_slices_IndexFunc__impl_IsValidPolygon_1 x0 k = (c_slices_IndexFunc__impl_IsValidPolygon_1 x0 some).bind k := by
  unfold c_slices_IndexFunc__impl_IsValidPolygon_1
  repeat' first
    | exact bnd_tail
    | exact bnd_none
    | exact bnd_leaf
    | apply bnd_ite
    | apply bnd_cond
    | apply bnd_sum
    | (apply bnd_bind; intro _)
    | intro _
def slices_IndexFunc__impl_IsValidPolygon_1 (x0 : List D) : Option (Int) := c_slices_IndexFunc__impl_IsValidPolygon_1 x0 some
def e_slices_IndexFunc__impl_IsValidPolygon_1 : Ent := ⟨121, [.rd (.struct [.int .i64, .int .i64]), .fn 78 []], .int .i64, [.undef, .undef], fun _ ds k => dL (fun x0 ds => dE ((slices_IndexFunc__impl_IsValidPolygon_1 x0).bind (fun y => k [.I y])) ds) ds⟩
theorem q_slices_IndexFunc__impl_IsValidPolygon_1 (x0 : List D) : runFn (ocOf []) (olOf [e_slices_IndexFunc_L2]) A 121 Go.Proofs.Try.f121 (Sh.mks e_slices_IndexFunc__impl_IsValidPolygon_1.sh [.L x0]).1 (fun v os => some (v, os)) = c_slices_IndexFunc__impl_IsValidPolygon_1 x0 (fun y => some ((e_slices_IndexFunc__impl_IsValidPolygon_1.res.mk [.I y]).1, (Sh.mks e_slices_IndexFunc__impl_IsValidPolygon_1.outs (e_slices_IndexFunc__impl_IsValidPolygon_1.res.mk [.I y]).2).1)) := by kernel_rfl
theorem e_slices_IndexFunc__impl_IsValidPolygon_1_ok : e_slices_IndexFunc__impl_IsValidPolygon_1.ok Go.Proofs.Try.prog A := by
  intro R ds k r h
  unfold e_slices_IndexFunc__impl_IsValidPolygon_1 at h
  obtain ⟨x0, d0, rfl, h0⟩ := dL_some h
  obtain ⟨rfl, hE⟩ := dE_some h0
  obtain ⟨y, hy, hk⟩ := bnd_some hE
  refine ⟨_, hk, fn_ok px (fx := ⟨Go.Proofs.Try.func121, by kernel_rfl, by kernel_rfl⟩) entsOK_nil (lentsOK_cons e_slices_IndexFunc_L2_ok lentsOK_nil) ?_⟩
  have hq := q_slices_IndexFunc__impl_IsValidPolygon_1 x0
  rw [c_slices_IndexFunc__impl_IsValidPolygon_1_bind] at hq
  rw [show c_slices_IndexFunc__impl_IsValidPolygon_1 x0 some = some y from hy] at hq
  exact hq

/-! slices.ContainsFunc[[]loop.example/g00876/impl.Corner,loop.example/g00876/impl.Corner] -/
def c_slices_ContainsFunc__impl_IsValidPolygon_1 {R : Type} (x0 : List D) (k : Bool → Option R) : Option R :=
  (slices_IndexFunc__impl_IsValidPolygon_1 x0).bind (fun y0 =>
    k (Decidable.decide ((0 : Int) ≤ y0)))
theorem c_slices_ContainsFunc__impl_IsValidPolygon_1_bind {R : Type} (x0 : List D) (k : Bool → Option R) : c_slices_ContainsFunc__impl_IsValidPolygon_1 x0 k = (c_slices_ContainsFunc__impl_IsValidPolygon_1 x0 some).bind k := by
  unfold c_slices_ContainsFunc__impl_IsValidPolygon_1
  repeat' first
    | exact bnd_tail
    | exact bnd_none
    | exact bnd_leaf
    | apply bnd_ite
    | apply bnd_cond
    | apply bnd_sum
    | (apply bnd_bind; intro _)
    | intro _
def slices_ContainsFunc__impl_IsValidPolygon_1 (x0 : List D) : Option (Bool) := c_slices_ContainsFunc__impl_IsValidPolygon_1 x0 some
def e_slices_ContainsFunc__impl_IsValidPolygon_1 : Ent := ⟨77, [.rd (.struct [.int .i64, .int .i64]), .fn 78 []], .bool, [.undef, .undef], fun _ ds k => dL (fun x0 ds => dE ((slices_ContainsFunc__impl_IsValidPolygon_1 x0).bind (fun y => k [.B y])) ds) ds⟩
theorem q_slices_ContainsFunc__impl_IsValidPolygon_1 (x0 : List D) : runFn (ocOf [e_slices_IndexFunc__impl_IsValidPolygon_1]) (olOf []) A 77 Go.Proofs.Try.f77 (Sh.mks e_slices_ContainsFunc__impl_IsValidPolygon_1.sh [.L x0]).1 (fun v os => some (v, os)) = c_slices_ContainsFunc__impl_IsValidPolygon_1 x0 (fun y => some ((e_slices_ContainsFunc__impl_IsValidPolygon_1.res.mk [.B y]).1, (Sh.mks e_slices_ContainsFunc__impl_IsValidPolygon_1.outs (e_slices_ContainsFunc__impl_IsValidPolygon_1.res.mk [.B y]).2).1)) := by kernel_rfl
theorem e_slices_ContainsFunc__impl_IsValidPolygon_1_ok : e_slices_ContainsFunc__impl_IsValidPolygon_1.ok Go.Proofs.Try.prog A := by
  intro R ds k r h
  unfold e_slices_ContainsFunc__impl_IsValidPolygon_1 at h
  obtain ⟨x0, d0, rfl, h0⟩ := dL_some h
  obtain ⟨rfl, hE⟩ := dE_some h0
  obtain ⟨y, hy, hk⟩ := bnd_some hE
  refine ⟨_, hk, fn_ok px (fx := ⟨Go.Proofs.Try.func77, by kernel_rfl, by kernel_rfl⟩) (entsOK_cons e_slices_IndexFunc__impl_IsValidPolygon_1_ok entsOK_nil) lentsOK_nil ?_⟩
  have hq := q_slices_ContainsFunc__impl_IsValidPolygon_1 x0
  rw [c_slices_ContainsFunc__impl_IsValidPolygon_1_bind] at hq
  rw [show c_slices_ContainsFunc__impl_IsValidPolygon_1 x0 some = some y from hy] at hq
  exact hq

/-! loop.example/g00876/impl.next -/
def c_impl_next {R : Type} (x0 : List D) (x1 : Int) (k : Int × Int → Option R) : Option R :=
  if (↑x0.length : Int) ≠ (0 : Int) then
    if (0 : Int) ≤ (Go.IntKind.i64.wrap (x1 + (1 : Int))).tmod (↑x0.length : Int) ∧ (Go.IntKind.i64.wrap (x1 + (1 : Int))).tmod (↑x0.length : Int) < (↑x0.length : Int) then
      k (((x0.getD ((Go.IntKind.i64.wrap (x1 + (1 : Int))).tmod (↑x0.length : Int)).toNat (Go.Rai.D.int (0 : Int))).fld (0 : Nat)).toInt, ((x0.getD ((Go.IntKind.i64.wrap (x1 + (1 : Int))).tmod (↑x0.length : Int)).toNat (Go.Rai.D.int (0 : Int))).fld (1 : Nat)).toInt)
    else
      none
  else
    none
theorem c_impl_next_bind {R : Type} (x0 : List D) (x1 : Int) (k : Int × Int → Option R) : c_impl_next x0 x1 k = (c_impl_next x0 x1 some).bind k := by
  unfold c_impl_next
  repeat' first
    | exact bnd_tail
    | exact bnd_none
    | exact bnd_leaf
    | apply bnd_ite
    | apply bnd_cond
    | apply bnd_sum
    | (apply bnd_bind; intro _)
    | intro _
def impl_next (x0 : List D) (x1 : Int) : Option (Int × Int) := c_impl_next x0 x1 some
def e_impl_next : Ent := ⟨81, [.rd (.struct [.int .i64, .int .i64]), .int .i64], .agg [.int .i64, .int .i64], [.undef, .undef], fun _ ds k => dL (fun x0 ds => dI (fun x1 ds => dE ((impl_next x0 x1).bind (fun y => k [.I y.1, .I y.2])) ds) ds) ds⟩
theorem q_impl_next (x0 : List D) (x1 : Int) : runFn (ocOf []) (olOf []) A 81 Go.Proofs.Try.f81 (Sh.mks e_impl_next.sh [.L x0, .I x1]).1 (fun v os => some (v, os)) = c_impl_next x0 x1 (fun y => some ((e_impl_next.res.mk [.I y.1, .I y.2]).1, (Sh.mks e_impl_next.outs (e_impl_next.res.mk [.I y.1, .I y.2]).2).1)) := by kernel_rfl
theorem e_impl_next_ok : e_impl_next.ok Go.Proofs.Try.prog A := by
  intro R ds k r h
  unfold e_impl_next at h
  obtain ⟨x0, d0, rfl, h0⟩ := dL_some h
  obtain ⟨x1, d1, rfl, h1⟩ := dI_some h0
  obtain ⟨rfl, hE⟩ := dE_some h1
  obtain ⟨y, hy, hk⟩ := bnd_some hE
  refine ⟨_, hk, fn_ok px (fx := ⟨Go.Proofs.Try.func81, by kernel_rfl, by kernel_rfl⟩) entsOK_nil lentsOK_nil ?_⟩
  have hq := q_impl_next x0 x1
  rw [c_impl_next_bind] at hq
  rw [show c_impl_next x0 x1 some = some y from hy] at hq
  exact hq

/-! loop.example/g00876/impl.cross -/
def c_impl_cross {R : Type} (x0 : Int) (x1 : Int) (x2 : Int) (x3 : Int) (x4 : Int) (x5 : Int) (k : Int → Option R) : Option R :=
  k (Go.IntKind.i64.wrap (Go.IntKind.i64.wrap (Go.IntKind.i64.wrap (x2 - x0) * Go.IntKind.i64.wrap (x5 - x1)) - Go.IntKind.i64.wrap (Go.IntKind.i64.wrap (x3 - x1) * Go.IntKind.i64.wrap (x4 - x0))))
theorem c_impl_cross_bind {R : Type} (x0 : Int) (x1 : Int) (x2 : Int) (x3 : Int) (x4 : Int) (x5 : Int) (k : Int → Option R) : c_impl_cross x0 x1 x2 x3 x4 x5 k = (c_impl_cross x0 x1 x2 x3 x4 x5 some).bind k := by
  unfold c_impl_cross
  repeat' first
    | exact bnd_tail
    | exact bnd_none
    | exact bnd_leaf
    | apply bnd_ite
    | apply bnd_cond
    | apply bnd_sum
    | (apply bnd_bind; intro _)
    | intro _
def impl_cross (x0 : Int) (x1 : Int) (x2 : Int) (x3 : Int) (x4 : Int) (x5 : Int) : Option (Int) := c_impl_cross x0 x1 x2 x3 x4 x5 some
def e_impl_cross : Ent := ⟨80, [.agg [.int .i64, .int .i64], .agg [.int .i64, .int .i64], .agg [.int .i64, .int .i64]], .int .i64, [.undef, .undef, .undef], fun _ ds k => dI (fun x0 ds => dI (fun x1 ds => dI (fun x2 ds => dI (fun x3 ds => dI (fun x4 ds => dI (fun x5 ds => dE ((impl_cross x0 x1 x2 x3 x4 x5).bind (fun y => k [.I y])) ds) ds) ds) ds) ds) ds) ds⟩
theorem q_impl_cross (x0 : Int) (x1 : Int) (x2 : Int) (x3 : Int) (x4 : Int) (x5 : Int) : runFn (ocOf []) (olOf []) A 80 Go.Proofs.Try.f80 (Sh.mks e_impl_cross.sh [.I x0, .I x1, .I x2, .I x3, .I x4, .I x5]).1 (fun v os => some (v, os)) = c_impl_cross x0 x1 x2 x3 x4 x5 (fun y => some ((e_impl_cross.res.mk [.I y]).1, (Sh.mks e_impl_cross.outs (e_impl_cross.res.mk [.I y]).2).1)) := by kernel_rfl
theorem e_impl_cross_ok : e_impl_cross.ok Go.Proofs.Try.prog A := by
  intro R ds k r h
  unfold e_impl_cross at h
  obtain ⟨x0, d0, rfl, h0⟩ := dI_some h
  obtain ⟨x1, d1, rfl, h1⟩ := dI_some h0
  obtain ⟨x2, d2, rfl, h2⟩ := dI_some h1
  obtain ⟨x3, d3, rfl, h3⟩ := dI_some h2
  obtain ⟨x4, d4, rfl, h4⟩ := dI_some h3
  obtain ⟨x5, d5, rfl, h5⟩ := dI_some h4
  obtain ⟨rfl, hE⟩ := dE_some h5
  obtain ⟨y, hy, hk⟩ := bnd_some hE
  refine ⟨_, hk, fn_ok px (fx := ⟨Go.Proofs.Try.func80, by kernel_rfl, by kernel_rfl⟩) entsOK_nil lentsOK_nil ?_⟩
  have hq := q_impl_cross x0 x1 x2 x3 x4 x5
  rw [c_impl_cross_bind] at hq
  rw [show c_impl_cross x0 x1 x2 x3 x4 x5 some = some y from hy] at hq
  exact hq

/-! loop.example/g00876/impl.onSegment -/
def c_impl_onSegment {R : Type} (x0 : Int) (x1 : Int) (x2 : Int) (x3 : Int) (x4 : Int) (x5 : Int) (k : Bool → Option R) : Option R :=
  (impl_cross x0 x1 x2 x3 x4 x5).bind (fun y0 =>
    bif Decidable.decide (y0 = (0 : Int)) then
      (impl_within x4 (if x2 < x0 then x2 else x0) (if x2 > x0 then x2 else x0)).bind (fun y1 =>
        bif y1 then
          (impl_within x5 (if x3 < x1 then x3 else x1) (if x3 > x1 then x3 else x1)).bind (fun y2 =>
            k y2)
        else
          k Bool.false)
    else
      k Bool.false)
theorem c_impl_onSegment_bind {R : Type} (x0 : Int) (x1 : Int) (x2 : Int) (x3 : Int) (x4 : Int) (x5 : Int) (k : Bool → Option R) : c_impl_onSegment x0 x1 x2 x3 x4 x5 k = (c_impl_onSegment x0 x1 x2 x3 x4 x5 some).bind k := by
  unfold c_impl_onSegment
  repeat' first
    | exact bnd_tail
    | exact bnd_none
    | exact bnd_leaf
    | apply bnd_ite
    | apply bnd_cond
    | apply bnd_sum
    | (apply bnd_bind; intro _)
    | intro _
def impl_onSegment (x0 : Int) (x1 : Int) (x2 : Int) (x3 : Int) (x4 : Int) (x5 : Int) : Option (Bool) := c_impl_onSegment x0 x1 x2 x3 x4 x5 some
def e_impl_onSegment : Ent := ⟨122, [.agg [.int .i64, .int .i64], .agg [.int .i64, .int .i64], .agg [.int .i64, .int .i64]], .bool, [.undef, .undef, .undef], fun _ ds k => dI (fun x0 ds => dI (fun x1 ds => dI (fun x2 ds => dI (fun x3 ds => dI (fun x4 ds => dI (fun x5 ds => dE ((impl_onSegment x0 x1 x2 x3 x4 x5).bind (fun y => k [.B y])) ds) ds) ds) ds) ds) ds) ds⟩
theorem q_impl_onSegment (x0 : Int) (x1 : Int) (x2 : Int) (x3 : Int) (x4 : Int) (x5 : Int) : runFn (ocOf [e_impl_cross, e_impl_within]) (olOf []) A 122 Go.Proofs.Try.f122 (Sh.mks e_impl_onSegment.sh [.I x0, .I x1, .I x2, .I x3, .I x4, .I x5]).1 (fun v os => some (v, os)) = c_impl_onSegment x0 x1 x2 x3 x4 x5 (fun y => some ((e_impl_onSegment.res.mk [.B y]).1, (Sh.mks e_impl_onSegment.outs (e_impl_onSegment.res.mk [.B y]).2).1)) := by kernel_rfl
theorem e_impl_onSegment_ok : e_impl_onSegment.ok Go.Proofs.Try.prog A := by
  intro R ds k r h
  unfold e_impl_onSegment at h
  obtain ⟨x0, d0, rfl, h0⟩ := dI_some h
  obtain ⟨x1, d1, rfl, h1⟩ := dI_some h0
  obtain ⟨x2, d2, rfl, h2⟩ := dI_some h1
  obtain ⟨x3, d3, rfl, h3⟩ := dI_some h2
  obtain ⟨x4, d4, rfl, h4⟩ := dI_some h3
  obtain ⟨x5, d5, rfl, h5⟩ := dI_some h4
  obtain ⟨rfl, hE⟩ := dE_some h5
  obtain ⟨y, hy, hk⟩ := bnd_some hE
  refine ⟨_, hk, fn_ok px (fx := ⟨Go.Proofs.Try.func122, by kernel_rfl, by kernel_rfl⟩) (entsOK_cons e_impl_cross_ok (entsOK_cons e_impl_within_ok entsOK_nil)) lentsOK_nil ?_⟩
  have hq := q_impl_onSegment x0 x1 x2 x3 x4 x5
  rw [c_impl_onSegment_bind] at hq
  rw [show c_impl_onSegment x0 x1 x2 x3 x4 x5 some = some y from hy] at hq
  exact hq

/-! cmp.isNaN[int] -/
def c_cmp_isNaN {R : Type} (x0 : Int) (k : Bool → Option R) : Option R :=
  k (!Decidable.decide (x0 = x0))
theorem c_cmp_isNaN_bind {R : Type} (x0 : Int) (k : Bool → Option R) : c_cmp_isNaN x0 k = (c_cmp_isNaN x0 some).bind k := by
  unfold c_cmp_isNaN
  repeat' first
    | exact bnd_tail
    | exact bnd_none
    | exact bnd_leaf
    | apply bnd_ite
    | apply bnd_cond
    | apply bnd_sum
    | (apply bnd_bind; intro _)
    | intro _
def cmp_isNaN (x0 : Int) : Option (Bool) := c_cmp_isNaN x0 some
def e_cmp_isNaN : Ent := ⟨135, [.int .i64], .bool, [.undef], fun _ ds k => dI (fun x0 ds => dE ((cmp_isNaN x0).bind (fun y => k [.B y])) ds) ds⟩
theorem q_cmp_isNaN (x0 : Int) : runFn (ocOf []) (olOf []) A 135 Go.Proofs.Try.f135 (Sh.mks e_cmp_isNaN.sh [.I x0]).1 (fun v os => some (v, os)) = c_cmp_isNaN x0 (fun y => some ((e_cmp_isNaN.res.mk [.B y]).1, (Sh.mks e_cmp_isNaN.outs (e_cmp_isNaN.res.mk [.B y]).2).1)) := by kernel_rfl
theorem e_cmp_isNaN_ok : e_cmp_isNaN.ok Go.Proofs.Try.prog A := by
  intro R ds k r h
  unfold e_cmp_isNaN at h
  obtain ⟨x0, d0, rfl, h0⟩ := dI_some h
  obtain ⟨rfl, hE⟩ := dE_some h0
  obtain ⟨y, hy, hk⟩ := bnd_some hE
  refine ⟨_, hk, fn_ok px (fx := ⟨Go.Proofs.Try.func135, by kernel_rfl, by kernel_rfl⟩) entsOK_nil lentsOK_nil ?_⟩
  have hq := q_cmp_isNaN x0
  rw [c_cmp_isNaN_bind] at hq
  rw [show c_cmp_isNaN x0 some = some y from hy] at hq
  exact hq

/-! cmp.Compare[int] -/
def c_cmp_Compare {R : Type} (x0 : Int) (x1 : Int) (k : Int → Option R) : Option R :=
  (cmp_isNaN x0).bind (fun y0 =>
    (cmp_isNaN x1).bind (fun y1 =>
      bif y0 then
        bif y1 then
          k (0 : Int)
        else
          k (-1 : Int)
      else
        bif y1 then
          k (1 : Int)
        else
          bif Decidable.decide (x0 < x1) then
            k (-1 : Int)
          else
            bif Decidable.decide (x1 < x0) then
              k (1 : Int)
            else
              k (0 : Int)))
theorem c_cmp_Compare_bind {R : Type} (x0 : Int) (x1 : Int) (k : Int → Option R) : c_cmp_Compare x0 x1 k = (c_cmp_Compare x0 x1 some).bind k := by
  unfold c_cmp_Compare
  repeat' first
    | exact bnd_tail
    | exact bnd_none
    | exact bnd_leaf
    | apply bnd_ite
    | apply bnd_cond
    | apply bnd_sum
    | (apply bnd_bind; intro _)
    | intro _
def cmp_Compare (x0 : Int) (x1 : Int) : Option (Int) := c_cmp_Compare x0 x1 some
def e_cmp_Compare : Ent := ⟨129, [.int .i64, .int .i64], .int .i64, [.undef, .undef], fun _ ds k => dI (fun x0 ds => dI (fun x1 ds => dE ((cmp_Compare x0 x1).bind (fun y => k [.I y])) ds) ds) ds⟩
theorem q_cmp_Compare (x0 : Int) (x1 : Int) : runFn (ocOf [e_cmp_isNaN]) (olOf []) A 129 Go.Proofs.Try.f129 (Sh.mks e_cmp_Compare.sh [.I x0, .I x1]).1 (fun v os => some (v, os)) = c_cmp_Compare x0 x1 (fun y => some ((e_cmp_Compare.res.mk [.I y]).1, (Sh.mks e_cmp_Compare.outs (e_cmp_Compare.res.mk [.I y]).2).1)) := by kernel_rfl
theorem e_cmp_Compare_ok : e_cmp_Compare.ok Go.Proofs.Try.prog A := by
  intro R ds k r h
  unfold e_cmp_Compare at h
  obtain ⟨x0, d0, rfl, h0⟩ := dI_some h
  obtain ⟨x1, d1, rfl, h1⟩ := dI_some h0
  obtain ⟨rfl, hE⟩ := dE_some h1
  obtain ⟨y, hy, hk⟩ := bnd_some hE
  refine ⟨_, hk, fn_ok px (fx := ⟨Go.Proofs.Try.func129, by kernel_rfl, by kernel_rfl⟩) (entsOK_cons e_cmp_isNaN_ok entsOK_nil) lentsOK_nil ?_⟩
  have hq := q_cmp_Compare x0 x1
  rw [c_cmp_Compare_bind] at hq
  rw [show c_cmp_Compare x0 x1 some = some y from hy] at hq
  exact hq

/-! loop.example/g00876/impl.sign -/
def c_impl_sign {R : Type} (x0 : Int) (k : Int → Option R) : Option R :=
  (cmp_Compare x0 (0 : Int)).bind (fun y0 =>
    k y0)
theorem c_impl_sign_bind {R : Type} (x0 : Int) (k : Int → Option R) : c_impl_sign x0 k = (c_impl_sign x0 some).bind k := by
  unfold c_impl_sign
  repeat' first
    | exact bnd_tail
    | exact bnd_none
    | exact bnd_leaf
    | apply bnd_ite
    | apply bnd_cond
    | apply bnd_sum
    | (apply bnd_bind; intro _)
    | intro _
def impl_sign (x0 : Int) : Option (Int) := c_impl_sign x0 some
def e_impl_sign : Ent := ⟨123, [.int .i64], .int .i64, [.undef], fun _ ds k => dI (fun x0 ds => dE ((impl_sign x0).bind (fun y => k [.I y])) ds) ds⟩
theorem q_impl_sign (x0 : Int) : runFn (ocOf [e_cmp_Compare]) (olOf []) A 123 Go.Proofs.Try.f123 (Sh.mks e_impl_sign.sh [.I x0]).1 (fun v os => some (v, os)) = c_impl_sign x0 (fun y => some ((e_impl_sign.res.mk [.I y]).1, (Sh.mks e_impl_sign.outs (e_impl_sign.res.mk [.I y]).2).1)) := by kernel_rfl
theorem e_impl_sign_ok : e_impl_sign.ok Go.Proofs.Try.prog A := by
  intro R ds k r h
  unfold e_impl_sign at h
  obtain ⟨x0, d0, rfl, h0⟩ := dI_some h
  obtain ⟨rfl, hE⟩ := dE_some h0
  obtain ⟨y, hy, hk⟩ := bnd_some hE
  refine ⟨_, hk, fn_ok px (fx := ⟨Go.Proofs.Try.func123, by kernel_rfl, by kernel_rfl⟩) (entsOK_cons e_cmp_Compare_ok entsOK_nil) lentsOK_nil ?_⟩
  have hq := q_impl_sign x0
  rw [c_impl_sign_bind] at hq
  rw [show c_impl_sign x0 some = some y from hy] at hq
  exact hq

/-! loop.example/g00876/impl.meet -/
def c_impl_meet {R : Type} (x0 : Int) (x1 : Int) (x2 : Int) (x3 : Int) (x4 : Int) (x5 : Int) (x6 : Int) (x7 : Int) (k : Bool → Option R) : Option R :=
  (impl_onSegment x0 x1 x2 x3 x4 x5).bind (fun y0 =>
    bif y0 then
      k Bool.true
    else
      (impl_onSegment x0 x1 x2 x3 x6 x7).bind (fun y1 =>
        bif y1 then
          k Bool.true
        else
          (impl_onSegment x4 x5 x6 x7 x0 x1).bind (fun y2 =>
            bif y2 then
              k Bool.true
            else
              (impl_onSegment x4 x5 x6 x7 x2 x3).bind (fun y3 =>
                bif y3 then
                  k Bool.true
                else
                  (impl_cross x0 x1 x2 x3 x4 x5).bind (fun y4 =>
                    (impl_sign y4).bind (fun y5 =>
                      (impl_cross x0 x1 x2 x3 x6 x7).bind (fun y6 =>
                        (impl_sign y6).bind (fun y7 =>
                          bif Decidable.decide (Go.IntKind.i64.wrap (y5 * y7) < (0 : Int)) then
                            (impl_cross x4 x5 x6 x7 x0 x1).bind (fun y8 =>
                              (impl_sign y8).bind (fun y9 =>
                                (impl_cross x4 x5 x6 x7 x2 x3).bind (fun y10 =>
                                  (impl_sign y10).bind (fun y11 =>
                                    k (Decidable.decide (Go.IntKind.i64.wrap (y9 * y11) < (0 : Int)))))))
                          else
                            k Bool.false))))))))
theorem c_impl_meet_bind {R : Type} (x0 : Int) (x1 : Int) (x2 : Int) (x3 : Int) (x4 : Int) (x5 : Int) (x6 : Int) (x7 : Int) (k : Bool → Option R) : c_impl_meet x0 x1 x2 x3 x4 x5 x6 x7 k = (c_impl_meet x0 x1 x2 x3 x4 x5 x6 x7 some).bind k := by
  unfold c_impl_meet
  repeat' first
    | exact bnd_tail
    | exact bnd_none
    | exact bnd_leaf
    | apply bnd_ite
    | apply bnd_cond
    | apply bnd_sum
    | (apply bnd_bind; intro _)
    | intro _
def impl_meet (x0 : Int) (x1 : Int) (x2 : Int) (x3 : Int) (x4 : Int) (x5 : Int) (x6 : Int) (x7 : Int) : Option (Bool) := c_impl_meet x0 x1 x2 x3 x4 x5 x6 x7 some
def e_impl_meet : Ent := ⟨82, [.agg [.int .i64, .int .i64], .agg [.int .i64, .int .i64], .agg [.int .i64, .int .i64], .agg [.int .i64, .int .i64]], .bool, [.undef, .undef, .undef, .undef], fun _ ds k => dI (fun x0 ds => dI (fun x1 ds => dI (fun x2 ds => dI (fun x3 ds => dI (fun x4 ds => dI (fun x5 ds => dI (fun x6 ds => dI (fun x7 ds => dE ((impl_meet x0 x1 x2 x3 x4 x5 x6 x7).bind (fun y => k [.B y])) ds) ds) ds) ds) ds) ds) ds) ds) ds⟩
theorem q_impl_meet (x0 : Int) (x1 : Int) (x2 : Int) (x3 : Int) (x4 : Int) (x5 : Int) (x6 : Int) (x7 : Int) : runFn (ocOf [e_impl_onSegment, e_impl_cross, e_impl_sign]) (olOf []) A 82 Go.Proofs.Try.f82 (Sh.mks e_impl_meet.sh [.I x0, .I x1, .I x2, .I x3, .I x4, .I x5, .I x6, .I x7]).1 (fun v os => some (v, os)) = c_impl_meet x0 x1 x2 x3 x4 x5 x6 x7 (fun y => some ((e_impl_meet.res.mk [.B y]).1, (Sh.mks e_impl_meet.outs (e_impl_meet.res.mk [.B y]).2).1)) := by kernel_rfl
theorem e_impl_meet_ok : e_impl_meet.ok Go.Proofs.Try.prog A := by
  intro R ds k r h
  unfold e_impl_meet at h
  obtain ⟨x0, d0, rfl, h0⟩ := dI_some h
  obtain ⟨x1, d1, rfl, h1⟩ := dI_some h0
  obtain ⟨x2, d2, rfl, h2⟩ := dI_some h1
  obtain ⟨x3, d3, rfl, h3⟩ := dI_some h2
  obtain ⟨x4, d4, rfl, h4⟩ := dI_some h3
  obtain ⟨x5, d5, rfl, h5⟩ := dI_some h4
  obtain ⟨x6, d6, rfl, h6⟩ := dI_some h5
  obtain ⟨x7, d7, rfl, h7⟩ := dI_some h6
  obtain ⟨rfl, hE⟩ := dE_some h7
  obtain ⟨y, hy, hk⟩ := bnd_some hE
  refine ⟨_, hk, fn_ok px (fx := ⟨Go.Proofs.Try.func82, by kernel_rfl, by kernel_rfl⟩) (entsOK_cons e_impl_onSegment_ok (entsOK_cons e_impl_cross_ok (entsOK_cons e_impl_sign_ok entsOK_nil))) lentsOK_nil ?_⟩
  have hq := q_impl_meet x0 x1 x2 x3 x4 x5 x6 x7
  rw [c_impl_meet_bind] at hq
  rw [show c_impl_meet x0 x1 x2 x3 x4 x5 x6 x7 some = some y from hy] at hq
  exact hq

/-! loop.example/g00876/impl.IsValidPolygon, loop 10 -/
def c_impl_IsValidPolygon_L10 {R : Type} (F : List D → Int → Int → Int → Int → Int → Int → Option ((List D × Bool × Int × Int × Int) ⊕ (List D × Int × Int × Int))) (x0 : List D) (x1 : Int) (x2 : Int) (x3 : Int) (x4 : Int) (x5 : Int) (x6 : Int) (k : (List D × Bool × Int × Int × Int) ⊕ (List D × Int × Int × Int) → Option R) : Option R :=
  bif Decidable.decide (x6 < x5) then
    bif Decidable.decide (Go.IntKind.i64.wrap (x2 - x6) = (1 : Int)) then
      (F x0 x1 x2 x3 x4 x5 (Go.IntKind.i64.wrap (x6 + (1 : Int)))).bind k
    else
      bif Decidable.decide (Go.IntKind.i64.wrap (x2 - x6) = Go.IntKind.i64.wrap (x1 - (1 : Int))) then
        (F x0 x1 x2 x3 x4 x5 (Go.IntKind.i64.wrap (x6 + (1 : Int)))).bind k
      else
        if (0 : Int) ≤ x2 ∧ x2 < (↑x0.length : Int) then
          (impl_next x0 x2).bind (fun y0 =>
            if (0 : Int) ≤ x6 ∧ x6 < (↑x0.length : Int) then
              (impl_next x0 x6).bind (fun y1 =>
                (impl_meet (((x0.getD x2.toNat (Go.Rai.D.int (0 : Int))).fld (0 : Nat)).toInt) (((x0.getD x2.toNat (Go.Rai.D.int (0 : Int))).fld (1 : Nat)).toInt) y0.fst y0.snd (((x0.getD x6.toNat (Go.Rai.D.int (0 : Int))).fld (0 : Nat)).toInt) (((x0.getD x6.toNat (Go.Rai.D.int (0 : Int))).fld (1 : Nat)).toInt) y1.fst y1.snd).bind (fun y2 =>
                  bif y2 then
                    k (.inl (x0, Bool.false, x1, x3, x4))
                  else
                    (F x0 x1 x2 x3 x4 x5 (Go.IntKind.i64.wrap (x6 + (1 : Int)))).bind k))
            else
              none)
        else
          none
  else
    k (.inr (x0, x1, x3, x4))
theorem c_impl_IsValidPolygon_L10_bind {R : Type} (F : List D → Int → Int → Int → Int → Int → Int → Option ((List D × Bool × Int × Int × Int) ⊕ (List D × Int × Int × Int))) (x0 : List D) (x1 : Int) (x2 : Int) (x3 : Int) (x4 : Int) (x5 : Int) (x6 : Int) (k : (List D × Bool × Int × Int × Int) ⊕ (List D × Int × Int × Int) → Option R) : c_impl_IsValidPolygon_L10 F x0 x1 x2 x3 x4 x5 x6 k = (c_impl_IsValidPolygon_L10 F x0 x1 x2 x3 x4 x5 x6 some).bind k := by
  unfold c_impl_IsValidPolygon_L10
  repeat' first
    | exact bnd_tail
    | exact bnd_none
    | exact bnd_leaf
    | apply bnd_ite
    | apply bnd_cond
    | apply bnd_sum
    | (apply bnd_bind; intro _)
    | intro _
def n_impl_IsValidPolygon_L10 : Nat → List D → Int → Int → Int → Int → Int → Int → Option ((List D × Bool × Int × Int × Int) ⊕ (List D × Int × Int × Int))
  | 0, _, _, _, _, _, _, _ => none
  | n + 1, x0, x1, x2, x3, x4, x5, x6 => c_impl_IsValidPolygon_L10 (n_impl_IsValidPolygon_L10 n) x0 x1 x2 x3 x4 x5 x6 some
noncomputable def impl_IsValidPolygon_L10 (x0 : List D) (x1 : Int) (x2 : Int) (x3 : Int) (x4 : Int) (x5 : Int) (x6 : Int) : Option ((List D × Bool × Int × Int × Int) ⊕ (List D × Int × Int × Int)) := ev (fun n => n_impl_IsValidPolygon_L10 n x0 x1 x2 x3 x4 x5 x6)
def m_impl_IsValidPolygon_L10 (F : List D → Int → Int → Int → Int → Int → Int → Option ((List D × Bool × Int × Int × Int) ⊕ (List D × Int × Int × Int))) : Lent := ⟨10, ⟨[.rd (.struct [.int .i64, .int .i64]), .undef, .undef, .int .i64, .int .i64, .undef, .undef, .undef, .undef, .undef, .undef, .undef, .undef, .undef, .undef, .undef, .int .i64, .int .i64, .undef, .undef, .undef, .undef, .undef, .undef, .undef, .undef, .undef, .undef, .undef, .undef, .undef, .undef, .undef, .int .i64, .int .i64, .undef, .undef, .undef, .undef, .undef, .undef, .undef, .undef, .undef, .undef, .undef, .undef, .undef, .undef, .undef, .undef, .undef, .undef, .undef, .undef, .undef, .undef, .undef, .undef, .undef, .undef, .undef, .undef, .undef, .undef, .undef], []⟩, [(.ret, ⟨[.rd (.struct [.int .i64, .int .i64]), .undef, .bool, .int .i64, .undef, .undef, .undef, .undef, .undef, .undef, .undef, .undef, .undef, .undef, .undef, .undef, .int .i64, .int .i64, .undef, .undef, .undef, .undef, .undef, .undef, .undef, .undef, .undef, .undef, .undef, .undef, .undef, .undef, .undef, .undef, .undef, .undef, .undef, .undef, .undef, .undef, .undef, .undef, .undef, .undef, .undef, .undef, .undef, .undef, .undef, .undef, .undef, .undef, .undef, .undef, .undef, .undef, .undef, .undef, .undef, .undef, .undef, .undef, .undef, .undef, .undef, .undef], []⟩), (.exit 2, ⟨[.rd (.struct [.int .i64, .int .i64]), .undef, .undef, .int .i64, .undef, .undef, .undef, .undef, .undef, .undef, .undef, .undef, .undef, .undef, .undef, .undef, .int .i64, .int .i64, .undef, .undef, .undef, .undef, .undef, .undef, .undef, .undef, .undef, .undef, .undef, .undef, .undef, .undef, .undef, .undef, .undef, .undef, .undef, .undef, .undef, .undef, .undef, .undef, .undef, .undef, .undef, .undef, .undef, .undef, .undef, .undef, .undef, .undef, .undef, .undef, .undef, .undef, .undef, .undef, .undef, .undef, .undef, .undef, .undef, .undef, .undef, .undef], []⟩)], fun _ ds k => dL (fun x0 ds => dI (fun x1 ds => dI (fun x2 ds => dI (fun x3 ds => dI (fun x4 ds => dI (fun x5 ds => dI (fun x6 ds => dE ((F x0 x1 x2 x3 x4 x5 x6).bind (Sum.elim (fun y => k 0 [.L y.1, .B y.2.1, .I y.2.2.1, .I y.2.2.2.1, .I y.2.2.2.2]) (fun y => k 1 [.L y.1, .I y.2.1, .I y.2.2.1, .I y.2.2.2]))) ds) ds) ds) ds) ds) ds) ds) ds⟩
theorem q_impl_IsValidPolygon_L10 (F : List D → Int → Int → Int → Int → Int → Int → Option ((List D × Bool × Int × Int × Int) ⊕ (List D × Int × Int × Int))) (x0 : List D) (x1 : Int) (x2 : Int) (x3 : Int) (x4 : Int) (x5 : Int) (x6 : Int) : runLoop (ocOf [e_impl_next, e_impl_meet]) (olOf [m_impl_IsValidPolygon_L10 F]) A 25 (codeAt (bodyOf Go.Proofs.Try.f25) 10) ((m_impl_IsValidPolygon_L10 F).sh.mk' [.L x0, .I x1, .I x2, .I x3, .I x4, .I x5, .I x6]) (fun e σ' => some (e, σ')) = c_impl_IsValidPolygon_L10 F x0 x1 x2 x3 x4 x5 x6 (Sum.elim (fun y => some (.ret, SSt.mk' ⟨[.rd (.struct [.int .i64, .int .i64]), .undef, .bool, .int .i64, .undef, .undef, .undef, .undef, .undef, .undef, .undef, .undef, .undef, .undef, .undef, .undef, .int .i64, .int .i64, .undef, .undef, .undef, .undef, .undef, .undef, .undef, .undef, .undef, .undef, .undef, .undef, .undef, .undef, .undef, .undef, .undef, .undef, .undef, .undef, .undef, .undef, .undef, .undef, .undef, .undef, .undef, .undef, .undef, .undef, .undef, .undef, .undef, .undef, .undef, .undef, .undef, .undef, .undef, .undef, .undef, .undef, .undef, .undef, .undef, .undef, .undef, .undef], []⟩ [.L y.1, .B y.2.1, .I y.2.2.1, .I y.2.2.2.1, .I y.2.2.2.2])) (fun y => some (.exit 2, SSt.mk' ⟨[.rd (.struct [.int .i64, .int .i64]), .undef, .undef, .int .i64, .undef, .undef, .undef, .undef, .undef, .undef, .undef, .undef, .undef, .undef, .undef, .undef, .int .i64, .int .i64, .undef, .undef, .undef, .undef, .undef, .undef, .undef, .undef, .undef, .undef, .undef, .undef, .undef, .undef, .undef, .undef, .undef, .undef, .undef, .undef, .undef, .undef, .undef, .undef, .undef, .undef, .undef, .undef, .undef, .undef, .undef, .undef, .undef, .undef, .undef, .undef, .undef, .undef, .undef, .undef, .undef, .undef, .undef, .undef, .undef, .undef, .undef, .undef], []⟩ [.L y.1, .I y.2.1, .I y.2.2.1, .I y.2.2.2]))) := by kernel_rfl
theorem m_impl_IsValidPolygon_L10_ok : ∀ n, (m_impl_IsValidPolygon_L10 (n_impl_IsValidPolygon_L10 n)).ok Go.Proofs.Try.prog (codeAt (bodyOf Go.Proofs.Try.f25) 10) := by
  intro n
  induction n with
  | zero =>
    intro R ds k r h
    unfold m_impl_IsValidPolygon_L10 at h
    obtain ⟨x0, d0, rfl, h0⟩ := dL_some h
    obtain ⟨x1, d1, rfl, h1⟩ := dI_some h0
    obtain ⟨x2, d2, rfl, h2⟩ := dI_some h1
    obtain ⟨x3, d3, rfl, h3⟩ := dI_some h2
    obtain ⟨x4, d4, rfl, h4⟩ := dI_some h3
    obtain ⟨x5, d5, rfl, h5⟩ := dI_some h4
    obtain ⟨x6, d6, rfl, h6⟩ := dI_some h5
    obtain ⟨rfl, hE⟩ := dE_some h6
    obtain ⟨y, hy, hk⟩ := bnd_some hE
    cases hy
  | succ n ih =>
    intro R ds k r h
    unfold m_impl_IsValidPolygon_L10 at h
    obtain ⟨x0, d0, rfl, h0⟩ := dL_some h
    obtain ⟨x1, d1, rfl, h1⟩ := dI_some h0
    obtain ⟨x2, d2, rfl, h2⟩ := dI_some h1
    obtain ⟨x3, d3, rfl, h3⟩ := dI_some h2
    obtain ⟨x4, d4, rfl, h4⟩ := dI_some h3
    obtain ⟨x5, d5, rfl, h5⟩ := dI_some h4
    obtain ⟨x6, d6, rfl, h6⟩ := dI_some h5
    obtain ⟨rfl, hE⟩ := dE_some h6
    obtain ⟨y, hy, hk⟩ := bnd_some hE
    have hq := q_impl_IsValidPolygon_L10 (n_impl_IsValidPolygon_L10 n) x0 x1 x2 x3 x4 x5 x6
    rw [c_impl_IsValidPolygon_L10_bind] at hq
    rw [show c_impl_IsValidPolygon_L10 (n_impl_IsValidPolygon_L10 n) x0 x1 x2 x3 x4 x5 x6 some = some y from hy] at hq
    cases y with
    | inl y =>
      refine ⟨0, _, _, _, hk, rfl, loop_ok px (fx := ⟨Go.Proofs.Try.func25, by kernel_rfl, by kernel_rfl⟩) (entsOK_cons e_impl_next_ok (entsOK_cons e_impl_meet_ok entsOK_nil)) (lentsOK_cons ih lentsOK_nil) (by kernel_rfl) ?_⟩
      exact hq
    | inr y =>
      refine ⟨1, _, _, _, hk, rfl, loop_ok px (fx := ⟨Go.Proofs.Try.func25, by kernel_rfl, by kernel_rfl⟩) (entsOK_cons e_impl_next_ok (entsOK_cons e_impl_meet_ok entsOK_nil)) (lentsOK_cons ih lentsOK_nil) (by kernel_rfl) ?_⟩
      exact hq
noncomputable def e_impl_IsValidPolygon_L10 : Lent := m_impl_IsValidPolygon_L10 impl_IsValidPolygon_L10
theorem e_impl_IsValidPolygon_L10_ok : e_impl_IsValidPolygon_L10.ok Go.Proofs.Try.prog (codeAt (bodyOf Go.Proofs.Try.f25) 10) := by
  intro R ds k r h
  unfold e_impl_IsValidPolygon_L10 m_impl_IsValidPolygon_L10 at h
  obtain ⟨x0, d0, rfl, h0⟩ := dL_some h
  obtain ⟨x1, d1, rfl, h1⟩ := dI_some h0
  obtain ⟨x2, d2, rfl, h2⟩ := dI_some h1
  obtain ⟨x3, d3, rfl, h3⟩ := dI_some h2
  obtain ⟨x4, d4, rfl, h4⟩ := dI_some h3
  obtain ⟨x5, d5, rfl, h5⟩ := dI_some h4
  obtain ⟨x6, d6, rfl, h6⟩ := dI_some h5
  obtain ⟨rfl, hE⟩ := dE_some h6
  obtain ⟨y, hy, hk⟩ := bnd_some hE
  obtain ⟨n, hn⟩ := ev_some hy
  exact m_impl_IsValidPolygon_L10_ok n R _ k r (show (n_impl_IsValidPolygon_L10 n x0 x1 x2 x3 x4 x5 x6).bind _ = _ by rw [hn]; exact hk)

/-! loop.example/g00876/impl.IsValidPolygon, loop 5 -/
def c_impl_IsValidPolygon_L5 {R : Type} (F : List D → Int → Int → Int → Option ((Bool) ⊕ (Unit))) (x0 : List D) (x1 : Int) (x2 : Int) (x3 : Int) (k : (Bool) ⊕ (Unit) → Option R) : Option R :=
  bif Decidable.decide (x3 < x2) then
    if (0 : Int) ≤ x3 ∧ x3 < (↑x0.length : Int) then
      (impl_next x0 x3).bind (fun y0 =>
        (impl_next x0 (Go.IntKind.i64.wrap (x3 + (1 : Int)))).bind (fun y1 =>
          (impl_cross (((x0.getD x3.toNat (Go.Rai.D.int (0 : Int))).fld (0 : Nat)).toInt) (((x0.getD x3.toNat (Go.Rai.D.int (0 : Int))).fld (1 : Nat)).toInt) y0.fst y0.snd y1.fst y1.snd).bind (fun y2 =>
            bif Decidable.decide (y2 = (0 : Int)) then
              k (.inl Bool.false)
            else
              (impl_IsValidPolygon_L10 x0 x1 x3 x2 x3 x3 (0 : Int)).bind (Sum.elim (fun y3 =>
                k (.inl y3.snd.fst)) (fun y4 =>
                (F y4.fst y4.snd.fst y4.snd.snd.fst (Go.IntKind.i64.wrap (y4.snd.snd.snd + (1 : Int)))).bind k)))))
    else
      none
  else
    k (.inr ())
theorem c_impl_IsValidPolygon_L5_bind {R : Type} (F : List D → Int → Int → Int → Option ((Bool) ⊕ (Unit))) (x0 : List D) (x1 : Int) (x2 : Int) (x3 : Int) (k : (Bool) ⊕ (Unit) → Option R) : c_impl_IsValidPolygon_L5 F x0 x1 x2 x3 k = (c_impl_IsValidPolygon_L5 F x0 x1 x2 x3 some).bind k := by
  unfold c_impl_IsValidPolygon_L5
  repeat' first
    | exact bnd_tail
    | exact bnd_none
    | exact bnd_leaf
    | apply bnd_ite
    | apply bnd_cond
    | apply bnd_sum
    | (apply bnd_bind; intro _)
    | intro _
def n_impl_IsValidPolygon_L5 : Nat → List D → Int → Int → Int → Option ((Bool) ⊕ (Unit))
  | 0, _, _, _, _ => none
  | n + 1, x0, x1, x2, x3 => c_impl_IsValidPolygon_L5 (n_impl_IsValidPolygon_L5 n) x0 x1 x2 x3 some
noncomputable def impl_IsValidPolygon_L5 (x0 : List D) (x1 : Int) (x2 : Int) (x3 : Int) : Option ((Bool) ⊕ (Unit)) := ev (fun n => n_impl_IsValidPolygon_L5 n x0 x1 x2 x3)
def m_impl_IsValidPolygon_L5 (F : List D → Int → Int → Int → Option ((Bool) ⊕ (Unit))) : Lent := ⟨5, ⟨[.rd (.struct [.int .i64, .int .i64]), .undef, .undef, .int .i64, .undef, .undef, .undef, .undef, .undef, .undef, .undef, .undef, .undef, .undef, .undef, .undef, .int .i64, .int .i64, .undef, .undef, .undef, .undef, .undef, .undef, .undef, .undef, .undef, .undef, .undef, .undef, .undef, .undef, .undef, .undef, .undef, .undef, .undef, .undef, .undef, .undef, .undef, .undef, .undef, .undef, .undef, .undef, .undef, .undef, .undef, .undef, .undef, .undef, .undef, .undef, .undef, .undef, .undef, .undef, .undef, .undef, .undef, .undef, .undef, .undef, .undef, .undef], []⟩, [(.ret, ⟨[.undef, .undef, .bool, .undef, .undef, .undef, .undef, .undef, .undef, .undef, .undef, .undef, .undef, .undef, .undef, .undef, .undef, .undef, .undef, .undef, .undef, .undef, .undef, .undef, .undef, .undef, .undef, .undef, .undef, .undef, .undef, .undef, .undef, .undef, .undef, .undef, .undef, .undef, .undef, .undef, .undef, .undef, .undef, .undef, .undef, .undef, .undef, .undef, .undef, .undef, .undef, .undef, .undef, .undef, .undef, .undef, .undef, .undef, .undef, .undef, .undef, .undef, .undef, .undef, .undef, .undef], []⟩), (.exit 0, ⟨[.undef, .undef, .undef, .undef, .undef, .undef, .undef, .undef, .undef, .undef, .undef, .undef, .undef, .undef, .undef, .undef, .undef, .undef, .undef, .undef, .undef, .undef, .undef, .undef, .undef, .undef, .undef, .undef, .undef, .undef, .undef, .undef, .undef, .undef, .undef, .undef, .undef, .undef, .undef, .undef, .undef, .undef, .undef, .undef, .undef, .undef, .undef, .undef, .undef, .undef, .undef, .undef, .undef, .undef, .undef, .undef, .undef, .undef, .undef, .undef, .undef, .undef, .undef, .undef, .undef, .undef], []⟩)], fun _ ds k => dL (fun x0 ds => dI (fun x1 ds => dI (fun x2 ds => dI (fun x3 ds => dE ((F x0 x1 x2 x3).bind (Sum.elim (fun y => k 0 [.B y]) (fun y => k 1 []))) ds) ds) ds) ds) ds⟩
theorem q_impl_IsValidPolygon_L5 (F : List D → Int → Int → Int → Option ((Bool) ⊕ (Unit))) (x0 : List D) (x1 : Int) (x2 : Int) (x3 : Int) : runLoop (ocOf [e_impl_next, e_impl_cross]) (olOf [m_impl_IsValidPolygon_L5 F, e_impl_IsValidPolygon_L10]) A 25 (codeAt (bodyOf Go.Proofs.Try.f25) 5) ((m_impl_IsValidPolygon_L5 F).sh.mk' [.L x0, .I x1, .I x2, .I x3]) (fun e σ' => some (e, σ')) = c_impl_IsValidPolygon_L5 F x0 x1 x2 x3 (Sum.elim (fun y => some (.ret, SSt.mk' ⟨[.undef, .undef, .bool, .undef, .undef, .undef, .undef, .undef, .undef, .undef, .undef, .undef, .undef, .undef, .undef, .undef, .undef, .undef, .undef, .undef, .undef, .undef, .undef, .undef, .undef, .undef, .undef, .undef, .undef, .undef, .undef, .undef, .undef, .undef, .undef, .undef, .undef, .undef, .undef, .undef, .undef, .undef, .undef, .undef, .undef, .undef, .undef, .undef, .undef, .undef, .undef, .undef, .undef, .undef, .undef, .undef, .undef, .undef, .undef, .undef, .undef, .undef, .undef, .undef, .undef, .undef], []⟩ [.B y])) (fun y => some (.exit 0, SSt.mk' ⟨[.undef, .undef, .undef, .undef, .undef, .undef, .undef, .undef, .undef, .undef, .undef, .undef, .undef, .undef, .undef, .undef, .undef, .undef, .undef, .undef, .undef, .undef, .undef, .undef, .undef, .undef, .undef, .undef, .undef, .undef, .undef, .undef, .undef, .undef, .undef, .undef, .undef, .undef, .undef, .undef, .undef, .undef, .undef, .undef, .undef, .undef, .undef, .undef, .undef, .undef, .undef, .undef, .undef, .undef, .undef, .undef, .undef, .undef, .undef, .undef, .undef, .undef, .undef, .undef, .undef, .undef], []⟩ []))) := by kernel_rfl
theorem m_impl_IsValidPolygon_L5_ok : ∀ n, (m_impl_IsValidPolygon_L5 (n_impl_IsValidPolygon_L5 n)).ok Go.Proofs.Try.prog (codeAt (bodyOf Go.Proofs.Try.f25) 5) := by
  intro n
  induction n with
  | zero =>
    intro R ds k r h
    unfold m_impl_IsValidPolygon_L5 at h
    obtain ⟨x0, d0, rfl, h0⟩ := dL_some h
    obtain ⟨x1, d1, rfl, h1⟩ := dI_some h0
    obtain ⟨x2, d2, rfl, h2⟩ := dI_some h1
    obtain ⟨x3, d3, rfl, h3⟩ := dI_some h2
    obtain ⟨rfl, hE⟩ := dE_some h3
    obtain ⟨y, hy, hk⟩ := bnd_some hE
    cases hy
  | succ n ih =>
    intro R ds k r h
    unfold m_impl_IsValidPolygon_L5 at h
    obtain ⟨x0, d0, rfl, h0⟩ := dL_some h
    obtain ⟨x1, d1, rfl, h1⟩ := dI_some h0
    obtain ⟨x2, d2, rfl, h2⟩ := dI_some h1
    obtain ⟨x3, d3, rfl, h3⟩ := dI_some h2
    obtain ⟨rfl, hE⟩ := dE_some h3
    obtain ⟨y, hy, hk⟩ := bnd_some hE
    have hq := q_impl_IsValidPolygon_L5 (n_impl_IsValidPolygon_L5 n) x0 x1 x2 x3
    rw [c_impl_IsValidPolygon_L5_bind] at hq
    rw [show c_impl_IsValidPolygon_L5 (n_impl_IsValidPolygon_L5 n) x0 x1 x2 x3 some = some y from hy] at hq
    cases y with
    | inl y =>
      refine ⟨0, _, _, _, hk, rfl, loop_ok px (fx := ⟨Go.Proofs.Try.func25, by kernel_rfl, by kernel_rfl⟩) (entsOK_cons e_impl_next_ok (entsOK_cons e_impl_cross_ok entsOK_nil)) (lentsOK_cons ih (lentsOK_cons e_impl_IsValidPolygon_L10_ok lentsOK_nil)) (by kernel_rfl) ?_⟩
      exact hq
    | inr y =>
      refine ⟨1, _, _, _, hk, rfl, loop_ok px (fx := ⟨Go.Proofs.Try.func25, by kernel_rfl, by kernel_rfl⟩) (entsOK_cons e_impl_next_ok (entsOK_cons e_impl_cross_ok entsOK_nil)) (lentsOK_cons ih (lentsOK_cons e_impl_IsValidPolygon_L10_ok lentsOK_nil)) (by kernel_rfl) ?_⟩
      exact hq
noncomputable def e_impl_IsValidPolygon_L5 : Lent := m_impl_IsValidPolygon_L5 impl_IsValidPolygon_L5
theorem e_impl_IsValidPolygon_L5_ok : e_impl_IsValidPolygon_L5.ok Go.Proofs.Try.prog (codeAt (bodyOf Go.Proofs.Try.f25) 5) := by
  intro R ds k r h
  unfold e_impl_IsValidPolygon_L5 m_impl_IsValidPolygon_L5 at h
  obtain ⟨x0, d0, rfl, h0⟩ := dL_some h
  obtain ⟨x1, d1, rfl, h1⟩ := dI_some h0
  obtain ⟨x2, d2, rfl, h2⟩ := dI_some h1
  obtain ⟨x3, d3, rfl, h3⟩ := dI_some h2
  obtain ⟨rfl, hE⟩ := dE_some h3
  obtain ⟨y, hy, hk⟩ := bnd_some hE
  obtain ⟨n, hn⟩ := ev_some hy
  exact m_impl_IsValidPolygon_L5_ok n R _ k r (show (n_impl_IsValidPolygon_L5 n x0 x1 x2 x3).bind _ = _ by rw [hn]; exact hk)

/-! loop.example/g00876/impl.IsValidPolygon -/
def c_impl_IsValidPolygon {R : Type} (x0 : List D) (k : Bool → Option R) : Option R :=
  (impl_within (↑x0.length : Int) (3 : Int) (12 : Int)).bind (fun y0 =>
    bif !y0 then
      k Bool.false
    else
      (slices_ContainsFunc__impl_IsValidPolygon_1 x0).bind (fun y1 =>
        bif y1 then
          k Bool.false
        else
          (impl_IsValidPolygon_L5 x0 (↑x0.length : Int) (↑x0.length : Int) (0 : Int)).bind (Sum.elim (fun y2 =>
            k y2) (fun y3 =>
            k Bool.true))))
theorem c_impl_IsValidPolygon_bind {R : Type} (x0 : List D) (k : Bool → Option R) : c_impl_IsValidPolygon x0 k = (c_impl_IsValidPolygon x0 some).bind k := by
  unfold c_impl_IsValidPolygon
  repeat' first
    | exact bnd_tail
    | exact bnd_none
    | exact bnd_leaf
    | apply bnd_ite
    | apply bnd_cond
    | apply bnd_sum
    | (apply bnd_bind; intro _)
    | intro _
def impl_IsValidPolygon (x0 : List D) : Option (Bool) := c_impl_IsValidPolygon x0 some
def e_impl_IsValidPolygon : Ent := ⟨25, [.rd (.struct [.int .i64, .int .i64])], .bool, [.undef], fun _ ds k => dL (fun x0 ds => dE ((impl_IsValidPolygon x0).bind (fun y => k [.B y])) ds) ds⟩
theorem q_impl_IsValidPolygon (x0 : List D) : runFn (ocOf [e_impl_within, e_slices_ContainsFunc__impl_IsValidPolygon_1]) (olOf [e_impl_IsValidPolygon_L5]) A 25 Go.Proofs.Try.f25 (Sh.mks e_impl_IsValidPolygon.sh [.L x0]).1 (fun v os => some (v, os)) = c_impl_IsValidPolygon x0 (fun y => some ((e_impl_IsValidPolygon.res.mk [.B y]).1, (Sh.mks e_impl_IsValidPolygon.outs (e_impl_IsValidPolygon.res.mk [.B y]).2).1)) := by kernel_rfl
theorem e_impl_IsValidPolygon_ok : e_impl_IsValidPolygon.ok Go.Proofs.Try.prog A := by
  intro R ds k r h
  unfold e_impl_IsValidPolygon at h
  obtain ⟨x0, d0, rfl, h0⟩ := dL_some h
  obtain ⟨rfl, hE⟩ := dE_some h0
  obtain ⟨y, hy, hk⟩ := bnd_some hE
  refine ⟨_, hk, fn_ok px (fx := ⟨Go.Proofs.Try.func25, by kernel_rfl, by kernel_rfl⟩) (entsOK_cons e_impl_within_ok (entsOK_cons e_slices_ContainsFunc__impl_IsValidPolygon_1_ok entsOK_nil)) (lentsOK_cons e_impl_IsValidPolygon_L5_ok lentsOK_nil) ?_⟩
  have hq := q_impl_IsValidPolygon x0
  rw [c_impl_IsValidPolygon_bind] at hq
  rw [show c_impl_IsValidPolygon x0 some = some y from hy] at hq
  exact hq

/-! slices.Clone[[]loop.example/g00876/impl.Corner,loop.example/g00876/impl.Corner] -/
def c_slices_Clone {R : Type} (x0 : List D) (k : List D → Option R) : Option R :=
  if (1 : Nat) ≤ x0.length then
    if ([] : List D).length + x0.length ≤ (4294967296 : Nat) then
      k ([] ++ x0)
    else
      none
  else
    none
theorem c_slices_Clone_bind {R : Type} (x0 : List D) (k : List D → Option R) : c_slices_Clone x0 k = (c_slices_Clone x0 some).bind k := by
  unfold c_slices_Clone
  repeat' first
    | exact bnd_tail
    | exact bnd_none
    | exact bnd_leaf
    | apply bnd_ite
    | apply bnd_cond
    | apply bnd_sum
    | (apply bnd_bind; intro _)
    | intro _
def slices_Clone (x0 : List D) : Option (List D) := c_slices_Clone x0 some
def e_slices_Clone : Ent := ⟨106, [.rd (.struct [.int .i64, .int .i64])], .own (.struct [.int .i64, .int .i64]), [.undef], fun _ ds k => dL (fun x0 ds => dE ((slices_Clone x0).bind (fun y => k [.L y])) ds) ds⟩
theorem q_slices_Clone (x0 : List D) : runFn (ocOf []) (olOf []) A 106 Go.Proofs.Try.f106 (Sh.mks e_slices_Clone.sh [.L x0]).1 (fun v os => some (v, os)) = c_slices_Clone x0 (fun y => some ((e_slices_Clone.res.mk [.L y]).1, (Sh.mks e_slices_Clone.outs (e_slices_Clone.res.mk [.L y]).2).1)) := by kernel_rfl
theorem e_slices_Clone_ok : e_slices_Clone.ok Go.Proofs.Try.prog A := by
  intro R ds k r h
  unfold e_slices_Clone at h
  obtain ⟨x0, d0, rfl, h0⟩ := dL_some h
  obtain ⟨rfl, hE⟩ := dE_some h0
  obtain ⟨y, hy, hk⟩ := bnd_some hE
  refine ⟨_, hk, fn_ok px (fx := ⟨Go.Proofs.Try.func106, by kernel_rfl, by kernel_rfl⟩) entsOK_nil lentsOK_nil ?_⟩
  have hq := q_slices_Clone x0
  rw [c_slices_Clone_bind] at hq
  rw [show c_slices_Clone x0 some = some y from hy] at hq
  exact hq

/-! loop.example/g00876/impl.signedArea, loop 3 -/
def c_impl_signedArea_L3 {R : Type} (F : List D → Int → List D → Int → Int → Option (Int)) (x0 : List D) (x1 : Int) (x2 : List D) (x3 : Int) (x4 : Int) (k : Int → Option R) : Option R :=
  bif Decidable.decide (x4 < x3) then
    if (0 : Int) ≤ x4 ∧ x4 < (↑x2.length : Int) then
      (impl_next x0 x4).bind (fun y0 =>
        (F x0 (Go.IntKind.i64.wrap (x1 + Go.IntKind.i64.wrap (Go.IntKind.i64.wrap (((x2.getD x4.toNat (Go.Rai.D.int (0 : Int))).fld (0 : Nat)).toInt * y0.snd) - Go.IntKind.i64.wrap (((x2.getD x4.toNat (Go.Rai.D.int (0 : Int))).fld (1 : Nat)).toInt * y0.fst)))) x2 x3 (Go.IntKind.i64.wrap (x4 + (1 : Int)))).bind k)
    else
      none
  else
    k x1
theorem c_impl_signedArea_L3_bind {R : Type} (F : List D → Int → List D → Int → Int → Option (Int)) (x0 : List D) (x1 : Int) (x2 : List D) (x3 : Int) (x4 : Int) (k : Int → Option R) : c_impl_signedArea_L3 F x0 x1 x2 x3 x4 k = (c_impl_signedArea_L3 F x0 x1 x2 x3 x4 some).bind k := by
  unfold c_impl_signedArea_L3
  repeat' first
    | exact bnd_tail
    | exact bnd_none
    | exact bnd_leaf
    | apply bnd_ite
    | apply bnd_cond
    | apply bnd_sum
    | (apply bnd_bind; intro _)
    | intro _
def n_impl_signedArea_L3 : Nat → List D → Int → List D → Int → Int → Option (Int)
  | 0, _, _, _, _, _ => none
  | n + 1, x0, x1, x2, x3, x4 => c_impl_signedArea_L3 (n_impl_signedArea_L3 n) x0 x1 x2 x3 x4 some
noncomputable def impl_signedArea_L3 (x0 : List D) (x1 : Int) (x2 : List D) (x3 : Int) (x4 : Int) : Option (Int) := ev (fun n => n_impl_signedArea_L3 n x0 x1 x2 x3 x4)
def m_impl_signedArea_L3 (F : List D → Int → List D → Int → Int → Option (Int)) : Lent := ⟨3, ⟨[.rd (.struct [.int .i64, .int .i64]), .undef, .undef, .int .i64, .undef, .undef, .undef, .rd (.struct [.int .i64, .int .i64]), .int .i64, .int .i64, .undef, .undef, .undef, .undef, .undef, .undef, .undef, .undef, .undef, .undef, .undef, .undef, .undef, .undef, .undef, .undef, .undef, .undef, .undef, .undef, .undef, .undef], []⟩, [(.exit 0, ⟨[.undef, .undef, .undef, .int .i64, .undef, .undef, .undef, .undef, .undef, .undef, .undef, .undef, .undef, .undef, .undef, .undef, .undef, .undef, .undef, .undef, .undef, .undef, .undef, .undef, .undef, .undef, .undef, .undef, .undef, .undef, .undef, .undef], []⟩)], fun _ ds k => dL (fun x0 ds => dI (fun x1 ds => dL (fun x2 ds => dI (fun x3 ds => dI (fun x4 ds => dE ((F x0 x1 x2 x3 x4).bind (fun y => k 0 [.I y])) ds) ds) ds) ds) ds) ds⟩
theorem q_impl_signedArea_L3 (F : List D → Int → List D → Int → Int → Option (Int)) (x0 : List D) (x1 : Int) (x2 : List D) (x3 : Int) (x4 : Int) : runLoop (ocOf [e_impl_next]) (olOf [m_impl_signedArea_L3 F]) A 97 (codeAt (bodyOf Go.Proofs.Try.f97) 3) ((m_impl_signedArea_L3 F).sh.mk' [.L x0, .I x1, .L x2, .I x3, .I x4]) (fun e σ' => some (e, σ')) = c_impl_signedArea_L3 F x0 x1 x2 x3 x4 (fun y => some (.exit 0, SSt.mk' ⟨[.undef, .undef, .undef, .int .i64, .undef, .undef, .undef, .undef, .undef, .undef, .undef, .undef, .undef, .undef, .undef, .undef, .undef, .undef, .undef, .undef, .undef, .undef, .undef, .undef, .undef, .undef, .undef, .undef, .undef, .undef, .undef, .undef], []⟩ [.I y])) := by kernel_rfl
theorem m_impl_signedArea_L3_ok : ∀ n, (m_impl_signedArea_L3 (n_impl_signedArea_L3 n)).ok Go.Proofs.Try.prog (codeAt (bodyOf Go.Proofs.Try.f97) 3) := by
  intro n
  induction n with
  | zero =>
    intro R ds k r h
    unfold m_impl_signedArea_L3 at h
    obtain ⟨x0, d0, rfl, h0⟩ := dL_some h
    obtain ⟨x1, d1, rfl, h1⟩ := dI_some h0
    obtain ⟨x2, d2, rfl, h2⟩ := dL_some h1
    obtain ⟨x3, d3, rfl, h3⟩ := dI_some h2
    obtain ⟨x4, d4, rfl, h4⟩ := dI_some h3
    obtain ⟨rfl, hE⟩ := dE_some h4
    obtain ⟨y, hy, hk⟩ := bnd_some hE
    cases hy
  | succ n ih =>
    intro R ds k r h
    unfold m_impl_signedArea_L3 at h
    obtain ⟨x0, d0, rfl, h0⟩ := dL_some h
    obtain ⟨x1, d1, rfl, h1⟩ := dI_some h0
    obtain ⟨x2, d2, rfl, h2⟩ := dL_some h1
    obtain ⟨x3, d3, rfl, h3⟩ := dI_some h2
    obtain ⟨x4, d4, rfl, h4⟩ := dI_some h3
    obtain ⟨rfl, hE⟩ := dE_some h4
    obtain ⟨y, hy, hk⟩ := bnd_some hE
    have hq := q_impl_signedArea_L3 (n_impl_signedArea_L3 n) x0 x1 x2 x3 x4
    rw [c_impl_signedArea_L3_bind] at hq
    rw [show c_impl_signedArea_L3 (n_impl_signedArea_L3 n) x0 x1 x2 x3 x4 some = some y from hy] at hq
    refine ⟨0, _, _, _, hk, rfl, loop_ok px (fx := ⟨Go.Proofs.Try.func97, by kernel_rfl, by kernel_rfl⟩) (entsOK_cons e_impl_next_ok entsOK_nil) (lentsOK_cons ih lentsOK_nil) (by kernel_rfl) ?_⟩
    exact hq
noncomputable def e_impl_signedArea_L3 : Lent := m_impl_signedArea_L3 impl_signedArea_L3
theorem e_impl_signedArea_L3_ok : e_impl_signedArea_L3.ok Go.Proofs.Try.prog (codeAt (bodyOf Go.Proofs.Try.f97) 3) := by
  intro R ds k r h
  unfold e_impl_signedArea_L3 m_impl_signedArea_L3 at h
  obtain ⟨x0, d0, rfl, h0⟩ := dL_some h
  obtain ⟨x1, d1, rfl, h1⟩ := dI_some h0
  obtain ⟨x2, d2, rfl, h2⟩ := dL_some h1
  obtain ⟨x3, d3, rfl, h3⟩ := dI_some h2
  obtain ⟨x4, d4, rfl, h4⟩ := dI_some h3
  obtain ⟨rfl, hE⟩ := dE_some h4
  obtain ⟨y, hy, hk⟩ := bnd_some hE
  obtain ⟨n, hn⟩ := ev_some hy
  exact m_impl_signedArea_L3_ok n R _ k r (show (n_impl_signedArea_L3 n x0 x1 x2 x3 x4).bind _ = _ by rw [hn]; exact hk)

/-! loop.example/g00876/impl.signedArea -/
def c_impl_signedArea {R : Type} (x0 : List D) (k : Int → Option R) : Option R :=
  (impl_signedArea_L3 x0 (0 : Int) x0 (↑x0.length : Int) (0 : Int)).bind (fun y0 =>
    k y0)
theorem c_impl_signedArea_bind {R : Type} (x0 : List D) (k : Int → Option R) : c_impl_signedArea x0 k = (c_impl_signedArea x0 some).bind k := by
  unfold c_impl_signedArea
  repeat' first
    | exact bnd_tail
    | exact bnd_none
    | exact bnd_leaf
    | apply bnd_ite
    | apply bnd_cond
    | apply bnd_sum
    | (apply bnd_bind; intro _)
    | intro _
def impl_signedArea (x0 : List D) : Option (Int) := c_impl_signedArea x0 some
def e_impl_signedArea : Ent := ⟨97, [.rd (.struct [.int .i64, .int .i64])], .int .i64, [.undef], fun _ ds k => dL (fun x0 ds => dE ((impl_signedArea x0).bind (fun y => k [.I y])) ds) ds⟩
theorem q_impl_signedArea (x0 : List D) : runFn (ocOf []) (olOf [e_impl_signedArea_L3]) A 97 Go.Proofs.Try.f97 (Sh.mks e_impl_signedArea.sh [.L x0]).1 (fun v os => some (v, os)) = c_impl_signedArea x0 (fun y => some ((e_impl_signedArea.res.mk [.I y]).1, (Sh.mks e_impl_signedArea.outs (e_impl_signedArea.res.mk [.I y]).2).1)) := by kernel_rfl
theorem e_impl_signedArea_ok : e_impl_signedArea.ok Go.Proofs.Try.prog A := by
  intro R ds k r h
  unfold e_impl_signedArea at h
  obtain ⟨x0, d0, rfl, h0⟩ := dL_some h
  obtain ⟨rfl, hE⟩ := dE_some h0
  obtain ⟨y, hy, hk⟩ := bnd_some hE
  refine ⟨_, hk, fn_ok px (fx := ⟨Go.Proofs.Try.func97, by kernel_rfl, by kernel_rfl⟩) entsOK_nil (lentsOK_cons e_impl_signedArea_L3_ok lentsOK_nil) ?_⟩
  have hq := q_impl_signedArea x0
  rw [c_impl_signedArea_bind] at hq
  rw [show c_impl_signedArea x0 some = some y from hy] at hq
  exact hq

/-! slices.Reverse[[]loop.example/g00876/impl.Corner,loop.example/g00876/impl.Corner], loop 1 -/
def c_slices_Reverse_L1 {R : Type} (F : Int → Int → List D → Option (List D)) (x0 : Int) (x1 : Int) (x2 : List D) (k : List D → Option R) : Option R :=
  bif Decidable.decide (x0 < x1) then
    if (0 : Int) ≤ x1 ∧ x1 < (↑x2.length : Int) then
      if x1.toNat + (1 : Nat) ≤ x2.length then
        if (0 : Int) ≤ x0 ∧ x0 < (↑x2.length : Int) then
          if x0.toNat + (1 : Nat) ≤ x2.length then
            if (0 : Int) ≤ x0 ∧ x0 < (↑x2.length : Int) then
              if x0.toNat + (1 : Nat) ≤ x2.length then
                if (0 : Int) ≤ x1 ∧ x1 < (↑(x2.set x0.toNat (Go.Rai.D.node [Go.Rai.D.int ((x2.getD x1.toNat (Go.Rai.D.int (0 : Int))).fld (0 : Nat)).toInt, Go.Rai.D.int ((x2.getD x1.toNat (Go.Rai.D.int (0 : Int))).fld (1 : Nat)).toInt])).length : Int) then
                  if x1.toNat + (1 : Nat) ≤ (x2.set x0.toNat (Go.Rai.D.node [Go.Rai.D.int ((x2.getD x1.toNat (Go.Rai.D.int (0 : Int))).fld (0 : Nat)).toInt, Go.Rai.D.int ((x2.getD x1.toNat (Go.Rai.D.int (0 : Int))).fld (1 : Nat)).toInt])).length then
                    (F (Go.IntKind.i64.wrap (x0 + (1 : Int))) (Go.IntKind.i64.wrap (x1 - (1 : Int))) ((x2.set x0.toNat (Go.Rai.D.node [Go.Rai.D.int ((x2.getD x1.toNat (Go.Rai.D.int (0 : Int))).fld (0 : Nat)).toInt, Go.Rai.D.int ((x2.getD x1.toNat (Go.Rai.D.int (0 : Int))).fld (1 : Nat)).toInt])).set x1.toNat (Go.Rai.D.node [Go.Rai.D.int ((x2.getD x0.toNat (Go.Rai.D.int (0 : Int))).fld (0 : Nat)).toInt, Go.Rai.D.int ((x2.getD x0.toNat (Go.Rai.D.int (0 : Int))).fld (1 : Nat)).toInt]))).bind k
                  else
                    none
                else
                  none
              else
                none
            else
              none
          else
            none
        else
          none
      else
        none
    else
      none
  else
    k x2
theorem c_slices_Reverse_L1_bind {R : Type} (F : Int → Int → List D → Option (List D)) (x0 : Int) (x1 : Int) (x2 : List D) (k : List D → Option R) : c_slices_Reverse_L1 F x0 x1 x2 k = (c_slices_Reverse_L1 F x0 x1 x2 some).bind k := by
  unfold c_slices_Reverse_L1
  repeat' first
    | exact bnd_tail
    | exact bnd_none
    | exact bnd_leaf
    | apply bnd_ite
    | apply bnd_cond
    | apply bnd_sum
    | (apply bnd_bind; intro _)
    | intro _
def n_slices_Reverse_L1 : Nat → Int → Int → List D → Option (List D)
  | 0, _, _, _ => none
  | n + 1, x0, x1, x2 => c_slices_Reverse_L1 (n_slices_Reverse_L1 n) x0 x1 x2 some
noncomputable def slices_Reverse_L1 (x0 : Int) (x1 : Int) (x2 : List D) : Option (List D) := ev (fun n => n_slices_Reverse_L1 n x0 x1 x2)
def m_slices_Reverse_L1 (F : Int → Int → List D → Option (List D)) : Lent := ⟨1, ⟨[.full 1000 [] (.struct [.int .i64, .int .i64]), .undef, .int .i64, .int .i64, .undef, .undef, .undef, .undef, .undef, .undef, .undef, .undef, .undef, .undef, .undef, .undef, .undef, .undef, .undef, .undef, .undef, .undef, .undef, .undef, .undef, .undef, .undef, .undef], [(1000, .own (.struct [.int .i64, .int .i64]))]⟩, [(.exit 0, ⟨[.full 1000 [] (.struct [.int .i64, .int .i64]), .undef, .undef, .undef, .undef, .undef, .undef, .undef, .undef, .undef, .undef, .undef, .undef, .undef, .undef, .undef, .undef, .undef, .undef, .undef, .undef, .undef, .undef, .undef, .undef, .undef, .undef, .undef], [(1000, .own (.struct [.int .i64, .int .i64]))]⟩)], fun _ ds k => dI (fun x0 ds => dI (fun x1 ds => dL (fun x2 ds => dE ((F x0 x1 x2).bind (fun y => k 0 [.L y])) ds) ds) ds) ds⟩
theorem q_slices_Reverse_L1 (F : Int → Int → List D → Option (List D)) (x0 : Int) (x1 : Int) (x2 : List D) : runLoop (ocOf []) (olOf [m_slices_Reverse_L1 F]) A 107 (codeAt (bodyOf Go.Proofs.Try.f107) 1) ((m_slices_Reverse_L1 F).sh.mk' [.I x0, .I x1, .L x2]) (fun e σ' => some (e, σ')) = c_slices_Reverse_L1 F x0 x1 x2 (fun y => some (.exit 0, SSt.mk' ⟨[.full 1000 [] (.struct [.int .i64, .int .i64]), .undef, .undef, .undef, .undef, .undef, .undef, .undef, .undef, .undef, .undef, .undef, .undef, .undef, .undef, .undef, .undef, .undef, .undef, .undef, .undef, .undef, .undef, .undef, .undef, .undef, .undef, .undef], [(1000, .own (.struct [.int .i64, .int .i64]))]⟩ [.L y])) := by kernel_rfl
theorem m_slices_Reverse_L1_ok : ∀ n, (m_slices_Reverse_L1 (n_slices_Reverse_L1 n)).ok Go.Proofs.Try.prog (codeAt (bodyOf Go.Proofs.Try.f107) 1) := by
  intro n
  induction n with
  | zero =>
    intro R ds k r h
    unfold m_slices_Reverse_L1 at h
    obtain ⟨x0, d0, rfl, h0⟩ := dI_some h
    obtain ⟨x1, d1, rfl, h1⟩ := dI_some h0
    obtain ⟨x2, d2, rfl, h2⟩ := dL_some h1
    obtain ⟨rfl, hE⟩ := dE_some h2
    obtain ⟨y, hy, hk⟩ := bnd_some hE
    cases hy
  | succ n ih =>
    intro R ds k r h
    unfold m_slices_Reverse_L1 at h
    obtain ⟨x0, d0, rfl, h0⟩ := dI_some h
    obtain ⟨x1, d1, rfl, h1⟩ := dI_some h0
    obtain ⟨x2, d2, rfl, h2⟩ := dL_some h1
    obtain ⟨rfl, hE⟩ := dE_some h2
    obtain ⟨y, hy, hk⟩ := bnd_some hE
    have hq := q_slices_Reverse_L1 (n_slices_Reverse_L1 n) x0 x1 x2
    rw [c_slices_Reverse_L1_bind] at hq
    rw [show c_slices_Reverse_L1 (n_slices_Reverse_L1 n) x0 x1 x2 some = some y from hy] at hq
    refine ⟨0, _, _, _, hk, rfl, loop_ok px (fx := ⟨Go.Proofs.Try.func107, by kernel_rfl, by kernel_rfl⟩) entsOK_nil (lentsOK_cons ih lentsOK_nil) (by kernel_rfl) ?_⟩
    exact hq
noncomputable def e_slices_Reverse_L1 : Lent := m_slices_Reverse_L1 slices_Reverse_L1
theorem e_slices_Reverse_L1_ok : e_slices_Reverse_L1.ok Go.Proofs.Try.prog (codeAt (bodyOf Go.Proofs.Try.f107) 1) := by
  intro R ds k r h
  unfold e_slices_Reverse_L1 m_slices_Reverse_L1 at h
  obtain ⟨x0, d0, rfl, h0⟩ := dI_some h
  obtain ⟨x1, d1, rfl, h1⟩ := dI_some h0
  obtain ⟨x2, d2, rfl, h2⟩ := dL_some h1
  obtain ⟨rfl, hE⟩ := dE_some h2
  obtain ⟨y, hy, hk⟩ := bnd_some hE
  obtain ⟨n, hn⟩ := ev_some hy
  exact m_slices_Reverse_L1_ok n R _ k r (show (n_slices_Reverse_L1 n x0 x1 x2).bind _ = _ by rw [hn]; exact hk)

/-! slices.Reverse[[]loop.example/g00876/impl.Corner,loop.example/g00876/impl.Corner] -/
def c_slices_Reverse {R : Type} (x0 : List D) (k : List D → Option R) : Option R :=
  (slices_Reverse_L1 (0 : Int) (Go.IntKind.i64.wrap ((↑x0.length : Int) - (1 : Int))) x0).bind (fun y0 =>
    k y0)
theorem c_slices_Reverse_bind {R : Type} (x0 : List D) (k : List D → Option R) : c_slices_Reverse x0 k = (c_slices_Reverse x0 some).bind k := by
  unfold c_slices_Reverse
  repeat' first
    | exact bnd_tail
    | exact bnd_none
    | exact bnd_leaf
    | apply bnd_ite
    | apply bnd_cond
    | apply bnd_sum
    | (apply bnd_bind; intro _)
    | intro _
def slices_Reverse (x0 : List D) : Option (List D) := c_slices_Reverse x0 some
def e_slices_Reverse : Ent := ⟨107, [.own (.struct [.int .i64, .int .i64])], .tup [], [.own (.struct [.int .i64, .int .i64])], fun _ ds k => dL (fun x0 ds => dE ((slices_Reverse x0).bind (fun y => k [.L y])) ds) ds⟩
theorem q_slices_Reverse (x0 : List D) : runFn (ocOf []) (olOf [e_slices_Reverse_L1]) A 107 Go.Proofs.Try.f107 (Sh.mks e_slices_Reverse.sh [.L x0]).1 (fun v os => some (v, os)) = c_slices_Reverse x0 (fun y => some ((e_slices_Reverse.res.mk [.L y]).1, (Sh.mks e_slices_Reverse.outs (e_slices_Reverse.res.mk [.L y]).2).1)) := by kernel_rfl
theorem e_slices_Reverse_ok : e_slices_Reverse.ok Go.Proofs.Try.prog A := by
  intro R ds k r h
  unfold e_slices_Reverse at h
  obtain ⟨x0, d0, rfl, h0⟩ := dL_some h
  obtain ⟨rfl, hE⟩ := dE_some h0
  obtain ⟨y, hy, hk⟩ := bnd_some hE
  refine ⟨_, hk, fn_ok px (fx := ⟨Go.Proofs.Try.func107, by kernel_rfl, by kernel_rfl⟩) entsOK_nil (lentsOK_cons e_slices_Reverse_L1_ok lentsOK_nil) ?_⟩
  have hq := q_slices_Reverse x0
  rw [c_slices_Reverse_bind] at hq
  rw [show c_slices_Reverse x0 some = some y from hy] at hq
  exact hq

/-! cmp.Or[int], loop 3 -/
def c_cmp_Or_L3 {R : Type} (F : Int → List D → Int → Int → Option ((Int × Int) ⊕ (Int))) (x0 : Int) (x1 : List D) (x2 : Int) (x3 : Int) (k : (Int × Int) ⊕ (Int) → Option R) : Option R :=
  bif Decidable.decide (x3 < x2) then
    if (0 : Int) ≤ x3 ∧ x3 < (↑x1.length : Int) then
      bif !Decidable.decide ((x1.getD x3.toNat (Go.Rai.D.int (0 : Int))).toInt = x0) then
        k (.inl ((x1.getD x3.toNat (Go.Rai.D.int (0 : Int))).toInt, x0))
      else
        (F x0 x1 x2 (Go.IntKind.i64.wrap (x3 + (1 : Int)))).bind k
    else
      none
  else
    k (.inr x0)
theorem c_cmp_Or_L3_bind {R : Type} (F : Int → List D → Int → Int → Option ((Int × Int) ⊕ (Int))) (x0 : Int) (x1 : List D) (x2 : Int) (x3 : Int) (k : (Int × Int) ⊕ (Int) → Option R) : c_cmp_Or_L3 F x0 x1 x2 x3 k = (c_cmp_Or_L3 F x0 x1 x2 x3 some).bind k := by
  unfold c_cmp_Or_L3
  repeat' first
    | exact bnd_tail
    | exact bnd_none
    | exact bnd_leaf
    | apply bnd_ite
    | apply bnd_cond
    | apply bnd_sum
    | (apply bnd_bind; intro _)
    | intro _
def n_cmp_Or_L3 : Nat → Int → List D → Int → Int → Option ((Int × Int) ⊕ (Int))
  | 0, _, _, _, _ => none
  | n + 1, x0, x1, x2, x3 => c_cmp_Or_L3 (n_cmp_Or_L3 n) x0 x1 x2 x3 some
noncomputable def cmp_Or_L3 (x0 : Int) (x1 : List D) (x2 : Int) (x3 : Int) : Option ((Int × Int) ⊕ (Int)) := ev (fun n => n_cmp_Or_L3 n x0 x1 x2 x3)
def m_cmp_Or_L3 (F : Int → List D → Int → Int → Option ((Int × Int) ⊕ (Int))) : Lent := ⟨3, ⟨[.undef, .undef, .undef, .int .i64, .undef, .undef, .rd (.int .i64), .int .i64, .int .i64, .undef, .undef, .undef, .undef, .undef, .undef, .undef, .undef, .undef], []⟩, [(.ret, ⟨[.undef, .undef, .int .i64, .int .i64, .undef, .undef, .undef, .undef, .undef, .undef, .undef, .undef, .undef, .undef, .undef, .undef, .undef, .undef], []⟩), (.exit 0, ⟨[.undef, .undef, .undef, .int .i64, .undef, .undef, .undef, .undef, .undef, .undef, .undef, .undef, .undef, .undef, .undef, .undef, .undef, .undef], []⟩)], fun _ ds k => dI (fun x0 ds => dL (fun x1 ds => dI (fun x2 ds => dI (fun x3 ds => dE ((F x0 x1 x2 x3).bind (Sum.elim (fun y => k 0 [.I y.1, .I y.2]) (fun y => k 1 [.I y]))) ds) ds) ds) ds) ds⟩
theorem q_cmp_Or_L3 (F : Int → List D → Int → Int → Option ((Int × Int) ⊕ (Int))) (x0 : Int) (x1 : List D) (x2 : Int) (x3 : Int) : runLoop (ocOf []) (olOf [m_cmp_Or_L3 F]) A 128 (codeAt (bodyOf Go.Proofs.Try.f128) 3) ((m_cmp_Or_L3 F).sh.mk' [.I x0, .L x1, .I x2, .I x3]) (fun e σ' => some (e, σ')) = c_cmp_Or_L3 F x0 x1 x2 x3 (Sum.elim (fun y => some (.ret, SSt.mk' ⟨[.undef, .undef, .int .i64, .int .i64, .undef, .undef, .undef, .undef, .undef, .undef, .undef, .undef, .undef, .undef, .undef, .undef, .undef, .undef], []⟩ [.I y.1, .I y.2])) (fun y => some (.exit 0, SSt.mk' ⟨[.undef, .undef, .undef, .int .i64, .undef, .undef, .undef, .undef, .undef, .undef, .undef, .undef, .undef, .undef, .undef, .undef, .undef, .undef], []⟩ [.I y]))) := by kernel_rfl
theorem m_cmp_Or_L3_ok : ∀ n, (m_cmp_Or_L3 (n_cmp_Or_L3 n)).ok Go.Proofs.Try.prog (codeAt (bodyOf Go.Proofs.Try.f128) 3) := by
  intro n
  induction n with
  | zero =>
    intro R ds k r h
    unfold m_cmp_Or_L3 at h
    obtain ⟨x0, d0, rfl, h0⟩ := dI_some h
    obtain ⟨x1, d1, rfl, h1⟩ := dL_some h0
    obtain ⟨x2, d2, rfl, h2⟩ := dI_some h1
    obtain ⟨x3, d3, rfl, h3⟩ := dI_some h2
    obtain ⟨rfl, hE⟩ := dE_some h3
    obtain ⟨y, hy, hk⟩ := bnd_some hE
    cases hy
  | succ n ih =>
    intro R ds k r h
    unfold m_cmp_Or_L3 at h
    obtain ⟨x0, d0, rfl, h0⟩ := dI_some h
    obtain ⟨x1, d1, rfl, h1⟩ := dL_some h0
    obtain ⟨x2, d2, rfl, h2⟩ := dI_some h1
    obtain ⟨x3, d3, rfl, h3⟩ := dI_some h2
    obtain ⟨rfl, hE⟩ := dE_some h3
    obtain ⟨y, hy, hk⟩ := bnd_some hE
    have hq := q_cmp_Or_L3 (n_cmp_Or_L3 n) x0 x1 x2 x3
    rw [c_cmp_Or_L3_bind] at hq
    rw [show c_cmp_Or_L3 (n_cmp_Or_L3 n) x0 x1 x2 x3 some = some y from hy] at hq
    cases y with
    | inl y =>
      refine ⟨0, _, _, _, hk, rfl, loop_ok px (fx := ⟨Go.Proofs.Try.func128, by kernel_rfl, by kernel_rfl⟩) entsOK_nil (lentsOK_cons ih lentsOK_nil) (by kernel_rfl) ?_⟩
      exact hq
    | inr y =>
      refine ⟨1, _, _, _, hk, rfl, loop_ok px (fx := ⟨Go.Proofs.Try.func128, by kernel_rfl, by kernel_rfl⟩) entsOK_nil (lentsOK_cons ih lentsOK_nil) (by kernel_rfl) ?_⟩
      exact hq
noncomputable def e_cmp_Or_L3 : Lent := m_cmp_Or_L3 cmp_Or_L3
theorem e_cmp_Or_L3_ok : e_cmp_Or_L3.ok Go.Proofs.Try.prog (codeAt (bodyOf Go.Proofs.Try.f128) 3) := by
  intro R ds k r h
  unfold e_cmp_Or_L3 m_cmp_Or_L3 at h
  obtain ⟨x0, d0, rfl, h0⟩ := dI_some h
  obtain ⟨x1, d1, rfl, h1⟩ := dL_some h0
  obtain ⟨x2, d2, rfl, h2⟩ := dI_some h1
  obtain ⟨x3, d3, rfl, h3⟩ := dI_some h2
  obtain ⟨rfl, hE⟩ := dE_some h3
  obtain ⟨y, hy, hk⟩ := bnd_some hE
  obtain ⟨n, hn⟩ := ev_some hy
  exact m_cmp_Or_L3_ok n R _ k r (show (n_cmp_Or_L3 n x0 x1 x2 x3).bind _ = _ by rw [hn]; exact hk)

/-! cmp.Or[int] -/
def c_cmp_Or {R : Type} (x0 : List D) (k : Int → Option R) : Option R :=
  (cmp_Or_L3 (0 : Int) x0 (↑x0.length : Int) (0 : Int)).bind (Sum.elim (fun y0 =>
    k y0.fst) (fun y1 =>
    k y1))
theorem c_cmp_Or_bind {R : Type} (x0 : List D) (k : Int → Option R) : c_cmp_Or x0 k = (c_cmp_Or x0 some).bind k := by
  unfold c_cmp_Or
  repeat' first
    | exact bnd_tail
    | exact bnd_none
    | exact bnd_leaf
    | apply bnd_ite
    | apply bnd_cond
    | apply bnd_sum
    | (apply bnd_bind; intro _)
    | intro _
def cmp_Or (x0 : List D) : Option (Int) := c_cmp_Or x0 some
def e_cmp_Or : Ent := ⟨128, [.rd (.int .i64)], .int .i64, [.undef], fun _ ds k => dL (fun x0 ds => dE ((cmp_Or x0).bind (fun y => k [.I y])) ds) ds⟩
theorem q_cmp_Or (x0 : List D) : runFn (ocOf []) (olOf [e_cmp_Or_L3]) A 128 Go.Proofs.Try.f128 (Sh.mks e_cmp_Or.sh [.L x0]).1 (fun v os => some (v, os)) = c_cmp_Or x0 (fun y => some ((e_cmp_Or.res.mk [.I y]).1, (Sh.mks e_cmp_Or.outs (e_cmp_Or.res.mk [.I y]).2).1)) := by kernel_rfl
theorem e_cmp_Or_ok : e_cmp_Or.ok Go.Proofs.Try.prog A := by
  intro R ds k r h
  unfold e_cmp_Or at h
  obtain ⟨x0, d0, rfl, h0⟩ := dL_some h
  obtain ⟨rfl, hE⟩ := dE_some h0
  obtain ⟨y, hy, hk⟩ := bnd_some hE
  refine ⟨_, hk, fn_ok px (fx := ⟨Go.Proofs.Try.func128, by kernel_rfl, by kernel_rfl⟩) entsOK_nil (lentsOK_cons e_cmp_Or_L3_ok lentsOK_nil) ?_⟩
  have hq := q_cmp_Or x0
  rw [c_cmp_Or_bind] at hq
  rw [show c_cmp_Or x0 some = some y from hy] at hq
  exact hq

/-! loop.example/g00876/impl.compareCorners -/
def c_impl_compareCorners {R : Type} (x0 : Int) (x1 : Int) (x2 : Int) (x3 : Int) (k : Int → Option R) : Option R :=
  (cmp_Compare x0 x2).bind (fun y0 =>
    (cmp_Compare x1 x3).bind (fun y1 =>
      (cmp_Or ([Go.Rai.D.int y0, Go.Rai.D.int y1])).bind (fun y2 =>
        k y2)))
theorem c_impl_compareCorners_bind {R : Type} (x0 : Int) (x1 : Int) (x2 : Int) (x3 : Int) (k : Int → Option R) : c_impl_compareCorners x0 x1 x2 x3 k = (c_impl_compareCorners x0 x1 x2 x3 some).bind k := by
  unfold c_impl_compareCorners
  repeat' first
    | exact bnd_tail
    | exact bnd_none
    | exact bnd_leaf
    | apply bnd_ite
    | apply bnd_cond
    | apply bnd_sum
    | (apply bnd_bind; intro _)
    | intro _
def impl_compareCorners (x0 : Int) (x1 : Int) (x2 : Int) (x3 : Int) : Option (Int) := c_impl_compareCorners x0 x1 x2 x3 some
def e_impl_compareCorners : Ent := ⟨110, [.agg [.int .i64, .int .i64], .agg [.int .i64, .int .i64]], .int .i64, [.undef, .undef], fun _ ds k => dI (fun x0 ds => dI (fun x1 ds => dI (fun x2 ds => dI (fun x3 ds => dE ((impl_compareCorners x0 x1 x2 x3).bind (fun y => k [.I y])) ds) ds) ds) ds) ds⟩
theorem q_impl_compareCorners (x0 : Int) (x1 : Int) (x2 : Int) (x3 : Int) : runFn (ocOf [e_cmp_Compare, e_cmp_Or]) (olOf []) A 110 Go.Proofs.Try.f110 (Sh.mks e_impl_compareCorners.sh [.I x0, .I x1, .I x2, .I x3]).1 (fun v os => some (v, os)) = c_impl_compareCorners x0 x1 x2 x3 (fun y => some ((e_impl_compareCorners.res.mk [.I y]).1, (Sh.mks e_impl_compareCorners.outs (e_impl_compareCorners.res.mk [.I y]).2).1)) := by kernel_rfl
theorem e_impl_compareCorners_ok : e_impl_compareCorners.ok Go.Proofs.Try.prog A := by
  intro R ds k r h
  unfold e_impl_compareCorners at h
  obtain ⟨x0, d0, rfl, h0⟩ := dI_some h
  obtain ⟨x1, d1, rfl, h1⟩ := dI_some h0
  obtain ⟨x2, d2, rfl, h2⟩ := dI_some h1
  obtain ⟨x3, d3, rfl, h3⟩ := dI_some h2
  obtain ⟨rfl, hE⟩ := dE_some h3
  obtain ⟨y, hy, hk⟩ := bnd_some hE
  refine ⟨_, hk, fn_ok px (fx := ⟨Go.Proofs.Try.func110, by kernel_rfl, by kernel_rfl⟩) (entsOK_cons e_cmp_Compare_ok (entsOK_cons e_cmp_Or_ok entsOK_nil)) lentsOK_nil ?_⟩
  have hq := q_impl_compareCorners x0 x1 x2 x3
  rw [c_impl_compareCorners_bind] at hq
  rw [show c_impl_compareCorners x0 x1 x2 x3 some = some y from hy] at hq
  exact hq

/-! slices.MinFunc[[]loop.example/g00876/impl.Corner,loop.example/g00876/impl.Corner], loop 5 -/
def c_slices_MinFunc_L5 {R : Type} (F : List D → Int → Int → Int → Int → Int → Option (Int × Int × Int × Int)) (x0 : List D) (x1 : Int) (x2 : Int) (x3 : Int) (x4 : Int) (x5 : Int) (k : Int × Int × Int × Int → Option R) : Option R :=
  bif Decidable.decide (x1 < (↑x0.length : Int)) then
    if (0 : Int) ≤ x1 ∧ x1 < (↑x0.length : Int) then
      (impl_compareCorners (((x0.getD x1.toNat (Go.Rai.D.int (0 : Int))).fld (0 : Nat)).toInt) (((x0.getD x1.toNat (Go.Rai.D.int (0 : Int))).fld (1 : Nat)).toInt) x4 x5).bind (fun y0 =>
        bif Decidable.decide (y0 < (0 : Int)) then
          if (0 : Int) ≤ x1 ∧ x1 < (↑x0.length : Int) then
            (F x0 (Go.IntKind.i64.wrap (x1 + (1 : Int))) x2 x3 (((x0.getD x1.toNat (Go.Rai.D.int (0 : Int))).fld (0 : Nat)).toInt) (((x0.getD x1.toNat (Go.Rai.D.int (0 : Int))).fld (1 : Nat)).toInt)).bind k
          else
            none
        else
          (F x0 (Go.IntKind.i64.wrap (x1 + (1 : Int))) x2 x3 x4 x5).bind k)
    else
      none
  else
    k (x2, x3, x4, x5)
theorem c_slices_MinFunc_L5_bind {R : Type} (F : List D → Int → Int → Int → Int → Int → Option (Int × Int × Int × Int)) (x0 : List D) (x1 : Int) (x2 : Int) (x3 : Int) (x4 : Int) (x5 : Int) (k : Int × Int × Int × Int → Option R) : c_slices_MinFunc_L5 F x0 x1 x2 x3 x4 x5 k = (c_slices_MinFunc_L5 F x0 x1 x2 x3 x4 x5 some).bind k := by
  unfold c_slices_MinFunc_L5
  repeat' first
    | exact bnd_tail
    | exact bnd_none
    | exact bnd_leaf
    | apply bnd_ite
    | apply bnd_cond
    | apply bnd_sum
    | (apply bnd_bind; intro _)
    | intro _
def n_slices_MinFunc_L5 : Nat → List D → Int → Int → Int → Int → Int → Option (Int × Int × Int × Int)
  | 0, _, _, _, _, _, _ => none
  | n + 1, x0, x1, x2, x3, x4, x5 => c_slices_MinFunc_L5 (n_slices_MinFunc_L5 n) x0 x1 x2 x3 x4 x5 some
noncomputable def slices_MinFunc_L5 (x0 : List D) (x1 : Int) (x2 : Int) (x3 : Int) (x4 : Int) (x5 : Int) : Option (Int × Int × Int × Int) := ev (fun n => n_slices_MinFunc_L5 n x0 x1 x2 x3 x4 x5)
def m_slices_MinFunc_L5 (F : List D → Int → Int → Int → Int → Int → Option (Int × Int × Int × Int)) : Lent := ⟨5, ⟨[.rd (.struct [.int .i64, .int .i64]), .fn 110 [], .undef, .undef, .ptr 1000 [0], .ptr 1001 [0], .int .i64, .undef, .undef, .undef, .undef, .undef, .undef, .undef, .undef, .undef, .undef, .undef, .undef, .undef, .undef, .undef, .undef, .undef, .undef, .undef, .undef, .undef, .undef, .undef, .undef, .undef, .undef], [(1000, .obox (.agg [.int .i64, .int .i64])), (1001, .obox (.agg [.int .i64, .int .i64]))]⟩, [(.exit 0, ⟨[.undef, .undef, .undef, .undef, .ptr 1000 [0], .ptr 1001 [0], .undef, .undef, .undef, .undef, .undef, .undef, .undef, .undef, .undef, .undef, .undef, .undef, .undef, .undef, .undef, .undef, .undef, .undef, .undef, .undef, .undef, .undef, .undef, .undef, .undef, .undef, .undef], [(1000, .obox (.agg [.int .i64, .int .i64])), (1001, .obox (.agg [.int .i64, .int .i64]))]⟩)], fun _ ds k => dL (fun x0 ds => dI (fun x1 ds => dI (fun x2 ds => dI (fun x3 ds => dI (fun x4 ds => dI (fun x5 ds => dE ((F x0 x1 x2 x3 x4 x5).bind (fun y => k 0 [.I y.1, .I y.2.1, .I y.2.2.1, .I y.2.2.2])) ds) ds) ds) ds) ds) ds) ds⟩
theorem q_slices_MinFunc_L5 (F : List D → Int → Int → Int → Int → Int → Option (Int × Int × Int × Int)) (x0 : List D) (x1 : Int) (x2 : Int) (x3 : Int) (x4 : Int) (x5 : Int) : runLoop (ocOf [e_impl_compareCorners]) (olOf [m_slices_MinFunc_L5 F]) A 109 (codeAt (bodyOf Go.Proofs.Try.f109) 5) ((m_slices_MinFunc_L5 F).sh.mk' [.L x0, .I x1, .I x2, .I x3, .I x4, .I x5]) (fun e σ' => some (e, σ')) = c_slices_MinFunc_L5 F x0 x1 x2 x3 x4 x5 (fun y => some (.exit 0, SSt.mk' ⟨[.undef, .undef, .undef, .undef, .ptr 1000 [0], .ptr 1001 [0], .undef, .undef, .undef, .undef, .undef, .undef, .undef, .undef, .undef, .undef, .undef, .undef, .undef, .undef, .undef, .undef, .undef, .undef, .undef, .undef, .undef, .undef, .undef, .undef, .undef, .undef, .undef], [(1000, .obox (.agg [.int .i64, .int .i64])), (1001, .obox (.agg [.int .i64, .int .i64]))]⟩ [.I y.1, .I y.2.1, .I y.2.2.1, .I y.2.2.2])) := by kernel_rfl
theorem m_slices_MinFunc_L5_ok : ∀ n, (m_slices_MinFunc_L5 (n_slices_MinFunc_L5 n)).ok Go.Proofs.Try.prog (codeAt (bodyOf Go.Proofs.Try.f109) 5) := by
  intro n
  induction n with
  | zero =>
    intro R ds k r h
    unfold m_slices_MinFunc_L5 at h
    obtain ⟨x0, d0, rfl, h0⟩ := dL_some h
    obtain ⟨x1, d1, rfl, h1⟩ := dI_some h0
    obtain ⟨x2, d2, rfl, h2⟩ := dI_some h1
    obtain ⟨x3, d3, rfl, h3⟩ := dI_some h2
    obtain ⟨x4, d4, rfl, h4⟩ := dI_some h3
    obtain ⟨x5, d5, rfl, h5⟩ := dI_some h4
    obtain ⟨rfl, hE⟩ := dE_some h5
    obtain ⟨y, hy, hk⟩ := bnd_some hE
    cases hy
  | succ n ih =>
    intro R ds k r h
    unfold m_slices_MinFunc_L5 at h
    obtain ⟨x0, d0, rfl, h0⟩ := dL_some h
    obtain ⟨x1, d1, rfl, h1⟩ := dI_some h0
    obtain ⟨x2, d2, rfl, h2⟩ := dI_some h1
    obtain ⟨x3, d3, rfl, h3⟩ := dI_some h2
    obtain ⟨x4, d4, rfl, h4⟩ := dI_some h3
    obtain ⟨x5, d5, rfl, h5⟩ := dI_some h4
    obtain ⟨rfl, hE⟩ := dE_some h5
    obtain ⟨y, hy, hk⟩ := bnd_some hE
    have hq := q_slices_MinFunc_L5 (n_slices_MinFunc_L5 n) x0 x1 x2 x3 x4 x5
    rw [c_slices_MinFunc_L5_bind] at hq
    rw [show c_slices_MinFunc_L5 (n_slices_MinFunc_L5 n) x0 x1 x2 x3 x4 x5 some = some y from hy] at hq
    refine ⟨0, _, _, _, hk, rfl, loop_ok px (fx := ⟨Go.Proofs.Try.func109, by kernel_rfl, by kernel_rfl⟩) (entsOK_cons e_impl_compareCorners_ok entsOK_nil) (lentsOK_cons ih lentsOK_nil) (by kernel_rfl) ?_⟩
    exact hq
noncomputable def e_slices_MinFunc_L5 : Lent := m_slices_MinFunc_L5 slices_MinFunc_L5
theorem e_slices_MinFunc_L5_ok : e_slices_MinFunc_L5.ok Go.Proofs.Try.prog (codeAt (bodyOf Go.Proofs.Try.f109) 5) := by
  intro R ds k r h
  unfold e_slices_MinFunc_L5 m_slices_MinFunc_L5 at h
  obtain ⟨x0, d0, rfl, h0⟩ := dL_some h
  obtain ⟨x1, d1, rfl, h1⟩ := dI_some h0
  obtain ⟨x2, d2, rfl, h2⟩ := dI_some h1
  obtain ⟨x3, d3, rfl, h3⟩ := dI_some h2
  obtain ⟨x4, d4, rfl, h4⟩ := dI_some h3
  obtain ⟨x5, d5, rfl, h5⟩ := dI_some h4
  obtain ⟨rfl, hE⟩ := dE_some h5
  obtain ⟨y, hy, hk⟩ := bnd_some hE
  obtain ⟨n, hn⟩ := ev_some hy
  exact m_slices_MinFunc_L5_ok n R _ k r (show (n_slices_MinFunc_L5 n x0 x1 x2 x3 x4 x5).bind _ = _ by rw [hn]; exact hk)

/-! slices.MinFunc[[]loop.example/g00876/impl.Corner,loop.example/g00876/impl.Corner] -/
def c_slices_MinFunc__impl_compareCorners {R : Type} (x0 : List D) (k : Int × Int → Option R) : Option R :=
  bif Decidable.decide ((↑x0.length : Int) < (1 : Int)) then
    none
  else
    if (0 : Int) ≤ (0 : Int) ∧ (0 : Int) < (↑x0.length : Int) then
      (slices_MinFunc_L5 x0 (1 : Int) (0 : Int) (0 : Int) (((x0.getD (Int.toNat (0 : Int)) (Go.Rai.D.int (0 : Int))).fld (0 : Nat)).toInt) (((x0.getD (Int.toNat (0 : Int)) (Go.Rai.D.int (0 : Int))).fld (1 : Nat)).toInt)).bind (fun y0 =>
        k (y0.snd.snd.fst, y0.snd.snd.snd))
    else
      none
theorem c_slices_MinFunc__impl_compareCorners_bind {R : Type} (x0 : List D) (k : Int × Int → Option R) : c_slices_MinFunc__impl_compareCorners x0 k = (c_slices_MinFunc__impl_compareCorners x0 some).bind k := by
  unfold c_slices_MinFunc__impl_compareCorners
  repeat' first
    | exact bnd_tail
    | exact bnd_none
    | exact bnd_leaf
    | apply bnd_ite
    | apply bnd_cond
    | apply bnd_sum
    | (apply bnd_bind; intro _)
    | intro _
def slices_MinFunc__impl_compareCorners (x0 : List D) : Option (Int × Int) := c_slices_MinFunc__impl_compareCorners x0 some
def e_slices_MinFunc__impl_compareCorners : Ent := ⟨109, [.rd (.struct [.int .i64, .int .i64]), .fn 110 []], .agg [.int .i64, .int .i64], [.undef, .undef], fun _ ds k => dL (fun x0 ds => dE ((slices_MinFunc__impl_compareCorners x0).bind (fun y => k [.I y.1, .I y.2])) ds) ds⟩
theorem q_slices_MinFunc__impl_compareCorners (x0 : List D) : runFn (ocOf []) (olOf [e_slices_MinFunc_L5]) A 109 Go.Proofs.Try.f109 (Sh.mks e_slices_MinFunc__impl_compareCorners.sh [.L x0]).1 (fun v os => some (v, os)) = c_slices_MinFunc__impl_compareCorners x0 (fun y => some ((e_slices_MinFunc__impl_compareCorners.res.mk [.I y.1, .I y.2]).1, (Sh.mks e_slices_MinFunc__impl_compareCorners.outs (e_slices_MinFunc__impl_compareCorners.res.mk [.I y.1, .I y.2]).2).1)) := by kernel_rfl
theorem e_slices_MinFunc__impl_compareCorners_ok : e_slices_MinFunc__impl_compareCorners.ok Go.Proofs.Try.prog A := by
  intro R ds k r h
  unfold e_slices_MinFunc__impl_compareCorners at h
  obtain ⟨x0, d0, rfl, h0⟩ := dL_some h
  obtain ⟨rfl, hE⟩ := dE_some h0
  obtain ⟨y, hy, hk⟩ := bnd_some hE
  refine ⟨_, hk, fn_ok px (fx := ⟨Go.Proofs.Try.func109, by kernel_rfl, by kernel_rfl⟩) entsOK_nil (lentsOK_cons e_slices_MinFunc_L5_ok lentsOK_nil) ?_⟩
  have hq := q_slices_MinFunc__impl_compareCorners x0
  rw [c_slices_MinFunc__impl_compareCorners_bind] at hq
  rw [show c_slices_MinFunc__impl_compareCorners x0 some = some y from hy] at hq
  exact hq

/-! slices.Index[[]loop.example/g00876/impl.Corner,loop.example/g00876/impl.Corner], loop 2 -/
def c_slices_Index_L2 {R : Type} (F : List D → Int → Int → Int → Int → Option ((Int) ⊕ (Unit))) (x0 : List D) (x1 : Int) (x2 : Int) (x3 : Int) (x4 : Int) (k : (Int) ⊕ (Unit) → Option R) : Option R :=
  bif Decidable.decide (x2 < x1) then
    if (0 : Int) ≤ x2 ∧ x2 < (↑x0.length : Int) then
      bif Decidable.decide (x3 = ((x0.getD x2.toNat (Go.Rai.D.int (0 : Int))).fld (0 : Nat)).toInt) && (Decidable.decide (x4 = ((x0.getD x2.toNat (Go.Rai.D.int (0 : Int))).fld (1 : Nat)).toInt) && Bool.true) then
        k (.inl x2)
      else
        (F x0 x1 (Go.IntKind.i64.wrap (x2 + (1 : Int))) x3 x4).bind k
    else
      none
  else
    k (.inr ())
theorem c_slices_Index_L2_bind {R : Type} (F : List D → Int → Int → Int → Int → Option ((Int) ⊕ (Unit))) (x0 : List D) (x1 : Int) (x2 : Int) (x3 : Int) (x4 : Int) (k : (Int) ⊕ (Unit) → Option R) : c_slices_Index_L2 F x0 x1 x2 x3 x4 k = (c_slices_Index_L2 F x0 x1 x2 x3 x4 some).bind k := by
  unfold c_slices_Index_L2
  repeat' first
    | exact bnd_tail
    | exact bnd_none
    | exact bnd_leaf
    | apply bnd_ite
    | apply bnd_cond
    | apply bnd_sum
    | (apply bnd_bind; intro _)
    | intro _
def n_slices_Index_L2 : Nat → List D → Int → Int → Int → Int → Option ((Int) ⊕ (Unit))
  | 0, _, _, _, _, _ => none
  | n + 1, x0, x1, x2, x3, x4 => c_slices_Index_L2 (n_slices_Index_L2 n) x0 x1 x2 x3 x4 some
noncomputable def slices_Index_L2 (x0 : List D) (x1 : Int) (x2 : Int) (x3 : Int) (x4 : Int) : Option ((Int) ⊕ (Unit)) := ev (fun n => n_slices_Index_L2 n x0 x1 x2 x3 x4)
def m_slices_Index_L2 (F : List D → Int → Int → Int → Int → Option ((Int) ⊕ (Unit))) : Lent := ⟨2, ⟨[.rd (.struct [.int .i64, .int .i64]), .undef, .undef, .ptr 1000 [0], .undef, .undef, .undef, .int .i64, .int .i64, .undef, .undef, .undef, .undef, .undef, .undef, .undef, .undef, .undef, .undef], [(1000, .obox (.agg [.int .i64, .int .i64]))]⟩, [(.ret, ⟨[.undef, .undef, .undef, .undef, .int .i64, .undef, .undef, .undef, .undef, .undef, .undef, .undef, .undef, .undef, .undef, .undef, .undef, .undef, .undef], []⟩), (.exit 0, ⟨[.undef, .undef, .undef, .undef, .undef, .undef, .undef, .undef, .undef, .undef, .undef, .undef, .undef, .undef, .undef, .undef, .undef, .undef, .undef], []⟩)], fun _ ds k => dL (fun x0 ds => dI (fun x1 ds => dI (fun x2 ds => dI (fun x3 ds => dI (fun x4 ds => dE ((F x0 x1 x2 x3 x4).bind (Sum.elim (fun y => k 0 [.I y]) (fun y => k 1 []))) ds) ds) ds) ds) ds) ds⟩
theorem q_slices_Index_L2 (F : List D → Int → Int → Int → Int → Option ((Int) ⊕ (Unit))) (x0 : List D) (x1 : Int) (x2 : Int) (x3 : Int) (x4 : Int) : runLoop (ocOf []) (olOf [m_slices_Index_L2 F]) A 108 (codeAt (bodyOf Go.Proofs.Try.f108) 2) ((m_slices_Index_L2 F).sh.mk' [.L x0, .I x1, .I x2, .I x3, .I x4]) (fun e σ' => some (e, σ')) = c_slices_Index_L2 F x0 x1 x2 x3 x4 (Sum.elim (fun y => some (.ret, SSt.mk' ⟨[.undef, .undef, .undef, .undef, .int .i64, .undef, .undef, .undef, .undef, .undef, .undef, .undef, .undef, .undef, .undef, .undef, .undef, .undef, .undef], []⟩ [.I y])) (fun y => some (.exit 0, SSt.mk' ⟨[.undef, .undef, .undef, .undef, .undef, .undef, .undef, .undef, .undef, .undef, .undef, .undef, .undef, .undef, .undef, .undef, .undef, .undef, .undef], []⟩ []))) := by kernel_rfl
theorem m_slices_Index_L2_ok : ∀ n, (m_slices_Index_L2 (n_slices_Index_L2 n)).ok Go.Proofs.Try.prog (codeAt (bodyOf Go.Proofs.Try.f108) 2) := by
  intro n
  induction n with
  | zero =>
    intro R ds k r h
    unfold m_slices_Index_L2 at h
    obtain ⟨x0, d0, rfl, h0⟩ := dL_some h
    obtain ⟨x1, d1, rfl, h1⟩ := dI_some h0
    obtain ⟨x2, d2, rfl, h2⟩ := dI_some h1
    obtain ⟨x3, d3, rfl, h3⟩ := dI_some h2
    obtain ⟨x4, d4, rfl, h4⟩ := dI_some h3
    obtain ⟨rfl, hE⟩ := dE_some h4
    obtain ⟨y, hy, hk⟩ := bnd_some hE
    cases hy
  | succ n ih =>
    intro R ds k r h
    unfold m_slices_Index_L2 at h
    obtain ⟨x0, d0, rfl, h0⟩ := dL_some h
    obtain ⟨x1, d1, rfl, h1⟩ := dI_some h0
    obtain ⟨x2, d2, rfl, h2⟩ := dI_some h1
    obtain ⟨x3, d3, rfl, h3⟩ := dI_some h2
    obtain ⟨x4, d4, rfl, h4⟩ := dI_some h3
    obtain ⟨rfl, hE⟩ := dE_some h4
    obtain ⟨y, hy, hk⟩ := bnd_some hE
    have hq := q_slices_Index_L2 (n_slices_Index_L2 n) x0 x1 x2 x3 x4
    rw [c_slices_Index_L2_bind] at hq
    rw [show c_slices_Index_L2 (n_slices_Index_L2 n) x0 x1 x2 x3 x4 some = some y from hy] at hq
    cases y with
    | inl y =>
      refine ⟨0, _, _, _, hk, rfl, loop_ok px (fx := ⟨Go.Proofs.Try.func108, by kernel_rfl, by kernel_rfl⟩) entsOK_nil (lentsOK_cons ih lentsOK_nil) (by kernel_rfl) ?_⟩
      exact hq
    | inr y =>
      refine ⟨1, _, _, _, hk, rfl, loop_ok px (fx := ⟨Go.Proofs.Try.func108, by kernel_rfl, by kernel_rfl⟩) entsOK_nil (lentsOK_cons ih lentsOK_nil) (by kernel_rfl) ?_⟩
      exact hq
noncomputable def e_slices_Index_L2 : Lent := m_slices_Index_L2 slices_Index_L2
theorem e_slices_Index_L2_ok : e_slices_Index_L2.ok Go.Proofs.Try.prog (codeAt (bodyOf Go.Proofs.Try.f108) 2) := by
  intro R ds k r h
  unfold e_slices_Index_L2 m_slices_Index_L2 at h
  obtain ⟨x0, d0, rfl, h0⟩ := dL_some h
  obtain ⟨x1, d1, rfl, h1⟩ := dI_some h0
  obtain ⟨x2, d2, rfl, h2⟩ := dI_some h1
  obtain ⟨x3, d3, rfl, h3⟩ := dI_some h2
  obtain ⟨x4, d4, rfl, h4⟩ := dI_some h3
  obtain ⟨rfl, hE⟩ := dE_some h4
  obtain ⟨y, hy, hk⟩ := bnd_some hE
  obtain ⟨n, hn⟩ := ev_some hy
  exact m_slices_Index_L2_ok n R _ k r (show (n_slices_Index_L2 n x0 x1 x2 x3 x4).bind _ = _ by rw [hn]; exact hk)

/-! slices.Index[[]loop.example/g00876/impl.Corner,loop.example/g00876/impl.Corner] -/
def c_slices_Index {R : Type} (x0 : List D) (x1 : Int) (x2 : Int) (k : Int → Option R) : Option R :=
  (slices_Index_L2 x0 (↑x0.length : Int) (0 : Int) x1 x2).bind (Sum.elim (fun y0 =>
    k y0) (fun y1 =>
    k (-1 : Int)))
theorem c_slices_Index_bind {R : Type} (x0 : List D) (x1 : Int) (x2 : Int) (k : Int → Option R) : c_slices_Index x0 x1 x2 k = (c_slices_Index x0 x1 x2 some).bind k := by
  unfold c_slices_Index
  repeat' first
    | exact bnd_tail
    | exact bnd_none
    | exact bnd_leaf
    | apply bnd_ite
    | apply bnd_cond
    | apply bnd_sum
    | (apply bnd_bind; intro _)
    | intro _
def slices_Index (x0 : List D) (x1 : Int) (x2 : Int) : Option (Int) := c_slices_Index x0 x1 x2 some
def e_slices_Index : Ent := ⟨108, [.rd (.struct [.int .i64, .int .i64]), .agg [.int .i64, .int .i64]], .int .i64, [.undef, .undef], fun _ ds k => dL (fun x0 ds => dI (fun x1 ds => dI (fun x2 ds => dE ((slices_Index x0 x1 x2).bind (fun y => k [.I y])) ds) ds) ds) ds⟩
theorem q_slices_Index (x0 : List D) (x1 : Int) (x2 : Int) : runFn (ocOf []) (olOf [e_slices_Index_L2]) A 108 Go.Proofs.Try.f108 (Sh.mks e_slices_Index.sh [.L x0, .I x1, .I x2]).1 (fun v os => some (v, os)) = c_slices_Index x0 x1 x2 (fun y => some ((e_slices_Index.res.mk [.I y]).1, (Sh.mks e_slices_Index.outs (e_slices_Index.res.mk [.I y]).2).1)) := by kernel_rfl
theorem e_slices_Index_ok : e_slices_Index.ok Go.Proofs.Try.prog A := by
  intro R ds k r h
  unfold e_slices_Index at h
  obtain ⟨x0, d0, rfl, h0⟩ := dL_some h
  obtain ⟨x1, d1, rfl, h1⟩ := dI_some h0
  obtain ⟨x2, d2, rfl, h2⟩ := dI_some h1
  obtain ⟨rfl, hE⟩ := dE_some h2
  obtain ⟨y, hy, hk⟩ := bnd_some hE
  refine ⟨_, hk, fn_ok px (fx := ⟨Go.Proofs.Try.func108, by kernel_rfl, by kernel_rfl⟩) entsOK_nil (lentsOK_cons e_slices_Index_L2_ok lentsOK_nil) ?_⟩
  have hq := q_slices_Index x0 x1 x2
  rw [c_slices_Index_bind] at hq
  rw [show c_slices_Index x0 x1 x2 some = some y from hy] at hq
  exact hq

/-! slices.Concat[[]loop.example/g00876/impl.Corner,loop.example/g00876/impl.Corner], loop 3 -/
def c_slices_Concat_L3 {R : Type} (F : List D → Int → List D → Int → Int → Option (List D × Int)) (x0 : List D) (x1 : Int) (x2 : List D) (x3 : Int) (x4 : Int) (k : List D × Int → Option R) : Option R :=
  bif Decidable.decide (x4 < x3) then
    if (0 : Int) ≤ x4 ∧ x4 < (↑x2.length : Int) then
      bif Decidable.decide (Go.IntKind.i64.wrap (x1 + (↑(x2.getD x4.toNat (Go.Rai.D.int (0 : Int))).items.length : Int)) < (0 : Int)) then
        none
      else
        (F x0 (Go.IntKind.i64.wrap (x1 + (↑(x2.getD x4.toNat (Go.Rai.D.int (0 : Int))).items.length : Int))) x2 x3 (Go.IntKind.i64.wrap (x4 + (1 : Int)))).bind k
    else
      none
  else
    k (x0, x1)
theorem c_slices_Concat_L3_bind {R : Type} (F : List D → Int → List D → Int → Int → Option (List D × Int)) (x0 : List D) (x1 : Int) (x2 : List D) (x3 : Int) (x4 : Int) (k : List D × Int → Option R) : c_slices_Concat_L3 F x0 x1 x2 x3 x4 k = (c_slices_Concat_L3 F x0 x1 x2 x3 x4 some).bind k := by
  unfold c_slices_Concat_L3
  repeat' first
    | exact bnd_tail
    | exact bnd_none
    | exact bnd_leaf
    | apply bnd_ite
    | apply bnd_cond
    | apply bnd_sum
    | (apply bnd_bind; intro _)
    | intro _
def n_slices_Concat_L3 : Nat → List D → Int → List D → Int → Int → Option (List D × Int)
  | 0, _, _, _, _, _ => none
  | n + 1, x0, x1, x2, x3, x4 => c_slices_Concat_L3 (n_slices_Concat_L3 n) x0 x1 x2 x3 x4 some
noncomputable def slices_Concat_L3 (x0 : List D) (x1 : Int) (x2 : List D) (x3 : Int) (x4 : Int) : Option (List D × Int) := ev (fun n => n_slices_Concat_L3 n x0 x1 x2 x3 x4)
def m_slices_Concat_L3 (F : List D → Int → List D → Int → Int → Option (List D × Int)) : Lent := ⟨3, ⟨[.rd (.slice (.struct [.int .i64, .int .i64])), .undef, .undef, .int .i64, .undef, .undef, .undef, .undef, .undef, .rd (.slice (.struct [.int .i64, .int .i64])), .int .i64, .int .i64, .undef, .undef, .undef, .undef, .undef, .undef, .undef, .undef, .undef, .undef, .undef, .undef, .undef, .undef, .undef, .undef, .undef, .undef, .undef, .undef, .undef, .undef, .undef, .undef], []⟩, [(.exit 0, ⟨[.rd (.slice (.struct [.int .i64, .int .i64])), .undef, .undef, .int .i64, .undef, .undef, .undef, .undef, .undef, .undef, .undef, .undef, .undef, .undef, .undef, .undef, .undef, .undef, .undef, .undef, .undef, .undef, .undef, .undef, .undef, .undef, .undef, .undef, .undef, .undef, .undef, .undef, .undef, .undef, .undef, .undef], []⟩)], fun _ ds k => dL (fun x0 ds => dI (fun x1 ds => dL (fun x2 ds => dI (fun x3 ds => dI (fun x4 ds => dE ((F x0 x1 x2 x3 x4).bind (fun y => k 0 [.L y.1, .I y.2])) ds) ds) ds) ds) ds) ds⟩
theorem q_slices_Concat_L3 (F : List D → Int → List D → Int → Int → Option (List D × Int)) (x0 : List D) (x1 : Int) (x2 : List D) (x3 : Int) (x4 : Int) : runLoop (ocOf []) (olOf [m_slices_Concat_L3 F]) A 111 (codeAt (bodyOf Go.Proofs.Try.f111) 3) ((m_slices_Concat_L3 F).sh.mk' [.L x0, .I x1, .L x2, .I x3, .I x4]) (fun e σ' => some (e, σ')) = c_slices_Concat_L3 F x0 x1 x2 x3 x4 (fun y => some (.exit 0, SSt.mk' ⟨[.rd (.slice (.struct [.int .i64, .int .i64])), .undef, .undef, .int .i64, .undef, .undef, .undef, .undef, .undef, .undef, .undef, .undef, .undef, .undef, .undef, .undef, .undef, .undef, .undef, .undef, .undef, .undef, .undef, .undef, .undef, .undef, .undef, .undef, .undef, .undef, .undef, .undef, .undef, .undef, .undef, .undef], []⟩ [.L y.1, .I y.2])) := by kernel_rfl
theorem m_slices_Concat_L3_ok : ∀ n, (m_slices_Concat_L3 (n_slices_Concat_L3 n)).ok Go.Proofs.Try.prog (codeAt (bodyOf Go.Proofs.Try.f111) 3) := by
  intro n
  induction n with
  | zero =>
    intro R ds k r h
    unfold m_slices_Concat_L3 at h
    obtain ⟨x0, d0, rfl, h0⟩ := dL_some h
    obtain ⟨x1, d1, rfl, h1⟩ := dI_some h0
    obtain ⟨x2, d2, rfl, h2⟩ := dL_some h1
    obtain ⟨x3, d3, rfl, h3⟩ := dI_some h2
    obtain ⟨x4, d4, rfl, h4⟩ := dI_some h3
    obtain ⟨rfl, hE⟩ := dE_some h4
    obtain ⟨y, hy, hk⟩ := bnd_some hE
    cases hy
  | succ n ih =>
    intro R ds k r h
    unfold m_slices_Concat_L3 at h
    obtain ⟨x0, d0, rfl, h0⟩ := dL_some h
    obtain ⟨x1, d1, rfl, h1⟩ := dI_some h0
    obtain ⟨x2, d2, rfl, h2⟩ := dL_some h1
    obtain ⟨x3, d3, rfl, h3⟩ := dI_some h2
    obtain ⟨x4, d4, rfl, h4⟩ := dI_some h3
    obtain ⟨rfl, hE⟩ := dE_some h4
    obtain ⟨y, hy, hk⟩ := bnd_some hE
    have hq := q_slices_Concat_L3 (n_slices_Concat_L3 n) x0 x1 x2 x3 x4
    rw [c_slices_Concat_L3_bind] at hq
    rw [show c_slices_Concat_L3 (n_slices_Concat_L3 n) x0 x1 x2 x3 x4 some = some y from hy] at hq
    refine ⟨0, _, _, _, hk, rfl, loop_ok px (fx := ⟨Go.Proofs.Try.func111, by kernel_rfl, by kernel_rfl⟩) entsOK_nil (lentsOK_cons ih lentsOK_nil) (by kernel_rfl) ?_⟩
    exact hq
noncomputable def e_slices_Concat_L3 : Lent := m_slices_Concat_L3 slices_Concat_L3
theorem e_slices_Concat_L3_ok : e_slices_Concat_L3.ok Go.Proofs.Try.prog (codeAt (bodyOf Go.Proofs.Try.f111) 3) := by
  intro R ds k r h
  unfold e_slices_Concat_L3 m_slices_Concat_L3 at h
  obtain ⟨x0, d0, rfl, h0⟩ := dL_some h
  obtain ⟨x1, d1, rfl, h1⟩ := dI_some h0
  obtain ⟨x2, d2, rfl, h2⟩ := dL_some h1
  obtain ⟨x3, d3, rfl, h3⟩ := dI_some h2
  obtain ⟨x4, d4, rfl, h4⟩ := dI_some h3
  obtain ⟨rfl, hE⟩ := dE_some h4
  obtain ⟨y, hy, hk⟩ := bnd_some hE
  obtain ⟨n, hn⟩ := ev_some hy
  exact m_slices_Concat_L3_ok n R _ k r (show (n_slices_Concat_L3 n x0 x1 x2 x3 x4).bind _ = _ by rw [hn]; exact hk)

/-! slices.Grow[[]loop.example/g00876/impl.Corner,loop.example/g00876/impl.Corner] -/
def c_slices_Grow {R : Type} (x0 : Int) (k : List D → Option R) : Option R :=
  bif Decidable.decide (x0 < (0 : Int)) then
    none
  else
    bif Decidable.decide ((0 : Int) < Go.IntKind.i64.wrap (x0 - Go.IntKind.i64.wrap ((0 : Int) - (0 : Int)))) then
      if (0 : Int) ≤ (0 : Int) ∧ (0 : Int) ≤ (0 : Int) ∧ (0 : Int) ≤ (↑(0 : Nat) : Int) then
        if (0 : Int) ≤ Go.IntKind.i64.wrap (x0 - Go.IntKind.i64.wrap ((0 : Int) - (0 : Int))) ∧ Go.IntKind.i64.wrap (x0 - Go.IntKind.i64.wrap ((0 : Int) - (0 : Int))) ≤ Go.IntKind.i64.wrap (x0 - Go.IntKind.i64.wrap ((0 : Int) - (0 : Int))) ∧ Go.IntKind.i64.wrap (x0 - Go.IntKind.i64.wrap ((0 : Int) - (0 : Int))) ≤ (4294967296 : Int) then
          if (0 : Int) ≤ (0 : Int) ∧ (0 : Int) ≤ (0 : Int) ∧ (0 : Int) ≤ (↑(List.replicate (Go.IntKind.i64.wrap (x0 - Go.IntKind.i64.wrap ((0 : Int) - (0 : Int)))).toNat (Go.Rai.D.node [Go.Rai.D.int (0 : Int), Go.Rai.D.int (0 : Int)])).length : Int) then
            if (0 : Nat) + (Int.toNat (0 : Int) - (0 : Nat)) ≤ (List.replicate (Go.IntKind.i64.wrap (x0 - Go.IntKind.i64.wrap ((0 : Int) - (0 : Int)))).toNat (Go.Rai.D.node [Go.Rai.D.int (0 : Int), Go.Rai.D.int (0 : Int)])).length then
              k (List.take (Int.toNat (0 : Int) - (0 : Nat)) (List.drop (0 : Nat) (List.replicate (Go.IntKind.i64.wrap (x0 - Go.IntKind.i64.wrap ((0 : Int) - (0 : Int)))).toNat (Go.Rai.D.node [Go.Rai.D.int (0 : Int), Go.Rai.D.int (0 : Int)]))))
            else
              none
          else
            none
        else
          none
      else
        none
    else
      k []
theorem c_slices_Grow_bind {R : Type} (x0 : Int) (k : List D → Option R) : c_slices_Grow x0 k = (c_slices_Grow x0 some).bind k := by
  unfold c_slices_Grow
  repeat' first
    | exact bnd_tail
    | exact bnd_none
    | exact bnd_leaf
    | apply bnd_ite
    | apply bnd_cond
    | apply bnd_sum
    | (apply bnd_bind; intro _)
    | intro _
def slices_Grow (x0 : Int) : Option (List D) := c_slices_Grow x0 some
def e_slices_Grow : Ent := ⟨130, [.nilsl, .int .i64], .own (.struct [.int .i64, .int .i64]), [.undef, .undef], fun _ ds k => dI (fun x0 ds => dE ((slices_Grow x0).bind (fun y => k [.L y])) ds) ds⟩
theorem q_slices_Grow (x0 : Int) : runFn (ocOf []) (olOf []) A 130 Go.Proofs.Try.f130 (Sh.mks e_slices_Grow.sh [.I x0]).1 (fun v os => some (v, os)) = c_slices_Grow x0 (fun y => some ((e_slices_Grow.res.mk [.L y]).1, (Sh.mks e_slices_Grow.outs (e_slices_Grow.res.mk [.L y]).2).1)) := by kernel_rfl
theorem e_slices_Grow_ok : e_slices_Grow.ok Go.Proofs.Try.prog A := by
  intro R ds k r h
  unfold e_slices_Grow at h
  obtain ⟨x0, d0, rfl, h0⟩ := dI_some h
  obtain ⟨rfl, hE⟩ := dE_some h0
  obtain ⟨y, hy, hk⟩ := bnd_some hE
  refine ⟨_, hk, fn_ok px (fx := ⟨Go.Proofs.Try.func130, by kernel_rfl, by kernel_rfl⟩) entsOK_nil lentsOK_nil ?_⟩
  have hq := q_slices_Grow x0
  rw [c_slices_Grow_bind] at hq
  rw [show c_slices_Grow x0 some = some y from hy] at hq
  exact hq

/-! slices.Concat[[]loop.example/g00876/impl.Corner,loop.example/g00876/impl.Corner], loop 11 -/
def c_slices_Concat_L11 {R : Type} (F : List D → Int → Int → List D → Option (List D)) (x0 : List D) (x1 : Int) (x2 : Int) (x3 : List D) (k : List D → Option R) : Option R :=
  bif Decidable.decide (x2 < x1) then
    if (0 : Int) ≤ x2 ∧ x2 < (↑x0.length : Int) then
      if x3.length + (x0.getD x2.toNat (Go.Rai.D.int (0 : Int))).items.length ≤ (4294967296 : Nat) then
        (F x0 x1 (Go.IntKind.i64.wrap (x2 + (1 : Int))) (x3 ++ (x0.getD x2.toNat (Go.Rai.D.int (0 : Int))).items)).bind k
      else
        none
    else
      none
  else
    k x3
theorem c_slices_Concat_L11_bind {R : Type} (F : List D → Int → Int → List D → Option (List D)) (x0 : List D) (x1 : Int) (x2 : Int) (x3 : List D) (k : List D → Option R) : c_slices_Concat_L11 F x0 x1 x2 x3 k = (c_slices_Concat_L11 F x0 x1 x2 x3 some).bind k := by
  unfold c_slices_Concat_L11
  repeat' first
    | exact bnd_tail
    | exact bnd_none
    | exact bnd_leaf
    | apply bnd_ite
    | apply bnd_cond
    | apply bnd_sum
    | (apply bnd_bind; intro _)
    | intro _
def n_slices_Concat_L11 : Nat → List D → Int → Int → List D → Option (List D)
  | 0, _, _, _, _ => none
  | n + 1, x0, x1, x2, x3 => c_slices_Concat_L11 (n_slices_Concat_L11 n) x0 x1 x2 x3 some
noncomputable def slices_Concat_L11 (x0 : List D) (x1 : Int) (x2 : Int) (x3 : List D) : Option (List D) := ev (fun n => n_slices_Concat_L11 n x0 x1 x2 x3)
def m_slices_Concat_L11 (F : List D → Int → Int → List D → Option (List D)) : Lent := ⟨11, ⟨[.undef, .undef, .undef, .undef, .undef, .undef, .full 1000 [] (.struct [.int .i64, .int .i64]), .undef, .undef, .undef, .undef, .undef, .undef, .undef, .undef, .undef, .undef, .undef, .undef, .undef, .undef, .undef, .undef, .undef, .undef, .rd (.slice (.struct [.int .i64, .int .i64])), .int .i64, .int .i64, .undef, .undef, .undef, .undef, .undef, .undef, .undef, .undef], [(1000, .own (.struct [.int .i64, .int .i64]))]⟩, [(.exit 2, ⟨[.undef, .undef, .undef, .undef, .undef, .undef, .full 1000 [] (.struct [.int .i64, .int .i64]), .undef, .undef, .undef, .undef, .undef, .undef, .undef, .undef, .undef, .undef, .undef, .undef, .undef, .undef, .undef, .undef, .undef, .undef, .undef, .undef, .undef, .undef, .undef, .undef, .undef, .undef, .undef, .undef, .undef], [(1000, .own (.struct [.int .i64, .int .i64]))]⟩)], fun _ ds k => dL (fun x0 ds => dI (fun x1 ds => dI (fun x2 ds => dL (fun x3 ds => dE ((F x0 x1 x2 x3).bind (fun y => k 0 [.L y])) ds) ds) ds) ds) ds⟩
theorem q_slices_Concat_L11 (F : List D → Int → Int → List D → Option (List D)) (x0 : List D) (x1 : Int) (x2 : Int) (x3 : List D) : runLoop (ocOf []) (olOf [m_slices_Concat_L11 F]) A 111 (codeAt (bodyOf Go.Proofs.Try.f111) 11) ((m_slices_Concat_L11 F).sh.mk' [.L x0, .I x1, .I x2, .L x3]) (fun e σ' => some (e, σ')) = c_slices_Concat_L11 F x0 x1 x2 x3 (fun y => some (.exit 2, SSt.mk' ⟨[.undef, .undef, .undef, .undef, .undef, .undef, .full 1000 [] (.struct [.int .i64, .int .i64]), .undef, .undef, .undef, .undef, .undef, .undef, .undef, .undef, .undef, .undef, .undef, .undef, .undef, .undef, .undef, .undef, .undef, .undef, .undef, .undef, .undef, .undef, .undef, .undef, .undef, .undef, .undef, .undef, .undef], [(1000, .own (.struct [.int .i64, .int .i64]))]⟩ [.L y])) := by kernel_rfl
theorem m_slices_Concat_L11_ok : ∀ n, (m_slices_Concat_L11 (n_slices_Concat_L11 n)).ok Go.Proofs.Try.prog (codeAt (bodyOf Go.Proofs.Try.f111) 11) := by
  intro n
  induction n with
  | zero =>
    intro R ds k r h
    unfold m_slices_Concat_L11 at h
    obtain ⟨x0, d0, rfl, h0⟩ := dL_some h
    obtain ⟨x1, d1, rfl, h1⟩ := dI_some h0
    obtain ⟨x2, d2, rfl, h2⟩ := dI_some h1
    obtain ⟨x3, d3, rfl, h3⟩ := dL_some h2
    obtain ⟨rfl, hE⟩ := dE_some h3
    obtain ⟨y, hy, hk⟩ := bnd_some hE
    cases hy
  | succ n ih =>
    intro R ds k r h
    unfold m_slices_Concat_L11 at h
    obtain ⟨x0, d0, rfl, h0⟩ := dL_some h
    obtain ⟨x1, d1, rfl, h1⟩ := dI_some h0
    obtain ⟨x2, d2, rfl, h2⟩ := dI_some h1
    obtain ⟨x3, d3, rfl, h3⟩ := dL_some h2
    obtain ⟨rfl, hE⟩ := dE_some h3
    obtain ⟨y, hy, hk⟩ := bnd_some hE
    have hq := q_slices_Concat_L11 (n_slices_Concat_L11 n) x0 x1 x2 x3
    rw [c_slices_Concat_L11_bind] at hq
    rw [show c_slices_Concat_L11 (n_slices_Concat_L11 n) x0 x1 x2 x3 some = some y from hy] at hq
    refine ⟨0, _, _, _, hk, rfl, loop_ok px (fx := ⟨Go.Proofs.Try.func111, by kernel_rfl, by kernel_rfl⟩) entsOK_nil (lentsOK_cons ih lentsOK_nil) (by kernel_rfl) ?_⟩
    exact hq
noncomputable def e_slices_Concat_L11 : Lent := m_slices_Concat_L11 slices_Concat_L11
theorem e_slices_Concat_L11_ok : e_slices_Concat_L11.ok Go.Proofs.Try.prog (codeAt (bodyOf Go.Proofs.Try.f111) 11) := by
  intro R ds k r h
  unfold e_slices_Concat_L11 m_slices_Concat_L11 at h
  obtain ⟨x0, d0, rfl, h0⟩ := dL_some h
  obtain ⟨x1, d1, rfl, h1⟩ := dI_some h0
  obtain ⟨x2, d2, rfl, h2⟩ := dI_some h1
  obtain ⟨x3, d3, rfl, h3⟩ := dL_some h2
  obtain ⟨rfl, hE⟩ := dE_some h3
  obtain ⟨y, hy, hk⟩ := bnd_some hE
  obtain ⟨n, hn⟩ := ev_some hy
  exact m_slices_Concat_L11_ok n R _ k r (show (n_slices_Concat_L11 n x0 x1 x2 x3).bind _ = _ by rw [hn]; exact hk)

/-! slices.Concat[[]loop.example/g00876/impl.Corner,loop.example/g00876/impl.Corner] -/
def c_slices_Concat {R : Type} (x0 : List D) (k : List D → Option R) : Option R :=
  (slices_Concat_L3 x0 (0 : Int) x0 (↑x0.length : Int) (0 : Int)).bind (fun y0 =>
    (slices_Grow y0.snd).bind (fun y1 =>
      (slices_Concat_L11 y0.fst (↑y0.fst.length : Int) (0 : Int) y1).bind (fun y2 =>
        k y2)))
theorem c_slices_Concat_bind {R : Type} (x0 : List D) (k : List D → Option R) : c_slices_Concat x0 k = (c_slices_Concat x0 some).bind k := by
  unfold c_slices_Concat
  repeat' first
    | exact bnd_tail
    | exact bnd_none
    | exact bnd_leaf
    | apply bnd_ite
    | apply bnd_cond
    | apply bnd_sum
    | (apply bnd_bind; intro _)
    | intro _
def slices_Concat (x0 : List D) : Option (List D) := c_slices_Concat x0 some
def e_slices_Concat : Ent := ⟨111, [.rd (.slice (.struct [.int .i64, .int .i64]))], .own (.struct [.int .i64, .int .i64]), [.undef], fun _ ds k => dL (fun x0 ds => dE ((slices_Concat x0).bind (fun y => k [.L y])) ds) ds⟩
theorem q_slices_Concat (x0 : List D) : runFn (ocOf [e_slices_Grow]) (olOf [e_slices_Concat_L3, e_slices_Concat_L11]) A 111 Go.Proofs.Try.f111 (Sh.mks e_slices_Concat.sh [.L x0]).1 (fun v os => some (v, os)) = c_slices_Concat x0 (fun y => some ((e_slices_Concat.res.mk [.L y]).1, (Sh.mks e_slices_Concat.outs (e_slices_Concat.res.mk [.L y]).2).1)) := by kernel_rfl
theorem e_slices_Concat_ok : e_slices_Concat.ok Go.Proofs.Try.prog A := by
  intro R ds k r h
  unfold e_slices_Concat at h
  obtain ⟨x0, d0, rfl, h0⟩ := dL_some h
  obtain ⟨rfl, hE⟩ := dE_some h0
  obtain ⟨y, hy, hk⟩ := bnd_some hE
  refine ⟨_, hk, fn_ok px (fx := ⟨Go.Proofs.Try.func111, by kernel_rfl, by kernel_rfl⟩) (entsOK_cons e_slices_Grow_ok entsOK_nil) (lentsOK_cons e_slices_Concat_L3_ok (lentsOK_cons e_slices_Concat_L11_ok lentsOK_nil)) ?_⟩
  have hq := q_slices_Concat x0
  rw [c_slices_Concat_bind] at hq
  rw [show c_slices_Concat x0 some = some y from hy] at hq
  exact hq

/-! loop.example/g00876/impl.NormalForm -/
def c_impl_NormalForm {R : Type} (x0 : List D) (k : List D × Bool → Option R) : Option R :=
  (impl_IsValidPolygon x0).bind (fun y0 =>
    bif !y0 then
      k ([], Bool.false)
    else
      (slices_Clone x0).bind (fun y1 =>
        (impl_signedArea x0).bind (fun y2 =>
          bif Decidable.decide (y2 < (0 : Int)) then
            (slices_Reverse y1).bind (fun y3 =>
              (slices_MinFunc__impl_compareCorners y3).bind (fun y4 =>
                (slices_Index y3 y4.fst y4.snd).bind (fun y5 =>
                  if (0 : Int) ≤ y5 ∧ y5 ≤ (↑y3.length : Int) ∧ (↑y3.length : Int) ≤ (↑y3.length : Int) then
                    if (0 : Int) ≤ (0 : Int) ∧ (0 : Int) ≤ y5 ∧ y5 ≤ (↑y3.length : Int) then
                      if y5.toNat + (y3.length - y5.toNat) ≤ y3.length then
                        if (0 : Nat) + (y5.toNat - (0 : Nat)) ≤ y3.length then
                          (slices_Concat ([Go.Rai.D.node (List.take (y3.length - y5.toNat) (List.drop y5.toNat y3)), Go.Rai.D.node (List.take (y5.toNat - (0 : Nat)) (List.drop (0 : Nat) y3))])).bind (fun y6 =>
                            k (y6, Bool.true))
                        else
                          none
                      else
                        none
                    else
                      none
                  else
                    none)))
          else
            (slices_MinFunc__impl_compareCorners y1).bind (fun y7 =>
              (slices_Index y1 y7.fst y7.snd).bind (fun y8 =>
                if (0 : Int) ≤ y8 ∧ y8 ≤ (↑y1.length : Int) ∧ (↑y1.length : Int) ≤ (↑y1.length : Int) then
                  if (0 : Int) ≤ (0 : Int) ∧ (0 : Int) ≤ y8 ∧ y8 ≤ (↑y1.length : Int) then
                    if y8.toNat + (y1.length - y8.toNat) ≤ y1.length then
                      if (0 : Nat) + (y8.toNat - (0 : Nat)) ≤ y1.length then
                        (slices_Concat ([Go.Rai.D.node (List.take (y1.length - y8.toNat) (List.drop y8.toNat y1)), Go.Rai.D.node (List.take (y8.toNat - (0 : Nat)) (List.drop (0 : Nat) y1))])).bind (fun y9 =>
                          k (y9, Bool.true))
                      else
                        none
                    else
                      none
                  else
                    none
                else
                  none)))))
theorem c_impl_NormalForm_bind {R : Type} (x0 : List D) (k : List D × Bool → Option R) : c_impl_NormalForm x0 k = (c_impl_NormalForm x0 some).bind k := by
  unfold c_impl_NormalForm
  repeat' first
    | exact bnd_tail
    | exact bnd_none
    | exact bnd_leaf
    | apply bnd_ite
    | apply bnd_cond
    | apply bnd_sum
    | (apply bnd_bind; intro _)
    | intro _
def impl_NormalForm (x0 : List D) : Option (List D × Bool) := c_impl_NormalForm x0 some
def e_impl_NormalForm : Ent := ⟨63, [.rd (.struct [.int .i64, .int .i64])], .tup [.own (.struct [.int .i64, .int .i64]), .bool], [.undef], fun _ ds k => dL (fun x0 ds => dE ((impl_NormalForm x0).bind (fun y => k [.L y.1, .B y.2])) ds) ds⟩
theorem q_impl_NormalForm (x0 : List D) : runFn (ocOf [e_impl_IsValidPolygon, e_slices_Clone, e_impl_signedArea, e_slices_Reverse, e_slices_MinFunc__impl_compareCorners, e_slices_Index, e_slices_Concat]) (olOf []) A 63 Go.Proofs.Try.f63 (Sh.mks e_impl_NormalForm.sh [.L x0]).1 (fun v os => some (v, os)) = c_impl_NormalForm x0 (fun y => some ((e_impl_NormalForm.res.mk [.L y.1, .B y.2]).1, (Sh.mks e_impl_NormalForm.outs (e_impl_NormalForm.res.mk [.L y.1, .B y.2]).2).1)) := by kernel_rfl
theorem e_impl_NormalForm_ok : e_impl_NormalForm.ok Go.Proofs.Try.prog A := by
  intro R ds k r h
  unfold e_impl_NormalForm at h
  obtain ⟨x0, d0, rfl, h0⟩ := dL_some h
  obtain ⟨rfl, hE⟩ := dE_some h0
  obtain ⟨y, hy, hk⟩ := bnd_some hE
  refine ⟨_, hk, fn_ok px (fx := ⟨Go.Proofs.Try.func63, by kernel_rfl, by kernel_rfl⟩) (entsOK_cons e_impl_IsValidPolygon_ok (entsOK_cons e_slices_Clone_ok (entsOK_cons e_impl_signedArea_ok (entsOK_cons e_slices_Reverse_ok (entsOK_cons e_slices_MinFunc__impl_compareCorners_ok (entsOK_cons e_slices_Index_ok (entsOK_cons e_slices_Concat_ok entsOK_nil))))))) lentsOK_nil ?_⟩
  have hq := q_impl_NormalForm x0
  rw [c_impl_NormalForm_bind] at hq
  rw [show c_impl_NormalForm x0 some = some y from hy] at hq
  exact hq

/-! loop.example/g00876/laws.eqCorner -/
def c_laws_eqCorner {R : Type} (x0 : Int) (x1 : Int) (x2 : Int) (x3 : Int) (k : Bool → Option R) : Option R :=
  bif !Decidable.decide (x0 = x2) then
    k Bool.false
  else
    bif !Decidable.decide (x1 = x3) then
      k Bool.false
    else
      k Bool.true
theorem c_laws_eqCorner_bind {R : Type} (x0 : Int) (x1 : Int) (x2 : Int) (x3 : Int) (k : Bool → Option R) : c_laws_eqCorner x0 x1 x2 x3 k = (c_laws_eqCorner x0 x1 x2 x3 some).bind k := by
  unfold c_laws_eqCorner
  repeat' first
    | exact bnd_tail
    | exact bnd_none
    | exact bnd_leaf
    | apply bnd_ite
    | apply bnd_cond
    | apply bnd_sum
    | (apply bnd_bind; intro _)
    | intro _
def laws_eqCorner (x0 : Int) (x1 : Int) (x2 : Int) (x3 : Int) : Option (Bool) := c_laws_eqCorner x0 x1 x2 x3 some
def e_laws_eqCorner : Ent := ⟨42, [.agg [.int .i64, .int .i64], .agg [.int .i64, .int .i64]], .bool, [.undef, .undef], fun _ ds k => dI (fun x0 ds => dI (fun x1 ds => dI (fun x2 ds => dI (fun x3 ds => dE ((laws_eqCorner x0 x1 x2 x3).bind (fun y => k [.B y])) ds) ds) ds) ds) ds⟩
theorem q_laws_eqCorner (x0 : Int) (x1 : Int) (x2 : Int) (x3 : Int) : runFn (ocOf []) (olOf []) A 42 Go.Proofs.Try.f42 (Sh.mks e_laws_eqCorner.sh [.I x0, .I x1, .I x2, .I x3]).1 (fun v os => some (v, os)) = c_laws_eqCorner x0 x1 x2 x3 (fun y => some ((e_laws_eqCorner.res.mk [.B y]).1, (Sh.mks e_laws_eqCorner.outs (e_laws_eqCorner.res.mk [.B y]).2).1)) := by kernel_rfl
theorem e_laws_eqCorner_ok : e_laws_eqCorner.ok Go.Proofs.Try.prog A := by
  intro R ds k r h
  unfold e_laws_eqCorner at h
  obtain ⟨x0, d0, rfl, h0⟩ := dI_some h
  obtain ⟨x1, d1, rfl, h1⟩ := dI_some h0
  obtain ⟨x2, d2, rfl, h2⟩ := dI_some h1
  obtain ⟨x3, d3, rfl, h3⟩ := dI_some h2
  obtain ⟨rfl, hE⟩ := dE_some h3
  obtain ⟨y, hy, hk⟩ := bnd_some hE
  refine ⟨_, hk, fn_ok px (fx := ⟨Go.Proofs.Try.func42, by kernel_rfl, by kernel_rfl⟩) entsOK_nil lentsOK_nil ?_⟩
  have hq := q_laws_eqCorner x0 x1 x2 x3
  rw [c_laws_eqCorner_bind] at hq
  rw [show c_laws_eqCorner x0 x1 x2 x3 some = some y from hy] at hq
  exact hq

/-! loop.example/g00876/laws.eqCornerS, loop 4 -/
def c_laws_eqCornerS_L4 {R : Type} (F : List D → List D → Int → Option ((Bool) ⊕ (Unit))) (x0 : List D) (x1 : List D) (x2 : Int) (k : (Bool) ⊕ (Unit) → Option R) : Option R :=
  bif Decidable.decide (x2 < (↑x0.length : Int)) then
    if (0 : Int) ≤ x2 ∧ x2 < (↑x0.length : Int) then
      if (0 : Int) ≤ x2 ∧ x2 < (↑x1.length : Int) then
        (laws_eqCorner (((x0.getD x2.toNat (Go.Rai.D.int (0 : Int))).fld (0 : Nat)).toInt) (((x0.getD x2.toNat (Go.Rai.D.int (0 : Int))).fld (1 : Nat)).toInt) (((x1.getD x2.toNat (Go.Rai.D.int (0 : Int))).fld (0 : Nat)).toInt) (((x1.getD x2.toNat (Go.Rai.D.int (0 : Int))).fld (1 : Nat)).toInt)).bind (fun y0 =>
          bif !y0 then
            k (.inl Bool.false)
          else
            (F x0 x1 (Go.IntKind.i64.wrap (x2 + (1 : Int)))).bind k)
      else
        none
    else
      none
  else
    k (.inr ())
theorem c_laws_eqCornerS_L4_bind {R : Type} (F : List D → List D → Int → Option ((Bool) ⊕ (Unit))) (x0 : List D) (x1 : List D) (x2 : Int) (k : (Bool) ⊕ (Unit) → Option R) : c_laws_eqCornerS_L4 F x0 x1 x2 k = (c_laws_eqCornerS_L4 F x0 x1 x2 some).bind k := by
  unfold c_laws_eqCornerS_L4
  repeat' first
    | exact bnd_tail
    | exact bnd_none
    | exact bnd_leaf
    | apply bnd_ite
    | apply bnd_cond
    | apply bnd_sum
    | (apply bnd_bind; intro _)
    | intro _
def n_laws_eqCornerS_L4 : Nat → List D → List D → Int → Option ((Bool) ⊕ (Unit))
  | 0, _, _, _ => none
  | n + 1, x0, x1, x2 => c_laws_eqCornerS_L4 (n_laws_eqCornerS_L4 n) x0 x1 x2 some
noncomputable def laws_eqCornerS_L4 (x0 : List D) (x1 : List D) (x2 : Int) : Option ((Bool) ⊕ (Unit)) := ev (fun n => n_laws_eqCornerS_L4 n x0 x1 x2)
def m_laws_eqCornerS_L4 (F : List D → List D → Int → Option ((Bool) ⊕ (Unit))) : Lent := ⟨4, ⟨[.rd (.struct [.int .i64, .int .i64]), .rd (.struct [.int .i64, .int .i64]), .undef, .undef, .undef, .int .i64, .undef, .undef, .undef, .undef, .undef, .undef, .undef, .undef, .undef, .undef, .undef, .undef, .undef, .undef, .undef, .undef, .undef, .undef, .undef, .undef, .undef], []⟩, [(.ret, ⟨[.undef, .undef, .undef, .undef, .bool, .undef, .undef, .undef, .undef, .undef, .undef, .undef, .undef, .undef, .undef, .undef, .undef, .undef, .undef, .undef, .undef, .undef, .undef, .undef, .undef, .undef, .undef], []⟩), (.exit 0, ⟨[.undef, .undef, .undef, .undef, .undef, .undef, .undef, .undef, .undef, .undef, .undef, .undef, .undef, .undef, .undef, .undef, .undef, .undef, .undef, .undef, .undef, .undef, .undef, .undef, .undef, .undef, .undef], []⟩)], fun _ ds k => dL (fun x0 ds => dL (fun x1 ds => dI (fun x2 ds => dE ((F x0 x1 x2).bind (Sum.elim (fun y => k 0 [.B y]) (fun y => k 1 []))) ds) ds) ds) ds⟩
theorem q_laws_eqCornerS_L4 (F : List D → List D → Int → Option ((Bool) ⊕ (Unit))) (x0 : List D) (x1 : List D) (x2 : Int) : runLoop (ocOf [e_laws_eqCorner]) (olOf [m_laws_eqCornerS_L4 F]) A 26 (codeAt (bodyOf Go.Proofs.Try.f26) 4) ((m_laws_eqCornerS_L4 F).sh.mk' [.L x0, .L x1, .I x2]) (fun e σ' => some (e, σ')) = c_laws_eqCornerS_L4 F x0 x1 x2 (Sum.elim (fun y => some (.ret, SSt.mk' ⟨[.undef, .undef, .undef, .undef, .bool, .undef, .undef, .undef, .undef, .undef, .undef, .undef, .undef, .undef, .undef, .undef, .undef, .undef, .undef, .undef, .undef, .undef, .undef, .undef, .undef, .undef, .undef], []⟩ [.B y])) (fun y => some (.exit 0, SSt.mk' ⟨[.undef, .undef, .undef, .undef, .undef, .undef, .undef, .undef, .undef, .undef, .undef, .undef, .undef, .undef, .undef, .undef, .undef, .undef, .undef, .undef, .undef, .undef, .undef, .undef, .undef, .undef, .undef], []⟩ []))) := by kernel_rfl
theorem m_laws_eqCornerS_L4_ok : ∀ n, (m_laws_eqCornerS_L4 (n_laws_eqCornerS_L4 n)).ok Go.Proofs.Try.prog (codeAt (bodyOf Go.Proofs.Try.f26) 4) := by
  intro n
  induction n with
  | zero =>
    intro R ds k r h
    unfold m_laws_eqCornerS_L4 at h
    obtain ⟨x0, d0, rfl, h0⟩ := dL_some h
    obtain ⟨x1, d1, rfl, h1⟩ := dL_some h0
    obtain ⟨x2, d2, rfl, h2⟩ := dI_some h1
    obtain ⟨rfl, hE⟩ := dE_some h2
    obtain ⟨y, hy, hk⟩ := bnd_some hE
    cases hy
  | succ n ih =>
    intro R ds k r h
    unfold m_laws_eqCornerS_L4 at h
    obtain ⟨x0, d0, rfl, h0⟩ := dL_some h
    obtain ⟨x1, d1, rfl, h1⟩ := dL_some h0
    obtain ⟨x2, d2, rfl, h2⟩ := dI_some h1
    obtain ⟨rfl, hE⟩ := dE_some h2
    obtain ⟨y, hy, hk⟩ := bnd_some hE
    have hq := q_laws_eqCornerS_L4 (n_laws_eqCornerS_L4 n) x0 x1 x2
    rw [c_laws_eqCornerS_L4_bind] at hq
    rw [show c_laws_eqCornerS_L4 (n_laws_eqCornerS_L4 n) x0 x1 x2 some = some y from hy] at hq
    cases y with
    | inl y =>
      refine ⟨0, _, _, _, hk, rfl, loop_ok px (fx := ⟨Go.Proofs.Try.func26, by kernel_rfl, by kernel_rfl⟩) (entsOK_cons e_laws_eqCorner_ok entsOK_nil) (lentsOK_cons ih lentsOK_nil) (by kernel_rfl) ?_⟩
      exact hq
    | inr y =>
      refine ⟨1, _, _, _, hk, rfl, loop_ok px (fx := ⟨Go.Proofs.Try.func26, by kernel_rfl, by kernel_rfl⟩) (entsOK_cons e_laws_eqCorner_ok entsOK_nil) (lentsOK_cons ih lentsOK_nil) (by kernel_rfl) ?_⟩
      exact hq
noncomputable def e_laws_eqCornerS_L4 : Lent := m_laws_eqCornerS_L4 laws_eqCornerS_L4
theorem e_laws_eqCornerS_L4_ok : e_laws_eqCornerS_L4.ok Go.Proofs.Try.prog (codeAt (bodyOf Go.Proofs.Try.f26) 4) := by
  intro R ds k r h
  unfold e_laws_eqCornerS_L4 m_laws_eqCornerS_L4 at h
  obtain ⟨x0, d0, rfl, h0⟩ := dL_some h
  obtain ⟨x1, d1, rfl, h1⟩ := dL_some h0
  obtain ⟨x2, d2, rfl, h2⟩ := dI_some h1
  obtain ⟨rfl, hE⟩ := dE_some h2
  obtain ⟨y, hy, hk⟩ := bnd_some hE
  obtain ⟨n, hn⟩ := ev_some hy
  exact m_laws_eqCornerS_L4_ok n R _ k r (show (n_laws_eqCornerS_L4 n x0 x1 x2).bind _ = _ by rw [hn]; exact hk)

/-! loop.example/g00876/laws.eqCornerS -/
def c_laws_eqCornerS {R : Type} (x0 : List D) (x1 : List D) (k : Bool → Option R) : Option R :=
  bif !Decidable.decide ((↑x0.length : Int) = (↑x1.length : Int)) then
    k Bool.false
  else
    (laws_eqCornerS_L4 x0 x1 (0 : Int)).bind (Sum.elim (fun y0 =>
      k y0) (fun y1 =>
      k Bool.true))
theorem c_laws_eqCornerS_bind {R : Type} (x0 : List D) (x1 : List D) (k : Bool → Option R) : c_laws_eqCornerS x0 x1 k = (c_laws_eqCornerS x0 x1 some).bind k := by
  unfold c_laws_eqCornerS
  repeat' first
    | exact bnd_tail
    | exact bnd_none
    | exact bnd_leaf
    | apply bnd_ite
    | apply bnd_cond
    | apply bnd_sum
    | (apply bnd_bind; intro _)
    | intro _
def laws_eqCornerS (x0 : List D) (x1 : List D) : Option (Bool) := c_laws_eqCornerS x0 x1 some
def e_laws_eqCornerS : Ent := ⟨26, [.rd (.struct [.int .i64, .int .i64]), .rd (.struct [.int .i64, .int .i64])], .bool, [.undef, .undef], fun _ ds k => dL (fun x0 ds => dL (fun x1 ds => dE ((laws_eqCornerS x0 x1).bind (fun y => k [.B y])) ds) ds) ds⟩
theorem q_laws_eqCornerS (x0 : List D) (x1 : List D) : runFn (ocOf []) (olOf [e_laws_eqCornerS_L4]) A 26 Go.Proofs.Try.f26 (Sh.mks e_laws_eqCornerS.sh [.L x0, .L x1]).1 (fun v os => some (v, os)) = c_laws_eqCornerS x0 x1 (fun y => some ((e_laws_eqCornerS.res.mk [.B y]).1, (Sh.mks e_laws_eqCornerS.outs (e_laws_eqCornerS.res.mk [.B y]).2).1)) := by kernel_rfl
theorem e_laws_eqCornerS_ok : e_laws_eqCornerS.ok Go.Proofs.Try.prog A := by
  intro R ds k r h
  unfold e_laws_eqCornerS at h
  obtain ⟨x0, d0, rfl, h0⟩ := dL_some h
  obtain ⟨x1, d1, rfl, h1⟩ := dL_some h0
  obtain ⟨rfl, hE⟩ := dE_some h1
  obtain ⟨y, hy, hk⟩ := bnd_some hE
  refine ⟨_, hk, fn_ok px (fx := ⟨Go.Proofs.Try.func26, by kernel_rfl, by kernel_rfl⟩) entsOK_nil (lentsOK_cons e_laws_eqCornerS_L4_ok lentsOK_nil) ?_⟩
  have hq := q_laws_eqCornerS x0 x1
  rw [c_laws_eqCornerS_bind] at hq
  rw [show c_laws_eqCornerS x0 x1 some = some y from hy] at hq
  exact hq

/-! loop.example/g00876/laws.markCornerS, loop 2 -/
def c_laws_markCornerS_L2 {R : Type} (F : Int → Int → List D → Option (Int × List D)) (x0 : Int) (x1 : Int) (x2 : List D) (k : Int × List D → Option R) : Option R :=
  bif Decidable.decide (x1 < (↑x2.length : Int)) then
    if (0 : Int) ≤ x1 ∧ x1 < (↑x2.length : Int) then
      if x1.toNat + (1 : Nat) ≤ x2.length then
        if x1.toNat + (1 : Nat) ≤ x2.length then
          if (0 : Int) ≤ x1 ∧ x1 < (↑(x2.set x1.toNat (Go.Rai.D.node [Go.Rai.D.int x0, Go.Rai.D.int ((x2.getD x1.toNat (Go.Rai.D.int (0 : Int))).fld (1 : Nat)).toInt])).length : Int) then
            if x1.toNat + (1 : Nat) ≤ (x2.set x1.toNat (Go.Rai.D.node [Go.Rai.D.int x0, Go.Rai.D.int ((x2.getD x1.toNat (Go.Rai.D.int (0 : Int))).fld (1 : Nat)).toInt])).length then
              if x1.toNat + (1 : Nat) ≤ (x2.set x1.toNat (Go.Rai.D.node [Go.Rai.D.int x0, Go.Rai.D.int ((x2.getD x1.toNat (Go.Rai.D.int (0 : Int))).fld (1 : Nat)).toInt])).length then
                (F (Go.IntKind.i64.wrap (Go.IntKind.i64.wrap (x0 + (1 : Int)) + (1 : Int))) (Go.IntKind.i64.wrap (x1 + (1 : Int))) ((x2.set x1.toNat (Go.Rai.D.node [Go.Rai.D.int x0, Go.Rai.D.int ((x2.getD x1.toNat (Go.Rai.D.int (0 : Int))).fld (1 : Nat)).toInt])).set x1.toNat (Go.Rai.D.node [Go.Rai.D.int (((x2.set x1.toNat (Go.Rai.D.node [Go.Rai.D.int x0, Go.Rai.D.int ((x2.getD x1.toNat (Go.Rai.D.int (0 : Int))).fld (1 : Nat)).toInt])).getD x1.toNat (Go.Rai.D.int (0 : Int))).fld (0 : Nat)).toInt, Go.Rai.D.int (Go.IntKind.i64.wrap (x0 + (1 : Int)))]))).bind k
              else
                none
            else
              none
          else
            none
        else
          none
      else
        none
    else
      none
  else
    k (x0, x2)
theorem c_laws_markCornerS_L2_bind {R : Type} (F : Int → Int → List D → Option (Int × List D)) (x0 : Int) (x1 : Int) (x2 : List D) (k : Int × List D → Option R) : c_laws_markCornerS_L2 F x0 x1 x2 k = (c_laws_markCornerS_L2 F x0 x1 x2 some).bind k := by
  unfold c_laws_markCornerS_L2
  repeat' first
    | exact bnd_tail
    | exact bnd_none
    | exact bnd_leaf
    | apply bnd_ite
    | apply bnd_cond
    | apply bnd_sum
    | (apply bnd_bind; intro _)
    | intro _
def n_laws_markCornerS_L2 : Nat → Int → Int → List D → Option (Int × List D)
  | 0, _, _, _ => none
  | n + 1, x0, x1, x2 => c_laws_markCornerS_L2 (n_laws_markCornerS_L2 n) x0 x1 x2 some
noncomputable def laws_markCornerS_L2 (x0 : Int) (x1 : Int) (x2 : List D) : Option (Int × List D) := ev (fun n => n_laws_markCornerS_L2 n x0 x1 x2)
def m_laws_markCornerS_L2 (F : Int → Int → List D → Option (Int × List D)) : Lent := ⟨2, ⟨[.full 1000 [] (.struct [.int .i64, .int .i64]), .int .i64, .undef, .undef, .undef, .int .i64, .undef, .undef, .undef, .undef, .undef, .undef, .undef, .undef, .undef, .undef, .undef, .undef, .undef, .undef, .undef, .undef, .undef, .undef, .undef, .undef, .undef], [(1000, .own (.struct [.int .i64, .int .i64]))]⟩, [(.exit 0, ⟨[.full 1000 [] (.struct [.int .i64, .int .i64]), .int .i64, .undef, .undef, .undef, .undef, .undef, .undef, .undef, .undef, .undef, .undef, .undef, .undef, .undef, .undef, .undef, .undef, .undef, .undef, .undef, .undef, .undef, .undef, .undef, .undef, .undef], [(1000, .own (.struct [.int .i64, .int .i64]))]⟩)], fun _ ds k => dI (fun x0 ds => dI (fun x1 ds => dL (fun x2 ds => dE ((F x0 x1 x2).bind (fun y => k 0 [.I y.1, .L y.2])) ds) ds) ds) ds⟩
theorem q_laws_markCornerS_L2 (F : Int → Int → List D → Option (Int × List D)) (x0 : Int) (x1 : Int) (x2 : List D) : runLoop (ocOf []) (olOf [m_laws_markCornerS_L2 F]) A 58 (codeAt (bodyOf Go.Proofs.Try.f58) 2) ((m_laws_markCornerS_L2 F).sh.mk' [.I x0, .I x1, .L x2]) (fun e σ' => some (e, σ')) = c_laws_markCornerS_L2 F x0 x1 x2 (fun y => some (.exit 0, SSt.mk' ⟨[.full 1000 [] (.struct [.int .i64, .int .i64]), .int .i64, .undef, .undef, .undef, .undef, .undef, .undef, .undef, .undef, .undef, .undef, .undef, .undef, .undef, .undef, .undef, .undef, .undef, .undef, .undef, .undef, .undef, .undef, .undef, .undef, .undef], [(1000, .own (.struct [.int .i64, .int .i64]))]⟩ [.I y.1, .L y.2])) := by kernel_rfl
theorem m_laws_markCornerS_L2_ok : ∀ n, (m_laws_markCornerS_L2 (n_laws_markCornerS_L2 n)).ok Go.Proofs.Try.prog (codeAt (bodyOf Go.Proofs.Try.f58) 2) := by
  intro n
  induction n with
  | zero =>
    intro R ds k r h
    unfold m_laws_markCornerS_L2 at h
    obtain ⟨x0, d0, rfl, h0⟩ := dI_some h
    obtain ⟨x1, d1, rfl, h1⟩ := dI_some h0
    obtain ⟨x2, d2, rfl, h2⟩ := dL_some h1
    obtain ⟨rfl, hE⟩ := dE_some h2
    obtain ⟨y, hy, hk⟩ := bnd_some hE
    cases hy
  | succ n ih =>
    intro R ds k r h
    unfold m_laws_markCornerS_L2 at h
    obtain ⟨x0, d0, rfl, h0⟩ := dI_some h
    obtain ⟨x1, d1, rfl, h1⟩ := dI_some h0
    obtain ⟨x2, d2, rfl, h2⟩ := dL_some h1
    obtain ⟨rfl, hE⟩ := dE_some h2
    obtain ⟨y, hy, hk⟩ := bnd_some hE
    have hq := q_laws_markCornerS_L2 (n_laws_markCornerS_L2 n) x0 x1 x2
    rw [c_laws_markCornerS_L2_bind] at hq
    rw [show c_laws_markCornerS_L2 (n_laws_markCornerS_L2 n) x0 x1 x2 some = some y from hy] at hq
    refine ⟨0, _, _, _, hk, rfl, loop_ok px (fx := ⟨Go.Proofs.Try.func58, by kernel_rfl, by kernel_rfl⟩) entsOK_nil (lentsOK_cons ih lentsOK_nil) (by kernel_rfl) ?_⟩
    exact hq
noncomputable def e_laws_markCornerS_L2 : Lent := m_laws_markCornerS_L2 laws_markCornerS_L2
theorem e_laws_markCornerS_L2_ok : e_laws_markCornerS_L2.ok Go.Proofs.Try.prog (codeAt (bodyOf Go.Proofs.Try.f58) 2) := by
  intro R ds k r h
  unfold e_laws_markCornerS_L2 m_laws_markCornerS_L2 at h
  obtain ⟨x0, d0, rfl, h0⟩ := dI_some h
  obtain ⟨x1, d1, rfl, h1⟩ := dI_some h0
  obtain ⟨x2, d2, rfl, h2⟩ := dL_some h1
  obtain ⟨rfl, hE⟩ := dE_some h2
  obtain ⟨y, hy, hk⟩ := bnd_some hE
  obtain ⟨n, hn⟩ := ev_some hy
  exact m_laws_markCornerS_L2_ok n R _ k r (show (n_laws_markCornerS_L2 n x0 x1 x2).bind _ = _ by rw [hn]; exact hk)

/-! loop.example/g00876/laws.markCornerS -/
def c_laws_markCornerS {R : Type} (x0 : List D) (x1 : Int) (k : Int × List D → Option R) : Option R :=
  (laws_markCornerS_L2 x1 (0 : Int) x0).bind (fun y0 =>
    k (y0.fst, y0.snd))
theorem c_laws_markCornerS_bind {R : Type} (x0 : List D) (x1 : Int) (k : Int × List D → Option R) : c_laws_markCornerS x0 x1 k = (c_laws_markCornerS x0 x1 some).bind k := by
  unfold c_laws_markCornerS
  repeat' first
    | exact bnd_tail
    | exact bnd_none
    | exact bnd_leaf
    | apply bnd_ite
    | apply bnd_cond
    | apply bnd_sum
    | (apply bnd_bind; intro _)
    | intro _
def laws_markCornerS (x0 : List D) (x1 : Int) : Option (Int × List D) := c_laws_markCornerS x0 x1 some
def e_laws_markCornerS : Ent := ⟨58, [.own (.struct [.int .i64, .int .i64]), .int .i64], .int .i64, [.own (.struct [.int .i64, .int .i64]), .undef], fun _ ds k => dL (fun x0 ds => dI (fun x1 ds => dE ((laws_markCornerS x0 x1).bind (fun y => k [.I y.1, .L y.2])) ds) ds) ds⟩
theorem q_laws_markCornerS (x0 : List D) (x1 : Int) : runFn (ocOf []) (olOf [e_laws_markCornerS_L2]) A 58 Go.Proofs.Try.f58 (Sh.mks e_laws_markCornerS.sh [.L x0, .I x1]).1 (fun v os => some (v, os)) = c_laws_markCornerS x0 x1 (fun y => some ((e_laws_markCornerS.res.mk [.I y.1, .L y.2]).1, (Sh.mks e_laws_markCornerS.outs (e_laws_markCornerS.res.mk [.I y.1, .L y.2]).2).1)) := by kernel_rfl
theorem e_laws_markCornerS_ok : e_laws_markCornerS.ok Go.Proofs.Try.prog A := by
  intro R ds k r h
  unfold e_laws_markCornerS at h
  obtain ⟨x0, d0, rfl, h0⟩ := dL_some h
  obtain ⟨x1, d1, rfl, h1⟩ := dI_some h0
  obtain ⟨rfl, hE⟩ := dE_some h1
  obtain ⟨y, hy, hk⟩ := bnd_some hE
  refine ⟨_, hk, fn_ok px (fx := ⟨Go.Proofs.Try.func58, by kernel_rfl, by kernel_rfl⟩) entsOK_nil (lentsOK_cons e_laws_markCornerS_L2_ok lentsOK_nil) ?_⟩
  have hq := q_laws_markCornerS x0 x1
  rw [c_laws_markCornerS_bind] at hq
  rw [show c_laws_markCornerS x0 x1 some = some y from hy] at hq
  exact hq

/-! loop.example/g00876/laws.heldCornerS, loop 2 -/
def c_laws_heldCornerS_L2 {R : Type} (F : List D → Int → Int → Option ((Int × Int) ⊕ (Int))) (x0 : List D) (x1 : Int) (x2 : Int) (k : (Int × Int) ⊕ (Int) → Option R) : Option R :=
  bif Decidable.decide (x2 < (↑x0.length : Int)) then
    if (0 : Int) ≤ x2 ∧ x2 < (↑x0.length : Int) then
      bif !Decidable.decide (((x0.getD x2.toNat (Go.Rai.D.int (0 : Int))).fld (0 : Nat)).toInt = x1) then
        k (.inl (x1, (-1 : Int)))
      else
        if (0 : Int) ≤ x2 ∧ x2 < (↑x0.length : Int) then
          bif !Decidable.decide (((x0.getD x2.toNat (Go.Rai.D.int (0 : Int))).fld (1 : Nat)).toInt = Go.IntKind.i64.wrap (x1 + (1 : Int))) then
            k (.inl (Go.IntKind.i64.wrap (x1 + (1 : Int)), (-1 : Int)))
          else
            (F x0 (Go.IntKind.i64.wrap (Go.IntKind.i64.wrap (x1 + (1 : Int)) + (1 : Int))) (Go.IntKind.i64.wrap (x2 + (1 : Int)))).bind k
        else
          none
    else
      none
  else
    k (.inr x1)
theorem c_laws_heldCornerS_L2_bind {R : Type} (F : List D → Int → Int → Option ((Int × Int) ⊕ (Int))) (x0 : List D) (x1 : Int) (x2 : Int) (k : (Int × Int) ⊕ (Int) → Option R) : c_laws_heldCornerS_L2 F x0 x1 x2 k = (c_laws_heldCornerS_L2 F x0 x1 x2 some).bind k := by
  unfold c_laws_heldCornerS_L2
  repeat' first
    | exact bnd_tail
    | exact bnd_none
    | exact bnd_leaf
    | apply bnd_ite
    | apply bnd_cond
    | apply bnd_sum
    | (apply bnd_bind; intro _)
    | intro _
def n_laws_heldCornerS_L2 : Nat → List D → Int → Int → Option ((Int × Int) ⊕ (Int))
  | 0, _, _, _ => none
  | n + 1, x0, x1, x2 => c_laws_heldCornerS_L2 (n_laws_heldCornerS_L2 n) x0 x1 x2 some
noncomputable def laws_heldCornerS_L2 (x0 : List D) (x1 : Int) (x2 : Int) : Option ((Int × Int) ⊕ (Int)) := ev (fun n => n_laws_heldCornerS_L2 n x0 x1 x2)
def m_laws_heldCornerS_L2 (F : List D → Int → Int → Option ((Int × Int) ⊕ (Int))) : Lent := ⟨2, ⟨[.rd (.struct [.int .i64, .int .i64]), .int .i64, .undef, .undef, .undef, .int .i64, .undef, .undef, .undef, .undef, .undef, .undef, .undef, .undef, .undef, .undef, .undef, .undef, .undef, .undef, .undef, .undef, .undef, .undef, .undef, .undef, .undef, .undef, .undef, .undef, .undef], []⟩, [(.ret, ⟨[.undef, .int .i64, .undef, .undef, .int .i64, .undef, .undef, .undef, .undef, .undef, .undef, .undef, .undef, .undef, .undef, .undef, .undef, .undef, .undef, .undef, .undef, .undef, .undef, .undef, .undef, .undef, .undef, .undef, .undef, .undef, .undef], []⟩), (.exit 0, ⟨[.undef, .int .i64, .undef, .undef, .undef, .undef, .undef, .undef, .undef, .undef, .undef, .undef, .undef, .undef, .undef, .undef, .undef, .undef, .undef, .undef, .undef, .undef, .undef, .undef, .undef, .undef, .undef, .undef, .undef, .undef, .undef], []⟩)], fun _ ds k => dL (fun x0 ds => dI (fun x1 ds => dI (fun x2 ds => dE ((F x0 x1 x2).bind (Sum.elim (fun y => k 0 [.I y.1, .I y.2]) (fun y => k 1 [.I y]))) ds) ds) ds) ds⟩
theorem q_laws_heldCornerS_L2 (F : List D → Int → Int → Option ((Int × Int) ⊕ (Int))) (x0 : List D) (x1 : Int) (x2 : Int) : runLoop (ocOf []) (olOf [m_laws_heldCornerS_L2 F]) A 59 (codeAt (bodyOf Go.Proofs.Try.f59) 2) ((m_laws_heldCornerS_L2 F).sh.mk' [.L x0, .I x1, .I x2]) (fun e σ' => some (e, σ')) = c_laws_heldCornerS_L2 F x0 x1 x2 (Sum.elim (fun y => some (.ret, SSt.mk' ⟨[.undef, .int .i64, .undef, .undef, .int .i64, .undef, .undef, .undef, .undef, .undef, .undef, .undef, .undef, .undef, .undef, .undef, .undef, .undef, .undef, .undef, .undef, .undef, .undef, .undef, .undef, .undef, .undef, .undef, .undef, .undef, .undef], []⟩ [.I y.1, .I y.2])) (fun y => some (.exit 0, SSt.mk' ⟨[.undef, .int .i64, .undef, .undef, .undef, .undef, .undef, .undef, .undef, .undef, .undef, .undef, .undef, .undef, .undef, .undef, .undef, .undef, .undef, .undef, .undef, .undef, .undef, .undef, .undef, .undef, .undef, .undef, .undef, .undef, .undef], []⟩ [.I y]))) := by kernel_rfl
theorem m_laws_heldCornerS_L2_ok : ∀ n, (m_laws_heldCornerS_L2 (n_laws_heldCornerS_L2 n)).ok Go.Proofs.Try.prog (codeAt (bodyOf Go.Proofs.Try.f59) 2) := by
  intro n
  induction n with
  | zero =>
    intro R ds k r h
    unfold m_laws_heldCornerS_L2 at h
    obtain ⟨x0, d0, rfl, h0⟩ := dL_some h
    obtain ⟨x1, d1, rfl, h1⟩ := dI_some h0
    obtain ⟨x2, d2, rfl, h2⟩ := dI_some h1
    obtain ⟨rfl, hE⟩ := dE_some h2
    obtain ⟨y, hy, hk⟩ := bnd_some hE
    cases hy
  | succ n ih =>
    intro R ds k r h
    unfold m_laws_heldCornerS_L2 at h
    obtain ⟨x0, d0, rfl, h0⟩ := dL_some h
    obtain ⟨x1, d1, rfl, h1⟩ := dI_some h0
    obtain ⟨x2, d2, rfl, h2⟩ := dI_some h1
    obtain ⟨rfl, hE⟩ := dE_some h2
    obtain ⟨y, hy, hk⟩ := bnd_some hE
    have hq := q_laws_heldCornerS_L2 (n_laws_heldCornerS_L2 n) x0 x1 x2
    rw [c_laws_heldCornerS_L2_bind] at hq
    rw [show c_laws_heldCornerS_L2 (n_laws_heldCornerS_L2 n) x0 x1 x2 some = some y from hy] at hq
    cases y with
    | inl y =>
      refine ⟨0, _, _, _, hk, rfl, loop_ok px (fx := ⟨Go.Proofs.Try.func59, by kernel_rfl, by kernel_rfl⟩) entsOK_nil (lentsOK_cons ih lentsOK_nil) (by kernel_rfl) ?_⟩
      exact hq
    | inr y =>
      refine ⟨1, _, _, _, hk, rfl, loop_ok px (fx := ⟨Go.Proofs.Try.func59, by kernel_rfl, by kernel_rfl⟩) entsOK_nil (lentsOK_cons ih lentsOK_nil) (by kernel_rfl) ?_⟩
      exact hq
noncomputable def e_laws_heldCornerS_L2 : Lent := m_laws_heldCornerS_L2 laws_heldCornerS_L2
theorem e_laws_heldCornerS_L2_ok : e_laws_heldCornerS_L2.ok Go.Proofs.Try.prog (codeAt (bodyOf Go.Proofs.Try.f59) 2) := by
  intro R ds k r h
  unfold e_laws_heldCornerS_L2 m_laws_heldCornerS_L2 at h
  obtain ⟨x0, d0, rfl, h0⟩ := dL_some h
  obtain ⟨x1, d1, rfl, h1⟩ := dI_some h0
  obtain ⟨x2, d2, rfl, h2⟩ := dI_some h1
  obtain ⟨rfl, hE⟩ := dE_some h2
  obtain ⟨y, hy, hk⟩ := bnd_some hE
  obtain ⟨n, hn⟩ := ev_some hy
  exact m_laws_heldCornerS_L2_ok n R _ k r (show (n_laws_heldCornerS_L2 n x0 x1 x2).bind _ = _ by rw [hn]; exact hk)

/-! loop.example/g00876/laws.heldCornerS -/
def c_laws_heldCornerS {R : Type} (x0 : List D) (x1 : Int) (k : Int → Option R) : Option R :=
  (laws_heldCornerS_L2 x0 x1 (0 : Int)).bind (Sum.elim (fun y0 =>
    k y0.snd) (fun y1 =>
    k y1))
theorem c_laws_heldCornerS_bind {R : Type} (x0 : List D) (x1 : Int) (k : Int → Option R) : c_laws_heldCornerS x0 x1 k = (c_laws_heldCornerS x0 x1 some).bind k := by
  unfold c_laws_heldCornerS
  repeat' first
    | exact bnd_tail
    | exact bnd_none
    | exact bnd_leaf
    | apply bnd_ite
    | apply bnd_cond
    | apply bnd_sum
    | (apply bnd_bind; intro _)
    | intro _
def laws_heldCornerS (x0 : List D) (x1 : Int) : Option (Int) := c_laws_heldCornerS x0 x1 some
def e_laws_heldCornerS : Ent := ⟨59, [.rd (.struct [.int .i64, .int .i64]), .int .i64], .int .i64, [.undef, .undef], fun _ ds k => dL (fun x0 ds => dI (fun x1 ds => dE ((laws_heldCornerS x0 x1).bind (fun y => k [.I y])) ds) ds) ds⟩
theorem q_laws_heldCornerS (x0 : List D) (x1 : Int) : runFn (ocOf []) (olOf [e_laws_heldCornerS_L2]) A 59 Go.Proofs.Try.f59 (Sh.mks e_laws_heldCornerS.sh [.L x0, .I x1]).1 (fun v os => some (v, os)) = c_laws_heldCornerS x0 x1 (fun y => some ((e_laws_heldCornerS.res.mk [.I y]).1, (Sh.mks e_laws_heldCornerS.outs (e_laws_heldCornerS.res.mk [.I y]).2).1)) := by kernel_rfl
theorem e_laws_heldCornerS_ok : e_laws_heldCornerS.ok Go.Proofs.Try.prog A := by
  intro R ds k r h
  unfold e_laws_heldCornerS at h
  obtain ⟨x0, d0, rfl, h0⟩ := dL_some h
  obtain ⟨x1, d1, rfl, h1⟩ := dI_some h0
  obtain ⟨rfl, hE⟩ := dE_some h1
  obtain ⟨y, hy, hk⟩ := bnd_some hE
  refine ⟨_, hk, fn_ok px (fx := ⟨Go.Proofs.Try.func59, by kernel_rfl, by kernel_rfl⟩) entsOK_nil (lentsOK_cons e_laws_heldCornerS_L2_ok lentsOK_nil) ?_⟩
  have hq := q_laws_heldCornerS x0 x1
  rw [c_laws_heldCornerS_bind] at hq
  rw [show c_laws_heldCornerS x0 x1 some = some y from hy] at hq
  exact hq

/-! loop.example/g00876/laws.FnExactNormalForm -/
def c_laws_FnExactNormalForm {R : Type} (x0 : List D) (k : Bool → Option R) : Option R :=
  (laws_szCornerS x0 (1048576 : Int)).bind (fun y0 =>
    bif Decidable.decide (y0 < (0 : Int)) then
      k Bool.true
    else
      (laws_toCornerS x0).bind (fun y1 =>
        (spec_NormalForm y1).bind (fun y2 =>
          (laws_toCornerS x0).bind (fun y3 =>
            (impl_NormalForm y3).bind (fun y4 =>
              (laws_eqCornerS y4.fst y2.fst).bind (fun y5 =>
                bif !y5 then
                  k Bool.false
                else
                  bif !y4.snd == y2.snd then
                    k Bool.false
                  else
                    (laws_toCornerS x0).bind (fun y6 =>
                      (laws_eqCornerS y3 y6).bind (fun y7 =>
                        bif !y7 then
                          k Bool.false
                        else
                          (laws_markCornerS y3 (1 : Int)).bind (fun y8 =>
                            bif Decidable.decide (y8.fst < (0 : Int)) then
                              k Bool.false
                            else
                              (laws_eqCornerS y4.fst y2.fst).bind (fun y9 =>
                                bif !y9 then
                                  k Bool.false
                                else
                                  bif !y4.snd == y2.snd then
                                    k Bool.false
                                  else
                                    (laws_markCornerS y4.fst (1 : Int)).bind (fun y10 =>
                                      (laws_heldCornerS y10.snd (1 : Int)).bind (fun y11 =>
                                        bif Decidable.decide (y11 < (0 : Int)) then
                                          k Bool.false
                                        else
                                          bif !Decidable.decide (y11 = y10.fst) then
                                            k Bool.false
                                          else
                                            (laws_toCornerS x0).bind (fun y12 =>
                                              (impl_NormalForm y12).bind (fun y13 =>
                                                (laws_eqCornerS y13.fst y2.fst).bind (fun y14 =>
                                                  bif !y14 then
                                                    k Bool.false
                                                  else
                                                    bif !y13.snd == y2.snd then
                                                      k Bool.false
                                                    else
                                                      (laws_heldCornerS y10.snd (1 : Int)).bind (fun y15 =>
                                                        bif Decidable.decide (y15 < (0 : Int)) then
                                                          k Bool.false
                                                        else
                                                          bif !Decidable.decide (y15 = y10.fst) then
                                                            k Bool.false
                                                          else
                                                            k Bool.true))))))))))))))))
theorem c_laws_FnExactNormalForm_bind {R : Type} (x0 : List D) (k : Bool → Option R) : c_laws_FnExactNormalForm x0 k = (c_laws_FnExactNormalForm x0 some).bind k := by
  unfold c_laws_FnExactNormalForm
  repeat' first
    | exact bnd_tail
    | exact bnd_none
    | exact bnd_leaf
    | apply bnd_ite
    | apply bnd_cond
    | apply bnd_sum
    | (apply bnd_bind; intro _)
    | intro _
def laws_FnExactNormalForm (x0 : List D) : Option (Bool) := c_laws_FnExactNormalForm x0 some
def e_laws_FnExactNormalForm : Ent := ⟨13, [.rd (.struct [.int .i64, .int .i64])], .bool, [.undef], fun _ ds k => dL (fun x0 ds => dE ((laws_FnExactNormalForm x0).bind (fun y => k [.B y])) ds) ds⟩
theorem q_laws_FnExactNormalForm (x0 : List D) : runFn (ocOf [e_laws_szCornerS, e_laws_toCornerS, e_spec_NormalForm, e_impl_NormalForm, e_laws_eqCornerS, e_laws_markCornerS, e_laws_heldCornerS]) (olOf []) A 13 Go.Proofs.Try.f13 (Sh.mks e_laws_FnExactNormalForm.sh [.L x0]).1 (fun v os => some (v, os)) = c_laws_FnExactNormalForm x0 (fun y => some ((e_laws_FnExactNormalForm.res.mk [.B y]).1, (Sh.mks e_laws_FnExactNormalForm.outs (e_laws_FnExactNormalForm.res.mk [.B y]).2).1)) := by kernel_rfl
theorem e_laws_FnExactNormalForm_ok : e_laws_FnExactNormalForm.ok Go.Proofs.Try.prog A := by
  intro R ds k r h
  unfold e_laws_FnExactNormalForm at h
  obtain ⟨x0, d0, rfl, h0⟩ := dL_some h
  obtain ⟨rfl, hE⟩ := dE_some h0
  obtain ⟨y, hy, hk⟩ := bnd_some hE
  refine ⟨_, hk, fn_ok px (fx := ⟨Go.Proofs.Try.func13, by kernel_rfl, by kernel_rfl⟩) (entsOK_cons e_laws_szCornerS_ok (entsOK_cons e_laws_toCornerS_ok (entsOK_cons e_spec_NormalForm_ok (entsOK_cons e_impl_NormalForm_ok (entsOK_cons e_laws_eqCornerS_ok (entsOK_cons e_laws_markCornerS_ok (entsOK_cons e_laws_heldCornerS_ok entsOK_nil))))))) lentsOK_nil ?_⟩
  have hq := q_laws_FnExactNormalForm x0
  rw [c_laws_FnExactNormalForm_bind] at hq
  rw [show c_laws_FnExactNormalForm x0 some = some y from hy] at hq
  exact hq
end
end Go.Proofs.Yticcpkmednijlaa
