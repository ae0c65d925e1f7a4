/- Models of Go functions and their contracts, printed by a program of this session. -/
import Derived.Test.YtkcclgcmpdgdjaaClA
set_option linter.unusedVariables false
set_option maxRecDepth 100000
namespace Go.Proofs.Ytkcclgcmpdgdjaa
open Go Go.Rai
noncomputable section
/-! loop.example/g00876/laws.szLegS -/
def c_laws_szLegS {R : Type} (x0 : List D) (x1 : Int) (k : Int → Option R) : Option R :=
  bif Decidable.decide (Go.IntKind.i64.wrap (x1 - (↑x0.length : Int)) < (0 : Int)) then
    k (-1 : Int)
  else
    k (Go.IntKind.i64.wrap (x1 - (↑x0.length : Int)))
theorem c_laws_szLegS_bind {R : Type} (x0 : List D) (x1 : Int) (k : Int → Option R) : c_laws_szLegS x0 x1 k = (c_laws_szLegS x0 x1 some).bind k := by
  unfold c_laws_szLegS
  repeat' first
    | exact bnd_tail
    | exact bnd_none
    | exact bnd_leaf
    | apply bnd_ite
    | apply bnd_cond
    | apply bnd_sum
    | (apply bnd_bind; intro _)
    | intro _
def laws_szLegS (x0 : List D) (x1 : Int) : Option (Int) := c_laws_szLegS x0 x1 some
def e_laws_szLegS : Ent := ⟨17, [.rd (.struct [.int .i64, .int .i64]), .int .i64], .int .i64, [.undef, .undef], fun _ ds k => dL (fun x0 ds => dI (fun x1 ds => dE ((laws_szLegS x0 x1).bind (fun y => k [.I y])) ds) ds) ds⟩
theorem q_laws_szLegS (x0 : List D) (x1 : Int) : runFn (ocOf []) (olOf []) A 17 Go.Proofs.Try.f17 (Sh.mks e_laws_szLegS.sh [.L x0, .I x1]).1 (fun v os => some (v, os)) = c_laws_szLegS x0 x1 (fun y => some ((e_laws_szLegS.res.mk [.I y]).1, e_laws_szLegS.outs)) := by kernel_rfl
theorem e_laws_szLegS_ok : e_laws_szLegS.ok Go.Proofs.Try.prog A := by
  intro R ds k r h
  unfold e_laws_szLegS at h
  obtain ⟨x0, d0, rfl, h0⟩ := dL_some h
  obtain ⟨x1, d1, rfl, h1⟩ := dI_some h0
  obtain ⟨rfl, hE⟩ := dE_some h1
  obtain ⟨y, hy, hk⟩ := bnd_some hE
  refine ⟨_, hk, fn_ok px (fx := ⟨Go.Proofs.Try.func17, by kernel_rfl, by kernel_rfl⟩) entsOK_nil lentsOK_nil ?_⟩
  have hq := q_laws_szLegS x0 x1
  rw [c_laws_szLegS_bind] at hq
  rw [show c_laws_szLegS x0 x1 some = some y from hy] at hq
  exact hq

/-! loop.example/g00876/laws.toLeg -/
def c_laws_toLeg {R : Type} (x0 : Int) (x1 : Int) (k : Int × Int → Option R) : Option R :=
  k (x0, x1)
theorem c_laws_toLeg_bind {R : Type} (x0 : Int) (x1 : Int) (k : Int × Int → Option R) : c_laws_toLeg x0 x1 k = (c_laws_toLeg x0 x1 some).bind k := by
  unfold c_laws_toLeg
  repeat' first
    | exact bnd_tail
    | exact bnd_none
    | exact bnd_leaf
    | apply bnd_ite
    | apply bnd_cond
    | apply bnd_sum
    | (apply bnd_bind; intro _)
    | intro _
def laws_toLeg (x0 : Int) (x1 : Int) : Option (Int × Int) := c_laws_toLeg x0 x1 some
def e_laws_toLeg : Ent := ⟨19, [.agg [.int .i64, .int .i64]], .agg [.int .i64, .int .i64], [.undef], fun _ ds k => dI (fun x0 ds => dI (fun x1 ds => dE ((laws_toLeg x0 x1).bind (fun y => k [.I y.1, .I y.2])) ds) ds) ds⟩
theorem q_laws_toLeg (x0 : Int) (x1 : Int) : runFn (ocOf []) (olOf []) A 19 Go.Proofs.Try.f19 (Sh.mks e_laws_toLeg.sh [.I x0, .I x1]).1 (fun v os => some (v, os)) = c_laws_toLeg x0 x1 (fun y => some ((e_laws_toLeg.res.mk [.I y.1, .I y.2]).1, e_laws_toLeg.outs)) := by kernel_rfl
theorem e_laws_toLeg_ok : e_laws_toLeg.ok Go.Proofs.Try.prog A := by
  intro R ds k r h
  unfold e_laws_toLeg at h
  obtain ⟨x0, d0, rfl, h0⟩ := dI_some h
  obtain ⟨x1, d1, rfl, h1⟩ := dI_some h0
  obtain ⟨rfl, hE⟩ := dE_some h1
  obtain ⟨y, hy, hk⟩ := bnd_some hE
  refine ⟨_, hk, fn_ok px (fx := ⟨Go.Proofs.Try.func19, by kernel_rfl, by kernel_rfl⟩) entsOK_nil lentsOK_nil ?_⟩
  have hq := q_laws_toLeg x0 x1
  rw [c_laws_toLeg_bind] at hq
  rw [show c_laws_toLeg x0 x1 some = some y from hy] at hq
  exact hq

/-! loop.example/g00876/laws.toLegS, loop 3 -/
def c_laws_toLegS_L3 {R : Type} (F : List D → Int → List D → Option (List D)) (x0 : List D) (x1 : Int) (x2 : List D) (k : List D → Option R) : Option R :=
  bif Decidable.decide (x1 < (↑x0.length : Int)) then
    if (0 : Int) ≤ x1 ∧ x1 < (↑x0.length : Int) then
      (laws_toLeg (((x0.getD x1.toNat (Go.Rai.D.int (0 : Int))).fld (0 : Nat)).toInt) (((x0.getD x1.toNat (Go.Rai.D.int (0 : Int))).fld (1 : Nat)).toInt)).bind (fun y0 =>
        if (0 : Int) ≤ x1 ∧ x1 < (↑x2.length : Int) then
          if x1.toNat + (1 : Nat) ≤ x2.length then
            (F x0 (Go.IntKind.i64.wrap (x1 + (1 : Int))) (x2.set x1.toNat (Go.Rai.D.node [Go.Rai.D.int y0.fst, Go.Rai.D.int y0.snd]))).bind k
          else
            none
        else
          none)
    else
      none
  else
    k x2
theorem c_laws_toLegS_L3_bind {R : Type} (F : List D → Int → List D → Option (List D)) (x0 : List D) (x1 : Int) (x2 : List D) (k : List D → Option R) : c_laws_toLegS_L3 F x0 x1 x2 k = (c_laws_toLegS_L3 F x0 x1 x2 some).bind k := by
  unfold c_laws_toLegS_L3
  repeat' first
    | exact bnd_tail
    | exact bnd_none
    | exact bnd_leaf
    | apply bnd_ite
    | apply bnd_cond
    | apply bnd_sum
    | (apply bnd_bind; intro _)
    | intro _
def n_laws_toLegS_L3 : Nat → List D → Int → List D → Option (List D)
  | 0, _, _, _ => none
  | n + 1, x0, x1, x2 => c_laws_toLegS_L3 (n_laws_toLegS_L3 n) x0 x1 x2 some
noncomputable def laws_toLegS_L3 (x0 : List D) (x1 : Int) (x2 : List D) : Option (List D) := ev (fun n => n_laws_toLegS_L3 n x0 x1 x2)
def m_laws_toLegS_L3 (F : List D → Int → List D → Option (List D)) : Lent := ⟨3, ⟨[.rd (.struct [.int .i64, .int .i64]), .undef, .undef, .full 1000 [] (.struct [.int .i64, .int .i64]), .int .i64, .undef, .undef, .undef, .undef, .undef, .undef, .undef, .undef, .undef, .undef, .undef, .undef, .undef, .undef, .undef, .undef, .undef, .undef], [(1000, .own (.struct [.int .i64, .int .i64]))]⟩, [(.exit 0, ⟨[.undef, .undef, .undef, .full 1000 [] (.struct [.int .i64, .int .i64]), .undef, .undef, .undef, .undef, .undef, .undef, .undef, .undef, .undef, .undef, .undef, .undef, .undef, .undef, .undef, .undef, .undef, .undef, .undef], [(1000, .own (.struct [.int .i64, .int .i64]))]⟩)], fun _ ds k => dL (fun x0 ds => dI (fun x1 ds => dL (fun x2 ds => dE ((F x0 x1 x2).bind (fun y => k 0 [.L y])) ds) ds) ds) ds⟩
theorem q_laws_toLegS_L3 (F : List D → Int → List D → Option (List D)) (x0 : List D) (x1 : Int) (x2 : List D) : runLoop (ocOf [e_laws_toLeg]) (olOf [m_laws_toLegS_L3 F]) A 20 (codeAt (bodyOf Go.Proofs.Try.f20) 3) ((m_laws_toLegS_L3 F).sh.mk' [.L x0, .I x1, .L x2]) (fun e σ' => some (e, σ')) = c_laws_toLegS_L3 F x0 x1 x2 (fun y => some (.exit 0, SSt.mk' ⟨[.undef, .undef, .undef, .full 1000 [] (.struct [.int .i64, .int .i64]), .undef, .undef, .undef, .undef, .undef, .undef, .undef, .undef, .undef, .undef, .undef, .undef, .undef, .undef, .undef, .undef, .undef, .undef, .undef], [(1000, .own (.struct [.int .i64, .int .i64]))]⟩ [.L y])) := by kernel_rfl
theorem m_laws_toLegS_L3_ok : ∀ n, (m_laws_toLegS_L3 (n_laws_toLegS_L3 n)).ok Go.Proofs.Try.prog (codeAt (bodyOf Go.Proofs.Try.f20) 3) := by
  intro n
  induction n with
  | zero =>
    intro R ds k r h
    unfold m_laws_toLegS_L3 at h
    obtain ⟨x0, d0, rfl, h0⟩ := dL_some h
    obtain ⟨x1, d1, rfl, h1⟩ := dI_some h0
    obtain ⟨x2, d2, rfl, h2⟩ := dL_some h1
    obtain ⟨rfl, hE⟩ := dE_some h2
    obtain ⟨y, hy, hk⟩ := bnd_some hE
    cases hy
  | succ n ih =>
    intro R ds k r h
    unfold m_laws_toLegS_L3 at h
    obtain ⟨x0, d0, rfl, h0⟩ := dL_some h
    obtain ⟨x1, d1, rfl, h1⟩ := dI_some h0
    obtain ⟨x2, d2, rfl, h2⟩ := dL_some h1
    obtain ⟨rfl, hE⟩ := dE_some h2
    obtain ⟨y, hy, hk⟩ := bnd_some hE
    have hq := q_laws_toLegS_L3 (n_laws_toLegS_L3 n) x0 x1 x2
    rw [c_laws_toLegS_L3_bind] at hq
    rw [show c_laws_toLegS_L3 (n_laws_toLegS_L3 n) x0 x1 x2 some = some y from hy] at hq
    refine ⟨0, _, _, _, hk, rfl, loop_ok px (fx := ⟨Go.Proofs.Try.func20, by kernel_rfl, by kernel_rfl⟩) (entsOK_cons e_laws_toLeg_ok entsOK_nil) (lentsOK_cons ih lentsOK_nil) (by kernel_rfl) ?_⟩
    exact hq
noncomputable def e_laws_toLegS_L3 : Lent := m_laws_toLegS_L3 laws_toLegS_L3
theorem e_laws_toLegS_L3_ok : e_laws_toLegS_L3.ok Go.Proofs.Try.prog (codeAt (bodyOf Go.Proofs.Try.f20) 3) := by
  intro R ds k r h
  unfold e_laws_toLegS_L3 m_laws_toLegS_L3 at h
  obtain ⟨x0, d0, rfl, h0⟩ := dL_some h
  obtain ⟨x1, d1, rfl, h1⟩ := dI_some h0
  obtain ⟨x2, d2, rfl, h2⟩ := dL_some h1
  obtain ⟨rfl, hE⟩ := dE_some h2
  obtain ⟨y, hy, hk⟩ := bnd_some hE
  obtain ⟨n, hn⟩ := ev_some hy
  exact m_laws_toLegS_L3_ok n R _ k r (show (n_laws_toLegS_L3 n x0 x1 x2).bind _ = _ by rw [hn]; exact hk)

/-! loop.example/g00876/laws.toLegS -/
def c_laws_toLegS {R : Type} (x0 : List D) (k : List D → Option R) : Option R :=
  if (0 : Int) ≤ (↑x0.length : Int) ∧ (↑x0.length : Int) ≤ (↑x0.length : Int) ∧ (↑x0.length : Int) ≤ (4294967296 : Int) then
    (laws_toLegS_L3 x0 (0 : Int) (List.replicate (↑x0.length : Int).toNat (Go.Rai.D.node [Go.Rai.D.int (0 : Int), Go.Rai.D.int (0 : Int)]))).bind (fun y0 =>
      k y0)
  else
    none
theorem c_laws_toLegS_bind {R : Type} (x0 : List D) (k : List D → Option R) : c_laws_toLegS x0 k = (c_laws_toLegS x0 some).bind k := by
  unfold c_laws_toLegS
  repeat' first
    | exact bnd_tail
    | exact bnd_none
    | exact bnd_leaf
    | apply bnd_ite
    | apply bnd_cond
    | apply bnd_sum
    | (apply bnd_bind; intro _)
    | intro _
def laws_toLegS (x0 : List D) : Option (List D) := c_laws_toLegS x0 some
def e_laws_toLegS : Ent := ⟨20, [.rd (.struct [.int .i64, .int .i64])], .own (.struct [.int .i64, .int .i64]), [.undef], fun _ ds k => dL (fun x0 ds => dE ((laws_toLegS x0).bind (fun y => k [.L y])) ds) ds⟩
theorem q_laws_toLegS (x0 : List D) : runFn (ocOf []) (olOf [e_laws_toLegS_L3]) A 20 Go.Proofs.Try.f20 (Sh.mks e_laws_toLegS.sh [.L x0]).1 (fun v os => some (v, os)) = c_laws_toLegS x0 (fun y => some ((e_laws_toLegS.res.mk [.L y]).1, e_laws_toLegS.outs)) := by kernel_rfl
theorem e_laws_toLegS_ok : e_laws_toLegS.ok Go.Proofs.Try.prog A := by
  intro R ds k r h
  unfold e_laws_toLegS at h
  obtain ⟨x0, d0, rfl, h0⟩ := dL_some h
  obtain ⟨rfl, hE⟩ := dE_some h0
  obtain ⟨y, hy, hk⟩ := bnd_some hE
  refine ⟨_, hk, fn_ok px (fx := ⟨Go.Proofs.Try.func20, by kernel_rfl, by kernel_rfl⟩) entsOK_nil (lentsOK_cons e_laws_toLegS_L3_ok lentsOK_nil) ?_⟩
  have hq := q_laws_toLegS x0
  rw [c_laws_toLegS_bind] at hq
  rw [show c_laws_toLegS x0 some = some y from hy] at hq
  exact hq

/-! loop.example/g00876/spec.l1In -/
def c_spec_l1In {R : Type} (x0 : Int) (x1 : Int) (x2 : Int) (k : Bool → Option R) : Option R :=
  bif Decidable.decide (x1 ≤ x0) then
    k (Decidable.decide (x0 ≤ x2))
  else
    k Bool.false
theorem c_spec_l1In_bind {R : Type} (x0 : Int) (x1 : Int) (x2 : Int) (k : Bool → Option R) : c_spec_l1In x0 x1 x2 k = (c_spec_l1In x0 x1 x2 some).bind k := by
  unfold c_spec_l1In
  repeat' first
    | exact bnd_tail
    | exact bnd_none
    | exact bnd_leaf
    | apply bnd_ite
    | apply bnd_cond
    | apply bnd_sum
    | (apply bnd_bind; intro _)
    | intro _
def spec_l1In (x0 : Int) (x1 : Int) (x2 : Int) : Option (Bool) := c_spec_l1In x0 x1 x2 some
def e_spec_l1In : Ent := ⟨61, [.int .i64, .int .i64, .int .i64], .bool, [.undef, .undef, .undef], fun _ ds k => dI (fun x0 ds => dI (fun x1 ds => dI (fun x2 ds => dE ((spec_l1In x0 x1 x2).bind (fun y => k [.B y])) ds) ds) ds) ds⟩
theorem q_spec_l1In (x0 : Int) (x1 : Int) (x2 : Int) : runFn (ocOf []) (olOf []) A 61 Go.Proofs.Try.f61 (Sh.mks e_spec_l1In.sh [.I x0, .I x1, .I x2]).1 (fun v os => some (v, os)) = c_spec_l1In x0 x1 x2 (fun y => some ((e_spec_l1In.res.mk [.B y]).1, e_spec_l1In.outs)) := by kernel_rfl
theorem e_spec_l1In_ok : e_spec_l1In.ok Go.Proofs.Try.prog A := by
  intro R ds k r h
  unfold e_spec_l1In at h
  obtain ⟨x0, d0, rfl, h0⟩ := dI_some h
  obtain ⟨x1, d1, rfl, h1⟩ := dI_some h0
  obtain ⟨x2, d2, rfl, h2⟩ := dI_some h1
  obtain ⟨rfl, hE⟩ := dE_some h2
  obtain ⟨y, hy, hk⟩ := bnd_some hE
  refine ⟨_, hk, fn_ok px (fx := ⟨Go.Proofs.Try.func61, by kernel_rfl, by kernel_rfl⟩) entsOK_nil lentsOK_nil ?_⟩
  have hq := q_spec_l1In x0 x1 x2
  rw [c_spec_l1In_bind] at hq
  rw [show c_spec_l1In x0 x1 x2 some = some y from hy] at hq
  exact hq

/-! loop.example/g00876/spec.l17Legs, loop 2 -/
def c_spec_l17Legs_L2 {R : Type} (F : List D → Int → Option ((List D × Bool) ⊕ (List D))) (x0 : List D) (x1 : Int) (k : (List D × Bool) ⊕ (List D) → Option R) : Option R :=
  bif Decidable.decide (x1 < (↑x0.length : Int)) then
    bif Decidable.decide (x1 ≤ (20 : Int)) then
      if (0 : Int) ≤ x1 ∧ x1 < (↑x0.length : Int) then
        (spec_l1In (((x0.getD x1.toNat (Go.Rai.D.int (0 : Int))).fld (0 : Nat)).toInt) (-100000 : Int) (100000 : Int)).bind (fun y0 =>
          bif !y0 then
            k (.inl (x0, Bool.false))
          else
            if (0 : Int) ≤ x1 ∧ x1 < (↑x0.length : Int) then
              (spec_l1In (((x0.getD x1.toNat (Go.Rai.D.int (0 : Int))).fld (1 : Nat)).toInt) (-100000 : Int) (100000 : Int)).bind (fun y1 =>
                bif !y1 then
                  k (.inl (x0, Bool.false))
                else
                  (F x0 (Go.IntKind.i64.wrap (x1 + (1 : Int)))).bind k)
            else
              none)
      else
        none
    else
      k (.inr x0)
  else
    k (.inr x0)
theorem c_spec_l17Legs_L2_bind {R : Type} (F : List D → Int → Option ((List D × Bool) ⊕ (List D))) (x0 : List D) (x1 : Int) (k : (List D × Bool) ⊕ (List D) → Option R) : c_spec_l17Legs_L2 F x0 x1 k = (c_spec_l17Legs_L2 F x0 x1 some).bind k := by
  unfold c_spec_l17Legs_L2
  repeat' first
    | exact bnd_tail
    | exact bnd_none
    | exact bnd_leaf
    | apply bnd_ite
    | apply bnd_cond
    | apply bnd_sum
    | (apply bnd_bind; intro _)
    | intro _
def n_spec_l17Legs_L2 : Nat → List D → Int → Option ((List D × Bool) ⊕ (List D))
  | 0, _, _ => none
  | n + 1, x0, x1 => c_spec_l17Legs_L2 (n_spec_l17Legs_L2 n) x0 x1 some
noncomputable def spec_l17Legs_L2 (x0 : List D) (x1 : Int) : Option ((List D × Bool) ⊕ (List D)) := ev (fun n => n_spec_l17Legs_L2 n x0 x1)
def m_spec_l17Legs_L2 (F : List D → Int → Option ((List D × Bool) ⊕ (List D))) : Lent := ⟨2, ⟨[.rd (.struct [.int .i64, .int .i64]), .undef, .undef, .int .i64, .undef, .undef, .undef, .undef, .undef, .undef, .undef, .undef, .undef, .undef, .undef, .undef, .undef, .undef, .undef, .undef, .undef, .undef, .undef, .undef, .undef, .undef, .undef, .undef, .undef, .undef, .undef, .undef, .undef], []⟩, [(.ret, ⟨[.rd (.struct [.int .i64, .int .i64]), .undef, .bool, .undef, .undef, .undef, .undef, .undef, .undef, .undef, .undef, .undef, .undef, .undef, .undef, .undef, .undef, .undef, .undef, .undef, .undef, .undef, .undef, .undef, .undef, .undef, .undef, .undef, .undef, .undef, .undef, .undef, .undef], []⟩), (.exit 0, ⟨[.rd (.struct [.int .i64, .int .i64]), .undef, .undef, .undef, .undef, .undef, .undef, .undef, .undef, .undef, .undef, .undef, .undef, .undef, .undef, .undef, .undef, .undef, .undef, .undef, .undef, .undef, .undef, .undef, .undef, .undef, .undef, .undef, .undef, .undef, .undef, .undef, .undef], []⟩)], fun _ ds k => dL (fun x0 ds => dI (fun x1 ds => dE ((F x0 x1).bind (Sum.elim (fun y => k 0 [.L y.1, .B y.2]) (fun y => k 1 [.L y]))) ds) ds) ds⟩
theorem q_spec_l17Legs_L2 (F : List D → Int → Option ((List D × Bool) ⊕ (List D))) (x0 : List D) (x1 : Int) : runLoop (ocOf [e_spec_l1In]) (olOf [m_spec_l17Legs_L2 F]) A 69 (codeAt (bodyOf Go.Proofs.Try.f69) 2) ((m_spec_l17Legs_L2 F).sh.mk' [.L x0, .I x1]) (fun e σ' => some (e, σ')) = c_spec_l17Legs_L2 F x0 x1 (Sum.elim (fun y => some (.ret, SSt.mk' ⟨[.rd (.struct [.int .i64, .int .i64]), .undef, .bool, .undef, .undef, .undef, .undef, .undef, .undef, .undef, .undef, .undef, .undef, .undef, .undef, .undef, .undef, .undef, .undef, .undef, .undef, .undef, .undef, .undef, .undef, .undef, .undef, .undef, .undef, .undef, .undef, .undef, .undef], []⟩ [.L y.1, .B y.2])) (fun y => some (.exit 0, SSt.mk' ⟨[.rd (.struct [.int .i64, .int .i64]), .undef, .undef, .undef, .undef, .undef, .undef, .undef, .undef, .undef, .undef, .undef, .undef, .undef, .undef, .undef, .undef, .undef, .undef, .undef, .undef, .undef, .undef, .undef, .undef, .undef, .undef, .undef, .undef, .undef, .undef, .undef, .undef], []⟩ [.L y]))) := by kernel_rfl
theorem m_spec_l17Legs_L2_ok : ∀ n, (m_spec_l17Legs_L2 (n_spec_l17Legs_L2 n)).ok Go.Proofs.Try.prog (codeAt (bodyOf Go.Proofs.Try.f69) 2) := by
  intro n
  induction n with
  | zero =>
    intro R ds k r h
    unfold m_spec_l17Legs_L2 at h
    obtain ⟨x0, d0, rfl, h0⟩ := dL_some h
    obtain ⟨x1, d1, rfl, h1⟩ := dI_some h0
    obtain ⟨rfl, hE⟩ := dE_some h1
    obtain ⟨y, hy, hk⟩ := bnd_some hE
    cases hy
  | succ n ih =>
    intro R ds k r h
    unfold m_spec_l17Legs_L2 at h
    obtain ⟨x0, d0, rfl, h0⟩ := dL_some h
    obtain ⟨x1, d1, rfl, h1⟩ := dI_some h0
    obtain ⟨rfl, hE⟩ := dE_some h1
    obtain ⟨y, hy, hk⟩ := bnd_some hE
    have hq := q_spec_l17Legs_L2 (n_spec_l17Legs_L2 n) x0 x1
    rw [c_spec_l17Legs_L2_bind] at hq
    rw [show c_spec_l17Legs_L2 (n_spec_l17Legs_L2 n) x0 x1 some = some y from hy] at hq
    cases y with
    | inl y =>
      refine ⟨0, _, _, _, hk, rfl, loop_ok px (fx := ⟨Go.Proofs.Try.func69, by kernel_rfl, by kernel_rfl⟩) (entsOK_cons e_spec_l1In_ok entsOK_nil) (lentsOK_cons ih lentsOK_nil) (by kernel_rfl) ?_⟩
      exact hq
    | inr y =>
      refine ⟨1, _, _, _, hk, rfl, loop_ok px (fx := ⟨Go.Proofs.Try.func69, by kernel_rfl, by kernel_rfl⟩) (entsOK_cons e_spec_l1In_ok entsOK_nil) (lentsOK_cons ih lentsOK_nil) (by kernel_rfl) ?_⟩
      exact hq
noncomputable def e_spec_l17Legs_L2 : Lent := m_spec_l17Legs_L2 spec_l17Legs_L2
theorem e_spec_l17Legs_L2_ok : e_spec_l17Legs_L2.ok Go.Proofs.Try.prog (codeAt (bodyOf Go.Proofs.Try.f69) 2) := by
  intro R ds k r h
  unfold e_spec_l17Legs_L2 m_spec_l17Legs_L2 at h
  obtain ⟨x0, d0, rfl, h0⟩ := dL_some h
  obtain ⟨x1, d1, rfl, h1⟩ := dI_some h0
  obtain ⟨rfl, hE⟩ := dE_some h1
  obtain ⟨y, hy, hk⟩ := bnd_some hE
  obtain ⟨n, hn⟩ := ev_some hy
  exact m_spec_l17Legs_L2_ok n R _ k r (show (n_spec_l17Legs_L2 n x0 x1).bind _ = _ by rw [hn]; exact hk)

/-! loop.example/g00876/spec.l17Legs -/
def c_spec_l17Legs {R : Type} (x0 : List D) (k : Bool → Option R) : Option R :=
  (spec_l17Legs_L2 x0 (0 : Int)).bind (Sum.elim (fun y0 =>
    k y0.snd) (fun y1 =>
    (spec_l1In (↑y1.length : Int) (1 : Int) (20 : Int)).bind (fun y2 =>
      k y2)))
theorem c_spec_l17Legs_bind {R : Type} (x0 : List D) (k : Bool → Option R) : c_spec_l17Legs x0 k = (c_spec_l17Legs x0 some).bind k := by
  unfold c_spec_l17Legs
  repeat' first
    | exact bnd_tail
    | exact bnd_none
    | exact bnd_leaf
    | apply bnd_ite
    | apply bnd_cond
    | apply bnd_sum
    | (apply bnd_bind; intro _)
    | intro _
def spec_l17Legs (x0 : List D) : Option (Bool) := c_spec_l17Legs x0 some
def e_spec_l17Legs : Ent := ⟨69, [.rd (.struct [.int .i64, .int .i64])], .bool, [.undef], fun _ ds k => dL (fun x0 ds => dE ((spec_l17Legs x0).bind (fun y => k [.B y])) ds) ds⟩
theorem q_spec_l17Legs (x0 : List D) : runFn (ocOf [e_spec_l1In]) (olOf [e_spec_l17Legs_L2]) A 69 Go.Proofs.Try.f69 (Sh.mks e_spec_l17Legs.sh [.L x0]).1 (fun v os => some (v, os)) = c_spec_l17Legs x0 (fun y => some ((e_spec_l17Legs.res.mk [.B y]).1, e_spec_l17Legs.outs)) := by kernel_rfl
theorem e_spec_l17Legs_ok : e_spec_l17Legs.ok Go.Proofs.Try.prog A := by
  intro R ds k r h
  unfold e_spec_l17Legs at h
  obtain ⟨x0, d0, rfl, h0⟩ := dL_some h
  obtain ⟨rfl, hE⟩ := dE_some h0
  obtain ⟨y, hy, hk⟩ := bnd_some hE
  refine ⟨_, hk, fn_ok px (fx := ⟨Go.Proofs.Try.func69, by kernel_rfl, by kernel_rfl⟩) (entsOK_cons e_spec_l1In_ok entsOK_nil) (lentsOK_cons e_spec_l17Legs_L2_ok lentsOK_nil) ?_⟩
  have hq := q_spec_l17Legs x0
  rw [c_spec_l17Legs_bind] at hq
  rw [show c_spec_l17Legs x0 some = some y from hy] at hq
  exact hq

/-! loop.example/g00876/spec.l17Point -/
def c_spec_l17Point {R : Type} (x0 : Int) (x1 : Int) (k : Bool → Option R) : Option R :=
  (spec_l1In x0 (-1000000 : Int) (1000000 : Int)).bind (fun y0 =>
    bif y0 then
      (spec_l1In x1 (-1000000 : Int) (1000000 : Int)).bind (fun y1 =>
        k y1)
    else
      k Bool.false)
theorem c_spec_l17Point_bind {R : Type} (x0 : Int) (x1 : Int) (k : Bool → Option R) : c_spec_l17Point x0 x1 k = (c_spec_l17Point x0 x1 some).bind k := by
  unfold c_spec_l17Point
  repeat' first
    | exact bnd_tail
    | exact bnd_none
    | exact bnd_leaf
    | apply bnd_ite
    | apply bnd_cond
    | apply bnd_sum
    | (apply bnd_bind; intro _)
    | intro _
def spec_l17Point (x0 : Int) (x1 : Int) : Option (Bool) := c_spec_l17Point x0 x1 some
def e_spec_l17Point : Ent := ⟨48, [.agg [.int .i64, .int .i64]], .bool, [.undef], fun _ ds k => dI (fun x0 ds => dI (fun x1 ds => dE ((spec_l17Point x0 x1).bind (fun y => k [.B y])) ds) ds) ds⟩
theorem q_spec_l17Point (x0 : Int) (x1 : Int) : runFn (ocOf [e_spec_l1In]) (olOf []) A 48 Go.Proofs.Try.f48 (Sh.mks e_spec_l17Point.sh [.I x0, .I x1]).1 (fun v os => some (v, os)) = c_spec_l17Point x0 x1 (fun y => some ((e_spec_l17Point.res.mk [.B y]).1, e_spec_l17Point.outs)) := by kernel_rfl
theorem e_spec_l17Point_ok : e_spec_l17Point.ok Go.Proofs.Try.prog A := by
  intro R ds k r h
  unfold e_spec_l17Point at h
  obtain ⟨x0, d0, rfl, h0⟩ := dI_some h
  obtain ⟨x1, d1, rfl, h1⟩ := dI_some h0
  obtain ⟨rfl, hE⟩ := dE_some h1
  obtain ⟨y, hy, hk⟩ := bnd_some hE
  refine ⟨_, hk, fn_ok px (fx := ⟨Go.Proofs.Try.func48, by kernel_rfl, by kernel_rfl⟩) (entsOK_cons e_spec_l1In_ok entsOK_nil) lentsOK_nil ?_⟩
  have hq := q_spec_l17Point x0 x1
  rw [c_spec_l17Point_bind] at hq
  rw [show c_spec_l17Point x0 x1 some = some y from hy] at hq
  exact hq

/-! loop.example/g00876/spec.l17Points, loop 6 -/
def c_spec_l17Points_L6 {R : Type} (F : List D → Int → List D → Int → Int → Option ((Bool × List D × List D) ⊕ (List D))) (x0 : List D) (x1 : Int) (x2 : List D) (x3 : Int) (x4 : Int) (k : (Bool × List D × List D) ⊕ (List D) → Option R) : Option R :=
  bif Decidable.decide (x1 < (↑x0.length : Int)) then
    if (0 : Int) ≤ x1 ∧ x1 < (↑x0.length : Int) then
      if (0 : Int) ≤ x1 ∧ x1 < (↑x0.length : Int) then
        (spec_l17Point (Go.IntKind.i64.wrap (x3 + ((x0.getD x1.toNat (Go.Rai.D.int (0 : Int))).fld (0 : Nat)).toInt)) (Go.IntKind.i64.wrap (x4 + ((x0.getD x1.toNat (Go.Rai.D.int (0 : Int))).fld (1 : Nat)).toInt))).bind (fun y0 =>
          bif !y0 then
            k (.inl (Bool.false, [], x2))
          else
            if x2.length + [Go.Rai.D.node [Go.Rai.D.int (Go.IntKind.i64.wrap (x3 + ((x0.getD x1.toNat (Go.Rai.D.int (0 : Int))).fld (0 : Nat)).toInt)), Go.Rai.D.int (Go.IntKind.i64.wrap (x4 + ((x0.getD x1.toNat (Go.Rai.D.int (0 : Int))).fld (1 : Nat)).toInt))]].length ≤ (4294967296 : Nat) then
              (F x0 (Go.IntKind.i64.wrap (x1 + (1 : Int))) (x2 ++ [Go.Rai.D.node [Go.Rai.D.int (Go.IntKind.i64.wrap (x3 + ((x0.getD x1.toNat (Go.Rai.D.int (0 : Int))).fld (0 : Nat)).toInt)), Go.Rai.D.int (Go.IntKind.i64.wrap (x4 + ((x0.getD x1.toNat (Go.Rai.D.int (0 : Int))).fld (1 : Nat)).toInt))]]) (Go.IntKind.i64.wrap (x3 + ((x0.getD x1.toNat (Go.Rai.D.int (0 : Int))).fld (0 : Nat)).toInt)) (Go.IntKind.i64.wrap (x4 + ((x0.getD x1.toNat (Go.Rai.D.int (0 : Int))).fld (1 : Nat)).toInt))).bind k
            else
              none)
      else
        none
    else
      none
  else
    k (.inr x2)
theorem c_spec_l17Points_L6_bind {R : Type} (F : List D → Int → List D → Int → Int → Option ((Bool × List D × List D) ⊕ (List D))) (x0 : List D) (x1 : Int) (x2 : List D) (x3 : Int) (x4 : Int) (k : (Bool × List D × List D) ⊕ (List D) → Option R) : c_spec_l17Points_L6 F x0 x1 x2 x3 x4 k = (c_spec_l17Points_L6 F x0 x1 x2 x3 x4 some).bind k := by
  unfold c_spec_l17Points_L6
  repeat' first
    | exact bnd_tail
    | exact bnd_none
    | exact bnd_leaf
    | apply bnd_ite
    | apply bnd_cond
    | apply bnd_sum
    | (apply bnd_bind; intro _)
    | intro _
def n_spec_l17Points_L6 : Nat → List D → Int → List D → Int → Int → Option ((Bool × List D × List D) ⊕ (List D))
  | 0, _, _, _, _, _ => none
  | n + 1, x0, x1, x2, x3, x4 => c_spec_l17Points_L6 (n_spec_l17Points_L6 n) x0 x1 x2 x3 x4 some
noncomputable def spec_l17Points_L6 (x0 : List D) (x1 : Int) (x2 : List D) (x3 : Int) (x4 : Int) : Option ((Bool × List D × List D) ⊕ (List D)) := ev (fun n => n_spec_l17Points_L6 n x0 x1 x2 x3 x4)
def m_spec_l17Points_L6 (F : List D → Int → List D → Int → Int → Option ((Bool × List D × List D) ⊕ (List D))) : Lent := ⟨6, ⟨[.undef, .rd (.struct [.int .i64, .int .i64]), .undef, .undef, .undef, .undef, .full 1000 [] (.struct [.int .i64, .int .i64]), .ptr 1001 [0], .int .i64, .undef, .undef, .undef, .undef, .undef, .undef, .undef, .undef, .undef, .undef, .undef, .undef, .undef, .undef, .undef, .undef, .undef, .undef, .undef, .undef, .undef, .undef, .undef, .undef, .undef, .undef, .undef, .undef, .undef, .undef, .undef, .undef, .undef, .undef, .undef, .undef, .undef, .undef, .undef, .undef, .undef, .undef, .undef], [(1000, .own (.struct [.int .i64, .int .i64])), (1001, .obox (.agg [.int .i64, .int .i64]))]⟩, [(.ret, ⟨[.undef, .undef, .undef, .undef, .full 1000 [] (.struct [.int .i64, .int .i64]), .bool, .full 1001 [] (.struct [.int .i64, .int .i64]), .undef, .undef, .undef, .undef, .undef, .undef, .undef, .undef, .undef, .undef, .undef, .undef, .undef, .undef, .undef, .undef, .undef, .undef, .undef, .undef, .undef, .undef, .undef, .undef, .undef, .undef, .undef, .undef, .undef, .undef, .undef, .undef, .undef, .undef, .undef, .undef, .undef, .undef, .undef, .undef, .undef, .undef, .undef, .undef, .undef], [(1000, .own (.struct [.int .i64, .int .i64])), (1001, .own (.struct [.int .i64, .int .i64]))]⟩), (.exit 0, ⟨[.undef, .undef, .undef, .undef, .undef, .undef, .full 1000 [] (.struct [.int .i64, .int .i64]), .undef, .undef, .undef, .undef, .undef, .undef, .undef, .undef, .undef, .undef, .undef, .undef, .undef, .undef, .undef, .undef, .undef, .undef, .undef, .undef, .undef, .undef, .undef, .undef, .undef, .undef, .undef, .undef, .undef, .undef, .undef, .undef, .undef, .undef, .undef, .undef, .undef, .undef, .undef, .undef, .undef, .undef, .undef, .undef, .undef], [(1000, .own (.struct [.int .i64, .int .i64]))]⟩)], fun _ ds k => dL (fun x0 ds => dI (fun x1 ds => dL (fun x2 ds => dI (fun x3 ds => dI (fun x4 ds => dE ((F x0 x1 x2 x3 x4).bind (Sum.elim (fun y => k 0 [.B y.1, .L y.2.1, .L y.2.2]) (fun y => k 1 [.L y]))) ds) ds) ds) ds) ds) ds⟩
theorem q_spec_l17Points_L6 (F : List D → Int → List D → Int → Int → Option ((Bool × List D × List D) ⊕ (List D))) (x0 : List D) (x1 : Int) (x2 : List D) (x3 : Int) (x4 : Int) : runLoop (ocOf [e_spec_l17Point]) (olOf [m_spec_l17Points_L6 F]) A 46 (codeAt (bodyOf Go.Proofs.Try.f46) 6) ((m_spec_l17Points_L6 F).sh.mk' [.L x0, .I x1, .L x2, .I x3, .I x4]) (fun e σ' => some (e, σ')) = c_spec_l17Points_L6 F x0 x1 x2 x3 x4 (Sum.elim (fun y => some (.ret, SSt.mk' ⟨[.undef, .undef, .undef, .undef, .full 1000 [] (.struct [.int .i64, .int .i64]), .bool, .full 1001 [] (.struct [.int .i64, .int .i64]), .undef, .undef, .undef, .undef, .undef, .undef, .undef, .undef, .undef, .undef, .undef, .undef, .undef, .undef, .undef, .undef, .undef, .undef, .undef, .undef, .undef, .undef, .undef, .undef, .undef, .undef, .undef, .undef, .undef, .undef, .undef, .undef, .undef, .undef, .undef, .undef, .undef, .undef, .undef, .undef, .undef, .undef, .undef, .undef, .undef], [(1000, .own (.struct [.int .i64, .int .i64])), (1001, .own (.struct [.int .i64, .int .i64]))]⟩ [.B y.1, .L y.2.1, .L y.2.2])) (fun y => some (.exit 0, SSt.mk' ⟨[.undef, .undef, .undef, .undef, .undef, .undef, .full 1000 [] (.struct [.int .i64, .int .i64]), .undef, .undef, .undef, .undef, .undef, .undef, .undef, .undef, .undef, .undef, .undef, .undef, .undef, .undef, .undef, .undef, .undef, .undef, .undef, .undef, .undef, .undef, .undef, .undef, .undef, .undef, .undef, .undef, .undef, .undef, .undef, .undef, .undef, .undef, .undef, .undef, .undef, .undef, .undef, .undef, .undef, .undef, .undef, .undef, .undef], [(1000, .own (.struct [.int .i64, .int .i64]))]⟩ [.L y]))) := by kernel_rfl
theorem m_spec_l17Points_L6_ok : ∀ n, (m_spec_l17Points_L6 (n_spec_l17Points_L6 n)).ok Go.Proofs.Try.prog (codeAt (bodyOf Go.Proofs.Try.f46) 6) := by
  intro n
  induction n with
  | zero =>
    intro R ds k r h
    unfold m_spec_l17Points_L6 at h
    obtain ⟨x0, d0, rfl, h0⟩ := dL_some h
    obtain ⟨x1, d1, rfl, h1⟩ := dI_some h0
    obtain ⟨x2, d2, rfl, h2⟩ := dL_some h1
    obtain ⟨x3, d3, rfl, h3⟩ := dI_some h2
    obtain ⟨x4, d4, rfl, h4⟩ := dI_some h3
    obtain ⟨rfl, hE⟩ := dE_some h4
    obtain ⟨y, hy, hk⟩ := bnd_some hE
    cases hy
  | succ n ih =>
    intro R ds k r h
    unfold m_spec_l17Points_L6 at h
    obtain ⟨x0, d0, rfl, h0⟩ := dL_some h
    obtain ⟨x1, d1, rfl, h1⟩ := dI_some h0
    obtain ⟨x2, d2, rfl, h2⟩ := dL_some h1
    obtain ⟨x3, d3, rfl, h3⟩ := dI_some h2
    obtain ⟨x4, d4, rfl, h4⟩ := dI_some h3
    obtain ⟨rfl, hE⟩ := dE_some h4
    obtain ⟨y, hy, hk⟩ := bnd_some hE
    have hq := q_spec_l17Points_L6 (n_spec_l17Points_L6 n) x0 x1 x2 x3 x4
    rw [c_spec_l17Points_L6_bind] at hq
    rw [show c_spec_l17Points_L6 (n_spec_l17Points_L6 n) x0 x1 x2 x3 x4 some = some y from hy] at hq
    cases y with
    | inl y =>
      refine ⟨0, _, _, _, hk, rfl, loop_ok px (fx := ⟨Go.Proofs.Try.func46, by kernel_rfl, by kernel_rfl⟩) (entsOK_cons e_spec_l17Point_ok entsOK_nil) (lentsOK_cons ih lentsOK_nil) (by kernel_rfl) ?_⟩
      exact hq
    | inr y =>
      refine ⟨1, _, _, _, hk, rfl, loop_ok px (fx := ⟨Go.Proofs.Try.func46, by kernel_rfl, by kernel_rfl⟩) (entsOK_cons e_spec_l17Point_ok entsOK_nil) (lentsOK_cons ih lentsOK_nil) (by kernel_rfl) ?_⟩
      exact hq
noncomputable def e_spec_l17Points_L6 : Lent := m_spec_l17Points_L6 spec_l17Points_L6
theorem e_spec_l17Points_L6_ok : e_spec_l17Points_L6.ok Go.Proofs.Try.prog (codeAt (bodyOf Go.Proofs.Try.f46) 6) := by
  intro R ds k r h
  unfold e_spec_l17Points_L6 m_spec_l17Points_L6 at h
  obtain ⟨x0, d0, rfl, h0⟩ := dL_some h
  obtain ⟨x1, d1, rfl, h1⟩ := dI_some h0
  obtain ⟨x2, d2, rfl, h2⟩ := dL_some h1
  obtain ⟨x3, d3, rfl, h3⟩ := dI_some h2
  obtain ⟨x4, d4, rfl, h4⟩ := dI_some h3
  obtain ⟨rfl, hE⟩ := dE_some h4
  obtain ⟨y, hy, hk⟩ := bnd_some hE
  obtain ⟨n, hn⟩ := ev_some hy
  exact m_spec_l17Points_L6_ok n R _ k r (show (n_spec_l17Points_L6 n x0 x1 x2 x3 x4).bind _ = _ by rw [hn]; exact hk)

/-! loop.example/g00876/spec.l17Points -/
def c_spec_l17Points {R : Type} (x0 : Int) (x1 : Int) (x2 : List D) (k : List D × Bool → Option R) : Option R :=
  (spec_l17Legs x2).bind (fun y0 =>
    bif !y0 then
      k ([], Bool.false)
    else
      (spec_l17Point x0 x1).bind (fun y1 =>
        bif !y1 then
          k ([], Bool.false)
        else
          (spec_l17Points_L6 x2 (0 : Int) [] x0 x1).bind (Sum.elim (fun y2 =>
            k (y2.snd.fst, y2.fst)) (fun y3 =>
            k (y3, Bool.true)))))
theorem c_spec_l17Points_bind {R : Type} (x0 : Int) (x1 : Int) (x2 : List D) (k : List D × Bool → Option R) : c_spec_l17Points x0 x1 x2 k = (c_spec_l17Points x0 x1 x2 some).bind k := by
  unfold c_spec_l17Points
  repeat' first
    | exact bnd_tail
    | exact bnd_none
    | exact bnd_leaf
    | apply bnd_ite
    | apply bnd_cond
    | apply bnd_sum
    | (apply bnd_bind; intro _)
    | intro _
def spec_l17Points (x0 : Int) (x1 : Int) (x2 : List D) : Option (List D × Bool) := c_spec_l17Points x0 x1 x2 some
def e_spec_l17Points : Ent := ⟨46, [.agg [.int .i64, .int .i64], .rd (.struct [.int .i64, .int .i64])], .tup [.own (.struct [.int .i64, .int .i64]), .bool], [.undef, .undef], fun _ ds k => dI (fun x0 ds => dI (fun x1 ds => dL (fun x2 ds => dE ((spec_l17Points x0 x1 x2).bind (fun y => k [.L y.1, .B y.2])) ds) ds) ds) ds⟩
theorem q_spec_l17Points (x0 : Int) (x1 : Int) (x2 : List D) : runFn (ocOf [e_spec_l17Legs, e_spec_l17Point]) (olOf [e_spec_l17Points_L6]) A 46 Go.Proofs.Try.f46 (Sh.mks e_spec_l17Points.sh [.I x0, .I x1, .L x2]).1 (fun v os => some (v, os)) = c_spec_l17Points x0 x1 x2 (fun y => some ((e_spec_l17Points.res.mk [.L y.1, .B y.2]).1, e_spec_l17Points.outs)) := by kernel_rfl
theorem e_spec_l17Points_ok : e_spec_l17Points.ok Go.Proofs.Try.prog A := by
  intro R ds k r h
  unfold e_spec_l17Points at h
  obtain ⟨x0, d0, rfl, h0⟩ := dI_some h
  obtain ⟨x1, d1, rfl, h1⟩ := dI_some h0
  obtain ⟨x2, d2, rfl, h2⟩ := dL_some h1
  obtain ⟨rfl, hE⟩ := dE_some h2
  obtain ⟨y, hy, hk⟩ := bnd_some hE
  refine ⟨_, hk, fn_ok px (fx := ⟨Go.Proofs.Try.func46, by kernel_rfl, by kernel_rfl⟩) (entsOK_cons e_spec_l17Legs_ok (entsOK_cons e_spec_l17Point_ok entsOK_nil)) (lentsOK_cons e_spec_l17Points_L6_ok lentsOK_nil) ?_⟩
  have hq := q_spec_l17Points x0 x1 x2
  rw [c_spec_l17Points_bind] at hq
  rw [show c_spec_l17Points x0 x1 x2 some = some y from hy] at hq
  exact hq

/-! loop.example/g00876/spec.TraverseEnd -/
def c_spec_TraverseEnd {R : Type} (x0 : Int) (x1 : Int) (x2 : List D) (k : Int × Int × Bool → Option R) : Option R :=
  (spec_l17Points x0 x1 x2).bind (fun y0 =>
    bif !y0.snd then
      k ((0 : Int), (0 : Int), Bool.false)
    else
      if (0 : Int) ≤ Go.IntKind.i64.wrap ((↑y0.fst.length : Int) - (1 : Int)) ∧ Go.IntKind.i64.wrap ((↑y0.fst.length : Int) - (1 : Int)) < (↑y0.fst.length : Int) then
        if (Go.IntKind.i64.wrap ((↑y0.fst.length : Int) - (1 : Int))).toNat + (1 : Nat) ≤ y0.fst.length then
          k (((y0.fst.getD (Go.IntKind.i64.wrap ((↑y0.fst.length : Int) - (1 : Int))).toNat (Go.Rai.D.int (0 : Int))).fld (0 : Nat)).toInt, ((y0.fst.getD (Go.IntKind.i64.wrap ((↑y0.fst.length : Int) - (1 : Int))).toNat (Go.Rai.D.int (0 : Int))).fld (1 : Nat)).toInt, Bool.true)
        else
          none
      else
        none)
theorem c_spec_TraverseEnd_bind {R : Type} (x0 : Int) (x1 : Int) (x2 : List D) (k : Int × Int × Bool → Option R) : c_spec_TraverseEnd x0 x1 x2 k = (c_spec_TraverseEnd x0 x1 x2 some).bind k := by
  unfold c_spec_TraverseEnd
  repeat' first
    | exact bnd_tail
    | exact bnd_none
    | exact bnd_leaf
    | apply bnd_ite
    | apply bnd_cond
    | apply bnd_sum
    | (apply bnd_bind; intro _)
    | intro _
def spec_TraverseEnd (x0 : Int) (x1 : Int) (x2 : List D) : Option (Int × Int × Bool) := c_spec_TraverseEnd x0 x1 x2 some
def e_spec_TraverseEnd : Ent := ⟨18, [.agg [.int .i64, .int .i64], .rd (.struct [.int .i64, .int .i64])], .tup [.agg [.int .i64, .int .i64], .bool], [.undef, .undef], fun _ ds k => dI (fun x0 ds => dI (fun x1 ds => dL (fun x2 ds => dE ((spec_TraverseEnd x0 x1 x2).bind (fun y => k [.I y.1, .I y.2.1, .B y.2.2])) ds) ds) ds) ds⟩
theorem q_spec_TraverseEnd (x0 : Int) (x1 : Int) (x2 : List D) : runFn (ocOf [e_spec_l17Points]) (olOf []) A 18 Go.Proofs.Try.f18 (Sh.mks e_spec_TraverseEnd.sh [.I x0, .I x1, .L x2]).1 (fun v os => some (v, os)) = c_spec_TraverseEnd x0 x1 x2 (fun y => some ((e_spec_TraverseEnd.res.mk [.I y.1, .I y.2.1, .B y.2.2]).1, e_spec_TraverseEnd.outs)) := by kernel_rfl
theorem e_spec_TraverseEnd_ok : e_spec_TraverseEnd.ok Go.Proofs.Try.prog A := by
  intro R ds k r h
  unfold e_spec_TraverseEnd at h
  obtain ⟨x0, d0, rfl, h0⟩ := dI_some h
  obtain ⟨x1, d1, rfl, h1⟩ := dI_some h0
  obtain ⟨x2, d2, rfl, h2⟩ := dL_some h1
  obtain ⟨rfl, hE⟩ := dE_some h2
  obtain ⟨y, hy, hk⟩ := bnd_some hE
  refine ⟨_, hk, fn_ok px (fx := ⟨Go.Proofs.Try.func18, by kernel_rfl, by kernel_rfl⟩) (entsOK_cons e_spec_l17Points_ok entsOK_nil) lentsOK_nil ?_⟩
  have hq := q_spec_TraverseEnd x0 x1 x2
  rw [c_spec_TraverseEnd_bind] at hq
  rw [show c_spec_TraverseEnd x0 x1 x2 some = some y from hy] at hq
  exact hq

/-! loop.example/g00876/spec.Misclosure -/
def c_spec_Misclosure {R : Type} (x0 : Int) (x1 : Int) (x2 : List D) (x3 : Int) (x4 : Int) (k : Int × Int × Bool → Option R) : Option R :=
  (spec_TraverseEnd x0 x1 x2).bind (fun y0 =>
    bif !y0.snd.snd then
      k ((0 : Int), (0 : Int), Bool.false)
    else
      (spec_l17Point x3 x4).bind (fun y1 =>
        bif !y1 then
          k ((0 : Int), (0 : Int), Bool.false)
        else
          k (Go.IntKind.i64.wrap (y0.fst - x3), Go.IntKind.i64.wrap (y0.snd.fst - x4), Bool.true)))
theorem c_spec_Misclosure_bind {R : Type} (x0 : Int) (x1 : Int) (x2 : List D) (x3 : Int) (x4 : Int) (k : Int × Int × Bool → Option R) : c_spec_Misclosure x0 x1 x2 x3 x4 k = (c_spec_Misclosure x0 x1 x2 x3 x4 some).bind k := by
  unfold c_spec_Misclosure
  repeat' first
    | exact bnd_tail
    | exact bnd_none
    | exact bnd_leaf
    | apply bnd_ite
    | apply bnd_cond
    | apply bnd_sum
    | (apply bnd_bind; intro _)
    | intro _
def spec_Misclosure (x0 : Int) (x1 : Int) (x2 : List D) (x3 : Int) (x4 : Int) : Option (Int × Int × Bool) := c_spec_Misclosure x0 x1 x2 x3 x4 some
def e_spec_Misclosure : Ent := ⟨24, [.agg [.int .i64, .int .i64], .rd (.struct [.int .i64, .int .i64]), .agg [.int .i64, .int .i64]], .tup [.agg [.int .i64, .int .i64], .bool], [.undef, .undef, .undef], fun _ ds k => dI (fun x0 ds => dI (fun x1 ds => dL (fun x2 ds => dI (fun x3 ds => dI (fun x4 ds => dE ((spec_Misclosure x0 x1 x2 x3 x4).bind (fun y => k [.I y.1, .I y.2.1, .B y.2.2])) ds) ds) ds) ds) ds) ds⟩
theorem q_spec_Misclosure (x0 : Int) (x1 : Int) (x2 : List D) (x3 : Int) (x4 : Int) : runFn (ocOf [e_spec_TraverseEnd, e_spec_l17Point]) (olOf []) A 24 Go.Proofs.Try.f24 (Sh.mks e_spec_Misclosure.sh [.I x0, .I x1, .L x2, .I x3, .I x4]).1 (fun v os => some (v, os)) = c_spec_Misclosure x0 x1 x2 x3 x4 (fun y => some ((e_spec_Misclosure.res.mk [.I y.1, .I y.2.1, .B y.2.2]).1, e_spec_Misclosure.outs)) := by kernel_rfl
theorem e_spec_Misclosure_ok : e_spec_Misclosure.ok Go.Proofs.Try.prog A := by
  intro R ds k r h
  unfold e_spec_Misclosure at h
  obtain ⟨x0, d0, rfl, h0⟩ := dI_some h
  obtain ⟨x1, d1, rfl, h1⟩ := dI_some h0
  obtain ⟨x2, d2, rfl, h2⟩ := dL_some h1
  obtain ⟨x3, d3, rfl, h3⟩ := dI_some h2
  obtain ⟨x4, d4, rfl, h4⟩ := dI_some h3
  obtain ⟨rfl, hE⟩ := dE_some h4
  obtain ⟨y, hy, hk⟩ := bnd_some hE
  refine ⟨_, hk, fn_ok px (fx := ⟨Go.Proofs.Try.func24, by kernel_rfl, by kernel_rfl⟩) (entsOK_cons e_spec_TraverseEnd_ok (entsOK_cons e_spec_l17Point_ok entsOK_nil)) lentsOK_nil ?_⟩
  have hq := q_spec_Misclosure x0 x1 x2 x3 x4
  rw [c_spec_Misclosure_bind] at hq
  rw [show c_spec_Misclosure x0 x1 x2 x3 x4 some = some y from hy] at hq
  exact hq

/-! loop.example/g00876/impl.within -/
def c_impl_within {R : Type} (x0 : Int) (x1 : Int) (x2 : Int) (k : Bool → Option R) : Option R :=
  bif Decidable.decide (x1 ≤ x0) then
    k (Decidable.decide (x0 ≤ x2))
  else
    k Bool.false
theorem c_impl_within_bind {R : Type} (x0 : Int) (x1 : Int) (x2 : Int) (k : Bool → Option R) : c_impl_within x0 x1 x2 k = (c_impl_within x0 x1 x2 some).bind k := by
  unfold c_impl_within
  repeat' first
    | exact bnd_tail
    | exact bnd_none
    | exact bnd_leaf
    | apply bnd_ite
    | apply bnd_cond
    | apply bnd_sum
    | (apply bnd_bind; intro _)
    | intro _
def impl_within (x0 : Int) (x1 : Int) (x2 : Int) : Option (Bool) := c_impl_within x0 x1 x2 some
def e_impl_within : Ent := ⟨38, [.int .i64, .int .i64, .int .i64], .bool, [.undef, .undef, .undef], fun _ ds k => dI (fun x0 ds => dI (fun x1 ds => dI (fun x2 ds => dE ((impl_within x0 x1 x2).bind (fun y => k [.B y])) ds) ds) ds) ds⟩
theorem q_impl_within (x0 : Int) (x1 : Int) (x2 : Int) : runFn (ocOf []) (olOf []) A 38 Go.Proofs.Try.f38 (Sh.mks e_impl_within.sh [.I x0, .I x1, .I x2]).1 (fun v os => some (v, os)) = c_impl_within x0 x1 x2 (fun y => some ((e_impl_within.res.mk [.B y]).1, e_impl_within.outs)) := by kernel_rfl
theorem e_impl_within_ok : e_impl_within.ok Go.Proofs.Try.prog A := by
  intro R ds k r h
  unfold e_impl_within at h
  obtain ⟨x0, d0, rfl, h0⟩ := dI_some h
  obtain ⟨x1, d1, rfl, h1⟩ := dI_some h0
  obtain ⟨x2, d2, rfl, h2⟩ := dI_some h1
  obtain ⟨rfl, hE⟩ := dE_some h2
  obtain ⟨y, hy, hk⟩ := bnd_some hE
  refine ⟨_, hk, fn_ok px (fx := ⟨Go.Proofs.Try.func38, by kernel_rfl, by kernel_rfl⟩) entsOK_nil lentsOK_nil ?_⟩
  have hq := q_impl_within x0 x1 x2
  rw [c_impl_within_bind] at hq
  rw [show c_impl_within x0 x1 x2 some = some y from hy] at hq
  exact hq

/-! loop.example/g00876/impl.isCoordinate -/
def c_impl_isCoordinate {R : Type} (x0 : Int) (k : Bool → Option R) : Option R :=
  (impl_within x0 (-1000000 : Int) (1000000 : Int)).bind (fun y0 =>
    k y0)
theorem c_impl_isCoordinate_bind {R : Type} (x0 : Int) (k : Bool → Option R) : c_impl_isCoordinate x0 k = (c_impl_isCoordinate x0 some).bind k := by
  unfold c_impl_isCoordinate
  repeat' first
    | exact bnd_tail
    | exact bnd_none
    | exact bnd_leaf
    | apply bnd_ite
    | apply bnd_cond
    | apply bnd_sum
    | (apply bnd_bind; intro _)
    | intro _
def impl_isCoordinate (x0 : Int) : Option (Bool) := c_impl_isCoordinate x0 some
def e_impl_isCoordinate : Ent := ⟨70, [.int .i64], .bool, [.undef], fun _ ds k => dI (fun x0 ds => dE ((impl_isCoordinate x0).bind (fun y => k [.B y])) ds) ds⟩
theorem q_impl_isCoordinate (x0 : Int) : runFn (ocOf [e_impl_within]) (olOf []) A 70 Go.Proofs.Try.f70 (Sh.mks e_impl_isCoordinate.sh [.I x0]).1 (fun v os => some (v, os)) = c_impl_isCoordinate x0 (fun y => some ((e_impl_isCoordinate.res.mk [.B y]).1, e_impl_isCoordinate.outs)) := by kernel_rfl
theorem e_impl_isCoordinate_ok : e_impl_isCoordinate.ok Go.Proofs.Try.prog A := by
  intro R ds k r h
  unfold e_impl_isCoordinate at h
  obtain ⟨x0, d0, rfl, h0⟩ := dI_some h
  obtain ⟨rfl, hE⟩ := dE_some h0
  obtain ⟨y, hy, hk⟩ := bnd_some hE
  refine ⟨_, hk, fn_ok px (fx := ⟨Go.Proofs.Try.func70, by kernel_rfl, by kernel_rfl⟩) (entsOK_cons e_impl_within_ok entsOK_nil) lentsOK_nil ?_⟩
  have hq := q_impl_isCoordinate x0
  rw [c_impl_isCoordinate_bind] at hq
  rw [show c_impl_isCoordinate x0 some = some y from hy] at hq
  exact hq

/-! loop.example/g00876/impl.isPoint -/
def c_impl_isPoint {R : Type} (x0 : Int) (x1 : Int) (k : Bool → Option R) : Option R :=
  (impl_isCoordinate x0).bind (fun y0 =>
    bif y0 then
      (impl_isCoordinate x1).bind (fun y1 =>
        k y1)
    else
      k Bool.false)
theorem c_impl_isPoint_bind {R : Type} (x0 : Int) (x1 : Int) (k : Bool → Option R) : c_impl_isPoint x0 x1 k = (c_impl_isPoint x0 x1 some).bind k := by
  unfold c_impl_isPoint
  repeat' first
    | exact bnd_tail
    | exact bnd_none
    | exact bnd_leaf
    | apply bnd_ite
    | apply bnd_cond
    | apply bnd_sum
    | (apply bnd_bind; intro _)
    | intro _
def impl_isPoint (x0 : Int) (x1 : Int) : Option (Bool) := c_impl_isPoint x0 x1 some
def e_impl_isPoint : Ent := ⟨49, [.agg [.int .i64, .int .i64]], .bool, [.undef], fun _ ds k => dI (fun x0 ds => dI (fun x1 ds => dE ((impl_isPoint x0 x1).bind (fun y => k [.B y])) ds) ds) ds⟩
theorem q_impl_isPoint (x0 : Int) (x1 : Int) : runFn (ocOf [e_impl_isCoordinate]) (olOf []) A 49 Go.Proofs.Try.f49 (Sh.mks e_impl_isPoint.sh [.I x0, .I x1]).1 (fun v os => some (v, os)) = c_impl_isPoint x0 x1 (fun y => some ((e_impl_isPoint.res.mk [.B y]).1, e_impl_isPoint.outs)) := by kernel_rfl
theorem e_impl_isPoint_ok : e_impl_isPoint.ok Go.Proofs.Try.prog A := by
  intro R ds k r h
  unfold e_impl_isPoint at h
  obtain ⟨x0, d0, rfl, h0⟩ := dI_some h
  obtain ⟨x1, d1, rfl, h1⟩ := dI_some h0
  obtain ⟨rfl, hE⟩ := dE_some h1
  obtain ⟨y, hy, hk⟩ := bnd_some hE
  refine ⟨_, hk, fn_ok px (fx := ⟨Go.Proofs.Try.func49, by kernel_rfl, by kernel_rfl⟩) (entsOK_cons e_impl_isCoordinate_ok entsOK_nil) lentsOK_nil ?_⟩
  have hq := q_impl_isPoint x0 x1
  rw [c_impl_isPoint_bind] at hq
  rw [show c_impl_isPoint x0 x1 some = some y from hy] at hq
  exact hq

/-! loop.example/g00876/impl.reached, loop 6 -/
def c_impl_reached_L6 {R : Type} (F : List D → Int → Int → List D → Int → Int → Option ((Bool × List D) ⊕ (List D))) (x0 : List D) (x1 : Int) (x2 : Int) (x3 : List D) (x4 : Int) (x5 : Int) (k : (Bool × List D) ⊕ (List D) → Option R) : Option R :=
  bif Decidable.decide (x2 < x1) then
    if (0 : Int) ≤ x2 ∧ x2 < (↑x0.length : Int) then
      (impl_within (((x0.getD x2.toNat (Go.Rai.D.int (0 : Int))).fld (0 : Nat)).toInt) (-100000 : Int) (100000 : Int)).bind (fun y0 =>
        bif !y0 then
          k (.inl (Bool.false, x3))
        else
          (impl_within (((x0.getD x2.toNat (Go.Rai.D.int (0 : Int))).fld (1 : Nat)).toInt) (-100000 : Int) (100000 : Int)).bind (fun y1 =>
            bif !y1 then
              k (.inl (Bool.false, x3))
            else
              (impl_isPoint (Go.IntKind.i64.wrap (x4 + ((x0.getD x2.toNat (Go.Rai.D.int (0 : Int))).fld (0 : Nat)).toInt)) (Go.IntKind.i64.wrap (x5 + ((x0.getD x2.toNat (Go.Rai.D.int (0 : Int))).fld (1 : Nat)).toInt))).bind (fun y2 =>
                bif !y2 then
                  k (.inl (Bool.false, x3))
                else
                  if x3.length + [Go.Rai.D.node [Go.Rai.D.int (Go.IntKind.i64.wrap (x4 + ((x0.getD x2.toNat (Go.Rai.D.int (0 : Int))).fld (0 : Nat)).toInt)), Go.Rai.D.int (Go.IntKind.i64.wrap (x5 + ((x0.getD x2.toNat (Go.Rai.D.int (0 : Int))).fld (1 : Nat)).toInt))]].length ≤ (4294967296 : Nat) then
                    (F x0 x1 (Go.IntKind.i64.wrap (x2 + (1 : Int))) (x3 ++ [Go.Rai.D.node [Go.Rai.D.int (Go.IntKind.i64.wrap (x4 + ((x0.getD x2.toNat (Go.Rai.D.int (0 : Int))).fld (0 : Nat)).toInt)), Go.Rai.D.int (Go.IntKind.i64.wrap (x5 + ((x0.getD x2.toNat (Go.Rai.D.int (0 : Int))).fld (1 : Nat)).toInt))]]) (Go.IntKind.i64.wrap (x4 + ((x0.getD x2.toNat (Go.Rai.D.int (0 : Int))).fld (0 : Nat)).toInt)) (Go.IntKind.i64.wrap (x5 + ((x0.getD x2.toNat (Go.Rai.D.int (0 : Int))).fld (1 : Nat)).toInt))).bind k
                  else
                    none)))
    else
      none
  else
    k (.inr x3)
theorem c_impl_reached_L6_bind {R : Type} (F : List D → Int → Int → List D → Int → Int → Option ((Bool × List D) ⊕ (List D))) (x0 : List D) (x1 : Int) (x2 : Int) (x3 : List D) (x4 : Int) (x5 : Int) (k : (Bool × List D) ⊕ (List D) → Option R) : c_impl_reached_L6 F x0 x1 x2 x3 x4 x5 k = (c_impl_reached_L6 F x0 x1 x2 x3 x4 x5 some).bind k := by
  unfold c_impl_reached_L6
  repeat' first
    | exact bnd_tail
    | exact bnd_none
    | exact bnd_leaf
    | apply bnd_ite
    | apply bnd_cond
    | apply bnd_sum
    | (apply bnd_bind; intro _)
    | intro _
def n_impl_reached_L6 : Nat → List D → Int → Int → List D → Int → Int → Option ((Bool × List D) ⊕ (List D))
  | 0, _, _, _, _, _, _ => none
  | n + 1, x0, x1, x2, x3, x4, x5 => c_impl_reached_L6 (n_impl_reached_L6 n) x0 x1 x2 x3 x4 x5 some
noncomputable def impl_reached_L6 (x0 : List D) (x1 : Int) (x2 : Int) (x3 : List D) (x4 : Int) (x5 : Int) : Option ((Bool × List D) ⊕ (List D)) := ev (fun n => n_impl_reached_L6 n x0 x1 x2 x3 x4 x5)
def m_impl_reached_L6 (F : List D → Int → Int → List D → Int → Int → Option ((Bool × List D) ⊕ (List D))) : Lent := ⟨6, ⟨[.undef, .undef, .undef, .undef, .undef, .undef, .full 1000 [] (.struct [.int .i64, .int .i64]), .ptr 1001 [0], .undef, .undef, .undef, .undef, .undef, .undef, .undef, .undef, .undef, .undef, .undef, .undef, .undef, .rd (.struct [.int .i64, .int .i64]), .int .i64, .int .i64, .undef, .undef, .undef, .undef, .undef, .undef, .undef, .undef, .undef, .undef, .undef, .undef, .undef, .undef, .undef, .undef, .undef, .undef, .undef, .undef, .undef, .undef, .undef, .undef, .undef, .undef, .undef, .undef, .undef, .undef, .undef, .undef, .undef], [(1000, .own (.struct [.int .i64, .int .i64])), (1001, .obox (.agg [.int .i64, .int .i64]))]⟩, [(.ret, ⟨[.undef, .undef, .undef, .undef, .nilsl, .bool, .full 1000 [] (.struct [.int .i64, .int .i64]), .undef, .undef, .undef, .undef, .undef, .undef, .undef, .undef, .undef, .undef, .undef, .undef, .undef, .undef, .undef, .undef, .undef, .undef, .undef, .undef, .undef, .undef, .undef, .undef, .undef, .undef, .undef, .undef, .undef, .undef, .undef, .undef, .undef, .undef, .undef, .undef, .undef, .undef, .undef, .undef, .undef, .undef, .undef, .undef, .undef, .undef, .undef, .undef, .undef, .undef], [(1000, .own (.struct [.int .i64, .int .i64]))]⟩), (.exit 0, ⟨[.undef, .undef, .undef, .undef, .undef, .undef, .full 1000 [] (.struct [.int .i64, .int .i64]), .undef, .undef, .undef, .undef, .undef, .undef, .undef, .undef, .undef, .undef, .undef, .undef, .undef, .undef, .undef, .undef, .undef, .undef, .undef, .undef, .undef, .undef, .undef, .undef, .undef, .undef, .undef, .undef, .undef, .undef, .undef, .undef, .undef, .undef, .undef, .undef, .undef, .undef, .undef, .undef, .undef, .undef, .undef, .undef, .undef, .undef, .undef, .undef, .undef, .undef], [(1000, .own (.struct [.int .i64, .int .i64]))]⟩)], fun _ ds k => dL (fun x0 ds => dI (fun x1 ds => dI (fun x2 ds => dL (fun x3 ds => dI (fun x4 ds => dI (fun x5 ds => dE ((F x0 x1 x2 x3 x4 x5).bind (Sum.elim (fun y => k 0 [.B y.1, .L y.2]) (fun y => k 1 [.L y]))) ds) ds) ds) ds) ds) ds) ds⟩
theorem q_impl_reached_L6 (F : List D → Int → Int → List D → Int → Int → Option ((Bool × List D) ⊕ (List D))) (x0 : List D) (x1 : Int) (x2 : Int) (x3 : List D) (x4 : Int) (x5 : Int) : runLoop (ocOf [e_impl_within, e_impl_isPoint]) (olOf [m_impl_reached_L6 F]) A 47 (codeAt (bodyOf Go.Proofs.Try.f47) 6) ((m_impl_reached_L6 F).sh.mk' [.L x0, .I x1, .I x2, .L x3, .I x4, .I x5]) (fun e σ' => some (e, σ')) = c_impl_reached_L6 F x0 x1 x2 x3 x4 x5 (Sum.elim (fun y => some (.ret, SSt.mk' ⟨[.undef, .undef, .undef, .undef, .nilsl, .bool, .full 1000 [] (.struct [.int .i64, .int .i64]), .undef, .undef, .undef, .undef, .undef, .undef, .undef, .undef, .undef, .undef, .undef, .undef, .undef, .undef, .undef, .undef, .undef, .undef, .undef, .undef, .undef, .undef, .undef, .undef, .undef, .undef, .undef, .undef, .undef, .undef, .undef, .undef, .undef, .undef, .undef, .undef, .undef, .undef, .undef, .undef, .undef, .undef, .undef, .undef, .undef, .undef, .undef, .undef, .undef, .undef], [(1000, .own (.struct [.int .i64, .int .i64]))]⟩ [.B y.1, .L y.2])) (fun y => some (.exit 0, SSt.mk' ⟨[.undef, .undef, .undef, .undef, .undef, .undef, .full 1000 [] (.struct [.int .i64, .int .i64]), .undef, .undef, .undef, .undef, .undef, .undef, .undef, .undef, .undef, .undef, .undef, .undef, .undef, .undef, .undef, .undef, .undef, .undef, .undef, .undef, .undef, .undef, .undef, .undef, .undef, .undef, .undef, .undef, .undef, .undef, .undef, .undef, .undef, .undef, .undef, .undef, .undef, .undef, .undef, .undef, .undef, .undef, .undef, .undef, .undef, .undef, .undef, .undef, .undef, .undef], [(1000, .own (.struct [.int .i64, .int .i64]))]⟩ [.L y]))) := by kernel_rfl
theorem m_impl_reached_L6_ok : ∀ n, (m_impl_reached_L6 (n_impl_reached_L6 n)).ok Go.Proofs.Try.prog (codeAt (bodyOf Go.Proofs.Try.f47) 6) := by
  intro n
  induction n with
  | zero =>
    intro R ds k r h
    unfold m_impl_reached_L6 at h
    obtain ⟨x0, d0, rfl, h0⟩ := dL_some h
    obtain ⟨x1, d1, rfl, h1⟩ := dI_some h0
    obtain ⟨x2, d2, rfl, h2⟩ := dI_some h1
    obtain ⟨x3, d3, rfl, h3⟩ := dL_some h2
    obtain ⟨x4, d4, rfl, h4⟩ := dI_some h3
    obtain ⟨x5, d5, rfl, h5⟩ := dI_some h4
    obtain ⟨rfl, hE⟩ := dE_some h5
    obtain ⟨y, hy, hk⟩ := bnd_some hE
    cases hy
  | succ n ih =>
    intro R ds k r h
    unfold m_impl_reached_L6 at h
    obtain ⟨x0, d0, rfl, h0⟩ := dL_some h
    obtain ⟨x1, d1, rfl, h1⟩ := dI_some h0
    obtain ⟨x2, d2, rfl, h2⟩ := dI_some h1
    obtain ⟨x3, d3, rfl, h3⟩ := dL_some h2
    obtain ⟨x4, d4, rfl, h4⟩ := dI_some h3
    obtain ⟨x5, d5, rfl, h5⟩ := dI_some h4
    obtain ⟨rfl, hE⟩ := dE_some h5
    obtain ⟨y, hy, hk⟩ := bnd_some hE
    have hq := q_impl_reached_L6 (n_impl_reached_L6 n) x0 x1 x2 x3 x4 x5
    rw [c_impl_reached_L6_bind] at hq
    rw [show c_impl_reached_L6 (n_impl_reached_L6 n) x0 x1 x2 x3 x4 x5 some = some y from hy] at hq
    cases y with
    | inl y =>
      refine ⟨0, _, _, _, hk, rfl, loop_ok px (fx := ⟨Go.Proofs.Try.func47, by kernel_rfl, by kernel_rfl⟩) (entsOK_cons e_impl_within_ok (entsOK_cons e_impl_isPoint_ok entsOK_nil)) (lentsOK_cons ih lentsOK_nil) (by kernel_rfl) ?_⟩
      exact hq
    | inr y =>
      refine ⟨1, _, _, _, hk, rfl, loop_ok px (fx := ⟨Go.Proofs.Try.func47, by kernel_rfl, by kernel_rfl⟩) (entsOK_cons e_impl_within_ok (entsOK_cons e_impl_isPoint_ok entsOK_nil)) (lentsOK_cons ih lentsOK_nil) (by kernel_rfl) ?_⟩
      exact hq
noncomputable def e_impl_reached_L6 : Lent := m_impl_reached_L6 impl_reached_L6
theorem e_impl_reached_L6_ok : e_impl_reached_L6.ok Go.Proofs.Try.prog (codeAt (bodyOf Go.Proofs.Try.f47) 6) := by
  intro R ds k r h
  unfold e_impl_reached_L6 m_impl_reached_L6 at h
  obtain ⟨x0, d0, rfl, h0⟩ := dL_some h
  obtain ⟨x1, d1, rfl, h1⟩ := dI_some h0
  obtain ⟨x2, d2, rfl, h2⟩ := dI_some h1
  obtain ⟨x3, d3, rfl, h3⟩ := dL_some h2
  obtain ⟨x4, d4, rfl, h4⟩ := dI_some h3
  obtain ⟨x5, d5, rfl, h5⟩ := dI_some h4
  obtain ⟨rfl, hE⟩ := dE_some h5
  obtain ⟨y, hy, hk⟩ := bnd_some hE
  obtain ⟨n, hn⟩ := ev_some hy
  exact m_impl_reached_L6_ok n R _ k r (show (n_impl_reached_L6 n x0 x1 x2 x3 x4 x5).bind _ = _ by rw [hn]; exact hk)

/-! loop.example/g00876/impl.reached -/
def c_impl_reached {R : Type} (x0 : Int) (x1 : Int) (x2 : List D) (k : List D × Bool → Option R) : Option R :=
  (impl_isPoint x0 x1).bind (fun y0 =>
    bif !y0 then
      k ([], Bool.false)
    else
      (impl_within (↑x2.length : Int) (1 : Int) (20 : Int)).bind (fun y1 =>
        bif !y1 then
          k ([], Bool.false)
        else
          (impl_reached_L6 x2 (↑x2.length : Int) (0 : Int) [] x0 x1).bind (Sum.elim (fun y2 =>
            k ([], y2.fst)) (fun y3 =>
            k (y3, Bool.true)))))
theorem c_impl_reached_bind {R : Type} (x0 : Int) (x1 : Int) (x2 : List D) (k : List D × Bool → Option R) : c_impl_reached x0 x1 x2 k = (c_impl_reached x0 x1 x2 some).bind k := by
  unfold c_impl_reached
  repeat' first
    | exact bnd_tail
    | exact bnd_none
    | exact bnd_leaf
    | apply bnd_ite
    | apply bnd_cond
    | apply bnd_sum
    | (apply bnd_bind; intro _)
    | intro _
def impl_reached (x0 : Int) (x1 : Int) (x2 : List D) : Option (List D × Bool) := c_impl_reached x0 x1 x2 some
def e_impl_reached : Ent := ⟨47, [.agg [.int .i64, .int .i64], .rd (.struct [.int .i64, .int .i64])], .tup [.own (.struct [.int .i64, .int .i64]), .bool], [.undef, .undef], fun _ ds k => dI (fun x0 ds => dI (fun x1 ds => dL (fun x2 ds => dE ((impl_reached x0 x1 x2).bind (fun y => k [.L y.1, .B y.2])) ds) ds) ds) ds⟩
theorem q_impl_reached (x0 : Int) (x1 : Int) (x2 : List D) : runFn (ocOf [e_impl_isPoint, e_impl_within]) (olOf [e_impl_reached_L6]) A 47 Go.Proofs.Try.f47 (Sh.mks e_impl_reached.sh [.I x0, .I x1, .L x2]).1 (fun v os => some (v, os)) = c_impl_reached x0 x1 x2 (fun y => some ((e_impl_reached.res.mk [.L y.1, .B y.2]).1, e_impl_reached.outs)) := by kernel_rfl
theorem e_impl_reached_ok : e_impl_reached.ok Go.Proofs.Try.prog A := by
  intro R ds k r h
  unfold e_impl_reached at h
  obtain ⟨x0, d0, rfl, h0⟩ := dI_some h
  obtain ⟨x1, d1, rfl, h1⟩ := dI_some h0
  obtain ⟨x2, d2, rfl, h2⟩ := dL_some h1
  obtain ⟨rfl, hE⟩ := dE_some h2
  obtain ⟨y, hy, hk⟩ := bnd_some hE
  refine ⟨_, hk, fn_ok px (fx := ⟨Go.Proofs.Try.func47, by kernel_rfl, by kernel_rfl⟩) (entsOK_cons e_impl_isPoint_ok (entsOK_cons e_impl_within_ok entsOK_nil)) (lentsOK_cons e_impl_reached_L6_ok lentsOK_nil) ?_⟩
  have hq := q_impl_reached x0 x1 x2
  rw [c_impl_reached_bind] at hq
  rw [show c_impl_reached x0 x1 x2 some = some y from hy] at hq
  exact hq

/-! loop.example/g00876/impl.TraverseEnd -/
def c_impl_TraverseEnd {R : Type} (x0 : Int) (x1 : Int) (x2 : List D) (k : Int × Int × Bool → Option R) : Option R :=
  (impl_reached x0 x1 x2).bind (fun y0 =>
    bif !y0.snd then
      k ((0 : Int), (0 : Int), Bool.false)
    else
      if (0 : Int) ≤ Go.IntKind.i64.wrap ((↑y0.fst.length : Int) - (1 : Int)) ∧ Go.IntKind.i64.wrap ((↑y0.fst.length : Int) - (1 : Int)) < (↑y0.fst.length : Int) then
        if (Go.IntKind.i64.wrap ((↑y0.fst.length : Int) - (1 : Int))).toNat + (1 : Nat) ≤ y0.fst.length then
          k (((y0.fst.getD (Go.IntKind.i64.wrap ((↑y0.fst.length : Int) - (1 : Int))).toNat (Go.Rai.D.int (0 : Int))).fld (0 : Nat)).toInt, ((y0.fst.getD (Go.IntKind.i64.wrap ((↑y0.fst.length : Int) - (1 : Int))).toNat (Go.Rai.D.int (0 : Int))).fld (1 : Nat)).toInt, Bool.true)
        else
          none
      else
        none)
theorem c_impl_TraverseEnd_bind {R : Type} (x0 : Int) (x1 : Int) (x2 : List D) (k : Int × Int × Bool → Option R) : c_impl_TraverseEnd x0 x1 x2 k = (c_impl_TraverseEnd x0 x1 x2 some).bind k := by
  unfold c_impl_TraverseEnd
  repeat' first
    | exact bnd_tail
    | exact bnd_none
    | exact bnd_leaf
    | apply bnd_ite
    | apply bnd_cond
    | apply bnd_sum
    | (apply bnd_bind; intro _)
    | intro _
def impl_TraverseEnd (x0 : Int) (x1 : Int) (x2 : List D) : Option (Int × Int × Bool) := c_impl_TraverseEnd x0 x1 x2 some
def e_impl_TraverseEnd : Ent := ⟨21, [.agg [.int .i64, .int .i64], .rd (.struct [.int .i64, .int .i64])], .tup [.agg [.int .i64, .int .i64], .bool], [.undef, .undef], fun _ ds k => dI (fun x0 ds => dI (fun x1 ds => dL (fun x2 ds => dE ((impl_TraverseEnd x0 x1 x2).bind (fun y => k [.I y.1, .I y.2.1, .B y.2.2])) ds) ds) ds) ds⟩
theorem q_impl_TraverseEnd (x0 : Int) (x1 : Int) (x2 : List D) : runFn (ocOf [e_impl_reached]) (olOf []) A 21 Go.Proofs.Try.f21 (Sh.mks e_impl_TraverseEnd.sh [.I x0, .I x1, .L x2]).1 (fun v os => some (v, os)) = c_impl_TraverseEnd x0 x1 x2 (fun y => some ((e_impl_TraverseEnd.res.mk [.I y.1, .I y.2.1, .B y.2.2]).1, e_impl_TraverseEnd.outs)) := by kernel_rfl
theorem e_impl_TraverseEnd_ok : e_impl_TraverseEnd.ok Go.Proofs.Try.prog A := by
  intro R ds k r h
  unfold e_impl_TraverseEnd at h
  obtain ⟨x0, d0, rfl, h0⟩ := dI_some h
  obtain ⟨x1, d1, rfl, h1⟩ := dI_some h0
  obtain ⟨x2, d2, rfl, h2⟩ := dL_some h1
  obtain ⟨rfl, hE⟩ := dE_some h2
  obtain ⟨y, hy, hk⟩ := bnd_some hE
  refine ⟨_, hk, fn_ok px (fx := ⟨Go.Proofs.Try.func21, by kernel_rfl, by kernel_rfl⟩) (entsOK_cons e_impl_reached_ok entsOK_nil) lentsOK_nil ?_⟩
  have hq := q_impl_TraverseEnd x0 x1 x2
  rw [c_impl_TraverseEnd_bind] at hq
  rw [show c_impl_TraverseEnd x0 x1 x2 some = some y from hy] at hq
  exact hq

/-! loop.example/g00876/impl.Misclosure -/
def c_impl_Misclosure {R : Type} (x0 : Int) (x1 : Int) (x2 : List D) (x3 : Int) (x4 : Int) (k : Int × Int × Bool → Option R) : Option R :=
  (impl_TraverseEnd x0 x1 x2).bind (fun y0 =>
    bif !y0.snd.snd then
      k ((0 : Int), (0 : Int), Bool.false)
    else
      (impl_isPoint x3 x4).bind (fun y1 =>
        bif !y1 then
          k ((0 : Int), (0 : Int), Bool.false)
        else
          k (Go.IntKind.i64.wrap (y0.fst - x3), Go.IntKind.i64.wrap (y0.snd.fst - x4), Bool.true)))
theorem c_impl_Misclosure_bind {R : Type} (x0 : Int) (x1 : Int) (x2 : List D) (x3 : Int) (x4 : Int) (k : Int × Int × Bool → Option R) : c_impl_Misclosure x0 x1 x2 x3 x4 k = (c_impl_Misclosure x0 x1 x2 x3 x4 some).bind k := by
  unfold c_impl_Misclosure
  repeat' first
    | exact bnd_tail
    | exact bnd_none
    | exact bnd_leaf
    | apply bnd_ite
    | apply bnd_cond
    | apply bnd_sum
    | (apply bnd_bind; intro _)
    | intro _
def impl_Misclosure (x0 : Int) (x1 : Int) (x2 : List D) (x3 : Int) (x4 : Int) : Option (Int × Int × Bool) := c_impl_Misclosure x0 x1 x2 x3 x4 some
def e_impl_Misclosure : Ent := ⟨25, [.agg [.int .i64, .int .i64], .rd (.struct [.int .i64, .int .i64]), .agg [.int .i64, .int .i64]], .tup [.agg [.int .i64, .int .i64], .bool], [.undef, .undef, .undef], fun _ ds k => dI (fun x0 ds => dI (fun x1 ds => dL (fun x2 ds => dI (fun x3 ds => dI (fun x4 ds => dE ((impl_Misclosure x0 x1 x2 x3 x4).bind (fun y => k [.I y.1, .I y.2.1, .B y.2.2])) ds) ds) ds) ds) ds) ds⟩
theorem q_impl_Misclosure (x0 : Int) (x1 : Int) (x2 : List D) (x3 : Int) (x4 : Int) : runFn (ocOf [e_impl_TraverseEnd, e_impl_isPoint]) (olOf []) A 25 Go.Proofs.Try.f25 (Sh.mks e_impl_Misclosure.sh [.I x0, .I x1, .L x2, .I x3, .I x4]).1 (fun v os => some (v, os)) = c_impl_Misclosure x0 x1 x2 x3 x4 (fun y => some ((e_impl_Misclosure.res.mk [.I y.1, .I y.2.1, .B y.2.2]).1, e_impl_Misclosure.outs)) := by kernel_rfl
theorem e_impl_Misclosure_ok : e_impl_Misclosure.ok Go.Proofs.Try.prog A := by
  intro R ds k r h
  unfold e_impl_Misclosure at h
  obtain ⟨x0, d0, rfl, h0⟩ := dI_some h
  obtain ⟨x1, d1, rfl, h1⟩ := dI_some h0
  obtain ⟨x2, d2, rfl, h2⟩ := dL_some h1
  obtain ⟨x3, d3, rfl, h3⟩ := dI_some h2
  obtain ⟨x4, d4, rfl, h4⟩ := dI_some h3
  obtain ⟨rfl, hE⟩ := dE_some h4
  obtain ⟨y, hy, hk⟩ := bnd_some hE
  refine ⟨_, hk, fn_ok px (fx := ⟨Go.Proofs.Try.func25, by kernel_rfl, by kernel_rfl⟩) (entsOK_cons e_impl_TraverseEnd_ok (entsOK_cons e_impl_isPoint_ok entsOK_nil)) lentsOK_nil ?_⟩
  have hq := q_impl_Misclosure x0 x1 x2 x3 x4
  rw [c_impl_Misclosure_bind] at hq
  rw [show c_impl_Misclosure x0 x1 x2 x3 x4 some = some y from hy] at hq
  exact hq

/-! loop.example/g00876/laws.eqLeg -/
def c_laws_eqLeg {R : Type} (x0 : Int) (x1 : Int) (x2 : Int) (x3 : Int) (k : Bool → Option R) : Option R :=
  bif !Decidable.decide (x0 = x2) then
    k Bool.false
  else
    bif !Decidable.decide (x1 = x3) then
      k Bool.false
    else
      k Bool.true
theorem c_laws_eqLeg_bind {R : Type} (x0 : Int) (x1 : Int) (x2 : Int) (x3 : Int) (k : Bool → Option R) : c_laws_eqLeg x0 x1 x2 x3 k = (c_laws_eqLeg x0 x1 x2 x3 some).bind k := by
  unfold c_laws_eqLeg
  repeat' first
    | exact bnd_tail
    | exact bnd_none
    | exact bnd_leaf
    | apply bnd_ite
    | apply bnd_cond
    | apply bnd_sum
    | (apply bnd_bind; intro _)
    | intro _
def laws_eqLeg (x0 : Int) (x1 : Int) (x2 : Int) (x3 : Int) : Option (Bool) := c_laws_eqLeg x0 x1 x2 x3 some
def e_laws_eqLeg : Ent := ⟨22, [.agg [.int .i64, .int .i64], .agg [.int .i64, .int .i64]], .bool, [.undef, .undef], fun _ ds k => dI (fun x0 ds => dI (fun x1 ds => dI (fun x2 ds => dI (fun x3 ds => dE ((laws_eqLeg x0 x1 x2 x3).bind (fun y => k [.B y])) ds) ds) ds) ds) ds⟩
theorem q_laws_eqLeg (x0 : Int) (x1 : Int) (x2 : Int) (x3 : Int) : runFn (ocOf []) (olOf []) A 22 Go.Proofs.Try.f22 (Sh.mks e_laws_eqLeg.sh [.I x0, .I x1, .I x2, .I x3]).1 (fun v os => some (v, os)) = c_laws_eqLeg x0 x1 x2 x3 (fun y => some ((e_laws_eqLeg.res.mk [.B y]).1, e_laws_eqLeg.outs)) := by kernel_rfl
theorem e_laws_eqLeg_ok : e_laws_eqLeg.ok Go.Proofs.Try.prog A := by
  intro R ds k r h
  unfold e_laws_eqLeg at h
  obtain ⟨x0, d0, rfl, h0⟩ := dI_some h
  obtain ⟨x1, d1, rfl, h1⟩ := dI_some h0
  obtain ⟨x2, d2, rfl, h2⟩ := dI_some h1
  obtain ⟨x3, d3, rfl, h3⟩ := dI_some h2
  obtain ⟨rfl, hE⟩ := dE_some h3
  obtain ⟨y, hy, hk⟩ := bnd_some hE
  refine ⟨_, hk, fn_ok px (fx := ⟨Go.Proofs.Try.func22, by kernel_rfl, by kernel_rfl⟩) entsOK_nil lentsOK_nil ?_⟩
  have hq := q_laws_eqLeg x0 x1 x2 x3
  rw [c_laws_eqLeg_bind] at hq
  rw [show c_laws_eqLeg x0 x1 x2 x3 some = some y from hy] at hq
  exact hq

/-! loop.example/g00876/laws.eqLegS, loop 4 -/
def c_laws_eqLegS_L4 {R : Type} (F : List D → List D → Int → Option ((Bool) ⊕ (Unit))) (x0 : List D) (x1 : List D) (x2 : Int) (k : (Bool) ⊕ (Unit) → Option R) : Option R :=
  bif Decidable.decide (x2 < (↑x0.length : Int)) then
    if (0 : Int) ≤ x2 ∧ x2 < (↑x0.length : Int) then
      if (0 : Int) ≤ x2 ∧ x2 < (↑x1.length : Int) then
        (laws_eqLeg (((x0.getD x2.toNat (Go.Rai.D.int (0 : Int))).fld (0 : Nat)).toInt) (((x0.getD x2.toNat (Go.Rai.D.int (0 : Int))).fld (1 : Nat)).toInt) (((x1.getD x2.toNat (Go.Rai.D.int (0 : Int))).fld (0 : Nat)).toInt) (((x1.getD x2.toNat (Go.Rai.D.int (0 : Int))).fld (1 : Nat)).toInt)).bind (fun y0 =>
          bif !y0 then
            k (.inl Bool.false)
          else
            (F x0 x1 (Go.IntKind.i64.wrap (x2 + (1 : Int)))).bind k)
      else
        none
    else
      none
  else
    k (.inr ())
theorem c_laws_eqLegS_L4_bind {R : Type} (F : List D → List D → Int → Option ((Bool) ⊕ (Unit))) (x0 : List D) (x1 : List D) (x2 : Int) (k : (Bool) ⊕ (Unit) → Option R) : c_laws_eqLegS_L4 F x0 x1 x2 k = (c_laws_eqLegS_L4 F x0 x1 x2 some).bind k := by
  unfold c_laws_eqLegS_L4
  repeat' first
    | exact bnd_tail
    | exact bnd_none
    | exact bnd_leaf
    | apply bnd_ite
    | apply bnd_cond
    | apply bnd_sum
    | (apply bnd_bind; intro _)
    | intro _
def n_laws_eqLegS_L4 : Nat → List D → List D → Int → Option ((Bool) ⊕ (Unit))
  | 0, _, _, _ => none
  | n + 1, x0, x1, x2 => c_laws_eqLegS_L4 (n_laws_eqLegS_L4 n) x0 x1 x2 some
noncomputable def laws_eqLegS_L4 (x0 : List D) (x1 : List D) (x2 : Int) : Option ((Bool) ⊕ (Unit)) := ev (fun n => n_laws_eqLegS_L4 n x0 x1 x2)
def m_laws_eqLegS_L4 (F : List D → List D → Int → Option ((Bool) ⊕ (Unit))) : Lent := ⟨4, ⟨[.rd (.struct [.int .i64, .int .i64]), .rd (.struct [.int .i64, .int .i64]), .undef, .undef, .undef, .int .i64, .undef, .undef, .undef, .undef, .undef, .undef, .undef, .undef, .undef, .undef, .undef, .undef, .undef, .undef, .undef, .undef, .undef, .undef, .undef, .undef, .undef], []⟩, [(.ret, ⟨[.undef, .undef, .undef, .undef, .bool, .undef, .undef, .undef, .undef, .undef, .undef, .undef, .undef, .undef, .undef, .undef, .undef, .undef, .undef, .undef, .undef, .undef, .undef, .undef, .undef, .undef, .undef], []⟩), (.exit 0, ⟨[.undef, .undef, .undef, .undef, .undef, .undef, .undef, .undef, .undef, .undef, .undef, .undef, .undef, .undef, .undef, .undef, .undef, .undef, .undef, .undef, .undef, .undef, .undef, .undef, .undef, .undef, .undef], []⟩)], fun _ ds k => dL (fun x0 ds => dL (fun x1 ds => dI (fun x2 ds => dE ((F x0 x1 x2).bind (Sum.elim (fun y => k 0 [.B y]) (fun y => k 1 []))) ds) ds) ds) ds⟩
theorem q_laws_eqLegS_L4 (F : List D → List D → Int → Option ((Bool) ⊕ (Unit))) (x0 : List D) (x1 : List D) (x2 : Int) : runLoop (ocOf [e_laws_eqLeg]) (olOf [m_laws_eqLegS_L4 F]) A 23 (codeAt (bodyOf Go.Proofs.Try.f23) 4) ((m_laws_eqLegS_L4 F).sh.mk' [.L x0, .L x1, .I x2]) (fun e σ' => some (e, σ')) = c_laws_eqLegS_L4 F x0 x1 x2 (Sum.elim (fun y => some (.ret, SSt.mk' ⟨[.undef, .undef, .undef, .undef, .bool, .undef, .undef, .undef, .undef, .undef, .undef, .undef, .undef, .undef, .undef, .undef, .undef, .undef, .undef, .undef, .undef, .undef, .undef, .undef, .undef, .undef, .undef], []⟩ [.B y])) (fun y => some (.exit 0, SSt.mk' ⟨[.undef, .undef, .undef, .undef, .undef, .undef, .undef, .undef, .undef, .undef, .undef, .undef, .undef, .undef, .undef, .undef, .undef, .undef, .undef, .undef, .undef, .undef, .undef, .undef, .undef, .undef, .undef], []⟩ []))) := by kernel_rfl
theorem m_laws_eqLegS_L4_ok : ∀ n, (m_laws_eqLegS_L4 (n_laws_eqLegS_L4 n)).ok Go.Proofs.Try.prog (codeAt (bodyOf Go.Proofs.Try.f23) 4) := by
  intro n
  induction n with
  | zero =>
    intro R ds k r h
    unfold m_laws_eqLegS_L4 at h
    obtain ⟨x0, d0, rfl, h0⟩ := dL_some h
    obtain ⟨x1, d1, rfl, h1⟩ := dL_some h0
    obtain ⟨x2, d2, rfl, h2⟩ := dI_some h1
    obtain ⟨rfl, hE⟩ := dE_some h2
    obtain ⟨y, hy, hk⟩ := bnd_some hE
    cases hy
  | succ n ih =>
    intro R ds k r h
    unfold m_laws_eqLegS_L4 at h
    obtain ⟨x0, d0, rfl, h0⟩ := dL_some h
    obtain ⟨x1, d1, rfl, h1⟩ := dL_some h0
    obtain ⟨x2, d2, rfl, h2⟩ := dI_some h1
    obtain ⟨rfl, hE⟩ := dE_some h2
    obtain ⟨y, hy, hk⟩ := bnd_some hE
    have hq := q_laws_eqLegS_L4 (n_laws_eqLegS_L4 n) x0 x1 x2
    rw [c_laws_eqLegS_L4_bind] at hq
    rw [show c_laws_eqLegS_L4 (n_laws_eqLegS_L4 n) x0 x1 x2 some = some y from hy] at hq
    cases y with
    | inl y =>
      refine ⟨0, _, _, _, hk, rfl, loop_ok px (fx := ⟨Go.Proofs.Try.func23, by kernel_rfl, by kernel_rfl⟩) (entsOK_cons e_laws_eqLeg_ok entsOK_nil) (lentsOK_cons ih lentsOK_nil) (by kernel_rfl) ?_⟩
      exact hq
    | inr y =>
      refine ⟨1, _, _, _, hk, rfl, loop_ok px (fx := ⟨Go.Proofs.Try.func23, by kernel_rfl, by kernel_rfl⟩) (entsOK_cons e_laws_eqLeg_ok entsOK_nil) (lentsOK_cons ih lentsOK_nil) (by kernel_rfl) ?_⟩
      exact hq
noncomputable def e_laws_eqLegS_L4 : Lent := m_laws_eqLegS_L4 laws_eqLegS_L4
theorem e_laws_eqLegS_L4_ok : e_laws_eqLegS_L4.ok Go.Proofs.Try.prog (codeAt (bodyOf Go.Proofs.Try.f23) 4) := by
  intro R ds k r h
  unfold e_laws_eqLegS_L4 m_laws_eqLegS_L4 at h
  obtain ⟨x0, d0, rfl, h0⟩ := dL_some h
  obtain ⟨x1, d1, rfl, h1⟩ := dL_some h0
  obtain ⟨x2, d2, rfl, h2⟩ := dI_some h1
  obtain ⟨rfl, hE⟩ := dE_some h2
  obtain ⟨y, hy, hk⟩ := bnd_some hE
  obtain ⟨n, hn⟩ := ev_some hy
  exact m_laws_eqLegS_L4_ok n R _ k r (show (n_laws_eqLegS_L4 n x0 x1 x2).bind _ = _ by rw [hn]; exact hk)

/-! loop.example/g00876/laws.eqLegS -/
def c_laws_eqLegS {R : Type} (x0 : List D) (x1 : List D) (k : Bool → Option R) : Option R :=
  bif !Decidable.decide ((↑x0.length : Int) = (↑x1.length : Int)) then
    k Bool.false
  else
    (laws_eqLegS_L4 x0 x1 (0 : Int)).bind (Sum.elim (fun y0 =>
      k y0) (fun y1 =>
      k Bool.true))
theorem c_laws_eqLegS_bind {R : Type} (x0 : List D) (x1 : List D) (k : Bool → Option R) : c_laws_eqLegS x0 x1 k = (c_laws_eqLegS x0 x1 some).bind k := by
  unfold c_laws_eqLegS
  repeat' first
    | exact bnd_tail
    | exact bnd_none
    | exact bnd_leaf
    | apply bnd_ite
    | apply bnd_cond
    | apply bnd_sum
    | (apply bnd_bind; intro _)
    | intro _
def laws_eqLegS (x0 : List D) (x1 : List D) : Option (Bool) := c_laws_eqLegS x0 x1 some
def e_laws_eqLegS : Ent := ⟨23, [.rd (.struct [.int .i64, .int .i64]), .rd (.struct [.int .i64, .int .i64])], .bool, [.undef, .undef], fun _ ds k => dL (fun x0 ds => dL (fun x1 ds => dE ((laws_eqLegS x0 x1).bind (fun y => k [.B y])) ds) ds) ds⟩
theorem q_laws_eqLegS (x0 : List D) (x1 : List D) : runFn (ocOf []) (olOf [e_laws_eqLegS_L4]) A 23 Go.Proofs.Try.f23 (Sh.mks e_laws_eqLegS.sh [.L x0, .L x1]).1 (fun v os => some (v, os)) = c_laws_eqLegS x0 x1 (fun y => some ((e_laws_eqLegS.res.mk [.B y]).1, e_laws_eqLegS.outs)) := by kernel_rfl
theorem e_laws_eqLegS_ok : e_laws_eqLegS.ok Go.Proofs.Try.prog A := by
  intro R ds k r h
  unfold e_laws_eqLegS at h
  obtain ⟨x0, d0, rfl, h0⟩ := dL_some h
  obtain ⟨x1, d1, rfl, h1⟩ := dL_some h0
  obtain ⟨rfl, hE⟩ := dE_some h1
  obtain ⟨y, hy, hk⟩ := bnd_some hE
  refine ⟨_, hk, fn_ok px (fx := ⟨Go.Proofs.Try.func23, by kernel_rfl, by kernel_rfl⟩) entsOK_nil (lentsOK_cons e_laws_eqLegS_L4_ok lentsOK_nil) ?_⟩
  have hq := q_laws_eqLegS x0 x1
  rw [c_laws_eqLegS_bind] at hq
  rw [show c_laws_eqLegS x0 x1 some = some y from hy] at hq
  exact hq

/-! loop.example/g00876/laws.FnExactMisclosure -/
def c_laws_FnExactMisclosure {R : Type} (x0 : Int) (x1 : Int) (x2 : List D) (x3 : Int) (x4 : Int) (k : Bool → Option R) : Option R :=
  (laws_szLegS x2 (1048576 : Int)).bind (fun y0 =>
    bif Decidable.decide (y0 < (0 : Int)) then
      k Bool.true
    else
      (laws_toLeg x0 x1).bind (fun y1 =>
        (laws_toLegS x2).bind (fun y2 =>
          (laws_toLeg x3 x4).bind (fun y3 =>
            (spec_Misclosure y1.fst y1.snd y2 y3.fst y3.snd).bind (fun y4 =>
              (laws_toLegS x2).bind (fun y5 =>
                (laws_toLeg x0 x1).bind (fun y6 =>
                  (laws_toLeg x3 x4).bind (fun y7 =>
                    (impl_Misclosure y6.fst y6.snd y5 y7.fst y7.snd).bind (fun y8 =>
                      (laws_eqLeg y8.fst y8.snd.fst y4.fst y4.snd.fst).bind (fun y9 =>
                        bif !y9 then
                          k Bool.false
                        else
                          bif !y8.snd.snd == y4.snd.snd then
                            k Bool.false
                          else
                            (laws_toLegS x2).bind (fun y10 =>
                              (laws_eqLegS y5 y10).bind (fun y11 =>
                                bif !y11 then
                                  k Bool.false
                                else
                                  k Bool.true))))))))))))
theorem c_laws_FnExactMisclosure_bind {R : Type} (x0 : Int) (x1 : Int) (x2 : List D) (x3 : Int) (x4 : Int) (k : Bool → Option R) : c_laws_FnExactMisclosure x0 x1 x2 x3 x4 k = (c_laws_FnExactMisclosure x0 x1 x2 x3 x4 some).bind k := by
  unfold c_laws_FnExactMisclosure
  repeat' first
    | exact bnd_tail
    | exact bnd_none
    | exact bnd_leaf
    | apply bnd_ite
    | apply bnd_cond
    | apply bnd_sum
    | (apply bnd_bind; intro _)
    | intro _
def laws_FnExactMisclosure (x0 : Int) (x1 : Int) (x2 : List D) (x3 : Int) (x4 : Int) : Option (Bool) := c_laws_FnExactMisclosure x0 x1 x2 x3 x4 some
def e_laws_FnExactMisclosure : Ent := ⟨6, [.agg [.int .i64, .int .i64], .rd (.struct [.int .i64, .int .i64]), .agg [.int .i64, .int .i64]], .bool, [.undef, .undef, .undef], fun _ ds k => dI (fun x0 ds => dI (fun x1 ds => dL (fun x2 ds => dI (fun x3 ds => dI (fun x4 ds => dE ((laws_FnExactMisclosure x0 x1 x2 x3 x4).bind (fun y => k [.B y])) ds) ds) ds) ds) ds) ds⟩
theorem q_laws_FnExactMisclosure (x0 : Int) (x1 : Int) (x2 : List D) (x3 : Int) (x4 : Int) : runFn (ocOf [e_laws_szLegS, e_laws_toLeg, e_laws_toLegS, e_spec_Misclosure, e_impl_Misclosure, e_laws_eqLeg, e_laws_eqLegS]) (olOf []) A 6 Go.Proofs.Try.f6 (Sh.mks e_laws_FnExactMisclosure.sh [.I x0, .I x1, .L x2, .I x3, .I x4]).1 (fun v os => some (v, os)) = c_laws_FnExactMisclosure x0 x1 x2 x3 x4 (fun y => some ((e_laws_FnExactMisclosure.res.mk [.B y]).1, e_laws_FnExactMisclosure.outs)) := by kernel_rfl
theorem e_laws_FnExactMisclosure_ok : e_laws_FnExactMisclosure.ok Go.Proofs.Try.prog A := by
  intro R ds k r h
  unfold e_laws_FnExactMisclosure at h
  obtain ⟨x0, d0, rfl, h0⟩ := dI_some h
  obtain ⟨x1, d1, rfl, h1⟩ := dI_some h0
  obtain ⟨x2, d2, rfl, h2⟩ := dL_some h1
  obtain ⟨x3, d3, rfl, h3⟩ := dI_some h2
  obtain ⟨x4, d4, rfl, h4⟩ := dI_some h3
  obtain ⟨rfl, hE⟩ := dE_some h4
  obtain ⟨y, hy, hk⟩ := bnd_some hE
  refine ⟨_, hk, fn_ok px (fx := ⟨Go.Proofs.Try.func6, by kernel_rfl, by kernel_rfl⟩) (entsOK_cons e_laws_szLegS_ok (entsOK_cons e_laws_toLeg_ok (entsOK_cons e_laws_toLegS_ok (entsOK_cons e_spec_Misclosure_ok (entsOK_cons e_impl_Misclosure_ok (entsOK_cons e_laws_eqLeg_ok (entsOK_cons e_laws_eqLegS_ok entsOK_nil))))))) lentsOK_nil ?_⟩
  have hq := q_laws_FnExactMisclosure x0 x1 x2 x3 x4
  rw [c_laws_FnExactMisclosure_bind] at hq
  rw [show c_laws_FnExactMisclosure x0 x1 x2 x3 x4 some = some y from hy] at hq
  exact hq
end
end Go.Proofs.Ytkcclgcmpdgdjaa
