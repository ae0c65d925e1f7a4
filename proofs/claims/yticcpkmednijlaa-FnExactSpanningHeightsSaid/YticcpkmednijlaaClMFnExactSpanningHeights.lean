/- Models of Go functions and their contracts, printed by a program of this session. -/
import Derived.Test.YticcpkmednijlaaClA
set_option linter.unusedVariables false
set_option maxRecDepth 100000
namespace Go.Proofs.Yticcpkmednijlaa
open Go Go.Rai
noncomputable section
/-! loop.example/g00876/laws.szHeightLineS -/
def c_laws_szHeightLineS {R : Type} (x0 : List D) (x1 : Int) (k : Int → Option R) : Option R :=
  bif Decidable.decide (Go.IntKind.i64.wrap (x1 - (↑x0.length : Int)) < (0 : Int)) then
    k (-1 : Int)
  else
    k (Go.IntKind.i64.wrap (x1 - (↑x0.length : Int)))
theorem c_laws_szHeightLineS_bind {R : Type} (x0 : List D) (x1 : Int) (k : Int → Option R) : c_laws_szHeightLineS x0 x1 k = (c_laws_szHeightLineS x0 x1 some).bind k := by
  unfold c_laws_szHeightLineS
  repeat' first
    | exact bnd_tail
    | exact bnd_none
    | exact bnd_leaf
    | apply bnd_ite
    | apply bnd_cond
    | apply bnd_sum
    | (apply bnd_bind; intro _)
    | intro _
def laws_szHeightLineS (x0 : List D) (x1 : Int) : Option (Int) := c_laws_szHeightLineS x0 x1 some
def e_laws_szHeightLineS : Ent := ⟨15, [.rd (.struct [.int .i64, .int .i64, .int .i64, .int .i64]), .int .i64], .int .i64, [.undef, .undef], fun _ ds k => dL (fun x0 ds => dI (fun x1 ds => dE ((laws_szHeightLineS x0 x1).bind (fun y => k [.I y])) ds) ds) ds⟩
theorem q_laws_szHeightLineS (x0 : List D) (x1 : Int) : runFn (ocOf []) (olOf []) A 15 Go.Proofs.Try.f15 (Sh.mks e_laws_szHeightLineS.sh [.L x0, .I x1]).1 (fun v os => some (v, os)) = c_laws_szHeightLineS x0 x1 (fun y => some ((e_laws_szHeightLineS.res.mk [.I y]).1, (Sh.mks e_laws_szHeightLineS.outs (e_laws_szHeightLineS.res.mk [.I y]).2).1)) := by kernel_rfl
theorem e_laws_szHeightLineS_ok : e_laws_szHeightLineS.ok Go.Proofs.Try.prog A := by
  intro R ds k r h
  unfold e_laws_szHeightLineS at h
  obtain ⟨x0, d0, rfl, h0⟩ := dL_some h
  obtain ⟨x1, d1, rfl, h1⟩ := dI_some h0
  obtain ⟨rfl, hE⟩ := dE_some h1
  obtain ⟨y, hy, hk⟩ := bnd_some hE
  refine ⟨_, hk, fn_ok px (fx := ⟨Go.Proofs.Try.func15, by kernel_rfl, by kernel_rfl⟩) entsOK_nil lentsOK_nil ?_⟩
  have hq := q_laws_szHeightLineS x0 x1
  rw [c_laws_szHeightLineS_bind] at hq
  rw [show c_laws_szHeightLineS x0 x1 some = some y from hy] at hq
  exact hq

/-! loop.example/g00876/laws.toHeightLine -/
def c_laws_toHeightLine {R : Type} (x0 : Int) (x1 : Int) (x2 : Int) (x3 : Int) (k : Int × Int × Int × Int → Option R) : Option R :=
  k (x0, x1, x2, x3)
theorem c_laws_toHeightLine_bind {R : Type} (x0 : Int) (x1 : Int) (x2 : Int) (x3 : Int) (k : Int × Int × Int × Int → Option R) : c_laws_toHeightLine x0 x1 x2 x3 k = (c_laws_toHeightLine x0 x1 x2 x3 some).bind k := by
  unfold c_laws_toHeightLine
  repeat' first
    | exact bnd_tail
    | exact bnd_none
    | exact bnd_leaf
    | apply bnd_ite
    | apply bnd_cond
    | apply bnd_sum
    | (apply bnd_bind; intro _)
    | intro _
def laws_toHeightLine (x0 : Int) (x1 : Int) (x2 : Int) (x3 : Int) : Option (Int × Int × Int × Int) := c_laws_toHeightLine x0 x1 x2 x3 some
def e_laws_toHeightLine : Ent := ⟨69, [.agg [.int .i64, .int .i64, .int .i64, .int .i64]], .agg [.int .i64, .int .i64, .int .i64, .int .i64], [.undef], fun _ ds k => dI (fun x0 ds => dI (fun x1 ds => dI (fun x2 ds => dI (fun x3 ds => dE ((laws_toHeightLine x0 x1 x2 x3).bind (fun y => k [.I y.1, .I y.2.1, .I y.2.2.1, .I y.2.2.2])) ds) ds) ds) ds) ds⟩
theorem q_laws_toHeightLine (x0 : Int) (x1 : Int) (x2 : Int) (x3 : Int) : runFn (ocOf []) (olOf []) A 69 Go.Proofs.Try.f69 (Sh.mks e_laws_toHeightLine.sh [.I x0, .I x1, .I x2, .I x3]).1 (fun v os => some (v, os)) = c_laws_toHeightLine x0 x1 x2 x3 (fun y => some ((e_laws_toHeightLine.res.mk [.I y.1, .I y.2.1, .I y.2.2.1, .I y.2.2.2]).1, (Sh.mks e_laws_toHeightLine.outs (e_laws_toHeightLine.res.mk [.I y.1, .I y.2.1, .I y.2.2.1, .I y.2.2.2]).2).1)) := by kernel_rfl
theorem e_laws_toHeightLine_ok : e_laws_toHeightLine.ok Go.Proofs.Try.prog A := by
  intro R ds k r h
  unfold e_laws_toHeightLine at h
  obtain ⟨x0, d0, rfl, h0⟩ := dI_some h
  obtain ⟨x1, d1, rfl, h1⟩ := dI_some h0
  obtain ⟨x2, d2, rfl, h2⟩ := dI_some h1
  obtain ⟨x3, d3, rfl, h3⟩ := dI_some h2
  obtain ⟨rfl, hE⟩ := dE_some h3
  obtain ⟨y, hy, hk⟩ := bnd_some hE
  refine ⟨_, hk, fn_ok px (fx := ⟨Go.Proofs.Try.func69, by kernel_rfl, by kernel_rfl⟩) entsOK_nil lentsOK_nil ?_⟩
  have hq := q_laws_toHeightLine x0 x1 x2 x3
  rw [c_laws_toHeightLine_bind] at hq
  rw [show c_laws_toHeightLine x0 x1 x2 x3 some = some y from hy] at hq
  exact hq

/-! loop.example/g00876/laws.toHeightLineS, loop 3 -/
def c_laws_toHeightLineS_L3 {R : Type} (F : List D → Int → List D → Option (List D)) (x0 : List D) (x1 : Int) (x2 : List D) (k : List D → Option R) : Option R :=
  bif Decidable.decide (x1 < (↑x0.length : Int)) then
    if (0 : Int) ≤ x1 ∧ x1 < (↑x0.length : Int) then
      (laws_toHeightLine (((x0.getD x1.toNat (Go.Rai.D.int (0 : Int))).fld (0 : Nat)).toInt) (((x0.getD x1.toNat (Go.Rai.D.int (0 : Int))).fld (1 : Nat)).toInt) (((x0.getD x1.toNat (Go.Rai.D.int (0 : Int))).fld (2 : Nat)).toInt) (((x0.getD x1.toNat (Go.Rai.D.int (0 : Int))).fld (3 : Nat)).toInt)).bind (fun y0 =>
        if (0 : Int) ≤ x1 ∧ x1 < (↑x2.length : Int) then
          if x1.toNat + (1 : Nat) ≤ x2.length then
            (F x0 (Go.IntKind.i64.wrap (x1 + (1 : Int))) (x2.set x1.toNat (Go.Rai.D.node [Go.Rai.D.int y0.fst, Go.Rai.D.int y0.snd.fst, Go.Rai.D.int y0.snd.snd.fst, Go.Rai.D.int y0.snd.snd.snd]))).bind k
          else
            none
        else
          none)
    else
      none
  else
    k x2
theorem c_laws_toHeightLineS_L3_bind {R : Type} (F : List D → Int → List D → Option (List D)) (x0 : List D) (x1 : Int) (x2 : List D) (k : List D → Option R) : c_laws_toHeightLineS_L3 F x0 x1 x2 k = (c_laws_toHeightLineS_L3 F x0 x1 x2 some).bind k := by
  unfold c_laws_toHeightLineS_L3
  repeat' first
    | exact bnd_tail
    | exact bnd_none
    | exact bnd_leaf
    | apply bnd_ite
    | apply bnd_cond
    | apply bnd_sum
    | (apply bnd_bind; intro _)
    | intro _
def n_laws_toHeightLineS_L3 : Nat → List D → Int → List D → Option (List D)
  | 0, _, _, _ => none
  | n + 1, x0, x1, x2 => c_laws_toHeightLineS_L3 (n_laws_toHeightLineS_L3 n) x0 x1 x2 some
noncomputable def laws_toHeightLineS_L3 (x0 : List D) (x1 : Int) (x2 : List D) : Option (List D) := ev (fun n => n_laws_toHeightLineS_L3 n x0 x1 x2)
def m_laws_toHeightLineS_L3 (F : List D → Int → List D → Option (List D)) : Lent := ⟨3, ⟨[.rd (.struct [.int .i64, .int .i64, .int .i64, .int .i64]), .undef, .undef, .full 1000 [] (.struct [.int .i64, .int .i64, .int .i64, .int .i64]), .int .i64, .undef, .undef, .undef, .undef, .undef, .undef, .undef, .undef, .undef, .undef, .undef, .undef, .undef, .undef, .undef, .undef, .undef, .undef], [(1000, .own (.struct [.int .i64, .int .i64, .int .i64, .int .i64]))]⟩, [(.exit 0, ⟨[.undef, .undef, .undef, .full 1000 [] (.struct [.int .i64, .int .i64, .int .i64, .int .i64]), .undef, .undef, .undef, .undef, .undef, .undef, .undef, .undef, .undef, .undef, .undef, .undef, .undef, .undef, .undef, .undef, .undef, .undef, .undef], [(1000, .own (.struct [.int .i64, .int .i64, .int .i64, .int .i64]))]⟩)], fun _ ds k => dL (fun x0 ds => dI (fun x1 ds => dL (fun x2 ds => dE ((F x0 x1 x2).bind (fun y => k 0 [.L y])) ds) ds) ds) ds⟩
theorem q_laws_toHeightLineS_L3 (F : List D → Int → List D → Option (List D)) (x0 : List D) (x1 : Int) (x2 : List D) : runLoop (ocOf [e_laws_toHeightLine]) (olOf [m_laws_toHeightLineS_L3 F]) A 17 (codeAt (bodyOf Go.Proofs.Try.f17) 3) ((m_laws_toHeightLineS_L3 F).sh.mk' [.L x0, .I x1, .L x2]) (fun e σ' => some (e, σ')) = c_laws_toHeightLineS_L3 F x0 x1 x2 (fun y => some (.exit 0, SSt.mk' ⟨[.undef, .undef, .undef, .full 1000 [] (.struct [.int .i64, .int .i64, .int .i64, .int .i64]), .undef, .undef, .undef, .undef, .undef, .undef, .undef, .undef, .undef, .undef, .undef, .undef, .undef, .undef, .undef, .undef, .undef, .undef, .undef], [(1000, .own (.struct [.int .i64, .int .i64, .int .i64, .int .i64]))]⟩ [.L y])) := by kernel_rfl
theorem m_laws_toHeightLineS_L3_ok : ∀ n, (m_laws_toHeightLineS_L3 (n_laws_toHeightLineS_L3 n)).ok Go.Proofs.Try.prog (codeAt (bodyOf Go.Proofs.Try.f17) 3) := by
  intro n
  induction n with
  | zero =>
    intro R ds k r h
    unfold m_laws_toHeightLineS_L3 at h
    obtain ⟨x0, d0, rfl, h0⟩ := dL_some h
    obtain ⟨x1, d1, rfl, h1⟩ := dI_some h0
    obtain ⟨x2, d2, rfl, h2⟩ := dL_some h1
    obtain ⟨rfl, hE⟩ := dE_some h2
    obtain ⟨y, hy, hk⟩ := bnd_some hE
    cases hy
  | succ n ih =>
    intro R ds k r h
    unfold m_laws_toHeightLineS_L3 at h
    obtain ⟨x0, d0, rfl, h0⟩ := dL_some h
    obtain ⟨x1, d1, rfl, h1⟩ := dI_some h0
    obtain ⟨x2, d2, rfl, h2⟩ := dL_some h1
    obtain ⟨rfl, hE⟩ := dE_some h2
    obtain ⟨y, hy, hk⟩ := bnd_some hE
    have hq := q_laws_toHeightLineS_L3 (n_laws_toHeightLineS_L3 n) x0 x1 x2
    rw [c_laws_toHeightLineS_L3_bind] at hq
    rw [show c_laws_toHeightLineS_L3 (n_laws_toHeightLineS_L3 n) x0 x1 x2 some = some y from hy] at hq
    refine ⟨0, _, _, _, hk, rfl, loop_ok px (fx := ⟨Go.Proofs.Try.func17, by kernel_rfl, by kernel_rfl⟩) (entsOK_cons e_laws_toHeightLine_ok entsOK_nil) (lentsOK_cons ih lentsOK_nil) (by kernel_rfl) ?_⟩
    exact hq
noncomputable def e_laws_toHeightLineS_L3 : Lent := m_laws_toHeightLineS_L3 laws_toHeightLineS_L3
theorem e_laws_toHeightLineS_L3_ok : e_laws_toHeightLineS_L3.ok Go.Proofs.Try.prog (codeAt (bodyOf Go.Proofs.Try.f17) 3) := by
  intro R ds k r h
  unfold e_laws_toHeightLineS_L3 m_laws_toHeightLineS_L3 at h
  obtain ⟨x0, d0, rfl, h0⟩ := dL_some h
  obtain ⟨x1, d1, rfl, h1⟩ := dI_some h0
  obtain ⟨x2, d2, rfl, h2⟩ := dL_some h1
  obtain ⟨rfl, hE⟩ := dE_some h2
  obtain ⟨y, hy, hk⟩ := bnd_some hE
  obtain ⟨n, hn⟩ := ev_some hy
  exact m_laws_toHeightLineS_L3_ok n R _ k r (show (n_laws_toHeightLineS_L3 n x0 x1 x2).bind _ = _ by rw [hn]; exact hk)

/-! loop.example/g00876/laws.toHeightLineS -/
def c_laws_toHeightLineS {R : Type} (x0 : List D) (k : List D → Option R) : Option R :=
  if (0 : Int) ≤ (↑x0.length : Int) ∧ (↑x0.length : Int) ≤ (↑x0.length : Int) ∧ (↑x0.length : Int) ≤ (4294967296 : Int) then
    (laws_toHeightLineS_L3 x0 (0 : Int) (List.replicate (↑x0.length : Int).toNat (Go.Rai.D.node [Go.Rai.D.int (0 : Int), Go.Rai.D.int (0 : Int), Go.Rai.D.int (0 : Int), Go.Rai.D.int (0 : Int)]))).bind (fun y0 =>
      k y0)
  else
    none
theorem c_laws_toHeightLineS_bind {R : Type} (x0 : List D) (k : List D → Option R) : c_laws_toHeightLineS x0 k = (c_laws_toHeightLineS x0 some).bind k := by
  unfold c_laws_toHeightLineS
  repeat' first
    | exact bnd_tail
    | exact bnd_none
    | exact bnd_leaf
    | apply bnd_ite
    | apply bnd_cond
    | apply bnd_sum
    | (apply bnd_bind; intro _)
    | intro _
def laws_toHeightLineS (x0 : List D) : Option (List D) := c_laws_toHeightLineS x0 some
def e_laws_toHeightLineS : Ent := ⟨17, [.rd (.struct [.int .i64, .int .i64, .int .i64, .int .i64])], .own (.struct [.int .i64, .int .i64, .int .i64, .int .i64]), [.undef], fun _ ds k => dL (fun x0 ds => dE ((laws_toHeightLineS x0).bind (fun y => k [.L y])) ds) ds⟩
theorem q_laws_toHeightLineS (x0 : List D) : runFn (ocOf []) (olOf [e_laws_toHeightLineS_L3]) A 17 Go.Proofs.Try.f17 (Sh.mks e_laws_toHeightLineS.sh [.L x0]).1 (fun v os => some (v, os)) = c_laws_toHeightLineS x0 (fun y => some ((e_laws_toHeightLineS.res.mk [.L y]).1, (Sh.mks e_laws_toHeightLineS.outs (e_laws_toHeightLineS.res.mk [.L y]).2).1)) := by kernel_rfl
theorem e_laws_toHeightLineS_ok : e_laws_toHeightLineS.ok Go.Proofs.Try.prog A := by
  intro R ds k r h
  unfold e_laws_toHeightLineS at h
  obtain ⟨x0, d0, rfl, h0⟩ := dL_some h
  obtain ⟨rfl, hE⟩ := dE_some h0
  obtain ⟨y, hy, hk⟩ := bnd_some hE
  refine ⟨_, hk, fn_ok px (fx := ⟨Go.Proofs.Try.func17, by kernel_rfl, by kernel_rfl⟩) entsOK_nil (lentsOK_cons e_laws_toHeightLineS_L3_ok lentsOK_nil) ?_⟩
  have hq := q_laws_toHeightLineS x0
  rw [c_laws_toHeightLineS_bind] at hq
  rw [show c_laws_toHeightLineS x0 some = some y from hy] at hq
  exact hq

/-! loop.example/g00876/spec.l1In -/
def c_spec_l1In {R : Type} (x0 : Int) (x1 : Int) (x2 : Int) (k : Bool → Option R) : Option R :=
  bif Decidable.decide (x1 ≤ x0) then
    k (Decidable.decide (x0 ≤ x2))
  else
    k Bool.false
theorem c_spec_l1In_bind {R : Type} (x0 : Int) (x1 : Int) (x2 : Int) (k : Bool → Option R) : c_spec_l1In x0 x1 x2 k = (c_spec_l1In x0 x1 x2 some).bind k := by
  unfold c_spec_l1In
  repeat' first
    | exact bnd_tail
    | exact bnd_none
    | exact bnd_leaf
    | apply bnd_ite
    | apply bnd_cond
    | apply bnd_sum
    | (apply bnd_bind; intro _)
    | intro _
def spec_l1In (x0 : Int) (x1 : Int) (x2 : Int) : Option (Bool) := c_spec_l1In x0 x1 x2 some
def e_spec_l1In : Ent := ⟨67, [.int .i64, .int .i64, .int .i64], .bool, [.undef, .undef, .undef], fun _ ds k => dI (fun x0 ds => dI (fun x1 ds => dI (fun x2 ds => dE ((spec_l1In x0 x1 x2).bind (fun y => k [.B y])) ds) ds) ds) ds⟩
theorem q_spec_l1In (x0 : Int) (x1 : Int) (x2 : Int) : runFn (ocOf []) (olOf []) A 67 Go.Proofs.Try.f67 (Sh.mks e_spec_l1In.sh [.I x0, .I x1, .I x2]).1 (fun v os => some (v, os)) = c_spec_l1In x0 x1 x2 (fun y => some ((e_spec_l1In.res.mk [.B y]).1, (Sh.mks e_spec_l1In.outs (e_spec_l1In.res.mk [.B y]).2).1)) := by kernel_rfl
theorem e_spec_l1In_ok : e_spec_l1In.ok Go.Proofs.Try.prog A := by
  intro R ds k r h
  unfold e_spec_l1In at h
  obtain ⟨x0, d0, rfl, h0⟩ := dI_some h
  obtain ⟨x1, d1, rfl, h1⟩ := dI_some h0
  obtain ⟨x2, d2, rfl, h2⟩ := dI_some h1
  obtain ⟨rfl, hE⟩ := dE_some h2
  obtain ⟨y, hy, hk⟩ := bnd_some hE
  refine ⟨_, hk, fn_ok px (fx := ⟨Go.Proofs.Try.func67, by kernel_rfl, by kernel_rfl⟩) entsOK_nil lentsOK_nil ?_⟩
  have hq := q_spec_l1In x0 x1 x2
  rw [c_spec_l1In_bind] at hq
  rw [show c_spec_l1In x0 x1 x2 some = some y from hy] at hq
  exact hq

/-! loop.example/g00876/spec.l17Lines, loop 4 -/
def c_spec_l17Lines_L4 {R : Type} (F : List D → Int → Int → Option ((Bool) ⊕ (Unit))) (x0 : List D) (x1 : Int) (x2 : Int) (k : (Bool) ⊕ (Unit) → Option R) : Option R :=
  bif Decidable.decide (x2 < (↑x0.length : Int)) then
    if (0 : Int) ≤ x2 ∧ x2 < (↑x0.length : Int) then
      (spec_l1In (((x0.getD x2.toNat (Go.Rai.D.int (0 : Int))).fld (0 : Nat)).toInt) (0 : Int) (Go.IntKind.i64.wrap (x1 - (1 : Int)))).bind (fun y0 =>
        bif !y0 then
          k (.inl Bool.false)
        else
          (spec_l1In (((x0.getD x2.toNat (Go.Rai.D.int (0 : Int))).fld (1 : Nat)).toInt) (0 : Int) (Go.IntKind.i64.wrap (x1 - (1 : Int)))).bind (fun y1 =>
            bif !y1 then
              k (.inl Bool.false)
            else
              bif Decidable.decide (((x0.getD x2.toNat (Go.Rai.D.int (0 : Int))).fld (0 : Nat)).toInt = ((x0.getD x2.toNat (Go.Rai.D.int (0 : Int))).fld (1 : Nat)).toInt) then
                k (.inl Bool.false)
              else
                (spec_l1In (((x0.getD x2.toNat (Go.Rai.D.int (0 : Int))).fld (2 : Nat)).toInt) (-100000 : Int) (100000 : Int)).bind (fun y2 =>
                  bif !y2 then
                    k (.inl Bool.false)
                  else
                    (spec_l1In (((x0.getD x2.toNat (Go.Rai.D.int (0 : Int))).fld (3 : Nat)).toInt) (1 : Int) (1000 : Int)).bind (fun y3 =>
                      bif !y3 then
                        k (.inl Bool.false)
                      else
                        (F x0 x1 (Go.IntKind.i64.wrap (x2 + (1 : Int)))).bind k))))
    else
      none
  else
    k (.inr ())
theorem c_spec_l17Lines_L4_bind {R : Type} (F : List D → Int → Int → Option ((Bool) ⊕ (Unit))) (x0 : List D) (x1 : Int) (x2 : Int) (k : (Bool) ⊕ (Unit) → Option R) : c_spec_l17Lines_L4 F x0 x1 x2 k = (c_spec_l17Lines_L4 F x0 x1 x2 some).bind k := by
  unfold c_spec_l17Lines_L4
  repeat' first
    | exact bnd_tail
    | exact bnd_none
    | exact bnd_leaf
    | apply bnd_ite
    | apply bnd_cond
    | apply bnd_sum
    | (apply bnd_bind; intro _)
    | intro _
def n_spec_l17Lines_L4 : Nat → List D → Int → Int → Option ((Bool) ⊕ (Unit))
  | 0, _, _, _ => none
  | n + 1, x0, x1, x2 => c_spec_l17Lines_L4 (n_spec_l17Lines_L4 n) x0 x1 x2 some
noncomputable def spec_l17Lines_L4 (x0 : List D) (x1 : Int) (x2 : Int) : Option ((Bool) ⊕ (Unit)) := ev (fun n => n_spec_l17Lines_L4 n x0 x1 x2)
def m_spec_l17Lines_L4 (F : List D → Int → Int → Option ((Bool) ⊕ (Unit))) : Lent := ⟨4, ⟨[.rd (.struct [.int .i64, .int .i64, .int .i64, .int .i64]), .int .i64, .undef, .undef, .undef, .int .i64, .undef, .undef, .undef, .undef, .undef, .undef, .undef, .undef, .undef, .undef, .undef, .undef, .undef, .undef, .undef, .undef, .undef, .undef, .undef, .undef, .undef, .undef, .undef, .undef, .undef, .undef, .undef, .undef, .undef, .undef, .undef, .undef, .undef, .undef, .undef, .undef, .undef, .undef, .undef, .undef, .undef, .undef, .undef, .undef, .undef, .undef, .undef, .undef, .undef, .undef, .undef, .undef], []⟩, [(.ret, ⟨[.undef, .undef, .undef, .undef, .bool, .undef, .undef, .undef, .undef, .undef, .undef, .undef, .undef, .undef, .undef, .undef, .undef, .undef, .undef, .undef, .undef, .undef, .undef, .undef, .undef, .undef, .undef, .undef, .undef, .undef, .undef, .undef, .undef, .undef, .undef, .undef, .undef, .undef, .undef, .undef, .undef, .undef, .undef, .undef, .undef, .undef, .undef, .undef, .undef, .undef, .undef, .undef, .undef, .undef, .undef, .undef, .undef, .undef], []⟩), (.exit 0, ⟨[.undef, .undef, .undef, .undef, .undef, .undef, .undef, .undef, .undef, .undef, .undef, .undef, .undef, .undef, .undef, .undef, .undef, .undef, .undef, .undef, .undef, .undef, .undef, .undef, .undef, .undef, .undef, .undef, .undef, .undef, .undef, .undef, .undef, .undef, .undef, .undef, .undef, .undef, .undef, .undef, .undef, .undef, .undef, .undef, .undef, .undef, .undef, .undef, .undef, .undef, .undef, .undef, .undef, .undef, .undef, .undef, .undef, .undef], []⟩)], fun _ ds k => dL (fun x0 ds => dI (fun x1 ds => dI (fun x2 ds => dE ((F x0 x1 x2).bind (Sum.elim (fun y => k 0 [.B y]) (fun y => k 1 []))) ds) ds) ds) ds⟩
theorem q_spec_l17Lines_L4 (F : List D → Int → Int → Option ((Bool) ⊕ (Unit))) (x0 : List D) (x1 : Int) (x2 : Int) : runLoop (ocOf [e_spec_l1In]) (olOf [m_spec_l17Lines_L4 F]) A 66 (codeAt (bodyOf Go.Proofs.Try.f66) 4) ((m_spec_l17Lines_L4 F).sh.mk' [.L x0, .I x1, .I x2]) (fun e σ' => some (e, σ')) = c_spec_l17Lines_L4 F x0 x1 x2 (Sum.elim (fun y => some (.ret, SSt.mk' ⟨[.undef, .undef, .undef, .undef, .bool, .undef, .undef, .undef, .undef, .undef, .undef, .undef, .undef, .undef, .undef, .undef, .undef, .undef, .undef, .undef, .undef, .undef, .undef, .undef, .undef, .undef, .undef, .undef, .undef, .undef, .undef, .undef, .undef, .undef, .undef, .undef, .undef, .undef, .undef, .undef, .undef, .undef, .undef, .undef, .undef, .undef, .undef, .undef, .undef, .undef, .undef, .undef, .undef, .undef, .undef, .undef, .undef, .undef], []⟩ [.B y])) (fun y => some (.exit 0, SSt.mk' ⟨[.undef, .undef, .undef, .undef, .undef, .undef, .undef, .undef, .undef, .undef, .undef, .undef, .undef, .undef, .undef, .undef, .undef, .undef, .undef, .undef, .undef, .undef, .undef, .undef, .undef, .undef, .undef, .undef, .undef, .undef, .undef, .undef, .undef, .undef, .undef, .undef, .undef, .undef, .undef, .undef, .undef, .undef, .undef, .undef, .undef, .undef, .undef, .undef, .undef, .undef, .undef, .undef, .undef, .undef, .undef, .undef, .undef, .undef], []⟩ []))) := by kernel_rfl
theorem m_spec_l17Lines_L4_ok : ∀ n, (m_spec_l17Lines_L4 (n_spec_l17Lines_L4 n)).ok Go.Proofs.Try.prog (codeAt (bodyOf Go.Proofs.Try.f66) 4) := by
  intro n
  induction n with
  | zero =>
    intro R ds k r h
    unfold m_spec_l17Lines_L4 at h
    obtain ⟨x0, d0, rfl, h0⟩ := dL_some h
    obtain ⟨x1, d1, rfl, h1⟩ := dI_some h0
    obtain ⟨x2, d2, rfl, h2⟩ := dI_some h1
    obtain ⟨rfl, hE⟩ := dE_some h2
    obtain ⟨y, hy, hk⟩ := bnd_some hE
    cases hy
  | succ n ih =>
    intro R ds k r h
    unfold m_spec_l17Lines_L4 at h
    obtain ⟨x0, d0, rfl, h0⟩ := dL_some h
    obtain ⟨x1, d1, rfl, h1⟩ := dI_some h0
    obtain ⟨x2, d2, rfl, h2⟩ := dI_some h1
    obtain ⟨rfl, hE⟩ := dE_some h2
    obtain ⟨y, hy, hk⟩ := bnd_some hE
    have hq := q_spec_l17Lines_L4 (n_spec_l17Lines_L4 n) x0 x1 x2
    rw [c_spec_l17Lines_L4_bind] at hq
    rw [show c_spec_l17Lines_L4 (n_spec_l17Lines_L4 n) x0 x1 x2 some = some y from hy] at hq
    cases y with
    | inl y =>
      refine ⟨0, _, _, _, hk, rfl, loop_ok px (fx := ⟨Go.Proofs.Try.func66, by kernel_rfl, by kernel_rfl⟩) (entsOK_cons e_spec_l1In_ok entsOK_nil) (lentsOK_cons ih lentsOK_nil) (by kernel_rfl) ?_⟩
      exact hq
    | inr y =>
      refine ⟨1, _, _, _, hk, rfl, loop_ok px (fx := ⟨Go.Proofs.Try.func66, by kernel_rfl, by kernel_rfl⟩) (entsOK_cons e_spec_l1In_ok entsOK_nil) (lentsOK_cons ih lentsOK_nil) (by kernel_rfl) ?_⟩
      exact hq
noncomputable def e_spec_l17Lines_L4 : Lent := m_spec_l17Lines_L4 spec_l17Lines_L4
theorem e_spec_l17Lines_L4_ok : e_spec_l17Lines_L4.ok Go.Proofs.Try.prog (codeAt (bodyOf Go.Proofs.Try.f66) 4) := by
  intro R ds k r h
  unfold e_spec_l17Lines_L4 m_spec_l17Lines_L4 at h
  obtain ⟨x0, d0, rfl, h0⟩ := dL_some h
  obtain ⟨x1, d1, rfl, h1⟩ := dI_some h0
  obtain ⟨x2, d2, rfl, h2⟩ := dI_some h1
  obtain ⟨rfl, hE⟩ := dE_some h2
  obtain ⟨y, hy, hk⟩ := bnd_some hE
  obtain ⟨n, hn⟩ := ev_some hy
  exact m_spec_l17Lines_L4_ok n R _ k r (show (n_spec_l17Lines_L4 n x0 x1 x2).bind _ = _ by rw [hn]; exact hk)

/-! loop.example/g00876/spec.l17Lines -/
def c_spec_l17Lines {R : Type} (x0 : List D) (x1 : Int) (k : Bool → Option R) : Option R :=
  (spec_l1In x1 (2 : Int) (8 : Int)).bind (fun y0 =>
    bif !y0 then
      k Bool.false
    else
      bif Decidable.decide ((16 : Int) < (↑x0.length : Int)) then
        k Bool.false
      else
        (spec_l17Lines_L4 x0 x1 (0 : Int)).bind (Sum.elim (fun y1 =>
          k y1) (fun y2 =>
          k Bool.true)))
theorem c_spec_l17Lines_bind {R : Type} (x0 : List D) (x1 : Int) (k : Bool → Option R) : c_spec_l17Lines x0 x1 k = (c_spec_l17Lines x0 x1 some).bind k := by
  unfold c_spec_l17Lines
  repeat' first
    | exact bnd_tail
    | exact bnd_none
    | exact bnd_leaf
    | apply bnd_ite
    | apply bnd_cond
    | apply bnd_sum
    | (apply bnd_bind; intro _)
    | intro _
def spec_l17Lines (x0 : List D) (x1 : Int) : Option (Bool) := c_spec_l17Lines x0 x1 some
def e_spec_l17Lines : Ent := ⟨66, [.rd (.struct [.int .i64, .int .i64, .int .i64, .int .i64]), .int .i64], .bool, [.undef, .undef], fun _ ds k => dL (fun x0 ds => dI (fun x1 ds => dE ((spec_l17Lines x0 x1).bind (fun y => k [.B y])) ds) ds) ds⟩
theorem q_spec_l17Lines (x0 : List D) (x1 : Int) : runFn (ocOf [e_spec_l1In]) (olOf [e_spec_l17Lines_L4]) A 66 Go.Proofs.Try.f66 (Sh.mks e_spec_l17Lines.sh [.L x0, .I x1]).1 (fun v os => some (v, os)) = c_spec_l17Lines x0 x1 (fun y => some ((e_spec_l17Lines.res.mk [.B y]).1, (Sh.mks e_spec_l17Lines.outs (e_spec_l17Lines.res.mk [.B y]).2).1)) := by kernel_rfl
theorem e_spec_l17Lines_ok : e_spec_l17Lines.ok Go.Proofs.Try.prog A := by
  intro R ds k r h
  unfold e_spec_l17Lines at h
  obtain ⟨x0, d0, rfl, h0⟩ := dL_some h
  obtain ⟨x1, d1, rfl, h1⟩ := dI_some h0
  obtain ⟨rfl, hE⟩ := dE_some h1
  obtain ⟨y, hy, hk⟩ := bnd_some hE
  refine ⟨_, hk, fn_ok px (fx := ⟨Go.Proofs.Try.func66, by kernel_rfl, by kernel_rfl⟩) (entsOK_cons e_spec_l1In_ok entsOK_nil) (lentsOK_cons e_spec_l17Lines_L4_ok lentsOK_nil) ?_⟩
  have hq := q_spec_l17Lines x0 x1
  rw [c_spec_l17Lines_bind] at hq
  rw [show c_spec_l17Lines x0 x1 some = some y from hy] at hq
  exact hq

/-! loop.example/g00876/spec.SpanningHeights, loop 8 -/
def c_spec_SpanningHeights_L8 {R : Type} (F : List D → Int → List D → List D → Option ((Bool × List D × List D × List D × List D) ⊕ (List D × List D))) (x0 : List D) (x1 : Int) (x2 : List D) (x3 : List D) (k : (Bool × List D × List D × List D × List D) ⊕ (List D × List D) → Option R) : Option R :=
  bif Decidable.decide (x1 < (↑x0.length : Int)) then
    if (0 : Int) ≤ x1 ∧ x1 < (↑x0.length : Int) then
      if (0 : Int) ≤ ((x0.getD x1.toNat (Go.Rai.D.int (0 : Int))).fld (0 : Nat)).toInt ∧ ((x0.getD x1.toNat (Go.Rai.D.int (0 : Int))).fld (0 : Nat)).toInt < (↑x3.length : Int) then
        if ((x0.getD x1.toNat (Go.Rai.D.int (0 : Int))).fld (0 : Nat)).toInt.toNat + (1 : Nat) ≤ x3.length then
          if (0 : Int) ≤ ((x0.getD x1.toNat (Go.Rai.D.int (0 : Int))).fld (1 : Nat)).toInt ∧ ((x0.getD x1.toNat (Go.Rai.D.int (0 : Int))).fld (1 : Nat)).toInt < (↑x3.length : Int) then
            if ((x0.getD x1.toNat (Go.Rai.D.int (0 : Int))).fld (1 : Nat)).toInt.toNat + (1 : Nat) ≤ x3.length then
              bif (x3.getD ((x0.getD x1.toNat (Go.Rai.D.int (0 : Int))).fld (0 : Nat)).toInt.toNat (Go.Rai.D.int (0 : Int))).toBool == (x3.getD ((x0.getD x1.toNat (Go.Rai.D.int (0 : Int))).fld (1 : Nat)).toInt.toNat (Go.Rai.D.int (0 : Int))).toBool then
                (F x0 (Go.IntKind.i64.wrap (x1 + (1 : Int))) x2 x3).bind k
              else
                if (0 : Int) ≤ ((x0.getD x1.toNat (Go.Rai.D.int (0 : Int))).fld (0 : Nat)).toInt ∧ ((x0.getD x1.toNat (Go.Rai.D.int (0 : Int))).fld (0 : Nat)).toInt < (↑x3.length : Int) then
                  if ((x0.getD x1.toNat (Go.Rai.D.int (0 : Int))).fld (0 : Nat)).toInt.toNat + (1 : Nat) ≤ x3.length then
                    bif (x3.getD ((x0.getD x1.toNat (Go.Rai.D.int (0 : Int))).fld (0 : Nat)).toInt.toNat (Go.Rai.D.int (0 : Int))).toBool then
                      if (0 : Int) ≤ ((x0.getD x1.toNat (Go.Rai.D.int (0 : Int))).fld (0 : Nat)).toInt ∧ ((x0.getD x1.toNat (Go.Rai.D.int (0 : Int))).fld (0 : Nat)).toInt < (↑x2.length : Int) then
                        if ((x0.getD x1.toNat (Go.Rai.D.int (0 : Int))).fld (0 : Nat)).toInt.toNat + (1 : Nat) ≤ x2.length then
                          if (0 : Int) ≤ ((x0.getD x1.toNat (Go.Rai.D.int (0 : Int))).fld (1 : Nat)).toInt ∧ ((x0.getD x1.toNat (Go.Rai.D.int (0 : Int))).fld (1 : Nat)).toInt < (↑x2.length : Int) then
                            if ((x0.getD x1.toNat (Go.Rai.D.int (0 : Int))).fld (1 : Nat)).toInt.toNat + (1 : Nat) ≤ x2.length then
                              if (0 : Int) ≤ ((x0.getD x1.toNat (Go.Rai.D.int (0 : Int))).fld (0 : Nat)).toInt ∧ ((x0.getD x1.toNat (Go.Rai.D.int (0 : Int))).fld (0 : Nat)).toInt < (↑x3.length : Int) then
                                if ((x0.getD x1.toNat (Go.Rai.D.int (0 : Int))).fld (0 : Nat)).toInt.toNat + (1 : Nat) ≤ x3.length then
                                  if (0 : Int) ≤ ((x0.getD x1.toNat (Go.Rai.D.int (0 : Int))).fld (1 : Nat)).toInt ∧ ((x0.getD x1.toNat (Go.Rai.D.int (0 : Int))).fld (1 : Nat)).toInt < (↑(x3.set ((x0.getD x1.toNat (Go.Rai.D.int (0 : Int))).fld (0 : Nat)).toInt.toNat (Go.Rai.D.bool Bool.true)).length : Int) then
                                    if ((x0.getD x1.toNat (Go.Rai.D.int (0 : Int))).fld (1 : Nat)).toInt.toNat + (1 : Nat) ≤ (x3.set ((x0.getD x1.toNat (Go.Rai.D.int (0 : Int))).fld (0 : Nat)).toInt.toNat (Go.Rai.D.bool Bool.true)).length then
                                      if (0 : Int) ≤ ((x0.getD x1.toNat (Go.Rai.D.int (0 : Int))).fld (0 : Nat)).toInt ∧ ((x0.getD x1.toNat (Go.Rai.D.int (0 : Int))).fld (0 : Nat)).toInt < (↑(x2.set ((x0.getD x1.toNat (Go.Rai.D.int (0 : Int))).fld (1 : Nat)).toInt.toNat (Go.Rai.D.int (Go.IntKind.i64.wrap ((x2.getD ((x0.getD x1.toNat (Go.Rai.D.int (0 : Int))).fld (0 : Nat)).toInt.toNat (Go.Rai.D.int (0 : Int))).toInt + ((x0.getD x1.toNat (Go.Rai.D.int (0 : Int))).fld (2 : Nat)).toInt)))).length : Int) then
                                        if ((x0.getD x1.toNat (Go.Rai.D.int (0 : Int))).fld (0 : Nat)).toInt.toNat + (1 : Nat) ≤ (x2.set ((x0.getD x1.toNat (Go.Rai.D.int (0 : Int))).fld (1 : Nat)).toInt.toNat (Go.Rai.D.int (Go.IntKind.i64.wrap ((x2.getD ((x0.getD x1.toNat (Go.Rai.D.int (0 : Int))).fld (0 : Nat)).toInt.toNat (Go.Rai.D.int (0 : Int))).toInt + ((x0.getD x1.toNat (Go.Rai.D.int (0 : Int))).fld (2 : Nat)).toInt)))).length then
                                          (spec_l1In (((x2.set ((x0.getD x1.toNat (Go.Rai.D.int (0 : Int))).fld (1 : Nat)).toInt.toNat (Go.Rai.D.int (Go.IntKind.i64.wrap ((x2.getD ((x0.getD x1.toNat (Go.Rai.D.int (0 : Int))).fld (0 : Nat)).toInt.toNat (Go.Rai.D.int (0 : Int))).toInt + ((x0.getD x1.toNat (Go.Rai.D.int (0 : Int))).fld (2 : Nat)).toInt)))).getD ((x0.getD x1.toNat (Go.Rai.D.int (0 : Int))).fld (0 : Nat)).toInt.toNat (Go.Rai.D.int (0 : Int))).toInt) (-1000000 : Int) (1000000 : Int)).bind (fun y0 =>
                                            bif !y0 then
                                              k (.inl (Bool.false, [], [], x2.set ((x0.getD x1.toNat (Go.Rai.D.int (0 : Int))).fld (1 : Nat)).toInt.toNat (Go.Rai.D.int (Go.IntKind.i64.wrap ((x2.getD ((x0.getD x1.toNat (Go.Rai.D.int (0 : Int))).fld (0 : Nat)).toInt.toNat (Go.Rai.D.int (0 : Int))).toInt + ((x0.getD x1.toNat (Go.Rai.D.int (0 : Int))).fld (2 : Nat)).toInt))), (x3.set ((x0.getD x1.toNat (Go.Rai.D.int (0 : Int))).fld (0 : Nat)).toInt.toNat (Go.Rai.D.bool Bool.true)).set ((x0.getD x1.toNat (Go.Rai.D.int (0 : Int))).fld (1 : Nat)).toInt.toNat (Go.Rai.D.bool Bool.true)))
                                            else
                                              if (0 : Int) ≤ ((x0.getD x1.toNat (Go.Rai.D.int (0 : Int))).fld (1 : Nat)).toInt ∧ ((x0.getD x1.toNat (Go.Rai.D.int (0 : Int))).fld (1 : Nat)).toInt < (↑(x2.set ((x0.getD x1.toNat (Go.Rai.D.int (0 : Int))).fld (1 : Nat)).toInt.toNat (Go.Rai.D.int (Go.IntKind.i64.wrap ((x2.getD ((x0.getD x1.toNat (Go.Rai.D.int (0 : Int))).fld (0 : Nat)).toInt.toNat (Go.Rai.D.int (0 : Int))).toInt + ((x0.getD x1.toNat (Go.Rai.D.int (0 : Int))).fld (2 : Nat)).toInt)))).length : Int) then
                                                if ((x0.getD x1.toNat (Go.Rai.D.int (0 : Int))).fld (1 : Nat)).toInt.toNat + (1 : Nat) ≤ (x2.set ((x0.getD x1.toNat (Go.Rai.D.int (0 : Int))).fld (1 : Nat)).toInt.toNat (Go.Rai.D.int (Go.IntKind.i64.wrap ((x2.getD ((x0.getD x1.toNat (Go.Rai.D.int (0 : Int))).fld (0 : Nat)).toInt.toNat (Go.Rai.D.int (0 : Int))).toInt + ((x0.getD x1.toNat (Go.Rai.D.int (0 : Int))).fld (2 : Nat)).toInt)))).length then
                                                  (spec_l1In (((x2.set ((x0.getD x1.toNat (Go.Rai.D.int (0 : Int))).fld (1 : Nat)).toInt.toNat (Go.Rai.D.int (Go.IntKind.i64.wrap ((x2.getD ((x0.getD x1.toNat (Go.Rai.D.int (0 : Int))).fld (0 : Nat)).toInt.toNat (Go.Rai.D.int (0 : Int))).toInt + ((x0.getD x1.toNat (Go.Rai.D.int (0 : Int))).fld (2 : Nat)).toInt)))).getD ((x0.getD x1.toNat (Go.Rai.D.int (0 : Int))).fld (1 : Nat)).toInt.toNat (Go.Rai.D.int (0 : Int))).toInt) (-1000000 : Int) (1000000 : Int)).bind (fun y1 =>
                                                    bif !y1 then
                                                      k (.inl (Bool.false, [], [], x2.set ((x0.getD x1.toNat (Go.Rai.D.int (0 : Int))).fld (1 : Nat)).toInt.toNat (Go.Rai.D.int (Go.IntKind.i64.wrap ((x2.getD ((x0.getD x1.toNat (Go.Rai.D.int (0 : Int))).fld (0 : Nat)).toInt.toNat (Go.Rai.D.int (0 : Int))).toInt + ((x0.getD x1.toNat (Go.Rai.D.int (0 : Int))).fld (2 : Nat)).toInt))), (x3.set ((x0.getD x1.toNat (Go.Rai.D.int (0 : Int))).fld (0 : Nat)).toInt.toNat (Go.Rai.D.bool Bool.true)).set ((x0.getD x1.toNat (Go.Rai.D.int (0 : Int))).fld (1 : Nat)).toInt.toNat (Go.Rai.D.bool Bool.true)))
                                                    else
                                                      (F x0 (Go.IntKind.i64.wrap ((-1 : Int) + (1 : Int))) (x2.set ((x0.getD x1.toNat (Go.Rai.D.int (0 : Int))).fld (1 : Nat)).toInt.toNat (Go.Rai.D.int (Go.IntKind.i64.wrap ((x2.getD ((x0.getD x1.toNat (Go.Rai.D.int (0 : Int))).fld (0 : Nat)).toInt.toNat (Go.Rai.D.int (0 : Int))).toInt + ((x0.getD x1.toNat (Go.Rai.D.int (0 : Int))).fld (2 : Nat)).toInt)))) ((x3.set ((x0.getD x1.toNat (Go.Rai.D.int (0 : Int))).fld (0 : Nat)).toInt.toNat (Go.Rai.D.bool Bool.true)).set ((x0.getD x1.toNat (Go.Rai.D.int (0 : Int))).fld (1 : Nat)).toInt.toNat (Go.Rai.D.bool Bool.true))).bind k)
                                                else
                                                  none
                                              else
                                                none)
                                        else
                                          none
                                      else
                                        none
                                    else
                                      none
                                  else
                                    none
                                else
                                  none
                              else
                                none
                            else
                              none
                          else
                            none
                        else
                          none
                      else
                        none
                    else
                      if (0 : Int) ≤ ((x0.getD x1.toNat (Go.Rai.D.int (0 : Int))).fld (1 : Nat)).toInt ∧ ((x0.getD x1.toNat (Go.Rai.D.int (0 : Int))).fld (1 : Nat)).toInt < (↑x2.length : Int) then
                        if ((x0.getD x1.toNat (Go.Rai.D.int (0 : Int))).fld (1 : Nat)).toInt.toNat + (1 : Nat) ≤ x2.length then
                          if (0 : Int) ≤ ((x0.getD x1.toNat (Go.Rai.D.int (0 : Int))).fld (0 : Nat)).toInt ∧ ((x0.getD x1.toNat (Go.Rai.D.int (0 : Int))).fld (0 : Nat)).toInt < (↑x2.length : Int) then
                            if ((x0.getD x1.toNat (Go.Rai.D.int (0 : Int))).fld (0 : Nat)).toInt.toNat + (1 : Nat) ≤ x2.length then
                              if (0 : Int) ≤ ((x0.getD x1.toNat (Go.Rai.D.int (0 : Int))).fld (0 : Nat)).toInt ∧ ((x0.getD x1.toNat (Go.Rai.D.int (0 : Int))).fld (0 : Nat)).toInt < (↑x3.length : Int) then
                                if ((x0.getD x1.toNat (Go.Rai.D.int (0 : Int))).fld (0 : Nat)).toInt.toNat + (1 : Nat) ≤ x3.length then
                                  if (0 : Int) ≤ ((x0.getD x1.toNat (Go.Rai.D.int (0 : Int))).fld (1 : Nat)).toInt ∧ ((x0.getD x1.toNat (Go.Rai.D.int (0 : Int))).fld (1 : Nat)).toInt < (↑(x3.set ((x0.getD x1.toNat (Go.Rai.D.int (0 : Int))).fld (0 : Nat)).toInt.toNat (Go.Rai.D.bool Bool.true)).length : Int) then
                                    if ((x0.getD x1.toNat (Go.Rai.D.int (0 : Int))).fld (1 : Nat)).toInt.toNat + (1 : Nat) ≤ (x3.set ((x0.getD x1.toNat (Go.Rai.D.int (0 : Int))).fld (0 : Nat)).toInt.toNat (Go.Rai.D.bool Bool.true)).length then
                                      if (0 : Int) ≤ ((x0.getD x1.toNat (Go.Rai.D.int (0 : Int))).fld (0 : Nat)).toInt ∧ ((x0.getD x1.toNat (Go.Rai.D.int (0 : Int))).fld (0 : Nat)).toInt < (↑(x2.set ((x0.getD x1.toNat (Go.Rai.D.int (0 : Int))).fld (0 : Nat)).toInt.toNat (Go.Rai.D.int (Go.IntKind.i64.wrap ((x2.getD ((x0.getD x1.toNat (Go.Rai.D.int (0 : Int))).fld (1 : Nat)).toInt.toNat (Go.Rai.D.int (0 : Int))).toInt - ((x0.getD x1.toNat (Go.Rai.D.int (0 : Int))).fld (2 : Nat)).toInt)))).length : Int) then
                                        if ((x0.getD x1.toNat (Go.Rai.D.int (0 : Int))).fld (0 : Nat)).toInt.toNat + (1 : Nat) ≤ (x2.set ((x0.getD x1.toNat (Go.Rai.D.int (0 : Int))).fld (0 : Nat)).toInt.toNat (Go.Rai.D.int (Go.IntKind.i64.wrap ((x2.getD ((x0.getD x1.toNat (Go.Rai.D.int (0 : Int))).fld (1 : Nat)).toInt.toNat (Go.Rai.D.int (0 : Int))).toInt - ((x0.getD x1.toNat (Go.Rai.D.int (0 : Int))).fld (2 : Nat)).toInt)))).length then
                                          (spec_l1In (((x2.set ((x0.getD x1.toNat (Go.Rai.D.int (0 : Int))).fld (0 : Nat)).toInt.toNat (Go.Rai.D.int (Go.IntKind.i64.wrap ((x2.getD ((x0.getD x1.toNat (Go.Rai.D.int (0 : Int))).fld (1 : Nat)).toInt.toNat (Go.Rai.D.int (0 : Int))).toInt - ((x0.getD x1.toNat (Go.Rai.D.int (0 : Int))).fld (2 : Nat)).toInt)))).getD ((x0.getD x1.toNat (Go.Rai.D.int (0 : Int))).fld (0 : Nat)).toInt.toNat (Go.Rai.D.int (0 : Int))).toInt) (-1000000 : Int) (1000000 : Int)).bind (fun y2 =>
                                            bif !y2 then
                                              k (.inl (Bool.false, [], [], x2.set ((x0.getD x1.toNat (Go.Rai.D.int (0 : Int))).fld (0 : Nat)).toInt.toNat (Go.Rai.D.int (Go.IntKind.i64.wrap ((x2.getD ((x0.getD x1.toNat (Go.Rai.D.int (0 : Int))).fld (1 : Nat)).toInt.toNat (Go.Rai.D.int (0 : Int))).toInt - ((x0.getD x1.toNat (Go.Rai.D.int (0 : Int))).fld (2 : Nat)).toInt))), (x3.set ((x0.getD x1.toNat (Go.Rai.D.int (0 : Int))).fld (0 : Nat)).toInt.toNat (Go.Rai.D.bool Bool.true)).set ((x0.getD x1.toNat (Go.Rai.D.int (0 : Int))).fld (1 : Nat)).toInt.toNat (Go.Rai.D.bool Bool.true)))
                                            else
                                              if (0 : Int) ≤ ((x0.getD x1.toNat (Go.Rai.D.int (0 : Int))).fld (1 : Nat)).toInt ∧ ((x0.getD x1.toNat (Go.Rai.D.int (0 : Int))).fld (1 : Nat)).toInt < (↑(x2.set ((x0.getD x1.toNat (Go.Rai.D.int (0 : Int))).fld (0 : Nat)).toInt.toNat (Go.Rai.D.int (Go.IntKind.i64.wrap ((x2.getD ((x0.getD x1.toNat (Go.Rai.D.int (0 : Int))).fld (1 : Nat)).toInt.toNat (Go.Rai.D.int (0 : Int))).toInt - ((x0.getD x1.toNat (Go.Rai.D.int (0 : Int))).fld (2 : Nat)).toInt)))).length : Int) then
                                                if ((x0.getD x1.toNat (Go.Rai.D.int (0 : Int))).fld (1 : Nat)).toInt.toNat + (1 : Nat) ≤ (x2.set ((x0.getD x1.toNat (Go.Rai.D.int (0 : Int))).fld (0 : Nat)).toInt.toNat (Go.Rai.D.int (Go.IntKind.i64.wrap ((x2.getD ((x0.getD x1.toNat (Go.Rai.D.int (0 : Int))).fld (1 : Nat)).toInt.toNat (Go.Rai.D.int (0 : Int))).toInt - ((x0.getD x1.toNat (Go.Rai.D.int (0 : Int))).fld (2 : Nat)).toInt)))).length then
                                                  (spec_l1In (((x2.set ((x0.getD x1.toNat (Go.Rai.D.int (0 : Int))).fld (0 : Nat)).toInt.toNat (Go.Rai.D.int (Go.IntKind.i64.wrap ((x2.getD ((x0.getD x1.toNat (Go.Rai.D.int (0 : Int))).fld (1 : Nat)).toInt.toNat (Go.Rai.D.int (0 : Int))).toInt - ((x0.getD x1.toNat (Go.Rai.D.int (0 : Int))).fld (2 : Nat)).toInt)))).getD ((x0.getD x1.toNat (Go.Rai.D.int (0 : Int))).fld (1 : Nat)).toInt.toNat (Go.Rai.D.int (0 : Int))).toInt) (-1000000 : Int) (1000000 : Int)).bind (fun y3 =>
                                                    bif !y3 then
                                                      k (.inl (Bool.false, [], [], x2.set ((x0.getD x1.toNat (Go.Rai.D.int (0 : Int))).fld (0 : Nat)).toInt.toNat (Go.Rai.D.int (Go.IntKind.i64.wrap ((x2.getD ((x0.getD x1.toNat (Go.Rai.D.int (0 : Int))).fld (1 : Nat)).toInt.toNat (Go.Rai.D.int (0 : Int))).toInt - ((x0.getD x1.toNat (Go.Rai.D.int (0 : Int))).fld (2 : Nat)).toInt))), (x3.set ((x0.getD x1.toNat (Go.Rai.D.int (0 : Int))).fld (0 : Nat)).toInt.toNat (Go.Rai.D.bool Bool.true)).set ((x0.getD x1.toNat (Go.Rai.D.int (0 : Int))).fld (1 : Nat)).toInt.toNat (Go.Rai.D.bool Bool.true)))
                                                    else
                                                      (F x0 (Go.IntKind.i64.wrap ((-1 : Int) + (1 : Int))) (x2.set ((x0.getD x1.toNat (Go.Rai.D.int (0 : Int))).fld (0 : Nat)).toInt.toNat (Go.Rai.D.int (Go.IntKind.i64.wrap ((x2.getD ((x0.getD x1.toNat (Go.Rai.D.int (0 : Int))).fld (1 : Nat)).toInt.toNat (Go.Rai.D.int (0 : Int))).toInt - ((x0.getD x1.toNat (Go.Rai.D.int (0 : Int))).fld (2 : Nat)).toInt)))) ((x3.set ((x0.getD x1.toNat (Go.Rai.D.int (0 : Int))).fld (0 : Nat)).toInt.toNat (Go.Rai.D.bool Bool.true)).set ((x0.getD x1.toNat (Go.Rai.D.int (0 : Int))).fld (1 : Nat)).toInt.toNat (Go.Rai.D.bool Bool.true))).bind k)
                                                else
                                                  none
                                              else
                                                none)
                                        else
                                          none
                                      else
                                        none
                                    else
                                      none
                                  else
                                    none
                                else
                                  none
                              else
                                none
                            else
                              none
                          else
                            none
                        else
                          none
                      else
                        none
                  else
                    none
                else
                  none
            else
              none
          else
            none
        else
          none
      else
        none
    else
      none
  else
    k (.inr (x2, x3))
theorem c_spec_SpanningHeights_L8_bind {R : Type} (F : List D → Int → List D → List D → Option ((Bool × List D × List D × List D × List D) ⊕ (List D × List D))) (x0 : List D) (x1 : Int) (x2 : List D) (x3 : List D) (k : (Bool × List D × List D × List D × List D) ⊕ (List D × List D) → Option R) : c_spec_SpanningHeights_L8 F x0 x1 x2 x3 k = (c_spec_SpanningHeights_L8 F x0 x1 x2 x3 some).bind k := by
  unfold c_spec_SpanningHeights_L8
  repeat' first
    | exact bnd_tail
    | exact bnd_none
    | exact bnd_leaf
    | apply bnd_ite
    | apply bnd_cond
    | apply bnd_sum
    | (apply bnd_bind; intro _)
    | intro _
def n_spec_SpanningHeights_L8 : Nat → List D → Int → List D → List D → Option ((Bool × List D × List D × List D × List D) ⊕ (List D × List D))
  | 0, _, _, _, _ => none
  | n + 1, x0, x1, x2, x3 => c_spec_SpanningHeights_L8 (n_spec_SpanningHeights_L8 n) x0 x1 x2 x3 some
noncomputable def spec_SpanningHeights_L8 (x0 : List D) (x1 : Int) (x2 : List D) (x3 : List D) : Option ((Bool × List D × List D × List D × List D) ⊕ (List D × List D)) := ev (fun n => n_spec_SpanningHeights_L8 n x0 x1 x2 x3)
def m_spec_SpanningHeights_L8 (F : List D → Int → List D → List D → Option ((Bool × List D × List D × List D × List D) ⊕ (List D × List D))) : Lent := ⟨8, ⟨[.rd (.struct [.int .i64, .int .i64, .int .i64, .int .i64]), .undef, .undef, .undef, .undef, .undef, .undef, .undef, .undef, .full 1000 [] (.int .i64), .full 1001 [] (.bool), .int .i64, .undef, .undef, .undef, .undef, .undef, .undef, .undef, .undef, .undef, .undef, .undef, .undef, .undef, .undef, .undef, .undef, .undef, .undef, .undef, .undef, .undef, .undef, .undef, .undef, .undef, .undef, .undef, .undef, .undef, .undef, .undef, .undef, .undef, .undef, .undef, .undef, .undef, .undef, .undef, .undef, .undef, .undef, .undef, .undef, .undef, .undef, .undef, .undef, .undef, .undef, .undef, .undef, .undef, .undef, .undef, .undef, .undef, .undef, .undef, .undef, .undef, .undef, .undef, .undef, .undef, .undef, .undef, .undef, .undef, .undef, .undef, .undef, .undef, .undef, .undef, .undef, .undef, .undef, .undef, .undef, .undef, .undef, .undef, .undef, .undef, .undef, .undef, .undef, .undef, .undef, .undef, .undef, .undef, .undef, .undef, .undef, .undef, .undef, .undef], [(1000, .own (.int .i64)), (1001, .own (.bool))]⟩, [(.ret, ⟨[.undef, .undef, .undef, .undef, .undef, .undef, .full 1000 [] (.int .i64), .full 1001 [] (.bool), .bool, .full 1002 [] (.int .i64), .full 1003 [] (.bool), .undef, .undef, .undef, .undef, .undef, .undef, .undef, .undef, .undef, .undef, .undef, .undef, .undef, .undef, .undef, .undef, .undef, .undef, .undef, .undef, .undef, .undef, .undef, .undef, .undef, .undef, .undef, .undef, .undef, .undef, .undef, .undef, .undef, .undef, .undef, .undef, .undef, .undef, .undef, .undef, .undef, .undef, .undef, .undef, .undef, .undef, .undef, .undef, .undef, .undef, .undef, .undef, .undef, .undef, .undef, .undef, .undef, .undef, .undef, .undef, .undef, .undef, .undef, .undef, .undef, .undef, .undef, .undef, .undef, .undef, .undef, .undef, .undef, .undef, .undef, .undef, .undef, .undef, .undef, .undef, .undef, .undef, .undef, .undef, .undef, .undef, .undef, .undef, .undef, .undef, .undef, .undef, .undef, .undef, .undef, .undef, .undef, .undef, .undef, .undef], [(1000, .own (.int .i64)), (1001, .own (.bool)), (1002, .own (.int .i64)), (1003, .own (.bool))]⟩), (.exit 0, ⟨[.undef, .undef, .undef, .undef, .undef, .undef, .undef, .undef, .undef, .full 1000 [] (.int .i64), .full 1001 [] (.bool), .undef, .undef, .undef, .undef, .undef, .undef, .undef, .undef, .undef, .undef, .undef, .undef, .undef, .undef, .undef, .undef, .undef, .undef, .undef, .undef, .undef, .undef, .undef, .undef, .undef, .undef, .undef, .undef, .undef, .undef, .undef, .undef, .undef, .undef, .undef, .undef, .undef, .undef, .undef, .undef, .undef, .undef, .undef, .undef, .undef, .undef, .undef, .undef, .undef, .undef, .undef, .undef, .undef, .undef, .undef, .undef, .undef, .undef, .undef, .undef, .undef, .undef, .undef, .undef, .undef, .undef, .undef, .undef, .undef, .undef, .undef, .undef, .undef, .undef, .undef, .undef, .undef, .undef, .undef, .undef, .undef, .undef, .undef, .undef, .undef, .undef, .undef, .undef, .undef, .undef, .undef, .undef, .undef, .undef, .undef, .undef, .undef, .undef, .undef, .undef], [(1000, .own (.int .i64)), (1001, .own (.bool))]⟩)], fun _ ds k => dL (fun x0 ds => dI (fun x1 ds => dL (fun x2 ds => dL (fun x3 ds => dE ((F x0 x1 x2 x3).bind (Sum.elim (fun y => k 0 [.B y.1, .L y.2.1, .L y.2.2.1, .L y.2.2.2.1, .L y.2.2.2.2]) (fun y => k 1 [.L y.1, .L y.2]))) ds) ds) ds) ds) ds⟩
theorem q_spec_SpanningHeights_L8 (F : List D → Int → List D → List D → Option ((Bool × List D × List D × List D × List D) ⊕ (List D × List D))) (x0 : List D) (x1 : Int) (x2 : List D) (x3 : List D) : runLoop (ocOf [e_spec_l1In]) (olOf [m_spec_SpanningHeights_L8 F]) A 43 (codeAt (bodyOf Go.Proofs.Try.f43) 8) ((m_spec_SpanningHeights_L8 F).sh.mk' [.L x0, .I x1, .L x2, .L x3]) (fun e σ' => some (e, σ')) = c_spec_SpanningHeights_L8 F x0 x1 x2 x3 (Sum.elim (fun y => some (.ret, SSt.mk' ⟨[.undef, .undef, .undef, .undef, .undef, .undef, .full 1000 [] (.int .i64), .full 1001 [] (.bool), .bool, .full 1002 [] (.int .i64), .full 1003 [] (.bool), .undef, .undef, .undef, .undef, .undef, .undef, .undef, .undef, .undef, .undef, .undef, .undef, .undef, .undef, .undef, .undef, .undef, .undef, .undef, .undef, .undef, .undef, .undef, .undef, .undef, .undef, .undef, .undef, .undef, .undef, .undef, .undef, .undef, .undef, .undef, .undef, .undef, .undef, .undef, .undef, .undef, .undef, .undef, .undef, .undef, .undef, .undef, .undef, .undef, .undef, .undef, .undef, .undef, .undef, .undef, .undef, .undef, .undef, .undef, .undef, .undef, .undef, .undef, .undef, .undef, .undef, .undef, .undef, .undef, .undef, .undef, .undef, .undef, .undef, .undef, .undef, .undef, .undef, .undef, .undef, .undef, .undef, .undef, .undef, .undef, .undef, .undef, .undef, .undef, .undef, .undef, .undef, .undef, .undef, .undef, .undef, .undef, .undef, .undef, .undef], [(1000, .own (.int .i64)), (1001, .own (.bool)), (1002, .own (.int .i64)), (1003, .own (.bool))]⟩ [.B y.1, .L y.2.1, .L y.2.2.1, .L y.2.2.2.1, .L y.2.2.2.2])) (fun y => some (.exit 0, SSt.mk' ⟨[.undef, .undef, .undef, .undef, .undef, .undef, .undef, .undef, .undef, .full 1000 [] (.int .i64), .full 1001 [] (.bool), .undef, .undef, .undef, .undef, .undef, .undef, .undef, .undef, .undef, .undef, .undef, .undef, .undef, .undef, .undef, .undef, .undef, .undef, .undef, .undef, .undef, .undef, .undef, .undef, .undef, .undef, .undef, .undef, .undef, .undef, .undef, .undef, .undef, .undef, .undef, .undef, .undef, .undef, .undef, .undef, .undef, .undef, .undef, .undef, .undef, .undef, .undef, .undef, .undef, .undef, .undef, .undef, .undef, .undef, .undef, .undef, .undef, .undef, .undef, .undef, .undef, .undef, .undef, .undef, .undef, .undef, .undef, .undef, .undef, .undef, .undef, .undef, .undef, .undef, .undef, .undef, .undef, .undef, .undef, .undef, .undef, .undef, .undef, .undef, .undef, .undef, .undef, .undef, .undef, .undef, .undef, .undef, .undef, .undef, .undef, .undef, .undef, .undef, .undef, .undef], [(1000, .own (.int .i64)), (1001, .own (.bool))]⟩ [.L y.1, .L y.2]))) := by kernel_rfl
theorem m_spec_SpanningHeights_L8_ok : ∀ n, (m_spec_SpanningHeights_L8 (n_spec_SpanningHeights_L8 n)).ok Go.Proofs.Try.prog (codeAt (bodyOf Go.Proofs.Try.f43) 8) := by
  intro n
  induction n with
  | zero =>
    intro R ds k r h
    unfold m_spec_SpanningHeights_L8 at h
    obtain ⟨x0, d0, rfl, h0⟩ := dL_some h
    obtain ⟨x1, d1, rfl, h1⟩ := dI_some h0
    obtain ⟨x2, d2, rfl, h2⟩ := dL_some h1
    obtain ⟨x3, d3, rfl, h3⟩ := dL_some h2
    obtain ⟨rfl, hE⟩ := dE_some h3
    obtain ⟨y, hy, hk⟩ := bnd_some hE
    cases hy
  | succ n ih =>
    intro R ds k r h
    unfold m_spec_SpanningHeights_L8 at h
    obtain ⟨x0, d0, rfl, h0⟩ := dL_some h
    obtain ⟨x1, d1, rfl, h1⟩ := dI_some h0
    obtain ⟨x2, d2, rfl, h2⟩ := dL_some h1
    obtain ⟨x3, d3, rfl, h3⟩ := dL_some h2
    obtain ⟨rfl, hE⟩ := dE_some h3
    obtain ⟨y, hy, hk⟩ := bnd_some hE
    have hq := q_spec_SpanningHeights_L8 (n_spec_SpanningHeights_L8 n) x0 x1 x2 x3
    rw [c_spec_SpanningHeights_L8_bind] at hq
    rw [show c_spec_SpanningHeights_L8 (n_spec_SpanningHeights_L8 n) x0 x1 x2 x3 some = some y from hy] at hq
    cases y with
    | inl y =>
      refine ⟨0, _, _, _, hk, rfl, loop_ok px (fx := ⟨Go.Proofs.Try.func43, by kernel_rfl, by kernel_rfl⟩) (entsOK_cons e_spec_l1In_ok entsOK_nil) (lentsOK_cons ih lentsOK_nil) (by kernel_rfl) ?_⟩
      exact hq
    | inr y =>
      refine ⟨1, _, _, _, hk, rfl, loop_ok px (fx := ⟨Go.Proofs.Try.func43, by kernel_rfl, by kernel_rfl⟩) (entsOK_cons e_spec_l1In_ok entsOK_nil) (lentsOK_cons ih lentsOK_nil) (by kernel_rfl) ?_⟩
      exact hq
noncomputable def e_spec_SpanningHeights_L8 : Lent := m_spec_SpanningHeights_L8 spec_SpanningHeights_L8
theorem e_spec_SpanningHeights_L8_ok : e_spec_SpanningHeights_L8.ok Go.Proofs.Try.prog (codeAt (bodyOf Go.Proofs.Try.f43) 8) := by
  intro R ds k r h
  unfold e_spec_SpanningHeights_L8 m_spec_SpanningHeights_L8 at h
  obtain ⟨x0, d0, rfl, h0⟩ := dL_some h
  obtain ⟨x1, d1, rfl, h1⟩ := dI_some h0
  obtain ⟨x2, d2, rfl, h2⟩ := dL_some h1
  obtain ⟨x3, d3, rfl, h3⟩ := dL_some h2
  obtain ⟨rfl, hE⟩ := dE_some h3
  obtain ⟨y, hy, hk⟩ := bnd_some hE
  obtain ⟨n, hn⟩ := ev_some hy
  exact m_spec_SpanningHeights_L8_ok n R _ k r (show (n_spec_SpanningHeights_L8 n x0 x1 x2 x3).bind _ = _ by rw [hn]; exact hk)

/-! loop.example/g00876/spec.SpanningHeights -/
def c_spec_SpanningHeights {R : Type} (x0 : List D) (x1 : Int) (x2 : Int) (k : List D × List D × Bool → Option R) : Option R :=
  (spec_l17Lines x0 x1).bind (fun y0 =>
    bif !y0 then
      k ([], [], Bool.false)
    else
      (spec_l1In x2 (-1000000 : Int) (1000000 : Int)).bind (fun y1 =>
        bif !y1 then
          k ([], [], Bool.false)
        else
          if (0 : Int) ≤ x1 ∧ x1 ≤ x1 ∧ x1 ≤ (4294967296 : Int) then
            if (0 : Int) ≤ x1 ∧ x1 ≤ x1 ∧ x1 ≤ (4294967296 : Int) then
              if (0 : Int) ≤ (0 : Int) ∧ (0 : Int) < (↑(List.replicate x1.toNat (Go.Rai.D.int (0 : Int))).length : Int) then
                if Int.toNat (0 : Int) + (1 : Nat) ≤ (List.replicate x1.toNat (Go.Rai.D.int (0 : Int))).length then
                  if (0 : Int) ≤ (0 : Int) ∧ (0 : Int) < (↑(List.replicate x1.toNat (Go.Rai.D.bool Bool.false)).length : Int) then
                    if Int.toNat (0 : Int) + (1 : Nat) ≤ (List.replicate x1.toNat (Go.Rai.D.bool Bool.false)).length then
                      (spec_SpanningHeights_L8 x0 (0 : Int) ((List.replicate x1.toNat (Go.Rai.D.int (0 : Int))).set (Int.toNat (0 : Int)) (Go.Rai.D.int x2)) ((List.replicate x1.toNat (Go.Rai.D.bool Bool.false)).set (Int.toNat (0 : Int)) (Go.Rai.D.bool Bool.true))).bind (Sum.elim (fun y2 =>
                        k (y2.snd.fst, y2.snd.snd.fst, y2.fst)) (fun y3 =>
                        k (y3.fst, y3.snd, Bool.true)))
                    else
                      none
                  else
                    none
                else
                  none
              else
                none
            else
              none
          else
            none))
theorem c_spec_SpanningHeights_bind {R : Type} (x0 : List D) (x1 : Int) (x2 : Int) (k : List D × List D × Bool → Option R) : c_spec_SpanningHeights x0 x1 x2 k = (c_spec_SpanningHeights x0 x1 x2 some).bind k := by
  unfold c_spec_SpanningHeights
  repeat' first
    | exact bnd_tail
    | exact bnd_none
    | exact bnd_leaf
    | apply bnd_ite
    | apply bnd_cond
    | apply bnd_sum
    | (apply bnd_bind; intro _)
    | intro _
def spec_SpanningHeights (x0 : List D) (x1 : Int) (x2 : Int) : Option (List D × List D × Bool) := c_spec_SpanningHeights x0 x1 x2 some
def e_spec_SpanningHeights : Ent := ⟨43, [.rd (.struct [.int .i64, .int .i64, .int .i64, .int .i64]), .int .i64, .int .i64], .tup [.own (.int .i64), .own (.bool), .bool], [.undef, .undef, .undef], fun _ ds k => dL (fun x0 ds => dI (fun x1 ds => dI (fun x2 ds => dE ((spec_SpanningHeights x0 x1 x2).bind (fun y => k [.L y.1, .L y.2.1, .B y.2.2])) ds) ds) ds) ds⟩
theorem q_spec_SpanningHeights (x0 : List D) (x1 : Int) (x2 : Int) : runFn (ocOf [e_spec_l17Lines, e_spec_l1In]) (olOf [e_spec_SpanningHeights_L8]) A 43 Go.Proofs.Try.f43 (Sh.mks e_spec_SpanningHeights.sh [.L x0, .I x1, .I x2]).1 (fun v os => some (v, os)) = c_spec_SpanningHeights x0 x1 x2 (fun y => some ((e_spec_SpanningHeights.res.mk [.L y.1, .L y.2.1, .B y.2.2]).1, (Sh.mks e_spec_SpanningHeights.outs (e_spec_SpanningHeights.res.mk [.L y.1, .L y.2.1, .B y.2.2]).2).1)) := by kernel_rfl
theorem e_spec_SpanningHeights_ok : e_spec_SpanningHeights.ok Go.Proofs.Try.prog A := by
  intro R ds k r h
  unfold e_spec_SpanningHeights at h
  obtain ⟨x0, d0, rfl, h0⟩ := dL_some h
  obtain ⟨x1, d1, rfl, h1⟩ := dI_some h0
  obtain ⟨x2, d2, rfl, h2⟩ := dI_some h1
  obtain ⟨rfl, hE⟩ := dE_some h2
  obtain ⟨y, hy, hk⟩ := bnd_some hE
  refine ⟨_, hk, fn_ok px (fx := ⟨Go.Proofs.Try.func43, by kernel_rfl, by kernel_rfl⟩) (entsOK_cons e_spec_l17Lines_ok (entsOK_cons e_spec_l1In_ok entsOK_nil)) (lentsOK_cons e_spec_SpanningHeights_L8_ok lentsOK_nil) ?_⟩
  have hq := q_spec_SpanningHeights x0 x1 x2
  rw [c_spec_SpanningHeights_bind] at hq
  rw [show c_spec_SpanningHeights x0 x1 x2 some = some y from hy] at hq
  exact hq

/-! loop.example/g00876/impl.within -/
def c_impl_within {R : Type} (x0 : Int) (x1 : Int) (x2 : Int) (k : Bool → Option R) : Option R :=
  bif Decidable.decide (x1 ≤ x0) then
    k (Decidable.decide (x0 ≤ x2))
  else
    k Bool.false
theorem c_impl_within_bind {R : Type} (x0 : Int) (x1 : Int) (x2 : Int) (k : Bool → Option R) : c_impl_within x0 x1 x2 k = (c_impl_within x0 x1 x2 some).bind k := by
  unfold c_impl_within
  repeat' first
    | exact bnd_tail
    | exact bnd_none
    | exact bnd_leaf
    | apply bnd_ite
    | apply bnd_cond
    | apply bnd_sum
    | (apply bnd_bind; intro _)
    | intro _
def impl_within (x0 : Int) (x1 : Int) (x2 : Int) : Option (Bool) := c_impl_within x0 x1 x2 some
def e_impl_within : Ent := ⟨71, [.int .i64, .int .i64, .int .i64], .bool, [.undef, .undef, .undef], fun _ ds k => dI (fun x0 ds => dI (fun x1 ds => dI (fun x2 ds => dE ((impl_within x0 x1 x2).bind (fun y => k [.B y])) ds) ds) ds) ds⟩
theorem q_impl_within (x0 : Int) (x1 : Int) (x2 : Int) : runFn (ocOf []) (olOf []) A 71 Go.Proofs.Try.f71 (Sh.mks e_impl_within.sh [.I x0, .I x1, .I x2]).1 (fun v os => some (v, os)) = c_impl_within x0 x1 x2 (fun y => some ((e_impl_within.res.mk [.B y]).1, (Sh.mks e_impl_within.outs (e_impl_within.res.mk [.B y]).2).1)) := by kernel_rfl
theorem e_impl_within_ok : e_impl_within.ok Go.Proofs.Try.prog A := by
  intro R ds k r h
  unfold e_impl_within at h
  obtain ⟨x0, d0, rfl, h0⟩ := dI_some h
  obtain ⟨x1, d1, rfl, h1⟩ := dI_some h0
  obtain ⟨x2, d2, rfl, h2⟩ := dI_some h1
  obtain ⟨rfl, hE⟩ := dE_some h2
  obtain ⟨y, hy, hk⟩ := bnd_some hE
  refine ⟨_, hk, fn_ok px (fx := ⟨Go.Proofs.Try.func71, by kernel_rfl, by kernel_rfl⟩) entsOK_nil lentsOK_nil ?_⟩
  have hq := q_impl_within x0 x1 x2
  rw [c_impl_within_bind] at hq
  rw [show c_impl_within x0 x1 x2 some = some y from hy] at hq
  exact hq

/-! loop.example/g00876/impl.IsValidLines$1 -/
def c_impl_IsValidLines_1 {R : Type} (x0 : Int) (x1 : Int) (x2 : Int) (x3 : Int) (x4 : Int) (k : Bool → Option R) : Option R :=
  (impl_within x0 (0 : Int) (Go.IntKind.i64.wrap (x4 - (1 : Int)))).bind (fun y0 =>
    bif !y0 then
      k Bool.true
    else
      (impl_within x1 (0 : Int) (Go.IntKind.i64.wrap (x4 - (1 : Int)))).bind (fun y1 =>
        bif !y1 then
          k Bool.true
        else
          bif Decidable.decide (x0 = x1) then
            k Bool.true
          else
            (impl_within x2 (-100000 : Int) (100000 : Int)).bind (fun y2 =>
              bif !y2 then
                k Bool.true
              else
                (impl_within x3 (1 : Int) (1000 : Int)).bind (fun y3 =>
                  k !y3))))
theorem c_impl_IsValidLines_1_bind {R : Type} (x0 : Int) (x1 : Int) (x2 : Int) (x3 : Int) (x4 : Int) (k : Bool → Option R) : c_impl_IsValidLines_1 x0 x1 x2 x3 x4 k = (c_impl_IsValidLines_1 x0 x1 x2 x3 x4 some).bind k := by
  unfold c_impl_IsValidLines_1
  repeat' first
    | exact bnd_tail
    | exact bnd_none
    | exact bnd_leaf
    | apply bnd_ite
    | apply bnd_cond
    | apply bnd_sum
    | (apply bnd_bind; intro _)
    | intro _
def impl_IsValidLines_1 (x0 : Int) (x1 : Int) (x2 : Int) (x3 : Int) (x4 : Int) : Option (Bool) := c_impl_IsValidLines_1 x0 x1 x2 x3 x4 some
def e_impl_IsValidLines_1 : Ent := ⟨118, [.agg [.int .i64, .int .i64, .int .i64, .int .i64], .rp (.int .i64)], .bool, [.undef, .undef], fun _ ds k => dI (fun x0 ds => dI (fun x1 ds => dI (fun x2 ds => dI (fun x3 ds => dI (fun x4 ds => dE ((impl_IsValidLines_1 x0 x1 x2 x3 x4).bind (fun y => k [.B y])) ds) ds) ds) ds) ds) ds⟩
theorem q_impl_IsValidLines_1 (x0 : Int) (x1 : Int) (x2 : Int) (x3 : Int) (x4 : Int) : runFn (ocOf [e_impl_within]) (olOf []) A 118 Go.Proofs.Try.f118 (Sh.mks e_impl_IsValidLines_1.sh [.I x0, .I x1, .I x2, .I x3, .I x4]).1 (fun v os => some (v, os)) = c_impl_IsValidLines_1 x0 x1 x2 x3 x4 (fun y => some ((e_impl_IsValidLines_1.res.mk [.B y]).1, (Sh.mks e_impl_IsValidLines_1.outs (e_impl_IsValidLines_1.res.mk [.B y]).2).1)) := by kernel_rfl
theorem e_impl_IsValidLines_1_ok : e_impl_IsValidLines_1.ok Go.Proofs.Try.prog A := by
  intro R ds k r h
  unfold e_impl_IsValidLines_1 at h
  obtain ⟨x0, d0, rfl, h0⟩ := dI_some h
  obtain ⟨x1, d1, rfl, h1⟩ := dI_some h0
  obtain ⟨x2, d2, rfl, h2⟩ := dI_some h1
  obtain ⟨x3, d3, rfl, h3⟩ := dI_some h2
  obtain ⟨x4, d4, rfl, h4⟩ := dI_some h3
  obtain ⟨rfl, hE⟩ := dE_some h4
  obtain ⟨y, hy, hk⟩ := bnd_some hE
  refine ⟨_, hk, fn_ok px (fx := ⟨Go.Proofs.Try.func118, by kernel_rfl, by kernel_rfl⟩) (entsOK_cons e_impl_within_ok entsOK_nil) lentsOK_nil ?_⟩
  have hq := q_impl_IsValidLines_1 x0 x1 x2 x3 x4
  rw [c_impl_IsValidLines_1_bind] at hq
  rw [show c_impl_IsValidLines_1 x0 x1 x2 x3 x4 some = some y from hy] at hq
  exact hq

/-! slices.IndexFunc[[]loop.example/g00876/impl.HeightLine,loop.example/g00876/impl.HeightLine], loop 2 -/
def c_slices_IndexFunc_L2 {R : Type} (F : List D → Int → Int → Int → Option ((Int) ⊕ (Unit))) (x0 : List D) (x1 : Int) (x2 : Int) (x3 : Int) (k : (Int) ⊕ (Unit) → Option R) : Option R :=
  bif Decidable.decide (x3 < x2) then
    if (0 : Int) ≤ x3 ∧ x3 < (↑x0.length : Int) then
      (impl_IsValidLines_1 (((x0.getD x3.toNat (Go.Rai.D.int (0 : Int))).fld (0 : Nat)).toInt) (((x0.getD x3.toNat (Go.Rai.D.int (0 : Int))).fld (1 : Nat)).toInt) (((x0.getD x3.toNat (Go.Rai.D.int (0 : Int))).fld (2 : Nat)).toInt) (((x0.getD x3.toNat (Go.Rai.D.int (0 : Int))).fld (3 : Nat)).toInt) x1).bind (fun y0 =>
        bif y0 then
          k (.inl x3)
        else
          (F x0 x1 x2 (Go.IntKind.i64.wrap (x3 + (1 : Int)))).bind k)
    else
      none
  else
    k (.inr ())
theorem c_slices_IndexFunc_L2_bind {R : Type} (F : List D → Int → Int → Int → Option ((Int) ⊕ (Unit))) (x0 : List D) (x1 : Int) (x2 : Int) (x3 : Int) (k : (Int) ⊕ (Unit) → Option R) : c_slices_IndexFunc_L2 F x0 x1 x2 x3 k = (c_slices_IndexFunc_L2 F x0 x1 x2 x3 some).bind k := by
  unfold c_slices_IndexFunc_L2
  repeat' first
    | exact bnd_tail
    | exact bnd_none
    | exact bnd_leaf
    | apply bnd_ite
    | apply bnd_cond
    | apply bnd_sum
    | (apply bnd_bind; intro _)
    | intro _
def n_slices_IndexFunc_L2 : Nat → List D → Int → Int → Int → Option ((Int) ⊕ (Unit))
  | 0, _, _, _, _ => none
  | n + 1, x0, x1, x2, x3 => c_slices_IndexFunc_L2 (n_slices_IndexFunc_L2 n) x0 x1 x2 x3 some
noncomputable def slices_IndexFunc_L2 (x0 : List D) (x1 : Int) (x2 : Int) (x3 : Int) : Option ((Int) ⊕ (Unit)) := ev (fun n => n_slices_IndexFunc_L2 n x0 x1 x2 x3)
def m_slices_IndexFunc_L2 (F : List D → Int → Int → Int → Option ((Int) ⊕ (Unit))) : Lent := ⟨2, ⟨[.rd (.struct [.int .i64, .int .i64, .int .i64, .int .i64]), .fn 118 [.rp (.int .i64)], .undef, .undef, .undef, .undef, .undef, .int .i64, .int .i64, .undef, .undef, .undef, .undef, .undef, .undef, .undef, .undef, .undef, .undef], []⟩, [(.ret, ⟨[.undef, .undef, .undef, .undef, .int .i64, .undef, .undef, .undef, .undef, .undef, .undef, .undef, .undef, .undef, .undef, .undef, .undef, .undef, .undef], []⟩), (.exit 0, ⟨[.undef, .undef, .undef, .undef, .undef, .undef, .undef, .undef, .undef, .undef, .undef, .undef, .undef, .undef, .undef, .undef, .undef, .undef, .undef], []⟩)], fun _ ds k => dL (fun x0 ds => dI (fun x1 ds => dI (fun x2 ds => dI (fun x3 ds => dE ((F x0 x1 x2 x3).bind (Sum.elim (fun y => k 0 [.I y]) (fun y => k 1 []))) ds) ds) ds) ds) ds⟩
theorem q_slices_IndexFunc_L2 (F : List D → Int → Int → Int → Option ((Int) ⊕ (Unit))) (x0 : List D) (x1 : Int) (x2 : Int) (x3 : Int) : runLoop (ocOf [e_impl_IsValidLines_1]) (olOf [m_slices_IndexFunc_L2 F]) A 72 (codeAt (bodyOf Go.Proofs.Try.f72) 2) ((m_slices_IndexFunc_L2 F).sh.mk' [.L x0, .I x1, .I x2, .I x3]) (fun e σ' => some (e, σ')) = c_slices_IndexFunc_L2 F x0 x1 x2 x3 (Sum.elim (fun y => some (.ret, SSt.mk' ⟨[.undef, .undef, .undef, .undef, .int .i64, .undef, .undef, .undef, .undef, .undef, .undef, .undef, .undef, .undef, .undef, .undef, .undef, .undef, .undef], []⟩ [.I y])) (fun y => some (.exit 0, SSt.mk' ⟨[.undef, .undef, .undef, .undef, .undef, .undef, .undef, .undef, .undef, .undef, .undef, .undef, .undef, .undef, .undef, .undef, .undef, .undef, .undef], []⟩ []))) := by kernel_rfl
theorem m_slices_IndexFunc_L2_ok : ∀ n, (m_slices_IndexFunc_L2 (n_slices_IndexFunc_L2 n)).ok Go.Proofs.Try.prog (codeAt (bodyOf Go.Proofs.Try.f72) 2) := by
  intro n
  induction n with
  | zero =>
    intro R ds k r h
    unfold m_slices_IndexFunc_L2 at h
    obtain ⟨x0, d0, rfl, h0⟩ := dL_some h
    obtain ⟨x1, d1, rfl, h1⟩ := dI_some h0
    obtain ⟨x2, d2, rfl, h2⟩ := dI_some h1
    obtain ⟨x3, d3, rfl, h3⟩ := dI_some h2
    obtain ⟨rfl, hE⟩ := dE_some h3
    obtain ⟨y, hy, hk⟩ := bnd_some hE
    cases hy
  | succ n ih =>
    intro R ds k r h
    unfold m_slices_IndexFunc_L2 at h
    obtain ⟨x0, d0, rfl, h0⟩ := dL_some h
    obtain ⟨x1, d1, rfl, h1⟩ := dI_some h0
    obtain ⟨x2, d2, rfl, h2⟩ := dI_some h1
    obtain ⟨x3, d3, rfl, h3⟩ := dI_some h2
    obtain ⟨rfl, hE⟩ := dE_some h3
    obtain ⟨y, hy, hk⟩ := bnd_some hE
    have hq := q_slices_IndexFunc_L2 (n_slices_IndexFunc_L2 n) x0 x1 x2 x3
    rw [c_slices_IndexFunc_L2_bind] at hq
    rw [show c_slices_IndexFunc_L2 (n_slices_IndexFunc_L2 n) x0 x1 x2 x3 some = some y from hy] at hq
    cases y with
    | inl y =>
      refine ⟨0, _, _, _, hk, rfl, loop_ok px (fx := ⟨Go.Proofs.Try.func72, by kernel_rfl, by kernel_rfl⟩) (entsOK_cons e_impl_IsValidLines_1_ok entsOK_nil) (lentsOK_cons ih lentsOK_nil) (by kernel_rfl) ?_⟩
      exact hq
    | inr y =>
      refine ⟨1, _, _, _, hk, rfl, loop_ok px (fx := ⟨Go.Proofs.Try.func72, by kernel_rfl, by kernel_rfl⟩) (entsOK_cons e_impl_IsValidLines_1_ok entsOK_nil) (lentsOK_cons ih lentsOK_nil) (by kernel_rfl) ?_⟩
      exact hq
noncomputable def e_slices_IndexFunc_L2 : Lent := m_slices_IndexFunc_L2 slices_IndexFunc_L2
theorem e_slices_IndexFunc_L2_ok : e_slices_IndexFunc_L2.ok Go.Proofs.Try.prog (codeAt (bodyOf Go.Proofs.Try.f72) 2) := by
  intro R ds k r h
  unfold e_slices_IndexFunc_L2 m_slices_IndexFunc_L2 at h
  obtain ⟨x0, d0, rfl, h0⟩ := dL_some h
  obtain ⟨x1, d1, rfl, h1⟩ := dI_some h0
  obtain ⟨x2, d2, rfl, h2⟩ := dI_some h1
  obtain ⟨x3, d3, rfl, h3⟩ := dI_some h2
  obtain ⟨rfl, hE⟩ := dE_some h3
  obtain ⟨y, hy, hk⟩ := bnd_some hE
  obtain ⟨n, hn⟩ := ev_some hy
  exact m_slices_IndexFunc_L2_ok n R _ k r (show (n_slices_IndexFunc_L2 n x0 x1 x2 x3).bind _ = _ by rw [hn]; exact hk)

/-! slices.IndexFunc[[]loop.example/g00876/impl.HeightLine,loop.example/g00876/impl.HeightLine] -/
def c_slices_IndexFunc__impl_IsValidLines_1 {R : Type} (x0 : List D) (x1 : Int) (k : Int → Option R) : Option R :=
  (slices_IndexFunc_L2 x0 x1 (↑x0.length : Int) (0 : Int)).bind (Sum.elim (fun y0 =>
    k y0) (fun y1 =>
    k (-1 : Int)))
theorem c_slices_IndexFunc__impl_IsValidLines_1_bind {R : Type} (x0 : List D) (x1 : Int) (k : Int → Option R) : c_slices_IndexFunc__impl_IsValidLines_1 x0 x1 k = (c_slices_IndexFunc__impl_IsValidLines_1 x0 x1 some).bind k := by
  unfold c_slices_IndexFunc__impl_IsValidLines_1
  repeat' first
    | exact bnd_tail
    | exact bnd_none
    | exact bnd_leaf
    | apply bnd_ite
    | apply bnd_cond
    | apply bnd_sum
    | (apply bnd_bind; intro _)
    | intro _
def slices_IndexFunc__impl_IsValidLines_1 (x0 : List D) (x1 : Int) : Option (Int) := c_slices_IndexFunc__impl_IsValidLines_1 x0 x1 some
def e_slices_IndexFunc__impl_IsValidLines_1 : Ent := ⟨72, [.rd (.struct [.int .i64, .int .i64, .int .i64, .int .i64]), .fn 118 [.rp (.int .i64)]], .int .i64, [.undef, .undef], fun _ ds k => dL (fun x0 ds => dI (fun x1 ds => dE ((slices_IndexFunc__impl_IsValidLines_1 x0 x1).bind (fun y => k [.I y])) ds) ds) ds⟩
theorem q_slices_IndexFunc__impl_IsValidLines_1 (x0 : List D) (x1 : Int) : runFn (ocOf []) (olOf [e_slices_IndexFunc_L2]) A 72 Go.Proofs.Try.f72 (Sh.mks e_slices_IndexFunc__impl_IsValidLines_1.sh [.L x0, .I x1]).1 (fun v os => some (v, os)) = c_slices_IndexFunc__impl_IsValidLines_1 x0 x1 (fun y => some ((e_slices_IndexFunc__impl_IsValidLines_1.res.mk [.I y]).1, (Sh.mks e_slices_IndexFunc__impl_IsValidLines_1.outs (e_slices_IndexFunc__impl_IsValidLines_1.res.mk [.I y]).2).1)) := by kernel_rfl
theorem e_slices_IndexFunc__impl_IsValidLines_1_ok : e_slices_IndexFunc__impl_IsValidLines_1.ok Go.Proofs.Try.prog A := by
  intro R ds k r h
  unfold e_slices_IndexFunc__impl_IsValidLines_1 at h
  obtain ⟨x0, d0, rfl, h0⟩ := dL_some h
  obtain ⟨x1, d1, rfl, h1⟩ := dI_some h0
  obtain ⟨rfl, hE⟩ := dE_some h1
  obtain ⟨y, hy, hk⟩ := bnd_some hE
  refine ⟨_, hk, fn_ok px (fx := ⟨Go.Proofs.Try.func72, by kernel_rfl, by kernel_rfl⟩) entsOK_nil (lentsOK_cons e_slices_IndexFunc_L2_ok lentsOK_nil) ?_⟩
  have hq := q_slices_IndexFunc__impl_IsValidLines_1 x0 x1
  rw [c_slices_IndexFunc__impl_IsValidLines_1_bind] at hq
  rw [show c_slices_IndexFunc__impl_IsValidLines_1 x0 x1 some = some y from hy] at hq
  exact hq

/-! slices.ContainsFunc[[]loop.example/g00876/impl.HeightLine,loop.example/g00876/impl.HeightLine] -/
def c_slices_ContainsFunc__impl_IsValidLines_1 {R : Type} (x0 : List D) (x1 : Int) (k : Bool → Option R) : Option R :=
  (slices_IndexFunc__impl_IsValidLines_1 x0 x1).bind (fun y0 =>
    k (Decidable.decide ((0 : Int) ≤ y0)))
theorem c_slices_ContainsFunc__impl_IsValidLines_1_bind {R : Type} (x0 : List D) (x1 : Int) (k : Bool → Option R) : c_slices_ContainsFunc__impl_IsValidLines_1 x0 x1 k = (c_slices_ContainsFunc__impl_IsValidLines_1 x0 x1 some).bind k := by
  unfold c_slices_ContainsFunc__impl_IsValidLines_1
  repeat' first
    | exact bnd_tail
    | exact bnd_none
    | exact bnd_leaf
    | apply bnd_ite
    | apply bnd_cond
    | apply bnd_sum
    | (apply bnd_bind; intro _)
    | intro _
def slices_ContainsFunc__impl_IsValidLines_1 (x0 : List D) (x1 : Int) : Option (Bool) := c_slices_ContainsFunc__impl_IsValidLines_1 x0 x1 some
def e_slices_ContainsFunc__impl_IsValidLines_1 : Ent := ⟨117, [.rd (.struct [.int .i64, .int .i64, .int .i64, .int .i64]), .fn 118 [.rp (.int .i64)]], .bool, [.undef, .undef], fun _ ds k => dL (fun x0 ds => dI (fun x1 ds => dE ((slices_ContainsFunc__impl_IsValidLines_1 x0 x1).bind (fun y => k [.B y])) ds) ds) ds⟩
theorem q_slices_ContainsFunc__impl_IsValidLines_1 (x0 : List D) (x1 : Int) : runFn (ocOf [e_slices_IndexFunc__impl_IsValidLines_1]) (olOf []) A 117 Go.Proofs.Try.f117 (Sh.mks e_slices_ContainsFunc__impl_IsValidLines_1.sh [.L x0, .I x1]).1 (fun v os => some (v, os)) = c_slices_ContainsFunc__impl_IsValidLines_1 x0 x1 (fun y => some ((e_slices_ContainsFunc__impl_IsValidLines_1.res.mk [.B y]).1, (Sh.mks e_slices_ContainsFunc__impl_IsValidLines_1.outs (e_slices_ContainsFunc__impl_IsValidLines_1.res.mk [.B y]).2).1)) := by kernel_rfl
theorem e_slices_ContainsFunc__impl_IsValidLines_1_ok : e_slices_ContainsFunc__impl_IsValidLines_1.ok Go.Proofs.Try.prog A := by
  intro R ds k r h
  unfold e_slices_ContainsFunc__impl_IsValidLines_1 at h
  obtain ⟨x0, d0, rfl, h0⟩ := dL_some h
  obtain ⟨x1, d1, rfl, h1⟩ := dI_some h0
  obtain ⟨rfl, hE⟩ := dE_some h1
  obtain ⟨y, hy, hk⟩ := bnd_some hE
  refine ⟨_, hk, fn_ok px (fx := ⟨Go.Proofs.Try.func117, by kernel_rfl, by kernel_rfl⟩) (entsOK_cons e_slices_IndexFunc__impl_IsValidLines_1_ok entsOK_nil) lentsOK_nil ?_⟩
  have hq := q_slices_ContainsFunc__impl_IsValidLines_1 x0 x1
  rw [c_slices_ContainsFunc__impl_IsValidLines_1_bind] at hq
  rw [show c_slices_ContainsFunc__impl_IsValidLines_1 x0 x1 some = some y from hy] at hq
  exact hq

/-! loop.example/g00876/impl.IsValidLines -/
def c_impl_IsValidLines {R : Type} (x0 : List D) (x1 : Int) (k : Bool → Option R) : Option R :=
  (impl_within x1 (2 : Int) (8 : Int)).bind (fun y0 =>
    bif !y0 then
      k Bool.false
    else
      bif Decidable.decide ((16 : Int) < (↑x0.length : Int)) then
        k Bool.false
      else
        (slices_ContainsFunc__impl_IsValidLines_1 x0 x1).bind (fun y1 =>
          k !y1))
theorem c_impl_IsValidLines_bind {R : Type} (x0 : List D) (x1 : Int) (k : Bool → Option R) : c_impl_IsValidLines x0 x1 k = (c_impl_IsValidLines x0 x1 some).bind k := by
  unfold c_impl_IsValidLines
  repeat' first
    | exact bnd_tail
    | exact bnd_none
    | exact bnd_leaf
    | apply bnd_ite
    | apply bnd_cond
    | apply bnd_sum
    | (apply bnd_bind; intro _)
    | intro _
def impl_IsValidLines (x0 : List D) (x1 : Int) : Option (Bool) := c_impl_IsValidLines x0 x1 some
def e_impl_IsValidLines : Ent := ⟨70, [.rd (.struct [.int .i64, .int .i64, .int .i64, .int .i64]), .int .i64], .bool, [.undef, .undef], fun _ ds k => dL (fun x0 ds => dI (fun x1 ds => dE ((impl_IsValidLines x0 x1).bind (fun y => k [.B y])) ds) ds) ds⟩
theorem q_impl_IsValidLines (x0 : List D) (x1 : Int) : runFn (ocOf [e_impl_within, e_slices_ContainsFunc__impl_IsValidLines_1]) (olOf []) A 70 Go.Proofs.Try.f70 (Sh.mks e_impl_IsValidLines.sh [.L x0, .I x1]).1 (fun v os => some (v, os)) = c_impl_IsValidLines x0 x1 (fun y => some ((e_impl_IsValidLines.res.mk [.B y]).1, (Sh.mks e_impl_IsValidLines.outs (e_impl_IsValidLines.res.mk [.B y]).2).1)) := by kernel_rfl
theorem e_impl_IsValidLines_ok : e_impl_IsValidLines.ok Go.Proofs.Try.prog A := by
  intro R ds k r h
  unfold e_impl_IsValidLines at h
  obtain ⟨x0, d0, rfl, h0⟩ := dL_some h
  obtain ⟨x1, d1, rfl, h1⟩ := dI_some h0
  obtain ⟨rfl, hE⟩ := dE_some h1
  obtain ⟨y, hy, hk⟩ := bnd_some hE
  refine ⟨_, hk, fn_ok px (fx := ⟨Go.Proofs.Try.func70, by kernel_rfl, by kernel_rfl⟩) (entsOK_cons e_impl_within_ok (entsOK_cons e_slices_ContainsFunc__impl_IsValidLines_1_ok entsOK_nil)) lentsOK_nil ?_⟩
  have hq := q_impl_IsValidLines x0 x1
  rw [c_impl_IsValidLines_bind] at hq
  rw [show c_impl_IsValidLines x0 x1 some = some y from hy] at hq
  exact hq

/-! loop.example/g00876/impl.isCoordinate -/
def c_impl_isCoordinate {R : Type} (x0 : Int) (k : Bool → Option R) : Option R :=
  (impl_within x0 (-1000000 : Int) (1000000 : Int)).bind (fun y0 =>
    k y0)
theorem c_impl_isCoordinate_bind {R : Type} (x0 : Int) (k : Bool → Option R) : c_impl_isCoordinate x0 k = (c_impl_isCoordinate x0 some).bind k := by
  unfold c_impl_isCoordinate
  repeat' first
    | exact bnd_tail
    | exact bnd_none
    | exact bnd_leaf
    | apply bnd_ite
    | apply bnd_cond
    | apply bnd_sum
    | (apply bnd_bind; intro _)
    | intro _
def impl_isCoordinate (x0 : Int) : Option (Bool) := c_impl_isCoordinate x0 some
def e_impl_isCoordinate : Ent := ⟨94, [.int .i64], .bool, [.undef], fun _ ds k => dI (fun x0 ds => dE ((impl_isCoordinate x0).bind (fun y => k [.B y])) ds) ds⟩
theorem q_impl_isCoordinate (x0 : Int) : runFn (ocOf [e_impl_within]) (olOf []) A 94 Go.Proofs.Try.f94 (Sh.mks e_impl_isCoordinate.sh [.I x0]).1 (fun v os => some (v, os)) = c_impl_isCoordinate x0 (fun y => some ((e_impl_isCoordinate.res.mk [.B y]).1, (Sh.mks e_impl_isCoordinate.outs (e_impl_isCoordinate.res.mk [.B y]).2).1)) := by kernel_rfl
theorem e_impl_isCoordinate_ok : e_impl_isCoordinate.ok Go.Proofs.Try.prog A := by
  intro R ds k r h
  unfold e_impl_isCoordinate at h
  obtain ⟨x0, d0, rfl, h0⟩ := dI_some h
  obtain ⟨rfl, hE⟩ := dE_some h0
  obtain ⟨y, hy, hk⟩ := bnd_some hE
  refine ⟨_, hk, fn_ok px (fx := ⟨Go.Proofs.Try.func94, by kernel_rfl, by kernel_rfl⟩) (entsOK_cons e_impl_within_ok entsOK_nil) lentsOK_nil ?_⟩
  have hq := q_impl_isCoordinate x0
  rw [c_impl_isCoordinate_bind] at hq
  rw [show c_impl_isCoordinate x0 some = some y from hy] at hq
  exact hq

/-! loop.example/g00876/impl.SpanningHeights$1 -/
def c_impl_SpanningHeights_1 {R : Type} (x0 : Int) (x1 : Int) (x2 : Int) (x3 : Int) (x4 : List D) (k : Bool → Option R) : Option R :=
  if (0 : Int) ≤ x0 ∧ x0 < (↑x4.length : Int) then
    if (0 : Int) ≤ x1 ∧ x1 < (↑x4.length : Int) then
      k (!(x4.getD x0.toNat (Go.Rai.D.int (0 : Int))).toBool == (x4.getD x1.toNat (Go.Rai.D.int (0 : Int))).toBool)
    else
      none
  else
    none
theorem c_impl_SpanningHeights_1_bind {R : Type} (x0 : Int) (x1 : Int) (x2 : Int) (x3 : Int) (x4 : List D) (k : Bool → Option R) : c_impl_SpanningHeights_1 x0 x1 x2 x3 x4 k = (c_impl_SpanningHeights_1 x0 x1 x2 x3 x4 some).bind k := by
  unfold c_impl_SpanningHeights_1
  repeat' first
    | exact bnd_tail
    | exact bnd_none
    | exact bnd_leaf
    | apply bnd_ite
    | apply bnd_cond
    | apply bnd_sum
    | (apply bnd_bind; intro _)
    | intro _
def impl_SpanningHeights_1 (x0 : Int) (x1 : Int) (x2 : Int) (x3 : Int) (x4 : List D) : Option (Bool) := c_impl_SpanningHeights_1 x0 x1 x2 x3 x4 some
def e_impl_SpanningHeights_1 : Ent := ⟨95, [.agg [.int .i64, .int .i64, .int .i64, .int .i64], .rp (.rd (.bool))], .bool, [.undef, .undef], fun _ ds k => dI (fun x0 ds => dI (fun x1 ds => dI (fun x2 ds => dI (fun x3 ds => dL (fun x4 ds => dE ((impl_SpanningHeights_1 x0 x1 x2 x3 x4).bind (fun y => k [.B y])) ds) ds) ds) ds) ds) ds⟩
theorem q_impl_SpanningHeights_1 (x0 : Int) (x1 : Int) (x2 : Int) (x3 : Int) (x4 : List D) : runFn (ocOf []) (olOf []) A 95 Go.Proofs.Try.f95 (Sh.mks e_impl_SpanningHeights_1.sh [.I x0, .I x1, .I x2, .I x3, .L x4]).1 (fun v os => some (v, os)) = c_impl_SpanningHeights_1 x0 x1 x2 x3 x4 (fun y => some ((e_impl_SpanningHeights_1.res.mk [.B y]).1, (Sh.mks e_impl_SpanningHeights_1.outs (e_impl_SpanningHeights_1.res.mk [.B y]).2).1)) := by kernel_rfl
theorem e_impl_SpanningHeights_1_ok : e_impl_SpanningHeights_1.ok Go.Proofs.Try.prog A := by
  intro R ds k r h
  unfold e_impl_SpanningHeights_1 at h
  obtain ⟨x0, d0, rfl, h0⟩ := dI_some h
  obtain ⟨x1, d1, rfl, h1⟩ := dI_some h0
  obtain ⟨x2, d2, rfl, h2⟩ := dI_some h1
  obtain ⟨x3, d3, rfl, h3⟩ := dI_some h2
  obtain ⟨x4, d4, rfl, h4⟩ := dL_some h3
  obtain ⟨rfl, hE⟩ := dE_some h4
  obtain ⟨y, hy, hk⟩ := bnd_some hE
  refine ⟨_, hk, fn_ok px (fx := ⟨Go.Proofs.Try.func95, by kernel_rfl, by kernel_rfl⟩) entsOK_nil lentsOK_nil ?_⟩
  have hq := q_impl_SpanningHeights_1 x0 x1 x2 x3 x4
  rw [c_impl_SpanningHeights_1_bind] at hq
  rw [show c_impl_SpanningHeights_1 x0 x1 x2 x3 x4 some = some y from hy] at hq
  exact hq

/-! slices.IndexFunc[[]loop.example/g00876/impl.HeightLine,loop.example/g00876/impl.HeightLine], loop 2 -/
def c_slices_IndexFunc_L2_v2 {R : Type} (F : List D → List D → Int → Int → Option ((Int) ⊕ (Unit))) (x0 : List D) (x1 : List D) (x2 : Int) (x3 : Int) (k : (Int) ⊕ (Unit) → Option R) : Option R :=
  bif Decidable.decide (x3 < x2) then
    if (0 : Int) ≤ x3 ∧ x3 < (↑x0.length : Int) then
      (impl_SpanningHeights_1 (((x0.getD x3.toNat (Go.Rai.D.int (0 : Int))).fld (0 : Nat)).toInt) (((x0.getD x3.toNat (Go.Rai.D.int (0 : Int))).fld (1 : Nat)).toInt) (((x0.getD x3.toNat (Go.Rai.D.int (0 : Int))).fld (2 : Nat)).toInt) (((x0.getD x3.toNat (Go.Rai.D.int (0 : Int))).fld (3 : Nat)).toInt) x1).bind (fun y0 =>
        bif y0 then
          k (.inl x3)
        else
          (F x0 x1 x2 (Go.IntKind.i64.wrap (x3 + (1 : Int)))).bind k)
    else
      none
  else
    k (.inr ())
theorem c_slices_IndexFunc_L2_v2_bind {R : Type} (F : List D → List D → Int → Int → Option ((Int) ⊕ (Unit))) (x0 : List D) (x1 : List D) (x2 : Int) (x3 : Int) (k : (Int) ⊕ (Unit) → Option R) : c_slices_IndexFunc_L2_v2 F x0 x1 x2 x3 k = (c_slices_IndexFunc_L2_v2 F x0 x1 x2 x3 some).bind k := by
  unfold c_slices_IndexFunc_L2_v2
  repeat' first
    | exact bnd_tail
    | exact bnd_none
    | exact bnd_leaf
    | apply bnd_ite
    | apply bnd_cond
    | apply bnd_sum
    | (apply bnd_bind; intro _)
    | intro _
def n_slices_IndexFunc_L2_v2 : Nat → List D → List D → Int → Int → Option ((Int) ⊕ (Unit))
  | 0, _, _, _, _ => none
  | n + 1, x0, x1, x2, x3 => c_slices_IndexFunc_L2_v2 (n_slices_IndexFunc_L2_v2 n) x0 x1 x2 x3 some
noncomputable def slices_IndexFunc_L2_v2 (x0 : List D) (x1 : List D) (x2 : Int) (x3 : Int) : Option ((Int) ⊕ (Unit)) := ev (fun n => n_slices_IndexFunc_L2_v2 n x0 x1 x2 x3)
def m_slices_IndexFunc_L2_v2 (F : List D → List D → Int → Int → Option ((Int) ⊕ (Unit))) : Lent := ⟨2, ⟨[.rd (.struct [.int .i64, .int .i64, .int .i64, .int .i64]), .fn 95 [.rp (.rd (.bool))], .undef, .undef, .undef, .undef, .undef, .int .i64, .int .i64, .undef, .undef, .undef, .undef, .undef, .undef, .undef, .undef, .undef, .undef], []⟩, [(.ret, ⟨[.undef, .undef, .undef, .undef, .int .i64, .undef, .undef, .undef, .undef, .undef, .undef, .undef, .undef, .undef, .undef, .undef, .undef, .undef, .undef], []⟩), (.exit 0, ⟨[.undef, .undef, .undef, .undef, .undef, .undef, .undef, .undef, .undef, .undef, .undef, .undef, .undef, .undef, .undef, .undef, .undef, .undef, .undef], []⟩)], fun _ ds k => dL (fun x0 ds => dL (fun x1 ds => dI (fun x2 ds => dI (fun x3 ds => dE ((F x0 x1 x2 x3).bind (Sum.elim (fun y => k 0 [.I y]) (fun y => k 1 []))) ds) ds) ds) ds) ds⟩
theorem q_slices_IndexFunc_L2_v2 (F : List D → List D → Int → Int → Option ((Int) ⊕ (Unit))) (x0 : List D) (x1 : List D) (x2 : Int) (x3 : Int) : runLoop (ocOf [e_impl_SpanningHeights_1]) (olOf [m_slices_IndexFunc_L2_v2 F]) A 72 (codeAt (bodyOf Go.Proofs.Try.f72) 2) ((m_slices_IndexFunc_L2_v2 F).sh.mk' [.L x0, .L x1, .I x2, .I x3]) (fun e σ' => some (e, σ')) = c_slices_IndexFunc_L2_v2 F x0 x1 x2 x3 (Sum.elim (fun y => some (.ret, SSt.mk' ⟨[.undef, .undef, .undef, .undef, .int .i64, .undef, .undef, .undef, .undef, .undef, .undef, .undef, .undef, .undef, .undef, .undef, .undef, .undef, .undef], []⟩ [.I y])) (fun y => some (.exit 0, SSt.mk' ⟨[.undef, .undef, .undef, .undef, .undef, .undef, .undef, .undef, .undef, .undef, .undef, .undef, .undef, .undef, .undef, .undef, .undef, .undef, .undef], []⟩ []))) := by kernel_rfl
theorem m_slices_IndexFunc_L2_v2_ok : ∀ n, (m_slices_IndexFunc_L2_v2 (n_slices_IndexFunc_L2_v2 n)).ok Go.Proofs.Try.prog (codeAt (bodyOf Go.Proofs.Try.f72) 2) := by
  intro n
  induction n with
  | zero =>
    intro R ds k r h
    unfold m_slices_IndexFunc_L2_v2 at h
    obtain ⟨x0, d0, rfl, h0⟩ := dL_some h
    obtain ⟨x1, d1, rfl, h1⟩ := dL_some h0
    obtain ⟨x2, d2, rfl, h2⟩ := dI_some h1
    obtain ⟨x3, d3, rfl, h3⟩ := dI_some h2
    obtain ⟨rfl, hE⟩ := dE_some h3
    obtain ⟨y, hy, hk⟩ := bnd_some hE
    cases hy
  | succ n ih =>
    intro R ds k r h
    unfold m_slices_IndexFunc_L2_v2 at h
    obtain ⟨x0, d0, rfl, h0⟩ := dL_some h
    obtain ⟨x1, d1, rfl, h1⟩ := dL_some h0
    obtain ⟨x2, d2, rfl, h2⟩ := dI_some h1
    obtain ⟨x3, d3, rfl, h3⟩ := dI_some h2
    obtain ⟨rfl, hE⟩ := dE_some h3
    obtain ⟨y, hy, hk⟩ := bnd_some hE
    have hq := q_slices_IndexFunc_L2_v2 (n_slices_IndexFunc_L2_v2 n) x0 x1 x2 x3
    rw [c_slices_IndexFunc_L2_v2_bind] at hq
    rw [show c_slices_IndexFunc_L2_v2 (n_slices_IndexFunc_L2_v2 n) x0 x1 x2 x3 some = some y from hy] at hq
    cases y with
    | inl y =>
      refine ⟨0, _, _, _, hk, rfl, loop_ok px (fx := ⟨Go.Proofs.Try.func72, by kernel_rfl, by kernel_rfl⟩) (entsOK_cons e_impl_SpanningHeights_1_ok entsOK_nil) (lentsOK_cons ih lentsOK_nil) (by kernel_rfl) ?_⟩
      exact hq
    | inr y =>
      refine ⟨1, _, _, _, hk, rfl, loop_ok px (fx := ⟨Go.Proofs.Try.func72, by kernel_rfl, by kernel_rfl⟩) (entsOK_cons e_impl_SpanningHeights_1_ok entsOK_nil) (lentsOK_cons ih lentsOK_nil) (by kernel_rfl) ?_⟩
      exact hq
noncomputable def e_slices_IndexFunc_L2_v2 : Lent := m_slices_IndexFunc_L2_v2 slices_IndexFunc_L2_v2
theorem e_slices_IndexFunc_L2_v2_ok : e_slices_IndexFunc_L2_v2.ok Go.Proofs.Try.prog (codeAt (bodyOf Go.Proofs.Try.f72) 2) := by
  intro R ds k r h
  unfold e_slices_IndexFunc_L2_v2 m_slices_IndexFunc_L2_v2 at h
  obtain ⟨x0, d0, rfl, h0⟩ := dL_some h
  obtain ⟨x1, d1, rfl, h1⟩ := dL_some h0
  obtain ⟨x2, d2, rfl, h2⟩ := dI_some h1
  obtain ⟨x3, d3, rfl, h3⟩ := dI_some h2
  obtain ⟨rfl, hE⟩ := dE_some h3
  obtain ⟨y, hy, hk⟩ := bnd_some hE
  obtain ⟨n, hn⟩ := ev_some hy
  exact m_slices_IndexFunc_L2_v2_ok n R _ k r (show (n_slices_IndexFunc_L2_v2 n x0 x1 x2 x3).bind _ = _ by rw [hn]; exact hk)

/-! slices.IndexFunc[[]loop.example/g00876/impl.HeightLine,loop.example/g00876/impl.HeightLine] -/
def c_slices_IndexFunc__impl_SpanningHeights_1 {R : Type} (x0 : List D) (x1 : List D) (k : Int → Option R) : Option R :=
  (slices_IndexFunc_L2_v2 x0 x1 (↑x0.length : Int) (0 : Int)).bind (Sum.elim (fun y0 =>
    k y0) (fun y1 =>
    k (-1 : Int)))
theorem c_slices_IndexFunc__impl_SpanningHeights_1_bind {R : Type} (x0 : List D) (x1 : List D) (k : Int → Option R) : c_slices_IndexFunc__impl_SpanningHeights_1 x0 x1 k = (c_slices_IndexFunc__impl_SpanningHeights_1 x0 x1 some).bind k := by
  unfold c_slices_IndexFunc__impl_SpanningHeights_1
  repeat' first
    | exact bnd_tail
    | exact bnd_none
    | exact bnd_leaf
    | apply bnd_ite
    | apply bnd_cond
    | apply bnd_sum
    | (apply bnd_bind; intro _)
    | intro _
def slices_IndexFunc__impl_SpanningHeights_1 (x0 : List D) (x1 : List D) : Option (Int) := c_slices_IndexFunc__impl_SpanningHeights_1 x0 x1 some
def e_slices_IndexFunc__impl_SpanningHeights_1 : Ent := ⟨72, [.rd (.struct [.int .i64, .int .i64, .int .i64, .int .i64]), .fn 95 [.rp (.rd (.bool))]], .int .i64, [.undef, .undef], fun _ ds k => dL (fun x0 ds => dL (fun x1 ds => dE ((slices_IndexFunc__impl_SpanningHeights_1 x0 x1).bind (fun y => k [.I y])) ds) ds) ds⟩
theorem q_slices_IndexFunc__impl_SpanningHeights_1 (x0 : List D) (x1 : List D) : runFn (ocOf []) (olOf [e_slices_IndexFunc_L2_v2]) A 72 Go.Proofs.Try.f72 (Sh.mks e_slices_IndexFunc__impl_SpanningHeights_1.sh [.L x0, .L x1]).1 (fun v os => some (v, os)) = c_slices_IndexFunc__impl_SpanningHeights_1 x0 x1 (fun y => some ((e_slices_IndexFunc__impl_SpanningHeights_1.res.mk [.I y]).1, (Sh.mks e_slices_IndexFunc__impl_SpanningHeights_1.outs (e_slices_IndexFunc__impl_SpanningHeights_1.res.mk [.I y]).2).1)) := by kernel_rfl
theorem e_slices_IndexFunc__impl_SpanningHeights_1_ok : e_slices_IndexFunc__impl_SpanningHeights_1.ok Go.Proofs.Try.prog A := by
  intro R ds k r h
  unfold e_slices_IndexFunc__impl_SpanningHeights_1 at h
  obtain ⟨x0, d0, rfl, h0⟩ := dL_some h
  obtain ⟨x1, d1, rfl, h1⟩ := dL_some h0
  obtain ⟨rfl, hE⟩ := dE_some h1
  obtain ⟨y, hy, hk⟩ := bnd_some hE
  refine ⟨_, hk, fn_ok px (fx := ⟨Go.Proofs.Try.func72, by kernel_rfl, by kernel_rfl⟩) entsOK_nil (lentsOK_cons e_slices_IndexFunc_L2_v2_ok lentsOK_nil) ?_⟩
  have hq := q_slices_IndexFunc__impl_SpanningHeights_1 x0 x1
  rw [c_slices_IndexFunc__impl_SpanningHeights_1_bind] at hq
  rw [show c_slices_IndexFunc__impl_SpanningHeights_1 x0 x1 some = some y from hy] at hq
  exact hq

/-! loop.example/g00876/impl.SpanningHeights, loop 5 -/
def c_impl_SpanningHeights_L5 {R : Type} (F : List D → List D → List D → Option ((Bool × List D × List D) ⊕ (Bool))) (x0 : List D) (x1 : List D) (x2 : List D) (k : (Bool × List D × List D) ⊕ (Bool) → Option R) : Option R :=
  (slices_IndexFunc__impl_SpanningHeights_1 x0 x2).bind (fun y0 =>
    bif Decidable.decide (y0 < (0 : Int)) then
      k (.inl (Bool.true, x1, x2))
    else
      if (0 : Int) ≤ y0 ∧ y0 < (↑x0.length : Int) then
        if (0 : Int) ≤ ((x0.getD y0.toNat (Go.Rai.D.int (0 : Int))).fld (0 : Nat)).toInt ∧ ((x0.getD y0.toNat (Go.Rai.D.int (0 : Int))).fld (0 : Nat)).toInt < (↑x1.length : Int) then
          if ((x0.getD y0.toNat (Go.Rai.D.int (0 : Int))).fld (0 : Nat)).toInt.toNat + (1 : Nat) ≤ x1.length then
            if (0 : Int) ≤ ((x0.getD y0.toNat (Go.Rai.D.int (0 : Int))).fld (1 : Nat)).toInt ∧ ((x0.getD y0.toNat (Go.Rai.D.int (0 : Int))).fld (1 : Nat)).toInt < (↑x2.length : Int) then
              if ((x0.getD y0.toNat (Go.Rai.D.int (0 : Int))).fld (1 : Nat)).toInt.toNat + (1 : Nat) ≤ x2.length then
                bif (x2.getD ((x0.getD y0.toNat (Go.Rai.D.int (0 : Int))).fld (1 : Nat)).toInt.toNat (Go.Rai.D.int (0 : Int))).toBool then
                  if (0 : Int) ≤ ((x0.getD y0.toNat (Go.Rai.D.int (0 : Int))).fld (1 : Nat)).toInt ∧ ((x0.getD y0.toNat (Go.Rai.D.int (0 : Int))).fld (1 : Nat)).toInt < (↑x1.length : Int) then
                    if ((x0.getD y0.toNat (Go.Rai.D.int (0 : Int))).fld (1 : Nat)).toInt.toNat + (1 : Nat) ≤ x1.length then
                      (impl_isCoordinate (Go.IntKind.i64.wrap ((x1.getD ((x0.getD y0.toNat (Go.Rai.D.int (0 : Int))).fld (1 : Nat)).toInt.toNat (Go.Rai.D.int (0 : Int))).toInt - ((x0.getD y0.toNat (Go.Rai.D.int (0 : Int))).fld (2 : Nat)).toInt))).bind (fun y1 =>
                        bif !y1 then
                          k (.inr Bool.false)
                        else
                          if (0 : Int) ≤ ((x0.getD y0.toNat (Go.Rai.D.int (0 : Int))).fld (0 : Nat)).toInt ∧ ((x0.getD y0.toNat (Go.Rai.D.int (0 : Int))).fld (0 : Nat)).toInt < (↑x1.length : Int) then
                            if ((x0.getD y0.toNat (Go.Rai.D.int (0 : Int))).fld (0 : Nat)).toInt.toNat + (1 : Nat) ≤ x1.length then
                              if (0 : Int) ≤ ((x0.getD y0.toNat (Go.Rai.D.int (0 : Int))).fld (0 : Nat)).toInt ∧ ((x0.getD y0.toNat (Go.Rai.D.int (0 : Int))).fld (0 : Nat)).toInt < (↑x2.length : Int) then
                                if ((x0.getD y0.toNat (Go.Rai.D.int (0 : Int))).fld (0 : Nat)).toInt.toNat + (1 : Nat) ≤ x2.length then
                                  (F x0 (x1.set ((x0.getD y0.toNat (Go.Rai.D.int (0 : Int))).fld (0 : Nat)).toInt.toNat (Go.Rai.D.int (Go.IntKind.i64.wrap ((x1.getD ((x0.getD y0.toNat (Go.Rai.D.int (0 : Int))).fld (1 : Nat)).toInt.toNat (Go.Rai.D.int (0 : Int))).toInt - ((x0.getD y0.toNat (Go.Rai.D.int (0 : Int))).fld (2 : Nat)).toInt)))) (x2.set ((x0.getD y0.toNat (Go.Rai.D.int (0 : Int))).fld (0 : Nat)).toInt.toNat (Go.Rai.D.bool Bool.true))).bind k
                                else
                                  none
                              else
                                none
                            else
                              none
                          else
                            none)
                    else
                      none
                  else
                    none
                else
                  (impl_isCoordinate (Go.IntKind.i64.wrap ((x1.getD ((x0.getD y0.toNat (Go.Rai.D.int (0 : Int))).fld (0 : Nat)).toInt.toNat (Go.Rai.D.int (0 : Int))).toInt + ((x0.getD y0.toNat (Go.Rai.D.int (0 : Int))).fld (2 : Nat)).toInt))).bind (fun y2 =>
                    bif !y2 then
                      k (.inr Bool.false)
                    else
                      if (0 : Int) ≤ ((x0.getD y0.toNat (Go.Rai.D.int (0 : Int))).fld (1 : Nat)).toInt ∧ ((x0.getD y0.toNat (Go.Rai.D.int (0 : Int))).fld (1 : Nat)).toInt < (↑x1.length : Int) then
                        if ((x0.getD y0.toNat (Go.Rai.D.int (0 : Int))).fld (1 : Nat)).toInt.toNat + (1 : Nat) ≤ x1.length then
                          if (0 : Int) ≤ ((x0.getD y0.toNat (Go.Rai.D.int (0 : Int))).fld (1 : Nat)).toInt ∧ ((x0.getD y0.toNat (Go.Rai.D.int (0 : Int))).fld (1 : Nat)).toInt < (↑x2.length : Int) then
                            if ((x0.getD y0.toNat (Go.Rai.D.int (0 : Int))).fld (1 : Nat)).toInt.toNat + (1 : Nat) ≤ x2.length then
                              (F x0 (x1.set ((x0.getD y0.toNat (Go.Rai.D.int (0 : Int))).fld (1 : Nat)).toInt.toNat (Go.Rai.D.int (Go.IntKind.i64.wrap ((x1.getD ((x0.getD y0.toNat (Go.Rai.D.int (0 : Int))).fld (0 : Nat)).toInt.toNat (Go.Rai.D.int (0 : Int))).toInt + ((x0.getD y0.toNat (Go.Rai.D.int (0 : Int))).fld (2 : Nat)).toInt)))) (x2.set ((x0.getD y0.toNat (Go.Rai.D.int (0 : Int))).fld (1 : Nat)).toInt.toNat (Go.Rai.D.bool Bool.true))).bind k
                            else
                              none
                          else
                            none
                        else
                          none
                      else
                        none)
              else
                none
            else
              none
          else
            none
        else
          none
      else
        none)
theorem c_impl_SpanningHeights_L5_bind {R : Type} (F : List D → List D → List D → Option ((Bool × List D × List D) ⊕ (Bool))) (x0 : List D) (x1 : List D) (x2 : List D) (k : (Bool × List D × List D) ⊕ (Bool) → Option R) : c_impl_SpanningHeights_L5 F x0 x1 x2 k = (c_impl_SpanningHeights_L5 F x0 x1 x2 some).bind k := by
  unfold c_impl_SpanningHeights_L5
  repeat' first
    | exact bnd_tail
    | exact bnd_none
    | exact bnd_leaf
    | apply bnd_ite
    | apply bnd_cond
    | apply bnd_sum
    | (apply bnd_bind; intro _)
    | intro _
def n_impl_SpanningHeights_L5 : Nat → List D → List D → List D → Option ((Bool × List D × List D) ⊕ (Bool))
  | 0, _, _, _ => none
  | n + 1, x0, x1, x2 => c_impl_SpanningHeights_L5 (n_impl_SpanningHeights_L5 n) x0 x1 x2 some
noncomputable def impl_SpanningHeights_L5 (x0 : List D) (x1 : List D) (x2 : List D) : Option ((Bool × List D × List D) ⊕ (Bool)) := ev (fun n => n_impl_SpanningHeights_L5 n x0 x1 x2)
def m_impl_SpanningHeights_L5 (F : List D → List D → List D → Option ((Bool × List D × List D) ⊕ (Bool))) : Lent := ⟨5, ⟨[.rd (.struct [.int .i64, .int .i64, .int .i64, .int .i64]), .undef, .undef, .undef, .undef, .undef, .undef, .undef, .undef, .full 1000 [] (.int .i64), .ptr 1001 [0], .undef, .undef, .undef, .undef, .undef, .undef, .undef, .undef, .undef, .undef, .undef, .undef, .undef, .undef, .undef, .undef, .undef, .undef, .undef, .undef, .undef, .undef, .undef, .undef, .undef, .undef, .undef, .undef, .undef, .undef, .undef, .undef, .undef, .undef, .undef, .undef, .undef, .undef, .undef, .undef, .undef, .undef, .undef, .undef, .undef, .undef, .undef, .undef, .undef, .undef, .undef, .undef, .undef, .undef, .undef, .undef, .undef, .undef, .undef, .undef, .undef, .undef, .undef, .undef, .undef, .undef, .undef, .undef], [(1000, .own (.int .i64)), (1001, .obox (.full 1002 [] (.bool))), (1002, .own (.bool))]⟩, [(.ret, ⟨[.undef, .undef, .undef, .undef, .undef, .undef, .full 1000 [] (.int .i64), .full 1001 [] (.bool), .bool, .undef, .undef, .undef, .undef, .undef, .undef, .undef, .undef, .undef, .undef, .undef, .undef, .undef, .undef, .undef, .undef, .undef, .undef, .undef, .undef, .undef, .undef, .undef, .undef, .undef, .undef, .undef, .undef, .undef, .undef, .undef, .undef, .undef, .undef, .undef, .undef, .undef, .undef, .undef, .undef, .undef, .undef, .undef, .undef, .undef, .undef, .undef, .undef, .undef, .undef, .undef, .undef, .undef, .undef, .undef, .undef, .undef, .undef, .undef, .undef, .undef, .undef, .undef, .undef, .undef, .undef, .undef, .undef, .undef, .undef], [(1000, .own (.int .i64)), (1001, .own (.bool))]⟩), (.ret, ⟨[.undef, .undef, .undef, .undef, .undef, .undef, .nilsl, .nilsl, .bool, .undef, .undef, .undef, .undef, .undef, .undef, .undef, .undef, .undef, .undef, .undef, .undef, .undef, .undef, .undef, .undef, .undef, .undef, .undef, .undef, .undef, .undef, .undef, .undef, .undef, .undef, .undef, .undef, .undef, .undef, .undef, .undef, .undef, .undef, .undef, .undef, .undef, .undef, .undef, .undef, .undef, .undef, .undef, .undef, .undef, .undef, .undef, .undef, .undef, .undef, .undef, .undef, .undef, .undef, .undef, .undef, .undef, .undef, .undef, .undef, .undef, .undef, .undef, .undef, .undef, .undef, .undef, .undef, .undef, .undef], []⟩)], fun _ ds k => dL (fun x0 ds => dL (fun x1 ds => dL (fun x2 ds => dE ((F x0 x1 x2).bind (Sum.elim (fun y => k 0 [.B y.1, .L y.2.1, .L y.2.2]) (fun y => k 1 [.B y]))) ds) ds) ds) ds⟩
theorem q_impl_SpanningHeights_L5 (F : List D → List D → List D → Option ((Bool × List D × List D) ⊕ (Bool))) (x0 : List D) (x1 : List D) (x2 : List D) : runLoop (ocOf [e_slices_IndexFunc__impl_SpanningHeights_1, e_impl_isCoordinate]) (olOf [m_impl_SpanningHeights_L5 F]) A 44 (codeAt (bodyOf Go.Proofs.Try.f44) 5) ((m_impl_SpanningHeights_L5 F).sh.mk' [.L x0, .L x1, .L x2]) (fun e σ' => some (e, σ')) = c_impl_SpanningHeights_L5 F x0 x1 x2 (Sum.elim (fun y => some (.ret, SSt.mk' ⟨[.undef, .undef, .undef, .undef, .undef, .undef, .full 1000 [] (.int .i64), .full 1001 [] (.bool), .bool, .undef, .undef, .undef, .undef, .undef, .undef, .undef, .undef, .undef, .undef, .undef, .undef, .undef, .undef, .undef, .undef, .undef, .undef, .undef, .undef, .undef, .undef, .undef, .undef, .undef, .undef, .undef, .undef, .undef, .undef, .undef, .undef, .undef, .undef, .undef, .undef, .undef, .undef, .undef, .undef, .undef, .undef, .undef, .undef, .undef, .undef, .undef, .undef, .undef, .undef, .undef, .undef, .undef, .undef, .undef, .undef, .undef, .undef, .undef, .undef, .undef, .undef, .undef, .undef, .undef, .undef, .undef, .undef, .undef, .undef], [(1000, .own (.int .i64)), (1001, .own (.bool))]⟩ [.B y.1, .L y.2.1, .L y.2.2])) (fun y => some (.ret, SSt.mk' ⟨[.undef, .undef, .undef, .undef, .undef, .undef, .nilsl, .nilsl, .bool, .undef, .undef, .undef, .undef, .undef, .undef, .undef, .undef, .undef, .undef, .undef, .undef, .undef, .undef, .undef, .undef, .undef, .undef, .undef, .undef, .undef, .undef, .undef, .undef, .undef, .undef, .undef, .undef, .undef, .undef, .undef, .undef, .undef, .undef, .undef, .undef, .undef, .undef, .undef, .undef, .undef, .undef, .undef, .undef, .undef, .undef, .undef, .undef, .undef, .undef, .undef, .undef, .undef, .undef, .undef, .undef, .undef, .undef, .undef, .undef, .undef, .undef, .undef, .undef, .undef, .undef, .undef, .undef, .undef, .undef], []⟩ [.B y]))) := by kernel_rfl
theorem m_impl_SpanningHeights_L5_ok : ∀ n, (m_impl_SpanningHeights_L5 (n_impl_SpanningHeights_L5 n)).ok Go.Proofs.Try.prog (codeAt (bodyOf Go.Proofs.Try.f44) 5) := by
  intro n
  induction n with
  | zero =>
    intro R ds k r h
    unfold m_impl_SpanningHeights_L5 at h
    obtain ⟨x0, d0, rfl, h0⟩ := dL_some h
    obtain ⟨x1, d1, rfl, h1⟩ := dL_some h0
    obtain ⟨x2, d2, rfl, h2⟩ := dL_some h1
    obtain ⟨rfl, hE⟩ := dE_some h2
    obtain ⟨y, hy, hk⟩ := bnd_some hE
    cases hy
  | succ n ih =>
    intro R ds k r h
    unfold m_impl_SpanningHeights_L5 at h
    obtain ⟨x0, d0, rfl, h0⟩ := dL_some h
    obtain ⟨x1, d1, rfl, h1⟩ := dL_some h0
    obtain ⟨x2, d2, rfl, h2⟩ := dL_some h1
    obtain ⟨rfl, hE⟩ := dE_some h2
    obtain ⟨y, hy, hk⟩ := bnd_some hE
    have hq := q_impl_SpanningHeights_L5 (n_impl_SpanningHeights_L5 n) x0 x1 x2
    rw [c_impl_SpanningHeights_L5_bind] at hq
    rw [show c_impl_SpanningHeights_L5 (n_impl_SpanningHeights_L5 n) x0 x1 x2 some = some y from hy] at hq
    cases y with
    | inl y =>
      refine ⟨0, _, _, _, hk, rfl, loop_ok px (fx := ⟨Go.Proofs.Try.func44, by kernel_rfl, by kernel_rfl⟩) (entsOK_cons e_slices_IndexFunc__impl_SpanningHeights_1_ok (entsOK_cons e_impl_isCoordinate_ok entsOK_nil)) (lentsOK_cons ih lentsOK_nil) (by kernel_rfl) ?_⟩
      exact hq
    | inr y =>
      refine ⟨1, _, _, _, hk, rfl, loop_ok px (fx := ⟨Go.Proofs.Try.func44, by kernel_rfl, by kernel_rfl⟩) (entsOK_cons e_slices_IndexFunc__impl_SpanningHeights_1_ok (entsOK_cons e_impl_isCoordinate_ok entsOK_nil)) (lentsOK_cons ih lentsOK_nil) (by kernel_rfl) ?_⟩
      exact hq
noncomputable def e_impl_SpanningHeights_L5 : Lent := m_impl_SpanningHeights_L5 impl_SpanningHeights_L5
theorem e_impl_SpanningHeights_L5_ok : e_impl_SpanningHeights_L5.ok Go.Proofs.Try.prog (codeAt (bodyOf Go.Proofs.Try.f44) 5) := by
  intro R ds k r h
  unfold e_impl_SpanningHeights_L5 m_impl_SpanningHeights_L5 at h
  obtain ⟨x0, d0, rfl, h0⟩ := dL_some h
  obtain ⟨x1, d1, rfl, h1⟩ := dL_some h0
  obtain ⟨x2, d2, rfl, h2⟩ := dL_some h1
  obtain ⟨rfl, hE⟩ := dE_some h2
  obtain ⟨y, hy, hk⟩ := bnd_some hE
  obtain ⟨n, hn⟩ := ev_some hy
  exact m_impl_SpanningHeights_L5_ok n R _ k r (show (n_impl_SpanningHeights_L5 n x0 x1 x2).bind _ = _ by rw [hn]; exact hk)

/-! loop.example/g00876/impl.SpanningHeights -/
def c_impl_SpanningHeights {R : Type} (x0 : List D) (x1 : Int) (x2 : Int) (k : List D × List D × Bool → Option R) : Option R :=
  (impl_IsValidLines x0 x1).bind (fun y0 =>
    bif !y0 then
      k ([], [], Bool.false)
    else
      (impl_isCoordinate x2).bind (fun y1 =>
        bif !y1 then
          k ([], [], Bool.false)
        else
          if (0 : Int) ≤ x1 ∧ x1 ≤ x1 ∧ x1 ≤ (4294967296 : Int) then
            if (0 : Int) ≤ x1 ∧ x1 ≤ x1 ∧ x1 ≤ (4294967296 : Int) then
              if (0 : Int) ≤ (0 : Int) ∧ (0 : Int) < (↑(List.replicate x1.toNat (Go.Rai.D.int (0 : Int))).length : Int) then
                if Int.toNat (0 : Int) + (1 : Nat) ≤ (List.replicate x1.toNat (Go.Rai.D.int (0 : Int))).length then
                  if (0 : Int) ≤ (0 : Int) ∧ (0 : Int) < (↑(List.replicate x1.toNat (Go.Rai.D.bool Bool.false)).length : Int) then
                    if Int.toNat (0 : Int) + (1 : Nat) ≤ (List.replicate x1.toNat (Go.Rai.D.bool Bool.false)).length then
                      (impl_SpanningHeights_L5 x0 ((List.replicate x1.toNat (Go.Rai.D.int (0 : Int))).set (Int.toNat (0 : Int)) (Go.Rai.D.int x2)) ((List.replicate x1.toNat (Go.Rai.D.bool Bool.false)).set (Int.toNat (0 : Int)) (Go.Rai.D.bool Bool.true))).bind (Sum.elim (fun y2 =>
                        k (y2.snd.fst, y2.snd.snd, y2.fst)) (fun y3 =>
                        k ([], [], y3)))
                    else
                      none
                  else
                    none
                else
                  none
              else
                none
            else
              none
          else
            none))
theorem c_impl_SpanningHeights_bind {R : Type} (x0 : List D) (x1 : Int) (x2 : Int) (k : List D × List D × Bool → Option R) : c_impl_SpanningHeights x0 x1 x2 k = (c_impl_SpanningHeights x0 x1 x2 some).bind k := by
  unfold c_impl_SpanningHeights
  repeat' first
    | exact bnd_tail
    | exact bnd_none
    | exact bnd_leaf
    | apply bnd_ite
    | apply bnd_cond
    | apply bnd_sum
    | (apply bnd_bind; intro _)
    | intro _
def impl_SpanningHeights (x0 : List D) (x1 : Int) (x2 : Int) : Option (List D × List D × Bool) := c_impl_SpanningHeights x0 x1 x2 some
def e_impl_SpanningHeights : Ent := ⟨44, [.rd (.struct [.int .i64, .int .i64, .int .i64, .int .i64]), .int .i64, .int .i64], .tup [.own (.int .i64), .own (.bool), .bool], [.undef, .undef, .undef], fun _ ds k => dL (fun x0 ds => dI (fun x1 ds => dI (fun x2 ds => dE ((impl_SpanningHeights x0 x1 x2).bind (fun y => k [.L y.1, .L y.2.1, .B y.2.2])) ds) ds) ds) ds⟩
theorem q_impl_SpanningHeights (x0 : List D) (x1 : Int) (x2 : Int) : runFn (ocOf [e_impl_IsValidLines, e_impl_isCoordinate]) (olOf [e_impl_SpanningHeights_L5]) A 44 Go.Proofs.Try.f44 (Sh.mks e_impl_SpanningHeights.sh [.L x0, .I x1, .I x2]).1 (fun v os => some (v, os)) = c_impl_SpanningHeights x0 x1 x2 (fun y => some ((e_impl_SpanningHeights.res.mk [.L y.1, .L y.2.1, .B y.2.2]).1, (Sh.mks e_impl_SpanningHeights.outs (e_impl_SpanningHeights.res.mk [.L y.1, .L y.2.1, .B y.2.2]).2).1)) := by kernel_rfl
theorem e_impl_SpanningHeights_ok : e_impl_SpanningHeights.ok Go.Proofs.Try.prog A := by
  intro R ds k r h
  unfold e_impl_SpanningHeights at h
  obtain ⟨x0, d0, rfl, h0⟩ := dL_some h
  obtain ⟨x1, d1, rfl, h1⟩ := dI_some h0
  obtain ⟨x2, d2, rfl, h2⟩ := dI_some h1
  obtain ⟨rfl, hE⟩ := dE_some h2
  obtain ⟨y, hy, hk⟩ := bnd_some hE
  refine ⟨_, hk, fn_ok px (fx := ⟨Go.Proofs.Try.func44, by kernel_rfl, by kernel_rfl⟩) (entsOK_cons e_impl_IsValidLines_ok (entsOK_cons e_impl_isCoordinate_ok entsOK_nil)) (lentsOK_cons e_impl_SpanningHeights_L5_ok lentsOK_nil) ?_⟩
  have hq := q_impl_SpanningHeights x0 x1 x2
  rw [c_impl_SpanningHeights_bind] at hq
  rw [show c_impl_SpanningHeights x0 x1 x2 some = some y from hy] at hq
  exact hq

/-! loop.example/g00876/laws.eqIntS, loop 4 -/
def c_laws_eqIntS_L4 {R : Type} (F : List D → List D → Int → Option ((Bool) ⊕ (Unit))) (x0 : List D) (x1 : List D) (x2 : Int) (k : (Bool) ⊕ (Unit) → Option R) : Option R :=
  bif Decidable.decide (x2 < (↑x0.length : Int)) then
    if (0 : Int) ≤ x2 ∧ x2 < (↑x0.length : Int) then
      if (0 : Int) ≤ x2 ∧ x2 < (↑x1.length : Int) then
        bif !Decidable.decide ((x0.getD x2.toNat (Go.Rai.D.int (0 : Int))).toInt = (x1.getD x2.toNat (Go.Rai.D.int (0 : Int))).toInt) then
          k (.inl Bool.false)
        else
          (F x0 x1 (Go.IntKind.i64.wrap (x2 + (1 : Int)))).bind k
      else
        none
    else
      none
  else
    k (.inr ())
theorem c_laws_eqIntS_L4_bind {R : Type} (F : List D → List D → Int → Option ((Bool) ⊕ (Unit))) (x0 : List D) (x1 : List D) (x2 : Int) (k : (Bool) ⊕ (Unit) → Option R) : c_laws_eqIntS_L4 F x0 x1 x2 k = (c_laws_eqIntS_L4 F x0 x1 x2 some).bind k := by
  unfold c_laws_eqIntS_L4
  repeat' first
    | exact bnd_tail
    | exact bnd_none
    | exact bnd_leaf
    | apply bnd_ite
    | apply bnd_cond
    | apply bnd_sum
    | (apply bnd_bind; intro _)
    | intro _
def n_laws_eqIntS_L4 : Nat → List D → List D → Int → Option ((Bool) ⊕ (Unit))
  | 0, _, _, _ => none
  | n + 1, x0, x1, x2 => c_laws_eqIntS_L4 (n_laws_eqIntS_L4 n) x0 x1 x2 some
noncomputable def laws_eqIntS_L4 (x0 : List D) (x1 : List D) (x2 : Int) : Option ((Bool) ⊕ (Unit)) := ev (fun n => n_laws_eqIntS_L4 n x0 x1 x2)
def m_laws_eqIntS_L4 (F : List D → List D → Int → Option ((Bool) ⊕ (Unit))) : Lent := ⟨4, ⟨[.rd (.int .i64), .rd (.int .i64), .undef, .undef, .undef, .int .i64, .undef, .undef, .undef, .undef, .undef, .undef, .undef, .undef, .undef, .undef, .undef, .undef, .undef, .undef, .undef, .undef, .undef, .undef, .undef, .undef], []⟩, [(.ret, ⟨[.undef, .undef, .undef, .undef, .bool, .undef, .undef, .undef, .undef, .undef, .undef, .undef, .undef, .undef, .undef, .undef, .undef, .undef, .undef, .undef, .undef, .undef, .undef, .undef, .undef, .undef], []⟩), (.exit 0, ⟨[.undef, .undef, .undef, .undef, .undef, .undef, .undef, .undef, .undef, .undef, .undef, .undef, .undef, .undef, .undef, .undef, .undef, .undef, .undef, .undef, .undef, .undef, .undef, .undef, .undef, .undef], []⟩)], fun _ ds k => dL (fun x0 ds => dL (fun x1 ds => dI (fun x2 ds => dE ((F x0 x1 x2).bind (Sum.elim (fun y => k 0 [.B y]) (fun y => k 1 []))) ds) ds) ds) ds⟩
theorem q_laws_eqIntS_L4 (F : List D → List D → Int → Option ((Bool) ⊕ (Unit))) (x0 : List D) (x1 : List D) (x2 : Int) : runLoop (ocOf []) (olOf [m_laws_eqIntS_L4 F]) A 21 (codeAt (bodyOf Go.Proofs.Try.f21) 4) ((m_laws_eqIntS_L4 F).sh.mk' [.L x0, .L x1, .I x2]) (fun e σ' => some (e, σ')) = c_laws_eqIntS_L4 F x0 x1 x2 (Sum.elim (fun y => some (.ret, SSt.mk' ⟨[.undef, .undef, .undef, .undef, .bool, .undef, .undef, .undef, .undef, .undef, .undef, .undef, .undef, .undef, .undef, .undef, .undef, .undef, .undef, .undef, .undef, .undef, .undef, .undef, .undef, .undef], []⟩ [.B y])) (fun y => some (.exit 0, SSt.mk' ⟨[.undef, .undef, .undef, .undef, .undef, .undef, .undef, .undef, .undef, .undef, .undef, .undef, .undef, .undef, .undef, .undef, .undef, .undef, .undef, .undef, .undef, .undef, .undef, .undef, .undef, .undef], []⟩ []))) := by kernel_rfl
theorem m_laws_eqIntS_L4_ok : ∀ n, (m_laws_eqIntS_L4 (n_laws_eqIntS_L4 n)).ok Go.Proofs.Try.prog (codeAt (bodyOf Go.Proofs.Try.f21) 4) := by
  intro n
  induction n with
  | zero =>
    intro R ds k r h
    unfold m_laws_eqIntS_L4 at h
    obtain ⟨x0, d0, rfl, h0⟩ := dL_some h
    obtain ⟨x1, d1, rfl, h1⟩ := dL_some h0
    obtain ⟨x2, d2, rfl, h2⟩ := dI_some h1
    obtain ⟨rfl, hE⟩ := dE_some h2
    obtain ⟨y, hy, hk⟩ := bnd_some hE
    cases hy
  | succ n ih =>
    intro R ds k r h
    unfold m_laws_eqIntS_L4 at h
    obtain ⟨x0, d0, rfl, h0⟩ := dL_some h
    obtain ⟨x1, d1, rfl, h1⟩ := dL_some h0
    obtain ⟨x2, d2, rfl, h2⟩ := dI_some h1
    obtain ⟨rfl, hE⟩ := dE_some h2
    obtain ⟨y, hy, hk⟩ := bnd_some hE
    have hq := q_laws_eqIntS_L4 (n_laws_eqIntS_L4 n) x0 x1 x2
    rw [c_laws_eqIntS_L4_bind] at hq
    rw [show c_laws_eqIntS_L4 (n_laws_eqIntS_L4 n) x0 x1 x2 some = some y from hy] at hq
    cases y with
    | inl y =>
      refine ⟨0, _, _, _, hk, rfl, loop_ok px (fx := ⟨Go.Proofs.Try.func21, by kernel_rfl, by kernel_rfl⟩) entsOK_nil (lentsOK_cons ih lentsOK_nil) (by kernel_rfl) ?_⟩
      exact hq
    | inr y =>
      refine ⟨1, _, _, _, hk, rfl, loop_ok px (fx := ⟨Go.Proofs.Try.func21, by kernel_rfl, by kernel_rfl⟩) entsOK_nil (lentsOK_cons ih lentsOK_nil) (by kernel_rfl) ?_⟩
      exact hq
noncomputable def e_laws_eqIntS_L4 : Lent := m_laws_eqIntS_L4 laws_eqIntS_L4
theorem e_laws_eqIntS_L4_ok : e_laws_eqIntS_L4.ok Go.Proofs.Try.prog (codeAt (bodyOf Go.Proofs.Try.f21) 4) := by
  intro R ds k r h
  unfold e_laws_eqIntS_L4 m_laws_eqIntS_L4 at h
  obtain ⟨x0, d0, rfl, h0⟩ := dL_some h
  obtain ⟨x1, d1, rfl, h1⟩ := dL_some h0
  obtain ⟨x2, d2, rfl, h2⟩ := dI_some h1
  obtain ⟨rfl, hE⟩ := dE_some h2
  obtain ⟨y, hy, hk⟩ := bnd_some hE
  obtain ⟨n, hn⟩ := ev_some hy
  exact m_laws_eqIntS_L4_ok n R _ k r (show (n_laws_eqIntS_L4 n x0 x1 x2).bind _ = _ by rw [hn]; exact hk)

/-! loop.example/g00876/laws.eqIntS -/
def c_laws_eqIntS {R : Type} (x0 : List D) (x1 : List D) (k : Bool → Option R) : Option R :=
  bif !Decidable.decide ((↑x0.length : Int) = (↑x1.length : Int)) then
    k Bool.false
  else
    (laws_eqIntS_L4 x0 x1 (0 : Int)).bind (Sum.elim (fun y0 =>
      k y0) (fun y1 =>
      k Bool.true))
theorem c_laws_eqIntS_bind {R : Type} (x0 : List D) (x1 : List D) (k : Bool → Option R) : c_laws_eqIntS x0 x1 k = (c_laws_eqIntS x0 x1 some).bind k := by
  unfold c_laws_eqIntS
  repeat' first
    | exact bnd_tail
    | exact bnd_none
    | exact bnd_leaf
    | apply bnd_ite
    | apply bnd_cond
    | apply bnd_sum
    | (apply bnd_bind; intro _)
    | intro _
def laws_eqIntS (x0 : List D) (x1 : List D) : Option (Bool) := c_laws_eqIntS x0 x1 some
def e_laws_eqIntS : Ent := ⟨21, [.rd (.int .i64), .rd (.int .i64)], .bool, [.undef, .undef], fun _ ds k => dL (fun x0 ds => dL (fun x1 ds => dE ((laws_eqIntS x0 x1).bind (fun y => k [.B y])) ds) ds) ds⟩
theorem q_laws_eqIntS (x0 : List D) (x1 : List D) : runFn (ocOf []) (olOf [e_laws_eqIntS_L4]) A 21 Go.Proofs.Try.f21 (Sh.mks e_laws_eqIntS.sh [.L x0, .L x1]).1 (fun v os => some (v, os)) = c_laws_eqIntS x0 x1 (fun y => some ((e_laws_eqIntS.res.mk [.B y]).1, (Sh.mks e_laws_eqIntS.outs (e_laws_eqIntS.res.mk [.B y]).2).1)) := by kernel_rfl
theorem e_laws_eqIntS_ok : e_laws_eqIntS.ok Go.Proofs.Try.prog A := by
  intro R ds k r h
  unfold e_laws_eqIntS at h
  obtain ⟨x0, d0, rfl, h0⟩ := dL_some h
  obtain ⟨x1, d1, rfl, h1⟩ := dL_some h0
  obtain ⟨rfl, hE⟩ := dE_some h1
  obtain ⟨y, hy, hk⟩ := bnd_some hE
  refine ⟨_, hk, fn_ok px (fx := ⟨Go.Proofs.Try.func21, by kernel_rfl, by kernel_rfl⟩) entsOK_nil (lentsOK_cons e_laws_eqIntS_L4_ok lentsOK_nil) ?_⟩
  have hq := q_laws_eqIntS x0 x1
  rw [c_laws_eqIntS_bind] at hq
  rw [show c_laws_eqIntS x0 x1 some = some y from hy] at hq
  exact hq

/-! loop.example/g00876/laws.eqBoolS, loop 4 -/
def c_laws_eqBoolS_L4 {R : Type} (F : List D → List D → Int → Option ((Bool) ⊕ (Unit))) (x0 : List D) (x1 : List D) (x2 : Int) (k : (Bool) ⊕ (Unit) → Option R) : Option R :=
  bif Decidable.decide (x2 < (↑x0.length : Int)) then
    if (0 : Int) ≤ x2 ∧ x2 < (↑x0.length : Int) then
      if (0 : Int) ≤ x2 ∧ x2 < (↑x1.length : Int) then
        bif !(x0.getD x2.toNat (Go.Rai.D.int (0 : Int))).toBool == (x1.getD x2.toNat (Go.Rai.D.int (0 : Int))).toBool then
          k (.inl Bool.false)
        else
          (F x0 x1 (Go.IntKind.i64.wrap (x2 + (1 : Int)))).bind k
      else
        none
    else
      none
  else
    k (.inr ())
theorem c_laws_eqBoolS_L4_bind {R : Type} (F : List D → List D → Int → Option ((Bool) ⊕ (Unit))) (x0 : List D) (x1 : List D) (x2 : Int) (k : (Bool) ⊕ (Unit) → Option R) : c_laws_eqBoolS_L4 F x0 x1 x2 k = (c_laws_eqBoolS_L4 F x0 x1 x2 some).bind k := by
  unfold c_laws_eqBoolS_L4
  repeat' first
    | exact bnd_tail
    | exact bnd_none
    | exact bnd_leaf
    | apply bnd_ite
    | apply bnd_cond
    | apply bnd_sum
    | (apply bnd_bind; intro _)
    | intro _
def n_laws_eqBoolS_L4 : Nat → List D → List D → Int → Option ((Bool) ⊕ (Unit))
  | 0, _, _, _ => none
  | n + 1, x0, x1, x2 => c_laws_eqBoolS_L4 (n_laws_eqBoolS_L4 n) x0 x1 x2 some
noncomputable def laws_eqBoolS_L4 (x0 : List D) (x1 : List D) (x2 : Int) : Option ((Bool) ⊕ (Unit)) := ev (fun n => n_laws_eqBoolS_L4 n x0 x1 x2)
def m_laws_eqBoolS_L4 (F : List D → List D → Int → Option ((Bool) ⊕ (Unit))) : Lent := ⟨4, ⟨[.rd (.bool), .rd (.bool), .undef, .undef, .undef, .int .i64, .undef, .undef, .undef, .undef, .undef, .undef, .undef, .undef, .undef, .undef, .undef, .undef, .undef, .undef, .undef, .undef, .undef, .undef, .undef, .undef], []⟩, [(.ret, ⟨[.undef, .undef, .undef, .undef, .bool, .undef, .undef, .undef, .undef, .undef, .undef, .undef, .undef, .undef, .undef, .undef, .undef, .undef, .undef, .undef, .undef, .undef, .undef, .undef, .undef, .undef], []⟩), (.exit 0, ⟨[.undef, .undef, .undef, .undef, .undef, .undef, .undef, .undef, .undef, .undef, .undef, .undef, .undef, .undef, .undef, .undef, .undef, .undef, .undef, .undef, .undef, .undef, .undef, .undef, .undef, .undef], []⟩)], fun _ ds k => dL (fun x0 ds => dL (fun x1 ds => dI (fun x2 ds => dE ((F x0 x1 x2).bind (Sum.elim (fun y => k 0 [.B y]) (fun y => k 1 []))) ds) ds) ds) ds⟩
theorem q_laws_eqBoolS_L4 (F : List D → List D → Int → Option ((Bool) ⊕ (Unit))) (x0 : List D) (x1 : List D) (x2 : Int) : runLoop (ocOf []) (olOf [m_laws_eqBoolS_L4 F]) A 45 (codeAt (bodyOf Go.Proofs.Try.f45) 4) ((m_laws_eqBoolS_L4 F).sh.mk' [.L x0, .L x1, .I x2]) (fun e σ' => some (e, σ')) = c_laws_eqBoolS_L4 F x0 x1 x2 (Sum.elim (fun y => some (.ret, SSt.mk' ⟨[.undef, .undef, .undef, .undef, .bool, .undef, .undef, .undef, .undef, .undef, .undef, .undef, .undef, .undef, .undef, .undef, .undef, .undef, .undef, .undef, .undef, .undef, .undef, .undef, .undef, .undef], []⟩ [.B y])) (fun y => some (.exit 0, SSt.mk' ⟨[.undef, .undef, .undef, .undef, .undef, .undef, .undef, .undef, .undef, .undef, .undef, .undef, .undef, .undef, .undef, .undef, .undef, .undef, .undef, .undef, .undef, .undef, .undef, .undef, .undef, .undef], []⟩ []))) := by kernel_rfl
theorem m_laws_eqBoolS_L4_ok : ∀ n, (m_laws_eqBoolS_L4 (n_laws_eqBoolS_L4 n)).ok Go.Proofs.Try.prog (codeAt (bodyOf Go.Proofs.Try.f45) 4) := by
  intro n
  induction n with
  | zero =>
    intro R ds k r h
    unfold m_laws_eqBoolS_L4 at h
    obtain ⟨x0, d0, rfl, h0⟩ := dL_some h
    obtain ⟨x1, d1, rfl, h1⟩ := dL_some h0
    obtain ⟨x2, d2, rfl, h2⟩ := dI_some h1
    obtain ⟨rfl, hE⟩ := dE_some h2
    obtain ⟨y, hy, hk⟩ := bnd_some hE
    cases hy
  | succ n ih =>
    intro R ds k r h
    unfold m_laws_eqBoolS_L4 at h
    obtain ⟨x0, d0, rfl, h0⟩ := dL_some h
    obtain ⟨x1, d1, rfl, h1⟩ := dL_some h0
    obtain ⟨x2, d2, rfl, h2⟩ := dI_some h1
    obtain ⟨rfl, hE⟩ := dE_some h2
    obtain ⟨y, hy, hk⟩ := bnd_some hE
    have hq := q_laws_eqBoolS_L4 (n_laws_eqBoolS_L4 n) x0 x1 x2
    rw [c_laws_eqBoolS_L4_bind] at hq
    rw [show c_laws_eqBoolS_L4 (n_laws_eqBoolS_L4 n) x0 x1 x2 some = some y from hy] at hq
    cases y with
    | inl y =>
      refine ⟨0, _, _, _, hk, rfl, loop_ok px (fx := ⟨Go.Proofs.Try.func45, by kernel_rfl, by kernel_rfl⟩) entsOK_nil (lentsOK_cons ih lentsOK_nil) (by kernel_rfl) ?_⟩
      exact hq
    | inr y =>
      refine ⟨1, _, _, _, hk, rfl, loop_ok px (fx := ⟨Go.Proofs.Try.func45, by kernel_rfl, by kernel_rfl⟩) entsOK_nil (lentsOK_cons ih lentsOK_nil) (by kernel_rfl) ?_⟩
      exact hq
noncomputable def e_laws_eqBoolS_L4 : Lent := m_laws_eqBoolS_L4 laws_eqBoolS_L4
theorem e_laws_eqBoolS_L4_ok : e_laws_eqBoolS_L4.ok Go.Proofs.Try.prog (codeAt (bodyOf Go.Proofs.Try.f45) 4) := by
  intro R ds k r h
  unfold e_laws_eqBoolS_L4 m_laws_eqBoolS_L4 at h
  obtain ⟨x0, d0, rfl, h0⟩ := dL_some h
  obtain ⟨x1, d1, rfl, h1⟩ := dL_some h0
  obtain ⟨x2, d2, rfl, h2⟩ := dI_some h1
  obtain ⟨rfl, hE⟩ := dE_some h2
  obtain ⟨y, hy, hk⟩ := bnd_some hE
  obtain ⟨n, hn⟩ := ev_some hy
  exact m_laws_eqBoolS_L4_ok n R _ k r (show (n_laws_eqBoolS_L4 n x0 x1 x2).bind _ = _ by rw [hn]; exact hk)

/-! loop.example/g00876/laws.eqBoolS -/
def c_laws_eqBoolS {R : Type} (x0 : List D) (x1 : List D) (k : Bool → Option R) : Option R :=
  bif !Decidable.decide ((↑x0.length : Int) = (↑x1.length : Int)) then
    k Bool.false
  else
    (laws_eqBoolS_L4 x0 x1 (0 : Int)).bind (Sum.elim (fun y0 =>
      k y0) (fun y1 =>
      k Bool.true))
theorem c_laws_eqBoolS_bind {R : Type} (x0 : List D) (x1 : List D) (k : Bool → Option R) : c_laws_eqBoolS x0 x1 k = (c_laws_eqBoolS x0 x1 some).bind k := by
  unfold c_laws_eqBoolS
  repeat' first
    | exact bnd_tail
    | exact bnd_none
    | exact bnd_leaf
    | apply bnd_ite
    | apply bnd_cond
    | apply bnd_sum
    | (apply bnd_bind; intro _)
    | intro _
def laws_eqBoolS (x0 : List D) (x1 : List D) : Option (Bool) := c_laws_eqBoolS x0 x1 some
def e_laws_eqBoolS : Ent := ⟨45, [.rd (.bool), .rd (.bool)], .bool, [.undef, .undef], fun _ ds k => dL (fun x0 ds => dL (fun x1 ds => dE ((laws_eqBoolS x0 x1).bind (fun y => k [.B y])) ds) ds) ds⟩
theorem q_laws_eqBoolS (x0 : List D) (x1 : List D) : runFn (ocOf []) (olOf [e_laws_eqBoolS_L4]) A 45 Go.Proofs.Try.f45 (Sh.mks e_laws_eqBoolS.sh [.L x0, .L x1]).1 (fun v os => some (v, os)) = c_laws_eqBoolS x0 x1 (fun y => some ((e_laws_eqBoolS.res.mk [.B y]).1, (Sh.mks e_laws_eqBoolS.outs (e_laws_eqBoolS.res.mk [.B y]).2).1)) := by kernel_rfl
theorem e_laws_eqBoolS_ok : e_laws_eqBoolS.ok Go.Proofs.Try.prog A := by
  intro R ds k r h
  unfold e_laws_eqBoolS at h
  obtain ⟨x0, d0, rfl, h0⟩ := dL_some h
  obtain ⟨x1, d1, rfl, h1⟩ := dL_some h0
  obtain ⟨rfl, hE⟩ := dE_some h1
  obtain ⟨y, hy, hk⟩ := bnd_some hE
  refine ⟨_, hk, fn_ok px (fx := ⟨Go.Proofs.Try.func45, by kernel_rfl, by kernel_rfl⟩) entsOK_nil (lentsOK_cons e_laws_eqBoolS_L4_ok lentsOK_nil) ?_⟩
  have hq := q_laws_eqBoolS x0 x1
  rw [c_laws_eqBoolS_bind] at hq
  rw [show c_laws_eqBoolS x0 x1 some = some y from hy] at hq
  exact hq

/-! loop.example/g00876/laws.eqHeightLine -/
def c_laws_eqHeightLine {R : Type} (x0 : Int) (x1 : Int) (x2 : Int) (x3 : Int) (x4 : Int) (x5 : Int) (x6 : Int) (x7 : Int) (k : Bool → Option R) : Option R :=
  bif !Decidable.decide (x0 = x4) then
    k Bool.false
  else
    bif !Decidable.decide (x1 = x5) then
      k Bool.false
    else
      bif !Decidable.decide (x2 = x6) then
        k Bool.false
      else
        bif !Decidable.decide (x3 = x7) then
          k Bool.false
        else
          k Bool.true
theorem c_laws_eqHeightLine_bind {R : Type} (x0 : Int) (x1 : Int) (x2 : Int) (x3 : Int) (x4 : Int) (x5 : Int) (x6 : Int) (x7 : Int) (k : Bool → Option R) : c_laws_eqHeightLine x0 x1 x2 x3 x4 x5 x6 x7 k = (c_laws_eqHeightLine x0 x1 x2 x3 x4 x5 x6 x7 some).bind k := by
  unfold c_laws_eqHeightLine
  repeat' first
    | exact bnd_tail
    | exact bnd_none
    | exact bnd_leaf
    | apply bnd_ite
    | apply bnd_cond
    | apply bnd_sum
    | (apply bnd_bind; intro _)
    | intro _
def laws_eqHeightLine (x0 : Int) (x1 : Int) (x2 : Int) (x3 : Int) (x4 : Int) (x5 : Int) (x6 : Int) (x7 : Int) : Option (Bool) := c_laws_eqHeightLine x0 x1 x2 x3 x4 x5 x6 x7 some
def e_laws_eqHeightLine : Ent := ⟨74, [.agg [.int .i64, .int .i64, .int .i64, .int .i64], .agg [.int .i64, .int .i64, .int .i64, .int .i64]], .bool, [.undef, .undef], fun _ ds k => dI (fun x0 ds => dI (fun x1 ds => dI (fun x2 ds => dI (fun x3 ds => dI (fun x4 ds => dI (fun x5 ds => dI (fun x6 ds => dI (fun x7 ds => dE ((laws_eqHeightLine x0 x1 x2 x3 x4 x5 x6 x7).bind (fun y => k [.B y])) ds) ds) ds) ds) ds) ds) ds) ds) ds⟩
theorem q_laws_eqHeightLine (x0 : Int) (x1 : Int) (x2 : Int) (x3 : Int) (x4 : Int) (x5 : Int) (x6 : Int) (x7 : Int) : runFn (ocOf []) (olOf []) A 74 Go.Proofs.Try.f74 (Sh.mks e_laws_eqHeightLine.sh [.I x0, .I x1, .I x2, .I x3, .I x4, .I x5, .I x6, .I x7]).1 (fun v os => some (v, os)) = c_laws_eqHeightLine x0 x1 x2 x3 x4 x5 x6 x7 (fun y => some ((e_laws_eqHeightLine.res.mk [.B y]).1, (Sh.mks e_laws_eqHeightLine.outs (e_laws_eqHeightLine.res.mk [.B y]).2).1)) := by kernel_rfl
theorem e_laws_eqHeightLine_ok : e_laws_eqHeightLine.ok Go.Proofs.Try.prog A := by
  intro R ds k r h
  unfold e_laws_eqHeightLine at h
  obtain ⟨x0, d0, rfl, h0⟩ := dI_some h
  obtain ⟨x1, d1, rfl, h1⟩ := dI_some h0
  obtain ⟨x2, d2, rfl, h2⟩ := dI_some h1
  obtain ⟨x3, d3, rfl, h3⟩ := dI_some h2
  obtain ⟨x4, d4, rfl, h4⟩ := dI_some h3
  obtain ⟨x5, d5, rfl, h5⟩ := dI_some h4
  obtain ⟨x6, d6, rfl, h6⟩ := dI_some h5
  obtain ⟨x7, d7, rfl, h7⟩ := dI_some h6
  obtain ⟨rfl, hE⟩ := dE_some h7
  obtain ⟨y, hy, hk⟩ := bnd_some hE
  refine ⟨_, hk, fn_ok px (fx := ⟨Go.Proofs.Try.func74, by kernel_rfl, by kernel_rfl⟩) entsOK_nil lentsOK_nil ?_⟩
  have hq := q_laws_eqHeightLine x0 x1 x2 x3 x4 x5 x6 x7
  rw [c_laws_eqHeightLine_bind] at hq
  rw [show c_laws_eqHeightLine x0 x1 x2 x3 x4 x5 x6 x7 some = some y from hy] at hq
  exact hq

/-! loop.example/g00876/laws.eqHeightLineS, loop 4 -/
def c_laws_eqHeightLineS_L4 {R : Type} (F : List D → List D → Int → Option ((Bool) ⊕ (Unit))) (x0 : List D) (x1 : List D) (x2 : Int) (k : (Bool) ⊕ (Unit) → Option R) : Option R :=
  bif Decidable.decide (x2 < (↑x0.length : Int)) then
    if (0 : Int) ≤ x2 ∧ x2 < (↑x0.length : Int) then
      if (0 : Int) ≤ x2 ∧ x2 < (↑x1.length : Int) then
        (laws_eqHeightLine (((x0.getD x2.toNat (Go.Rai.D.int (0 : Int))).fld (0 : Nat)).toInt) (((x0.getD x2.toNat (Go.Rai.D.int (0 : Int))).fld (1 : Nat)).toInt) (((x0.getD x2.toNat (Go.Rai.D.int (0 : Int))).fld (2 : Nat)).toInt) (((x0.getD x2.toNat (Go.Rai.D.int (0 : Int))).fld (3 : Nat)).toInt) (((x1.getD x2.toNat (Go.Rai.D.int (0 : Int))).fld (0 : Nat)).toInt) (((x1.getD x2.toNat (Go.Rai.D.int (0 : Int))).fld (1 : Nat)).toInt) (((x1.getD x2.toNat (Go.Rai.D.int (0 : Int))).fld (2 : Nat)).toInt) (((x1.getD x2.toNat (Go.Rai.D.int (0 : Int))).fld (3 : Nat)).toInt)).bind (fun y0 =>
          bif !y0 then
            k (.inl Bool.false)
          else
            (F x0 x1 (Go.IntKind.i64.wrap (x2 + (1 : Int)))).bind k)
      else
        none
    else
      none
  else
    k (.inr ())
theorem c_laws_eqHeightLineS_L4_bind {R : Type} (F : List D → List D → Int → Option ((Bool) ⊕ (Unit))) (x0 : List D) (x1 : List D) (x2 : Int) (k : (Bool) ⊕ (Unit) → Option R) : c_laws_eqHeightLineS_L4 F x0 x1 x2 k = (c_laws_eqHeightLineS_L4 F x0 x1 x2 some).bind k := by
  unfold c_laws_eqHeightLineS_L4
  repeat' first
    | exact bnd_tail
    | exact bnd_none
    | exact bnd_leaf
    | apply bnd_ite
    | apply bnd_cond
    | apply bnd_sum
    | (apply bnd_bind; intro _)
    | intro _
def n_laws_eqHeightLineS_L4 : Nat → List D → List D → Int → Option ((Bool) ⊕ (Unit))
  | 0, _, _, _ => none
  | n + 1, x0, x1, x2 => c_laws_eqHeightLineS_L4 (n_laws_eqHeightLineS_L4 n) x0 x1 x2 some
noncomputable def laws_eqHeightLineS_L4 (x0 : List D) (x1 : List D) (x2 : Int) : Option ((Bool) ⊕ (Unit)) := ev (fun n => n_laws_eqHeightLineS_L4 n x0 x1 x2)
def m_laws_eqHeightLineS_L4 (F : List D → List D → Int → Option ((Bool) ⊕ (Unit))) : Lent := ⟨4, ⟨[.rd (.struct [.int .i64, .int .i64, .int .i64, .int .i64]), .rd (.struct [.int .i64, .int .i64, .int .i64, .int .i64]), .undef, .undef, .undef, .int .i64, .undef, .undef, .undef, .undef, .undef, .undef, .undef, .undef, .undef, .undef, .undef, .undef, .undef, .undef, .undef, .undef, .undef, .undef, .undef, .undef, .undef], []⟩, [(.ret, ⟨[.undef, .undef, .undef, .undef, .bool, .undef, .undef, .undef, .undef, .undef, .undef, .undef, .undef, .undef, .undef, .undef, .undef, .undef, .undef, .undef, .undef, .undef, .undef, .undef, .undef, .undef, .undef], []⟩), (.exit 0, ⟨[.undef, .undef, .undef, .undef, .undef, .undef, .undef, .undef, .undef, .undef, .undef, .undef, .undef, .undef, .undef, .undef, .undef, .undef, .undef, .undef, .undef, .undef, .undef, .undef, .undef, .undef, .undef], []⟩)], fun _ ds k => dL (fun x0 ds => dL (fun x1 ds => dI (fun x2 ds => dE ((F x0 x1 x2).bind (Sum.elim (fun y => k 0 [.B y]) (fun y => k 1 []))) ds) ds) ds) ds⟩
theorem q_laws_eqHeightLineS_L4 (F : List D → List D → Int → Option ((Bool) ⊕ (Unit))) (x0 : List D) (x1 : List D) (x2 : Int) : runLoop (ocOf [e_laws_eqHeightLine]) (olOf [m_laws_eqHeightLineS_L4 F]) A 20 (codeAt (bodyOf Go.Proofs.Try.f20) 4) ((m_laws_eqHeightLineS_L4 F).sh.mk' [.L x0, .L x1, .I x2]) (fun e σ' => some (e, σ')) = c_laws_eqHeightLineS_L4 F x0 x1 x2 (Sum.elim (fun y => some (.ret, SSt.mk' ⟨[.undef, .undef, .undef, .undef, .bool, .undef, .undef, .undef, .undef, .undef, .undef, .undef, .undef, .undef, .undef, .undef, .undef, .undef, .undef, .undef, .undef, .undef, .undef, .undef, .undef, .undef, .undef], []⟩ [.B y])) (fun y => some (.exit 0, SSt.mk' ⟨[.undef, .undef, .undef, .undef, .undef, .undef, .undef, .undef, .undef, .undef, .undef, .undef, .undef, .undef, .undef, .undef, .undef, .undef, .undef, .undef, .undef, .undef, .undef, .undef, .undef, .undef, .undef], []⟩ []))) := by kernel_rfl
theorem m_laws_eqHeightLineS_L4_ok : ∀ n, (m_laws_eqHeightLineS_L4 (n_laws_eqHeightLineS_L4 n)).ok Go.Proofs.Try.prog (codeAt (bodyOf Go.Proofs.Try.f20) 4) := by
  intro n
  induction n with
  | zero =>
    intro R ds k r h
    unfold m_laws_eqHeightLineS_L4 at h
    obtain ⟨x0, d0, rfl, h0⟩ := dL_some h
    obtain ⟨x1, d1, rfl, h1⟩ := dL_some h0
    obtain ⟨x2, d2, rfl, h2⟩ := dI_some h1
    obtain ⟨rfl, hE⟩ := dE_some h2
    obtain ⟨y, hy, hk⟩ := bnd_some hE
    cases hy
  | succ n ih =>
    intro R ds k r h
    unfold m_laws_eqHeightLineS_L4 at h
    obtain ⟨x0, d0, rfl, h0⟩ := dL_some h
    obtain ⟨x1, d1, rfl, h1⟩ := dL_some h0
    obtain ⟨x2, d2, rfl, h2⟩ := dI_some h1
    obtain ⟨rfl, hE⟩ := dE_some h2
    obtain ⟨y, hy, hk⟩ := bnd_some hE
    have hq := q_laws_eqHeightLineS_L4 (n_laws_eqHeightLineS_L4 n) x0 x1 x2
    rw [c_laws_eqHeightLineS_L4_bind] at hq
    rw [show c_laws_eqHeightLineS_L4 (n_laws_eqHeightLineS_L4 n) x0 x1 x2 some = some y from hy] at hq
    cases y with
    | inl y =>
      refine ⟨0, _, _, _, hk, rfl, loop_ok px (fx := ⟨Go.Proofs.Try.func20, by kernel_rfl, by kernel_rfl⟩) (entsOK_cons e_laws_eqHeightLine_ok entsOK_nil) (lentsOK_cons ih lentsOK_nil) (by kernel_rfl) ?_⟩
      exact hq
    | inr y =>
      refine ⟨1, _, _, _, hk, rfl, loop_ok px (fx := ⟨Go.Proofs.Try.func20, by kernel_rfl, by kernel_rfl⟩) (entsOK_cons e_laws_eqHeightLine_ok entsOK_nil) (lentsOK_cons ih lentsOK_nil) (by kernel_rfl) ?_⟩
      exact hq
noncomputable def e_laws_eqHeightLineS_L4 : Lent := m_laws_eqHeightLineS_L4 laws_eqHeightLineS_L4
theorem e_laws_eqHeightLineS_L4_ok : e_laws_eqHeightLineS_L4.ok Go.Proofs.Try.prog (codeAt (bodyOf Go.Proofs.Try.f20) 4) := by
  intro R ds k r h
  unfold e_laws_eqHeightLineS_L4 m_laws_eqHeightLineS_L4 at h
  obtain ⟨x0, d0, rfl, h0⟩ := dL_some h
  obtain ⟨x1, d1, rfl, h1⟩ := dL_some h0
  obtain ⟨x2, d2, rfl, h2⟩ := dI_some h1
  obtain ⟨rfl, hE⟩ := dE_some h2
  obtain ⟨y, hy, hk⟩ := bnd_some hE
  obtain ⟨n, hn⟩ := ev_some hy
  exact m_laws_eqHeightLineS_L4_ok n R _ k r (show (n_laws_eqHeightLineS_L4 n x0 x1 x2).bind _ = _ by rw [hn]; exact hk)

/-! loop.example/g00876/laws.eqHeightLineS -/
def c_laws_eqHeightLineS {R : Type} (x0 : List D) (x1 : List D) (k : Bool → Option R) : Option R :=
  bif !Decidable.decide ((↑x0.length : Int) = (↑x1.length : Int)) then
    k Bool.false
  else
    (laws_eqHeightLineS_L4 x0 x1 (0 : Int)).bind (Sum.elim (fun y0 =>
      k y0) (fun y1 =>
      k Bool.true))
theorem c_laws_eqHeightLineS_bind {R : Type} (x0 : List D) (x1 : List D) (k : Bool → Option R) : c_laws_eqHeightLineS x0 x1 k = (c_laws_eqHeightLineS x0 x1 some).bind k := by
  unfold c_laws_eqHeightLineS
  repeat' first
    | exact bnd_tail
    | exact bnd_none
    | exact bnd_leaf
    | apply bnd_ite
    | apply bnd_cond
    | apply bnd_sum
    | (apply bnd_bind; intro _)
    | intro _
def laws_eqHeightLineS (x0 : List D) (x1 : List D) : Option (Bool) := c_laws_eqHeightLineS x0 x1 some
def e_laws_eqHeightLineS : Ent := ⟨20, [.rd (.struct [.int .i64, .int .i64, .int .i64, .int .i64]), .rd (.struct [.int .i64, .int .i64, .int .i64, .int .i64])], .bool, [.undef, .undef], fun _ ds k => dL (fun x0 ds => dL (fun x1 ds => dE ((laws_eqHeightLineS x0 x1).bind (fun y => k [.B y])) ds) ds) ds⟩
theorem q_laws_eqHeightLineS (x0 : List D) (x1 : List D) : runFn (ocOf []) (olOf [e_laws_eqHeightLineS_L4]) A 20 Go.Proofs.Try.f20 (Sh.mks e_laws_eqHeightLineS.sh [.L x0, .L x1]).1 (fun v os => some (v, os)) = c_laws_eqHeightLineS x0 x1 (fun y => some ((e_laws_eqHeightLineS.res.mk [.B y]).1, (Sh.mks e_laws_eqHeightLineS.outs (e_laws_eqHeightLineS.res.mk [.B y]).2).1)) := by kernel_rfl
theorem e_laws_eqHeightLineS_ok : e_laws_eqHeightLineS.ok Go.Proofs.Try.prog A := by
  intro R ds k r h
  unfold e_laws_eqHeightLineS at h
  obtain ⟨x0, d0, rfl, h0⟩ := dL_some h
  obtain ⟨x1, d1, rfl, h1⟩ := dL_some h0
  obtain ⟨rfl, hE⟩ := dE_some h1
  obtain ⟨y, hy, hk⟩ := bnd_some hE
  refine ⟨_, hk, fn_ok px (fx := ⟨Go.Proofs.Try.func20, by kernel_rfl, by kernel_rfl⟩) entsOK_nil (lentsOK_cons e_laws_eqHeightLineS_L4_ok lentsOK_nil) ?_⟩
  have hq := q_laws_eqHeightLineS x0 x1
  rw [c_laws_eqHeightLineS_bind] at hq
  rw [show c_laws_eqHeightLineS x0 x1 some = some y from hy] at hq
  exact hq

/-! loop.example/g00876/laws.markHeightLineS, loop 2 -/
def c_laws_markHeightLineS_L2 {R : Type} (F : Int → Int → List D → Option (Int × List D)) (x0 : Int) (x1 : Int) (x2 : List D) (k : Int × List D → Option R) : Option R :=
  bif Decidable.decide (x1 < (↑x2.length : Int)) then
    if (0 : Int) ≤ x1 ∧ x1 < (↑x2.length : Int) then
      if x1.toNat + (1 : Nat) ≤ x2.length then
        if x1.toNat + (1 : Nat) ≤ x2.length then
          if (0 : Int) ≤ x1 ∧ x1 < (↑(x2.set x1.toNat (Go.Rai.D.node [Go.Rai.D.int x0, Go.Rai.D.int ((x2.getD x1.toNat (Go.Rai.D.int (0 : Int))).fld (1 : Nat)).toInt, Go.Rai.D.int ((x2.getD x1.toNat (Go.Rai.D.int (0 : Int))).fld (2 : Nat)).toInt, Go.Rai.D.int ((x2.getD x1.toNat (Go.Rai.D.int (0 : Int))).fld (3 : Nat)).toInt])).length : Int) then
            if x1.toNat + (1 : Nat) ≤ (x2.set x1.toNat (Go.Rai.D.node [Go.Rai.D.int x0, Go.Rai.D.int ((x2.getD x1.toNat (Go.Rai.D.int (0 : Int))).fld (1 : Nat)).toInt, Go.Rai.D.int ((x2.getD x1.toNat (Go.Rai.D.int (0 : Int))).fld (2 : Nat)).toInt, Go.Rai.D.int ((x2.getD x1.toNat (Go.Rai.D.int (0 : Int))).fld (3 : Nat)).toInt])).length then
              if x1.toNat + (1 : Nat) ≤ (x2.set x1.toNat (Go.Rai.D.node [Go.Rai.D.int x0, Go.Rai.D.int ((x2.getD x1.toNat (Go.Rai.D.int (0 : Int))).fld (1 : Nat)).toInt, Go.Rai.D.int ((x2.getD x1.toNat (Go.Rai.D.int (0 : Int))).fld (2 : Nat)).toInt, Go.Rai.D.int ((x2.getD x1.toNat (Go.Rai.D.int (0 : Int))).fld (3 : Nat)).toInt])).length then
                if (0 : Int) ≤ x1 ∧ x1 < (↑((x2.set x1.toNat (Go.Rai.D.node [Go.Rai.D.int x0, Go.Rai.D.int ((x2.getD x1.toNat (Go.Rai.D.int (0 : Int))).fld (1 : Nat)).toInt, Go.Rai.D.int ((x2.getD x1.toNat (Go.Rai.D.int (0 : Int))).fld (2 : Nat)).toInt, Go.Rai.D.int ((x2.getD x1.toNat (Go.Rai.D.int (0 : Int))).fld (3 : Nat)).toInt])).set x1.toNat (Go.Rai.D.node [Go.Rai.D.int (((x2.set x1.toNat (Go.Rai.D.node [Go.Rai.D.int x0, Go.Rai.D.int ((x2.getD x1.toNat (Go.Rai.D.int (0 : Int))).fld (1 : Nat)).toInt, Go.Rai.D.int ((x2.getD x1.toNat (Go.Rai.D.int (0 : Int))).fld (2 : Nat)).toInt, Go.Rai.D.int ((x2.getD x1.toNat (Go.Rai.D.int (0 : Int))).fld (3 : Nat)).toInt])).getD x1.toNat (Go.Rai.D.int (0 : Int))).fld (0 : Nat)).toInt, Go.Rai.D.int (Go.IntKind.i64.wrap (x0 + (1 : Int))), Go.Rai.D.int (((x2.set x1.toNat (Go.Rai.D.node [Go.Rai.D.int x0, Go.Rai.D.int ((x2.getD x1.toNat (Go.Rai.D.int (0 : Int))).fld (1 : Nat)).toInt, Go.Rai.D.int ((x2.getD x1.toNat (Go.Rai.D.int (0 : Int))).fld (2 : Nat)).toInt, Go.Rai.D.int ((x2.getD x1.toNat (Go.Rai.D.int (0 : Int))).fld (3 : Nat)).toInt])).getD x1.toNat (Go.Rai.D.int (0 : Int))).fld (2 : Nat)).toInt, Go.Rai.D.int (((x2.set x1.toNat (Go.Rai.D.node [Go.Rai.D.int x0, Go.Rai.D.int ((x2.getD x1.toNat (Go.Rai.D.int (0 : Int))).fld (1 : Nat)).toInt, Go.Rai.D.int ((x2.getD x1.toNat (Go.Rai.D.int (0 : Int))).fld (2 : Nat)).toInt, Go.Rai.D.int ((x2.getD x1.toNat (Go.Rai.D.int (0 : Int))).fld (3 : Nat)).toInt])).getD x1.toNat (Go.Rai.D.int (0 : Int))).fld (3 : Nat)).toInt])).length : Int) then
                  if x1.toNat + (1 : Nat) ≤ ((x2.set x1.toNat (Go.Rai.D.node [Go.Rai.D.int x0, Go.Rai.D.int ((x2.getD x1.toNat (Go.Rai.D.int (0 : Int))).fld (1 : Nat)).toInt, Go.Rai.D.int ((x2.getD x1.toNat (Go.Rai.D.int (0 : Int))).fld (2 : Nat)).toInt, Go.Rai.D.int ((x2.getD x1.toNat (Go.Rai.D.int (0 : Int))).fld (3 : Nat)).toInt])).set x1.toNat (Go.Rai.D.node [Go.Rai.D.int (((x2.set x1.toNat (Go.Rai.D.node [Go.Rai.D.int x0, Go.Rai.D.int ((x2.getD x1.toNat (Go.Rai.D.int (0 : Int))).fld (1 : Nat)).toInt, Go.Rai.D.int ((x2.getD x1.toNat (Go.Rai.D.int (0 : Int))).fld (2 : Nat)).toInt, Go.Rai.D.int ((x2.getD x1.toNat (Go.Rai.D.int (0 : Int))).fld (3 : Nat)).toInt])).getD x1.toNat (Go.Rai.D.int (0 : Int))).fld (0 : Nat)).toInt, Go.Rai.D.int (Go.IntKind.i64.wrap (x0 + (1 : Int))), Go.Rai.D.int (((x2.set x1.toNat (Go.Rai.D.node [Go.Rai.D.int x0, Go.Rai.D.int ((x2.getD x1.toNat (Go.Rai.D.int (0 : Int))).fld (1 : Nat)).toInt, Go.Rai.D.int ((x2.getD x1.toNat (Go.Rai.D.int (0 : Int))).fld (2 : Nat)).toInt, Go.Rai.D.int ((x2.getD x1.toNat (Go.Rai.D.int (0 : Int))).fld (3 : Nat)).toInt])).getD x1.toNat (Go.Rai.D.int (0 : Int))).fld (2 : Nat)).toInt, Go.Rai.D.int (((x2.set x1.toNat (Go.Rai.D.node [Go.Rai.D.int x0, Go.Rai.D.int ((x2.getD x1.toNat (Go.Rai.D.int (0 : Int))).fld (1 : Nat)).toInt, Go.Rai.D.int ((x2.getD x1.toNat (Go.Rai.D.int (0 : Int))).fld (2 : Nat)).toInt, Go.Rai.D.int ((x2.getD x1.toNat (Go.Rai.D.int (0 : Int))).fld (3 : Nat)).toInt])).getD x1.toNat (Go.Rai.D.int (0 : Int))).fld (3 : Nat)).toInt])).length then
                    if x1.toNat + (1 : Nat) ≤ ((x2.set x1.toNat (Go.Rai.D.node [Go.Rai.D.int x0, Go.Rai.D.int ((x2.getD x1.toNat (Go.Rai.D.int (0 : Int))).fld (1 : Nat)).toInt, Go.Rai.D.int ((x2.getD x1.toNat (Go.Rai.D.int (0 : Int))).fld (2 : Nat)).toInt, Go.Rai.D.int ((x2.getD x1.toNat (Go.Rai.D.int (0 : Int))).fld (3 : Nat)).toInt])).set x1.toNat (Go.Rai.D.node [Go.Rai.D.int (((x2.set x1.toNat (Go.Rai.D.node [Go.Rai.D.int x0, Go.Rai.D.int ((x2.getD x1.toNat (Go.Rai.D.int (0 : Int))).fld (1 : Nat)).toInt, Go.Rai.D.int ((x2.getD x1.toNat (Go.Rai.D.int (0 : Int))).fld (2 : Nat)).toInt, Go.Rai.D.int ((x2.getD x1.toNat (Go.Rai.D.int (0 : Int))).fld (3 : Nat)).toInt])).getD x1.toNat (Go.Rai.D.int (0 : Int))).fld (0 : Nat)).toInt, Go.Rai.D.int (Go.IntKind.i64.wrap (x0 + (1 : Int))), Go.Rai.D.int (((x2.set x1.toNat (Go.Rai.D.node [Go.Rai.D.int x0, Go.Rai.D.int ((x2.getD x1.toNat (Go.Rai.D.int (0 : Int))).fld (1 : Nat)).toInt, Go.Rai.D.int ((x2.getD x1.toNat (Go.Rai.D.int (0 : Int))).fld (2 : Nat)).toInt, Go.Rai.D.int ((x2.getD x1.toNat (Go.Rai.D.int (0 : Int))).fld (3 : Nat)).toInt])).getD x1.toNat (Go.Rai.D.int (0 : Int))).fld (2 : Nat)).toInt, Go.Rai.D.int (((x2.set x1.toNat (Go.Rai.D.node [Go.Rai.D.int x0, Go.Rai.D.int ((x2.getD x1.toNat (Go.Rai.D.int (0 : Int))).fld (1 : Nat)).toInt, Go.Rai.D.int ((x2.getD x1.toNat (Go.Rai.D.int (0 : Int))).fld (2 : Nat)).toInt, Go.Rai.D.int ((x2.getD x1.toNat (Go.Rai.D.int (0 : Int))).fld (3 : Nat)).toInt])).getD x1.toNat (Go.Rai.D.int (0 : Int))).fld (3 : Nat)).toInt])).length then
                      if (0 : Int) ≤ x1 ∧ x1 < (↑(((x2.set x1.toNat (Go.Rai.D.node [Go.Rai.D.int x0, Go.Rai.D.int ((x2.getD x1.toNat (Go.Rai.D.int (0 : Int))).fld (1 : Nat)).toInt, Go.Rai.D.int ((x2.getD x1.toNat (Go.Rai.D.int (0 : Int))).fld (2 : Nat)).toInt, Go.Rai.D.int ((x2.getD x1.toNat (Go.Rai.D.int (0 : Int))).fld (3 : Nat)).toInt])).set x1.toNat (Go.Rai.D.node [Go.Rai.D.int (((x2.set x1.toNat (Go.Rai.D.node [Go.Rai.D.int x0, Go.Rai.D.int ((x2.getD x1.toNat (Go.Rai.D.int (0 : Int))).fld (1 : Nat)).toInt, Go.Rai.D.int ((x2.getD x1.toNat (Go.Rai.D.int (0 : Int))).fld (2 : Nat)).toInt, Go.Rai.D.int ((x2.getD x1.toNat (Go.Rai.D.int (0 : Int))).fld (3 : Nat)).toInt])).getD x1.toNat (Go.Rai.D.int (0 : Int))).fld (0 : Nat)).toInt, Go.Rai.D.int (Go.IntKind.i64.wrap (x0 + (1 : Int))), Go.Rai.D.int (((x2.set x1.toNat (Go.Rai.D.node [Go.Rai.D.int x0, Go.Rai.D.int ((x2.getD x1.toNat (Go.Rai.D.int (0 : Int))).fld (1 : Nat)).toInt, Go.Rai.D.int ((x2.getD x1.toNat (Go.Rai.D.int (0 : Int))).fld (2 : Nat)).toInt, Go.Rai.D.int ((x2.getD x1.toNat (Go.Rai.D.int (0 : Int))).fld (3 : Nat)).toInt])).getD x1.toNat (Go.Rai.D.int (0 : Int))).fld (2 : Nat)).toInt, Go.Rai.D.int (((x2.set x1.toNat (Go.Rai.D.node [Go.Rai.D.int x0, Go.Rai.D.int ((x2.getD x1.toNat (Go.Rai.D.int (0 : Int))).fld (1 : Nat)).toInt, Go.Rai.D.int ((x2.getD x1.toNat (Go.Rai.D.int (0 : Int))).fld (2 : Nat)).toInt, Go.Rai.D.int ((x2.getD x1.toNat (Go.Rai.D.int (0 : Int))).fld (3 : Nat)).toInt])).getD x1.toNat (Go.Rai.D.int (0 : Int))).fld (3 : Nat)).toInt])).set x1.toNat (Go.Rai.D.node [Go.Rai.D.int ((((x2.set x1.toNat (Go.Rai.D.node [Go.Rai.D.int x0, Go.Rai.D.int ((x2.getD x1.toNat (Go.Rai.D.int (0 : Int))).fld (1 : Nat)).toInt, Go.Rai.D.int ((x2.getD x1.toNat (Go.Rai.D.int (0 : Int))).fld (2 : Nat)).toInt, Go.Rai.D.int ((x2.getD x1.toNat (Go.Rai.D.int (0 : Int))).fld (3 : Nat)).toInt])).set x1.toNat (Go.Rai.D.node [Go.Rai.D.int (((x2.set x1.toNat (Go.Rai.D.node [Go.Rai.D.int x0, Go.Rai.D.int ((x2.getD x1.toNat (Go.Rai.D.int (0 : Int))).fld (1 : Nat)).toInt, Go.Rai.D.int ((x2.getD x1.toNat (Go.Rai.D.int (0 : Int))).fld (2 : Nat)).toInt, Go.Rai.D.int ((x2.getD x1.toNat (Go.Rai.D.int (0 : Int))).fld (3 : Nat)).toInt])).getD x1.toNat (Go.Rai.D.int (0 : Int))).fld (0 : Nat)).toInt, Go.Rai.D.int (Go.IntKind.i64.wrap (x0 + (1 : Int))), Go.Rai.D.int (((x2.set x1.toNat (Go.Rai.D.node [Go.Rai.D.int x0, Go.Rai.D.int ((x2.getD x1.toNat (Go.Rai.D.int (0 : Int))).fld (1 : Nat)).toInt, Go.Rai.D.int ((x2.getD x1.toNat (Go.Rai.D.int (0 : Int))).fld (2 : Nat)).toInt, Go.Rai.D.int ((x2.getD x1.toNat (Go.Rai.D.int (0 : Int))).fld (3 : Nat)).toInt])).getD x1.toNat (Go.Rai.D.int (0 : Int))).fld (2 : Nat)).toInt, Go.Rai.D.int (((x2.set x1.toNat (Go.Rai.D.node [Go.Rai.D.int x0, Go.Rai.D.int ((x2.getD x1.toNat (Go.Rai.D.int (0 : Int))).fld (1 : Nat)).toInt, Go.Rai.D.int ((x2.getD x1.toNat (Go.Rai.D.int (0 : Int))).fld (2 : Nat)).toInt, Go.Rai.D.int ((x2.getD x1.toNat (Go.Rai.D.int (0 : Int))).fld (3 : Nat)).toInt])).getD x1.toNat (Go.Rai.D.int (0 : Int))).fld (3 : Nat)).toInt])).getD x1.toNat (Go.Rai.D.int (0 : Int))).fld (0 : Nat)).toInt, Go.Rai.D.int ((((x2.set x1.toNat (Go.Rai.D.node [Go.Rai.D.int x0, Go.Rai.D.int ((x2.getD x1.toNat (Go.Rai.D.int (0 : Int))).fld (1 : Nat)).toInt, Go.Rai.D.int ((x2.getD x1.toNat (Go.Rai.D.int (0 : Int))).fld (2 : Nat)).toInt, Go.Rai.D.int ((x2.getD x1.toNat (Go.Rai.D.int (0 : Int))).fld (3 : Nat)).toInt])).set x1.toNat (Go.Rai.D.node [Go.Rai.D.int (((x2.set x1.toNat (Go.Rai.D.node [Go.Rai.D.int x0, Go.Rai.D.int ((x2.getD x1.toNat (Go.Rai.D.int (0 : Int))).fld (1 : Nat)).toInt, Go.Rai.D.int ((x2.getD x1.toNat (Go.Rai.D.int (0 : Int))).fld (2 : Nat)).toInt, Go.Rai.D.int ((x2.getD x1.toNat (Go.Rai.D.int (0 : Int))).fld (3 : Nat)).toInt])).getD x1.toNat (Go.Rai.D.int (0 : Int))).fld (0 : Nat)).toInt, Go.Rai.D.int (Go.IntKind.i64.wrap (x0 + (1 : Int))), Go.Rai.D.int (((x2.set x1.toNat (Go.Rai.D.node [Go.Rai.D.int x0, Go.Rai.D.int ((x2.getD x1.toNat (Go.Rai.D.int (0 : Int))).fld (1 : Nat)).toInt, Go.Rai.D.int ((x2.getD x1.toNat (Go.Rai.D.int (0 : Int))).fld (2 : Nat)).toInt, Go.Rai.D.int ((x2.getD x1.toNat (Go.Rai.D.int (0 : Int))).fld (3 : Nat)).toInt])).getD x1.toNat (Go.Rai.D.int (0 : Int))).fld (2 : Nat)).toInt, Go.Rai.D.int (((x2.set x1.toNat (Go.Rai.D.node [Go.Rai.D.int x0, Go.Rai.D.int ((x2.getD x1.toNat (Go.Rai.D.int (0 : Int))).fld (1 : Nat)).toInt, Go.Rai.D.int ((x2.getD x1.toNat (Go.Rai.D.int (0 : Int))).fld (2 : Nat)).toInt, Go.Rai.D.int ((x2.getD x1.toNat (Go.Rai.D.int (0 : Int))).fld (3 : Nat)).toInt])).getD x1.toNat (Go.Rai.D.int (0 : Int))).fld (3 : Nat)).toInt])).getD x1.toNat (Go.Rai.D.int (0 : Int))).fld (1 : Nat)).toInt, Go.Rai.D.int (Go.IntKind.i64.wrap (Go.IntKind.i64.wrap (x0 + (1 : Int)) + (1 : Int))), Go.Rai.D.int ((((x2.set x1.toNat (Go.Rai.D.node [Go.Rai.D.int x0, Go.Rai.D.int ((x2.getD x1.toNat (Go.Rai.D.int (0 : Int))).fld (1 : Nat)).toInt, Go.Rai.D.int ((x2.getD x1.toNat (Go.Rai.D.int (0 : Int))).fld (2 : Nat)).toInt, Go.Rai.D.int ((x2.getD x1.toNat (Go.Rai.D.int (0 : Int))).fld (3 : Nat)).toInt])).set x1.toNat (Go.Rai.D.node [Go.Rai.D.int (((x2.set x1.toNat (Go.Rai.D.node [Go.Rai.D.int x0, Go.Rai.D.int ((x2.getD x1.toNat (Go.Rai.D.int (0 : Int))).fld (1 : Nat)).toInt, Go.Rai.D.int ((x2.getD x1.toNat (Go.Rai.D.int (0 : Int))).fld (2 : Nat)).toInt, Go.Rai.D.int ((x2.getD x1.toNat (Go.Rai.D.int (0 : Int))).fld (3 : Nat)).toInt])).getD x1.toNat (Go.Rai.D.int (0 : Int))).fld (0 : Nat)).toInt, Go.Rai.D.int (Go.IntKind.i64.wrap (x0 + (1 : Int))), Go.Rai.D.int (((x2.set x1.toNat (Go.Rai.D.node [Go.Rai.D.int x0, Go.Rai.D.int ((x2.getD x1.toNat (Go.Rai.D.int (0 : Int))).fld (1 : Nat)).toInt, Go.Rai.D.int ((x2.getD x1.toNat (Go.Rai.D.int (0 : Int))).fld (2 : Nat)).toInt, Go.Rai.D.int ((x2.getD x1.toNat (Go.Rai.D.int (0 : Int))).fld (3 : Nat)).toInt])).getD x1.toNat (Go.Rai.D.int (0 : Int))).fld (2 : Nat)).toInt, Go.Rai.D.int (((x2.set x1.toNat (Go.Rai.D.node [Go.Rai.D.int x0, Go.Rai.D.int ((x2.getD x1.toNat (Go.Rai.D.int (0 : Int))).fld (1 : Nat)).toInt, Go.Rai.D.int ((x2.getD x1.toNat (Go.Rai.D.int (0 : Int))).fld (2 : Nat)).toInt, Go.Rai.D.int ((x2.getD x1.toNat (Go.Rai.D.int (0 : Int))).fld (3 : Nat)).toInt])).getD x1.toNat (Go.Rai.D.int (0 : Int))).fld (3 : Nat)).toInt])).getD x1.toNat (Go.Rai.D.int (0 : Int))).fld (3 : Nat)).toInt])).length : Int) then
                        if x1.toNat + (1 : Nat) ≤ (((x2.set x1.toNat (Go.Rai.D.node [Go.Rai.D.int x0, Go.Rai.D.int ((x2.getD x1.toNat (Go.Rai.D.int (0 : Int))).fld (1 : Nat)).toInt, Go.Rai.D.int ((x2.getD x1.toNat (Go.Rai.D.int (0 : Int))).fld (2 : Nat)).toInt, Go.Rai.D.int ((x2.getD x1.toNat (Go.Rai.D.int (0 : Int))).fld (3 : Nat)).toInt])).set x1.toNat (Go.Rai.D.node [Go.Rai.D.int (((x2.set x1.toNat (Go.Rai.D.node [Go.Rai.D.int x0, Go.Rai.D.int ((x2.getD x1.toNat (Go.Rai.D.int (0 : Int))).fld (1 : Nat)).toInt, Go.Rai.D.int ((x2.getD x1.toNat (Go.Rai.D.int (0 : Int))).fld (2 : Nat)).toInt, Go.Rai.D.int ((x2.getD x1.toNat (Go.Rai.D.int (0 : Int))).fld (3 : Nat)).toInt])).getD x1.toNat (Go.Rai.D.int (0 : Int))).fld (0 : Nat)).toInt, Go.Rai.D.int (Go.IntKind.i64.wrap (x0 + (1 : Int))), Go.Rai.D.int (((x2.set x1.toNat (Go.Rai.D.node [Go.Rai.D.int x0, Go.Rai.D.int ((x2.getD x1.toNat (Go.Rai.D.int (0 : Int))).fld (1 : Nat)).toInt, Go.Rai.D.int ((x2.getD x1.toNat (Go.Rai.D.int (0 : Int))).fld (2 : Nat)).toInt, Go.Rai.D.int ((x2.getD x1.toNat (Go.Rai.D.int (0 : Int))).fld (3 : Nat)).toInt])).getD x1.toNat (Go.Rai.D.int (0 : Int))).fld (2 : Nat)).toInt, Go.Rai.D.int (((x2.set x1.toNat (Go.Rai.D.node [Go.Rai.D.int x0, Go.Rai.D.int ((x2.getD x1.toNat (Go.Rai.D.int (0 : Int))).fld (1 : Nat)).toInt, Go.Rai.D.int ((x2.getD x1.toNat (Go.Rai.D.int (0 : Int))).fld (2 : Nat)).toInt, Go.Rai.D.int ((x2.getD x1.toNat (Go.Rai.D.int (0 : Int))).fld (3 : Nat)).toInt])).getD x1.toNat (Go.Rai.D.int (0 : Int))).fld (3 : Nat)).toInt])).set x1.toNat (Go.Rai.D.node [Go.Rai.D.int ((((x2.set x1.toNat (Go.Rai.D.node [Go.Rai.D.int x0, Go.Rai.D.int ((x2.getD x1.toNat (Go.Rai.D.int (0 : Int))).fld (1 : Nat)).toInt, Go.Rai.D.int ((x2.getD x1.toNat (Go.Rai.D.int (0 : Int))).fld (2 : Nat)).toInt, Go.Rai.D.int ((x2.getD x1.toNat (Go.Rai.D.int (0 : Int))).fld (3 : Nat)).toInt])).set x1.toNat (Go.Rai.D.node [Go.Rai.D.int (((x2.set x1.toNat (Go.Rai.D.node [Go.Rai.D.int x0, Go.Rai.D.int ((x2.getD x1.toNat (Go.Rai.D.int (0 : Int))).fld (1 : Nat)).toInt, Go.Rai.D.int ((x2.getD x1.toNat (Go.Rai.D.int (0 : Int))).fld (2 : Nat)).toInt, Go.Rai.D.int ((x2.getD x1.toNat (Go.Rai.D.int (0 : Int))).fld (3 : Nat)).toInt])).getD x1.toNat (Go.Rai.D.int (0 : Int))).fld (0 : Nat)).toInt, Go.Rai.D.int (Go.IntKind.i64.wrap (x0 + (1 : Int))), Go.Rai.D.int (((x2.set x1.toNat (Go.Rai.D.node [Go.Rai.D.int x0, Go.Rai.D.int ((x2.getD x1.toNat (Go.Rai.D.int (0 : Int))).fld (1 : Nat)).toInt, Go.Rai.D.int ((x2.getD x1.toNat (Go.Rai.D.int (0 : Int))).fld (2 : Nat)).toInt, Go.Rai.D.int ((x2.getD x1.toNat (Go.Rai.D.int (0 : Int))).fld (3 : Nat)).toInt])).getD x1.toNat (Go.Rai.D.int (0 : Int))).fld (2 : Nat)).toInt, Go.Rai.D.int (((x2.set x1.toNat (Go.Rai.D.node [Go.Rai.D.int x0, Go.Rai.D.int ((x2.getD x1.toNat (Go.Rai.D.int (0 : Int))).fld (1 : Nat)).toInt, Go.Rai.D.int ((x2.getD x1.toNat (Go.Rai.D.int (0 : Int))).fld (2 : Nat)).toInt, Go.Rai.D.int ((x2.getD x1.toNat (Go.Rai.D.int (0 : Int))).fld (3 : Nat)).toInt])).getD x1.toNat (Go.Rai.D.int (0 : Int))).fld (3 : Nat)).toInt])).getD x1.toNat (Go.Rai.D.int (0 : Int))).fld (0 : Nat)).toInt, Go.Rai.D.int ((((x2.set x1.toNat (Go.Rai.D.node [Go.Rai.D.int x0, Go.Rai.D.int ((x2.getD x1.toNat (Go.Rai.D.int (0 : Int))).fld (1 : Nat)).toInt, Go.Rai.D.int ((x2.getD x1.toNat (Go.Rai.D.int (0 : Int))).fld (2 : Nat)).toInt, Go.Rai.D.int ((x2.getD x1.toNat (Go.Rai.D.int (0 : Int))).fld (3 : Nat)).toInt])).set x1.toNat (Go.Rai.D.node [Go.Rai.D.int (((x2.set x1.toNat (Go.Rai.D.node [Go.Rai.D.int x0, Go.Rai.D.int ((x2.getD x1.toNat (Go.Rai.D.int (0 : Int))).fld (1 : Nat)).toInt, Go.Rai.D.int ((x2.getD x1.toNat (Go.Rai.D.int (0 : Int))).fld (2 : Nat)).toInt, Go.Rai.D.int ((x2.getD x1.toNat (Go.Rai.D.int (0 : Int))).fld (3 : Nat)).toInt])).getD x1.toNat (Go.Rai.D.int (0 : Int))).fld (0 : Nat)).toInt, Go.Rai.D.int (Go.IntKind.i64.wrap (x0 + (1 : Int))), Go.Rai.D.int (((x2.set x1.toNat (Go.Rai.D.node [Go.Rai.D.int x0, Go.Rai.D.int ((x2.getD x1.toNat (Go.Rai.D.int (0 : Int))).fld (1 : Nat)).toInt, Go.Rai.D.int ((x2.getD x1.toNat (Go.Rai.D.int (0 : Int))).fld (2 : Nat)).toInt, Go.Rai.D.int ((x2.getD x1.toNat (Go.Rai.D.int (0 : Int))).fld (3 : Nat)).toInt])).getD x1.toNat (Go.Rai.D.int (0 : Int))).fld (2 : Nat)).toInt, Go.Rai.D.int (((x2.set x1.toNat (Go.Rai.D.node [Go.Rai.D.int x0, Go.Rai.D.int ((x2.getD x1.toNat (Go.Rai.D.int (0 : Int))).fld (1 : Nat)).toInt, Go.Rai.D.int ((x2.getD x1.toNat (Go.Rai.D.int (0 : Int))).fld (2 : Nat)).toInt, Go.Rai.D.int ((x2.getD x1.toNat (Go.Rai.D.int (0 : Int))).fld (3 : Nat)).toInt])).getD x1.toNat (Go.Rai.D.int (0 : Int))).fld (3 : Nat)).toInt])).getD x1.toNat (Go.Rai.D.int (0 : Int))).fld (1 : Nat)).toInt, Go.Rai.D.int (Go.IntKind.i64.wrap (Go.IntKind.i64.wrap (x0 + (1 : Int)) + (1 : Int))), Go.Rai.D.int ((((x2.set x1.toNat (Go.Rai.D.node [Go.Rai.D.int x0, Go.Rai.D.int ((x2.getD x1.toNat (Go.Rai.D.int (0 : Int))).fld (1 : Nat)).toInt, Go.Rai.D.int ((x2.getD x1.toNat (Go.Rai.D.int (0 : Int))).fld (2 : Nat)).toInt, Go.Rai.D.int ((x2.getD x1.toNat (Go.Rai.D.int (0 : Int))).fld (3 : Nat)).toInt])).set x1.toNat (Go.Rai.D.node [Go.Rai.D.int (((x2.set x1.toNat (Go.Rai.D.node [Go.Rai.D.int x0, Go.Rai.D.int ((x2.getD x1.toNat (Go.Rai.D.int (0 : Int))).fld (1 : Nat)).toInt, Go.Rai.D.int ((x2.getD x1.toNat (Go.Rai.D.int (0 : Int))).fld (2 : Nat)).toInt, Go.Rai.D.int ((x2.getD x1.toNat (Go.Rai.D.int (0 : Int))).fld (3 : Nat)).toInt])).getD x1.toNat (Go.Rai.D.int (0 : Int))).fld (0 : Nat)).toInt, Go.Rai.D.int (Go.IntKind.i64.wrap (x0 + (1 : Int))), Go.Rai.D.int (((x2.set x1.toNat (Go.Rai.D.node [Go.Rai.D.int x0, Go.Rai.D.int ((x2.getD x1.toNat (Go.Rai.D.int (0 : Int))).fld (1 : Nat)).toInt, Go.Rai.D.int ((x2.getD x1.toNat (Go.Rai.D.int (0 : Int))).fld (2 : Nat)).toInt, Go.Rai.D.int ((x2.getD x1.toNat (Go.Rai.D.int (0 : Int))).fld (3 : Nat)).toInt])).getD x1.toNat (Go.Rai.D.int (0 : Int))).fld (2 : Nat)).toInt, Go.Rai.D.int (((x2.set x1.toNat (Go.Rai.D.node [Go.Rai.D.int x0, Go.Rai.D.int ((x2.getD x1.toNat (Go.Rai.D.int (0 : Int))).fld (1 : Nat)).toInt, Go.Rai.D.int ((x2.getD x1.toNat (Go.Rai.D.int (0 : Int))).fld (2 : Nat)).toInt, Go.Rai.D.int ((x2.getD x1.toNat (Go.Rai.D.int (0 : Int))).fld (3 : Nat)).toInt])).getD x1.toNat (Go.Rai.D.int (0 : Int))).fld (3 : Nat)).toInt])).getD x1.toNat (Go.Rai.D.int (0 : Int))).fld (3 : Nat)).toInt])).length then
                          if x1.toNat + (1 : Nat) ≤ (((x2.set x1.toNat (Go.Rai.D.node [Go.Rai.D.int x0, Go.Rai.D.int ((x2.getD x1.toNat (Go.Rai.D.int (0 : Int))).fld (1 : Nat)).toInt, Go.Rai.D.int ((x2.getD x1.toNat (Go.Rai.D.int (0 : Int))).fld (2 : Nat)).toInt, Go.Rai.D.int ((x2.getD x1.toNat (Go.Rai.D.int (0 : Int))).fld (3 : Nat)).toInt])).set x1.toNat (Go.Rai.D.node [Go.Rai.D.int (((x2.set x1.toNat (Go.Rai.D.node [Go.Rai.D.int x0, Go.Rai.D.int ((x2.getD x1.toNat (Go.Rai.D.int (0 : Int))).fld (1 : Nat)).toInt, Go.Rai.D.int ((x2.getD x1.toNat (Go.Rai.D.int (0 : Int))).fld (2 : Nat)).toInt, Go.Rai.D.int ((x2.getD x1.toNat (Go.Rai.D.int (0 : Int))).fld (3 : Nat)).toInt])).getD x1.toNat (Go.Rai.D.int (0 : Int))).fld (0 : Nat)).toInt, Go.Rai.D.int (Go.IntKind.i64.wrap (x0 + (1 : Int))), Go.Rai.D.int (((x2.set x1.toNat (Go.Rai.D.node [Go.Rai.D.int x0, Go.Rai.D.int ((x2.getD x1.toNat (Go.Rai.D.int (0 : Int))).fld (1 : Nat)).toInt, Go.Rai.D.int ((x2.getD x1.toNat (Go.Rai.D.int (0 : Int))).fld (2 : Nat)).toInt, Go.Rai.D.int ((x2.getD x1.toNat (Go.Rai.D.int (0 : Int))).fld (3 : Nat)).toInt])).getD x1.toNat (Go.Rai.D.int (0 : Int))).fld (2 : Nat)).toInt, Go.Rai.D.int (((x2.set x1.toNat (Go.Rai.D.node [Go.Rai.D.int x0, Go.Rai.D.int ((x2.getD x1.toNat (Go.Rai.D.int (0 : Int))).fld (1 : Nat)).toInt, Go.Rai.D.int ((x2.getD x1.toNat (Go.Rai.D.int (0 : Int))).fld (2 : Nat)).toInt, Go.Rai.D.int ((x2.getD x1.toNat (Go.Rai.D.int (0 : Int))).fld (3 : Nat)).toInt])).getD x1.toNat (Go.Rai.D.int (0 : Int))).fld (3 : Nat)).toInt])).set x1.toNat (Go.Rai.D.node [Go.Rai.D.int ((((x2.set x1.toNat (Go.Rai.D.node [Go.Rai.D.int x0, Go.Rai.D.int ((x2.getD x1.toNat (Go.Rai.D.int (0 : Int))).fld (1 : Nat)).toInt, Go.Rai.D.int ((x2.getD x1.toNat (Go.Rai.D.int (0 : Int))).fld (2 : Nat)).toInt, Go.Rai.D.int ((x2.getD x1.toNat (Go.Rai.D.int (0 : Int))).fld (3 : Nat)).toInt])).set x1.toNat (Go.Rai.D.node [Go.Rai.D.int (((x2.set x1.toNat (Go.Rai.D.node [Go.Rai.D.int x0, Go.Rai.D.int ((x2.getD x1.toNat (Go.Rai.D.int (0 : Int))).fld (1 : Nat)).toInt, Go.Rai.D.int ((x2.getD x1.toNat (Go.Rai.D.int (0 : Int))).fld (2 : Nat)).toInt, Go.Rai.D.int ((x2.getD x1.toNat (Go.Rai.D.int (0 : Int))).fld (3 : Nat)).toInt])).getD x1.toNat (Go.Rai.D.int (0 : Int))).fld (0 : Nat)).toInt, Go.Rai.D.int (Go.IntKind.i64.wrap (x0 + (1 : Int))), Go.Rai.D.int (((x2.set x1.toNat (Go.Rai.D.node [Go.Rai.D.int x0, Go.Rai.D.int ((x2.getD x1.toNat (Go.Rai.D.int (0 : Int))).fld (1 : Nat)).toInt, Go.Rai.D.int ((x2.getD x1.toNat (Go.Rai.D.int (0 : Int))).fld (2 : Nat)).toInt, Go.Rai.D.int ((x2.getD x1.toNat (Go.Rai.D.int (0 : Int))).fld (3 : Nat)).toInt])).getD x1.toNat (Go.Rai.D.int (0 : Int))).fld (2 : Nat)).toInt, Go.Rai.D.int (((x2.set x1.toNat (Go.Rai.D.node [Go.Rai.D.int x0, Go.Rai.D.int ((x2.getD x1.toNat (Go.Rai.D.int (0 : Int))).fld (1 : Nat)).toInt, Go.Rai.D.int ((x2.getD x1.toNat (Go.Rai.D.int (0 : Int))).fld (2 : Nat)).toInt, Go.Rai.D.int ((x2.getD x1.toNat (Go.Rai.D.int (0 : Int))).fld (3 : Nat)).toInt])).getD x1.toNat (Go.Rai.D.int (0 : Int))).fld (3 : Nat)).toInt])).getD x1.toNat (Go.Rai.D.int (0 : Int))).fld (0 : Nat)).toInt, Go.Rai.D.int ((((x2.set x1.toNat (Go.Rai.D.node [Go.Rai.D.int x0, Go.Rai.D.int ((x2.getD x1.toNat (Go.Rai.D.int (0 : Int))).fld (1 : Nat)).toInt, Go.Rai.D.int ((x2.getD x1.toNat (Go.Rai.D.int (0 : Int))).fld (2 : Nat)).toInt, Go.Rai.D.int ((x2.getD x1.toNat (Go.Rai.D.int (0 : Int))).fld (3 : Nat)).toInt])).set x1.toNat (Go.Rai.D.node [Go.Rai.D.int (((x2.set x1.toNat (Go.Rai.D.node [Go.Rai.D.int x0, Go.Rai.D.int ((x2.getD x1.toNat (Go.Rai.D.int (0 : Int))).fld (1 : Nat)).toInt, Go.Rai.D.int ((x2.getD x1.toNat (Go.Rai.D.int (0 : Int))).fld (2 : Nat)).toInt, Go.Rai.D.int ((x2.getD x1.toNat (Go.Rai.D.int (0 : Int))).fld (3 : Nat)).toInt])).getD x1.toNat (Go.Rai.D.int (0 : Int))).fld (0 : Nat)).toInt, Go.Rai.D.int (Go.IntKind.i64.wrap (x0 + (1 : Int))), Go.Rai.D.int (((x2.set x1.toNat (Go.Rai.D.node [Go.Rai.D.int x0, Go.Rai.D.int ((x2.getD x1.toNat (Go.Rai.D.int (0 : Int))).fld (1 : Nat)).toInt, Go.Rai.D.int ((x2.getD x1.toNat (Go.Rai.D.int (0 : Int))).fld (2 : Nat)).toInt, Go.Rai.D.int ((x2.getD x1.toNat (Go.Rai.D.int (0 : Int))).fld (3 : Nat)).toInt])).getD x1.toNat (Go.Rai.D.int (0 : Int))).fld (2 : Nat)).toInt, Go.Rai.D.int (((x2.set x1.toNat (Go.Rai.D.node [Go.Rai.D.int x0, Go.Rai.D.int ((x2.getD x1.toNat (Go.Rai.D.int (0 : Int))).fld (1 : Nat)).toInt, Go.Rai.D.int ((x2.getD x1.toNat (Go.Rai.D.int (0 : Int))).fld (2 : Nat)).toInt, Go.Rai.D.int ((x2.getD x1.toNat (Go.Rai.D.int (0 : Int))).fld (3 : Nat)).toInt])).getD x1.toNat (Go.Rai.D.int (0 : Int))).fld (3 : Nat)).toInt])).getD x1.toNat (Go.Rai.D.int (0 : Int))).fld (1 : Nat)).toInt, Go.Rai.D.int (Go.IntKind.i64.wrap (Go.IntKind.i64.wrap (x0 + (1 : Int)) + (1 : Int))), Go.Rai.D.int ((((x2.set x1.toNat (Go.Rai.D.node [Go.Rai.D.int x0, Go.Rai.D.int ((x2.getD x1.toNat (Go.Rai.D.int (0 : Int))).fld (1 : Nat)).toInt, Go.Rai.D.int ((x2.getD x1.toNat (Go.Rai.D.int (0 : Int))).fld (2 : Nat)).toInt, Go.Rai.D.int ((x2.getD x1.toNat (Go.Rai.D.int (0 : Int))).fld (3 : Nat)).toInt])).set x1.toNat (Go.Rai.D.node [Go.Rai.D.int (((x2.set x1.toNat (Go.Rai.D.node [Go.Rai.D.int x0, Go.Rai.D.int ((x2.getD x1.toNat (Go.Rai.D.int (0 : Int))).fld (1 : Nat)).toInt, Go.Rai.D.int ((x2.getD x1.toNat (Go.Rai.D.int (0 : Int))).fld (2 : Nat)).toInt, Go.Rai.D.int ((x2.getD x1.toNat (Go.Rai.D.int (0 : Int))).fld (3 : Nat)).toInt])).getD x1.toNat (Go.Rai.D.int (0 : Int))).fld (0 : Nat)).toInt, Go.Rai.D.int (Go.IntKind.i64.wrap (x0 + (1 : Int))), Go.Rai.D.int (((x2.set x1.toNat (Go.Rai.D.node [Go.Rai.D.int x0, Go.Rai.D.int ((x2.getD x1.toNat (Go.Rai.D.int (0 : Int))).fld (1 : Nat)).toInt, Go.Rai.D.int ((x2.getD x1.toNat (Go.Rai.D.int (0 : Int))).fld (2 : Nat)).toInt, Go.Rai.D.int ((x2.getD x1.toNat (Go.Rai.D.int (0 : Int))).fld (3 : Nat)).toInt])).getD x1.toNat (Go.Rai.D.int (0 : Int))).fld (2 : Nat)).toInt, Go.Rai.D.int (((x2.set x1.toNat (Go.Rai.D.node [Go.Rai.D.int x0, Go.Rai.D.int ((x2.getD x1.toNat (Go.Rai.D.int (0 : Int))).fld (1 : Nat)).toInt, Go.Rai.D.int ((x2.getD x1.toNat (Go.Rai.D.int (0 : Int))).fld (2 : Nat)).toInt, Go.Rai.D.int ((x2.getD x1.toNat (Go.Rai.D.int (0 : Int))).fld (3 : Nat)).toInt])).getD x1.toNat (Go.Rai.D.int (0 : Int))).fld (3 : Nat)).toInt])).getD x1.toNat (Go.Rai.D.int (0 : Int))).fld (3 : Nat)).toInt])).length then
                            (F (Go.IntKind.i64.wrap (Go.IntKind.i64.wrap (Go.IntKind.i64.wrap (Go.IntKind.i64.wrap (x0 + (1 : Int)) + (1 : Int)) + (1 : Int)) + (1 : Int))) (Go.IntKind.i64.wrap (x1 + (1 : Int))) ((((x2.set x1.toNat (Go.Rai.D.node [Go.Rai.D.int x0, Go.Rai.D.int ((x2.getD x1.toNat (Go.Rai.D.int (0 : Int))).fld (1 : Nat)).toInt, Go.Rai.D.int ((x2.getD x1.toNat (Go.Rai.D.int (0 : Int))).fld (2 : Nat)).toInt, Go.Rai.D.int ((x2.getD x1.toNat (Go.Rai.D.int (0 : Int))).fld (3 : Nat)).toInt])).set x1.toNat (Go.Rai.D.node [Go.Rai.D.int (((x2.set x1.toNat (Go.Rai.D.node [Go.Rai.D.int x0, Go.Rai.D.int ((x2.getD x1.toNat (Go.Rai.D.int (0 : Int))).fld (1 : Nat)).toInt, Go.Rai.D.int ((x2.getD x1.toNat (Go.Rai.D.int (0 : Int))).fld (2 : Nat)).toInt, Go.Rai.D.int ((x2.getD x1.toNat (Go.Rai.D.int (0 : Int))).fld (3 : Nat)).toInt])).getD x1.toNat (Go.Rai.D.int (0 : Int))).fld (0 : Nat)).toInt, Go.Rai.D.int (Go.IntKind.i64.wrap (x0 + (1 : Int))), Go.Rai.D.int (((x2.set x1.toNat (Go.Rai.D.node [Go.Rai.D.int x0, Go.Rai.D.int ((x2.getD x1.toNat (Go.Rai.D.int (0 : Int))).fld (1 : Nat)).toInt, Go.Rai.D.int ((x2.getD x1.toNat (Go.Rai.D.int (0 : Int))).fld (2 : Nat)).toInt, Go.Rai.D.int ((x2.getD x1.toNat (Go.Rai.D.int (0 : Int))).fld (3 : Nat)).toInt])).getD x1.toNat (Go.Rai.D.int (0 : Int))).fld (2 : Nat)).toInt, Go.Rai.D.int (((x2.set x1.toNat (Go.Rai.D.node [Go.Rai.D.int x0, Go.Rai.D.int ((x2.getD x1.toNat (Go.Rai.D.int (0 : Int))).fld (1 : Nat)).toInt, Go.Rai.D.int ((x2.getD x1.toNat (Go.Rai.D.int (0 : Int))).fld (2 : Nat)).toInt, Go.Rai.D.int ((x2.getD x1.toNat (Go.Rai.D.int (0 : Int))).fld (3 : Nat)).toInt])).getD x1.toNat (Go.Rai.D.int (0 : Int))).fld (3 : Nat)).toInt])).set x1.toNat (Go.Rai.D.node [Go.Rai.D.int ((((x2.set x1.toNat (Go.Rai.D.node [Go.Rai.D.int x0, Go.Rai.D.int ((x2.getD x1.toNat (Go.Rai.D.int (0 : Int))).fld (1 : Nat)).toInt, Go.Rai.D.int ((x2.getD x1.toNat (Go.Rai.D.int (0 : Int))).fld (2 : Nat)).toInt, Go.Rai.D.int ((x2.getD x1.toNat (Go.Rai.D.int (0 : Int))).fld (3 : Nat)).toInt])).set x1.toNat (Go.Rai.D.node [Go.Rai.D.int (((x2.set x1.toNat (Go.Rai.D.node [Go.Rai.D.int x0, Go.Rai.D.int ((x2.getD x1.toNat (Go.Rai.D.int (0 : Int))).fld (1 : Nat)).toInt, Go.Rai.D.int ((x2.getD x1.toNat (Go.Rai.D.int (0 : Int))).fld (2 : Nat)).toInt, Go.Rai.D.int ((x2.getD x1.toNat (Go.Rai.D.int (0 : Int))).fld (3 : Nat)).toInt])).getD x1.toNat (Go.Rai.D.int (0 : Int))).fld (0 : Nat)).toInt, Go.Rai.D.int (Go.IntKind.i64.wrap (x0 + (1 : Int))), Go.Rai.D.int (((x2.set x1.toNat (Go.Rai.D.node [Go.Rai.D.int x0, Go.Rai.D.int ((x2.getD x1.toNat (Go.Rai.D.int (0 : Int))).fld (1 : Nat)).toInt, Go.Rai.D.int ((x2.getD x1.toNat (Go.Rai.D.int (0 : Int))).fld (2 : Nat)).toInt, Go.Rai.D.int ((x2.getD x1.toNat (Go.Rai.D.int (0 : Int))).fld (3 : Nat)).toInt])).getD x1.toNat (Go.Rai.D.int (0 : Int))).fld (2 : Nat)).toInt, Go.Rai.D.int (((x2.set x1.toNat (Go.Rai.D.node [Go.Rai.D.int x0, Go.Rai.D.int ((x2.getD x1.toNat (Go.Rai.D.int (0 : Int))).fld (1 : Nat)).toInt, Go.Rai.D.int ((x2.getD x1.toNat (Go.Rai.D.int (0 : Int))).fld (2 : Nat)).toInt, Go.Rai.D.int ((x2.getD x1.toNat (Go.Rai.D.int (0 : Int))).fld (3 : Nat)).toInt])).getD x1.toNat (Go.Rai.D.int (0 : Int))).fld (3 : Nat)).toInt])).getD x1.toNat (Go.Rai.D.int (0 : Int))).fld (0 : Nat)).toInt, Go.Rai.D.int ((((x2.set x1.toNat (Go.Rai.D.node [Go.Rai.D.int x0, Go.Rai.D.int ((x2.getD x1.toNat (Go.Rai.D.int (0 : Int))).fld (1 : Nat)).toInt, Go.Rai.D.int ((x2.getD x1.toNat (Go.Rai.D.int (0 : Int))).fld (2 : Nat)).toInt, Go.Rai.D.int ((x2.getD x1.toNat (Go.Rai.D.int (0 : Int))).fld (3 : Nat)).toInt])).set x1.toNat (Go.Rai.D.node [Go.Rai.D.int (((x2.set x1.toNat (Go.Rai.D.node [Go.Rai.D.int x0, Go.Rai.D.int ((x2.getD x1.toNat (Go.Rai.D.int (0 : Int))).fld (1 : Nat)).toInt, Go.Rai.D.int ((x2.getD x1.toNat (Go.Rai.D.int (0 : Int))).fld (2 : Nat)).toInt, Go.Rai.D.int ((x2.getD x1.toNat (Go.Rai.D.int (0 : Int))).fld (3 : Nat)).toInt])).getD x1.toNat (Go.Rai.D.int (0 : Int))).fld (0 : Nat)).toInt, Go.Rai.D.int (Go.IntKind.i64.wrap (x0 + (1 : Int))), Go.Rai.D.int (((x2.set x1.toNat (Go.Rai.D.node [Go.Rai.D.int x0, Go.Rai.D.int ((x2.getD x1.toNat (Go.Rai.D.int (0 : Int))).fld (1 : Nat)).toInt, Go.Rai.D.int ((x2.getD x1.toNat (Go.Rai.D.int (0 : Int))).fld (2 : Nat)).toInt, Go.Rai.D.int ((x2.getD x1.toNat (Go.Rai.D.int (0 : Int))).fld (3 : Nat)).toInt])).getD x1.toNat (Go.Rai.D.int (0 : Int))).fld (2 : Nat)).toInt, Go.Rai.D.int (((x2.set x1.toNat (Go.Rai.D.node [Go.Rai.D.int x0, Go.Rai.D.int ((x2.getD x1.toNat (Go.Rai.D.int (0 : Int))).fld (1 : Nat)).toInt, Go.Rai.D.int ((x2.getD x1.toNat (Go.Rai.D.int (0 : Int))).fld (2 : Nat)).toInt, Go.Rai.D.int ((x2.getD x1.toNat (Go.Rai.D.int (0 : Int))).fld (3 : Nat)).toInt])).getD x1.toNat (Go.Rai.D.int (0 : Int))).fld (3 : Nat)).toInt])).getD x1.toNat (Go.Rai.D.int (0 : Int))).fld (1 : Nat)).toInt, Go.Rai.D.int (Go.IntKind.i64.wrap (Go.IntKind.i64.wrap (x0 + (1 : Int)) + (1 : Int))), Go.Rai.D.int ((((x2.set x1.toNat (Go.Rai.D.node [Go.Rai.D.int x0, Go.Rai.D.int ((x2.getD x1.toNat (Go.Rai.D.int (0 : Int))).fld (1 : Nat)).toInt, Go.Rai.D.int ((x2.getD x1.toNat (Go.Rai.D.int (0 : Int))).fld (2 : Nat)).toInt, Go.Rai.D.int ((x2.getD x1.toNat (Go.Rai.D.int (0 : Int))).fld (3 : Nat)).toInt])).set x1.toNat (Go.Rai.D.node [Go.Rai.D.int (((x2.set x1.toNat (Go.Rai.D.node [Go.Rai.D.int x0, Go.Rai.D.int ((x2.getD x1.toNat (Go.Rai.D.int (0 : Int))).fld (1 : Nat)).toInt, Go.Rai.D.int ((x2.getD x1.toNat (Go.Rai.D.int (0 : Int))).fld (2 : Nat)).toInt, Go.Rai.D.int ((x2.getD x1.toNat (Go.Rai.D.int (0 : Int))).fld (3 : Nat)).toInt])).getD x1.toNat (Go.Rai.D.int (0 : Int))).fld (0 : Nat)).toInt, Go.Rai.D.int (Go.IntKind.i64.wrap (x0 + (1 : Int))), Go.Rai.D.int (((x2.set x1.toNat (Go.Rai.D.node [Go.Rai.D.int x0, Go.Rai.D.int ((x2.getD x1.toNat (Go.Rai.D.int (0 : Int))).fld (1 : Nat)).toInt, Go.Rai.D.int ((x2.getD x1.toNat (Go.Rai.D.int (0 : Int))).fld (2 : Nat)).toInt, Go.Rai.D.int ((x2.getD x1.toNat (Go.Rai.D.int (0 : Int))).fld (3 : Nat)).toInt])).getD x1.toNat (Go.Rai.D.int (0 : Int))).fld (2 : Nat)).toInt, Go.Rai.D.int (((x2.set x1.toNat (Go.Rai.D.node [Go.Rai.D.int x0, Go.Rai.D.int ((x2.getD x1.toNat (Go.Rai.D.int (0 : Int))).fld (1 : Nat)).toInt, Go.Rai.D.int ((x2.getD x1.toNat (Go.Rai.D.int (0 : Int))).fld (2 : Nat)).toInt, Go.Rai.D.int ((x2.getD x1.toNat (Go.Rai.D.int (0 : Int))).fld (3 : Nat)).toInt])).getD x1.toNat (Go.Rai.D.int (0 : Int))).fld (3 : Nat)).toInt])).getD x1.toNat (Go.Rai.D.int (0 : Int))).fld (3 : Nat)).toInt])).set x1.toNat (Go.Rai.D.node [Go.Rai.D.int (((((x2.set x1.toNat (Go.Rai.D.node [Go.Rai.D.int x0, Go.Rai.D.int ((x2.getD x1.toNat (Go.Rai.D.int (0 : Int))).fld (1 : Nat)).toInt, Go.Rai.D.int ((x2.getD x1.toNat (Go.Rai.D.int (0 : Int))).fld (2 : Nat)).toInt, Go.Rai.D.int ((x2.getD x1.toNat (Go.Rai.D.int (0 : Int))).fld (3 : Nat)).toInt])).set x1.toNat (Go.Rai.D.node [Go.Rai.D.int (((x2.set x1.toNat (Go.Rai.D.node [Go.Rai.D.int x0, Go.Rai.D.int ((x2.getD x1.toNat (Go.Rai.D.int (0 : Int))).fld (1 : Nat)).toInt, Go.Rai.D.int ((x2.getD x1.toNat (Go.Rai.D.int (0 : Int))).fld (2 : Nat)).toInt, Go.Rai.D.int ((x2.getD x1.toNat (Go.Rai.D.int (0 : Int))).fld (3 : Nat)).toInt])).getD x1.toNat (Go.Rai.D.int (0 : Int))).fld (0 : Nat)).toInt, Go.Rai.D.int (Go.IntKind.i64.wrap (x0 + (1 : Int))), Go.Rai.D.int (((x2.set x1.toNat (Go.Rai.D.node [Go.Rai.D.int x0, Go.Rai.D.int ((x2.getD x1.toNat (Go.Rai.D.int (0 : Int))).fld (1 : Nat)).toInt, Go.Rai.D.int ((x2.getD x1.toNat (Go.Rai.D.int (0 : Int))).fld (2 : Nat)).toInt, Go.Rai.D.int ((x2.getD x1.toNat (Go.Rai.D.int (0 : Int))).fld (3 : Nat)).toInt])).getD x1.toNat (Go.Rai.D.int (0 : Int))).fld (2 : Nat)).toInt, Go.Rai.D.int (((x2.set x1.toNat (Go.Rai.D.node [Go.Rai.D.int x0, Go.Rai.D.int ((x2.getD x1.toNat (Go.Rai.D.int (0 : Int))).fld (1 : Nat)).toInt, Go.Rai.D.int ((x2.getD x1.toNat (Go.Rai.D.int (0 : Int))).fld (2 : Nat)).toInt, Go.Rai.D.int ((x2.getD x1.toNat (Go.Rai.D.int (0 : Int))).fld (3 : Nat)).toInt])).getD x1.toNat (Go.Rai.D.int (0 : Int))).fld (3 : Nat)).toInt])).set x1.toNat (Go.Rai.D.node [Go.Rai.D.int ((((x2.set x1.toNat (Go.Rai.D.node [Go.Rai.D.int x0, Go.Rai.D.int ((x2.getD x1.toNat (Go.Rai.D.int (0 : Int))).fld (1 : Nat)).toInt, Go.Rai.D.int ((x2.getD x1.toNat (Go.Rai.D.int (0 : Int))).fld (2 : Nat)).toInt, Go.Rai.D.int ((x2.getD x1.toNat (Go.Rai.D.int (0 : Int))).fld (3 : Nat)).toInt])).set x1.toNat (Go.Rai.D.node [Go.Rai.D.int (((x2.set x1.toNat (Go.Rai.D.node [Go.Rai.D.int x0, Go.Rai.D.int ((x2.getD x1.toNat (Go.Rai.D.int (0 : Int))).fld (1 : Nat)).toInt, Go.Rai.D.int ((x2.getD x1.toNat (Go.Rai.D.int (0 : Int))).fld (2 : Nat)).toInt, Go.Rai.D.int ((x2.getD x1.toNat (Go.Rai.D.int (0 : Int))).fld (3 : Nat)).toInt])).getD x1.toNat (Go.Rai.D.int (0 : Int))).fld (0 : Nat)).toInt, Go.Rai.D.int (Go.IntKind.i64.wrap (x0 + (1 : Int))), Go.Rai.D.int (((x2.set x1.toNat (Go.Rai.D.node [Go.Rai.D.int x0, Go.Rai.D.int ((x2.getD x1.toNat (Go.Rai.D.int (0 : Int))).fld (1 : Nat)).toInt, Go.Rai.D.int ((x2.getD x1.toNat (Go.Rai.D.int (0 : Int))).fld (2 : Nat)).toInt, Go.Rai.D.int ((x2.getD x1.toNat (Go.Rai.D.int (0 : Int))).fld (3 : Nat)).toInt])).getD x1.toNat (Go.Rai.D.int (0 : Int))).fld (2 : Nat)).toInt, Go.Rai.D.int (((x2.set x1.toNat (Go.Rai.D.node [Go.Rai.D.int x0, Go.Rai.D.int ((x2.getD x1.toNat (Go.Rai.D.int (0 : Int))).fld (1 : Nat)).toInt, Go.Rai.D.int ((x2.getD x1.toNat (Go.Rai.D.int (0 : Int))).fld (2 : Nat)).toInt, Go.Rai.D.int ((x2.getD x1.toNat (Go.Rai.D.int (0 : Int))).fld (3 : Nat)).toInt])).getD x1.toNat (Go.Rai.D.int (0 : Int))).fld (3 : Nat)).toInt])).getD x1.toNat (Go.Rai.D.int (0 : Int))).fld (0 : Nat)).toInt, Go.Rai.D.int ((((x2.set x1.toNat (Go.Rai.D.node [Go.Rai.D.int x0, Go.Rai.D.int ((x2.getD x1.toNat (Go.Rai.D.int (0 : Int))).fld (1 : Nat)).toInt, Go.Rai.D.int ((x2.getD x1.toNat (Go.Rai.D.int (0 : Int))).fld (2 : Nat)).toInt, Go.Rai.D.int ((x2.getD x1.toNat (Go.Rai.D.int (0 : Int))).fld (3 : Nat)).toInt])).set x1.toNat (Go.Rai.D.node [Go.Rai.D.int (((x2.set x1.toNat (Go.Rai.D.node [Go.Rai.D.int x0, Go.Rai.D.int ((x2.getD x1.toNat (Go.Rai.D.int (0 : Int))).fld (1 : Nat)).toInt, Go.Rai.D.int ((x2.getD x1.toNat (Go.Rai.D.int (0 : Int))).fld (2 : Nat)).toInt, Go.Rai.D.int ((x2.getD x1.toNat (Go.Rai.D.int (0 : Int))).fld (3 : Nat)).toInt])).getD x1.toNat (Go.Rai.D.int (0 : Int))).fld (0 : Nat)).toInt, Go.Rai.D.int (Go.IntKind.i64.wrap (x0 + (1 : Int))), Go.Rai.D.int (((x2.set x1.toNat (Go.Rai.D.node [Go.Rai.D.int x0, Go.Rai.D.int ((x2.getD x1.toNat (Go.Rai.D.int (0 : Int))).fld (1 : Nat)).toInt, Go.Rai.D.int ((x2.getD x1.toNat (Go.Rai.D.int (0 : Int))).fld (2 : Nat)).toInt, Go.Rai.D.int ((x2.getD x1.toNat (Go.Rai.D.int (0 : Int))).fld (3 : Nat)).toInt])).getD x1.toNat (Go.Rai.D.int (0 : Int))).fld (2 : Nat)).toInt, Go.Rai.D.int (((x2.set x1.toNat (Go.Rai.D.node [Go.Rai.D.int x0, Go.Rai.D.int ((x2.getD x1.toNat (Go.Rai.D.int (0 : Int))).fld (1 : Nat)).toInt, Go.Rai.D.int ((x2.getD x1.toNat (Go.Rai.D.int (0 : Int))).fld (2 : Nat)).toInt, Go.Rai.D.int ((x2.getD x1.toNat (Go.Rai.D.int (0 : Int))).fld (3 : Nat)).toInt])).getD x1.toNat (Go.Rai.D.int (0 : Int))).fld (3 : Nat)).toInt])).getD x1.toNat (Go.Rai.D.int (0 : Int))).fld (1 : Nat)).toInt, Go.Rai.D.int (Go.IntKind.i64.wrap (Go.IntKind.i64.wrap (x0 + (1 : Int)) + (1 : Int))), Go.Rai.D.int ((((x2.set x1.toNat (Go.Rai.D.node [Go.Rai.D.int x0, Go.Rai.D.int ((x2.getD x1.toNat (Go.Rai.D.int (0 : Int))).fld (1 : Nat)).toInt, Go.Rai.D.int ((x2.getD x1.toNat (Go.Rai.D.int (0 : Int))).fld (2 : Nat)).toInt, Go.Rai.D.int ((x2.getD x1.toNat (Go.Rai.D.int (0 : Int))).fld (3 : Nat)).toInt])).set x1.toNat (Go.Rai.D.node [Go.Rai.D.int (((x2.set x1.toNat (Go.Rai.D.node [Go.Rai.D.int x0, Go.Rai.D.int ((x2.getD x1.toNat (Go.Rai.D.int (0 : Int))).fld (1 : Nat)).toInt, Go.Rai.D.int ((x2.getD x1.toNat (Go.Rai.D.int (0 : Int))).fld (2 : Nat)).toInt, Go.Rai.D.int ((x2.getD x1.toNat (Go.Rai.D.int (0 : Int))).fld (3 : Nat)).toInt])).getD x1.toNat (Go.Rai.D.int (0 : Int))).fld (0 : Nat)).toInt, Go.Rai.D.int (Go.IntKind.i64.wrap (x0 + (1 : Int))), Go.Rai.D.int (((x2.set x1.toNat (Go.Rai.D.node [Go.Rai.D.int x0, Go.Rai.D.int ((x2.getD x1.toNat (Go.Rai.D.int (0 : Int))).fld (1 : Nat)).toInt, Go.Rai.D.int ((x2.getD x1.toNat (Go.Rai.D.int (0 : Int))).fld (2 : Nat)).toInt, Go.Rai.D.int ((x2.getD x1.toNat (Go.Rai.D.int (0 : Int))).fld (3 : Nat)).toInt])).getD x1.toNat (Go.Rai.D.int (0 : Int))).fld (2 : Nat)).toInt, Go.Rai.D.int (((x2.set x1.toNat (Go.Rai.D.node [Go.Rai.D.int x0, Go.Rai.D.int ((x2.getD x1.toNat (Go.Rai.D.int (0 : Int))).fld (1 : Nat)).toInt, Go.Rai.D.int ((x2.getD x1.toNat (Go.Rai.D.int (0 : Int))).fld (2 : Nat)).toInt, Go.Rai.D.int ((x2.getD x1.toNat (Go.Rai.D.int (0 : Int))).fld (3 : Nat)).toInt])).getD x1.toNat (Go.Rai.D.int (0 : Int))).fld (3 : Nat)).toInt])).getD x1.toNat (Go.Rai.D.int (0 : Int))).fld (3 : Nat)).toInt])).getD x1.toNat (Go.Rai.D.int (0 : Int))).fld (0 : Nat)).toInt, Go.Rai.D.int (((((x2.set x1.toNat (Go.Rai.D.node [Go.Rai.D.int x0, Go.Rai.D.int ((x2.getD x1.toNat (Go.Rai.D.int (0 : Int))).fld (1 : Nat)).toInt, Go.Rai.D.int ((x2.getD x1.toNat (Go.Rai.D.int (0 : Int))).fld (2 : Nat)).toInt, Go.Rai.D.int ((x2.getD x1.toNat (Go.Rai.D.int (0 : Int))).fld (3 : Nat)).toInt])).set x1.toNat (Go.Rai.D.node [Go.Rai.D.int (((x2.set x1.toNat (Go.Rai.D.node [Go.Rai.D.int x0, Go.Rai.D.int ((x2.getD x1.toNat (Go.Rai.D.int (0 : Int))).fld (1 : Nat)).toInt, Go.Rai.D.int ((x2.getD x1.toNat (Go.Rai.D.int (0 : Int))).fld (2 : Nat)).toInt, Go.Rai.D.int ((x2.getD x1.toNat (Go.Rai.D.int (0 : Int))).fld (3 : Nat)).toInt])).getD x1.toNat (Go.Rai.D.int (0 : Int))).fld (0 : Nat)).toInt, Go.Rai.D.int (Go.IntKind.i64.wrap (x0 + (1 : Int))), Go.Rai.D.int (((x2.set x1.toNat (Go.Rai.D.node [Go.Rai.D.int x0, Go.Rai.D.int ((x2.getD x1.toNat (Go.Rai.D.int (0 : Int))).fld (1 : Nat)).toInt, Go.Rai.D.int ((x2.getD x1.toNat (Go.Rai.D.int (0 : Int))).fld (2 : Nat)).toInt, Go.Rai.D.int ((x2.getD x1.toNat (Go.Rai.D.int (0 : Int))).fld (3 : Nat)).toInt])).getD x1.toNat (Go.Rai.D.int (0 : Int))).fld (2 : Nat)).toInt, Go.Rai.D.int (((x2.set x1.toNat (Go.Rai.D.node [Go.Rai.D.int x0, Go.Rai.D.int ((x2.getD x1.toNat (Go.Rai.D.int (0 : Int))).fld (1 : Nat)).toInt, Go.Rai.D.int ((x2.getD x1.toNat (Go.Rai.D.int (0 : Int))).fld (2 : Nat)).toInt, Go.Rai.D.int ((x2.getD x1.toNat (Go.Rai.D.int (0 : Int))).fld (3 : Nat)).toInt])).getD x1.toNat (Go.Rai.D.int (0 : Int))).fld (3 : Nat)).toInt])).set x1.toNat (Go.Rai.D.node [Go.Rai.D.int ((((x2.set x1.toNat (Go.Rai.D.node [Go.Rai.D.int x0, Go.Rai.D.int ((x2.getD x1.toNat (Go.Rai.D.int (0 : Int))).fld (1 : Nat)).toInt, Go.Rai.D.int ((x2.getD x1.toNat (Go.Rai.D.int (0 : Int))).fld (2 : Nat)).toInt, Go.Rai.D.int ((x2.getD x1.toNat (Go.Rai.D.int (0 : Int))).fld (3 : Nat)).toInt])).set x1.toNat (Go.Rai.D.node [Go.Rai.D.int (((x2.set x1.toNat (Go.Rai.D.node [Go.Rai.D.int x0, Go.Rai.D.int ((x2.getD x1.toNat (Go.Rai.D.int (0 : Int))).fld (1 : Nat)).toInt, Go.Rai.D.int ((x2.getD x1.toNat (Go.Rai.D.int (0 : Int))).fld (2 : Nat)).toInt, Go.Rai.D.int ((x2.getD x1.toNat (Go.Rai.D.int (0 : Int))).fld (3 : Nat)).toInt])).getD x1.toNat (Go.Rai.D.int (0 : Int))).fld (0 : Nat)).toInt, Go.Rai.D.int (Go.IntKind.i64.wrap (x0 + (1 : Int))), Go.Rai.D.int (((x2.set x1.toNat (Go.Rai.D.node [Go.Rai.D.int x0, Go.Rai.D.int ((x2.getD x1.toNat (Go.Rai.D.int (0 : Int))).fld (1 : Nat)).toInt, Go.Rai.D.int ((x2.getD x1.toNat (Go.Rai.D.int (0 : Int))).fld (2 : Nat)).toInt, Go.Rai.D.int ((x2.getD x1.toNat (Go.Rai.D.int (0 : Int))).fld (3 : Nat)).toInt])).getD x1.toNat (Go.Rai.D.int (0 : Int))).fld (2 : Nat)).toInt, Go.Rai.D.int (((x2.set x1.toNat (Go.Rai.D.node [Go.Rai.D.int x0, Go.Rai.D.int ((x2.getD x1.toNat (Go.Rai.D.int (0 : Int))).fld (1 : Nat)).toInt, Go.Rai.D.int ((x2.getD x1.toNat (Go.Rai.D.int (0 : Int))).fld (2 : Nat)).toInt, Go.Rai.D.int ((x2.getD x1.toNat (Go.Rai.D.int (0 : Int))).fld (3 : Nat)).toInt])).getD x1.toNat (Go.Rai.D.int (0 : Int))).fld (3 : Nat)).toInt])).getD x1.toNat (Go.Rai.D.int (0 : Int))).fld (0 : Nat)).toInt, Go.Rai.D.int ((((x2.set x1.toNat (Go.Rai.D.node [Go.Rai.D.int x0, Go.Rai.D.int ((x2.getD x1.toNat (Go.Rai.D.int (0 : Int))).fld (1 : Nat)).toInt, Go.Rai.D.int ((x2.getD x1.toNat (Go.Rai.D.int (0 : Int))).fld (2 : Nat)).toInt, Go.Rai.D.int ((x2.getD x1.toNat (Go.Rai.D.int (0 : Int))).fld (3 : Nat)).toInt])).set x1.toNat (Go.Rai.D.node [Go.Rai.D.int (((x2.set x1.toNat (Go.Rai.D.node [Go.Rai.D.int x0, Go.Rai.D.int ((x2.getD x1.toNat (Go.Rai.D.int (0 : Int))).fld (1 : Nat)).toInt, Go.Rai.D.int ((x2.getD x1.toNat (Go.Rai.D.int (0 : Int))).fld (2 : Nat)).toInt, Go.Rai.D.int ((x2.getD x1.toNat (Go.Rai.D.int (0 : Int))).fld (3 : Nat)).toInt])).getD x1.toNat (Go.Rai.D.int (0 : Int))).fld (0 : Nat)).toInt, Go.Rai.D.int (Go.IntKind.i64.wrap (x0 + (1 : Int))), Go.Rai.D.int (((x2.set x1.toNat (Go.Rai.D.node [Go.Rai.D.int x0, Go.Rai.D.int ((x2.getD x1.toNat (Go.Rai.D.int (0 : Int))).fld (1 : Nat)).toInt, Go.Rai.D.int ((x2.getD x1.toNat (Go.Rai.D.int (0 : Int))).fld (2 : Nat)).toInt, Go.Rai.D.int ((x2.getD x1.toNat (Go.Rai.D.int (0 : Int))).fld (3 : Nat)).toInt])).getD x1.toNat (Go.Rai.D.int (0 : Int))).fld (2 : Nat)).toInt, Go.Rai.D.int (((x2.set x1.toNat (Go.Rai.D.node [Go.Rai.D.int x0, Go.Rai.D.int ((x2.getD x1.toNat (Go.Rai.D.int (0 : Int))).fld (1 : Nat)).toInt, Go.Rai.D.int ((x2.getD x1.toNat (Go.Rai.D.int (0 : Int))).fld (2 : Nat)).toInt, Go.Rai.D.int ((x2.getD x1.toNat (Go.Rai.D.int (0 : Int))).fld (3 : Nat)).toInt])).getD x1.toNat (Go.Rai.D.int (0 : Int))).fld (3 : Nat)).toInt])).getD x1.toNat (Go.Rai.D.int (0 : Int))).fld (1 : Nat)).toInt, Go.Rai.D.int (Go.IntKind.i64.wrap (Go.IntKind.i64.wrap (x0 + (1 : Int)) + (1 : Int))), Go.Rai.D.int ((((x2.set x1.toNat (Go.Rai.D.node [Go.Rai.D.int x0, Go.Rai.D.int ((x2.getD x1.toNat (Go.Rai.D.int (0 : Int))).fld (1 : Nat)).toInt, Go.Rai.D.int ((x2.getD x1.toNat (Go.Rai.D.int (0 : Int))).fld (2 : Nat)).toInt, Go.Rai.D.int ((x2.getD x1.toNat (Go.Rai.D.int (0 : Int))).fld (3 : Nat)).toInt])).set x1.toNat (Go.Rai.D.node [Go.Rai.D.int (((x2.set x1.toNat (Go.Rai.D.node [Go.Rai.D.int x0, Go.Rai.D.int ((x2.getD x1.toNat (Go.Rai.D.int (0 : Int))).fld (1 : Nat)).toInt, Go.Rai.D.int ((x2.getD x1.toNat (Go.Rai.D.int (0 : Int))).fld (2 : Nat)).toInt, Go.Rai.D.int ((x2.getD x1.toNat (Go.Rai.D.int (0 : Int))).fld (3 : Nat)).toInt])).getD x1.toNat (Go.Rai.D.int (0 : Int))).fld (0 : Nat)).toInt, Go.Rai.D.int (Go.IntKind.i64.wrap (x0 + (1 : Int))), Go.Rai.D.int (((x2.set x1.toNat (Go.Rai.D.node [Go.Rai.D.int x0, Go.Rai.D.int ((x2.getD x1.toNat (Go.Rai.D.int (0 : Int))).fld (1 : Nat)).toInt, Go.Rai.D.int ((x2.getD x1.toNat (Go.Rai.D.int (0 : Int))).fld (2 : Nat)).toInt, Go.Rai.D.int ((x2.getD x1.toNat (Go.Rai.D.int (0 : Int))).fld (3 : Nat)).toInt])).getD x1.toNat (Go.Rai.D.int (0 : Int))).fld (2 : Nat)).toInt, Go.Rai.D.int (((x2.set x1.toNat (Go.Rai.D.node [Go.Rai.D.int x0, Go.Rai.D.int ((x2.getD x1.toNat (Go.Rai.D.int (0 : Int))).fld (1 : Nat)).toInt, Go.Rai.D.int ((x2.getD x1.toNat (Go.Rai.D.int (0 : Int))).fld (2 : Nat)).toInt, Go.Rai.D.int ((x2.getD x1.toNat (Go.Rai.D.int (0 : Int))).fld (3 : Nat)).toInt])).getD x1.toNat (Go.Rai.D.int (0 : Int))).fld (3 : Nat)).toInt])).getD x1.toNat (Go.Rai.D.int (0 : Int))).fld (3 : Nat)).toInt])).getD x1.toNat (Go.Rai.D.int (0 : Int))).fld (1 : Nat)).toInt, Go.Rai.D.int (((((x2.set x1.toNat (Go.Rai.D.node [Go.Rai.D.int x0, Go.Rai.D.int ((x2.getD x1.toNat (Go.Rai.D.int (0 : Int))).fld (1 : Nat)).toInt, Go.Rai.D.int ((x2.getD x1.toNat (Go.Rai.D.int (0 : Int))).fld (2 : Nat)).toInt, Go.Rai.D.int ((x2.getD x1.toNat (Go.Rai.D.int (0 : Int))).fld (3 : Nat)).toInt])).set x1.toNat (Go.Rai.D.node [Go.Rai.D.int (((x2.set x1.toNat (Go.Rai.D.node [Go.Rai.D.int x0, Go.Rai.D.int ((x2.getD x1.toNat (Go.Rai.D.int (0 : Int))).fld (1 : Nat)).toInt, Go.Rai.D.int ((x2.getD x1.toNat (Go.Rai.D.int (0 : Int))).fld (2 : Nat)).toInt, Go.Rai.D.int ((x2.getD x1.toNat (Go.Rai.D.int (0 : Int))).fld (3 : Nat)).toInt])).getD x1.toNat (Go.Rai.D.int (0 : Int))).fld (0 : Nat)).toInt, Go.Rai.D.int (Go.IntKind.i64.wrap (x0 + (1 : Int))), Go.Rai.D.int (((x2.set x1.toNat (Go.Rai.D.node [Go.Rai.D.int x0, Go.Rai.D.int ((x2.getD x1.toNat (Go.Rai.D.int (0 : Int))).fld (1 : Nat)).toInt, Go.Rai.D.int ((x2.getD x1.toNat (Go.Rai.D.int (0 : Int))).fld (2 : Nat)).toInt, Go.Rai.D.int ((x2.getD x1.toNat (Go.Rai.D.int (0 : Int))).fld (3 : Nat)).toInt])).getD x1.toNat (Go.Rai.D.int (0 : Int))).fld (2 : Nat)).toInt, Go.Rai.D.int (((x2.set x1.toNat (Go.Rai.D.node [Go.Rai.D.int x0, Go.Rai.D.int ((x2.getD x1.toNat (Go.Rai.D.int (0 : Int))).fld (1 : Nat)).toInt, Go.Rai.D.int ((x2.getD x1.toNat (Go.Rai.D.int (0 : Int))).fld (2 : Nat)).toInt, Go.Rai.D.int ((x2.getD x1.toNat (Go.Rai.D.int (0 : Int))).fld (3 : Nat)).toInt])).getD x1.toNat (Go.Rai.D.int (0 : Int))).fld (3 : Nat)).toInt])).set x1.toNat (Go.Rai.D.node [Go.Rai.D.int ((((x2.set x1.toNat (Go.Rai.D.node [Go.Rai.D.int x0, Go.Rai.D.int ((x2.getD x1.toNat (Go.Rai.D.int (0 : Int))).fld (1 : Nat)).toInt, Go.Rai.D.int ((x2.getD x1.toNat (Go.Rai.D.int (0 : Int))).fld (2 : Nat)).toInt, Go.Rai.D.int ((x2.getD x1.toNat (Go.Rai.D.int (0 : Int))).fld (3 : Nat)).toInt])).set x1.toNat (Go.Rai.D.node [Go.Rai.D.int (((x2.set x1.toNat (Go.Rai.D.node [Go.Rai.D.int x0, Go.Rai.D.int ((x2.getD x1.toNat (Go.Rai.D.int (0 : Int))).fld (1 : Nat)).toInt, Go.Rai.D.int ((x2.getD x1.toNat (Go.Rai.D.int (0 : Int))).fld (2 : Nat)).toInt, Go.Rai.D.int ((x2.getD x1.toNat (Go.Rai.D.int (0 : Int))).fld (3 : Nat)).toInt])).getD x1.toNat (Go.Rai.D.int (0 : Int))).fld (0 : Nat)).toInt, Go.Rai.D.int (Go.IntKind.i64.wrap (x0 + (1 : Int))), Go.Rai.D.int (((x2.set x1.toNat (Go.Rai.D.node [Go.Rai.D.int x0, Go.Rai.D.int ((x2.getD x1.toNat (Go.Rai.D.int (0 : Int))).fld (1 : Nat)).toInt, Go.Rai.D.int ((x2.getD x1.toNat (Go.Rai.D.int (0 : Int))).fld (2 : Nat)).toInt, Go.Rai.D.int ((x2.getD x1.toNat (Go.Rai.D.int (0 : Int))).fld (3 : Nat)).toInt])).getD x1.toNat (Go.Rai.D.int (0 : Int))).fld (2 : Nat)).toInt, Go.Rai.D.int (((x2.set x1.toNat (Go.Rai.D.node [Go.Rai.D.int x0, Go.Rai.D.int ((x2.getD x1.toNat (Go.Rai.D.int (0 : Int))).fld (1 : Nat)).toInt, Go.Rai.D.int ((x2.getD x1.toNat (Go.Rai.D.int (0 : Int))).fld (2 : Nat)).toInt, Go.Rai.D.int ((x2.getD x1.toNat (Go.Rai.D.int (0 : Int))).fld (3 : Nat)).toInt])).getD x1.toNat (Go.Rai.D.int (0 : Int))).fld (3 : Nat)).toInt])).getD x1.toNat (Go.Rai.D.int (0 : Int))).fld (0 : Nat)).toInt, Go.Rai.D.int ((((x2.set x1.toNat (Go.Rai.D.node [Go.Rai.D.int x0, Go.Rai.D.int ((x2.getD x1.toNat (Go.Rai.D.int (0 : Int))).fld (1 : Nat)).toInt, Go.Rai.D.int ((x2.getD x1.toNat (Go.Rai.D.int (0 : Int))).fld (2 : Nat)).toInt, Go.Rai.D.int ((x2.getD x1.toNat (Go.Rai.D.int (0 : Int))).fld (3 : Nat)).toInt])).set x1.toNat (Go.Rai.D.node [Go.Rai.D.int (((x2.set x1.toNat (Go.Rai.D.node [Go.Rai.D.int x0, Go.Rai.D.int ((x2.getD x1.toNat (Go.Rai.D.int (0 : Int))).fld (1 : Nat)).toInt, Go.Rai.D.int ((x2.getD x1.toNat (Go.Rai.D.int (0 : Int))).fld (2 : Nat)).toInt, Go.Rai.D.int ((x2.getD x1.toNat (Go.Rai.D.int (0 : Int))).fld (3 : Nat)).toInt])).getD x1.toNat (Go.Rai.D.int (0 : Int))).fld (0 : Nat)).toInt, Go.Rai.D.int (Go.IntKind.i64.wrap (x0 + (1 : Int))), Go.Rai.D.int (((x2.set x1.toNat (Go.Rai.D.node [Go.Rai.D.int x0, Go.Rai.D.int ((x2.getD x1.toNat (Go.Rai.D.int (0 : Int))).fld (1 : Nat)).toInt, Go.Rai.D.int ((x2.getD x1.toNat (Go.Rai.D.int (0 : Int))).fld (2 : Nat)).toInt, Go.Rai.D.int ((x2.getD x1.toNat (Go.Rai.D.int (0 : Int))).fld (3 : Nat)).toInt])).getD x1.toNat (Go.Rai.D.int (0 : Int))).fld (2 : Nat)).toInt, Go.Rai.D.int (((x2.set x1.toNat (Go.Rai.D.node [Go.Rai.D.int x0, Go.Rai.D.int ((x2.getD x1.toNat (Go.Rai.D.int (0 : Int))).fld (1 : Nat)).toInt, Go.Rai.D.int ((x2.getD x1.toNat (Go.Rai.D.int (0 : Int))).fld (2 : Nat)).toInt, Go.Rai.D.int ((x2.getD x1.toNat (Go.Rai.D.int (0 : Int))).fld (3 : Nat)).toInt])).getD x1.toNat (Go.Rai.D.int (0 : Int))).fld (3 : Nat)).toInt])).getD x1.toNat (Go.Rai.D.int (0 : Int))).fld (1 : Nat)).toInt, Go.Rai.D.int (Go.IntKind.i64.wrap (Go.IntKind.i64.wrap (x0 + (1 : Int)) + (1 : Int))), Go.Rai.D.int ((((x2.set x1.toNat (Go.Rai.D.node [Go.Rai.D.int x0, Go.Rai.D.int ((x2.getD x1.toNat (Go.Rai.D.int (0 : Int))).fld (1 : Nat)).toInt, Go.Rai.D.int ((x2.getD x1.toNat (Go.Rai.D.int (0 : Int))).fld (2 : Nat)).toInt, Go.Rai.D.int ((x2.getD x1.toNat (Go.Rai.D.int (0 : Int))).fld (3 : Nat)).toInt])).set x1.toNat (Go.Rai.D.node [Go.Rai.D.int (((x2.set x1.toNat (Go.Rai.D.node [Go.Rai.D.int x0, Go.Rai.D.int ((x2.getD x1.toNat (Go.Rai.D.int (0 : Int))).fld (1 : Nat)).toInt, Go.Rai.D.int ((x2.getD x1.toNat (Go.Rai.D.int (0 : Int))).fld (2 : Nat)).toInt, Go.Rai.D.int ((x2.getD x1.toNat (Go.Rai.D.int (0 : Int))).fld (3 : Nat)).toInt])).getD x1.toNat (Go.Rai.D.int (0 : Int))).fld (0 : Nat)).toInt, Go.Rai.D.int (Go.IntKind.i64.wrap (x0 + (1 : Int))), Go.Rai.D.int (((x2.set x1.toNat (Go.Rai.D.node [Go.Rai.D.int x0, Go.Rai.D.int ((x2.getD x1.toNat (Go.Rai.D.int (0 : Int))).fld (1 : Nat)).toInt, Go.Rai.D.int ((x2.getD x1.toNat (Go.Rai.D.int (0 : Int))).fld (2 : Nat)).toInt, Go.Rai.D.int ((x2.getD x1.toNat (Go.Rai.D.int (0 : Int))).fld (3 : Nat)).toInt])).getD x1.toNat (Go.Rai.D.int (0 : Int))).fld (2 : Nat)).toInt, Go.Rai.D.int (((x2.set x1.toNat (Go.Rai.D.node [Go.Rai.D.int x0, Go.Rai.D.int ((x2.getD x1.toNat (Go.Rai.D.int (0 : Int))).fld (1 : Nat)).toInt, Go.Rai.D.int ((x2.getD x1.toNat (Go.Rai.D.int (0 : Int))).fld (2 : Nat)).toInt, Go.Rai.D.int ((x2.getD x1.toNat (Go.Rai.D.int (0 : Int))).fld (3 : Nat)).toInt])).getD x1.toNat (Go.Rai.D.int (0 : Int))).fld (3 : Nat)).toInt])).getD x1.toNat (Go.Rai.D.int (0 : Int))).fld (3 : Nat)).toInt])).getD x1.toNat (Go.Rai.D.int (0 : Int))).fld (2 : Nat)).toInt, Go.Rai.D.int (Go.IntKind.i64.wrap (Go.IntKind.i64.wrap (Go.IntKind.i64.wrap (x0 + (1 : Int)) + (1 : Int)) + (1 : Int)))]))).bind k
                          else
                            none
                        else
                          none
                      else
                        none
                    else
                      none
                  else
                    none
                else
                  none
              else
                none
            else
              none
          else
            none
        else
          none
      else
        none
    else
      none
  else
    k (x0, x2)
theorem c_laws_markHeightLineS_L2_bind {R : Type} (F : Int → Int → List D → Option (Int × List D)) (x0 : Int) (x1 : Int) (x2 : List D) (k : Int × List D → Option R) : c_laws_markHeightLineS_L2 F x0 x1 x2 k = (c_laws_markHeightLineS_L2 F x0 x1 x2 some).bind k := by
  unfold c_laws_markHeightLineS_L2
  repeat' first
    | exact bnd_tail
    | exact bnd_none
    | exact bnd_leaf
    | apply bnd_ite
    | apply bnd_cond
    | apply bnd_sum
    | (apply bnd_bind; intro _)
    | intro _
def n_laws_markHeightLineS_L2 : Nat → Int → Int → List D → Option (Int × List D)
  | 0, _, _, _ => none
  | n + 1, x0, x1, x2 => c_laws_markHeightLineS_L2 (n_laws_markHeightLineS_L2 n) x0 x1 x2 some
noncomputable def laws_markHeightLineS_L2 (x0 : Int) (x1 : Int) (x2 : List D) : Option (Int × List D) := ev (fun n => n_laws_markHeightLineS_L2 n x0 x1 x2)
def m_laws_markHeightLineS_L2 (F : Int → Int → List D → Option (Int × List D)) : Lent := ⟨2, ⟨[.full 1000 [] (.struct [.int .i64, .int .i64, .int .i64, .int .i64]), .int .i64, .undef, .undef, .undef, .int .i64, .undef, .undef, .undef, .undef, .undef, .undef, .undef, .undef, .undef, .undef, .undef, .undef, .undef, .undef, .undef, .undef, .undef, .undef, .undef, .undef, .undef, .undef, .undef, .undef, .undef, .undef, .undef, .undef, .undef, .undef, .undef, .undef, .undef, .undef, .undef], [(1000, .own (.struct [.int .i64, .int .i64, .int .i64, .int .i64]))]⟩, [(.exit 0, ⟨[.full 1000 [] (.struct [.int .i64, .int .i64, .int .i64, .int .i64]), .int .i64, .undef, .undef, .undef, .undef, .undef, .undef, .undef, .undef, .undef, .undef, .undef, .undef, .undef, .undef, .undef, .undef, .undef, .undef, .undef, .undef, .undef, .undef, .undef, .undef, .undef, .undef, .undef, .undef, .undef, .undef, .undef, .undef, .undef, .undef, .undef, .undef, .undef, .undef, .undef], [(1000, .own (.struct [.int .i64, .int .i64, .int .i64, .int .i64]))]⟩)], fun _ ds k => dI (fun x0 ds => dI (fun x1 ds => dL (fun x2 ds => dE ((F x0 x1 x2).bind (fun y => k 0 [.I y.1, .L y.2])) ds) ds) ds) ds⟩
theorem q_laws_markHeightLineS_L2 (F : Int → Int → List D → Option (Int × List D)) (x0 : Int) (x1 : Int) (x2 : List D) : runLoop (ocOf []) (olOf [m_laws_markHeightLineS_L2 F]) A 46 (codeAt (bodyOf Go.Proofs.Try.f46) 2) ((m_laws_markHeightLineS_L2 F).sh.mk' [.I x0, .I x1, .L x2]) (fun e σ' => some (e, σ')) = c_laws_markHeightLineS_L2 F x0 x1 x2 (fun y => some (.exit 0, SSt.mk' ⟨[.full 1000 [] (.struct [.int .i64, .int .i64, .int .i64, .int .i64]), .int .i64, .undef, .undef, .undef, .undef, .undef, .undef, .undef, .undef, .undef, .undef, .undef, .undef, .undef, .undef, .undef, .undef, .undef, .undef, .undef, .undef, .undef, .undef, .undef, .undef, .undef, .undef, .undef, .undef, .undef, .undef, .undef, .undef, .undef, .undef, .undef, .undef, .undef, .undef, .undef], [(1000, .own (.struct [.int .i64, .int .i64, .int .i64, .int .i64]))]⟩ [.I y.1, .L y.2])) := by kernel_rfl
theorem m_laws_markHeightLineS_L2_ok : ∀ n, (m_laws_markHeightLineS_L2 (n_laws_markHeightLineS_L2 n)).ok Go.Proofs.Try.prog (codeAt (bodyOf Go.Proofs.Try.f46) 2) := by
  intro n
  induction n with
  | zero =>
    intro R ds k r h
    unfold m_laws_markHeightLineS_L2 at h
    obtain ⟨x0, d0, rfl, h0⟩ := dI_some h
    obtain ⟨x1, d1, rfl, h1⟩ := dI_some h0
    obtain ⟨x2, d2, rfl, h2⟩ := dL_some h1
    obtain ⟨rfl, hE⟩ := dE_some h2
    obtain ⟨y, hy, hk⟩ := bnd_some hE
    cases hy
  | succ n ih =>
    intro R ds k r h
    unfold m_laws_markHeightLineS_L2 at h
    obtain ⟨x0, d0, rfl, h0⟩ := dI_some h
    obtain ⟨x1, d1, rfl, h1⟩ := dI_some h0
    obtain ⟨x2, d2, rfl, h2⟩ := dL_some h1
    obtain ⟨rfl, hE⟩ := dE_some h2
    obtain ⟨y, hy, hk⟩ := bnd_some hE
    have hq := q_laws_markHeightLineS_L2 (n_laws_markHeightLineS_L2 n) x0 x1 x2
    rw [c_laws_markHeightLineS_L2_bind] at hq
    rw [show c_laws_markHeightLineS_L2 (n_laws_markHeightLineS_L2 n) x0 x1 x2 some = some y from hy] at hq
    refine ⟨0, _, _, _, hk, rfl, loop_ok px (fx := ⟨Go.Proofs.Try.func46, by kernel_rfl, by kernel_rfl⟩) entsOK_nil (lentsOK_cons ih lentsOK_nil) (by kernel_rfl) ?_⟩
    exact hq
noncomputable def e_laws_markHeightLineS_L2 : Lent := m_laws_markHeightLineS_L2 laws_markHeightLineS_L2
theorem e_laws_markHeightLineS_L2_ok : e_laws_markHeightLineS_L2.ok Go.Proofs.Try.prog (codeAt (bodyOf Go.Proofs.Try.f46) 2) := by
  intro R ds k r h
  unfold e_laws_markHeightLineS_L2 m_laws_markHeightLineS_L2 at h
  obtain ⟨x0, d0, rfl, h0⟩ := dI_some h
  obtain ⟨x1, d1, rfl, h1⟩ := dI_some h0
  obtain ⟨x2, d2, rfl, h2⟩ := dL_some h1
  obtain ⟨rfl, hE⟩ := dE_some h2
  obtain ⟨y, hy, hk⟩ := bnd_some hE
  obtain ⟨n, hn⟩ := ev_some hy
  exact m_laws_markHeightLineS_L2_ok n R _ k r (show (n_laws_markHeightLineS_L2 n x0 x1 x2).bind _ = _ by rw [hn]; exact hk)

/-! loop.example/g00876/laws.markHeightLineS -/
def c_laws_markHeightLineS {R : Type} (x0 : List D) (x1 : Int) (k : Int × List D → Option R) : Option R :=
  (laws_markHeightLineS_L2 x1 (0 : Int) x0).bind (fun y0 =>
    k (y0.fst, y0.snd))
theorem c_laws_markHeightLineS_bind {R : Type} (x0 : List D) (x1 : Int) (k : Int × List D → Option R) : c_laws_markHeightLineS x0 x1 k = (c_laws_markHeightLineS x0 x1 some).bind k := by
  unfold c_laws_markHeightLineS
  repeat' first
    | exact bnd_tail
    | exact bnd_none
    | exact bnd_leaf
    | apply bnd_ite
    | apply bnd_cond
    | apply bnd_sum
    | (apply bnd_bind; intro _)
    | intro _
def laws_markHeightLineS (x0 : List D) (x1 : Int) : Option (Int × List D) := c_laws_markHeightLineS x0 x1 some
def e_laws_markHeightLineS : Ent := ⟨46, [.own (.struct [.int .i64, .int .i64, .int .i64, .int .i64]), .int .i64], .int .i64, [.own (.struct [.int .i64, .int .i64, .int .i64, .int .i64]), .undef], fun _ ds k => dL (fun x0 ds => dI (fun x1 ds => dE ((laws_markHeightLineS x0 x1).bind (fun y => k [.I y.1, .L y.2])) ds) ds) ds⟩
theorem q_laws_markHeightLineS (x0 : List D) (x1 : Int) : runFn (ocOf []) (olOf [e_laws_markHeightLineS_L2]) A 46 Go.Proofs.Try.f46 (Sh.mks e_laws_markHeightLineS.sh [.L x0, .I x1]).1 (fun v os => some (v, os)) = c_laws_markHeightLineS x0 x1 (fun y => some ((e_laws_markHeightLineS.res.mk [.I y.1, .L y.2]).1, (Sh.mks e_laws_markHeightLineS.outs (e_laws_markHeightLineS.res.mk [.I y.1, .L y.2]).2).1)) := by kernel_rfl
theorem e_laws_markHeightLineS_ok : e_laws_markHeightLineS.ok Go.Proofs.Try.prog A := by
  intro R ds k r h
  unfold e_laws_markHeightLineS at h
  obtain ⟨x0, d0, rfl, h0⟩ := dL_some h
  obtain ⟨x1, d1, rfl, h1⟩ := dI_some h0
  obtain ⟨rfl, hE⟩ := dE_some h1
  obtain ⟨y, hy, hk⟩ := bnd_some hE
  refine ⟨_, hk, fn_ok px (fx := ⟨Go.Proofs.Try.func46, by kernel_rfl, by kernel_rfl⟩) entsOK_nil (lentsOK_cons e_laws_markHeightLineS_L2_ok lentsOK_nil) ?_⟩
  have hq := q_laws_markHeightLineS x0 x1
  rw [c_laws_markHeightLineS_bind] at hq
  rw [show c_laws_markHeightLineS x0 x1 some = some y from hy] at hq
  exact hq

/-! loop.example/g00876/laws.markIntS, loop 2 -/
def c_laws_markIntS_L2 {R : Type} (F : Int → Int → List D → Option (Int × List D)) (x0 : Int) (x1 : Int) (x2 : List D) (k : Int × List D → Option R) : Option R :=
  bif Decidable.decide (x1 < (↑x2.length : Int)) then
    if (0 : Int) ≤ x1 ∧ x1 < (↑x2.length : Int) then
      if x1.toNat + (1 : Nat) ≤ x2.length then
        (F (Go.IntKind.i64.wrap (x0 + (1 : Int))) (Go.IntKind.i64.wrap (x1 + (1 : Int))) (x2.set x1.toNat (Go.Rai.D.int x0))).bind k
      else
        none
    else
      none
  else
    k (x0, x2)
theorem c_laws_markIntS_L2_bind {R : Type} (F : Int → Int → List D → Option (Int × List D)) (x0 : Int) (x1 : Int) (x2 : List D) (k : Int × List D → Option R) : c_laws_markIntS_L2 F x0 x1 x2 k = (c_laws_markIntS_L2 F x0 x1 x2 some).bind k := by
  unfold c_laws_markIntS_L2
  repeat' first
    | exact bnd_tail
    | exact bnd_none
    | exact bnd_leaf
    | apply bnd_ite
    | apply bnd_cond
    | apply bnd_sum
    | (apply bnd_bind; intro _)
    | intro _
def n_laws_markIntS_L2 : Nat → Int → Int → List D → Option (Int × List D)
  | 0, _, _, _ => none
  | n + 1, x0, x1, x2 => c_laws_markIntS_L2 (n_laws_markIntS_L2 n) x0 x1 x2 some
noncomputable def laws_markIntS_L2 (x0 : Int) (x1 : Int) (x2 : List D) : Option (Int × List D) := ev (fun n => n_laws_markIntS_L2 n x0 x1 x2)
def m_laws_markIntS_L2 (F : Int → Int → List D → Option (Int × List D)) : Lent := ⟨2, ⟨[.full 1000 [] (.int .i64), .int .i64, .undef, .undef, .undef, .int .i64, .undef, .undef, .undef, .undef, .undef, .undef, .undef, .undef, .undef, .undef, .undef, .undef, .undef], [(1000, .own (.int .i64))]⟩, [(.exit 0, ⟨[.full 1000 [] (.int .i64), .int .i64, .undef, .undef, .undef, .undef, .undef, .undef, .undef, .undef, .undef, .undef, .undef, .undef, .undef, .undef, .undef, .undef, .undef], [(1000, .own (.int .i64))]⟩)], fun _ ds k => dI (fun x0 ds => dI (fun x1 ds => dL (fun x2 ds => dE ((F x0 x1 x2).bind (fun y => k 0 [.I y.1, .L y.2])) ds) ds) ds) ds⟩
theorem q_laws_markIntS_L2 (F : Int → Int → List D → Option (Int × List D)) (x0 : Int) (x1 : Int) (x2 : List D) : runLoop (ocOf []) (olOf [m_laws_markIntS_L2 F]) A 47 (codeAt (bodyOf Go.Proofs.Try.f47) 2) ((m_laws_markIntS_L2 F).sh.mk' [.I x0, .I x1, .L x2]) (fun e σ' => some (e, σ')) = c_laws_markIntS_L2 F x0 x1 x2 (fun y => some (.exit 0, SSt.mk' ⟨[.full 1000 [] (.int .i64), .int .i64, .undef, .undef, .undef, .undef, .undef, .undef, .undef, .undef, .undef, .undef, .undef, .undef, .undef, .undef, .undef, .undef, .undef], [(1000, .own (.int .i64))]⟩ [.I y.1, .L y.2])) := by kernel_rfl
theorem m_laws_markIntS_L2_ok : ∀ n, (m_laws_markIntS_L2 (n_laws_markIntS_L2 n)).ok Go.Proofs.Try.prog (codeAt (bodyOf Go.Proofs.Try.f47) 2) := by
  intro n
  induction n with
  | zero =>
    intro R ds k r h
    unfold m_laws_markIntS_L2 at h
    obtain ⟨x0, d0, rfl, h0⟩ := dI_some h
    obtain ⟨x1, d1, rfl, h1⟩ := dI_some h0
    obtain ⟨x2, d2, rfl, h2⟩ := dL_some h1
    obtain ⟨rfl, hE⟩ := dE_some h2
    obtain ⟨y, hy, hk⟩ := bnd_some hE
    cases hy
  | succ n ih =>
    intro R ds k r h
    unfold m_laws_markIntS_L2 at h
    obtain ⟨x0, d0, rfl, h0⟩ := dI_some h
    obtain ⟨x1, d1, rfl, h1⟩ := dI_some h0
    obtain ⟨x2, d2, rfl, h2⟩ := dL_some h1
    obtain ⟨rfl, hE⟩ := dE_some h2
    obtain ⟨y, hy, hk⟩ := bnd_some hE
    have hq := q_laws_markIntS_L2 (n_laws_markIntS_L2 n) x0 x1 x2
    rw [c_laws_markIntS_L2_bind] at hq
    rw [show c_laws_markIntS_L2 (n_laws_markIntS_L2 n) x0 x1 x2 some = some y from hy] at hq
    refine ⟨0, _, _, _, hk, rfl, loop_ok px (fx := ⟨Go.Proofs.Try.func47, by kernel_rfl, by kernel_rfl⟩) entsOK_nil (lentsOK_cons ih lentsOK_nil) (by kernel_rfl) ?_⟩
    exact hq
noncomputable def e_laws_markIntS_L2 : Lent := m_laws_markIntS_L2 laws_markIntS_L2
theorem e_laws_markIntS_L2_ok : e_laws_markIntS_L2.ok Go.Proofs.Try.prog (codeAt (bodyOf Go.Proofs.Try.f47) 2) := by
  intro R ds k r h
  unfold e_laws_markIntS_L2 m_laws_markIntS_L2 at h
  obtain ⟨x0, d0, rfl, h0⟩ := dI_some h
  obtain ⟨x1, d1, rfl, h1⟩ := dI_some h0
  obtain ⟨x2, d2, rfl, h2⟩ := dL_some h1
  obtain ⟨rfl, hE⟩ := dE_some h2
  obtain ⟨y, hy, hk⟩ := bnd_some hE
  obtain ⟨n, hn⟩ := ev_some hy
  exact m_laws_markIntS_L2_ok n R _ k r (show (n_laws_markIntS_L2 n x0 x1 x2).bind _ = _ by rw [hn]; exact hk)

/-! loop.example/g00876/laws.markIntS -/
def c_laws_markIntS {R : Type} (x0 : List D) (x1 : Int) (k : Int × List D → Option R) : Option R :=
  (laws_markIntS_L2 x1 (0 : Int) x0).bind (fun y0 =>
    k (y0.fst, y0.snd))
theorem c_laws_markIntS_bind {R : Type} (x0 : List D) (x1 : Int) (k : Int × List D → Option R) : c_laws_markIntS x0 x1 k = (c_laws_markIntS x0 x1 some).bind k := by
  unfold c_laws_markIntS
  repeat' first
    | exact bnd_tail
    | exact bnd_none
    | exact bnd_leaf
    | apply bnd_ite
    | apply bnd_cond
    | apply bnd_sum
    | (apply bnd_bind; intro _)
    | intro _
def laws_markIntS (x0 : List D) (x1 : Int) : Option (Int × List D) := c_laws_markIntS x0 x1 some
def e_laws_markIntS : Ent := ⟨47, [.own (.int .i64), .int .i64], .int .i64, [.own (.int .i64), .undef], fun _ ds k => dL (fun x0 ds => dI (fun x1 ds => dE ((laws_markIntS x0 x1).bind (fun y => k [.I y.1, .L y.2])) ds) ds) ds⟩
theorem q_laws_markIntS (x0 : List D) (x1 : Int) : runFn (ocOf []) (olOf [e_laws_markIntS_L2]) A 47 Go.Proofs.Try.f47 (Sh.mks e_laws_markIntS.sh [.L x0, .I x1]).1 (fun v os => some (v, os)) = c_laws_markIntS x0 x1 (fun y => some ((e_laws_markIntS.res.mk [.I y.1, .L y.2]).1, (Sh.mks e_laws_markIntS.outs (e_laws_markIntS.res.mk [.I y.1, .L y.2]).2).1)) := by kernel_rfl
theorem e_laws_markIntS_ok : e_laws_markIntS.ok Go.Proofs.Try.prog A := by
  intro R ds k r h
  unfold e_laws_markIntS at h
  obtain ⟨x0, d0, rfl, h0⟩ := dL_some h
  obtain ⟨x1, d1, rfl, h1⟩ := dI_some h0
  obtain ⟨rfl, hE⟩ := dE_some h1
  obtain ⟨y, hy, hk⟩ := bnd_some hE
  refine ⟨_, hk, fn_ok px (fx := ⟨Go.Proofs.Try.func47, by kernel_rfl, by kernel_rfl⟩) entsOK_nil (lentsOK_cons e_laws_markIntS_L2_ok lentsOK_nil) ?_⟩
  have hq := q_laws_markIntS x0 x1
  rw [c_laws_markIntS_bind] at hq
  rw [show c_laws_markIntS x0 x1 some = some y from hy] at hq
  exact hq

/-! loop.example/g00876/laws.markBoolS, loop 2 -/
def c_laws_markBoolS_L2 {R : Type} (F : Int → Int → List D → Option (Int × List D)) (x0 : Int) (x1 : Int) (x2 : List D) (k : Int × List D → Option R) : Option R :=
  bif Decidable.decide (x1 < (↑x2.length : Int)) then
    if (3 : Int) ≠ (0 : Int) then
      if (0 : Int) ≤ x1 ∧ x1 < (↑x2.length : Int) then
        if x1.toNat + (1 : Nat) ≤ x2.length then
          (F (Go.IntKind.i64.wrap (x0 + (1 : Int))) (Go.IntKind.i64.wrap (x1 + (1 : Int))) (x2.set x1.toNat (Go.Rai.D.bool (Decidable.decide (x0.tmod (3 : Int) = (0 : Int)))))).bind k
        else
          none
      else
        none
    else
      none
  else
    k (x0, x2)
theorem c_laws_markBoolS_L2_bind {R : Type} (F : Int → Int → List D → Option (Int × List D)) (x0 : Int) (x1 : Int) (x2 : List D) (k : Int × List D → Option R) : c_laws_markBoolS_L2 F x0 x1 x2 k = (c_laws_markBoolS_L2 F x0 x1 x2 some).bind k := by
  unfold c_laws_markBoolS_L2
  repeat' first
    | exact bnd_tail
    | exact bnd_none
    | exact bnd_leaf
    | apply bnd_ite
    | apply bnd_cond
    | apply bnd_sum
    | (apply bnd_bind; intro _)
    | intro _
def n_laws_markBoolS_L2 : Nat → Int → Int → List D → Option (Int × List D)
  | 0, _, _, _ => none
  | n + 1, x0, x1, x2 => c_laws_markBoolS_L2 (n_laws_markBoolS_L2 n) x0 x1 x2 some
noncomputable def laws_markBoolS_L2 (x0 : Int) (x1 : Int) (x2 : List D) : Option (Int × List D) := ev (fun n => n_laws_markBoolS_L2 n x0 x1 x2)
def m_laws_markBoolS_L2 (F : Int → Int → List D → Option (Int × List D)) : Lent := ⟨2, ⟨[.full 1000 [] (.bool), .int .i64, .undef, .undef, .undef, .int .i64, .undef, .undef, .undef, .undef, .undef, .undef, .undef, .undef, .undef, .undef, .undef, .undef, .undef, .undef, .undef], [(1000, .own (.bool))]⟩, [(.exit 0, ⟨[.full 1000 [] (.bool), .int .i64, .undef, .undef, .undef, .undef, .undef, .undef, .undef, .undef, .undef, .undef, .undef, .undef, .undef, .undef, .undef, .undef, .undef, .undef, .undef], [(1000, .own (.bool))]⟩)], fun _ ds k => dI (fun x0 ds => dI (fun x1 ds => dL (fun x2 ds => dE ((F x0 x1 x2).bind (fun y => k 0 [.I y.1, .L y.2])) ds) ds) ds) ds⟩
theorem q_laws_markBoolS_L2 (F : Int → Int → List D → Option (Int × List D)) (x0 : Int) (x1 : Int) (x2 : List D) : runLoop (ocOf []) (olOf [m_laws_markBoolS_L2 F]) A 48 (codeAt (bodyOf Go.Proofs.Try.f48) 2) ((m_laws_markBoolS_L2 F).sh.mk' [.I x0, .I x1, .L x2]) (fun e σ' => some (e, σ')) = c_laws_markBoolS_L2 F x0 x1 x2 (fun y => some (.exit 0, SSt.mk' ⟨[.full 1000 [] (.bool), .int .i64, .undef, .undef, .undef, .undef, .undef, .undef, .undef, .undef, .undef, .undef, .undef, .undef, .undef, .undef, .undef, .undef, .undef, .undef, .undef], [(1000, .own (.bool))]⟩ [.I y.1, .L y.2])) := by kernel_rfl
theorem m_laws_markBoolS_L2_ok : ∀ n, (m_laws_markBoolS_L2 (n_laws_markBoolS_L2 n)).ok Go.Proofs.Try.prog (codeAt (bodyOf Go.Proofs.Try.f48) 2) := by
  intro n
  induction n with
  | zero =>
    intro R ds k r h
    unfold m_laws_markBoolS_L2 at h
    obtain ⟨x0, d0, rfl, h0⟩ := dI_some h
    obtain ⟨x1, d1, rfl, h1⟩ := dI_some h0
    obtain ⟨x2, d2, rfl, h2⟩ := dL_some h1
    obtain ⟨rfl, hE⟩ := dE_some h2
    obtain ⟨y, hy, hk⟩ := bnd_some hE
    cases hy
  | succ n ih =>
    intro R ds k r h
    unfold m_laws_markBoolS_L2 at h
    obtain ⟨x0, d0, rfl, h0⟩ := dI_some h
    obtain ⟨x1, d1, rfl, h1⟩ := dI_some h0
    obtain ⟨x2, d2, rfl, h2⟩ := dL_some h1
    obtain ⟨rfl, hE⟩ := dE_some h2
    obtain ⟨y, hy, hk⟩ := bnd_some hE
    have hq := q_laws_markBoolS_L2 (n_laws_markBoolS_L2 n) x0 x1 x2
    rw [c_laws_markBoolS_L2_bind] at hq
    rw [show c_laws_markBoolS_L2 (n_laws_markBoolS_L2 n) x0 x1 x2 some = some y from hy] at hq
    refine ⟨0, _, _, _, hk, rfl, loop_ok px (fx := ⟨Go.Proofs.Try.func48, by kernel_rfl, by kernel_rfl⟩) entsOK_nil (lentsOK_cons ih lentsOK_nil) (by kernel_rfl) ?_⟩
    exact hq
noncomputable def e_laws_markBoolS_L2 : Lent := m_laws_markBoolS_L2 laws_markBoolS_L2
theorem e_laws_markBoolS_L2_ok : e_laws_markBoolS_L2.ok Go.Proofs.Try.prog (codeAt (bodyOf Go.Proofs.Try.f48) 2) := by
  intro R ds k r h
  unfold e_laws_markBoolS_L2 m_laws_markBoolS_L2 at h
  obtain ⟨x0, d0, rfl, h0⟩ := dI_some h
  obtain ⟨x1, d1, rfl, h1⟩ := dI_some h0
  obtain ⟨x2, d2, rfl, h2⟩ := dL_some h1
  obtain ⟨rfl, hE⟩ := dE_some h2
  obtain ⟨y, hy, hk⟩ := bnd_some hE
  obtain ⟨n, hn⟩ := ev_some hy
  exact m_laws_markBoolS_L2_ok n R _ k r (show (n_laws_markBoolS_L2 n x0 x1 x2).bind _ = _ by rw [hn]; exact hk)

/-! loop.example/g00876/laws.markBoolS -/
def c_laws_markBoolS {R : Type} (x0 : List D) (x1 : Int) (k : Int × List D → Option R) : Option R :=
  (laws_markBoolS_L2 x1 (0 : Int) x0).bind (fun y0 =>
    k (y0.fst, y0.snd))
theorem c_laws_markBoolS_bind {R : Type} (x0 : List D) (x1 : Int) (k : Int × List D → Option R) : c_laws_markBoolS x0 x1 k = (c_laws_markBoolS x0 x1 some).bind k := by
  unfold c_laws_markBoolS
  repeat' first
    | exact bnd_tail
    | exact bnd_none
    | exact bnd_leaf
    | apply bnd_ite
    | apply bnd_cond
    | apply bnd_sum
    | (apply bnd_bind; intro _)
    | intro _
def laws_markBoolS (x0 : List D) (x1 : Int) : Option (Int × List D) := c_laws_markBoolS x0 x1 some
def e_laws_markBoolS : Ent := ⟨48, [.own (.bool), .int .i64], .int .i64, [.own (.bool), .undef], fun _ ds k => dL (fun x0 ds => dI (fun x1 ds => dE ((laws_markBoolS x0 x1).bind (fun y => k [.I y.1, .L y.2])) ds) ds) ds⟩
theorem q_laws_markBoolS (x0 : List D) (x1 : Int) : runFn (ocOf []) (olOf [e_laws_markBoolS_L2]) A 48 Go.Proofs.Try.f48 (Sh.mks e_laws_markBoolS.sh [.L x0, .I x1]).1 (fun v os => some (v, os)) = c_laws_markBoolS x0 x1 (fun y => some ((e_laws_markBoolS.res.mk [.I y.1, .L y.2]).1, (Sh.mks e_laws_markBoolS.outs (e_laws_markBoolS.res.mk [.I y.1, .L y.2]).2).1)) := by kernel_rfl
theorem e_laws_markBoolS_ok : e_laws_markBoolS.ok Go.Proofs.Try.prog A := by
  intro R ds k r h
  unfold e_laws_markBoolS at h
  obtain ⟨x0, d0, rfl, h0⟩ := dL_some h
  obtain ⟨x1, d1, rfl, h1⟩ := dI_some h0
  obtain ⟨rfl, hE⟩ := dE_some h1
  obtain ⟨y, hy, hk⟩ := bnd_some hE
  refine ⟨_, hk, fn_ok px (fx := ⟨Go.Proofs.Try.func48, by kernel_rfl, by kernel_rfl⟩) entsOK_nil (lentsOK_cons e_laws_markBoolS_L2_ok lentsOK_nil) ?_⟩
  have hq := q_laws_markBoolS x0 x1
  rw [c_laws_markBoolS_bind] at hq
  rw [show c_laws_markBoolS x0 x1 some = some y from hy] at hq
  exact hq

/-! loop.example/g00876/laws.heldIntS, loop 2 -/
def c_laws_heldIntS_L2 {R : Type} (F : List D → Int → Int → Option ((Int × Int) ⊕ (Int))) (x0 : List D) (x1 : Int) (x2 : Int) (k : (Int × Int) ⊕ (Int) → Option R) : Option R :=
  bif Decidable.decide (x2 < (↑x0.length : Int)) then
    if (0 : Int) ≤ x2 ∧ x2 < (↑x0.length : Int) then
      bif !Decidable.decide ((x0.getD x2.toNat (Go.Rai.D.int (0 : Int))).toInt = x1) then
        k (.inl (x1, (-1 : Int)))
      else
        (F x0 (Go.IntKind.i64.wrap (x1 + (1 : Int))) (Go.IntKind.i64.wrap (x2 + (1 : Int)))).bind k
    else
      none
  else
    k (.inr x1)
theorem c_laws_heldIntS_L2_bind {R : Type} (F : List D → Int → Int → Option ((Int × Int) ⊕ (Int))) (x0 : List D) (x1 : Int) (x2 : Int) (k : (Int × Int) ⊕ (Int) → Option R) : c_laws_heldIntS_L2 F x0 x1 x2 k = (c_laws_heldIntS_L2 F x0 x1 x2 some).bind k := by
  unfold c_laws_heldIntS_L2
  repeat' first
    | exact bnd_tail
    | exact bnd_none
    | exact bnd_leaf
    | apply bnd_ite
    | apply bnd_cond
    | apply bnd_sum
    | (apply bnd_bind; intro _)
    | intro _
def n_laws_heldIntS_L2 : Nat → List D → Int → Int → Option ((Int × Int) ⊕ (Int))
  | 0, _, _, _ => none
  | n + 1, x0, x1, x2 => c_laws_heldIntS_L2 (n_laws_heldIntS_L2 n) x0 x1 x2 some
noncomputable def laws_heldIntS_L2 (x0 : List D) (x1 : Int) (x2 : Int) : Option ((Int × Int) ⊕ (Int)) := ev (fun n => n_laws_heldIntS_L2 n x0 x1 x2)
def m_laws_heldIntS_L2 (F : List D → Int → Int → Option ((Int × Int) ⊕ (Int))) : Lent := ⟨2, ⟨[.rd (.int .i64), .int .i64, .undef, .undef, .undef, .int .i64, .undef, .undef, .undef, .undef, .undef, .undef, .undef, .undef, .undef, .undef, .undef, .undef, .undef, .undef, .undef], []⟩, [(.ret, ⟨[.undef, .int .i64, .undef, .undef, .int .i64, .undef, .undef, .undef, .undef, .undef, .undef, .undef, .undef, .undef, .undef, .undef, .undef, .undef, .undef, .undef, .undef], []⟩), (.exit 0, ⟨[.undef, .int .i64, .undef, .undef, .undef, .undef, .undef, .undef, .undef, .undef, .undef, .undef, .undef, .undef, .undef, .undef, .undef, .undef, .undef, .undef, .undef], []⟩)], fun _ ds k => dL (fun x0 ds => dI (fun x1 ds => dI (fun x2 ds => dE ((F x0 x1 x2).bind (Sum.elim (fun y => k 0 [.I y.1, .I y.2]) (fun y => k 1 [.I y]))) ds) ds) ds) ds⟩
theorem q_laws_heldIntS_L2 (F : List D → Int → Int → Option ((Int × Int) ⊕ (Int))) (x0 : List D) (x1 : Int) (x2 : Int) : runLoop (ocOf []) (olOf [m_laws_heldIntS_L2 F]) A 49 (codeAt (bodyOf Go.Proofs.Try.f49) 2) ((m_laws_heldIntS_L2 F).sh.mk' [.L x0, .I x1, .I x2]) (fun e σ' => some (e, σ')) = c_laws_heldIntS_L2 F x0 x1 x2 (Sum.elim (fun y => some (.ret, SSt.mk' ⟨[.undef, .int .i64, .undef, .undef, .int .i64, .undef, .undef, .undef, .undef, .undef, .undef, .undef, .undef, .undef, .undef, .undef, .undef, .undef, .undef, .undef, .undef], []⟩ [.I y.1, .I y.2])) (fun y => some (.exit 0, SSt.mk' ⟨[.undef, .int .i64, .undef, .undef, .undef, .undef, .undef, .undef, .undef, .undef, .undef, .undef, .undef, .undef, .undef, .undef, .undef, .undef, .undef, .undef, .undef], []⟩ [.I y]))) := by kernel_rfl
theorem m_laws_heldIntS_L2_ok : ∀ n, (m_laws_heldIntS_L2 (n_laws_heldIntS_L2 n)).ok Go.Proofs.Try.prog (codeAt (bodyOf Go.Proofs.Try.f49) 2) := by
  intro n
  induction n with
  | zero =>
    intro R ds k r h
    unfold m_laws_heldIntS_L2 at h
    obtain ⟨x0, d0, rfl, h0⟩ := dL_some h
    obtain ⟨x1, d1, rfl, h1⟩ := dI_some h0
    obtain ⟨x2, d2, rfl, h2⟩ := dI_some h1
    obtain ⟨rfl, hE⟩ := dE_some h2
    obtain ⟨y, hy, hk⟩ := bnd_some hE
    cases hy
  | succ n ih =>
    intro R ds k r h
    unfold m_laws_heldIntS_L2 at h
    obtain ⟨x0, d0, rfl, h0⟩ := dL_some h
    obtain ⟨x1, d1, rfl, h1⟩ := dI_some h0
    obtain ⟨x2, d2, rfl, h2⟩ := dI_some h1
    obtain ⟨rfl, hE⟩ := dE_some h2
    obtain ⟨y, hy, hk⟩ := bnd_some hE
    have hq := q_laws_heldIntS_L2 (n_laws_heldIntS_L2 n) x0 x1 x2
    rw [c_laws_heldIntS_L2_bind] at hq
    rw [show c_laws_heldIntS_L2 (n_laws_heldIntS_L2 n) x0 x1 x2 some = some y from hy] at hq
    cases y with
    | inl y =>
      refine ⟨0, _, _, _, hk, rfl, loop_ok px (fx := ⟨Go.Proofs.Try.func49, by kernel_rfl, by kernel_rfl⟩) entsOK_nil (lentsOK_cons ih lentsOK_nil) (by kernel_rfl) ?_⟩
      exact hq
    | inr y =>
      refine ⟨1, _, _, _, hk, rfl, loop_ok px (fx := ⟨Go.Proofs.Try.func49, by kernel_rfl, by kernel_rfl⟩) entsOK_nil (lentsOK_cons ih lentsOK_nil) (by kernel_rfl) ?_⟩
      exact hq
noncomputable def e_laws_heldIntS_L2 : Lent := m_laws_heldIntS_L2 laws_heldIntS_L2
theorem e_laws_heldIntS_L2_ok : e_laws_heldIntS_L2.ok Go.Proofs.Try.prog (codeAt (bodyOf Go.Proofs.Try.f49) 2) := by
  intro R ds k r h
  unfold e_laws_heldIntS_L2 m_laws_heldIntS_L2 at h
  obtain ⟨x0, d0, rfl, h0⟩ := dL_some h
  obtain ⟨x1, d1, rfl, h1⟩ := dI_some h0
  obtain ⟨x2, d2, rfl, h2⟩ := dI_some h1
  obtain ⟨rfl, hE⟩ := dE_some h2
  obtain ⟨y, hy, hk⟩ := bnd_some hE
  obtain ⟨n, hn⟩ := ev_some hy
  exact m_laws_heldIntS_L2_ok n R _ k r (show (n_laws_heldIntS_L2 n x0 x1 x2).bind _ = _ by rw [hn]; exact hk)

/-! loop.example/g00876/laws.heldIntS -/
def c_laws_heldIntS {R : Type} (x0 : List D) (x1 : Int) (k : Int → Option R) : Option R :=
  (laws_heldIntS_L2 x0 x1 (0 : Int)).bind (Sum.elim (fun y0 =>
    k y0.snd) (fun y1 =>
    k y1))
theorem c_laws_heldIntS_bind {R : Type} (x0 : List D) (x1 : Int) (k : Int → Option R) : c_laws_heldIntS x0 x1 k = (c_laws_heldIntS x0 x1 some).bind k := by
  unfold c_laws_heldIntS
  repeat' first
    | exact bnd_tail
    | exact bnd_none
    | exact bnd_leaf
    | apply bnd_ite
    | apply bnd_cond
    | apply bnd_sum
    | (apply bnd_bind; intro _)
    | intro _
def laws_heldIntS (x0 : List D) (x1 : Int) : Option (Int) := c_laws_heldIntS x0 x1 some
def e_laws_heldIntS : Ent := ⟨49, [.rd (.int .i64), .int .i64], .int .i64, [.undef, .undef], fun _ ds k => dL (fun x0 ds => dI (fun x1 ds => dE ((laws_heldIntS x0 x1).bind (fun y => k [.I y])) ds) ds) ds⟩
theorem q_laws_heldIntS (x0 : List D) (x1 : Int) : runFn (ocOf []) (olOf [e_laws_heldIntS_L2]) A 49 Go.Proofs.Try.f49 (Sh.mks e_laws_heldIntS.sh [.L x0, .I x1]).1 (fun v os => some (v, os)) = c_laws_heldIntS x0 x1 (fun y => some ((e_laws_heldIntS.res.mk [.I y]).1, (Sh.mks e_laws_heldIntS.outs (e_laws_heldIntS.res.mk [.I y]).2).1)) := by kernel_rfl
theorem e_laws_heldIntS_ok : e_laws_heldIntS.ok Go.Proofs.Try.prog A := by
  intro R ds k r h
  unfold e_laws_heldIntS at h
  obtain ⟨x0, d0, rfl, h0⟩ := dL_some h
  obtain ⟨x1, d1, rfl, h1⟩ := dI_some h0
  obtain ⟨rfl, hE⟩ := dE_some h1
  obtain ⟨y, hy, hk⟩ := bnd_some hE
  refine ⟨_, hk, fn_ok px (fx := ⟨Go.Proofs.Try.func49, by kernel_rfl, by kernel_rfl⟩) entsOK_nil (lentsOK_cons e_laws_heldIntS_L2_ok lentsOK_nil) ?_⟩
  have hq := q_laws_heldIntS x0 x1
  rw [c_laws_heldIntS_bind] at hq
  rw [show c_laws_heldIntS x0 x1 some = some y from hy] at hq
  exact hq

/-! loop.example/g00876/laws.heldBoolS, loop 2 -/
def c_laws_heldBoolS_L2 {R : Type} (F : List D → Int → Int → Option ((Int × Int) ⊕ (Int))) (x0 : List D) (x1 : Int) (x2 : Int) (k : (Int × Int) ⊕ (Int) → Option R) : Option R :=
  bif Decidable.decide (x2 < (↑x0.length : Int)) then
    if (0 : Int) ≤ x2 ∧ x2 < (↑x0.length : Int) then
      if (3 : Int) ≠ (0 : Int) then
        bif !(x0.getD x2.toNat (Go.Rai.D.int (0 : Int))).toBool == Decidable.decide (x1.tmod (3 : Int) = (0 : Int)) then
          k (.inl (x1, (-1 : Int)))
        else
          (F x0 (Go.IntKind.i64.wrap (x1 + (1 : Int))) (Go.IntKind.i64.wrap (x2 + (1 : Int)))).bind k
      else
        none
    else
      none
  else
    k (.inr x1)
theorem c_laws_heldBoolS_L2_bind {R : Type} (F : List D → Int → Int → Option ((Int × Int) ⊕ (Int))) (x0 : List D) (x1 : Int) (x2 : Int) (k : (Int × Int) ⊕ (Int) → Option R) : c_laws_heldBoolS_L2 F x0 x1 x2 k = (c_laws_heldBoolS_L2 F x0 x1 x2 some).bind k := by
  unfold c_laws_heldBoolS_L2
  repeat' first
    | exact bnd_tail
    | exact bnd_none
    | exact bnd_leaf
    | apply bnd_ite
    | apply bnd_cond
    | apply bnd_sum
    | (apply bnd_bind; intro _)
    | intro _
def n_laws_heldBoolS_L2 : Nat → List D → Int → Int → Option ((Int × Int) ⊕ (Int))
  | 0, _, _, _ => none
  | n + 1, x0, x1, x2 => c_laws_heldBoolS_L2 (n_laws_heldBoolS_L2 n) x0 x1 x2 some
noncomputable def laws_heldBoolS_L2 (x0 : List D) (x1 : Int) (x2 : Int) : Option ((Int × Int) ⊕ (Int)) := ev (fun n => n_laws_heldBoolS_L2 n x0 x1 x2)
def m_laws_heldBoolS_L2 (F : List D → Int → Int → Option ((Int × Int) ⊕ (Int))) : Lent := ⟨2, ⟨[.rd (.bool), .int .i64, .undef, .undef, .undef, .int .i64, .undef, .undef, .undef, .undef, .undef, .undef, .undef, .undef, .undef, .undef, .undef, .undef, .undef, .undef, .undef, .undef, .undef], []⟩, [(.ret, ⟨[.undef, .int .i64, .undef, .undef, .int .i64, .undef, .undef, .undef, .undef, .undef, .undef, .undef, .undef, .undef, .undef, .undef, .undef, .undef, .undef, .undef, .undef, .undef, .undef], []⟩), (.exit 0, ⟨[.undef, .int .i64, .undef, .undef, .undef, .undef, .undef, .undef, .undef, .undef, .undef, .undef, .undef, .undef, .undef, .undef, .undef, .undef, .undef, .undef, .undef, .undef, .undef], []⟩)], fun _ ds k => dL (fun x0 ds => dI (fun x1 ds => dI (fun x2 ds => dE ((F x0 x1 x2).bind (Sum.elim (fun y => k 0 [.I y.1, .I y.2]) (fun y => k 1 [.I y]))) ds) ds) ds) ds⟩
theorem q_laws_heldBoolS_L2 (F : List D → Int → Int → Option ((Int × Int) ⊕ (Int))) (x0 : List D) (x1 : Int) (x2 : Int) : runLoop (ocOf []) (olOf [m_laws_heldBoolS_L2 F]) A 50 (codeAt (bodyOf Go.Proofs.Try.f50) 2) ((m_laws_heldBoolS_L2 F).sh.mk' [.L x0, .I x1, .I x2]) (fun e σ' => some (e, σ')) = c_laws_heldBoolS_L2 F x0 x1 x2 (Sum.elim (fun y => some (.ret, SSt.mk' ⟨[.undef, .int .i64, .undef, .undef, .int .i64, .undef, .undef, .undef, .undef, .undef, .undef, .undef, .undef, .undef, .undef, .undef, .undef, .undef, .undef, .undef, .undef, .undef, .undef], []⟩ [.I y.1, .I y.2])) (fun y => some (.exit 0, SSt.mk' ⟨[.undef, .int .i64, .undef, .undef, .undef, .undef, .undef, .undef, .undef, .undef, .undef, .undef, .undef, .undef, .undef, .undef, .undef, .undef, .undef, .undef, .undef, .undef, .undef], []⟩ [.I y]))) := by kernel_rfl
theorem m_laws_heldBoolS_L2_ok : ∀ n, (m_laws_heldBoolS_L2 (n_laws_heldBoolS_L2 n)).ok Go.Proofs.Try.prog (codeAt (bodyOf Go.Proofs.Try.f50) 2) := by
  intro n
  induction n with
  | zero =>
    intro R ds k r h
    unfold m_laws_heldBoolS_L2 at h
    obtain ⟨x0, d0, rfl, h0⟩ := dL_some h
    obtain ⟨x1, d1, rfl, h1⟩ := dI_some h0
    obtain ⟨x2, d2, rfl, h2⟩ := dI_some h1
    obtain ⟨rfl, hE⟩ := dE_some h2
    obtain ⟨y, hy, hk⟩ := bnd_some hE
    cases hy
  | succ n ih =>
    intro R ds k r h
    unfold m_laws_heldBoolS_L2 at h
    obtain ⟨x0, d0, rfl, h0⟩ := dL_some h
    obtain ⟨x1, d1, rfl, h1⟩ := dI_some h0
    obtain ⟨x2, d2, rfl, h2⟩ := dI_some h1
    obtain ⟨rfl, hE⟩ := dE_some h2
    obtain ⟨y, hy, hk⟩ := bnd_some hE
    have hq := q_laws_heldBoolS_L2 (n_laws_heldBoolS_L2 n) x0 x1 x2
    rw [c_laws_heldBoolS_L2_bind] at hq
    rw [show c_laws_heldBoolS_L2 (n_laws_heldBoolS_L2 n) x0 x1 x2 some = some y from hy] at hq
    cases y with
    | inl y =>
      refine ⟨0, _, _, _, hk, rfl, loop_ok px (fx := ⟨Go.Proofs.Try.func50, by kernel_rfl, by kernel_rfl⟩) entsOK_nil (lentsOK_cons ih lentsOK_nil) (by kernel_rfl) ?_⟩
      exact hq
    | inr y =>
      refine ⟨1, _, _, _, hk, rfl, loop_ok px (fx := ⟨Go.Proofs.Try.func50, by kernel_rfl, by kernel_rfl⟩) entsOK_nil (lentsOK_cons ih lentsOK_nil) (by kernel_rfl) ?_⟩
      exact hq
noncomputable def e_laws_heldBoolS_L2 : Lent := m_laws_heldBoolS_L2 laws_heldBoolS_L2
theorem e_laws_heldBoolS_L2_ok : e_laws_heldBoolS_L2.ok Go.Proofs.Try.prog (codeAt (bodyOf Go.Proofs.Try.f50) 2) := by
  intro R ds k r h
  unfold e_laws_heldBoolS_L2 m_laws_heldBoolS_L2 at h
  obtain ⟨x0, d0, rfl, h0⟩ := dL_some h
  obtain ⟨x1, d1, rfl, h1⟩ := dI_some h0
  obtain ⟨x2, d2, rfl, h2⟩ := dI_some h1
  obtain ⟨rfl, hE⟩ := dE_some h2
  obtain ⟨y, hy, hk⟩ := bnd_some hE
  obtain ⟨n, hn⟩ := ev_some hy
  exact m_laws_heldBoolS_L2_ok n R _ k r (show (n_laws_heldBoolS_L2 n x0 x1 x2).bind _ = _ by rw [hn]; exact hk)

/-! loop.example/g00876/laws.heldBoolS -/
def c_laws_heldBoolS {R : Type} (x0 : List D) (x1 : Int) (k : Int → Option R) : Option R :=
  (laws_heldBoolS_L2 x0 x1 (0 : Int)).bind (Sum.elim (fun y0 =>
    k y0.snd) (fun y1 =>
    k y1))
theorem c_laws_heldBoolS_bind {R : Type} (x0 : List D) (x1 : Int) (k : Int → Option R) : c_laws_heldBoolS x0 x1 k = (c_laws_heldBoolS x0 x1 some).bind k := by
  unfold c_laws_heldBoolS
  repeat' first
    | exact bnd_tail
    | exact bnd_none
    | exact bnd_leaf
    | apply bnd_ite
    | apply bnd_cond
    | apply bnd_sum
    | (apply bnd_bind; intro _)
    | intro _
def laws_heldBoolS (x0 : List D) (x1 : Int) : Option (Int) := c_laws_heldBoolS x0 x1 some
def e_laws_heldBoolS : Ent := ⟨50, [.rd (.bool), .int .i64], .int .i64, [.undef, .undef], fun _ ds k => dL (fun x0 ds => dI (fun x1 ds => dE ((laws_heldBoolS x0 x1).bind (fun y => k [.I y])) ds) ds) ds⟩
theorem q_laws_heldBoolS (x0 : List D) (x1 : Int) : runFn (ocOf []) (olOf [e_laws_heldBoolS_L2]) A 50 Go.Proofs.Try.f50 (Sh.mks e_laws_heldBoolS.sh [.L x0, .I x1]).1 (fun v os => some (v, os)) = c_laws_heldBoolS x0 x1 (fun y => some ((e_laws_heldBoolS.res.mk [.I y]).1, (Sh.mks e_laws_heldBoolS.outs (e_laws_heldBoolS.res.mk [.I y]).2).1)) := by kernel_rfl
theorem e_laws_heldBoolS_ok : e_laws_heldBoolS.ok Go.Proofs.Try.prog A := by
  intro R ds k r h
  unfold e_laws_heldBoolS at h
  obtain ⟨x0, d0, rfl, h0⟩ := dL_some h
  obtain ⟨x1, d1, rfl, h1⟩ := dI_some h0
  obtain ⟨rfl, hE⟩ := dE_some h1
  obtain ⟨y, hy, hk⟩ := bnd_some hE
  refine ⟨_, hk, fn_ok px (fx := ⟨Go.Proofs.Try.func50, by kernel_rfl, by kernel_rfl⟩) entsOK_nil (lentsOK_cons e_laws_heldBoolS_L2_ok lentsOK_nil) ?_⟩
  have hq := q_laws_heldBoolS x0 x1
  rw [c_laws_heldBoolS_bind] at hq
  rw [show c_laws_heldBoolS x0 x1 some = some y from hy] at hq
  exact hq

/-! loop.example/g00876/laws.FnExactSpanningHeights -/
def c_laws_FnExactSpanningHeights {R : Type} (x0 : List D) (x1 : Int) (x2 : Int) (k : Bool → Option R) : Option R :=
  (laws_szHeightLineS x0 (1048576 : Int)).bind (fun y0 =>
    bif Decidable.decide (y0 < (0 : Int)) then
      k Bool.true
    else
      (laws_toHeightLineS x0).bind (fun y1 =>
        (spec_SpanningHeights y1 x1 x2).bind (fun y2 =>
          (laws_toHeightLineS x0).bind (fun y3 =>
            (impl_SpanningHeights y3 x1 x2).bind (fun y4 =>
              (laws_eqIntS y4.fst y2.fst).bind (fun y5 =>
                bif !y5 then
                  k Bool.false
                else
                  (laws_eqBoolS y4.snd.fst y2.snd.fst).bind (fun y6 =>
                    bif !y6 then
                      k Bool.false
                    else
                      bif !y4.snd.snd == y2.snd.snd then
                        k Bool.false
                      else
                        (laws_toHeightLineS x0).bind (fun y7 =>
                          (laws_eqHeightLineS y3 y7).bind (fun y8 =>
                            bif !y8 then
                              k Bool.false
                            else
                              (laws_markHeightLineS y3 (1 : Int)).bind (fun y9 =>
                                bif Decidable.decide (y9.fst < (0 : Int)) then
                                  k Bool.false
                                else
                                  (laws_eqIntS y4.fst y2.fst).bind (fun y10 =>
                                    bif !y10 then
                                      k Bool.false
                                    else
                                      (laws_eqBoolS y4.snd.fst y2.snd.fst).bind (fun y11 =>
                                        bif !y11 then
                                          k Bool.false
                                        else
                                          bif !y4.snd.snd == y2.snd.snd then
                                            k Bool.false
                                          else
                                            (laws_markIntS y4.fst (1 : Int)).bind (fun y12 =>
                                              (laws_markBoolS y4.snd.fst y12.fst).bind (fun y13 =>
                                                (laws_heldIntS y12.snd (1 : Int)).bind (fun y14 =>
                                                  bif Decidable.decide (y14 < (0 : Int)) then
                                                    k Bool.false
                                                  else
                                                    (laws_heldBoolS y13.snd y14).bind (fun y15 =>
                                                      bif Decidable.decide (y15 < (0 : Int)) then
                                                        k Bool.false
                                                      else
                                                        bif !Decidable.decide (y15 = y13.fst) then
                                                          k Bool.false
                                                        else
                                                          (laws_toHeightLineS x0).bind (fun y16 =>
                                                            (impl_SpanningHeights y16 x1 x2).bind (fun y17 =>
                                                              (laws_eqIntS y17.fst y2.fst).bind (fun y18 =>
                                                                bif !y18 then
                                                                  k Bool.false
                                                                else
                                                                  (laws_eqBoolS y17.snd.fst y2.snd.fst).bind (fun y19 =>
                                                                    bif !y19 then
                                                                      k Bool.false
                                                                    else
                                                                      bif !y17.snd.snd == y2.snd.snd then
                                                                        k Bool.false
                                                                      else
                                                                        (laws_heldIntS y12.snd (1 : Int)).bind (fun y20 =>
                                                                          bif Decidable.decide (y20 < (0 : Int)) then
                                                                            k Bool.false
                                                                          else
                                                                            (laws_heldBoolS y13.snd y20).bind (fun y21 =>
                                                                              bif Decidable.decide (y21 < (0 : Int)) then
                                                                                k Bool.false
                                                                              else
                                                                                bif !Decidable.decide (y21 = y13.fst) then
                                                                                  k Bool.false
                                                                                else
                                                                                  k Bool.true))))))))))))))))))))))
theorem c_laws_FnExactSpanningHeights_bind {R : Type} (x0 : List D) (x1 : Int) (x2 : Int) (k : Bool → Option R) : c_laws_FnExactSpanningHeights x0 x1 x2 k = (c_laws_FnExactSpanningHeights x0 x1 x2 some).bind k := by
  unfold c_laws_FnExactSpanningHeights
  repeat' first
    | exact bnd_tail
    | exact bnd_none
    | exact bnd_leaf
    | apply bnd_ite
    | apply bnd_cond
    | apply bnd_sum
    | (apply bnd_bind; intro _)
    | intro _
def laws_FnExactSpanningHeights (x0 : List D) (x1 : Int) (x2 : Int) : Option (Bool) := c_laws_FnExactSpanningHeights x0 x1 x2 some
def e_laws_FnExactSpanningHeights : Ent := ⟨8, [.rd (.struct [.int .i64, .int .i64, .int .i64, .int .i64]), .int .i64, .int .i64], .bool, [.undef, .undef, .undef], fun _ ds k => dL (fun x0 ds => dI (fun x1 ds => dI (fun x2 ds => dE ((laws_FnExactSpanningHeights x0 x1 x2).bind (fun y => k [.B y])) ds) ds) ds) ds⟩
theorem q_laws_FnExactSpanningHeights (x0 : List D) (x1 : Int) (x2 : Int) : runFn (ocOf [e_laws_szHeightLineS, e_laws_toHeightLineS, e_spec_SpanningHeights, e_impl_SpanningHeights, e_laws_eqIntS, e_laws_eqBoolS, e_laws_eqHeightLineS, e_laws_markHeightLineS, e_laws_markIntS, e_laws_markBoolS, e_laws_heldIntS, e_laws_heldBoolS]) (olOf []) A 8 Go.Proofs.Try.f8 (Sh.mks e_laws_FnExactSpanningHeights.sh [.L x0, .I x1, .I x2]).1 (fun v os => some (v, os)) = c_laws_FnExactSpanningHeights x0 x1 x2 (fun y => some ((e_laws_FnExactSpanningHeights.res.mk [.B y]).1, (Sh.mks e_laws_FnExactSpanningHeights.outs (e_laws_FnExactSpanningHeights.res.mk [.B y]).2).1)) := by kernel_rfl
theorem e_laws_FnExactSpanningHeights_ok : e_laws_FnExactSpanningHeights.ok Go.Proofs.Try.prog A := by
  intro R ds k r h
  unfold e_laws_FnExactSpanningHeights at h
  obtain ⟨x0, d0, rfl, h0⟩ := dL_some h
  obtain ⟨x1, d1, rfl, h1⟩ := dI_some h0
  obtain ⟨x2, d2, rfl, h2⟩ := dI_some h1
  obtain ⟨rfl, hE⟩ := dE_some h2
  obtain ⟨y, hy, hk⟩ := bnd_some hE
  refine ⟨_, hk, fn_ok px (fx := ⟨Go.Proofs.Try.func8, by kernel_rfl, by kernel_rfl⟩) (entsOK_cons e_laws_szHeightLineS_ok (entsOK_cons e_laws_toHeightLineS_ok (entsOK_cons e_spec_SpanningHeights_ok (entsOK_cons e_impl_SpanningHeights_ok (entsOK_cons e_laws_eqIntS_ok (entsOK_cons e_laws_eqBoolS_ok (entsOK_cons e_laws_eqHeightLineS_ok (entsOK_cons e_laws_markHeightLineS_ok (entsOK_cons e_laws_markIntS_ok (entsOK_cons e_laws_markBoolS_ok (entsOK_cons e_laws_heldIntS_ok (entsOK_cons e_laws_heldBoolS_ok entsOK_nil)))))))))))) lentsOK_nil ?_⟩
  have hq := q_laws_FnExactSpanningHeights x0 x1 x2
  rw [c_laws_FnExactSpanningHeights_bind] at hq
  rw [show c_laws_FnExactSpanningHeights x0 x1 x2 some = some y from hy] at hq
  exact hq
end
end Go.Proofs.Yticcpkmednijlaa
