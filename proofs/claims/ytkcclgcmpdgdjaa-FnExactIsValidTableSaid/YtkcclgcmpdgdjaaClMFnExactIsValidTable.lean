/- Models of Go functions and their contracts, printed by a program of this session. -/
import Derived.Test.YtkcclgcmpdgdjaaClA
set_option linter.unusedVariables false
set_option maxRecDepth 100000
namespace Go.Proofs.Ytkcclgcmpdgdjaa
open Go Go.Rai
noncomputable section
/-! loop.example/g00876/laws.szIntS -/
def c_laws_szIntS {R : Type} (x0 : List D) (x1 : Int) (k : Int → Option R) : Option R :=
  bif Decidable.decide (Go.IntKind.i64.wrap (x1 - (↑x0.length : Int)) < (0 : Int)) then
    k (-1 : Int)
  else
    k (Go.IntKind.i64.wrap (x1 - (↑x0.length : Int)))
theorem c_laws_szIntS_bind {R : Type} (x0 : List D) (x1 : Int) (k : Int → Option R) : c_laws_szIntS x0 x1 k = (c_laws_szIntS x0 x1 some).bind k := by
  unfold c_laws_szIntS
  repeat' first
    | exact bnd_tail
    | exact bnd_none
    | exact bnd_leaf
    | apply bnd_ite
    | apply bnd_cond
    | apply bnd_sum
    | (apply bnd_bind; intro _)
    | intro _
def laws_szIntS (x0 : List D) (x1 : Int) : Option (Int) := c_laws_szIntS x0 x1 some
def e_laws_szIntS : Ent := ⟨71, [.rd (.int .i64), .int .i64], .int .i64, [.undef, .undef], fun _ ds k => dL (fun x0 ds => dI (fun x1 ds => dE ((laws_szIntS x0 x1).bind (fun y => k [.I y])) ds) ds) ds⟩
theorem q_laws_szIntS (x0 : List D) (x1 : Int) : runFn (ocOf []) (olOf []) A 71 Go.Proofs.Try.f71 (Sh.mks e_laws_szIntS.sh [.L x0, .I x1]).1 (fun v os => some (v, os)) = c_laws_szIntS x0 x1 (fun y => some ((e_laws_szIntS.res.mk [.I y]).1, (Sh.mks e_laws_szIntS.outs (e_laws_szIntS.res.mk [.I y]).2).1)) := by kernel_rfl
theorem e_laws_szIntS_ok : e_laws_szIntS.ok Go.Proofs.Try.prog A := by
  intro R ds k r h
  unfold e_laws_szIntS at h
  obtain ⟨x0, d0, rfl, h0⟩ := dL_some h
  obtain ⟨x1, d1, rfl, h1⟩ := dI_some h0
  obtain ⟨rfl, hE⟩ := dE_some h1
  obtain ⟨y, hy, hk⟩ := bnd_some hE
  refine ⟨_, hk, fn_ok px (fx := ⟨Go.Proofs.Try.func71, by kernel_rfl, by kernel_rfl⟩) entsOK_nil lentsOK_nil ?_⟩
  have hq := q_laws_szIntS x0 x1
  rw [c_laws_szIntS_bind] at hq
  rw [show c_laws_szIntS x0 x1 some = some y from hy] at hq
  exact hq

/-! loop.example/g00876/laws.szIntSS, loop 5 -/
def c_laws_szIntSS_L5 {R : Type} (F : List D → Int → Int → Option ((Int × Int) ⊕ (Int))) (x0 : List D) (x1 : Int) (x2 : Int) (k : (Int × Int) ⊕ (Int) → Option R) : Option R :=
  bif Decidable.decide (x2 < (↑x0.length : Int)) then
    if (0 : Int) ≤ x2 ∧ x2 < (↑x0.length : Int) then
      (laws_szIntS ((x0.getD x2.toNat (Go.Rai.D.int (0 : Int))).items) x1).bind (fun y0 =>
        bif Decidable.decide (y0 < (0 : Int)) then
          k (.inl (y0, (-1 : Int)))
        else
          (F x0 y0 (Go.IntKind.i64.wrap (x2 + (1 : Int)))).bind k)
    else
      none
  else
    k (.inr x1)
theorem c_laws_szIntSS_L5_bind {R : Type} (F : List D → Int → Int → Option ((Int × Int) ⊕ (Int))) (x0 : List D) (x1 : Int) (x2 : Int) (k : (Int × Int) ⊕ (Int) → Option R) : c_laws_szIntSS_L5 F x0 x1 x2 k = (c_laws_szIntSS_L5 F x0 x1 x2 some).bind k := by
  unfold c_laws_szIntSS_L5
  repeat' first
    | exact bnd_tail
    | exact bnd_none
    | exact bnd_leaf
    | apply bnd_ite
    | apply bnd_cond
    | apply bnd_sum
    | (apply bnd_bind; intro _)
    | intro _
def n_laws_szIntSS_L5 : Nat → List D → Int → Int → Option ((Int × Int) ⊕ (Int))
  | 0, _, _, _ => none
  | n + 1, x0, x1, x2 => c_laws_szIntSS_L5 (n_laws_szIntSS_L5 n) x0 x1 x2 some
noncomputable def laws_szIntSS_L5 (x0 : List D) (x1 : Int) (x2 : Int) : Option ((Int × Int) ⊕ (Int)) := ev (fun n => n_laws_szIntSS_L5 n x0 x1 x2)
def m_laws_szIntSS_L5 (F : List D → Int → Int → Option ((Int × Int) ⊕ (Int))) : Lent := ⟨5, ⟨[.rd (.slice (.int .i64)), .int .i64, .undef, .undef, .undef, .int .i64, .undef, .undef, .undef, .undef, .undef, .undef, .undef, .undef, .undef, .undef, .undef, .undef, .undef, .undef, .undef, .undef, .undef, .undef, .undef, .undef, .undef], []⟩, [(.ret, ⟨[.undef, .int .i64, .undef, .undef, .int .i64, .undef, .undef, .undef, .undef, .undef, .undef, .undef, .undef, .undef, .undef, .undef, .undef, .undef, .undef, .undef, .undef, .undef, .undef, .undef, .undef, .undef, .undef], []⟩), (.exit 0, ⟨[.undef, .int .i64, .undef, .undef, .undef, .undef, .undef, .undef, .undef, .undef, .undef, .undef, .undef, .undef, .undef, .undef, .undef, .undef, .undef, .undef, .undef, .undef, .undef, .undef, .undef, .undef, .undef], []⟩)], fun _ ds k => dL (fun x0 ds => dI (fun x1 ds => dI (fun x2 ds => dE ((F x0 x1 x2).bind (Sum.elim (fun y => k 0 [.I y.1, .I y.2]) (fun y => k 1 [.I y]))) ds) ds) ds) ds⟩
theorem q_laws_szIntSS_L5 (F : List D → Int → Int → Option ((Int × Int) ⊕ (Int))) (x0 : List D) (x1 : Int) (x2 : Int) : runLoop (ocOf [e_laws_szIntS]) (olOf [m_laws_szIntSS_L5 F]) A 50 (codeAt (bodyOf Go.Proofs.Try.f50) 5) ((m_laws_szIntSS_L5 F).sh.mk' [.L x0, .I x1, .I x2]) (fun e σ' => some (e, σ')) = c_laws_szIntSS_L5 F x0 x1 x2 (Sum.elim (fun y => some (.ret, SSt.mk' ⟨[.undef, .int .i64, .undef, .undef, .int .i64, .undef, .undef, .undef, .undef, .undef, .undef, .undef, .undef, .undef, .undef, .undef, .undef, .undef, .undef, .undef, .undef, .undef, .undef, .undef, .undef, .undef, .undef], []⟩ [.I y.1, .I y.2])) (fun y => some (.exit 0, SSt.mk' ⟨[.undef, .int .i64, .undef, .undef, .undef, .undef, .undef, .undef, .undef, .undef, .undef, .undef, .undef, .undef, .undef, .undef, .undef, .undef, .undef, .undef, .undef, .undef, .undef, .undef, .undef, .undef, .undef], []⟩ [.I y]))) := by kernel_rfl
theorem m_laws_szIntSS_L5_ok : ∀ n, (m_laws_szIntSS_L5 (n_laws_szIntSS_L5 n)).ok Go.Proofs.Try.prog (codeAt (bodyOf Go.Proofs.Try.f50) 5) := by
  intro n
  induction n with
  | zero =>
    intro R ds k r h
    unfold m_laws_szIntSS_L5 at h
    obtain ⟨x0, d0, rfl, h0⟩ := dL_some h
    obtain ⟨x1, d1, rfl, h1⟩ := dI_some h0
    obtain ⟨x2, d2, rfl, h2⟩ := dI_some h1
    obtain ⟨rfl, hE⟩ := dE_some h2
    obtain ⟨y, hy, hk⟩ := bnd_some hE
    cases hy
  | succ n ih =>
    intro R ds k r h
    unfold m_laws_szIntSS_L5 at h
    obtain ⟨x0, d0, rfl, h0⟩ := dL_some h
    obtain ⟨x1, d1, rfl, h1⟩ := dI_some h0
    obtain ⟨x2, d2, rfl, h2⟩ := dI_some h1
    obtain ⟨rfl, hE⟩ := dE_some h2
    obtain ⟨y, hy, hk⟩ := bnd_some hE
    have hq := q_laws_szIntSS_L5 (n_laws_szIntSS_L5 n) x0 x1 x2
    rw [c_laws_szIntSS_L5_bind] at hq
    rw [show c_laws_szIntSS_L5 (n_laws_szIntSS_L5 n) x0 x1 x2 some = some y from hy] at hq
    cases y with
    | inl y =>
      refine ⟨0, _, _, _, hk, rfl, loop_ok px (fx := ⟨Go.Proofs.Try.func50, by kernel_rfl, by kernel_rfl⟩) (entsOK_cons e_laws_szIntS_ok entsOK_nil) (lentsOK_cons ih lentsOK_nil) (by kernel_rfl) ?_⟩
      exact hq
    | inr y =>
      refine ⟨1, _, _, _, hk, rfl, loop_ok px (fx := ⟨Go.Proofs.Try.func50, by kernel_rfl, by kernel_rfl⟩) (entsOK_cons e_laws_szIntS_ok entsOK_nil) (lentsOK_cons ih lentsOK_nil) (by kernel_rfl) ?_⟩
      exact hq
noncomputable def e_laws_szIntSS_L5 : Lent := m_laws_szIntSS_L5 laws_szIntSS_L5
theorem e_laws_szIntSS_L5_ok : e_laws_szIntSS_L5.ok Go.Proofs.Try.prog (codeAt (bodyOf Go.Proofs.Try.f50) 5) := by
  intro R ds k r h
  unfold e_laws_szIntSS_L5 m_laws_szIntSS_L5 at h
  obtain ⟨x0, d0, rfl, h0⟩ := dL_some h
  obtain ⟨x1, d1, rfl, h1⟩ := dI_some h0
  obtain ⟨x2, d2, rfl, h2⟩ := dI_some h1
  obtain ⟨rfl, hE⟩ := dE_some h2
  obtain ⟨y, hy, hk⟩ := bnd_some hE
  obtain ⟨n, hn⟩ := ev_some hy
  exact m_laws_szIntSS_L5_ok n R _ k r (show (n_laws_szIntSS_L5 n x0 x1 x2).bind _ = _ by rw [hn]; exact hk)

/-! loop.example/g00876/laws.szIntSS -/
def c_laws_szIntSS {R : Type} (x0 : List D) (x1 : Int) (k : Int → Option R) : Option R :=
  bif Decidable.decide (Go.IntKind.i64.wrap (x1 - (↑x0.length : Int)) < (0 : Int)) then
    k (-1 : Int)
  else
    (laws_szIntSS_L5 x0 (Go.IntKind.i64.wrap (x1 - (↑x0.length : Int))) (0 : Int)).bind (Sum.elim (fun y0 =>
      k y0.snd) (fun y1 =>
      k y1))
theorem c_laws_szIntSS_bind {R : Type} (x0 : List D) (x1 : Int) (k : Int → Option R) : c_laws_szIntSS x0 x1 k = (c_laws_szIntSS x0 x1 some).bind k := by
  unfold c_laws_szIntSS
  repeat' first
    | exact bnd_tail
    | exact bnd_none
    | exact bnd_leaf
    | apply bnd_ite
    | apply bnd_cond
    | apply bnd_sum
    | (apply bnd_bind; intro _)
    | intro _
def laws_szIntSS (x0 : List D) (x1 : Int) : Option (Int) := c_laws_szIntSS x0 x1 some
def e_laws_szIntSS : Ent := ⟨50, [.rd (.slice (.int .i64)), .int .i64], .int .i64, [.undef, .undef], fun _ ds k => dL (fun x0 ds => dI (fun x1 ds => dE ((laws_szIntSS x0 x1).bind (fun y => k [.I y])) ds) ds) ds⟩
theorem q_laws_szIntSS (x0 : List D) (x1 : Int) : runFn (ocOf []) (olOf [e_laws_szIntSS_L5]) A 50 Go.Proofs.Try.f50 (Sh.mks e_laws_szIntSS.sh [.L x0, .I x1]).1 (fun v os => some (v, os)) = c_laws_szIntSS x0 x1 (fun y => some ((e_laws_szIntSS.res.mk [.I y]).1, (Sh.mks e_laws_szIntSS.outs (e_laws_szIntSS.res.mk [.I y]).2).1)) := by kernel_rfl
theorem e_laws_szIntSS_ok : e_laws_szIntSS.ok Go.Proofs.Try.prog A := by
  intro R ds k r h
  unfold e_laws_szIntSS at h
  obtain ⟨x0, d0, rfl, h0⟩ := dL_some h
  obtain ⟨x1, d1, rfl, h1⟩ := dI_some h0
  obtain ⟨rfl, hE⟩ := dE_some h1
  obtain ⟨y, hy, hk⟩ := bnd_some hE
  refine ⟨_, hk, fn_ok px (fx := ⟨Go.Proofs.Try.func50, by kernel_rfl, by kernel_rfl⟩) entsOK_nil (lentsOK_cons e_laws_szIntSS_L5_ok lentsOK_nil) ?_⟩
  have hq := q_laws_szIntSS x0 x1
  rw [c_laws_szIntSS_bind] at hq
  rw [show c_laws_szIntSS x0 x1 some = some y from hy] at hq
  exact hq

/-! loop.example/g00876/laws.szTable -/
def c_laws_szTable {R : Type} (x0 : List D) (x1 : Int) (k : Int → Option R) : Option R :=
  (laws_szIntSS x0 x1).bind (fun y0 =>
    bif Decidable.decide (y0 < (0 : Int)) then
      k (-1 : Int)
    else
      k y0)
theorem c_laws_szTable_bind {R : Type} (x0 : List D) (x1 : Int) (k : Int → Option R) : c_laws_szTable x0 x1 k = (c_laws_szTable x0 x1 some).bind k := by
  unfold c_laws_szTable
  repeat' first
    | exact bnd_tail
    | exact bnd_none
    | exact bnd_leaf
    | apply bnd_ite
    | apply bnd_cond
    | apply bnd_sum
    | (apply bnd_bind; intro _)
    | intro _
def laws_szTable (x0 : List D) (x1 : Int) : Option (Int) := c_laws_szTable x0 x1 some
def e_laws_szTable : Ent := ⟨26, [.agg [.rd (.slice (.int .i64))], .int .i64], .int .i64, [.undef, .undef], fun _ ds k => dL (fun x0 ds => dI (fun x1 ds => dE ((laws_szTable x0 x1).bind (fun y => k [.I y])) ds) ds) ds⟩
theorem q_laws_szTable (x0 : List D) (x1 : Int) : runFn (ocOf [e_laws_szIntSS]) (olOf []) A 26 Go.Proofs.Try.f26 (Sh.mks e_laws_szTable.sh [.L x0, .I x1]).1 (fun v os => some (v, os)) = c_laws_szTable x0 x1 (fun y => some ((e_laws_szTable.res.mk [.I y]).1, (Sh.mks e_laws_szTable.outs (e_laws_szTable.res.mk [.I y]).2).1)) := by kernel_rfl
theorem e_laws_szTable_ok : e_laws_szTable.ok Go.Proofs.Try.prog A := by
  intro R ds k r h
  unfold e_laws_szTable at h
  obtain ⟨x0, d0, rfl, h0⟩ := dL_some h
  obtain ⟨x1, d1, rfl, h1⟩ := dI_some h0
  obtain ⟨rfl, hE⟩ := dE_some h1
  obtain ⟨y, hy, hk⟩ := bnd_some hE
  refine ⟨_, hk, fn_ok px (fx := ⟨Go.Proofs.Try.func26, by kernel_rfl, by kernel_rfl⟩) (entsOK_cons e_laws_szIntSS_ok entsOK_nil) lentsOK_nil ?_⟩
  have hq := q_laws_szTable x0 x1
  rw [c_laws_szTable_bind] at hq
  rw [show c_laws_szTable x0 x1 some = some y from hy] at hq
  exact hq

/-! loop.example/g00876/laws.toIntS, loop 3 -/
def c_laws_toIntS_L3 {R : Type} (F : List D → Int → List D → Option (List D)) (x0 : List D) (x1 : Int) (x2 : List D) (k : List D → Option R) : Option R :=
  bif Decidable.decide (x1 < (↑x0.length : Int)) then
    if (0 : Int) ≤ x1 ∧ x1 < (↑x0.length : Int) then
      if (0 : Int) ≤ x1 ∧ x1 < (↑x2.length : Int) then
        if x1.toNat + (1 : Nat) ≤ x2.length then
          (F x0 (Go.IntKind.i64.wrap (x1 + (1 : Int))) (x2.set x1.toNat (Go.Rai.D.int (x0.getD x1.toNat (Go.Rai.D.int (0 : Int))).toInt))).bind k
        else
          none
      else
        none
    else
      none
  else
    k x2
theorem c_laws_toIntS_L3_bind {R : Type} (F : List D → Int → List D → Option (List D)) (x0 : List D) (x1 : Int) (x2 : List D) (k : List D → Option R) : c_laws_toIntS_L3 F x0 x1 x2 k = (c_laws_toIntS_L3 F x0 x1 x2 some).bind k := by
  unfold c_laws_toIntS_L3
  repeat' first
    | exact bnd_tail
    | exact bnd_none
    | exact bnd_leaf
    | apply bnd_ite
    | apply bnd_cond
    | apply bnd_sum
    | (apply bnd_bind; intro _)
    | intro _
def n_laws_toIntS_L3 : Nat → List D → Int → List D → Option (List D)
  | 0, _, _, _ => none
  | n + 1, x0, x1, x2 => c_laws_toIntS_L3 (n_laws_toIntS_L3 n) x0 x1 x2 some
noncomputable def laws_toIntS_L3 (x0 : List D) (x1 : Int) (x2 : List D) : Option (List D) := ev (fun n => n_laws_toIntS_L3 n x0 x1 x2)
def m_laws_toIntS_L3 (F : List D → Int → List D → Option (List D)) : Lent := ⟨3, ⟨[.rd (.int .i64), .undef, .undef, .full 1000 [] (.int .i64), .int .i64, .undef, .undef, .undef, .undef, .undef, .undef, .undef, .undef, .undef, .undef, .undef, .undef, .undef, .undef, .undef, .undef, .undef], [(1000, .own (.int .i64))]⟩, [(.exit 0, ⟨[.undef, .undef, .undef, .full 1000 [] (.int .i64), .undef, .undef, .undef, .undef, .undef, .undef, .undef, .undef, .undef, .undef, .undef, .undef, .undef, .undef, .undef, .undef, .undef, .undef], [(1000, .own (.int .i64))]⟩)], fun _ ds k => dL (fun x0 ds => dI (fun x1 ds => dL (fun x2 ds => dE ((F x0 x1 x2).bind (fun y => k 0 [.L y])) ds) ds) ds) ds⟩
theorem q_laws_toIntS_L3 (F : List D → Int → List D → Option (List D)) (x0 : List D) (x1 : Int) (x2 : List D) : runLoop (ocOf []) (olOf [m_laws_toIntS_L3 F]) A 72 (codeAt (bodyOf Go.Proofs.Try.f72) 3) ((m_laws_toIntS_L3 F).sh.mk' [.L x0, .I x1, .L x2]) (fun e σ' => some (e, σ')) = c_laws_toIntS_L3 F x0 x1 x2 (fun y => some (.exit 0, SSt.mk' ⟨[.undef, .undef, .undef, .full 1000 [] (.int .i64), .undef, .undef, .undef, .undef, .undef, .undef, .undef, .undef, .undef, .undef, .undef, .undef, .undef, .undef, .undef, .undef, .undef, .undef], [(1000, .own (.int .i64))]⟩ [.L y])) := by kernel_rfl
theorem m_laws_toIntS_L3_ok : ∀ n, (m_laws_toIntS_L3 (n_laws_toIntS_L3 n)).ok Go.Proofs.Try.prog (codeAt (bodyOf Go.Proofs.Try.f72) 3) := by
  intro n
  induction n with
  | zero =>
    intro R ds k r h
    unfold m_laws_toIntS_L3 at h
    obtain ⟨x0, d0, rfl, h0⟩ := dL_some h
    obtain ⟨x1, d1, rfl, h1⟩ := dI_some h0
    obtain ⟨x2, d2, rfl, h2⟩ := dL_some h1
    obtain ⟨rfl, hE⟩ := dE_some h2
    obtain ⟨y, hy, hk⟩ := bnd_some hE
    cases hy
  | succ n ih =>
    intro R ds k r h
    unfold m_laws_toIntS_L3 at h
    obtain ⟨x0, d0, rfl, h0⟩ := dL_some h
    obtain ⟨x1, d1, rfl, h1⟩ := dI_some h0
    obtain ⟨x2, d2, rfl, h2⟩ := dL_some h1
    obtain ⟨rfl, hE⟩ := dE_some h2
    obtain ⟨y, hy, hk⟩ := bnd_some hE
    have hq := q_laws_toIntS_L3 (n_laws_toIntS_L3 n) x0 x1 x2
    rw [c_laws_toIntS_L3_bind] at hq
    rw [show c_laws_toIntS_L3 (n_laws_toIntS_L3 n) x0 x1 x2 some = some y from hy] at hq
    refine ⟨0, _, _, _, hk, rfl, loop_ok px (fx := ⟨Go.Proofs.Try.func72, by kernel_rfl, by kernel_rfl⟩) entsOK_nil (lentsOK_cons ih lentsOK_nil) (by kernel_rfl) ?_⟩
    exact hq
noncomputable def e_laws_toIntS_L3 : Lent := m_laws_toIntS_L3 laws_toIntS_L3
theorem e_laws_toIntS_L3_ok : e_laws_toIntS_L3.ok Go.Proofs.Try.prog (codeAt (bodyOf Go.Proofs.Try.f72) 3) := by
  intro R ds k r h
  unfold e_laws_toIntS_L3 m_laws_toIntS_L3 at h
  obtain ⟨x0, d0, rfl, h0⟩ := dL_some h
  obtain ⟨x1, d1, rfl, h1⟩ := dI_some h0
  obtain ⟨x2, d2, rfl, h2⟩ := dL_some h1
  obtain ⟨rfl, hE⟩ := dE_some h2
  obtain ⟨y, hy, hk⟩ := bnd_some hE
  obtain ⟨n, hn⟩ := ev_some hy
  exact m_laws_toIntS_L3_ok n R _ k r (show (n_laws_toIntS_L3 n x0 x1 x2).bind _ = _ by rw [hn]; exact hk)

/-! loop.example/g00876/laws.toIntS -/
def c_laws_toIntS {R : Type} (x0 : List D) (k : List D → Option R) : Option R :=
  if (0 : Int) ≤ (↑x0.length : Int) ∧ (↑x0.length : Int) ≤ (↑x0.length : Int) ∧ (↑x0.length : Int) ≤ (4294967296 : Int) then
    (laws_toIntS_L3 x0 (0 : Int) (List.replicate (↑x0.length : Int).toNat (Go.Rai.D.int (0 : Int)))).bind (fun y0 =>
      k y0)
  else
    none
theorem c_laws_toIntS_bind {R : Type} (x0 : List D) (k : List D → Option R) : c_laws_toIntS x0 k = (c_laws_toIntS x0 some).bind k := by
  unfold c_laws_toIntS
  repeat' first
    | exact bnd_tail
    | exact bnd_none
    | exact bnd_leaf
    | apply bnd_ite
    | apply bnd_cond
    | apply bnd_sum
    | (apply bnd_bind; intro _)
    | intro _
def laws_toIntS (x0 : List D) : Option (List D) := c_laws_toIntS x0 some
def e_laws_toIntS : Ent := ⟨72, [.rd (.int .i64)], .own (.int .i64), [.undef], fun _ ds k => dL (fun x0 ds => dE ((laws_toIntS x0).bind (fun y => k [.L y])) ds) ds⟩
theorem q_laws_toIntS (x0 : List D) : runFn (ocOf []) (olOf [e_laws_toIntS_L3]) A 72 Go.Proofs.Try.f72 (Sh.mks e_laws_toIntS.sh [.L x0]).1 (fun v os => some (v, os)) = c_laws_toIntS x0 (fun y => some ((e_laws_toIntS.res.mk [.L y]).1, (Sh.mks e_laws_toIntS.outs (e_laws_toIntS.res.mk [.L y]).2).1)) := by kernel_rfl
theorem e_laws_toIntS_ok : e_laws_toIntS.ok Go.Proofs.Try.prog A := by
  intro R ds k r h
  unfold e_laws_toIntS at h
  obtain ⟨x0, d0, rfl, h0⟩ := dL_some h
  obtain ⟨rfl, hE⟩ := dE_some h0
  obtain ⟨y, hy, hk⟩ := bnd_some hE
  refine ⟨_, hk, fn_ok px (fx := ⟨Go.Proofs.Try.func72, by kernel_rfl, by kernel_rfl⟩) entsOK_nil (lentsOK_cons e_laws_toIntS_L3_ok lentsOK_nil) ?_⟩
  have hq := q_laws_toIntS x0
  rw [c_laws_toIntS_bind] at hq
  rw [show c_laws_toIntS x0 some = some y from hy] at hq
  exact hq

/-! loop.example/g00876/laws.toIntSS, loop 3 -/
def c_laws_toIntSS_L3 {R : Type} (F : List D → Int → List D → Option (List D)) (x0 : List D) (x1 : Int) (x2 : List D) (k : List D → Option R) : Option R :=
  bif Decidable.decide (x1 < (↑x0.length : Int)) then
    if (0 : Int) ≤ x1 ∧ x1 < (↑x0.length : Int) then
      (laws_toIntS ((x0.getD x1.toNat (Go.Rai.D.int (0 : Int))).items)).bind (fun y0 =>
        if (0 : Int) ≤ x1 ∧ x1 < (↑x2.length : Int) then
          if x1.toNat + (1 : Nat) ≤ x2.length then
            (F x0 (Go.IntKind.i64.wrap (x1 + (1 : Int))) (x2.set x1.toNat (Go.Rai.D.node y0))).bind k
          else
            none
        else
          none)
    else
      none
  else
    k x2
theorem c_laws_toIntSS_L3_bind {R : Type} (F : List D → Int → List D → Option (List D)) (x0 : List D) (x1 : Int) (x2 : List D) (k : List D → Option R) : c_laws_toIntSS_L3 F x0 x1 x2 k = (c_laws_toIntSS_L3 F x0 x1 x2 some).bind k := by
  unfold c_laws_toIntSS_L3
  repeat' first
    | exact bnd_tail
    | exact bnd_none
    | exact bnd_leaf
    | apply bnd_ite
    | apply bnd_cond
    | apply bnd_sum
    | (apply bnd_bind; intro _)
    | intro _
def n_laws_toIntSS_L3 : Nat → List D → Int → List D → Option (List D)
  | 0, _, _, _ => none
  | n + 1, x0, x1, x2 => c_laws_toIntSS_L3 (n_laws_toIntSS_L3 n) x0 x1 x2 some
noncomputable def laws_toIntSS_L3 (x0 : List D) (x1 : Int) (x2 : List D) : Option (List D) := ev (fun n => n_laws_toIntSS_L3 n x0 x1 x2)
def m_laws_toIntSS_L3 (F : List D → Int → List D → Option (List D)) : Lent := ⟨3, ⟨[.rd (.slice (.int .i64)), .undef, .undef, .full 1000 [] (.slice (.int .i64)), .int .i64, .undef, .undef, .undef, .undef, .undef, .undef, .undef, .undef, .undef, .undef, .undef, .undef, .undef, .undef, .undef, .undef, .undef, .undef], [(1000, .own (.slice (.int .i64)))]⟩, [(.exit 0, ⟨[.undef, .undef, .undef, .full 1000 [] (.slice (.int .i64)), .undef, .undef, .undef, .undef, .undef, .undef, .undef, .undef, .undef, .undef, .undef, .undef, .undef, .undef, .undef, .undef, .undef, .undef, .undef], [(1000, .own (.slice (.int .i64)))]⟩)], fun _ ds k => dL (fun x0 ds => dI (fun x1 ds => dL (fun x2 ds => dE ((F x0 x1 x2).bind (fun y => k 0 [.L y])) ds) ds) ds) ds⟩
theorem q_laws_toIntSS_L3 (F : List D → Int → List D → Option (List D)) (x0 : List D) (x1 : Int) (x2 : List D) : runLoop (ocOf [e_laws_toIntS]) (olOf [m_laws_toIntSS_L3 F]) A 52 (codeAt (bodyOf Go.Proofs.Try.f52) 3) ((m_laws_toIntSS_L3 F).sh.mk' [.L x0, .I x1, .L x2]) (fun e σ' => some (e, σ')) = c_laws_toIntSS_L3 F x0 x1 x2 (fun y => some (.exit 0, SSt.mk' ⟨[.undef, .undef, .undef, .full 1000 [] (.slice (.int .i64)), .undef, .undef, .undef, .undef, .undef, .undef, .undef, .undef, .undef, .undef, .undef, .undef, .undef, .undef, .undef, .undef, .undef, .undef, .undef], [(1000, .own (.slice (.int .i64)))]⟩ [.L y])) := by kernel_rfl
theorem m_laws_toIntSS_L3_ok : ∀ n, (m_laws_toIntSS_L3 (n_laws_toIntSS_L3 n)).ok Go.Proofs.Try.prog (codeAt (bodyOf Go.Proofs.Try.f52) 3) := by
  intro n
  induction n with
  | zero =>
    intro R ds k r h
    unfold m_laws_toIntSS_L3 at h
    obtain ⟨x0, d0, rfl, h0⟩ := dL_some h
    obtain ⟨x1, d1, rfl, h1⟩ := dI_some h0
    obtain ⟨x2, d2, rfl, h2⟩ := dL_some h1
    obtain ⟨rfl, hE⟩ := dE_some h2
    obtain ⟨y, hy, hk⟩ := bnd_some hE
    cases hy
  | succ n ih =>
    intro R ds k r h
    unfold m_laws_toIntSS_L3 at h
    obtain ⟨x0, d0, rfl, h0⟩ := dL_some h
    obtain ⟨x1, d1, rfl, h1⟩ := dI_some h0
    obtain ⟨x2, d2, rfl, h2⟩ := dL_some h1
    obtain ⟨rfl, hE⟩ := dE_some h2
    obtain ⟨y, hy, hk⟩ := bnd_some hE
    have hq := q_laws_toIntSS_L3 (n_laws_toIntSS_L3 n) x0 x1 x2
    rw [c_laws_toIntSS_L3_bind] at hq
    rw [show c_laws_toIntSS_L3 (n_laws_toIntSS_L3 n) x0 x1 x2 some = some y from hy] at hq
    refine ⟨0, _, _, _, hk, rfl, loop_ok px (fx := ⟨Go.Proofs.Try.func52, by kernel_rfl, by kernel_rfl⟩) (entsOK_cons e_laws_toIntS_ok entsOK_nil) (lentsOK_cons ih lentsOK_nil) (by kernel_rfl) ?_⟩
    exact hq
noncomputable def e_laws_toIntSS_L3 : Lent := m_laws_toIntSS_L3 laws_toIntSS_L3
theorem e_laws_toIntSS_L3_ok : e_laws_toIntSS_L3.ok Go.Proofs.Try.prog (codeAt (bodyOf Go.Proofs.Try.f52) 3) := by
  intro R ds k r h
  unfold e_laws_toIntSS_L3 m_laws_toIntSS_L3 at h
  obtain ⟨x0, d0, rfl, h0⟩ := dL_some h
  obtain ⟨x1, d1, rfl, h1⟩ := dI_some h0
  obtain ⟨x2, d2, rfl, h2⟩ := dL_some h1
  obtain ⟨rfl, hE⟩ := dE_some h2
  obtain ⟨y, hy, hk⟩ := bnd_some hE
  obtain ⟨n, hn⟩ := ev_some hy
  exact m_laws_toIntSS_L3_ok n R _ k r (show (n_laws_toIntSS_L3 n x0 x1 x2).bind _ = _ by rw [hn]; exact hk)

/-! loop.example/g00876/laws.toIntSS -/
def c_laws_toIntSS {R : Type} (x0 : List D) (k : List D → Option R) : Option R :=
  if (0 : Int) ≤ (↑x0.length : Int) ∧ (↑x0.length : Int) ≤ (↑x0.length : Int) ∧ (↑x0.length : Int) ≤ (4294967296 : Int) then
    (laws_toIntSS_L3 x0 (0 : Int) (List.replicate (↑x0.length : Int).toNat (Go.Rai.D.node []))).bind (fun y0 =>
      k y0)
  else
    none
theorem c_laws_toIntSS_bind {R : Type} (x0 : List D) (k : List D → Option R) : c_laws_toIntSS x0 k = (c_laws_toIntSS x0 some).bind k := by
  unfold c_laws_toIntSS
  repeat' first
    | exact bnd_tail
    | exact bnd_none
    | exact bnd_leaf
    | apply bnd_ite
    | apply bnd_cond
    | apply bnd_sum
    | (apply bnd_bind; intro _)
    | intro _
def laws_toIntSS (x0 : List D) : Option (List D) := c_laws_toIntSS x0 some
def e_laws_toIntSS : Ent := ⟨52, [.rd (.slice (.int .i64))], .own (.slice (.int .i64)), [.undef], fun _ ds k => dL (fun x0 ds => dE ((laws_toIntSS x0).bind (fun y => k [.L y])) ds) ds⟩
theorem q_laws_toIntSS (x0 : List D) : runFn (ocOf []) (olOf [e_laws_toIntSS_L3]) A 52 Go.Proofs.Try.f52 (Sh.mks e_laws_toIntSS.sh [.L x0]).1 (fun v os => some (v, os)) = c_laws_toIntSS x0 (fun y => some ((e_laws_toIntSS.res.mk [.L y]).1, (Sh.mks e_laws_toIntSS.outs (e_laws_toIntSS.res.mk [.L y]).2).1)) := by kernel_rfl
theorem e_laws_toIntSS_ok : e_laws_toIntSS.ok Go.Proofs.Try.prog A := by
  intro R ds k r h
  unfold e_laws_toIntSS at h
  obtain ⟨x0, d0, rfl, h0⟩ := dL_some h
  obtain ⟨rfl, hE⟩ := dE_some h0
  obtain ⟨y, hy, hk⟩ := bnd_some hE
  refine ⟨_, hk, fn_ok px (fx := ⟨Go.Proofs.Try.func52, by kernel_rfl, by kernel_rfl⟩) entsOK_nil (lentsOK_cons e_laws_toIntSS_L3_ok lentsOK_nil) ?_⟩
  have hq := q_laws_toIntSS x0
  rw [c_laws_toIntSS_bind] at hq
  rw [show c_laws_toIntSS x0 some = some y from hy] at hq
  exact hq

/-! loop.example/g00876/laws.toTable -/
def c_laws_toTable {R : Type} (x0 : List D) (k : List D → Option R) : Option R :=
  (laws_toIntSS x0).bind (fun y0 =>
    k y0)
theorem c_laws_toTable_bind {R : Type} (x0 : List D) (k : List D → Option R) : c_laws_toTable x0 k = (c_laws_toTable x0 some).bind k := by
  unfold c_laws_toTable
  repeat' first
    | exact bnd_tail
    | exact bnd_none
    | exact bnd_leaf
    | apply bnd_ite
    | apply bnd_cond
    | apply bnd_sum
    | (apply bnd_bind; intro _)
    | intro _
def laws_toTable (x0 : List D) : Option (List D) := c_laws_toTable x0 some
def e_laws_toTable : Ent := ⟨28, [.agg [.rd (.slice (.int .i64))]], .agg [.own (.slice (.int .i64))], [.undef], fun _ ds k => dL (fun x0 ds => dE ((laws_toTable x0).bind (fun y => k [.L y])) ds) ds⟩
theorem q_laws_toTable (x0 : List D) : runFn (ocOf [e_laws_toIntSS]) (olOf []) A 28 Go.Proofs.Try.f28 (Sh.mks e_laws_toTable.sh [.L x0]).1 (fun v os => some (v, os)) = c_laws_toTable x0 (fun y => some ((e_laws_toTable.res.mk [.L y]).1, (Sh.mks e_laws_toTable.outs (e_laws_toTable.res.mk [.L y]).2).1)) := by kernel_rfl
theorem e_laws_toTable_ok : e_laws_toTable.ok Go.Proofs.Try.prog A := by
  intro R ds k r h
  unfold e_laws_toTable at h
  obtain ⟨x0, d0, rfl, h0⟩ := dL_some h
  obtain ⟨rfl, hE⟩ := dE_some h0
  obtain ⟨y, hy, hk⟩ := bnd_some hE
  refine ⟨_, hk, fn_ok px (fx := ⟨Go.Proofs.Try.func28, by kernel_rfl, by kernel_rfl⟩) (entsOK_cons e_laws_toIntSS_ok entsOK_nil) lentsOK_nil ?_⟩
  have hq := q_laws_toTable x0
  rw [c_laws_toTable_bind] at hq
  rw [show c_laws_toTable x0 some = some y from hy] at hq
  exact hq

/-! loop.example/g00876/spec.l1In -/
def c_spec_l1In {R : Type} (x0 : Int) (x1 : Int) (x2 : Int) (k : Bool → Option R) : Option R :=
  bif Decidable.decide (x1 ≤ x0) then
    k (Decidable.decide (x0 ≤ x2))
  else
    k Bool.false
theorem c_spec_l1In_bind {R : Type} (x0 : Int) (x1 : Int) (x2 : Int) (k : Bool → Option R) : c_spec_l1In x0 x1 x2 k = (c_spec_l1In x0 x1 x2 some).bind k := by
  unfold c_spec_l1In
  repeat' first
    | exact bnd_tail
    | exact bnd_none
    | exact bnd_leaf
    | apply bnd_ite
    | apply bnd_cond
    | apply bnd_sum
    | (apply bnd_bind; intro _)
    | intro _
def spec_l1In (x0 : Int) (x1 : Int) (x2 : Int) : Option (Bool) := c_spec_l1In x0 x1 x2 some
def e_spec_l1In : Ent := ⟨61, [.int .i64, .int .i64, .int .i64], .bool, [.undef, .undef, .undef], fun _ ds k => dI (fun x0 ds => dI (fun x1 ds => dI (fun x2 ds => dE ((spec_l1In x0 x1 x2).bind (fun y => k [.B y])) ds) ds) ds) ds⟩
theorem q_spec_l1In (x0 : Int) (x1 : Int) (x2 : Int) : runFn (ocOf []) (olOf []) A 61 Go.Proofs.Try.f61 (Sh.mks e_spec_l1In.sh [.I x0, .I x1, .I x2]).1 (fun v os => some (v, os)) = c_spec_l1In x0 x1 x2 (fun y => some ((e_spec_l1In.res.mk [.B y]).1, (Sh.mks e_spec_l1In.outs (e_spec_l1In.res.mk [.B y]).2).1)) := by kernel_rfl
theorem e_spec_l1In_ok : e_spec_l1In.ok Go.Proofs.Try.prog A := by
  intro R ds k r h
  unfold e_spec_l1In at h
  obtain ⟨x0, d0, rfl, h0⟩ := dI_some h
  obtain ⟨x1, d1, rfl, h1⟩ := dI_some h0
  obtain ⟨x2, d2, rfl, h2⟩ := dI_some h1
  obtain ⟨rfl, hE⟩ := dE_some h2
  obtain ⟨y, hy, hk⟩ := bnd_some hE
  refine ⟨_, hk, fn_ok px (fx := ⟨Go.Proofs.Try.func61, by kernel_rfl, by kernel_rfl⟩) entsOK_nil lentsOK_nil ?_⟩
  have hq := q_spec_l1In x0 x1 x2
  rw [c_spec_l1In_bind] at hq
  rw [show c_spec_l1In x0 x1 x2 some = some y from hy] at hq
  exact hq

/-! loop.example/g00876/spec.l16Good, loop 11 -/
def c_spec_l16Good_L11 {R : Type} (F : Int → Int → List D → Int → List D → Option ((Bool × Int × Int × List D) ⊕ (Int × Int × List D))) (x0 : Int) (x1 : Int) (x2 : List D) (x3 : Int) (x4 : List D) (k : (Bool × Int × Int × List D) ⊕ (Int × Int × List D) → Option R) : Option R :=
  bif Decidable.decide (x3 < (↑x2.length : Int)) then
    if (0 : Int) ≤ x3 ∧ x3 < (↑x2.length : Int) then
      (spec_l1In ((x2.getD x3.toNat (Go.Rai.D.int (0 : Int))).toInt) (0 : Int) (1000 : Int)).bind (fun y0 =>
        bif !y0 then
          k (.inl (Bool.false, x0, x1, x4))
        else
          (F x0 x1 x2 (Go.IntKind.i64.wrap (x3 + (1 : Int))) x4).bind k)
    else
      none
  else
    k (.inr (x0, x1, x4))
theorem c_spec_l16Good_L11_bind {R : Type} (F : Int → Int → List D → Int → List D → Option ((Bool × Int × Int × List D) ⊕ (Int × Int × List D))) (x0 : Int) (x1 : Int) (x2 : List D) (x3 : Int) (x4 : List D) (k : (Bool × Int × Int × List D) ⊕ (Int × Int × List D) → Option R) : c_spec_l16Good_L11 F x0 x1 x2 x3 x4 k = (c_spec_l16Good_L11 F x0 x1 x2 x3 x4 some).bind k := by
  unfold c_spec_l16Good_L11
  repeat' first
    | exact bnd_tail
    | exact bnd_none
    | exact bnd_leaf
    | apply bnd_ite
    | apply bnd_cond
    | apply bnd_sum
    | (apply bnd_bind; intro _)
    | intro _
def n_spec_l16Good_L11 : Nat → Int → Int → List D → Int → List D → Option ((Bool × Int × Int × List D) ⊕ (Int × Int × List D))
  | 0, _, _, _, _, _ => none
  | n + 1, x0, x1, x2, x3, x4 => c_spec_l16Good_L11 (n_spec_l16Good_L11 n) x0 x1 x2 x3 x4 some
noncomputable def spec_l16Good_L11 (x0 : Int) (x1 : Int) (x2 : List D) (x3 : Int) (x4 : List D) : Option ((Bool × Int × Int × List D) ⊕ (Int × Int × List D)) := ev (fun n => n_spec_l16Good_L11 n x0 x1 x2 x3 x4)
def m_spec_l16Good_L11 (F : Int → Int → List D → Int → List D → Option ((Bool × Int × Int × List D) ⊕ (Int × Int × List D))) : Lent := ⟨11, ⟨[.undef, .ptr 1000 [0], .undef, .int .i64, .int .i64, .rd (.int .i64), .int .i64, .undef, .undef, .undef, .undef, .undef, .undef, .undef, .undef, .undef, .undef, .undef, .undef, .undef, .undef, .undef, .undef, .undef, .undef, .undef, .undef, .undef, .undef, .undef, .undef, .undef, .undef, .undef, .undef, .undef, .undef, .undef, .undef, .undef, .undef, .undef, .undef, .undef, .undef, .undef, .undef, .undef, .undef], [(1000, .obox (.agg [.rd (.slice (.int .i64))]))]⟩, [(.ret, ⟨[.undef, .ptr 1000 [0], .bool, .int .i64, .int .i64, .undef, .undef, .undef, .undef, .undef, .undef, .undef, .undef, .undef, .undef, .undef, .undef, .undef, .undef, .undef, .undef, .undef, .undef, .undef, .undef, .undef, .undef, .undef, .undef, .undef, .undef, .undef, .undef, .undef, .undef, .undef, .undef, .undef, .undef, .undef, .undef, .undef, .undef, .undef, .undef, .undef, .undef, .undef, .undef], [(1000, .obox (.agg [.rd (.slice (.int .i64))]))]⟩), (.exit 2, ⟨[.undef, .ptr 1000 [0], .undef, .int .i64, .int .i64, .undef, .undef, .undef, .undef, .undef, .undef, .undef, .undef, .undef, .undef, .undef, .undef, .undef, .undef, .undef, .undef, .undef, .undef, .undef, .undef, .undef, .undef, .undef, .undef, .undef, .undef, .undef, .undef, .undef, .undef, .undef, .undef, .undef, .undef, .undef, .undef, .undef, .undef, .undef, .undef, .undef, .undef, .undef, .undef], [(1000, .obox (.agg [.rd (.slice (.int .i64))]))]⟩)], fun _ ds k => dI (fun x0 ds => dI (fun x1 ds => dL (fun x2 ds => dI (fun x3 ds => dL (fun x4 ds => dE ((F x0 x1 x2 x3 x4).bind (Sum.elim (fun y => k 0 [.B y.1, .I y.2.1, .I y.2.2.1, .L y.2.2.2]) (fun y => k 1 [.I y.1, .I y.2.1, .L y.2.2]))) ds) ds) ds) ds) ds) ds⟩
theorem q_spec_l16Good_L11 (F : Int → Int → List D → Int → List D → Option ((Bool × Int × Int × List D) ⊕ (Int × Int × List D))) (x0 : Int) (x1 : Int) (x2 : List D) (x3 : Int) (x4 : List D) : runLoop (ocOf [e_spec_l1In]) (olOf [m_spec_l16Good_L11 F]) A 51 (codeAt (bodyOf Go.Proofs.Try.f51) 11) ((m_spec_l16Good_L11 F).sh.mk' [.I x0, .I x1, .L x2, .I x3, .L x4]) (fun e σ' => some (e, σ')) = c_spec_l16Good_L11 F x0 x1 x2 x3 x4 (Sum.elim (fun y => some (.ret, SSt.mk' ⟨[.undef, .ptr 1000 [0], .bool, .int .i64, .int .i64, .undef, .undef, .undef, .undef, .undef, .undef, .undef, .undef, .undef, .undef, .undef, .undef, .undef, .undef, .undef, .undef, .undef, .undef, .undef, .undef, .undef, .undef, .undef, .undef, .undef, .undef, .undef, .undef, .undef, .undef, .undef, .undef, .undef, .undef, .undef, .undef, .undef, .undef, .undef, .undef, .undef, .undef, .undef, .undef], [(1000, .obox (.agg [.rd (.slice (.int .i64))]))]⟩ [.B y.1, .I y.2.1, .I y.2.2.1, .L y.2.2.2])) (fun y => some (.exit 2, SSt.mk' ⟨[.undef, .ptr 1000 [0], .undef, .int .i64, .int .i64, .undef, .undef, .undef, .undef, .undef, .undef, .undef, .undef, .undef, .undef, .undef, .undef, .undef, .undef, .undef, .undef, .undef, .undef, .undef, .undef, .undef, .undef, .undef, .undef, .undef, .undef, .undef, .undef, .undef, .undef, .undef, .undef, .undef, .undef, .undef, .undef, .undef, .undef, .undef, .undef, .undef, .undef, .undef, .undef], [(1000, .obox (.agg [.rd (.slice (.int .i64))]))]⟩ [.I y.1, .I y.2.1, .L y.2.2]))) := by kernel_rfl
theorem m_spec_l16Good_L11_ok : ∀ n, (m_spec_l16Good_L11 (n_spec_l16Good_L11 n)).ok Go.Proofs.Try.prog (codeAt (bodyOf Go.Proofs.Try.f51) 11) := by
  intro n
  induction n with
  | zero =>
    intro R ds k r h
    unfold m_spec_l16Good_L11 at h
    obtain ⟨x0, d0, rfl, h0⟩ := dI_some h
    obtain ⟨x1, d1, rfl, h1⟩ := dI_some h0
    obtain ⟨x2, d2, rfl, h2⟩ := dL_some h1
    obtain ⟨x3, d3, rfl, h3⟩ := dI_some h2
    obtain ⟨x4, d4, rfl, h4⟩ := dL_some h3
    obtain ⟨rfl, hE⟩ := dE_some h4
    obtain ⟨y, hy, hk⟩ := bnd_some hE
    cases hy
  | succ n ih =>
    intro R ds k r h
    unfold m_spec_l16Good_L11 at h
    obtain ⟨x0, d0, rfl, h0⟩ := dI_some h
    obtain ⟨x1, d1, rfl, h1⟩ := dI_some h0
    obtain ⟨x2, d2, rfl, h2⟩ := dL_some h1
    obtain ⟨x3, d3, rfl, h3⟩ := dI_some h2
    obtain ⟨x4, d4, rfl, h4⟩ := dL_some h3
    obtain ⟨rfl, hE⟩ := dE_some h4
    obtain ⟨y, hy, hk⟩ := bnd_some hE
    have hq := q_spec_l16Good_L11 (n_spec_l16Good_L11 n) x0 x1 x2 x3 x4
    rw [c_spec_l16Good_L11_bind] at hq
    rw [show c_spec_l16Good_L11 (n_spec_l16Good_L11 n) x0 x1 x2 x3 x4 some = some y from hy] at hq
    cases y with
    | inl y =>
      refine ⟨0, _, _, _, hk, rfl, loop_ok px (fx := ⟨Go.Proofs.Try.func51, by kernel_rfl, by kernel_rfl⟩) (entsOK_cons e_spec_l1In_ok entsOK_nil) (lentsOK_cons ih lentsOK_nil) (by kernel_rfl) ?_⟩
      exact hq
    | inr y =>
      refine ⟨1, _, _, _, hk, rfl, loop_ok px (fx := ⟨Go.Proofs.Try.func51, by kernel_rfl, by kernel_rfl⟩) (entsOK_cons e_spec_l1In_ok entsOK_nil) (lentsOK_cons ih lentsOK_nil) (by kernel_rfl) ?_⟩
      exact hq
noncomputable def e_spec_l16Good_L11 : Lent := m_spec_l16Good_L11 spec_l16Good_L11
theorem e_spec_l16Good_L11_ok : e_spec_l16Good_L11.ok Go.Proofs.Try.prog (codeAt (bodyOf Go.Proofs.Try.f51) 11) := by
  intro R ds k r h
  unfold e_spec_l16Good_L11 m_spec_l16Good_L11 at h
  obtain ⟨x0, d0, rfl, h0⟩ := dI_some h
  obtain ⟨x1, d1, rfl, h1⟩ := dI_some h0
  obtain ⟨x2, d2, rfl, h2⟩ := dL_some h1
  obtain ⟨x3, d3, rfl, h3⟩ := dI_some h2
  obtain ⟨x4, d4, rfl, h4⟩ := dL_some h3
  obtain ⟨rfl, hE⟩ := dE_some h4
  obtain ⟨y, hy, hk⟩ := bnd_some hE
  obtain ⟨n, hn⟩ := ev_some hy
  exact m_spec_l16Good_L11_ok n R _ k r (show (n_spec_l16Good_L11 n x0 x1 x2 x3 x4).bind _ = _ by rw [hn]; exact hk)

/-! loop.example/g00876/spec.l16Good, loop 5 -/
def c_spec_l16Good_L5 {R : Type} (F : Int → Int → List D → Option ((Bool) ⊕ (Unit))) (x0 : Int) (x1 : Int) (x2 : List D) (k : (Bool) ⊕ (Unit) → Option R) : Option R :=
  bif Decidable.decide (x1 < x0) then
    if (0 : Int) ≤ x1 ∧ x1 < (↑x2.length : Int) then
      (spec_l1In (↑(x2.getD x1.toNat (Go.Rai.D.int (0 : Int))).items.length : Int) (1 : Int) (10 : Int)).bind (fun y0 =>
        bif !y0 then
          k (.inl Bool.false)
        else
          if (0 : Int) ≤ (0 : Int) ∧ (0 : Int) < (↑x2.length : Int) then
            bif !Decidable.decide ((↑(x2.getD x1.toNat (Go.Rai.D.int (0 : Int))).items.length : Int) = (↑(x2.getD (Int.toNat (0 : Int)) (Go.Rai.D.int (0 : Int))).items.length : Int)) then
              k (.inl Bool.false)
            else
              (spec_l16Good_L11 x0 x1 ((x2.getD x1.toNat (Go.Rai.D.int (0 : Int))).items) (0 : Int) x2).bind (Sum.elim (fun y1 =>
                k (.inl y1.fst)) (fun y2 =>
                (F y2.fst (Go.IntKind.i64.wrap (y2.snd.fst + (1 : Int))) y2.snd.snd).bind k))
          else
            none)
    else
      none
  else
    k (.inr ())
theorem c_spec_l16Good_L5_bind {R : Type} (F : Int → Int → List D → Option ((Bool) ⊕ (Unit))) (x0 : Int) (x1 : Int) (x2 : List D) (k : (Bool) ⊕ (Unit) → Option R) : c_spec_l16Good_L5 F x0 x1 x2 k = (c_spec_l16Good_L5 F x0 x1 x2 some).bind k := by
  unfold c_spec_l16Good_L5
  repeat' first
    | exact bnd_tail
    | exact bnd_none
    | exact bnd_leaf
    | apply bnd_ite
    | apply bnd_cond
    | apply bnd_sum
    | (apply bnd_bind; intro _)
    | intro _
def n_spec_l16Good_L5 : Nat → Int → Int → List D → Option ((Bool) ⊕ (Unit))
  | 0, _, _, _ => none
  | n + 1, x0, x1, x2 => c_spec_l16Good_L5 (n_spec_l16Good_L5 n) x0 x1 x2 some
noncomputable def spec_l16Good_L5 (x0 : Int) (x1 : Int) (x2 : List D) : Option ((Bool) ⊕ (Unit)) := ev (fun n => n_spec_l16Good_L5 n x0 x1 x2)
def m_spec_l16Good_L5 (F : Int → Int → List D → Option ((Bool) ⊕ (Unit))) : Lent := ⟨5, ⟨[.undef, .ptr 1000 [0], .undef, .int .i64, .int .i64, .undef, .undef, .undef, .undef, .undef, .undef, .undef, .undef, .undef, .undef, .undef, .undef, .undef, .undef, .undef, .undef, .undef, .undef, .undef, .undef, .undef, .undef, .undef, .undef, .undef, .undef, .undef, .undef, .undef, .undef, .undef, .undef, .undef, .undef, .undef, .undef, .undef, .undef, .undef, .undef, .undef, .undef, .undef, .undef], [(1000, .obox (.agg [.rd (.slice (.int .i64))]))]⟩, [(.ret, ⟨[.undef, .undef, .bool, .undef, .undef, .undef, .undef, .undef, .undef, .undef, .undef, .undef, .undef, .undef, .undef, .undef, .undef, .undef, .undef, .undef, .undef, .undef, .undef, .undef, .undef, .undef, .undef, .undef, .undef, .undef, .undef, .undef, .undef, .undef, .undef, .undef, .undef, .undef, .undef, .undef, .undef, .undef, .undef, .undef, .undef, .undef, .undef, .undef, .undef], []⟩), (.exit 0, ⟨[.undef, .undef, .undef, .undef, .undef, .undef, .undef, .undef, .undef, .undef, .undef, .undef, .undef, .undef, .undef, .undef, .undef, .undef, .undef, .undef, .undef, .undef, .undef, .undef, .undef, .undef, .undef, .undef, .undef, .undef, .undef, .undef, .undef, .undef, .undef, .undef, .undef, .undef, .undef, .undef, .undef, .undef, .undef, .undef, .undef, .undef, .undef, .undef, .undef], []⟩)], fun _ ds k => dI (fun x0 ds => dI (fun x1 ds => dL (fun x2 ds => dE ((F x0 x1 x2).bind (Sum.elim (fun y => k 0 [.B y]) (fun y => k 1 []))) ds) ds) ds) ds⟩
theorem q_spec_l16Good_L5 (F : Int → Int → List D → Option ((Bool) ⊕ (Unit))) (x0 : Int) (x1 : Int) (x2 : List D) : runLoop (ocOf [e_spec_l1In]) (olOf [m_spec_l16Good_L5 F, e_spec_l16Good_L11]) A 51 (codeAt (bodyOf Go.Proofs.Try.f51) 5) ((m_spec_l16Good_L5 F).sh.mk' [.I x0, .I x1, .L x2]) (fun e σ' => some (e, σ')) = c_spec_l16Good_L5 F x0 x1 x2 (Sum.elim (fun y => some (.ret, SSt.mk' ⟨[.undef, .undef, .bool, .undef, .undef, .undef, .undef, .undef, .undef, .undef, .undef, .undef, .undef, .undef, .undef, .undef, .undef, .undef, .undef, .undef, .undef, .undef, .undef, .undef, .undef, .undef, .undef, .undef, .undef, .undef, .undef, .undef, .undef, .undef, .undef, .undef, .undef, .undef, .undef, .undef, .undef, .undef, .undef, .undef, .undef, .undef, .undef, .undef, .undef], []⟩ [.B y])) (fun y => some (.exit 0, SSt.mk' ⟨[.undef, .undef, .undef, .undef, .undef, .undef, .undef, .undef, .undef, .undef, .undef, .undef, .undef, .undef, .undef, .undef, .undef, .undef, .undef, .undef, .undef, .undef, .undef, .undef, .undef, .undef, .undef, .undef, .undef, .undef, .undef, .undef, .undef, .undef, .undef, .undef, .undef, .undef, .undef, .undef, .undef, .undef, .undef, .undef, .undef, .undef, .undef, .undef, .undef], []⟩ []))) := by kernel_rfl
theorem m_spec_l16Good_L5_ok : ∀ n, (m_spec_l16Good_L5 (n_spec_l16Good_L5 n)).ok Go.Proofs.Try.prog (codeAt (bodyOf Go.Proofs.Try.f51) 5) := by
  intro n
  induction n with
  | zero =>
    intro R ds k r h
    unfold m_spec_l16Good_L5 at h
    obtain ⟨x0, d0, rfl, h0⟩ := dI_some h
    obtain ⟨x1, d1, rfl, h1⟩ := dI_some h0
    obtain ⟨x2, d2, rfl, h2⟩ := dL_some h1
    obtain ⟨rfl, hE⟩ := dE_some h2
    obtain ⟨y, hy, hk⟩ := bnd_some hE
    cases hy
  | succ n ih =>
    intro R ds k r h
    unfold m_spec_l16Good_L5 at h
    obtain ⟨x0, d0, rfl, h0⟩ := dI_some h
    obtain ⟨x1, d1, rfl, h1⟩ := dI_some h0
    obtain ⟨x2, d2, rfl, h2⟩ := dL_some h1
    obtain ⟨rfl, hE⟩ := dE_some h2
    obtain ⟨y, hy, hk⟩ := bnd_some hE
    have hq := q_spec_l16Good_L5 (n_spec_l16Good_L5 n) x0 x1 x2
    rw [c_spec_l16Good_L5_bind] at hq
    rw [show c_spec_l16Good_L5 (n_spec_l16Good_L5 n) x0 x1 x2 some = some y from hy] at hq
    cases y with
    | inl y =>
      refine ⟨0, _, _, _, hk, rfl, loop_ok px (fx := ⟨Go.Proofs.Try.func51, by kernel_rfl, by kernel_rfl⟩) (entsOK_cons e_spec_l1In_ok entsOK_nil) (lentsOK_cons ih (lentsOK_cons e_spec_l16Good_L11_ok lentsOK_nil)) (by kernel_rfl) ?_⟩
      exact hq
    | inr y =>
      refine ⟨1, _, _, _, hk, rfl, loop_ok px (fx := ⟨Go.Proofs.Try.func51, by kernel_rfl, by kernel_rfl⟩) (entsOK_cons e_spec_l1In_ok entsOK_nil) (lentsOK_cons ih (lentsOK_cons e_spec_l16Good_L11_ok lentsOK_nil)) (by kernel_rfl) ?_⟩
      exact hq
noncomputable def e_spec_l16Good_L5 : Lent := m_spec_l16Good_L5 spec_l16Good_L5
theorem e_spec_l16Good_L5_ok : e_spec_l16Good_L5.ok Go.Proofs.Try.prog (codeAt (bodyOf Go.Proofs.Try.f51) 5) := by
  intro R ds k r h
  unfold e_spec_l16Good_L5 m_spec_l16Good_L5 at h
  obtain ⟨x0, d0, rfl, h0⟩ := dI_some h
  obtain ⟨x1, d1, rfl, h1⟩ := dI_some h0
  obtain ⟨x2, d2, rfl, h2⟩ := dL_some h1
  obtain ⟨rfl, hE⟩ := dE_some h2
  obtain ⟨y, hy, hk⟩ := bnd_some hE
  obtain ⟨n, hn⟩ := ev_some hy
  exact m_spec_l16Good_L5_ok n R _ k r (show (n_spec_l16Good_L5 n x0 x1 x2).bind _ = _ by rw [hn]; exact hk)

/-! loop.example/g00876/spec.l16Good -/
def c_spec_l16Good {R : Type} (x0 : List D) (k : Bool → Option R) : Option R :=
  (spec_l1In (↑x0.length : Int) (1 : Int) (7 : Int)).bind (fun y0 =>
    bif !y0 then
      k Bool.false
    else
      (spec_l16Good_L5 (↑x0.length : Int) (0 : Int) x0).bind (Sum.elim (fun y1 =>
        k y1) (fun y2 =>
        k Bool.true)))
theorem c_spec_l16Good_bind {R : Type} (x0 : List D) (k : Bool → Option R) : c_spec_l16Good x0 k = (c_spec_l16Good x0 some).bind k := by
  unfold c_spec_l16Good
  repeat' first
    | exact bnd_tail
    | exact bnd_none
    | exact bnd_leaf
    | apply bnd_ite
    | apply bnd_cond
    | apply bnd_sum
    | (apply bnd_bind; intro _)
    | intro _
def spec_l16Good (x0 : List D) : Option (Bool) := c_spec_l16Good x0 some
def e_spec_l16Good : Ent := ⟨51, [.agg [.rd (.slice (.int .i64))]], .bool, [.undef], fun _ ds k => dL (fun x0 ds => dE ((spec_l16Good x0).bind (fun y => k [.B y])) ds) ds⟩
theorem q_spec_l16Good (x0 : List D) : runFn (ocOf [e_spec_l1In]) (olOf [e_spec_l16Good_L5]) A 51 Go.Proofs.Try.f51 (Sh.mks e_spec_l16Good.sh [.L x0]).1 (fun v os => some (v, os)) = c_spec_l16Good x0 (fun y => some ((e_spec_l16Good.res.mk [.B y]).1, (Sh.mks e_spec_l16Good.outs (e_spec_l16Good.res.mk [.B y]).2).1)) := by kernel_rfl
theorem e_spec_l16Good_ok : e_spec_l16Good.ok Go.Proofs.Try.prog A := by
  intro R ds k r h
  unfold e_spec_l16Good at h
  obtain ⟨x0, d0, rfl, h0⟩ := dL_some h
  obtain ⟨rfl, hE⟩ := dE_some h0
  obtain ⟨y, hy, hk⟩ := bnd_some hE
  refine ⟨_, hk, fn_ok px (fx := ⟨Go.Proofs.Try.func51, by kernel_rfl, by kernel_rfl⟩) (entsOK_cons e_spec_l1In_ok entsOK_nil) (lentsOK_cons e_spec_l16Good_L5_ok lentsOK_nil) ?_⟩
  have hq := q_spec_l16Good x0
  rw [c_spec_l16Good_bind] at hq
  rw [show c_spec_l16Good x0 some = some y from hy] at hq
  exact hq

/-! loop.example/g00876/spec.IsValidTable -/
def c_spec_IsValidTable {R : Type} (x0 : List D) (k : Bool → Option R) : Option R :=
  (spec_l16Good x0).bind (fun y0 =>
    k y0)
theorem c_spec_IsValidTable_bind {R : Type} (x0 : List D) (k : Bool → Option R) : c_spec_IsValidTable x0 k = (c_spec_IsValidTable x0 some).bind k := by
  unfold c_spec_IsValidTable
  repeat' first
    | exact bnd_tail
    | exact bnd_none
    | exact bnd_leaf
    | apply bnd_ite
    | apply bnd_cond
    | apply bnd_sum
    | (apply bnd_bind; intro _)
    | intro _
def spec_IsValidTable (x0 : List D) : Option (Bool) := c_spec_IsValidTable x0 some
def e_spec_IsValidTable : Ent := ⟨27, [.agg [.rd (.slice (.int .i64))]], .bool, [.undef], fun _ ds k => dL (fun x0 ds => dE ((spec_IsValidTable x0).bind (fun y => k [.B y])) ds) ds⟩
theorem q_spec_IsValidTable (x0 : List D) : runFn (ocOf [e_spec_l16Good]) (olOf []) A 27 Go.Proofs.Try.f27 (Sh.mks e_spec_IsValidTable.sh [.L x0]).1 (fun v os => some (v, os)) = c_spec_IsValidTable x0 (fun y => some ((e_spec_IsValidTable.res.mk [.B y]).1, (Sh.mks e_spec_IsValidTable.outs (e_spec_IsValidTable.res.mk [.B y]).2).1)) := by kernel_rfl
theorem e_spec_IsValidTable_ok : e_spec_IsValidTable.ok Go.Proofs.Try.prog A := by
  intro R ds k r h
  unfold e_spec_IsValidTable at h
  obtain ⟨x0, d0, rfl, h0⟩ := dL_some h
  obtain ⟨rfl, hE⟩ := dE_some h0
  obtain ⟨y, hy, hk⟩ := bnd_some hE
  refine ⟨_, hk, fn_ok px (fx := ⟨Go.Proofs.Try.func27, by kernel_rfl, by kernel_rfl⟩) (entsOK_cons e_spec_l16Good_ok entsOK_nil) lentsOK_nil ?_⟩
  have hq := q_spec_IsValidTable x0
  rw [c_spec_IsValidTable_bind] at hq
  rw [show c_spec_IsValidTable x0 some = some y from hy] at hq
  exact hq

/-! loop.example/g00876/impl.within -/
def c_impl_within {R : Type} (x0 : Int) (x1 : Int) (x2 : Int) (k : Bool → Option R) : Option R :=
  bif Decidable.decide (x1 ≤ x0) then
    k (Decidable.decide (x0 ≤ x2))
  else
    k Bool.false
theorem c_impl_within_bind {R : Type} (x0 : Int) (x1 : Int) (x2 : Int) (k : Bool → Option R) : c_impl_within x0 x1 x2 k = (c_impl_within x0 x1 x2 some).bind k := by
  unfold c_impl_within
  repeat' first
    | exact bnd_tail
    | exact bnd_none
    | exact bnd_leaf
    | apply bnd_ite
    | apply bnd_cond
    | apply bnd_sum
    | (apply bnd_bind; intro _)
    | intro _
def impl_within (x0 : Int) (x1 : Int) (x2 : Int) : Option (Bool) := c_impl_within x0 x1 x2 some
def e_impl_within : Ent := ⟨38, [.int .i64, .int .i64, .int .i64], .bool, [.undef, .undef, .undef], fun _ ds k => dI (fun x0 ds => dI (fun x1 ds => dI (fun x2 ds => dE ((impl_within x0 x1 x2).bind (fun y => k [.B y])) ds) ds) ds) ds⟩
theorem q_impl_within (x0 : Int) (x1 : Int) (x2 : Int) : runFn (ocOf []) (olOf []) A 38 Go.Proofs.Try.f38 (Sh.mks e_impl_within.sh [.I x0, .I x1, .I x2]).1 (fun v os => some (v, os)) = c_impl_within x0 x1 x2 (fun y => some ((e_impl_within.res.mk [.B y]).1, (Sh.mks e_impl_within.outs (e_impl_within.res.mk [.B y]).2).1)) := by kernel_rfl
theorem e_impl_within_ok : e_impl_within.ok Go.Proofs.Try.prog A := by
  intro R ds k r h
  unfold e_impl_within at h
  obtain ⟨x0, d0, rfl, h0⟩ := dI_some h
  obtain ⟨x1, d1, rfl, h1⟩ := dI_some h0
  obtain ⟨x2, d2, rfl, h2⟩ := dI_some h1
  obtain ⟨rfl, hE⟩ := dE_some h2
  obtain ⟨y, hy, hk⟩ := bnd_some hE
  refine ⟨_, hk, fn_ok px (fx := ⟨Go.Proofs.Try.func38, by kernel_rfl, by kernel_rfl⟩) entsOK_nil lentsOK_nil ?_⟩
  have hq := q_impl_within x0 x1 x2
  rw [c_impl_within_bind] at hq
  rw [show c_impl_within x0 x1 x2 some = some y from hy] at hq
  exact hq

/-! loop.example/g00876/impl.IsValidTable$1 -/
def c_impl_IsValidTable_1 {R : Type} (x0 : Int) (k : Bool → Option R) : Option R :=
  (impl_within x0 (0 : Int) (1000 : Int)).bind (fun y0 =>
    k !y0)
theorem c_impl_IsValidTable_1_bind {R : Type} (x0 : Int) (k : Bool → Option R) : c_impl_IsValidTable_1 x0 k = (c_impl_IsValidTable_1 x0 some).bind k := by
  unfold c_impl_IsValidTable_1
  repeat' first
    | exact bnd_tail
    | exact bnd_none
    | exact bnd_leaf
    | apply bnd_ite
    | apply bnd_cond
    | apply bnd_sum
    | (apply bnd_bind; intro _)
    | intro _
def impl_IsValidTable_1 (x0 : Int) : Option (Bool) := c_impl_IsValidTable_1 x0 some
def e_impl_IsValidTable_1 : Ent := ⟨54, [.int .i64], .bool, [.undef], fun _ ds k => dI (fun x0 ds => dE ((impl_IsValidTable_1 x0).bind (fun y => k [.B y])) ds) ds⟩
theorem q_impl_IsValidTable_1 (x0 : Int) : runFn (ocOf [e_impl_within]) (olOf []) A 54 Go.Proofs.Try.f54 (Sh.mks e_impl_IsValidTable_1.sh [.I x0]).1 (fun v os => some (v, os)) = c_impl_IsValidTable_1 x0 (fun y => some ((e_impl_IsValidTable_1.res.mk [.B y]).1, (Sh.mks e_impl_IsValidTable_1.outs (e_impl_IsValidTable_1.res.mk [.B y]).2).1)) := by kernel_rfl
theorem e_impl_IsValidTable_1_ok : e_impl_IsValidTable_1.ok Go.Proofs.Try.prog A := by
  intro R ds k r h
  unfold e_impl_IsValidTable_1 at h
  obtain ⟨x0, d0, rfl, h0⟩ := dI_some h
  obtain ⟨rfl, hE⟩ := dE_some h0
  obtain ⟨y, hy, hk⟩ := bnd_some hE
  refine ⟨_, hk, fn_ok px (fx := ⟨Go.Proofs.Try.func54, by kernel_rfl, by kernel_rfl⟩) (entsOK_cons e_impl_within_ok entsOK_nil) lentsOK_nil ?_⟩
  have hq := q_impl_IsValidTable_1 x0
  rw [c_impl_IsValidTable_1_bind] at hq
  rw [show c_impl_IsValidTable_1 x0 some = some y from hy] at hq
  exact hq

/-! slices.IndexFunc[[]int,int], loop 2 -/
def c_slices_IndexFunc_L2 {R : Type} (F : List D → Int → Int → Option ((Int) ⊕ (Unit))) (x0 : List D) (x1 : Int) (x2 : Int) (k : (Int) ⊕ (Unit) → Option R) : Option R :=
  bif Decidable.decide (x2 < x1) then
    if (0 : Int) ≤ x2 ∧ x2 < (↑x0.length : Int) then
      (impl_IsValidTable_1 ((x0.getD x2.toNat (Go.Rai.D.int (0 : Int))).toInt)).bind (fun y0 =>
        bif y0 then
          k (.inl x2)
        else
          (F x0 x1 (Go.IntKind.i64.wrap (x2 + (1 : Int)))).bind k)
    else
      none
  else
    k (.inr ())
theorem c_slices_IndexFunc_L2_bind {R : Type} (F : List D → Int → Int → Option ((Int) ⊕ (Unit))) (x0 : List D) (x1 : Int) (x2 : Int) (k : (Int) ⊕ (Unit) → Option R) : c_slices_IndexFunc_L2 F x0 x1 x2 k = (c_slices_IndexFunc_L2 F x0 x1 x2 some).bind k := by
  unfold c_slices_IndexFunc_L2
  repeat' first
    | exact bnd_tail
    | exact bnd_none
    | exact bnd_leaf
    | apply bnd_ite
    | apply bnd_cond
    | apply bnd_sum
    | (apply bnd_bind; intro _)
    | intro _
def n_slices_IndexFunc_L2 : Nat → List D → Int → Int → Option ((Int) ⊕ (Unit))
  | 0, _, _, _ => none
  | n + 1, x0, x1, x2 => c_slices_IndexFunc_L2 (n_slices_IndexFunc_L2 n) x0 x1 x2 some
noncomputable def slices_IndexFunc_L2 (x0 : List D) (x1 : Int) (x2 : Int) : Option ((Int) ⊕ (Unit)) := ev (fun n => n_slices_IndexFunc_L2 n x0 x1 x2)
def m_slices_IndexFunc_L2 (F : List D → Int → Int → Option ((Int) ⊕ (Unit))) : Lent := ⟨2, ⟨[.rd (.int .i64), .fn 54 [], .undef, .undef, .undef, .undef, .undef, .int .i64, .int .i64, .undef, .undef, .undef, .undef, .undef, .undef, .undef, .undef, .undef, .undef], []⟩, [(.ret, ⟨[.undef, .undef, .undef, .undef, .int .i64, .undef, .undef, .undef, .undef, .undef, .undef, .undef, .undef, .undef, .undef, .undef, .undef, .undef, .undef], []⟩), (.exit 0, ⟨[.undef, .undef, .undef, .undef, .undef, .undef, .undef, .undef, .undef, .undef, .undef, .undef, .undef, .undef, .undef, .undef, .undef, .undef, .undef], []⟩)], fun _ ds k => dL (fun x0 ds => dI (fun x1 ds => dI (fun x2 ds => dE ((F x0 x1 x2).bind (Sum.elim (fun y => k 0 [.I y]) (fun y => k 1 []))) ds) ds) ds) ds⟩
theorem q_slices_IndexFunc_L2 (F : List D → Int → Int → Option ((Int) ⊕ (Unit))) (x0 : List D) (x1 : Int) (x2 : Int) : runLoop (ocOf [e_impl_IsValidTable_1]) (olOf [m_slices_IndexFunc_L2 F]) A 73 (codeAt (bodyOf Go.Proofs.Try.f73) 2) ((m_slices_IndexFunc_L2 F).sh.mk' [.L x0, .I x1, .I x2]) (fun e σ' => some (e, σ')) = c_slices_IndexFunc_L2 F x0 x1 x2 (Sum.elim (fun y => some (.ret, SSt.mk' ⟨[.undef, .undef, .undef, .undef, .int .i64, .undef, .undef, .undef, .undef, .undef, .undef, .undef, .undef, .undef, .undef, .undef, .undef, .undef, .undef], []⟩ [.I y])) (fun y => some (.exit 0, SSt.mk' ⟨[.undef, .undef, .undef, .undef, .undef, .undef, .undef, .undef, .undef, .undef, .undef, .undef, .undef, .undef, .undef, .undef, .undef, .undef, .undef], []⟩ []))) := by kernel_rfl
theorem m_slices_IndexFunc_L2_ok : ∀ n, (m_slices_IndexFunc_L2 (n_slices_IndexFunc_L2 n)).ok Go.Proofs.Try.prog (codeAt (bodyOf Go.Proofs.Try.f73) 2) := by
  intro n
  induction n with
  | zero =>
    intro R ds k r h
    unfold m_slices_IndexFunc_L2 at h
    obtain ⟨x0, d0, rfl, h0⟩ := dL_some h
    obtain ⟨x1, d1, rfl, h1⟩ := dI_some h0
    obtain ⟨x2, d2, rfl, h2⟩ := dI_some h1
    obtain ⟨rfl, hE⟩ := dE_some h2
    obtain ⟨y, hy, hk⟩ := bnd_some hE
    cases hy
  | succ n ih =>
    intro R ds k r h
    unfold m_slices_IndexFunc_L2 at h
    obtain ⟨x0, d0, rfl, h0⟩ := dL_some h
    obtain ⟨x1, d1, rfl, h1⟩ := dI_some h0
    obtain ⟨x2, d2, rfl, h2⟩ := dI_some h1
    obtain ⟨rfl, hE⟩ := dE_some h2
    obtain ⟨y, hy, hk⟩ := bnd_some hE
    have hq := q_slices_IndexFunc_L2 (n_slices_IndexFunc_L2 n) x0 x1 x2
    rw [c_slices_IndexFunc_L2_bind] at hq
    rw [show c_slices_IndexFunc_L2 (n_slices_IndexFunc_L2 n) x0 x1 x2 some = some y from hy] at hq
    cases y with
    | inl y =>
      refine ⟨0, _, _, _, hk, rfl, loop_ok px (fx := ⟨Go.Proofs.Try.func73, by kernel_rfl, by kernel_rfl⟩) (entsOK_cons e_impl_IsValidTable_1_ok entsOK_nil) (lentsOK_cons ih lentsOK_nil) (by kernel_rfl) ?_⟩
      exact hq
    | inr y =>
      refine ⟨1, _, _, _, hk, rfl, loop_ok px (fx := ⟨Go.Proofs.Try.func73, by kernel_rfl, by kernel_rfl⟩) (entsOK_cons e_impl_IsValidTable_1_ok entsOK_nil) (lentsOK_cons ih lentsOK_nil) (by kernel_rfl) ?_⟩
      exact hq
noncomputable def e_slices_IndexFunc_L2 : Lent := m_slices_IndexFunc_L2 slices_IndexFunc_L2
theorem e_slices_IndexFunc_L2_ok : e_slices_IndexFunc_L2.ok Go.Proofs.Try.prog (codeAt (bodyOf Go.Proofs.Try.f73) 2) := by
  intro R ds k r h
  unfold e_slices_IndexFunc_L2 m_slices_IndexFunc_L2 at h
  obtain ⟨x0, d0, rfl, h0⟩ := dL_some h
  obtain ⟨x1, d1, rfl, h1⟩ := dI_some h0
  obtain ⟨x2, d2, rfl, h2⟩ := dI_some h1
  obtain ⟨rfl, hE⟩ := dE_some h2
  obtain ⟨y, hy, hk⟩ := bnd_some hE
  obtain ⟨n, hn⟩ := ev_some hy
  exact m_slices_IndexFunc_L2_ok n R _ k r (show (n_slices_IndexFunc_L2 n x0 x1 x2).bind _ = _ by rw [hn]; exact hk)

/-! slices.IndexFunc[[]int,int] -/
def c_slices_IndexFunc__impl_IsValidTable_1 {R : Type} (x0 : List D) (k : Int → Option R) : Option R :=
  (slices_IndexFunc_L2 x0 (↑x0.length : Int) (0 : Int)).bind (Sum.elim (fun y0 =>
    k y0) (fun y1 =>
    k (-1 : Int)))
theorem c_slices_IndexFunc__impl_IsValidTable_1_bind {R : Type} (x0 : List D) (k : Int → Option R) : c_slices_IndexFunc__impl_IsValidTable_1 x0 k = (c_slices_IndexFunc__impl_IsValidTable_1 x0 some).bind k := by
  unfold c_slices_IndexFunc__impl_IsValidTable_1
  repeat' first
    | exact bnd_tail
    | exact bnd_none
    | exact bnd_leaf
    | apply bnd_ite
    | apply bnd_cond
    | apply bnd_sum
    | (apply bnd_bind; intro _)
    | intro _
def slices_IndexFunc__impl_IsValidTable_1 (x0 : List D) : Option (Int) := c_slices_IndexFunc__impl_IsValidTable_1 x0 some
def e_slices_IndexFunc__impl_IsValidTable_1 : Ent := ⟨73, [.rd (.int .i64), .fn 54 []], .int .i64, [.undef, .undef], fun _ ds k => dL (fun x0 ds => dE ((slices_IndexFunc__impl_IsValidTable_1 x0).bind (fun y => k [.I y])) ds) ds⟩
theorem q_slices_IndexFunc__impl_IsValidTable_1 (x0 : List D) : runFn (ocOf []) (olOf [e_slices_IndexFunc_L2]) A 73 Go.Proofs.Try.f73 (Sh.mks e_slices_IndexFunc__impl_IsValidTable_1.sh [.L x0]).1 (fun v os => some (v, os)) = c_slices_IndexFunc__impl_IsValidTable_1 x0 (fun y => some ((e_slices_IndexFunc__impl_IsValidTable_1.res.mk [.I y]).1, (Sh.mks e_slices_IndexFunc__impl_IsValidTable_1.outs (e_slices_IndexFunc__impl_IsValidTable_1.res.mk [.I y]).2).1)) := by kernel_rfl
theorem e_slices_IndexFunc__impl_IsValidTable_1_ok : e_slices_IndexFunc__impl_IsValidTable_1.ok Go.Proofs.Try.prog A := by
  intro R ds k r h
  unfold e_slices_IndexFunc__impl_IsValidTable_1 at h
  obtain ⟨x0, d0, rfl, h0⟩ := dL_some h
  obtain ⟨rfl, hE⟩ := dE_some h0
  obtain ⟨y, hy, hk⟩ := bnd_some hE
  refine ⟨_, hk, fn_ok px (fx := ⟨Go.Proofs.Try.func73, by kernel_rfl, by kernel_rfl⟩) entsOK_nil (lentsOK_cons e_slices_IndexFunc_L2_ok lentsOK_nil) ?_⟩
  have hq := q_slices_IndexFunc__impl_IsValidTable_1 x0
  rw [c_slices_IndexFunc__impl_IsValidTable_1_bind] at hq
  rw [show c_slices_IndexFunc__impl_IsValidTable_1 x0 some = some y from hy] at hq
  exact hq

/-! slices.ContainsFunc[[]int,int] -/
def c_slices_ContainsFunc__impl_IsValidTable_1 {R : Type} (x0 : List D) (k : Bool → Option R) : Option R :=
  (slices_IndexFunc__impl_IsValidTable_1 x0).bind (fun y0 =>
    k (Decidable.decide ((0 : Int) ≤ y0)))
theorem c_slices_ContainsFunc__impl_IsValidTable_1_bind {R : Type} (x0 : List D) (k : Bool → Option R) : c_slices_ContainsFunc__impl_IsValidTable_1 x0 k = (c_slices_ContainsFunc__impl_IsValidTable_1 x0 some).bind k := by
  unfold c_slices_ContainsFunc__impl_IsValidTable_1
  repeat' first
    | exact bnd_tail
    | exact bnd_none
    | exact bnd_leaf
    | apply bnd_ite
    | apply bnd_cond
    | apply bnd_sum
    | (apply bnd_bind; intro _)
    | intro _
def slices_ContainsFunc__impl_IsValidTable_1 (x0 : List D) : Option (Bool) := c_slices_ContainsFunc__impl_IsValidTable_1 x0 some
def e_slices_ContainsFunc__impl_IsValidTable_1 : Ent := ⟨53, [.rd (.int .i64), .fn 54 []], .bool, [.undef, .undef], fun _ ds k => dL (fun x0 ds => dE ((slices_ContainsFunc__impl_IsValidTable_1 x0).bind (fun y => k [.B y])) ds) ds⟩
theorem q_slices_ContainsFunc__impl_IsValidTable_1 (x0 : List D) : runFn (ocOf [e_slices_IndexFunc__impl_IsValidTable_1]) (olOf []) A 53 Go.Proofs.Try.f53 (Sh.mks e_slices_ContainsFunc__impl_IsValidTable_1.sh [.L x0]).1 (fun v os => some (v, os)) = c_slices_ContainsFunc__impl_IsValidTable_1 x0 (fun y => some ((e_slices_ContainsFunc__impl_IsValidTable_1.res.mk [.B y]).1, (Sh.mks e_slices_ContainsFunc__impl_IsValidTable_1.outs (e_slices_ContainsFunc__impl_IsValidTable_1.res.mk [.B y]).2).1)) := by kernel_rfl
theorem e_slices_ContainsFunc__impl_IsValidTable_1_ok : e_slices_ContainsFunc__impl_IsValidTable_1.ok Go.Proofs.Try.prog A := by
  intro R ds k r h
  unfold e_slices_ContainsFunc__impl_IsValidTable_1 at h
  obtain ⟨x0, d0, rfl, h0⟩ := dL_some h
  obtain ⟨rfl, hE⟩ := dE_some h0
  obtain ⟨y, hy, hk⟩ := bnd_some hE
  refine ⟨_, hk, fn_ok px (fx := ⟨Go.Proofs.Try.func53, by kernel_rfl, by kernel_rfl⟩) (entsOK_cons e_slices_IndexFunc__impl_IsValidTable_1_ok entsOK_nil) lentsOK_nil ?_⟩
  have hq := q_slices_ContainsFunc__impl_IsValidTable_1 x0
  rw [c_slices_ContainsFunc__impl_IsValidTable_1_bind] at hq
  rw [show c_slices_ContainsFunc__impl_IsValidTable_1 x0 some = some y from hy] at hq
  exact hq

/-! loop.example/g00876/impl.IsValidTable, loop 4 -/
def c_impl_IsValidTable_L4 {R : Type} (F : List D → Int → Int → List D → Option ((Bool) ⊕ (Unit))) (x0 : List D) (x1 : Int) (x2 : Int) (x3 : List D) (k : (Bool) ⊕ (Unit) → Option R) : Option R :=
  bif Decidable.decide (x2 < x1) then
    if (0 : Int) ≤ x2 ∧ x2 < (↑x0.length : Int) then
      (impl_within (↑(x0.getD x2.toNat (Go.Rai.D.int (0 : Int))).items.length : Int) (1 : Int) (10 : Int)).bind (fun y0 =>
        bif !y0 then
          k (.inl Bool.false)
        else
          if (0 : Int) ≤ (0 : Int) ∧ (0 : Int) < (↑x3.length : Int) then
            bif !Decidable.decide ((↑(x0.getD x2.toNat (Go.Rai.D.int (0 : Int))).items.length : Int) = (↑(x3.getD (Int.toNat (0 : Int)) (Go.Rai.D.int (0 : Int))).items.length : Int)) then
              k (.inl Bool.false)
            else
              (slices_ContainsFunc__impl_IsValidTable_1 ((x0.getD x2.toNat (Go.Rai.D.int (0 : Int))).items)).bind (fun y1 =>
                bif y1 then
                  k (.inl Bool.false)
                else
                  (F x0 x1 (Go.IntKind.i64.wrap (x2 + (1 : Int))) x3).bind k)
          else
            none)
    else
      none
  else
    k (.inr ())
theorem c_impl_IsValidTable_L4_bind {R : Type} (F : List D → Int → Int → List D → Option ((Bool) ⊕ (Unit))) (x0 : List D) (x1 : Int) (x2 : Int) (x3 : List D) (k : (Bool) ⊕ (Unit) → Option R) : c_impl_IsValidTable_L4 F x0 x1 x2 x3 k = (c_impl_IsValidTable_L4 F x0 x1 x2 x3 some).bind k := by
  unfold c_impl_IsValidTable_L4
  repeat' first
    | exact bnd_tail
    | exact bnd_none
    | exact bnd_leaf
    | apply bnd_ite
    | apply bnd_cond
    | apply bnd_sum
    | (apply bnd_bind; intro _)
    | intro _
def n_impl_IsValidTable_L4 : Nat → List D → Int → Int → List D → Option ((Bool) ⊕ (Unit))
  | 0, _, _, _, _ => none
  | n + 1, x0, x1, x2, x3 => c_impl_IsValidTable_L4 (n_impl_IsValidTable_L4 n) x0 x1 x2 x3 some
noncomputable def impl_IsValidTable_L4 (x0 : List D) (x1 : Int) (x2 : Int) (x3 : List D) : Option ((Bool) ⊕ (Unit)) := ev (fun n => n_impl_IsValidTable_L4 n x0 x1 x2 x3)
def m_impl_IsValidTable_L4 (F : List D → Int → Int → List D → Option ((Bool) ⊕ (Unit))) : Lent := ⟨4, ⟨[.undef, .ptr 1000 [0], .undef, .undef, .undef, .undef, .undef, .undef, .undef, .undef, .undef, .rd (.slice (.int .i64)), .int .i64, .int .i64, .undef, .undef, .undef, .undef, .undef, .undef, .undef, .undef, .undef, .undef, .undef, .undef, .undef, .undef, .undef, .undef, .undef, .undef, .undef, .undef, .undef, .undef], [(1000, .obox (.agg [.rd (.slice (.int .i64))]))]⟩, [(.ret, ⟨[.undef, .undef, .bool, .undef, .undef, .undef, .undef, .undef, .undef, .undef, .undef, .undef, .undef, .undef, .undef, .undef, .undef, .undef, .undef, .undef, .undef, .undef, .undef, .undef, .undef, .undef, .undef, .undef, .undef, .undef, .undef, .undef, .undef, .undef, .undef, .undef], []⟩), (.exit 0, ⟨[.undef, .undef, .undef, .undef, .undef, .undef, .undef, .undef, .undef, .undef, .undef, .undef, .undef, .undef, .undef, .undef, .undef, .undef, .undef, .undef, .undef, .undef, .undef, .undef, .undef, .undef, .undef, .undef, .undef, .undef, .undef, .undef, .undef, .undef, .undef, .undef], []⟩)], fun _ ds k => dL (fun x0 ds => dI (fun x1 ds => dI (fun x2 ds => dL (fun x3 ds => dE ((F x0 x1 x2 x3).bind (Sum.elim (fun y => k 0 [.B y]) (fun y => k 1 []))) ds) ds) ds) ds) ds⟩
theorem q_impl_IsValidTable_L4 (F : List D → Int → Int → List D → Option ((Bool) ⊕ (Unit))) (x0 : List D) (x1 : Int) (x2 : Int) (x3 : List D) : runLoop (ocOf [e_impl_within, e_slices_ContainsFunc__impl_IsValidTable_1]) (olOf [m_impl_IsValidTable_L4 F]) A 29 (codeAt (bodyOf Go.Proofs.Try.f29) 4) ((m_impl_IsValidTable_L4 F).sh.mk' [.L x0, .I x1, .I x2, .L x3]) (fun e σ' => some (e, σ')) = c_impl_IsValidTable_L4 F x0 x1 x2 x3 (Sum.elim (fun y => some (.ret, SSt.mk' ⟨[.undef, .undef, .bool, .undef, .undef, .undef, .undef, .undef, .undef, .undef, .undef, .undef, .undef, .undef, .undef, .undef, .undef, .undef, .undef, .undef, .undef, .undef, .undef, .undef, .undef, .undef, .undef, .undef, .undef, .undef, .undef, .undef, .undef, .undef, .undef, .undef], []⟩ [.B y])) (fun y => some (.exit 0, SSt.mk' ⟨[.undef, .undef, .undef, .undef, .undef, .undef, .undef, .undef, .undef, .undef, .undef, .undef, .undef, .undef, .undef, .undef, .undef, .undef, .undef, .undef, .undef, .undef, .undef, .undef, .undef, .undef, .undef, .undef, .undef, .undef, .undef, .undef, .undef, .undef, .undef, .undef], []⟩ []))) := by kernel_rfl
theorem m_impl_IsValidTable_L4_ok : ∀ n, (m_impl_IsValidTable_L4 (n_impl_IsValidTable_L4 n)).ok Go.Proofs.Try.prog (codeAt (bodyOf Go.Proofs.Try.f29) 4) := by
  intro n
  induction n with
  | zero =>
    intro R ds k r h
    unfold m_impl_IsValidTable_L4 at h
    obtain ⟨x0, d0, rfl, h0⟩ := dL_some h
    obtain ⟨x1, d1, rfl, h1⟩ := dI_some h0
    obtain ⟨x2, d2, rfl, h2⟩ := dI_some h1
    obtain ⟨x3, d3, rfl, h3⟩ := dL_some h2
    obtain ⟨rfl, hE⟩ := dE_some h3
    obtain ⟨y, hy, hk⟩ := bnd_some hE
    cases hy
  | succ n ih =>
    intro R ds k r h
    unfold m_impl_IsValidTable_L4 at h
    obtain ⟨x0, d0, rfl, h0⟩ := dL_some h
    obtain ⟨x1, d1, rfl, h1⟩ := dI_some h0
    obtain ⟨x2, d2, rfl, h2⟩ := dI_some h1
    obtain ⟨x3, d3, rfl, h3⟩ := dL_some h2
    obtain ⟨rfl, hE⟩ := dE_some h3
    obtain ⟨y, hy, hk⟩ := bnd_some hE
    have hq := q_impl_IsValidTable_L4 (n_impl_IsValidTable_L4 n) x0 x1 x2 x3
    rw [c_impl_IsValidTable_L4_bind] at hq
    rw [show c_impl_IsValidTable_L4 (n_impl_IsValidTable_L4 n) x0 x1 x2 x3 some = some y from hy] at hq
    cases y with
    | inl y =>
      refine ⟨0, _, _, _, hk, rfl, loop_ok px (fx := ⟨Go.Proofs.Try.func29, by kernel_rfl, by kernel_rfl⟩) (entsOK_cons e_impl_within_ok (entsOK_cons e_slices_ContainsFunc__impl_IsValidTable_1_ok entsOK_nil)) (lentsOK_cons ih lentsOK_nil) (by kernel_rfl) ?_⟩
      exact hq
    | inr y =>
      refine ⟨1, _, _, _, hk, rfl, loop_ok px (fx := ⟨Go.Proofs.Try.func29, by kernel_rfl, by kernel_rfl⟩) (entsOK_cons e_impl_within_ok (entsOK_cons e_slices_ContainsFunc__impl_IsValidTable_1_ok entsOK_nil)) (lentsOK_cons ih lentsOK_nil) (by kernel_rfl) ?_⟩
      exact hq
noncomputable def e_impl_IsValidTable_L4 : Lent := m_impl_IsValidTable_L4 impl_IsValidTable_L4
theorem e_impl_IsValidTable_L4_ok : e_impl_IsValidTable_L4.ok Go.Proofs.Try.prog (codeAt (bodyOf Go.Proofs.Try.f29) 4) := by
  intro R ds k r h
  unfold e_impl_IsValidTable_L4 m_impl_IsValidTable_L4 at h
  obtain ⟨x0, d0, rfl, h0⟩ := dL_some h
  obtain ⟨x1, d1, rfl, h1⟩ := dI_some h0
  obtain ⟨x2, d2, rfl, h2⟩ := dI_some h1
  obtain ⟨x3, d3, rfl, h3⟩ := dL_some h2
  obtain ⟨rfl, hE⟩ := dE_some h3
  obtain ⟨y, hy, hk⟩ := bnd_some hE
  obtain ⟨n, hn⟩ := ev_some hy
  exact m_impl_IsValidTable_L4_ok n R _ k r (show (n_impl_IsValidTable_L4 n x0 x1 x2 x3).bind _ = _ by rw [hn]; exact hk)

/-! loop.example/g00876/impl.IsValidTable -/
def c_impl_IsValidTable {R : Type} (x0 : List D) (k : Bool → Option R) : Option R :=
  (impl_within (↑x0.length : Int) (1 : Int) (7 : Int)).bind (fun y0 =>
    bif !y0 then
      k Bool.false
    else
      (impl_IsValidTable_L4 x0 (↑x0.length : Int) (0 : Int) x0).bind (Sum.elim (fun y1 =>
        k y1) (fun y2 =>
        k Bool.true)))
theorem c_impl_IsValidTable_bind {R : Type} (x0 : List D) (k : Bool → Option R) : c_impl_IsValidTable x0 k = (c_impl_IsValidTable x0 some).bind k := by
  unfold c_impl_IsValidTable
  repeat' first
    | exact bnd_tail
    | exact bnd_none
    | exact bnd_leaf
    | apply bnd_ite
    | apply bnd_cond
    | apply bnd_sum
    | (apply bnd_bind; intro _)
    | intro _
def impl_IsValidTable (x0 : List D) : Option (Bool) := c_impl_IsValidTable x0 some
def e_impl_IsValidTable : Ent := ⟨29, [.agg [.rd (.slice (.int .i64))]], .bool, [.undef], fun _ ds k => dL (fun x0 ds => dE ((impl_IsValidTable x0).bind (fun y => k [.B y])) ds) ds⟩
theorem q_impl_IsValidTable (x0 : List D) : runFn (ocOf [e_impl_within]) (olOf [e_impl_IsValidTable_L4]) A 29 Go.Proofs.Try.f29 (Sh.mks e_impl_IsValidTable.sh [.L x0]).1 (fun v os => some (v, os)) = c_impl_IsValidTable x0 (fun y => some ((e_impl_IsValidTable.res.mk [.B y]).1, (Sh.mks e_impl_IsValidTable.outs (e_impl_IsValidTable.res.mk [.B y]).2).1)) := by kernel_rfl
theorem e_impl_IsValidTable_ok : e_impl_IsValidTable.ok Go.Proofs.Try.prog A := by
  intro R ds k r h
  unfold e_impl_IsValidTable at h
  obtain ⟨x0, d0, rfl, h0⟩ := dL_some h
  obtain ⟨rfl, hE⟩ := dE_some h0
  obtain ⟨y, hy, hk⟩ := bnd_some hE
  refine ⟨_, hk, fn_ok px (fx := ⟨Go.Proofs.Try.func29, by kernel_rfl, by kernel_rfl⟩) (entsOK_cons e_impl_within_ok entsOK_nil) (lentsOK_cons e_impl_IsValidTable_L4_ok lentsOK_nil) ?_⟩
  have hq := q_impl_IsValidTable x0
  rw [c_impl_IsValidTable_bind] at hq
  rw [show c_impl_IsValidTable x0 some = some y from hy] at hq
  exact hq

/-! loop.example/g00876/laws.eqIntS, loop 4 -/
def c_laws_eqIntS_L4 {R : Type} (F : List D → List D → Int → Option ((Bool) ⊕ (Unit))) (x0 : List D) (x1 : List D) (x2 : Int) (k : (Bool) ⊕ (Unit) → Option R) : Option R :=
  bif Decidable.decide (x2 < (↑x0.length : Int)) then
    if (0 : Int) ≤ x2 ∧ x2 < (↑x0.length : Int) then
      if (0 : Int) ≤ x2 ∧ x2 < (↑x1.length : Int) then
        bif !Decidable.decide ((x0.getD x2.toNat (Go.Rai.D.int (0 : Int))).toInt = (x1.getD x2.toNat (Go.Rai.D.int (0 : Int))).toInt) then
          k (.inl Bool.false)
        else
          (F x0 x1 (Go.IntKind.i64.wrap (x2 + (1 : Int)))).bind k
      else
        none
    else
      none
  else
    k (.inr ())
theorem c_laws_eqIntS_L4_bind {R : Type} (F : List D → List D → Int → Option ((Bool) ⊕ (Unit))) (x0 : List D) (x1 : List D) (x2 : Int) (k : (Bool) ⊕ (Unit) → Option R) : c_laws_eqIntS_L4 F x0 x1 x2 k = (c_laws_eqIntS_L4 F x0 x1 x2 some).bind k := by
  unfold c_laws_eqIntS_L4
  repeat' first
    | exact bnd_tail
    | exact bnd_none
    | exact bnd_leaf
    | apply bnd_ite
    | apply bnd_cond
    | apply bnd_sum
    | (apply bnd_bind; intro _)
    | intro _
def n_laws_eqIntS_L4 : Nat → List D → List D → Int → Option ((Bool) ⊕ (Unit))
  | 0, _, _, _ => none
  | n + 1, x0, x1, x2 => c_laws_eqIntS_L4 (n_laws_eqIntS_L4 n) x0 x1 x2 some
noncomputable def laws_eqIntS_L4 (x0 : List D) (x1 : List D) (x2 : Int) : Option ((Bool) ⊕ (Unit)) := ev (fun n => n_laws_eqIntS_L4 n x0 x1 x2)
def m_laws_eqIntS_L4 (F : List D → List D → Int → Option ((Bool) ⊕ (Unit))) : Lent := ⟨4, ⟨[.rd (.int .i64), .rd (.int .i64), .undef, .undef, .undef, .int .i64, .undef, .undef, .undef, .undef, .undef, .undef, .undef, .undef, .undef, .undef, .undef, .undef, .undef, .undef, .undef, .undef, .undef, .undef, .undef, .undef], []⟩, [(.ret, ⟨[.undef, .undef, .undef, .undef, .bool, .undef, .undef, .undef, .undef, .undef, .undef, .undef, .undef, .undef, .undef, .undef, .undef, .undef, .undef, .undef, .undef, .undef, .undef, .undef, .undef, .undef], []⟩), (.exit 0, ⟨[.undef, .undef, .undef, .undef, .undef, .undef, .undef, .undef, .undef, .undef, .undef, .undef, .undef, .undef, .undef, .undef, .undef, .undef, .undef, .undef, .undef, .undef, .undef, .undef, .undef, .undef], []⟩)], fun _ ds k => dL (fun x0 ds => dL (fun x1 ds => dI (fun x2 ds => dE ((F x0 x1 x2).bind (Sum.elim (fun y => k 0 [.B y]) (fun y => k 1 []))) ds) ds) ds) ds⟩
theorem q_laws_eqIntS_L4 (F : List D → List D → Int → Option ((Bool) ⊕ (Unit))) (x0 : List D) (x1 : List D) (x2 : Int) : runLoop (ocOf []) (olOf [m_laws_eqIntS_L4 F]) A 74 (codeAt (bodyOf Go.Proofs.Try.f74) 4) ((m_laws_eqIntS_L4 F).sh.mk' [.L x0, .L x1, .I x2]) (fun e σ' => some (e, σ')) = c_laws_eqIntS_L4 F x0 x1 x2 (Sum.elim (fun y => some (.ret, SSt.mk' ⟨[.undef, .undef, .undef, .undef, .bool, .undef, .undef, .undef, .undef, .undef, .undef, .undef, .undef, .undef, .undef, .undef, .undef, .undef, .undef, .undef, .undef, .undef, .undef, .undef, .undef, .undef], []⟩ [.B y])) (fun y => some (.exit 0, SSt.mk' ⟨[.undef, .undef, .undef, .undef, .undef, .undef, .undef, .undef, .undef, .undef, .undef, .undef, .undef, .undef, .undef, .undef, .undef, .undef, .undef, .undef, .undef, .undef, .undef, .undef, .undef, .undef], []⟩ []))) := by kernel_rfl
theorem m_laws_eqIntS_L4_ok : ∀ n, (m_laws_eqIntS_L4 (n_laws_eqIntS_L4 n)).ok Go.Proofs.Try.prog (codeAt (bodyOf Go.Proofs.Try.f74) 4) := by
  intro n
  induction n with
  | zero =>
    intro R ds k r h
    unfold m_laws_eqIntS_L4 at h
    obtain ⟨x0, d0, rfl, h0⟩ := dL_some h
    obtain ⟨x1, d1, rfl, h1⟩ := dL_some h0
    obtain ⟨x2, d2, rfl, h2⟩ := dI_some h1
    obtain ⟨rfl, hE⟩ := dE_some h2
    obtain ⟨y, hy, hk⟩ := bnd_some hE
    cases hy
  | succ n ih =>
    intro R ds k r h
    unfold m_laws_eqIntS_L4 at h
    obtain ⟨x0, d0, rfl, h0⟩ := dL_some h
    obtain ⟨x1, d1, rfl, h1⟩ := dL_some h0
    obtain ⟨x2, d2, rfl, h2⟩ := dI_some h1
    obtain ⟨rfl, hE⟩ := dE_some h2
    obtain ⟨y, hy, hk⟩ := bnd_some hE
    have hq := q_laws_eqIntS_L4 (n_laws_eqIntS_L4 n) x0 x1 x2
    rw [c_laws_eqIntS_L4_bind] at hq
    rw [show c_laws_eqIntS_L4 (n_laws_eqIntS_L4 n) x0 x1 x2 some = some y from hy] at hq
    cases y with
    | inl y =>
      refine ⟨0, _, _, _, hk, rfl, loop_ok px (fx := ⟨Go.Proofs.Try.func74, by kernel_rfl, by kernel_rfl⟩) entsOK_nil (lentsOK_cons ih lentsOK_nil) (by kernel_rfl) ?_⟩
      exact hq
    | inr y =>
      refine ⟨1, _, _, _, hk, rfl, loop_ok px (fx := ⟨Go.Proofs.Try.func74, by kernel_rfl, by kernel_rfl⟩) entsOK_nil (lentsOK_cons ih lentsOK_nil) (by kernel_rfl) ?_⟩
      exact hq
noncomputable def e_laws_eqIntS_L4 : Lent := m_laws_eqIntS_L4 laws_eqIntS_L4
theorem e_laws_eqIntS_L4_ok : e_laws_eqIntS_L4.ok Go.Proofs.Try.prog (codeAt (bodyOf Go.Proofs.Try.f74) 4) := by
  intro R ds k r h
  unfold e_laws_eqIntS_L4 m_laws_eqIntS_L4 at h
  obtain ⟨x0, d0, rfl, h0⟩ := dL_some h
  obtain ⟨x1, d1, rfl, h1⟩ := dL_some h0
  obtain ⟨x2, d2, rfl, h2⟩ := dI_some h1
  obtain ⟨rfl, hE⟩ := dE_some h2
  obtain ⟨y, hy, hk⟩ := bnd_some hE
  obtain ⟨n, hn⟩ := ev_some hy
  exact m_laws_eqIntS_L4_ok n R _ k r (show (n_laws_eqIntS_L4 n x0 x1 x2).bind _ = _ by rw [hn]; exact hk)

/-! loop.example/g00876/laws.eqIntS -/
def c_laws_eqIntS {R : Type} (x0 : List D) (x1 : List D) (k : Bool → Option R) : Option R :=
  bif !Decidable.decide ((↑x0.length : Int) = (↑x1.length : Int)) then
    k Bool.false
  else
    (laws_eqIntS_L4 x0 x1 (0 : Int)).bind (Sum.elim (fun y0 =>
      k y0) (fun y1 =>
      k Bool.true))
theorem c_laws_eqIntS_bind {R : Type} (x0 : List D) (x1 : List D) (k : Bool → Option R) : c_laws_eqIntS x0 x1 k = (c_laws_eqIntS x0 x1 some).bind k := by
  unfold c_laws_eqIntS
  repeat' first
    | exact bnd_tail
    | exact bnd_none
    | exact bnd_leaf
    | apply bnd_ite
    | apply bnd_cond
    | apply bnd_sum
    | (apply bnd_bind; intro _)
    | intro _
def laws_eqIntS (x0 : List D) (x1 : List D) : Option (Bool) := c_laws_eqIntS x0 x1 some
def e_laws_eqIntS : Ent := ⟨74, [.rd (.int .i64), .rd (.int .i64)], .bool, [.undef, .undef], fun _ ds k => dL (fun x0 ds => dL (fun x1 ds => dE ((laws_eqIntS x0 x1).bind (fun y => k [.B y])) ds) ds) ds⟩
theorem q_laws_eqIntS (x0 : List D) (x1 : List D) : runFn (ocOf []) (olOf [e_laws_eqIntS_L4]) A 74 Go.Proofs.Try.f74 (Sh.mks e_laws_eqIntS.sh [.L x0, .L x1]).1 (fun v os => some (v, os)) = c_laws_eqIntS x0 x1 (fun y => some ((e_laws_eqIntS.res.mk [.B y]).1, (Sh.mks e_laws_eqIntS.outs (e_laws_eqIntS.res.mk [.B y]).2).1)) := by kernel_rfl
theorem e_laws_eqIntS_ok : e_laws_eqIntS.ok Go.Proofs.Try.prog A := by
  intro R ds k r h
  unfold e_laws_eqIntS at h
  obtain ⟨x0, d0, rfl, h0⟩ := dL_some h
  obtain ⟨x1, d1, rfl, h1⟩ := dL_some h0
  obtain ⟨rfl, hE⟩ := dE_some h1
  obtain ⟨y, hy, hk⟩ := bnd_some hE
  refine ⟨_, hk, fn_ok px (fx := ⟨Go.Proofs.Try.func74, by kernel_rfl, by kernel_rfl⟩) entsOK_nil (lentsOK_cons e_laws_eqIntS_L4_ok lentsOK_nil) ?_⟩
  have hq := q_laws_eqIntS x0 x1
  rw [c_laws_eqIntS_bind] at hq
  rw [show c_laws_eqIntS x0 x1 some = some y from hy] at hq
  exact hq

/-! loop.example/g00876/laws.eqIntSS, loop 4 -/
def c_laws_eqIntSS_L4 {R : Type} (F : List D → List D → Int → Option ((Bool) ⊕ (Unit))) (x0 : List D) (x1 : List D) (x2 : Int) (k : (Bool) ⊕ (Unit) → Option R) : Option R :=
  bif Decidable.decide (x2 < (↑x0.length : Int)) then
    if (0 : Int) ≤ x2 ∧ x2 < (↑x0.length : Int) then
      if (0 : Int) ≤ x2 ∧ x2 < (↑x1.length : Int) then
        (laws_eqIntS ((x0.getD x2.toNat (Go.Rai.D.int (0 : Int))).items) ((x1.getD x2.toNat (Go.Rai.D.int (0 : Int))).items)).bind (fun y0 =>
          bif !y0 then
            k (.inl Bool.false)
          else
            (F x0 x1 (Go.IntKind.i64.wrap (x2 + (1 : Int)))).bind k)
      else
        none
    else
      none
  else
    k (.inr ())
theorem c_laws_eqIntSS_L4_bind {R : Type} (F : List D → List D → Int → Option ((Bool) ⊕ (Unit))) (x0 : List D) (x1 : List D) (x2 : Int) (k : (Bool) ⊕ (Unit) → Option R) : c_laws_eqIntSS_L4 F x0 x1 x2 k = (c_laws_eqIntSS_L4 F x0 x1 x2 some).bind k := by
  unfold c_laws_eqIntSS_L4
  repeat' first
    | exact bnd_tail
    | exact bnd_none
    | exact bnd_leaf
    | apply bnd_ite
    | apply bnd_cond
    | apply bnd_sum
    | (apply bnd_bind; intro _)
    | intro _
def n_laws_eqIntSS_L4 : Nat → List D → List D → Int → Option ((Bool) ⊕ (Unit))
  | 0, _, _, _ => none
  | n + 1, x0, x1, x2 => c_laws_eqIntSS_L4 (n_laws_eqIntSS_L4 n) x0 x1 x2 some
noncomputable def laws_eqIntSS_L4 (x0 : List D) (x1 : List D) (x2 : Int) : Option ((Bool) ⊕ (Unit)) := ev (fun n => n_laws_eqIntSS_L4 n x0 x1 x2)
def m_laws_eqIntSS_L4 (F : List D → List D → Int → Option ((Bool) ⊕ (Unit))) : Lent := ⟨4, ⟨[.rd (.slice (.int .i64)), .rd (.slice (.int .i64)), .undef, .undef, .undef, .int .i64, .undef, .undef, .undef, .undef, .undef, .undef, .undef, .undef, .undef, .undef, .undef, .undef, .undef, .undef, .undef, .undef, .undef, .undef, .undef, .undef, .undef], []⟩, [(.ret, ⟨[.undef, .undef, .undef, .undef, .bool, .undef, .undef, .undef, .undef, .undef, .undef, .undef, .undef, .undef, .undef, .undef, .undef, .undef, .undef, .undef, .undef, .undef, .undef, .undef, .undef, .undef, .undef], []⟩), (.exit 0, ⟨[.undef, .undef, .undef, .undef, .undef, .undef, .undef, .undef, .undef, .undef, .undef, .undef, .undef, .undef, .undef, .undef, .undef, .undef, .undef, .undef, .undef, .undef, .undef, .undef, .undef, .undef, .undef], []⟩)], fun _ ds k => dL (fun x0 ds => dL (fun x1 ds => dI (fun x2 ds => dE ((F x0 x1 x2).bind (Sum.elim (fun y => k 0 [.B y]) (fun y => k 1 []))) ds) ds) ds) ds⟩
theorem q_laws_eqIntSS_L4 (F : List D → List D → Int → Option ((Bool) ⊕ (Unit))) (x0 : List D) (x1 : List D) (x2 : Int) : runLoop (ocOf [e_laws_eqIntS]) (olOf [m_laws_eqIntSS_L4 F]) A 55 (codeAt (bodyOf Go.Proofs.Try.f55) 4) ((m_laws_eqIntSS_L4 F).sh.mk' [.L x0, .L x1, .I x2]) (fun e σ' => some (e, σ')) = c_laws_eqIntSS_L4 F x0 x1 x2 (Sum.elim (fun y => some (.ret, SSt.mk' ⟨[.undef, .undef, .undef, .undef, .bool, .undef, .undef, .undef, .undef, .undef, .undef, .undef, .undef, .undef, .undef, .undef, .undef, .undef, .undef, .undef, .undef, .undef, .undef, .undef, .undef, .undef, .undef], []⟩ [.B y])) (fun y => some (.exit 0, SSt.mk' ⟨[.undef, .undef, .undef, .undef, .undef, .undef, .undef, .undef, .undef, .undef, .undef, .undef, .undef, .undef, .undef, .undef, .undef, .undef, .undef, .undef, .undef, .undef, .undef, .undef, .undef, .undef, .undef], []⟩ []))) := by kernel_rfl
theorem m_laws_eqIntSS_L4_ok : ∀ n, (m_laws_eqIntSS_L4 (n_laws_eqIntSS_L4 n)).ok Go.Proofs.Try.prog (codeAt (bodyOf Go.Proofs.Try.f55) 4) := by
  intro n
  induction n with
  | zero =>
    intro R ds k r h
    unfold m_laws_eqIntSS_L4 at h
    obtain ⟨x0, d0, rfl, h0⟩ := dL_some h
    obtain ⟨x1, d1, rfl, h1⟩ := dL_some h0
    obtain ⟨x2, d2, rfl, h2⟩ := dI_some h1
    obtain ⟨rfl, hE⟩ := dE_some h2
    obtain ⟨y, hy, hk⟩ := bnd_some hE
    cases hy
  | succ n ih =>
    intro R ds k r h
    unfold m_laws_eqIntSS_L4 at h
    obtain ⟨x0, d0, rfl, h0⟩ := dL_some h
    obtain ⟨x1, d1, rfl, h1⟩ := dL_some h0
    obtain ⟨x2, d2, rfl, h2⟩ := dI_some h1
    obtain ⟨rfl, hE⟩ := dE_some h2
    obtain ⟨y, hy, hk⟩ := bnd_some hE
    have hq := q_laws_eqIntSS_L4 (n_laws_eqIntSS_L4 n) x0 x1 x2
    rw [c_laws_eqIntSS_L4_bind] at hq
    rw [show c_laws_eqIntSS_L4 (n_laws_eqIntSS_L4 n) x0 x1 x2 some = some y from hy] at hq
    cases y with
    | inl y =>
      refine ⟨0, _, _, _, hk, rfl, loop_ok px (fx := ⟨Go.Proofs.Try.func55, by kernel_rfl, by kernel_rfl⟩) (entsOK_cons e_laws_eqIntS_ok entsOK_nil) (lentsOK_cons ih lentsOK_nil) (by kernel_rfl) ?_⟩
      exact hq
    | inr y =>
      refine ⟨1, _, _, _, hk, rfl, loop_ok px (fx := ⟨Go.Proofs.Try.func55, by kernel_rfl, by kernel_rfl⟩) (entsOK_cons e_laws_eqIntS_ok entsOK_nil) (lentsOK_cons ih lentsOK_nil) (by kernel_rfl) ?_⟩
      exact hq
noncomputable def e_laws_eqIntSS_L4 : Lent := m_laws_eqIntSS_L4 laws_eqIntSS_L4
theorem e_laws_eqIntSS_L4_ok : e_laws_eqIntSS_L4.ok Go.Proofs.Try.prog (codeAt (bodyOf Go.Proofs.Try.f55) 4) := by
  intro R ds k r h
  unfold e_laws_eqIntSS_L4 m_laws_eqIntSS_L4 at h
  obtain ⟨x0, d0, rfl, h0⟩ := dL_some h
  obtain ⟨x1, d1, rfl, h1⟩ := dL_some h0
  obtain ⟨x2, d2, rfl, h2⟩ := dI_some h1
  obtain ⟨rfl, hE⟩ := dE_some h2
  obtain ⟨y, hy, hk⟩ := bnd_some hE
  obtain ⟨n, hn⟩ := ev_some hy
  exact m_laws_eqIntSS_L4_ok n R _ k r (show (n_laws_eqIntSS_L4 n x0 x1 x2).bind _ = _ by rw [hn]; exact hk)

/-! loop.example/g00876/laws.eqIntSS -/
def c_laws_eqIntSS {R : Type} (x0 : List D) (x1 : List D) (k : Bool → Option R) : Option R :=
  bif !Decidable.decide ((↑x0.length : Int) = (↑x1.length : Int)) then
    k Bool.false
  else
    (laws_eqIntSS_L4 x0 x1 (0 : Int)).bind (Sum.elim (fun y0 =>
      k y0) (fun y1 =>
      k Bool.true))
theorem c_laws_eqIntSS_bind {R : Type} (x0 : List D) (x1 : List D) (k : Bool → Option R) : c_laws_eqIntSS x0 x1 k = (c_laws_eqIntSS x0 x1 some).bind k := by
  unfold c_laws_eqIntSS
  repeat' first
    | exact bnd_tail
    | exact bnd_none
    | exact bnd_leaf
    | apply bnd_ite
    | apply bnd_cond
    | apply bnd_sum
    | (apply bnd_bind; intro _)
    | intro _
def laws_eqIntSS (x0 : List D) (x1 : List D) : Option (Bool) := c_laws_eqIntSS x0 x1 some
def e_laws_eqIntSS : Ent := ⟨55, [.rd (.slice (.int .i64)), .rd (.slice (.int .i64))], .bool, [.undef, .undef], fun _ ds k => dL (fun x0 ds => dL (fun x1 ds => dE ((laws_eqIntSS x0 x1).bind (fun y => k [.B y])) ds) ds) ds⟩
theorem q_laws_eqIntSS (x0 : List D) (x1 : List D) : runFn (ocOf []) (olOf [e_laws_eqIntSS_L4]) A 55 Go.Proofs.Try.f55 (Sh.mks e_laws_eqIntSS.sh [.L x0, .L x1]).1 (fun v os => some (v, os)) = c_laws_eqIntSS x0 x1 (fun y => some ((e_laws_eqIntSS.res.mk [.B y]).1, (Sh.mks e_laws_eqIntSS.outs (e_laws_eqIntSS.res.mk [.B y]).2).1)) := by kernel_rfl
theorem e_laws_eqIntSS_ok : e_laws_eqIntSS.ok Go.Proofs.Try.prog A := by
  intro R ds k r h
  unfold e_laws_eqIntSS at h
  obtain ⟨x0, d0, rfl, h0⟩ := dL_some h
  obtain ⟨x1, d1, rfl, h1⟩ := dL_some h0
  obtain ⟨rfl, hE⟩ := dE_some h1
  obtain ⟨y, hy, hk⟩ := bnd_some hE
  refine ⟨_, hk, fn_ok px (fx := ⟨Go.Proofs.Try.func55, by kernel_rfl, by kernel_rfl⟩) entsOK_nil (lentsOK_cons e_laws_eqIntSS_L4_ok lentsOK_nil) ?_⟩
  have hq := q_laws_eqIntSS x0 x1
  rw [c_laws_eqIntSS_bind] at hq
  rw [show c_laws_eqIntSS x0 x1 some = some y from hy] at hq
  exact hq

/-! loop.example/g00876/laws.eqTable -/
def c_laws_eqTable {R : Type} (x0 : List D) (x1 : List D) (k : Bool → Option R) : Option R :=
  (laws_eqIntSS x0 x1).bind (fun y0 =>
    bif !y0 then
      k Bool.false
    else
      k Bool.true)
theorem c_laws_eqTable_bind {R : Type} (x0 : List D) (x1 : List D) (k : Bool → Option R) : c_laws_eqTable x0 x1 k = (c_laws_eqTable x0 x1 some).bind k := by
  unfold c_laws_eqTable
  repeat' first
    | exact bnd_tail
    | exact bnd_none
    | exact bnd_leaf
    | apply bnd_ite
    | apply bnd_cond
    | apply bnd_sum
    | (apply bnd_bind; intro _)
    | intro _
def laws_eqTable (x0 : List D) (x1 : List D) : Option (Bool) := c_laws_eqTable x0 x1 some
def e_laws_eqTable : Ent := ⟨30, [.agg [.rd (.slice (.int .i64))], .agg [.rd (.slice (.int .i64))]], .bool, [.undef, .undef], fun _ ds k => dL (fun x0 ds => dL (fun x1 ds => dE ((laws_eqTable x0 x1).bind (fun y => k [.B y])) ds) ds) ds⟩
theorem q_laws_eqTable (x0 : List D) (x1 : List D) : runFn (ocOf [e_laws_eqIntSS]) (olOf []) A 30 Go.Proofs.Try.f30 (Sh.mks e_laws_eqTable.sh [.L x0, .L x1]).1 (fun v os => some (v, os)) = c_laws_eqTable x0 x1 (fun y => some ((e_laws_eqTable.res.mk [.B y]).1, (Sh.mks e_laws_eqTable.outs (e_laws_eqTable.res.mk [.B y]).2).1)) := by kernel_rfl
theorem e_laws_eqTable_ok : e_laws_eqTable.ok Go.Proofs.Try.prog A := by
  intro R ds k r h
  unfold e_laws_eqTable at h
  obtain ⟨x0, d0, rfl, h0⟩ := dL_some h
  obtain ⟨x1, d1, rfl, h1⟩ := dL_some h0
  obtain ⟨rfl, hE⟩ := dE_some h1
  obtain ⟨y, hy, hk⟩ := bnd_some hE
  refine ⟨_, hk, fn_ok px (fx := ⟨Go.Proofs.Try.func30, by kernel_rfl, by kernel_rfl⟩) (entsOK_cons e_laws_eqIntSS_ok entsOK_nil) lentsOK_nil ?_⟩
  have hq := q_laws_eqTable x0 x1
  rw [c_laws_eqTable_bind] at hq
  rw [show c_laws_eqTable x0 x1 some = some y from hy] at hq
  exact hq

/-! loop.example/g00876/laws.FnExactIsValidTable -/
def c_laws_FnExactIsValidTable {R : Type} (x0 : List D) (k : Bool → Option R) : Option R :=
  (laws_szTable x0 (1048576 : Int)).bind (fun y0 =>
    bif Decidable.decide (y0 < (0 : Int)) then
      k Bool.true
    else
      (laws_toTable x0).bind (fun y1 =>
        (spec_IsValidTable y1).bind (fun y2 =>
          (laws_toTable x0).bind (fun y3 =>
            (impl_IsValidTable y3).bind (fun y4 =>
              bif !y4 == y2 then
                k Bool.false
              else
                (laws_toTable x0).bind (fun y5 =>
                  (laws_eqTable y3 y5).bind (fun y6 =>
                    bif !y6 then
                      k Bool.false
                    else
                      k Bool.true)))))))
theorem c_laws_FnExactIsValidTable_bind {R : Type} (x0 : List D) (k : Bool → Option R) : c_laws_FnExactIsValidTable x0 k = (c_laws_FnExactIsValidTable x0 some).bind k := by
  unfold c_laws_FnExactIsValidTable
  repeat' first
    | exact bnd_tail
    | exact bnd_none
    | exact bnd_leaf
    | apply bnd_ite
    | apply bnd_cond
    | apply bnd_sum
    | (apply bnd_bind; intro _)
    | intro _
def laws_FnExactIsValidTable (x0 : List D) : Option (Bool) := c_laws_FnExactIsValidTable x0 some
def e_laws_FnExactIsValidTable : Ent := ⟨7, [.agg [.rd (.slice (.int .i64))]], .bool, [.undef], fun _ ds k => dL (fun x0 ds => dE ((laws_FnExactIsValidTable x0).bind (fun y => k [.B y])) ds) ds⟩
theorem q_laws_FnExactIsValidTable (x0 : List D) : runFn (ocOf [e_laws_szTable, e_laws_toTable, e_spec_IsValidTable, e_impl_IsValidTable, e_laws_eqTable]) (olOf []) A 7 Go.Proofs.Try.f7 (Sh.mks e_laws_FnExactIsValidTable.sh [.L x0]).1 (fun v os => some (v, os)) = c_laws_FnExactIsValidTable x0 (fun y => some ((e_laws_FnExactIsValidTable.res.mk [.B y]).1, (Sh.mks e_laws_FnExactIsValidTable.outs (e_laws_FnExactIsValidTable.res.mk [.B y]).2).1)) := by kernel_rfl
theorem e_laws_FnExactIsValidTable_ok : e_laws_FnExactIsValidTable.ok Go.Proofs.Try.prog A := by
  intro R ds k r h
  unfold e_laws_FnExactIsValidTable at h
  obtain ⟨x0, d0, rfl, h0⟩ := dL_some h
  obtain ⟨rfl, hE⟩ := dE_some h0
  obtain ⟨y, hy, hk⟩ := bnd_some hE
  refine ⟨_, hk, fn_ok px (fx := ⟨Go.Proofs.Try.func7, by kernel_rfl, by kernel_rfl⟩) (entsOK_cons e_laws_szTable_ok (entsOK_cons e_laws_toTable_ok (entsOK_cons e_spec_IsValidTable_ok (entsOK_cons e_impl_IsValidTable_ok (entsOK_cons e_laws_eqTable_ok entsOK_nil))))) lentsOK_nil ?_⟩
  have hq := q_laws_FnExactIsValidTable x0
  rw [c_laws_FnExactIsValidTable_bind] at hq
  rw [show c_laws_FnExactIsValidTable x0 some = some y from hy] at hq
  exact hq
end
end Go.Proofs.Ytkcclgcmpdgdjaa
