/- Models of Go functions and their contracts, printed by a program of this session. -/
import Derived.Test.YtinhphmajfiepaaClA
set_option linter.unusedVariables false
set_option maxRecDepth 100000
namespace Go.Proofs.Ytinhphmajfiepaa
open Go Go.Rai
noncomputable section
/-! loop.example/g00876/laws.szIntS -/
def c_laws_szIntS {R : Type} (x0 : List D) (x1 : Int) (k : Int → Option R) : Option R :=
  bif Decidable.decide (Go.IntKind.i64.wrap (x1 - (↑x0.length : Int)) < (0 : Int)) then
    k (-1 : Int)
  else
    k (Go.IntKind.i64.wrap (x1 - (↑x0.length : Int)))
theorem c_laws_szIntS_bind {R : Type} (x0 : List D) (x1 : Int) (k : Int → Option R) : c_laws_szIntS x0 x1 k = (c_laws_szIntS x0 x1 some).bind k := by
  unfold c_laws_szIntS
  repeat' first
    | exact bnd_tail
    | exact bnd_none
    | exact bnd_leaf
    | apply bnd_ite
    | apply bnd_cond
    | apply bnd_sum
    | (apply bnd_bind; intro _)
    | intro _
def laws_szIntS (x0 : List D) (x1 : Int) : Option (Int) := c_laws_szIntS x0 x1 some
def e_laws_szIntS : Ent := ⟨66, [.rd (.int .i64), .int .i64], .int .i64, [.undef, .undef], fun _ ds k => dL (fun x0 ds => dI (fun x1 ds => dE ((laws_szIntS x0 x1).bind (fun y => k [.I y])) ds) ds) ds⟩
theorem q_laws_szIntS (x0 : List D) (x1 : Int) : runFn (ocOf []) (olOf []) A 66 Go.Proofs.Try.f66 (Sh.mks e_laws_szIntS.sh [.L x0, .I x1]).1 (fun v os => some (v, os)) = c_laws_szIntS x0 x1 (fun y => some ((e_laws_szIntS.res.mk [.I y]).1, (Sh.mks e_laws_szIntS.outs (e_laws_szIntS.res.mk [.I y]).2).1)) := by kernel_rfl
theorem e_laws_szIntS_ok : e_laws_szIntS.ok Go.Proofs.Try.prog A := by
  intro R ds k r h
  unfold e_laws_szIntS at h
  obtain ⟨x0, d0, rfl, h0⟩ := dL_some h
  obtain ⟨x1, d1, rfl, h1⟩ := dI_some h0
  obtain ⟨rfl, hE⟩ := dE_some h1
  obtain ⟨y, hy, hk⟩ := bnd_some hE
  refine ⟨_, hk, fn_ok px (fx := ⟨Go.Proofs.Try.func66, by kernel_rfl, by kernel_rfl⟩) entsOK_nil lentsOK_nil ?_⟩
  have hq := q_laws_szIntS x0 x1
  rw [c_laws_szIntS_bind] at hq
  rw [show c_laws_szIntS x0 x1 some = some y from hy] at hq
  exact hq

/-! loop.example/g00876/laws.szIntSS, loop 5 -/
def c_laws_szIntSS_L5 {R : Type} (F : List D → Int → Int → Option ((Int × Int) ⊕ (Int))) (x0 : List D) (x1 : Int) (x2 : Int) (k : (Int × Int) ⊕ (Int) → Option R) : Option R :=
  bif Decidable.decide (x2 < (↑x0.length : Int)) then
    if (0 : Int) ≤ x2 ∧ x2 < (↑x0.length : Int) then
      (laws_szIntS ((x0.getD x2.toNat (Go.Rai.D.int (0 : Int))).items) x1).bind (fun y0 =>
        bif Decidable.decide (y0 < (0 : Int)) then
          k (.inl (y0, (-1 : Int)))
        else
          (F x0 y0 (Go.IntKind.i64.wrap (x2 + (1 : Int)))).bind k)
    else
      none
  else
    k (.inr x1)
theorem c_laws_szIntSS_L5_bind {R : Type} (F : List D → Int → Int → Option ((Int × Int) ⊕ (Int))) (x0 : List D) (x1 : Int) (x2 : Int) (k : (Int × Int) ⊕ (Int) → Option R) : c_laws_szIntSS_L5 F x0 x1 x2 k = (c_laws_szIntSS_L5 F x0 x1 x2 some).bind k := by
  unfold c_laws_szIntSS_L5
  repeat' first
    | exact bnd_tail
    | exact bnd_none
    | exact bnd_leaf
    | apply bnd_ite
    | apply bnd_cond
    | apply bnd_sum
    | (apply bnd_bind; intro _)
    | intro _
def n_laws_szIntSS_L5 : Nat → List D → Int → Int → Option ((Int × Int) ⊕ (Int))
  | 0, _, _, _ => none
  | n + 1, x0, x1, x2 => c_laws_szIntSS_L5 (n_laws_szIntSS_L5 n) x0 x1 x2 some
noncomputable def laws_szIntSS_L5 (x0 : List D) (x1 : Int) (x2 : Int) : Option ((Int × Int) ⊕ (Int)) := ev (fun n => n_laws_szIntSS_L5 n x0 x1 x2)
def m_laws_szIntSS_L5 (F : List D → Int → Int → Option ((Int × Int) ⊕ (Int))) : Lent := ⟨5, ⟨[.rd (.slice (.int .i64)), .int .i64, .undef, .undef, .undef, .int .i64, .undef, .undef, .undef, .undef, .undef, .undef, .undef, .undef, .undef, .undef, .undef, .undef, .undef, .undef, .undef, .undef, .undef, .undef, .undef, .undef, .undef], []⟩, [(.ret, ⟨[.undef, .int .i64, .undef, .undef, .int .i64, .undef, .undef, .undef, .undef, .undef, .undef, .undef, .undef, .undef, .undef, .undef, .undef, .undef, .undef, .undef, .undef, .undef, .undef, .undef, .undef, .undef, .undef], []⟩), (.exit 0, ⟨[.undef, .int .i64, .undef, .undef, .undef, .undef, .undef, .undef, .undef, .undef, .undef, .undef, .undef, .undef, .undef, .undef, .undef, .undef, .undef, .undef, .undef, .undef, .undef, .undef, .undef, .undef, .undef], []⟩)], fun _ ds k => dL (fun x0 ds => dI (fun x1 ds => dI (fun x2 ds => dE ((F x0 x1 x2).bind (Sum.elim (fun y => k 0 [.I y.1, .I y.2]) (fun y => k 1 [.I y]))) ds) ds) ds) ds⟩
theorem q_laws_szIntSS_L5 (F : List D → Int → Int → Option ((Int × Int) ⊕ (Int))) (x0 : List D) (x1 : Int) (x2 : Int) : runLoop (ocOf [e_laws_szIntS]) (olOf [m_laws_szIntSS_L5 F]) A 38 (codeAt (bodyOf Go.Proofs.Try.f38) 5) ((m_laws_szIntSS_L5 F).sh.mk' [.L x0, .I x1, .I x2]) (fun e σ' => some (e, σ')) = c_laws_szIntSS_L5 F x0 x1 x2 (Sum.elim (fun y => some (.ret, SSt.mk' ⟨[.undef, .int .i64, .undef, .undef, .int .i64, .undef, .undef, .undef, .undef, .undef, .undef, .undef, .undef, .undef, .undef, .undef, .undef, .undef, .undef, .undef, .undef, .undef, .undef, .undef, .undef, .undef, .undef], []⟩ [.I y.1, .I y.2])) (fun y => some (.exit 0, SSt.mk' ⟨[.undef, .int .i64, .undef, .undef, .undef, .undef, .undef, .undef, .undef, .undef, .undef, .undef, .undef, .undef, .undef, .undef, .undef, .undef, .undef, .undef, .undef, .undef, .undef, .undef, .undef, .undef, .undef], []⟩ [.I y]))) := by kernel_rfl
theorem m_laws_szIntSS_L5_ok : ∀ n, (m_laws_szIntSS_L5 (n_laws_szIntSS_L5 n)).ok Go.Proofs.Try.prog (codeAt (bodyOf Go.Proofs.Try.f38) 5) := by
  intro n
  induction n with
  | zero =>
    intro R ds k r h
    unfold m_laws_szIntSS_L5 at h
    obtain ⟨x0, d0, rfl, h0⟩ := dL_some h
    obtain ⟨x1, d1, rfl, h1⟩ := dI_some h0
    obtain ⟨x2, d2, rfl, h2⟩ := dI_some h1
    obtain ⟨rfl, hE⟩ := dE_some h2
    obtain ⟨y, hy, hk⟩ := bnd_some hE
    cases hy
  | succ n ih =>
    intro R ds k r h
    unfold m_laws_szIntSS_L5 at h
    obtain ⟨x0, d0, rfl, h0⟩ := dL_some h
    obtain ⟨x1, d1, rfl, h1⟩ := dI_some h0
    obtain ⟨x2, d2, rfl, h2⟩ := dI_some h1
    obtain ⟨rfl, hE⟩ := dE_some h2
    obtain ⟨y, hy, hk⟩ := bnd_some hE
    have hq := q_laws_szIntSS_L5 (n_laws_szIntSS_L5 n) x0 x1 x2
    rw [c_laws_szIntSS_L5_bind] at hq
    rw [show c_laws_szIntSS_L5 (n_laws_szIntSS_L5 n) x0 x1 x2 some = some y from hy] at hq
    cases y with
    | inl y =>
      refine ⟨0, _, _, _, hk, rfl, loop_ok px (fx := ⟨Go.Proofs.Try.func38, by kernel_rfl, by kernel_rfl⟩) (entsOK_cons e_laws_szIntS_ok entsOK_nil) (lentsOK_cons ih lentsOK_nil) (by kernel_rfl) ?_⟩
      exact hq
    | inr y =>
      refine ⟨1, _, _, _, hk, rfl, loop_ok px (fx := ⟨Go.Proofs.Try.func38, by kernel_rfl, by kernel_rfl⟩) (entsOK_cons e_laws_szIntS_ok entsOK_nil) (lentsOK_cons ih lentsOK_nil) (by kernel_rfl) ?_⟩
      exact hq
noncomputable def e_laws_szIntSS_L5 : Lent := m_laws_szIntSS_L5 (laws_szIntSS_L5)
theorem e_laws_szIntSS_L5_ok : (e_laws_szIntSS_L5).ok Go.Proofs.Try.prog (codeAt (bodyOf Go.Proofs.Try.f38) 5) := by
  intro R ds k r h
  unfold e_laws_szIntSS_L5 m_laws_szIntSS_L5 at h
  obtain ⟨x0, d0, rfl, h0⟩ := dL_some h
  obtain ⟨x1, d1, rfl, h1⟩ := dI_some h0
  obtain ⟨x2, d2, rfl, h2⟩ := dI_some h1
  obtain ⟨rfl, hE⟩ := dE_some h2
  obtain ⟨y, hy, hk⟩ := bnd_some hE
  obtain ⟨n, hn⟩ := ev_some hy
  exact m_laws_szIntSS_L5_ok n R _ k r (show (n_laws_szIntSS_L5 n x0 x1 x2).bind _ = _ by rw [hn]; exact hk)

/-! loop.example/g00876/laws.szIntSS -/
def c_laws_szIntSS {R : Type} (x0 : List D) (x1 : Int) (k : Int → Option R) : Option R :=
  bif Decidable.decide (Go.IntKind.i64.wrap (x1 - (↑x0.length : Int)) < (0 : Int)) then
    k (-1 : Int)
  else
    (laws_szIntSS_L5 x0 (Go.IntKind.i64.wrap (x1 - (↑x0.length : Int))) (0 : Int)).bind (Sum.elim (fun y0 =>
      k y0.snd) (fun y1 =>
      k y1))
theorem c_laws_szIntSS_bind {R : Type} (x0 : List D) (x1 : Int) (k : Int → Option R) : c_laws_szIntSS x0 x1 k = (c_laws_szIntSS x0 x1 some).bind k := by
  unfold c_laws_szIntSS
  repeat' first
    | exact bnd_tail
    | exact bnd_none
    | exact bnd_leaf
    | apply bnd_ite
    | apply bnd_cond
    | apply bnd_sum
    | (apply bnd_bind; intro _)
    | intro _
def laws_szIntSS (x0 : List D) (x1 : Int) : Option (Int) := c_laws_szIntSS x0 x1 some
def e_laws_szIntSS : Ent := ⟨38, [.rd (.slice (.int .i64)), .int .i64], .int .i64, [.undef, .undef], fun _ ds k => dL (fun x0 ds => dI (fun x1 ds => dE ((laws_szIntSS x0 x1).bind (fun y => k [.I y])) ds) ds) ds⟩
theorem q_laws_szIntSS (x0 : List D) (x1 : Int) : runFn (ocOf []) (olOf [e_laws_szIntSS_L5]) A 38 Go.Proofs.Try.f38 (Sh.mks e_laws_szIntSS.sh [.L x0, .I x1]).1 (fun v os => some (v, os)) = c_laws_szIntSS x0 x1 (fun y => some ((e_laws_szIntSS.res.mk [.I y]).1, (Sh.mks e_laws_szIntSS.outs (e_laws_szIntSS.res.mk [.I y]).2).1)) := by kernel_rfl
theorem e_laws_szIntSS_ok : e_laws_szIntSS.ok Go.Proofs.Try.prog A := by
  intro R ds k r h
  unfold e_laws_szIntSS at h
  obtain ⟨x0, d0, rfl, h0⟩ := dL_some h
  obtain ⟨x1, d1, rfl, h1⟩ := dI_some h0
  obtain ⟨rfl, hE⟩ := dE_some h1
  obtain ⟨y, hy, hk⟩ := bnd_some hE
  refine ⟨_, hk, fn_ok px (fx := ⟨Go.Proofs.Try.func38, by kernel_rfl, by kernel_rfl⟩) entsOK_nil (lentsOK_cons e_laws_szIntSS_L5_ok lentsOK_nil) ?_⟩
  have hq := q_laws_szIntSS x0 x1
  rw [c_laws_szIntSS_bind] at hq
  rw [show c_laws_szIntSS x0 x1 some = some y from hy] at hq
  exact hq

/-! loop.example/g00876/laws.szTable -/
def c_laws_szTable {R : Type} (x0 : List D) (x1 : Int) (k : Int → Option R) : Option R :=
  (laws_szIntSS x0 x1).bind (fun y0 =>
    bif Decidable.decide (y0 < (0 : Int)) then
      k (-1 : Int)
    else
      k y0)
theorem c_laws_szTable_bind {R : Type} (x0 : List D) (x1 : Int) (k : Int → Option R) : c_laws_szTable x0 x1 k = (c_laws_szTable x0 x1 some).bind k := by
  unfold c_laws_szTable
  repeat' first
    | exact bnd_tail
    | exact bnd_none
    | exact bnd_leaf
    | apply bnd_ite
    | apply bnd_cond
    | apply bnd_sum
    | (apply bnd_bind; intro _)
    | intro _
def laws_szTable (x0 : List D) (x1 : Int) : Option (Int) := c_laws_szTable x0 x1 some
def e_laws_szTable : Ent := ⟨12, [.agg [.rd (.slice (.int .i64))], .int .i64], .int .i64, [.undef, .undef], fun _ ds k => dL (fun x0 ds => dI (fun x1 ds => dE ((laws_szTable x0 x1).bind (fun y => k [.I y])) ds) ds) ds⟩
theorem q_laws_szTable (x0 : List D) (x1 : Int) : runFn (ocOf [e_laws_szIntSS]) (olOf []) A 12 Go.Proofs.Try.f12 (Sh.mks e_laws_szTable.sh [.L x0, .I x1]).1 (fun v os => some (v, os)) = c_laws_szTable x0 x1 (fun y => some ((e_laws_szTable.res.mk [.I y]).1, (Sh.mks e_laws_szTable.outs (e_laws_szTable.res.mk [.I y]).2).1)) := by kernel_rfl
theorem e_laws_szTable_ok : e_laws_szTable.ok Go.Proofs.Try.prog A := by
  intro R ds k r h
  unfold e_laws_szTable at h
  obtain ⟨x0, d0, rfl, h0⟩ := dL_some h
  obtain ⟨x1, d1, rfl, h1⟩ := dI_some h0
  obtain ⟨rfl, hE⟩ := dE_some h1
  obtain ⟨y, hy, hk⟩ := bnd_some hE
  refine ⟨_, hk, fn_ok px (fx := ⟨Go.Proofs.Try.func12, by kernel_rfl, by kernel_rfl⟩) (entsOK_cons e_laws_szIntSS_ok entsOK_nil) lentsOK_nil ?_⟩
  have hq := q_laws_szTable x0 x1
  rw [c_laws_szTable_bind] at hq
  rw [show c_laws_szTable x0 x1 some = some y from hy] at hq
  exact hq

/-! loop.example/g00876/laws.toIntS, loop 3 -/
def c_laws_toIntS_L3 {R : Type} (F : List D → Int → List D → Option (List D)) (x0 : List D) (x1 : Int) (x2 : List D) (k : List D → Option R) : Option R :=
  bif Decidable.decide (x1 < (↑x0.length : Int)) then
    if (0 : Int) ≤ x1 ∧ x1 < (↑x0.length : Int) then
      if (0 : Int) ≤ x1 ∧ x1 < (↑x2.length : Int) then
        if x1.toNat + (1 : Nat) ≤ x2.length then
          (F x0 (Go.IntKind.i64.wrap (x1 + (1 : Int))) (x2.set x1.toNat (Go.Rai.D.int (x0.getD x1.toNat (Go.Rai.D.int (0 : Int))).toInt))).bind k
        else
          none
      else
        none
    else
      none
  else
    k x2
theorem c_laws_toIntS_L3_bind {R : Type} (F : List D → Int → List D → Option (List D)) (x0 : List D) (x1 : Int) (x2 : List D) (k : List D → Option R) : c_laws_toIntS_L3 F x0 x1 x2 k = (c_laws_toIntS_L3 F x0 x1 x2 some).bind k := by
  unfold c_laws_toIntS_L3
  repeat' first
    | exact bnd_tail
    | exact bnd_none
    | exact bnd_leaf
    | apply bnd_ite
    | apply bnd_cond
    | apply bnd_sum
    | (apply bnd_bind; intro _)
    | intro _
def n_laws_toIntS_L3 : Nat → List D → Int → List D → Option (List D)
  | 0, _, _, _ => none
  | n + 1, x0, x1, x2 => c_laws_toIntS_L3 (n_laws_toIntS_L3 n) x0 x1 x2 some
noncomputable def laws_toIntS_L3 (x0 : List D) (x1 : Int) (x2 : List D) : Option (List D) := ev (fun n => n_laws_toIntS_L3 n x0 x1 x2)
def m_laws_toIntS_L3 (F : List D → Int → List D → Option (List D)) : Lent := ⟨3, ⟨[.rd (.int .i64), .undef, .undef, .full 1000 [] (.int .i64), .int .i64, .undef, .undef, .undef, .undef, .undef, .undef, .undef, .undef, .undef, .undef, .undef, .undef, .undef, .undef, .undef, .undef, .undef], [(1000, .own (.int .i64))]⟩, [(.exit 0, ⟨[.undef, .undef, .undef, .full 1000 [] (.int .i64), .undef, .undef, .undef, .undef, .undef, .undef, .undef, .undef, .undef, .undef, .undef, .undef, .undef, .undef, .undef, .undef, .undef, .undef], [(1000, .own (.int .i64))]⟩)], fun _ ds k => dL (fun x0 ds => dI (fun x1 ds => dL (fun x2 ds => dE ((F x0 x1 x2).bind (fun y => k 0 [.L y])) ds) ds) ds) ds⟩
theorem q_laws_toIntS_L3 (F : List D → Int → List D → Option (List D)) (x0 : List D) (x1 : Int) (x2 : List D) : runLoop (ocOf []) (olOf [m_laws_toIntS_L3 F]) A 28 (codeAt (bodyOf Go.Proofs.Try.f28) 3) ((m_laws_toIntS_L3 F).sh.mk' [.L x0, .I x1, .L x2]) (fun e σ' => some (e, σ')) = c_laws_toIntS_L3 F x0 x1 x2 (fun y => some (.exit 0, SSt.mk' ⟨[.undef, .undef, .undef, .full 1000 [] (.int .i64), .undef, .undef, .undef, .undef, .undef, .undef, .undef, .undef, .undef, .undef, .undef, .undef, .undef, .undef, .undef, .undef, .undef, .undef], [(1000, .own (.int .i64))]⟩ [.L y])) := by kernel_rfl
theorem m_laws_toIntS_L3_ok : ∀ n, (m_laws_toIntS_L3 (n_laws_toIntS_L3 n)).ok Go.Proofs.Try.prog (codeAt (bodyOf Go.Proofs.Try.f28) 3) := by
  intro n
  induction n with
  | zero =>
    intro R ds k r h
    unfold m_laws_toIntS_L3 at h
    obtain ⟨x0, d0, rfl, h0⟩ := dL_some h
    obtain ⟨x1, d1, rfl, h1⟩ := dI_some h0
    obtain ⟨x2, d2, rfl, h2⟩ := dL_some h1
    obtain ⟨rfl, hE⟩ := dE_some h2
    obtain ⟨y, hy, hk⟩ := bnd_some hE
    cases hy
  | succ n ih =>
    intro R ds k r h
    unfold m_laws_toIntS_L3 at h
    obtain ⟨x0, d0, rfl, h0⟩ := dL_some h
    obtain ⟨x1, d1, rfl, h1⟩ := dI_some h0
    obtain ⟨x2, d2, rfl, h2⟩ := dL_some h1
    obtain ⟨rfl, hE⟩ := dE_some h2
    obtain ⟨y, hy, hk⟩ := bnd_some hE
    have hq := q_laws_toIntS_L3 (n_laws_toIntS_L3 n) x0 x1 x2
    rw [c_laws_toIntS_L3_bind] at hq
    rw [show c_laws_toIntS_L3 (n_laws_toIntS_L3 n) x0 x1 x2 some = some y from hy] at hq
    refine ⟨0, _, _, _, hk, rfl, loop_ok px (fx := ⟨Go.Proofs.Try.func28, by kernel_rfl, by kernel_rfl⟩) entsOK_nil (lentsOK_cons ih lentsOK_nil) (by kernel_rfl) ?_⟩
    exact hq
noncomputable def e_laws_toIntS_L3 : Lent := m_laws_toIntS_L3 (laws_toIntS_L3)
theorem e_laws_toIntS_L3_ok : (e_laws_toIntS_L3).ok Go.Proofs.Try.prog (codeAt (bodyOf Go.Proofs.Try.f28) 3) := by
  intro R ds k r h
  unfold e_laws_toIntS_L3 m_laws_toIntS_L3 at h
  obtain ⟨x0, d0, rfl, h0⟩ := dL_some h
  obtain ⟨x1, d1, rfl, h1⟩ := dI_some h0
  obtain ⟨x2, d2, rfl, h2⟩ := dL_some h1
  obtain ⟨rfl, hE⟩ := dE_some h2
  obtain ⟨y, hy, hk⟩ := bnd_some hE
  obtain ⟨n, hn⟩ := ev_some hy
  exact m_laws_toIntS_L3_ok n R _ k r (show (n_laws_toIntS_L3 n x0 x1 x2).bind _ = _ by rw [hn]; exact hk)

/-! loop.example/g00876/laws.toIntS -/
def c_laws_toIntS {R : Type} (x0 : List D) (k : List D → Option R) : Option R :=
  if (0 : Int) ≤ (↑x0.length : Int) ∧ (↑x0.length : Int) ≤ (↑x0.length : Int) ∧ (↑x0.length : Int) ≤ (4294967296 : Int) then
    (laws_toIntS_L3 x0 (0 : Int) (List.replicate (↑x0.length : Int).toNat (Go.Rai.D.int (0 : Int)))).bind (fun y0 =>
      k y0)
  else
    none
theorem c_laws_toIntS_bind {R : Type} (x0 : List D) (k : List D → Option R) : c_laws_toIntS x0 k = (c_laws_toIntS x0 some).bind k := by
  unfold c_laws_toIntS
  repeat' first
    | exact bnd_tail
    | exact bnd_none
    | exact bnd_leaf
    | apply bnd_ite
    | apply bnd_cond
    | apply bnd_sum
    | (apply bnd_bind; intro _)
    | intro _
def laws_toIntS (x0 : List D) : Option (List D) := c_laws_toIntS x0 some
def e_laws_toIntS : Ent := ⟨28, [.rd (.int .i64)], .own (.int .i64), [.undef], fun _ ds k => dL (fun x0 ds => dE ((laws_toIntS x0).bind (fun y => k [.L y])) ds) ds⟩
theorem q_laws_toIntS (x0 : List D) : runFn (ocOf []) (olOf [e_laws_toIntS_L3]) A 28 Go.Proofs.Try.f28 (Sh.mks e_laws_toIntS.sh [.L x0]).1 (fun v os => some (v, os)) = c_laws_toIntS x0 (fun y => some ((e_laws_toIntS.res.mk [.L y]).1, (Sh.mks e_laws_toIntS.outs (e_laws_toIntS.res.mk [.L y]).2).1)) := by kernel_rfl
theorem e_laws_toIntS_ok : e_laws_toIntS.ok Go.Proofs.Try.prog A := by
  intro R ds k r h
  unfold e_laws_toIntS at h
  obtain ⟨x0, d0, rfl, h0⟩ := dL_some h
  obtain ⟨rfl, hE⟩ := dE_some h0
  obtain ⟨y, hy, hk⟩ := bnd_some hE
  refine ⟨_, hk, fn_ok px (fx := ⟨Go.Proofs.Try.func28, by kernel_rfl, by kernel_rfl⟩) entsOK_nil (lentsOK_cons e_laws_toIntS_L3_ok lentsOK_nil) ?_⟩
  have hq := q_laws_toIntS x0
  rw [c_laws_toIntS_bind] at hq
  rw [show c_laws_toIntS x0 some = some y from hy] at hq
  exact hq

/-! loop.example/g00876/laws.toIntSS, loop 3 -/
def c_laws_toIntSS_L3 {R : Type} (F : List D → Int → List D → Option (List D)) (x0 : List D) (x1 : Int) (x2 : List D) (k : List D → Option R) : Option R :=
  bif Decidable.decide (x1 < (↑x0.length : Int)) then
    if (0 : Int) ≤ x1 ∧ x1 < (↑x0.length : Int) then
      (laws_toIntS ((x0.getD x1.toNat (Go.Rai.D.int (0 : Int))).items)).bind (fun y0 =>
        if (0 : Int) ≤ x1 ∧ x1 < (↑x2.length : Int) then
          if x1.toNat + (1 : Nat) ≤ x2.length then
            (F x0 (Go.IntKind.i64.wrap (x1 + (1 : Int))) (x2.set x1.toNat (Go.Rai.D.node y0))).bind k
          else
            none
        else
          none)
    else
      none
  else
    k x2
theorem c_laws_toIntSS_L3_bind {R : Type} (F : List D → Int → List D → Option (List D)) (x0 : List D) (x1 : Int) (x2 : List D) (k : List D → Option R) : c_laws_toIntSS_L3 F x0 x1 x2 k = (c_laws_toIntSS_L3 F x0 x1 x2 some).bind k := by
  unfold c_laws_toIntSS_L3
  repeat' first
    | exact bnd_tail
    | exact bnd_none
    | exact bnd_leaf
    | apply bnd_ite
    | apply bnd_cond
    | apply bnd_sum
    | (apply bnd_bind; intro _)
    | intro _
def n_laws_toIntSS_L3 : Nat → List D → Int → List D → Option (List D)
  | 0, _, _, _ => none
  | n + 1, x0, x1, x2 => c_laws_toIntSS_L3 (n_laws_toIntSS_L3 n) x0 x1 x2 some
noncomputable def laws_toIntSS_L3 (x0 : List D) (x1 : Int) (x2 : List D) : Option (List D) := ev (fun n => n_laws_toIntSS_L3 n x0 x1 x2)
def m_laws_toIntSS_L3 (F : List D → Int → List D → Option (List D)) : Lent := ⟨3, ⟨[.rd (.slice (.int .i64)), .undef, .undef, .full 1000 [] (.slice (.int .i64)), .int .i64, .undef, .undef, .undef, .undef, .undef, .undef, .undef, .undef, .undef, .undef, .undef, .undef, .undef, .undef, .undef, .undef, .undef, .undef], [(1000, .own (.slice (.int .i64)))]⟩, [(.exit 0, ⟨[.undef, .undef, .undef, .full 1000 [] (.slice (.int .i64)), .undef, .undef, .undef, .undef, .undef, .undef, .undef, .undef, .undef, .undef, .undef, .undef, .undef, .undef, .undef, .undef, .undef, .undef, .undef], [(1000, .own (.slice (.int .i64)))]⟩)], fun _ ds k => dL (fun x0 ds => dI (fun x1 ds => dL (fun x2 ds => dE ((F x0 x1 x2).bind (fun y => k 0 [.L y])) ds) ds) ds) ds⟩
theorem q_laws_toIntSS_L3 (F : List D → Int → List D → Option (List D)) (x0 : List D) (x1 : Int) (x2 : List D) : runLoop (ocOf [e_laws_toIntS]) (olOf [m_laws_toIntSS_L3 F]) A 42 (codeAt (bodyOf Go.Proofs.Try.f42) 3) ((m_laws_toIntSS_L3 F).sh.mk' [.L x0, .I x1, .L x2]) (fun e σ' => some (e, σ')) = c_laws_toIntSS_L3 F x0 x1 x2 (fun y => some (.exit 0, SSt.mk' ⟨[.undef, .undef, .undef, .full 1000 [] (.slice (.int .i64)), .undef, .undef, .undef, .undef, .undef, .undef, .undef, .undef, .undef, .undef, .undef, .undef, .undef, .undef, .undef, .undef, .undef, .undef, .undef], [(1000, .own (.slice (.int .i64)))]⟩ [.L y])) := by kernel_rfl
theorem m_laws_toIntSS_L3_ok : ∀ n, (m_laws_toIntSS_L3 (n_laws_toIntSS_L3 n)).ok Go.Proofs.Try.prog (codeAt (bodyOf Go.Proofs.Try.f42) 3) := by
  intro n
  induction n with
  | zero =>
    intro R ds k r h
    unfold m_laws_toIntSS_L3 at h
    obtain ⟨x0, d0, rfl, h0⟩ := dL_some h
    obtain ⟨x1, d1, rfl, h1⟩ := dI_some h0
    obtain ⟨x2, d2, rfl, h2⟩ := dL_some h1
    obtain ⟨rfl, hE⟩ := dE_some h2
    obtain ⟨y, hy, hk⟩ := bnd_some hE
    cases hy
  | succ n ih =>
    intro R ds k r h
    unfold m_laws_toIntSS_L3 at h
    obtain ⟨x0, d0, rfl, h0⟩ := dL_some h
    obtain ⟨x1, d1, rfl, h1⟩ := dI_some h0
    obtain ⟨x2, d2, rfl, h2⟩ := dL_some h1
    obtain ⟨rfl, hE⟩ := dE_some h2
    obtain ⟨y, hy, hk⟩ := bnd_some hE
    have hq := q_laws_toIntSS_L3 (n_laws_toIntSS_L3 n) x0 x1 x2
    rw [c_laws_toIntSS_L3_bind] at hq
    rw [show c_laws_toIntSS_L3 (n_laws_toIntSS_L3 n) x0 x1 x2 some = some y from hy] at hq
    refine ⟨0, _, _, _, hk, rfl, loop_ok px (fx := ⟨Go.Proofs.Try.func42, by kernel_rfl, by kernel_rfl⟩) (entsOK_cons e_laws_toIntS_ok entsOK_nil) (lentsOK_cons ih lentsOK_nil) (by kernel_rfl) ?_⟩
    exact hq
noncomputable def e_laws_toIntSS_L3 : Lent := m_laws_toIntSS_L3 (laws_toIntSS_L3)
theorem e_laws_toIntSS_L3_ok : (e_laws_toIntSS_L3).ok Go.Proofs.Try.prog (codeAt (bodyOf Go.Proofs.Try.f42) 3) := by
  intro R ds k r h
  unfold e_laws_toIntSS_L3 m_laws_toIntSS_L3 at h
  obtain ⟨x0, d0, rfl, h0⟩ := dL_some h
  obtain ⟨x1, d1, rfl, h1⟩ := dI_some h0
  obtain ⟨x2, d2, rfl, h2⟩ := dL_some h1
  obtain ⟨rfl, hE⟩ := dE_some h2
  obtain ⟨y, hy, hk⟩ := bnd_some hE
  obtain ⟨n, hn⟩ := ev_some hy
  exact m_laws_toIntSS_L3_ok n R _ k r (show (n_laws_toIntSS_L3 n x0 x1 x2).bind _ = _ by rw [hn]; exact hk)

/-! loop.example/g00876/laws.toIntSS -/
def c_laws_toIntSS {R : Type} (x0 : List D) (k : List D → Option R) : Option R :=
  if (0 : Int) ≤ (↑x0.length : Int) ∧ (↑x0.length : Int) ≤ (↑x0.length : Int) ∧ (↑x0.length : Int) ≤ (4294967296 : Int) then
    (laws_toIntSS_L3 x0 (0 : Int) (List.replicate (↑x0.length : Int).toNat (Go.Rai.D.node []))).bind (fun y0 =>
      k y0)
  else
    none
theorem c_laws_toIntSS_bind {R : Type} (x0 : List D) (k : List D → Option R) : c_laws_toIntSS x0 k = (c_laws_toIntSS x0 some).bind k := by
  unfold c_laws_toIntSS
  repeat' first
    | exact bnd_tail
    | exact bnd_none
    | exact bnd_leaf
    | apply bnd_ite
    | apply bnd_cond
    | apply bnd_sum
    | (apply bnd_bind; intro _)
    | intro _
def laws_toIntSS (x0 : List D) : Option (List D) := c_laws_toIntSS x0 some
def e_laws_toIntSS : Ent := ⟨42, [.rd (.slice (.int .i64))], .own (.slice (.int .i64)), [.undef], fun _ ds k => dL (fun x0 ds => dE ((laws_toIntSS x0).bind (fun y => k [.L y])) ds) ds⟩
theorem q_laws_toIntSS (x0 : List D) : runFn (ocOf []) (olOf [e_laws_toIntSS_L3]) A 42 Go.Proofs.Try.f42 (Sh.mks e_laws_toIntSS.sh [.L x0]).1 (fun v os => some (v, os)) = c_laws_toIntSS x0 (fun y => some ((e_laws_toIntSS.res.mk [.L y]).1, (Sh.mks e_laws_toIntSS.outs (e_laws_toIntSS.res.mk [.L y]).2).1)) := by kernel_rfl
theorem e_laws_toIntSS_ok : e_laws_toIntSS.ok Go.Proofs.Try.prog A := by
  intro R ds k r h
  unfold e_laws_toIntSS at h
  obtain ⟨x0, d0, rfl, h0⟩ := dL_some h
  obtain ⟨rfl, hE⟩ := dE_some h0
  obtain ⟨y, hy, hk⟩ := bnd_some hE
  refine ⟨_, hk, fn_ok px (fx := ⟨Go.Proofs.Try.func42, by kernel_rfl, by kernel_rfl⟩) entsOK_nil (lentsOK_cons e_laws_toIntSS_L3_ok lentsOK_nil) ?_⟩
  have hq := q_laws_toIntSS x0
  rw [c_laws_toIntSS_bind] at hq
  rw [show c_laws_toIntSS x0 some = some y from hy] at hq
  exact hq

/-! loop.example/g00876/laws.toTable -/
def c_laws_toTable {R : Type} (x0 : List D) (k : List D → Option R) : Option R :=
  (laws_toIntSS x0).bind (fun y0 =>
    k y0)
theorem c_laws_toTable_bind {R : Type} (x0 : List D) (k : List D → Option R) : c_laws_toTable x0 k = (c_laws_toTable x0 some).bind k := by
  unfold c_laws_toTable
  repeat' first
    | exact bnd_tail
    | exact bnd_none
    | exact bnd_leaf
    | apply bnd_ite
    | apply bnd_cond
    | apply bnd_sum
    | (apply bnd_bind; intro _)
    | intro _
def laws_toTable (x0 : List D) : Option (List D) := c_laws_toTable x0 some
def e_laws_toTable : Ent := ⟨14, [.agg [.rd (.slice (.int .i64))]], .agg [.own (.slice (.int .i64))], [.undef], fun _ ds k => dL (fun x0 ds => dE ((laws_toTable x0).bind (fun y => k [.L y])) ds) ds⟩
theorem q_laws_toTable (x0 : List D) : runFn (ocOf [e_laws_toIntSS]) (olOf []) A 14 Go.Proofs.Try.f14 (Sh.mks e_laws_toTable.sh [.L x0]).1 (fun v os => some (v, os)) = c_laws_toTable x0 (fun y => some ((e_laws_toTable.res.mk [.L y]).1, (Sh.mks e_laws_toTable.outs (e_laws_toTable.res.mk [.L y]).2).1)) := by kernel_rfl
theorem e_laws_toTable_ok : e_laws_toTable.ok Go.Proofs.Try.prog A := by
  intro R ds k r h
  unfold e_laws_toTable at h
  obtain ⟨x0, d0, rfl, h0⟩ := dL_some h
  obtain ⟨rfl, hE⟩ := dE_some h0
  obtain ⟨y, hy, hk⟩ := bnd_some hE
  refine ⟨_, hk, fn_ok px (fx := ⟨Go.Proofs.Try.func14, by kernel_rfl, by kernel_rfl⟩) (entsOK_cons e_laws_toIntSS_ok entsOK_nil) lentsOK_nil ?_⟩
  have hq := q_laws_toTable x0
  rw [c_laws_toTable_bind] at hq
  rw [show c_laws_toTable x0 some = some y from hy] at hq
  exact hq

/-! loop.example/g00876/spec.l1In -/
def c_spec_l1In {R : Type} (x0 : Int) (x1 : Int) (x2 : Int) (k : Bool → Option R) : Option R :=
  bif Decidable.decide (x1 ≤ x0) then
    k (Decidable.decide (x0 ≤ x2))
  else
    k Bool.false
theorem c_spec_l1In_bind {R : Type} (x0 : Int) (x1 : Int) (x2 : Int) (k : Bool → Option R) : c_spec_l1In x0 x1 x2 k = (c_spec_l1In x0 x1 x2 some).bind k := by
  unfold c_spec_l1In
  repeat' first
    | exact bnd_tail
    | exact bnd_none
    | exact bnd_leaf
    | apply bnd_ite
    | apply bnd_cond
    | apply bnd_sum
    | (apply bnd_bind; intro _)
    | intro _
def spec_l1In (x0 : Int) (x1 : Int) (x2 : Int) : Option (Bool) := c_spec_l1In x0 x1 x2 some
def e_spec_l1In : Ent := ⟨40, [.int .i64, .int .i64, .int .i64], .bool, [.undef, .undef, .undef], fun _ ds k => dI (fun x0 ds => dI (fun x1 ds => dI (fun x2 ds => dE ((spec_l1In x0 x1 x2).bind (fun y => k [.B y])) ds) ds) ds) ds⟩
theorem q_spec_l1In (x0 : Int) (x1 : Int) (x2 : Int) : runFn (ocOf []) (olOf []) A 40 Go.Proofs.Try.f40 (Sh.mks e_spec_l1In.sh [.I x0, .I x1, .I x2]).1 (fun v os => some (v, os)) = c_spec_l1In x0 x1 x2 (fun y => some ((e_spec_l1In.res.mk [.B y]).1, (Sh.mks e_spec_l1In.outs (e_spec_l1In.res.mk [.B y]).2).1)) := by kernel_rfl
theorem e_spec_l1In_ok : e_spec_l1In.ok Go.Proofs.Try.prog A := by
  intro R ds k r h
  unfold e_spec_l1In at h
  obtain ⟨x0, d0, rfl, h0⟩ := dI_some h
  obtain ⟨x1, d1, rfl, h1⟩ := dI_some h0
  obtain ⟨x2, d2, rfl, h2⟩ := dI_some h1
  obtain ⟨rfl, hE⟩ := dE_some h2
  obtain ⟨y, hy, hk⟩ := bnd_some hE
  refine ⟨_, hk, fn_ok px (fx := ⟨Go.Proofs.Try.func40, by kernel_rfl, by kernel_rfl⟩) entsOK_nil lentsOK_nil ?_⟩
  have hq := q_spec_l1In x0 x1 x2
  rw [c_spec_l1In_bind] at hq
  rw [show c_spec_l1In x0 x1 x2 some = some y from hy] at hq
  exact hq

/-! loop.example/g00876/spec.l16Good, loop 11 -/
def c_spec_l16Good_L11 {R : Type} (F : Int → Int → List D → Int → List D → Option ((Bool × Int × Int × List D) ⊕ (Int × Int × List D))) (x0 : Int) (x1 : Int) (x2 : List D) (x3 : Int) (x4 : List D) (k : (Bool × Int × Int × List D) ⊕ (Int × Int × List D) → Option R) : Option R :=
  bif Decidable.decide (x3 < (↑x2.length : Int)) then
    if (0 : Int) ≤ x3 ∧ x3 < (↑x2.length : Int) then
      (spec_l1In ((x2.getD x3.toNat (Go.Rai.D.int (0 : Int))).toInt) (0 : Int) (1000 : Int)).bind (fun y0 =>
        bif !y0 then
          k (.inl (Bool.false, x0, x1, x4))
        else
          (F x0 x1 x2 (Go.IntKind.i64.wrap (x3 + (1 : Int))) x4).bind k)
    else
      none
  else
    k (.inr (x0, x1, x4))
theorem c_spec_l16Good_L11_bind {R : Type} (F : Int → Int → List D → Int → List D → Option ((Bool × Int × Int × List D) ⊕ (Int × Int × List D))) (x0 : Int) (x1 : Int) (x2 : List D) (x3 : Int) (x4 : List D) (k : (Bool × Int × Int × List D) ⊕ (Int × Int × List D) → Option R) : c_spec_l16Good_L11 F x0 x1 x2 x3 x4 k = (c_spec_l16Good_L11 F x0 x1 x2 x3 x4 some).bind k := by
  unfold c_spec_l16Good_L11
  repeat' first
    | exact bnd_tail
    | exact bnd_none
    | exact bnd_leaf
    | apply bnd_ite
    | apply bnd_cond
    | apply bnd_sum
    | (apply bnd_bind; intro _)
    | intro _
def n_spec_l16Good_L11 : Nat → Int → Int → List D → Int → List D → Option ((Bool × Int × Int × List D) ⊕ (Int × Int × List D))
  | 0, _, _, _, _, _ => none
  | n + 1, x0, x1, x2, x3, x4 => c_spec_l16Good_L11 (n_spec_l16Good_L11 n) x0 x1 x2 x3 x4 some
noncomputable def spec_l16Good_L11 (x0 : Int) (x1 : Int) (x2 : List D) (x3 : Int) (x4 : List D) : Option ((Bool × Int × Int × List D) ⊕ (Int × Int × List D)) := ev (fun n => n_spec_l16Good_L11 n x0 x1 x2 x3 x4)
def m_spec_l16Good_L11 (F : Int → Int → List D → Int → List D → Option ((Bool × Int × Int × List D) ⊕ (Int × Int × List D))) : Lent := ⟨11, ⟨[.undef, .ptr 1000 [0], .undef, .int .i64, .int .i64, .rd (.int .i64), .int .i64, .undef, .undef, .undef, .undef, .undef, .undef, .undef, .undef, .undef, .undef, .undef, .undef, .undef, .undef, .undef, .undef, .undef, .undef, .undef, .undef, .undef, .undef, .undef, .undef, .undef, .undef, .undef, .undef, .undef, .undef, .undef, .undef, .undef, .undef, .undef, .undef, .undef, .undef, .undef, .undef, .undef, .undef], [(1000, .obox (.agg [.rd (.slice (.int .i64))]))]⟩, [(.ret, ⟨[.undef, .ptr 1000 [0], .bool, .int .i64, .int .i64, .undef, .undef, .undef, .undef, .undef, .undef, .undef, .undef, .undef, .undef, .undef, .undef, .undef, .undef, .undef, .undef, .undef, .undef, .undef, .undef, .undef, .undef, .undef, .undef, .undef, .undef, .undef, .undef, .undef, .undef, .undef, .undef, .undef, .undef, .undef, .undef, .undef, .undef, .undef, .undef, .undef, .undef, .undef, .undef], [(1000, .obox (.agg [.rd (.slice (.int .i64))]))]⟩), (.exit 2, ⟨[.undef, .ptr 1000 [0], .undef, .int .i64, .int .i64, .undef, .undef, .undef, .undef, .undef, .undef, .undef, .undef, .undef, .undef, .undef, .undef, .undef, .undef, .undef, .undef, .undef, .undef, .undef, .undef, .undef, .undef, .undef, .undef, .undef, .undef, .undef, .undef, .undef, .undef, .undef, .undef, .undef, .undef, .undef, .undef, .undef, .undef, .undef, .undef, .undef, .undef, .undef, .undef], [(1000, .obox (.agg [.rd (.slice (.int .i64))]))]⟩)], fun _ ds k => dI (fun x0 ds => dI (fun x1 ds => dL (fun x2 ds => dI (fun x3 ds => dL (fun x4 ds => dE ((F x0 x1 x2 x3 x4).bind (Sum.elim (fun y => k 0 [.B y.1, .I y.2.1, .I y.2.2.1, .L y.2.2.2]) (fun y => k 1 [.I y.1, .I y.2.1, .L y.2.2]))) ds) ds) ds) ds) ds) ds⟩
theorem q_spec_l16Good_L11 (F : Int → Int → List D → Int → List D → Option ((Bool × Int × Int × List D) ⊕ (Int × Int × List D))) (x0 : Int) (x1 : Int) (x2 : List D) (x3 : Int) (x4 : List D) : runLoop (ocOf [e_spec_l1In]) (olOf [m_spec_l16Good_L11 F]) A 39 (codeAt (bodyOf Go.Proofs.Try.f39) 11) ((m_spec_l16Good_L11 F).sh.mk' [.I x0, .I x1, .L x2, .I x3, .L x4]) (fun e σ' => some (e, σ')) = c_spec_l16Good_L11 F x0 x1 x2 x3 x4 (Sum.elim (fun y => some (.ret, SSt.mk' ⟨[.undef, .ptr 1000 [0], .bool, .int .i64, .int .i64, .undef, .undef, .undef, .undef, .undef, .undef, .undef, .undef, .undef, .undef, .undef, .undef, .undef, .undef, .undef, .undef, .undef, .undef, .undef, .undef, .undef, .undef, .undef, .undef, .undef, .undef, .undef, .undef, .undef, .undef, .undef, .undef, .undef, .undef, .undef, .undef, .undef, .undef, .undef, .undef, .undef, .undef, .undef, .undef], [(1000, .obox (.agg [.rd (.slice (.int .i64))]))]⟩ [.B y.1, .I y.2.1, .I y.2.2.1, .L y.2.2.2])) (fun y => some (.exit 2, SSt.mk' ⟨[.undef, .ptr 1000 [0], .undef, .int .i64, .int .i64, .undef, .undef, .undef, .undef, .undef, .undef, .undef, .undef, .undef, .undef, .undef, .undef, .undef, .undef, .undef, .undef, .undef, .undef, .undef, .undef, .undef, .undef, .undef, .undef, .undef, .undef, .undef, .undef, .undef, .undef, .undef, .undef, .undef, .undef, .undef, .undef, .undef, .undef, .undef, .undef, .undef, .undef, .undef, .undef], [(1000, .obox (.agg [.rd (.slice (.int .i64))]))]⟩ [.I y.1, .I y.2.1, .L y.2.2]))) := by kernel_rfl
theorem m_spec_l16Good_L11_ok : ∀ n, (m_spec_l16Good_L11 (n_spec_l16Good_L11 n)).ok Go.Proofs.Try.prog (codeAt (bodyOf Go.Proofs.Try.f39) 11) := by
  intro n
  induction n with
  | zero =>
    intro R ds k r h
    unfold m_spec_l16Good_L11 at h
    obtain ⟨x0, d0, rfl, h0⟩ := dI_some h
    obtain ⟨x1, d1, rfl, h1⟩ := dI_some h0
    obtain ⟨x2, d2, rfl, h2⟩ := dL_some h1
    obtain ⟨x3, d3, rfl, h3⟩ := dI_some h2
    obtain ⟨x4, d4, rfl, h4⟩ := dL_some h3
    obtain ⟨rfl, hE⟩ := dE_some h4
    obtain ⟨y, hy, hk⟩ := bnd_some hE
    cases hy
  | succ n ih =>
    intro R ds k r h
    unfold m_spec_l16Good_L11 at h
    obtain ⟨x0, d0, rfl, h0⟩ := dI_some h
    obtain ⟨x1, d1, rfl, h1⟩ := dI_some h0
    obtain ⟨x2, d2, rfl, h2⟩ := dL_some h1
    obtain ⟨x3, d3, rfl, h3⟩ := dI_some h2
    obtain ⟨x4, d4, rfl, h4⟩ := dL_some h3
    obtain ⟨rfl, hE⟩ := dE_some h4
    obtain ⟨y, hy, hk⟩ := bnd_some hE
    have hq := q_spec_l16Good_L11 (n_spec_l16Good_L11 n) x0 x1 x2 x3 x4
    rw [c_spec_l16Good_L11_bind] at hq
    rw [show c_spec_l16Good_L11 (n_spec_l16Good_L11 n) x0 x1 x2 x3 x4 some = some y from hy] at hq
    cases y with
    | inl y =>
      refine ⟨0, _, _, _, hk, rfl, loop_ok px (fx := ⟨Go.Proofs.Try.func39, by kernel_rfl, by kernel_rfl⟩) (entsOK_cons e_spec_l1In_ok entsOK_nil) (lentsOK_cons ih lentsOK_nil) (by kernel_rfl) ?_⟩
      exact hq
    | inr y =>
      refine ⟨1, _, _, _, hk, rfl, loop_ok px (fx := ⟨Go.Proofs.Try.func39, by kernel_rfl, by kernel_rfl⟩) (entsOK_cons e_spec_l1In_ok entsOK_nil) (lentsOK_cons ih lentsOK_nil) (by kernel_rfl) ?_⟩
      exact hq
noncomputable def e_spec_l16Good_L11 : Lent := m_spec_l16Good_L11 (spec_l16Good_L11)
theorem e_spec_l16Good_L11_ok : (e_spec_l16Good_L11).ok Go.Proofs.Try.prog (codeAt (bodyOf Go.Proofs.Try.f39) 11) := by
  intro R ds k r h
  unfold e_spec_l16Good_L11 m_spec_l16Good_L11 at h
  obtain ⟨x0, d0, rfl, h0⟩ := dI_some h
  obtain ⟨x1, d1, rfl, h1⟩ := dI_some h0
  obtain ⟨x2, d2, rfl, h2⟩ := dL_some h1
  obtain ⟨x3, d3, rfl, h3⟩ := dI_some h2
  obtain ⟨x4, d4, rfl, h4⟩ := dL_some h3
  obtain ⟨rfl, hE⟩ := dE_some h4
  obtain ⟨y, hy, hk⟩ := bnd_some hE
  obtain ⟨n, hn⟩ := ev_some hy
  exact m_spec_l16Good_L11_ok n R _ k r (show (n_spec_l16Good_L11 n x0 x1 x2 x3 x4).bind _ = _ by rw [hn]; exact hk)

/-! loop.example/g00876/spec.l16Good, loop 5 -/
def c_spec_l16Good_L5 {R : Type} (F : Int → Int → List D → Option ((Bool) ⊕ (Unit))) (x0 : Int) (x1 : Int) (x2 : List D) (k : (Bool) ⊕ (Unit) → Option R) : Option R :=
  bif Decidable.decide (x1 < x0) then
    if (0 : Int) ≤ x1 ∧ x1 < (↑x2.length : Int) then
      (spec_l1In (↑(x2.getD x1.toNat (Go.Rai.D.int (0 : Int))).items.length : Int) (1 : Int) (10 : Int)).bind (fun y0 =>
        bif !y0 then
          k (.inl Bool.false)
        else
          if (0 : Int) ≤ (0 : Int) ∧ (0 : Int) < (↑x2.length : Int) then
            bif !Decidable.decide ((↑(x2.getD x1.toNat (Go.Rai.D.int (0 : Int))).items.length : Int) = (↑(x2.getD (Int.toNat (0 : Int)) (Go.Rai.D.int (0 : Int))).items.length : Int)) then
              k (.inl Bool.false)
            else
              (spec_l16Good_L11 x0 x1 ((x2.getD x1.toNat (Go.Rai.D.int (0 : Int))).items) (0 : Int) x2).bind (Sum.elim (fun y1 =>
                k (.inl y1.fst)) (fun y2 =>
                (F y2.fst (Go.IntKind.i64.wrap (y2.snd.fst + (1 : Int))) y2.snd.snd).bind k))
          else
            none)
    else
      none
  else
    k (.inr ())
theorem c_spec_l16Good_L5_bind {R : Type} (F : Int → Int → List D → Option ((Bool) ⊕ (Unit))) (x0 : Int) (x1 : Int) (x2 : List D) (k : (Bool) ⊕ (Unit) → Option R) : c_spec_l16Good_L5 F x0 x1 x2 k = (c_spec_l16Good_L5 F x0 x1 x2 some).bind k := by
  unfold c_spec_l16Good_L5
  repeat' first
    | exact bnd_tail
    | exact bnd_none
    | exact bnd_leaf
    | apply bnd_ite
    | apply bnd_cond
    | apply bnd_sum
    | (apply bnd_bind; intro _)
    | intro _
def n_spec_l16Good_L5 : Nat → Int → Int → List D → Option ((Bool) ⊕ (Unit))
  | 0, _, _, _ => none
  | n + 1, x0, x1, x2 => c_spec_l16Good_L5 (n_spec_l16Good_L5 n) x0 x1 x2 some
noncomputable def spec_l16Good_L5 (x0 : Int) (x1 : Int) (x2 : List D) : Option ((Bool) ⊕ (Unit)) := ev (fun n => n_spec_l16Good_L5 n x0 x1 x2)
def m_spec_l16Good_L5 (F : Int → Int → List D → Option ((Bool) ⊕ (Unit))) : Lent := ⟨5, ⟨[.undef, .ptr 1000 [0], .undef, .int .i64, .int .i64, .undef, .undef, .undef, .undef, .undef, .undef, .undef, .undef, .undef, .undef, .undef, .undef, .undef, .undef, .undef, .undef, .undef, .undef, .undef, .undef, .undef, .undef, .undef, .undef, .undef, .undef, .undef, .undef, .undef, .undef, .undef, .undef, .undef, .undef, .undef, .undef, .undef, .undef, .undef, .undef, .undef, .undef, .undef, .undef], [(1000, .obox (.agg [.rd (.slice (.int .i64))]))]⟩, [(.ret, ⟨[.undef, .undef, .bool, .undef, .undef, .undef, .undef, .undef, .undef, .undef, .undef, .undef, .undef, .undef, .undef, .undef, .undef, .undef, .undef, .undef, .undef, .undef, .undef, .undef, .undef, .undef, .undef, .undef, .undef, .undef, .undef, .undef, .undef, .undef, .undef, .undef, .undef, .undef, .undef, .undef, .undef, .undef, .undef, .undef, .undef, .undef, .undef, .undef, .undef], []⟩), (.exit 0, ⟨[.undef, .undef, .undef, .undef, .undef, .undef, .undef, .undef, .undef, .undef, .undef, .undef, .undef, .undef, .undef, .undef, .undef, .undef, .undef, .undef, .undef, .undef, .undef, .undef, .undef, .undef, .undef, .undef, .undef, .undef, .undef, .undef, .undef, .undef, .undef, .undef, .undef, .undef, .undef, .undef, .undef, .undef, .undef, .undef, .undef, .undef, .undef, .undef, .undef], []⟩)], fun _ ds k => dI (fun x0 ds => dI (fun x1 ds => dL (fun x2 ds => dE ((F x0 x1 x2).bind (Sum.elim (fun y => k 0 [.B y]) (fun y => k 1 []))) ds) ds) ds) ds⟩
theorem q_spec_l16Good_L5 (F : Int → Int → List D → Option ((Bool) ⊕ (Unit))) (x0 : Int) (x1 : Int) (x2 : List D) : runLoop (ocOf [e_spec_l1In]) (olOf [m_spec_l16Good_L5 F, e_spec_l16Good_L11]) A 39 (codeAt (bodyOf Go.Proofs.Try.f39) 5) ((m_spec_l16Good_L5 F).sh.mk' [.I x0, .I x1, .L x2]) (fun e σ' => some (e, σ')) = c_spec_l16Good_L5 F x0 x1 x2 (Sum.elim (fun y => some (.ret, SSt.mk' ⟨[.undef, .undef, .bool, .undef, .undef, .undef, .undef, .undef, .undef, .undef, .undef, .undef, .undef, .undef, .undef, .undef, .undef, .undef, .undef, .undef, .undef, .undef, .undef, .undef, .undef, .undef, .undef, .undef, .undef, .undef, .undef, .undef, .undef, .undef, .undef, .undef, .undef, .undef, .undef, .undef, .undef, .undef, .undef, .undef, .undef, .undef, .undef, .undef, .undef], []⟩ [.B y])) (fun y => some (.exit 0, SSt.mk' ⟨[.undef, .undef, .undef, .undef, .undef, .undef, .undef, .undef, .undef, .undef, .undef, .undef, .undef, .undef, .undef, .undef, .undef, .undef, .undef, .undef, .undef, .undef, .undef, .undef, .undef, .undef, .undef, .undef, .undef, .undef, .undef, .undef, .undef, .undef, .undef, .undef, .undef, .undef, .undef, .undef, .undef, .undef, .undef, .undef, .undef, .undef, .undef, .undef, .undef], []⟩ []))) := by kernel_rfl
theorem m_spec_l16Good_L5_ok : ∀ n, (m_spec_l16Good_L5 (n_spec_l16Good_L5 n)).ok Go.Proofs.Try.prog (codeAt (bodyOf Go.Proofs.Try.f39) 5) := by
  intro n
  induction n with
  | zero =>
    intro R ds k r h
    unfold m_spec_l16Good_L5 at h
    obtain ⟨x0, d0, rfl, h0⟩ := dI_some h
    obtain ⟨x1, d1, rfl, h1⟩ := dI_some h0
    obtain ⟨x2, d2, rfl, h2⟩ := dL_some h1
    obtain ⟨rfl, hE⟩ := dE_some h2
    obtain ⟨y, hy, hk⟩ := bnd_some hE
    cases hy
  | succ n ih =>
    intro R ds k r h
    unfold m_spec_l16Good_L5 at h
    obtain ⟨x0, d0, rfl, h0⟩ := dI_some h
    obtain ⟨x1, d1, rfl, h1⟩ := dI_some h0
    obtain ⟨x2, d2, rfl, h2⟩ := dL_some h1
    obtain ⟨rfl, hE⟩ := dE_some h2
    obtain ⟨y, hy, hk⟩ := bnd_some hE
    have hq := q_spec_l16Good_L5 (n_spec_l16Good_L5 n) x0 x1 x2
    rw [c_spec_l16Good_L5_bind] at hq
    rw [show c_spec_l16Good_L5 (n_spec_l16Good_L5 n) x0 x1 x2 some = some y from hy] at hq
    cases y with
    | inl y =>
      refine ⟨0, _, _, _, hk, rfl, loop_ok px (fx := ⟨Go.Proofs.Try.func39, by kernel_rfl, by kernel_rfl⟩) (entsOK_cons e_spec_l1In_ok entsOK_nil) (lentsOK_cons ih (lentsOK_cons e_spec_l16Good_L11_ok lentsOK_nil)) (by kernel_rfl) ?_⟩
      exact hq
    | inr y =>
      refine ⟨1, _, _, _, hk, rfl, loop_ok px (fx := ⟨Go.Proofs.Try.func39, by kernel_rfl, by kernel_rfl⟩) (entsOK_cons e_spec_l1In_ok entsOK_nil) (lentsOK_cons ih (lentsOK_cons e_spec_l16Good_L11_ok lentsOK_nil)) (by kernel_rfl) ?_⟩
      exact hq
noncomputable def e_spec_l16Good_L5 : Lent := m_spec_l16Good_L5 (spec_l16Good_L5)
theorem e_spec_l16Good_L5_ok : (e_spec_l16Good_L5).ok Go.Proofs.Try.prog (codeAt (bodyOf Go.Proofs.Try.f39) 5) := by
  intro R ds k r h
  unfold e_spec_l16Good_L5 m_spec_l16Good_L5 at h
  obtain ⟨x0, d0, rfl, h0⟩ := dI_some h
  obtain ⟨x1, d1, rfl, h1⟩ := dI_some h0
  obtain ⟨x2, d2, rfl, h2⟩ := dL_some h1
  obtain ⟨rfl, hE⟩ := dE_some h2
  obtain ⟨y, hy, hk⟩ := bnd_some hE
  obtain ⟨n, hn⟩ := ev_some hy
  exact m_spec_l16Good_L5_ok n R _ k r (show (n_spec_l16Good_L5 n x0 x1 x2).bind _ = _ by rw [hn]; exact hk)

/-! loop.example/g00876/spec.l16Good -/
def c_spec_l16Good {R : Type} (x0 : List D) (k : Bool → Option R) : Option R :=
  (spec_l1In (↑x0.length : Int) (1 : Int) (7 : Int)).bind (fun y0 =>
    bif !y0 then
      k Bool.false
    else
      (spec_l16Good_L5 (↑x0.length : Int) (0 : Int) x0).bind (Sum.elim (fun y1 =>
        k y1) (fun y2 =>
        k Bool.true)))
theorem c_spec_l16Good_bind {R : Type} (x0 : List D) (k : Bool → Option R) : c_spec_l16Good x0 k = (c_spec_l16Good x0 some).bind k := by
  unfold c_spec_l16Good
  repeat' first
    | exact bnd_tail
    | exact bnd_none
    | exact bnd_leaf
    | apply bnd_ite
    | apply bnd_cond
    | apply bnd_sum
    | (apply bnd_bind; intro _)
    | intro _
def spec_l16Good (x0 : List D) : Option (Bool) := c_spec_l16Good x0 some
def e_spec_l16Good : Ent := ⟨39, [.agg [.rd (.slice (.int .i64))]], .bool, [.undef], fun _ ds k => dL (fun x0 ds => dE ((spec_l16Good x0).bind (fun y => k [.B y])) ds) ds⟩
theorem q_spec_l16Good (x0 : List D) : runFn (ocOf [e_spec_l1In]) (olOf [e_spec_l16Good_L5]) A 39 Go.Proofs.Try.f39 (Sh.mks e_spec_l16Good.sh [.L x0]).1 (fun v os => some (v, os)) = c_spec_l16Good x0 (fun y => some ((e_spec_l16Good.res.mk [.B y]).1, (Sh.mks e_spec_l16Good.outs (e_spec_l16Good.res.mk [.B y]).2).1)) := by kernel_rfl
theorem e_spec_l16Good_ok : e_spec_l16Good.ok Go.Proofs.Try.prog A := by
  intro R ds k r h
  unfold e_spec_l16Good at h
  obtain ⟨x0, d0, rfl, h0⟩ := dL_some h
  obtain ⟨rfl, hE⟩ := dE_some h0
  obtain ⟨y, hy, hk⟩ := bnd_some hE
  refine ⟨_, hk, fn_ok px (fx := ⟨Go.Proofs.Try.func39, by kernel_rfl, by kernel_rfl⟩) (entsOK_cons e_spec_l1In_ok entsOK_nil) (lentsOK_cons e_spec_l16Good_L5_ok lentsOK_nil) ?_⟩
  have hq := q_spec_l16Good x0
  rw [c_spec_l16Good_bind] at hq
  rw [show c_spec_l16Good x0 some = some y from hy] at hq
  exact hq

/-! loop.example/g00876/spec.l10Sum, loop 3 -/
def c_spec_l10Sum_L3 {R : Type} (F : List D → Int → Int → Option (Int)) (x0 : List D) (x1 : Int) (x2 : Int) (k : Int → Option R) : Option R :=
  bif Decidable.decide (x2 < (↑x0.length : Int)) then
    if (0 : Int) ≤ x2 ∧ x2 < (↑x0.length : Int) then
      (F x0 (Go.IntKind.i64.wrap (x1 + (x0.getD x2.toNat (Go.Rai.D.int (0 : Int))).toInt)) (Go.IntKind.i64.wrap (x2 + (1 : Int)))).bind k
    else
      none
  else
    k x1
theorem c_spec_l10Sum_L3_bind {R : Type} (F : List D → Int → Int → Option (Int)) (x0 : List D) (x1 : Int) (x2 : Int) (k : Int → Option R) : c_spec_l10Sum_L3 F x0 x1 x2 k = (c_spec_l10Sum_L3 F x0 x1 x2 some).bind k := by
  unfold c_spec_l10Sum_L3
  repeat' first
    | exact bnd_tail
    | exact bnd_none
    | exact bnd_leaf
    | apply bnd_ite
    | apply bnd_cond
    | apply bnd_sum
    | (apply bnd_bind; intro _)
    | intro _
def n_spec_l10Sum_L3 : Nat → List D → Int → Int → Option (Int)
  | 0, _, _, _ => none
  | n + 1, x0, x1, x2 => c_spec_l10Sum_L3 (n_spec_l10Sum_L3 n) x0 x1 x2 some
noncomputable def spec_l10Sum_L3 (x0 : List D) (x1 : Int) (x2 : Int) : Option (Int) := ev (fun n => n_spec_l10Sum_L3 n x0 x1 x2)
def m_spec_l10Sum_L3 (F : List D → Int → Int → Option (Int)) : Lent := ⟨3, ⟨[.rd (.int .i64), .undef, .undef, .int .i64, .int .i64, .undef, .undef, .undef, .undef, .undef, .undef, .undef, .undef, .undef, .undef, .undef, .undef, .undef], []⟩, [(.exit 0, ⟨[.undef, .undef, .undef, .int .i64, .undef, .undef, .undef, .undef, .undef, .undef, .undef, .undef, .undef, .undef, .undef, .undef, .undef, .undef], []⟩)], fun _ ds k => dL (fun x0 ds => dI (fun x1 ds => dI (fun x2 ds => dE ((F x0 x1 x2).bind (fun y => k 0 [.I y])) ds) ds) ds) ds⟩
theorem q_spec_l10Sum_L3 (F : List D → Int → Int → Option (Int)) (x0 : List D) (x1 : Int) (x2 : Int) : runLoop (ocOf []) (olOf [m_spec_l10Sum_L3 F]) A 78 (codeAt (bodyOf Go.Proofs.Try.f78) 3) ((m_spec_l10Sum_L3 F).sh.mk' [.L x0, .I x1, .I x2]) (fun e σ' => some (e, σ')) = c_spec_l10Sum_L3 F x0 x1 x2 (fun y => some (.exit 0, SSt.mk' ⟨[.undef, .undef, .undef, .int .i64, .undef, .undef, .undef, .undef, .undef, .undef, .undef, .undef, .undef, .undef, .undef, .undef, .undef, .undef], []⟩ [.I y])) := by kernel_rfl
theorem m_spec_l10Sum_L3_ok : ∀ n, (m_spec_l10Sum_L3 (n_spec_l10Sum_L3 n)).ok Go.Proofs.Try.prog (codeAt (bodyOf Go.Proofs.Try.f78) 3) := by
  intro n
  induction n with
  | zero =>
    intro R ds k r h
    unfold m_spec_l10Sum_L3 at h
    obtain ⟨x0, d0, rfl, h0⟩ := dL_some h
    obtain ⟨x1, d1, rfl, h1⟩ := dI_some h0
    obtain ⟨x2, d2, rfl, h2⟩ := dI_some h1
    obtain ⟨rfl, hE⟩ := dE_some h2
    obtain ⟨y, hy, hk⟩ := bnd_some hE
    cases hy
  | succ n ih =>
    intro R ds k r h
    unfold m_spec_l10Sum_L3 at h
    obtain ⟨x0, d0, rfl, h0⟩ := dL_some h
    obtain ⟨x1, d1, rfl, h1⟩ := dI_some h0
    obtain ⟨x2, d2, rfl, h2⟩ := dI_some h1
    obtain ⟨rfl, hE⟩ := dE_some h2
    obtain ⟨y, hy, hk⟩ := bnd_some hE
    have hq := q_spec_l10Sum_L3 (n_spec_l10Sum_L3 n) x0 x1 x2
    rw [c_spec_l10Sum_L3_bind] at hq
    rw [show c_spec_l10Sum_L3 (n_spec_l10Sum_L3 n) x0 x1 x2 some = some y from hy] at hq
    refine ⟨0, _, _, _, hk, rfl, loop_ok px (fx := ⟨Go.Proofs.Try.func78, by kernel_rfl, by kernel_rfl⟩) entsOK_nil (lentsOK_cons ih lentsOK_nil) (by kernel_rfl) ?_⟩
    exact hq
noncomputable def e_spec_l10Sum_L3 : Lent := m_spec_l10Sum_L3 (spec_l10Sum_L3)
theorem e_spec_l10Sum_L3_ok : (e_spec_l10Sum_L3).ok Go.Proofs.Try.prog (codeAt (bodyOf Go.Proofs.Try.f78) 3) := by
  intro R ds k r h
  unfold e_spec_l10Sum_L3 m_spec_l10Sum_L3 at h
  obtain ⟨x0, d0, rfl, h0⟩ := dL_some h
  obtain ⟨x1, d1, rfl, h1⟩ := dI_some h0
  obtain ⟨x2, d2, rfl, h2⟩ := dI_some h1
  obtain ⟨rfl, hE⟩ := dE_some h2
  obtain ⟨y, hy, hk⟩ := bnd_some hE
  obtain ⟨n, hn⟩ := ev_some hy
  exact m_spec_l10Sum_L3_ok n R _ k r (show (n_spec_l10Sum_L3 n x0 x1 x2).bind _ = _ by rw [hn]; exact hk)

/-! loop.example/g00876/spec.l10Sum -/
def c_spec_l10Sum {R : Type} (x0 : List D) (k : Int → Option R) : Option R :=
  (spec_l10Sum_L3 x0 (0 : Int) (0 : Int)).bind (fun y0 =>
    k y0)
theorem c_spec_l10Sum_bind {R : Type} (x0 : List D) (k : Int → Option R) : c_spec_l10Sum x0 k = (c_spec_l10Sum x0 some).bind k := by
  unfold c_spec_l10Sum
  repeat' first
    | exact bnd_tail
    | exact bnd_none
    | exact bnd_leaf
    | apply bnd_ite
    | apply bnd_cond
    | apply bnd_sum
    | (apply bnd_bind; intro _)
    | intro _
def spec_l10Sum (x0 : List D) : Option (Int) := c_spec_l10Sum x0 some
def e_spec_l10Sum : Ent := ⟨78, [.rd (.int .i64)], .int .i64, [.undef], fun _ ds k => dL (fun x0 ds => dE ((spec_l10Sum x0).bind (fun y => k [.I y])) ds) ds⟩
theorem q_spec_l10Sum (x0 : List D) : runFn (ocOf []) (olOf [e_spec_l10Sum_L3]) A 78 Go.Proofs.Try.f78 (Sh.mks e_spec_l10Sum.sh [.L x0]).1 (fun v os => some (v, os)) = c_spec_l10Sum x0 (fun y => some ((e_spec_l10Sum.res.mk [.I y]).1, (Sh.mks e_spec_l10Sum.outs (e_spec_l10Sum.res.mk [.I y]).2).1)) := by kernel_rfl
theorem e_spec_l10Sum_ok : e_spec_l10Sum.ok Go.Proofs.Try.prog A := by
  intro R ds k r h
  unfold e_spec_l10Sum at h
  obtain ⟨x0, d0, rfl, h0⟩ := dL_some h
  obtain ⟨rfl, hE⟩ := dE_some h0
  obtain ⟨y, hy, hk⟩ := bnd_some hE
  refine ⟨_, hk, fn_ok px (fx := ⟨Go.Proofs.Try.func78, by kernel_rfl, by kernel_rfl⟩) entsOK_nil (lentsOK_cons e_spec_l10Sum_L3_ok lentsOK_nil) ?_⟩
  have hq := q_spec_l10Sum x0
  rw [c_spec_l10Sum_bind] at hq
  rw [show c_spec_l10Sum x0 some = some y from hy] at hq
  exact hq

/-! loop.example/g00876/spec.l16Share -/
def c_spec_l16Share {R : Type} (x0 : List D) (x1 : Int) (k : Int → Option R) : Option R :=
  (spec_l10Sum x0).bind (fun y0 =>
    bif Decidable.decide (y0 = (0 : Int)) then
      k (0 : Int)
    else
      if (0 : Int) ≤ x1 ∧ x1 < (↑x0.length : Int) then
        if y0 ≠ (0 : Int) then
          k (Go.IntKind.i64.wrap ((Go.IntKind.i64.wrap ((1000 : Int) * (x0.getD x1.toNat (Go.Rai.D.int (0 : Int))).toInt)).tdiv y0))
        else
          none
      else
        none)
theorem c_spec_l16Share_bind {R : Type} (x0 : List D) (x1 : Int) (k : Int → Option R) : c_spec_l16Share x0 x1 k = (c_spec_l16Share x0 x1 some).bind k := by
  unfold c_spec_l16Share
  repeat' first
    | exact bnd_tail
    | exact bnd_none
    | exact bnd_leaf
    | apply bnd_ite
    | apply bnd_cond
    | apply bnd_sum
    | (apply bnd_bind; intro _)
    | intro _
def spec_l16Share (x0 : List D) (x1 : Int) : Option (Int) := c_spec_l16Share x0 x1 some
def e_spec_l16Share : Ent := ⟨67, [.rd (.int .i64), .int .i64], .int .i64, [.undef, .undef], fun _ ds k => dL (fun x0 ds => dI (fun x1 ds => dE ((spec_l16Share x0 x1).bind (fun y => k [.I y])) ds) ds) ds⟩
theorem q_spec_l16Share (x0 : List D) (x1 : Int) : runFn (ocOf [e_spec_l10Sum]) (olOf []) A 67 Go.Proofs.Try.f67 (Sh.mks e_spec_l16Share.sh [.L x0, .I x1]).1 (fun v os => some (v, os)) = c_spec_l16Share x0 x1 (fun y => some ((e_spec_l16Share.res.mk [.I y]).1, (Sh.mks e_spec_l16Share.outs (e_spec_l16Share.res.mk [.I y]).2).1)) := by kernel_rfl
theorem e_spec_l16Share_ok : e_spec_l16Share.ok Go.Proofs.Try.prog A := by
  intro R ds k r h
  unfold e_spec_l16Share at h
  obtain ⟨x0, d0, rfl, h0⟩ := dL_some h
  obtain ⟨x1, d1, rfl, h1⟩ := dI_some h0
  obtain ⟨rfl, hE⟩ := dE_some h1
  obtain ⟨y, hy, hk⟩ := bnd_some hE
  refine ⟨_, hk, fn_ok px (fx := ⟨Go.Proofs.Try.func67, by kernel_rfl, by kernel_rfl⟩) (entsOK_cons e_spec_l10Sum_ok entsOK_nil) lentsOK_nil ?_⟩
  have hq := q_spec_l16Share x0 x1
  rw [c_spec_l16Share_bind] at hq
  rw [show c_spec_l16Share x0 x1 some = some y from hy] at hq
  exact hq

/-! loop.example/g00876/spec.l1Most -/
def c_spec_l1Most {R : Type} (x0 : Int) (x1 : Int) (k : Int → Option R) : Option R :=
  bif Decidable.decide (x1 < x0) then
    k x0
  else
    k x1
theorem c_spec_l1Most_bind {R : Type} (x0 : Int) (x1 : Int) (k : Int → Option R) : c_spec_l1Most x0 x1 k = (c_spec_l1Most x0 x1 some).bind k := by
  unfold c_spec_l1Most
  repeat' first
    | exact bnd_tail
    | exact bnd_none
    | exact bnd_leaf
    | apply bnd_ite
    | apply bnd_cond
    | apply bnd_sum
    | (apply bnd_bind; intro _)
    | intro _
def spec_l1Most (x0 : Int) (x1 : Int) : Option (Int) := c_spec_l1Most x0 x1 some
def e_spec_l1Most : Ent := ⟨68, [.int .i64, .int .i64], .int .i64, [.undef, .undef], fun _ ds k => dI (fun x0 ds => dI (fun x1 ds => dE ((spec_l1Most x0 x1).bind (fun y => k [.I y])) ds) ds) ds⟩
theorem q_spec_l1Most (x0 : Int) (x1 : Int) : runFn (ocOf []) (olOf []) A 68 Go.Proofs.Try.f68 (Sh.mks e_spec_l1Most.sh [.I x0, .I x1]).1 (fun v os => some (v, os)) = c_spec_l1Most x0 x1 (fun y => some ((e_spec_l1Most.res.mk [.I y]).1, (Sh.mks e_spec_l1Most.outs (e_spec_l1Most.res.mk [.I y]).2).1)) := by kernel_rfl
theorem e_spec_l1Most_ok : e_spec_l1Most.ok Go.Proofs.Try.prog A := by
  intro R ds k r h
  unfold e_spec_l1Most at h
  obtain ⟨x0, d0, rfl, h0⟩ := dI_some h
  obtain ⟨x1, d1, rfl, h1⟩ := dI_some h0
  obtain ⟨rfl, hE⟩ := dE_some h1
  obtain ⟨y, hy, hk⟩ := bnd_some hE
  refine ⟨_, hk, fn_ok px (fx := ⟨Go.Proofs.Try.func68, by kernel_rfl, by kernel_rfl⟩) entsOK_nil lentsOK_nil ?_⟩
  have hq := q_spec_l1Most x0 x1
  rw [c_spec_l1Most_bind] at hq
  rw [show c_spec_l1Most x0 x1 some = some y from hy] at hq
  exact hq

/-! loop.example/g00876/spec.l16Distance, loop 3 -/
def c_spec_l16Distance_L3 {R : Type} (F : Int → Int → Int → Int → List D → Option (Int)) (x0 : Int) (x1 : Int) (x2 : Int) (x3 : Int) (x4 : List D) (k : Int → Option R) : Option R :=
  if (0 : Int) ≤ x0 ∧ x0 < (↑x4.length : Int) then
    bif Decidable.decide (x3 < (↑(x4.getD x0.toNat (Go.Rai.D.int (0 : Int))).items.length : Int)) then
      if (0 : Int) ≤ x0 ∧ x0 < (↑x4.length : Int) then
        (spec_l16Share ((x4.getD x0.toNat (Go.Rai.D.int (0 : Int))).items) x3).bind (fun y0 =>
          if (0 : Int) ≤ x1 ∧ x1 < (↑x4.length : Int) then
            (spec_l16Share ((x4.getD x1.toNat (Go.Rai.D.int (0 : Int))).items) x3).bind (fun y1 =>
              (spec_l1Most (Go.IntKind.i64.wrap (y0 - y1)) (Go.IntKind.i64.wrap (y1 - y0))).bind (fun y2 =>
                (F x0 x1 (Go.IntKind.i64.wrap (x2 + y2)) (Go.IntKind.i64.wrap (x3 + (1 : Int))) x4).bind k))
          else
            none)
      else
        none
    else
      k x2
  else
    none
theorem c_spec_l16Distance_L3_bind {R : Type} (F : Int → Int → Int → Int → List D → Option (Int)) (x0 : Int) (x1 : Int) (x2 : Int) (x3 : Int) (x4 : List D) (k : Int → Option R) : c_spec_l16Distance_L3 F x0 x1 x2 x3 x4 k = (c_spec_l16Distance_L3 F x0 x1 x2 x3 x4 some).bind k := by
  unfold c_spec_l16Distance_L3
  repeat' first
    | exact bnd_tail
    | exact bnd_none
    | exact bnd_leaf
    | apply bnd_ite
    | apply bnd_cond
    | apply bnd_sum
    | (apply bnd_bind; intro _)
    | intro _
def n_spec_l16Distance_L3 : Nat → Int → Int → Int → Int → List D → Option (Int)
  | 0, _, _, _, _, _ => none
  | n + 1, x0, x1, x2, x3, x4 => c_spec_l16Distance_L3 (n_spec_l16Distance_L3 n) x0 x1 x2 x3 x4 some
noncomputable def spec_l16Distance_L3 (x0 : Int) (x1 : Int) (x2 : Int) (x3 : Int) (x4 : List D) : Option (Int) := ev (fun n => n_spec_l16Distance_L3 n x0 x1 x2 x3 x4)
def m_spec_l16Distance_L3 (F : Int → Int → Int → Int → List D → Option (Int)) : Lent := ⟨3, ⟨[.undef, .int .i64, .int .i64, .ptr 1000 [0], .undef, .undef, .undef, .int .i64, .int .i64, .undef, .undef, .undef, .undef, .undef, .undef, .undef, .undef, .undef, .undef, .undef, .undef, .undef, .undef, .undef, .undef, .undef, .undef, .undef, .undef, .undef, .undef, .undef, .undef, .undef, .undef, .undef, .undef, .undef, .undef, .undef, .undef, .undef, .undef, .undef, .undef], [(1000, .obox (.agg [.rd (.slice (.int .i64))]))]⟩, [(.exit 0, ⟨[.undef, .undef, .undef, .undef, .undef, .undef, .undef, .int .i64, .undef, .undef, .undef, .undef, .undef, .undef, .undef, .undef, .undef, .undef, .undef, .undef, .undef, .undef, .undef, .undef, .undef, .undef, .undef, .undef, .undef, .undef, .undef, .undef, .undef, .undef, .undef, .undef, .undef, .undef, .undef, .undef, .undef, .undef, .undef, .undef, .undef], []⟩)], fun _ ds k => dI (fun x0 ds => dI (fun x1 ds => dI (fun x2 ds => dI (fun x3 ds => dL (fun x4 ds => dE ((F x0 x1 x2 x3 x4).bind (fun y => k 0 [.I y])) ds) ds) ds) ds) ds) ds⟩
theorem q_spec_l16Distance_L3 (F : Int → Int → Int → Int → List D → Option (Int)) (x0 : Int) (x1 : Int) (x2 : Int) (x3 : Int) (x4 : List D) : runLoop (ocOf [e_spec_l16Share, e_spec_l1Most]) (olOf [m_spec_l16Distance_L3 F]) A 41 (codeAt (bodyOf Go.Proofs.Try.f41) 3) ((m_spec_l16Distance_L3 F).sh.mk' [.I x0, .I x1, .I x2, .I x3, .L x4]) (fun e σ' => some (e, σ')) = c_spec_l16Distance_L3 F x0 x1 x2 x3 x4 (fun y => some (.exit 0, SSt.mk' ⟨[.undef, .undef, .undef, .undef, .undef, .undef, .undef, .int .i64, .undef, .undef, .undef, .undef, .undef, .undef, .undef, .undef, .undef, .undef, .undef, .undef, .undef, .undef, .undef, .undef, .undef, .undef, .undef, .undef, .undef, .undef, .undef, .undef, .undef, .undef, .undef, .undef, .undef, .undef, .undef, .undef, .undef, .undef, .undef, .undef, .undef], []⟩ [.I y])) := by kernel_rfl
theorem m_spec_l16Distance_L3_ok : ∀ n, (m_spec_l16Distance_L3 (n_spec_l16Distance_L3 n)).ok Go.Proofs.Try.prog (codeAt (bodyOf Go.Proofs.Try.f41) 3) := by
  intro n
  induction n with
  | zero =>
    intro R ds k r h
    unfold m_spec_l16Distance_L3 at h
    obtain ⟨x0, d0, rfl, h0⟩ := dI_some h
    obtain ⟨x1, d1, rfl, h1⟩ := dI_some h0
    obtain ⟨x2, d2, rfl, h2⟩ := dI_some h1
    obtain ⟨x3, d3, rfl, h3⟩ := dI_some h2
    obtain ⟨x4, d4, rfl, h4⟩ := dL_some h3
    obtain ⟨rfl, hE⟩ := dE_some h4
    obtain ⟨y, hy, hk⟩ := bnd_some hE
    cases hy
  | succ n ih =>
    intro R ds k r h
    unfold m_spec_l16Distance_L3 at h
    obtain ⟨x0, d0, rfl, h0⟩ := dI_some h
    obtain ⟨x1, d1, rfl, h1⟩ := dI_some h0
    obtain ⟨x2, d2, rfl, h2⟩ := dI_some h1
    obtain ⟨x3, d3, rfl, h3⟩ := dI_some h2
    obtain ⟨x4, d4, rfl, h4⟩ := dL_some h3
    obtain ⟨rfl, hE⟩ := dE_some h4
    obtain ⟨y, hy, hk⟩ := bnd_some hE
    have hq := q_spec_l16Distance_L3 (n_spec_l16Distance_L3 n) x0 x1 x2 x3 x4
    rw [c_spec_l16Distance_L3_bind] at hq
    rw [show c_spec_l16Distance_L3 (n_spec_l16Distance_L3 n) x0 x1 x2 x3 x4 some = some y from hy] at hq
    refine ⟨0, _, _, _, hk, rfl, loop_ok px (fx := ⟨Go.Proofs.Try.func41, by kernel_rfl, by kernel_rfl⟩) (entsOK_cons e_spec_l16Share_ok (entsOK_cons e_spec_l1Most_ok entsOK_nil)) (lentsOK_cons ih lentsOK_nil) (by kernel_rfl) ?_⟩
    exact hq
noncomputable def e_spec_l16Distance_L3 : Lent := m_spec_l16Distance_L3 (spec_l16Distance_L3)
theorem e_spec_l16Distance_L3_ok : (e_spec_l16Distance_L3).ok Go.Proofs.Try.prog (codeAt (bodyOf Go.Proofs.Try.f41) 3) := by
  intro R ds k r h
  unfold e_spec_l16Distance_L3 m_spec_l16Distance_L3 at h
  obtain ⟨x0, d0, rfl, h0⟩ := dI_some h
  obtain ⟨x1, d1, rfl, h1⟩ := dI_some h0
  obtain ⟨x2, d2, rfl, h2⟩ := dI_some h1
  obtain ⟨x3, d3, rfl, h3⟩ := dI_some h2
  obtain ⟨x4, d4, rfl, h4⟩ := dL_some h3
  obtain ⟨rfl, hE⟩ := dE_some h4
  obtain ⟨y, hy, hk⟩ := bnd_some hE
  obtain ⟨n, hn⟩ := ev_some hy
  exact m_spec_l16Distance_L3_ok n R _ k r (show (n_spec_l16Distance_L3 n x0 x1 x2 x3 x4).bind _ = _ by rw [hn]; exact hk)

/-! loop.example/g00876/spec.l16Distance -/
def c_spec_l16Distance {R : Type} (x0 : List D) (x1 : Int) (x2 : Int) (k : Int → Option R) : Option R :=
  (spec_l16Distance_L3 x1 x2 (0 : Int) (0 : Int) x0).bind (fun y0 =>
    k y0)
theorem c_spec_l16Distance_bind {R : Type} (x0 : List D) (x1 : Int) (x2 : Int) (k : Int → Option R) : c_spec_l16Distance x0 x1 x2 k = (c_spec_l16Distance x0 x1 x2 some).bind k := by
  unfold c_spec_l16Distance
  repeat' first
    | exact bnd_tail
    | exact bnd_none
    | exact bnd_leaf
    | apply bnd_ite
    | apply bnd_cond
    | apply bnd_sum
    | (apply bnd_bind; intro _)
    | intro _
def spec_l16Distance (x0 : List D) (x1 : Int) (x2 : Int) : Option (Int) := c_spec_l16Distance x0 x1 x2 some
def e_spec_l16Distance : Ent := ⟨41, [.agg [.rd (.slice (.int .i64))], .int .i64, .int .i64], .int .i64, [.undef, .undef, .undef], fun _ ds k => dL (fun x0 ds => dI (fun x1 ds => dI (fun x2 ds => dE ((spec_l16Distance x0 x1 x2).bind (fun y => k [.I y])) ds) ds) ds) ds⟩
theorem q_spec_l16Distance (x0 : List D) (x1 : Int) (x2 : Int) : runFn (ocOf []) (olOf [e_spec_l16Distance_L3]) A 41 Go.Proofs.Try.f41 (Sh.mks e_spec_l16Distance.sh [.L x0, .I x1, .I x2]).1 (fun v os => some (v, os)) = c_spec_l16Distance x0 x1 x2 (fun y => some ((e_spec_l16Distance.res.mk [.I y]).1, (Sh.mks e_spec_l16Distance.outs (e_spec_l16Distance.res.mk [.I y]).2).1)) := by kernel_rfl
theorem e_spec_l16Distance_ok : e_spec_l16Distance.ok Go.Proofs.Try.prog A := by
  intro R ds k r h
  unfold e_spec_l16Distance at h
  obtain ⟨x0, d0, rfl, h0⟩ := dL_some h
  obtain ⟨x1, d1, rfl, h1⟩ := dI_some h0
  obtain ⟨x2, d2, rfl, h2⟩ := dI_some h1
  obtain ⟨rfl, hE⟩ := dE_some h2
  obtain ⟨y, hy, hk⟩ := bnd_some hE
  refine ⟨_, hk, fn_ok px (fx := ⟨Go.Proofs.Try.func41, by kernel_rfl, by kernel_rfl⟩) entsOK_nil (lentsOK_cons e_spec_l16Distance_L3_ok lentsOK_nil) ?_⟩
  have hq := q_spec_l16Distance x0 x1 x2
  rw [c_spec_l16Distance_bind] at hq
  rw [show c_spec_l16Distance x0 x1 x2 some = some y from hy] at hq
  exact hq

/-! loop.example/g00876/spec.RowDistance -/
def c_spec_RowDistance {R : Type} (x0 : List D) (x1 : Int) (x2 : Int) (k : Int × Bool → Option R) : Option R :=
  (spec_l16Good x0).bind (fun y0 =>
    bif !y0 then
      k ((0 : Int), Bool.false)
    else
      (spec_l1In x1 (0 : Int) (Go.IntKind.i64.wrap ((↑x0.length : Int) - (1 : Int)))).bind (fun y1 =>
        bif !y1 then
          k ((0 : Int), Bool.false)
        else
          (spec_l1In x2 (0 : Int) (Go.IntKind.i64.wrap ((↑x0.length : Int) - (1 : Int)))).bind (fun y2 =>
            bif !y2 then
              k ((0 : Int), Bool.false)
            else
              (spec_l16Distance x0 x1 x2).bind (fun y3 =>
                k (y3, Bool.true)))))
theorem c_spec_RowDistance_bind {R : Type} (x0 : List D) (x1 : Int) (x2 : Int) (k : Int × Bool → Option R) : c_spec_RowDistance x0 x1 x2 k = (c_spec_RowDistance x0 x1 x2 some).bind k := by
  unfold c_spec_RowDistance
  repeat' first
    | exact bnd_tail
    | exact bnd_none
    | exact bnd_leaf
    | apply bnd_ite
    | apply bnd_cond
    | apply bnd_sum
    | (apply bnd_bind; intro _)
    | intro _
def spec_RowDistance (x0 : List D) (x1 : Int) (x2 : Int) : Option (Int × Bool) := c_spec_RowDistance x0 x1 x2 some
def e_spec_RowDistance : Ent := ⟨13, [.agg [.rd (.slice (.int .i64))], .int .i64, .int .i64], .tup [.int .i64, .bool], [.undef, .undef, .undef], fun _ ds k => dL (fun x0 ds => dI (fun x1 ds => dI (fun x2 ds => dE ((spec_RowDistance x0 x1 x2).bind (fun y => k [.I y.1, .B y.2])) ds) ds) ds) ds⟩
theorem q_spec_RowDistance (x0 : List D) (x1 : Int) (x2 : Int) : runFn (ocOf [e_spec_l16Good, e_spec_l1In, e_spec_l16Distance]) (olOf []) A 13 Go.Proofs.Try.f13 (Sh.mks e_spec_RowDistance.sh [.L x0, .I x1, .I x2]).1 (fun v os => some (v, os)) = c_spec_RowDistance x0 x1 x2 (fun y => some ((e_spec_RowDistance.res.mk [.I y.1, .B y.2]).1, (Sh.mks e_spec_RowDistance.outs (e_spec_RowDistance.res.mk [.I y.1, .B y.2]).2).1)) := by kernel_rfl
theorem e_spec_RowDistance_ok : e_spec_RowDistance.ok Go.Proofs.Try.prog A := by
  intro R ds k r h
  unfold e_spec_RowDistance at h
  obtain ⟨x0, d0, rfl, h0⟩ := dL_some h
  obtain ⟨x1, d1, rfl, h1⟩ := dI_some h0
  obtain ⟨x2, d2, rfl, h2⟩ := dI_some h1
  obtain ⟨rfl, hE⟩ := dE_some h2
  obtain ⟨y, hy, hk⟩ := bnd_some hE
  refine ⟨_, hk, fn_ok px (fx := ⟨Go.Proofs.Try.func13, by kernel_rfl, by kernel_rfl⟩) (entsOK_cons e_spec_l16Good_ok (entsOK_cons e_spec_l1In_ok (entsOK_cons e_spec_l16Distance_ok entsOK_nil))) lentsOK_nil ?_⟩
  have hq := q_spec_RowDistance x0 x1 x2
  rw [c_spec_RowDistance_bind] at hq
  rw [show c_spec_RowDistance x0 x1 x2 some = some y from hy] at hq
  exact hq

/-! loop.example/g00876/impl.within -/
def c_impl_within {R : Type} (x0 : Int) (x1 : Int) (x2 : Int) (k : Bool → Option R) : Option R :=
  bif Decidable.decide (x1 ≤ x0) then
    k (Decidable.decide (x0 ≤ x2))
  else
    k Bool.false
theorem c_impl_within_bind {R : Type} (x0 : Int) (x1 : Int) (x2 : Int) (k : Bool → Option R) : c_impl_within x0 x1 x2 k = (c_impl_within x0 x1 x2 some).bind k := by
  unfold c_impl_within
  repeat' first
    | exact bnd_tail
    | exact bnd_none
    | exact bnd_leaf
    | apply bnd_ite
    | apply bnd_cond
    | apply bnd_sum
    | (apply bnd_bind; intro _)
    | intro _
def impl_within (x0 : Int) (x1 : Int) (x2 : Int) : Option (Bool) := c_impl_within x0 x1 x2 some
def e_impl_within : Ent := ⟨44, [.int .i64, .int .i64, .int .i64], .bool, [.undef, .undef, .undef], fun _ ds k => dI (fun x0 ds => dI (fun x1 ds => dI (fun x2 ds => dE ((impl_within x0 x1 x2).bind (fun y => k [.B y])) ds) ds) ds) ds⟩
theorem q_impl_within (x0 : Int) (x1 : Int) (x2 : Int) : runFn (ocOf []) (olOf []) A 44 Go.Proofs.Try.f44 (Sh.mks e_impl_within.sh [.I x0, .I x1, .I x2]).1 (fun v os => some (v, os)) = c_impl_within x0 x1 x2 (fun y => some ((e_impl_within.res.mk [.B y]).1, (Sh.mks e_impl_within.outs (e_impl_within.res.mk [.B y]).2).1)) := by kernel_rfl
theorem e_impl_within_ok : e_impl_within.ok Go.Proofs.Try.prog A := by
  intro R ds k r h
  unfold e_impl_within at h
  obtain ⟨x0, d0, rfl, h0⟩ := dI_some h
  obtain ⟨x1, d1, rfl, h1⟩ := dI_some h0
  obtain ⟨x2, d2, rfl, h2⟩ := dI_some h1
  obtain ⟨rfl, hE⟩ := dE_some h2
  obtain ⟨y, hy, hk⟩ := bnd_some hE
  refine ⟨_, hk, fn_ok px (fx := ⟨Go.Proofs.Try.func44, by kernel_rfl, by kernel_rfl⟩) entsOK_nil lentsOK_nil ?_⟩
  have hq := q_impl_within x0 x1 x2
  rw [c_impl_within_bind] at hq
  rw [show c_impl_within x0 x1 x2 some = some y from hy] at hq
  exact hq

/-! loop.example/g00876/impl.IsValidTable$1 -/
def c_impl_IsValidTable_1 {R : Type} (x0 : Int) (k : Bool → Option R) : Option R :=
  (impl_within x0 (0 : Int) (1000 : Int)).bind (fun y0 =>
    k !y0)
theorem c_impl_IsValidTable_1_bind {R : Type} (x0 : Int) (k : Bool → Option R) : c_impl_IsValidTable_1 x0 k = (c_impl_IsValidTable_1 x0 some).bind k := by
  unfold c_impl_IsValidTable_1
  repeat' first
    | exact bnd_tail
    | exact bnd_none
    | exact bnd_leaf
    | apply bnd_ite
    | apply bnd_cond
    | apply bnd_sum
    | (apply bnd_bind; intro _)
    | intro _
def impl_IsValidTable_1 (x0 : Int) : Option (Bool) := c_impl_IsValidTable_1 x0 some
def e_impl_IsValidTable_1 : Ent := ⟨70, [.int .i64], .bool, [.undef], fun _ ds k => dI (fun x0 ds => dE ((impl_IsValidTable_1 x0).bind (fun y => k [.B y])) ds) ds⟩
theorem q_impl_IsValidTable_1 (x0 : Int) : runFn (ocOf [e_impl_within]) (olOf []) A 70 Go.Proofs.Try.f70 (Sh.mks e_impl_IsValidTable_1.sh [.I x0]).1 (fun v os => some (v, os)) = c_impl_IsValidTable_1 x0 (fun y => some ((e_impl_IsValidTable_1.res.mk [.B y]).1, (Sh.mks e_impl_IsValidTable_1.outs (e_impl_IsValidTable_1.res.mk [.B y]).2).1)) := by kernel_rfl
theorem e_impl_IsValidTable_1_ok : e_impl_IsValidTable_1.ok Go.Proofs.Try.prog A := by
  intro R ds k r h
  unfold e_impl_IsValidTable_1 at h
  obtain ⟨x0, d0, rfl, h0⟩ := dI_some h
  obtain ⟨rfl, hE⟩ := dE_some h0
  obtain ⟨y, hy, hk⟩ := bnd_some hE
  refine ⟨_, hk, fn_ok px (fx := ⟨Go.Proofs.Try.func70, by kernel_rfl, by kernel_rfl⟩) (entsOK_cons e_impl_within_ok entsOK_nil) lentsOK_nil ?_⟩
  have hq := q_impl_IsValidTable_1 x0
  rw [c_impl_IsValidTable_1_bind] at hq
  rw [show c_impl_IsValidTable_1 x0 some = some y from hy] at hq
  exact hq

/-! slices.IndexFunc[[]int,int], loop 2 -/
def c_slices_IndexFunc_L2 {R : Type} (F : List D → Int → Int → Option ((Int) ⊕ (Unit))) (x0 : List D) (x1 : Int) (x2 : Int) (k : (Int) ⊕ (Unit) → Option R) : Option R :=
  bif Decidable.decide (x2 < x1) then
    if (0 : Int) ≤ x2 ∧ x2 < (↑x0.length : Int) then
      (impl_IsValidTable_1 ((x0.getD x2.toNat (Go.Rai.D.int (0 : Int))).toInt)).bind (fun y0 =>
        bif y0 then
          k (.inl x2)
        else
          (F x0 x1 (Go.IntKind.i64.wrap (x2 + (1 : Int)))).bind k)
    else
      none
  else
    k (.inr ())
theorem c_slices_IndexFunc_L2_bind {R : Type} (F : List D → Int → Int → Option ((Int) ⊕ (Unit))) (x0 : List D) (x1 : Int) (x2 : Int) (k : (Int) ⊕ (Unit) → Option R) : c_slices_IndexFunc_L2 F x0 x1 x2 k = (c_slices_IndexFunc_L2 F x0 x1 x2 some).bind k := by
  unfold c_slices_IndexFunc_L2
  repeat' first
    | exact bnd_tail
    | exact bnd_none
    | exact bnd_leaf
    | apply bnd_ite
    | apply bnd_cond
    | apply bnd_sum
    | (apply bnd_bind; intro _)
    | intro _
def n_slices_IndexFunc_L2 : Nat → List D → Int → Int → Option ((Int) ⊕ (Unit))
  | 0, _, _, _ => none
  | n + 1, x0, x1, x2 => c_slices_IndexFunc_L2 (n_slices_IndexFunc_L2 n) x0 x1 x2 some
noncomputable def slices_IndexFunc_L2 (x0 : List D) (x1 : Int) (x2 : Int) : Option ((Int) ⊕ (Unit)) := ev (fun n => n_slices_IndexFunc_L2 n x0 x1 x2)
def m_slices_IndexFunc_L2 (F : List D → Int → Int → Option ((Int) ⊕ (Unit))) : Lent := ⟨2, ⟨[.rd (.int .i64), .fn 70 [], .undef, .undef, .undef, .undef, .undef, .int .i64, .int .i64, .undef, .undef, .undef, .undef, .undef, .undef, .undef, .undef, .undef, .undef], []⟩, [(.ret, ⟨[.undef, .undef, .undef, .undef, .int .i64, .undef, .undef, .undef, .undef, .undef, .undef, .undef, .undef, .undef, .undef, .undef, .undef, .undef, .undef], []⟩), (.exit 0, ⟨[.undef, .undef, .undef, .undef, .undef, .undef, .undef, .undef, .undef, .undef, .undef, .undef, .undef, .undef, .undef, .undef, .undef, .undef, .undef], []⟩)], fun _ ds k => dL (fun x0 ds => dI (fun x1 ds => dI (fun x2 ds => dE ((F x0 x1 x2).bind (Sum.elim (fun y => k 0 [.I y]) (fun y => k 1 []))) ds) ds) ds) ds⟩
theorem q_slices_IndexFunc_L2 (F : List D → Int → Int → Option ((Int) ⊕ (Unit))) (x0 : List D) (x1 : Int) (x2 : Int) : runLoop (ocOf [e_impl_IsValidTable_1]) (olOf [m_slices_IndexFunc_L2 F]) A 79 (codeAt (bodyOf Go.Proofs.Try.f79) 2) ((m_slices_IndexFunc_L2 F).sh.mk' [.L x0, .I x1, .I x2]) (fun e σ' => some (e, σ')) = c_slices_IndexFunc_L2 F x0 x1 x2 (Sum.elim (fun y => some (.ret, SSt.mk' ⟨[.undef, .undef, .undef, .undef, .int .i64, .undef, .undef, .undef, .undef, .undef, .undef, .undef, .undef, .undef, .undef, .undef, .undef, .undef, .undef], []⟩ [.I y])) (fun y => some (.exit 0, SSt.mk' ⟨[.undef, .undef, .undef, .undef, .undef, .undef, .undef, .undef, .undef, .undef, .undef, .undef, .undef, .undef, .undef, .undef, .undef, .undef, .undef], []⟩ []))) := by kernel_rfl
theorem m_slices_IndexFunc_L2_ok : ∀ n, (m_slices_IndexFunc_L2 (n_slices_IndexFunc_L2 n)).ok Go.Proofs.Try.prog (codeAt (bodyOf Go.Proofs.Try.f79) 2) := by
  intro n
  induction n with
  | zero =>
    intro R ds k r h
    unfold m_slices_IndexFunc_L2 at h
    obtain ⟨x0, d0, rfl, h0⟩ := dL_some h
    obtain ⟨x1, d1, rfl, h1⟩ := dI_some h0
    obtain ⟨x2, d2, rfl, h2⟩ := dI_some h1
    obtain ⟨rfl, hE⟩ := dE_some h2
    obtain ⟨y, hy, hk⟩ := bnd_some hE
    cases hy
  | succ n ih =>
    intro R ds k r h
    unfold m_slices_IndexFunc_L2 at h
    obtain ⟨x0, d0, rfl, h0⟩ := dL_some h
    obtain ⟨x1, d1, rfl, h1⟩ := dI_some h0
    obtain ⟨x2, d2, rfl, h2⟩ := dI_some h1
    obtain ⟨rfl, hE⟩ := dE_some h2
    obtain ⟨y, hy, hk⟩ := bnd_some hE
    have hq := q_slices_IndexFunc_L2 (n_slices_IndexFunc_L2 n) x0 x1 x2
    rw [c_slices_IndexFunc_L2_bind] at hq
    rw [show c_slices_IndexFunc_L2 (n_slices_IndexFunc_L2 n) x0 x1 x2 some = some y from hy] at hq
    cases y with
    | inl y =>
      refine ⟨0, _, _, _, hk, rfl, loop_ok px (fx := ⟨Go.Proofs.Try.func79, by kernel_rfl, by kernel_rfl⟩) (entsOK_cons e_impl_IsValidTable_1_ok entsOK_nil) (lentsOK_cons ih lentsOK_nil) (by kernel_rfl) ?_⟩
      exact hq
    | inr y =>
      refine ⟨1, _, _, _, hk, rfl, loop_ok px (fx := ⟨Go.Proofs.Try.func79, by kernel_rfl, by kernel_rfl⟩) (entsOK_cons e_impl_IsValidTable_1_ok entsOK_nil) (lentsOK_cons ih lentsOK_nil) (by kernel_rfl) ?_⟩
      exact hq
noncomputable def e_slices_IndexFunc_L2 : Lent := m_slices_IndexFunc_L2 (slices_IndexFunc_L2)
theorem e_slices_IndexFunc_L2_ok : (e_slices_IndexFunc_L2).ok Go.Proofs.Try.prog (codeAt (bodyOf Go.Proofs.Try.f79) 2) := by
  intro R ds k r h
  unfold e_slices_IndexFunc_L2 m_slices_IndexFunc_L2 at h
  obtain ⟨x0, d0, rfl, h0⟩ := dL_some h
  obtain ⟨x1, d1, rfl, h1⟩ := dI_some h0
  obtain ⟨x2, d2, rfl, h2⟩ := dI_some h1
  obtain ⟨rfl, hE⟩ := dE_some h2
  obtain ⟨y, hy, hk⟩ := bnd_some hE
  obtain ⟨n, hn⟩ := ev_some hy
  exact m_slices_IndexFunc_L2_ok n R _ k r (show (n_slices_IndexFunc_L2 n x0 x1 x2).bind _ = _ by rw [hn]; exact hk)

/-! slices.IndexFunc[[]int,int] -/
def c_slices_IndexFunc__impl_IsValidTable_1 {R : Type} (x0 : List D) (k : Int → Option R) : Option R :=
  (slices_IndexFunc_L2 x0 (↑x0.length : Int) (0 : Int)).bind (Sum.elim (fun y0 =>
    k y0) (fun y1 =>
    k (-1 : Int)))
theorem c_slices_IndexFunc__impl_IsValidTable_1_bind {R : Type} (x0 : List D) (k : Int → Option R) : c_slices_IndexFunc__impl_IsValidTable_1 x0 k = (c_slices_IndexFunc__impl_IsValidTable_1 x0 some).bind k := by
  unfold c_slices_IndexFunc__impl_IsValidTable_1
  repeat' first
    | exact bnd_tail
    | exact bnd_none
    | exact bnd_leaf
    | apply bnd_ite
    | apply bnd_cond
    | apply bnd_sum
    | (apply bnd_bind; intro _)
    | intro _
def slices_IndexFunc__impl_IsValidTable_1 (x0 : List D) : Option (Int) := c_slices_IndexFunc__impl_IsValidTable_1 x0 some
def e_slices_IndexFunc__impl_IsValidTable_1 : Ent := ⟨79, [.rd (.int .i64), .fn 70 []], .int .i64, [.undef, .undef], fun _ ds k => dL (fun x0 ds => dE ((slices_IndexFunc__impl_IsValidTable_1 x0).bind (fun y => k [.I y])) ds) ds⟩
theorem q_slices_IndexFunc__impl_IsValidTable_1 (x0 : List D) : runFn (ocOf []) (olOf [e_slices_IndexFunc_L2]) A 79 Go.Proofs.Try.f79 (Sh.mks e_slices_IndexFunc__impl_IsValidTable_1.sh [.L x0]).1 (fun v os => some (v, os)) = c_slices_IndexFunc__impl_IsValidTable_1 x0 (fun y => some ((e_slices_IndexFunc__impl_IsValidTable_1.res.mk [.I y]).1, (Sh.mks e_slices_IndexFunc__impl_IsValidTable_1.outs (e_slices_IndexFunc__impl_IsValidTable_1.res.mk [.I y]).2).1)) := by kernel_rfl
theorem e_slices_IndexFunc__impl_IsValidTable_1_ok : e_slices_IndexFunc__impl_IsValidTable_1.ok Go.Proofs.Try.prog A := by
  intro R ds k r h
  unfold e_slices_IndexFunc__impl_IsValidTable_1 at h
  obtain ⟨x0, d0, rfl, h0⟩ := dL_some h
  obtain ⟨rfl, hE⟩ := dE_some h0
  obtain ⟨y, hy, hk⟩ := bnd_some hE
  refine ⟨_, hk, fn_ok px (fx := ⟨Go.Proofs.Try.func79, by kernel_rfl, by kernel_rfl⟩) entsOK_nil (lentsOK_cons e_slices_IndexFunc_L2_ok lentsOK_nil) ?_⟩
  have hq := q_slices_IndexFunc__impl_IsValidTable_1 x0
  rw [c_slices_IndexFunc__impl_IsValidTable_1_bind] at hq
  rw [show c_slices_IndexFunc__impl_IsValidTable_1 x0 some = some y from hy] at hq
  exact hq

/-! slices.ContainsFunc[[]int,int] -/
def c_slices_ContainsFunc__impl_IsValidTable_1 {R : Type} (x0 : List D) (k : Bool → Option R) : Option R :=
  (slices_IndexFunc__impl_IsValidTable_1 x0).bind (fun y0 =>
    k (Decidable.decide ((0 : Int) ≤ y0)))
theorem c_slices_ContainsFunc__impl_IsValidTable_1_bind {R : Type} (x0 : List D) (k : Bool → Option R) : c_slices_ContainsFunc__impl_IsValidTable_1 x0 k = (c_slices_ContainsFunc__impl_IsValidTable_1 x0 some).bind k := by
  unfold c_slices_ContainsFunc__impl_IsValidTable_1
  repeat' first
    | exact bnd_tail
    | exact bnd_none
    | exact bnd_leaf
    | apply bnd_ite
    | apply bnd_cond
    | apply bnd_sum
    | (apply bnd_bind; intro _)
    | intro _
def slices_ContainsFunc__impl_IsValidTable_1 (x0 : List D) : Option (Bool) := c_slices_ContainsFunc__impl_IsValidTable_1 x0 some
def e_slices_ContainsFunc__impl_IsValidTable_1 : Ent := ⟨69, [.rd (.int .i64), .fn 70 []], .bool, [.undef, .undef], fun _ ds k => dL (fun x0 ds => dE ((slices_ContainsFunc__impl_IsValidTable_1 x0).bind (fun y => k [.B y])) ds) ds⟩
theorem q_slices_ContainsFunc__impl_IsValidTable_1 (x0 : List D) : runFn (ocOf [e_slices_IndexFunc__impl_IsValidTable_1]) (olOf []) A 69 Go.Proofs.Try.f69 (Sh.mks e_slices_ContainsFunc__impl_IsValidTable_1.sh [.L x0]).1 (fun v os => some (v, os)) = c_slices_ContainsFunc__impl_IsValidTable_1 x0 (fun y => some ((e_slices_ContainsFunc__impl_IsValidTable_1.res.mk [.B y]).1, (Sh.mks e_slices_ContainsFunc__impl_IsValidTable_1.outs (e_slices_ContainsFunc__impl_IsValidTable_1.res.mk [.B y]).2).1)) := by kernel_rfl
theorem e_slices_ContainsFunc__impl_IsValidTable_1_ok : e_slices_ContainsFunc__impl_IsValidTable_1.ok Go.Proofs.Try.prog A := by
  intro R ds k r h
  unfold e_slices_ContainsFunc__impl_IsValidTable_1 at h
  obtain ⟨x0, d0, rfl, h0⟩ := dL_some h
  obtain ⟨rfl, hE⟩ := dE_some h0
  obtain ⟨y, hy, hk⟩ := bnd_some hE
  refine ⟨_, hk, fn_ok px (fx := ⟨Go.Proofs.Try.func69, by kernel_rfl, by kernel_rfl⟩) (entsOK_cons e_slices_IndexFunc__impl_IsValidTable_1_ok entsOK_nil) lentsOK_nil ?_⟩
  have hq := q_slices_ContainsFunc__impl_IsValidTable_1 x0
  rw [c_slices_ContainsFunc__impl_IsValidTable_1_bind] at hq
  rw [show c_slices_ContainsFunc__impl_IsValidTable_1 x0 some = some y from hy] at hq
  exact hq

/-! loop.example/g00876/impl.IsValidTable, loop 4 -/
def c_impl_IsValidTable_L4 {R : Type} (F : List D → Int → Int → List D → Option ((Bool) ⊕ (Unit))) (x0 : List D) (x1 : Int) (x2 : Int) (x3 : List D) (k : (Bool) ⊕ (Unit) → Option R) : Option R :=
  bif Decidable.decide (x2 < x1) then
    if (0 : Int) ≤ x2 ∧ x2 < (↑x0.length : Int) then
      (impl_within (↑(x0.getD x2.toNat (Go.Rai.D.int (0 : Int))).items.length : Int) (1 : Int) (10 : Int)).bind (fun y0 =>
        bif !y0 then
          k (.inl Bool.false)
        else
          if (0 : Int) ≤ (0 : Int) ∧ (0 : Int) < (↑x3.length : Int) then
            bif !Decidable.decide ((↑(x0.getD x2.toNat (Go.Rai.D.int (0 : Int))).items.length : Int) = (↑(x3.getD (Int.toNat (0 : Int)) (Go.Rai.D.int (0 : Int))).items.length : Int)) then
              k (.inl Bool.false)
            else
              (slices_ContainsFunc__impl_IsValidTable_1 ((x0.getD x2.toNat (Go.Rai.D.int (0 : Int))).items)).bind (fun y1 =>
                bif y1 then
                  k (.inl Bool.false)
                else
                  (F x0 x1 (Go.IntKind.i64.wrap (x2 + (1 : Int))) x3).bind k)
          else
            none)
    else
      none
  else
    k (.inr ())
theorem c_impl_IsValidTable_L4_bind {R : Type} (F : List D → Int → Int → List D → Option ((Bool) ⊕ (Unit))) (x0 : List D) (x1 : Int) (x2 : Int) (x3 : List D) (k : (Bool) ⊕ (Unit) → Option R) : c_impl_IsValidTable_L4 F x0 x1 x2 x3 k = (c_impl_IsValidTable_L4 F x0 x1 x2 x3 some).bind k := by
  unfold c_impl_IsValidTable_L4
  repeat' first
    | exact bnd_tail
    | exact bnd_none
    | exact bnd_leaf
    | apply bnd_ite
    | apply bnd_cond
    | apply bnd_sum
    | (apply bnd_bind; intro _)
    | intro _
def n_impl_IsValidTable_L4 : Nat → List D → Int → Int → List D → Option ((Bool) ⊕ (Unit))
  | 0, _, _, _, _ => none
  | n + 1, x0, x1, x2, x3 => c_impl_IsValidTable_L4 (n_impl_IsValidTable_L4 n) x0 x1 x2 x3 some
noncomputable def impl_IsValidTable_L4 (x0 : List D) (x1 : Int) (x2 : Int) (x3 : List D) : Option ((Bool) ⊕ (Unit)) := ev (fun n => n_impl_IsValidTable_L4 n x0 x1 x2 x3)
def m_impl_IsValidTable_L4 (F : List D → Int → Int → List D → Option ((Bool) ⊕ (Unit))) : Lent := ⟨4, ⟨[.undef, .ptr 1000 [0], .undef, .undef, .undef, .undef, .undef, .undef, .undef, .undef, .undef, .rd (.slice (.int .i64)), .int .i64, .int .i64, .undef, .undef, .undef, .undef, .undef, .undef, .undef, .undef, .undef, .undef, .undef, .undef, .undef, .undef, .undef, .undef, .undef, .undef, .undef, .undef, .undef, .undef], [(1000, .obox (.agg [.rd (.slice (.int .i64))]))]⟩, [(.ret, ⟨[.undef, .undef, .bool, .undef, .undef, .undef, .undef, .undef, .undef, .undef, .undef, .undef, .undef, .undef, .undef, .undef, .undef, .undef, .undef, .undef, .undef, .undef, .undef, .undef, .undef, .undef, .undef, .undef, .undef, .undef, .undef, .undef, .undef, .undef, .undef, .undef], []⟩), (.exit 0, ⟨[.undef, .undef, .undef, .undef, .undef, .undef, .undef, .undef, .undef, .undef, .undef, .undef, .undef, .undef, .undef, .undef, .undef, .undef, .undef, .undef, .undef, .undef, .undef, .undef, .undef, .undef, .undef, .undef, .undef, .undef, .undef, .undef, .undef, .undef, .undef, .undef], []⟩)], fun _ ds k => dL (fun x0 ds => dI (fun x1 ds => dI (fun x2 ds => dL (fun x3 ds => dE ((F x0 x1 x2 x3).bind (Sum.elim (fun y => k 0 [.B y]) (fun y => k 1 []))) ds) ds) ds) ds) ds⟩
theorem q_impl_IsValidTable_L4 (F : List D → Int → Int → List D → Option ((Bool) ⊕ (Unit))) (x0 : List D) (x1 : Int) (x2 : Int) (x3 : List D) : runLoop (ocOf [e_impl_within, e_slices_ContainsFunc__impl_IsValidTable_1]) (olOf [m_impl_IsValidTable_L4 F]) A 43 (codeAt (bodyOf Go.Proofs.Try.f43) 4) ((m_impl_IsValidTable_L4 F).sh.mk' [.L x0, .I x1, .I x2, .L x3]) (fun e σ' => some (e, σ')) = c_impl_IsValidTable_L4 F x0 x1 x2 x3 (Sum.elim (fun y => some (.ret, SSt.mk' ⟨[.undef, .undef, .bool, .undef, .undef, .undef, .undef, .undef, .undef, .undef, .undef, .undef, .undef, .undef, .undef, .undef, .undef, .undef, .undef, .undef, .undef, .undef, .undef, .undef, .undef, .undef, .undef, .undef, .undef, .undef, .undef, .undef, .undef, .undef, .undef, .undef], []⟩ [.B y])) (fun y => some (.exit 0, SSt.mk' ⟨[.undef, .undef, .undef, .undef, .undef, .undef, .undef, .undef, .undef, .undef, .undef, .undef, .undef, .undef, .undef, .undef, .undef, .undef, .undef, .undef, .undef, .undef, .undef, .undef, .undef, .undef, .undef, .undef, .undef, .undef, .undef, .undef, .undef, .undef, .undef, .undef], []⟩ []))) := by kernel_rfl
theorem m_impl_IsValidTable_L4_ok : ∀ n, (m_impl_IsValidTable_L4 (n_impl_IsValidTable_L4 n)).ok Go.Proofs.Try.prog (codeAt (bodyOf Go.Proofs.Try.f43) 4) := by
  intro n
  induction n with
  | zero =>
    intro R ds k r h
    unfold m_impl_IsValidTable_L4 at h
    obtain ⟨x0, d0, rfl, h0⟩ := dL_some h
    obtain ⟨x1, d1, rfl, h1⟩ := dI_some h0
    obtain ⟨x2, d2, rfl, h2⟩ := dI_some h1
    obtain ⟨x3, d3, rfl, h3⟩ := dL_some h2
    obtain ⟨rfl, hE⟩ := dE_some h3
    obtain ⟨y, hy, hk⟩ := bnd_some hE
    cases hy
  | succ n ih =>
    intro R ds k r h
    unfold m_impl_IsValidTable_L4 at h
    obtain ⟨x0, d0, rfl, h0⟩ := dL_some h
    obtain ⟨x1, d1, rfl, h1⟩ := dI_some h0
    obtain ⟨x2, d2, rfl, h2⟩ := dI_some h1
    obtain ⟨x3, d3, rfl, h3⟩ := dL_some h2
    obtain ⟨rfl, hE⟩ := dE_some h3
    obtain ⟨y, hy, hk⟩ := bnd_some hE
    have hq := q_impl_IsValidTable_L4 (n_impl_IsValidTable_L4 n) x0 x1 x2 x3
    rw [c_impl_IsValidTable_L4_bind] at hq
    rw [show c_impl_IsValidTable_L4 (n_impl_IsValidTable_L4 n) x0 x1 x2 x3 some = some y from hy] at hq
    cases y with
    | inl y =>
      refine ⟨0, _, _, _, hk, rfl, loop_ok px (fx := ⟨Go.Proofs.Try.func43, by kernel_rfl, by kernel_rfl⟩) (entsOK_cons e_impl_within_ok (entsOK_cons e_slices_ContainsFunc__impl_IsValidTable_1_ok entsOK_nil)) (lentsOK_cons ih lentsOK_nil) (by kernel_rfl) ?_⟩
      exact hq
    | inr y =>
      refine ⟨1, _, _, _, hk, rfl, loop_ok px (fx := ⟨Go.Proofs.Try.func43, by kernel_rfl, by kernel_rfl⟩) (entsOK_cons e_impl_within_ok (entsOK_cons e_slices_ContainsFunc__impl_IsValidTable_1_ok entsOK_nil)) (lentsOK_cons ih lentsOK_nil) (by kernel_rfl) ?_⟩
      exact hq
noncomputable def e_impl_IsValidTable_L4 : Lent := m_impl_IsValidTable_L4 (impl_IsValidTable_L4)
theorem e_impl_IsValidTable_L4_ok : (e_impl_IsValidTable_L4).ok Go.Proofs.Try.prog (codeAt (bodyOf Go.Proofs.Try.f43) 4) := by
  intro R ds k r h
  unfold e_impl_IsValidTable_L4 m_impl_IsValidTable_L4 at h
  obtain ⟨x0, d0, rfl, h0⟩ := dL_some h
  obtain ⟨x1, d1, rfl, h1⟩ := dI_some h0
  obtain ⟨x2, d2, rfl, h2⟩ := dI_some h1
  obtain ⟨x3, d3, rfl, h3⟩ := dL_some h2
  obtain ⟨rfl, hE⟩ := dE_some h3
  obtain ⟨y, hy, hk⟩ := bnd_some hE
  obtain ⟨n, hn⟩ := ev_some hy
  exact m_impl_IsValidTable_L4_ok n R _ k r (show (n_impl_IsValidTable_L4 n x0 x1 x2 x3).bind _ = _ by rw [hn]; exact hk)

/-! loop.example/g00876/impl.IsValidTable -/
def c_impl_IsValidTable {R : Type} (x0 : List D) (k : Bool → Option R) : Option R :=
  (impl_within (↑x0.length : Int) (1 : Int) (7 : Int)).bind (fun y0 =>
    bif !y0 then
      k Bool.false
    else
      (impl_IsValidTable_L4 x0 (↑x0.length : Int) (0 : Int) x0).bind (Sum.elim (fun y1 =>
        k y1) (fun y2 =>
        k Bool.true)))
theorem c_impl_IsValidTable_bind {R : Type} (x0 : List D) (k : Bool → Option R) : c_impl_IsValidTable x0 k = (c_impl_IsValidTable x0 some).bind k := by
  unfold c_impl_IsValidTable
  repeat' first
    | exact bnd_tail
    | exact bnd_none
    | exact bnd_leaf
    | apply bnd_ite
    | apply bnd_cond
    | apply bnd_sum
    | (apply bnd_bind; intro _)
    | intro _
def impl_IsValidTable (x0 : List D) : Option (Bool) := c_impl_IsValidTable x0 some
def e_impl_IsValidTable : Ent := ⟨43, [.agg [.rd (.slice (.int .i64))]], .bool, [.undef], fun _ ds k => dL (fun x0 ds => dE ((impl_IsValidTable x0).bind (fun y => k [.B y])) ds) ds⟩
theorem q_impl_IsValidTable (x0 : List D) : runFn (ocOf [e_impl_within]) (olOf [e_impl_IsValidTable_L4]) A 43 Go.Proofs.Try.f43 (Sh.mks e_impl_IsValidTable.sh [.L x0]).1 (fun v os => some (v, os)) = c_impl_IsValidTable x0 (fun y => some ((e_impl_IsValidTable.res.mk [.B y]).1, (Sh.mks e_impl_IsValidTable.outs (e_impl_IsValidTable.res.mk [.B y]).2).1)) := by kernel_rfl
theorem e_impl_IsValidTable_ok : e_impl_IsValidTable.ok Go.Proofs.Try.prog A := by
  intro R ds k r h
  unfold e_impl_IsValidTable at h
  obtain ⟨x0, d0, rfl, h0⟩ := dL_some h
  obtain ⟨rfl, hE⟩ := dE_some h0
  obtain ⟨y, hy, hk⟩ := bnd_some hE
  refine ⟨_, hk, fn_ok px (fx := ⟨Go.Proofs.Try.func43, by kernel_rfl, by kernel_rfl⟩) (entsOK_cons e_impl_within_ok entsOK_nil) (lentsOK_cons e_impl_IsValidTable_L4_ok lentsOK_nil) ?_⟩
  have hq := q_impl_IsValidTable x0
  rw [c_impl_IsValidTable_bind] at hq
  rw [show c_impl_IsValidTable x0 some = some y from hy] at hq
  exact hq

/-! loop.example/g00876/impl.sumOf, loop 3 -/
def c_impl_sumOf_L3 {R : Type} (F : Int → List D → Int → Int → Option (Int)) (x0 : Int) (x1 : List D) (x2 : Int) (x3 : Int) (k : Int → Option R) : Option R :=
  bif Decidable.decide (x3 < x2) then
    if (0 : Int) ≤ x3 ∧ x3 < (↑x1.length : Int) then
      (F (Go.IntKind.i64.wrap (x0 + (x1.getD x3.toNat (Go.Rai.D.int (0 : Int))).toInt)) x1 x2 (Go.IntKind.i64.wrap (x3 + (1 : Int)))).bind k
    else
      none
  else
    k x0
theorem c_impl_sumOf_L3_bind {R : Type} (F : Int → List D → Int → Int → Option (Int)) (x0 : Int) (x1 : List D) (x2 : Int) (x3 : Int) (k : Int → Option R) : c_impl_sumOf_L3 F x0 x1 x2 x3 k = (c_impl_sumOf_L3 F x0 x1 x2 x3 some).bind k := by
  unfold c_impl_sumOf_L3
  repeat' first
    | exact bnd_tail
    | exact bnd_none
    | exact bnd_leaf
    | apply bnd_ite
    | apply bnd_cond
    | apply bnd_sum
    | (apply bnd_bind; intro _)
    | intro _
def n_impl_sumOf_L3 : Nat → Int → List D → Int → Int → Option (Int)
  | 0, _, _, _, _ => none
  | n + 1, x0, x1, x2, x3 => c_impl_sumOf_L3 (n_impl_sumOf_L3 n) x0 x1 x2 x3 some
noncomputable def impl_sumOf_L3 (x0 : Int) (x1 : List D) (x2 : Int) (x3 : Int) : Option (Int) := ev (fun n => n_impl_sumOf_L3 n x0 x1 x2 x3)
def m_impl_sumOf_L3 (F : Int → List D → Int → Int → Option (Int)) : Lent := ⟨3, ⟨[.undef, .undef, .undef, .int .i64, .undef, .undef, .rd (.int .i64), .int .i64, .int .i64, .undef, .undef, .undef, .undef, .undef, .undef, .undef, .undef], []⟩, [(.exit 0, ⟨[.undef, .undef, .undef, .int .i64, .undef, .undef, .undef, .undef, .undef, .undef, .undef, .undef, .undef, .undef, .undef, .undef, .undef], []⟩)], fun _ ds k => dI (fun x0 ds => dL (fun x1 ds => dI (fun x2 ds => dI (fun x3 ds => dE ((F x0 x1 x2 x3).bind (fun y => k 0 [.I y])) ds) ds) ds) ds) ds⟩
theorem q_impl_sumOf_L3 (F : Int → List D → Int → Int → Option (Int)) (x0 : Int) (x1 : List D) (x2 : Int) (x3 : Int) : runLoop (ocOf []) (olOf [m_impl_sumOf_L3 F]) A 64 (codeAt (bodyOf Go.Proofs.Try.f64) 3) ((m_impl_sumOf_L3 F).sh.mk' [.I x0, .L x1, .I x2, .I x3]) (fun e σ' => some (e, σ')) = c_impl_sumOf_L3 F x0 x1 x2 x3 (fun y => some (.exit 0, SSt.mk' ⟨[.undef, .undef, .undef, .int .i64, .undef, .undef, .undef, .undef, .undef, .undef, .undef, .undef, .undef, .undef, .undef, .undef, .undef], []⟩ [.I y])) := by kernel_rfl
theorem m_impl_sumOf_L3_ok : ∀ n, (m_impl_sumOf_L3 (n_impl_sumOf_L3 n)).ok Go.Proofs.Try.prog (codeAt (bodyOf Go.Proofs.Try.f64) 3) := by
  intro n
  induction n with
  | zero =>
    intro R ds k r h
    unfold m_impl_sumOf_L3 at h
    obtain ⟨x0, d0, rfl, h0⟩ := dI_some h
    obtain ⟨x1, d1, rfl, h1⟩ := dL_some h0
    obtain ⟨x2, d2, rfl, h2⟩ := dI_some h1
    obtain ⟨x3, d3, rfl, h3⟩ := dI_some h2
    obtain ⟨rfl, hE⟩ := dE_some h3
    obtain ⟨y, hy, hk⟩ := bnd_some hE
    cases hy
  | succ n ih =>
    intro R ds k r h
    unfold m_impl_sumOf_L3 at h
    obtain ⟨x0, d0, rfl, h0⟩ := dI_some h
    obtain ⟨x1, d1, rfl, h1⟩ := dL_some h0
    obtain ⟨x2, d2, rfl, h2⟩ := dI_some h1
    obtain ⟨x3, d3, rfl, h3⟩ := dI_some h2
    obtain ⟨rfl, hE⟩ := dE_some h3
    obtain ⟨y, hy, hk⟩ := bnd_some hE
    have hq := q_impl_sumOf_L3 (n_impl_sumOf_L3 n) x0 x1 x2 x3
    rw [c_impl_sumOf_L3_bind] at hq
    rw [show c_impl_sumOf_L3 (n_impl_sumOf_L3 n) x0 x1 x2 x3 some = some y from hy] at hq
    refine ⟨0, _, _, _, hk, rfl, loop_ok px (fx := ⟨Go.Proofs.Try.func64, by kernel_rfl, by kernel_rfl⟩) entsOK_nil (lentsOK_cons ih lentsOK_nil) (by kernel_rfl) ?_⟩
    exact hq
noncomputable def e_impl_sumOf_L3 : Lent := m_impl_sumOf_L3 (impl_sumOf_L3)
theorem e_impl_sumOf_L3_ok : (e_impl_sumOf_L3).ok Go.Proofs.Try.prog (codeAt (bodyOf Go.Proofs.Try.f64) 3) := by
  intro R ds k r h
  unfold e_impl_sumOf_L3 m_impl_sumOf_L3 at h
  obtain ⟨x0, d0, rfl, h0⟩ := dI_some h
  obtain ⟨x1, d1, rfl, h1⟩ := dL_some h0
  obtain ⟨x2, d2, rfl, h2⟩ := dI_some h1
  obtain ⟨x3, d3, rfl, h3⟩ := dI_some h2
  obtain ⟨rfl, hE⟩ := dE_some h3
  obtain ⟨y, hy, hk⟩ := bnd_some hE
  obtain ⟨n, hn⟩ := ev_some hy
  exact m_impl_sumOf_L3_ok n R _ k r (show (n_impl_sumOf_L3 n x0 x1 x2 x3).bind _ = _ by rw [hn]; exact hk)

/-! loop.example/g00876/impl.sumOf -/
def c_impl_sumOf {R : Type} (x0 : List D) (k : Int → Option R) : Option R :=
  (impl_sumOf_L3 (0 : Int) x0 (↑x0.length : Int) (0 : Int)).bind (fun y0 =>
    k y0)
theorem c_impl_sumOf_bind {R : Type} (x0 : List D) (k : Int → Option R) : c_impl_sumOf x0 k = (c_impl_sumOf x0 some).bind k := by
  unfold c_impl_sumOf
  repeat' first
    | exact bnd_tail
    | exact bnd_none
    | exact bnd_leaf
    | apply bnd_ite
    | apply bnd_cond
    | apply bnd_sum
    | (apply bnd_bind; intro _)
    | intro _
def impl_sumOf (x0 : List D) : Option (Int) := c_impl_sumOf x0 some
def e_impl_sumOf : Ent := ⟨64, [.rd (.int .i64)], .int .i64, [.undef], fun _ ds k => dL (fun x0 ds => dE ((impl_sumOf x0).bind (fun y => k [.I y])) ds) ds⟩
theorem q_impl_sumOf (x0 : List D) : runFn (ocOf []) (olOf [e_impl_sumOf_L3]) A 64 Go.Proofs.Try.f64 (Sh.mks e_impl_sumOf.sh [.L x0]).1 (fun v os => some (v, os)) = c_impl_sumOf x0 (fun y => some ((e_impl_sumOf.res.mk [.I y]).1, (Sh.mks e_impl_sumOf.outs (e_impl_sumOf.res.mk [.I y]).2).1)) := by kernel_rfl
theorem e_impl_sumOf_ok : e_impl_sumOf.ok Go.Proofs.Try.prog A := by
  intro R ds k r h
  unfold e_impl_sumOf at h
  obtain ⟨x0, d0, rfl, h0⟩ := dL_some h
  obtain ⟨rfl, hE⟩ := dE_some h0
  obtain ⟨y, hy, hk⟩ := bnd_some hE
  refine ⟨_, hk, fn_ok px (fx := ⟨Go.Proofs.Try.func64, by kernel_rfl, by kernel_rfl⟩) entsOK_nil (lentsOK_cons e_impl_sumOf_L3_ok lentsOK_nil) ?_⟩
  have hq := q_impl_sumOf x0
  rw [c_impl_sumOf_bind] at hq
  rw [show c_impl_sumOf x0 some = some y from hy] at hq
  exact hq

/-! loop.example/g00876/impl.distance$1 -/
def c_impl_distance_1 {R : Type} (x0 : Int) (x1 : Int) (x2 : List D) (k : Int → Option R) : Option R :=
  if (0 : Int) ≤ x0 ∧ x0 < (↑x2.length : Int) then
    (impl_sumOf ((x2.getD x0.toNat (Go.Rai.D.int (0 : Int))).items)).bind (fun y0 =>
      bif Decidable.decide (y0 = (0 : Int)) then
        k (0 : Int)
      else
        if (0 : Int) ≤ x0 ∧ x0 < (↑x2.length : Int) then
          if (0 : Int) ≤ x1 ∧ x1 < (↑(x2.getD x0.toNat (Go.Rai.D.int (0 : Int))).items.length : Int) then
            if y0 ≠ (0 : Int) then
              k (Go.IntKind.i64.wrap ((Go.IntKind.i64.wrap ((1000 : Int) * ((x2.getD x0.toNat (Go.Rai.D.int (0 : Int))).items.getD x1.toNat (Go.Rai.D.int (0 : Int))).toInt)).tdiv y0))
            else
              none
          else
            none
        else
          none)
  else
    none
theorem c_impl_distance_1_bind {R : Type} (x0 : Int) (x1 : Int) (x2 : List D) (k : Int → Option R) : c_impl_distance_1 x0 x1 x2 k = (c_impl_distance_1 x0 x1 x2 some).bind k := by
  unfold c_impl_distance_1
  repeat' first
    | exact bnd_tail
    | exact bnd_none
    | exact bnd_leaf
    | apply bnd_ite
    | apply bnd_cond
    | apply bnd_sum
    | (apply bnd_bind; intro _)
    | intro _
def impl_distance_1 (x0 : Int) (x1 : Int) (x2 : List D) : Option (Int) := c_impl_distance_1 x0 x1 x2 some
def e_impl_distance_1 : Ent := ⟨71, [.int .i64, .int .i64, .rp (.agg [.rd (.slice (.int .i64))])], .int .i64, [.undef, .undef, .undef], fun _ ds k => dI (fun x0 ds => dI (fun x1 ds => dL (fun x2 ds => dE ((impl_distance_1 x0 x1 x2).bind (fun y => k [.I y])) ds) ds) ds) ds⟩
theorem q_impl_distance_1 (x0 : Int) (x1 : Int) (x2 : List D) : runFn (ocOf [e_impl_sumOf]) (olOf []) A 71 Go.Proofs.Try.f71 (Sh.mks e_impl_distance_1.sh [.I x0, .I x1, .L x2]).1 (fun v os => some (v, os)) = c_impl_distance_1 x0 x1 x2 (fun y => some ((e_impl_distance_1.res.mk [.I y]).1, (Sh.mks e_impl_distance_1.outs (e_impl_distance_1.res.mk [.I y]).2).1)) := by kernel_rfl
theorem e_impl_distance_1_ok : e_impl_distance_1.ok Go.Proofs.Try.prog A := by
  intro R ds k r h
  unfold e_impl_distance_1 at h
  obtain ⟨x0, d0, rfl, h0⟩ := dI_some h
  obtain ⟨x1, d1, rfl, h1⟩ := dI_some h0
  obtain ⟨x2, d2, rfl, h2⟩ := dL_some h1
  obtain ⟨rfl, hE⟩ := dE_some h2
  obtain ⟨y, hy, hk⟩ := bnd_some hE
  refine ⟨_, hk, fn_ok px (fx := ⟨Go.Proofs.Try.func71, by kernel_rfl, by kernel_rfl⟩) (entsOK_cons e_impl_sumOf_ok entsOK_nil) lentsOK_nil ?_⟩
  have hq := q_impl_distance_1 x0 x1 x2
  rw [c_impl_distance_1_bind] at hq
  rw [show c_impl_distance_1 x0 x1 x2 some = some y from hy] at hq
  exact hq

/-! loop.example/g00876/impl.distance, loop 4 -/
def c_impl_distance_L4 {R : Type} (F : Int → Int → Int → Int → Int → List D → Option (Int)) (x0 : Int) (x1 : Int) (x2 : Int) (x3 : Int) (x4 : Int) (x5 : List D) (k : Int → Option R) : Option R :=
  bif Decidable.decide (x4 < x3) then
    (impl_distance_1 x0 x4 x5).bind (fun y0 =>
      (impl_distance_1 x1 x4 x5).bind (fun y1 =>
        (F x0 x1 (Go.IntKind.i64.wrap (x2 + if Go.IntKind.i64.wrap (y1 - y0) > Go.IntKind.i64.wrap (y0 - y1) then Go.IntKind.i64.wrap (y1 - y0) else Go.IntKind.i64.wrap (y0 - y1))) x3 (Go.IntKind.i64.wrap (x4 + (1 : Int))) x5).bind k))
  else
    k x2
theorem c_impl_distance_L4_bind {R : Type} (F : Int → Int → Int → Int → Int → List D → Option (Int)) (x0 : Int) (x1 : Int) (x2 : Int) (x3 : Int) (x4 : Int) (x5 : List D) (k : Int → Option R) : c_impl_distance_L4 F x0 x1 x2 x3 x4 x5 k = (c_impl_distance_L4 F x0 x1 x2 x3 x4 x5 some).bind k := by
  unfold c_impl_distance_L4
  repeat' first
    | exact bnd_tail
    | exact bnd_none
    | exact bnd_leaf
    | apply bnd_ite
    | apply bnd_cond
    | apply bnd_sum
    | (apply bnd_bind; intro _)
    | intro _
def n_impl_distance_L4 : Nat → Int → Int → Int → Int → Int → List D → Option (Int)
  | 0, _, _, _, _, _, _ => none
  | n + 1, x0, x1, x2, x3, x4, x5 => c_impl_distance_L4 (n_impl_distance_L4 n) x0 x1 x2 x3 x4 x5 some
noncomputable def impl_distance_L4 (x0 : Int) (x1 : Int) (x2 : Int) (x3 : Int) (x4 : Int) (x5 : List D) : Option (Int) := ev (fun n => n_impl_distance_L4 n x0 x1 x2 x3 x4 x5)
def m_impl_distance_L4 (F : Int → Int → Int → Int → Int → List D → Option (Int)) : Lent := ⟨4, ⟨[.undef, .int .i64, .int .i64, .undef, .undef, .undef, .undef, .fn 71 [.ptr 1000 [0]], .int .i64, .undef, .undef, .undef, .undef, .undef, .undef, .undef, .undef, .int .i64, .int .i64, .undef, .undef, .undef, .undef, .undef, .undef, .undef, .undef, .undef, .undef, .undef, .undef, .undef, .undef, .undef, .undef, .undef, .undef, .undef, .undef, .undef], [(1000, .obox (.agg [.rd (.slice (.int .i64))]))]⟩, [(.exit 0, ⟨[.undef, .undef, .undef, .undef, .undef, .undef, .undef, .undef, .int .i64, .undef, .undef, .undef, .undef, .undef, .undef, .undef, .undef, .undef, .undef, .undef, .undef, .undef, .undef, .undef, .undef, .undef, .undef, .undef, .undef, .undef, .undef, .undef, .undef, .undef, .undef, .undef, .undef, .undef, .undef, .undef], []⟩)], fun _ ds k => dI (fun x0 ds => dI (fun x1 ds => dI (fun x2 ds => dI (fun x3 ds => dI (fun x4 ds => dL (fun x5 ds => dE ((F x0 x1 x2 x3 x4 x5).bind (fun y => k 0 [.I y])) ds) ds) ds) ds) ds) ds) ds⟩
theorem q_impl_distance_L4 (F : Int → Int → Int → Int → Int → List D → Option (Int)) (x0 : Int) (x1 : Int) (x2 : Int) (x3 : Int) (x4 : Int) (x5 : List D) : runLoop (ocOf [e_impl_distance_1]) (olOf [m_impl_distance_L4 F]) A 45 (codeAt (bodyOf Go.Proofs.Try.f45) 4) ((m_impl_distance_L4 F).sh.mk' [.I x0, .I x1, .I x2, .I x3, .I x4, .L x5]) (fun e σ' => some (e, σ')) = c_impl_distance_L4 F x0 x1 x2 x3 x4 x5 (fun y => some (.exit 0, SSt.mk' ⟨[.undef, .undef, .undef, .undef, .undef, .undef, .undef, .undef, .int .i64, .undef, .undef, .undef, .undef, .undef, .undef, .undef, .undef, .undef, .undef, .undef, .undef, .undef, .undef, .undef, .undef, .undef, .undef, .undef, .undef, .undef, .undef, .undef, .undef, .undef, .undef, .undef, .undef, .undef, .undef, .undef], []⟩ [.I y])) := by kernel_rfl
theorem m_impl_distance_L4_ok : ∀ n, (m_impl_distance_L4 (n_impl_distance_L4 n)).ok Go.Proofs.Try.prog (codeAt (bodyOf Go.Proofs.Try.f45) 4) := by
  intro n
  induction n with
  | zero =>
    intro R ds k r h
    unfold m_impl_distance_L4 at h
    obtain ⟨x0, d0, rfl, h0⟩ := dI_some h
    obtain ⟨x1, d1, rfl, h1⟩ := dI_some h0
    obtain ⟨x2, d2, rfl, h2⟩ := dI_some h1
    obtain ⟨x3, d3, rfl, h3⟩ := dI_some h2
    obtain ⟨x4, d4, rfl, h4⟩ := dI_some h3
    obtain ⟨x5, d5, rfl, h5⟩ := dL_some h4
    obtain ⟨rfl, hE⟩ := dE_some h5
    obtain ⟨y, hy, hk⟩ := bnd_some hE
    cases hy
  | succ n ih =>
    intro R ds k r h
    unfold m_impl_distance_L4 at h
    obtain ⟨x0, d0, rfl, h0⟩ := dI_some h
    obtain ⟨x1, d1, rfl, h1⟩ := dI_some h0
    obtain ⟨x2, d2, rfl, h2⟩ := dI_some h1
    obtain ⟨x3, d3, rfl, h3⟩ := dI_some h2
    obtain ⟨x4, d4, rfl, h4⟩ := dI_some h3
    obtain ⟨x5, d5, rfl, h5⟩ := dL_some h4
    obtain ⟨rfl, hE⟩ := dE_some h5
    obtain ⟨y, hy, hk⟩ := bnd_some hE
    have hq := q_impl_distance_L4 (n_impl_distance_L4 n) x0 x1 x2 x3 x4 x5
    rw [c_impl_distance_L4_bind] at hq
    rw [show c_impl_distance_L4 (n_impl_distance_L4 n) x0 x1 x2 x3 x4 x5 some = some y from hy] at hq
    refine ⟨0, _, _, _, hk, rfl, loop_ok px (fx := ⟨Go.Proofs.Try.func45, by kernel_rfl, by kernel_rfl⟩) (entsOK_cons e_impl_distance_1_ok entsOK_nil) (lentsOK_cons ih lentsOK_nil) (by kernel_rfl) ?_⟩
    exact hq
noncomputable def e_impl_distance_L4 : Lent := m_impl_distance_L4 (impl_distance_L4)
theorem e_impl_distance_L4_ok : (e_impl_distance_L4).ok Go.Proofs.Try.prog (codeAt (bodyOf Go.Proofs.Try.f45) 4) := by
  intro R ds k r h
  unfold e_impl_distance_L4 m_impl_distance_L4 at h
  obtain ⟨x0, d0, rfl, h0⟩ := dI_some h
  obtain ⟨x1, d1, rfl, h1⟩ := dI_some h0
  obtain ⟨x2, d2, rfl, h2⟩ := dI_some h1
  obtain ⟨x3, d3, rfl, h3⟩ := dI_some h2
  obtain ⟨x4, d4, rfl, h4⟩ := dI_some h3
  obtain ⟨x5, d5, rfl, h5⟩ := dL_some h4
  obtain ⟨rfl, hE⟩ := dE_some h5
  obtain ⟨y, hy, hk⟩ := bnd_some hE
  obtain ⟨n, hn⟩ := ev_some hy
  exact m_impl_distance_L4_ok n R _ k r (show (n_impl_distance_L4 n x0 x1 x2 x3 x4 x5).bind _ = _ by rw [hn]; exact hk)

/-! loop.example/g00876/impl.distance -/
def c_impl_distance {R : Type} (x0 : List D) (x1 : Int) (x2 : Int) (k : Int → Option R) : Option R :=
  if (0 : Int) ≤ (0 : Int) ∧ (0 : Int) < (↑x0.length : Int) then
    (impl_distance_L4 x1 x2 (0 : Int) (↑(x0.getD (Int.toNat (0 : Int)) (Go.Rai.D.int (0 : Int))).items.length : Int) (0 : Int) x0).bind (fun y0 =>
      k y0)
  else
    none
theorem c_impl_distance_bind {R : Type} (x0 : List D) (x1 : Int) (x2 : Int) (k : Int → Option R) : c_impl_distance x0 x1 x2 k = (c_impl_distance x0 x1 x2 some).bind k := by
  unfold c_impl_distance
  repeat' first
    | exact bnd_tail
    | exact bnd_none
    | exact bnd_leaf
    | apply bnd_ite
    | apply bnd_cond
    | apply bnd_sum
    | (apply bnd_bind; intro _)
    | intro _
def impl_distance (x0 : List D) (x1 : Int) (x2 : Int) : Option (Int) := c_impl_distance x0 x1 x2 some
def e_impl_distance : Ent := ⟨45, [.agg [.rd (.slice (.int .i64))], .int .i64, .int .i64], .int .i64, [.undef, .undef, .undef], fun _ ds k => dL (fun x0 ds => dI (fun x1 ds => dI (fun x2 ds => dE ((impl_distance x0 x1 x2).bind (fun y => k [.I y])) ds) ds) ds) ds⟩
theorem q_impl_distance (x0 : List D) (x1 : Int) (x2 : Int) : runFn (ocOf []) (olOf [e_impl_distance_L4]) A 45 Go.Proofs.Try.f45 (Sh.mks e_impl_distance.sh [.L x0, .I x1, .I x2]).1 (fun v os => some (v, os)) = c_impl_distance x0 x1 x2 (fun y => some ((e_impl_distance.res.mk [.I y]).1, (Sh.mks e_impl_distance.outs (e_impl_distance.res.mk [.I y]).2).1)) := by kernel_rfl
theorem e_impl_distance_ok : e_impl_distance.ok Go.Proofs.Try.prog A := by
  intro R ds k r h
  unfold e_impl_distance at h
  obtain ⟨x0, d0, rfl, h0⟩ := dL_some h
  obtain ⟨x1, d1, rfl, h1⟩ := dI_some h0
  obtain ⟨x2, d2, rfl, h2⟩ := dI_some h1
  obtain ⟨rfl, hE⟩ := dE_some h2
  obtain ⟨y, hy, hk⟩ := bnd_some hE
  refine ⟨_, hk, fn_ok px (fx := ⟨Go.Proofs.Try.func45, by kernel_rfl, by kernel_rfl⟩) entsOK_nil (lentsOK_cons e_impl_distance_L4_ok lentsOK_nil) ?_⟩
  have hq := q_impl_distance x0 x1 x2
  rw [c_impl_distance_bind] at hq
  rw [show c_impl_distance x0 x1 x2 some = some y from hy] at hq
  exact hq

/-! loop.example/g00876/impl.RowDistance -/
def c_impl_RowDistance {R : Type} (x0 : List D) (x1 : Int) (x2 : Int) (k : Int × Bool → Option R) : Option R :=
  (impl_IsValidTable x0).bind (fun y0 =>
    bif !y0 then
      k ((0 : Int), Bool.false)
    else
      (impl_within x1 (0 : Int) (Go.IntKind.i64.wrap ((↑x0.length : Int) - (1 : Int)))).bind (fun y1 =>
        bif !y1 then
          k ((0 : Int), Bool.false)
        else
          (impl_within x2 (0 : Int) (Go.IntKind.i64.wrap ((↑x0.length : Int) - (1 : Int)))).bind (fun y2 =>
            bif !y2 then
              k ((0 : Int), Bool.false)
            else
              (impl_distance x0 x1 x2).bind (fun y3 =>
                k (y3, Bool.true)))))
theorem c_impl_RowDistance_bind {R : Type} (x0 : List D) (x1 : Int) (x2 : Int) (k : Int × Bool → Option R) : c_impl_RowDistance x0 x1 x2 k = (c_impl_RowDistance x0 x1 x2 some).bind k := by
  unfold c_impl_RowDistance
  repeat' first
    | exact bnd_tail
    | exact bnd_none
    | exact bnd_leaf
    | apply bnd_ite
    | apply bnd_cond
    | apply bnd_sum
    | (apply bnd_bind; intro _)
    | intro _
def impl_RowDistance (x0 : List D) (x1 : Int) (x2 : Int) : Option (Int × Bool) := c_impl_RowDistance x0 x1 x2 some
def e_impl_RowDistance : Ent := ⟨15, [.agg [.rd (.slice (.int .i64))], .int .i64, .int .i64], .tup [.int .i64, .bool], [.undef, .undef, .undef], fun _ ds k => dL (fun x0 ds => dI (fun x1 ds => dI (fun x2 ds => dE ((impl_RowDistance x0 x1 x2).bind (fun y => k [.I y.1, .B y.2])) ds) ds) ds) ds⟩
theorem q_impl_RowDistance (x0 : List D) (x1 : Int) (x2 : Int) : runFn (ocOf [e_impl_IsValidTable, e_impl_within, e_impl_distance]) (olOf []) A 15 Go.Proofs.Try.f15 (Sh.mks e_impl_RowDistance.sh [.L x0, .I x1, .I x2]).1 (fun v os => some (v, os)) = c_impl_RowDistance x0 x1 x2 (fun y => some ((e_impl_RowDistance.res.mk [.I y.1, .B y.2]).1, (Sh.mks e_impl_RowDistance.outs (e_impl_RowDistance.res.mk [.I y.1, .B y.2]).2).1)) := by kernel_rfl
theorem e_impl_RowDistance_ok : e_impl_RowDistance.ok Go.Proofs.Try.prog A := by
  intro R ds k r h
  unfold e_impl_RowDistance at h
  obtain ⟨x0, d0, rfl, h0⟩ := dL_some h
  obtain ⟨x1, d1, rfl, h1⟩ := dI_some h0
  obtain ⟨x2, d2, rfl, h2⟩ := dI_some h1
  obtain ⟨rfl, hE⟩ := dE_some h2
  obtain ⟨y, hy, hk⟩ := bnd_some hE
  refine ⟨_, hk, fn_ok px (fx := ⟨Go.Proofs.Try.func15, by kernel_rfl, by kernel_rfl⟩) (entsOK_cons e_impl_IsValidTable_ok (entsOK_cons e_impl_within_ok (entsOK_cons e_impl_distance_ok entsOK_nil))) lentsOK_nil ?_⟩
  have hq := q_impl_RowDistance x0 x1 x2
  rw [c_impl_RowDistance_bind] at hq
  rw [show c_impl_RowDistance x0 x1 x2 some = some y from hy] at hq
  exact hq

/-! loop.example/g00876/laws.eqIntS, loop 4 -/
def c_laws_eqIntS_L4 {R : Type} (F : List D → List D → Int → Option ((Bool) ⊕ (Unit))) (x0 : List D) (x1 : List D) (x2 : Int) (k : (Bool) ⊕ (Unit) → Option R) : Option R :=
  bif Decidable.decide (x2 < (↑x0.length : Int)) then
    if (0 : Int) ≤ x2 ∧ x2 < (↑x0.length : Int) then
      if (0 : Int) ≤ x2 ∧ x2 < (↑x1.length : Int) then
        bif !Decidable.decide ((x0.getD x2.toNat (Go.Rai.D.int (0 : Int))).toInt = (x1.getD x2.toNat (Go.Rai.D.int (0 : Int))).toInt) then
          k (.inl Bool.false)
        else
          (F x0 x1 (Go.IntKind.i64.wrap (x2 + (1 : Int)))).bind k
      else
        none
    else
      none
  else
    k (.inr ())
theorem c_laws_eqIntS_L4_bind {R : Type} (F : List D → List D → Int → Option ((Bool) ⊕ (Unit))) (x0 : List D) (x1 : List D) (x2 : Int) (k : (Bool) ⊕ (Unit) → Option R) : c_laws_eqIntS_L4 F x0 x1 x2 k = (c_laws_eqIntS_L4 F x0 x1 x2 some).bind k := by
  unfold c_laws_eqIntS_L4
  repeat' first
    | exact bnd_tail
    | exact bnd_none
    | exact bnd_leaf
    | apply bnd_ite
    | apply bnd_cond
    | apply bnd_sum
    | (apply bnd_bind; intro _)
    | intro _
def n_laws_eqIntS_L4 : Nat → List D → List D → Int → Option ((Bool) ⊕ (Unit))
  | 0, _, _, _ => none
  | n + 1, x0, x1, x2 => c_laws_eqIntS_L4 (n_laws_eqIntS_L4 n) x0 x1 x2 some
noncomputable def laws_eqIntS_L4 (x0 : List D) (x1 : List D) (x2 : Int) : Option ((Bool) ⊕ (Unit)) := ev (fun n => n_laws_eqIntS_L4 n x0 x1 x2)
def m_laws_eqIntS_L4 (F : List D → List D → Int → Option ((Bool) ⊕ (Unit))) : Lent := ⟨4, ⟨[.rd (.int .i64), .rd (.int .i64), .undef, .undef, .undef, .int .i64, .undef, .undef, .undef, .undef, .undef, .undef, .undef, .undef, .undef, .undef, .undef, .undef, .undef, .undef, .undef, .undef, .undef, .undef, .undef, .undef], []⟩, [(.ret, ⟨[.undef, .undef, .undef, .undef, .bool, .undef, .undef, .undef, .undef, .undef, .undef, .undef, .undef, .undef, .undef, .undef, .undef, .undef, .undef, .undef, .undef, .undef, .undef, .undef, .undef, .undef], []⟩), (.exit 0, ⟨[.undef, .undef, .undef, .undef, .undef, .undef, .undef, .undef, .undef, .undef, .undef, .undef, .undef, .undef, .undef, .undef, .undef, .undef, .undef, .undef, .undef, .undef, .undef, .undef, .undef, .undef], []⟩)], fun _ ds k => dL (fun x0 ds => dL (fun x1 ds => dI (fun x2 ds => dE ((F x0 x1 x2).bind (Sum.elim (fun y => k 0 [.B y]) (fun y => k 1 []))) ds) ds) ds) ds⟩
theorem q_laws_eqIntS_L4 (F : List D → List D → Int → Option ((Bool) ⊕ (Unit))) (x0 : List D) (x1 : List D) (x2 : Int) : runLoop (ocOf []) (olOf [m_laws_eqIntS_L4 F]) A 21 (codeAt (bodyOf Go.Proofs.Try.f21) 4) ((m_laws_eqIntS_L4 F).sh.mk' [.L x0, .L x1, .I x2]) (fun e σ' => some (e, σ')) = c_laws_eqIntS_L4 F x0 x1 x2 (Sum.elim (fun y => some (.ret, SSt.mk' ⟨[.undef, .undef, .undef, .undef, .bool, .undef, .undef, .undef, .undef, .undef, .undef, .undef, .undef, .undef, .undef, .undef, .undef, .undef, .undef, .undef, .undef, .undef, .undef, .undef, .undef, .undef], []⟩ [.B y])) (fun y => some (.exit 0, SSt.mk' ⟨[.undef, .undef, .undef, .undef, .undef, .undef, .undef, .undef, .undef, .undef, .undef, .undef, .undef, .undef, .undef, .undef, .undef, .undef, .undef, .undef, .undef, .undef, .undef, .undef, .undef, .undef], []⟩ []))) := by kernel_rfl
theorem m_laws_eqIntS_L4_ok : ∀ n, (m_laws_eqIntS_L4 (n_laws_eqIntS_L4 n)).ok Go.Proofs.Try.prog (codeAt (bodyOf Go.Proofs.Try.f21) 4) := by
  intro n
  induction n with
  | zero =>
    intro R ds k r h
    unfold m_laws_eqIntS_L4 at h
    obtain ⟨x0, d0, rfl, h0⟩ := dL_some h
    obtain ⟨x1, d1, rfl, h1⟩ := dL_some h0
    obtain ⟨x2, d2, rfl, h2⟩ := dI_some h1
    obtain ⟨rfl, hE⟩ := dE_some h2
    obtain ⟨y, hy, hk⟩ := bnd_some hE
    cases hy
  | succ n ih =>
    intro R ds k r h
    unfold m_laws_eqIntS_L4 at h
    obtain ⟨x0, d0, rfl, h0⟩ := dL_some h
    obtain ⟨x1, d1, rfl, h1⟩ := dL_some h0
    obtain ⟨x2, d2, rfl, h2⟩ := dI_some h1
    obtain ⟨rfl, hE⟩ := dE_some h2
    obtain ⟨y, hy, hk⟩ := bnd_some hE
    have hq := q_laws_eqIntS_L4 (n_laws_eqIntS_L4 n) x0 x1 x2
    rw [c_laws_eqIntS_L4_bind] at hq
    rw [show c_laws_eqIntS_L4 (n_laws_eqIntS_L4 n) x0 x1 x2 some = some y from hy] at hq
    cases y with
    | inl y =>
      refine ⟨0, _, _, _, hk, rfl, loop_ok px (fx := ⟨Go.Proofs.Try.func21, by kernel_rfl, by kernel_rfl⟩) entsOK_nil (lentsOK_cons ih lentsOK_nil) (by kernel_rfl) ?_⟩
      exact hq
    | inr y =>
      refine ⟨1, _, _, _, hk, rfl, loop_ok px (fx := ⟨Go.Proofs.Try.func21, by kernel_rfl, by kernel_rfl⟩) entsOK_nil (lentsOK_cons ih lentsOK_nil) (by kernel_rfl) ?_⟩
      exact hq
noncomputable def e_laws_eqIntS_L4 : Lent := m_laws_eqIntS_L4 (laws_eqIntS_L4)
theorem e_laws_eqIntS_L4_ok : (e_laws_eqIntS_L4).ok Go.Proofs.Try.prog (codeAt (bodyOf Go.Proofs.Try.f21) 4) := by
  intro R ds k r h
  unfold e_laws_eqIntS_L4 m_laws_eqIntS_L4 at h
  obtain ⟨x0, d0, rfl, h0⟩ := dL_some h
  obtain ⟨x1, d1, rfl, h1⟩ := dL_some h0
  obtain ⟨x2, d2, rfl, h2⟩ := dI_some h1
  obtain ⟨rfl, hE⟩ := dE_some h2
  obtain ⟨y, hy, hk⟩ := bnd_some hE
  obtain ⟨n, hn⟩ := ev_some hy
  exact m_laws_eqIntS_L4_ok n R _ k r (show (n_laws_eqIntS_L4 n x0 x1 x2).bind _ = _ by rw [hn]; exact hk)

/-! loop.example/g00876/laws.eqIntS -/
def c_laws_eqIntS {R : Type} (x0 : List D) (x1 : List D) (k : Bool → Option R) : Option R :=
  bif !Decidable.decide ((↑x0.length : Int) = (↑x1.length : Int)) then
    k Bool.false
  else
    (laws_eqIntS_L4 x0 x1 (0 : Int)).bind (Sum.elim (fun y0 =>
      k y0) (fun y1 =>
      k Bool.true))
theorem c_laws_eqIntS_bind {R : Type} (x0 : List D) (x1 : List D) (k : Bool → Option R) : c_laws_eqIntS x0 x1 k = (c_laws_eqIntS x0 x1 some).bind k := by
  unfold c_laws_eqIntS
  repeat' first
    | exact bnd_tail
    | exact bnd_none
    | exact bnd_leaf
    | apply bnd_ite
    | apply bnd_cond
    | apply bnd_sum
    | (apply bnd_bind; intro _)
    | intro _
def laws_eqIntS (x0 : List D) (x1 : List D) : Option (Bool) := c_laws_eqIntS x0 x1 some
def e_laws_eqIntS : Ent := ⟨21, [.rd (.int .i64), .rd (.int .i64)], .bool, [.undef, .undef], fun _ ds k => dL (fun x0 ds => dL (fun x1 ds => dE ((laws_eqIntS x0 x1).bind (fun y => k [.B y])) ds) ds) ds⟩
theorem q_laws_eqIntS (x0 : List D) (x1 : List D) : runFn (ocOf []) (olOf [e_laws_eqIntS_L4]) A 21 Go.Proofs.Try.f21 (Sh.mks e_laws_eqIntS.sh [.L x0, .L x1]).1 (fun v os => some (v, os)) = c_laws_eqIntS x0 x1 (fun y => some ((e_laws_eqIntS.res.mk [.B y]).1, (Sh.mks e_laws_eqIntS.outs (e_laws_eqIntS.res.mk [.B y]).2).1)) := by kernel_rfl
theorem e_laws_eqIntS_ok : e_laws_eqIntS.ok Go.Proofs.Try.prog A := by
  intro R ds k r h
  unfold e_laws_eqIntS at h
  obtain ⟨x0, d0, rfl, h0⟩ := dL_some h
  obtain ⟨x1, d1, rfl, h1⟩ := dL_some h0
  obtain ⟨rfl, hE⟩ := dE_some h1
  obtain ⟨y, hy, hk⟩ := bnd_some hE
  refine ⟨_, hk, fn_ok px (fx := ⟨Go.Proofs.Try.func21, by kernel_rfl, by kernel_rfl⟩) entsOK_nil (lentsOK_cons e_laws_eqIntS_L4_ok lentsOK_nil) ?_⟩
  have hq := q_laws_eqIntS x0 x1
  rw [c_laws_eqIntS_bind] at hq
  rw [show c_laws_eqIntS x0 x1 some = some y from hy] at hq
  exact hq

/-! loop.example/g00876/laws.eqIntSS, loop 4 -/
def c_laws_eqIntSS_L4 {R : Type} (F : List D → List D → Int → Option ((Bool) ⊕ (Unit))) (x0 : List D) (x1 : List D) (x2 : Int) (k : (Bool) ⊕ (Unit) → Option R) : Option R :=
  bif Decidable.decide (x2 < (↑x0.length : Int)) then
    if (0 : Int) ≤ x2 ∧ x2 < (↑x0.length : Int) then
      if (0 : Int) ≤ x2 ∧ x2 < (↑x1.length : Int) then
        (laws_eqIntS ((x0.getD x2.toNat (Go.Rai.D.int (0 : Int))).items) ((x1.getD x2.toNat (Go.Rai.D.int (0 : Int))).items)).bind (fun y0 =>
          bif !y0 then
            k (.inl Bool.false)
          else
            (F x0 x1 (Go.IntKind.i64.wrap (x2 + (1 : Int)))).bind k)
      else
        none
    else
      none
  else
    k (.inr ())
theorem c_laws_eqIntSS_L4_bind {R : Type} (F : List D → List D → Int → Option ((Bool) ⊕ (Unit))) (x0 : List D) (x1 : List D) (x2 : Int) (k : (Bool) ⊕ (Unit) → Option R) : c_laws_eqIntSS_L4 F x0 x1 x2 k = (c_laws_eqIntSS_L4 F x0 x1 x2 some).bind k := by
  unfold c_laws_eqIntSS_L4
  repeat' first
    | exact bnd_tail
    | exact bnd_none
    | exact bnd_leaf
    | apply bnd_ite
    | apply bnd_cond
    | apply bnd_sum
    | (apply bnd_bind; intro _)
    | intro _
def n_laws_eqIntSS_L4 : Nat → List D → List D → Int → Option ((Bool) ⊕ (Unit))
  | 0, _, _, _ => none
  | n + 1, x0, x1, x2 => c_laws_eqIntSS_L4 (n_laws_eqIntSS_L4 n) x0 x1 x2 some
noncomputable def laws_eqIntSS_L4 (x0 : List D) (x1 : List D) (x2 : Int) : Option ((Bool) ⊕ (Unit)) := ev (fun n => n_laws_eqIntSS_L4 n x0 x1 x2)
def m_laws_eqIntSS_L4 (F : List D → List D → Int → Option ((Bool) ⊕ (Unit))) : Lent := ⟨4, ⟨[.rd (.slice (.int .i64)), .rd (.slice (.int .i64)), .undef, .undef, .undef, .int .i64, .undef, .undef, .undef, .undef, .undef, .undef, .undef, .undef, .undef, .undef, .undef, .undef, .undef, .undef, .undef, .undef, .undef, .undef, .undef, .undef, .undef], []⟩, [(.ret, ⟨[.undef, .undef, .undef, .undef, .bool, .undef, .undef, .undef, .undef, .undef, .undef, .undef, .undef, .undef, .undef, .undef, .undef, .undef, .undef, .undef, .undef, .undef, .undef, .undef, .undef, .undef, .undef], []⟩), (.exit 0, ⟨[.undef, .undef, .undef, .undef, .undef, .undef, .undef, .undef, .undef, .undef, .undef, .undef, .undef, .undef, .undef, .undef, .undef, .undef, .undef, .undef, .undef, .undef, .undef, .undef, .undef, .undef, .undef], []⟩)], fun _ ds k => dL (fun x0 ds => dL (fun x1 ds => dI (fun x2 ds => dE ((F x0 x1 x2).bind (Sum.elim (fun y => k 0 [.B y]) (fun y => k 1 []))) ds) ds) ds) ds⟩
theorem q_laws_eqIntSS_L4 (F : List D → List D → Int → Option ((Bool) ⊕ (Unit))) (x0 : List D) (x1 : List D) (x2 : Int) : runLoop (ocOf [e_laws_eqIntS]) (olOf [m_laws_eqIntSS_L4 F]) A 46 (codeAt (bodyOf Go.Proofs.Try.f46) 4) ((m_laws_eqIntSS_L4 F).sh.mk' [.L x0, .L x1, .I x2]) (fun e σ' => some (e, σ')) = c_laws_eqIntSS_L4 F x0 x1 x2 (Sum.elim (fun y => some (.ret, SSt.mk' ⟨[.undef, .undef, .undef, .undef, .bool, .undef, .undef, .undef, .undef, .undef, .undef, .undef, .undef, .undef, .undef, .undef, .undef, .undef, .undef, .undef, .undef, .undef, .undef, .undef, .undef, .undef, .undef], []⟩ [.B y])) (fun y => some (.exit 0, SSt.mk' ⟨[.undef, .undef, .undef, .undef, .undef, .undef, .undef, .undef, .undef, .undef, .undef, .undef, .undef, .undef, .undef, .undef, .undef, .undef, .undef, .undef, .undef, .undef, .undef, .undef, .undef, .undef, .undef], []⟩ []))) := by kernel_rfl
theorem m_laws_eqIntSS_L4_ok : ∀ n, (m_laws_eqIntSS_L4 (n_laws_eqIntSS_L4 n)).ok Go.Proofs.Try.prog (codeAt (bodyOf Go.Proofs.Try.f46) 4) := by
  intro n
  induction n with
  | zero =>
    intro R ds k r h
    unfold m_laws_eqIntSS_L4 at h
    obtain ⟨x0, d0, rfl, h0⟩ := dL_some h
    obtain ⟨x1, d1, rfl, h1⟩ := dL_some h0
    obtain ⟨x2, d2, rfl, h2⟩ := dI_some h1
    obtain ⟨rfl, hE⟩ := dE_some h2
    obtain ⟨y, hy, hk⟩ := bnd_some hE
    cases hy
  | succ n ih =>
    intro R ds k r h
    unfold m_laws_eqIntSS_L4 at h
    obtain ⟨x0, d0, rfl, h0⟩ := dL_some h
    obtain ⟨x1, d1, rfl, h1⟩ := dL_some h0
    obtain ⟨x2, d2, rfl, h2⟩ := dI_some h1
    obtain ⟨rfl, hE⟩ := dE_some h2
    obtain ⟨y, hy, hk⟩ := bnd_some hE
    have hq := q_laws_eqIntSS_L4 (n_laws_eqIntSS_L4 n) x0 x1 x2
    rw [c_laws_eqIntSS_L4_bind] at hq
    rw [show c_laws_eqIntSS_L4 (n_laws_eqIntSS_L4 n) x0 x1 x2 some = some y from hy] at hq
    cases y with
    | inl y =>
      refine ⟨0, _, _, _, hk, rfl, loop_ok px (fx := ⟨Go.Proofs.Try.func46, by kernel_rfl, by kernel_rfl⟩) (entsOK_cons e_laws_eqIntS_ok entsOK_nil) (lentsOK_cons ih lentsOK_nil) (by kernel_rfl) ?_⟩
      exact hq
    | inr y =>
      refine ⟨1, _, _, _, hk, rfl, loop_ok px (fx := ⟨Go.Proofs.Try.func46, by kernel_rfl, by kernel_rfl⟩) (entsOK_cons e_laws_eqIntS_ok entsOK_nil) (lentsOK_cons ih lentsOK_nil) (by kernel_rfl) ?_⟩
      exact hq
noncomputable def e_laws_eqIntSS_L4 : Lent := m_laws_eqIntSS_L4 (laws_eqIntSS_L4)
theorem e_laws_eqIntSS_L4_ok : (e_laws_eqIntSS_L4).ok Go.Proofs.Try.prog (codeAt (bodyOf Go.Proofs.Try.f46) 4) := by
  intro R ds k r h
  unfold e_laws_eqIntSS_L4 m_laws_eqIntSS_L4 at h
  obtain ⟨x0, d0, rfl, h0⟩ := dL_some h
  obtain ⟨x1, d1, rfl, h1⟩ := dL_some h0
  obtain ⟨x2, d2, rfl, h2⟩ := dI_some h1
  obtain ⟨rfl, hE⟩ := dE_some h2
  obtain ⟨y, hy, hk⟩ := bnd_some hE
  obtain ⟨n, hn⟩ := ev_some hy
  exact m_laws_eqIntSS_L4_ok n R _ k r (show (n_laws_eqIntSS_L4 n x0 x1 x2).bind _ = _ by rw [hn]; exact hk)

/-! loop.example/g00876/laws.eqIntSS -/
def c_laws_eqIntSS {R : Type} (x0 : List D) (x1 : List D) (k : Bool → Option R) : Option R :=
  bif !Decidable.decide ((↑x0.length : Int) = (↑x1.length : Int)) then
    k Bool.false
  else
    (laws_eqIntSS_L4 x0 x1 (0 : Int)).bind (Sum.elim (fun y0 =>
      k y0) (fun y1 =>
      k Bool.true))
theorem c_laws_eqIntSS_bind {R : Type} (x0 : List D) (x1 : List D) (k : Bool → Option R) : c_laws_eqIntSS x0 x1 k = (c_laws_eqIntSS x0 x1 some).bind k := by
  unfold c_laws_eqIntSS
  repeat' first
    | exact bnd_tail
    | exact bnd_none
    | exact bnd_leaf
    | apply bnd_ite
    | apply bnd_cond
    | apply bnd_sum
    | (apply bnd_bind; intro _)
    | intro _
def laws_eqIntSS (x0 : List D) (x1 : List D) : Option (Bool) := c_laws_eqIntSS x0 x1 some
def e_laws_eqIntSS : Ent := ⟨46, [.rd (.slice (.int .i64)), .rd (.slice (.int .i64))], .bool, [.undef, .undef], fun _ ds k => dL (fun x0 ds => dL (fun x1 ds => dE ((laws_eqIntSS x0 x1).bind (fun y => k [.B y])) ds) ds) ds⟩
theorem q_laws_eqIntSS (x0 : List D) (x1 : List D) : runFn (ocOf []) (olOf [e_laws_eqIntSS_L4]) A 46 Go.Proofs.Try.f46 (Sh.mks e_laws_eqIntSS.sh [.L x0, .L x1]).1 (fun v os => some (v, os)) = c_laws_eqIntSS x0 x1 (fun y => some ((e_laws_eqIntSS.res.mk [.B y]).1, (Sh.mks e_laws_eqIntSS.outs (e_laws_eqIntSS.res.mk [.B y]).2).1)) := by kernel_rfl
theorem e_laws_eqIntSS_ok : e_laws_eqIntSS.ok Go.Proofs.Try.prog A := by
  intro R ds k r h
  unfold e_laws_eqIntSS at h
  obtain ⟨x0, d0, rfl, h0⟩ := dL_some h
  obtain ⟨x1, d1, rfl, h1⟩ := dL_some h0
  obtain ⟨rfl, hE⟩ := dE_some h1
  obtain ⟨y, hy, hk⟩ := bnd_some hE
  refine ⟨_, hk, fn_ok px (fx := ⟨Go.Proofs.Try.func46, by kernel_rfl, by kernel_rfl⟩) entsOK_nil (lentsOK_cons e_laws_eqIntSS_L4_ok lentsOK_nil) ?_⟩
  have hq := q_laws_eqIntSS x0 x1
  rw [c_laws_eqIntSS_bind] at hq
  rw [show c_laws_eqIntSS x0 x1 some = some y from hy] at hq
  exact hq

/-! loop.example/g00876/laws.eqTable -/
def c_laws_eqTable {R : Type} (x0 : List D) (x1 : List D) (k : Bool → Option R) : Option R :=
  (laws_eqIntSS x0 x1).bind (fun y0 =>
    bif !y0 then
      k Bool.false
    else
      k Bool.true)
theorem c_laws_eqTable_bind {R : Type} (x0 : List D) (x1 : List D) (k : Bool → Option R) : c_laws_eqTable x0 x1 k = (c_laws_eqTable x0 x1 some).bind k := by
  unfold c_laws_eqTable
  repeat' first
    | exact bnd_tail
    | exact bnd_none
    | exact bnd_leaf
    | apply bnd_ite
    | apply bnd_cond
    | apply bnd_sum
    | (apply bnd_bind; intro _)
    | intro _
def laws_eqTable (x0 : List D) (x1 : List D) : Option (Bool) := c_laws_eqTable x0 x1 some
def e_laws_eqTable : Ent := ⟨16, [.agg [.rd (.slice (.int .i64))], .agg [.rd (.slice (.int .i64))]], .bool, [.undef, .undef], fun _ ds k => dL (fun x0 ds => dL (fun x1 ds => dE ((laws_eqTable x0 x1).bind (fun y => k [.B y])) ds) ds) ds⟩
theorem q_laws_eqTable (x0 : List D) (x1 : List D) : runFn (ocOf [e_laws_eqIntSS]) (olOf []) A 16 Go.Proofs.Try.f16 (Sh.mks e_laws_eqTable.sh [.L x0, .L x1]).1 (fun v os => some (v, os)) = c_laws_eqTable x0 x1 (fun y => some ((e_laws_eqTable.res.mk [.B y]).1, (Sh.mks e_laws_eqTable.outs (e_laws_eqTable.res.mk [.B y]).2).1)) := by kernel_rfl
theorem e_laws_eqTable_ok : e_laws_eqTable.ok Go.Proofs.Try.prog A := by
  intro R ds k r h
  unfold e_laws_eqTable at h
  obtain ⟨x0, d0, rfl, h0⟩ := dL_some h
  obtain ⟨x1, d1, rfl, h1⟩ := dL_some h0
  obtain ⟨rfl, hE⟩ := dE_some h1
  obtain ⟨y, hy, hk⟩ := bnd_some hE
  refine ⟨_, hk, fn_ok px (fx := ⟨Go.Proofs.Try.func16, by kernel_rfl, by kernel_rfl⟩) (entsOK_cons e_laws_eqIntSS_ok entsOK_nil) lentsOK_nil ?_⟩
  have hq := q_laws_eqTable x0 x1
  rw [c_laws_eqTable_bind] at hq
  rw [show c_laws_eqTable x0 x1 some = some y from hy] at hq
  exact hq

/-! loop.example/g00876/laws.FnExactRowDistance -/
def c_laws_FnExactRowDistance {R : Type} (x0 : List D) (x1 : Int) (x2 : Int) (k : Bool → Option R) : Option R :=
  (laws_szTable x0 (1048576 : Int)).bind (fun y0 =>
    bif Decidable.decide (y0 < (0 : Int)) then
      k Bool.true
    else
      (laws_toTable x0).bind (fun y1 =>
        (spec_RowDistance y1 x1 x2).bind (fun y2 =>
          (laws_toTable x0).bind (fun y3 =>
            (impl_RowDistance y3 x1 x2).bind (fun y4 =>
              bif !Decidable.decide (y4.fst = y2.fst) then
                k Bool.false
              else
                bif !y4.snd == y2.snd then
                  k Bool.false
                else
                  (laws_toTable x0).bind (fun y5 =>
                    (laws_eqTable y3 y5).bind (fun y6 =>
                      bif !y6 then
                        k Bool.false
                      else
                        k Bool.true)))))))
theorem c_laws_FnExactRowDistance_bind {R : Type} (x0 : List D) (x1 : Int) (x2 : Int) (k : Bool → Option R) : c_laws_FnExactRowDistance x0 x1 x2 k = (c_laws_FnExactRowDistance x0 x1 x2 some).bind k := by
  unfold c_laws_FnExactRowDistance
  repeat' first
    | exact bnd_tail
    | exact bnd_none
    | exact bnd_leaf
    | apply bnd_ite
    | apply bnd_cond
    | apply bnd_sum
    | (apply bnd_bind; intro _)
    | intro _
def laws_FnExactRowDistance (x0 : List D) (x1 : Int) (x2 : Int) : Option (Bool) := c_laws_FnExactRowDistance x0 x1 x2 some
def e_laws_FnExactRowDistance : Ent := ⟨3, [.agg [.rd (.slice (.int .i64))], .int .i64, .int .i64], .bool, [.undef, .undef, .undef], fun _ ds k => dL (fun x0 ds => dI (fun x1 ds => dI (fun x2 ds => dE ((laws_FnExactRowDistance x0 x1 x2).bind (fun y => k [.B y])) ds) ds) ds) ds⟩
theorem q_laws_FnExactRowDistance (x0 : List D) (x1 : Int) (x2 : Int) : runFn (ocOf [e_laws_szTable, e_laws_toTable, e_spec_RowDistance, e_impl_RowDistance, e_laws_eqTable]) (olOf []) A 3 Go.Proofs.Try.f3 (Sh.mks e_laws_FnExactRowDistance.sh [.L x0, .I x1, .I x2]).1 (fun v os => some (v, os)) = c_laws_FnExactRowDistance x0 x1 x2 (fun y => some ((e_laws_FnExactRowDistance.res.mk [.B y]).1, (Sh.mks e_laws_FnExactRowDistance.outs (e_laws_FnExactRowDistance.res.mk [.B y]).2).1)) := by kernel_rfl
theorem e_laws_FnExactRowDistance_ok : e_laws_FnExactRowDistance.ok Go.Proofs.Try.prog A := by
  intro R ds k r h
  unfold e_laws_FnExactRowDistance at h
  obtain ⟨x0, d0, rfl, h0⟩ := dL_some h
  obtain ⟨x1, d1, rfl, h1⟩ := dI_some h0
  obtain ⟨x2, d2, rfl, h2⟩ := dI_some h1
  obtain ⟨rfl, hE⟩ := dE_some h2
  obtain ⟨y, hy, hk⟩ := bnd_some hE
  refine ⟨_, hk, fn_ok px (fx := ⟨Go.Proofs.Try.func3, by kernel_rfl, by kernel_rfl⟩) (entsOK_cons e_laws_szTable_ok (entsOK_cons e_laws_toTable_ok (entsOK_cons e_spec_RowDistance_ok (entsOK_cons e_impl_RowDistance_ok (entsOK_cons e_laws_eqTable_ok entsOK_nil))))) lentsOK_nil ?_⟩
  have hq := q_laws_FnExactRowDistance x0 x1 x2
  rw [c_laws_FnExactRowDistance_bind] at hq
  rw [show c_laws_FnExactRowDistance x0 x1 x2 some = some y from hy] at hq
  exact hq
end
end Go.Proofs.Ytinhphmajfiepaa
