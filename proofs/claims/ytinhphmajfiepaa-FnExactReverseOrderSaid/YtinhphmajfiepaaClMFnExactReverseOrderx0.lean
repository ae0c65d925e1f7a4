/- Models of Go functions and their contracts, printed by a program of this session. -/
import Derived.Test.YtinhphmajfiepaaClA
set_option linter.unusedVariables false
set_option maxRecDepth 100000
namespace Go.Proofs.Ytinhphmajfiepaa
open Go Go.Rai
noncomputable section
def bytes_0 : ByteArray := { data := (([(0 : UInt8), (1 : UInt8), (2 : UInt8), (2 : UInt8), (3 : UInt8), (3 : UInt8), (3 : UInt8), (3 : UInt8), (4 : UInt8), (4 : UInt8), (4 : UInt8), (4 : UInt8), (4 : UInt8), (4 : UInt8), (4 : UInt8), (4 : UInt8), (5 : UInt8), (5 : UInt8), (5 : UInt8), (5 : UInt8), (5 : UInt8), (5 : UInt8), (5 : UInt8), (5 : UInt8), (5 : UInt8), (5 : UInt8), (5 : UInt8), (5 : UInt8), (5 : UInt8), (5 : UInt8), (5 : UInt8), (5 : UInt8), (6 : UInt8), (6 : UInt8), (6 : UInt8), (6 : UInt8), (6 : UInt8), (6 : UInt8), (6 : UInt8), (6 : UInt8), (6 : UInt8), (6 : UInt8), (6 : UInt8), (6 : UInt8), (6 : UInt8), (6 : UInt8), (6 : UInt8), (6 : UInt8), (6 : UInt8), (6 : UInt8), (6 : UInt8), (6 : UInt8), (6 : UInt8), (6 : UInt8), (6 : UInt8), (6 : UInt8), (6 : UInt8), (6 : UInt8), (6 : UInt8), (6 : UInt8), (6 : UInt8), (6 : UInt8), (6 : UInt8), (6 : UInt8)].append [(7 : UInt8), (7 : UInt8), (7 : UInt8), (7 : UInt8), (7 : UInt8), (7 : UInt8), (7 : UInt8), (7 : UInt8), (7 : UInt8), (7 : UInt8), (7 : UInt8), (7 : UInt8), (7 : UInt8), (7 : UInt8), (7 : UInt8), (7 : UInt8), (7 : UInt8), (7 : UInt8), (7 : UInt8), (7 : UInt8), (7 : UInt8), (7 : UInt8), (7 : UInt8), (7 : UInt8), (7 : UInt8), (7 : UInt8), (7 : UInt8), (7 : UInt8), (7 : UInt8), (7 : UInt8), (7 : UInt8), (7 : UInt8), (7 : UInt8), (7 : UInt8), (7 : UInt8), (7 : UInt8), (7 : UInt8), (7 : UInt8), (7 : UInt8), (7 : UInt8), (7 : UInt8), (7 : UInt8), (7 : UInt8), (7 : UInt8), (7 : UInt8), (7 : UInt8), (7 : UInt8), (7 : UInt8), (7 : UInt8), (7 : UInt8), (7 : UInt8), (7 : UInt8), (7 : UInt8), (7 : UInt8), (7 : UInt8), (7 : UInt8), (7 : UInt8), (7 : UInt8), (7 : UInt8), (7 : UInt8), (7 : UInt8), (7 : UInt8), (7 : UInt8), (7 : UInt8)]).append ([(8 : UInt8), (8 : UInt8), (8 : UInt8), (8 : UInt8), (8 : UInt8), (8 : UInt8), (8 : UInt8), (8 : UInt8), (8 : UInt8), (8 : UInt8), (8 : UInt8), (8 : UInt8), (8 : UInt8), (8 : UInt8), (8 : UInt8), (8 : UInt8), (8 : UInt8), (8 : UInt8), (8 : UInt8), (8 : UInt8), (8 : UInt8), (8 : UInt8), (8 : UInt8), (8 : UInt8), (8 : UInt8), (8 : UInt8), (8 : UInt8), (8 : UInt8), (8 : UInt8), (8 : UInt8), (8 : UInt8), (8 : UInt8), (8 : UInt8), (8 : UInt8), (8 : UInt8), (8 : UInt8), (8 : UInt8), (8 : UInt8), (8 : UInt8), (8 : UInt8), (8 : UInt8), (8 : UInt8), (8 : UInt8), (8 : UInt8), (8 : UInt8), (8 : UInt8), (8 : UInt8), (8 : UInt8), (8 : UInt8), (8 : UInt8), (8 : UInt8), (8 : UInt8), (8 : UInt8), (8 : UInt8), (8 : UInt8), (8 : UInt8), (8 : UInt8), (8 : UInt8), (8 : UInt8), (8 : UInt8), (8 : UInt8), (8 : UInt8), (8 : UInt8), (8 : UInt8)].append [(8 : UInt8), (8 : UInt8), (8 : UInt8), (8 : UInt8), (8 : UInt8), (8 : UInt8), (8 : UInt8), (8 : UInt8), (8 : UInt8), (8 : UInt8), (8 : UInt8), (8 : UInt8), (8 : UInt8), (8 : UInt8), (8 : UInt8), (8 : UInt8), (8 : UInt8), (8 : UInt8), (8 : UInt8), (8 : UInt8), (8 : UInt8), (8 : UInt8), (8 : UInt8), (8 : UInt8), (8 : UInt8), (8 : UInt8), (8 : UInt8), (8 : UInt8), (8 : UInt8), (8 : UInt8), (8 : UInt8), (8 : UInt8), (8 : UInt8), (8 : UInt8), (8 : UInt8), (8 : UInt8), (8 : UInt8), (8 : UInt8), (8 : UInt8), (8 : UInt8), (8 : UInt8), (8 : UInt8), (8 : UInt8), (8 : UInt8), (8 : UInt8), (8 : UInt8), (8 : UInt8), (8 : UInt8), (8 : UInt8), (8 : UInt8), (8 : UInt8), (8 : UInt8), (8 : UInt8), (8 : UInt8), (8 : UInt8), (8 : UInt8), (8 : UInt8), (8 : UInt8), (8 : UInt8), (8 : UInt8), (8 : UInt8), (8 : UInt8), (8 : UInt8), (8 : UInt8)])).toArray }
/-!-/
def c_laws_szIntS {R : Type} (x0 : List D) (x1 : Int) (k : Int → Option R) : Option R :=
 bif decide (IntKind.i64.wrap (x1 - (↑x0.length : Int)) < (0 : Int)) then
 k (-1 : Int)
 else
 k (IntKind.i64.wrap (x1 - (↑x0.length : Int)))
theorem c_laws_szIntS_bind {R : Type} (x0 : List D) (x1 : Int) (k : Int → Option R) : c_laws_szIntS x0 x1 k = (c_laws_szIntS x0 x1 some).bind k := by
 unfold c_laws_szIntS
 repeat' first|exact bnd_tail|exact bnd_none|exact bnd_leaf|apply bnd_ite|apply bnd_cond|apply bnd_sum|(apply bnd_bind;intro _)|intro _
def laws_szIntS (x0 : List D) (x1 : Int) : Option (Int) := c_laws_szIntS x0 x1 some
def e_laws_szIntS : Ent := ⟨66, [.rd (.int .i64), .int .i64], .int .i64, [.undef, .undef], fun _ ds k => dL (fun x0 ds => dI (fun x1 ds => dE ((laws_szIntS x0 x1).bind (fun y => k [.I y])) ds) ds) ds⟩
theorem q_laws_szIntS (x0 : List D) (x1 : Int) : runFn (ocOf []) (olOf []) A 66 Try.f66 (Sh.mks e_laws_szIntS.sh [.L x0, .I x1]).1 (fun v os => some (v, os)) = c_laws_szIntS x0 x1 (fun y => some ((e_laws_szIntS.res.mk [.I y]).1, (Sh.mks e_laws_szIntS.outs (e_laws_szIntS.res.mk [.I y]).2).1)) := by kernel_rfl
theorem e_laws_szIntS_ok : e_laws_szIntS.ok Try.prog A := by
 intro R ds k r h
 unfold e_laws_szIntS at h
 obtain ⟨x0, d0, rfl, h0⟩ := dL_some h
 obtain ⟨x1, d1, rfl, h1⟩ := dI_some h0
 obtain ⟨rfl, hE⟩ := dE_some h1
 obtain ⟨y, hy, hk⟩ := bnd_some hE
 refine ⟨_, hk, fn_ok px (fx := ⟨Try.func66, by kernel_rfl, by kernel_rfl⟩) entsOK_nil lentsOK_nil ?_⟩
 have hq := q_laws_szIntS x0 x1
 rw [c_laws_szIntS_bind] at hq
 rw [show c_laws_szIntS x0 x1 some = some y from hy] at hq
 exact hq

/-!-/
def c_laws_szIntSS_L5 {R : Type} (F : List D → Int → Int → Option ((Int × Int) ⊕ (Int))) (x0 : List D) (x1 : Int) (x2 : Int) (k : (Int × Int) ⊕ (Int) → Option R) : Option R :=
 bif decide (x2 < (↑x0.length : Int)) then
 if 0 ≤ x2 ∧ x2 < (↑x0.length : Int) then
 (laws_szIntS ((x0.getD x2.toNat (D.int 0)).items) x1).bind (fun y0 =>
 bif decide (y0 < (0 : Int)) then
 k (.inl (y0, (-1 : Int)))
 else
 (F x0 y0 (IntKind.i64.wrap (x2 + 1))).bind k)
 else
 none
 else
 k (.inr x1)
theorem c_laws_szIntSS_L5_bind {R : Type} (F : List D → Int → Int → Option ((Int × Int) ⊕ (Int))) (x0 : List D) (x1 : Int) (x2 : Int) (k : (Int × Int) ⊕ (Int) → Option R) : c_laws_szIntSS_L5 F x0 x1 x2 k = (c_laws_szIntSS_L5 F x0 x1 x2 some).bind k := by
 unfold c_laws_szIntSS_L5
 repeat' first|exact bnd_tail|exact bnd_none|exact bnd_leaf|apply bnd_ite|apply bnd_cond|apply bnd_sum|(apply bnd_bind;intro _)|intro _
def n_laws_szIntSS_L5 : Nat → List D → Int → Int → Option ((Int × Int) ⊕ (Int))
 | 0, _, _, _ => none
 | n + 1, x0, x1, x2 => c_laws_szIntSS_L5 (n_laws_szIntSS_L5 n) x0 x1 x2 some
noncomputable def laws_szIntSS_L5 (x0 : List D) (x1 : Int) (x2 : Int) : Option ((Int × Int) ⊕ (Int)) := ev (fun n => n_laws_szIntSS_L5 n x0 x1 x2)
def m_laws_szIntSS_L5 (F : List D → Int → Int → Option ((Int × Int) ⊕ (Int))) : Lent := ⟨5, ⟨(.rd (.slice (.int .i64)) :: .int .i64 :: .undef :: .undef :: .undef :: .int .i64 :: uu 21 ([])), []⟩, [(.ret, ⟨(.undef :: .int .i64 :: .undef :: .undef :: .int .i64 :: uu 22 ([])), []⟩), (.exit 0, ⟨(.undef :: .int .i64 :: uu 25 ([])), []⟩)], fun _ ds k => dL (fun x0 ds => dI (fun x1 ds => dI (fun x2 ds => dE ((F x0 x1 x2).bind (Sum.elim (fun y => k 0 [.I y.1, .I y.2]) (fun y => k 1 [.I y]))) ds) ds) ds) ds⟩
theorem q_laws_szIntSS_L5 (F : List D → Int → Int → Option ((Int × Int) ⊕ (Int))) (x0 : List D) (x1 : Int) (x2 : Int) : runLoop (ocOf [e_laws_szIntS]) (olOf [m_laws_szIntSS_L5 F]) A 38 (codeAt (bodyOf Try.f38) 5) ((m_laws_szIntSS_L5 F).sh.mk' [.L x0, .I x1, .I x2]) (fun e σ' => some (e, σ')) = c_laws_szIntSS_L5 F x0 x1 x2 (Sum.elim (fun y => some (.ret, SSt.mk' ⟨(.undef :: .int .i64 :: .undef :: .undef :: .int .i64 :: uu 22 ([])), []⟩ [.I y.1, .I y.2])) (fun y => some (.exit 0, SSt.mk' ⟨(.undef :: .int .i64 :: uu 25 ([])), []⟩ [.I y]))) := by kernel_rfl
theorem m_laws_szIntSS_L5_ok : ∀ n, (m_laws_szIntSS_L5 (n_laws_szIntSS_L5 n)).ok Try.prog (codeAt (bodyOf Try.f38) 5) := by
 intro n
 induction n with
 | zero =>
  intro R ds k r h
  unfold m_laws_szIntSS_L5 at h
  obtain ⟨x0, d0, rfl, h0⟩ := dL_some h
  obtain ⟨x1, d1, rfl, h1⟩ := dI_some h0
  obtain ⟨x2, d2, rfl, h2⟩ := dI_some h1
  obtain ⟨rfl, hE⟩ := dE_some h2
  obtain ⟨y, hy, hk⟩ := bnd_some hE
  cases hy
 | succ n ih =>
  intro R ds k r h
  unfold m_laws_szIntSS_L5 at h
  obtain ⟨x0, d0, rfl, h0⟩ := dL_some h
  obtain ⟨x1, d1, rfl, h1⟩ := dI_some h0
  obtain ⟨x2, d2, rfl, h2⟩ := dI_some h1
  obtain ⟨rfl, hE⟩ := dE_some h2
  obtain ⟨y, hy, hk⟩ := bnd_some hE
  have hq := q_laws_szIntSS_L5 (n_laws_szIntSS_L5 n) x0 x1 x2
  rw [c_laws_szIntSS_L5_bind] at hq
  rw [show c_laws_szIntSS_L5 (n_laws_szIntSS_L5 n) x0 x1 x2 some = some y from hy] at hq
  cases y with
  | inl y =>
   refine ⟨0, _, _, _, hk, rfl, loop_ok px (fx := ⟨Try.func38, by kernel_rfl, by kernel_rfl⟩) (entsOK_cons e_laws_szIntS_ok entsOK_nil) (lentsOK_cons ih lentsOK_nil) (by kernel_rfl) ?_⟩
   exact hq
  | inr y =>
   refine ⟨1, _, _, _, hk, rfl, loop_ok px (fx := ⟨Try.func38, by kernel_rfl, by kernel_rfl⟩) (entsOK_cons e_laws_szIntS_ok entsOK_nil) (lentsOK_cons ih lentsOK_nil) (by kernel_rfl) ?_⟩
   exact hq
noncomputable def e_laws_szIntSS_L5 : Lent := m_laws_szIntSS_L5 (laws_szIntSS_L5)
theorem e_laws_szIntSS_L5_ok : (e_laws_szIntSS_L5).ok Try.prog (codeAt (bodyOf Try.f38) 5) := by
 intro R ds k r h
 unfold e_laws_szIntSS_L5 m_laws_szIntSS_L5 at h
 obtain ⟨x0, d0, rfl, h0⟩ := dL_some h
 obtain ⟨x1, d1, rfl, h1⟩ := dI_some h0
 obtain ⟨x2, d2, rfl, h2⟩ := dI_some h1
 obtain ⟨rfl, hE⟩ := dE_some h2
 obtain ⟨y, hy, hk⟩ := bnd_some hE
 obtain ⟨n, hn⟩ := ev_some hy
 exact m_laws_szIntSS_L5_ok n R _ k r (show (n_laws_szIntSS_L5 n x0 x1 x2).bind _ = _ by rw [hn]; exact hk)

/-!-/
def c_laws_szIntSS {R : Type} (x0 : List D) (x1 : Int) (k : Int → Option R) : Option R :=
 bif decide (IntKind.i64.wrap (x1 - (↑x0.length : Int)) < (0 : Int)) then
 k (-1 : Int)
 else
 (laws_szIntSS_L5 x0 (IntKind.i64.wrap (x1 - (↑x0.length : Int))) (0 : Int)).bind (Sum.elim (fun y0 =>
 k y0.snd) (fun y1 =>
 k y1))
theorem c_laws_szIntSS_bind {R : Type} (x0 : List D) (x1 : Int) (k : Int → Option R) : c_laws_szIntSS x0 x1 k = (c_laws_szIntSS x0 x1 some).bind k := by
 unfold c_laws_szIntSS
 repeat' first|exact bnd_tail|exact bnd_none|exact bnd_leaf|apply bnd_ite|apply bnd_cond|apply bnd_sum|(apply bnd_bind;intro _)|intro _
def laws_szIntSS (x0 : List D) (x1 : Int) : Option (Int) := c_laws_szIntSS x0 x1 some
def e_laws_szIntSS : Ent := ⟨38, [.rd (.slice (.int .i64)), .int .i64], .int .i64, [.undef, .undef], fun _ ds k => dL (fun x0 ds => dI (fun x1 ds => dE ((laws_szIntSS x0 x1).bind (fun y => k [.I y])) ds) ds) ds⟩
theorem q_laws_szIntSS (x0 : List D) (x1 : Int) : runFn (ocOf []) (olOf [e_laws_szIntSS_L5]) A 38 Try.f38 (Sh.mks e_laws_szIntSS.sh [.L x0, .I x1]).1 (fun v os => some (v, os)) = c_laws_szIntSS x0 x1 (fun y => some ((e_laws_szIntSS.res.mk [.I y]).1, (Sh.mks e_laws_szIntSS.outs (e_laws_szIntSS.res.mk [.I y]).2).1)) := by kernel_rfl
theorem e_laws_szIntSS_ok : e_laws_szIntSS.ok Try.prog A := by
 intro R ds k r h
 unfold e_laws_szIntSS at h
 obtain ⟨x0, d0, rfl, h0⟩ := dL_some h
 obtain ⟨x1, d1, rfl, h1⟩ := dI_some h0
 obtain ⟨rfl, hE⟩ := dE_some h1
 obtain ⟨y, hy, hk⟩ := bnd_some hE
 refine ⟨_, hk, fn_ok px (fx := ⟨Try.func38, by kernel_rfl, by kernel_rfl⟩) entsOK_nil (lentsOK_cons e_laws_szIntSS_L5_ok lentsOK_nil) ?_⟩
 have hq := q_laws_szIntSS x0 x1
 rw [c_laws_szIntSS_bind] at hq
 rw [show c_laws_szIntSS x0 x1 some = some y from hy] at hq
 exact hq

/-!-/
def c_laws_szTable {R : Type} (x0 : List D) (x1 : Int) (k : Int → Option R) : Option R :=
 (laws_szIntSS x0 x1).bind (fun y0 =>
 bif decide (y0 < (0 : Int)) then
 k (-1 : Int)
 else
 k y0)
theorem c_laws_szTable_bind {R : Type} (x0 : List D) (x1 : Int) (k : Int → Option R) : c_laws_szTable x0 x1 k = (c_laws_szTable x0 x1 some).bind k := by
 unfold c_laws_szTable
 repeat' first|exact bnd_tail|exact bnd_none|exact bnd_leaf|apply bnd_ite|apply bnd_cond|apply bnd_sum|(apply bnd_bind;intro _)|intro _
def laws_szTable (x0 : List D) (x1 : Int) : Option (Int) := c_laws_szTable x0 x1 some
def e_laws_szTable : Ent := ⟨12, [.agg [.rd (.slice (.int .i64))], .int .i64], .int .i64, [.undef, .undef], fun _ ds k => dL (fun x0 ds => dI (fun x1 ds => dE ((laws_szTable x0 x1).bind (fun y => k [.I y])) ds) ds) ds⟩
theorem q_laws_szTable (x0 : List D) (x1 : Int) : runFn (ocOf [e_laws_szIntSS]) (olOf []) A 12 Try.f12 (Sh.mks e_laws_szTable.sh [.L x0, .I x1]).1 (fun v os => some (v, os)) = c_laws_szTable x0 x1 (fun y => some ((e_laws_szTable.res.mk [.I y]).1, (Sh.mks e_laws_szTable.outs (e_laws_szTable.res.mk [.I y]).2).1)) := by kernel_rfl
theorem e_laws_szTable_ok : e_laws_szTable.ok Try.prog A := by
 intro R ds k r h
 unfold e_laws_szTable at h
 obtain ⟨x0, d0, rfl, h0⟩ := dL_some h
 obtain ⟨x1, d1, rfl, h1⟩ := dI_some h0
 obtain ⟨rfl, hE⟩ := dE_some h1
 obtain ⟨y, hy, hk⟩ := bnd_some hE
 refine ⟨_, hk, fn_ok px (fx := ⟨Try.func12, by kernel_rfl, by kernel_rfl⟩) (entsOK_cons e_laws_szIntSS_ok entsOK_nil) lentsOK_nil ?_⟩
 have hq := q_laws_szTable x0 x1
 rw [c_laws_szTable_bind] at hq
 rw [show c_laws_szTable x0 x1 some = some y from hy] at hq
 exact hq

/-!-/
def c_laws_toIntS_L3 {R : Type} (F : List D → Int → List D → Option (List D)) (x0 : List D) (x1 : Int) (x2 : List D) (k : List D → Option R) : Option R :=
 bif decide (x1 < (↑x0.length : Int)) then
 if 0 ≤ x1 ∧ x1 < (↑x0.length : Int) then
 if 0 ≤ x1 ∧ x1 < (↑x2.length : Int) then
 if x1.toNat + 1 ≤ x2.length then
 (F x0 (IntKind.i64.wrap (x1 + 1)) (x2.set x1.toNat (D.int (x0.getD x1.toNat (D.int 0)).toInt))).bind k
 else
 none
 else
 none
 else
 none
 else
 k x2
theorem c_laws_toIntS_L3_bind {R : Type} (F : List D → Int → List D → Option (List D)) (x0 : List D) (x1 : Int) (x2 : List D) (k : List D → Option R) : c_laws_toIntS_L3 F x0 x1 x2 k = (c_laws_toIntS_L3 F x0 x1 x2 some).bind k := by
 unfold c_laws_toIntS_L3
 repeat' first|exact bnd_tail|exact bnd_none|exact bnd_leaf|apply bnd_ite|apply bnd_cond|apply bnd_sum|(apply bnd_bind;intro _)|intro _
def n_laws_toIntS_L3 : Nat → List D → Int → List D → Option (List D)
 | 0, _, _, _ => none
 | n + 1, x0, x1, x2 => c_laws_toIntS_L3 (n_laws_toIntS_L3 n) x0 x1 x2 some
noncomputable def laws_toIntS_L3 (x0 : List D) (x1 : Int) (x2 : List D) : Option (List D) := ev (fun n => n_laws_toIntS_L3 n x0 x1 x2)
def m_laws_toIntS_L3 (F : List D → Int → List D → Option (List D)) : Lent := ⟨3, ⟨(.rd (.int .i64) :: .undef :: .undef :: .full 1000 [] (.int .i64) :: .int .i64 :: uu 17 ([])), [(1000, .own (.int .i64))]⟩, [(.exit 0, ⟨(.undef :: .undef :: .undef :: .full 1000 [] (.int .i64) :: uu 18 ([])), [(1000, .own (.int .i64))]⟩)], fun _ ds k => dL (fun x0 ds => dI (fun x1 ds => dL (fun x2 ds => dE ((F x0 x1 x2).bind (fun y => k 0 [.L y])) ds) ds) ds) ds⟩
theorem q_laws_toIntS_L3 (F : List D → Int → List D → Option (List D)) (x0 : List D) (x1 : Int) (x2 : List D) : runLoop (ocOf []) (olOf [m_laws_toIntS_L3 F]) A 28 (codeAt (bodyOf Try.f28) 3) ((m_laws_toIntS_L3 F).sh.mk' [.L x0, .I x1, .L x2]) (fun e σ' => some (e, σ')) = c_laws_toIntS_L3 F x0 x1 x2 (fun y => some (.exit 0, SSt.mk' ⟨(.undef :: .undef :: .undef :: .full 1000 [] (.int .i64) :: uu 18 ([])), [(1000, .own (.int .i64))]⟩ [.L y])) := by kernel_rfl
theorem m_laws_toIntS_L3_ok : ∀ n, (m_laws_toIntS_L3 (n_laws_toIntS_L3 n)).ok Try.prog (codeAt (bodyOf Try.f28) 3) := by
 intro n
 induction n with
 | zero =>
  intro R ds k r h
  unfold m_laws_toIntS_L3 at h
  obtain ⟨x0, d0, rfl, h0⟩ := dL_some h
  obtain ⟨x1, d1, rfl, h1⟩ := dI_some h0
  obtain ⟨x2, d2, rfl, h2⟩ := dL_some h1
  obtain ⟨rfl, hE⟩ := dE_some h2
  obtain ⟨y, hy, hk⟩ := bnd_some hE
  cases hy
 | succ n ih =>
  intro R ds k r h
  unfold m_laws_toIntS_L3 at h
  obtain ⟨x0, d0, rfl, h0⟩ := dL_some h
  obtain ⟨x1, d1, rfl, h1⟩ := dI_some h0
  obtain ⟨x2, d2, rfl, h2⟩ := dL_some h1
  obtain ⟨rfl, hE⟩ := dE_some h2
  obtain ⟨y, hy, hk⟩ := bnd_some hE
  have hq := q_laws_toIntS_L3 (n_laws_toIntS_L3 n) x0 x1 x2
  rw [c_laws_toIntS_L3_bind] at hq
  rw [show c_laws_toIntS_L3 (n_laws_toIntS_L3 n) x0 x1 x2 some = some y from hy] at hq
  refine ⟨0, _, _, _, hk, rfl, loop_ok px (fx := ⟨Try.func28, by kernel_rfl, by kernel_rfl⟩) entsOK_nil (lentsOK_cons ih lentsOK_nil) (by kernel_rfl) ?_⟩
  exact hq
noncomputable def e_laws_toIntS_L3 : Lent := m_laws_toIntS_L3 (laws_toIntS_L3)
theorem e_laws_toIntS_L3_ok : (e_laws_toIntS_L3).ok Try.prog (codeAt (bodyOf Try.f28) 3) := by
 intro R ds k r h
 unfold e_laws_toIntS_L3 m_laws_toIntS_L3 at h
 obtain ⟨x0, d0, rfl, h0⟩ := dL_some h
 obtain ⟨x1, d1, rfl, h1⟩ := dI_some h0
 obtain ⟨x2, d2, rfl, h2⟩ := dL_some h1
 obtain ⟨rfl, hE⟩ := dE_some h2
 obtain ⟨y, hy, hk⟩ := bnd_some hE
 obtain ⟨n, hn⟩ := ev_some hy
 exact m_laws_toIntS_L3_ok n R _ k r (show (n_laws_toIntS_L3 n x0 x1 x2).bind _ = _ by rw [hn]; exact hk)

/-!-/
def c_laws_toIntS {R : Type} (x0 : List D) (k : List D → Option R) : Option R :=
 if (0 : Int) ≤ (↑x0.length : Int) ∧ (↑x0.length : Int) ≤ (↑x0.length : Int) ∧ (↑x0.length : Int) ≤ (4294967296 : Int) then
 (laws_toIntS_L3 x0 (0 : Int) (List.replicate (↑x0.length : Int).toNat (D.int 0))).bind (fun y0 =>
 k y0)
 else
 none
theorem c_laws_toIntS_bind {R : Type} (x0 : List D) (k : List D → Option R) : c_laws_toIntS x0 k = (c_laws_toIntS x0 some).bind k := by
 unfold c_laws_toIntS
 repeat' first|exact bnd_tail|exact bnd_none|exact bnd_leaf|apply bnd_ite|apply bnd_cond|apply bnd_sum|(apply bnd_bind;intro _)|intro _
def laws_toIntS (x0 : List D) : Option (List D) := c_laws_toIntS x0 some
def e_laws_toIntS : Ent := ⟨28, [.rd (.int .i64)], .own (.int .i64), [.undef], fun _ ds k => dL (fun x0 ds => dE ((laws_toIntS x0).bind (fun y => k [.L y])) ds) ds⟩
theorem q_laws_toIntS (x0 : List D) : runFn (ocOf []) (olOf [e_laws_toIntS_L3]) A 28 Try.f28 (Sh.mks e_laws_toIntS.sh [.L x0]).1 (fun v os => some (v, os)) = c_laws_toIntS x0 (fun y => some ((e_laws_toIntS.res.mk [.L y]).1, (Sh.mks e_laws_toIntS.outs (e_laws_toIntS.res.mk [.L y]).2).1)) := by kernel_rfl
theorem e_laws_toIntS_ok : e_laws_toIntS.ok Try.prog A := by
 intro R ds k r h
 unfold e_laws_toIntS at h
 obtain ⟨x0, d0, rfl, h0⟩ := dL_some h
 obtain ⟨rfl, hE⟩ := dE_some h0
 obtain ⟨y, hy, hk⟩ := bnd_some hE
 refine ⟨_, hk, fn_ok px (fx := ⟨Try.func28, by kernel_rfl, by kernel_rfl⟩) entsOK_nil (lentsOK_cons e_laws_toIntS_L3_ok lentsOK_nil) ?_⟩
 have hq := q_laws_toIntS x0
 rw [c_laws_toIntS_bind] at hq
 rw [show c_laws_toIntS x0 some = some y from hy] at hq
 exact hq

/-!-/
def c_laws_toIntSS_L3 {R : Type} (F : List D → Int → List D → Option (List D)) (x0 : List D) (x1 : Int) (x2 : List D) (k : List D → Option R) : Option R :=
 bif decide (x1 < (↑x0.length : Int)) then
 if 0 ≤ x1 ∧ x1 < (↑x0.length : Int) then
 (laws_toIntS ((x0.getD x1.toNat (D.int 0)).items)).bind (fun y0 =>
 if 0 ≤ x1 ∧ x1 < (↑x2.length : Int) then
 if x1.toNat + 1 ≤ x2.length then
 (F x0 (IntKind.i64.wrap (x1 + 1)) (x2.set x1.toNat (D.node y0))).bind k
 else
 none
 else
 none)
 else
 none
 else
 k x2
theorem c_laws_toIntSS_L3_bind {R : Type} (F : List D → Int → List D → Option (List D)) (x0 : List D) (x1 : Int) (x2 : List D) (k : List D → Option R) : c_laws_toIntSS_L3 F x0 x1 x2 k = (c_laws_toIntSS_L3 F x0 x1 x2 some).bind k := by
 unfold c_laws_toIntSS_L3
 repeat' first|exact bnd_tail|exact bnd_none|exact bnd_leaf|apply bnd_ite|apply bnd_cond|apply bnd_sum|(apply bnd_bind;intro _)|intro _
def n_laws_toIntSS_L3 : Nat → List D → Int → List D → Option (List D)
 | 0, _, _, _ => none
 | n + 1, x0, x1, x2 => c_laws_toIntSS_L3 (n_laws_toIntSS_L3 n) x0 x1 x2 some
noncomputable def laws_toIntSS_L3 (x0 : List D) (x1 : Int) (x2 : List D) : Option (List D) := ev (fun n => n_laws_toIntSS_L3 n x0 x1 x2)
def m_laws_toIntSS_L3 (F : List D → Int → List D → Option (List D)) : Lent := ⟨3, ⟨(.rd (.slice (.int .i64)) :: .undef :: .undef :: .full 1000 [] (.slice (.int .i64)) :: .int .i64 :: uu 18 ([])), [(1000, .own (.slice (.int .i64)))]⟩, [(.exit 0, ⟨(.undef :: .undef :: .undef :: .full 1000 [] (.slice (.int .i64)) :: uu 19 ([])), [(1000, .own (.slice (.int .i64)))]⟩)], fun _ ds k => dL (fun x0 ds => dI (fun x1 ds => dL (fun x2 ds => dE ((F x0 x1 x2).bind (fun y => k 0 [.L y])) ds) ds) ds) ds⟩
theorem q_laws_toIntSS_L3 (F : List D → Int → List D → Option (List D)) (x0 : List D) (x1 : Int) (x2 : List D) : runLoop (ocOf [e_laws_toIntS]) (olOf [m_laws_toIntSS_L3 F]) A 42 (codeAt (bodyOf Try.f42) 3) ((m_laws_toIntSS_L3 F).sh.mk' [.L x0, .I x1, .L x2]) (fun e σ' => some (e, σ')) = c_laws_toIntSS_L3 F x0 x1 x2 (fun y => some (.exit 0, SSt.mk' ⟨(.undef :: .undef :: .undef :: .full 1000 [] (.slice (.int .i64)) :: uu 19 ([])), [(1000, .own (.slice (.int .i64)))]⟩ [.L y])) := by kernel_rfl
theorem m_laws_toIntSS_L3_ok : ∀ n, (m_laws_toIntSS_L3 (n_laws_toIntSS_L3 n)).ok Try.prog (codeAt (bodyOf Try.f42) 3) := by
 intro n
 induction n with
 | zero =>
  intro R ds k r h
  unfold m_laws_toIntSS_L3 at h
  obtain ⟨x0, d0, rfl, h0⟩ := dL_some h
  obtain ⟨x1, d1, rfl, h1⟩ := dI_some h0
  obtain ⟨x2, d2, rfl, h2⟩ := dL_some h1
  obtain ⟨rfl, hE⟩ := dE_some h2
  obtain ⟨y, hy, hk⟩ := bnd_some hE
  cases hy
 | succ n ih =>
  intro R ds k r h
  unfold m_laws_toIntSS_L3 at h
  obtain ⟨x0, d0, rfl, h0⟩ := dL_some h
  obtain ⟨x1, d1, rfl, h1⟩ := dI_some h0
  obtain ⟨x2, d2, rfl, h2⟩ := dL_some h1
  obtain ⟨rfl, hE⟩ := dE_some h2
  obtain ⟨y, hy, hk⟩ := bnd_some hE
  have hq := q_laws_toIntSS_L3 (n_laws_toIntSS_L3 n) x0 x1 x2
  rw [c_laws_toIntSS_L3_bind] at hq
  rw [show c_laws_toIntSS_L3 (n_laws_toIntSS_L3 n) x0 x1 x2 some = some y from hy] at hq
  refine ⟨0, _, _, _, hk, rfl, loop_ok px (fx := ⟨Try.func42, by kernel_rfl, by kernel_rfl⟩) (entsOK_cons e_laws_toIntS_ok entsOK_nil) (lentsOK_cons ih lentsOK_nil) (by kernel_rfl) ?_⟩
  exact hq
noncomputable def e_laws_toIntSS_L3 : Lent := m_laws_toIntSS_L3 (laws_toIntSS_L3)
theorem e_laws_toIntSS_L3_ok : (e_laws_toIntSS_L3).ok Try.prog (codeAt (bodyOf Try.f42) 3) := by
 intro R ds k r h
 unfold e_laws_toIntSS_L3 m_laws_toIntSS_L3 at h
 obtain ⟨x0, d0, rfl, h0⟩ := dL_some h
 obtain ⟨x1, d1, rfl, h1⟩ := dI_some h0
 obtain ⟨x2, d2, rfl, h2⟩ := dL_some h1
 obtain ⟨rfl, hE⟩ := dE_some h2
 obtain ⟨y, hy, hk⟩ := bnd_some hE
 obtain ⟨n, hn⟩ := ev_some hy
 exact m_laws_toIntSS_L3_ok n R _ k r (show (n_laws_toIntSS_L3 n x0 x1 x2).bind _ = _ by rw [hn]; exact hk)

/-!-/
def c_laws_toIntSS {R : Type} (x0 : List D) (k : List D → Option R) : Option R :=
 if (0 : Int) ≤ (↑x0.length : Int) ∧ (↑x0.length : Int) ≤ (↑x0.length : Int) ∧ (↑x0.length : Int) ≤ (4294967296 : Int) then
 (laws_toIntSS_L3 x0 (0 : Int) (List.replicate (↑x0.length : Int).toNat (D.node []))).bind (fun y0 =>
 k y0)
 else
 none
theorem c_laws_toIntSS_bind {R : Type} (x0 : List D) (k : List D → Option R) : c_laws_toIntSS x0 k = (c_laws_toIntSS x0 some).bind k := by
 unfold c_laws_toIntSS
 repeat' first|exact bnd_tail|exact bnd_none|exact bnd_leaf|apply bnd_ite|apply bnd_cond|apply bnd_sum|(apply bnd_bind;intro _)|intro _
def laws_toIntSS (x0 : List D) : Option (List D) := c_laws_toIntSS x0 some
def e_laws_toIntSS : Ent := ⟨42, [.rd (.slice (.int .i64))], .own (.slice (.int .i64)), [.undef], fun _ ds k => dL (fun x0 ds => dE ((laws_toIntSS x0).bind (fun y => k [.L y])) ds) ds⟩
theorem q_laws_toIntSS (x0 : List D) : runFn (ocOf []) (olOf [e_laws_toIntSS_L3]) A 42 Try.f42 (Sh.mks e_laws_toIntSS.sh [.L x0]).1 (fun v os => some (v, os)) = c_laws_toIntSS x0 (fun y => some ((e_laws_toIntSS.res.mk [.L y]).1, (Sh.mks e_laws_toIntSS.outs (e_laws_toIntSS.res.mk [.L y]).2).1)) := by kernel_rfl
theorem e_laws_toIntSS_ok : e_laws_toIntSS.ok Try.prog A := by
 intro R ds k r h
 unfold e_laws_toIntSS at h
 obtain ⟨x0, d0, rfl, h0⟩ := dL_some h
 obtain ⟨rfl, hE⟩ := dE_some h0
 obtain ⟨y, hy, hk⟩ := bnd_some hE
 refine ⟨_, hk, fn_ok px (fx := ⟨Try.func42, by kernel_rfl, by kernel_rfl⟩) entsOK_nil (lentsOK_cons e_laws_toIntSS_L3_ok lentsOK_nil) ?_⟩
 have hq := q_laws_toIntSS x0
 rw [c_laws_toIntSS_bind] at hq
 rw [show c_laws_toIntSS x0 some = some y from hy] at hq
 exact hq

/-!-/
def c_laws_toTable {R : Type} (x0 : List D) (k : List D → Option R) : Option R :=
 (laws_toIntSS x0).bind (fun y0 =>
 k y0)
theorem c_laws_toTable_bind {R : Type} (x0 : List D) (k : List D → Option R) : c_laws_toTable x0 k = (c_laws_toTable x0 some).bind k := by
 unfold c_laws_toTable
 repeat' first|exact bnd_tail|exact bnd_none|exact bnd_leaf|apply bnd_ite|apply bnd_cond|apply bnd_sum|(apply bnd_bind;intro _)|intro _
def laws_toTable (x0 : List D) : Option (List D) := c_laws_toTable x0 some
def e_laws_toTable : Ent := ⟨14, [.agg [.rd (.slice (.int .i64))]], .agg [.own (.slice (.int .i64))], [.undef], fun _ ds k => dL (fun x0 ds => dE ((laws_toTable x0).bind (fun y => k [.L y])) ds) ds⟩
theorem q_laws_toTable (x0 : List D) : runFn (ocOf [e_laws_toIntSS]) (olOf []) A 14 Try.f14 (Sh.mks e_laws_toTable.sh [.L x0]).1 (fun v os => some (v, os)) = c_laws_toTable x0 (fun y => some ((e_laws_toTable.res.mk [.L y]).1, (Sh.mks e_laws_toTable.outs (e_laws_toTable.res.mk [.L y]).2).1)) := by kernel_rfl
theorem e_laws_toTable_ok : e_laws_toTable.ok Try.prog A := by
 intro R ds k r h
 unfold e_laws_toTable at h
 obtain ⟨x0, d0, rfl, h0⟩ := dL_some h
 obtain ⟨rfl, hE⟩ := dE_some h0
 obtain ⟨y, hy, hk⟩ := bnd_some hE
 refine ⟨_, hk, fn_ok px (fx := ⟨Try.func14, by kernel_rfl, by kernel_rfl⟩) (entsOK_cons e_laws_toIntSS_ok entsOK_nil) lentsOK_nil ?_⟩
 have hq := q_laws_toTable x0
 rw [c_laws_toTable_bind] at hq
 rw [show c_laws_toTable x0 some = some y from hy] at hq
 exact hq

/-!-/
def c_spec_l1In {R : Type} (x0 : Int) (x1 : Int) (x2 : Int) (k : Bool → Option R) : Option R :=
 bif decide (x1 ≤ x0) then
 k (decide (x0 ≤ x2))
 else
 k Bool.false
theorem c_spec_l1In_bind {R : Type} (x0 : Int) (x1 : Int) (x2 : Int) (k : Bool → Option R) : c_spec_l1In x0 x1 x2 k = (c_spec_l1In x0 x1 x2 some).bind k := by
 unfold c_spec_l1In
 repeat' first|exact bnd_tail|exact bnd_none|exact bnd_leaf|apply bnd_ite|apply bnd_cond|apply bnd_sum|(apply bnd_bind;intro _)|intro _
def spec_l1In (x0 : Int) (x1 : Int) (x2 : Int) : Option (Bool) := c_spec_l1In x0 x1 x2 some
def e_spec_l1In : Ent := ⟨40, [.int .i64, .int .i64, .int .i64], .bool, [.undef, .undef, .undef], fun _ ds k => dI (fun x0 ds => dI (fun x1 ds => dI (fun x2 ds => dE ((spec_l1In x0 x1 x2).bind (fun y => k [.B y])) ds) ds) ds) ds⟩
theorem q_spec_l1In (x0 : Int) (x1 : Int) (x2 : Int) : runFn (ocOf []) (olOf []) A 40 Try.f40 (Sh.mks e_spec_l1In.sh [.I x0, .I x1, .I x2]).1 (fun v os => some (v, os)) = c_spec_l1In x0 x1 x2 (fun y => some ((e_spec_l1In.res.mk [.B y]).1, (Sh.mks e_spec_l1In.outs (e_spec_l1In.res.mk [.B y]).2).1)) := by kernel_rfl
theorem e_spec_l1In_ok : e_spec_l1In.ok Try.prog A := by
 intro R ds k r h
 unfold e_spec_l1In at h
 obtain ⟨x0, d0, rfl, h0⟩ := dI_some h
 obtain ⟨x1, d1, rfl, h1⟩ := dI_some h0
 obtain ⟨x2, d2, rfl, h2⟩ := dI_some h1
 obtain ⟨rfl, hE⟩ := dE_some h2
 obtain ⟨y, hy, hk⟩ := bnd_some hE
 refine ⟨_, hk, fn_ok px (fx := ⟨Try.func40, by kernel_rfl, by kernel_rfl⟩) entsOK_nil lentsOK_nil ?_⟩
 have hq := q_spec_l1In x0 x1 x2
 rw [c_spec_l1In_bind] at hq
 rw [show c_spec_l1In x0 x1 x2 some = some y from hy] at hq
 exact hq

/-!-/
def c_spec_l1Has_L2 {R : Type} (F : List D → Int → Int → Option ((Bool) ⊕ (Unit))) (x0 : List D) (x1 : Int) (x2 : Int) (k : (Bool) ⊕ (Unit) → Option R) : Option R :=
 bif decide (x2 < (↑x0.length : Int)) then
 if 0 ≤ x2 ∧ x2 < (↑x0.length : Int) then
 bif decide ((x0.getD x2.toNat (D.int 0)).toInt = x1) then
 k (.inl Bool.true)
 else
 (F x0 x1 (IntKind.i64.wrap (x2 + 1))).bind k
 else
 none
 else
 k (.inr ())
theorem c_spec_l1Has_L2_bind {R : Type} (F : List D → Int → Int → Option ((Bool) ⊕ (Unit))) (x0 : List D) (x1 : Int) (x2 : Int) (k : (Bool) ⊕ (Unit) → Option R) : c_spec_l1Has_L2 F x0 x1 x2 k = (c_spec_l1Has_L2 F x0 x1 x2 some).bind k := by
 unfold c_spec_l1Has_L2
 repeat' first|exact bnd_tail|exact bnd_none|exact bnd_leaf|apply bnd_ite|apply bnd_cond|apply bnd_sum|(apply bnd_bind;intro _)|intro _
def n_spec_l1Has_L2 : Nat → List D → Int → Int → Option ((Bool) ⊕ (Unit))
 | 0, _, _, _ => none
 | n + 1, x0, x1, x2 => c_spec_l1Has_L2 (n_spec_l1Has_L2 n) x0 x1 x2 some
noncomputable def spec_l1Has_L2 (x0 : List D) (x1 : Int) (x2 : Int) : Option ((Bool) ⊕ (Unit)) := ev (fun n => n_spec_l1Has_L2 n x0 x1 x2)
def m_spec_l1Has_L2 (F : List D → Int → Int → Option ((Bool) ⊕ (Unit))) : Lent := ⟨2, ⟨(.rd (.int .i64) :: .int .i64 :: .undef :: .undef :: .undef :: .int .i64 :: uu 12 ([])), []⟩, [(.ret, ⟨(uu 4 (.bool :: uu 13 ([]))), []⟩), (.exit 0, ⟨(uu 18 ([])), []⟩)], fun _ ds k => dL (fun x0 ds => dI (fun x1 ds => dI (fun x2 ds => dE ((F x0 x1 x2).bind (Sum.elim (fun y => k 0 [.B y]) (fun y => k 1 []))) ds) ds) ds) ds⟩
theorem q_spec_l1Has_L2 (F : List D → Int → Int → Option ((Bool) ⊕ (Unit))) (x0 : List D) (x1 : Int) (x2 : Int) : runLoop (ocOf []) (olOf [m_spec_l1Has_L2 F]) A 74 (codeAt (bodyOf Try.f74) 2) ((m_spec_l1Has_L2 F).sh.mk' [.L x0, .I x1, .I x2]) (fun e σ' => some (e, σ')) = c_spec_l1Has_L2 F x0 x1 x2 (Sum.elim (fun y => some (.ret, SSt.mk' ⟨(uu 4 (.bool :: uu 13 ([]))), []⟩ [.B y])) (fun y => some (.exit 0, SSt.mk' ⟨(uu 18 ([])), []⟩ []))) := by kernel_rfl
theorem m_spec_l1Has_L2_ok : ∀ n, (m_spec_l1Has_L2 (n_spec_l1Has_L2 n)).ok Try.prog (codeAt (bodyOf Try.f74) 2) := by
 intro n
 induction n with
 | zero =>
  intro R ds k r h
  unfold m_spec_l1Has_L2 at h
  obtain ⟨x0, d0, rfl, h0⟩ := dL_some h
  obtain ⟨x1, d1, rfl, h1⟩ := dI_some h0
  obtain ⟨x2, d2, rfl, h2⟩ := dI_some h1
  obtain ⟨rfl, hE⟩ := dE_some h2
  obtain ⟨y, hy, hk⟩ := bnd_some hE
  cases hy
 | succ n ih =>
  intro R ds k r h
  unfold m_spec_l1Has_L2 at h
  obtain ⟨x0, d0, rfl, h0⟩ := dL_some h
  obtain ⟨x1, d1, rfl, h1⟩ := dI_some h0
  obtain ⟨x2, d2, rfl, h2⟩ := dI_some h1
  obtain ⟨rfl, hE⟩ := dE_some h2
  obtain ⟨y, hy, hk⟩ := bnd_some hE
  have hq := q_spec_l1Has_L2 (n_spec_l1Has_L2 n) x0 x1 x2
  rw [c_spec_l1Has_L2_bind] at hq
  rw [show c_spec_l1Has_L2 (n_spec_l1Has_L2 n) x0 x1 x2 some = some y from hy] at hq
  cases y with
  | inl y =>
   refine ⟨0, _, _, _, hk, rfl, loop_ok px (fx := ⟨Try.func74, by kernel_rfl, by kernel_rfl⟩) entsOK_nil (lentsOK_cons ih lentsOK_nil) (by kernel_rfl) ?_⟩
   exact hq
  | inr y =>
   refine ⟨1, _, _, _, hk, rfl, loop_ok px (fx := ⟨Try.func74, by kernel_rfl, by kernel_rfl⟩) entsOK_nil (lentsOK_cons ih lentsOK_nil) (by kernel_rfl) ?_⟩
   exact hq
noncomputable def e_spec_l1Has_L2 : Lent := m_spec_l1Has_L2 (spec_l1Has_L2)
theorem e_spec_l1Has_L2_ok : (e_spec_l1Has_L2).ok Try.prog (codeAt (bodyOf Try.f74) 2) := by
 intro R ds k r h
 unfold e_spec_l1Has_L2 m_spec_l1Has_L2 at h
 obtain ⟨x0, d0, rfl, h0⟩ := dL_some h
 obtain ⟨x1, d1, rfl, h1⟩ := dI_some h0
 obtain ⟨x2, d2, rfl, h2⟩ := dI_some h1
 obtain ⟨rfl, hE⟩ := dE_some h2
 obtain ⟨y, hy, hk⟩ := bnd_some hE
 obtain ⟨n, hn⟩ := ev_some hy
 exact m_spec_l1Has_L2_ok n R _ k r (show (n_spec_l1Has_L2 n x0 x1 x2).bind _ = _ by rw [hn]; exact hk)

/-!-/
def c_spec_l1Has {R : Type} (x0 : List D) (x1 : Int) (k : Bool → Option R) : Option R :=
 (spec_l1Has_L2 x0 x1 (0 : Int)).bind (Sum.elim (fun y0 =>
 k y0) (fun y1 =>
 k Bool.false))
theorem c_spec_l1Has_bind {R : Type} (x0 : List D) (x1 : Int) (k : Bool → Option R) : c_spec_l1Has x0 x1 k = (c_spec_l1Has x0 x1 some).bind k := by
 unfold c_spec_l1Has
 repeat' first|exact bnd_tail|exact bnd_none|exact bnd_leaf|apply bnd_ite|apply bnd_cond|apply bnd_sum|(apply bnd_bind;intro _)|intro _
def spec_l1Has (x0 : List D) (x1 : Int) : Option (Bool) := c_spec_l1Has x0 x1 some
def e_spec_l1Has : Ent := ⟨74, [.rd (.int .i64), .int .i64], .bool, [.undef, .undef], fun _ ds k => dL (fun x0 ds => dI (fun x1 ds => dE ((spec_l1Has x0 x1).bind (fun y => k [.B y])) ds) ds) ds⟩
theorem q_spec_l1Has (x0 : List D) (x1 : Int) : runFn (ocOf []) (olOf [e_spec_l1Has_L2]) A 74 Try.f74 (Sh.mks e_spec_l1Has.sh [.L x0, .I x1]).1 (fun v os => some (v, os)) = c_spec_l1Has x0 x1 (fun y => some ((e_spec_l1Has.res.mk [.B y]).1, (Sh.mks e_spec_l1Has.outs (e_spec_l1Has.res.mk [.B y]).2).1)) := by kernel_rfl
theorem e_spec_l1Has_ok : e_spec_l1Has.ok Try.prog A := by
 intro R ds k r h
 unfold e_spec_l1Has at h
 obtain ⟨x0, d0, rfl, h0⟩ := dL_some h
 obtain ⟨x1, d1, rfl, h1⟩ := dI_some h0
 obtain ⟨rfl, hE⟩ := dE_some h1
 obtain ⟨y, hy, hk⟩ := bnd_some hE
 refine ⟨_, hk, fn_ok px (fx := ⟨Try.func74, by kernel_rfl, by kernel_rfl⟩) entsOK_nil (lentsOK_cons e_spec_l1Has_L2_ok lentsOK_nil) ?_⟩
 have hq := q_spec_l1Has x0 x1
 rw [c_spec_l1Has_bind] at hq
 rw [show c_spec_l1Has x0 x1 some = some y from hy] at hq
 exact hq

/-!-/
def c_spec_l16Order_L2 {R : Type} (F : List D → Int → List D → Option ((List D × Bool × List D) ⊕ (List D × List D))) (x0 : List D) (x1 : Int) (x2 : List D) (k : (List D × Bool × List D) ⊕ (List D × List D) → Option R) : Option R :=
 bif decide (x1 < (↑x0.length : Int)) then
 if 0 ≤ x1 ∧ x1 < (↑x0.length : Int) then
 (spec_l1In ((x0.getD x1.toNat (D.int 0)).toInt) (0 : Int) (IntKind.i64.wrap ((↑x2.length : Int) - (1 : Int)))).bind (fun y0 =>
 bif !y0 then
 k (.inl (x0, Bool.false, x2))
 else
 if (0 : Int) ≤ (0 : Int) ∧ 0 ≤ x1 ∧ x1 ≤ (↑x0.length : Int) then
 if 0 ≤ x1 ∧ x1 < (↑x0.length : Int) then
 (spec_l1Has (List.take (x1.toNat - (0 : Nat)) (List.drop (0 : Nat) x0)) ((x0.getD x1.toNat (D.int 0)).toInt)).bind (fun y1 =>
 bif y1 then
 k (.inl (x0, Bool.false, x2))
 else
 (F x0 (IntKind.i64.wrap (x1 + 1)) x2).bind k)
 else
 none
 else
 none)
 else
 none
 else
 k (.inr (x0, x2))
theorem c_spec_l16Order_L2_bind {R : Type} (F : List D → Int → List D → Option ((List D × Bool × List D) ⊕ (List D × List D))) (x0 : List D) (x1 : Int) (x2 : List D) (k : (List D × Bool × List D) ⊕ (List D × List D) → Option R) : c_spec_l16Order_L2 F x0 x1 x2 k = (c_spec_l16Order_L2 F x0 x1 x2 some).bind k := by
 unfold c_spec_l16Order_L2
 repeat' first|exact bnd_tail|exact bnd_none|exact bnd_leaf|apply bnd_ite|apply bnd_cond|apply bnd_sum|(apply bnd_bind;intro _)|intro _
def n_spec_l16Order_L2 : Nat → List D → Int → List D → Option ((List D × Bool × List D) ⊕ (List D × List D))
 | 0, _, _, _ => none
 | n + 1, x0, x1, x2 => c_spec_l16Order_L2 (n_spec_l16Order_L2 n) x0 x1 x2 some
noncomputable def spec_l16Order_L2 (x0 : List D) (x1 : Int) (x2 : List D) : Option ((List D × Bool × List D) ⊕ (List D × List D)) := ev (fun n => n_spec_l16Order_L2 n x0 x1 x2)
def m_spec_l16Order_L2 (F : List D → Int → List D → Option ((List D × Bool × List D) ⊕ (List D × List D))) : Lent := ⟨2, ⟨(.undef :: .rd (.int .i64) :: .ptr 1000 [0] :: .undef :: .undef :: .int .i64 :: uu 36 ([])), [(1000, .obox (.agg [.rd (.slice (.int .i64))]))]⟩, [(.ret, ⟨(.undef :: .rd (.int .i64) :: .ptr 1000 [0] :: .undef :: .bool :: uu 37 ([])), [(1000, .obox (.agg [.rd (.slice (.int .i64))]))]⟩), (.exit 0, ⟨(.undef :: .rd (.int .i64) :: .ptr 1000 [0] :: uu 39 ([])), [(1000, .obox (.agg [.rd (.slice (.int .i64))]))]⟩)], fun _ ds k => dL (fun x0 ds => dI (fun x1 ds => dL (fun x2 ds => dE ((F x0 x1 x2).bind (Sum.elim (fun y => k 0 [.L y.1, .B y.2.1, .L y.2.2]) (fun y => k 1 [.L y.1, .L y.2]))) ds) ds) ds) ds⟩
theorem q_spec_l16Order_L2 (F : List D → Int → List D → Option ((List D × Bool × List D) ⊕ (List D × List D))) (x0 : List D) (x1 : Int) (x2 : List D) : runLoop (ocOf [e_spec_l1In, e_spec_l1Has]) (olOf [m_spec_l16Order_L2 F]) A 54 (codeAt (bodyOf Try.f54) 2) ((m_spec_l16Order_L2 F).sh.mk' [.L x0, .I x1, .L x2]) (fun e σ' => some (e, σ')) = c_spec_l16Order_L2 F x0 x1 x2 (Sum.elim (fun y => some (.ret, SSt.mk' ⟨(.undef :: .rd (.int .i64) :: .ptr 1000 [0] :: .undef :: .bool :: uu 37 ([])), [(1000, .obox (.agg [.rd (.slice (.int .i64))]))]⟩ [.L y.1, .B y.2.1, .L y.2.2])) (fun y => some (.exit 0, SSt.mk' ⟨(.undef :: .rd (.int .i64) :: .ptr 1000 [0] :: uu 39 ([])), [(1000, .obox (.agg [.rd (.slice (.int .i64))]))]⟩ [.L y.1, .L y.2]))) := by kernel_rfl
theorem m_spec_l16Order_L2_ok : ∀ n, (m_spec_l16Order_L2 (n_spec_l16Order_L2 n)).ok Try.prog (codeAt (bodyOf Try.f54) 2) := by
 intro n
 induction n with
 | zero =>
  intro R ds k r h
  unfold m_spec_l16Order_L2 at h
  obtain ⟨x0, d0, rfl, h0⟩ := dL_some h
  obtain ⟨x1, d1, rfl, h1⟩ := dI_some h0
  obtain ⟨x2, d2, rfl, h2⟩ := dL_some h1
  obtain ⟨rfl, hE⟩ := dE_some h2
  obtain ⟨y, hy, hk⟩ := bnd_some hE
  cases hy
 | succ n ih =>
  intro R ds k r h
  unfold m_spec_l16Order_L2 at h
  obtain ⟨x0, d0, rfl, h0⟩ := dL_some h
  obtain ⟨x1, d1, rfl, h1⟩ := dI_some h0
  obtain ⟨x2, d2, rfl, h2⟩ := dL_some h1
  obtain ⟨rfl, hE⟩ := dE_some h2
  obtain ⟨y, hy, hk⟩ := bnd_some hE
  have hq := q_spec_l16Order_L2 (n_spec_l16Order_L2 n) x0 x1 x2
  rw [c_spec_l16Order_L2_bind] at hq
  rw [show c_spec_l16Order_L2 (n_spec_l16Order_L2 n) x0 x1 x2 some = some y from hy] at hq
  cases y with
  | inl y =>
   refine ⟨0, _, _, _, hk, rfl, loop_ok px (fx := ⟨Try.func54, by kernel_rfl, by kernel_rfl⟩) (entsOK_cons e_spec_l1In_ok (entsOK_cons e_spec_l1Has_ok entsOK_nil)) (lentsOK_cons ih lentsOK_nil) (by kernel_rfl) ?_⟩
   exact hq
  | inr y =>
   refine ⟨1, _, _, _, hk, rfl, loop_ok px (fx := ⟨Try.func54, by kernel_rfl, by kernel_rfl⟩) (entsOK_cons e_spec_l1In_ok (entsOK_cons e_spec_l1Has_ok entsOK_nil)) (lentsOK_cons ih lentsOK_nil) (by kernel_rfl) ?_⟩
   exact hq
noncomputable def e_spec_l16Order_L2 : Lent := m_spec_l16Order_L2 (spec_l16Order_L2)
theorem e_spec_l16Order_L2_ok : (e_spec_l16Order_L2).ok Try.prog (codeAt (bodyOf Try.f54) 2) := by
 intro R ds k r h
 unfold e_spec_l16Order_L2 m_spec_l16Order_L2 at h
 obtain ⟨x0, d0, rfl, h0⟩ := dL_some h
 obtain ⟨x1, d1, rfl, h1⟩ := dI_some h0
 obtain ⟨x2, d2, rfl, h2⟩ := dL_some h1
 obtain ⟨rfl, hE⟩ := dE_some h2
 obtain ⟨y, hy, hk⟩ := bnd_some hE
 obtain ⟨n, hn⟩ := ev_some hy
 exact m_spec_l16Order_L2_ok n R _ k r (show (n_spec_l16Order_L2 n x0 x1 x2).bind _ = _ by rw [hn]; exact hk)

/-!-/
def c_spec_l16Good_L11 {R : Type} (F : Int → Int → List D → Int → List D → Option ((Bool × Int × Int × List D) ⊕ (Int × Int × List D))) (x0 : Int) (x1 : Int) (x2 : List D) (x3 : Int) (x4 : List D) (k : (Bool × Int × Int × List D) ⊕ (Int × Int × List D) → Option R) : Option R :=
 bif decide (x3 < (↑x2.length : Int)) then
 if 0 ≤ x3 ∧ x3 < (↑x2.length : Int) then
 (spec_l1In ((x2.getD x3.toNat (D.int 0)).toInt) (0 : Int) (1000 : Int)).bind (fun y0 =>
 bif !y0 then
 k (.inl (Bool.false, x0, x1, x4))
 else
 (F x0 x1 x2 (IntKind.i64.wrap (x3 + 1)) x4).bind k)
 else
 none
 else
 k (.inr (x0, x1, x4))
theorem c_spec_l16Good_L11_bind {R : Type} (F : Int → Int → List D → Int → List D → Option ((Bool × Int × Int × List D) ⊕ (Int × Int × List D))) (x0 : Int) (x1 : Int) (x2 : List D) (x3 : Int) (x4 : List D) (k : (Bool × Int × Int × List D) ⊕ (Int × Int × List D) → Option R) : c_spec_l16Good_L11 F x0 x1 x2 x3 x4 k = (c_spec_l16Good_L11 F x0 x1 x2 x3 x4 some).bind k := by
 unfold c_spec_l16Good_L11
 repeat' first|exact bnd_tail|exact bnd_none|exact bnd_leaf|apply bnd_ite|apply bnd_cond|apply bnd_sum|(apply bnd_bind;intro _)|intro _
def n_spec_l16Good_L11 : Nat → Int → Int → List D → Int → List D → Option ((Bool × Int × Int × List D) ⊕ (Int × Int × List D))
 | 0, _, _, _, _, _ => none
 | n + 1, x0, x1, x2, x3, x4 => c_spec_l16Good_L11 (n_spec_l16Good_L11 n) x0 x1 x2 x3 x4 some
noncomputable def spec_l16Good_L11 (x0 : Int) (x1 : Int) (x2 : List D) (x3 : Int) (x4 : List D) : Option ((Bool × Int × Int × List D) ⊕ (Int × Int × List D)) := ev (fun n => n_spec_l16Good_L11 n x0 x1 x2 x3 x4)
def m_spec_l16Good_L11 (F : Int → Int → List D → Int → List D → Option ((Bool × Int × Int × List D) ⊕ (Int × Int × List D))) : Lent := ⟨11, ⟨(.undef :: .ptr 1000 [0] :: .undef :: .int .i64 :: .int .i64 :: .rd (.int .i64) :: .int .i64 :: uu 42 ([])), [(1000, .obox (.agg [.rd (.slice (.int .i64))]))]⟩, [(.ret, ⟨(.undef :: .ptr 1000 [0] :: .bool :: .int .i64 :: .int .i64 :: uu 44 ([])), [(1000, .obox (.agg [.rd (.slice (.int .i64))]))]⟩), (.exit 2, ⟨(.undef :: .ptr 1000 [0] :: .undef :: .int .i64 :: .int .i64 :: uu 44 ([])), [(1000, .obox (.agg [.rd (.slice (.int .i64))]))]⟩)], fun _ ds k => dI (fun x0 ds => dI (fun x1 ds => dL (fun x2 ds => dI (fun x3 ds => dL (fun x4 ds => dE ((F x0 x1 x2 x3 x4).bind (Sum.elim (fun y => k 0 [.B y.1, .I y.2.1, .I y.2.2.1, .L y.2.2.2]) (fun y => k 1 [.I y.1, .I y.2.1, .L y.2.2]))) ds) ds) ds) ds) ds) ds⟩
theorem q_spec_l16Good_L11 (F : Int → Int → List D → Int → List D → Option ((Bool × Int × Int × List D) ⊕ (Int × Int × List D))) (x0 : Int) (x1 : Int) (x2 : List D) (x3 : Int) (x4 : List D) : runLoop (ocOf [e_spec_l1In]) (olOf [m_spec_l16Good_L11 F]) A 39 (codeAt (bodyOf Try.f39) 11) ((m_spec_l16Good_L11 F).sh.mk' [.I x0, .I x1, .L x2, .I x3, .L x4]) (fun e σ' => some (e, σ')) = c_spec_l16Good_L11 F x0 x1 x2 x3 x4 (Sum.elim (fun y => some (.ret, SSt.mk' ⟨(.undef :: .ptr 1000 [0] :: .bool :: .int .i64 :: .int .i64 :: uu 44 ([])), [(1000, .obox (.agg [.rd (.slice (.int .i64))]))]⟩ [.B y.1, .I y.2.1, .I y.2.2.1, .L y.2.2.2])) (fun y => some (.exit 2, SSt.mk' ⟨(.undef :: .ptr 1000 [0] :: .undef :: .int .i64 :: .int .i64 :: uu 44 ([])), [(1000, .obox (.agg [.rd (.slice (.int .i64))]))]⟩ [.I y.1, .I y.2.1, .L y.2.2]))) := by kernel_rfl
theorem m_spec_l16Good_L11_ok : ∀ n, (m_spec_l16Good_L11 (n_spec_l16Good_L11 n)).ok Try.prog (codeAt (bodyOf Try.f39) 11) := by
 intro n
 induction n with
 | zero =>
  intro R ds k r h
  unfold m_spec_l16Good_L11 at h
  obtain ⟨x0, d0, rfl, h0⟩ := dI_some h
  obtain ⟨x1, d1, rfl, h1⟩ := dI_some h0
  obtain ⟨x2, d2, rfl, h2⟩ := dL_some h1
  obtain ⟨x3, d3, rfl, h3⟩ := dI_some h2
  obtain ⟨x4, d4, rfl, h4⟩ := dL_some h3
  obtain ⟨rfl, hE⟩ := dE_some h4
  obtain ⟨y, hy, hk⟩ := bnd_some hE
  cases hy
 | succ n ih =>
  intro R ds k r h
  unfold m_spec_l16Good_L11 at h
  obtain ⟨x0, d0, rfl, h0⟩ := dI_some h
  obtain ⟨x1, d1, rfl, h1⟩ := dI_some h0
  obtain ⟨x2, d2, rfl, h2⟩ := dL_some h1
  obtain ⟨x3, d3, rfl, h3⟩ := dI_some h2
  obtain ⟨x4, d4, rfl, h4⟩ := dL_some h3
  obtain ⟨rfl, hE⟩ := dE_some h4
  obtain ⟨y, hy, hk⟩ := bnd_some hE
  have hq := q_spec_l16Good_L11 (n_spec_l16Good_L11 n) x0 x1 x2 x3 x4
  rw [c_spec_l16Good_L11_bind] at hq
  rw [show c_spec_l16Good_L11 (n_spec_l16Good_L11 n) x0 x1 x2 x3 x4 some = some y from hy] at hq
  cases y with
  | inl y =>
   refine ⟨0, _, _, _, hk, rfl, loop_ok px (fx := ⟨Try.func39, by kernel_rfl, by kernel_rfl⟩) (entsOK_cons e_spec_l1In_ok entsOK_nil) (lentsOK_cons ih lentsOK_nil) (by kernel_rfl) ?_⟩
   exact hq
  | inr y =>
   refine ⟨1, _, _, _, hk, rfl, loop_ok px (fx := ⟨Try.func39, by kernel_rfl, by kernel_rfl⟩) (entsOK_cons e_spec_l1In_ok entsOK_nil) (lentsOK_cons ih lentsOK_nil) (by kernel_rfl) ?_⟩
   exact hq
noncomputable def e_spec_l16Good_L11 : Lent := m_spec_l16Good_L11 (spec_l16Good_L11)
theorem e_spec_l16Good_L11_ok : (e_spec_l16Good_L11).ok Try.prog (codeAt (bodyOf Try.f39) 11) := by
 intro R ds k r h
 unfold e_spec_l16Good_L11 m_spec_l16Good_L11 at h
 obtain ⟨x0, d0, rfl, h0⟩ := dI_some h
 obtain ⟨x1, d1, rfl, h1⟩ := dI_some h0
 obtain ⟨x2, d2, rfl, h2⟩ := dL_some h1
 obtain ⟨x3, d3, rfl, h3⟩ := dI_some h2
 obtain ⟨x4, d4, rfl, h4⟩ := dL_some h3
 obtain ⟨rfl, hE⟩ := dE_some h4
 obtain ⟨y, hy, hk⟩ := bnd_some hE
 obtain ⟨n, hn⟩ := ev_some hy
 exact m_spec_l16Good_L11_ok n R _ k r (show (n_spec_l16Good_L11 n x0 x1 x2 x3 x4).bind _ = _ by rw [hn]; exact hk)

/-!-/
def c_spec_l16Good_L5 {R : Type} (F : Int → Int → List D → Option ((Bool) ⊕ (Unit))) (x0 : Int) (x1 : Int) (x2 : List D) (k : (Bool) ⊕ (Unit) → Option R) : Option R :=
 bif decide (x1 < x0) then
 if 0 ≤ x1 ∧ x1 < (↑x2.length : Int) then
 (spec_l1In (↑(x2.getD x1.toNat (D.int 0)).items.length : Int) (1 : Int) (10 : Int)).bind (fun y0 =>
 bif !y0 then
 k (.inl Bool.false)
 else
 if (0 : Int) ≤ (0 : Int) ∧ (0 : Int) < (↑x2.length : Int) then
 bif !decide ((↑(x2.getD x1.toNat (D.int 0)).items.length : Int) = (↑(x2.getD (Int.toNat (0 : Int)) (D.int 0)).items.length : Int)) then
 k (.inl Bool.false)
 else
 (spec_l16Good_L11 x0 x1 ((x2.getD x1.toNat (D.int 0)).items) (0 : Int) x2).bind (Sum.elim (fun y1 =>
 k (.inl y1.fst)) (fun y2 =>
 (F y2.fst (IntKind.i64.wrap (y2.snd.fst + 1)) y2.snd.snd).bind k))
 else
 none)
 else
 none
 else
 k (.inr ())
theorem c_spec_l16Good_L5_bind {R : Type} (F : Int → Int → List D → Option ((Bool) ⊕ (Unit))) (x0 : Int) (x1 : Int) (x2 : List D) (k : (Bool) ⊕ (Unit) → Option R) : c_spec_l16Good_L5 F x0 x1 x2 k = (c_spec_l16Good_L5 F x0 x1 x2 some).bind k := by
 unfold c_spec_l16Good_L5
 repeat' first|exact bnd_tail|exact bnd_none|exact bnd_leaf|apply bnd_ite|apply bnd_cond|apply bnd_sum|(apply bnd_bind;intro _)|intro _
def n_spec_l16Good_L5 : Nat → Int → Int → List D → Option ((Bool) ⊕ (Unit))
 | 0, _, _, _ => none
 | n + 1, x0, x1, x2 => c_spec_l16Good_L5 (n_spec_l16Good_L5 n) x0 x1 x2 some
noncomputable def spec_l16Good_L5 (x0 : Int) (x1 : Int) (x2 : List D) : Option ((Bool) ⊕ (Unit)) := ev (fun n => n_spec_l16Good_L5 n x0 x1 x2)
def m_spec_l16Good_L5 (F : Int → Int → List D → Option ((Bool) ⊕ (Unit))) : Lent := ⟨5, ⟨(.undef :: .ptr 1000 [0] :: .undef :: .int .i64 :: .int .i64 :: uu 44 ([])), [(1000, .obox (.agg [.rd (.slice (.int .i64))]))]⟩, [(.ret, ⟨(.undef :: .undef :: .bool :: uu 46 ([])), []⟩), (.exit 0, ⟨(uu 49 ([])), []⟩)], fun _ ds k => dI (fun x0 ds => dI (fun x1 ds => dL (fun x2 ds => dE ((F x0 x1 x2).bind (Sum.elim (fun y => k 0 [.B y]) (fun y => k 1 []))) ds) ds) ds) ds⟩
theorem q_spec_l16Good_L5 (F : Int → Int → List D → Option ((Bool) ⊕ (Unit))) (x0 : Int) (x1 : Int) (x2 : List D) : runLoop (ocOf [e_spec_l1In]) (olOf [m_spec_l16Good_L5 F, e_spec_l16Good_L11]) A 39 (codeAt (bodyOf Try.f39) 5) ((m_spec_l16Good_L5 F).sh.mk' [.I x0, .I x1, .L x2]) (fun e σ' => some (e, σ')) = c_spec_l16Good_L5 F x0 x1 x2 (Sum.elim (fun y => some (.ret, SSt.mk' ⟨(.undef :: .undef :: .bool :: uu 46 ([])), []⟩ [.B y])) (fun y => some (.exit 0, SSt.mk' ⟨(uu 49 ([])), []⟩ []))) := by kernel_rfl
theorem m_spec_l16Good_L5_ok : ∀ n, (m_spec_l16Good_L5 (n_spec_l16Good_L5 n)).ok Try.prog (codeAt (bodyOf Try.f39) 5) := by
 intro n
 induction n with
 | zero =>
  intro R ds k r h
  unfold m_spec_l16Good_L5 at h
  obtain ⟨x0, d0, rfl, h0⟩ := dI_some h
  obtain ⟨x1, d1, rfl, h1⟩ := dI_some h0
  obtain ⟨x2, d2, rfl, h2⟩ := dL_some h1
  obtain ⟨rfl, hE⟩ := dE_some h2
  obtain ⟨y, hy, hk⟩ := bnd_some hE
  cases hy
 | succ n ih =>
  intro R ds k r h
  unfold m_spec_l16Good_L5 at h
  obtain ⟨x0, d0, rfl, h0⟩ := dI_some h
  obtain ⟨x1, d1, rfl, h1⟩ := dI_some h0
  obtain ⟨x2, d2, rfl, h2⟩ := dL_some h1
  obtain ⟨rfl, hE⟩ := dE_some h2
  obtain ⟨y, hy, hk⟩ := bnd_some hE
  have hq := q_spec_l16Good_L5 (n_spec_l16Good_L5 n) x0 x1 x2
  rw [c_spec_l16Good_L5_bind] at hq
  rw [show c_spec_l16Good_L5 (n_spec_l16Good_L5 n) x0 x1 x2 some = some y from hy] at hq
  cases y with
  | inl y =>
   refine ⟨0, _, _, _, hk, rfl, loop_ok px (fx := ⟨Try.func39, by kernel_rfl, by kernel_rfl⟩) (entsOK_cons e_spec_l1In_ok entsOK_nil) (lentsOK_cons ih (lentsOK_cons e_spec_l16Good_L11_ok lentsOK_nil)) (by kernel_rfl) ?_⟩
   exact hq
  | inr y =>
   refine ⟨1, _, _, _, hk, rfl, loop_ok px (fx := ⟨Try.func39, by kernel_rfl, by kernel_rfl⟩) (entsOK_cons e_spec_l1In_ok entsOK_nil) (lentsOK_cons ih (lentsOK_cons e_spec_l16Good_L11_ok lentsOK_nil)) (by kernel_rfl) ?_⟩
   exact hq
noncomputable def e_spec_l16Good_L5 : Lent := m_spec_l16Good_L5 (spec_l16Good_L5)
theorem e_spec_l16Good_L5_ok : (e_spec_l16Good_L5).ok Try.prog (codeAt (bodyOf Try.f39) 5) := by
 intro R ds k r h
 unfold e_spec_l16Good_L5 m_spec_l16Good_L5 at h
 obtain ⟨x0, d0, rfl, h0⟩ := dI_some h
 obtain ⟨x1, d1, rfl, h1⟩ := dI_some h0
 obtain ⟨x2, d2, rfl, h2⟩ := dL_some h1
 obtain ⟨rfl, hE⟩ := dE_some h2
 obtain ⟨y, hy, hk⟩ := bnd_some hE
 obtain ⟨n, hn⟩ := ev_some hy
 exact m_spec_l16Good_L5_ok n R _ k r (show (n_spec_l16Good_L5 n x0 x1 x2).bind _ = _ by rw [hn]; exact hk)

/-!-/
def c_spec_l16Good {R : Type} (x0 : List D) (k : Bool → Option R) : Option R :=
 (spec_l1In (↑x0.length : Int) (1 : Int) (7 : Int)).bind (fun y0 =>
 bif !y0 then
 k Bool.false
 else
 (spec_l16Good_L5 (↑x0.length : Int) (0 : Int) x0).bind (Sum.elim (fun y1 =>
 k y1) (fun y2 =>
 k Bool.true)))
theorem c_spec_l16Good_bind {R : Type} (x0 : List D) (k : Bool → Option R) : c_spec_l16Good x0 k = (c_spec_l16Good x0 some).bind k := by
 unfold c_spec_l16Good
 repeat' first|exact bnd_tail|exact bnd_none|exact bnd_leaf|apply bnd_ite|apply bnd_cond|apply bnd_sum|(apply bnd_bind;intro _)|intro _
def spec_l16Good (x0 : List D) : Option (Bool) := c_spec_l16Good x0 some
def e_spec_l16Good : Ent := ⟨39, [.agg [.rd (.slice (.int .i64))]], .bool, [.undef], fun _ ds k => dL (fun x0 ds => dE ((spec_l16Good x0).bind (fun y => k [.B y])) ds) ds⟩
theorem q_spec_l16Good (x0 : List D) : runFn (ocOf [e_spec_l1In]) (olOf [e_spec_l16Good_L5]) A 39 Try.f39 (Sh.mks e_spec_l16Good.sh [.L x0]).1 (fun v os => some (v, os)) = c_spec_l16Good x0 (fun y => some ((e_spec_l16Good.res.mk [.B y]).1, (Sh.mks e_spec_l16Good.outs (e_spec_l16Good.res.mk [.B y]).2).1)) := by kernel_rfl
theorem e_spec_l16Good_ok : e_spec_l16Good.ok Try.prog A := by
 intro R ds k r h
 unfold e_spec_l16Good at h
 obtain ⟨x0, d0, rfl, h0⟩ := dL_some h
 obtain ⟨rfl, hE⟩ := dE_some h0
 obtain ⟨y, hy, hk⟩ := bnd_some hE
 refine ⟨_, hk, fn_ok px (fx := ⟨Try.func39, by kernel_rfl, by kernel_rfl⟩) (entsOK_cons e_spec_l1In_ok entsOK_nil) (lentsOK_cons e_spec_l16Good_L5_ok lentsOK_nil) ?_⟩
 have hq := q_spec_l16Good x0
 rw [c_spec_l16Good_bind] at hq
 rw [show c_spec_l16Good x0 some = some y from hy] at hq
 exact hq

/-!-/
def c_spec_l16Order {R : Type} (x0 : List D) (x1 : List D) (k : Bool → Option R) : Option R :=
 (spec_l16Order_L2 x1 (0 : Int) x0).bind (Sum.elim (fun y0 =>
 k y0.snd.fst) (fun y1 =>
 (spec_l16Good y1.snd).bind (fun y2 =>
 bif y2 then
 k (decide ((↑y1.fst.length : Int) = (↑y1.snd.length : Int)))
 else
 k Bool.false)))
theorem c_spec_l16Order_bind {R : Type} (x0 : List D) (x1 : List D) (k : Bool → Option R) : c_spec_l16Order x0 x1 k = (c_spec_l16Order x0 x1 some).bind k := by
 unfold c_spec_l16Order
 repeat' first|exact bnd_tail|exact bnd_none|exact bnd_leaf|apply bnd_ite|apply bnd_cond|apply bnd_sum|(apply bnd_bind;intro _)|intro _
def spec_l16Order (x0 : List D) (x1 : List D) : Option (Bool) := c_spec_l16Order x0 x1 some
def e_spec_l16Order : Ent := ⟨54, [.agg [.rd (.slice (.int .i64))], .rd (.int .i64)], .bool, [.undef, .undef], fun _ ds k => dL (fun x0 ds => dL (fun x1 ds => dE ((spec_l16Order x0 x1).bind (fun y => k [.B y])) ds) ds) ds⟩
theorem q_spec_l16Order (x0 : List D) (x1 : List D) : runFn (ocOf [e_spec_l16Good]) (olOf [e_spec_l16Order_L2]) A 54 Try.f54 (Sh.mks e_spec_l16Order.sh [.L x0, .L x1]).1 (fun v os => some (v, os)) = c_spec_l16Order x0 x1 (fun y => some ((e_spec_l16Order.res.mk [.B y]).1, (Sh.mks e_spec_l16Order.outs (e_spec_l16Order.res.mk [.B y]).2).1)) := by kernel_rfl
theorem e_spec_l16Order_ok : e_spec_l16Order.ok Try.prog A := by
 intro R ds k r h
 unfold e_spec_l16Order at h
 obtain ⟨x0, d0, rfl, h0⟩ := dL_some h
 obtain ⟨x1, d1, rfl, h1⟩ := dL_some h0
 obtain ⟨rfl, hE⟩ := dE_some h1
 obtain ⟨y, hy, hk⟩ := bnd_some hE
 refine ⟨_, hk, fn_ok px (fx := ⟨Try.func54, by kernel_rfl, by kernel_rfl⟩) (entsOK_cons e_spec_l16Good_ok entsOK_nil) (lentsOK_cons e_spec_l16Order_L2_ok lentsOK_nil) ?_⟩
 have hq := q_spec_l16Order x0 x1
 rw [c_spec_l16Order_bind] at hq
 rw [show c_spec_l16Order x0 x1 some = some y from hy] at hq
 exact hq

/-!-/
def c_spec_ReverseOrder_L5 {R : Type} (F : List D → Int → List D → Option (List D)) (x0 : List D) (x1 : Int) (x2 : List D) (k : List D → Option R) : Option R :=
 bif decide ((0 : Int) ≤ x1) then
 if 0 ≤ x1 ∧ x1 < (↑x0.length : Int) then
 if x2.length + [D.int (x0.getD x1.toNat (D.int 0)).toInt].length ≤ (4294967296 : Nat) then
 (F x0 (IntKind.i64.wrap (x1 - 1)) (x2 ++ [D.int (x0.getD x1.toNat (D.int 0)).toInt])).bind k
 else
 none
 else
 none
 else
 k x2
theorem c_spec_ReverseOrder_L5_bind {R : Type} (F : List D → Int → List D → Option (List D)) (x0 : List D) (x1 : Int) (x2 : List D) (k : List D → Option R) : c_spec_ReverseOrder_L5 F x0 x1 x2 k = (c_spec_ReverseOrder_L5 F x0 x1 x2 some).bind k := by
 unfold c_spec_ReverseOrder_L5
 repeat' first|exact bnd_tail|exact bnd_none|exact bnd_leaf|apply bnd_ite|apply bnd_cond|apply bnd_sum|(apply bnd_bind;intro _)|intro _
def n_spec_ReverseOrder_L5 : Nat → List D → Int → List D → Option (List D)
 | 0, _, _, _ => none
 | n + 1, x0, x1, x2 => c_spec_ReverseOrder_L5 (n_spec_ReverseOrder_L5 n) x0 x1 x2 some
noncomputable def spec_ReverseOrder_L5 (x0 : List D) (x1 : Int) (x2 : List D) : Option (List D) := ev (fun n => n_spec_ReverseOrder_L5 n x0 x1 x2)
def m_spec_ReverseOrder_L5 (F : List D → Int → List D → Option (List D)) : Lent := ⟨5, ⟨(.undef :: .rd (.int .i64) :: uu 4 (.full 1000 [] (.int .i64) :: .int .i64 :: uu 21 ([]))), [(1000, .own (.int .i64))]⟩, [(.exit 0, ⟨(uu 6 (.full 1000 [] (.int .i64) :: uu 22 ([]))), [(1000, .own (.int .i64))]⟩)], fun _ ds k => dL (fun x0 ds => dI (fun x1 ds => dL (fun x2 ds => dE ((F x0 x1 x2).bind (fun y => k 0 [.L y])) ds) ds) ds) ds⟩
theorem q_spec_ReverseOrder_L5 (F : List D → Int → List D → Option (List D)) (x0 : List D) (x1 : Int) (x2 : List D) : runLoop (ocOf []) (olOf [m_spec_ReverseOrder_L5 F]) A 30 (codeAt (bodyOf Try.f30) 5) ((m_spec_ReverseOrder_L5 F).sh.mk' [.L x0, .I x1, .L x2]) (fun e σ' => some (e, σ')) = c_spec_ReverseOrder_L5 F x0 x1 x2 (fun y => some (.exit 0, SSt.mk' ⟨(uu 6 (.full 1000 [] (.int .i64) :: uu 22 ([]))), [(1000, .own (.int .i64))]⟩ [.L y])) := by kernel_rfl
theorem m_spec_ReverseOrder_L5_ok : ∀ n, (m_spec_ReverseOrder_L5 (n_spec_ReverseOrder_L5 n)).ok Try.prog (codeAt (bodyOf Try.f30) 5) := by
 intro n
 induction n with
 | zero =>
  intro R ds k r h
  unfold m_spec_ReverseOrder_L5 at h
  obtain ⟨x0, d0, rfl, h0⟩ := dL_some h
  obtain ⟨x1, d1, rfl, h1⟩ := dI_some h0
  obtain ⟨x2, d2, rfl, h2⟩ := dL_some h1
  obtain ⟨rfl, hE⟩ := dE_some h2
  obtain ⟨y, hy, hk⟩ := bnd_some hE
  cases hy
 | succ n ih =>
  intro R ds k r h
  unfold m_spec_ReverseOrder_L5 at h
  obtain ⟨x0, d0, rfl, h0⟩ := dL_some h
  obtain ⟨x1, d1, rfl, h1⟩ := dI_some h0
  obtain ⟨x2, d2, rfl, h2⟩ := dL_some h1
  obtain ⟨rfl, hE⟩ := dE_some h2
  obtain ⟨y, hy, hk⟩ := bnd_some hE
  have hq := q_spec_ReverseOrder_L5 (n_spec_ReverseOrder_L5 n) x0 x1 x2
  rw [c_spec_ReverseOrder_L5_bind] at hq
  rw [show c_spec_ReverseOrder_L5 (n_spec_ReverseOrder_L5 n) x0 x1 x2 some = some y from hy] at hq
  refine ⟨0, _, _, _, hk, rfl, loop_ok px (fx := ⟨Try.func30, by kernel_rfl, by kernel_rfl⟩) entsOK_nil (lentsOK_cons ih lentsOK_nil) (by kernel_rfl) ?_⟩
  exact hq
noncomputable def e_spec_ReverseOrder_L5 : Lent := m_spec_ReverseOrder_L5 (spec_ReverseOrder_L5)
theorem e_spec_ReverseOrder_L5_ok : (e_spec_ReverseOrder_L5).ok Try.prog (codeAt (bodyOf Try.f30) 5) := by
 intro R ds k r h
 unfold e_spec_ReverseOrder_L5 m_spec_ReverseOrder_L5 at h
 obtain ⟨x0, d0, rfl, h0⟩ := dL_some h
 obtain ⟨x1, d1, rfl, h1⟩ := dI_some h0
 obtain ⟨x2, d2, rfl, h2⟩ := dL_some h1
 obtain ⟨rfl, hE⟩ := dE_some h2
 obtain ⟨y, hy, hk⟩ := bnd_some hE
 obtain ⟨n, hn⟩ := ev_some hy
 exact m_spec_ReverseOrder_L5_ok n R _ k r (show (n_spec_ReverseOrder_L5 n x0 x1 x2).bind _ = _ by rw [hn]; exact hk)

/-!-/
def c_spec_ReverseOrder {R : Type} (x0 : List D) (x1 : List D) (k : List D × Bool → Option R) : Option R :=
 (spec_l16Order x0 x1).bind (fun y0 =>
 bif !y0 then
 k ([], Bool.false)
 else
 (spec_ReverseOrder_L5 x1 (IntKind.i64.wrap ((↑x1.length : Int) - (1 : Int))) []).bind (fun y1 =>
 k (y1, Bool.true)))
theorem c_spec_ReverseOrder_bind {R : Type} (x0 : List D) (x1 : List D) (k : List D × Bool → Option R) : c_spec_ReverseOrder x0 x1 k = (c_spec_ReverseOrder x0 x1 some).bind k := by
 unfold c_spec_ReverseOrder
 repeat' first|exact bnd_tail|exact bnd_none|exact bnd_leaf|apply bnd_ite|apply bnd_cond|apply bnd_sum|(apply bnd_bind;intro _)|intro _
def spec_ReverseOrder (x0 : List D) (x1 : List D) : Option (List D × Bool) := c_spec_ReverseOrder x0 x1 some
def e_spec_ReverseOrder : Ent := ⟨30, [.agg [.rd (.slice (.int .i64))], .rd (.int .i64)], .tup [.own (.int .i64), .bool], [.undef, .undef], fun _ ds k => dL (fun x0 ds => dL (fun x1 ds => dE ((spec_ReverseOrder x0 x1).bind (fun y => k [.L y.1, .B y.2])) ds) ds) ds⟩
theorem q_spec_ReverseOrder (x0 : List D) (x1 : List D) : runFn (ocOf [e_spec_l16Order]) (olOf [e_spec_ReverseOrder_L5]) A 30 Try.f30 (Sh.mks e_spec_ReverseOrder.sh [.L x0, .L x1]).1 (fun v os => some (v, os)) = c_spec_ReverseOrder x0 x1 (fun y => some ((e_spec_ReverseOrder.res.mk [.L y.1, .B y.2]).1, (Sh.mks e_spec_ReverseOrder.outs (e_spec_ReverseOrder.res.mk [.L y.1, .B y.2]).2).1)) := by kernel_rfl
theorem e_spec_ReverseOrder_ok : e_spec_ReverseOrder.ok Try.prog A := by
 intro R ds k r h
 unfold e_spec_ReverseOrder at h
 obtain ⟨x0, d0, rfl, h0⟩ := dL_some h
 obtain ⟨x1, d1, rfl, h1⟩ := dL_some h0
 obtain ⟨rfl, hE⟩ := dE_some h1
 obtain ⟨y, hy, hk⟩ := bnd_some hE
 refine ⟨_, hk, fn_ok px (fx := ⟨Try.func30, by kernel_rfl, by kernel_rfl⟩) (entsOK_cons e_spec_l16Order_ok entsOK_nil) (lentsOK_cons e_spec_ReverseOrder_L5_ok lentsOK_nil) ?_⟩
 have hq := q_spec_ReverseOrder x0 x1
 rw [c_spec_ReverseOrder_bind] at hq
 rw [show c_spec_ReverseOrder x0 x1 some = some y from hy] at hq
 exact hq

/-!-/
def c_impl_within {R : Type} (x0 : Int) (x1 : Int) (x2 : Int) (k : Bool → Option R) : Option R :=
 bif decide (x1 ≤ x0) then
 k (decide (x0 ≤ x2))
 else
 k Bool.false
theorem c_impl_within_bind {R : Type} (x0 : Int) (x1 : Int) (x2 : Int) (k : Bool → Option R) : c_impl_within x0 x1 x2 k = (c_impl_within x0 x1 x2 some).bind k := by
 unfold c_impl_within
 repeat' first|exact bnd_tail|exact bnd_none|exact bnd_leaf|apply bnd_ite|apply bnd_cond|apply bnd_sum|(apply bnd_bind;intro _)|intro _
def impl_within (x0 : Int) (x1 : Int) (x2 : Int) : Option (Bool) := c_impl_within x0 x1 x2 some
def e_impl_within : Ent := ⟨44, [.int .i64, .int .i64, .int .i64], .bool, [.undef, .undef, .undef], fun _ ds k => dI (fun x0 ds => dI (fun x1 ds => dI (fun x2 ds => dE ((impl_within x0 x1 x2).bind (fun y => k [.B y])) ds) ds) ds) ds⟩
theorem q_impl_within (x0 : Int) (x1 : Int) (x2 : Int) : runFn (ocOf []) (olOf []) A 44 Try.f44 (Sh.mks e_impl_within.sh [.I x0, .I x1, .I x2]).1 (fun v os => some (v, os)) = c_impl_within x0 x1 x2 (fun y => some ((e_impl_within.res.mk [.B y]).1, (Sh.mks e_impl_within.outs (e_impl_within.res.mk [.B y]).2).1)) := by kernel_rfl
theorem e_impl_within_ok : e_impl_within.ok Try.prog A := by
 intro R ds k r h
 unfold e_impl_within at h
 obtain ⟨x0, d0, rfl, h0⟩ := dI_some h
 obtain ⟨x1, d1, rfl, h1⟩ := dI_some h0
 obtain ⟨x2, d2, rfl, h2⟩ := dI_some h1
 obtain ⟨rfl, hE⟩ := dE_some h2
 obtain ⟨y, hy, hk⟩ := bnd_some hE
 refine ⟨_, hk, fn_ok px (fx := ⟨Try.func44, by kernel_rfl, by kernel_rfl⟩) entsOK_nil lentsOK_nil ?_⟩
 have hq := q_impl_within x0 x1 x2
 rw [c_impl_within_bind] at hq
 rw [show c_impl_within x0 x1 x2 some = some y from hy] at hq
 exact hq

/-!-/
def c_impl_IsValidTable_1 {R : Type} (x0 : Int) (k : Bool → Option R) : Option R :=
 (impl_within x0 (0 : Int) (1000 : Int)).bind (fun y0 =>
 k !y0)
theorem c_impl_IsValidTable_1_bind {R : Type} (x0 : Int) (k : Bool → Option R) : c_impl_IsValidTable_1 x0 k = (c_impl_IsValidTable_1 x0 some).bind k := by
 unfold c_impl_IsValidTable_1
 repeat' first|exact bnd_tail|exact bnd_none|exact bnd_leaf|apply bnd_ite|apply bnd_cond|apply bnd_sum|(apply bnd_bind;intro _)|intro _
def impl_IsValidTable_1 (x0 : Int) : Option (Bool) := c_impl_IsValidTable_1 x0 some
def e_impl_IsValidTable_1 : Ent := ⟨70, [.int .i64], .bool, [.undef], fun _ ds k => dI (fun x0 ds => dE ((impl_IsValidTable_1 x0).bind (fun y => k [.B y])) ds) ds⟩
theorem q_impl_IsValidTable_1 (x0 : Int) : runFn (ocOf [e_impl_within]) (olOf []) A 70 Try.f70 (Sh.mks e_impl_IsValidTable_1.sh [.I x0]).1 (fun v os => some (v, os)) = c_impl_IsValidTable_1 x0 (fun y => some ((e_impl_IsValidTable_1.res.mk [.B y]).1, (Sh.mks e_impl_IsValidTable_1.outs (e_impl_IsValidTable_1.res.mk [.B y]).2).1)) := by kernel_rfl
theorem e_impl_IsValidTable_1_ok : e_impl_IsValidTable_1.ok Try.prog A := by
 intro R ds k r h
 unfold e_impl_IsValidTable_1 at h
 obtain ⟨x0, d0, rfl, h0⟩ := dI_some h
 obtain ⟨rfl, hE⟩ := dE_some h0
 obtain ⟨y, hy, hk⟩ := bnd_some hE
 refine ⟨_, hk, fn_ok px (fx := ⟨Try.func70, by kernel_rfl, by kernel_rfl⟩) (entsOK_cons e_impl_within_ok entsOK_nil) lentsOK_nil ?_⟩
 have hq := q_impl_IsValidTable_1 x0
 rw [c_impl_IsValidTable_1_bind] at hq
 rw [show c_impl_IsValidTable_1 x0 some = some y from hy] at hq
 exact hq

/-!-/
def c_slices_IndexFunc_L2 {R : Type} (F : List D → Int → Int → Option ((Int) ⊕ (Unit))) (x0 : List D) (x1 : Int) (x2 : Int) (k : (Int) ⊕ (Unit) → Option R) : Option R :=
 bif decide (x2 < x1) then
 if 0 ≤ x2 ∧ x2 < (↑x0.length : Int) then
 (impl_IsValidTable_1 ((x0.getD x2.toNat (D.int 0)).toInt)).bind (fun y0 =>
 bif y0 then
 k (.inl x2)
 else
 (F x0 x1 (IntKind.i64.wrap (x2 + 1))).bind k)
 else
 none
 else
 k (.inr ())
theorem c_slices_IndexFunc_L2_bind {R : Type} (F : List D → Int → Int → Option ((Int) ⊕ (Unit))) (x0 : List D) (x1 : Int) (x2 : Int) (k : (Int) ⊕ (Unit) → Option R) : c_slices_IndexFunc_L2 F x0 x1 x2 k = (c_slices_IndexFunc_L2 F x0 x1 x2 some).bind k := by
 unfold c_slices_IndexFunc_L2
 repeat' first|exact bnd_tail|exact bnd_none|exact bnd_leaf|apply bnd_ite|apply bnd_cond|apply bnd_sum|(apply bnd_bind;intro _)|intro _
def n_slices_IndexFunc_L2 : Nat → List D → Int → Int → Option ((Int) ⊕ (Unit))
 | 0, _, _, _ => none
 | n + 1, x0, x1, x2 => c_slices_IndexFunc_L2 (n_slices_IndexFunc_L2 n) x0 x1 x2 some
noncomputable def slices_IndexFunc_L2 (x0 : List D) (x1 : Int) (x2 : Int) : Option ((Int) ⊕ (Unit)) := ev (fun n => n_slices_IndexFunc_L2 n x0 x1 x2)
def m_slices_IndexFunc_L2 (F : List D → Int → Int → Option ((Int) ⊕ (Unit))) : Lent := ⟨2, ⟨(.rd (.int .i64) :: .fn 70 [] :: uu 5 (.int .i64 :: .int .i64 :: uu 10 ([]))), []⟩, [(.ret, ⟨(uu 4 (.int .i64 :: uu 14 ([]))), []⟩), (.exit 0, ⟨(uu 19 ([])), []⟩)], fun _ ds k => dL (fun x0 ds => dI (fun x1 ds => dI (fun x2 ds => dE ((F x0 x1 x2).bind (Sum.elim (fun y => k 0 [.I y]) (fun y => k 1 []))) ds) ds) ds) ds⟩
theorem q_slices_IndexFunc_L2 (F : List D → Int → Int → Option ((Int) ⊕ (Unit))) (x0 : List D) (x1 : Int) (x2 : Int) : runLoop (ocOf [e_impl_IsValidTable_1]) (olOf [m_slices_IndexFunc_L2 F]) A 79 (codeAt (bodyOf Try.f79) 2) ((m_slices_IndexFunc_L2 F).sh.mk' [.L x0, .I x1, .I x2]) (fun e σ' => some (e, σ')) = c_slices_IndexFunc_L2 F x0 x1 x2 (Sum.elim (fun y => some (.ret, SSt.mk' ⟨(uu 4 (.int .i64 :: uu 14 ([]))), []⟩ [.I y])) (fun y => some (.exit 0, SSt.mk' ⟨(uu 19 ([])), []⟩ []))) := by kernel_rfl
theorem m_slices_IndexFunc_L2_ok : ∀ n, (m_slices_IndexFunc_L2 (n_slices_IndexFunc_L2 n)).ok Try.prog (codeAt (bodyOf Try.f79) 2) := by
 intro n
 induction n with
 | zero =>
  intro R ds k r h
  unfold m_slices_IndexFunc_L2 at h
  obtain ⟨x0, d0, rfl, h0⟩ := dL_some h
  obtain ⟨x1, d1, rfl, h1⟩ := dI_some h0
  obtain ⟨x2, d2, rfl, h2⟩ := dI_some h1
  obtain ⟨rfl, hE⟩ := dE_some h2
  obtain ⟨y, hy, hk⟩ := bnd_some hE
  cases hy
 | succ n ih =>
  intro R ds k r h
  unfold m_slices_IndexFunc_L2 at h
  obtain ⟨x0, d0, rfl, h0⟩ := dL_some h
  obtain ⟨x1, d1, rfl, h1⟩ := dI_some h0
  obtain ⟨x2, d2, rfl, h2⟩ := dI_some h1
  obtain ⟨rfl, hE⟩ := dE_some h2
  obtain ⟨y, hy, hk⟩ := bnd_some hE
  have hq := q_slices_IndexFunc_L2 (n_slices_IndexFunc_L2 n) x0 x1 x2
  rw [c_slices_IndexFunc_L2_bind] at hq
  rw [show c_slices_IndexFunc_L2 (n_slices_IndexFunc_L2 n) x0 x1 x2 some = some y from hy] at hq
  cases y with
  | inl y =>
   refine ⟨0, _, _, _, hk, rfl, loop_ok px (fx := ⟨Try.func79, by kernel_rfl, by kernel_rfl⟩) (entsOK_cons e_impl_IsValidTable_1_ok entsOK_nil) (lentsOK_cons ih lentsOK_nil) (by kernel_rfl) ?_⟩
   exact hq
  | inr y =>
   refine ⟨1, _, _, _, hk, rfl, loop_ok px (fx := ⟨Try.func79, by kernel_rfl, by kernel_rfl⟩) (entsOK_cons e_impl_IsValidTable_1_ok entsOK_nil) (lentsOK_cons ih lentsOK_nil) (by kernel_rfl) ?_⟩
   exact hq
noncomputable def e_slices_IndexFunc_L2 : Lent := m_slices_IndexFunc_L2 (slices_IndexFunc_L2)
theorem e_slices_IndexFunc_L2_ok : (e_slices_IndexFunc_L2).ok Try.prog (codeAt (bodyOf Try.f79) 2) := by
 intro R ds k r h
 unfold e_slices_IndexFunc_L2 m_slices_IndexFunc_L2 at h
 obtain ⟨x0, d0, rfl, h0⟩ := dL_some h
 obtain ⟨x1, d1, rfl, h1⟩ := dI_some h0
 obtain ⟨x2, d2, rfl, h2⟩ := dI_some h1
 obtain ⟨rfl, hE⟩ := dE_some h2
 obtain ⟨y, hy, hk⟩ := bnd_some hE
 obtain ⟨n, hn⟩ := ev_some hy
 exact m_slices_IndexFunc_L2_ok n R _ k r (show (n_slices_IndexFunc_L2 n x0 x1 x2).bind _ = _ by rw [hn]; exact hk)

/-!-/
def c_slices_IndexFunc__impl_IsValidTable_1 {R : Type} (x0 : List D) (k : Int → Option R) : Option R :=
 (slices_IndexFunc_L2 x0 (↑x0.length : Int) (0 : Int)).bind (Sum.elim (fun y0 =>
 k y0) (fun y1 =>
 k (-1 : Int)))
theorem c_slices_IndexFunc__impl_IsValidTable_1_bind {R : Type} (x0 : List D) (k : Int → Option R) : c_slices_IndexFunc__impl_IsValidTable_1 x0 k = (c_slices_IndexFunc__impl_IsValidTable_1 x0 some).bind k := by
 unfold c_slices_IndexFunc__impl_IsValidTable_1
 repeat' first|exact bnd_tail|exact bnd_none|exact bnd_leaf|apply bnd_ite|apply bnd_cond|apply bnd_sum|(apply bnd_bind;intro _)|intro _
def slices_IndexFunc__impl_IsValidTable_1 (x0 : List D) : Option (Int) := c_slices_IndexFunc__impl_IsValidTable_1 x0 some
def e_slices_IndexFunc__impl_IsValidTable_1 : Ent := ⟨79, [.rd (.int .i64), .fn 70 []], .int .i64, [.undef, .undef], fun _ ds k => dL (fun x0 ds => dE ((slices_IndexFunc__impl_IsValidTable_1 x0).bind (fun y => k [.I y])) ds) ds⟩
theorem q_slices_IndexFunc__impl_IsValidTable_1 (x0 : List D) : runFn (ocOf []) (olOf [e_slices_IndexFunc_L2]) A 79 Try.f79 (Sh.mks e_slices_IndexFunc__impl_IsValidTable_1.sh [.L x0]).1 (fun v os => some (v, os)) = c_slices_IndexFunc__impl_IsValidTable_1 x0 (fun y => some ((e_slices_IndexFunc__impl_IsValidTable_1.res.mk [.I y]).1, (Sh.mks e_slices_IndexFunc__impl_IsValidTable_1.outs (e_slices_IndexFunc__impl_IsValidTable_1.res.mk [.I y]).2).1)) := by kernel_rfl
theorem e_slices_IndexFunc__impl_IsValidTable_1_ok : e_slices_IndexFunc__impl_IsValidTable_1.ok Try.prog A := by
 intro R ds k r h
 unfold e_slices_IndexFunc__impl_IsValidTable_1 at h
 obtain ⟨x0, d0, rfl, h0⟩ := dL_some h
 obtain ⟨rfl, hE⟩ := dE_some h0
 obtain ⟨y, hy, hk⟩ := bnd_some hE
 refine ⟨_, hk, fn_ok px (fx := ⟨Try.func79, by kernel_rfl, by kernel_rfl⟩) entsOK_nil (lentsOK_cons e_slices_IndexFunc_L2_ok lentsOK_nil) ?_⟩
 have hq := q_slices_IndexFunc__impl_IsValidTable_1 x0
 rw [c_slices_IndexFunc__impl_IsValidTable_1_bind] at hq
 rw [show c_slices_IndexFunc__impl_IsValidTable_1 x0 some = some y from hy] at hq
 exact hq

/-!-/
def c_slices_ContainsFunc__impl_IsValidTable_1 {R : Type} (x0 : List D) (k : Bool → Option R) : Option R :=
 (slices_IndexFunc__impl_IsValidTable_1 x0).bind (fun y0 =>
 k (decide ((0 : Int) ≤ y0)))
theorem c_slices_ContainsFunc__impl_IsValidTable_1_bind {R : Type} (x0 : List D) (k : Bool → Option R) : c_slices_ContainsFunc__impl_IsValidTable_1 x0 k = (c_slices_ContainsFunc__impl_IsValidTable_1 x0 some).bind k := by
 unfold c_slices_ContainsFunc__impl_IsValidTable_1
 repeat' first|exact bnd_tail|exact bnd_none|exact bnd_leaf|apply bnd_ite|apply bnd_cond|apply bnd_sum|(apply bnd_bind;intro _)|intro _
def slices_ContainsFunc__impl_IsValidTable_1 (x0 : List D) : Option (Bool) := c_slices_ContainsFunc__impl_IsValidTable_1 x0 some
def e_slices_ContainsFunc__impl_IsValidTable_1 : Ent := ⟨69, [.rd (.int .i64), .fn 70 []], .bool, [.undef, .undef], fun _ ds k => dL (fun x0 ds => dE ((slices_ContainsFunc__impl_IsValidTable_1 x0).bind (fun y => k [.B y])) ds) ds⟩
theorem q_slices_ContainsFunc__impl_IsValidTable_1 (x0 : List D) : runFn (ocOf [e_slices_IndexFunc__impl_IsValidTable_1]) (olOf []) A 69 Try.f69 (Sh.mks e_slices_ContainsFunc__impl_IsValidTable_1.sh [.L x0]).1 (fun v os => some (v, os)) = c_slices_ContainsFunc__impl_IsValidTable_1 x0 (fun y => some ((e_slices_ContainsFunc__impl_IsValidTable_1.res.mk [.B y]).1, (Sh.mks e_slices_ContainsFunc__impl_IsValidTable_1.outs (e_slices_ContainsFunc__impl_IsValidTable_1.res.mk [.B y]).2).1)) := by kernel_rfl
theorem e_slices_ContainsFunc__impl_IsValidTable_1_ok : e_slices_ContainsFunc__impl_IsValidTable_1.ok Try.prog A := by
 intro R ds k r h
 unfold e_slices_ContainsFunc__impl_IsValidTable_1 at h
 obtain ⟨x0, d0, rfl, h0⟩ := dL_some h
 obtain ⟨rfl, hE⟩ := dE_some h0
 obtain ⟨y, hy, hk⟩ := bnd_some hE
 refine ⟨_, hk, fn_ok px (fx := ⟨Try.func69, by kernel_rfl, by kernel_rfl⟩) (entsOK_cons e_slices_IndexFunc__impl_IsValidTable_1_ok entsOK_nil) lentsOK_nil ?_⟩
 have hq := q_slices_ContainsFunc__impl_IsValidTable_1 x0
 rw [c_slices_ContainsFunc__impl_IsValidTable_1_bind] at hq
 rw [show c_slices_ContainsFunc__impl_IsValidTable_1 x0 some = some y from hy] at hq
 exact hq

/-!-/
def c_impl_IsValidTable_L4 {R : Type} (F : List D → Int → Int → List D → Option ((Bool) ⊕ (Unit))) (x0 : List D) (x1 : Int) (x2 : Int) (x3 : List D) (k : (Bool) ⊕ (Unit) → Option R) : Option R :=
 bif decide (x2 < x1) then
 if 0 ≤ x2 ∧ x2 < (↑x0.length : Int) then
 (impl_within (↑(x0.getD x2.toNat (D.int 0)).items.length : Int) (1 : Int) (10 : Int)).bind (fun y0 =>
 bif !y0 then
 k (.inl Bool.false)
 else
 if (0 : Int) ≤ (0 : Int) ∧ (0 : Int) < (↑x3.length : Int) then
 bif !decide ((↑(x0.getD x2.toNat (D.int 0)).items.length : Int) = (↑(x3.getD (Int.toNat (0 : Int)) (D.int 0)).items.length : Int)) then
 k (.inl Bool.false)
 else
 (slices_ContainsFunc__impl_IsValidTable_1 ((x0.getD x2.toNat (D.int 0)).items)).bind (fun y1 =>
 bif y1 then
 k (.inl Bool.false)
 else
 (F x0 x1 (IntKind.i64.wrap (x2 + 1)) x3).bind k)
 else
 none)
 else
 none
 else
 k (.inr ())
theorem c_impl_IsValidTable_L4_bind {R : Type} (F : List D → Int → Int → List D → Option ((Bool) ⊕ (Unit))) (x0 : List D) (x1 : Int) (x2 : Int) (x3 : List D) (k : (Bool) ⊕ (Unit) → Option R) : c_impl_IsValidTable_L4 F x0 x1 x2 x3 k = (c_impl_IsValidTable_L4 F x0 x1 x2 x3 some).bind k := by
 unfold c_impl_IsValidTable_L4
 repeat' first|exact bnd_tail|exact bnd_none|exact bnd_leaf|apply bnd_ite|apply bnd_cond|apply bnd_sum|(apply bnd_bind;intro _)|intro _
def n_impl_IsValidTable_L4 : Nat → List D → Int → Int → List D → Option ((Bool) ⊕ (Unit))
 | 0, _, _, _, _ => none
 | n + 1, x0, x1, x2, x3 => c_impl_IsValidTable_L4 (n_impl_IsValidTable_L4 n) x0 x1 x2 x3 some
noncomputable def impl_IsValidTable_L4 (x0 : List D) (x1 : Int) (x2 : Int) (x3 : List D) : Option ((Bool) ⊕ (Unit)) := ev (fun n => n_impl_IsValidTable_L4 n x0 x1 x2 x3)
def m_impl_IsValidTable_L4 (F : List D → Int → Int → List D → Option ((Bool) ⊕ (Unit))) : Lent := ⟨4, ⟨(.undef :: .ptr 1000 [0] :: uu 9 (.rd (.slice (.int .i64)) :: .int .i64 :: .int .i64 :: uu 22 ([]))), [(1000, .obox (.agg [.rd (.slice (.int .i64))]))]⟩, [(.ret, ⟨(.undef :: .undef :: .bool :: uu 33 ([])), []⟩), (.exit 0, ⟨(uu 36 ([])), []⟩)], fun _ ds k => dL (fun x0 ds => dI (fun x1 ds => dI (fun x2 ds => dL (fun x3 ds => dE ((F x0 x1 x2 x3).bind (Sum.elim (fun y => k 0 [.B y]) (fun y => k 1 []))) ds) ds) ds) ds) ds⟩
theorem q_impl_IsValidTable_L4 (F : List D → Int → Int → List D → Option ((Bool) ⊕ (Unit))) (x0 : List D) (x1 : Int) (x2 : Int) (x3 : List D) : runLoop (ocOf [e_impl_within, e_slices_ContainsFunc__impl_IsValidTable_1]) (olOf [m_impl_IsValidTable_L4 F]) A 43 (codeAt (bodyOf Try.f43) 4) ((m_impl_IsValidTable_L4 F).sh.mk' [.L x0, .I x1, .I x2, .L x3]) (fun e σ' => some (e, σ')) = c_impl_IsValidTable_L4 F x0 x1 x2 x3 (Sum.elim (fun y => some (.ret, SSt.mk' ⟨(.undef :: .undef :: .bool :: uu 33 ([])), []⟩ [.B y])) (fun y => some (.exit 0, SSt.mk' ⟨(uu 36 ([])), []⟩ []))) := by kernel_rfl
theorem m_impl_IsValidTable_L4_ok : ∀ n, (m_impl_IsValidTable_L4 (n_impl_IsValidTable_L4 n)).ok Try.prog (codeAt (bodyOf Try.f43) 4) := by
 intro n
 induction n with
 | zero =>
  intro R ds k r h
  unfold m_impl_IsValidTable_L4 at h
  obtain ⟨x0, d0, rfl, h0⟩ := dL_some h
  obtain ⟨x1, d1, rfl, h1⟩ := dI_some h0
  obtain ⟨x2, d2, rfl, h2⟩ := dI_some h1
  obtain ⟨x3, d3, rfl, h3⟩ := dL_some h2
  obtain ⟨rfl, hE⟩ := dE_some h3
  obtain ⟨y, hy, hk⟩ := bnd_some hE
  cases hy
 | succ n ih =>
  intro R ds k r h
  unfold m_impl_IsValidTable_L4 at h
  obtain ⟨x0, d0, rfl, h0⟩ := dL_some h
  obtain ⟨x1, d1, rfl, h1⟩ := dI_some h0
  obtain ⟨x2, d2, rfl, h2⟩ := dI_some h1
  obtain ⟨x3, d3, rfl, h3⟩ := dL_some h2
  obtain ⟨rfl, hE⟩ := dE_some h3
  obtain ⟨y, hy, hk⟩ := bnd_some hE
  have hq := q_impl_IsValidTable_L4 (n_impl_IsValidTable_L4 n) x0 x1 x2 x3
  rw [c_impl_IsValidTable_L4_bind] at hq
  rw [show c_impl_IsValidTable_L4 (n_impl_IsValidTable_L4 n) x0 x1 x2 x3 some = some y from hy] at hq
  cases y with
  | inl y =>
   refine ⟨0, _, _, _, hk, rfl, loop_ok px (fx := ⟨Try.func43, by kernel_rfl, by kernel_rfl⟩) (entsOK_cons e_impl_within_ok (entsOK_cons e_slices_ContainsFunc__impl_IsValidTable_1_ok entsOK_nil)) (lentsOK_cons ih lentsOK_nil) (by kernel_rfl) ?_⟩
   exact hq
  | inr y =>
   refine ⟨1, _, _, _, hk, rfl, loop_ok px (fx := ⟨Try.func43, by kernel_rfl, by kernel_rfl⟩) (entsOK_cons e_impl_within_ok (entsOK_cons e_slices_ContainsFunc__impl_IsValidTable_1_ok entsOK_nil)) (lentsOK_cons ih lentsOK_nil) (by kernel_rfl) ?_⟩
   exact hq
noncomputable def e_impl_IsValidTable_L4 : Lent := m_impl_IsValidTable_L4 (impl_IsValidTable_L4)
theorem e_impl_IsValidTable_L4_ok : (e_impl_IsValidTable_L4).ok Try.prog (codeAt (bodyOf Try.f43) 4) := by
 intro R ds k r h
 unfold e_impl_IsValidTable_L4 m_impl_IsValidTable_L4 at h
 obtain ⟨x0, d0, rfl, h0⟩ := dL_some h
 obtain ⟨x1, d1, rfl, h1⟩ := dI_some h0
 obtain ⟨x2, d2, rfl, h2⟩ := dI_some h1
 obtain ⟨x3, d3, rfl, h3⟩ := dL_some h2
 obtain ⟨rfl, hE⟩ := dE_some h3
 obtain ⟨y, hy, hk⟩ := bnd_some hE
 obtain ⟨n, hn⟩ := ev_some hy
 exact m_impl_IsValidTable_L4_ok n R _ k r (show (n_impl_IsValidTable_L4 n x0 x1 x2 x3).bind _ = _ by rw [hn]; exact hk)

/-!-/
def c_impl_IsValidTable {R : Type} (x0 : List D) (k : Bool → Option R) : Option R :=
 (impl_within (↑x0.length : Int) (1 : Int) (7 : Int)).bind (fun y0 =>
 bif !y0 then
 k Bool.false
 else
 (impl_IsValidTable_L4 x0 (↑x0.length : Int) (0 : Int) x0).bind (Sum.elim (fun y1 =>
 k y1) (fun y2 =>
 k Bool.true)))
theorem c_impl_IsValidTable_bind {R : Type} (x0 : List D) (k : Bool → Option R) : c_impl_IsValidTable x0 k = (c_impl_IsValidTable x0 some).bind k := by
 unfold c_impl_IsValidTable
 repeat' first|exact bnd_tail|exact bnd_none|exact bnd_leaf|apply bnd_ite|apply bnd_cond|apply bnd_sum|(apply bnd_bind;intro _)|intro _
def impl_IsValidTable (x0 : List D) : Option (Bool) := c_impl_IsValidTable x0 some
def e_impl_IsValidTable : Ent := ⟨43, [.agg [.rd (.slice (.int .i64))]], .bool, [.undef], fun _ ds k => dL (fun x0 ds => dE ((impl_IsValidTable x0).bind (fun y => k [.B y])) ds) ds⟩
theorem q_impl_IsValidTable (x0 : List D) : runFn (ocOf [e_impl_within]) (olOf [e_impl_IsValidTable_L4]) A 43 Try.f43 (Sh.mks e_impl_IsValidTable.sh [.L x0]).1 (fun v os => some (v, os)) = c_impl_IsValidTable x0 (fun y => some ((e_impl_IsValidTable.res.mk [.B y]).1, (Sh.mks e_impl_IsValidTable.outs (e_impl_IsValidTable.res.mk [.B y]).2).1)) := by kernel_rfl
theorem e_impl_IsValidTable_ok : e_impl_IsValidTable.ok Try.prog A := by
 intro R ds k r h
 unfold e_impl_IsValidTable at h
 obtain ⟨x0, d0, rfl, h0⟩ := dL_some h
 obtain ⟨rfl, hE⟩ := dE_some h0
 obtain ⟨y, hy, hk⟩ := bnd_some hE
 refine ⟨_, hk, fn_ok px (fx := ⟨Try.func43, by kernel_rfl, by kernel_rfl⟩) (entsOK_cons e_impl_within_ok entsOK_nil) (lentsOK_cons e_impl_IsValidTable_L4_ok lentsOK_nil) ?_⟩
 have hq := q_impl_IsValidTable x0
 rw [c_impl_IsValidTable_bind] at hq
 rw [show c_impl_IsValidTable x0 some = some y from hy] at hq
 exact hq

/-!-/
def c_slices_Clone {R : Type} (x0 : List D) (k : List D → Option R) : Option R :=
 if (1 : Nat) ≤ x0.length then
 if ([] : List D).length + x0.length ≤ (4294967296 : Nat) then
 k ([] ++ x0)
 else
 none
 else
 bothK (
 if ([] : List D).length + x0.length ≤ (4294967296 : Nat) then
 k ([] ++ x0)
 else
 none) (
 k [])
theorem c_slices_Clone_imp {R : Type} (x0 : List D) (k : List D → Option R) (y : List D) : c_slices_Clone x0 some = some y → c_slices_Clone x0 k = k y := by
 unfold c_slices_Clone
 repeat' first
  | exact imp_leaf
  | exact imp_none
  | exact imp_tail
  | apply imp_both
  | apply imp_ite
  | apply imp_cond
  | apply imp_sum
  | (apply imp_bind; intro _)
  | intro _
def slices_Clone (x0 : List D) : Option (List D) := c_slices_Clone x0 some
def e_slices_Clone : Ent := ⟨58, [.rd (.int .i64)], .own (.int .i64), [.undef], fun _ ds k => dL (fun x0 ds => dE ((slices_Clone x0).bind (fun y => k [.L y])) ds) ds⟩
theorem q_slices_Clone (x0 : List D) : runFn (ocOf []) (olOf []) A 58 Try.f58 (Sh.mks e_slices_Clone.sh [.L x0]).1 (fun v os => some (v, os)) = c_slices_Clone x0 (fun y => some ((e_slices_Clone.res.mk [.L y]).1, (Sh.mks e_slices_Clone.outs (e_slices_Clone.res.mk [.L y]).2).1)) := by kernel_rfl
theorem e_slices_Clone_ok : e_slices_Clone.ok Try.prog A := by
 intro R ds k r h
 unfold e_slices_Clone at h
 obtain ⟨x0, d0, rfl, h0⟩ := dL_some h
 obtain ⟨rfl, hE⟩ := dE_some h0
 obtain ⟨y, hy, hk⟩ := bnd_some hE
 refine ⟨_, hk, fn_ok px (fx := ⟨Try.func58, by kernel_rfl, by kernel_rfl⟩) entsOK_nil lentsOK_nil ?_⟩
 have hq := q_slices_Clone x0
 rw [c_slices_Clone_imp x0 _ y hy] at hq
 exact hq

/-!-/
def c_math_bits_Len64 {R : Type} (x0 : Int) (k : Int → Option R) : Option R :=
 bif decide ((4294967296 : Int) ≤ x0) then
 if (0 : Int) ≤ (32 : Int) then
 bif decide ((65536 : Int) ≤ x0.fdiv ((2 : Int) ^ Min.min (Int.toNat (32 : Int)) IntKind.u64.bits)) then
 if (0 : Int) ≤ (16 : Int) then
 bif decide ((256 : Int) ≤ (x0.fdiv ((2 : Int) ^ Min.min (Int.toNat (32 : Int)) IntKind.u64.bits)).fdiv ((2 : Int) ^ Min.min (Int.toNat (16 : Int)) IntKind.u64.bits)) then
 if (0 : Int) ≤ (8 : Int) then
 if (0 : Int) ≤ IntKind.u8.wrap (((x0.fdiv ((2 : Int) ^ Min.min (Int.toNat (32 : Int)) IntKind.u64.bits)).fdiv ((2 : Int) ^ Min.min (Int.toNat (16 : Int)) IntKind.u64.bits)).fdiv ((2 : Int) ^ Min.min (Int.toNat (8 : Int)) IntKind.u64.bits)) ∧ IntKind.u8.wrap (((x0.fdiv ((2 : Int) ^ Min.min (Int.toNat (32 : Int)) IntKind.u64.bits)).fdiv ((2 : Int) ^ Min.min (Int.toNat (16 : Int)) IntKind.u64.bits)).fdiv ((2 : Int) ^ Min.min (Int.toNat (8 : Int)) IntKind.u64.bits)) < (↑bytes_0.size : Int) then
 k (IntKind.i64.wrap (IntKind.i64.wrap (IntKind.i64.wrap ((32 : Int) + (16 : Int)) + (8 : Int)) + IntKind.i64.wrap (↑(bytes_0.data.toList.getD (IntKind.u8.wrap (((x0.fdiv ((2 : Int) ^ Min.min (Int.toNat (32 : Int)) IntKind.u64.bits)).fdiv ((2 : Int) ^ Min.min (Int.toNat (16 : Int)) IntKind.u64.bits)).fdiv ((2 : Int) ^ Min.min (Int.toNat (8 : Int)) IntKind.u64.bits))).toNat (0 : UInt8)).toNat : Int)))
 else
 none
 else
 none
 else
 if (0 : Int) ≤ IntKind.u8.wrap ((x0.fdiv ((2 : Int) ^ Min.min (Int.toNat (32 : Int)) IntKind.u64.bits)).fdiv ((2 : Int) ^ Min.min (Int.toNat (16 : Int)) IntKind.u64.bits)) ∧ IntKind.u8.wrap ((x0.fdiv ((2 : Int) ^ Min.min (Int.toNat (32 : Int)) IntKind.u64.bits)).fdiv ((2 : Int) ^ Min.min (Int.toNat (16 : Int)) IntKind.u64.bits)) < (↑bytes_0.size : Int) then
 k (IntKind.i64.wrap (IntKind.i64.wrap ((32 : Int) + (16 : Int)) + IntKind.i64.wrap (↑(bytes_0.data.toList.getD (IntKind.u8.wrap ((x0.fdiv ((2 : Int) ^ Min.min (Int.toNat (32 : Int)) IntKind.u64.bits)).fdiv ((2 : Int) ^ Min.min (Int.toNat (16 : Int)) IntKind.u64.bits))).toNat (0 : UInt8)).toNat : Int)))
 else
 none
 else
 none
 else
 bif decide ((256 : Int) ≤ x0.fdiv ((2 : Int) ^ Min.min (Int.toNat (32 : Int)) IntKind.u64.bits)) then
 if (0 : Int) ≤ (8 : Int) then
 if (0 : Int) ≤ IntKind.u8.wrap ((x0.fdiv ((2 : Int) ^ Min.min (Int.toNat (32 : Int)) IntKind.u64.bits)).fdiv ((2 : Int) ^ Min.min (Int.toNat (8 : Int)) IntKind.u64.bits)) ∧ IntKind.u8.wrap ((x0.fdiv ((2 : Int) ^ Min.min (Int.toNat (32 : Int)) IntKind.u64.bits)).fdiv ((2 : Int) ^ Min.min (Int.toNat (8 : Int)) IntKind.u64.bits)) < (↑bytes_0.size : Int) then
 k (IntKind.i64.wrap (IntKind.i64.wrap ((32 : Int) + (8 : Int)) + IntKind.i64.wrap (↑(bytes_0.data.toList.getD (IntKind.u8.wrap ((x0.fdiv ((2 : Int) ^ Min.min (Int.toNat (32 : Int)) IntKind.u64.bits)).fdiv ((2 : Int) ^ Min.min (Int.toNat (8 : Int)) IntKind.u64.bits))).toNat (0 : UInt8)).toNat : Int)))
 else
 none
 else
 none
 else
 if (0 : Int) ≤ IntKind.u8.wrap (x0.fdiv ((2 : Int) ^ Min.min (Int.toNat (32 : Int)) IntKind.u64.bits)) ∧ IntKind.u8.wrap (x0.fdiv ((2 : Int) ^ Min.min (Int.toNat (32 : Int)) IntKind.u64.bits)) < (↑bytes_0.size : Int) then
 k (IntKind.i64.wrap ((32 : Int) + IntKind.i64.wrap (↑(bytes_0.data.toList.getD (IntKind.u8.wrap (x0.fdiv ((2 : Int) ^ Min.min (Int.toNat (32 : Int)) IntKind.u64.bits))).toNat (0 : UInt8)).toNat : Int)))
 else
 none
 else
 none
 else
 bif decide ((65536 : Int) ≤ x0) then
 if (0 : Int) ≤ (16 : Int) then
 bif decide ((256 : Int) ≤ x0.fdiv ((2 : Int) ^ Min.min (Int.toNat (16 : Int)) IntKind.u64.bits)) then
 if (0 : Int) ≤ (8 : Int) then
 if (0 : Int) ≤ IntKind.u8.wrap ((x0.fdiv ((2 : Int) ^ Min.min (Int.toNat (16 : Int)) IntKind.u64.bits)).fdiv ((2 : Int) ^ Min.min (Int.toNat (8 : Int)) IntKind.u64.bits)) ∧ IntKind.u8.wrap ((x0.fdiv ((2 : Int) ^ Min.min (Int.toNat (16 : Int)) IntKind.u64.bits)).fdiv ((2 : Int) ^ Min.min (Int.toNat (8 : Int)) IntKind.u64.bits)) < (↑bytes_0.size : Int) then
 k (IntKind.i64.wrap (IntKind.i64.wrap (IntKind.i64.wrap ((0 : Int) + (16 : Int)) + (8 : Int)) + IntKind.i64.wrap (↑(bytes_0.data.toList.getD (IntKind.u8.wrap ((x0.fdiv ((2 : Int) ^ Min.min (Int.toNat (16 : Int)) IntKind.u64.bits)).fdiv ((2 : Int) ^ Min.min (Int.toNat (8 : Int)) IntKind.u64.bits))).toNat (0 : UInt8)).toNat : Int)))
 else
 none
 else
 none
 else
 if (0 : Int) ≤ IntKind.u8.wrap (x0.fdiv ((2 : Int) ^ Min.min (Int.toNat (16 : Int)) IntKind.u64.bits)) ∧ IntKind.u8.wrap (x0.fdiv ((2 : Int) ^ Min.min (Int.toNat (16 : Int)) IntKind.u64.bits)) < (↑bytes_0.size : Int) then
 k (IntKind.i64.wrap (IntKind.i64.wrap ((0 : Int) + (16 : Int)) + IntKind.i64.wrap (↑(bytes_0.data.toList.getD (IntKind.u8.wrap (x0.fdiv ((2 : Int) ^ Min.min (Int.toNat (16 : Int)) IntKind.u64.bits))).toNat (0 : UInt8)).toNat : Int)))
 else
 none
 else
 none
 else
 bif decide ((256 : Int) ≤ x0) then
 if (0 : Int) ≤ (8 : Int) then
 if (0 : Int) ≤ IntKind.u8.wrap (x0.fdiv ((2 : Int) ^ Min.min (Int.toNat (8 : Int)) IntKind.u64.bits)) ∧ IntKind.u8.wrap (x0.fdiv ((2 : Int) ^ Min.min (Int.toNat (8 : Int)) IntKind.u64.bits)) < (↑bytes_0.size : Int) then
 k (IntKind.i64.wrap (IntKind.i64.wrap ((0 : Int) + (8 : Int)) + IntKind.i64.wrap (↑(bytes_0.data.toList.getD (IntKind.u8.wrap (x0.fdiv ((2 : Int) ^ Min.min (Int.toNat (8 : Int)) IntKind.u64.bits))).toNat (0 : UInt8)).toNat : Int)))
 else
 none
 else
 none
 else
 if (0 : Int) ≤ IntKind.u8.wrap x0 ∧ IntKind.u8.wrap x0 < (↑bytes_0.size : Int) then
 k (IntKind.i64.wrap ((0 : Int) + IntKind.i64.wrap (↑(bytes_0.data.toList.getD (IntKind.u8.wrap x0).toNat (0 : UInt8)).toNat : Int)))
 else
 none
theorem c_math_bits_Len64_bind {R : Type} (x0 : Int) (k : Int → Option R) : c_math_bits_Len64 x0 k = (c_math_bits_Len64 x0 some).bind k := by
 unfold c_math_bits_Len64
 repeat' first|exact bnd_tail|exact bnd_none|exact bnd_leaf|apply bnd_ite|apply bnd_cond|apply bnd_sum|(apply bnd_bind;intro _)|intro _
def math_bits_Len64 (x0 : Int) : Option (Int) := c_math_bits_Len64 x0 some
def e_math_bits_Len64 : Ent := ⟨91, [.int .u64], .int .i64, [.undef], fun _ ds k => dI (fun x0 ds => dE ((math_bits_Len64 x0).bind (fun y => k [.I y])) ds) ds⟩
theorem q_math_bits_Len64 (x0 : Int) : runFn (ocOf []) (olOf []) A 91 Try.f91 (Sh.mks e_math_bits_Len64.sh [.I x0]).1 (fun v os => some (v, os)) = c_math_bits_Len64 x0 (fun y => some ((e_math_bits_Len64.res.mk [.I y]).1, (Sh.mks e_math_bits_Len64.outs (e_math_bits_Len64.res.mk [.I y]).2).1)) := by kernel_rfl
theorem e_math_bits_Len64_ok : e_math_bits_Len64.ok Try.prog A := by
 intro R ds k r h
 unfold e_math_bits_Len64 at h
 obtain ⟨x0, d0, rfl, h0⟩ := dI_some h
 obtain ⟨rfl, hE⟩ := dE_some h0
 obtain ⟨y, hy, hk⟩ := bnd_some hE
 refine ⟨_, hk, fn_ok px (fx := ⟨Try.func91, by kernel_rfl, by kernel_rfl⟩) entsOK_nil lentsOK_nil ?_⟩
 have hq := q_math_bits_Len64 x0
 rw [c_math_bits_Len64_bind] at hq
 rw [show c_math_bits_Len64 x0 some = some y from hy] at hq
 exact hq

/-!-/
def c_math_bits_Len {R : Type} (x0 : Int) (k : Int → Option R) : Option R :=
 (math_bits_Len64 x0).bind (fun y0 =>
 k y0)
theorem c_math_bits_Len_bind {R : Type} (x0 : Int) (k : Int → Option R) : c_math_bits_Len x0 k = (c_math_bits_Len x0 some).bind k := by
 unfold c_math_bits_Len
 repeat' first|exact bnd_tail|exact bnd_none|exact bnd_leaf|apply bnd_ite|apply bnd_cond|apply bnd_sum|(apply bnd_bind;intro _)|intro _
def math_bits_Len (x0 : Int) : Option (Int) := c_math_bits_Len x0 some
def e_math_bits_Len : Ent := ⟨77, [.int .u64], .int .i64, [.undef], fun _ ds k => dI (fun x0 ds => dE ((math_bits_Len x0).bind (fun y => k [.I y])) ds) ds⟩
theorem q_math_bits_Len (x0 : Int) : runFn (ocOf [e_math_bits_Len64]) (olOf []) A 77 Try.f77 (Sh.mks e_math_bits_Len.sh [.I x0]).1 (fun v os => some (v, os)) = c_math_bits_Len x0 (fun y => some ((e_math_bits_Len.res.mk [.I y]).1, (Sh.mks e_math_bits_Len.outs (e_math_bits_Len.res.mk [.I y]).2).1)) := by kernel_rfl
theorem e_math_bits_Len_ok : e_math_bits_Len.ok Try.prog A := by
 intro R ds k r h
 unfold e_math_bits_Len at h
 obtain ⟨x0, d0, rfl, h0⟩ := dI_some h
 obtain ⟨rfl, hE⟩ := dE_some h0
 obtain ⟨y, hy, hk⟩ := bnd_some hE
 refine ⟨_, hk, fn_ok px (fx := ⟨Try.func77, by kernel_rfl, by kernel_rfl⟩) (entsOK_cons e_math_bits_Len64_ok entsOK_nil) lentsOK_nil ?_⟩
 have hq := q_math_bits_Len x0
 rw [c_math_bits_Len_bind] at hq
 rw [show c_math_bits_Len x0 some = some y from hy] at hq
 exact hq

/-!-/
def c_cmp_isNaN {R : Type} (x0 : Int) (k : Bool → Option R) : Option R :=
 k (!decide (x0 = x0))
theorem c_cmp_isNaN_bind {R : Type} (x0 : Int) (k : Bool → Option R) : c_cmp_isNaN x0 k = (c_cmp_isNaN x0 some).bind k := by
 unfold c_cmp_isNaN
 repeat' first|exact bnd_tail|exact bnd_none|exact bnd_leaf|apply bnd_ite|apply bnd_cond|apply bnd_sum|(apply bnd_bind;intro _)|intro _
def cmp_isNaN (x0 : Int) : Option (Bool) := c_cmp_isNaN x0 some
def e_cmp_isNaN : Ent := ⟨97, [.int .i64], .bool, [.undef], fun _ ds k => dI (fun x0 ds => dE ((cmp_isNaN x0).bind (fun y => k [.B y])) ds) ds⟩
theorem q_cmp_isNaN (x0 : Int) : runFn (ocOf []) (olOf []) A 97 Try.f97 (Sh.mks e_cmp_isNaN.sh [.I x0]).1 (fun v os => some (v, os)) = c_cmp_isNaN x0 (fun y => some ((e_cmp_isNaN.res.mk [.B y]).1, (Sh.mks e_cmp_isNaN.outs (e_cmp_isNaN.res.mk [.B y]).2).1)) := by kernel_rfl
theorem e_cmp_isNaN_ok : e_cmp_isNaN.ok Try.prog A := by
 intro R ds k r h
 unfold e_cmp_isNaN at h
 obtain ⟨x0, d0, rfl, h0⟩ := dI_some h
 obtain ⟨rfl, hE⟩ := dE_some h0
 obtain ⟨y, hy, hk⟩ := bnd_some hE
 refine ⟨_, hk, fn_ok px (fx := ⟨Try.func97, by kernel_rfl, by kernel_rfl⟩) entsOK_nil lentsOK_nil ?_⟩
 have hq := q_cmp_isNaN x0
 rw [c_cmp_isNaN_bind] at hq
 rw [show c_cmp_isNaN x0 some = some y from hy] at hq
 exact hq

/-!-/
def c_cmp_Less {R : Type} (x0 : Int) (x1 : Int) (k : Bool → Option R) : Option R :=
 (cmp_isNaN x0).bind (fun y0 =>
 bif y0 then
 (cmp_isNaN x1).bind (fun y1 =>
 bif !y1 then
 k Bool.true
 else
 k (decide (x0 < x1)))
 else
 k (decide (x0 < x1)))
theorem c_cmp_Less_bind {R : Type} (x0 : Int) (x1 : Int) (k : Bool → Option R) : c_cmp_Less x0 x1 k = (c_cmp_Less x0 x1 some).bind k := by
 unfold c_cmp_Less
 repeat' first|exact bnd_tail|exact bnd_none|exact bnd_leaf|apply bnd_ite|apply bnd_cond|apply bnd_sum|(apply bnd_bind;intro _)|intro _
def cmp_Less (x0 : Int) (x1 : Int) : Option (Bool) := c_cmp_Less x0 x1 some
def e_cmp_Less : Ent := ⟨87, [.int .i64, .int .i64], .bool, [.undef, .undef], fun _ ds k => dI (fun x0 ds => dI (fun x1 ds => dE ((cmp_Less x0 x1).bind (fun y => k [.B y])) ds) ds) ds⟩
theorem q_cmp_Less (x0 : Int) (x1 : Int) : runFn (ocOf [e_cmp_isNaN]) (olOf []) A 87 Try.f87 (Sh.mks e_cmp_Less.sh [.I x0, .I x1]).1 (fun v os => some (v, os)) = c_cmp_Less x0 x1 (fun y => some ((e_cmp_Less.res.mk [.B y]).1, (Sh.mks e_cmp_Less.outs (e_cmp_Less.res.mk [.B y]).2).1)) := by kernel_rfl
theorem e_cmp_Less_ok : e_cmp_Less.ok Try.prog A := by
 intro R ds k r h
 unfold e_cmp_Less at h
 obtain ⟨x0, d0, rfl, h0⟩ := dI_some h
 obtain ⟨x1, d1, rfl, h1⟩ := dI_some h0
 obtain ⟨rfl, hE⟩ := dE_some h1
 obtain ⟨y, hy, hk⟩ := bnd_some hE
 refine ⟨_, hk, fn_ok px (fx := ⟨Try.func87, by kernel_rfl, by kernel_rfl⟩) (entsOK_cons e_cmp_isNaN_ok entsOK_nil) lentsOK_nil ?_⟩
 have hq := q_cmp_Less x0 x1
 rw [c_cmp_Less_bind] at hq
 rw [show c_cmp_Less x0 x1 some = some y from hy] at hq
 exact hq

/-!-/
def c_slices_insertionSortOrdered_L4 {R : Type} (F : Int → Int → Int → Int → List D → Option (Int × Int × Int × List D)) (x0 : Int) (x1 : Int) (x2 : Int) (x3 : Int) (x4 : List D) (k : Int × Int × Int × List D → Option R) : Option R :=
 bif decide (x0 < x3) then
 if 0 ≤ x3 ∧ x3 < (↑x4.length : Int) then
 if x3.toNat + 1 ≤ x4.length then
 if (0 : Int) ≤ IntKind.i64.wrap (x3 - 1) ∧ IntKind.i64.wrap (x3 - 1) < (↑x4.length : Int) then
 if (IntKind.i64.wrap (x3 - 1)).toNat + 1 ≤ x4.length then
 (cmp_Less ((x4.getD x3.toNat (D.int 0)).toInt) ((x4.getD (IntKind.i64.wrap (x3 - 1)).toNat (D.int 0)).toInt)).bind (fun y0 =>
 bif y0 then
 if (0 : Int) ≤ IntKind.i64.wrap (x3 - 1) ∧ IntKind.i64.wrap (x3 - 1) < (↑x4.length : Int) then
 if (IntKind.i64.wrap (x3 - 1)).toNat + 1 ≤ x4.length then
 if 0 ≤ x3 ∧ x3 < (↑x4.length : Int) then
 if x3.toNat + 1 ≤ x4.length then
 if 0 ≤ x3 ∧ x3 < (↑x4.length : Int) then
 if x3.toNat + 1 ≤ x4.length then
 if (0 : Int) ≤ IntKind.i64.wrap (x3 - 1) ∧ IntKind.i64.wrap (x3 - 1) < (↑(x4.set x3.toNat (D.int (x4.getD (IntKind.i64.wrap (x3 - 1)).toNat (D.int 0)).toInt)).length : Int) then
 if (IntKind.i64.wrap (x3 - 1)).toNat + 1 ≤ (x4.set x3.toNat (D.int (x4.getD (IntKind.i64.wrap (x3 - 1)).toNat (D.int 0)).toInt)).length then
 (F x0 x1 x2 (IntKind.i64.wrap (x3 - 1)) ((x4.set x3.toNat (D.int (x4.getD (IntKind.i64.wrap (x3 - 1)).toNat (D.int 0)).toInt)).set (IntKind.i64.wrap (x3 - 1)).toNat (D.int (x4.getD x3.toNat (D.int 0)).toInt))).bind k
 else
 none
 else
 none
 else
 none
 else
 none
 else
 none
 else
 none
 else
 none
 else
 none
 else
 k (x0, x1, x2, x4))
 else
 none
 else
 none
 else
 none
 else
 none
 else
 k (x0, x1, x2, x4)
theorem c_slices_insertionSortOrdered_L4_bind {R : Type} (F : Int → Int → Int → Int → List D → Option (Int × Int × Int × List D)) (x0 : Int) (x1 : Int) (x2 : Int) (x3 : Int) (x4 : List D) (k : Int × Int × Int × List D → Option R) : c_slices_insertionSortOrdered_L4 F x0 x1 x2 x3 x4 k = (c_slices_insertionSortOrdered_L4 F x0 x1 x2 x3 x4 some).bind k := by
 unfold c_slices_insertionSortOrdered_L4
 repeat' first|exact bnd_tail|exact bnd_none|exact bnd_leaf|apply bnd_ite|apply bnd_cond|apply bnd_sum|(apply bnd_bind;intro _)|intro _
def n_slices_insertionSortOrdered_L4 : Nat → Int → Int → Int → Int → List D → Option (Int × Int × Int × List D)
 | 0, _, _, _, _, _ => none
 | n + 1, x0, x1, x2, x3, x4 => c_slices_insertionSortOrdered_L4 (n_slices_insertionSortOrdered_L4 n) x0 x1 x2 x3 x4 some
noncomputable def slices_insertionSortOrdered_L4 (x0 : Int) (x1 : Int) (x2 : Int) (x3 : Int) (x4 : List D) : Option (Int × Int × Int × List D) := ev (fun n => n_slices_insertionSortOrdered_L4 n x0 x1 x2 x3 x4)
def m_slices_insertionSortOrdered_L4 (F : Int → Int → Int → Int → List D → Option (Int × Int × Int × List D)) : Lent := ⟨4, ⟨(.full 1000 [] (.int .i64) :: .int .i64 :: .int .i64 :: .undef :: .undef :: .undef :: .int .i64 :: .int .i64 :: uu 41 ([])), [(1000, .own (.int .i64))]⟩, [(.exit 2, ⟨(.full 1000 [] (.int .i64) :: .int .i64 :: .int .i64 :: .undef :: .undef :: .undef :: .int .i64 :: uu 42 ([])), [(1000, .own (.int .i64))]⟩)], fun _ ds k => dI (fun x0 ds => dI (fun x1 ds => dI (fun x2 ds => dI (fun x3 ds => dL (fun x4 ds => dE ((F x0 x1 x2 x3 x4).bind (fun y => k 0 [.I y.1, .I y.2.1, .I y.2.2.1, .L y.2.2.2])) ds) ds) ds) ds) ds) ds⟩
theorem q_slices_insertionSortOrdered_L4 (F : Int → Int → Int → Int → List D → Option (Int × Int × Int × List D)) (x0 : Int) (x1 : Int) (x2 : Int) (x3 : Int) (x4 : List D) : runLoop (ocOf [e_cmp_Less]) (olOf [m_slices_insertionSortOrdered_L4 F]) A 81 (codeAt (bodyOf Try.f81) 4) ((m_slices_insertionSortOrdered_L4 F).sh.mk' [.I x0, .I x1, .I x2, .I x3, .L x4]) (fun e σ' => some (e, σ')) = c_slices_insertionSortOrdered_L4 F x0 x1 x2 x3 x4 (fun y => some (.exit 2, SSt.mk' ⟨(.full 1000 [] (.int .i64) :: .int .i64 :: .int .i64 :: .undef :: .undef :: .undef :: .int .i64 :: uu 42 ([])), [(1000, .own (.int .i64))]⟩ [.I y.1, .I y.2.1, .I y.2.2.1, .L y.2.2.2])) := by kernel_rfl
theorem m_slices_insertionSortOrdered_L4_ok : ∀ n, (m_slices_insertionSortOrdered_L4 (n_slices_insertionSortOrdered_L4 n)).ok Try.prog (codeAt (bodyOf Try.f81) 4) := by
 intro n
 induction n with
 | zero =>
  intro R ds k r h
  unfold m_slices_insertionSortOrdered_L4 at h
  obtain ⟨x0, d0, rfl, h0⟩ := dI_some h
  obtain ⟨x1, d1, rfl, h1⟩ := dI_some h0
  obtain ⟨x2, d2, rfl, h2⟩ := dI_some h1
  obtain ⟨x3, d3, rfl, h3⟩ := dI_some h2
  obtain ⟨x4, d4, rfl, h4⟩ := dL_some h3
  obtain ⟨rfl, hE⟩ := dE_some h4
  obtain ⟨y, hy, hk⟩ := bnd_some hE
  cases hy
 | succ n ih =>
  intro R ds k r h
  unfold m_slices_insertionSortOrdered_L4 at h
  obtain ⟨x0, d0, rfl, h0⟩ := dI_some h
  obtain ⟨x1, d1, rfl, h1⟩ := dI_some h0
  obtain ⟨x2, d2, rfl, h2⟩ := dI_some h1
  obtain ⟨x3, d3, rfl, h3⟩ := dI_some h2
  obtain ⟨x4, d4, rfl, h4⟩ := dL_some h3
  obtain ⟨rfl, hE⟩ := dE_some h4
  obtain ⟨y, hy, hk⟩ := bnd_some hE
  have hq := q_slices_insertionSortOrdered_L4 (n_slices_insertionSortOrdered_L4 n) x0 x1 x2 x3 x4
  rw [c_slices_insertionSortOrdered_L4_bind] at hq
  rw [show c_slices_insertionSortOrdered_L4 (n_slices_insertionSortOrdered_L4 n) x0 x1 x2 x3 x4 some = some y from hy] at hq
  refine ⟨0, _, _, _, hk, rfl, loop_ok px (fx := ⟨Try.func81, by kernel_rfl, by kernel_rfl⟩) (entsOK_cons e_cmp_Less_ok entsOK_nil) (lentsOK_cons ih lentsOK_nil) (by kernel_rfl) ?_⟩
  exact hq
noncomputable def e_slices_insertionSortOrdered_L4 : Lent := m_slices_insertionSortOrdered_L4 (slices_insertionSortOrdered_L4)
theorem e_slices_insertionSortOrdered_L4_ok : (e_slices_insertionSortOrdered_L4).ok Try.prog (codeAt (bodyOf Try.f81) 4) := by
 intro R ds k r h
 unfold e_slices_insertionSortOrdered_L4 m_slices_insertionSortOrdered_L4 at h
 obtain ⟨x0, d0, rfl, h0⟩ := dI_some h
 obtain ⟨x1, d1, rfl, h1⟩ := dI_some h0
 obtain ⟨x2, d2, rfl, h2⟩ := dI_some h1
 obtain ⟨x3, d3, rfl, h3⟩ := dI_some h2
 obtain ⟨x4, d4, rfl, h4⟩ := dL_some h3
 obtain ⟨rfl, hE⟩ := dE_some h4
 obtain ⟨y, hy, hk⟩ := bnd_some hE
 obtain ⟨n, hn⟩ := ev_some hy
 exact m_slices_insertionSortOrdered_L4_ok n R _ k r (show (n_slices_insertionSortOrdered_L4 n x0 x1 x2 x3 x4).bind _ = _ by rw [hn]; exact hk)

/-!-/
def c_slices_insertionSortOrdered_L1 {R : Type} (F : Int → Int → Int → List D → Option (List D)) (x0 : Int) (x1 : Int) (x2 : Int) (x3 : List D) (k : List D → Option R) : Option R :=
 bif decide (x2 < x1) then
 (slices_insertionSortOrdered_L4 x0 x1 x2 x2 x3).bind (fun y0 =>
 (F y0.fst y0.snd.fst (IntKind.i64.wrap (y0.snd.snd.fst + 1)) y0.snd.snd.snd).bind k)
 else
 k x3
theorem c_slices_insertionSortOrdered_L1_bind {R : Type} (F : Int → Int → Int → List D → Option (List D)) (x0 : Int) (x1 : Int) (x2 : Int) (x3 : List D) (k : List D → Option R) : c_slices_insertionSortOrdered_L1 F x0 x1 x2 x3 k = (c_slices_insertionSortOrdered_L1 F x0 x1 x2 x3 some).bind k := by
 unfold c_slices_insertionSortOrdered_L1
 repeat' first|exact bnd_tail|exact bnd_none|exact bnd_leaf|apply bnd_ite|apply bnd_cond|apply bnd_sum|(apply bnd_bind;intro _)|intro _
def n_slices_insertionSortOrdered_L1 : Nat → Int → Int → Int → List D → Option (List D)
 | 0, _, _, _, _ => none
 | n + 1, x0, x1, x2, x3 => c_slices_insertionSortOrdered_L1 (n_slices_insertionSortOrdered_L1 n) x0 x1 x2 x3 some
noncomputable def slices_insertionSortOrdered_L1 (x0 : Int) (x1 : Int) (x2 : Int) (x3 : List D) : Option (List D) := ev (fun n => n_slices_insertionSortOrdered_L1 n x0 x1 x2 x3)
def m_slices_insertionSortOrdered_L1 (F : Int → Int → Int → List D → Option (List D)) : Lent := ⟨1, ⟨(.full 1000 [] (.int .i64) :: .int .i64 :: .int .i64 :: .undef :: .undef :: .undef :: .int .i64 :: uu 42 ([])), [(1000, .own (.int .i64))]⟩, [(.exit 0, ⟨(.full 1000 [] (.int .i64) :: uu 48 ([])), [(1000, .own (.int .i64))]⟩)], fun _ ds k => dI (fun x0 ds => dI (fun x1 ds => dI (fun x2 ds => dL (fun x3 ds => dE ((F x0 x1 x2 x3).bind (fun y => k 0 [.L y])) ds) ds) ds) ds) ds⟩
theorem q_slices_insertionSortOrdered_L1 (F : Int → Int → Int → List D → Option (List D)) (x0 : Int) (x1 : Int) (x2 : Int) (x3 : List D) : runLoop (ocOf []) (olOf [m_slices_insertionSortOrdered_L1 F, e_slices_insertionSortOrdered_L4]) A 81 (codeAt (bodyOf Try.f81) 1) ((m_slices_insertionSortOrdered_L1 F).sh.mk' [.I x0, .I x1, .I x2, .L x3]) (fun e σ' => some (e, σ')) = c_slices_insertionSortOrdered_L1 F x0 x1 x2 x3 (fun y => some (.exit 0, SSt.mk' ⟨(.full 1000 [] (.int .i64) :: uu 48 ([])), [(1000, .own (.int .i64))]⟩ [.L y])) := by kernel_rfl
theorem m_slices_insertionSortOrdered_L1_ok : ∀ n, (m_slices_insertionSortOrdered_L1 (n_slices_insertionSortOrdered_L1 n)).ok Try.prog (codeAt (bodyOf Try.f81) 1) := by
 intro n
 induction n with
 | zero =>
  intro R ds k r h
  unfold m_slices_insertionSortOrdered_L1 at h
  obtain ⟨x0, d0, rfl, h0⟩ := dI_some h
  obtain ⟨x1, d1, rfl, h1⟩ := dI_some h0
  obtain ⟨x2, d2, rfl, h2⟩ := dI_some h1
  obtain ⟨x3, d3, rfl, h3⟩ := dL_some h2
  obtain ⟨rfl, hE⟩ := dE_some h3
  obtain ⟨y, hy, hk⟩ := bnd_some hE
  cases hy
 | succ n ih =>
  intro R ds k r h
  unfold m_slices_insertionSortOrdered_L1 at h
  obtain ⟨x0, d0, rfl, h0⟩ := dI_some h
  obtain ⟨x1, d1, rfl, h1⟩ := dI_some h0
  obtain ⟨x2, d2, rfl, h2⟩ := dI_some h1
  obtain ⟨x3, d3, rfl, h3⟩ := dL_some h2
  obtain ⟨rfl, hE⟩ := dE_some h3
  obtain ⟨y, hy, hk⟩ := bnd_some hE
  have hq := q_slices_insertionSortOrdered_L1 (n_slices_insertionSortOrdered_L1 n) x0 x1 x2 x3
  rw [c_slices_insertionSortOrdered_L1_bind] at hq
  rw [show c_slices_insertionSortOrdered_L1 (n_slices_insertionSortOrdered_L1 n) x0 x1 x2 x3 some = some y from hy] at hq
  refine ⟨0, _, _, _, hk, rfl, loop_ok px (fx := ⟨Try.func81, by kernel_rfl, by kernel_rfl⟩) entsOK_nil (lentsOK_cons ih (lentsOK_cons e_slices_insertionSortOrdered_L4_ok lentsOK_nil)) (by kernel_rfl) ?_⟩
  exact hq
noncomputable def e_slices_insertionSortOrdered_L1 : Lent := m_slices_insertionSortOrdered_L1 (slices_insertionSortOrdered_L1)
theorem e_slices_insertionSortOrdered_L1_ok : (e_slices_insertionSortOrdered_L1).ok Try.prog (codeAt (bodyOf Try.f81) 1) := by
 intro R ds k r h
 unfold e_slices_insertionSortOrdered_L1 m_slices_insertionSortOrdered_L1 at h
 obtain ⟨x0, d0, rfl, h0⟩ := dI_some h
 obtain ⟨x1, d1, rfl, h1⟩ := dI_some h0
 obtain ⟨x2, d2, rfl, h2⟩ := dI_some h1
 obtain ⟨x3, d3, rfl, h3⟩ := dL_some h2
 obtain ⟨rfl, hE⟩ := dE_some h3
 obtain ⟨y, hy, hk⟩ := bnd_some hE
 obtain ⟨n, hn⟩ := ev_some hy
 exact m_slices_insertionSortOrdered_L1_ok n R _ k r (show (n_slices_insertionSortOrdered_L1 n x0 x1 x2 x3).bind _ = _ by rw [hn]; exact hk)

/-!-/
def c_slices_insertionSortOrdered {R : Type} (x0 : List D) (x1 : Int) (x2 : Int) (k : List D → Option R) : Option R :=
 (slices_insertionSortOrdered_L1 x1 x2 (IntKind.i64.wrap (x1 + 1)) x0).bind (fun y0 =>
 k y0)
theorem c_slices_insertionSortOrdered_bind {R : Type} (x0 : List D) (x1 : Int) (x2 : Int) (k : List D → Option R) : c_slices_insertionSortOrdered x0 x1 x2 k = (c_slices_insertionSortOrdered x0 x1 x2 some).bind k := by
 unfold c_slices_insertionSortOrdered
 repeat' first|exact bnd_tail|exact bnd_none|exact bnd_leaf|apply bnd_ite|apply bnd_cond|apply bnd_sum|(apply bnd_bind;intro _)|intro _
def slices_insertionSortOrdered (x0 : List D) (x1 : Int) (x2 : Int) : Option (List D) := c_slices_insertionSortOrdered x0 x1 x2 some
def e_slices_insertionSortOrdered : Ent := ⟨81, [.own (.int .i64), .int .i64, .int .i64], .tup [], [.own (.int .i64), .undef, .undef], fun _ ds k => dL (fun x0 ds => dI (fun x1 ds => dI (fun x2 ds => dE ((slices_insertionSortOrdered x0 x1 x2).bind (fun y => k [.L y])) ds) ds) ds) ds⟩
theorem q_slices_insertionSortOrdered (x0 : List D) (x1 : Int) (x2 : Int) : runFn (ocOf []) (olOf [e_slices_insertionSortOrdered_L1]) A 81 Try.f81 (Sh.mks e_slices_insertionSortOrdered.sh [.L x0, .I x1, .I x2]).1 (fun v os => some (v, os)) = c_slices_insertionSortOrdered x0 x1 x2 (fun y => some ((e_slices_insertionSortOrdered.res.mk [.L y]).1, (Sh.mks e_slices_insertionSortOrdered.outs (e_slices_insertionSortOrdered.res.mk [.L y]).2).1)) := by kernel_rfl
theorem e_slices_insertionSortOrdered_ok : e_slices_insertionSortOrdered.ok Try.prog A := by
 intro R ds k r h
 unfold e_slices_insertionSortOrdered at h
 obtain ⟨x0, d0, rfl, h0⟩ := dL_some h
 obtain ⟨x1, d1, rfl, h1⟩ := dI_some h0
 obtain ⟨x2, d2, rfl, h2⟩ := dI_some h1
 obtain ⟨rfl, hE⟩ := dE_some h2
 obtain ⟨y, hy, hk⟩ := bnd_some hE
 refine ⟨_, hk, fn_ok px (fx := ⟨Try.func81, by kernel_rfl, by kernel_rfl⟩) entsOK_nil (lentsOK_cons e_slices_insertionSortOrdered_L1_ok lentsOK_nil) ?_⟩
 have hq := q_slices_insertionSortOrdered x0 x1 x2
 rw [c_slices_insertionSortOrdered_bind] at hq
 rw [show c_slices_insertionSortOrdered x0 x1 x2 some = some y from hy] at hq
 exact hq

/-!-/
def c_slices_siftDownOrdered_L1 {R : Type} (F : Int → Int → Int → List D → Option ((List D) ⊕ (List D))) (x0 : Int) (x1 : Int) (x2 : Int) (x3 : List D) (k : (List D) ⊕ (List D) → Option R) : Option R :=
 bif decide (x0 ≤ IntKind.i64.wrap (IntKind.i64.wrap ((2 : Int) * x2) + (1 : Int))) then
 k (.inl x3)
 else
 bif decide (IntKind.i64.wrap (IntKind.i64.wrap (IntKind.i64.wrap ((2 : Int) * x2) + (1 : Int)) + (1 : Int)) < x0) then
 if (0 : Int) ≤ IntKind.i64.wrap (x1 + IntKind.i64.wrap (IntKind.i64.wrap ((2 : Int) * x2) + (1 : Int))) ∧ IntKind.i64.wrap (x1 + IntKind.i64.wrap (IntKind.i64.wrap ((2 : Int) * x2) + (1 : Int))) < (↑x3.length : Int) then
 if (IntKind.i64.wrap (x1 + IntKind.i64.wrap (IntKind.i64.wrap ((2 : Int) * x2) + (1 : Int)))).toNat + 1 ≤ x3.length then
 if (0 : Int) ≤ IntKind.i64.wrap (IntKind.i64.wrap (x1 + IntKind.i64.wrap (IntKind.i64.wrap ((2 : Int) * x2) + (1 : Int))) + (1 : Int)) ∧ IntKind.i64.wrap (IntKind.i64.wrap (x1 + IntKind.i64.wrap (IntKind.i64.wrap ((2 : Int) * x2) + (1 : Int))) + (1 : Int)) < (↑x3.length : Int) then
 if (IntKind.i64.wrap (IntKind.i64.wrap (x1 + IntKind.i64.wrap (IntKind.i64.wrap ((2 : Int) * x2) + (1 : Int))) + (1 : Int))).toNat + 1 ≤ x3.length then
 (cmp_Less ((x3.getD (IntKind.i64.wrap (x1 + IntKind.i64.wrap (IntKind.i64.wrap ((2 : Int) * x2) + (1 : Int)))).toNat (D.int 0)).toInt) ((x3.getD (IntKind.i64.wrap (IntKind.i64.wrap (x1 + IntKind.i64.wrap (IntKind.i64.wrap ((2 : Int) * x2) + (1 : Int))) + (1 : Int))).toNat (D.int 0)).toInt)).bind (fun y0 =>
 bif y0 then
 if (0 : Int) ≤ IntKind.i64.wrap (x1 + x2) ∧ IntKind.i64.wrap (x1 + x2) < (↑x3.length : Int) then
 if (IntKind.i64.wrap (x1 + x2)).toNat + 1 ≤ x3.length then
 if (0 : Int) ≤ IntKind.i64.wrap (x1 + IntKind.i64.wrap (IntKind.i64.wrap (IntKind.i64.wrap ((2 : Int) * x2) + (1 : Int)) + (1 : Int))) ∧ IntKind.i64.wrap (x1 + IntKind.i64.wrap (IntKind.i64.wrap (IntKind.i64.wrap ((2 : Int) * x2) + (1 : Int)) + (1 : Int))) < (↑x3.length : Int) then
 if (IntKind.i64.wrap (x1 + IntKind.i64.wrap (IntKind.i64.wrap (IntKind.i64.wrap ((2 : Int) * x2) + (1 : Int)) + (1 : Int)))).toNat + 1 ≤ x3.length then
 (cmp_Less ((x3.getD (IntKind.i64.wrap (x1 + x2)).toNat (D.int 0)).toInt) ((x3.getD (IntKind.i64.wrap (x1 + IntKind.i64.wrap (IntKind.i64.wrap (IntKind.i64.wrap ((2 : Int) * x2) + (1 : Int)) + (1 : Int)))).toNat (D.int 0)).toInt)).bind (fun y1 =>
 bif !y1 then
 k (.inr x3)
 else
 if (0 : Int) ≤ IntKind.i64.wrap (x1 + IntKind.i64.wrap (IntKind.i64.wrap (IntKind.i64.wrap ((2 : Int) * x2) + (1 : Int)) + (1 : Int))) ∧ IntKind.i64.wrap (x1 + IntKind.i64.wrap (IntKind.i64.wrap (IntKind.i64.wrap ((2 : Int) * x2) + (1 : Int)) + (1 : Int))) < (↑x3.length : Int) then
 if (IntKind.i64.wrap (x1 + IntKind.i64.wrap (IntKind.i64.wrap (IntKind.i64.wrap ((2 : Int) * x2) + (1 : Int)) + (1 : Int)))).toNat + 1 ≤ x3.length then
 if (0 : Int) ≤ IntKind.i64.wrap (x1 + x2) ∧ IntKind.i64.wrap (x1 + x2) < (↑x3.length : Int) then
 if (IntKind.i64.wrap (x1 + x2)).toNat + 1 ≤ x3.length then
 if (0 : Int) ≤ IntKind.i64.wrap (x1 + x2) ∧ IntKind.i64.wrap (x1 + x2) < (↑x3.length : Int) then
 if (IntKind.i64.wrap (x1 + x2)).toNat + 1 ≤ x3.length then
 if (0 : Int) ≤ IntKind.i64.wrap (x1 + IntKind.i64.wrap (IntKind.i64.wrap (IntKind.i64.wrap ((2 : Int) * x2) + (1 : Int)) + (1 : Int))) ∧ IntKind.i64.wrap (x1 + IntKind.i64.wrap (IntKind.i64.wrap (IntKind.i64.wrap ((2 : Int) * x2) + (1 : Int)) + (1 : Int))) < (↑(x3.set (IntKind.i64.wrap (x1 + x2)).toNat (D.int (x3.getD (IntKind.i64.wrap (x1 + IntKind.i64.wrap (IntKind.i64.wrap (IntKind.i64.wrap ((2 : Int) * x2) + (1 : Int)) + (1 : Int)))).toNat (D.int 0)).toInt)).length : Int) then
 if (IntKind.i64.wrap (x1 + IntKind.i64.wrap (IntKind.i64.wrap (IntKind.i64.wrap ((2 : Int) * x2) + (1 : Int)) + (1 : Int)))).toNat + 1 ≤ (x3.set (IntKind.i64.wrap (x1 + x2)).toNat (D.int (x3.getD (IntKind.i64.wrap (x1 + IntKind.i64.wrap (IntKind.i64.wrap (IntKind.i64.wrap ((2 : Int) * x2) + (1 : Int)) + (1 : Int)))).toNat (D.int 0)).toInt)).length then
 (F x0 x1 (IntKind.i64.wrap (IntKind.i64.wrap (IntKind.i64.wrap ((2 : Int) * x2) + (1 : Int)) + (1 : Int))) ((x3.set (IntKind.i64.wrap (x1 + x2)).toNat (D.int (x3.getD (IntKind.i64.wrap (x1 + IntKind.i64.wrap (IntKind.i64.wrap (IntKind.i64.wrap ((2 : Int) * x2) + (1 : Int)) + (1 : Int)))).toNat (D.int 0)).toInt)).set (IntKind.i64.wrap (x1 + IntKind.i64.wrap (IntKind.i64.wrap (IntKind.i64.wrap ((2 : Int) * x2) + (1 : Int)) + (1 : Int)))).toNat (D.int (x3.getD (IntKind.i64.wrap (x1 + x2)).toNat (D.int 0)).toInt))).bind k
 else
 none
 else
 none
 else
 none
 else
 none
 else
 none
 else
 none
 else
 none
 else
 none)
 else
 none
 else
 none
 else
 none
 else
 none
 else
 if (0 : Int) ≤ IntKind.i64.wrap (x1 + x2) ∧ IntKind.i64.wrap (x1 + x2) < (↑x3.length : Int) then
 if (IntKind.i64.wrap (x1 + x2)).toNat + 1 ≤ x3.length then
 if (0 : Int) ≤ IntKind.i64.wrap (x1 + IntKind.i64.wrap (IntKind.i64.wrap ((2 : Int) * x2) + (1 : Int))) ∧ IntKind.i64.wrap (x1 + IntKind.i64.wrap (IntKind.i64.wrap ((2 : Int) * x2) + (1 : Int))) < (↑x3.length : Int) then
 if (IntKind.i64.wrap (x1 + IntKind.i64.wrap (IntKind.i64.wrap ((2 : Int) * x2) + (1 : Int)))).toNat + 1 ≤ x3.length then
 (cmp_Less ((x3.getD (IntKind.i64.wrap (x1 + x2)).toNat (D.int 0)).toInt) ((x3.getD (IntKind.i64.wrap (x1 + IntKind.i64.wrap (IntKind.i64.wrap ((2 : Int) * x2) + (1 : Int)))).toNat (D.int 0)).toInt)).bind (fun y2 =>
 bif !y2 then
 k (.inr x3)
 else
 if (0 : Int) ≤ IntKind.i64.wrap (x1 + IntKind.i64.wrap (IntKind.i64.wrap ((2 : Int) * x2) + (1 : Int))) ∧ IntKind.i64.wrap (x1 + IntKind.i64.wrap (IntKind.i64.wrap ((2 : Int) * x2) + (1 : Int))) < (↑x3.length : Int) then
 if (IntKind.i64.wrap (x1 + IntKind.i64.wrap (IntKind.i64.wrap ((2 : Int) * x2) + (1 : Int)))).toNat + 1 ≤ x3.length then
 if (0 : Int) ≤ IntKind.i64.wrap (x1 + x2) ∧ IntKind.i64.wrap (x1 + x2) < (↑x3.length : Int) then
 if (IntKind.i64.wrap (x1 + x2)).toNat + 1 ≤ x3.length then
 if (0 : Int) ≤ IntKind.i64.wrap (x1 + x2) ∧ IntKind.i64.wrap (x1 + x2) < (↑x3.length : Int) then
 if (IntKind.i64.wrap (x1 + x2)).toNat + 1 ≤ x3.length then
 if (0 : Int) ≤ IntKind.i64.wrap (x1 + IntKind.i64.wrap (IntKind.i64.wrap ((2 : Int) * x2) + (1 : Int))) ∧ IntKind.i64.wrap (x1 + IntKind.i64.wrap (IntKind.i64.wrap ((2 : Int) * x2) + (1 : Int))) < (↑(x3.set (IntKind.i64.wrap (x1 + x2)).toNat (D.int (x3.getD (IntKind.i64.wrap (x1 + IntKind.i64.wrap (IntKind.i64.wrap ((2 : Int) * x2) + (1 : Int)))).toNat (D.int 0)).toInt)).length : Int) then
 if (IntKind.i64.wrap (x1 + IntKind.i64.wrap (IntKind.i64.wrap ((2 : Int) * x2) + (1 : Int)))).toNat + 1 ≤ (x3.set (IntKind.i64.wrap (x1 + x2)).toNat (D.int (x3.getD (IntKind.i64.wrap (x1 + IntKind.i64.wrap (IntKind.i64.wrap ((2 : Int) * x2) + (1 : Int)))).toNat (D.int 0)).toInt)).length then
 (F x0 x1 (IntKind.i64.wrap (IntKind.i64.wrap ((2 : Int) * x2) + (1 : Int))) ((x3.set (IntKind.i64.wrap (x1 + x2)).toNat (D.int (x3.getD (IntKind.i64.wrap (x1 + IntKind.i64.wrap (IntKind.i64.wrap ((2 : Int) * x2) + (1 : Int)))).toNat (D.int 0)).toInt)).set (IntKind.i64.wrap (x1 + IntKind.i64.wrap (IntKind.i64.wrap ((2 : Int) * x2) + (1 : Int)))).toNat (D.int (x3.getD (IntKind.i64.wrap (x1 + x2)).toNat (D.int 0)).toInt))).bind k
 else
 none
 else
 none
 else
 none
 else
 none
 else
 none
 else
 none
 else
 none
 else
 none)
 else
 none
 else
 none
 else
 none
 else
 none)
 else
 none
 else
 none
 else
 none
 else
 none
 else
 if (0 : Int) ≤ IntKind.i64.wrap (x1 + x2) ∧ IntKind.i64.wrap (x1 + x2) < (↑x3.length : Int) then
 if (IntKind.i64.wrap (x1 + x2)).toNat + 1 ≤ x3.length then
 if (0 : Int) ≤ IntKind.i64.wrap (x1 + IntKind.i64.wrap (IntKind.i64.wrap ((2 : Int) * x2) + (1 : Int))) ∧ IntKind.i64.wrap (x1 + IntKind.i64.wrap (IntKind.i64.wrap ((2 : Int) * x2) + (1 : Int))) < (↑x3.length : Int) then
 if (IntKind.i64.wrap (x1 + IntKind.i64.wrap (IntKind.i64.wrap ((2 : Int) * x2) + (1 : Int)))).toNat + 1 ≤ x3.length then
 (cmp_Less ((x3.getD (IntKind.i64.wrap (x1 + x2)).toNat (D.int 0)).toInt) ((x3.getD (IntKind.i64.wrap (x1 + IntKind.i64.wrap (IntKind.i64.wrap ((2 : Int) * x2) + (1 : Int)))).toNat (D.int 0)).toInt)).bind (fun y3 =>
 bif !y3 then
 k (.inr x3)
 else
 if (0 : Int) ≤ IntKind.i64.wrap (x1 + IntKind.i64.wrap (IntKind.i64.wrap ((2 : Int) * x2) + (1 : Int))) ∧ IntKind.i64.wrap (x1 + IntKind.i64.wrap (IntKind.i64.wrap ((2 : Int) * x2) + (1 : Int))) < (↑x3.length : Int) then
 if (IntKind.i64.wrap (x1 + IntKind.i64.wrap (IntKind.i64.wrap ((2 : Int) * x2) + (1 : Int)))).toNat + 1 ≤ x3.length then
 if (0 : Int) ≤ IntKind.i64.wrap (x1 + x2) ∧ IntKind.i64.wrap (x1 + x2) < (↑x3.length : Int) then
 if (IntKind.i64.wrap (x1 + x2)).toNat + 1 ≤ x3.length then
 if (0 : Int) ≤ IntKind.i64.wrap (x1 + x2) ∧ IntKind.i64.wrap (x1 + x2) < (↑x3.length : Int) then
 if (IntKind.i64.wrap (x1 + x2)).toNat + 1 ≤ x3.length then
 if (0 : Int) ≤ IntKind.i64.wrap (x1 + IntKind.i64.wrap (IntKind.i64.wrap ((2 : Int) * x2) + (1 : Int))) ∧ IntKind.i64.wrap (x1 + IntKind.i64.wrap (IntKind.i64.wrap ((2 : Int) * x2) + (1 : Int))) < (↑(x3.set (IntKind.i64.wrap (x1 + x2)).toNat (D.int (x3.getD (IntKind.i64.wrap (x1 + IntKind.i64.wrap (IntKind.i64.wrap ((2 : Int) * x2) + (1 : Int)))).toNat (D.int 0)).toInt)).length : Int) then
 if (IntKind.i64.wrap (x1 + IntKind.i64.wrap (IntKind.i64.wrap ((2 : Int) * x2) + (1 : Int)))).toNat + 1 ≤ (x3.set (IntKind.i64.wrap (x1 + x2)).toNat (D.int (x3.getD (IntKind.i64.wrap (x1 + IntKind.i64.wrap (IntKind.i64.wrap ((2 : Int) * x2) + (1 : Int)))).toNat (D.int 0)).toInt)).length then
 (F x0 x1 (IntKind.i64.wrap (IntKind.i64.wrap ((2 : Int) * x2) + (1 : Int))) ((x3.set (IntKind.i64.wrap (x1 + x2)).toNat (D.int (x3.getD (IntKind.i64.wrap (x1 + IntKind.i64.wrap (IntKind.i64.wrap ((2 : Int) * x2) + (1 : Int)))).toNat (D.int 0)).toInt)).set (IntKind.i64.wrap (x1 + IntKind.i64.wrap (IntKind.i64.wrap ((2 : Int) * x2) + (1 : Int)))).toNat (D.int (x3.getD (IntKind.i64.wrap (x1 + x2)).toNat (D.int 0)).toInt))).bind k
 else
 none
 else
 none
 else
 none
 else
 none
 else
 none
 else
 none
 else
 none
 else
 none)
 else
 none
 else
 none
 else
 none
 else
 none
theorem c_slices_siftDownOrdered_L1_bind {R : Type} (F : Int → Int → Int → List D → Option ((List D) ⊕ (List D))) (x0 : Int) (x1 : Int) (x2 : Int) (x3 : List D) (k : (List D) ⊕ (List D) → Option R) : c_slices_siftDownOrdered_L1 F x0 x1 x2 x3 k = (c_slices_siftDownOrdered_L1 F x0 x1 x2 x3 some).bind k := by
 unfold c_slices_siftDownOrdered_L1
 repeat' first|exact bnd_tail|exact bnd_none|exact bnd_leaf|apply bnd_ite|apply bnd_cond|apply bnd_sum|(apply bnd_bind;intro _)|intro _
def n_slices_siftDownOrdered_L1 : Nat → Int → Int → Int → List D → Option ((List D) ⊕ (List D))
 | 0, _, _, _, _ => none
 | n + 1, x0, x1, x2, x3 => c_slices_siftDownOrdered_L1 (n_slices_siftDownOrdered_L1 n) x0 x1 x2 x3 some
noncomputable def slices_siftDownOrdered_L1 (x0 : Int) (x1 : Int) (x2 : Int) (x3 : List D) : Option ((List D) ⊕ (List D)) := ev (fun n => n_slices_siftDownOrdered_L1 n x0 x1 x2 x3)
def m_slices_siftDownOrdered_L1 (F : Int → Int → Int → List D → Option ((List D) ⊕ (List D))) : Lent := ⟨1, ⟨(.full 1000 [] (.int .i64) :: .undef :: .int .i64 :: .int .i64 :: uu 4 (.int .i64 :: uu 67 ([]))), [(1000, .own (.int .i64))]⟩, [(.exit 0, ⟨(.full 1000 [] (.int .i64) :: uu 75 ([])), [(1000, .own (.int .i64))]⟩), (.ret, ⟨(.full 1000 [] (.int .i64) :: uu 75 ([])), [(1000, .own (.int .i64))]⟩)], fun _ ds k => dI (fun x0 ds => dI (fun x1 ds => dI (fun x2 ds => dL (fun x3 ds => dE ((F x0 x1 x2 x3).bind (Sum.elim (fun y => k 0 [.L y]) (fun y => k 1 [.L y]))) ds) ds) ds) ds) ds⟩
theorem q_slices_siftDownOrdered_L1 (F : Int → Int → Int → List D → Option ((List D) ⊕ (List D))) (x0 : Int) (x1 : Int) (x2 : Int) (x3 : List D) : runLoop (ocOf [e_cmp_Less]) (olOf [m_slices_siftDownOrdered_L1 F]) A 92 (codeAt (bodyOf Try.f92) 1) ((m_slices_siftDownOrdered_L1 F).sh.mk' [.I x0, .I x1, .I x2, .L x3]) (fun e σ' => some (e, σ')) = c_slices_siftDownOrdered_L1 F x0 x1 x2 x3 (Sum.elim (fun y => some (.exit 0, SSt.mk' ⟨(.full 1000 [] (.int .i64) :: uu 75 ([])), [(1000, .own (.int .i64))]⟩ [.L y])) (fun y => some (.ret, SSt.mk' ⟨(.full 1000 [] (.int .i64) :: uu 75 ([])), [(1000, .own (.int .i64))]⟩ [.L y]))) := by kernel_rfl
theorem m_slices_siftDownOrdered_L1_ok : ∀ n, (m_slices_siftDownOrdered_L1 (n_slices_siftDownOrdered_L1 n)).ok Try.prog (codeAt (bodyOf Try.f92) 1) := by
 intro n
 induction n with
 | zero =>
  intro R ds k r h
  unfold m_slices_siftDownOrdered_L1 at h
  obtain ⟨x0, d0, rfl, h0⟩ := dI_some h
  obtain ⟨x1, d1, rfl, h1⟩ := dI_some h0
  obtain ⟨x2, d2, rfl, h2⟩ := dI_some h1
  obtain ⟨x3, d3, rfl, h3⟩ := dL_some h2
  obtain ⟨rfl, hE⟩ := dE_some h3
  obtain ⟨y, hy, hk⟩ := bnd_some hE
  cases hy
 | succ n ih =>
  intro R ds k r h
  unfold m_slices_siftDownOrdered_L1 at h
  obtain ⟨x0, d0, rfl, h0⟩ := dI_some h
  obtain ⟨x1, d1, rfl, h1⟩ := dI_some h0
  obtain ⟨x2, d2, rfl, h2⟩ := dI_some h1
  obtain ⟨x3, d3, rfl, h3⟩ := dL_some h2
  obtain ⟨rfl, hE⟩ := dE_some h3
  obtain ⟨y, hy, hk⟩ := bnd_some hE
  have hq := q_slices_siftDownOrdered_L1 (n_slices_siftDownOrdered_L1 n) x0 x1 x2 x3
  rw [c_slices_siftDownOrdered_L1_bind] at hq
  rw [show c_slices_siftDownOrdered_L1 (n_slices_siftDownOrdered_L1 n) x0 x1 x2 x3 some = some y from hy] at hq
  cases y with
  | inl y =>
   refine ⟨0, _, _, _, hk, rfl, loop_ok px (fx := ⟨Try.func92, by kernel_rfl, by kernel_rfl⟩) (entsOK_cons e_cmp_Less_ok entsOK_nil) (lentsOK_cons ih lentsOK_nil) (by kernel_rfl) ?_⟩
   exact hq
  | inr y =>
   refine ⟨1, _, _, _, hk, rfl, loop_ok px (fx := ⟨Try.func92, by kernel_rfl, by kernel_rfl⟩) (entsOK_cons e_cmp_Less_ok entsOK_nil) (lentsOK_cons ih lentsOK_nil) (by kernel_rfl) ?_⟩
   exact hq
noncomputable def e_slices_siftDownOrdered_L1 : Lent := m_slices_siftDownOrdered_L1 (slices_siftDownOrdered_L1)
theorem e_slices_siftDownOrdered_L1_ok : (e_slices_siftDownOrdered_L1).ok Try.prog (codeAt (bodyOf Try.f92) 1) := by
 intro R ds k r h
 unfold e_slices_siftDownOrdered_L1 m_slices_siftDownOrdered_L1 at h
 obtain ⟨x0, d0, rfl, h0⟩ := dI_some h
 obtain ⟨x1, d1, rfl, h1⟩ := dI_some h0
 obtain ⟨x2, d2, rfl, h2⟩ := dI_some h1
 obtain ⟨x3, d3, rfl, h3⟩ := dL_some h2
 obtain ⟨rfl, hE⟩ := dE_some h3
 obtain ⟨y, hy, hk⟩ := bnd_some hE
 obtain ⟨n, hn⟩ := ev_some hy
 exact m_slices_siftDownOrdered_L1_ok n R _ k r (show (n_slices_siftDownOrdered_L1 n x0 x1 x2 x3).bind _ = _ by rw [hn]; exact hk)

/-!-/
def c_slices_siftDownOrdered {R : Type} (x0 : List D) (x1 : Int) (x2 : Int) (x3 : Int) (k : List D → Option R) : Option R :=
 (slices_siftDownOrdered_L1 x2 x3 x1 x0).bind (Sum.elim (fun y0 =>
 k y0) (fun y1 =>
 k y1))
theorem c_slices_siftDownOrdered_bind {R : Type} (x0 : List D) (x1 : Int) (x2 : Int) (x3 : Int) (k : List D → Option R) : c_slices_siftDownOrdered x0 x1 x2 x3 k = (c_slices_siftDownOrdered x0 x1 x2 x3 some).bind k := by
 unfold c_slices_siftDownOrdered
 repeat' first|exact bnd_tail|exact bnd_none|exact bnd_leaf|apply bnd_ite|apply bnd_cond|apply bnd_sum|(apply bnd_bind;intro _)|intro _
def slices_siftDownOrdered (x0 : List D) (x1 : Int) (x2 : Int) (x3 : Int) : Option (List D) := c_slices_siftDownOrdered x0 x1 x2 x3 some
def e_slices_siftDownOrdered : Ent := ⟨92, [.own (.int .i64), .int .i64, .int .i64, .int .i64], .tup [], [.own (.int .i64), .undef, .undef, .undef], fun _ ds k => dL (fun x0 ds => dI (fun x1 ds => dI (fun x2 ds => dI (fun x3 ds => dE ((slices_siftDownOrdered x0 x1 x2 x3).bind (fun y => k [.L y])) ds) ds) ds) ds) ds⟩
theorem q_slices_siftDownOrdered (x0 : List D) (x1 : Int) (x2 : Int) (x3 : Int) : runFn (ocOf []) (olOf [e_slices_siftDownOrdered_L1]) A 92 Try.f92 (Sh.mks e_slices_siftDownOrdered.sh [.L x0, .I x1, .I x2, .I x3]).1 (fun v os => some (v, os)) = c_slices_siftDownOrdered x0 x1 x2 x3 (fun y => some ((e_slices_siftDownOrdered.res.mk [.L y]).1, (Sh.mks e_slices_siftDownOrdered.outs (e_slices_siftDownOrdered.res.mk [.L y]).2).1)) := by kernel_rfl
theorem e_slices_siftDownOrdered_ok : e_slices_siftDownOrdered.ok Try.prog A := by
 intro R ds k r h
 unfold e_slices_siftDownOrdered at h
 obtain ⟨x0, d0, rfl, h0⟩ := dL_some h
 obtain ⟨x1, d1, rfl, h1⟩ := dI_some h0
 obtain ⟨x2, d2, rfl, h2⟩ := dI_some h1
 obtain ⟨x3, d3, rfl, h3⟩ := dI_some h2
 obtain ⟨rfl, hE⟩ := dE_some h3
 obtain ⟨y, hy, hk⟩ := bnd_some hE
 refine ⟨_, hk, fn_ok px (fx := ⟨Try.func92, by kernel_rfl, by kernel_rfl⟩) entsOK_nil (lentsOK_cons e_slices_siftDownOrdered_L1_ok lentsOK_nil) ?_⟩
 have hq := q_slices_siftDownOrdered x0 x1 x2 x3
 rw [c_slices_siftDownOrdered_bind] at hq
 rw [show c_slices_siftDownOrdered x0 x1 x2 x3 some = some y from hy] at hq
 exact hq

/-!-/
def c_slices_heapSortOrdered_L4 {R : Type} (F : Int → Int → Int → Int → List D → Option (Int × Int × Int × List D)) (x0 : Int) (x1 : Int) (x2 : Int) (x3 : Int) (x4 : List D) (k : Int × Int × Int × List D → Option R) : Option R :=
 bif decide ((0 : Int) ≤ x3) then
 (slices_siftDownOrdered x4 x3 x2 x0).bind (fun y0 =>
 (F x0 x1 x2 (IntKind.i64.wrap (x3 - 1)) y0).bind k)
 else
 k (x0, x1, x2, x4)
theorem c_slices_heapSortOrdered_L4_bind {R : Type} (F : Int → Int → Int → Int → List D → Option (Int × Int × Int × List D)) (x0 : Int) (x1 : Int) (x2 : Int) (x3 : Int) (x4 : List D) (k : Int × Int × Int × List D → Option R) : c_slices_heapSortOrdered_L4 F x0 x1 x2 x3 x4 k = (c_slices_heapSortOrdered_L4 F x0 x1 x2 x3 x4 some).bind k := by
 unfold c_slices_heapSortOrdered_L4
 repeat' first|exact bnd_tail|exact bnd_none|exact bnd_leaf|apply bnd_ite|apply bnd_cond|apply bnd_sum|(apply bnd_bind;intro _)|intro _
def n_slices_heapSortOrdered_L4 : Nat → Int → Int → Int → Int → List D → Option (Int × Int × Int × List D)
 | 0, _, _, _, _, _ => none
 | n + 1, x0, x1, x2, x3, x4 => c_slices_heapSortOrdered_L4 (n_slices_heapSortOrdered_L4 n) x0 x1 x2 x3 x4 some
noncomputable def slices_heapSortOrdered_L4 (x0 : Int) (x1 : Int) (x2 : Int) (x3 : Int) (x4 : List D) : Option (Int × Int × Int × List D) := ev (fun n => n_slices_heapSortOrdered_L4 n x0 x1 x2 x3 x4)
def m_slices_heapSortOrdered_L4 (F : Int → Int → Int → Int → List D → Option (Int × Int × Int × List D)) : Lent := ⟨4, ⟨(.full 1000 [] (.int .i64) :: uu 5 (.int .i64 :: .int .i64 :: .int .i64 :: .int .i64 :: uu 46 ([]))), [(1000, .own (.int .i64))]⟩, [(.exit 0, ⟨(.full 1000 [] (.int .i64) :: uu 5 (.int .i64 :: .int .i64 :: .int .i64 :: uu 47 ([]))), [(1000, .own (.int .i64))]⟩)], fun _ ds k => dI (fun x0 ds => dI (fun x1 ds => dI (fun x2 ds => dI (fun x3 ds => dL (fun x4 ds => dE ((F x0 x1 x2 x3 x4).bind (fun y => k 0 [.I y.1, .I y.2.1, .I y.2.2.1, .L y.2.2.2])) ds) ds) ds) ds) ds) ds⟩
theorem q_slices_heapSortOrdered_L4 (F : Int → Int → Int → Int → List D → Option (Int × Int × Int × List D)) (x0 : Int) (x1 : Int) (x2 : Int) (x3 : Int) (x4 : List D) : runLoop (ocOf [e_slices_siftDownOrdered]) (olOf [m_slices_heapSortOrdered_L4 F]) A 82 (codeAt (bodyOf Try.f82) 4) ((m_slices_heapSortOrdered_L4 F).sh.mk' [.I x0, .I x1, .I x2, .I x3, .L x4]) (fun e σ' => some (e, σ')) = c_slices_heapSortOrdered_L4 F x0 x1 x2 x3 x4 (fun y => some (.exit 0, SSt.mk' ⟨(.full 1000 [] (.int .i64) :: uu 5 (.int .i64 :: .int .i64 :: .int .i64 :: uu 47 ([]))), [(1000, .own (.int .i64))]⟩ [.I y.1, .I y.2.1, .I y.2.2.1, .L y.2.2.2])) := by kernel_rfl
theorem m_slices_heapSortOrdered_L4_ok : ∀ n, (m_slices_heapSortOrdered_L4 (n_slices_heapSortOrdered_L4 n)).ok Try.prog (codeAt (bodyOf Try.f82) 4) := by
 intro n
 induction n with
 | zero =>
  intro R ds k r h
  unfold m_slices_heapSortOrdered_L4 at h
  obtain ⟨x0, d0, rfl, h0⟩ := dI_some h
  obtain ⟨x1, d1, rfl, h1⟩ := dI_some h0
  obtain ⟨x2, d2, rfl, h2⟩ := dI_some h1
  obtain ⟨x3, d3, rfl, h3⟩ := dI_some h2
  obtain ⟨x4, d4, rfl, h4⟩ := dL_some h3
  obtain ⟨rfl, hE⟩ := dE_some h4
  obtain ⟨y, hy, hk⟩ := bnd_some hE
  cases hy
 | succ n ih =>
  intro R ds k r h
  unfold m_slices_heapSortOrdered_L4 at h
  obtain ⟨x0, d0, rfl, h0⟩ := dI_some h
  obtain ⟨x1, d1, rfl, h1⟩ := dI_some h0
  obtain ⟨x2, d2, rfl, h2⟩ := dI_some h1
  obtain ⟨x3, d3, rfl, h3⟩ := dI_some h2
  obtain ⟨x4, d4, rfl, h4⟩ := dL_some h3
  obtain ⟨rfl, hE⟩ := dE_some h4
  obtain ⟨y, hy, hk⟩ := bnd_some hE
  have hq := q_slices_heapSortOrdered_L4 (n_slices_heapSortOrdered_L4 n) x0 x1 x2 x3 x4
  rw [c_slices_heapSortOrdered_L4_bind] at hq
  rw [show c_slices_heapSortOrdered_L4 (n_slices_heapSortOrdered_L4 n) x0 x1 x2 x3 x4 some = some y from hy] at hq
  refine ⟨0, _, _, _, hk, rfl, loop_ok px (fx := ⟨Try.func82, by kernel_rfl, by kernel_rfl⟩) (entsOK_cons e_slices_siftDownOrdered_ok entsOK_nil) (lentsOK_cons ih lentsOK_nil) (by kernel_rfl) ?_⟩
  exact hq
noncomputable def e_slices_heapSortOrdered_L4 : Lent := m_slices_heapSortOrdered_L4 (slices_heapSortOrdered_L4)
theorem e_slices_heapSortOrdered_L4_ok : (e_slices_heapSortOrdered_L4).ok Try.prog (codeAt (bodyOf Try.f82) 4) := by
 intro R ds k r h
 unfold e_slices_heapSortOrdered_L4 m_slices_heapSortOrdered_L4 at h
 obtain ⟨x0, d0, rfl, h0⟩ := dI_some h
 obtain ⟨x1, d1, rfl, h1⟩ := dI_some h0
 obtain ⟨x2, d2, rfl, h2⟩ := dI_some h1
 obtain ⟨x3, d3, rfl, h3⟩ := dI_some h2
 obtain ⟨x4, d4, rfl, h4⟩ := dL_some h3
 obtain ⟨rfl, hE⟩ := dE_some h4
 obtain ⟨y, hy, hk⟩ := bnd_some hE
 obtain ⟨n, hn⟩ := ev_some hy
 exact m_slices_heapSortOrdered_L4_ok n R _ k r (show (n_slices_heapSortOrdered_L4 n x0 x1 x2 x3 x4).bind _ = _ by rw [hn]; exact hk)

/-!-/
def c_slices_heapSortOrdered_L8 {R : Type} (F : Int → Int → Int → List D → Option (List D)) (x0 : Int) (x1 : Int) (x2 : Int) (x3 : List D) (k : List D → Option R) : Option R :=
 bif decide ((0 : Int) ≤ x2) then
 if (0 : Int) ≤ IntKind.i64.wrap (x0 + x2) ∧ IntKind.i64.wrap (x0 + x2) < (↑x3.length : Int) then
 if (IntKind.i64.wrap (x0 + x2)).toNat + 1 ≤ x3.length then
 if 0 ≤ x0 ∧ x0 < (↑x3.length : Int) then
 if x0.toNat + 1 ≤ x3.length then
 if 0 ≤ x0 ∧ x0 < (↑x3.length : Int) then
 if x0.toNat + 1 ≤ x3.length then
 if (0 : Int) ≤ IntKind.i64.wrap (x0 + x2) ∧ IntKind.i64.wrap (x0 + x2) < (↑(x3.set x0.toNat (D.int (x3.getD (IntKind.i64.wrap (x0 + x2)).toNat (D.int 0)).toInt)).length : Int) then
 if (IntKind.i64.wrap (x0 + x2)).toNat + 1 ≤ (x3.set x0.toNat (D.int (x3.getD (IntKind.i64.wrap (x0 + x2)).toNat (D.int 0)).toInt)).length then
 (slices_siftDownOrdered ((x3.set x0.toNat (D.int (x3.getD (IntKind.i64.wrap (x0 + x2)).toNat (D.int 0)).toInt)).set (IntKind.i64.wrap (x0 + x2)).toNat (D.int (x3.getD x0.toNat (D.int 0)).toInt)) x1 x2 x0).bind (fun y0 =>
 (F x0 x1 (IntKind.i64.wrap (x2 - 1)) y0).bind k)
 else
 none
 else
 none
 else
 none
 else
 none
 else
 none
 else
 none
 else
 none
 else
 none
 else
 k x3
theorem c_slices_heapSortOrdered_L8_bind {R : Type} (F : Int → Int → Int → List D → Option (List D)) (x0 : Int) (x1 : Int) (x2 : Int) (x3 : List D) (k : List D → Option R) : c_slices_heapSortOrdered_L8 F x0 x1 x2 x3 k = (c_slices_heapSortOrdered_L8 F x0 x1 x2 x3 some).bind k := by
 unfold c_slices_heapSortOrdered_L8
 repeat' first|exact bnd_tail|exact bnd_none|exact bnd_leaf|apply bnd_ite|apply bnd_cond|apply bnd_sum|(apply bnd_bind;intro _)|intro _
def n_slices_heapSortOrdered_L8 : Nat → Int → Int → Int → List D → Option (List D)
 | 0, _, _, _, _ => none
 | n + 1, x0, x1, x2, x3 => c_slices_heapSortOrdered_L8 (n_slices_heapSortOrdered_L8 n) x0 x1 x2 x3 some
noncomputable def slices_heapSortOrdered_L8 (x0 : Int) (x1 : Int) (x2 : Int) (x3 : List D) : Option (List D) := ev (fun n => n_slices_heapSortOrdered_L8 n x0 x1 x2 x3)
def m_slices_heapSortOrdered_L8 (F : Int → Int → Int → List D → Option (List D)) : Lent := ⟨8, ⟨(.full 1000 [] (.int .i64) :: uu 5 (.int .i64 :: .int .i64 :: .undef :: .undef :: .int .i64 :: uu 45 ([]))), [(1000, .own (.int .i64))]⟩, [(.exit 2, ⟨(.full 1000 [] (.int .i64) :: uu 55 ([])), [(1000, .own (.int .i64))]⟩)], fun _ ds k => dI (fun x0 ds => dI (fun x1 ds => dI (fun x2 ds => dL (fun x3 ds => dE ((F x0 x1 x2 x3).bind (fun y => k 0 [.L y])) ds) ds) ds) ds) ds⟩
theorem q_slices_heapSortOrdered_L8 (F : Int → Int → Int → List D → Option (List D)) (x0 : Int) (x1 : Int) (x2 : Int) (x3 : List D) : runLoop (ocOf [e_slices_siftDownOrdered]) (olOf [m_slices_heapSortOrdered_L8 F]) A 82 (codeAt (bodyOf Try.f82) 8) ((m_slices_heapSortOrdered_L8 F).sh.mk' [.I x0, .I x1, .I x2, .L x3]) (fun e σ' => some (e, σ')) = c_slices_heapSortOrdered_L8 F x0 x1 x2 x3 (fun y => some (.exit 2, SSt.mk' ⟨(.full 1000 [] (.int .i64) :: uu 55 ([])), [(1000, .own (.int .i64))]⟩ [.L y])) := by kernel_rfl
theorem m_slices_heapSortOrdered_L8_ok : ∀ n, (m_slices_heapSortOrdered_L8 (n_slices_heapSortOrdered_L8 n)).ok Try.prog (codeAt (bodyOf Try.f82) 8) := by
 intro n
 induction n with
 | zero =>
  intro R ds k r h
  unfold m_slices_heapSortOrdered_L8 at h
  obtain ⟨x0, d0, rfl, h0⟩ := dI_some h
  obtain ⟨x1, d1, rfl, h1⟩ := dI_some h0
  obtain ⟨x2, d2, rfl, h2⟩ := dI_some h1
  obtain ⟨x3, d3, rfl, h3⟩ := dL_some h2
  obtain ⟨rfl, hE⟩ := dE_some h3
  obtain ⟨y, hy, hk⟩ := bnd_some hE
  cases hy
 | succ n ih =>
  intro R ds k r h
  unfold m_slices_heapSortOrdered_L8 at h
  obtain ⟨x0, d0, rfl, h0⟩ := dI_some h
  obtain ⟨x1, d1, rfl, h1⟩ := dI_some h0
  obtain ⟨x2, d2, rfl, h2⟩ := dI_some h1
  obtain ⟨x3, d3, rfl, h3⟩ := dL_some h2
  obtain ⟨rfl, hE⟩ := dE_some h3
  obtain ⟨y, hy, hk⟩ := bnd_some hE
  have hq := q_slices_heapSortOrdered_L8 (n_slices_heapSortOrdered_L8 n) x0 x1 x2 x3
  rw [c_slices_heapSortOrdered_L8_bind] at hq
  rw [show c_slices_heapSortOrdered_L8 (n_slices_heapSortOrdered_L8 n) x0 x1 x2 x3 some = some y from hy] at hq
  refine ⟨0, _, _, _, hk, rfl, loop_ok px (fx := ⟨Try.func82, by kernel_rfl, by kernel_rfl⟩) (entsOK_cons e_slices_siftDownOrdered_ok entsOK_nil) (lentsOK_cons ih lentsOK_nil) (by kernel_rfl) ?_⟩
  exact hq
noncomputable def e_slices_heapSortOrdered_L8 : Lent := m_slices_heapSortOrdered_L8 (slices_heapSortOrdered_L8)
theorem e_slices_heapSortOrdered_L8_ok : (e_slices_heapSortOrdered_L8).ok Try.prog (codeAt (bodyOf Try.f82) 8) := by
 intro R ds k r h
 unfold e_slices_heapSortOrdered_L8 m_slices_heapSortOrdered_L8 at h
 obtain ⟨x0, d0, rfl, h0⟩ := dI_some h
 obtain ⟨x1, d1, rfl, h1⟩ := dI_some h0
 obtain ⟨x2, d2, rfl, h2⟩ := dI_some h1
 obtain ⟨x3, d3, rfl, h3⟩ := dL_some h2
 obtain ⟨rfl, hE⟩ := dE_some h3
 obtain ⟨y, hy, hk⟩ := bnd_some hE
 obtain ⟨n, hn⟩ := ev_some hy
 exact m_slices_heapSortOrdered_L8_ok n R _ k r (show (n_slices_heapSortOrdered_L8 n x0 x1 x2 x3).bind _ = _ by rw [hn]; exact hk)

/-!-/
def c_slices_heapSortOrdered {R : Type} (x0 : List D) (x1 : Int) (x2 : Int) (k : List D → Option R) : Option R :=
 if (2 : Int) ≠ (0 : Int) then
 (slices_heapSortOrdered_L4 x1 (0 : Int) (IntKind.i64.wrap (x2 - x1)) (IntKind.i64.wrap ((IntKind.i64.wrap (IntKind.i64.wrap (x2 - x1) - (1 : Int))).tdiv (2 : Int))) x0).bind (fun y0 =>
 (slices_heapSortOrdered_L8 y0.fst y0.snd.fst (IntKind.i64.wrap (y0.snd.snd.fst - 1)) y0.snd.snd.snd).bind (fun y1 =>
 k y1))
 else
 none
theorem c_slices_heapSortOrdered_bind {R : Type} (x0 : List D) (x1 : Int) (x2 : Int) (k : List D → Option R) : c_slices_heapSortOrdered x0 x1 x2 k = (c_slices_heapSortOrdered x0 x1 x2 some).bind k := by
 unfold c_slices_heapSortOrdered
 repeat' first|exact bnd_tail|exact bnd_none|exact bnd_leaf|apply bnd_ite|apply bnd_cond|apply bnd_sum|(apply bnd_bind;intro _)|intro _
def slices_heapSortOrdered (x0 : List D) (x1 : Int) (x2 : Int) : Option (List D) := c_slices_heapSortOrdered x0 x1 x2 some
def e_slices_heapSortOrdered : Ent := ⟨82, [.own (.int .i64), .int .i64, .int .i64], .tup [], [.own (.int .i64), .undef, .undef], fun _ ds k => dL (fun x0 ds => dI (fun x1 ds => dI (fun x2 ds => dE ((slices_heapSortOrdered x0 x1 x2).bind (fun y => k [.L y])) ds) ds) ds) ds⟩
theorem q_slices_heapSortOrdered (x0 : List D) (x1 : Int) (x2 : Int) : runFn (ocOf []) (olOf [e_slices_heapSortOrdered_L4, e_slices_heapSortOrdered_L8]) A 82 Try.f82 (Sh.mks e_slices_heapSortOrdered.sh [.L x0, .I x1, .I x2]).1 (fun v os => some (v, os)) = c_slices_heapSortOrdered x0 x1 x2 (fun y => some ((e_slices_heapSortOrdered.res.mk [.L y]).1, (Sh.mks e_slices_heapSortOrdered.outs (e_slices_heapSortOrdered.res.mk [.L y]).2).1)) := by kernel_rfl
theorem e_slices_heapSortOrdered_ok : e_slices_heapSortOrdered.ok Try.prog A := by
 intro R ds k r h
 unfold e_slices_heapSortOrdered at h
 obtain ⟨x0, d0, rfl, h0⟩ := dL_some h
 obtain ⟨x1, d1, rfl, h1⟩ := dI_some h0
 obtain ⟨x2, d2, rfl, h2⟩ := dI_some h1
 obtain ⟨rfl, hE⟩ := dE_some h2
 obtain ⟨y, hy, hk⟩ := bnd_some hE
 refine ⟨_, hk, fn_ok px (fx := ⟨Try.func82, by kernel_rfl, by kernel_rfl⟩) entsOK_nil (lentsOK_cons e_slices_heapSortOrdered_L4_ok (lentsOK_cons e_slices_heapSortOrdered_L8_ok lentsOK_nil)) ?_⟩
 have hq := q_slices_heapSortOrdered x0 x1 x2
 rw [c_slices_heapSortOrdered_bind] at hq
 rw [show c_slices_heapSortOrdered x0 x1 x2 some = some y from hy] at hq
 exact hq

/-!-/
def c_slices_nextPowerOfTwo {R : Type} (x0 : Int) (k : Int → Option R) : Option R :=
 (math_bits_Len (IntKind.u64.wrap x0)).bind (fun y0 =>
 if (0 : Int) ≤ y0 then
 k (IntKind.u64.wrap ((1 : Int) * (2 : Int) ^ Min.min y0.toNat IntKind.u64.bits))
 else
 none)
theorem c_slices_nextPowerOfTwo_bind {R : Type} (x0 : Int) (k : Int → Option R) : c_slices_nextPowerOfTwo x0 k = (c_slices_nextPowerOfTwo x0 some).bind k := by
 unfold c_slices_nextPowerOfTwo
 repeat' first|exact bnd_tail|exact bnd_none|exact bnd_leaf|apply bnd_ite|apply bnd_cond|apply bnd_sum|(apply bnd_bind;intro _)|intro _
def slices_nextPowerOfTwo (x0 : Int) : Option (Int) := c_slices_nextPowerOfTwo x0 some
def e_slices_nextPowerOfTwo : Ent := ⟨93, [.int .i64], .int .u64, [.undef], fun _ ds k => dI (fun x0 ds => dE ((slices_nextPowerOfTwo x0).bind (fun y => k [.I y])) ds) ds⟩
theorem q_slices_nextPowerOfTwo (x0 : Int) : runFn (ocOf [e_math_bits_Len]) (olOf []) A 93 Try.f93 (Sh.mks e_slices_nextPowerOfTwo.sh [.I x0]).1 (fun v os => some (v, os)) = c_slices_nextPowerOfTwo x0 (fun y => some ((e_slices_nextPowerOfTwo.res.mk [.I y]).1, (Sh.mks e_slices_nextPowerOfTwo.outs (e_slices_nextPowerOfTwo.res.mk [.I y]).2).1)) := by kernel_rfl
theorem e_slices_nextPowerOfTwo_ok : e_slices_nextPowerOfTwo.ok Try.prog A := by
 intro R ds k r h
 unfold e_slices_nextPowerOfTwo at h
 obtain ⟨x0, d0, rfl, h0⟩ := dI_some h
 obtain ⟨rfl, hE⟩ := dE_some h0
 obtain ⟨y, hy, hk⟩ := bnd_some hE
 refine ⟨_, hk, fn_ok px (fx := ⟨Try.func93, by kernel_rfl, by kernel_rfl⟩) (entsOK_cons e_math_bits_Len_ok entsOK_nil) lentsOK_nil ?_⟩
 have hq := q_slices_nextPowerOfTwo x0
 rw [c_slices_nextPowerOfTwo_bind] at hq
 rw [show c_slices_nextPowerOfTwo x0 some = some y from hy] at hq
 exact hq

/-!-/
def c_slices_xorshift_Next {R : Type} (x0 : Int) (k : Int × Int → Option R) : Option R :=
 if (0 : Int) ≤ (13 : Int) then
 if (0 : Int) ≤ (7 : Int) then
 if (0 : Int) ≤ (17 : Int) then
 k (IntKind.u64.wrap (↑(BitVec.ofInt IntKind.u64.bits (IntKind.u64.wrap (↑(BitVec.ofInt IntKind.u64.bits (IntKind.u64.wrap (↑(BitVec.ofInt IntKind.u64.bits x0 ^^^ BitVec.ofInt IntKind.u64.bits (IntKind.u64.wrap (x0 * (2 : Int) ^ Min.min (Int.toNat (13 : Int)) IntKind.u64.bits))).toNat : Int)) ^^^ BitVec.ofInt IntKind.u64.bits ((IntKind.u64.wrap (↑(BitVec.ofInt IntKind.u64.bits x0 ^^^ BitVec.ofInt IntKind.u64.bits (IntKind.u64.wrap (x0 * (2 : Int) ^ Min.min (Int.toNat (13 : Int)) IntKind.u64.bits))).toNat : Int)).fdiv ((2 : Int) ^ Min.min (Int.toNat (7 : Int)) IntKind.u64.bits))).toNat : Int)) ^^^ BitVec.ofInt IntKind.u64.bits (IntKind.u64.wrap (IntKind.u64.wrap (↑(BitVec.ofInt IntKind.u64.bits (IntKind.u64.wrap (↑(BitVec.ofInt IntKind.u64.bits x0 ^^^ BitVec.ofInt IntKind.u64.bits (IntKind.u64.wrap (x0 * (2 : Int) ^ Min.min (Int.toNat (13 : Int)) IntKind.u64.bits))).toNat : Int)) ^^^ BitVec.ofInt IntKind.u64.bits ((IntKind.u64.wrap (↑(BitVec.ofInt IntKind.u64.bits x0 ^^^ BitVec.ofInt IntKind.u64.bits (IntKind.u64.wrap (x0 * (2 : Int) ^ Min.min (Int.toNat (13 : Int)) IntKind.u64.bits))).toNat : Int)).fdiv ((2 : Int) ^ Min.min (Int.toNat (7 : Int)) IntKind.u64.bits))).toNat : Int) * (2 : Int) ^ Min.min (Int.toNat (17 : Int)) IntKind.u64.bits))).toNat : Int), IntKind.u64.wrap (↑(BitVec.ofInt IntKind.u64.bits (IntKind.u64.wrap (↑(BitVec.ofInt IntKind.u64.bits (IntKind.u64.wrap (↑(BitVec.ofInt IntKind.u64.bits x0 ^^^ BitVec.ofInt IntKind.u64.bits (IntKind.u64.wrap (x0 * (2 : Int) ^ Min.min (Int.toNat (13 : Int)) IntKind.u64.bits))).toNat : Int)) ^^^ BitVec.ofInt IntKind.u64.bits ((IntKind.u64.wrap (↑(BitVec.ofInt IntKind.u64.bits x0 ^^^ BitVec.ofInt IntKind.u64.bits (IntKind.u64.wrap (x0 * (2 : Int) ^ Min.min (Int.toNat (13 : Int)) IntKind.u64.bits))).toNat : Int)).fdiv ((2 : Int) ^ Min.min (Int.toNat (7 : Int)) IntKind.u64.bits))).toNat : Int)) ^^^ BitVec.ofInt IntKind.u64.bits (IntKind.u64.wrap (IntKind.u64.wrap (↑(BitVec.ofInt IntKind.u64.bits (IntKind.u64.wrap (↑(BitVec.ofInt IntKind.u64.bits x0 ^^^ BitVec.ofInt IntKind.u64.bits (IntKind.u64.wrap (x0 * (2 : Int) ^ Min.min (Int.toNat (13 : Int)) IntKind.u64.bits))).toNat : Int)) ^^^ BitVec.ofInt IntKind.u64.bits ((IntKind.u64.wrap (↑(BitVec.ofInt IntKind.u64.bits x0 ^^^ BitVec.ofInt IntKind.u64.bits (IntKind.u64.wrap (x0 * (2 : Int) ^ Min.min (Int.toNat (13 : Int)) IntKind.u64.bits))).toNat : Int)).fdiv ((2 : Int) ^ Min.min (Int.toNat (7 : Int)) IntKind.u64.bits))).toNat : Int) * (2 : Int) ^ Min.min (Int.toNat (17 : Int)) IntKind.u64.bits))).toNat : Int))
 else
 none
 else
 none
 else
 none
theorem c_slices_xorshift_Next_bind {R : Type} (x0 : Int) (k : Int × Int → Option R) : c_slices_xorshift_Next x0 k = (c_slices_xorshift_Next x0 some).bind k := by
 unfold c_slices_xorshift_Next
 repeat' first|exact bnd_tail|exact bnd_none|exact bnd_leaf|apply bnd_ite|apply bnd_cond|apply bnd_sum|(apply bnd_bind;intro _)|intro _
def slices_xorshift_Next (x0 : Int) : Option (Int × Int) := c_slices_xorshift_Next x0 some
def e_slices_xorshift_Next : Ent := ⟨94, [.obox (.int .u64)], .int .u64, [.obox (.int .u64)], fun _ ds k => dI (fun x0 ds => dE ((slices_xorshift_Next x0).bind (fun y => k [.I y.1, .I y.2])) ds) ds⟩
theorem q_slices_xorshift_Next (x0 : Int) : runFn (ocOf []) (olOf []) A 94 Try.f94 (Sh.mks e_slices_xorshift_Next.sh [.I x0]).1 (fun v os => some (v, os)) = c_slices_xorshift_Next x0 (fun y => some ((e_slices_xorshift_Next.res.mk [.I y.1, .I y.2]).1, (Sh.mks e_slices_xorshift_Next.outs (e_slices_xorshift_Next.res.mk [.I y.1, .I y.2]).2).1)) := by kernel_rfl
theorem e_slices_xorshift_Next_ok : e_slices_xorshift_Next.ok Try.prog A := by
 intro R ds k r h
 unfold e_slices_xorshift_Next at h
 obtain ⟨x0, d0, rfl, h0⟩ := dI_some h
 obtain ⟨rfl, hE⟩ := dE_some h0
 obtain ⟨y, hy, hk⟩ := bnd_some hE
 refine ⟨_, hk, fn_ok px (fx := ⟨Try.func94, by kernel_rfl, by kernel_rfl⟩) entsOK_nil lentsOK_nil ?_⟩
 have hq := q_slices_xorshift_Next x0
 rw [c_slices_xorshift_Next_bind] at hq
 rw [show c_slices_xorshift_Next x0 some = some y from hy] at hq
 exact hq

/-!-/
def c_slices_breakPatternsOrdered_L5 {R : Type} (F : Int → Int → Int → Int → List D → Int → Option (List D)) (x0 : Int) (x1 : Int) (x2 : Int) (x3 : Int) (x4 : List D) (x5 : Int) (k : List D → Option R) : Option R :=
 if (4 : Int) ≠ (0 : Int) then
 bif decide (x3 ≤ IntKind.i64.wrap (IntKind.i64.wrap (x0 + IntKind.i64.wrap (IntKind.i64.wrap (x1.tdiv (4 : Int)) * (2 : Int))) + (1 : Int))) then
 (slices_xorshift_Next x5).bind (fun y0 =>
 bif decide (x1 ≤ IntKind.i64.wrap (IntKind.u64.wrap (↑(BitVec.ofInt IntKind.u64.bits y0.fst &&& BitVec.ofInt IntKind.u64.bits (IntKind.u64.wrap (x2 - 1))).toNat : Int))) then
 if (0 : Int) ≤ IntKind.i64.wrap (x0 + IntKind.i64.wrap (IntKind.i64.wrap (IntKind.u64.wrap (↑(BitVec.ofInt IntKind.u64.bits y0.fst &&& BitVec.ofInt IntKind.u64.bits (IntKind.u64.wrap (x2 - 1))).toNat : Int)) - x1)) ∧ IntKind.i64.wrap (x0 + IntKind.i64.wrap (IntKind.i64.wrap (IntKind.u64.wrap (↑(BitVec.ofInt IntKind.u64.bits y0.fst &&& BitVec.ofInt IntKind.u64.bits (IntKind.u64.wrap (x2 - 1))).toNat : Int)) - x1)) < (↑x4.length : Int) then
 if (IntKind.i64.wrap (x0 + IntKind.i64.wrap (IntKind.i64.wrap (IntKind.u64.wrap (↑(BitVec.ofInt IntKind.u64.bits y0.fst &&& BitVec.ofInt IntKind.u64.bits (IntKind.u64.wrap (x2 - 1))).toNat : Int)) - x1))).toNat + 1 ≤ x4.length then
 if 0 ≤ x3 ∧ x3 < (↑x4.length : Int) then
 if x3.toNat + 1 ≤ x4.length then
 if 0 ≤ x3 ∧ x3 < (↑x4.length : Int) then
 if x3.toNat + 1 ≤ x4.length then
 if (0 : Int) ≤ IntKind.i64.wrap (x0 + IntKind.i64.wrap (IntKind.i64.wrap (IntKind.u64.wrap (↑(BitVec.ofInt IntKind.u64.bits y0.fst &&& BitVec.ofInt IntKind.u64.bits (IntKind.u64.wrap (x2 - 1))).toNat : Int)) - x1)) ∧ IntKind.i64.wrap (x0 + IntKind.i64.wrap (IntKind.i64.wrap (IntKind.u64.wrap (↑(BitVec.ofInt IntKind.u64.bits y0.fst &&& BitVec.ofInt IntKind.u64.bits (IntKind.u64.wrap (x2 - 1))).toNat : Int)) - x1)) < (↑(x4.set x3.toNat (D.int (x4.getD (IntKind.i64.wrap (x0 + IntKind.i64.wrap (IntKind.i64.wrap (IntKind.u64.wrap (↑(BitVec.ofInt IntKind.u64.bits y0.fst &&& BitVec.ofInt IntKind.u64.bits (IntKind.u64.wrap (x2 - 1))).toNat : Int)) - x1))).toNat (D.int 0)).toInt)).length : Int) then
 if (IntKind.i64.wrap (x0 + IntKind.i64.wrap (IntKind.i64.wrap (IntKind.u64.wrap (↑(BitVec.ofInt IntKind.u64.bits y0.fst &&& BitVec.ofInt IntKind.u64.bits (IntKind.u64.wrap (x2 - 1))).toNat : Int)) - x1))).toNat + 1 ≤ (x4.set x3.toNat (D.int (x4.getD (IntKind.i64.wrap (x0 + IntKind.i64.wrap (IntKind.i64.wrap (IntKind.u64.wrap (↑(BitVec.ofInt IntKind.u64.bits y0.fst &&& BitVec.ofInt IntKind.u64.bits (IntKind.u64.wrap (x2 - 1))).toNat : Int)) - x1))).toNat (D.int 0)).toInt)).length then
 (F x0 x1 x2 (IntKind.i64.wrap (x3 + 1)) ((x4.set x3.toNat (D.int (x4.getD (IntKind.i64.wrap (x0 + IntKind.i64.wrap (IntKind.i64.wrap (IntKind.u64.wrap (↑(BitVec.ofInt IntKind.u64.bits y0.fst &&& BitVec.ofInt IntKind.u64.bits (IntKind.u64.wrap (x2 - 1))).toNat : Int)) - x1))).toNat (D.int 0)).toInt)).set (IntKind.i64.wrap (x0 + IntKind.i64.wrap (IntKind.i64.wrap (IntKind.u64.wrap (↑(BitVec.ofInt IntKind.u64.bits y0.fst &&& BitVec.ofInt IntKind.u64.bits (IntKind.u64.wrap (x2 - 1))).toNat : Int)) - x1))).toNat (D.int (x4.getD x3.toNat (D.int 0)).toInt)) y0.snd).bind k
 else
 none
 else
 none
 else
 none
 else
 none
 else
 none
 else
 none
 else
 none
 else
 none
 else
 if (0 : Int) ≤ IntKind.i64.wrap (x0 + IntKind.i64.wrap (IntKind.u64.wrap (↑(BitVec.ofInt IntKind.u64.bits y0.fst &&& BitVec.ofInt IntKind.u64.bits (IntKind.u64.wrap (x2 - 1))).toNat : Int))) ∧ IntKind.i64.wrap (x0 + IntKind.i64.wrap (IntKind.u64.wrap (↑(BitVec.ofInt IntKind.u64.bits y0.fst &&& BitVec.ofInt IntKind.u64.bits (IntKind.u64.wrap (x2 - 1))).toNat : Int))) < (↑x4.length : Int) then
 if (IntKind.i64.wrap (x0 + IntKind.i64.wrap (IntKind.u64.wrap (↑(BitVec.ofInt IntKind.u64.bits y0.fst &&& BitVec.ofInt IntKind.u64.bits (IntKind.u64.wrap (x2 - 1))).toNat : Int)))).toNat + 1 ≤ x4.length then
 if 0 ≤ x3 ∧ x3 < (↑x4.length : Int) then
 if x3.toNat + 1 ≤ x4.length then
 if 0 ≤ x3 ∧ x3 < (↑x4.length : Int) then
 if x3.toNat + 1 ≤ x4.length then
 if (0 : Int) ≤ IntKind.i64.wrap (x0 + IntKind.i64.wrap (IntKind.u64.wrap (↑(BitVec.ofInt IntKind.u64.bits y0.fst &&& BitVec.ofInt IntKind.u64.bits (IntKind.u64.wrap (x2 - 1))).toNat : Int))) ∧ IntKind.i64.wrap (x0 + IntKind.i64.wrap (IntKind.u64.wrap (↑(BitVec.ofInt IntKind.u64.bits y0.fst &&& BitVec.ofInt IntKind.u64.bits (IntKind.u64.wrap (x2 - 1))).toNat : Int))) < (↑(x4.set x3.toNat (D.int (x4.getD (IntKind.i64.wrap (x0 + IntKind.i64.wrap (IntKind.u64.wrap (↑(BitVec.ofInt IntKind.u64.bits y0.fst &&& BitVec.ofInt IntKind.u64.bits (IntKind.u64.wrap (x2 - 1))).toNat : Int)))).toNat (D.int 0)).toInt)).length : Int) then
 if (IntKind.i64.wrap (x0 + IntKind.i64.wrap (IntKind.u64.wrap (↑(BitVec.ofInt IntKind.u64.bits y0.fst &&& BitVec.ofInt IntKind.u64.bits (IntKind.u64.wrap (x2 - 1))).toNat : Int)))).toNat + 1 ≤ (x4.set x3.toNat (D.int (x4.getD (IntKind.i64.wrap (x0 + IntKind.i64.wrap (IntKind.u64.wrap (↑(BitVec.ofInt IntKind.u64.bits y0.fst &&& BitVec.ofInt IntKind.u64.bits (IntKind.u64.wrap (x2 - 1))).toNat : Int)))).toNat (D.int 0)).toInt)).length then
 (F x0 x1 x2 (IntKind.i64.wrap (x3 + 1)) ((x4.set x3.toNat (D.int (x4.getD (IntKind.i64.wrap (x0 + IntKind.i64.wrap (IntKind.u64.wrap (↑(BitVec.ofInt IntKind.u64.bits y0.fst &&& BitVec.ofInt IntKind.u64.bits (IntKind.u64.wrap (x2 - 1))).toNat : Int)))).toNat (D.int 0)).toInt)).set (IntKind.i64.wrap (x0 + IntKind.i64.wrap (IntKind.u64.wrap (↑(BitVec.ofInt IntKind.u64.bits y0.fst &&& BitVec.ofInt IntKind.u64.bits (IntKind.u64.wrap (x2 - 1))).toNat : Int)))).toNat (D.int (x4.getD x3.toNat (D.int 0)).toInt)) y0.snd).bind k
 else
 none
 else
 none
 else
 none
 else
 none
 else
 none
 else
 none
 else
 none
 else
 none)
 else
 k x4
 else
 none
theorem c_slices_breakPatternsOrdered_L5_bind {R : Type} (F : Int → Int → Int → Int → List D → Int → Option (List D)) (x0 : Int) (x1 : Int) (x2 : Int) (x3 : Int) (x4 : List D) (x5 : Int) (k : List D → Option R) : c_slices_breakPatternsOrdered_L5 F x0 x1 x2 x3 x4 x5 k = (c_slices_breakPatternsOrdered_L5 F x0 x1 x2 x3 x4 x5 some).bind k := by
 unfold c_slices_breakPatternsOrdered_L5
 repeat' first|exact bnd_tail|exact bnd_none|exact bnd_leaf|apply bnd_ite|apply bnd_cond|apply bnd_sum|(apply bnd_bind;intro _)|intro _
def n_slices_breakPatternsOrdered_L5 : Nat → Int → Int → Int → Int → List D → Int → Option (List D)
 | 0, _, _, _, _, _, _ => none
 | n + 1, x0, x1, x2, x3, x4, x5 => c_slices_breakPatternsOrdered_L5 (n_slices_breakPatternsOrdered_L5 n) x0 x1 x2 x3 x4 x5 some
noncomputable def slices_breakPatternsOrdered_L5 (x0 : Int) (x1 : Int) (x2 : Int) (x3 : Int) (x4 : List D) (x5 : Int) : Option (List D) := ev (fun n => n_slices_breakPatternsOrdered_L5 n x0 x1 x2 x3 x4 x5)
def m_slices_breakPatternsOrdered_L5 (F : Int → Int → Int → Int → List D → Int → Option (List D)) : Lent := ⟨5, ⟨(.full 1000 [] (.int .i64) :: .int .i64 :: uu 4 (.int .i64 :: .ptr 1001 [0] :: .int .u64 :: .int .i64 :: uu 55 ([]))), [(1000, .own (.int .i64)), (1001, .obox (.int .u64))]⟩, [(.exit 0, ⟨(.full 1000 [] (.int .i64) :: uu 64 ([])), [(1000, .own (.int .i64))]⟩)], fun _ ds k => dI (fun x0 ds => dI (fun x1 ds => dI (fun x2 ds => dI (fun x3 ds => dL (fun x4 ds => dI (fun x5 ds => dE ((F x0 x1 x2 x3 x4 x5).bind (fun y => k 0 [.L y])) ds) ds) ds) ds) ds) ds) ds⟩
theorem q_slices_breakPatternsOrdered_L5 (F : Int → Int → Int → Int → List D → Int → Option (List D)) (x0 : Int) (x1 : Int) (x2 : Int) (x3 : Int) (x4 : List D) (x5 : Int) : runLoop (ocOf [e_slices_xorshift_Next]) (olOf [m_slices_breakPatternsOrdered_L5 F]) A 83 (codeAt (bodyOf Try.f83) 5) ((m_slices_breakPatternsOrdered_L5 F).sh.mk' [.I x0, .I x1, .I x2, .I x3, .L x4, .I x5]) (fun e σ' => some (e, σ')) = c_slices_breakPatternsOrdered_L5 F x0 x1 x2 x3 x4 x5 (fun y => some (.exit 0, SSt.mk' ⟨(.full 1000 [] (.int .i64) :: uu 64 ([])), [(1000, .own (.int .i64))]⟩ [.L y])) := by kernel_rfl
theorem m_slices_breakPatternsOrdered_L5_ok : ∀ n, (m_slices_breakPatternsOrdered_L5 (n_slices_breakPatternsOrdered_L5 n)).ok Try.prog (codeAt (bodyOf Try.f83) 5) := by
 intro n
 induction n with
 | zero =>
  intro R ds k r h
  unfold m_slices_breakPatternsOrdered_L5 at h
  obtain ⟨x0, d0, rfl, h0⟩ := dI_some h
  obtain ⟨x1, d1, rfl, h1⟩ := dI_some h0
  obtain ⟨x2, d2, rfl, h2⟩ := dI_some h1
  obtain ⟨x3, d3, rfl, h3⟩ := dI_some h2
  obtain ⟨x4, d4, rfl, h4⟩ := dL_some h3
  obtain ⟨x5, d5, rfl, h5⟩ := dI_some h4
  obtain ⟨rfl, hE⟩ := dE_some h5
  obtain ⟨y, hy, hk⟩ := bnd_some hE
  cases hy
 | succ n ih =>
  intro R ds k r h
  unfold m_slices_breakPatternsOrdered_L5 at h
  obtain ⟨x0, d0, rfl, h0⟩ := dI_some h
  obtain ⟨x1, d1, rfl, h1⟩ := dI_some h0
  obtain ⟨x2, d2, rfl, h2⟩ := dI_some h1
  obtain ⟨x3, d3, rfl, h3⟩ := dI_some h2
  obtain ⟨x4, d4, rfl, h4⟩ := dL_some h3
  obtain ⟨x5, d5, rfl, h5⟩ := dI_some h4
  obtain ⟨rfl, hE⟩ := dE_some h5
  obtain ⟨y, hy, hk⟩ := bnd_some hE
  have hq := q_slices_breakPatternsOrdered_L5 (n_slices_breakPatternsOrdered_L5 n) x0 x1 x2 x3 x4 x5
  rw [c_slices_breakPatternsOrdered_L5_bind] at hq
  rw [show c_slices_breakPatternsOrdered_L5 (n_slices_breakPatternsOrdered_L5 n) x0 x1 x2 x3 x4 x5 some = some y from hy] at hq
  refine ⟨0, _, _, _, hk, rfl, loop_ok px (fx := ⟨Try.func83, by kernel_rfl, by kernel_rfl⟩) (entsOK_cons e_slices_xorshift_Next_ok entsOK_nil) (lentsOK_cons ih lentsOK_nil) (by kernel_rfl) ?_⟩
  exact hq
noncomputable def e_slices_breakPatternsOrdered_L5 : Lent := m_slices_breakPatternsOrdered_L5 (slices_breakPatternsOrdered_L5)
theorem e_slices_breakPatternsOrdered_L5_ok : (e_slices_breakPatternsOrdered_L5).ok Try.prog (codeAt (bodyOf Try.f83) 5) := by
 intro R ds k r h
 unfold e_slices_breakPatternsOrdered_L5 m_slices_breakPatternsOrdered_L5 at h
 obtain ⟨x0, d0, rfl, h0⟩ := dI_some h
 obtain ⟨x1, d1, rfl, h1⟩ := dI_some h0
 obtain ⟨x2, d2, rfl, h2⟩ := dI_some h1
 obtain ⟨x3, d3, rfl, h3⟩ := dI_some h2
 obtain ⟨x4, d4, rfl, h4⟩ := dL_some h3
 obtain ⟨x5, d5, rfl, h5⟩ := dI_some h4
 obtain ⟨rfl, hE⟩ := dE_some h5
 obtain ⟨y, hy, hk⟩ := bnd_some hE
 obtain ⟨n, hn⟩ := ev_some hy
 exact m_slices_breakPatternsOrdered_L5_ok n R _ k r (show (n_slices_breakPatternsOrdered_L5 n x0 x1 x2 x3 x4 x5).bind _ = _ by rw [hn]; exact hk)

/-!-/
def c_slices_breakPatternsOrdered {R : Type} (x0 : List D) (x1 : Int) (x2 : Int) (k : List D → Option R) : Option R :=
 bif decide ((8 : Int) ≤ IntKind.i64.wrap (x2 - x1)) then
 (slices_nextPowerOfTwo (IntKind.i64.wrap (x2 - x1))).bind (fun y0 =>
 if (4 : Int) ≠ (0 : Int) then
 (slices_breakPatternsOrdered_L5 x1 (IntKind.i64.wrap (x2 - x1)) y0 (IntKind.i64.wrap (IntKind.i64.wrap (x1 + IntKind.i64.wrap (IntKind.i64.wrap ((IntKind.i64.wrap (x2 - x1)).tdiv (4 : Int)) * (2 : Int))) - (1 : Int))) x0 (IntKind.u64.wrap (IntKind.i64.wrap (x2 - x1)))).bind (fun y1 =>
 k y1)
 else
 none)
 else
 k x0
theorem c_slices_breakPatternsOrdered_bind {R : Type} (x0 : List D) (x1 : Int) (x2 : Int) (k : List D → Option R) : c_slices_breakPatternsOrdered x0 x1 x2 k = (c_slices_breakPatternsOrdered x0 x1 x2 some).bind k := by
 unfold c_slices_breakPatternsOrdered
 repeat' first|exact bnd_tail|exact bnd_none|exact bnd_leaf|apply bnd_ite|apply bnd_cond|apply bnd_sum|(apply bnd_bind;intro _)|intro _
def slices_breakPatternsOrdered (x0 : List D) (x1 : Int) (x2 : Int) : Option (List D) := c_slices_breakPatternsOrdered x0 x1 x2 some
def e_slices_breakPatternsOrdered : Ent := ⟨83, [.own (.int .i64), .int .i64, .int .i64], .tup [], [.own (.int .i64), .undef, .undef], fun _ ds k => dL (fun x0 ds => dI (fun x1 ds => dI (fun x2 ds => dE ((slices_breakPatternsOrdered x0 x1 x2).bind (fun y => k [.L y])) ds) ds) ds) ds⟩
theorem q_slices_breakPatternsOrdered (x0 : List D) (x1 : Int) (x2 : Int) : runFn (ocOf [e_slices_nextPowerOfTwo]) (olOf [e_slices_breakPatternsOrdered_L5]) A 83 Try.f83 (Sh.mks e_slices_breakPatternsOrdered.sh [.L x0, .I x1, .I x2]).1 (fun v os => some (v, os)) = c_slices_breakPatternsOrdered x0 x1 x2 (fun y => some ((e_slices_breakPatternsOrdered.res.mk [.L y]).1, (Sh.mks e_slices_breakPatternsOrdered.outs (e_slices_breakPatternsOrdered.res.mk [.L y]).2).1)) := by kernel_rfl
theorem e_slices_breakPatternsOrdered_ok : e_slices_breakPatternsOrdered.ok Try.prog A := by
 intro R ds k r h
 unfold e_slices_breakPatternsOrdered at h
 obtain ⟨x0, d0, rfl, h0⟩ := dL_some h
 obtain ⟨x1, d1, rfl, h1⟩ := dI_some h0
 obtain ⟨x2, d2, rfl, h2⟩ := dI_some h1
 obtain ⟨rfl, hE⟩ := dE_some h2
 obtain ⟨y, hy, hk⟩ := bnd_some hE
 refine ⟨_, hk, fn_ok px (fx := ⟨Try.func83, by kernel_rfl, by kernel_rfl⟩) (entsOK_cons e_slices_nextPowerOfTwo_ok entsOK_nil) (lentsOK_cons e_slices_breakPatternsOrdered_L5_ok lentsOK_nil) ?_⟩
 have hq := q_slices_breakPatternsOrdered x0 x1 x2
 rw [c_slices_breakPatternsOrdered_bind] at hq
 rw [show c_slices_breakPatternsOrdered x0 x1 x2 some = some y from hy] at hq
 exact hq

/-!-/
def c_slices_order2Ordered {R : Type} (x0 : List D) (x1 : Int) (x2 : Int) (x3 : Int) (k : Int × Int × Int → Option R) : Option R :=
 if 0 ≤ x2 ∧ x2 < (↑x0.length : Int) then
 if 0 ≤ x1 ∧ x1 < (↑x0.length : Int) then
 (cmp_Less ((x0.getD x2.toNat (D.int 0)).toInt) ((x0.getD x1.toNat (D.int 0)).toInt)).bind (fun y0 =>
 bif y0 then
 k (x2, x1, IntKind.i64.wrap (x3 + 1))
 else
 k (x1, x2, x3))
 else
 none
 else
 none
theorem c_slices_order2Ordered_bind {R : Type} (x0 : List D) (x1 : Int) (x2 : Int) (x3 : Int) (k : Int × Int × Int → Option R) : c_slices_order2Ordered x0 x1 x2 x3 k = (c_slices_order2Ordered x0 x1 x2 x3 some).bind k := by
 unfold c_slices_order2Ordered
 repeat' first|exact bnd_tail|exact bnd_none|exact bnd_leaf|apply bnd_ite|apply bnd_cond|apply bnd_sum|(apply bnd_bind;intro _)|intro _
def slices_order2Ordered (x0 : List D) (x1 : Int) (x2 : Int) (x3 : Int) : Option (Int × Int × Int) := c_slices_order2Ordered x0 x1 x2 x3 some
def e_slices_order2Ordered : Ent := ⟨98, [.rd (.int .i64), .int .i64, .int .i64, .obox (.int .i64)], .tup [.int .i64, .int .i64], [.undef, .undef, .undef, .obox (.int .i64)], fun _ ds k => dL (fun x0 ds => dI (fun x1 ds => dI (fun x2 ds => dI (fun x3 ds => dE ((slices_order2Ordered x0 x1 x2 x3).bind (fun y => k [.I y.1, .I y.2.1, .I y.2.2])) ds) ds) ds) ds) ds⟩
theorem q_slices_order2Ordered (x0 : List D) (x1 : Int) (x2 : Int) (x3 : Int) : runFn (ocOf [e_cmp_Less]) (olOf []) A 98 Try.f98 (Sh.mks e_slices_order2Ordered.sh [.L x0, .I x1, .I x2, .I x3]).1 (fun v os => some (v, os)) = c_slices_order2Ordered x0 x1 x2 x3 (fun y => some ((e_slices_order2Ordered.res.mk [.I y.1, .I y.2.1, .I y.2.2]).1, (Sh.mks e_slices_order2Ordered.outs (e_slices_order2Ordered.res.mk [.I y.1, .I y.2.1, .I y.2.2]).2).1)) := by kernel_rfl
theorem e_slices_order2Ordered_ok : e_slices_order2Ordered.ok Try.prog A := by
 intro R ds k r h
 unfold e_slices_order2Ordered at h
 obtain ⟨x0, d0, rfl, h0⟩ := dL_some h
 obtain ⟨x1, d1, rfl, h1⟩ := dI_some h0
 obtain ⟨x2, d2, rfl, h2⟩ := dI_some h1
 obtain ⟨x3, d3, rfl, h3⟩ := dI_some h2
 obtain ⟨rfl, hE⟩ := dE_some h3
 obtain ⟨y, hy, hk⟩ := bnd_some hE
 refine ⟨_, hk, fn_ok px (fx := ⟨Try.func98, by kernel_rfl, by kernel_rfl⟩) (entsOK_cons e_cmp_Less_ok entsOK_nil) lentsOK_nil ?_⟩
 have hq := q_slices_order2Ordered x0 x1 x2 x3
 rw [c_slices_order2Ordered_bind] at hq
 rw [show c_slices_order2Ordered x0 x1 x2 x3 some = some y from hy] at hq
 exact hq

/-!-/
def c_slices_medianOrdered {R : Type} (x0 : List D) (x1 : Int) (x2 : Int) (x3 : Int) (x4 : Int) (k : Int × Int → Option R) : Option R :=
 (slices_order2Ordered x0 x1 x2 x4).bind (fun y0 =>
 (slices_order2Ordered x0 y0.snd.fst x3 y0.snd.snd).bind (fun y1 =>
 (slices_order2Ordered x0 y0.fst y1.fst y1.snd.snd).bind (fun y2 =>
 k (y2.snd.fst, y2.snd.snd))))
theorem c_slices_medianOrdered_bind {R : Type} (x0 : List D) (x1 : Int) (x2 : Int) (x3 : Int) (x4 : Int) (k : Int × Int → Option R) : c_slices_medianOrdered x0 x1 x2 x3 x4 k = (c_slices_medianOrdered x0 x1 x2 x3 x4 some).bind k := by
 unfold c_slices_medianOrdered
 repeat' first|exact bnd_tail|exact bnd_none|exact bnd_leaf|apply bnd_ite|apply bnd_cond|apply bnd_sum|(apply bnd_bind;intro _)|intro _
def slices_medianOrdered (x0 : List D) (x1 : Int) (x2 : Int) (x3 : Int) (x4 : Int) : Option (Int × Int) := c_slices_medianOrdered x0 x1 x2 x3 x4 some
def e_slices_medianOrdered : Ent := ⟨96, [.rd (.int .i64), .int .i64, .int .i64, .int .i64, .obox (.int .i64)], .int .i64, (uu 4 (.obox (.int .i64) :: [])), fun _ ds k => dL (fun x0 ds => dI (fun x1 ds => dI (fun x2 ds => dI (fun x3 ds => dI (fun x4 ds => dE ((slices_medianOrdered x0 x1 x2 x3 x4).bind (fun y => k [.I y.1, .I y.2])) ds) ds) ds) ds) ds) ds⟩
theorem q_slices_medianOrdered (x0 : List D) (x1 : Int) (x2 : Int) (x3 : Int) (x4 : Int) : runFn (ocOf [e_slices_order2Ordered]) (olOf []) A 96 Try.f96 (Sh.mks e_slices_medianOrdered.sh [.L x0, .I x1, .I x2, .I x3, .I x4]).1 (fun v os => some (v, os)) = c_slices_medianOrdered x0 x1 x2 x3 x4 (fun y => some ((e_slices_medianOrdered.res.mk [.I y.1, .I y.2]).1, (Sh.mks e_slices_medianOrdered.outs (e_slices_medianOrdered.res.mk [.I y.1, .I y.2]).2).1)) := by kernel_rfl
theorem e_slices_medianOrdered_ok : e_slices_medianOrdered.ok Try.prog A := by
 intro R ds k r h
 unfold e_slices_medianOrdered at h
 obtain ⟨x0, d0, rfl, h0⟩ := dL_some h
 obtain ⟨x1, d1, rfl, h1⟩ := dI_some h0
 obtain ⟨x2, d2, rfl, h2⟩ := dI_some h1
 obtain ⟨x3, d3, rfl, h3⟩ := dI_some h2
 obtain ⟨x4, d4, rfl, h4⟩ := dI_some h3
 obtain ⟨rfl, hE⟩ := dE_some h4
 obtain ⟨y, hy, hk⟩ := bnd_some hE
 refine ⟨_, hk, fn_ok px (fx := ⟨Try.func96, by kernel_rfl, by kernel_rfl⟩) (entsOK_cons e_slices_order2Ordered_ok entsOK_nil) lentsOK_nil ?_⟩
 have hq := q_slices_medianOrdered x0 x1 x2 x3 x4
 rw [c_slices_medianOrdered_bind] at hq
 rw [show c_slices_medianOrdered x0 x1 x2 x3 x4 some = some y from hy] at hq
 exact hq

/-!-/
def c_slices_medianAdjacentOrdered {R : Type} (x0 : List D) (x1 : Int) (x2 : Int) (k : Int × Int → Option R) : Option R :=
 (slices_medianOrdered x0 (IntKind.i64.wrap (x1 - 1)) x1 (IntKind.i64.wrap (x1 + 1)) x2).bind (fun y0 =>
 k (y0.fst, y0.snd))
theorem c_slices_medianAdjacentOrdered_bind {R : Type} (x0 : List D) (x1 : Int) (x2 : Int) (k : Int × Int → Option R) : c_slices_medianAdjacentOrdered x0 x1 x2 k = (c_slices_medianAdjacentOrdered x0 x1 x2 some).bind k := by
 unfold c_slices_medianAdjacentOrdered
 repeat' first|exact bnd_tail|exact bnd_none|exact bnd_leaf|apply bnd_ite|apply bnd_cond|apply bnd_sum|(apply bnd_bind;intro _)|intro _
def slices_medianAdjacentOrdered (x0 : List D) (x1 : Int) (x2 : Int) : Option (Int × Int) := c_slices_medianAdjacentOrdered x0 x1 x2 some
def e_slices_medianAdjacentOrdered : Ent := ⟨95, [.rd (.int .i64), .int .i64, .obox (.int .i64)], .int .i64, [.undef, .undef, .obox (.int .i64)], fun _ ds k => dL (fun x0 ds => dI (fun x1 ds => dI (fun x2 ds => dE ((slices_medianAdjacentOrdered x0 x1 x2).bind (fun y => k [.I y.1, .I y.2])) ds) ds) ds) ds⟩
theorem q_slices_medianAdjacentOrdered (x0 : List D) (x1 : Int) (x2 : Int) : runFn (ocOf [e_slices_medianOrdered]) (olOf []) A 95 Try.f95 (Sh.mks e_slices_medianAdjacentOrdered.sh [.L x0, .I x1, .I x2]).1 (fun v os => some (v, os)) = c_slices_medianAdjacentOrdered x0 x1 x2 (fun y => some ((e_slices_medianAdjacentOrdered.res.mk [.I y.1, .I y.2]).1, (Sh.mks e_slices_medianAdjacentOrdered.outs (e_slices_medianAdjacentOrdered.res.mk [.I y.1, .I y.2]).2).1)) := by kernel_rfl
theorem e_slices_medianAdjacentOrdered_ok : e_slices_medianAdjacentOrdered.ok Try.prog A := by
 intro R ds k r h
 unfold e_slices_medianAdjacentOrdered at h
 obtain ⟨x0, d0, rfl, h0⟩ := dL_some h
 obtain ⟨x1, d1, rfl, h1⟩ := dI_some h0
 obtain ⟨x2, d2, rfl, h2⟩ := dI_some h1
 obtain ⟨rfl, hE⟩ := dE_some h2
 obtain ⟨y, hy, hk⟩ := bnd_some hE
 refine ⟨_, hk, fn_ok px (fx := ⟨Try.func95, by kernel_rfl, by kernel_rfl⟩) (entsOK_cons e_slices_medianOrdered_ok entsOK_nil) lentsOK_nil ?_⟩
 have hq := q_slices_medianAdjacentOrdered x0 x1 x2
 rw [c_slices_medianAdjacentOrdered_bind] at hq
 rw [show c_slices_medianAdjacentOrdered x0 x1 x2 some = some y from hy] at hq
 exact hq

/-!-/
def c_slices_choosePivotOrdered {R : Type} (x0 : List D) (x1 : Int) (x2 : Int) (k : Int × Int → Option R) : Option R :=
 if (4 : Int) ≠ (0 : Int) then
 if (4 : Int) ≠ (0 : Int) then
 if (4 : Int) ≠ (0 : Int) then
 bif decide ((8 : Int) ≤ IntKind.i64.wrap (x2 - x1)) then
 bif decide ((50 : Int) ≤ IntKind.i64.wrap (x2 - x1)) then
 (slices_medianAdjacentOrdered x0 (IntKind.i64.wrap (x1 + IntKind.i64.wrap (IntKind.i64.wrap ((IntKind.i64.wrap (x2 - x1)).tdiv (4 : Int)) * (1 : Int)))) (0 : Int)).bind (fun y0 =>
 (slices_medianAdjacentOrdered x0 (IntKind.i64.wrap (x1 + IntKind.i64.wrap (IntKind.i64.wrap ((IntKind.i64.wrap (x2 - x1)).tdiv (4 : Int)) * (2 : Int)))) y0.snd).bind (fun y1 =>
 (slices_medianAdjacentOrdered x0 (IntKind.i64.wrap (x1 + IntKind.i64.wrap (IntKind.i64.wrap ((IntKind.i64.wrap (x2 - x1)).tdiv (4 : Int)) * (3 : Int)))) y1.snd).bind (fun y2 =>
 (slices_medianOrdered x0 y0.fst y1.fst y2.fst y2.snd).bind (fun y3 =>
 bif decide (y3.snd = (0 : Int)) then
 k (y3.fst, (1 : Int))
 else
 bif decide (y3.snd = (12 : Int)) then
 k (y3.fst, (2 : Int))
 else
 k (y3.fst, (0 : Int))))))
 else
 (slices_medianOrdered x0 (IntKind.i64.wrap (x1 + IntKind.i64.wrap (IntKind.i64.wrap ((IntKind.i64.wrap (x2 - x1)).tdiv (4 : Int)) * (1 : Int)))) (IntKind.i64.wrap (x1 + IntKind.i64.wrap (IntKind.i64.wrap ((IntKind.i64.wrap (x2 - x1)).tdiv (4 : Int)) * (2 : Int)))) (IntKind.i64.wrap (x1 + IntKind.i64.wrap (IntKind.i64.wrap ((IntKind.i64.wrap (x2 - x1)).tdiv (4 : Int)) * (3 : Int)))) (0 : Int)).bind (fun y4 =>
 bif decide (y4.snd = (0 : Int)) then
 k (y4.fst, (1 : Int))
 else
 bif decide (y4.snd = (12 : Int)) then
 k (y4.fst, (2 : Int))
 else
 k (y4.fst, (0 : Int)))
 else
 bif decide ((0 : Int) = (0 : Int)) then
 k (IntKind.i64.wrap (x1 + IntKind.i64.wrap (IntKind.i64.wrap ((IntKind.i64.wrap (x2 - x1)).tdiv (4 : Int)) * (2 : Int))), (1 : Int))
 else
 bif decide ((0 : Int) = (12 : Int)) then
 k (IntKind.i64.wrap (x1 + IntKind.i64.wrap (IntKind.i64.wrap ((IntKind.i64.wrap (x2 - x1)).tdiv (4 : Int)) * (2 : Int))), (2 : Int))
 else
 k (IntKind.i64.wrap (x1 + IntKind.i64.wrap (IntKind.i64.wrap ((IntKind.i64.wrap (x2 - x1)).tdiv (4 : Int)) * (2 : Int))), (0 : Int))
 else
 none
 else
 none
 else
 none
theorem c_slices_choosePivotOrdered_bind {R : Type} (x0 : List D) (x1 : Int) (x2 : Int) (k : Int × Int → Option R) : c_slices_choosePivotOrdered x0 x1 x2 k = (c_slices_choosePivotOrdered x0 x1 x2 some).bind k := by
 unfold c_slices_choosePivotOrdered
 repeat' first|exact bnd_tail|exact bnd_none|exact bnd_leaf|apply bnd_ite|apply bnd_cond|apply bnd_sum|(apply bnd_bind;intro _)|intro _
def slices_choosePivotOrdered (x0 : List D) (x1 : Int) (x2 : Int) : Option (Int × Int) := c_slices_choosePivotOrdered x0 x1 x2 some
def e_slices_choosePivotOrdered : Ent := ⟨84, [.rd (.int .i64), .int .i64, .int .i64], .tup [.int .i64, .int .i64], [.undef, .undef, .undef], fun _ ds k => dL (fun x0 ds => dI (fun x1 ds => dI (fun x2 ds => dE ((slices_choosePivotOrdered x0 x1 x2).bind (fun y => k [.I y.1, .I y.2])) ds) ds) ds) ds⟩
theorem q_slices_choosePivotOrdered (x0 : List D) (x1 : Int) (x2 : Int) : runFn (ocOf [e_slices_medianAdjacentOrdered, e_slices_medianOrdered]) (olOf []) A 84 Try.f84 (Sh.mks e_slices_choosePivotOrdered.sh [.L x0, .I x1, .I x2]).1 (fun v os => some (v, os)) = c_slices_choosePivotOrdered x0 x1 x2 (fun y => some ((e_slices_choosePivotOrdered.res.mk [.I y.1, .I y.2]).1, (Sh.mks e_slices_choosePivotOrdered.outs (e_slices_choosePivotOrdered.res.mk [.I y.1, .I y.2]).2).1)) := by kernel_rfl
theorem e_slices_choosePivotOrdered_ok : e_slices_choosePivotOrdered.ok Try.prog A := by
 intro R ds k r h
 unfold e_slices_choosePivotOrdered at h
 obtain ⟨x0, d0, rfl, h0⟩ := dL_some h
 obtain ⟨x1, d1, rfl, h1⟩ := dI_some h0
 obtain ⟨x2, d2, rfl, h2⟩ := dI_some h1
 obtain ⟨rfl, hE⟩ := dE_some h2
 obtain ⟨y, hy, hk⟩ := bnd_some hE
 refine ⟨_, hk, fn_ok px (fx := ⟨Try.func84, by kernel_rfl, by kernel_rfl⟩) (entsOK_cons e_slices_medianAdjacentOrdered_ok (entsOK_cons e_slices_medianOrdered_ok entsOK_nil)) lentsOK_nil ?_⟩
 have hq := q_slices_choosePivotOrdered x0 x1 x2
 rw [c_slices_choosePivotOrdered_bind] at hq
 rw [show c_slices_choosePivotOrdered x0 x1 x2 some = some y from hy] at hq
 exact hq

/-!-/
def c_slices_reverseRangeOrdered_L2 {R : Type} (F : Int → Int → List D → Option (List D)) (x0 : Int) (x1 : Int) (x2 : List D) (k : List D → Option R) : Option R :=
 bif decide (x0 < x1) then
 if 0 ≤ x1 ∧ x1 < (↑x2.length : Int) then
 if x1.toNat + 1 ≤ x2.length then
 if 0 ≤ x0 ∧ x0 < (↑x2.length : Int) then
 if x0.toNat + 1 ≤ x2.length then
 if 0 ≤ x0 ∧ x0 < (↑x2.length : Int) then
 if x0.toNat + 1 ≤ x2.length then
 if 0 ≤ x1 ∧ x1 < (↑(x2.set x0.toNat (D.int (x2.getD x1.toNat (D.int 0)).toInt)).length : Int) then
 if x1.toNat + 1 ≤ (x2.set x0.toNat (D.int (x2.getD x1.toNat (D.int 0)).toInt)).length then
 (F (IntKind.i64.wrap (x0 + 1)) (IntKind.i64.wrap (x1 - 1)) ((x2.set x0.toNat (D.int (x2.getD x1.toNat (D.int 0)).toInt)).set x1.toNat (D.int (x2.getD x0.toNat (D.int 0)).toInt))).bind k
 else
 none
 else
 none
 else
 none
 else
 none
 else
 none
 else
 none
 else
 none
 else
 none
 else
 k x2
theorem c_slices_reverseRangeOrdered_L2_bind {R : Type} (F : Int → Int → List D → Option (List D)) (x0 : Int) (x1 : Int) (x2 : List D) (k : List D → Option R) : c_slices_reverseRangeOrdered_L2 F x0 x1 x2 k = (c_slices_reverseRangeOrdered_L2 F x0 x1 x2 some).bind k := by
 unfold c_slices_reverseRangeOrdered_L2
 repeat' first|exact bnd_tail|exact bnd_none|exact bnd_leaf|apply bnd_ite|apply bnd_cond|apply bnd_sum|(apply bnd_bind;intro _)|intro _
def n_slices_reverseRangeOrdered_L2 : Nat → Int → Int → List D → Option (List D)
 | 0, _, _, _ => none
 | n + 1, x0, x1, x2 => c_slices_reverseRangeOrdered_L2 (n_slices_reverseRangeOrdered_L2 n) x0 x1 x2 some
noncomputable def slices_reverseRangeOrdered_L2 (x0 : Int) (x1 : Int) (x2 : List D) : Option (List D) := ev (fun n => n_slices_reverseRangeOrdered_L2 n x0 x1 x2)
def m_slices_reverseRangeOrdered_L2 (F : Int → Int → List D → Option (List D)) : Lent := ⟨2, ⟨(.full 1000 [] (.int .i64) :: uu 5 (.int .i64 :: .int .i64 :: uu 24 ([]))), [(1000, .own (.int .i64))]⟩, [(.exit 0, ⟨(.full 1000 [] (.int .i64) :: uu 31 ([])), [(1000, .own (.int .i64))]⟩)], fun _ ds k => dI (fun x0 ds => dI (fun x1 ds => dL (fun x2 ds => dE ((F x0 x1 x2).bind (fun y => k 0 [.L y])) ds) ds) ds) ds⟩
theorem q_slices_reverseRangeOrdered_L2 (F : Int → Int → List D → Option (List D)) (x0 : Int) (x1 : Int) (x2 : List D) : runLoop (ocOf []) (olOf [m_slices_reverseRangeOrdered_L2 F]) A 85 (codeAt (bodyOf Try.f85) 2) ((m_slices_reverseRangeOrdered_L2 F).sh.mk' [.I x0, .I x1, .L x2]) (fun e σ' => some (e, σ')) = c_slices_reverseRangeOrdered_L2 F x0 x1 x2 (fun y => some (.exit 0, SSt.mk' ⟨(.full 1000 [] (.int .i64) :: uu 31 ([])), [(1000, .own (.int .i64))]⟩ [.L y])) := by kernel_rfl
theorem m_slices_reverseRangeOrdered_L2_ok : ∀ n, (m_slices_reverseRangeOrdered_L2 (n_slices_reverseRangeOrdered_L2 n)).ok Try.prog (codeAt (bodyOf Try.f85) 2) := by
 intro n
 induction n with
 | zero =>
  intro R ds k r h
  unfold m_slices_reverseRangeOrdered_L2 at h
  obtain ⟨x0, d0, rfl, h0⟩ := dI_some h
  obtain ⟨x1, d1, rfl, h1⟩ := dI_some h0
  obtain ⟨x2, d2, rfl, h2⟩ := dL_some h1
  obtain ⟨rfl, hE⟩ := dE_some h2
  obtain ⟨y, hy, hk⟩ := bnd_some hE
  cases hy
 | succ n ih =>
  intro R ds k r h
  unfold m_slices_reverseRangeOrdered_L2 at h
  obtain ⟨x0, d0, rfl, h0⟩ := dI_some h
  obtain ⟨x1, d1, rfl, h1⟩ := dI_some h0
  obtain ⟨x2, d2, rfl, h2⟩ := dL_some h1
  obtain ⟨rfl, hE⟩ := dE_some h2
  obtain ⟨y, hy, hk⟩ := bnd_some hE
  have hq := q_slices_reverseRangeOrdered_L2 (n_slices_reverseRangeOrdered_L2 n) x0 x1 x2
  rw [c_slices_reverseRangeOrdered_L2_bind] at hq
  rw [show c_slices_reverseRangeOrdered_L2 (n_slices_reverseRangeOrdered_L2 n) x0 x1 x2 some = some y from hy] at hq
  refine ⟨0, _, _, _, hk, rfl, loop_ok px (fx := ⟨Try.func85, by kernel_rfl, by kernel_rfl⟩) entsOK_nil (lentsOK_cons ih lentsOK_nil) (by kernel_rfl) ?_⟩
  exact hq
noncomputable def e_slices_reverseRangeOrdered_L2 : Lent := m_slices_reverseRangeOrdered_L2 (slices_reverseRangeOrdered_L2)
theorem e_slices_reverseRangeOrdered_L2_ok : (e_slices_reverseRangeOrdered_L2).ok Try.prog (codeAt (bodyOf Try.f85) 2) := by
 intro R ds k r h
 unfold e_slices_reverseRangeOrdered_L2 m_slices_reverseRangeOrdered_L2 at h
 obtain ⟨x0, d0, rfl, h0⟩ := dI_some h
 obtain ⟨x1, d1, rfl, h1⟩ := dI_some h0
 obtain ⟨x2, d2, rfl, h2⟩ := dL_some h1
 obtain ⟨rfl, hE⟩ := dE_some h2
 obtain ⟨y, hy, hk⟩ := bnd_some hE
 obtain ⟨n, hn⟩ := ev_some hy
 exact m_slices_reverseRangeOrdered_L2_ok n R _ k r (show (n_slices_reverseRangeOrdered_L2 n x0 x1 x2).bind _ = _ by rw [hn]; exact hk)

/-!-/
def c_slices_reverseRangeOrdered {R : Type} (x0 : List D) (x1 : Int) (x2 : Int) (k : List D → Option R) : Option R :=
 (slices_reverseRangeOrdered_L2 x1 (IntKind.i64.wrap (x2 - 1)) x0).bind (fun y0 =>
 k y0)
theorem c_slices_reverseRangeOrdered_bind {R : Type} (x0 : List D) (x1 : Int) (x2 : Int) (k : List D → Option R) : c_slices_reverseRangeOrdered x0 x1 x2 k = (c_slices_reverseRangeOrdered x0 x1 x2 some).bind k := by
 unfold c_slices_reverseRangeOrdered
 repeat' first|exact bnd_tail|exact bnd_none|exact bnd_leaf|apply bnd_ite|apply bnd_cond|apply bnd_sum|(apply bnd_bind;intro _)|intro _
def slices_reverseRangeOrdered (x0 : List D) (x1 : Int) (x2 : Int) : Option (List D) := c_slices_reverseRangeOrdered x0 x1 x2 some
def e_slices_reverseRangeOrdered : Ent := ⟨85, [.own (.int .i64), .int .i64, .int .i64], .tup [], [.own (.int .i64), .undef, .undef], fun _ ds k => dL (fun x0 ds => dI (fun x1 ds => dI (fun x2 ds => dE ((slices_reverseRangeOrdered x0 x1 x2).bind (fun y => k [.L y])) ds) ds) ds) ds⟩
theorem q_slices_reverseRangeOrdered (x0 : List D) (x1 : Int) (x2 : Int) : runFn (ocOf []) (olOf [e_slices_reverseRangeOrdered_L2]) A 85 Try.f85 (Sh.mks e_slices_reverseRangeOrdered.sh [.L x0, .I x1, .I x2]).1 (fun v os => some (v, os)) = c_slices_reverseRangeOrdered x0 x1 x2 (fun y => some ((e_slices_reverseRangeOrdered.res.mk [.L y]).1, (Sh.mks e_slices_reverseRangeOrdered.outs (e_slices_reverseRangeOrdered.res.mk [.L y]).2).1)) := by kernel_rfl
theorem e_slices_reverseRangeOrdered_ok : e_slices_reverseRangeOrdered.ok Try.prog A := by
 intro R ds k r h
 unfold e_slices_reverseRangeOrdered at h
 obtain ⟨x0, d0, rfl, h0⟩ := dL_some h
 obtain ⟨x1, d1, rfl, h1⟩ := dI_some h0
 obtain ⟨x2, d2, rfl, h2⟩ := dI_some h1
 obtain ⟨rfl, hE⟩ := dE_some h2
 obtain ⟨y, hy, hk⟩ := bnd_some hE
 refine ⟨_, hk, fn_ok px (fx := ⟨Try.func85, by kernel_rfl, by kernel_rfl⟩) entsOK_nil (lentsOK_cons e_slices_reverseRangeOrdered_L2_ok lentsOK_nil) ?_⟩
 have hq := q_slices_reverseRangeOrdered x0 x1 x2
 rw [c_slices_reverseRangeOrdered_bind] at hq
 rw [show c_slices_reverseRangeOrdered x0 x1 x2 some = some y from hy] at hq
 exact hq

/-!-/
def c_slices_partialInsertionSortOrdered_L5 {R : Type} (F : Int → Int → Int → Int → List D → Option (Int × Int × Int × Int × List D)) (x0 : Int) (x1 : Int) (x2 : Int) (x3 : Int) (x4 : List D) (k : Int × Int × Int × Int × List D → Option R) : Option R :=
 bif decide (x2 < x1) then
 if 0 ≤ x2 ∧ x2 < (↑x4.length : Int) then
 if x2.toNat + 1 ≤ x4.length then
 if (0 : Int) ≤ IntKind.i64.wrap (x2 - 1) ∧ IntKind.i64.wrap (x2 - 1) < (↑x4.length : Int) then
 if (IntKind.i64.wrap (x2 - 1)).toNat + 1 ≤ x4.length then
 (cmp_Less ((x4.getD x2.toNat (D.int 0)).toInt) ((x4.getD (IntKind.i64.wrap (x2 - 1)).toNat (D.int 0)).toInt)).bind (fun y0 =>
 bif !y0 then
 (F x0 x1 (IntKind.i64.wrap (x2 + 1)) x3 x4).bind k
 else
 k (x0, x1, x2, x3, x4))
 else
 none
 else
 none
 else
 none
 else
 none
 else
 k (x0, x1, x2, x3, x4)
theorem c_slices_partialInsertionSortOrdered_L5_bind {R : Type} (F : Int → Int → Int → Int → List D → Option (Int × Int × Int × Int × List D)) (x0 : Int) (x1 : Int) (x2 : Int) (x3 : Int) (x4 : List D) (k : Int × Int × Int × Int × List D → Option R) : c_slices_partialInsertionSortOrdered_L5 F x0 x1 x2 x3 x4 k = (c_slices_partialInsertionSortOrdered_L5 F x0 x1 x2 x3 x4 some).bind k := by
 unfold c_slices_partialInsertionSortOrdered_L5
 repeat' first|exact bnd_tail|exact bnd_none|exact bnd_leaf|apply bnd_ite|apply bnd_cond|apply bnd_sum|(apply bnd_bind;intro _)|intro _
def n_slices_partialInsertionSortOrdered_L5 : Nat → Int → Int → Int → Int → List D → Option (Int × Int × Int × Int × List D)
 | 0, _, _, _, _, _ => none
 | n + 1, x0, x1, x2, x3, x4 => c_slices_partialInsertionSortOrdered_L5 (n_slices_partialInsertionSortOrdered_L5 n) x0 x1 x2 x3 x4 some
noncomputable def slices_partialInsertionSortOrdered_L5 (x0 : Int) (x1 : Int) (x2 : Int) (x3 : Int) (x4 : List D) : Option (Int × Int × Int × Int × List D) := ev (fun n => n_slices_partialInsertionSortOrdered_L5 n x0 x1 x2 x3 x4)
def m_slices_partialInsertionSortOrdered_L5 (F : Int → Int → Int → Int → List D → Option (Int × Int × Int × Int × List D)) : Lent := ⟨5, ⟨(.full 1000 [] (.int .i64) :: .int .i64 :: .int .i64 :: uu 4 (.int .i64 :: .int .i64 :: uu 124 ([]))), [(1000, .own (.int .i64))]⟩, [(.exit 2, ⟨(.full 1000 [] (.int .i64) :: .int .i64 :: .int .i64 :: uu 4 (.int .i64 :: .int .i64 :: uu 124 ([]))), [(1000, .own (.int .i64))]⟩)], fun _ ds k => dI (fun x0 ds => dI (fun x1 ds => dI (fun x2 ds => dI (fun x3 ds => dL (fun x4 ds => dE ((F x0 x1 x2 x3 x4).bind (fun y => k 0 [.I y.1, .I y.2.1, .I y.2.2.1, .I y.2.2.2.1, .L y.2.2.2.2])) ds) ds) ds) ds) ds) ds⟩
theorem q_slices_partialInsertionSortOrdered_L5 (F : Int → Int → Int → Int → List D → Option (Int × Int × Int × Int × List D)) (x0 : Int) (x1 : Int) (x2 : Int) (x3 : Int) (x4 : List D) : runLoop (ocOf [e_cmp_Less]) (olOf [m_slices_partialInsertionSortOrdered_L5 F]) A 86 (codeAt (bodyOf Try.f86) 5) ((m_slices_partialInsertionSortOrdered_L5 F).sh.mk' [.I x0, .I x1, .I x2, .I x3, .L x4]) (fun e σ' => some (e, σ')) = c_slices_partialInsertionSortOrdered_L5 F x0 x1 x2 x3 x4 (fun y => some (.exit 2, SSt.mk' ⟨(.full 1000 [] (.int .i64) :: .int .i64 :: .int .i64 :: uu 4 (.int .i64 :: .int .i64 :: uu 124 ([]))), [(1000, .own (.int .i64))]⟩ [.I y.1, .I y.2.1, .I y.2.2.1, .I y.2.2.2.1, .L y.2.2.2.2])) := by kernel_rfl
theorem m_slices_partialInsertionSortOrdered_L5_ok : ∀ n, (m_slices_partialInsertionSortOrdered_L5 (n_slices_partialInsertionSortOrdered_L5 n)).ok Try.prog (codeAt (bodyOf Try.f86) 5) := by
 intro n
 induction n with
 | zero =>
  intro R ds k r h
  unfold m_slices_partialInsertionSortOrdered_L5 at h
  obtain ⟨x0, d0, rfl, h0⟩ := dI_some h
  obtain ⟨x1, d1, rfl, h1⟩ := dI_some h0
  obtain ⟨x2, d2, rfl, h2⟩ := dI_some h1
  obtain ⟨x3, d3, rfl, h3⟩ := dI_some h2
  obtain ⟨x4, d4, rfl, h4⟩ := dL_some h3
  obtain ⟨rfl, hE⟩ := dE_some h4
  obtain ⟨y, hy, hk⟩ := bnd_some hE
  cases hy
 | succ n ih =>
  intro R ds k r h
  unfold m_slices_partialInsertionSortOrdered_L5 at h
  obtain ⟨x0, d0, rfl, h0⟩ := dI_some h
  obtain ⟨x1, d1, rfl, h1⟩ := dI_some h0
  obtain ⟨x2, d2, rfl, h2⟩ := dI_some h1
  obtain ⟨x3, d3, rfl, h3⟩ := dI_some h2
  obtain ⟨x4, d4, rfl, h4⟩ := dL_some h3
  obtain ⟨rfl, hE⟩ := dE_some h4
  obtain ⟨y, hy, hk⟩ := bnd_some hE
  have hq := q_slices_partialInsertionSortOrdered_L5 (n_slices_partialInsertionSortOrdered_L5 n) x0 x1 x2 x3 x4
  rw [c_slices_partialInsertionSortOrdered_L5_bind] at hq
  rw [show c_slices_partialInsertionSortOrdered_L5 (n_slices_partialInsertionSortOrdered_L5 n) x0 x1 x2 x3 x4 some = some y from hy] at hq
  refine ⟨0, _, _, _, hk, rfl, loop_ok px (fx := ⟨Try.func86, by kernel_rfl, by kernel_rfl⟩) (entsOK_cons e_cmp_Less_ok entsOK_nil) (lentsOK_cons ih lentsOK_nil) (by kernel_rfl) ?_⟩
  exact hq
noncomputable def e_slices_partialInsertionSortOrdered_L5 : Lent := m_slices_partialInsertionSortOrdered_L5 (slices_partialInsertionSortOrdered_L5)
theorem e_slices_partialInsertionSortOrdered_L5_ok : (e_slices_partialInsertionSortOrdered_L5).ok Try.prog (codeAt (bodyOf Try.f86) 5) := by
 intro R ds k r h
 unfold e_slices_partialInsertionSortOrdered_L5 m_slices_partialInsertionSortOrdered_L5 at h
 obtain ⟨x0, d0, rfl, h0⟩ := dI_some h
 obtain ⟨x1, d1, rfl, h1⟩ := dI_some h0
 obtain ⟨x2, d2, rfl, h2⟩ := dI_some h1
 obtain ⟨x3, d3, rfl, h3⟩ := dI_some h2
 obtain ⟨x4, d4, rfl, h4⟩ := dL_some h3
 obtain ⟨rfl, hE⟩ := dE_some h4
 obtain ⟨y, hy, hk⟩ := bnd_some hE
 obtain ⟨n, hn⟩ := ev_some hy
 exact m_slices_partialInsertionSortOrdered_L5_ok n R _ k r (show (n_slices_partialInsertionSortOrdered_L5 n x0 x1 x2 x3 x4).bind _ = _ by rw [hn]; exact hk)

/-!-/
def c_slices_partialInsertionSortOrdered_L14 {R : Type} (F : Int → Int → Int → Int → Int → List D → Option (Int × Int × Int × Int × List D)) (x0 : Int) (x1 : Int) (x2 : Int) (x3 : Int) (x4 : Int) (x5 : List D) (k : Int × Int × Int × Int × List D → Option R) : Option R :=
 bif decide ((1 : Int) ≤ x4) then
 if 0 ≤ x4 ∧ x4 < (↑x5.length : Int) then
 if x4.toNat + 1 ≤ x5.length then
 if (0 : Int) ≤ IntKind.i64.wrap (x4 - 1) ∧ IntKind.i64.wrap (x4 - 1) < (↑x5.length : Int) then
 if (IntKind.i64.wrap (x4 - 1)).toNat + 1 ≤ x5.length then
 (cmp_Less ((x5.getD x4.toNat (D.int 0)).toInt) ((x5.getD (IntKind.i64.wrap (x4 - 1)).toNat (D.int 0)).toInt)).bind (fun y0 =>
 bif !y0 then
 k (x0, x1, x2, x3, x5)
 else
 if (0 : Int) ≤ IntKind.i64.wrap (x4 - 1) ∧ IntKind.i64.wrap (x4 - 1) < (↑x5.length : Int) then
 if (IntKind.i64.wrap (x4 - 1)).toNat + 1 ≤ x5.length then
 if 0 ≤ x4 ∧ x4 < (↑x5.length : Int) then
 if x4.toNat + 1 ≤ x5.length then
 if 0 ≤ x4 ∧ x4 < (↑x5.length : Int) then
 if x4.toNat + 1 ≤ x5.length then
 if (0 : Int) ≤ IntKind.i64.wrap (x4 - 1) ∧ IntKind.i64.wrap (x4 - 1) < (↑(x5.set x4.toNat (D.int (x5.getD (IntKind.i64.wrap (x4 - 1)).toNat (D.int 0)).toInt)).length : Int) then
 if (IntKind.i64.wrap (x4 - 1)).toNat + 1 ≤ (x5.set x4.toNat (D.int (x5.getD (IntKind.i64.wrap (x4 - 1)).toNat (D.int 0)).toInt)).length then
 (F x0 x1 x2 x3 (IntKind.i64.wrap (x4 - 1)) ((x5.set x4.toNat (D.int (x5.getD (IntKind.i64.wrap (x4 - 1)).toNat (D.int 0)).toInt)).set (IntKind.i64.wrap (x4 - 1)).toNat (D.int (x5.getD x4.toNat (D.int 0)).toInt))).bind k
 else
 none
 else
 none
 else
 none
 else
 none
 else
 none
 else
 none
 else
 none
 else
 none)
 else
 none
 else
 none
 else
 none
 else
 none
 else
 k (x0, x1, x2, x3, x5)
theorem c_slices_partialInsertionSortOrdered_L14_bind {R : Type} (F : Int → Int → Int → Int → Int → List D → Option (Int × Int × Int × Int × List D)) (x0 : Int) (x1 : Int) (x2 : Int) (x3 : Int) (x4 : Int) (x5 : List D) (k : Int × Int × Int × Int × List D → Option R) : c_slices_partialInsertionSortOrdered_L14 F x0 x1 x2 x3 x4 x5 k = (c_slices_partialInsertionSortOrdered_L14 F x0 x1 x2 x3 x4 x5 some).bind k := by
 unfold c_slices_partialInsertionSortOrdered_L14
 repeat' first|exact bnd_tail|exact bnd_none|exact bnd_leaf|apply bnd_ite|apply bnd_cond|apply bnd_sum|(apply bnd_bind;intro _)|intro _
def n_slices_partialInsertionSortOrdered_L14 : Nat → Int → Int → Int → Int → Int → List D → Option (Int × Int × Int × Int × List D)
 | 0, _, _, _, _, _, _ => none
 | n + 1, x0, x1, x2, x3, x4, x5 => c_slices_partialInsertionSortOrdered_L14 (n_slices_partialInsertionSortOrdered_L14 n) x0 x1 x2 x3 x4 x5 some
noncomputable def slices_partialInsertionSortOrdered_L14 (x0 : Int) (x1 : Int) (x2 : Int) (x3 : Int) (x4 : Int) (x5 : List D) : Option (Int × Int × Int × Int × List D) := ev (fun n => n_slices_partialInsertionSortOrdered_L14 n x0 x1 x2 x3 x4 x5)
def m_slices_partialInsertionSortOrdered_L14 (F : Int → Int → Int → Int → Int → List D → Option (Int × Int × Int × Int × List D)) : Lent := ⟨14, ⟨(.full 1000 [] (.int .i64) :: .int .i64 :: .int .i64 :: uu 4 (.int .i64 :: .int .i64 :: .int .i64 :: uu 123 ([]))), [(1000, .own (.int .i64))]⟩, [(.exit 4, ⟨(.full 1000 [] (.int .i64) :: .int .i64 :: .int .i64 :: uu 4 (.int .i64 :: .int .i64 :: uu 124 ([]))), [(1000, .own (.int .i64))]⟩)], fun _ ds k => dI (fun x0 ds => dI (fun x1 ds => dI (fun x2 ds => dI (fun x3 ds => dI (fun x4 ds => dL (fun x5 ds => dE ((F x0 x1 x2 x3 x4 x5).bind (fun y => k 0 [.I y.1, .I y.2.1, .I y.2.2.1, .I y.2.2.2.1, .L y.2.2.2.2])) ds) ds) ds) ds) ds) ds) ds⟩
theorem q_slices_partialInsertionSortOrdered_L14 (F : Int → Int → Int → Int → Int → List D → Option (Int × Int × Int × Int × List D)) (x0 : Int) (x1 : Int) (x2 : Int) (x3 : Int) (x4 : Int) (x5 : List D) : runLoop (ocOf [e_cmp_Less]) (olOf [m_slices_partialInsertionSortOrdered_L14 F]) A 86 (codeAt (bodyOf Try.f86) 14) ((m_slices_partialInsertionSortOrdered_L14 F).sh.mk' [.I x0, .I x1, .I x2, .I x3, .I x4, .L x5]) (fun e σ' => some (e, σ')) = c_slices_partialInsertionSortOrdered_L14 F x0 x1 x2 x3 x4 x5 (fun y => some (.exit 4, SSt.mk' ⟨(.full 1000 [] (.int .i64) :: .int .i64 :: .int .i64 :: uu 4 (.int .i64 :: .int .i64 :: uu 124 ([]))), [(1000, .own (.int .i64))]⟩ [.I y.1, .I y.2.1, .I y.2.2.1, .I y.2.2.2.1, .L y.2.2.2.2])) := by kernel_rfl
theorem m_slices_partialInsertionSortOrdered_L14_ok : ∀ n, (m_slices_partialInsertionSortOrdered_L14 (n_slices_partialInsertionSortOrdered_L14 n)).ok Try.prog (codeAt (bodyOf Try.f86) 14) := by
 intro n
 induction n with
 | zero =>
  intro R ds k r h
  unfold m_slices_partialInsertionSortOrdered_L14 at h
  obtain ⟨x0, d0, rfl, h0⟩ := dI_some h
  obtain ⟨x1, d1, rfl, h1⟩ := dI_some h0
  obtain ⟨x2, d2, rfl, h2⟩ := dI_some h1
  obtain ⟨x3, d3, rfl, h3⟩ := dI_some h2
  obtain ⟨x4, d4, rfl, h4⟩ := dI_some h3
  obtain ⟨x5, d5, rfl, h5⟩ := dL_some h4
  obtain ⟨rfl, hE⟩ := dE_some h5
  obtain ⟨y, hy, hk⟩ := bnd_some hE
  cases hy
 | succ n ih =>
  intro R ds k r h
  unfold m_slices_partialInsertionSortOrdered_L14 at h
  obtain ⟨x0, d0, rfl, h0⟩ := dI_some h
  obtain ⟨x1, d1, rfl, h1⟩ := dI_some h0
  obtain ⟨x2, d2, rfl, h2⟩ := dI_some h1
  obtain ⟨x3, d3, rfl, h3⟩ := dI_some h2
  obtain ⟨x4, d4, rfl, h4⟩ := dI_some h3
  obtain ⟨x5, d5, rfl, h5⟩ := dL_some h4
  obtain ⟨rfl, hE⟩ := dE_some h5
  obtain ⟨y, hy, hk⟩ := bnd_some hE
  have hq := q_slices_partialInsertionSortOrdered_L14 (n_slices_partialInsertionSortOrdered_L14 n) x0 x1 x2 x3 x4 x5
  rw [c_slices_partialInsertionSortOrdered_L14_bind] at hq
  rw [show c_slices_partialInsertionSortOrdered_L14 (n_slices_partialInsertionSortOrdered_L14 n) x0 x1 x2 x3 x4 x5 some = some y from hy] at hq
  refine ⟨0, _, _, _, hk, rfl, loop_ok px (fx := ⟨Try.func86, by kernel_rfl, by kernel_rfl⟩) (entsOK_cons e_cmp_Less_ok entsOK_nil) (lentsOK_cons ih lentsOK_nil) (by kernel_rfl) ?_⟩
  exact hq
noncomputable def e_slices_partialInsertionSortOrdered_L14 : Lent := m_slices_partialInsertionSortOrdered_L14 (slices_partialInsertionSortOrdered_L14)
theorem e_slices_partialInsertionSortOrdered_L14_ok : (e_slices_partialInsertionSortOrdered_L14).ok Try.prog (codeAt (bodyOf Try.f86) 14) := by
 intro R ds k r h
 unfold e_slices_partialInsertionSortOrdered_L14 m_slices_partialInsertionSortOrdered_L14 at h
 obtain ⟨x0, d0, rfl, h0⟩ := dI_some h
 obtain ⟨x1, d1, rfl, h1⟩ := dI_some h0
 obtain ⟨x2, d2, rfl, h2⟩ := dI_some h1
 obtain ⟨x3, d3, rfl, h3⟩ := dI_some h2
 obtain ⟨x4, d4, rfl, h4⟩ := dI_some h3
 obtain ⟨x5, d5, rfl, h5⟩ := dL_some h4
 obtain ⟨rfl, hE⟩ := dE_some h5
 obtain ⟨y, hy, hk⟩ := bnd_some hE
 obtain ⟨n, hn⟩ := ev_some hy
 exact m_slices_partialInsertionSortOrdered_L14_ok n R _ k r (show (n_slices_partialInsertionSortOrdered_L14 n x0 x1 x2 x3 x4 x5).bind _ = _ by rw [hn]; exact hk)

/-!-/
def c_slices_partialInsertionSortOrdered_L20 {R : Type} (F : Int → Int → Int → Int → Int → List D → Option (Int × Int × Int × Int × List D)) (x0 : Int) (x1 : Int) (x2 : Int) (x3 : Int) (x4 : Int) (x5 : List D) (k : Int × Int × Int × Int × List D → Option R) : Option R :=
 bif decide (x4 < x1) then
 if 0 ≤ x4 ∧ x4 < (↑x5.length : Int) then
 if x4.toNat + 1 ≤ x5.length then
 if (0 : Int) ≤ IntKind.i64.wrap (x4 - 1) ∧ IntKind.i64.wrap (x4 - 1) < (↑x5.length : Int) then
 if (IntKind.i64.wrap (x4 - 1)).toNat + 1 ≤ x5.length then
 (cmp_Less ((x5.getD x4.toNat (D.int 0)).toInt) ((x5.getD (IntKind.i64.wrap (x4 - 1)).toNat (D.int 0)).toInt)).bind (fun y0 =>
 bif !y0 then
 k (x0, x1, x2, x3, x5)
 else
 if (0 : Int) ≤ IntKind.i64.wrap (x4 - 1) ∧ IntKind.i64.wrap (x4 - 1) < (↑x5.length : Int) then
 if (IntKind.i64.wrap (x4 - 1)).toNat + 1 ≤ x5.length then
 if 0 ≤ x4 ∧ x4 < (↑x5.length : Int) then
 if x4.toNat + 1 ≤ x5.length then
 if 0 ≤ x4 ∧ x4 < (↑x5.length : Int) then
 if x4.toNat + 1 ≤ x5.length then
 if (0 : Int) ≤ IntKind.i64.wrap (x4 - 1) ∧ IntKind.i64.wrap (x4 - 1) < (↑(x5.set x4.toNat (D.int (x5.getD (IntKind.i64.wrap (x4 - 1)).toNat (D.int 0)).toInt)).length : Int) then
 if (IntKind.i64.wrap (x4 - 1)).toNat + 1 ≤ (x5.set x4.toNat (D.int (x5.getD (IntKind.i64.wrap (x4 - 1)).toNat (D.int 0)).toInt)).length then
 (F x0 x1 x2 x3 (IntKind.i64.wrap (x4 + 1)) ((x5.set x4.toNat (D.int (x5.getD (IntKind.i64.wrap (x4 - 1)).toNat (D.int 0)).toInt)).set (IntKind.i64.wrap (x4 - 1)).toNat (D.int (x5.getD x4.toNat (D.int 0)).toInt))).bind k
 else
 none
 else
 none
 else
 none
 else
 none
 else
 none
 else
 none
 else
 none
 else
 none)
 else
 none
 else
 none
 else
 none
 else
 none
 else
 k (x0, x1, x2, x3, x5)
theorem c_slices_partialInsertionSortOrdered_L20_bind {R : Type} (F : Int → Int → Int → Int → Int → List D → Option (Int × Int × Int × Int × List D)) (x0 : Int) (x1 : Int) (x2 : Int) (x3 : Int) (x4 : Int) (x5 : List D) (k : Int × Int × Int × Int × List D → Option R) : c_slices_partialInsertionSortOrdered_L20 F x0 x1 x2 x3 x4 x5 k = (c_slices_partialInsertionSortOrdered_L20 F x0 x1 x2 x3 x4 x5 some).bind k := by
 unfold c_slices_partialInsertionSortOrdered_L20
 repeat' first|exact bnd_tail|exact bnd_none|exact bnd_leaf|apply bnd_ite|apply bnd_cond|apply bnd_sum|(apply bnd_bind;intro _)|intro _
def n_slices_partialInsertionSortOrdered_L20 : Nat → Int → Int → Int → Int → Int → List D → Option (Int × Int × Int × Int × List D)
 | 0, _, _, _, _, _, _ => none
 | n + 1, x0, x1, x2, x3, x4, x5 => c_slices_partialInsertionSortOrdered_L20 (n_slices_partialInsertionSortOrdered_L20 n) x0 x1 x2 x3 x4 x5 some
noncomputable def slices_partialInsertionSortOrdered_L20 (x0 : Int) (x1 : Int) (x2 : Int) (x3 : Int) (x4 : Int) (x5 : List D) : Option (Int × Int × Int × Int × List D) := ev (fun n => n_slices_partialInsertionSortOrdered_L20 n x0 x1 x2 x3 x4 x5)
def m_slices_partialInsertionSortOrdered_L20 (F : Int → Int → Int → Int → Int → List D → Option (Int × Int × Int × Int × List D)) : Lent := ⟨20, ⟨(.full 1000 [] (.int .i64) :: .int .i64 :: .int .i64 :: uu 4 (.int .i64 :: .int .i64 :: .undef :: .int .i64 :: uu 122 ([]))), [(1000, .own (.int .i64))]⟩, [(.exit 6, ⟨(.full 1000 [] (.int .i64) :: .int .i64 :: .int .i64 :: uu 4 (.int .i64 :: .int .i64 :: uu 124 ([]))), [(1000, .own (.int .i64))]⟩)], fun _ ds k => dI (fun x0 ds => dI (fun x1 ds => dI (fun x2 ds => dI (fun x3 ds => dI (fun x4 ds => dL (fun x5 ds => dE ((F x0 x1 x2 x3 x4 x5).bind (fun y => k 0 [.I y.1, .I y.2.1, .I y.2.2.1, .I y.2.2.2.1, .L y.2.2.2.2])) ds) ds) ds) ds) ds) ds) ds⟩
theorem q_slices_partialInsertionSortOrdered_L20 (F : Int → Int → Int → Int → Int → List D → Option (Int × Int × Int × Int × List D)) (x0 : Int) (x1 : Int) (x2 : Int) (x3 : Int) (x4 : Int) (x5 : List D) : runLoop (ocOf [e_cmp_Less]) (olOf [m_slices_partialInsertionSortOrdered_L20 F]) A 86 (codeAt (bodyOf Try.f86) 20) ((m_slices_partialInsertionSortOrdered_L20 F).sh.mk' [.I x0, .I x1, .I x2, .I x3, .I x4, .L x5]) (fun e σ' => some (e, σ')) = c_slices_partialInsertionSortOrdered_L20 F x0 x1 x2 x3 x4 x5 (fun y => some (.exit 6, SSt.mk' ⟨(.full 1000 [] (.int .i64) :: .int .i64 :: .int .i64 :: uu 4 (.int .i64 :: .int .i64 :: uu 124 ([]))), [(1000, .own (.int .i64))]⟩ [.I y.1, .I y.2.1, .I y.2.2.1, .I y.2.2.2.1, .L y.2.2.2.2])) := by kernel_rfl
theorem m_slices_partialInsertionSortOrdered_L20_ok : ∀ n, (m_slices_partialInsertionSortOrdered_L20 (n_slices_partialInsertionSortOrdered_L20 n)).ok Try.prog (codeAt (bodyOf Try.f86) 20) := by
 intro n
 induction n with
 | zero =>
  intro R ds k r h
  unfold m_slices_partialInsertionSortOrdered_L20 at h
  obtain ⟨x0, d0, rfl, h0⟩ := dI_some h
  obtain ⟨x1, d1, rfl, h1⟩ := dI_some h0
  obtain ⟨x2, d2, rfl, h2⟩ := dI_some h1
  obtain ⟨x3, d3, rfl, h3⟩ := dI_some h2
  obtain ⟨x4, d4, rfl, h4⟩ := dI_some h3
  obtain ⟨x5, d5, rfl, h5⟩ := dL_some h4
  obtain ⟨rfl, hE⟩ := dE_some h5
  obtain ⟨y, hy, hk⟩ := bnd_some hE
  cases hy
 | succ n ih =>
  intro R ds k r h
  unfold m_slices_partialInsertionSortOrdered_L20 at h
  obtain ⟨x0, d0, rfl, h0⟩ := dI_some h
  obtain ⟨x1, d1, rfl, h1⟩ := dI_some h0
  obtain ⟨x2, d2, rfl, h2⟩ := dI_some h1
  obtain ⟨x3, d3, rfl, h3⟩ := dI_some h2
  obtain ⟨x4, d4, rfl, h4⟩ := dI_some h3
  obtain ⟨x5, d5, rfl, h5⟩ := dL_some h4
  obtain ⟨rfl, hE⟩ := dE_some h5
  obtain ⟨y, hy, hk⟩ := bnd_some hE
  have hq := q_slices_partialInsertionSortOrdered_L20 (n_slices_partialInsertionSortOrdered_L20 n) x0 x1 x2 x3 x4 x5
  rw [c_slices_partialInsertionSortOrdered_L20_bind] at hq
  rw [show c_slices_partialInsertionSortOrdered_L20 (n_slices_partialInsertionSortOrdered_L20 n) x0 x1 x2 x3 x4 x5 some = some y from hy] at hq
  refine ⟨0, _, _, _, hk, rfl, loop_ok px (fx := ⟨Try.func86, by kernel_rfl, by kernel_rfl⟩) (entsOK_cons e_cmp_Less_ok entsOK_nil) (lentsOK_cons ih lentsOK_nil) (by kernel_rfl) ?_⟩
  exact hq
noncomputable def e_slices_partialInsertionSortOrdered_L20 : Lent := m_slices_partialInsertionSortOrdered_L20 (slices_partialInsertionSortOrdered_L20)
theorem e_slices_partialInsertionSortOrdered_L20_ok : (e_slices_partialInsertionSortOrdered_L20).ok Try.prog (codeAt (bodyOf Try.f86) 20) := by
 intro R ds k r h
 unfold e_slices_partialInsertionSortOrdered_L20 m_slices_partialInsertionSortOrdered_L20 at h
 obtain ⟨x0, d0, rfl, h0⟩ := dI_some h
 obtain ⟨x1, d1, rfl, h1⟩ := dI_some h0
 obtain ⟨x2, d2, rfl, h2⟩ := dI_some h1
 obtain ⟨x3, d3, rfl, h3⟩ := dI_some h2
 obtain ⟨x4, d4, rfl, h4⟩ := dI_some h3
 obtain ⟨x5, d5, rfl, h5⟩ := dL_some h4
 obtain ⟨rfl, hE⟩ := dE_some h5
 obtain ⟨y, hy, hk⟩ := bnd_some hE
 obtain ⟨n, hn⟩ := ev_some hy
 exact m_slices_partialInsertionSortOrdered_L20_ok n R _ k r (show (n_slices_partialInsertionSortOrdered_L20 n x0 x1 x2 x3 x4 x5).bind _ = _ by rw [hn]; exact hk)

/-!-/
def c_slices_partialInsertionSortOrdered_L3 {R : Type} (F : Int → Int → Int → Int → List D → Option ((Bool × List D) ⊕ (List D))) (x0 : Int) (x1 : Int) (x2 : Int) (x3 : Int) (x4 : List D) (k : (Bool × List D) ⊕ (List D) → Option R) : Option R :=
 bif decide (x3 < (5 : Int)) then
 (slices_partialInsertionSortOrdered_L5 x0 x1 x2 x3 x4).bind (fun y0 =>
 bif decide (y0.snd.snd.fst = y0.snd.fst) then
 k (.inl (Bool.true, y0.snd.snd.snd.snd))
 else
 bif decide (IntKind.i64.wrap (y0.snd.fst - y0.fst) < (50 : Int)) then
 k (.inl (Bool.false, y0.snd.snd.snd.snd))
 else
 if (0 : Int) ≤ IntKind.i64.wrap (y0.snd.snd.fst - 1) ∧ IntKind.i64.wrap (y0.snd.snd.fst - 1) < (↑y0.snd.snd.snd.snd.length : Int) then
 if (IntKind.i64.wrap (y0.snd.snd.fst - 1)).toNat + 1 ≤ y0.snd.snd.snd.snd.length then
 if 0 ≤ y0.snd.snd.fst ∧ y0.snd.snd.fst < (↑y0.snd.snd.snd.snd.length : Int) then
 if y0.snd.snd.fst.toNat + 1 ≤ y0.snd.snd.snd.snd.length then
 if 0 ≤ y0.snd.snd.fst ∧ y0.snd.snd.fst < (↑y0.snd.snd.snd.snd.length : Int) then
 if y0.snd.snd.fst.toNat + 1 ≤ y0.snd.snd.snd.snd.length then
 if (0 : Int) ≤ IntKind.i64.wrap (y0.snd.snd.fst - 1) ∧ IntKind.i64.wrap (y0.snd.snd.fst - 1) < (↑(y0.snd.snd.snd.snd.set y0.snd.snd.fst.toNat (D.int (y0.snd.snd.snd.snd.getD (IntKind.i64.wrap (y0.snd.snd.fst - 1)).toNat (D.int 0)).toInt)).length : Int) then
 if (IntKind.i64.wrap (y0.snd.snd.fst - 1)).toNat + 1 ≤ (y0.snd.snd.snd.snd.set y0.snd.snd.fst.toNat (D.int (y0.snd.snd.snd.snd.getD (IntKind.i64.wrap (y0.snd.snd.fst - 1)).toNat (D.int 0)).toInt)).length then
 bif decide ((2 : Int) ≤ IntKind.i64.wrap (y0.snd.snd.fst - y0.fst)) then
 (slices_partialInsertionSortOrdered_L14 y0.fst y0.snd.fst y0.snd.snd.fst y0.snd.snd.snd.fst (IntKind.i64.wrap (y0.snd.snd.fst - 1)) ((y0.snd.snd.snd.snd.set y0.snd.snd.fst.toNat (D.int (y0.snd.snd.snd.snd.getD (IntKind.i64.wrap (y0.snd.snd.fst - 1)).toNat (D.int 0)).toInt)).set (IntKind.i64.wrap (y0.snd.snd.fst - 1)).toNat (D.int (y0.snd.snd.snd.snd.getD y0.snd.snd.fst.toNat (D.int 0)).toInt))).bind (fun y1 =>
 bif decide ((2 : Int) ≤ IntKind.i64.wrap (y1.snd.fst - y1.snd.snd.fst)) then
 (slices_partialInsertionSortOrdered_L20 y1.fst y1.snd.fst y1.snd.snd.fst y1.snd.snd.snd.fst (IntKind.i64.wrap (y1.snd.snd.fst + 1)) y1.snd.snd.snd.snd).bind (fun y2 =>
 (F y2.fst y2.snd.fst y2.snd.snd.fst (IntKind.i64.wrap (y2.snd.snd.snd.fst + 1)) y2.snd.snd.snd.snd).bind k)
 else
 (F y1.fst y1.snd.fst y1.snd.snd.fst (IntKind.i64.wrap (y1.snd.snd.snd.fst + 1)) y1.snd.snd.snd.snd).bind k)
 else
 bif decide ((2 : Int) ≤ IntKind.i64.wrap (y0.snd.fst - y0.snd.snd.fst)) then
 (slices_partialInsertionSortOrdered_L20 y0.fst y0.snd.fst y0.snd.snd.fst y0.snd.snd.snd.fst (IntKind.i64.wrap (y0.snd.snd.fst + 1)) ((y0.snd.snd.snd.snd.set y0.snd.snd.fst.toNat (D.int (y0.snd.snd.snd.snd.getD (IntKind.i64.wrap (y0.snd.snd.fst - 1)).toNat (D.int 0)).toInt)).set (IntKind.i64.wrap (y0.snd.snd.fst - 1)).toNat (D.int (y0.snd.snd.snd.snd.getD y0.snd.snd.fst.toNat (D.int 0)).toInt))).bind (fun y3 =>
 (F y3.fst y3.snd.fst y3.snd.snd.fst (IntKind.i64.wrap (y3.snd.snd.snd.fst + 1)) y3.snd.snd.snd.snd).bind k)
 else
 (F y0.fst y0.snd.fst y0.snd.snd.fst (IntKind.i64.wrap (y0.snd.snd.snd.fst + 1)) ((y0.snd.snd.snd.snd.set y0.snd.snd.fst.toNat (D.int (y0.snd.snd.snd.snd.getD (IntKind.i64.wrap (y0.snd.snd.fst - 1)).toNat (D.int 0)).toInt)).set (IntKind.i64.wrap (y0.snd.snd.fst - 1)).toNat (D.int (y0.snd.snd.snd.snd.getD y0.snd.snd.fst.toNat (D.int 0)).toInt))).bind k
 else
 none
 else
 none
 else
 none
 else
 none
 else
 none
 else
 none
 else
 none
 else
 none)
 else
 k (.inr x4)
theorem c_slices_partialInsertionSortOrdered_L3_bind {R : Type} (F : Int → Int → Int → Int → List D → Option ((Bool × List D) ⊕ (List D))) (x0 : Int) (x1 : Int) (x2 : Int) (x3 : Int) (x4 : List D) (k : (Bool × List D) ⊕ (List D) → Option R) : c_slices_partialInsertionSortOrdered_L3 F x0 x1 x2 x3 x4 k = (c_slices_partialInsertionSortOrdered_L3 F x0 x1 x2 x3 x4 some).bind k := by
 unfold c_slices_partialInsertionSortOrdered_L3
 repeat' first|exact bnd_tail|exact bnd_none|exact bnd_leaf|apply bnd_ite|apply bnd_cond|apply bnd_sum|(apply bnd_bind;intro _)|intro _
def n_slices_partialInsertionSortOrdered_L3 : Nat → Int → Int → Int → Int → List D → Option ((Bool × List D) ⊕ (List D))
 | 0, _, _, _, _, _ => none
 | n + 1, x0, x1, x2, x3, x4 => c_slices_partialInsertionSortOrdered_L3 (n_slices_partialInsertionSortOrdered_L3 n) x0 x1 x2 x3 x4 some
noncomputable def slices_partialInsertionSortOrdered_L3 (x0 : Int) (x1 : Int) (x2 : Int) (x3 : Int) (x4 : List D) : Option ((Bool × List D) ⊕ (List D)) := ev (fun n => n_slices_partialInsertionSortOrdered_L3 n x0 x1 x2 x3 x4)
def m_slices_partialInsertionSortOrdered_L3 (F : Int → Int → Int → Int → List D → Option ((Bool × List D) ⊕ (List D))) : Lent := ⟨3, ⟨(.full 1000 [] (.int .i64) :: .int .i64 :: .int .i64 :: uu 4 (.int .i64 :: .int .i64 :: uu 124 ([]))), [(1000, .own (.int .i64))]⟩, [(.ret, ⟨(.full 1000 [] (.int .i64) :: uu 5 (.bool :: uu 126 ([]))), [(1000, .own (.int .i64))]⟩), (.exit 0, ⟨(.full 1000 [] (.int .i64) :: uu 132 ([])), [(1000, .own (.int .i64))]⟩)], fun _ ds k => dI (fun x0 ds => dI (fun x1 ds => dI (fun x2 ds => dI (fun x3 ds => dL (fun x4 ds => dE ((F x0 x1 x2 x3 x4).bind (Sum.elim (fun y => k 0 [.B y.1, .L y.2]) (fun y => k 1 [.L y]))) ds) ds) ds) ds) ds) ds⟩
theorem q_slices_partialInsertionSortOrdered_L3 (F : Int → Int → Int → Int → List D → Option ((Bool × List D) ⊕ (List D))) (x0 : Int) (x1 : Int) (x2 : Int) (x3 : Int) (x4 : List D) : runLoop (ocOf []) (olOf [m_slices_partialInsertionSortOrdered_L3 F, e_slices_partialInsertionSortOrdered_L5, e_slices_partialInsertionSortOrdered_L14, e_slices_partialInsertionSortOrdered_L20]) A 86 (codeAt (bodyOf Try.f86) 3) ((m_slices_partialInsertionSortOrdered_L3 F).sh.mk' [.I x0, .I x1, .I x2, .I x3, .L x4]) (fun e σ' => some (e, σ')) = c_slices_partialInsertionSortOrdered_L3 F x0 x1 x2 x3 x4 (Sum.elim (fun y => some (.ret, SSt.mk' ⟨(.full 1000 [] (.int .i64) :: uu 5 (.bool :: uu 126 ([]))), [(1000, .own (.int .i64))]⟩ [.B y.1, .L y.2])) (fun y => some (.exit 0, SSt.mk' ⟨(.full 1000 [] (.int .i64) :: uu 132 ([])), [(1000, .own (.int .i64))]⟩ [.L y]))) := by kernel_rfl
theorem m_slices_partialInsertionSortOrdered_L3_ok : ∀ n, (m_slices_partialInsertionSortOrdered_L3 (n_slices_partialInsertionSortOrdered_L3 n)).ok Try.prog (codeAt (bodyOf Try.f86) 3) := by
 intro n
 induction n with
 | zero =>
  intro R ds k r h
  unfold m_slices_partialInsertionSortOrdered_L3 at h
  obtain ⟨x0, d0, rfl, h0⟩ := dI_some h
  obtain ⟨x1, d1, rfl, h1⟩ := dI_some h0
  obtain ⟨x2, d2, rfl, h2⟩ := dI_some h1
  obtain ⟨x3, d3, rfl, h3⟩ := dI_some h2
  obtain ⟨x4, d4, rfl, h4⟩ := dL_some h3
  obtain ⟨rfl, hE⟩ := dE_some h4
  obtain ⟨y, hy, hk⟩ := bnd_some hE
  cases hy
 | succ n ih =>
  intro R ds k r h
  unfold m_slices_partialInsertionSortOrdered_L3 at h
  obtain ⟨x0, d0, rfl, h0⟩ := dI_some h
  obtain ⟨x1, d1, rfl, h1⟩ := dI_some h0
  obtain ⟨x2, d2, rfl, h2⟩ := dI_some h1
  obtain ⟨x3, d3, rfl, h3⟩ := dI_some h2
  obtain ⟨x4, d4, rfl, h4⟩ := dL_some h3
  obtain ⟨rfl, hE⟩ := dE_some h4
  obtain ⟨y, hy, hk⟩ := bnd_some hE
  have hq := q_slices_partialInsertionSortOrdered_L3 (n_slices_partialInsertionSortOrdered_L3 n) x0 x1 x2 x3 x4
  rw [c_slices_partialInsertionSortOrdered_L3_bind] at hq
  rw [show c_slices_partialInsertionSortOrdered_L3 (n_slices_partialInsertionSortOrdered_L3 n) x0 x1 x2 x3 x4 some = some y from hy] at hq
  cases y with
  | inl y =>
   refine ⟨0, _, _, _, hk, rfl, loop_ok px (fx := ⟨Try.func86, by kernel_rfl, by kernel_rfl⟩) entsOK_nil (lentsOK_cons ih (lentsOK_cons e_slices_partialInsertionSortOrdered_L5_ok (lentsOK_cons e_slices_partialInsertionSortOrdered_L14_ok (lentsOK_cons e_slices_partialInsertionSortOrdered_L20_ok lentsOK_nil)))) (by kernel_rfl) ?_⟩
   exact hq
  | inr y =>
   refine ⟨1, _, _, _, hk, rfl, loop_ok px (fx := ⟨Try.func86, by kernel_rfl, by kernel_rfl⟩) entsOK_nil (lentsOK_cons ih (lentsOK_cons e_slices_partialInsertionSortOrdered_L5_ok (lentsOK_cons e_slices_partialInsertionSortOrdered_L14_ok (lentsOK_cons e_slices_partialInsertionSortOrdered_L20_ok lentsOK_nil)))) (by kernel_rfl) ?_⟩
   exact hq
noncomputable def e_slices_partialInsertionSortOrdered_L3 : Lent := m_slices_partialInsertionSortOrdered_L3 (slices_partialInsertionSortOrdered_L3)
theorem e_slices_partialInsertionSortOrdered_L3_ok : (e_slices_partialInsertionSortOrdered_L3).ok Try.prog (codeAt (bodyOf Try.f86) 3) := by
 intro R ds k r h
 unfold e_slices_partialInsertionSortOrdered_L3 m_slices_partialInsertionSortOrdered_L3 at h
 obtain ⟨x0, d0, rfl, h0⟩ := dI_some h
 obtain ⟨x1, d1, rfl, h1⟩ := dI_some h0
 obtain ⟨x2, d2, rfl, h2⟩ := dI_some h1
 obtain ⟨x3, d3, rfl, h3⟩ := dI_some h2
 obtain ⟨x4, d4, rfl, h4⟩ := dL_some h3
 obtain ⟨rfl, hE⟩ := dE_some h4
 obtain ⟨y, hy, hk⟩ := bnd_some hE
 obtain ⟨n, hn⟩ := ev_some hy
 exact m_slices_partialInsertionSortOrdered_L3_ok n R _ k r (show (n_slices_partialInsertionSortOrdered_L3 n x0 x1 x2 x3 x4).bind _ = _ by rw [hn]; exact hk)

/-!-/
def c_slices_partialInsertionSortOrdered {R : Type} (x0 : List D) (x1 : Int) (x2 : Int) (k : Bool × List D → Option R) : Option R :=
 (slices_partialInsertionSortOrdered_L3 x1 x2 (IntKind.i64.wrap (x1 + 1)) (0 : Int) x0).bind (Sum.elim (fun y0 =>
 k (y0.fst, y0.snd)) (fun y1 =>
 k (Bool.false, y1)))
theorem c_slices_partialInsertionSortOrdered_bind {R : Type} (x0 : List D) (x1 : Int) (x2 : Int) (k : Bool × List D → Option R) : c_slices_partialInsertionSortOrdered x0 x1 x2 k = (c_slices_partialInsertionSortOrdered x0 x1 x2 some).bind k := by
 unfold c_slices_partialInsertionSortOrdered
 repeat' first|exact bnd_tail|exact bnd_none|exact bnd_leaf|apply bnd_ite|apply bnd_cond|apply bnd_sum|(apply bnd_bind;intro _)|intro _
def slices_partialInsertionSortOrdered (x0 : List D) (x1 : Int) (x2 : Int) : Option (Bool × List D) := c_slices_partialInsertionSortOrdered x0 x1 x2 some
def e_slices_partialInsertionSortOrdered : Ent := ⟨86, [.own (.int .i64), .int .i64, .int .i64], .bool, [.own (.int .i64), .undef, .undef], fun _ ds k => dL (fun x0 ds => dI (fun x1 ds => dI (fun x2 ds => dE ((slices_partialInsertionSortOrdered x0 x1 x2).bind (fun y => k [.B y.1, .L y.2])) ds) ds) ds) ds⟩
theorem q_slices_partialInsertionSortOrdered (x0 : List D) (x1 : Int) (x2 : Int) : runFn (ocOf []) (olOf [e_slices_partialInsertionSortOrdered_L3]) A 86 Try.f86 (Sh.mks e_slices_partialInsertionSortOrdered.sh [.L x0, .I x1, .I x2]).1 (fun v os => some (v, os)) = c_slices_partialInsertionSortOrdered x0 x1 x2 (fun y => some ((e_slices_partialInsertionSortOrdered.res.mk [.B y.1, .L y.2]).1, (Sh.mks e_slices_partialInsertionSortOrdered.outs (e_slices_partialInsertionSortOrdered.res.mk [.B y.1, .L y.2]).2).1)) := by kernel_rfl
theorem e_slices_partialInsertionSortOrdered_ok : e_slices_partialInsertionSortOrdered.ok Try.prog A := by
 intro R ds k r h
 unfold e_slices_partialInsertionSortOrdered at h
 obtain ⟨x0, d0, rfl, h0⟩ := dL_some h
 obtain ⟨x1, d1, rfl, h1⟩ := dI_some h0
 obtain ⟨x2, d2, rfl, h2⟩ := dI_some h1
 obtain ⟨rfl, hE⟩ := dE_some h2
 obtain ⟨y, hy, hk⟩ := bnd_some hE
 refine ⟨_, hk, fn_ok px (fx := ⟨Try.func86, by kernel_rfl, by kernel_rfl⟩) entsOK_nil (lentsOK_cons e_slices_partialInsertionSortOrdered_L3_ok lentsOK_nil) ?_⟩
 have hq := q_slices_partialInsertionSortOrdered x0 x1 x2
 rw [c_slices_partialInsertionSortOrdered_bind] at hq
 rw [show c_slices_partialInsertionSortOrdered x0 x1 x2 some = some y from hy] at hq
 exact hq

/-!-/
def c_slices_partitionEqualOrdered_L3 {R : Type} (F : Int → Int → Int → List D → Option (Int × Int × Int × List D)) (x0 : Int) (x1 : Int) (x2 : Int) (x3 : List D) (k : Int × Int × Int × List D → Option R) : Option R :=
 bif decide (x1 ≤ x2) then
 if 0 ≤ x0 ∧ x0 < (↑x3.length : Int) then
 if x0.toNat + 1 ≤ x3.length then
 if 0 ≤ x1 ∧ x1 < (↑x3.length : Int) then
 if x1.toNat + 1 ≤ x3.length then
 (cmp_Less ((x3.getD x0.toNat (D.int 0)).toInt) ((x3.getD x1.toNat (D.int 0)).toInt)).bind (fun y0 =>
 bif !y0 then
 (F x0 (IntKind.i64.wrap (x1 + 1)) x2 x3).bind k
 else
 k (x0, x1, x2, x3))
 else
 none
 else
 none
 else
 none
 else
 none
 else
 k (x0, x1, x2, x3)
theorem c_slices_partitionEqualOrdered_L3_bind {R : Type} (F : Int → Int → Int → List D → Option (Int × Int × Int × List D)) (x0 : Int) (x1 : Int) (x2 : Int) (x3 : List D) (k : Int × Int × Int × List D → Option R) : c_slices_partitionEqualOrdered_L3 F x0 x1 x2 x3 k = (c_slices_partitionEqualOrdered_L3 F x0 x1 x2 x3 some).bind k := by
 unfold c_slices_partitionEqualOrdered_L3
 repeat' first|exact bnd_tail|exact bnd_none|exact bnd_leaf|apply bnd_ite|apply bnd_cond|apply bnd_sum|(apply bnd_bind;intro _)|intro _
def n_slices_partitionEqualOrdered_L3 : Nat → Int → Int → Int → List D → Option (Int × Int × Int × List D)
 | 0, _, _, _, _ => none
 | n + 1, x0, x1, x2, x3 => c_slices_partitionEqualOrdered_L3 (n_slices_partitionEqualOrdered_L3 n) x0 x1 x2 x3 some
noncomputable def slices_partitionEqualOrdered_L3 (x0 : Int) (x1 : Int) (x2 : Int) (x3 : List D) : Option (Int × Int × Int × List D) := ev (fun n => n_slices_partitionEqualOrdered_L3 n x0 x1 x2 x3)
def m_slices_partitionEqualOrdered_L3 (F : Int → Int → Int → List D → Option (Int × Int × Int × List D)) : Lent := ⟨3, ⟨(.full 1000 [] (.int .i64) :: .int .i64 :: uu 7 (.int .i64 :: .int .i64 :: uu 73 ([]))), [(1000, .own (.int .i64))]⟩, [(.exit 2, ⟨(.full 1000 [] (.int .i64) :: .int .i64 :: uu 7 (.int .i64 :: .int .i64 :: uu 73 ([]))), [(1000, .own (.int .i64))]⟩)], fun _ ds k => dI (fun x0 ds => dI (fun x1 ds => dI (fun x2 ds => dL (fun x3 ds => dE ((F x0 x1 x2 x3).bind (fun y => k 0 [.I y.1, .I y.2.1, .I y.2.2.1, .L y.2.2.2])) ds) ds) ds) ds) ds⟩
theorem q_slices_partitionEqualOrdered_L3 (F : Int → Int → Int → List D → Option (Int × Int × Int × List D)) (x0 : Int) (x1 : Int) (x2 : Int) (x3 : List D) : runLoop (ocOf [e_cmp_Less]) (olOf [m_slices_partitionEqualOrdered_L3 F]) A 88 (codeAt (bodyOf Try.f88) 3) ((m_slices_partitionEqualOrdered_L3 F).sh.mk' [.I x0, .I x1, .I x2, .L x3]) (fun e σ' => some (e, σ')) = c_slices_partitionEqualOrdered_L3 F x0 x1 x2 x3 (fun y => some (.exit 2, SSt.mk' ⟨(.full 1000 [] (.int .i64) :: .int .i64 :: uu 7 (.int .i64 :: .int .i64 :: uu 73 ([]))), [(1000, .own (.int .i64))]⟩ [.I y.1, .I y.2.1, .I y.2.2.1, .L y.2.2.2])) := by kernel_rfl
theorem m_slices_partitionEqualOrdered_L3_ok : ∀ n, (m_slices_partitionEqualOrdered_L3 (n_slices_partitionEqualOrdered_L3 n)).ok Try.prog (codeAt (bodyOf Try.f88) 3) := by
 intro n
 induction n with
 | zero =>
  intro R ds k r h
  unfold m_slices_partitionEqualOrdered_L3 at h
  obtain ⟨x0, d0, rfl, h0⟩ := dI_some h
  obtain ⟨x1, d1, rfl, h1⟩ := dI_some h0
  obtain ⟨x2, d2, rfl, h2⟩ := dI_some h1
  obtain ⟨x3, d3, rfl, h3⟩ := dL_some h2
  obtain ⟨rfl, hE⟩ := dE_some h3
  obtain ⟨y, hy, hk⟩ := bnd_some hE
  cases hy
 | succ n ih =>
  intro R ds k r h
  unfold m_slices_partitionEqualOrdered_L3 at h
  obtain ⟨x0, d0, rfl, h0⟩ := dI_some h
  obtain ⟨x1, d1, rfl, h1⟩ := dI_some h0
  obtain ⟨x2, d2, rfl, h2⟩ := dI_some h1
  obtain ⟨x3, d3, rfl, h3⟩ := dL_some h2
  obtain ⟨rfl, hE⟩ := dE_some h3
  obtain ⟨y, hy, hk⟩ := bnd_some hE
  have hq := q_slices_partitionEqualOrdered_L3 (n_slices_partitionEqualOrdered_L3 n) x0 x1 x2 x3
  rw [c_slices_partitionEqualOrdered_L3_bind] at hq
  rw [show c_slices_partitionEqualOrdered_L3 (n_slices_partitionEqualOrdered_L3 n) x0 x1 x2 x3 some = some y from hy] at hq
  refine ⟨0, _, _, _, hk, rfl, loop_ok px (fx := ⟨Try.func88, by kernel_rfl, by kernel_rfl⟩) (entsOK_cons e_cmp_Less_ok entsOK_nil) (lentsOK_cons ih lentsOK_nil) (by kernel_rfl) ?_⟩
  exact hq
noncomputable def e_slices_partitionEqualOrdered_L3 : Lent := m_slices_partitionEqualOrdered_L3 (slices_partitionEqualOrdered_L3)
theorem e_slices_partitionEqualOrdered_L3_ok : (e_slices_partitionEqualOrdered_L3).ok Try.prog (codeAt (bodyOf Try.f88) 3) := by
 intro R ds k r h
 unfold e_slices_partitionEqualOrdered_L3 m_slices_partitionEqualOrdered_L3 at h
 obtain ⟨x0, d0, rfl, h0⟩ := dI_some h
 obtain ⟨x1, d1, rfl, h1⟩ := dI_some h0
 obtain ⟨x2, d2, rfl, h2⟩ := dI_some h1
 obtain ⟨x3, d3, rfl, h3⟩ := dL_some h2
 obtain ⟨rfl, hE⟩ := dE_some h3
 obtain ⟨y, hy, hk⟩ := bnd_some hE
 obtain ⟨n, hn⟩ := ev_some hy
 exact m_slices_partitionEqualOrdered_L3_ok n R _ k r (show (n_slices_partitionEqualOrdered_L3 n x0 x1 x2 x3).bind _ = _ by rw [hn]; exact hk)

/-!-/
def c_slices_partitionEqualOrdered_L5 {R : Type} (F : Int → Int → Int → List D → Option (Int × Int × Int × List D)) (x0 : Int) (x1 : Int) (x2 : Int) (x3 : List D) (k : Int × Int × Int × List D → Option R) : Option R :=
 bif decide (x1 ≤ x2) then
 if 0 ≤ x0 ∧ x0 < (↑x3.length : Int) then
 if x0.toNat + 1 ≤ x3.length then
 if 0 ≤ x2 ∧ x2 < (↑x3.length : Int) then
 if x2.toNat + 1 ≤ x3.length then
 (cmp_Less ((x3.getD x0.toNat (D.int 0)).toInt) ((x3.getD x2.toNat (D.int 0)).toInt)).bind (fun y0 =>
 bif y0 then
 (F x0 x1 (IntKind.i64.wrap (x2 - 1)) x3).bind k
 else
 k (x0, x1, x2, x3))
 else
 none
 else
 none
 else
 none
 else
 none
 else
 k (x0, x1, x2, x3)
theorem c_slices_partitionEqualOrdered_L5_bind {R : Type} (F : Int → Int → Int → List D → Option (Int × Int × Int × List D)) (x0 : Int) (x1 : Int) (x2 : Int) (x3 : List D) (k : Int × Int × Int × List D → Option R) : c_slices_partitionEqualOrdered_L5 F x0 x1 x2 x3 k = (c_slices_partitionEqualOrdered_L5 F x0 x1 x2 x3 some).bind k := by
 unfold c_slices_partitionEqualOrdered_L5
 repeat' first|exact bnd_tail|exact bnd_none|exact bnd_leaf|apply bnd_ite|apply bnd_cond|apply bnd_sum|(apply bnd_bind;intro _)|intro _
def n_slices_partitionEqualOrdered_L5 : Nat → Int → Int → Int → List D → Option (Int × Int × Int × List D)
 | 0, _, _, _, _ => none
 | n + 1, x0, x1, x2, x3 => c_slices_partitionEqualOrdered_L5 (n_slices_partitionEqualOrdered_L5 n) x0 x1 x2 x3 some
noncomputable def slices_partitionEqualOrdered_L5 (x0 : Int) (x1 : Int) (x2 : Int) (x3 : List D) : Option (Int × Int × Int × List D) := ev (fun n => n_slices_partitionEqualOrdered_L5 n x0 x1 x2 x3)
def m_slices_partitionEqualOrdered_L5 (F : Int → Int → Int → List D → Option (Int × Int × Int × List D)) : Lent := ⟨5, ⟨(.full 1000 [] (.int .i64) :: .int .i64 :: uu 7 (.int .i64 :: .int .i64 :: uu 73 ([]))), [(1000, .own (.int .i64))]⟩, [(.exit 4, ⟨(.full 1000 [] (.int .i64) :: .int .i64 :: uu 7 (.int .i64 :: .int .i64 :: uu 73 ([]))), [(1000, .own (.int .i64))]⟩)], fun _ ds k => dI (fun x0 ds => dI (fun x1 ds => dI (fun x2 ds => dL (fun x3 ds => dE ((F x0 x1 x2 x3).bind (fun y => k 0 [.I y.1, .I y.2.1, .I y.2.2.1, .L y.2.2.2])) ds) ds) ds) ds) ds⟩
theorem q_slices_partitionEqualOrdered_L5 (F : Int → Int → Int → List D → Option (Int × Int × Int × List D)) (x0 : Int) (x1 : Int) (x2 : Int) (x3 : List D) : runLoop (ocOf [e_cmp_Less]) (olOf [m_slices_partitionEqualOrdered_L5 F]) A 88 (codeAt (bodyOf Try.f88) 5) ((m_slices_partitionEqualOrdered_L5 F).sh.mk' [.I x0, .I x1, .I x2, .L x3]) (fun e σ' => some (e, σ')) = c_slices_partitionEqualOrdered_L5 F x0 x1 x2 x3 (fun y => some (.exit 4, SSt.mk' ⟨(.full 1000 [] (.int .i64) :: .int .i64 :: uu 7 (.int .i64 :: .int .i64 :: uu 73 ([]))), [(1000, .own (.int .i64))]⟩ [.I y.1, .I y.2.1, .I y.2.2.1, .L y.2.2.2])) := by kernel_rfl
theorem m_slices_partitionEqualOrdered_L5_ok : ∀ n, (m_slices_partitionEqualOrdered_L5 (n_slices_partitionEqualOrdered_L5 n)).ok Try.prog (codeAt (bodyOf Try.f88) 5) := by
 intro n
 induction n with
 | zero =>
  intro R ds k r h
  unfold m_slices_partitionEqualOrdered_L5 at h
  obtain ⟨x0, d0, rfl, h0⟩ := dI_some h
  obtain ⟨x1, d1, rfl, h1⟩ := dI_some h0
  obtain ⟨x2, d2, rfl, h2⟩ := dI_some h1
  obtain ⟨x3, d3, rfl, h3⟩ := dL_some h2
  obtain ⟨rfl, hE⟩ := dE_some h3
  obtain ⟨y, hy, hk⟩ := bnd_some hE
  cases hy
 | succ n ih =>
  intro R ds k r h
  unfold m_slices_partitionEqualOrdered_L5 at h
  obtain ⟨x0, d0, rfl, h0⟩ := dI_some h
  obtain ⟨x1, d1, rfl, h1⟩ := dI_some h0
  obtain ⟨x2, d2, rfl, h2⟩ := dI_some h1
  obtain ⟨x3, d3, rfl, h3⟩ := dL_some h2
  obtain ⟨rfl, hE⟩ := dE_some h3
  obtain ⟨y, hy, hk⟩ := bnd_some hE
  have hq := q_slices_partitionEqualOrdered_L5 (n_slices_partitionEqualOrdered_L5 n) x0 x1 x2 x3
  rw [c_slices_partitionEqualOrdered_L5_bind] at hq
  rw [show c_slices_partitionEqualOrdered_L5 (n_slices_partitionEqualOrdered_L5 n) x0 x1 x2 x3 some = some y from hy] at hq
  refine ⟨0, _, _, _, hk, rfl, loop_ok px (fx := ⟨Try.func88, by kernel_rfl, by kernel_rfl⟩) (entsOK_cons e_cmp_Less_ok entsOK_nil) (lentsOK_cons ih lentsOK_nil) (by kernel_rfl) ?_⟩
  exact hq
noncomputable def e_slices_partitionEqualOrdered_L5 : Lent := m_slices_partitionEqualOrdered_L5 (slices_partitionEqualOrdered_L5)
theorem e_slices_partitionEqualOrdered_L5_ok : (e_slices_partitionEqualOrdered_L5).ok Try.prog (codeAt (bodyOf Try.f88) 5) := by
 intro R ds k r h
 unfold e_slices_partitionEqualOrdered_L5 m_slices_partitionEqualOrdered_L5 at h
 obtain ⟨x0, d0, rfl, h0⟩ := dI_some h
 obtain ⟨x1, d1, rfl, h1⟩ := dI_some h0
 obtain ⟨x2, d2, rfl, h2⟩ := dI_some h1
 obtain ⟨x3, d3, rfl, h3⟩ := dL_some h2
 obtain ⟨rfl, hE⟩ := dE_some h3
 obtain ⟨y, hy, hk⟩ := bnd_some hE
 obtain ⟨n, hn⟩ := ev_some hy
 exact m_slices_partitionEqualOrdered_L5_ok n R _ k r (show (n_slices_partitionEqualOrdered_L5 n x0 x1 x2 x3).bind _ = _ by rw [hn]; exact hk)

/-!-/
def c_slices_partitionEqualOrdered_L100003 {R : Type} (F : Int → Int → Int → List D → Option (Int × List D)) (x0 : Int) (x1 : Int) (x2 : Int) (x3 : List D) (k : Int × List D → Option R) : Option R :=
 (slices_partitionEqualOrdered_L3 x0 x1 x2 x3).bind (fun y0 =>
 (slices_partitionEqualOrdered_L5 y0.fst y0.snd.fst y0.snd.snd.fst y0.snd.snd.snd).bind (fun y1 =>
 bif decide (y1.snd.snd.fst < y1.snd.fst) then
 k (y1.snd.fst, y1.snd.snd.snd)
 else
 if 0 ≤ y1.snd.snd.fst ∧ y1.snd.snd.fst < (↑y1.snd.snd.snd.length : Int) then
 if y1.snd.snd.fst.toNat + 1 ≤ y1.snd.snd.snd.length then
 if 0 ≤ y1.snd.fst ∧ y1.snd.fst < (↑y1.snd.snd.snd.length : Int) then
 if y1.snd.fst.toNat + 1 ≤ y1.snd.snd.snd.length then
 if 0 ≤ y1.snd.fst ∧ y1.snd.fst < (↑y1.snd.snd.snd.length : Int) then
 if y1.snd.fst.toNat + 1 ≤ y1.snd.snd.snd.length then
 if 0 ≤ y1.snd.snd.fst ∧ y1.snd.snd.fst < (↑(y1.snd.snd.snd.set y1.snd.fst.toNat (D.int (y1.snd.snd.snd.getD y1.snd.snd.fst.toNat (D.int 0)).toInt)).length : Int) then
 if y1.snd.snd.fst.toNat + 1 ≤ (y1.snd.snd.snd.set y1.snd.fst.toNat (D.int (y1.snd.snd.snd.getD y1.snd.snd.fst.toNat (D.int 0)).toInt)).length then
 (F y1.fst (IntKind.i64.wrap (y1.snd.fst + 1)) (IntKind.i64.wrap (y1.snd.snd.fst - 1)) ((y1.snd.snd.snd.set y1.snd.fst.toNat (D.int (y1.snd.snd.snd.getD y1.snd.snd.fst.toNat (D.int 0)).toInt)).set y1.snd.snd.fst.toNat (D.int (y1.snd.snd.snd.getD y1.snd.fst.toNat (D.int 0)).toInt))).bind k
 else
 none
 else
 none
 else
 none
 else
 none
 else
 none
 else
 none
 else
 none
 else
 none))
theorem c_slices_partitionEqualOrdered_L100003_bind {R : Type} (F : Int → Int → Int → List D → Option (Int × List D)) (x0 : Int) (x1 : Int) (x2 : Int) (x3 : List D) (k : Int × List D → Option R) : c_slices_partitionEqualOrdered_L100003 F x0 x1 x2 x3 k = (c_slices_partitionEqualOrdered_L100003 F x0 x1 x2 x3 some).bind k := by
 unfold c_slices_partitionEqualOrdered_L100003
 repeat' first|exact bnd_tail|exact bnd_none|exact bnd_leaf|apply bnd_ite|apply bnd_cond|apply bnd_sum|(apply bnd_bind;intro _)|intro _
def n_slices_partitionEqualOrdered_L100003 : Nat → Int → Int → Int → List D → Option (Int × List D)
 | 0, _, _, _, _ => none
 | n + 1, x0, x1, x2, x3 => c_slices_partitionEqualOrdered_L100003 (n_slices_partitionEqualOrdered_L100003 n) x0 x1 x2 x3 some
noncomputable def slices_partitionEqualOrdered_L100003 (x0 : Int) (x1 : Int) (x2 : Int) (x3 : List D) : Option (Int × List D) := ev (fun n => n_slices_partitionEqualOrdered_L100003 n x0 x1 x2 x3)
def m_slices_partitionEqualOrdered_L100003 (F : Int → Int → Int → List D → Option (Int × List D)) : Lent := ⟨100003, ⟨(.full 1000 [] (.int .i64) :: .int .i64 :: uu 7 (.int .i64 :: .int .i64 :: uu 73 ([]))), [(1000, .own (.int .i64))]⟩, [(.exit 0, ⟨(.full 1000 [] (.int .i64) :: uu 8 (.int .i64 :: uu 74 ([]))), [(1000, .own (.int .i64))]⟩)], fun _ ds k => dI (fun x0 ds => dI (fun x1 ds => dI (fun x2 ds => dL (fun x3 ds => dE ((F x0 x1 x2 x3).bind (fun y => k 0 [.I y.1, .L y.2])) ds) ds) ds) ds) ds⟩
theorem q_slices_partitionEqualOrdered_L100003 (F : Int → Int → Int → List D → Option (Int × List D)) (x0 : Int) (x1 : Int) (x2 : Int) (x3 : List D) : runLoop (ocOf []) (olOf [m_slices_partitionEqualOrdered_L100003 F, e_slices_partitionEqualOrdered_L3, e_slices_partitionEqualOrdered_L5]) A 88 (codeAt (bodyOf Try.f88) 100003) ((m_slices_partitionEqualOrdered_L100003 F).sh.mk' [.I x0, .I x1, .I x2, .L x3]) (fun e σ' => some (e, σ')) = c_slices_partitionEqualOrdered_L100003 F x0 x1 x2 x3 (fun y => some (.exit 0, SSt.mk' ⟨(.full 1000 [] (.int .i64) :: uu 8 (.int .i64 :: uu 74 ([]))), [(1000, .own (.int .i64))]⟩ [.I y.1, .L y.2])) := by kernel_rfl
theorem m_slices_partitionEqualOrdered_L100003_ok : ∀ n, (m_slices_partitionEqualOrdered_L100003 (n_slices_partitionEqualOrdered_L100003 n)).ok Try.prog (codeAt (bodyOf Try.f88) 100003) := by
 intro n
 induction n with
 | zero =>
  intro R ds k r h
  unfold m_slices_partitionEqualOrdered_L100003 at h
  obtain ⟨x0, d0, rfl, h0⟩ := dI_some h
  obtain ⟨x1, d1, rfl, h1⟩ := dI_some h0
  obtain ⟨x2, d2, rfl, h2⟩ := dI_some h1
  obtain ⟨x3, d3, rfl, h3⟩ := dL_some h2
  obtain ⟨rfl, hE⟩ := dE_some h3
  obtain ⟨y, hy, hk⟩ := bnd_some hE
  cases hy
 | succ n ih =>
  intro R ds k r h
  unfold m_slices_partitionEqualOrdered_L100003 at h
  obtain ⟨x0, d0, rfl, h0⟩ := dI_some h
  obtain ⟨x1, d1, rfl, h1⟩ := dI_some h0
  obtain ⟨x2, d2, rfl, h2⟩ := dI_some h1
  obtain ⟨x3, d3, rfl, h3⟩ := dL_some h2
  obtain ⟨rfl, hE⟩ := dE_some h3
  obtain ⟨y, hy, hk⟩ := bnd_some hE
  have hq := q_slices_partitionEqualOrdered_L100003 (n_slices_partitionEqualOrdered_L100003 n) x0 x1 x2 x3
  rw [c_slices_partitionEqualOrdered_L100003_bind] at hq
  rw [show c_slices_partitionEqualOrdered_L100003 (n_slices_partitionEqualOrdered_L100003 n) x0 x1 x2 x3 some = some y from hy] at hq
  refine ⟨0, _, _, _, hk, rfl, loop_ok px (fx := ⟨Try.func88, by kernel_rfl, by kernel_rfl⟩) entsOK_nil (lentsOK_cons ih (lentsOK_cons e_slices_partitionEqualOrdered_L3_ok (lentsOK_cons e_slices_partitionEqualOrdered_L5_ok lentsOK_nil))) (by kernel_rfl) ?_⟩
  exact hq
noncomputable def e_slices_partitionEqualOrdered_L100003 : Lent := m_slices_partitionEqualOrdered_L100003 (slices_partitionEqualOrdered_L100003)
theorem e_slices_partitionEqualOrdered_L100003_ok : (e_slices_partitionEqualOrdered_L100003).ok Try.prog (codeAt (bodyOf Try.f88) 100003) := by
 intro R ds k r h
 unfold e_slices_partitionEqualOrdered_L100003 m_slices_partitionEqualOrdered_L100003 at h
 obtain ⟨x0, d0, rfl, h0⟩ := dI_some h
 obtain ⟨x1, d1, rfl, h1⟩ := dI_some h0
 obtain ⟨x2, d2, rfl, h2⟩ := dI_some h1
 obtain ⟨x3, d3, rfl, h3⟩ := dL_some h2
 obtain ⟨rfl, hE⟩ := dE_some h3
 obtain ⟨y, hy, hk⟩ := bnd_some hE
 obtain ⟨n, hn⟩ := ev_some hy
 exact m_slices_partitionEqualOrdered_L100003_ok n R _ k r (show (n_slices_partitionEqualOrdered_L100003 n x0 x1 x2 x3).bind _ = _ by rw [hn]; exact hk)

/-!-/
def c_slices_partitionEqualOrdered {R : Type} (x0 : List D) (x1 : Int) (x2 : Int) (x3 : Int) (k : Int × List D → Option R) : Option R :=
 if 0 ≤ x3 ∧ x3 < (↑x0.length : Int) then
 if x3.toNat + 1 ≤ x0.length then
 if 0 ≤ x1 ∧ x1 < (↑x0.length : Int) then
 if x1.toNat + 1 ≤ x0.length then
 if 0 ≤ x1 ∧ x1 < (↑x0.length : Int) then
 if x1.toNat + 1 ≤ x0.length then
 if 0 ≤ x3 ∧ x3 < (↑(x0.set x1.toNat (D.int (x0.getD x3.toNat (D.int 0)).toInt)).length : Int) then
 if x3.toNat + 1 ≤ (x0.set x1.toNat (D.int (x0.getD x3.toNat (D.int 0)).toInt)).length then
 (slices_partitionEqualOrdered_L100003 x1 (IntKind.i64.wrap (x1 + 1)) (IntKind.i64.wrap (x2 - 1)) ((x0.set x1.toNat (D.int (x0.getD x3.toNat (D.int 0)).toInt)).set x3.toNat (D.int (x0.getD x1.toNat (D.int 0)).toInt))).bind (fun y0 =>
 k (y0.fst, y0.snd))
 else
 none
 else
 none
 else
 none
 else
 none
 else
 none
 else
 none
 else
 none
 else
 none
theorem c_slices_partitionEqualOrdered_bind {R : Type} (x0 : List D) (x1 : Int) (x2 : Int) (x3 : Int) (k : Int × List D → Option R) : c_slices_partitionEqualOrdered x0 x1 x2 x3 k = (c_slices_partitionEqualOrdered x0 x1 x2 x3 some).bind k := by
 unfold c_slices_partitionEqualOrdered
 repeat' first|exact bnd_tail|exact bnd_none|exact bnd_leaf|apply bnd_ite|apply bnd_cond|apply bnd_sum|(apply bnd_bind;intro _)|intro _
def slices_partitionEqualOrdered (x0 : List D) (x1 : Int) (x2 : Int) (x3 : Int) : Option (Int × List D) := c_slices_partitionEqualOrdered x0 x1 x2 x3 some
def e_slices_partitionEqualOrdered : Ent := ⟨88, [.own (.int .i64), .int .i64, .int .i64, .int .i64], .int .i64, [.own (.int .i64), .undef, .undef, .undef], fun _ ds k => dL (fun x0 ds => dI (fun x1 ds => dI (fun x2 ds => dI (fun x3 ds => dE ((slices_partitionEqualOrdered x0 x1 x2 x3).bind (fun y => k [.I y.1, .L y.2])) ds) ds) ds) ds) ds⟩
theorem q_slices_partitionEqualOrdered (x0 : List D) (x1 : Int) (x2 : Int) (x3 : Int) : runFn (ocOf []) (olOf [e_slices_partitionEqualOrdered_L100003]) A 88 Try.f88 (Sh.mks e_slices_partitionEqualOrdered.sh [.L x0, .I x1, .I x2, .I x3]).1 (fun v os => some (v, os)) = c_slices_partitionEqualOrdered x0 x1 x2 x3 (fun y => some ((e_slices_partitionEqualOrdered.res.mk [.I y.1, .L y.2]).1, (Sh.mks e_slices_partitionEqualOrdered.outs (e_slices_partitionEqualOrdered.res.mk [.I y.1, .L y.2]).2).1)) := by kernel_rfl
theorem e_slices_partitionEqualOrdered_ok : e_slices_partitionEqualOrdered.ok Try.prog A := by
 intro R ds k r h
 unfold e_slices_partitionEqualOrdered at h
 obtain ⟨x0, d0, rfl, h0⟩ := dL_some h
 obtain ⟨x1, d1, rfl, h1⟩ := dI_some h0
 obtain ⟨x2, d2, rfl, h2⟩ := dI_some h1
 obtain ⟨x3, d3, rfl, h3⟩ := dI_some h2
 obtain ⟨rfl, hE⟩ := dE_some h3
 obtain ⟨y, hy, hk⟩ := bnd_some hE
 refine ⟨_, hk, fn_ok px (fx := ⟨Try.func88, by kernel_rfl, by kernel_rfl⟩) entsOK_nil (lentsOK_cons e_slices_partitionEqualOrdered_L100003_ok lentsOK_nil) ?_⟩
 have hq := q_slices_partitionEqualOrdered x0 x1 x2 x3
 rw [c_slices_partitionEqualOrdered_bind] at hq
 rw [show c_slices_partitionEqualOrdered x0 x1 x2 x3 some = some y from hy] at hq
 exact hq

/-!-/
def c_slices_partitionOrdered_L3 {R : Type} (F : Int → Int → Int → List D → Option (Int × Int × Int × List D)) (x0 : Int) (x1 : Int) (x2 : Int) (x3 : List D) (k : Int × Int × Int × List D → Option R) : Option R :=
 bif decide (x1 ≤ x2) then
 if 0 ≤ x1 ∧ x1 < (↑x3.length : Int) then
 if x1.toNat + 1 ≤ x3.length then
 if 0 ≤ x0 ∧ x0 < (↑x3.length : Int) then
 if x0.toNat + 1 ≤ x3.length then
 (cmp_Less ((x3.getD x1.toNat (D.int 0)).toInt) ((x3.getD x0.toNat (D.int 0)).toInt)).bind (fun y0 =>
 bif y0 then
 (F x0 (IntKind.i64.wrap (x1 + 1)) x2 x3).bind k
 else
 k (x0, x1, x2, x3))
 else
 none
 else
 none
 else
 none
 else
 none
 else
 k (x0, x1, x2, x3)
theorem c_slices_partitionOrdered_L3_bind {R : Type} (F : Int → Int → Int → List D → Option (Int × Int × Int × List D)) (x0 : Int) (x1 : Int) (x2 : Int) (x3 : List D) (k : Int × Int × Int × List D → Option R) : c_slices_partitionOrdered_L3 F x0 x1 x2 x3 k = (c_slices_partitionOrdered_L3 F x0 x1 x2 x3 some).bind k := by
 unfold c_slices_partitionOrdered_L3
 repeat' first|exact bnd_tail|exact bnd_none|exact bnd_leaf|apply bnd_ite|apply bnd_cond|apply bnd_sum|(apply bnd_bind;intro _)|intro _
def n_slices_partitionOrdered_L3 : Nat → Int → Int → Int → List D → Option (Int × Int × Int × List D)
 | 0, _, _, _, _ => none
 | n + 1, x0, x1, x2, x3 => c_slices_partitionOrdered_L3 (n_slices_partitionOrdered_L3 n) x0 x1 x2 x3 some
noncomputable def slices_partitionOrdered_L3 (x0 : Int) (x1 : Int) (x2 : Int) (x3 : List D) : Option (Int × Int × Int × List D) := ev (fun n => n_slices_partitionOrdered_L3 n x0 x1 x2 x3)
def m_slices_partitionOrdered_L3 (F : Int → Int → Int → List D → Option (Int × Int × Int × List D)) : Lent := ⟨3, ⟨(.full 1000 [] (.int .i64) :: .int .i64 :: uu 8 (.int .i64 :: .int .i64 :: uu 156 ([]))), [(1000, .own (.int .i64))]⟩, [(.exit 0, ⟨(.full 1000 [] (.int .i64) :: .int .i64 :: uu 8 (.int .i64 :: .int .i64 :: uu 156 ([]))), [(1000, .own (.int .i64))]⟩)], fun _ ds k => dI (fun x0 ds => dI (fun x1 ds => dI (fun x2 ds => dL (fun x3 ds => dE ((F x0 x1 x2 x3).bind (fun y => k 0 [.I y.1, .I y.2.1, .I y.2.2.1, .L y.2.2.2])) ds) ds) ds) ds) ds⟩
theorem q_slices_partitionOrdered_L3 (F : Int → Int → Int → List D → Option (Int × Int × Int × List D)) (x0 : Int) (x1 : Int) (x2 : Int) (x3 : List D) : runLoop (ocOf [e_cmp_Less]) (olOf [m_slices_partitionOrdered_L3 F]) A 89 (codeAt (bodyOf Try.f89) 3) ((m_slices_partitionOrdered_L3 F).sh.mk' [.I x0, .I x1, .I x2, .L x3]) (fun e σ' => some (e, σ')) = c_slices_partitionOrdered_L3 F x0 x1 x2 x3 (fun y => some (.exit 0, SSt.mk' ⟨(.full 1000 [] (.int .i64) :: .int .i64 :: uu 8 (.int .i64 :: .int .i64 :: uu 156 ([]))), [(1000, .own (.int .i64))]⟩ [.I y.1, .I y.2.1, .I y.2.2.1, .L y.2.2.2])) := by kernel_rfl
theorem m_slices_partitionOrdered_L3_ok : ∀ n, (m_slices_partitionOrdered_L3 (n_slices_partitionOrdered_L3 n)).ok Try.prog (codeAt (bodyOf Try.f89) 3) := by
 intro n
 induction n with
 | zero =>
  intro R ds k r h
  unfold m_slices_partitionOrdered_L3 at h
  obtain ⟨x0, d0, rfl, h0⟩ := dI_some h
  obtain ⟨x1, d1, rfl, h1⟩ := dI_some h0
  obtain ⟨x2, d2, rfl, h2⟩ := dI_some h1
  obtain ⟨x3, d3, rfl, h3⟩ := dL_some h2
  obtain ⟨rfl, hE⟩ := dE_some h3
  obtain ⟨y, hy, hk⟩ := bnd_some hE
  cases hy
 | succ n ih =>
  intro R ds k r h
  unfold m_slices_partitionOrdered_L3 at h
  obtain ⟨x0, d0, rfl, h0⟩ := dI_some h
  obtain ⟨x1, d1, rfl, h1⟩ := dI_some h0
  obtain ⟨x2, d2, rfl, h2⟩ := dI_some h1
  obtain ⟨x3, d3, rfl, h3⟩ := dL_some h2
  obtain ⟨rfl, hE⟩ := dE_some h3
  obtain ⟨y, hy, hk⟩ := bnd_some hE
  have hq := q_slices_partitionOrdered_L3 (n_slices_partitionOrdered_L3 n) x0 x1 x2 x3
  rw [c_slices_partitionOrdered_L3_bind] at hq
  rw [show c_slices_partitionOrdered_L3 (n_slices_partitionOrdered_L3 n) x0 x1 x2 x3 some = some y from hy] at hq
  refine ⟨0, _, _, _, hk, rfl, loop_ok px (fx := ⟨Try.func89, by kernel_rfl, by kernel_rfl⟩) (entsOK_cons e_cmp_Less_ok entsOK_nil) (lentsOK_cons ih lentsOK_nil) (by kernel_rfl) ?_⟩
  exact hq
noncomputable def e_slices_partitionOrdered_L3 : Lent := m_slices_partitionOrdered_L3 (slices_partitionOrdered_L3)
theorem e_slices_partitionOrdered_L3_ok : (e_slices_partitionOrdered_L3).ok Try.prog (codeAt (bodyOf Try.f89) 3) := by
 intro R ds k r h
 unfold e_slices_partitionOrdered_L3 m_slices_partitionOrdered_L3 at h
 obtain ⟨x0, d0, rfl, h0⟩ := dI_some h
 obtain ⟨x1, d1, rfl, h1⟩ := dI_some h0
 obtain ⟨x2, d2, rfl, h2⟩ := dI_some h1
 obtain ⟨x3, d3, rfl, h3⟩ := dL_some h2
 obtain ⟨rfl, hE⟩ := dE_some h3
 obtain ⟨y, hy, hk⟩ := bnd_some hE
 obtain ⟨n, hn⟩ := ev_some hy
 exact m_slices_partitionOrdered_L3_ok n R _ k r (show (n_slices_partitionOrdered_L3 n x0 x1 x2 x3).bind _ = _ by rw [hn]; exact hk)

/-!-/
def c_slices_partitionOrdered_L5 {R : Type} (F : Int → Int → Int → List D → Option (Int × Int × Int × List D)) (x0 : Int) (x1 : Int) (x2 : Int) (x3 : List D) (k : Int × Int × Int × List D → Option R) : Option R :=
 bif decide (x1 ≤ x2) then
 if 0 ≤ x2 ∧ x2 < (↑x3.length : Int) then
 if x2.toNat + 1 ≤ x3.length then
 if 0 ≤ x0 ∧ x0 < (↑x3.length : Int) then
 if x0.toNat + 1 ≤ x3.length then
 (cmp_Less ((x3.getD x2.toNat (D.int 0)).toInt) ((x3.getD x0.toNat (D.int 0)).toInt)).bind (fun y0 =>
 bif !y0 then
 (F x0 x1 (IntKind.i64.wrap (x2 - 1)) x3).bind k
 else
 k (x0, x1, x2, x3))
 else
 none
 else
 none
 else
 none
 else
 none
 else
 k (x0, x1, x2, x3)
theorem c_slices_partitionOrdered_L5_bind {R : Type} (F : Int → Int → Int → List D → Option (Int × Int × Int × List D)) (x0 : Int) (x1 : Int) (x2 : Int) (x3 : List D) (k : Int × Int × Int × List D → Option R) : c_slices_partitionOrdered_L5 F x0 x1 x2 x3 k = (c_slices_partitionOrdered_L5 F x0 x1 x2 x3 some).bind k := by
 unfold c_slices_partitionOrdered_L5
 repeat' first|exact bnd_tail|exact bnd_none|exact bnd_leaf|apply bnd_ite|apply bnd_cond|apply bnd_sum|(apply bnd_bind;intro _)|intro _
def n_slices_partitionOrdered_L5 : Nat → Int → Int → Int → List D → Option (Int × Int × Int × List D)
 | 0, _, _, _, _ => none
 | n + 1, x0, x1, x2, x3 => c_slices_partitionOrdered_L5 (n_slices_partitionOrdered_L5 n) x0 x1 x2 x3 some
noncomputable def slices_partitionOrdered_L5 (x0 : Int) (x1 : Int) (x2 : Int) (x3 : List D) : Option (Int × Int × Int × List D) := ev (fun n => n_slices_partitionOrdered_L5 n x0 x1 x2 x3)
def m_slices_partitionOrdered_L5 (F : Int → Int → Int → List D → Option (Int × Int × Int × List D)) : Lent := ⟨5, ⟨(.full 1000 [] (.int .i64) :: .int .i64 :: uu 8 (.int .i64 :: .int .i64 :: uu 156 ([]))), [(1000, .own (.int .i64))]⟩, [(.exit 2, ⟨(.full 1000 [] (.int .i64) :: .int .i64 :: uu 8 (.int .i64 :: .int .i64 :: uu 156 ([]))), [(1000, .own (.int .i64))]⟩)], fun _ ds k => dI (fun x0 ds => dI (fun x1 ds => dI (fun x2 ds => dL (fun x3 ds => dE ((F x0 x1 x2 x3).bind (fun y => k 0 [.I y.1, .I y.2.1, .I y.2.2.1, .L y.2.2.2])) ds) ds) ds) ds) ds⟩
theorem q_slices_partitionOrdered_L5 (F : Int → Int → Int → List D → Option (Int × Int × Int × List D)) (x0 : Int) (x1 : Int) (x2 : Int) (x3 : List D) : runLoop (ocOf [e_cmp_Less]) (olOf [m_slices_partitionOrdered_L5 F]) A 89 (codeAt (bodyOf Try.f89) 5) ((m_slices_partitionOrdered_L5 F).sh.mk' [.I x0, .I x1, .I x2, .L x3]) (fun e σ' => some (e, σ')) = c_slices_partitionOrdered_L5 F x0 x1 x2 x3 (fun y => some (.exit 2, SSt.mk' ⟨(.full 1000 [] (.int .i64) :: .int .i64 :: uu 8 (.int .i64 :: .int .i64 :: uu 156 ([]))), [(1000, .own (.int .i64))]⟩ [.I y.1, .I y.2.1, .I y.2.2.1, .L y.2.2.2])) := by kernel_rfl
theorem m_slices_partitionOrdered_L5_ok : ∀ n, (m_slices_partitionOrdered_L5 (n_slices_partitionOrdered_L5 n)).ok Try.prog (codeAt (bodyOf Try.f89) 5) := by
 intro n
 induction n with
 | zero =>
  intro R ds k r h
  unfold m_slices_partitionOrdered_L5 at h
  obtain ⟨x0, d0, rfl, h0⟩ := dI_some h
  obtain ⟨x1, d1, rfl, h1⟩ := dI_some h0
  obtain ⟨x2, d2, rfl, h2⟩ := dI_some h1
  obtain ⟨x3, d3, rfl, h3⟩ := dL_some h2
  obtain ⟨rfl, hE⟩ := dE_some h3
  obtain ⟨y, hy, hk⟩ := bnd_some hE
  cases hy
 | succ n ih =>
  intro R ds k r h
  unfold m_slices_partitionOrdered_L5 at h
  obtain ⟨x0, d0, rfl, h0⟩ := dI_some h
  obtain ⟨x1, d1, rfl, h1⟩ := dI_some h0
  obtain ⟨x2, d2, rfl, h2⟩ := dI_some h1
  obtain ⟨x3, d3, rfl, h3⟩ := dL_some h2
  obtain ⟨rfl, hE⟩ := dE_some h3
  obtain ⟨y, hy, hk⟩ := bnd_some hE
  have hq := q_slices_partitionOrdered_L5 (n_slices_partitionOrdered_L5 n) x0 x1 x2 x3
  rw [c_slices_partitionOrdered_L5_bind] at hq
  rw [show c_slices_partitionOrdered_L5 (n_slices_partitionOrdered_L5 n) x0 x1 x2 x3 some = some y from hy] at hq
  refine ⟨0, _, _, _, hk, rfl, loop_ok px (fx := ⟨Try.func89, by kernel_rfl, by kernel_rfl⟩) (entsOK_cons e_cmp_Less_ok entsOK_nil) (lentsOK_cons ih lentsOK_nil) (by kernel_rfl) ?_⟩
  exact hq
noncomputable def e_slices_partitionOrdered_L5 : Lent := m_slices_partitionOrdered_L5 (slices_partitionOrdered_L5)
theorem e_slices_partitionOrdered_L5_ok : (e_slices_partitionOrdered_L5).ok Try.prog (codeAt (bodyOf Try.f89) 5) := by
 intro R ds k r h
 unfold e_slices_partitionOrdered_L5 m_slices_partitionOrdered_L5 at h
 obtain ⟨x0, d0, rfl, h0⟩ := dI_some h
 obtain ⟨x1, d1, rfl, h1⟩ := dI_some h0
 obtain ⟨x2, d2, rfl, h2⟩ := dI_some h1
 obtain ⟨x3, d3, rfl, h3⟩ := dL_some h2
 obtain ⟨rfl, hE⟩ := dE_some h3
 obtain ⟨y, hy, hk⟩ := bnd_some hE
 obtain ⟨n, hn⟩ := ev_some hy
 exact m_slices_partitionOrdered_L5_ok n R _ k r (show (n_slices_partitionOrdered_L5 n x0 x1 x2 x3).bind _ = _ by rw [hn]; exact hk)

/-!-/
def c_slices_partitionOrdered_L13 {R : Type} (F : Int → Int → Int → List D → Option (Int × Int × Int × List D)) (x0 : Int) (x1 : Int) (x2 : Int) (x3 : List D) (k : Int × Int × Int × List D → Option R) : Option R :=
 bif decide (x1 ≤ x2) then
 if 0 ≤ x1 ∧ x1 < (↑x3.length : Int) then
 if x1.toNat + 1 ≤ x3.length then
 if 0 ≤ x0 ∧ x0 < (↑x3.length : Int) then
 if x0.toNat + 1 ≤ x3.length then
 (cmp_Less ((x3.getD x1.toNat (D.int 0)).toInt) ((x3.getD x0.toNat (D.int 0)).toInt)).bind (fun y0 =>
 bif y0 then
 (F x0 (IntKind.i64.wrap (x1 + 1)) x2 x3).bind k
 else
 k (x0, x1, x2, x3))
 else
 none
 else
 none
 else
 none
 else
 none
 else
 k (x0, x1, x2, x3)
theorem c_slices_partitionOrdered_L13_bind {R : Type} (F : Int → Int → Int → List D → Option (Int × Int × Int × List D)) (x0 : Int) (x1 : Int) (x2 : Int) (x3 : List D) (k : Int × Int × Int × List D → Option R) : c_slices_partitionOrdered_L13 F x0 x1 x2 x3 k = (c_slices_partitionOrdered_L13 F x0 x1 x2 x3 some).bind k := by
 unfold c_slices_partitionOrdered_L13
 repeat' first|exact bnd_tail|exact bnd_none|exact bnd_leaf|apply bnd_ite|apply bnd_cond|apply bnd_sum|(apply bnd_bind;intro _)|intro _
def n_slices_partitionOrdered_L13 : Nat → Int → Int → Int → List D → Option (Int × Int × Int × List D)
 | 0, _, _, _, _ => none
 | n + 1, x0, x1, x2, x3 => c_slices_partitionOrdered_L13 (n_slices_partitionOrdered_L13 n) x0 x1 x2 x3 some
noncomputable def slices_partitionOrdered_L13 (x0 : Int) (x1 : Int) (x2 : Int) (x3 : List D) : Option (Int × Int × Int × List D) := ev (fun n => n_slices_partitionOrdered_L13 n x0 x1 x2 x3)
def m_slices_partitionOrdered_L13 (F : Int → Int → Int → List D → Option (Int × Int × Int × List D)) : Lent := ⟨13, ⟨(.full 1000 [] (.int .i64) :: .int .i64 :: uu 8 (.int .i64 :: .int .i64 :: uu 156 ([]))), [(1000, .own (.int .i64))]⟩, [(.exit 6, ⟨(.full 1000 [] (.int .i64) :: .int .i64 :: uu 8 (.int .i64 :: .int .i64 :: uu 156 ([]))), [(1000, .own (.int .i64))]⟩)], fun _ ds k => dI (fun x0 ds => dI (fun x1 ds => dI (fun x2 ds => dL (fun x3 ds => dE ((F x0 x1 x2 x3).bind (fun y => k 0 [.I y.1, .I y.2.1, .I y.2.2.1, .L y.2.2.2])) ds) ds) ds) ds) ds⟩
theorem q_slices_partitionOrdered_L13 (F : Int → Int → Int → List D → Option (Int × Int × Int × List D)) (x0 : Int) (x1 : Int) (x2 : Int) (x3 : List D) : runLoop (ocOf [e_cmp_Less]) (olOf [m_slices_partitionOrdered_L13 F]) A 89 (codeAt (bodyOf Try.f89) 13) ((m_slices_partitionOrdered_L13 F).sh.mk' [.I x0, .I x1, .I x2, .L x3]) (fun e σ' => some (e, σ')) = c_slices_partitionOrdered_L13 F x0 x1 x2 x3 (fun y => some (.exit 6, SSt.mk' ⟨(.full 1000 [] (.int .i64) :: .int .i64 :: uu 8 (.int .i64 :: .int .i64 :: uu 156 ([]))), [(1000, .own (.int .i64))]⟩ [.I y.1, .I y.2.1, .I y.2.2.1, .L y.2.2.2])) := by kernel_rfl
theorem m_slices_partitionOrdered_L13_ok : ∀ n, (m_slices_partitionOrdered_L13 (n_slices_partitionOrdered_L13 n)).ok Try.prog (codeAt (bodyOf Try.f89) 13) := by
 intro n
 induction n with
 | zero =>
  intro R ds k r h
  unfold m_slices_partitionOrdered_L13 at h
  obtain ⟨x0, d0, rfl, h0⟩ := dI_some h
  obtain ⟨x1, d1, rfl, h1⟩ := dI_some h0
  obtain ⟨x2, d2, rfl, h2⟩ := dI_some h1
  obtain ⟨x3, d3, rfl, h3⟩ := dL_some h2
  obtain ⟨rfl, hE⟩ := dE_some h3
  obtain ⟨y, hy, hk⟩ := bnd_some hE
  cases hy
 | succ n ih =>
  intro R ds k r h
  unfold m_slices_partitionOrdered_L13 at h
  obtain ⟨x0, d0, rfl, h0⟩ := dI_some h
  obtain ⟨x1, d1, rfl, h1⟩ := dI_some h0
  obtain ⟨x2, d2, rfl, h2⟩ := dI_some h1
  obtain ⟨x3, d3, rfl, h3⟩ := dL_some h2
  obtain ⟨rfl, hE⟩ := dE_some h3
  obtain ⟨y, hy, hk⟩ := bnd_some hE
  have hq := q_slices_partitionOrdered_L13 (n_slices_partitionOrdered_L13 n) x0 x1 x2 x3
  rw [c_slices_partitionOrdered_L13_bind] at hq
  rw [show c_slices_partitionOrdered_L13 (n_slices_partitionOrdered_L13 n) x0 x1 x2 x3 some = some y from hy] at hq
  refine ⟨0, _, _, _, hk, rfl, loop_ok px (fx := ⟨Try.func89, by kernel_rfl, by kernel_rfl⟩) (entsOK_cons e_cmp_Less_ok entsOK_nil) (lentsOK_cons ih lentsOK_nil) (by kernel_rfl) ?_⟩
  exact hq
noncomputable def e_slices_partitionOrdered_L13 : Lent := m_slices_partitionOrdered_L13 (slices_partitionOrdered_L13)
theorem e_slices_partitionOrdered_L13_ok : (e_slices_partitionOrdered_L13).ok Try.prog (codeAt (bodyOf Try.f89) 13) := by
 intro R ds k r h
 unfold e_slices_partitionOrdered_L13 m_slices_partitionOrdered_L13 at h
 obtain ⟨x0, d0, rfl, h0⟩ := dI_some h
 obtain ⟨x1, d1, rfl, h1⟩ := dI_some h0
 obtain ⟨x2, d2, rfl, h2⟩ := dI_some h1
 obtain ⟨x3, d3, rfl, h3⟩ := dL_some h2
 obtain ⟨rfl, hE⟩ := dE_some h3
 obtain ⟨y, hy, hk⟩ := bnd_some hE
 obtain ⟨n, hn⟩ := ev_some hy
 exact m_slices_partitionOrdered_L13_ok n R _ k r (show (n_slices_partitionOrdered_L13 n x0 x1 x2 x3).bind _ = _ by rw [hn]; exact hk)

/-!-/
def c_slices_partitionOrdered_L15 {R : Type} (F : Int → Int → Int → List D → Option (Int × Int × Int × List D)) (x0 : Int) (x1 : Int) (x2 : Int) (x3 : List D) (k : Int × Int × Int × List D → Option R) : Option R :=
 bif decide (x1 ≤ x2) then
 if 0 ≤ x2 ∧ x2 < (↑x3.length : Int) then
 if x2.toNat + 1 ≤ x3.length then
 if 0 ≤ x0 ∧ x0 < (↑x3.length : Int) then
 if x0.toNat + 1 ≤ x3.length then
 (cmp_Less ((x3.getD x2.toNat (D.int 0)).toInt) ((x3.getD x0.toNat (D.int 0)).toInt)).bind (fun y0 =>
 bif !y0 then
 (F x0 x1 (IntKind.i64.wrap (x2 - 1)) x3).bind k
 else
 k (x0, x1, x2, x3))
 else
 none
 else
 none
 else
 none
 else
 none
 else
 k (x0, x1, x2, x3)
theorem c_slices_partitionOrdered_L15_bind {R : Type} (F : Int → Int → Int → List D → Option (Int × Int × Int × List D)) (x0 : Int) (x1 : Int) (x2 : Int) (x3 : List D) (k : Int × Int × Int × List D → Option R) : c_slices_partitionOrdered_L15 F x0 x1 x2 x3 k = (c_slices_partitionOrdered_L15 F x0 x1 x2 x3 some).bind k := by
 unfold c_slices_partitionOrdered_L15
 repeat' first|exact bnd_tail|exact bnd_none|exact bnd_leaf|apply bnd_ite|apply bnd_cond|apply bnd_sum|(apply bnd_bind;intro _)|intro _
def n_slices_partitionOrdered_L15 : Nat → Int → Int → Int → List D → Option (Int × Int × Int × List D)
 | 0, _, _, _, _ => none
 | n + 1, x0, x1, x2, x3 => c_slices_partitionOrdered_L15 (n_slices_partitionOrdered_L15 n) x0 x1 x2 x3 some
noncomputable def slices_partitionOrdered_L15 (x0 : Int) (x1 : Int) (x2 : Int) (x3 : List D) : Option (Int × Int × Int × List D) := ev (fun n => n_slices_partitionOrdered_L15 n x0 x1 x2 x3)
def m_slices_partitionOrdered_L15 (F : Int → Int → Int → List D → Option (Int × Int × Int × List D)) : Lent := ⟨15, ⟨(.full 1000 [] (.int .i64) :: .int .i64 :: uu 8 (.int .i64 :: .int .i64 :: uu 156 ([]))), [(1000, .own (.int .i64))]⟩, [(.exit 8, ⟨(.full 1000 [] (.int .i64) :: .int .i64 :: uu 8 (.int .i64 :: .int .i64 :: uu 156 ([]))), [(1000, .own (.int .i64))]⟩)], fun _ ds k => dI (fun x0 ds => dI (fun x1 ds => dI (fun x2 ds => dL (fun x3 ds => dE ((F x0 x1 x2 x3).bind (fun y => k 0 [.I y.1, .I y.2.1, .I y.2.2.1, .L y.2.2.2])) ds) ds) ds) ds) ds⟩
theorem q_slices_partitionOrdered_L15 (F : Int → Int → Int → List D → Option (Int × Int × Int × List D)) (x0 : Int) (x1 : Int) (x2 : Int) (x3 : List D) : runLoop (ocOf [e_cmp_Less]) (olOf [m_slices_partitionOrdered_L15 F]) A 89 (codeAt (bodyOf Try.f89) 15) ((m_slices_partitionOrdered_L15 F).sh.mk' [.I x0, .I x1, .I x2, .L x3]) (fun e σ' => some (e, σ')) = c_slices_partitionOrdered_L15 F x0 x1 x2 x3 (fun y => some (.exit 8, SSt.mk' ⟨(.full 1000 [] (.int .i64) :: .int .i64 :: uu 8 (.int .i64 :: .int .i64 :: uu 156 ([]))), [(1000, .own (.int .i64))]⟩ [.I y.1, .I y.2.1, .I y.2.2.1, .L y.2.2.2])) := by kernel_rfl
theorem m_slices_partitionOrdered_L15_ok : ∀ n, (m_slices_partitionOrdered_L15 (n_slices_partitionOrdered_L15 n)).ok Try.prog (codeAt (bodyOf Try.f89) 15) := by
 intro n
 induction n with
 | zero =>
  intro R ds k r h
  unfold m_slices_partitionOrdered_L15 at h
  obtain ⟨x0, d0, rfl, h0⟩ := dI_some h
  obtain ⟨x1, d1, rfl, h1⟩ := dI_some h0
  obtain ⟨x2, d2, rfl, h2⟩ := dI_some h1
  obtain ⟨x3, d3, rfl, h3⟩ := dL_some h2
  obtain ⟨rfl, hE⟩ := dE_some h3
  obtain ⟨y, hy, hk⟩ := bnd_some hE
  cases hy
 | succ n ih =>
  intro R ds k r h
  unfold m_slices_partitionOrdered_L15 at h
  obtain ⟨x0, d0, rfl, h0⟩ := dI_some h
  obtain ⟨x1, d1, rfl, h1⟩ := dI_some h0
  obtain ⟨x2, d2, rfl, h2⟩ := dI_some h1
  obtain ⟨x3, d3, rfl, h3⟩ := dL_some h2
  obtain ⟨rfl, hE⟩ := dE_some h3
  obtain ⟨y, hy, hk⟩ := bnd_some hE
  have hq := q_slices_partitionOrdered_L15 (n_slices_partitionOrdered_L15 n) x0 x1 x2 x3
  rw [c_slices_partitionOrdered_L15_bind] at hq
  rw [show c_slices_partitionOrdered_L15 (n_slices_partitionOrdered_L15 n) x0 x1 x2 x3 some = some y from hy] at hq
  refine ⟨0, _, _, _, hk, rfl, loop_ok px (fx := ⟨Try.func89, by kernel_rfl, by kernel_rfl⟩) (entsOK_cons e_cmp_Less_ok entsOK_nil) (lentsOK_cons ih lentsOK_nil) (by kernel_rfl) ?_⟩
  exact hq
noncomputable def e_slices_partitionOrdered_L15 : Lent := m_slices_partitionOrdered_L15 (slices_partitionOrdered_L15)
theorem e_slices_partitionOrdered_L15_ok : (e_slices_partitionOrdered_L15).ok Try.prog (codeAt (bodyOf Try.f89) 15) := by
 intro R ds k r h
 unfold e_slices_partitionOrdered_L15 m_slices_partitionOrdered_L15 at h
 obtain ⟨x0, d0, rfl, h0⟩ := dI_some h
 obtain ⟨x1, d1, rfl, h1⟩ := dI_some h0
 obtain ⟨x2, d2, rfl, h2⟩ := dI_some h1
 obtain ⟨x3, d3, rfl, h3⟩ := dL_some h2
 obtain ⟨rfl, hE⟩ := dE_some h3
 obtain ⟨y, hy, hk⟩ := bnd_some hE
 obtain ⟨n, hn⟩ := ev_some hy
 exact m_slices_partitionOrdered_L15_ok n R _ k r (show (n_slices_partitionOrdered_L15 n x0 x1 x2 x3).bind _ = _ by rw [hn]; exact hk)

/-!-/
def c_slices_partitionOrdered_L100013 {R : Type} (F : Int → Int → Int → List D → Option (Int × Int × List D)) (x0 : Int) (x1 : Int) (x2 : Int) (x3 : List D) (k : Int × Int × List D → Option R) : Option R :=
 (slices_partitionOrdered_L13 x0 x1 x2 x3).bind (fun y0 =>
 (slices_partitionOrdered_L15 y0.fst y0.snd.fst y0.snd.snd.fst y0.snd.snd.snd).bind (fun y1 =>
 bif decide (y1.snd.snd.fst < y1.snd.fst) then
 k (y1.fst, y1.snd.snd.fst, y1.snd.snd.snd)
 else
 if 0 ≤ y1.snd.snd.fst ∧ y1.snd.snd.fst < (↑y1.snd.snd.snd.length : Int) then
 if y1.snd.snd.fst.toNat + 1 ≤ y1.snd.snd.snd.length then
 if 0 ≤ y1.snd.fst ∧ y1.snd.fst < (↑y1.snd.snd.snd.length : Int) then
 if y1.snd.fst.toNat + 1 ≤ y1.snd.snd.snd.length then
 if 0 ≤ y1.snd.fst ∧ y1.snd.fst < (↑y1.snd.snd.snd.length : Int) then
 if y1.snd.fst.toNat + 1 ≤ y1.snd.snd.snd.length then
 if 0 ≤ y1.snd.snd.fst ∧ y1.snd.snd.fst < (↑(y1.snd.snd.snd.set y1.snd.fst.toNat (D.int (y1.snd.snd.snd.getD y1.snd.snd.fst.toNat (D.int 0)).toInt)).length : Int) then
 if y1.snd.snd.fst.toNat + 1 ≤ (y1.snd.snd.snd.set y1.snd.fst.toNat (D.int (y1.snd.snd.snd.getD y1.snd.snd.fst.toNat (D.int 0)).toInt)).length then
 (F y1.fst (IntKind.i64.wrap (y1.snd.fst + 1)) (IntKind.i64.wrap (y1.snd.snd.fst - 1)) ((y1.snd.snd.snd.set y1.snd.fst.toNat (D.int (y1.snd.snd.snd.getD y1.snd.snd.fst.toNat (D.int 0)).toInt)).set y1.snd.snd.fst.toNat (D.int (y1.snd.snd.snd.getD y1.snd.fst.toNat (D.int 0)).toInt))).bind k
 else
 none
 else
 none
 else
 none
 else
 none
 else
 none
 else
 none
 else
 none
 else
 none))
theorem c_slices_partitionOrdered_L100013_bind {R : Type} (F : Int → Int → Int → List D → Option (Int × Int × List D)) (x0 : Int) (x1 : Int) (x2 : Int) (x3 : List D) (k : Int × Int × List D → Option R) : c_slices_partitionOrdered_L100013 F x0 x1 x2 x3 k = (c_slices_partitionOrdered_L100013 F x0 x1 x2 x3 some).bind k := by
 unfold c_slices_partitionOrdered_L100013
 repeat' first|exact bnd_tail|exact bnd_none|exact bnd_leaf|apply bnd_ite|apply bnd_cond|apply bnd_sum|(apply bnd_bind;intro _)|intro _
def n_slices_partitionOrdered_L100013 : Nat → Int → Int → Int → List D → Option (Int × Int × List D)
 | 0, _, _, _, _ => none
 | n + 1, x0, x1, x2, x3 => c_slices_partitionOrdered_L100013 (n_slices_partitionOrdered_L100013 n) x0 x1 x2 x3 some
noncomputable def slices_partitionOrdered_L100013 (x0 : Int) (x1 : Int) (x2 : Int) (x3 : List D) : Option (Int × Int × List D) := ev (fun n => n_slices_partitionOrdered_L100013 n x0 x1 x2 x3)
def m_slices_partitionOrdered_L100013 (F : Int → Int → Int → List D → Option (Int × Int × List D)) : Lent := ⟨100013, ⟨(.full 1000 [] (.int .i64) :: .int .i64 :: uu 8 (.int .i64 :: .int .i64 :: uu 156 ([]))), [(1000, .own (.int .i64))]⟩, [(.exit 4, ⟨(.full 1000 [] (.int .i64) :: .int .i64 :: uu 9 (.int .i64 :: uu 156 ([]))), [(1000, .own (.int .i64))]⟩)], fun _ ds k => dI (fun x0 ds => dI (fun x1 ds => dI (fun x2 ds => dL (fun x3 ds => dE ((F x0 x1 x2 x3).bind (fun y => k 0 [.I y.1, .I y.2.1, .L y.2.2])) ds) ds) ds) ds) ds⟩
theorem q_slices_partitionOrdered_L100013 (F : Int → Int → Int → List D → Option (Int × Int × List D)) (x0 : Int) (x1 : Int) (x2 : Int) (x3 : List D) : runLoop (ocOf []) (olOf [m_slices_partitionOrdered_L100013 F, e_slices_partitionOrdered_L13, e_slices_partitionOrdered_L15]) A 89 (codeAt (bodyOf Try.f89) 100013) ((m_slices_partitionOrdered_L100013 F).sh.mk' [.I x0, .I x1, .I x2, .L x3]) (fun e σ' => some (e, σ')) = c_slices_partitionOrdered_L100013 F x0 x1 x2 x3 (fun y => some (.exit 4, SSt.mk' ⟨(.full 1000 [] (.int .i64) :: .int .i64 :: uu 9 (.int .i64 :: uu 156 ([]))), [(1000, .own (.int .i64))]⟩ [.I y.1, .I y.2.1, .L y.2.2])) := by kernel_rfl
theorem m_slices_partitionOrdered_L100013_ok : ∀ n, (m_slices_partitionOrdered_L100013 (n_slices_partitionOrdered_L100013 n)).ok Try.prog (codeAt (bodyOf Try.f89) 100013) := by
 intro n
 induction n with
 | zero =>
  intro R ds k r h
  unfold m_slices_partitionOrdered_L100013 at h
  obtain ⟨x0, d0, rfl, h0⟩ := dI_some h
  obtain ⟨x1, d1, rfl, h1⟩ := dI_some h0
  obtain ⟨x2, d2, rfl, h2⟩ := dI_some h1
  obtain ⟨x3, d3, rfl, h3⟩ := dL_some h2
  obtain ⟨rfl, hE⟩ := dE_some h3
  obtain ⟨y, hy, hk⟩ := bnd_some hE
  cases hy
 | succ n ih =>
  intro R ds k r h
  unfold m_slices_partitionOrdered_L100013 at h
  obtain ⟨x0, d0, rfl, h0⟩ := dI_some h
  obtain ⟨x1, d1, rfl, h1⟩ := dI_some h0
  obtain ⟨x2, d2, rfl, h2⟩ := dI_some h1
  obtain ⟨x3, d3, rfl, h3⟩ := dL_some h2
  obtain ⟨rfl, hE⟩ := dE_some h3
  obtain ⟨y, hy, hk⟩ := bnd_some hE
  have hq := q_slices_partitionOrdered_L100013 (n_slices_partitionOrdered_L100013 n) x0 x1 x2 x3
  rw [c_slices_partitionOrdered_L100013_bind] at hq
  rw [show c_slices_partitionOrdered_L100013 (n_slices_partitionOrdered_L100013 n) x0 x1 x2 x3 some = some y from hy] at hq
  refine ⟨0, _, _, _, hk, rfl, loop_ok px (fx := ⟨Try.func89, by kernel_rfl, by kernel_rfl⟩) entsOK_nil (lentsOK_cons ih (lentsOK_cons e_slices_partitionOrdered_L13_ok (lentsOK_cons e_slices_partitionOrdered_L15_ok lentsOK_nil))) (by kernel_rfl) ?_⟩
  exact hq
noncomputable def e_slices_partitionOrdered_L100013 : Lent := m_slices_partitionOrdered_L100013 (slices_partitionOrdered_L100013)
theorem e_slices_partitionOrdered_L100013_ok : (e_slices_partitionOrdered_L100013).ok Try.prog (codeAt (bodyOf Try.f89) 100013) := by
 intro R ds k r h
 unfold e_slices_partitionOrdered_L100013 m_slices_partitionOrdered_L100013 at h
 obtain ⟨x0, d0, rfl, h0⟩ := dI_some h
 obtain ⟨x1, d1, rfl, h1⟩ := dI_some h0
 obtain ⟨x2, d2, rfl, h2⟩ := dI_some h1
 obtain ⟨x3, d3, rfl, h3⟩ := dL_some h2
 obtain ⟨rfl, hE⟩ := dE_some h3
 obtain ⟨y, hy, hk⟩ := bnd_some hE
 obtain ⟨n, hn⟩ := ev_some hy
 exact m_slices_partitionOrdered_L100013_ok n R _ k r (show (n_slices_partitionOrdered_L100013 n x0 x1 x2 x3).bind _ = _ by rw [hn]; exact hk)

end
end Go.Proofs.Ytinhphmajfiepaa
