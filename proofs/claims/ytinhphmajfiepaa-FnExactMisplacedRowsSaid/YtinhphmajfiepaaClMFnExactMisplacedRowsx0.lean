/- Models of Go functions and their contracts, printed by a program of this session. -/
import Derived.Test.YtinhphmajfiepaaClA
set_option linter.unusedVariables false
set_option maxRecDepth 100000
namespace Go.Proofs.Ytinhphmajfiepaa
open Go Go.Rai
noncomputable section
def bytes_0 : ByteArray := { data := (([(0 : UInt8), (1 : UInt8), (2 : UInt8), (2 : UInt8), (3 : UInt8), (3 : UInt8), (3 : UInt8), (3 : UInt8), (4 : UInt8), (4 : UInt8), (4 : UInt8), (4 : UInt8), (4 : UInt8), (4 : UInt8), (4 : UInt8), (4 : UInt8), (5 : UInt8), (5 : UInt8), (5 : UInt8), (5 : UInt8), (5 : UInt8), (5 : UInt8), (5 : UInt8), (5 : UInt8), (5 : UInt8), (5 : UInt8), (5 : UInt8), (5 : UInt8), (5 : UInt8), (5 : UInt8), (5 : UInt8), (5 : UInt8), (6 : UInt8), (6 : UInt8), (6 : UInt8), (6 : UInt8), (6 : UInt8), (6 : UInt8), (6 : UInt8), (6 : UInt8), (6 : UInt8), (6 : UInt8), (6 : UInt8), (6 : UInt8), (6 : UInt8), (6 : UInt8), (6 : UInt8), (6 : UInt8), (6 : UInt8), (6 : UInt8), (6 : UInt8), (6 : UInt8), (6 : UInt8), (6 : UInt8), (6 : UInt8), (6 : UInt8), (6 : UInt8), (6 : UInt8), (6 : UInt8), (6 : UInt8), (6 : UInt8), (6 : UInt8), (6 : UInt8), (6 : UInt8)].append [(7 : UInt8), (7 : UInt8), (7 : UInt8), (7 : UInt8), (7 : UInt8), (7 : UInt8), (7 : UInt8), (7 : UInt8), (7 : UInt8), (7 : UInt8), (7 : UInt8), (7 : UInt8), (7 : UInt8), (7 : UInt8), (7 : UInt8), (7 : UInt8), (7 : UInt8), (7 : UInt8), (7 : UInt8), (7 : UInt8), (7 : UInt8), (7 : UInt8), (7 : UInt8), (7 : UInt8), (7 : UInt8), (7 : UInt8), (7 : UInt8), (7 : UInt8), (7 : UInt8), (7 : UInt8), (7 : UInt8), (7 : UInt8), (7 : UInt8), (7 : UInt8), (7 : UInt8), (7 : UInt8), (7 : UInt8), (7 : UInt8), (7 : UInt8), (7 : UInt8), (7 : UInt8), (7 : UInt8), (7 : UInt8), (7 : UInt8), (7 : UInt8), (7 : UInt8), (7 : UInt8), (7 : UInt8), (7 : UInt8), (7 : UInt8), (7 : UInt8), (7 : UInt8), (7 : UInt8), (7 : UInt8), (7 : UInt8), (7 : UInt8), (7 : UInt8), (7 : UInt8), (7 : UInt8), (7 : UInt8), (7 : UInt8), (7 : UInt8), (7 : UInt8), (7 : UInt8)]).append ([(8 : UInt8), (8 : UInt8), (8 : UInt8), (8 : UInt8), (8 : UInt8), (8 : UInt8), (8 : UInt8), (8 : UInt8), (8 : UInt8), (8 : UInt8), (8 : UInt8), (8 : UInt8), (8 : UInt8), (8 : UInt8), (8 : UInt8), (8 : UInt8), (8 : UInt8), (8 : UInt8), (8 : UInt8), (8 : UInt8), (8 : UInt8), (8 : UInt8), (8 : UInt8), (8 : UInt8), (8 : UInt8), (8 : UInt8), (8 : UInt8), (8 : UInt8), (8 : UInt8), (8 : UInt8), (8 : UInt8), (8 : UInt8), (8 : UInt8), (8 : UInt8), (8 : UInt8), (8 : UInt8), (8 : UInt8), (8 : UInt8), (8 : UInt8), (8 : UInt8), (8 : UInt8), (8 : UInt8), (8 : UInt8), (8 : UInt8), (8 : UInt8), (8 : UInt8), (8 : UInt8), (8 : UInt8), (8 : UInt8), (8 : UInt8), (8 : UInt8), (8 : UInt8), (8 : UInt8), (8 : UInt8), (8 : UInt8), (8 : UInt8), (8 : UInt8), (8 : UInt8), (8 : UInt8), (8 : UInt8), (8 : UInt8), (8 : UInt8), (8 : UInt8), (8 : UInt8)].append [(8 : UInt8), (8 : UInt8), (8 : UInt8), (8 : UInt8), (8 : UInt8), (8 : UInt8), (8 : UInt8), (8 : UInt8), (8 : UInt8), (8 : UInt8), (8 : UInt8), (8 : UInt8), (8 : UInt8), (8 : UInt8), (8 : UInt8), (8 : UInt8), (8 : UInt8), (8 : UInt8), (8 : UInt8), (8 : UInt8), (8 : UInt8), (8 : UInt8), (8 : UInt8), (8 : UInt8), (8 : UInt8), (8 : UInt8), (8 : UInt8), (8 : UInt8), (8 : UInt8), (8 : UInt8), (8 : UInt8), (8 : UInt8), (8 : UInt8), (8 : UInt8), (8 : UInt8), (8 : UInt8), (8 : UInt8), (8 : UInt8), (8 : UInt8), (8 : UInt8), (8 : UInt8), (8 : UInt8), (8 : UInt8), (8 : UInt8), (8 : UInt8), (8 : UInt8), (8 : UInt8), (8 : UInt8), (8 : UInt8), (8 : UInt8), (8 : UInt8), (8 : UInt8), (8 : UInt8), (8 : UInt8), (8 : UInt8), (8 : UInt8), (8 : UInt8), (8 : UInt8), (8 : UInt8), (8 : UInt8), (8 : UInt8), (8 : UInt8), (8 : UInt8), (8 : UInt8)])).toArray }
/-!-/
def c_Z0 {R : Type} (x0 : List D) (x1 : Int) (k : Int → Option R) : Option R :=
 bif decide (IntKind.i64.wrap (x1 - (↑x0.length : Int)) < (0 : Int)) then
 k (-1 : Int)
 else
 k (IntKind.i64.wrap (x1 - (↑x0.length : Int)))
theorem c_Z0_bind {R : Type} (x0 : List D) (x1 : Int) (k : Int → Option R) : c_Z0 x0 x1 k = (c_Z0 x0 x1 some).bind k := by
 unfold c_Z0
 repeat' first|exact bnd_tail|exact bnd_none|exact bnd_leaf|apply bnd_ite|apply bnd_cond|apply bnd_sum|(apply bnd_bind;intro _)|intro _
def Z0 (x0 : List D) (x1 : Int) : Option (Int) := c_Z0 x0 x1 some
def e_Z0 : Ent := ⟨66, [.rd (.int .i64), .int .i64], .int .i64, [.undef, .undef], fun _ ds k => dL (fun x0 ds => dI (fun x1 ds => dE ((Z0 x0 x1).bind (fun y => k [.I y])) ds) ds) ds⟩
theorem q_Z0 (x0 : List D) (x1 : Int) : runFn (ocOf []) (olOf []) A 66 Try.f66 (Sh.mks e_Z0.sh [.L x0, .I x1]).1 (fun v os => some (v, os)) = c_Z0 x0 x1 (fun y => some ((e_Z0.res.mk [.I y]).1, (Sh.mks e_Z0.outs (e_Z0.res.mk [.I y]).2).1)) := by kernel_rfl
theorem e_Z0_ok : e_Z0.ok Try.prog A := by
 intro R ds k r h
 unfold e_Z0 at h
 obtain ⟨x0, d0, rfl, h0⟩ := dL_some h
 obtain ⟨x1, d1, rfl, h1⟩ := dI_some h0
 obtain ⟨rfl, hE⟩ := dE_some h1
 obtain ⟨y, hy, hk⟩ := bnd_some hE
 refine ⟨_, hk, fn_ok px (fx := ⟨Try.func66, by kernel_rfl, by kernel_rfl⟩) entsOK_nil lentsOK_nil ?_⟩
 have hq := q_Z0 x0 x1
 rw [c_Z0_bind] at hq
 rw [show c_Z0 x0 x1 some = some y from hy] at hq
 exact hq

/-!-/
def c_Z1 {R : Type} (F : List D → Int → Int → Option ((Int × Int) ⊕ (Int))) (x0 : List D) (x1 : Int) (x2 : Int) (k : (Int × Int) ⊕ (Int) → Option R) : Option R :=
 bif decide (x2 < (↑x0.length : Int)) then
 if 0 ≤ x2 ∧ x2 < (↑x0.length : Int) then
 (Z0 ((x0.getD x2.toNat (D.int 0)).items) x1).bind (fun y0 =>
 bif decide (y0 < (0 : Int)) then
 k (.inl (y0, (-1 : Int)))
 else
 (F x0 y0 (IntKind.i64.wrap (x2 + 1))).bind k)
 else
 none
 else
 k (.inr x1)
theorem c_Z1_bind {R : Type} (F : List D → Int → Int → Option ((Int × Int) ⊕ (Int))) (x0 : List D) (x1 : Int) (x2 : Int) (k : (Int × Int) ⊕ (Int) → Option R) : c_Z1 F x0 x1 x2 k = (c_Z1 F x0 x1 x2 some).bind k := by
 unfold c_Z1
 repeat' first|exact bnd_tail|exact bnd_none|exact bnd_leaf|apply bnd_ite|apply bnd_cond|apply bnd_sum|(apply bnd_bind;intro _)|intro _
def n_Z1 : Nat → List D → Int → Int → Option ((Int × Int) ⊕ (Int))
 | 0, _, _, _ => none
 | n + 1, x0, x1, x2 => c_Z1 (n_Z1 n) x0 x1 x2 some
noncomputable def Z1 (x0 : List D) (x1 : Int) (x2 : Int) : Option ((Int × Int) ⊕ (Int)) := ev (fun n => n_Z1 n x0 x1 x2)
def m_Z1 (F : List D → Int → Int → Option ((Int × Int) ⊕ (Int))) : Lent := ⟨5, ⟨(.rd (.slice (.int .i64)) :: .int .i64 :: .undef :: .undef :: .undef :: .int .i64 :: uu 21 ([])), []⟩, [(.ret, ⟨(.undef :: .int .i64 :: .undef :: .undef :: .int .i64 :: uu 22 ([])), []⟩), (.exit 0, ⟨(.undef :: .int .i64 :: uu 25 ([])), []⟩)], fun _ ds k => dL (fun x0 ds => dI (fun x1 ds => dI (fun x2 ds => dE ((F x0 x1 x2).bind (Sum.elim (fun y => k 0 [.I y.1, .I y.2]) (fun y => k 1 [.I y]))) ds) ds) ds) ds⟩
theorem q_Z1 (F : List D → Int → Int → Option ((Int × Int) ⊕ (Int))) (x0 : List D) (x1 : Int) (x2 : Int) : runLoop (ocOf [e_Z0]) (olOf [m_Z1 F]) A 38 (codeAt (bodyOf Try.f38) 5) ((m_Z1 F).sh.mk' [.L x0, .I x1, .I x2]) (fun e σ' => some (e, σ')) = c_Z1 F x0 x1 x2 (Sum.elim (fun y => some (.ret, SSt.mk' ⟨(.undef :: .int .i64 :: .undef :: .undef :: .int .i64 :: uu 22 ([])), []⟩ [.I y.1, .I y.2])) (fun y => some (.exit 0, SSt.mk' ⟨(.undef :: .int .i64 :: uu 25 ([])), []⟩ [.I y]))) := by kernel_rfl
theorem m_Z1_ok : ∀ n, (m_Z1 (n_Z1 n)).ok Try.prog (codeAt (bodyOf Try.f38) 5) := by
 intro n
 induction n with
 | zero =>
  intro R ds k r h
  unfold m_Z1 at h
  obtain ⟨x0, d0, rfl, h0⟩ := dL_some h
  obtain ⟨x1, d1, rfl, h1⟩ := dI_some h0
  obtain ⟨x2, d2, rfl, h2⟩ := dI_some h1
  obtain ⟨rfl, hE⟩ := dE_some h2
  obtain ⟨y, hy, hk⟩ := bnd_some hE
  cases hy
 | succ n ih =>
  intro R ds k r h
  unfold m_Z1 at h
  obtain ⟨x0, d0, rfl, h0⟩ := dL_some h
  obtain ⟨x1, d1, rfl, h1⟩ := dI_some h0
  obtain ⟨x2, d2, rfl, h2⟩ := dI_some h1
  obtain ⟨rfl, hE⟩ := dE_some h2
  obtain ⟨y, hy, hk⟩ := bnd_some hE
  have hq := q_Z1 (n_Z1 n) x0 x1 x2
  rw [c_Z1_bind] at hq
  rw [show c_Z1 (n_Z1 n) x0 x1 x2 some = some y from hy] at hq
  cases y with
  | inl y =>
   refine ⟨0, _, _, _, hk, rfl, loop_ok px (fx := ⟨Try.func38, by kernel_rfl, by kernel_rfl⟩) (entsOK_cons e_Z0_ok entsOK_nil) (lentsOK_cons ih lentsOK_nil) (by kernel_rfl) ?_⟩
   exact hq
  | inr y =>
   refine ⟨1, _, _, _, hk, rfl, loop_ok px (fx := ⟨Try.func38, by kernel_rfl, by kernel_rfl⟩) (entsOK_cons e_Z0_ok entsOK_nil) (lentsOK_cons ih lentsOK_nil) (by kernel_rfl) ?_⟩
   exact hq
noncomputable def e_Z1 : Lent := m_Z1 (Z1)
theorem e_Z1_ok : (e_Z1).ok Try.prog (codeAt (bodyOf Try.f38) 5) := by
 intro R ds k r h
 unfold e_Z1 m_Z1 at h
 obtain ⟨x0, d0, rfl, h0⟩ := dL_some h
 obtain ⟨x1, d1, rfl, h1⟩ := dI_some h0
 obtain ⟨x2, d2, rfl, h2⟩ := dI_some h1
 obtain ⟨rfl, hE⟩ := dE_some h2
 obtain ⟨y, hy, hk⟩ := bnd_some hE
 obtain ⟨n, hn⟩ := ev_some hy
 exact m_Z1_ok n R _ k r (show (n_Z1 n x0 x1 x2).bind _ = _ by rw [hn]; exact hk)

/-!-/
def c_Z2 {R : Type} (x0 : List D) (x1 : Int) (k : Int → Option R) : Option R :=
 bif decide (IntKind.i64.wrap (x1 - (↑x0.length : Int)) < (0 : Int)) then
 k (-1 : Int)
 else
 (Z1 x0 (IntKind.i64.wrap (x1 - (↑x0.length : Int))) (0 : Int)).bind (Sum.elim (fun y0 =>
 k y0.snd) (fun y1 =>
 k y1))
theorem c_Z2_bind {R : Type} (x0 : List D) (x1 : Int) (k : Int → Option R) : c_Z2 x0 x1 k = (c_Z2 x0 x1 some).bind k := by
 unfold c_Z2
 repeat' first|exact bnd_tail|exact bnd_none|exact bnd_leaf|apply bnd_ite|apply bnd_cond|apply bnd_sum|(apply bnd_bind;intro _)|intro _
def Z2 (x0 : List D) (x1 : Int) : Option (Int) := c_Z2 x0 x1 some
def e_Z2 : Ent := ⟨38, [.rd (.slice (.int .i64)), .int .i64], .int .i64, [.undef, .undef], fun _ ds k => dL (fun x0 ds => dI (fun x1 ds => dE ((Z2 x0 x1).bind (fun y => k [.I y])) ds) ds) ds⟩
theorem q_Z2 (x0 : List D) (x1 : Int) : runFn (ocOf []) (olOf [e_Z1]) A 38 Try.f38 (Sh.mks e_Z2.sh [.L x0, .I x1]).1 (fun v os => some (v, os)) = c_Z2 x0 x1 (fun y => some ((e_Z2.res.mk [.I y]).1, (Sh.mks e_Z2.outs (e_Z2.res.mk [.I y]).2).1)) := by kernel_rfl
theorem e_Z2_ok : e_Z2.ok Try.prog A := by
 intro R ds k r h
 unfold e_Z2 at h
 obtain ⟨x0, d0, rfl, h0⟩ := dL_some h
 obtain ⟨x1, d1, rfl, h1⟩ := dI_some h0
 obtain ⟨rfl, hE⟩ := dE_some h1
 obtain ⟨y, hy, hk⟩ := bnd_some hE
 refine ⟨_, hk, fn_ok px (fx := ⟨Try.func38, by kernel_rfl, by kernel_rfl⟩) entsOK_nil (lentsOK_cons e_Z1_ok lentsOK_nil) ?_⟩
 have hq := q_Z2 x0 x1
 rw [c_Z2_bind] at hq
 rw [show c_Z2 x0 x1 some = some y from hy] at hq
 exact hq

/-!-/
def c_Z3 {R : Type} (x0 : List D) (x1 : Int) (k : Int → Option R) : Option R :=
 (Z2 x0 x1).bind (fun y0 =>
 bif decide (y0 < (0 : Int)) then
 k (-1 : Int)
 else
 k y0)
theorem c_Z3_bind {R : Type} (x0 : List D) (x1 : Int) (k : Int → Option R) : c_Z3 x0 x1 k = (c_Z3 x0 x1 some).bind k := by
 unfold c_Z3
 repeat' first|exact bnd_tail|exact bnd_none|exact bnd_leaf|apply bnd_ite|apply bnd_cond|apply bnd_sum|(apply bnd_bind;intro _)|intro _
def Z3 (x0 : List D) (x1 : Int) : Option (Int) := c_Z3 x0 x1 some
def e_Z3 : Ent := ⟨12, [.agg [.rd (.slice (.int .i64))], .int .i64], .int .i64, [.undef, .undef], fun _ ds k => dL (fun x0 ds => dI (fun x1 ds => dE ((Z3 x0 x1).bind (fun y => k [.I y])) ds) ds) ds⟩
theorem q_Z3 (x0 : List D) (x1 : Int) : runFn (ocOf [e_Z2]) (olOf []) A 12 Try.f12 (Sh.mks e_Z3.sh [.L x0, .I x1]).1 (fun v os => some (v, os)) = c_Z3 x0 x1 (fun y => some ((e_Z3.res.mk [.I y]).1, (Sh.mks e_Z3.outs (e_Z3.res.mk [.I y]).2).1)) := by kernel_rfl
theorem e_Z3_ok : e_Z3.ok Try.prog A := by
 intro R ds k r h
 unfold e_Z3 at h
 obtain ⟨x0, d0, rfl, h0⟩ := dL_some h
 obtain ⟨x1, d1, rfl, h1⟩ := dI_some h0
 obtain ⟨rfl, hE⟩ := dE_some h1
 obtain ⟨y, hy, hk⟩ := bnd_some hE
 refine ⟨_, hk, fn_ok px (fx := ⟨Try.func12, by kernel_rfl, by kernel_rfl⟩) (entsOK_cons e_Z2_ok entsOK_nil) lentsOK_nil ?_⟩
 have hq := q_Z3 x0 x1
 rw [c_Z3_bind] at hq
 rw [show c_Z3 x0 x1 some = some y from hy] at hq
 exact hq

/-!-/
def c_Z4 {R : Type} (F : List D → Int → List D → Option (List D)) (x0 : List D) (x1 : Int) (x2 : List D) (k : List D → Option R) : Option R :=
 bif decide (x1 < (↑x0.length : Int)) then
 if 0 ≤ x1 ∧ x1 < (↑x0.length : Int) then
 if 0 ≤ x1 ∧ x1 < (↑x2.length : Int) then
 if x1.toNat + 1 ≤ x2.length then
 (F x0 (IntKind.i64.wrap (x1 + 1)) (x2.set x1.toNat (D.int (x0.getD x1.toNat (D.int 0)).toInt))).bind k
 else
 none
 else
 none
 else
 none
 else
 k x2
theorem c_Z4_bind {R : Type} (F : List D → Int → List D → Option (List D)) (x0 : List D) (x1 : Int) (x2 : List D) (k : List D → Option R) : c_Z4 F x0 x1 x2 k = (c_Z4 F x0 x1 x2 some).bind k := by
 unfold c_Z4
 repeat' first|exact bnd_tail|exact bnd_none|exact bnd_leaf|apply bnd_ite|apply bnd_cond|apply bnd_sum|(apply bnd_bind;intro _)|intro _
def n_Z4 : Nat → List D → Int → List D → Option (List D)
 | 0, _, _, _ => none
 | n + 1, x0, x1, x2 => c_Z4 (n_Z4 n) x0 x1 x2 some
noncomputable def Z4 (x0 : List D) (x1 : Int) (x2 : List D) : Option (List D) := ev (fun n => n_Z4 n x0 x1 x2)
def m_Z4 (F : List D → Int → List D → Option (List D)) : Lent := ⟨3, ⟨(.rd (.int .i64) :: .undef :: .undef :: .full 1000 [] (.int .i64) :: .int .i64 :: uu 17 ([])), [(1000, .own (.int .i64))]⟩, [(.exit 0, ⟨(.undef :: .undef :: .undef :: .full 1000 [] (.int .i64) :: uu 18 ([])), [(1000, .own (.int .i64))]⟩)], fun _ ds k => dL (fun x0 ds => dI (fun x1 ds => dL (fun x2 ds => dE ((F x0 x1 x2).bind (fun y => k 0 [.L y])) ds) ds) ds) ds⟩
theorem q_Z4 (F : List D → Int → List D → Option (List D)) (x0 : List D) (x1 : Int) (x2 : List D) : runLoop (ocOf []) (olOf [m_Z4 F]) A 28 (codeAt (bodyOf Try.f28) 3) ((m_Z4 F).sh.mk' [.L x0, .I x1, .L x2]) (fun e σ' => some (e, σ')) = c_Z4 F x0 x1 x2 (fun y => some (.exit 0, SSt.mk' ⟨(.undef :: .undef :: .undef :: .full 1000 [] (.int .i64) :: uu 18 ([])), [(1000, .own (.int .i64))]⟩ [.L y])) := by kernel_rfl
theorem m_Z4_ok : ∀ n, (m_Z4 (n_Z4 n)).ok Try.prog (codeAt (bodyOf Try.f28) 3) := by
 intro n
 induction n with
 | zero =>
  intro R ds k r h
  unfold m_Z4 at h
  obtain ⟨x0, d0, rfl, h0⟩ := dL_some h
  obtain ⟨x1, d1, rfl, h1⟩ := dI_some h0
  obtain ⟨x2, d2, rfl, h2⟩ := dL_some h1
  obtain ⟨rfl, hE⟩ := dE_some h2
  obtain ⟨y, hy, hk⟩ := bnd_some hE
  cases hy
 | succ n ih =>
  intro R ds k r h
  unfold m_Z4 at h
  obtain ⟨x0, d0, rfl, h0⟩ := dL_some h
  obtain ⟨x1, d1, rfl, h1⟩ := dI_some h0
  obtain ⟨x2, d2, rfl, h2⟩ := dL_some h1
  obtain ⟨rfl, hE⟩ := dE_some h2
  obtain ⟨y, hy, hk⟩ := bnd_some hE
  have hq := q_Z4 (n_Z4 n) x0 x1 x2
  rw [c_Z4_bind] at hq
  rw [show c_Z4 (n_Z4 n) x0 x1 x2 some = some y from hy] at hq
  refine ⟨0, _, _, _, hk, rfl, loop_ok px (fx := ⟨Try.func28, by kernel_rfl, by kernel_rfl⟩) entsOK_nil (lentsOK_cons ih lentsOK_nil) (by kernel_rfl) ?_⟩
  exact hq
noncomputable def e_Z4 : Lent := m_Z4 (Z4)
theorem e_Z4_ok : (e_Z4).ok Try.prog (codeAt (bodyOf Try.f28) 3) := by
 intro R ds k r h
 unfold e_Z4 m_Z4 at h
 obtain ⟨x0, d0, rfl, h0⟩ := dL_some h
 obtain ⟨x1, d1, rfl, h1⟩ := dI_some h0
 obtain ⟨x2, d2, rfl, h2⟩ := dL_some h1
 obtain ⟨rfl, hE⟩ := dE_some h2
 obtain ⟨y, hy, hk⟩ := bnd_some hE
 obtain ⟨n, hn⟩ := ev_some hy
 exact m_Z4_ok n R _ k r (show (n_Z4 n x0 x1 x2).bind _ = _ by rw [hn]; exact hk)

/-!-/
def c_Z5 {R : Type} (x0 : List D) (k : List D → Option R) : Option R :=
 if (0 : Int) ≤ (↑x0.length : Int) ∧ (↑x0.length : Int) ≤ (↑x0.length : Int) ∧ (↑x0.length : Int) ≤ (4294967296 : Int) then
 (Z4 x0 (0 : Int) (List.replicate (↑x0.length : Int).toNat (D.int 0))).bind (fun y0 =>
 k y0)
 else
 none
theorem c_Z5_bind {R : Type} (x0 : List D) (k : List D → Option R) : c_Z5 x0 k = (c_Z5 x0 some).bind k := by
 unfold c_Z5
 repeat' first|exact bnd_tail|exact bnd_none|exact bnd_leaf|apply bnd_ite|apply bnd_cond|apply bnd_sum|(apply bnd_bind;intro _)|intro _
def Z5 (x0 : List D) : Option (List D) := c_Z5 x0 some
def e_Z5 : Ent := ⟨28, [.rd (.int .i64)], .own (.int .i64), [.undef], fun _ ds k => dL (fun x0 ds => dE ((Z5 x0).bind (fun y => k [.L y])) ds) ds⟩
theorem q_Z5 (x0 : List D) : runFn (ocOf []) (olOf [e_Z4]) A 28 Try.f28 (Sh.mks e_Z5.sh [.L x0]).1 (fun v os => some (v, os)) = c_Z5 x0 (fun y => some ((e_Z5.res.mk [.L y]).1, (Sh.mks e_Z5.outs (e_Z5.res.mk [.L y]).2).1)) := by kernel_rfl
theorem e_Z5_ok : e_Z5.ok Try.prog A := by
 intro R ds k r h
 unfold e_Z5 at h
 obtain ⟨x0, d0, rfl, h0⟩ := dL_some h
 obtain ⟨rfl, hE⟩ := dE_some h0
 obtain ⟨y, hy, hk⟩ := bnd_some hE
 refine ⟨_, hk, fn_ok px (fx := ⟨Try.func28, by kernel_rfl, by kernel_rfl⟩) entsOK_nil (lentsOK_cons e_Z4_ok lentsOK_nil) ?_⟩
 have hq := q_Z5 x0
 rw [c_Z5_bind] at hq
 rw [show c_Z5 x0 some = some y from hy] at hq
 exact hq

/-!-/
def c_Z6 {R : Type} (F : List D → Int → List D → Option (List D)) (x0 : List D) (x1 : Int) (x2 : List D) (k : List D → Option R) : Option R :=
 bif decide (x1 < (↑x0.length : Int)) then
 if 0 ≤ x1 ∧ x1 < (↑x0.length : Int) then
 (Z5 ((x0.getD x1.toNat (D.int 0)).items)).bind (fun y0 =>
 if 0 ≤ x1 ∧ x1 < (↑x2.length : Int) then
 if x1.toNat + 1 ≤ x2.length then
 (F x0 (IntKind.i64.wrap (x1 + 1)) (x2.set x1.toNat (D.node y0))).bind k
 else
 none
 else
 none)
 else
 none
 else
 k x2
theorem c_Z6_bind {R : Type} (F : List D → Int → List D → Option (List D)) (x0 : List D) (x1 : Int) (x2 : List D) (k : List D → Option R) : c_Z6 F x0 x1 x2 k = (c_Z6 F x0 x1 x2 some).bind k := by
 unfold c_Z6
 repeat' first|exact bnd_tail|exact bnd_none|exact bnd_leaf|apply bnd_ite|apply bnd_cond|apply bnd_sum|(apply bnd_bind;intro _)|intro _
def n_Z6 : Nat → List D → Int → List D → Option (List D)
 | 0, _, _, _ => none
 | n + 1, x0, x1, x2 => c_Z6 (n_Z6 n) x0 x1 x2 some
noncomputable def Z6 (x0 : List D) (x1 : Int) (x2 : List D) : Option (List D) := ev (fun n => n_Z6 n x0 x1 x2)
def m_Z6 (F : List D → Int → List D → Option (List D)) : Lent := ⟨3, ⟨(.rd (.slice (.int .i64)) :: .undef :: .undef :: .full 1000 [] (.slice (.int .i64)) :: .int .i64 :: uu 18 ([])), [(1000, .own (.slice (.int .i64)))]⟩, [(.exit 0, ⟨(.undef :: .undef :: .undef :: .full 1000 [] (.slice (.int .i64)) :: uu 19 ([])), [(1000, .own (.slice (.int .i64)))]⟩)], fun _ ds k => dL (fun x0 ds => dI (fun x1 ds => dL (fun x2 ds => dE ((F x0 x1 x2).bind (fun y => k 0 [.L y])) ds) ds) ds) ds⟩
theorem q_Z6 (F : List D → Int → List D → Option (List D)) (x0 : List D) (x1 : Int) (x2 : List D) : runLoop (ocOf [e_Z5]) (olOf [m_Z6 F]) A 42 (codeAt (bodyOf Try.f42) 3) ((m_Z6 F).sh.mk' [.L x0, .I x1, .L x2]) (fun e σ' => some (e, σ')) = c_Z6 F x0 x1 x2 (fun y => some (.exit 0, SSt.mk' ⟨(.undef :: .undef :: .undef :: .full 1000 [] (.slice (.int .i64)) :: uu 19 ([])), [(1000, .own (.slice (.int .i64)))]⟩ [.L y])) := by kernel_rfl
theorem m_Z6_ok : ∀ n, (m_Z6 (n_Z6 n)).ok Try.prog (codeAt (bodyOf Try.f42) 3) := by
 intro n
 induction n with
 | zero =>
  intro R ds k r h
  unfold m_Z6 at h
  obtain ⟨x0, d0, rfl, h0⟩ := dL_some h
  obtain ⟨x1, d1, rfl, h1⟩ := dI_some h0
  obtain ⟨x2, d2, rfl, h2⟩ := dL_some h1
  obtain ⟨rfl, hE⟩ := dE_some h2
  obtain ⟨y, hy, hk⟩ := bnd_some hE
  cases hy
 | succ n ih =>
  intro R ds k r h
  unfold m_Z6 at h
  obtain ⟨x0, d0, rfl, h0⟩ := dL_some h
  obtain ⟨x1, d1, rfl, h1⟩ := dI_some h0
  obtain ⟨x2, d2, rfl, h2⟩ := dL_some h1
  obtain ⟨rfl, hE⟩ := dE_some h2
  obtain ⟨y, hy, hk⟩ := bnd_some hE
  have hq := q_Z6 (n_Z6 n) x0 x1 x2
  rw [c_Z6_bind] at hq
  rw [show c_Z6 (n_Z6 n) x0 x1 x2 some = some y from hy] at hq
  refine ⟨0, _, _, _, hk, rfl, loop_ok px (fx := ⟨Try.func42, by kernel_rfl, by kernel_rfl⟩) (entsOK_cons e_Z5_ok entsOK_nil) (lentsOK_cons ih lentsOK_nil) (by kernel_rfl) ?_⟩
  exact hq
noncomputable def e_Z6 : Lent := m_Z6 (Z6)
theorem e_Z6_ok : (e_Z6).ok Try.prog (codeAt (bodyOf Try.f42) 3) := by
 intro R ds k r h
 unfold e_Z6 m_Z6 at h
 obtain ⟨x0, d0, rfl, h0⟩ := dL_some h
 obtain ⟨x1, d1, rfl, h1⟩ := dI_some h0
 obtain ⟨x2, d2, rfl, h2⟩ := dL_some h1
 obtain ⟨rfl, hE⟩ := dE_some h2
 obtain ⟨y, hy, hk⟩ := bnd_some hE
 obtain ⟨n, hn⟩ := ev_some hy
 exact m_Z6_ok n R _ k r (show (n_Z6 n x0 x1 x2).bind _ = _ by rw [hn]; exact hk)

/-!-/
def c_Z7 {R : Type} (x0 : List D) (k : List D → Option R) : Option R :=
 if (0 : Int) ≤ (↑x0.length : Int) ∧ (↑x0.length : Int) ≤ (↑x0.length : Int) ∧ (↑x0.length : Int) ≤ (4294967296 : Int) then
 (Z6 x0 (0 : Int) (List.replicate (↑x0.length : Int).toNat (D.node []))).bind (fun y0 =>
 k y0)
 else
 none
theorem c_Z7_bind {R : Type} (x0 : List D) (k : List D → Option R) : c_Z7 x0 k = (c_Z7 x0 some).bind k := by
 unfold c_Z7
 repeat' first|exact bnd_tail|exact bnd_none|exact bnd_leaf|apply bnd_ite|apply bnd_cond|apply bnd_sum|(apply bnd_bind;intro _)|intro _
def Z7 (x0 : List D) : Option (List D) := c_Z7 x0 some
def e_Z7 : Ent := ⟨42, [.rd (.slice (.int .i64))], .own (.slice (.int .i64)), [.undef], fun _ ds k => dL (fun x0 ds => dE ((Z7 x0).bind (fun y => k [.L y])) ds) ds⟩
theorem q_Z7 (x0 : List D) : runFn (ocOf []) (olOf [e_Z6]) A 42 Try.f42 (Sh.mks e_Z7.sh [.L x0]).1 (fun v os => some (v, os)) = c_Z7 x0 (fun y => some ((e_Z7.res.mk [.L y]).1, (Sh.mks e_Z7.outs (e_Z7.res.mk [.L y]).2).1)) := by kernel_rfl
theorem e_Z7_ok : e_Z7.ok Try.prog A := by
 intro R ds k r h
 unfold e_Z7 at h
 obtain ⟨x0, d0, rfl, h0⟩ := dL_some h
 obtain ⟨rfl, hE⟩ := dE_some h0
 obtain ⟨y, hy, hk⟩ := bnd_some hE
 refine ⟨_, hk, fn_ok px (fx := ⟨Try.func42, by kernel_rfl, by kernel_rfl⟩) entsOK_nil (lentsOK_cons e_Z6_ok lentsOK_nil) ?_⟩
 have hq := q_Z7 x0
 rw [c_Z7_bind] at hq
 rw [show c_Z7 x0 some = some y from hy] at hq
 exact hq

/-!-/
def c_Z8 {R : Type} (x0 : List D) (k : List D → Option R) : Option R :=
 (Z7 x0).bind (fun y0 =>
 k y0)
theorem c_Z8_bind {R : Type} (x0 : List D) (k : List D → Option R) : c_Z8 x0 k = (c_Z8 x0 some).bind k := by
 unfold c_Z8
 repeat' first|exact bnd_tail|exact bnd_none|exact bnd_leaf|apply bnd_ite|apply bnd_cond|apply bnd_sum|(apply bnd_bind;intro _)|intro _
def Z8 (x0 : List D) : Option (List D) := c_Z8 x0 some
def e_Z8 : Ent := ⟨14, [.agg [.rd (.slice (.int .i64))]], .agg [.own (.slice (.int .i64))], [.undef], fun _ ds k => dL (fun x0 ds => dE ((Z8 x0).bind (fun y => k [.L y])) ds) ds⟩
theorem q_Z8 (x0 : List D) : runFn (ocOf [e_Z7]) (olOf []) A 14 Try.f14 (Sh.mks e_Z8.sh [.L x0]).1 (fun v os => some (v, os)) = c_Z8 x0 (fun y => some ((e_Z8.res.mk [.L y]).1, (Sh.mks e_Z8.outs (e_Z8.res.mk [.L y]).2).1)) := by kernel_rfl
theorem e_Z8_ok : e_Z8.ok Try.prog A := by
 intro R ds k r h
 unfold e_Z8 at h
 obtain ⟨x0, d0, rfl, h0⟩ := dL_some h
 obtain ⟨rfl, hE⟩ := dE_some h0
 obtain ⟨y, hy, hk⟩ := bnd_some hE
 refine ⟨_, hk, fn_ok px (fx := ⟨Try.func14, by kernel_rfl, by kernel_rfl⟩) (entsOK_cons e_Z7_ok entsOK_nil) lentsOK_nil ?_⟩
 have hq := q_Z8 x0
 rw [c_Z8_bind] at hq
 rw [show c_Z8 x0 some = some y from hy] at hq
 exact hq

/-!-/
def c_Z9 {R : Type} (x0 : Int) (x1 : Int) (x2 : Int) (k : Bool → Option R) : Option R :=
 bif decide (x1 ≤ x0) then
 k (decide (x0 ≤ x2))
 else
 k Bool.false
theorem c_Z9_bind {R : Type} (x0 : Int) (x1 : Int) (x2 : Int) (k : Bool → Option R) : c_Z9 x0 x1 x2 k = (c_Z9 x0 x1 x2 some).bind k := by
 unfold c_Z9
 repeat' first|exact bnd_tail|exact bnd_none|exact bnd_leaf|apply bnd_ite|apply bnd_cond|apply bnd_sum|(apply bnd_bind;intro _)|intro _
def Z9 (x0 : Int) (x1 : Int) (x2 : Int) : Option (Bool) := c_Z9 x0 x1 x2 some
def e_Z9 : Ent := ⟨40, [.int .i64, .int .i64, .int .i64], .bool, [.undef, .undef, .undef], fun _ ds k => dI (fun x0 ds => dI (fun x1 ds => dI (fun x2 ds => dE ((Z9 x0 x1 x2).bind (fun y => k [.B y])) ds) ds) ds) ds⟩
theorem q_Z9 (x0 : Int) (x1 : Int) (x2 : Int) : runFn (ocOf []) (olOf []) A 40 Try.f40 (Sh.mks e_Z9.sh [.I x0, .I x1, .I x2]).1 (fun v os => some (v, os)) = c_Z9 x0 x1 x2 (fun y => some ((e_Z9.res.mk [.B y]).1, (Sh.mks e_Z9.outs (e_Z9.res.mk [.B y]).2).1)) := by kernel_rfl
theorem e_Z9_ok : e_Z9.ok Try.prog A := by
 intro R ds k r h
 unfold e_Z9 at h
 obtain ⟨x0, d0, rfl, h0⟩ := dI_some h
 obtain ⟨x1, d1, rfl, h1⟩ := dI_some h0
 obtain ⟨x2, d2, rfl, h2⟩ := dI_some h1
 obtain ⟨rfl, hE⟩ := dE_some h2
 obtain ⟨y, hy, hk⟩ := bnd_some hE
 refine ⟨_, hk, fn_ok px (fx := ⟨Try.func40, by kernel_rfl, by kernel_rfl⟩) entsOK_nil lentsOK_nil ?_⟩
 have hq := q_Z9 x0 x1 x2
 rw [c_Z9_bind] at hq
 rw [show c_Z9 x0 x1 x2 some = some y from hy] at hq
 exact hq

/-!-/
def c_Z10 {R : Type} (F : List D → Int → Int → Option ((Bool) ⊕ (Unit))) (x0 : List D) (x1 : Int) (x2 : Int) (k : (Bool) ⊕ (Unit) → Option R) : Option R :=
 bif decide (x2 < (↑x0.length : Int)) then
 if 0 ≤ x2 ∧ x2 < (↑x0.length : Int) then
 bif decide ((x0.getD x2.toNat (D.int 0)).toInt = x1) then
 k (.inl Bool.true)
 else
 (F x0 x1 (IntKind.i64.wrap (x2 + 1))).bind k
 else
 none
 else
 k (.inr ())
theorem c_Z10_bind {R : Type} (F : List D → Int → Int → Option ((Bool) ⊕ (Unit))) (x0 : List D) (x1 : Int) (x2 : Int) (k : (Bool) ⊕ (Unit) → Option R) : c_Z10 F x0 x1 x2 k = (c_Z10 F x0 x1 x2 some).bind k := by
 unfold c_Z10
 repeat' first|exact bnd_tail|exact bnd_none|exact bnd_leaf|apply bnd_ite|apply bnd_cond|apply bnd_sum|(apply bnd_bind;intro _)|intro _
def n_Z10 : Nat → List D → Int → Int → Option ((Bool) ⊕ (Unit))
 | 0, _, _, _ => none
 | n + 1, x0, x1, x2 => c_Z10 (n_Z10 n) x0 x1 x2 some
noncomputable def Z10 (x0 : List D) (x1 : Int) (x2 : Int) : Option ((Bool) ⊕ (Unit)) := ev (fun n => n_Z10 n x0 x1 x2)
def m_Z10 (F : List D → Int → Int → Option ((Bool) ⊕ (Unit))) : Lent := ⟨2, ⟨(.rd (.int .i64) :: .int .i64 :: .undef :: .undef :: .undef :: .int .i64 :: uu 12 ([])), []⟩, [(.ret, ⟨(uu 4 (.bool :: uu 13 ([]))), []⟩), (.exit 0, ⟨(uu 18 ([])), []⟩)], fun _ ds k => dL (fun x0 ds => dI (fun x1 ds => dI (fun x2 ds => dE ((F x0 x1 x2).bind (Sum.elim (fun y => k 0 [.B y]) (fun y => k 1 []))) ds) ds) ds) ds⟩
theorem q_Z10 (F : List D → Int → Int → Option ((Bool) ⊕ (Unit))) (x0 : List D) (x1 : Int) (x2 : Int) : runLoop (ocOf []) (olOf [m_Z10 F]) A 74 (codeAt (bodyOf Try.f74) 2) ((m_Z10 F).sh.mk' [.L x0, .I x1, .I x2]) (fun e σ' => some (e, σ')) = c_Z10 F x0 x1 x2 (Sum.elim (fun y => some (.ret, SSt.mk' ⟨(uu 4 (.bool :: uu 13 ([]))), []⟩ [.B y])) (fun y => some (.exit 0, SSt.mk' ⟨(uu 18 ([])), []⟩ []))) := by kernel_rfl
theorem m_Z10_ok : ∀ n, (m_Z10 (n_Z10 n)).ok Try.prog (codeAt (bodyOf Try.f74) 2) := by
 intro n
 induction n with
 | zero =>
  intro R ds k r h
  unfold m_Z10 at h
  obtain ⟨x0, d0, rfl, h0⟩ := dL_some h
  obtain ⟨x1, d1, rfl, h1⟩ := dI_some h0
  obtain ⟨x2, d2, rfl, h2⟩ := dI_some h1
  obtain ⟨rfl, hE⟩ := dE_some h2
  obtain ⟨y, hy, hk⟩ := bnd_some hE
  cases hy
 | succ n ih =>
  intro R ds k r h
  unfold m_Z10 at h
  obtain ⟨x0, d0, rfl, h0⟩ := dL_some h
  obtain ⟨x1, d1, rfl, h1⟩ := dI_some h0
  obtain ⟨x2, d2, rfl, h2⟩ := dI_some h1
  obtain ⟨rfl, hE⟩ := dE_some h2
  obtain ⟨y, hy, hk⟩ := bnd_some hE
  have hq := q_Z10 (n_Z10 n) x0 x1 x2
  rw [c_Z10_bind] at hq
  rw [show c_Z10 (n_Z10 n) x0 x1 x2 some = some y from hy] at hq
  cases y with
  | inl y =>
   refine ⟨0, _, _, _, hk, rfl, loop_ok px (fx := ⟨Try.func74, by kernel_rfl, by kernel_rfl⟩) entsOK_nil (lentsOK_cons ih lentsOK_nil) (by kernel_rfl) ?_⟩
   exact hq
  | inr y =>
   refine ⟨1, _, _, _, hk, rfl, loop_ok px (fx := ⟨Try.func74, by kernel_rfl, by kernel_rfl⟩) entsOK_nil (lentsOK_cons ih lentsOK_nil) (by kernel_rfl) ?_⟩
   exact hq
noncomputable def e_Z10 : Lent := m_Z10 (Z10)
theorem e_Z10_ok : (e_Z10).ok Try.prog (codeAt (bodyOf Try.f74) 2) := by
 intro R ds k r h
 unfold e_Z10 m_Z10 at h
 obtain ⟨x0, d0, rfl, h0⟩ := dL_some h
 obtain ⟨x1, d1, rfl, h1⟩ := dI_some h0
 obtain ⟨x2, d2, rfl, h2⟩ := dI_some h1
 obtain ⟨rfl, hE⟩ := dE_some h2
 obtain ⟨y, hy, hk⟩ := bnd_some hE
 obtain ⟨n, hn⟩ := ev_some hy
 exact m_Z10_ok n R _ k r (show (n_Z10 n x0 x1 x2).bind _ = _ by rw [hn]; exact hk)

/-!-/
def c_Z11 {R : Type} (x0 : List D) (x1 : Int) (k : Bool → Option R) : Option R :=
 (Z10 x0 x1 (0 : Int)).bind (Sum.elim (fun y0 =>
 k y0) (fun y1 =>
 k Bool.false))
theorem c_Z11_bind {R : Type} (x0 : List D) (x1 : Int) (k : Bool → Option R) : c_Z11 x0 x1 k = (c_Z11 x0 x1 some).bind k := by
 unfold c_Z11
 repeat' first|exact bnd_tail|exact bnd_none|exact bnd_leaf|apply bnd_ite|apply bnd_cond|apply bnd_sum|(apply bnd_bind;intro _)|intro _
def Z11 (x0 : List D) (x1 : Int) : Option (Bool) := c_Z11 x0 x1 some
def e_Z11 : Ent := ⟨74, [.rd (.int .i64), .int .i64], .bool, [.undef, .undef], fun _ ds k => dL (fun x0 ds => dI (fun x1 ds => dE ((Z11 x0 x1).bind (fun y => k [.B y])) ds) ds) ds⟩
theorem q_Z11 (x0 : List D) (x1 : Int) : runFn (ocOf []) (olOf [e_Z10]) A 74 Try.f74 (Sh.mks e_Z11.sh [.L x0, .I x1]).1 (fun v os => some (v, os)) = c_Z11 x0 x1 (fun y => some ((e_Z11.res.mk [.B y]).1, (Sh.mks e_Z11.outs (e_Z11.res.mk [.B y]).2).1)) := by kernel_rfl
theorem e_Z11_ok : e_Z11.ok Try.prog A := by
 intro R ds k r h
 unfold e_Z11 at h
 obtain ⟨x0, d0, rfl, h0⟩ := dL_some h
 obtain ⟨x1, d1, rfl, h1⟩ := dI_some h0
 obtain ⟨rfl, hE⟩ := dE_some h1
 obtain ⟨y, hy, hk⟩ := bnd_some hE
 refine ⟨_, hk, fn_ok px (fx := ⟨Try.func74, by kernel_rfl, by kernel_rfl⟩) entsOK_nil (lentsOK_cons e_Z10_ok lentsOK_nil) ?_⟩
 have hq := q_Z11 x0 x1
 rw [c_Z11_bind] at hq
 rw [show c_Z11 x0 x1 some = some y from hy] at hq
 exact hq

/-!-/
def c_Z12 {R : Type} (F : List D → Int → List D → Option ((List D × Bool × List D) ⊕ (List D × List D))) (x0 : List D) (x1 : Int) (x2 : List D) (k : (List D × Bool × List D) ⊕ (List D × List D) → Option R) : Option R :=
 bif decide (x1 < (↑x0.length : Int)) then
 if 0 ≤ x1 ∧ x1 < (↑x0.length : Int) then
 (Z9 ((x0.getD x1.toNat (D.int 0)).toInt) (0 : Int) (IntKind.i64.wrap ((↑x2.length : Int) - (1 : Int)))).bind (fun y0 =>
 bif !y0 then
 k (.inl (x0, Bool.false, x2))
 else
 if (0 : Int) ≤ (0 : Int) ∧ 0 ≤ x1 ∧ x1 ≤ (↑x0.length : Int) then
 if 0 ≤ x1 ∧ x1 < (↑x0.length : Int) then
 (Z11 (List.take (x1.toNat - (0 : Nat)) (List.drop (0 : Nat) x0)) ((x0.getD x1.toNat (D.int 0)).toInt)).bind (fun y1 =>
 bif y1 then
 k (.inl (x0, Bool.false, x2))
 else
 (F x0 (IntKind.i64.wrap (x1 + 1)) x2).bind k)
 else
 none
 else
 none)
 else
 none
 else
 k (.inr (x0, x2))
theorem c_Z12_bind {R : Type} (F : List D → Int → List D → Option ((List D × Bool × List D) ⊕ (List D × List D))) (x0 : List D) (x1 : Int) (x2 : List D) (k : (List D × Bool × List D) ⊕ (List D × List D) → Option R) : c_Z12 F x0 x1 x2 k = (c_Z12 F x0 x1 x2 some).bind k := by
 unfold c_Z12
 repeat' first|exact bnd_tail|exact bnd_none|exact bnd_leaf|apply bnd_ite|apply bnd_cond|apply bnd_sum|(apply bnd_bind;intro _)|intro _
def n_Z12 : Nat → List D → Int → List D → Option ((List D × Bool × List D) ⊕ (List D × List D))
 | 0, _, _, _ => none
 | n + 1, x0, x1, x2 => c_Z12 (n_Z12 n) x0 x1 x2 some
noncomputable def Z12 (x0 : List D) (x1 : Int) (x2 : List D) : Option ((List D × Bool × List D) ⊕ (List D × List D)) := ev (fun n => n_Z12 n x0 x1 x2)
def m_Z12 (F : List D → Int → List D → Option ((List D × Bool × List D) ⊕ (List D × List D))) : Lent := ⟨2, ⟨(.undef :: .rd (.int .i64) :: .ptr 1000 [0] :: .undef :: .undef :: .int .i64 :: uu 36 ([])), [(1000, .obox (.agg [.rd (.slice (.int .i64))]))]⟩, [(.ret, ⟨(.undef :: .rd (.int .i64) :: .ptr 1000 [0] :: .undef :: .bool :: uu 37 ([])), [(1000, .obox (.agg [.rd (.slice (.int .i64))]))]⟩), (.exit 0, ⟨(.undef :: .rd (.int .i64) :: .ptr 1000 [0] :: uu 39 ([])), [(1000, .obox (.agg [.rd (.slice (.int .i64))]))]⟩)], fun _ ds k => dL (fun x0 ds => dI (fun x1 ds => dL (fun x2 ds => dE ((F x0 x1 x2).bind (Sum.elim (fun y => k 0 [.L y.1, .B y.2.1, .L y.2.2]) (fun y => k 1 [.L y.1, .L y.2]))) ds) ds) ds) ds⟩
theorem q_Z12 (F : List D → Int → List D → Option ((List D × Bool × List D) ⊕ (List D × List D))) (x0 : List D) (x1 : Int) (x2 : List D) : runLoop (ocOf [e_Z9, e_Z11]) (olOf [m_Z12 F]) A 54 (codeAt (bodyOf Try.f54) 2) ((m_Z12 F).sh.mk' [.L x0, .I x1, .L x2]) (fun e σ' => some (e, σ')) = c_Z12 F x0 x1 x2 (Sum.elim (fun y => some (.ret, SSt.mk' ⟨(.undef :: .rd (.int .i64) :: .ptr 1000 [0] :: .undef :: .bool :: uu 37 ([])), [(1000, .obox (.agg [.rd (.slice (.int .i64))]))]⟩ [.L y.1, .B y.2.1, .L y.2.2])) (fun y => some (.exit 0, SSt.mk' ⟨(.undef :: .rd (.int .i64) :: .ptr 1000 [0] :: uu 39 ([])), [(1000, .obox (.agg [.rd (.slice (.int .i64))]))]⟩ [.L y.1, .L y.2]))) := by kernel_rfl
theorem m_Z12_ok : ∀ n, (m_Z12 (n_Z12 n)).ok Try.prog (codeAt (bodyOf Try.f54) 2) := by
 intro n
 induction n with
 | zero =>
  intro R ds k r h
  unfold m_Z12 at h
  obtain ⟨x0, d0, rfl, h0⟩ := dL_some h
  obtain ⟨x1, d1, rfl, h1⟩ := dI_some h0
  obtain ⟨x2, d2, rfl, h2⟩ := dL_some h1
  obtain ⟨rfl, hE⟩ := dE_some h2
  obtain ⟨y, hy, hk⟩ := bnd_some hE
  cases hy
 | succ n ih =>
  intro R ds k r h
  unfold m_Z12 at h
  obtain ⟨x0, d0, rfl, h0⟩ := dL_some h
  obtain ⟨x1, d1, rfl, h1⟩ := dI_some h0
  obtain ⟨x2, d2, rfl, h2⟩ := dL_some h1
  obtain ⟨rfl, hE⟩ := dE_some h2
  obtain ⟨y, hy, hk⟩ := bnd_some hE
  have hq := q_Z12 (n_Z12 n) x0 x1 x2
  rw [c_Z12_bind] at hq
  rw [show c_Z12 (n_Z12 n) x0 x1 x2 some = some y from hy] at hq
  cases y with
  | inl y =>
   refine ⟨0, _, _, _, hk, rfl, loop_ok px (fx := ⟨Try.func54, by kernel_rfl, by kernel_rfl⟩) (entsOK_cons e_Z9_ok (entsOK_cons e_Z11_ok entsOK_nil)) (lentsOK_cons ih lentsOK_nil) (by kernel_rfl) ?_⟩
   exact hq
  | inr y =>
   refine ⟨1, _, _, _, hk, rfl, loop_ok px (fx := ⟨Try.func54, by kernel_rfl, by kernel_rfl⟩) (entsOK_cons e_Z9_ok (entsOK_cons e_Z11_ok entsOK_nil)) (lentsOK_cons ih lentsOK_nil) (by kernel_rfl) ?_⟩
   exact hq
noncomputable def e_Z12 : Lent := m_Z12 (Z12)
theorem e_Z12_ok : (e_Z12).ok Try.prog (codeAt (bodyOf Try.f54) 2) := by
 intro R ds k r h
 unfold e_Z12 m_Z12 at h
 obtain ⟨x0, d0, rfl, h0⟩ := dL_some h
 obtain ⟨x1, d1, rfl, h1⟩ := dI_some h0
 obtain ⟨x2, d2, rfl, h2⟩ := dL_some h1
 obtain ⟨rfl, hE⟩ := dE_some h2
 obtain ⟨y, hy, hk⟩ := bnd_some hE
 obtain ⟨n, hn⟩ := ev_some hy
 exact m_Z12_ok n R _ k r (show (n_Z12 n x0 x1 x2).bind _ = _ by rw [hn]; exact hk)

/-!-/
def c_Z13 {R : Type} (F : Int → Int → List D → Int → List D → Option ((Bool × Int × Int × List D) ⊕ (Int × Int × List D))) (x0 : Int) (x1 : Int) (x2 : List D) (x3 : Int) (x4 : List D) (k : (Bool × Int × Int × List D) ⊕ (Int × Int × List D) → Option R) : Option R :=
 bif decide (x3 < (↑x2.length : Int)) then
 if 0 ≤ x3 ∧ x3 < (↑x2.length : Int) then
 (Z9 ((x2.getD x3.toNat (D.int 0)).toInt) (0 : Int) (1000 : Int)).bind (fun y0 =>
 bif !y0 then
 k (.inl (Bool.false, x0, x1, x4))
 else
 (F x0 x1 x2 (IntKind.i64.wrap (x3 + 1)) x4).bind k)
 else
 none
 else
 k (.inr (x0, x1, x4))
theorem c_Z13_bind {R : Type} (F : Int → Int → List D → Int → List D → Option ((Bool × Int × Int × List D) ⊕ (Int × Int × List D))) (x0 : Int) (x1 : Int) (x2 : List D) (x3 : Int) (x4 : List D) (k : (Bool × Int × Int × List D) ⊕ (Int × Int × List D) → Option R) : c_Z13 F x0 x1 x2 x3 x4 k = (c_Z13 F x0 x1 x2 x3 x4 some).bind k := by
 unfold c_Z13
 repeat' first|exact bnd_tail|exact bnd_none|exact bnd_leaf|apply bnd_ite|apply bnd_cond|apply bnd_sum|(apply bnd_bind;intro _)|intro _
def n_Z13 : Nat → Int → Int → List D → Int → List D → Option ((Bool × Int × Int × List D) ⊕ (Int × Int × List D))
 | 0, _, _, _, _, _ => none
 | n + 1, x0, x1, x2, x3, x4 => c_Z13 (n_Z13 n) x0 x1 x2 x3 x4 some
noncomputable def Z13 (x0 : Int) (x1 : Int) (x2 : List D) (x3 : Int) (x4 : List D) : Option ((Bool × Int × Int × List D) ⊕ (Int × Int × List D)) := ev (fun n => n_Z13 n x0 x1 x2 x3 x4)
def m_Z13 (F : Int → Int → List D → Int → List D → Option ((Bool × Int × Int × List D) ⊕ (Int × Int × List D))) : Lent := ⟨11, ⟨(.undef :: .ptr 1000 [0] :: .undef :: .int .i64 :: .int .i64 :: .rd (.int .i64) :: .int .i64 :: uu 42 ([])), [(1000, .obox (.agg [.rd (.slice (.int .i64))]))]⟩, [(.ret, ⟨(.undef :: .ptr 1000 [0] :: .bool :: .int .i64 :: .int .i64 :: uu 44 ([])), [(1000, .obox (.agg [.rd (.slice (.int .i64))]))]⟩), (.exit 2, ⟨(.undef :: .ptr 1000 [0] :: .undef :: .int .i64 :: .int .i64 :: uu 44 ([])), [(1000, .obox (.agg [.rd (.slice (.int .i64))]))]⟩)], fun _ ds k => dI (fun x0 ds => dI (fun x1 ds => dL (fun x2 ds => dI (fun x3 ds => dL (fun x4 ds => dE ((F x0 x1 x2 x3 x4).bind (Sum.elim (fun y => k 0 [.B y.1, .I y.2.1, .I y.2.2.1, .L y.2.2.2]) (fun y => k 1 [.I y.1, .I y.2.1, .L y.2.2]))) ds) ds) ds) ds) ds) ds⟩
theorem q_Z13 (F : Int → Int → List D → Int → List D → Option ((Bool × Int × Int × List D) ⊕ (Int × Int × List D))) (x0 : Int) (x1 : Int) (x2 : List D) (x3 : Int) (x4 : List D) : runLoop (ocOf [e_Z9]) (olOf [m_Z13 F]) A 39 (codeAt (bodyOf Try.f39) 11) ((m_Z13 F).sh.mk' [.I x0, .I x1, .L x2, .I x3, .L x4]) (fun e σ' => some (e, σ')) = c_Z13 F x0 x1 x2 x3 x4 (Sum.elim (fun y => some (.ret, SSt.mk' ⟨(.undef :: .ptr 1000 [0] :: .bool :: .int .i64 :: .int .i64 :: uu 44 ([])), [(1000, .obox (.agg [.rd (.slice (.int .i64))]))]⟩ [.B y.1, .I y.2.1, .I y.2.2.1, .L y.2.2.2])) (fun y => some (.exit 2, SSt.mk' ⟨(.undef :: .ptr 1000 [0] :: .undef :: .int .i64 :: .int .i64 :: uu 44 ([])), [(1000, .obox (.agg [.rd (.slice (.int .i64))]))]⟩ [.I y.1, .I y.2.1, .L y.2.2]))) := by kernel_rfl
theorem m_Z13_ok : ∀ n, (m_Z13 (n_Z13 n)).ok Try.prog (codeAt (bodyOf Try.f39) 11) := by
 intro n
 induction n with
 | zero =>
  intro R ds k r h
  unfold m_Z13 at h
  obtain ⟨x0, d0, rfl, h0⟩ := dI_some h
  obtain ⟨x1, d1, rfl, h1⟩ := dI_some h0
  obtain ⟨x2, d2, rfl, h2⟩ := dL_some h1
  obtain ⟨x3, d3, rfl, h3⟩ := dI_some h2
  obtain ⟨x4, d4, rfl, h4⟩ := dL_some h3
  obtain ⟨rfl, hE⟩ := dE_some h4
  obtain ⟨y, hy, hk⟩ := bnd_some hE
  cases hy
 | succ n ih =>
  intro R ds k r h
  unfold m_Z13 at h
  obtain ⟨x0, d0, rfl, h0⟩ := dI_some h
  obtain ⟨x1, d1, rfl, h1⟩ := dI_some h0
  obtain ⟨x2, d2, rfl, h2⟩ := dL_some h1
  obtain ⟨x3, d3, rfl, h3⟩ := dI_some h2
  obtain ⟨x4, d4, rfl, h4⟩ := dL_some h3
  obtain ⟨rfl, hE⟩ := dE_some h4
  obtain ⟨y, hy, hk⟩ := bnd_some hE
  have hq := q_Z13 (n_Z13 n) x0 x1 x2 x3 x4
  rw [c_Z13_bind] at hq
  rw [show c_Z13 (n_Z13 n) x0 x1 x2 x3 x4 some = some y from hy] at hq
  cases y with
  | inl y =>
   refine ⟨0, _, _, _, hk, rfl, loop_ok px (fx := ⟨Try.func39, by kernel_rfl, by kernel_rfl⟩) (entsOK_cons e_Z9_ok entsOK_nil) (lentsOK_cons ih lentsOK_nil) (by kernel_rfl) ?_⟩
   exact hq
  | inr y =>
   refine ⟨1, _, _, _, hk, rfl, loop_ok px (fx := ⟨Try.func39, by kernel_rfl, by kernel_rfl⟩) (entsOK_cons e_Z9_ok entsOK_nil) (lentsOK_cons ih lentsOK_nil) (by kernel_rfl) ?_⟩
   exact hq
noncomputable def e_Z13 : Lent := m_Z13 (Z13)
theorem e_Z13_ok : (e_Z13).ok Try.prog (codeAt (bodyOf Try.f39) 11) := by
 intro R ds k r h
 unfold e_Z13 m_Z13 at h
 obtain ⟨x0, d0, rfl, h0⟩ := dI_some h
 obtain ⟨x1, d1, rfl, h1⟩ := dI_some h0
 obtain ⟨x2, d2, rfl, h2⟩ := dL_some h1
 obtain ⟨x3, d3, rfl, h3⟩ := dI_some h2
 obtain ⟨x4, d4, rfl, h4⟩ := dL_some h3
 obtain ⟨rfl, hE⟩ := dE_some h4
 obtain ⟨y, hy, hk⟩ := bnd_some hE
 obtain ⟨n, hn⟩ := ev_some hy
 exact m_Z13_ok n R _ k r (show (n_Z13 n x0 x1 x2 x3 x4).bind _ = _ by rw [hn]; exact hk)

/-!-/
def c_Z14 {R : Type} (F : Int → Int → List D → Option ((Bool) ⊕ (Unit))) (x0 : Int) (x1 : Int) (x2 : List D) (k : (Bool) ⊕ (Unit) → Option R) : Option R :=
 bif decide (x1 < x0) then
 if 0 ≤ x1 ∧ x1 < (↑x2.length : Int) then
 (Z9 (↑(x2.getD x1.toNat (D.int 0)).items.length : Int) (1 : Int) (10 : Int)).bind (fun y0 =>
 bif !y0 then
 k (.inl Bool.false)
 else
 if (0 : Int) ≤ (0 : Int) ∧ (0 : Int) < (↑x2.length : Int) then
 bif !decide ((↑(x2.getD x1.toNat (D.int 0)).items.length : Int) = (↑(x2.getD (Int.toNat (0 : Int)) (D.int 0)).items.length : Int)) then
 k (.inl Bool.false)
 else
 (Z13 x0 x1 ((x2.getD x1.toNat (D.int 0)).items) (0 : Int) x2).bind (Sum.elim (fun y1 =>
 k (.inl y1.fst)) (fun y2 =>
 (F y2.fst (IntKind.i64.wrap (y2.snd.fst + 1)) y2.snd.snd).bind k))
 else
 none)
 else
 none
 else
 k (.inr ())
theorem c_Z14_bind {R : Type} (F : Int → Int → List D → Option ((Bool) ⊕ (Unit))) (x0 : Int) (x1 : Int) (x2 : List D) (k : (Bool) ⊕ (Unit) → Option R) : c_Z14 F x0 x1 x2 k = (c_Z14 F x0 x1 x2 some).bind k := by
 unfold c_Z14
 repeat' first|exact bnd_tail|exact bnd_none|exact bnd_leaf|apply bnd_ite|apply bnd_cond|apply bnd_sum|(apply bnd_bind;intro _)|intro _
def n_Z14 : Nat → Int → Int → List D → Option ((Bool) ⊕ (Unit))
 | 0, _, _, _ => none
 | n + 1, x0, x1, x2 => c_Z14 (n_Z14 n) x0 x1 x2 some
noncomputable def Z14 (x0 : Int) (x1 : Int) (x2 : List D) : Option ((Bool) ⊕ (Unit)) := ev (fun n => n_Z14 n x0 x1 x2)
def m_Z14 (F : Int → Int → List D → Option ((Bool) ⊕ (Unit))) : Lent := ⟨5, ⟨(.undef :: .ptr 1000 [0] :: .undef :: .int .i64 :: .int .i64 :: uu 44 ([])), [(1000, .obox (.agg [.rd (.slice (.int .i64))]))]⟩, [(.ret, ⟨(.undef :: .undef :: .bool :: uu 46 ([])), []⟩), (.exit 0, ⟨(uu 49 ([])), []⟩)], fun _ ds k => dI (fun x0 ds => dI (fun x1 ds => dL (fun x2 ds => dE ((F x0 x1 x2).bind (Sum.elim (fun y => k 0 [.B y]) (fun y => k 1 []))) ds) ds) ds) ds⟩
theorem q_Z14 (F : Int → Int → List D → Option ((Bool) ⊕ (Unit))) (x0 : Int) (x1 : Int) (x2 : List D) : runLoop (ocOf [e_Z9]) (olOf [m_Z14 F, e_Z13]) A 39 (codeAt (bodyOf Try.f39) 5) ((m_Z14 F).sh.mk' [.I x0, .I x1, .L x2]) (fun e σ' => some (e, σ')) = c_Z14 F x0 x1 x2 (Sum.elim (fun y => some (.ret, SSt.mk' ⟨(.undef :: .undef :: .bool :: uu 46 ([])), []⟩ [.B y])) (fun y => some (.exit 0, SSt.mk' ⟨(uu 49 ([])), []⟩ []))) := by kernel_rfl
theorem m_Z14_ok : ∀ n, (m_Z14 (n_Z14 n)).ok Try.prog (codeAt (bodyOf Try.f39) 5) := by
 intro n
 induction n with
 | zero =>
  intro R ds k r h
  unfold m_Z14 at h
  obtain ⟨x0, d0, rfl, h0⟩ := dI_some h
  obtain ⟨x1, d1, rfl, h1⟩ := dI_some h0
  obtain ⟨x2, d2, rfl, h2⟩ := dL_some h1
  obtain ⟨rfl, hE⟩ := dE_some h2
  obtain ⟨y, hy, hk⟩ := bnd_some hE
  cases hy
 | succ n ih =>
  intro R ds k r h
  unfold m_Z14 at h
  obtain ⟨x0, d0, rfl, h0⟩ := dI_some h
  obtain ⟨x1, d1, rfl, h1⟩ := dI_some h0
  obtain ⟨x2, d2, rfl, h2⟩ := dL_some h1
  obtain ⟨rfl, hE⟩ := dE_some h2
  obtain ⟨y, hy, hk⟩ := bnd_some hE
  have hq := q_Z14 (n_Z14 n) x0 x1 x2
  rw [c_Z14_bind] at hq
  rw [show c_Z14 (n_Z14 n) x0 x1 x2 some = some y from hy] at hq
  cases y with
  | inl y =>
   refine ⟨0, _, _, _, hk, rfl, loop_ok px (fx := ⟨Try.func39, by kernel_rfl, by kernel_rfl⟩) (entsOK_cons e_Z9_ok entsOK_nil) (lentsOK_cons ih (lentsOK_cons e_Z13_ok lentsOK_nil)) (by kernel_rfl) ?_⟩
   exact hq
  | inr y =>
   refine ⟨1, _, _, _, hk, rfl, loop_ok px (fx := ⟨Try.func39, by kernel_rfl, by kernel_rfl⟩) (entsOK_cons e_Z9_ok entsOK_nil) (lentsOK_cons ih (lentsOK_cons e_Z13_ok lentsOK_nil)) (by kernel_rfl) ?_⟩
   exact hq
noncomputable def e_Z14 : Lent := m_Z14 (Z14)
theorem e_Z14_ok : (e_Z14).ok Try.prog (codeAt (bodyOf Try.f39) 5) := by
 intro R ds k r h
 unfold e_Z14 m_Z14 at h
 obtain ⟨x0, d0, rfl, h0⟩ := dI_some h
 obtain ⟨x1, d1, rfl, h1⟩ := dI_some h0
 obtain ⟨x2, d2, rfl, h2⟩ := dL_some h1
 obtain ⟨rfl, hE⟩ := dE_some h2
 obtain ⟨y, hy, hk⟩ := bnd_some hE
 obtain ⟨n, hn⟩ := ev_some hy
 exact m_Z14_ok n R _ k r (show (n_Z14 n x0 x1 x2).bind _ = _ by rw [hn]; exact hk)

/-!-/
def c_Z15 {R : Type} (x0 : List D) (k : Bool → Option R) : Option R :=
 (Z9 (↑x0.length : Int) (1 : Int) (7 : Int)).bind (fun y0 =>
 bif !y0 then
 k Bool.false
 else
 (Z14 (↑x0.length : Int) (0 : Int) x0).bind (Sum.elim (fun y1 =>
 k y1) (fun y2 =>
 k Bool.true)))
theorem c_Z15_bind {R : Type} (x0 : List D) (k : Bool → Option R) : c_Z15 x0 k = (c_Z15 x0 some).bind k := by
 unfold c_Z15
 repeat' first|exact bnd_tail|exact bnd_none|exact bnd_leaf|apply bnd_ite|apply bnd_cond|apply bnd_sum|(apply bnd_bind;intro _)|intro _
def Z15 (x0 : List D) : Option (Bool) := c_Z15 x0 some
def e_Z15 : Ent := ⟨39, [.agg [.rd (.slice (.int .i64))]], .bool, [.undef], fun _ ds k => dL (fun x0 ds => dE ((Z15 x0).bind (fun y => k [.B y])) ds) ds⟩
theorem q_Z15 (x0 : List D) : runFn (ocOf [e_Z9]) (olOf [e_Z14]) A 39 Try.f39 (Sh.mks e_Z15.sh [.L x0]).1 (fun v os => some (v, os)) = c_Z15 x0 (fun y => some ((e_Z15.res.mk [.B y]).1, (Sh.mks e_Z15.outs (e_Z15.res.mk [.B y]).2).1)) := by kernel_rfl
theorem e_Z15_ok : e_Z15.ok Try.prog A := by
 intro R ds k r h
 unfold e_Z15 at h
 obtain ⟨x0, d0, rfl, h0⟩ := dL_some h
 obtain ⟨rfl, hE⟩ := dE_some h0
 obtain ⟨y, hy, hk⟩ := bnd_some hE
 refine ⟨_, hk, fn_ok px (fx := ⟨Try.func39, by kernel_rfl, by kernel_rfl⟩) (entsOK_cons e_Z9_ok entsOK_nil) (lentsOK_cons e_Z14_ok lentsOK_nil) ?_⟩
 have hq := q_Z15 x0
 rw [c_Z15_bind] at hq
 rw [show c_Z15 x0 some = some y from hy] at hq
 exact hq

/-!-/
def c_Z16 {R : Type} (x0 : List D) (x1 : List D) (k : Bool → Option R) : Option R :=
 (Z12 x1 (0 : Int) x0).bind (Sum.elim (fun y0 =>
 k y0.snd.fst) (fun y1 =>
 (Z15 y1.snd).bind (fun y2 =>
 bif y2 then
 k (decide ((↑y1.fst.length : Int) = (↑y1.snd.length : Int)))
 else
 k Bool.false)))
theorem c_Z16_bind {R : Type} (x0 : List D) (x1 : List D) (k : Bool → Option R) : c_Z16 x0 x1 k = (c_Z16 x0 x1 some).bind k := by
 unfold c_Z16
 repeat' first|exact bnd_tail|exact bnd_none|exact bnd_leaf|apply bnd_ite|apply bnd_cond|apply bnd_sum|(apply bnd_bind;intro _)|intro _
def Z16 (x0 : List D) (x1 : List D) : Option (Bool) := c_Z16 x0 x1 some
def e_Z16 : Ent := ⟨54, [.agg [.rd (.slice (.int .i64))], .rd (.int .i64)], .bool, [.undef, .undef], fun _ ds k => dL (fun x0 ds => dL (fun x1 ds => dE ((Z16 x0 x1).bind (fun y => k [.B y])) ds) ds) ds⟩
theorem q_Z16 (x0 : List D) (x1 : List D) : runFn (ocOf [e_Z15]) (olOf [e_Z12]) A 54 Try.f54 (Sh.mks e_Z16.sh [.L x0, .L x1]).1 (fun v os => some (v, os)) = c_Z16 x0 x1 (fun y => some ((e_Z16.res.mk [.B y]).1, (Sh.mks e_Z16.outs (e_Z16.res.mk [.B y]).2).1)) := by kernel_rfl
theorem e_Z16_ok : e_Z16.ok Try.prog A := by
 intro R ds k r h
 unfold e_Z16 at h
 obtain ⟨x0, d0, rfl, h0⟩ := dL_some h
 obtain ⟨x1, d1, rfl, h1⟩ := dL_some h0
 obtain ⟨rfl, hE⟩ := dE_some h1
 obtain ⟨y, hy, hk⟩ := bnd_some hE
 refine ⟨_, hk, fn_ok px (fx := ⟨Try.func54, by kernel_rfl, by kernel_rfl⟩) (entsOK_cons e_Z15_ok entsOK_nil) (lentsOK_cons e_Z12_ok lentsOK_nil) ?_⟩
 have hq := q_Z16 x0 x1
 rw [c_Z16_bind] at hq
 rw [show c_Z16 x0 x1 some = some y from hy] at hq
 exact hq

/-!-/
def c_Z17 {R : Type} (F : List D → Int → Int → Int → List D → List D → List D → Option (List D × Int × Int × List D × List D × List D)) (x0 : List D) (x1 : Int) (x2 : Int) (x3 : Int) (x4 : List D) (x5 : List D) (x6 : List D) (k : List D × Int × Int × List D × List D × List D → Option R) : Option R :=
 bif decide (x3 < (↑x0.length : Int)) then
 if 0 ≤ x3 ∧ x3 < (↑x0.length : Int) then
 bif !decide ((x0.getD x3.toNat (D.int 0)).toInt = x1) then
 if 0 ≤ x3 ∧ x3 < (↑x0.length : Int) then
 if x6.length + [D.int (x0.getD x3.toNat (D.int 0)).toInt].length ≤ (4294967296 : Nat) then
 (F x0 x1 x2 (IntKind.i64.wrap (x3 + 1)) x4 x5 (x6 ++ [D.int (x0.getD x3.toNat (D.int 0)).toInt])).bind k
 else
 none
 else
 none
 else
 (F x0 x1 x2 (IntKind.i64.wrap (x3 + 1)) x4 x5 x6).bind k
 else
 none
 else
 k (x0, x1, x2, x4, x5, x6)
theorem c_Z17_bind {R : Type} (F : List D → Int → Int → Int → List D → List D → List D → Option (List D × Int × Int × List D × List D × List D)) (x0 : List D) (x1 : Int) (x2 : Int) (x3 : Int) (x4 : List D) (x5 : List D) (x6 : List D) (k : List D × Int × Int × List D × List D × List D → Option R) : c_Z17 F x0 x1 x2 x3 x4 x5 x6 k = (c_Z17 F x0 x1 x2 x3 x4 x5 x6 some).bind k := by
 unfold c_Z17
 repeat' first|exact bnd_tail|exact bnd_none|exact bnd_leaf|apply bnd_ite|apply bnd_cond|apply bnd_sum|(apply bnd_bind;intro _)|intro _
def n_Z17 : Nat → List D → Int → Int → Int → List D → List D → List D → Option (List D × Int × Int × List D × List D × List D)
 | 0, _, _, _, _, _, _, _ => none
 | n + 1, x0, x1, x2, x3, x4, x5, x6 => c_Z17 (n_Z17 n) x0 x1 x2 x3 x4 x5 x6 some
noncomputable def Z17 (x0 : List D) (x1 : Int) (x2 : Int) (x3 : Int) (x4 : List D) (x5 : List D) (x6 : List D) : Option (List D × Int × Int × List D × List D × List D) := ev (fun n => n_Z17 n x0 x1 x2 x3 x4 x5 x6)
def m_Z17 (F : List D → Int → Int → Int → List D → List D → List D → Option (List D × Int × Int × List D × List D × List D)) : Lent := ⟨10, ⟨(.undef :: .rd (.int .i64) :: .ptr 1000 [0] :: .undef :: .undef :: .undef :: .full 1001 [] (.int .i64) :: .int .i64 :: .full 1002 [] (.int .i64) :: .int .i64 :: .int .i64 :: uu 90 ([])), [(1000, .obox (.agg [.rd (.slice (.int .i64))])), (1001, .own (.int .i64)), (1002, .own (.int .i64))]⟩, [(.exit 2, ⟨(.undef :: .rd (.int .i64) :: .ptr 1000 [0] :: .undef :: .undef :: .undef :: .full 1001 [] (.int .i64) :: .int .i64 :: .full 1002 [] (.int .i64) :: .int .i64 :: uu 91 ([])), [(1000, .obox (.agg [.rd (.slice (.int .i64))])), (1001, .own (.int .i64)), (1002, .own (.int .i64))]⟩)], fun _ ds k => dL (fun x0 ds => dI (fun x1 ds => dI (fun x2 ds => dI (fun x3 ds => dL (fun x4 ds => dL (fun x5 ds => dL (fun x6 ds => dE ((F x0 x1 x2 x3 x4 x5 x6).bind (fun y => k 0 [.L y.1, .I y.2.1, .I y.2.2.1, .L y.2.2.2.1, .L y.2.2.2.2.1, .L y.2.2.2.2.2])) ds) ds) ds) ds) ds) ds) ds) ds⟩
theorem q_Z17 (F : List D → Int → Int → Int → List D → List D → List D → Option (List D × Int × Int × List D × List D × List D)) (x0 : List D) (x1 : Int) (x2 : Int) (x3 : Int) (x4 : List D) (x5 : List D) (x6 : List D) : runLoop (ocOf []) (olOf [m_Z17 F]) A 36 (codeAt (bodyOf Try.f36) 10) ((m_Z17 F).sh.mk' [.L x0, .I x1, .I x2, .I x3, .L x4, .L x5, .L x6]) (fun e σ' => some (e, σ')) = c_Z17 F x0 x1 x2 x3 x4 x5 x6 (fun y => some (.exit 2, SSt.mk' ⟨(.undef :: .rd (.int .i64) :: .ptr 1000 [0] :: .undef :: .undef :: .undef :: .full 1001 [] (.int .i64) :: .int .i64 :: .full 1002 [] (.int .i64) :: .int .i64 :: uu 91 ([])), [(1000, .obox (.agg [.rd (.slice (.int .i64))])), (1001, .own (.int .i64)), (1002, .own (.int .i64))]⟩ [.L y.1, .I y.2.1, .I y.2.2.1, .L y.2.2.2.1, .L y.2.2.2.2.1, .L y.2.2.2.2.2])) := by kernel_rfl
theorem m_Z17_ok : ∀ n, (m_Z17 (n_Z17 n)).ok Try.prog (codeAt (bodyOf Try.f36) 10) := by
 intro n
 induction n with
 | zero =>
  intro R ds k r h
  unfold m_Z17 at h
  obtain ⟨x0, d0, rfl, h0⟩ := dL_some h
  obtain ⟨x1, d1, rfl, h1⟩ := dI_some h0
  obtain ⟨x2, d2, rfl, h2⟩ := dI_some h1
  obtain ⟨x3, d3, rfl, h3⟩ := dI_some h2
  obtain ⟨x4, d4, rfl, h4⟩ := dL_some h3
  obtain ⟨x5, d5, rfl, h5⟩ := dL_some h4
  obtain ⟨x6, d6, rfl, h6⟩ := dL_some h5
  obtain ⟨rfl, hE⟩ := dE_some h6
  obtain ⟨y, hy, hk⟩ := bnd_some hE
  cases hy
 | succ n ih =>
  intro R ds k r h
  unfold m_Z17 at h
  obtain ⟨x0, d0, rfl, h0⟩ := dL_some h
  obtain ⟨x1, d1, rfl, h1⟩ := dI_some h0
  obtain ⟨x2, d2, rfl, h2⟩ := dI_some h1
  obtain ⟨x3, d3, rfl, h3⟩ := dI_some h2
  obtain ⟨x4, d4, rfl, h4⟩ := dL_some h3
  obtain ⟨x5, d5, rfl, h5⟩ := dL_some h4
  obtain ⟨x6, d6, rfl, h6⟩ := dL_some h5
  obtain ⟨rfl, hE⟩ := dE_some h6
  obtain ⟨y, hy, hk⟩ := bnd_some hE
  have hq := q_Z17 (n_Z17 n) x0 x1 x2 x3 x4 x5 x6
  rw [c_Z17_bind] at hq
  rw [show c_Z17 (n_Z17 n) x0 x1 x2 x3 x4 x5 x6 some = some y from hy] at hq
  refine ⟨0, _, _, _, hk, rfl, loop_ok px (fx := ⟨Try.func36, by kernel_rfl, by kernel_rfl⟩) entsOK_nil (lentsOK_cons ih lentsOK_nil) (by kernel_rfl) ?_⟩
  exact hq
noncomputable def e_Z17 : Lent := m_Z17 (Z17)
theorem e_Z17_ok : (e_Z17).ok Try.prog (codeAt (bodyOf Try.f36) 10) := by
 intro R ds k r h
 unfold e_Z17 m_Z17 at h
 obtain ⟨x0, d0, rfl, h0⟩ := dL_some h
 obtain ⟨x1, d1, rfl, h1⟩ := dI_some h0
 obtain ⟨x2, d2, rfl, h2⟩ := dI_some h1
 obtain ⟨x3, d3, rfl, h3⟩ := dI_some h2
 obtain ⟨x4, d4, rfl, h4⟩ := dL_some h3
 obtain ⟨x5, d5, rfl, h5⟩ := dL_some h4
 obtain ⟨x6, d6, rfl, h6⟩ := dL_some h5
 obtain ⟨rfl, hE⟩ := dE_some h6
 obtain ⟨y, hy, hk⟩ := bnd_some hE
 obtain ⟨n, hn⟩ := ev_some hy
 exact m_Z17_ok n R _ k r (show (n_Z17 n x0 x1 x2 x3 x4 x5 x6).bind _ = _ by rw [hn]; exact hk)

/-!-/
def c_Z18 {R : Type} (F : List D → Int → Int → Int → Int → List D → Option (Int × Int)) (x0 : List D) (x1 : Int) (x2 : Int) (x3 : Int) (x4 : Int) (x5 : List D) (k : Int × Int → Option R) : Option R :=
 bif decide (x4 < (↑x0.length : Int)) then
 if 0 ≤ x4 ∧ x4 < (↑x0.length : Int) then
 if (0 : Int) ≤ (x0.getD x4.toNat (D.int 0)).toInt ∧ (x0.getD x4.toNat (D.int 0)).toInt < (↑x5.length : Int) then
 if 0 ≤ x1 ∧ x1 < (↑(x5.getD (x0.getD x4.toNat (D.int 0)).toInt.toNat (D.int 0)).items.length : Int) then
 bif decide ((0 : Int) < ((x5.getD (x0.getD x4.toNat (D.int 0)).toInt.toNat (D.int 0)).items.getD x1.toNat (D.int 0)).toInt) then
 bif decide (x2 < (0 : Int)) then
 (F x0 x1 x4 x4 (IntKind.i64.wrap (x4 + 1)) x5).bind k
 else
 (F x0 x1 x2 x4 (IntKind.i64.wrap (x4 + 1)) x5).bind k
 else
 (F x0 x1 x2 x3 (IntKind.i64.wrap (x4 + 1)) x5).bind k
 else
 none
 else
 none
 else
 none
 else
 k (x2, x3)
theorem c_Z18_bind {R : Type} (F : List D → Int → Int → Int → Int → List D → Option (Int × Int)) (x0 : List D) (x1 : Int) (x2 : Int) (x3 : Int) (x4 : Int) (x5 : List D) (k : Int × Int → Option R) : c_Z18 F x0 x1 x2 x3 x4 x5 k = (c_Z18 F x0 x1 x2 x3 x4 x5 some).bind k := by
 unfold c_Z18
 repeat' first|exact bnd_tail|exact bnd_none|exact bnd_leaf|apply bnd_ite|apply bnd_cond|apply bnd_sum|(apply bnd_bind;intro _)|intro _
def n_Z18 : Nat → List D → Int → Int → Int → Int → List D → Option (Int × Int)
 | 0, _, _, _, _, _, _ => none
 | n + 1, x0, x1, x2, x3, x4, x5 => c_Z18 (n_Z18 n) x0 x1 x2 x3 x4 x5 some
noncomputable def Z18 (x0 : List D) (x1 : Int) (x2 : Int) (x3 : Int) (x4 : Int) (x5 : List D) : Option (Int × Int) := ev (fun n => n_Z18 n x0 x1 x2 x3 x4 x5)
def m_Z18 (F : List D → Int → Int → Int → Int → List D → Option (Int × Int)) : Lent := ⟨3, ⟨(.undef :: .rd (.int .i64) :: .int .i64 :: .ptr 1000 [0] :: uu 4 (.int .i64 :: .int .i64 :: .int .i64 :: uu 24 ([]))), [(1000, .obox (.agg [.rd (.slice (.int .i64))]))]⟩, [(.exit 0, ⟨(uu 8 (.int .i64 :: .int .i64 :: uu 25 ([]))), []⟩)], fun _ ds k => dL (fun x0 ds => dI (fun x1 ds => dI (fun x2 ds => dI (fun x3 ds => dI (fun x4 ds => dL (fun x5 ds => dE ((F x0 x1 x2 x3 x4 x5).bind (fun y => k 0 [.I y.1, .I y.2])) ds) ds) ds) ds) ds) ds) ds⟩
theorem q_Z18 (F : List D → Int → Int → Int → Int → List D → Option (Int × Int)) (x0 : List D) (x1 : Int) (x2 : Int) (x3 : Int) (x4 : Int) (x5 : List D) : runLoop (ocOf []) (olOf [m_Z18 F]) A 55 (codeAt (bodyOf Try.f55) 3) ((m_Z18 F).sh.mk' [.L x0, .I x1, .I x2, .I x3, .I x4, .L x5]) (fun e σ' => some (e, σ')) = c_Z18 F x0 x1 x2 x3 x4 x5 (fun y => some (.exit 0, SSt.mk' ⟨(uu 8 (.int .i64 :: .int .i64 :: uu 25 ([]))), []⟩ [.I y.1, .I y.2])) := by kernel_rfl
theorem m_Z18_ok : ∀ n, (m_Z18 (n_Z18 n)).ok Try.prog (codeAt (bodyOf Try.f55) 3) := by
 intro n
 induction n with
 | zero =>
  intro R ds k r h
  unfold m_Z18 at h
  obtain ⟨x0, d0, rfl, h0⟩ := dL_some h
  obtain ⟨x1, d1, rfl, h1⟩ := dI_some h0
  obtain ⟨x2, d2, rfl, h2⟩ := dI_some h1
  obtain ⟨x3, d3, rfl, h3⟩ := dI_some h2
  obtain ⟨x4, d4, rfl, h4⟩ := dI_some h3
  obtain ⟨x5, d5, rfl, h5⟩ := dL_some h4
  obtain ⟨rfl, hE⟩ := dE_some h5
  obtain ⟨y, hy, hk⟩ := bnd_some hE
  cases hy
 | succ n ih =>
  intro R ds k r h
  unfold m_Z18 at h
  obtain ⟨x0, d0, rfl, h0⟩ := dL_some h
  obtain ⟨x1, d1, rfl, h1⟩ := dI_some h0
  obtain ⟨x2, d2, rfl, h2⟩ := dI_some h1
  obtain ⟨x3, d3, rfl, h3⟩ := dI_some h2
  obtain ⟨x4, d4, rfl, h4⟩ := dI_some h3
  obtain ⟨x5, d5, rfl, h5⟩ := dL_some h4
  obtain ⟨rfl, hE⟩ := dE_some h5
  obtain ⟨y, hy, hk⟩ := bnd_some hE
  have hq := q_Z18 (n_Z18 n) x0 x1 x2 x3 x4 x5
  rw [c_Z18_bind] at hq
  rw [show c_Z18 (n_Z18 n) x0 x1 x2 x3 x4 x5 some = some y from hy] at hq
  refine ⟨0, _, _, _, hk, rfl, loop_ok px (fx := ⟨Try.func55, by kernel_rfl, by kernel_rfl⟩) entsOK_nil (lentsOK_cons ih lentsOK_nil) (by kernel_rfl) ?_⟩
  exact hq
noncomputable def e_Z18 : Lent := m_Z18 (Z18)
theorem e_Z18_ok : (e_Z18).ok Try.prog (codeAt (bodyOf Try.f55) 3) := by
 intro R ds k r h
 unfold e_Z18 m_Z18 at h
 obtain ⟨x0, d0, rfl, h0⟩ := dL_some h
 obtain ⟨x1, d1, rfl, h1⟩ := dI_some h0
 obtain ⟨x2, d2, rfl, h2⟩ := dI_some h1
 obtain ⟨x3, d3, rfl, h3⟩ := dI_some h2
 obtain ⟨x4, d4, rfl, h4⟩ := dI_some h3
 obtain ⟨x5, d5, rfl, h5⟩ := dL_some h4
 obtain ⟨rfl, hE⟩ := dE_some h5
 obtain ⟨y, hy, hk⟩ := bnd_some hE
 obtain ⟨n, hn⟩ := ev_some hy
 exact m_Z18_ok n R _ k r (show (n_Z18 n x0 x1 x2 x3 x4 x5).bind _ = _ by rw [hn]; exact hk)

/-!-/
def c_Z19 {R : Type} (x0 : List D) (x1 : List D) (x2 : Int) (k : Int × Int → Option R) : Option R :=
 (Z18 x1 x2 (-1 : Int) (-1 : Int) (0 : Int) x0).bind (fun y0 =>
 k (y0.fst, y0.snd))
theorem c_Z19_bind {R : Type} (x0 : List D) (x1 : List D) (x2 : Int) (k : Int × Int → Option R) : c_Z19 x0 x1 x2 k = (c_Z19 x0 x1 x2 some).bind k := by
 unfold c_Z19
 repeat' first|exact bnd_tail|exact bnd_none|exact bnd_leaf|apply bnd_ite|apply bnd_cond|apply bnd_sum|(apply bnd_bind;intro _)|intro _
def Z19 (x0 : List D) (x1 : List D) (x2 : Int) : Option (Int × Int) := c_Z19 x0 x1 x2 some
def e_Z19 : Ent := ⟨55, [.agg [.rd (.slice (.int .i64))], .rd (.int .i64), .int .i64], .tup [.int .i64, .int .i64], [.undef, .undef, .undef], fun _ ds k => dL (fun x0 ds => dL (fun x1 ds => dI (fun x2 ds => dE ((Z19 x0 x1 x2).bind (fun y => k [.I y.1, .I y.2])) ds) ds) ds) ds⟩
theorem q_Z19 (x0 : List D) (x1 : List D) (x2 : Int) : runFn (ocOf []) (olOf [e_Z18]) A 55 Try.f55 (Sh.mks e_Z19.sh [.L x0, .L x1, .I x2]).1 (fun v os => some (v, os)) = c_Z19 x0 x1 x2 (fun y => some ((e_Z19.res.mk [.I y.1, .I y.2]).1, (Sh.mks e_Z19.outs (e_Z19.res.mk [.I y.1, .I y.2]).2).1)) := by kernel_rfl
theorem e_Z19_ok : e_Z19.ok Try.prog A := by
 intro R ds k r h
 unfold e_Z19 at h
 obtain ⟨x0, d0, rfl, h0⟩ := dL_some h
 obtain ⟨x1, d1, rfl, h1⟩ := dL_some h0
 obtain ⟨x2, d2, rfl, h2⟩ := dI_some h1
 obtain ⟨rfl, hE⟩ := dE_some h2
 obtain ⟨y, hy, hk⟩ := bnd_some hE
 refine ⟨_, hk, fn_ok px (fx := ⟨Try.func55, by kernel_rfl, by kernel_rfl⟩) entsOK_nil (lentsOK_cons e_Z18_ok lentsOK_nil) ?_⟩
 have hq := q_Z19 x0 x1 x2
 rw [c_Z19_bind] at hq
 rw [show c_Z19 x0 x1 x2 some = some y from hy] at hq
 exact hq

/-!-/
def c_Z20 {R : Type} (F : List D → Int → Int → Int → Int → Int → List D → List D → List D → Option (List D × Int × Int × Int × List D × List D × List D)) (x0 : List D) (x1 : Int) (x2 : Int) (x3 : Int) (x4 : Int) (x5 : Int) (x6 : List D) (x7 : List D) (x8 : List D) (k : List D × Int × Int × Int × List D × List D × List D → Option R) : Option R :=
 bif decide (x5 < x4) then
 if 0 ≤ x5 ∧ x5 < (↑x0.length : Int) then
 bif !decide ((x0.getD x5.toNat (D.int 0)).toInt = x1) then
 if 0 ≤ x5 ∧ x5 < (↑x0.length : Int) then
 if (0 : Int) ≤ (x0.getD x5.toNat (D.int 0)).toInt ∧ (x0.getD x5.toNat (D.int 0)).toInt < (↑x6.length : Int) then
 if 0 ≤ x3 ∧ x3 < (↑(x6.getD (x0.getD x5.toNat (D.int 0)).toInt.toNat (D.int 0)).items.length : Int) then
 bif decide (((x6.getD (x0.getD x5.toNat (D.int 0)).toInt.toNat (D.int 0)).items.getD x3.toNat (D.int 0)).toInt = (0 : Int)) then
 (F x0 x1 (IntKind.i64.wrap (x2 + 1)) x3 x4 (IntKind.i64.wrap (x5 + 1)) x6 x7 x8).bind k
 else
 (F x0 x1 x2 x3 x4 (IntKind.i64.wrap (x5 + 1)) x6 x7 x8).bind k
 else
 none
 else
 none
 else
 none
 else
 (F x0 x1 x2 x3 x4 (IntKind.i64.wrap (x5 + 1)) x6 x7 x8).bind k
 else
 none
 else
 k (x0, x1, x2, x3, x6, x7, x8)
theorem c_Z20_bind {R : Type} (F : List D → Int → Int → Int → Int → Int → List D → List D → List D → Option (List D × Int × Int × Int × List D × List D × List D)) (x0 : List D) (x1 : Int) (x2 : Int) (x3 : Int) (x4 : Int) (x5 : Int) (x6 : List D) (x7 : List D) (x8 : List D) (k : List D × Int × Int × Int × List D × List D × List D → Option R) : c_Z20 F x0 x1 x2 x3 x4 x5 x6 x7 x8 k = (c_Z20 F x0 x1 x2 x3 x4 x5 x6 x7 x8 some).bind k := by
 unfold c_Z20
 repeat' first|exact bnd_tail|exact bnd_none|exact bnd_leaf|apply bnd_ite|apply bnd_cond|apply bnd_sum|(apply bnd_bind;intro _)|intro _
def n_Z20 : Nat → List D → Int → Int → Int → Int → Int → List D → List D → List D → Option (List D × Int × Int × Int × List D × List D × List D)
 | 0, _, _, _, _, _, _, _, _, _ => none
 | n + 1, x0, x1, x2, x3, x4, x5, x6, x7, x8 => c_Z20 (n_Z20 n) x0 x1 x2 x3 x4 x5 x6 x7 x8 some
noncomputable def Z20 (x0 : List D) (x1 : Int) (x2 : Int) (x3 : Int) (x4 : Int) (x5 : Int) (x6 : List D) (x7 : List D) (x8 : List D) : Option (List D × Int × Int × Int × List D × List D × List D) := ev (fun n => n_Z20 n x0 x1 x2 x3 x4 x5 x6 x7 x8)
def m_Z20 (F : List D → Int → Int → Int → Int → Int → List D → List D → List D → Option (List D × Int × Int × Int × List D × List D × List D)) : Lent := ⟨19, ⟨(.undef :: .rd (.int .i64) :: .ptr 1000 [0] :: .undef :: .undef :: .undef :: .full 1001 [] (.int .i64) :: .int .i64 :: .full 1002 [] (.int .i64) :: .int .i64 :: .undef :: .int .i64 :: .undef :: .int .i64 :: .int .i64 :: uu 86 ([])), [(1000, .obox (.agg [.rd (.slice (.int .i64))])), (1001, .own (.int .i64)), (1002, .own (.int .i64))]⟩, [(.exit 6, ⟨(.undef :: .rd (.int .i64) :: .ptr 1000 [0] :: .undef :: .undef :: .undef :: .full 1001 [] (.int .i64) :: .int .i64 :: .full 1002 [] (.int .i64) :: .int .i64 :: .undef :: .int .i64 :: uu 89 ([])), [(1000, .obox (.agg [.rd (.slice (.int .i64))])), (1001, .own (.int .i64)), (1002, .own (.int .i64))]⟩)], fun _ ds k => dL (fun x0 ds => dI (fun x1 ds => dI (fun x2 ds => dI (fun x3 ds => dI (fun x4 ds => dI (fun x5 ds => dL (fun x6 ds => dL (fun x7 ds => dL (fun x8 ds => dE ((F x0 x1 x2 x3 x4 x5 x6 x7 x8).bind (fun y => k 0 [.L y.1, .I y.2.1, .I y.2.2.1, .I y.2.2.2.1, .L y.2.2.2.2.1, .L y.2.2.2.2.2.1, .L y.2.2.2.2.2.2])) ds) ds) ds) ds) ds) ds) ds) ds) ds) ds⟩
theorem q_Z20 (F : List D → Int → Int → Int → Int → Int → List D → List D → List D → Option (List D × Int × Int × Int × List D × List D × List D)) (x0 : List D) (x1 : Int) (x2 : Int) (x3 : Int) (x4 : Int) (x5 : Int) (x6 : List D) (x7 : List D) (x8 : List D) : runLoop (ocOf []) (olOf [m_Z20 F]) A 36 (codeAt (bodyOf Try.f36) 19) ((m_Z20 F).sh.mk' [.L x0, .I x1, .I x2, .I x3, .I x4, .I x5, .L x6, .L x7, .L x8]) (fun e σ' => some (e, σ')) = c_Z20 F x0 x1 x2 x3 x4 x5 x6 x7 x8 (fun y => some (.exit 6, SSt.mk' ⟨(.undef :: .rd (.int .i64) :: .ptr 1000 [0] :: .undef :: .undef :: .undef :: .full 1001 [] (.int .i64) :: .int .i64 :: .full 1002 [] (.int .i64) :: .int .i64 :: .undef :: .int .i64 :: uu 89 ([])), [(1000, .obox (.agg [.rd (.slice (.int .i64))])), (1001, .own (.int .i64)), (1002, .own (.int .i64))]⟩ [.L y.1, .I y.2.1, .I y.2.2.1, .I y.2.2.2.1, .L y.2.2.2.2.1, .L y.2.2.2.2.2.1, .L y.2.2.2.2.2.2])) := by kernel_rfl
theorem m_Z20_ok : ∀ n, (m_Z20 (n_Z20 n)).ok Try.prog (codeAt (bodyOf Try.f36) 19) := by
 intro n
 induction n with
 | zero =>
  intro R ds k r h
  unfold m_Z20 at h
  obtain ⟨x0, d0, rfl, h0⟩ := dL_some h
  obtain ⟨x1, d1, rfl, h1⟩ := dI_some h0
  obtain ⟨x2, d2, rfl, h2⟩ := dI_some h1
  obtain ⟨x3, d3, rfl, h3⟩ := dI_some h2
  obtain ⟨x4, d4, rfl, h4⟩ := dI_some h3
  obtain ⟨x5, d5, rfl, h5⟩ := dI_some h4
  obtain ⟨x6, d6, rfl, h6⟩ := dL_some h5
  obtain ⟨x7, d7, rfl, h7⟩ := dL_some h6
  obtain ⟨x8, d8, rfl, h8⟩ := dL_some h7
  obtain ⟨rfl, hE⟩ := dE_some h8
  obtain ⟨y, hy, hk⟩ := bnd_some hE
  cases hy
 | succ n ih =>
  intro R ds k r h
  unfold m_Z20 at h
  obtain ⟨x0, d0, rfl, h0⟩ := dL_some h
  obtain ⟨x1, d1, rfl, h1⟩ := dI_some h0
  obtain ⟨x2, d2, rfl, h2⟩ := dI_some h1
  obtain ⟨x3, d3, rfl, h3⟩ := dI_some h2
  obtain ⟨x4, d4, rfl, h4⟩ := dI_some h3
  obtain ⟨x5, d5, rfl, h5⟩ := dI_some h4
  obtain ⟨x6, d6, rfl, h6⟩ := dL_some h5
  obtain ⟨x7, d7, rfl, h7⟩ := dL_some h6
  obtain ⟨x8, d8, rfl, h8⟩ := dL_some h7
  obtain ⟨rfl, hE⟩ := dE_some h8
  obtain ⟨y, hy, hk⟩ := bnd_some hE
  have hq := q_Z20 (n_Z20 n) x0 x1 x2 x3 x4 x5 x6 x7 x8
  rw [c_Z20_bind] at hq
  rw [show c_Z20 (n_Z20 n) x0 x1 x2 x3 x4 x5 x6 x7 x8 some = some y from hy] at hq
  refine ⟨0, _, _, _, hk, rfl, loop_ok px (fx := ⟨Try.func36, by kernel_rfl, by kernel_rfl⟩) entsOK_nil (lentsOK_cons ih lentsOK_nil) (by kernel_rfl) ?_⟩
  exact hq
noncomputable def e_Z20 : Lent := m_Z20 (Z20)
theorem e_Z20_ok : (e_Z20).ok Try.prog (codeAt (bodyOf Try.f36) 19) := by
 intro R ds k r h
 unfold e_Z20 m_Z20 at h
 obtain ⟨x0, d0, rfl, h0⟩ := dL_some h
 obtain ⟨x1, d1, rfl, h1⟩ := dI_some h0
 obtain ⟨x2, d2, rfl, h2⟩ := dI_some h1
 obtain ⟨x3, d3, rfl, h3⟩ := dI_some h2
 obtain ⟨x4, d4, rfl, h4⟩ := dI_some h3
 obtain ⟨x5, d5, rfl, h5⟩ := dI_some h4
 obtain ⟨x6, d6, rfl, h6⟩ := dL_some h5
 obtain ⟨x7, d7, rfl, h7⟩ := dL_some h6
 obtain ⟨x8, d8, rfl, h8⟩ := dL_some h7
 obtain ⟨rfl, hE⟩ := dE_some h8
 obtain ⟨y, hy, hk⟩ := bnd_some hE
 obtain ⟨n, hn⟩ := ev_some hy
 exact m_Z20_ok n R _ k r (show (n_Z20 n x0 x1 x2 x3 x4 x5 x6 x7 x8).bind _ = _ by rw [hn]; exact hk)

/-!-/
def c_Z21 {R : Type} (F : List D → Int → Int → Int → List D → List D → List D → Option (List D × Int × Int × List D × List D × List D)) (x0 : List D) (x1 : Int) (x2 : Int) (x3 : Int) (x4 : List D) (x5 : List D) (x6 : List D) (k : List D × Int × Int × List D × List D × List D → Option R) : Option R :=
 if (0 : Int) ≤ (0 : Int) ∧ (0 : Int) < (↑x4.length : Int) then
 bif decide (x3 < (↑(x4.getD (Int.toNat (0 : Int)) (D.int 0)).items.length : Int)) then
 (Z19 x4 x0 x3).bind (fun y0 =>
 (Z20 x0 x1 x2 x3 y0.snd y0.fst x4 x5 x6).bind (fun y1 =>
 (F y1.fst y1.snd.fst y1.snd.snd.fst (IntKind.i64.wrap (y1.snd.snd.snd.fst + 1)) y1.snd.snd.snd.snd.fst y1.snd.snd.snd.snd.snd.fst y1.snd.snd.snd.snd.snd.snd).bind k))
 else
 k (x0, x1, x2, x4, x5, x6)
 else
 none
theorem c_Z21_bind {R : Type} (F : List D → Int → Int → Int → List D → List D → List D → Option (List D × Int × Int × List D × List D × List D)) (x0 : List D) (x1 : Int) (x2 : Int) (x3 : Int) (x4 : List D) (x5 : List D) (x6 : List D) (k : List D × Int × Int × List D × List D × List D → Option R) : c_Z21 F x0 x1 x2 x3 x4 x5 x6 k = (c_Z21 F x0 x1 x2 x3 x4 x5 x6 some).bind k := by
 unfold c_Z21
 repeat' first|exact bnd_tail|exact bnd_none|exact bnd_leaf|apply bnd_ite|apply bnd_cond|apply bnd_sum|(apply bnd_bind;intro _)|intro _
def n_Z21 : Nat → List D → Int → Int → Int → List D → List D → List D → Option (List D × Int × Int × List D × List D × List D)
 | 0, _, _, _, _, _, _, _ => none
 | n + 1, x0, x1, x2, x3, x4, x5, x6 => c_Z21 (n_Z21 n) x0 x1 x2 x3 x4 x5 x6 some
noncomputable def Z21 (x0 : List D) (x1 : Int) (x2 : Int) (x3 : Int) (x4 : List D) (x5 : List D) (x6 : List D) : Option (List D × Int × Int × List D × List D × List D) := ev (fun n => n_Z21 n x0 x1 x2 x3 x4 x5 x6)
def m_Z21 (F : List D → Int → Int → Int → List D → List D → List D → Option (List D × Int × Int × List D × List D × List D)) : Lent := ⟨15, ⟨(.undef :: .rd (.int .i64) :: .ptr 1000 [0] :: .undef :: .undef :: .undef :: .full 1001 [] (.int .i64) :: .int .i64 :: .full 1002 [] (.int .i64) :: .int .i64 :: .undef :: .int .i64 :: uu 89 ([])), [(1000, .obox (.agg [.rd (.slice (.int .i64))])), (1001, .own (.int .i64)), (1002, .own (.int .i64))]⟩, [(.exit 4, ⟨(.undef :: .rd (.int .i64) :: .ptr 1000 [0] :: .undef :: .undef :: .undef :: .full 1001 [] (.int .i64) :: .int .i64 :: .full 1002 [] (.int .i64) :: .int .i64 :: uu 91 ([])), [(1000, .obox (.agg [.rd (.slice (.int .i64))])), (1001, .own (.int .i64)), (1002, .own (.int .i64))]⟩)], fun _ ds k => dL (fun x0 ds => dI (fun x1 ds => dI (fun x2 ds => dI (fun x3 ds => dL (fun x4 ds => dL (fun x5 ds => dL (fun x6 ds => dE ((F x0 x1 x2 x3 x4 x5 x6).bind (fun y => k 0 [.L y.1, .I y.2.1, .I y.2.2.1, .L y.2.2.2.1, .L y.2.2.2.2.1, .L y.2.2.2.2.2])) ds) ds) ds) ds) ds) ds) ds) ds⟩
theorem q_Z21 (F : List D → Int → Int → Int → List D → List D → List D → Option (List D × Int × Int × List D × List D × List D)) (x0 : List D) (x1 : Int) (x2 : Int) (x3 : Int) (x4 : List D) (x5 : List D) (x6 : List D) : runLoop (ocOf [e_Z19]) (olOf [m_Z21 F, e_Z20]) A 36 (codeAt (bodyOf Try.f36) 15) ((m_Z21 F).sh.mk' [.L x0, .I x1, .I x2, .I x3, .L x4, .L x5, .L x6]) (fun e σ' => some (e, σ')) = c_Z21 F x0 x1 x2 x3 x4 x5 x6 (fun y => some (.exit 4, SSt.mk' ⟨(.undef :: .rd (.int .i64) :: .ptr 1000 [0] :: .undef :: .undef :: .undef :: .full 1001 [] (.int .i64) :: .int .i64 :: .full 1002 [] (.int .i64) :: .int .i64 :: uu 91 ([])), [(1000, .obox (.agg [.rd (.slice (.int .i64))])), (1001, .own (.int .i64)), (1002, .own (.int .i64))]⟩ [.L y.1, .I y.2.1, .I y.2.2.1, .L y.2.2.2.1, .L y.2.2.2.2.1, .L y.2.2.2.2.2])) := by kernel_rfl
theorem m_Z21_ok : ∀ n, (m_Z21 (n_Z21 n)).ok Try.prog (codeAt (bodyOf Try.f36) 15) := by
 intro n
 induction n with
 | zero =>
  intro R ds k r h
  unfold m_Z21 at h
  obtain ⟨x0, d0, rfl, h0⟩ := dL_some h
  obtain ⟨x1, d1, rfl, h1⟩ := dI_some h0
  obtain ⟨x2, d2, rfl, h2⟩ := dI_some h1
  obtain ⟨x3, d3, rfl, h3⟩ := dI_some h2
  obtain ⟨x4, d4, rfl, h4⟩ := dL_some h3
  obtain ⟨x5, d5, rfl, h5⟩ := dL_some h4
  obtain ⟨x6, d6, rfl, h6⟩ := dL_some h5
  obtain ⟨rfl, hE⟩ := dE_some h6
  obtain ⟨y, hy, hk⟩ := bnd_some hE
  cases hy
 | succ n ih =>
  intro R ds k r h
  unfold m_Z21 at h
  obtain ⟨x0, d0, rfl, h0⟩ := dL_some h
  obtain ⟨x1, d1, rfl, h1⟩ := dI_some h0
  obtain ⟨x2, d2, rfl, h2⟩ := dI_some h1
  obtain ⟨x3, d3, rfl, h3⟩ := dI_some h2
  obtain ⟨x4, d4, rfl, h4⟩ := dL_some h3
  obtain ⟨x5, d5, rfl, h5⟩ := dL_some h4
  obtain ⟨x6, d6, rfl, h6⟩ := dL_some h5
  obtain ⟨rfl, hE⟩ := dE_some h6
  obtain ⟨y, hy, hk⟩ := bnd_some hE
  have hq := q_Z21 (n_Z21 n) x0 x1 x2 x3 x4 x5 x6
  rw [c_Z21_bind] at hq
  rw [show c_Z21 (n_Z21 n) x0 x1 x2 x3 x4 x5 x6 some = some y from hy] at hq
  refine ⟨0, _, _, _, hk, rfl, loop_ok px (fx := ⟨Try.func36, by kernel_rfl, by kernel_rfl⟩) (entsOK_cons e_Z19_ok entsOK_nil) (lentsOK_cons ih (lentsOK_cons e_Z20_ok lentsOK_nil)) (by kernel_rfl) ?_⟩
  exact hq
noncomputable def e_Z21 : Lent := m_Z21 (Z21)
theorem e_Z21_ok : (e_Z21).ok Try.prog (codeAt (bodyOf Try.f36) 15) := by
 intro R ds k r h
 unfold e_Z21 m_Z21 at h
 obtain ⟨x0, d0, rfl, h0⟩ := dL_some h
 obtain ⟨x1, d1, rfl, h1⟩ := dI_some h0
 obtain ⟨x2, d2, rfl, h2⟩ := dI_some h1
 obtain ⟨x3, d3, rfl, h3⟩ := dI_some h2
 obtain ⟨x4, d4, rfl, h4⟩ := dL_some h3
 obtain ⟨x5, d5, rfl, h5⟩ := dL_some h4
 obtain ⟨x6, d6, rfl, h6⟩ := dL_some h5
 obtain ⟨rfl, hE⟩ := dE_some h6
 obtain ⟨y, hy, hk⟩ := bnd_some hE
 obtain ⟨n, hn⟩ := ev_some hy
 exact m_Z21_ok n R _ k r (show (n_Z21 n x0 x1 x2 x3 x4 x5 x6).bind _ = _ by rw [hn]; exact hk)

/-!-/
def c_Z22 {R : Type} (F : List D → Int → Int → Int → Int → List D → Option (List D × Int × Int × List D)) (x0 : List D) (x1 : Int) (x2 : Int) (x3 : Int) (x4 : Int) (x5 : List D) (k : List D × Int × Int × List D → Option R) : Option R :=
 bif decide (x4 < x3) then
 if 0 ≤ x4 ∧ x4 < (↑x0.length : Int) then
 if (0 : Int) ≤ (x0.getD x4.toNat (D.int 0)).toInt ∧ (x0.getD x4.toNat (D.int 0)).toInt < (↑x5.length : Int) then
 if 0 ≤ x2 ∧ x2 < (↑(x5.getD (x0.getD x4.toNat (D.int 0)).toInt.toNat (D.int 0)).items.length : Int) then
 bif decide (((x5.getD (x0.getD x4.toNat (D.int 0)).toInt.toNat (D.int 0)).items.getD x2.toNat (D.int 0)).toInt = (0 : Int)) then
 (F x0 (IntKind.i64.wrap (x1 + 1)) x2 x3 (IntKind.i64.wrap (x4 + 1)) x5).bind k
 else
 (F x0 x1 x2 x3 (IntKind.i64.wrap (x4 + 1)) x5).bind k
 else
 none
 else
 none
 else
 none
 else
 k (x0, x1, x2, x5)
theorem c_Z22_bind {R : Type} (F : List D → Int → Int → Int → Int → List D → Option (List D × Int × Int × List D)) (x0 : List D) (x1 : Int) (x2 : Int) (x3 : Int) (x4 : Int) (x5 : List D) (k : List D × Int × Int × List D → Option R) : c_Z22 F x0 x1 x2 x3 x4 x5 k = (c_Z22 F x0 x1 x2 x3 x4 x5 some).bind k := by
 unfold c_Z22
 repeat' first|exact bnd_tail|exact bnd_none|exact bnd_leaf|apply bnd_ite|apply bnd_cond|apply bnd_sum|(apply bnd_bind;intro _)|intro _
def n_Z22 : Nat → List D → Int → Int → Int → Int → List D → Option (List D × Int × Int × List D)
 | 0, _, _, _, _, _, _ => none
 | n + 1, x0, x1, x2, x3, x4, x5 => c_Z22 (n_Z22 n) x0 x1 x2 x3 x4 x5 some
noncomputable def Z22 (x0 : List D) (x1 : Int) (x2 : Int) (x3 : Int) (x4 : Int) (x5 : List D) : Option (List D × Int × Int × List D) := ev (fun n => n_Z22 n x0 x1 x2 x3 x4 x5)
def m_Z22 (F : List D → Int → Int → Int → Int → List D → Option (List D × Int × Int × List D)) : Lent := ⟨7, ⟨(.undef :: .rd (.int .i64) :: .ptr 1000 [0] :: .undef :: .undef :: .int .i64 :: .int .i64 :: .undef :: .int .i64 :: .int .i64 :: uu 37 ([])), [(1000, .obox (.agg [.rd (.slice (.int .i64))]))]⟩, [(.exit 2, ⟨(.undef :: .rd (.int .i64) :: .ptr 1000 [0] :: .undef :: .undef :: .int .i64 :: .int .i64 :: uu 40 ([])), [(1000, .obox (.agg [.rd (.slice (.int .i64))]))]⟩)], fun _ ds k => dL (fun x0 ds => dI (fun x1 ds => dI (fun x2 ds => dI (fun x3 ds => dI (fun x4 ds => dL (fun x5 ds => dE ((F x0 x1 x2 x3 x4 x5).bind (fun y => k 0 [.L y.1, .I y.2.1, .I y.2.2.1, .L y.2.2.2])) ds) ds) ds) ds) ds) ds) ds⟩
theorem q_Z22 (F : List D → Int → Int → Int → Int → List D → Option (List D × Int × Int × List D)) (x0 : List D) (x1 : Int) (x2 : Int) (x3 : Int) (x4 : Int) (x5 : List D) : runLoop (ocOf []) (olOf [m_Z22 F]) A 60 (codeAt (bodyOf Try.f60) 7) ((m_Z22 F).sh.mk' [.L x0, .I x1, .I x2, .I x3, .I x4, .L x5]) (fun e σ' => some (e, σ')) = c_Z22 F x0 x1 x2 x3 x4 x5 (fun y => some (.exit 2, SSt.mk' ⟨(.undef :: .rd (.int .i64) :: .ptr 1000 [0] :: .undef :: .undef :: .int .i64 :: .int .i64 :: uu 40 ([])), [(1000, .obox (.agg [.rd (.slice (.int .i64))]))]⟩ [.L y.1, .I y.2.1, .I y.2.2.1, .L y.2.2.2])) := by kernel_rfl
theorem m_Z22_ok : ∀ n, (m_Z22 (n_Z22 n)).ok Try.prog (codeAt (bodyOf Try.f60) 7) := by
 intro n
 induction n with
 | zero =>
  intro R ds k r h
  unfold m_Z22 at h
  obtain ⟨x0, d0, rfl, h0⟩ := dL_some h
  obtain ⟨x1, d1, rfl, h1⟩ := dI_some h0
  obtain ⟨x2, d2, rfl, h2⟩ := dI_some h1
  obtain ⟨x3, d3, rfl, h3⟩ := dI_some h2
  obtain ⟨x4, d4, rfl, h4⟩ := dI_some h3
  obtain ⟨x5, d5, rfl, h5⟩ := dL_some h4
  obtain ⟨rfl, hE⟩ := dE_some h5
  obtain ⟨y, hy, hk⟩ := bnd_some hE
  cases hy
 | succ n ih =>
  intro R ds k r h
  unfold m_Z22 at h
  obtain ⟨x0, d0, rfl, h0⟩ := dL_some h
  obtain ⟨x1, d1, rfl, h1⟩ := dI_some h0
  obtain ⟨x2, d2, rfl, h2⟩ := dI_some h1
  obtain ⟨x3, d3, rfl, h3⟩ := dI_some h2
  obtain ⟨x4, d4, rfl, h4⟩ := dI_some h3
  obtain ⟨x5, d5, rfl, h5⟩ := dL_some h4
  obtain ⟨rfl, hE⟩ := dE_some h5
  obtain ⟨y, hy, hk⟩ := bnd_some hE
  have hq := q_Z22 (n_Z22 n) x0 x1 x2 x3 x4 x5
  rw [c_Z22_bind] at hq
  rw [show c_Z22 (n_Z22 n) x0 x1 x2 x3 x4 x5 some = some y from hy] at hq
  refine ⟨0, _, _, _, hk, rfl, loop_ok px (fx := ⟨Try.func60, by kernel_rfl, by kernel_rfl⟩) entsOK_nil (lentsOK_cons ih lentsOK_nil) (by kernel_rfl) ?_⟩
  exact hq
noncomputable def e_Z22 : Lent := m_Z22 (Z22)
theorem e_Z22_ok : (e_Z22).ok Try.prog (codeAt (bodyOf Try.f60) 7) := by
 intro R ds k r h
 unfold e_Z22 m_Z22 at h
 obtain ⟨x0, d0, rfl, h0⟩ := dL_some h
 obtain ⟨x1, d1, rfl, h1⟩ := dI_some h0
 obtain ⟨x2, d2, rfl, h2⟩ := dI_some h1
 obtain ⟨x3, d3, rfl, h3⟩ := dI_some h2
 obtain ⟨x4, d4, rfl, h4⟩ := dI_some h3
 obtain ⟨x5, d5, rfl, h5⟩ := dL_some h4
 obtain ⟨rfl, hE⟩ := dE_some h5
 obtain ⟨y, hy, hk⟩ := bnd_some hE
 obtain ⟨n, hn⟩ := ev_some hy
 exact m_Z22_ok n R _ k r (show (n_Z22 n x0 x1 x2 x3 x4 x5).bind _ = _ by rw [hn]; exact hk)

/-!-/
def c_Z23 {R : Type} (F : List D → Int → Int → List D → Option (Int)) (x0 : List D) (x1 : Int) (x2 : Int) (x3 : List D) (k : Int → Option R) : Option R :=
 if (0 : Int) ≤ (0 : Int) ∧ (0 : Int) < (↑x3.length : Int) then
 bif decide (x2 < (↑(x3.getD (Int.toNat (0 : Int)) (D.int 0)).items.length : Int)) then
 (Z19 x3 x0 x2).bind (fun y0 =>
 (Z22 x0 x1 x2 y0.snd y0.fst x3).bind (fun y1 =>
 (F y1.fst y1.snd.fst (IntKind.i64.wrap (y1.snd.snd.fst + 1)) y1.snd.snd.snd).bind k))
 else
 k x1
 else
 none
theorem c_Z23_bind {R : Type} (F : List D → Int → Int → List D → Option (Int)) (x0 : List D) (x1 : Int) (x2 : Int) (x3 : List D) (k : Int → Option R) : c_Z23 F x0 x1 x2 x3 k = (c_Z23 F x0 x1 x2 x3 some).bind k := by
 unfold c_Z23
 repeat' first|exact bnd_tail|exact bnd_none|exact bnd_leaf|apply bnd_ite|apply bnd_cond|apply bnd_sum|(apply bnd_bind;intro _)|intro _
def n_Z23 : Nat → List D → Int → Int → List D → Option (Int)
 | 0, _, _, _, _ => none
 | n + 1, x0, x1, x2, x3 => c_Z23 (n_Z23 n) x0 x1 x2 x3 some
noncomputable def Z23 (x0 : List D) (x1 : Int) (x2 : Int) (x3 : List D) : Option (Int) := ev (fun n => n_Z23 n x0 x1 x2 x3)
def m_Z23 (F : List D → Int → Int → List D → Option (Int)) : Lent := ⟨3, ⟨(.undef :: .rd (.int .i64) :: .ptr 1000 [0] :: .undef :: .undef :: .int .i64 :: .int .i64 :: uu 40 ([])), [(1000, .obox (.agg [.rd (.slice (.int .i64))]))]⟩, [(.exit 0, ⟨(uu 5 (.int .i64 :: uu 41 ([]))), []⟩)], fun _ ds k => dL (fun x0 ds => dI (fun x1 ds => dI (fun x2 ds => dL (fun x3 ds => dE ((F x0 x1 x2 x3).bind (fun y => k 0 [.I y])) ds) ds) ds) ds) ds⟩
theorem q_Z23 (F : List D → Int → Int → List D → Option (Int)) (x0 : List D) (x1 : Int) (x2 : Int) (x3 : List D) : runLoop (ocOf [e_Z19]) (olOf [m_Z23 F, e_Z22]) A 60 (codeAt (bodyOf Try.f60) 3) ((m_Z23 F).sh.mk' [.L x0, .I x1, .I x2, .L x3]) (fun e σ' => some (e, σ')) = c_Z23 F x0 x1 x2 x3 (fun y => some (.exit 0, SSt.mk' ⟨(uu 5 (.int .i64 :: uu 41 ([]))), []⟩ [.I y])) := by kernel_rfl
theorem m_Z23_ok : ∀ n, (m_Z23 (n_Z23 n)).ok Try.prog (codeAt (bodyOf Try.f60) 3) := by
 intro n
 induction n with
 | zero =>
  intro R ds k r h
  unfold m_Z23 at h
  obtain ⟨x0, d0, rfl, h0⟩ := dL_some h
  obtain ⟨x1, d1, rfl, h1⟩ := dI_some h0
  obtain ⟨x2, d2, rfl, h2⟩ := dI_some h1
  obtain ⟨x3, d3, rfl, h3⟩ := dL_some h2
  obtain ⟨rfl, hE⟩ := dE_some h3
  obtain ⟨y, hy, hk⟩ := bnd_some hE
  cases hy
 | succ n ih =>
  intro R ds k r h
  unfold m_Z23 at h
  obtain ⟨x0, d0, rfl, h0⟩ := dL_some h
  obtain ⟨x1, d1, rfl, h1⟩ := dI_some h0
  obtain ⟨x2, d2, rfl, h2⟩ := dI_some h1
  obtain ⟨x3, d3, rfl, h3⟩ := dL_some h2
  obtain ⟨rfl, hE⟩ := dE_some h3
  obtain ⟨y, hy, hk⟩ := bnd_some hE
  have hq := q_Z23 (n_Z23 n) x0 x1 x2 x3
  rw [c_Z23_bind] at hq
  rw [show c_Z23 (n_Z23 n) x0 x1 x2 x3 some = some y from hy] at hq
  refine ⟨0, _, _, _, hk, rfl, loop_ok px (fx := ⟨Try.func60, by kernel_rfl, by kernel_rfl⟩) (entsOK_cons e_Z19_ok entsOK_nil) (lentsOK_cons ih (lentsOK_cons e_Z22_ok lentsOK_nil)) (by kernel_rfl) ?_⟩
  exact hq
noncomputable def e_Z23 : Lent := m_Z23 (Z23)
theorem e_Z23_ok : (e_Z23).ok Try.prog (codeAt (bodyOf Try.f60) 3) := by
 intro R ds k r h
 unfold e_Z23 m_Z23 at h
 obtain ⟨x0, d0, rfl, h0⟩ := dL_some h
 obtain ⟨x1, d1, rfl, h1⟩ := dI_some h0
 obtain ⟨x2, d2, rfl, h2⟩ := dI_some h1
 obtain ⟨x3, d3, rfl, h3⟩ := dL_some h2
 obtain ⟨rfl, hE⟩ := dE_some h3
 obtain ⟨y, hy, hk⟩ := bnd_some hE
 obtain ⟨n, hn⟩ := ev_some hy
 exact m_Z23_ok n R _ k r (show (n_Z23 n x0 x1 x2 x3).bind _ = _ by rw [hn]; exact hk)

/-!-/
def c_Z24 {R : Type} (x0 : List D) (x1 : List D) (k : Int → Option R) : Option R :=
 (Z23 x1 (0 : Int) (0 : Int) x0).bind (fun y0 =>
 k y0)
theorem c_Z24_bind {R : Type} (x0 : List D) (x1 : List D) (k : Int → Option R) : c_Z24 x0 x1 k = (c_Z24 x0 x1 some).bind k := by
 unfold c_Z24
 repeat' first|exact bnd_tail|exact bnd_none|exact bnd_leaf|apply bnd_ite|apply bnd_cond|apply bnd_sum|(apply bnd_bind;intro _)|intro _
def Z24 (x0 : List D) (x1 : List D) : Option (Int) := c_Z24 x0 x1 some
def e_Z24 : Ent := ⟨60, [.agg [.rd (.slice (.int .i64))], .rd (.int .i64)], .int .i64, [.undef, .undef], fun _ ds k => dL (fun x0 ds => dL (fun x1 ds => dE ((Z24 x0 x1).bind (fun y => k [.I y])) ds) ds) ds⟩
theorem q_Z24 (x0 : List D) (x1 : List D) : runFn (ocOf []) (olOf [e_Z23]) A 60 Try.f60 (Sh.mks e_Z24.sh [.L x0, .L x1]).1 (fun v os => some (v, os)) = c_Z24 x0 x1 (fun y => some ((e_Z24.res.mk [.I y]).1, (Sh.mks e_Z24.outs (e_Z24.res.mk [.I y]).2).1)) := by kernel_rfl
theorem e_Z24_ok : e_Z24.ok Try.prog A := by
 intro R ds k r h
 unfold e_Z24 at h
 obtain ⟨x0, d0, rfl, h0⟩ := dL_some h
 obtain ⟨x1, d1, rfl, h1⟩ := dL_some h0
 obtain ⟨rfl, hE⟩ := dE_some h1
 obtain ⟨y, hy, hk⟩ := bnd_some hE
 refine ⟨_, hk, fn_ok px (fx := ⟨Try.func60, by kernel_rfl, by kernel_rfl⟩) entsOK_nil (lentsOK_cons e_Z23_ok lentsOK_nil) ?_⟩
 have hq := q_Z24 x0 x1
 rw [c_Z24_bind] at hq
 rw [show c_Z24 x0 x1 some = some y from hy] at hq
 exact hq

/-!-/
def c_Z25 {R : Type} (F : List D → Int → List D → List D → Option (List D)) (x0 : List D) (x1 : Int) (x2 : List D) (x3 : List D) (k : List D → Option R) : Option R :=
 bif decide (x1 < (↑x0.length : Int)) then
 (Z17 x0 x1 (0 : Int) (0 : Int) x2 x3 []).bind (fun y0 =>
 (Z21 y0.fst y0.snd.fst y0.snd.snd.fst (0 : Int) y0.snd.snd.snd.fst y0.snd.snd.snd.snd.fst y0.snd.snd.snd.snd.snd).bind (fun y1 =>
 (Z24 y1.snd.snd.snd.fst y1.snd.snd.snd.snd.snd).bind (fun y2 =>
 bif decide (y2 < y1.snd.snd.fst) then
 if y1.snd.snd.snd.snd.fst.length + [D.int y1.snd.fst].length ≤ (4294967296 : Nat) then
 (F y1.fst (IntKind.i64.wrap (y1.snd.fst + 1)) y1.snd.snd.snd.fst (y1.snd.snd.snd.snd.fst ++ [D.int y1.snd.fst])).bind k
 else
 none
 else
 (F y1.fst (IntKind.i64.wrap (y1.snd.fst + 1)) y1.snd.snd.snd.fst y1.snd.snd.snd.snd.fst).bind k)))
 else
 k x3
theorem c_Z25_bind {R : Type} (F : List D → Int → List D → List D → Option (List D)) (x0 : List D) (x1 : Int) (x2 : List D) (x3 : List D) (k : List D → Option R) : c_Z25 F x0 x1 x2 x3 k = (c_Z25 F x0 x1 x2 x3 some).bind k := by
 unfold c_Z25
 repeat' first|exact bnd_tail|exact bnd_none|exact bnd_leaf|apply bnd_ite|apply bnd_cond|apply bnd_sum|(apply bnd_bind;intro _)|intro _
def n_Z25 : Nat → List D → Int → List D → List D → Option (List D)
 | 0, _, _, _, _ => none
 | n + 1, x0, x1, x2, x3 => c_Z25 (n_Z25 n) x0 x1 x2 x3 some
noncomputable def Z25 (x0 : List D) (x1 : Int) (x2 : List D) (x3 : List D) : Option (List D) := ev (fun n => n_Z25 n x0 x1 x2 x3)
def m_Z25 (F : List D → Int → List D → List D → Option (List D)) : Lent := ⟨5, ⟨(.undef :: .rd (.int .i64) :: .ptr 1000 [0] :: .undef :: .undef :: .undef :: .full 1001 [] (.int .i64) :: .int .i64 :: uu 93 ([])), [(1000, .obox (.agg [.rd (.slice (.int .i64))])), (1001, .own (.int .i64))]⟩, [(.exit 0, ⟨(uu 6 (.full 1000 [] (.int .i64) :: uu 94 ([]))), [(1000, .own (.int .i64))]⟩)], fun _ ds k => dL (fun x0 ds => dI (fun x1 ds => dL (fun x2 ds => dL (fun x3 ds => dE ((F x0 x1 x2 x3).bind (fun y => k 0 [.L y])) ds) ds) ds) ds) ds⟩
theorem q_Z25 (F : List D → Int → List D → List D → Option (List D)) (x0 : List D) (x1 : Int) (x2 : List D) (x3 : List D) : runLoop (ocOf [e_Z24]) (olOf [m_Z25 F, e_Z17, e_Z21]) A 36 (codeAt (bodyOf Try.f36) 5) ((m_Z25 F).sh.mk' [.L x0, .I x1, .L x2, .L x3]) (fun e σ' => some (e, σ')) = c_Z25 F x0 x1 x2 x3 (fun y => some (.exit 0, SSt.mk' ⟨(uu 6 (.full 1000 [] (.int .i64) :: uu 94 ([]))), [(1000, .own (.int .i64))]⟩ [.L y])) := by kernel_rfl
theorem m_Z25_ok : ∀ n, (m_Z25 (n_Z25 n)).ok Try.prog (codeAt (bodyOf Try.f36) 5) := by
 intro n
 induction n with
 | zero =>
  intro R ds k r h
  unfold m_Z25 at h
  obtain ⟨x0, d0, rfl, h0⟩ := dL_some h
  obtain ⟨x1, d1, rfl, h1⟩ := dI_some h0
  obtain ⟨x2, d2, rfl, h2⟩ := dL_some h1
  obtain ⟨x3, d3, rfl, h3⟩ := dL_some h2
  obtain ⟨rfl, hE⟩ := dE_some h3
  obtain ⟨y, hy, hk⟩ := bnd_some hE
  cases hy
 | succ n ih =>
  intro R ds k r h
  unfold m_Z25 at h
  obtain ⟨x0, d0, rfl, h0⟩ := dL_some h
  obtain ⟨x1, d1, rfl, h1⟩ := dI_some h0
  obtain ⟨x2, d2, rfl, h2⟩ := dL_some h1
  obtain ⟨x3, d3, rfl, h3⟩ := dL_some h2
  obtain ⟨rfl, hE⟩ := dE_some h3
  obtain ⟨y, hy, hk⟩ := bnd_some hE
  have hq := q_Z25 (n_Z25 n) x0 x1 x2 x3
  rw [c_Z25_bind] at hq
  rw [show c_Z25 (n_Z25 n) x0 x1 x2 x3 some = some y from hy] at hq
  refine ⟨0, _, _, _, hk, rfl, loop_ok px (fx := ⟨Try.func36, by kernel_rfl, by kernel_rfl⟩) (entsOK_cons e_Z24_ok entsOK_nil) (lentsOK_cons ih (lentsOK_cons e_Z17_ok (lentsOK_cons e_Z21_ok lentsOK_nil))) (by kernel_rfl) ?_⟩
  exact hq
noncomputable def e_Z25 : Lent := m_Z25 (Z25)
theorem e_Z25_ok : (e_Z25).ok Try.prog (codeAt (bodyOf Try.f36) 5) := by
 intro R ds k r h
 unfold e_Z25 m_Z25 at h
 obtain ⟨x0, d0, rfl, h0⟩ := dL_some h
 obtain ⟨x1, d1, rfl, h1⟩ := dI_some h0
 obtain ⟨x2, d2, rfl, h2⟩ := dL_some h1
 obtain ⟨x3, d3, rfl, h3⟩ := dL_some h2
 obtain ⟨rfl, hE⟩ := dE_some h3
 obtain ⟨y, hy, hk⟩ := bnd_some hE
 obtain ⟨n, hn⟩ := ev_some hy
 exact m_Z25_ok n R _ k r (show (n_Z25 n x0 x1 x2 x3).bind _ = _ by rw [hn]; exact hk)

/-!-/
def c_Z26 {R : Type} (x0 : List D) (x1 : List D) (k : List D × Bool → Option R) : Option R :=
 (Z16 x0 x1).bind (fun y0 =>
 bif !y0 then
 k ([], Bool.false)
 else
 (Z25 x1 (0 : Int) x0 []).bind (fun y1 =>
 k (y1, Bool.true)))
theorem c_Z26_bind {R : Type} (x0 : List D) (x1 : List D) (k : List D × Bool → Option R) : c_Z26 x0 x1 k = (c_Z26 x0 x1 some).bind k := by
 unfold c_Z26
 repeat' first|exact bnd_tail|exact bnd_none|exact bnd_leaf|apply bnd_ite|apply bnd_cond|apply bnd_sum|(apply bnd_bind;intro _)|intro _
def Z26 (x0 : List D) (x1 : List D) : Option (List D × Bool) := c_Z26 x0 x1 some
def e_Z26 : Ent := ⟨36, [.agg [.rd (.slice (.int .i64))], .rd (.int .i64)], .tup [.own (.int .i64), .bool], [.undef, .undef], fun _ ds k => dL (fun x0 ds => dL (fun x1 ds => dE ((Z26 x0 x1).bind (fun y => k [.L y.1, .B y.2])) ds) ds) ds⟩
theorem q_Z26 (x0 : List D) (x1 : List D) : runFn (ocOf [e_Z16]) (olOf [e_Z25]) A 36 Try.f36 (Sh.mks e_Z26.sh [.L x0, .L x1]).1 (fun v os => some (v, os)) = c_Z26 x0 x1 (fun y => some ((e_Z26.res.mk [.L y.1, .B y.2]).1, (Sh.mks e_Z26.outs (e_Z26.res.mk [.L y.1, .B y.2]).2).1)) := by kernel_rfl
theorem e_Z26_ok : e_Z26.ok Try.prog A := by
 intro R ds k r h
 unfold e_Z26 at h
 obtain ⟨x0, d0, rfl, h0⟩ := dL_some h
 obtain ⟨x1, d1, rfl, h1⟩ := dL_some h0
 obtain ⟨rfl, hE⟩ := dE_some h1
 obtain ⟨y, hy, hk⟩ := bnd_some hE
 refine ⟨_, hk, fn_ok px (fx := ⟨Try.func36, by kernel_rfl, by kernel_rfl⟩) (entsOK_cons e_Z16_ok entsOK_nil) (lentsOK_cons e_Z25_ok lentsOK_nil) ?_⟩
 have hq := q_Z26 x0 x1
 rw [c_Z26_bind] at hq
 rw [show c_Z26 x0 x1 some = some y from hy] at hq
 exact hq

/-!-/
def c_Z27 {R : Type} (x0 : Int) (x1 : Int) (x2 : Int) (k : Bool → Option R) : Option R :=
 bif decide (x1 ≤ x0) then
 k (decide (x0 ≤ x2))
 else
 k Bool.false
theorem c_Z27_bind {R : Type} (x0 : Int) (x1 : Int) (x2 : Int) (k : Bool → Option R) : c_Z27 x0 x1 x2 k = (c_Z27 x0 x1 x2 some).bind k := by
 unfold c_Z27
 repeat' first|exact bnd_tail|exact bnd_none|exact bnd_leaf|apply bnd_ite|apply bnd_cond|apply bnd_sum|(apply bnd_bind;intro _)|intro _
def Z27 (x0 : Int) (x1 : Int) (x2 : Int) : Option (Bool) := c_Z27 x0 x1 x2 some
def e_Z27 : Ent := ⟨44, [.int .i64, .int .i64, .int .i64], .bool, [.undef, .undef, .undef], fun _ ds k => dI (fun x0 ds => dI (fun x1 ds => dI (fun x2 ds => dE ((Z27 x0 x1 x2).bind (fun y => k [.B y])) ds) ds) ds) ds⟩
theorem q_Z27 (x0 : Int) (x1 : Int) (x2 : Int) : runFn (ocOf []) (olOf []) A 44 Try.f44 (Sh.mks e_Z27.sh [.I x0, .I x1, .I x2]).1 (fun v os => some (v, os)) = c_Z27 x0 x1 x2 (fun y => some ((e_Z27.res.mk [.B y]).1, (Sh.mks e_Z27.outs (e_Z27.res.mk [.B y]).2).1)) := by kernel_rfl
theorem e_Z27_ok : e_Z27.ok Try.prog A := by
 intro R ds k r h
 unfold e_Z27 at h
 obtain ⟨x0, d0, rfl, h0⟩ := dI_some h
 obtain ⟨x1, d1, rfl, h1⟩ := dI_some h0
 obtain ⟨x2, d2, rfl, h2⟩ := dI_some h1
 obtain ⟨rfl, hE⟩ := dE_some h2
 obtain ⟨y, hy, hk⟩ := bnd_some hE
 refine ⟨_, hk, fn_ok px (fx := ⟨Try.func44, by kernel_rfl, by kernel_rfl⟩) entsOK_nil lentsOK_nil ?_⟩
 have hq := q_Z27 x0 x1 x2
 rw [c_Z27_bind] at hq
 rw [show c_Z27 x0 x1 x2 some = some y from hy] at hq
 exact hq

/-!-/
def c_Z28 {R : Type} (x0 : Int) (k : Bool → Option R) : Option R :=
 (Z27 x0 (0 : Int) (1000 : Int)).bind (fun y0 =>
 k !y0)
theorem c_Z28_bind {R : Type} (x0 : Int) (k : Bool → Option R) : c_Z28 x0 k = (c_Z28 x0 some).bind k := by
 unfold c_Z28
 repeat' first|exact bnd_tail|exact bnd_none|exact bnd_leaf|apply bnd_ite|apply bnd_cond|apply bnd_sum|(apply bnd_bind;intro _)|intro _
def Z28 (x0 : Int) : Option (Bool) := c_Z28 x0 some
def e_Z28 : Ent := ⟨70, [.int .i64], .bool, [.undef], fun _ ds k => dI (fun x0 ds => dE ((Z28 x0).bind (fun y => k [.B y])) ds) ds⟩
theorem q_Z28 (x0 : Int) : runFn (ocOf [e_Z27]) (olOf []) A 70 Try.f70 (Sh.mks e_Z28.sh [.I x0]).1 (fun v os => some (v, os)) = c_Z28 x0 (fun y => some ((e_Z28.res.mk [.B y]).1, (Sh.mks e_Z28.outs (e_Z28.res.mk [.B y]).2).1)) := by kernel_rfl
theorem e_Z28_ok : e_Z28.ok Try.prog A := by
 intro R ds k r h
 unfold e_Z28 at h
 obtain ⟨x0, d0, rfl, h0⟩ := dI_some h
 obtain ⟨rfl, hE⟩ := dE_some h0
 obtain ⟨y, hy, hk⟩ := bnd_some hE
 refine ⟨_, hk, fn_ok px (fx := ⟨Try.func70, by kernel_rfl, by kernel_rfl⟩) (entsOK_cons e_Z27_ok entsOK_nil) lentsOK_nil ?_⟩
 have hq := q_Z28 x0
 rw [c_Z28_bind] at hq
 rw [show c_Z28 x0 some = some y from hy] at hq
 exact hq

/-!-/
def c_Z29 {R : Type} (F : List D → Int → Int → Option ((Int) ⊕ (Unit))) (x0 : List D) (x1 : Int) (x2 : Int) (k : (Int) ⊕ (Unit) → Option R) : Option R :=
 bif decide (x2 < x1) then
 if 0 ≤ x2 ∧ x2 < (↑x0.length : Int) then
 (Z28 ((x0.getD x2.toNat (D.int 0)).toInt)).bind (fun y0 =>
 bif y0 then
 k (.inl x2)
 else
 (F x0 x1 (IntKind.i64.wrap (x2 + 1))).bind k)
 else
 none
 else
 k (.inr ())
theorem c_Z29_bind {R : Type} (F : List D → Int → Int → Option ((Int) ⊕ (Unit))) (x0 : List D) (x1 : Int) (x2 : Int) (k : (Int) ⊕ (Unit) → Option R) : c_Z29 F x0 x1 x2 k = (c_Z29 F x0 x1 x2 some).bind k := by
 unfold c_Z29
 repeat' first|exact bnd_tail|exact bnd_none|exact bnd_leaf|apply bnd_ite|apply bnd_cond|apply bnd_sum|(apply bnd_bind;intro _)|intro _
def n_Z29 : Nat → List D → Int → Int → Option ((Int) ⊕ (Unit))
 | 0, _, _, _ => none
 | n + 1, x0, x1, x2 => c_Z29 (n_Z29 n) x0 x1 x2 some
noncomputable def Z29 (x0 : List D) (x1 : Int) (x2 : Int) : Option ((Int) ⊕ (Unit)) := ev (fun n => n_Z29 n x0 x1 x2)
def m_Z29 (F : List D → Int → Int → Option ((Int) ⊕ (Unit))) : Lent := ⟨2, ⟨(.rd (.int .i64) :: .fn 70 [] :: uu 5 (.int .i64 :: .int .i64 :: uu 10 ([]))), []⟩, [(.ret, ⟨(uu 4 (.int .i64 :: uu 14 ([]))), []⟩), (.exit 0, ⟨(uu 19 ([])), []⟩)], fun _ ds k => dL (fun x0 ds => dI (fun x1 ds => dI (fun x2 ds => dE ((F x0 x1 x2).bind (Sum.elim (fun y => k 0 [.I y]) (fun y => k 1 []))) ds) ds) ds) ds⟩
theorem q_Z29 (F : List D → Int → Int → Option ((Int) ⊕ (Unit))) (x0 : List D) (x1 : Int) (x2 : Int) : runLoop (ocOf [e_Z28]) (olOf [m_Z29 F]) A 79 (codeAt (bodyOf Try.f79) 2) ((m_Z29 F).sh.mk' [.L x0, .I x1, .I x2]) (fun e σ' => some (e, σ')) = c_Z29 F x0 x1 x2 (Sum.elim (fun y => some (.ret, SSt.mk' ⟨(uu 4 (.int .i64 :: uu 14 ([]))), []⟩ [.I y])) (fun y => some (.exit 0, SSt.mk' ⟨(uu 19 ([])), []⟩ []))) := by kernel_rfl
theorem m_Z29_ok : ∀ n, (m_Z29 (n_Z29 n)).ok Try.prog (codeAt (bodyOf Try.f79) 2) := by
 intro n
 induction n with
 | zero =>
  intro R ds k r h
  unfold m_Z29 at h
  obtain ⟨x0, d0, rfl, h0⟩ := dL_some h
  obtain ⟨x1, d1, rfl, h1⟩ := dI_some h0
  obtain ⟨x2, d2, rfl, h2⟩ := dI_some h1
  obtain ⟨rfl, hE⟩ := dE_some h2
  obtain ⟨y, hy, hk⟩ := bnd_some hE
  cases hy
 | succ n ih =>
  intro R ds k r h
  unfold m_Z29 at h
  obtain ⟨x0, d0, rfl, h0⟩ := dL_some h
  obtain ⟨x1, d1, rfl, h1⟩ := dI_some h0
  obtain ⟨x2, d2, rfl, h2⟩ := dI_some h1
  obtain ⟨rfl, hE⟩ := dE_some h2
  obtain ⟨y, hy, hk⟩ := bnd_some hE
  have hq := q_Z29 (n_Z29 n) x0 x1 x2
  rw [c_Z29_bind] at hq
  rw [show c_Z29 (n_Z29 n) x0 x1 x2 some = some y from hy] at hq
  cases y with
  | inl y =>
   refine ⟨0, _, _, _, hk, rfl, loop_ok px (fx := ⟨Try.func79, by kernel_rfl, by kernel_rfl⟩) (entsOK_cons e_Z28_ok entsOK_nil) (lentsOK_cons ih lentsOK_nil) (by kernel_rfl) ?_⟩
   exact hq
  | inr y =>
   refine ⟨1, _, _, _, hk, rfl, loop_ok px (fx := ⟨Try.func79, by kernel_rfl, by kernel_rfl⟩) (entsOK_cons e_Z28_ok entsOK_nil) (lentsOK_cons ih lentsOK_nil) (by kernel_rfl) ?_⟩
   exact hq
noncomputable def e_Z29 : Lent := m_Z29 (Z29)
theorem e_Z29_ok : (e_Z29).ok Try.prog (codeAt (bodyOf Try.f79) 2) := by
 intro R ds k r h
 unfold e_Z29 m_Z29 at h
 obtain ⟨x0, d0, rfl, h0⟩ := dL_some h
 obtain ⟨x1, d1, rfl, h1⟩ := dI_some h0
 obtain ⟨x2, d2, rfl, h2⟩ := dI_some h1
 obtain ⟨rfl, hE⟩ := dE_some h2
 obtain ⟨y, hy, hk⟩ := bnd_some hE
 obtain ⟨n, hn⟩ := ev_some hy
 exact m_Z29_ok n R _ k r (show (n_Z29 n x0 x1 x2).bind _ = _ by rw [hn]; exact hk)

/-!-/
def c_Z30 {R : Type} (x0 : List D) (k : Int → Option R) : Option R :=
 (Z29 x0 (↑x0.length : Int) (0 : Int)).bind (Sum.elim (fun y0 =>
 k y0) (fun y1 =>
 k (-1 : Int)))
theorem c_Z30_bind {R : Type} (x0 : List D) (k : Int → Option R) : c_Z30 x0 k = (c_Z30 x0 some).bind k := by
 unfold c_Z30
 repeat' first|exact bnd_tail|exact bnd_none|exact bnd_leaf|apply bnd_ite|apply bnd_cond|apply bnd_sum|(apply bnd_bind;intro _)|intro _
def Z30 (x0 : List D) : Option (Int) := c_Z30 x0 some
def e_Z30 : Ent := ⟨79, [.rd (.int .i64), .fn 70 []], .int .i64, [.undef, .undef], fun _ ds k => dL (fun x0 ds => dE ((Z30 x0).bind (fun y => k [.I y])) ds) ds⟩
theorem q_Z30 (x0 : List D) : runFn (ocOf []) (olOf [e_Z29]) A 79 Try.f79 (Sh.mks e_Z30.sh [.L x0]).1 (fun v os => some (v, os)) = c_Z30 x0 (fun y => some ((e_Z30.res.mk [.I y]).1, (Sh.mks e_Z30.outs (e_Z30.res.mk [.I y]).2).1)) := by kernel_rfl
theorem e_Z30_ok : e_Z30.ok Try.prog A := by
 intro R ds k r h
 unfold e_Z30 at h
 obtain ⟨x0, d0, rfl, h0⟩ := dL_some h
 obtain ⟨rfl, hE⟩ := dE_some h0
 obtain ⟨y, hy, hk⟩ := bnd_some hE
 refine ⟨_, hk, fn_ok px (fx := ⟨Try.func79, by kernel_rfl, by kernel_rfl⟩) entsOK_nil (lentsOK_cons e_Z29_ok lentsOK_nil) ?_⟩
 have hq := q_Z30 x0
 rw [c_Z30_bind] at hq
 rw [show c_Z30 x0 some = some y from hy] at hq
 exact hq

/-!-/
def c_Z31 {R : Type} (x0 : List D) (k : Bool → Option R) : Option R :=
 (Z30 x0).bind (fun y0 =>
 k (decide ((0 : Int) ≤ y0)))
theorem c_Z31_bind {R : Type} (x0 : List D) (k : Bool → Option R) : c_Z31 x0 k = (c_Z31 x0 some).bind k := by
 unfold c_Z31
 repeat' first|exact bnd_tail|exact bnd_none|exact bnd_leaf|apply bnd_ite|apply bnd_cond|apply bnd_sum|(apply bnd_bind;intro _)|intro _
def Z31 (x0 : List D) : Option (Bool) := c_Z31 x0 some
def e_Z31 : Ent := ⟨69, [.rd (.int .i64), .fn 70 []], .bool, [.undef, .undef], fun _ ds k => dL (fun x0 ds => dE ((Z31 x0).bind (fun y => k [.B y])) ds) ds⟩
theorem q_Z31 (x0 : List D) : runFn (ocOf [e_Z30]) (olOf []) A 69 Try.f69 (Sh.mks e_Z31.sh [.L x0]).1 (fun v os => some (v, os)) = c_Z31 x0 (fun y => some ((e_Z31.res.mk [.B y]).1, (Sh.mks e_Z31.outs (e_Z31.res.mk [.B y]).2).1)) := by kernel_rfl
theorem e_Z31_ok : e_Z31.ok Try.prog A := by
 intro R ds k r h
 unfold e_Z31 at h
 obtain ⟨x0, d0, rfl, h0⟩ := dL_some h
 obtain ⟨rfl, hE⟩ := dE_some h0
 obtain ⟨y, hy, hk⟩ := bnd_some hE
 refine ⟨_, hk, fn_ok px (fx := ⟨Try.func69, by kernel_rfl, by kernel_rfl⟩) (entsOK_cons e_Z30_ok entsOK_nil) lentsOK_nil ?_⟩
 have hq := q_Z31 x0
 rw [c_Z31_bind] at hq
 rw [show c_Z31 x0 some = some y from hy] at hq
 exact hq

/-!-/
def c_Z32 {R : Type} (F : List D → Int → Int → List D → Option ((Bool) ⊕ (Unit))) (x0 : List D) (x1 : Int) (x2 : Int) (x3 : List D) (k : (Bool) ⊕ (Unit) → Option R) : Option R :=
 bif decide (x2 < x1) then
 if 0 ≤ x2 ∧ x2 < (↑x0.length : Int) then
 (Z27 (↑(x0.getD x2.toNat (D.int 0)).items.length : Int) (1 : Int) (10 : Int)).bind (fun y0 =>
 bif !y0 then
 k (.inl Bool.false)
 else
 if (0 : Int) ≤ (0 : Int) ∧ (0 : Int) < (↑x3.length : Int) then
 bif !decide ((↑(x0.getD x2.toNat (D.int 0)).items.length : Int) = (↑(x3.getD (Int.toNat (0 : Int)) (D.int 0)).items.length : Int)) then
 k (.inl Bool.false)
 else
 (Z31 ((x0.getD x2.toNat (D.int 0)).items)).bind (fun y1 =>
 bif y1 then
 k (.inl Bool.false)
 else
 (F x0 x1 (IntKind.i64.wrap (x2 + 1)) x3).bind k)
 else
 none)
 else
 none
 else
 k (.inr ())
theorem c_Z32_bind {R : Type} (F : List D → Int → Int → List D → Option ((Bool) ⊕ (Unit))) (x0 : List D) (x1 : Int) (x2 : Int) (x3 : List D) (k : (Bool) ⊕ (Unit) → Option R) : c_Z32 F x0 x1 x2 x3 k = (c_Z32 F x0 x1 x2 x3 some).bind k := by
 unfold c_Z32
 repeat' first|exact bnd_tail|exact bnd_none|exact bnd_leaf|apply bnd_ite|apply bnd_cond|apply bnd_sum|(apply bnd_bind;intro _)|intro _
def n_Z32 : Nat → List D → Int → Int → List D → Option ((Bool) ⊕ (Unit))
 | 0, _, _, _, _ => none
 | n + 1, x0, x1, x2, x3 => c_Z32 (n_Z32 n) x0 x1 x2 x3 some
noncomputable def Z32 (x0 : List D) (x1 : Int) (x2 : Int) (x3 : List D) : Option ((Bool) ⊕ (Unit)) := ev (fun n => n_Z32 n x0 x1 x2 x3)
def m_Z32 (F : List D → Int → Int → List D → Option ((Bool) ⊕ (Unit))) : Lent := ⟨4, ⟨(.undef :: .ptr 1000 [0] :: uu 9 (.rd (.slice (.int .i64)) :: .int .i64 :: .int .i64 :: uu 22 ([]))), [(1000, .obox (.agg [.rd (.slice (.int .i64))]))]⟩, [(.ret, ⟨(.undef :: .undef :: .bool :: uu 33 ([])), []⟩), (.exit 0, ⟨(uu 36 ([])), []⟩)], fun _ ds k => dL (fun x0 ds => dI (fun x1 ds => dI (fun x2 ds => dL (fun x3 ds => dE ((F x0 x1 x2 x3).bind (Sum.elim (fun y => k 0 [.B y]) (fun y => k 1 []))) ds) ds) ds) ds) ds⟩
theorem q_Z32 (F : List D → Int → Int → List D → Option ((Bool) ⊕ (Unit))) (x0 : List D) (x1 : Int) (x2 : Int) (x3 : List D) : runLoop (ocOf [e_Z27, e_Z31]) (olOf [m_Z32 F]) A 43 (codeAt (bodyOf Try.f43) 4) ((m_Z32 F).sh.mk' [.L x0, .I x1, .I x2, .L x3]) (fun e σ' => some (e, σ')) = c_Z32 F x0 x1 x2 x3 (Sum.elim (fun y => some (.ret, SSt.mk' ⟨(.undef :: .undef :: .bool :: uu 33 ([])), []⟩ [.B y])) (fun y => some (.exit 0, SSt.mk' ⟨(uu 36 ([])), []⟩ []))) := by kernel_rfl
theorem m_Z32_ok : ∀ n, (m_Z32 (n_Z32 n)).ok Try.prog (codeAt (bodyOf Try.f43) 4) := by
 intro n
 induction n with
 | zero =>
  intro R ds k r h
  unfold m_Z32 at h
  obtain ⟨x0, d0, rfl, h0⟩ := dL_some h
  obtain ⟨x1, d1, rfl, h1⟩ := dI_some h0
  obtain ⟨x2, d2, rfl, h2⟩ := dI_some h1
  obtain ⟨x3, d3, rfl, h3⟩ := dL_some h2
  obtain ⟨rfl, hE⟩ := dE_some h3
  obtain ⟨y, hy, hk⟩ := bnd_some hE
  cases hy
 | succ n ih =>
  intro R ds k r h
  unfold m_Z32 at h
  obtain ⟨x0, d0, rfl, h0⟩ := dL_some h
  obtain ⟨x1, d1, rfl, h1⟩ := dI_some h0
  obtain ⟨x2, d2, rfl, h2⟩ := dI_some h1
  obtain ⟨x3, d3, rfl, h3⟩ := dL_some h2
  obtain ⟨rfl, hE⟩ := dE_some h3
  obtain ⟨y, hy, hk⟩ := bnd_some hE
  have hq := q_Z32 (n_Z32 n) x0 x1 x2 x3
  rw [c_Z32_bind] at hq
  rw [show c_Z32 (n_Z32 n) x0 x1 x2 x3 some = some y from hy] at hq
  cases y with
  | inl y =>
   refine ⟨0, _, _, _, hk, rfl, loop_ok px (fx := ⟨Try.func43, by kernel_rfl, by kernel_rfl⟩) (entsOK_cons e_Z27_ok (entsOK_cons e_Z31_ok entsOK_nil)) (lentsOK_cons ih lentsOK_nil) (by kernel_rfl) ?_⟩
   exact hq
  | inr y =>
   refine ⟨1, _, _, _, hk, rfl, loop_ok px (fx := ⟨Try.func43, by kernel_rfl, by kernel_rfl⟩) (entsOK_cons e_Z27_ok (entsOK_cons e_Z31_ok entsOK_nil)) (lentsOK_cons ih lentsOK_nil) (by kernel_rfl) ?_⟩
   exact hq
noncomputable def e_Z32 : Lent := m_Z32 (Z32)
theorem e_Z32_ok : (e_Z32).ok Try.prog (codeAt (bodyOf Try.f43) 4) := by
 intro R ds k r h
 unfold e_Z32 m_Z32 at h
 obtain ⟨x0, d0, rfl, h0⟩ := dL_some h
 obtain ⟨x1, d1, rfl, h1⟩ := dI_some h0
 obtain ⟨x2, d2, rfl, h2⟩ := dI_some h1
 obtain ⟨x3, d3, rfl, h3⟩ := dL_some h2
 obtain ⟨rfl, hE⟩ := dE_some h3
 obtain ⟨y, hy, hk⟩ := bnd_some hE
 obtain ⟨n, hn⟩ := ev_some hy
 exact m_Z32_ok n R _ k r (show (n_Z32 n x0 x1 x2 x3).bind _ = _ by rw [hn]; exact hk)

/-!-/
def c_Z33 {R : Type} (x0 : List D) (k : Bool → Option R) : Option R :=
 (Z27 (↑x0.length : Int) (1 : Int) (7 : Int)).bind (fun y0 =>
 bif !y0 then
 k Bool.false
 else
 (Z32 x0 (↑x0.length : Int) (0 : Int) x0).bind (Sum.elim (fun y1 =>
 k y1) (fun y2 =>
 k Bool.true)))
theorem c_Z33_bind {R : Type} (x0 : List D) (k : Bool → Option R) : c_Z33 x0 k = (c_Z33 x0 some).bind k := by
 unfold c_Z33
 repeat' first|exact bnd_tail|exact bnd_none|exact bnd_leaf|apply bnd_ite|apply bnd_cond|apply bnd_sum|(apply bnd_bind;intro _)|intro _
def Z33 (x0 : List D) : Option (Bool) := c_Z33 x0 some
def e_Z33 : Ent := ⟨43, [.agg [.rd (.slice (.int .i64))]], .bool, [.undef], fun _ ds k => dL (fun x0 ds => dE ((Z33 x0).bind (fun y => k [.B y])) ds) ds⟩
theorem q_Z33 (x0 : List D) : runFn (ocOf [e_Z27]) (olOf [e_Z32]) A 43 Try.f43 (Sh.mks e_Z33.sh [.L x0]).1 (fun v os => some (v, os)) = c_Z33 x0 (fun y => some ((e_Z33.res.mk [.B y]).1, (Sh.mks e_Z33.outs (e_Z33.res.mk [.B y]).2).1)) := by kernel_rfl
theorem e_Z33_ok : e_Z33.ok Try.prog A := by
 intro R ds k r h
 unfold e_Z33 at h
 obtain ⟨x0, d0, rfl, h0⟩ := dL_some h
 obtain ⟨rfl, hE⟩ := dE_some h0
 obtain ⟨y, hy, hk⟩ := bnd_some hE
 refine ⟨_, hk, fn_ok px (fx := ⟨Try.func43, by kernel_rfl, by kernel_rfl⟩) (entsOK_cons e_Z27_ok entsOK_nil) (lentsOK_cons e_Z32_ok lentsOK_nil) ?_⟩
 have hq := q_Z33 x0
 rw [c_Z33_bind] at hq
 rw [show c_Z33 x0 some = some y from hy] at hq
 exact hq

/-!-/
def c_Z34 {R : Type} (x0 : List D) (k : List D → Option R) : Option R :=
 if (1 : Nat) ≤ x0.length then
 if ([] : List D).length + x0.length ≤ (4294967296 : Nat) then
 k ([] ++ x0)
 else
 none
 else
 bothK (
 if ([] : List D).length + x0.length ≤ (4294967296 : Nat) then
 k ([] ++ x0)
 else
 none) (
 k [])
theorem c_Z34_imp {R : Type} (x0 : List D) (k : List D → Option R) (y : List D) : c_Z34 x0 some = some y → c_Z34 x0 k = k y := by
 unfold c_Z34
 repeat' first
  | exact imp_leaf
  | exact imp_none
  | exact imp_tail
  | apply imp_both
  | apply imp_ite
  | apply imp_cond
  | apply imp_sum
  | (apply imp_bind; intro _)
  | intro _
def Z34 (x0 : List D) : Option (List D) := c_Z34 x0 some
def e_Z34 : Ent := ⟨58, [.rd (.int .i64)], .own (.int .i64), [.undef], fun _ ds k => dL (fun x0 ds => dE ((Z34 x0).bind (fun y => k [.L y])) ds) ds⟩
theorem q_Z34 (x0 : List D) : runFn (ocOf []) (olOf []) A 58 Try.f58 (Sh.mks e_Z34.sh [.L x0]).1 (fun v os => some (v, os)) = c_Z34 x0 (fun y => some ((e_Z34.res.mk [.L y]).1, (Sh.mks e_Z34.outs (e_Z34.res.mk [.L y]).2).1)) := by kernel_rfl
theorem e_Z34_ok : e_Z34.ok Try.prog A := by
 intro R ds k r h
 unfold e_Z34 at h
 obtain ⟨x0, d0, rfl, h0⟩ := dL_some h
 obtain ⟨rfl, hE⟩ := dE_some h0
 obtain ⟨y, hy, hk⟩ := bnd_some hE
 refine ⟨_, hk, fn_ok px (fx := ⟨Try.func58, by kernel_rfl, by kernel_rfl⟩) entsOK_nil lentsOK_nil ?_⟩
 have hq := q_Z34 x0
 rw [c_Z34_imp x0 _ y hy] at hq
 exact hq

/-!-/
def c_Z35 {R : Type} (x0 : Int) (k : Int → Option R) : Option R :=
 bif decide ((4294967296 : Int) ≤ x0) then
 if (0 : Int) ≤ (32 : Int) then
 bif decide ((65536 : Int) ≤ x0.fdiv ((2 : Int) ^ Min.min (Int.toNat (32 : Int)) IntKind.u64.bits)) then
 if (0 : Int) ≤ (16 : Int) then
 bif decide ((256 : Int) ≤ (x0.fdiv ((2 : Int) ^ Min.min (Int.toNat (32 : Int)) IntKind.u64.bits)).fdiv ((2 : Int) ^ Min.min (Int.toNat (16 : Int)) IntKind.u64.bits)) then
 if (0 : Int) ≤ (8 : Int) then
 if (0 : Int) ≤ IntKind.u8.wrap (((x0.fdiv ((2 : Int) ^ Min.min (Int.toNat (32 : Int)) IntKind.u64.bits)).fdiv ((2 : Int) ^ Min.min (Int.toNat (16 : Int)) IntKind.u64.bits)).fdiv ((2 : Int) ^ Min.min (Int.toNat (8 : Int)) IntKind.u64.bits)) ∧ IntKind.u8.wrap (((x0.fdiv ((2 : Int) ^ Min.min (Int.toNat (32 : Int)) IntKind.u64.bits)).fdiv ((2 : Int) ^ Min.min (Int.toNat (16 : Int)) IntKind.u64.bits)).fdiv ((2 : Int) ^ Min.min (Int.toNat (8 : Int)) IntKind.u64.bits)) < (↑bytes_0.size : Int) then
 k (IntKind.i64.wrap (IntKind.i64.wrap (IntKind.i64.wrap ((32 : Int) + (16 : Int)) + (8 : Int)) + IntKind.i64.wrap (↑(bytes_0.data.toList.getD (IntKind.u8.wrap (((x0.fdiv ((2 : Int) ^ Min.min (Int.toNat (32 : Int)) IntKind.u64.bits)).fdiv ((2 : Int) ^ Min.min (Int.toNat (16 : Int)) IntKind.u64.bits)).fdiv ((2 : Int) ^ Min.min (Int.toNat (8 : Int)) IntKind.u64.bits))).toNat (0 : UInt8)).toNat : Int)))
 else
 none
 else
 none
 else
 if (0 : Int) ≤ IntKind.u8.wrap ((x0.fdiv ((2 : Int) ^ Min.min (Int.toNat (32 : Int)) IntKind.u64.bits)).fdiv ((2 : Int) ^ Min.min (Int.toNat (16 : Int)) IntKind.u64.bits)) ∧ IntKind.u8.wrap ((x0.fdiv ((2 : Int) ^ Min.min (Int.toNat (32 : Int)) IntKind.u64.bits)).fdiv ((2 : Int) ^ Min.min (Int.toNat (16 : Int)) IntKind.u64.bits)) < (↑bytes_0.size : Int) then
 k (IntKind.i64.wrap (IntKind.i64.wrap ((32 : Int) + (16 : Int)) + IntKind.i64.wrap (↑(bytes_0.data.toList.getD (IntKind.u8.wrap ((x0.fdiv ((2 : Int) ^ Min.min (Int.toNat (32 : Int)) IntKind.u64.bits)).fdiv ((2 : Int) ^ Min.min (Int.toNat (16 : Int)) IntKind.u64.bits))).toNat (0 : UInt8)).toNat : Int)))
 else
 none
 else
 none
 else
 bif decide ((256 : Int) ≤ x0.fdiv ((2 : Int) ^ Min.min (Int.toNat (32 : Int)) IntKind.u64.bits)) then
 if (0 : Int) ≤ (8 : Int) then
 if (0 : Int) ≤ IntKind.u8.wrap ((x0.fdiv ((2 : Int) ^ Min.min (Int.toNat (32 : Int)) IntKind.u64.bits)).fdiv ((2 : Int) ^ Min.min (Int.toNat (8 : Int)) IntKind.u64.bits)) ∧ IntKind.u8.wrap ((x0.fdiv ((2 : Int) ^ Min.min (Int.toNat (32 : Int)) IntKind.u64.bits)).fdiv ((2 : Int) ^ Min.min (Int.toNat (8 : Int)) IntKind.u64.bits)) < (↑bytes_0.size : Int) then
 k (IntKind.i64.wrap (IntKind.i64.wrap ((32 : Int) + (8 : Int)) + IntKind.i64.wrap (↑(bytes_0.data.toList.getD (IntKind.u8.wrap ((x0.fdiv ((2 : Int) ^ Min.min (Int.toNat (32 : Int)) IntKind.u64.bits)).fdiv ((2 : Int) ^ Min.min (Int.toNat (8 : Int)) IntKind.u64.bits))).toNat (0 : UInt8)).toNat : Int)))
 else
 none
 else
 none
 else
 if (0 : Int) ≤ IntKind.u8.wrap (x0.fdiv ((2 : Int) ^ Min.min (Int.toNat (32 : Int)) IntKind.u64.bits)) ∧ IntKind.u8.wrap (x0.fdiv ((2 : Int) ^ Min.min (Int.toNat (32 : Int)) IntKind.u64.bits)) < (↑bytes_0.size : Int) then
 k (IntKind.i64.wrap ((32 : Int) + IntKind.i64.wrap (↑(bytes_0.data.toList.getD (IntKind.u8.wrap (x0.fdiv ((2 : Int) ^ Min.min (Int.toNat (32 : Int)) IntKind.u64.bits))).toNat (0 : UInt8)).toNat : Int)))
 else
 none
 else
 none
 else
 bif decide ((65536 : Int) ≤ x0) then
 if (0 : Int) ≤ (16 : Int) then
 bif decide ((256 : Int) ≤ x0.fdiv ((2 : Int) ^ Min.min (Int.toNat (16 : Int)) IntKind.u64.bits)) then
 if (0 : Int) ≤ (8 : Int) then
 if (0 : Int) ≤ IntKind.u8.wrap ((x0.fdiv ((2 : Int) ^ Min.min (Int.toNat (16 : Int)) IntKind.u64.bits)).fdiv ((2 : Int) ^ Min.min (Int.toNat (8 : Int)) IntKind.u64.bits)) ∧ IntKind.u8.wrap ((x0.fdiv ((2 : Int) ^ Min.min (Int.toNat (16 : Int)) IntKind.u64.bits)).fdiv ((2 : Int) ^ Min.min (Int.toNat (8 : Int)) IntKind.u64.bits)) < (↑bytes_0.size : Int) then
 k (IntKind.i64.wrap (IntKind.i64.wrap (IntKind.i64.wrap ((0 : Int) + (16 : Int)) + (8 : Int)) + IntKind.i64.wrap (↑(bytes_0.data.toList.getD (IntKind.u8.wrap ((x0.fdiv ((2 : Int) ^ Min.min (Int.toNat (16 : Int)) IntKind.u64.bits)).fdiv ((2 : Int) ^ Min.min (Int.toNat (8 : Int)) IntKind.u64.bits))).toNat (0 : UInt8)).toNat : Int)))
 else
 none
 else
 none
 else
 if (0 : Int) ≤ IntKind.u8.wrap (x0.fdiv ((2 : Int) ^ Min.min (Int.toNat (16 : Int)) IntKind.u64.bits)) ∧ IntKind.u8.wrap (x0.fdiv ((2 : Int) ^ Min.min (Int.toNat (16 : Int)) IntKind.u64.bits)) < (↑bytes_0.size : Int) then
 k (IntKind.i64.wrap (IntKind.i64.wrap ((0 : Int) + (16 : Int)) + IntKind.i64.wrap (↑(bytes_0.data.toList.getD (IntKind.u8.wrap (x0.fdiv ((2 : Int) ^ Min.min (Int.toNat (16 : Int)) IntKind.u64.bits))).toNat (0 : UInt8)).toNat : Int)))
 else
 none
 else
 none
 else
 bif decide ((256 : Int) ≤ x0) then
 if (0 : Int) ≤ (8 : Int) then
 if (0 : Int) ≤ IntKind.u8.wrap (x0.fdiv ((2 : Int) ^ Min.min (Int.toNat (8 : Int)) IntKind.u64.bits)) ∧ IntKind.u8.wrap (x0.fdiv ((2 : Int) ^ Min.min (Int.toNat (8 : Int)) IntKind.u64.bits)) < (↑bytes_0.size : Int) then
 k (IntKind.i64.wrap (IntKind.i64.wrap ((0 : Int) + (8 : Int)) + IntKind.i64.wrap (↑(bytes_0.data.toList.getD (IntKind.u8.wrap (x0.fdiv ((2 : Int) ^ Min.min (Int.toNat (8 : Int)) IntKind.u64.bits))).toNat (0 : UInt8)).toNat : Int)))
 else
 none
 else
 none
 else
 if (0 : Int) ≤ IntKind.u8.wrap x0 ∧ IntKind.u8.wrap x0 < (↑bytes_0.size : Int) then
 k (IntKind.i64.wrap ((0 : Int) + IntKind.i64.wrap (↑(bytes_0.data.toList.getD (IntKind.u8.wrap x0).toNat (0 : UInt8)).toNat : Int)))
 else
 none
theorem c_Z35_bind {R : Type} (x0 : Int) (k : Int → Option R) : c_Z35 x0 k = (c_Z35 x0 some).bind k := by
 unfold c_Z35
 repeat' first|exact bnd_tail|exact bnd_none|exact bnd_leaf|apply bnd_ite|apply bnd_cond|apply bnd_sum|(apply bnd_bind;intro _)|intro _
def Z35 (x0 : Int) : Option (Int) := c_Z35 x0 some
def e_Z35 : Ent := ⟨91, [.int .u64], .int .i64, [.undef], fun _ ds k => dI (fun x0 ds => dE ((Z35 x0).bind (fun y => k [.I y])) ds) ds⟩
theorem q_Z35 (x0 : Int) : runFn (ocOf []) (olOf []) A 91 Try.f91 (Sh.mks e_Z35.sh [.I x0]).1 (fun v os => some (v, os)) = c_Z35 x0 (fun y => some ((e_Z35.res.mk [.I y]).1, (Sh.mks e_Z35.outs (e_Z35.res.mk [.I y]).2).1)) := by kernel_rfl
theorem e_Z35_ok : e_Z35.ok Try.prog A := by
 intro R ds k r h
 unfold e_Z35 at h
 obtain ⟨x0, d0, rfl, h0⟩ := dI_some h
 obtain ⟨rfl, hE⟩ := dE_some h0
 obtain ⟨y, hy, hk⟩ := bnd_some hE
 refine ⟨_, hk, fn_ok px (fx := ⟨Try.func91, by kernel_rfl, by kernel_rfl⟩) entsOK_nil lentsOK_nil ?_⟩
 have hq := q_Z35 x0
 rw [c_Z35_bind] at hq
 rw [show c_Z35 x0 some = some y from hy] at hq
 exact hq

/-!-/
def c_Z36 {R : Type} (x0 : Int) (k : Int → Option R) : Option R :=
 (Z35 x0).bind (fun y0 =>
 k y0)
theorem c_Z36_bind {R : Type} (x0 : Int) (k : Int → Option R) : c_Z36 x0 k = (c_Z36 x0 some).bind k := by
 unfold c_Z36
 repeat' first|exact bnd_tail|exact bnd_none|exact bnd_leaf|apply bnd_ite|apply bnd_cond|apply bnd_sum|(apply bnd_bind;intro _)|intro _
def Z36 (x0 : Int) : Option (Int) := c_Z36 x0 some
def e_Z36 : Ent := ⟨77, [.int .u64], .int .i64, [.undef], fun _ ds k => dI (fun x0 ds => dE ((Z36 x0).bind (fun y => k [.I y])) ds) ds⟩
theorem q_Z36 (x0 : Int) : runFn (ocOf [e_Z35]) (olOf []) A 77 Try.f77 (Sh.mks e_Z36.sh [.I x0]).1 (fun v os => some (v, os)) = c_Z36 x0 (fun y => some ((e_Z36.res.mk [.I y]).1, (Sh.mks e_Z36.outs (e_Z36.res.mk [.I y]).2).1)) := by kernel_rfl
theorem e_Z36_ok : e_Z36.ok Try.prog A := by
 intro R ds k r h
 unfold e_Z36 at h
 obtain ⟨x0, d0, rfl, h0⟩ := dI_some h
 obtain ⟨rfl, hE⟩ := dE_some h0
 obtain ⟨y, hy, hk⟩ := bnd_some hE
 refine ⟨_, hk, fn_ok px (fx := ⟨Try.func77, by kernel_rfl, by kernel_rfl⟩) (entsOK_cons e_Z35_ok entsOK_nil) lentsOK_nil ?_⟩
 have hq := q_Z36 x0
 rw [c_Z36_bind] at hq
 rw [show c_Z36 x0 some = some y from hy] at hq
 exact hq

/-!-/
def c_Z37 {R : Type} (x0 : Int) (k : Bool → Option R) : Option R :=
 k (!decide (x0 = x0))
theorem c_Z37_bind {R : Type} (x0 : Int) (k : Bool → Option R) : c_Z37 x0 k = (c_Z37 x0 some).bind k := by
 unfold c_Z37
 repeat' first|exact bnd_tail|exact bnd_none|exact bnd_leaf|apply bnd_ite|apply bnd_cond|apply bnd_sum|(apply bnd_bind;intro _)|intro _
def Z37 (x0 : Int) : Option (Bool) := c_Z37 x0 some
def e_Z37 : Ent := ⟨97, [.int .i64], .bool, [.undef], fun _ ds k => dI (fun x0 ds => dE ((Z37 x0).bind (fun y => k [.B y])) ds) ds⟩
theorem q_Z37 (x0 : Int) : runFn (ocOf []) (olOf []) A 97 Try.f97 (Sh.mks e_Z37.sh [.I x0]).1 (fun v os => some (v, os)) = c_Z37 x0 (fun y => some ((e_Z37.res.mk [.B y]).1, (Sh.mks e_Z37.outs (e_Z37.res.mk [.B y]).2).1)) := by kernel_rfl
theorem e_Z37_ok : e_Z37.ok Try.prog A := by
 intro R ds k r h
 unfold e_Z37 at h
 obtain ⟨x0, d0, rfl, h0⟩ := dI_some h
 obtain ⟨rfl, hE⟩ := dE_some h0
 obtain ⟨y, hy, hk⟩ := bnd_some hE
 refine ⟨_, hk, fn_ok px (fx := ⟨Try.func97, by kernel_rfl, by kernel_rfl⟩) entsOK_nil lentsOK_nil ?_⟩
 have hq := q_Z37 x0
 rw [c_Z37_bind] at hq
 rw [show c_Z37 x0 some = some y from hy] at hq
 exact hq

/-!-/
def c_Z38 {R : Type} (x0 : Int) (x1 : Int) (k : Bool → Option R) : Option R :=
 (Z37 x0).bind (fun y0 =>
 bif y0 then
 (Z37 x1).bind (fun y1 =>
 bif !y1 then
 k Bool.true
 else
 k (decide (x0 < x1)))
 else
 k (decide (x0 < x1)))
theorem c_Z38_bind {R : Type} (x0 : Int) (x1 : Int) (k : Bool → Option R) : c_Z38 x0 x1 k = (c_Z38 x0 x1 some).bind k := by
 unfold c_Z38
 repeat' first|exact bnd_tail|exact bnd_none|exact bnd_leaf|apply bnd_ite|apply bnd_cond|apply bnd_sum|(apply bnd_bind;intro _)|intro _
def Z38 (x0 : Int) (x1 : Int) : Option (Bool) := c_Z38 x0 x1 some
def e_Z38 : Ent := ⟨87, [.int .i64, .int .i64], .bool, [.undef, .undef], fun _ ds k => dI (fun x0 ds => dI (fun x1 ds => dE ((Z38 x0 x1).bind (fun y => k [.B y])) ds) ds) ds⟩
theorem q_Z38 (x0 : Int) (x1 : Int) : runFn (ocOf [e_Z37]) (olOf []) A 87 Try.f87 (Sh.mks e_Z38.sh [.I x0, .I x1]).1 (fun v os => some (v, os)) = c_Z38 x0 x1 (fun y => some ((e_Z38.res.mk [.B y]).1, (Sh.mks e_Z38.outs (e_Z38.res.mk [.B y]).2).1)) := by kernel_rfl
theorem e_Z38_ok : e_Z38.ok Try.prog A := by
 intro R ds k r h
 unfold e_Z38 at h
 obtain ⟨x0, d0, rfl, h0⟩ := dI_some h
 obtain ⟨x1, d1, rfl, h1⟩ := dI_some h0
 obtain ⟨rfl, hE⟩ := dE_some h1
 obtain ⟨y, hy, hk⟩ := bnd_some hE
 refine ⟨_, hk, fn_ok px (fx := ⟨Try.func87, by kernel_rfl, by kernel_rfl⟩) (entsOK_cons e_Z37_ok entsOK_nil) lentsOK_nil ?_⟩
 have hq := q_Z38 x0 x1
 rw [c_Z38_bind] at hq
 rw [show c_Z38 x0 x1 some = some y from hy] at hq
 exact hq

/-!-/
def c_Z39 {R : Type} (F : Int → Int → Int → Int → List D → Option (Int × Int × Int × List D)) (x0 : Int) (x1 : Int) (x2 : Int) (x3 : Int) (x4 : List D) (k : Int × Int × Int × List D → Option R) : Option R :=
 bif decide (x0 < x3) then
 if 0 ≤ x3 ∧ x3 < (↑x4.length : Int) then
 if x3.toNat + 1 ≤ x4.length then
 if (0 : Int) ≤ IntKind.i64.wrap (x3 - 1) ∧ IntKind.i64.wrap (x3 - 1) < (↑x4.length : Int) then
 if (IntKind.i64.wrap (x3 - 1)).toNat + 1 ≤ x4.length then
 (Z38 ((x4.getD x3.toNat (D.int 0)).toInt) ((x4.getD (IntKind.i64.wrap (x3 - 1)).toNat (D.int 0)).toInt)).bind (fun y0 =>
 bif y0 then
 if (0 : Int) ≤ IntKind.i64.wrap (x3 - 1) ∧ IntKind.i64.wrap (x3 - 1) < (↑x4.length : Int) then
 if (IntKind.i64.wrap (x3 - 1)).toNat + 1 ≤ x4.length then
 if 0 ≤ x3 ∧ x3 < (↑x4.length : Int) then
 if x3.toNat + 1 ≤ x4.length then
 if 0 ≤ x3 ∧ x3 < (↑x4.length : Int) then
 if x3.toNat + 1 ≤ x4.length then
 if (0 : Int) ≤ IntKind.i64.wrap (x3 - 1) ∧ IntKind.i64.wrap (x3 - 1) < (↑(x4.set x3.toNat (D.int (x4.getD (IntKind.i64.wrap (x3 - 1)).toNat (D.int 0)).toInt)).length : Int) then
 if (IntKind.i64.wrap (x3 - 1)).toNat + 1 ≤ (x4.set x3.toNat (D.int (x4.getD (IntKind.i64.wrap (x3 - 1)).toNat (D.int 0)).toInt)).length then
 (F x0 x1 x2 (IntKind.i64.wrap (x3 - 1)) ((x4.set x3.toNat (D.int (x4.getD (IntKind.i64.wrap (x3 - 1)).toNat (D.int 0)).toInt)).set (IntKind.i64.wrap (x3 - 1)).toNat (D.int (x4.getD x3.toNat (D.int 0)).toInt))).bind k
 else
 none
 else
 none
 else
 none
 else
 none
 else
 none
 else
 none
 else
 none
 else
 none
 else
 k (x0, x1, x2, x4))
 else
 none
 else
 none
 else
 none
 else
 none
 else
 k (x0, x1, x2, x4)
theorem c_Z39_bind {R : Type} (F : Int → Int → Int → Int → List D → Option (Int × Int × Int × List D)) (x0 : Int) (x1 : Int) (x2 : Int) (x3 : Int) (x4 : List D) (k : Int × Int × Int × List D → Option R) : c_Z39 F x0 x1 x2 x3 x4 k = (c_Z39 F x0 x1 x2 x3 x4 some).bind k := by
 unfold c_Z39
 repeat' first|exact bnd_tail|exact bnd_none|exact bnd_leaf|apply bnd_ite|apply bnd_cond|apply bnd_sum|(apply bnd_bind;intro _)|intro _
def n_Z39 : Nat → Int → Int → Int → Int → List D → Option (Int × Int × Int × List D)
 | 0, _, _, _, _, _ => none
 | n + 1, x0, x1, x2, x3, x4 => c_Z39 (n_Z39 n) x0 x1 x2 x3 x4 some
noncomputable def Z39 (x0 : Int) (x1 : Int) (x2 : Int) (x3 : Int) (x4 : List D) : Option (Int × Int × Int × List D) := ev (fun n => n_Z39 n x0 x1 x2 x3 x4)
def m_Z39 (F : Int → Int → Int → Int → List D → Option (Int × Int × Int × List D)) : Lent := ⟨4, ⟨(.full 1000 [] (.int .i64) :: .int .i64 :: .int .i64 :: .undef :: .undef :: .undef :: .int .i64 :: .int .i64 :: uu 41 ([])), [(1000, .own (.int .i64))]⟩, [(.exit 2, ⟨(.full 1000 [] (.int .i64) :: .int .i64 :: .int .i64 :: .undef :: .undef :: .undef :: .int .i64 :: uu 42 ([])), [(1000, .own (.int .i64))]⟩)], fun _ ds k => dI (fun x0 ds => dI (fun x1 ds => dI (fun x2 ds => dI (fun x3 ds => dL (fun x4 ds => dE ((F x0 x1 x2 x3 x4).bind (fun y => k 0 [.I y.1, .I y.2.1, .I y.2.2.1, .L y.2.2.2])) ds) ds) ds) ds) ds) ds⟩
theorem q_Z39 (F : Int → Int → Int → Int → List D → Option (Int × Int × Int × List D)) (x0 : Int) (x1 : Int) (x2 : Int) (x3 : Int) (x4 : List D) : runLoop (ocOf [e_Z38]) (olOf [m_Z39 F]) A 81 (codeAt (bodyOf Try.f81) 4) ((m_Z39 F).sh.mk' [.I x0, .I x1, .I x2, .I x3, .L x4]) (fun e σ' => some (e, σ')) = c_Z39 F x0 x1 x2 x3 x4 (fun y => some (.exit 2, SSt.mk' ⟨(.full 1000 [] (.int .i64) :: .int .i64 :: .int .i64 :: .undef :: .undef :: .undef :: .int .i64 :: uu 42 ([])), [(1000, .own (.int .i64))]⟩ [.I y.1, .I y.2.1, .I y.2.2.1, .L y.2.2.2])) := by kernel_rfl
theorem m_Z39_ok : ∀ n, (m_Z39 (n_Z39 n)).ok Try.prog (codeAt (bodyOf Try.f81) 4) := by
 intro n
 induction n with
 | zero =>
  intro R ds k r h
  unfold m_Z39 at h
  obtain ⟨x0, d0, rfl, h0⟩ := dI_some h
  obtain ⟨x1, d1, rfl, h1⟩ := dI_some h0
  obtain ⟨x2, d2, rfl, h2⟩ := dI_some h1
  obtain ⟨x3, d3, rfl, h3⟩ := dI_some h2
  obtain ⟨x4, d4, rfl, h4⟩ := dL_some h3
  obtain ⟨rfl, hE⟩ := dE_some h4
  obtain ⟨y, hy, hk⟩ := bnd_some hE
  cases hy
 | succ n ih =>
  intro R ds k r h
  unfold m_Z39 at h
  obtain ⟨x0, d0, rfl, h0⟩ := dI_some h
  obtain ⟨x1, d1, rfl, h1⟩ := dI_some h0
  obtain ⟨x2, d2, rfl, h2⟩ := dI_some h1
  obtain ⟨x3, d3, rfl, h3⟩ := dI_some h2
  obtain ⟨x4, d4, rfl, h4⟩ := dL_some h3
  obtain ⟨rfl, hE⟩ := dE_some h4
  obtain ⟨y, hy, hk⟩ := bnd_some hE
  have hq := q_Z39 (n_Z39 n) x0 x1 x2 x3 x4
  rw [c_Z39_bind] at hq
  rw [show c_Z39 (n_Z39 n) x0 x1 x2 x3 x4 some = some y from hy] at hq
  refine ⟨0, _, _, _, hk, rfl, loop_ok px (fx := ⟨Try.func81, by kernel_rfl, by kernel_rfl⟩) (entsOK_cons e_Z38_ok entsOK_nil) (lentsOK_cons ih lentsOK_nil) (by kernel_rfl) ?_⟩
  exact hq
noncomputable def e_Z39 : Lent := m_Z39 (Z39)
theorem e_Z39_ok : (e_Z39).ok Try.prog (codeAt (bodyOf Try.f81) 4) := by
 intro R ds k r h
 unfold e_Z39 m_Z39 at h
 obtain ⟨x0, d0, rfl, h0⟩ := dI_some h
 obtain ⟨x1, d1, rfl, h1⟩ := dI_some h0
 obtain ⟨x2, d2, rfl, h2⟩ := dI_some h1
 obtain ⟨x3, d3, rfl, h3⟩ := dI_some h2
 obtain ⟨x4, d4, rfl, h4⟩ := dL_some h3
 obtain ⟨rfl, hE⟩ := dE_some h4
 obtain ⟨y, hy, hk⟩ := bnd_some hE
 obtain ⟨n, hn⟩ := ev_some hy
 exact m_Z39_ok n R _ k r (show (n_Z39 n x0 x1 x2 x3 x4).bind _ = _ by rw [hn]; exact hk)

/-!-/
def c_Z40 {R : Type} (F : Int → Int → Int → List D → Option (List D)) (x0 : Int) (x1 : Int) (x2 : Int) (x3 : List D) (k : List D → Option R) : Option R :=
 bif decide (x2 < x1) then
 (Z39 x0 x1 x2 x2 x3).bind (fun y0 =>
 (F y0.fst y0.snd.fst (IntKind.i64.wrap (y0.snd.snd.fst + 1)) y0.snd.snd.snd).bind k)
 else
 k x3
theorem c_Z40_bind {R : Type} (F : Int → Int → Int → List D → Option (List D)) (x0 : Int) (x1 : Int) (x2 : Int) (x3 : List D) (k : List D → Option R) : c_Z40 F x0 x1 x2 x3 k = (c_Z40 F x0 x1 x2 x3 some).bind k := by
 unfold c_Z40
 repeat' first|exact bnd_tail|exact bnd_none|exact bnd_leaf|apply bnd_ite|apply bnd_cond|apply bnd_sum|(apply bnd_bind;intro _)|intro _
def n_Z40 : Nat → Int → Int → Int → List D → Option (List D)
 | 0, _, _, _, _ => none
 | n + 1, x0, x1, x2, x3 => c_Z40 (n_Z40 n) x0 x1 x2 x3 some
noncomputable def Z40 (x0 : Int) (x1 : Int) (x2 : Int) (x3 : List D) : Option (List D) := ev (fun n => n_Z40 n x0 x1 x2 x3)
def m_Z40 (F : Int → Int → Int → List D → Option (List D)) : Lent := ⟨1, ⟨(.full 1000 [] (.int .i64) :: .int .i64 :: .int .i64 :: .undef :: .undef :: .undef :: .int .i64 :: uu 42 ([])), [(1000, .own (.int .i64))]⟩, [(.exit 0, ⟨(.full 1000 [] (.int .i64) :: uu 48 ([])), [(1000, .own (.int .i64))]⟩)], fun _ ds k => dI (fun x0 ds => dI (fun x1 ds => dI (fun x2 ds => dL (fun x3 ds => dE ((F x0 x1 x2 x3).bind (fun y => k 0 [.L y])) ds) ds) ds) ds) ds⟩
theorem q_Z40 (F : Int → Int → Int → List D → Option (List D)) (x0 : Int) (x1 : Int) (x2 : Int) (x3 : List D) : runLoop (ocOf []) (olOf [m_Z40 F, e_Z39]) A 81 (codeAt (bodyOf Try.f81) 1) ((m_Z40 F).sh.mk' [.I x0, .I x1, .I x2, .L x3]) (fun e σ' => some (e, σ')) = c_Z40 F x0 x1 x2 x3 (fun y => some (.exit 0, SSt.mk' ⟨(.full 1000 [] (.int .i64) :: uu 48 ([])), [(1000, .own (.int .i64))]⟩ [.L y])) := by kernel_rfl
theorem m_Z40_ok : ∀ n, (m_Z40 (n_Z40 n)).ok Try.prog (codeAt (bodyOf Try.f81) 1) := by
 intro n
 induction n with
 | zero =>
  intro R ds k r h
  unfold m_Z40 at h
  obtain ⟨x0, d0, rfl, h0⟩ := dI_some h
  obtain ⟨x1, d1, rfl, h1⟩ := dI_some h0
  obtain ⟨x2, d2, rfl, h2⟩ := dI_some h1
  obtain ⟨x3, d3, rfl, h3⟩ := dL_some h2
  obtain ⟨rfl, hE⟩ := dE_some h3
  obtain ⟨y, hy, hk⟩ := bnd_some hE
  cases hy
 | succ n ih =>
  intro R ds k r h
  unfold m_Z40 at h
  obtain ⟨x0, d0, rfl, h0⟩ := dI_some h
  obtain ⟨x1, d1, rfl, h1⟩ := dI_some h0
  obtain ⟨x2, d2, rfl, h2⟩ := dI_some h1
  obtain ⟨x3, d3, rfl, h3⟩ := dL_some h2
  obtain ⟨rfl, hE⟩ := dE_some h3
  obtain ⟨y, hy, hk⟩ := bnd_some hE
  have hq := q_Z40 (n_Z40 n) x0 x1 x2 x3
  rw [c_Z40_bind] at hq
  rw [show c_Z40 (n_Z40 n) x0 x1 x2 x3 some = some y from hy] at hq
  refine ⟨0, _, _, _, hk, rfl, loop_ok px (fx := ⟨Try.func81, by kernel_rfl, by kernel_rfl⟩) entsOK_nil (lentsOK_cons ih (lentsOK_cons e_Z39_ok lentsOK_nil)) (by kernel_rfl) ?_⟩
  exact hq
noncomputable def e_Z40 : Lent := m_Z40 (Z40)
theorem e_Z40_ok : (e_Z40).ok Try.prog (codeAt (bodyOf Try.f81) 1) := by
 intro R ds k r h
 unfold e_Z40 m_Z40 at h
 obtain ⟨x0, d0, rfl, h0⟩ := dI_some h
 obtain ⟨x1, d1, rfl, h1⟩ := dI_some h0
 obtain ⟨x2, d2, rfl, h2⟩ := dI_some h1
 obtain ⟨x3, d3, rfl, h3⟩ := dL_some h2
 obtain ⟨rfl, hE⟩ := dE_some h3
 obtain ⟨y, hy, hk⟩ := bnd_some hE
 obtain ⟨n, hn⟩ := ev_some hy
 exact m_Z40_ok n R _ k r (show (n_Z40 n x0 x1 x2 x3).bind _ = _ by rw [hn]; exact hk)

/-!-/
def c_Z41 {R : Type} (x0 : List D) (x1 : Int) (x2 : Int) (k : List D → Option R) : Option R :=
 (Z40 x1 x2 (IntKind.i64.wrap (x1 + 1)) x0).bind (fun y0 =>
 k y0)
theorem c_Z41_bind {R : Type} (x0 : List D) (x1 : Int) (x2 : Int) (k : List D → Option R) : c_Z41 x0 x1 x2 k = (c_Z41 x0 x1 x2 some).bind k := by
 unfold c_Z41
 repeat' first|exact bnd_tail|exact bnd_none|exact bnd_leaf|apply bnd_ite|apply bnd_cond|apply bnd_sum|(apply bnd_bind;intro _)|intro _
def Z41 (x0 : List D) (x1 : Int) (x2 : Int) : Option (List D) := c_Z41 x0 x1 x2 some
def e_Z41 : Ent := ⟨81, [.own (.int .i64), .int .i64, .int .i64], .tup [], [.own (.int .i64), .undef, .undef], fun _ ds k => dL (fun x0 ds => dI (fun x1 ds => dI (fun x2 ds => dE ((Z41 x0 x1 x2).bind (fun y => k [.L y])) ds) ds) ds) ds⟩
theorem q_Z41 (x0 : List D) (x1 : Int) (x2 : Int) : runFn (ocOf []) (olOf [e_Z40]) A 81 Try.f81 (Sh.mks e_Z41.sh [.L x0, .I x1, .I x2]).1 (fun v os => some (v, os)) = c_Z41 x0 x1 x2 (fun y => some ((e_Z41.res.mk [.L y]).1, (Sh.mks e_Z41.outs (e_Z41.res.mk [.L y]).2).1)) := by kernel_rfl
theorem e_Z41_ok : e_Z41.ok Try.prog A := by
 intro R ds k r h
 unfold e_Z41 at h
 obtain ⟨x0, d0, rfl, h0⟩ := dL_some h
 obtain ⟨x1, d1, rfl, h1⟩ := dI_some h0
 obtain ⟨x2, d2, rfl, h2⟩ := dI_some h1
 obtain ⟨rfl, hE⟩ := dE_some h2
 obtain ⟨y, hy, hk⟩ := bnd_some hE
 refine ⟨_, hk, fn_ok px (fx := ⟨Try.func81, by kernel_rfl, by kernel_rfl⟩) entsOK_nil (lentsOK_cons e_Z40_ok lentsOK_nil) ?_⟩
 have hq := q_Z41 x0 x1 x2
 rw [c_Z41_bind] at hq
 rw [show c_Z41 x0 x1 x2 some = some y from hy] at hq
 exact hq

/-!-/
def c_Z42 {R : Type} (F : Int → Int → Int → List D → Option ((List D) ⊕ (List D))) (x0 : Int) (x1 : Int) (x2 : Int) (x3 : List D) (k : (List D) ⊕ (List D) → Option R) : Option R :=
 bif decide (x0 ≤ IntKind.i64.wrap (IntKind.i64.wrap ((2 : Int) * x2) + (1 : Int))) then
 k (.inl x3)
 else
 bif decide (IntKind.i64.wrap (IntKind.i64.wrap (IntKind.i64.wrap ((2 : Int) * x2) + (1 : Int)) + (1 : Int)) < x0) then
 if (0 : Int) ≤ IntKind.i64.wrap (x1 + IntKind.i64.wrap (IntKind.i64.wrap ((2 : Int) * x2) + (1 : Int))) ∧ IntKind.i64.wrap (x1 + IntKind.i64.wrap (IntKind.i64.wrap ((2 : Int) * x2) + (1 : Int))) < (↑x3.length : Int) then
 if (IntKind.i64.wrap (x1 + IntKind.i64.wrap (IntKind.i64.wrap ((2 : Int) * x2) + (1 : Int)))).toNat + 1 ≤ x3.length then
 if (0 : Int) ≤ IntKind.i64.wrap (IntKind.i64.wrap (x1 + IntKind.i64.wrap (IntKind.i64.wrap ((2 : Int) * x2) + (1 : Int))) + (1 : Int)) ∧ IntKind.i64.wrap (IntKind.i64.wrap (x1 + IntKind.i64.wrap (IntKind.i64.wrap ((2 : Int) * x2) + (1 : Int))) + (1 : Int)) < (↑x3.length : Int) then
 if (IntKind.i64.wrap (IntKind.i64.wrap (x1 + IntKind.i64.wrap (IntKind.i64.wrap ((2 : Int) * x2) + (1 : Int))) + (1 : Int))).toNat + 1 ≤ x3.length then
 (Z38 ((x3.getD (IntKind.i64.wrap (x1 + IntKind.i64.wrap (IntKind.i64.wrap ((2 : Int) * x2) + (1 : Int)))).toNat (D.int 0)).toInt) ((x3.getD (IntKind.i64.wrap (IntKind.i64.wrap (x1 + IntKind.i64.wrap (IntKind.i64.wrap ((2 : Int) * x2) + (1 : Int))) + (1 : Int))).toNat (D.int 0)).toInt)).bind (fun y0 =>
 bif y0 then
 if (0 : Int) ≤ IntKind.i64.wrap (x1 + x2) ∧ IntKind.i64.wrap (x1 + x2) < (↑x3.length : Int) then
 if (IntKind.i64.wrap (x1 + x2)).toNat + 1 ≤ x3.length then
 if (0 : Int) ≤ IntKind.i64.wrap (x1 + IntKind.i64.wrap (IntKind.i64.wrap (IntKind.i64.wrap ((2 : Int) * x2) + (1 : Int)) + (1 : Int))) ∧ IntKind.i64.wrap (x1 + IntKind.i64.wrap (IntKind.i64.wrap (IntKind.i64.wrap ((2 : Int) * x2) + (1 : Int)) + (1 : Int))) < (↑x3.length : Int) then
 if (IntKind.i64.wrap (x1 + IntKind.i64.wrap (IntKind.i64.wrap (IntKind.i64.wrap ((2 : Int) * x2) + (1 : Int)) + (1 : Int)))).toNat + 1 ≤ x3.length then
 (Z38 ((x3.getD (IntKind.i64.wrap (x1 + x2)).toNat (D.int 0)).toInt) ((x3.getD (IntKind.i64.wrap (x1 + IntKind.i64.wrap (IntKind.i64.wrap (IntKind.i64.wrap ((2 : Int) * x2) + (1 : Int)) + (1 : Int)))).toNat (D.int 0)).toInt)).bind (fun y1 =>
 bif !y1 then
 k (.inr x3)
 else
 if (0 : Int) ≤ IntKind.i64.wrap (x1 + IntKind.i64.wrap (IntKind.i64.wrap (IntKind.i64.wrap ((2 : Int) * x2) + (1 : Int)) + (1 : Int))) ∧ IntKind.i64.wrap (x1 + IntKind.i64.wrap (IntKind.i64.wrap (IntKind.i64.wrap ((2 : Int) * x2) + (1 : Int)) + (1 : Int))) < (↑x3.length : Int) then
 if (IntKind.i64.wrap (x1 + IntKind.i64.wrap (IntKind.i64.wrap (IntKind.i64.wrap ((2 : Int) * x2) + (1 : Int)) + (1 : Int)))).toNat + 1 ≤ x3.length then
 if (0 : Int) ≤ IntKind.i64.wrap (x1 + x2) ∧ IntKind.i64.wrap (x1 + x2) < (↑x3.length : Int) then
 if (IntKind.i64.wrap (x1 + x2)).toNat + 1 ≤ x3.length then
 if (0 : Int) ≤ IntKind.i64.wrap (x1 + x2) ∧ IntKind.i64.wrap (x1 + x2) < (↑x3.length : Int) then
 if (IntKind.i64.wrap (x1 + x2)).toNat + 1 ≤ x3.length then
 if (0 : Int) ≤ IntKind.i64.wrap (x1 + IntKind.i64.wrap (IntKind.i64.wrap (IntKind.i64.wrap ((2 : Int) * x2) + (1 : Int)) + (1 : Int))) ∧ IntKind.i64.wrap (x1 + IntKind.i64.wrap (IntKind.i64.wrap (IntKind.i64.wrap ((2 : Int) * x2) + (1 : Int)) + (1 : Int))) < (↑(x3.set (IntKind.i64.wrap (x1 + x2)).toNat (D.int (x3.getD (IntKind.i64.wrap (x1 + IntKind.i64.wrap (IntKind.i64.wrap (IntKind.i64.wrap ((2 : Int) * x2) + (1 : Int)) + (1 : Int)))).toNat (D.int 0)).toInt)).length : Int) then
 if (IntKind.i64.wrap (x1 + IntKind.i64.wrap (IntKind.i64.wrap (IntKind.i64.wrap ((2 : Int) * x2) + (1 : Int)) + (1 : Int)))).toNat + 1 ≤ (x3.set (IntKind.i64.wrap (x1 + x2)).toNat (D.int (x3.getD (IntKind.i64.wrap (x1 + IntKind.i64.wrap (IntKind.i64.wrap (IntKind.i64.wrap ((2 : Int) * x2) + (1 : Int)) + (1 : Int)))).toNat (D.int 0)).toInt)).length then
 (F x0 x1 (IntKind.i64.wrap (IntKind.i64.wrap (IntKind.i64.wrap ((2 : Int) * x2) + (1 : Int)) + (1 : Int))) ((x3.set (IntKind.i64.wrap (x1 + x2)).toNat (D.int (x3.getD (IntKind.i64.wrap (x1 + IntKind.i64.wrap (IntKind.i64.wrap (IntKind.i64.wrap ((2 : Int) * x2) + (1 : Int)) + (1 : Int)))).toNat (D.int 0)).toInt)).set (IntKind.i64.wrap (x1 + IntKind.i64.wrap (IntKind.i64.wrap (IntKind.i64.wrap ((2 : Int) * x2) + (1 : Int)) + (1 : Int)))).toNat (D.int (x3.getD (IntKind.i64.wrap (x1 + x2)).toNat (D.int 0)).toInt))).bind k
 else
 none
 else
 none
 else
 none
 else
 none
 else
 none
 else
 none
 else
 none
 else
 none)
 else
 none
 else
 none
 else
 none
 else
 none
 else
 if (0 : Int) ≤ IntKind.i64.wrap (x1 + x2) ∧ IntKind.i64.wrap (x1 + x2) < (↑x3.length : Int) then
 if (IntKind.i64.wrap (x1 + x2)).toNat + 1 ≤ x3.length then
 if (0 : Int) ≤ IntKind.i64.wrap (x1 + IntKind.i64.wrap (IntKind.i64.wrap ((2 : Int) * x2) + (1 : Int))) ∧ IntKind.i64.wrap (x1 + IntKind.i64.wrap (IntKind.i64.wrap ((2 : Int) * x2) + (1 : Int))) < (↑x3.length : Int) then
 if (IntKind.i64.wrap (x1 + IntKind.i64.wrap (IntKind.i64.wrap ((2 : Int) * x2) + (1 : Int)))).toNat + 1 ≤ x3.length then
 (Z38 ((x3.getD (IntKind.i64.wrap (x1 + x2)).toNat (D.int 0)).toInt) ((x3.getD (IntKind.i64.wrap (x1 + IntKind.i64.wrap (IntKind.i64.wrap ((2 : Int) * x2) + (1 : Int)))).toNat (D.int 0)).toInt)).bind (fun y2 =>
 bif !y2 then
 k (.inr x3)
 else
 if (0 : Int) ≤ IntKind.i64.wrap (x1 + IntKind.i64.wrap (IntKind.i64.wrap ((2 : Int) * x2) + (1 : Int))) ∧ IntKind.i64.wrap (x1 + IntKind.i64.wrap (IntKind.i64.wrap ((2 : Int) * x2) + (1 : Int))) < (↑x3.length : Int) then
 if (IntKind.i64.wrap (x1 + IntKind.i64.wrap (IntKind.i64.wrap ((2 : Int) * x2) + (1 : Int)))).toNat + 1 ≤ x3.length then
 if (0 : Int) ≤ IntKind.i64.wrap (x1 + x2) ∧ IntKind.i64.wrap (x1 + x2) < (↑x3.length : Int) then
 if (IntKind.i64.wrap (x1 + x2)).toNat + 1 ≤ x3.length then
 if (0 : Int) ≤ IntKind.i64.wrap (x1 + x2) ∧ IntKind.i64.wrap (x1 + x2) < (↑x3.length : Int) then
 if (IntKind.i64.wrap (x1 + x2)).toNat + 1 ≤ x3.length then
 if (0 : Int) ≤ IntKind.i64.wrap (x1 + IntKind.i64.wrap (IntKind.i64.wrap ((2 : Int) * x2) + (1 : Int))) ∧ IntKind.i64.wrap (x1 + IntKind.i64.wrap (IntKind.i64.wrap ((2 : Int) * x2) + (1 : Int))) < (↑(x3.set (IntKind.i64.wrap (x1 + x2)).toNat (D.int (x3.getD (IntKind.i64.wrap (x1 + IntKind.i64.wrap (IntKind.i64.wrap ((2 : Int) * x2) + (1 : Int)))).toNat (D.int 0)).toInt)).length : Int) then
 if (IntKind.i64.wrap (x1 + IntKind.i64.wrap (IntKind.i64.wrap ((2 : Int) * x2) + (1 : Int)))).toNat + 1 ≤ (x3.set (IntKind.i64.wrap (x1 + x2)).toNat (D.int (x3.getD (IntKind.i64.wrap (x1 + IntKind.i64.wrap (IntKind.i64.wrap ((2 : Int) * x2) + (1 : Int)))).toNat (D.int 0)).toInt)).length then
 (F x0 x1 (IntKind.i64.wrap (IntKind.i64.wrap ((2 : Int) * x2) + (1 : Int))) ((x3.set (IntKind.i64.wrap (x1 + x2)).toNat (D.int (x3.getD (IntKind.i64.wrap (x1 + IntKind.i64.wrap (IntKind.i64.wrap ((2 : Int) * x2) + (1 : Int)))).toNat (D.int 0)).toInt)).set (IntKind.i64.wrap (x1 + IntKind.i64.wrap (IntKind.i64.wrap ((2 : Int) * x2) + (1 : Int)))).toNat (D.int (x3.getD (IntKind.i64.wrap (x1 + x2)).toNat (D.int 0)).toInt))).bind k
 else
 none
 else
 none
 else
 none
 else
 none
 else
 none
 else
 none
 else
 none
 else
 none)
 else
 none
 else
 none
 else
 none
 else
 none)
 else
 none
 else
 none
 else
 none
 else
 none
 else
 if (0 : Int) ≤ IntKind.i64.wrap (x1 + x2) ∧ IntKind.i64.wrap (x1 + x2) < (↑x3.length : Int) then
 if (IntKind.i64.wrap (x1 + x2)).toNat + 1 ≤ x3.length then
 if (0 : Int) ≤ IntKind.i64.wrap (x1 + IntKind.i64.wrap (IntKind.i64.wrap ((2 : Int) * x2) + (1 : Int))) ∧ IntKind.i64.wrap (x1 + IntKind.i64.wrap (IntKind.i64.wrap ((2 : Int) * x2) + (1 : Int))) < (↑x3.length : Int) then
 if (IntKind.i64.wrap (x1 + IntKind.i64.wrap (IntKind.i64.wrap ((2 : Int) * x2) + (1 : Int)))).toNat + 1 ≤ x3.length then
 (Z38 ((x3.getD (IntKind.i64.wrap (x1 + x2)).toNat (D.int 0)).toInt) ((x3.getD (IntKind.i64.wrap (x1 + IntKind.i64.wrap (IntKind.i64.wrap ((2 : Int) * x2) + (1 : Int)))).toNat (D.int 0)).toInt)).bind (fun y3 =>
 bif !y3 then
 k (.inr x3)
 else
 if (0 : Int) ≤ IntKind.i64.wrap (x1 + IntKind.i64.wrap (IntKind.i64.wrap ((2 : Int) * x2) + (1 : Int))) ∧ IntKind.i64.wrap (x1 + IntKind.i64.wrap (IntKind.i64.wrap ((2 : Int) * x2) + (1 : Int))) < (↑x3.length : Int) then
 if (IntKind.i64.wrap (x1 + IntKind.i64.wrap (IntKind.i64.wrap ((2 : Int) * x2) + (1 : Int)))).toNat + 1 ≤ x3.length then
 if (0 : Int) ≤ IntKind.i64.wrap (x1 + x2) ∧ IntKind.i64.wrap (x1 + x2) < (↑x3.length : Int) then
 if (IntKind.i64.wrap (x1 + x2)).toNat + 1 ≤ x3.length then
 if (0 : Int) ≤ IntKind.i64.wrap (x1 + x2) ∧ IntKind.i64.wrap (x1 + x2) < (↑x3.length : Int) then
 if (IntKind.i64.wrap (x1 + x2)).toNat + 1 ≤ x3.length then
 if (0 : Int) ≤ IntKind.i64.wrap (x1 + IntKind.i64.wrap (IntKind.i64.wrap ((2 : Int) * x2) + (1 : Int))) ∧ IntKind.i64.wrap (x1 + IntKind.i64.wrap (IntKind.i64.wrap ((2 : Int) * x2) + (1 : Int))) < (↑(x3.set (IntKind.i64.wrap (x1 + x2)).toNat (D.int (x3.getD (IntKind.i64.wrap (x1 + IntKind.i64.wrap (IntKind.i64.wrap ((2 : Int) * x2) + (1 : Int)))).toNat (D.int 0)).toInt)).length : Int) then
 if (IntKind.i64.wrap (x1 + IntKind.i64.wrap (IntKind.i64.wrap ((2 : Int) * x2) + (1 : Int)))).toNat + 1 ≤ (x3.set (IntKind.i64.wrap (x1 + x2)).toNat (D.int (x3.getD (IntKind.i64.wrap (x1 + IntKind.i64.wrap (IntKind.i64.wrap ((2 : Int) * x2) + (1 : Int)))).toNat (D.int 0)).toInt)).length then
 (F x0 x1 (IntKind.i64.wrap (IntKind.i64.wrap ((2 : Int) * x2) + (1 : Int))) ((x3.set (IntKind.i64.wrap (x1 + x2)).toNat (D.int (x3.getD (IntKind.i64.wrap (x1 + IntKind.i64.wrap (IntKind.i64.wrap ((2 : Int) * x2) + (1 : Int)))).toNat (D.int 0)).toInt)).set (IntKind.i64.wrap (x1 + IntKind.i64.wrap (IntKind.i64.wrap ((2 : Int) * x2) + (1 : Int)))).toNat (D.int (x3.getD (IntKind.i64.wrap (x1 + x2)).toNat (D.int 0)).toInt))).bind k
 else
 none
 else
 none
 else
 none
 else
 none
 else
 none
 else
 none
 else
 none
 else
 none)
 else
 none
 else
 none
 else
 none
 else
 none
theorem c_Z42_bind {R : Type} (F : Int → Int → Int → List D → Option ((List D) ⊕ (List D))) (x0 : Int) (x1 : Int) (x2 : Int) (x3 : List D) (k : (List D) ⊕ (List D) → Option R) : c_Z42 F x0 x1 x2 x3 k = (c_Z42 F x0 x1 x2 x3 some).bind k := by
 unfold c_Z42
 repeat' first|exact bnd_tail|exact bnd_none|exact bnd_leaf|apply bnd_ite|apply bnd_cond|apply bnd_sum|(apply bnd_bind;intro _)|intro _
def n_Z42 : Nat → Int → Int → Int → List D → Option ((List D) ⊕ (List D))
 | 0, _, _, _, _ => none
 | n + 1, x0, x1, x2, x3 => c_Z42 (n_Z42 n) x0 x1 x2 x3 some
noncomputable def Z42 (x0 : Int) (x1 : Int) (x2 : Int) (x3 : List D) : Option ((List D) ⊕ (List D)) := ev (fun n => n_Z42 n x0 x1 x2 x3)
def m_Z42 (F : Int → Int → Int → List D → Option ((List D) ⊕ (List D))) : Lent := ⟨1, ⟨(.full 1000 [] (.int .i64) :: .undef :: .int .i64 :: .int .i64 :: uu 4 (.int .i64 :: uu 67 ([]))), [(1000, .own (.int .i64))]⟩, [(.exit 0, ⟨(.full 1000 [] (.int .i64) :: uu 75 ([])), [(1000, .own (.int .i64))]⟩), (.ret, ⟨(.full 1000 [] (.int .i64) :: uu 75 ([])), [(1000, .own (.int .i64))]⟩)], fun _ ds k => dI (fun x0 ds => dI (fun x1 ds => dI (fun x2 ds => dL (fun x3 ds => dE ((F x0 x1 x2 x3).bind (Sum.elim (fun y => k 0 [.L y]) (fun y => k 1 [.L y]))) ds) ds) ds) ds) ds⟩
theorem q_Z42 (F : Int → Int → Int → List D → Option ((List D) ⊕ (List D))) (x0 : Int) (x1 : Int) (x2 : Int) (x3 : List D) : runLoop (ocOf [e_Z38]) (olOf [m_Z42 F]) A 92 (codeAt (bodyOf Try.f92) 1) ((m_Z42 F).sh.mk' [.I x0, .I x1, .I x2, .L x3]) (fun e σ' => some (e, σ')) = c_Z42 F x0 x1 x2 x3 (Sum.elim (fun y => some (.exit 0, SSt.mk' ⟨(.full 1000 [] (.int .i64) :: uu 75 ([])), [(1000, .own (.int .i64))]⟩ [.L y])) (fun y => some (.ret, SSt.mk' ⟨(.full 1000 [] (.int .i64) :: uu 75 ([])), [(1000, .own (.int .i64))]⟩ [.L y]))) := by kernel_rfl
theorem m_Z42_ok : ∀ n, (m_Z42 (n_Z42 n)).ok Try.prog (codeAt (bodyOf Try.f92) 1) := by
 intro n
 induction n with
 | zero =>
  intro R ds k r h
  unfold m_Z42 at h
  obtain ⟨x0, d0, rfl, h0⟩ := dI_some h
  obtain ⟨x1, d1, rfl, h1⟩ := dI_some h0
  obtain ⟨x2, d2, rfl, h2⟩ := dI_some h1
  obtain ⟨x3, d3, rfl, h3⟩ := dL_some h2
  obtain ⟨rfl, hE⟩ := dE_some h3
  obtain ⟨y, hy, hk⟩ := bnd_some hE
  cases hy
 | succ n ih =>
  intro R ds k r h
  unfold m_Z42 at h
  obtain ⟨x0, d0, rfl, h0⟩ := dI_some h
  obtain ⟨x1, d1, rfl, h1⟩ := dI_some h0
  obtain ⟨x2, d2, rfl, h2⟩ := dI_some h1
  obtain ⟨x3, d3, rfl, h3⟩ := dL_some h2
  obtain ⟨rfl, hE⟩ := dE_some h3
  obtain ⟨y, hy, hk⟩ := bnd_some hE
  have hq := q_Z42 (n_Z42 n) x0 x1 x2 x3
  rw [c_Z42_bind] at hq
  rw [show c_Z42 (n_Z42 n) x0 x1 x2 x3 some = some y from hy] at hq
  cases y with
  | inl y =>
   refine ⟨0, _, _, _, hk, rfl, loop_ok px (fx := ⟨Try.func92, by kernel_rfl, by kernel_rfl⟩) (entsOK_cons e_Z38_ok entsOK_nil) (lentsOK_cons ih lentsOK_nil) (by kernel_rfl) ?_⟩
   exact hq
  | inr y =>
   refine ⟨1, _, _, _, hk, rfl, loop_ok px (fx := ⟨Try.func92, by kernel_rfl, by kernel_rfl⟩) (entsOK_cons e_Z38_ok entsOK_nil) (lentsOK_cons ih lentsOK_nil) (by kernel_rfl) ?_⟩
   exact hq
noncomputable def e_Z42 : Lent := m_Z42 (Z42)
theorem e_Z42_ok : (e_Z42).ok Try.prog (codeAt (bodyOf Try.f92) 1) := by
 intro R ds k r h
 unfold e_Z42 m_Z42 at h
 obtain ⟨x0, d0, rfl, h0⟩ := dI_some h
 obtain ⟨x1, d1, rfl, h1⟩ := dI_some h0
 obtain ⟨x2, d2, rfl, h2⟩ := dI_some h1
 obtain ⟨x3, d3, rfl, h3⟩ := dL_some h2
 obtain ⟨rfl, hE⟩ := dE_some h3
 obtain ⟨y, hy, hk⟩ := bnd_some hE
 obtain ⟨n, hn⟩ := ev_some hy
 exact m_Z42_ok n R _ k r (show (n_Z42 n x0 x1 x2 x3).bind _ = _ by rw [hn]; exact hk)

/-!-/
def c_Z43 {R : Type} (x0 : List D) (x1 : Int) (x2 : Int) (x3 : Int) (k : List D → Option R) : Option R :=
 (Z42 x2 x3 x1 x0).bind (Sum.elim (fun y0 =>
 k y0) (fun y1 =>
 k y1))
theorem c_Z43_bind {R : Type} (x0 : List D) (x1 : Int) (x2 : Int) (x3 : Int) (k : List D → Option R) : c_Z43 x0 x1 x2 x3 k = (c_Z43 x0 x1 x2 x3 some).bind k := by
 unfold c_Z43
 repeat' first|exact bnd_tail|exact bnd_none|exact bnd_leaf|apply bnd_ite|apply bnd_cond|apply bnd_sum|(apply bnd_bind;intro _)|intro _
def Z43 (x0 : List D) (x1 : Int) (x2 : Int) (x3 : Int) : Option (List D) := c_Z43 x0 x1 x2 x3 some
def e_Z43 : Ent := ⟨92, [.own (.int .i64), .int .i64, .int .i64, .int .i64], .tup [], [.own (.int .i64), .undef, .undef, .undef], fun _ ds k => dL (fun x0 ds => dI (fun x1 ds => dI (fun x2 ds => dI (fun x3 ds => dE ((Z43 x0 x1 x2 x3).bind (fun y => k [.L y])) ds) ds) ds) ds) ds⟩
theorem q_Z43 (x0 : List D) (x1 : Int) (x2 : Int) (x3 : Int) : runFn (ocOf []) (olOf [e_Z42]) A 92 Try.f92 (Sh.mks e_Z43.sh [.L x0, .I x1, .I x2, .I x3]).1 (fun v os => some (v, os)) = c_Z43 x0 x1 x2 x3 (fun y => some ((e_Z43.res.mk [.L y]).1, (Sh.mks e_Z43.outs (e_Z43.res.mk [.L y]).2).1)) := by kernel_rfl
theorem e_Z43_ok : e_Z43.ok Try.prog A := by
 intro R ds k r h
 unfold e_Z43 at h
 obtain ⟨x0, d0, rfl, h0⟩ := dL_some h
 obtain ⟨x1, d1, rfl, h1⟩ := dI_some h0
 obtain ⟨x2, d2, rfl, h2⟩ := dI_some h1
 obtain ⟨x3, d3, rfl, h3⟩ := dI_some h2
 obtain ⟨rfl, hE⟩ := dE_some h3
 obtain ⟨y, hy, hk⟩ := bnd_some hE
 refine ⟨_, hk, fn_ok px (fx := ⟨Try.func92, by kernel_rfl, by kernel_rfl⟩) entsOK_nil (lentsOK_cons e_Z42_ok lentsOK_nil) ?_⟩
 have hq := q_Z43 x0 x1 x2 x3
 rw [c_Z43_bind] at hq
 rw [show c_Z43 x0 x1 x2 x3 some = some y from hy] at hq
 exact hq

/-!-/
def c_Z44 {R : Type} (F : Int → Int → Int → Int → List D → Option (Int × Int × Int × List D)) (x0 : Int) (x1 : Int) (x2 : Int) (x3 : Int) (x4 : List D) (k : Int × Int × Int × List D → Option R) : Option R :=
 bif decide ((0 : Int) ≤ x3) then
 (Z43 x4 x3 x2 x0).bind (fun y0 =>
 (F x0 x1 x2 (IntKind.i64.wrap (x3 - 1)) y0).bind k)
 else
 k (x0, x1, x2, x4)
theorem c_Z44_bind {R : Type} (F : Int → Int → Int → Int → List D → Option (Int × Int × Int × List D)) (x0 : Int) (x1 : Int) (x2 : Int) (x3 : Int) (x4 : List D) (k : Int × Int × Int × List D → Option R) : c_Z44 F x0 x1 x2 x3 x4 k = (c_Z44 F x0 x1 x2 x3 x4 some).bind k := by
 unfold c_Z44
 repeat' first|exact bnd_tail|exact bnd_none|exact bnd_leaf|apply bnd_ite|apply bnd_cond|apply bnd_sum|(apply bnd_bind;intro _)|intro _
def n_Z44 : Nat → Int → Int → Int → Int → List D → Option (Int × Int × Int × List D)
 | 0, _, _, _, _, _ => none
 | n + 1, x0, x1, x2, x3, x4 => c_Z44 (n_Z44 n) x0 x1 x2 x3 x4 some
noncomputable def Z44 (x0 : Int) (x1 : Int) (x2 : Int) (x3 : Int) (x4 : List D) : Option (Int × Int × Int × List D) := ev (fun n => n_Z44 n x0 x1 x2 x3 x4)
def m_Z44 (F : Int → Int → Int → Int → List D → Option (Int × Int × Int × List D)) : Lent := ⟨4, ⟨(.full 1000 [] (.int .i64) :: uu 5 (.int .i64 :: .int .i64 :: .int .i64 :: .int .i64 :: uu 46 ([]))), [(1000, .own (.int .i64))]⟩, [(.exit 0, ⟨(.full 1000 [] (.int .i64) :: uu 5 (.int .i64 :: .int .i64 :: .int .i64 :: uu 47 ([]))), [(1000, .own (.int .i64))]⟩)], fun _ ds k => dI (fun x0 ds => dI (fun x1 ds => dI (fun x2 ds => dI (fun x3 ds => dL (fun x4 ds => dE ((F x0 x1 x2 x3 x4).bind (fun y => k 0 [.I y.1, .I y.2.1, .I y.2.2.1, .L y.2.2.2])) ds) ds) ds) ds) ds) ds⟩
theorem q_Z44 (F : Int → Int → Int → Int → List D → Option (Int × Int × Int × List D)) (x0 : Int) (x1 : Int) (x2 : Int) (x3 : Int) (x4 : List D) : runLoop (ocOf [e_Z43]) (olOf [m_Z44 F]) A 82 (codeAt (bodyOf Try.f82) 4) ((m_Z44 F).sh.mk' [.I x0, .I x1, .I x2, .I x3, .L x4]) (fun e σ' => some (e, σ')) = c_Z44 F x0 x1 x2 x3 x4 (fun y => some (.exit 0, SSt.mk' ⟨(.full 1000 [] (.int .i64) :: uu 5 (.int .i64 :: .int .i64 :: .int .i64 :: uu 47 ([]))), [(1000, .own (.int .i64))]⟩ [.I y.1, .I y.2.1, .I y.2.2.1, .L y.2.2.2])) := by kernel_rfl
theorem m_Z44_ok : ∀ n, (m_Z44 (n_Z44 n)).ok Try.prog (codeAt (bodyOf Try.f82) 4) := by
 intro n
 induction n with
 | zero =>
  intro R ds k r h
  unfold m_Z44 at h
  obtain ⟨x0, d0, rfl, h0⟩ := dI_some h
  obtain ⟨x1, d1, rfl, h1⟩ := dI_some h0
  obtain ⟨x2, d2, rfl, h2⟩ := dI_some h1
  obtain ⟨x3, d3, rfl, h3⟩ := dI_some h2
  obtain ⟨x4, d4, rfl, h4⟩ := dL_some h3
  obtain ⟨rfl, hE⟩ := dE_some h4
  obtain ⟨y, hy, hk⟩ := bnd_some hE
  cases hy
 | succ n ih =>
  intro R ds k r h
  unfold m_Z44 at h
  obtain ⟨x0, d0, rfl, h0⟩ := dI_some h
  obtain ⟨x1, d1, rfl, h1⟩ := dI_some h0
  obtain ⟨x2, d2, rfl, h2⟩ := dI_some h1
  obtain ⟨x3, d3, rfl, h3⟩ := dI_some h2
  obtain ⟨x4, d4, rfl, h4⟩ := dL_some h3
  obtain ⟨rfl, hE⟩ := dE_some h4
  obtain ⟨y, hy, hk⟩ := bnd_some hE
  have hq := q_Z44 (n_Z44 n) x0 x1 x2 x3 x4
  rw [c_Z44_bind] at hq
  rw [show c_Z44 (n_Z44 n) x0 x1 x2 x3 x4 some = some y from hy] at hq
  refine ⟨0, _, _, _, hk, rfl, loop_ok px (fx := ⟨Try.func82, by kernel_rfl, by kernel_rfl⟩) (entsOK_cons e_Z43_ok entsOK_nil) (lentsOK_cons ih lentsOK_nil) (by kernel_rfl) ?_⟩
  exact hq
noncomputable def e_Z44 : Lent := m_Z44 (Z44)
theorem e_Z44_ok : (e_Z44).ok Try.prog (codeAt (bodyOf Try.f82) 4) := by
 intro R ds k r h
 unfold e_Z44 m_Z44 at h
 obtain ⟨x0, d0, rfl, h0⟩ := dI_some h
 obtain ⟨x1, d1, rfl, h1⟩ := dI_some h0
 obtain ⟨x2, d2, rfl, h2⟩ := dI_some h1
 obtain ⟨x3, d3, rfl, h3⟩ := dI_some h2
 obtain ⟨x4, d4, rfl, h4⟩ := dL_some h3
 obtain ⟨rfl, hE⟩ := dE_some h4
 obtain ⟨y, hy, hk⟩ := bnd_some hE
 obtain ⟨n, hn⟩ := ev_some hy
 exact m_Z44_ok n R _ k r (show (n_Z44 n x0 x1 x2 x3 x4).bind _ = _ by rw [hn]; exact hk)

/-!-/
def c_Z45 {R : Type} (F : Int → Int → Int → List D → Option (List D)) (x0 : Int) (x1 : Int) (x2 : Int) (x3 : List D) (k : List D → Option R) : Option R :=
 bif decide ((0 : Int) ≤ x2) then
 if (0 : Int) ≤ IntKind.i64.wrap (x0 + x2) ∧ IntKind.i64.wrap (x0 + x2) < (↑x3.length : Int) then
 if (IntKind.i64.wrap (x0 + x2)).toNat + 1 ≤ x3.length then
 if 0 ≤ x0 ∧ x0 < (↑x3.length : Int) then
 if x0.toNat + 1 ≤ x3.length then
 if 0 ≤ x0 ∧ x0 < (↑x3.length : Int) then
 if x0.toNat + 1 ≤ x3.length then
 if (0 : Int) ≤ IntKind.i64.wrap (x0 + x2) ∧ IntKind.i64.wrap (x0 + x2) < (↑(x3.set x0.toNat (D.int (x3.getD (IntKind.i64.wrap (x0 + x2)).toNat (D.int 0)).toInt)).length : Int) then
 if (IntKind.i64.wrap (x0 + x2)).toNat + 1 ≤ (x3.set x0.toNat (D.int (x3.getD (IntKind.i64.wrap (x0 + x2)).toNat (D.int 0)).toInt)).length then
 (Z43 ((x3.set x0.toNat (D.int (x3.getD (IntKind.i64.wrap (x0 + x2)).toNat (D.int 0)).toInt)).set (IntKind.i64.wrap (x0 + x2)).toNat (D.int (x3.getD x0.toNat (D.int 0)).toInt)) x1 x2 x0).bind (fun y0 =>
 (F x0 x1 (IntKind.i64.wrap (x2 - 1)) y0).bind k)
 else
 none
 else
 none
 else
 none
 else
 none
 else
 none
 else
 none
 else
 none
 else
 none
 else
 k x3
theorem c_Z45_bind {R : Type} (F : Int → Int → Int → List D → Option (List D)) (x0 : Int) (x1 : Int) (x2 : Int) (x3 : List D) (k : List D → Option R) : c_Z45 F x0 x1 x2 x3 k = (c_Z45 F x0 x1 x2 x3 some).bind k := by
 unfold c_Z45
 repeat' first|exact bnd_tail|exact bnd_none|exact bnd_leaf|apply bnd_ite|apply bnd_cond|apply bnd_sum|(apply bnd_bind;intro _)|intro _
def n_Z45 : Nat → Int → Int → Int → List D → Option (List D)
 | 0, _, _, _, _ => none
 | n + 1, x0, x1, x2, x3 => c_Z45 (n_Z45 n) x0 x1 x2 x3 some
noncomputable def Z45 (x0 : Int) (x1 : Int) (x2 : Int) (x3 : List D) : Option (List D) := ev (fun n => n_Z45 n x0 x1 x2 x3)
def m_Z45 (F : Int → Int → Int → List D → Option (List D)) : Lent := ⟨8, ⟨(.full 1000 [] (.int .i64) :: uu 5 (.int .i64 :: .int .i64 :: .undef :: .undef :: .int .i64 :: uu 45 ([]))), [(1000, .own (.int .i64))]⟩, [(.exit 2, ⟨(.full 1000 [] (.int .i64) :: uu 55 ([])), [(1000, .own (.int .i64))]⟩)], fun _ ds k => dI (fun x0 ds => dI (fun x1 ds => dI (fun x2 ds => dL (fun x3 ds => dE ((F x0 x1 x2 x3).bind (fun y => k 0 [.L y])) ds) ds) ds) ds) ds⟩
theorem q_Z45 (F : Int → Int → Int → List D → Option (List D)) (x0 : Int) (x1 : Int) (x2 : Int) (x3 : List D) : runLoop (ocOf [e_Z43]) (olOf [m_Z45 F]) A 82 (codeAt (bodyOf Try.f82) 8) ((m_Z45 F).sh.mk' [.I x0, .I x1, .I x2, .L x3]) (fun e σ' => some (e, σ')) = c_Z45 F x0 x1 x2 x3 (fun y => some (.exit 2, SSt.mk' ⟨(.full 1000 [] (.int .i64) :: uu 55 ([])), [(1000, .own (.int .i64))]⟩ [.L y])) := by kernel_rfl
theorem m_Z45_ok : ∀ n, (m_Z45 (n_Z45 n)).ok Try.prog (codeAt (bodyOf Try.f82) 8) := by
 intro n
 induction n with
 | zero =>
  intro R ds k r h
  unfold m_Z45 at h
  obtain ⟨x0, d0, rfl, h0⟩ := dI_some h
  obtain ⟨x1, d1, rfl, h1⟩ := dI_some h0
  obtain ⟨x2, d2, rfl, h2⟩ := dI_some h1
  obtain ⟨x3, d3, rfl, h3⟩ := dL_some h2
  obtain ⟨rfl, hE⟩ := dE_some h3
  obtain ⟨y, hy, hk⟩ := bnd_some hE
  cases hy
 | succ n ih =>
  intro R ds k r h
  unfold m_Z45 at h
  obtain ⟨x0, d0, rfl, h0⟩ := dI_some h
  obtain ⟨x1, d1, rfl, h1⟩ := dI_some h0
  obtain ⟨x2, d2, rfl, h2⟩ := dI_some h1
  obtain ⟨x3, d3, rfl, h3⟩ := dL_some h2
  obtain ⟨rfl, hE⟩ := dE_some h3
  obtain ⟨y, hy, hk⟩ := bnd_some hE
  have hq := q_Z45 (n_Z45 n) x0 x1 x2 x3
  rw [c_Z45_bind] at hq
  rw [show c_Z45 (n_Z45 n) x0 x1 x2 x3 some = some y from hy] at hq
  refine ⟨0, _, _, _, hk, rfl, loop_ok px (fx := ⟨Try.func82, by kernel_rfl, by kernel_rfl⟩) (entsOK_cons e_Z43_ok entsOK_nil) (lentsOK_cons ih lentsOK_nil) (by kernel_rfl) ?_⟩
  exact hq
noncomputable def e_Z45 : Lent := m_Z45 (Z45)
theorem e_Z45_ok : (e_Z45).ok Try.prog (codeAt (bodyOf Try.f82) 8) := by
 intro R ds k r h
 unfold e_Z45 m_Z45 at h
 obtain ⟨x0, d0, rfl, h0⟩ := dI_some h
 obtain ⟨x1, d1, rfl, h1⟩ := dI_some h0
 obtain ⟨x2, d2, rfl, h2⟩ := dI_some h1
 obtain ⟨x3, d3, rfl, h3⟩ := dL_some h2
 obtain ⟨rfl, hE⟩ := dE_some h3
 obtain ⟨y, hy, hk⟩ := bnd_some hE
 obtain ⟨n, hn⟩ := ev_some hy
 exact m_Z45_ok n R _ k r (show (n_Z45 n x0 x1 x2 x3).bind _ = _ by rw [hn]; exact hk)

/-!-/
def c_Z46 {R : Type} (x0 : List D) (x1 : Int) (x2 : Int) (k : List D → Option R) : Option R :=
 if (2 : Int) ≠ (0 : Int) then
 (Z44 x1 (0 : Int) (IntKind.i64.wrap (x2 - x1)) (IntKind.i64.wrap ((IntKind.i64.wrap (IntKind.i64.wrap (x2 - x1) - (1 : Int))).tdiv (2 : Int))) x0).bind (fun y0 =>
 (Z45 y0.fst y0.snd.fst (IntKind.i64.wrap (y0.snd.snd.fst - 1)) y0.snd.snd.snd).bind (fun y1 =>
 k y1))
 else
 none
theorem c_Z46_bind {R : Type} (x0 : List D) (x1 : Int) (x2 : Int) (k : List D → Option R) : c_Z46 x0 x1 x2 k = (c_Z46 x0 x1 x2 some).bind k := by
 unfold c_Z46
 repeat' first|exact bnd_tail|exact bnd_none|exact bnd_leaf|apply bnd_ite|apply bnd_cond|apply bnd_sum|(apply bnd_bind;intro _)|intro _
def Z46 (x0 : List D) (x1 : Int) (x2 : Int) : Option (List D) := c_Z46 x0 x1 x2 some
def e_Z46 : Ent := ⟨82, [.own (.int .i64), .int .i64, .int .i64], .tup [], [.own (.int .i64), .undef, .undef], fun _ ds k => dL (fun x0 ds => dI (fun x1 ds => dI (fun x2 ds => dE ((Z46 x0 x1 x2).bind (fun y => k [.L y])) ds) ds) ds) ds⟩
theorem q_Z46 (x0 : List D) (x1 : Int) (x2 : Int) : runFn (ocOf []) (olOf [e_Z44, e_Z45]) A 82 Try.f82 (Sh.mks e_Z46.sh [.L x0, .I x1, .I x2]).1 (fun v os => some (v, os)) = c_Z46 x0 x1 x2 (fun y => some ((e_Z46.res.mk [.L y]).1, (Sh.mks e_Z46.outs (e_Z46.res.mk [.L y]).2).1)) := by kernel_rfl
theorem e_Z46_ok : e_Z46.ok Try.prog A := by
 intro R ds k r h
 unfold e_Z46 at h
 obtain ⟨x0, d0, rfl, h0⟩ := dL_some h
 obtain ⟨x1, d1, rfl, h1⟩ := dI_some h0
 obtain ⟨x2, d2, rfl, h2⟩ := dI_some h1
 obtain ⟨rfl, hE⟩ := dE_some h2
 obtain ⟨y, hy, hk⟩ := bnd_some hE
 refine ⟨_, hk, fn_ok px (fx := ⟨Try.func82, by kernel_rfl, by kernel_rfl⟩) entsOK_nil (lentsOK_cons e_Z44_ok (lentsOK_cons e_Z45_ok lentsOK_nil)) ?_⟩
 have hq := q_Z46 x0 x1 x2
 rw [c_Z46_bind] at hq
 rw [show c_Z46 x0 x1 x2 some = some y from hy] at hq
 exact hq

/-!-/
def c_Z47 {R : Type} (x0 : Int) (k : Int → Option R) : Option R :=
 (Z36 (IntKind.u64.wrap x0)).bind (fun y0 =>
 if (0 : Int) ≤ y0 then
 k (IntKind.u64.wrap ((1 : Int) * (2 : Int) ^ Min.min y0.toNat IntKind.u64.bits))
 else
 none)
theorem c_Z47_bind {R : Type} (x0 : Int) (k : Int → Option R) : c_Z47 x0 k = (c_Z47 x0 some).bind k := by
 unfold c_Z47
 repeat' first|exact bnd_tail|exact bnd_none|exact bnd_leaf|apply bnd_ite|apply bnd_cond|apply bnd_sum|(apply bnd_bind;intro _)|intro _
def Z47 (x0 : Int) : Option (Int) := c_Z47 x0 some
def e_Z47 : Ent := ⟨93, [.int .i64], .int .u64, [.undef], fun _ ds k => dI (fun x0 ds => dE ((Z47 x0).bind (fun y => k [.I y])) ds) ds⟩
theorem q_Z47 (x0 : Int) : runFn (ocOf [e_Z36]) (olOf []) A 93 Try.f93 (Sh.mks e_Z47.sh [.I x0]).1 (fun v os => some (v, os)) = c_Z47 x0 (fun y => some ((e_Z47.res.mk [.I y]).1, (Sh.mks e_Z47.outs (e_Z47.res.mk [.I y]).2).1)) := by kernel_rfl
theorem e_Z47_ok : e_Z47.ok Try.prog A := by
 intro R ds k r h
 unfold e_Z47 at h
 obtain ⟨x0, d0, rfl, h0⟩ := dI_some h
 obtain ⟨rfl, hE⟩ := dE_some h0
 obtain ⟨y, hy, hk⟩ := bnd_some hE
 refine ⟨_, hk, fn_ok px (fx := ⟨Try.func93, by kernel_rfl, by kernel_rfl⟩) (entsOK_cons e_Z36_ok entsOK_nil) lentsOK_nil ?_⟩
 have hq := q_Z47 x0
 rw [c_Z47_bind] at hq
 rw [show c_Z47 x0 some = some y from hy] at hq
 exact hq

/-!-/
def c_Z48 {R : Type} (x0 : Int) (k : Int × Int → Option R) : Option R :=
 if (0 : Int) ≤ (13 : Int) then
 if (0 : Int) ≤ (7 : Int) then
 if (0 : Int) ≤ (17 : Int) then
 k (IntKind.u64.wrap (↑(BitVec.ofInt IntKind.u64.bits (IntKind.u64.wrap (↑(BitVec.ofInt IntKind.u64.bits (IntKind.u64.wrap (↑(BitVec.ofInt IntKind.u64.bits x0 ^^^ BitVec.ofInt IntKind.u64.bits (IntKind.u64.wrap (x0 * (2 : Int) ^ Min.min (Int.toNat (13 : Int)) IntKind.u64.bits))).toNat : Int)) ^^^ BitVec.ofInt IntKind.u64.bits ((IntKind.u64.wrap (↑(BitVec.ofInt IntKind.u64.bits x0 ^^^ BitVec.ofInt IntKind.u64.bits (IntKind.u64.wrap (x0 * (2 : Int) ^ Min.min (Int.toNat (13 : Int)) IntKind.u64.bits))).toNat : Int)).fdiv ((2 : Int) ^ Min.min (Int.toNat (7 : Int)) IntKind.u64.bits))).toNat : Int)) ^^^ BitVec.ofInt IntKind.u64.bits (IntKind.u64.wrap (IntKind.u64.wrap (↑(BitVec.ofInt IntKind.u64.bits (IntKind.u64.wrap (↑(BitVec.ofInt IntKind.u64.bits x0 ^^^ BitVec.ofInt IntKind.u64.bits (IntKind.u64.wrap (x0 * (2 : Int) ^ Min.min (Int.toNat (13 : Int)) IntKind.u64.bits))).toNat : Int)) ^^^ BitVec.ofInt IntKind.u64.bits ((IntKind.u64.wrap (↑(BitVec.ofInt IntKind.u64.bits x0 ^^^ BitVec.ofInt IntKind.u64.bits (IntKind.u64.wrap (x0 * (2 : Int) ^ Min.min (Int.toNat (13 : Int)) IntKind.u64.bits))).toNat : Int)).fdiv ((2 : Int) ^ Min.min (Int.toNat (7 : Int)) IntKind.u64.bits))).toNat : Int) * (2 : Int) ^ Min.min (Int.toNat (17 : Int)) IntKind.u64.bits))).toNat : Int), IntKind.u64.wrap (↑(BitVec.ofInt IntKind.u64.bits (IntKind.u64.wrap (↑(BitVec.ofInt IntKind.u64.bits (IntKind.u64.wrap (↑(BitVec.ofInt IntKind.u64.bits x0 ^^^ BitVec.ofInt IntKind.u64.bits (IntKind.u64.wrap (x0 * (2 : Int) ^ Min.min (Int.toNat (13 : Int)) IntKind.u64.bits))).toNat : Int)) ^^^ BitVec.ofInt IntKind.u64.bits ((IntKind.u64.wrap (↑(BitVec.ofInt IntKind.u64.bits x0 ^^^ BitVec.ofInt IntKind.u64.bits (IntKind.u64.wrap (x0 * (2 : Int) ^ Min.min (Int.toNat (13 : Int)) IntKind.u64.bits))).toNat : Int)).fdiv ((2 : Int) ^ Min.min (Int.toNat (7 : Int)) IntKind.u64.bits))).toNat : Int)) ^^^ BitVec.ofInt IntKind.u64.bits (IntKind.u64.wrap (IntKind.u64.wrap (↑(BitVec.ofInt IntKind.u64.bits (IntKind.u64.wrap (↑(BitVec.ofInt IntKind.u64.bits x0 ^^^ BitVec.ofInt IntKind.u64.bits (IntKind.u64.wrap (x0 * (2 : Int) ^ Min.min (Int.toNat (13 : Int)) IntKind.u64.bits))).toNat : Int)) ^^^ BitVec.ofInt IntKind.u64.bits ((IntKind.u64.wrap (↑(BitVec.ofInt IntKind.u64.bits x0 ^^^ BitVec.ofInt IntKind.u64.bits (IntKind.u64.wrap (x0 * (2 : Int) ^ Min.min (Int.toNat (13 : Int)) IntKind.u64.bits))).toNat : Int)).fdiv ((2 : Int) ^ Min.min (Int.toNat (7 : Int)) IntKind.u64.bits))).toNat : Int) * (2 : Int) ^ Min.min (Int.toNat (17 : Int)) IntKind.u64.bits))).toNat : Int))
 else
 none
 else
 none
 else
 none
theorem c_Z48_bind {R : Type} (x0 : Int) (k : Int × Int → Option R) : c_Z48 x0 k = (c_Z48 x0 some).bind k := by
 unfold c_Z48
 repeat' first|exact bnd_tail|exact bnd_none|exact bnd_leaf|apply bnd_ite|apply bnd_cond|apply bnd_sum|(apply bnd_bind;intro _)|intro _
def Z48 (x0 : Int) : Option (Int × Int) := c_Z48 x0 some
def e_Z48 : Ent := ⟨94, [.obox (.int .u64)], .int .u64, [.obox (.int .u64)], fun _ ds k => dI (fun x0 ds => dE ((Z48 x0).bind (fun y => k [.I y.1, .I y.2])) ds) ds⟩
theorem q_Z48 (x0 : Int) : runFn (ocOf []) (olOf []) A 94 Try.f94 (Sh.mks e_Z48.sh [.I x0]).1 (fun v os => some (v, os)) = c_Z48 x0 (fun y => some ((e_Z48.res.mk [.I y.1, .I y.2]).1, (Sh.mks e_Z48.outs (e_Z48.res.mk [.I y.1, .I y.2]).2).1)) := by kernel_rfl
theorem e_Z48_ok : e_Z48.ok Try.prog A := by
 intro R ds k r h
 unfold e_Z48 at h
 obtain ⟨x0, d0, rfl, h0⟩ := dI_some h
 obtain ⟨rfl, hE⟩ := dE_some h0
 obtain ⟨y, hy, hk⟩ := bnd_some hE
 refine ⟨_, hk, fn_ok px (fx := ⟨Try.func94, by kernel_rfl, by kernel_rfl⟩) entsOK_nil lentsOK_nil ?_⟩
 have hq := q_Z48 x0
 rw [c_Z48_bind] at hq
 rw [show c_Z48 x0 some = some y from hy] at hq
 exact hq

/-!-/
def c_Z49 {R : Type} (F : Int → Int → Int → Int → List D → Int → Option (List D)) (x0 : Int) (x1 : Int) (x2 : Int) (x3 : Int) (x4 : List D) (x5 : Int) (k : List D → Option R) : Option R :=
 if (4 : Int) ≠ (0 : Int) then
 bif decide (x3 ≤ IntKind.i64.wrap (IntKind.i64.wrap (x0 + IntKind.i64.wrap (IntKind.i64.wrap (x1.tdiv (4 : Int)) * (2 : Int))) + (1 : Int))) then
 (Z48 x5).bind (fun y0 =>
 bif decide (x1 ≤ IntKind.i64.wrap (IntKind.u64.wrap (↑(BitVec.ofInt IntKind.u64.bits y0.fst &&& BitVec.ofInt IntKind.u64.bits (IntKind.u64.wrap (x2 - 1))).toNat : Int))) then
 if (0 : Int) ≤ IntKind.i64.wrap (x0 + IntKind.i64.wrap (IntKind.i64.wrap (IntKind.u64.wrap (↑(BitVec.ofInt IntKind.u64.bits y0.fst &&& BitVec.ofInt IntKind.u64.bits (IntKind.u64.wrap (x2 - 1))).toNat : Int)) - x1)) ∧ IntKind.i64.wrap (x0 + IntKind.i64.wrap (IntKind.i64.wrap (IntKind.u64.wrap (↑(BitVec.ofInt IntKind.u64.bits y0.fst &&& BitVec.ofInt IntKind.u64.bits (IntKind.u64.wrap (x2 - 1))).toNat : Int)) - x1)) < (↑x4.length : Int) then
 if (IntKind.i64.wrap (x0 + IntKind.i64.wrap (IntKind.i64.wrap (IntKind.u64.wrap (↑(BitVec.ofInt IntKind.u64.bits y0.fst &&& BitVec.ofInt IntKind.u64.bits (IntKind.u64.wrap (x2 - 1))).toNat : Int)) - x1))).toNat + 1 ≤ x4.length then
 if 0 ≤ x3 ∧ x3 < (↑x4.length : Int) then
 if x3.toNat + 1 ≤ x4.length then
 if 0 ≤ x3 ∧ x3 < (↑x4.length : Int) then
 if x3.toNat + 1 ≤ x4.length then
 if (0 : Int) ≤ IntKind.i64.wrap (x0 + IntKind.i64.wrap (IntKind.i64.wrap (IntKind.u64.wrap (↑(BitVec.ofInt IntKind.u64.bits y0.fst &&& BitVec.ofInt IntKind.u64.bits (IntKind.u64.wrap (x2 - 1))).toNat : Int)) - x1)) ∧ IntKind.i64.wrap (x0 + IntKind.i64.wrap (IntKind.i64.wrap (IntKind.u64.wrap (↑(BitVec.ofInt IntKind.u64.bits y0.fst &&& BitVec.ofInt IntKind.u64.bits (IntKind.u64.wrap (x2 - 1))).toNat : Int)) - x1)) < (↑(x4.set x3.toNat (D.int (x4.getD (IntKind.i64.wrap (x0 + IntKind.i64.wrap (IntKind.i64.wrap (IntKind.u64.wrap (↑(BitVec.ofInt IntKind.u64.bits y0.fst &&& BitVec.ofInt IntKind.u64.bits (IntKind.u64.wrap (x2 - 1))).toNat : Int)) - x1))).toNat (D.int 0)).toInt)).length : Int) then
 if (IntKind.i64.wrap (x0 + IntKind.i64.wrap (IntKind.i64.wrap (IntKind.u64.wrap (↑(BitVec.ofInt IntKind.u64.bits y0.fst &&& BitVec.ofInt IntKind.u64.bits (IntKind.u64.wrap (x2 - 1))).toNat : Int)) - x1))).toNat + 1 ≤ (x4.set x3.toNat (D.int (x4.getD (IntKind.i64.wrap (x0 + IntKind.i64.wrap (IntKind.i64.wrap (IntKind.u64.wrap (↑(BitVec.ofInt IntKind.u64.bits y0.fst &&& BitVec.ofInt IntKind.u64.bits (IntKind.u64.wrap (x2 - 1))).toNat : Int)) - x1))).toNat (D.int 0)).toInt)).length then
 (F x0 x1 x2 (IntKind.i64.wrap (x3 + 1)) ((x4.set x3.toNat (D.int (x4.getD (IntKind.i64.wrap (x0 + IntKind.i64.wrap (IntKind.i64.wrap (IntKind.u64.wrap (↑(BitVec.ofInt IntKind.u64.bits y0.fst &&& BitVec.ofInt IntKind.u64.bits (IntKind.u64.wrap (x2 - 1))).toNat : Int)) - x1))).toNat (D.int 0)).toInt)).set (IntKind.i64.wrap (x0 + IntKind.i64.wrap (IntKind.i64.wrap (IntKind.u64.wrap (↑(BitVec.ofInt IntKind.u64.bits y0.fst &&& BitVec.ofInt IntKind.u64.bits (IntKind.u64.wrap (x2 - 1))).toNat : Int)) - x1))).toNat (D.int (x4.getD x3.toNat (D.int 0)).toInt)) y0.snd).bind k
 else
 none
 else
 none
 else
 none
 else
 none
 else
 none
 else
 none
 else
 none
 else
 none
 else
 if (0 : Int) ≤ IntKind.i64.wrap (x0 + IntKind.i64.wrap (IntKind.u64.wrap (↑(BitVec.ofInt IntKind.u64.bits y0.fst &&& BitVec.ofInt IntKind.u64.bits (IntKind.u64.wrap (x2 - 1))).toNat : Int))) ∧ IntKind.i64.wrap (x0 + IntKind.i64.wrap (IntKind.u64.wrap (↑(BitVec.ofInt IntKind.u64.bits y0.fst &&& BitVec.ofInt IntKind.u64.bits (IntKind.u64.wrap (x2 - 1))).toNat : Int))) < (↑x4.length : Int) then
 if (IntKind.i64.wrap (x0 + IntKind.i64.wrap (IntKind.u64.wrap (↑(BitVec.ofInt IntKind.u64.bits y0.fst &&& BitVec.ofInt IntKind.u64.bits (IntKind.u64.wrap (x2 - 1))).toNat : Int)))).toNat + 1 ≤ x4.length then
 if 0 ≤ x3 ∧ x3 < (↑x4.length : Int) then
 if x3.toNat + 1 ≤ x4.length then
 if 0 ≤ x3 ∧ x3 < (↑x4.length : Int) then
 if x3.toNat + 1 ≤ x4.length then
 if (0 : Int) ≤ IntKind.i64.wrap (x0 + IntKind.i64.wrap (IntKind.u64.wrap (↑(BitVec.ofInt IntKind.u64.bits y0.fst &&& BitVec.ofInt IntKind.u64.bits (IntKind.u64.wrap (x2 - 1))).toNat : Int))) ∧ IntKind.i64.wrap (x0 + IntKind.i64.wrap (IntKind.u64.wrap (↑(BitVec.ofInt IntKind.u64.bits y0.fst &&& BitVec.ofInt IntKind.u64.bits (IntKind.u64.wrap (x2 - 1))).toNat : Int))) < (↑(x4.set x3.toNat (D.int (x4.getD (IntKind.i64.wrap (x0 + IntKind.i64.wrap (IntKind.u64.wrap (↑(BitVec.ofInt IntKind.u64.bits y0.fst &&& BitVec.ofInt IntKind.u64.bits (IntKind.u64.wrap (x2 - 1))).toNat : Int)))).toNat (D.int 0)).toInt)).length : Int) then
 if (IntKind.i64.wrap (x0 + IntKind.i64.wrap (IntKind.u64.wrap (↑(BitVec.ofInt IntKind.u64.bits y0.fst &&& BitVec.ofInt IntKind.u64.bits (IntKind.u64.wrap (x2 - 1))).toNat : Int)))).toNat + 1 ≤ (x4.set x3.toNat (D.int (x4.getD (IntKind.i64.wrap (x0 + IntKind.i64.wrap (IntKind.u64.wrap (↑(BitVec.ofInt IntKind.u64.bits y0.fst &&& BitVec.ofInt IntKind.u64.bits (IntKind.u64.wrap (x2 - 1))).toNat : Int)))).toNat (D.int 0)).toInt)).length then
 (F x0 x1 x2 (IntKind.i64.wrap (x3 + 1)) ((x4.set x3.toNat (D.int (x4.getD (IntKind.i64.wrap (x0 + IntKind.i64.wrap (IntKind.u64.wrap (↑(BitVec.ofInt IntKind.u64.bits y0.fst &&& BitVec.ofInt IntKind.u64.bits (IntKind.u64.wrap (x2 - 1))).toNat : Int)))).toNat (D.int 0)).toInt)).set (IntKind.i64.wrap (x0 + IntKind.i64.wrap (IntKind.u64.wrap (↑(BitVec.ofInt IntKind.u64.bits y0.fst &&& BitVec.ofInt IntKind.u64.bits (IntKind.u64.wrap (x2 - 1))).toNat : Int)))).toNat (D.int (x4.getD x3.toNat (D.int 0)).toInt)) y0.snd).bind k
 else
 none
 else
 none
 else
 none
 else
 none
 else
 none
 else
 none
 else
 none
 else
 none)
 else
 k x4
 else
 none
theorem c_Z49_bind {R : Type} (F : Int → Int → Int → Int → List D → Int → Option (List D)) (x0 : Int) (x1 : Int) (x2 : Int) (x3 : Int) (x4 : List D) (x5 : Int) (k : List D → Option R) : c_Z49 F x0 x1 x2 x3 x4 x5 k = (c_Z49 F x0 x1 x2 x3 x4 x5 some).bind k := by
 unfold c_Z49
 repeat' first|exact bnd_tail|exact bnd_none|exact bnd_leaf|apply bnd_ite|apply bnd_cond|apply bnd_sum|(apply bnd_bind;intro _)|intro _
def n_Z49 : Nat → Int → Int → Int → Int → List D → Int → Option (List D)
 | 0, _, _, _, _, _, _ => none
 | n + 1, x0, x1, x2, x3, x4, x5 => c_Z49 (n_Z49 n) x0 x1 x2 x3 x4 x5 some
noncomputable def Z49 (x0 : Int) (x1 : Int) (x2 : Int) (x3 : Int) (x4 : List D) (x5 : Int) : Option (List D) := ev (fun n => n_Z49 n x0 x1 x2 x3 x4 x5)
def m_Z49 (F : Int → Int → Int → Int → List D → Int → Option (List D)) : Lent := ⟨5, ⟨(.full 1000 [] (.int .i64) :: .int .i64 :: uu 4 (.int .i64 :: .ptr 1001 [0] :: .int .u64 :: .int .i64 :: uu 55 ([]))), [(1000, .own (.int .i64)), (1001, .obox (.int .u64))]⟩, [(.exit 0, ⟨(.full 1000 [] (.int .i64) :: uu 64 ([])), [(1000, .own (.int .i64))]⟩)], fun _ ds k => dI (fun x0 ds => dI (fun x1 ds => dI (fun x2 ds => dI (fun x3 ds => dL (fun x4 ds => dI (fun x5 ds => dE ((F x0 x1 x2 x3 x4 x5).bind (fun y => k 0 [.L y])) ds) ds) ds) ds) ds) ds) ds⟩
theorem q_Z49 (F : Int → Int → Int → Int → List D → Int → Option (List D)) (x0 : Int) (x1 : Int) (x2 : Int) (x3 : Int) (x4 : List D) (x5 : Int) : runLoop (ocOf [e_Z48]) (olOf [m_Z49 F]) A 83 (codeAt (bodyOf Try.f83) 5) ((m_Z49 F).sh.mk' [.I x0, .I x1, .I x2, .I x3, .L x4, .I x5]) (fun e σ' => some (e, σ')) = c_Z49 F x0 x1 x2 x3 x4 x5 (fun y => some (.exit 0, SSt.mk' ⟨(.full 1000 [] (.int .i64) :: uu 64 ([])), [(1000, .own (.int .i64))]⟩ [.L y])) := by kernel_rfl
theorem m_Z49_ok : ∀ n, (m_Z49 (n_Z49 n)).ok Try.prog (codeAt (bodyOf Try.f83) 5) := by
 intro n
 induction n with
 | zero =>
  intro R ds k r h
  unfold m_Z49 at h
  obtain ⟨x0, d0, rfl, h0⟩ := dI_some h
  obtain ⟨x1, d1, rfl, h1⟩ := dI_some h0
  obtain ⟨x2, d2, rfl, h2⟩ := dI_some h1
  obtain ⟨x3, d3, rfl, h3⟩ := dI_some h2
  obtain ⟨x4, d4, rfl, h4⟩ := dL_some h3
  obtain ⟨x5, d5, rfl, h5⟩ := dI_some h4
  obtain ⟨rfl, hE⟩ := dE_some h5
  obtain ⟨y, hy, hk⟩ := bnd_some hE
  cases hy
 | succ n ih =>
  intro R ds k r h
  unfold m_Z49 at h
  obtain ⟨x0, d0, rfl, h0⟩ := dI_some h
  obtain ⟨x1, d1, rfl, h1⟩ := dI_some h0
  obtain ⟨x2, d2, rfl, h2⟩ := dI_some h1
  obtain ⟨x3, d3, rfl, h3⟩ := dI_some h2
  obtain ⟨x4, d4, rfl, h4⟩ := dL_some h3
  obtain ⟨x5, d5, rfl, h5⟩ := dI_some h4
  obtain ⟨rfl, hE⟩ := dE_some h5
  obtain ⟨y, hy, hk⟩ := bnd_some hE
  have hq := q_Z49 (n_Z49 n) x0 x1 x2 x3 x4 x5
  rw [c_Z49_bind] at hq
  rw [show c_Z49 (n_Z49 n) x0 x1 x2 x3 x4 x5 some = some y from hy] at hq
  refine ⟨0, _, _, _, hk, rfl, loop_ok px (fx := ⟨Try.func83, by kernel_rfl, by kernel_rfl⟩) (entsOK_cons e_Z48_ok entsOK_nil) (lentsOK_cons ih lentsOK_nil) (by kernel_rfl) ?_⟩
  exact hq
noncomputable def e_Z49 : Lent := m_Z49 (Z49)
theorem e_Z49_ok : (e_Z49).ok Try.prog (codeAt (bodyOf Try.f83) 5) := by
 intro R ds k r h
 unfold e_Z49 m_Z49 at h
 obtain ⟨x0, d0, rfl, h0⟩ := dI_some h
 obtain ⟨x1, d1, rfl, h1⟩ := dI_some h0
 obtain ⟨x2, d2, rfl, h2⟩ := dI_some h1
 obtain ⟨x3, d3, rfl, h3⟩ := dI_some h2
 obtain ⟨x4, d4, rfl, h4⟩ := dL_some h3
 obtain ⟨x5, d5, rfl, h5⟩ := dI_some h4
 obtain ⟨rfl, hE⟩ := dE_some h5
 obtain ⟨y, hy, hk⟩ := bnd_some hE
 obtain ⟨n, hn⟩ := ev_some hy
 exact m_Z49_ok n R _ k r (show (n_Z49 n x0 x1 x2 x3 x4 x5).bind _ = _ by rw [hn]; exact hk)

/-!-/
def c_Z50 {R : Type} (x0 : List D) (x1 : Int) (x2 : Int) (k : List D → Option R) : Option R :=
 bif decide ((8 : Int) ≤ IntKind.i64.wrap (x2 - x1)) then
 (Z47 (IntKind.i64.wrap (x2 - x1))).bind (fun y0 =>
 if (4 : Int) ≠ (0 : Int) then
 (Z49 x1 (IntKind.i64.wrap (x2 - x1)) y0 (IntKind.i64.wrap (IntKind.i64.wrap (x1 + IntKind.i64.wrap (IntKind.i64.wrap ((IntKind.i64.wrap (x2 - x1)).tdiv (4 : Int)) * (2 : Int))) - (1 : Int))) x0 (IntKind.u64.wrap (IntKind.i64.wrap (x2 - x1)))).bind (fun y1 =>
 k y1)
 else
 none)
 else
 k x0
theorem c_Z50_bind {R : Type} (x0 : List D) (x1 : Int) (x2 : Int) (k : List D → Option R) : c_Z50 x0 x1 x2 k = (c_Z50 x0 x1 x2 some).bind k := by
 unfold c_Z50
 repeat' first|exact bnd_tail|exact bnd_none|exact bnd_leaf|apply bnd_ite|apply bnd_cond|apply bnd_sum|(apply bnd_bind;intro _)|intro _
def Z50 (x0 : List D) (x1 : Int) (x2 : Int) : Option (List D) := c_Z50 x0 x1 x2 some
def e_Z50 : Ent := ⟨83, [.own (.int .i64), .int .i64, .int .i64], .tup [], [.own (.int .i64), .undef, .undef], fun _ ds k => dL (fun x0 ds => dI (fun x1 ds => dI (fun x2 ds => dE ((Z50 x0 x1 x2).bind (fun y => k [.L y])) ds) ds) ds) ds⟩
theorem q_Z50 (x0 : List D) (x1 : Int) (x2 : Int) : runFn (ocOf [e_Z47]) (olOf [e_Z49]) A 83 Try.f83 (Sh.mks e_Z50.sh [.L x0, .I x1, .I x2]).1 (fun v os => some (v, os)) = c_Z50 x0 x1 x2 (fun y => some ((e_Z50.res.mk [.L y]).1, (Sh.mks e_Z50.outs (e_Z50.res.mk [.L y]).2).1)) := by kernel_rfl
theorem e_Z50_ok : e_Z50.ok Try.prog A := by
 intro R ds k r h
 unfold e_Z50 at h
 obtain ⟨x0, d0, rfl, h0⟩ := dL_some h
 obtain ⟨x1, d1, rfl, h1⟩ := dI_some h0
 obtain ⟨x2, d2, rfl, h2⟩ := dI_some h1
 obtain ⟨rfl, hE⟩ := dE_some h2
 obtain ⟨y, hy, hk⟩ := bnd_some hE
 refine ⟨_, hk, fn_ok px (fx := ⟨Try.func83, by kernel_rfl, by kernel_rfl⟩) (entsOK_cons e_Z47_ok entsOK_nil) (lentsOK_cons e_Z49_ok lentsOK_nil) ?_⟩
 have hq := q_Z50 x0 x1 x2
 rw [c_Z50_bind] at hq
 rw [show c_Z50 x0 x1 x2 some = some y from hy] at hq
 exact hq

/-!-/
def c_Z51 {R : Type} (x0 : List D) (x1 : Int) (x2 : Int) (x3 : Int) (k : Int × Int × Int → Option R) : Option R :=
 if 0 ≤ x2 ∧ x2 < (↑x0.length : Int) then
 if 0 ≤ x1 ∧ x1 < (↑x0.length : Int) then
 (Z38 ((x0.getD x2.toNat (D.int 0)).toInt) ((x0.getD x1.toNat (D.int 0)).toInt)).bind (fun y0 =>
 bif y0 then
 k (x2, x1, IntKind.i64.wrap (x3 + 1))
 else
 k (x1, x2, x3))
 else
 none
 else
 none
theorem c_Z51_bind {R : Type} (x0 : List D) (x1 : Int) (x2 : Int) (x3 : Int) (k : Int × Int × Int → Option R) : c_Z51 x0 x1 x2 x3 k = (c_Z51 x0 x1 x2 x3 some).bind k := by
 unfold c_Z51
 repeat' first|exact bnd_tail|exact bnd_none|exact bnd_leaf|apply bnd_ite|apply bnd_cond|apply bnd_sum|(apply bnd_bind;intro _)|intro _
def Z51 (x0 : List D) (x1 : Int) (x2 : Int) (x3 : Int) : Option (Int × Int × Int) := c_Z51 x0 x1 x2 x3 some
def e_Z51 : Ent := ⟨98, [.rd (.int .i64), .int .i64, .int .i64, .obox (.int .i64)], .tup [.int .i64, .int .i64], [.undef, .undef, .undef, .obox (.int .i64)], fun _ ds k => dL (fun x0 ds => dI (fun x1 ds => dI (fun x2 ds => dI (fun x3 ds => dE ((Z51 x0 x1 x2 x3).bind (fun y => k [.I y.1, .I y.2.1, .I y.2.2])) ds) ds) ds) ds) ds⟩
theorem q_Z51 (x0 : List D) (x1 : Int) (x2 : Int) (x3 : Int) : runFn (ocOf [e_Z38]) (olOf []) A 98 Try.f98 (Sh.mks e_Z51.sh [.L x0, .I x1, .I x2, .I x3]).1 (fun v os => some (v, os)) = c_Z51 x0 x1 x2 x3 (fun y => some ((e_Z51.res.mk [.I y.1, .I y.2.1, .I y.2.2]).1, (Sh.mks e_Z51.outs (e_Z51.res.mk [.I y.1, .I y.2.1, .I y.2.2]).2).1)) := by kernel_rfl
theorem e_Z51_ok : e_Z51.ok Try.prog A := by
 intro R ds k r h
 unfold e_Z51 at h
 obtain ⟨x0, d0, rfl, h0⟩ := dL_some h
 obtain ⟨x1, d1, rfl, h1⟩ := dI_some h0
 obtain ⟨x2, d2, rfl, h2⟩ := dI_some h1
 obtain ⟨x3, d3, rfl, h3⟩ := dI_some h2
 obtain ⟨rfl, hE⟩ := dE_some h3
 obtain ⟨y, hy, hk⟩ := bnd_some hE
 refine ⟨_, hk, fn_ok px (fx := ⟨Try.func98, by kernel_rfl, by kernel_rfl⟩) (entsOK_cons e_Z38_ok entsOK_nil) lentsOK_nil ?_⟩
 have hq := q_Z51 x0 x1 x2 x3
 rw [c_Z51_bind] at hq
 rw [show c_Z51 x0 x1 x2 x3 some = some y from hy] at hq
 exact hq

/-!-/
def c_Z52 {R : Type} (x0 : List D) (x1 : Int) (x2 : Int) (x3 : Int) (x4 : Int) (k : Int × Int → Option R) : Option R :=
 (Z51 x0 x1 x2 x4).bind (fun y0 =>
 (Z51 x0 y0.snd.fst x3 y0.snd.snd).bind (fun y1 =>
 (Z51 x0 y0.fst y1.fst y1.snd.snd).bind (fun y2 =>
 k (y2.snd.fst, y2.snd.snd))))
theorem c_Z52_bind {R : Type} (x0 : List D) (x1 : Int) (x2 : Int) (x3 : Int) (x4 : Int) (k : Int × Int → Option R) : c_Z52 x0 x1 x2 x3 x4 k = (c_Z52 x0 x1 x2 x3 x4 some).bind k := by
 unfold c_Z52
 repeat' first|exact bnd_tail|exact bnd_none|exact bnd_leaf|apply bnd_ite|apply bnd_cond|apply bnd_sum|(apply bnd_bind;intro _)|intro _
def Z52 (x0 : List D) (x1 : Int) (x2 : Int) (x3 : Int) (x4 : Int) : Option (Int × Int) := c_Z52 x0 x1 x2 x3 x4 some
def e_Z52 : Ent := ⟨96, [.rd (.int .i64), .int .i64, .int .i64, .int .i64, .obox (.int .i64)], .int .i64, (uu 4 (.obox (.int .i64) :: [])), fun _ ds k => dL (fun x0 ds => dI (fun x1 ds => dI (fun x2 ds => dI (fun x3 ds => dI (fun x4 ds => dE ((Z52 x0 x1 x2 x3 x4).bind (fun y => k [.I y.1, .I y.2])) ds) ds) ds) ds) ds) ds⟩
theorem q_Z52 (x0 : List D) (x1 : Int) (x2 : Int) (x3 : Int) (x4 : Int) : runFn (ocOf [e_Z51]) (olOf []) A 96 Try.f96 (Sh.mks e_Z52.sh [.L x0, .I x1, .I x2, .I x3, .I x4]).1 (fun v os => some (v, os)) = c_Z52 x0 x1 x2 x3 x4 (fun y => some ((e_Z52.res.mk [.I y.1, .I y.2]).1, (Sh.mks e_Z52.outs (e_Z52.res.mk [.I y.1, .I y.2]).2).1)) := by kernel_rfl
theorem e_Z52_ok : e_Z52.ok Try.prog A := by
 intro R ds k r h
 unfold e_Z52 at h
 obtain ⟨x0, d0, rfl, h0⟩ := dL_some h
 obtain ⟨x1, d1, rfl, h1⟩ := dI_some h0
 obtain ⟨x2, d2, rfl, h2⟩ := dI_some h1
 obtain ⟨x3, d3, rfl, h3⟩ := dI_some h2
 obtain ⟨x4, d4, rfl, h4⟩ := dI_some h3
 obtain ⟨rfl, hE⟩ := dE_some h4
 obtain ⟨y, hy, hk⟩ := bnd_some hE
 refine ⟨_, hk, fn_ok px (fx := ⟨Try.func96, by kernel_rfl, by kernel_rfl⟩) (entsOK_cons e_Z51_ok entsOK_nil) lentsOK_nil ?_⟩
 have hq := q_Z52 x0 x1 x2 x3 x4
 rw [c_Z52_bind] at hq
 rw [show c_Z52 x0 x1 x2 x3 x4 some = some y from hy] at hq
 exact hq

/-!-/
def c_Z53 {R : Type} (x0 : List D) (x1 : Int) (x2 : Int) (k : Int × Int → Option R) : Option R :=
 (Z52 x0 (IntKind.i64.wrap (x1 - 1)) x1 (IntKind.i64.wrap (x1 + 1)) x2).bind (fun y0 =>
 k (y0.fst, y0.snd))
theorem c_Z53_bind {R : Type} (x0 : List D) (x1 : Int) (x2 : Int) (k : Int × Int → Option R) : c_Z53 x0 x1 x2 k = (c_Z53 x0 x1 x2 some).bind k := by
 unfold c_Z53
 repeat' first|exact bnd_tail|exact bnd_none|exact bnd_leaf|apply bnd_ite|apply bnd_cond|apply bnd_sum|(apply bnd_bind;intro _)|intro _
def Z53 (x0 : List D) (x1 : Int) (x2 : Int) : Option (Int × Int) := c_Z53 x0 x1 x2 some
def e_Z53 : Ent := ⟨95, [.rd (.int .i64), .int .i64, .obox (.int .i64)], .int .i64, [.undef, .undef, .obox (.int .i64)], fun _ ds k => dL (fun x0 ds => dI (fun x1 ds => dI (fun x2 ds => dE ((Z53 x0 x1 x2).bind (fun y => k [.I y.1, .I y.2])) ds) ds) ds) ds⟩
theorem q_Z53 (x0 : List D) (x1 : Int) (x2 : Int) : runFn (ocOf [e_Z52]) (olOf []) A 95 Try.f95 (Sh.mks e_Z53.sh [.L x0, .I x1, .I x2]).1 (fun v os => some (v, os)) = c_Z53 x0 x1 x2 (fun y => some ((e_Z53.res.mk [.I y.1, .I y.2]).1, (Sh.mks e_Z53.outs (e_Z53.res.mk [.I y.1, .I y.2]).2).1)) := by kernel_rfl
theorem e_Z53_ok : e_Z53.ok Try.prog A := by
 intro R ds k r h
 unfold e_Z53 at h
 obtain ⟨x0, d0, rfl, h0⟩ := dL_some h
 obtain ⟨x1, d1, rfl, h1⟩ := dI_some h0
 obtain ⟨x2, d2, rfl, h2⟩ := dI_some h1
 obtain ⟨rfl, hE⟩ := dE_some h2
 obtain ⟨y, hy, hk⟩ := bnd_some hE
 refine ⟨_, hk, fn_ok px (fx := ⟨Try.func95, by kernel_rfl, by kernel_rfl⟩) (entsOK_cons e_Z52_ok entsOK_nil) lentsOK_nil ?_⟩
 have hq := q_Z53 x0 x1 x2
 rw [c_Z53_bind] at hq
 rw [show c_Z53 x0 x1 x2 some = some y from hy] at hq
 exact hq

/-!-/
def c_Z54 {R : Type} (x0 : List D) (x1 : Int) (x2 : Int) (k : Int × Int → Option R) : Option R :=
 if (4 : Int) ≠ (0 : Int) then
 if (4 : Int) ≠ (0 : Int) then
 if (4 : Int) ≠ (0 : Int) then
 bif decide ((8 : Int) ≤ IntKind.i64.wrap (x2 - x1)) then
 bif decide ((50 : Int) ≤ IntKind.i64.wrap (x2 - x1)) then
 (Z53 x0 (IntKind.i64.wrap (x1 + IntKind.i64.wrap (IntKind.i64.wrap ((IntKind.i64.wrap (x2 - x1)).tdiv (4 : Int)) * (1 : Int)))) (0 : Int)).bind (fun y0 =>
 (Z53 x0 (IntKind.i64.wrap (x1 + IntKind.i64.wrap (IntKind.i64.wrap ((IntKind.i64.wrap (x2 - x1)).tdiv (4 : Int)) * (2 : Int)))) y0.snd).bind (fun y1 =>
 (Z53 x0 (IntKind.i64.wrap (x1 + IntKind.i64.wrap (IntKind.i64.wrap ((IntKind.i64.wrap (x2 - x1)).tdiv (4 : Int)) * (3 : Int)))) y1.snd).bind (fun y2 =>
 (Z52 x0 y0.fst y1.fst y2.fst y2.snd).bind (fun y3 =>
 bif decide (y3.snd = (0 : Int)) then
 k (y3.fst, (1 : Int))
 else
 bif decide (y3.snd = (12 : Int)) then
 k (y3.fst, (2 : Int))
 else
 k (y3.fst, (0 : Int))))))
 else
 (Z52 x0 (IntKind.i64.wrap (x1 + IntKind.i64.wrap (IntKind.i64.wrap ((IntKind.i64.wrap (x2 - x1)).tdiv (4 : Int)) * (1 : Int)))) (IntKind.i64.wrap (x1 + IntKind.i64.wrap (IntKind.i64.wrap ((IntKind.i64.wrap (x2 - x1)).tdiv (4 : Int)) * (2 : Int)))) (IntKind.i64.wrap (x1 + IntKind.i64.wrap (IntKind.i64.wrap ((IntKind.i64.wrap (x2 - x1)).tdiv (4 : Int)) * (3 : Int)))) (0 : Int)).bind (fun y4 =>
 bif decide (y4.snd = (0 : Int)) then
 k (y4.fst, (1 : Int))
 else
 bif decide (y4.snd = (12 : Int)) then
 k (y4.fst, (2 : Int))
 else
 k (y4.fst, (0 : Int)))
 else
 bif decide ((0 : Int) = (0 : Int)) then
 k (IntKind.i64.wrap (x1 + IntKind.i64.wrap (IntKind.i64.wrap ((IntKind.i64.wrap (x2 - x1)).tdiv (4 : Int)) * (2 : Int))), (1 : Int))
 else
 bif decide ((0 : Int) = (12 : Int)) then
 k (IntKind.i64.wrap (x1 + IntKind.i64.wrap (IntKind.i64.wrap ((IntKind.i64.wrap (x2 - x1)).tdiv (4 : Int)) * (2 : Int))), (2 : Int))
 else
 k (IntKind.i64.wrap (x1 + IntKind.i64.wrap (IntKind.i64.wrap ((IntKind.i64.wrap (x2 - x1)).tdiv (4 : Int)) * (2 : Int))), (0 : Int))
 else
 none
 else
 none
 else
 none
theorem c_Z54_bind {R : Type} (x0 : List D) (x1 : Int) (x2 : Int) (k : Int × Int → Option R) : c_Z54 x0 x1 x2 k = (c_Z54 x0 x1 x2 some).bind k := by
 unfold c_Z54
 repeat' first|exact bnd_tail|exact bnd_none|exact bnd_leaf|apply bnd_ite|apply bnd_cond|apply bnd_sum|(apply bnd_bind;intro _)|intro _
def Z54 (x0 : List D) (x1 : Int) (x2 : Int) : Option (Int × Int) := c_Z54 x0 x1 x2 some
def e_Z54 : Ent := ⟨84, [.rd (.int .i64), .int .i64, .int .i64], .tup [.int .i64, .int .i64], [.undef, .undef, .undef], fun _ ds k => dL (fun x0 ds => dI (fun x1 ds => dI (fun x2 ds => dE ((Z54 x0 x1 x2).bind (fun y => k [.I y.1, .I y.2])) ds) ds) ds) ds⟩
theorem q_Z54 (x0 : List D) (x1 : Int) (x2 : Int) : runFn (ocOf [e_Z53, e_Z52]) (olOf []) A 84 Try.f84 (Sh.mks e_Z54.sh [.L x0, .I x1, .I x2]).1 (fun v os => some (v, os)) = c_Z54 x0 x1 x2 (fun y => some ((e_Z54.res.mk [.I y.1, .I y.2]).1, (Sh.mks e_Z54.outs (e_Z54.res.mk [.I y.1, .I y.2]).2).1)) := by kernel_rfl
theorem e_Z54_ok : e_Z54.ok Try.prog A := by
 intro R ds k r h
 unfold e_Z54 at h
 obtain ⟨x0, d0, rfl, h0⟩ := dL_some h
 obtain ⟨x1, d1, rfl, h1⟩ := dI_some h0
 obtain ⟨x2, d2, rfl, h2⟩ := dI_some h1
 obtain ⟨rfl, hE⟩ := dE_some h2
 obtain ⟨y, hy, hk⟩ := bnd_some hE
 refine ⟨_, hk, fn_ok px (fx := ⟨Try.func84, by kernel_rfl, by kernel_rfl⟩) (entsOK_cons e_Z53_ok (entsOK_cons e_Z52_ok entsOK_nil)) lentsOK_nil ?_⟩
 have hq := q_Z54 x0 x1 x2
 rw [c_Z54_bind] at hq
 rw [show c_Z54 x0 x1 x2 some = some y from hy] at hq
 exact hq

/-!-/
def c_Z55 {R : Type} (F : Int → Int → List D → Option (List D)) (x0 : Int) (x1 : Int) (x2 : List D) (k : List D → Option R) : Option R :=
 bif decide (x0 < x1) then
 if 0 ≤ x1 ∧ x1 < (↑x2.length : Int) then
 if x1.toNat + 1 ≤ x2.length then
 if 0 ≤ x0 ∧ x0 < (↑x2.length : Int) then
 if x0.toNat + 1 ≤ x2.length then
 if 0 ≤ x0 ∧ x0 < (↑x2.length : Int) then
 if x0.toNat + 1 ≤ x2.length then
 if 0 ≤ x1 ∧ x1 < (↑(x2.set x0.toNat (D.int (x2.getD x1.toNat (D.int 0)).toInt)).length : Int) then
 if x1.toNat + 1 ≤ (x2.set x0.toNat (D.int (x2.getD x1.toNat (D.int 0)).toInt)).length then
 (F (IntKind.i64.wrap (x0 + 1)) (IntKind.i64.wrap (x1 - 1)) ((x2.set x0.toNat (D.int (x2.getD x1.toNat (D.int 0)).toInt)).set x1.toNat (D.int (x2.getD x0.toNat (D.int 0)).toInt))).bind k
 else
 none
 else
 none
 else
 none
 else
 none
 else
 none
 else
 none
 else
 none
 else
 none
 else
 k x2
theorem c_Z55_bind {R : Type} (F : Int → Int → List D → Option (List D)) (x0 : Int) (x1 : Int) (x2 : List D) (k : List D → Option R) : c_Z55 F x0 x1 x2 k = (c_Z55 F x0 x1 x2 some).bind k := by
 unfold c_Z55
 repeat' first|exact bnd_tail|exact bnd_none|exact bnd_leaf|apply bnd_ite|apply bnd_cond|apply bnd_sum|(apply bnd_bind;intro _)|intro _
def n_Z55 : Nat → Int → Int → List D → Option (List D)
 | 0, _, _, _ => none
 | n + 1, x0, x1, x2 => c_Z55 (n_Z55 n) x0 x1 x2 some
noncomputable def Z55 (x0 : Int) (x1 : Int) (x2 : List D) : Option (List D) := ev (fun n => n_Z55 n x0 x1 x2)
def m_Z55 (F : Int → Int → List D → Option (List D)) : Lent := ⟨2, ⟨(.full 1000 [] (.int .i64) :: uu 5 (.int .i64 :: .int .i64 :: uu 24 ([]))), [(1000, .own (.int .i64))]⟩, [(.exit 0, ⟨(.full 1000 [] (.int .i64) :: uu 31 ([])), [(1000, .own (.int .i64))]⟩)], fun _ ds k => dI (fun x0 ds => dI (fun x1 ds => dL (fun x2 ds => dE ((F x0 x1 x2).bind (fun y => k 0 [.L y])) ds) ds) ds) ds⟩
theorem q_Z55 (F : Int → Int → List D → Option (List D)) (x0 : Int) (x1 : Int) (x2 : List D) : runLoop (ocOf []) (olOf [m_Z55 F]) A 85 (codeAt (bodyOf Try.f85) 2) ((m_Z55 F).sh.mk' [.I x0, .I x1, .L x2]) (fun e σ' => some (e, σ')) = c_Z55 F x0 x1 x2 (fun y => some (.exit 0, SSt.mk' ⟨(.full 1000 [] (.int .i64) :: uu 31 ([])), [(1000, .own (.int .i64))]⟩ [.L y])) := by kernel_rfl
theorem m_Z55_ok : ∀ n, (m_Z55 (n_Z55 n)).ok Try.prog (codeAt (bodyOf Try.f85) 2) := by
 intro n
 induction n with
 | zero =>
  intro R ds k r h
  unfold m_Z55 at h
  obtain ⟨x0, d0, rfl, h0⟩ := dI_some h
  obtain ⟨x1, d1, rfl, h1⟩ := dI_some h0
  obtain ⟨x2, d2, rfl, h2⟩ := dL_some h1
  obtain ⟨rfl, hE⟩ := dE_some h2
  obtain ⟨y, hy, hk⟩ := bnd_some hE
  cases hy
 | succ n ih =>
  intro R ds k r h
  unfold m_Z55 at h
  obtain ⟨x0, d0, rfl, h0⟩ := dI_some h
  obtain ⟨x1, d1, rfl, h1⟩ := dI_some h0
  obtain ⟨x2, d2, rfl, h2⟩ := dL_some h1
  obtain ⟨rfl, hE⟩ := dE_some h2
  obtain ⟨y, hy, hk⟩ := bnd_some hE
  have hq := q_Z55 (n_Z55 n) x0 x1 x2
  rw [c_Z55_bind] at hq
  rw [show c_Z55 (n_Z55 n) x0 x1 x2 some = some y from hy] at hq
  refine ⟨0, _, _, _, hk, rfl, loop_ok px (fx := ⟨Try.func85, by kernel_rfl, by kernel_rfl⟩) entsOK_nil (lentsOK_cons ih lentsOK_nil) (by kernel_rfl) ?_⟩
  exact hq
noncomputable def e_Z55 : Lent := m_Z55 (Z55)
theorem e_Z55_ok : (e_Z55).ok Try.prog (codeAt (bodyOf Try.f85) 2) := by
 intro R ds k r h
 unfold e_Z55 m_Z55 at h
 obtain ⟨x0, d0, rfl, h0⟩ := dI_some h
 obtain ⟨x1, d1, rfl, h1⟩ := dI_some h0
 obtain ⟨x2, d2, rfl, h2⟩ := dL_some h1
 obtain ⟨rfl, hE⟩ := dE_some h2
 obtain ⟨y, hy, hk⟩ := bnd_some hE
 obtain ⟨n, hn⟩ := ev_some hy
 exact m_Z55_ok n R _ k r (show (n_Z55 n x0 x1 x2).bind _ = _ by rw [hn]; exact hk)

/-!-/
def c_Z56 {R : Type} (x0 : List D) (x1 : Int) (x2 : Int) (k : List D → Option R) : Option R :=
 (Z55 x1 (IntKind.i64.wrap (x2 - 1)) x0).bind (fun y0 =>
 k y0)
theorem c_Z56_bind {R : Type} (x0 : List D) (x1 : Int) (x2 : Int) (k : List D → Option R) : c_Z56 x0 x1 x2 k = (c_Z56 x0 x1 x2 some).bind k := by
 unfold c_Z56
 repeat' first|exact bnd_tail|exact bnd_none|exact bnd_leaf|apply bnd_ite|apply bnd_cond|apply bnd_sum|(apply bnd_bind;intro _)|intro _
def Z56 (x0 : List D) (x1 : Int) (x2 : Int) : Option (List D) := c_Z56 x0 x1 x2 some
def e_Z56 : Ent := ⟨85, [.own (.int .i64), .int .i64, .int .i64], .tup [], [.own (.int .i64), .undef, .undef], fun _ ds k => dL (fun x0 ds => dI (fun x1 ds => dI (fun x2 ds => dE ((Z56 x0 x1 x2).bind (fun y => k [.L y])) ds) ds) ds) ds⟩
theorem q_Z56 (x0 : List D) (x1 : Int) (x2 : Int) : runFn (ocOf []) (olOf [e_Z55]) A 85 Try.f85 (Sh.mks e_Z56.sh [.L x0, .I x1, .I x2]).1 (fun v os => some (v, os)) = c_Z56 x0 x1 x2 (fun y => some ((e_Z56.res.mk [.L y]).1, (Sh.mks e_Z56.outs (e_Z56.res.mk [.L y]).2).1)) := by kernel_rfl
theorem e_Z56_ok : e_Z56.ok Try.prog A := by
 intro R ds k r h
 unfold e_Z56 at h
 obtain ⟨x0, d0, rfl, h0⟩ := dL_some h
 obtain ⟨x1, d1, rfl, h1⟩ := dI_some h0
 obtain ⟨x2, d2, rfl, h2⟩ := dI_some h1
 obtain ⟨rfl, hE⟩ := dE_some h2
 obtain ⟨y, hy, hk⟩ := bnd_some hE
 refine ⟨_, hk, fn_ok px (fx := ⟨Try.func85, by kernel_rfl, by kernel_rfl⟩) entsOK_nil (lentsOK_cons e_Z55_ok lentsOK_nil) ?_⟩
 have hq := q_Z56 x0 x1 x2
 rw [c_Z56_bind] at hq
 rw [show c_Z56 x0 x1 x2 some = some y from hy] at hq
 exact hq

/-!-/
def c_Z57 {R : Type} (F : Int → Int → Int → Int → List D → Option (Int × Int × Int × Int × List D)) (x0 : Int) (x1 : Int) (x2 : Int) (x3 : Int) (x4 : List D) (k : Int × Int × Int × Int × List D → Option R) : Option R :=
 bif decide (x2 < x1) then
 if 0 ≤ x2 ∧ x2 < (↑x4.length : Int) then
 if x2.toNat + 1 ≤ x4.length then
 if (0 : Int) ≤ IntKind.i64.wrap (x2 - 1) ∧ IntKind.i64.wrap (x2 - 1) < (↑x4.length : Int) then
 if (IntKind.i64.wrap (x2 - 1)).toNat + 1 ≤ x4.length then
 (Z38 ((x4.getD x2.toNat (D.int 0)).toInt) ((x4.getD (IntKind.i64.wrap (x2 - 1)).toNat (D.int 0)).toInt)).bind (fun y0 =>
 bif !y0 then
 (F x0 x1 (IntKind.i64.wrap (x2 + 1)) x3 x4).bind k
 else
 k (x0, x1, x2, x3, x4))
 else
 none
 else
 none
 else
 none
 else
 none
 else
 k (x0, x1, x2, x3, x4)
theorem c_Z57_bind {R : Type} (F : Int → Int → Int → Int → List D → Option (Int × Int × Int × Int × List D)) (x0 : Int) (x1 : Int) (x2 : Int) (x3 : Int) (x4 : List D) (k : Int × Int × Int × Int × List D → Option R) : c_Z57 F x0 x1 x2 x3 x4 k = (c_Z57 F x0 x1 x2 x3 x4 some).bind k := by
 unfold c_Z57
 repeat' first|exact bnd_tail|exact bnd_none|exact bnd_leaf|apply bnd_ite|apply bnd_cond|apply bnd_sum|(apply bnd_bind;intro _)|intro _
def n_Z57 : Nat → Int → Int → Int → Int → List D → Option (Int × Int × Int × Int × List D)
 | 0, _, _, _, _, _ => none
 | n + 1, x0, x1, x2, x3, x4 => c_Z57 (n_Z57 n) x0 x1 x2 x3 x4 some
noncomputable def Z57 (x0 : Int) (x1 : Int) (x2 : Int) (x3 : Int) (x4 : List D) : Option (Int × Int × Int × Int × List D) := ev (fun n => n_Z57 n x0 x1 x2 x3 x4)
def m_Z57 (F : Int → Int → Int → Int → List D → Option (Int × Int × Int × Int × List D)) : Lent := ⟨5, ⟨(.full 1000 [] (.int .i64) :: .int .i64 :: .int .i64 :: uu 4 (.int .i64 :: .int .i64 :: uu 124 ([]))), [(1000, .own (.int .i64))]⟩, [(.exit 2, ⟨(.full 1000 [] (.int .i64) :: .int .i64 :: .int .i64 :: uu 4 (.int .i64 :: .int .i64 :: uu 124 ([]))), [(1000, .own (.int .i64))]⟩)], fun _ ds k => dI (fun x0 ds => dI (fun x1 ds => dI (fun x2 ds => dI (fun x3 ds => dL (fun x4 ds => dE ((F x0 x1 x2 x3 x4).bind (fun y => k 0 [.I y.1, .I y.2.1, .I y.2.2.1, .I y.2.2.2.1, .L y.2.2.2.2])) ds) ds) ds) ds) ds) ds⟩
theorem q_Z57 (F : Int → Int → Int → Int → List D → Option (Int × Int × Int × Int × List D)) (x0 : Int) (x1 : Int) (x2 : Int) (x3 : Int) (x4 : List D) : runLoop (ocOf [e_Z38]) (olOf [m_Z57 F]) A 86 (codeAt (bodyOf Try.f86) 5) ((m_Z57 F).sh.mk' [.I x0, .I x1, .I x2, .I x3, .L x4]) (fun e σ' => some (e, σ')) = c_Z57 F x0 x1 x2 x3 x4 (fun y => some (.exit 2, SSt.mk' ⟨(.full 1000 [] (.int .i64) :: .int .i64 :: .int .i64 :: uu 4 (.int .i64 :: .int .i64 :: uu 124 ([]))), [(1000, .own (.int .i64))]⟩ [.I y.1, .I y.2.1, .I y.2.2.1, .I y.2.2.2.1, .L y.2.2.2.2])) := by kernel_rfl
theorem m_Z57_ok : ∀ n, (m_Z57 (n_Z57 n)).ok Try.prog (codeAt (bodyOf Try.f86) 5) := by
 intro n
 induction n with
 | zero =>
  intro R ds k r h
  unfold m_Z57 at h
  obtain ⟨x0, d0, rfl, h0⟩ := dI_some h
  obtain ⟨x1, d1, rfl, h1⟩ := dI_some h0
  obtain ⟨x2, d2, rfl, h2⟩ := dI_some h1
  obtain ⟨x3, d3, rfl, h3⟩ := dI_some h2
  obtain ⟨x4, d4, rfl, h4⟩ := dL_some h3
  obtain ⟨rfl, hE⟩ := dE_some h4
  obtain ⟨y, hy, hk⟩ := bnd_some hE
  cases hy
 | succ n ih =>
  intro R ds k r h
  unfold m_Z57 at h
  obtain ⟨x0, d0, rfl, h0⟩ := dI_some h
  obtain ⟨x1, d1, rfl, h1⟩ := dI_some h0
  obtain ⟨x2, d2, rfl, h2⟩ := dI_some h1
  obtain ⟨x3, d3, rfl, h3⟩ := dI_some h2
  obtain ⟨x4, d4, rfl, h4⟩ := dL_some h3
  obtain ⟨rfl, hE⟩ := dE_some h4
  obtain ⟨y, hy, hk⟩ := bnd_some hE
  have hq := q_Z57 (n_Z57 n) x0 x1 x2 x3 x4
  rw [c_Z57_bind] at hq
  rw [show c_Z57 (n_Z57 n) x0 x1 x2 x3 x4 some = some y from hy] at hq
  refine ⟨0, _, _, _, hk, rfl, loop_ok px (fx := ⟨Try.func86, by kernel_rfl, by kernel_rfl⟩) (entsOK_cons e_Z38_ok entsOK_nil) (lentsOK_cons ih lentsOK_nil) (by kernel_rfl) ?_⟩
  exact hq
noncomputable def e_Z57 : Lent := m_Z57 (Z57)
theorem e_Z57_ok : (e_Z57).ok Try.prog (codeAt (bodyOf Try.f86) 5) := by
 intro R ds k r h
 unfold e_Z57 m_Z57 at h
 obtain ⟨x0, d0, rfl, h0⟩ := dI_some h
 obtain ⟨x1, d1, rfl, h1⟩ := dI_some h0
 obtain ⟨x2, d2, rfl, h2⟩ := dI_some h1
 obtain ⟨x3, d3, rfl, h3⟩ := dI_some h2
 obtain ⟨x4, d4, rfl, h4⟩ := dL_some h3
 obtain ⟨rfl, hE⟩ := dE_some h4
 obtain ⟨y, hy, hk⟩ := bnd_some hE
 obtain ⟨n, hn⟩ := ev_some hy
 exact m_Z57_ok n R _ k r (show (n_Z57 n x0 x1 x2 x3 x4).bind _ = _ by rw [hn]; exact hk)

/-!-/
def c_Z58 {R : Type} (F : Int → Int → Int → Int → Int → List D → Option (Int × Int × Int × Int × List D)) (x0 : Int) (x1 : Int) (x2 : Int) (x3 : Int) (x4 : Int) (x5 : List D) (k : Int × Int × Int × Int × List D → Option R) : Option R :=
 bif decide ((1 : Int) ≤ x4) then
 if 0 ≤ x4 ∧ x4 < (↑x5.length : Int) then
 if x4.toNat + 1 ≤ x5.length then
 if (0 : Int) ≤ IntKind.i64.wrap (x4 - 1) ∧ IntKind.i64.wrap (x4 - 1) < (↑x5.length : Int) then
 if (IntKind.i64.wrap (x4 - 1)).toNat + 1 ≤ x5.length then
 (Z38 ((x5.getD x4.toNat (D.int 0)).toInt) ((x5.getD (IntKind.i64.wrap (x4 - 1)).toNat (D.int 0)).toInt)).bind (fun y0 =>
 bif !y0 then
 k (x0, x1, x2, x3, x5)
 else
 if (0 : Int) ≤ IntKind.i64.wrap (x4 - 1) ∧ IntKind.i64.wrap (x4 - 1) < (↑x5.length : Int) then
 if (IntKind.i64.wrap (x4 - 1)).toNat + 1 ≤ x5.length then
 if 0 ≤ x4 ∧ x4 < (↑x5.length : Int) then
 if x4.toNat + 1 ≤ x5.length then
 if 0 ≤ x4 ∧ x4 < (↑x5.length : Int) then
 if x4.toNat + 1 ≤ x5.length then
 if (0 : Int) ≤ IntKind.i64.wrap (x4 - 1) ∧ IntKind.i64.wrap (x4 - 1) < (↑(x5.set x4.toNat (D.int (x5.getD (IntKind.i64.wrap (x4 - 1)).toNat (D.int 0)).toInt)).length : Int) then
 if (IntKind.i64.wrap (x4 - 1)).toNat + 1 ≤ (x5.set x4.toNat (D.int (x5.getD (IntKind.i64.wrap (x4 - 1)).toNat (D.int 0)).toInt)).length then
 (F x0 x1 x2 x3 (IntKind.i64.wrap (x4 - 1)) ((x5.set x4.toNat (D.int (x5.getD (IntKind.i64.wrap (x4 - 1)).toNat (D.int 0)).toInt)).set (IntKind.i64.wrap (x4 - 1)).toNat (D.int (x5.getD x4.toNat (D.int 0)).toInt))).bind k
 else
 none
 else
 none
 else
 none
 else
 none
 else
 none
 else
 none
 else
 none
 else
 none)
 else
 none
 else
 none
 else
 none
 else
 none
 else
 k (x0, x1, x2, x3, x5)
theorem c_Z58_bind {R : Type} (F : Int → Int → Int → Int → Int → List D → Option (Int × Int × Int × Int × List D)) (x0 : Int) (x1 : Int) (x2 : Int) (x3 : Int) (x4 : Int) (x5 : List D) (k : Int × Int × Int × Int × List D → Option R) : c_Z58 F x0 x1 x2 x3 x4 x5 k = (c_Z58 F x0 x1 x2 x3 x4 x5 some).bind k := by
 unfold c_Z58
 repeat' first|exact bnd_tail|exact bnd_none|exact bnd_leaf|apply bnd_ite|apply bnd_cond|apply bnd_sum|(apply bnd_bind;intro _)|intro _
def n_Z58 : Nat → Int → Int → Int → Int → Int → List D → Option (Int × Int × Int × Int × List D)
 | 0, _, _, _, _, _, _ => none
 | n + 1, x0, x1, x2, x3, x4, x5 => c_Z58 (n_Z58 n) x0 x1 x2 x3 x4 x5 some
noncomputable def Z58 (x0 : Int) (x1 : Int) (x2 : Int) (x3 : Int) (x4 : Int) (x5 : List D) : Option (Int × Int × Int × Int × List D) := ev (fun n => n_Z58 n x0 x1 x2 x3 x4 x5)
def m_Z58 (F : Int → Int → Int → Int → Int → List D → Option (Int × Int × Int × Int × List D)) : Lent := ⟨14, ⟨(.full 1000 [] (.int .i64) :: .int .i64 :: .int .i64 :: uu 4 (.int .i64 :: .int .i64 :: .int .i64 :: uu 123 ([]))), [(1000, .own (.int .i64))]⟩, [(.exit 4, ⟨(.full 1000 [] (.int .i64) :: .int .i64 :: .int .i64 :: uu 4 (.int .i64 :: .int .i64 :: uu 124 ([]))), [(1000, .own (.int .i64))]⟩)], fun _ ds k => dI (fun x0 ds => dI (fun x1 ds => dI (fun x2 ds => dI (fun x3 ds => dI (fun x4 ds => dL (fun x5 ds => dE ((F x0 x1 x2 x3 x4 x5).bind (fun y => k 0 [.I y.1, .I y.2.1, .I y.2.2.1, .I y.2.2.2.1, .L y.2.2.2.2])) ds) ds) ds) ds) ds) ds) ds⟩
theorem q_Z58 (F : Int → Int → Int → Int → Int → List D → Option (Int × Int × Int × Int × List D)) (x0 : Int) (x1 : Int) (x2 : Int) (x3 : Int) (x4 : Int) (x5 : List D) : runLoop (ocOf [e_Z38]) (olOf [m_Z58 F]) A 86 (codeAt (bodyOf Try.f86) 14) ((m_Z58 F).sh.mk' [.I x0, .I x1, .I x2, .I x3, .I x4, .L x5]) (fun e σ' => some (e, σ')) = c_Z58 F x0 x1 x2 x3 x4 x5 (fun y => some (.exit 4, SSt.mk' ⟨(.full 1000 [] (.int .i64) :: .int .i64 :: .int .i64 :: uu 4 (.int .i64 :: .int .i64 :: uu 124 ([]))), [(1000, .own (.int .i64))]⟩ [.I y.1, .I y.2.1, .I y.2.2.1, .I y.2.2.2.1, .L y.2.2.2.2])) := by kernel_rfl
theorem m_Z58_ok : ∀ n, (m_Z58 (n_Z58 n)).ok Try.prog (codeAt (bodyOf Try.f86) 14) := by
 intro n
 induction n with
 | zero =>
  intro R ds k r h
  unfold m_Z58 at h
  obtain ⟨x0, d0, rfl, h0⟩ := dI_some h
  obtain ⟨x1, d1, rfl, h1⟩ := dI_some h0
  obtain ⟨x2, d2, rfl, h2⟩ := dI_some h1
  obtain ⟨x3, d3, rfl, h3⟩ := dI_some h2
  obtain ⟨x4, d4, rfl, h4⟩ := dI_some h3
  obtain ⟨x5, d5, rfl, h5⟩ := dL_some h4
  obtain ⟨rfl, hE⟩ := dE_some h5
  obtain ⟨y, hy, hk⟩ := bnd_some hE
  cases hy
 | succ n ih =>
  intro R ds k r h
  unfold m_Z58 at h
  obtain ⟨x0, d0, rfl, h0⟩ := dI_some h
  obtain ⟨x1, d1, rfl, h1⟩ := dI_some h0
  obtain ⟨x2, d2, rfl, h2⟩ := dI_some h1
  obtain ⟨x3, d3, rfl, h3⟩ := dI_some h2
  obtain ⟨x4, d4, rfl, h4⟩ := dI_some h3
  obtain ⟨x5, d5, rfl, h5⟩ := dL_some h4
  obtain ⟨rfl, hE⟩ := dE_some h5
  obtain ⟨y, hy, hk⟩ := bnd_some hE
  have hq := q_Z58 (n_Z58 n) x0 x1 x2 x3 x4 x5
  rw [c_Z58_bind] at hq
  rw [show c_Z58 (n_Z58 n) x0 x1 x2 x3 x4 x5 some = some y from hy] at hq
  refine ⟨0, _, _, _, hk, rfl, loop_ok px (fx := ⟨Try.func86, by kernel_rfl, by kernel_rfl⟩) (entsOK_cons e_Z38_ok entsOK_nil) (lentsOK_cons ih lentsOK_nil) (by kernel_rfl) ?_⟩
  exact hq
noncomputable def e_Z58 : Lent := m_Z58 (Z58)
theorem e_Z58_ok : (e_Z58).ok Try.prog (codeAt (bodyOf Try.f86) 14) := by
 intro R ds k r h
 unfold e_Z58 m_Z58 at h
 obtain ⟨x0, d0, rfl, h0⟩ := dI_some h
 obtain ⟨x1, d1, rfl, h1⟩ := dI_some h0
 obtain ⟨x2, d2, rfl, h2⟩ := dI_some h1
 obtain ⟨x3, d3, rfl, h3⟩ := dI_some h2
 obtain ⟨x4, d4, rfl, h4⟩ := dI_some h3
 obtain ⟨x5, d5, rfl, h5⟩ := dL_some h4
 obtain ⟨rfl, hE⟩ := dE_some h5
 obtain ⟨y, hy, hk⟩ := bnd_some hE
 obtain ⟨n, hn⟩ := ev_some hy
 exact m_Z58_ok n R _ k r (show (n_Z58 n x0 x1 x2 x3 x4 x5).bind _ = _ by rw [hn]; exact hk)

/-!-/
def c_Z59 {R : Type} (F : Int → Int → Int → Int → Int → List D → Option (Int × Int × Int × Int × List D)) (x0 : Int) (x1 : Int) (x2 : Int) (x3 : Int) (x4 : Int) (x5 : List D) (k : Int × Int × Int × Int × List D → Option R) : Option R :=
 bif decide (x4 < x1) then
 if 0 ≤ x4 ∧ x4 < (↑x5.length : Int) then
 if x4.toNat + 1 ≤ x5.length then
 if (0 : Int) ≤ IntKind.i64.wrap (x4 - 1) ∧ IntKind.i64.wrap (x4 - 1) < (↑x5.length : Int) then
 if (IntKind.i64.wrap (x4 - 1)).toNat + 1 ≤ x5.length then
 (Z38 ((x5.getD x4.toNat (D.int 0)).toInt) ((x5.getD (IntKind.i64.wrap (x4 - 1)).toNat (D.int 0)).toInt)).bind (fun y0 =>
 bif !y0 then
 k (x0, x1, x2, x3, x5)
 else
 if (0 : Int) ≤ IntKind.i64.wrap (x4 - 1) ∧ IntKind.i64.wrap (x4 - 1) < (↑x5.length : Int) then
 if (IntKind.i64.wrap (x4 - 1)).toNat + 1 ≤ x5.length then
 if 0 ≤ x4 ∧ x4 < (↑x5.length : Int) then
 if x4.toNat + 1 ≤ x5.length then
 if 0 ≤ x4 ∧ x4 < (↑x5.length : Int) then
 if x4.toNat + 1 ≤ x5.length then
 if (0 : Int) ≤ IntKind.i64.wrap (x4 - 1) ∧ IntKind.i64.wrap (x4 - 1) < (↑(x5.set x4.toNat (D.int (x5.getD (IntKind.i64.wrap (x4 - 1)).toNat (D.int 0)).toInt)).length : Int) then
 if (IntKind.i64.wrap (x4 - 1)).toNat + 1 ≤ (x5.set x4.toNat (D.int (x5.getD (IntKind.i64.wrap (x4 - 1)).toNat (D.int 0)).toInt)).length then
 (F x0 x1 x2 x3 (IntKind.i64.wrap (x4 + 1)) ((x5.set x4.toNat (D.int (x5.getD (IntKind.i64.wrap (x4 - 1)).toNat (D.int 0)).toInt)).set (IntKind.i64.wrap (x4 - 1)).toNat (D.int (x5.getD x4.toNat (D.int 0)).toInt))).bind k
 else
 none
 else
 none
 else
 none
 else
 none
 else
 none
 else
 none
 else
 none
 else
 none)
 else
 none
 else
 none
 else
 none
 else
 none
 else
 k (x0, x1, x2, x3, x5)
theorem c_Z59_bind {R : Type} (F : Int → Int → Int → Int → Int → List D → Option (Int × Int × Int × Int × List D)) (x0 : Int) (x1 : Int) (x2 : Int) (x3 : Int) (x4 : Int) (x5 : List D) (k : Int × Int × Int × Int × List D → Option R) : c_Z59 F x0 x1 x2 x3 x4 x5 k = (c_Z59 F x0 x1 x2 x3 x4 x5 some).bind k := by
 unfold c_Z59
 repeat' first|exact bnd_tail|exact bnd_none|exact bnd_leaf|apply bnd_ite|apply bnd_cond|apply bnd_sum|(apply bnd_bind;intro _)|intro _
def n_Z59 : Nat → Int → Int → Int → Int → Int → List D → Option (Int × Int × Int × Int × List D)
 | 0, _, _, _, _, _, _ => none
 | n + 1, x0, x1, x2, x3, x4, x5 => c_Z59 (n_Z59 n) x0 x1 x2 x3 x4 x5 some
noncomputable def Z59 (x0 : Int) (x1 : Int) (x2 : Int) (x3 : Int) (x4 : Int) (x5 : List D) : Option (Int × Int × Int × Int × List D) := ev (fun n => n_Z59 n x0 x1 x2 x3 x4 x5)
def m_Z59 (F : Int → Int → Int → Int → Int → List D → Option (Int × Int × Int × Int × List D)) : Lent := ⟨20, ⟨(.full 1000 [] (.int .i64) :: .int .i64 :: .int .i64 :: uu 4 (.int .i64 :: .int .i64 :: .undef :: .int .i64 :: uu 122 ([]))), [(1000, .own (.int .i64))]⟩, [(.exit 6, ⟨(.full 1000 [] (.int .i64) :: .int .i64 :: .int .i64 :: uu 4 (.int .i64 :: .int .i64 :: uu 124 ([]))), [(1000, .own (.int .i64))]⟩)], fun _ ds k => dI (fun x0 ds => dI (fun x1 ds => dI (fun x2 ds => dI (fun x3 ds => dI (fun x4 ds => dL (fun x5 ds => dE ((F x0 x1 x2 x3 x4 x5).bind (fun y => k 0 [.I y.1, .I y.2.1, .I y.2.2.1, .I y.2.2.2.1, .L y.2.2.2.2])) ds) ds) ds) ds) ds) ds) ds⟩
theorem q_Z59 (F : Int → Int → Int → Int → Int → List D → Option (Int × Int × Int × Int × List D)) (x0 : Int) (x1 : Int) (x2 : Int) (x3 : Int) (x4 : Int) (x5 : List D) : runLoop (ocOf [e_Z38]) (olOf [m_Z59 F]) A 86 (codeAt (bodyOf Try.f86) 20) ((m_Z59 F).sh.mk' [.I x0, .I x1, .I x2, .I x3, .I x4, .L x5]) (fun e σ' => some (e, σ')) = c_Z59 F x0 x1 x2 x3 x4 x5 (fun y => some (.exit 6, SSt.mk' ⟨(.full 1000 [] (.int .i64) :: .int .i64 :: .int .i64 :: uu 4 (.int .i64 :: .int .i64 :: uu 124 ([]))), [(1000, .own (.int .i64))]⟩ [.I y.1, .I y.2.1, .I y.2.2.1, .I y.2.2.2.1, .L y.2.2.2.2])) := by kernel_rfl
theorem m_Z59_ok : ∀ n, (m_Z59 (n_Z59 n)).ok Try.prog (codeAt (bodyOf Try.f86) 20) := by
 intro n
 induction n with
 | zero =>
  intro R ds k r h
  unfold m_Z59 at h
  obtain ⟨x0, d0, rfl, h0⟩ := dI_some h
  obtain ⟨x1, d1, rfl, h1⟩ := dI_some h0
  obtain ⟨x2, d2, rfl, h2⟩ := dI_some h1
  obtain ⟨x3, d3, rfl, h3⟩ := dI_some h2
  obtain ⟨x4, d4, rfl, h4⟩ := dI_some h3
  obtain ⟨x5, d5, rfl, h5⟩ := dL_some h4
  obtain ⟨rfl, hE⟩ := dE_some h5
  obtain ⟨y, hy, hk⟩ := bnd_some hE
  cases hy
 | succ n ih =>
  intro R ds k r h
  unfold m_Z59 at h
  obtain ⟨x0, d0, rfl, h0⟩ := dI_some h
  obtain ⟨x1, d1, rfl, h1⟩ := dI_some h0
  obtain ⟨x2, d2, rfl, h2⟩ := dI_some h1
  obtain ⟨x3, d3, rfl, h3⟩ := dI_some h2
  obtain ⟨x4, d4, rfl, h4⟩ := dI_some h3
  obtain ⟨x5, d5, rfl, h5⟩ := dL_some h4
  obtain ⟨rfl, hE⟩ := dE_some h5
  obtain ⟨y, hy, hk⟩ := bnd_some hE
  have hq := q_Z59 (n_Z59 n) x0 x1 x2 x3 x4 x5
  rw [c_Z59_bind] at hq
  rw [show c_Z59 (n_Z59 n) x0 x1 x2 x3 x4 x5 some = some y from hy] at hq
  refine ⟨0, _, _, _, hk, rfl, loop_ok px (fx := ⟨Try.func86, by kernel_rfl, by kernel_rfl⟩) (entsOK_cons e_Z38_ok entsOK_nil) (lentsOK_cons ih lentsOK_nil) (by kernel_rfl) ?_⟩
  exact hq
noncomputable def e_Z59 : Lent := m_Z59 (Z59)
theorem e_Z59_ok : (e_Z59).ok Try.prog (codeAt (bodyOf Try.f86) 20) := by
 intro R ds k r h
 unfold e_Z59 m_Z59 at h
 obtain ⟨x0, d0, rfl, h0⟩ := dI_some h
 obtain ⟨x1, d1, rfl, h1⟩ := dI_some h0
 obtain ⟨x2, d2, rfl, h2⟩ := dI_some h1
 obtain ⟨x3, d3, rfl, h3⟩ := dI_some h2
 obtain ⟨x4, d4, rfl, h4⟩ := dI_some h3
 obtain ⟨x5, d5, rfl, h5⟩ := dL_some h4
 obtain ⟨rfl, hE⟩ := dE_some h5
 obtain ⟨y, hy, hk⟩ := bnd_some hE
 obtain ⟨n, hn⟩ := ev_some hy
 exact m_Z59_ok n R _ k r (show (n_Z59 n x0 x1 x2 x3 x4 x5).bind _ = _ by rw [hn]; exact hk)

/-!-/
def c_Z60 {R : Type} (F : Int → Int → Int → Int → List D → Option ((Bool × List D) ⊕ (List D))) (x0 : Int) (x1 : Int) (x2 : Int) (x3 : Int) (x4 : List D) (k : (Bool × List D) ⊕ (List D) → Option R) : Option R :=
 bif decide (x3 < (5 : Int)) then
 (Z57 x0 x1 x2 x3 x4).bind (fun y0 =>
 bif decide (y0.snd.snd.fst = y0.snd.fst) then
 k (.inl (Bool.true, y0.snd.snd.snd.snd))
 else
 bif decide (IntKind.i64.wrap (y0.snd.fst - y0.fst) < (50 : Int)) then
 k (.inl (Bool.false, y0.snd.snd.snd.snd))
 else
 if (0 : Int) ≤ IntKind.i64.wrap (y0.snd.snd.fst - 1) ∧ IntKind.i64.wrap (y0.snd.snd.fst - 1) < (↑y0.snd.snd.snd.snd.length : Int) then
 if (IntKind.i64.wrap (y0.snd.snd.fst - 1)).toNat + 1 ≤ y0.snd.snd.snd.snd.length then
 if 0 ≤ y0.snd.snd.fst ∧ y0.snd.snd.fst < (↑y0.snd.snd.snd.snd.length : Int) then
 if y0.snd.snd.fst.toNat + 1 ≤ y0.snd.snd.snd.snd.length then
 if 0 ≤ y0.snd.snd.fst ∧ y0.snd.snd.fst < (↑y0.snd.snd.snd.snd.length : Int) then
 if y0.snd.snd.fst.toNat + 1 ≤ y0.snd.snd.snd.snd.length then
 if (0 : Int) ≤ IntKind.i64.wrap (y0.snd.snd.fst - 1) ∧ IntKind.i64.wrap (y0.snd.snd.fst - 1) < (↑(y0.snd.snd.snd.snd.set y0.snd.snd.fst.toNat (D.int (y0.snd.snd.snd.snd.getD (IntKind.i64.wrap (y0.snd.snd.fst - 1)).toNat (D.int 0)).toInt)).length : Int) then
 if (IntKind.i64.wrap (y0.snd.snd.fst - 1)).toNat + 1 ≤ (y0.snd.snd.snd.snd.set y0.snd.snd.fst.toNat (D.int (y0.snd.snd.snd.snd.getD (IntKind.i64.wrap (y0.snd.snd.fst - 1)).toNat (D.int 0)).toInt)).length then
 bif decide ((2 : Int) ≤ IntKind.i64.wrap (y0.snd.snd.fst - y0.fst)) then
 (Z58 y0.fst y0.snd.fst y0.snd.snd.fst y0.snd.snd.snd.fst (IntKind.i64.wrap (y0.snd.snd.fst - 1)) ((y0.snd.snd.snd.snd.set y0.snd.snd.fst.toNat (D.int (y0.snd.snd.snd.snd.getD (IntKind.i64.wrap (y0.snd.snd.fst - 1)).toNat (D.int 0)).toInt)).set (IntKind.i64.wrap (y0.snd.snd.fst - 1)).toNat (D.int (y0.snd.snd.snd.snd.getD y0.snd.snd.fst.toNat (D.int 0)).toInt))).bind (fun y1 =>
 bif decide ((2 : Int) ≤ IntKind.i64.wrap (y1.snd.fst - y1.snd.snd.fst)) then
 (Z59 y1.fst y1.snd.fst y1.snd.snd.fst y1.snd.snd.snd.fst (IntKind.i64.wrap (y1.snd.snd.fst + 1)) y1.snd.snd.snd.snd).bind (fun y2 =>
 (F y2.fst y2.snd.fst y2.snd.snd.fst (IntKind.i64.wrap (y2.snd.snd.snd.fst + 1)) y2.snd.snd.snd.snd).bind k)
 else
 (F y1.fst y1.snd.fst y1.snd.snd.fst (IntKind.i64.wrap (y1.snd.snd.snd.fst + 1)) y1.snd.snd.snd.snd).bind k)
 else
 bif decide ((2 : Int) ≤ IntKind.i64.wrap (y0.snd.fst - y0.snd.snd.fst)) then
 (Z59 y0.fst y0.snd.fst y0.snd.snd.fst y0.snd.snd.snd.fst (IntKind.i64.wrap (y0.snd.snd.fst + 1)) ((y0.snd.snd.snd.snd.set y0.snd.snd.fst.toNat (D.int (y0.snd.snd.snd.snd.getD (IntKind.i64.wrap (y0.snd.snd.fst - 1)).toNat (D.int 0)).toInt)).set (IntKind.i64.wrap (y0.snd.snd.fst - 1)).toNat (D.int (y0.snd.snd.snd.snd.getD y0.snd.snd.fst.toNat (D.int 0)).toInt))).bind (fun y3 =>
 (F y3.fst y3.snd.fst y3.snd.snd.fst (IntKind.i64.wrap (y3.snd.snd.snd.fst + 1)) y3.snd.snd.snd.snd).bind k)
 else
 (F y0.fst y0.snd.fst y0.snd.snd.fst (IntKind.i64.wrap (y0.snd.snd.snd.fst + 1)) ((y0.snd.snd.snd.snd.set y0.snd.snd.fst.toNat (D.int (y0.snd.snd.snd.snd.getD (IntKind.i64.wrap (y0.snd.snd.fst - 1)).toNat (D.int 0)).toInt)).set (IntKind.i64.wrap (y0.snd.snd.fst - 1)).toNat (D.int (y0.snd.snd.snd.snd.getD y0.snd.snd.fst.toNat (D.int 0)).toInt))).bind k
 else
 none
 else
 none
 else
 none
 else
 none
 else
 none
 else
 none
 else
 none
 else
 none)
 else
 k (.inr x4)
theorem c_Z60_bind {R : Type} (F : Int → Int → Int → Int → List D → Option ((Bool × List D) ⊕ (List D))) (x0 : Int) (x1 : Int) (x2 : Int) (x3 : Int) (x4 : List D) (k : (Bool × List D) ⊕ (List D) → Option R) : c_Z60 F x0 x1 x2 x3 x4 k = (c_Z60 F x0 x1 x2 x3 x4 some).bind k := by
 unfold c_Z60
 repeat' first|exact bnd_tail|exact bnd_none|exact bnd_leaf|apply bnd_ite|apply bnd_cond|apply bnd_sum|(apply bnd_bind;intro _)|intro _
def n_Z60 : Nat → Int → Int → Int → Int → List D → Option ((Bool × List D) ⊕ (List D))
 | 0, _, _, _, _, _ => none
 | n + 1, x0, x1, x2, x3, x4 => c_Z60 (n_Z60 n) x0 x1 x2 x3 x4 some
noncomputable def Z60 (x0 : Int) (x1 : Int) (x2 : Int) (x3 : Int) (x4 : List D) : Option ((Bool × List D) ⊕ (List D)) := ev (fun n => n_Z60 n x0 x1 x2 x3 x4)
def m_Z60 (F : Int → Int → Int → Int → List D → Option ((Bool × List D) ⊕ (List D))) : Lent := ⟨3, ⟨(.full 1000 [] (.int .i64) :: .int .i64 :: .int .i64 :: uu 4 (.int .i64 :: .int .i64 :: uu 124 ([]))), [(1000, .own (.int .i64))]⟩, [(.ret, ⟨(.full 1000 [] (.int .i64) :: uu 5 (.bool :: uu 126 ([]))), [(1000, .own (.int .i64))]⟩), (.exit 0, ⟨(.full 1000 [] (.int .i64) :: uu 132 ([])), [(1000, .own (.int .i64))]⟩)], fun _ ds k => dI (fun x0 ds => dI (fun x1 ds => dI (fun x2 ds => dI (fun x3 ds => dL (fun x4 ds => dE ((F x0 x1 x2 x3 x4).bind (Sum.elim (fun y => k 0 [.B y.1, .L y.2]) (fun y => k 1 [.L y]))) ds) ds) ds) ds) ds) ds⟩
theorem q_Z60 (F : Int → Int → Int → Int → List D → Option ((Bool × List D) ⊕ (List D))) (x0 : Int) (x1 : Int) (x2 : Int) (x3 : Int) (x4 : List D) : runLoop (ocOf []) (olOf [m_Z60 F, e_Z57, e_Z58, e_Z59]) A 86 (codeAt (bodyOf Try.f86) 3) ((m_Z60 F).sh.mk' [.I x0, .I x1, .I x2, .I x3, .L x4]) (fun e σ' => some (e, σ')) = c_Z60 F x0 x1 x2 x3 x4 (Sum.elim (fun y => some (.ret, SSt.mk' ⟨(.full 1000 [] (.int .i64) :: uu 5 (.bool :: uu 126 ([]))), [(1000, .own (.int .i64))]⟩ [.B y.1, .L y.2])) (fun y => some (.exit 0, SSt.mk' ⟨(.full 1000 [] (.int .i64) :: uu 132 ([])), [(1000, .own (.int .i64))]⟩ [.L y]))) := by kernel_rfl
theorem m_Z60_ok : ∀ n, (m_Z60 (n_Z60 n)).ok Try.prog (codeAt (bodyOf Try.f86) 3) := by
 intro n
 induction n with
 | zero =>
  intro R ds k r h
  unfold m_Z60 at h
  obtain ⟨x0, d0, rfl, h0⟩ := dI_some h
  obtain ⟨x1, d1, rfl, h1⟩ := dI_some h0
  obtain ⟨x2, d2, rfl, h2⟩ := dI_some h1
  obtain ⟨x3, d3, rfl, h3⟩ := dI_some h2
  obtain ⟨x4, d4, rfl, h4⟩ := dL_some h3
  obtain ⟨rfl, hE⟩ := dE_some h4
  obtain ⟨y, hy, hk⟩ := bnd_some hE
  cases hy
 | succ n ih =>
  intro R ds k r h
  unfold m_Z60 at h
  obtain ⟨x0, d0, rfl, h0⟩ := dI_some h
  obtain ⟨x1, d1, rfl, h1⟩ := dI_some h0
  obtain ⟨x2, d2, rfl, h2⟩ := dI_some h1
  obtain ⟨x3, d3, rfl, h3⟩ := dI_some h2
  obtain ⟨x4, d4, rfl, h4⟩ := dL_some h3
  obtain ⟨rfl, hE⟩ := dE_some h4
  obtain ⟨y, hy, hk⟩ := bnd_some hE
  have hq := q_Z60 (n_Z60 n) x0 x1 x2 x3 x4
  rw [c_Z60_bind] at hq
  rw [show c_Z60 (n_Z60 n) x0 x1 x2 x3 x4 some = some y from hy] at hq
  cases y with
  | inl y =>
   refine ⟨0, _, _, _, hk, rfl, loop_ok px (fx := ⟨Try.func86, by kernel_rfl, by kernel_rfl⟩) entsOK_nil (lentsOK_cons ih (lentsOK_cons e_Z57_ok (lentsOK_cons e_Z58_ok (lentsOK_cons e_Z59_ok lentsOK_nil)))) (by kernel_rfl) ?_⟩
   exact hq
  | inr y =>
   refine ⟨1, _, _, _, hk, rfl, loop_ok px (fx := ⟨Try.func86, by kernel_rfl, by kernel_rfl⟩) entsOK_nil (lentsOK_cons ih (lentsOK_cons e_Z57_ok (lentsOK_cons e_Z58_ok (lentsOK_cons e_Z59_ok lentsOK_nil)))) (by kernel_rfl) ?_⟩
   exact hq
noncomputable def e_Z60 : Lent := m_Z60 (Z60)
theorem e_Z60_ok : (e_Z60).ok Try.prog (codeAt (bodyOf Try.f86) 3) := by
 intro R ds k r h
 unfold e_Z60 m_Z60 at h
 obtain ⟨x0, d0, rfl, h0⟩ := dI_some h
 obtain ⟨x1, d1, rfl, h1⟩ := dI_some h0
 obtain ⟨x2, d2, rfl, h2⟩ := dI_some h1
 obtain ⟨x3, d3, rfl, h3⟩ := dI_some h2
 obtain ⟨x4, d4, rfl, h4⟩ := dL_some h3
 obtain ⟨rfl, hE⟩ := dE_some h4
 obtain ⟨y, hy, hk⟩ := bnd_some hE
 obtain ⟨n, hn⟩ := ev_some hy
 exact m_Z60_ok n R _ k r (show (n_Z60 n x0 x1 x2 x3 x4).bind _ = _ by rw [hn]; exact hk)

/-!-/
def c_Z61 {R : Type} (x0 : List D) (x1 : Int) (x2 : Int) (k : Bool × List D → Option R) : Option R :=
 (Z60 x1 x2 (IntKind.i64.wrap (x1 + 1)) (0 : Int) x0).bind (Sum.elim (fun y0 =>
 k (y0.fst, y0.snd)) (fun y1 =>
 k (Bool.false, y1)))
theorem c_Z61_bind {R : Type} (x0 : List D) (x1 : Int) (x2 : Int) (k : Bool × List D → Option R) : c_Z61 x0 x1 x2 k = (c_Z61 x0 x1 x2 some).bind k := by
 unfold c_Z61
 repeat' first|exact bnd_tail|exact bnd_none|exact bnd_leaf|apply bnd_ite|apply bnd_cond|apply bnd_sum|(apply bnd_bind;intro _)|intro _
def Z61 (x0 : List D) (x1 : Int) (x2 : Int) : Option (Bool × List D) := c_Z61 x0 x1 x2 some
def e_Z61 : Ent := ⟨86, [.own (.int .i64), .int .i64, .int .i64], .bool, [.own (.int .i64), .undef, .undef], fun _ ds k => dL (fun x0 ds => dI (fun x1 ds => dI (fun x2 ds => dE ((Z61 x0 x1 x2).bind (fun y => k [.B y.1, .L y.2])) ds) ds) ds) ds⟩
theorem q_Z61 (x0 : List D) (x1 : Int) (x2 : Int) : runFn (ocOf []) (olOf [e_Z60]) A 86 Try.f86 (Sh.mks e_Z61.sh [.L x0, .I x1, .I x2]).1 (fun v os => some (v, os)) = c_Z61 x0 x1 x2 (fun y => some ((e_Z61.res.mk [.B y.1, .L y.2]).1, (Sh.mks e_Z61.outs (e_Z61.res.mk [.B y.1, .L y.2]).2).1)) := by kernel_rfl
theorem e_Z61_ok : e_Z61.ok Try.prog A := by
 intro R ds k r h
 unfold e_Z61 at h
 obtain ⟨x0, d0, rfl, h0⟩ := dL_some h
 obtain ⟨x1, d1, rfl, h1⟩ := dI_some h0
 obtain ⟨x2, d2, rfl, h2⟩ := dI_some h1
 obtain ⟨rfl, hE⟩ := dE_some h2
 obtain ⟨y, hy, hk⟩ := bnd_some hE
 refine ⟨_, hk, fn_ok px (fx := ⟨Try.func86, by kernel_rfl, by kernel_rfl⟩) entsOK_nil (lentsOK_cons e_Z60_ok lentsOK_nil) ?_⟩
 have hq := q_Z61 x0 x1 x2
 rw [c_Z61_bind] at hq
 rw [show c_Z61 x0 x1 x2 some = some y from hy] at hq
 exact hq

/-!-/
def c_Z62 {R : Type} (F : Int → Int → Int → List D → Option (Int × Int × Int × List D)) (x0 : Int) (x1 : Int) (x2 : Int) (x3 : List D) (k : Int × Int × Int × List D → Option R) : Option R :=
 bif decide (x1 ≤ x2) then
 if 0 ≤ x0 ∧ x0 < (↑x3.length : Int) then
 if x0.toNat + 1 ≤ x3.length then
 if 0 ≤ x1 ∧ x1 < (↑x3.length : Int) then
 if x1.toNat + 1 ≤ x3.length then
 (Z38 ((x3.getD x0.toNat (D.int 0)).toInt) ((x3.getD x1.toNat (D.int 0)).toInt)).bind (fun y0 =>
 bif !y0 then
 (F x0 (IntKind.i64.wrap (x1 + 1)) x2 x3).bind k
 else
 k (x0, x1, x2, x3))
 else
 none
 else
 none
 else
 none
 else
 none
 else
 k (x0, x1, x2, x3)
theorem c_Z62_bind {R : Type} (F : Int → Int → Int → List D → Option (Int × Int × Int × List D)) (x0 : Int) (x1 : Int) (x2 : Int) (x3 : List D) (k : Int × Int × Int × List D → Option R) : c_Z62 F x0 x1 x2 x3 k = (c_Z62 F x0 x1 x2 x3 some).bind k := by
 unfold c_Z62
 repeat' first|exact bnd_tail|exact bnd_none|exact bnd_leaf|apply bnd_ite|apply bnd_cond|apply bnd_sum|(apply bnd_bind;intro _)|intro _
def n_Z62 : Nat → Int → Int → Int → List D → Option (Int × Int × Int × List D)
 | 0, _, _, _, _ => none
 | n + 1, x0, x1, x2, x3 => c_Z62 (n_Z62 n) x0 x1 x2 x3 some
noncomputable def Z62 (x0 : Int) (x1 : Int) (x2 : Int) (x3 : List D) : Option (Int × Int × Int × List D) := ev (fun n => n_Z62 n x0 x1 x2 x3)
def m_Z62 (F : Int → Int → Int → List D → Option (Int × Int × Int × List D)) : Lent := ⟨3, ⟨(.full 1000 [] (.int .i64) :: .int .i64 :: uu 7 (.int .i64 :: .int .i64 :: uu 73 ([]))), [(1000, .own (.int .i64))]⟩, [(.exit 2, ⟨(.full 1000 [] (.int .i64) :: .int .i64 :: uu 7 (.int .i64 :: .int .i64 :: uu 73 ([]))), [(1000, .own (.int .i64))]⟩)], fun _ ds k => dI (fun x0 ds => dI (fun x1 ds => dI (fun x2 ds => dL (fun x3 ds => dE ((F x0 x1 x2 x3).bind (fun y => k 0 [.I y.1, .I y.2.1, .I y.2.2.1, .L y.2.2.2])) ds) ds) ds) ds) ds⟩
theorem q_Z62 (F : Int → Int → Int → List D → Option (Int × Int × Int × List D)) (x0 : Int) (x1 : Int) (x2 : Int) (x3 : List D) : runLoop (ocOf [e_Z38]) (olOf [m_Z62 F]) A 88 (codeAt (bodyOf Try.f88) 3) ((m_Z62 F).sh.mk' [.I x0, .I x1, .I x2, .L x3]) (fun e σ' => some (e, σ')) = c_Z62 F x0 x1 x2 x3 (fun y => some (.exit 2, SSt.mk' ⟨(.full 1000 [] (.int .i64) :: .int .i64 :: uu 7 (.int .i64 :: .int .i64 :: uu 73 ([]))), [(1000, .own (.int .i64))]⟩ [.I y.1, .I y.2.1, .I y.2.2.1, .L y.2.2.2])) := by kernel_rfl
theorem m_Z62_ok : ∀ n, (m_Z62 (n_Z62 n)).ok Try.prog (codeAt (bodyOf Try.f88) 3) := by
 intro n
 induction n with
 | zero =>
  intro R ds k r h
  unfold m_Z62 at h
  obtain ⟨x0, d0, rfl, h0⟩ := dI_some h
  obtain ⟨x1, d1, rfl, h1⟩ := dI_some h0
  obtain ⟨x2, d2, rfl, h2⟩ := dI_some h1
  obtain ⟨x3, d3, rfl, h3⟩ := dL_some h2
  obtain ⟨rfl, hE⟩ := dE_some h3
  obtain ⟨y, hy, hk⟩ := bnd_some hE
  cases hy
 | succ n ih =>
  intro R ds k r h
  unfold m_Z62 at h
  obtain ⟨x0, d0, rfl, h0⟩ := dI_some h
  obtain ⟨x1, d1, rfl, h1⟩ := dI_some h0
  obtain ⟨x2, d2, rfl, h2⟩ := dI_some h1
  obtain ⟨x3, d3, rfl, h3⟩ := dL_some h2
  obtain ⟨rfl, hE⟩ := dE_some h3
  obtain ⟨y, hy, hk⟩ := bnd_some hE
  have hq := q_Z62 (n_Z62 n) x0 x1 x2 x3
  rw [c_Z62_bind] at hq
  rw [show c_Z62 (n_Z62 n) x0 x1 x2 x3 some = some y from hy] at hq
  refine ⟨0, _, _, _, hk, rfl, loop_ok px (fx := ⟨Try.func88, by kernel_rfl, by kernel_rfl⟩) (entsOK_cons e_Z38_ok entsOK_nil) (lentsOK_cons ih lentsOK_nil) (by kernel_rfl) ?_⟩
  exact hq
noncomputable def e_Z62 : Lent := m_Z62 (Z62)
theorem e_Z62_ok : (e_Z62).ok Try.prog (codeAt (bodyOf Try.f88) 3) := by
 intro R ds k r h
 unfold e_Z62 m_Z62 at h
 obtain ⟨x0, d0, rfl, h0⟩ := dI_some h
 obtain ⟨x1, d1, rfl, h1⟩ := dI_some h0
 obtain ⟨x2, d2, rfl, h2⟩ := dI_some h1
 obtain ⟨x3, d3, rfl, h3⟩ := dL_some h2
 obtain ⟨rfl, hE⟩ := dE_some h3
 obtain ⟨y, hy, hk⟩ := bnd_some hE
 obtain ⟨n, hn⟩ := ev_some hy
 exact m_Z62_ok n R _ k r (show (n_Z62 n x0 x1 x2 x3).bind _ = _ by rw [hn]; exact hk)

/-!-/
def c_Z63 {R : Type} (F : Int → Int → Int → List D → Option (Int × Int × Int × List D)) (x0 : Int) (x1 : Int) (x2 : Int) (x3 : List D) (k : Int × Int × Int × List D → Option R) : Option R :=
 bif decide (x1 ≤ x2) then
 if 0 ≤ x0 ∧ x0 < (↑x3.length : Int) then
 if x0.toNat + 1 ≤ x3.length then
 if 0 ≤ x2 ∧ x2 < (↑x3.length : Int) then
 if x2.toNat + 1 ≤ x3.length then
 (Z38 ((x3.getD x0.toNat (D.int 0)).toInt) ((x3.getD x2.toNat (D.int 0)).toInt)).bind (fun y0 =>
 bif y0 then
 (F x0 x1 (IntKind.i64.wrap (x2 - 1)) x3).bind k
 else
 k (x0, x1, x2, x3))
 else
 none
 else
 none
 else
 none
 else
 none
 else
 k (x0, x1, x2, x3)
theorem c_Z63_bind {R : Type} (F : Int → Int → Int → List D → Option (Int × Int × Int × List D)) (x0 : Int) (x1 : Int) (x2 : Int) (x3 : List D) (k : Int × Int × Int × List D → Option R) : c_Z63 F x0 x1 x2 x3 k = (c_Z63 F x0 x1 x2 x3 some).bind k := by
 unfold c_Z63
 repeat' first|exact bnd_tail|exact bnd_none|exact bnd_leaf|apply bnd_ite|apply bnd_cond|apply bnd_sum|(apply bnd_bind;intro _)|intro _
def n_Z63 : Nat → Int → Int → Int → List D → Option (Int × Int × Int × List D)
 | 0, _, _, _, _ => none
 | n + 1, x0, x1, x2, x3 => c_Z63 (n_Z63 n) x0 x1 x2 x3 some
noncomputable def Z63 (x0 : Int) (x1 : Int) (x2 : Int) (x3 : List D) : Option (Int × Int × Int × List D) := ev (fun n => n_Z63 n x0 x1 x2 x3)
def m_Z63 (F : Int → Int → Int → List D → Option (Int × Int × Int × List D)) : Lent := ⟨5, ⟨(.full 1000 [] (.int .i64) :: .int .i64 :: uu 7 (.int .i64 :: .int .i64 :: uu 73 ([]))), [(1000, .own (.int .i64))]⟩, [(.exit 4, ⟨(.full 1000 [] (.int .i64) :: .int .i64 :: uu 7 (.int .i64 :: .int .i64 :: uu 73 ([]))), [(1000, .own (.int .i64))]⟩)], fun _ ds k => dI (fun x0 ds => dI (fun x1 ds => dI (fun x2 ds => dL (fun x3 ds => dE ((F x0 x1 x2 x3).bind (fun y => k 0 [.I y.1, .I y.2.1, .I y.2.2.1, .L y.2.2.2])) ds) ds) ds) ds) ds⟩
theorem q_Z63 (F : Int → Int → Int → List D → Option (Int × Int × Int × List D)) (x0 : Int) (x1 : Int) (x2 : Int) (x3 : List D) : runLoop (ocOf [e_Z38]) (olOf [m_Z63 F]) A 88 (codeAt (bodyOf Try.f88) 5) ((m_Z63 F).sh.mk' [.I x0, .I x1, .I x2, .L x3]) (fun e σ' => some (e, σ')) = c_Z63 F x0 x1 x2 x3 (fun y => some (.exit 4, SSt.mk' ⟨(.full 1000 [] (.int .i64) :: .int .i64 :: uu 7 (.int .i64 :: .int .i64 :: uu 73 ([]))), [(1000, .own (.int .i64))]⟩ [.I y.1, .I y.2.1, .I y.2.2.1, .L y.2.2.2])) := by kernel_rfl
theorem m_Z63_ok : ∀ n, (m_Z63 (n_Z63 n)).ok Try.prog (codeAt (bodyOf Try.f88) 5) := by
 intro n
 induction n with
 | zero =>
  intro R ds k r h
  unfold m_Z63 at h
  obtain ⟨x0, d0, rfl, h0⟩ := dI_some h
  obtain ⟨x1, d1, rfl, h1⟩ := dI_some h0
  obtain ⟨x2, d2, rfl, h2⟩ := dI_some h1
  obtain ⟨x3, d3, rfl, h3⟩ := dL_some h2
  obtain ⟨rfl, hE⟩ := dE_some h3
  obtain ⟨y, hy, hk⟩ := bnd_some hE
  cases hy
 | succ n ih =>
  intro R ds k r h
  unfold m_Z63 at h
  obtain ⟨x0, d0, rfl, h0⟩ := dI_some h
  obtain ⟨x1, d1, rfl, h1⟩ := dI_some h0
  obtain ⟨x2, d2, rfl, h2⟩ := dI_some h1
  obtain ⟨x3, d3, rfl, h3⟩ := dL_some h2
  obtain ⟨rfl, hE⟩ := dE_some h3
  obtain ⟨y, hy, hk⟩ := bnd_some hE
  have hq := q_Z63 (n_Z63 n) x0 x1 x2 x3
  rw [c_Z63_bind] at hq
  rw [show c_Z63 (n_Z63 n) x0 x1 x2 x3 some = some y from hy] at hq
  refine ⟨0, _, _, _, hk, rfl, loop_ok px (fx := ⟨Try.func88, by kernel_rfl, by kernel_rfl⟩) (entsOK_cons e_Z38_ok entsOK_nil) (lentsOK_cons ih lentsOK_nil) (by kernel_rfl) ?_⟩
  exact hq
noncomputable def e_Z63 : Lent := m_Z63 (Z63)
theorem e_Z63_ok : (e_Z63).ok Try.prog (codeAt (bodyOf Try.f88) 5) := by
 intro R ds k r h
 unfold e_Z63 m_Z63 at h
 obtain ⟨x0, d0, rfl, h0⟩ := dI_some h
 obtain ⟨x1, d1, rfl, h1⟩ := dI_some h0
 obtain ⟨x2, d2, rfl, h2⟩ := dI_some h1
 obtain ⟨x3, d3, rfl, h3⟩ := dL_some h2
 obtain ⟨rfl, hE⟩ := dE_some h3
 obtain ⟨y, hy, hk⟩ := bnd_some hE
 obtain ⟨n, hn⟩ := ev_some hy
 exact m_Z63_ok n R _ k r (show (n_Z63 n x0 x1 x2 x3).bind _ = _ by rw [hn]; exact hk)

/-!-/
def c_Z64 {R : Type} (F : Int → Int → Int → List D → Option (Int × List D)) (x0 : Int) (x1 : Int) (x2 : Int) (x3 : List D) (k : Int × List D → Option R) : Option R :=
 (Z62 x0 x1 x2 x3).bind (fun y0 =>
 (Z63 y0.fst y0.snd.fst y0.snd.snd.fst y0.snd.snd.snd).bind (fun y1 =>
 bif decide (y1.snd.snd.fst < y1.snd.fst) then
 k (y1.snd.fst, y1.snd.snd.snd)
 else
 if 0 ≤ y1.snd.snd.fst ∧ y1.snd.snd.fst < (↑y1.snd.snd.snd.length : Int) then
 if y1.snd.snd.fst.toNat + 1 ≤ y1.snd.snd.snd.length then
 if 0 ≤ y1.snd.fst ∧ y1.snd.fst < (↑y1.snd.snd.snd.length : Int) then
 if y1.snd.fst.toNat + 1 ≤ y1.snd.snd.snd.length then
 if 0 ≤ y1.snd.fst ∧ y1.snd.fst < (↑y1.snd.snd.snd.length : Int) then
 if y1.snd.fst.toNat + 1 ≤ y1.snd.snd.snd.length then
 if 0 ≤ y1.snd.snd.fst ∧ y1.snd.snd.fst < (↑(y1.snd.snd.snd.set y1.snd.fst.toNat (D.int (y1.snd.snd.snd.getD y1.snd.snd.fst.toNat (D.int 0)).toInt)).length : Int) then
 if y1.snd.snd.fst.toNat + 1 ≤ (y1.snd.snd.snd.set y1.snd.fst.toNat (D.int (y1.snd.snd.snd.getD y1.snd.snd.fst.toNat (D.int 0)).toInt)).length then
 (F y1.fst (IntKind.i64.wrap (y1.snd.fst + 1)) (IntKind.i64.wrap (y1.snd.snd.fst - 1)) ((y1.snd.snd.snd.set y1.snd.fst.toNat (D.int (y1.snd.snd.snd.getD y1.snd.snd.fst.toNat (D.int 0)).toInt)).set y1.snd.snd.fst.toNat (D.int (y1.snd.snd.snd.getD y1.snd.fst.toNat (D.int 0)).toInt))).bind k
 else
 none
 else
 none
 else
 none
 else
 none
 else
 none
 else
 none
 else
 none
 else
 none))
theorem c_Z64_bind {R : Type} (F : Int → Int → Int → List D → Option (Int × List D)) (x0 : Int) (x1 : Int) (x2 : Int) (x3 : List D) (k : Int × List D → Option R) : c_Z64 F x0 x1 x2 x3 k = (c_Z64 F x0 x1 x2 x3 some).bind k := by
 unfold c_Z64
 repeat' first|exact bnd_tail|exact bnd_none|exact bnd_leaf|apply bnd_ite|apply bnd_cond|apply bnd_sum|(apply bnd_bind;intro _)|intro _
def n_Z64 : Nat → Int → Int → Int → List D → Option (Int × List D)
 | 0, _, _, _, _ => none
 | n + 1, x0, x1, x2, x3 => c_Z64 (n_Z64 n) x0 x1 x2 x3 some
noncomputable def Z64 (x0 : Int) (x1 : Int) (x2 : Int) (x3 : List D) : Option (Int × List D) := ev (fun n => n_Z64 n x0 x1 x2 x3)
def m_Z64 (F : Int → Int → Int → List D → Option (Int × List D)) : Lent := ⟨100003, ⟨(.full 1000 [] (.int .i64) :: .int .i64 :: uu 7 (.int .i64 :: .int .i64 :: uu 73 ([]))), [(1000, .own (.int .i64))]⟩, [(.exit 0, ⟨(.full 1000 [] (.int .i64) :: uu 8 (.int .i64 :: uu 74 ([]))), [(1000, .own (.int .i64))]⟩)], fun _ ds k => dI (fun x0 ds => dI (fun x1 ds => dI (fun x2 ds => dL (fun x3 ds => dE ((F x0 x1 x2 x3).bind (fun y => k 0 [.I y.1, .L y.2])) ds) ds) ds) ds) ds⟩
theorem q_Z64 (F : Int → Int → Int → List D → Option (Int × List D)) (x0 : Int) (x1 : Int) (x2 : Int) (x3 : List D) : runLoop (ocOf []) (olOf [m_Z64 F, e_Z62, e_Z63]) A 88 (codeAt (bodyOf Try.f88) 100003) ((m_Z64 F).sh.mk' [.I x0, .I x1, .I x2, .L x3]) (fun e σ' => some (e, σ')) = c_Z64 F x0 x1 x2 x3 (fun y => some (.exit 0, SSt.mk' ⟨(.full 1000 [] (.int .i64) :: uu 8 (.int .i64 :: uu 74 ([]))), [(1000, .own (.int .i64))]⟩ [.I y.1, .L y.2])) := by kernel_rfl
theorem m_Z64_ok : ∀ n, (m_Z64 (n_Z64 n)).ok Try.prog (codeAt (bodyOf Try.f88) 100003) := by
 intro n
 induction n with
 | zero =>
  intro R ds k r h
  unfold m_Z64 at h
  obtain ⟨x0, d0, rfl, h0⟩ := dI_some h
  obtain ⟨x1, d1, rfl, h1⟩ := dI_some h0
  obtain ⟨x2, d2, rfl, h2⟩ := dI_some h1
  obtain ⟨x3, d3, rfl, h3⟩ := dL_some h2
  obtain ⟨rfl, hE⟩ := dE_some h3
  obtain ⟨y, hy, hk⟩ := bnd_some hE
  cases hy
 | succ n ih =>
  intro R ds k r h
  unfold m_Z64 at h
  obtain ⟨x0, d0, rfl, h0⟩ := dI_some h
  obtain ⟨x1, d1, rfl, h1⟩ := dI_some h0
  obtain ⟨x2, d2, rfl, h2⟩ := dI_some h1
  obtain ⟨x3, d3, rfl, h3⟩ := dL_some h2
  obtain ⟨rfl, hE⟩ := dE_some h3
  obtain ⟨y, hy, hk⟩ := bnd_some hE
  have hq := q_Z64 (n_Z64 n) x0 x1 x2 x3
  rw [c_Z64_bind] at hq
  rw [show c_Z64 (n_Z64 n) x0 x1 x2 x3 some = some y from hy] at hq
  refine ⟨0, _, _, _, hk, rfl, loop_ok px (fx := ⟨Try.func88, by kernel_rfl, by kernel_rfl⟩) entsOK_nil (lentsOK_cons ih (lentsOK_cons e_Z62_ok (lentsOK_cons e_Z63_ok lentsOK_nil))) (by kernel_rfl) ?_⟩
  exact hq
noncomputable def e_Z64 : Lent := m_Z64 (Z64)
theorem e_Z64_ok : (e_Z64).ok Try.prog (codeAt (bodyOf Try.f88) 100003) := by
 intro R ds k r h
 unfold e_Z64 m_Z64 at h
 obtain ⟨x0, d0, rfl, h0⟩ := dI_some h
 obtain ⟨x1, d1, rfl, h1⟩ := dI_some h0
 obtain ⟨x2, d2, rfl, h2⟩ := dI_some h1
 obtain ⟨x3, d3, rfl, h3⟩ := dL_some h2
 obtain ⟨rfl, hE⟩ := dE_some h3
 obtain ⟨y, hy, hk⟩ := bnd_some hE
 obtain ⟨n, hn⟩ := ev_some hy
 exact m_Z64_ok n R _ k r (show (n_Z64 n x0 x1 x2 x3).bind _ = _ by rw [hn]; exact hk)

/-!-/
def c_Z65 {R : Type} (x0 : List D) (x1 : Int) (x2 : Int) (x3 : Int) (k : Int × List D → Option R) : Option R :=
 if 0 ≤ x3 ∧ x3 < (↑x0.length : Int) then
 if x3.toNat + 1 ≤ x0.length then
 if 0 ≤ x1 ∧ x1 < (↑x0.length : Int) then
 if x1.toNat + 1 ≤ x0.length then
 if 0 ≤ x1 ∧ x1 < (↑x0.length : Int) then
 if x1.toNat + 1 ≤ x0.length then
 if 0 ≤ x3 ∧ x3 < (↑(x0.set x1.toNat (D.int (x0.getD x3.toNat (D.int 0)).toInt)).length : Int) then
 if x3.toNat + 1 ≤ (x0.set x1.toNat (D.int (x0.getD x3.toNat (D.int 0)).toInt)).length then
 (Z64 x1 (IntKind.i64.wrap (x1 + 1)) (IntKind.i64.wrap (x2 - 1)) ((x0.set x1.toNat (D.int (x0.getD x3.toNat (D.int 0)).toInt)).set x3.toNat (D.int (x0.getD x1.toNat (D.int 0)).toInt))).bind (fun y0 =>
 k (y0.fst, y0.snd))
 else
 none
 else
 none
 else
 none
 else
 none
 else
 none
 else
 none
 else
 none
 else
 none
theorem c_Z65_bind {R : Type} (x0 : List D) (x1 : Int) (x2 : Int) (x3 : Int) (k : Int × List D → Option R) : c_Z65 x0 x1 x2 x3 k = (c_Z65 x0 x1 x2 x3 some).bind k := by
 unfold c_Z65
 repeat' first|exact bnd_tail|exact bnd_none|exact bnd_leaf|apply bnd_ite|apply bnd_cond|apply bnd_sum|(apply bnd_bind;intro _)|intro _
def Z65 (x0 : List D) (x1 : Int) (x2 : Int) (x3 : Int) : Option (Int × List D) := c_Z65 x0 x1 x2 x3 some
def e_Z65 : Ent := ⟨88, [.own (.int .i64), .int .i64, .int .i64, .int .i64], .int .i64, [.own (.int .i64), .undef, .undef, .undef], fun _ ds k => dL (fun x0 ds => dI (fun x1 ds => dI (fun x2 ds => dI (fun x3 ds => dE ((Z65 x0 x1 x2 x3).bind (fun y => k [.I y.1, .L y.2])) ds) ds) ds) ds) ds⟩
theorem q_Z65 (x0 : List D) (x1 : Int) (x2 : Int) (x3 : Int) : runFn (ocOf []) (olOf [e_Z64]) A 88 Try.f88 (Sh.mks e_Z65.sh [.L x0, .I x1, .I x2, .I x3]).1 (fun v os => some (v, os)) = c_Z65 x0 x1 x2 x3 (fun y => some ((e_Z65.res.mk [.I y.1, .L y.2]).1, (Sh.mks e_Z65.outs (e_Z65.res.mk [.I y.1, .L y.2]).2).1)) := by kernel_rfl
theorem e_Z65_ok : e_Z65.ok Try.prog A := by
 intro R ds k r h
 unfold e_Z65 at h
 obtain ⟨x0, d0, rfl, h0⟩ := dL_some h
 obtain ⟨x1, d1, rfl, h1⟩ := dI_some h0
 obtain ⟨x2, d2, rfl, h2⟩ := dI_some h1
 obtain ⟨x3, d3, rfl, h3⟩ := dI_some h2
 obtain ⟨rfl, hE⟩ := dE_some h3
 obtain ⟨y, hy, hk⟩ := bnd_some hE
 refine ⟨_, hk, fn_ok px (fx := ⟨Try.func88, by kernel_rfl, by kernel_rfl⟩) entsOK_nil (lentsOK_cons e_Z64_ok lentsOK_nil) ?_⟩
 have hq := q_Z65 x0 x1 x2 x3
 rw [c_Z65_bind] at hq
 rw [show c_Z65 x0 x1 x2 x3 some = some y from hy] at hq
 exact hq

/-!-/
def c_Z66 {R : Type} (F : Int → Int → Int → List D → Option (Int × Int × Int × List D)) (x0 : Int) (x1 : Int) (x2 : Int) (x3 : List D) (k : Int × Int × Int × List D → Option R) : Option R :=
 bif decide (x1 ≤ x2) then
 if 0 ≤ x1 ∧ x1 < (↑x3.length : Int) then
 if x1.toNat + 1 ≤ x3.length then
 if 0 ≤ x0 ∧ x0 < (↑x3.length : Int) then
 if x0.toNat + 1 ≤ x3.length then
 (Z38 ((x3.getD x1.toNat (D.int 0)).toInt) ((x3.getD x0.toNat (D.int 0)).toInt)).bind (fun y0 =>
 bif y0 then
 (F x0 (IntKind.i64.wrap (x1 + 1)) x2 x3).bind k
 else
 k (x0, x1, x2, x3))
 else
 none
 else
 none
 else
 none
 else
 none
 else
 k (x0, x1, x2, x3)
theorem c_Z66_bind {R : Type} (F : Int → Int → Int → List D → Option (Int × Int × Int × List D)) (x0 : Int) (x1 : Int) (x2 : Int) (x3 : List D) (k : Int × Int × Int × List D → Option R) : c_Z66 F x0 x1 x2 x3 k = (c_Z66 F x0 x1 x2 x3 some).bind k := by
 unfold c_Z66
 repeat' first|exact bnd_tail|exact bnd_none|exact bnd_leaf|apply bnd_ite|apply bnd_cond|apply bnd_sum|(apply bnd_bind;intro _)|intro _
def n_Z66 : Nat → Int → Int → Int → List D → Option (Int × Int × Int × List D)
 | 0, _, _, _, _ => none
 | n + 1, x0, x1, x2, x3 => c_Z66 (n_Z66 n) x0 x1 x2 x3 some
noncomputable def Z66 (x0 : Int) (x1 : Int) (x2 : Int) (x3 : List D) : Option (Int × Int × Int × List D) := ev (fun n => n_Z66 n x0 x1 x2 x3)
def m_Z66 (F : Int → Int → Int → List D → Option (Int × Int × Int × List D)) : Lent := ⟨3, ⟨(.full 1000 [] (.int .i64) :: .int .i64 :: uu 8 (.int .i64 :: .int .i64 :: uu 156 ([]))), [(1000, .own (.int .i64))]⟩, [(.exit 0, ⟨(.full 1000 [] (.int .i64) :: .int .i64 :: uu 8 (.int .i64 :: .int .i64 :: uu 156 ([]))), [(1000, .own (.int .i64))]⟩)], fun _ ds k => dI (fun x0 ds => dI (fun x1 ds => dI (fun x2 ds => dL (fun x3 ds => dE ((F x0 x1 x2 x3).bind (fun y => k 0 [.I y.1, .I y.2.1, .I y.2.2.1, .L y.2.2.2])) ds) ds) ds) ds) ds⟩
theorem q_Z66 (F : Int → Int → Int → List D → Option (Int × Int × Int × List D)) (x0 : Int) (x1 : Int) (x2 : Int) (x3 : List D) : runLoop (ocOf [e_Z38]) (olOf [m_Z66 F]) A 89 (codeAt (bodyOf Try.f89) 3) ((m_Z66 F).sh.mk' [.I x0, .I x1, .I x2, .L x3]) (fun e σ' => some (e, σ')) = c_Z66 F x0 x1 x2 x3 (fun y => some (.exit 0, SSt.mk' ⟨(.full 1000 [] (.int .i64) :: .int .i64 :: uu 8 (.int .i64 :: .int .i64 :: uu 156 ([]))), [(1000, .own (.int .i64))]⟩ [.I y.1, .I y.2.1, .I y.2.2.1, .L y.2.2.2])) := by kernel_rfl
theorem m_Z66_ok : ∀ n, (m_Z66 (n_Z66 n)).ok Try.prog (codeAt (bodyOf Try.f89) 3) := by
 intro n
 induction n with
 | zero =>
  intro R ds k r h
  unfold m_Z66 at h
  obtain ⟨x0, d0, rfl, h0⟩ := dI_some h
  obtain ⟨x1, d1, rfl, h1⟩ := dI_some h0
  obtain ⟨x2, d2, rfl, h2⟩ := dI_some h1
  obtain ⟨x3, d3, rfl, h3⟩ := dL_some h2
  obtain ⟨rfl, hE⟩ := dE_some h3
  obtain ⟨y, hy, hk⟩ := bnd_some hE
  cases hy
 | succ n ih =>
  intro R ds k r h
  unfold m_Z66 at h
  obtain ⟨x0, d0, rfl, h0⟩ := dI_some h
  obtain ⟨x1, d1, rfl, h1⟩ := dI_some h0
  obtain ⟨x2, d2, rfl, h2⟩ := dI_some h1
  obtain ⟨x3, d3, rfl, h3⟩ := dL_some h2
  obtain ⟨rfl, hE⟩ := dE_some h3
  obtain ⟨y, hy, hk⟩ := bnd_some hE
  have hq := q_Z66 (n_Z66 n) x0 x1 x2 x3
  rw [c_Z66_bind] at hq
  rw [show c_Z66 (n_Z66 n) x0 x1 x2 x3 some = some y from hy] at hq
  refine ⟨0, _, _, _, hk, rfl, loop_ok px (fx := ⟨Try.func89, by kernel_rfl, by kernel_rfl⟩) (entsOK_cons e_Z38_ok entsOK_nil) (lentsOK_cons ih lentsOK_nil) (by kernel_rfl) ?_⟩
  exact hq
noncomputable def e_Z66 : Lent := m_Z66 (Z66)
theorem e_Z66_ok : (e_Z66).ok Try.prog (codeAt (bodyOf Try.f89) 3) := by
 intro R ds k r h
 unfold e_Z66 m_Z66 at h
 obtain ⟨x0, d0, rfl, h0⟩ := dI_some h
 obtain ⟨x1, d1, rfl, h1⟩ := dI_some h0
 obtain ⟨x2, d2, rfl, h2⟩ := dI_some h1
 obtain ⟨x3, d3, rfl, h3⟩ := dL_some h2
 obtain ⟨rfl, hE⟩ := dE_some h3
 obtain ⟨y, hy, hk⟩ := bnd_some hE
 obtain ⟨n, hn⟩ := ev_some hy
 exact m_Z66_ok n R _ k r (show (n_Z66 n x0 x1 x2 x3).bind _ = _ by rw [hn]; exact hk)

/-!-/
def c_Z67 {R : Type} (F : Int → Int → Int → List D → Option (Int × Int × Int × List D)) (x0 : Int) (x1 : Int) (x2 : Int) (x3 : List D) (k : Int × Int × Int × List D → Option R) : Option R :=
 bif decide (x1 ≤ x2) then
 if 0 ≤ x2 ∧ x2 < (↑x3.length : Int) then
 if x2.toNat + 1 ≤ x3.length then
 if 0 ≤ x0 ∧ x0 < (↑x3.length : Int) then
 if x0.toNat + 1 ≤ x3.length then
 (Z38 ((x3.getD x2.toNat (D.int 0)).toInt) ((x3.getD x0.toNat (D.int 0)).toInt)).bind (fun y0 =>
 bif !y0 then
 (F x0 x1 (IntKind.i64.wrap (x2 - 1)) x3).bind k
 else
 k (x0, x1, x2, x3))
 else
 none
 else
 none
 else
 none
 else
 none
 else
 k (x0, x1, x2, x3)
theorem c_Z67_bind {R : Type} (F : Int → Int → Int → List D → Option (Int × Int × Int × List D)) (x0 : Int) (x1 : Int) (x2 : Int) (x3 : List D) (k : Int × Int × Int × List D → Option R) : c_Z67 F x0 x1 x2 x3 k = (c_Z67 F x0 x1 x2 x3 some).bind k := by
 unfold c_Z67
 repeat' first|exact bnd_tail|exact bnd_none|exact bnd_leaf|apply bnd_ite|apply bnd_cond|apply bnd_sum|(apply bnd_bind;intro _)|intro _
def n_Z67 : Nat → Int → Int → Int → List D → Option (Int × Int × Int × List D)
 | 0, _, _, _, _ => none
 | n + 1, x0, x1, x2, x3 => c_Z67 (n_Z67 n) x0 x1 x2 x3 some
noncomputable def Z67 (x0 : Int) (x1 : Int) (x2 : Int) (x3 : List D) : Option (Int × Int × Int × List D) := ev (fun n => n_Z67 n x0 x1 x2 x3)
def m_Z67 (F : Int → Int → Int → List D → Option (Int × Int × Int × List D)) : Lent := ⟨5, ⟨(.full 1000 [] (.int .i64) :: .int .i64 :: uu 8 (.int .i64 :: .int .i64 :: uu 156 ([]))), [(1000, .own (.int .i64))]⟩, [(.exit 2, ⟨(.full 1000 [] (.int .i64) :: .int .i64 :: uu 8 (.int .i64 :: .int .i64 :: uu 156 ([]))), [(1000, .own (.int .i64))]⟩)], fun _ ds k => dI (fun x0 ds => dI (fun x1 ds => dI (fun x2 ds => dL (fun x3 ds => dE ((F x0 x1 x2 x3).bind (fun y => k 0 [.I y.1, .I y.2.1, .I y.2.2.1, .L y.2.2.2])) ds) ds) ds) ds) ds⟩
theorem q_Z67 (F : Int → Int → Int → List D → Option (Int × Int × Int × List D)) (x0 : Int) (x1 : Int) (x2 : Int) (x3 : List D) : runLoop (ocOf [e_Z38]) (olOf [m_Z67 F]) A 89 (codeAt (bodyOf Try.f89) 5) ((m_Z67 F).sh.mk' [.I x0, .I x1, .I x2, .L x3]) (fun e σ' => some (e, σ')) = c_Z67 F x0 x1 x2 x3 (fun y => some (.exit 2, SSt.mk' ⟨(.full 1000 [] (.int .i64) :: .int .i64 :: uu 8 (.int .i64 :: .int .i64 :: uu 156 ([]))), [(1000, .own (.int .i64))]⟩ [.I y.1, .I y.2.1, .I y.2.2.1, .L y.2.2.2])) := by kernel_rfl
theorem m_Z67_ok : ∀ n, (m_Z67 (n_Z67 n)).ok Try.prog (codeAt (bodyOf Try.f89) 5) := by
 intro n
 induction n with
 | zero =>
  intro R ds k r h
  unfold m_Z67 at h
  obtain ⟨x0, d0, rfl, h0⟩ := dI_some h
  obtain ⟨x1, d1, rfl, h1⟩ := dI_some h0
  obtain ⟨x2, d2, rfl, h2⟩ := dI_some h1
  obtain ⟨x3, d3, rfl, h3⟩ := dL_some h2
  obtain ⟨rfl, hE⟩ := dE_some h3
  obtain ⟨y, hy, hk⟩ := bnd_some hE
  cases hy
 | succ n ih =>
  intro R ds k r h
  unfold m_Z67 at h
  obtain ⟨x0, d0, rfl, h0⟩ := dI_some h
  obtain ⟨x1, d1, rfl, h1⟩ := dI_some h0
  obtain ⟨x2, d2, rfl, h2⟩ := dI_some h1
  obtain ⟨x3, d3, rfl, h3⟩ := dL_some h2
  obtain ⟨rfl, hE⟩ := dE_some h3
  obtain ⟨y, hy, hk⟩ := bnd_some hE
  have hq := q_Z67 (n_Z67 n) x0 x1 x2 x3
  rw [c_Z67_bind] at hq
  rw [show c_Z67 (n_Z67 n) x0 x1 x2 x3 some = some y from hy] at hq
  refine ⟨0, _, _, _, hk, rfl, loop_ok px (fx := ⟨Try.func89, by kernel_rfl, by kernel_rfl⟩) (entsOK_cons e_Z38_ok entsOK_nil) (lentsOK_cons ih lentsOK_nil) (by kernel_rfl) ?_⟩
  exact hq
noncomputable def e_Z67 : Lent := m_Z67 (Z67)
theorem e_Z67_ok : (e_Z67).ok Try.prog (codeAt (bodyOf Try.f89) 5) := by
 intro R ds k r h
 unfold e_Z67 m_Z67 at h
 obtain ⟨x0, d0, rfl, h0⟩ := dI_some h
 obtain ⟨x1, d1, rfl, h1⟩ := dI_some h0
 obtain ⟨x2, d2, rfl, h2⟩ := dI_some h1
 obtain ⟨x3, d3, rfl, h3⟩ := dL_some h2
 obtain ⟨rfl, hE⟩ := dE_some h3
 obtain ⟨y, hy, hk⟩ := bnd_some hE
 obtain ⟨n, hn⟩ := ev_some hy
 exact m_Z67_ok n R _ k r (show (n_Z67 n x0 x1 x2 x3).bind _ = _ by rw [hn]; exact hk)

/-!-/
def c_Z68 {R : Type} (F : Int → Int → Int → List D → Option (Int × Int × Int × List D)) (x0 : Int) (x1 : Int) (x2 : Int) (x3 : List D) (k : Int × Int × Int × List D → Option R) : Option R :=
 bif decide (x1 ≤ x2) then
 if 0 ≤ x1 ∧ x1 < (↑x3.length : Int) then
 if x1.toNat + 1 ≤ x3.length then
 if 0 ≤ x0 ∧ x0 < (↑x3.length : Int) then
 if x0.toNat + 1 ≤ x3.length then
 (Z38 ((x3.getD x1.toNat (D.int 0)).toInt) ((x3.getD x0.toNat (D.int 0)).toInt)).bind (fun y0 =>
 bif y0 then
 (F x0 (IntKind.i64.wrap (x1 + 1)) x2 x3).bind k
 else
 k (x0, x1, x2, x3))
 else
 none
 else
 none
 else
 none
 else
 none
 else
 k (x0, x1, x2, x3)
theorem c_Z68_bind {R : Type} (F : Int → Int → Int → List D → Option (Int × Int × Int × List D)) (x0 : Int) (x1 : Int) (x2 : Int) (x3 : List D) (k : Int × Int × Int × List D → Option R) : c_Z68 F x0 x1 x2 x3 k = (c_Z68 F x0 x1 x2 x3 some).bind k := by
 unfold c_Z68
 repeat' first|exact bnd_tail|exact bnd_none|exact bnd_leaf|apply bnd_ite|apply bnd_cond|apply bnd_sum|(apply bnd_bind;intro _)|intro _
def n_Z68 : Nat → Int → Int → Int → List D → Option (Int × Int × Int × List D)
 | 0, _, _, _, _ => none
 | n + 1, x0, x1, x2, x3 => c_Z68 (n_Z68 n) x0 x1 x2 x3 some
noncomputable def Z68 (x0 : Int) (x1 : Int) (x2 : Int) (x3 : List D) : Option (Int × Int × Int × List D) := ev (fun n => n_Z68 n x0 x1 x2 x3)
def m_Z68 (F : Int → Int → Int → List D → Option (Int × Int × Int × List D)) : Lent := ⟨13, ⟨(.full 1000 [] (.int .i64) :: .int .i64 :: uu 8 (.int .i64 :: .int .i64 :: uu 156 ([]))), [(1000, .own (.int .i64))]⟩, [(.exit 6, ⟨(.full 1000 [] (.int .i64) :: .int .i64 :: uu 8 (.int .i64 :: .int .i64 :: uu 156 ([]))), [(1000, .own (.int .i64))]⟩)], fun _ ds k => dI (fun x0 ds => dI (fun x1 ds => dI (fun x2 ds => dL (fun x3 ds => dE ((F x0 x1 x2 x3).bind (fun y => k 0 [.I y.1, .I y.2.1, .I y.2.2.1, .L y.2.2.2])) ds) ds) ds) ds) ds⟩
theorem q_Z68 (F : Int → Int → Int → List D → Option (Int × Int × Int × List D)) (x0 : Int) (x1 : Int) (x2 : Int) (x3 : List D) : runLoop (ocOf [e_Z38]) (olOf [m_Z68 F]) A 89 (codeAt (bodyOf Try.f89) 13) ((m_Z68 F).sh.mk' [.I x0, .I x1, .I x2, .L x3]) (fun e σ' => some (e, σ')) = c_Z68 F x0 x1 x2 x3 (fun y => some (.exit 6, SSt.mk' ⟨(.full 1000 [] (.int .i64) :: .int .i64 :: uu 8 (.int .i64 :: .int .i64 :: uu 156 ([]))), [(1000, .own (.int .i64))]⟩ [.I y.1, .I y.2.1, .I y.2.2.1, .L y.2.2.2])) := by kernel_rfl
theorem m_Z68_ok : ∀ n, (m_Z68 (n_Z68 n)).ok Try.prog (codeAt (bodyOf Try.f89) 13) := by
 intro n
 induction n with
 | zero =>
  intro R ds k r h
  unfold m_Z68 at h
  obtain ⟨x0, d0, rfl, h0⟩ := dI_some h
  obtain ⟨x1, d1, rfl, h1⟩ := dI_some h0
  obtain ⟨x2, d2, rfl, h2⟩ := dI_some h1
  obtain ⟨x3, d3, rfl, h3⟩ := dL_some h2
  obtain ⟨rfl, hE⟩ := dE_some h3
  obtain ⟨y, hy, hk⟩ := bnd_some hE
  cases hy
 | succ n ih =>
  intro R ds k r h
  unfold m_Z68 at h
  obtain ⟨x0, d0, rfl, h0⟩ := dI_some h
  obtain ⟨x1, d1, rfl, h1⟩ := dI_some h0
  obtain ⟨x2, d2, rfl, h2⟩ := dI_some h1
  obtain ⟨x3, d3, rfl, h3⟩ := dL_some h2
  obtain ⟨rfl, hE⟩ := dE_some h3
  obtain ⟨y, hy, hk⟩ := bnd_some hE
  have hq := q_Z68 (n_Z68 n) x0 x1 x2 x3
  rw [c_Z68_bind] at hq
  rw [show c_Z68 (n_Z68 n) x0 x1 x2 x3 some = some y from hy] at hq
  refine ⟨0, _, _, _, hk, rfl, loop_ok px (fx := ⟨Try.func89, by kernel_rfl, by kernel_rfl⟩) (entsOK_cons e_Z38_ok entsOK_nil) (lentsOK_cons ih lentsOK_nil) (by kernel_rfl) ?_⟩
  exact hq
noncomputable def e_Z68 : Lent := m_Z68 (Z68)
theorem e_Z68_ok : (e_Z68).ok Try.prog (codeAt (bodyOf Try.f89) 13) := by
 intro R ds k r h
 unfold e_Z68 m_Z68 at h
 obtain ⟨x0, d0, rfl, h0⟩ := dI_some h
 obtain ⟨x1, d1, rfl, h1⟩ := dI_some h0
 obtain ⟨x2, d2, rfl, h2⟩ := dI_some h1
 obtain ⟨x3, d3, rfl, h3⟩ := dL_some h2
 obtain ⟨rfl, hE⟩ := dE_some h3
 obtain ⟨y, hy, hk⟩ := bnd_some hE
 obtain ⟨n, hn⟩ := ev_some hy
 exact m_Z68_ok n R _ k r (show (n_Z68 n x0 x1 x2 x3).bind _ = _ by rw [hn]; exact hk)

/-!-/
def c_Z69 {R : Type} (F : Int → Int → Int → List D → Option (Int × Int × Int × List D)) (x0 : Int) (x1 : Int) (x2 : Int) (x3 : List D) (k : Int × Int × Int × List D → Option R) : Option R :=
 bif decide (x1 ≤ x2) then
 if 0 ≤ x2 ∧ x2 < (↑x3.length : Int) then
 if x2.toNat + 1 ≤ x3.length then
 if 0 ≤ x0 ∧ x0 < (↑x3.length : Int) then
 if x0.toNat + 1 ≤ x3.length then
 (Z38 ((x3.getD x2.toNat (D.int 0)).toInt) ((x3.getD x0.toNat (D.int 0)).toInt)).bind (fun y0 =>
 bif !y0 then
 (F x0 x1 (IntKind.i64.wrap (x2 - 1)) x3).bind k
 else
 k (x0, x1, x2, x3))
 else
 none
 else
 none
 else
 none
 else
 none
 else
 k (x0, x1, x2, x3)
theorem c_Z69_bind {R : Type} (F : Int → Int → Int → List D → Option (Int × Int × Int × List D)) (x0 : Int) (x1 : Int) (x2 : Int) (x3 : List D) (k : Int × Int × Int × List D → Option R) : c_Z69 F x0 x1 x2 x3 k = (c_Z69 F x0 x1 x2 x3 some).bind k := by
 unfold c_Z69
 repeat' first|exact bnd_tail|exact bnd_none|exact bnd_leaf|apply bnd_ite|apply bnd_cond|apply bnd_sum|(apply bnd_bind;intro _)|intro _
def n_Z69 : Nat → Int → Int → Int → List D → Option (Int × Int × Int × List D)
 | 0, _, _, _, _ => none
 | n + 1, x0, x1, x2, x3 => c_Z69 (n_Z69 n) x0 x1 x2 x3 some
noncomputable def Z69 (x0 : Int) (x1 : Int) (x2 : Int) (x3 : List D) : Option (Int × Int × Int × List D) := ev (fun n => n_Z69 n x0 x1 x2 x3)
def m_Z69 (F : Int → Int → Int → List D → Option (Int × Int × Int × List D)) : Lent := ⟨15, ⟨(.full 1000 [] (.int .i64) :: .int .i64 :: uu 8 (.int .i64 :: .int .i64 :: uu 156 ([]))), [(1000, .own (.int .i64))]⟩, [(.exit 8, ⟨(.full 1000 [] (.int .i64) :: .int .i64 :: uu 8 (.int .i64 :: .int .i64 :: uu 156 ([]))), [(1000, .own (.int .i64))]⟩)], fun _ ds k => dI (fun x0 ds => dI (fun x1 ds => dI (fun x2 ds => dL (fun x3 ds => dE ((F x0 x1 x2 x3).bind (fun y => k 0 [.I y.1, .I y.2.1, .I y.2.2.1, .L y.2.2.2])) ds) ds) ds) ds) ds⟩
theorem q_Z69 (F : Int → Int → Int → List D → Option (Int × Int × Int × List D)) (x0 : Int) (x1 : Int) (x2 : Int) (x3 : List D) : runLoop (ocOf [e_Z38]) (olOf [m_Z69 F]) A 89 (codeAt (bodyOf Try.f89) 15) ((m_Z69 F).sh.mk' [.I x0, .I x1, .I x2, .L x3]) (fun e σ' => some (e, σ')) = c_Z69 F x0 x1 x2 x3 (fun y => some (.exit 8, SSt.mk' ⟨(.full 1000 [] (.int .i64) :: .int .i64 :: uu 8 (.int .i64 :: .int .i64 :: uu 156 ([]))), [(1000, .own (.int .i64))]⟩ [.I y.1, .I y.2.1, .I y.2.2.1, .L y.2.2.2])) := by kernel_rfl
theorem m_Z69_ok : ∀ n, (m_Z69 (n_Z69 n)).ok Try.prog (codeAt (bodyOf Try.f89) 15) := by
 intro n
 induction n with
 | zero =>
  intro R ds k r h
  unfold m_Z69 at h
  obtain ⟨x0, d0, rfl, h0⟩ := dI_some h
  obtain ⟨x1, d1, rfl, h1⟩ := dI_some h0
  obtain ⟨x2, d2, rfl, h2⟩ := dI_some h1
  obtain ⟨x3, d3, rfl, h3⟩ := dL_some h2
  obtain ⟨rfl, hE⟩ := dE_some h3
  obtain ⟨y, hy, hk⟩ := bnd_some hE
  cases hy
 | succ n ih =>
  intro R ds k r h
  unfold m_Z69 at h
  obtain ⟨x0, d0, rfl, h0⟩ := dI_some h
  obtain ⟨x1, d1, rfl, h1⟩ := dI_some h0
  obtain ⟨x2, d2, rfl, h2⟩ := dI_some h1
  obtain ⟨x3, d3, rfl, h3⟩ := dL_some h2
  obtain ⟨rfl, hE⟩ := dE_some h3
  obtain ⟨y, hy, hk⟩ := bnd_some hE
  have hq := q_Z69 (n_Z69 n) x0 x1 x2 x3
  rw [c_Z69_bind] at hq
  rw [show c_Z69 (n_Z69 n) x0 x1 x2 x3 some = some y from hy] at hq
  refine ⟨0, _, _, _, hk, rfl, loop_ok px (fx := ⟨Try.func89, by kernel_rfl, by kernel_rfl⟩) (entsOK_cons e_Z38_ok entsOK_nil) (lentsOK_cons ih lentsOK_nil) (by kernel_rfl) ?_⟩
  exact hq
noncomputable def e_Z69 : Lent := m_Z69 (Z69)
theorem e_Z69_ok : (e_Z69).ok Try.prog (codeAt (bodyOf Try.f89) 15) := by
 intro R ds k r h
 unfold e_Z69 m_Z69 at h
 obtain ⟨x0, d0, rfl, h0⟩ := dI_some h
 obtain ⟨x1, d1, rfl, h1⟩ := dI_some h0
 obtain ⟨x2, d2, rfl, h2⟩ := dI_some h1
 obtain ⟨x3, d3, rfl, h3⟩ := dL_some h2
 obtain ⟨rfl, hE⟩ := dE_some h3
 obtain ⟨y, hy, hk⟩ := bnd_some hE
 obtain ⟨n, hn⟩ := ev_some hy
 exact m_Z69_ok n R _ k r (show (n_Z69 n x0 x1 x2 x3).bind _ = _ by rw [hn]; exact hk)

/-!-/
def c_Z70 {R : Type} (F : Int → Int → Int → List D → Option (Int × Int × List D)) (x0 : Int) (x1 : Int) (x2 : Int) (x3 : List D) (k : Int × Int × List D → Option R) : Option R :=
 (Z68 x0 x1 x2 x3).bind (fun y0 =>
 (Z69 y0.fst y0.snd.fst y0.snd.snd.fst y0.snd.snd.snd).bind (fun y1 =>
 bif decide (y1.snd.snd.fst < y1.snd.fst) then
 k (y1.fst, y1.snd.snd.fst, y1.snd.snd.snd)
 else
 if 0 ≤ y1.snd.snd.fst ∧ y1.snd.snd.fst < (↑y1.snd.snd.snd.length : Int) then
 if y1.snd.snd.fst.toNat + 1 ≤ y1.snd.snd.snd.length then
 if 0 ≤ y1.snd.fst ∧ y1.snd.fst < (↑y1.snd.snd.snd.length : Int) then
 if y1.snd.fst.toNat + 1 ≤ y1.snd.snd.snd.length then
 if 0 ≤ y1.snd.fst ∧ y1.snd.fst < (↑y1.snd.snd.snd.length : Int) then
 if y1.snd.fst.toNat + 1 ≤ y1.snd.snd.snd.length then
 if 0 ≤ y1.snd.snd.fst ∧ y1.snd.snd.fst < (↑(y1.snd.snd.snd.set y1.snd.fst.toNat (D.int (y1.snd.snd.snd.getD y1.snd.snd.fst.toNat (D.int 0)).toInt)).length : Int) then
 if y1.snd.snd.fst.toNat + 1 ≤ (y1.snd.snd.snd.set y1.snd.fst.toNat (D.int (y1.snd.snd.snd.getD y1.snd.snd.fst.toNat (D.int 0)).toInt)).length then
 (F y1.fst (IntKind.i64.wrap (y1.snd.fst + 1)) (IntKind.i64.wrap (y1.snd.snd.fst - 1)) ((y1.snd.snd.snd.set y1.snd.fst.toNat (D.int (y1.snd.snd.snd.getD y1.snd.snd.fst.toNat (D.int 0)).toInt)).set y1.snd.snd.fst.toNat (D.int (y1.snd.snd.snd.getD y1.snd.fst.toNat (D.int 0)).toInt))).bind k
 else
 none
 else
 none
 else
 none
 else
 none
 else
 none
 else
 none
 else
 none
 else
 none))
theorem c_Z70_bind {R : Type} (F : Int → Int → Int → List D → Option (Int × Int × List D)) (x0 : Int) (x1 : Int) (x2 : Int) (x3 : List D) (k : Int × Int × List D → Option R) : c_Z70 F x0 x1 x2 x3 k = (c_Z70 F x0 x1 x2 x3 some).bind k := by
 unfold c_Z70
 repeat' first|exact bnd_tail|exact bnd_none|exact bnd_leaf|apply bnd_ite|apply bnd_cond|apply bnd_sum|(apply bnd_bind;intro _)|intro _
def n_Z70 : Nat → Int → Int → Int → List D → Option (Int × Int × List D)
 | 0, _, _, _, _ => none
 | n + 1, x0, x1, x2, x3 => c_Z70 (n_Z70 n) x0 x1 x2 x3 some
noncomputable def Z70 (x0 : Int) (x1 : Int) (x2 : Int) (x3 : List D) : Option (Int × Int × List D) := ev (fun n => n_Z70 n x0 x1 x2 x3)
def m_Z70 (F : Int → Int → Int → List D → Option (Int × Int × List D)) : Lent := ⟨100013, ⟨(.full 1000 [] (.int .i64) :: .int .i64 :: uu 8 (.int .i64 :: .int .i64 :: uu 156 ([]))), [(1000, .own (.int .i64))]⟩, [(.exit 4, ⟨(.full 1000 [] (.int .i64) :: .int .i64 :: uu 9 (.int .i64 :: uu 156 ([]))), [(1000, .own (.int .i64))]⟩)], fun _ ds k => dI (fun x0 ds => dI (fun x1 ds => dI (fun x2 ds => dL (fun x3 ds => dE ((F x0 x1 x2 x3).bind (fun y => k 0 [.I y.1, .I y.2.1, .L y.2.2])) ds) ds) ds) ds) ds⟩
theorem q_Z70 (F : Int → Int → Int → List D → Option (Int × Int × List D)) (x0 : Int) (x1 : Int) (x2 : Int) (x3 : List D) : runLoop (ocOf []) (olOf [m_Z70 F, e_Z68, e_Z69]) A 89 (codeAt (bodyOf Try.f89) 100013) ((m_Z70 F).sh.mk' [.I x0, .I x1, .I x2, .L x3]) (fun e σ' => some (e, σ')) = c_Z70 F x0 x1 x2 x3 (fun y => some (.exit 4, SSt.mk' ⟨(.full 1000 [] (.int .i64) :: .int .i64 :: uu 9 (.int .i64 :: uu 156 ([]))), [(1000, .own (.int .i64))]⟩ [.I y.1, .I y.2.1, .L y.2.2])) := by kernel_rfl
theorem m_Z70_ok : ∀ n, (m_Z70 (n_Z70 n)).ok Try.prog (codeAt (bodyOf Try.f89) 100013) := by
 intro n
 induction n with
 | zero =>
  intro R ds k r h
  unfold m_Z70 at h
  obtain ⟨x0, d0, rfl, h0⟩ := dI_some h
  obtain ⟨x1, d1, rfl, h1⟩ := dI_some h0
  obtain ⟨x2, d2, rfl, h2⟩ := dI_some h1
  obtain ⟨x3, d3, rfl, h3⟩ := dL_some h2
  obtain ⟨rfl, hE⟩ := dE_some h3
  obtain ⟨y, hy, hk⟩ := bnd_some hE
  cases hy
 | succ n ih =>
  intro R ds k r h
  unfold m_Z70 at h
  obtain ⟨x0, d0, rfl, h0⟩ := dI_some h
  obtain ⟨x1, d1, rfl, h1⟩ := dI_some h0
  obtain ⟨x2, d2, rfl, h2⟩ := dI_some h1
  obtain ⟨x3, d3, rfl, h3⟩ := dL_some h2
  obtain ⟨rfl, hE⟩ := dE_some h3
  obtain ⟨y, hy, hk⟩ := bnd_some hE
  have hq := q_Z70 (n_Z70 n) x0 x1 x2 x3
  rw [c_Z70_bind] at hq
  rw [show c_Z70 (n_Z70 n) x0 x1 x2 x3 some = some y from hy] at hq
  refine ⟨0, _, _, _, hk, rfl, loop_ok px (fx := ⟨Try.func89, by kernel_rfl, by kernel_rfl⟩) entsOK_nil (lentsOK_cons ih (lentsOK_cons e_Z68_ok (lentsOK_cons e_Z69_ok lentsOK_nil))) (by kernel_rfl) ?_⟩
  exact hq
noncomputable def e_Z70 : Lent := m_Z70 (Z70)
theorem e_Z70_ok : (e_Z70).ok Try.prog (codeAt (bodyOf Try.f89) 100013) := by
 intro R ds k r h
 unfold e_Z70 m_Z70 at h
 obtain ⟨x0, d0, rfl, h0⟩ := dI_some h
 obtain ⟨x1, d1, rfl, h1⟩ := dI_some h0
 obtain ⟨x2, d2, rfl, h2⟩ := dI_some h1
 obtain ⟨x3, d3, rfl, h3⟩ := dL_some h2
 obtain ⟨rfl, hE⟩ := dE_some h3
 obtain ⟨y, hy, hk⟩ := bnd_some hE
 obtain ⟨n, hn⟩ := ev_some hy
 exact m_Z70_ok n R _ k r (show (n_Z70 n x0 x1 x2 x3).bind _ = _ by rw [hn]; exact hk)

end
end Go.Proofs.Ytinhphmajfiepaa
