/- Models of Go functions and their contracts, printed by a program of this session. -/
import Derived.Test.YtpigfmlahmapaaaClMFnTerminix0
set_option linter.unusedVariables false
set_option maxRecDepth 100000
namespace Go.Proofs.Ytpigfmlahmapaaa
open Go Go.Rai
noncomputable section
/-!-/
def c_Z75 {R : Type} (x0 : Int) (x1 : List D) (x2 : Int) (x3 : Int) (k : Int × Bool → Option R) : Option R :=
 (Z33 x0 x1).bind (fun y0 =>
 bif !y0 then
 k ((0 : Int), Bool.false)
 else
 (Z73 x2 x3).bind (fun y1 =>
 bif !y1 then
 k ((0 : Int), Bool.false)
 else
 (Z74 x2 x3 (0 : Int) x1 (↑x1.length : Int) (0 : Int) x0 x1).bind (Sum.elim (fun y2 =>
 k (y2.fst, y2.snd)) (fun y3 =>
 k ((0 : Int), Bool.false)))))
theorem c_Z75_bind {R : Type} (x0 : Int) (x1 : List D) (x2 : Int) (x3 : Int) (k : Int × Bool → Option R) : c_Z75 x0 x1 x2 x3 k = (c_Z75 x0 x1 x2 x3 some).bind k := by
 unfold c_Z75
 repeat' first|exact bnd_tail|exact bnd_none|exact bnd_leaf|apply bnd_ite|apply bnd_cond|apply bnd_sum|(apply bnd_bind;intro _)|intro _
def Z75 (x0 : Int) (x1 : List D) (x2 : Int) (x3 : Int) : Option (Int × Bool) := c_Z75 x0 x1 x2 x3 some
def e_Z75 : Ent := ⟨26, [.agg [.int .i64, .rd (.int .i64)], .int .i64, .int .i64], .tup [.int .i64, .bool], [.undef, .undef, .undef], fun _ ds k => dI (fun x0 ds => dL (fun x1 ds => dI (fun x2 ds => dI (fun x3 ds => dE ((Z75 x0 x1 x2 x3).bind (fun y => k [.I y.1, .B y.2])) ds) ds) ds) ds) ds⟩
theorem q_Z75 (x0 : Int) (x1 : List D) (x2 : Int) (x3 : Int) : runFn (ocOf [e_Z33, e_Z73]) (olOf [e_Z74]) A 26 Try.f26 (Sh.mks e_Z75.sh [.I x0, .L x1, .I x2, .I x3]).1 (fun v os => some (v, os)) = c_Z75 x0 x1 x2 x3 (fun y => some ((e_Z75.res.mk [.I y.1, .B y.2]).1, (Sh.mks e_Z75.outs (e_Z75.res.mk [.I y.1, .B y.2]).2).1)) := by kernel_rfl
theorem e_Z75_ok : e_Z75.ok Try.prog A := by
 intro R ds k r h
 unfold e_Z75 at h
 obtain ⟨x0, d0, rfl, h0⟩ := dI_some h
 obtain ⟨x1, d1, rfl, h1⟩ := dL_some h0
 obtain ⟨x2, d2, rfl, h2⟩ := dI_some h1
 obtain ⟨x3, d3, rfl, h3⟩ := dI_some h2
 obtain ⟨rfl, hE⟩ := dE_some h3
 obtain ⟨y, hy, hk⟩ := bnd_some hE
 refine ⟨_, hk, fn_ok px (fx := ⟨Try.func26, by kernel_rfl, by kernel_rfl⟩) (entsOK_cons e_Z33_ok (entsOK_cons e_Z73_ok entsOK_nil)) (lentsOK_cons e_Z74_ok lentsOK_nil) ?_⟩
 have hq := q_Z75 x0 x1 x2 x3
 rw [c_Z75_bind] at hq
 rw [show c_Z75 x0 x1 x2 x3 some = some y from hy] at hq
 exact hq

/-!-/
def c_Z76 {R : Type} (x0 : List D) (x1 : Int) (x2 : Int) (k : Int × Bool → Option R) : Option R :=
 (Z56 x0).bind (fun y0 =>
 bif !y0.snd.snd then
 k ((0 : Int), Bool.false)
 else
 (Z75 y0.fst y0.snd.fst x1 x2).bind (fun y1 =>
 k (y1.fst, y1.snd)))
theorem c_Z76_bind {R : Type} (x0 : List D) (x1 : Int) (x2 : Int) (k : Int × Bool → Option R) : c_Z76 x0 x1 x2 k = (c_Z76 x0 x1 x2 some).bind k := by
 unfold c_Z76
 repeat' first|exact bnd_tail|exact bnd_none|exact bnd_leaf|apply bnd_ite|apply bnd_cond|apply bnd_sum|(apply bnd_bind;intro _)|intro _
def Z76 (x0 : List D) (x1 : Int) (x2 : Int) : Option (Int × Bool) := c_Z76 x0 x1 x2 some
def e_Z76 : Ent := ⟨55, [.rd (.struct [.int .i64, .slice (.int .i64)]), .int .i64, .int .i64], .tup [.int .i64, .bool], [.undef, .undef, .undef], fun _ ds k => dL (fun x0 ds => dI (fun x1 ds => dI (fun x2 ds => dE ((Z76 x0 x1 x2).bind (fun y => k [.I y.1, .B y.2])) ds) ds) ds) ds⟩
theorem q_Z76 (x0 : List D) (x1 : Int) (x2 : Int) : runFn (ocOf [e_Z56, e_Z75]) (olOf []) A 55 Try.f55 (Sh.mks e_Z76.sh [.L x0, .I x1, .I x2]).1 (fun v os => some (v, os)) = c_Z76 x0 x1 x2 (fun y => some ((e_Z76.res.mk [.I y.1, .B y.2]).1, (Sh.mks e_Z76.outs (e_Z76.res.mk [.I y.1, .B y.2]).2).1)) := by kernel_rfl
theorem e_Z76_ok : e_Z76.ok Try.prog A := by
 intro R ds k r h
 unfold e_Z76 at h
 obtain ⟨x0, d0, rfl, h0⟩ := dL_some h
 obtain ⟨x1, d1, rfl, h1⟩ := dI_some h0
 obtain ⟨x2, d2, rfl, h2⟩ := dI_some h1
 obtain ⟨rfl, hE⟩ := dE_some h2
 obtain ⟨y, hy, hk⟩ := bnd_some hE
 refine ⟨_, hk, fn_ok px (fx := ⟨Try.func55, by kernel_rfl, by kernel_rfl⟩) (entsOK_cons e_Z56_ok (entsOK_cons e_Z75_ok entsOK_nil)) lentsOK_nil ?_⟩
 have hq := q_Z76 x0 x1 x2
 rw [c_Z76_bind] at hq
 rw [show c_Z76 x0 x1 x2 some = some y from hy] at hq
 exact hq

/-!-/
def c_Z77 {R : Type} (x0 : List D) (k : Int × List D × Int × List D → Option R) : Option R :=
 (Z4 x0 (0 : Int) (0 : Int)).bind (fun y0 =>
 (Z19 y0.snd.fst y0.snd.snd.fst y0.snd.snd.snd y0.fst).bind (fun y1 =>
 (Z2 y1.snd.snd.fst y1.snd.snd.snd.fst y1.snd.snd.snd.snd (5 : Int)).bind (fun y2 =>
 (Z19 y2.snd.fst y2.snd.snd.fst y2.snd.snd.snd (IntKind.i64.wrap (y0.fst + y2.fst))).bind (fun y3 =>
 k (y1.fst, y1.snd.fst, y3.fst, y3.snd.fst)))))
theorem c_Z77_bind {R : Type} (x0 : List D) (k : Int × List D × Int × List D → Option R) : c_Z77 x0 k = (c_Z77 x0 some).bind k := by
 unfold c_Z77
 repeat' first|exact bnd_tail|exact bnd_none|exact bnd_leaf|apply bnd_ite|apply bnd_cond|apply bnd_sum|(apply bnd_bind;intro _)|intro _
def Z77 (x0 : List D) : Option (Int × List D × Int × List D) := c_Z77 x0 some
def e_Z77 : Ent := ⟨36, [.rd (.int .u8)], .tup [.agg [.int .i64, .own (.int .i64)], .agg [.int .i64, .own (.int .i64)]], [.undef], fun _ ds k => dL (fun x0 ds => dE ((Z77 x0).bind (fun y => k [.I y.1, .L y.2.1, .I y.2.2.1, .L y.2.2.2])) ds) ds⟩
theorem q_Z77 (x0 : List D) : runFn (ocOf [e_Z4, e_Z19, e_Z2]) (olOf []) A 36 Try.f36 (Sh.mks e_Z77.sh [.L x0]).1 (fun v os => some (v, os)) = c_Z77 x0 (fun y => some ((e_Z77.res.mk [.I y.1, .L y.2.1, .I y.2.2.1, .L y.2.2.2]).1, (Sh.mks e_Z77.outs (e_Z77.res.mk [.I y.1, .L y.2.1, .I y.2.2.1, .L y.2.2.2]).2).1)) := by kernel_rfl
theorem e_Z77_ok : e_Z77.ok Try.prog A := by
 intro R ds k r h
 unfold e_Z77 at h
 obtain ⟨x0, d0, rfl, h0⟩ := dL_some h
 obtain ⟨rfl, hE⟩ := dE_some h0
 obtain ⟨y, hy, hk⟩ := bnd_some hE
 refine ⟨_, hk, fn_ok px (fx := ⟨Try.func36, by kernel_rfl, by kernel_rfl⟩) (entsOK_cons e_Z4_ok (entsOK_cons e_Z19_ok (entsOK_cons e_Z2_ok entsOK_nil))) lentsOK_nil ?_⟩
 have hq := q_Z77 x0
 rw [c_Z77_bind] at hq
 rw [show c_Z77 x0 some = some y from hy] at hq
 exact hq

/-!-/
def c_Z78 {R : Type} (x0 : List D) (k : Int × List D × Int × List D → Option R) : Option R :=
 (Z77 x0).bind (fun y0 =>
 k (y0.fst, y0.snd.fst, y0.snd.snd.fst, y0.snd.snd.snd))
theorem c_Z78_bind {R : Type} (x0 : List D) (k : Int × List D × Int × List D → Option R) : c_Z78 x0 k = (c_Z78 x0 some).bind k := by
 unfold c_Z78
 repeat' first|exact bnd_tail|exact bnd_none|exact bnd_leaf|apply bnd_ite|apply bnd_cond|apply bnd_sum|(apply bnd_bind;intro _)|intro _
def Z78 (x0 : List D) : Option (Int × List D × Int × List D) := c_Z78 x0 some
def e_Z78 : Ent := ⟨56, [.rd (.int .u8)], .tup [.agg [.int .i64, .own (.int .i64)], .agg [.int .i64, .own (.int .i64)]], [.undef], fun _ ds k => dL (fun x0 ds => dE ((Z78 x0).bind (fun y => k [.I y.1, .L y.2.1, .I y.2.2.1, .L y.2.2.2])) ds) ds⟩
theorem q_Z78 (x0 : List D) : runFn (ocOf [e_Z77]) (olOf []) A 56 Try.f56 (Sh.mks e_Z78.sh [.L x0]).1 (fun v os => some (v, os)) = c_Z78 x0 (fun y => some ((e_Z78.res.mk [.I y.1, .L y.2.1, .I y.2.2.1, .L y.2.2.2]).1, (Sh.mks e_Z78.outs (e_Z78.res.mk [.I y.1, .L y.2.1, .I y.2.2.1, .L y.2.2.2]).2).1)) := by kernel_rfl
theorem e_Z78_ok : e_Z78.ok Try.prog A := by
 intro R ds k r h
 unfold e_Z78 at h
 obtain ⟨x0, d0, rfl, h0⟩ := dL_some h
 obtain ⟨rfl, hE⟩ := dE_some h0
 obtain ⟨y, hy, hk⟩ := bnd_some hE
 refine ⟨_, hk, fn_ok px (fx := ⟨Try.func56, by kernel_rfl, by kernel_rfl⟩) (entsOK_cons e_Z77_ok entsOK_nil) lentsOK_nil ?_⟩
 have hq := q_Z78 x0
 rw [c_Z78_bind] at hq
 rw [show c_Z78 x0 some = some y from hy] at hq
 exact hq

/-!-/
def c_Z79 {R : Type} (x0 : Int) (x1 : Int) (k : Bool → Option R) : Option R :=
 k (decide (x0 < x1))
theorem c_Z79_bind {R : Type} (x0 : Int) (x1 : Int) (k : Bool → Option R) : c_Z79 x0 x1 k = (c_Z79 x0 x1 some).bind k := by
 unfold c_Z79
 repeat' first|exact bnd_tail|exact bnd_none|exact bnd_leaf|apply bnd_ite|apply bnd_cond|apply bnd_sum|(apply bnd_bind;intro _)|intro _
def Z79 (x0 : Int) (x1 : Int) : Option (Bool) := c_Z79 x0 x1 some
def e_Z79 : Ent := ⟨126, [.int .i64, .int .i64], .bool, [.undef, .undef], fun _ ds k => dI (fun x0 ds => dI (fun x1 ds => dE ((Z79 x0 x1).bind (fun y => k [.B y])) ds) ds) ds⟩
theorem q_Z79 (x0 : Int) (x1 : Int) : runFn (ocOf []) (olOf []) A 126 Try.f126 (Sh.mks e_Z79.sh [.I x0, .I x1]).1 (fun v os => some (v, os)) = c_Z79 x0 x1 (fun y => some ((e_Z79.res.mk [.B y]).1, (Sh.mks e_Z79.outs (e_Z79.res.mk [.B y]).2).1)) := by kernel_rfl
theorem e_Z79_ok : e_Z79.ok Try.prog A := by
 intro R ds k r h
 unfold e_Z79 at h
 obtain ⟨x0, d0, rfl, h0⟩ := dI_some h
 obtain ⟨x1, d1, rfl, h1⟩ := dI_some h0
 obtain ⟨rfl, hE⟩ := dE_some h1
 obtain ⟨y, hy, hk⟩ := bnd_some hE
 refine ⟨_, hk, fn_ok px (fx := ⟨Try.func126, by kernel_rfl, by kernel_rfl⟩) entsOK_nil lentsOK_nil ?_⟩
 have hq := q_Z79 x0 x1
 rw [c_Z79_bind] at hq
 rw [show c_Z79 x0 x1 some = some y from hy] at hq
 exact hq

/-!-/
def c_Z80 {R : Type} (F : Int → Int → Int → List D → Int → Int → List D → Int → Int → Int → List D → Int → List D → Option (Int × List D × Int × Int × Int × List D × Int × List D)) (x0 : Int) (x1 : Int) (x2 : Int) (x3 : List D) (x4 : Int) (x5 : Int) (x6 : List D) (x7 : Int) (x8 : Int) (x9 : Int) (x10 : List D) (x11 : Int) (x12 : List D) (k : Int × List D × Int × Int × Int × List D × Int × List D → Option R) : Option R :=
 bif decide (x8 < x7) then
 if 0 ≤ x8 ∧ x8 < (↑x6.length : Int) then
 (Z79 (IntKind.i64.wrap (x9 + x1)) (IntKind.i64.wrap (x11 + x8))).bind (fun y0 =>
 bif y0 then
 (F (IntKind.i64.wrap (x0 + IntKind.i64.wrap (x2 * (x6.getD x8.toNat (D.int 0)).toInt))) x1 x2 x3 x4 x5 x6 x7 (IntKind.i64.wrap (x8 + 1)) x9 x10 x11 x12).bind k
 else
 (F x0 x1 x2 x3 x4 x5 x6 x7 (IntKind.i64.wrap (x8 + 1)) x9 x10 x11 x12).bind k)
 else
 none
 else
 k (x0, x3, x4, x5, x9, x10, x11, x12)
theorem c_Z80_bind {R : Type} (F : Int → Int → Int → List D → Int → Int → List D → Int → Int → Int → List D → Int → List D → Option (Int × List D × Int × Int × Int × List D × Int × List D)) (x0 : Int) (x1 : Int) (x2 : Int) (x3 : List D) (x4 : Int) (x5 : Int) (x6 : List D) (x7 : Int) (x8 : Int) (x9 : Int) (x10 : List D) (x11 : Int) (x12 : List D) (k : Int × List D × Int × Int × Int × List D × Int × List D → Option R) : c_Z80 F x0 x1 x2 x3 x4 x5 x6 x7 x8 x9 x10 x11 x12 k = (c_Z80 F x0 x1 x2 x3 x4 x5 x6 x7 x8 x9 x10 x11 x12 some).bind k := by
 unfold c_Z80
 repeat' first|exact bnd_tail|exact bnd_none|exact bnd_leaf|apply bnd_ite|apply bnd_cond|apply bnd_sum|(apply bnd_bind;intro _)|intro _
def n_Z80 : Nat → Int → Int → Int → List D → Int → Int → List D → Int → Int → Int → List D → Int → List D → Option (Int × List D × Int × Int × Int × List D × Int × List D)
 | 0, _, _, _, _, _, _, _, _, _, _, _, _, _ => none
 | n + 1, x0, x1, x2, x3, x4, x5, x6, x7, x8, x9, x10, x11, x12 => c_Z80 (n_Z80 n) x0 x1 x2 x3 x4 x5 x6 x7 x8 x9 x10 x11 x12 some
noncomputable def Z80 (x0 : Int) (x1 : Int) (x2 : Int) (x3 : List D) (x4 : Int) (x5 : Int) (x6 : List D) (x7 : Int) (x8 : Int) (x9 : Int) (x10 : List D) (x11 : Int) (x12 : List D) : Option (Int × List D × Int × Int × Int × List D × Int × List D) := ev (fun n => n_Z80 n x0 x1 x2 x3 x4 x5 x6 x7 x8 x9 x10 x11 x12)
def m_Z80 (F : Int → Int → Int → List D → Int → Int → List D → Int → Int → Int → List D → Int → List D → Option (Int × List D × Int × Int × Int × List D × Int × List D)) : Lent := ⟨6, ⟨(.undef :: .undef :: .fn 126 [] :: .ptr 1000 [0] :: .ptr 1001 [0] :: .undef :: .undef :: .int .i64 :: .int .i64 :: .int .i64 :: .undef :: .undef :: .undef :: .rd (.int .i64) :: .int .i64 :: .int .i64 :: uu 5 (.rd (.int .i64) :: .int .i64 :: .int .i64 :: uu 22 ([]))), [(1000, .obox (.agg [.int .i64, .rd (.int .i64)])), (1001, .obox (.agg [.int .i64, .rd (.int .i64)]))]⟩, [(.exit 2, ⟨(.undef :: .undef :: .fn 126 [] :: .ptr 1000 [0] :: .ptr 1001 [0] :: .undef :: .undef :: .int .i64 :: uu 5 (.rd (.int .i64) :: .int .i64 :: .int .i64 :: uu 30 ([]))), [(1000, .obox (.agg [.int .i64, .rd (.int .i64)])), (1001, .obox (.agg [.int .i64, .rd (.int .i64)]))]⟩)], fun _ ds k => dI (fun x0 ds => dI (fun x1 ds => dI (fun x2 ds => dL (fun x3 ds => dI (fun x4 ds => dI (fun x5 ds => dL (fun x6 ds => dI (fun x7 ds => dI (fun x8 ds => dI (fun x9 ds => dL (fun x10 ds => dI (fun x11 ds => dL (fun x12 ds => dE ((F x0 x1 x2 x3 x4 x5 x6 x7 x8 x9 x10 x11 x12).bind (fun y => k 0 [.I y.1, .L y.2.1, .I y.2.2.1, .I y.2.2.2.1, .I y.2.2.2.2.1, .L y.2.2.2.2.2.1, .I y.2.2.2.2.2.2.1, .L y.2.2.2.2.2.2.2])) ds) ds) ds) ds) ds) ds) ds) ds) ds) ds) ds) ds) ds) ds⟩
theorem q_Z80 (F : Int → Int → Int → List D → Int → Int → List D → Int → Int → Int → List D → Int → List D → Option (Int × List D × Int × Int × Int × List D × Int × List D)) (x0 : Int) (x1 : Int) (x2 : Int) (x3 : List D) (x4 : Int) (x5 : Int) (x6 : List D) (x7 : Int) (x8 : Int) (x9 : Int) (x10 : List D) (x11 : Int) (x12 : List D) : runLoop (ocOf [e_Z79]) (olOf [m_Z80 F]) A 105 (codeAt (bodyOf Try.f105) 6) ((m_Z80 F).sh.mk' [.I x0, .I x1, .I x2, .L x3, .I x4, .I x5, .L x6, .I x7, .I x8, .I x9, .L x10, .I x11, .L x12]) (fun e σ' => some (e, σ')) = c_Z80 F x0 x1 x2 x3 x4 x5 x6 x7 x8 x9 x10 x11 x12 (fun y => some (.exit 2, SSt.mk' ⟨(.undef :: .undef :: .fn 126 [] :: .ptr 1000 [0] :: .ptr 1001 [0] :: .undef :: .undef :: .int .i64 :: uu 5 (.rd (.int .i64) :: .int .i64 :: .int .i64 :: uu 30 ([]))), [(1000, .obox (.agg [.int .i64, .rd (.int .i64)])), (1001, .obox (.agg [.int .i64, .rd (.int .i64)]))]⟩ [.I y.1, .L y.2.1, .I y.2.2.1, .I y.2.2.2.1, .I y.2.2.2.2.1, .L y.2.2.2.2.2.1, .I y.2.2.2.2.2.2.1, .L y.2.2.2.2.2.2.2])) := by kernel_rfl
theorem m_Z80_ok : ∀ n, (m_Z80 (n_Z80 n)).ok Try.prog (codeAt (bodyOf Try.f105) 6) := by
 intro n
 induction n with
 | zero =>
  intro R ds k r h
  unfold m_Z80 at h
  obtain ⟨x0, d0, rfl, h0⟩ := dI_some h
  obtain ⟨x1, d1, rfl, h1⟩ := dI_some h0
  obtain ⟨x2, d2, rfl, h2⟩ := dI_some h1
  obtain ⟨x3, d3, rfl, h3⟩ := dL_some h2
  obtain ⟨x4, d4, rfl, h4⟩ := dI_some h3
  obtain ⟨x5, d5, rfl, h5⟩ := dI_some h4
  obtain ⟨x6, d6, rfl, h6⟩ := dL_some h5
  obtain ⟨x7, d7, rfl, h7⟩ := dI_some h6
  obtain ⟨x8, d8, rfl, h8⟩ := dI_some h7
  obtain ⟨x9, d9, rfl, h9⟩ := dI_some h8
  obtain ⟨x10, d10, rfl, h10⟩ := dL_some h9
  obtain ⟨x11, d11, rfl, h11⟩ := dI_some h10
  obtain ⟨x12, d12, rfl, h12⟩ := dL_some h11
  obtain ⟨rfl, hE⟩ := dE_some h12
  obtain ⟨y, hy, hk⟩ := bnd_some hE
  cases hy
 | succ n ih =>
  intro R ds k r h
  unfold m_Z80 at h
  obtain ⟨x0, d0, rfl, h0⟩ := dI_some h
  obtain ⟨x1, d1, rfl, h1⟩ := dI_some h0
  obtain ⟨x2, d2, rfl, h2⟩ := dI_some h1
  obtain ⟨x3, d3, rfl, h3⟩ := dL_some h2
  obtain ⟨x4, d4, rfl, h4⟩ := dI_some h3
  obtain ⟨x5, d5, rfl, h5⟩ := dI_some h4
  obtain ⟨x6, d6, rfl, h6⟩ := dL_some h5
  obtain ⟨x7, d7, rfl, h7⟩ := dI_some h6
  obtain ⟨x8, d8, rfl, h8⟩ := dI_some h7
  obtain ⟨x9, d9, rfl, h9⟩ := dI_some h8
  obtain ⟨x10, d10, rfl, h10⟩ := dL_some h9
  obtain ⟨x11, d11, rfl, h11⟩ := dI_some h10
  obtain ⟨x12, d12, rfl, h12⟩ := dL_some h11
  obtain ⟨rfl, hE⟩ := dE_some h12
  obtain ⟨y, hy, hk⟩ := bnd_some hE
  have hq := q_Z80 (n_Z80 n) x0 x1 x2 x3 x4 x5 x6 x7 x8 x9 x10 x11 x12
  rw [c_Z80_bind] at hq
  rw [show c_Z80 (n_Z80 n) x0 x1 x2 x3 x4 x5 x6 x7 x8 x9 x10 x11 x12 some = some y from hy] at hq
  refine ⟨0, _, _, _, hk, rfl, loop_ok px (fx := ⟨Try.func105, by kernel_rfl, by kernel_rfl⟩) (entsOK_cons e_Z79_ok entsOK_nil) (lentsOK_cons ih lentsOK_nil) (by kernel_rfl) ?_⟩
  exact hq
noncomputable def e_Z80 : Lent := m_Z80 (Z80)
theorem e_Z80_ok : (e_Z80).ok Try.prog (codeAt (bodyOf Try.f105) 6) := by
 intro R ds k r h
 unfold e_Z80 m_Z80 at h
 obtain ⟨x0, d0, rfl, h0⟩ := dI_some h
 obtain ⟨x1, d1, rfl, h1⟩ := dI_some h0
 obtain ⟨x2, d2, rfl, h2⟩ := dI_some h1
 obtain ⟨x3, d3, rfl, h3⟩ := dL_some h2
 obtain ⟨x4, d4, rfl, h4⟩ := dI_some h3
 obtain ⟨x5, d5, rfl, h5⟩ := dI_some h4
 obtain ⟨x6, d6, rfl, h6⟩ := dL_some h5
 obtain ⟨x7, d7, rfl, h7⟩ := dI_some h6
 obtain ⟨x8, d8, rfl, h8⟩ := dI_some h7
 obtain ⟨x9, d9, rfl, h9⟩ := dI_some h8
 obtain ⟨x10, d10, rfl, h10⟩ := dL_some h9
 obtain ⟨x11, d11, rfl, h11⟩ := dI_some h10
 obtain ⟨x12, d12, rfl, h12⟩ := dL_some h11
 obtain ⟨rfl, hE⟩ := dE_some h12
 obtain ⟨y, hy, hk⟩ := bnd_some hE
 obtain ⟨n, hn⟩ := ev_some hy
 exact m_Z80_ok n R _ k r (show (n_Z80 n x0 x1 x2 x3 x4 x5 x6 x7 x8 x9 x10 x11 x12).bind _ = _ by rw [hn]; exact hk)

/-!-/
def c_Z81 {R : Type} (F : Int → List D → Int → Int → Int → List D → Int → List D → Option (Int)) (x0 : Int) (x1 : List D) (x2 : Int) (x3 : Int) (x4 : Int) (x5 : List D) (x6 : Int) (x7 : List D) (k : Int → Option R) : Option R :=
 bif decide (x3 < x2) then
 if 0 ≤ x3 ∧ x3 < (↑x1.length : Int) then
 (Z80 x0 x3 ((x1.getD x3.toNat (D.int 0)).toInt) x1 x2 x3 x7 (↑x7.length : Int) (0 : Int) x4 x5 x6 x7).bind (fun y0 =>
 (F y0.fst y0.snd.fst y0.snd.snd.fst (IntKind.i64.wrap (y0.snd.snd.snd.fst + 1)) y0.snd.snd.snd.snd.fst y0.snd.snd.snd.snd.snd.fst y0.snd.snd.snd.snd.snd.snd.fst y0.snd.snd.snd.snd.snd.snd.snd).bind k)
 else
 none
 else
 k x0
theorem c_Z81_bind {R : Type} (F : Int → List D → Int → Int → Int → List D → Int → List D → Option (Int)) (x0 : Int) (x1 : List D) (x2 : Int) (x3 : Int) (x4 : Int) (x5 : List D) (x6 : Int) (x7 : List D) (k : Int → Option R) : c_Z81 F x0 x1 x2 x3 x4 x5 x6 x7 k = (c_Z81 F x0 x1 x2 x3 x4 x5 x6 x7 some).bind k := by
 unfold c_Z81
 repeat' first|exact bnd_tail|exact bnd_none|exact bnd_leaf|apply bnd_ite|apply bnd_cond|apply bnd_sum|(apply bnd_bind;intro _)|intro _
def n_Z81 : Nat → Int → List D → Int → Int → Int → List D → Int → List D → Option (Int)
 | 0, _, _, _, _, _, _, _, _ => none
 | n + 1, x0, x1, x2, x3, x4, x5, x6, x7 => c_Z81 (n_Z81 n) x0 x1 x2 x3 x4 x5 x6 x7 some
noncomputable def Z81 (x0 : Int) (x1 : List D) (x2 : Int) (x3 : Int) (x4 : Int) (x5 : List D) (x6 : Int) (x7 : List D) : Option (Int) := ev (fun n => n_Z81 n x0 x1 x2 x3 x4 x5 x6 x7)
def m_Z81 (F : Int → List D → Int → Int → Int → List D → Int → List D → Option (Int)) : Lent := ⟨3, ⟨(.undef :: .undef :: .fn 126 [] :: .ptr 1000 [0] :: .ptr 1001 [0] :: .undef :: .undef :: .int .i64 :: uu 5 (.rd (.int .i64) :: .int .i64 :: .int .i64 :: uu 30 ([]))), [(1000, .obox (.agg [.int .i64, .rd (.int .i64)])), (1001, .obox (.agg [.int .i64, .rd (.int .i64)]))]⟩, [(.exit 0, ⟨(uu 7 (.int .i64 :: uu 38 ([]))), []⟩)], fun _ ds k => dI (fun x0 ds => dL (fun x1 ds => dI (fun x2 ds => dI (fun x3 ds => dI (fun x4 ds => dL (fun x5 ds => dI (fun x6 ds => dL (fun x7 ds => dE ((F x0 x1 x2 x3 x4 x5 x6 x7).bind (fun y => k 0 [.I y])) ds) ds) ds) ds) ds) ds) ds) ds) ds⟩
theorem q_Z81 (F : Int → List D → Int → Int → Int → List D → Int → List D → Option (Int)) (x0 : Int) (x1 : List D) (x2 : Int) (x3 : Int) (x4 : Int) (x5 : List D) (x6 : Int) (x7 : List D) : runLoop (ocOf []) (olOf [m_Z81 F, e_Z80]) A 105 (codeAt (bodyOf Try.f105) 3) ((m_Z81 F).sh.mk' [.I x0, .L x1, .I x2, .I x3, .I x4, .L x5, .I x6, .L x7]) (fun e σ' => some (e, σ')) = c_Z81 F x0 x1 x2 x3 x4 x5 x6 x7 (fun y => some (.exit 0, SSt.mk' ⟨(uu 7 (.int .i64 :: uu 38 ([]))), []⟩ [.I y])) := by kernel_rfl
theorem m_Z81_ok : ∀ n, (m_Z81 (n_Z81 n)).ok Try.prog (codeAt (bodyOf Try.f105) 3) := by
 intro n
 induction n with
 | zero =>
  intro R ds k r h
  unfold m_Z81 at h
  obtain ⟨x0, d0, rfl, h0⟩ := dI_some h
  obtain ⟨x1, d1, rfl, h1⟩ := dL_some h0
  obtain ⟨x2, d2, rfl, h2⟩ := dI_some h1
  obtain ⟨x3, d3, rfl, h3⟩ := dI_some h2
  obtain ⟨x4, d4, rfl, h4⟩ := dI_some h3
  obtain ⟨x5, d5, rfl, h5⟩ := dL_some h4
  obtain ⟨x6, d6, rfl, h6⟩ := dI_some h5
  obtain ⟨x7, d7, rfl, h7⟩ := dL_some h6
  obtain ⟨rfl, hE⟩ := dE_some h7
  obtain ⟨y, hy, hk⟩ := bnd_some hE
  cases hy
 | succ n ih =>
  intro R ds k r h
  unfold m_Z81 at h
  obtain ⟨x0, d0, rfl, h0⟩ := dI_some h
  obtain ⟨x1, d1, rfl, h1⟩ := dL_some h0
  obtain ⟨x2, d2, rfl, h2⟩ := dI_some h1
  obtain ⟨x3, d3, rfl, h3⟩ := dI_some h2
  obtain ⟨x4, d4, rfl, h4⟩ := dI_some h3
  obtain ⟨x5, d5, rfl, h5⟩ := dL_some h4
  obtain ⟨x6, d6, rfl, h6⟩ := dI_some h5
  obtain ⟨x7, d7, rfl, h7⟩ := dL_some h6
  obtain ⟨rfl, hE⟩ := dE_some h7
  obtain ⟨y, hy, hk⟩ := bnd_some hE
  have hq := q_Z81 (n_Z81 n) x0 x1 x2 x3 x4 x5 x6 x7
  rw [c_Z81_bind] at hq
  rw [show c_Z81 (n_Z81 n) x0 x1 x2 x3 x4 x5 x6 x7 some = some y from hy] at hq
  refine ⟨0, _, _, _, hk, rfl, loop_ok px (fx := ⟨Try.func105, by kernel_rfl, by kernel_rfl⟩) entsOK_nil (lentsOK_cons ih (lentsOK_cons e_Z80_ok lentsOK_nil)) (by kernel_rfl) ?_⟩
  exact hq
noncomputable def e_Z81 : Lent := m_Z81 (Z81)
theorem e_Z81_ok : (e_Z81).ok Try.prog (codeAt (bodyOf Try.f105) 3) := by
 intro R ds k r h
 unfold e_Z81 m_Z81 at h
 obtain ⟨x0, d0, rfl, h0⟩ := dI_some h
 obtain ⟨x1, d1, rfl, h1⟩ := dL_some h0
 obtain ⟨x2, d2, rfl, h2⟩ := dI_some h1
 obtain ⟨x3, d3, rfl, h3⟩ := dI_some h2
 obtain ⟨x4, d4, rfl, h4⟩ := dI_some h3
 obtain ⟨x5, d5, rfl, h5⟩ := dL_some h4
 obtain ⟨x6, d6, rfl, h6⟩ := dI_some h5
 obtain ⟨x7, d7, rfl, h7⟩ := dL_some h6
 obtain ⟨rfl, hE⟩ := dE_some h7
 obtain ⟨y, hy, hk⟩ := bnd_some hE
 obtain ⟨n, hn⟩ := ev_some hy
 exact m_Z81_ok n R _ k r (show (n_Z81 n x0 x1 x2 x3 x4 x5 x6 x7).bind _ = _ by rw [hn]; exact hk)

/-!-/
def c_Z82 {R : Type} (x0 : Int) (x1 : List D) (x2 : Int) (x3 : List D) (k : Int → Option R) : Option R :=
 (Z81 (0 : Int) x1 (↑x1.length : Int) (0 : Int) x0 x1 x2 x3).bind (fun y0 =>
 k y0)
theorem c_Z82_bind {R : Type} (x0 : Int) (x1 : List D) (x2 : Int) (x3 : List D) (k : Int → Option R) : c_Z82 x0 x1 x2 x3 k = (c_Z82 x0 x1 x2 x3 some).bind k := by
 unfold c_Z82
 repeat' first|exact bnd_tail|exact bnd_none|exact bnd_leaf|apply bnd_ite|apply bnd_cond|apply bnd_sum|(apply bnd_bind;intro _)|intro _
def Z82 (x0 : Int) (x1 : List D) (x2 : Int) (x3 : List D) : Option (Int) := c_Z82 x0 x1 x2 x3 some
def e_Z82 : Ent := ⟨105, [.agg [.int .i64, .rd (.int .i64)], .agg [.int .i64, .rd (.int .i64)], .fn 126 []], .int .i64, [.undef, .undef, .undef], fun _ ds k => dI (fun x0 ds => dL (fun x1 ds => dI (fun x2 ds => dL (fun x3 ds => dE ((Z82 x0 x1 x2 x3).bind (fun y => k [.I y])) ds) ds) ds) ds) ds⟩
theorem q_Z82 (x0 : Int) (x1 : List D) (x2 : Int) (x3 : List D) : runFn (ocOf []) (olOf [e_Z81]) A 105 Try.f105 (Sh.mks e_Z82.sh [.I x0, .L x1, .I x2, .L x3]).1 (fun v os => some (v, os)) = c_Z82 x0 x1 x2 x3 (fun y => some ((e_Z82.res.mk [.I y]).1, (Sh.mks e_Z82.outs (e_Z82.res.mk [.I y]).2).1)) := by kernel_rfl
theorem e_Z82_ok : e_Z82.ok Try.prog A := by
 intro R ds k r h
 unfold e_Z82 at h
 obtain ⟨x0, d0, rfl, h0⟩ := dI_some h
 obtain ⟨x1, d1, rfl, h1⟩ := dL_some h0
 obtain ⟨x2, d2, rfl, h2⟩ := dI_some h1
 obtain ⟨x3, d3, rfl, h3⟩ := dL_some h2
 obtain ⟨rfl, hE⟩ := dE_some h3
 obtain ⟨y, hy, hk⟩ := bnd_some hE
 refine ⟨_, hk, fn_ok px (fx := ⟨Try.func105, by kernel_rfl, by kernel_rfl⟩) entsOK_nil (lentsOK_cons e_Z81_ok lentsOK_nil) ?_⟩
 have hq := q_Z82 x0 x1 x2 x3
 rw [c_Z82_bind] at hq
 rw [show c_Z82 x0 x1 x2 x3 some = some y from hy] at hq
 exact hq

/-!-/
def c_Z83 {R : Type} (x0 : Int) (x1 : Int) (k : Bool → Option R) : Option R :=
 k (decide (x0 ≤ x1))
theorem c_Z83_bind {R : Type} (x0 : Int) (x1 : Int) (k : Bool → Option R) : c_Z83 x0 x1 k = (c_Z83 x0 x1 some).bind k := by
 unfold c_Z83
 repeat' first|exact bnd_tail|exact bnd_none|exact bnd_leaf|apply bnd_ite|apply bnd_cond|apply bnd_sum|(apply bnd_bind;intro _)|intro _
def Z83 (x0 : Int) (x1 : Int) : Option (Bool) := c_Z83 x0 x1 some
def e_Z83 : Ent := ⟨127, [.int .i64, .int .i64], .bool, [.undef, .undef], fun _ ds k => dI (fun x0 ds => dI (fun x1 ds => dE ((Z83 x0 x1).bind (fun y => k [.B y])) ds) ds) ds⟩
theorem q_Z83 (x0 : Int) (x1 : Int) : runFn (ocOf []) (olOf []) A 127 Try.f127 (Sh.mks e_Z83.sh [.I x0, .I x1]).1 (fun v os => some (v, os)) = c_Z83 x0 x1 (fun y => some ((e_Z83.res.mk [.B y]).1, (Sh.mks e_Z83.outs (e_Z83.res.mk [.B y]).2).1)) := by kernel_rfl
theorem e_Z83_ok : e_Z83.ok Try.prog A := by
 intro R ds k r h
 unfold e_Z83 at h
 obtain ⟨x0, d0, rfl, h0⟩ := dI_some h
 obtain ⟨x1, d1, rfl, h1⟩ := dI_some h0
 obtain ⟨rfl, hE⟩ := dE_some h1
 obtain ⟨y, hy, hk⟩ := bnd_some hE
 refine ⟨_, hk, fn_ok px (fx := ⟨Try.func127, by kernel_rfl, by kernel_rfl⟩) entsOK_nil lentsOK_nil ?_⟩
 have hq := q_Z83 x0 x1
 rw [c_Z83_bind] at hq
 rw [show c_Z83 x0 x1 some = some y from hy] at hq
 exact hq

/-!-/
def c_Z84 {R : Type} (F : Int → Int → Int → List D → Int → Int → List D → Int → Int → Int → List D → Int → List D → Option (Int × List D × Int × Int × Int × List D × Int × List D)) (x0 : Int) (x1 : Int) (x2 : Int) (x3 : List D) (x4 : Int) (x5 : Int) (x6 : List D) (x7 : Int) (x8 : Int) (x9 : Int) (x10 : List D) (x11 : Int) (x12 : List D) (k : Int × List D × Int × Int × Int × List D × Int × List D → Option R) : Option R :=
 bif decide (x8 < x7) then
 if 0 ≤ x8 ∧ x8 < (↑x6.length : Int) then
 (Z83 (IntKind.i64.wrap (x9 + x1)) (IntKind.i64.wrap (x11 + x8))).bind (fun y0 =>
 bif y0 then
 (F (IntKind.i64.wrap (x0 + IntKind.i64.wrap (x2 * (x6.getD x8.toNat (D.int 0)).toInt))) x1 x2 x3 x4 x5 x6 x7 (IntKind.i64.wrap (x8 + 1)) x9 x10 x11 x12).bind k
 else
 (F x0 x1 x2 x3 x4 x5 x6 x7 (IntKind.i64.wrap (x8 + 1)) x9 x10 x11 x12).bind k)
 else
 none
 else
 k (x0, x3, x4, x5, x9, x10, x11, x12)
theorem c_Z84_bind {R : Type} (F : Int → Int → Int → List D → Int → Int → List D → Int → Int → Int → List D → Int → List D → Option (Int × List D × Int × Int × Int × List D × Int × List D)) (x0 : Int) (x1 : Int) (x2 : Int) (x3 : List D) (x4 : Int) (x5 : Int) (x6 : List D) (x7 : Int) (x8 : Int) (x9 : Int) (x10 : List D) (x11 : Int) (x12 : List D) (k : Int × List D × Int × Int × Int × List D × Int × List D → Option R) : c_Z84 F x0 x1 x2 x3 x4 x5 x6 x7 x8 x9 x10 x11 x12 k = (c_Z84 F x0 x1 x2 x3 x4 x5 x6 x7 x8 x9 x10 x11 x12 some).bind k := by
 unfold c_Z84
 repeat' first|exact bnd_tail|exact bnd_none|exact bnd_leaf|apply bnd_ite|apply bnd_cond|apply bnd_sum|(apply bnd_bind;intro _)|intro _
def n_Z84 : Nat → Int → Int → Int → List D → Int → Int → List D → Int → Int → Int → List D → Int → List D → Option (Int × List D × Int × Int × Int × List D × Int × List D)
 | 0, _, _, _, _, _, _, _, _, _, _, _, _, _ => none
 | n + 1, x0, x1, x2, x3, x4, x5, x6, x7, x8, x9, x10, x11, x12 => c_Z84 (n_Z84 n) x0 x1 x2 x3 x4 x5 x6 x7 x8 x9 x10 x11 x12 some
noncomputable def Z84 (x0 : Int) (x1 : Int) (x2 : Int) (x3 : List D) (x4 : Int) (x5 : Int) (x6 : List D) (x7 : Int) (x8 : Int) (x9 : Int) (x10 : List D) (x11 : Int) (x12 : List D) : Option (Int × List D × Int × Int × Int × List D × Int × List D) := ev (fun n => n_Z84 n x0 x1 x2 x3 x4 x5 x6 x7 x8 x9 x10 x11 x12)
def m_Z84 (F : Int → Int → Int → List D → Int → Int → List D → Int → Int → Int → List D → Int → List D → Option (Int × List D × Int × Int × Int × List D × Int × List D)) : Lent := ⟨6, ⟨(.undef :: .undef :: .fn 127 [] :: .ptr 1000 [0] :: .ptr 1001 [0] :: .undef :: .undef :: .int .i64 :: .int .i64 :: .int .i64 :: .undef :: .undef :: .undef :: .rd (.int .i64) :: .int .i64 :: .int .i64 :: uu 5 (.rd (.int .i64) :: .int .i64 :: .int .i64 :: uu 22 ([]))), [(1000, .obox (.agg [.int .i64, .rd (.int .i64)])), (1001, .obox (.agg [.int .i64, .rd (.int .i64)]))]⟩, [(.exit 2, ⟨(.undef :: .undef :: .fn 127 [] :: .ptr 1000 [0] :: .ptr 1001 [0] :: .undef :: .undef :: .int .i64 :: uu 5 (.rd (.int .i64) :: .int .i64 :: .int .i64 :: uu 30 ([]))), [(1000, .obox (.agg [.int .i64, .rd (.int .i64)])), (1001, .obox (.agg [.int .i64, .rd (.int .i64)]))]⟩)], fun _ ds k => dI (fun x0 ds => dI (fun x1 ds => dI (fun x2 ds => dL (fun x3 ds => dI (fun x4 ds => dI (fun x5 ds => dL (fun x6 ds => dI (fun x7 ds => dI (fun x8 ds => dI (fun x9 ds => dL (fun x10 ds => dI (fun x11 ds => dL (fun x12 ds => dE ((F x0 x1 x2 x3 x4 x5 x6 x7 x8 x9 x10 x11 x12).bind (fun y => k 0 [.I y.1, .L y.2.1, .I y.2.2.1, .I y.2.2.2.1, .I y.2.2.2.2.1, .L y.2.2.2.2.2.1, .I y.2.2.2.2.2.2.1, .L y.2.2.2.2.2.2.2])) ds) ds) ds) ds) ds) ds) ds) ds) ds) ds) ds) ds) ds) ds⟩
theorem q_Z84 (F : Int → Int → Int → List D → Int → Int → List D → Int → Int → Int → List D → Int → List D → Option (Int × List D × Int × Int × Int × List D × Int × List D)) (x0 : Int) (x1 : Int) (x2 : Int) (x3 : List D) (x4 : Int) (x5 : Int) (x6 : List D) (x7 : Int) (x8 : Int) (x9 : Int) (x10 : List D) (x11 : Int) (x12 : List D) : runLoop (ocOf [e_Z83]) (olOf [m_Z84 F]) A 105 (codeAt (bodyOf Try.f105) 6) ((m_Z84 F).sh.mk' [.I x0, .I x1, .I x2, .L x3, .I x4, .I x5, .L x6, .I x7, .I x8, .I x9, .L x10, .I x11, .L x12]) (fun e σ' => some (e, σ')) = c_Z84 F x0 x1 x2 x3 x4 x5 x6 x7 x8 x9 x10 x11 x12 (fun y => some (.exit 2, SSt.mk' ⟨(.undef :: .undef :: .fn 127 [] :: .ptr 1000 [0] :: .ptr 1001 [0] :: .undef :: .undef :: .int .i64 :: uu 5 (.rd (.int .i64) :: .int .i64 :: .int .i64 :: uu 30 ([]))), [(1000, .obox (.agg [.int .i64, .rd (.int .i64)])), (1001, .obox (.agg [.int .i64, .rd (.int .i64)]))]⟩ [.I y.1, .L y.2.1, .I y.2.2.1, .I y.2.2.2.1, .I y.2.2.2.2.1, .L y.2.2.2.2.2.1, .I y.2.2.2.2.2.2.1, .L y.2.2.2.2.2.2.2])) := by kernel_rfl
theorem m_Z84_ok : ∀ n, (m_Z84 (n_Z84 n)).ok Try.prog (codeAt (bodyOf Try.f105) 6) := by
 intro n
 induction n with
 | zero =>
  intro R ds k r h
  unfold m_Z84 at h
  obtain ⟨x0, d0, rfl, h0⟩ := dI_some h
  obtain ⟨x1, d1, rfl, h1⟩ := dI_some h0
  obtain ⟨x2, d2, rfl, h2⟩ := dI_some h1
  obtain ⟨x3, d3, rfl, h3⟩ := dL_some h2
  obtain ⟨x4, d4, rfl, h4⟩ := dI_some h3
  obtain ⟨x5, d5, rfl, h5⟩ := dI_some h4
  obtain ⟨x6, d6, rfl, h6⟩ := dL_some h5
  obtain ⟨x7, d7, rfl, h7⟩ := dI_some h6
  obtain ⟨x8, d8, rfl, h8⟩ := dI_some h7
  obtain ⟨x9, d9, rfl, h9⟩ := dI_some h8
  obtain ⟨x10, d10, rfl, h10⟩ := dL_some h9
  obtain ⟨x11, d11, rfl, h11⟩ := dI_some h10
  obtain ⟨x12, d12, rfl, h12⟩ := dL_some h11
  obtain ⟨rfl, hE⟩ := dE_some h12
  obtain ⟨y, hy, hk⟩ := bnd_some hE
  cases hy
 | succ n ih =>
  intro R ds k r h
  unfold m_Z84 at h
  obtain ⟨x0, d0, rfl, h0⟩ := dI_some h
  obtain ⟨x1, d1, rfl, h1⟩ := dI_some h0
  obtain ⟨x2, d2, rfl, h2⟩ := dI_some h1
  obtain ⟨x3, d3, rfl, h3⟩ := dL_some h2
  obtain ⟨x4, d4, rfl, h4⟩ := dI_some h3
  obtain ⟨x5, d5, rfl, h5⟩ := dI_some h4
  obtain ⟨x6, d6, rfl, h6⟩ := dL_some h5
  obtain ⟨x7, d7, rfl, h7⟩ := dI_some h6
  obtain ⟨x8, d8, rfl, h8⟩ := dI_some h7
  obtain ⟨x9, d9, rfl, h9⟩ := dI_some h8
  obtain ⟨x10, d10, rfl, h10⟩ := dL_some h9
  obtain ⟨x11, d11, rfl, h11⟩ := dI_some h10
  obtain ⟨x12, d12, rfl, h12⟩ := dL_some h11
  obtain ⟨rfl, hE⟩ := dE_some h12
  obtain ⟨y, hy, hk⟩ := bnd_some hE
  have hq := q_Z84 (n_Z84 n) x0 x1 x2 x3 x4 x5 x6 x7 x8 x9 x10 x11 x12
  rw [c_Z84_bind] at hq
  rw [show c_Z84 (n_Z84 n) x0 x1 x2 x3 x4 x5 x6 x7 x8 x9 x10 x11 x12 some = some y from hy] at hq
  refine ⟨0, _, _, _, hk, rfl, loop_ok px (fx := ⟨Try.func105, by kernel_rfl, by kernel_rfl⟩) (entsOK_cons e_Z83_ok entsOK_nil) (lentsOK_cons ih lentsOK_nil) (by kernel_rfl) ?_⟩
  exact hq
noncomputable def e_Z84 : Lent := m_Z84 (Z84)
theorem e_Z84_ok : (e_Z84).ok Try.prog (codeAt (bodyOf Try.f105) 6) := by
 intro R ds k r h
 unfold e_Z84 m_Z84 at h
 obtain ⟨x0, d0, rfl, h0⟩ := dI_some h
 obtain ⟨x1, d1, rfl, h1⟩ := dI_some h0
 obtain ⟨x2, d2, rfl, h2⟩ := dI_some h1
 obtain ⟨x3, d3, rfl, h3⟩ := dL_some h2
 obtain ⟨x4, d4, rfl, h4⟩ := dI_some h3
 obtain ⟨x5, d5, rfl, h5⟩ := dI_some h4
 obtain ⟨x6, d6, rfl, h6⟩ := dL_some h5
 obtain ⟨x7, d7, rfl, h7⟩ := dI_some h6
 obtain ⟨x8, d8, rfl, h8⟩ := dI_some h7
 obtain ⟨x9, d9, rfl, h9⟩ := dI_some h8
 obtain ⟨x10, d10, rfl, h10⟩ := dL_some h9
 obtain ⟨x11, d11, rfl, h11⟩ := dI_some h10
 obtain ⟨x12, d12, rfl, h12⟩ := dL_some h11
 obtain ⟨rfl, hE⟩ := dE_some h12
 obtain ⟨y, hy, hk⟩ := bnd_some hE
 obtain ⟨n, hn⟩ := ev_some hy
 exact m_Z84_ok n R _ k r (show (n_Z84 n x0 x1 x2 x3 x4 x5 x6 x7 x8 x9 x10 x11 x12).bind _ = _ by rw [hn]; exact hk)

/-!-/
def c_Z85 {R : Type} (F : Int → List D → Int → Int → Int → List D → Int → List D → Option (Int)) (x0 : Int) (x1 : List D) (x2 : Int) (x3 : Int) (x4 : Int) (x5 : List D) (x6 : Int) (x7 : List D) (k : Int → Option R) : Option R :=
 bif decide (x3 < x2) then
 if 0 ≤ x3 ∧ x3 < (↑x1.length : Int) then
 (Z84 x0 x3 ((x1.getD x3.toNat (D.int 0)).toInt) x1 x2 x3 x7 (↑x7.length : Int) (0 : Int) x4 x5 x6 x7).bind (fun y0 =>
 (F y0.fst y0.snd.fst y0.snd.snd.fst (IntKind.i64.wrap (y0.snd.snd.snd.fst + 1)) y0.snd.snd.snd.snd.fst y0.snd.snd.snd.snd.snd.fst y0.snd.snd.snd.snd.snd.snd.fst y0.snd.snd.snd.snd.snd.snd.snd).bind k)
 else
 none
 else
 k x0
theorem c_Z85_bind {R : Type} (F : Int → List D → Int → Int → Int → List D → Int → List D → Option (Int)) (x0 : Int) (x1 : List D) (x2 : Int) (x3 : Int) (x4 : Int) (x5 : List D) (x6 : Int) (x7 : List D) (k : Int → Option R) : c_Z85 F x0 x1 x2 x3 x4 x5 x6 x7 k = (c_Z85 F x0 x1 x2 x3 x4 x5 x6 x7 some).bind k := by
 unfold c_Z85
 repeat' first|exact bnd_tail|exact bnd_none|exact bnd_leaf|apply bnd_ite|apply bnd_cond|apply bnd_sum|(apply bnd_bind;intro _)|intro _
def n_Z85 : Nat → Int → List D → Int → Int → Int → List D → Int → List D → Option (Int)
 | 0, _, _, _, _, _, _, _, _ => none
 | n + 1, x0, x1, x2, x3, x4, x5, x6, x7 => c_Z85 (n_Z85 n) x0 x1 x2 x3 x4 x5 x6 x7 some
noncomputable def Z85 (x0 : Int) (x1 : List D) (x2 : Int) (x3 : Int) (x4 : Int) (x5 : List D) (x6 : Int) (x7 : List D) : Option (Int) := ev (fun n => n_Z85 n x0 x1 x2 x3 x4 x5 x6 x7)
def m_Z85 (F : Int → List D → Int → Int → Int → List D → Int → List D → Option (Int)) : Lent := ⟨3, ⟨(.undef :: .undef :: .fn 127 [] :: .ptr 1000 [0] :: .ptr 1001 [0] :: .undef :: .undef :: .int .i64 :: uu 5 (.rd (.int .i64) :: .int .i64 :: .int .i64 :: uu 30 ([]))), [(1000, .obox (.agg [.int .i64, .rd (.int .i64)])), (1001, .obox (.agg [.int .i64, .rd (.int .i64)]))]⟩, [(.exit 0, ⟨(uu 7 (.int .i64 :: uu 38 ([]))), []⟩)], fun _ ds k => dI (fun x0 ds => dL (fun x1 ds => dI (fun x2 ds => dI (fun x3 ds => dI (fun x4 ds => dL (fun x5 ds => dI (fun x6 ds => dL (fun x7 ds => dE ((F x0 x1 x2 x3 x4 x5 x6 x7).bind (fun y => k 0 [.I y])) ds) ds) ds) ds) ds) ds) ds) ds) ds⟩
theorem q_Z85 (F : Int → List D → Int → Int → Int → List D → Int → List D → Option (Int)) (x0 : Int) (x1 : List D) (x2 : Int) (x3 : Int) (x4 : Int) (x5 : List D) (x6 : Int) (x7 : List D) : runLoop (ocOf []) (olOf [m_Z85 F, e_Z84]) A 105 (codeAt (bodyOf Try.f105) 3) ((m_Z85 F).sh.mk' [.I x0, .L x1, .I x2, .I x3, .I x4, .L x5, .I x6, .L x7]) (fun e σ' => some (e, σ')) = c_Z85 F x0 x1 x2 x3 x4 x5 x6 x7 (fun y => some (.exit 0, SSt.mk' ⟨(uu 7 (.int .i64 :: uu 38 ([]))), []⟩ [.I y])) := by kernel_rfl
theorem m_Z85_ok : ∀ n, (m_Z85 (n_Z85 n)).ok Try.prog (codeAt (bodyOf Try.f105) 3) := by
 intro n
 induction n with
 | zero =>
  intro R ds k r h
  unfold m_Z85 at h
  obtain ⟨x0, d0, rfl, h0⟩ := dI_some h
  obtain ⟨x1, d1, rfl, h1⟩ := dL_some h0
  obtain ⟨x2, d2, rfl, h2⟩ := dI_some h1
  obtain ⟨x3, d3, rfl, h3⟩ := dI_some h2
  obtain ⟨x4, d4, rfl, h4⟩ := dI_some h3
  obtain ⟨x5, d5, rfl, h5⟩ := dL_some h4
  obtain ⟨x6, d6, rfl, h6⟩ := dI_some h5
  obtain ⟨x7, d7, rfl, h7⟩ := dL_some h6
  obtain ⟨rfl, hE⟩ := dE_some h7
  obtain ⟨y, hy, hk⟩ := bnd_some hE
  cases hy
 | succ n ih =>
  intro R ds k r h
  unfold m_Z85 at h
  obtain ⟨x0, d0, rfl, h0⟩ := dI_some h
  obtain ⟨x1, d1, rfl, h1⟩ := dL_some h0
  obtain ⟨x2, d2, rfl, h2⟩ := dI_some h1
  obtain ⟨x3, d3, rfl, h3⟩ := dI_some h2
  obtain ⟨x4, d4, rfl, h4⟩ := dI_some h3
  obtain ⟨x5, d5, rfl, h5⟩ := dL_some h4
  obtain ⟨x6, d6, rfl, h6⟩ := dI_some h5
  obtain ⟨x7, d7, rfl, h7⟩ := dL_some h6
  obtain ⟨rfl, hE⟩ := dE_some h7
  obtain ⟨y, hy, hk⟩ := bnd_some hE
  have hq := q_Z85 (n_Z85 n) x0 x1 x2 x3 x4 x5 x6 x7
  rw [c_Z85_bind] at hq
  rw [show c_Z85 (n_Z85 n) x0 x1 x2 x3 x4 x5 x6 x7 some = some y from hy] at hq
  refine ⟨0, _, _, _, hk, rfl, loop_ok px (fx := ⟨Try.func105, by kernel_rfl, by kernel_rfl⟩) entsOK_nil (lentsOK_cons ih (lentsOK_cons e_Z84_ok lentsOK_nil)) (by kernel_rfl) ?_⟩
  exact hq
noncomputable def e_Z85 : Lent := m_Z85 (Z85)
theorem e_Z85_ok : (e_Z85).ok Try.prog (codeAt (bodyOf Try.f105) 3) := by
 intro R ds k r h
 unfold e_Z85 m_Z85 at h
 obtain ⟨x0, d0, rfl, h0⟩ := dI_some h
 obtain ⟨x1, d1, rfl, h1⟩ := dL_some h0
 obtain ⟨x2, d2, rfl, h2⟩ := dI_some h1
 obtain ⟨x3, d3, rfl, h3⟩ := dI_some h2
 obtain ⟨x4, d4, rfl, h4⟩ := dI_some h3
 obtain ⟨x5, d5, rfl, h5⟩ := dL_some h4
 obtain ⟨x6, d6, rfl, h6⟩ := dI_some h5
 obtain ⟨x7, d7, rfl, h7⟩ := dL_some h6
 obtain ⟨rfl, hE⟩ := dE_some h7
 obtain ⟨y, hy, hk⟩ := bnd_some hE
 obtain ⟨n, hn⟩ := ev_some hy
 exact m_Z85_ok n R _ k r (show (n_Z85 n x0 x1 x2 x3 x4 x5 x6 x7).bind _ = _ by rw [hn]; exact hk)

/-!-/
def c_Z86 {R : Type} (x0 : Int) (x1 : List D) (x2 : Int) (x3 : List D) (k : Int → Option R) : Option R :=
 (Z85 (0 : Int) x1 (↑x1.length : Int) (0 : Int) x0 x1 x2 x3).bind (fun y0 =>
 k y0)
theorem c_Z86_bind {R : Type} (x0 : Int) (x1 : List D) (x2 : Int) (x3 : List D) (k : Int → Option R) : c_Z86 x0 x1 x2 x3 k = (c_Z86 x0 x1 x2 x3 some).bind k := by
 unfold c_Z86
 repeat' first|exact bnd_tail|exact bnd_none|exact bnd_leaf|apply bnd_ite|apply bnd_cond|apply bnd_sum|(apply bnd_bind;intro _)|intro _
def Z86 (x0 : Int) (x1 : List D) (x2 : Int) (x3 : List D) : Option (Int) := c_Z86 x0 x1 x2 x3 some
def e_Z86 : Ent := ⟨105, [.agg [.int .i64, .rd (.int .i64)], .agg [.int .i64, .rd (.int .i64)], .fn 127 []], .int .i64, [.undef, .undef, .undef], fun _ ds k => dI (fun x0 ds => dL (fun x1 ds => dI (fun x2 ds => dL (fun x3 ds => dE ((Z86 x0 x1 x2 x3).bind (fun y => k [.I y])) ds) ds) ds) ds) ds⟩
theorem q_Z86 (x0 : Int) (x1 : List D) (x2 : Int) (x3 : List D) : runFn (ocOf []) (olOf [e_Z85]) A 105 Try.f105 (Sh.mks e_Z86.sh [.I x0, .L x1, .I x2, .L x3]).1 (fun v os => some (v, os)) = c_Z86 x0 x1 x2 x3 (fun y => some ((e_Z86.res.mk [.I y]).1, (Sh.mks e_Z86.outs (e_Z86.res.mk [.I y]).2).1)) := by kernel_rfl
theorem e_Z86_ok : e_Z86.ok Try.prog A := by
 intro R ds k r h
 unfold e_Z86 at h
 obtain ⟨x0, d0, rfl, h0⟩ := dI_some h
 obtain ⟨x1, d1, rfl, h1⟩ := dL_some h0
 obtain ⟨x2, d2, rfl, h2⟩ := dI_some h1
 obtain ⟨x3, d3, rfl, h3⟩ := dL_some h2
 obtain ⟨rfl, hE⟩ := dE_some h3
 obtain ⟨y, hy, hk⟩ := bnd_some hE
 refine ⟨_, hk, fn_ok px (fx := ⟨Try.func105, by kernel_rfl, by kernel_rfl⟩) entsOK_nil (lentsOK_cons e_Z85_ok lentsOK_nil) ?_⟩
 have hq := q_Z86 x0 x1 x2 x3
 rw [c_Z86_bind] at hq
 rw [show c_Z86 x0 x1 x2 x3 some = some y from hy] at hq
 exact hq

/-!-/
def c_Z87 {R : Type} (x0 : Int) (x1 : List D) (x2 : Int) (x3 : List D) (k : Int × Int × Bool → Option R) : Option R :=
 (Z33 x0 x1).bind (fun y0 =>
 bif !y0 then
 k ((0 : Int), (0 : Int), Bool.false)
 else
 (Z33 x2 x3).bind (fun y1 =>
 bif !y1 then
 k ((0 : Int), (0 : Int), Bool.false)
 else
 (Z82 x0 x1 x2 x3).bind (fun y2 =>
 (Z86 x0 x1 x2 x3).bind (fun y3 =>
 bif decide (y3 = (0 : Int)) then
 k ((0 : Int), (0 : Int), Bool.false)
 else
 k (y2, y3, Bool.true)))))
theorem c_Z87_bind {R : Type} (x0 : Int) (x1 : List D) (x2 : Int) (x3 : List D) (k : Int × Int × Bool → Option R) : c_Z87 x0 x1 x2 x3 k = (c_Z87 x0 x1 x2 x3 some).bind k := by
 unfold c_Z87
 repeat' first|exact bnd_tail|exact bnd_none|exact bnd_leaf|apply bnd_ite|apply bnd_cond|apply bnd_sum|(apply bnd_bind;intro _)|intro _
def Z87 (x0 : Int) (x1 : List D) (x2 : Int) (x3 : List D) : Option (Int × Int × Bool) := c_Z87 x0 x1 x2 x3 some
def e_Z87 : Ent := ⟨57, [.agg [.int .i64, .rd (.int .i64)], .agg [.int .i64, .rd (.int .i64)]], .tup [.int .i64, .int .i64, .bool], [.undef, .undef], fun _ ds k => dI (fun x0 ds => dL (fun x1 ds => dI (fun x2 ds => dL (fun x3 ds => dE ((Z87 x0 x1 x2 x3).bind (fun y => k [.I y.1, .I y.2.1, .B y.2.2])) ds) ds) ds) ds) ds⟩
theorem q_Z87 (x0 : Int) (x1 : List D) (x2 : Int) (x3 : List D) : runFn (ocOf [e_Z33, e_Z82, e_Z86]) (olOf []) A 57 Try.f57 (Sh.mks e_Z87.sh [.I x0, .L x1, .I x2, .L x3]).1 (fun v os => some (v, os)) = c_Z87 x0 x1 x2 x3 (fun y => some ((e_Z87.res.mk [.I y.1, .I y.2.1, .B y.2.2]).1, (Sh.mks e_Z87.outs (e_Z87.res.mk [.I y.1, .I y.2.1, .B y.2.2]).2).1)) := by kernel_rfl
theorem e_Z87_ok : e_Z87.ok Try.prog A := by
 intro R ds k r h
 unfold e_Z87 at h
 obtain ⟨x0, d0, rfl, h0⟩ := dI_some h
 obtain ⟨x1, d1, rfl, h1⟩ := dL_some h0
 obtain ⟨x2, d2, rfl, h2⟩ := dI_some h1
 obtain ⟨x3, d3, rfl, h3⟩ := dL_some h2
 obtain ⟨rfl, hE⟩ := dE_some h3
 obtain ⟨y, hy, hk⟩ := bnd_some hE
 refine ⟨_, hk, fn_ok px (fx := ⟨Try.func57, by kernel_rfl, by kernel_rfl⟩) (entsOK_cons e_Z33_ok (entsOK_cons e_Z82_ok (entsOK_cons e_Z86_ok entsOK_nil))) lentsOK_nil ?_⟩
 have hq := q_Z87 x0 x1 x2 x3
 rw [c_Z87_bind] at hq
 rw [show c_Z87 x0 x1 x2 x3 some = some y from hy] at hq
 exact hq

/-!-/
def c_Z88 {R : Type} (F : Int → Int → Int → Int → Int → List D → Int → List D → Option (Int × Int × Int × Int × List D × Int × List D)) (x0 : Int) (x1 : Int) (x2 : Int) (x3 : Int) (x4 : Int) (x5 : List D) (x6 : Int) (x7 : List D) (k : Int × Int × Int × Int × List D × Int × List D → Option R) : Option R :=
 bif decide (x3 < (↑x7.length : Int)) then
 if 0 ≤ x2 ∧ x2 < (↑x5.length : Int) then
 if 0 ≤ x3 ∧ x3 < (↑x7.length : Int) then
 bif decide (IntKind.i64.wrap (x4 + x2) < IntKind.i64.wrap (x6 + x3)) then
 bif decide (IntKind.i64.wrap (x4 + x2) ≤ IntKind.i64.wrap (x6 + x3)) then
 (F (IntKind.i64.wrap (x0 + IntKind.i64.wrap ((x5.getD x2.toNat (D.int 0)).toInt * (x7.getD x3.toNat (D.int 0)).toInt))) (IntKind.i64.wrap (x1 + IntKind.i64.wrap ((x5.getD x2.toNat (D.int 0)).toInt * (x7.getD x3.toNat (D.int 0)).toInt))) x2 (IntKind.i64.wrap (x3 + 1)) x4 x5 x6 x7).bind k
 else
 (F (IntKind.i64.wrap (x0 + IntKind.i64.wrap ((x5.getD x2.toNat (D.int 0)).toInt * (x7.getD x3.toNat (D.int 0)).toInt))) x1 x2 (IntKind.i64.wrap (x3 + 1)) x4 x5 x6 x7).bind k
 else
 bif decide (IntKind.i64.wrap (x4 + x2) ≤ IntKind.i64.wrap (x6 + x3)) then
 (F x0 (IntKind.i64.wrap (x1 + IntKind.i64.wrap ((x5.getD x2.toNat (D.int 0)).toInt * (x7.getD x3.toNat (D.int 0)).toInt))) x2 (IntKind.i64.wrap (x3 + 1)) x4 x5 x6 x7).bind k
 else
 (F x0 x1 x2 (IntKind.i64.wrap (x3 + 1)) x4 x5 x6 x7).bind k
 else
 none
 else
 none
 else
 k (x0, x1, x2, x4, x5, x6, x7)
theorem c_Z88_bind {R : Type} (F : Int → Int → Int → Int → Int → List D → Int → List D → Option (Int × Int × Int × Int × List D × Int × List D)) (x0 : Int) (x1 : Int) (x2 : Int) (x3 : Int) (x4 : Int) (x5 : List D) (x6 : Int) (x7 : List D) (k : Int × Int × Int × Int × List D × Int × List D → Option R) : c_Z88 F x0 x1 x2 x3 x4 x5 x6 x7 k = (c_Z88 F x0 x1 x2 x3 x4 x5 x6 x7 some).bind k := by
 unfold c_Z88
 repeat' first|exact bnd_tail|exact bnd_none|exact bnd_leaf|apply bnd_ite|apply bnd_cond|apply bnd_sum|(apply bnd_bind;intro _)|intro _
def n_Z88 : Nat → Int → Int → Int → Int → Int → List D → Int → List D → Option (Int × Int × Int × Int × List D × Int × List D)
 | 0, _, _, _, _, _, _, _, _ => none
 | n + 1, x0, x1, x2, x3, x4, x5, x6, x7 => c_Z88 (n_Z88 n) x0 x1 x2 x3 x4 x5 x6 x7 some
noncomputable def Z88 (x0 : Int) (x1 : Int) (x2 : Int) (x3 : Int) (x4 : Int) (x5 : List D) (x6 : Int) (x7 : List D) : Option (Int × Int × Int × Int × List D × Int × List D) := ev (fun n => n_Z88 n x0 x1 x2 x3 x4 x5 x6 x7)
def m_Z88 (F : Int → Int → Int → Int → Int → List D → Int → List D → Option (Int × Int × Int × Int × List D × Int × List D)) : Lent := ⟨8, ⟨(.undef :: .undef :: .ptr 1000 [0] :: .ptr 1001 [0] :: .undef :: .undef :: .undef :: .int .i64 :: .int .i64 :: .int .i64 :: .int .i64 :: uu 62 ([])), [(1000, .obox (.agg [.int .i64, .rd (.int .i64)])), (1001, .obox (.agg [.int .i64, .rd (.int .i64)]))]⟩, [(.exit 2, ⟨(.undef :: .undef :: .ptr 1000 [0] :: .ptr 1001 [0] :: .undef :: .undef :: .undef :: .int .i64 :: .int .i64 :: .int .i64 :: uu 63 ([])), [(1000, .obox (.agg [.int .i64, .rd (.int .i64)])), (1001, .obox (.agg [.int .i64, .rd (.int .i64)]))]⟩)], fun _ ds k => dI (fun x0 ds => dI (fun x1 ds => dI (fun x2 ds => dI (fun x3 ds => dI (fun x4 ds => dL (fun x5 ds => dI (fun x6 ds => dL (fun x7 ds => dE ((F x0 x1 x2 x3 x4 x5 x6 x7).bind (fun y => k 0 [.I y.1, .I y.2.1, .I y.2.2.1, .I y.2.2.2.1, .L y.2.2.2.2.1, .I y.2.2.2.2.2.1, .L y.2.2.2.2.2.2])) ds) ds) ds) ds) ds) ds) ds) ds) ds⟩
theorem q_Z88 (F : Int → Int → Int → Int → Int → List D → Int → List D → Option (Int × Int × Int × Int × List D × Int × List D)) (x0 : Int) (x1 : Int) (x2 : Int) (x3 : Int) (x4 : Int) (x5 : List D) (x6 : Int) (x7 : List D) : runLoop (ocOf []) (olOf [m_Z88 F]) A 58 (codeAt (bodyOf Try.f58) 8) ((m_Z88 F).sh.mk' [.I x0, .I x1, .I x2, .I x3, .I x4, .L x5, .I x6, .L x7]) (fun e σ' => some (e, σ')) = c_Z88 F x0 x1 x2 x3 x4 x5 x6 x7 (fun y => some (.exit 2, SSt.mk' ⟨(.undef :: .undef :: .ptr 1000 [0] :: .ptr 1001 [0] :: .undef :: .undef :: .undef :: .int .i64 :: .int .i64 :: .int .i64 :: uu 63 ([])), [(1000, .obox (.agg [.int .i64, .rd (.int .i64)])), (1001, .obox (.agg [.int .i64, .rd (.int .i64)]))]⟩ [.I y.1, .I y.2.1, .I y.2.2.1, .I y.2.2.2.1, .L y.2.2.2.2.1, .I y.2.2.2.2.2.1, .L y.2.2.2.2.2.2])) := by kernel_rfl
theorem m_Z88_ok : ∀ n, (m_Z88 (n_Z88 n)).ok Try.prog (codeAt (bodyOf Try.f58) 8) := by
 intro n
 induction n with
 | zero =>
  intro R ds k r h
  unfold m_Z88 at h
  obtain ⟨x0, d0, rfl, h0⟩ := dI_some h
  obtain ⟨x1, d1, rfl, h1⟩ := dI_some h0
  obtain ⟨x2, d2, rfl, h2⟩ := dI_some h1
  obtain ⟨x3, d3, rfl, h3⟩ := dI_some h2
  obtain ⟨x4, d4, rfl, h4⟩ := dI_some h3
  obtain ⟨x5, d5, rfl, h5⟩ := dL_some h4
  obtain ⟨x6, d6, rfl, h6⟩ := dI_some h5
  obtain ⟨x7, d7, rfl, h7⟩ := dL_some h6
  obtain ⟨rfl, hE⟩ := dE_some h7
  obtain ⟨y, hy, hk⟩ := bnd_some hE
  cases hy
 | succ n ih =>
  intro R ds k r h
  unfold m_Z88 at h
  obtain ⟨x0, d0, rfl, h0⟩ := dI_some h
  obtain ⟨x1, d1, rfl, h1⟩ := dI_some h0
  obtain ⟨x2, d2, rfl, h2⟩ := dI_some h1
  obtain ⟨x3, d3, rfl, h3⟩ := dI_some h2
  obtain ⟨x4, d4, rfl, h4⟩ := dI_some h3
  obtain ⟨x5, d5, rfl, h5⟩ := dL_some h4
  obtain ⟨x6, d6, rfl, h6⟩ := dI_some h5
  obtain ⟨x7, d7, rfl, h7⟩ := dL_some h6
  obtain ⟨rfl, hE⟩ := dE_some h7
  obtain ⟨y, hy, hk⟩ := bnd_some hE
  have hq := q_Z88 (n_Z88 n) x0 x1 x2 x3 x4 x5 x6 x7
  rw [c_Z88_bind] at hq
  rw [show c_Z88 (n_Z88 n) x0 x1 x2 x3 x4 x5 x6 x7 some = some y from hy] at hq
  refine ⟨0, _, _, _, hk, rfl, loop_ok px (fx := ⟨Try.func58, by kernel_rfl, by kernel_rfl⟩) entsOK_nil (lentsOK_cons ih lentsOK_nil) (by kernel_rfl) ?_⟩
  exact hq
noncomputable def e_Z88 : Lent := m_Z88 (Z88)
theorem e_Z88_ok : (e_Z88).ok Try.prog (codeAt (bodyOf Try.f58) 8) := by
 intro R ds k r h
 unfold e_Z88 m_Z88 at h
 obtain ⟨x0, d0, rfl, h0⟩ := dI_some h
 obtain ⟨x1, d1, rfl, h1⟩ := dI_some h0
 obtain ⟨x2, d2, rfl, h2⟩ := dI_some h1
 obtain ⟨x3, d3, rfl, h3⟩ := dI_some h2
 obtain ⟨x4, d4, rfl, h4⟩ := dI_some h3
 obtain ⟨x5, d5, rfl, h5⟩ := dL_some h4
 obtain ⟨x6, d6, rfl, h6⟩ := dI_some h5
 obtain ⟨x7, d7, rfl, h7⟩ := dL_some h6
 obtain ⟨rfl, hE⟩ := dE_some h7
 obtain ⟨y, hy, hk⟩ := bnd_some hE
 obtain ⟨n, hn⟩ := ev_some hy
 exact m_Z88_ok n R _ k r (show (n_Z88 n x0 x1 x2 x3 x4 x5 x6 x7).bind _ = _ by rw [hn]; exact hk)

/-!-/
def c_Z89 {R : Type} (F : Int → Int → Int → Int → List D → Int → List D → Option (Int × Int)) (x0 : Int) (x1 : Int) (x2 : Int) (x3 : Int) (x4 : List D) (x5 : Int) (x6 : List D) (k : Int × Int → Option R) : Option R :=
 bif decide (x2 < (↑x4.length : Int)) then
 (Z88 x0 x1 x2 (0 : Int) x3 x4 x5 x6).bind (fun y0 =>
 (F y0.fst y0.snd.fst (IntKind.i64.wrap (y0.snd.snd.fst + 1)) y0.snd.snd.snd.fst y0.snd.snd.snd.snd.fst y0.snd.snd.snd.snd.snd.fst y0.snd.snd.snd.snd.snd.snd).bind k)
 else
 k (x0, x1)
theorem c_Z89_bind {R : Type} (F : Int → Int → Int → Int → List D → Int → List D → Option (Int × Int)) (x0 : Int) (x1 : Int) (x2 : Int) (x3 : Int) (x4 : List D) (x5 : Int) (x6 : List D) (k : Int × Int → Option R) : c_Z89 F x0 x1 x2 x3 x4 x5 x6 k = (c_Z89 F x0 x1 x2 x3 x4 x5 x6 some).bind k := by
 unfold c_Z89
 repeat' first|exact bnd_tail|exact bnd_none|exact bnd_leaf|apply bnd_ite|apply bnd_cond|apply bnd_sum|(apply bnd_bind;intro _)|intro _
def n_Z89 : Nat → Int → Int → Int → Int → List D → Int → List D → Option (Int × Int)
 | 0, _, _, _, _, _, _, _ => none
 | n + 1, x0, x1, x2, x3, x4, x5, x6 => c_Z89 (n_Z89 n) x0 x1 x2 x3 x4 x5 x6 some
noncomputable def Z89 (x0 : Int) (x1 : Int) (x2 : Int) (x3 : Int) (x4 : List D) (x5 : Int) (x6 : List D) : Option (Int × Int) := ev (fun n => n_Z89 n x0 x1 x2 x3 x4 x5 x6)
def m_Z89 (F : Int → Int → Int → Int → List D → Int → List D → Option (Int × Int)) : Lent := ⟨5, ⟨(.undef :: .undef :: .ptr 1000 [0] :: .ptr 1001 [0] :: .undef :: .undef :: .undef :: .int .i64 :: .int .i64 :: .int .i64 :: uu 63 ([])), [(1000, .obox (.agg [.int .i64, .rd (.int .i64)])), (1001, .obox (.agg [.int .i64, .rd (.int .i64)]))]⟩, [(.exit 0, ⟨(uu 7 (.int .i64 :: .int .i64 :: uu 64 ([]))), []⟩)], fun _ ds k => dI (fun x0 ds => dI (fun x1 ds => dI (fun x2 ds => dI (fun x3 ds => dL (fun x4 ds => dI (fun x5 ds => dL (fun x6 ds => dE ((F x0 x1 x2 x3 x4 x5 x6).bind (fun y => k 0 [.I y.1, .I y.2])) ds) ds) ds) ds) ds) ds) ds) ds⟩
theorem q_Z89 (F : Int → Int → Int → Int → List D → Int → List D → Option (Int × Int)) (x0 : Int) (x1 : Int) (x2 : Int) (x3 : Int) (x4 : List D) (x5 : Int) (x6 : List D) : runLoop (ocOf []) (olOf [m_Z89 F, e_Z88]) A 58 (codeAt (bodyOf Try.f58) 5) ((m_Z89 F).sh.mk' [.I x0, .I x1, .I x2, .I x3, .L x4, .I x5, .L x6]) (fun e σ' => some (e, σ')) = c_Z89 F x0 x1 x2 x3 x4 x5 x6 (fun y => some (.exit 0, SSt.mk' ⟨(uu 7 (.int .i64 :: .int .i64 :: uu 64 ([]))), []⟩ [.I y.1, .I y.2])) := by kernel_rfl
theorem m_Z89_ok : ∀ n, (m_Z89 (n_Z89 n)).ok Try.prog (codeAt (bodyOf Try.f58) 5) := by
 intro n
 induction n with
 | zero =>
  intro R ds k r h
  unfold m_Z89 at h
  obtain ⟨x0, d0, rfl, h0⟩ := dI_some h
  obtain ⟨x1, d1, rfl, h1⟩ := dI_some h0
  obtain ⟨x2, d2, rfl, h2⟩ := dI_some h1
  obtain ⟨x3, d3, rfl, h3⟩ := dI_some h2
  obtain ⟨x4, d4, rfl, h4⟩ := dL_some h3
  obtain ⟨x5, d5, rfl, h5⟩ := dI_some h4
  obtain ⟨x6, d6, rfl, h6⟩ := dL_some h5
  obtain ⟨rfl, hE⟩ := dE_some h6
  obtain ⟨y, hy, hk⟩ := bnd_some hE
  cases hy
 | succ n ih =>
  intro R ds k r h
  unfold m_Z89 at h
  obtain ⟨x0, d0, rfl, h0⟩ := dI_some h
  obtain ⟨x1, d1, rfl, h1⟩ := dI_some h0
  obtain ⟨x2, d2, rfl, h2⟩ := dI_some h1
  obtain ⟨x3, d3, rfl, h3⟩ := dI_some h2
  obtain ⟨x4, d4, rfl, h4⟩ := dL_some h3
  obtain ⟨x5, d5, rfl, h5⟩ := dI_some h4
  obtain ⟨x6, d6, rfl, h6⟩ := dL_some h5
  obtain ⟨rfl, hE⟩ := dE_some h6
  obtain ⟨y, hy, hk⟩ := bnd_some hE
  have hq := q_Z89 (n_Z89 n) x0 x1 x2 x3 x4 x5 x6
  rw [c_Z89_bind] at hq
  rw [show c_Z89 (n_Z89 n) x0 x1 x2 x3 x4 x5 x6 some = some y from hy] at hq
  refine ⟨0, _, _, _, hk, rfl, loop_ok px (fx := ⟨Try.func58, by kernel_rfl, by kernel_rfl⟩) entsOK_nil (lentsOK_cons ih (lentsOK_cons e_Z88_ok lentsOK_nil)) (by kernel_rfl) ?_⟩
  exact hq
noncomputable def e_Z89 : Lent := m_Z89 (Z89)
theorem e_Z89_ok : (e_Z89).ok Try.prog (codeAt (bodyOf Try.f58) 5) := by
 intro R ds k r h
 unfold e_Z89 m_Z89 at h
 obtain ⟨x0, d0, rfl, h0⟩ := dI_some h
 obtain ⟨x1, d1, rfl, h1⟩ := dI_some h0
 obtain ⟨x2, d2, rfl, h2⟩ := dI_some h1
 obtain ⟨x3, d3, rfl, h3⟩ := dI_some h2
 obtain ⟨x4, d4, rfl, h4⟩ := dL_some h3
 obtain ⟨x5, d5, rfl, h5⟩ := dI_some h4
 obtain ⟨x6, d6, rfl, h6⟩ := dL_some h5
 obtain ⟨rfl, hE⟩ := dE_some h6
 obtain ⟨y, hy, hk⟩ := bnd_some hE
 obtain ⟨n, hn⟩ := ev_some hy
 exact m_Z89_ok n R _ k r (show (n_Z89 n x0 x1 x2 x3 x4 x5 x6).bind _ = _ by rw [hn]; exact hk)

/-!-/
def c_Z90 {R : Type} (x0 : Int) (x1 : List D) (x2 : Int) (x3 : List D) (k : Int × Int × Bool → Option R) : Option R :=
 (Z14 x0 x1).bind (fun y0 =>
 bif !y0 then
 k ((0 : Int), (0 : Int), Bool.false)
 else
 (Z14 x2 x3).bind (fun y1 =>
 bif !y1 then
 k ((0 : Int), (0 : Int), Bool.false)
 else
 (Z89 (0 : Int) (0 : Int) (0 : Int) x0 x1 x2 x3).bind (fun y2 =>
 bif decide (y2.snd = (0 : Int)) then
 k ((0 : Int), (0 : Int), Bool.false)
 else
 k (y2.fst, y2.snd, Bool.true))))
theorem c_Z90_bind {R : Type} (x0 : Int) (x1 : List D) (x2 : Int) (x3 : List D) (k : Int × Int × Bool → Option R) : c_Z90 x0 x1 x2 x3 k = (c_Z90 x0 x1 x2 x3 some).bind k := by
 unfold c_Z90
 repeat' first|exact bnd_tail|exact bnd_none|exact bnd_leaf|apply bnd_ite|apply bnd_cond|apply bnd_sum|(apply bnd_bind;intro _)|intro _
def Z90 (x0 : Int) (x1 : List D) (x2 : Int) (x3 : List D) : Option (Int × Int × Bool) := c_Z90 x0 x1 x2 x3 some
def e_Z90 : Ent := ⟨58, [.agg [.int .i64, .rd (.int .i64)], .agg [.int .i64, .rd (.int .i64)]], .tup [.int .i64, .int .i64, .bool], [.undef, .undef], fun _ ds k => dI (fun x0 ds => dL (fun x1 ds => dI (fun x2 ds => dL (fun x3 ds => dE ((Z90 x0 x1 x2 x3).bind (fun y => k [.I y.1, .I y.2.1, .B y.2.2])) ds) ds) ds) ds) ds⟩
theorem q_Z90 (x0 : Int) (x1 : List D) (x2 : Int) (x3 : List D) : runFn (ocOf [e_Z14]) (olOf [e_Z89]) A 58 Try.f58 (Sh.mks e_Z90.sh [.I x0, .L x1, .I x2, .L x3]).1 (fun v os => some (v, os)) = c_Z90 x0 x1 x2 x3 (fun y => some ((e_Z90.res.mk [.I y.1, .I y.2.1, .B y.2.2]).1, (Sh.mks e_Z90.outs (e_Z90.res.mk [.I y.1, .I y.2.1, .B y.2.2]).2).1)) := by kernel_rfl
theorem e_Z90_ok : e_Z90.ok Try.prog A := by
 intro R ds k r h
 unfold e_Z90 at h
 obtain ⟨x0, d0, rfl, h0⟩ := dI_some h
 obtain ⟨x1, d1, rfl, h1⟩ := dL_some h0
 obtain ⟨x2, d2, rfl, h2⟩ := dI_some h1
 obtain ⟨x3, d3, rfl, h3⟩ := dL_some h2
 obtain ⟨rfl, hE⟩ := dE_some h3
 obtain ⟨y, hy, hk⟩ := bnd_some hE
 refine ⟨_, hk, fn_ok px (fx := ⟨Try.func58, by kernel_rfl, by kernel_rfl⟩) (entsOK_cons e_Z14_ok entsOK_nil) (lentsOK_cons e_Z89_ok lentsOK_nil) ?_⟩
 have hq := q_Z90 x0 x1 x2 x3
 rw [c_Z90_bind] at hq
 rw [show c_Z90 x0 x1 x2 x3 some = some y from hy] at hq
 exact hq

/-!-/
def c_Z91 {R : Type} (x0 : Int) (x1 : Int) (k : Bool → Option R) : Option R :=
 k (decide (x0 < x1))
theorem c_Z91_bind {R : Type} (x0 : Int) (x1 : Int) (k : Bool → Option R) : c_Z91 x0 x1 k = (c_Z91 x0 x1 some).bind k := by
 unfold c_Z91
 repeat' first|exact bnd_tail|exact bnd_none|exact bnd_leaf|apply bnd_ite|apply bnd_cond|apply bnd_sum|(apply bnd_bind;intro _)|intro _
def Z91 (x0 : Int) (x1 : Int) : Option (Bool) := c_Z91 x0 x1 some
def e_Z91 : Ent := ⟨106, [.int .i64, .int .i64], .bool, [.undef, .undef], fun _ ds k => dI (fun x0 ds => dI (fun x1 ds => dE ((Z91 x0 x1).bind (fun y => k [.B y])) ds) ds) ds⟩
theorem q_Z91 (x0 : Int) (x1 : Int) : runFn (ocOf []) (olOf []) A 106 Try.f106 (Sh.mks e_Z91.sh [.I x0, .I x1]).1 (fun v os => some (v, os)) = c_Z91 x0 x1 (fun y => some ((e_Z91.res.mk [.B y]).1, (Sh.mks e_Z91.outs (e_Z91.res.mk [.B y]).2).1)) := by kernel_rfl
theorem e_Z91_ok : e_Z91.ok Try.prog A := by
 intro R ds k r h
 unfold e_Z91 at h
 obtain ⟨x0, d0, rfl, h0⟩ := dI_some h
 obtain ⟨x1, d1, rfl, h1⟩ := dI_some h0
 obtain ⟨rfl, hE⟩ := dE_some h1
 obtain ⟨y, hy, hk⟩ := bnd_some hE
 refine ⟨_, hk, fn_ok px (fx := ⟨Try.func106, by kernel_rfl, by kernel_rfl⟩) entsOK_nil lentsOK_nil ?_⟩
 have hq := q_Z91 x0 x1
 rw [c_Z91_bind] at hq
 rw [show c_Z91 x0 x1 some = some y from hy] at hq
 exact hq

/-!-/
def c_Z92 {R : Type} (F : Int → Int → Int → List D → Int → Int → List D → Int → Int → Int → List D → Int → List D → Option (Int × List D × Int × Int × Int × List D × Int × List D)) (x0 : Int) (x1 : Int) (x2 : Int) (x3 : List D) (x4 : Int) (x5 : Int) (x6 : List D) (x7 : Int) (x8 : Int) (x9 : Int) (x10 : List D) (x11 : Int) (x12 : List D) (k : Int × List D × Int × Int × Int × List D × Int × List D → Option R) : Option R :=
 bif decide (x8 < x7) then
 if 0 ≤ x8 ∧ x8 < (↑x6.length : Int) then
 (Z91 (IntKind.i64.wrap (x9 + x1)) (IntKind.i64.wrap (x11 + x8))).bind (fun y0 =>
 bif y0 then
 (F (IntKind.i64.wrap (x0 + IntKind.i64.wrap (x2 * (x6.getD x8.toNat (D.int 0)).toInt))) x1 x2 x3 x4 x5 x6 x7 (IntKind.i64.wrap (x8 + 1)) x9 x10 x11 x12).bind k
 else
 (F x0 x1 x2 x3 x4 x5 x6 x7 (IntKind.i64.wrap (x8 + 1)) x9 x10 x11 x12).bind k)
 else
 none
 else
 k (x0, x3, x4, x5, x9, x10, x11, x12)
theorem c_Z92_bind {R : Type} (F : Int → Int → Int → List D → Int → Int → List D → Int → Int → Int → List D → Int → List D → Option (Int × List D × Int × Int × Int × List D × Int × List D)) (x0 : Int) (x1 : Int) (x2 : Int) (x3 : List D) (x4 : Int) (x5 : Int) (x6 : List D) (x7 : Int) (x8 : Int) (x9 : Int) (x10 : List D) (x11 : Int) (x12 : List D) (k : Int × List D × Int × Int × Int × List D × Int × List D → Option R) : c_Z92 F x0 x1 x2 x3 x4 x5 x6 x7 x8 x9 x10 x11 x12 k = (c_Z92 F x0 x1 x2 x3 x4 x5 x6 x7 x8 x9 x10 x11 x12 some).bind k := by
 unfold c_Z92
 repeat' first|exact bnd_tail|exact bnd_none|exact bnd_leaf|apply bnd_ite|apply bnd_cond|apply bnd_sum|(apply bnd_bind;intro _)|intro _
def n_Z92 : Nat → Int → Int → Int → List D → Int → Int → List D → Int → Int → Int → List D → Int → List D → Option (Int × List D × Int × Int × Int × List D × Int × List D)
 | 0, _, _, _, _, _, _, _, _, _, _, _, _, _ => none
 | n + 1, x0, x1, x2, x3, x4, x5, x6, x7, x8, x9, x10, x11, x12 => c_Z92 (n_Z92 n) x0 x1 x2 x3 x4 x5 x6 x7 x8 x9 x10 x11 x12 some
noncomputable def Z92 (x0 : Int) (x1 : Int) (x2 : Int) (x3 : List D) (x4 : Int) (x5 : Int) (x6 : List D) (x7 : Int) (x8 : Int) (x9 : Int) (x10 : List D) (x11 : Int) (x12 : List D) : Option (Int × List D × Int × Int × Int × List D × Int × List D) := ev (fun n => n_Z92 n x0 x1 x2 x3 x4 x5 x6 x7 x8 x9 x10 x11 x12)
def m_Z92 (F : Int → Int → Int → List D → Int → Int → List D → Int → Int → Int → List D → Int → List D → Option (Int × List D × Int × Int × Int × List D × Int × List D)) : Lent := ⟨6, ⟨(.undef :: .undef :: .fn 106 [] :: .ptr 1000 [0] :: .ptr 1001 [0] :: .undef :: .undef :: .int .i64 :: .int .i64 :: .int .i64 :: .undef :: .undef :: .undef :: .rd (.int .i64) :: .int .i64 :: .int .i64 :: uu 5 (.rd (.int .i64) :: .int .i64 :: .int .i64 :: uu 22 ([]))), [(1000, .obox (.agg [.int .i64, .rd (.int .i64)])), (1001, .obox (.agg [.int .i64, .rd (.int .i64)]))]⟩, [(.exit 2, ⟨(.undef :: .undef :: .fn 106 [] :: .ptr 1000 [0] :: .ptr 1001 [0] :: .undef :: .undef :: .int .i64 :: uu 5 (.rd (.int .i64) :: .int .i64 :: .int .i64 :: uu 30 ([]))), [(1000, .obox (.agg [.int .i64, .rd (.int .i64)])), (1001, .obox (.agg [.int .i64, .rd (.int .i64)]))]⟩)], fun _ ds k => dI (fun x0 ds => dI (fun x1 ds => dI (fun x2 ds => dL (fun x3 ds => dI (fun x4 ds => dI (fun x5 ds => dL (fun x6 ds => dI (fun x7 ds => dI (fun x8 ds => dI (fun x9 ds => dL (fun x10 ds => dI (fun x11 ds => dL (fun x12 ds => dE ((F x0 x1 x2 x3 x4 x5 x6 x7 x8 x9 x10 x11 x12).bind (fun y => k 0 [.I y.1, .L y.2.1, .I y.2.2.1, .I y.2.2.2.1, .I y.2.2.2.2.1, .L y.2.2.2.2.2.1, .I y.2.2.2.2.2.2.1, .L y.2.2.2.2.2.2.2])) ds) ds) ds) ds) ds) ds) ds) ds) ds) ds) ds) ds) ds) ds⟩
theorem q_Z92 (F : Int → Int → Int → List D → Int → Int → List D → Int → Int → Int → List D → Int → List D → Option (Int × List D × Int × Int × Int × List D × Int × List D)) (x0 : Int) (x1 : Int) (x2 : Int) (x3 : List D) (x4 : Int) (x5 : Int) (x6 : List D) (x7 : Int) (x8 : Int) (x9 : Int) (x10 : List D) (x11 : Int) (x12 : List D) : runLoop (ocOf [e_Z91]) (olOf [m_Z92 F]) A 105 (codeAt (bodyOf Try.f105) 6) ((m_Z92 F).sh.mk' [.I x0, .I x1, .I x2, .L x3, .I x4, .I x5, .L x6, .I x7, .I x8, .I x9, .L x10, .I x11, .L x12]) (fun e σ' => some (e, σ')) = c_Z92 F x0 x1 x2 x3 x4 x5 x6 x7 x8 x9 x10 x11 x12 (fun y => some (.exit 2, SSt.mk' ⟨(.undef :: .undef :: .fn 106 [] :: .ptr 1000 [0] :: .ptr 1001 [0] :: .undef :: .undef :: .int .i64 :: uu 5 (.rd (.int .i64) :: .int .i64 :: .int .i64 :: uu 30 ([]))), [(1000, .obox (.agg [.int .i64, .rd (.int .i64)])), (1001, .obox (.agg [.int .i64, .rd (.int .i64)]))]⟩ [.I y.1, .L y.2.1, .I y.2.2.1, .I y.2.2.2.1, .I y.2.2.2.2.1, .L y.2.2.2.2.2.1, .I y.2.2.2.2.2.2.1, .L y.2.2.2.2.2.2.2])) := by kernel_rfl
theorem m_Z92_ok : ∀ n, (m_Z92 (n_Z92 n)).ok Try.prog (codeAt (bodyOf Try.f105) 6) := by
 intro n
 induction n with
 | zero =>
  intro R ds k r h
  unfold m_Z92 at h
  obtain ⟨x0, d0, rfl, h0⟩ := dI_some h
  obtain ⟨x1, d1, rfl, h1⟩ := dI_some h0
  obtain ⟨x2, d2, rfl, h2⟩ := dI_some h1
  obtain ⟨x3, d3, rfl, h3⟩ := dL_some h2
  obtain ⟨x4, d4, rfl, h4⟩ := dI_some h3
  obtain ⟨x5, d5, rfl, h5⟩ := dI_some h4
  obtain ⟨x6, d6, rfl, h6⟩ := dL_some h5
  obtain ⟨x7, d7, rfl, h7⟩ := dI_some h6
  obtain ⟨x8, d8, rfl, h8⟩ := dI_some h7
  obtain ⟨x9, d9, rfl, h9⟩ := dI_some h8
  obtain ⟨x10, d10, rfl, h10⟩ := dL_some h9
  obtain ⟨x11, d11, rfl, h11⟩ := dI_some h10
  obtain ⟨x12, d12, rfl, h12⟩ := dL_some h11
  obtain ⟨rfl, hE⟩ := dE_some h12
  obtain ⟨y, hy, hk⟩ := bnd_some hE
  cases hy
 | succ n ih =>
  intro R ds k r h
  unfold m_Z92 at h
  obtain ⟨x0, d0, rfl, h0⟩ := dI_some h
  obtain ⟨x1, d1, rfl, h1⟩ := dI_some h0
  obtain ⟨x2, d2, rfl, h2⟩ := dI_some h1
  obtain ⟨x3, d3, rfl, h3⟩ := dL_some h2
  obtain ⟨x4, d4, rfl, h4⟩ := dI_some h3
  obtain ⟨x5, d5, rfl, h5⟩ := dI_some h4
  obtain ⟨x6, d6, rfl, h6⟩ := dL_some h5
  obtain ⟨x7, d7, rfl, h7⟩ := dI_some h6
  obtain ⟨x8, d8, rfl, h8⟩ := dI_some h7
  obtain ⟨x9, d9, rfl, h9⟩ := dI_some h8
  obtain ⟨x10, d10, rfl, h10⟩ := dL_some h9
  obtain ⟨x11, d11, rfl, h11⟩ := dI_some h10
  obtain ⟨x12, d12, rfl, h12⟩ := dL_some h11
  obtain ⟨rfl, hE⟩ := dE_some h12
  obtain ⟨y, hy, hk⟩ := bnd_some hE
  have hq := q_Z92 (n_Z92 n) x0 x1 x2 x3 x4 x5 x6 x7 x8 x9 x10 x11 x12
  rw [c_Z92_bind] at hq
  rw [show c_Z92 (n_Z92 n) x0 x1 x2 x3 x4 x5 x6 x7 x8 x9 x10 x11 x12 some = some y from hy] at hq
  refine ⟨0, _, _, _, hk, rfl, loop_ok px (fx := ⟨Try.func105, by kernel_rfl, by kernel_rfl⟩) (entsOK_cons e_Z91_ok entsOK_nil) (lentsOK_cons ih lentsOK_nil) (by kernel_rfl) ?_⟩
  exact hq
noncomputable def e_Z92 : Lent := m_Z92 (Z92)
theorem e_Z92_ok : (e_Z92).ok Try.prog (codeAt (bodyOf Try.f105) 6) := by
 intro R ds k r h
 unfold e_Z92 m_Z92 at h
 obtain ⟨x0, d0, rfl, h0⟩ := dI_some h
 obtain ⟨x1, d1, rfl, h1⟩ := dI_some h0
 obtain ⟨x2, d2, rfl, h2⟩ := dI_some h1
 obtain ⟨x3, d3, rfl, h3⟩ := dL_some h2
 obtain ⟨x4, d4, rfl, h4⟩ := dI_some h3
 obtain ⟨x5, d5, rfl, h5⟩ := dI_some h4
 obtain ⟨x6, d6, rfl, h6⟩ := dL_some h5
 obtain ⟨x7, d7, rfl, h7⟩ := dI_some h6
 obtain ⟨x8, d8, rfl, h8⟩ := dI_some h7
 obtain ⟨x9, d9, rfl, h9⟩ := dI_some h8
 obtain ⟨x10, d10, rfl, h10⟩ := dL_some h9
 obtain ⟨x11, d11, rfl, h11⟩ := dI_some h10
 obtain ⟨x12, d12, rfl, h12⟩ := dL_some h11
 obtain ⟨rfl, hE⟩ := dE_some h12
 obtain ⟨y, hy, hk⟩ := bnd_some hE
 obtain ⟨n, hn⟩ := ev_some hy
 exact m_Z92_ok n R _ k r (show (n_Z92 n x0 x1 x2 x3 x4 x5 x6 x7 x8 x9 x10 x11 x12).bind _ = _ by rw [hn]; exact hk)

/-!-/
def c_Z93 {R : Type} (F : Int → List D → Int → Int → Int → List D → Int → List D → Option (Int)) (x0 : Int) (x1 : List D) (x2 : Int) (x3 : Int) (x4 : Int) (x5 : List D) (x6 : Int) (x7 : List D) (k : Int → Option R) : Option R :=
 bif decide (x3 < x2) then
 if 0 ≤ x3 ∧ x3 < (↑x1.length : Int) then
 (Z92 x0 x3 ((x1.getD x3.toNat (D.int 0)).toInt) x1 x2 x3 x7 (↑x7.length : Int) (0 : Int) x4 x5 x6 x7).bind (fun y0 =>
 (F y0.fst y0.snd.fst y0.snd.snd.fst (IntKind.i64.wrap (y0.snd.snd.snd.fst + 1)) y0.snd.snd.snd.snd.fst y0.snd.snd.snd.snd.snd.fst y0.snd.snd.snd.snd.snd.snd.fst y0.snd.snd.snd.snd.snd.snd.snd).bind k)
 else
 none
 else
 k x0
theorem c_Z93_bind {R : Type} (F : Int → List D → Int → Int → Int → List D → Int → List D → Option (Int)) (x0 : Int) (x1 : List D) (x2 : Int) (x3 : Int) (x4 : Int) (x5 : List D) (x6 : Int) (x7 : List D) (k : Int → Option R) : c_Z93 F x0 x1 x2 x3 x4 x5 x6 x7 k = (c_Z93 F x0 x1 x2 x3 x4 x5 x6 x7 some).bind k := by
 unfold c_Z93
 repeat' first|exact bnd_tail|exact bnd_none|exact bnd_leaf|apply bnd_ite|apply bnd_cond|apply bnd_sum|(apply bnd_bind;intro _)|intro _
def n_Z93 : Nat → Int → List D → Int → Int → Int → List D → Int → List D → Option (Int)
 | 0, _, _, _, _, _, _, _, _ => none
 | n + 1, x0, x1, x2, x3, x4, x5, x6, x7 => c_Z93 (n_Z93 n) x0 x1 x2 x3 x4 x5 x6 x7 some
noncomputable def Z93 (x0 : Int) (x1 : List D) (x2 : Int) (x3 : Int) (x4 : Int) (x5 : List D) (x6 : Int) (x7 : List D) : Option (Int) := ev (fun n => n_Z93 n x0 x1 x2 x3 x4 x5 x6 x7)
def m_Z93 (F : Int → List D → Int → Int → Int → List D → Int → List D → Option (Int)) : Lent := ⟨3, ⟨(.undef :: .undef :: .fn 106 [] :: .ptr 1000 [0] :: .ptr 1001 [0] :: .undef :: .undef :: .int .i64 :: uu 5 (.rd (.int .i64) :: .int .i64 :: .int .i64 :: uu 30 ([]))), [(1000, .obox (.agg [.int .i64, .rd (.int .i64)])), (1001, .obox (.agg [.int .i64, .rd (.int .i64)]))]⟩, [(.exit 0, ⟨(uu 7 (.int .i64 :: uu 38 ([]))), []⟩)], fun _ ds k => dI (fun x0 ds => dL (fun x1 ds => dI (fun x2 ds => dI (fun x3 ds => dI (fun x4 ds => dL (fun x5 ds => dI (fun x6 ds => dL (fun x7 ds => dE ((F x0 x1 x2 x3 x4 x5 x6 x7).bind (fun y => k 0 [.I y])) ds) ds) ds) ds) ds) ds) ds) ds) ds⟩
theorem q_Z93 (F : Int → List D → Int → Int → Int → List D → Int → List D → Option (Int)) (x0 : Int) (x1 : List D) (x2 : Int) (x3 : Int) (x4 : Int) (x5 : List D) (x6 : Int) (x7 : List D) : runLoop (ocOf []) (olOf [m_Z93 F, e_Z92]) A 105 (codeAt (bodyOf Try.f105) 3) ((m_Z93 F).sh.mk' [.I x0, .L x1, .I x2, .I x3, .I x4, .L x5, .I x6, .L x7]) (fun e σ' => some (e, σ')) = c_Z93 F x0 x1 x2 x3 x4 x5 x6 x7 (fun y => some (.exit 0, SSt.mk' ⟨(uu 7 (.int .i64 :: uu 38 ([]))), []⟩ [.I y])) := by kernel_rfl
theorem m_Z93_ok : ∀ n, (m_Z93 (n_Z93 n)).ok Try.prog (codeAt (bodyOf Try.f105) 3) := by
 intro n
 induction n with
 | zero =>
  intro R ds k r h
  unfold m_Z93 at h
  obtain ⟨x0, d0, rfl, h0⟩ := dI_some h
  obtain ⟨x1, d1, rfl, h1⟩ := dL_some h0
  obtain ⟨x2, d2, rfl, h2⟩ := dI_some h1
  obtain ⟨x3, d3, rfl, h3⟩ := dI_some h2
  obtain ⟨x4, d4, rfl, h4⟩ := dI_some h3
  obtain ⟨x5, d5, rfl, h5⟩ := dL_some h4
  obtain ⟨x6, d6, rfl, h6⟩ := dI_some h5
  obtain ⟨x7, d7, rfl, h7⟩ := dL_some h6
  obtain ⟨rfl, hE⟩ := dE_some h7
  obtain ⟨y, hy, hk⟩ := bnd_some hE
  cases hy
 | succ n ih =>
  intro R ds k r h
  unfold m_Z93 at h
  obtain ⟨x0, d0, rfl, h0⟩ := dI_some h
  obtain ⟨x1, d1, rfl, h1⟩ := dL_some h0
  obtain ⟨x2, d2, rfl, h2⟩ := dI_some h1
  obtain ⟨x3, d3, rfl, h3⟩ := dI_some h2
  obtain ⟨x4, d4, rfl, h4⟩ := dI_some h3
  obtain ⟨x5, d5, rfl, h5⟩ := dL_some h4
  obtain ⟨x6, d6, rfl, h6⟩ := dI_some h5
  obtain ⟨x7, d7, rfl, h7⟩ := dL_some h6
  obtain ⟨rfl, hE⟩ := dE_some h7
  obtain ⟨y, hy, hk⟩ := bnd_some hE
  have hq := q_Z93 (n_Z93 n) x0 x1 x2 x3 x4 x5 x6 x7
  rw [c_Z93_bind] at hq
  rw [show c_Z93 (n_Z93 n) x0 x1 x2 x3 x4 x5 x6 x7 some = some y from hy] at hq
  refine ⟨0, _, _, _, hk, rfl, loop_ok px (fx := ⟨Try.func105, by kernel_rfl, by kernel_rfl⟩) entsOK_nil (lentsOK_cons ih (lentsOK_cons e_Z92_ok lentsOK_nil)) (by kernel_rfl) ?_⟩
  exact hq
noncomputable def e_Z93 : Lent := m_Z93 (Z93)
theorem e_Z93_ok : (e_Z93).ok Try.prog (codeAt (bodyOf Try.f105) 3) := by
 intro R ds k r h
 unfold e_Z93 m_Z93 at h
 obtain ⟨x0, d0, rfl, h0⟩ := dI_some h
 obtain ⟨x1, d1, rfl, h1⟩ := dL_some h0
 obtain ⟨x2, d2, rfl, h2⟩ := dI_some h1
 obtain ⟨x3, d3, rfl, h3⟩ := dI_some h2
 obtain ⟨x4, d4, rfl, h4⟩ := dI_some h3
 obtain ⟨x5, d5, rfl, h5⟩ := dL_some h4
 obtain ⟨x6, d6, rfl, h6⟩ := dI_some h5
 obtain ⟨x7, d7, rfl, h7⟩ := dL_some h6
 obtain ⟨rfl, hE⟩ := dE_some h7
 obtain ⟨y, hy, hk⟩ := bnd_some hE
 obtain ⟨n, hn⟩ := ev_some hy
 exact m_Z93_ok n R _ k r (show (n_Z93 n x0 x1 x2 x3 x4 x5 x6 x7).bind _ = _ by rw [hn]; exact hk)

/-!-/
def c_Z94 {R : Type} (x0 : Int) (x1 : List D) (x2 : Int) (x3 : List D) (k : Int → Option R) : Option R :=
 (Z93 (0 : Int) x1 (↑x1.length : Int) (0 : Int) x0 x1 x2 x3).bind (fun y0 =>
 k y0)
theorem c_Z94_bind {R : Type} (x0 : Int) (x1 : List D) (x2 : Int) (x3 : List D) (k : Int → Option R) : c_Z94 x0 x1 x2 x3 k = (c_Z94 x0 x1 x2 x3 some).bind k := by
 unfold c_Z94
 repeat' first|exact bnd_tail|exact bnd_none|exact bnd_leaf|apply bnd_ite|apply bnd_cond|apply bnd_sum|(apply bnd_bind;intro _)|intro _
def Z94 (x0 : Int) (x1 : List D) (x2 : Int) (x3 : List D) : Option (Int) := c_Z94 x0 x1 x2 x3 some
def e_Z94 : Ent := ⟨105, [.agg [.int .i64, .rd (.int .i64)], .agg [.int .i64, .rd (.int .i64)], .fn 106 []], .int .i64, [.undef, .undef, .undef], fun _ ds k => dI (fun x0 ds => dL (fun x1 ds => dI (fun x2 ds => dL (fun x3 ds => dE ((Z94 x0 x1 x2 x3).bind (fun y => k [.I y])) ds) ds) ds) ds) ds⟩
theorem q_Z94 (x0 : Int) (x1 : List D) (x2 : Int) (x3 : List D) : runFn (ocOf []) (olOf [e_Z93]) A 105 Try.f105 (Sh.mks e_Z94.sh [.I x0, .L x1, .I x2, .L x3]).1 (fun v os => some (v, os)) = c_Z94 x0 x1 x2 x3 (fun y => some ((e_Z94.res.mk [.I y]).1, (Sh.mks e_Z94.outs (e_Z94.res.mk [.I y]).2).1)) := by kernel_rfl
theorem e_Z94_ok : e_Z94.ok Try.prog A := by
 intro R ds k r h
 unfold e_Z94 at h
 obtain ⟨x0, d0, rfl, h0⟩ := dI_some h
 obtain ⟨x1, d1, rfl, h1⟩ := dL_some h0
 obtain ⟨x2, d2, rfl, h2⟩ := dI_some h1
 obtain ⟨x3, d3, rfl, h3⟩ := dL_some h2
 obtain ⟨rfl, hE⟩ := dE_some h3
 obtain ⟨y, hy, hk⟩ := bnd_some hE
 refine ⟨_, hk, fn_ok px (fx := ⟨Try.func105, by kernel_rfl, by kernel_rfl⟩) entsOK_nil (lentsOK_cons e_Z93_ok lentsOK_nil) ?_⟩
 have hq := q_Z94 x0 x1 x2 x3
 rw [c_Z94_bind] at hq
 rw [show c_Z94 x0 x1 x2 x3 some = some y from hy] at hq
 exact hq

/-!-/
def c_Z95 {R : Type} (x0 : Int) (x1 : List D) (x2 : Int) (x3 : List D) (k : Int × Int × Bool → Option R) : Option R :=
 (Z33 x0 x1).bind (fun y0 =>
 bif !y0 then
 k ((0 : Int), (0 : Int), Bool.false)
 else
 (Z33 x2 x3).bind (fun y1 =>
 bif !y1 then
 k ((0 : Int), (0 : Int), Bool.false)
 else
 (Z94 x0 x1 x2 x3).bind (fun y2 =>
 (Z36 x0 x1).bind (fun y3 =>
 (Z36 x2 x3).bind (fun y4 =>
 k (y2, IntKind.i64.wrap (y3 * y4), Bool.true))))))
theorem c_Z95_bind {R : Type} (x0 : Int) (x1 : List D) (x2 : Int) (x3 : List D) (k : Int × Int × Bool → Option R) : c_Z95 x0 x1 x2 x3 k = (c_Z95 x0 x1 x2 x3 some).bind k := by
 unfold c_Z95
 repeat' first|exact bnd_tail|exact bnd_none|exact bnd_leaf|apply bnd_ite|apply bnd_cond|apply bnd_sum|(apply bnd_bind;intro _)|intro _
def Z95 (x0 : Int) (x1 : List D) (x2 : Int) (x3 : List D) : Option (Int × Int × Bool) := c_Z95 x0 x1 x2 x3 some
def e_Z95 : Ent := ⟨39, [.agg [.int .i64, .rd (.int .i64)], .agg [.int .i64, .rd (.int .i64)]], .tup [.int .i64, .int .i64, .bool], [.undef, .undef], fun _ ds k => dI (fun x0 ds => dL (fun x1 ds => dI (fun x2 ds => dL (fun x3 ds => dE ((Z95 x0 x1 x2 x3).bind (fun y => k [.I y.1, .I y.2.1, .B y.2.2])) ds) ds) ds) ds) ds⟩
theorem q_Z95 (x0 : Int) (x1 : List D) (x2 : Int) (x3 : List D) : runFn (ocOf [e_Z33, e_Z94, e_Z36]) (olOf []) A 39 Try.f39 (Sh.mks e_Z95.sh [.I x0, .L x1, .I x2, .L x3]).1 (fun v os => some (v, os)) = c_Z95 x0 x1 x2 x3 (fun y => some ((e_Z95.res.mk [.I y.1, .I y.2.1, .B y.2.2]).1, (Sh.mks e_Z95.outs (e_Z95.res.mk [.I y.1, .I y.2.1, .B y.2.2]).2).1)) := by kernel_rfl
theorem e_Z95_ok : e_Z95.ok Try.prog A := by
 intro R ds k r h
 unfold e_Z95 at h
 obtain ⟨x0, d0, rfl, h0⟩ := dI_some h
 obtain ⟨x1, d1, rfl, h1⟩ := dL_some h0
 obtain ⟨x2, d2, rfl, h2⟩ := dI_some h1
 obtain ⟨x3, d3, rfl, h3⟩ := dL_some h2
 obtain ⟨rfl, hE⟩ := dE_some h3
 obtain ⟨y, hy, hk⟩ := bnd_some hE
 refine ⟨_, hk, fn_ok px (fx := ⟨Try.func39, by kernel_rfl, by kernel_rfl⟩) (entsOK_cons e_Z33_ok (entsOK_cons e_Z94_ok (entsOK_cons e_Z36_ok entsOK_nil))) lentsOK_nil ?_⟩
 have hq := q_Z95 x0 x1 x2 x3
 rw [c_Z95_bind] at hq
 rw [show c_Z95 x0 x1 x2 x3 some = some y from hy] at hq
 exact hq

/-!-/
def c_Z96 {R : Type} (x0 : List D) (k : Bool → Option R) : Option R :=
 (Z0 x0).bind (fun y0 =>
 bif y0 then
 k Bool.true
 else
 (Z21 x0).bind (fun y1 =>
 (Z56 y1).bind (fun y2 =>
 (Z68 y1).bind (fun y3 =>
 bif !y2.snd.snd == y3.snd.snd then
 k Bool.false
 else
 (Z71 y2.fst y2.snd.fst y3.fst y3.snd.fst).bind (fun y4 =>
 bif !y4 then
 k Bool.false
 else
 (Z72 x0 y2.snd.snd (0 : Int) y1 y2.fst y2.fst y2.snd.fst).bind (Sum.elim (fun y5 =>
 k y5.snd.fst) (fun y6 =>
 bif y6.snd.fst then
 (Z76 y6.snd.snd.fst (1 : Int) (2 : Int)).bind (fun y7 =>
 (Z75 y6.snd.snd.snd.fst y6.snd.snd.snd.snd.snd (1 : Int) (2 : Int)).bind (fun y8 =>
 bif !y7.snd then
 k Bool.false
 else
 bif !y8.snd then
 k Bool.false
 else
 bif !decide (y7.fst = y8.fst) then
 k Bool.false
 else
 (Z78 y6.fst).bind (fun y9 =>
 (Z87 y9.fst y9.snd.fst y9.snd.snd.fst y9.snd.snd.snd).bind (fun y10 =>
 (Z90 y9.fst y9.snd.fst y9.snd.snd.fst y9.snd.snd.snd).bind (fun y11 =>
 bif !decide (y10.fst = y11.fst) then
 bif decide (y10.fst = y11.fst) then
 bif decide (y10.snd.fst = y11.snd.fst) then
 k (y10.snd.snd == y11.snd.snd)
 else
 k Bool.false
 else
 k Bool.false
 else
 bif !decide (y10.snd.fst = y11.snd.fst) then
 bif decide (y10.fst = y11.fst) then
 bif decide (y10.snd.fst = y11.snd.fst) then
 k (y10.snd.snd == y11.snd.snd)
 else
 k Bool.false
 else
 k Bool.false
 else
 bif !y10.snd.snd == y11.snd.snd then
 bif decide (y10.fst = y11.fst) then
 bif decide (y10.snd.fst = y11.snd.fst) then
 k (y10.snd.snd == y11.snd.snd)
 else
 k Bool.false
 else
 k Bool.false
 else
 bif !y10.snd.snd then
 bif decide (y10.fst = y11.fst) then
 bif decide (y10.snd.fst = y11.snd.fst) then
 k (y10.snd.snd == y11.snd.snd)
 else
 k Bool.false
 else
 k Bool.false
 else
 (Z95 y9.fst y9.snd.fst y9.snd.snd.fst y9.snd.snd.snd).bind (fun y12 =>
 bif y12.snd.snd then
 bif decide (y10.fst = y12.fst) then
 k (decide (y10.fst ≤ y10.snd.fst))
 else
 k Bool.false
 else
 k Bool.false))))))
 else
 (Z78 y6.fst).bind (fun y13 =>
 (Z87 y13.fst y13.snd.fst y13.snd.snd.fst y13.snd.snd.snd).bind (fun y14 =>
 (Z90 y13.fst y13.snd.fst y13.snd.snd.fst y13.snd.snd.snd).bind (fun y15 =>
 bif !decide (y14.fst = y15.fst) then
 bif decide (y14.fst = y15.fst) then
 bif decide (y14.snd.fst = y15.snd.fst) then
 k (y14.snd.snd == y15.snd.snd)
 else
 k Bool.false
 else
 k Bool.false
 else
 bif !decide (y14.snd.fst = y15.snd.fst) then
 bif decide (y14.fst = y15.fst) then
 bif decide (y14.snd.fst = y15.snd.fst) then
 k (y14.snd.snd == y15.snd.snd)
 else
 k Bool.false
 else
 k Bool.false
 else
 bif !y14.snd.snd == y15.snd.snd then
 bif decide (y14.fst = y15.fst) then
 bif decide (y14.snd.fst = y15.snd.fst) then
 k (y14.snd.snd == y15.snd.snd)
 else
 k Bool.false
 else
 k Bool.false
 else
 bif !y14.snd.snd then
 bif decide (y14.fst = y15.fst) then
 bif decide (y14.snd.fst = y15.snd.fst) then
 k (y14.snd.snd == y15.snd.snd)
 else
 k Bool.false
 else
 k Bool.false
 else
 (Z95 y13.fst y13.snd.fst y13.snd.snd.fst y13.snd.snd.snd).bind (fun y16 =>
 bif y16.snd.snd then
 bif decide (y14.fst = y16.fst) then
 k (decide (y14.fst ≤ y14.snd.fst))
 else
 k Bool.false
 else
 k Bool.false)))))))))))
theorem c_Z96_bind {R : Type} (x0 : List D) (k : Bool → Option R) : c_Z96 x0 k = (c_Z96 x0 some).bind k := by
 unfold c_Z96
 repeat' first|exact bnd_tail|exact bnd_none|exact bnd_leaf|apply bnd_ite|apply bnd_cond|apply bnd_sum|(apply bnd_bind;intro _)|intro _
def Z96 (x0 : List D) : Option (Bool) := c_Z96 x0 some
def e_Z96 : Ent := ⟨8, [.rd (.int .u8)], .bool, [.undef], fun _ ds k => dL (fun x0 ds => dE ((Z96 x0).bind (fun y => k [.B y])) ds) ds⟩
theorem q_Z96 (x0 : List D) : runFn (ocOf [e_Z0, e_Z21, e_Z56, e_Z68, e_Z71, e_Z76, e_Z75, e_Z78, e_Z87, e_Z90, e_Z95]) (olOf [e_Z72]) A 8 Try.f8 (Sh.mks e_Z96.sh [.L x0]).1 (fun v os => some (v, os)) = c_Z96 x0 (fun y => some ((e_Z96.res.mk [.B y]).1, (Sh.mks e_Z96.outs (e_Z96.res.mk [.B y]).2).1)) := by kernel_rfl
theorem e_Z96_ok : e_Z96.ok Try.prog A := by
 intro R ds k r h
 unfold e_Z96 at h
 obtain ⟨x0, d0, rfl, h0⟩ := dL_some h
 obtain ⟨rfl, hE⟩ := dE_some h0
 obtain ⟨y, hy, hk⟩ := bnd_some hE
 refine ⟨_, hk, fn_ok px (fx := ⟨Try.func8, by kernel_rfl, by kernel_rfl⟩) (entsOK_cons e_Z0_ok (entsOK_cons e_Z21_ok (entsOK_cons e_Z56_ok (entsOK_cons e_Z68_ok (entsOK_cons e_Z71_ok (entsOK_cons e_Z76_ok (entsOK_cons e_Z75_ok (entsOK_cons e_Z78_ok (entsOK_cons e_Z87_ok (entsOK_cons e_Z90_ok (entsOK_cons e_Z95_ok entsOK_nil))))))))))) (lentsOK_cons e_Z72_ok lentsOK_nil) ?_⟩
 have hq := q_Z96 x0
 rw [c_Z96_bind] at hq
 rw [show c_Z96 x0 some = some y from hy] at hq
 exact hq
end
end Go.Proofs.Ytpigfmlahmapaaa
