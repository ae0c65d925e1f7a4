/- Models of Go functions and their contracts, printed by a program of this session. -/
import Derived.Test.YtdoaceeakjbgfaaClMFnCyclex0
set_option linter.unusedVariables false
set_option maxRecDepth 100000
namespace Go.Proofs.Ytdoaceeakjbgfaa
open Go Go.Rai
noncomputable section
/-!-/
abbrev T_Z63:=List D→List D→List D→Int→Int→Int→Int→Int→Int→List D→List D→Option (List D × List D × List D × Int × Int × Int × Int × Int × List D × List D)
def c_Z63 {R:Type} (F:T_Z63) (x0 x1 x2:List D) (x3 x4 x5 x6 x7 x8:Int) (x9 x10:List D) (k:List D × List D × List D × Int × Int × Int × Int × Int × List D × List D→Option R):Option R:=
 bif decide (x8<x5) then
 if 0≤x6∧x6<(↑x1.length:Int) then
 if 0≤x8∧x8<(↑(x1.getD x6.toNat (D.int 0)).items.length:Int) then
 bif ((x1.getD x6.toNat (D.int 0)).items.getD x8.toNat (D.int 0)).toBool then
 if 0≤x8∧x8<(↑x9.length:Int) then
 if x8.toNat + 1≤x9.length then
 bif decide ((x9.getD x8.toNat (D.int 0)).toInt≤x5) then
 bif decide (x7<(0:Int)) then
 (F x0 x1 x2 x3 x4 x5 x6 x8 (IntKind.i64.wrap (x8 + 1)) x9 x10).bind k
 else
 if 0≤x8∧x8<(↑x9.length:Int) then
 if x8.toNat + 1≤x9.length then
 if 0≤x7∧x7<(↑x9.length:Int) then
 if x7.toNat + 1≤x9.length then
 bif decide ((x9.getD x8.toNat (D.int 0)).toInt<(x9.getD x7.toNat (D.int 0)).toInt) then
 (F x0 x1 x2 x3 x4 x5 x6 x8 (IntKind.i64.wrap (x8 + 1)) x9 x10).bind k
 else
 (F x0 x1 x2 x3 x4 x5 x6 x7 (IntKind.i64.wrap (x8 + 1)) x9 x10).bind k
 else
 none
 else
 none
 else
 none
 else
 none
 else
 (F x0 x1 x2 x3 x4 x5 x6 x7 (IntKind.i64.wrap (x8 + 1)) x9 x10).bind k
 else
 none
 else
 none
 else
 (F x0 x1 x2 x3 x4 x5 x6 x7 (IntKind.i64.wrap (x8 + 1)) x9 x10).bind k
 else
 none
 else
 none
 else
 k (x0,x1,x2,x3,x4,x5,x6,x7,x9,x10)
theorem c_Z63_bind {R:Type} (F:T_Z63) (x0 x1 x2:List D) (x3 x4 x5 x6 x7 x8:Int) (x9 x10:List D) (k:List D × List D × List D × Int × Int × Int × Int × Int × List D × List D→Option R):c_Z63 F x0 x1 x2 x3 x4 x5 x6 x7 x8 x9 x10 k=(c_Z63 F x0 x1 x2 x3 x4 x5 x6 x7 x8 x9 x10 some).bind k:=by
 unfold c_Z63
 repeat' first|exact bnd_tail|exact bnd_none|exact bnd_leaf|apply bnd_ite|apply bnd_cond|apply bnd_sum|(apply bnd_bind;intro _)|intro _
def n_Z63:Nat→T_Z63
 | 0,_,_,_,_,_,_,_,_,_,_,_=>none
 | n + 1,x0,x1,x2,x3,x4,x5,x6,x7,x8,x9,x10=>c_Z63 (n_Z63 n) x0 x1 x2 x3 x4 x5 x6 x7 x8 x9 x10 some
noncomputable def Z63 (x0 x1 x2:List D) (x3 x4 x5 x6 x7 x8:Int) (x9 x10:List D):Option (List D × List D × List D × Int × Int × Int × Int × Int × List D × List D):=ev (fun n=>n_Z63 n x0 x1 x2 x3 x4 x5 x6 x7 x8 x9 x10)
def m_Z63 (F:T_Z63):Lent:=⟨24,⟨(.rp (.agg [.rd (.int .i64),.rd (.slice (.bool)),.rd (.slice (.bool))]) :: .undef :: .int .i64 :: .int .i64 :: uu 5 (.int .i64 :: .full 1000 [] (.int .i64) :: .undef :: .undef :: .undef :: .full 1001 [] (.int .i64) :: .int .i64 :: .int .i64 :: .int .i64 :: uu 119 ([]))),[(1000,.own (.int .i64)),(1001,.own (.int .i64))]⟩,[(.exit 10,⟨(.rp (.agg [.rd (.int .i64),.rd (.slice (.bool)),.rd (.slice (.bool))]) :: .undef :: .int .i64 :: .int .i64 :: uu 5 (.int .i64 :: .full 1000 [] (.int .i64) :: .undef :: .undef :: .undef :: .full 1001 [] (.int .i64) :: .int .i64 :: .int .i64 :: uu 120 ([]))),[(1000,.own (.int .i64)),(1001,.own (.int .i64))]⟩)],fun _ ds k=>dL (fun x0 ds=>dL (fun x1 ds=>dL (fun x2 ds=>dI (fun x3 ds=>dI (fun x4 ds=>dI (fun x5 ds=>dI (fun x6 ds=>dI (fun x7 ds=>dI (fun x8 ds=>dL (fun x9 ds=>dL (fun x10 ds=>dE ((F x0 x1 x2 x3 x4 x5 x6 x7 x8 x9 x10).bind (fun y=>k 0 [.L y.1,.L y.2.1,.L y.2.2.1,.I y.2.2.2.1,.I y.2.2.2.2.1,.I y.2.2.2.2.2.1,.I y.2.2.2.2.2.2.1,.I y.2.2.2.2.2.2.2.1,.L y.2.2.2.2.2.2.2.2.1,.L y.2.2.2.2.2.2.2.2.2])) ds) ds) ds) ds) ds) ds) ds) ds) ds) ds) ds) ds⟩
theorem q_Z63 (F:T_Z63) (x0 x1 x2:List D) (x3 x4 x5 x6 x7 x8:Int) (x9 x10:List D):runLoop (ocOf []) (olOf [m_Z63 F]) A 134 (codeAt (bodyOf Try.f134) 24) ((m_Z63 F).sh.mk' [.L x0,.L x1,.L x2,.I x3,.I x4,.I x5,.I x6,.I x7,.I x8,.L x9,.L x10]) (fun e σ'=>some (e,σ'))=c_Z63 F x0 x1 x2 x3 x4 x5 x6 x7 x8 x9 x10 (fun y=>some (.exit 10,SSt.mk' ⟨(.rp (.agg [.rd (.int .i64),.rd (.slice (.bool)),.rd (.slice (.bool))]) :: .undef :: .int .i64 :: .int .i64 :: uu 5 (.int .i64 :: .full 1000 [] (.int .i64) :: .undef :: .undef :: .undef :: .full 1001 [] (.int .i64) :: .int .i64 :: .int .i64 :: uu 120 ([]))),[(1000,.own (.int .i64)),(1001,.own (.int .i64))]⟩ [.L y.1,.L y.2.1,.L y.2.2.1,.I y.2.2.2.1,.I y.2.2.2.2.1,.I y.2.2.2.2.2.1,.I y.2.2.2.2.2.2.1,.I y.2.2.2.2.2.2.2.1,.L y.2.2.2.2.2.2.2.2.1,.L y.2.2.2.2.2.2.2.2.2])):=by kernel_rfl
theorem m_Z63_ok:∀ n,(m_Z63 (n_Z63 n)).ok Try.prog (codeAt (bodyOf Try.f134) 24):=by
 intro n
 induction n with
 | zero=>
  intro R ds k r h
  unfold m_Z63 at h
  obtain ⟨_,_,rfl,h⟩:=dL_some h
  obtain ⟨_,_,rfl,h⟩:=dL_some h
  obtain ⟨_,_,rfl,h⟩:=dL_some h
  obtain ⟨_,_,rfl,h⟩:=dI_some h
  obtain ⟨_,_,rfl,h⟩:=dI_some h
  obtain ⟨_,_,rfl,h⟩:=dI_some h
  obtain ⟨_,_,rfl,h⟩:=dI_some h
  obtain ⟨_,_,rfl,h⟩:=dI_some h
  obtain ⟨_,_,rfl,h⟩:=dI_some h
  obtain ⟨_,_,rfl,h⟩:=dL_some h
  obtain ⟨_,_,rfl,h⟩:=dL_some h
  obtain ⟨rfl,hE⟩:=dE_some h
  obtain ⟨y,hy,hk⟩:=bnd_some hE
  cases hy
 | succ n ih=>
  intro R ds k r h
  unfold m_Z63 at h
  obtain ⟨_,_,rfl,h⟩:=dL_some h
  obtain ⟨_,_,rfl,h⟩:=dL_some h
  obtain ⟨_,_,rfl,h⟩:=dL_some h
  obtain ⟨_,_,rfl,h⟩:=dI_some h
  obtain ⟨_,_,rfl,h⟩:=dI_some h
  obtain ⟨_,_,rfl,h⟩:=dI_some h
  obtain ⟨_,_,rfl,h⟩:=dI_some h
  obtain ⟨_,_,rfl,h⟩:=dI_some h
  obtain ⟨_,_,rfl,h⟩:=dI_some h
  obtain ⟨_,_,rfl,h⟩:=dL_some h
  obtain ⟨_,_,rfl,h⟩:=dL_some h
  obtain ⟨rfl,hE⟩:=dE_some h
  obtain ⟨y,hy,hk⟩:=bnd_some hE
  exact ⟨0,_,_,_,hk,rfl,loop_ok px (fx:=⟨Try.func134,by kernel_rfl,by kernel_rfl⟩) entsOK_nil (lentsOK_cons ih lentsOK_nil) (by kernel_rfl) ((q_Z63 ..).trans ((c_Z63_bind ..).trans (bnd_to hy)))⟩
noncomputable def e_Z63:Lent:=m_Z63 (Z63)
theorem e_Z63_ok:(e_Z63).ok Try.prog (codeAt (bodyOf Try.f134) 24):=by
 intro R ds k r h
 unfold e_Z63 m_Z63 at h
 obtain ⟨_,_,rfl,h⟩:=dL_some h
 obtain ⟨_,_,rfl,h⟩:=dL_some h
 obtain ⟨_,_,rfl,h⟩:=dL_some h
 obtain ⟨_,_,rfl,h⟩:=dI_some h
 obtain ⟨_,_,rfl,h⟩:=dI_some h
 obtain ⟨_,_,rfl,h⟩:=dI_some h
 obtain ⟨_,_,rfl,h⟩:=dI_some h
 obtain ⟨_,_,rfl,h⟩:=dI_some h
 obtain ⟨_,_,rfl,h⟩:=dI_some h
 obtain ⟨_,_,rfl,h⟩:=dL_some h
 obtain ⟨_,_,rfl,h⟩:=dL_some h
 obtain ⟨rfl,hE⟩:=dE_some h
 obtain ⟨y,hy,hk⟩:=bnd_some hE
 obtain ⟨n,hn⟩:=ev_some hy
 exact m_Z63_ok n R _ k r ((bnd_to hn).trans hk)

/-!-/
abbrev T_Z64:=List D→List D→List D→Int→Int→Int→Int→List D→List D→Option ((Unit) ⊕ (List D))
def c_Z64 {R:Type} (F:T_Z64) (x0 x1 x2:List D) (x3 x4 x5 x6:Int) (x7 x8:List D) (k:(Unit) ⊕ (List D)→Option R):Option R:=
 (Z63 x0 x1 x2 x3 x4 x5 x6 (-1:Int) x4 x7 x8).bind (fun y0=>
 bif decide (y0.snd.snd.snd.snd.snd.snd.snd.fst<(0:Int)) then
 k (.inl ())
 else
 if y0.snd.snd.snd.snd.snd.snd.snd.snd.snd.length + [D.int y0.snd.snd.snd.snd.snd.snd.snd.fst].length≤(4294967296:Nat) then
 bif decide (y0.snd.snd.snd.snd.snd.snd.snd.fst=y0.snd.snd.snd.fst) then
 k (.inr (y0.snd.snd.snd.snd.snd.snd.snd.snd.snd ++ [D.int y0.snd.snd.snd.snd.snd.snd.snd.fst]))
 else
 (F y0.fst y0.snd.fst y0.snd.snd.fst y0.snd.snd.snd.fst y0.snd.snd.snd.snd.fst y0.snd.snd.snd.snd.snd.fst y0.snd.snd.snd.snd.snd.snd.snd.fst y0.snd.snd.snd.snd.snd.snd.snd.snd.fst (y0.snd.snd.snd.snd.snd.snd.snd.snd.snd ++ [D.int y0.snd.snd.snd.snd.snd.snd.snd.fst])).bind k
 else
 none)
theorem c_Z64_bind {R:Type} (F:T_Z64) (x0 x1 x2:List D) (x3 x4 x5 x6:Int) (x7 x8:List D) (k:(Unit) ⊕ (List D)→Option R):c_Z64 F x0 x1 x2 x3 x4 x5 x6 x7 x8 k=(c_Z64 F x0 x1 x2 x3 x4 x5 x6 x7 x8 some).bind k:=by
 unfold c_Z64
 repeat' first|exact bnd_tail|exact bnd_none|exact bnd_leaf|apply bnd_ite|apply bnd_cond|apply bnd_sum|(apply bnd_bind;intro _)|intro _
def n_Z64:Nat→T_Z64
 | 0,_,_,_,_,_,_,_,_,_=>none
 | n + 1,x0,x1,x2,x3,x4,x5,x6,x7,x8=>c_Z64 (n_Z64 n) x0 x1 x2 x3 x4 x5 x6 x7 x8 some
noncomputable def Z64 (x0 x1 x2:List D) (x3 x4 x5 x6:Int) (x7 x8:List D):Option ((Unit) ⊕ (List D)):=ev (fun n=>n_Z64 n x0 x1 x2 x3 x4 x5 x6 x7 x8)
def m_Z64 (F:T_Z64):Lent:=⟨22,⟨(.rp (.agg [.rd (.int .i64),.rd (.slice (.bool)),.rd (.slice (.bool))]) :: .undef :: .int .i64 :: .int .i64 :: uu 5 (.int .i64 :: .full 1000 [] (.int .i64) :: .undef :: .undef :: .undef :: .full 1001 [] (.int .i64) :: .int .i64 :: uu 121 ([]))),[(1000,.own (.int .i64)),(1001,.own (.int .i64))]⟩,[(.ret,⟨(uu 8 (.nilsl :: uu 128 ([]))),[]⟩),(.ret,⟨(uu 8 (.full 1000 [] (.int .i64) :: uu 128 ([]))),[(1000,.own (.int .i64))]⟩)],fun _ ds k=>dL (fun x0 ds=>dL (fun x1 ds=>dL (fun x2 ds=>dI (fun x3 ds=>dI (fun x4 ds=>dI (fun x5 ds=>dI (fun x6 ds=>dL (fun x7 ds=>dL (fun x8 ds=>dE ((F x0 x1 x2 x3 x4 x5 x6 x7 x8).bind (Sum.elim (fun y=>k 0 []) (fun y=>k 1 [.L y]))) ds) ds) ds) ds) ds) ds) ds) ds) ds) ds⟩
theorem q_Z64 (F:T_Z64) (x0 x1 x2:List D) (x3 x4 x5 x6:Int) (x7 x8:List D):runLoop (ocOf []) (olOf [m_Z64 F,e_Z63]) A 134 (codeAt (bodyOf Try.f134) 22) ((m_Z64 F).sh.mk' [.L x0,.L x1,.L x2,.I x3,.I x4,.I x5,.I x6,.L x7,.L x8]) (fun e σ'=>some (e,σ'))=c_Z64 F x0 x1 x2 x3 x4 x5 x6 x7 x8 (Sum.elim (fun y=>some (.ret,SSt.mk' ⟨(uu 8 (.nilsl :: uu 128 ([]))),[]⟩ [])) (fun y=>some (.ret,SSt.mk' ⟨(uu 8 (.full 1000 [] (.int .i64) :: uu 128 ([]))),[(1000,.own (.int .i64))]⟩ [.L y]))):=by kernel_rfl
theorem m_Z64_ok:∀ n,(m_Z64 (n_Z64 n)).ok Try.prog (codeAt (bodyOf Try.f134) 22):=by
 intro n
 induction n with
 | zero=>
  intro R ds k r h
  unfold m_Z64 at h
  obtain ⟨_,_,rfl,h⟩:=dL_some h
  obtain ⟨_,_,rfl,h⟩:=dL_some h
  obtain ⟨_,_,rfl,h⟩:=dL_some h
  obtain ⟨_,_,rfl,h⟩:=dI_some h
  obtain ⟨_,_,rfl,h⟩:=dI_some h
  obtain ⟨_,_,rfl,h⟩:=dI_some h
  obtain ⟨_,_,rfl,h⟩:=dI_some h
  obtain ⟨_,_,rfl,h⟩:=dL_some h
  obtain ⟨_,_,rfl,h⟩:=dL_some h
  obtain ⟨rfl,hE⟩:=dE_some h
  obtain ⟨y,hy,hk⟩:=bnd_some hE
  cases hy
 | succ n ih=>
  intro R ds k r h
  unfold m_Z64 at h
  obtain ⟨_,_,rfl,h⟩:=dL_some h
  obtain ⟨_,_,rfl,h⟩:=dL_some h
  obtain ⟨_,_,rfl,h⟩:=dL_some h
  obtain ⟨_,_,rfl,h⟩:=dI_some h
  obtain ⟨_,_,rfl,h⟩:=dI_some h
  obtain ⟨_,_,rfl,h⟩:=dI_some h
  obtain ⟨_,_,rfl,h⟩:=dI_some h
  obtain ⟨_,_,rfl,h⟩:=dL_some h
  obtain ⟨_,_,rfl,h⟩:=dL_some h
  obtain ⟨rfl,hE⟩:=dE_some h
  obtain ⟨y,hy,hk⟩:=bnd_some hE
  cases y with
  | inl y=>
   exact ⟨0,_,_,_,hk,rfl,loop_ok px (fx:=⟨Try.func134,by kernel_rfl,by kernel_rfl⟩) entsOK_nil (lentsOK_cons ih (lentsOK_cons e_Z63_ok lentsOK_nil)) (by kernel_rfl) ((q_Z64 ..).trans ((c_Z64_bind ..).trans (bnd_to hy)))⟩
  | inr y=>
   exact ⟨1,_,_,_,hk,rfl,loop_ok px (fx:=⟨Try.func134,by kernel_rfl,by kernel_rfl⟩) entsOK_nil (lentsOK_cons ih (lentsOK_cons e_Z63_ok lentsOK_nil)) (by kernel_rfl) ((q_Z64 ..).trans ((c_Z64_bind ..).trans (bnd_to hy)))⟩
noncomputable def e_Z64:Lent:=m_Z64 (Z64)
theorem e_Z64_ok:(e_Z64).ok Try.prog (codeAt (bodyOf Try.f134) 22):=by
 intro R ds k r h
 unfold e_Z64 m_Z64 at h
 obtain ⟨_,_,rfl,h⟩:=dL_some h
 obtain ⟨_,_,rfl,h⟩:=dL_some h
 obtain ⟨_,_,rfl,h⟩:=dL_some h
 obtain ⟨_,_,rfl,h⟩:=dI_some h
 obtain ⟨_,_,rfl,h⟩:=dI_some h
 obtain ⟨_,_,rfl,h⟩:=dI_some h
 obtain ⟨_,_,rfl,h⟩:=dI_some h
 obtain ⟨_,_,rfl,h⟩:=dL_some h
 obtain ⟨_,_,rfl,h⟩:=dL_some h
 obtain ⟨rfl,hE⟩:=dE_some h
 obtain ⟨y,hy,hk⟩:=bnd_some hE
 obtain ⟨n,hn⟩:=ev_some hy
 exact m_Z64_ok n R _ k r ((bnd_to hn).trans hk)

/-!-/
def c_Z65 {R:Type} (x0 x1 x2:List D) (x3 x4 x5:Int) (k:(Unit) ⊕ (List D)→Option R):Option R:=
 if (0:Int)≤(↑x0.length:Int)∧(↑x0.length:Int)≤(↑x0.length:Int)∧(↑x0.length:Int)≤(4294967296:Int) then
 (Z59 x0 x1 x2 x3 x4 x5 (↑x0.length:Int) (↑(List.replicate (↑x0.length:Int).toNat (D.int 0)).length:Int) (0:Int) (List.replicate (↑x0.length:Int).toNat (D.int 0))).bind (fun y0=>
 if 0≤y0.snd.snd.snd.snd.fst∧y0.snd.snd.snd.snd.fst<(↑y0.snd.snd.snd.snd.snd.snd.snd.length:Int) then
 if y0.snd.snd.snd.snd.fst.toNat + 1≤y0.snd.snd.snd.snd.snd.snd.snd.length then
 (Z62 y0.fst y0.snd.fst y0.snd.snd.fst y0.snd.snd.snd.fst y0.snd.snd.snd.snd.fst y0.snd.snd.snd.snd.snd.fst y0.snd.snd.snd.snd.snd.snd.fst y0.snd.snd.snd.snd.snd.snd.fst (0:Int) (y0.snd.snd.snd.snd.snd.snd.snd.set y0.snd.snd.snd.snd.fst.toNat (D.int 0))).bind (fun y1=>
 (Z64 y1.fst y1.snd.fst y1.snd.snd.fst y1.snd.snd.snd.snd.fst y1.snd.snd.snd.snd.snd.fst y1.snd.snd.snd.snd.snd.snd.fst y1.snd.snd.snd.fst y1.snd.snd.snd.snd.snd.snd.snd ([D.int y1.snd.snd.snd.fst])).bind (Sum.elim (fun y2=>
 k (.inl ())) (fun y3=>
 k (.inr y3))))
 else
 none
 else
 none)
 else
 none
theorem c_Z65_bind {R:Type} (x0 x1 x2:List D) (x3 x4 x5:Int) (k:(Unit) ⊕ (List D)→Option R):c_Z65 x0 x1 x2 x3 x4 x5 k=(c_Z65 x0 x1 x2 x3 x4 x5 some).bind k:=by
 unfold c_Z65
 repeat' first|exact bnd_tail|exact bnd_none|exact bnd_leaf|apply bnd_ite|apply bnd_cond|apply bnd_sum|(apply bnd_bind;intro _)|intro _
def Z65 (x0 x1 x2:List D) (x3 x4 x5:Int):Option ((Unit) ⊕ (List D)):=c_Z65 x0 x1 x2 x3 x4 x5 some
def e_Z65:Ent:=⟨134,[.rp (.agg [.rd (.int .i64),.rd (.slice (.bool)),.rd (.slice (.bool))]),.int .i64,.int .i64,.int .i64],[(.nilsl,(uu 4 ([]))),(.own (.int .i64),(uu 4 ([])))],fun _ ds k=>dL (fun x0 ds=>dL (fun x1 ds=>dL (fun x2 ds=>dI (fun x3 ds=>dI (fun x4 ds=>dI (fun x5 ds=>dE ((Z65 x0 x1 x2 x3 x4 x5).bind (Sum.elim (fun y=>k 0 []) (fun y=>k 1 [.L y]))) ds) ds) ds) ds) ds) ds) ds⟩
theorem q_Z65 (x0 x1 x2:List D) (x3 x4 x5:Int):runFn (ocOf []) (olOf [e_Z59,e_Z62,e_Z64]) A 134 Try.f134 (Sh.mks e_Z65.sh [.L x0,.L x1,.L x2,.I x3,.I x4,.I x5]).1 (fun v os=>some (v,os))=c_Z65 x0 x1 x2 x3 x4 x5 (Sum.elim (fun y=>retO e_Z65 0 []) (fun y=>retO e_Z65 1 [.L y])):=by kernel_rfl
theorem e_Z65_ok:e_Z65.ok Try.prog A:=by
 intro R ds k r h
 unfold e_Z65 at h
 obtain ⟨_,_,rfl,h⟩:=dL_some h
 obtain ⟨_,_,rfl,h⟩:=dL_some h
 obtain ⟨_,_,rfl,h⟩:=dL_some h
 obtain ⟨_,_,rfl,h⟩:=dI_some h
 obtain ⟨_,_,rfl,h⟩:=dI_some h
 obtain ⟨_,_,rfl,h⟩:=dI_some h
 obtain ⟨rfl,hE⟩:=dE_some h
 obtain ⟨y,hy,hk⟩:=bnd_some hE
 cases y with
 | inl y=>
  exact ⟨0,_,_,_,hk,rfl,fn_ok px (fx:=⟨Try.func134,by kernel_rfl,by kernel_rfl⟩) entsOK_nil (lentsOK_cons e_Z59_ok (lentsOK_cons e_Z62_ok (lentsOK_cons e_Z64_ok lentsOK_nil))) ((q_Z65 ..).trans ((c_Z65_bind ..).trans (bnd_to hy)))⟩
 | inr y=>
  exact ⟨1,_,_,_,hk,rfl,fn_ok px (fx:=⟨Try.func134,by kernel_rfl,by kernel_rfl⟩) entsOK_nil (lentsOK_cons e_Z59_ok (lentsOK_cons e_Z62_ok (lentsOK_cons e_Z64_ok lentsOK_nil))) ((q_Z65 ..).trans ((c_Z65_bind ..).trans (bnd_to hy)))⟩

/-!-/
abbrev T_Z66:=Int→Int→List D→List D→List D→List D→Option (List D × List D × List D × List D)
def c_Z66 {R:Type} (F:T_Z66) (x0 x1:Int) (x2 x3 x4 x5:List D) (k:List D × List D × List D × List D→Option R):Option R:=
 bif decide (x1<x0) then
 (Z65 x2 x3 x4 x1 x1 x1).bind (Sum.elim (fun y0=>
 (F x0 (IntKind.i64.wrap (x1 + 1)) x2 x3 x4 x5).bind k) (fun y1=>
 if (1:Nat)≤y1.length then
 if (1:Nat)≤x5.length then
 bif decide ((↑y1.length:Int)<(↑x5.length:Int)) then
 (F x0 (IntKind.i64.wrap (x1 + 1)) x2 x3 x4 y1).bind k
 else
 (F x0 (IntKind.i64.wrap (x1 + 1)) x2 x3 x4 x5).bind k
 else
 none
 else
 none))
 else
 k (x2,x3,x4,x5)
theorem c_Z66_bind {R:Type} (F:T_Z66) (x0 x1:Int) (x2 x3 x4 x5:List D) (k:List D × List D × List D × List D→Option R):c_Z66 F x0 x1 x2 x3 x4 x5 k=(c_Z66 F x0 x1 x2 x3 x4 x5 some).bind k:=by
 unfold c_Z66
 repeat' first|exact bnd_tail|exact bnd_none|exact bnd_leaf|apply bnd_ite|apply bnd_cond|apply bnd_sum|(apply bnd_bind;intro _)|intro _
def n_Z66:Nat→T_Z66
 | 0,_,_,_,_,_,_=>none
 | n + 1,x0,x1,x2,x3,x4,x5=>c_Z66 (n_Z66 n) x0 x1 x2 x3 x4 x5 some
noncomputable def Z66 (x0 x1:Int) (x2 x3 x4 x5:List D):Option (List D × List D × List D × List D):=ev (fun n=>n_Z66 n x0 x1 x2 x3 x4 x5)
def m_Z66 (F:T_Z66):Lent:=⟨6,⟨(uu 5 (.ptr 1000 [0] :: .full 1001 [] (.int .i64) :: uu 11 (.int .i64 :: .int .i64 :: uu 31 ([])))),[(1000,.obox (.agg [.own (.int .i64),.own (.slice (.bool)),.own (.slice (.bool))])),(1001,.own (.int .i64))]⟩,[(.exit 0,⟨(uu 5 (.ptr 1000 [0] :: .full 1001 [] (.int .i64) :: uu 44 ([]))),[(1000,.obox (.agg [.own (.int .i64),.own (.slice (.bool)),.own (.slice (.bool))])),(1001,.own (.int .i64))]⟩)],fun _ ds k=>dI (fun x0 ds=>dI (fun x1 ds=>dL (fun x2 ds=>dL (fun x3 ds=>dL (fun x4 ds=>dL (fun x5 ds=>dE ((F x0 x1 x2 x3 x4 x5).bind (fun y=>k 0 [.L y.1,.L y.2.1,.L y.2.2.1,.L y.2.2.2])) ds) ds) ds) ds) ds) ds) ds⟩
theorem q_Z66 (F:T_Z66) (x0 x1:Int) (x2 x3 x4 x5:List D):runLoop (ocOf [e_Z65]) (olOf [m_Z66 F]) A 48 (codeAt (bodyOf Try.f48) 6) ((m_Z66 F).sh.mk' [.I x0,.I x1,.L x2,.L x3,.L x4,.L x5]) (fun e σ'=>some (e,σ'))=c_Z66 F x0 x1 x2 x3 x4 x5 (fun y=>some (.exit 0,SSt.mk' ⟨(uu 5 (.ptr 1000 [0] :: .full 1001 [] (.int .i64) :: uu 44 ([]))),[(1000,.obox (.agg [.own (.int .i64),.own (.slice (.bool)),.own (.slice (.bool))])),(1001,.own (.int .i64))]⟩ [.L y.1,.L y.2.1,.L y.2.2.1,.L y.2.2.2])):=by kernel_rfl
theorem m_Z66_ok:∀ n,(m_Z66 (n_Z66 n)).ok Try.prog (codeAt (bodyOf Try.f48) 6):=by
 intro n
 induction n with
 | zero=>
  intro R ds k r h
  unfold m_Z66 at h
  obtain ⟨_,_,rfl,h⟩:=dI_some h
  obtain ⟨_,_,rfl,h⟩:=dI_some h
  obtain ⟨_,_,rfl,h⟩:=dL_some h
  obtain ⟨_,_,rfl,h⟩:=dL_some h
  obtain ⟨_,_,rfl,h⟩:=dL_some h
  obtain ⟨_,_,rfl,h⟩:=dL_some h
  obtain ⟨rfl,hE⟩:=dE_some h
  obtain ⟨y,hy,hk⟩:=bnd_some hE
  cases hy
 | succ n ih=>
  intro R ds k r h
  unfold m_Z66 at h
  obtain ⟨_,_,rfl,h⟩:=dI_some h
  obtain ⟨_,_,rfl,h⟩:=dI_some h
  obtain ⟨_,_,rfl,h⟩:=dL_some h
  obtain ⟨_,_,rfl,h⟩:=dL_some h
  obtain ⟨_,_,rfl,h⟩:=dL_some h
  obtain ⟨_,_,rfl,h⟩:=dL_some h
  obtain ⟨rfl,hE⟩:=dE_some h
  obtain ⟨y,hy,hk⟩:=bnd_some hE
  exact ⟨0,_,_,_,hk,rfl,loop_ok px (fx:=⟨Try.func48,by kernel_rfl,by kernel_rfl⟩) (entsOK_cons e_Z65_ok entsOK_nil) (lentsOK_cons ih lentsOK_nil) (by kernel_rfl) ((q_Z66 ..).trans ((c_Z66_bind ..).trans (bnd_to hy)))⟩
noncomputable def e_Z66:Lent:=m_Z66 (Z66)
theorem e_Z66_ok:(e_Z66).ok Try.prog (codeAt (bodyOf Try.f48) 6):=by
 intro R ds k r h
 unfold e_Z66 m_Z66 at h
 obtain ⟨_,_,rfl,h⟩:=dI_some h
 obtain ⟨_,_,rfl,h⟩:=dI_some h
 obtain ⟨_,_,rfl,h⟩:=dL_some h
 obtain ⟨_,_,rfl,h⟩:=dL_some h
 obtain ⟨_,_,rfl,h⟩:=dL_some h
 obtain ⟨_,_,rfl,h⟩:=dL_some h
 obtain ⟨rfl,hE⟩:=dE_some h
 obtain ⟨y,hy,hk⟩:=bnd_some hE
 obtain ⟨n,hn⟩:=ev_some hy
 exact m_Z66_ok n R _ k r ((bnd_to hn).trans hk)

/-!-/
abbrev T_Z67:=Int→Int→List D→List D→List D→Option ((List D × List D × List D × List D) ⊕ (List D × List D × List D))
def c_Z67 {R:Type} (F:T_Z67) (x0 x1:Int) (x2 x3 x4:List D) (k:(List D × List D × List D × List D) ⊕ (List D × List D × List D)→Option R):Option R:=
 bif decide (x1<x0) then
 (Z65 x2 x3 x4 x1 x1 x1).bind (Sum.elim (fun y0=>
 (F x0 (IntKind.i64.wrap (x1 + 1)) x2 x3 x4).bind k) (fun y1=>
 if (1:Nat)≤y1.length then
 (Z66 x0 (IntKind.i64.wrap (x1 + 1)) x2 x3 x4 y1).bind (fun y2=>
 k (.inl (y2.fst,y2.snd.fst,y2.snd.snd.fst,y2.snd.snd.snd)))
 else
 none))
 else
 k (.inr (x2,x3,x4))
theorem c_Z67_bind {R:Type} (F:T_Z67) (x0 x1:Int) (x2 x3 x4:List D) (k:(List D × List D × List D × List D) ⊕ (List D × List D × List D)→Option R):c_Z67 F x0 x1 x2 x3 x4 k=(c_Z67 F x0 x1 x2 x3 x4 some).bind k:=by
 unfold c_Z67
 repeat' first|exact bnd_tail|exact bnd_none|exact bnd_leaf|apply bnd_ite|apply bnd_cond|apply bnd_sum|(apply bnd_bind;intro _)|intro _
def n_Z67:Nat→T_Z67
 | 0,_,_,_,_,_=>none
 | n + 1,x0,x1,x2,x3,x4=>c_Z67 (n_Z67 n) x0 x1 x2 x3 x4 some
noncomputable def Z67 (x0 x1:Int) (x2 x3 x4:List D):Option ((List D × List D × List D × List D) ⊕ (List D × List D × List D)):=ev (fun n=>n_Z67 n x0 x1 x2 x3 x4)
def m_Z67 (F:T_Z67):Lent:=⟨6,⟨(uu 5 (.ptr 1000 [0] :: .nilsl :: uu 11 (.int .i64 :: .int .i64 :: uu 31 ([])))),[(1000,.obox (.agg [.own (.int .i64),.own (.slice (.bool)),.own (.slice (.bool))]))]⟩,[(.exit 0,⟨(uu 5 (.ptr 1000 [0] :: .full 1001 [] (.int .i64) :: uu 44 ([]))),[(1000,.obox (.agg [.own (.int .i64),.own (.slice (.bool)),.own (.slice (.bool))])),(1001,.own (.int .i64))]⟩),(.exit 0,⟨(uu 5 (.ptr 1000 [0] :: .nilsl :: uu 44 ([]))),[(1000,.obox (.agg [.own (.int .i64),.own (.slice (.bool)),.own (.slice (.bool))]))]⟩)],fun _ ds k=>dI (fun x0 ds=>dI (fun x1 ds=>dL (fun x2 ds=>dL (fun x3 ds=>dL (fun x4 ds=>dE ((F x0 x1 x2 x3 x4).bind (Sum.elim (fun y=>k 0 [.L y.1,.L y.2.1,.L y.2.2.1,.L y.2.2.2]) (fun y=>k 1 [.L y.1,.L y.2.1,.L y.2.2]))) ds) ds) ds) ds) ds) ds⟩
theorem q_Z67 (F:T_Z67) (x0 x1:Int) (x2 x3 x4:List D):runLoop (ocOf [e_Z65]) (olOf [m_Z67 F,e_Z66]) A 48 (codeAt (bodyOf Try.f48) 6) ((m_Z67 F).sh.mk' [.I x0,.I x1,.L x2,.L x3,.L x4]) (fun e σ'=>some (e,σ'))=c_Z67 F x0 x1 x2 x3 x4 (Sum.elim (fun y=>some (.exit 0,SSt.mk' ⟨(uu 5 (.ptr 1000 [0] :: .full 1001 [] (.int .i64) :: uu 44 ([]))),[(1000,.obox (.agg [.own (.int .i64),.own (.slice (.bool)),.own (.slice (.bool))])),(1001,.own (.int .i64))]⟩ [.L y.1,.L y.2.1,.L y.2.2.1,.L y.2.2.2])) (fun y=>some (.exit 0,SSt.mk' ⟨(uu 5 (.ptr 1000 [0] :: .nilsl :: uu 44 ([]))),[(1000,.obox (.agg [.own (.int .i64),.own (.slice (.bool)),.own (.slice (.bool))]))]⟩ [.L y.1,.L y.2.1,.L y.2.2]))):=by kernel_rfl
theorem m_Z67_ok:∀ n,(m_Z67 (n_Z67 n)).ok Try.prog (codeAt (bodyOf Try.f48) 6):=by
 intro n
 induction n with
 | zero=>
  intro R ds k r h
  unfold m_Z67 at h
  obtain ⟨_,_,rfl,h⟩:=dI_some h
  obtain ⟨_,_,rfl,h⟩:=dI_some h
  obtain ⟨_,_,rfl,h⟩:=dL_some h
  obtain ⟨_,_,rfl,h⟩:=dL_some h
  obtain ⟨_,_,rfl,h⟩:=dL_some h
  obtain ⟨rfl,hE⟩:=dE_some h
  obtain ⟨y,hy,hk⟩:=bnd_some hE
  cases hy
 | succ n ih=>
  intro R ds k r h
  unfold m_Z67 at h
  obtain ⟨_,_,rfl,h⟩:=dI_some h
  obtain ⟨_,_,rfl,h⟩:=dI_some h
  obtain ⟨_,_,rfl,h⟩:=dL_some h
  obtain ⟨_,_,rfl,h⟩:=dL_some h
  obtain ⟨_,_,rfl,h⟩:=dL_some h
  obtain ⟨rfl,hE⟩:=dE_some h
  obtain ⟨y,hy,hk⟩:=bnd_some hE
  cases y with
  | inl y=>
   exact ⟨0,_,_,_,hk,rfl,loop_ok px (fx:=⟨Try.func48,by kernel_rfl,by kernel_rfl⟩) (entsOK_cons e_Z65_ok entsOK_nil) (lentsOK_cons ih (lentsOK_cons e_Z66_ok lentsOK_nil)) (by kernel_rfl) ((q_Z67 ..).trans ((c_Z67_bind ..).trans (bnd_to hy)))⟩
  | inr y=>
   exact ⟨1,_,_,_,hk,rfl,loop_ok px (fx:=⟨Try.func48,by kernel_rfl,by kernel_rfl⟩) (entsOK_cons e_Z65_ok entsOK_nil) (lentsOK_cons ih (lentsOK_cons e_Z66_ok lentsOK_nil)) (by kernel_rfl) ((q_Z67 ..).trans ((c_Z67_bind ..).trans (bnd_to hy)))⟩
noncomputable def e_Z67:Lent:=m_Z67 (Z67)
theorem e_Z67_ok:(e_Z67).ok Try.prog (codeAt (bodyOf Try.f48) 6):=by
 intro R ds k r h
 unfold e_Z67 m_Z67 at h
 obtain ⟨_,_,rfl,h⟩:=dI_some h
 obtain ⟨_,_,rfl,h⟩:=dI_some h
 obtain ⟨_,_,rfl,h⟩:=dL_some h
 obtain ⟨_,_,rfl,h⟩:=dL_some h
 obtain ⟨_,_,rfl,h⟩:=dL_some h
 obtain ⟨rfl,hE⟩:=dE_some h
 obtain ⟨y,hy,hk⟩:=bnd_some hE
 obtain ⟨n,hn⟩:=ev_some hy
 exact m_Z67_ok n R _ k r ((bnd_to hn).trans hk)

/-!-/
abbrev T_Z68:=List D→List D→List D→List D→Int→Int→List D→Option (List D)
def c_Z68 {R:Type} (F:T_Z68) (x0 x1 x2 x3:List D) (x4 x5:Int) (x6:List D) (k:List D→Option R):Option R:=
 bif decide (x5<x4) then
 if 0≤x5∧x5<(↑x3.length:Int) then
 if (0:Int)≤(x3.getD x5.toNat (D.int 0)).toInt∧(x3.getD x5.toNat (D.int 0)).toInt<(↑x0.length:Int) then
 if x6.length + [D.int (x0.getD (x3.getD x5.toNat (D.int 0)).toInt.toNat (D.int 0)).toInt].length≤(4294967296:Nat) then
 (F x0 x1 x2 x3 x4 (IntKind.i64.wrap (x5 + 1)) (x6 ++ [D.int (x0.getD (x3.getD x5.toNat (D.int 0)).toInt.toNat (D.int 0)).toInt])).bind k
 else
 none
 else
 none
 else
 none
 else
 k x6
theorem c_Z68_bind {R:Type} (F:T_Z68) (x0 x1 x2 x3:List D) (x4 x5:Int) (x6:List D) (k:List D→Option R):c_Z68 F x0 x1 x2 x3 x4 x5 x6 k=(c_Z68 F x0 x1 x2 x3 x4 x5 x6 some).bind k:=by
 unfold c_Z68
 repeat' first|exact bnd_tail|exact bnd_none|exact bnd_leaf|apply bnd_ite|apply bnd_cond|apply bnd_sum|(apply bnd_bind;intro _)|intro _
def n_Z68:Nat→T_Z68
 | 0,_,_,_,_,_,_,_=>none
 | n + 1,x0,x1,x2,x3,x4,x5,x6=>c_Z68 (n_Z68 n) x0 x1 x2 x3 x4 x5 x6 some
noncomputable def Z68 (x0 x1 x2 x3:List D) (x4 x5:Int) (x6:List D):Option (List D):=ev (fun n=>n_Z68 n x0 x1 x2 x3 x4 x5 x6)
def m_Z68 (F:T_Z68):Lent:=⟨3,⟨(.rp (.agg [.rd (.int .i64),.rd (.slice (.bool)),.rd (.slice (.bool))]) :: uu 4 (.full 1000 [] (.int .i64) :: .undef :: .undef :: .undef :: .rd (.int .i64) :: .int .i64 :: .int .i64 :: uu 15 ([]))),[(1000,.own (.int .i64))]⟩,[(.exit 0,⟨(uu 5 (.full 1000 [] (.int .i64) :: uu 21 ([]))),[(1000,.own (.int .i64))]⟩)],fun _ ds k=>dL (fun x0 ds=>dL (fun x1 ds=>dL (fun x2 ds=>dL (fun x3 ds=>dI (fun x4 ds=>dI (fun x5 ds=>dL (fun x6 ds=>dE ((F x0 x1 x2 x3 x4 x5 x6).bind (fun y=>k 0 [.L y])) ds) ds) ds) ds) ds) ds) ds) ds⟩
theorem q_Z68 (F:T_Z68) (x0 x1 x2 x3:List D) (x4 x5:Int) (x6:List D):runLoop (ocOf []) (olOf [m_Z68 F]) A 135 (codeAt (bodyOf Try.f135) 3) ((m_Z68 F).sh.mk' [.L x0,.L x1,.L x2,.L x3,.I x4,.I x5,.L x6]) (fun e σ'=>some (e,σ'))=c_Z68 F x0 x1 x2 x3 x4 x5 x6 (fun y=>some (.exit 0,SSt.mk' ⟨(uu 5 (.full 1000 [] (.int .i64) :: uu 21 ([]))),[(1000,.own (.int .i64))]⟩ [.L y])):=by kernel_rfl
theorem m_Z68_ok:∀ n,(m_Z68 (n_Z68 n)).ok Try.prog (codeAt (bodyOf Try.f135) 3):=by
 intro n
 induction n with
 | zero=>
  intro R ds k r h
  unfold m_Z68 at h
  obtain ⟨_,_,rfl,h⟩:=dL_some h
  obtain ⟨_,_,rfl,h⟩:=dL_some h
  obtain ⟨_,_,rfl,h⟩:=dL_some h
  obtain ⟨_,_,rfl,h⟩:=dL_some h
  obtain ⟨_,_,rfl,h⟩:=dI_some h
  obtain ⟨_,_,rfl,h⟩:=dI_some h
  obtain ⟨_,_,rfl,h⟩:=dL_some h
  obtain ⟨rfl,hE⟩:=dE_some h
  obtain ⟨y,hy,hk⟩:=bnd_some hE
  cases hy
 | succ n ih=>
  intro R ds k r h
  unfold m_Z68 at h
  obtain ⟨_,_,rfl,h⟩:=dL_some h
  obtain ⟨_,_,rfl,h⟩:=dL_some h
  obtain ⟨_,_,rfl,h⟩:=dL_some h
  obtain ⟨_,_,rfl,h⟩:=dL_some h
  obtain ⟨_,_,rfl,h⟩:=dI_some h
  obtain ⟨_,_,rfl,h⟩:=dI_some h
  obtain ⟨_,_,rfl,h⟩:=dL_some h
  obtain ⟨rfl,hE⟩:=dE_some h
  obtain ⟨y,hy,hk⟩:=bnd_some hE
  exact ⟨0,_,_,_,hk,rfl,loop_ok px (fx:=⟨Try.func135,by kernel_rfl,by kernel_rfl⟩) entsOK_nil (lentsOK_cons ih lentsOK_nil) (by kernel_rfl) ((q_Z68 ..).trans ((c_Z68_bind ..).trans (bnd_to hy)))⟩
noncomputable def e_Z68:Lent:=m_Z68 (Z68)
theorem e_Z68_ok:(e_Z68).ok Try.prog (codeAt (bodyOf Try.f135) 3):=by
 intro R ds k r h
 unfold e_Z68 m_Z68 at h
 obtain ⟨_,_,rfl,h⟩:=dL_some h
 obtain ⟨_,_,rfl,h⟩:=dL_some h
 obtain ⟨_,_,rfl,h⟩:=dL_some h
 obtain ⟨_,_,rfl,h⟩:=dL_some h
 obtain ⟨_,_,rfl,h⟩:=dI_some h
 obtain ⟨_,_,rfl,h⟩:=dI_some h
 obtain ⟨_,_,rfl,h⟩:=dL_some h
 obtain ⟨rfl,hE⟩:=dE_some h
 obtain ⟨y,hy,hk⟩:=bnd_some hE
 obtain ⟨n,hn⟩:=ev_some hy
 exact m_Z68_ok n R _ k r ((bnd_to hn).trans hk)

/-!-/
def c_Z69 {R:Type} (x0 x1 x2 x3:List D) (k:List D→Option R):Option R:=
 (Z68 x0 x1 x2 x3 (↑x3.length:Int) (0:Int) []).bind (fun y0=>
 k y0)
theorem c_Z69_bind {R:Type} (x0 x1 x2 x3:List D) (k:List D→Option R):c_Z69 x0 x1 x2 x3 k=(c_Z69 x0 x1 x2 x3 some).bind k:=by
 unfold c_Z69
 repeat' first|exact bnd_tail|exact bnd_none|exact bnd_leaf|apply bnd_ite|apply bnd_cond|apply bnd_sum|(apply bnd_bind;intro _)|intro _
def Z69 (x0 x1 x2 x3:List D):Option (List D):=c_Z69 x0 x1 x2 x3 some
def e_Z69:Ent:=⟨135,[.rp (.agg [.rd (.int .i64),.rd (.slice (.bool)),.rd (.slice (.bool))]),.rd (.int .i64)],[(.own (.int .i64),[.undef,.undef])],fun _ ds k=>dL (fun x0 ds=>dL (fun x1 ds=>dL (fun x2 ds=>dL (fun x3 ds=>dE ((Z69 x0 x1 x2 x3).bind (fun y=>k 0 [.L y])) ds) ds) ds) ds) ds⟩
theorem q_Z69 (x0 x1 x2 x3:List D):runFn (ocOf []) (olOf [e_Z68]) A 135 Try.f135 (Sh.mks e_Z69.sh [.L x0,.L x1,.L x2,.L x3]).1 (fun v os=>some (v,os))=c_Z69 x0 x1 x2 x3 (fun y=>retO e_Z69 0 [.L y]):=by kernel_rfl
theorem e_Z69_ok:e_Z69.ok Try.prog A:=by
 intro R ds k r h
 unfold e_Z69 at h
 obtain ⟨_,_,rfl,h⟩:=dL_some h
 obtain ⟨_,_,rfl,h⟩:=dL_some h
 obtain ⟨_,_,rfl,h⟩:=dL_some h
 obtain ⟨_,_,rfl,h⟩:=dL_some h
 obtain ⟨rfl,hE⟩:=dE_some h
 obtain ⟨y,hy,hk⟩:=bnd_some hE
 exact ⟨0,_,_,_,hk,rfl,fn_ok px (fx:=⟨Try.func135,by kernel_rfl,by kernel_rfl⟩) entsOK_nil (lentsOK_cons e_Z68_ok lentsOK_nil) ((q_Z69 ..).trans ((c_Z69_bind ..).trans (bnd_to hy)))⟩

/-!-/
def c_Z70 {R:Type} (x0 x1:List D) (k:List D × Bool × Bool→Option R):Option R:=
 (Z45 x0 x1).bind (fun y0=>
 bif !y0 then
 k ([],Bool.false,Bool.false)
 else
 (Z58 x0 x1).bind (fun y1=>
 (Z67 (↑y1.fst.length:Int) (0:Int) y1.fst y1.snd.fst y1.snd.snd).bind (Sum.elim (fun y2=>
 if (1:Nat)≤y2.snd.snd.snd.length then
 if (0:Int)≤(0:Int)∧(0:Int)≤IntKind.i64.wrap ((↑y2.snd.snd.snd.length:Int) - (1:Int))∧IntKind.i64.wrap ((↑y2.snd.snd.snd.length:Int) - (1:Int))≤(↑y2.snd.snd.snd.length:Int) then
 if (0:Nat) + ((IntKind.i64.wrap ((↑y2.snd.snd.snd.length:Int) - (1:Int))).toNat - (0:Nat))≤y2.snd.snd.snd.length then
 (Z69 y2.fst y2.snd.fst y2.snd.snd.fst (List.take ((IntKind.i64.wrap ((↑y2.snd.snd.snd.length:Int) - (1:Int))).toNat - (0:Nat)) (List.drop (0:Nat) y2.snd.snd.snd))).bind (fun y3=>
 k (y3,Bool.true,Bool.true))
 else
 none
 else
 none
 else
 none) (fun y4=>
 k ([],Bool.false,Bool.true)))))
theorem c_Z70_bind {R:Type} (x0 x1:List D) (k:List D × Bool × Bool→Option R):c_Z70 x0 x1 k=(c_Z70 x0 x1 some).bind k:=by
 unfold c_Z70
 repeat' first|exact bnd_tail|exact bnd_none|exact bnd_leaf|apply bnd_ite|apply bnd_cond|apply bnd_sum|(apply bnd_bind;intro _)|intro _
def Z70 (x0 x1:List D):Option (List D × Bool × Bool):=c_Z70 x0 x1 some
def e_Z70:Ent:=⟨48,[.agg [.rd (.struct [.int .i64,.int .i64]),.rd (.struct [.int .i64,.int .i64])]],[(.tup [.own (.int .i64),.bool,.bool],[.undef])],fun _ ds k=>dL (fun x0 ds=>dL (fun x1 ds=>dE ((Z70 x0 x1).bind (fun y=>k 0 [.L y.1,.B y.2.1,.B y.2.2])) ds) ds) ds⟩
theorem q_Z70 (x0 x1:List D):runFn (ocOf [e_Z45,e_Z58,e_Z69]) (olOf [e_Z67]) A 48 Try.f48 (Sh.mks e_Z70.sh [.L x0,.L x1]).1 (fun v os=>some (v,os))=c_Z70 x0 x1 (fun y=>retO e_Z70 0 [.L y.1,.B y.2.1,.B y.2.2]):=by kernel_rfl
theorem e_Z70_ok:e_Z70.ok Try.prog A:=by
 intro R ds k r h
 unfold e_Z70 at h
 obtain ⟨_,_,rfl,h⟩:=dL_some h
 obtain ⟨_,_,rfl,h⟩:=dL_some h
 obtain ⟨rfl,hE⟩:=dE_some h
 obtain ⟨y,hy,hk⟩:=bnd_some hE
 exact ⟨0,_,_,_,hk,rfl,fn_ok px (fx:=⟨Try.func48,by kernel_rfl,by kernel_rfl⟩) (entsOK_cons e_Z45_ok (entsOK_cons e_Z58_ok (entsOK_cons e_Z69_ok entsOK_nil))) (lentsOK_cons e_Z67_ok lentsOK_nil) ((q_Z70 ..).trans ((c_Z70_bind ..).trans (bnd_to hy)))⟩

/-!-/
abbrev T_Z71:=List D→List D→List D→Int→Int→Option ((Bool) ⊕ (Unit))
def c_Z71 {R:Type} (F:T_Z71) (x0 x1 x2:List D) (x3 x4:Int) (k:(Bool) ⊕ (Unit)→Option R):Option R:=
 bif decide (x4<x3) then
 if 0≤x4∧x4<(↑x2.length:Int) then
 if 0≤x4∧x4<(↑(x2.getD x4.toNat (D.int 0)).items.length:Int) then
 bif ((x2.getD x4.toNat (D.int 0)).items.getD x4.toNat (D.int 0)).toBool then
 k (.inl Bool.false)
 else
 (F x0 x1 x2 x3 (IntKind.i64.wrap (x4 + 1))).bind k
 else
 none
 else
 none
 else
 k (.inr ())
theorem c_Z71_bind {R:Type} (F:T_Z71) (x0 x1 x2:List D) (x3 x4:Int) (k:(Bool) ⊕ (Unit)→Option R):c_Z71 F x0 x1 x2 x3 x4 k=(c_Z71 F x0 x1 x2 x3 x4 some).bind k:=by
 unfold c_Z71
 repeat' first|exact bnd_tail|exact bnd_none|exact bnd_leaf|apply bnd_ite|apply bnd_cond|apply bnd_sum|(apply bnd_bind;intro _)|intro _
def n_Z71:Nat→T_Z71
 | 0,_,_,_,_,_=>none
 | n + 1,x0,x1,x2,x3,x4=>c_Z71 (n_Z71 n) x0 x1 x2 x3 x4 some
noncomputable def Z71 (x0 x1 x2:List D) (x3 x4:Int):Option ((Bool) ⊕ (Unit)):=ev (fun n=>n_Z71 n x0 x1 x2 x3 x4)
def m_Z71 (F:T_Z71):Lent:=⟨2,⟨(.rp (.agg [.rd (.int .i64),.rd (.slice (.bool)),.rd (.slice (.bool))]) :: uu 7 (.int .i64 :: .int .i64 :: uu 13 ([]))),[]⟩,[(.ret,⟨(.undef :: .undef :: .bool :: uu 20 ([])),[]⟩),(.exit 0,⟨(uu 23 ([])),[]⟩)],fun _ ds k=>dL (fun x0 ds=>dL (fun x1 ds=>dL (fun x2 ds=>dI (fun x3 ds=>dI (fun x4 ds=>dE ((F x0 x1 x2 x3 x4).bind (Sum.elim (fun y=>k 0 [.B y]) (fun y=>k 1 []))) ds) ds) ds) ds) ds) ds⟩
theorem q_Z71 (F:T_Z71) (x0 x1 x2:List D) (x3 x4:Int):runLoop (ocOf []) (olOf [m_Z71 F]) A 136 (codeAt (bodyOf Try.f136) 2) ((m_Z71 F).sh.mk' [.L x0,.L x1,.L x2,.I x3,.I x4]) (fun e σ'=>some (e,σ'))=c_Z71 F x0 x1 x2 x3 x4 (Sum.elim (fun y=>some (.ret,SSt.mk' ⟨(.undef :: .undef :: .bool :: uu 20 ([])),[]⟩ [.B y])) (fun y=>some (.exit 0,SSt.mk' ⟨(uu 23 ([])),[]⟩ []))):=by kernel_rfl
theorem m_Z71_ok:∀ n,(m_Z71 (n_Z71 n)).ok Try.prog (codeAt (bodyOf Try.f136) 2):=by
 intro n
 induction n with
 | zero=>
  intro R ds k r h
  unfold m_Z71 at h
  obtain ⟨_,_,rfl,h⟩:=dL_some h
  obtain ⟨_,_,rfl,h⟩:=dL_some h
  obtain ⟨_,_,rfl,h⟩:=dL_some h
  obtain ⟨_,_,rfl,h⟩:=dI_some h
  obtain ⟨_,_,rfl,h⟩:=dI_some h
  obtain ⟨rfl,hE⟩:=dE_some h
  obtain ⟨y,hy,hk⟩:=bnd_some hE
  cases hy
 | succ n ih=>
  intro R ds k r h
  unfold m_Z71 at h
  obtain ⟨_,_,rfl,h⟩:=dL_some h
  obtain ⟨_,_,rfl,h⟩:=dL_some h
  obtain ⟨_,_,rfl,h⟩:=dL_some h
  obtain ⟨_,_,rfl,h⟩:=dI_some h
  obtain ⟨_,_,rfl,h⟩:=dI_some h
  obtain ⟨rfl,hE⟩:=dE_some h
  obtain ⟨y,hy,hk⟩:=bnd_some hE
  cases y with
  | inl y=>
   exact ⟨0,_,_,_,hk,rfl,loop_ok px (fx:=⟨Try.func136,by kernel_rfl,by kernel_rfl⟩) entsOK_nil (lentsOK_cons ih lentsOK_nil) (by kernel_rfl) ((q_Z71 ..).trans ((c_Z71_bind ..).trans (bnd_to hy)))⟩
  | inr y=>
   exact ⟨1,_,_,_,hk,rfl,loop_ok px (fx:=⟨Try.func136,by kernel_rfl,by kernel_rfl⟩) entsOK_nil (lentsOK_cons ih lentsOK_nil) (by kernel_rfl) ((q_Z71 ..).trans ((c_Z71_bind ..).trans (bnd_to hy)))⟩
noncomputable def e_Z71:Lent:=m_Z71 (Z71)
theorem e_Z71_ok:(e_Z71).ok Try.prog (codeAt (bodyOf Try.f136) 2):=by
 intro R ds k r h
 unfold e_Z71 m_Z71 at h
 obtain ⟨_,_,rfl,h⟩:=dL_some h
 obtain ⟨_,_,rfl,h⟩:=dL_some h
 obtain ⟨_,_,rfl,h⟩:=dL_some h
 obtain ⟨_,_,rfl,h⟩:=dI_some h
 obtain ⟨_,_,rfl,h⟩:=dI_some h
 obtain ⟨rfl,hE⟩:=dE_some h
 obtain ⟨y,hy,hk⟩:=bnd_some hE
 obtain ⟨n,hn⟩:=ev_some hy
 exact m_Z71_ok n R _ k r ((bnd_to hn).trans hk)

/-!-/
def c_Z72 {R:Type} (x0 x1 x2:List D) (k:Bool→Option R):Option R:=
 (Z71 x0 x1 x2 (↑x0.length:Int) (0:Int)).bind (Sum.elim (fun y0=>
 k y0) (fun y1=>
 k Bool.true))
theorem c_Z72_bind {R:Type} (x0 x1 x2:List D) (k:Bool→Option R):c_Z72 x0 x1 x2 k=(c_Z72 x0 x1 x2 some).bind k:=by
 unfold c_Z72
 repeat' first|exact bnd_tail|exact bnd_none|exact bnd_leaf|apply bnd_ite|apply bnd_cond|apply bnd_sum|(apply bnd_bind;intro _)|intro _
def Z72 (x0 x1 x2:List D):Option (Bool):=c_Z72 x0 x1 x2 some
def e_Z72:Ent:=⟨136,[.rp (.agg [.rd (.int .i64),.rd (.slice (.bool)),.rd (.slice (.bool))])],[(.bool,[.undef])],fun _ ds k=>dL (fun x0 ds=>dL (fun x1 ds=>dL (fun x2 ds=>dE ((Z72 x0 x1 x2).bind (fun y=>k 0 [.B y])) ds) ds) ds) ds⟩
theorem q_Z72 (x0 x1 x2:List D):runFn (ocOf []) (olOf [e_Z71]) A 136 Try.f136 (Sh.mks e_Z72.sh [.L x0,.L x1,.L x2]).1 (fun v os=>some (v,os))=c_Z72 x0 x1 x2 (fun y=>retO e_Z72 0 [.B y]):=by kernel_rfl
theorem e_Z72_ok:e_Z72.ok Try.prog A:=by
 intro R ds k r h
 unfold e_Z72 at h
 obtain ⟨_,_,rfl,h⟩:=dL_some h
 obtain ⟨_,_,rfl,h⟩:=dL_some h
 obtain ⟨_,_,rfl,h⟩:=dL_some h
 obtain ⟨rfl,hE⟩:=dE_some h
 obtain ⟨y,hy,hk⟩:=bnd_some hE
 exact ⟨0,_,_,_,hk,rfl,fn_ok px (fx:=⟨Try.func136,by kernel_rfl,by kernel_rfl⟩) entsOK_nil (lentsOK_cons e_Z71_ok lentsOK_nil) ((q_Z72 ..).trans ((c_Z72_bind ..).trans (bnd_to hy)))⟩

/-!-/
def c_Z73 {R:Type} (x0 x1:List D) (k:Bool × Bool→Option R):Option R:=
 (Z45 x0 x1).bind (fun y0=>
 bif !y0 then
 k (Bool.false,Bool.false)
 else
 (Z58 x0 x1).bind (fun y1=>
 (Z72 y1.fst y1.snd.fst y1.snd.snd).bind (fun y2=>
 k (y2,Bool.true))))
theorem c_Z73_bind {R:Type} (x0 x1:List D) (k:Bool × Bool→Option R):c_Z73 x0 x1 k=(c_Z73 x0 x1 some).bind k:=by
 unfold c_Z73
 repeat' first|exact bnd_tail|exact bnd_none|exact bnd_leaf|apply bnd_ite|apply bnd_cond|apply bnd_sum|(apply bnd_bind;intro _)|intro _
def Z73 (x0 x1:List D):Option (Bool × Bool):=c_Z73 x0 x1 some
def e_Z73:Ent:=⟨49,[.agg [.rd (.struct [.int .i64,.int .i64]),.rd (.struct [.int .i64,.int .i64])]],[(.tup [.bool,.bool],[.undef])],fun _ ds k=>dL (fun x0 ds=>dL (fun x1 ds=>dE ((Z73 x0 x1).bind (fun y=>k 0 [.B y.1,.B y.2])) ds) ds) ds⟩
theorem q_Z73 (x0 x1:List D):runFn (ocOf [e_Z45,e_Z58,e_Z72]) (olOf []) A 49 Try.f49 (Sh.mks e_Z73.sh [.L x0,.L x1]).1 (fun v os=>some (v,os))=c_Z73 x0 x1 (fun y=>retO e_Z73 0 [.B y.1,.B y.2]):=by kernel_rfl
theorem e_Z73_ok:e_Z73.ok Try.prog A:=by
 intro R ds k r h
 unfold e_Z73 at h
 obtain ⟨_,_,rfl,h⟩:=dL_some h
 obtain ⟨_,_,rfl,h⟩:=dL_some h
 obtain ⟨rfl,hE⟩:=dE_some h
 obtain ⟨y,hy,hk⟩:=bnd_some hE
 exact ⟨0,_,_,_,hk,rfl,fn_ok px (fx:=⟨Try.func49,by kernel_rfl,by kernel_rfl⟩) (entsOK_cons e_Z45_ok (entsOK_cons e_Z58_ok (entsOK_cons e_Z72_ok entsOK_nil))) lentsOK_nil ((q_Z73 ..).trans ((c_Z73_bind ..).trans (bnd_to hy)))⟩

/-!-/
def c_Z74 {R:Type} (x0:List D) (k:List D→Option R):Option R:=
 if (1:Nat)≤x0.length then
 if ([]:List D).length + x0.length≤(4294967296:Nat) then
 k ([] ++ x0)
 else
 none
 else
 bothK (
 if ([]:List D).length + x0.length≤(4294967296:Nat) then
 k ([] ++ x0)
 else
 none) (
 k [])
theorem c_Z74_imp {R:Type} (x0:List D) (k:List D→Option R) (y:List D) (hy:c_Z74 x0 some=some y):c_Z74 x0 k=k y:=by
 revert hy
 unfold c_Z74
 repeat' first
  | exact imp_leaf
  | exact imp_none
  | exact imp_tail
  | apply imp_both
  | apply imp_ite
  | apply imp_cond
  | apply imp_sum
  | (apply imp_bind; intro _)
  | intro _
def Z74 (x0:List D):Option (List D):=c_Z74 x0 some
def e_Z74:Ent:=⟨138,[.rd (.struct [.int .i64,.int .i64])],[(.own (.struct [.int .i64,.int .i64]),[.undef])],fun _ ds k=>dL (fun x0 ds=>dE ((Z74 x0).bind (fun y=>k 0 [.L y])) ds) ds⟩
theorem q_Z74 (x0:List D):runFn (ocOf []) (olOf []) A 138 Try.f138 (Sh.mks e_Z74.sh [.L x0]).1 (fun v os=>some (v,os))=c_Z74 x0 (fun y=>retO e_Z74 0 [.L y]):=by kernel_rfl
theorem e_Z74_ok:e_Z74.ok Try.prog A:=by
 intro R ds k r h
 unfold e_Z74 at h
 obtain ⟨_,_,rfl,h⟩:=dL_some h
 obtain ⟨rfl,hE⟩:=dE_some h
 obtain ⟨y,hy,hk⟩:=bnd_some hE
 exact ⟨0,_,_,_,hk,rfl,fn_ok px (fx:=⟨Try.func138,by kernel_rfl,by kernel_rfl⟩) entsOK_nil lentsOK_nil ((q_Z74 ..).trans (c_Z74_imp (hy:=hy) ..))⟩

/-!-/
def c_Z75 {R:Type} (x0 x1:Int) (x2 x3 x4 x5 x6:List D) (k:Bool→Option R):Option R:=
 (Z38 x5 x6 x1).bind (fun y0=>
 if 0≤y0∧y0<(↑x4.length:Int) then
 (Z38 x5 x6 x0).bind (fun y1=>
 if 0≤y1∧y1<(↑(x4.getD y0.toNat (D.int 0)).items.length:Int) then
 k (!((x4.getD y0.toNat (D.int 0)).items.getD y1.toNat (D.int 0)).toBool)
 else
 none)
 else
 none)
theorem c_Z75_bind {R:Type} (x0 x1:Int) (x2 x3 x4 x5 x6:List D) (k:Bool→Option R):c_Z75 x0 x1 x2 x3 x4 x5 x6 k=(c_Z75 x0 x1 x2 x3 x4 x5 x6 some).bind k:=by
 unfold c_Z75
 repeat' first|exact bnd_tail|exact bnd_none|exact bnd_leaf|apply bnd_ite|apply bnd_cond|apply bnd_sum|(apply bnd_bind;intro _)|intro _
def Z75 (x0 x1:Int) (x2 x3 x4 x5 x6:List D):Option (Bool):=c_Z75 x0 x1 x2 x3 x4 x5 x6 some
def e_Z75:Ent:=⟨139,[.agg [.int .i64,.int .i64],.rp (.rp (.agg [.rd (.int .i64),.rd (.slice (.bool)),.rd (.slice (.bool))])),.rp (.agg [.rd (.struct [.int .i64,.int .i64]),.rd (.struct [.int .i64,.int .i64])])],[(.bool,[.undef,.undef,.undef])],fun _ ds k=>dI (fun x0 ds=>dI (fun x1 ds=>dL (fun x2 ds=>dL (fun x3 ds=>dL (fun x4 ds=>dL (fun x5 ds=>dL (fun x6 ds=>dE ((Z75 x0 x1 x2 x3 x4 x5 x6).bind (fun y=>k 0 [.B y])) ds) ds) ds) ds) ds) ds) ds) ds⟩
theorem q_Z75 (x0 x1:Int) (x2 x3 x4 x5 x6:List D):runFn (ocOf [e_Z38]) (olOf []) A 139 Try.f139 (Sh.mks e_Z75.sh [.I x0,.I x1,.L x2,.L x3,.L x4,.L x5,.L x6]).1 (fun v os=>some (v,os))=c_Z75 x0 x1 x2 x3 x4 x5 x6 (fun y=>retO e_Z75 0 [.B y]):=by kernel_rfl
theorem e_Z75_ok:e_Z75.ok Try.prog A:=by
 intro R ds k r h
 unfold e_Z75 at h
 obtain ⟨_,_,rfl,h⟩:=dI_some h
 obtain ⟨_,_,rfl,h⟩:=dI_some h
 obtain ⟨_,_,rfl,h⟩:=dL_some h
 obtain ⟨_,_,rfl,h⟩:=dL_some h
 obtain ⟨_,_,rfl,h⟩:=dL_some h
 obtain ⟨_,_,rfl,h⟩:=dL_some h
 obtain ⟨_,_,rfl,h⟩:=dL_some h
 obtain ⟨rfl,hE⟩:=dE_some h
 obtain ⟨y,hy,hk⟩:=bnd_some hE
 exact ⟨0,_,_,_,hk,rfl,fn_ok px (fx:=⟨Try.func139,by kernel_rfl,by kernel_rfl⟩) (entsOK_cons e_Z38_ok entsOK_nil) lentsOK_nil ((q_Z75 ..).trans ((c_Z75_bind ..).trans (bnd_to hy)))⟩

/-!-/
abbrev T_Z76:=List D→List D→List D→List D→List D→List D→Int→Int→Option ((Int) ⊕ (Unit))
def c_Z76 {R:Type} (F:T_Z76) (x0 x1 x2 x3 x4 x5:List D) (x6 x7:Int) (k:(Int) ⊕ (Unit)→Option R):Option R:=
 bif decide (x7<x6) then
 if 0≤x7∧x7<(↑x0.length:Int) then
 (Z75 (((x0.getD x7.toNat (D.int 0)).fld (0:Nat)).toInt) (((x0.getD x7.toNat (D.int 0)).fld (1:Nat)).toInt) x1 x2 x3 x4 x5).bind (fun y0=>
 bif y0 then
 k (.inl x7)
 else
 (F x0 x1 x2 x3 x4 x5 x6 (IntKind.i64.wrap (x7 + 1))).bind k)
 else
 none
 else
 k (.inr ())
theorem c_Z76_bind {R:Type} (F:T_Z76) (x0 x1 x2 x3 x4 x5:List D) (x6 x7:Int) (k:(Int) ⊕ (Unit)→Option R):c_Z76 F x0 x1 x2 x3 x4 x5 x6 x7 k=(c_Z76 F x0 x1 x2 x3 x4 x5 x6 x7 some).bind k:=by
 unfold c_Z76
 repeat' first|exact bnd_tail|exact bnd_none|exact bnd_leaf|apply bnd_ite|apply bnd_cond|apply bnd_sum|(apply bnd_bind;intro _)|intro _
def n_Z76:Nat→T_Z76
 | 0,_,_,_,_,_,_,_,_=>none
 | n + 1,x0,x1,x2,x3,x4,x5,x6,x7=>c_Z76 (n_Z76 n) x0 x1 x2 x3 x4 x5 x6 x7 some
noncomputable def Z76 (x0 x1 x2 x3 x4 x5:List D) (x6 x7:Int):Option ((Int) ⊕ (Unit)):=ev (fun n=>n_Z76 n x0 x1 x2 x3 x4 x5 x6 x7)
def m_Z76 (F:T_Z76):Lent:=⟨2,⟨(.rd (.struct [.int .i64,.int .i64]) :: .fn 139 [.rp (.rp (.agg [.rd (.int .i64),.rd (.slice (.bool)),.rd (.slice (.bool))])),.rp (.agg [.rd (.struct [.int .i64,.int .i64]),.rd (.struct [.int .i64,.int .i64])])] :: uu 5 (.int .i64 :: .int .i64 :: uu 10 ([]))),[]⟩,[(.ret,⟨(uu 4 (.int .i64 :: uu 14 ([]))),[]⟩),(.exit 0,⟨(uu 19 ([])),[]⟩)],fun _ ds k=>dL (fun x0 ds=>dL (fun x1 ds=>dL (fun x2 ds=>dL (fun x3 ds=>dL (fun x4 ds=>dL (fun x5 ds=>dI (fun x6 ds=>dI (fun x7 ds=>dE ((F x0 x1 x2 x3 x4 x5 x6 x7).bind (Sum.elim (fun y=>k 0 [.I y]) (fun y=>k 1 []))) ds) ds) ds) ds) ds) ds) ds) ds) ds⟩
theorem q_Z76 (F:T_Z76) (x0 x1 x2 x3 x4 x5:List D) (x6 x7:Int):runLoop (ocOf [e_Z75]) (olOf [m_Z76 F]) A 202 (codeAt (bodyOf Try.f202) 2) ((m_Z76 F).sh.mk' [.L x0,.L x1,.L x2,.L x3,.L x4,.L x5,.I x6,.I x7]) (fun e σ'=>some (e,σ'))=c_Z76 F x0 x1 x2 x3 x4 x5 x6 x7 (Sum.elim (fun y=>some (.ret,SSt.mk' ⟨(uu 4 (.int .i64 :: uu 14 ([]))),[]⟩ [.I y])) (fun y=>some (.exit 0,SSt.mk' ⟨(uu 19 ([])),[]⟩ []))):=by kernel_rfl
theorem m_Z76_ok:∀ n,(m_Z76 (n_Z76 n)).ok Try.prog (codeAt (bodyOf Try.f202) 2):=by
 intro n
 induction n with
 | zero=>
  intro R ds k r h
  unfold m_Z76 at h
  obtain ⟨_,_,rfl,h⟩:=dL_some h
  obtain ⟨_,_,rfl,h⟩:=dL_some h
  obtain ⟨_,_,rfl,h⟩:=dL_some h
  obtain ⟨_,_,rfl,h⟩:=dL_some h
  obtain ⟨_,_,rfl,h⟩:=dL_some h
  obtain ⟨_,_,rfl,h⟩:=dL_some h
  obtain ⟨_,_,rfl,h⟩:=dI_some h
  obtain ⟨_,_,rfl,h⟩:=dI_some h
  obtain ⟨rfl,hE⟩:=dE_some h
  obtain ⟨y,hy,hk⟩:=bnd_some hE
  cases hy
 | succ n ih=>
  intro R ds k r h
  unfold m_Z76 at h
  obtain ⟨_,_,rfl,h⟩:=dL_some h
  obtain ⟨_,_,rfl,h⟩:=dL_some h
  obtain ⟨_,_,rfl,h⟩:=dL_some h
  obtain ⟨_,_,rfl,h⟩:=dL_some h
  obtain ⟨_,_,rfl,h⟩:=dL_some h
  obtain ⟨_,_,rfl,h⟩:=dL_some h
  obtain ⟨_,_,rfl,h⟩:=dI_some h
  obtain ⟨_,_,rfl,h⟩:=dI_some h
  obtain ⟨rfl,hE⟩:=dE_some h
  obtain ⟨y,hy,hk⟩:=bnd_some hE
  cases y with
  | inl y=>
   exact ⟨0,_,_,_,hk,rfl,loop_ok px (fx:=⟨Try.func202,by kernel_rfl,by kernel_rfl⟩) (entsOK_cons e_Z75_ok entsOK_nil) (lentsOK_cons ih lentsOK_nil) (by kernel_rfl) ((q_Z76 ..).trans ((c_Z76_bind ..).trans (bnd_to hy)))⟩
  | inr y=>
   exact ⟨1,_,_,_,hk,rfl,loop_ok px (fx:=⟨Try.func202,by kernel_rfl,by kernel_rfl⟩) (entsOK_cons e_Z75_ok entsOK_nil) (lentsOK_cons ih lentsOK_nil) (by kernel_rfl) ((q_Z76 ..).trans ((c_Z76_bind ..).trans (bnd_to hy)))⟩
noncomputable def e_Z76:Lent:=m_Z76 (Z76)
theorem e_Z76_ok:(e_Z76).ok Try.prog (codeAt (bodyOf Try.f202) 2):=by
 intro R ds k r h
 unfold e_Z76 m_Z76 at h
 obtain ⟨_,_,rfl,h⟩:=dL_some h
 obtain ⟨_,_,rfl,h⟩:=dL_some h
 obtain ⟨_,_,rfl,h⟩:=dL_some h
 obtain ⟨_,_,rfl,h⟩:=dL_some h
 obtain ⟨_,_,rfl,h⟩:=dL_some h
 obtain ⟨_,_,rfl,h⟩:=dL_some h
 obtain ⟨_,_,rfl,h⟩:=dI_some h
 obtain ⟨_,_,rfl,h⟩:=dI_some h
 obtain ⟨rfl,hE⟩:=dE_some h
 obtain ⟨y,hy,hk⟩:=bnd_some hE
 obtain ⟨n,hn⟩:=ev_some hy
 exact m_Z76_ok n R _ k r ((bnd_to hn).trans hk)

/-!-/
def c_Z77 {R:Type} (x0 x1 x2 x3 x4 x5:List D) (k:Int→Option R):Option R:=
 (Z76 x0 x1 x2 x3 x4 x5 (↑x0.length:Int) (0:Int)).bind (Sum.elim (fun y0=>
 k y0) (fun y1=>
 k (-1:Int)))
theorem c_Z77_bind {R:Type} (x0 x1 x2 x3 x4 x5:List D) (k:Int→Option R):c_Z77 x0 x1 x2 x3 x4 x5 k=(c_Z77 x0 x1 x2 x3 x4 x5 some).bind k:=by
 unfold c_Z77
 repeat' first|exact bnd_tail|exact bnd_none|exact bnd_leaf|apply bnd_ite|apply bnd_cond|apply bnd_sum|(apply bnd_bind;intro _)|intro _
def Z77 (x0 x1 x2 x3 x4 x5:List D):Option (Int):=c_Z77 x0 x1 x2 x3 x4 x5 some
def e_Z77:Ent:=⟨202,[.rd (.struct [.int .i64,.int .i64]),.fn 139 [.rp (.rp (.agg [.rd (.int .i64),.rd (.slice (.bool)),.rd (.slice (.bool))])),.rp (.agg [.rd (.struct [.int .i64,.int .i64]),.rd (.struct [.int .i64,.int .i64])])]],[(.int .i64,[.undef,.undef])],fun _ ds k=>dL (fun x0 ds=>dL (fun x1 ds=>dL (fun x2 ds=>dL (fun x3 ds=>dL (fun x4 ds=>dL (fun x5 ds=>dE ((Z77 x0 x1 x2 x3 x4 x5).bind (fun y=>k 0 [.I y])) ds) ds) ds) ds) ds) ds) ds⟩
theorem q_Z77 (x0 x1 x2 x3 x4 x5:List D):runFn (ocOf []) (olOf [e_Z76]) A 202 Try.f202 (Sh.mks e_Z77.sh [.L x0,.L x1,.L x2,.L x3,.L x4,.L x5]).1 (fun v os=>some (v,os))=c_Z77 x0 x1 x2 x3 x4 x5 (fun y=>retO e_Z77 0 [.I y]):=by kernel_rfl
theorem e_Z77_ok:e_Z77.ok Try.prog A:=by
 intro R ds k r h
 unfold e_Z77 at h
 obtain ⟨_,_,rfl,h⟩:=dL_some h
 obtain ⟨_,_,rfl,h⟩:=dL_some h
 obtain ⟨_,_,rfl,h⟩:=dL_some h
 obtain ⟨_,_,rfl,h⟩:=dL_some h
 obtain ⟨_,_,rfl,h⟩:=dL_some h
 obtain ⟨_,_,rfl,h⟩:=dL_some h
 obtain ⟨rfl,hE⟩:=dE_some h
 obtain ⟨y,hy,hk⟩:=bnd_some hE
 exact ⟨0,_,_,_,hk,rfl,fn_ok px (fx:=⟨Try.func202,by kernel_rfl,by kernel_rfl⟩) entsOK_nil (lentsOK_cons e_Z76_ok lentsOK_nil) ((q_Z77 ..).trans ((c_Z77_bind ..).trans (bnd_to hy)))⟩

/-!-/
abbrev T_Z78:=List D→List D→List D→List D→List D→Int→Int→List D→Option (Int × List D)
def c_Z78 {R:Type} (F:T_Z78) (x0 x1 x2 x3 x4:List D) (x5 x6:Int) (x7:List D) (k:Int × List D→Option R):Option R:=
 bif decide (x6<(↑x7.length:Int)) then
 if 0≤x6∧x6<(↑x7.length:Int) then
 if x6.toNat + 1≤x7.length then
 (Z75 (((x7.getD x6.toNat (D.int 0)).fld (0:Nat)).toInt) (((x7.getD x6.toNat (D.int 0)).fld (1:Nat)).toInt) x0 x1 x2 x3 x4).bind (fun y0=>
 bif !y0 then
 if 0≤x5∧x5<(↑x7.length:Int) then
 if x5.toNat + 1≤x7.length then
 (F x0 x1 x2 x3 x4 (IntKind.i64.wrap (x5 + 1)) (IntKind.i64.wrap (x6 + 1)) (x7.set x5.toNat (D.node [D.int ((x7.getD x6.toNat (D.int 0)).fld (0:Nat)).toInt,D.int ((x7.getD x6.toNat (D.int 0)).fld (1:Nat)).toInt]))).bind k
 else
 none
 else
 none
 else
 (F x0 x1 x2 x3 x4 x5 (IntKind.i64.wrap (x6 + 1)) x7).bind k)
 else
 none
 else
 none
 else
 k (x5,x7)
theorem c_Z78_bind {R:Type} (F:T_Z78) (x0 x1 x2 x3 x4:List D) (x5 x6:Int) (x7:List D) (k:Int × List D→Option R):c_Z78 F x0 x1 x2 x3 x4 x5 x6 x7 k=(c_Z78 F x0 x1 x2 x3 x4 x5 x6 x7 some).bind k:=by
 unfold c_Z78
 repeat' first|exact bnd_tail|exact bnd_none|exact bnd_leaf|apply bnd_ite|apply bnd_cond|apply bnd_sum|(apply bnd_bind;intro _)|intro _
def n_Z78:Nat→T_Z78
 | 0,_,_,_,_,_,_,_,_=>none
 | n + 1,x0,x1,x2,x3,x4,x5,x6,x7=>c_Z78 (n_Z78 n) x0 x1 x2 x3 x4 x5 x6 x7 some
noncomputable def Z78 (x0 x1 x2 x3 x4:List D) (x5 x6:Int) (x7:List D):Option (Int × List D):=ev (fun n=>n_Z78 n x0 x1 x2 x3 x4 x5 x6 x7)
def m_Z78 (F:T_Z78):Lent:=⟨5,⟨(.full 1000 [] (.struct [.int .i64,.int .i64]) :: .fn 139 [.rp (.rp (.agg [.rd (.int .i64),.rd (.slice (.bool)),.rd (.slice (.bool))])),.rp (.agg [.rd (.struct [.int .i64,.int .i64]),.rd (.struct [.int .i64,.int .i64])])] :: .undef :: .undef :: .undef :: .int .i64 :: .int .i64 :: uu 35 ([])),[(1000,.own (.struct [.int .i64,.int .i64]))]⟩,[(.exit 0,⟨(.full 1000 [] (.struct [.int .i64,.int .i64]) :: uu 4 (.int .i64 :: uu 36 ([]))),[(1000,.own (.struct [.int .i64,.int .i64]))]⟩)],fun _ ds k=>dL (fun x0 ds=>dL (fun x1 ds=>dL (fun x2 ds=>dL (fun x3 ds=>dL (fun x4 ds=>dI (fun x5 ds=>dI (fun x6 ds=>dL (fun x7 ds=>dE ((F x0 x1 x2 x3 x4 x5 x6 x7).bind (fun y=>k 0 [.I y.1,.L y.2])) ds) ds) ds) ds) ds) ds) ds) ds) ds⟩
theorem q_Z78 (F:T_Z78) (x0 x1 x2 x3 x4:List D) (x5 x6:Int) (x7:List D):runLoop (ocOf [e_Z75]) (olOf [m_Z78 F]) A 137 (codeAt (bodyOf Try.f137) 5) ((m_Z78 F).sh.mk' [.L x0,.L x1,.L x2,.L x3,.L x4,.I x5,.I x6,.L x7]) (fun e σ'=>some (e,σ'))=c_Z78 F x0 x1 x2 x3 x4 x5 x6 x7 (fun y=>some (.exit 0,SSt.mk' ⟨(.full 1000 [] (.struct [.int .i64,.int .i64]) :: uu 4 (.int .i64 :: uu 36 ([]))),[(1000,.own (.struct [.int .i64,.int .i64]))]⟩ [.I y.1,.L y.2])):=by kernel_rfl
theorem m_Z78_ok:∀ n,(m_Z78 (n_Z78 n)).ok Try.prog (codeAt (bodyOf Try.f137) 5):=by
 intro n
 induction n with
 | zero=>
  intro R ds k r h
  unfold m_Z78 at h
  obtain ⟨_,_,rfl,h⟩:=dL_some h
  obtain ⟨_,_,rfl,h⟩:=dL_some h
  obtain ⟨_,_,rfl,h⟩:=dL_some h
  obtain ⟨_,_,rfl,h⟩:=dL_some h
  obtain ⟨_,_,rfl,h⟩:=dL_some h
  obtain ⟨_,_,rfl,h⟩:=dI_some h
  obtain ⟨_,_,rfl,h⟩:=dI_some h
  obtain ⟨_,_,rfl,h⟩:=dL_some h
  obtain ⟨rfl,hE⟩:=dE_some h
  obtain ⟨y,hy,hk⟩:=bnd_some hE
  cases hy
 | succ n ih=>
  intro R ds k r h
  unfold m_Z78 at h
  obtain ⟨_,_,rfl,h⟩:=dL_some h
  obtain ⟨_,_,rfl,h⟩:=dL_some h
  obtain ⟨_,_,rfl,h⟩:=dL_some h
  obtain ⟨_,_,rfl,h⟩:=dL_some h
  obtain ⟨_,_,rfl,h⟩:=dL_some h
  obtain ⟨_,_,rfl,h⟩:=dI_some h
  obtain ⟨_,_,rfl,h⟩:=dI_some h
  obtain ⟨_,_,rfl,h⟩:=dL_some h
  obtain ⟨rfl,hE⟩:=dE_some h
  obtain ⟨y,hy,hk⟩:=bnd_some hE
  exact ⟨0,_,_,_,hk,rfl,loop_ok px (fx:=⟨Try.func137,by kernel_rfl,by kernel_rfl⟩) (entsOK_cons e_Z75_ok entsOK_nil) (lentsOK_cons ih lentsOK_nil) (by kernel_rfl) ((q_Z78 ..).trans ((c_Z78_bind ..).trans (bnd_to hy)))⟩
noncomputable def e_Z78:Lent:=m_Z78 (Z78)
theorem e_Z78_ok:(e_Z78).ok Try.prog (codeAt (bodyOf Try.f137) 5):=by
 intro R ds k r h
 unfold e_Z78 m_Z78 at h
 obtain ⟨_,_,rfl,h⟩:=dL_some h
 obtain ⟨_,_,rfl,h⟩:=dL_some h
 obtain ⟨_,_,rfl,h⟩:=dL_some h
 obtain ⟨_,_,rfl,h⟩:=dL_some h
 obtain ⟨_,_,rfl,h⟩:=dL_some h
 obtain ⟨_,_,rfl,h⟩:=dI_some h
 obtain ⟨_,_,rfl,h⟩:=dI_some h
 obtain ⟨_,_,rfl,h⟩:=dL_some h
 obtain ⟨rfl,hE⟩:=dE_some h
 obtain ⟨y,hy,hk⟩:=bnd_some hE
 obtain ⟨n,hn⟩:=ev_some hy
 exact m_Z78_ok n R _ k r ((bnd_to hn).trans hk)

/-!-/
def c_Z79 {R:Type} (x0 x1 x2 x3 x4 x5:List D) (k:List D→Option R):Option R:=
 (Z77 x0 x1 x2 x3 x4 x5).bind (fun y0=>
 bif decide (y0=(-1:Int)) then
 k x0
 else
 (Z78 x1 x2 x3 x4 x5 y0 (IntKind.i64.wrap (y0 + 1)) x0).bind (fun y1=>
 if 0≤y1.fst∧y1.fst≤(↑y1.snd.length:Int)∧(↑y1.snd.length:Int)≤(↑y1.snd.length:Int) then
 if y1.fst.toNat + (y1.snd.length - y1.fst.toNat)≤y1.snd.length then
 if (0:Int)≤(0:Int)∧0≤y1.fst∧y1.fst≤(↑(List.take y1.fst.toNat y1.snd ++ List.replicate (y1.snd.length - y1.fst.toNat) (D.node [D.int 0,D.int 0]) ++ List.drop (y1.fst.toNat + (List.replicate (y1.snd.length - y1.fst.toNat) (D.node [D.int 0,D.int 0])).length) y1.snd).length:Int) then
 if (0:Nat) + (y1.fst.toNat - (0:Nat))≤(List.take y1.fst.toNat y1.snd ++ List.replicate (y1.snd.length - y1.fst.toNat) (D.node [D.int 0,D.int 0]) ++ List.drop (y1.fst.toNat + (List.replicate (y1.snd.length - y1.fst.toNat) (D.node [D.int 0,D.int 0])).length) y1.snd).length then
 k (List.take (y1.fst.toNat - (0:Nat)) (List.drop (0:Nat) (List.take y1.fst.toNat y1.snd ++ List.replicate (y1.snd.length - y1.fst.toNat) (D.node [D.int 0,D.int 0]) ++ List.drop (y1.fst.toNat + (List.replicate (y1.snd.length - y1.fst.toNat) (D.node [D.int 0,D.int 0])).length) y1.snd)))
 else
 none
 else
 none
 else
 none
 else
 none))
theorem c_Z79_bind {R:Type} (x0 x1 x2 x3 x4 x5:List D) (k:List D→Option R):c_Z79 x0 x1 x2 x3 x4 x5 k=(c_Z79 x0 x1 x2 x3 x4 x5 some).bind k:=by
 unfold c_Z79
 repeat' first|exact bnd_tail|exact bnd_none|exact bnd_leaf|apply bnd_ite|apply bnd_cond|apply bnd_sum|(apply bnd_bind;intro _)|intro _
def Z79 (x0 x1 x2 x3 x4 x5:List D):Option (List D):=c_Z79 x0 x1 x2 x3 x4 x5 some
def e_Z79:Ent:=⟨137,[.own (.struct [.int .i64,.int .i64]),.fn 139 [.rp (.rp (.agg [.rd (.int .i64),.rd (.slice (.bool)),.rd (.slice (.bool))])),.rp (.agg [.rd (.struct [.int .i64,.int .i64]),.rd (.struct [.int .i64,.int .i64])])]],[(.own (.struct [.int .i64,.int .i64]),[.undef,.undef])],fun _ ds k=>dL (fun x0 ds=>dL (fun x1 ds=>dL (fun x2 ds=>dL (fun x3 ds=>dL (fun x4 ds=>dL (fun x5 ds=>dE ((Z79 x0 x1 x2 x3 x4 x5).bind (fun y=>k 0 [.L y])) ds) ds) ds) ds) ds) ds) ds⟩
theorem q_Z79 (x0 x1 x2 x3 x4 x5:List D):runFn (ocOf [e_Z77]) (olOf [e_Z78]) A 137 Try.f137 (Sh.mks e_Z79.sh [.L x0,.L x1,.L x2,.L x3,.L x4,.L x5]).1 (fun v os=>some (v,os))=c_Z79 x0 x1 x2 x3 x4 x5 (fun y=>retO e_Z79 0 [.L y]):=by kernel_rfl
theorem e_Z79_ok:e_Z79.ok Try.prog A:=by
 intro R ds k r h
 unfold e_Z79 at h
 obtain ⟨_,_,rfl,h⟩:=dL_some h
 obtain ⟨_,_,rfl,h⟩:=dL_some h
 obtain ⟨_,_,rfl,h⟩:=dL_some h
 obtain ⟨_,_,rfl,h⟩:=dL_some h
 obtain ⟨_,_,rfl,h⟩:=dL_some h
 obtain ⟨_,_,rfl,h⟩:=dL_some h
 obtain ⟨rfl,hE⟩:=dE_some h
 obtain ⟨y,hy,hk⟩:=bnd_some hE
 exact ⟨0,_,_,_,hk,rfl,fn_ok px (fx:=⟨Try.func137,by kernel_rfl,by kernel_rfl⟩) (entsOK_cons e_Z77_ok entsOK_nil) (lentsOK_cons e_Z78_ok lentsOK_nil) ((q_Z79 ..).trans ((c_Z79_bind ..).trans (bnd_to hy)))⟩

/-!-/
def c_Z80 {R:Type} (x0 x1:List D) (k:List D × Bool→Option R):Option R:=
 (Z45 x0 x1).bind (fun y0=>
 bif !y0 then
 k ([],Bool.false)
 else
 (Z58 x0 x1).bind (fun y1=>
 (Z74 x1).bind (fun y2=>
 (Z79 y2 y1.fst y1.snd.fst y1.snd.snd x0 x1).bind (fun y3=>
 k (y3,Bool.true)))))
theorem c_Z80_bind {R:Type} (x0 x1:List D) (k:List D × Bool→Option R):c_Z80 x0 x1 k=(c_Z80 x0 x1 some).bind k:=by
 unfold c_Z80
 repeat' first|exact bnd_tail|exact bnd_none|exact bnd_leaf|apply bnd_ite|apply bnd_cond|apply bnd_sum|(apply bnd_bind;intro _)|intro _
def Z80 (x0 x1:List D):Option (List D × Bool):=c_Z80 x0 x1 some
def e_Z80:Ent:=⟨50,[.agg [.rd (.struct [.int .i64,.int .i64]),.rd (.struct [.int .i64,.int .i64])]],[(.tup [.own (.struct [.int .i64,.int .i64]),.bool],[.undef])],fun _ ds k=>dL (fun x0 ds=>dL (fun x1 ds=>dE ((Z80 x0 x1).bind (fun y=>k 0 [.L y.1,.B y.2])) ds) ds) ds⟩
theorem q_Z80 (x0 x1:List D):runFn (ocOf [e_Z45,e_Z58,e_Z74,e_Z79]) (olOf []) A 50 Try.f50 (Sh.mks e_Z80.sh [.L x0,.L x1]).1 (fun v os=>some (v,os))=c_Z80 x0 x1 (fun y=>retO e_Z80 0 [.L y.1,.B y.2]):=by kernel_rfl
theorem e_Z80_ok:e_Z80.ok Try.prog A:=by
 intro R ds k r h
 unfold e_Z80 at h
 obtain ⟨_,_,rfl,h⟩:=dL_some h
 obtain ⟨_,_,rfl,h⟩:=dL_some h
 obtain ⟨rfl,hE⟩:=dE_some h
 obtain ⟨y,hy,hk⟩:=bnd_some hE
 exact ⟨0,_,_,_,hk,rfl,fn_ok px (fx:=⟨Try.func50,by kernel_rfl,by kernel_rfl⟩) (entsOK_cons e_Z45_ok (entsOK_cons e_Z58_ok (entsOK_cons e_Z74_ok (entsOK_cons e_Z79_ok entsOK_nil)))) lentsOK_nil ((q_Z80 ..).trans ((c_Z80_bind ..).trans (bnd_to hy)))⟩

/-!-/
def c_Z81 {R:Type} (x0 x1:List D) (k:Bool→Option R):Option R:=
 (Z28 x0 x1).bind (fun y0=>
 k y0)
theorem c_Z81_bind {R:Type} (x0 x1:List D) (k:Bool→Option R):c_Z81 x0 x1 k=(c_Z81 x0 x1 some).bind k:=by
 unfold c_Z81
 repeat' first|exact bnd_tail|exact bnd_none|exact bnd_leaf|apply bnd_ite|apply bnd_cond|apply bnd_sum|(apply bnd_bind;intro _)|intro _
def Z81 (x0 x1:List D):Option (Bool):=c_Z81 x0 x1 some
def e_Z81:Ent:=⟨43,[.agg [.rd (.struct [.int .i64,.int .i64]),.rd (.struct [.int .i64,.int .i64])]],[(.bool,[.undef])],fun _ ds k=>dL (fun x0 ds=>dL (fun x1 ds=>dE ((Z81 x0 x1).bind (fun y=>k 0 [.B y])) ds) ds) ds⟩
theorem q_Z81 (x0 x1:List D):runFn (ocOf [e_Z28]) (olOf []) A 43 Try.f43 (Sh.mks e_Z81.sh [.L x0,.L x1]).1 (fun v os=>some (v,os))=c_Z81 x0 x1 (fun y=>retO e_Z81 0 [.B y]):=by kernel_rfl
theorem e_Z81_ok:e_Z81.ok Try.prog A:=by
 intro R ds k r h
 unfold e_Z81 at h
 obtain ⟨_,_,rfl,h⟩:=dL_some h
 obtain ⟨_,_,rfl,h⟩:=dL_some h
 obtain ⟨rfl,hE⟩:=dE_some h
 obtain ⟨y,hy,hk⟩:=bnd_some hE
 exact ⟨0,_,_,_,hk,rfl,fn_ok px (fx:=⟨Try.func43,by kernel_rfl,by kernel_rfl⟩) (entsOK_cons e_Z28_ok entsOK_nil) lentsOK_nil ((q_Z81 ..).trans ((c_Z81_bind ..).trans (bnd_to hy)))⟩

/-!-/
abbrev T_Z82:=Int→Int→Int→List D→List D→Option ((Bool) ⊕ (Unit))
def c_Z82 {R:Type} (F:T_Z82) (x0 x1 x2:Int) (x3 x4:List D) (k:(Bool) ⊕ (Unit)→Option R):Option R:=
 bif decide (x2<(↑x4.length:Int)) then
 if 0≤x2∧x2<(↑x4.length:Int) then
 bif decide (((x4.getD x2.toNat (D.int 0)).fld (0:Nat)).toInt=x0) then
 if 0≤x2∧x2<(↑x4.length:Int) then
 bif decide (((x4.getD x2.toNat (D.int 0)).fld (1:Nat)).toInt=x1) then
 k (.inl Bool.true)
 else
 (F x0 x1 (IntKind.i64.wrap (x2 + 1)) x3 x4).bind k
 else
 none
 else
 (F x0 x1 (IntKind.i64.wrap (x2 + 1)) x3 x4).bind k
 else
 none
 else
 k (.inr ())
theorem c_Z82_bind {R:Type} (F:T_Z82) (x0 x1 x2:Int) (x3 x4:List D) (k:(Bool) ⊕ (Unit)→Option R):c_Z82 F x0 x1 x2 x3 x4 k=(c_Z82 F x0 x1 x2 x3 x4 some).bind k:=by
 unfold c_Z82
 repeat' first|exact bnd_tail|exact bnd_none|exact bnd_leaf|apply bnd_ite|apply bnd_cond|apply bnd_sum|(apply bnd_bind;intro _)|intro _
def n_Z82:Nat→T_Z82
 | 0,_,_,_,_,_=>none
 | n + 1,x0,x1,x2,x3,x4=>c_Z82 (n_Z82 n) x0 x1 x2 x3 x4 some
noncomputable def Z82 (x0 x1 x2:Int) (x3 x4:List D):Option ((Bool) ⊕ (Unit)):=ev (fun n=>n_Z82 n x0 x1 x2 x3 x4)
def m_Z82 (F:T_Z82):Lent:=⟨2,⟨(.undef :: .int .i64 :: .int .i64 :: .ptr 1000 [0] :: .undef :: .undef :: .undef :: .int .i64 :: uu 25 ([])),[(1000,.obox (.agg [.rd (.struct [.int .i64,.int .i64]),.rd (.struct [.int .i64,.int .i64])]))]⟩,[(.ret,⟨(uu 6 (.bool :: uu 26 ([]))),[]⟩),(.exit 0,⟨(uu 33 ([])),[]⟩)],fun _ ds k=>dI (fun x0 ds=>dI (fun x1 ds=>dI (fun x2 ds=>dL (fun x3 ds=>dL (fun x4 ds=>dE ((F x0 x1 x2 x3 x4).bind (Sum.elim (fun y=>k 0 [.B y]) (fun y=>k 1 []))) ds) ds) ds) ds) ds) ds⟩
theorem q_Z82 (F:T_Z82) (x0 x1 x2:Int) (x3 x4:List D):runLoop (ocOf []) (olOf [m_Z82 F]) A 51 (codeAt (bodyOf Try.f51) 2) ((m_Z82 F).sh.mk' [.I x0,.I x1,.I x2,.L x3,.L x4]) (fun e σ'=>some (e,σ'))=c_Z82 F x0 x1 x2 x3 x4 (Sum.elim (fun y=>some (.ret,SSt.mk' ⟨(uu 6 (.bool :: uu 26 ([]))),[]⟩ [.B y])) (fun y=>some (.exit 0,SSt.mk' ⟨(uu 33 ([])),[]⟩ []))):=by kernel_rfl
theorem m_Z82_ok:∀ n,(m_Z82 (n_Z82 n)).ok Try.prog (codeAt (bodyOf Try.f51) 2):=by
 intro n
 induction n with
 | zero=>
  intro R ds k r h
  unfold m_Z82 at h
  obtain ⟨_,_,rfl,h⟩:=dI_some h
  obtain ⟨_,_,rfl,h⟩:=dI_some h
  obtain ⟨_,_,rfl,h⟩:=dI_some h
  obtain ⟨_,_,rfl,h⟩:=dL_some h
  obtain ⟨_,_,rfl,h⟩:=dL_some h
  obtain ⟨rfl,hE⟩:=dE_some h
  obtain ⟨y,hy,hk⟩:=bnd_some hE
  cases hy
 | succ n ih=>
  intro R ds k r h
  unfold m_Z82 at h
  obtain ⟨_,_,rfl,h⟩:=dI_some h
  obtain ⟨_,_,rfl,h⟩:=dI_some h
  obtain ⟨_,_,rfl,h⟩:=dI_some h
  obtain ⟨_,_,rfl,h⟩:=dL_some h
  obtain ⟨_,_,rfl,h⟩:=dL_some h
  obtain ⟨rfl,hE⟩:=dE_some h
  obtain ⟨y,hy,hk⟩:=bnd_some hE
  cases y with
  | inl y=>
   exact ⟨0,_,_,_,hk,rfl,loop_ok px (fx:=⟨Try.func51,by kernel_rfl,by kernel_rfl⟩) entsOK_nil (lentsOK_cons ih lentsOK_nil) (by kernel_rfl) ((q_Z82 ..).trans ((c_Z82_bind ..).trans (bnd_to hy)))⟩
  | inr y=>
   exact ⟨1,_,_,_,hk,rfl,loop_ok px (fx:=⟨Try.func51,by kernel_rfl,by kernel_rfl⟩) entsOK_nil (lentsOK_cons ih lentsOK_nil) (by kernel_rfl) ((q_Z82 ..).trans ((c_Z82_bind ..).trans (bnd_to hy)))⟩
noncomputable def e_Z82:Lent:=m_Z82 (Z82)
theorem e_Z82_ok:(e_Z82).ok Try.prog (codeAt (bodyOf Try.f51) 2):=by
 intro R ds k r h
 unfold e_Z82 m_Z82 at h
 obtain ⟨_,_,rfl,h⟩:=dI_some h
 obtain ⟨_,_,rfl,h⟩:=dI_some h
 obtain ⟨_,_,rfl,h⟩:=dI_some h
 obtain ⟨_,_,rfl,h⟩:=dL_some h
 obtain ⟨_,_,rfl,h⟩:=dL_some h
 obtain ⟨rfl,hE⟩:=dE_some h
 obtain ⟨y,hy,hk⟩:=bnd_some hE
 obtain ⟨n,hn⟩:=ev_some hy
 exact m_Z82_ok n R _ k r ((bnd_to hn).trans hk)

/-!-/
def c_Z83 {R:Type} (x0 x1:List D) (x2 x3:Int) (k:Bool→Option R):Option R:=
 (Z82 x2 x3 (0:Int) x0 x1).bind (Sum.elim (fun y0=>
 k y0) (fun y1=>
 k Bool.false))
theorem c_Z83_bind {R:Type} (x0 x1:List D) (x2 x3:Int) (k:Bool→Option R):c_Z83 x0 x1 x2 x3 k=(c_Z83 x0 x1 x2 x3 some).bind k:=by
 unfold c_Z83
 repeat' first|exact bnd_tail|exact bnd_none|exact bnd_leaf|apply bnd_ite|apply bnd_cond|apply bnd_sum|(apply bnd_bind;intro _)|intro _
def Z83 (x0 x1:List D) (x2 x3:Int):Option (Bool):=c_Z83 x0 x1 x2 x3 some
def e_Z83:Ent:=⟨51,[.agg [.rd (.struct [.int .i64,.int .i64]),.rd (.struct [.int .i64,.int .i64])],.int .i64,.int .i64],[(.bool,[.undef,.undef,.undef])],fun _ ds k=>dL (fun x0 ds=>dL (fun x1 ds=>dI (fun x2 ds=>dI (fun x3 ds=>dE ((Z83 x0 x1 x2 x3).bind (fun y=>k 0 [.B y])) ds) ds) ds) ds) ds⟩
theorem q_Z83 (x0 x1:List D) (x2 x3:Int):runFn (ocOf []) (olOf [e_Z82]) A 51 Try.f51 (Sh.mks e_Z83.sh [.L x0,.L x1,.I x2,.I x3]).1 (fun v os=>some (v,os))=c_Z83 x0 x1 x2 x3 (fun y=>retO e_Z83 0 [.B y]):=by kernel_rfl
theorem e_Z83_ok:e_Z83.ok Try.prog A:=by
 intro R ds k r h
 unfold e_Z83 at h
 obtain ⟨_,_,rfl,h⟩:=dL_some h
 obtain ⟨_,_,rfl,h⟩:=dL_some h
 obtain ⟨_,_,rfl,h⟩:=dI_some h
 obtain ⟨_,_,rfl,h⟩:=dI_some h
 obtain ⟨rfl,hE⟩:=dE_some h
 obtain ⟨y,hy,hk⟩:=bnd_some hE
 exact ⟨0,_,_,_,hk,rfl,fn_ok px (fx:=⟨Try.func51,by kernel_rfl,by kernel_rfl⟩) entsOK_nil (lentsOK_cons e_Z82_ok lentsOK_nil) ((q_Z83 ..).trans ((c_Z83_bind ..).trans (bnd_to hy)))⟩

/-!-/
abbrev T_Z84:=Bool→Int→List D→List D→List D→Option ((Bool × Bool × List D) ⊕ (Bool × List D))
def c_Z84 {R:Type} (F:T_Z84) (x0:Bool) (x1:Int) (x2 x3 x4:List D) (k:(Bool × Bool × List D) ⊕ (Bool × List D)→Option R):Option R:=
 bif decide (x1<(↑x4.length:Int)) then
 if 0≤x1∧x1<(↑x4.length:Int) then
 if x1.toNat + 1≤x4.length then
 if (↑x4.length:Int) ≠ (0:Int) then
 if (0:Int)≤(IntKind.i64.wrap (x1 + 1)).tmod (↑x4.length:Int)∧(IntKind.i64.wrap (x1 + 1)).tmod (↑x4.length:Int)<(↑x4.length:Int) then
 if ((IntKind.i64.wrap (x1 + 1)).tmod (↑x4.length:Int)).toNat + 1≤x4.length then
 (Z83 x2 x3 ((x4.getD x1.toNat (D.int 0)).toInt) ((x4.getD ((IntKind.i64.wrap (x1 + 1)).tmod (↑x4.length:Int)).toNat (D.int 0)).toInt)).bind (fun y0=>
 bif !y0 then
 k (.inl (Bool.false,x0,x4))
 else
 if 0≤x1∧x1<(↑x4.length:Int) then
 if x1.toNat + 1≤x4.length then
 if (0:Int)≤(0:Int)∧(0:Int)<(↑x4.length:Int) then
 if Int.toNat (0:Int) + (1:Nat)≤x4.length then
 bif decide ((x4.getD x1.toNat (D.int 0)).toInt<(x4.getD (Int.toNat (0:Int)) (D.int 0)).toInt) then
 k (.inl (Bool.false,x0,x4))
 else
 (F x0 (IntKind.i64.wrap (x1 + 1)) x2 x3 x4).bind k
 else
 none
 else
 none
 else
 none
 else
 none)
 else
 none
 else
 none
 else
 none
 else
 none
 else
 none
 else
 k (.inr (x0,x4))
theorem c_Z84_bind {R:Type} (F:T_Z84) (x0:Bool) (x1:Int) (x2 x3 x4:List D) (k:(Bool × Bool × List D) ⊕ (Bool × List D)→Option R):c_Z84 F x0 x1 x2 x3 x4 k=(c_Z84 F x0 x1 x2 x3 x4 some).bind k:=by
 unfold c_Z84
 repeat' first|exact bnd_tail|exact bnd_none|exact bnd_leaf|apply bnd_ite|apply bnd_cond|apply bnd_sum|(apply bnd_bind;intro _)|intro _
def n_Z84:Nat→T_Z84
 | 0,_,_,_,_,_=>none
 | n + 1,x0,x1,x2,x3,x4=>c_Z84 (n_Z84 n) x0 x1 x2 x3 x4 some
noncomputable def Z84 (x0:Bool) (x1:Int) (x2 x3 x4:List D):Option ((Bool × Bool × List D) ⊕ (Bool × List D)):=ev (fun n=>n_Z84 n x0 x1 x2 x3 x4)
def m_Z84 (F:T_Z84):Lent:=⟨14,⟨(.undef :: .undef :: .undef :: .ptr 1000 [0] :: .full 1001 [] (.int .i64) :: .bool :: uu 5 (.int .i64 :: uu 87 ([]))),[(1000,.obox (.agg [.own (.struct [.int .i64,.int .i64]),.own (.struct [.int .i64,.int .i64])])),(1001,.own (.int .i64))]⟩,[(.ret,⟨(.undef :: .undef :: .bool :: .undef :: .full 1000 [] (.int .i64) :: .bool :: uu 93 ([])),[(1000,.own (.int .i64))]⟩),(.exit 0,⟨(uu 4 (.full 1000 [] (.int .i64) :: .bool :: uu 93 ([]))),[(1000,.own (.int .i64))]⟩)],fun _ ds k=>dB (fun x0 ds=>dI (fun x1 ds=>dL (fun x2 ds=>dL (fun x3 ds=>dL (fun x4 ds=>dE ((F x0 x1 x2 x3 x4).bind (Sum.elim (fun y=>k 0 [.B y.1,.B y.2.1,.L y.2.2]) (fun y=>k 1 [.B y.1,.L y.2]))) ds) ds) ds) ds) ds) ds⟩
theorem q_Z84 (F:T_Z84) (x0:Bool) (x1:Int) (x2 x3 x4:List D):runLoop (ocOf [e_Z83]) (olOf [m_Z84 F]) A 7 (codeAt (bodyOf Try.f7) 14) ((m_Z84 F).sh.mk' [.B x0,.I x1,.L x2,.L x3,.L x4]) (fun e σ'=>some (e,σ'))=c_Z84 F x0 x1 x2 x3 x4 (Sum.elim (fun y=>some (.ret,SSt.mk' ⟨(.undef :: .undef :: .bool :: .undef :: .full 1000 [] (.int .i64) :: .bool :: uu 93 ([])),[(1000,.own (.int .i64))]⟩ [.B y.1,.B y.2.1,.L y.2.2])) (fun y=>some (.exit 0,SSt.mk' ⟨(uu 4 (.full 1000 [] (.int .i64) :: .bool :: uu 93 ([]))),[(1000,.own (.int .i64))]⟩ [.B y.1,.L y.2]))):=by kernel_rfl
theorem m_Z84_ok:∀ n,(m_Z84 (n_Z84 n)).ok Try.prog (codeAt (bodyOf Try.f7) 14):=by
 intro n
 induction n with
 | zero=>
  intro R ds k r h
  unfold m_Z84 at h
  obtain ⟨_,_,rfl,h⟩:=dB_some h
  obtain ⟨_,_,rfl,h⟩:=dI_some h
  obtain ⟨_,_,rfl,h⟩:=dL_some h
  obtain ⟨_,_,rfl,h⟩:=dL_some h
  obtain ⟨_,_,rfl,h⟩:=dL_some h
  obtain ⟨rfl,hE⟩:=dE_some h
  obtain ⟨y,hy,hk⟩:=bnd_some hE
  cases hy
 | succ n ih=>
  intro R ds k r h
  unfold m_Z84 at h
  obtain ⟨_,_,rfl,h⟩:=dB_some h
  obtain ⟨_,_,rfl,h⟩:=dI_some h
  obtain ⟨_,_,rfl,h⟩:=dL_some h
  obtain ⟨_,_,rfl,h⟩:=dL_some h
  obtain ⟨_,_,rfl,h⟩:=dL_some h
  obtain ⟨rfl,hE⟩:=dE_some h
  obtain ⟨y,hy,hk⟩:=bnd_some hE
  cases y with
  | inl y=>
   exact ⟨0,_,_,_,hk,rfl,loop_ok px (fx:=⟨Try.func7,by kernel_rfl,by kernel_rfl⟩) (entsOK_cons e_Z83_ok entsOK_nil) (lentsOK_cons ih lentsOK_nil) (by kernel_rfl) ((q_Z84 ..).trans ((c_Z84_bind ..).trans (bnd_to hy)))⟩
  | inr y=>
   exact ⟨1,_,_,_,hk,rfl,loop_ok px (fx:=⟨Try.func7,by kernel_rfl,by kernel_rfl⟩) (entsOK_cons e_Z83_ok entsOK_nil) (lentsOK_cons ih lentsOK_nil) (by kernel_rfl) ((q_Z84 ..).trans ((c_Z84_bind ..).trans (bnd_to hy)))⟩
noncomputable def e_Z84:Lent:=m_Z84 (Z84)
theorem e_Z84_ok:(e_Z84).ok Try.prog (codeAt (bodyOf Try.f7) 14):=by
 intro R ds k r h
 unfold e_Z84 m_Z84 at h
 obtain ⟨_,_,rfl,h⟩:=dB_some h
 obtain ⟨_,_,rfl,h⟩:=dI_some h
 obtain ⟨_,_,rfl,h⟩:=dL_some h
 obtain ⟨_,_,rfl,h⟩:=dL_some h
 obtain ⟨_,_,rfl,h⟩:=dL_some h
 obtain ⟨rfl,hE⟩:=dE_some h
 obtain ⟨y,hy,hk⟩:=bnd_some hE
 obtain ⟨n,hn⟩:=ev_some hy
 exact m_Z84_ok n R _ k r ((bnd_to hn).trans hk)

/-!-/
def c_Z85 {R:Type} (x0:List D) (k:Bool→Option R):Option R:=
 (Z0 x0).bind (fun y0=>
 bif y0 then
 k Bool.true
 else
 (Z30 x0).bind (fun y1=>
 (Z70 y1.fst y1.snd).bind (fun y2=>
 (Z73 y1.fst y1.snd).bind (fun y3=>
 (Z80 y1.fst y1.snd).bind (fun y4=>
 (Z81 y1.fst y1.snd).bind (fun y5=>
 bif !y2.snd.snd == y5 then
 k Bool.false
 else
 bif !y3.snd == y2.snd.snd then
 k Bool.false
 else
 bif !y4.snd == y2.snd.snd then
 k Bool.false
 else
 bif !y2.snd.snd then
 k (decide ((↑y2.fst.length:Int)=(0:Int)))
 else
 bif y2.snd.fst == y3.fst then
 k Bool.false
 else
 bif !y3.fst == decide ((↑y4.fst.length:Int)=(0:Int)) then
 k Bool.false
 else
 (Z84 y2.snd.fst (0:Int) y1.fst y1.snd y2.fst).bind (Sum.elim (fun y6=>
 k y6.fst) (fun y7=>
 bif !y7.fst then
 k Bool.true
 else
 k (decide ((1:Int)<(↑y7.snd.length:Int)))))))))))
theorem c_Z85_bind {R:Type} (x0:List D) (k:Bool→Option R):c_Z85 x0 k=(c_Z85 x0 some).bind k:=by
 unfold c_Z85
 repeat' first|exact bnd_tail|exact bnd_none|exact bnd_leaf|apply bnd_ite|apply bnd_cond|apply bnd_sum|(apply bnd_bind;intro _)|intro _
def Z85 (x0:List D):Option (Bool):=c_Z85 x0 some
def e_Z85:Ent:=⟨7,[.rd (.int .u8)],[(.bool,[.undef])],fun _ ds k=>dL (fun x0 ds=>dE ((Z85 x0).bind (fun y=>k 0 [.B y])) ds) ds⟩
theorem q_Z85 (x0:List D):runFn (ocOf [e_Z0,e_Z30,e_Z70,e_Z73,e_Z80,e_Z81]) (olOf [e_Z84]) A 7 Try.f7 (Sh.mks e_Z85.sh [.L x0]).1 (fun v os=>some (v,os))=c_Z85 x0 (fun y=>retO e_Z85 0 [.B y]):=by kernel_rfl
theorem e_Z85_ok:e_Z85.ok Try.prog A:=by
 intro R ds k r h
 unfold e_Z85 at h
 obtain ⟨_,_,rfl,h⟩:=dL_some h
 obtain ⟨rfl,hE⟩:=dE_some h
 obtain ⟨y,hy,hk⟩:=bnd_some hE
 exact ⟨0,_,_,_,hk,rfl,fn_ok px (fx:=⟨Try.func7,by kernel_rfl,by kernel_rfl⟩) (entsOK_cons e_Z0_ok (entsOK_cons e_Z30_ok (entsOK_cons e_Z70_ok (entsOK_cons e_Z73_ok (entsOK_cons e_Z80_ok (entsOK_cons e_Z81_ok entsOK_nil)))))) (lentsOK_cons e_Z84_ok lentsOK_nil) ((q_Z85 ..).trans ((c_Z85_bind ..).trans (bnd_to hy)))⟩
end
end Go.Proofs.Ytdoaceeakjbgfaa
