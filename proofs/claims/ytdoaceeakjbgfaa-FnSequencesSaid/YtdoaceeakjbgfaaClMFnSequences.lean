/- Models of Go functions and their contracts, printed by a program of this session. -/
import Derived.Test.YtdoaceeakjbgfaaClMFnSequencesx0
set_option linter.unusedVariables false
set_option maxRecDepth 100000
namespace Go.Proofs.Ytdoaceeakjbgfaa
open Go Go.Rai
noncomputable section
/-!-/
abbrev T_Z69:=Int→Int→Int→Int→Int→Int→List D→List D→List D→List D→List D→Option (Int×Int×Int×List D×List D×List D×List D×List D)
def c_Z69 {R:Type} (F:T_Z69) (x0 x1 x2 x3 x4 x5:Int) (x6 x7 x8 x9 x10:List D) (k:Int×Int×Int×List D×List D×List D×List D×List D→Option R):Option R:=
 bif decide (x5<x4) then
 if 0≤x1∧x1<(↑x9.length:Int) then
 if x1.toNat+1≤x9.length then
 bif decide ((0:Int)<(x9.getD x1.toNat (D.int 0)).toInt) then
 (Z68 x6 x7 x8 x1 x5).bind (fun y0=>
 bif y0 then
 if (0:Int)≤x5 then
 if (0:Int)≤IntKind.i64.wrap (↑(BitVec.ofInt IntKind.i64.bits x1 ||| BitVec.ofInt IntKind.i64.bits (IntKind.i64.wrap ((1:Int) * (2:Int) ^ Min.min x5.toNat IntKind.i64.bits))).toNat:Int)∧IntKind.i64.wrap (↑(BitVec.ofInt IntKind.i64.bits x1 ||| BitVec.ofInt IntKind.i64.bits (IntKind.i64.wrap ((1:Int) * (2:Int) ^ Min.min x5.toNat IntKind.i64.bits))).toNat:Int)<(↑x9.length:Int) then
 if (IntKind.i64.wrap (↑(BitVec.ofInt IntKind.i64.bits x1 ||| BitVec.ofInt IntKind.i64.bits (IntKind.i64.wrap ((1:Int) * (2:Int) ^ Min.min x5.toNat IntKind.i64.bits))).toNat:Int)).toNat+1≤x9.length then
 if 0≤x1∧x1<(↑x9.length:Int) then
 if x1.toNat+1≤x9.length then
 if (0:Int)≤IntKind.i64.wrap (↑(BitVec.ofInt IntKind.i64.bits x1 ||| BitVec.ofInt IntKind.i64.bits (IntKind.i64.wrap ((1:Int) * (2:Int) ^ Min.min x5.toNat IntKind.i64.bits))).toNat:Int)∧IntKind.i64.wrap (↑(BitVec.ofInt IntKind.i64.bits x1 ||| BitVec.ofInt IntKind.i64.bits (IntKind.i64.wrap ((1:Int) * (2:Int) ^ Min.min x5.toNat IntKind.i64.bits))).toNat:Int)<(↑x9.length:Int) then
 if (IntKind.i64.wrap (↑(BitVec.ofInt IntKind.i64.bits x1 ||| BitVec.ofInt IntKind.i64.bits (IntKind.i64.wrap ((1:Int) * (2:Int) ^ Min.min x5.toNat IntKind.i64.bits))).toNat:Int)).toNat+1≤x9.length then
 (F x0 x1 x2 x3 x4 (IntKind.i64.wrap (x5+1)) x6 x7 x8 (x9.set (IntKind.i64.wrap (↑(BitVec.ofInt IntKind.i64.bits x1 ||| BitVec.ofInt IntKind.i64.bits (IntKind.i64.wrap ((1:Int) * (2:Int) ^ Min.min x5.toNat IntKind.i64.bits))).toNat:Int)).toNat (D.int (IntKind.i64.wrap ((x9.getD (IntKind.i64.wrap (↑(BitVec.ofInt IntKind.i64.bits x1 ||| BitVec.ofInt IntKind.i64.bits (IntKind.i64.wrap ((1:Int) * (2:Int) ^ Min.min x5.toNat IntKind.i64.bits))).toNat:Int)).toNat (D.int 0)).toInt+(x9.getD x1.toNat (D.int 0)).toInt)))) x10).bind k
 else
 none
 else
 none
 else
 none
 else
 none
 else
 none
 else
 none
 else
 none
 else
 (F x0 x1 x2 x3 x4 (IntKind.i64.wrap (x5+1)) x6 x7 x8 x9 x10).bind k)
 else
 (F x0 x1 x2 x3 x4 (IntKind.i64.wrap (x5+1)) x6 x7 x8 x9 x10).bind k
 else
 none
 else
 none
 else
 k (x0,x2,x3,x6,x7,x8,x9,x10)
theorem c_Z69_bind {R:Type} (F:T_Z69) (x0 x1 x2 x3 x4 x5:Int) (x6 x7 x8 x9 x10:List D) (k:Int×Int×Int×List D×List D×List D×List D×List D→Option R):c_Z69 F x0 x1 x2 x3 x4 x5 x6 x7 x8 x9 x10 k=(c_Z69 F x0 x1 x2 x3 x4 x5 x6 x7 x8 x9 x10 some).bind k:=by
 unfold c_Z69
 repeat' first|exact bnd_tail|exact bnd_none|exact bnd_leaf|apply bnd_ite|apply bnd_cond|apply bnd_sum|(apply bnd_bind;intro _)|intro _
def n_Z69:Nat→T_Z69
 | 0,_,_,_,_,_,_,_,_,_,_,_=>none
 | n+1,x0,x1,x2,x3,x4,x5,x6,x7,x8,x9,x10=>c_Z69 (n_Z69 n) x0 x1 x2 x3 x4 x5 x6 x7 x8 x9 x10 some
noncomputable def Z69 (x0 x1 x2 x3 x4 x5:Int) (x6 x7 x8 x9 x10:List D):Option (Int×Int×Int×List D×List D×List D×List D×List D):=ev (fun n=>n_Z69 n x0 x1 x2 x3 x4 x5 x6 x7 x8 x9 x10)
def m_Z69 (F:T_Z69):Lent:=⟨11,⟨(uu 4 (.ptr 1000 [0]::.undef::.int .i64::.ptr 1001 [0]::.int .i64::uu 28 (.int .i64::.int .i64::uu 6 (.int .i64::.int .i64::uu 83 ([]))))),[(1000,.obox (.agg [.own (.int .i64),.own (.slice (.bool)),.own (.slice (.bool))])),(1001,.obox (.agg [.ptr 1000 [0],.full 1002 [] (.int .i64),.full 1003 [] (.int .i64)])),(1002,.own (.int .i64)),(1003,.own (.int .i64))]⟩,[(.exit 2,⟨(uu 4 (.ptr 1000 [0]::.undef::.int .i64::.ptr 1001 [0]::uu 29 (.int .i64::.int .i64::uu 91 ([])))),[(1000,.obox (.agg [.own (.int .i64),.own (.slice (.bool)),.own (.slice (.bool))])),(1001,.obox (.agg [.ptr 1000 [0],.full 1002 [] (.int .i64),.full 1003 [] (.int .i64)])),(1002,.own (.int .i64)),(1003,.own (.int .i64))]⟩)],fun _ ds k=>dI (fun x0 ds=>dI (fun x1 ds=>dI (fun x2 ds=>dI (fun x3 ds=>dI (fun x4 ds=>dI (fun x5 ds=>dL (fun x6 ds=>dL (fun x7 ds=>dL (fun x8 ds=>dL (fun x9 ds=>dL (fun x10 ds=>dE ((F x0 x1 x2 x3 x4 x5 x6 x7 x8 x9 x10).bind (fun y=>k 0 [.I y.1,.I y.2.1,.I y.2.2.1,.L y.2.2.2.1,.L y.2.2.2.2.1,.L y.2.2.2.2.2.1,.L y.2.2.2.2.2.2.1,.L y.2.2.2.2.2.2.2])) ds) ds) ds) ds) ds) ds) ds) ds) ds) ds) ds) ds⟩
theorem q_Z69 (F:T_Z69) (x0 x1 x2 x3 x4 x5:Int) (x6 x7 x8 x9 x10:List D):runLoop (ocOf [e_Z68]) (olOf [m_Z69 F]) A 86 (codeAt (bodyOf Try.f86) 11) ((m_Z69 F).sh.mk' [.I x0,.I x1,.I x2,.I x3,.I x4,.I x5,.L x6,.L x7,.L x8,.L x9,.L x10]) (fun e σ'=>some (e,σ'))=c_Z69 F x0 x1 x2 x3 x4 x5 x6 x7 x8 x9 x10 (fun y=>some (.exit 2,SSt.mk' ⟨(uu 4 (.ptr 1000 [0]::.undef::.int .i64::.ptr 1001 [0]::uu 29 (.int .i64::.int .i64::uu 91 ([])))),[(1000,.obox (.agg [.own (.int .i64),.own (.slice (.bool)),.own (.slice (.bool))])),(1001,.obox (.agg [.ptr 1000 [0],.full 1002 [] (.int .i64),.full 1003 [] (.int .i64)])),(1002,.own (.int .i64)),(1003,.own (.int .i64))]⟩ [.I y.1,.I y.2.1,.I y.2.2.1,.L y.2.2.2.1,.L y.2.2.2.2.1,.L y.2.2.2.2.2.1,.L y.2.2.2.2.2.2.1,.L y.2.2.2.2.2.2.2])):=by kernel_rfl
theorem m_Z69_ok:∀ n,(m_Z69 (n_Z69 n)).ok Try.prog (codeAt (bodyOf Try.f86) 11):=by
 intro n
 induction n with
 | zero=>
  intro R ds k r h
  unfold m_Z69 at h
  obtain ⟨_,_,rfl,h⟩:=dI_some h
  obtain ⟨_,_,rfl,h⟩:=dI_some h
  obtain ⟨_,_,rfl,h⟩:=dI_some h
  obtain ⟨_,_,rfl,h⟩:=dI_some h
  obtain ⟨_,_,rfl,h⟩:=dI_some h
  obtain ⟨_,_,rfl,h⟩:=dI_some h
  obtain ⟨_,_,rfl,h⟩:=dL_some h
  obtain ⟨_,_,rfl,h⟩:=dL_some h
  obtain ⟨_,_,rfl,h⟩:=dL_some h
  obtain ⟨_,_,rfl,h⟩:=dL_some h
  obtain ⟨_,_,rfl,h⟩:=dL_some h
  obtain ⟨rfl,hE⟩:=dE_some h
  obtain ⟨y,hy,hk⟩:=bnd_some hE
  cases hy
 | succ n ih=>
  intro R ds k r h
  unfold m_Z69 at h
  obtain ⟨_,_,rfl,h⟩:=dI_some h
  obtain ⟨_,_,rfl,h⟩:=dI_some h
  obtain ⟨_,_,rfl,h⟩:=dI_some h
  obtain ⟨_,_,rfl,h⟩:=dI_some h
  obtain ⟨_,_,rfl,h⟩:=dI_some h
  obtain ⟨_,_,rfl,h⟩:=dI_some h
  obtain ⟨_,_,rfl,h⟩:=dL_some h
  obtain ⟨_,_,rfl,h⟩:=dL_some h
  obtain ⟨_,_,rfl,h⟩:=dL_some h
  obtain ⟨_,_,rfl,h⟩:=dL_some h
  obtain ⟨_,_,rfl,h⟩:=dL_some h
  obtain ⟨rfl,hE⟩:=dE_some h
  obtain ⟨y,hy,hk⟩:=bnd_some hE
  exact ⟨0,_,_,_,hk,rfl,loop_ok px (fx:=⟨Try.func86,by kernel_rfl,by kernel_rfl⟩) (entsOK_cons e_Z68_ok entsOK_nil) (lentsOK_cons ih lentsOK_nil) (by kernel_rfl) ((q_Z69 ..).trans ((c_Z69_bind ..).trans (bnd_to hy)))⟩
noncomputable def e_Z69:Lent:=m_Z69 (Z69)
theorem e_Z69_ok:(e_Z69).ok Try.prog (codeAt (bodyOf Try.f86) 11):=by
 intro R ds k r h
 unfold e_Z69 m_Z69 at h
 obtain ⟨_,_,rfl,h⟩:=dI_some h
 obtain ⟨_,_,rfl,h⟩:=dI_some h
 obtain ⟨_,_,rfl,h⟩:=dI_some h
 obtain ⟨_,_,rfl,h⟩:=dI_some h
 obtain ⟨_,_,rfl,h⟩:=dI_some h
 obtain ⟨_,_,rfl,h⟩:=dI_some h
 obtain ⟨_,_,rfl,h⟩:=dL_some h
 obtain ⟨_,_,rfl,h⟩:=dL_some h
 obtain ⟨_,_,rfl,h⟩:=dL_some h
 obtain ⟨_,_,rfl,h⟩:=dL_some h
 obtain ⟨_,_,rfl,h⟩:=dL_some h
 obtain ⟨rfl,hE⟩:=dE_some h
 obtain ⟨y,hy,hk⟩:=bnd_some hE
 obtain ⟨n,hn⟩:=ev_some hy
 exact m_Z69_ok n R _ k r ((bnd_to hn).trans hk)

/-!-/
abbrev T_Z70:=Int→Int→Int→List D→List D→List D→List D→List D→Option (Int×List D×List D×List D×List D×List D)
def c_Z70 {R:Type} (F:T_Z70) (x0 x1 x2:Int) (x3 x4 x5 x6 x7:List D) (k:Int×List D×List D×List D×List D×List D→Option R):Option R:=
 bif decide (x2<x1) then
 (Z69 x0 x2 x1 x2 (↑x3.length:Int) (0:Int) x3 x4 x5 x6 x7).bind (fun y0=>
 (F y0.fst y0.snd.fst (IntKind.i64.wrap (y0.snd.snd.fst+1)) y0.snd.snd.snd.fst y0.snd.snd.snd.snd.fst y0.snd.snd.snd.snd.snd.fst y0.snd.snd.snd.snd.snd.snd.fst y0.snd.snd.snd.snd.snd.snd.snd).bind k)
 else
 k (x0,x3,x4,x5,x6,x7)
theorem c_Z70_bind {R:Type} (F:T_Z70) (x0 x1 x2:Int) (x3 x4 x5 x6 x7:List D) (k:Int×List D×List D×List D×List D×List D→Option R):c_Z70 F x0 x1 x2 x3 x4 x5 x6 x7 k=(c_Z70 F x0 x1 x2 x3 x4 x5 x6 x7 some).bind k:=by
 unfold c_Z70
 repeat' first|exact bnd_tail|exact bnd_none|exact bnd_leaf|apply bnd_ite|apply bnd_cond|apply bnd_sum|(apply bnd_bind;intro _)|intro _
def n_Z70:Nat→T_Z70
 | 0,_,_,_,_,_,_,_,_=>none
 | n+1,x0,x1,x2,x3,x4,x5,x6,x7=>c_Z70 (n_Z70 n) x0 x1 x2 x3 x4 x5 x6 x7 some
noncomputable def Z70 (x0 x1 x2:Int) (x3 x4 x5 x6 x7:List D):Option (Int×List D×List D×List D×List D×List D):=ev (fun n=>n_Z70 n x0 x1 x2 x3 x4 x5 x6 x7)
def m_Z70 (F:T_Z70):Lent:=⟨8,⟨(uu 4 (.ptr 1000 [0]::.undef::.int .i64::.ptr 1001 [0]::uu 29 (.int .i64::.int .i64::uu 91 ([])))),[(1000,.obox (.agg [.own (.int .i64),.own (.slice (.bool)),.own (.slice (.bool))])),(1001,.obox (.agg [.ptr 1000 [0],.full 1002 [] (.int .i64),.full 1003 [] (.int .i64)])),(1002,.own (.int .i64)),(1003,.own (.int .i64))]⟩,[(.exit 0,⟨(uu 4 (.ptr 1000 [0]::.undef::.int .i64::.ptr 1001 [0]::uu 122 ([]))),[(1000,.obox (.agg [.own (.int .i64),.own (.slice (.bool)),.own (.slice (.bool))])),(1001,.obox (.agg [.ptr 1000 [0],.full 1002 [] (.int .i64),.full 1003 [] (.int .i64)])),(1002,.own (.int .i64)),(1003,.own (.int .i64))]⟩)],fun _ ds k=>dI (fun x0 ds=>dI (fun x1 ds=>dI (fun x2 ds=>dL (fun x3 ds=>dL (fun x4 ds=>dL (fun x5 ds=>dL (fun x6 ds=>dL (fun x7 ds=>dE ((F x0 x1 x2 x3 x4 x5 x6 x7).bind (fun y=>k 0 [.I y.1,.L y.2.1,.L y.2.2.1,.L y.2.2.2.1,.L y.2.2.2.2.1,.L y.2.2.2.2.2])) ds) ds) ds) ds) ds) ds) ds) ds) ds⟩
theorem q_Z70 (F:T_Z70) (x0 x1 x2:Int) (x3 x4 x5 x6 x7:List D):runLoop (ocOf []) (olOf [m_Z70 F,e_Z69]) A 86 (codeAt (bodyOf Try.f86) 8) ((m_Z70 F).sh.mk' [.I x0,.I x1,.I x2,.L x3,.L x4,.L x5,.L x6,.L x7]) (fun e σ'=>some (e,σ'))=c_Z70 F x0 x1 x2 x3 x4 x5 x6 x7 (fun y=>some (.exit 0,SSt.mk' ⟨(uu 4 (.ptr 1000 [0]::.undef::.int .i64::.ptr 1001 [0]::uu 122 ([]))),[(1000,.obox (.agg [.own (.int .i64),.own (.slice (.bool)),.own (.slice (.bool))])),(1001,.obox (.agg [.ptr 1000 [0],.full 1002 [] (.int .i64),.full 1003 [] (.int .i64)])),(1002,.own (.int .i64)),(1003,.own (.int .i64))]⟩ [.I y.1,.L y.2.1,.L y.2.2.1,.L y.2.2.2.1,.L y.2.2.2.2.1,.L y.2.2.2.2.2])):=by kernel_rfl
theorem m_Z70_ok:∀ n,(m_Z70 (n_Z70 n)).ok Try.prog (codeAt (bodyOf Try.f86) 8):=by
 intro n
 induction n with
 | zero=>
  intro R ds k r h
  unfold m_Z70 at h
  obtain ⟨_,_,rfl,h⟩:=dI_some h
  obtain ⟨_,_,rfl,h⟩:=dI_some h
  obtain ⟨_,_,rfl,h⟩:=dI_some h
  obtain ⟨_,_,rfl,h⟩:=dL_some h
  obtain ⟨_,_,rfl,h⟩:=dL_some h
  obtain ⟨_,_,rfl,h⟩:=dL_some h
  obtain ⟨_,_,rfl,h⟩:=dL_some h
  obtain ⟨_,_,rfl,h⟩:=dL_some h
  obtain ⟨rfl,hE⟩:=dE_some h
  obtain ⟨y,hy,hk⟩:=bnd_some hE
  cases hy
 | succ n ih=>
  intro R ds k r h
  unfold m_Z70 at h
  obtain ⟨_,_,rfl,h⟩:=dI_some h
  obtain ⟨_,_,rfl,h⟩:=dI_some h
  obtain ⟨_,_,rfl,h⟩:=dI_some h
  obtain ⟨_,_,rfl,h⟩:=dL_some h
  obtain ⟨_,_,rfl,h⟩:=dL_some h
  obtain ⟨_,_,rfl,h⟩:=dL_some h
  obtain ⟨_,_,rfl,h⟩:=dL_some h
  obtain ⟨_,_,rfl,h⟩:=dL_some h
  obtain ⟨rfl,hE⟩:=dE_some h
  obtain ⟨y,hy,hk⟩:=bnd_some hE
  exact ⟨0,_,_,_,hk,rfl,loop_ok px (fx:=⟨Try.func86,by kernel_rfl,by kernel_rfl⟩) entsOK_nil (lentsOK_cons ih (lentsOK_cons e_Z69_ok lentsOK_nil)) (by kernel_rfl) ((q_Z70 ..).trans ((c_Z70_bind ..).trans (bnd_to hy)))⟩
noncomputable def e_Z70:Lent:=m_Z70 (Z70)
theorem e_Z70_ok:(e_Z70).ok Try.prog (codeAt (bodyOf Try.f86) 8):=by
 intro R ds k r h
 unfold e_Z70 m_Z70 at h
 obtain ⟨_,_,rfl,h⟩:=dI_some h
 obtain ⟨_,_,rfl,h⟩:=dI_some h
 obtain ⟨_,_,rfl,h⟩:=dI_some h
 obtain ⟨_,_,rfl,h⟩:=dL_some h
 obtain ⟨_,_,rfl,h⟩:=dL_some h
 obtain ⟨_,_,rfl,h⟩:=dL_some h
 obtain ⟨_,_,rfl,h⟩:=dL_some h
 obtain ⟨_,_,rfl,h⟩:=dL_some h
 obtain ⟨rfl,hE⟩:=dE_some h
 obtain ⟨y,hy,hk⟩:=bnd_some hE
 obtain ⟨n,hn⟩:=ev_some hy
 exact m_Z70_ok n R _ k r ((bnd_to hn).trans hk)

/-!-/
abbrev T_Z71:=Int→Int→Int→List D→List D→List D→List D→List D→Option (Int×List D×List D×List D×List D×List D)
def c_Z71 {R:Type} (F:T_Z71) (x0 x1 x2:Int) (x3 x4 x5 x6 x7:List D) (k:Int×List D×List D×List D×List D×List D→Option R):Option R:=
 bif decide (x2<x1) then
 (Z68 x3 x4 x5 x0 x2).bind (fun y0=>
 bif y0 then
 if 0≤x0∧x0<(↑x7.length:Int) then
 if x0.toNat+1≤x7.length then
 if (0:Int)≤x2 then
 if (0:Int)≤IntKind.i64.wrap (↑(BitVec.ofInt IntKind.i64.bits x0 ||| BitVec.ofInt IntKind.i64.bits (IntKind.i64.wrap ((1:Int) * (2:Int) ^ Min.min x2.toNat IntKind.i64.bits))).toNat:Int)∧IntKind.i64.wrap (↑(BitVec.ofInt IntKind.i64.bits x0 ||| BitVec.ofInt IntKind.i64.bits (IntKind.i64.wrap ((1:Int) * (2:Int) ^ Min.min x2.toNat IntKind.i64.bits))).toNat:Int)<(↑x7.length:Int) then
 if (IntKind.i64.wrap (↑(BitVec.ofInt IntKind.i64.bits x0 ||| BitVec.ofInt IntKind.i64.bits (IntKind.i64.wrap ((1:Int) * (2:Int) ^ Min.min x2.toNat IntKind.i64.bits))).toNat:Int)).toNat+1≤x7.length then
 if 0≤x0∧x0<(↑x7.length:Int) then
 if x0.toNat+1≤x7.length then
 (F x0 x1 (IntKind.i64.wrap (x2+1)) x3 x4 x5 x6 (x7.set x0.toNat (D.int (IntKind.i64.wrap ((x7.getD x0.toNat (D.int 0)).toInt+(x7.getD (IntKind.i64.wrap (↑(BitVec.ofInt IntKind.i64.bits x0 ||| BitVec.ofInt IntKind.i64.bits (IntKind.i64.wrap ((1:Int) * (2:Int) ^ Min.min x2.toNat IntKind.i64.bits))).toNat:Int)).toNat (D.int 0)).toInt))))).bind k
 else
 none
 else
 none
 else
 none
 else
 none
 else
 none
 else
 none
 else
 none
 else
 (F x0 x1 (IntKind.i64.wrap (x2+1)) x3 x4 x5 x6 x7).bind k)
 else
 k (x0,x3,x4,x5,x6,x7)
theorem c_Z71_bind {R:Type} (F:T_Z71) (x0 x1 x2:Int) (x3 x4 x5 x6 x7:List D) (k:Int×List D×List D×List D×List D×List D→Option R):c_Z71 F x0 x1 x2 x3 x4 x5 x6 x7 k=(c_Z71 F x0 x1 x2 x3 x4 x5 x6 x7 some).bind k:=by
 unfold c_Z71
 repeat' first|exact bnd_tail|exact bnd_none|exact bnd_leaf|apply bnd_ite|apply bnd_cond|apply bnd_sum|(apply bnd_bind;intro _)|intro _
def n_Z71:Nat→T_Z71
 | 0,_,_,_,_,_,_,_,_=>none
 | n+1,x0,x1,x2,x3,x4,x5,x6,x7=>c_Z71 (n_Z71 n) x0 x1 x2 x3 x4 x5 x6 x7 some
noncomputable def Z71 (x0 x1 x2:Int) (x3 x4 x5 x6 x7:List D):Option (Int×List D×List D×List D×List D×List D):=ev (fun n=>n_Z71 n x0 x1 x2 x3 x4 x5 x6 x7)
def m_Z71 (F:T_Z71):Lent:=⟨22,⟨(uu 4 (.ptr 1000 [0]::.undef::.undef::.ptr 1001 [0]::.undef::.undef::.int .i64::uu 90 (.int .i64::.int .i64::uu 27 ([])))),[(1000,.obox (.agg [.own (.int .i64),.own (.slice (.bool)),.own (.slice (.bool))])),(1001,.obox (.agg [.ptr 1000 [0],.full 1002 [] (.int .i64),.full 1003 [] (.int .i64)])),(1002,.own (.int .i64)),(1003,.own (.int .i64))]⟩,[(.exit 6,⟨(uu 4 (.ptr 1000 [0]::.undef::.undef::.ptr 1001 [0]::.undef::.undef::.int .i64::uu 119 ([]))),[(1000,.obox (.agg [.own (.int .i64),.own (.slice (.bool)),.own (.slice (.bool))])),(1001,.obox (.agg [.ptr 1000 [0],.full 1002 [] (.int .i64),.full 1003 [] (.int .i64)])),(1002,.own (.int .i64)),(1003,.own (.int .i64))]⟩)],fun _ ds k=>dI (fun x0 ds=>dI (fun x1 ds=>dI (fun x2 ds=>dL (fun x3 ds=>dL (fun x4 ds=>dL (fun x5 ds=>dL (fun x6 ds=>dL (fun x7 ds=>dE ((F x0 x1 x2 x3 x4 x5 x6 x7).bind (fun y=>k 0 [.I y.1,.L y.2.1,.L y.2.2.1,.L y.2.2.2.1,.L y.2.2.2.2.1,.L y.2.2.2.2.2])) ds) ds) ds) ds) ds) ds) ds) ds) ds⟩
theorem q_Z71 (F:T_Z71) (x0 x1 x2:Int) (x3 x4 x5 x6 x7:List D):runLoop (ocOf [e_Z68]) (olOf [m_Z71 F]) A 86 (codeAt (bodyOf Try.f86) 22) ((m_Z71 F).sh.mk' [.I x0,.I x1,.I x2,.L x3,.L x4,.L x5,.L x6,.L x7]) (fun e σ'=>some (e,σ'))=c_Z71 F x0 x1 x2 x3 x4 x5 x6 x7 (fun y=>some (.exit 6,SSt.mk' ⟨(uu 4 (.ptr 1000 [0]::.undef::.undef::.ptr 1001 [0]::.undef::.undef::.int .i64::uu 119 ([]))),[(1000,.obox (.agg [.own (.int .i64),.own (.slice (.bool)),.own (.slice (.bool))])),(1001,.obox (.agg [.ptr 1000 [0],.full 1002 [] (.int .i64),.full 1003 [] (.int .i64)])),(1002,.own (.int .i64)),(1003,.own (.int .i64))]⟩ [.I y.1,.L y.2.1,.L y.2.2.1,.L y.2.2.2.1,.L y.2.2.2.2.1,.L y.2.2.2.2.2])):=by kernel_rfl
theorem m_Z71_ok:∀ n,(m_Z71 (n_Z71 n)).ok Try.prog (codeAt (bodyOf Try.f86) 22):=by
 intro n
 induction n with
 | zero=>
  intro R ds k r h
  unfold m_Z71 at h
  obtain ⟨_,_,rfl,h⟩:=dI_some h
  obtain ⟨_,_,rfl,h⟩:=dI_some h
  obtain ⟨_,_,rfl,h⟩:=dI_some h
  obtain ⟨_,_,rfl,h⟩:=dL_some h
  obtain ⟨_,_,rfl,h⟩:=dL_some h
  obtain ⟨_,_,rfl,h⟩:=dL_some h
  obtain ⟨_,_,rfl,h⟩:=dL_some h
  obtain ⟨_,_,rfl,h⟩:=dL_some h
  obtain ⟨rfl,hE⟩:=dE_some h
  obtain ⟨y,hy,hk⟩:=bnd_some hE
  cases hy
 | succ n ih=>
  intro R ds k r h
  unfold m_Z71 at h
  obtain ⟨_,_,rfl,h⟩:=dI_some h
  obtain ⟨_,_,rfl,h⟩:=dI_some h
  obtain ⟨_,_,rfl,h⟩:=dI_some h
  obtain ⟨_,_,rfl,h⟩:=dL_some h
  obtain ⟨_,_,rfl,h⟩:=dL_some h
  obtain ⟨_,_,rfl,h⟩:=dL_some h
  obtain ⟨_,_,rfl,h⟩:=dL_some h
  obtain ⟨_,_,rfl,h⟩:=dL_some h
  obtain ⟨rfl,hE⟩:=dE_some h
  obtain ⟨y,hy,hk⟩:=bnd_some hE
  exact ⟨0,_,_,_,hk,rfl,loop_ok px (fx:=⟨Try.func86,by kernel_rfl,by kernel_rfl⟩) (entsOK_cons e_Z68_ok entsOK_nil) (lentsOK_cons ih lentsOK_nil) (by kernel_rfl) ((q_Z71 ..).trans ((c_Z71_bind ..).trans (bnd_to hy)))⟩
noncomputable def e_Z71:Lent:=m_Z71 (Z71)
theorem e_Z71_ok:(e_Z71).ok Try.prog (codeAt (bodyOf Try.f86) 22):=by
 intro R ds k r h
 unfold e_Z71 m_Z71 at h
 obtain ⟨_,_,rfl,h⟩:=dI_some h
 obtain ⟨_,_,rfl,h⟩:=dI_some h
 obtain ⟨_,_,rfl,h⟩:=dI_some h
 obtain ⟨_,_,rfl,h⟩:=dL_some h
 obtain ⟨_,_,rfl,h⟩:=dL_some h
 obtain ⟨_,_,rfl,h⟩:=dL_some h
 obtain ⟨_,_,rfl,h⟩:=dL_some h
 obtain ⟨_,_,rfl,h⟩:=dL_some h
 obtain ⟨rfl,hE⟩:=dE_some h
 obtain ⟨y,hy,hk⟩:=bnd_some hE
 obtain ⟨n,hn⟩:=ev_some hy
 exact m_Z71_ok n R _ k r ((bnd_to hn).trans hk)

/-!-/
abbrev T_Z72:=Int→List D→List D→List D→List D→List D→Option (List D×List D×List D×List D×List D)
def c_Z72 {R:Type} (F:T_Z72) (x0:Int) (x1 x2 x3 x4 x5:List D) (k:List D×List D×List D×List D×List D→Option R):Option R:=
 bif decide ((0:Int)≤x0) then
 (Z71 x0 (↑x1.length:Int) (0:Int) x1 x2 x3 x4 x5).bind (fun y0=>
 (F (IntKind.i64.wrap (y0.fst - 1)) y0.snd.fst y0.snd.snd.fst y0.snd.snd.snd.fst y0.snd.snd.snd.snd.fst y0.snd.snd.snd.snd.snd).bind k)
 else
 k (x1,x2,x3,x4,x5)
theorem c_Z72_bind {R:Type} (F:T_Z72) (x0:Int) (x1 x2 x3 x4 x5:List D) (k:List D×List D×List D×List D×List D→Option R):c_Z72 F x0 x1 x2 x3 x4 x5 k=(c_Z72 F x0 x1 x2 x3 x4 x5 some).bind k:=by
 unfold c_Z72
 repeat' first|exact bnd_tail|exact bnd_none|exact bnd_leaf|apply bnd_ite|apply bnd_cond|apply bnd_sum|(apply bnd_bind;intro _)|intro _
def n_Z72:Nat→T_Z72
 | 0,_,_,_,_,_,_=>none
 | n+1,x0,x1,x2,x3,x4,x5=>c_Z72 (n_Z72 n) x0 x1 x2 x3 x4 x5 some
noncomputable def Z72 (x0:Int) (x1 x2 x3 x4 x5:List D):Option (List D×List D×List D×List D×List D):=ev (fun n=>n_Z72 n x0 x1 x2 x3 x4 x5)
def m_Z72 (F:T_Z72):Lent:=⟨19,⟨(uu 4 (.ptr 1000 [0]::.undef::.undef::.ptr 1001 [0]::.undef::.undef::.int .i64::uu 119 ([]))),[(1000,.obox (.agg [.own (.int .i64),.own (.slice (.bool)),.own (.slice (.bool))])),(1001,.obox (.agg [.ptr 1000 [0],.full 1002 [] (.int .i64),.full 1003 [] (.int .i64)])),(1002,.own (.int .i64)),(1003,.own (.int .i64))]⟩,[(.exit 4,⟨(uu 7 (.ptr 1000 [0]::uu 122 ([]))),[(1000,.obox (.agg [.ptr 1001 [0],.full 1002 [] (.int .i64),.full 1003 [] (.int .i64)])),(1001,.obox (.agg [.own (.int .i64),.own (.slice (.bool)),.own (.slice (.bool))])),(1002,.own (.int .i64)),(1003,.own (.int .i64))]⟩)],fun _ ds k=>dI (fun x0 ds=>dL (fun x1 ds=>dL (fun x2 ds=>dL (fun x3 ds=>dL (fun x4 ds=>dL (fun x5 ds=>dE ((F x0 x1 x2 x3 x4 x5).bind (fun y=>k 0 [.L y.1,.L y.2.1,.L y.2.2.1,.L y.2.2.2.1,.L y.2.2.2.2])) ds) ds) ds) ds) ds) ds) ds⟩
theorem q_Z72 (F:T_Z72) (x0:Int) (x1 x2 x3 x4 x5:List D):runLoop (ocOf []) (olOf [m_Z72 F,e_Z71]) A 86 (codeAt (bodyOf Try.f86) 19) ((m_Z72 F).sh.mk' [.I x0,.L x1,.L x2,.L x3,.L x4,.L x5]) (fun e σ'=>some (e,σ'))=c_Z72 F x0 x1 x2 x3 x4 x5 (fun y=>some (.exit 4,SSt.mk' ⟨(uu 7 (.ptr 1000 [0]::uu 122 ([]))),[(1000,.obox (.agg [.ptr 1001 [0],.full 1002 [] (.int .i64),.full 1003 [] (.int .i64)])),(1001,.obox (.agg [.own (.int .i64),.own (.slice (.bool)),.own (.slice (.bool))])),(1002,.own (.int .i64)),(1003,.own (.int .i64))]⟩ [.L y.1,.L y.2.1,.L y.2.2.1,.L y.2.2.2.1,.L y.2.2.2.2])):=by kernel_rfl
theorem m_Z72_ok:∀ n,(m_Z72 (n_Z72 n)).ok Try.prog (codeAt (bodyOf Try.f86) 19):=by
 intro n
 induction n with
 | zero=>
  intro R ds k r h
  unfold m_Z72 at h
  obtain ⟨_,_,rfl,h⟩:=dI_some h
  obtain ⟨_,_,rfl,h⟩:=dL_some h
  obtain ⟨_,_,rfl,h⟩:=dL_some h
  obtain ⟨_,_,rfl,h⟩:=dL_some h
  obtain ⟨_,_,rfl,h⟩:=dL_some h
  obtain ⟨_,_,rfl,h⟩:=dL_some h
  obtain ⟨rfl,hE⟩:=dE_some h
  obtain ⟨y,hy,hk⟩:=bnd_some hE
  cases hy
 | succ n ih=>
  intro R ds k r h
  unfold m_Z72 at h
  obtain ⟨_,_,rfl,h⟩:=dI_some h
  obtain ⟨_,_,rfl,h⟩:=dL_some h
  obtain ⟨_,_,rfl,h⟩:=dL_some h
  obtain ⟨_,_,rfl,h⟩:=dL_some h
  obtain ⟨_,_,rfl,h⟩:=dL_some h
  obtain ⟨_,_,rfl,h⟩:=dL_some h
  obtain ⟨rfl,hE⟩:=dE_some h
  obtain ⟨y,hy,hk⟩:=bnd_some hE
  exact ⟨0,_,_,_,hk,rfl,loop_ok px (fx:=⟨Try.func86,by kernel_rfl,by kernel_rfl⟩) entsOK_nil (lentsOK_cons ih (lentsOK_cons e_Z71_ok lentsOK_nil)) (by kernel_rfl) ((q_Z72 ..).trans ((c_Z72_bind ..).trans (bnd_to hy)))⟩
noncomputable def e_Z72:Lent:=m_Z72 (Z72)
theorem e_Z72_ok:(e_Z72).ok Try.prog (codeAt (bodyOf Try.f86) 19):=by
 intro R ds k r h
 unfold e_Z72 m_Z72 at h
 obtain ⟨_,_,rfl,h⟩:=dI_some h
 obtain ⟨_,_,rfl,h⟩:=dL_some h
 obtain ⟨_,_,rfl,h⟩:=dL_some h
 obtain ⟨_,_,rfl,h⟩:=dL_some h
 obtain ⟨_,_,rfl,h⟩:=dL_some h
 obtain ⟨_,_,rfl,h⟩:=dL_some h
 obtain ⟨rfl,hE⟩:=dE_some h
 obtain ⟨y,hy,hk⟩:=bnd_some hE
 obtain ⟨n,hn⟩:=ev_some hy
 exact m_Z72_ok n R _ k r ((bnd_to hn).trans hk)

/-!-/
def c_Z73 {R:Type} (x0 x1:List D) (k:(Bool)⊕(List D×List D×List D×List D×List D×Bool)→Option R):Option R:=
 (Z65 x0 x1).bind (Sum.elim (fun y0=>
 bif !y0 then
 k (.inl Bool.false)
 else
 none) (fun y1=>
 bif !y1.snd.snd.snd then
 k (.inl Bool.false)
 else
 if (0:Int)≤(↑y1.fst.length:Int) then
 if (0:Int)≤IntKind.i64.wrap ((1:Int) * (2:Int) ^ Min.min (↑y1.fst.length:Int).toNat IntKind.i64.bits)∧IntKind.i64.wrap ((1:Int) * (2:Int) ^ Min.min (↑y1.fst.length:Int).toNat IntKind.i64.bits)≤IntKind.i64.wrap ((1:Int) * (2:Int) ^ Min.min (↑y1.fst.length:Int).toNat IntKind.i64.bits)∧IntKind.i64.wrap ((1:Int) * (2:Int) ^ Min.min (↑y1.fst.length:Int).toNat IntKind.i64.bits)≤(4294967296:Int) then
 if (0:Int)≤IntKind.i64.wrap ((1:Int) * (2:Int) ^ Min.min (↑y1.fst.length:Int).toNat IntKind.i64.bits)∧IntKind.i64.wrap ((1:Int) * (2:Int) ^ Min.min (↑y1.fst.length:Int).toNat IntKind.i64.bits)≤IntKind.i64.wrap ((1:Int) * (2:Int) ^ Min.min (↑y1.fst.length:Int).toNat IntKind.i64.bits)∧IntKind.i64.wrap ((1:Int) * (2:Int) ^ Min.min (↑y1.fst.length:Int).toNat IntKind.i64.bits)≤(4294967296:Int) then
 if (0:Int)≤(0:Int)∧(0:Int)<(↑(List.replicate (IntKind.i64.wrap ((1:Int) * (2:Int) ^ Min.min (↑y1.fst.length:Int).toNat IntKind.i64.bits)).toNat (D.int 0)).length:Int) then
 if Int.toNat (0:Int)+(1:Nat)≤(List.replicate (IntKind.i64.wrap ((1:Int) * (2:Int) ^ Min.min (↑y1.fst.length:Int).toNat IntKind.i64.bits)).toNat (D.int 0)).length then
 (Z70 (IntKind.i64.wrap ((1:Int) * (2:Int) ^ Min.min (↑y1.fst.length:Int).toNat IntKind.i64.bits)) (IntKind.i64.wrap ((1:Int) * (2:Int) ^ Min.min (↑y1.fst.length:Int).toNat IntKind.i64.bits)) (0:Int) y1.fst y1.snd.fst y1.snd.snd.fst ((List.replicate (IntKind.i64.wrap ((1:Int) * (2:Int) ^ Min.min (↑y1.fst.length:Int).toNat IntKind.i64.bits)).toNat (D.int 0)).set (Int.toNat (0:Int)) (D.int (1:Int))) (List.replicate (IntKind.i64.wrap ((1:Int) * (2:Int) ^ Min.min (↑y1.fst.length:Int).toNat IntKind.i64.bits)).toNat (D.int 0))).bind (fun y2=>
 if (0:Int)≤IntKind.i64.wrap (y2.fst - 1)∧IntKind.i64.wrap (y2.fst - 1)<(↑y2.snd.snd.snd.snd.snd.length:Int) then
 if (IntKind.i64.wrap (y2.fst - 1)).toNat+1≤y2.snd.snd.snd.snd.snd.length then
 (Z72 (IntKind.i64.wrap (y2.fst - 2)) y2.snd.fst y2.snd.snd.fst y2.snd.snd.snd.fst y2.snd.snd.snd.snd.fst (y2.snd.snd.snd.snd.snd.set (IntKind.i64.wrap (y2.fst - 1)).toNat (D.int (1:Int)))).bind (fun y3=>
 k (.inr (y3.fst,y3.snd.fst,y3.snd.snd.fst,y3.snd.snd.snd.fst,y3.snd.snd.snd.snd,Bool.true)))
 else
 none
 else
 none)
 else
 none
 else
 none
 else
 none
 else
 none
 else
 none))
theorem c_Z73_bind {R:Type} (x0 x1:List D) (k:(Bool)⊕(List D×List D×List D×List D×List D×Bool)→Option R):c_Z73 x0 x1 k=(c_Z73 x0 x1 some).bind k:=by
 unfold c_Z73
 repeat' first|exact bnd_tail|exact bnd_none|exact bnd_leaf|apply bnd_ite|apply bnd_cond|apply bnd_sum|(apply bnd_bind;intro _)|intro _
def Z73 (x0 x1:List D):Option ((Bool)⊕(List D×List D×List D×List D×List D×Bool)):=c_Z73 x0 x1 some
def e_Z73:Ent:=⟨86,[.agg [.rd (.struct [.int .i64,.int .i64]),.rd (.struct [.int .i64,.int .i64])]],[(.tup [.nilptr,.bool],[.undef]),(.tup [.obox (.agg [.obox (.agg [.own (.int .i64),.own (.slice (.bool)),.own (.slice (.bool))]),.own (.int .i64),.own (.int .i64)]),.bool],[.undef])],fun _ ds k=>dL (fun x0 ds=>dL (fun x1 ds=>dE ((Z73 x0 x1).bind (Sum.elim (fun y=>k 0 [.B y]) (fun y=>k 1 [.L y.1,.L y.2.1,.L y.2.2.1,.L y.2.2.2.1,.L y.2.2.2.2.1,.B y.2.2.2.2.2]))) ds) ds) ds⟩
theorem q_Z73 (x0 x1:List D):runFn (ocOf [e_Z65]) (olOf [e_Z70,e_Z72]) A 86 Try.f86 (Sh.mks e_Z73.sh [.L x0,.L x1]).1 (fun v os=>some (v,os))=c_Z73 x0 x1 (Sum.elim (fun y=>retO e_Z73 0 [.B y]) (fun y=>retO e_Z73 1 [.L y.1,.L y.2.1,.L y.2.2.1,.L y.2.2.2.1,.L y.2.2.2.2.1,.B y.2.2.2.2.2])):=by kernel_rfl
theorem e_Z73_ok:e_Z73.ok Try.prog A:=by
 intro R ds k r h
 unfold e_Z73 at h
 obtain ⟨_,_,rfl,h⟩:=dL_some h
 obtain ⟨_,_,rfl,h⟩:=dL_some h
 obtain ⟨rfl,hE⟩:=dE_some h
 obtain ⟨y,hy,hk⟩:=bnd_some hE
 cases y with
 | inl y=>
  exact ⟨0,_,_,_,hk,rfl,fn_ok px (fx:=⟨Try.func86,by kernel_rfl,by kernel_rfl⟩) (entsOK_cons e_Z65_ok entsOK_nil) (lentsOK_cons e_Z70_ok (lentsOK_cons e_Z72_ok lentsOK_nil)) ((q_Z73 ..).trans ((c_Z73_bind ..).trans (bnd_to hy)))⟩
 | inr y=>
  exact ⟨1,_,_,_,hk,rfl,fn_ok px (fx:=⟨Try.func86,by kernel_rfl,by kernel_rfl⟩) (entsOK_cons e_Z65_ok entsOK_nil) (lentsOK_cons e_Z70_ok (lentsOK_cons e_Z72_ok lentsOK_nil)) ((q_Z73 ..).trans ((c_Z73_bind ..).trans (bnd_to hy)))⟩

/-!-/
abbrev T_Z74:=List D→List D→List D→List D→List D→Int→Int→Int→Int→List D→Int→Int→List D→Option (List D×List D×List D×List D×List D×Int×Int×Int×Int×List D)
def c_Z74 {R:Type} (F:T_Z74) (x0 x1 x2 x3 x4:List D) (x5 x6 x7 x8:Int) (x9:List D) (x10 x11:Int) (x12:List D) (k:List D×List D×List D×List D×List D×Int×Int×Int×Int×List D→Option R):Option R:=
 bif decide (x11<x10) then
 if 0≤x11∧x11<(↑x9.length:Int) then
 (Z68 x0 x1 x2 x6 x11).bind (fun y0=>
 bif !y0 then
 (F x0 x1 x2 x3 x4 x5 x6 x7 x8 x9 x10 (IntKind.i64.wrap (x11+1)) x12).bind k
 else
 if (0:Int)≤x11 then
 if (0:Int)≤IntKind.i64.wrap (↑(BitVec.ofInt IntKind.i64.bits x6 ||| BitVec.ofInt IntKind.i64.bits (IntKind.i64.wrap ((1:Int) * (2:Int) ^ Min.min x11.toNat IntKind.i64.bits))).toNat:Int)∧IntKind.i64.wrap (↑(BitVec.ofInt IntKind.i64.bits x6 ||| BitVec.ofInt IntKind.i64.bits (IntKind.i64.wrap ((1:Int) * (2:Int) ^ Min.min x11.toNat IntKind.i64.bits))).toNat:Int)<(↑x4.length:Int) then
 bif decide ((x4.getD (IntKind.i64.wrap (↑(BitVec.ofInt IntKind.i64.bits x6 ||| BitVec.ofInt IntKind.i64.bits (IntKind.i64.wrap ((1:Int) * (2:Int) ^ Min.min x11.toNat IntKind.i64.bits))).toNat:Int)).toNat (D.int 0)).toInt≤x5) then
 (F x0 x1 x2 x3 x4 (IntKind.i64.wrap (x5 - (x4.getD (IntKind.i64.wrap (↑(BitVec.ofInt IntKind.i64.bits x6 ||| BitVec.ofInt IntKind.i64.bits (IntKind.i64.wrap ((1:Int) * (2:Int) ^ Min.min x11.toNat IntKind.i64.bits))).toNat:Int)).toNat (D.int 0)).toInt)) x6 x7 x8 x9 x10 (IntKind.i64.wrap (x11+1)) x12).bind k
 else
 if (0:Int)≤x11 then
 if x12.length+[D.int (x9.getD x11.toNat (D.int 0)).toInt].length≤(4294967296:Nat) then
 k (x0,x1,x2,x3,x4,x5,IntKind.i64.wrap (↑(BitVec.ofInt IntKind.i64.bits x6 ||| BitVec.ofInt IntKind.i64.bits (IntKind.i64.wrap ((1:Int) * (2:Int) ^ Min.min x11.toNat IntKind.i64.bits))).toNat:Int),x7,x8,x12++[D.int (x9.getD x11.toNat (D.int 0)).toInt])
 else
 none
 else
 none
 else
 none
 else
 none)
 else
 none
 else
 k (x0,x1,x2,x3,x4,x5,x6,x7,x8,x12)
theorem c_Z74_bind {R:Type} (F:T_Z74) (x0 x1 x2 x3 x4:List D) (x5 x6 x7 x8:Int) (x9:List D) (x10 x11:Int) (x12:List D) (k:List D×List D×List D×List D×List D×Int×Int×Int×Int×List D→Option R):c_Z74 F x0 x1 x2 x3 x4 x5 x6 x7 x8 x9 x10 x11 x12 k=(c_Z74 F x0 x1 x2 x3 x4 x5 x6 x7 x8 x9 x10 x11 x12 some).bind k:=by
 unfold c_Z74
 repeat' first|exact bnd_tail|exact bnd_none|exact bnd_leaf|apply bnd_ite|apply bnd_cond|apply bnd_sum|(apply bnd_bind;intro _)|intro _
def n_Z74:Nat→T_Z74
 | 0,_,_,_,_,_,_,_,_,_,_,_,_,_=>none
 | n+1,x0,x1,x2,x3,x4,x5,x6,x7,x8,x9,x10,x11,x12=>c_Z74 (n_Z74 n) x0 x1 x2 x3 x4 x5 x6 x7 x8 x9 x10 x11 x12 some
noncomputable def Z74 (x0 x1 x2 x3 x4:List D) (x5 x6 x7 x8:Int) (x9:List D) (x10 x11:Int) (x12:List D):Option (List D×List D×List D×List D×List D×Int×Int×Int×Int×List D):=ev (fun n=>n_Z74 n x0 x1 x2 x3 x4 x5 x6 x7 x8 x9 x10 x11 x12)
def m_Z74 (F:T_Z74):Lent:=⟨6,⟨(.rp (.agg [.rp (.agg [.rd (.int .i64),.rd (.slice (.bool)),.rd (.slice (.bool))]),.rd (.int .i64),.rd (.int .i64)])::.int .i64::.undef::.undef::.undef::.full 1000 [] (.int .i64)::.int .i64::uu 11 (.int .i64::.int .i64::uu 7 (.rd (.int .i64)::.int .i64::.int .i64::uu 39 ([])))),[(1000,.own (.int .i64))]⟩,[(.exit 2,⟨(.rp (.agg [.rp (.agg [.rd (.int .i64),.rd (.slice (.bool)),.rd (.slice (.bool))]),.rd (.int .i64),.rd (.int .i64)])::.int .i64::.undef::.undef::.undef::.full 1000 [] (.int .i64)::.int .i64::uu 11 (.int .i64::.int .i64::uu 49 ([]))),[(1000,.own (.int .i64))]⟩)],fun _ ds k=>dL (fun x0 ds=>dL (fun x1 ds=>dL (fun x2 ds=>dL (fun x3 ds=>dL (fun x4 ds=>dI (fun x5 ds=>dI (fun x6 ds=>dI (fun x7 ds=>dI (fun x8 ds=>dL (fun x9 ds=>dI (fun x10 ds=>dI (fun x11 ds=>dL (fun x12 ds=>dE ((F x0 x1 x2 x3 x4 x5 x6 x7 x8 x9 x10 x11 x12).bind (fun y=>k 0 [.L y.1,.L y.2.1,.L y.2.2.1,.L y.2.2.2.1,.L y.2.2.2.2.1,.I y.2.2.2.2.2.1,.I y.2.2.2.2.2.2.1,.I y.2.2.2.2.2.2.2.1,.I y.2.2.2.2.2.2.2.2.1,.L y.2.2.2.2.2.2.2.2.2])) ds) ds) ds) ds) ds) ds) ds) ds) ds) ds) ds) ds) ds) ds⟩
theorem q_Z74 (F:T_Z74) (x0 x1 x2 x3 x4:List D) (x5 x6 x7 x8:Int) (x9:List D) (x10 x11:Int) (x12:List D):runLoop (ocOf [e_Z68]) (olOf [m_Z74 F]) A 88 (codeAt (bodyOf Try.f88) 6) ((m_Z74 F).sh.mk' [.L x0,.L x1,.L x2,.L x3,.L x4,.I x5,.I x6,.I x7,.I x8,.L x9,.I x10,.I x11,.L x12]) (fun e σ'=>some (e,σ'))=c_Z74 F x0 x1 x2 x3 x4 x5 x6 x7 x8 x9 x10 x11 x12 (fun y=>some (.exit 2,SSt.mk' ⟨(.rp (.agg [.rp (.agg [.rd (.int .i64),.rd (.slice (.bool)),.rd (.slice (.bool))]),.rd (.int .i64),.rd (.int .i64)])::.int .i64::.undef::.undef::.undef::.full 1000 [] (.int .i64)::.int .i64::uu 11 (.int .i64::.int .i64::uu 49 ([]))),[(1000,.own (.int .i64))]⟩ [.L y.1,.L y.2.1,.L y.2.2.1,.L y.2.2.2.1,.L y.2.2.2.2.1,.I y.2.2.2.2.2.1,.I y.2.2.2.2.2.2.1,.I y.2.2.2.2.2.2.2.1,.I y.2.2.2.2.2.2.2.2.1,.L y.2.2.2.2.2.2.2.2.2])):=by kernel_rfl
theorem m_Z74_ok:∀ n,(m_Z74 (n_Z74 n)).ok Try.prog (codeAt (bodyOf Try.f88) 6):=by
 intro n
 induction n with
 | zero=>
  intro R ds k r h
  unfold m_Z74 at h
  obtain ⟨_,_,rfl,h⟩:=dL_some h
  obtain ⟨_,_,rfl,h⟩:=dL_some h
  obtain ⟨_,_,rfl,h⟩:=dL_some h
  obtain ⟨_,_,rfl,h⟩:=dL_some h
  obtain ⟨_,_,rfl,h⟩:=dL_some h
  obtain ⟨_,_,rfl,h⟩:=dI_some h
  obtain ⟨_,_,rfl,h⟩:=dI_some h
  obtain ⟨_,_,rfl,h⟩:=dI_some h
  obtain ⟨_,_,rfl,h⟩:=dI_some h
  obtain ⟨_,_,rfl,h⟩:=dL_some h
  obtain ⟨_,_,rfl,h⟩:=dI_some h
  obtain ⟨_,_,rfl,h⟩:=dI_some h
  obtain ⟨_,_,rfl,h⟩:=dL_some h
  obtain ⟨rfl,hE⟩:=dE_some h
  obtain ⟨y,hy,hk⟩:=bnd_some hE
  cases hy
 | succ n ih=>
  intro R ds k r h
  unfold m_Z74 at h
  obtain ⟨_,_,rfl,h⟩:=dL_some h
  obtain ⟨_,_,rfl,h⟩:=dL_some h
  obtain ⟨_,_,rfl,h⟩:=dL_some h
  obtain ⟨_,_,rfl,h⟩:=dL_some h
  obtain ⟨_,_,rfl,h⟩:=dL_some h
  obtain ⟨_,_,rfl,h⟩:=dI_some h
  obtain ⟨_,_,rfl,h⟩:=dI_some h
  obtain ⟨_,_,rfl,h⟩:=dI_some h
  obtain ⟨_,_,rfl,h⟩:=dI_some h
  obtain ⟨_,_,rfl,h⟩:=dL_some h
  obtain ⟨_,_,rfl,h⟩:=dI_some h
  obtain ⟨_,_,rfl,h⟩:=dI_some h
  obtain ⟨_,_,rfl,h⟩:=dL_some h
  obtain ⟨rfl,hE⟩:=dE_some h
  obtain ⟨y,hy,hk⟩:=bnd_some hE
  exact ⟨0,_,_,_,hk,rfl,loop_ok px (fx:=⟨Try.func88,by kernel_rfl,by kernel_rfl⟩) (entsOK_cons e_Z68_ok entsOK_nil) (lentsOK_cons ih lentsOK_nil) (by kernel_rfl) ((q_Z74 ..).trans ((c_Z74_bind ..).trans (bnd_to hy)))⟩
noncomputable def e_Z74:Lent:=m_Z74 (Z74)
theorem e_Z74_ok:(e_Z74).ok Try.prog (codeAt (bodyOf Try.f88) 6):=by
 intro R ds k r h
 unfold e_Z74 m_Z74 at h
 obtain ⟨_,_,rfl,h⟩:=dL_some h
 obtain ⟨_,_,rfl,h⟩:=dL_some h
 obtain ⟨_,_,rfl,h⟩:=dL_some h
 obtain ⟨_,_,rfl,h⟩:=dL_some h
 obtain ⟨_,_,rfl,h⟩:=dL_some h
 obtain ⟨_,_,rfl,h⟩:=dI_some h
 obtain ⟨_,_,rfl,h⟩:=dI_some h
 obtain ⟨_,_,rfl,h⟩:=dI_some h
 obtain ⟨_,_,rfl,h⟩:=dI_some h
 obtain ⟨_,_,rfl,h⟩:=dL_some h
 obtain ⟨_,_,rfl,h⟩:=dI_some h
 obtain ⟨_,_,rfl,h⟩:=dI_some h
 obtain ⟨_,_,rfl,h⟩:=dL_some h
 obtain ⟨rfl,hE⟩:=dE_some h
 obtain ⟨y,hy,hk⟩:=bnd_some hE
 obtain ⟨n,hn⟩:=ev_some hy
 exact m_Z74_ok n R _ k r ((bnd_to hn).trans hk)

/-!-/
abbrev T_Z75:=List D→List D→List D→List D→List D→Int→Int→Int→Int→List D→Option (List D)
def c_Z75 {R:Type} (F:T_Z75) (x0 x1 x2 x3 x4:List D) (x5 x6 x7 x8:Int) (x9:List D) (k:List D→Option R):Option R:=
 bif decide (x8<x7) then
 (Z74 x0 x1 x2 x3 x4 x5 x6 x7 x8 x0 (↑x0.length:Int) (0:Int) x9).bind (fun y0=>
 (F y0.fst y0.snd.fst y0.snd.snd.fst y0.snd.snd.snd.fst y0.snd.snd.snd.snd.fst y0.snd.snd.snd.snd.snd.fst y0.snd.snd.snd.snd.snd.snd.fst y0.snd.snd.snd.snd.snd.snd.snd.fst (IntKind.i64.wrap (y0.snd.snd.snd.snd.snd.snd.snd.snd.fst+1)) y0.snd.snd.snd.snd.snd.snd.snd.snd.snd).bind k)
 else
 k x9
theorem c_Z75_bind {R:Type} (F:T_Z75) (x0 x1 x2 x3 x4:List D) (x5 x6 x7 x8:Int) (x9:List D) (k:List D→Option R):c_Z75 F x0 x1 x2 x3 x4 x5 x6 x7 x8 x9 k=(c_Z75 F x0 x1 x2 x3 x4 x5 x6 x7 x8 x9 some).bind k:=by
 unfold c_Z75
 repeat' first|exact bnd_tail|exact bnd_none|exact bnd_leaf|apply bnd_ite|apply bnd_cond|apply bnd_sum|(apply bnd_bind;intro _)|intro _
def n_Z75:Nat→T_Z75
 | 0,_,_,_,_,_,_,_,_,_,_=>none
 | n+1,x0,x1,x2,x3,x4,x5,x6,x7,x8,x9=>c_Z75 (n_Z75 n) x0 x1 x2 x3 x4 x5 x6 x7 x8 x9 some
noncomputable def Z75 (x0 x1 x2 x3 x4:List D) (x5 x6 x7 x8:Int) (x9:List D):Option (List D):=ev (fun n=>n_Z75 n x0 x1 x2 x3 x4 x5 x6 x7 x8 x9)
def m_Z75 (F:T_Z75):Lent:=⟨4,⟨(.rp (.agg [.rp (.agg [.rd (.int .i64),.rd (.slice (.bool)),.rd (.slice (.bool))]),.rd (.int .i64),.rd (.int .i64)])::.int .i64::.undef::.undef::.undef::.full 1000 [] (.int .i64)::.int .i64::uu 11 (.int .i64::.int .i64::uu 49 ([]))),[(1000,.own (.int .i64))]⟩,[(.exit 0,⟨(uu 5 (.full 1000 [] (.int .i64)::uu 63 ([]))),[(1000,.own (.int .i64))]⟩)],fun _ ds k=>dL (fun x0 ds=>dL (fun x1 ds=>dL (fun x2 ds=>dL (fun x3 ds=>dL (fun x4 ds=>dI (fun x5 ds=>dI (fun x6 ds=>dI (fun x7 ds=>dI (fun x8 ds=>dL (fun x9 ds=>dE ((F x0 x1 x2 x3 x4 x5 x6 x7 x8 x9).bind (fun y=>k 0 [.L y])) ds) ds) ds) ds) ds) ds) ds) ds) ds) ds) ds⟩
theorem q_Z75 (F:T_Z75) (x0 x1 x2 x3 x4:List D) (x5 x6 x7 x8:Int) (x9:List D):runLoop (ocOf []) (olOf [m_Z75 F,e_Z74]) A 88 (codeAt (bodyOf Try.f88) 4) ((m_Z75 F).sh.mk' [.L x0,.L x1,.L x2,.L x3,.L x4,.I x5,.I x6,.I x7,.I x8,.L x9]) (fun e σ'=>some (e,σ'))=c_Z75 F x0 x1 x2 x3 x4 x5 x6 x7 x8 x9 (fun y=>some (.exit 0,SSt.mk' ⟨(uu 5 (.full 1000 [] (.int .i64)::uu 63 ([]))),[(1000,.own (.int .i64))]⟩ [.L y])):=by kernel_rfl
theorem m_Z75_ok:∀ n,(m_Z75 (n_Z75 n)).ok Try.prog (codeAt (bodyOf Try.f88) 4):=by
 intro n
 induction n with
 | zero=>
  intro R ds k r h
  unfold m_Z75 at h
  obtain ⟨_,_,rfl,h⟩:=dL_some h
  obtain ⟨_,_,rfl,h⟩:=dL_some h
  obtain ⟨_,_,rfl,h⟩:=dL_some h
  obtain ⟨_,_,rfl,h⟩:=dL_some h
  obtain ⟨_,_,rfl,h⟩:=dL_some h
  obtain ⟨_,_,rfl,h⟩:=dI_some h
  obtain ⟨_,_,rfl,h⟩:=dI_some h
  obtain ⟨_,_,rfl,h⟩:=dI_some h
  obtain ⟨_,_,rfl,h⟩:=dI_some h
  obtain ⟨_,_,rfl,h⟩:=dL_some h
  obtain ⟨rfl,hE⟩:=dE_some h
  obtain ⟨y,hy,hk⟩:=bnd_some hE
  cases hy
 | succ n ih=>
  intro R ds k r h
  unfold m_Z75 at h
  obtain ⟨_,_,rfl,h⟩:=dL_some h
  obtain ⟨_,_,rfl,h⟩:=dL_some h
  obtain ⟨_,_,rfl,h⟩:=dL_some h
  obtain ⟨_,_,rfl,h⟩:=dL_some h
  obtain ⟨_,_,rfl,h⟩:=dL_some h
  obtain ⟨_,_,rfl,h⟩:=dI_some h
  obtain ⟨_,_,rfl,h⟩:=dI_some h
  obtain ⟨_,_,rfl,h⟩:=dI_some h
  obtain ⟨_,_,rfl,h⟩:=dI_some h
  obtain ⟨_,_,rfl,h⟩:=dL_some h
  obtain ⟨rfl,hE⟩:=dE_some h
  obtain ⟨y,hy,hk⟩:=bnd_some hE
  exact ⟨0,_,_,_,hk,rfl,loop_ok px (fx:=⟨Try.func88,by kernel_rfl,by kernel_rfl⟩) entsOK_nil (lentsOK_cons ih (lentsOK_cons e_Z74_ok lentsOK_nil)) (by kernel_rfl) ((q_Z75 ..).trans ((c_Z75_bind ..).trans (bnd_to hy)))⟩
noncomputable def e_Z75:Lent:=m_Z75 (Z75)
theorem e_Z75_ok:(e_Z75).ok Try.prog (codeAt (bodyOf Try.f88) 4):=by
 intro R ds k r h
 unfold e_Z75 m_Z75 at h
 obtain ⟨_,_,rfl,h⟩:=dL_some h
 obtain ⟨_,_,rfl,h⟩:=dL_some h
 obtain ⟨_,_,rfl,h⟩:=dL_some h
 obtain ⟨_,_,rfl,h⟩:=dL_some h
 obtain ⟨_,_,rfl,h⟩:=dL_some h
 obtain ⟨_,_,rfl,h⟩:=dI_some h
 obtain ⟨_,_,rfl,h⟩:=dI_some h
 obtain ⟨_,_,rfl,h⟩:=dI_some h
 obtain ⟨_,_,rfl,h⟩:=dI_some h
 obtain ⟨_,_,rfl,h⟩:=dL_some h
 obtain ⟨rfl,hE⟩:=dE_some h
 obtain ⟨y,hy,hk⟩:=bnd_some hE
 obtain ⟨n,hn⟩:=ev_some hy
 exact m_Z75_ok n R _ k r ((bnd_to hn).trans hk)

/-!-/
def c_Z76 {R:Type} (x0 x1 x2 x3 x4:List D) (x5:Int) (k:List D→Option R):Option R:=
 (Z75 x0 x1 x2 x3 x4 x5 (0:Int) (↑x0.length:Int) (0:Int) []).bind (fun y0=>
 k y0)
theorem c_Z76_bind {R:Type} (x0 x1 x2 x3 x4:List D) (x5:Int) (k:List D→Option R):c_Z76 x0 x1 x2 x3 x4 x5 k=(c_Z76 x0 x1 x2 x3 x4 x5 some).bind k:=by
 unfold c_Z76
 repeat' first|exact bnd_tail|exact bnd_none|exact bnd_leaf|apply bnd_ite|apply bnd_cond|apply bnd_sum|(apply bnd_bind;intro _)|intro _
def Z76 (x0 x1 x2 x3 x4:List D) (x5:Int):Option (List D):=c_Z76 x0 x1 x2 x3 x4 x5 some
def e_Z76:Ent:=⟨88,[.rp (.agg [.rp (.agg [.rd (.int .i64),.rd (.slice (.bool)),.rd (.slice (.bool))]),.rd (.int .i64),.rd (.int .i64)]),.int .i64],[(.own (.int .i64),[.undef,.undef])],fun _ ds k=>dL (fun x0 ds=>dL (fun x1 ds=>dL (fun x2 ds=>dL (fun x3 ds=>dL (fun x4 ds=>dI (fun x5 ds=>dE ((Z76 x0 x1 x2 x3 x4 x5).bind (fun y=>k 0 [.L y])) ds) ds) ds) ds) ds) ds) ds⟩
theorem q_Z76 (x0 x1 x2 x3 x4:List D) (x5:Int):runFn (ocOf []) (olOf [e_Z75]) A 88 Try.f88 (Sh.mks e_Z76.sh [.L x0,.L x1,.L x2,.L x3,.L x4,.I x5]).1 (fun v os=>some (v,os))=c_Z76 x0 x1 x2 x3 x4 x5 (fun y=>retO e_Z76 0 [.L y]):=by kernel_rfl
theorem e_Z76_ok:e_Z76.ok Try.prog A:=by
 intro R ds k r h
 unfold e_Z76 at h
 obtain ⟨_,_,rfl,h⟩:=dL_some h
 obtain ⟨_,_,rfl,h⟩:=dL_some h
 obtain ⟨_,_,rfl,h⟩:=dL_some h
 obtain ⟨_,_,rfl,h⟩:=dL_some h
 obtain ⟨_,_,rfl,h⟩:=dL_some h
 obtain ⟨_,_,rfl,h⟩:=dI_some h
 obtain ⟨rfl,hE⟩:=dE_some h
 obtain ⟨y,hy,hk⟩:=bnd_some hE
 exact ⟨0,_,_,_,hk,rfl,fn_ok px (fx:=⟨Try.func88,by kernel_rfl,by kernel_rfl⟩) entsOK_nil (lentsOK_cons e_Z75_ok lentsOK_nil) ((q_Z76 ..).trans ((c_Z76_bind ..).trans (bnd_to hy)))⟩

/-!-/
def c_Z77 {R:Type} (x0 x1:List D) (x2:Int) (k:List D×Bool→Option R):Option R:=
 (Z73 x0 x1).bind (Sum.elim (fun y0=>
 bif !y0 then
 k ([],Bool.false)
 else
 none) (fun y1=>
 bif !y1.snd.snd.snd.snd.snd then
 k ([],Bool.false)
 else
 if (0:Int)≤(0:Int)∧(0:Int)<(↑y1.snd.snd.snd.snd.fst.length:Int) then
 if Int.toNat (0:Int)+(1:Nat)≤y1.snd.snd.snd.snd.fst.length then
 (Z35 x2 (0:Int) (IntKind.i64.wrap ((y1.snd.snd.snd.snd.fst.getD (Int.toNat (0:Int)) (D.int 0)).toInt - (1:Int)))).bind (fun y2=>
 bif !y2 then
 k ([],Bool.false)
 else
 (Z76 y1.fst y1.snd.fst y1.snd.snd.fst y1.snd.snd.snd.fst y1.snd.snd.snd.snd.fst x2).bind (fun y3=>
 k (y3,Bool.true)))
 else
 none
 else
 none))
theorem c_Z77_bind {R:Type} (x0 x1:List D) (x2:Int) (k:List D×Bool→Option R):c_Z77 x0 x1 x2 k=(c_Z77 x0 x1 x2 some).bind k:=by
 unfold c_Z77
 repeat' first|exact bnd_tail|exact bnd_none|exact bnd_leaf|apply bnd_ite|apply bnd_cond|apply bnd_sum|(apply bnd_bind;intro _)|intro _
def Z77 (x0 x1:List D) (x2:Int):Option (List D×Bool):=c_Z77 x0 x1 x2 some
def e_Z77:Ent:=⟨15,[.agg [.rd (.struct [.int .i64,.int .i64]),.rd (.struct [.int .i64,.int .i64])],.int .i64],[(.tup [.own (.int .i64),.bool],[.undef,.undef])],fun _ ds k=>dL (fun x0 ds=>dL (fun x1 ds=>dI (fun x2 ds=>dE ((Z77 x0 x1 x2).bind (fun y=>k 0 [.L y.1,.B y.2])) ds) ds) ds) ds⟩
theorem q_Z77 (x0 x1:List D) (x2:Int):runFn (ocOf [e_Z73,e_Z35,e_Z76]) (olOf []) A 15 Try.f15 (Sh.mks e_Z77.sh [.L x0,.L x1,.I x2]).1 (fun v os=>some (v,os))=c_Z77 x0 x1 x2 (fun y=>retO e_Z77 0 [.L y.1,.B y.2]):=by kernel_rfl
theorem e_Z77_ok:e_Z77.ok Try.prog A:=by
 intro R ds k r h
 unfold e_Z77 at h
 obtain ⟨_,_,rfl,h⟩:=dL_some h
 obtain ⟨_,_,rfl,h⟩:=dL_some h
 obtain ⟨_,_,rfl,h⟩:=dI_some h
 obtain ⟨rfl,hE⟩:=dE_some h
 obtain ⟨y,hy,hk⟩:=bnd_some hE
 exact ⟨0,_,_,_,hk,rfl,fn_ok px (fx:=⟨Try.func15,by kernel_rfl,by kernel_rfl⟩) (entsOK_cons e_Z73_ok (entsOK_cons e_Z35_ok (entsOK_cons e_Z76_ok entsOK_nil))) lentsOK_nil ((q_Z77 ..).trans ((c_Z77_bind ..).trans (bnd_to hy)))⟩

/-!-/
def c_Z78 {R:Type} (x0 x1:List D) (k:Int×Bool→Option R):Option R:=
 (Z73 x0 x1).bind (Sum.elim (fun y0=>
 bif !y0 then
 k ((0:Int),Bool.false)
 else
 none) (fun y1=>
 bif !y1.snd.snd.snd.snd.snd then
 k ((0:Int),Bool.false)
 else
 if (0:Int)≤(0:Int)∧(0:Int)<(↑y1.snd.snd.snd.snd.fst.length:Int) then
 if Int.toNat (0:Int)+(1:Nat)≤y1.snd.snd.snd.snd.fst.length then
 k ((y1.snd.snd.snd.snd.fst.getD (Int.toNat (0:Int)) (D.int 0)).toInt,Bool.true)
 else
 none
 else
 none))
theorem c_Z78_bind {R:Type} (x0 x1:List D) (k:Int×Bool→Option R):c_Z78 x0 x1 k=(c_Z78 x0 x1 some).bind k:=by
 unfold c_Z78
 repeat' first|exact bnd_tail|exact bnd_none|exact bnd_leaf|apply bnd_ite|apply bnd_cond|apply bnd_sum|(apply bnd_bind;intro _)|intro _
def Z78 (x0 x1:List D):Option (Int×Bool):=c_Z78 x0 x1 some
def e_Z78:Ent:=⟨16,[.agg [.rd (.struct [.int .i64,.int .i64]),.rd (.struct [.int .i64,.int .i64])]],[(.tup [.int .i64,.bool],[.undef])],fun _ ds k=>dL (fun x0 ds=>dL (fun x1 ds=>dE ((Z78 x0 x1).bind (fun y=>k 0 [.I y.1,.B y.2])) ds) ds) ds⟩
theorem q_Z78 (x0 x1:List D):runFn (ocOf [e_Z73]) (olOf []) A 16 Try.f16 (Sh.mks e_Z78.sh [.L x0,.L x1]).1 (fun v os=>some (v,os))=c_Z78 x0 x1 (fun y=>retO e_Z78 0 [.I y.1,.B y.2]):=by kernel_rfl
theorem e_Z78_ok:e_Z78.ok Try.prog A:=by
 intro R ds k r h
 unfold e_Z78 at h
 obtain ⟨_,_,rfl,h⟩:=dL_some h
 obtain ⟨_,_,rfl,h⟩:=dL_some h
 obtain ⟨rfl,hE⟩:=dE_some h
 obtain ⟨y,hy,hk⟩:=bnd_some hE
 exact ⟨0,_,_,_,hk,rfl,fn_ok px (fx:=⟨Try.func16,by kernel_rfl,by kernel_rfl⟩) (entsOK_cons e_Z73_ok entsOK_nil) lentsOK_nil ((q_Z78 ..).trans ((c_Z78_bind ..).trans (bnd_to hy)))⟩

/-!-/
def c_Z79 {R:Type} (x0 x1 x2:Int) (k:Bool→Option R):Option R:=
 bif decide (x1≤x0) then
 k (decide (x0≤x2))
 else
 k Bool.false
theorem c_Z79_bind {R:Type} (x0 x1 x2:Int) (k:Bool→Option R):c_Z79 x0 x1 x2 k=(c_Z79 x0 x1 x2 some).bind k:=by
 unfold c_Z79
 repeat' first|exact bnd_tail|exact bnd_none|exact bnd_leaf|apply bnd_ite|apply bnd_cond|apply bnd_sum|(apply bnd_bind;intro _)|intro _
def Z79 (x0 x1 x2:Int):Option (Bool):=c_Z79 x0 x1 x2 some
def e_Z79:Ent:=⟨108,[.int .i64,.int .i64,.int .i64],[(.bool,[.undef,.undef,.undef])],fun _ ds k=>dI (fun x0 ds=>dI (fun x1 ds=>dI (fun x2 ds=>dE ((Z79 x0 x1 x2).bind (fun y=>k 0 [.B y])) ds) ds) ds) ds⟩
theorem q_Z79 (x0 x1 x2:Int):runFn (ocOf []) (olOf []) A 108 Try.f108 (Sh.mks e_Z79.sh [.I x0,.I x1,.I x2]).1 (fun v os=>some (v,os))=c_Z79 x0 x1 x2 (fun y=>retO e_Z79 0 [.B y]):=by kernel_rfl
theorem e_Z79_ok:e_Z79.ok Try.prog A:=by
 intro R ds k r h
 unfold e_Z79 at h
 obtain ⟨_,_,rfl,h⟩:=dI_some h
 obtain ⟨_,_,rfl,h⟩:=dI_some h
 obtain ⟨_,_,rfl,h⟩:=dI_some h
 obtain ⟨rfl,hE⟩:=dE_some h
 obtain ⟨y,hy,hk⟩:=bnd_some hE
 exact ⟨0,_,_,_,hk,rfl,fn_ok px (fx:=⟨Try.func108,by kernel_rfl,by kernel_rfl⟩) entsOK_nil lentsOK_nil ((q_Z79 ..).trans ((c_Z79_bind ..).trans (bnd_to hy)))⟩

/-!-/
abbrev T_Z80:=Int→List D→List D→Option ((Bool×List D×List D)⊕(List D×List D))
def c_Z80 {R:Type} (F:T_Z80) (x0:Int) (x1 x2:List D) (k:(Bool×List D×List D)⊕(List D×List D)→Option R):Option R:=
 bif decide (x0<(↑x1.length:Int)) then
 if 0≤x0∧x0<(↑x1.length:Int) then
 (Z79 (((x1.getD x0.toNat (D.int 0)).fld (0:Nat)).toInt) (1:Int) (999:Int)).bind (fun y0=>
 bif !y0 then
 k (.inl (Bool.false,x1,x2))
 else
 (Z79 (((x1.getD x0.toNat (D.int 0)).fld (1:Nat)).toInt) (1:Int) (4:Int)).bind (fun y1=>
 bif !y1 then
 k (.inl (Bool.false,x1,x2))
 else
 bif decide ((0:Int)<x0) then
 if (0:Int)≤IntKind.i64.wrap (x0 - 1)∧IntKind.i64.wrap (x0 - 1)<(↑x1.length:Int) then
 bif decide (((x1.getD x0.toNat (D.int 0)).fld (0:Nat)).toInt≤((x1.getD (IntKind.i64.wrap (x0 - 1)).toNat (D.int 0)).fld (0:Nat)).toInt) then
 k (.inl (Bool.false,x1,x2))
 else
 (F (IntKind.i64.wrap (x0+1)) x1 x2).bind k
 else
 none
 else
 (F (IntKind.i64.wrap (x0+1)) x1 x2).bind k))
 else
 none
 else
 k (.inr (x1,x2))
theorem c_Z80_bind {R:Type} (F:T_Z80) (x0:Int) (x1 x2:List D) (k:(Bool×List D×List D)⊕(List D×List D)→Option R):c_Z80 F x0 x1 x2 k=(c_Z80 F x0 x1 x2 some).bind k:=by
 unfold c_Z80
 repeat' first|exact bnd_tail|exact bnd_none|exact bnd_leaf|apply bnd_ite|apply bnd_cond|apply bnd_sum|(apply bnd_bind;intro _)|intro _
def n_Z80:Nat→T_Z80
 | 0,_,_,_=>none
 | n+1,x0,x1,x2=>c_Z80 (n_Z80 n) x0 x1 x2 some
noncomputable def Z80 (x0:Int) (x1 x2:List D):Option ((Bool×List D×List D)⊕(List D×List D)):=ev (fun n=>n_Z80 n x0 x1 x2)
def m_Z80 (F:T_Z80):Lent:=⟨4,⟨(.undef::.ptr 1000 [0]::.undef::.int .i64::uu 97 ([])),[(1000,.obox (.agg [.rd (.struct [.int .i64,.int .i64]),.rd (.struct [.int .i64,.int .i64])]))]⟩,[(.ret,⟨(.undef::.ptr 1000 [0]::.bool::uu 98 ([])),[(1000,.obox (.agg [.rd (.struct [.int .i64,.int .i64]),.rd (.struct [.int .i64,.int .i64])]))]⟩),(.exit 0,⟨(.undef::.ptr 1000 [0]::uu 99 ([])),[(1000,.obox (.agg [.rd (.struct [.int .i64,.int .i64]),.rd (.struct [.int .i64,.int .i64])]))]⟩)],fun _ ds k=>dI (fun x0 ds=>dL (fun x1 ds=>dL (fun x2 ds=>dE ((F x0 x1 x2).bind (Sum.elim (fun y=>k 0 [.B y.1,.L y.2.1,.L y.2.2]) (fun y=>k 1 [.L y.1,.L y.2]))) ds) ds) ds) ds⟩
theorem q_Z80 (F:T_Z80) (x0:Int) (x1 x2:List D):runLoop (ocOf [e_Z79]) (olOf [m_Z80 F]) A 100 (codeAt (bodyOf Try.f100) 4) ((m_Z80 F).sh.mk' [.I x0,.L x1,.L x2]) (fun e σ'=>some (e,σ'))=c_Z80 F x0 x1 x2 (Sum.elim (fun y=>some (.ret,SSt.mk' ⟨(.undef::.ptr 1000 [0]::.bool::uu 98 ([])),[(1000,.obox (.agg [.rd (.struct [.int .i64,.int .i64]),.rd (.struct [.int .i64,.int .i64])]))]⟩ [.B y.1,.L y.2.1,.L y.2.2])) (fun y=>some (.exit 0,SSt.mk' ⟨(.undef::.ptr 1000 [0]::uu 99 ([])),[(1000,.obox (.agg [.rd (.struct [.int .i64,.int .i64]),.rd (.struct [.int .i64,.int .i64])]))]⟩ [.L y.1,.L y.2]))):=by kernel_rfl
theorem m_Z80_ok:∀ n,(m_Z80 (n_Z80 n)).ok Try.prog (codeAt (bodyOf Try.f100) 4):=by
 intro n
 induction n with
 | zero=>
  intro R ds k r h
  unfold m_Z80 at h
  obtain ⟨_,_,rfl,h⟩:=dI_some h
  obtain ⟨_,_,rfl,h⟩:=dL_some h
  obtain ⟨_,_,rfl,h⟩:=dL_some h
  obtain ⟨rfl,hE⟩:=dE_some h
  obtain ⟨y,hy,hk⟩:=bnd_some hE
  cases hy
 | succ n ih=>
  intro R ds k r h
  unfold m_Z80 at h
  obtain ⟨_,_,rfl,h⟩:=dI_some h
  obtain ⟨_,_,rfl,h⟩:=dL_some h
  obtain ⟨_,_,rfl,h⟩:=dL_some h
  obtain ⟨rfl,hE⟩:=dE_some h
  obtain ⟨y,hy,hk⟩:=bnd_some hE
  cases y with
  | inl y=>
   exact ⟨0,_,_,_,hk,rfl,loop_ok px (fx:=⟨Try.func100,by kernel_rfl,by kernel_rfl⟩) (entsOK_cons e_Z79_ok entsOK_nil) (lentsOK_cons ih lentsOK_nil) (by kernel_rfl) ((q_Z80 ..).trans ((c_Z80_bind ..).trans (bnd_to hy)))⟩
  | inr y=>
   exact ⟨1,_,_,_,hk,rfl,loop_ok px (fx:=⟨Try.func100,by kernel_rfl,by kernel_rfl⟩) (entsOK_cons e_Z79_ok entsOK_nil) (lentsOK_cons ih lentsOK_nil) (by kernel_rfl) ((q_Z80 ..).trans ((c_Z80_bind ..).trans (bnd_to hy)))⟩
noncomputable def e_Z80:Lent:=m_Z80 (Z80)
theorem e_Z80_ok:(e_Z80).ok Try.prog (codeAt (bodyOf Try.f100) 4):=by
 intro R ds k r h
 unfold e_Z80 m_Z80 at h
 obtain ⟨_,_,rfl,h⟩:=dI_some h
 obtain ⟨_,_,rfl,h⟩:=dL_some h
 obtain ⟨_,_,rfl,h⟩:=dL_some h
 obtain ⟨rfl,hE⟩:=dE_some h
 obtain ⟨y,hy,hk⟩:=bnd_some hE
 obtain ⟨n,hn⟩:=ev_some hy
 exact m_Z80_ok n R _ k r ((bnd_to hn).trans hk)

/-!-/
abbrev T_Z81:=Int→List D→List D→Option ((Bool)⊕(Unit))
def c_Z81 {R:Type} (F:T_Z81) (x0:Int) (x1 x2:List D) (k:(Bool)⊕(Unit)→Option R):Option R:=
 bif decide (x0<(↑x2.length:Int)) then
 if 0≤x0∧x0<(↑x2.length:Int) then
 bif decide (((x2.getD x0.toNat (D.int 0)).fld (0:Nat)).toInt=((x2.getD x0.toNat (D.int 0)).fld (1:Nat)).toInt) then
 k (.inl Bool.false)
 else
 (Z24 x1 x2 (((x2.getD x0.toNat (D.int 0)).fld (0:Nat)).toInt)).bind (fun y0=>
 bif decide (y0<(0:Int)) then
 k (.inl Bool.false)
 else
 (Z24 x1 x2 (((x2.getD x0.toNat (D.int 0)).fld (1:Nat)).toInt)).bind (fun y1=>
 bif decide (y1<(0:Int)) then
 k (.inl Bool.false)
 else
 bif decide ((0:Int)<x0) then
 if (0:Int)≤IntKind.i64.wrap (x0 - 1)∧IntKind.i64.wrap (x0 - 1)<(↑x2.length:Int) then
 (Z6 (((x2.getD (IntKind.i64.wrap (x0 - 1)).toNat (D.int 0)).fld (0:Nat)).toInt) (((x2.getD (IntKind.i64.wrap (x0 - 1)).toNat (D.int 0)).fld (1:Nat)).toInt) (((x2.getD x0.toNat (D.int 0)).fld (0:Nat)).toInt) (((x2.getD x0.toNat (D.int 0)).fld (1:Nat)).toInt)).bind (fun y2=>
 bif !y2 then
 k (.inl Bool.false)
 else
 (F (IntKind.i64.wrap (x0+1)) x1 x2).bind k)
 else
 none
 else
 (F (IntKind.i64.wrap (x0+1)) x1 x2).bind k))
 else
 none
 else
 k (.inr ())
theorem c_Z81_bind {R:Type} (F:T_Z81) (x0:Int) (x1 x2:List D) (k:(Bool)⊕(Unit)→Option R):c_Z81 F x0 x1 x2 k=(c_Z81 F x0 x1 x2 some).bind k:=by
 unfold c_Z81
 repeat' first|exact bnd_tail|exact bnd_none|exact bnd_leaf|apply bnd_ite|apply bnd_cond|apply bnd_sum|(apply bnd_bind;intro _)|intro _
def n_Z81:Nat→T_Z81
 | 0,_,_,_=>none
 | n+1,x0,x1,x2=>c_Z81 (n_Z81 n) x0 x1 x2 some
noncomputable def Z81 (x0:Int) (x1 x2:List D):Option ((Bool)⊕(Unit)):=ev (fun n=>n_Z81 n x0 x1 x2)
def m_Z81 (F:T_Z81):Lent:=⟨10,⟨(.undef::.ptr 1000 [0]::.undef::.undef::.undef::.int .i64::uu 95 ([])),[(1000,.obox (.agg [.rd (.struct [.int .i64,.int .i64]),.rd (.struct [.int .i64,.int .i64])]))]⟩,[(.ret,⟨(.undef::.undef::.bool::uu 98 ([])),[]⟩),(.exit 2,⟨(uu 101 ([])),[]⟩)],fun _ ds k=>dI (fun x0 ds=>dL (fun x1 ds=>dL (fun x2 ds=>dE ((F x0 x1 x2).bind (Sum.elim (fun y=>k 0 [.B y]) (fun y=>k 1 []))) ds) ds) ds) ds⟩
theorem q_Z81 (F:T_Z81) (x0:Int) (x1 x2:List D):runLoop (ocOf [e_Z24,e_Z6]) (olOf [m_Z81 F]) A 100 (codeAt (bodyOf Try.f100) 10) ((m_Z81 F).sh.mk' [.I x0,.L x1,.L x2]) (fun e σ'=>some (e,σ'))=c_Z81 F x0 x1 x2 (Sum.elim (fun y=>some (.ret,SSt.mk' ⟨(.undef::.undef::.bool::uu 98 ([])),[]⟩ [.B y])) (fun y=>some (.exit 2,SSt.mk' ⟨(uu 101 ([])),[]⟩ []))):=by kernel_rfl
theorem m_Z81_ok:∀ n,(m_Z81 (n_Z81 n)).ok Try.prog (codeAt (bodyOf Try.f100) 10):=by
 intro n
 induction n with
 | zero=>
  intro R ds k r h
  unfold m_Z81 at h
  obtain ⟨_,_,rfl,h⟩:=dI_some h
  obtain ⟨_,_,rfl,h⟩:=dL_some h
  obtain ⟨_,_,rfl,h⟩:=dL_some h
  obtain ⟨rfl,hE⟩:=dE_some h
  obtain ⟨y,hy,hk⟩:=bnd_some hE
  cases hy
 | succ n ih=>
  intro R ds k r h
  unfold m_Z81 at h
  obtain ⟨_,_,rfl,h⟩:=dI_some h
  obtain ⟨_,_,rfl,h⟩:=dL_some h
  obtain ⟨_,_,rfl,h⟩:=dL_some h
  obtain ⟨rfl,hE⟩:=dE_some h
  obtain ⟨y,hy,hk⟩:=bnd_some hE
  cases y with
  | inl y=>
   exact ⟨0,_,_,_,hk,rfl,loop_ok px (fx:=⟨Try.func100,by kernel_rfl,by kernel_rfl⟩) (entsOK_cons e_Z24_ok (entsOK_cons e_Z6_ok entsOK_nil)) (lentsOK_cons ih lentsOK_nil) (by kernel_rfl) ((q_Z81 ..).trans ((c_Z81_bind ..).trans (bnd_to hy)))⟩
  | inr y=>
   exact ⟨1,_,_,_,hk,rfl,loop_ok px (fx:=⟨Try.func100,by kernel_rfl,by kernel_rfl⟩) (entsOK_cons e_Z24_ok (entsOK_cons e_Z6_ok entsOK_nil)) (lentsOK_cons ih lentsOK_nil) (by kernel_rfl) ((q_Z81 ..).trans ((c_Z81_bind ..).trans (bnd_to hy)))⟩
noncomputable def e_Z81:Lent:=m_Z81 (Z81)
theorem e_Z81_ok:(e_Z81).ok Try.prog (codeAt (bodyOf Try.f100) 10):=by
 intro R ds k r h
 unfold e_Z81 m_Z81 at h
 obtain ⟨_,_,rfl,h⟩:=dI_some h
 obtain ⟨_,_,rfl,h⟩:=dL_some h
 obtain ⟨_,_,rfl,h⟩:=dL_some h
 obtain ⟨rfl,hE⟩:=dE_some h
 obtain ⟨y,hy,hk⟩:=bnd_some hE
 obtain ⟨n,hn⟩:=ev_some hy
 exact m_Z81_ok n R _ k r ((bnd_to hn).trans hk)

/-!-/
def c_Z82 {R:Type} (x0 x1:List D) (k:Bool→Option R):Option R:=
 bif decide ((10:Int)<(↑x0.length:Int)) then
 k Bool.false
 else
 bif decide ((24:Int)<(↑x1.length:Int)) then
 k Bool.false
 else
 (Z80 (0:Int) x0 x1).bind (Sum.elim (fun y0=>
 k y0.fst) (fun y1=>
 (Z81 (0:Int) y1.fst y1.snd).bind (Sum.elim (fun y2=>
 k y2) (fun y3=>
 k Bool.true))))
theorem c_Z82_bind {R:Type} (x0 x1:List D) (k:Bool→Option R):c_Z82 x0 x1 k=(c_Z82 x0 x1 some).bind k:=by
 unfold c_Z82
 repeat' first|exact bnd_tail|exact bnd_none|exact bnd_leaf|apply bnd_ite|apply bnd_cond|apply bnd_sum|(apply bnd_bind;intro _)|intro _
def Z82 (x0 x1:List D):Option (Bool):=c_Z82 x0 x1 some
def e_Z82:Ent:=⟨100,[.agg [.rd (.struct [.int .i64,.int .i64]),.rd (.struct [.int .i64,.int .i64])]],[(.bool,[.undef])],fun _ ds k=>dL (fun x0 ds=>dL (fun x1 ds=>dE ((Z82 x0 x1).bind (fun y=>k 0 [.B y])) ds) ds) ds⟩
theorem q_Z82 (x0 x1:List D):runFn (ocOf []) (olOf [e_Z80,e_Z81]) A 100 Try.f100 (Sh.mks e_Z82.sh [.L x0,.L x1]).1 (fun v os=>some (v,os))=c_Z82 x0 x1 (fun y=>retO e_Z82 0 [.B y]):=by kernel_rfl
theorem e_Z82_ok:e_Z82.ok Try.prog A:=by
 intro R ds k r h
 unfold e_Z82 at h
 obtain ⟨_,_,rfl,h⟩:=dL_some h
 obtain ⟨_,_,rfl,h⟩:=dL_some h
 obtain ⟨rfl,hE⟩:=dE_some h
 obtain ⟨y,hy,hk⟩:=bnd_some hE
 exact ⟨0,_,_,_,hk,rfl,fn_ok px (fx:=⟨Try.func100,by kernel_rfl,by kernel_rfl⟩) entsOK_nil (lentsOK_cons e_Z80_ok (lentsOK_cons e_Z81_ok lentsOK_nil)) ((q_Z82 ..).trans ((c_Z82_bind ..).trans (bnd_to hy)))⟩

/-!-/
def c_Z83 {R:Type} (x0 x1:List D) (k:Bool→Option R):Option R:=
 (Z82 x0 x1).bind (fun y0=>
 bif y0 then
 (Z31 x0 x1).bind (fun y1=>
 k y1)
 else
 k Bool.false)
theorem c_Z83_bind {R:Type} (x0 x1:List D) (k:Bool→Option R):c_Z83 x0 x1 k=(c_Z83 x0 x1 some).bind k:=by
 unfold c_Z83
 repeat' first|exact bnd_tail|exact bnd_none|exact bnd_leaf|apply bnd_ite|apply bnd_cond|apply bnd_sum|(apply bnd_bind;intro _)|intro _
def Z83 (x0 x1:List D):Option (Bool):=c_Z83 x0 x1 some
def e_Z83:Ent:=⟨89,[.agg [.rd (.struct [.int .i64,.int .i64]),.rd (.struct [.int .i64,.int .i64])]],[(.bool,[.undef])],fun _ ds k=>dL (fun x0 ds=>dL (fun x1 ds=>dE ((Z83 x0 x1).bind (fun y=>k 0 [.B y])) ds) ds) ds⟩
theorem q_Z83 (x0 x1:List D):runFn (ocOf [e_Z82,e_Z31]) (olOf []) A 89 Try.f89 (Sh.mks e_Z83.sh [.L x0,.L x1]).1 (fun v os=>some (v,os))=c_Z83 x0 x1 (fun y=>retO e_Z83 0 [.B y]):=by kernel_rfl
theorem e_Z83_ok:e_Z83.ok Try.prog A:=by
 intro R ds k r h
 unfold e_Z83 at h
 obtain ⟨_,_,rfl,h⟩:=dL_some h
 obtain ⟨_,_,rfl,h⟩:=dL_some h
 obtain ⟨rfl,hE⟩:=dE_some h
 obtain ⟨y,hy,hk⟩:=bnd_some hE
 exact ⟨0,_,_,_,hk,rfl,fn_ok px (fx:=⟨Try.func89,by kernel_rfl,by kernel_rfl⟩) (entsOK_cons e_Z82_ok (entsOK_cons e_Z31_ok entsOK_nil)) lentsOK_nil ((q_Z83 ..).trans ((c_Z83_bind ..).trans (bnd_to hy)))⟩

/-!-/
abbrev T_Z84:=List D→Int→Int→Int→Option ((Bool)⊕(Unit))
def c_Z84 {R:Type} (F:T_Z84) (x0:List D) (x1 x2 x3:Int) (k:(Bool)⊕(Unit)→Option R):Option R:=
 bif decide (x3<(↑x0.length:Int)) then
 if 0≤x3∧x3<(↑x0.length:Int) then
 (Z29 ((x0.getD x3.toNat (D.int 0)).toInt) x2).bind (fun y0=>
 bif y0 then
 (Z29 x1 x3).bind (fun y1=>
 bif !y1 then
 k (.inl Bool.false)
 else
 (F x0 x1 x2 (IntKind.i64.wrap (x3+1))).bind k)
 else
 (F x0 x1 x2 (IntKind.i64.wrap (x3+1))).bind k)
 else
 none
 else
 k (.inr ())
theorem c_Z84_bind {R:Type} (F:T_Z84) (x0:List D) (x1 x2 x3:Int) (k:(Bool)⊕(Unit)→Option R):c_Z84 F x0 x1 x2 x3 k=(c_Z84 F x0 x1 x2 x3 some).bind k:=by
 unfold c_Z84
 repeat' first|exact bnd_tail|exact bnd_none|exact bnd_leaf|apply bnd_ite|apply bnd_cond|apply bnd_sum|(apply bnd_bind;intro _)|intro _
def n_Z84:Nat→T_Z84
 | 0,_,_,_,_=>none
 | n+1,x0,x1,x2,x3=>c_Z84 (n_Z84 n) x0 x1 x2 x3 some
noncomputable def Z84 (x0:List D) (x1 x2 x3:Int):Option ((Bool)⊕(Unit)):=ev (fun n=>n_Z84 n x0 x1 x2 x3)
def m_Z84 (F:T_Z84):Lent:=⟨4,⟨(.rd (.int .i64)::.int .i64::.int .i64::uu 4 (.int .i64::uu 21 ([]))),[]⟩,[(.ret,⟨(uu 6 (.bool::uu 22 ([]))),[]⟩),(.exit 0,⟨(uu 29 ([])),[]⟩)],fun _ ds k=>dL (fun x0 ds=>dI (fun x1 ds=>dI (fun x2 ds=>dI (fun x3 ds=>dE ((F x0 x1 x2 x3).bind (Sum.elim (fun y=>k 0 [.B y]) (fun y=>k 1 []))) ds) ds) ds) ds) ds⟩
theorem q_Z84 (F:T_Z84) (x0:List D) (x1 x2 x3:Int):runLoop (ocOf [e_Z29]) (olOf [m_Z84 F]) A 173 (codeAt (bodyOf Try.f173) 4) ((m_Z84 F).sh.mk' [.L x0,.I x1,.I x2,.I x3]) (fun e σ'=>some (e,σ'))=c_Z84 F x0 x1 x2 x3 (Sum.elim (fun y=>some (.ret,SSt.mk' ⟨(uu 6 (.bool::uu 22 ([]))),[]⟩ [.B y])) (fun y=>some (.exit 0,SSt.mk' ⟨(uu 29 ([])),[]⟩ []))):=by kernel_rfl
theorem m_Z84_ok:∀ n,(m_Z84 (n_Z84 n)).ok Try.prog (codeAt (bodyOf Try.f173) 4):=by
 intro n
 induction n with
 | zero=>
  intro R ds k r h
  unfold m_Z84 at h
  obtain ⟨_,_,rfl,h⟩:=dL_some h
  obtain ⟨_,_,rfl,h⟩:=dI_some h
  obtain ⟨_,_,rfl,h⟩:=dI_some h
  obtain ⟨_,_,rfl,h⟩:=dI_some h
  obtain ⟨rfl,hE⟩:=dE_some h
  obtain ⟨y,hy,hk⟩:=bnd_some hE
  cases hy
 | succ n ih=>
  intro R ds k r h
  unfold m_Z84 at h
  obtain ⟨_,_,rfl,h⟩:=dL_some h
  obtain ⟨_,_,rfl,h⟩:=dI_some h
  obtain ⟨_,_,rfl,h⟩:=dI_some h
  obtain ⟨_,_,rfl,h⟩:=dI_some h
  obtain ⟨rfl,hE⟩:=dE_some h
  obtain ⟨y,hy,hk⟩:=bnd_some hE
  cases y with
  | inl y=>
   exact ⟨0,_,_,_,hk,rfl,loop_ok px (fx:=⟨Try.func173,by kernel_rfl,by kernel_rfl⟩) (entsOK_cons e_Z29_ok entsOK_nil) (lentsOK_cons ih lentsOK_nil) (by kernel_rfl) ((q_Z84 ..).trans ((c_Z84_bind ..).trans (bnd_to hy)))⟩
  | inr y=>
   exact ⟨1,_,_,_,hk,rfl,loop_ok px (fx:=⟨Try.func173,by kernel_rfl,by kernel_rfl⟩) (entsOK_cons e_Z29_ok entsOK_nil) (lentsOK_cons ih lentsOK_nil) (by kernel_rfl) ((q_Z84 ..).trans ((c_Z84_bind ..).trans (bnd_to hy)))⟩
noncomputable def e_Z84:Lent:=m_Z84 (Z84)
theorem e_Z84_ok:(e_Z84).ok Try.prog (codeAt (bodyOf Try.f173) 4):=by
 intro R ds k r h
 unfold e_Z84 m_Z84 at h
 obtain ⟨_,_,rfl,h⟩:=dL_some h
 obtain ⟨_,_,rfl,h⟩:=dI_some h
 obtain ⟨_,_,rfl,h⟩:=dI_some h
 obtain ⟨_,_,rfl,h⟩:=dI_some h
 obtain ⟨rfl,hE⟩:=dE_some h
 obtain ⟨y,hy,hk⟩:=bnd_some hE
 obtain ⟨n,hn⟩:=ev_some hy
 exact m_Z84_ok n R _ k r ((bnd_to hn).trans hk)

/-!-/
def c_Z85 {R:Type} (x0:List D) (x1 x2:Int) (k:Bool→Option R):Option R:=
 (Z29 x1 x2).bind (fun y0=>
 bif y0 then
 k Bool.false
 else
 (Z84 x0 x1 x2 (0:Int)).bind (Sum.elim (fun y1=>
 k y1) (fun y2=>
 k Bool.true)))
theorem c_Z85_bind {R:Type} (x0:List D) (x1 x2:Int) (k:Bool→Option R):c_Z85 x0 x1 x2 k=(c_Z85 x0 x1 x2 some).bind k:=by
 unfold c_Z85
 repeat' first|exact bnd_tail|exact bnd_none|exact bnd_leaf|apply bnd_ite|apply bnd_cond|apply bnd_sum|(apply bnd_bind;intro _)|intro _
def Z85 (x0:List D) (x1 x2:Int):Option (Bool):=c_Z85 x0 x1 x2 some
def e_Z85:Ent:=⟨173,[.rd (.int .i64),.int .i64,.int .i64],[(.bool,[.undef,.undef,.undef])],fun _ ds k=>dL (fun x0 ds=>dI (fun x1 ds=>dI (fun x2 ds=>dE ((Z85 x0 x1 x2).bind (fun y=>k 0 [.B y])) ds) ds) ds) ds⟩
theorem q_Z85 (x0:List D) (x1 x2:Int):runFn (ocOf [e_Z29]) (olOf [e_Z84]) A 173 Try.f173 (Sh.mks e_Z85.sh [.L x0,.I x1,.I x2]).1 (fun v os=>some (v,os))=c_Z85 x0 x1 x2 (fun y=>retO e_Z85 0 [.B y]):=by kernel_rfl
theorem e_Z85_ok:e_Z85.ok Try.prog A:=by
 intro R ds k r h
 unfold e_Z85 at h
 obtain ⟨_,_,rfl,h⟩:=dL_some h
 obtain ⟨_,_,rfl,h⟩:=dI_some h
 obtain ⟨_,_,rfl,h⟩:=dI_some h
 obtain ⟨rfl,hE⟩:=dE_some h
 obtain ⟨y,hy,hk⟩:=bnd_some hE
 exact ⟨0,_,_,_,hk,rfl,fn_ok px (fx:=⟨Try.func173,by kernel_rfl,by kernel_rfl⟩) (entsOK_cons e_Z29_ok entsOK_nil) (lentsOK_cons e_Z84_ok lentsOK_nil) ((q_Z85 ..).trans ((c_Z85_bind ..).trans (bnd_to hy)))⟩

/-!-/
abbrev T_Z86:=List D→Int→Int→Int→List D→Option (List D×Int×Int×List D)
def c_Z86 {R:Type} (F:T_Z86) (x0:List D) (x1 x2 x3:Int) (x4:List D) (k:List D×Int×Int×List D→Option R):Option R:=
 bif decide (x3<x1) then
 (Z85 x0 x2 x3).bind (fun y0=>
 bif y0 then
 if 0≤x2∧x2<(↑x4.length:Int) then
 if x2.toNat+1≤x4.length then
 if (0:Int)≤IntKind.u64.wrap x3 then
 if (0:Int)≤IntKind.i64.wrap (↑(BitVec.ofInt IntKind.i64.bits x2 ||| BitVec.ofInt IntKind.i64.bits (IntKind.i64.wrap ((1:Int) * (2:Int) ^ Min.min (IntKind.u64.wrap x3).toNat IntKind.i64.bits))).toNat:Int)∧IntKind.i64.wrap (↑(BitVec.ofInt IntKind.i64.bits x2 ||| BitVec.ofInt IntKind.i64.bits (IntKind.i64.wrap ((1:Int) * (2:Int) ^ Min.min (IntKind.u64.wrap x3).toNat IntKind.i64.bits))).toNat:Int)<(↑x4.length:Int) then
 if (IntKind.i64.wrap (↑(BitVec.ofInt IntKind.i64.bits x2 ||| BitVec.ofInt IntKind.i64.bits (IntKind.i64.wrap ((1:Int) * (2:Int) ^ Min.min (IntKind.u64.wrap x3).toNat IntKind.i64.bits))).toNat:Int)).toNat+1≤x4.length then
 if 0≤x2∧x2<(↑x4.length:Int) then
 if x2.toNat+1≤x4.length then
 (F x0 x1 x2 (IntKind.i64.wrap (x3+1)) (x4.set x2.toNat (D.int (IntKind.i64.wrap ((x4.getD x2.toNat (D.int 0)).toInt+(x4.getD (IntKind.i64.wrap (↑(BitVec.ofInt IntKind.i64.bits x2 ||| BitVec.ofInt IntKind.i64.bits (IntKind.i64.wrap ((1:Int) * (2:Int) ^ Min.min (IntKind.u64.wrap x3).toNat IntKind.i64.bits))).toNat:Int)).toNat (D.int 0)).toInt))))).bind k
 else
 none
 else
 none
 else
 none
 else
 none
 else
 none
 else
 none
 else
 none
 else
 (F x0 x1 x2 (IntKind.i64.wrap (x3+1)) x4).bind k)
 else
 k (x0,x1,x2,x4)
theorem c_Z86_bind {R:Type} (F:T_Z86) (x0:List D) (x1 x2 x3:Int) (x4:List D) (k:List D×Int×Int×List D→Option R):c_Z86 F x0 x1 x2 x3 x4 k=(c_Z86 F x0 x1 x2 x3 x4 some).bind k:=by
 unfold c_Z86
 repeat' first|exact bnd_tail|exact bnd_none|exact bnd_leaf|apply bnd_ite|apply bnd_cond|apply bnd_sum|(apply bnd_bind;intro _)|intro _
def n_Z86:Nat→T_Z86
 | 0,_,_,_,_,_=>none
 | n+1,x0,x1,x2,x3,x4=>c_Z86 (n_Z86 n) x0 x1 x2 x3 x4 some
noncomputable def Z86 (x0:List D) (x1 x2 x3:Int) (x4:List D):Option (List D×Int×Int×List D):=ev (fun n=>n_Z86 n x0 x1 x2 x3 x4)
def m_Z86 (F:T_Z86):Lent:=⟨9,⟨(.rd (.int .i64)::.undef::.undef::.int .i64::.undef::.full 1000 [] (.int .i64)::.int .i64::.int .i64::uu 44 ([])),[(1000,.own (.int .i64))]⟩,[(.exit 2,⟨(.rd (.int .i64)::.undef::.undef::.int .i64::.undef::.full 1000 [] (.int .i64)::.int .i64::uu 45 ([])),[(1000,.own (.int .i64))]⟩)],fun _ ds k=>dL (fun x0 ds=>dI (fun x1 ds=>dI (fun x2 ds=>dI (fun x3 ds=>dL (fun x4 ds=>dE ((F x0 x1 x2 x3 x4).bind (fun y=>k 0 [.L y.1,.I y.2.1,.I y.2.2.1,.L y.2.2.2])) ds) ds) ds) ds) ds) ds⟩
theorem q_Z86 (F:T_Z86) (x0:List D) (x1 x2 x3:Int) (x4:List D):runLoop (ocOf [e_Z85]) (olOf [m_Z86 F]) A 90 (codeAt (bodyOf Try.f90) 9) ((m_Z86 F).sh.mk' [.L x0,.I x1,.I x2,.I x3,.L x4]) (fun e σ'=>some (e,σ'))=c_Z86 F x0 x1 x2 x3 x4 (fun y=>some (.exit 2,SSt.mk' ⟨(.rd (.int .i64)::.undef::.undef::.int .i64::.undef::.full 1000 [] (.int .i64)::.int .i64::uu 45 ([])),[(1000,.own (.int .i64))]⟩ [.L y.1,.I y.2.1,.I y.2.2.1,.L y.2.2.2])):=by kernel_rfl
theorem m_Z86_ok:∀ n,(m_Z86 (n_Z86 n)).ok Try.prog (codeAt (bodyOf Try.f90) 9):=by
 intro n
 induction n with
 | zero=>
  intro R ds k r h
  unfold m_Z86 at h
  obtain ⟨_,_,rfl,h⟩:=dL_some h
  obtain ⟨_,_,rfl,h⟩:=dI_some h
  obtain ⟨_,_,rfl,h⟩:=dI_some h
  obtain ⟨_,_,rfl,h⟩:=dI_some h
  obtain ⟨_,_,rfl,h⟩:=dL_some h
  obtain ⟨rfl,hE⟩:=dE_some h
  obtain ⟨y,hy,hk⟩:=bnd_some hE
  cases hy
 | succ n ih=>
  intro R ds k r h
  unfold m_Z86 at h
  obtain ⟨_,_,rfl,h⟩:=dL_some h
  obtain ⟨_,_,rfl,h⟩:=dI_some h
  obtain ⟨_,_,rfl,h⟩:=dI_some h
  obtain ⟨_,_,rfl,h⟩:=dI_some h
  obtain ⟨_,_,rfl,h⟩:=dL_some h
  obtain ⟨rfl,hE⟩:=dE_some h
  obtain ⟨y,hy,hk⟩:=bnd_some hE
  exact ⟨0,_,_,_,hk,rfl,loop_ok px (fx:=⟨Try.func90,by kernel_rfl,by kernel_rfl⟩) (entsOK_cons e_Z85_ok entsOK_nil) (lentsOK_cons ih lentsOK_nil) (by kernel_rfl) ((q_Z86 ..).trans ((c_Z86_bind ..).trans (bnd_to hy)))⟩
noncomputable def e_Z86:Lent:=m_Z86 (Z86)
theorem e_Z86_ok:(e_Z86).ok Try.prog (codeAt (bodyOf Try.f90) 9):=by
 intro R ds k r h
 unfold e_Z86 m_Z86 at h
 obtain ⟨_,_,rfl,h⟩:=dL_some h
 obtain ⟨_,_,rfl,h⟩:=dI_some h
 obtain ⟨_,_,rfl,h⟩:=dI_some h
 obtain ⟨_,_,rfl,h⟩:=dI_some h
 obtain ⟨_,_,rfl,h⟩:=dL_some h
 obtain ⟨rfl,hE⟩:=dE_some h
 obtain ⟨y,hy,hk⟩:=bnd_some hE
 obtain ⟨n,hn⟩:=ev_some hy
 exact m_Z86_ok n R _ k r ((bnd_to hn).trans hk)

/-!-/
abbrev T_Z87:=List D→Int→Int→List D→Option (List D)
def c_Z87 {R:Type} (F:T_Z87) (x0:List D) (x1 x2:Int) (x3:List D) (k:List D→Option R):Option R:=
 bif decide ((0:Int)≤x2) then
 (Z86 x0 x1 x2 (0:Int) x3).bind (fun y0=>
 (F y0.fst y0.snd.fst (IntKind.i64.wrap (y0.snd.snd.fst - 1)) y0.snd.snd.snd).bind k)
 else
 k x3
theorem c_Z87_bind {R:Type} (F:T_Z87) (x0:List D) (x1 x2:Int) (x3:List D) (k:List D→Option R):c_Z87 F x0 x1 x2 x3 k=(c_Z87 F x0 x1 x2 x3 some).bind k:=by
 unfold c_Z87
 repeat' first|exact bnd_tail|exact bnd_none|exact bnd_leaf|apply bnd_ite|apply bnd_cond|apply bnd_sum|(apply bnd_bind;intro _)|intro _
def n_Z87:Nat→T_Z87
 | 0,_,_,_,_=>none
 | n+1,x0,x1,x2,x3=>c_Z87 (n_Z87 n) x0 x1 x2 x3 some
noncomputable def Z87 (x0:List D) (x1 x2:Int) (x3:List D):Option (List D):=ev (fun n=>n_Z87 n x0 x1 x2 x3)
def m_Z87 (F:T_Z87):Lent:=⟨6,⟨(.rd (.int .i64)::.undef::.undef::.int .i64::.undef::.full 1000 [] (.int .i64)::.int .i64::uu 45 ([])),[(1000,.own (.int .i64))]⟩,[(.exit 0,⟨(uu 5 (.full 1000 [] (.int .i64)::uu 46 ([]))),[(1000,.own (.int .i64))]⟩)],fun _ ds k=>dL (fun x0 ds=>dI (fun x1 ds=>dI (fun x2 ds=>dL (fun x3 ds=>dE ((F x0 x1 x2 x3).bind (fun y=>k 0 [.L y])) ds) ds) ds) ds) ds⟩
theorem q_Z87 (F:T_Z87) (x0:List D) (x1 x2:Int) (x3:List D):runLoop (ocOf []) (olOf [m_Z87 F,e_Z86]) A 90 (codeAt (bodyOf Try.f90) 6) ((m_Z87 F).sh.mk' [.L x0,.I x1,.I x2,.L x3]) (fun e σ'=>some (e,σ'))=c_Z87 F x0 x1 x2 x3 (fun y=>some (.exit 0,SSt.mk' ⟨(uu 5 (.full 1000 [] (.int .i64)::uu 46 ([]))),[(1000,.own (.int .i64))]⟩ [.L y])):=by kernel_rfl
theorem m_Z87_ok:∀ n,(m_Z87 (n_Z87 n)).ok Try.prog (codeAt (bodyOf Try.f90) 6):=by
 intro n
 induction n with
 | zero=>
  intro R ds k r h
  unfold m_Z87 at h
  obtain ⟨_,_,rfl,h⟩:=dL_some h
  obtain ⟨_,_,rfl,h⟩:=dI_some h
  obtain ⟨_,_,rfl,h⟩:=dI_some h
  obtain ⟨_,_,rfl,h⟩:=dL_some h
  obtain ⟨rfl,hE⟩:=dE_some h
  obtain ⟨y,hy,hk⟩:=bnd_some hE
  cases hy
 | succ n ih=>
  intro R ds k r h
  unfold m_Z87 at h
  obtain ⟨_,_,rfl,h⟩:=dL_some h
  obtain ⟨_,_,rfl,h⟩:=dI_some h
  obtain ⟨_,_,rfl,h⟩:=dI_some h
  obtain ⟨_,_,rfl,h⟩:=dL_some h
  obtain ⟨rfl,hE⟩:=dE_some h
  obtain ⟨y,hy,hk⟩:=bnd_some hE
  exact ⟨0,_,_,_,hk,rfl,loop_ok px (fx:=⟨Try.func90,by kernel_rfl,by kernel_rfl⟩) entsOK_nil (lentsOK_cons ih (lentsOK_cons e_Z86_ok lentsOK_nil)) (by kernel_rfl) ((q_Z87 ..).trans ((c_Z87_bind ..).trans (bnd_to hy)))⟩
noncomputable def e_Z87:Lent:=m_Z87 (Z87)
theorem e_Z87_ok:(e_Z87).ok Try.prog (codeAt (bodyOf Try.f90) 6):=by
 intro R ds k r h
 unfold e_Z87 m_Z87 at h
 obtain ⟨_,_,rfl,h⟩:=dL_some h
 obtain ⟨_,_,rfl,h⟩:=dI_some h
 obtain ⟨_,_,rfl,h⟩:=dI_some h
 obtain ⟨_,_,rfl,h⟩:=dL_some h
 obtain ⟨rfl,hE⟩:=dE_some h
 obtain ⟨y,hy,hk⟩:=bnd_some hE
 obtain ⟨n,hn⟩:=ev_some hy
 exact m_Z87_ok n R _ k r ((bnd_to hn).trans hk)

/-!-/
def c_Z88 {R:Type} (x0:List D) (k:List D→Option R):Option R:=
 if (0:Int)≤IntKind.u64.wrap (↑x0.length:Int) then
 if (0:Int)≤IntKind.i64.wrap (IntKind.i64.wrap (IntKind.i64.wrap ((1:Int) * (2:Int) ^ Min.min (IntKind.u64.wrap (↑x0.length:Int)).toNat IntKind.i64.bits) - (1:Int))+(1:Int))∧IntKind.i64.wrap (IntKind.i64.wrap (IntKind.i64.wrap ((1:Int) * (2:Int) ^ Min.min (IntKind.u64.wrap (↑x0.length:Int)).toNat IntKind.i64.bits) - (1:Int))+(1:Int))≤IntKind.i64.wrap (IntKind.i64.wrap (IntKind.i64.wrap ((1:Int) * (2:Int) ^ Min.min (IntKind.u64.wrap (↑x0.length:Int)).toNat IntKind.i64.bits) - (1:Int))+(1:Int))∧IntKind.i64.wrap (IntKind.i64.wrap (IntKind.i64.wrap ((1:Int) * (2:Int) ^ Min.min (IntKind.u64.wrap (↑x0.length:Int)).toNat IntKind.i64.bits) - (1:Int))+(1:Int))≤(4294967296:Int) then
 if (0:Int)≤IntKind.i64.wrap (IntKind.i64.wrap ((1:Int) * (2:Int) ^ Min.min (IntKind.u64.wrap (↑x0.length:Int)).toNat IntKind.i64.bits) - (1:Int))∧IntKind.i64.wrap (IntKind.i64.wrap ((1:Int) * (2:Int) ^ Min.min (IntKind.u64.wrap (↑x0.length:Int)).toNat IntKind.i64.bits) - (1:Int))<(↑(List.replicate (IntKind.i64.wrap (IntKind.i64.wrap (IntKind.i64.wrap ((1:Int) * (2:Int) ^ Min.min (IntKind.u64.wrap (↑x0.length:Int)).toNat IntKind.i64.bits) - (1:Int))+(1:Int))).toNat (D.int 0)).length:Int) then
 if (IntKind.i64.wrap (IntKind.i64.wrap ((1:Int) * (2:Int) ^ Min.min (IntKind.u64.wrap (↑x0.length:Int)).toNat IntKind.i64.bits) - (1:Int))).toNat+1≤(List.replicate (IntKind.i64.wrap (IntKind.i64.wrap (IntKind.i64.wrap ((1:Int) * (2:Int) ^ Min.min (IntKind.u64.wrap (↑x0.length:Int)).toNat IntKind.i64.bits) - (1:Int))+(1:Int))).toNat (D.int 0)).length then
 (Z87 x0 (↑x0.length:Int) (IntKind.i64.wrap (IntKind.i64.wrap (IntKind.i64.wrap ((1:Int) * (2:Int) ^ Min.min (IntKind.u64.wrap (↑x0.length:Int)).toNat IntKind.i64.bits) - (1:Int)) - (1:Int))) ((List.replicate (IntKind.i64.wrap (IntKind.i64.wrap (IntKind.i64.wrap ((1:Int) * (2:Int) ^ Min.min (IntKind.u64.wrap (↑x0.length:Int)).toNat IntKind.i64.bits) - (1:Int))+(1:Int))).toNat (D.int 0)).set (IntKind.i64.wrap (IntKind.i64.wrap ((1:Int) * (2:Int) ^ Min.min (IntKind.u64.wrap (↑x0.length:Int)).toNat IntKind.i64.bits) - (1:Int))).toNat (D.int (1:Int)))).bind (fun y0=>
 k y0)
 else
 none
 else
 none
 else
 none
 else
 none
theorem c_Z88_bind {R:Type} (x0:List D) (k:List D→Option R):c_Z88 x0 k=(c_Z88 x0 some).bind k:=by
 unfold c_Z88
 repeat' first|exact bnd_tail|exact bnd_none|exact bnd_leaf|apply bnd_ite|apply bnd_cond|apply bnd_sum|(apply bnd_bind;intro _)|intro _
def Z88 (x0:List D):Option (List D):=c_Z88 x0 some
def e_Z88:Ent:=⟨90,[.rd (.int .i64)],[(.own (.int .i64),[.undef])],fun _ ds k=>dL (fun x0 ds=>dE ((Z88 x0).bind (fun y=>k 0 [.L y])) ds) ds⟩
theorem q_Z88 (x0:List D):runFn (ocOf []) (olOf [e_Z87]) A 90 Try.f90 (Sh.mks e_Z88.sh [.L x0]).1 (fun v os=>some (v,os))=c_Z88 x0 (fun y=>retO e_Z88 0 [.L y]):=by kernel_rfl
theorem e_Z88_ok:e_Z88.ok Try.prog A:=by
 intro R ds k r h
 unfold e_Z88 at h
 obtain ⟨_,_,rfl,h⟩:=dL_some h
 obtain ⟨rfl,hE⟩:=dE_some h
 obtain ⟨y,hy,hk⟩:=bnd_some hE
 exact ⟨0,_,_,_,hk,rfl,fn_ok px (fx:=⟨Try.func90,by kernel_rfl,by kernel_rfl⟩) entsOK_nil (lentsOK_cons e_Z87_ok lentsOK_nil) ((q_Z88 ..).trans ((c_Z88_bind ..).trans (bnd_to hy)))⟩

/-!-/
def c_Z89 {R:Type} (x0 x1:List D) (k:Int×Bool→Option R):Option R:=
 (Z83 x0 x1).bind (fun y0=>
 bif !y0 then
 k ((0:Int),Bool.false)
 else
 (Z28 x0 x1).bind (fun y1=>
 (Z88 y1).bind (fun y2=>
 if (0:Int)≤(0:Int)∧(0:Int)<(↑y2.length:Int) then
 if Int.toNat (0:Int)+(1:Nat)≤y2.length then
 k ((y2.getD (Int.toNat (0:Int)) (D.int 0)).toInt,Bool.true)
 else
 none
 else
 none)))
theorem c_Z89_bind {R:Type} (x0 x1:List D) (k:Int×Bool→Option R):c_Z89 x0 x1 k=(c_Z89 x0 x1 some).bind k:=by
 unfold c_Z89
 repeat' first|exact bnd_tail|exact bnd_none|exact bnd_leaf|apply bnd_ite|apply bnd_cond|apply bnd_sum|(apply bnd_bind;intro _)|intro _
def Z89 (x0 x1:List D):Option (Int×Bool):=c_Z89 x0 x1 some
def e_Z89:Ent:=⟨17,[.agg [.rd (.struct [.int .i64,.int .i64]),.rd (.struct [.int .i64,.int .i64])]],[(.tup [.int .i64,.bool],[.undef])],fun _ ds k=>dL (fun x0 ds=>dL (fun x1 ds=>dE ((Z89 x0 x1).bind (fun y=>k 0 [.I y.1,.B y.2])) ds) ds) ds⟩
theorem q_Z89 (x0 x1:List D):runFn (ocOf [e_Z83,e_Z28,e_Z88]) (olOf []) A 17 Try.f17 (Sh.mks e_Z89.sh [.L x0,.L x1]).1 (fun v os=>some (v,os))=c_Z89 x0 x1 (fun y=>retO e_Z89 0 [.I y.1,.B y.2]):=by kernel_rfl
theorem e_Z89_ok:e_Z89.ok Try.prog A:=by
 intro R ds k r h
 unfold e_Z89 at h
 obtain ⟨_,_,rfl,h⟩:=dL_some h
 obtain ⟨_,_,rfl,h⟩:=dL_some h
 obtain ⟨rfl,hE⟩:=dE_some h
 obtain ⟨y,hy,hk⟩:=bnd_some hE
 exact ⟨0,_,_,_,hk,rfl,fn_ok px (fx:=⟨Try.func17,by kernel_rfl,by kernel_rfl⟩) (entsOK_cons e_Z83_ok (entsOK_cons e_Z28_ok (entsOK_cons e_Z88_ok entsOK_nil))) lentsOK_nil ((q_Z89 ..).trans ((c_Z89_bind ..).trans (bnd_to hy)))⟩

/-!-/
abbrev T_Z90:=List D→Int→List D→Int→Int→Option (List D)
def c_Z90 {R:Type} (F:T_Z90) (x0:List D) (x1:Int) (x2:List D) (x3 x4:Int) (k:List D→Option R):Option R:=
 bif decide (x4<x3) then
 if 0≤x4∧x4<(↑x2.length:Int) then
 none
 else
 none
 else
 k x0
theorem c_Z90_bind {R:Type} (F:T_Z90) (x0:List D) (x1:Int) (x2:List D) (x3 x4:Int) (k:List D→Option R):c_Z90 F x0 x1 x2 x3 x4 k=(c_Z90 F x0 x1 x2 x3 x4 some).bind k:=by
 unfold c_Z90
 repeat' first|exact bnd_tail|exact bnd_none|exact bnd_leaf|apply bnd_ite|apply bnd_cond|apply bnd_sum|(apply bnd_bind;intro _)|intro _
def n_Z90:Nat→T_Z90
 | 0,_,_,_,_,_=>none
 | n+1,x0,x1,x2,x3,x4=>c_Z90 (n_Z90 n) x0 x1 x2 x3 x4 some
noncomputable def Z90 (x0:List D) (x1:Int) (x2:List D) (x3 x4:Int):Option (List D):=ev (fun n=>n_Z90 n x0 x1 x2 x3 x4)
def m_Z90 (F:T_Z90):Lent:=⟨3,⟨(.nilptr::.rd (.int .i64)::.undef::.undef::.undef::.int .i64::.undef::.undef::.undef::.rd (.int .i64)::.int .i64::.int .i64::uu 40 ([])),[]⟩,[(.exit 0,⟨(.nilptr::.rd (.int .i64)::uu 50 ([])),[]⟩)],fun _ ds k=>dL (fun x0 ds=>dI (fun x1 ds=>dL (fun x2 ds=>dI (fun x3 ds=>dI (fun x4 ds=>dE ((F x0 x1 x2 x3 x4).bind (fun y=>k 0 [.L y])) ds) ds) ds) ds) ds) ds⟩
theorem q_Z90 (F:T_Z90) (x0:List D) (x1:Int) (x2:List D) (x3 x4:Int):runLoop (ocOf []) (olOf [m_Z90 F]) A 92 (codeAt (bodyOf Try.f92) 3) ((m_Z90 F).sh.mk' [.L x0,.I x1,.L x2,.I x3,.I x4]) (fun e σ'=>some (e,σ'))=c_Z90 F x0 x1 x2 x3 x4 (fun y=>some (.exit 0,SSt.mk' ⟨(.nilptr::.rd (.int .i64)::uu 50 ([])),[]⟩ [.L y])):=by kernel_rfl
theorem m_Z90_ok:∀ n,(m_Z90 (n_Z90 n)).ok Try.prog (codeAt (bodyOf Try.f92) 3):=by
 intro n
 induction n with
 | zero=>
  intro R ds k r h
  unfold m_Z90 at h
  obtain ⟨_,_,rfl,h⟩:=dL_some h
  obtain ⟨_,_,rfl,h⟩:=dI_some h
  obtain ⟨_,_,rfl,h⟩:=dL_some h
  obtain ⟨_,_,rfl,h⟩:=dI_some h
  obtain ⟨_,_,rfl,h⟩:=dI_some h
  obtain ⟨rfl,hE⟩:=dE_some h
  obtain ⟨y,hy,hk⟩:=bnd_some hE
  cases hy
 | succ n ih=>
  intro R ds k r h
  unfold m_Z90 at h
  obtain ⟨_,_,rfl,h⟩:=dL_some h
  obtain ⟨_,_,rfl,h⟩:=dI_some h
  obtain ⟨_,_,rfl,h⟩:=dL_some h
  obtain ⟨_,_,rfl,h⟩:=dI_some h
  obtain ⟨_,_,rfl,h⟩:=dI_some h
  obtain ⟨rfl,hE⟩:=dE_some h
  obtain ⟨y,hy,hk⟩:=bnd_some hE
  exact ⟨0,_,_,_,hk,rfl,loop_ok px (fx:=⟨Try.func92,by kernel_rfl,by kernel_rfl⟩) entsOK_nil (lentsOK_cons ih lentsOK_nil) (by kernel_rfl) ((q_Z90 ..).trans ((c_Z90_bind ..).trans (bnd_to hy)))⟩
noncomputable def e_Z90:Lent:=m_Z90 (Z90)
theorem e_Z90_ok:(e_Z90).ok Try.prog (codeAt (bodyOf Try.f92) 3):=by
 intro R ds k r h
 unfold e_Z90 m_Z90 at h
 obtain ⟨_,_,rfl,h⟩:=dL_some h
 obtain ⟨_,_,rfl,h⟩:=dI_some h
 obtain ⟨_,_,rfl,h⟩:=dL_some h
 obtain ⟨_,_,rfl,h⟩:=dI_some h
 obtain ⟨_,_,rfl,h⟩:=dI_some h
 obtain ⟨rfl,hE⟩:=dE_some h
 obtain ⟨y,hy,hk⟩:=bnd_some hE
 obtain ⟨n,hn⟩:=ev_some hy
 exact m_Z90_ok n R _ k r ((bnd_to hn).trans hk)

/-!-/
def c_Z91 {R:Type} (x0:List D) (k:Bool→Option R):Option R:=
 (Z90 x0 (0:Int) x0 (↑x0.length:Int) (0:Int)).bind (fun y0=>
 none)
theorem c_Z91_bind {R:Type} (x0:List D) (k:Bool→Option R):c_Z91 x0 k=(c_Z91 x0 some).bind k:=by
 unfold c_Z91
 repeat' first|exact bnd_tail|exact bnd_none|exact bnd_leaf|apply bnd_ite|apply bnd_cond|apply bnd_sum|(apply bnd_bind;intro _)|intro _
def Z91 (x0:List D):Option (Bool):=c_Z91 x0 some
def e_Z91:Ent:=⟨92,[.nilptr,.rd (.int .i64)],[(.bool,[.undef,.undef])],fun _ ds k=>dL (fun x0 ds=>dE ((Z91 x0).bind (fun y=>k 0 [.B y])) ds) ds⟩
theorem q_Z91 (x0:List D):runFn (ocOf []) (olOf [e_Z90]) A 92 Try.f92 (Sh.mks e_Z91.sh [.L x0]).1 (fun v os=>some (v,os))=c_Z91 x0 (fun y=>retO e_Z91 0 [.B y]):=by kernel_rfl
theorem e_Z91_ok:e_Z91.ok Try.prog A:=by
 intro R ds k r h
 unfold e_Z91 at h
 obtain ⟨_,_,rfl,h⟩:=dL_some h
 obtain ⟨rfl,hE⟩:=dE_some h
 obtain ⟨y,hy,hk⟩:=bnd_some hE
 exact ⟨0,_,_,_,hk,rfl,fn_ok px (fx:=⟨Try.func92,by kernel_rfl,by kernel_rfl⟩) entsOK_nil (lentsOK_cons e_Z90_ok lentsOK_nil) ((q_Z91 ..).trans ((c_Z91_bind ..).trans (bnd_to hy)))⟩

/-!-/
abbrev T_Z92:=List D→Int→Int→Int→Option ((Int)⊕(Unit))
def c_Z92 {R:Type} (F:T_Z92) (x0:List D) (x1 x2 x3:Int) (k:(Int)⊕(Unit)→Option R):Option R:=
 bif decide (x3<x2) then
 if 0≤x3∧x3<(↑x0.length:Int) then
 bif decide (x1=(x0.getD x3.toNat (D.int 0)).toInt) then
 k (.inl x3)
 else
 (F x0 x1 x2 (IntKind.i64.wrap (x3+1))).bind k
 else
 none
 else
 k (.inr ())
theorem c_Z92_bind {R:Type} (F:T_Z92) (x0:List D) (x1 x2 x3:Int) (k:(Int)⊕(Unit)→Option R):c_Z92 F x0 x1 x2 x3 k=(c_Z92 F x0 x1 x2 x3 some).bind k:=by
 unfold c_Z92
 repeat' first|exact bnd_tail|exact bnd_none|exact bnd_leaf|apply bnd_ite|apply bnd_cond|apply bnd_sum|(apply bnd_bind;intro _)|intro _
def n_Z92:Nat→T_Z92
 | 0,_,_,_,_=>none
 | n+1,x0,x1,x2,x3=>c_Z92 (n_Z92 n) x0 x1 x2 x3 some
noncomputable def Z92 (x0:List D) (x1 x2 x3:Int):Option ((Int)⊕(Unit)):=ev (fun n=>n_Z92 n x0 x1 x2 x3)
def m_Z92 (F:T_Z92):Lent:=⟨2,⟨(.rd (.int .i64)::.int .i64::uu 5 (.int .i64::.int .i64::uu 10 ([]))),[]⟩,[(.ret,⟨(uu 4 (.int .i64::uu 14 ([]))),[]⟩),(.exit 0,⟨(uu 19 ([])),[]⟩)],fun _ ds k=>dL (fun x0 ds=>dI (fun x1 ds=>dI (fun x2 ds=>dI (fun x3 ds=>dE ((F x0 x1 x2 x3).bind (Sum.elim (fun y=>k 0 [.I y]) (fun y=>k 1 []))) ds) ds) ds) ds) ds⟩
theorem q_Z92 (F:T_Z92) (x0:List D) (x1 x2 x3:Int):runLoop (ocOf []) (olOf [m_Z92 F]) A 94 (codeAt (bodyOf Try.f94) 2) ((m_Z92 F).sh.mk' [.L x0,.I x1,.I x2,.I x3]) (fun e σ'=>some (e,σ'))=c_Z92 F x0 x1 x2 x3 (Sum.elim (fun y=>some (.ret,SSt.mk' ⟨(uu 4 (.int .i64::uu 14 ([]))),[]⟩ [.I y])) (fun y=>some (.exit 0,SSt.mk' ⟨(uu 19 ([])),[]⟩ []))):=by kernel_rfl
theorem m_Z92_ok:∀ n,(m_Z92 (n_Z92 n)).ok Try.prog (codeAt (bodyOf Try.f94) 2):=by
 intro n
 induction n with
 | zero=>
  intro R ds k r h
  unfold m_Z92 at h
  obtain ⟨_,_,rfl,h⟩:=dL_some h
  obtain ⟨_,_,rfl,h⟩:=dI_some h
  obtain ⟨_,_,rfl,h⟩:=dI_some h
  obtain ⟨_,_,rfl,h⟩:=dI_some h
  obtain ⟨rfl,hE⟩:=dE_some h
  obtain ⟨y,hy,hk⟩:=bnd_some hE
  cases hy
 | succ n ih=>
  intro R ds k r h
  unfold m_Z92 at h
  obtain ⟨_,_,rfl,h⟩:=dL_some h
  obtain ⟨_,_,rfl,h⟩:=dI_some h
  obtain ⟨_,_,rfl,h⟩:=dI_some h
  obtain ⟨_,_,rfl,h⟩:=dI_some h
  obtain ⟨rfl,hE⟩:=dE_some h
  obtain ⟨y,hy,hk⟩:=bnd_some hE
  cases y with
  | inl y=>
   exact ⟨0,_,_,_,hk,rfl,loop_ok px (fx:=⟨Try.func94,by kernel_rfl,by kernel_rfl⟩) entsOK_nil (lentsOK_cons ih lentsOK_nil) (by kernel_rfl) ((q_Z92 ..).trans ((c_Z92_bind ..).trans (bnd_to hy)))⟩
  | inr y=>
   exact ⟨1,_,_,_,hk,rfl,loop_ok px (fx:=⟨Try.func94,by kernel_rfl,by kernel_rfl⟩) entsOK_nil (lentsOK_cons ih lentsOK_nil) (by kernel_rfl) ((q_Z92 ..).trans ((c_Z92_bind ..).trans (bnd_to hy)))⟩
noncomputable def e_Z92:Lent:=m_Z92 (Z92)
theorem e_Z92_ok:(e_Z92).ok Try.prog (codeAt (bodyOf Try.f94) 2):=by
 intro R ds k r h
 unfold e_Z92 m_Z92 at h
 obtain ⟨_,_,rfl,h⟩:=dL_some h
 obtain ⟨_,_,rfl,h⟩:=dI_some h
 obtain ⟨_,_,rfl,h⟩:=dI_some h
 obtain ⟨_,_,rfl,h⟩:=dI_some h
 obtain ⟨rfl,hE⟩:=dE_some h
 obtain ⟨y,hy,hk⟩:=bnd_some hE
 obtain ⟨n,hn⟩:=ev_some hy
 exact m_Z92_ok n R _ k r ((bnd_to hn).trans hk)

/-!-/
def c_Z93 {R:Type} (x0:List D) (x1:Int) (k:Int→Option R):Option R:=
 (Z92 x0 x1 (↑x0.length:Int) (0:Int)).bind (Sum.elim (fun y0=>
 k y0) (fun y1=>
 k (-1:Int)))
theorem c_Z93_bind {R:Type} (x0:List D) (x1:Int) (k:Int→Option R):c_Z93 x0 x1 k=(c_Z93 x0 x1 some).bind k:=by
 unfold c_Z93
 repeat' first|exact bnd_tail|exact bnd_none|exact bnd_leaf|apply bnd_ite|apply bnd_cond|apply bnd_sum|(apply bnd_bind;intro _)|intro _
def Z93 (x0:List D) (x1:Int):Option (Int):=c_Z93 x0 x1 some
def e_Z93:Ent:=⟨94,[.rd (.int .i64),.int .i64],[(.int .i64,[.undef,.undef])],fun _ ds k=>dL (fun x0 ds=>dI (fun x1 ds=>dE ((Z93 x0 x1).bind (fun y=>k 0 [.I y])) ds) ds) ds⟩
theorem q_Z93 (x0:List D) (x1:Int):runFn (ocOf []) (olOf [e_Z92]) A 94 Try.f94 (Sh.mks e_Z93.sh [.L x0,.I x1]).1 (fun v os=>some (v,os))=c_Z93 x0 x1 (fun y=>retO e_Z93 0 [.I y]):=by kernel_rfl
theorem e_Z93_ok:e_Z93.ok Try.prog A:=by
 intro R ds k r h
 unfold e_Z93 at h
 obtain ⟨_,_,rfl,h⟩:=dL_some h
 obtain ⟨_,_,rfl,h⟩:=dI_some h
 obtain ⟨rfl,hE⟩:=dE_some h
 obtain ⟨y,hy,hk⟩:=bnd_some hE
 exact ⟨0,_,_,_,hk,rfl,fn_ok px (fx:=⟨Try.func94,by kernel_rfl,by kernel_rfl⟩) entsOK_nil (lentsOK_cons e_Z92_ok lentsOK_nil) ((q_Z93 ..).trans ((c_Z93_bind ..).trans (bnd_to hy)))⟩

/-!-/
abbrev T_Z94:=List D→List D→List D→List D→List D→List D→Int→List D→Int→Int→Option ((List D×List D×List D×List D×List D×List D×Bool)⊕(List D×List D×List D×List D×List D×List D))
def c_Z94 {R:Type} (F:T_Z94) (x0 x1 x2 x3 x4 x5:List D) (x6:Int) (x7:List D) (x8 x9:Int) (k:(List D×List D×List D×List D×List D×List D×Bool)⊕(List D×List D×List D×List D×List D×List D)→Option R):Option R:=
 bif decide (x9<x8) then
 if 0≤x9∧x9<(↑x7.length:Int) then
 (Z93 x0 ((x7.getD x9.toNat (D.int 0)).toInt)).bind (fun y0=>
 bif decide (y0<(0:Int)) then
 k (.inl (x0,x1,x2,x3,x4,x5,Bool.false))
 else
 (Z68 x0 x1 x2 x6 y0).bind (fun y1=>
 bif !y1 then
 k (.inl (x0,x1,x2,x3,x4,x5,Bool.false))
 else
 if (0:Int)≤y0 then
 (F x0 x1 x2 x3 x4 x5 (IntKind.i64.wrap (↑(BitVec.ofInt IntKind.i64.bits x6 ||| BitVec.ofInt IntKind.i64.bits (IntKind.i64.wrap ((1:Int) * (2:Int) ^ Min.min y0.toNat IntKind.i64.bits))).toNat:Int)) x7 x8 (IntKind.i64.wrap (x9+1))).bind k
 else
 none))
 else
 none
 else
 k (.inr (x0,x1,x2,x3,x4,x5))
theorem c_Z94_bind {R:Type} (F:T_Z94) (x0 x1 x2 x3 x4 x5:List D) (x6:Int) (x7:List D) (x8 x9:Int) (k:(List D×List D×List D×List D×List D×List D×Bool)⊕(List D×List D×List D×List D×List D×List D)→Option R):c_Z94 F x0 x1 x2 x3 x4 x5 x6 x7 x8 x9 k=(c_Z94 F x0 x1 x2 x3 x4 x5 x6 x7 x8 x9 some).bind k:=by
 unfold c_Z94
 repeat' first|exact bnd_tail|exact bnd_none|exact bnd_leaf|apply bnd_ite|apply bnd_cond|apply bnd_sum|(apply bnd_bind;intro _)|intro _
def n_Z94:Nat→T_Z94
 | 0,_,_,_,_,_,_,_,_,_,_=>none
 | n+1,x0,x1,x2,x3,x4,x5,x6,x7,x8,x9=>c_Z94 (n_Z94 n) x0 x1 x2 x3 x4 x5 x6 x7 x8 x9 some
noncomputable def Z94 (x0 x1 x2 x3 x4 x5:List D) (x6:Int) (x7:List D) (x8 x9:Int):Option ((List D×List D×List D×List D×List D×List D×Bool)⊕(List D×List D×List D×List D×List D×List D)):=ev (fun n=>n_Z94 n x0 x1 x2 x3 x4 x5 x6 x7 x8 x9)
def m_Z94 (F:T_Z94):Lent:=⟨3,⟨(.rp (.agg [.rp (.agg [.rd (.int .i64),.rd (.slice (.bool)),.rd (.slice (.bool))]),.rd (.int .i64),.rd (.int .i64)])::.rd (.int .i64)::.undef::.undef::.undef::.int .i64::.undef::.undef::.undef::.rd (.int .i64)::.int .i64::.int .i64::uu 40 ([])),[]⟩,[(.ret,⟨(.rp (.agg [.rp (.agg [.rd (.int .i64),.rd (.slice (.bool)),.rd (.slice (.bool))]),.rd (.int .i64),.rd (.int .i64)])::.rd (.int .i64)::.undef::.undef::.bool::uu 47 ([])),[]⟩),(.exit 0,⟨(.rp (.agg [.rp (.agg [.rd (.int .i64),.rd (.slice (.bool)),.rd (.slice (.bool))]),.rd (.int .i64),.rd (.int .i64)])::.rd (.int .i64)::uu 50 ([])),[]⟩)],fun _ ds k=>dL (fun x0 ds=>dL (fun x1 ds=>dL (fun x2 ds=>dL (fun x3 ds=>dL (fun x4 ds=>dL (fun x5 ds=>dI (fun x6 ds=>dL (fun x7 ds=>dI (fun x8 ds=>dI (fun x9 ds=>dE ((F x0 x1 x2 x3 x4 x5 x6 x7 x8 x9).bind (Sum.elim (fun y=>k 0 [.L y.1,.L y.2.1,.L y.2.2.1,.L y.2.2.2.1,.L y.2.2.2.2.1,.L y.2.2.2.2.2.1,.B y.2.2.2.2.2.2]) (fun y=>k 1 [.L y.1,.L y.2.1,.L y.2.2.1,.L y.2.2.2.1,.L y.2.2.2.2.1,.L y.2.2.2.2.2]))) ds) ds) ds) ds) ds) ds) ds) ds) ds) ds) ds⟩
theorem q_Z94 (F:T_Z94) (x0 x1 x2 x3 x4 x5:List D) (x6:Int) (x7:List D) (x8 x9:Int):runLoop (ocOf [e_Z93,e_Z68]) (olOf [m_Z94 F]) A 92 (codeAt (bodyOf Try.f92) 3) ((m_Z94 F).sh.mk' [.L x0,.L x1,.L x2,.L x3,.L x4,.L x5,.I x6,.L x7,.I x8,.I x9]) (fun e σ'=>some (e,σ'))=c_Z94 F x0 x1 x2 x3 x4 x5 x6 x7 x8 x9 (Sum.elim (fun y=>some (.ret,SSt.mk' ⟨(.rp (.agg [.rp (.agg [.rd (.int .i64),.rd (.slice (.bool)),.rd (.slice (.bool))]),.rd (.int .i64),.rd (.int .i64)])::.rd (.int .i64)::.undef::.undef::.bool::uu 47 ([])),[]⟩ [.L y.1,.L y.2.1,.L y.2.2.1,.L y.2.2.2.1,.L y.2.2.2.2.1,.L y.2.2.2.2.2.1,.B y.2.2.2.2.2.2])) (fun y=>some (.exit 0,SSt.mk' ⟨(.rp (.agg [.rp (.agg [.rd (.int .i64),.rd (.slice (.bool)),.rd (.slice (.bool))]),.rd (.int .i64),.rd (.int .i64)])::.rd (.int .i64)::uu 50 ([])),[]⟩ [.L y.1,.L y.2.1,.L y.2.2.1,.L y.2.2.2.1,.L y.2.2.2.2.1,.L y.2.2.2.2.2]))):=by kernel_rfl
theorem m_Z94_ok:∀ n,(m_Z94 (n_Z94 n)).ok Try.prog (codeAt (bodyOf Try.f92) 3):=by
 intro n
 induction n with
 | zero=>
  intro R ds k r h
  unfold m_Z94 at h
  obtain ⟨_,_,rfl,h⟩:=dL_some h
  obtain ⟨_,_,rfl,h⟩:=dL_some h
  obtain ⟨_,_,rfl,h⟩:=dL_some h
  obtain ⟨_,_,rfl,h⟩:=dL_some h
  obtain ⟨_,_,rfl,h⟩:=dL_some h
  obtain ⟨_,_,rfl,h⟩:=dL_some h
  obtain ⟨_,_,rfl,h⟩:=dI_some h
  obtain ⟨_,_,rfl,h⟩:=dL_some h
  obtain ⟨_,_,rfl,h⟩:=dI_some h
  obtain ⟨_,_,rfl,h⟩:=dI_some h
  obtain ⟨rfl,hE⟩:=dE_some h
  obtain ⟨y,hy,hk⟩:=bnd_some hE
  cases hy
 | succ n ih=>
  intro R ds k r h
  unfold m_Z94 at h
  obtain ⟨_,_,rfl,h⟩:=dL_some h
  obtain ⟨_,_,rfl,h⟩:=dL_some h
  obtain ⟨_,_,rfl,h⟩:=dL_some h
  obtain ⟨_,_,rfl,h⟩:=dL_some h
  obtain ⟨_,_,rfl,h⟩:=dL_some h
  obtain ⟨_,_,rfl,h⟩:=dL_some h
  obtain ⟨_,_,rfl,h⟩:=dI_some h
  obtain ⟨_,_,rfl,h⟩:=dL_some h
  obtain ⟨_,_,rfl,h⟩:=dI_some h
  obtain ⟨_,_,rfl,h⟩:=dI_some h
  obtain ⟨rfl,hE⟩:=dE_some h
  obtain ⟨y,hy,hk⟩:=bnd_some hE
  cases y with
  | inl y=>
   exact ⟨0,_,_,_,hk,rfl,loop_ok px (fx:=⟨Try.func92,by kernel_rfl,by kernel_rfl⟩) (entsOK_cons e_Z93_ok (entsOK_cons e_Z68_ok entsOK_nil)) (lentsOK_cons ih lentsOK_nil) (by kernel_rfl) ((q_Z94 ..).trans ((c_Z94_bind ..).trans (bnd_to hy)))⟩
  | inr y=>
   exact ⟨1,_,_,_,hk,rfl,loop_ok px (fx:=⟨Try.func92,by kernel_rfl,by kernel_rfl⟩) (entsOK_cons e_Z93_ok (entsOK_cons e_Z68_ok entsOK_nil)) (lentsOK_cons ih lentsOK_nil) (by kernel_rfl) ((q_Z94 ..).trans ((c_Z94_bind ..).trans (bnd_to hy)))⟩
noncomputable def e_Z94:Lent:=m_Z94 (Z94)
theorem e_Z94_ok:(e_Z94).ok Try.prog (codeAt (bodyOf Try.f92) 3):=by
 intro R ds k r h
 unfold e_Z94 m_Z94 at h
 obtain ⟨_,_,rfl,h⟩:=dL_some h
 obtain ⟨_,_,rfl,h⟩:=dL_some h
 obtain ⟨_,_,rfl,h⟩:=dL_some h
 obtain ⟨_,_,rfl,h⟩:=dL_some h
 obtain ⟨_,_,rfl,h⟩:=dL_some h
 obtain ⟨_,_,rfl,h⟩:=dL_some h
 obtain ⟨_,_,rfl,h⟩:=dI_some h
 obtain ⟨_,_,rfl,h⟩:=dL_some h
 obtain ⟨_,_,rfl,h⟩:=dI_some h
 obtain ⟨_,_,rfl,h⟩:=dI_some h
 obtain ⟨rfl,hE⟩:=dE_some h
 obtain ⟨y,hy,hk⟩:=bnd_some hE
 obtain ⟨n,hn⟩:=ev_some hy
 exact m_Z94_ok n R _ k r ((bnd_to hn).trans hk)

/-!-/
def c_Z95 {R:Type} (x0 x1 x2 x3 x4 x5:List D) (k:Bool→Option R):Option R:=
 (Z94 x0 x1 x2 x3 x4 x5 (0:Int) x5 (↑x5.length:Int) (0:Int)).bind (Sum.elim (fun y0=>
 k y0.snd.snd.snd.snd.snd.snd) (fun y1=>
 k (decide ((↑y1.snd.snd.snd.snd.snd.length:Int)=(↑y1.fst.length:Int)))))
theorem c_Z95_bind {R:Type} (x0 x1 x2 x3 x4 x5:List D) (k:Bool→Option R):c_Z95 x0 x1 x2 x3 x4 x5 k=(c_Z95 x0 x1 x2 x3 x4 x5 some).bind k:=by
 unfold c_Z95
 repeat' first|exact bnd_tail|exact bnd_none|exact bnd_leaf|apply bnd_ite|apply bnd_cond|apply bnd_sum|(apply bnd_bind;intro _)|intro _
def Z95 (x0 x1 x2 x3 x4 x5:List D):Option (Bool):=c_Z95 x0 x1 x2 x3 x4 x5 some
def e_Z95:Ent:=⟨92,[.rp (.agg [.rp (.agg [.rd (.int .i64),.rd (.slice (.bool)),.rd (.slice (.bool))]),.rd (.int .i64),.rd (.int .i64)]),.rd (.int .i64)],[(.bool,[.undef,.undef])],fun _ ds k=>dL (fun x0 ds=>dL (fun x1 ds=>dL (fun x2 ds=>dL (fun x3 ds=>dL (fun x4 ds=>dL (fun x5 ds=>dE ((Z95 x0 x1 x2 x3 x4 x5).bind (fun y=>k 0 [.B y])) ds) ds) ds) ds) ds) ds) ds⟩
theorem q_Z95 (x0 x1 x2 x3 x4 x5:List D):runFn (ocOf []) (olOf [e_Z94]) A 92 Try.f92 (Sh.mks e_Z95.sh [.L x0,.L x1,.L x2,.L x3,.L x4,.L x5]).1 (fun v os=>some (v,os))=c_Z95 x0 x1 x2 x3 x4 x5 (fun y=>retO e_Z95 0 [.B y]):=by kernel_rfl
theorem e_Z95_ok:e_Z95.ok Try.prog A:=by
 intro R ds k r h
 unfold e_Z95 at h
 obtain ⟨_,_,rfl,h⟩:=dL_some h
 obtain ⟨_,_,rfl,h⟩:=dL_some h
 obtain ⟨_,_,rfl,h⟩:=dL_some h
 obtain ⟨_,_,rfl,h⟩:=dL_some h
 obtain ⟨_,_,rfl,h⟩:=dL_some h
 obtain ⟨_,_,rfl,h⟩:=dL_some h
 obtain ⟨rfl,hE⟩:=dE_some h
 obtain ⟨y,hy,hk⟩:=bnd_some hE
 exact ⟨0,_,_,_,hk,rfl,fn_ok px (fx:=⟨Try.func92,by kernel_rfl,by kernel_rfl⟩) entsOK_nil (lentsOK_cons e_Z94_ok lentsOK_nil) ((q_Z95 ..).trans ((c_Z95_bind ..).trans (bnd_to hy)))⟩

/-!-/
def c_Z96 {R:Type} (x0 x1 x2:List D) (k:Bool×Bool→Option R):Option R:=
 (Z73 x0 x1).bind (Sum.elim (fun y0=>
 bif !y0 then
 k (Bool.false,Bool.false)
 else
 (Z91 x2).bind (fun y1=>
 k (y1,Bool.true))) (fun y2=>
 bif !y2.snd.snd.snd.snd.snd then
 k (Bool.false,Bool.false)
 else
 (Z95 y2.fst y2.snd.fst y2.snd.snd.fst y2.snd.snd.snd.fst y2.snd.snd.snd.snd.fst x2).bind (fun y3=>
 k (y3,Bool.true))))
theorem c_Z96_bind {R:Type} (x0 x1 x2:List D) (k:Bool×Bool→Option R):c_Z96 x0 x1 x2 k=(c_Z96 x0 x1 x2 some).bind k:=by
 unfold c_Z96
 repeat' first|exact bnd_tail|exact bnd_none|exact bnd_leaf|apply bnd_ite|apply bnd_cond|apply bnd_sum|(apply bnd_bind;intro _)|intro _
def Z96 (x0 x1 x2:List D):Option (Bool×Bool):=c_Z96 x0 x1 x2 some
def e_Z96:Ent:=⟨18,[.agg [.rd (.struct [.int .i64,.int .i64]),.rd (.struct [.int .i64,.int .i64])],.rd (.int .i64)],[(.tup [.bool,.bool],[.undef,.undef])],fun _ ds k=>dL (fun x0 ds=>dL (fun x1 ds=>dL (fun x2 ds=>dE ((Z96 x0 x1 x2).bind (fun y=>k 0 [.B y.1,.B y.2])) ds) ds) ds) ds⟩
theorem q_Z96 (x0 x1 x2:List D):runFn (ocOf [e_Z73,e_Z91,e_Z95]) (olOf []) A 18 Try.f18 (Sh.mks e_Z96.sh [.L x0,.L x1,.L x2]).1 (fun v os=>some (v,os))=c_Z96 x0 x1 x2 (fun y=>retO e_Z96 0 [.B y.1,.B y.2]):=by kernel_rfl
theorem e_Z96_ok:e_Z96.ok Try.prog A:=by
 intro R ds k r h
 unfold e_Z96 at h
 obtain ⟨_,_,rfl,h⟩:=dL_some h
 obtain ⟨_,_,rfl,h⟩:=dL_some h
 obtain ⟨_,_,rfl,h⟩:=dL_some h
 obtain ⟨rfl,hE⟩:=dE_some h
 obtain ⟨y,hy,hk⟩:=bnd_some hE
 exact ⟨0,_,_,_,hk,rfl,fn_ok px (fx:=⟨Try.func18,by kernel_rfl,by kernel_rfl⟩) (entsOK_cons e_Z73_ok (entsOK_cons e_Z91_ok (entsOK_cons e_Z95_ok entsOK_nil))) lentsOK_nil ((q_Z96 ..).trans ((c_Z96_bind ..).trans (bnd_to hy)))⟩

/-!-/
abbrev T_Z97:=Int→Int→List D→Int→Int→Option (Int)
def c_Z97 {R:Type} (F:T_Z97) (x0 x1:Int) (x2:List D) (x3 x4:Int) (k:Int→Option R):Option R:=
 bif decide (x4<x3) then
 if 0≤x4∧x4<(↑x2.length:Int) then
 none
 else
 none
 else
 k x0
theorem c_Z97_bind {R:Type} (F:T_Z97) (x0 x1:Int) (x2:List D) (x3 x4:Int) (k:Int→Option R):c_Z97 F x0 x1 x2 x3 x4 k=(c_Z97 F x0 x1 x2 x3 x4 some).bind k:=by
 unfold c_Z97
 repeat' first|exact bnd_tail|exact bnd_none|exact bnd_leaf|apply bnd_ite|apply bnd_cond|apply bnd_sum|(apply bnd_bind;intro _)|intro _
def n_Z97:Nat→T_Z97
 | 0,_,_,_,_,_=>none
 | n+1,x0,x1,x2,x3,x4=>c_Z97 (n_Z97 n) x0 x1 x2 x3 x4 some
noncomputable def Z97 (x0 x1:Int) (x2:List D) (x3 x4:Int):Option (Int):=ev (fun n=>n_Z97 n x0 x1 x2 x3 x4)
def m_Z97 (F:T_Z97):Lent:=⟨3,⟨(.nilptr::uu 4 (.int .i64::.int .i64::uu 4 (.rd (.int .i64)::.int .i64::.int .i64::uu 42 ([])))),[]⟩,[(.exit 0,⟨(uu 5 (.int .i64::uu 50 ([]))),[]⟩)],fun _ ds k=>dI (fun x0 ds=>dI (fun x1 ds=>dL (fun x2 ds=>dI (fun x3 ds=>dI (fun x4 ds=>dE ((F x0 x1 x2 x3 x4).bind (fun y=>k 0 [.I y])) ds) ds) ds) ds) ds) ds⟩
theorem q_Z97 (F:T_Z97) (x0 x1:Int) (x2:List D) (x3 x4:Int):runLoop (ocOf []) (olOf [m_Z97 F]) A 93 (codeAt (bodyOf Try.f93) 3) ((m_Z97 F).sh.mk' [.I x0,.I x1,.L x2,.I x3,.I x4]) (fun e σ'=>some (e,σ'))=c_Z97 F x0 x1 x2 x3 x4 (fun y=>some (.exit 0,SSt.mk' ⟨(uu 5 (.int .i64::uu 50 ([]))),[]⟩ [.I y])):=by kernel_rfl
theorem m_Z97_ok:∀ n,(m_Z97 (n_Z97 n)).ok Try.prog (codeAt (bodyOf Try.f93) 3):=by
 intro n
 induction n with
 | zero=>
  intro R ds k r h
  unfold m_Z97 at h
  obtain ⟨_,_,rfl,h⟩:=dI_some h
  obtain ⟨_,_,rfl,h⟩:=dI_some h
  obtain ⟨_,_,rfl,h⟩:=dL_some h
  obtain ⟨_,_,rfl,h⟩:=dI_some h
  obtain ⟨_,_,rfl,h⟩:=dI_some h
  obtain ⟨rfl,hE⟩:=dE_some h
  obtain ⟨y,hy,hk⟩:=bnd_some hE
  cases hy
 | succ n ih=>
  intro R ds k r h
  unfold m_Z97 at h
  obtain ⟨_,_,rfl,h⟩:=dI_some h
  obtain ⟨_,_,rfl,h⟩:=dI_some h
  obtain ⟨_,_,rfl,h⟩:=dL_some h
  obtain ⟨_,_,rfl,h⟩:=dI_some h
  obtain ⟨_,_,rfl,h⟩:=dI_some h
  obtain ⟨rfl,hE⟩:=dE_some h
  obtain ⟨y,hy,hk⟩:=bnd_some hE
  exact ⟨0,_,_,_,hk,rfl,loop_ok px (fx:=⟨Try.func93,by kernel_rfl,by kernel_rfl⟩) entsOK_nil (lentsOK_cons ih lentsOK_nil) (by kernel_rfl) ((q_Z97 ..).trans ((c_Z97_bind ..).trans (bnd_to hy)))⟩
noncomputable def e_Z97:Lent:=m_Z97 (Z97)
theorem e_Z97_ok:(e_Z97).ok Try.prog (codeAt (bodyOf Try.f93) 3):=by
 intro R ds k r h
 unfold e_Z97 m_Z97 at h
 obtain ⟨_,_,rfl,h⟩:=dI_some h
 obtain ⟨_,_,rfl,h⟩:=dI_some h
 obtain ⟨_,_,rfl,h⟩:=dL_some h
 obtain ⟨_,_,rfl,h⟩:=dI_some h
 obtain ⟨_,_,rfl,h⟩:=dI_some h
 obtain ⟨rfl,hE⟩:=dE_some h
 obtain ⟨y,hy,hk⟩:=bnd_some hE
 obtain ⟨n,hn⟩:=ev_some hy
 exact m_Z97_ok n R _ k r ((bnd_to hn).trans hk)

/-!-/
def c_Z98 {R:Type} (x0:List D) (k:Int→Option R):Option R:=
 (Z97 (0:Int) (0:Int) x0 (↑x0.length:Int) (0:Int)).bind (fun y0=>
 k y0)
theorem c_Z98_bind {R:Type} (x0:List D) (k:Int→Option R):c_Z98 x0 k=(c_Z98 x0 some).bind k:=by
 unfold c_Z98
 repeat' first|exact bnd_tail|exact bnd_none|exact bnd_leaf|apply bnd_ite|apply bnd_cond|apply bnd_sum|(apply bnd_bind;intro _)|intro _
def Z98 (x0:List D):Option (Int):=c_Z98 x0 some
def e_Z98:Ent:=⟨93,[.nilptr,.rd (.int .i64)],[(.int .i64,[.undef,.undef])],fun _ ds k=>dL (fun x0 ds=>dE ((Z98 x0).bind (fun y=>k 0 [.I y])) ds) ds⟩
theorem q_Z98 (x0:List D):runFn (ocOf []) (olOf [e_Z97]) A 93 Try.f93 (Sh.mks e_Z98.sh [.L x0]).1 (fun v os=>some (v,os))=c_Z98 x0 (fun y=>retO e_Z98 0 [.I y]):=by kernel_rfl
theorem e_Z98_ok:e_Z98.ok Try.prog A:=by
 intro R ds k r h
 unfold e_Z98 at h
 obtain ⟨_,_,rfl,h⟩:=dL_some h
 obtain ⟨rfl,hE⟩:=dE_some h
 obtain ⟨y,hy,hk⟩:=bnd_some hE
 exact ⟨0,_,_,_,hk,rfl,fn_ok px (fx:=⟨Try.func93,by kernel_rfl,by kernel_rfl⟩) entsOK_nil (lentsOK_cons e_Z97_ok lentsOK_nil) ((q_Z98 ..).trans ((c_Z98_bind ..).trans (bnd_to hy)))⟩

/-!-/
abbrev T_Z99:=List D→List D→List D→List D→List D→Int→Int→Int→List D→Int→Int→Int→Int→Option (List D×List D×List D×List D×List D×Int×Int×Int×List D×Int×Int)
def c_Z99 {R:Type} (F:T_Z99) (x0 x1 x2 x3 x4:List D) (x5 x6 x7:Int) (x8:List D) (x9 x10 x11 x12:Int) (k:List D×List D×List D×List D×List D×Int×Int×Int×List D×Int×Int→Option R):Option R:=
 bif decide (x12<x11) then
 (Z68 x0 x1 x2 x6 x12).bind (fun y0=>
 bif y0 then
 if (0:Int)≤x12 then
 if (0:Int)≤IntKind.i64.wrap (↑(BitVec.ofInt IntKind.i64.bits x6 ||| BitVec.ofInt IntKind.i64.bits (IntKind.i64.wrap ((1:Int) * (2:Int) ^ Min.min x12.toNat IntKind.i64.bits))).toNat:Int)∧IntKind.i64.wrap (↑(BitVec.ofInt IntKind.i64.bits x6 ||| BitVec.ofInt IntKind.i64.bits (IntKind.i64.wrap ((1:Int) * (2:Int) ^ Min.min x12.toNat IntKind.i64.bits))).toNat:Int)<(↑x4.length:Int) then
 (F x0 x1 x2 x3 x4 (IntKind.i64.wrap (x5+(x4.getD (IntKind.i64.wrap (↑(BitVec.ofInt IntKind.i64.bits x6 ||| BitVec.ofInt IntKind.i64.bits (IntKind.i64.wrap ((1:Int) * (2:Int) ^ Min.min x12.toNat IntKind.i64.bits))).toNat:Int)).toNat (D.int 0)).toInt)) x6 x7 x8 x9 x10 x11 (IntKind.i64.wrap (x12+1))).bind k
 else
 none
 else
 none
 else
 (F x0 x1 x2 x3 x4 x5 x6 x7 x8 x9 x10 x11 (IntKind.i64.wrap (x12+1))).bind k)
 else
 k (x0,x1,x2,x3,x4,x5,x6,x7,x8,x9,x10)
theorem c_Z99_bind {R:Type} (F:T_Z99) (x0 x1 x2 x3 x4:List D) (x5 x6 x7:Int) (x8:List D) (x9 x10 x11 x12:Int) (k:List D×List D×List D×List D×List D×Int×Int×Int×List D×Int×Int→Option R):c_Z99 F x0 x1 x2 x3 x4 x5 x6 x7 x8 x9 x10 x11 x12 k=(c_Z99 F x0 x1 x2 x3 x4 x5 x6 x7 x8 x9 x10 x11 x12 some).bind k:=by
 unfold c_Z99
 repeat' first|exact bnd_tail|exact bnd_none|exact bnd_leaf|apply bnd_ite|apply bnd_cond|apply bnd_sum|(apply bnd_bind;intro _)|intro _
def n_Z99:Nat→T_Z99
 | 0,_,_,_,_,_,_,_,_,_,_,_,_,_=>none
 | n+1,x0,x1,x2,x3,x4,x5,x6,x7,x8,x9,x10,x11,x12=>c_Z99 (n_Z99 n) x0 x1 x2 x3 x4 x5 x6 x7 x8 x9 x10 x11 x12 some
noncomputable def Z99 (x0 x1 x2 x3 x4:List D) (x5 x6 x7:Int) (x8:List D) (x9 x10 x11 x12:Int):Option (List D×List D×List D×List D×List D×Int×Int×Int×List D×Int×Int):=ev (fun n=>n_Z99 n x0 x1 x2 x3 x4 x5 x6 x7 x8 x9 x10 x11 x12)
def m_Z99 (F:T_Z99):Lent:=⟨7,⟨(.rp (.agg [.rp (.agg [.rd (.int .i64),.rd (.slice (.bool)),.rd (.slice (.bool))]),.rd (.int .i64),.rd (.int .i64)])::uu 4 (.int .i64::.int .i64::.undef::.undef::.int .i64::.undef::.rd (.int .i64)::.int .i64::.int .i64::uu 12 (.int .i64::.int .i64::uu 28 ([])))),[]⟩,[(.exit 2,⟨(.rp (.agg [.rp (.agg [.rd (.int .i64),.rd (.slice (.bool)),.rd (.slice (.bool))]),.rd (.int .i64),.rd (.int .i64)])::uu 4 (.int .i64::.int .i64::.undef::.undef::.int .i64::.undef::.rd (.int .i64)::.int .i64::.int .i64::uu 42 ([]))),[]⟩)],fun _ ds k=>dL (fun x0 ds=>dL (fun x1 ds=>dL (fun x2 ds=>dL (fun x3 ds=>dL (fun x4 ds=>dI (fun x5 ds=>dI (fun x6 ds=>dI (fun x7 ds=>dL (fun x8 ds=>dI (fun x9 ds=>dI (fun x10 ds=>dI (fun x11 ds=>dI (fun x12 ds=>dE ((F x0 x1 x2 x3 x4 x5 x6 x7 x8 x9 x10 x11 x12).bind (fun y=>k 0 [.L y.1,.L y.2.1,.L y.2.2.1,.L y.2.2.2.1,.L y.2.2.2.2.1,.I y.2.2.2.2.2.1,.I y.2.2.2.2.2.2.1,.I y.2.2.2.2.2.2.2.1,.L y.2.2.2.2.2.2.2.2.1,.I y.2.2.2.2.2.2.2.2.2.1,.I y.2.2.2.2.2.2.2.2.2.2])) ds) ds) ds) ds) ds) ds) ds) ds) ds) ds) ds) ds) ds) ds⟩
theorem q_Z99 (F:T_Z99) (x0 x1 x2 x3 x4:List D) (x5 x6 x7:Int) (x8:List D) (x9 x10 x11 x12:Int):runLoop (ocOf [e_Z68]) (olOf [m_Z99 F]) A 93 (codeAt (bodyOf Try.f93) 7) ((m_Z99 F).sh.mk' [.L x0,.L x1,.L x2,.L x3,.L x4,.I x5,.I x6,.I x7,.L x8,.I x9,.I x10,.I x11,.I x12]) (fun e σ'=>some (e,σ'))=c_Z99 F x0 x1 x2 x3 x4 x5 x6 x7 x8 x9 x10 x11 x12 (fun y=>some (.exit 2,SSt.mk' ⟨(.rp (.agg [.rp (.agg [.rd (.int .i64),.rd (.slice (.bool)),.rd (.slice (.bool))]),.rd (.int .i64),.rd (.int .i64)])::uu 4 (.int .i64::.int .i64::.undef::.undef::.int .i64::.undef::.rd (.int .i64)::.int .i64::.int .i64::uu 42 ([]))),[]⟩ [.L y.1,.L y.2.1,.L y.2.2.1,.L y.2.2.2.1,.L y.2.2.2.2.1,.I y.2.2.2.2.2.1,.I y.2.2.2.2.2.2.1,.I y.2.2.2.2.2.2.2.1,.L y.2.2.2.2.2.2.2.2.1,.I y.2.2.2.2.2.2.2.2.2.1,.I y.2.2.2.2.2.2.2.2.2.2])):=by kernel_rfl
theorem m_Z99_ok:∀ n,(m_Z99 (n_Z99 n)).ok Try.prog (codeAt (bodyOf Try.f93) 7):=by
 intro n
 induction n with
 | zero=>
  intro R ds k r h
  unfold m_Z99 at h
  obtain ⟨_,_,rfl,h⟩:=dL_some h
  obtain ⟨_,_,rfl,h⟩:=dL_some h
  obtain ⟨_,_,rfl,h⟩:=dL_some h
  obtain ⟨_,_,rfl,h⟩:=dL_some h
  obtain ⟨_,_,rfl,h⟩:=dL_some h
  obtain ⟨_,_,rfl,h⟩:=dI_some h
  obtain ⟨_,_,rfl,h⟩:=dI_some h
  obtain ⟨_,_,rfl,h⟩:=dI_some h
  obtain ⟨_,_,rfl,h⟩:=dL_some h
  obtain ⟨_,_,rfl,h⟩:=dI_some h
  obtain ⟨_,_,rfl,h⟩:=dI_some h
  obtain ⟨_,_,rfl,h⟩:=dI_some h
  obtain ⟨_,_,rfl,h⟩:=dI_some h
  obtain ⟨rfl,hE⟩:=dE_some h
  obtain ⟨y,hy,hk⟩:=bnd_some hE
  cases hy
 | succ n ih=>
  intro R ds k r h
  unfold m_Z99 at h
  obtain ⟨_,_,rfl,h⟩:=dL_some h
  obtain ⟨_,_,rfl,h⟩:=dL_some h
  obtain ⟨_,_,rfl,h⟩:=dL_some h
  obtain ⟨_,_,rfl,h⟩:=dL_some h
  obtain ⟨_,_,rfl,h⟩:=dL_some h
  obtain ⟨_,_,rfl,h⟩:=dI_some h
  obtain ⟨_,_,rfl,h⟩:=dI_some h
  obtain ⟨_,_,rfl,h⟩:=dI_some h
  obtain ⟨_,_,rfl,h⟩:=dL_some h
  obtain ⟨_,_,rfl,h⟩:=dI_some h
  obtain ⟨_,_,rfl,h⟩:=dI_some h
  obtain ⟨_,_,rfl,h⟩:=dI_some h
  obtain ⟨_,_,rfl,h⟩:=dI_some h
  obtain ⟨rfl,hE⟩:=dE_some h
  obtain ⟨y,hy,hk⟩:=bnd_some hE
  exact ⟨0,_,_,_,hk,rfl,loop_ok px (fx:=⟨Try.func93,by kernel_rfl,by kernel_rfl⟩) (entsOK_cons e_Z68_ok entsOK_nil) (lentsOK_cons ih lentsOK_nil) (by kernel_rfl) ((q_Z99 ..).trans ((c_Z99_bind ..).trans (bnd_to hy)))⟩
noncomputable def e_Z99:Lent:=m_Z99 (Z99)
theorem e_Z99_ok:(e_Z99).ok Try.prog (codeAt (bodyOf Try.f93) 7):=by
 intro R ds k r h
 unfold e_Z99 m_Z99 at h
 obtain ⟨_,_,rfl,h⟩:=dL_some h
 obtain ⟨_,_,rfl,h⟩:=dL_some h
 obtain ⟨_,_,rfl,h⟩:=dL_some h
 obtain ⟨_,_,rfl,h⟩:=dL_some h
 obtain ⟨_,_,rfl,h⟩:=dL_some h
 obtain ⟨_,_,rfl,h⟩:=dI_some h
 obtain ⟨_,_,rfl,h⟩:=dI_some h
 obtain ⟨_,_,rfl,h⟩:=dI_some h
 obtain ⟨_,_,rfl,h⟩:=dL_some h
 obtain ⟨_,_,rfl,h⟩:=dI_some h
 obtain ⟨_,_,rfl,h⟩:=dI_some h
 obtain ⟨_,_,rfl,h⟩:=dI_some h
 obtain ⟨_,_,rfl,h⟩:=dI_some h
 obtain ⟨rfl,hE⟩:=dE_some h
 obtain ⟨y,hy,hk⟩:=bnd_some hE
 obtain ⟨n,hn⟩:=ev_some hy
 exact m_Z99_ok n R _ k r ((bnd_to hn).trans hk)

/-!-/
abbrev T_Z100:=List D→List D→List D→List D→List D→Int→Int→List D→Int→Int→Option (Int)
def c_Z100 {R:Type} (F:T_Z100) (x0 x1 x2 x3 x4:List D) (x5 x6:Int) (x7:List D) (x8 x9:Int) (k:Int→Option R):Option R:=
 bif decide (x9<x8) then
 if 0≤x9∧x9<(↑x7.length:Int) then
 (Z93 x0 ((x7.getD x9.toNat (D.int 0)).toInt)).bind (fun y0=>
 (Z99 x0 x1 x2 x3 x4 x5 x6 y0 x7 x8 x9 y0 (0:Int)).bind (fun y1=>
 if (0:Int)≤y1.snd.snd.snd.snd.snd.snd.snd.fst then
 (F y1.fst y1.snd.fst y1.snd.snd.fst y1.snd.snd.snd.fst y1.snd.snd.snd.snd.fst y1.snd.snd.snd.snd.snd.fst (IntKind.i64.wrap (↑(BitVec.ofInt IntKind.i64.bits y1.snd.snd.snd.snd.snd.snd.fst ||| BitVec.ofInt IntKind.i64.bits (IntKind.i64.wrap ((1:Int) * (2:Int) ^ Min.min y1.snd.snd.snd.snd.snd.snd.snd.fst.toNat IntKind.i64.bits))).toNat:Int)) y1.snd.snd.snd.snd.snd.snd.snd.snd.fst y1.snd.snd.snd.snd.snd.snd.snd.snd.snd.fst (IntKind.i64.wrap (y1.snd.snd.snd.snd.snd.snd.snd.snd.snd.snd+1))).bind k
 else
 none))
 else
 none
 else
 k x5
theorem c_Z100_bind {R:Type} (F:T_Z100) (x0 x1 x2 x3 x4:List D) (x5 x6:Int) (x7:List D) (x8 x9:Int) (k:Int→Option R):c_Z100 F x0 x1 x2 x3 x4 x5 x6 x7 x8 x9 k=(c_Z100 F x0 x1 x2 x3 x4 x5 x6 x7 x8 x9 some).bind k:=by
 unfold c_Z100
 repeat' first|exact bnd_tail|exact bnd_none|exact bnd_leaf|apply bnd_ite|apply bnd_cond|apply bnd_sum|(apply bnd_bind;intro _)|intro _
def n_Z100:Nat→T_Z100
 | 0,_,_,_,_,_,_,_,_,_,_=>none
 | n+1,x0,x1,x2,x3,x4,x5,x6,x7,x8,x9=>c_Z100 (n_Z100 n) x0 x1 x2 x3 x4 x5 x6 x7 x8 x9 some
noncomputable def Z100 (x0 x1 x2 x3 x4:List D) (x5 x6:Int) (x7:List D) (x8 x9:Int):Option (Int):=ev (fun n=>n_Z100 n x0 x1 x2 x3 x4 x5 x6 x7 x8 x9)
def m_Z100 (F:T_Z100):Lent:=⟨3,⟨(.rp (.agg [.rp (.agg [.rd (.int .i64),.rd (.slice (.bool)),.rd (.slice (.bool))]),.rd (.int .i64),.rd (.int .i64)])::uu 4 (.int .i64::.int .i64::uu 4 (.rd (.int .i64)::.int .i64::.int .i64::uu 42 ([])))),[]⟩,[(.exit 0,⟨(uu 5 (.int .i64::uu 50 ([]))),[]⟩)],fun _ ds k=>dL (fun x0 ds=>dL (fun x1 ds=>dL (fun x2 ds=>dL (fun x3 ds=>dL (fun x4 ds=>dI (fun x5 ds=>dI (fun x6 ds=>dL (fun x7 ds=>dI (fun x8 ds=>dI (fun x9 ds=>dE ((F x0 x1 x2 x3 x4 x5 x6 x7 x8 x9).bind (fun y=>k 0 [.I y])) ds) ds) ds) ds) ds) ds) ds) ds) ds) ds) ds⟩
theorem q_Z100 (F:T_Z100) (x0 x1 x2 x3 x4:List D) (x5 x6:Int) (x7:List D) (x8 x9:Int):runLoop (ocOf [e_Z93]) (olOf [m_Z100 F,e_Z99]) A 93 (codeAt (bodyOf Try.f93) 3) ((m_Z100 F).sh.mk' [.L x0,.L x1,.L x2,.L x3,.L x4,.I x5,.I x6,.L x7,.I x8,.I x9]) (fun e σ'=>some (e,σ'))=c_Z100 F x0 x1 x2 x3 x4 x5 x6 x7 x8 x9 (fun y=>some (.exit 0,SSt.mk' ⟨(uu 5 (.int .i64::uu 50 ([]))),[]⟩ [.I y])):=by kernel_rfl
theorem m_Z100_ok:∀ n,(m_Z100 (n_Z100 n)).ok Try.prog (codeAt (bodyOf Try.f93) 3):=by
 intro n
 induction n with
 | zero=>
  intro R ds k r h
  unfold m_Z100 at h
  obtain ⟨_,_,rfl,h⟩:=dL_some h
  obtain ⟨_,_,rfl,h⟩:=dL_some h
  obtain ⟨_,_,rfl,h⟩:=dL_some h
  obtain ⟨_,_,rfl,h⟩:=dL_some h
  obtain ⟨_,_,rfl,h⟩:=dL_some h
  obtain ⟨_,_,rfl,h⟩:=dI_some h
  obtain ⟨_,_,rfl,h⟩:=dI_some h
  obtain ⟨_,_,rfl,h⟩:=dL_some h
  obtain ⟨_,_,rfl,h⟩:=dI_some h
  obtain ⟨_,_,rfl,h⟩:=dI_some h
  obtain ⟨rfl,hE⟩:=dE_some h
  obtain ⟨y,hy,hk⟩:=bnd_some hE
  cases hy
 | succ n ih=>
  intro R ds k r h
  unfold m_Z100 at h
  obtain ⟨_,_,rfl,h⟩:=dL_some h
  obtain ⟨_,_,rfl,h⟩:=dL_some h
  obtain ⟨_,_,rfl,h⟩:=dL_some h
  obtain ⟨_,_,rfl,h⟩:=dL_some h
  obtain ⟨_,_,rfl,h⟩:=dL_some h
  obtain ⟨_,_,rfl,h⟩:=dI_some h
  obtain ⟨_,_,rfl,h⟩:=dI_some h
  obtain ⟨_,_,rfl,h⟩:=dL_some h
  obtain ⟨_,_,rfl,h⟩:=dI_some h
  obtain ⟨_,_,rfl,h⟩:=dI_some h
  obtain ⟨rfl,hE⟩:=dE_some h
  obtain ⟨y,hy,hk⟩:=bnd_some hE
  exact ⟨0,_,_,_,hk,rfl,loop_ok px (fx:=⟨Try.func93,by kernel_rfl,by kernel_rfl⟩) (entsOK_cons e_Z93_ok entsOK_nil) (lentsOK_cons ih (lentsOK_cons e_Z99_ok lentsOK_nil)) (by kernel_rfl) ((q_Z100 ..).trans ((c_Z100_bind ..).trans (bnd_to hy)))⟩
noncomputable def e_Z100:Lent:=m_Z100 (Z100)
theorem e_Z100_ok:(e_Z100).ok Try.prog (codeAt (bodyOf Try.f93) 3):=by
 intro R ds k r h
 unfold e_Z100 m_Z100 at h
 obtain ⟨_,_,rfl,h⟩:=dL_some h
 obtain ⟨_,_,rfl,h⟩:=dL_some h
 obtain ⟨_,_,rfl,h⟩:=dL_some h
 obtain ⟨_,_,rfl,h⟩:=dL_some h
 obtain ⟨_,_,rfl,h⟩:=dL_some h
 obtain ⟨_,_,rfl,h⟩:=dI_some h
 obtain ⟨_,_,rfl,h⟩:=dI_some h
 obtain ⟨_,_,rfl,h⟩:=dL_some h
 obtain ⟨_,_,rfl,h⟩:=dI_some h
 obtain ⟨_,_,rfl,h⟩:=dI_some h
 obtain ⟨rfl,hE⟩:=dE_some h
 obtain ⟨y,hy,hk⟩:=bnd_some hE
 obtain ⟨n,hn⟩:=ev_some hy
 exact m_Z100_ok n R _ k r ((bnd_to hn).trans hk)

/-!-/
def c_Z101 {R:Type} (x0 x1 x2 x3 x4 x5:List D) (k:Int→Option R):Option R:=
 (Z100 x0 x1 x2 x3 x4 (0:Int) (0:Int) x5 (↑x5.length:Int) (0:Int)).bind (fun y0=>
 k y0)
theorem c_Z101_bind {R:Type} (x0 x1 x2 x3 x4 x5:List D) (k:Int→Option R):c_Z101 x0 x1 x2 x3 x4 x5 k=(c_Z101 x0 x1 x2 x3 x4 x5 some).bind k:=by
 unfold c_Z101
 repeat' first|exact bnd_tail|exact bnd_none|exact bnd_leaf|apply bnd_ite|apply bnd_cond|apply bnd_sum|(apply bnd_bind;intro _)|intro _
def Z101 (x0 x1 x2 x3 x4 x5:List D):Option (Int):=c_Z101 x0 x1 x2 x3 x4 x5 some
def e_Z101:Ent:=⟨93,[.rp (.agg [.rp (.agg [.rd (.int .i64),.rd (.slice (.bool)),.rd (.slice (.bool))]),.rd (.int .i64),.rd (.int .i64)]),.rd (.int .i64)],[(.int .i64,[.undef,.undef])],fun _ ds k=>dL (fun x0 ds=>dL (fun x1 ds=>dL (fun x2 ds=>dL (fun x3 ds=>dL (fun x4 ds=>dL (fun x5 ds=>dE ((Z101 x0 x1 x2 x3 x4 x5).bind (fun y=>k 0 [.I y])) ds) ds) ds) ds) ds) ds) ds⟩
theorem q_Z101 (x0 x1 x2 x3 x4 x5:List D):runFn (ocOf []) (olOf [e_Z100]) A 93 Try.f93 (Sh.mks e_Z101.sh [.L x0,.L x1,.L x2,.L x3,.L x4,.L x5]).1 (fun v os=>some (v,os))=c_Z101 x0 x1 x2 x3 x4 x5 (fun y=>retO e_Z101 0 [.I y]):=by kernel_rfl
theorem e_Z101_ok:e_Z101.ok Try.prog A:=by
 intro R ds k r h
 unfold e_Z101 at h
 obtain ⟨_,_,rfl,h⟩:=dL_some h
 obtain ⟨_,_,rfl,h⟩:=dL_some h
 obtain ⟨_,_,rfl,h⟩:=dL_some h
 obtain ⟨_,_,rfl,h⟩:=dL_some h
 obtain ⟨_,_,rfl,h⟩:=dL_some h
 obtain ⟨_,_,rfl,h⟩:=dL_some h
 obtain ⟨rfl,hE⟩:=dE_some h
 obtain ⟨y,hy,hk⟩:=bnd_some hE
 exact ⟨0,_,_,_,hk,rfl,fn_ok px (fx:=⟨Try.func93,by kernel_rfl,by kernel_rfl⟩) entsOK_nil (lentsOK_cons e_Z100_ok lentsOK_nil) ((q_Z101 ..).trans ((c_Z101_bind ..).trans (bnd_to hy)))⟩

/-!-/
def c_Z102 {R:Type} (x0 x1 x2:List D) (k:Int×Bool→Option R):Option R:=
 (Z73 x0 x1).bind (Sum.elim (fun y0=>
 bif !y0 then
 k ((0:Int),Bool.false)
 else
 (Z91 x2).bind (fun y1=>
 bif !y1 then
 k ((0:Int),Bool.false)
 else
 (Z98 x2).bind (fun y2=>
 k (y2,Bool.true)))) (fun y3=>
 bif !y3.snd.snd.snd.snd.snd then
 k ((0:Int),Bool.false)
 else
 (Z95 y3.fst y3.snd.fst y3.snd.snd.fst y3.snd.snd.snd.fst y3.snd.snd.snd.snd.fst x2).bind (fun y4=>
 bif !y4 then
 k ((0:Int),Bool.false)
 else
 (Z101 y3.fst y3.snd.fst y3.snd.snd.fst y3.snd.snd.snd.fst y3.snd.snd.snd.snd.fst x2).bind (fun y5=>
 k (y5,Bool.true)))))
theorem c_Z102_bind {R:Type} (x0 x1 x2:List D) (k:Int×Bool→Option R):c_Z102 x0 x1 x2 k=(c_Z102 x0 x1 x2 some).bind k:=by
 unfold c_Z102
 repeat' first|exact bnd_tail|exact bnd_none|exact bnd_leaf|apply bnd_ite|apply bnd_cond|apply bnd_sum|(apply bnd_bind;intro _)|intro _
def Z102 (x0 x1 x2:List D):Option (Int×Bool):=c_Z102 x0 x1 x2 some
def e_Z102:Ent:=⟨19,[.agg [.rd (.struct [.int .i64,.int .i64]),.rd (.struct [.int .i64,.int .i64])],.rd (.int .i64)],[(.tup [.int .i64,.bool],[.undef,.undef])],fun _ ds k=>dL (fun x0 ds=>dL (fun x1 ds=>dL (fun x2 ds=>dE ((Z102 x0 x1 x2).bind (fun y=>k 0 [.I y.1,.B y.2])) ds) ds) ds) ds⟩
theorem q_Z102 (x0 x1 x2:List D):runFn (ocOf [e_Z73,e_Z91,e_Z98,e_Z95,e_Z101]) (olOf []) A 19 Try.f19 (Sh.mks e_Z102.sh [.L x0,.L x1,.L x2]).1 (fun v os=>some (v,os))=c_Z102 x0 x1 x2 (fun y=>retO e_Z102 0 [.I y.1,.B y.2]):=by kernel_rfl
theorem e_Z102_ok:e_Z102.ok Try.prog A:=by
 intro R ds k r h
 unfold e_Z102 at h
 obtain ⟨_,_,rfl,h⟩:=dL_some h
 obtain ⟨_,_,rfl,h⟩:=dL_some h
 obtain ⟨_,_,rfl,h⟩:=dL_some h
 obtain ⟨rfl,hE⟩:=dE_some h
 obtain ⟨y,hy,hk⟩:=bnd_some hE
 exact ⟨0,_,_,_,hk,rfl,fn_ok px (fx:=⟨Try.func19,by kernel_rfl,by kernel_rfl⟩) (entsOK_cons e_Z73_ok (entsOK_cons e_Z91_ok (entsOK_cons e_Z98_ok (entsOK_cons e_Z95_ok (entsOK_cons e_Z101_ok entsOK_nil))))) lentsOK_nil ((q_Z102 ..).trans ((c_Z102_bind ..).trans (bnd_to hy)))⟩

/-!-/
def c_Z103 {R:Type} (x0 x1 x2:List D) (k:List D×Bool×Bool→Option R):Option R:=
 (Z73 x0 x1).bind (Sum.elim (fun y0=>
 bif !y0 then
 k ([],Bool.false,Bool.false)
 else
 (Z91 x2).bind (fun y1=>
 bif !y1 then
 k ([],Bool.false,Bool.false)
 else
 (Z98 x2).bind (fun y2=>
 none))) (fun y3=>
 bif !y3.snd.snd.snd.snd.snd then
 k ([],Bool.false,Bool.false)
 else
 (Z95 y3.fst y3.snd.fst y3.snd.snd.fst y3.snd.snd.snd.fst y3.snd.snd.snd.snd.fst x2).bind (fun y4=>
 bif !y4 then
 k ([],Bool.false,Bool.false)
 else
 (Z101 y3.fst y3.snd.fst y3.snd.snd.fst y3.snd.snd.snd.fst y3.snd.snd.snd.snd.fst x2).bind (fun y5=>
 if (0:Int)≤(0:Int)∧(0:Int)<(↑y3.snd.snd.snd.snd.fst.length:Int) then
 if Int.toNat (0:Int)+(1:Nat)≤y3.snd.snd.snd.snd.fst.length then
 bif decide (IntKind.i64.wrap (y5+1)=(y3.snd.snd.snd.snd.fst.getD (Int.toNat (0:Int)) (D.int 0)).toInt) then
 k ([],Bool.false,Bool.true)
 else
 (Z76 y3.fst y3.snd.fst y3.snd.snd.fst y3.snd.snd.snd.fst y3.snd.snd.snd.snd.fst (IntKind.i64.wrap (y5+1))).bind (fun y6=>
 k (y6,Bool.true,Bool.true))
 else
 none
 else
 none))))
theorem c_Z103_bind {R:Type} (x0 x1 x2:List D) (k:List D×Bool×Bool→Option R):c_Z103 x0 x1 x2 k=(c_Z103 x0 x1 x2 some).bind k:=by
 unfold c_Z103
 repeat' first|exact bnd_tail|exact bnd_none|exact bnd_leaf|apply bnd_ite|apply bnd_cond|apply bnd_sum|(apply bnd_bind;intro _)|intro _
def Z103 (x0 x1 x2:List D):Option (List D×Bool×Bool):=c_Z103 x0 x1 x2 some
def e_Z103:Ent:=⟨20,[.agg [.rd (.struct [.int .i64,.int .i64]),.rd (.struct [.int .i64,.int .i64])],.rd (.int .i64)],[(.tup [.own (.int .i64),.bool,.bool],[.undef,.undef])],fun _ ds k=>dL (fun x0 ds=>dL (fun x1 ds=>dL (fun x2 ds=>dE ((Z103 x0 x1 x2).bind (fun y=>k 0 [.L y.1,.B y.2.1,.B y.2.2])) ds) ds) ds) ds⟩
theorem q_Z103 (x0 x1 x2:List D):runFn (ocOf [e_Z73,e_Z91,e_Z98,e_Z95,e_Z101,e_Z76]) (olOf []) A 20 Try.f20 (Sh.mks e_Z103.sh [.L x0,.L x1,.L x2]).1 (fun v os=>some (v,os))=c_Z103 x0 x1 x2 (fun y=>retO e_Z103 0 [.L y.1,.B y.2.1,.B y.2.2]):=by kernel_rfl
theorem e_Z103_ok:e_Z103.ok Try.prog A:=by
 intro R ds k r h
 unfold e_Z103 at h
 obtain ⟨_,_,rfl,h⟩:=dL_some h
 obtain ⟨_,_,rfl,h⟩:=dL_some h
 obtain ⟨_,_,rfl,h⟩:=dL_some h
 obtain ⟨rfl,hE⟩:=dE_some h
 obtain ⟨y,hy,hk⟩:=bnd_some hE
 exact ⟨0,_,_,_,hk,rfl,fn_ok px (fx:=⟨Try.func20,by kernel_rfl,by kernel_rfl⟩) (entsOK_cons e_Z73_ok (entsOK_cons e_Z91_ok (entsOK_cons e_Z98_ok (entsOK_cons e_Z95_ok (entsOK_cons e_Z101_ok (entsOK_cons e_Z76_ok entsOK_nil)))))) lentsOK_nil ((q_Z103 ..).trans ((c_Z103_bind ..).trans (bnd_to hy)))⟩

/-!-/
abbrev T_Z104:=List D→List D→Int→Int→List D→Int→Int→List D→Int→Int→Option (List D×List D×Int×List D×Int×Int)
def c_Z104 {R:Type} (F:T_Z104) (x0 x1:List D) (x2 x3:Int) (x4:List D) (x5 x6:Int) (x7:List D) (x8 x9:Int) (k:List D×List D×Int×List D×Int×Int→Option R):Option R:=
 bif decide (x9<x8) then
 if 0≤x9∧x9<(↑x7.length:Int) then
 (Z93 x1 x3).bind (fun y0=>
 (Z93 x1 ((x7.getD x9.toNat (D.int 0)).toInt)).bind (fun y1=>
 bif decide (y1<y0) then
 (F x0 x1 (IntKind.i64.wrap (x2+1)) x3 x4 x5 x6 x7 x8 (IntKind.i64.wrap (x9+1))).bind k
 else
 (F x0 x1 x2 x3 x4 x5 x6 x7 x8 (IntKind.i64.wrap (x9+1))).bind k))
 else
 none
 else
 k (x0,x1,x2,x4,x5,x6)
theorem c_Z104_bind {R:Type} (F:T_Z104) (x0 x1:List D) (x2 x3:Int) (x4:List D) (x5 x6:Int) (x7:List D) (x8 x9:Int) (k:List D×List D×Int×List D×Int×Int→Option R):c_Z104 F x0 x1 x2 x3 x4 x5 x6 x7 x8 x9 k=(c_Z104 F x0 x1 x2 x3 x4 x5 x6 x7 x8 x9 some).bind k:=by
 unfold c_Z104
 repeat' first|exact bnd_tail|exact bnd_none|exact bnd_leaf|apply bnd_ite|apply bnd_cond|apply bnd_sum|(apply bnd_bind;intro _)|intro _
def n_Z104:Nat→T_Z104
 | 0,_,_,_,_,_,_,_,_,_,_=>none
 | n+1,x0,x1,x2,x3,x4,x5,x6,x7,x8,x9=>c_Z104 (n_Z104 n) x0 x1 x2 x3 x4 x5 x6 x7 x8 x9 some
noncomputable def Z104 (x0 x1:List D) (x2 x3:Int) (x4:List D) (x5 x6:Int) (x7:List D) (x8 x9:Int):Option (List D×List D×Int×List D×Int×Int):=ev (fun n=>n_Z104 n x0 x1 x2 x3 x4 x5 x6 x7 x8 x9)
def m_Z104 (F:T_Z104):Lent:=⟨9,⟨(.undef::.rd (.int .i64)::.rd (.int .i64)::uu 7 (.int .i64::.undef::.int .i64::uu 21 (.rd (.int .i64)::.int .i64::.int .i64::uu 7 (.rd (.int .i64)::.int .i64::.int .i64::uu 15 ([]))))),[]⟩,[(.exit 2,⟨(.undef::.rd (.int .i64)::.rd (.int .i64)::uu 7 (.int .i64::uu 23 (.rd (.int .i64)::.int .i64::.int .i64::uu 25 ([])))),[]⟩)],fun _ ds k=>dL (fun x0 ds=>dL (fun x1 ds=>dI (fun x2 ds=>dI (fun x3 ds=>dL (fun x4 ds=>dI (fun x5 ds=>dI (fun x6 ds=>dL (fun x7 ds=>dI (fun x8 ds=>dI (fun x9 ds=>dE ((F x0 x1 x2 x3 x4 x5 x6 x7 x8 x9).bind (fun y=>k 0 [.L y.1,.L y.2.1,.I y.2.2.1,.L y.2.2.2.1,.I y.2.2.2.2.1,.I y.2.2.2.2.2])) ds) ds) ds) ds) ds) ds) ds) ds) ds) ds) ds⟩
theorem q_Z104 (F:T_Z104) (x0 x1:List D) (x2 x3:Int) (x4:List D) (x5 x6:Int) (x7:List D) (x8 x9:Int):runLoop (ocOf [e_Z93]) (olOf [m_Z104 F]) A 21 (codeAt (bodyOf Try.f21) 9) ((m_Z104 F).sh.mk' [.L x0,.L x1,.I x2,.I x3,.L x4,.I x5,.I x6,.L x7,.I x8,.I x9]) (fun e σ'=>some (e,σ'))=c_Z104 F x0 x1 x2 x3 x4 x5 x6 x7 x8 x9 (fun y=>some (.exit 2,SSt.mk' ⟨(.undef::.rd (.int .i64)::.rd (.int .i64)::uu 7 (.int .i64::uu 23 (.rd (.int .i64)::.int .i64::.int .i64::uu 25 ([])))),[]⟩ [.L y.1,.L y.2.1,.I y.2.2.1,.L y.2.2.2.1,.I y.2.2.2.2.1,.I y.2.2.2.2.2])):=by kernel_rfl
theorem m_Z104_ok:∀ n,(m_Z104 (n_Z104 n)).ok Try.prog (codeAt (bodyOf Try.f21) 9):=by
 intro n
 induction n with
 | zero=>
  intro R ds k r h
  unfold m_Z104 at h
  obtain ⟨_,_,rfl,h⟩:=dL_some h
  obtain ⟨_,_,rfl,h⟩:=dL_some h
  obtain ⟨_,_,rfl,h⟩:=dI_some h
  obtain ⟨_,_,rfl,h⟩:=dI_some h
  obtain ⟨_,_,rfl,h⟩:=dL_some h
  obtain ⟨_,_,rfl,h⟩:=dI_some h
  obtain ⟨_,_,rfl,h⟩:=dI_some h
  obtain ⟨_,_,rfl,h⟩:=dL_some h
  obtain ⟨_,_,rfl,h⟩:=dI_some h
  obtain ⟨_,_,rfl,h⟩:=dI_some h
  obtain ⟨rfl,hE⟩:=dE_some h
  obtain ⟨y,hy,hk⟩:=bnd_some hE
  cases hy
 | succ n ih=>
  intro R ds k r h
  unfold m_Z104 at h
  obtain ⟨_,_,rfl,h⟩:=dL_some h
  obtain ⟨_,_,rfl,h⟩:=dL_some h
  obtain ⟨_,_,rfl,h⟩:=dI_some h
  obtain ⟨_,_,rfl,h⟩:=dI_some h
  obtain ⟨_,_,rfl,h⟩:=dL_some h
  obtain ⟨_,_,rfl,h⟩:=dI_some h
  obtain ⟨_,_,rfl,h⟩:=dI_some h
  obtain ⟨_,_,rfl,h⟩:=dL_some h
  obtain ⟨_,_,rfl,h⟩:=dI_some h
  obtain ⟨_,_,rfl,h⟩:=dI_some h
  obtain ⟨rfl,hE⟩:=dE_some h
  obtain ⟨y,hy,hk⟩:=bnd_some hE
  exact ⟨0,_,_,_,hk,rfl,loop_ok px (fx:=⟨Try.func21,by kernel_rfl,by kernel_rfl⟩) (entsOK_cons e_Z93_ok entsOK_nil) (lentsOK_cons ih lentsOK_nil) (by kernel_rfl) ((q_Z104 ..).trans ((c_Z104_bind ..).trans (bnd_to hy)))⟩
noncomputable def e_Z104:Lent:=m_Z104 (Z104)
theorem e_Z104_ok:(e_Z104).ok Try.prog (codeAt (bodyOf Try.f21) 9):=by
 intro R ds k r h
 unfold e_Z104 m_Z104 at h
 obtain ⟨_,_,rfl,h⟩:=dL_some h
 obtain ⟨_,_,rfl,h⟩:=dL_some h
 obtain ⟨_,_,rfl,h⟩:=dI_some h
 obtain ⟨_,_,rfl,h⟩:=dI_some h
 obtain ⟨_,_,rfl,h⟩:=dL_some h
 obtain ⟨_,_,rfl,h⟩:=dI_some h
 obtain ⟨_,_,rfl,h⟩:=dI_some h
 obtain ⟨_,_,rfl,h⟩:=dL_some h
 obtain ⟨_,_,rfl,h⟩:=dI_some h
 obtain ⟨_,_,rfl,h⟩:=dI_some h
 obtain ⟨rfl,hE⟩:=dE_some h
 obtain ⟨y,hy,hk⟩:=bnd_some hE
 obtain ⟨n,hn⟩:=ev_some hy
 exact m_Z104_ok n R _ k r ((bnd_to hn).trans hk)

/-!-/
abbrev T_Z105:=List D→List D→Int→List D→Int→Int→Option (Int)
def c_Z105 {R:Type} (F:T_Z105) (x0 x1:List D) (x2:Int) (x3:List D) (x4 x5:Int) (k:Int→Option R):Option R:=
 bif decide (x5<x4) then
 if 0≤x5∧x5<(↑x3.length:Int) then
 if (0:Int)≤IntKind.i64.wrap (x5+1)∧IntKind.i64.wrap (x5+1)≤(↑x0.length:Int)∧(↑x0.length:Int)≤(↑x0.length:Int) then
 (Z104 x0 x1 x2 ((x3.getD x5.toNat (D.int 0)).toInt) x3 x4 x5 (List.take (x0.length - (IntKind.i64.wrap (x5+1)).toNat) (List.drop (IntKind.i64.wrap (x5+1)).toNat x0)) (↑(List.take (x0.length - (IntKind.i64.wrap (x5+1)).toNat) (List.drop (IntKind.i64.wrap (x5+1)).toNat x0)).length:Int) (0:Int)).bind (fun y0=>
 (F y0.fst y0.snd.fst y0.snd.snd.fst y0.snd.snd.snd.fst y0.snd.snd.snd.snd.fst (IntKind.i64.wrap (y0.snd.snd.snd.snd.snd+1))).bind k)
 else
 none
 else
 none
 else
 k x2
theorem c_Z105_bind {R:Type} (F:T_Z105) (x0 x1:List D) (x2:Int) (x3:List D) (x4 x5:Int) (k:Int→Option R):c_Z105 F x0 x1 x2 x3 x4 x5 k=(c_Z105 F x0 x1 x2 x3 x4 x5 some).bind k:=by
 unfold c_Z105
 repeat' first|exact bnd_tail|exact bnd_none|exact bnd_leaf|apply bnd_ite|apply bnd_cond|apply bnd_sum|(apply bnd_bind;intro _)|intro _
def n_Z105:Nat→T_Z105
 | 0,_,_,_,_,_,_=>none
 | n+1,x0,x1,x2,x3,x4,x5=>c_Z105 (n_Z105 n) x0 x1 x2 x3 x4 x5 some
noncomputable def Z105 (x0 x1:List D) (x2:Int) (x3:List D) (x4 x5:Int):Option (Int):=ev (fun n=>n_Z105 n x0 x1 x2 x3 x4 x5)
def m_Z105 (F:T_Z105):Lent:=⟨6,⟨(.undef::.rd (.int .i64)::.rd (.int .i64)::uu 7 (.int .i64::uu 23 (.rd (.int .i64)::.int .i64::.int .i64::uu 25 ([])))),[]⟩,[(.exit 0,⟨(uu 10 (.int .i64::uu 51 ([]))),[]⟩)],fun _ ds k=>dL (fun x0 ds=>dL (fun x1 ds=>dI (fun x2 ds=>dL (fun x3 ds=>dI (fun x4 ds=>dI (fun x5 ds=>dE ((F x0 x1 x2 x3 x4 x5).bind (fun y=>k 0 [.I y])) ds) ds) ds) ds) ds) ds) ds⟩
theorem q_Z105 (F:T_Z105) (x0 x1:List D) (x2:Int) (x3:List D) (x4 x5:Int):runLoop (ocOf []) (olOf [m_Z105 F,e_Z104]) A 21 (codeAt (bodyOf Try.f21) 6) ((m_Z105 F).sh.mk' [.L x0,.L x1,.I x2,.L x3,.I x4,.I x5]) (fun e σ'=>some (e,σ'))=c_Z105 F x0 x1 x2 x3 x4 x5 (fun y=>some (.exit 0,SSt.mk' ⟨(uu 10 (.int .i64::uu 51 ([]))),[]⟩ [.I y])):=by kernel_rfl
theorem m_Z105_ok:∀ n,(m_Z105 (n_Z105 n)).ok Try.prog (codeAt (bodyOf Try.f21) 6):=by
 intro n
 induction n with
 | zero=>
  intro R ds k r h
  unfold m_Z105 at h
  obtain ⟨_,_,rfl,h⟩:=dL_some h
  obtain ⟨_,_,rfl,h⟩:=dL_some h
  obtain ⟨_,_,rfl,h⟩:=dI_some h
  obtain ⟨_,_,rfl,h⟩:=dL_some h
  obtain ⟨_,_,rfl,h⟩:=dI_some h
  obtain ⟨_,_,rfl,h⟩:=dI_some h
  obtain ⟨rfl,hE⟩:=dE_some h
  obtain ⟨y,hy,hk⟩:=bnd_some hE
  cases hy
 | succ n ih=>
  intro R ds k r h
  unfold m_Z105 at h
  obtain ⟨_,_,rfl,h⟩:=dL_some h
  obtain ⟨_,_,rfl,h⟩:=dL_some h
  obtain ⟨_,_,rfl,h⟩:=dI_some h
  obtain ⟨_,_,rfl,h⟩:=dL_some h
  obtain ⟨_,_,rfl,h⟩:=dI_some h
  obtain ⟨_,_,rfl,h⟩:=dI_some h
  obtain ⟨rfl,hE⟩:=dE_some h
  obtain ⟨y,hy,hk⟩:=bnd_some hE
  exact ⟨0,_,_,_,hk,rfl,loop_ok px (fx:=⟨Try.func21,by kernel_rfl,by kernel_rfl⟩) entsOK_nil (lentsOK_cons ih (lentsOK_cons e_Z104_ok lentsOK_nil)) (by kernel_rfl) ((q_Z105 ..).trans ((c_Z105_bind ..).trans (bnd_to hy)))⟩
noncomputable def e_Z105:Lent:=m_Z105 (Z105)
theorem e_Z105_ok:(e_Z105).ok Try.prog (codeAt (bodyOf Try.f21) 6):=by
 intro R ds k r h
 unfold e_Z105 m_Z105 at h
 obtain ⟨_,_,rfl,h⟩:=dL_some h
 obtain ⟨_,_,rfl,h⟩:=dL_some h
 obtain ⟨_,_,rfl,h⟩:=dI_some h
 obtain ⟨_,_,rfl,h⟩:=dL_some h
 obtain ⟨_,_,rfl,h⟩:=dI_some h
 obtain ⟨_,_,rfl,h⟩:=dI_some h
 obtain ⟨rfl,hE⟩:=dE_some h
 obtain ⟨y,hy,hk⟩:=bnd_some hE
 obtain ⟨n,hn⟩:=ev_some hy
 exact m_Z105_ok n R _ k r ((bnd_to hn).trans hk)

/-!-/
def c_Z106 {R:Type} (x0 x1 x2 x3:List D) (k:Int×Bool→Option R):Option R:=
 (Z73 x0 x1).bind (Sum.elim (fun y0=>
 bif !y0 then
 k ((0:Int),Bool.false)
 else
 (Z91 x2).bind (fun y1=>
 bif !y1 then
 k ((0:Int),Bool.false)
 else
 (Z91 x3).bind (fun y2=>
 bif !y2 then
 k ((0:Int),Bool.false)
 else
 (Z105 x2 x3 (0:Int) x2 (↑x2.length:Int) (0:Int)).bind (fun y3=>
 k (y3,Bool.true))))) (fun y4=>
 bif !y4.snd.snd.snd.snd.snd then
 k ((0:Int),Bool.false)
 else
 (Z95 y4.fst y4.snd.fst y4.snd.snd.fst y4.snd.snd.snd.fst y4.snd.snd.snd.snd.fst x2).bind (fun y5=>
 bif !y5 then
 k ((0:Int),Bool.false)
 else
 (Z95 y4.fst y4.snd.fst y4.snd.snd.fst y4.snd.snd.snd.fst y4.snd.snd.snd.snd.fst x3).bind (fun y6=>
 bif !y6 then
 k ((0:Int),Bool.false)
 else
 (Z105 x2 x3 (0:Int) x2 (↑x2.length:Int) (0:Int)).bind (fun y7=>
 k (y7,Bool.true))))))
theorem c_Z106_bind {R:Type} (x0 x1 x2 x3:List D) (k:Int×Bool→Option R):c_Z106 x0 x1 x2 x3 k=(c_Z106 x0 x1 x2 x3 some).bind k:=by
 unfold c_Z106
 repeat' first|exact bnd_tail|exact bnd_none|exact bnd_leaf|apply bnd_ite|apply bnd_cond|apply bnd_sum|(apply bnd_bind;intro _)|intro _
def Z106 (x0 x1 x2 x3:List D):Option (Int×Bool):=c_Z106 x0 x1 x2 x3 some
def e_Z106:Ent:=⟨21,[.agg [.rd (.struct [.int .i64,.int .i64]),.rd (.struct [.int .i64,.int .i64])],.rd (.int .i64),.rd (.int .i64)],[(.tup [.int .i64,.bool],[.undef,.undef,.undef])],fun _ ds k=>dL (fun x0 ds=>dL (fun x1 ds=>dL (fun x2 ds=>dL (fun x3 ds=>dE ((Z106 x0 x1 x2 x3).bind (fun y=>k 0 [.I y.1,.B y.2])) ds) ds) ds) ds) ds⟩
theorem q_Z106 (x0 x1 x2 x3:List D):runFn (ocOf [e_Z73,e_Z91,e_Z95]) (olOf [e_Z105]) A 21 Try.f21 (Sh.mks e_Z106.sh [.L x0,.L x1,.L x2,.L x3]).1 (fun v os=>some (v,os))=c_Z106 x0 x1 x2 x3 (fun y=>retO e_Z106 0 [.I y.1,.B y.2]):=by kernel_rfl
theorem e_Z106_ok:e_Z106.ok Try.prog A:=by
 intro R ds k r h
 unfold e_Z106 at h
 obtain ⟨_,_,rfl,h⟩:=dL_some h
 obtain ⟨_,_,rfl,h⟩:=dL_some h
 obtain ⟨_,_,rfl,h⟩:=dL_some h
 obtain ⟨_,_,rfl,h⟩:=dL_some h
 obtain ⟨rfl,hE⟩:=dE_some h
 obtain ⟨y,hy,hk⟩:=bnd_some hE
 exact ⟨0,_,_,_,hk,rfl,fn_ok px (fx:=⟨Try.func21,by kernel_rfl,by kernel_rfl⟩) (entsOK_cons e_Z73_ok (entsOK_cons e_Z91_ok (entsOK_cons e_Z95_ok entsOK_nil))) (lentsOK_cons e_Z105_ok lentsOK_nil) ((q_Z106 ..).trans ((c_Z106_bind ..).trans (bnd_to hy)))⟩

/-!-/
abbrev T_Z107:=Int→Bool→Int→Int→Int→Int→Int→Int→List D→List D→List D→List D→List D→Option (Int×Bool×Int×Int×Int×Int×List D×List D×List D×List D×List D)
def c_Z107 {R:Type} (F:T_Z107) (x0:Int) (x1:Bool) (x2 x3 x4 x5 x6 x7:Int) (x8 x9 x10 x11 x12:List D) (k:Int×Bool×Int×Int×Int×Int×List D×List D×List D×List D×List D→Option R):Option R:=
 bif decide (x7<x6) then
 bif x1 then
 if 0≤x7∧x7<(↑x11.length:Int) then
 if x7.toNat+1≤x11.length then
 bif (x11.getD x7.toNat (D.int 0)).toBool then
 (F x0 Bool.true x2 x3 x4 x5 x6 (IntKind.i64.wrap (x7+1)) x8 x9 x10 x11 x12).bind k
 else
 if 0≤x7∧x7<(↑x10.length:Int) then
 if x7.toNat+1≤x10.length then
 if x7.toNat+1≤x10.length then
 if 0≤x0∧x0<(↑(x10.getD x7.toNat (D.int 0)).items.length:Int) then
 if x7.toNat+1≤x10.length then
 if x0.toNat+1≤(x10.getD x7.toNat (D.int 0)).items.length then
 (F x0 (!((x10.getD x7.toNat (D.int 0)).items.getD x0.toNat (D.int 0)).toBool) x2 x3 x4 x5 x6 (IntKind.i64.wrap (x7+1)) x8 x9 x10 x11 x12).bind k
 else
 none
 else
 none
 else
 none
 else
 none
 else
 none
 else
 none
 else
 none
 else
 none
 else
 (F x0 Bool.false x2 x3 x4 x5 x6 (IntKind.i64.wrap (x7+1)) x8 x9 x10 x11 x12).bind k
 else
 k (x0,x1,x2,x3,x4,x5,x8,x9,x10,x11,x12)
theorem c_Z107_bind {R:Type} (F:T_Z107) (x0:Int) (x1:Bool) (x2 x3 x4 x5 x6 x7:Int) (x8 x9 x10 x11 x12:List D) (k:Int×Bool×Int×Int×Int×Int×List D×List D×List D×List D×List D→Option R):c_Z107 F x0 x1 x2 x3 x4 x5 x6 x7 x8 x9 x10 x11 x12 k=(c_Z107 F x0 x1 x2 x3 x4 x5 x6 x7 x8 x9 x10 x11 x12 some).bind k:=by
 unfold c_Z107
 repeat' first|exact bnd_tail|exact bnd_none|exact bnd_leaf|apply bnd_ite|apply bnd_cond|apply bnd_sum|(apply bnd_bind;intro _)|intro _
def n_Z107:Nat→T_Z107
 | 0,_,_,_,_,_,_,_,_,_,_,_,_,_=>none
 | n+1,x0,x1,x2,x3,x4,x5,x6,x7,x8,x9,x10,x11,x12=>c_Z107 (n_Z107 n) x0 x1 x2 x3 x4 x5 x6 x7 x8 x9 x10 x11 x12 some
noncomputable def Z107 (x0:Int) (x1:Bool) (x2 x3 x4 x5 x6 x7:Int) (x8 x9 x10 x11 x12:List D):Option (Int×Bool×Int×Int×Int×Int×List D×List D×List D×List D×List D):=ev (fun n=>n_Z107 n x0 x1 x2 x3 x4 x5 x6 x7 x8 x9 x10 x11 x12)
def m_Z107 (F:T_Z107):Lent:=⟨13,⟨(uu 4 (.ptr 1000 [0]::.undef::.full 1001 [] (.bool)::.full 1002 [] (.int .i64)::.int .i64::.bool::uu 19 (.int .i64::.int .i64::uu 5 (.int .i64::.int .i64::uu 11 (.int .i64::.int .i64::uu 40 ([])))))),[(1000,.obox (.agg [.own (.int .i64),.own (.slice (.bool)),.own (.slice (.bool))])),(1001,.own (.bool)),(1002,.own (.int .i64))]⟩,[(.exit 4,⟨(uu 4 (.ptr 1000 [0]::.undef::.full 1001 [] (.bool)::.full 1002 [] (.int .i64)::.int .i64::.bool::uu 19 (.int .i64::.int .i64::uu 5 (.int .i64::.int .i64::uu 53 ([]))))),[(1000,.obox (.agg [.own (.int .i64),.own (.slice (.bool)),.own (.slice (.bool))])),(1001,.own (.bool)),(1002,.own (.int .i64))]⟩)],fun _ ds k=>dI (fun x0 ds=>dB (fun x1 ds=>dI (fun x2 ds=>dI (fun x3 ds=>dI (fun x4 ds=>dI (fun x5 ds=>dI (fun x6 ds=>dI (fun x7 ds=>dL (fun x8 ds=>dL (fun x9 ds=>dL (fun x10 ds=>dL (fun x11 ds=>dL (fun x12 ds=>dE ((F x0 x1 x2 x3 x4 x5 x6 x7 x8 x9 x10 x11 x12).bind (fun y=>k 0 [.I y.1,.B y.2.1,.I y.2.2.1,.I y.2.2.2.1,.I y.2.2.2.2.1,.I y.2.2.2.2.2.1,.L y.2.2.2.2.2.2.1,.L y.2.2.2.2.2.2.2.1,.L y.2.2.2.2.2.2.2.2.1,.L y.2.2.2.2.2.2.2.2.2.1,.L y.2.2.2.2.2.2.2.2.2.2])) ds) ds) ds) ds) ds) ds) ds) ds) ds) ds) ds) ds) ds) ds⟩
theorem q_Z107 (F:T_Z107) (x0:Int) (x1:Bool) (x2 x3 x4 x5 x6 x7:Int) (x8 x9 x10 x11 x12:List D):runLoop (ocOf []) (olOf [m_Z107 F]) A 22 (codeAt (bodyOf Try.f22) 13) ((m_Z107 F).sh.mk' [.I x0,.B x1,.I x2,.I x3,.I x4,.I x5,.I x6,.I x7,.L x8,.L x9,.L x10,.L x11,.L x12]) (fun e σ'=>some (e,σ'))=c_Z107 F x0 x1 x2 x3 x4 x5 x6 x7 x8 x9 x10 x11 x12 (fun y=>some (.exit 4,SSt.mk' ⟨(uu 4 (.ptr 1000 [0]::.undef::.full 1001 [] (.bool)::.full 1002 [] (.int .i64)::.int .i64::.bool::uu 19 (.int .i64::.int .i64::uu 5 (.int .i64::.int .i64::uu 53 ([]))))),[(1000,.obox (.agg [.own (.int .i64),.own (.slice (.bool)),.own (.slice (.bool))])),(1001,.own (.bool)),(1002,.own (.int .i64))]⟩ [.I y.1,.B y.2.1,.I y.2.2.1,.I y.2.2.2.1,.I y.2.2.2.2.1,.I y.2.2.2.2.2.1,.L y.2.2.2.2.2.2.1,.L y.2.2.2.2.2.2.2.1,.L y.2.2.2.2.2.2.2.2.1,.L y.2.2.2.2.2.2.2.2.2.1,.L y.2.2.2.2.2.2.2.2.2.2])):=by kernel_rfl
theorem m_Z107_ok:∀ n,(m_Z107 (n_Z107 n)).ok Try.prog (codeAt (bodyOf Try.f22) 13):=by
 intro n
 induction n with
 | zero=>
  intro R ds k r h
  unfold m_Z107 at h
  obtain ⟨_,_,rfl,h⟩:=dI_some h
  obtain ⟨_,_,rfl,h⟩:=dB_some h
  obtain ⟨_,_,rfl,h⟩:=dI_some h
  obtain ⟨_,_,rfl,h⟩:=dI_some h
  obtain ⟨_,_,rfl,h⟩:=dI_some h
  obtain ⟨_,_,rfl,h⟩:=dI_some h
  obtain ⟨_,_,rfl,h⟩:=dI_some h
  obtain ⟨_,_,rfl,h⟩:=dI_some h
  obtain ⟨_,_,rfl,h⟩:=dL_some h
  obtain ⟨_,_,rfl,h⟩:=dL_some h
  obtain ⟨_,_,rfl,h⟩:=dL_some h
  obtain ⟨_,_,rfl,h⟩:=dL_some h
  obtain ⟨_,_,rfl,h⟩:=dL_some h
  obtain ⟨rfl,hE⟩:=dE_some h
  obtain ⟨y,hy,hk⟩:=bnd_some hE
  cases hy
 | succ n ih=>
  intro R ds k r h
  unfold m_Z107 at h
  obtain ⟨_,_,rfl,h⟩:=dI_some h
  obtain ⟨_,_,rfl,h⟩:=dB_some h
  obtain ⟨_,_,rfl,h⟩:=dI_some h
  obtain ⟨_,_,rfl,h⟩:=dI_some h
  obtain ⟨_,_,rfl,h⟩:=dI_some h
  obtain ⟨_,_,rfl,h⟩:=dI_some h
  obtain ⟨_,_,rfl,h⟩:=dI_some h
  obtain ⟨_,_,rfl,h⟩:=dI_some h
  obtain ⟨_,_,rfl,h⟩:=dL_some h
  obtain ⟨_,_,rfl,h⟩:=dL_some h
  obtain ⟨_,_,rfl,h⟩:=dL_some h
  obtain ⟨_,_,rfl,h⟩:=dL_some h
  obtain ⟨_,_,rfl,h⟩:=dL_some h
  obtain ⟨rfl,hE⟩:=dE_some h
  obtain ⟨y,hy,hk⟩:=bnd_some hE
  exact ⟨0,_,_,_,hk,rfl,loop_ok px (fx:=⟨Try.func22,by kernel_rfl,by kernel_rfl⟩) entsOK_nil (lentsOK_cons ih lentsOK_nil) (by kernel_rfl) ((q_Z107 ..).trans ((c_Z107_bind ..).trans (bnd_to hy)))⟩
noncomputable def e_Z107:Lent:=m_Z107 (Z107)
theorem e_Z107_ok:(e_Z107).ok Try.prog (codeAt (bodyOf Try.f22) 13):=by
 intro R ds k r h
 unfold e_Z107 m_Z107 at h
 obtain ⟨_,_,rfl,h⟩:=dI_some h
 obtain ⟨_,_,rfl,h⟩:=dB_some h
 obtain ⟨_,_,rfl,h⟩:=dI_some h
 obtain ⟨_,_,rfl,h⟩:=dI_some h
 obtain ⟨_,_,rfl,h⟩:=dI_some h
 obtain ⟨_,_,rfl,h⟩:=dI_some h
 obtain ⟨_,_,rfl,h⟩:=dI_some h
 obtain ⟨_,_,rfl,h⟩:=dI_some h
 obtain ⟨_,_,rfl,h⟩:=dL_some h
 obtain ⟨_,_,rfl,h⟩:=dL_some h
 obtain ⟨_,_,rfl,h⟩:=dL_some h
 obtain ⟨_,_,rfl,h⟩:=dL_some h
 obtain ⟨_,_,rfl,h⟩:=dL_some h
 obtain ⟨rfl,hE⟩:=dE_some h
 obtain ⟨y,hy,hk⟩:=bnd_some hE
 obtain ⟨n,hn⟩:=ev_some hy
 exact m_Z107_ok n R _ k r ((bnd_to hn).trans hk)

/-!-/
abbrev T_Z108:=Int→Int→Int→Int→List D→List D→List D→List D→List D→Option (Int×Int×List D×List D×List D×List D×List D)
def c_Z108 {R:Type} (F:T_Z108) (x0 x1 x2 x3:Int) (x4 x5 x6 x7 x8:List D) (k:Int×Int×List D×List D×List D×List D×List D→Option R):Option R:=
 bif decide (x3<x2) then
 if 0≤x3∧x3<(↑x7.length:Int) then
 if x3.toNat+1≤x7.length then
 (Z107 x3 (!(x7.getD x3.toNat (D.int 0)).toBool) x0 x1 x2 x3 (↑x4.length:Int) (0:Int) x4 x5 x6 x7 x8).bind (fun y0=>
 bif y0.snd.fst then
 if 0≤y0.fst∧y0.fst<(↑y0.snd.snd.snd.snd.snd.snd.snd.snd.snd.fst.length:Int) then
 if y0.fst.toNat+1≤y0.snd.snd.snd.snd.snd.snd.snd.snd.snd.fst.length then
 if 0≤y0.fst∧y0.fst<(↑y0.snd.snd.snd.snd.snd.snd.fst.length:Int) then
 if y0.fst.toNat+1≤y0.snd.snd.snd.snd.snd.snd.fst.length then
 if y0.snd.snd.snd.snd.snd.snd.snd.snd.snd.snd.length+[D.int (y0.snd.snd.snd.snd.snd.snd.fst.getD y0.fst.toNat (D.int 0)).toInt].length≤(4294967296:Nat) then
 k (y0.snd.snd.fst,y0.snd.snd.snd.fst,y0.snd.snd.snd.snd.snd.snd.fst,y0.snd.snd.snd.snd.snd.snd.snd.fst,y0.snd.snd.snd.snd.snd.snd.snd.snd.fst,y0.snd.snd.snd.snd.snd.snd.snd.snd.snd.fst.set y0.fst.toNat (D.bool Bool.true),y0.snd.snd.snd.snd.snd.snd.snd.snd.snd.snd++[D.int (y0.snd.snd.snd.snd.snd.snd.fst.getD y0.fst.toNat (D.int 0)).toInt])
 else
 none
 else
 none
 else
 none
 else
 none
 else
 none
 else
 (F y0.snd.snd.fst y0.snd.snd.snd.fst y0.snd.snd.snd.snd.fst (IntKind.i64.wrap (y0.snd.snd.snd.snd.snd.fst+1)) y0.snd.snd.snd.snd.snd.snd.fst y0.snd.snd.snd.snd.snd.snd.snd.fst y0.snd.snd.snd.snd.snd.snd.snd.snd.fst y0.snd.snd.snd.snd.snd.snd.snd.snd.snd.fst y0.snd.snd.snd.snd.snd.snd.snd.snd.snd.snd).bind k)
 else
 none
 else
 none
 else
 k (x0,x1,x4,x5,x6,x7,x8)
theorem c_Z108_bind {R:Type} (F:T_Z108) (x0 x1 x2 x3:Int) (x4 x5 x6 x7 x8:List D) (k:Int×Int×List D×List D×List D×List D×List D→Option R):c_Z108 F x0 x1 x2 x3 x4 x5 x6 x7 x8 k=(c_Z108 F x0 x1 x2 x3 x4 x5 x6 x7 x8 some).bind k:=by
 unfold c_Z108
 repeat' first|exact bnd_tail|exact bnd_none|exact bnd_leaf|apply bnd_ite|apply bnd_cond|apply bnd_sum|(apply bnd_bind;intro _)|intro _
def n_Z108:Nat→T_Z108
 | 0,_,_,_,_,_,_,_,_,_=>none
 | n+1,x0,x1,x2,x3,x4,x5,x6,x7,x8=>c_Z108 (n_Z108 n) x0 x1 x2 x3 x4 x5 x6 x7 x8 some
noncomputable def Z108 (x0 x1 x2 x3:Int) (x4 x5 x6 x7 x8:List D):Option (Int×Int×List D×List D×List D×List D×List D):=ev (fun n=>n_Z108 n x0 x1 x2 x3 x4 x5 x6 x7 x8)
def m_Z108 (F:T_Z108):Lent:=⟨9,⟨(uu 4 (.ptr 1000 [0]::.undef::.full 1001 [] (.bool)::.full 1002 [] (.int .i64)::uu 21 (.int .i64::.int .i64::uu 5 (.int .i64::.int .i64::uu 53 ([]))))),[(1000,.obox (.agg [.own (.int .i64),.own (.slice (.bool)),.own (.slice (.bool))])),(1001,.own (.bool)),(1002,.own (.int .i64))]⟩,[(.exit 2,⟨(uu 4 (.ptr 1000 [0]::.undef::.full 1001 [] (.bool)::.full 1002 [] (.int .i64)::uu 21 (.int .i64::.int .i64::uu 60 ([])))),[(1000,.obox (.agg [.own (.int .i64),.own (.slice (.bool)),.own (.slice (.bool))])),(1001,.own (.bool)),(1002,.own (.int .i64))]⟩)],fun _ ds k=>dI (fun x0 ds=>dI (fun x1 ds=>dI (fun x2 ds=>dI (fun x3 ds=>dL (fun x4 ds=>dL (fun x5 ds=>dL (fun x6 ds=>dL (fun x7 ds=>dL (fun x8 ds=>dE ((F x0 x1 x2 x3 x4 x5 x6 x7 x8).bind (fun y=>k 0 [.I y.1,.I y.2.1,.L y.2.2.1,.L y.2.2.2.1,.L y.2.2.2.2.1,.L y.2.2.2.2.2.1,.L y.2.2.2.2.2.2])) ds) ds) ds) ds) ds) ds) ds) ds) ds) ds⟩
theorem q_Z108 (F:T_Z108) (x0 x1 x2 x3:Int) (x4 x5 x6 x7 x8:List D):runLoop (ocOf []) (olOf [m_Z108 F,e_Z107]) A 22 (codeAt (bodyOf Try.f22) 9) ((m_Z108 F).sh.mk' [.I x0,.I x1,.I x2,.I x3,.L x4,.L x5,.L x6,.L x7,.L x8]) (fun e σ'=>some (e,σ'))=c_Z108 F x0 x1 x2 x3 x4 x5 x6 x7 x8 (fun y=>some (.exit 2,SSt.mk' ⟨(uu 4 (.ptr 1000 [0]::.undef::.full 1001 [] (.bool)::.full 1002 [] (.int .i64)::uu 21 (.int .i64::.int .i64::uu 60 ([])))),[(1000,.obox (.agg [.own (.int .i64),.own (.slice (.bool)),.own (.slice (.bool))])),(1001,.own (.bool)),(1002,.own (.int .i64))]⟩ [.I y.1,.I y.2.1,.L y.2.2.1,.L y.2.2.2.1,.L y.2.2.2.2.1,.L y.2.2.2.2.2.1,.L y.2.2.2.2.2.2])):=by kernel_rfl
theorem m_Z108_ok:∀ n,(m_Z108 (n_Z108 n)).ok Try.prog (codeAt (bodyOf Try.f22) 9):=by
 intro n
 induction n with
 | zero=>
  intro R ds k r h
  unfold m_Z108 at h
  obtain ⟨_,_,rfl,h⟩:=dI_some h
  obtain ⟨_,_,rfl,h⟩:=dI_some h
  obtain ⟨_,_,rfl,h⟩:=dI_some h
  obtain ⟨_,_,rfl,h⟩:=dI_some h
  obtain ⟨_,_,rfl,h⟩:=dL_some h
  obtain ⟨_,_,rfl,h⟩:=dL_some h
  obtain ⟨_,_,rfl,h⟩:=dL_some h
  obtain ⟨_,_,rfl,h⟩:=dL_some h
  obtain ⟨_,_,rfl,h⟩:=dL_some h
  obtain ⟨rfl,hE⟩:=dE_some h
  obtain ⟨y,hy,hk⟩:=bnd_some hE
  cases hy
 | succ n ih=>
  intro R ds k r h
  unfold m_Z108 at h
  obtain ⟨_,_,rfl,h⟩:=dI_some h
  obtain ⟨_,_,rfl,h⟩:=dI_some h
  obtain ⟨_,_,rfl,h⟩:=dI_some h
  obtain ⟨_,_,rfl,h⟩:=dI_some h
  obtain ⟨_,_,rfl,h⟩:=dL_some h
  obtain ⟨_,_,rfl,h⟩:=dL_some h
  obtain ⟨_,_,rfl,h⟩:=dL_some h
  obtain ⟨_,_,rfl,h⟩:=dL_some h
  obtain ⟨_,_,rfl,h⟩:=dL_some h
  obtain ⟨rfl,hE⟩:=dE_some h
  obtain ⟨y,hy,hk⟩:=bnd_some hE
  exact ⟨0,_,_,_,hk,rfl,loop_ok px (fx:=⟨Try.func22,by kernel_rfl,by kernel_rfl⟩) entsOK_nil (lentsOK_cons ih (lentsOK_cons e_Z107_ok lentsOK_nil)) (by kernel_rfl) ((q_Z108 ..).trans ((c_Z108_bind ..).trans (bnd_to hy)))⟩
noncomputable def e_Z108:Lent:=m_Z108 (Z108)
theorem e_Z108_ok:(e_Z108).ok Try.prog (codeAt (bodyOf Try.f22) 9):=by
 intro R ds k r h
 unfold e_Z108 m_Z108 at h
 obtain ⟨_,_,rfl,h⟩:=dI_some h
 obtain ⟨_,_,rfl,h⟩:=dI_some h
 obtain ⟨_,_,rfl,h⟩:=dI_some h
 obtain ⟨_,_,rfl,h⟩:=dI_some h
 obtain ⟨_,_,rfl,h⟩:=dL_some h
 obtain ⟨_,_,rfl,h⟩:=dL_some h
 obtain ⟨_,_,rfl,h⟩:=dL_some h
 obtain ⟨_,_,rfl,h⟩:=dL_some h
 obtain ⟨_,_,rfl,h⟩:=dL_some h
 obtain ⟨rfl,hE⟩:=dE_some h
 obtain ⟨y,hy,hk⟩:=bnd_some hE
 obtain ⟨n,hn⟩:=ev_some hy
 exact m_Z108_ok n R _ k r ((bnd_to hn).trans hk)

/-!-/
abbrev T_Z109:=Int→Int→List D→List D→List D→List D→List D→Option (List D)
def c_Z109 {R:Type} (F:T_Z109) (x0 x1:Int) (x2 x3 x4 x5 x6:List D) (k:List D→Option R):Option R:=
 bif decide (x1<x0) then
 (Z108 x0 x1 (↑x2.length:Int) (0:Int) x2 x3 x4 x5 x6).bind (fun y0=>
 (F y0.fst (IntKind.i64.wrap (y0.snd.fst+1)) y0.snd.snd.fst y0.snd.snd.snd.fst y0.snd.snd.snd.snd.fst y0.snd.snd.snd.snd.snd.fst y0.snd.snd.snd.snd.snd.snd).bind k)
 else
 k x6
theorem c_Z109_bind {R:Type} (F:T_Z109) (x0 x1:Int) (x2 x3 x4 x5 x6:List D) (k:List D→Option R):c_Z109 F x0 x1 x2 x3 x4 x5 x6 k=(c_Z109 F x0 x1 x2 x3 x4 x5 x6 some).bind k:=by
 unfold c_Z109
 repeat' first|exact bnd_tail|exact bnd_none|exact bnd_leaf|apply bnd_ite|apply bnd_cond|apply bnd_sum|(apply bnd_bind;intro _)|intro _
def n_Z109:Nat→T_Z109
 | 0,_,_,_,_,_,_,_=>none
 | n+1,x0,x1,x2,x3,x4,x5,x6=>c_Z109 (n_Z109 n) x0 x1 x2 x3 x4 x5 x6 some
noncomputable def Z109 (x0 x1:Int) (x2 x3 x4 x5 x6:List D):Option (List D):=ev (fun n=>n_Z109 n x0 x1 x2 x3 x4 x5 x6)
def m_Z109 (F:T_Z109):Lent:=⟨7,⟨(uu 4 (.ptr 1000 [0]::.undef::.full 1001 [] (.bool)::.full 1002 [] (.int .i64)::uu 21 (.int .i64::.int .i64::uu 60 ([])))),[(1000,.obox (.agg [.own (.int .i64),.own (.slice (.bool)),.own (.slice (.bool))])),(1001,.own (.bool)),(1002,.own (.int .i64))]⟩,[(.exit 0,⟨(uu 7 (.full 1000 [] (.int .i64)::uu 83 ([]))),[(1000,.own (.int .i64))]⟩)],fun _ ds k=>dI (fun x0 ds=>dI (fun x1 ds=>dL (fun x2 ds=>dL (fun x3 ds=>dL (fun x4 ds=>dL (fun x5 ds=>dL (fun x6 ds=>dE ((F x0 x1 x2 x3 x4 x5 x6).bind (fun y=>k 0 [.L y])) ds) ds) ds) ds) ds) ds) ds) ds⟩
theorem q_Z109 (F:T_Z109) (x0 x1:Int) (x2 x3 x4 x5 x6:List D):runLoop (ocOf []) (olOf [m_Z109 F,e_Z108]) A 22 (codeAt (bodyOf Try.f22) 7) ((m_Z109 F).sh.mk' [.I x0,.I x1,.L x2,.L x3,.L x4,.L x5,.L x6]) (fun e σ'=>some (e,σ'))=c_Z109 F x0 x1 x2 x3 x4 x5 x6 (fun y=>some (.exit 0,SSt.mk' ⟨(uu 7 (.full 1000 [] (.int .i64)::uu 83 ([]))),[(1000,.own (.int .i64))]⟩ [.L y])):=by kernel_rfl
theorem m_Z109_ok:∀ n,(m_Z109 (n_Z109 n)).ok Try.prog (codeAt (bodyOf Try.f22) 7):=by
 intro n
 induction n with
 | zero=>
  intro R ds k r h
  unfold m_Z109 at h
  obtain ⟨_,_,rfl,h⟩:=dI_some h
  obtain ⟨_,_,rfl,h⟩:=dI_some h
  obtain ⟨_,_,rfl,h⟩:=dL_some h
  obtain ⟨_,_,rfl,h⟩:=dL_some h
  obtain ⟨_,_,rfl,h⟩:=dL_some h
  obtain ⟨_,_,rfl,h⟩:=dL_some h
  obtain ⟨_,_,rfl,h⟩:=dL_some h
  obtain ⟨rfl,hE⟩:=dE_some h
  obtain ⟨y,hy,hk⟩:=bnd_some hE
  cases hy
 | succ n ih=>
  intro R ds k r h
  unfold m_Z109 at h
  obtain ⟨_,_,rfl,h⟩:=dI_some h
  obtain ⟨_,_,rfl,h⟩:=dI_some h
  obtain ⟨_,_,rfl,h⟩:=dL_some h
  obtain ⟨_,_,rfl,h⟩:=dL_some h
  obtain ⟨_,_,rfl,h⟩:=dL_some h
  obtain ⟨_,_,rfl,h⟩:=dL_some h
  obtain ⟨_,_,rfl,h⟩:=dL_some h
  obtain ⟨rfl,hE⟩:=dE_some h
  obtain ⟨y,hy,hk⟩:=bnd_some hE
  exact ⟨0,_,_,_,hk,rfl,loop_ok px (fx:=⟨Try.func22,by kernel_rfl,by kernel_rfl⟩) entsOK_nil (lentsOK_cons ih (lentsOK_cons e_Z108_ok lentsOK_nil)) (by kernel_rfl) ((q_Z109 ..).trans ((c_Z109_bind ..).trans (bnd_to hy)))⟩
noncomputable def e_Z109:Lent:=m_Z109 (Z109)
theorem e_Z109_ok:(e_Z109).ok Try.prog (codeAt (bodyOf Try.f22) 7):=by
 intro R ds k r h
 unfold e_Z109 m_Z109 at h
 obtain ⟨_,_,rfl,h⟩:=dI_some h
 obtain ⟨_,_,rfl,h⟩:=dI_some h
 obtain ⟨_,_,rfl,h⟩:=dL_some h
 obtain ⟨_,_,rfl,h⟩:=dL_some h
 obtain ⟨_,_,rfl,h⟩:=dL_some h
 obtain ⟨_,_,rfl,h⟩:=dL_some h
 obtain ⟨_,_,rfl,h⟩:=dL_some h
 obtain ⟨rfl,hE⟩:=dE_some h
 obtain ⟨y,hy,hk⟩:=bnd_some hE
 obtain ⟨n,hn⟩:=ev_some hy
 exact m_Z109_ok n R _ k r ((bnd_to hn).trans hk)

/-!-/
def c_Z110 {R:Type} (x0 x1:List D) (k:List D×Bool→Option R):Option R:=
 (Z65 x0 x1).bind (Sum.elim (fun y0=>
 bif !y0 then
 k ([],Bool.false)
 else
 none) (fun y1=>
 bif !y1.snd.snd.snd then
 k ([],Bool.false)
 else
 if (0:Int)≤(↑y1.fst.length:Int)∧(↑y1.fst.length:Int)≤(↑y1.fst.length:Int)∧(↑y1.fst.length:Int)≤(4294967296:Int) then
 (Z109 (↑y1.fst.length:Int) (0:Int) y1.fst y1.snd.fst y1.snd.snd.fst (List.replicate (↑y1.fst.length:Int).toNat (D.bool Bool.false)) []).bind (fun y2=>
 k (y2,Bool.true))
 else
 none))
theorem c_Z110_bind {R:Type} (x0 x1:List D) (k:List D×Bool→Option R):c_Z110 x0 x1 k=(c_Z110 x0 x1 some).bind k:=by
 unfold c_Z110
 repeat' first|exact bnd_tail|exact bnd_none|exact bnd_leaf|apply bnd_ite|apply bnd_cond|apply bnd_sum|(apply bnd_bind;intro _)|intro _
def Z110 (x0 x1:List D):Option (List D×Bool):=c_Z110 x0 x1 some
def e_Z110:Ent:=⟨22,[.agg [.rd (.struct [.int .i64,.int .i64]),.rd (.struct [.int .i64,.int .i64])]],[(.tup [.own (.int .i64),.bool],[.undef])],fun _ ds k=>dL (fun x0 ds=>dL (fun x1 ds=>dE ((Z110 x0 x1).bind (fun y=>k 0 [.L y.1,.B y.2])) ds) ds) ds⟩
theorem q_Z110 (x0 x1:List D):runFn (ocOf [e_Z65]) (olOf [e_Z109]) A 22 Try.f22 (Sh.mks e_Z110.sh [.L x0,.L x1]).1 (fun v os=>some (v,os))=c_Z110 x0 x1 (fun y=>retO e_Z110 0 [.L y.1,.B y.2]):=by kernel_rfl
theorem e_Z110_ok:e_Z110.ok Try.prog A:=by
 intro R ds k r h
 unfold e_Z110 at h
 obtain ⟨_,_,rfl,h⟩:=dL_some h
 obtain ⟨_,_,rfl,h⟩:=dL_some h
 obtain ⟨rfl,hE⟩:=dE_some h
 obtain ⟨y,hy,hk⟩:=bnd_some hE
 exact ⟨0,_,_,_,hk,rfl,fn_ok px (fx:=⟨Try.func22,by kernel_rfl,by kernel_rfl⟩) (entsOK_cons e_Z65_ok entsOK_nil) (lentsOK_cons e_Z109_ok lentsOK_nil) ((q_Z110 ..).trans ((c_Z110_bind ..).trans (bnd_to hy)))⟩

/-!-/
abbrev T_Z111:=List D→List D→Int→Option ((Bool)⊕(Unit))
def c_Z111 {R:Type} (F:T_Z111) (x0 x1:List D) (x2:Int) (k:(Bool)⊕(Unit)→Option R):Option R:=
 bif decide (x2<(↑x0.length:Int)) then
 if 0≤x2∧x2<(↑x0.length:Int) then
 if 0≤x2∧x2<(↑x1.length:Int) then
 bif !decide ((x0.getD x2.toNat (D.int 0)).toInt=(x1.getD x2.toNat (D.int 0)).toInt) then
 k (.inl Bool.false)
 else
 (F x0 x1 (IntKind.i64.wrap (x2+1))).bind k
 else
 none
 else
 none
 else
 k (.inr ())
theorem c_Z111_bind {R:Type} (F:T_Z111) (x0 x1:List D) (x2:Int) (k:(Bool)⊕(Unit)→Option R):c_Z111 F x0 x1 x2 k=(c_Z111 F x0 x1 x2 some).bind k:=by
 unfold c_Z111
 repeat' first|exact bnd_tail|exact bnd_none|exact bnd_leaf|apply bnd_ite|apply bnd_cond|apply bnd_sum|(apply bnd_bind;intro _)|intro _
def n_Z111:Nat→T_Z111
 | 0,_,_,_=>none
 | n+1,x0,x1,x2=>c_Z111 (n_Z111 n) x0 x1 x2 some
noncomputable def Z111 (x0 x1:List D) (x2:Int):Option ((Bool)⊕(Unit)):=ev (fun n=>n_Z111 n x0 x1 x2)
def m_Z111 (F:T_Z111):Lent:=⟨4,⟨(.rd (.int .i64)::.rd (.int .i64)::.undef::.undef::.undef::.int .i64::uu 20 ([])),[]⟩,[(.ret,⟨(uu 4 (.bool::uu 21 ([]))),[]⟩),(.exit 0,⟨(uu 26 ([])),[]⟩)],fun _ ds k=>dL (fun x0 ds=>dL (fun x1 ds=>dI (fun x2 ds=>dE ((F x0 x1 x2).bind (Sum.elim (fun y=>k 0 [.B y]) (fun y=>k 1 []))) ds) ds) ds) ds⟩
theorem q_Z111 (F:T_Z111) (x0 x1:List D) (x2:Int):runLoop (ocOf []) (olOf [m_Z111 F]) A 23 (codeAt (bodyOf Try.f23) 4) ((m_Z111 F).sh.mk' [.L x0,.L x1,.I x2]) (fun e σ'=>some (e,σ'))=c_Z111 F x0 x1 x2 (Sum.elim (fun y=>some (.ret,SSt.mk' ⟨(uu 4 (.bool::uu 21 ([]))),[]⟩ [.B y])) (fun y=>some (.exit 0,SSt.mk' ⟨(uu 26 ([])),[]⟩ []))):=by kernel_rfl
theorem m_Z111_ok:∀ n,(m_Z111 (n_Z111 n)).ok Try.prog (codeAt (bodyOf Try.f23) 4):=by
 intro n
 induction n with
 | zero=>
  intro R ds k r h
  unfold m_Z111 at h
  obtain ⟨_,_,rfl,h⟩:=dL_some h
  obtain ⟨_,_,rfl,h⟩:=dL_some h
  obtain ⟨_,_,rfl,h⟩:=dI_some h
  obtain ⟨rfl,hE⟩:=dE_some h
  obtain ⟨y,hy,hk⟩:=bnd_some hE
  cases hy
 | succ n ih=>
  intro R ds k r h
  unfold m_Z111 at h
  obtain ⟨_,_,rfl,h⟩:=dL_some h
  obtain ⟨_,_,rfl,h⟩:=dL_some h
  obtain ⟨_,_,rfl,h⟩:=dI_some h
  obtain ⟨rfl,hE⟩:=dE_some h
  obtain ⟨y,hy,hk⟩:=bnd_some hE
  cases y with
  | inl y=>
   exact ⟨0,_,_,_,hk,rfl,loop_ok px (fx:=⟨Try.func23,by kernel_rfl,by kernel_rfl⟩) entsOK_nil (lentsOK_cons ih lentsOK_nil) (by kernel_rfl) ((q_Z111 ..).trans ((c_Z111_bind ..).trans (bnd_to hy)))⟩
  | inr y=>
   exact ⟨1,_,_,_,hk,rfl,loop_ok px (fx:=⟨Try.func23,by kernel_rfl,by kernel_rfl⟩) entsOK_nil (lentsOK_cons ih lentsOK_nil) (by kernel_rfl) ((q_Z111 ..).trans ((c_Z111_bind ..).trans (bnd_to hy)))⟩
noncomputable def e_Z111:Lent:=m_Z111 (Z111)
theorem e_Z111_ok:(e_Z111).ok Try.prog (codeAt (bodyOf Try.f23) 4):=by
 intro R ds k r h
 unfold e_Z111 m_Z111 at h
 obtain ⟨_,_,rfl,h⟩:=dL_some h
 obtain ⟨_,_,rfl,h⟩:=dL_some h
 obtain ⟨_,_,rfl,h⟩:=dI_some h
 obtain ⟨rfl,hE⟩:=dE_some h
 obtain ⟨y,hy,hk⟩:=bnd_some hE
 obtain ⟨n,hn⟩:=ev_some hy
 exact m_Z111_ok n R _ k r ((bnd_to hn).trans hk)

/-!-/
def c_Z112 {R:Type} (x0 x1:List D) (k:Bool→Option R):Option R:=
 bif !decide ((↑x0.length:Int)=(↑x1.length:Int)) then
 k Bool.false
 else
 (Z111 x0 x1 (0:Int)).bind (Sum.elim (fun y0=>
 k y0) (fun y1=>
 k Bool.true))
theorem c_Z112_bind {R:Type} (x0 x1:List D) (k:Bool→Option R):c_Z112 x0 x1 k=(c_Z112 x0 x1 some).bind k:=by
 unfold c_Z112
 repeat' first|exact bnd_tail|exact bnd_none|exact bnd_leaf|apply bnd_ite|apply bnd_cond|apply bnd_sum|(apply bnd_bind;intro _)|intro _
def Z112 (x0 x1:List D):Option (Bool):=c_Z112 x0 x1 some
def e_Z112:Ent:=⟨23,[.rd (.int .i64),.rd (.int .i64)],[(.bool,[.undef,.undef])],fun _ ds k=>dL (fun x0 ds=>dL (fun x1 ds=>dE ((Z112 x0 x1).bind (fun y=>k 0 [.B y])) ds) ds) ds⟩
theorem q_Z112 (x0 x1:List D):runFn (ocOf []) (olOf [e_Z111]) A 23 Try.f23 (Sh.mks e_Z112.sh [.L x0,.L x1]).1 (fun v os=>some (v,os))=c_Z112 x0 x1 (fun y=>retO e_Z112 0 [.B y]):=by kernel_rfl
theorem e_Z112_ok:e_Z112.ok Try.prog A:=by
 intro R ds k r h
 unfold e_Z112 at h
 obtain ⟨_,_,rfl,h⟩:=dL_some h
 obtain ⟨_,_,rfl,h⟩:=dL_some h
 obtain ⟨rfl,hE⟩:=dE_some h
 obtain ⟨y,hy,hk⟩:=bnd_some hE
 exact ⟨0,_,_,_,hk,rfl,fn_ok px (fx:=⟨Try.func23,by kernel_rfl,by kernel_rfl⟩) entsOK_nil (lentsOK_cons e_Z111_ok lentsOK_nil) ((q_Z112 ..).trans ((c_Z112_bind ..).trans (bnd_to hy)))⟩

/-!-/
def c_Z113 {R:Type} (x0:List D) (k:Bool→Option R):Option R:=
 (Z0 x0).bind (fun y0=>
 bif y0 then
 k Bool.true
 else
 (Z34 x0).bind (fun y1=>
 (Z77 y1.fst y1.snd.fst y1.snd.snd).bind (fun y2=>
 (Z78 y1.fst y1.snd.fst).bind (fun y3=>
 (Z89 y1.fst y1.snd.fst).bind (fun y4=>
 bif !decide (y3.fst=y4.fst) then
 k Bool.false
 else
 bif !y3.snd==y4.snd then
 k Bool.false
 else
 bif y3.snd then
 bif decide ((0:Int)≤y1.snd.snd) then
 bif !y2.snd==decide (y1.snd.snd<y3.fst) then
 k Bool.false
 else
 bif !y2.snd then
 k (decide ((↑y2.fst.length:Int)=(0:Int)))
 else
 (Z96 y1.fst y1.snd.fst y2.fst).bind (fun y5=>
 (Z102 y1.fst y1.snd.fst y2.fst).bind (fun y6=>
 (Z103 y1.fst y1.snd.fst y2.fst).bind (fun y7=>
 bif !y5.snd then
 k Bool.false
 else
 bif !y5.fst then
 k Bool.false
 else
 bif !y6.snd then
 k Bool.false
 else
 bif !decide (y6.fst=y1.snd.snd) then
 k Bool.false
 else
 bif !y7.snd.snd then
 k Bool.false
 else
 bif !y7.snd.fst==decide (IntKind.i64.wrap (y1.snd.snd+1)<y3.fst) then
 k Bool.false
 else
 (Z102 y1.fst y1.snd.fst y7.fst).bind (fun y8=>
 (Z106 y1.fst y1.snd.fst y2.fst y2.fst).bind (fun y9=>
 (Z110 y1.fst y1.snd.fst).bind (fun y10=>
 bif y9.snd then
 bif decide (y9.fst=(0:Int)) then
 bif y10.snd then
 bif decide ((0:Int)<y1.snd.snd) then
 bif !y7.snd.fst then
 k Bool.true
 else
 bif y8.snd then
 k (decide (y8.fst=IntKind.i64.wrap (y1.snd.snd+1)))
 else
 k Bool.false
 else
 (Z112 y10.fst y2.fst).bind (fun y11=>
 bif y11 then
 bif !y7.snd.fst then
 k Bool.true
 else
 bif y8.snd then
 k (decide (y8.fst=IntKind.i64.wrap (y1.snd.snd+1)))
 else
 k Bool.false
 else
 k Bool.false)
 else
 k Bool.false
 else
 k Bool.false
 else
 k Bool.false))))))
 else
 bif !y2.snd==Bool.false then
 k Bool.false
 else
 bif !y2.snd then
 k (decide ((↑y2.fst.length:Int)=(0:Int)))
 else
 (Z96 y1.fst y1.snd.fst y2.fst).bind (fun y12=>
 (Z102 y1.fst y1.snd.fst y2.fst).bind (fun y13=>
 (Z103 y1.fst y1.snd.fst y2.fst).bind (fun y14=>
 bif !y12.snd then
 k Bool.false
 else
 bif !y12.fst then
 k Bool.false
 else
 bif !y13.snd then
 k Bool.false
 else
 bif !decide (y13.fst=y1.snd.snd) then
 k Bool.false
 else
 bif !y14.snd.snd then
 k Bool.false
 else
 bif !y14.snd.fst==decide (IntKind.i64.wrap (y1.snd.snd+1)<y3.fst) then
 k Bool.false
 else
 (Z102 y1.fst y1.snd.fst y14.fst).bind (fun y15=>
 (Z106 y1.fst y1.snd.fst y2.fst y2.fst).bind (fun y16=>
 (Z110 y1.fst y1.snd.fst).bind (fun y17=>
 bif y16.snd then
 bif decide (y16.fst=(0:Int)) then
 bif y17.snd then
 bif decide ((0:Int)<y1.snd.snd) then
 bif !y14.snd.fst then
 k Bool.true
 else
 bif y15.snd then
 k (decide (y15.fst=IntKind.i64.wrap (y1.snd.snd+1)))
 else
 k Bool.false
 else
 (Z112 y17.fst y2.fst).bind (fun y18=>
 bif y18 then
 bif !y14.snd.fst then
 k Bool.true
 else
 bif y15.snd then
 k (decide (y15.fst=IntKind.i64.wrap (y1.snd.snd+1)))
 else
 k Bool.false
 else
 k Bool.false)
 else
 k Bool.false
 else
 k Bool.false
 else
 k Bool.false))))))
 else
 bif !y2.snd==Bool.false then
 k Bool.false
 else
 bif !y2.snd then
 k (decide ((↑y2.fst.length:Int)=(0:Int)))
 else
 (Z96 y1.fst y1.snd.fst y2.fst).bind (fun y19=>
 (Z102 y1.fst y1.snd.fst y2.fst).bind (fun y20=>
 (Z103 y1.fst y1.snd.fst y2.fst).bind (fun y21=>
 bif !y19.snd then
 k Bool.false
 else
 bif !y19.fst then
 k Bool.false
 else
 bif !y20.snd then
 k Bool.false
 else
 bif !decide (y20.fst=y1.snd.snd) then
 k Bool.false
 else
 bif !y21.snd.snd then
 k Bool.false
 else
 bif !y21.snd.fst==decide (IntKind.i64.wrap (y1.snd.snd+1)<y3.fst) then
 k Bool.false
 else
 (Z102 y1.fst y1.snd.fst y21.fst).bind (fun y22=>
 (Z106 y1.fst y1.snd.fst y2.fst y2.fst).bind (fun y23=>
 (Z110 y1.fst y1.snd.fst).bind (fun y24=>
 bif y23.snd then
 bif decide (y23.fst=(0:Int)) then
 bif y24.snd then
 bif decide ((0:Int)<y1.snd.snd) then
 bif !y21.snd.fst then
 k Bool.true
 else
 bif y22.snd then
 k (decide (y22.fst=IntKind.i64.wrap (y1.snd.snd+1)))
 else
 k Bool.false
 else
 (Z112 y24.fst y2.fst).bind (fun y25=>
 bif y25 then
 bif !y21.snd.fst then
 k Bool.true
 else
 bif y22.snd then
 k (decide (y22.fst=IntKind.i64.wrap (y1.snd.snd+1)))
 else
 k Bool.false
 else
 k Bool.false)
 else
 k Bool.false
 else
 k Bool.false
 else
 k Bool.false)))))))))))
theorem c_Z113_bind {R:Type} (x0:List D) (k:Bool→Option R):c_Z113 x0 k=(c_Z113 x0 some).bind k:=by
 unfold c_Z113
 repeat' first|exact bnd_tail|exact bnd_none|exact bnd_leaf|apply bnd_ite|apply bnd_cond|apply bnd_sum|(apply bnd_bind;intro _)|intro _
def Z113 (x0:List D):Option (Bool):=c_Z113 x0 some
def e_Z113:Ent:=⟨3,[.rd (.int .u8)],[(.bool,[.undef])],fun _ ds k=>dL (fun x0 ds=>dE ((Z113 x0).bind (fun y=>k 0 [.B y])) ds) ds⟩
theorem q_Z113 (x0:List D):runFn (ocOf [e_Z0,e_Z34,e_Z77,e_Z78,e_Z89,e_Z96,e_Z102,e_Z103,e_Z106,e_Z110,e_Z112]) (olOf []) A 3 Try.f3 (Sh.mks e_Z113.sh [.L x0]).1 (fun v os=>some (v,os))=c_Z113 x0 (fun y=>retO e_Z113 0 [.B y]):=by kernel_rfl
theorem e_Z113_ok:e_Z113.ok Try.prog A:=by
 intro R ds k r h
 unfold e_Z113 at h
 obtain ⟨_,_,rfl,h⟩:=dL_some h
 obtain ⟨rfl,hE⟩:=dE_some h
 obtain ⟨y,hy,hk⟩:=bnd_some hE
 exact ⟨0,_,_,_,hk,rfl,fn_ok px (fx:=⟨Try.func3,by kernel_rfl,by kernel_rfl⟩) (entsOK_cons e_Z0_ok (entsOK_cons e_Z34_ok (entsOK_cons e_Z77_ok (entsOK_cons e_Z78_ok (entsOK_cons e_Z89_ok (entsOK_cons e_Z96_ok (entsOK_cons e_Z102_ok (entsOK_cons e_Z103_ok (entsOK_cons e_Z106_ok (entsOK_cons e_Z110_ok (entsOK_cons e_Z112_ok entsOK_nil))))))))))) lentsOK_nil ((q_Z113 ..).trans ((c_Z113_bind ..).trans (bnd_to hy)))⟩
end
end Go.Proofs.Ytdoaceeakjbgfaa
