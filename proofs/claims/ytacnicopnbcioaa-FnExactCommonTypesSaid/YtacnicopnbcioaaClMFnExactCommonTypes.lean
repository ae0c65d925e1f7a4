/- Models of Go functions and their contracts, printed by a program of this session. -/
import Derived.Test.YtacnicopnbcioaaClSt
set_option linter.unusedVariables false
set_option maxRecDepth 100000
namespace Go.Proofs.Ytacnicopnbcioaa
open Go Go.Rai
noncomputable section
def Z0 {α β:Type} (a:α) (f:α→β):β:=f a
theorem bnd_lt {α β γ:Type} {a:γ} {f:γ→Option β} {g:γ→Option α} {k:α→Option β} (h:∀ z,f z=(g z).bind k):Z0 a f=(Z0 a g).bind k:=h a
def bytes_0:ByteArray:={ data:=#[] }
def bytes_1:ByteArray:={ data:=#[(109:UInt8),(48:UInt8)] }
def bytes_2:ByteArray:={ data:=#[(109:UInt8)] }
/-!-/
def c_Z1 {R:Type} (x0:Int) (x1:ByteArray) (x2 x3 x4 x5:Int) (k:Int→Option R):Option R:=
 bif decide (IntKind.i64.wrap (x5 - (↑x1.size:Int))<(0:Int)) then
 k (-1:Int)
 else
 k (IntKind.i64.wrap (x5 - (↑x1.size:Int)))
theorem c_Z1_bind {R:Type} (x0:Int) (x1:ByteArray) (x2 x3 x4 x5:Int) (k:Int→Option R):c_Z1 x0 x1 x2 x3 x4 x5 k=(c_Z1 x0 x1 x2 x3 x4 x5 some).bind k:=by
 unfold c_Z1
 repeat' first|exact bnd_tail|exact bnd_none|exact bnd_leaf|apply bnd_ite|apply bnd_cond|apply bnd_sum|(apply bnd_bind;intro _)|intro _
def Z1 (x0:Int) (x1:ByteArray) (x2 x3 x4 x5:Int):Option (Int):=c_Z1 x0 x1 x2 x3 x4 x5 some
def e_Z1:Ent:=⟨23,[.agg [.int .i64,.str,.int .i64,.int .i64,.int .i64],.int .i64],[(.int .i64,[.undef,.undef])],fun _ ds k=>dI (fun x0 ds=>dS (fun x1 ds=>dI (fun x2 ds=>dI (fun x3 ds=>dI (fun x4 ds=>dI (fun x5 ds=>dE ((Z1 x0 x1 x2 x3 x4 x5).bind (fun y=>k 0 [.I y])) ds) ds) ds) ds) ds) ds) ds⟩
theorem q_Z1 (x0:Int) (x1:ByteArray) (x2 x3 x4 x5:Int):runFn (ocOf []) (olOf []) A 23 Try.f23 (Sh.mks e_Z1.sh [.I x0,.S x1,.I x2,.I x3,.I x4,.I x5]).1 (fun v os=>some (v,os))=c_Z1 x0 x1 x2 x3 x4 x5 (fun y=>retO e_Z1 0 [.I y]):=by kernel_rfl
theorem e_Z1_ok:e_Z1.ok Try.prog A:=by
 intro R ds k r h
 unfold e_Z1 at h
 obtain ⟨_,_,rfl,h⟩:=dI_some h
 obtain ⟨_,_,rfl,h⟩:=dS_some h
 obtain ⟨_,_,rfl,h⟩:=dI_some h
 obtain ⟨_,_,rfl,h⟩:=dI_some h
 obtain ⟨_,_,rfl,h⟩:=dI_some h
 obtain ⟨_,_,rfl,h⟩:=dI_some h
 obtain ⟨rfl,hE⟩:=dE_some h
 obtain ⟨y,hy,hk⟩:=bnd_some hE
 exact ⟨0,_,_,_,hk,rfl,fn_ok px (fx:=⟨Try.func23,by kernel_rfl,by kernel_rfl⟩) entsOK_nil lentsOK_nil ((q_Z1 ..).trans ((c_Z1_bind ..).trans (bnd_to hy)))⟩

/-!-/
abbrev T_Z2:=List D→Int→Int→Option ((Int × Int) ⊕ (Int))
def c_Z2 {R:Type} (F:T_Z2) (x0:List D) (x1 x2:Int) (k:(Int × Int) ⊕ (Int)→Option R):Option R:=
 bif decide (x2<(↑x0.length:Int)) then
 if 0≤x2∧x2<(↑x0.length:Int) then
 (Z1 (((x0.getD x2.toNat (D.int 0)).fld (0:Nat)).toInt) (((x0.getD x2.toNat (D.int 0)).fld (1:Nat)).toStr) (((x0.getD x2.toNat (D.int 0)).fld (2:Nat)).toInt) (((x0.getD x2.toNat (D.int 0)).fld (3:Nat)).toInt) (((x0.getD x2.toNat (D.int 0)).fld (4:Nat)).toInt) x1).bind (fun y0=>
 bif decide (y0<(0:Int)) then
 k (.inl (y0,(-1:Int)))
 else
 (F x0 y0 (IntKind.i64.wrap (x2 + 1))).bind k)
 else
 none
 else
 k (.inr x1)
theorem c_Z2_bind {R:Type} (F:T_Z2) (x0:List D) (x1 x2:Int) (k:(Int × Int) ⊕ (Int)→Option R):c_Z2 F x0 x1 x2 k=(c_Z2 F x0 x1 x2 some).bind k:=by
 unfold c_Z2
 repeat' first|exact bnd_tail|exact bnd_none|exact bnd_leaf|apply bnd_ite|apply bnd_cond|apply bnd_sum|(apply bnd_bind;intro _)|intro _
def n_Z2:Nat→T_Z2
 | 0,_,_,_=>none
 | n + 1,x0,x1,x2=>c_Z2 (n_Z2 n) x0 x1 x2 some
noncomputable def Z2 (x0:List D) (x1 x2:Int):Option ((Int × Int) ⊕ (Int)):=ev (fun n=>n_Z2 n x0 x1 x2)
def m_Z2 (F:T_Z2):Lent:=⟨5,⟨(.rd (.struct [.int .i64,.str,.int .i64,.int .i64,.int .i64]) :: .int .i64 :: .undef :: .undef :: .undef :: .int .i64 :: uu 21 ([])),[]⟩,[(.ret,⟨(.undef :: .int .i64 :: .undef :: .undef :: .int .i64 :: uu 22 ([])),[]⟩),(.exit 0,⟨(.undef :: .int .i64 :: uu 25 ([])),[]⟩)],fun _ ds k=>dL (fun x0 ds=>dI (fun x1 ds=>dI (fun x2 ds=>dE ((F x0 x1 x2).bind (Sum.elim (fun y=>k 0 [.I y.1,.I y.2]) (fun y=>k 1 [.I y]))) ds) ds) ds) ds⟩
theorem q_Z2 (F:T_Z2) (x0:List D) (x1 x2:Int):runLoop (ocOf [e_Z1]) (olOf [m_Z2 F]) A 7 (codeAt (bodyOf Try.f7) 5) ((m_Z2 F).sh.mk' [.L x0,.I x1,.I x2]) (fun e σ'=>some (e,σ'))=c_Z2 F x0 x1 x2 (Sum.elim (fun y=>some (.ret,SSt.mk' ⟨(.undef :: .int .i64 :: .undef :: .undef :: .int .i64 :: uu 22 ([])),[]⟩ [.I y.1,.I y.2])) (fun y=>some (.exit 0,SSt.mk' ⟨(.undef :: .int .i64 :: uu 25 ([])),[]⟩ [.I y]))):=by kernel_rfl
theorem m_Z2_ok:∀ n,(m_Z2 (n_Z2 n)).ok Try.prog (codeAt (bodyOf Try.f7) 5):=by
 intro n
 induction n with
 | zero=>
  intro R ds k r h
  unfold m_Z2 at h
  obtain ⟨_,_,rfl,h⟩:=dL_some h
  obtain ⟨_,_,rfl,h⟩:=dI_some h
  obtain ⟨_,_,rfl,h⟩:=dI_some h
  obtain ⟨rfl,hE⟩:=dE_some h
  obtain ⟨y,hy,hk⟩:=bnd_some hE
  cases hy
 | succ n ih=>
  intro R ds k r h
  unfold m_Z2 at h
  obtain ⟨_,_,rfl,h⟩:=dL_some h
  obtain ⟨_,_,rfl,h⟩:=dI_some h
  obtain ⟨_,_,rfl,h⟩:=dI_some h
  obtain ⟨rfl,hE⟩:=dE_some h
  obtain ⟨y,hy,hk⟩:=bnd_some hE
  cases y with
  | inl y=>
   exact ⟨0,_,_,_,hk,rfl,loop_ok px (fx:=⟨Try.func7,by kernel_rfl,by kernel_rfl⟩) (entsOK_cons e_Z1_ok entsOK_nil) (lentsOK_cons ih lentsOK_nil) (by kernel_rfl) ((q_Z2 ..).trans ((c_Z2_bind ..).trans (bnd_to hy)))⟩
  | inr y=>
   exact ⟨1,_,_,_,hk,rfl,loop_ok px (fx:=⟨Try.func7,by kernel_rfl,by kernel_rfl⟩) (entsOK_cons e_Z1_ok entsOK_nil) (lentsOK_cons ih lentsOK_nil) (by kernel_rfl) ((q_Z2 ..).trans ((c_Z2_bind ..).trans (bnd_to hy)))⟩
noncomputable def e_Z2:Lent:=m_Z2 (Z2)
theorem e_Z2_ok:(e_Z2).ok Try.prog (codeAt (bodyOf Try.f7) 5):=by
 intro R ds k r h
 unfold e_Z2 m_Z2 at h
 obtain ⟨_,_,rfl,h⟩:=dL_some h
 obtain ⟨_,_,rfl,h⟩:=dI_some h
 obtain ⟨_,_,rfl,h⟩:=dI_some h
 obtain ⟨rfl,hE⟩:=dE_some h
 obtain ⟨y,hy,hk⟩:=bnd_some hE
 obtain ⟨n,hn⟩:=ev_some hy
 exact m_Z2_ok n R _ k r ((bnd_to hn).trans hk)

/-!-/
def c_Z3 {R:Type} (x0:List D) (x1:Int) (k:Int→Option R):Option R:=
 bif decide (IntKind.i64.wrap (x1 - (↑x0.length:Int))<(0:Int)) then
 k (-1:Int)
 else
 (Z2 x0 (IntKind.i64.wrap (x1 - (↑x0.length:Int))) (0:Int)).bind (Sum.elim (fun y0=>
 k y0.snd) (fun y1=>
 k y1))
theorem c_Z3_bind {R:Type} (x0:List D) (x1:Int) (k:Int→Option R):c_Z3 x0 x1 k=(c_Z3 x0 x1 some).bind k:=by
 unfold c_Z3
 repeat' first|exact bnd_tail|exact bnd_none|exact bnd_leaf|apply bnd_ite|apply bnd_cond|apply bnd_sum|(apply bnd_bind;intro _)|intro _
def Z3 (x0:List D) (x1:Int):Option (Int):=c_Z3 x0 x1 some
def e_Z3:Ent:=⟨7,[.rd (.struct [.int .i64,.str,.int .i64,.int .i64,.int .i64]),.int .i64],[(.int .i64,[.undef,.undef])],fun _ ds k=>dL (fun x0 ds=>dI (fun x1 ds=>dE ((Z3 x0 x1).bind (fun y=>k 0 [.I y])) ds) ds) ds⟩
theorem q_Z3 (x0:List D) (x1:Int):runFn (ocOf []) (olOf [e_Z2]) A 7 Try.f7 (Sh.mks e_Z3.sh [.L x0,.I x1]).1 (fun v os=>some (v,os))=c_Z3 x0 x1 (fun y=>retO e_Z3 0 [.I y]):=by kernel_rfl
theorem e_Z3_ok:e_Z3.ok Try.prog A:=by
 intro R ds k r h
 unfold e_Z3 at h
 obtain ⟨_,_,rfl,h⟩:=dL_some h
 obtain ⟨_,_,rfl,h⟩:=dI_some h
 obtain ⟨rfl,hE⟩:=dE_some h
 obtain ⟨y,hy,hk⟩:=bnd_some hE
 exact ⟨0,_,_,_,hk,rfl,fn_ok px (fx:=⟨Try.func7,by kernel_rfl,by kernel_rfl⟩) entsOK_nil (lentsOK_cons e_Z2_ok lentsOK_nil) ((q_Z3 ..).trans ((c_Z3_bind ..).trans (bnd_to hy)))⟩

/-!-/
def c_Z4 {R:Type} (x0:Int) (x1:ByteArray) (x2 x3 x4:Int) (k:Int × ByteArray × Int × Int × Int→Option R):Option R:=
 k (x0,x1,x2,x3,x4)
theorem c_Z4_bind {R:Type} (x0:Int) (x1:ByteArray) (x2 x3 x4:Int) (k:Int × ByteArray × Int × Int × Int→Option R):c_Z4 x0 x1 x2 x3 x4 k=(c_Z4 x0 x1 x2 x3 x4 some).bind k:=by
 unfold c_Z4
 repeat' first|exact bnd_tail|exact bnd_none|exact bnd_leaf|apply bnd_ite|apply bnd_cond|apply bnd_sum|(apply bnd_bind;intro _)|intro _
def Z4 (x0:Int) (x1:ByteArray) (x2 x3 x4:Int):Option (Int × ByteArray × Int × Int × Int):=c_Z4 x0 x1 x2 x3 x4 some
def e_Z4:Ent:=⟨25,[.agg [.int .i64,.str,.int .i64,.int .i64,.int .i64]],[(.agg [.int .i64,.str,.int .i64,.int .i64,.int .i64],[.undef])],fun _ ds k=>dI (fun x0 ds=>dS (fun x1 ds=>dI (fun x2 ds=>dI (fun x3 ds=>dI (fun x4 ds=>dE ((Z4 x0 x1 x2 x3 x4).bind (fun y=>k 0 [.I y.1,.S y.2.1,.I y.2.2.1,.I y.2.2.2.1,.I y.2.2.2.2])) ds) ds) ds) ds) ds) ds⟩
theorem q_Z4 (x0:Int) (x1:ByteArray) (x2 x3 x4:Int):runFn (ocOf []) (olOf []) A 25 Try.f25 (Sh.mks e_Z4.sh [.I x0,.S x1,.I x2,.I x3,.I x4]).1 (fun v os=>some (v,os))=c_Z4 x0 x1 x2 x3 x4 (fun y=>retO e_Z4 0 [.I y.1,.S y.2.1,.I y.2.2.1,.I y.2.2.2.1,.I y.2.2.2.2]):=by kernel_rfl
theorem e_Z4_ok:e_Z4.ok Try.prog A:=by
 intro R ds k r h
 unfold e_Z4 at h
 obtain ⟨_,_,rfl,h⟩:=dI_some h
 obtain ⟨_,_,rfl,h⟩:=dS_some h
 obtain ⟨_,_,rfl,h⟩:=dI_some h
 obtain ⟨_,_,rfl,h⟩:=dI_some h
 obtain ⟨_,_,rfl,h⟩:=dI_some h
 obtain ⟨rfl,hE⟩:=dE_some h
 obtain ⟨y,hy,hk⟩:=bnd_some hE
 exact ⟨0,_,_,_,hk,rfl,fn_ok px (fx:=⟨Try.func25,by kernel_rfl,by kernel_rfl⟩) entsOK_nil lentsOK_nil ((q_Z4 ..).trans ((c_Z4_bind ..).trans (bnd_to hy)))⟩

/-!-/
abbrev T_Z5:=List D→Int→List D→Option (List D)
def c_Z5 {R:Type} (F:T_Z5) (x0:List D) (x1:Int) (x2:List D) (k:List D→Option R):Option R:=
 bif decide (x1<(↑x0.length:Int)) then
 if 0≤x1∧x1<(↑x0.length:Int) then
 (Z4 (((x0.getD x1.toNat (D.int 0)).fld (0:Nat)).toInt) (((x0.getD x1.toNat (D.int 0)).fld (1:Nat)).toStr) (((x0.getD x1.toNat (D.int 0)).fld (2:Nat)).toInt) (((x0.getD x1.toNat (D.int 0)).fld (3:Nat)).toInt) (((x0.getD x1.toNat (D.int 0)).fld (4:Nat)).toInt)).bind (fun y0=>
 if 0≤x1∧x1<(↑x2.length:Int) then
 if x1.toNat + 1≤x2.length then
 (F x0 (IntKind.i64.wrap (x1 + 1)) (x2.set x1.toNat (D.node [D.int y0.fst,D.str y0.snd.fst,D.int y0.snd.snd.fst,D.int y0.snd.snd.snd.fst,D.int y0.snd.snd.snd.snd]))).bind k
 else
 none
 else
 none)
 else
 none
 else
 k x2
theorem c_Z5_bind {R:Type} (F:T_Z5) (x0:List D) (x1:Int) (x2:List D) (k:List D→Option R):c_Z5 F x0 x1 x2 k=(c_Z5 F x0 x1 x2 some).bind k:=by
 unfold c_Z5
 repeat' first|exact bnd_tail|exact bnd_none|exact bnd_leaf|apply bnd_ite|apply bnd_cond|apply bnd_sum|(apply bnd_bind;intro _)|intro _
def n_Z5:Nat→T_Z5
 | 0,_,_,_=>none
 | n + 1,x0,x1,x2=>c_Z5 (n_Z5 n) x0 x1 x2 some
noncomputable def Z5 (x0:List D) (x1:Int) (x2:List D):Option (List D):=ev (fun n=>n_Z5 n x0 x1 x2)
def m_Z5 (F:T_Z5):Lent:=⟨3,⟨(.rd (.struct [.int .i64,.str,.int .i64,.int .i64,.int .i64]) :: .undef :: .undef :: .full 1000 [] (.struct [.int .i64,.str,.int .i64,.int .i64,.int .i64]) :: .int .i64 :: uu 18 ([])),[(1000,.own (.struct [.int .i64,.str,.int .i64,.int .i64,.int .i64]))]⟩,[(.exit 0,⟨(.undef :: .undef :: .undef :: .full 1000 [] (.struct [.int .i64,.str,.int .i64,.int .i64,.int .i64]) :: uu 19 ([])),[(1000,.own (.struct [.int .i64,.str,.int .i64,.int .i64,.int .i64]))]⟩)],fun _ ds k=>dL (fun x0 ds=>dI (fun x1 ds=>dL (fun x2 ds=>dE ((F x0 x1 x2).bind (fun y=>k 0 [.L y])) ds) ds) ds) ds⟩
theorem q_Z5 (F:T_Z5) (x0:List D) (x1:Int) (x2:List D):runLoop (ocOf [e_Z4]) (olOf [m_Z5 F]) A 9 (codeAt (bodyOf Try.f9) 3) ((m_Z5 F).sh.mk' [.L x0,.I x1,.L x2]) (fun e σ'=>some (e,σ'))=c_Z5 F x0 x1 x2 (fun y=>some (.exit 0,SSt.mk' ⟨(.undef :: .undef :: .undef :: .full 1000 [] (.struct [.int .i64,.str,.int .i64,.int .i64,.int .i64]) :: uu 19 ([])),[(1000,.own (.struct [.int .i64,.str,.int .i64,.int .i64,.int .i64]))]⟩ [.L y])):=by kernel_rfl
theorem m_Z5_ok:∀ n,(m_Z5 (n_Z5 n)).ok Try.prog (codeAt (bodyOf Try.f9) 3):=by
 intro n
 induction n with
 | zero=>
  intro R ds k r h
  unfold m_Z5 at h
  obtain ⟨_,_,rfl,h⟩:=dL_some h
  obtain ⟨_,_,rfl,h⟩:=dI_some h
  obtain ⟨_,_,rfl,h⟩:=dL_some h
  obtain ⟨rfl,hE⟩:=dE_some h
  obtain ⟨y,hy,hk⟩:=bnd_some hE
  cases hy
 | succ n ih=>
  intro R ds k r h
  unfold m_Z5 at h
  obtain ⟨_,_,rfl,h⟩:=dL_some h
  obtain ⟨_,_,rfl,h⟩:=dI_some h
  obtain ⟨_,_,rfl,h⟩:=dL_some h
  obtain ⟨rfl,hE⟩:=dE_some h
  obtain ⟨y,hy,hk⟩:=bnd_some hE
  exact ⟨0,_,_,_,hk,rfl,loop_ok px (fx:=⟨Try.func9,by kernel_rfl,by kernel_rfl⟩) (entsOK_cons e_Z4_ok entsOK_nil) (lentsOK_cons ih lentsOK_nil) (by kernel_rfl) ((q_Z5 ..).trans ((c_Z5_bind ..).trans (bnd_to hy)))⟩
noncomputable def e_Z5:Lent:=m_Z5 (Z5)
theorem e_Z5_ok:(e_Z5).ok Try.prog (codeAt (bodyOf Try.f9) 3):=by
 intro R ds k r h
 unfold e_Z5 m_Z5 at h
 obtain ⟨_,_,rfl,h⟩:=dL_some h
 obtain ⟨_,_,rfl,h⟩:=dI_some h
 obtain ⟨_,_,rfl,h⟩:=dL_some h
 obtain ⟨rfl,hE⟩:=dE_some h
 obtain ⟨y,hy,hk⟩:=bnd_some hE
 obtain ⟨n,hn⟩:=ev_some hy
 exact m_Z5_ok n R _ k r ((bnd_to hn).trans hk)

/-!-/
def c_Z6 {R:Type} (x0:List D) (k:List D→Option R):Option R:=
 if (0:Int)≤(↑x0.length:Int)∧(↑x0.length:Int)≤(↑x0.length:Int)∧(↑x0.length:Int)≤(4294967296:Int) then
 (Z5 x0 (0:Int) (List.replicate (↑x0.length:Int).toNat (D.node [D.int 0,D.str bytes_0,D.int 0,D.int 0,D.int 0]))).bind (fun y0=>
 k y0)
 else
 none
theorem c_Z6_bind {R:Type} (x0:List D) (k:List D→Option R):c_Z6 x0 k=(c_Z6 x0 some).bind k:=by
 unfold c_Z6
 repeat' first|exact bnd_tail|exact bnd_none|exact bnd_leaf|apply bnd_ite|apply bnd_cond|apply bnd_sum|(apply bnd_bind;intro _)|intro _
def Z6 (x0:List D):Option (List D):=c_Z6 x0 some
def e_Z6:Ent:=⟨9,[.rd (.struct [.int .i64,.str,.int .i64,.int .i64,.int .i64])],[(.own (.struct [.int .i64,.str,.int .i64,.int .i64,.int .i64]),[.undef])],fun _ ds k=>dL (fun x0 ds=>dE ((Z6 x0).bind (fun y=>k 0 [.L y])) ds) ds⟩
theorem q_Z6 (x0:List D):runFn (ocOf []) (olOf [e_Z5]) A 9 Try.f9 (Sh.mks e_Z6.sh [.L x0]).1 (fun v os=>some (v,os))=c_Z6 x0 (fun y=>retO e_Z6 0 [.L y]):=by kernel_rfl
theorem e_Z6_ok:e_Z6.ok Try.prog A:=by
 intro R ds k r h
 unfold e_Z6 at h
 obtain ⟨_,_,rfl,h⟩:=dL_some h
 obtain ⟨rfl,hE⟩:=dE_some h
 obtain ⟨y,hy,hk⟩:=bnd_some hE
 exact ⟨0,_,_,_,hk,rfl,fn_ok px (fx:=⟨Try.func9,by kernel_rfl,by kernel_rfl⟩) entsOK_nil (lentsOK_cons e_Z5_ok lentsOK_nil) ((q_Z6 ..).trans ((c_Z6_bind ..).trans (bnd_to hy)))⟩

/-!-/
def c_Z7 {R:Type} (x0 x1 x2:Int) (k:Bool→Option R):Option R:=
 bif decide (x1≤x0) then
 k (decide (x0≤x2))
 else
 k Bool.false
theorem c_Z7_bind {R:Type} (x0 x1 x2:Int) (k:Bool→Option R):c_Z7 x0 x1 x2 k=(c_Z7 x0 x1 x2 some).bind k:=by
 unfold c_Z7
 repeat' first|exact bnd_tail|exact bnd_none|exact bnd_leaf|apply bnd_ite|apply bnd_cond|apply bnd_sum|(apply bnd_bind;intro _)|intro _
def Z7 (x0 x1 x2:Int):Option (Bool):=c_Z7 x0 x1 x2 some
def e_Z7:Ent:=⟨35,[.int .i64,.int .i64,.int .i64],[(.bool,[.undef,.undef,.undef])],fun _ ds k=>dI (fun x0 ds=>dI (fun x1 ds=>dI (fun x2 ds=>dE ((Z7 x0 x1 x2).bind (fun y=>k 0 [.B y])) ds) ds) ds) ds⟩
theorem q_Z7 (x0 x1 x2:Int):runFn (ocOf []) (olOf []) A 35 Try.f35 (Sh.mks e_Z7.sh [.I x0,.I x1,.I x2]).1 (fun v os=>some (v,os))=c_Z7 x0 x1 x2 (fun y=>retO e_Z7 0 [.B y]):=by kernel_rfl
theorem e_Z7_ok:e_Z7.ok Try.prog A:=by
 intro R ds k r h
 unfold e_Z7 at h
 obtain ⟨_,_,rfl,h⟩:=dI_some h
 obtain ⟨_,_,rfl,h⟩:=dI_some h
 obtain ⟨_,_,rfl,h⟩:=dI_some h
 obtain ⟨rfl,hE⟩:=dE_some h
 obtain ⟨y,hy,hk⟩:=bnd_some hE
 exact ⟨0,_,_,_,hk,rfl,fn_ok px (fx:=⟨Try.func35,by kernel_rfl,by kernel_rfl⟩) entsOK_nil lentsOK_nil ((q_Z7 ..).trans ((c_Z7_bind ..).trans (bnd_to hy)))⟩

/-!-/
abbrev T_Z8:=ByteArray→Int→Option ((Bool) ⊕ (Unit))
def c_Z8 {R:Type} (F:T_Z8) (x0:ByteArray) (x1:Int) (k:(Bool) ⊕ (Unit)→Option R):Option R:=
 bif decide (x1<(↑x0.size:Int)) then
 if 0≤x1∧x1<(↑x0.size:Int) then
 bif decide ((↑(x0.data.toList.getD x1.toNat (0:UInt8)).toNat:Int)<(97:Int)) then
 if 0≤x1∧x1<(↑x0.size:Int) then
 bif decide ((↑(x0.data.toList.getD x1.toNat (0:UInt8)).toNat:Int)<(48:Int)) then
 k (.inl Bool.false)
 else
 if 0≤x1∧x1<(↑x0.size:Int) then
 bif decide ((57:Int)<(↑(x0.data.toList.getD x1.toNat (0:UInt8)).toNat:Int)) then
 k (.inl Bool.false)
 else
 (F x0 (IntKind.i64.wrap (x1 + 1))).bind k
 else
 none
 else
 none
 else
 if 0≤x1∧x1<(↑x0.size:Int) then
 bif decide ((122:Int)<(↑(x0.data.toList.getD x1.toNat (0:UInt8)).toNat:Int)) then
 if 0≤x1∧x1<(↑x0.size:Int) then
 bif decide ((↑(x0.data.toList.getD x1.toNat (0:UInt8)).toNat:Int)<(48:Int)) then
 k (.inl Bool.false)
 else
 if 0≤x1∧x1<(↑x0.size:Int) then
 bif decide ((57:Int)<(↑(x0.data.toList.getD x1.toNat (0:UInt8)).toNat:Int)) then
 k (.inl Bool.false)
 else
 (F x0 (IntKind.i64.wrap (x1 + 1))).bind k
 else
 none
 else
 none
 else
 (F x0 (IntKind.i64.wrap (x1 + 1))).bind k
 else
 none
 else
 none
 else
 k (.inr ())
theorem c_Z8_bind {R:Type} (F:T_Z8) (x0:ByteArray) (x1:Int) (k:(Bool) ⊕ (Unit)→Option R):c_Z8 F x0 x1 k=(c_Z8 F x0 x1 some).bind k:=by
 unfold c_Z8
 repeat' first|exact bnd_tail|exact bnd_none|exact bnd_leaf|apply bnd_ite|apply bnd_cond|apply bnd_sum|(apply bnd_bind;intro _)|intro _
def n_Z8:Nat→T_Z8
 | 0,_,_=>none
 | n + 1,x0,x1=>c_Z8 (n_Z8 n) x0 x1 some
noncomputable def Z8 (x0:ByteArray) (x1:Int):Option ((Bool) ⊕ (Unit)):=ev (fun n=>n_Z8 n x0 x1)
def m_Z8 (F:T_Z8):Lent:=⟨4,⟨(.str :: .undef :: .undef :: .int .i64 :: uu 42 ([])),[]⟩,[(.ret,⟨(.undef :: .undef :: .bool :: uu 43 ([])),[]⟩),(.exit 0,⟨(uu 46 ([])),[]⟩)],fun _ ds k=>dS (fun x0 ds=>dI (fun x1 ds=>dE ((F x0 x1).bind (Sum.elim (fun y=>k 0 [.B y]) (fun y=>k 1 []))) ds) ds) ds⟩
theorem q_Z8 (F:T_Z8) (x0:ByteArray) (x1:Int):runLoop (ocOf []) (olOf [m_Z8 F]) A 62 (codeAt (bodyOf Try.f62) 4) ((m_Z8 F).sh.mk' [.S x0,.I x1]) (fun e σ'=>some (e,σ'))=c_Z8 F x0 x1 (Sum.elim (fun y=>some (.ret,SSt.mk' ⟨(.undef :: .undef :: .bool :: uu 43 ([])),[]⟩ [.B y])) (fun y=>some (.exit 0,SSt.mk' ⟨(uu 46 ([])),[]⟩ []))):=by kernel_rfl
theorem m_Z8_ok:∀ n,(m_Z8 (n_Z8 n)).ok Try.prog (codeAt (bodyOf Try.f62) 4):=by
 intro n
 induction n with
 | zero=>
  intro R ds k r h
  unfold m_Z8 at h
  obtain ⟨_,_,rfl,h⟩:=dS_some h
  obtain ⟨_,_,rfl,h⟩:=dI_some h
  obtain ⟨rfl,hE⟩:=dE_some h
  obtain ⟨y,hy,hk⟩:=bnd_some hE
  cases hy
 | succ n ih=>
  intro R ds k r h
  unfold m_Z8 at h
  obtain ⟨_,_,rfl,h⟩:=dS_some h
  obtain ⟨_,_,rfl,h⟩:=dI_some h
  obtain ⟨rfl,hE⟩:=dE_some h
  obtain ⟨y,hy,hk⟩:=bnd_some hE
  cases y with
  | inl y=>
   exact ⟨0,_,_,_,hk,rfl,loop_ok px (fx:=⟨Try.func62,by kernel_rfl,by kernel_rfl⟩) entsOK_nil (lentsOK_cons ih lentsOK_nil) (by kernel_rfl) ((q_Z8 ..).trans ((c_Z8_bind ..).trans (bnd_to hy)))⟩
  | inr y=>
   exact ⟨1,_,_,_,hk,rfl,loop_ok px (fx:=⟨Try.func62,by kernel_rfl,by kernel_rfl⟩) entsOK_nil (lentsOK_cons ih lentsOK_nil) (by kernel_rfl) ((q_Z8 ..).trans ((c_Z8_bind ..).trans (bnd_to hy)))⟩
noncomputable def e_Z8:Lent:=m_Z8 (Z8)
theorem e_Z8_ok:(e_Z8).ok Try.prog (codeAt (bodyOf Try.f62) 4):=by
 intro R ds k r h
 unfold e_Z8 m_Z8 at h
 obtain ⟨_,_,rfl,h⟩:=dS_some h
 obtain ⟨_,_,rfl,h⟩:=dI_some h
 obtain ⟨rfl,hE⟩:=dE_some h
 obtain ⟨y,hy,hk⟩:=bnd_some hE
 obtain ⟨n,hn⟩:=ev_some hy
 exact m_Z8_ok n R _ k r ((bnd_to hn).trans hk)

/-!-/
def c_Z9 {R:Type} (x0:ByteArray) (k:Bool→Option R):Option R:=
 (Z7 (↑x0.size:Int) (1:Int) (8:Int)).bind (fun y0=>
 bif !y0 then
 k Bool.false
 else
 if (0:Int)≤(0:Int)∧(0:Int)<(↑x0.size:Int) then
 bif decide ((↑(x0.data.toList.getD (Int.toNat (0:Int)) (0:UInt8)).toNat:Int)<(97:Int)) then
 k Bool.false
 else
 if (0:Int)≤(0:Int)∧(0:Int)<(↑x0.size:Int) then
 bif decide ((122:Int)<(↑(x0.data.toList.getD (Int.toNat (0:Int)) (0:UInt8)).toNat:Int)) then
 k Bool.false
 else
 (Z8 x0 (0:Int)).bind (Sum.elim (fun y1=>
 k y1) (fun y2=>
 k Bool.true))
 else
 none
 else
 none)
theorem c_Z9_bind {R:Type} (x0:ByteArray) (k:Bool→Option R):c_Z9 x0 k=(c_Z9 x0 some).bind k:=by
 unfold c_Z9
 repeat' first|exact bnd_tail|exact bnd_none|exact bnd_leaf|apply bnd_ite|apply bnd_cond|apply bnd_sum|(apply bnd_bind;intro _)|intro _
def Z9 (x0:ByteArray):Option (Bool):=c_Z9 x0 some
def e_Z9:Ent:=⟨62,[.str],[(.bool,[.undef])],fun _ ds k=>dS (fun x0 ds=>dE ((Z9 x0).bind (fun y=>k 0 [.B y])) ds) ds⟩
theorem q_Z9 (x0:ByteArray):runFn (ocOf [e_Z7]) (olOf [e_Z8]) A 62 Try.f62 (Sh.mks e_Z9.sh [.S x0]).1 (fun v os=>some (v,os))=c_Z9 x0 (fun y=>retO e_Z9 0 [.B y]):=by kernel_rfl
theorem e_Z9_ok:e_Z9.ok Try.prog A:=by
 intro R ds k r h
 unfold e_Z9 at h
 obtain ⟨_,_,rfl,h⟩:=dS_some h
 obtain ⟨rfl,hE⟩:=dE_some h
 obtain ⟨y,hy,hk⟩:=bnd_some hE
 exact ⟨0,_,_,_,hk,rfl,fn_ok px (fx:=⟨Try.func62,by kernel_rfl,by kernel_rfl⟩) (entsOK_cons e_Z7_ok entsOK_nil) (lentsOK_cons e_Z8_ok lentsOK_nil) ((q_Z9 ..).trans ((c_Z9_bind ..).trans (bnd_to hy)))⟩

/-!-/
def c_Z10 {R:Type} (x0:Int) (x1:ByteArray) (x2 x3 x4:Int) (k:Bool→Option R):Option R:=
 (Z7 x0 (1:Int) (999:Int)).bind (fun y0=>
 bif y0 then
 (Z9 x1).bind (fun y1=>
 bif y1 then
 (Z7 x2 (1:Int) (10000:Int)).bind (fun y2=>
 bif y2 then
 (Z7 x3 (0:Int) (1000000:Int)).bind (fun y3=>
 bif y3 then
 (Z7 x4 (0:Int) (IntKind.i64.wrap ((100:Int) * x2))).bind (fun y4=>
 k y4)
 else
 k Bool.false)
 else
 k Bool.false)
 else
 k Bool.false)
 else
 k Bool.false)
theorem c_Z10_bind {R:Type} (x0:Int) (x1:ByteArray) (x2 x3 x4:Int) (k:Bool→Option R):c_Z10 x0 x1 x2 x3 x4 k=(c_Z10 x0 x1 x2 x3 x4 some).bind k:=by
 unfold c_Z10
 repeat' first|exact bnd_tail|exact bnd_none|exact bnd_leaf|apply bnd_ite|apply bnd_cond|apply bnd_sum|(apply bnd_bind;intro _)|intro _
def Z10 (x0:Int) (x1:ByteArray) (x2 x3 x4:Int):Option (Bool):=c_Z10 x0 x1 x2 x3 x4 some
def e_Z10:Ent:=⟨45,[.agg [.int .i64,.str,.int .i64,.int .i64,.int .i64]],[(.bool,[.undef])],fun _ ds k=>dI (fun x0 ds=>dS (fun x1 ds=>dI (fun x2 ds=>dI (fun x3 ds=>dI (fun x4 ds=>dE ((Z10 x0 x1 x2 x3 x4).bind (fun y=>k 0 [.B y])) ds) ds) ds) ds) ds) ds⟩
theorem q_Z10 (x0:Int) (x1:ByteArray) (x2 x3 x4:Int):runFn (ocOf [e_Z7,e_Z9]) (olOf []) A 45 Try.f45 (Sh.mks e_Z10.sh [.I x0,.S x1,.I x2,.I x3,.I x4]).1 (fun v os=>some (v,os))=c_Z10 x0 x1 x2 x3 x4 (fun y=>retO e_Z10 0 [.B y]):=by kernel_rfl
theorem e_Z10_ok:e_Z10.ok Try.prog A:=by
 intro R ds k r h
 unfold e_Z10 at h
 obtain ⟨_,_,rfl,h⟩:=dI_some h
 obtain ⟨_,_,rfl,h⟩:=dS_some h
 obtain ⟨_,_,rfl,h⟩:=dI_some h
 obtain ⟨_,_,rfl,h⟩:=dI_some h
 obtain ⟨_,_,rfl,h⟩:=dI_some h
 obtain ⟨rfl,hE⟩:=dE_some h
 obtain ⟨y,hy,hk⟩:=bnd_some hE
 exact ⟨0,_,_,_,hk,rfl,fn_ok px (fx:=⟨Try.func45,by kernel_rfl,by kernel_rfl⟩) (entsOK_cons e_Z7_ok (entsOK_cons e_Z9_ok entsOK_nil)) lentsOK_nil ((q_Z10 ..).trans ((c_Z10_bind ..).trans (bnd_to hy)))⟩

/-!-/
def c_Z11 {R:Type} (x0:Int) (x1:ByteArray) (x2 x3 x4 x5:Int) (x6:ByteArray) (x7 x8 x9:Int) (k:Bool→Option R):Option R:=
 bif decide (x0<x5) then
 k Bool.true
 else
 bif decide (x0=x5) then
 k (Go.Op.bytesLess x1.toList x6.toList)
 else
 k Bool.false
theorem c_Z11_bind {R:Type} (x0:Int) (x1:ByteArray) (x2 x3 x4 x5:Int) (x6:ByteArray) (x7 x8 x9:Int) (k:Bool→Option R):c_Z11 x0 x1 x2 x3 x4 x5 x6 x7 x8 x9 k=(c_Z11 x0 x1 x2 x3 x4 x5 x6 x7 x8 x9 some).bind k:=by
 unfold c_Z11
 repeat' first|exact bnd_tail|exact bnd_none|exact bnd_leaf|apply bnd_ite|apply bnd_cond|apply bnd_sum|(apply bnd_bind;intro _)|intro _
def Z11 (x0:Int) (x1:ByteArray) (x2 x3 x4 x5:Int) (x6:ByteArray) (x7 x8 x9:Int):Option (Bool):=c_Z11 x0 x1 x2 x3 x4 x5 x6 x7 x8 x9 some
def e_Z11:Ent:=⟨46,[.agg [.int .i64,.str,.int .i64,.int .i64,.int .i64],.agg [.int .i64,.str,.int .i64,.int .i64,.int .i64]],[(.bool,[.undef,.undef])],fun _ ds k=>dI (fun x0 ds=>dS (fun x1 ds=>dI (fun x2 ds=>dI (fun x3 ds=>dI (fun x4 ds=>dI (fun x5 ds=>dS (fun x6 ds=>dI (fun x7 ds=>dI (fun x8 ds=>dI (fun x9 ds=>dE ((Z11 x0 x1 x2 x3 x4 x5 x6 x7 x8 x9).bind (fun y=>k 0 [.B y])) ds) ds) ds) ds) ds) ds) ds) ds) ds) ds) ds⟩
theorem q_Z11 (x0:Int) (x1:ByteArray) (x2 x3 x4 x5:Int) (x6:ByteArray) (x7 x8 x9:Int):runFn (ocOf []) (olOf []) A 46 Try.f46 (Sh.mks e_Z11.sh [.I x0,.S x1,.I x2,.I x3,.I x4,.I x5,.S x6,.I x7,.I x8,.I x9]).1 (fun v os=>some (v,os))=c_Z11 x0 x1 x2 x3 x4 x5 x6 x7 x8 x9 (fun y=>retO e_Z11 0 [.B y]):=by kernel_rfl
theorem e_Z11_ok:e_Z11.ok Try.prog A:=by
 intro R ds k r h
 unfold e_Z11 at h
 obtain ⟨_,_,rfl,h⟩:=dI_some h
 obtain ⟨_,_,rfl,h⟩:=dS_some h
 obtain ⟨_,_,rfl,h⟩:=dI_some h
 obtain ⟨_,_,rfl,h⟩:=dI_some h
 obtain ⟨_,_,rfl,h⟩:=dI_some h
 obtain ⟨_,_,rfl,h⟩:=dI_some h
 obtain ⟨_,_,rfl,h⟩:=dS_some h
 obtain ⟨_,_,rfl,h⟩:=dI_some h
 obtain ⟨_,_,rfl,h⟩:=dI_some h
 obtain ⟨_,_,rfl,h⟩:=dI_some h
 obtain ⟨rfl,hE⟩:=dE_some h
 obtain ⟨y,hy,hk⟩:=bnd_some hE
 exact ⟨0,_,_,_,hk,rfl,fn_ok px (fx:=⟨Try.func46,by kernel_rfl,by kernel_rfl⟩) entsOK_nil lentsOK_nil ((q_Z11 ..).trans ((c_Z11_bind ..).trans (bnd_to hy)))⟩

/-!-/
abbrev T_Z12:=List D→Int→Option ((List D × Bool) ⊕ (List D))
def c_Z12 {R:Type} (F:T_Z12) (x0:List D) (x1:Int) (k:(List D × Bool) ⊕ (List D)→Option R):Option R:=
 bif decide (x1<(↑x0.length:Int)) then
 bif decide (x1≤(30:Int)) then
 if 0≤x1∧x1<(↑x0.length:Int) then
 (Z10 (((x0.getD x1.toNat (D.int 0)).fld (0:Nat)).toInt) (((x0.getD x1.toNat (D.int 0)).fld (1:Nat)).toStr) (((x0.getD x1.toNat (D.int 0)).fld (2:Nat)).toInt) (((x0.getD x1.toNat (D.int 0)).fld (3:Nat)).toInt) (((x0.getD x1.toNat (D.int 0)).fld (4:Nat)).toInt)).bind (fun y0=>
 bif !y0 then
 k (.inl (x0,Bool.false))
 else
 bif decide ((0:Int)<x1) then
 if (0:Int)≤IntKind.i64.wrap (x1 - 1)∧IntKind.i64.wrap (x1 - 1)<(↑x0.length:Int) then
 if 0≤x1∧x1<(↑x0.length:Int) then
 (Z11 (((x0.getD (IntKind.i64.wrap (x1 - 1)).toNat (D.int 0)).fld (0:Nat)).toInt) (((x0.getD (IntKind.i64.wrap (x1 - 1)).toNat (D.int 0)).fld (1:Nat)).toStr) (((x0.getD (IntKind.i64.wrap (x1 - 1)).toNat (D.int 0)).fld (2:Nat)).toInt) (((x0.getD (IntKind.i64.wrap (x1 - 1)).toNat (D.int 0)).fld (3:Nat)).toInt) (((x0.getD (IntKind.i64.wrap (x1 - 1)).toNat (D.int 0)).fld (4:Nat)).toInt) (((x0.getD x1.toNat (D.int 0)).fld (0:Nat)).toInt) (((x0.getD x1.toNat (D.int 0)).fld (1:Nat)).toStr) (((x0.getD x1.toNat (D.int 0)).fld (2:Nat)).toInt) (((x0.getD x1.toNat (D.int 0)).fld (3:Nat)).toInt) (((x0.getD x1.toNat (D.int 0)).fld (4:Nat)).toInt)).bind (fun y1=>
 bif !y1 then
 k (.inl (x0,Bool.false))
 else
 (F x0 (IntKind.i64.wrap (x1 + 1))).bind k)
 else
 none
 else
 none
 else
 (F x0 (IntKind.i64.wrap (x1 + 1))).bind k)
 else
 none
 else
 k (.inr x0)
 else
 k (.inr x0)
theorem c_Z12_bind {R:Type} (F:T_Z12) (x0:List D) (x1:Int) (k:(List D × Bool) ⊕ (List D)→Option R):c_Z12 F x0 x1 k=(c_Z12 F x0 x1 some).bind k:=by
 unfold c_Z12
 repeat' first|exact bnd_tail|exact bnd_none|exact bnd_leaf|apply bnd_ite|apply bnd_cond|apply bnd_sum|(apply bnd_bind;intro _)|intro _
def n_Z12:Nat→T_Z12
 | 0,_,_=>none
 | n + 1,x0,x1=>c_Z12 (n_Z12 n) x0 x1 some
noncomputable def Z12 (x0:List D) (x1:Int):Option ((List D × Bool) ⊕ (List D)):=ev (fun n=>n_Z12 n x0 x1)
def m_Z12 (F:T_Z12):Lent:=⟨2,⟨(.rd (.struct [.int .i64,.str,.int .i64,.int .i64,.int .i64]) :: .undef :: .undef :: .int .i64 :: uu 36 ([])),[]⟩,[(.ret,⟨(.rd (.struct [.int .i64,.str,.int .i64,.int .i64,.int .i64]) :: .undef :: .bool :: uu 37 ([])),[]⟩),(.exit 0,⟨(.rd (.struct [.int .i64,.str,.int .i64,.int .i64,.int .i64]) :: uu 39 ([])),[]⟩)],fun _ ds k=>dL (fun x0 ds=>dI (fun x1 ds=>dE ((F x0 x1).bind (Sum.elim (fun y=>k 0 [.L y.1,.B y.2]) (fun y=>k 1 [.L y]))) ds) ds) ds⟩
theorem q_Z12 (F:T_Z12) (x0:List D) (x1:Int):runLoop (ocOf [e_Z10,e_Z11]) (olOf [m_Z12 F]) A 28 (codeAt (bodyOf Try.f28) 2) ((m_Z12 F).sh.mk' [.L x0,.I x1]) (fun e σ'=>some (e,σ'))=c_Z12 F x0 x1 (Sum.elim (fun y=>some (.ret,SSt.mk' ⟨(.rd (.struct [.int .i64,.str,.int .i64,.int .i64,.int .i64]) :: .undef :: .bool :: uu 37 ([])),[]⟩ [.L y.1,.B y.2])) (fun y=>some (.exit 0,SSt.mk' ⟨(.rd (.struct [.int .i64,.str,.int .i64,.int .i64,.int .i64]) :: uu 39 ([])),[]⟩ [.L y]))):=by kernel_rfl
theorem m_Z12_ok:∀ n,(m_Z12 (n_Z12 n)).ok Try.prog (codeAt (bodyOf Try.f28) 2):=by
 intro n
 induction n with
 | zero=>
  intro R ds k r h
  unfold m_Z12 at h
  obtain ⟨_,_,rfl,h⟩:=dL_some h
  obtain ⟨_,_,rfl,h⟩:=dI_some h
  obtain ⟨rfl,hE⟩:=dE_some h
  obtain ⟨y,hy,hk⟩:=bnd_some hE
  cases hy
 | succ n ih=>
  intro R ds k r h
  unfold m_Z12 at h
  obtain ⟨_,_,rfl,h⟩:=dL_some h
  obtain ⟨_,_,rfl,h⟩:=dI_some h
  obtain ⟨rfl,hE⟩:=dE_some h
  obtain ⟨y,hy,hk⟩:=bnd_some hE
  cases y with
  | inl y=>
   exact ⟨0,_,_,_,hk,rfl,loop_ok px (fx:=⟨Try.func28,by kernel_rfl,by kernel_rfl⟩) (entsOK_cons e_Z10_ok (entsOK_cons e_Z11_ok entsOK_nil)) (lentsOK_cons ih lentsOK_nil) (by kernel_rfl) ((q_Z12 ..).trans ((c_Z12_bind ..).trans (bnd_to hy)))⟩
  | inr y=>
   exact ⟨1,_,_,_,hk,rfl,loop_ok px (fx:=⟨Try.func28,by kernel_rfl,by kernel_rfl⟩) (entsOK_cons e_Z10_ok (entsOK_cons e_Z11_ok entsOK_nil)) (lentsOK_cons ih lentsOK_nil) (by kernel_rfl) ((q_Z12 ..).trans ((c_Z12_bind ..).trans (bnd_to hy)))⟩
noncomputable def e_Z12:Lent:=m_Z12 (Z12)
theorem e_Z12_ok:(e_Z12).ok Try.prog (codeAt (bodyOf Try.f28) 2):=by
 intro R ds k r h
 unfold e_Z12 m_Z12 at h
 obtain ⟨_,_,rfl,h⟩:=dL_some h
 obtain ⟨_,_,rfl,h⟩:=dI_some h
 obtain ⟨rfl,hE⟩:=dE_some h
 obtain ⟨y,hy,hk⟩:=bnd_some hE
 obtain ⟨n,hn⟩:=ev_some hy
 exact m_Z12_ok n R _ k r ((bnd_to hn).trans hk)

/-!-/
def c_Z13 {R:Type} (x0:List D) (k:Bool→Option R):Option R:=
 (Z12 x0 (0:Int)).bind (Sum.elim (fun y0=>
 k y0.snd) (fun y1=>
 k (decide ((↑y1.length:Int)≤(30:Int)))))
theorem c_Z13_bind {R:Type} (x0:List D) (k:Bool→Option R):c_Z13 x0 k=(c_Z13 x0 some).bind k:=by
 unfold c_Z13
 repeat' first|exact bnd_tail|exact bnd_none|exact bnd_leaf|apply bnd_ite|apply bnd_cond|apply bnd_sum|(apply bnd_bind;intro _)|intro _
def Z13 (x0:List D):Option (Bool):=c_Z13 x0 some
def e_Z13:Ent:=⟨28,[.rd (.struct [.int .i64,.str,.int .i64,.int .i64,.int .i64])],[(.bool,[.undef])],fun _ ds k=>dL (fun x0 ds=>dE ((Z13 x0).bind (fun y=>k 0 [.B y])) ds) ds⟩
theorem q_Z13 (x0:List D):runFn (ocOf []) (olOf [e_Z12]) A 28 Try.f28 (Sh.mks e_Z13.sh [.L x0]).1 (fun v os=>some (v,os))=c_Z13 x0 (fun y=>retO e_Z13 0 [.B y]):=by kernel_rfl
theorem e_Z13_ok:e_Z13.ok Try.prog A:=by
 intro R ds k r h
 unfold e_Z13 at h
 obtain ⟨_,_,rfl,h⟩:=dL_some h
 obtain ⟨rfl,hE⟩:=dE_some h
 obtain ⟨y,hy,hk⟩:=bnd_some hE
 exact ⟨0,_,_,_,hk,rfl,fn_ok px (fx:=⟨Try.func28,by kernel_rfl,by kernel_rfl⟩) entsOK_nil (lentsOK_cons e_Z12_ok lentsOK_nil) ((q_Z13 ..).trans ((c_Z13_bind ..).trans (bnd_to hy)))⟩

/-!-/
def c_Z14 {R:Type} (x0:List D) (x1:Int) (k:Bool→Option R):Option R:=
 (Z13 x0).bind (fun y0=>
 bif y0 then
 (Z7 x1 (1:Int) (999:Int)).bind (fun y1=>
 k y1)
 else
 k Bool.false)
theorem c_Z14_bind {R:Type} (x0:List D) (x1:Int) (k:Bool→Option R):c_Z14 x0 x1 k=(c_Z14 x0 x1 some).bind k:=by
 unfold c_Z14
 repeat' first|exact bnd_tail|exact bnd_none|exact bnd_leaf|apply bnd_ite|apply bnd_cond|apply bnd_sum|(apply bnd_bind;intro _)|intro _
def Z14 (x0:List D) (x1:Int):Option (Bool):=c_Z14 x0 x1 some
def e_Z14:Ent:=⟨34,[.rd (.struct [.int .i64,.str,.int .i64,.int .i64,.int .i64]),.int .i64],[(.bool,[.undef,.undef])],fun _ ds k=>dL (fun x0 ds=>dI (fun x1 ds=>dE ((Z14 x0 x1).bind (fun y=>k 0 [.B y])) ds) ds) ds⟩
theorem q_Z14 (x0:List D) (x1:Int):runFn (ocOf [e_Z13,e_Z7]) (olOf []) A 34 Try.f34 (Sh.mks e_Z14.sh [.L x0,.I x1]).1 (fun v os=>some (v,os))=c_Z14 x0 x1 (fun y=>retO e_Z14 0 [.B y]):=by kernel_rfl
theorem e_Z14_ok:e_Z14.ok Try.prog A:=by
 intro R ds k r h
 unfold e_Z14 at h
 obtain ⟨_,_,rfl,h⟩:=dL_some h
 obtain ⟨_,_,rfl,h⟩:=dI_some h
 obtain ⟨rfl,hE⟩:=dE_some h
 obtain ⟨y,hy,hk⟩:=bnd_some hE
 exact ⟨0,_,_,_,hk,rfl,fn_ok px (fx:=⟨Try.func34,by kernel_rfl,by kernel_rfl⟩) (entsOK_cons e_Z13_ok (entsOK_cons e_Z7_ok entsOK_nil)) lentsOK_nil ((q_Z14 ..).trans ((c_Z14_bind ..).trans (bnd_to hy)))⟩

/-!-/
abbrev T_Z15:=ByteArray→Int→List D→Option (ByteArray × Int × List D)
def c_Z15 {R:Type} (F:T_Z15) (x0:ByteArray) (x1:Int) (x2:List D) (k:ByteArray × Int × List D→Option R):Option R:=
 bif decide (x1<(↑x2.length:Int)) then
 if 0≤x1∧x1<(↑x2.length:Int) then
 if x1.toNat + 1≤x2.length then
 bif Go.Op.bytesLess (x2.getD x1.toNat (D.int 0)).toStr.toList x0.toList then
 (F x0 (IntKind.i64.wrap (x1 + 1)) x2).bind k
 else
 k (x0,x1,x2)
 else
 none
 else
 none
 else
 k (x0,x1,x2)
theorem c_Z15_bind {R:Type} (F:T_Z15) (x0:ByteArray) (x1:Int) (x2:List D) (k:ByteArray × Int × List D→Option R):c_Z15 F x0 x1 x2 k=(c_Z15 F x0 x1 x2 some).bind k:=by
 unfold c_Z15
 repeat' first|exact bnd_tail|exact bnd_none|exact bnd_leaf|apply bnd_ite|apply bnd_cond|apply bnd_sum|(apply bnd_bind;intro _)|intro _
def n_Z15:Nat→T_Z15
 | 0,_,_,_=>none
 | n + 1,x0,x1,x2=>c_Z15 (n_Z15 n) x0 x1 x2 some
noncomputable def Z15 (x0:ByteArray) (x1:Int) (x2:List D):Option (ByteArray × Int × List D):=ev (fun n=>n_Z15 n x0 x1 x2)
def m_Z15 (F:T_Z15):Lent:=⟨2,⟨(.full 1000 [] (.str) :: .str :: .undef :: .undef :: .undef :: .int .i64 :: uu 39 ([])),[(1000,.own (.str))]⟩,[(.exit 0,⟨(.full 1000 [] (.str) :: .str :: .undef :: .undef :: .undef :: .int .i64 :: uu 39 ([])),[(1000,.own (.str))]⟩)],fun _ ds k=>dS (fun x0 ds=>dI (fun x1 ds=>dL (fun x2 ds=>dE ((F x0 x1 x2).bind (fun y=>k 0 [.S y.1,.I y.2.1,.L y.2.2])) ds) ds) ds) ds⟩
theorem q_Z15 (F:T_Z15) (x0:ByteArray) (x1:Int) (x2:List D):runLoop (ocOf []) (olOf [m_Z15 F]) A 36 (codeAt (bodyOf Try.f36) 2) ((m_Z15 F).sh.mk' [.S x0,.I x1,.L x2]) (fun e σ'=>some (e,σ'))=c_Z15 F x0 x1 x2 (fun y=>some (.exit 0,SSt.mk' ⟨(.full 1000 [] (.str) :: .str :: .undef :: .undef :: .undef :: .int .i64 :: uu 39 ([])),[(1000,.own (.str))]⟩ [.S y.1,.I y.2.1,.L y.2.2])):=by kernel_rfl
theorem m_Z15_ok:∀ n,(m_Z15 (n_Z15 n)).ok Try.prog (codeAt (bodyOf Try.f36) 2):=by
 intro n
 induction n with
 | zero=>
  intro R ds k r h
  unfold m_Z15 at h
  obtain ⟨_,_,rfl,h⟩:=dS_some h
  obtain ⟨_,_,rfl,h⟩:=dI_some h
  obtain ⟨_,_,rfl,h⟩:=dL_some h
  obtain ⟨rfl,hE⟩:=dE_some h
  obtain ⟨y,hy,hk⟩:=bnd_some hE
  cases hy
 | succ n ih=>
  intro R ds k r h
  unfold m_Z15 at h
  obtain ⟨_,_,rfl,h⟩:=dS_some h
  obtain ⟨_,_,rfl,h⟩:=dI_some h
  obtain ⟨_,_,rfl,h⟩:=dL_some h
  obtain ⟨rfl,hE⟩:=dE_some h
  obtain ⟨y,hy,hk⟩:=bnd_some hE
  exact ⟨0,_,_,_,hk,rfl,loop_ok px (fx:=⟨Try.func36,by kernel_rfl,by kernel_rfl⟩) entsOK_nil (lentsOK_cons ih lentsOK_nil) (by kernel_rfl) ((q_Z15 ..).trans ((c_Z15_bind ..).trans (bnd_to hy)))⟩
noncomputable def e_Z15:Lent:=m_Z15 (Z15)
theorem e_Z15_ok:(e_Z15).ok Try.prog (codeAt (bodyOf Try.f36) 2):=by
 intro R ds k r h
 unfold e_Z15 m_Z15 at h
 obtain ⟨_,_,rfl,h⟩:=dS_some h
 obtain ⟨_,_,rfl,h⟩:=dI_some h
 obtain ⟨_,_,rfl,h⟩:=dL_some h
 obtain ⟨rfl,hE⟩:=dE_some h
 obtain ⟨y,hy,hk⟩:=bnd_some hE
 obtain ⟨n,hn⟩:=ev_some hy
 exact m_Z15_ok n R _ k r ((bnd_to hn).trans hk)

/-!-/
def c_Z16 {R:Type} (x0:List D) (x1:ByteArray) (k:List D→Option R):Option R:=
 (Z15 x1 (0:Int) x0).bind (fun y0=>
 bif decide (y0.snd.fst<(↑y0.snd.snd.length:Int)) then
 if 0≤y0.snd.fst∧y0.snd.fst<(↑y0.snd.snd.length:Int) then
 if y0.snd.fst.toNat + 1≤y0.snd.snd.length then
 bif (y0.snd.snd.getD y0.snd.fst.toNat (D.int 0)).toStr.toList == y0.fst.toList then
 k y0.snd.snd
 else
 if (0:Int)≤(0:Int)∧0≤y0.snd.fst∧y0.snd.fst≤(↑y0.snd.snd.length:Int) then
 if (0:Nat) + (y0.snd.fst.toNat - (0:Nat))≤y0.snd.snd.length then
 if ([]:List D).length + (List.take (y0.snd.fst.toNat - (0:Nat)) (List.drop (0:Nat) y0.snd.snd)).length≤(4294967296:Nat) then
 if ([] ++ List.take (y0.snd.fst.toNat - (0:Nat)) (List.drop (0:Nat) y0.snd.snd)).length + [D.str y0.fst].length≤(4294967296:Nat) then
 if 0≤y0.snd.fst∧y0.snd.fst≤(↑y0.snd.snd.length:Int)∧(↑y0.snd.snd.length:Int)≤(↑y0.snd.snd.length:Int) then
 if y0.snd.fst.toNat + (y0.snd.snd.length - y0.snd.fst.toNat)≤y0.snd.snd.length then
 if ([] ++ List.take (y0.snd.fst.toNat - (0:Nat)) (List.drop (0:Nat) y0.snd.snd) ++ [D.str y0.fst]).length + (List.take (y0.snd.snd.length - y0.snd.fst.toNat) (List.drop y0.snd.fst.toNat y0.snd.snd)).length≤(4294967296:Nat) then
 k ([] ++ List.take (y0.snd.fst.toNat - (0:Nat)) (List.drop (0:Nat) y0.snd.snd) ++ [D.str y0.fst] ++ List.take (y0.snd.snd.length - y0.snd.fst.toNat) (List.drop y0.snd.fst.toNat y0.snd.snd))
 else
 none
 else
 none
 else
 none
 else
 none
 else
 none
 else
 none
 else
 none
 else
 none
 else
 none
 else
 if (0:Int)≤(0:Int)∧0≤y0.snd.fst∧y0.snd.fst≤(↑y0.snd.snd.length:Int) then
 if (0:Nat) + (y0.snd.fst.toNat - (0:Nat))≤y0.snd.snd.length then
 if ([]:List D).length + (List.take (y0.snd.fst.toNat - (0:Nat)) (List.drop (0:Nat) y0.snd.snd)).length≤(4294967296:Nat) then
 if ([] ++ List.take (y0.snd.fst.toNat - (0:Nat)) (List.drop (0:Nat) y0.snd.snd)).length + [D.str y0.fst].length≤(4294967296:Nat) then
 if 0≤y0.snd.fst∧y0.snd.fst≤(↑y0.snd.snd.length:Int)∧(↑y0.snd.snd.length:Int)≤(↑y0.snd.snd.length:Int) then
 if y0.snd.fst.toNat + (y0.snd.snd.length - y0.snd.fst.toNat)≤y0.snd.snd.length then
 if ([] ++ List.take (y0.snd.fst.toNat - (0:Nat)) (List.drop (0:Nat) y0.snd.snd) ++ [D.str y0.fst]).length + (List.take (y0.snd.snd.length - y0.snd.fst.toNat) (List.drop y0.snd.fst.toNat y0.snd.snd)).length≤(4294967296:Nat) then
 k ([] ++ List.take (y0.snd.fst.toNat - (0:Nat)) (List.drop (0:Nat) y0.snd.snd) ++ [D.str y0.fst] ++ List.take (y0.snd.snd.length - y0.snd.fst.toNat) (List.drop y0.snd.fst.toNat y0.snd.snd))
 else
 none
 else
 none
 else
 none
 else
 none
 else
 none
 else
 none
 else
 none)
theorem c_Z16_bind {R:Type} (x0:List D) (x1:ByteArray) (k:List D→Option R):c_Z16 x0 x1 k=(c_Z16 x0 x1 some).bind k:=by
 unfold c_Z16
 repeat' first|exact bnd_tail|exact bnd_none|exact bnd_leaf|apply bnd_ite|apply bnd_cond|apply bnd_sum|(apply bnd_bind;intro _)|intro _
def Z16 (x0:List D) (x1:ByteArray):Option (List D):=c_Z16 x0 x1 some
def e_Z16:Ent:=⟨36,[.own (.str),.str],[(.own (.str),[.undef,.undef])],fun _ ds k=>dL (fun x0 ds=>dS (fun x1 ds=>dE ((Z16 x0 x1).bind (fun y=>k 0 [.L y])) ds) ds) ds⟩
theorem q_Z16 (x0:List D) (x1:ByteArray):runFn (ocOf []) (olOf [e_Z15]) A 36 Try.f36 (Sh.mks e_Z16.sh [.L x0,.S x1]).1 (fun v os=>some (v,os))=c_Z16 x0 x1 (fun y=>retO e_Z16 0 [.L y]):=by kernel_rfl
theorem e_Z16_ok:e_Z16.ok Try.prog A:=by
 intro R ds k r h
 unfold e_Z16 at h
 obtain ⟨_,_,rfl,h⟩:=dL_some h
 obtain ⟨_,_,rfl,h⟩:=dS_some h
 obtain ⟨rfl,hE⟩:=dE_some h
 obtain ⟨y,hy,hk⟩:=bnd_some hE
 exact ⟨0,_,_,_,hk,rfl,fn_ok px (fx:=⟨Try.func36,by kernel_rfl,by kernel_rfl⟩) entsOK_nil (lentsOK_cons e_Z15_ok lentsOK_nil) ((q_Z16 ..).trans ((c_Z16_bind ..).trans (bnd_to hy)))⟩

/-!-/
abbrev T_Z17:=List D→Int→Int→Int→Int→List D→Option (List D × Int × Int × Int × List D)
def c_Z17 {R:Type} (F:T_Z17) (x0:List D) (x1 x2 x3 x4:Int) (x5:List D) (k:List D × Int × Int × Int × List D→Option R):Option R:=
 bif decide (x4<(↑x0.length:Int)) then
 if 0≤x3∧x3<(↑x0.length:Int) then
 bif decide (((x0.getD x3.toNat (D.int 0)).fld (0:Nat)).toInt=x1) then
 if 0≤x4∧x4<(↑x0.length:Int) then
 bif decide (((x0.getD x4.toNat (D.int 0)).fld (0:Nat)).toInt=x2) then
 if 0≤x3∧x3<(↑x0.length:Int) then
 if 0≤x4∧x4<(↑x0.length:Int) then
 bif ((x0.getD x3.toNat (D.int 0)).fld (1:Nat)).toStr.toList == ((x0.getD x4.toNat (D.int 0)).fld (1:Nat)).toStr.toList then
 if 0≤x3∧x3<(↑x0.length:Int) then
 (Z16 x5 (((x0.getD x3.toNat (D.int 0)).fld (1:Nat)).toStr)).bind (fun y0=>
 (F x0 x1 x2 x3 (IntKind.i64.wrap (x4 + 1)) y0).bind k)
 else
 none
 else
 (F x0 x1 x2 x3 (IntKind.i64.wrap (x4 + 1)) x5).bind k
 else
 none
 else
 none
 else
 (F x0 x1 x2 x3 (IntKind.i64.wrap (x4 + 1)) x5).bind k
 else
 none
 else
 (F x0 x1 x2 x3 (IntKind.i64.wrap (x4 + 1)) x5).bind k
 else
 none
 else
 k (x0,x1,x2,x3,x5)
theorem c_Z17_bind {R:Type} (F:T_Z17) (x0:List D) (x1 x2 x3 x4:Int) (x5:List D) (k:List D × Int × Int × Int × List D→Option R):c_Z17 F x0 x1 x2 x3 x4 x5 k=(c_Z17 F x0 x1 x2 x3 x4 x5 some).bind k:=by
 unfold c_Z17
 repeat' first|exact bnd_tail|exact bnd_none|exact bnd_leaf|apply bnd_ite|apply bnd_cond|apply bnd_sum|(apply bnd_bind;intro _)|intro _
def n_Z17:Nat→T_Z17
 | 0,_,_,_,_,_,_=>none
 | n + 1,x0,x1,x2,x3,x4,x5=>c_Z17 (n_Z17 n) x0 x1 x2 x3 x4 x5 some
noncomputable def Z17 (x0:List D) (x1 x2 x3 x4:Int) (x5:List D):Option (List D × Int × Int × Int × List D):=ev (fun n=>n_Z17 n x0 x1 x2 x3 x4 x5)
def m_Z17 (F:T_Z17):Lent:=⟨8,⟨(.rd (.struct [.int .i64,.str,.int .i64,.int .i64,.int .i64]) :: .int .i64 :: .int .i64 :: uu 5 (.full 1000 [] (.str) :: .int .i64 :: .int .i64 :: uu 60 ([]))),[(1000,.own (.str))]⟩,[(.exit 2,⟨(.rd (.struct [.int .i64,.str,.int .i64,.int .i64,.int .i64]) :: .int .i64 :: .int .i64 :: uu 5 (.full 1000 [] (.str) :: .int .i64 :: uu 61 ([]))),[(1000,.own (.str))]⟩)],fun _ ds k=>dL (fun x0 ds=>dI (fun x1 ds=>dI (fun x2 ds=>dI (fun x3 ds=>dI (fun x4 ds=>dL (fun x5 ds=>dE ((F x0 x1 x2 x3 x4 x5).bind (fun y=>k 0 [.L y.1,.I y.2.1,.I y.2.2.1,.I y.2.2.2.1,.L y.2.2.2.2])) ds) ds) ds) ds) ds) ds) ds⟩
theorem q_Z17 (F:T_Z17) (x0:List D) (x1 x2 x3 x4:Int) (x5:List D):runLoop (ocOf [e_Z16]) (olOf [m_Z17 F]) A 16 (codeAt (bodyOf Try.f16) 8) ((m_Z17 F).sh.mk' [.L x0,.I x1,.I x2,.I x3,.I x4,.L x5]) (fun e σ'=>some (e,σ'))=c_Z17 F x0 x1 x2 x3 x4 x5 (fun y=>some (.exit 2,SSt.mk' ⟨(.rd (.struct [.int .i64,.str,.int .i64,.int .i64,.int .i64]) :: .int .i64 :: .int .i64 :: uu 5 (.full 1000 [] (.str) :: .int .i64 :: uu 61 ([]))),[(1000,.own (.str))]⟩ [.L y.1,.I y.2.1,.I y.2.2.1,.I y.2.2.2.1,.L y.2.2.2.2])):=by kernel_rfl
theorem m_Z17_ok:∀ n,(m_Z17 (n_Z17 n)).ok Try.prog (codeAt (bodyOf Try.f16) 8):=by
 intro n
 induction n with
 | zero=>
  intro R ds k r h
  unfold m_Z17 at h
  obtain ⟨_,_,rfl,h⟩:=dL_some h
  obtain ⟨_,_,rfl,h⟩:=dI_some h
  obtain ⟨_,_,rfl,h⟩:=dI_some h
  obtain ⟨_,_,rfl,h⟩:=dI_some h
  obtain ⟨_,_,rfl,h⟩:=dI_some h
  obtain ⟨_,_,rfl,h⟩:=dL_some h
  obtain ⟨rfl,hE⟩:=dE_some h
  obtain ⟨y,hy,hk⟩:=bnd_some hE
  cases hy
 | succ n ih=>
  intro R ds k r h
  unfold m_Z17 at h
  obtain ⟨_,_,rfl,h⟩:=dL_some h
  obtain ⟨_,_,rfl,h⟩:=dI_some h
  obtain ⟨_,_,rfl,h⟩:=dI_some h
  obtain ⟨_,_,rfl,h⟩:=dI_some h
  obtain ⟨_,_,rfl,h⟩:=dI_some h
  obtain ⟨_,_,rfl,h⟩:=dL_some h
  obtain ⟨rfl,hE⟩:=dE_some h
  obtain ⟨y,hy,hk⟩:=bnd_some hE
  exact ⟨0,_,_,_,hk,rfl,loop_ok px (fx:=⟨Try.func16,by kernel_rfl,by kernel_rfl⟩) (entsOK_cons e_Z16_ok entsOK_nil) (lentsOK_cons ih lentsOK_nil) (by kernel_rfl) ((q_Z17 ..).trans ((c_Z17_bind ..).trans (bnd_to hy)))⟩
noncomputable def e_Z17:Lent:=m_Z17 (Z17)
theorem e_Z17_ok:(e_Z17).ok Try.prog (codeAt (bodyOf Try.f16) 8):=by
 intro R ds k r h
 unfold e_Z17 m_Z17 at h
 obtain ⟨_,_,rfl,h⟩:=dL_some h
 obtain ⟨_,_,rfl,h⟩:=dI_some h
 obtain ⟨_,_,rfl,h⟩:=dI_some h
 obtain ⟨_,_,rfl,h⟩:=dI_some h
 obtain ⟨_,_,rfl,h⟩:=dI_some h
 obtain ⟨_,_,rfl,h⟩:=dL_some h
 obtain ⟨rfl,hE⟩:=dE_some h
 obtain ⟨y,hy,hk⟩:=bnd_some hE
 obtain ⟨n,hn⟩:=ev_some hy
 exact m_Z17_ok n R _ k r ((bnd_to hn).trans hk)

/-!-/
abbrev T_Z18:=List D→Int→Int→Int→List D→Option (List D)
def c_Z18 {R:Type} (F:T_Z18) (x0:List D) (x1 x2 x3:Int) (x4:List D) (k:List D→Option R):Option R:=
 bif decide (x3<(↑x0.length:Int)) then
 (Z17 x0 x1 x2 x3 (0:Int) x4).bind (fun y0=>
 (F y0.fst y0.snd.fst y0.snd.snd.fst (IntKind.i64.wrap (y0.snd.snd.snd.fst + 1)) y0.snd.snd.snd.snd).bind k)
 else
 k x4
theorem c_Z18_bind {R:Type} (F:T_Z18) (x0:List D) (x1 x2 x3:Int) (x4:List D) (k:List D→Option R):c_Z18 F x0 x1 x2 x3 x4 k=(c_Z18 F x0 x1 x2 x3 x4 some).bind k:=by
 unfold c_Z18
 repeat' first|exact bnd_tail|exact bnd_none|exact bnd_leaf|apply bnd_ite|apply bnd_cond|apply bnd_sum|(apply bnd_bind;intro _)|intro _
def n_Z18:Nat→T_Z18
 | 0,_,_,_,_,_=>none
 | n + 1,x0,x1,x2,x3,x4=>c_Z18 (n_Z18 n) x0 x1 x2 x3 x4 some
noncomputable def Z18 (x0:List D) (x1 x2 x3:Int) (x4:List D):Option (List D):=ev (fun n=>n_Z18 n x0 x1 x2 x3 x4)
def m_Z18 (F:T_Z18):Lent:=⟨5,⟨(.rd (.struct [.int .i64,.str,.int .i64,.int .i64,.int .i64]) :: .int .i64 :: .int .i64 :: uu 5 (.full 1000 [] (.str) :: .int .i64 :: uu 61 ([]))),[(1000,.own (.str))]⟩,[(.exit 0,⟨(uu 8 (.full 1000 [] (.str) :: uu 62 ([]))),[(1000,.own (.str))]⟩)],fun _ ds k=>dL (fun x0 ds=>dI (fun x1 ds=>dI (fun x2 ds=>dI (fun x3 ds=>dL (fun x4 ds=>dE ((F x0 x1 x2 x3 x4).bind (fun y=>k 0 [.L y])) ds) ds) ds) ds) ds) ds⟩
theorem q_Z18 (F:T_Z18) (x0:List D) (x1 x2 x3:Int) (x4:List D):runLoop (ocOf []) (olOf [m_Z18 F,e_Z17]) A 16 (codeAt (bodyOf Try.f16) 5) ((m_Z18 F).sh.mk' [.L x0,.I x1,.I x2,.I x3,.L x4]) (fun e σ'=>some (e,σ'))=c_Z18 F x0 x1 x2 x3 x4 (fun y=>some (.exit 0,SSt.mk' ⟨(uu 8 (.full 1000 [] (.str) :: uu 62 ([]))),[(1000,.own (.str))]⟩ [.L y])):=by kernel_rfl
theorem m_Z18_ok:∀ n,(m_Z18 (n_Z18 n)).ok Try.prog (codeAt (bodyOf Try.f16) 5):=by
 intro n
 induction n with
 | zero=>
  intro R ds k r h
  unfold m_Z18 at h
  obtain ⟨_,_,rfl,h⟩:=dL_some h
  obtain ⟨_,_,rfl,h⟩:=dI_some h
  obtain ⟨_,_,rfl,h⟩:=dI_some h
  obtain ⟨_,_,rfl,h⟩:=dI_some h
  obtain ⟨_,_,rfl,h⟩:=dL_some h
  obtain ⟨rfl,hE⟩:=dE_some h
  obtain ⟨y,hy,hk⟩:=bnd_some hE
  cases hy
 | succ n ih=>
  intro R ds k r h
  unfold m_Z18 at h
  obtain ⟨_,_,rfl,h⟩:=dL_some h
  obtain ⟨_,_,rfl,h⟩:=dI_some h
  obtain ⟨_,_,rfl,h⟩:=dI_some h
  obtain ⟨_,_,rfl,h⟩:=dI_some h
  obtain ⟨_,_,rfl,h⟩:=dL_some h
  obtain ⟨rfl,hE⟩:=dE_some h
  obtain ⟨y,hy,hk⟩:=bnd_some hE
  exact ⟨0,_,_,_,hk,rfl,loop_ok px (fx:=⟨Try.func16,by kernel_rfl,by kernel_rfl⟩) entsOK_nil (lentsOK_cons ih (lentsOK_cons e_Z17_ok lentsOK_nil)) (by kernel_rfl) ((q_Z18 ..).trans ((c_Z18_bind ..).trans (bnd_to hy)))⟩
noncomputable def e_Z18:Lent:=m_Z18 (Z18)
theorem e_Z18_ok:(e_Z18).ok Try.prog (codeAt (bodyOf Try.f16) 5):=by
 intro R ds k r h
 unfold e_Z18 m_Z18 at h
 obtain ⟨_,_,rfl,h⟩:=dL_some h
 obtain ⟨_,_,rfl,h⟩:=dI_some h
 obtain ⟨_,_,rfl,h⟩:=dI_some h
 obtain ⟨_,_,rfl,h⟩:=dI_some h
 obtain ⟨_,_,rfl,h⟩:=dL_some h
 obtain ⟨rfl,hE⟩:=dE_some h
 obtain ⟨y,hy,hk⟩:=bnd_some hE
 obtain ⟨n,hn⟩:=ev_some hy
 exact m_Z18_ok n R _ k r ((bnd_to hn).trans hk)

/-!-/
def c_Z19 {R:Type} (x0:List D) (x1 x2:Int) (k:List D × Bool→Option R):Option R:=
 (Z14 x0 x1).bind (fun y0=>
 bif !y0 then
 k ([],Bool.false)
 else
 (Z7 x2 (1:Int) (999:Int)).bind (fun y1=>
 bif !y1 then
 k ([],Bool.false)
 else
 (Z18 x0 x1 x2 (0:Int) []).bind (fun y2=>
 k (y2,Bool.true))))
theorem c_Z19_bind {R:Type} (x0:List D) (x1 x2:Int) (k:List D × Bool→Option R):c_Z19 x0 x1 x2 k=(c_Z19 x0 x1 x2 some).bind k:=by
 unfold c_Z19
 repeat' first|exact bnd_tail|exact bnd_none|exact bnd_leaf|apply bnd_ite|apply bnd_cond|apply bnd_sum|(apply bnd_bind;intro _)|intro _
def Z19 (x0:List D) (x1 x2:Int):Option (List D × Bool):=c_Z19 x0 x1 x2 some
def e_Z19:Ent:=⟨16,[.rd (.struct [.int .i64,.str,.int .i64,.int .i64,.int .i64]),.int .i64,.int .i64],[(.tup [.own (.str),.bool],[.undef,.undef,.undef])],fun _ ds k=>dL (fun x0 ds=>dI (fun x1 ds=>dI (fun x2 ds=>dE ((Z19 x0 x1 x2).bind (fun y=>k 0 [.L y.1,.B y.2])) ds) ds) ds) ds⟩
theorem q_Z19 (x0:List D) (x1 x2:Int):runFn (ocOf [e_Z14,e_Z7]) (olOf [e_Z18]) A 16 Try.f16 (Sh.mks e_Z19.sh [.L x0,.I x1,.I x2]).1 (fun v os=>some (v,os))=c_Z19 x0 x1 x2 (fun y=>retO e_Z19 0 [.L y.1,.B y.2]):=by kernel_rfl
theorem e_Z19_ok:e_Z19.ok Try.prog A:=by
 intro R ds k r h
 unfold e_Z19 at h
 obtain ⟨_,_,rfl,h⟩:=dL_some h
 obtain ⟨_,_,rfl,h⟩:=dI_some h
 obtain ⟨_,_,rfl,h⟩:=dI_some h
 obtain ⟨rfl,hE⟩:=dE_some h
 obtain ⟨y,hy,hk⟩:=bnd_some hE
 exact ⟨0,_,_,_,hk,rfl,fn_ok px (fx:=⟨Try.func16,by kernel_rfl,by kernel_rfl⟩) (entsOK_cons e_Z14_ok (entsOK_cons e_Z7_ok entsOK_nil)) (lentsOK_cons e_Z18_ok lentsOK_nil) ((q_Z19 ..).trans ((c_Z19_bind ..).trans (bnd_to hy)))⟩

/-!-/
def c_Z20 {R:Type} (x0 x1 x2:Int) (k:Bool→Option R):Option R:=
 bif decide (x1≤x0) then
 k (decide (x0≤x2))
 else
 k Bool.false
theorem c_Z20_bind {R:Type} (x0 x1 x2:Int) (k:Bool→Option R):c_Z20 x0 x1 x2 k=(c_Z20 x0 x1 x2 some).bind k:=by
 unfold c_Z20
 repeat' first|exact bnd_tail|exact bnd_none|exact bnd_leaf|apply bnd_ite|apply bnd_cond|apply bnd_sum|(apply bnd_bind;intro _)|intro _
def Z20 (x0 x1 x2:Int):Option (Bool):=c_Z20 x0 x1 x2 some
def e_Z20:Ent:=⟨64,[.int .i64,.int .i64,.int .i64],[(.bool,[.undef,.undef,.undef])],fun _ ds k=>dI (fun x0 ds=>dI (fun x1 ds=>dI (fun x2 ds=>dE ((Z20 x0 x1 x2).bind (fun y=>k 0 [.B y])) ds) ds) ds) ds⟩
theorem q_Z20 (x0 x1 x2:Int):runFn (ocOf []) (olOf []) A 64 Try.f64 (Sh.mks e_Z20.sh [.I x0,.I x1,.I x2]).1 (fun v os=>some (v,os))=c_Z20 x0 x1 x2 (fun y=>retO e_Z20 0 [.B y]):=by kernel_rfl
theorem e_Z20_ok:e_Z20.ok Try.prog A:=by
 intro R ds k r h
 unfold e_Z20 at h
 obtain ⟨_,_,rfl,h⟩:=dI_some h
 obtain ⟨_,_,rfl,h⟩:=dI_some h
 obtain ⟨_,_,rfl,h⟩:=dI_some h
 obtain ⟨rfl,hE⟩:=dE_some h
 obtain ⟨y,hy,hk⟩:=bnd_some hE
 exact ⟨0,_,_,_,hk,rfl,fn_ok px (fx:=⟨Try.func64,by kernel_rfl,by kernel_rfl⟩) entsOK_nil lentsOK_nil ((q_Z20 ..).trans ((c_Z20_bind ..).trans (bnd_to hy)))⟩

/-!-/
def c_Z21 {R:Type} (x0:Int) (k:Bool→Option R):Option R:=
 (Z20 x0 (1:Int) (999:Int)).bind (fun y0=>
 k y0)
theorem c_Z21_bind {R:Type} (x0:Int) (k:Bool→Option R):c_Z21 x0 k=(c_Z21 x0 some).bind k:=by
 unfold c_Z21
 repeat' first|exact bnd_tail|exact bnd_none|exact bnd_leaf|apply bnd_ite|apply bnd_cond|apply bnd_sum|(apply bnd_bind;intro _)|intro _
def Z21 (x0:Int):Option (Bool):=c_Z21 x0 some
def e_Z21:Ent:=⟨54,[.int .i64],[(.bool,[.undef])],fun _ ds k=>dI (fun x0 ds=>dE ((Z21 x0).bind (fun y=>k 0 [.B y])) ds) ds⟩
theorem q_Z21 (x0:Int):runFn (ocOf [e_Z20]) (olOf []) A 54 Try.f54 (Sh.mks e_Z21.sh [.I x0]).1 (fun v os=>some (v,os))=c_Z21 x0 (fun y=>retO e_Z21 0 [.B y]):=by kernel_rfl
theorem e_Z21_ok:e_Z21.ok Try.prog A:=by
 intro R ds k r h
 unfold e_Z21 at h
 obtain ⟨_,_,rfl,h⟩:=dI_some h
 obtain ⟨rfl,hE⟩:=dE_some h
 obtain ⟨y,hy,hk⟩:=bnd_some hE
 exact ⟨0,_,_,_,hk,rfl,fn_ok px (fx:=⟨Try.func54,by kernel_rfl,by kernel_rfl⟩) (entsOK_cons e_Z20_ok entsOK_nil) lentsOK_nil ((q_Z21 ..).trans ((c_Z21_bind ..).trans (bnd_to hy)))⟩

/-!-/
abbrev T_Z22:=ByteArray→Int→Int→Option ((ByteArray × Bool) ⊕ (ByteArray))
def c_Z22 {R:Type} (F:T_Z22) (x0:ByteArray) (x1 x2:Int) (k:(ByteArray × Bool) ⊕ (ByteArray)→Option R):Option R:=
 bif decide (x2<x1) then
 if 0≤x2∧x2<(↑x0.size:Int) then
 bif decide ((97:Int)≤(↑(x0.data.toList.getD x2.toNat (0:UInt8)).toNat:Int)) then
 if 0≤x2∧x2<(↑x0.size:Int) then
 if 0≤x2∧x2<(↑x0.size:Int) then
 bif decide ((48:Int)≤(↑(x0.data.toList.getD x2.toNat (0:UInt8)).toNat:Int)) then
 if 0≤x2∧x2<(↑x0.size:Int) then
 bif !decide ((↑(x0.data.toList.getD x2.toNat (0:UInt8)).toNat:Int)≤(122:Int)) then
 bif decide (x2=(0:Int)) then
 k (.inl (x0,Bool.false))
 else
 bif !decide ((↑(x0.data.toList.getD x2.toNat (0:UInt8)).toNat:Int)≤(57:Int)) then
 k (.inl (x0,Bool.false))
 else
 (F x0 x1 (IntKind.i64.wrap (x2 + 1))).bind k
 else
 (F x0 x1 (IntKind.i64.wrap (x2 + 1))).bind k
 else
 none
 else
 bif !decide ((↑(x0.data.toList.getD x2.toNat (0:UInt8)).toNat:Int)≤(122:Int)) then
 bif decide (x2=(0:Int)) then
 k (.inl (x0,Bool.false))
 else
 bif !Bool.false then
 k (.inl (x0,Bool.false))
 else
 (F x0 x1 (IntKind.i64.wrap (x2 + 1))).bind k
 else
 (F x0 x1 (IntKind.i64.wrap (x2 + 1))).bind k
 else
 none
 else
 none
 else
 if 0≤x2∧x2<(↑x0.size:Int) then
 bif decide ((48:Int)≤(↑(x0.data.toList.getD x2.toNat (0:UInt8)).toNat:Int)) then
 if 0≤x2∧x2<(↑x0.size:Int) then
 bif !Bool.false then
 bif decide (x2=(0:Int)) then
 k (.inl (x0,Bool.false))
 else
 bif !decide ((↑(x0.data.toList.getD x2.toNat (0:UInt8)).toNat:Int)≤(57:Int)) then
 k (.inl (x0,Bool.false))
 else
 (F x0 x1 (IntKind.i64.wrap (x2 + 1))).bind k
 else
 (F x0 x1 (IntKind.i64.wrap (x2 + 1))).bind k
 else
 none
 else
 bif !Bool.false then
 bif decide (x2=(0:Int)) then
 k (.inl (x0,Bool.false))
 else
 bif !Bool.false then
 k (.inl (x0,Bool.false))
 else
 (F x0 x1 (IntKind.i64.wrap (x2 + 1))).bind k
 else
 (F x0 x1 (IntKind.i64.wrap (x2 + 1))).bind k
 else
 none
 else
 none
 else
 k (.inr x0)
theorem c_Z22_bind {R:Type} (F:T_Z22) (x0:ByteArray) (x1 x2:Int) (k:(ByteArray × Bool) ⊕ (ByteArray)→Option R):c_Z22 F x0 x1 x2 k=(c_Z22 F x0 x1 x2 some).bind k:=by
 unfold c_Z22
 repeat' first|exact bnd_tail|exact bnd_none|exact bnd_leaf|apply bnd_ite|apply bnd_cond|apply bnd_sum|(apply bnd_bind;intro _)|intro _
def n_Z22:Nat→T_Z22
 | 0,_,_,_=>none
 | n + 1,x0,x1,x2=>c_Z22 (n_Z22 n) x0 x1 x2 some
noncomputable def Z22 (x0:ByteArray) (x1 x2:Int):Option ((ByteArray × Bool) ⊕ (ByteArray)):=ev (fun n=>n_Z22 n x0 x1 x2)
def m_Z22 (F:T_Z22):Lent:=⟨2,⟨(.str :: uu 6 (.int .i64 :: .int .i64 :: uu 36 ([]))),[]⟩,[(.ret,⟨(.str :: .undef :: .bool :: uu 42 ([])),[]⟩),(.exit 0,⟨(.str :: uu 44 ([])),[]⟩)],fun _ ds k=>dS (fun x0 ds=>dI (fun x1 ds=>dI (fun x2 ds=>dE ((F x0 x1 x2).bind (Sum.elim (fun y=>k 0 [.S y.1,.B y.2]) (fun y=>k 1 [.S y]))) ds) ds) ds) ds⟩
theorem q_Z22 (F:T_Z22) (x0:ByteArray) (x1 x2:Int):runLoop (ocOf []) (olOf [m_Z22 F]) A 63 (codeAt (bodyOf Try.f63) 2) ((m_Z22 F).sh.mk' [.S x0,.I x1,.I x2]) (fun e σ'=>some (e,σ'))=c_Z22 F x0 x1 x2 (Sum.elim (fun y=>some (.ret,SSt.mk' ⟨(.str :: .undef :: .bool :: uu 42 ([])),[]⟩ [.S y.1,.B y.2])) (fun y=>some (.exit 0,SSt.mk' ⟨(.str :: uu 44 ([])),[]⟩ [.S y]))):=by kernel_rfl
theorem m_Z22_ok:∀ n,(m_Z22 (n_Z22 n)).ok Try.prog (codeAt (bodyOf Try.f63) 2):=by
 intro n
 induction n with
 | zero=>
  intro R ds k r h
  unfold m_Z22 at h
  obtain ⟨_,_,rfl,h⟩:=dS_some h
  obtain ⟨_,_,rfl,h⟩:=dI_some h
  obtain ⟨_,_,rfl,h⟩:=dI_some h
  obtain ⟨rfl,hE⟩:=dE_some h
  obtain ⟨y,hy,hk⟩:=bnd_some hE
  cases hy
 | succ n ih=>
  intro R ds k r h
  unfold m_Z22 at h
  obtain ⟨_,_,rfl,h⟩:=dS_some h
  obtain ⟨_,_,rfl,h⟩:=dI_some h
  obtain ⟨_,_,rfl,h⟩:=dI_some h
  obtain ⟨rfl,hE⟩:=dE_some h
  obtain ⟨y,hy,hk⟩:=bnd_some hE
  cases y with
  | inl y=>
   exact ⟨0,_,_,_,hk,rfl,loop_ok px (fx:=⟨Try.func63,by kernel_rfl,by kernel_rfl⟩) entsOK_nil (lentsOK_cons ih lentsOK_nil) (by kernel_rfl) ((q_Z22 ..).trans ((c_Z22_bind ..).trans (bnd_to hy)))⟩
  | inr y=>
   exact ⟨1,_,_,_,hk,rfl,loop_ok px (fx:=⟨Try.func63,by kernel_rfl,by kernel_rfl⟩) entsOK_nil (lentsOK_cons ih lentsOK_nil) (by kernel_rfl) ((q_Z22 ..).trans ((c_Z22_bind ..).trans (bnd_to hy)))⟩
noncomputable def e_Z22:Lent:=m_Z22 (Z22)
theorem e_Z22_ok:(e_Z22).ok Try.prog (codeAt (bodyOf Try.f63) 2):=by
 intro R ds k r h
 unfold e_Z22 m_Z22 at h
 obtain ⟨_,_,rfl,h⟩:=dS_some h
 obtain ⟨_,_,rfl,h⟩:=dI_some h
 obtain ⟨_,_,rfl,h⟩:=dI_some h
 obtain ⟨rfl,hE⟩:=dE_some h
 obtain ⟨y,hy,hk⟩:=bnd_some hE
 obtain ⟨n,hn⟩:=ev_some hy
 exact m_Z22_ok n R _ k r ((bnd_to hn).trans hk)

/-!-/
def c_Z23 {R:Type} (x0:ByteArray) (k:Bool→Option R):Option R:=
 (Z22 x0 (↑x0.size:Int) (0:Int)).bind (Sum.elim (fun y0=>
 k y0.snd) (fun y1=>
 (Z20 (↑y1.size:Int) (1:Int) (8:Int)).bind (fun y2=>
 k y2)))
theorem c_Z23_bind {R:Type} (x0:ByteArray) (k:Bool→Option R):c_Z23 x0 k=(c_Z23 x0 some).bind k:=by
 unfold c_Z23
 repeat' first|exact bnd_tail|exact bnd_none|exact bnd_leaf|apply bnd_ite|apply bnd_cond|apply bnd_sum|(apply bnd_bind;intro _)|intro _
def Z23 (x0:ByteArray):Option (Bool):=c_Z23 x0 some
def e_Z23:Ent:=⟨63,[.str],[(.bool,[.undef])],fun _ ds k=>dS (fun x0 ds=>dE ((Z23 x0).bind (fun y=>k 0 [.B y])) ds) ds⟩
theorem q_Z23 (x0:ByteArray):runFn (ocOf [e_Z20]) (olOf [e_Z22]) A 63 Try.f63 (Sh.mks e_Z23.sh [.S x0]).1 (fun v os=>some (v,os))=c_Z23 x0 (fun y=>retO e_Z23 0 [.B y]):=by kernel_rfl
theorem e_Z23_ok:e_Z23.ok Try.prog A:=by
 intro R ds k r h
 unfold e_Z23 at h
 obtain ⟨_,_,rfl,h⟩:=dS_some h
 obtain ⟨rfl,hE⟩:=dE_some h
 obtain ⟨y,hy,hk⟩:=bnd_some hE
 exact ⟨0,_,_,_,hk,rfl,fn_ok px (fx:=⟨Try.func63,by kernel_rfl,by kernel_rfl⟩) (entsOK_cons e_Z20_ok entsOK_nil) (lentsOK_cons e_Z22_ok lentsOK_nil) ((q_Z23 ..).trans ((c_Z23_bind ..).trans (bnd_to hy)))⟩

/-!-/
def c_Z24 {R:Type} (x0:Int) (x1:ByteArray) (x2 x3 x4:Int) (k:Bool→Option R):Option R:=
 (Z21 x0).bind (fun y0=>
 bif y0 then
 (Z23 x1).bind (fun y1=>
 bif y1 then
 (Z20 x2 (1:Int) (10000:Int)).bind (fun y2=>
 bif y2 then
 (Z20 x3 (0:Int) (1000000:Int)).bind (fun y3=>
 bif y3 then
 (Z20 x4 (0:Int) (IntKind.i64.wrap ((100:Int) * x2))).bind (fun y4=>
 k y4)
 else
 k Bool.false)
 else
 k Bool.false)
 else
 k Bool.false)
 else
 k Bool.false)
theorem c_Z24_bind {R:Type} (x0:Int) (x1:ByteArray) (x2 x3 x4:Int) (k:Bool→Option R):c_Z24 x0 x1 x2 x3 x4 k=(c_Z24 x0 x1 x2 x3 x4 some).bind k:=by
 unfold c_Z24
 repeat' first|exact bnd_tail|exact bnd_none|exact bnd_leaf|apply bnd_ite|apply bnd_cond|apply bnd_sum|(apply bnd_bind;intro _)|intro _
def Z24 (x0:Int) (x1:ByteArray) (x2 x3 x4:Int):Option (Bool):=c_Z24 x0 x1 x2 x3 x4 some
def e_Z24:Ent:=⟨47,[.agg [.int .i64,.str,.int .i64,.int .i64,.int .i64]],[(.bool,[.undef])],fun _ ds k=>dI (fun x0 ds=>dS (fun x1 ds=>dI (fun x2 ds=>dI (fun x3 ds=>dI (fun x4 ds=>dE ((Z24 x0 x1 x2 x3 x4).bind (fun y=>k 0 [.B y])) ds) ds) ds) ds) ds) ds⟩
theorem q_Z24 (x0:Int) (x1:ByteArray) (x2 x3 x4:Int):runFn (ocOf [e_Z21,e_Z23,e_Z20]) (olOf []) A 47 Try.f47 (Sh.mks e_Z24.sh [.I x0,.S x1,.I x2,.I x3,.I x4]).1 (fun v os=>some (v,os))=c_Z24 x0 x1 x2 x3 x4 (fun y=>retO e_Z24 0 [.B y]):=by kernel_rfl
theorem e_Z24_ok:e_Z24.ok Try.prog A:=by
 intro R ds k r h
 unfold e_Z24 at h
 obtain ⟨_,_,rfl,h⟩:=dI_some h
 obtain ⟨_,_,rfl,h⟩:=dS_some h
 obtain ⟨_,_,rfl,h⟩:=dI_some h
 obtain ⟨_,_,rfl,h⟩:=dI_some h
 obtain ⟨_,_,rfl,h⟩:=dI_some h
 obtain ⟨rfl,hE⟩:=dE_some h
 obtain ⟨y,hy,hk⟩:=bnd_some hE
 exact ⟨0,_,_,_,hk,rfl,fn_ok px (fx:=⟨Try.func47,by kernel_rfl,by kernel_rfl⟩) (entsOK_cons e_Z21_ok (entsOK_cons e_Z23_ok (entsOK_cons e_Z20_ok entsOK_nil))) lentsOK_nil ((q_Z24 ..).trans ((c_Z24_bind ..).trans (bnd_to hy)))⟩

/-!-/
def c_Z25 {R:Type} (x0:Int) (k:Bool→Option R):Option R:=
 k (!decide (x0=x0))
theorem c_Z25_bind {R:Type} (x0:Int) (k:Bool→Option R):c_Z25 x0 k=(c_Z25 x0 some).bind k:=by
 unfold c_Z25
 repeat' first|exact bnd_tail|exact bnd_none|exact bnd_leaf|apply bnd_ite|apply bnd_cond|apply bnd_sum|(apply bnd_bind;intro _)|intro _
def Z25 (x0:Int):Option (Bool):=c_Z25 x0 some
def e_Z25:Ent:=⟨73,[.int .i64],[(.bool,[.undef])],fun _ ds k=>dI (fun x0 ds=>dE ((Z25 x0).bind (fun y=>k 0 [.B y])) ds) ds⟩
theorem q_Z25 (x0:Int):runFn (ocOf []) (olOf []) A 73 Try.f73 (Sh.mks e_Z25.sh [.I x0]).1 (fun v os=>some (v,os))=c_Z25 x0 (fun y=>retO e_Z25 0 [.B y]):=by kernel_rfl
theorem e_Z25_ok:e_Z25.ok Try.prog A:=by
 intro R ds k r h
 unfold e_Z25 at h
 obtain ⟨_,_,rfl,h⟩:=dI_some h
 obtain ⟨rfl,hE⟩:=dE_some h
 obtain ⟨y,hy,hk⟩:=bnd_some hE
 exact ⟨0,_,_,_,hk,rfl,fn_ok px (fx:=⟨Try.func73,by kernel_rfl,by kernel_rfl⟩) entsOK_nil lentsOK_nil ((q_Z25 ..).trans ((c_Z25_bind ..).trans (bnd_to hy)))⟩

/-!-/
def c_Z26 {R:Type} (x0 x1:Int) (k:Int→Option R):Option R:=
 (Z25 x0).bind (fun y0=>
 (Z25 x1).bind (fun y1=>
 bif y0 then
 bif y1 then
 k (0:Int)
 else
 k (-1:Int)
 else
 bif y1 then
 k (1:Int)
 else
 bif decide (x0<x1) then
 k (-1:Int)
 else
 bif decide (x1<x0) then
 k (1:Int)
 else
 k (0:Int)))
theorem c_Z26_bind {R:Type} (x0 x1:Int) (k:Int→Option R):c_Z26 x0 x1 k=(c_Z26 x0 x1 some).bind k:=by
 unfold c_Z26
 repeat' first|exact bnd_tail|exact bnd_none|exact bnd_leaf|apply bnd_ite|apply bnd_cond|apply bnd_sum|(apply bnd_bind;intro _)|intro _
def Z26 (x0 x1:Int):Option (Int):=c_Z26 x0 x1 some
def e_Z26:Ent:=⟨61,[.int .i64,.int .i64],[(.int .i64,[.undef,.undef])],fun _ ds k=>dI (fun x0 ds=>dI (fun x1 ds=>dE ((Z26 x0 x1).bind (fun y=>k 0 [.I y])) ds) ds) ds⟩
theorem q_Z26 (x0 x1:Int):runFn (ocOf [e_Z25]) (olOf []) A 61 Try.f61 (Sh.mks e_Z26.sh [.I x0,.I x1]).1 (fun v os=>some (v,os))=c_Z26 x0 x1 (fun y=>retO e_Z26 0 [.I y]):=by kernel_rfl
theorem e_Z26_ok:e_Z26.ok Try.prog A:=by
 intro R ds k r h
 unfold e_Z26 at h
 obtain ⟨_,_,rfl,h⟩:=dI_some h
 obtain ⟨_,_,rfl,h⟩:=dI_some h
 obtain ⟨rfl,hE⟩:=dE_some h
 obtain ⟨y,hy,hk⟩:=bnd_some hE
 exact ⟨0,_,_,_,hk,rfl,fn_ok px (fx:=⟨Try.func61,by kernel_rfl,by kernel_rfl⟩) (entsOK_cons e_Z25_ok entsOK_nil) lentsOK_nil ((q_Z26 ..).trans ((c_Z26_bind ..).trans (bnd_to hy)))⟩

/-!-/
def c_Z27 {R:Type} (x0:ByteArray) (k:Bool→Option R):Option R:=
 k (!x0.toList == x0.toList)
theorem c_Z27_bind {R:Type} (x0:ByteArray) (k:Bool→Option R):c_Z27 x0 k=(c_Z27 x0 some).bind k:=by
 unfold c_Z27
 repeat' first|exact bnd_tail|exact bnd_none|exact bnd_leaf|apply bnd_ite|apply bnd_cond|apply bnd_sum|(apply bnd_bind;intro _)|intro _
def Z27 (x0:ByteArray):Option (Bool):=c_Z27 x0 some
def e_Z27:Ent:=⟨74,[.str],[(.bool,[.undef])],fun _ ds k=>dS (fun x0 ds=>dE ((Z27 x0).bind (fun y=>k 0 [.B y])) ds) ds⟩
theorem q_Z27 (x0:ByteArray):runFn (ocOf []) (olOf []) A 74 Try.f74 (Sh.mks e_Z27.sh [.S x0]).1 (fun v os=>some (v,os))=c_Z27 x0 (fun y=>retO e_Z27 0 [.B y]):=by kernel_rfl
theorem e_Z27_ok:e_Z27.ok Try.prog A:=by
 intro R ds k r h
 unfold e_Z27 at h
 obtain ⟨_,_,rfl,h⟩:=dS_some h
 obtain ⟨rfl,hE⟩:=dE_some h
 obtain ⟨y,hy,hk⟩:=bnd_some hE
 exact ⟨0,_,_,_,hk,rfl,fn_ok px (fx:=⟨Try.func74,by kernel_rfl,by kernel_rfl⟩) entsOK_nil lentsOK_nil ((q_Z27 ..).trans ((c_Z27_bind ..).trans (bnd_to hy)))⟩

/-!-/
def c_Z28 {R:Type} (x0 x1:ByteArray) (k:Int→Option R):Option R:=
 (Z27 x0).bind (fun y0=>
 (Z27 x1).bind (fun y1=>
 bif y0 then
 bif y1 then
 k (0:Int)
 else
 k (-1:Int)
 else
 bif y1 then
 k (1:Int)
 else
 bif Go.Op.bytesLess x0.toList x1.toList then
 k (-1:Int)
 else
 bif !(Go.Op.bytesLess x0.toList x1.toList || x0.toList == x1.toList) then
 k (1:Int)
 else
 k (0:Int)))
theorem c_Z28_bind {R:Type} (x0 x1:ByteArray) (k:Int→Option R):c_Z28 x0 x1 k=(c_Z28 x0 x1 some).bind k:=by
 unfold c_Z28
 repeat' first|exact bnd_tail|exact bnd_none|exact bnd_leaf|apply bnd_ite|apply bnd_cond|apply bnd_sum|(apply bnd_bind;intro _)|intro _
def Z28 (x0 x1:ByteArray):Option (Int):=c_Z28 x0 x1 some
def e_Z28:Ent:=⟨66,[.str,.str],[(.int .i64,[.undef,.undef])],fun _ ds k=>dS (fun x0 ds=>dS (fun x1 ds=>dE ((Z28 x0 x1).bind (fun y=>k 0 [.I y])) ds) ds) ds⟩
theorem q_Z28 (x0 x1:ByteArray):runFn (ocOf [e_Z27]) (olOf []) A 66 Try.f66 (Sh.mks e_Z28.sh [.S x0,.S x1]).1 (fun v os=>some (v,os))=c_Z28 x0 x1 (fun y=>retO e_Z28 0 [.I y]):=by kernel_rfl
theorem e_Z28_ok:e_Z28.ok Try.prog A:=by
 intro R ds k r h
 unfold e_Z28 at h
 obtain ⟨_,_,rfl,h⟩:=dS_some h
 obtain ⟨_,_,rfl,h⟩:=dS_some h
 obtain ⟨rfl,hE⟩:=dE_some h
 obtain ⟨y,hy,hk⟩:=bnd_some hE
 exact ⟨0,_,_,_,hk,rfl,fn_ok px (fx:=⟨Try.func66,by kernel_rfl,by kernel_rfl⟩) (entsOK_cons e_Z27_ok entsOK_nil) lentsOK_nil ((q_Z28 ..).trans ((c_Z28_bind ..).trans (bnd_to hy)))⟩

/-!-/
abbrev T_Z29:=Int→List D→Int→Int→Option ((Int × Int) ⊕ (Int))
def c_Z29 {R:Type} (F:T_Z29) (x0:Int) (x1:List D) (x2 x3:Int) (k:(Int × Int) ⊕ (Int)→Option R):Option R:=
 bif decide (x3<x2) then
 if 0≤x3∧x3<(↑x1.length:Int) then
 bif !decide ((x1.getD x3.toNat (D.int 0)).toInt=x0) then
 k (.inl ((x1.getD x3.toNat (D.int 0)).toInt,x0))
 else
 (F x0 x1 x2 (IntKind.i64.wrap (x3 + 1))).bind k
 else
 none
 else
 k (.inr x0)
theorem c_Z29_bind {R:Type} (F:T_Z29) (x0:Int) (x1:List D) (x2 x3:Int) (k:(Int × Int) ⊕ (Int)→Option R):c_Z29 F x0 x1 x2 x3 k=(c_Z29 F x0 x1 x2 x3 some).bind k:=by
 unfold c_Z29
 repeat' first|exact bnd_tail|exact bnd_none|exact bnd_leaf|apply bnd_ite|apply bnd_cond|apply bnd_sum|(apply bnd_bind;intro _)|intro _
def n_Z29:Nat→T_Z29
 | 0,_,_,_,_=>none
 | n + 1,x0,x1,x2,x3=>c_Z29 (n_Z29 n) x0 x1 x2 x3 some
noncomputable def Z29 (x0:Int) (x1:List D) (x2 x3:Int):Option ((Int × Int) ⊕ (Int)):=ev (fun n=>n_Z29 n x0 x1 x2 x3)
def m_Z29 (F:T_Z29):Lent:=⟨3,⟨(.undef :: .undef :: .undef :: .int .i64 :: .undef :: .undef :: .rd (.int .i64) :: .int .i64 :: .int .i64 :: uu 9 ([])),[]⟩,[(.ret,⟨(.undef :: .undef :: .int .i64 :: .int .i64 :: uu 14 ([])),[]⟩),(.exit 0,⟨(.undef :: .undef :: .undef :: .int .i64 :: uu 14 ([])),[]⟩)],fun _ ds k=>dI (fun x0 ds=>dL (fun x1 ds=>dI (fun x2 ds=>dI (fun x3 ds=>dE ((F x0 x1 x2 x3).bind (Sum.elim (fun y=>k 0 [.I y.1,.I y.2]) (fun y=>k 1 [.I y]))) ds) ds) ds) ds) ds⟩
theorem q_Z29 (F:T_Z29) (x0:Int) (x1:List D) (x2 x3:Int):runLoop (ocOf []) (olOf [m_Z29 F]) A 65 (codeAt (bodyOf Try.f65) 3) ((m_Z29 F).sh.mk' [.I x0,.L x1,.I x2,.I x3]) (fun e σ'=>some (e,σ'))=c_Z29 F x0 x1 x2 x3 (Sum.elim (fun y=>some (.ret,SSt.mk' ⟨(.undef :: .undef :: .int .i64 :: .int .i64 :: uu 14 ([])),[]⟩ [.I y.1,.I y.2])) (fun y=>some (.exit 0,SSt.mk' ⟨(.undef :: .undef :: .undef :: .int .i64 :: uu 14 ([])),[]⟩ [.I y]))):=by kernel_rfl
theorem m_Z29_ok:∀ n,(m_Z29 (n_Z29 n)).ok Try.prog (codeAt (bodyOf Try.f65) 3):=by
 intro n
 induction n with
 | zero=>
  intro R ds k r h
  unfold m_Z29 at h
  obtain ⟨_,_,rfl,h⟩:=dI_some h
  obtain ⟨_,_,rfl,h⟩:=dL_some h
  obtain ⟨_,_,rfl,h⟩:=dI_some h
  obtain ⟨_,_,rfl,h⟩:=dI_some h
  obtain ⟨rfl,hE⟩:=dE_some h
  obtain ⟨y,hy,hk⟩:=bnd_some hE
  cases hy
 | succ n ih=>
  intro R ds k r h
  unfold m_Z29 at h
  obtain ⟨_,_,rfl,h⟩:=dI_some h
  obtain ⟨_,_,rfl,h⟩:=dL_some h
  obtain ⟨_,_,rfl,h⟩:=dI_some h
  obtain ⟨_,_,rfl,h⟩:=dI_some h
  obtain ⟨rfl,hE⟩:=dE_some h
  obtain ⟨y,hy,hk⟩:=bnd_some hE
  cases y with
  | inl y=>
   exact ⟨0,_,_,_,hk,rfl,loop_ok px (fx:=⟨Try.func65,by kernel_rfl,by kernel_rfl⟩) entsOK_nil (lentsOK_cons ih lentsOK_nil) (by kernel_rfl) ((q_Z29 ..).trans ((c_Z29_bind ..).trans (bnd_to hy)))⟩
  | inr y=>
   exact ⟨1,_,_,_,hk,rfl,loop_ok px (fx:=⟨Try.func65,by kernel_rfl,by kernel_rfl⟩) entsOK_nil (lentsOK_cons ih lentsOK_nil) (by kernel_rfl) ((q_Z29 ..).trans ((c_Z29_bind ..).trans (bnd_to hy)))⟩
noncomputable def e_Z29:Lent:=m_Z29 (Z29)
theorem e_Z29_ok:(e_Z29).ok Try.prog (codeAt (bodyOf Try.f65) 3):=by
 intro R ds k r h
 unfold e_Z29 m_Z29 at h
 obtain ⟨_,_,rfl,h⟩:=dI_some h
 obtain ⟨_,_,rfl,h⟩:=dL_some h
 obtain ⟨_,_,rfl,h⟩:=dI_some h
 obtain ⟨_,_,rfl,h⟩:=dI_some h
 obtain ⟨rfl,hE⟩:=dE_some h
 obtain ⟨y,hy,hk⟩:=bnd_some hE
 obtain ⟨n,hn⟩:=ev_some hy
 exact m_Z29_ok n R _ k r ((bnd_to hn).trans hk)

/-!-/
def c_Z30 {R:Type} (x0:List D) (k:Int→Option R):Option R:=
 (Z29 (0:Int) x0 (↑x0.length:Int) (0:Int)).bind (Sum.elim (fun y0=>
 k y0.fst) (fun y1=>
 k y1))
theorem c_Z30_bind {R:Type} (x0:List D) (k:Int→Option R):c_Z30 x0 k=(c_Z30 x0 some).bind k:=by
 unfold c_Z30
 repeat' first|exact bnd_tail|exact bnd_none|exact bnd_leaf|apply bnd_ite|apply bnd_cond|apply bnd_sum|(apply bnd_bind;intro _)|intro _
def Z30 (x0:List D):Option (Int):=c_Z30 x0 some
def e_Z30:Ent:=⟨65,[.rd (.int .i64)],[(.int .i64,[.undef])],fun _ ds k=>dL (fun x0 ds=>dE ((Z30 x0).bind (fun y=>k 0 [.I y])) ds) ds⟩
theorem q_Z30 (x0:List D):runFn (ocOf []) (olOf [e_Z29]) A 65 Try.f65 (Sh.mks e_Z30.sh [.L x0]).1 (fun v os=>some (v,os))=c_Z30 x0 (fun y=>retO e_Z30 0 [.I y]):=by kernel_rfl
theorem e_Z30_ok:e_Z30.ok Try.prog A:=by
 intro R ds k r h
 unfold e_Z30 at h
 obtain ⟨_,_,rfl,h⟩:=dL_some h
 obtain ⟨rfl,hE⟩:=dE_some h
 obtain ⟨y,hy,hk⟩:=bnd_some hE
 exact ⟨0,_,_,_,hk,rfl,fn_ok px (fx:=⟨Try.func65,by kernel_rfl,by kernel_rfl⟩) entsOK_nil (lentsOK_cons e_Z29_ok lentsOK_nil) ((q_Z30 ..).trans ((c_Z30_bind ..).trans (bnd_to hy)))⟩

/-!-/
def c_Z31 {R:Type} (x0:Int) (x1:ByteArray) (x2 x3 x4 x5:Int) (x6:ByteArray) (x7 x8 x9:Int) (k:Int→Option R):Option R:=
 (Z26 x0 x5).bind (fun y0=>
 (Z28 x1 x6).bind (fun y1=>
 (Z30 ([D.int y0,D.int y1])).bind (fun y2=>
 k y2)))
theorem c_Z31_bind {R:Type} (x0:Int) (x1:ByteArray) (x2 x3 x4 x5:Int) (x6:ByteArray) (x7 x8 x9:Int) (k:Int→Option R):c_Z31 x0 x1 x2 x3 x4 x5 x6 x7 x8 x9 k=(c_Z31 x0 x1 x2 x3 x4 x5 x6 x7 x8 x9 some).bind k:=by
 unfold c_Z31
 repeat' first|exact bnd_tail|exact bnd_none|exact bnd_leaf|apply bnd_ite|apply bnd_cond|apply bnd_sum|(apply bnd_bind;intro _)|intro _
def Z31 (x0:Int) (x1:ByteArray) (x2 x3 x4 x5:Int) (x6:ByteArray) (x7 x8 x9:Int):Option (Int):=c_Z31 x0 x1 x2 x3 x4 x5 x6 x7 x8 x9 some
def e_Z31:Ent:=⟨50,[.agg [.int .i64,.str,.int .i64,.int .i64,.int .i64],.agg [.int .i64,.str,.int .i64,.int .i64,.int .i64]],[(.int .i64,[.undef,.undef])],fun _ ds k=>dI (fun x0 ds=>dS (fun x1 ds=>dI (fun x2 ds=>dI (fun x3 ds=>dI (fun x4 ds=>dI (fun x5 ds=>dS (fun x6 ds=>dI (fun x7 ds=>dI (fun x8 ds=>dI (fun x9 ds=>dE ((Z31 x0 x1 x2 x3 x4 x5 x6 x7 x8 x9).bind (fun y=>k 0 [.I y])) ds) ds) ds) ds) ds) ds) ds) ds) ds) ds) ds⟩
theorem q_Z31 (x0:Int) (x1:ByteArray) (x2 x3 x4 x5:Int) (x6:ByteArray) (x7 x8 x9:Int):runFn (ocOf [e_Z26,e_Z28,e_Z30]) (olOf []) A 50 Try.f50 (Sh.mks e_Z31.sh [.I x0,.S x1,.I x2,.I x3,.I x4,.I x5,.S x6,.I x7,.I x8,.I x9]).1 (fun v os=>some (v,os))=c_Z31 x0 x1 x2 x3 x4 x5 x6 x7 x8 x9 (fun y=>retO e_Z31 0 [.I y]):=by kernel_rfl
theorem e_Z31_ok:e_Z31.ok Try.prog A:=by
 intro R ds k r h
 unfold e_Z31 at h
 obtain ⟨_,_,rfl,h⟩:=dI_some h
 obtain ⟨_,_,rfl,h⟩:=dS_some h
 obtain ⟨_,_,rfl,h⟩:=dI_some h
 obtain ⟨_,_,rfl,h⟩:=dI_some h
 obtain ⟨_,_,rfl,h⟩:=dI_some h
 obtain ⟨_,_,rfl,h⟩:=dI_some h
 obtain ⟨_,_,rfl,h⟩:=dS_some h
 obtain ⟨_,_,rfl,h⟩:=dI_some h
 obtain ⟨_,_,rfl,h⟩:=dI_some h
 obtain ⟨_,_,rfl,h⟩:=dI_some h
 obtain ⟨rfl,hE⟩:=dE_some h
 obtain ⟨y,hy,hk⟩:=bnd_some hE
 exact ⟨0,_,_,_,hk,rfl,fn_ok px (fx:=⟨Try.func50,by kernel_rfl,by kernel_rfl⟩) (entsOK_cons e_Z26_ok (entsOK_cons e_Z28_ok (entsOK_cons e_Z30_ok entsOK_nil))) lentsOK_nil ((q_Z31 ..).trans ((c_Z31_bind ..).trans (bnd_to hy)))⟩

/-!-/
abbrev T_Z32:=List D→List D→Int→Int→Option ((List D × Bool) ⊕ (List D))
def c_Z32 {R:Type} (F:T_Z32) (x0 x1:List D) (x2 x3:Int) (k:(List D × Bool) ⊕ (List D)→Option R):Option R:=
 bif decide (x3<x2) then
 if 0≤x3∧x3<(↑x1.length:Int) then
 (Z24 (((x1.getD x3.toNat (D.int 0)).fld (0:Nat)).toInt) (((x1.getD x3.toNat (D.int 0)).fld (1:Nat)).toStr) (((x1.getD x3.toNat (D.int 0)).fld (2:Nat)).toInt) (((x1.getD x3.toNat (D.int 0)).fld (3:Nat)).toInt) (((x1.getD x3.toNat (D.int 0)).fld (4:Nat)).toInt)).bind (fun y0=>
 bif !y0 then
 k (.inl (x0,Bool.false))
 else
 bif decide ((0:Int)<x3) then
 if (0:Int)≤IntKind.i64.wrap (x3 - 1)∧IntKind.i64.wrap (x3 - 1)<(↑x0.length:Int) then
 (Z31 (((x0.getD (IntKind.i64.wrap (x3 - 1)).toNat (D.int 0)).fld (0:Nat)).toInt) (((x0.getD (IntKind.i64.wrap (x3 - 1)).toNat (D.int 0)).fld (1:Nat)).toStr) (((x0.getD (IntKind.i64.wrap (x3 - 1)).toNat (D.int 0)).fld (2:Nat)).toInt) (((x0.getD (IntKind.i64.wrap (x3 - 1)).toNat (D.int 0)).fld (3:Nat)).toInt) (((x0.getD (IntKind.i64.wrap (x3 - 1)).toNat (D.int 0)).fld (4:Nat)).toInt) (((x1.getD x3.toNat (D.int 0)).fld (0:Nat)).toInt) (((x1.getD x3.toNat (D.int 0)).fld (1:Nat)).toStr) (((x1.getD x3.toNat (D.int 0)).fld (2:Nat)).toInt) (((x1.getD x3.toNat (D.int 0)).fld (3:Nat)).toInt) (((x1.getD x3.toNat (D.int 0)).fld (4:Nat)).toInt)).bind (fun y1=>
 bif decide ((0:Int)≤y1) then
 k (.inl (x0,Bool.false))
 else
 (F x0 x1 x2 (IntKind.i64.wrap (x3 + 1))).bind k)
 else
 none
 else
 (F x0 x1 x2 (IntKind.i64.wrap (x3 + 1))).bind k)
 else
 none
 else
 k (.inr x0)
theorem c_Z32_bind {R:Type} (F:T_Z32) (x0 x1:List D) (x2 x3:Int) (k:(List D × Bool) ⊕ (List D)→Option R):c_Z32 F x0 x1 x2 x3 k=(c_Z32 F x0 x1 x2 x3 some).bind k:=by
 unfold c_Z32
 repeat' first|exact bnd_tail|exact bnd_none|exact bnd_leaf|apply bnd_ite|apply bnd_cond|apply bnd_sum|(apply bnd_bind;intro _)|intro _
def n_Z32:Nat→T_Z32
 | 0,_,_,_,_=>none
 | n + 1,x0,x1,x2,x3=>c_Z32 (n_Z32 n) x0 x1 x2 x3 some
noncomputable def Z32 (x0 x1:List D) (x2 x3:Int):Option ((List D × Bool) ⊕ (List D)):=ev (fun n=>n_Z32 n x0 x1 x2 x3)
def m_Z32 (F:T_Z32):Lent:=⟨2,⟨(.rd (.struct [.int .i64,.str,.int .i64,.int .i64,.int .i64]) :: uu 4 (.rd (.struct [.int .i64,.str,.int .i64,.int .i64,.int .i64]) :: .int .i64 :: .int .i64 :: uu 25 ([]))),[]⟩,[(.ret,⟨(.rd (.struct [.int .i64,.str,.int .i64,.int .i64,.int .i64]) :: .undef :: .bool :: uu 30 ([])),[]⟩),(.exit 0,⟨(.rd (.struct [.int .i64,.str,.int .i64,.int .i64,.int .i64]) :: uu 32 ([])),[]⟩)],fun _ ds k=>dL (fun x0 ds=>dL (fun x1 ds=>dI (fun x2 ds=>dI (fun x3 ds=>dE ((F x0 x1 x2 x3).bind (Sum.elim (fun y=>k 0 [.L y.1,.B y.2]) (fun y=>k 1 [.L y]))) ds) ds) ds) ds) ds⟩
theorem q_Z32 (F:T_Z32) (x0 x1:List D) (x2 x3:Int):runLoop (ocOf [e_Z24,e_Z31]) (olOf [m_Z32 F]) A 30 (codeAt (bodyOf Try.f30) 2) ((m_Z32 F).sh.mk' [.L x0,.L x1,.I x2,.I x3]) (fun e σ'=>some (e,σ'))=c_Z32 F x0 x1 x2 x3 (Sum.elim (fun y=>some (.ret,SSt.mk' ⟨(.rd (.struct [.int .i64,.str,.int .i64,.int .i64,.int .i64]) :: .undef :: .bool :: uu 30 ([])),[]⟩ [.L y.1,.B y.2])) (fun y=>some (.exit 0,SSt.mk' ⟨(.rd (.struct [.int .i64,.str,.int .i64,.int .i64,.int .i64]) :: uu 32 ([])),[]⟩ [.L y]))):=by kernel_rfl
theorem m_Z32_ok:∀ n,(m_Z32 (n_Z32 n)).ok Try.prog (codeAt (bodyOf Try.f30) 2):=by
 intro n
 induction n with
 | zero=>
  intro R ds k r h
  unfold m_Z32 at h
  obtain ⟨_,_,rfl,h⟩:=dL_some h
  obtain ⟨_,_,rfl,h⟩:=dL_some h
  obtain ⟨_,_,rfl,h⟩:=dI_some h
  obtain ⟨_,_,rfl,h⟩:=dI_some h
  obtain ⟨rfl,hE⟩:=dE_some h
  obtain ⟨y,hy,hk⟩:=bnd_some hE
  cases hy
 | succ n ih=>
  intro R ds k r h
  unfold m_Z32 at h
  obtain ⟨_,_,rfl,h⟩:=dL_some h
  obtain ⟨_,_,rfl,h⟩:=dL_some h
  obtain ⟨_,_,rfl,h⟩:=dI_some h
  obtain ⟨_,_,rfl,h⟩:=dI_some h
  obtain ⟨rfl,hE⟩:=dE_some h
  obtain ⟨y,hy,hk⟩:=bnd_some hE
  cases y with
  | inl y=>
   exact ⟨0,_,_,_,hk,rfl,loop_ok px (fx:=⟨Try.func30,by kernel_rfl,by kernel_rfl⟩) (entsOK_cons e_Z24_ok (entsOK_cons e_Z31_ok entsOK_nil)) (lentsOK_cons ih lentsOK_nil) (by kernel_rfl) ((q_Z32 ..).trans ((c_Z32_bind ..).trans (bnd_to hy)))⟩
  | inr y=>
   exact ⟨1,_,_,_,hk,rfl,loop_ok px (fx:=⟨Try.func30,by kernel_rfl,by kernel_rfl⟩) (entsOK_cons e_Z24_ok (entsOK_cons e_Z31_ok entsOK_nil)) (lentsOK_cons ih lentsOK_nil) (by kernel_rfl) ((q_Z32 ..).trans ((c_Z32_bind ..).trans (bnd_to hy)))⟩
noncomputable def e_Z32:Lent:=m_Z32 (Z32)
theorem e_Z32_ok:(e_Z32).ok Try.prog (codeAt (bodyOf Try.f30) 2):=by
 intro R ds k r h
 unfold e_Z32 m_Z32 at h
 obtain ⟨_,_,rfl,h⟩:=dL_some h
 obtain ⟨_,_,rfl,h⟩:=dL_some h
 obtain ⟨_,_,rfl,h⟩:=dI_some h
 obtain ⟨_,_,rfl,h⟩:=dI_some h
 obtain ⟨rfl,hE⟩:=dE_some h
 obtain ⟨y,hy,hk⟩:=bnd_some hE
 obtain ⟨n,hn⟩:=ev_some hy
 exact m_Z32_ok n R _ k r ((bnd_to hn).trans hk)

/-!-/
def c_Z33 {R:Type} (x0:List D) (k:Bool→Option R):Option R:=
 (Z32 x0 x0 (↑x0.length:Int) (0:Int)).bind (Sum.elim (fun y0=>
 k y0.snd) (fun y1=>
 k (decide ((↑y1.length:Int)≤(30:Int)))))
theorem c_Z33_bind {R:Type} (x0:List D) (k:Bool→Option R):c_Z33 x0 k=(c_Z33 x0 some).bind k:=by
 unfold c_Z33
 repeat' first|exact bnd_tail|exact bnd_none|exact bnd_leaf|apply bnd_ite|apply bnd_cond|apply bnd_sum|(apply bnd_bind;intro _)|intro _
def Z33 (x0:List D):Option (Bool):=c_Z33 x0 some
def e_Z33:Ent:=⟨30,[.rd (.struct [.int .i64,.str,.int .i64,.int .i64,.int .i64])],[(.bool,[.undef])],fun _ ds k=>dL (fun x0 ds=>dE ((Z33 x0).bind (fun y=>k 0 [.B y])) ds) ds⟩
theorem q_Z33 (x0:List D):runFn (ocOf []) (olOf [e_Z32]) A 30 Try.f30 (Sh.mks e_Z33.sh [.L x0]).1 (fun v os=>some (v,os))=c_Z33 x0 (fun y=>retO e_Z33 0 [.B y]):=by kernel_rfl
theorem e_Z33_ok:e_Z33.ok Try.prog A:=by
 intro R ds k r h
 unfold e_Z33 at h
 obtain ⟨_,_,rfl,h⟩:=dL_some h
 obtain ⟨rfl,hE⟩:=dE_some h
 obtain ⟨y,hy,hk⟩:=bnd_some hE
 exact ⟨0,_,_,_,hk,rfl,fn_ok px (fx:=⟨Try.func30,by kernel_rfl,by kernel_rfl⟩) entsOK_nil (lentsOK_cons e_Z32_ok lentsOK_nil) ((q_Z33 ..).trans ((c_Z33_bind ..).trans (bnd_to hy)))⟩

/-!-/
def c_Z34 {R:Type} (x0:List D) (k:List D→Option R):Option R:=
 if (1:Nat)≤x0.length then
 if ([]:List D).length + x0.length≤(4294967296:Nat) then
 k ([] ++ x0)
 else
 none
 else
 bothK (
 if ([]:List D).length + x0.length≤(4294967296:Nat) then
 k ([] ++ x0)
 else
 none) (
 k [])
theorem c_Z34_imp {R:Type} (x0:List D) (k:List D→Option R) (y:List D) (hy:c_Z34 x0 some=some y):c_Z34 x0 k=k y:=by
 revert hy
 unfold c_Z34
 repeat' first
  | exact imp_leaf
  | exact imp_none
  | exact imp_tail
  | apply imp_both
  | apply imp_ite
  | apply imp_cond
  | apply imp_sum
  | (apply imp_bind; intro _)
  | intro _
def Z34 (x0:List D):Option (List D):=c_Z34 x0 some
def e_Z34:Ent:=⟨48,[.rd (.struct [.int .i64,.str,.int .i64,.int .i64,.int .i64])],[(.own (.struct [.int .i64,.str,.int .i64,.int .i64,.int .i64]),[.undef])],fun _ ds k=>dL (fun x0 ds=>dE ((Z34 x0).bind (fun y=>k 0 [.L y])) ds) ds⟩
theorem q_Z34 (x0:List D):runFn (ocOf []) (olOf []) A 48 Try.f48 (Sh.mks e_Z34.sh [.L x0]).1 (fun v os=>some (v,os))=c_Z34 x0 (fun y=>retO e_Z34 0 [.L y]):=by kernel_rfl
theorem e_Z34_ok:e_Z34.ok Try.prog A:=by
 intro R ds k r h
 unfold e_Z34 at h
 obtain ⟨_,_,rfl,h⟩:=dL_some h
 obtain ⟨rfl,hE⟩:=dE_some h
 obtain ⟨y,hy,hk⟩:=bnd_some hE
 exact ⟨0,_,_,_,hk,rfl,fn_ok px (fx:=⟨Try.func48,by kernel_rfl,by kernel_rfl⟩) entsOK_nil lentsOK_nil ((q_Z34 ..).trans (c_Z34_imp (hy:=hy) ..))⟩

/-!-/
def c_Z35 {R:Type} (x0:Int) (x1:ByteArray) (x2 x3 x4 x5:Int) (k:Bool→Option R):Option R:=
 k (!decide (x0=x5))
theorem c_Z35_bind {R:Type} (x0:Int) (x1:ByteArray) (x2 x3 x4 x5:Int) (k:Bool→Option R):c_Z35 x0 x1 x2 x3 x4 x5 k=(c_Z35 x0 x1 x2 x3 x4 x5 some).bind k:=by
 unfold c_Z35
 repeat' first|exact bnd_tail|exact bnd_none|exact bnd_leaf|apply bnd_ite|apply bnd_cond|apply bnd_sum|(apply bnd_bind;intro _)|intro _
def Z35 (x0:Int) (x1:ByteArray) (x2 x3 x4 x5:Int):Option (Bool):=c_Z35 x0 x1 x2 x3 x4 x5 some
def e_Z35:Ent:=⟨56,[.agg [.int .i64,.str,.int .i64,.int .i64,.int .i64],.rp (.int .i64)],[(.bool,[.undef,.undef])],fun _ ds k=>dI (fun x0 ds=>dS (fun x1 ds=>dI (fun x2 ds=>dI (fun x3 ds=>dI (fun x4 ds=>dI (fun x5 ds=>dE ((Z35 x0 x1 x2 x3 x4 x5).bind (fun y=>k 0 [.B y])) ds) ds) ds) ds) ds) ds) ds⟩
theorem q_Z35 (x0:Int) (x1:ByteArray) (x2 x3 x4 x5:Int):runFn (ocOf []) (olOf []) A 56 Try.f56 (Sh.mks e_Z35.sh [.I x0,.S x1,.I x2,.I x3,.I x4,.I x5]).1 (fun v os=>some (v,os))=c_Z35 x0 x1 x2 x3 x4 x5 (fun y=>retO e_Z35 0 [.B y]):=by kernel_rfl
theorem e_Z35_ok:e_Z35.ok Try.prog A:=by
 intro R ds k r h
 unfold e_Z35 at h
 obtain ⟨_,_,rfl,h⟩:=dI_some h
 obtain ⟨_,_,rfl,h⟩:=dS_some h
 obtain ⟨_,_,rfl,h⟩:=dI_some h
 obtain ⟨_,_,rfl,h⟩:=dI_some h
 obtain ⟨_,_,rfl,h⟩:=dI_some h
 obtain ⟨_,_,rfl,h⟩:=dI_some h
 obtain ⟨rfl,hE⟩:=dE_some h
 obtain ⟨y,hy,hk⟩:=bnd_some hE
 exact ⟨0,_,_,_,hk,rfl,fn_ok px (fx:=⟨Try.func56,by kernel_rfl,by kernel_rfl⟩) entsOK_nil lentsOK_nil ((q_Z35 ..).trans ((c_Z35_bind ..).trans (bnd_to hy)))⟩

/-!-/
abbrev T_Z36:=List D→Int→Int→Int→Option ((Int) ⊕ (Unit))
def c_Z36 {R:Type} (F:T_Z36) (x0:List D) (x1 x2 x3:Int) (k:(Int) ⊕ (Unit)→Option R):Option R:=
 bif decide (x3<x2) then
 if 0≤x3∧x3<(↑x0.length:Int) then
 (Z35 (((x0.getD x3.toNat (D.int 0)).fld (0:Nat)).toInt) (((x0.getD x3.toNat (D.int 0)).fld (1:Nat)).toStr) (((x0.getD x3.toNat (D.int 0)).fld (2:Nat)).toInt) (((x0.getD x3.toNat (D.int 0)).fld (3:Nat)).toInt) (((x0.getD x3.toNat (D.int 0)).fld (4:Nat)).toInt) x1).bind (fun y0=>
 bif y0 then
 k (.inl x3)
 else
 (F x0 x1 x2 (IntKind.i64.wrap (x3 + 1))).bind k)
 else
 none
 else
 k (.inr ())
theorem c_Z36_bind {R:Type} (F:T_Z36) (x0:List D) (x1 x2 x3:Int) (k:(Int) ⊕ (Unit)→Option R):c_Z36 F x0 x1 x2 x3 k=(c_Z36 F x0 x1 x2 x3 some).bind k:=by
 unfold c_Z36
 repeat' first|exact bnd_tail|exact bnd_none|exact bnd_leaf|apply bnd_ite|apply bnd_cond|apply bnd_sum|(apply bnd_bind;intro _)|intro _
def n_Z36:Nat→T_Z36
 | 0,_,_,_,_=>none
 | n + 1,x0,x1,x2,x3=>c_Z36 (n_Z36 n) x0 x1 x2 x3 some
noncomputable def Z36 (x0:List D) (x1 x2 x3:Int):Option ((Int) ⊕ (Unit)):=ev (fun n=>n_Z36 n x0 x1 x2 x3)
def m_Z36 (F:T_Z36):Lent:=⟨2,⟨(.rd (.struct [.int .i64,.str,.int .i64,.int .i64,.int .i64]) :: .fn 56 [.rp (.int .i64)] :: uu 5 (.int .i64 :: .int .i64 :: uu 10 ([]))),[]⟩,[(.ret,⟨(uu 4 (.int .i64 :: uu 14 ([]))),[]⟩),(.exit 0,⟨(uu 19 ([])),[]⟩)],fun _ ds k=>dL (fun x0 ds=>dI (fun x1 ds=>dI (fun x2 ds=>dI (fun x3 ds=>dE ((F x0 x1 x2 x3).bind (Sum.elim (fun y=>k 0 [.I y]) (fun y=>k 1 []))) ds) ds) ds) ds) ds⟩
theorem q_Z36 (F:T_Z36) (x0:List D) (x1 x2 x3:Int):runLoop (ocOf [e_Z35]) (olOf [m_Z36 F]) A 71 (codeAt (bodyOf Try.f71) 2) ((m_Z36 F).sh.mk' [.L x0,.I x1,.I x2,.I x3]) (fun e σ'=>some (e,σ'))=c_Z36 F x0 x1 x2 x3 (Sum.elim (fun y=>some (.ret,SSt.mk' ⟨(uu 4 (.int .i64 :: uu 14 ([]))),[]⟩ [.I y])) (fun y=>some (.exit 0,SSt.mk' ⟨(uu 19 ([])),[]⟩ []))):=by kernel_rfl
theorem m_Z36_ok:∀ n,(m_Z36 (n_Z36 n)).ok Try.prog (codeAt (bodyOf Try.f71) 2):=by
 intro n
 induction n with
 | zero=>
  intro R ds k r h
  unfold m_Z36 at h
  obtain ⟨_,_,rfl,h⟩:=dL_some h
  obtain ⟨_,_,rfl,h⟩:=dI_some h
  obtain ⟨_,_,rfl,h⟩:=dI_some h
  obtain ⟨_,_,rfl,h⟩:=dI_some h
  obtain ⟨rfl,hE⟩:=dE_some h
  obtain ⟨y,hy,hk⟩:=bnd_some hE
  cases hy
 | succ n ih=>
  intro R ds k r h
  unfold m_Z36 at h
  obtain ⟨_,_,rfl,h⟩:=dL_some h
  obtain ⟨_,_,rfl,h⟩:=dI_some h
  obtain ⟨_,_,rfl,h⟩:=dI_some h
  obtain ⟨_,_,rfl,h⟩:=dI_some h
  obtain ⟨rfl,hE⟩:=dE_some h
  obtain ⟨y,hy,hk⟩:=bnd_some hE
  cases y with
  | inl y=>
   exact ⟨0,_,_,_,hk,rfl,loop_ok px (fx:=⟨Try.func71,by kernel_rfl,by kernel_rfl⟩) (entsOK_cons e_Z35_ok entsOK_nil) (lentsOK_cons ih lentsOK_nil) (by kernel_rfl) ((q_Z36 ..).trans ((c_Z36_bind ..).trans (bnd_to hy)))⟩
  | inr y=>
   exact ⟨1,_,_,_,hk,rfl,loop_ok px (fx:=⟨Try.func71,by kernel_rfl,by kernel_rfl⟩) (entsOK_cons e_Z35_ok entsOK_nil) (lentsOK_cons ih lentsOK_nil) (by kernel_rfl) ((q_Z36 ..).trans ((c_Z36_bind ..).trans (bnd_to hy)))⟩
noncomputable def e_Z36:Lent:=m_Z36 (Z36)
theorem e_Z36_ok:(e_Z36).ok Try.prog (codeAt (bodyOf Try.f71) 2):=by
 intro R ds k r h
 unfold e_Z36 m_Z36 at h
 obtain ⟨_,_,rfl,h⟩:=dL_some h
 obtain ⟨_,_,rfl,h⟩:=dI_some h
 obtain ⟨_,_,rfl,h⟩:=dI_some h
 obtain ⟨_,_,rfl,h⟩:=dI_some h
 obtain ⟨rfl,hE⟩:=dE_some h
 obtain ⟨y,hy,hk⟩:=bnd_some hE
 obtain ⟨n,hn⟩:=ev_some hy
 exact m_Z36_ok n R _ k r ((bnd_to hn).trans hk)

/-!-/
def c_Z37 {R:Type} (x0:List D) (x1:Int) (k:Int→Option R):Option R:=
 (Z36 x0 x1 (↑x0.length:Int) (0:Int)).bind (Sum.elim (fun y0=>
 k y0) (fun y1=>
 k (-1:Int)))
theorem c_Z37_bind {R:Type} (x0:List D) (x1:Int) (k:Int→Option R):c_Z37 x0 x1 k=(c_Z37 x0 x1 some).bind k:=by
 unfold c_Z37
 repeat' first|exact bnd_tail|exact bnd_none|exact bnd_leaf|apply bnd_ite|apply bnd_cond|apply bnd_sum|(apply bnd_bind;intro _)|intro _
def Z37 (x0:List D) (x1:Int):Option (Int):=c_Z37 x0 x1 some
def e_Z37:Ent:=⟨71,[.rd (.struct [.int .i64,.str,.int .i64,.int .i64,.int .i64]),.fn 56 [.rp (.int .i64)]],[(.int .i64,[.undef,.undef])],fun _ ds k=>dL (fun x0 ds=>dI (fun x1 ds=>dE ((Z37 x0 x1).bind (fun y=>k 0 [.I y])) ds) ds) ds⟩
theorem q_Z37 (x0:List D) (x1:Int):runFn (ocOf []) (olOf [e_Z36]) A 71 Try.f71 (Sh.mks e_Z37.sh [.L x0,.I x1]).1 (fun v os=>some (v,os))=c_Z37 x0 x1 (fun y=>retO e_Z37 0 [.I y]):=by kernel_rfl
theorem e_Z37_ok:e_Z37.ok Try.prog A:=by
 intro R ds k r h
 unfold e_Z37 at h
 obtain ⟨_,_,rfl,h⟩:=dL_some h
 obtain ⟨_,_,rfl,h⟩:=dI_some h
 obtain ⟨rfl,hE⟩:=dE_some h
 obtain ⟨y,hy,hk⟩:=bnd_some hE
 exact ⟨0,_,_,_,hk,rfl,fn_ok px (fx:=⟨Try.func71,by kernel_rfl,by kernel_rfl⟩) entsOK_nil (lentsOK_cons e_Z36_ok lentsOK_nil) ((q_Z37 ..).trans ((c_Z37_bind ..).trans (bnd_to hy)))⟩

/-!-/
abbrev T_Z38:=Int→Int→Int→List D→Option (Int × List D)
def c_Z38 {R:Type} (F:T_Z38) (x0 x1 x2:Int) (x3:List D) (k:Int × List D→Option R):Option R:=
 bif decide (x2<(↑x3.length:Int)) then
 if 0≤x2∧x2<(↑x3.length:Int) then
 if x2.toNat + 1≤x3.length then
 (Z35 (((x3.getD x2.toNat (D.int 0)).fld (0:Nat)).toInt) (((x3.getD x2.toNat (D.int 0)).fld (1:Nat)).toStr) (((x3.getD x2.toNat (D.int 0)).fld (2:Nat)).toInt) (((x3.getD x2.toNat (D.int 0)).fld (3:Nat)).toInt) (((x3.getD x2.toNat (D.int 0)).fld (4:Nat)).toInt) x0).bind (fun y0=>
 bif !y0 then
 if 0≤x1∧x1<(↑x3.length:Int) then
 if x1.toNat + 1≤x3.length then
 (F x0 (IntKind.i64.wrap (x1 + 1)) (IntKind.i64.wrap (x2 + 1)) (x3.set x1.toNat (D.node [D.int ((x3.getD x2.toNat (D.int 0)).fld (0:Nat)).toInt,D.str ((x3.getD x2.toNat (D.int 0)).fld (1:Nat)).toStr,D.int ((x3.getD x2.toNat (D.int 0)).fld (2:Nat)).toInt,D.int ((x3.getD x2.toNat (D.int 0)).fld (3:Nat)).toInt,D.int ((x3.getD x2.toNat (D.int 0)).fld (4:Nat)).toInt]))).bind k
 else
 none
 else
 none
 else
 (F x0 x1 (IntKind.i64.wrap (x2 + 1)) x3).bind k)
 else
 none
 else
 none
 else
 k (x1,x3)
theorem c_Z38_bind {R:Type} (F:T_Z38) (x0 x1 x2:Int) (x3:List D) (k:Int × List D→Option R):c_Z38 F x0 x1 x2 x3 k=(c_Z38 F x0 x1 x2 x3 some).bind k:=by
 unfold c_Z38
 repeat' first|exact bnd_tail|exact bnd_none|exact bnd_leaf|apply bnd_ite|apply bnd_cond|apply bnd_sum|(apply bnd_bind;intro _)|intro _
def n_Z38:Nat→T_Z38
 | 0,_,_,_,_=>none
 | n + 1,x0,x1,x2,x3=>c_Z38 (n_Z38 n) x0 x1 x2 x3 some
noncomputable def Z38 (x0 x1 x2:Int) (x3:List D):Option (Int × List D):=ev (fun n=>n_Z38 n x0 x1 x2 x3)
def m_Z38 (F:T_Z38):Lent:=⟨5,⟨(.full 1000 [] (.struct [.int .i64,.str,.int .i64,.int .i64,.int .i64]) :: .fn 56 [.rp (.int .i64)] :: .undef :: .undef :: .undef :: .int .i64 :: .int .i64 :: uu 35 ([])),[(1000,.own (.struct [.int .i64,.str,.int .i64,.int .i64,.int .i64]))]⟩,[(.exit 0,⟨(.full 1000 [] (.struct [.int .i64,.str,.int .i64,.int .i64,.int .i64]) :: uu 4 (.int .i64 :: uu 36 ([]))),[(1000,.own (.struct [.int .i64,.str,.int .i64,.int .i64,.int .i64]))]⟩)],fun _ ds k=>dI (fun x0 ds=>dI (fun x1 ds=>dI (fun x2 ds=>dL (fun x3 ds=>dE ((F x0 x1 x2 x3).bind (fun y=>k 0 [.I y.1,.L y.2])) ds) ds) ds) ds) ds⟩
theorem q_Z38 (F:T_Z38) (x0 x1 x2:Int) (x3:List D):runLoop (ocOf [e_Z35]) (olOf [m_Z38 F]) A 55 (codeAt (bodyOf Try.f55) 5) ((m_Z38 F).sh.mk' [.I x0,.I x1,.I x2,.L x3]) (fun e σ'=>some (e,σ'))=c_Z38 F x0 x1 x2 x3 (fun y=>some (.exit 0,SSt.mk' ⟨(.full 1000 [] (.struct [.int .i64,.str,.int .i64,.int .i64,.int .i64]) :: uu 4 (.int .i64 :: uu 36 ([]))),[(1000,.own (.struct [.int .i64,.str,.int .i64,.int .i64,.int .i64]))]⟩ [.I y.1,.L y.2])):=by kernel_rfl
theorem m_Z38_ok:∀ n,(m_Z38 (n_Z38 n)).ok Try.prog (codeAt (bodyOf Try.f55) 5):=by
 intro n
 induction n with
 | zero=>
  intro R ds k r h
  unfold m_Z38 at h
  obtain ⟨_,_,rfl,h⟩:=dI_some h
  obtain ⟨_,_,rfl,h⟩:=dI_some h
  obtain ⟨_,_,rfl,h⟩:=dI_some h
  obtain ⟨_,_,rfl,h⟩:=dL_some h
  obtain ⟨rfl,hE⟩:=dE_some h
  obtain ⟨y,hy,hk⟩:=bnd_some hE
  cases hy
 | succ n ih=>
  intro R ds k r h
  unfold m_Z38 at h
  obtain ⟨_,_,rfl,h⟩:=dI_some h
  obtain ⟨_,_,rfl,h⟩:=dI_some h
  obtain ⟨_,_,rfl,h⟩:=dI_some h
  obtain ⟨_,_,rfl,h⟩:=dL_some h
  obtain ⟨rfl,hE⟩:=dE_some h
  obtain ⟨y,hy,hk⟩:=bnd_some hE
  exact ⟨0,_,_,_,hk,rfl,loop_ok px (fx:=⟨Try.func55,by kernel_rfl,by kernel_rfl⟩) (entsOK_cons e_Z35_ok entsOK_nil) (lentsOK_cons ih lentsOK_nil) (by kernel_rfl) ((q_Z38 ..).trans ((c_Z38_bind ..).trans (bnd_to hy)))⟩
noncomputable def e_Z38:Lent:=m_Z38 (Z38)
theorem e_Z38_ok:(e_Z38).ok Try.prog (codeAt (bodyOf Try.f55) 5):=by
 intro R ds k r h
 unfold e_Z38 m_Z38 at h
 obtain ⟨_,_,rfl,h⟩:=dI_some h
 obtain ⟨_,_,rfl,h⟩:=dI_some h
 obtain ⟨_,_,rfl,h⟩:=dI_some h
 obtain ⟨_,_,rfl,h⟩:=dL_some h
 obtain ⟨rfl,hE⟩:=dE_some h
 obtain ⟨y,hy,hk⟩:=bnd_some hE
 obtain ⟨n,hn⟩:=ev_some hy
 exact m_Z38_ok n R _ k r ((bnd_to hn).trans hk)

/-!-/
def c_Z39 {R:Type} (x0:List D) (x1:Int) (k:List D→Option R):Option R:=
 (Z37 x0 x1).bind (fun y0=>
 bif decide (y0=(-1:Int)) then
 k x0
 else
 (Z38 x1 y0 (IntKind.i64.wrap (y0 + 1)) x0).bind (fun y1=>
 if 0≤y1.fst∧y1.fst≤(↑y1.snd.length:Int)∧(↑y1.snd.length:Int)≤(↑y1.snd.length:Int) then
 if y1.fst.toNat + (y1.snd.length - y1.fst.toNat)≤y1.snd.length then
 if (0:Int)≤(0:Int)∧0≤y1.fst∧y1.fst≤(↑(List.take y1.fst.toNat y1.snd ++ List.replicate (y1.snd.length - y1.fst.toNat) (D.node [D.int 0,D.str bytes_0,D.int 0,D.int 0,D.int 0]) ++ List.drop (y1.fst.toNat + (List.replicate (y1.snd.length - y1.fst.toNat) (D.node [D.int 0,D.str bytes_0,D.int 0,D.int 0,D.int 0])).length) y1.snd).length:Int) then
 if (0:Nat) + (y1.fst.toNat - (0:Nat))≤(List.take y1.fst.toNat y1.snd ++ List.replicate (y1.snd.length - y1.fst.toNat) (D.node [D.int 0,D.str bytes_0,D.int 0,D.int 0,D.int 0]) ++ List.drop (y1.fst.toNat + (List.replicate (y1.snd.length - y1.fst.toNat) (D.node [D.int 0,D.str bytes_0,D.int 0,D.int 0,D.int 0])).length) y1.snd).length then
 k (List.take (y1.fst.toNat - (0:Nat)) (List.drop (0:Nat) (List.take y1.fst.toNat y1.snd ++ List.replicate (y1.snd.length - y1.fst.toNat) (D.node [D.int 0,D.str bytes_0,D.int 0,D.int 0,D.int 0]) ++ List.drop (y1.fst.toNat + (List.replicate (y1.snd.length - y1.fst.toNat) (D.node [D.int 0,D.str bytes_0,D.int 0,D.int 0,D.int 0])).length) y1.snd)))
 else
 none
 else
 none
 else
 none
 else
 none))
theorem c_Z39_bind {R:Type} (x0:List D) (x1:Int) (k:List D→Option R):c_Z39 x0 x1 k=(c_Z39 x0 x1 some).bind k:=by
 unfold c_Z39
 repeat' first|exact bnd_tail|exact bnd_none|exact bnd_leaf|apply bnd_ite|apply bnd_cond|apply bnd_sum|(apply bnd_bind;intro _)|intro _
def Z39 (x0:List D) (x1:Int):Option (List D):=c_Z39 x0 x1 some
def e_Z39:Ent:=⟨55,[.own (.struct [.int .i64,.str,.int .i64,.int .i64,.int .i64]),.fn 56 [.rp (.int .i64)]],[(.own (.struct [.int .i64,.str,.int .i64,.int .i64,.int .i64]),[.undef,.undef])],fun _ ds k=>dL (fun x0 ds=>dI (fun x1 ds=>dE ((Z39 x0 x1).bind (fun y=>k 0 [.L y])) ds) ds) ds⟩
theorem q_Z39 (x0:List D) (x1:Int):runFn (ocOf [e_Z37]) (olOf [e_Z38]) A 55 Try.f55 (Sh.mks e_Z39.sh [.L x0,.I x1]).1 (fun v os=>some (v,os))=c_Z39 x0 x1 (fun y=>retO e_Z39 0 [.L y]):=by kernel_rfl
theorem e_Z39_ok:e_Z39.ok Try.prog A:=by
 intro R ds k r h
 unfold e_Z39 at h
 obtain ⟨_,_,rfl,h⟩:=dL_some h
 obtain ⟨_,_,rfl,h⟩:=dI_some h
 obtain ⟨rfl,hE⟩:=dE_some h
 obtain ⟨y,hy,hk⟩:=bnd_some hE
 exact ⟨0,_,_,_,hk,rfl,fn_ok px (fx:=⟨Try.func55,by kernel_rfl,by kernel_rfl⟩) (entsOK_cons e_Z37_ok entsOK_nil) (lentsOK_cons e_Z38_ok lentsOK_nil) ((q_Z39 ..).trans ((c_Z39_bind ..).trans (bnd_to hy)))⟩

/-!-/
def c_Z40 {R:Type} (x0:List D) (x1:Int) (k:List D × Bool→Option R):Option R:=
 (Z33 x0).bind (fun y0=>
 bif !y0 then
 k ([],Bool.false)
 else
 (Z21 x1).bind (fun y1=>
 bif !y1 then
 k ([],Bool.false)
 else
 (Z34 x0).bind (fun y2=>
 (Z39 y2 x1).bind (fun y3=>
 k (y3,Bool.true)))))
theorem c_Z40_bind {R:Type} (x0:List D) (x1:Int) (k:List D × Bool→Option R):c_Z40 x0 x1 k=(c_Z40 x0 x1 some).bind k:=by
 unfold c_Z40
 repeat' first|exact bnd_tail|exact bnd_none|exact bnd_leaf|apply bnd_ite|apply bnd_cond|apply bnd_sum|(apply bnd_bind;intro _)|intro _
def Z40 (x0:List D) (x1:Int):Option (List D × Bool):=c_Z40 x0 x1 some
def e_Z40:Ent:=⟨37,[.rd (.struct [.int .i64,.str,.int .i64,.int .i64,.int .i64]),.int .i64],[(.tup [.own (.struct [.int .i64,.str,.int .i64,.int .i64,.int .i64]),.bool],[.undef,.undef])],fun _ ds k=>dL (fun x0 ds=>dI (fun x1 ds=>dE ((Z40 x0 x1).bind (fun y=>k 0 [.L y.1,.B y.2])) ds) ds) ds⟩
theorem q_Z40 (x0:List D) (x1:Int):runFn (ocOf [e_Z33,e_Z21,e_Z34,e_Z39]) (olOf []) A 37 Try.f37 (Sh.mks e_Z40.sh [.L x0,.I x1]).1 (fun v os=>some (v,os))=c_Z40 x0 x1 (fun y=>retO e_Z40 0 [.L y.1,.B y.2]):=by kernel_rfl
theorem e_Z40_ok:e_Z40.ok Try.prog A:=by
 intro R ds k r h
 unfold e_Z40 at h
 obtain ⟨_,_,rfl,h⟩:=dL_some h
 obtain ⟨_,_,rfl,h⟩:=dI_some h
 obtain ⟨rfl,hE⟩:=dE_some h
 obtain ⟨y,hy,hk⟩:=bnd_some hE
 exact ⟨0,_,_,_,hk,rfl,fn_ok px (fx:=⟨Try.func37,by kernel_rfl,by kernel_rfl⟩) (entsOK_cons e_Z33_ok (entsOK_cons e_Z21_ok (entsOK_cons e_Z34_ok (entsOK_cons e_Z39_ok entsOK_nil)))) lentsOK_nil ((q_Z40 ..).trans ((c_Z40_bind ..).trans (bnd_to hy)))⟩

/-!-/
abbrev T_Z41:=List D→Int→Int→List D→Option (List D)
def c_Z41 {R:Type} (F:T_Z41) (x0:List D) (x1 x2:Int) (x3:List D) (k:List D→Option R):Option R:=
 bif decide (x2<x1) then
 if 0≤x2∧x2<(↑x0.length:Int) then
 if x3.length + [D.str ((x0.getD x2.toNat (D.int 0)).fld (1:Nat)).toStr].length≤(4294967296:Nat) then
 (F x0 x1 (IntKind.i64.wrap (x2 + 1)) (x3 ++ [D.str ((x0.getD x2.toNat (D.int 0)).fld (1:Nat)).toStr])).bind k
 else
 none
 else
 none
 else
 k x3
theorem c_Z41_bind {R:Type} (F:T_Z41) (x0:List D) (x1 x2:Int) (x3:List D) (k:List D→Option R):c_Z41 F x0 x1 x2 x3 k=(c_Z41 F x0 x1 x2 x3 some).bind k:=by
 unfold c_Z41
 repeat' first|exact bnd_tail|exact bnd_none|exact bnd_leaf|apply bnd_ite|apply bnd_cond|apply bnd_sum|(apply bnd_bind;intro _)|intro _
def n_Z41:Nat→T_Z41
 | 0,_,_,_,_=>none
 | n + 1,x0,x1,x2,x3=>c_Z41 (n_Z41 n) x0 x1 x2 x3 some
noncomputable def Z41 (x0:List D) (x1 x2:Int) (x3:List D):Option (List D):=ev (fun n=>n_Z41 n x0 x1 x2 x3)
def m_Z41 (F:T_Z41):Lent:=⟨3,⟨(.undef :: .undef :: .undef :: .full 1000 [] (.str) :: .undef :: .undef :: .undef :: .rd (.struct [.int .i64,.str,.int .i64,.int .i64,.int .i64]) :: .int .i64 :: .int .i64 :: uu 13 ([])),[(1000,.own (.str))]⟩,[(.exit 0,⟨(.undef :: .undef :: .undef :: .full 1000 [] (.str) :: uu 19 ([])),[(1000,.own (.str))]⟩)],fun _ ds k=>dL (fun x0 ds=>dI (fun x1 ds=>dI (fun x2 ds=>dL (fun x3 ds=>dE ((F x0 x1 x2 x3).bind (fun y=>k 0 [.L y])) ds) ds) ds) ds) ds⟩
theorem q_Z41 (F:T_Z41) (x0:List D) (x1 x2:Int) (x3:List D):runLoop (ocOf []) (olOf [m_Z41 F]) A 31 (codeAt (bodyOf Try.f31) 3) ((m_Z41 F).sh.mk' [.L x0,.I x1,.I x2,.L x3]) (fun e σ'=>some (e,σ'))=c_Z41 F x0 x1 x2 x3 (fun y=>some (.exit 0,SSt.mk' ⟨(.undef :: .undef :: .undef :: .full 1000 [] (.str) :: uu 19 ([])),[(1000,.own (.str))]⟩ [.L y])):=by kernel_rfl
theorem m_Z41_ok:∀ n,(m_Z41 (n_Z41 n)).ok Try.prog (codeAt (bodyOf Try.f31) 3):=by
 intro n
 induction n with
 | zero=>
  intro R ds k r h
  unfold m_Z41 at h
  obtain ⟨_,_,rfl,h⟩:=dL_some h
  obtain ⟨_,_,rfl,h⟩:=dI_some h
  obtain ⟨_,_,rfl,h⟩:=dI_some h
  obtain ⟨_,_,rfl,h⟩:=dL_some h
  obtain ⟨rfl,hE⟩:=dE_some h
  obtain ⟨y,hy,hk⟩:=bnd_some hE
  cases hy
 | succ n ih=>
  intro R ds k r h
  unfold m_Z41 at h
  obtain ⟨_,_,rfl,h⟩:=dL_some h
  obtain ⟨_,_,rfl,h⟩:=dI_some h
  obtain ⟨_,_,rfl,h⟩:=dI_some h
  obtain ⟨_,_,rfl,h⟩:=dL_some h
  obtain ⟨rfl,hE⟩:=dE_some h
  obtain ⟨y,hy,hk⟩:=bnd_some hE
  exact ⟨0,_,_,_,hk,rfl,loop_ok px (fx:=⟨Try.func31,by kernel_rfl,by kernel_rfl⟩) entsOK_nil (lentsOK_cons ih lentsOK_nil) (by kernel_rfl) ((q_Z41 ..).trans ((c_Z41_bind ..).trans (bnd_to hy)))⟩
noncomputable def e_Z41:Lent:=m_Z41 (Z41)
theorem e_Z41_ok:(e_Z41).ok Try.prog (codeAt (bodyOf Try.f31) 3):=by
 intro R ds k r h
 unfold e_Z41 m_Z41 at h
 obtain ⟨_,_,rfl,h⟩:=dL_some h
 obtain ⟨_,_,rfl,h⟩:=dI_some h
 obtain ⟨_,_,rfl,h⟩:=dI_some h
 obtain ⟨_,_,rfl,h⟩:=dL_some h
 obtain ⟨rfl,hE⟩:=dE_some h
 obtain ⟨y,hy,hk⟩:=bnd_some hE
 obtain ⟨n,hn⟩:=ev_some hy
 exact m_Z41_ok n R _ k r ((bnd_to hn).trans hk)

/-!-/
def Z42 (x0:List D):Option (List D):=goSortS x0
def e_Z42:Ent:=entS 52
theorem e_Z42_ok:e_Z42.ok Try.prog A:=entS_ok lays190 rfl ⟨_,Try.func52,by kernel_rfl,by kernel_rfl⟩ (by kernel_rfl)

/-!-/
abbrev T_Z43:=Int→Nat→Nat→Int→List D→Option (Int × List D)
def c_Z43 {R:Type} (F:T_Z43) (x0:Int) (x1 x2:Nat) (x3:Int) (x4:List D) (k:Int × List D→Option R):Option R:=
 bif decide (x3<(↑x2:Int)) then
 if 0≤x3∧x3<(↑x2:Int) then
 if x1 + x2≤x4.length then
 if x1 + x3.toNat + 1≤x4.length then
 if (0:Int)≤IntKind.i64.wrap (x3 - 1)∧IntKind.i64.wrap (x3 - 1)<(↑x2:Int) then
 if x1 + x2≤x4.length then
 if x1 + (IntKind.i64.wrap (x3 - 1)).toNat + 1≤x4.length then
 bif !(x4.getD (x1 + x3.toNat) (D.int 0)).toStr.toList == (x4.getD (x1 + (IntKind.i64.wrap (x3 - 1)).toNat) (D.int 0)).toStr.toList then
 if 0≤x3∧x3<(↑x2:Int) then
 if x1 + x2≤x4.length then
 if x1 + x3.toNat + 1≤x4.length then
 if 0≤x0∧x0<(↑x4.length:Int) then
 if x0.toNat + 1≤x4.length then
 (F (IntKind.i64.wrap (x0 + 1)) x1 x2 (IntKind.i64.wrap (x3 + 1)) (x4.set x0.toNat (D.str (x4.getD (x1 + x3.toNat) (D.int 0)).toStr))).bind k
 else
 none
 else
 none
 else
 none
 else
 none
 else
 none
 else
 (F x0 x1 x2 (IntKind.i64.wrap (x3 + 1)) x4).bind k
 else
 none
 else
 none
 else
 none
 else
 none
 else
 none
 else
 none
 else
 k (x0,x4)
theorem c_Z43_bind {R:Type} (F:T_Z43) (x0:Int) (x1 x2:Nat) (x3:Int) (x4:List D) (k:Int × List D→Option R):c_Z43 F x0 x1 x2 x3 x4 k=(c_Z43 F x0 x1 x2 x3 x4 some).bind k:=by
 unfold c_Z43
 repeat' first|exact bnd_tail|exact bnd_none|exact bnd_leaf|apply bnd_ite|apply bnd_cond|apply bnd_sum|(apply bnd_bind;intro _)|intro _
def n_Z43:Nat→T_Z43
 | 0,_,_,_,_,_=>none
 | n + 1,x0,x1,x2,x3,x4=>c_Z43 (n_Z43 n) x0 x1 x2 x3 x4 some
noncomputable def Z43 (x0:Int) (x1 x2:Nat) (x3:Int) (x4:List D):Option (Int × List D):=ev (fun n=>n_Z43 n x0 x1 x2 x3 x4)
def m_Z43 (F:T_Z43):Lent:=⟨9,⟨(.full 1000 [] (.str) :: .undef :: .undef :: .int .i64 :: .sub 1000 [] (.str) :: .int .i64 :: uu 55 ([])),[(1000,.own (.str))]⟩,[(.exit 2,⟨(.full 1000 [] (.str) :: .undef :: .undef :: .int .i64 :: uu 57 ([])),[(1000,.own (.str))]⟩)],fun _ ds k=>dI (fun x0 ds=>dN (fun x1 ds=>dN (fun x2 ds=>dI (fun x3 ds=>dL (fun x4 ds=>dE ((F x0 x1 x2 x3 x4).bind (fun y=>k 0 [.I y.1,.L y.2])) ds) ds) ds) ds) ds) ds⟩
theorem q_Z43 (F:T_Z43) (x0:Int) (x1 x2:Nat) (x3:Int) (x4:List D):runLoop (ocOf []) (olOf [m_Z43 F]) A 53 (codeAt (bodyOf Try.f53) 9) ((m_Z43 F).sh.mk' [.I x0,.N x1,.N x2,.I x3,.L x4]) (fun e σ'=>some (e,σ'))=c_Z43 F x0 x1 x2 x3 x4 (fun y=>some (.exit 2,SSt.mk' ⟨(.full 1000 [] (.str) :: .undef :: .undef :: .int .i64 :: uu 57 ([])),[(1000,.own (.str))]⟩ [.I y.1,.L y.2])):=by kernel_rfl
theorem m_Z43_ok:∀ n,(m_Z43 (n_Z43 n)).ok Try.prog (codeAt (bodyOf Try.f53) 9):=by
 intro n
 induction n with
 | zero=>
  intro R ds k r h
  unfold m_Z43 at h
  obtain ⟨_,_,rfl,h⟩:=dI_some h
  obtain ⟨_,_,rfl,h⟩:=dN_some h
  obtain ⟨_,_,rfl,h⟩:=dN_some h
  obtain ⟨_,_,rfl,h⟩:=dI_some h
  obtain ⟨_,_,rfl,h⟩:=dL_some h
  obtain ⟨rfl,hE⟩:=dE_some h
  obtain ⟨y,hy,hk⟩:=bnd_some hE
  cases hy
 | succ n ih=>
  intro R ds k r h
  unfold m_Z43 at h
  obtain ⟨_,_,rfl,h⟩:=dI_some h
  obtain ⟨_,_,rfl,h⟩:=dN_some h
  obtain ⟨_,_,rfl,h⟩:=dN_some h
  obtain ⟨_,_,rfl,h⟩:=dI_some h
  obtain ⟨_,_,rfl,h⟩:=dL_some h
  obtain ⟨rfl,hE⟩:=dE_some h
  obtain ⟨y,hy,hk⟩:=bnd_some hE
  exact ⟨0,_,_,_,hk,rfl,loop_ok px (fx:=⟨Try.func53,by kernel_rfl,by kernel_rfl⟩) entsOK_nil (lentsOK_cons ih lentsOK_nil) (by kernel_rfl) ((q_Z43 ..).trans ((c_Z43_bind ..).trans (bnd_to hy)))⟩
noncomputable def e_Z43:Lent:=m_Z43 (Z43)
theorem e_Z43_ok:(e_Z43).ok Try.prog (codeAt (bodyOf Try.f53) 9):=by
 intro R ds k r h
 unfold e_Z43 m_Z43 at h
 obtain ⟨_,_,rfl,h⟩:=dI_some h
 obtain ⟨_,_,rfl,h⟩:=dN_some h
 obtain ⟨_,_,rfl,h⟩:=dN_some h
 obtain ⟨_,_,rfl,h⟩:=dI_some h
 obtain ⟨_,_,rfl,h⟩:=dL_some h
 obtain ⟨rfl,hE⟩:=dE_some h
 obtain ⟨y,hy,hk⟩:=bnd_some hE
 obtain ⟨n,hn⟩:=ev_some hy
 exact m_Z43_ok n R _ k r ((bnd_to hn).trans hk)

/-!-/
abbrev T_Z44:=Int→List D→Option ((Nat × Nat × List D) ⊕ (List D))
def c_Z44 {R:Type} (F:T_Z44) (x0:Int) (x1:List D) (k:(Nat × Nat × List D) ⊕ (List D)→Option R):Option R:=
 bif decide (x0<(↑x1.length:Int)) then
 if 0≤x0∧x0<(↑x1.length:Int) then
 if x0.toNat + 1≤x1.length then
 if (0:Int)≤IntKind.i64.wrap (x0 - 1)∧IntKind.i64.wrap (x0 - 1)<(↑x1.length:Int) then
 if (IntKind.i64.wrap (x0 - 1)).toNat + 1≤x1.length then
 bif (x1.getD x0.toNat (D.int 0)).toStr.toList == (x1.getD (IntKind.i64.wrap (x0 - 1)).toNat (D.int 0)).toStr.toList then
 if 0≤x0∧x0≤(↑x1.length:Int)∧(↑x1.length:Int)≤(↑x1.length:Int) then
 (Z43 x0 x0.toNat (x1.length - x0.toNat) (1:Int) x1).bind (fun y0=>
 if 0≤y0.fst∧y0.fst≤(↑y0.snd.length:Int)∧(↑y0.snd.length:Int)≤(↑y0.snd.length:Int) then
 if y0.fst.toNat + (y0.snd.length - y0.fst.toNat)≤y0.snd.length then
 if (0:Int)≤(0:Int)∧0≤y0.fst∧y0.fst≤(↑(List.take y0.fst.toNat y0.snd ++ List.replicate (y0.snd.length - y0.fst.toNat) (D.str bytes_0) ++ List.drop (y0.fst.toNat + (List.replicate (y0.snd.length - y0.fst.toNat) (D.str bytes_0)).length) y0.snd).length:Int) then
 k (.inl ((0:Nat),y0.fst.toNat - (0:Nat),List.take y0.fst.toNat y0.snd ++ List.replicate (y0.snd.length - y0.fst.toNat) (D.str bytes_0) ++ List.drop (y0.fst.toNat + (List.replicate (y0.snd.length - y0.fst.toNat) (D.str bytes_0)).length) y0.snd))
 else
 none
 else
 none
 else
 none)
 else
 none
 else
 (F (IntKind.i64.wrap (x0 + 1)) x1).bind k
 else
 none
 else
 none
 else
 none
 else
 none
 else
 k (.inr x1)
theorem c_Z44_bind {R:Type} (F:T_Z44) (x0:Int) (x1:List D) (k:(Nat × Nat × List D) ⊕ (List D)→Option R):c_Z44 F x0 x1 k=(c_Z44 F x0 x1 some).bind k:=by
 unfold c_Z44
 repeat' first|exact bnd_tail|exact bnd_none|exact bnd_leaf|apply bnd_ite|apply bnd_cond|apply bnd_sum|(apply bnd_bind;intro _)|intro _
def n_Z44:Nat→T_Z44
 | 0,_,_=>none
 | n + 1,x0,x1=>c_Z44 (n_Z44 n) x0 x1 some
noncomputable def Z44 (x0:Int) (x1:List D):Option ((Nat × Nat × List D) ⊕ (List D)):=ev (fun n=>n_Z44 n x0 x1)
def m_Z44 (F:T_Z44):Lent:=⟨4,⟨(.full 1000 [] (.str) :: .undef :: .undef :: .int .i64 :: uu 57 ([])),[(1000,.own (.str))]⟩,[(.ret,⟨(.full 1000 [] (.str) :: .undef :: .sub 1000 [] (.str) :: uu 58 ([])),[(1000,.own (.str))]⟩),(.exit 0,⟨(.full 1000 [] (.str) :: uu 60 ([])),[(1000,.own (.str))]⟩)],fun _ ds k=>dI (fun x0 ds=>dL (fun x1 ds=>dE ((F x0 x1).bind (Sum.elim (fun y=>k 0 [.N y.1,.N y.2.1,.L y.2.2]) (fun y=>k 1 [.L y]))) ds) ds) ds⟩
theorem q_Z44 (F:T_Z44) (x0:Int) (x1:List D):runLoop (ocOf []) (olOf [m_Z44 F,e_Z43]) A 53 (codeAt (bodyOf Try.f53) 4) ((m_Z44 F).sh.mk' [.I x0,.L x1]) (fun e σ'=>some (e,σ'))=c_Z44 F x0 x1 (Sum.elim (fun y=>some (.ret,SSt.mk' ⟨(.full 1000 [] (.str) :: .undef :: .sub 1000 [] (.str) :: uu 58 ([])),[(1000,.own (.str))]⟩ [.N y.1,.N y.2.1,.L y.2.2])) (fun y=>some (.exit 0,SSt.mk' ⟨(.full 1000 [] (.str) :: uu 60 ([])),[(1000,.own (.str))]⟩ [.L y]))):=by kernel_rfl
theorem m_Z44_ok:∀ n,(m_Z44 (n_Z44 n)).ok Try.prog (codeAt (bodyOf Try.f53) 4):=by
 intro n
 induction n with
 | zero=>
  intro R ds k r h
  unfold m_Z44 at h
  obtain ⟨_,_,rfl,h⟩:=dI_some h
  obtain ⟨_,_,rfl,h⟩:=dL_some h
  obtain ⟨rfl,hE⟩:=dE_some h
  obtain ⟨y,hy,hk⟩:=bnd_some hE
  cases hy
 | succ n ih=>
  intro R ds k r h
  unfold m_Z44 at h
  obtain ⟨_,_,rfl,h⟩:=dI_some h
  obtain ⟨_,_,rfl,h⟩:=dL_some h
  obtain ⟨rfl,hE⟩:=dE_some h
  obtain ⟨y,hy,hk⟩:=bnd_some hE
  cases y with
  | inl y=>
   exact ⟨0,_,_,_,hk,rfl,loop_ok px (fx:=⟨Try.func53,by kernel_rfl,by kernel_rfl⟩) entsOK_nil (lentsOK_cons ih (lentsOK_cons e_Z43_ok lentsOK_nil)) (by kernel_rfl) ((q_Z44 ..).trans ((c_Z44_bind ..).trans (bnd_to hy)))⟩
  | inr y=>
   exact ⟨1,_,_,_,hk,rfl,loop_ok px (fx:=⟨Try.func53,by kernel_rfl,by kernel_rfl⟩) entsOK_nil (lentsOK_cons ih (lentsOK_cons e_Z43_ok lentsOK_nil)) (by kernel_rfl) ((q_Z44 ..).trans ((c_Z44_bind ..).trans (bnd_to hy)))⟩
noncomputable def e_Z44:Lent:=m_Z44 (Z44)
theorem e_Z44_ok:(e_Z44).ok Try.prog (codeAt (bodyOf Try.f53) 4):=by
 intro R ds k r h
 unfold e_Z44 m_Z44 at h
 obtain ⟨_,_,rfl,h⟩:=dI_some h
 obtain ⟨_,_,rfl,h⟩:=dL_some h
 obtain ⟨rfl,hE⟩:=dE_some h
 obtain ⟨y,hy,hk⟩:=bnd_some hE
 obtain ⟨n,hn⟩:=ev_some hy
 exact m_Z44_ok n R _ k r ((bnd_to hn).trans hk)

/-!-/
def c_Z45 {R:Type} (x0:List D) (k:List D→Option R):Option R:=
 bif decide ((↑x0.length:Int)<(2:Int)) then
 k x0
 else
 (Z44 (1:Int) x0).bind (Sum.elim (fun y0=>
 if y0.fst + y0.snd.fst≤y0.snd.snd.length then
 k (List.take y0.snd.fst (List.drop y0.fst y0.snd.snd))
 else
 none) (fun y1=>
 k y1))
theorem c_Z45_bind {R:Type} (x0:List D) (k:List D→Option R):c_Z45 x0 k=(c_Z45 x0 some).bind k:=by
 unfold c_Z45
 repeat' first|exact bnd_tail|exact bnd_none|exact bnd_leaf|apply bnd_ite|apply bnd_cond|apply bnd_sum|(apply bnd_bind;intro _)|intro _
def Z45 (x0:List D):Option (List D):=c_Z45 x0 some
def e_Z45:Ent:=⟨53,[.own (.str)],[(.own (.str),[.undef])],fun _ ds k=>dL (fun x0 ds=>dE ((Z45 x0).bind (fun y=>k 0 [.L y])) ds) ds⟩
theorem q_Z45 (x0:List D):runFn (ocOf []) (olOf [e_Z44]) A 53 Try.f53 (Sh.mks e_Z45.sh [.L x0]).1 (fun v os=>some (v,os))=c_Z45 x0 (fun y=>retO e_Z45 0 [.L y]):=by kernel_rfl
theorem e_Z45_ok:e_Z45.ok Try.prog A:=by
 intro R ds k r h
 unfold e_Z45 at h
 obtain ⟨_,_,rfl,h⟩:=dL_some h
 obtain ⟨rfl,hE⟩:=dE_some h
 obtain ⟨y,hy,hk⟩:=bnd_some hE
 exact ⟨0,_,_,_,hk,rfl,fn_ok px (fx:=⟨Try.func53,by kernel_rfl,by kernel_rfl⟩) entsOK_nil (lentsOK_cons e_Z44_ok lentsOK_nil) ((q_Z45 ..).trans ((c_Z45_bind ..).trans (bnd_to hy)))⟩

/-!-/
def c_Z46 {R:Type} (x0:List D) (k:List D→Option R):Option R:=
 (Z41 x0 (↑x0.length:Int) (0:Int) []).bind (fun y0=>
 (Z42 y0).bind (fun y1=>
 (Z45 y1).bind (fun y2=>
 k y2)))
theorem c_Z46_bind {R:Type} (x0:List D) (k:List D→Option R):c_Z46 x0 k=(c_Z46 x0 some).bind k:=by
 unfold c_Z46
 repeat' first|exact bnd_tail|exact bnd_none|exact bnd_leaf|apply bnd_ite|apply bnd_cond|apply bnd_sum|(apply bnd_bind;intro _)|intro _
def Z46 (x0:List D):Option (List D):=c_Z46 x0 some
def e_Z46:Ent:=⟨31,[.rd (.struct [.int .i64,.str,.int .i64,.int .i64,.int .i64])],[(.own (.str),[.undef])],fun _ ds k=>dL (fun x0 ds=>dE ((Z46 x0).bind (fun y=>k 0 [.L y])) ds) ds⟩
theorem q_Z46 (x0:List D):runFn (ocOf [e_Z42,e_Z45]) (olOf [e_Z41]) A 31 Try.f31 (Sh.mks e_Z46.sh [.L x0]).1 (fun v os=>some (v,os))=c_Z46 x0 (fun y=>retO e_Z46 0 [.L y]):=by kernel_rfl
theorem e_Z46_ok:e_Z46.ok Try.prog A:=by
 intro R ds k r h
 unfold e_Z46 at h
 obtain ⟨_,_,rfl,h⟩:=dL_some h
 obtain ⟨rfl,hE⟩:=dE_some h
 obtain ⟨y,hy,hk⟩:=bnd_some hE
 exact ⟨0,_,_,_,hk,rfl,fn_ok px (fx:=⟨Try.func31,by kernel_rfl,by kernel_rfl⟩) (entsOK_cons e_Z42_ok (entsOK_cons e_Z45_ok entsOK_nil)) (lentsOK_cons e_Z41_ok lentsOK_nil) ((q_Z46 ..).trans ((c_Z46_bind ..).trans (bnd_to hy)))⟩

/-!-/
abbrev T_Z47:=List D→ByteArray→Int→Int→Option ((Int) ⊕ (Unit))
def c_Z47 {R:Type} (F:T_Z47) (x0:List D) (x1:ByteArray) (x2 x3:Int) (k:(Int) ⊕ (Unit)→Option R):Option R:=
 bif decide (x3<x2) then
 if 0≤x3∧x3<(↑x0.length:Int) then
 bif x1.toList == (x0.getD x3.toNat (D.int 0)).toStr.toList then
 k (.inl x3)
 else
 (F x0 x1 x2 (IntKind.i64.wrap (x3 + 1))).bind k
 else
 none
 else
 k (.inr ())
theorem c_Z47_bind {R:Type} (F:T_Z47) (x0:List D) (x1:ByteArray) (x2 x3:Int) (k:(Int) ⊕ (Unit)→Option R):c_Z47 F x0 x1 x2 x3 k=(c_Z47 F x0 x1 x2 x3 some).bind k:=by
 unfold c_Z47
 repeat' first|exact bnd_tail|exact bnd_none|exact bnd_leaf|apply bnd_ite|apply bnd_cond|apply bnd_sum|(apply bnd_bind;intro _)|intro _
def n_Z47:Nat→T_Z47
 | 0,_,_,_,_=>none
 | n + 1,x0,x1,x2,x3=>c_Z47 (n_Z47 n) x0 x1 x2 x3 some
noncomputable def Z47 (x0:List D) (x1:ByteArray) (x2 x3:Int):Option ((Int) ⊕ (Unit)):=ev (fun n=>n_Z47 n x0 x1 x2 x3)
def m_Z47 (F:T_Z47):Lent:=⟨2,⟨(.rd (.str) :: .str :: uu 5 (.int .i64 :: .int .i64 :: uu 10 ([]))),[]⟩,[(.ret,⟨(uu 4 (.int .i64 :: uu 14 ([]))),[]⟩),(.exit 0,⟨(uu 19 ([])),[]⟩)],fun _ ds k=>dL (fun x0 ds=>dS (fun x1 ds=>dI (fun x2 ds=>dI (fun x3 ds=>dE ((F x0 x1 x2 x3).bind (Sum.elim (fun y=>k 0 [.I y]) (fun y=>k 1 []))) ds) ds) ds) ds) ds⟩
theorem q_Z47 (F:T_Z47) (x0:List D) (x1:ByteArray) (x2 x3:Int):runLoop (ocOf []) (olOf [m_Z47 F]) A 43 (codeAt (bodyOf Try.f43) 2) ((m_Z47 F).sh.mk' [.L x0,.S x1,.I x2,.I x3]) (fun e σ'=>some (e,σ'))=c_Z47 F x0 x1 x2 x3 (Sum.elim (fun y=>some (.ret,SSt.mk' ⟨(uu 4 (.int .i64 :: uu 14 ([]))),[]⟩ [.I y])) (fun y=>some (.exit 0,SSt.mk' ⟨(uu 19 ([])),[]⟩ []))):=by kernel_rfl
theorem m_Z47_ok:∀ n,(m_Z47 (n_Z47 n)).ok Try.prog (codeAt (bodyOf Try.f43) 2):=by
 intro n
 induction n with
 | zero=>
  intro R ds k r h
  unfold m_Z47 at h
  obtain ⟨_,_,rfl,h⟩:=dL_some h
  obtain ⟨_,_,rfl,h⟩:=dS_some h
  obtain ⟨_,_,rfl,h⟩:=dI_some h
  obtain ⟨_,_,rfl,h⟩:=dI_some h
  obtain ⟨rfl,hE⟩:=dE_some h
  obtain ⟨y,hy,hk⟩:=bnd_some hE
  cases hy
 | succ n ih=>
  intro R ds k r h
  unfold m_Z47 at h
  obtain ⟨_,_,rfl,h⟩:=dL_some h
  obtain ⟨_,_,rfl,h⟩:=dS_some h
  obtain ⟨_,_,rfl,h⟩:=dI_some h
  obtain ⟨_,_,rfl,h⟩:=dI_some h
  obtain ⟨rfl,hE⟩:=dE_some h
  obtain ⟨y,hy,hk⟩:=bnd_some hE
  cases y with
  | inl y=>
   exact ⟨0,_,_,_,hk,rfl,loop_ok px (fx:=⟨Try.func43,by kernel_rfl,by kernel_rfl⟩) entsOK_nil (lentsOK_cons ih lentsOK_nil) (by kernel_rfl) ((q_Z47 ..).trans ((c_Z47_bind ..).trans (bnd_to hy)))⟩
  | inr y=>
   exact ⟨1,_,_,_,hk,rfl,loop_ok px (fx:=⟨Try.func43,by kernel_rfl,by kernel_rfl⟩) entsOK_nil (lentsOK_cons ih lentsOK_nil) (by kernel_rfl) ((q_Z47 ..).trans ((c_Z47_bind ..).trans (bnd_to hy)))⟩
noncomputable def e_Z47:Lent:=m_Z47 (Z47)
theorem e_Z47_ok:(e_Z47).ok Try.prog (codeAt (bodyOf Try.f43) 2):=by
 intro R ds k r h
 unfold e_Z47 m_Z47 at h
 obtain ⟨_,_,rfl,h⟩:=dL_some h
 obtain ⟨_,_,rfl,h⟩:=dS_some h
 obtain ⟨_,_,rfl,h⟩:=dI_some h
 obtain ⟨_,_,rfl,h⟩:=dI_some h
 obtain ⟨rfl,hE⟩:=dE_some h
 obtain ⟨y,hy,hk⟩:=bnd_some hE
 obtain ⟨n,hn⟩:=ev_some hy
 exact m_Z47_ok n R _ k r ((bnd_to hn).trans hk)

/-!-/
def c_Z48 {R:Type} (x0:List D) (x1:ByteArray) (k:Int→Option R):Option R:=
 (Z47 x0 x1 (↑x0.length:Int) (0:Int)).bind (Sum.elim (fun y0=>
 k y0) (fun y1=>
 k (-1:Int)))
theorem c_Z48_bind {R:Type} (x0:List D) (x1:ByteArray) (k:Int→Option R):c_Z48 x0 x1 k=(c_Z48 x0 x1 some).bind k:=by
 unfold c_Z48
 repeat' first|exact bnd_tail|exact bnd_none|exact bnd_leaf|apply bnd_ite|apply bnd_cond|apply bnd_sum|(apply bnd_bind;intro _)|intro _
def Z48 (x0:List D) (x1:ByteArray):Option (Int):=c_Z48 x0 x1 some
def e_Z48:Ent:=⟨43,[.rd (.str),.str],[(.int .i64,[.undef,.undef])],fun _ ds k=>dL (fun x0 ds=>dS (fun x1 ds=>dE ((Z48 x0 x1).bind (fun y=>k 0 [.I y])) ds) ds) ds⟩
theorem q_Z48 (x0:List D) (x1:ByteArray):runFn (ocOf []) (olOf [e_Z47]) A 43 Try.f43 (Sh.mks e_Z48.sh [.L x0,.S x1]).1 (fun v os=>some (v,os))=c_Z48 x0 x1 (fun y=>retO e_Z48 0 [.I y]):=by kernel_rfl
theorem e_Z48_ok:e_Z48.ok Try.prog A:=by
 intro R ds k r h
 unfold e_Z48 at h
 obtain ⟨_,_,rfl,h⟩:=dL_some h
 obtain ⟨_,_,rfl,h⟩:=dS_some h
 obtain ⟨rfl,hE⟩:=dE_some h
 obtain ⟨y,hy,hk⟩:=bnd_some hE
 exact ⟨0,_,_,_,hk,rfl,fn_ok px (fx:=⟨Try.func43,by kernel_rfl,by kernel_rfl⟩) entsOK_nil (lentsOK_cons e_Z47_ok lentsOK_nil) ((q_Z48 ..).trans ((c_Z48_bind ..).trans (bnd_to hy)))⟩

/-!-/
def c_Z49 {R:Type} (x0:List D) (x1:ByteArray) (k:Bool→Option R):Option R:=
 (Z48 x0 x1).bind (fun y0=>
 k (decide ((0:Int)≤y0)))
theorem c_Z49_bind {R:Type} (x0:List D) (x1:ByteArray) (k:Bool→Option R):c_Z49 x0 x1 k=(c_Z49 x0 x1 some).bind k:=by
 unfold c_Z49
 repeat' first|exact bnd_tail|exact bnd_none|exact bnd_leaf|apply bnd_ite|apply bnd_cond|apply bnd_sum|(apply bnd_bind;intro _)|intro _
def Z49 (x0:List D) (x1:ByteArray):Option (Bool):=c_Z49 x0 x1 some
def e_Z49:Ent:=⟨40,[.rd (.str),.str],[(.bool,[.undef,.undef])],fun _ ds k=>dL (fun x0 ds=>dS (fun x1 ds=>dE ((Z49 x0 x1).bind (fun y=>k 0 [.B y])) ds) ds) ds⟩
theorem q_Z49 (x0:List D) (x1:ByteArray):runFn (ocOf [e_Z48]) (olOf []) A 40 Try.f40 (Sh.mks e_Z49.sh [.L x0,.S x1]).1 (fun v os=>some (v,os))=c_Z49 x0 x1 (fun y=>retO e_Z49 0 [.B y]):=by kernel_rfl
theorem e_Z49_ok:e_Z49.ok Try.prog A:=by
 intro R ds k r h
 unfold e_Z49 at h
 obtain ⟨_,_,rfl,h⟩:=dL_some h
 obtain ⟨_,_,rfl,h⟩:=dS_some h
 obtain ⟨rfl,hE⟩:=dE_some h
 obtain ⟨y,hy,hk⟩:=bnd_some hE
 exact ⟨0,_,_,_,hk,rfl,fn_ok px (fx:=⟨Try.func40,by kernel_rfl,by kernel_rfl⟩) (entsOK_cons e_Z48_ok entsOK_nil) lentsOK_nil ((q_Z49 ..).trans ((c_Z49_bind ..).trans (bnd_to hy)))⟩

/-!-/
def c_Z50 {R:Type} (x0:ByteArray) (x1:List D) (k:Bool→Option R):Option R:=
 (Z49 x1 x0).bind (fun y0=>
 k !y0)
theorem c_Z50_bind {R:Type} (x0:ByteArray) (x1:List D) (k:Bool→Option R):c_Z50 x0 x1 k=(c_Z50 x0 x1 some).bind k:=by
 unfold c_Z50
 repeat' first|exact bnd_tail|exact bnd_none|exact bnd_leaf|apply bnd_ite|apply bnd_cond|apply bnd_sum|(apply bnd_bind;intro _)|intro _
def Z50 (x0:ByteArray) (x1:List D):Option (Bool):=c_Z50 x0 x1 some
def e_Z50:Ent:=⟨39,[.str,.rp (.rd (.str))],[(.bool,[.undef,.undef])],fun _ ds k=>dS (fun x0 ds=>dL (fun x1 ds=>dE ((Z50 x0 x1).bind (fun y=>k 0 [.B y])) ds) ds) ds⟩
theorem q_Z50 (x0:ByteArray) (x1:List D):runFn (ocOf [e_Z49]) (olOf []) A 39 Try.f39 (Sh.mks e_Z50.sh [.S x0,.L x1]).1 (fun v os=>some (v,os))=c_Z50 x0 x1 (fun y=>retO e_Z50 0 [.B y]):=by kernel_rfl
theorem e_Z50_ok:e_Z50.ok Try.prog A:=by
 intro R ds k r h
 unfold e_Z50 at h
 obtain ⟨_,_,rfl,h⟩:=dS_some h
 obtain ⟨_,_,rfl,h⟩:=dL_some h
 obtain ⟨rfl,hE⟩:=dE_some h
 obtain ⟨y,hy,hk⟩:=bnd_some hE
 exact ⟨0,_,_,_,hk,rfl,fn_ok px (fx:=⟨Try.func39,by kernel_rfl,by kernel_rfl⟩) (entsOK_cons e_Z49_ok entsOK_nil) lentsOK_nil ((q_Z50 ..).trans ((c_Z50_bind ..).trans (bnd_to hy)))⟩

/-!-/
abbrev T_Z51:=List D→List D→Int→Int→Option ((Int) ⊕ (Unit))
def c_Z51 {R:Type} (F:T_Z51) (x0 x1:List D) (x2 x3:Int) (k:(Int) ⊕ (Unit)→Option R):Option R:=
 bif decide (x3<x2) then
 if 0≤x3∧x3<(↑x0.length:Int) then
 (Z50 ((x0.getD x3.toNat (D.int 0)).toStr) x1).bind (fun y0=>
 bif y0 then
 k (.inl x3)
 else
 (F x0 x1 x2 (IntKind.i64.wrap (x3 + 1))).bind k)
 else
 none
 else
 k (.inr ())
theorem c_Z51_bind {R:Type} (F:T_Z51) (x0 x1:List D) (x2 x3:Int) (k:(Int) ⊕ (Unit)→Option R):c_Z51 F x0 x1 x2 x3 k=(c_Z51 F x0 x1 x2 x3 some).bind k:=by
 unfold c_Z51
 repeat' first|exact bnd_tail|exact bnd_none|exact bnd_leaf|apply bnd_ite|apply bnd_cond|apply bnd_sum|(apply bnd_bind;intro _)|intro _
def n_Z51:Nat→T_Z51
 | 0,_,_,_,_=>none
 | n + 1,x0,x1,x2,x3=>c_Z51 (n_Z51 n) x0 x1 x2 x3 some
noncomputable def Z51 (x0 x1:List D) (x2 x3:Int):Option ((Int) ⊕ (Unit)):=ev (fun n=>n_Z51 n x0 x1 x2 x3)
def m_Z51 (F:T_Z51):Lent:=⟨2,⟨(.rd (.str) :: .fn 39 [.rp (.rd (.str))] :: uu 5 (.int .i64 :: .int .i64 :: uu 10 ([]))),[]⟩,[(.ret,⟨(uu 4 (.int .i64 :: uu 14 ([]))),[]⟩),(.exit 0,⟨(uu 19 ([])),[]⟩)],fun _ ds k=>dL (fun x0 ds=>dL (fun x1 ds=>dI (fun x2 ds=>dI (fun x3 ds=>dE ((F x0 x1 x2 x3).bind (Sum.elim (fun y=>k 0 [.I y]) (fun y=>k 1 []))) ds) ds) ds) ds) ds⟩
theorem q_Z51 (F:T_Z51) (x0 x1:List D) (x2 x3:Int):runLoop (ocOf [e_Z50]) (olOf [m_Z51 F]) A 57 (codeAt (bodyOf Try.f57) 2) ((m_Z51 F).sh.mk' [.L x0,.L x1,.I x2,.I x3]) (fun e σ'=>some (e,σ'))=c_Z51 F x0 x1 x2 x3 (Sum.elim (fun y=>some (.ret,SSt.mk' ⟨(uu 4 (.int .i64 :: uu 14 ([]))),[]⟩ [.I y])) (fun y=>some (.exit 0,SSt.mk' ⟨(uu 19 ([])),[]⟩ []))):=by kernel_rfl
theorem m_Z51_ok:∀ n,(m_Z51 (n_Z51 n)).ok Try.prog (codeAt (bodyOf Try.f57) 2):=by
 intro n
 induction n with
 | zero=>
  intro R ds k r h
  unfold m_Z51 at h
  obtain ⟨_,_,rfl,h⟩:=dL_some h
  obtain ⟨_,_,rfl,h⟩:=dL_some h
  obtain ⟨_,_,rfl,h⟩:=dI_some h
  obtain ⟨_,_,rfl,h⟩:=dI_some h
  obtain ⟨rfl,hE⟩:=dE_some h
  obtain ⟨y,hy,hk⟩:=bnd_some hE
  cases hy
 | succ n ih=>
  intro R ds k r h
  unfold m_Z51 at h
  obtain ⟨_,_,rfl,h⟩:=dL_some h
  obtain ⟨_,_,rfl,h⟩:=dL_some h
  obtain ⟨_,_,rfl,h⟩:=dI_some h
  obtain ⟨_,_,rfl,h⟩:=dI_some h
  obtain ⟨rfl,hE⟩:=dE_some h
  obtain ⟨y,hy,hk⟩:=bnd_some hE
  cases y with
  | inl y=>
   exact ⟨0,_,_,_,hk,rfl,loop_ok px (fx:=⟨Try.func57,by kernel_rfl,by kernel_rfl⟩) (entsOK_cons e_Z50_ok entsOK_nil) (lentsOK_cons ih lentsOK_nil) (by kernel_rfl) ((q_Z51 ..).trans ((c_Z51_bind ..).trans (bnd_to hy)))⟩
  | inr y=>
   exact ⟨1,_,_,_,hk,rfl,loop_ok px (fx:=⟨Try.func57,by kernel_rfl,by kernel_rfl⟩) (entsOK_cons e_Z50_ok entsOK_nil) (lentsOK_cons ih lentsOK_nil) (by kernel_rfl) ((q_Z51 ..).trans ((c_Z51_bind ..).trans (bnd_to hy)))⟩
noncomputable def e_Z51:Lent:=m_Z51 (Z51)
theorem e_Z51_ok:(e_Z51).ok Try.prog (codeAt (bodyOf Try.f57) 2):=by
 intro R ds k r h
 unfold e_Z51 m_Z51 at h
 obtain ⟨_,_,rfl,h⟩:=dL_some h
 obtain ⟨_,_,rfl,h⟩:=dL_some h
 obtain ⟨_,_,rfl,h⟩:=dI_some h
 obtain ⟨_,_,rfl,h⟩:=dI_some h
 obtain ⟨rfl,hE⟩:=dE_some h
 obtain ⟨y,hy,hk⟩:=bnd_some hE
 obtain ⟨n,hn⟩:=ev_some hy
 exact m_Z51_ok n R _ k r ((bnd_to hn).trans hk)

/-!-/
def c_Z52 {R:Type} (x0 x1:List D) (k:Int→Option R):Option R:=
 (Z51 x0 x1 (↑x0.length:Int) (0:Int)).bind (Sum.elim (fun y0=>
 k y0) (fun y1=>
 k (-1:Int)))
theorem c_Z52_bind {R:Type} (x0 x1:List D) (k:Int→Option R):c_Z52 x0 x1 k=(c_Z52 x0 x1 some).bind k:=by
 unfold c_Z52
 repeat' first|exact bnd_tail|exact bnd_none|exact bnd_leaf|apply bnd_ite|apply bnd_cond|apply bnd_sum|(apply bnd_bind;intro _)|intro _
def Z52 (x0 x1:List D):Option (Int):=c_Z52 x0 x1 some
def e_Z52:Ent:=⟨57,[.rd (.str),.fn 39 [.rp (.rd (.str))]],[(.int .i64,[.undef,.undef])],fun _ ds k=>dL (fun x0 ds=>dL (fun x1 ds=>dE ((Z52 x0 x1).bind (fun y=>k 0 [.I y])) ds) ds) ds⟩
theorem q_Z52 (x0 x1:List D):runFn (ocOf []) (olOf [e_Z51]) A 57 Try.f57 (Sh.mks e_Z52.sh [.L x0,.L x1]).1 (fun v os=>some (v,os))=c_Z52 x0 x1 (fun y=>retO e_Z52 0 [.I y]):=by kernel_rfl
theorem e_Z52_ok:e_Z52.ok Try.prog A:=by
 intro R ds k r h
 unfold e_Z52 at h
 obtain ⟨_,_,rfl,h⟩:=dL_some h
 obtain ⟨_,_,rfl,h⟩:=dL_some h
 obtain ⟨rfl,hE⟩:=dE_some h
 obtain ⟨y,hy,hk⟩:=bnd_some hE
 exact ⟨0,_,_,_,hk,rfl,fn_ok px (fx:=⟨Try.func57,by kernel_rfl,by kernel_rfl⟩) entsOK_nil (lentsOK_cons e_Z51_ok lentsOK_nil) ((q_Z52 ..).trans ((c_Z52_bind ..).trans (bnd_to hy)))⟩

/-!-/
abbrev T_Z53:=List D→Int→Int→List D→Option (Int × List D)
def c_Z53 {R:Type} (F:T_Z53) (x0:List D) (x1 x2:Int) (x3:List D) (k:Int × List D→Option R):Option R:=
 bif decide (x2<(↑x3.length:Int)) then
 if 0≤x2∧x2<(↑x3.length:Int) then
 if x2.toNat + 1≤x3.length then
 (Z50 ((x3.getD x2.toNat (D.int 0)).toStr) x0).bind (fun y0=>
 bif !y0 then
 if 0≤x1∧x1<(↑x3.length:Int) then
 if x1.toNat + 1≤x3.length then
 (F x0 (IntKind.i64.wrap (x1 + 1)) (IntKind.i64.wrap (x2 + 1)) (x3.set x1.toNat (D.str (x3.getD x2.toNat (D.int 0)).toStr))).bind k
 else
 none
 else
 none
 else
 (F x0 x1 (IntKind.i64.wrap (x2 + 1)) x3).bind k)
 else
 none
 else
 none
 else
 k (x1,x3)
theorem c_Z53_bind {R:Type} (F:T_Z53) (x0:List D) (x1 x2:Int) (x3:List D) (k:Int × List D→Option R):c_Z53 F x0 x1 x2 x3 k=(c_Z53 F x0 x1 x2 x3 some).bind k:=by
 unfold c_Z53
 repeat' first|exact bnd_tail|exact bnd_none|exact bnd_leaf|apply bnd_ite|apply bnd_cond|apply bnd_sum|(apply bnd_bind;intro _)|intro _
def n_Z53:Nat→T_Z53
 | 0,_,_,_,_=>none
 | n + 1,x0,x1,x2,x3=>c_Z53 (n_Z53 n) x0 x1 x2 x3 some
noncomputable def Z53 (x0:List D) (x1 x2:Int) (x3:List D):Option (Int × List D):=ev (fun n=>n_Z53 n x0 x1 x2 x3)
def m_Z53 (F:T_Z53):Lent:=⟨5,⟨(.full 1000 [] (.str) :: .fn 39 [.rp (.rd (.str))] :: .undef :: .undef :: .undef :: .int .i64 :: .int .i64 :: uu 35 ([])),[(1000,.own (.str))]⟩,[(.exit 0,⟨(.full 1000 [] (.str) :: uu 4 (.int .i64 :: uu 36 ([]))),[(1000,.own (.str))]⟩)],fun _ ds k=>dL (fun x0 ds=>dI (fun x1 ds=>dI (fun x2 ds=>dL (fun x3 ds=>dE ((F x0 x1 x2 x3).bind (fun y=>k 0 [.I y.1,.L y.2])) ds) ds) ds) ds) ds⟩
theorem q_Z53 (F:T_Z53) (x0:List D) (x1 x2:Int) (x3:List D):runLoop (ocOf [e_Z50]) (olOf [m_Z53 F]) A 38 (codeAt (bodyOf Try.f38) 5) ((m_Z53 F).sh.mk' [.L x0,.I x1,.I x2,.L x3]) (fun e σ'=>some (e,σ'))=c_Z53 F x0 x1 x2 x3 (fun y=>some (.exit 0,SSt.mk' ⟨(.full 1000 [] (.str) :: uu 4 (.int .i64 :: uu 36 ([]))),[(1000,.own (.str))]⟩ [.I y.1,.L y.2])):=by kernel_rfl
theorem m_Z53_ok:∀ n,(m_Z53 (n_Z53 n)).ok Try.prog (codeAt (bodyOf Try.f38) 5):=by
 intro n
 induction n with
 | zero=>
  intro R ds k r h
  unfold m_Z53 at h
  obtain ⟨_,_,rfl,h⟩:=dL_some h
  obtain ⟨_,_,rfl,h⟩:=dI_some h
  obtain ⟨_,_,rfl,h⟩:=dI_some h
  obtain ⟨_,_,rfl,h⟩:=dL_some h
  obtain ⟨rfl,hE⟩:=dE_some h
  obtain ⟨y,hy,hk⟩:=bnd_some hE
  cases hy
 | succ n ih=>
  intro R ds k r h
  unfold m_Z53 at h
  obtain ⟨_,_,rfl,h⟩:=dL_some h
  obtain ⟨_,_,rfl,h⟩:=dI_some h
  obtain ⟨_,_,rfl,h⟩:=dI_some h
  obtain ⟨_,_,rfl,h⟩:=dL_some h
  obtain ⟨rfl,hE⟩:=dE_some h
  obtain ⟨y,hy,hk⟩:=bnd_some hE
  exact ⟨0,_,_,_,hk,rfl,loop_ok px (fx:=⟨Try.func38,by kernel_rfl,by kernel_rfl⟩) (entsOK_cons e_Z50_ok entsOK_nil) (lentsOK_cons ih lentsOK_nil) (by kernel_rfl) ((q_Z53 ..).trans ((c_Z53_bind ..).trans (bnd_to hy)))⟩
noncomputable def e_Z53:Lent:=m_Z53 (Z53)
theorem e_Z53_ok:(e_Z53).ok Try.prog (codeAt (bodyOf Try.f38) 5):=by
 intro R ds k r h
 unfold e_Z53 m_Z53 at h
 obtain ⟨_,_,rfl,h⟩:=dL_some h
 obtain ⟨_,_,rfl,h⟩:=dI_some h
 obtain ⟨_,_,rfl,h⟩:=dI_some h
 obtain ⟨_,_,rfl,h⟩:=dL_some h
 obtain ⟨rfl,hE⟩:=dE_some h
 obtain ⟨y,hy,hk⟩:=bnd_some hE
 obtain ⟨n,hn⟩:=ev_some hy
 exact m_Z53_ok n R _ k r ((bnd_to hn).trans hk)

/-!-/
def c_Z54 {R:Type} (x0 x1:List D) (k:List D→Option R):Option R:=
 (Z52 x0 x1).bind (fun y0=>
 bif decide (y0=(-1:Int)) then
 k x0
 else
 (Z53 x1 y0 (IntKind.i64.wrap (y0 + 1)) x0).bind (fun y1=>
 if 0≤y1.fst∧y1.fst≤(↑y1.snd.length:Int)∧(↑y1.snd.length:Int)≤(↑y1.snd.length:Int) then
 if y1.fst.toNat + (y1.snd.length - y1.fst.toNat)≤y1.snd.length then
 if (0:Int)≤(0:Int)∧0≤y1.fst∧y1.fst≤(↑(List.take y1.fst.toNat y1.snd ++ List.replicate (y1.snd.length - y1.fst.toNat) (D.str bytes_0) ++ List.drop (y1.fst.toNat + (List.replicate (y1.snd.length - y1.fst.toNat) (D.str bytes_0)).length) y1.snd).length:Int) then
 if (0:Nat) + (y1.fst.toNat - (0:Nat))≤(List.take y1.fst.toNat y1.snd ++ List.replicate (y1.snd.length - y1.fst.toNat) (D.str bytes_0) ++ List.drop (y1.fst.toNat + (List.replicate (y1.snd.length - y1.fst.toNat) (D.str bytes_0)).length) y1.snd).length then
 k (List.take (y1.fst.toNat - (0:Nat)) (List.drop (0:Nat) (List.take y1.fst.toNat y1.snd ++ List.replicate (y1.snd.length - y1.fst.toNat) (D.str bytes_0) ++ List.drop (y1.fst.toNat + (List.replicate (y1.snd.length - y1.fst.toNat) (D.str bytes_0)).length) y1.snd)))
 else
 none
 else
 none
 else
 none
 else
 none))
theorem c_Z54_bind {R:Type} (x0 x1:List D) (k:List D→Option R):c_Z54 x0 x1 k=(c_Z54 x0 x1 some).bind k:=by
 unfold c_Z54
 repeat' first|exact bnd_tail|exact bnd_none|exact bnd_leaf|apply bnd_ite|apply bnd_cond|apply bnd_sum|(apply bnd_bind;intro _)|intro _
def Z54 (x0 x1:List D):Option (List D):=c_Z54 x0 x1 some
def e_Z54:Ent:=⟨38,[.own (.str),.fn 39 [.rp (.rd (.str))]],[(.own (.str),[.undef,.undef])],fun _ ds k=>dL (fun x0 ds=>dL (fun x1 ds=>dE ((Z54 x0 x1).bind (fun y=>k 0 [.L y])) ds) ds) ds⟩
theorem q_Z54 (x0 x1:List D):runFn (ocOf [e_Z52]) (olOf [e_Z53]) A 38 Try.f38 (Sh.mks e_Z54.sh [.L x0,.L x1]).1 (fun v os=>some (v,os))=c_Z54 x0 x1 (fun y=>retO e_Z54 0 [.L y]):=by kernel_rfl
theorem e_Z54_ok:e_Z54.ok Try.prog A:=by
 intro R ds k r h
 unfold e_Z54 at h
 obtain ⟨_,_,rfl,h⟩:=dL_some h
 obtain ⟨_,_,rfl,h⟩:=dL_some h
 obtain ⟨rfl,hE⟩:=dE_some h
 obtain ⟨y,hy,hk⟩:=bnd_some hE
 exact ⟨0,_,_,_,hk,rfl,fn_ok px (fx:=⟨Try.func38,by kernel_rfl,by kernel_rfl⟩) (entsOK_cons e_Z52_ok entsOK_nil) (lentsOK_cons e_Z53_ok lentsOK_nil) ((q_Z54 ..).trans ((c_Z54_bind ..).trans (bnd_to hy)))⟩

/-!-/
def c_Z55 {R:Type} (x0:List D) (x1 x2:Int) (k:List D × Bool→Option R):Option R:=
 (Z40 x0 x1).bind (fun y0=>
 (Z40 x0 x2).bind (fun y1=>
 bif !y0.snd then
 k ([],Bool.false)
 else
 bif !y1.snd then
 k ([],Bool.false)
 else
 (Z46 y1.fst).bind (fun y2=>
 (Z46 y0.fst).bind (fun y3=>
 (Z54 y3 y2).bind (fun y4=>
 k (y4,Bool.true))))))
theorem c_Z55_bind {R:Type} (x0:List D) (x1 x2:Int) (k:List D × Bool→Option R):c_Z55 x0 x1 x2 k=(c_Z55 x0 x1 x2 some).bind k:=by
 unfold c_Z55
 repeat' first|exact bnd_tail|exact bnd_none|exact bnd_leaf|apply bnd_ite|apply bnd_cond|apply bnd_sum|(apply bnd_bind;intro _)|intro _
def Z55 (x0:List D) (x1 x2:Int):Option (List D × Bool):=c_Z55 x0 x1 x2 some
def e_Z55:Ent:=⟨17,[.rd (.struct [.int .i64,.str,.int .i64,.int .i64,.int .i64]),.int .i64,.int .i64],[(.tup [.own (.str),.bool],[.undef,.undef,.undef])],fun _ ds k=>dL (fun x0 ds=>dI (fun x1 ds=>dI (fun x2 ds=>dE ((Z55 x0 x1 x2).bind (fun y=>k 0 [.L y.1,.B y.2])) ds) ds) ds) ds⟩
theorem q_Z55 (x0:List D) (x1 x2:Int):runFn (ocOf [e_Z40,e_Z46,e_Z54]) (olOf []) A 17 Try.f17 (Sh.mks e_Z55.sh [.L x0,.I x1,.I x2]).1 (fun v os=>some (v,os))=c_Z55 x0 x1 x2 (fun y=>retO e_Z55 0 [.L y.1,.B y.2]):=by kernel_rfl
theorem e_Z55_ok:e_Z55.ok Try.prog A:=by
 intro R ds k r h
 unfold e_Z55 at h
 obtain ⟨_,_,rfl,h⟩:=dL_some h
 obtain ⟨_,_,rfl,h⟩:=dI_some h
 obtain ⟨_,_,rfl,h⟩:=dI_some h
 obtain ⟨rfl,hE⟩:=dE_some h
 obtain ⟨y,hy,hk⟩:=bnd_some hE
 exact ⟨0,_,_,_,hk,rfl,fn_ok px (fx:=⟨Try.func17,by kernel_rfl,by kernel_rfl⟩) (entsOK_cons e_Z40_ok (entsOK_cons e_Z46_ok (entsOK_cons e_Z54_ok entsOK_nil))) lentsOK_nil ((q_Z55 ..).trans ((c_Z55_bind ..).trans (bnd_to hy)))⟩

/-!-/
abbrev T_Z56:=List D→List D→Int→Option ((Bool) ⊕ (Unit))
def c_Z56 {R:Type} (F:T_Z56) (x0 x1:List D) (x2:Int) (k:(Bool) ⊕ (Unit)→Option R):Option R:=
 bif decide (x2<(↑x0.length:Int)) then
 if 0≤x2∧x2<(↑x0.length:Int) then
 if 0≤x2∧x2<(↑x1.length:Int) then
 bif !(x0.getD x2.toNat (D.int 0)).toStr.toList == (x1.getD x2.toNat (D.int 0)).toStr.toList then
 k (.inl Bool.false)
 else
 (F x0 x1 (IntKind.i64.wrap (x2 + 1))).bind k
 else
 none
 else
 none
 else
 k (.inr ())
theorem c_Z56_bind {R:Type} (F:T_Z56) (x0 x1:List D) (x2:Int) (k:(Bool) ⊕ (Unit)→Option R):c_Z56 F x0 x1 x2 k=(c_Z56 F x0 x1 x2 some).bind k:=by
 unfold c_Z56
 repeat' first|exact bnd_tail|exact bnd_none|exact bnd_leaf|apply bnd_ite|apply bnd_cond|apply bnd_sum|(apply bnd_bind;intro _)|intro _
def n_Z56:Nat→T_Z56
 | 0,_,_,_=>none
 | n + 1,x0,x1,x2=>c_Z56 (n_Z56 n) x0 x1 x2 some
noncomputable def Z56 (x0 x1:List D) (x2:Int):Option ((Bool) ⊕ (Unit)):=ev (fun n=>n_Z56 n x0 x1 x2)
def m_Z56 (F:T_Z56):Lent:=⟨4,⟨(.rd (.str) :: .rd (.str) :: .undef :: .undef :: .undef :: .int .i64 :: uu 20 ([])),[]⟩,[(.ret,⟨(uu 4 (.bool :: uu 21 ([]))),[]⟩),(.exit 0,⟨(uu 26 ([])),[]⟩)],fun _ ds k=>dL (fun x0 ds=>dL (fun x1 ds=>dI (fun x2 ds=>dE ((F x0 x1 x2).bind (Sum.elim (fun y=>k 0 [.B y]) (fun y=>k 1 []))) ds) ds) ds) ds⟩
theorem q_Z56 (F:T_Z56) (x0 x1:List D) (x2:Int):runLoop (ocOf []) (olOf [m_Z56 F]) A 11 (codeAt (bodyOf Try.f11) 4) ((m_Z56 F).sh.mk' [.L x0,.L x1,.I x2]) (fun e σ'=>some (e,σ'))=c_Z56 F x0 x1 x2 (Sum.elim (fun y=>some (.ret,SSt.mk' ⟨(uu 4 (.bool :: uu 21 ([]))),[]⟩ [.B y])) (fun y=>some (.exit 0,SSt.mk' ⟨(uu 26 ([])),[]⟩ []))):=by kernel_rfl
theorem m_Z56_ok:∀ n,(m_Z56 (n_Z56 n)).ok Try.prog (codeAt (bodyOf Try.f11) 4):=by
 intro n
 induction n with
 | zero=>
  intro R ds k r h
  unfold m_Z56 at h
  obtain ⟨_,_,rfl,h⟩:=dL_some h
  obtain ⟨_,_,rfl,h⟩:=dL_some h
  obtain ⟨_,_,rfl,h⟩:=dI_some h
  obtain ⟨rfl,hE⟩:=dE_some h
  obtain ⟨y,hy,hk⟩:=bnd_some hE
  cases hy
 | succ n ih=>
  intro R ds k r h
  unfold m_Z56 at h
  obtain ⟨_,_,rfl,h⟩:=dL_some h
  obtain ⟨_,_,rfl,h⟩:=dL_some h
  obtain ⟨_,_,rfl,h⟩:=dI_some h
  obtain ⟨rfl,hE⟩:=dE_some h
  obtain ⟨y,hy,hk⟩:=bnd_some hE
  cases y with
  | inl y=>
   exact ⟨0,_,_,_,hk,rfl,loop_ok px (fx:=⟨Try.func11,by kernel_rfl,by kernel_rfl⟩) entsOK_nil (lentsOK_cons ih lentsOK_nil) (by kernel_rfl) ((q_Z56 ..).trans ((c_Z56_bind ..).trans (bnd_to hy)))⟩
  | inr y=>
   exact ⟨1,_,_,_,hk,rfl,loop_ok px (fx:=⟨Try.func11,by kernel_rfl,by kernel_rfl⟩) entsOK_nil (lentsOK_cons ih lentsOK_nil) (by kernel_rfl) ((q_Z56 ..).trans ((c_Z56_bind ..).trans (bnd_to hy)))⟩
noncomputable def e_Z56:Lent:=m_Z56 (Z56)
theorem e_Z56_ok:(e_Z56).ok Try.prog (codeAt (bodyOf Try.f11) 4):=by
 intro R ds k r h
 unfold e_Z56 m_Z56 at h
 obtain ⟨_,_,rfl,h⟩:=dL_some h
 obtain ⟨_,_,rfl,h⟩:=dL_some h
 obtain ⟨_,_,rfl,h⟩:=dI_some h
 obtain ⟨rfl,hE⟩:=dE_some h
 obtain ⟨y,hy,hk⟩:=bnd_some hE
 obtain ⟨n,hn⟩:=ev_some hy
 exact m_Z56_ok n R _ k r ((bnd_to hn).trans hk)

/-!-/
def c_Z57 {R:Type} (x0 x1:List D) (k:Bool→Option R):Option R:=
 bif !decide ((↑x0.length:Int)=(↑x1.length:Int)) then
 k Bool.false
 else
 (Z56 x0 x1 (0:Int)).bind (Sum.elim (fun y0=>
 k y0) (fun y1=>
 k Bool.true))
theorem c_Z57_bind {R:Type} (x0 x1:List D) (k:Bool→Option R):c_Z57 x0 x1 k=(c_Z57 x0 x1 some).bind k:=by
 unfold c_Z57
 repeat' first|exact bnd_tail|exact bnd_none|exact bnd_leaf|apply bnd_ite|apply bnd_cond|apply bnd_sum|(apply bnd_bind;intro _)|intro _
def Z57 (x0 x1:List D):Option (Bool):=c_Z57 x0 x1 some
def e_Z57:Ent:=⟨11,[.rd (.str),.rd (.str)],[(.bool,[.undef,.undef])],fun _ ds k=>dL (fun x0 ds=>dL (fun x1 ds=>dE ((Z57 x0 x1).bind (fun y=>k 0 [.B y])) ds) ds) ds⟩
theorem q_Z57 (x0 x1:List D):runFn (ocOf []) (olOf [e_Z56]) A 11 Try.f11 (Sh.mks e_Z57.sh [.L x0,.L x1]).1 (fun v os=>some (v,os))=c_Z57 x0 x1 (fun y=>retO e_Z57 0 [.B y]):=by kernel_rfl
theorem e_Z57_ok:e_Z57.ok Try.prog A:=by
 intro R ds k r h
 unfold e_Z57 at h
 obtain ⟨_,_,rfl,h⟩:=dL_some h
 obtain ⟨_,_,rfl,h⟩:=dL_some h
 obtain ⟨rfl,hE⟩:=dE_some h
 obtain ⟨y,hy,hk⟩:=bnd_some hE
 exact ⟨0,_,_,_,hk,rfl,fn_ok px (fx:=⟨Try.func11,by kernel_rfl,by kernel_rfl⟩) entsOK_nil (lentsOK_cons e_Z56_ok lentsOK_nil) ((q_Z57 ..).trans ((c_Z57_bind ..).trans (bnd_to hy)))⟩

/-!-/
def c_Z58 {R:Type} (x0:Int) (x1:ByteArray) (x2 x3 x4 x5:Int) (x6:ByteArray) (x7 x8 x9:Int) (k:Bool→Option R):Option R:=
 bif !decide (x0=x5) then
 k Bool.false
 else
 bif !x1.toList == x6.toList then
 k Bool.false
 else
 bif !decide (x2=x7) then
 k Bool.false
 else
 bif !decide (x3=x8) then
 k Bool.false
 else
 bif !decide (x4=x9) then
 k Bool.false
 else
 k Bool.true
theorem c_Z58_bind {R:Type} (x0:Int) (x1:ByteArray) (x2 x3 x4 x5:Int) (x6:ByteArray) (x7 x8 x9:Int) (k:Bool→Option R):c_Z58 x0 x1 x2 x3 x4 x5 x6 x7 x8 x9 k=(c_Z58 x0 x1 x2 x3 x4 x5 x6 x7 x8 x9 some).bind k:=by
 unfold c_Z58
 repeat' first|exact bnd_tail|exact bnd_none|exact bnd_leaf|apply bnd_ite|apply bnd_cond|apply bnd_sum|(apply bnd_bind;intro _)|intro _
def Z58 (x0:Int) (x1:ByteArray) (x2 x3 x4 x5:Int) (x6:ByteArray) (x7 x8 x9:Int):Option (Bool):=c_Z58 x0 x1 x2 x3 x4 x5 x6 x7 x8 x9 some
def e_Z58:Ent:=⟨32,[.agg [.int .i64,.str,.int .i64,.int .i64,.int .i64],.agg [.int .i64,.str,.int .i64,.int .i64,.int .i64]],[(.bool,[.undef,.undef])],fun _ ds k=>dI (fun x0 ds=>dS (fun x1 ds=>dI (fun x2 ds=>dI (fun x3 ds=>dI (fun x4 ds=>dI (fun x5 ds=>dS (fun x6 ds=>dI (fun x7 ds=>dI (fun x8 ds=>dI (fun x9 ds=>dE ((Z58 x0 x1 x2 x3 x4 x5 x6 x7 x8 x9).bind (fun y=>k 0 [.B y])) ds) ds) ds) ds) ds) ds) ds) ds) ds) ds) ds⟩
theorem q_Z58 (x0:Int) (x1:ByteArray) (x2 x3 x4 x5:Int) (x6:ByteArray) (x7 x8 x9:Int):runFn (ocOf []) (olOf []) A 32 Try.f32 (Sh.mks e_Z58.sh [.I x0,.S x1,.I x2,.I x3,.I x4,.I x5,.S x6,.I x7,.I x8,.I x9]).1 (fun v os=>some (v,os))=c_Z58 x0 x1 x2 x3 x4 x5 x6 x7 x8 x9 (fun y=>retO e_Z58 0 [.B y]):=by kernel_rfl
theorem e_Z58_ok:e_Z58.ok Try.prog A:=by
 intro R ds k r h
 unfold e_Z58 at h
 obtain ⟨_,_,rfl,h⟩:=dI_some h
 obtain ⟨_,_,rfl,h⟩:=dS_some h
 obtain ⟨_,_,rfl,h⟩:=dI_some h
 obtain ⟨_,_,rfl,h⟩:=dI_some h
 obtain ⟨_,_,rfl,h⟩:=dI_some h
 obtain ⟨_,_,rfl,h⟩:=dI_some h
 obtain ⟨_,_,rfl,h⟩:=dS_some h
 obtain ⟨_,_,rfl,h⟩:=dI_some h
 obtain ⟨_,_,rfl,h⟩:=dI_some h
 obtain ⟨_,_,rfl,h⟩:=dI_some h
 obtain ⟨rfl,hE⟩:=dE_some h
 obtain ⟨y,hy,hk⟩:=bnd_some hE
 exact ⟨0,_,_,_,hk,rfl,fn_ok px (fx:=⟨Try.func32,by kernel_rfl,by kernel_rfl⟩) entsOK_nil lentsOK_nil ((q_Z58 ..).trans ((c_Z58_bind ..).trans (bnd_to hy)))⟩

/-!-/
abbrev T_Z59:=List D→List D→Int→Option ((Bool) ⊕ (Unit))
def c_Z59 {R:Type} (F:T_Z59) (x0 x1:List D) (x2:Int) (k:(Bool) ⊕ (Unit)→Option R):Option R:=
 bif decide (x2<(↑x0.length:Int)) then
 if 0≤x2∧x2<(↑x0.length:Int) then
 if 0≤x2∧x2<(↑x1.length:Int) then
 (Z58 (((x0.getD x2.toNat (D.int 0)).fld (0:Nat)).toInt) (((x0.getD x2.toNat (D.int 0)).fld (1:Nat)).toStr) (((x0.getD x2.toNat (D.int 0)).fld (2:Nat)).toInt) (((x0.getD x2.toNat (D.int 0)).fld (3:Nat)).toInt) (((x0.getD x2.toNat (D.int 0)).fld (4:Nat)).toInt) (((x1.getD x2.toNat (D.int 0)).fld (0:Nat)).toInt) (((x1.getD x2.toNat (D.int 0)).fld (1:Nat)).toStr) (((x1.getD x2.toNat (D.int 0)).fld (2:Nat)).toInt) (((x1.getD x2.toNat (D.int 0)).fld (3:Nat)).toInt) (((x1.getD x2.toNat (D.int 0)).fld (4:Nat)).toInt)).bind (fun y0=>
 bif !y0 then
 k (.inl Bool.false)
 else
 (F x0 x1 (IntKind.i64.wrap (x2 + 1))).bind k)
 else
 none
 else
 none
 else
 k (.inr ())
theorem c_Z59_bind {R:Type} (F:T_Z59) (x0 x1:List D) (x2:Int) (k:(Bool) ⊕ (Unit)→Option R):c_Z59 F x0 x1 x2 k=(c_Z59 F x0 x1 x2 some).bind k:=by
 unfold c_Z59
 repeat' first|exact bnd_tail|exact bnd_none|exact bnd_leaf|apply bnd_ite|apply bnd_cond|apply bnd_sum|(apply bnd_bind;intro _)|intro _
def n_Z59:Nat→T_Z59
 | 0,_,_,_=>none
 | n + 1,x0,x1,x2=>c_Z59 (n_Z59 n) x0 x1 x2 some
noncomputable def Z59 (x0 x1:List D) (x2:Int):Option ((Bool) ⊕ (Unit)):=ev (fun n=>n_Z59 n x0 x1 x2)
def m_Z59 (F:T_Z59):Lent:=⟨4,⟨(.rd (.struct [.int .i64,.str,.int .i64,.int .i64,.int .i64]) :: .rd (.struct [.int .i64,.str,.int .i64,.int .i64,.int .i64]) :: .undef :: .undef :: .undef :: .int .i64 :: uu 21 ([])),[]⟩,[(.ret,⟨(uu 4 (.bool :: uu 22 ([]))),[]⟩),(.exit 0,⟨(uu 27 ([])),[]⟩)],fun _ ds k=>dL (fun x0 ds=>dL (fun x1 ds=>dI (fun x2 ds=>dE ((F x0 x1 x2).bind (Sum.elim (fun y=>k 0 [.B y]) (fun y=>k 1 []))) ds) ds) ds) ds⟩
theorem q_Z59 (F:T_Z59) (x0 x1:List D) (x2:Int):runLoop (ocOf [e_Z58]) (olOf [m_Z59 F]) A 12 (codeAt (bodyOf Try.f12) 4) ((m_Z59 F).sh.mk' [.L x0,.L x1,.I x2]) (fun e σ'=>some (e,σ'))=c_Z59 F x0 x1 x2 (Sum.elim (fun y=>some (.ret,SSt.mk' ⟨(uu 4 (.bool :: uu 22 ([]))),[]⟩ [.B y])) (fun y=>some (.exit 0,SSt.mk' ⟨(uu 27 ([])),[]⟩ []))):=by kernel_rfl
theorem m_Z59_ok:∀ n,(m_Z59 (n_Z59 n)).ok Try.prog (codeAt (bodyOf Try.f12) 4):=by
 intro n
 induction n with
 | zero=>
  intro R ds k r h
  unfold m_Z59 at h
  obtain ⟨_,_,rfl,h⟩:=dL_some h
  obtain ⟨_,_,rfl,h⟩:=dL_some h
  obtain ⟨_,_,rfl,h⟩:=dI_some h
  obtain ⟨rfl,hE⟩:=dE_some h
  obtain ⟨y,hy,hk⟩:=bnd_some hE
  cases hy
 | succ n ih=>
  intro R ds k r h
  unfold m_Z59 at h
  obtain ⟨_,_,rfl,h⟩:=dL_some h
  obtain ⟨_,_,rfl,h⟩:=dL_some h
  obtain ⟨_,_,rfl,h⟩:=dI_some h
  obtain ⟨rfl,hE⟩:=dE_some h
  obtain ⟨y,hy,hk⟩:=bnd_some hE
  cases y with
  | inl y=>
   exact ⟨0,_,_,_,hk,rfl,loop_ok px (fx:=⟨Try.func12,by kernel_rfl,by kernel_rfl⟩) (entsOK_cons e_Z58_ok entsOK_nil) (lentsOK_cons ih lentsOK_nil) (by kernel_rfl) ((q_Z59 ..).trans ((c_Z59_bind ..).trans (bnd_to hy)))⟩
  | inr y=>
   exact ⟨1,_,_,_,hk,rfl,loop_ok px (fx:=⟨Try.func12,by kernel_rfl,by kernel_rfl⟩) (entsOK_cons e_Z58_ok entsOK_nil) (lentsOK_cons ih lentsOK_nil) (by kernel_rfl) ((q_Z59 ..).trans ((c_Z59_bind ..).trans (bnd_to hy)))⟩
noncomputable def e_Z59:Lent:=m_Z59 (Z59)
theorem e_Z59_ok:(e_Z59).ok Try.prog (codeAt (bodyOf Try.f12) 4):=by
 intro R ds k r h
 unfold e_Z59 m_Z59 at h
 obtain ⟨_,_,rfl,h⟩:=dL_some h
 obtain ⟨_,_,rfl,h⟩:=dL_some h
 obtain ⟨_,_,rfl,h⟩:=dI_some h
 obtain ⟨rfl,hE⟩:=dE_some h
 obtain ⟨y,hy,hk⟩:=bnd_some hE
 obtain ⟨n,hn⟩:=ev_some hy
 exact m_Z59_ok n R _ k r ((bnd_to hn).trans hk)

/-!-/
def c_Z60 {R:Type} (x0 x1:List D) (k:Bool→Option R):Option R:=
 bif !decide ((↑x0.length:Int)=(↑x1.length:Int)) then
 k Bool.false
 else
 (Z59 x0 x1 (0:Int)).bind (Sum.elim (fun y0=>
 k y0) (fun y1=>
 k Bool.true))
theorem c_Z60_bind {R:Type} (x0 x1:List D) (k:Bool→Option R):c_Z60 x0 x1 k=(c_Z60 x0 x1 some).bind k:=by
 unfold c_Z60
 repeat' first|exact bnd_tail|exact bnd_none|exact bnd_leaf|apply bnd_ite|apply bnd_cond|apply bnd_sum|(apply bnd_bind;intro _)|intro _
def Z60 (x0 x1:List D):Option (Bool):=c_Z60 x0 x1 some
def e_Z60:Ent:=⟨12,[.rd (.struct [.int .i64,.str,.int .i64,.int .i64,.int .i64]),.rd (.struct [.int .i64,.str,.int .i64,.int .i64,.int .i64])],[(.bool,[.undef,.undef])],fun _ ds k=>dL (fun x0 ds=>dL (fun x1 ds=>dE ((Z60 x0 x1).bind (fun y=>k 0 [.B y])) ds) ds) ds⟩
theorem q_Z60 (x0 x1:List D):runFn (ocOf []) (olOf [e_Z59]) A 12 Try.f12 (Sh.mks e_Z60.sh [.L x0,.L x1]).1 (fun v os=>some (v,os))=c_Z60 x0 x1 (fun y=>retO e_Z60 0 [.B y]):=by kernel_rfl
theorem e_Z60_ok:e_Z60.ok Try.prog A:=by
 intro R ds k r h
 unfold e_Z60 at h
 obtain ⟨_,_,rfl,h⟩:=dL_some h
 obtain ⟨_,_,rfl,h⟩:=dL_some h
 obtain ⟨rfl,hE⟩:=dE_some h
 obtain ⟨y,hy,hk⟩:=bnd_some hE
 exact ⟨0,_,_,_,hk,rfl,fn_ok px (fx:=⟨Try.func12,by kernel_rfl,by kernel_rfl⟩) entsOK_nil (lentsOK_cons e_Z59_ok lentsOK_nil) ((q_Z60 ..).trans ((c_Z60_bind ..).trans (bnd_to hy)))⟩

/-!-/
abbrev T_Z61:=Int→ByteArray→Option (ByteArray)
def c_Z61 {R:Type} (F:T_Z61) (x0:Int) (x1:ByteArray) (k:ByteArray→Option R):Option R:=
 bif decide ((0:Int)<x0) then
 if (10:Int) ≠ (0:Int) then
 if (bytesOf [D.int (IntKind.u8.wrap (IntKind.i64.wrap ((48:Int) + x0.tmod (10:Int))))]).size + x1.size≤(4294967296:Nat) then
 if (10:Int) ≠ (0:Int) then
 (F (IntKind.i64.wrap (x0.tdiv (10:Int))) (bytesOf [D.int (IntKind.u8.wrap (IntKind.i64.wrap ((48:Int) + x0.tmod (10:Int))))] ++ x1)).bind k
 else
 none
 else
 none
 else
 none
 else
 k x1
theorem c_Z61_bind {R:Type} (F:T_Z61) (x0:Int) (x1:ByteArray) (k:ByteArray→Option R):c_Z61 F x0 x1 k=(c_Z61 F x0 x1 some).bind k:=by
 unfold c_Z61
 repeat' first|exact bnd_tail|exact bnd_none|exact bnd_leaf|apply bnd_ite|apply bnd_cond|apply bnd_sum|(apply bnd_bind;intro _)|intro _
def n_Z61:Nat→T_Z61
 | 0,_,_=>none
 | n + 1,x0,x1=>c_Z61 (n_Z61 n) x0 x1 some
noncomputable def Z61 (x0:Int) (x1:ByteArray):Option (ByteArray):=ev (fun n=>n_Z61 n x0 x1)
def m_Z61 (F:T_Z61):Lent:=⟨4,⟨(.int .i64 :: .undef :: .undef :: .str :: uu 16 ([])),[]⟩,[(.exit 0,⟨(.undef :: .undef :: .undef :: .str :: uu 16 ([])),[]⟩)],fun _ ds k=>dI (fun x0 ds=>dS (fun x1 ds=>dE ((F x0 x1).bind (fun y=>k 0 [.S y])) ds) ds) ds⟩
theorem q_Z61 (F:T_Z61) (x0:Int) (x1:ByteArray):runLoop (ocOf []) (olOf [m_Z61 F]) A 33 (codeAt (bodyOf Try.f33) 4) ((m_Z61 F).sh.mk' [.I x0,.S x1]) (fun e σ'=>some (e,σ'))=c_Z61 F x0 x1 (fun y=>some (.exit 0,SSt.mk' ⟨(.undef :: .undef :: .undef :: .str :: uu 16 ([])),[]⟩ [.S y])):=by kernel_rfl
theorem m_Z61_ok:∀ n,(m_Z61 (n_Z61 n)).ok Try.prog (codeAt (bodyOf Try.f33) 4):=by
 intro n
 induction n with
 | zero=>
  intro R ds k r h
  unfold m_Z61 at h
  obtain ⟨_,_,rfl,h⟩:=dI_some h
  obtain ⟨_,_,rfl,h⟩:=dS_some h
  obtain ⟨rfl,hE⟩:=dE_some h
  obtain ⟨y,hy,hk⟩:=bnd_some hE
  cases hy
 | succ n ih=>
  intro R ds k r h
  unfold m_Z61 at h
  obtain ⟨_,_,rfl,h⟩:=dI_some h
  obtain ⟨_,_,rfl,h⟩:=dS_some h
  obtain ⟨rfl,hE⟩:=dE_some h
  obtain ⟨y,hy,hk⟩:=bnd_some hE
  exact ⟨0,_,_,_,hk,rfl,loop_ok px (fx:=⟨Try.func33,by kernel_rfl,by kernel_rfl⟩) entsOK_nil (lentsOK_cons ih lentsOK_nil) (by kernel_rfl) ((q_Z61 ..).trans ((c_Z61_bind ..).trans (bnd_to hy)))⟩
noncomputable def e_Z61:Lent:=m_Z61 (Z61)
theorem e_Z61_ok:(e_Z61).ok Try.prog (codeAt (bodyOf Try.f33) 4):=by
 intro R ds k r h
 unfold e_Z61 m_Z61 at h
 obtain ⟨_,_,rfl,h⟩:=dI_some h
 obtain ⟨_,_,rfl,h⟩:=dS_some h
 obtain ⟨rfl,hE⟩:=dE_some h
 obtain ⟨y,hy,hk⟩:=bnd_some hE
 obtain ⟨n,hn⟩:=ev_some hy
 exact m_Z61_ok n R _ k r ((bnd_to hn).trans hk)

/-!-/
def c_Z62 {R:Type} (x0:Int) (k:ByteArray→Option R):Option R:=
 bif decide (x0≤(0:Int)) then
 k (bytes_1)
 else
 (Z61 x0 (bytes_0)).bind (fun y0=>
 if bytes_2.size + y0.size≤(4294967296:Nat) then
 k (bytes_2 ++ y0)
 else
 none)
theorem c_Z62_bind {R:Type} (x0:Int) (k:ByteArray→Option R):c_Z62 x0 k=(c_Z62 x0 some).bind k:=by
 unfold c_Z62
 repeat' first|exact bnd_tail|exact bnd_none|exact bnd_leaf|apply bnd_ite|apply bnd_cond|apply bnd_sum|(apply bnd_bind;intro _)|intro _
def Z62 (x0:Int):Option (ByteArray):=c_Z62 x0 some
def e_Z62:Ent:=⟨33,[.int .i64],[(.str,[.undef])],fun _ ds k=>dI (fun x0 ds=>dE ((Z62 x0).bind (fun y=>k 0 [.S y])) ds) ds⟩
theorem q_Z62 (x0:Int):runFn (ocOf []) (olOf [e_Z61]) A 33 Try.f33 (Sh.mks e_Z62.sh [.I x0]).1 (fun v os=>some (v,os))=c_Z62 x0 (fun y=>retO e_Z62 0 [.S y]):=by kernel_rfl
theorem e_Z62_ok:e_Z62.ok Try.prog A:=by
 intro R ds k r h
 unfold e_Z62 at h
 obtain ⟨_,_,rfl,h⟩:=dI_some h
 obtain ⟨rfl,hE⟩:=dE_some h
 obtain ⟨y,hy,hk⟩:=bnd_some hE
 exact ⟨0,_,_,_,hk,rfl,fn_ok px (fx:=⟨Try.func33,by kernel_rfl,by kernel_rfl⟩) entsOK_nil (lentsOK_cons e_Z61_ok lentsOK_nil) ((q_Z62 ..).trans ((c_Z62_bind ..).trans (bnd_to hy)))⟩

/-!-/
abbrev T_Z63:=Int→Int→List D→Option (Int × List D)
def c_Z63 {R:Type} (F:T_Z63) (x0 x1:Int) (x2:List D) (k:Int × List D→Option R):Option R:=
 bif decide (x1<(↑x2.length:Int)) then
 if 0≤x1∧x1<(↑x2.length:Int) then
 if x1.toNat + 1≤x2.length then
 if x1.toNat + 1≤x2.length then
 (Z62 (IntKind.i64.wrap (x0 + 1))).bind (fun y0=>
 Z0 (x2.set x1.toNat (D.node [D.int x0,D.str ((x2.getD x1.toNat (D.int 0)).fld (1:Nat)).toStr,D.int ((x2.getD x1.toNat (D.int 0)).fld (2:Nat)).toInt,D.int ((x2.getD x1.toNat (D.int 0)).fld (3:Nat)).toInt,D.int ((x2.getD x1.toNat (D.int 0)).fld (4:Nat)).toInt])) (fun s1=>
 if 0≤x1∧x1<(↑s1.length:Int) then
 if x1.toNat + 1≤s1.length then
 if x1.toNat + 1≤s1.length then
 Z0 (s1.set x1.toNat (D.node [D.int ((s1.getD x1.toNat (D.int 0)).fld (0:Nat)).toInt,D.str y0,D.int ((s1.getD x1.toNat (D.int 0)).fld (2:Nat)).toInt,D.int ((s1.getD x1.toNat (D.int 0)).fld (3:Nat)).toInt,D.int ((s1.getD x1.toNat (D.int 0)).fld (4:Nat)).toInt])) (fun s2=>
 if 0≤x1∧x1<(↑s2.length:Int) then
 if x1.toNat + 1≤s2.length then
 if x1.toNat + 1≤s2.length then
 Z0 (s2.set x1.toNat (D.node [D.int ((s2.getD x1.toNat (D.int 0)).fld (0:Nat)).toInt,D.str ((s2.getD x1.toNat (D.int 0)).fld (1:Nat)).toStr,D.int (IntKind.i64.wrap (IntKind.i64.wrap (x0 + 1) + (1:Int))),D.int ((s2.getD x1.toNat (D.int 0)).fld (3:Nat)).toInt,D.int ((s2.getD x1.toNat (D.int 0)).fld (4:Nat)).toInt])) (fun s3=>
 if 0≤x1∧x1<(↑s3.length:Int) then
 if x1.toNat + 1≤s3.length then
 if x1.toNat + 1≤s3.length then
 Z0 (s3.set x1.toNat (D.node [D.int ((s3.getD x1.toNat (D.int 0)).fld (0:Nat)).toInt,D.str ((s3.getD x1.toNat (D.int 0)).fld (1:Nat)).toStr,D.int ((s3.getD x1.toNat (D.int 0)).fld (2:Nat)).toInt,D.int (IntKind.i64.wrap (IntKind.i64.wrap (IntKind.i64.wrap (x0 + 1) + (1:Int)) + (1:Int))),D.int ((s3.getD x1.toNat (D.int 0)).fld (4:Nat)).toInt])) (fun s4=>
 if 0≤x1∧x1<(↑s4.length:Int) then
 if x1.toNat + 1≤s4.length then
 if x1.toNat + 1≤s4.length then
 (F (IntKind.i64.wrap (IntKind.i64.wrap (IntKind.i64.wrap (IntKind.i64.wrap (IntKind.i64.wrap (x0 + 1) + (1:Int)) + (1:Int)) + (1:Int)) + (1:Int))) (IntKind.i64.wrap (x1 + 1)) (s4.set x1.toNat (D.node [D.int ((s4.getD x1.toNat (D.int 0)).fld (0:Nat)).toInt,D.str ((s4.getD x1.toNat (D.int 0)).fld (1:Nat)).toStr,D.int ((s4.getD x1.toNat (D.int 0)).fld (2:Nat)).toInt,D.int ((s4.getD x1.toNat (D.int 0)).fld (3:Nat)).toInt,D.int (IntKind.i64.wrap (IntKind.i64.wrap (IntKind.i64.wrap (IntKind.i64.wrap (x0 + 1) + (1:Int)) + (1:Int)) + (1:Int)))]))).bind k
 else
 none
 else
 none
 else
 none)
 else
 none
 else
 none
 else
 none)
 else
 none
 else
 none
 else
 none)
 else
 none
 else
 none
 else
 none))
 else
 none
 else
 none
 else
 none
 else
 k (x0,x2)
theorem c_Z63_bind {R:Type} (F:T_Z63) (x0 x1:Int) (x2:List D) (k:Int × List D→Option R):c_Z63 F x0 x1 x2 k=(c_Z63 F x0 x1 x2 some).bind k:=by
 unfold c_Z63
 repeat' first
  | exact bnd_tail
  | exact bnd_none
  | exact bnd_leaf
  | apply bnd_ite
  | apply bnd_lt
  | apply bnd_cond
  | apply bnd_sum
  | (apply bnd_bind; intro _)
  | intro _
def n_Z63:Nat→T_Z63
 | 0,_,_,_=>none
 | n + 1,x0,x1,x2=>c_Z63 (n_Z63 n) x0 x1 x2 some
noncomputable def Z63 (x0 x1:Int) (x2:List D):Option (Int × List D):=ev (fun n=>n_Z63 n x0 x1 x2)
def m_Z63 (F:T_Z63):Lent:=⟨2,⟨(.full 1000 [] (.struct [.int .i64,.str,.int .i64,.int .i64,.int .i64]) :: .int .i64 :: .undef :: .undef :: .undef :: .int .i64 :: uu 43 ([])),[(1000,.own (.struct [.int .i64,.str,.int .i64,.int .i64,.int .i64]))]⟩,[(.exit 0,⟨(.full 1000 [] (.struct [.int .i64,.str,.int .i64,.int .i64,.int .i64]) :: .int .i64 :: uu 47 ([])),[(1000,.own (.struct [.int .i64,.str,.int .i64,.int .i64,.int .i64]))]⟩)],fun _ ds k=>dI (fun x0 ds=>dI (fun x1 ds=>dL (fun x2 ds=>dE ((F x0 x1 x2).bind (fun y=>k 0 [.I y.1,.L y.2])) ds) ds) ds) ds⟩
theorem q_Z63 (F:T_Z63) (x0 x1:Int) (x2:List D):runLoop (ocOf [e_Z62]) (olOf [m_Z63 F]) A 13 (codeAt (bodyOf Try.f13) 2) ((m_Z63 F).sh.mk' [.I x0,.I x1,.L x2]) (fun e σ'=>some (e,σ'))=c_Z63 F x0 x1 x2 (fun y=>some (.exit 0,SSt.mk' ⟨(.full 1000 [] (.struct [.int .i64,.str,.int .i64,.int .i64,.int .i64]) :: .int .i64 :: uu 47 ([])),[(1000,.own (.struct [.int .i64,.str,.int .i64,.int .i64,.int .i64]))]⟩ [.I y.1,.L y.2])):=by kernel_rfl
theorem m_Z63_ok:∀ n,(m_Z63 (n_Z63 n)).ok Try.prog (codeAt (bodyOf Try.f13) 2):=by
 intro n
 induction n with
 | zero=>
  intro R ds k r h
  unfold m_Z63 at h
  obtain ⟨_,_,rfl,h⟩:=dI_some h
  obtain ⟨_,_,rfl,h⟩:=dI_some h
  obtain ⟨_,_,rfl,h⟩:=dL_some h
  obtain ⟨rfl,hE⟩:=dE_some h
  obtain ⟨y,hy,hk⟩:=bnd_some hE
  cases hy
 | succ n ih=>
  intro R ds k r h
  unfold m_Z63 at h
  obtain ⟨_,_,rfl,h⟩:=dI_some h
  obtain ⟨_,_,rfl,h⟩:=dI_some h
  obtain ⟨_,_,rfl,h⟩:=dL_some h
  obtain ⟨rfl,hE⟩:=dE_some h
  obtain ⟨y,hy,hk⟩:=bnd_some hE
  exact ⟨0,_,_,_,hk,rfl,loop_ok px (fx:=⟨Try.func13,by kernel_rfl,by kernel_rfl⟩) (entsOK_cons e_Z62_ok entsOK_nil) (lentsOK_cons ih lentsOK_nil) (by kernel_rfl) ((q_Z63 ..).trans ((c_Z63_bind ..).trans (bnd_to hy)))⟩
noncomputable def e_Z63:Lent:=m_Z63 (Z63)
theorem e_Z63_ok:(e_Z63).ok Try.prog (codeAt (bodyOf Try.f13) 2):=by
 intro R ds k r h
 unfold e_Z63 m_Z63 at h
 obtain ⟨_,_,rfl,h⟩:=dI_some h
 obtain ⟨_,_,rfl,h⟩:=dI_some h
 obtain ⟨_,_,rfl,h⟩:=dL_some h
 obtain ⟨rfl,hE⟩:=dE_some h
 obtain ⟨y,hy,hk⟩:=bnd_some hE
 obtain ⟨n,hn⟩:=ev_some hy
 exact m_Z63_ok n R _ k r ((bnd_to hn).trans hk)

/-!-/
def c_Z64 {R:Type} (x0:List D) (x1:Int) (k:Int × List D→Option R):Option R:=
 (Z63 x1 (0:Int) x0).bind (fun y0=>
 k (y0.fst,y0.snd))
theorem c_Z64_bind {R:Type} (x0:List D) (x1:Int) (k:Int × List D→Option R):c_Z64 x0 x1 k=(c_Z64 x0 x1 some).bind k:=by
 unfold c_Z64
 repeat' first|exact bnd_tail|exact bnd_none|exact bnd_leaf|apply bnd_ite|apply bnd_cond|apply bnd_sum|(apply bnd_bind;intro _)|intro _
def Z64 (x0:List D) (x1:Int):Option (Int × List D):=c_Z64 x0 x1 some
def e_Z64:Ent:=⟨13,[.own (.struct [.int .i64,.str,.int .i64,.int .i64,.int .i64]),.int .i64],[(.int .i64,[.own (.struct [.int .i64,.str,.int .i64,.int .i64,.int .i64]),.undef])],fun _ ds k=>dL (fun x0 ds=>dI (fun x1 ds=>dE ((Z64 x0 x1).bind (fun y=>k 0 [.I y.1,.L y.2])) ds) ds) ds⟩
theorem q_Z64 (x0:List D) (x1:Int):runFn (ocOf []) (olOf [e_Z63]) A 13 Try.f13 (Sh.mks e_Z64.sh [.L x0,.I x1]).1 (fun v os=>some (v,os))=c_Z64 x0 x1 (fun y=>retO e_Z64 0 [.I y.1,.L y.2]):=by kernel_rfl
theorem e_Z64_ok:e_Z64.ok Try.prog A:=by
 intro R ds k r h
 unfold e_Z64 at h
 obtain ⟨_,_,rfl,h⟩:=dL_some h
 obtain ⟨_,_,rfl,h⟩:=dI_some h
 obtain ⟨rfl,hE⟩:=dE_some h
 obtain ⟨y,hy,hk⟩:=bnd_some hE
 exact ⟨0,_,_,_,hk,rfl,fn_ok px (fx:=⟨Try.func13,by kernel_rfl,by kernel_rfl⟩) entsOK_nil (lentsOK_cons e_Z63_ok lentsOK_nil) ((q_Z64 ..).trans ((c_Z64_bind ..).trans (bnd_to hy)))⟩

/-!-/
abbrev T_Z65:=Int→Int→List D→Option (Int × List D)
def c_Z65 {R:Type} (F:T_Z65) (x0 x1:Int) (x2:List D) (k:Int × List D→Option R):Option R:=
 bif decide (x1<(↑x2.length:Int)) then
 (Z62 x0).bind (fun y0=>
 if 0≤x1∧x1<(↑x2.length:Int) then
 if x1.toNat + 1≤x2.length then
 (F (IntKind.i64.wrap (x0 + 1)) (IntKind.i64.wrap (x1 + 1)) (x2.set x1.toNat (D.str y0))).bind k
 else
 none
 else
 none)
 else
 k (x0,x2)
theorem c_Z65_bind {R:Type} (F:T_Z65) (x0 x1:Int) (x2:List D) (k:Int × List D→Option R):c_Z65 F x0 x1 x2 k=(c_Z65 F x0 x1 x2 some).bind k:=by
 unfold c_Z65
 repeat' first|exact bnd_tail|exact bnd_none|exact bnd_leaf|apply bnd_ite|apply bnd_cond|apply bnd_sum|(apply bnd_bind;intro _)|intro _
def n_Z65:Nat→T_Z65
 | 0,_,_,_=>none
 | n + 1,x0,x1,x2=>c_Z65 (n_Z65 n) x0 x1 x2 some
noncomputable def Z65 (x0 x1:Int) (x2:List D):Option (Int × List D):=ev (fun n=>n_Z65 n x0 x1 x2)
def m_Z65 (F:T_Z65):Lent:=⟨2,⟨(.full 1000 [] (.str) :: .int .i64 :: .undef :: .undef :: .undef :: .int .i64 :: uu 14 ([])),[(1000,.own (.str))]⟩,[(.exit 0,⟨(.full 1000 [] (.str) :: .int .i64 :: uu 18 ([])),[(1000,.own (.str))]⟩)],fun _ ds k=>dI (fun x0 ds=>dI (fun x1 ds=>dL (fun x2 ds=>dE ((F x0 x1 x2).bind (fun y=>k 0 [.I y.1,.L y.2])) ds) ds) ds) ds⟩
theorem q_Z65 (F:T_Z65) (x0 x1:Int) (x2:List D):runLoop (ocOf [e_Z62]) (olOf [m_Z65 F]) A 14 (codeAt (bodyOf Try.f14) 2) ((m_Z65 F).sh.mk' [.I x0,.I x1,.L x2]) (fun e σ'=>some (e,σ'))=c_Z65 F x0 x1 x2 (fun y=>some (.exit 0,SSt.mk' ⟨(.full 1000 [] (.str) :: .int .i64 :: uu 18 ([])),[(1000,.own (.str))]⟩ [.I y.1,.L y.2])):=by kernel_rfl
theorem m_Z65_ok:∀ n,(m_Z65 (n_Z65 n)).ok Try.prog (codeAt (bodyOf Try.f14) 2):=by
 intro n
 induction n with
 | zero=>
  intro R ds k r h
  unfold m_Z65 at h
  obtain ⟨_,_,rfl,h⟩:=dI_some h
  obtain ⟨_,_,rfl,h⟩:=dI_some h
  obtain ⟨_,_,rfl,h⟩:=dL_some h
  obtain ⟨rfl,hE⟩:=dE_some h
  obtain ⟨y,hy,hk⟩:=bnd_some hE
  cases hy
 | succ n ih=>
  intro R ds k r h
  unfold m_Z65 at h
  obtain ⟨_,_,rfl,h⟩:=dI_some h
  obtain ⟨_,_,rfl,h⟩:=dI_some h
  obtain ⟨_,_,rfl,h⟩:=dL_some h
  obtain ⟨rfl,hE⟩:=dE_some h
  obtain ⟨y,hy,hk⟩:=bnd_some hE
  exact ⟨0,_,_,_,hk,rfl,loop_ok px (fx:=⟨Try.func14,by kernel_rfl,by kernel_rfl⟩) (entsOK_cons e_Z62_ok entsOK_nil) (lentsOK_cons ih lentsOK_nil) (by kernel_rfl) ((q_Z65 ..).trans ((c_Z65_bind ..).trans (bnd_to hy)))⟩
noncomputable def e_Z65:Lent:=m_Z65 (Z65)
theorem e_Z65_ok:(e_Z65).ok Try.prog (codeAt (bodyOf Try.f14) 2):=by
 intro R ds k r h
 unfold e_Z65 m_Z65 at h
 obtain ⟨_,_,rfl,h⟩:=dI_some h
 obtain ⟨_,_,rfl,h⟩:=dI_some h
 obtain ⟨_,_,rfl,h⟩:=dL_some h
 obtain ⟨rfl,hE⟩:=dE_some h
 obtain ⟨y,hy,hk⟩:=bnd_some hE
 obtain ⟨n,hn⟩:=ev_some hy
 exact m_Z65_ok n R _ k r ((bnd_to hn).trans hk)

/-!-/
def c_Z66 {R:Type} (x0:List D) (x1:Int) (k:Int × List D→Option R):Option R:=
 (Z65 x1 (0:Int) x0).bind (fun y0=>
 k (y0.fst,y0.snd))
theorem c_Z66_bind {R:Type} (x0:List D) (x1:Int) (k:Int × List D→Option R):c_Z66 x0 x1 k=(c_Z66 x0 x1 some).bind k:=by
 unfold c_Z66
 repeat' first|exact bnd_tail|exact bnd_none|exact bnd_leaf|apply bnd_ite|apply bnd_cond|apply bnd_sum|(apply bnd_bind;intro _)|intro _
def Z66 (x0:List D) (x1:Int):Option (Int × List D):=c_Z66 x0 x1 some
def e_Z66:Ent:=⟨14,[.own (.str),.int .i64],[(.int .i64,[.own (.str),.undef])],fun _ ds k=>dL (fun x0 ds=>dI (fun x1 ds=>dE ((Z66 x0 x1).bind (fun y=>k 0 [.I y.1,.L y.2])) ds) ds) ds⟩
theorem q_Z66 (x0:List D) (x1:Int):runFn (ocOf []) (olOf [e_Z65]) A 14 Try.f14 (Sh.mks e_Z66.sh [.L x0,.I x1]).1 (fun v os=>some (v,os))=c_Z66 x0 x1 (fun y=>retO e_Z66 0 [.I y.1,.L y.2]):=by kernel_rfl
theorem e_Z66_ok:e_Z66.ok Try.prog A:=by
 intro R ds k r h
 unfold e_Z66 at h
 obtain ⟨_,_,rfl,h⟩:=dL_some h
 obtain ⟨_,_,rfl,h⟩:=dI_some h
 obtain ⟨rfl,hE⟩:=dE_some h
 obtain ⟨y,hy,hk⟩:=bnd_some hE
 exact ⟨0,_,_,_,hk,rfl,fn_ok px (fx:=⟨Try.func14,by kernel_rfl,by kernel_rfl⟩) entsOK_nil (lentsOK_cons e_Z65_ok lentsOK_nil) ((q_Z66 ..).trans ((c_Z66_bind ..).trans (bnd_to hy)))⟩

/-!-/
abbrev T_Z67:=List D→Int→Int→Option ((Int × Int) ⊕ (Int))
def c_Z67 {R:Type} (F:T_Z67) (x0:List D) (x1 x2:Int) (k:(Int × Int) ⊕ (Int)→Option R):Option R:=
 bif decide (x2<(↑x0.length:Int)) then
 if 0≤x2∧x2<(↑x0.length:Int) then
 (Z62 x1).bind (fun y0=>
 bif !(x0.getD x2.toNat (D.int 0)).toStr.toList == y0.toList then
 k (.inl (x1,(-1:Int)))
 else
 (F x0 (IntKind.i64.wrap (x1 + 1)) (IntKind.i64.wrap (x2 + 1))).bind k)
 else
 none
 else
 k (.inr x1)
theorem c_Z67_bind {R:Type} (F:T_Z67) (x0:List D) (x1 x2:Int) (k:(Int × Int) ⊕ (Int)→Option R):c_Z67 F x0 x1 x2 k=(c_Z67 F x0 x1 x2 some).bind k:=by
 unfold c_Z67
 repeat' first|exact bnd_tail|exact bnd_none|exact bnd_leaf|apply bnd_ite|apply bnd_cond|apply bnd_sum|(apply bnd_bind;intro _)|intro _
def n_Z67:Nat→T_Z67
 | 0,_,_,_=>none
 | n + 1,x0,x1,x2=>c_Z67 (n_Z67 n) x0 x1 x2 some
noncomputable def Z67 (x0:List D) (x1 x2:Int):Option ((Int × Int) ⊕ (Int)):=ev (fun n=>n_Z67 n x0 x1 x2)
def m_Z67 (F:T_Z67):Lent:=⟨2,⟨(.rd (.str) :: .int .i64 :: .undef :: .undef :: .undef :: .int .i64 :: uu 16 ([])),[]⟩,[(.ret,⟨(.undef :: .int .i64 :: .undef :: .undef :: .int .i64 :: uu 17 ([])),[]⟩),(.exit 0,⟨(.undef :: .int .i64 :: uu 20 ([])),[]⟩)],fun _ ds k=>dL (fun x0 ds=>dI (fun x1 ds=>dI (fun x2 ds=>dE ((F x0 x1 x2).bind (Sum.elim (fun y=>k 0 [.I y.1,.I y.2]) (fun y=>k 1 [.I y]))) ds) ds) ds) ds⟩
theorem q_Z67 (F:T_Z67) (x0:List D) (x1 x2:Int):runLoop (ocOf [e_Z62]) (olOf [m_Z67 F]) A 15 (codeAt (bodyOf Try.f15) 2) ((m_Z67 F).sh.mk' [.L x0,.I x1,.I x2]) (fun e σ'=>some (e,σ'))=c_Z67 F x0 x1 x2 (Sum.elim (fun y=>some (.ret,SSt.mk' ⟨(.undef :: .int .i64 :: .undef :: .undef :: .int .i64 :: uu 17 ([])),[]⟩ [.I y.1,.I y.2])) (fun y=>some (.exit 0,SSt.mk' ⟨(.undef :: .int .i64 :: uu 20 ([])),[]⟩ [.I y]))):=by kernel_rfl
theorem m_Z67_ok:∀ n,(m_Z67 (n_Z67 n)).ok Try.prog (codeAt (bodyOf Try.f15) 2):=by
 intro n
 induction n with
 | zero=>
  intro R ds k r h
  unfold m_Z67 at h
  obtain ⟨_,_,rfl,h⟩:=dL_some h
  obtain ⟨_,_,rfl,h⟩:=dI_some h
  obtain ⟨_,_,rfl,h⟩:=dI_some h
  obtain ⟨rfl,hE⟩:=dE_some h
  obtain ⟨y,hy,hk⟩:=bnd_some hE
  cases hy
 | succ n ih=>
  intro R ds k r h
  unfold m_Z67 at h
  obtain ⟨_,_,rfl,h⟩:=dL_some h
  obtain ⟨_,_,rfl,h⟩:=dI_some h
  obtain ⟨_,_,rfl,h⟩:=dI_some h
  obtain ⟨rfl,hE⟩:=dE_some h
  obtain ⟨y,hy,hk⟩:=bnd_some hE
  cases y with
  | inl y=>
   exact ⟨0,_,_,_,hk,rfl,loop_ok px (fx:=⟨Try.func15,by kernel_rfl,by kernel_rfl⟩) (entsOK_cons e_Z62_ok entsOK_nil) (lentsOK_cons ih lentsOK_nil) (by kernel_rfl) ((q_Z67 ..).trans ((c_Z67_bind ..).trans (bnd_to hy)))⟩
  | inr y=>
   exact ⟨1,_,_,_,hk,rfl,loop_ok px (fx:=⟨Try.func15,by kernel_rfl,by kernel_rfl⟩) (entsOK_cons e_Z62_ok entsOK_nil) (lentsOK_cons ih lentsOK_nil) (by kernel_rfl) ((q_Z67 ..).trans ((c_Z67_bind ..).trans (bnd_to hy)))⟩
noncomputable def e_Z67:Lent:=m_Z67 (Z67)
theorem e_Z67_ok:(e_Z67).ok Try.prog (codeAt (bodyOf Try.f15) 2):=by
 intro R ds k r h
 unfold e_Z67 m_Z67 at h
 obtain ⟨_,_,rfl,h⟩:=dL_some h
 obtain ⟨_,_,rfl,h⟩:=dI_some h
 obtain ⟨_,_,rfl,h⟩:=dI_some h
 obtain ⟨rfl,hE⟩:=dE_some h
 obtain ⟨y,hy,hk⟩:=bnd_some hE
 obtain ⟨n,hn⟩:=ev_some hy
 exact m_Z67_ok n R _ k r ((bnd_to hn).trans hk)

/-!-/
def c_Z68 {R:Type} (x0:List D) (x1:Int) (k:Int→Option R):Option R:=
 (Z67 x0 x1 (0:Int)).bind (Sum.elim (fun y0=>
 k y0.snd) (fun y1=>
 k y1))
theorem c_Z68_bind {R:Type} (x0:List D) (x1:Int) (k:Int→Option R):c_Z68 x0 x1 k=(c_Z68 x0 x1 some).bind k:=by
 unfold c_Z68
 repeat' first|exact bnd_tail|exact bnd_none|exact bnd_leaf|apply bnd_ite|apply bnd_cond|apply bnd_sum|(apply bnd_bind;intro _)|intro _
def Z68 (x0:List D) (x1:Int):Option (Int):=c_Z68 x0 x1 some
def e_Z68:Ent:=⟨15,[.rd (.str),.int .i64],[(.int .i64,[.undef,.undef])],fun _ ds k=>dL (fun x0 ds=>dI (fun x1 ds=>dE ((Z68 x0 x1).bind (fun y=>k 0 [.I y])) ds) ds) ds⟩
theorem q_Z68 (x0:List D) (x1:Int):runFn (ocOf []) (olOf [e_Z67]) A 15 Try.f15 (Sh.mks e_Z68.sh [.L x0,.I x1]).1 (fun v os=>some (v,os))=c_Z68 x0 x1 (fun y=>retO e_Z68 0 [.I y]):=by kernel_rfl
theorem e_Z68_ok:e_Z68.ok Try.prog A:=by
 intro R ds k r h
 unfold e_Z68 at h
 obtain ⟨_,_,rfl,h⟩:=dL_some h
 obtain ⟨_,_,rfl,h⟩:=dI_some h
 obtain ⟨rfl,hE⟩:=dE_some h
 obtain ⟨y,hy,hk⟩:=bnd_some hE
 exact ⟨0,_,_,_,hk,rfl,fn_ok px (fx:=⟨Try.func15,by kernel_rfl,by kernel_rfl⟩) entsOK_nil (lentsOK_cons e_Z67_ok lentsOK_nil) ((q_Z68 ..).trans ((c_Z68_bind ..).trans (bnd_to hy)))⟩

/-!-/
def c_Z69 {R:Type} (x0:List D) (x1 x2:Int) (k:Bool→Option R):Option R:=
 (Z3 x0 (1048576:Int)).bind (fun y0=>
 bif decide (y0<(0:Int)) then
 k Bool.true
 else
 (Z6 x0).bind (fun y1=>
 (Z19 y1 x1 x2).bind (fun y2=>
 (Z6 x0).bind (fun y3=>
 (Z55 y3 x1 x2).bind (fun y4=>
 (Z57 y4.fst y2.fst).bind (fun y5=>
 bif !y5 then
 k Bool.false
 else
 bif !y4.snd == y2.snd then
 k Bool.false
 else
 (Z6 x0).bind (fun y6=>
 (Z60 y3 y6).bind (fun y7=>
 bif !y7 then
 k Bool.false
 else
 (Z64 y3 (1:Int)).bind (fun y8=>
 bif decide (y8.fst<(0:Int)) then
 k Bool.false
 else
 (Z57 y4.fst y2.fst).bind (fun y9=>
 bif !y9 then
 k Bool.false
 else
 bif !y4.snd == y2.snd then
 k Bool.false
 else
 (Z66 y4.fst (1:Int)).bind (fun y10=>
 (Z68 y10.snd (1:Int)).bind (fun y11=>
 bif decide (y11<(0:Int)) then
 k Bool.false
 else
 bif !decide (y11=y10.fst) then
 k Bool.false
 else
 (Z6 x0).bind (fun y12=>
 (Z55 y12 x1 x2).bind (fun y13=>
 (Z57 y13.fst y2.fst).bind (fun y14=>
 bif !y14 then
 k Bool.false
 else
 bif !y13.snd == y2.snd then
 k Bool.false
 else
 (Z68 y10.snd (1:Int)).bind (fun y15=>
 bif decide (y15<(0:Int)) then
 k Bool.false
 else
 bif !decide (y15=y10.fst) then
 k Bool.false
 else
 k Bool.true))))))))))))))))
theorem c_Z69_bind {R:Type} (x0:List D) (x1 x2:Int) (k:Bool→Option R):c_Z69 x0 x1 x2 k=(c_Z69 x0 x1 x2 some).bind k:=by
 unfold c_Z69
 repeat' first|exact bnd_tail|exact bnd_none|exact bnd_leaf|apply bnd_ite|apply bnd_cond|apply bnd_sum|(apply bnd_bind;intro _)|intro _
def Z69 (x0:List D) (x1 x2:Int):Option (Bool):=c_Z69 x0 x1 x2 some
def e_Z69:Ent:=⟨4,[.rd (.struct [.int .i64,.str,.int .i64,.int .i64,.int .i64]),.int .i64,.int .i64],[(.bool,[.undef,.undef,.undef])],fun _ ds k=>dL (fun x0 ds=>dI (fun x1 ds=>dI (fun x2 ds=>dE ((Z69 x0 x1 x2).bind (fun y=>k 0 [.B y])) ds) ds) ds) ds⟩
theorem q_Z69 (x0:List D) (x1 x2:Int):runFn (ocOf [e_Z3,e_Z6,e_Z19,e_Z55,e_Z57,e_Z60,e_Z64,e_Z66,e_Z68]) (olOf []) A 4 Try.f4 (Sh.mks e_Z69.sh [.L x0,.I x1,.I x2]).1 (fun v os=>some (v,os))=c_Z69 x0 x1 x2 (fun y=>retO e_Z69 0 [.B y]):=by kernel_rfl
theorem e_Z69_ok:e_Z69.ok Try.prog A:=by
 intro R ds k r h
 unfold e_Z69 at h
 obtain ⟨_,_,rfl,h⟩:=dL_some h
 obtain ⟨_,_,rfl,h⟩:=dI_some h
 obtain ⟨_,_,rfl,h⟩:=dI_some h
 obtain ⟨rfl,hE⟩:=dE_some h
 obtain ⟨y,hy,hk⟩:=bnd_some hE
 exact ⟨0,_,_,_,hk,rfl,fn_ok px (fx:=⟨Try.func4,by kernel_rfl,by kernel_rfl⟩) (entsOK_cons e_Z3_ok (entsOK_cons e_Z6_ok (entsOK_cons e_Z19_ok (entsOK_cons e_Z55_ok (entsOK_cons e_Z57_ok (entsOK_cons e_Z60_ok (entsOK_cons e_Z64_ok (entsOK_cons e_Z66_ok (entsOK_cons e_Z68_ok entsOK_nil))))))))) lentsOK_nil ((q_Z69 ..).trans ((c_Z69_bind ..).trans (bnd_to hy)))⟩
end
end Go.Proofs.Ytacnicopnbcioaa
