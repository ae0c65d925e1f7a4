/- Models of Go functions and their contracts, printed by a program of this session. -/
import Derived.Test.YtacnicopnbcioaaClSt
set_option linter.unusedVariables false
set_option maxRecDepth 100000
namespace Go.Proofs.Ytacnicopnbcioaa
open Go Go.Rai
noncomputable section
def Z0 {α β:Type} (a:α) (f:α→β):β:=f a
theorem bnd_lt {α β γ:Type} {a:γ} {f:γ→Option β} {g:γ→Option α} {k:α→Option β} (h:∀ z,f z=(g z).bind k):Z0 a f=(Z0 a g).bind k:=h a
def bytes_0:ByteArray:={ data:=#[] }
def bytes_1:ByteArray:={ data:=#[(109:UInt8),(48:UInt8)] }
def bytes_2:ByteArray:={ data:=#[(109:UInt8)] }
/-!-/
def c_Z1 {R:Type} (x0:Int) (x1:ByteArray) (x2 x3 x4 x5:Int) (k:Int→Option R):Option R:=
 bif decide (IntKind.i64.wrap (x5 - (↑x1.size:Int))<(0:Int)) then
 k (-1:Int)
 else
 k (IntKind.i64.wrap (x5 - (↑x1.size:Int)))
theorem c_Z1_bind {R:Type} (x0:Int) (x1:ByteArray) (x2 x3 x4 x5:Int) (k:Int→Option R):c_Z1 x0 x1 x2 x3 x4 x5 k=(c_Z1 x0 x1 x2 x3 x4 x5 some).bind k:=by
 unfold c_Z1
 repeat' first|exact bnd_tail|exact bnd_none|exact bnd_leaf|apply bnd_ite|apply bnd_cond|apply bnd_sum|(apply bnd_bind;intro _)|intro _
def Z1 (x0:Int) (x1:ByteArray) (x2 x3 x4 x5:Int):Option (Int):=c_Z1 x0 x1 x2 x3 x4 x5 some
def e_Z1:Ent:=⟨23,[.agg [.int .i64,.str,.int .i64,.int .i64,.int .i64],.int .i64],[(.int .i64,[.undef,.undef])],fun _ ds k=>dI (fun x0 ds=>dS (fun x1 ds=>dI (fun x2 ds=>dI (fun x3 ds=>dI (fun x4 ds=>dI (fun x5 ds=>dE ((Z1 x0 x1 x2 x3 x4 x5).bind (fun y=>k 0 [.I y])) ds) ds) ds) ds) ds) ds) ds⟩
theorem q_Z1 (x0:Int) (x1:ByteArray) (x2 x3 x4 x5:Int):runFn (ocOf []) (olOf []) A 23 Try.f23 (Sh.mks e_Z1.sh [.I x0,.S x1,.I x2,.I x3,.I x4,.I x5]).1 (fun v os=>some (v,os))=c_Z1 x0 x1 x2 x3 x4 x5 (fun y=>retO e_Z1 0 [.I y]):=by kernel_rfl
theorem e_Z1_ok:e_Z1.ok Try.prog A:=by
 intro R ds k r h
 unfold e_Z1 at h
 obtain ⟨_,_,rfl,h⟩:=dI_some h
 obtain ⟨_,_,rfl,h⟩:=dS_some h
 obtain ⟨_,_,rfl,h⟩:=dI_some h
 obtain ⟨_,_,rfl,h⟩:=dI_some h
 obtain ⟨_,_,rfl,h⟩:=dI_some h
 obtain ⟨_,_,rfl,h⟩:=dI_some h
 obtain ⟨rfl,hE⟩:=dE_some h
 obtain ⟨y,hy,hk⟩:=bnd_some hE
 exact ⟨0,_,_,_,hk,rfl,fn_ok px (fx:=⟨Try.func23,by kernel_rfl,by kernel_rfl⟩) entsOK_nil lentsOK_nil ((q_Z1 ..).trans ((c_Z1_bind ..).trans (bnd_to hy)))⟩

/-!-/
abbrev T_Z2:=List D→Int→Int→Option ((Int × Int) ⊕ (Int))
def c_Z2 {R:Type} (F:T_Z2) (x0:List D) (x1 x2:Int) (k:(Int × Int) ⊕ (Int)→Option R):Option R:=
 bif decide (x2<(↑x0.length:Int)) then
 if 0≤x2∧x2<(↑x0.length:Int) then
 (Z1 (((x0.getD x2.toNat (D.int 0)).fld (0:Nat)).toInt) (((x0.getD x2.toNat (D.int 0)).fld (1:Nat)).toStr) (((x0.getD x2.toNat (D.int 0)).fld (2:Nat)).toInt) (((x0.getD x2.toNat (D.int 0)).fld (3:Nat)).toInt) (((x0.getD x2.toNat (D.int 0)).fld (4:Nat)).toInt) x1).bind (fun y0=>
 bif decide (y0<(0:Int)) then
 k (.inl (y0,(-1:Int)))
 else
 (F x0 y0 (IntKind.i64.wrap (x2 + 1))).bind k)
 else
 none
 else
 k (.inr x1)
theorem c_Z2_bind {R:Type} (F:T_Z2) (x0:List D) (x1 x2:Int) (k:(Int × Int) ⊕ (Int)→Option R):c_Z2 F x0 x1 x2 k=(c_Z2 F x0 x1 x2 some).bind k:=by
 unfold c_Z2
 repeat' first|exact bnd_tail|exact bnd_none|exact bnd_leaf|apply bnd_ite|apply bnd_cond|apply bnd_sum|(apply bnd_bind;intro _)|intro _
def n_Z2:Nat→T_Z2
 | 0,_,_,_=>none
 | n + 1,x0,x1,x2=>c_Z2 (n_Z2 n) x0 x1 x2 some
noncomputable def Z2 (x0:List D) (x1 x2:Int):Option ((Int × Int) ⊕ (Int)):=ev (fun n=>n_Z2 n x0 x1 x2)
def m_Z2 (F:T_Z2):Lent:=⟨5,⟨(.rd (.struct [.int .i64,.str,.int .i64,.int .i64,.int .i64]) :: .int .i64 :: .undef :: .undef :: .undef :: .int .i64 :: uu 21 ([])),[]⟩,[(.ret,⟨(.undef :: .int .i64 :: .undef :: .undef :: .int .i64 :: uu 22 ([])),[]⟩),(.exit 0,⟨(.undef :: .int .i64 :: uu 25 ([])),[]⟩)],fun _ ds k=>dL (fun x0 ds=>dI (fun x1 ds=>dI (fun x2 ds=>dE ((F x0 x1 x2).bind (Sum.elim (fun y=>k 0 [.I y.1,.I y.2]) (fun y=>k 1 [.I y]))) ds) ds) ds) ds⟩
theorem q_Z2 (F:T_Z2) (x0:List D) (x1 x2:Int):runLoop (ocOf [e_Z1]) (olOf [m_Z2 F]) A 7 (codeAt (bodyOf Try.f7) 5) ((m_Z2 F).sh.mk' [.L x0,.I x1,.I x2]) (fun e σ'=>some (e,σ'))=c_Z2 F x0 x1 x2 (Sum.elim (fun y=>some (.ret,SSt.mk' ⟨(.undef :: .int .i64 :: .undef :: .undef :: .int .i64 :: uu 22 ([])),[]⟩ [.I y.1,.I y.2])) (fun y=>some (.exit 0,SSt.mk' ⟨(.undef :: .int .i64 :: uu 25 ([])),[]⟩ [.I y]))):=by kernel_rfl
theorem m_Z2_ok:∀ n,(m_Z2 (n_Z2 n)).ok Try.prog (codeAt (bodyOf Try.f7) 5):=by
 intro n
 induction n with
 | zero=>
  intro R ds k r h
  unfold m_Z2 at h
  obtain ⟨_,_,rfl,h⟩:=dL_some h
  obtain ⟨_,_,rfl,h⟩:=dI_some h
  obtain ⟨_,_,rfl,h⟩:=dI_some h
  obtain ⟨rfl,hE⟩:=dE_some h
  obtain ⟨y,hy,hk⟩:=bnd_some hE
  cases hy
 | succ n ih=>
  intro R ds k r h
  unfold m_Z2 at h
  obtain ⟨_,_,rfl,h⟩:=dL_some h
  obtain ⟨_,_,rfl,h⟩:=dI_some h
  obtain ⟨_,_,rfl,h⟩:=dI_some h
  obtain ⟨rfl,hE⟩:=dE_some h
  obtain ⟨y,hy,hk⟩:=bnd_some hE
  cases y with
  | inl y=>
   exact ⟨0,_,_,_,hk,rfl,loop_ok px (fx:=⟨Try.func7,by kernel_rfl,by kernel_rfl⟩) (entsOK_cons e_Z1_ok entsOK_nil) (lentsOK_cons ih lentsOK_nil) (by kernel_rfl) ((q_Z2 ..).trans ((c_Z2_bind ..).trans (bnd_to hy)))⟩
  | inr y=>
   exact ⟨1,_,_,_,hk,rfl,loop_ok px (fx:=⟨Try.func7,by kernel_rfl,by kernel_rfl⟩) (entsOK_cons e_Z1_ok entsOK_nil) (lentsOK_cons ih lentsOK_nil) (by kernel_rfl) ((q_Z2 ..).trans ((c_Z2_bind ..).trans (bnd_to hy)))⟩
noncomputable def e_Z2:Lent:=m_Z2 (Z2)
theorem e_Z2_ok:(e_Z2).ok Try.prog (codeAt (bodyOf Try.f7) 5):=by
 intro R ds k r h
 unfold e_Z2 m_Z2 at h
 obtain ⟨_,_,rfl,h⟩:=dL_some h
 obtain ⟨_,_,rfl,h⟩:=dI_some h
 obtain ⟨_,_,rfl,h⟩:=dI_some h
 obtain ⟨rfl,hE⟩:=dE_some h
 obtain ⟨y,hy,hk⟩:=bnd_some hE
 obtain ⟨n,hn⟩:=ev_some hy
 exact m_Z2_ok n R _ k r ((bnd_to hn).trans hk)

/-!-/
def c_Z3 {R:Type} (x0:List D) (x1:Int) (k:Int→Option R):Option R:=
 bif decide (IntKind.i64.wrap (x1 - (↑x0.length:Int))<(0:Int)) then
 k (-1:Int)
 else
 (Z2 x0 (IntKind.i64.wrap (x1 - (↑x0.length:Int))) (0:Int)).bind (Sum.elim (fun y0=>
 k y0.snd) (fun y1=>
 k y1))
theorem c_Z3_bind {R:Type} (x0:List D) (x1:Int) (k:Int→Option R):c_Z3 x0 x1 k=(c_Z3 x0 x1 some).bind k:=by
 unfold c_Z3
 repeat' first|exact bnd_tail|exact bnd_none|exact bnd_leaf|apply bnd_ite|apply bnd_cond|apply bnd_sum|(apply bnd_bind;intro _)|intro _
def Z3 (x0:List D) (x1:Int):Option (Int):=c_Z3 x0 x1 some
def e_Z3:Ent:=⟨7,[.rd (.struct [.int .i64,.str,.int .i64,.int .i64,.int .i64]),.int .i64],[(.int .i64,[.undef,.undef])],fun _ ds k=>dL (fun x0 ds=>dI (fun x1 ds=>dE ((Z3 x0 x1).bind (fun y=>k 0 [.I y])) ds) ds) ds⟩
theorem q_Z3 (x0:List D) (x1:Int):runFn (ocOf []) (olOf [e_Z2]) A 7 Try.f7 (Sh.mks e_Z3.sh [.L x0,.I x1]).1 (fun v os=>some (v,os))=c_Z3 x0 x1 (fun y=>retO e_Z3 0 [.I y]):=by kernel_rfl
theorem e_Z3_ok:e_Z3.ok Try.prog A:=by
 intro R ds k r h
 unfold e_Z3 at h
 obtain ⟨_,_,rfl,h⟩:=dL_some h
 obtain ⟨_,_,rfl,h⟩:=dI_some h
 obtain ⟨rfl,hE⟩:=dE_some h
 obtain ⟨y,hy,hk⟩:=bnd_some hE
 exact ⟨0,_,_,_,hk,rfl,fn_ok px (fx:=⟨Try.func7,by kernel_rfl,by kernel_rfl⟩) entsOK_nil (lentsOK_cons e_Z2_ok lentsOK_nil) ((q_Z3 ..).trans ((c_Z3_bind ..).trans (bnd_to hy)))⟩

/-!-/
def c_Z4 {R:Type} (x0:Int) (x1:ByteArray) (x2 x3 x4:Int) (k:Int × ByteArray × Int × Int × Int→Option R):Option R:=
 k (x0,x1,x2,x3,x4)
theorem c_Z4_bind {R:Type} (x0:Int) (x1:ByteArray) (x2 x3 x4:Int) (k:Int × ByteArray × Int × Int × Int→Option R):c_Z4 x0 x1 x2 x3 x4 k=(c_Z4 x0 x1 x2 x3 x4 some).bind k:=by
 unfold c_Z4
 repeat' first|exact bnd_tail|exact bnd_none|exact bnd_leaf|apply bnd_ite|apply bnd_cond|apply bnd_sum|(apply bnd_bind;intro _)|intro _
def Z4 (x0:Int) (x1:ByteArray) (x2 x3 x4:Int):Option (Int × ByteArray × Int × Int × Int):=c_Z4 x0 x1 x2 x3 x4 some
def e_Z4:Ent:=⟨25,[.agg [.int .i64,.str,.int .i64,.int .i64,.int .i64]],[(.agg [.int .i64,.str,.int .i64,.int .i64,.int .i64],[.undef])],fun _ ds k=>dI (fun x0 ds=>dS (fun x1 ds=>dI (fun x2 ds=>dI (fun x3 ds=>dI (fun x4 ds=>dE ((Z4 x0 x1 x2 x3 x4).bind (fun y=>k 0 [.I y.1,.S y.2.1,.I y.2.2.1,.I y.2.2.2.1,.I y.2.2.2.2])) ds) ds) ds) ds) ds) ds⟩
theorem q_Z4 (x0:Int) (x1:ByteArray) (x2 x3 x4:Int):runFn (ocOf []) (olOf []) A 25 Try.f25 (Sh.mks e_Z4.sh [.I x0,.S x1,.I x2,.I x3,.I x4]).1 (fun v os=>some (v,os))=c_Z4 x0 x1 x2 x3 x4 (fun y=>retO e_Z4 0 [.I y.1,.S y.2.1,.I y.2.2.1,.I y.2.2.2.1,.I y.2.2.2.2]):=by kernel_rfl
theorem e_Z4_ok:e_Z4.ok Try.prog A:=by
 intro R ds k r h
 unfold e_Z4 at h
 obtain ⟨_,_,rfl,h⟩:=dI_some h
 obtain ⟨_,_,rfl,h⟩:=dS_some h
 obtain ⟨_,_,rfl,h⟩:=dI_some h
 obtain ⟨_,_,rfl,h⟩:=dI_some h
 obtain ⟨_,_,rfl,h⟩:=dI_some h
 obtain ⟨rfl,hE⟩:=dE_some h
 obtain ⟨y,hy,hk⟩:=bnd_some hE
 exact ⟨0,_,_,_,hk,rfl,fn_ok px (fx:=⟨Try.func25,by kernel_rfl,by kernel_rfl⟩) entsOK_nil lentsOK_nil ((q_Z4 ..).trans ((c_Z4_bind ..).trans (bnd_to hy)))⟩

/-!-/
abbrev T_Z5:=List D→Int→List D→Option (List D)
def c_Z5 {R:Type} (F:T_Z5) (x0:List D) (x1:Int) (x2:List D) (k:List D→Option R):Option R:=
 bif decide (x1<(↑x0.length:Int)) then
 if 0≤x1∧x1<(↑x0.length:Int) then
 (Z4 (((x0.getD x1.toNat (D.int 0)).fld (0:Nat)).toInt) (((x0.getD x1.toNat (D.int 0)).fld (1:Nat)).toStr) (((x0.getD x1.toNat (D.int 0)).fld (2:Nat)).toInt) (((x0.getD x1.toNat (D.int 0)).fld (3:Nat)).toInt) (((x0.getD x1.toNat (D.int 0)).fld (4:Nat)).toInt)).bind (fun y0=>
 if 0≤x1∧x1<(↑x2.length:Int) then
 if x1.toNat + 1≤x2.length then
 (F x0 (IntKind.i64.wrap (x1 + 1)) (x2.set x1.toNat (D.node [D.int y0.fst,D.str y0.snd.fst,D.int y0.snd.snd.fst,D.int y0.snd.snd.snd.fst,D.int y0.snd.snd.snd.snd]))).bind k
 else
 none
 else
 none)
 else
 none
 else
 k x2
theorem c_Z5_bind {R:Type} (F:T_Z5) (x0:List D) (x1:Int) (x2:List D) (k:List D→Option R):c_Z5 F x0 x1 x2 k=(c_Z5 F x0 x1 x2 some).bind k:=by
 unfold c_Z5
 repeat' first|exact bnd_tail|exact bnd_none|exact bnd_leaf|apply bnd_ite|apply bnd_cond|apply bnd_sum|(apply bnd_bind;intro _)|intro _
def n_Z5:Nat→T_Z5
 | 0,_,_,_=>none
 | n + 1,x0,x1,x2=>c_Z5 (n_Z5 n) x0 x1 x2 some
noncomputable def Z5 (x0:List D) (x1:Int) (x2:List D):Option (List D):=ev (fun n=>n_Z5 n x0 x1 x2)
def m_Z5 (F:T_Z5):Lent:=⟨3,⟨(.rd (.struct [.int .i64,.str,.int .i64,.int .i64,.int .i64]) :: .undef :: .undef :: .full 1000 [] (.struct [.int .i64,.str,.int .i64,.int .i64,.int .i64]) :: .int .i64 :: uu 18 ([])),[(1000,.own (.struct [.int .i64,.str,.int .i64,.int .i64,.int .i64]))]⟩,[(.exit 0,⟨(.undef :: .undef :: .undef :: .full 1000 [] (.struct [.int .i64,.str,.int .i64,.int .i64,.int .i64]) :: uu 19 ([])),[(1000,.own (.struct [.int .i64,.str,.int .i64,.int .i64,.int .i64]))]⟩)],fun _ ds k=>dL (fun x0 ds=>dI (fun x1 ds=>dL (fun x2 ds=>dE ((F x0 x1 x2).bind (fun y=>k 0 [.L y])) ds) ds) ds) ds⟩
theorem q_Z5 (F:T_Z5) (x0:List D) (x1:Int) (x2:List D):runLoop (ocOf [e_Z4]) (olOf [m_Z5 F]) A 9 (codeAt (bodyOf Try.f9) 3) ((m_Z5 F).sh.mk' [.L x0,.I x1,.L x2]) (fun e σ'=>some (e,σ'))=c_Z5 F x0 x1 x2 (fun y=>some (.exit 0,SSt.mk' ⟨(.undef :: .undef :: .undef :: .full 1000 [] (.struct [.int .i64,.str,.int .i64,.int .i64,.int .i64]) :: uu 19 ([])),[(1000,.own (.struct [.int .i64,.str,.int .i64,.int .i64,.int .i64]))]⟩ [.L y])):=by kernel_rfl
theorem m_Z5_ok:∀ n,(m_Z5 (n_Z5 n)).ok Try.prog (codeAt (bodyOf Try.f9) 3):=by
 intro n
 induction n with
 | zero=>
  intro R ds k r h
  unfold m_Z5 at h
  obtain ⟨_,_,rfl,h⟩:=dL_some h
  obtain ⟨_,_,rfl,h⟩:=dI_some h
  obtain ⟨_,_,rfl,h⟩:=dL_some h
  obtain ⟨rfl,hE⟩:=dE_some h
  obtain ⟨y,hy,hk⟩:=bnd_some hE
  cases hy
 | succ n ih=>
  intro R ds k r h
  unfold m_Z5 at h
  obtain ⟨_,_,rfl,h⟩:=dL_some h
  obtain ⟨_,_,rfl,h⟩:=dI_some h
  obtain ⟨_,_,rfl,h⟩:=dL_some h
  obtain ⟨rfl,hE⟩:=dE_some h
  obtain ⟨y,hy,hk⟩:=bnd_some hE
  exact ⟨0,_,_,_,hk,rfl,loop_ok px (fx:=⟨Try.func9,by kernel_rfl,by kernel_rfl⟩) (entsOK_cons e_Z4_ok entsOK_nil) (lentsOK_cons ih lentsOK_nil) (by kernel_rfl) ((q_Z5 ..).trans ((c_Z5_bind ..).trans (bnd_to hy)))⟩
noncomputable def e_Z5:Lent:=m_Z5 (Z5)
theorem e_Z5_ok:(e_Z5).ok Try.prog (codeAt (bodyOf Try.f9) 3):=by
 intro R ds k r h
 unfold e_Z5 m_Z5 at h
 obtain ⟨_,_,rfl,h⟩:=dL_some h
 obtain ⟨_,_,rfl,h⟩:=dI_some h
 obtain ⟨_,_,rfl,h⟩:=dL_some h
 obtain ⟨rfl,hE⟩:=dE_some h
 obtain ⟨y,hy,hk⟩:=bnd_some hE
 obtain ⟨n,hn⟩:=ev_some hy
 exact m_Z5_ok n R _ k r ((bnd_to hn).trans hk)

/-!-/
def c_Z6 {R:Type} (x0:List D) (k:List D→Option R):Option R:=
 if (0:Int)≤(↑x0.length:Int)∧(↑x0.length:Int)≤(↑x0.length:Int)∧(↑x0.length:Int)≤(4294967296:Int) then
 (Z5 x0 (0:Int) (List.replicate (↑x0.length:Int).toNat (D.node [D.int 0,D.str bytes_0,D.int 0,D.int 0,D.int 0]))).bind (fun y0=>
 k y0)
 else
 none
theorem c_Z6_bind {R:Type} (x0:List D) (k:List D→Option R):c_Z6 x0 k=(c_Z6 x0 some).bind k:=by
 unfold c_Z6
 repeat' first|exact bnd_tail|exact bnd_none|exact bnd_leaf|apply bnd_ite|apply bnd_cond|apply bnd_sum|(apply bnd_bind;intro _)|intro _
def Z6 (x0:List D):Option (List D):=c_Z6 x0 some
def e_Z6:Ent:=⟨9,[.rd (.struct [.int .i64,.str,.int .i64,.int .i64,.int .i64])],[(.own (.struct [.int .i64,.str,.int .i64,.int .i64,.int .i64]),[.undef])],fun _ ds k=>dL (fun x0 ds=>dE ((Z6 x0).bind (fun y=>k 0 [.L y])) ds) ds⟩
theorem q_Z6 (x0:List D):runFn (ocOf []) (olOf [e_Z5]) A 9 Try.f9 (Sh.mks e_Z6.sh [.L x0]).1 (fun v os=>some (v,os))=c_Z6 x0 (fun y=>retO e_Z6 0 [.L y]):=by kernel_rfl
theorem e_Z6_ok:e_Z6.ok Try.prog A:=by
 intro R ds k r h
 unfold e_Z6 at h
 obtain ⟨_,_,rfl,h⟩:=dL_some h
 obtain ⟨rfl,hE⟩:=dE_some h
 obtain ⟨y,hy,hk⟩:=bnd_some hE
 exact ⟨0,_,_,_,hk,rfl,fn_ok px (fx:=⟨Try.func9,by kernel_rfl,by kernel_rfl⟩) entsOK_nil (lentsOK_cons e_Z5_ok lentsOK_nil) ((q_Z6 ..).trans ((c_Z6_bind ..).trans (bnd_to hy)))⟩

/-!-/
def c_Z7 {R:Type} (x0 x1 x2:Int) (k:Bool→Option R):Option R:=
 bif decide (x1≤x0) then
 k (decide (x0≤x2))
 else
 k Bool.false
theorem c_Z7_bind {R:Type} (x0 x1 x2:Int) (k:Bool→Option R):c_Z7 x0 x1 x2 k=(c_Z7 x0 x1 x2 some).bind k:=by
 unfold c_Z7
 repeat' first|exact bnd_tail|exact bnd_none|exact bnd_leaf|apply bnd_ite|apply bnd_cond|apply bnd_sum|(apply bnd_bind;intro _)|intro _
def Z7 (x0 x1 x2:Int):Option (Bool):=c_Z7 x0 x1 x2 some
def e_Z7:Ent:=⟨35,[.int .i64,.int .i64,.int .i64],[(.bool,[.undef,.undef,.undef])],fun _ ds k=>dI (fun x0 ds=>dI (fun x1 ds=>dI (fun x2 ds=>dE ((Z7 x0 x1 x2).bind (fun y=>k 0 [.B y])) ds) ds) ds) ds⟩
theorem q_Z7 (x0 x1 x2:Int):runFn (ocOf []) (olOf []) A 35 Try.f35 (Sh.mks e_Z7.sh [.I x0,.I x1,.I x2]).1 (fun v os=>some (v,os))=c_Z7 x0 x1 x2 (fun y=>retO e_Z7 0 [.B y]):=by kernel_rfl
theorem e_Z7_ok:e_Z7.ok Try.prog A:=by
 intro R ds k r h
 unfold e_Z7 at h
 obtain ⟨_,_,rfl,h⟩:=dI_some h
 obtain ⟨_,_,rfl,h⟩:=dI_some h
 obtain ⟨_,_,rfl,h⟩:=dI_some h
 obtain ⟨rfl,hE⟩:=dE_some h
 obtain ⟨y,hy,hk⟩:=bnd_some hE
 exact ⟨0,_,_,_,hk,rfl,fn_ok px (fx:=⟨Try.func35,by kernel_rfl,by kernel_rfl⟩) entsOK_nil lentsOK_nil ((q_Z7 ..).trans ((c_Z7_bind ..).trans (bnd_to hy)))⟩

/-!-/
abbrev T_Z8:=ByteArray→Int→Option ((Bool) ⊕ (Unit))
def c_Z8 {R:Type} (F:T_Z8) (x0:ByteArray) (x1:Int) (k:(Bool) ⊕ (Unit)→Option R):Option R:=
 bif decide (x1<(↑x0.size:Int)) then
 if 0≤x1∧x1<(↑x0.size:Int) then
 bif decide ((↑(x0.data.toList.getD x1.toNat (0:UInt8)).toNat:Int)<(97:Int)) then
 if 0≤x1∧x1<(↑x0.size:Int) then
 bif decide ((↑(x0.data.toList.getD x1.toNat (0:UInt8)).toNat:Int)<(48:Int)) then
 k (.inl Bool.false)
 else
 if 0≤x1∧x1<(↑x0.size:Int) then
 bif decide ((57:Int)<(↑(x0.data.toList.getD x1.toNat (0:UInt8)).toNat:Int)) then
 k (.inl Bool.false)
 else
 (F x0 (IntKind.i64.wrap (x1 + 1))).bind k
 else
 none
 else
 none
 else
 if 0≤x1∧x1<(↑x0.size:Int) then
 bif decide ((122:Int)<(↑(x0.data.toList.getD x1.toNat (0:UInt8)).toNat:Int)) then
 if 0≤x1∧x1<(↑x0.size:Int) then
 bif decide ((↑(x0.data.toList.getD x1.toNat (0:UInt8)).toNat:Int)<(48:Int)) then
 k (.inl Bool.false)
 else
 if 0≤x1∧x1<(↑x0.size:Int) then
 bif decide ((57:Int)<(↑(x0.data.toList.getD x1.toNat (0:UInt8)).toNat:Int)) then
 k (.inl Bool.false)
 else
 (F x0 (IntKind.i64.wrap (x1 + 1))).bind k
 else
 none
 else
 none
 else
 (F x0 (IntKind.i64.wrap (x1 + 1))).bind k
 else
 none
 else
 none
 else
 k (.inr ())
theorem c_Z8_bind {R:Type} (F:T_Z8) (x0:ByteArray) (x1:Int) (k:(Bool) ⊕ (Unit)→Option R):c_Z8 F x0 x1 k=(c_Z8 F x0 x1 some).bind k:=by
 unfold c_Z8
 repeat' first|exact bnd_tail|exact bnd_none|exact bnd_leaf|apply bnd_ite|apply bnd_cond|apply bnd_sum|(apply bnd_bind;intro _)|intro _
def n_Z8:Nat→T_Z8
 | 0,_,_=>none
 | n + 1,x0,x1=>c_Z8 (n_Z8 n) x0 x1 some
noncomputable def Z8 (x0:ByteArray) (x1:Int):Option ((Bool) ⊕ (Unit)):=ev (fun n=>n_Z8 n x0 x1)
def m_Z8 (F:T_Z8):Lent:=⟨4,⟨(.str :: .undef :: .undef :: .int .i64 :: uu 42 ([])),[]⟩,[(.ret,⟨(.undef :: .undef :: .bool :: uu 43 ([])),[]⟩),(.exit 0,⟨(uu 46 ([])),[]⟩)],fun _ ds k=>dS (fun x0 ds=>dI (fun x1 ds=>dE ((F x0 x1).bind (Sum.elim (fun y=>k 0 [.B y]) (fun y=>k 1 []))) ds) ds) ds⟩
theorem q_Z8 (F:T_Z8) (x0:ByteArray) (x1:Int):runLoop (ocOf []) (olOf [m_Z8 F]) A 62 (codeAt (bodyOf Try.f62) 4) ((m_Z8 F).sh.mk' [.S x0,.I x1]) (fun e σ'=>some (e,σ'))=c_Z8 F x0 x1 (Sum.elim (fun y=>some (.ret,SSt.mk' ⟨(.undef :: .undef :: .bool :: uu 43 ([])),[]⟩ [.B y])) (fun y=>some (.exit 0,SSt.mk' ⟨(uu 46 ([])),[]⟩ []))):=by kernel_rfl
theorem m_Z8_ok:∀ n,(m_Z8 (n_Z8 n)).ok Try.prog (codeAt (bodyOf Try.f62) 4):=by
 intro n
 induction n with
 | zero=>
  intro R ds k r h
  unfold m_Z8 at h
  obtain ⟨_,_,rfl,h⟩:=dS_some h
  obtain ⟨_,_,rfl,h⟩:=dI_some h
  obtain ⟨rfl,hE⟩:=dE_some h
  obtain ⟨y,hy,hk⟩:=bnd_some hE
  cases hy
 | succ n ih=>
  intro R ds k r h
  unfold m_Z8 at h
  obtain ⟨_,_,rfl,h⟩:=dS_some h
  obtain ⟨_,_,rfl,h⟩:=dI_some h
  obtain ⟨rfl,hE⟩:=dE_some h
  obtain ⟨y,hy,hk⟩:=bnd_some hE
  cases y with
  | inl y=>
   exact ⟨0,_,_,_,hk,rfl,loop_ok px (fx:=⟨Try.func62,by kernel_rfl,by kernel_rfl⟩) entsOK_nil (lentsOK_cons ih lentsOK_nil) (by kernel_rfl) ((q_Z8 ..).trans ((c_Z8_bind ..).trans (bnd_to hy)))⟩
  | inr y=>
   exact ⟨1,_,_,_,hk,rfl,loop_ok px (fx:=⟨Try.func62,by kernel_rfl,by kernel_rfl⟩) entsOK_nil (lentsOK_cons ih lentsOK_nil) (by kernel_rfl) ((q_Z8 ..).trans ((c_Z8_bind ..).trans (bnd_to hy)))⟩
noncomputable def e_Z8:Lent:=m_Z8 (Z8)
theorem e_Z8_ok:(e_Z8).ok Try.prog (codeAt (bodyOf Try.f62) 4):=by
 intro R ds k r h
 unfold e_Z8 m_Z8 at h
 obtain ⟨_,_,rfl,h⟩:=dS_some h
 obtain ⟨_,_,rfl,h⟩:=dI_some h
 obtain ⟨rfl,hE⟩:=dE_some h
 obtain ⟨y,hy,hk⟩:=bnd_some hE
 obtain ⟨n,hn⟩:=ev_some hy
 exact m_Z8_ok n R _ k r ((bnd_to hn).trans hk)

/-!-/
def c_Z9 {R:Type} (x0:ByteArray) (k:Bool→Option R):Option R:=
 (Z7 (↑x0.size:Int) (1:Int) (8:Int)).bind (fun y0=>
 bif !y0 then
 k Bool.false
 else
 if (0:Int)≤(0:Int)∧(0:Int)<(↑x0.size:Int) then
 bif decide ((↑(x0.data.toList.getD (Int.toNat (0:Int)) (0:UInt8)).toNat:Int)<(97:Int)) then
 k Bool.false
 else
 if (0:Int)≤(0:Int)∧(0:Int)<(↑x0.size:Int) then
 bif decide ((122:Int)<(↑(x0.data.toList.getD (Int.toNat (0:Int)) (0:UInt8)).toNat:Int)) then
 k Bool.false
 else
 (Z8 x0 (0:Int)).bind (Sum.elim (fun y1=>
 k y1) (fun y2=>
 k Bool.true))
 else
 none
 else
 none)
theorem c_Z9_bind {R:Type} (x0:ByteArray) (k:Bool→Option R):c_Z9 x0 k=(c_Z9 x0 some).bind k:=by
 unfold c_Z9
 repeat' first|exact bnd_tail|exact bnd_none|exact bnd_leaf|apply bnd_ite|apply bnd_cond|apply bnd_sum|(apply bnd_bind;intro _)|intro _
def Z9 (x0:ByteArray):Option (Bool):=c_Z9 x0 some
def e_Z9:Ent:=⟨62,[.str],[(.bool,[.undef])],fun _ ds k=>dS (fun x0 ds=>dE ((Z9 x0).bind (fun y=>k 0 [.B y])) ds) ds⟩
theorem q_Z9 (x0:ByteArray):runFn (ocOf [e_Z7]) (olOf [e_Z8]) A 62 Try.f62 (Sh.mks e_Z9.sh [.S x0]).1 (fun v os=>some (v,os))=c_Z9 x0 (fun y=>retO e_Z9 0 [.B y]):=by kernel_rfl
theorem e_Z9_ok:e_Z9.ok Try.prog A:=by
 intro R ds k r h
 unfold e_Z9 at h
 obtain ⟨_,_,rfl,h⟩:=dS_some h
 obtain ⟨rfl,hE⟩:=dE_some h
 obtain ⟨y,hy,hk⟩:=bnd_some hE
 exact ⟨0,_,_,_,hk,rfl,fn_ok px (fx:=⟨Try.func62,by kernel_rfl,by kernel_rfl⟩) (entsOK_cons e_Z7_ok entsOK_nil) (lentsOK_cons e_Z8_ok lentsOK_nil) ((q_Z9 ..).trans ((c_Z9_bind ..).trans (bnd_to hy)))⟩

/-!-/
def c_Z10 {R:Type} (x0:Int) (x1:ByteArray) (x2 x3 x4:Int) (k:Bool→Option R):Option R:=
 (Z7 x0 (1:Int) (999:Int)).bind (fun y0=>
 bif y0 then
 (Z9 x1).bind (fun y1=>
 bif y1 then
 (Z7 x2 (1:Int) (10000:Int)).bind (fun y2=>
 bif y2 then
 (Z7 x3 (0:Int) (1000000:Int)).bind (fun y3=>
 bif y3 then
 (Z7 x4 (0:Int) (IntKind.i64.wrap ((100:Int) * x2))).bind (fun y4=>
 k y4)
 else
 k Bool.false)
 else
 k Bool.false)
 else
 k Bool.false)
 else
 k Bool.false)
theorem c_Z10_bind {R:Type} (x0:Int) (x1:ByteArray) (x2 x3 x4:Int) (k:Bool→Option R):c_Z10 x0 x1 x2 x3 x4 k=(c_Z10 x0 x1 x2 x3 x4 some).bind k:=by
 unfold c_Z10
 repeat' first|exact bnd_tail|exact bnd_none|exact bnd_leaf|apply bnd_ite|apply bnd_cond|apply bnd_sum|(apply bnd_bind;intro _)|intro _
def Z10 (x0:Int) (x1:ByteArray) (x2 x3 x4:Int):Option (Bool):=c_Z10 x0 x1 x2 x3 x4 some
def e_Z10:Ent:=⟨45,[.agg [.int .i64,.str,.int .i64,.int .i64,.int .i64]],[(.bool,[.undef])],fun _ ds k=>dI (fun x0 ds=>dS (fun x1 ds=>dI (fun x2 ds=>dI (fun x3 ds=>dI (fun x4 ds=>dE ((Z10 x0 x1 x2 x3 x4).bind (fun y=>k 0 [.B y])) ds) ds) ds) ds) ds) ds⟩
theorem q_Z10 (x0:Int) (x1:ByteArray) (x2 x3 x4:Int):runFn (ocOf [e_Z7,e_Z9]) (olOf []) A 45 Try.f45 (Sh.mks e_Z10.sh [.I x0,.S x1,.I x2,.I x3,.I x4]).1 (fun v os=>some (v,os))=c_Z10 x0 x1 x2 x3 x4 (fun y=>retO e_Z10 0 [.B y]):=by kernel_rfl
theorem e_Z10_ok:e_Z10.ok Try.prog A:=by
 intro R ds k r h
 unfold e_Z10 at h
 obtain ⟨_,_,rfl,h⟩:=dI_some h
 obtain ⟨_,_,rfl,h⟩:=dS_some h
 obtain ⟨_,_,rfl,h⟩:=dI_some h
 obtain ⟨_,_,rfl,h⟩:=dI_some h
 obtain ⟨_,_,rfl,h⟩:=dI_some h
 obtain ⟨rfl,hE⟩:=dE_some h
 obtain ⟨y,hy,hk⟩:=bnd_some hE
 exact ⟨0,_,_,_,hk,rfl,fn_ok px (fx:=⟨Try.func45,by kernel_rfl,by kernel_rfl⟩) (entsOK_cons e_Z7_ok (entsOK_cons e_Z9_ok entsOK_nil)) lentsOK_nil ((q_Z10 ..).trans ((c_Z10_bind ..).trans (bnd_to hy)))⟩

/-!-/
def c_Z11 {R:Type} (x0:Int) (x1:ByteArray) (x2 x3 x4 x5:Int) (x6:ByteArray) (x7 x8 x9:Int) (k:Bool→Option R):Option R:=
 bif decide (x0<x5) then
 k Bool.true
 else
 bif decide (x0=x5) then
 k (Go.Op.bytesLess x1.toList x6.toList)
 else
 k Bool.false
theorem c_Z11_bind {R:Type} (x0:Int) (x1:ByteArray) (x2 x3 x4 x5:Int) (x6:ByteArray) (x7 x8 x9:Int) (k:Bool→Option R):c_Z11 x0 x1 x2 x3 x4 x5 x6 x7 x8 x9 k=(c_Z11 x0 x1 x2 x3 x4 x5 x6 x7 x8 x9 some).bind k:=by
 unfold c_Z11
 repeat' first|exact bnd_tail|exact bnd_none|exact bnd_leaf|apply bnd_ite|apply bnd_cond|apply bnd_sum|(apply bnd_bind;intro _)|intro _
def Z11 (x0:Int) (x1:ByteArray) (x2 x3 x4 x5:Int) (x6:ByteArray) (x7 x8 x9:Int):Option (Bool):=c_Z11 x0 x1 x2 x3 x4 x5 x6 x7 x8 x9 some
def e_Z11:Ent:=⟨46,[.agg [.int .i64,.str,.int .i64,.int .i64,.int .i64],.agg [.int .i64,.str,.int .i64,.int .i64,.int .i64]],[(.bool,[.undef,.undef])],fun _ ds k=>dI (fun x0 ds=>dS (fun x1 ds=>dI (fun x2 ds=>dI (fun x3 ds=>dI (fun x4 ds=>dI (fun x5 ds=>dS (fun x6 ds=>dI (fun x7 ds=>dI (fun x8 ds=>dI (fun x9 ds=>dE ((Z11 x0 x1 x2 x3 x4 x5 x6 x7 x8 x9).bind (fun y=>k 0 [.B y])) ds) ds) ds) ds) ds) ds) ds) ds) ds) ds) ds⟩
theorem q_Z11 (x0:Int) (x1:ByteArray) (x2 x3 x4 x5:Int) (x6:ByteArray) (x7 x8 x9:Int):runFn (ocOf []) (olOf []) A 46 Try.f46 (Sh.mks e_Z11.sh [.I x0,.S x1,.I x2,.I x3,.I x4,.I x5,.S x6,.I x7,.I x8,.I x9]).1 (fun v os=>some (v,os))=c_Z11 x0 x1 x2 x3 x4 x5 x6 x7 x8 x9 (fun y=>retO e_Z11 0 [.B y]):=by kernel_rfl
theorem e_Z11_ok:e_Z11.ok Try.prog A:=by
 intro R ds k r h
 unfold e_Z11 at h
 obtain ⟨_,_,rfl,h⟩:=dI_some h
 obtain ⟨_,_,rfl,h⟩:=dS_some h
 obtain ⟨_,_,rfl,h⟩:=dI_some h
 obtain ⟨_,_,rfl,h⟩:=dI_some h
 obtain ⟨_,_,rfl,h⟩:=dI_some h
 obtain ⟨_,_,rfl,h⟩:=dI_some h
 obtain ⟨_,_,rfl,h⟩:=dS_some h
 obtain ⟨_,_,rfl,h⟩:=dI_some h
 obtain ⟨_,_,rfl,h⟩:=dI_some h
 obtain ⟨_,_,rfl,h⟩:=dI_some h
 obtain ⟨rfl,hE⟩:=dE_some h
 obtain ⟨y,hy,hk⟩:=bnd_some hE
 exact ⟨0,_,_,_,hk,rfl,fn_ok px (fx:=⟨Try.func46,by kernel_rfl,by kernel_rfl⟩) entsOK_nil lentsOK_nil ((q_Z11 ..).trans ((c_Z11_bind ..).trans (bnd_to hy)))⟩

/-!-/
abbrev T_Z12:=List D→Int→Option ((List D × Bool) ⊕ (List D))
def c_Z12 {R:Type} (F:T_Z12) (x0:List D) (x1:Int) (k:(List D × Bool) ⊕ (List D)→Option R):Option R:=
 bif decide (x1<(↑x0.length:Int)) then
 bif decide (x1≤(30:Int)) then
 if 0≤x1∧x1<(↑x0.length:Int) then
 (Z10 (((x0.getD x1.toNat (D.int 0)).fld (0:Nat)).toInt) (((x0.getD x1.toNat (D.int 0)).fld (1:Nat)).toStr) (((x0.getD x1.toNat (D.int 0)).fld (2:Nat)).toInt) (((x0.getD x1.toNat (D.int 0)).fld (3:Nat)).toInt) (((x0.getD x1.toNat (D.int 0)).fld (4:Nat)).toInt)).bind (fun y0=>
 bif !y0 then
 k (.inl (x0,Bool.false))
 else
 bif decide ((0:Int)<x1) then
 if (0:Int)≤IntKind.i64.wrap (x1 - 1)∧IntKind.i64.wrap (x1 - 1)<(↑x0.length:Int) then
 if 0≤x1∧x1<(↑x0.length:Int) then
 (Z11 (((x0.getD (IntKind.i64.wrap (x1 - 1)).toNat (D.int 0)).fld (0:Nat)).toInt) (((x0.getD (IntKind.i64.wrap (x1 - 1)).toNat (D.int 0)).fld (1:Nat)).toStr) (((x0.getD (IntKind.i64.wrap (x1 - 1)).toNat (D.int 0)).fld (2:Nat)).toInt) (((x0.getD (IntKind.i64.wrap (x1 - 1)).toNat (D.int 0)).fld (3:Nat)).toInt) (((x0.getD (IntKind.i64.wrap (x1 - 1)).toNat (D.int 0)).fld (4:Nat)).toInt) (((x0.getD x1.toNat (D.int 0)).fld (0:Nat)).toInt) (((x0.getD x1.toNat (D.int 0)).fld (1:Nat)).toStr) (((x0.getD x1.toNat (D.int 0)).fld (2:Nat)).toInt) (((x0.getD x1.toNat (D.int 0)).fld (3:Nat)).toInt) (((x0.getD x1.toNat (D.int 0)).fld (4:Nat)).toInt)).bind (fun y1=>
 bif !y1 then
 k (.inl (x0,Bool.false))
 else
 (F x0 (IntKind.i64.wrap (x1 + 1))).bind k)
 else
 none
 else
 none
 else
 (F x0 (IntKind.i64.wrap (x1 + 1))).bind k)
 else
 none
 else
 k (.inr x0)
 else
 k (.inr x0)
theorem c_Z12_bind {R:Type} (F:T_Z12) (x0:List D) (x1:Int) (k:(List D × Bool) ⊕ (List D)→Option R):c_Z12 F x0 x1 k=(c_Z12 F x0 x1 some).bind k:=by
 unfold c_Z12
 repeat' first|exact bnd_tail|exact bnd_none|exact bnd_leaf|apply bnd_ite|apply bnd_cond|apply bnd_sum|(apply bnd_bind;intro _)|intro _
def n_Z12:Nat→T_Z12
 | 0,_,_=>none
 | n + 1,x0,x1=>c_Z12 (n_Z12 n) x0 x1 some
noncomputable def Z12 (x0:List D) (x1:Int):Option ((List D × Bool) ⊕ (List D)):=ev (fun n=>n_Z12 n x0 x1)
def m_Z12 (F:T_Z12):Lent:=⟨2,⟨(.rd (.struct [.int .i64,.str,.int .i64,.int .i64,.int .i64]) :: .undef :: .undef :: .int .i64 :: uu 36 ([])),[]⟩,[(.ret,⟨(.rd (.struct [.int .i64,.str,.int .i64,.int .i64,.int .i64]) :: .undef :: .bool :: uu 37 ([])),[]⟩),(.exit 0,⟨(.rd (.struct [.int .i64,.str,.int .i64,.int .i64,.int .i64]) :: uu 39 ([])),[]⟩)],fun _ ds k=>dL (fun x0 ds=>dI (fun x1 ds=>dE ((F x0 x1).bind (Sum.elim (fun y=>k 0 [.L y.1,.B y.2]) (fun y=>k 1 [.L y]))) ds) ds) ds⟩
theorem q_Z12 (F:T_Z12) (x0:List D) (x1:Int):runLoop (ocOf [e_Z10,e_Z11]) (olOf [m_Z12 F]) A 28 (codeAt (bodyOf Try.f28) 2) ((m_Z12 F).sh.mk' [.L x0,.I x1]) (fun e σ'=>some (e,σ'))=c_Z12 F x0 x1 (Sum.elim (fun y=>some (.ret,SSt.mk' ⟨(.rd (.struct [.int .i64,.str,.int .i64,.int .i64,.int .i64]) :: .undef :: .bool :: uu 37 ([])),[]⟩ [.L y.1,.B y.2])) (fun y=>some (.exit 0,SSt.mk' ⟨(.rd (.struct [.int .i64,.str,.int .i64,.int .i64,.int .i64]) :: uu 39 ([])),[]⟩ [.L y]))):=by kernel_rfl
theorem m_Z12_ok:∀ n,(m_Z12 (n_Z12 n)).ok Try.prog (codeAt (bodyOf Try.f28) 2):=by
 intro n
 induction n with
 | zero=>
  intro R ds k r h
  unfold m_Z12 at h
  obtain ⟨_,_,rfl,h⟩:=dL_some h
  obtain ⟨_,_,rfl,h⟩:=dI_some h
  obtain ⟨rfl,hE⟩:=dE_some h
  obtain ⟨y,hy,hk⟩:=bnd_some hE
  cases hy
 | succ n ih=>
  intro R ds k r h
  unfold m_Z12 at h
  obtain ⟨_,_,rfl,h⟩:=dL_some h
  obtain ⟨_,_,rfl,h⟩:=dI_some h
  obtain ⟨rfl,hE⟩:=dE_some h
  obtain ⟨y,hy,hk⟩:=bnd_some hE
  cases y with
  | inl y=>
   exact ⟨0,_,_,_,hk,rfl,loop_ok px (fx:=⟨Try.func28,by kernel_rfl,by kernel_rfl⟩) (entsOK_cons e_Z10_ok (entsOK_cons e_Z11_ok entsOK_nil)) (lentsOK_cons ih lentsOK_nil) (by kernel_rfl) ((q_Z12 ..).trans ((c_Z12_bind ..).trans (bnd_to hy)))⟩
  | inr y=>
   exact ⟨1,_,_,_,hk,rfl,loop_ok px (fx:=⟨Try.func28,by kernel_rfl,by kernel_rfl⟩) (entsOK_cons e_Z10_ok (entsOK_cons e_Z11_ok entsOK_nil)) (lentsOK_cons ih lentsOK_nil) (by kernel_rfl) ((q_Z12 ..).trans ((c_Z12_bind ..).trans (bnd_to hy)))⟩
noncomputable def e_Z12:Lent:=m_Z12 (Z12)
theorem e_Z12_ok:(e_Z12).ok Try.prog (codeAt (bodyOf Try.f28) 2):=by
 intro R ds k r h
 unfold e_Z12 m_Z12 at h
 obtain ⟨_,_,rfl,h⟩:=dL_some h
 obtain ⟨_,_,rfl,h⟩:=dI_some h
 obtain ⟨rfl,hE⟩:=dE_some h
 obtain ⟨y,hy,hk⟩:=bnd_some hE
 obtain ⟨n,hn⟩:=ev_some hy
 exact m_Z12_ok n R _ k r ((bnd_to hn).trans hk)

/-!-/
def c_Z13 {R:Type} (x0:List D) (k:Bool→Option R):Option R:=
 (Z12 x0 (0:Int)).bind (Sum.elim (fun y0=>
 k y0.snd) (fun y1=>
 k (decide ((↑y1.length:Int)≤(30:Int)))))
theorem c_Z13_bind {R:Type} (x0:List D) (k:Bool→Option R):c_Z13 x0 k=(c_Z13 x0 some).bind k:=by
 unfold c_Z13
 repeat' first|exact bnd_tail|exact bnd_none|exact bnd_leaf|apply bnd_ite|apply bnd_cond|apply bnd_sum|(apply bnd_bind;intro _)|intro _
def Z13 (x0:List D):Option (Bool):=c_Z13 x0 some
def e_Z13:Ent:=⟨28,[.rd (.struct [.int .i64,.str,.int .i64,.int .i64,.int .i64])],[(.bool,[.undef])],fun _ ds k=>dL (fun x0 ds=>dE ((Z13 x0).bind (fun y=>k 0 [.B y])) ds) ds⟩
theorem q_Z13 (x0:List D):runFn (ocOf []) (olOf [e_Z12]) A 28 Try.f28 (Sh.mks e_Z13.sh [.L x0]).1 (fun v os=>some (v,os))=c_Z13 x0 (fun y=>retO e_Z13 0 [.B y]):=by kernel_rfl
theorem e_Z13_ok:e_Z13.ok Try.prog A:=by
 intro R ds k r h
 unfold e_Z13 at h
 obtain ⟨_,_,rfl,h⟩:=dL_some h
 obtain ⟨rfl,hE⟩:=dE_some h
 obtain ⟨y,hy,hk⟩:=bnd_some hE
 exact ⟨0,_,_,_,hk,rfl,fn_ok px (fx:=⟨Try.func28,by kernel_rfl,by kernel_rfl⟩) entsOK_nil (lentsOK_cons e_Z12_ok lentsOK_nil) ((q_Z13 ..).trans ((c_Z13_bind ..).trans (bnd_to hy)))⟩

/-!-/
abbrev T_Z14:=ByteArray→Int→List D→Option (ByteArray × Int × List D)
def c_Z14 {R:Type} (F:T_Z14) (x0:ByteArray) (x1:Int) (x2:List D) (k:ByteArray × Int × List D→Option R):Option R:=
 bif decide (x1<(↑x2.length:Int)) then
 if 0≤x1∧x1<(↑x2.length:Int) then
 if x1.toNat + 1≤x2.length then
 bif Go.Op.bytesLess (x2.getD x1.toNat (D.int 0)).toStr.toList x0.toList then
 (F x0 (IntKind.i64.wrap (x1 + 1)) x2).bind k
 else
 k (x0,x1,x2)
 else
 none
 else
 none
 else
 k (x0,x1,x2)
theorem c_Z14_bind {R:Type} (F:T_Z14) (x0:ByteArray) (x1:Int) (x2:List D) (k:ByteArray × Int × List D→Option R):c_Z14 F x0 x1 x2 k=(c_Z14 F x0 x1 x2 some).bind k:=by
 unfold c_Z14
 repeat' first|exact bnd_tail|exact bnd_none|exact bnd_leaf|apply bnd_ite|apply bnd_cond|apply bnd_sum|(apply bnd_bind;intro _)|intro _
def n_Z14:Nat→T_Z14
 | 0,_,_,_=>none
 | n + 1,x0,x1,x2=>c_Z14 (n_Z14 n) x0 x1 x2 some
noncomputable def Z14 (x0:ByteArray) (x1:Int) (x2:List D):Option (ByteArray × Int × List D):=ev (fun n=>n_Z14 n x0 x1 x2)
def m_Z14 (F:T_Z14):Lent:=⟨2,⟨(.full 1000 [] (.str) :: .str :: .undef :: .undef :: .undef :: .int .i64 :: uu 39 ([])),[(1000,.own (.str))]⟩,[(.exit 0,⟨(.full 1000 [] (.str) :: .str :: .undef :: .undef :: .undef :: .int .i64 :: uu 39 ([])),[(1000,.own (.str))]⟩)],fun _ ds k=>dS (fun x0 ds=>dI (fun x1 ds=>dL (fun x2 ds=>dE ((F x0 x1 x2).bind (fun y=>k 0 [.S y.1,.I y.2.1,.L y.2.2])) ds) ds) ds) ds⟩
theorem q_Z14 (F:T_Z14) (x0:ByteArray) (x1:Int) (x2:List D):runLoop (ocOf []) (olOf [m_Z14 F]) A 36 (codeAt (bodyOf Try.f36) 2) ((m_Z14 F).sh.mk' [.S x0,.I x1,.L x2]) (fun e σ'=>some (e,σ'))=c_Z14 F x0 x1 x2 (fun y=>some (.exit 0,SSt.mk' ⟨(.full 1000 [] (.str) :: .str :: .undef :: .undef :: .undef :: .int .i64 :: uu 39 ([])),[(1000,.own (.str))]⟩ [.S y.1,.I y.2.1,.L y.2.2])):=by kernel_rfl
theorem m_Z14_ok:∀ n,(m_Z14 (n_Z14 n)).ok Try.prog (codeAt (bodyOf Try.f36) 2):=by
 intro n
 induction n with
 | zero=>
  intro R ds k r h
  unfold m_Z14 at h
  obtain ⟨_,_,rfl,h⟩:=dS_some h
  obtain ⟨_,_,rfl,h⟩:=dI_some h
  obtain ⟨_,_,rfl,h⟩:=dL_some h
  obtain ⟨rfl,hE⟩:=dE_some h
  obtain ⟨y,hy,hk⟩:=bnd_some hE
  cases hy
 | succ n ih=>
  intro R ds k r h
  unfold m_Z14 at h
  obtain ⟨_,_,rfl,h⟩:=dS_some h
  obtain ⟨_,_,rfl,h⟩:=dI_some h
  obtain ⟨_,_,rfl,h⟩:=dL_some h
  obtain ⟨rfl,hE⟩:=dE_some h
  obtain ⟨y,hy,hk⟩:=bnd_some hE
  exact ⟨0,_,_,_,hk,rfl,loop_ok px (fx:=⟨Try.func36,by kernel_rfl,by kernel_rfl⟩) entsOK_nil (lentsOK_cons ih lentsOK_nil) (by kernel_rfl) ((q_Z14 ..).trans ((c_Z14_bind ..).trans (bnd_to hy)))⟩
noncomputable def e_Z14:Lent:=m_Z14 (Z14)
theorem e_Z14_ok:(e_Z14).ok Try.prog (codeAt (bodyOf Try.f36) 2):=by
 intro R ds k r h
 unfold e_Z14 m_Z14 at h
 obtain ⟨_,_,rfl,h⟩:=dS_some h
 obtain ⟨_,_,rfl,h⟩:=dI_some h
 obtain ⟨_,_,rfl,h⟩:=dL_some h
 obtain ⟨rfl,hE⟩:=dE_some h
 obtain ⟨y,hy,hk⟩:=bnd_some hE
 obtain ⟨n,hn⟩:=ev_some hy
 exact m_Z14_ok n R _ k r ((bnd_to hn).trans hk)

/-!-/
def c_Z15 {R:Type} (x0:List D) (x1:ByteArray) (k:List D→Option R):Option R:=
 (Z14 x1 (0:Int) x0).bind (fun y0=>
 bif decide (y0.snd.fst<(↑y0.snd.snd.length:Int)) then
 if 0≤y0.snd.fst∧y0.snd.fst<(↑y0.snd.snd.length:Int) then
 if y0.snd.fst.toNat + 1≤y0.snd.snd.length then
 bif (y0.snd.snd.getD y0.snd.fst.toNat (D.int 0)).toStr.toList == y0.fst.toList then
 k y0.snd.snd
 else
 if (0:Int)≤(0:Int)∧0≤y0.snd.fst∧y0.snd.fst≤(↑y0.snd.snd.length:Int) then
 if (0:Nat) + (y0.snd.fst.toNat - (0:Nat))≤y0.snd.snd.length then
 if ([]:List D).length + (List.take (y0.snd.fst.toNat - (0:Nat)) (List.drop (0:Nat) y0.snd.snd)).length≤(4294967296:Nat) then
 if ([] ++ List.take (y0.snd.fst.toNat - (0:Nat)) (List.drop (0:Nat) y0.snd.snd)).length + [D.str y0.fst].length≤(4294967296:Nat) then
 if 0≤y0.snd.fst∧y0.snd.fst≤(↑y0.snd.snd.length:Int)∧(↑y0.snd.snd.length:Int)≤(↑y0.snd.snd.length:Int) then
 if y0.snd.fst.toNat + (y0.snd.snd.length - y0.snd.fst.toNat)≤y0.snd.snd.length then
 if ([] ++ List.take (y0.snd.fst.toNat - (0:Nat)) (List.drop (0:Nat) y0.snd.snd) ++ [D.str y0.fst]).length + (List.take (y0.snd.snd.length - y0.snd.fst.toNat) (List.drop y0.snd.fst.toNat y0.snd.snd)).length≤(4294967296:Nat) then
 k ([] ++ List.take (y0.snd.fst.toNat - (0:Nat)) (List.drop (0:Nat) y0.snd.snd) ++ [D.str y0.fst] ++ List.take (y0.snd.snd.length - y0.snd.fst.toNat) (List.drop y0.snd.fst.toNat y0.snd.snd))
 else
 none
 else
 none
 else
 none
 else
 none
 else
 none
 else
 none
 else
 none
 else
 none
 else
 none
 else
 if (0:Int)≤(0:Int)∧0≤y0.snd.fst∧y0.snd.fst≤(↑y0.snd.snd.length:Int) then
 if (0:Nat) + (y0.snd.fst.toNat - (0:Nat))≤y0.snd.snd.length then
 if ([]:List D).length + (List.take (y0.snd.fst.toNat - (0:Nat)) (List.drop (0:Nat) y0.snd.snd)).length≤(4294967296:Nat) then
 if ([] ++ List.take (y0.snd.fst.toNat - (0:Nat)) (List.drop (0:Nat) y0.snd.snd)).length + [D.str y0.fst].length≤(4294967296:Nat) then
 if 0≤y0.snd.fst∧y0.snd.fst≤(↑y0.snd.snd.length:Int)∧(↑y0.snd.snd.length:Int)≤(↑y0.snd.snd.length:Int) then
 if y0.snd.fst.toNat + (y0.snd.snd.length - y0.snd.fst.toNat)≤y0.snd.snd.length then
 if ([] ++ List.take (y0.snd.fst.toNat - (0:Nat)) (List.drop (0:Nat) y0.snd.snd) ++ [D.str y0.fst]).length + (List.take (y0.snd.snd.length - y0.snd.fst.toNat) (List.drop y0.snd.fst.toNat y0.snd.snd)).length≤(4294967296:Nat) then
 k ([] ++ List.take (y0.snd.fst.toNat - (0:Nat)) (List.drop (0:Nat) y0.snd.snd) ++ [D.str y0.fst] ++ List.take (y0.snd.snd.length - y0.snd.fst.toNat) (List.drop y0.snd.fst.toNat y0.snd.snd))
 else
 none
 else
 none
 else
 none
 else
 none
 else
 none
 else
 none
 else
 none)
theorem c_Z15_bind {R:Type} (x0:List D) (x1:ByteArray) (k:List D→Option R):c_Z15 x0 x1 k=(c_Z15 x0 x1 some).bind k:=by
 unfold c_Z15
 repeat' first|exact bnd_tail|exact bnd_none|exact bnd_leaf|apply bnd_ite|apply bnd_cond|apply bnd_sum|(apply bnd_bind;intro _)|intro _
def Z15 (x0:List D) (x1:ByteArray):Option (List D):=c_Z15 x0 x1 some
def e_Z15:Ent:=⟨36,[.own (.str),.str],[(.own (.str),[.undef,.undef])],fun _ ds k=>dL (fun x0 ds=>dS (fun x1 ds=>dE ((Z15 x0 x1).bind (fun y=>k 0 [.L y])) ds) ds) ds⟩
theorem q_Z15 (x0:List D) (x1:ByteArray):runFn (ocOf []) (olOf [e_Z14]) A 36 Try.f36 (Sh.mks e_Z15.sh [.L x0,.S x1]).1 (fun v os=>some (v,os))=c_Z15 x0 x1 (fun y=>retO e_Z15 0 [.L y]):=by kernel_rfl
theorem e_Z15_ok:e_Z15.ok Try.prog A:=by
 intro R ds k r h
 unfold e_Z15 at h
 obtain ⟨_,_,rfl,h⟩:=dL_some h
 obtain ⟨_,_,rfl,h⟩:=dS_some h
 obtain ⟨rfl,hE⟩:=dE_some h
 obtain ⟨y,hy,hk⟩:=bnd_some hE
 exact ⟨0,_,_,_,hk,rfl,fn_ok px (fx:=⟨Try.func36,by kernel_rfl,by kernel_rfl⟩) entsOK_nil (lentsOK_cons e_Z14_ok lentsOK_nil) ((q_Z15 ..).trans ((c_Z15_bind ..).trans (bnd_to hy)))⟩

/-!-/
abbrev T_Z16:=List D→Int→List D→Option (List D)
def c_Z16 {R:Type} (F:T_Z16) (x0:List D) (x1:Int) (x2:List D) (k:List D→Option R):Option R:=
 bif decide (x1<(↑x0.length:Int)) then
 if 0≤x1∧x1<(↑x0.length:Int) then
 (Z15 x2 (((x0.getD x1.toNat (D.int 0)).fld (1:Nat)).toStr)).bind (fun y0=>
 (F x0 (IntKind.i64.wrap (x1 + 1)) y0).bind k)
 else
 none
 else
 k x2
theorem c_Z16_bind {R:Type} (F:T_Z16) (x0:List D) (x1:Int) (x2:List D) (k:List D→Option R):c_Z16 F x0 x1 x2 k=(c_Z16 F x0 x1 x2 some).bind k:=by
 unfold c_Z16
 repeat' first|exact bnd_tail|exact bnd_none|exact bnd_leaf|apply bnd_ite|apply bnd_cond|apply bnd_sum|(apply bnd_bind;intro _)|intro _
def n_Z16:Nat→T_Z16
 | 0,_,_,_=>none
 | n + 1,x0,x1,x2=>c_Z16 (n_Z16 n) x0 x1 x2 some
noncomputable def Z16 (x0:List D) (x1:Int) (x2:List D):Option (List D):=ev (fun n=>n_Z16 n x0 x1 x2)
def m_Z16 (F:T_Z16):Lent:=⟨3,⟨(.rd (.struct [.int .i64,.str,.int .i64,.int .i64,.int .i64]) :: .undef :: .undef :: .full 1000 [] (.str) :: .int .i64 :: uu 15 ([])),[(1000,.own (.str))]⟩,[(.exit 0,⟨(.undef :: .undef :: .undef :: .full 1000 [] (.str) :: uu 16 ([])),[(1000,.own (.str))]⟩)],fun _ ds k=>dL (fun x0 ds=>dI (fun x1 ds=>dL (fun x2 ds=>dE ((F x0 x1 x2).bind (fun y=>k 0 [.L y])) ds) ds) ds) ds⟩
theorem q_Z16 (F:T_Z16) (x0:List D) (x1:Int) (x2:List D):runLoop (ocOf [e_Z15]) (olOf [m_Z16 F]) A 29 (codeAt (bodyOf Try.f29) 3) ((m_Z16 F).sh.mk' [.L x0,.I x1,.L x2]) (fun e σ'=>some (e,σ'))=c_Z16 F x0 x1 x2 (fun y=>some (.exit 0,SSt.mk' ⟨(.undef :: .undef :: .undef :: .full 1000 [] (.str) :: uu 16 ([])),[(1000,.own (.str))]⟩ [.L y])):=by kernel_rfl
theorem m_Z16_ok:∀ n,(m_Z16 (n_Z16 n)).ok Try.prog (codeAt (bodyOf Try.f29) 3):=by
 intro n
 induction n with
 | zero=>
  intro R ds k r h
  unfold m_Z16 at h
  obtain ⟨_,_,rfl,h⟩:=dL_some h
  obtain ⟨_,_,rfl,h⟩:=dI_some h
  obtain ⟨_,_,rfl,h⟩:=dL_some h
  obtain ⟨rfl,hE⟩:=dE_some h
  obtain ⟨y,hy,hk⟩:=bnd_some hE
  cases hy
 | succ n ih=>
  intro R ds k r h
  unfold m_Z16 at h
  obtain ⟨_,_,rfl,h⟩:=dL_some h
  obtain ⟨_,_,rfl,h⟩:=dI_some h
  obtain ⟨_,_,rfl,h⟩:=dL_some h
  obtain ⟨rfl,hE⟩:=dE_some h
  obtain ⟨y,hy,hk⟩:=bnd_some hE
  exact ⟨0,_,_,_,hk,rfl,loop_ok px (fx:=⟨Try.func29,by kernel_rfl,by kernel_rfl⟩) (entsOK_cons e_Z15_ok entsOK_nil) (lentsOK_cons ih lentsOK_nil) (by kernel_rfl) ((q_Z16 ..).trans ((c_Z16_bind ..).trans (bnd_to hy)))⟩
noncomputable def e_Z16:Lent:=m_Z16 (Z16)
theorem e_Z16_ok:(e_Z16).ok Try.prog (codeAt (bodyOf Try.f29) 3):=by
 intro R ds k r h
 unfold e_Z16 m_Z16 at h
 obtain ⟨_,_,rfl,h⟩:=dL_some h
 obtain ⟨_,_,rfl,h⟩:=dI_some h
 obtain ⟨_,_,rfl,h⟩:=dL_some h
 obtain ⟨rfl,hE⟩:=dE_some h
 obtain ⟨y,hy,hk⟩:=bnd_some hE
 obtain ⟨n,hn⟩:=ev_some hy
 exact m_Z16_ok n R _ k r ((bnd_to hn).trans hk)

/-!-/
def c_Z17 {R:Type} (x0:List D) (k:List D→Option R):Option R:=
 (Z16 x0 (0:Int) []).bind (fun y0=>
 k y0)
theorem c_Z17_bind {R:Type} (x0:List D) (k:List D→Option R):c_Z17 x0 k=(c_Z17 x0 some).bind k:=by
 unfold c_Z17
 repeat' first|exact bnd_tail|exact bnd_none|exact bnd_leaf|apply bnd_ite|apply bnd_cond|apply bnd_sum|(apply bnd_bind;intro _)|intro _
def Z17 (x0:List D):Option (List D):=c_Z17 x0 some
def e_Z17:Ent:=⟨29,[.rd (.struct [.int .i64,.str,.int .i64,.int .i64,.int .i64])],[(.own (.str),[.undef])],fun _ ds k=>dL (fun x0 ds=>dE ((Z17 x0).bind (fun y=>k 0 [.L y])) ds) ds⟩
theorem q_Z17 (x0:List D):runFn (ocOf []) (olOf [e_Z16]) A 29 Try.f29 (Sh.mks e_Z17.sh [.L x0]).1 (fun v os=>some (v,os))=c_Z17 x0 (fun y=>retO e_Z17 0 [.L y]):=by kernel_rfl
theorem e_Z17_ok:e_Z17.ok Try.prog A:=by
 intro R ds k r h
 unfold e_Z17 at h
 obtain ⟨_,_,rfl,h⟩:=dL_some h
 obtain ⟨rfl,hE⟩:=dE_some h
 obtain ⟨y,hy,hk⟩:=bnd_some hE
 exact ⟨0,_,_,_,hk,rfl,fn_ok px (fx:=⟨Try.func29,by kernel_rfl,by kernel_rfl⟩) entsOK_nil (lentsOK_cons e_Z16_ok lentsOK_nil) ((q_Z17 ..).trans ((c_Z17_bind ..).trans (bnd_to hy)))⟩

/-!-/
def c_Z18 {R:Type} (x0:List D) (k:List D × Bool→Option R):Option R:=
 (Z13 x0).bind (fun y0=>
 bif !y0 then
 k ([],Bool.false)
 else
 (Z17 x0).bind (fun y1=>
 k (y1,Bool.true)))
theorem c_Z18_bind {R:Type} (x0:List D) (k:List D × Bool→Option R):c_Z18 x0 k=(c_Z18 x0 some).bind k:=by
 unfold c_Z18
 repeat' first|exact bnd_tail|exact bnd_none|exact bnd_leaf|apply bnd_ite|apply bnd_cond|apply bnd_sum|(apply bnd_bind;intro _)|intro _
def Z18 (x0:List D):Option (List D × Bool):=c_Z18 x0 some
def e_Z18:Ent:=⟨8,[.rd (.struct [.int .i64,.str,.int .i64,.int .i64,.int .i64])],[(.tup [.own (.str),.bool],[.undef])],fun _ ds k=>dL (fun x0 ds=>dE ((Z18 x0).bind (fun y=>k 0 [.L y.1,.B y.2])) ds) ds⟩
theorem q_Z18 (x0:List D):runFn (ocOf [e_Z13,e_Z17]) (olOf []) A 8 Try.f8 (Sh.mks e_Z18.sh [.L x0]).1 (fun v os=>some (v,os))=c_Z18 x0 (fun y=>retO e_Z18 0 [.L y.1,.B y.2]):=by kernel_rfl
theorem e_Z18_ok:e_Z18.ok Try.prog A:=by
 intro R ds k r h
 unfold e_Z18 at h
 obtain ⟨_,_,rfl,h⟩:=dL_some h
 obtain ⟨rfl,hE⟩:=dE_some h
 obtain ⟨y,hy,hk⟩:=bnd_some hE
 exact ⟨0,_,_,_,hk,rfl,fn_ok px (fx:=⟨Try.func8,by kernel_rfl,by kernel_rfl⟩) (entsOK_cons e_Z13_ok (entsOK_cons e_Z17_ok entsOK_nil)) lentsOK_nil ((q_Z18 ..).trans ((c_Z18_bind ..).trans (bnd_to hy)))⟩

/-!-/
def c_Z19 {R:Type} (x0 x1 x2:Int) (k:Bool→Option R):Option R:=
 bif decide (x1≤x0) then
 k (decide (x0≤x2))
 else
 k Bool.false
theorem c_Z19_bind {R:Type} (x0 x1 x2:Int) (k:Bool→Option R):c_Z19 x0 x1 x2 k=(c_Z19 x0 x1 x2 some).bind k:=by
 unfold c_Z19
 repeat' first|exact bnd_tail|exact bnd_none|exact bnd_leaf|apply bnd_ite|apply bnd_cond|apply bnd_sum|(apply bnd_bind;intro _)|intro _
def Z19 (x0 x1 x2:Int):Option (Bool):=c_Z19 x0 x1 x2 some
def e_Z19:Ent:=⟨64,[.int .i64,.int .i64,.int .i64],[(.bool,[.undef,.undef,.undef])],fun _ ds k=>dI (fun x0 ds=>dI (fun x1 ds=>dI (fun x2 ds=>dE ((Z19 x0 x1 x2).bind (fun y=>k 0 [.B y])) ds) ds) ds) ds⟩
theorem q_Z19 (x0 x1 x2:Int):runFn (ocOf []) (olOf []) A 64 Try.f64 (Sh.mks e_Z19.sh [.I x0,.I x1,.I x2]).1 (fun v os=>some (v,os))=c_Z19 x0 x1 x2 (fun y=>retO e_Z19 0 [.B y]):=by kernel_rfl
theorem e_Z19_ok:e_Z19.ok Try.prog A:=by
 intro R ds k r h
 unfold e_Z19 at h
 obtain ⟨_,_,rfl,h⟩:=dI_some h
 obtain ⟨_,_,rfl,h⟩:=dI_some h
 obtain ⟨_,_,rfl,h⟩:=dI_some h
 obtain ⟨rfl,hE⟩:=dE_some h
 obtain ⟨y,hy,hk⟩:=bnd_some hE
 exact ⟨0,_,_,_,hk,rfl,fn_ok px (fx:=⟨Try.func64,by kernel_rfl,by kernel_rfl⟩) entsOK_nil lentsOK_nil ((q_Z19 ..).trans ((c_Z19_bind ..).trans (bnd_to hy)))⟩

/-!-/
def c_Z20 {R:Type} (x0:Int) (k:Bool→Option R):Option R:=
 (Z19 x0 (1:Int) (999:Int)).bind (fun y0=>
 k y0)
theorem c_Z20_bind {R:Type} (x0:Int) (k:Bool→Option R):c_Z20 x0 k=(c_Z20 x0 some).bind k:=by
 unfold c_Z20
 repeat' first|exact bnd_tail|exact bnd_none|exact bnd_leaf|apply bnd_ite|apply bnd_cond|apply bnd_sum|(apply bnd_bind;intro _)|intro _
def Z20 (x0:Int):Option (Bool):=c_Z20 x0 some
def e_Z20:Ent:=⟨54,[.int .i64],[(.bool,[.undef])],fun _ ds k=>dI (fun x0 ds=>dE ((Z20 x0).bind (fun y=>k 0 [.B y])) ds) ds⟩
theorem q_Z20 (x0:Int):runFn (ocOf [e_Z19]) (olOf []) A 54 Try.f54 (Sh.mks e_Z20.sh [.I x0]).1 (fun v os=>some (v,os))=c_Z20 x0 (fun y=>retO e_Z20 0 [.B y]):=by kernel_rfl
theorem e_Z20_ok:e_Z20.ok Try.prog A:=by
 intro R ds k r h
 unfold e_Z20 at h
 obtain ⟨_,_,rfl,h⟩:=dI_some h
 obtain ⟨rfl,hE⟩:=dE_some h
 obtain ⟨y,hy,hk⟩:=bnd_some hE
 exact ⟨0,_,_,_,hk,rfl,fn_ok px (fx:=⟨Try.func54,by kernel_rfl,by kernel_rfl⟩) (entsOK_cons e_Z19_ok entsOK_nil) lentsOK_nil ((q_Z20 ..).trans ((c_Z20_bind ..).trans (bnd_to hy)))⟩

/-!-/
abbrev T_Z21:=ByteArray→Int→Int→Option ((ByteArray × Bool) ⊕ (ByteArray))
def c_Z21 {R:Type} (F:T_Z21) (x0:ByteArray) (x1 x2:Int) (k:(ByteArray × Bool) ⊕ (ByteArray)→Option R):Option R:=
 bif decide (x2<x1) then
 if 0≤x2∧x2<(↑x0.size:Int) then
 bif decide ((97:Int)≤(↑(x0.data.toList.getD x2.toNat (0:UInt8)).toNat:Int)) then
 if 0≤x2∧x2<(↑x0.size:Int) then
 if 0≤x2∧x2<(↑x0.size:Int) then
 bif decide ((48:Int)≤(↑(x0.data.toList.getD x2.toNat (0:UInt8)).toNat:Int)) then
 if 0≤x2∧x2<(↑x0.size:Int) then
 bif !decide ((↑(x0.data.toList.getD x2.toNat (0:UInt8)).toNat:Int)≤(122:Int)) then
 bif decide (x2=(0:Int)) then
 k (.inl (x0,Bool.false))
 else
 bif !decide ((↑(x0.data.toList.getD x2.toNat (0:UInt8)).toNat:Int)≤(57:Int)) then
 k (.inl (x0,Bool.false))
 else
 (F x0 x1 (IntKind.i64.wrap (x2 + 1))).bind k
 else
 (F x0 x1 (IntKind.i64.wrap (x2 + 1))).bind k
 else
 none
 else
 bif !decide ((↑(x0.data.toList.getD x2.toNat (0:UInt8)).toNat:Int)≤(122:Int)) then
 bif decide (x2=(0:Int)) then
 k (.inl (x0,Bool.false))
 else
 bif !Bool.false then
 k (.inl (x0,Bool.false))
 else
 (F x0 x1 (IntKind.i64.wrap (x2 + 1))).bind k
 else
 (F x0 x1 (IntKind.i64.wrap (x2 + 1))).bind k
 else
 none
 else
 none
 else
 if 0≤x2∧x2<(↑x0.size:Int) then
 bif decide ((48:Int)≤(↑(x0.data.toList.getD x2.toNat (0:UInt8)).toNat:Int)) then
 if 0≤x2∧x2<(↑x0.size:Int) then
 bif !Bool.false then
 bif decide (x2=(0:Int)) then
 k (.inl (x0,Bool.false))
 else
 bif !decide ((↑(x0.data.toList.getD x2.toNat (0:UInt8)).toNat:Int)≤(57:Int)) then
 k (.inl (x0,Bool.false))
 else
 (F x0 x1 (IntKind.i64.wrap (x2 + 1))).bind k
 else
 (F x0 x1 (IntKind.i64.wrap (x2 + 1))).bind k
 else
 none
 else
 bif !Bool.false then
 bif decide (x2=(0:Int)) then
 k (.inl (x0,Bool.false))
 else
 bif !Bool.false then
 k (.inl (x0,Bool.false))
 else
 (F x0 x1 (IntKind.i64.wrap (x2 + 1))).bind k
 else
 (F x0 x1 (IntKind.i64.wrap (x2 + 1))).bind k
 else
 none
 else
 none
 else
 k (.inr x0)
theorem c_Z21_bind {R:Type} (F:T_Z21) (x0:ByteArray) (x1 x2:Int) (k:(ByteArray × Bool) ⊕ (ByteArray)→Option R):c_Z21 F x0 x1 x2 k=(c_Z21 F x0 x1 x2 some).bind k:=by
 unfold c_Z21
 repeat' first|exact bnd_tail|exact bnd_none|exact bnd_leaf|apply bnd_ite|apply bnd_cond|apply bnd_sum|(apply bnd_bind;intro _)|intro _
def n_Z21:Nat→T_Z21
 | 0,_,_,_=>none
 | n + 1,x0,x1,x2=>c_Z21 (n_Z21 n) x0 x1 x2 some
noncomputable def Z21 (x0:ByteArray) (x1 x2:Int):Option ((ByteArray × Bool) ⊕ (ByteArray)):=ev (fun n=>n_Z21 n x0 x1 x2)
def m_Z21 (F:T_Z21):Lent:=⟨2,⟨(.str :: uu 6 (.int .i64 :: .int .i64 :: uu 36 ([]))),[]⟩,[(.ret,⟨(.str :: .undef :: .bool :: uu 42 ([])),[]⟩),(.exit 0,⟨(.str :: uu 44 ([])),[]⟩)],fun _ ds k=>dS (fun x0 ds=>dI (fun x1 ds=>dI (fun x2 ds=>dE ((F x0 x1 x2).bind (Sum.elim (fun y=>k 0 [.S y.1,.B y.2]) (fun y=>k 1 [.S y]))) ds) ds) ds) ds⟩
theorem q_Z21 (F:T_Z21) (x0:ByteArray) (x1 x2:Int):runLoop (ocOf []) (olOf [m_Z21 F]) A 63 (codeAt (bodyOf Try.f63) 2) ((m_Z21 F).sh.mk' [.S x0,.I x1,.I x2]) (fun e σ'=>some (e,σ'))=c_Z21 F x0 x1 x2 (Sum.elim (fun y=>some (.ret,SSt.mk' ⟨(.str :: .undef :: .bool :: uu 42 ([])),[]⟩ [.S y.1,.B y.2])) (fun y=>some (.exit 0,SSt.mk' ⟨(.str :: uu 44 ([])),[]⟩ [.S y]))):=by kernel_rfl
theorem m_Z21_ok:∀ n,(m_Z21 (n_Z21 n)).ok Try.prog (codeAt (bodyOf Try.f63) 2):=by
 intro n
 induction n with
 | zero=>
  intro R ds k r h
  unfold m_Z21 at h
  obtain ⟨_,_,rfl,h⟩:=dS_some h
  obtain ⟨_,_,rfl,h⟩:=dI_some h
  obtain ⟨_,_,rfl,h⟩:=dI_some h
  obtain ⟨rfl,hE⟩:=dE_some h
  obtain ⟨y,hy,hk⟩:=bnd_some hE
  cases hy
 | succ n ih=>
  intro R ds k r h
  unfold m_Z21 at h
  obtain ⟨_,_,rfl,h⟩:=dS_some h
  obtain ⟨_,_,rfl,h⟩:=dI_some h
  obtain ⟨_,_,rfl,h⟩:=dI_some h
  obtain ⟨rfl,hE⟩:=dE_some h
  obtain ⟨y,hy,hk⟩:=bnd_some hE
  cases y with
  | inl y=>
   exact ⟨0,_,_,_,hk,rfl,loop_ok px (fx:=⟨Try.func63,by kernel_rfl,by kernel_rfl⟩) entsOK_nil (lentsOK_cons ih lentsOK_nil) (by kernel_rfl) ((q_Z21 ..).trans ((c_Z21_bind ..).trans (bnd_to hy)))⟩
  | inr y=>
   exact ⟨1,_,_,_,hk,rfl,loop_ok px (fx:=⟨Try.func63,by kernel_rfl,by kernel_rfl⟩) entsOK_nil (lentsOK_cons ih lentsOK_nil) (by kernel_rfl) ((q_Z21 ..).trans ((c_Z21_bind ..).trans (bnd_to hy)))⟩
noncomputable def e_Z21:Lent:=m_Z21 (Z21)
theorem e_Z21_ok:(e_Z21).ok Try.prog (codeAt (bodyOf Try.f63) 2):=by
 intro R ds k r h
 unfold e_Z21 m_Z21 at h
 obtain ⟨_,_,rfl,h⟩:=dS_some h
 obtain ⟨_,_,rfl,h⟩:=dI_some h
 obtain ⟨_,_,rfl,h⟩:=dI_some h
 obtain ⟨rfl,hE⟩:=dE_some h
 obtain ⟨y,hy,hk⟩:=bnd_some hE
 obtain ⟨n,hn⟩:=ev_some hy
 exact m_Z21_ok n R _ k r ((bnd_to hn).trans hk)

/-!-/
def c_Z22 {R:Type} (x0:ByteArray) (k:Bool→Option R):Option R:=
 (Z21 x0 (↑x0.size:Int) (0:Int)).bind (Sum.elim (fun y0=>
 k y0.snd) (fun y1=>
 (Z19 (↑y1.size:Int) (1:Int) (8:Int)).bind (fun y2=>
 k y2)))
theorem c_Z22_bind {R:Type} (x0:ByteArray) (k:Bool→Option R):c_Z22 x0 k=(c_Z22 x0 some).bind k:=by
 unfold c_Z22
 repeat' first|exact bnd_tail|exact bnd_none|exact bnd_leaf|apply bnd_ite|apply bnd_cond|apply bnd_sum|(apply bnd_bind;intro _)|intro _
def Z22 (x0:ByteArray):Option (Bool):=c_Z22 x0 some
def e_Z22:Ent:=⟨63,[.str],[(.bool,[.undef])],fun _ ds k=>dS (fun x0 ds=>dE ((Z22 x0).bind (fun y=>k 0 [.B y])) ds) ds⟩
theorem q_Z22 (x0:ByteArray):runFn (ocOf [e_Z19]) (olOf [e_Z21]) A 63 Try.f63 (Sh.mks e_Z22.sh [.S x0]).1 (fun v os=>some (v,os))=c_Z22 x0 (fun y=>retO e_Z22 0 [.B y]):=by kernel_rfl
theorem e_Z22_ok:e_Z22.ok Try.prog A:=by
 intro R ds k r h
 unfold e_Z22 at h
 obtain ⟨_,_,rfl,h⟩:=dS_some h
 obtain ⟨rfl,hE⟩:=dE_some h
 obtain ⟨y,hy,hk⟩:=bnd_some hE
 exact ⟨0,_,_,_,hk,rfl,fn_ok px (fx:=⟨Try.func63,by kernel_rfl,by kernel_rfl⟩) (entsOK_cons e_Z19_ok entsOK_nil) (lentsOK_cons e_Z21_ok lentsOK_nil) ((q_Z22 ..).trans ((c_Z22_bind ..).trans (bnd_to hy)))⟩

/-!-/
def c_Z23 {R:Type} (x0:Int) (x1:ByteArray) (x2 x3 x4:Int) (k:Bool→Option R):Option R:=
 (Z20 x0).bind (fun y0=>
 bif y0 then
 (Z22 x1).bind (fun y1=>
 bif y1 then
 (Z19 x2 (1:Int) (10000:Int)).bind (fun y2=>
 bif y2 then
 (Z19 x3 (0:Int) (1000000:Int)).bind (fun y3=>
 bif y3 then
 (Z19 x4 (0:Int) (IntKind.i64.wrap ((100:Int) * x2))).bind (fun y4=>
 k y4)
 else
 k Bool.false)
 else
 k Bool.false)
 else
 k Bool.false)
 else
 k Bool.false)
theorem c_Z23_bind {R:Type} (x0:Int) (x1:ByteArray) (x2 x3 x4:Int) (k:Bool→Option R):c_Z23 x0 x1 x2 x3 x4 k=(c_Z23 x0 x1 x2 x3 x4 some).bind k:=by
 unfold c_Z23
 repeat' first|exact bnd_tail|exact bnd_none|exact bnd_leaf|apply bnd_ite|apply bnd_cond|apply bnd_sum|(apply bnd_bind;intro _)|intro _
def Z23 (x0:Int) (x1:ByteArray) (x2 x3 x4:Int):Option (Bool):=c_Z23 x0 x1 x2 x3 x4 some
def e_Z23:Ent:=⟨47,[.agg [.int .i64,.str,.int .i64,.int .i64,.int .i64]],[(.bool,[.undef])],fun _ ds k=>dI (fun x0 ds=>dS (fun x1 ds=>dI (fun x2 ds=>dI (fun x3 ds=>dI (fun x4 ds=>dE ((Z23 x0 x1 x2 x3 x4).bind (fun y=>k 0 [.B y])) ds) ds) ds) ds) ds) ds⟩
theorem q_Z23 (x0:Int) (x1:ByteArray) (x2 x3 x4:Int):runFn (ocOf [e_Z20,e_Z22,e_Z19]) (olOf []) A 47 Try.f47 (Sh.mks e_Z23.sh [.I x0,.S x1,.I x2,.I x3,.I x4]).1 (fun v os=>some (v,os))=c_Z23 x0 x1 x2 x3 x4 (fun y=>retO e_Z23 0 [.B y]):=by kernel_rfl
theorem e_Z23_ok:e_Z23.ok Try.prog A:=by
 intro R ds k r h
 unfold e_Z23 at h
 obtain ⟨_,_,rfl,h⟩:=dI_some h
 obtain ⟨_,_,rfl,h⟩:=dS_some h
 obtain ⟨_,_,rfl,h⟩:=dI_some h
 obtain ⟨_,_,rfl,h⟩:=dI_some h
 obtain ⟨_,_,rfl,h⟩:=dI_some h
 obtain ⟨rfl,hE⟩:=dE_some h
 obtain ⟨y,hy,hk⟩:=bnd_some hE
 exact ⟨0,_,_,_,hk,rfl,fn_ok px (fx:=⟨Try.func47,by kernel_rfl,by kernel_rfl⟩) (entsOK_cons e_Z20_ok (entsOK_cons e_Z22_ok (entsOK_cons e_Z19_ok entsOK_nil))) lentsOK_nil ((q_Z23 ..).trans ((c_Z23_bind ..).trans (bnd_to hy)))⟩

/-!-/
def c_Z24 {R:Type} (x0:Int) (k:Bool→Option R):Option R:=
 k (!decide (x0=x0))
theorem c_Z24_bind {R:Type} (x0:Int) (k:Bool→Option R):c_Z24 x0 k=(c_Z24 x0 some).bind k:=by
 unfold c_Z24
 repeat' first|exact bnd_tail|exact bnd_none|exact bnd_leaf|apply bnd_ite|apply bnd_cond|apply bnd_sum|(apply bnd_bind;intro _)|intro _
def Z24 (x0:Int):Option (Bool):=c_Z24 x0 some
def e_Z24:Ent:=⟨73,[.int .i64],[(.bool,[.undef])],fun _ ds k=>dI (fun x0 ds=>dE ((Z24 x0).bind (fun y=>k 0 [.B y])) ds) ds⟩
theorem q_Z24 (x0:Int):runFn (ocOf []) (olOf []) A 73 Try.f73 (Sh.mks e_Z24.sh [.I x0]).1 (fun v os=>some (v,os))=c_Z24 x0 (fun y=>retO e_Z24 0 [.B y]):=by kernel_rfl
theorem e_Z24_ok:e_Z24.ok Try.prog A:=by
 intro R ds k r h
 unfold e_Z24 at h
 obtain ⟨_,_,rfl,h⟩:=dI_some h
 obtain ⟨rfl,hE⟩:=dE_some h
 obtain ⟨y,hy,hk⟩:=bnd_some hE
 exact ⟨0,_,_,_,hk,rfl,fn_ok px (fx:=⟨Try.func73,by kernel_rfl,by kernel_rfl⟩) entsOK_nil lentsOK_nil ((q_Z24 ..).trans ((c_Z24_bind ..).trans (bnd_to hy)))⟩

/-!-/
def c_Z25 {R:Type} (x0 x1:Int) (k:Int→Option R):Option R:=
 (Z24 x0).bind (fun y0=>
 (Z24 x1).bind (fun y1=>
 bif y0 then
 bif y1 then
 k (0:Int)
 else
 k (-1:Int)
 else
 bif y1 then
 k (1:Int)
 else
 bif decide (x0<x1) then
 k (-1:Int)
 else
 bif decide (x1<x0) then
 k (1:Int)
 else
 k (0:Int)))
theorem c_Z25_bind {R:Type} (x0 x1:Int) (k:Int→Option R):c_Z25 x0 x1 k=(c_Z25 x0 x1 some).bind k:=by
 unfold c_Z25
 repeat' first|exact bnd_tail|exact bnd_none|exact bnd_leaf|apply bnd_ite|apply bnd_cond|apply bnd_sum|(apply bnd_bind;intro _)|intro _
def Z25 (x0 x1:Int):Option (Int):=c_Z25 x0 x1 some
def e_Z25:Ent:=⟨61,[.int .i64,.int .i64],[(.int .i64,[.undef,.undef])],fun _ ds k=>dI (fun x0 ds=>dI (fun x1 ds=>dE ((Z25 x0 x1).bind (fun y=>k 0 [.I y])) ds) ds) ds⟩
theorem q_Z25 (x0 x1:Int):runFn (ocOf [e_Z24]) (olOf []) A 61 Try.f61 (Sh.mks e_Z25.sh [.I x0,.I x1]).1 (fun v os=>some (v,os))=c_Z25 x0 x1 (fun y=>retO e_Z25 0 [.I y]):=by kernel_rfl
theorem e_Z25_ok:e_Z25.ok Try.prog A:=by
 intro R ds k r h
 unfold e_Z25 at h
 obtain ⟨_,_,rfl,h⟩:=dI_some h
 obtain ⟨_,_,rfl,h⟩:=dI_some h
 obtain ⟨rfl,hE⟩:=dE_some h
 obtain ⟨y,hy,hk⟩:=bnd_some hE
 exact ⟨0,_,_,_,hk,rfl,fn_ok px (fx:=⟨Try.func61,by kernel_rfl,by kernel_rfl⟩) (entsOK_cons e_Z24_ok entsOK_nil) lentsOK_nil ((q_Z25 ..).trans ((c_Z25_bind ..).trans (bnd_to hy)))⟩

/-!-/
def c_Z26 {R:Type} (x0:ByteArray) (k:Bool→Option R):Option R:=
 k (!x0.toList == x0.toList)
theorem c_Z26_bind {R:Type} (x0:ByteArray) (k:Bool→Option R):c_Z26 x0 k=(c_Z26 x0 some).bind k:=by
 unfold c_Z26
 repeat' first|exact bnd_tail|exact bnd_none|exact bnd_leaf|apply bnd_ite|apply bnd_cond|apply bnd_sum|(apply bnd_bind;intro _)|intro _
def Z26 (x0:ByteArray):Option (Bool):=c_Z26 x0 some
def e_Z26:Ent:=⟨74,[.str],[(.bool,[.undef])],fun _ ds k=>dS (fun x0 ds=>dE ((Z26 x0).bind (fun y=>k 0 [.B y])) ds) ds⟩
theorem q_Z26 (x0:ByteArray):runFn (ocOf []) (olOf []) A 74 Try.f74 (Sh.mks e_Z26.sh [.S x0]).1 (fun v os=>some (v,os))=c_Z26 x0 (fun y=>retO e_Z26 0 [.B y]):=by kernel_rfl
theorem e_Z26_ok:e_Z26.ok Try.prog A:=by
 intro R ds k r h
 unfold e_Z26 at h
 obtain ⟨_,_,rfl,h⟩:=dS_some h
 obtain ⟨rfl,hE⟩:=dE_some h
 obtain ⟨y,hy,hk⟩:=bnd_some hE
 exact ⟨0,_,_,_,hk,rfl,fn_ok px (fx:=⟨Try.func74,by kernel_rfl,by kernel_rfl⟩) entsOK_nil lentsOK_nil ((q_Z26 ..).trans ((c_Z26_bind ..).trans (bnd_to hy)))⟩

/-!-/
def c_Z27 {R:Type} (x0 x1:ByteArray) (k:Int→Option R):Option R:=
 (Z26 x0).bind (fun y0=>
 (Z26 x1).bind (fun y1=>
 bif y0 then
 bif y1 then
 k (0:Int)
 else
 k (-1:Int)
 else
 bif y1 then
 k (1:Int)
 else
 bif Go.Op.bytesLess x0.toList x1.toList then
 k (-1:Int)
 else
 bif !(Go.Op.bytesLess x0.toList x1.toList || x0.toList == x1.toList) then
 k (1:Int)
 else
 k (0:Int)))
theorem c_Z27_bind {R:Type} (x0 x1:ByteArray) (k:Int→Option R):c_Z27 x0 x1 k=(c_Z27 x0 x1 some).bind k:=by
 unfold c_Z27
 repeat' first|exact bnd_tail|exact bnd_none|exact bnd_leaf|apply bnd_ite|apply bnd_cond|apply bnd_sum|(apply bnd_bind;intro _)|intro _
def Z27 (x0 x1:ByteArray):Option (Int):=c_Z27 x0 x1 some
def e_Z27:Ent:=⟨66,[.str,.str],[(.int .i64,[.undef,.undef])],fun _ ds k=>dS (fun x0 ds=>dS (fun x1 ds=>dE ((Z27 x0 x1).bind (fun y=>k 0 [.I y])) ds) ds) ds⟩
theorem q_Z27 (x0 x1:ByteArray):runFn (ocOf [e_Z26]) (olOf []) A 66 Try.f66 (Sh.mks e_Z27.sh [.S x0,.S x1]).1 (fun v os=>some (v,os))=c_Z27 x0 x1 (fun y=>retO e_Z27 0 [.I y]):=by kernel_rfl
theorem e_Z27_ok:e_Z27.ok Try.prog A:=by
 intro R ds k r h
 unfold e_Z27 at h
 obtain ⟨_,_,rfl,h⟩:=dS_some h
 obtain ⟨_,_,rfl,h⟩:=dS_some h
 obtain ⟨rfl,hE⟩:=dE_some h
 obtain ⟨y,hy,hk⟩:=bnd_some hE
 exact ⟨0,_,_,_,hk,rfl,fn_ok px (fx:=⟨Try.func66,by kernel_rfl,by kernel_rfl⟩) (entsOK_cons e_Z26_ok entsOK_nil) lentsOK_nil ((q_Z27 ..).trans ((c_Z27_bind ..).trans (bnd_to hy)))⟩

/-!-/
abbrev T_Z28:=Int→List D→Int→Int→Option ((Int × Int) ⊕ (Int))
def c_Z28 {R:Type} (F:T_Z28) (x0:Int) (x1:List D) (x2 x3:Int) (k:(Int × Int) ⊕ (Int)→Option R):Option R:=
 bif decide (x3<x2) then
 if 0≤x3∧x3<(↑x1.length:Int) then
 bif !decide ((x1.getD x3.toNat (D.int 0)).toInt=x0) then
 k (.inl ((x1.getD x3.toNat (D.int 0)).toInt,x0))
 else
 (F x0 x1 x2 (IntKind.i64.wrap (x3 + 1))).bind k
 else
 none
 else
 k (.inr x0)
theorem c_Z28_bind {R:Type} (F:T_Z28) (x0:Int) (x1:List D) (x2 x3:Int) (k:(Int × Int) ⊕ (Int)→Option R):c_Z28 F x0 x1 x2 x3 k=(c_Z28 F x0 x1 x2 x3 some).bind k:=by
 unfold c_Z28
 repeat' first|exact bnd_tail|exact bnd_none|exact bnd_leaf|apply bnd_ite|apply bnd_cond|apply bnd_sum|(apply bnd_bind;intro _)|intro _
def n_Z28:Nat→T_Z28
 | 0,_,_,_,_=>none
 | n + 1,x0,x1,x2,x3=>c_Z28 (n_Z28 n) x0 x1 x2 x3 some
noncomputable def Z28 (x0:Int) (x1:List D) (x2 x3:Int):Option ((Int × Int) ⊕ (Int)):=ev (fun n=>n_Z28 n x0 x1 x2 x3)
def m_Z28 (F:T_Z28):Lent:=⟨3,⟨(.undef :: .undef :: .undef :: .int .i64 :: .undef :: .undef :: .rd (.int .i64) :: .int .i64 :: .int .i64 :: uu 9 ([])),[]⟩,[(.ret,⟨(.undef :: .undef :: .int .i64 :: .int .i64 :: uu 14 ([])),[]⟩),(.exit 0,⟨(.undef :: .undef :: .undef :: .int .i64 :: uu 14 ([])),[]⟩)],fun _ ds k=>dI (fun x0 ds=>dL (fun x1 ds=>dI (fun x2 ds=>dI (fun x3 ds=>dE ((F x0 x1 x2 x3).bind (Sum.elim (fun y=>k 0 [.I y.1,.I y.2]) (fun y=>k 1 [.I y]))) ds) ds) ds) ds) ds⟩
theorem q_Z28 (F:T_Z28) (x0:Int) (x1:List D) (x2 x3:Int):runLoop (ocOf []) (olOf [m_Z28 F]) A 65 (codeAt (bodyOf Try.f65) 3) ((m_Z28 F).sh.mk' [.I x0,.L x1,.I x2,.I x3]) (fun e σ'=>some (e,σ'))=c_Z28 F x0 x1 x2 x3 (Sum.elim (fun y=>some (.ret,SSt.mk' ⟨(.undef :: .undef :: .int .i64 :: .int .i64 :: uu 14 ([])),[]⟩ [.I y.1,.I y.2])) (fun y=>some (.exit 0,SSt.mk' ⟨(.undef :: .undef :: .undef :: .int .i64 :: uu 14 ([])),[]⟩ [.I y]))):=by kernel_rfl
theorem m_Z28_ok:∀ n,(m_Z28 (n_Z28 n)).ok Try.prog (codeAt (bodyOf Try.f65) 3):=by
 intro n
 induction n with
 | zero=>
  intro R ds k r h
  unfold m_Z28 at h
  obtain ⟨_,_,rfl,h⟩:=dI_some h
  obtain ⟨_,_,rfl,h⟩:=dL_some h
  obtain ⟨_,_,rfl,h⟩:=dI_some h
  obtain ⟨_,_,rfl,h⟩:=dI_some h
  obtain ⟨rfl,hE⟩:=dE_some h
  obtain ⟨y,hy,hk⟩:=bnd_some hE
  cases hy
 | succ n ih=>
  intro R ds k r h
  unfold m_Z28 at h
  obtain ⟨_,_,rfl,h⟩:=dI_some h
  obtain ⟨_,_,rfl,h⟩:=dL_some h
  obtain ⟨_,_,rfl,h⟩:=dI_some h
  obtain ⟨_,_,rfl,h⟩:=dI_some h
  obtain ⟨rfl,hE⟩:=dE_some h
  obtain ⟨y,hy,hk⟩:=bnd_some hE
  cases y with
  | inl y=>
   exact ⟨0,_,_,_,hk,rfl,loop_ok px (fx:=⟨Try.func65,by kernel_rfl,by kernel_rfl⟩) entsOK_nil (lentsOK_cons ih lentsOK_nil) (by kernel_rfl) ((q_Z28 ..).trans ((c_Z28_bind ..).trans (bnd_to hy)))⟩
  | inr y=>
   exact ⟨1,_,_,_,hk,rfl,loop_ok px (fx:=⟨Try.func65,by kernel_rfl,by kernel_rfl⟩) entsOK_nil (lentsOK_cons ih lentsOK_nil) (by kernel_rfl) ((q_Z28 ..).trans ((c_Z28_bind ..).trans (bnd_to hy)))⟩
noncomputable def e_Z28:Lent:=m_Z28 (Z28)
theorem e_Z28_ok:(e_Z28).ok Try.prog (codeAt (bodyOf Try.f65) 3):=by
 intro R ds k r h
 unfold e_Z28 m_Z28 at h
 obtain ⟨_,_,rfl,h⟩:=dI_some h
 obtain ⟨_,_,rfl,h⟩:=dL_some h
 obtain ⟨_,_,rfl,h⟩:=dI_some h
 obtain ⟨_,_,rfl,h⟩:=dI_some h
 obtain ⟨rfl,hE⟩:=dE_some h
 obtain ⟨y,hy,hk⟩:=bnd_some hE
 obtain ⟨n,hn⟩:=ev_some hy
 exact m_Z28_ok n R _ k r ((bnd_to hn).trans hk)

/-!-/
def c_Z29 {R:Type} (x0:List D) (k:Int→Option R):Option R:=
 (Z28 (0:Int) x0 (↑x0.length:Int) (0:Int)).bind (Sum.elim (fun y0=>
 k y0.fst) (fun y1=>
 k y1))
theorem c_Z29_bind {R:Type} (x0:List D) (k:Int→Option R):c_Z29 x0 k=(c_Z29 x0 some).bind k:=by
 unfold c_Z29
 repeat' first|exact bnd_tail|exact bnd_none|exact bnd_leaf|apply bnd_ite|apply bnd_cond|apply bnd_sum|(apply bnd_bind;intro _)|intro _
def Z29 (x0:List D):Option (Int):=c_Z29 x0 some
def e_Z29:Ent:=⟨65,[.rd (.int .i64)],[(.int .i64,[.undef])],fun _ ds k=>dL (fun x0 ds=>dE ((Z29 x0).bind (fun y=>k 0 [.I y])) ds) ds⟩
theorem q_Z29 (x0:List D):runFn (ocOf []) (olOf [e_Z28]) A 65 Try.f65 (Sh.mks e_Z29.sh [.L x0]).1 (fun v os=>some (v,os))=c_Z29 x0 (fun y=>retO e_Z29 0 [.I y]):=by kernel_rfl
theorem e_Z29_ok:e_Z29.ok Try.prog A:=by
 intro R ds k r h
 unfold e_Z29 at h
 obtain ⟨_,_,rfl,h⟩:=dL_some h
 obtain ⟨rfl,hE⟩:=dE_some h
 obtain ⟨y,hy,hk⟩:=bnd_some hE
 exact ⟨0,_,_,_,hk,rfl,fn_ok px (fx:=⟨Try.func65,by kernel_rfl,by kernel_rfl⟩) entsOK_nil (lentsOK_cons e_Z28_ok lentsOK_nil) ((q_Z29 ..).trans ((c_Z29_bind ..).trans (bnd_to hy)))⟩

/-!-/
def c_Z30 {R:Type} (x0:Int) (x1:ByteArray) (x2 x3 x4 x5:Int) (x6:ByteArray) (x7 x8 x9:Int) (k:Int→Option R):Option R:=
 (Z25 x0 x5).bind (fun y0=>
 (Z27 x1 x6).bind (fun y1=>
 (Z29 ([D.int y0,D.int y1])).bind (fun y2=>
 k y2)))
theorem c_Z30_bind {R:Type} (x0:Int) (x1:ByteArray) (x2 x3 x4 x5:Int) (x6:ByteArray) (x7 x8 x9:Int) (k:Int→Option R):c_Z30 x0 x1 x2 x3 x4 x5 x6 x7 x8 x9 k=(c_Z30 x0 x1 x2 x3 x4 x5 x6 x7 x8 x9 some).bind k:=by
 unfold c_Z30
 repeat' first|exact bnd_tail|exact bnd_none|exact bnd_leaf|apply bnd_ite|apply bnd_cond|apply bnd_sum|(apply bnd_bind;intro _)|intro _
def Z30 (x0:Int) (x1:ByteArray) (x2 x3 x4 x5:Int) (x6:ByteArray) (x7 x8 x9:Int):Option (Int):=c_Z30 x0 x1 x2 x3 x4 x5 x6 x7 x8 x9 some
def e_Z30:Ent:=⟨50,[.agg [.int .i64,.str,.int .i64,.int .i64,.int .i64],.agg [.int .i64,.str,.int .i64,.int .i64,.int .i64]],[(.int .i64,[.undef,.undef])],fun _ ds k=>dI (fun x0 ds=>dS (fun x1 ds=>dI (fun x2 ds=>dI (fun x3 ds=>dI (fun x4 ds=>dI (fun x5 ds=>dS (fun x6 ds=>dI (fun x7 ds=>dI (fun x8 ds=>dI (fun x9 ds=>dE ((Z30 x0 x1 x2 x3 x4 x5 x6 x7 x8 x9).bind (fun y=>k 0 [.I y])) ds) ds) ds) ds) ds) ds) ds) ds) ds) ds) ds⟩
theorem q_Z30 (x0:Int) (x1:ByteArray) (x2 x3 x4 x5:Int) (x6:ByteArray) (x7 x8 x9:Int):runFn (ocOf [e_Z25,e_Z27,e_Z29]) (olOf []) A 50 Try.f50 (Sh.mks e_Z30.sh [.I x0,.S x1,.I x2,.I x3,.I x4,.I x5,.S x6,.I x7,.I x8,.I x9]).1 (fun v os=>some (v,os))=c_Z30 x0 x1 x2 x3 x4 x5 x6 x7 x8 x9 (fun y=>retO e_Z30 0 [.I y]):=by kernel_rfl
theorem e_Z30_ok:e_Z30.ok Try.prog A:=by
 intro R ds k r h
 unfold e_Z30 at h
 obtain ⟨_,_,rfl,h⟩:=dI_some h
 obtain ⟨_,_,rfl,h⟩:=dS_some h
 obtain ⟨_,_,rfl,h⟩:=dI_some h
 obtain ⟨_,_,rfl,h⟩:=dI_some h
 obtain ⟨_,_,rfl,h⟩:=dI_some h
 obtain ⟨_,_,rfl,h⟩:=dI_some h
 obtain ⟨_,_,rfl,h⟩:=dS_some h
 obtain ⟨_,_,rfl,h⟩:=dI_some h
 obtain ⟨_,_,rfl,h⟩:=dI_some h
 obtain ⟨_,_,rfl,h⟩:=dI_some h
 obtain ⟨rfl,hE⟩:=dE_some h
 obtain ⟨y,hy,hk⟩:=bnd_some hE
 exact ⟨0,_,_,_,hk,rfl,fn_ok px (fx:=⟨Try.func50,by kernel_rfl,by kernel_rfl⟩) (entsOK_cons e_Z25_ok (entsOK_cons e_Z27_ok (entsOK_cons e_Z29_ok entsOK_nil))) lentsOK_nil ((q_Z30 ..).trans ((c_Z30_bind ..).trans (bnd_to hy)))⟩

/-!-/
abbrev T_Z31:=List D→List D→Int→Int→Option ((List D × Bool) ⊕ (List D))
def c_Z31 {R:Type} (F:T_Z31) (x0 x1:List D) (x2 x3:Int) (k:(List D × Bool) ⊕ (List D)→Option R):Option R:=
 bif decide (x3<x2) then
 if 0≤x3∧x3<(↑x1.length:Int) then
 (Z23 (((x1.getD x3.toNat (D.int 0)).fld (0:Nat)).toInt) (((x1.getD x3.toNat (D.int 0)).fld (1:Nat)).toStr) (((x1.getD x3.toNat (D.int 0)).fld (2:Nat)).toInt) (((x1.getD x3.toNat (D.int 0)).fld (3:Nat)).toInt) (((x1.getD x3.toNat (D.int 0)).fld (4:Nat)).toInt)).bind (fun y0=>
 bif !y0 then
 k (.inl (x0,Bool.false))
 else
 bif decide ((0:Int)<x3) then
 if (0:Int)≤IntKind.i64.wrap (x3 - 1)∧IntKind.i64.wrap (x3 - 1)<(↑x0.length:Int) then
 (Z30 (((x0.getD (IntKind.i64.wrap (x3 - 1)).toNat (D.int 0)).fld (0:Nat)).toInt) (((x0.getD (IntKind.i64.wrap (x3 - 1)).toNat (D.int 0)).fld (1:Nat)).toStr) (((x0.getD (IntKind.i64.wrap (x3 - 1)).toNat (D.int 0)).fld (2:Nat)).toInt) (((x0.getD (IntKind.i64.wrap (x3 - 1)).toNat (D.int 0)).fld (3:Nat)).toInt) (((x0.getD (IntKind.i64.wrap (x3 - 1)).toNat (D.int 0)).fld (4:Nat)).toInt) (((x1.getD x3.toNat (D.int 0)).fld (0:Nat)).toInt) (((x1.getD x3.toNat (D.int 0)).fld (1:Nat)).toStr) (((x1.getD x3.toNat (D.int 0)).fld (2:Nat)).toInt) (((x1.getD x3.toNat (D.int 0)).fld (3:Nat)).toInt) (((x1.getD x3.toNat (D.int 0)).fld (4:Nat)).toInt)).bind (fun y1=>
 bif decide ((0:Int)≤y1) then
 k (.inl (x0,Bool.false))
 else
 (F x0 x1 x2 (IntKind.i64.wrap (x3 + 1))).bind k)
 else
 none
 else
 (F x0 x1 x2 (IntKind.i64.wrap (x3 + 1))).bind k)
 else
 none
 else
 k (.inr x0)
theorem c_Z31_bind {R:Type} (F:T_Z31) (x0 x1:List D) (x2 x3:Int) (k:(List D × Bool) ⊕ (List D)→Option R):c_Z31 F x0 x1 x2 x3 k=(c_Z31 F x0 x1 x2 x3 some).bind k:=by
 unfold c_Z31
 repeat' first|exact bnd_tail|exact bnd_none|exact bnd_leaf|apply bnd_ite|apply bnd_cond|apply bnd_sum|(apply bnd_bind;intro _)|intro _
def n_Z31:Nat→T_Z31
 | 0,_,_,_,_=>none
 | n + 1,x0,x1,x2,x3=>c_Z31 (n_Z31 n) x0 x1 x2 x3 some
noncomputable def Z31 (x0 x1:List D) (x2 x3:Int):Option ((List D × Bool) ⊕ (List D)):=ev (fun n=>n_Z31 n x0 x1 x2 x3)
def m_Z31 (F:T_Z31):Lent:=⟨2,⟨(.rd (.struct [.int .i64,.str,.int .i64,.int .i64,.int .i64]) :: uu 4 (.rd (.struct [.int .i64,.str,.int .i64,.int .i64,.int .i64]) :: .int .i64 :: .int .i64 :: uu 25 ([]))),[]⟩,[(.ret,⟨(.rd (.struct [.int .i64,.str,.int .i64,.int .i64,.int .i64]) :: .undef :: .bool :: uu 30 ([])),[]⟩),(.exit 0,⟨(.rd (.struct [.int .i64,.str,.int .i64,.int .i64,.int .i64]) :: uu 32 ([])),[]⟩)],fun _ ds k=>dL (fun x0 ds=>dL (fun x1 ds=>dI (fun x2 ds=>dI (fun x3 ds=>dE ((F x0 x1 x2 x3).bind (Sum.elim (fun y=>k 0 [.L y.1,.B y.2]) (fun y=>k 1 [.L y]))) ds) ds) ds) ds) ds⟩
theorem q_Z31 (F:T_Z31) (x0 x1:List D) (x2 x3:Int):runLoop (ocOf [e_Z23,e_Z30]) (olOf [m_Z31 F]) A 30 (codeAt (bodyOf Try.f30) 2) ((m_Z31 F).sh.mk' [.L x0,.L x1,.I x2,.I x3]) (fun e σ'=>some (e,σ'))=c_Z31 F x0 x1 x2 x3 (Sum.elim (fun y=>some (.ret,SSt.mk' ⟨(.rd (.struct [.int .i64,.str,.int .i64,.int .i64,.int .i64]) :: .undef :: .bool :: uu 30 ([])),[]⟩ [.L y.1,.B y.2])) (fun y=>some (.exit 0,SSt.mk' ⟨(.rd (.struct [.int .i64,.str,.int .i64,.int .i64,.int .i64]) :: uu 32 ([])),[]⟩ [.L y]))):=by kernel_rfl
theorem m_Z31_ok:∀ n,(m_Z31 (n_Z31 n)).ok Try.prog (codeAt (bodyOf Try.f30) 2):=by
 intro n
 induction n with
 | zero=>
  intro R ds k r h
  unfold m_Z31 at h
  obtain ⟨_,_,rfl,h⟩:=dL_some h
  obtain ⟨_,_,rfl,h⟩:=dL_some h
  obtain ⟨_,_,rfl,h⟩:=dI_some h
  obtain ⟨_,_,rfl,h⟩:=dI_some h
  obtain ⟨rfl,hE⟩:=dE_some h
  obtain ⟨y,hy,hk⟩:=bnd_some hE
  cases hy
 | succ n ih=>
  intro R ds k r h
  unfold m_Z31 at h
  obtain ⟨_,_,rfl,h⟩:=dL_some h
  obtain ⟨_,_,rfl,h⟩:=dL_some h
  obtain ⟨_,_,rfl,h⟩:=dI_some h
  obtain ⟨_,_,rfl,h⟩:=dI_some h
  obtain ⟨rfl,hE⟩:=dE_some h
  obtain ⟨y,hy,hk⟩:=bnd_some hE
  cases y with
  | inl y=>
   exact ⟨0,_,_,_,hk,rfl,loop_ok px (fx:=⟨Try.func30,by kernel_rfl,by kernel_rfl⟩) (entsOK_cons e_Z23_ok (entsOK_cons e_Z30_ok entsOK_nil)) (lentsOK_cons ih lentsOK_nil) (by kernel_rfl) ((q_Z31 ..).trans ((c_Z31_bind ..).trans (bnd_to hy)))⟩
  | inr y=>
   exact ⟨1,_,_,_,hk,rfl,loop_ok px (fx:=⟨Try.func30,by kernel_rfl,by kernel_rfl⟩) (entsOK_cons e_Z23_ok (entsOK_cons e_Z30_ok entsOK_nil)) (lentsOK_cons ih lentsOK_nil) (by kernel_rfl) ((q_Z31 ..).trans ((c_Z31_bind ..).trans (bnd_to hy)))⟩
noncomputable def e_Z31:Lent:=m_Z31 (Z31)
theorem e_Z31_ok:(e_Z31).ok Try.prog (codeAt (bodyOf Try.f30) 2):=by
 intro R ds k r h
 unfold e_Z31 m_Z31 at h
 obtain ⟨_,_,rfl,h⟩:=dL_some h
 obtain ⟨_,_,rfl,h⟩:=dL_some h
 obtain ⟨_,_,rfl,h⟩:=dI_some h
 obtain ⟨_,_,rfl,h⟩:=dI_some h
 obtain ⟨rfl,hE⟩:=dE_some h
 obtain ⟨y,hy,hk⟩:=bnd_some hE
 obtain ⟨n,hn⟩:=ev_some hy
 exact m_Z31_ok n R _ k r ((bnd_to hn).trans hk)

/-!-/
def c_Z32 {R:Type} (x0:List D) (k:Bool→Option R):Option R:=
 (Z31 x0 x0 (↑x0.length:Int) (0:Int)).bind (Sum.elim (fun y0=>
 k y0.snd) (fun y1=>
 k (decide ((↑y1.length:Int)≤(30:Int)))))
theorem c_Z32_bind {R:Type} (x0:List D) (k:Bool→Option R):c_Z32 x0 k=(c_Z32 x0 some).bind k:=by
 unfold c_Z32
 repeat' first|exact bnd_tail|exact bnd_none|exact bnd_leaf|apply bnd_ite|apply bnd_cond|apply bnd_sum|(apply bnd_bind;intro _)|intro _
def Z32 (x0:List D):Option (Bool):=c_Z32 x0 some
def e_Z32:Ent:=⟨30,[.rd (.struct [.int .i64,.str,.int .i64,.int .i64,.int .i64])],[(.bool,[.undef])],fun _ ds k=>dL (fun x0 ds=>dE ((Z32 x0).bind (fun y=>k 0 [.B y])) ds) ds⟩
theorem q_Z32 (x0:List D):runFn (ocOf []) (olOf [e_Z31]) A 30 Try.f30 (Sh.mks e_Z32.sh [.L x0]).1 (fun v os=>some (v,os))=c_Z32 x0 (fun y=>retO e_Z32 0 [.B y]):=by kernel_rfl
theorem e_Z32_ok:e_Z32.ok Try.prog A:=by
 intro R ds k r h
 unfold e_Z32 at h
 obtain ⟨_,_,rfl,h⟩:=dL_some h
 obtain ⟨rfl,hE⟩:=dE_some h
 obtain ⟨y,hy,hk⟩:=bnd_some hE
 exact ⟨0,_,_,_,hk,rfl,fn_ok px (fx:=⟨Try.func30,by kernel_rfl,by kernel_rfl⟩) entsOK_nil (lentsOK_cons e_Z31_ok lentsOK_nil) ((q_Z32 ..).trans ((c_Z32_bind ..).trans (bnd_to hy)))⟩

/-!-/
abbrev T_Z33:=List D→Int→Int→List D→Option (List D)
def c_Z33 {R:Type} (F:T_Z33) (x0:List D) (x1 x2:Int) (x3:List D) (k:List D→Option R):Option R:=
 bif decide (x2<x1) then
 if 0≤x2∧x2<(↑x0.length:Int) then
 if x3.length + [D.str ((x0.getD x2.toNat (D.int 0)).fld (1:Nat)).toStr].length≤(4294967296:Nat) then
 (F x0 x1 (IntKind.i64.wrap (x2 + 1)) (x3 ++ [D.str ((x0.getD x2.toNat (D.int 0)).fld (1:Nat)).toStr])).bind k
 else
 none
 else
 none
 else
 k x3
theorem c_Z33_bind {R:Type} (F:T_Z33) (x0:List D) (x1 x2:Int) (x3:List D) (k:List D→Option R):c_Z33 F x0 x1 x2 x3 k=(c_Z33 F x0 x1 x2 x3 some).bind k:=by
 unfold c_Z33
 repeat' first|exact bnd_tail|exact bnd_none|exact bnd_leaf|apply bnd_ite|apply bnd_cond|apply bnd_sum|(apply bnd_bind;intro _)|intro _
def n_Z33:Nat→T_Z33
 | 0,_,_,_,_=>none
 | n + 1,x0,x1,x2,x3=>c_Z33 (n_Z33 n) x0 x1 x2 x3 some
noncomputable def Z33 (x0:List D) (x1 x2:Int) (x3:List D):Option (List D):=ev (fun n=>n_Z33 n x0 x1 x2 x3)
def m_Z33 (F:T_Z33):Lent:=⟨3,⟨(.undef :: .undef :: .undef :: .full 1000 [] (.str) :: .undef :: .undef :: .undef :: .rd (.struct [.int .i64,.str,.int .i64,.int .i64,.int .i64]) :: .int .i64 :: .int .i64 :: uu 13 ([])),[(1000,.own (.str))]⟩,[(.exit 0,⟨(.undef :: .undef :: .undef :: .full 1000 [] (.str) :: uu 19 ([])),[(1000,.own (.str))]⟩)],fun _ ds k=>dL (fun x0 ds=>dI (fun x1 ds=>dI (fun x2 ds=>dL (fun x3 ds=>dE ((F x0 x1 x2 x3).bind (fun y=>k 0 [.L y])) ds) ds) ds) ds) ds⟩
theorem q_Z33 (F:T_Z33) (x0:List D) (x1 x2:Int) (x3:List D):runLoop (ocOf []) (olOf [m_Z33 F]) A 31 (codeAt (bodyOf Try.f31) 3) ((m_Z33 F).sh.mk' [.L x0,.I x1,.I x2,.L x3]) (fun e σ'=>some (e,σ'))=c_Z33 F x0 x1 x2 x3 (fun y=>some (.exit 0,SSt.mk' ⟨(.undef :: .undef :: .undef :: .full 1000 [] (.str) :: uu 19 ([])),[(1000,.own (.str))]⟩ [.L y])):=by kernel_rfl
theorem m_Z33_ok:∀ n,(m_Z33 (n_Z33 n)).ok Try.prog (codeAt (bodyOf Try.f31) 3):=by
 intro n
 induction n with
 | zero=>
  intro R ds k r h
  unfold m_Z33 at h
  obtain ⟨_,_,rfl,h⟩:=dL_some h
  obtain ⟨_,_,rfl,h⟩:=dI_some h
  obtain ⟨_,_,rfl,h⟩:=dI_some h
  obtain ⟨_,_,rfl,h⟩:=dL_some h
  obtain ⟨rfl,hE⟩:=dE_some h
  obtain ⟨y,hy,hk⟩:=bnd_some hE
  cases hy
 | succ n ih=>
  intro R ds k r h
  unfold m_Z33 at h
  obtain ⟨_,_,rfl,h⟩:=dL_some h
  obtain ⟨_,_,rfl,h⟩:=dI_some h
  obtain ⟨_,_,rfl,h⟩:=dI_some h
  obtain ⟨_,_,rfl,h⟩:=dL_some h
  obtain ⟨rfl,hE⟩:=dE_some h
  obtain ⟨y,hy,hk⟩:=bnd_some hE
  exact ⟨0,_,_,_,hk,rfl,loop_ok px (fx:=⟨Try.func31,by kernel_rfl,by kernel_rfl⟩) entsOK_nil (lentsOK_cons ih lentsOK_nil) (by kernel_rfl) ((q_Z33 ..).trans ((c_Z33_bind ..).trans (bnd_to hy)))⟩
noncomputable def e_Z33:Lent:=m_Z33 (Z33)
theorem e_Z33_ok:(e_Z33).ok Try.prog (codeAt (bodyOf Try.f31) 3):=by
 intro R ds k r h
 unfold e_Z33 m_Z33 at h
 obtain ⟨_,_,rfl,h⟩:=dL_some h
 obtain ⟨_,_,rfl,h⟩:=dI_some h
 obtain ⟨_,_,rfl,h⟩:=dI_some h
 obtain ⟨_,_,rfl,h⟩:=dL_some h
 obtain ⟨rfl,hE⟩:=dE_some h
 obtain ⟨y,hy,hk⟩:=bnd_some hE
 obtain ⟨n,hn⟩:=ev_some hy
 exact m_Z33_ok n R _ k r ((bnd_to hn).trans hk)

/-!-/
def Z34 (x0:List D):Option (List D):=goSortS x0
def e_Z34:Ent:=entS 52
theorem e_Z34_ok:e_Z34.ok Try.prog A:=entS_ok lays190 rfl ⟨_,Try.func52,by kernel_rfl,by kernel_rfl⟩ (by kernel_rfl)

/-!-/
abbrev T_Z35:=Int→Nat→Nat→Int→List D→Option (Int × List D)
def c_Z35 {R:Type} (F:T_Z35) (x0:Int) (x1 x2:Nat) (x3:Int) (x4:List D) (k:Int × List D→Option R):Option R:=
 bif decide (x3<(↑x2:Int)) then
 if 0≤x3∧x3<(↑x2:Int) then
 if x1 + x2≤x4.length then
 if x1 + x3.toNat + 1≤x4.length then
 if (0:Int)≤IntKind.i64.wrap (x3 - 1)∧IntKind.i64.wrap (x3 - 1)<(↑x2:Int) then
 if x1 + x2≤x4.length then
 if x1 + (IntKind.i64.wrap (x3 - 1)).toNat + 1≤x4.length then
 bif !(x4.getD (x1 + x3.toNat) (D.int 0)).toStr.toList == (x4.getD (x1 + (IntKind.i64.wrap (x3 - 1)).toNat) (D.int 0)).toStr.toList then
 if 0≤x3∧x3<(↑x2:Int) then
 if x1 + x2≤x4.length then
 if x1 + x3.toNat + 1≤x4.length then
 if 0≤x0∧x0<(↑x4.length:Int) then
 if x0.toNat + 1≤x4.length then
 (F (IntKind.i64.wrap (x0 + 1)) x1 x2 (IntKind.i64.wrap (x3 + 1)) (x4.set x0.toNat (D.str (x4.getD (x1 + x3.toNat) (D.int 0)).toStr))).bind k
 else
 none
 else
 none
 else
 none
 else
 none
 else
 none
 else
 (F x0 x1 x2 (IntKind.i64.wrap (x3 + 1)) x4).bind k
 else
 none
 else
 none
 else
 none
 else
 none
 else
 none
 else
 none
 else
 k (x0,x4)
theorem c_Z35_bind {R:Type} (F:T_Z35) (x0:Int) (x1 x2:Nat) (x3:Int) (x4:List D) (k:Int × List D→Option R):c_Z35 F x0 x1 x2 x3 x4 k=(c_Z35 F x0 x1 x2 x3 x4 some).bind k:=by
 unfold c_Z35
 repeat' first|exact bnd_tail|exact bnd_none|exact bnd_leaf|apply bnd_ite|apply bnd_cond|apply bnd_sum|(apply bnd_bind;intro _)|intro _
def n_Z35:Nat→T_Z35
 | 0,_,_,_,_,_=>none
 | n + 1,x0,x1,x2,x3,x4=>c_Z35 (n_Z35 n) x0 x1 x2 x3 x4 some
noncomputable def Z35 (x0:Int) (x1 x2:Nat) (x3:Int) (x4:List D):Option (Int × List D):=ev (fun n=>n_Z35 n x0 x1 x2 x3 x4)
def m_Z35 (F:T_Z35):Lent:=⟨9,⟨(.full 1000 [] (.str) :: .undef :: .undef :: .int .i64 :: .sub 1000 [] (.str) :: .int .i64 :: uu 55 ([])),[(1000,.own (.str))]⟩,[(.exit 2,⟨(.full 1000 [] (.str) :: .undef :: .undef :: .int .i64 :: uu 57 ([])),[(1000,.own (.str))]⟩)],fun _ ds k=>dI (fun x0 ds=>dN (fun x1 ds=>dN (fun x2 ds=>dI (fun x3 ds=>dL (fun x4 ds=>dE ((F x0 x1 x2 x3 x4).bind (fun y=>k 0 [.I y.1,.L y.2])) ds) ds) ds) ds) ds) ds⟩
theorem q_Z35 (F:T_Z35) (x0:Int) (x1 x2:Nat) (x3:Int) (x4:List D):runLoop (ocOf []) (olOf [m_Z35 F]) A 53 (codeAt (bodyOf Try.f53) 9) ((m_Z35 F).sh.mk' [.I x0,.N x1,.N x2,.I x3,.L x4]) (fun e σ'=>some (e,σ'))=c_Z35 F x0 x1 x2 x3 x4 (fun y=>some (.exit 2,SSt.mk' ⟨(.full 1000 [] (.str) :: .undef :: .undef :: .int .i64 :: uu 57 ([])),[(1000,.own (.str))]⟩ [.I y.1,.L y.2])):=by kernel_rfl
theorem m_Z35_ok:∀ n,(m_Z35 (n_Z35 n)).ok Try.prog (codeAt (bodyOf Try.f53) 9):=by
 intro n
 induction n with
 | zero=>
  intro R ds k r h
  unfold m_Z35 at h
  obtain ⟨_,_,rfl,h⟩:=dI_some h
  obtain ⟨_,_,rfl,h⟩:=dN_some h
  obtain ⟨_,_,rfl,h⟩:=dN_some h
  obtain ⟨_,_,rfl,h⟩:=dI_some h
  obtain ⟨_,_,rfl,h⟩:=dL_some h
  obtain ⟨rfl,hE⟩:=dE_some h
  obtain ⟨y,hy,hk⟩:=bnd_some hE
  cases hy
 | succ n ih=>
  intro R ds k r h
  unfold m_Z35 at h
  obtain ⟨_,_,rfl,h⟩:=dI_some h
  obtain ⟨_,_,rfl,h⟩:=dN_some h
  obtain ⟨_,_,rfl,h⟩:=dN_some h
  obtain ⟨_,_,rfl,h⟩:=dI_some h
  obtain ⟨_,_,rfl,h⟩:=dL_some h
  obtain ⟨rfl,hE⟩:=dE_some h
  obtain ⟨y,hy,hk⟩:=bnd_some hE
  exact ⟨0,_,_,_,hk,rfl,loop_ok px (fx:=⟨Try.func53,by kernel_rfl,by kernel_rfl⟩) entsOK_nil (lentsOK_cons ih lentsOK_nil) (by kernel_rfl) ((q_Z35 ..).trans ((c_Z35_bind ..).trans (bnd_to hy)))⟩
noncomputable def e_Z35:Lent:=m_Z35 (Z35)
theorem e_Z35_ok:(e_Z35).ok Try.prog (codeAt (bodyOf Try.f53) 9):=by
 intro R ds k r h
 unfold e_Z35 m_Z35 at h
 obtain ⟨_,_,rfl,h⟩:=dI_some h
 obtain ⟨_,_,rfl,h⟩:=dN_some h
 obtain ⟨_,_,rfl,h⟩:=dN_some h
 obtain ⟨_,_,rfl,h⟩:=dI_some h
 obtain ⟨_,_,rfl,h⟩:=dL_some h
 obtain ⟨rfl,hE⟩:=dE_some h
 obtain ⟨y,hy,hk⟩:=bnd_some hE
 obtain ⟨n,hn⟩:=ev_some hy
 exact m_Z35_ok n R _ k r ((bnd_to hn).trans hk)

/-!-/
abbrev T_Z36:=Int→List D→Option ((Nat × Nat × List D) ⊕ (List D))
def c_Z36 {R:Type} (F:T_Z36) (x0:Int) (x1:List D) (k:(Nat × Nat × List D) ⊕ (List D)→Option R):Option R:=
 bif decide (x0<(↑x1.length:Int)) then
 if 0≤x0∧x0<(↑x1.length:Int) then
 if x0.toNat + 1≤x1.length then
 if (0:Int)≤IntKind.i64.wrap (x0 - 1)∧IntKind.i64.wrap (x0 - 1)<(↑x1.length:Int) then
 if (IntKind.i64.wrap (x0 - 1)).toNat + 1≤x1.length then
 bif (x1.getD x0.toNat (D.int 0)).toStr.toList == (x1.getD (IntKind.i64.wrap (x0 - 1)).toNat (D.int 0)).toStr.toList then
 if 0≤x0∧x0≤(↑x1.length:Int)∧(↑x1.length:Int)≤(↑x1.length:Int) then
 (Z35 x0 x0.toNat (x1.length - x0.toNat) (1:Int) x1).bind (fun y0=>
 if 0≤y0.fst∧y0.fst≤(↑y0.snd.length:Int)∧(↑y0.snd.length:Int)≤(↑y0.snd.length:Int) then
 if y0.fst.toNat + (y0.snd.length - y0.fst.toNat)≤y0.snd.length then
 if (0:Int)≤(0:Int)∧0≤y0.fst∧y0.fst≤(↑(List.take y0.fst.toNat y0.snd ++ List.replicate (y0.snd.length - y0.fst.toNat) (D.str bytes_0) ++ List.drop (y0.fst.toNat + (List.replicate (y0.snd.length - y0.fst.toNat) (D.str bytes_0)).length) y0.snd).length:Int) then
 k (.inl ((0:Nat),y0.fst.toNat - (0:Nat),List.take y0.fst.toNat y0.snd ++ List.replicate (y0.snd.length - y0.fst.toNat) (D.str bytes_0) ++ List.drop (y0.fst.toNat + (List.replicate (y0.snd.length - y0.fst.toNat) (D.str bytes_0)).length) y0.snd))
 else
 none
 else
 none
 else
 none)
 else
 none
 else
 (F (IntKind.i64.wrap (x0 + 1)) x1).bind k
 else
 none
 else
 none
 else
 none
 else
 none
 else
 k (.inr x1)
theorem c_Z36_bind {R:Type} (F:T_Z36) (x0:Int) (x1:List D) (k:(Nat × Nat × List D) ⊕ (List D)→Option R):c_Z36 F x0 x1 k=(c_Z36 F x0 x1 some).bind k:=by
 unfold c_Z36
 repeat' first|exact bnd_tail|exact bnd_none|exact bnd_leaf|apply bnd_ite|apply bnd_cond|apply bnd_sum|(apply bnd_bind;intro _)|intro _
def n_Z36:Nat→T_Z36
 | 0,_,_=>none
 | n + 1,x0,x1=>c_Z36 (n_Z36 n) x0 x1 some
noncomputable def Z36 (x0:Int) (x1:List D):Option ((Nat × Nat × List D) ⊕ (List D)):=ev (fun n=>n_Z36 n x0 x1)
def m_Z36 (F:T_Z36):Lent:=⟨4,⟨(.full 1000 [] (.str) :: .undef :: .undef :: .int .i64 :: uu 57 ([])),[(1000,.own (.str))]⟩,[(.ret,⟨(.full 1000 [] (.str) :: .undef :: .sub 1000 [] (.str) :: uu 58 ([])),[(1000,.own (.str))]⟩),(.exit 0,⟨(.full 1000 [] (.str) :: uu 60 ([])),[(1000,.own (.str))]⟩)],fun _ ds k=>dI (fun x0 ds=>dL (fun x1 ds=>dE ((F x0 x1).bind (Sum.elim (fun y=>k 0 [.N y.1,.N y.2.1,.L y.2.2]) (fun y=>k 1 [.L y]))) ds) ds) ds⟩
theorem q_Z36 (F:T_Z36) (x0:Int) (x1:List D):runLoop (ocOf []) (olOf [m_Z36 F,e_Z35]) A 53 (codeAt (bodyOf Try.f53) 4) ((m_Z36 F).sh.mk' [.I x0,.L x1]) (fun e σ'=>some (e,σ'))=c_Z36 F x0 x1 (Sum.elim (fun y=>some (.ret,SSt.mk' ⟨(.full 1000 [] (.str) :: .undef :: .sub 1000 [] (.str) :: uu 58 ([])),[(1000,.own (.str))]⟩ [.N y.1,.N y.2.1,.L y.2.2])) (fun y=>some (.exit 0,SSt.mk' ⟨(.full 1000 [] (.str) :: uu 60 ([])),[(1000,.own (.str))]⟩ [.L y]))):=by kernel_rfl
theorem m_Z36_ok:∀ n,(m_Z36 (n_Z36 n)).ok Try.prog (codeAt (bodyOf Try.f53) 4):=by
 intro n
 induction n with
 | zero=>
  intro R ds k r h
  unfold m_Z36 at h
  obtain ⟨_,_,rfl,h⟩:=dI_some h
  obtain ⟨_,_,rfl,h⟩:=dL_some h
  obtain ⟨rfl,hE⟩:=dE_some h
  obtain ⟨y,hy,hk⟩:=bnd_some hE
  cases hy
 | succ n ih=>
  intro R ds k r h
  unfold m_Z36 at h
  obtain ⟨_,_,rfl,h⟩:=dI_some h
  obtain ⟨_,_,rfl,h⟩:=dL_some h
  obtain ⟨rfl,hE⟩:=dE_some h
  obtain ⟨y,hy,hk⟩:=bnd_some hE
  cases y with
  | inl y=>
   exact ⟨0,_,_,_,hk,rfl,loop_ok px (fx:=⟨Try.func53,by kernel_rfl,by kernel_rfl⟩) entsOK_nil (lentsOK_cons ih (lentsOK_cons e_Z35_ok lentsOK_nil)) (by kernel_rfl) ((q_Z36 ..).trans ((c_Z36_bind ..).trans (bnd_to hy)))⟩
  | inr y=>
   exact ⟨1,_,_,_,hk,rfl,loop_ok px (fx:=⟨Try.func53,by kernel_rfl,by kernel_rfl⟩) entsOK_nil (lentsOK_cons ih (lentsOK_cons e_Z35_ok lentsOK_nil)) (by kernel_rfl) ((q_Z36 ..).trans ((c_Z36_bind ..).trans (bnd_to hy)))⟩
noncomputable def e_Z36:Lent:=m_Z36 (Z36)
theorem e_Z36_ok:(e_Z36).ok Try.prog (codeAt (bodyOf Try.f53) 4):=by
 intro R ds k r h
 unfold e_Z36 m_Z36 at h
 obtain ⟨_,_,rfl,h⟩:=dI_some h
 obtain ⟨_,_,rfl,h⟩:=dL_some h
 obtain ⟨rfl,hE⟩:=dE_some h
 obtain ⟨y,hy,hk⟩:=bnd_some hE
 obtain ⟨n,hn⟩:=ev_some hy
 exact m_Z36_ok n R _ k r ((bnd_to hn).trans hk)

/-!-/
def c_Z37 {R:Type} (x0:List D) (k:List D→Option R):Option R:=
 bif decide ((↑x0.length:Int)<(2:Int)) then
 k x0
 else
 (Z36 (1:Int) x0).bind (Sum.elim (fun y0=>
 if y0.fst + y0.snd.fst≤y0.snd.snd.length then
 k (List.take y0.snd.fst (List.drop y0.fst y0.snd.snd))
 else
 none) (fun y1=>
 k y1))
theorem c_Z37_bind {R:Type} (x0:List D) (k:List D→Option R):c_Z37 x0 k=(c_Z37 x0 some).bind k:=by
 unfold c_Z37
 repeat' first|exact bnd_tail|exact bnd_none|exact bnd_leaf|apply bnd_ite|apply bnd_cond|apply bnd_sum|(apply bnd_bind;intro _)|intro _
def Z37 (x0:List D):Option (List D):=c_Z37 x0 some
def e_Z37:Ent:=⟨53,[.own (.str)],[(.own (.str),[.undef])],fun _ ds k=>dL (fun x0 ds=>dE ((Z37 x0).bind (fun y=>k 0 [.L y])) ds) ds⟩
theorem q_Z37 (x0:List D):runFn (ocOf []) (olOf [e_Z36]) A 53 Try.f53 (Sh.mks e_Z37.sh [.L x0]).1 (fun v os=>some (v,os))=c_Z37 x0 (fun y=>retO e_Z37 0 [.L y]):=by kernel_rfl
theorem e_Z37_ok:e_Z37.ok Try.prog A:=by
 intro R ds k r h
 unfold e_Z37 at h
 obtain ⟨_,_,rfl,h⟩:=dL_some h
 obtain ⟨rfl,hE⟩:=dE_some h
 obtain ⟨y,hy,hk⟩:=bnd_some hE
 exact ⟨0,_,_,_,hk,rfl,fn_ok px (fx:=⟨Try.func53,by kernel_rfl,by kernel_rfl⟩) entsOK_nil (lentsOK_cons e_Z36_ok lentsOK_nil) ((q_Z37 ..).trans ((c_Z37_bind ..).trans (bnd_to hy)))⟩

/-!-/
def c_Z38 {R:Type} (x0:List D) (k:List D→Option R):Option R:=
 (Z33 x0 (↑x0.length:Int) (0:Int) []).bind (fun y0=>
 (Z34 y0).bind (fun y1=>
 (Z37 y1).bind (fun y2=>
 k y2)))
theorem c_Z38_bind {R:Type} (x0:List D) (k:List D→Option R):c_Z38 x0 k=(c_Z38 x0 some).bind k:=by
 unfold c_Z38
 repeat' first|exact bnd_tail|exact bnd_none|exact bnd_leaf|apply bnd_ite|apply bnd_cond|apply bnd_sum|(apply bnd_bind;intro _)|intro _
def Z38 (x0:List D):Option (List D):=c_Z38 x0 some
def e_Z38:Ent:=⟨31,[.rd (.struct [.int .i64,.str,.int .i64,.int .i64,.int .i64])],[(.own (.str),[.undef])],fun _ ds k=>dL (fun x0 ds=>dE ((Z38 x0).bind (fun y=>k 0 [.L y])) ds) ds⟩
theorem q_Z38 (x0:List D):runFn (ocOf [e_Z34,e_Z37]) (olOf [e_Z33]) A 31 Try.f31 (Sh.mks e_Z38.sh [.L x0]).1 (fun v os=>some (v,os))=c_Z38 x0 (fun y=>retO e_Z38 0 [.L y]):=by kernel_rfl
theorem e_Z38_ok:e_Z38.ok Try.prog A:=by
 intro R ds k r h
 unfold e_Z38 at h
 obtain ⟨_,_,rfl,h⟩:=dL_some h
 obtain ⟨rfl,hE⟩:=dE_some h
 obtain ⟨y,hy,hk⟩:=bnd_some hE
 exact ⟨0,_,_,_,hk,rfl,fn_ok px (fx:=⟨Try.func31,by kernel_rfl,by kernel_rfl⟩) (entsOK_cons e_Z34_ok (entsOK_cons e_Z37_ok entsOK_nil)) (lentsOK_cons e_Z33_ok lentsOK_nil) ((q_Z38 ..).trans ((c_Z38_bind ..).trans (bnd_to hy)))⟩

/-!-/
def c_Z39 {R:Type} (x0:List D) (k:List D × Bool→Option R):Option R:=
 (Z32 x0).bind (fun y0=>
 bif !y0 then
 k ([],Bool.false)
 else
 (Z38 x0).bind (fun y1=>
 k (y1,Bool.true)))
theorem c_Z39_bind {R:Type} (x0:List D) (k:List D × Bool→Option R):c_Z39 x0 k=(c_Z39 x0 some).bind k:=by
 unfold c_Z39
 repeat' first|exact bnd_tail|exact bnd_none|exact bnd_leaf|apply bnd_ite|apply bnd_cond|apply bnd_sum|(apply bnd_bind;intro _)|intro _
def Z39 (x0:List D):Option (List D × Bool):=c_Z39 x0 some
def e_Z39:Ent:=⟨10,[.rd (.struct [.int .i64,.str,.int .i64,.int .i64,.int .i64])],[(.tup [.own (.str),.bool],[.undef])],fun _ ds k=>dL (fun x0 ds=>dE ((Z39 x0).bind (fun y=>k 0 [.L y.1,.B y.2])) ds) ds⟩
theorem q_Z39 (x0:List D):runFn (ocOf [e_Z32,e_Z38]) (olOf []) A 10 Try.f10 (Sh.mks e_Z39.sh [.L x0]).1 (fun v os=>some (v,os))=c_Z39 x0 (fun y=>retO e_Z39 0 [.L y.1,.B y.2]):=by kernel_rfl
theorem e_Z39_ok:e_Z39.ok Try.prog A:=by
 intro R ds k r h
 unfold e_Z39 at h
 obtain ⟨_,_,rfl,h⟩:=dL_some h
 obtain ⟨rfl,hE⟩:=dE_some h
 obtain ⟨y,hy,hk⟩:=bnd_some hE
 exact ⟨0,_,_,_,hk,rfl,fn_ok px (fx:=⟨Try.func10,by kernel_rfl,by kernel_rfl⟩) (entsOK_cons e_Z32_ok (entsOK_cons e_Z38_ok entsOK_nil)) lentsOK_nil ((q_Z39 ..).trans ((c_Z39_bind ..).trans (bnd_to hy)))⟩

/-!-/
abbrev T_Z40:=List D→List D→Int→Option ((Bool) ⊕ (Unit))
def c_Z40 {R:Type} (F:T_Z40) (x0 x1:List D) (x2:Int) (k:(Bool) ⊕ (Unit)→Option R):Option R:=
 bif decide (x2<(↑x0.length:Int)) then
 if 0≤x2∧x2<(↑x0.length:Int) then
 if 0≤x2∧x2<(↑x1.length:Int) then
 bif !(x0.getD x2.toNat (D.int 0)).toStr.toList == (x1.getD x2.toNat (D.int 0)).toStr.toList then
 k (.inl Bool.false)
 else
 (F x0 x1 (IntKind.i64.wrap (x2 + 1))).bind k
 else
 none
 else
 none
 else
 k (.inr ())
theorem c_Z40_bind {R:Type} (F:T_Z40) (x0 x1:List D) (x2:Int) (k:(Bool) ⊕ (Unit)→Option R):c_Z40 F x0 x1 x2 k=(c_Z40 F x0 x1 x2 some).bind k:=by
 unfold c_Z40
 repeat' first|exact bnd_tail|exact bnd_none|exact bnd_leaf|apply bnd_ite|apply bnd_cond|apply bnd_sum|(apply bnd_bind;intro _)|intro _
def n_Z40:Nat→T_Z40
 | 0,_,_,_=>none
 | n + 1,x0,x1,x2=>c_Z40 (n_Z40 n) x0 x1 x2 some
noncomputable def Z40 (x0 x1:List D) (x2:Int):Option ((Bool) ⊕ (Unit)):=ev (fun n=>n_Z40 n x0 x1 x2)
def m_Z40 (F:T_Z40):Lent:=⟨4,⟨(.rd (.str) :: .rd (.str) :: .undef :: .undef :: .undef :: .int .i64 :: uu 20 ([])),[]⟩,[(.ret,⟨(uu 4 (.bool :: uu 21 ([]))),[]⟩),(.exit 0,⟨(uu 26 ([])),[]⟩)],fun _ ds k=>dL (fun x0 ds=>dL (fun x1 ds=>dI (fun x2 ds=>dE ((F x0 x1 x2).bind (Sum.elim (fun y=>k 0 [.B y]) (fun y=>k 1 []))) ds) ds) ds) ds⟩
theorem q_Z40 (F:T_Z40) (x0 x1:List D) (x2:Int):runLoop (ocOf []) (olOf [m_Z40 F]) A 11 (codeAt (bodyOf Try.f11) 4) ((m_Z40 F).sh.mk' [.L x0,.L x1,.I x2]) (fun e σ'=>some (e,σ'))=c_Z40 F x0 x1 x2 (Sum.elim (fun y=>some (.ret,SSt.mk' ⟨(uu 4 (.bool :: uu 21 ([]))),[]⟩ [.B y])) (fun y=>some (.exit 0,SSt.mk' ⟨(uu 26 ([])),[]⟩ []))):=by kernel_rfl
theorem m_Z40_ok:∀ n,(m_Z40 (n_Z40 n)).ok Try.prog (codeAt (bodyOf Try.f11) 4):=by
 intro n
 induction n with
 | zero=>
  intro R ds k r h
  unfold m_Z40 at h
  obtain ⟨_,_,rfl,h⟩:=dL_some h
  obtain ⟨_,_,rfl,h⟩:=dL_some h
  obtain ⟨_,_,rfl,h⟩:=dI_some h
  obtain ⟨rfl,hE⟩:=dE_some h
  obtain ⟨y,hy,hk⟩:=bnd_some hE
  cases hy
 | succ n ih=>
  intro R ds k r h
  unfold m_Z40 at h
  obtain ⟨_,_,rfl,h⟩:=dL_some h
  obtain ⟨_,_,rfl,h⟩:=dL_some h
  obtain ⟨_,_,rfl,h⟩:=dI_some h
  obtain ⟨rfl,hE⟩:=dE_some h
  obtain ⟨y,hy,hk⟩:=bnd_some hE
  cases y with
  | inl y=>
   exact ⟨0,_,_,_,hk,rfl,loop_ok px (fx:=⟨Try.func11,by kernel_rfl,by kernel_rfl⟩) entsOK_nil (lentsOK_cons ih lentsOK_nil) (by kernel_rfl) ((q_Z40 ..).trans ((c_Z40_bind ..).trans (bnd_to hy)))⟩
  | inr y=>
   exact ⟨1,_,_,_,hk,rfl,loop_ok px (fx:=⟨Try.func11,by kernel_rfl,by kernel_rfl⟩) entsOK_nil (lentsOK_cons ih lentsOK_nil) (by kernel_rfl) ((q_Z40 ..).trans ((c_Z40_bind ..).trans (bnd_to hy)))⟩
noncomputable def e_Z40:Lent:=m_Z40 (Z40)
theorem e_Z40_ok:(e_Z40).ok Try.prog (codeAt (bodyOf Try.f11) 4):=by
 intro R ds k r h
 unfold e_Z40 m_Z40 at h
 obtain ⟨_,_,rfl,h⟩:=dL_some h
 obtain ⟨_,_,rfl,h⟩:=dL_some h
 obtain ⟨_,_,rfl,h⟩:=dI_some h
 obtain ⟨rfl,hE⟩:=dE_some h
 obtain ⟨y,hy,hk⟩:=bnd_some hE
 obtain ⟨n,hn⟩:=ev_some hy
 exact m_Z40_ok n R _ k r ((bnd_to hn).trans hk)

/-!-/
def c_Z41 {R:Type} (x0 x1:List D) (k:Bool→Option R):Option R:=
 bif !decide ((↑x0.length:Int)=(↑x1.length:Int)) then
 k Bool.false
 else
 (Z40 x0 x1 (0:Int)).bind (Sum.elim (fun y0=>
 k y0) (fun y1=>
 k Bool.true))
theorem c_Z41_bind {R:Type} (x0 x1:List D) (k:Bool→Option R):c_Z41 x0 x1 k=(c_Z41 x0 x1 some).bind k:=by
 unfold c_Z41
 repeat' first|exact bnd_tail|exact bnd_none|exact bnd_leaf|apply bnd_ite|apply bnd_cond|apply bnd_sum|(apply bnd_bind;intro _)|intro _
def Z41 (x0 x1:List D):Option (Bool):=c_Z41 x0 x1 some
def e_Z41:Ent:=⟨11,[.rd (.str),.rd (.str)],[(.bool,[.undef,.undef])],fun _ ds k=>dL (fun x0 ds=>dL (fun x1 ds=>dE ((Z41 x0 x1).bind (fun y=>k 0 [.B y])) ds) ds) ds⟩
theorem q_Z41 (x0 x1:List D):runFn (ocOf []) (olOf [e_Z40]) A 11 Try.f11 (Sh.mks e_Z41.sh [.L x0,.L x1]).1 (fun v os=>some (v,os))=c_Z41 x0 x1 (fun y=>retO e_Z41 0 [.B y]):=by kernel_rfl
theorem e_Z41_ok:e_Z41.ok Try.prog A:=by
 intro R ds k r h
 unfold e_Z41 at h
 obtain ⟨_,_,rfl,h⟩:=dL_some h
 obtain ⟨_,_,rfl,h⟩:=dL_some h
 obtain ⟨rfl,hE⟩:=dE_some h
 obtain ⟨y,hy,hk⟩:=bnd_some hE
 exact ⟨0,_,_,_,hk,rfl,fn_ok px (fx:=⟨Try.func11,by kernel_rfl,by kernel_rfl⟩) entsOK_nil (lentsOK_cons e_Z40_ok lentsOK_nil) ((q_Z41 ..).trans ((c_Z41_bind ..).trans (bnd_to hy)))⟩

/-!-/
def c_Z42 {R:Type} (x0:Int) (x1:ByteArray) (x2 x3 x4 x5:Int) (x6:ByteArray) (x7 x8 x9:Int) (k:Bool→Option R):Option R:=
 bif !decide (x0=x5) then
 k Bool.false
 else
 bif !x1.toList == x6.toList then
 k Bool.false
 else
 bif !decide (x2=x7) then
 k Bool.false
 else
 bif !decide (x3=x8) then
 k Bool.false
 else
 bif !decide (x4=x9) then
 k Bool.false
 else
 k Bool.true
theorem c_Z42_bind {R:Type} (x0:Int) (x1:ByteArray) (x2 x3 x4 x5:Int) (x6:ByteArray) (x7 x8 x9:Int) (k:Bool→Option R):c_Z42 x0 x1 x2 x3 x4 x5 x6 x7 x8 x9 k=(c_Z42 x0 x1 x2 x3 x4 x5 x6 x7 x8 x9 some).bind k:=by
 unfold c_Z42
 repeat' first|exact bnd_tail|exact bnd_none|exact bnd_leaf|apply bnd_ite|apply bnd_cond|apply bnd_sum|(apply bnd_bind;intro _)|intro _
def Z42 (x0:Int) (x1:ByteArray) (x2 x3 x4 x5:Int) (x6:ByteArray) (x7 x8 x9:Int):Option (Bool):=c_Z42 x0 x1 x2 x3 x4 x5 x6 x7 x8 x9 some
def e_Z42:Ent:=⟨32,[.agg [.int .i64,.str,.int .i64,.int .i64,.int .i64],.agg [.int .i64,.str,.int .i64,.int .i64,.int .i64]],[(.bool,[.undef,.undef])],fun _ ds k=>dI (fun x0 ds=>dS (fun x1 ds=>dI (fun x2 ds=>dI (fun x3 ds=>dI (fun x4 ds=>dI (fun x5 ds=>dS (fun x6 ds=>dI (fun x7 ds=>dI (fun x8 ds=>dI (fun x9 ds=>dE ((Z42 x0 x1 x2 x3 x4 x5 x6 x7 x8 x9).bind (fun y=>k 0 [.B y])) ds) ds) ds) ds) ds) ds) ds) ds) ds) ds) ds⟩
theorem q_Z42 (x0:Int) (x1:ByteArray) (x2 x3 x4 x5:Int) (x6:ByteArray) (x7 x8 x9:Int):runFn (ocOf []) (olOf []) A 32 Try.f32 (Sh.mks e_Z42.sh [.I x0,.S x1,.I x2,.I x3,.I x4,.I x5,.S x6,.I x7,.I x8,.I x9]).1 (fun v os=>some (v,os))=c_Z42 x0 x1 x2 x3 x4 x5 x6 x7 x8 x9 (fun y=>retO e_Z42 0 [.B y]):=by kernel_rfl
theorem e_Z42_ok:e_Z42.ok Try.prog A:=by
 intro R ds k r h
 unfold e_Z42 at h
 obtain ⟨_,_,rfl,h⟩:=dI_some h
 obtain ⟨_,_,rfl,h⟩:=dS_some h
 obtain ⟨_,_,rfl,h⟩:=dI_some h
 obtain ⟨_,_,rfl,h⟩:=dI_some h
 obtain ⟨_,_,rfl,h⟩:=dI_some h
 obtain ⟨_,_,rfl,h⟩:=dI_some h
 obtain ⟨_,_,rfl,h⟩:=dS_some h
 obtain ⟨_,_,rfl,h⟩:=dI_some h
 obtain ⟨_,_,rfl,h⟩:=dI_some h
 obtain ⟨_,_,rfl,h⟩:=dI_some h
 obtain ⟨rfl,hE⟩:=dE_some h
 obtain ⟨y,hy,hk⟩:=bnd_some hE
 exact ⟨0,_,_,_,hk,rfl,fn_ok px (fx:=⟨Try.func32,by kernel_rfl,by kernel_rfl⟩) entsOK_nil lentsOK_nil ((q_Z42 ..).trans ((c_Z42_bind ..).trans (bnd_to hy)))⟩

/-!-/
abbrev T_Z43:=List D→List D→Int→Option ((Bool) ⊕ (Unit))
def c_Z43 {R:Type} (F:T_Z43) (x0 x1:List D) (x2:Int) (k:(Bool) ⊕ (Unit)→Option R):Option R:=
 bif decide (x2<(↑x0.length:Int)) then
 if 0≤x2∧x2<(↑x0.length:Int) then
 if 0≤x2∧x2<(↑x1.length:Int) then
 (Z42 (((x0.getD x2.toNat (D.int 0)).fld (0:Nat)).toInt) (((x0.getD x2.toNat (D.int 0)).fld (1:Nat)).toStr) (((x0.getD x2.toNat (D.int 0)).fld (2:Nat)).toInt) (((x0.getD x2.toNat (D.int 0)).fld (3:Nat)).toInt) (((x0.getD x2.toNat (D.int 0)).fld (4:Nat)).toInt) (((x1.getD x2.toNat (D.int 0)).fld (0:Nat)).toInt) (((x1.getD x2.toNat (D.int 0)).fld (1:Nat)).toStr) (((x1.getD x2.toNat (D.int 0)).fld (2:Nat)).toInt) (((x1.getD x2.toNat (D.int 0)).fld (3:Nat)).toInt) (((x1.getD x2.toNat (D.int 0)).fld (4:Nat)).toInt)).bind (fun y0=>
 bif !y0 then
 k (.inl Bool.false)
 else
 (F x0 x1 (IntKind.i64.wrap (x2 + 1))).bind k)
 else
 none
 else
 none
 else
 k (.inr ())
theorem c_Z43_bind {R:Type} (F:T_Z43) (x0 x1:List D) (x2:Int) (k:(Bool) ⊕ (Unit)→Option R):c_Z43 F x0 x1 x2 k=(c_Z43 F x0 x1 x2 some).bind k:=by
 unfold c_Z43
 repeat' first|exact bnd_tail|exact bnd_none|exact bnd_leaf|apply bnd_ite|apply bnd_cond|apply bnd_sum|(apply bnd_bind;intro _)|intro _
def n_Z43:Nat→T_Z43
 | 0,_,_,_=>none
 | n + 1,x0,x1,x2=>c_Z43 (n_Z43 n) x0 x1 x2 some
noncomputable def Z43 (x0 x1:List D) (x2:Int):Option ((Bool) ⊕ (Unit)):=ev (fun n=>n_Z43 n x0 x1 x2)
def m_Z43 (F:T_Z43):Lent:=⟨4,⟨(.rd (.struct [.int .i64,.str,.int .i64,.int .i64,.int .i64]) :: .rd (.struct [.int .i64,.str,.int .i64,.int .i64,.int .i64]) :: .undef :: .undef :: .undef :: .int .i64 :: uu 21 ([])),[]⟩,[(.ret,⟨(uu 4 (.bool :: uu 22 ([]))),[]⟩),(.exit 0,⟨(uu 27 ([])),[]⟩)],fun _ ds k=>dL (fun x0 ds=>dL (fun x1 ds=>dI (fun x2 ds=>dE ((F x0 x1 x2).bind (Sum.elim (fun y=>k 0 [.B y]) (fun y=>k 1 []))) ds) ds) ds) ds⟩
theorem q_Z43 (F:T_Z43) (x0 x1:List D) (x2:Int):runLoop (ocOf [e_Z42]) (olOf [m_Z43 F]) A 12 (codeAt (bodyOf Try.f12) 4) ((m_Z43 F).sh.mk' [.L x0,.L x1,.I x2]) (fun e σ'=>some (e,σ'))=c_Z43 F x0 x1 x2 (Sum.elim (fun y=>some (.ret,SSt.mk' ⟨(uu 4 (.bool :: uu 22 ([]))),[]⟩ [.B y])) (fun y=>some (.exit 0,SSt.mk' ⟨(uu 27 ([])),[]⟩ []))):=by kernel_rfl
theorem m_Z43_ok:∀ n,(m_Z43 (n_Z43 n)).ok Try.prog (codeAt (bodyOf Try.f12) 4):=by
 intro n
 induction n with
 | zero=>
  intro R ds k r h
  unfold m_Z43 at h
  obtain ⟨_,_,rfl,h⟩:=dL_some h
  obtain ⟨_,_,rfl,h⟩:=dL_some h
  obtain ⟨_,_,rfl,h⟩:=dI_some h
  obtain ⟨rfl,hE⟩:=dE_some h
  obtain ⟨y,hy,hk⟩:=bnd_some hE
  cases hy
 | succ n ih=>
  intro R ds k r h
  unfold m_Z43 at h
  obtain ⟨_,_,rfl,h⟩:=dL_some h
  obtain ⟨_,_,rfl,h⟩:=dL_some h
  obtain ⟨_,_,rfl,h⟩:=dI_some h
  obtain ⟨rfl,hE⟩:=dE_some h
  obtain ⟨y,hy,hk⟩:=bnd_some hE
  cases y with
  | inl y=>
   exact ⟨0,_,_,_,hk,rfl,loop_ok px (fx:=⟨Try.func12,by kernel_rfl,by kernel_rfl⟩) (entsOK_cons e_Z42_ok entsOK_nil) (lentsOK_cons ih lentsOK_nil) (by kernel_rfl) ((q_Z43 ..).trans ((c_Z43_bind ..).trans (bnd_to hy)))⟩
  | inr y=>
   exact ⟨1,_,_,_,hk,rfl,loop_ok px (fx:=⟨Try.func12,by kernel_rfl,by kernel_rfl⟩) (entsOK_cons e_Z42_ok entsOK_nil) (lentsOK_cons ih lentsOK_nil) (by kernel_rfl) ((q_Z43 ..).trans ((c_Z43_bind ..).trans (bnd_to hy)))⟩
noncomputable def e_Z43:Lent:=m_Z43 (Z43)
theorem e_Z43_ok:(e_Z43).ok Try.prog (codeAt (bodyOf Try.f12) 4):=by
 intro R ds k r h
 unfold e_Z43 m_Z43 at h
 obtain ⟨_,_,rfl,h⟩:=dL_some h
 obtain ⟨_,_,rfl,h⟩:=dL_some h
 obtain ⟨_,_,rfl,h⟩:=dI_some h
 obtain ⟨rfl,hE⟩:=dE_some h
 obtain ⟨y,hy,hk⟩:=bnd_some hE
 obtain ⟨n,hn⟩:=ev_some hy
 exact m_Z43_ok n R _ k r ((bnd_to hn).trans hk)

/-!-/
def c_Z44 {R:Type} (x0 x1:List D) (k:Bool→Option R):Option R:=
 bif !decide ((↑x0.length:Int)=(↑x1.length:Int)) then
 k Bool.false
 else
 (Z43 x0 x1 (0:Int)).bind (Sum.elim (fun y0=>
 k y0) (fun y1=>
 k Bool.true))
theorem c_Z44_bind {R:Type} (x0 x1:List D) (k:Bool→Option R):c_Z44 x0 x1 k=(c_Z44 x0 x1 some).bind k:=by
 unfold c_Z44
 repeat' first|exact bnd_tail|exact bnd_none|exact bnd_leaf|apply bnd_ite|apply bnd_cond|apply bnd_sum|(apply bnd_bind;intro _)|intro _
def Z44 (x0 x1:List D):Option (Bool):=c_Z44 x0 x1 some
def e_Z44:Ent:=⟨12,[.rd (.struct [.int .i64,.str,.int .i64,.int .i64,.int .i64]),.rd (.struct [.int .i64,.str,.int .i64,.int .i64,.int .i64])],[(.bool,[.undef,.undef])],fun _ ds k=>dL (fun x0 ds=>dL (fun x1 ds=>dE ((Z44 x0 x1).bind (fun y=>k 0 [.B y])) ds) ds) ds⟩
theorem q_Z44 (x0 x1:List D):runFn (ocOf []) (olOf [e_Z43]) A 12 Try.f12 (Sh.mks e_Z44.sh [.L x0,.L x1]).1 (fun v os=>some (v,os))=c_Z44 x0 x1 (fun y=>retO e_Z44 0 [.B y]):=by kernel_rfl
theorem e_Z44_ok:e_Z44.ok Try.prog A:=by
 intro R ds k r h
 unfold e_Z44 at h
 obtain ⟨_,_,rfl,h⟩:=dL_some h
 obtain ⟨_,_,rfl,h⟩:=dL_some h
 obtain ⟨rfl,hE⟩:=dE_some h
 obtain ⟨y,hy,hk⟩:=bnd_some hE
 exact ⟨0,_,_,_,hk,rfl,fn_ok px (fx:=⟨Try.func12,by kernel_rfl,by kernel_rfl⟩) entsOK_nil (lentsOK_cons e_Z43_ok lentsOK_nil) ((q_Z44 ..).trans ((c_Z44_bind ..).trans (bnd_to hy)))⟩

/-!-/
abbrev T_Z45:=Int→ByteArray→Option (ByteArray)
def c_Z45 {R:Type} (F:T_Z45) (x0:Int) (x1:ByteArray) (k:ByteArray→Option R):Option R:=
 bif decide ((0:Int)<x0) then
 if (10:Int) ≠ (0:Int) then
 if (bytesOf [D.int (IntKind.u8.wrap (IntKind.i64.wrap ((48:Int) + x0.tmod (10:Int))))]).size + x1.size≤(4294967296:Nat) then
 if (10:Int) ≠ (0:Int) then
 (F (IntKind.i64.wrap (x0.tdiv (10:Int))) (bytesOf [D.int (IntKind.u8.wrap (IntKind.i64.wrap ((48:Int) + x0.tmod (10:Int))))] ++ x1)).bind k
 else
 none
 else
 none
 else
 none
 else
 k x1
theorem c_Z45_bind {R:Type} (F:T_Z45) (x0:Int) (x1:ByteArray) (k:ByteArray→Option R):c_Z45 F x0 x1 k=(c_Z45 F x0 x1 some).bind k:=by
 unfold c_Z45
 repeat' first|exact bnd_tail|exact bnd_none|exact bnd_leaf|apply bnd_ite|apply bnd_cond|apply bnd_sum|(apply bnd_bind;intro _)|intro _
def n_Z45:Nat→T_Z45
 | 0,_,_=>none
 | n + 1,x0,x1=>c_Z45 (n_Z45 n) x0 x1 some
noncomputable def Z45 (x0:Int) (x1:ByteArray):Option (ByteArray):=ev (fun n=>n_Z45 n x0 x1)
def m_Z45 (F:T_Z45):Lent:=⟨4,⟨(.int .i64 :: .undef :: .undef :: .str :: uu 16 ([])),[]⟩,[(.exit 0,⟨(.undef :: .undef :: .undef :: .str :: uu 16 ([])),[]⟩)],fun _ ds k=>dI (fun x0 ds=>dS (fun x1 ds=>dE ((F x0 x1).bind (fun y=>k 0 [.S y])) ds) ds) ds⟩
theorem q_Z45 (F:T_Z45) (x0:Int) (x1:ByteArray):runLoop (ocOf []) (olOf [m_Z45 F]) A 33 (codeAt (bodyOf Try.f33) 4) ((m_Z45 F).sh.mk' [.I x0,.S x1]) (fun e σ'=>some (e,σ'))=c_Z45 F x0 x1 (fun y=>some (.exit 0,SSt.mk' ⟨(.undef :: .undef :: .undef :: .str :: uu 16 ([])),[]⟩ [.S y])):=by kernel_rfl
theorem m_Z45_ok:∀ n,(m_Z45 (n_Z45 n)).ok Try.prog (codeAt (bodyOf Try.f33) 4):=by
 intro n
 induction n with
 | zero=>
  intro R ds k r h
  unfold m_Z45 at h
  obtain ⟨_,_,rfl,h⟩:=dI_some h
  obtain ⟨_,_,rfl,h⟩:=dS_some h
  obtain ⟨rfl,hE⟩:=dE_some h
  obtain ⟨y,hy,hk⟩:=bnd_some hE
  cases hy
 | succ n ih=>
  intro R ds k r h
  unfold m_Z45 at h
  obtain ⟨_,_,rfl,h⟩:=dI_some h
  obtain ⟨_,_,rfl,h⟩:=dS_some h
  obtain ⟨rfl,hE⟩:=dE_some h
  obtain ⟨y,hy,hk⟩:=bnd_some hE
  exact ⟨0,_,_,_,hk,rfl,loop_ok px (fx:=⟨Try.func33,by kernel_rfl,by kernel_rfl⟩) entsOK_nil (lentsOK_cons ih lentsOK_nil) (by kernel_rfl) ((q_Z45 ..).trans ((c_Z45_bind ..).trans (bnd_to hy)))⟩
noncomputable def e_Z45:Lent:=m_Z45 (Z45)
theorem e_Z45_ok:(e_Z45).ok Try.prog (codeAt (bodyOf Try.f33) 4):=by
 intro R ds k r h
 unfold e_Z45 m_Z45 at h
 obtain ⟨_,_,rfl,h⟩:=dI_some h
 obtain ⟨_,_,rfl,h⟩:=dS_some h
 obtain ⟨rfl,hE⟩:=dE_some h
 obtain ⟨y,hy,hk⟩:=bnd_some hE
 obtain ⟨n,hn⟩:=ev_some hy
 exact m_Z45_ok n R _ k r ((bnd_to hn).trans hk)

/-!-/
def c_Z46 {R:Type} (x0:Int) (k:ByteArray→Option R):Option R:=
 bif decide (x0≤(0:Int)) then
 k (bytes_1)
 else
 (Z45 x0 (bytes_0)).bind (fun y0=>
 if bytes_2.size + y0.size≤(4294967296:Nat) then
 k (bytes_2 ++ y0)
 else
 none)
theorem c_Z46_bind {R:Type} (x0:Int) (k:ByteArray→Option R):c_Z46 x0 k=(c_Z46 x0 some).bind k:=by
 unfold c_Z46
 repeat' first|exact bnd_tail|exact bnd_none|exact bnd_leaf|apply bnd_ite|apply bnd_cond|apply bnd_sum|(apply bnd_bind;intro _)|intro _
def Z46 (x0:Int):Option (ByteArray):=c_Z46 x0 some
def e_Z46:Ent:=⟨33,[.int .i64],[(.str,[.undef])],fun _ ds k=>dI (fun x0 ds=>dE ((Z46 x0).bind (fun y=>k 0 [.S y])) ds) ds⟩
theorem q_Z46 (x0:Int):runFn (ocOf []) (olOf [e_Z45]) A 33 Try.f33 (Sh.mks e_Z46.sh [.I x0]).1 (fun v os=>some (v,os))=c_Z46 x0 (fun y=>retO e_Z46 0 [.S y]):=by kernel_rfl
theorem e_Z46_ok:e_Z46.ok Try.prog A:=by
 intro R ds k r h
 unfold e_Z46 at h
 obtain ⟨_,_,rfl,h⟩:=dI_some h
 obtain ⟨rfl,hE⟩:=dE_some h
 obtain ⟨y,hy,hk⟩:=bnd_some hE
 exact ⟨0,_,_,_,hk,rfl,fn_ok px (fx:=⟨Try.func33,by kernel_rfl,by kernel_rfl⟩) entsOK_nil (lentsOK_cons e_Z45_ok lentsOK_nil) ((q_Z46 ..).trans ((c_Z46_bind ..).trans (bnd_to hy)))⟩

/-!-/
abbrev T_Z47:=Int→Int→List D→Option (Int × List D)
def c_Z47 {R:Type} (F:T_Z47) (x0 x1:Int) (x2:List D) (k:Int × List D→Option R):Option R:=
 bif decide (x1<(↑x2.length:Int)) then
 if 0≤x1∧x1<(↑x2.length:Int) then
 if x1.toNat + 1≤x2.length then
 if x1.toNat + 1≤x2.length then
 (Z46 (IntKind.i64.wrap (x0 + 1))).bind (fun y0=>
 Z0 (x2.set x1.toNat (D.node [D.int x0,D.str ((x2.getD x1.toNat (D.int 0)).fld (1:Nat)).toStr,D.int ((x2.getD x1.toNat (D.int 0)).fld (2:Nat)).toInt,D.int ((x2.getD x1.toNat (D.int 0)).fld (3:Nat)).toInt,D.int ((x2.getD x1.toNat (D.int 0)).fld (4:Nat)).toInt])) (fun s1=>
 if 0≤x1∧x1<(↑s1.length:Int) then
 if x1.toNat + 1≤s1.length then
 if x1.toNat + 1≤s1.length then
 Z0 (s1.set x1.toNat (D.node [D.int ((s1.getD x1.toNat (D.int 0)).fld (0:Nat)).toInt,D.str y0,D.int ((s1.getD x1.toNat (D.int 0)).fld (2:Nat)).toInt,D.int ((s1.getD x1.toNat (D.int 0)).fld (3:Nat)).toInt,D.int ((s1.getD x1.toNat (D.int 0)).fld (4:Nat)).toInt])) (fun s2=>
 if 0≤x1∧x1<(↑s2.length:Int) then
 if x1.toNat + 1≤s2.length then
 if x1.toNat + 1≤s2.length then
 Z0 (s2.set x1.toNat (D.node [D.int ((s2.getD x1.toNat (D.int 0)).fld (0:Nat)).toInt,D.str ((s2.getD x1.toNat (D.int 0)).fld (1:Nat)).toStr,D.int (IntKind.i64.wrap (IntKind.i64.wrap (x0 + 1) + (1:Int))),D.int ((s2.getD x1.toNat (D.int 0)).fld (3:Nat)).toInt,D.int ((s2.getD x1.toNat (D.int 0)).fld (4:Nat)).toInt])) (fun s3=>
 if 0≤x1∧x1<(↑s3.length:Int) then
 if x1.toNat + 1≤s3.length then
 if x1.toNat + 1≤s3.length then
 Z0 (s3.set x1.toNat (D.node [D.int ((s3.getD x1.toNat (D.int 0)).fld (0:Nat)).toInt,D.str ((s3.getD x1.toNat (D.int 0)).fld (1:Nat)).toStr,D.int ((s3.getD x1.toNat (D.int 0)).fld (2:Nat)).toInt,D.int (IntKind.i64.wrap (IntKind.i64.wrap (IntKind.i64.wrap (x0 + 1) + (1:Int)) + (1:Int))),D.int ((s3.getD x1.toNat (D.int 0)).fld (4:Nat)).toInt])) (fun s4=>
 if 0≤x1∧x1<(↑s4.length:Int) then
 if x1.toNat + 1≤s4.length then
 if x1.toNat + 1≤s4.length then
 (F (IntKind.i64.wrap (IntKind.i64.wrap (IntKind.i64.wrap (IntKind.i64.wrap (IntKind.i64.wrap (x0 + 1) + (1:Int)) + (1:Int)) + (1:Int)) + (1:Int))) (IntKind.i64.wrap (x1 + 1)) (s4.set x1.toNat (D.node [D.int ((s4.getD x1.toNat (D.int 0)).fld (0:Nat)).toInt,D.str ((s4.getD x1.toNat (D.int 0)).fld (1:Nat)).toStr,D.int ((s4.getD x1.toNat (D.int 0)).fld (2:Nat)).toInt,D.int ((s4.getD x1.toNat (D.int 0)).fld (3:Nat)).toInt,D.int (IntKind.i64.wrap (IntKind.i64.wrap (IntKind.i64.wrap (IntKind.i64.wrap (x0 + 1) + (1:Int)) + (1:Int)) + (1:Int)))]))).bind k
 else
 none
 else
 none
 else
 none)
 else
 none
 else
 none
 else
 none)
 else
 none
 else
 none
 else
 none)
 else
 none
 else
 none
 else
 none))
 else
 none
 else
 none
 else
 none
 else
 k (x0,x2)
theorem c_Z47_bind {R:Type} (F:T_Z47) (x0 x1:Int) (x2:List D) (k:Int × List D→Option R):c_Z47 F x0 x1 x2 k=(c_Z47 F x0 x1 x2 some).bind k:=by
 unfold c_Z47
 repeat' first
  | exact bnd_tail
  | exact bnd_none
  | exact bnd_leaf
  | apply bnd_ite
  | apply bnd_lt
  | apply bnd_cond
  | apply bnd_sum
  | (apply bnd_bind; intro _)
  | intro _
def n_Z47:Nat→T_Z47
 | 0,_,_,_=>none
 | n + 1,x0,x1,x2=>c_Z47 (n_Z47 n) x0 x1 x2 some
noncomputable def Z47 (x0 x1:Int) (x2:List D):Option (Int × List D):=ev (fun n=>n_Z47 n x0 x1 x2)
def m_Z47 (F:T_Z47):Lent:=⟨2,⟨(.full 1000 [] (.struct [.int .i64,.str,.int .i64,.int .i64,.int .i64]) :: .int .i64 :: .undef :: .undef :: .undef :: .int .i64 :: uu 43 ([])),[(1000,.own (.struct [.int .i64,.str,.int .i64,.int .i64,.int .i64]))]⟩,[(.exit 0,⟨(.full 1000 [] (.struct [.int .i64,.str,.int .i64,.int .i64,.int .i64]) :: .int .i64 :: uu 47 ([])),[(1000,.own (.struct [.int .i64,.str,.int .i64,.int .i64,.int .i64]))]⟩)],fun _ ds k=>dI (fun x0 ds=>dI (fun x1 ds=>dL (fun x2 ds=>dE ((F x0 x1 x2).bind (fun y=>k 0 [.I y.1,.L y.2])) ds) ds) ds) ds⟩
theorem q_Z47 (F:T_Z47) (x0 x1:Int) (x2:List D):runLoop (ocOf [e_Z46]) (olOf [m_Z47 F]) A 13 (codeAt (bodyOf Try.f13) 2) ((m_Z47 F).sh.mk' [.I x0,.I x1,.L x2]) (fun e σ'=>some (e,σ'))=c_Z47 F x0 x1 x2 (fun y=>some (.exit 0,SSt.mk' ⟨(.full 1000 [] (.struct [.int .i64,.str,.int .i64,.int .i64,.int .i64]) :: .int .i64 :: uu 47 ([])),[(1000,.own (.struct [.int .i64,.str,.int .i64,.int .i64,.int .i64]))]⟩ [.I y.1,.L y.2])):=by kernel_rfl
theorem m_Z47_ok:∀ n,(m_Z47 (n_Z47 n)).ok Try.prog (codeAt (bodyOf Try.f13) 2):=by
 intro n
 induction n with
 | zero=>
  intro R ds k r h
  unfold m_Z47 at h
  obtain ⟨_,_,rfl,h⟩:=dI_some h
  obtain ⟨_,_,rfl,h⟩:=dI_some h
  obtain ⟨_,_,rfl,h⟩:=dL_some h
  obtain ⟨rfl,hE⟩:=dE_some h
  obtain ⟨y,hy,hk⟩:=bnd_some hE
  cases hy
 | succ n ih=>
  intro R ds k r h
  unfold m_Z47 at h
  obtain ⟨_,_,rfl,h⟩:=dI_some h
  obtain ⟨_,_,rfl,h⟩:=dI_some h
  obtain ⟨_,_,rfl,h⟩:=dL_some h
  obtain ⟨rfl,hE⟩:=dE_some h
  obtain ⟨y,hy,hk⟩:=bnd_some hE
  exact ⟨0,_,_,_,hk,rfl,loop_ok px (fx:=⟨Try.func13,by kernel_rfl,by kernel_rfl⟩) (entsOK_cons e_Z46_ok entsOK_nil) (lentsOK_cons ih lentsOK_nil) (by kernel_rfl) ((q_Z47 ..).trans ((c_Z47_bind ..).trans (bnd_to hy)))⟩
noncomputable def e_Z47:Lent:=m_Z47 (Z47)
theorem e_Z47_ok:(e_Z47).ok Try.prog (codeAt (bodyOf Try.f13) 2):=by
 intro R ds k r h
 unfold e_Z47 m_Z47 at h
 obtain ⟨_,_,rfl,h⟩:=dI_some h
 obtain ⟨_,_,rfl,h⟩:=dI_some h
 obtain ⟨_,_,rfl,h⟩:=dL_some h
 obtain ⟨rfl,hE⟩:=dE_some h
 obtain ⟨y,hy,hk⟩:=bnd_some hE
 obtain ⟨n,hn⟩:=ev_some hy
 exact m_Z47_ok n R _ k r ((bnd_to hn).trans hk)

/-!-/
def c_Z48 {R:Type} (x0:List D) (x1:Int) (k:Int × List D→Option R):Option R:=
 (Z47 x1 (0:Int) x0).bind (fun y0=>
 k (y0.fst,y0.snd))
theorem c_Z48_bind {R:Type} (x0:List D) (x1:Int) (k:Int × List D→Option R):c_Z48 x0 x1 k=(c_Z48 x0 x1 some).bind k:=by
 unfold c_Z48
 repeat' first|exact bnd_tail|exact bnd_none|exact bnd_leaf|apply bnd_ite|apply bnd_cond|apply bnd_sum|(apply bnd_bind;intro _)|intro _
def Z48 (x0:List D) (x1:Int):Option (Int × List D):=c_Z48 x0 x1 some
def e_Z48:Ent:=⟨13,[.own (.struct [.int .i64,.str,.int .i64,.int .i64,.int .i64]),.int .i64],[(.int .i64,[.own (.struct [.int .i64,.str,.int .i64,.int .i64,.int .i64]),.undef])],fun _ ds k=>dL (fun x0 ds=>dI (fun x1 ds=>dE ((Z48 x0 x1).bind (fun y=>k 0 [.I y.1,.L y.2])) ds) ds) ds⟩
theorem q_Z48 (x0:List D) (x1:Int):runFn (ocOf []) (olOf [e_Z47]) A 13 Try.f13 (Sh.mks e_Z48.sh [.L x0,.I x1]).1 (fun v os=>some (v,os))=c_Z48 x0 x1 (fun y=>retO e_Z48 0 [.I y.1,.L y.2]):=by kernel_rfl
theorem e_Z48_ok:e_Z48.ok Try.prog A:=by
 intro R ds k r h
 unfold e_Z48 at h
 obtain ⟨_,_,rfl,h⟩:=dL_some h
 obtain ⟨_,_,rfl,h⟩:=dI_some h
 obtain ⟨rfl,hE⟩:=dE_some h
 obtain ⟨y,hy,hk⟩:=bnd_some hE
 exact ⟨0,_,_,_,hk,rfl,fn_ok px (fx:=⟨Try.func13,by kernel_rfl,by kernel_rfl⟩) entsOK_nil (lentsOK_cons e_Z47_ok lentsOK_nil) ((q_Z48 ..).trans ((c_Z48_bind ..).trans (bnd_to hy)))⟩

/-!-/
abbrev T_Z49:=Int→Int→List D→Option (Int × List D)
def c_Z49 {R:Type} (F:T_Z49) (x0 x1:Int) (x2:List D) (k:Int × List D→Option R):Option R:=
 bif decide (x1<(↑x2.length:Int)) then
 (Z46 x0).bind (fun y0=>
 if 0≤x1∧x1<(↑x2.length:Int) then
 if x1.toNat + 1≤x2.length then
 (F (IntKind.i64.wrap (x0 + 1)) (IntKind.i64.wrap (x1 + 1)) (x2.set x1.toNat (D.str y0))).bind k
 else
 none
 else
 none)
 else
 k (x0,x2)
theorem c_Z49_bind {R:Type} (F:T_Z49) (x0 x1:Int) (x2:List D) (k:Int × List D→Option R):c_Z49 F x0 x1 x2 k=(c_Z49 F x0 x1 x2 some).bind k:=by
 unfold c_Z49
 repeat' first|exact bnd_tail|exact bnd_none|exact bnd_leaf|apply bnd_ite|apply bnd_cond|apply bnd_sum|(apply bnd_bind;intro _)|intro _
def n_Z49:Nat→T_Z49
 | 0,_,_,_=>none
 | n + 1,x0,x1,x2=>c_Z49 (n_Z49 n) x0 x1 x2 some
noncomputable def Z49 (x0 x1:Int) (x2:List D):Option (Int × List D):=ev (fun n=>n_Z49 n x0 x1 x2)
def m_Z49 (F:T_Z49):Lent:=⟨2,⟨(.full 1000 [] (.str) :: .int .i64 :: .undef :: .undef :: .undef :: .int .i64 :: uu 14 ([])),[(1000,.own (.str))]⟩,[(.exit 0,⟨(.full 1000 [] (.str) :: .int .i64 :: uu 18 ([])),[(1000,.own (.str))]⟩)],fun _ ds k=>dI (fun x0 ds=>dI (fun x1 ds=>dL (fun x2 ds=>dE ((F x0 x1 x2).bind (fun y=>k 0 [.I y.1,.L y.2])) ds) ds) ds) ds⟩
theorem q_Z49 (F:T_Z49) (x0 x1:Int) (x2:List D):runLoop (ocOf [e_Z46]) (olOf [m_Z49 F]) A 14 (codeAt (bodyOf Try.f14) 2) ((m_Z49 F).sh.mk' [.I x0,.I x1,.L x2]) (fun e σ'=>some (e,σ'))=c_Z49 F x0 x1 x2 (fun y=>some (.exit 0,SSt.mk' ⟨(.full 1000 [] (.str) :: .int .i64 :: uu 18 ([])),[(1000,.own (.str))]⟩ [.I y.1,.L y.2])):=by kernel_rfl
theorem m_Z49_ok:∀ n,(m_Z49 (n_Z49 n)).ok Try.prog (codeAt (bodyOf Try.f14) 2):=by
 intro n
 induction n with
 | zero=>
  intro R ds k r h
  unfold m_Z49 at h
  obtain ⟨_,_,rfl,h⟩:=dI_some h
  obtain ⟨_,_,rfl,h⟩:=dI_some h
  obtain ⟨_,_,rfl,h⟩:=dL_some h
  obtain ⟨rfl,hE⟩:=dE_some h
  obtain ⟨y,hy,hk⟩:=bnd_some hE
  cases hy
 | succ n ih=>
  intro R ds k r h
  unfold m_Z49 at h
  obtain ⟨_,_,rfl,h⟩:=dI_some h
  obtain ⟨_,_,rfl,h⟩:=dI_some h
  obtain ⟨_,_,rfl,h⟩:=dL_some h
  obtain ⟨rfl,hE⟩:=dE_some h
  obtain ⟨y,hy,hk⟩:=bnd_some hE
  exact ⟨0,_,_,_,hk,rfl,loop_ok px (fx:=⟨Try.func14,by kernel_rfl,by kernel_rfl⟩) (entsOK_cons e_Z46_ok entsOK_nil) (lentsOK_cons ih lentsOK_nil) (by kernel_rfl) ((q_Z49 ..).trans ((c_Z49_bind ..).trans (bnd_to hy)))⟩
noncomputable def e_Z49:Lent:=m_Z49 (Z49)
theorem e_Z49_ok:(e_Z49).ok Try.prog (codeAt (bodyOf Try.f14) 2):=by
 intro R ds k r h
 unfold e_Z49 m_Z49 at h
 obtain ⟨_,_,rfl,h⟩:=dI_some h
 obtain ⟨_,_,rfl,h⟩:=dI_some h
 obtain ⟨_,_,rfl,h⟩:=dL_some h
 obtain ⟨rfl,hE⟩:=dE_some h
 obtain ⟨y,hy,hk⟩:=bnd_some hE
 obtain ⟨n,hn⟩:=ev_some hy
 exact m_Z49_ok n R _ k r ((bnd_to hn).trans hk)

/-!-/
def c_Z50 {R:Type} (x0:List D) (x1:Int) (k:Int × List D→Option R):Option R:=
 (Z49 x1 (0:Int) x0).bind (fun y0=>
 k (y0.fst,y0.snd))
theorem c_Z50_bind {R:Type} (x0:List D) (x1:Int) (k:Int × List D→Option R):c_Z50 x0 x1 k=(c_Z50 x0 x1 some).bind k:=by
 unfold c_Z50
 repeat' first|exact bnd_tail|exact bnd_none|exact bnd_leaf|apply bnd_ite|apply bnd_cond|apply bnd_sum|(apply bnd_bind;intro _)|intro _
def Z50 (x0:List D) (x1:Int):Option (Int × List D):=c_Z50 x0 x1 some
def e_Z50:Ent:=⟨14,[.own (.str),.int .i64],[(.int .i64,[.own (.str),.undef])],fun _ ds k=>dL (fun x0 ds=>dI (fun x1 ds=>dE ((Z50 x0 x1).bind (fun y=>k 0 [.I y.1,.L y.2])) ds) ds) ds⟩
theorem q_Z50 (x0:List D) (x1:Int):runFn (ocOf []) (olOf [e_Z49]) A 14 Try.f14 (Sh.mks e_Z50.sh [.L x0,.I x1]).1 (fun v os=>some (v,os))=c_Z50 x0 x1 (fun y=>retO e_Z50 0 [.I y.1,.L y.2]):=by kernel_rfl
theorem e_Z50_ok:e_Z50.ok Try.prog A:=by
 intro R ds k r h
 unfold e_Z50 at h
 obtain ⟨_,_,rfl,h⟩:=dL_some h
 obtain ⟨_,_,rfl,h⟩:=dI_some h
 obtain ⟨rfl,hE⟩:=dE_some h
 obtain ⟨y,hy,hk⟩:=bnd_some hE
 exact ⟨0,_,_,_,hk,rfl,fn_ok px (fx:=⟨Try.func14,by kernel_rfl,by kernel_rfl⟩) entsOK_nil (lentsOK_cons e_Z49_ok lentsOK_nil) ((q_Z50 ..).trans ((c_Z50_bind ..).trans (bnd_to hy)))⟩

/-!-/
abbrev T_Z51:=List D→Int→Int→Option ((Int × Int) ⊕ (Int))
def c_Z51 {R:Type} (F:T_Z51) (x0:List D) (x1 x2:Int) (k:(Int × Int) ⊕ (Int)→Option R):Option R:=
 bif decide (x2<(↑x0.length:Int)) then
 if 0≤x2∧x2<(↑x0.length:Int) then
 (Z46 x1).bind (fun y0=>
 bif !(x0.getD x2.toNat (D.int 0)).toStr.toList == y0.toList then
 k (.inl (x1,(-1:Int)))
 else
 (F x0 (IntKind.i64.wrap (x1 + 1)) (IntKind.i64.wrap (x2 + 1))).bind k)
 else
 none
 else
 k (.inr x1)
theorem c_Z51_bind {R:Type} (F:T_Z51) (x0:List D) (x1 x2:Int) (k:(Int × Int) ⊕ (Int)→Option R):c_Z51 F x0 x1 x2 k=(c_Z51 F x0 x1 x2 some).bind k:=by
 unfold c_Z51
 repeat' first|exact bnd_tail|exact bnd_none|exact bnd_leaf|apply bnd_ite|apply bnd_cond|apply bnd_sum|(apply bnd_bind;intro _)|intro _
def n_Z51:Nat→T_Z51
 | 0,_,_,_=>none
 | n + 1,x0,x1,x2=>c_Z51 (n_Z51 n) x0 x1 x2 some
noncomputable def Z51 (x0:List D) (x1 x2:Int):Option ((Int × Int) ⊕ (Int)):=ev (fun n=>n_Z51 n x0 x1 x2)
def m_Z51 (F:T_Z51):Lent:=⟨2,⟨(.rd (.str) :: .int .i64 :: .undef :: .undef :: .undef :: .int .i64 :: uu 16 ([])),[]⟩,[(.ret,⟨(.undef :: .int .i64 :: .undef :: .undef :: .int .i64 :: uu 17 ([])),[]⟩),(.exit 0,⟨(.undef :: .int .i64 :: uu 20 ([])),[]⟩)],fun _ ds k=>dL (fun x0 ds=>dI (fun x1 ds=>dI (fun x2 ds=>dE ((F x0 x1 x2).bind (Sum.elim (fun y=>k 0 [.I y.1,.I y.2]) (fun y=>k 1 [.I y]))) ds) ds) ds) ds⟩
theorem q_Z51 (F:T_Z51) (x0:List D) (x1 x2:Int):runLoop (ocOf [e_Z46]) (olOf [m_Z51 F]) A 15 (codeAt (bodyOf Try.f15) 2) ((m_Z51 F).sh.mk' [.L x0,.I x1,.I x2]) (fun e σ'=>some (e,σ'))=c_Z51 F x0 x1 x2 (Sum.elim (fun y=>some (.ret,SSt.mk' ⟨(.undef :: .int .i64 :: .undef :: .undef :: .int .i64 :: uu 17 ([])),[]⟩ [.I y.1,.I y.2])) (fun y=>some (.exit 0,SSt.mk' ⟨(.undef :: .int .i64 :: uu 20 ([])),[]⟩ [.I y]))):=by kernel_rfl
theorem m_Z51_ok:∀ n,(m_Z51 (n_Z51 n)).ok Try.prog (codeAt (bodyOf Try.f15) 2):=by
 intro n
 induction n with
 | zero=>
  intro R ds k r h
  unfold m_Z51 at h
  obtain ⟨_,_,rfl,h⟩:=dL_some h
  obtain ⟨_,_,rfl,h⟩:=dI_some h
  obtain ⟨_,_,rfl,h⟩:=dI_some h
  obtain ⟨rfl,hE⟩:=dE_some h
  obtain ⟨y,hy,hk⟩:=bnd_some hE
  cases hy
 | succ n ih=>
  intro R ds k r h
  unfold m_Z51 at h
  obtain ⟨_,_,rfl,h⟩:=dL_some h
  obtain ⟨_,_,rfl,h⟩:=dI_some h
  obtain ⟨_,_,rfl,h⟩:=dI_some h
  obtain ⟨rfl,hE⟩:=dE_some h
  obtain ⟨y,hy,hk⟩:=bnd_some hE
  cases y with
  | inl y=>
   exact ⟨0,_,_,_,hk,rfl,loop_ok px (fx:=⟨Try.func15,by kernel_rfl,by kernel_rfl⟩) (entsOK_cons e_Z46_ok entsOK_nil) (lentsOK_cons ih lentsOK_nil) (by kernel_rfl) ((q_Z51 ..).trans ((c_Z51_bind ..).trans (bnd_to hy)))⟩
  | inr y=>
   exact ⟨1,_,_,_,hk,rfl,loop_ok px (fx:=⟨Try.func15,by kernel_rfl,by kernel_rfl⟩) (entsOK_cons e_Z46_ok entsOK_nil) (lentsOK_cons ih lentsOK_nil) (by kernel_rfl) ((q_Z51 ..).trans ((c_Z51_bind ..).trans (bnd_to hy)))⟩
noncomputable def e_Z51:Lent:=m_Z51 (Z51)
theorem e_Z51_ok:(e_Z51).ok Try.prog (codeAt (bodyOf Try.f15) 2):=by
 intro R ds k r h
 unfold e_Z51 m_Z51 at h
 obtain ⟨_,_,rfl,h⟩:=dL_some h
 obtain ⟨_,_,rfl,h⟩:=dI_some h
 obtain ⟨_,_,rfl,h⟩:=dI_some h
 obtain ⟨rfl,hE⟩:=dE_some h
 obtain ⟨y,hy,hk⟩:=bnd_some hE
 obtain ⟨n,hn⟩:=ev_some hy
 exact m_Z51_ok n R _ k r ((bnd_to hn).trans hk)

/-!-/
def c_Z52 {R:Type} (x0:List D) (x1:Int) (k:Int→Option R):Option R:=
 (Z51 x0 x1 (0:Int)).bind (Sum.elim (fun y0=>
 k y0.snd) (fun y1=>
 k y1))
theorem c_Z52_bind {R:Type} (x0:List D) (x1:Int) (k:Int→Option R):c_Z52 x0 x1 k=(c_Z52 x0 x1 some).bind k:=by
 unfold c_Z52
 repeat' first|exact bnd_tail|exact bnd_none|exact bnd_leaf|apply bnd_ite|apply bnd_cond|apply bnd_sum|(apply bnd_bind;intro _)|intro _
def Z52 (x0:List D) (x1:Int):Option (Int):=c_Z52 x0 x1 some
def e_Z52:Ent:=⟨15,[.rd (.str),.int .i64],[(.int .i64,[.undef,.undef])],fun _ ds k=>dL (fun x0 ds=>dI (fun x1 ds=>dE ((Z52 x0 x1).bind (fun y=>k 0 [.I y])) ds) ds) ds⟩
theorem q_Z52 (x0:List D) (x1:Int):runFn (ocOf []) (olOf [e_Z51]) A 15 Try.f15 (Sh.mks e_Z52.sh [.L x0,.I x1]).1 (fun v os=>some (v,os))=c_Z52 x0 x1 (fun y=>retO e_Z52 0 [.I y]):=by kernel_rfl
theorem e_Z52_ok:e_Z52.ok Try.prog A:=by
 intro R ds k r h
 unfold e_Z52 at h
 obtain ⟨_,_,rfl,h⟩:=dL_some h
 obtain ⟨_,_,rfl,h⟩:=dI_some h
 obtain ⟨rfl,hE⟩:=dE_some h
 obtain ⟨y,hy,hk⟩:=bnd_some hE
 exact ⟨0,_,_,_,hk,rfl,fn_ok px (fx:=⟨Try.func15,by kernel_rfl,by kernel_rfl⟩) entsOK_nil (lentsOK_cons e_Z51_ok lentsOK_nil) ((q_Z52 ..).trans ((c_Z52_bind ..).trans (bnd_to hy)))⟩

/-!-/
def c_Z53 {R:Type} (x0:List D) (k:Bool→Option R):Option R:=
 (Z3 x0 (1048576:Int)).bind (fun y0=>
 bif decide (y0<(0:Int)) then
 k Bool.true
 else
 (Z6 x0).bind (fun y1=>
 (Z18 y1).bind (fun y2=>
 (Z6 x0).bind (fun y3=>
 (Z39 y3).bind (fun y4=>
 (Z41 y4.fst y2.fst).bind (fun y5=>
 bif !y5 then
 k Bool.false
 else
 bif !y4.snd == y2.snd then
 k Bool.false
 else
 (Z6 x0).bind (fun y6=>
 (Z44 y3 y6).bind (fun y7=>
 bif !y7 then
 k Bool.false
 else
 (Z48 y3 (1:Int)).bind (fun y8=>
 bif decide (y8.fst<(0:Int)) then
 k Bool.false
 else
 (Z41 y4.fst y2.fst).bind (fun y9=>
 bif !y9 then
 k Bool.false
 else
 bif !y4.snd == y2.snd then
 k Bool.false
 else
 (Z50 y4.fst (1:Int)).bind (fun y10=>
 (Z52 y10.snd (1:Int)).bind (fun y11=>
 bif decide (y11<(0:Int)) then
 k Bool.false
 else
 bif !decide (y11=y10.fst) then
 k Bool.false
 else
 (Z6 x0).bind (fun y12=>
 (Z39 y12).bind (fun y13=>
 (Z41 y13.fst y2.fst).bind (fun y14=>
 bif !y14 then
 k Bool.false
 else
 bif !y13.snd == y2.snd then
 k Bool.false
 else
 (Z52 y10.snd (1:Int)).bind (fun y15=>
 bif decide (y15<(0:Int)) then
 k Bool.false
 else
 bif !decide (y15=y10.fst) then
 k Bool.false
 else
 k Bool.true))))))))))))))))
theorem c_Z53_bind {R:Type} (x0:List D) (k:Bool→Option R):c_Z53 x0 k=(c_Z53 x0 some).bind k:=by
 unfold c_Z53
 repeat' first|exact bnd_tail|exact bnd_none|exact bnd_leaf|apply bnd_ite|apply bnd_cond|apply bnd_sum|(apply bnd_bind;intro _)|intro _
def Z53 (x0:List D):Option (Bool):=c_Z53 x0 some
def e_Z53:Ent:=⟨3,[.rd (.struct [.int .i64,.str,.int .i64,.int .i64,.int .i64])],[(.bool,[.undef])],fun _ ds k=>dL (fun x0 ds=>dE ((Z53 x0).bind (fun y=>k 0 [.B y])) ds) ds⟩
theorem q_Z53 (x0:List D):runFn (ocOf [e_Z3,e_Z6,e_Z18,e_Z39,e_Z41,e_Z44,e_Z48,e_Z50,e_Z52]) (olOf []) A 3 Try.f3 (Sh.mks e_Z53.sh [.L x0]).1 (fun v os=>some (v,os))=c_Z53 x0 (fun y=>retO e_Z53 0 [.B y]):=by kernel_rfl
theorem e_Z53_ok:e_Z53.ok Try.prog A:=by
 intro R ds k r h
 unfold e_Z53 at h
 obtain ⟨_,_,rfl,h⟩:=dL_some h
 obtain ⟨rfl,hE⟩:=dE_some h
 obtain ⟨y,hy,hk⟩:=bnd_some hE
 exact ⟨0,_,_,_,hk,rfl,fn_ok px (fx:=⟨Try.func3,by kernel_rfl,by kernel_rfl⟩) (entsOK_cons e_Z3_ok (entsOK_cons e_Z6_ok (entsOK_cons e_Z18_ok (entsOK_cons e_Z39_ok (entsOK_cons e_Z41_ok (entsOK_cons e_Z44_ok (entsOK_cons e_Z48_ok (entsOK_cons e_Z50_ok (entsOK_cons e_Z52_ok entsOK_nil))))))))) lentsOK_nil ((q_Z53 ..).trans ((c_Z53_bind ..).trans (bnd_to hy)))⟩
end
end Go.Proofs.Ytacnicopnbcioaa
