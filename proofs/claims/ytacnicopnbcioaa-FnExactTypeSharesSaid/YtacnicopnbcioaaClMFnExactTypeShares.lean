/- Models of Go functions and their contracts, printed by a program of this session. -/
import Derived.Test.YtacnicopnbcioaaClSt
set_option linter.unusedVariables false
set_option maxRecDepth 100000
namespace Go.Proofs.Ytacnicopnbcioaa
open Go Go.Rai
noncomputable section
def Z0 {α β:Type} (a:α) (f:α→β):β:=f a
theorem bnd_lt {α β γ:Type} {a:γ} {f:γ→Option β} {g:γ→Option α} {k:α→Option β} (h:∀ z,f z=(g z).bind k):Z0 a f=(Z0 a g).bind k:=h a
def bytes_0:ByteArray:={ data:=#[] }
def bytes_1:ByteArray:={ data:=#[(109:UInt8),(48:UInt8)] }
def bytes_2:ByteArray:={ data:=#[(109:UInt8)] }
/-!-/
def c_Z1 {R:Type} (x0:Int) (x1:ByteArray) (x2 x3 x4 x5:Int) (k:Int→Option R):Option R:=
 bif decide (IntKind.i64.wrap (x5 - (↑x1.size:Int))<(0:Int)) then
 k (-1:Int)
 else
 k (IntKind.i64.wrap (x5 - (↑x1.size:Int)))
theorem c_Z1_bind {R:Type} (x0:Int) (x1:ByteArray) (x2 x3 x4 x5:Int) (k:Int→Option R):c_Z1 x0 x1 x2 x3 x4 x5 k=(c_Z1 x0 x1 x2 x3 x4 x5 some).bind k:=by
 unfold c_Z1
 repeat' first
  | exact JH
  | exact JG
  | exact JF
  | apply JC
  | apply JD
  | apply JI
  | (apply JE; intro _)
  | intro _
def Z1 (x0:Int) (x1:ByteArray) (x2 x3 x4 x5:Int):Option (Int):=c_Z1 x0 x1 x2 x3 x4 x5 some
def e_Z1:Ent:=⟨23,[.agg [.int .i64,.str,.int .i64,.int .i64,.int .i64],.int .i64],[(.int .i64,[.undef,.undef])],fun _ ds k=>dI (fun x0 ds=>dS (fun x1 ds=>dI (fun x2 ds=>dI (fun x3 ds=>dI (fun x4 ds=>dI (fun x5 ds=>dE ((Z1 x0 x1 x2 x3 x4 x5).bind (fun y=>k 0 [.I y])) ds) ds) ds) ds) ds) ds) ds⟩
theorem q_Z1 (x0:Int) (x1:ByteArray) (x2 x3 x4 x5:Int):J5 (Jv []) (Jw []) A 23 Try.f23 (Sh.mks e_Z1.sh [.I x0,.S x1,.I x2,.I x3,.I x4,.I x5]).1 (fun v os=>some (v,os))=c_Z1 x0 x1 x2 x3 x4 x5 (fun y=>J9 e_Z1 0 [.I y]):=by kernel_rfl
theorem e_Z1_ok:e_Z1.ok Try.prog A:=by
 intro R ds k r h
 unfold e_Z1 at h
 obtain ⟨_,_,rfl,h⟩:=Ja h
 obtain ⟨_,_,rfl,h⟩:=QI h
 obtain ⟨_,_,rfl,h⟩:=Ja h
 obtain ⟨_,_,rfl,h⟩:=Ja h
 obtain ⟨_,_,rfl,h⟩:=Ja h
 obtain ⟨_,_,rfl,h⟩:=Ja h
 obtain ⟨rfl,hE⟩:=Jg h
 obtain ⟨y,hy,hk⟩:=Jh hE
 exact ⟨0,_,_,_,hk,rfl,Qa px (fx:=⟨Try.func23,by kernel_rfl,by kernel_rfl⟩) Js Jt ((q_Z1 ..).trans ((c_Z1_bind ..).trans (Jj hy)))⟩

/-!-/
abbrev T_Z2:=List D→Int→Int→Option ((Int×Int)⊕(Int))
def c_Z2 {R:Type} (F:T_Z2) (x0:List D) (x1 x2:Int) (k:(Int×Int)⊕(Int)→Option R):Option R:=
 bif decide (x2<(↑x0.length:Int)) then
 if 0≤x2∧x2<(↑x0.length:Int) then
 (Z1 (((x0.getD x2.toNat (D.int 0)).fld (0:Nat)).toInt) (((x0.getD x2.toNat (D.int 0)).fld (1:Nat)).toStr) (((x0.getD x2.toNat (D.int 0)).fld (2:Nat)).toInt) (((x0.getD x2.toNat (D.int 0)).fld (3:Nat)).toInt) (((x0.getD x2.toNat (D.int 0)).fld (4:Nat)).toInt) x1).bind (fun y0=>
 bif decide (y0<(0:Int)) then
 k (.inl (y0,(-1:Int)))
 else
 (F x0 y0 (IntKind.i64.wrap (x2+1))).bind k)
 else
 none
 else
 k (.inr x1)
theorem c_Z2_bind {R:Type} (F:T_Z2) (x0:List D) (x1 x2:Int) (k:(Int×Int)⊕(Int)→Option R):c_Z2 F x0 x1 x2 k=(c_Z2 F x0 x1 x2 some).bind k:=by
 unfold c_Z2
 repeat' first
  | exact JH
  | exact JG
  | exact JF
  | apply JC
  | apply JD
  | apply JI
  | (apply JE; intro _)
  | intro _
def n_Z2:Nat→T_Z2
 | 0,_,_,_=>none
 | n+1,x0,x1,x2=>c_Z2 (n_Z2 n) x0 x1 x2 some
noncomputable def Z2 (x0:List D) (x1 x2:Int):Option ((Int×Int)⊕(Int)):=ev (fun n=>n_Z2 n x0 x1 x2)
def m_Z2 (F:T_Z2):Jz:=⟨5,⟨(.rd (.struct [.int .i64,.str,.int .i64,.int .i64,.int .i64])::.int .i64::.undef::.undef::.undef::.int .i64::uu 21 ([])),[]⟩,[(.ret,⟨(.undef::.int .i64::.undef::.undef::.int .i64::uu 22 ([])),[]⟩),(.exit 0,⟨(.undef::.int .i64::uu 25 ([])),[]⟩)],fun _ ds k=>dL (fun x0 ds=>dI (fun x1 ds=>dI (fun x2 ds=>dE ((F x0 x1 x2).bind (Sum.elim (fun y=>k 0 [.I y.1,.I y.2]) (fun y=>k 1 [.I y]))) ds) ds) ds) ds⟩
theorem q_Z2 (F:T_Z2) (x0:List D) (x1 x2:Int):Qg (Jv [e_Z1]) (Jw [m_Z2 F]) A 7 (Jm (Jl Try.f7) 5) ((m_Z2 F).sh.mk' [.L x0,.I x1,.I x2]) (fun e σ'=>some (e,σ'))=c_Z2 F x0 x1 x2 (Sum.elim (fun y=>some (.ret,SSt.mk' ⟨(.undef::.int .i64::.undef::.undef::.int .i64::uu 22 ([])),[]⟩ [.I y.1,.I y.2])) (fun y=>some (.exit 0,SSt.mk' ⟨(.undef::.int .i64::uu 25 ([])),[]⟩ [.I y]))):=by kernel_rfl
theorem m_Z2_ok:∀ n,(m_Z2 (n_Z2 n)).ok Try.prog (Jm (Jl Try.f7) 5):=by
 intro n
 induction n with
 | zero=>
  intro R ds k r h
  unfold m_Z2 at h
  obtain ⟨_,_,rfl,h⟩:=Jd h
  obtain ⟨_,_,rfl,h⟩:=Ja h
  obtain ⟨_,_,rfl,h⟩:=Ja h
  obtain ⟨rfl,hE⟩:=Jg h
  obtain ⟨y,hy,hk⟩:=Jh hE
  cases hy
 | succ n ih=>
  intro R ds k r h
  unfold m_Z2 at h
  obtain ⟨_,_,rfl,h⟩:=Jd h
  obtain ⟨_,_,rfl,h⟩:=Ja h
  obtain ⟨_,_,rfl,h⟩:=Ja h
  obtain ⟨rfl,hE⟩:=Jg h
  obtain ⟨y,hy,hk⟩:=Jh hE
  cases y with
  | inl y=>
   exact ⟨0,_,_,_,hk,rfl,J6 px (fx:=⟨Try.func7,by kernel_rfl,by kernel_rfl⟩) (JR e_Z1_ok Js) (Jx ih Jt) (by kernel_rfl) ((q_Z2 ..).trans ((c_Z2_bind ..).trans (Jj hy)))⟩
  | inr y=>
   exact ⟨1,_,_,_,hk,rfl,J6 px (fx:=⟨Try.func7,by kernel_rfl,by kernel_rfl⟩) (JR e_Z1_ok Js) (Jx ih Jt) (by kernel_rfl) ((q_Z2 ..).trans ((c_Z2_bind ..).trans (Jj hy)))⟩
noncomputable def e_Z2:Jz:=m_Z2 (Z2)
theorem e_Z2_ok:(e_Z2).ok Try.prog (Jm (Jl Try.f7) 5):=by
 intro R ds k r h
 unfold e_Z2 m_Z2 at h
 obtain ⟨_,_,rfl,h⟩:=Jd h
 obtain ⟨_,_,rfl,h⟩:=Ja h
 obtain ⟨_,_,rfl,h⟩:=Ja h
 obtain ⟨rfl,hE⟩:=Jg h
 obtain ⟨y,hy,hk⟩:=Jh hE
 obtain ⟨n,hn⟩:=Qh hy
 exact m_Z2_ok n R _ k r ((Jj hn).trans hk)

/-!-/
def c_Z3 {R:Type} (x0:List D) (x1:Int) (k:Int→Option R):Option R:=
 bif decide (IntKind.i64.wrap (x1 - (↑x0.length:Int))<(0:Int)) then
 k (-1:Int)
 else
 (Z2 x0 (IntKind.i64.wrap (x1 - (↑x0.length:Int))) (0:Int)).bind (Sum.elim (fun y0=>
 k y0.snd) (fun y1=>
 k y1))
theorem c_Z3_bind {R:Type} (x0:List D) (x1:Int) (k:Int→Option R):c_Z3 x0 x1 k=(c_Z3 x0 x1 some).bind k:=by
 unfold c_Z3
 repeat' first
  | exact JH
  | exact JG
  | exact JF
  | apply JC
  | apply JD
  | apply JI
  | (apply JE; intro _)
  | intro _
def Z3 (x0:List D) (x1:Int):Option (Int):=c_Z3 x0 x1 some
def e_Z3:Ent:=⟨7,[.rd (.struct [.int .i64,.str,.int .i64,.int .i64,.int .i64]),.int .i64],[(.int .i64,[.undef,.undef])],fun _ ds k=>dL (fun x0 ds=>dI (fun x1 ds=>dE ((Z3 x0 x1).bind (fun y=>k 0 [.I y])) ds) ds) ds⟩
theorem q_Z3 (x0:List D) (x1:Int):J5 (Jv []) (Jw [e_Z2]) A 7 Try.f7 (Sh.mks e_Z3.sh [.L x0,.I x1]).1 (fun v os=>some (v,os))=c_Z3 x0 x1 (fun y=>J9 e_Z3 0 [.I y]):=by kernel_rfl
theorem e_Z3_ok:e_Z3.ok Try.prog A:=by
 intro R ds k r h
 unfold e_Z3 at h
 obtain ⟨_,_,rfl,h⟩:=Jd h
 obtain ⟨_,_,rfl,h⟩:=Ja h
 obtain ⟨rfl,hE⟩:=Jg h
 obtain ⟨y,hy,hk⟩:=Jh hE
 exact ⟨0,_,_,_,hk,rfl,Qa px (fx:=⟨Try.func7,by kernel_rfl,by kernel_rfl⟩) Js (Jx e_Z2_ok Jt) ((q_Z3 ..).trans ((c_Z3_bind ..).trans (Jj hy)))⟩

/-!-/
def c_Z4 {R:Type} (x0:Int) (x1:ByteArray) (x2 x3 x4:Int) (k:Int×ByteArray×Int×Int×Int→Option R):Option R:=
 k (x0,x1,x2,x3,x4)
theorem c_Z4_bind {R:Type} (x0:Int) (x1:ByteArray) (x2 x3 x4:Int) (k:Int×ByteArray×Int×Int×Int→Option R):c_Z4 x0 x1 x2 x3 x4 k=(c_Z4 x0 x1 x2 x3 x4 some).bind k:=by
 unfold c_Z4
 repeat' first
  | exact JH
  | exact JG
  | exact JF
  | apply JC
  | apply JD
  | apply JI
  | (apply JE; intro _)
  | intro _
def Z4 (x0:Int) (x1:ByteArray) (x2 x3 x4:Int):Option (Int×ByteArray×Int×Int×Int):=c_Z4 x0 x1 x2 x3 x4 some
def e_Z4:Ent:=⟨25,[.agg [.int .i64,.str,.int .i64,.int .i64,.int .i64]],[(.agg [.int .i64,.str,.int .i64,.int .i64,.int .i64],[.undef])],fun _ ds k=>dI (fun x0 ds=>dS (fun x1 ds=>dI (fun x2 ds=>dI (fun x3 ds=>dI (fun x4 ds=>dE ((Z4 x0 x1 x2 x3 x4).bind (fun y=>k 0 [.I y.1,.S y.2.1,.I y.2.2.1,.I y.2.2.2.1,.I y.2.2.2.2])) ds) ds) ds) ds) ds) ds⟩
theorem q_Z4 (x0:Int) (x1:ByteArray) (x2 x3 x4:Int):J5 (Jv []) (Jw []) A 25 Try.f25 (Sh.mks e_Z4.sh [.I x0,.S x1,.I x2,.I x3,.I x4]).1 (fun v os=>some (v,os))=c_Z4 x0 x1 x2 x3 x4 (fun y=>J9 e_Z4 0 [.I y.1,.S y.2.1,.I y.2.2.1,.I y.2.2.2.1,.I y.2.2.2.2]):=by kernel_rfl
theorem e_Z4_ok:e_Z4.ok Try.prog A:=by
 intro R ds k r h
 unfold e_Z4 at h
 obtain ⟨_,_,rfl,h⟩:=Ja h
 obtain ⟨_,_,rfl,h⟩:=QI h
 obtain ⟨_,_,rfl,h⟩:=Ja h
 obtain ⟨_,_,rfl,h⟩:=Ja h
 obtain ⟨_,_,rfl,h⟩:=Ja h
 obtain ⟨rfl,hE⟩:=Jg h
 obtain ⟨y,hy,hk⟩:=Jh hE
 exact ⟨0,_,_,_,hk,rfl,Qa px (fx:=⟨Try.func25,by kernel_rfl,by kernel_rfl⟩) Js Jt ((q_Z4 ..).trans ((c_Z4_bind ..).trans (Jj hy)))⟩

/-!-/
abbrev T_Z5:=List D→Int→List D→Option (List D)
def c_Z5 {R:Type} (F:T_Z5) (x0:List D) (x1:Int) (x2:List D) (k:List D→Option R):Option R:=
 bif decide (x1<(↑x0.length:Int)) then
 if 0≤x1∧x1<(↑x0.length:Int) then
 (Z4 (((x0.getD x1.toNat (D.int 0)).fld (0:Nat)).toInt) (((x0.getD x1.toNat (D.int 0)).fld (1:Nat)).toStr) (((x0.getD x1.toNat (D.int 0)).fld (2:Nat)).toInt) (((x0.getD x1.toNat (D.int 0)).fld (3:Nat)).toInt) (((x0.getD x1.toNat (D.int 0)).fld (4:Nat)).toInt)).bind (fun y0=>
 if 0≤x1∧x1<(↑x2.length:Int) then
 if x1.toNat+1≤x2.length then
 (F x0 (IntKind.i64.wrap (x1+1)) (x2.set x1.toNat (D.node [D.int y0.fst,D.str y0.snd.fst,D.int y0.snd.snd.fst,D.int y0.snd.snd.snd.fst,D.int y0.snd.snd.snd.snd]))).bind k
 else
 none
 else
 none)
 else
 none
 else
 k x2
theorem c_Z5_bind {R:Type} (F:T_Z5) (x0:List D) (x1:Int) (x2:List D) (k:List D→Option R):c_Z5 F x0 x1 x2 k=(c_Z5 F x0 x1 x2 some).bind k:=by
 unfold c_Z5
 repeat' first
  | exact JH
  | exact JG
  | exact JF
  | apply JC
  | apply JD
  | apply JI
  | (apply JE; intro _)
  | intro _
def n_Z5:Nat→T_Z5
 | 0,_,_,_=>none
 | n+1,x0,x1,x2=>c_Z5 (n_Z5 n) x0 x1 x2 some
noncomputable def Z5 (x0:List D) (x1:Int) (x2:List D):Option (List D):=ev (fun n=>n_Z5 n x0 x1 x2)
def m_Z5 (F:T_Z5):Jz:=⟨3,⟨(.rd (.struct [.int .i64,.str,.int .i64,.int .i64,.int .i64])::.undef::.undef::.full 1000 [] (.struct [.int .i64,.str,.int .i64,.int .i64,.int .i64])::.int .i64::uu 18 ([])),[(1000,.own (.struct [.int .i64,.str,.int .i64,.int .i64,.int .i64]))]⟩,[(.exit 0,⟨(.undef::.undef::.undef::.full 1000 [] (.struct [.int .i64,.str,.int .i64,.int .i64,.int .i64])::uu 19 ([])),[(1000,.own (.struct [.int .i64,.str,.int .i64,.int .i64,.int .i64]))]⟩)],fun _ ds k=>dL (fun x0 ds=>dI (fun x1 ds=>dL (fun x2 ds=>dE ((F x0 x1 x2).bind (fun y=>k 0 [.L y])) ds) ds) ds) ds⟩
theorem q_Z5 (F:T_Z5) (x0:List D) (x1:Int) (x2:List D):Qg (Jv [e_Z4]) (Jw [m_Z5 F]) A 9 (Jm (Jl Try.f9) 3) ((m_Z5 F).sh.mk' [.L x0,.I x1,.L x2]) (fun e σ'=>some (e,σ'))=c_Z5 F x0 x1 x2 (fun y=>some (.exit 0,SSt.mk' ⟨(.undef::.undef::.undef::.full 1000 [] (.struct [.int .i64,.str,.int .i64,.int .i64,.int .i64])::uu 19 ([])),[(1000,.own (.struct [.int .i64,.str,.int .i64,.int .i64,.int .i64]))]⟩ [.L y])):=by kernel_rfl
theorem m_Z5_ok:∀ n,(m_Z5 (n_Z5 n)).ok Try.prog (Jm (Jl Try.f9) 3):=by
 intro n
 induction n with
 | zero=>
  intro R ds k r h
  unfold m_Z5 at h
  obtain ⟨_,_,rfl,h⟩:=Jd h
  obtain ⟨_,_,rfl,h⟩:=Ja h
  obtain ⟨_,_,rfl,h⟩:=Jd h
  obtain ⟨rfl,hE⟩:=Jg h
  obtain ⟨y,hy,hk⟩:=Jh hE
  cases hy
 | succ n ih=>
  intro R ds k r h
  unfold m_Z5 at h
  obtain ⟨_,_,rfl,h⟩:=Jd h
  obtain ⟨_,_,rfl,h⟩:=Ja h
  obtain ⟨_,_,rfl,h⟩:=Jd h
  obtain ⟨rfl,hE⟩:=Jg h
  obtain ⟨y,hy,hk⟩:=Jh hE
  exact ⟨0,_,_,_,hk,rfl,J6 px (fx:=⟨Try.func9,by kernel_rfl,by kernel_rfl⟩) (JR e_Z4_ok Js) (Jx ih Jt) (by kernel_rfl) ((q_Z5 ..).trans ((c_Z5_bind ..).trans (Jj hy)))⟩
noncomputable def e_Z5:Jz:=m_Z5 (Z5)
theorem e_Z5_ok:(e_Z5).ok Try.prog (Jm (Jl Try.f9) 3):=by
 intro R ds k r h
 unfold e_Z5 m_Z5 at h
 obtain ⟨_,_,rfl,h⟩:=Jd h
 obtain ⟨_,_,rfl,h⟩:=Ja h
 obtain ⟨_,_,rfl,h⟩:=Jd h
 obtain ⟨rfl,hE⟩:=Jg h
 obtain ⟨y,hy,hk⟩:=Jh hE
 obtain ⟨n,hn⟩:=Qh hy
 exact m_Z5_ok n R _ k r ((Jj hn).trans hk)

/-!-/
def c_Z6 {R:Type} (x0:List D) (k:List D→Option R):Option R:=
 if (0:Int)≤(↑x0.length:Int)∧(↑x0.length:Int)≤(↑x0.length:Int)∧(↑x0.length:Int)≤(4294967296:Int) then
 (Z5 x0 (0:Int) (List.replicate (↑x0.length:Int).toNat (D.node [D.int 0,D.str bytes_0,D.int 0,D.int 0,D.int 0]))).bind (fun y0=>
 k y0)
 else
 none
theorem c_Z6_bind {R:Type} (x0:List D) (k:List D→Option R):c_Z6 x0 k=(c_Z6 x0 some).bind k:=by
 unfold c_Z6
 repeat' first
  | exact JH
  | exact JG
  | exact JF
  | apply JC
  | apply JD
  | apply JI
  | (apply JE; intro _)
  | intro _
def Z6 (x0:List D):Option (List D):=c_Z6 x0 some
def e_Z6:Ent:=⟨9,[.rd (.struct [.int .i64,.str,.int .i64,.int .i64,.int .i64])],[(.own (.struct [.int .i64,.str,.int .i64,.int .i64,.int .i64]),[.undef])],fun _ ds k=>dL (fun x0 ds=>dE ((Z6 x0).bind (fun y=>k 0 [.L y])) ds) ds⟩
theorem q_Z6 (x0:List D):J5 (Jv []) (Jw [e_Z5]) A 9 Try.f9 (Sh.mks e_Z6.sh [.L x0]).1 (fun v os=>some (v,os))=c_Z6 x0 (fun y=>J9 e_Z6 0 [.L y]):=by kernel_rfl
theorem e_Z6_ok:e_Z6.ok Try.prog A:=by
 intro R ds k r h
 unfold e_Z6 at h
 obtain ⟨_,_,rfl,h⟩:=Jd h
 obtain ⟨rfl,hE⟩:=Jg h
 obtain ⟨y,hy,hk⟩:=Jh hE
 exact ⟨0,_,_,_,hk,rfl,Qa px (fx:=⟨Try.func9,by kernel_rfl,by kernel_rfl⟩) Js (Jx e_Z5_ok Jt) ((q_Z6 ..).trans ((c_Z6_bind ..).trans (Jj hy)))⟩

/-!-/
def c_Z7 {R:Type} (x0 x1 x2:Int) (k:Bool→Option R):Option R:=
 bif decide (x1≤x0) then
 k (decide (x0≤x2))
 else
 k Bool.false
theorem c_Z7_bind {R:Type} (x0 x1 x2:Int) (k:Bool→Option R):c_Z7 x0 x1 x2 k=(c_Z7 x0 x1 x2 some).bind k:=by
 unfold c_Z7
 repeat' first
  | exact JH
  | exact JG
  | exact JF
  | apply JC
  | apply JD
  | apply JI
  | (apply JE; intro _)
  | intro _
def Z7 (x0 x1 x2:Int):Option (Bool):=c_Z7 x0 x1 x2 some
def e_Z7:Ent:=⟨35,[.int .i64,.int .i64,.int .i64],[(.bool,[.undef,.undef,.undef])],fun _ ds k=>dI (fun x0 ds=>dI (fun x1 ds=>dI (fun x2 ds=>dE ((Z7 x0 x1 x2).bind (fun y=>k 0 [.B y])) ds) ds) ds) ds⟩
theorem q_Z7 (x0 x1 x2:Int):J5 (Jv []) (Jw []) A 35 Try.f35 (Sh.mks e_Z7.sh [.I x0,.I x1,.I x2]).1 (fun v os=>some (v,os))=c_Z7 x0 x1 x2 (fun y=>J9 e_Z7 0 [.B y]):=by kernel_rfl
theorem e_Z7_ok:e_Z7.ok Try.prog A:=by
 intro R ds k r h
 unfold e_Z7 at h
 obtain ⟨_,_,rfl,h⟩:=Ja h
 obtain ⟨_,_,rfl,h⟩:=Ja h
 obtain ⟨_,_,rfl,h⟩:=Ja h
 obtain ⟨rfl,hE⟩:=Jg h
 obtain ⟨y,hy,hk⟩:=Jh hE
 exact ⟨0,_,_,_,hk,rfl,Qa px (fx:=⟨Try.func35,by kernel_rfl,by kernel_rfl⟩) Js Jt ((q_Z7 ..).trans ((c_Z7_bind ..).trans (Jj hy)))⟩

/-!-/
abbrev T_Z8:=ByteArray→Int→Option ((Bool)⊕(Unit))
def c_Z8 {R:Type} (F:T_Z8) (x0:ByteArray) (x1:Int) (k:(Bool)⊕(Unit)→Option R):Option R:=
 bif decide (x1<(↑x0.size:Int)) then
 if 0≤x1∧x1<(↑x0.size:Int) then
 bif decide ((↑(x0.data.toList.getD x1.toNat (0:UInt8)).toNat:Int)<(97:Int)) then
 if 0≤x1∧x1<(↑x0.size:Int) then
 bif decide ((↑(x0.data.toList.getD x1.toNat (0:UInt8)).toNat:Int)<(48:Int)) then
 k (.inl Bool.false)
 else
 if 0≤x1∧x1<(↑x0.size:Int) then
 bif decide ((57:Int)<(↑(x0.data.toList.getD x1.toNat (0:UInt8)).toNat:Int)) then
 k (.inl Bool.false)
 else
 (F x0 (IntKind.i64.wrap (x1+1))).bind k
 else
 none
 else
 none
 else
 if 0≤x1∧x1<(↑x0.size:Int) then
 bif decide ((122:Int)<(↑(x0.data.toList.getD x1.toNat (0:UInt8)).toNat:Int)) then
 if 0≤x1∧x1<(↑x0.size:Int) then
 bif decide ((↑(x0.data.toList.getD x1.toNat (0:UInt8)).toNat:Int)<(48:Int)) then
 k (.inl Bool.false)
 else
 if 0≤x1∧x1<(↑x0.size:Int) then
 bif decide ((57:Int)<(↑(x0.data.toList.getD x1.toNat (0:UInt8)).toNat:Int)) then
 k (.inl Bool.false)
 else
 (F x0 (IntKind.i64.wrap (x1+1))).bind k
 else
 none
 else
 none
 else
 (F x0 (IntKind.i64.wrap (x1+1))).bind k
 else
 none
 else
 none
 else
 k (.inr ())
theorem c_Z8_bind {R:Type} (F:T_Z8) (x0:ByteArray) (x1:Int) (k:(Bool)⊕(Unit)→Option R):c_Z8 F x0 x1 k=(c_Z8 F x0 x1 some).bind k:=by
 unfold c_Z8
 repeat' first
  | exact JH
  | exact JG
  | exact JF
  | apply JC
  | apply JD
  | apply JI
  | (apply JE; intro _)
  | intro _
def n_Z8:Nat→T_Z8
 | 0,_,_=>none
 | n+1,x0,x1=>c_Z8 (n_Z8 n) x0 x1 some
noncomputable def Z8 (x0:ByteArray) (x1:Int):Option ((Bool)⊕(Unit)):=ev (fun n=>n_Z8 n x0 x1)
def m_Z8 (F:T_Z8):Jz:=⟨4,⟨(.str::.undef::.undef::.int .i64::uu 42 ([])),[]⟩,[(.ret,⟨(.undef::.undef::.bool::uu 43 ([])),[]⟩),(.exit 0,⟨(uu 46 ([])),[]⟩)],fun _ ds k=>dS (fun x0 ds=>dI (fun x1 ds=>dE ((F x0 x1).bind (Sum.elim (fun y=>k 0 [.B y]) (fun y=>k 1 []))) ds) ds) ds⟩
theorem q_Z8 (F:T_Z8) (x0:ByteArray) (x1:Int):Qg (Jv []) (Jw [m_Z8 F]) A 62 (Jm (Jl Try.f62) 4) ((m_Z8 F).sh.mk' [.S x0,.I x1]) (fun e σ'=>some (e,σ'))=c_Z8 F x0 x1 (Sum.elim (fun y=>some (.ret,SSt.mk' ⟨(.undef::.undef::.bool::uu 43 ([])),[]⟩ [.B y])) (fun y=>some (.exit 0,SSt.mk' ⟨(uu 46 ([])),[]⟩ []))):=by kernel_rfl
theorem m_Z8_ok:∀ n,(m_Z8 (n_Z8 n)).ok Try.prog (Jm (Jl Try.f62) 4):=by
 intro n
 induction n with
 | zero=>
  intro R ds k r h
  unfold m_Z8 at h
  obtain ⟨_,_,rfl,h⟩:=QI h
  obtain ⟨_,_,rfl,h⟩:=Ja h
  obtain ⟨rfl,hE⟩:=Jg h
  obtain ⟨y,hy,hk⟩:=Jh hE
  cases hy
 | succ n ih=>
  intro R ds k r h
  unfold m_Z8 at h
  obtain ⟨_,_,rfl,h⟩:=QI h
  obtain ⟨_,_,rfl,h⟩:=Ja h
  obtain ⟨rfl,hE⟩:=Jg h
  obtain ⟨y,hy,hk⟩:=Jh hE
  cases y with
  | inl y=>
   exact ⟨0,_,_,_,hk,rfl,J6 px (fx:=⟨Try.func62,by kernel_rfl,by kernel_rfl⟩) Js (Jx ih Jt) (by kernel_rfl) ((q_Z8 ..).trans ((c_Z8_bind ..).trans (Jj hy)))⟩
  | inr y=>
   exact ⟨1,_,_,_,hk,rfl,J6 px (fx:=⟨Try.func62,by kernel_rfl,by kernel_rfl⟩) Js (Jx ih Jt) (by kernel_rfl) ((q_Z8 ..).trans ((c_Z8_bind ..).trans (Jj hy)))⟩
noncomputable def e_Z8:Jz:=m_Z8 (Z8)
theorem e_Z8_ok:(e_Z8).ok Try.prog (Jm (Jl Try.f62) 4):=by
 intro R ds k r h
 unfold e_Z8 m_Z8 at h
 obtain ⟨_,_,rfl,h⟩:=QI h
 obtain ⟨_,_,rfl,h⟩:=Ja h
 obtain ⟨rfl,hE⟩:=Jg h
 obtain ⟨y,hy,hk⟩:=Jh hE
 obtain ⟨n,hn⟩:=Qh hy
 exact m_Z8_ok n R _ k r ((Jj hn).trans hk)

/-!-/
def c_Z9 {R:Type} (x0:ByteArray) (k:Bool→Option R):Option R:=
 (Z7 (↑x0.size:Int) (1:Int) (8:Int)).bind (fun y0=>
 bif !y0 then
 k Bool.false
 else
 if (0:Int)≤(0:Int)∧(0:Int)<(↑x0.size:Int) then
 bif decide ((↑(x0.data.toList.getD (Int.toNat (0:Int)) (0:UInt8)).toNat:Int)<(97:Int)) then
 k Bool.false
 else
 if (0:Int)≤(0:Int)∧(0:Int)<(↑x0.size:Int) then
 bif decide ((122:Int)<(↑(x0.data.toList.getD (Int.toNat (0:Int)) (0:UInt8)).toNat:Int)) then
 k Bool.false
 else
 (Z8 x0 (0:Int)).bind (Sum.elim (fun y1=>
 k y1) (fun y2=>
 k Bool.true))
 else
 none
 else
 none)
theorem c_Z9_bind {R:Type} (x0:ByteArray) (k:Bool→Option R):c_Z9 x0 k=(c_Z9 x0 some).bind k:=by
 unfold c_Z9
 repeat' first
  | exact JH
  | exact JG
  | exact JF
  | apply JC
  | apply JD
  | apply JI
  | (apply JE; intro _)
  | intro _
def Z9 (x0:ByteArray):Option (Bool):=c_Z9 x0 some
def e_Z9:Ent:=⟨62,[.str],[(.bool,[.undef])],fun _ ds k=>dS (fun x0 ds=>dE ((Z9 x0).bind (fun y=>k 0 [.B y])) ds) ds⟩
theorem q_Z9 (x0:ByteArray):J5 (Jv [e_Z7]) (Jw [e_Z8]) A 62 Try.f62 (Sh.mks e_Z9.sh [.S x0]).1 (fun v os=>some (v,os))=c_Z9 x0 (fun y=>J9 e_Z9 0 [.B y]):=by kernel_rfl
theorem e_Z9_ok:e_Z9.ok Try.prog A:=by
 intro R ds k r h
 unfold e_Z9 at h
 obtain ⟨_,_,rfl,h⟩:=QI h
 obtain ⟨rfl,hE⟩:=Jg h
 obtain ⟨y,hy,hk⟩:=Jh hE
 exact ⟨0,_,_,_,hk,rfl,Qa px (fx:=⟨Try.func62,by kernel_rfl,by kernel_rfl⟩) (JR e_Z7_ok Js) (Jx e_Z8_ok Jt) ((q_Z9 ..).trans ((c_Z9_bind ..).trans (Jj hy)))⟩

/-!-/
def c_Z10 {R:Type} (x0:Int) (x1:ByteArray) (x2 x3 x4:Int) (k:Bool→Option R):Option R:=
 (Z7 x0 (1:Int) (999:Int)).bind (fun y0=>
 bif y0 then
 (Z9 x1).bind (fun y1=>
 bif y1 then
 (Z7 x2 (1:Int) (10000:Int)).bind (fun y2=>
 bif y2 then
 (Z7 x3 (0:Int) (1000000:Int)).bind (fun y3=>
 bif y3 then
 (Z7 x4 (0:Int) (IntKind.i64.wrap ((100:Int) * x2))).bind (fun y4=>
 k y4)
 else
 k Bool.false)
 else
 k Bool.false)
 else
 k Bool.false)
 else
 k Bool.false)
theorem c_Z10_bind {R:Type} (x0:Int) (x1:ByteArray) (x2 x3 x4:Int) (k:Bool→Option R):c_Z10 x0 x1 x2 x3 x4 k=(c_Z10 x0 x1 x2 x3 x4 some).bind k:=by
 unfold c_Z10
 repeat' first
  | exact JH
  | exact JG
  | exact JF
  | apply JC
  | apply JD
  | apply JI
  | (apply JE; intro _)
  | intro _
def Z10 (x0:Int) (x1:ByteArray) (x2 x3 x4:Int):Option (Bool):=c_Z10 x0 x1 x2 x3 x4 some
def e_Z10:Ent:=⟨45,[.agg [.int .i64,.str,.int .i64,.int .i64,.int .i64]],[(.bool,[.undef])],fun _ ds k=>dI (fun x0 ds=>dS (fun x1 ds=>dI (fun x2 ds=>dI (fun x3 ds=>dI (fun x4 ds=>dE ((Z10 x0 x1 x2 x3 x4).bind (fun y=>k 0 [.B y])) ds) ds) ds) ds) ds) ds⟩
theorem q_Z10 (x0:Int) (x1:ByteArray) (x2 x3 x4:Int):J5 (Jv [e_Z7,e_Z9]) (Jw []) A 45 Try.f45 (Sh.mks e_Z10.sh [.I x0,.S x1,.I x2,.I x3,.I x4]).1 (fun v os=>some (v,os))=c_Z10 x0 x1 x2 x3 x4 (fun y=>J9 e_Z10 0 [.B y]):=by kernel_rfl
theorem e_Z10_ok:e_Z10.ok Try.prog A:=by
 intro R ds k r h
 unfold e_Z10 at h
 obtain ⟨_,_,rfl,h⟩:=Ja h
 obtain ⟨_,_,rfl,h⟩:=QI h
 obtain ⟨_,_,rfl,h⟩:=Ja h
 obtain ⟨_,_,rfl,h⟩:=Ja h
 obtain ⟨_,_,rfl,h⟩:=Ja h
 obtain ⟨rfl,hE⟩:=Jg h
 obtain ⟨y,hy,hk⟩:=Jh hE
 exact ⟨0,_,_,_,hk,rfl,Qa px (fx:=⟨Try.func45,by kernel_rfl,by kernel_rfl⟩) (JR e_Z7_ok (JR e_Z9_ok Js)) Jt ((q_Z10 ..).trans ((c_Z10_bind ..).trans (Jj hy)))⟩

/-!-/
def c_Z11 {R:Type} (x0:Int) (x1:ByteArray) (x2 x3 x4 x5:Int) (x6:ByteArray) (x7 x8 x9:Int) (k:Bool→Option R):Option R:=
 bif decide (x0<x5) then
 k Bool.true
 else
 bif decide (x0=x5) then
 k (Go.Op.bytesLess x1.toList x6.toList)
 else
 k Bool.false
theorem c_Z11_bind {R:Type} (x0:Int) (x1:ByteArray) (x2 x3 x4 x5:Int) (x6:ByteArray) (x7 x8 x9:Int) (k:Bool→Option R):c_Z11 x0 x1 x2 x3 x4 x5 x6 x7 x8 x9 k=(c_Z11 x0 x1 x2 x3 x4 x5 x6 x7 x8 x9 some).bind k:=by
 unfold c_Z11
 repeat' first
  | exact JH
  | exact JG
  | exact JF
  | apply JC
  | apply JD
  | apply JI
  | (apply JE; intro _)
  | intro _
def Z11 (x0:Int) (x1:ByteArray) (x2 x3 x4 x5:Int) (x6:ByteArray) (x7 x8 x9:Int):Option (Bool):=c_Z11 x0 x1 x2 x3 x4 x5 x6 x7 x8 x9 some
def e_Z11:Ent:=⟨46,[.agg [.int .i64,.str,.int .i64,.int .i64,.int .i64],.agg [.int .i64,.str,.int .i64,.int .i64,.int .i64]],[(.bool,[.undef,.undef])],fun _ ds k=>dI (fun x0 ds=>dS (fun x1 ds=>dI (fun x2 ds=>dI (fun x3 ds=>dI (fun x4 ds=>dI (fun x5 ds=>dS (fun x6 ds=>dI (fun x7 ds=>dI (fun x8 ds=>dI (fun x9 ds=>dE ((Z11 x0 x1 x2 x3 x4 x5 x6 x7 x8 x9).bind (fun y=>k 0 [.B y])) ds) ds) ds) ds) ds) ds) ds) ds) ds) ds) ds⟩
theorem q_Z11 (x0:Int) (x1:ByteArray) (x2 x3 x4 x5:Int) (x6:ByteArray) (x7 x8 x9:Int):J5 (Jv []) (Jw []) A 46 Try.f46 (Sh.mks e_Z11.sh [.I x0,.S x1,.I x2,.I x3,.I x4,.I x5,.S x6,.I x7,.I x8,.I x9]).1 (fun v os=>some (v,os))=c_Z11 x0 x1 x2 x3 x4 x5 x6 x7 x8 x9 (fun y=>J9 e_Z11 0 [.B y]):=by kernel_rfl
theorem e_Z11_ok:e_Z11.ok Try.prog A:=by
 intro R ds k r h
 unfold e_Z11 at h
 obtain ⟨_,_,rfl,h⟩:=Ja h
 obtain ⟨_,_,rfl,h⟩:=QI h
 obtain ⟨_,_,rfl,h⟩:=Ja h
 obtain ⟨_,_,rfl,h⟩:=Ja h
 obtain ⟨_,_,rfl,h⟩:=Ja h
 obtain ⟨_,_,rfl,h⟩:=Ja h
 obtain ⟨_,_,rfl,h⟩:=QI h
 obtain ⟨_,_,rfl,h⟩:=Ja h
 obtain ⟨_,_,rfl,h⟩:=Ja h
 obtain ⟨_,_,rfl,h⟩:=Ja h
 obtain ⟨rfl,hE⟩:=Jg h
 obtain ⟨y,hy,hk⟩:=Jh hE
 exact ⟨0,_,_,_,hk,rfl,Qa px (fx:=⟨Try.func46,by kernel_rfl,by kernel_rfl⟩) Js Jt ((q_Z11 ..).trans ((c_Z11_bind ..).trans (Jj hy)))⟩

/-!-/
abbrev T_Z12:=List D→Int→Option ((List D×Bool)⊕(List D))
def c_Z12 {R:Type} (F:T_Z12) (x0:List D) (x1:Int) (k:(List D×Bool)⊕(List D)→Option R):Option R:=
 bif decide (x1<(↑x0.length:Int)) then
 bif decide (x1≤(30:Int)) then
 if 0≤x1∧x1<(↑x0.length:Int) then
 (Z10 (((x0.getD x1.toNat (D.int 0)).fld (0:Nat)).toInt) (((x0.getD x1.toNat (D.int 0)).fld (1:Nat)).toStr) (((x0.getD x1.toNat (D.int 0)).fld (2:Nat)).toInt) (((x0.getD x1.toNat (D.int 0)).fld (3:Nat)).toInt) (((x0.getD x1.toNat (D.int 0)).fld (4:Nat)).toInt)).bind (fun y0=>
 bif !y0 then
 k (.inl (x0,Bool.false))
 else
 bif decide ((0:Int)<x1) then
 if (0:Int)≤IntKind.i64.wrap (x1 - 1)∧IntKind.i64.wrap (x1 - 1)<(↑x0.length:Int) then
 if 0≤x1∧x1<(↑x0.length:Int) then
 (Z11 (((x0.getD (IntKind.i64.wrap (x1 - 1)).toNat (D.int 0)).fld (0:Nat)).toInt) (((x0.getD (IntKind.i64.wrap (x1 - 1)).toNat (D.int 0)).fld (1:Nat)).toStr) (((x0.getD (IntKind.i64.wrap (x1 - 1)).toNat (D.int 0)).fld (2:Nat)).toInt) (((x0.getD (IntKind.i64.wrap (x1 - 1)).toNat (D.int 0)).fld (3:Nat)).toInt) (((x0.getD (IntKind.i64.wrap (x1 - 1)).toNat (D.int 0)).fld (4:Nat)).toInt) (((x0.getD x1.toNat (D.int 0)).fld (0:Nat)).toInt) (((x0.getD x1.toNat (D.int 0)).fld (1:Nat)).toStr) (((x0.getD x1.toNat (D.int 0)).fld (2:Nat)).toInt) (((x0.getD x1.toNat (D.int 0)).fld (3:Nat)).toInt) (((x0.getD x1.toNat (D.int 0)).fld (4:Nat)).toInt)).bind (fun y1=>
 bif !y1 then
 k (.inl (x0,Bool.false))
 else
 (F x0 (IntKind.i64.wrap (x1+1))).bind k)
 else
 none
 else
 none
 else
 (F x0 (IntKind.i64.wrap (x1+1))).bind k)
 else
 none
 else
 k (.inr x0)
 else
 k (.inr x0)
theorem c_Z12_bind {R:Type} (F:T_Z12) (x0:List D) (x1:Int) (k:(List D×Bool)⊕(List D)→Option R):c_Z12 F x0 x1 k=(c_Z12 F x0 x1 some).bind k:=by
 unfold c_Z12
 repeat' first
  | exact JH
  | exact JG
  | exact JF
  | apply JC
  | apply JD
  | apply JI
  | (apply JE; intro _)
  | intro _
def n_Z12:Nat→T_Z12
 | 0,_,_=>none
 | n+1,x0,x1=>c_Z12 (n_Z12 n) x0 x1 some
noncomputable def Z12 (x0:List D) (x1:Int):Option ((List D×Bool)⊕(List D)):=ev (fun n=>n_Z12 n x0 x1)
def m_Z12 (F:T_Z12):Jz:=⟨2,⟨(.rd (.struct [.int .i64,.str,.int .i64,.int .i64,.int .i64])::.undef::.undef::.int .i64::uu 36 ([])),[]⟩,[(.ret,⟨(.rd (.struct [.int .i64,.str,.int .i64,.int .i64,.int .i64])::.undef::.bool::uu 37 ([])),[]⟩),(.exit 0,⟨(.rd (.struct [.int .i64,.str,.int .i64,.int .i64,.int .i64])::uu 39 ([])),[]⟩)],fun _ ds k=>dL (fun x0 ds=>dI (fun x1 ds=>dE ((F x0 x1).bind (Sum.elim (fun y=>k 0 [.L y.1,.B y.2]) (fun y=>k 1 [.L y]))) ds) ds) ds⟩
theorem q_Z12 (F:T_Z12) (x0:List D) (x1:Int):Qg (Jv [e_Z10,e_Z11]) (Jw [m_Z12 F]) A 28 (Jm (Jl Try.f28) 2) ((m_Z12 F).sh.mk' [.L x0,.I x1]) (fun e σ'=>some (e,σ'))=c_Z12 F x0 x1 (Sum.elim (fun y=>some (.ret,SSt.mk' ⟨(.rd (.struct [.int .i64,.str,.int .i64,.int .i64,.int .i64])::.undef::.bool::uu 37 ([])),[]⟩ [.L y.1,.B y.2])) (fun y=>some (.exit 0,SSt.mk' ⟨(.rd (.struct [.int .i64,.str,.int .i64,.int .i64,.int .i64])::uu 39 ([])),[]⟩ [.L y]))):=by kernel_rfl
theorem m_Z12_ok:∀ n,(m_Z12 (n_Z12 n)).ok Try.prog (Jm (Jl Try.f28) 2):=by
 intro n
 induction n with
 | zero=>
  intro R ds k r h
  unfold m_Z12 at h
  obtain ⟨_,_,rfl,h⟩:=Jd h
  obtain ⟨_,_,rfl,h⟩:=Ja h
  obtain ⟨rfl,hE⟩:=Jg h
  obtain ⟨y,hy,hk⟩:=Jh hE
  cases hy
 | succ n ih=>
  intro R ds k r h
  unfold m_Z12 at h
  obtain ⟨_,_,rfl,h⟩:=Jd h
  obtain ⟨_,_,rfl,h⟩:=Ja h
  obtain ⟨rfl,hE⟩:=Jg h
  obtain ⟨y,hy,hk⟩:=Jh hE
  cases y with
  | inl y=>
   exact ⟨0,_,_,_,hk,rfl,J6 px (fx:=⟨Try.func28,by kernel_rfl,by kernel_rfl⟩) (JR e_Z10_ok (JR e_Z11_ok Js)) (Jx ih Jt) (by kernel_rfl) ((q_Z12 ..).trans ((c_Z12_bind ..).trans (Jj hy)))⟩
  | inr y=>
   exact ⟨1,_,_,_,hk,rfl,J6 px (fx:=⟨Try.func28,by kernel_rfl,by kernel_rfl⟩) (JR e_Z10_ok (JR e_Z11_ok Js)) (Jx ih Jt) (by kernel_rfl) ((q_Z12 ..).trans ((c_Z12_bind ..).trans (Jj hy)))⟩
noncomputable def e_Z12:Jz:=m_Z12 (Z12)
theorem e_Z12_ok:(e_Z12).ok Try.prog (Jm (Jl Try.f28) 2):=by
 intro R ds k r h
 unfold e_Z12 m_Z12 at h
 obtain ⟨_,_,rfl,h⟩:=Jd h
 obtain ⟨_,_,rfl,h⟩:=Ja h
 obtain ⟨rfl,hE⟩:=Jg h
 obtain ⟨y,hy,hk⟩:=Jh hE
 obtain ⟨n,hn⟩:=Qh hy
 exact m_Z12_ok n R _ k r ((Jj hn).trans hk)

/-!-/
def c_Z13 {R:Type} (x0:List D) (k:Bool→Option R):Option R:=
 (Z12 x0 (0:Int)).bind (Sum.elim (fun y0=>
 k y0.snd) (fun y1=>
 k (decide ((↑y1.length:Int)≤(30:Int)))))
theorem c_Z13_bind {R:Type} (x0:List D) (k:Bool→Option R):c_Z13 x0 k=(c_Z13 x0 some).bind k:=by
 unfold c_Z13
 repeat' first
  | exact JH
  | exact JG
  | exact JF
  | apply JC
  | apply JD
  | apply JI
  | (apply JE; intro _)
  | intro _
def Z13 (x0:List D):Option (Bool):=c_Z13 x0 some
def e_Z13:Ent:=⟨28,[.rd (.struct [.int .i64,.str,.int .i64,.int .i64,.int .i64])],[(.bool,[.undef])],fun _ ds k=>dL (fun x0 ds=>dE ((Z13 x0).bind (fun y=>k 0 [.B y])) ds) ds⟩
theorem q_Z13 (x0:List D):J5 (Jv []) (Jw [e_Z12]) A 28 Try.f28 (Sh.mks e_Z13.sh [.L x0]).1 (fun v os=>some (v,os))=c_Z13 x0 (fun y=>J9 e_Z13 0 [.B y]):=by kernel_rfl
theorem e_Z13_ok:e_Z13.ok Try.prog A:=by
 intro R ds k r h
 unfold e_Z13 at h
 obtain ⟨_,_,rfl,h⟩:=Jd h
 obtain ⟨rfl,hE⟩:=Jg h
 obtain ⟨y,hy,hk⟩:=Jh hE
 exact ⟨0,_,_,_,hk,rfl,Qa px (fx:=⟨Try.func28,by kernel_rfl,by kernel_rfl⟩) Js (Jx e_Z12_ok Jt) ((q_Z13 ..).trans ((c_Z13_bind ..).trans (Jj hy)))⟩

/-!-/
def c_Z14 {R:Type} (x0:List D) (x1:Int) (k:Bool→Option R):Option R:=
 (Z13 x0).bind (fun y0=>
 bif y0 then
 (Z7 x1 (1:Int) (999:Int)).bind (fun y1=>
 k y1)
 else
 k Bool.false)
theorem c_Z14_bind {R:Type} (x0:List D) (x1:Int) (k:Bool→Option R):c_Z14 x0 x1 k=(c_Z14 x0 x1 some).bind k:=by
 unfold c_Z14
 repeat' first
  | exact JH
  | exact JG
  | exact JF
  | apply JC
  | apply JD
  | apply JI
  | (apply JE; intro _)
  | intro _
def Z14 (x0:List D) (x1:Int):Option (Bool):=c_Z14 x0 x1 some
def e_Z14:Ent:=⟨34,[.rd (.struct [.int .i64,.str,.int .i64,.int .i64,.int .i64]),.int .i64],[(.bool,[.undef,.undef])],fun _ ds k=>dL (fun x0 ds=>dI (fun x1 ds=>dE ((Z14 x0 x1).bind (fun y=>k 0 [.B y])) ds) ds) ds⟩
theorem q_Z14 (x0:List D) (x1:Int):J5 (Jv [e_Z13,e_Z7]) (Jw []) A 34 Try.f34 (Sh.mks e_Z14.sh [.L x0,.I x1]).1 (fun v os=>some (v,os))=c_Z14 x0 x1 (fun y=>J9 e_Z14 0 [.B y]):=by kernel_rfl
theorem e_Z14_ok:e_Z14.ok Try.prog A:=by
 intro R ds k r h
 unfold e_Z14 at h
 obtain ⟨_,_,rfl,h⟩:=Jd h
 obtain ⟨_,_,rfl,h⟩:=Ja h
 obtain ⟨rfl,hE⟩:=Jg h
 obtain ⟨y,hy,hk⟩:=Jh hE
 exact ⟨0,_,_,_,hk,rfl,Qa px (fx:=⟨Try.func34,by kernel_rfl,by kernel_rfl⟩) (JR e_Z13_ok (JR e_Z7_ok Js)) Jt ((q_Z14 ..).trans ((c_Z14_bind ..).trans (Jj hy)))⟩

/-!-/
abbrev T_Z15:=ByteArray→Int→List D→Option (ByteArray×Int×List D)
def c_Z15 {R:Type} (F:T_Z15) (x0:ByteArray) (x1:Int) (x2:List D) (k:ByteArray×Int×List D→Option R):Option R:=
 bif decide (x1<(↑x2.length:Int)) then
 if 0≤x1∧x1<(↑x2.length:Int) then
 if x1.toNat+1≤x2.length then
 bif Go.Op.bytesLess (x2.getD x1.toNat (D.int 0)).toStr.toList x0.toList then
 (F x0 (IntKind.i64.wrap (x1+1)) x2).bind k
 else
 k (x0,x1,x2)
 else
 none
 else
 none
 else
 k (x0,x1,x2)
theorem c_Z15_bind {R:Type} (F:T_Z15) (x0:ByteArray) (x1:Int) (x2:List D) (k:ByteArray×Int×List D→Option R):c_Z15 F x0 x1 x2 k=(c_Z15 F x0 x1 x2 some).bind k:=by
 unfold c_Z15
 repeat' first
  | exact JH
  | exact JG
  | exact JF
  | apply JC
  | apply JD
  | apply JI
  | (apply JE; intro _)
  | intro _
def n_Z15:Nat→T_Z15
 | 0,_,_,_=>none
 | n+1,x0,x1,x2=>c_Z15 (n_Z15 n) x0 x1 x2 some
noncomputable def Z15 (x0:ByteArray) (x1:Int) (x2:List D):Option (ByteArray×Int×List D):=ev (fun n=>n_Z15 n x0 x1 x2)
def m_Z15 (F:T_Z15):Jz:=⟨2,⟨(.full 1000 [] (.str)::.str::.undef::.undef::.undef::.int .i64::uu 39 ([])),[(1000,.own (.str))]⟩,[(.exit 0,⟨(.full 1000 [] (.str)::.str::.undef::.undef::.undef::.int .i64::uu 39 ([])),[(1000,.own (.str))]⟩)],fun _ ds k=>dS (fun x0 ds=>dI (fun x1 ds=>dL (fun x2 ds=>dE ((F x0 x1 x2).bind (fun y=>k 0 [.S y.1,.I y.2.1,.L y.2.2])) ds) ds) ds) ds⟩
theorem q_Z15 (F:T_Z15) (x0:ByteArray) (x1:Int) (x2:List D):Qg (Jv []) (Jw [m_Z15 F]) A 36 (Jm (Jl Try.f36) 2) ((m_Z15 F).sh.mk' [.S x0,.I x1,.L x2]) (fun e σ'=>some (e,σ'))=c_Z15 F x0 x1 x2 (fun y=>some (.exit 0,SSt.mk' ⟨(.full 1000 [] (.str)::.str::.undef::.undef::.undef::.int .i64::uu 39 ([])),[(1000,.own (.str))]⟩ [.S y.1,.I y.2.1,.L y.2.2])):=by kernel_rfl
theorem m_Z15_ok:∀ n,(m_Z15 (n_Z15 n)).ok Try.prog (Jm (Jl Try.f36) 2):=by
 intro n
 induction n with
 | zero=>
  intro R ds k r h
  unfold m_Z15 at h
  obtain ⟨_,_,rfl,h⟩:=QI h
  obtain ⟨_,_,rfl,h⟩:=Ja h
  obtain ⟨_,_,rfl,h⟩:=Jd h
  obtain ⟨rfl,hE⟩:=Jg h
  obtain ⟨y,hy,hk⟩:=Jh hE
  cases hy
 | succ n ih=>
  intro R ds k r h
  unfold m_Z15 at h
  obtain ⟨_,_,rfl,h⟩:=QI h
  obtain ⟨_,_,rfl,h⟩:=Ja h
  obtain ⟨_,_,rfl,h⟩:=Jd h
  obtain ⟨rfl,hE⟩:=Jg h
  obtain ⟨y,hy,hk⟩:=Jh hE
  exact ⟨0,_,_,_,hk,rfl,J6 px (fx:=⟨Try.func36,by kernel_rfl,by kernel_rfl⟩) Js (Jx ih Jt) (by kernel_rfl) ((q_Z15 ..).trans ((c_Z15_bind ..).trans (Jj hy)))⟩
noncomputable def e_Z15:Jz:=m_Z15 (Z15)
theorem e_Z15_ok:(e_Z15).ok Try.prog (Jm (Jl Try.f36) 2):=by
 intro R ds k r h
 unfold e_Z15 m_Z15 at h
 obtain ⟨_,_,rfl,h⟩:=QI h
 obtain ⟨_,_,rfl,h⟩:=Ja h
 obtain ⟨_,_,rfl,h⟩:=Jd h
 obtain ⟨rfl,hE⟩:=Jg h
 obtain ⟨y,hy,hk⟩:=Jh hE
 obtain ⟨n,hn⟩:=Qh hy
 exact m_Z15_ok n R _ k r ((Jj hn).trans hk)

/-!-/
def c_Z16 {R:Type} (x0:List D) (x1:ByteArray) (k:List D→Option R):Option R:=
 (Z15 x1 (0:Int) x0).bind (fun y0=>
 bif decide (y0.snd.fst<(↑y0.snd.snd.length:Int)) then
 if 0≤y0.snd.fst∧y0.snd.fst<(↑y0.snd.snd.length:Int) then
 if y0.snd.fst.toNat+1≤y0.snd.snd.length then
 bif (y0.snd.snd.getD y0.snd.fst.toNat (D.int 0)).toStr.toList==y0.fst.toList then
 k y0.snd.snd
 else
 if (0:Int)≤(0:Int)∧0≤y0.snd.fst∧y0.snd.fst≤(↑y0.snd.snd.length:Int) then
 if (0:Nat)+(y0.snd.fst.toNat - (0:Nat))≤y0.snd.snd.length then
 if ([]:List D).length+(List.take (y0.snd.fst.toNat - (0:Nat)) (List.drop (0:Nat) y0.snd.snd)).length≤(4294967296:Nat) then
 if ([]++List.take (y0.snd.fst.toNat - (0:Nat)) (List.drop (0:Nat) y0.snd.snd)).length+[D.str y0.fst].length≤(4294967296:Nat) then
 if 0≤y0.snd.fst∧y0.snd.fst≤(↑y0.snd.snd.length:Int)∧(↑y0.snd.snd.length:Int)≤(↑y0.snd.snd.length:Int) then
 if y0.snd.fst.toNat+(y0.snd.snd.length - y0.snd.fst.toNat)≤y0.snd.snd.length then
 if ([]++List.take (y0.snd.fst.toNat - (0:Nat)) (List.drop (0:Nat) y0.snd.snd)++[D.str y0.fst]).length+(List.take (y0.snd.snd.length - y0.snd.fst.toNat) (List.drop y0.snd.fst.toNat y0.snd.snd)).length≤(4294967296:Nat) then
 k ([]++List.take (y0.snd.fst.toNat - (0:Nat)) (List.drop (0:Nat) y0.snd.snd)++[D.str y0.fst]++List.take (y0.snd.snd.length - y0.snd.fst.toNat) (List.drop y0.snd.fst.toNat y0.snd.snd))
 else
 none
 else
 none
 else
 none
 else
 none
 else
 none
 else
 none
 else
 none
 else
 none
 else
 none
 else
 if (0:Int)≤(0:Int)∧0≤y0.snd.fst∧y0.snd.fst≤(↑y0.snd.snd.length:Int) then
 if (0:Nat)+(y0.snd.fst.toNat - (0:Nat))≤y0.snd.snd.length then
 if ([]:List D).length+(List.take (y0.snd.fst.toNat - (0:Nat)) (List.drop (0:Nat) y0.snd.snd)).length≤(4294967296:Nat) then
 if ([]++List.take (y0.snd.fst.toNat - (0:Nat)) (List.drop (0:Nat) y0.snd.snd)).length+[D.str y0.fst].length≤(4294967296:Nat) then
 if 0≤y0.snd.fst∧y0.snd.fst≤(↑y0.snd.snd.length:Int)∧(↑y0.snd.snd.length:Int)≤(↑y0.snd.snd.length:Int) then
 if y0.snd.fst.toNat+(y0.snd.snd.length - y0.snd.fst.toNat)≤y0.snd.snd.length then
 if ([]++List.take (y0.snd.fst.toNat - (0:Nat)) (List.drop (0:Nat) y0.snd.snd)++[D.str y0.fst]).length+(List.take (y0.snd.snd.length - y0.snd.fst.toNat) (List.drop y0.snd.fst.toNat y0.snd.snd)).length≤(4294967296:Nat) then
 k ([]++List.take (y0.snd.fst.toNat - (0:Nat)) (List.drop (0:Nat) y0.snd.snd)++[D.str y0.fst]++List.take (y0.snd.snd.length - y0.snd.fst.toNat) (List.drop y0.snd.fst.toNat y0.snd.snd))
 else
 none
 else
 none
 else
 none
 else
 none
 else
 none
 else
 none
 else
 none)
theorem c_Z16_bind {R:Type} (x0:List D) (x1:ByteArray) (k:List D→Option R):c_Z16 x0 x1 k=(c_Z16 x0 x1 some).bind k:=by
 unfold c_Z16
 repeat' first
  | exact JH
  | exact JG
  | exact JF
  | apply JC
  | apply JD
  | apply JI
  | (apply JE; intro _)
  | intro _
def Z16 (x0:List D) (x1:ByteArray):Option (List D):=c_Z16 x0 x1 some
def e_Z16:Ent:=⟨36,[.own (.str),.str],[(.own (.str),[.undef,.undef])],fun _ ds k=>dL (fun x0 ds=>dS (fun x1 ds=>dE ((Z16 x0 x1).bind (fun y=>k 0 [.L y])) ds) ds) ds⟩
theorem q_Z16 (x0:List D) (x1:ByteArray):J5 (Jv []) (Jw [e_Z15]) A 36 Try.f36 (Sh.mks e_Z16.sh [.L x0,.S x1]).1 (fun v os=>some (v,os))=c_Z16 x0 x1 (fun y=>J9 e_Z16 0 [.L y]):=by kernel_rfl
theorem e_Z16_ok:e_Z16.ok Try.prog A:=by
 intro R ds k r h
 unfold e_Z16 at h
 obtain ⟨_,_,rfl,h⟩:=Jd h
 obtain ⟨_,_,rfl,h⟩:=QI h
 obtain ⟨rfl,hE⟩:=Jg h
 obtain ⟨y,hy,hk⟩:=Jh hE
 exact ⟨0,_,_,_,hk,rfl,Qa px (fx:=⟨Try.func36,by kernel_rfl,by kernel_rfl⟩) Js (Jx e_Z15_ok Jt) ((q_Z16 ..).trans ((c_Z16_bind ..).trans (Jj hy)))⟩

/-!-/
abbrev T_Z17:=List D→Int→List D→Option (List D)
def c_Z17 {R:Type} (F:T_Z17) (x0:List D) (x1:Int) (x2:List D) (k:List D→Option R):Option R:=
 bif decide (x1<(↑x0.length:Int)) then
 if 0≤x1∧x1<(↑x0.length:Int) then
 (Z16 x2 (((x0.getD x1.toNat (D.int 0)).fld (1:Nat)).toStr)).bind (fun y0=>
 (F x0 (IntKind.i64.wrap (x1+1)) y0).bind k)
 else
 none
 else
 k x2
theorem c_Z17_bind {R:Type} (F:T_Z17) (x0:List D) (x1:Int) (x2:List D) (k:List D→Option R):c_Z17 F x0 x1 x2 k=(c_Z17 F x0 x1 x2 some).bind k:=by
 unfold c_Z17
 repeat' first
  | exact JH
  | exact JG
  | exact JF
  | apply JC
  | apply JD
  | apply JI
  | (apply JE; intro _)
  | intro _
def n_Z17:Nat→T_Z17
 | 0,_,_,_=>none
 | n+1,x0,x1,x2=>c_Z17 (n_Z17 n) x0 x1 x2 some
noncomputable def Z17 (x0:List D) (x1:Int) (x2:List D):Option (List D):=ev (fun n=>n_Z17 n x0 x1 x2)
def m_Z17 (F:T_Z17):Jz:=⟨3,⟨(.rd (.struct [.int .i64,.str,.int .i64,.int .i64,.int .i64])::.undef::.undef::.full 1000 [] (.str)::.int .i64::uu 15 ([])),[(1000,.own (.str))]⟩,[(.exit 0,⟨(.undef::.undef::.undef::.full 1000 [] (.str)::uu 16 ([])),[(1000,.own (.str))]⟩)],fun _ ds k=>dL (fun x0 ds=>dI (fun x1 ds=>dL (fun x2 ds=>dE ((F x0 x1 x2).bind (fun y=>k 0 [.L y])) ds) ds) ds) ds⟩
theorem q_Z17 (F:T_Z17) (x0:List D) (x1:Int) (x2:List D):Qg (Jv [e_Z16]) (Jw [m_Z17 F]) A 29 (Jm (Jl Try.f29) 3) ((m_Z17 F).sh.mk' [.L x0,.I x1,.L x2]) (fun e σ'=>some (e,σ'))=c_Z17 F x0 x1 x2 (fun y=>some (.exit 0,SSt.mk' ⟨(.undef::.undef::.undef::.full 1000 [] (.str)::uu 16 ([])),[(1000,.own (.str))]⟩ [.L y])):=by kernel_rfl
theorem m_Z17_ok:∀ n,(m_Z17 (n_Z17 n)).ok Try.prog (Jm (Jl Try.f29) 3):=by
 intro n
 induction n with
 | zero=>
  intro R ds k r h
  unfold m_Z17 at h
  obtain ⟨_,_,rfl,h⟩:=Jd h
  obtain ⟨_,_,rfl,h⟩:=Ja h
  obtain ⟨_,_,rfl,h⟩:=Jd h
  obtain ⟨rfl,hE⟩:=Jg h
  obtain ⟨y,hy,hk⟩:=Jh hE
  cases hy
 | succ n ih=>
  intro R ds k r h
  unfold m_Z17 at h
  obtain ⟨_,_,rfl,h⟩:=Jd h
  obtain ⟨_,_,rfl,h⟩:=Ja h
  obtain ⟨_,_,rfl,h⟩:=Jd h
  obtain ⟨rfl,hE⟩:=Jg h
  obtain ⟨y,hy,hk⟩:=Jh hE
  exact ⟨0,_,_,_,hk,rfl,J6 px (fx:=⟨Try.func29,by kernel_rfl,by kernel_rfl⟩) (JR e_Z16_ok Js) (Jx ih Jt) (by kernel_rfl) ((q_Z17 ..).trans ((c_Z17_bind ..).trans (Jj hy)))⟩
noncomputable def e_Z17:Jz:=m_Z17 (Z17)
theorem e_Z17_ok:(e_Z17).ok Try.prog (Jm (Jl Try.f29) 3):=by
 intro R ds k r h
 unfold e_Z17 m_Z17 at h
 obtain ⟨_,_,rfl,h⟩:=Jd h
 obtain ⟨_,_,rfl,h⟩:=Ja h
 obtain ⟨_,_,rfl,h⟩:=Jd h
 obtain ⟨rfl,hE⟩:=Jg h
 obtain ⟨y,hy,hk⟩:=Jh hE
 obtain ⟨n,hn⟩:=Qh hy
 exact m_Z17_ok n R _ k r ((Jj hn).trans hk)

/-!-/
def c_Z18 {R:Type} (x0:List D) (k:List D→Option R):Option R:=
 (Z17 x0 (0:Int) []).bind (fun y0=>
 k y0)
theorem c_Z18_bind {R:Type} (x0:List D) (k:List D→Option R):c_Z18 x0 k=(c_Z18 x0 some).bind k:=by
 unfold c_Z18
 repeat' first
  | exact JH
  | exact JG
  | exact JF
  | apply JC
  | apply JD
  | apply JI
  | (apply JE; intro _)
  | intro _
def Z18 (x0:List D):Option (List D):=c_Z18 x0 some
def e_Z18:Ent:=⟨29,[.rd (.struct [.int .i64,.str,.int .i64,.int .i64,.int .i64])],[(.own (.str),[.undef])],fun _ ds k=>dL (fun x0 ds=>dE ((Z18 x0).bind (fun y=>k 0 [.L y])) ds) ds⟩
theorem q_Z18 (x0:List D):J5 (Jv []) (Jw [e_Z17]) A 29 Try.f29 (Sh.mks e_Z18.sh [.L x0]).1 (fun v os=>some (v,os))=c_Z18 x0 (fun y=>J9 e_Z18 0 [.L y]):=by kernel_rfl
theorem e_Z18_ok:e_Z18.ok Try.prog A:=by
 intro R ds k r h
 unfold e_Z18 at h
 obtain ⟨_,_,rfl,h⟩:=Jd h
 obtain ⟨rfl,hE⟩:=Jg h
 obtain ⟨y,hy,hk⟩:=Jh hE
 exact ⟨0,_,_,_,hk,rfl,Qa px (fx:=⟨Try.func29,by kernel_rfl,by kernel_rfl⟩) Js (Jx e_Z17_ok Jt) ((q_Z18 ..).trans ((c_Z18_bind ..).trans (Jj hy)))⟩

/-!-/
abbrev T_Z19:=List D→Int→Int→Int→Int→List D→List D→Option (List D×Int×Int×Int×List D×List D)
def c_Z19 {R:Type} (F:T_Z19) (x0:List D) (x1 x2 x3 x4:Int) (x5 x6:List D) (k:List D×Int×Int×Int×List D×List D→Option R):Option R:=
 bif decide (x4<(↑x0.length:Int)) then
 if 0≤x4∧x4<(↑x0.length:Int) then
 bif decide (((x0.getD x4.toNat (D.int 0)).fld (0:Nat)).toInt=x1) then
 if 0≤x4∧x4<(↑x0.length:Int) then
 if 0≤x2∧x2<(↑x5.length:Int) then
 if x2.toNat+1≤x5.length then
 bif ((x0.getD x4.toNat (D.int 0)).fld (1:Nat)).toStr.toList==(x5.getD x2.toNat (D.int 0)).toStr.toList then
 if 0≤x4∧x4<(↑x0.length:Int) then
 (F x0 x1 x2 (((x0.getD x4.toNat (D.int 0)).fld (2:Nat)).toInt) (IntKind.i64.wrap (x4+1)) x5 x6).bind k
 else
 none
 else
 (F x0 x1 x2 x3 (IntKind.i64.wrap (x4+1)) x5 x6).bind k
 else
 none
 else
 none
 else
 none
 else
 (F x0 x1 x2 x3 (IntKind.i64.wrap (x4+1)) x5 x6).bind k
 else
 none
 else
 k (x0,x1,x2,x3,x5,x6)
theorem c_Z19_bind {R:Type} (F:T_Z19) (x0:List D) (x1 x2 x3 x4:Int) (x5 x6:List D) (k:List D×Int×Int×Int×List D×List D→Option R):c_Z19 F x0 x1 x2 x3 x4 x5 x6 k=(c_Z19 F x0 x1 x2 x3 x4 x5 x6 some).bind k:=by
 unfold c_Z19
 repeat' first
  | exact JH
  | exact JG
  | exact JF
  | apply JC
  | apply JD
  | apply JI
  | (apply JE; intro _)
  | intro _
def n_Z19:Nat→T_Z19
 | 0,_,_,_,_,_,_,_=>none
 | n+1,x0,x1,x2,x3,x4,x5,x6=>c_Z19 (n_Z19 n) x0 x1 x2 x3 x4 x5 x6 some
noncomputable def Z19 (x0:List D) (x1 x2 x3 x4:Int) (x5 x6:List D):Option (List D×Int×Int×Int×List D×List D):=ev (fun n=>n_Z19 n x0 x1 x2 x3 x4 x5 x6)
def m_Z19 (F:T_Z19):Jz:=⟨8,⟨(.rd (.struct [.int .i64,.str,.int .i64,.int .i64,.int .i64])::.int .i64::.undef::.undef::.undef::.full 1000 [] (.str)::.full 1001 [] (.int .i64)::.int .i64::.int .i64::.int .i64::uu 44 ([])),[(1000,.own (.str)),(1001,.own (.int .i64))]⟩,[(.exit 2,⟨(.rd (.struct [.int .i64,.str,.int .i64,.int .i64,.int .i64])::.int .i64::.undef::.undef::.undef::.full 1000 [] (.str)::.full 1001 [] (.int .i64)::.int .i64::.int .i64::uu 45 ([])),[(1000,.own (.str)),(1001,.own (.int .i64))]⟩)],fun _ ds k=>dL (fun x0 ds=>dI (fun x1 ds=>dI (fun x2 ds=>dI (fun x3 ds=>dI (fun x4 ds=>dL (fun x5 ds=>dL (fun x6 ds=>dE ((F x0 x1 x2 x3 x4 x5 x6).bind (fun y=>k 0 [.L y.1,.I y.2.1,.I y.2.2.1,.I y.2.2.2.1,.L y.2.2.2.2.1,.L y.2.2.2.2.2])) ds) ds) ds) ds) ds) ds) ds) ds⟩
theorem q_Z19 (F:T_Z19) (x0:List D) (x1 x2 x3 x4:Int) (x5 x6:List D):Qg (Jv []) (Jw [m_Z19 F]) A 41 (Jm (Jl Try.f41) 8) ((m_Z19 F).sh.mk' [.L x0,.I x1,.I x2,.I x3,.I x4,.L x5,.L x6]) (fun e σ'=>some (e,σ'))=c_Z19 F x0 x1 x2 x3 x4 x5 x6 (fun y=>some (.exit 2,SSt.mk' ⟨(.rd (.struct [.int .i64,.str,.int .i64,.int .i64,.int .i64])::.int .i64::.undef::.undef::.undef::.full 1000 [] (.str)::.full 1001 [] (.int .i64)::.int .i64::.int .i64::uu 45 ([])),[(1000,.own (.str)),(1001,.own (.int .i64))]⟩ [.L y.1,.I y.2.1,.I y.2.2.1,.I y.2.2.2.1,.L y.2.2.2.2.1,.L y.2.2.2.2.2])):=by kernel_rfl
theorem m_Z19_ok:∀ n,(m_Z19 (n_Z19 n)).ok Try.prog (Jm (Jl Try.f41) 8):=by
 intro n
 induction n with
 | zero=>
  intro R ds k r h
  unfold m_Z19 at h
  obtain ⟨_,_,rfl,h⟩:=Jd h
  obtain ⟨_,_,rfl,h⟩:=Ja h
  obtain ⟨_,_,rfl,h⟩:=Ja h
  obtain ⟨_,_,rfl,h⟩:=Ja h
  obtain ⟨_,_,rfl,h⟩:=Ja h
  obtain ⟨_,_,rfl,h⟩:=Jd h
  obtain ⟨_,_,rfl,h⟩:=Jd h
  obtain ⟨rfl,hE⟩:=Jg h
  obtain ⟨y,hy,hk⟩:=Jh hE
  cases hy
 | succ n ih=>
  intro R ds k r h
  unfold m_Z19 at h
  obtain ⟨_,_,rfl,h⟩:=Jd h
  obtain ⟨_,_,rfl,h⟩:=Ja h
  obtain ⟨_,_,rfl,h⟩:=Ja h
  obtain ⟨_,_,rfl,h⟩:=Ja h
  obtain ⟨_,_,rfl,h⟩:=Ja h
  obtain ⟨_,_,rfl,h⟩:=Jd h
  obtain ⟨_,_,rfl,h⟩:=Jd h
  obtain ⟨rfl,hE⟩:=Jg h
  obtain ⟨y,hy,hk⟩:=Jh hE
  exact ⟨0,_,_,_,hk,rfl,J6 px (fx:=⟨Try.func41,by kernel_rfl,by kernel_rfl⟩) Js (Jx ih Jt) (by kernel_rfl) ((q_Z19 ..).trans ((c_Z19_bind ..).trans (Jj hy)))⟩
noncomputable def e_Z19:Jz:=m_Z19 (Z19)
theorem e_Z19_ok:(e_Z19).ok Try.prog (Jm (Jl Try.f41) 8):=by
 intro R ds k r h
 unfold e_Z19 m_Z19 at h
 obtain ⟨_,_,rfl,h⟩:=Jd h
 obtain ⟨_,_,rfl,h⟩:=Ja h
 obtain ⟨_,_,rfl,h⟩:=Ja h
 obtain ⟨_,_,rfl,h⟩:=Ja h
 obtain ⟨_,_,rfl,h⟩:=Ja h
 obtain ⟨_,_,rfl,h⟩:=Jd h
 obtain ⟨_,_,rfl,h⟩:=Jd h
 obtain ⟨rfl,hE⟩:=Jg h
 obtain ⟨y,hy,hk⟩:=Jh hE
 obtain ⟨n,hn⟩:=Qh hy
 exact m_Z19_ok n R _ k r ((Jj hn).trans hk)

/-!-/
abbrev T_Z20:=List D→Int→Int→List D→List D→Option (List D)
def c_Z20 {R:Type} (F:T_Z20) (x0:List D) (x1 x2:Int) (x3 x4:List D) (k:List D→Option R):Option R:=
 bif decide (x2<(↑x3.length:Int)) then
 (Z19 x0 x1 x2 (0:Int) (0:Int) x3 x4).bind (fun y0=>
 if y0.snd.snd.snd.snd.snd.length+[D.int y0.snd.snd.snd.fst].length≤(4294967296:Nat) then
 (F y0.fst y0.snd.fst (IntKind.i64.wrap (y0.snd.snd.fst+1)) y0.snd.snd.snd.snd.fst (y0.snd.snd.snd.snd.snd++[D.int y0.snd.snd.snd.fst])).bind k
 else
 none)
 else
 k x4
theorem c_Z20_bind {R:Type} (F:T_Z20) (x0:List D) (x1 x2:Int) (x3 x4:List D) (k:List D→Option R):c_Z20 F x0 x1 x2 x3 x4 k=(c_Z20 F x0 x1 x2 x3 x4 some).bind k:=by
 unfold c_Z20
 repeat' first
  | exact JH
  | exact JG
  | exact JF
  | apply JC
  | apply JD
  | apply JI
  | (apply JE; intro _)
  | intro _
def n_Z20:Nat→T_Z20
 | 0,_,_,_,_,_=>none
 | n+1,x0,x1,x2,x3,x4=>c_Z20 (n_Z20 n) x0 x1 x2 x3 x4 some
noncomputable def Z20 (x0:List D) (x1 x2:Int) (x3 x4:List D):Option (List D):=ev (fun n=>n_Z20 n x0 x1 x2 x3 x4)
def m_Z20 (F:T_Z20):Jz:=⟨4,⟨(.rd (.struct [.int .i64,.str,.int .i64,.int .i64,.int .i64])::.int .i64::.undef::.undef::.undef::.full 1000 [] (.str)::.full 1001 [] (.int .i64)::.int .i64::uu 46 ([])),[(1000,.own (.str)),(1001,.own (.int .i64))]⟩,[(.exit 0,⟨(uu 6 (.full 1000 [] (.int .i64)::uu 47 ([]))),[(1000,.own (.int .i64))]⟩)],fun _ ds k=>dL (fun x0 ds=>dI (fun x1 ds=>dI (fun x2 ds=>dL (fun x3 ds=>dL (fun x4 ds=>dE ((F x0 x1 x2 x3 x4).bind (fun y=>k 0 [.L y])) ds) ds) ds) ds) ds) ds⟩
theorem q_Z20 (F:T_Z20) (x0:List D) (x1 x2:Int) (x3 x4:List D):Qg (Jv []) (Jw [m_Z20 F,e_Z19]) A 41 (Jm (Jl Try.f41) 4) ((m_Z20 F).sh.mk' [.L x0,.I x1,.I x2,.L x3,.L x4]) (fun e σ'=>some (e,σ'))=c_Z20 F x0 x1 x2 x3 x4 (fun y=>some (.exit 0,SSt.mk' ⟨(uu 6 (.full 1000 [] (.int .i64)::uu 47 ([]))),[(1000,.own (.int .i64))]⟩ [.L y])):=by kernel_rfl
theorem m_Z20_ok:∀ n,(m_Z20 (n_Z20 n)).ok Try.prog (Jm (Jl Try.f41) 4):=by
 intro n
 induction n with
 | zero=>
  intro R ds k r h
  unfold m_Z20 at h
  obtain ⟨_,_,rfl,h⟩:=Jd h
  obtain ⟨_,_,rfl,h⟩:=Ja h
  obtain ⟨_,_,rfl,h⟩:=Ja h
  obtain ⟨_,_,rfl,h⟩:=Jd h
  obtain ⟨_,_,rfl,h⟩:=Jd h
  obtain ⟨rfl,hE⟩:=Jg h
  obtain ⟨y,hy,hk⟩:=Jh hE
  cases hy
 | succ n ih=>
  intro R ds k r h
  unfold m_Z20 at h
  obtain ⟨_,_,rfl,h⟩:=Jd h
  obtain ⟨_,_,rfl,h⟩:=Ja h
  obtain ⟨_,_,rfl,h⟩:=Ja h
  obtain ⟨_,_,rfl,h⟩:=Jd h
  obtain ⟨_,_,rfl,h⟩:=Jd h
  obtain ⟨rfl,hE⟩:=Jg h
  obtain ⟨y,hy,hk⟩:=Jh hE
  exact ⟨0,_,_,_,hk,rfl,J6 px (fx:=⟨Try.func41,by kernel_rfl,by kernel_rfl⟩) Js (Jx ih (Jx e_Z19_ok Jt)) (by kernel_rfl) ((q_Z20 ..).trans ((c_Z20_bind ..).trans (Jj hy)))⟩
noncomputable def e_Z20:Jz:=m_Z20 (Z20)
theorem e_Z20_ok:(e_Z20).ok Try.prog (Jm (Jl Try.f41) 4):=by
 intro R ds k r h
 unfold e_Z20 m_Z20 at h
 obtain ⟨_,_,rfl,h⟩:=Jd h
 obtain ⟨_,_,rfl,h⟩:=Ja h
 obtain ⟨_,_,rfl,h⟩:=Ja h
 obtain ⟨_,_,rfl,h⟩:=Jd h
 obtain ⟨_,_,rfl,h⟩:=Jd h
 obtain ⟨rfl,hE⟩:=Jg h
 obtain ⟨y,hy,hk⟩:=Jh hE
 obtain ⟨n,hn⟩:=Qh hy
 exact m_Z20_ok n R _ k r ((Jj hn).trans hk)

/-!-/
def c_Z21 {R:Type} (x0:List D) (x1:Int) (k:List D→Option R):Option R:=
 (Z18 x0).bind (fun y0=>
 (Z20 x0 x1 (0:Int) y0 []).bind (fun y1=>
 k y1))
theorem c_Z21_bind {R:Type} (x0:List D) (x1:Int) (k:List D→Option R):c_Z21 x0 x1 k=(c_Z21 x0 x1 some).bind k:=by
 unfold c_Z21
 repeat' first
  | exact JH
  | exact JG
  | exact JF
  | apply JC
  | apply JD
  | apply JI
  | (apply JE; intro _)
  | intro _
def Z21 (x0:List D) (x1:Int):Option (List D):=c_Z21 x0 x1 some
def e_Z21:Ent:=⟨41,[.rd (.struct [.int .i64,.str,.int .i64,.int .i64,.int .i64]),.int .i64],[(.own (.int .i64),[.undef,.undef])],fun _ ds k=>dL (fun x0 ds=>dI (fun x1 ds=>dE ((Z21 x0 x1).bind (fun y=>k 0 [.L y])) ds) ds) ds⟩
theorem q_Z21 (x0:List D) (x1:Int):J5 (Jv [e_Z18]) (Jw [e_Z20]) A 41 Try.f41 (Sh.mks e_Z21.sh [.L x0,.I x1]).1 (fun v os=>some (v,os))=c_Z21 x0 x1 (fun y=>J9 e_Z21 0 [.L y]):=by kernel_rfl
theorem e_Z21_ok:e_Z21.ok Try.prog A:=by
 intro R ds k r h
 unfold e_Z21 at h
 obtain ⟨_,_,rfl,h⟩:=Jd h
 obtain ⟨_,_,rfl,h⟩:=Ja h
 obtain ⟨rfl,hE⟩:=Jg h
 obtain ⟨y,hy,hk⟩:=Jh hE
 exact ⟨0,_,_,_,hk,rfl,Qa px (fx:=⟨Try.func41,by kernel_rfl,by kernel_rfl⟩) (JR e_Z18_ok Js) (Jx e_Z20_ok Jt) ((q_Z21 ..).trans ((c_Z21_bind ..).trans (Jj hy)))⟩

/-!-/
abbrev T_Z22:=List D→Int→Int→Option (Int)
def c_Z22 {R:Type} (F:T_Z22) (x0:List D) (x1 x2:Int) (k:Int→Option R):Option R:=
 bif decide (x2<(↑x0.length:Int)) then
 if 0≤x2∧x2<(↑x0.length:Int) then
 (F x0 (IntKind.i64.wrap (x1+(x0.getD x2.toNat (D.int 0)).toInt)) (IntKind.i64.wrap (x2+1))).bind k
 else
 none
 else
 k x1
theorem c_Z22_bind {R:Type} (F:T_Z22) (x0:List D) (x1 x2:Int) (k:Int→Option R):c_Z22 F x0 x1 x2 k=(c_Z22 F x0 x1 x2 some).bind k:=by
 unfold c_Z22
 repeat' first
  | exact JH
  | exact JG
  | exact JF
  | apply JC
  | apply JD
  | apply JI
  | (apply JE; intro _)
  | intro _
def n_Z22:Nat→T_Z22
 | 0,_,_,_=>none
 | n+1,x0,x1,x2=>c_Z22 (n_Z22 n) x0 x1 x2 some
noncomputable def Z22 (x0:List D) (x1 x2:Int):Option (Int):=ev (fun n=>n_Z22 n x0 x1 x2)
def m_Z22 (F:T_Z22):Jz:=⟨3,⟨(.rd (.int .i64)::.undef::.undef::.int .i64::.int .i64::uu 13 ([])),[]⟩,[(.exit 0,⟨(.undef::.undef::.undef::.int .i64::uu 14 ([])),[]⟩)],fun _ ds k=>dL (fun x0 ds=>dI (fun x1 ds=>dI (fun x2 ds=>dE ((F x0 x1 x2).bind (fun y=>k 0 [.I y])) ds) ds) ds) ds⟩
theorem q_Z22 (F:T_Z22) (x0:List D) (x1 x2:Int):Qg (Jv []) (Jw [m_Z22 F]) A 42 (Jm (Jl Try.f42) 3) ((m_Z22 F).sh.mk' [.L x0,.I x1,.I x2]) (fun e σ'=>some (e,σ'))=c_Z22 F x0 x1 x2 (fun y=>some (.exit 0,SSt.mk' ⟨(.undef::.undef::.undef::.int .i64::uu 14 ([])),[]⟩ [.I y])):=by kernel_rfl
theorem m_Z22_ok:∀ n,(m_Z22 (n_Z22 n)).ok Try.prog (Jm (Jl Try.f42) 3):=by
 intro n
 induction n with
 | zero=>
  intro R ds k r h
  unfold m_Z22 at h
  obtain ⟨_,_,rfl,h⟩:=Jd h
  obtain ⟨_,_,rfl,h⟩:=Ja h
  obtain ⟨_,_,rfl,h⟩:=Ja h
  obtain ⟨rfl,hE⟩:=Jg h
  obtain ⟨y,hy,hk⟩:=Jh hE
  cases hy
 | succ n ih=>
  intro R ds k r h
  unfold m_Z22 at h
  obtain ⟨_,_,rfl,h⟩:=Jd h
  obtain ⟨_,_,rfl,h⟩:=Ja h
  obtain ⟨_,_,rfl,h⟩:=Ja h
  obtain ⟨rfl,hE⟩:=Jg h
  obtain ⟨y,hy,hk⟩:=Jh hE
  exact ⟨0,_,_,_,hk,rfl,J6 px (fx:=⟨Try.func42,by kernel_rfl,by kernel_rfl⟩) Js (Jx ih Jt) (by kernel_rfl) ((q_Z22 ..).trans ((c_Z22_bind ..).trans (Jj hy)))⟩
noncomputable def e_Z22:Jz:=m_Z22 (Z22)
theorem e_Z22_ok:(e_Z22).ok Try.prog (Jm (Jl Try.f42) 3):=by
 intro R ds k r h
 unfold e_Z22 m_Z22 at h
 obtain ⟨_,_,rfl,h⟩:=Jd h
 obtain ⟨_,_,rfl,h⟩:=Ja h
 obtain ⟨_,_,rfl,h⟩:=Ja h
 obtain ⟨rfl,hE⟩:=Jg h
 obtain ⟨y,hy,hk⟩:=Jh hE
 obtain ⟨n,hn⟩:=Qh hy
 exact m_Z22_ok n R _ k r ((Jj hn).trans hk)

/-!-/
def c_Z23 {R:Type} (x0:List D) (k:Int→Option R):Option R:=
 (Z22 x0 (0:Int) (0:Int)).bind (fun y0=>
 k y0)
theorem c_Z23_bind {R:Type} (x0:List D) (k:Int→Option R):c_Z23 x0 k=(c_Z23 x0 some).bind k:=by
 unfold c_Z23
 repeat' first
  | exact JH
  | exact JG
  | exact JF
  | apply JC
  | apply JD
  | apply JI
  | (apply JE; intro _)
  | intro _
def Z23 (x0:List D):Option (Int):=c_Z23 x0 some
def e_Z23:Ent:=⟨42,[.rd (.int .i64)],[(.int .i64,[.undef])],fun _ ds k=>dL (fun x0 ds=>dE ((Z23 x0).bind (fun y=>k 0 [.I y])) ds) ds⟩
theorem q_Z23 (x0:List D):J5 (Jv []) (Jw [e_Z22]) A 42 Try.f42 (Sh.mks e_Z23.sh [.L x0]).1 (fun v os=>some (v,os))=c_Z23 x0 (fun y=>J9 e_Z23 0 [.I y]):=by kernel_rfl
theorem e_Z23_ok:e_Z23.ok Try.prog A:=by
 intro R ds k r h
 unfold e_Z23 at h
 obtain ⟨_,_,rfl,h⟩:=Jd h
 obtain ⟨rfl,hE⟩:=Jg h
 obtain ⟨y,hy,hk⟩:=Jh hE
 exact ⟨0,_,_,_,hk,rfl,Qa px (fx:=⟨Try.func42,by kernel_rfl,by kernel_rfl⟩) Js (Jx e_Z22_ok Jt) ((q_Z23 ..).trans ((c_Z23_bind ..).trans (Jj hy)))⟩

/-!-/
abbrev T_Z24:=Int→Int→Int→List D→List D→List D→Option (Int×List D×List D)
def c_Z24 {R:Type} (F:T_Z24) (x0 x1 x2:Int) (x3 x4 x5:List D) (k:Int×List D×List D→Option R):Option R:=
 bif decide (x2<(↑x4.length:Int)) then
 if 0≤x2∧x2<(↑x4.length:Int) then
 if x2.toNat+1≤x4.length then
 if x0≠(0:Int) then
 if x3.length+[D.int (IntKind.i64.wrap ((IntKind.i64.wrap ((1000:Int) * (x4.getD x2.toNat (D.int 0)).toInt)).tdiv x0))].length≤(4294967296:Nat) then
 if 0≤x2∧x2<(↑x4.length:Int) then
 if x2.toNat+1≤x4.length then
 if x0≠(0:Int) then
 if x5.length+[D.int ((IntKind.i64.wrap ((1000:Int) * (x4.getD x2.toNat (D.int 0)).toInt)).tmod x0)].length≤(4294967296:Nat) then
 if 0≤x2∧x2<(↑(x3++[D.int (IntKind.i64.wrap ((IntKind.i64.wrap ((1000:Int) * (x4.getD x2.toNat (D.int 0)).toInt)).tdiv x0))]).length:Int) then
 if x2.toNat+1≤(x3++[D.int (IntKind.i64.wrap ((IntKind.i64.wrap ((1000:Int) * (x4.getD x2.toNat (D.int 0)).toInt)).tdiv x0))]).length then
 (F x0 (IntKind.i64.wrap (x1 - ((x3++[D.int (IntKind.i64.wrap ((IntKind.i64.wrap ((1000:Int) * (x4.getD x2.toNat (D.int 0)).toInt)).tdiv x0))]).getD x2.toNat (D.int 0)).toInt)) (IntKind.i64.wrap (x2+1)) (x3++[D.int (IntKind.i64.wrap ((IntKind.i64.wrap ((1000:Int) * (x4.getD x2.toNat (D.int 0)).toInt)).tdiv x0))]) x4 (x5++[D.int ((IntKind.i64.wrap ((1000:Int) * (x4.getD x2.toNat (D.int 0)).toInt)).tmod x0)])).bind k
 else
 none
 else
 none
 else
 none
 else
 none
 else
 none
 else
 none
 else
 none
 else
 none
 else
 none
 else
 none
 else
 k (x1,x3,x5)
theorem c_Z24_bind {R:Type} (F:T_Z24) (x0 x1 x2:Int) (x3 x4 x5:List D) (k:Int×List D×List D→Option R):c_Z24 F x0 x1 x2 x3 x4 x5 k=(c_Z24 F x0 x1 x2 x3 x4 x5 some).bind k:=by
 unfold c_Z24
 repeat' first
  | exact JH
  | exact JG
  | exact JF
  | apply JC
  | apply JD
  | apply JI
  | (apply JE; intro _)
  | intro _
def n_Z24:Nat→T_Z24
 | 0,_,_,_,_,_,_=>none
 | n+1,x0,x1,x2,x3,x4,x5=>c_Z24 (n_Z24 n) x0 x1 x2 x3 x4 x5 some
noncomputable def Z24 (x0 x1 x2:Int) (x3 x4 x5:List D):Option (Int×List D×List D):=ev (fun n=>n_Z24 n x0 x1 x2 x3 x4 x5)
def m_Z24 (F:T_Z24):Jz:=⟨11,⟨(uu 6 (.full 1000 [] (.int .i64)::.full 1001 [] (.int .i64)::.int .i64::.full 1002 [] (.int .i64)::.int .i64::.int .i64::uu 81 ([]))),[(1000,.own (.int .i64)),(1001,.own (.int .i64)),(1002,.own (.int .i64))]⟩,[(.exit 0,⟨(uu 6 (.full 1000 [] (.int .i64)::.undef::.undef::.full 1001 [] (.int .i64)::.int .i64::uu 82 ([]))),[(1000,.own (.int .i64)),(1001,.own (.int .i64))]⟩)],fun _ ds k=>dI (fun x0 ds=>dI (fun x1 ds=>dI (fun x2 ds=>dL (fun x3 ds=>dL (fun x4 ds=>dL (fun x5 ds=>dE ((F x0 x1 x2 x3 x4 x5).bind (fun y=>k 0 [.I y.1,.L y.2.1,.L y.2.2])) ds) ds) ds) ds) ds) ds) ds⟩
theorem q_Z24 (F:T_Z24) (x0 x1 x2:Int) (x3 x4 x5:List D):Qg (Jv []) (Jw [m_Z24 F]) A 18 (Jm (Jl Try.f18) 11) ((m_Z24 F).sh.mk' [.I x0,.I x1,.I x2,.L x3,.L x4,.L x5]) (fun e σ'=>some (e,σ'))=c_Z24 F x0 x1 x2 x3 x4 x5 (fun y=>some (.exit 0,SSt.mk' ⟨(uu 6 (.full 1000 [] (.int .i64)::.undef::.undef::.full 1001 [] (.int .i64)::.int .i64::uu 82 ([]))),[(1000,.own (.int .i64)),(1001,.own (.int .i64))]⟩ [.I y.1,.L y.2.1,.L y.2.2])):=by kernel_rfl
theorem m_Z24_ok:∀ n,(m_Z24 (n_Z24 n)).ok Try.prog (Jm (Jl Try.f18) 11):=by
 intro n
 induction n with
 | zero=>
  intro R ds k r h
  unfold m_Z24 at h
  obtain ⟨_,_,rfl,h⟩:=Ja h
  obtain ⟨_,_,rfl,h⟩:=Ja h
  obtain ⟨_,_,rfl,h⟩:=Ja h
  obtain ⟨_,_,rfl,h⟩:=Jd h
  obtain ⟨_,_,rfl,h⟩:=Jd h
  obtain ⟨_,_,rfl,h⟩:=Jd h
  obtain ⟨rfl,hE⟩:=Jg h
  obtain ⟨y,hy,hk⟩:=Jh hE
  cases hy
 | succ n ih=>
  intro R ds k r h
  unfold m_Z24 at h
  obtain ⟨_,_,rfl,h⟩:=Ja h
  obtain ⟨_,_,rfl,h⟩:=Ja h
  obtain ⟨_,_,rfl,h⟩:=Ja h
  obtain ⟨_,_,rfl,h⟩:=Jd h
  obtain ⟨_,_,rfl,h⟩:=Jd h
  obtain ⟨_,_,rfl,h⟩:=Jd h
  obtain ⟨rfl,hE⟩:=Jg h
  obtain ⟨y,hy,hk⟩:=Jh hE
  exact ⟨0,_,_,_,hk,rfl,J6 px (fx:=⟨Try.func18,by kernel_rfl,by kernel_rfl⟩) Js (Jx ih Jt) (by kernel_rfl) ((q_Z24 ..).trans ((c_Z24_bind ..).trans (Jj hy)))⟩
noncomputable def e_Z24:Jz:=m_Z24 (Z24)
theorem e_Z24_ok:(e_Z24).ok Try.prog (Jm (Jl Try.f18) 11):=by
 intro R ds k r h
 unfold e_Z24 m_Z24 at h
 obtain ⟨_,_,rfl,h⟩:=Ja h
 obtain ⟨_,_,rfl,h⟩:=Ja h
 obtain ⟨_,_,rfl,h⟩:=Ja h
 obtain ⟨_,_,rfl,h⟩:=Jd h
 obtain ⟨_,_,rfl,h⟩:=Jd h
 obtain ⟨_,_,rfl,h⟩:=Jd h
 obtain ⟨rfl,hE⟩:=Jg h
 obtain ⟨y,hy,hk⟩:=Jh hE
 obtain ⟨n,hn⟩:=Qh hy
 exact m_Z24_ok n R _ k r ((Jj hn).trans hk)

/-!-/
abbrev T_Z25:=Int→Int→Int→List D→List D→Option (Int×Int×List D×List D)
def c_Z25 {R:Type} (F:T_Z25) (x0 x1 x2:Int) (x3 x4:List D) (k:Int×Int×List D×List D→Option R):Option R:=
 bif decide (x2<(↑x4.length:Int)) then
 if 0≤x2∧x2<(↑x4.length:Int) then
 if x2.toNat+1≤x4.length then
 if 0≤x1∧x1<(↑x4.length:Int) then
 if x1.toNat+1≤x4.length then
 bif decide ((x4.getD x1.toNat (D.int 0)).toInt<(x4.getD x2.toNat (D.int 0)).toInt) then
 (F x0 x2 (IntKind.i64.wrap (x2+1)) x3 x4).bind k
 else
 (F x0 x1 (IntKind.i64.wrap (x2+1)) x3 x4).bind k
 else
 none
 else
 none
 else
 none
 else
 none
 else
 k (x0,x1,x3,x4)
theorem c_Z25_bind {R:Type} (F:T_Z25) (x0 x1 x2:Int) (x3 x4:List D) (k:Int×Int×List D×List D→Option R):c_Z25 F x0 x1 x2 x3 x4 k=(c_Z25 F x0 x1 x2 x3 x4 some).bind k:=by
 unfold c_Z25
 repeat' first
  | exact JH
  | exact JG
  | exact JF
  | apply JC
  | apply JD
  | apply JI
  | (apply JE; intro _)
  | intro _
def n_Z25:Nat→T_Z25
 | 0,_,_,_,_,_=>none
 | n+1,x0,x1,x2,x3,x4=>c_Z25 (n_Z25 n) x0 x1 x2 x3 x4 some
noncomputable def Z25 (x0 x1 x2:Int) (x3 x4:List D):Option (Int×Int×List D×List D):=ev (fun n=>n_Z25 n x0 x1 x2 x3 x4)
def m_Z25 (F:T_Z25):Jz:=⟨20,⟨(uu 6 (.full 1000 [] (.int .i64)::.undef::.undef::.full 1001 [] (.int .i64)::.int .i64::.undef::.int .i64::.int .i64::uu 79 ([]))),[(1000,.own (.int .i64)),(1001,.own (.int .i64))]⟩,[(.exit 4,⟨(uu 6 (.full 1000 [] (.int .i64)::.undef::.undef::.full 1001 [] (.int .i64)::.int .i64::.undef::.int .i64::uu 80 ([]))),[(1000,.own (.int .i64)),(1001,.own (.int .i64))]⟩)],fun _ ds k=>dI (fun x0 ds=>dI (fun x1 ds=>dI (fun x2 ds=>dL (fun x3 ds=>dL (fun x4 ds=>dE ((F x0 x1 x2 x3 x4).bind (fun y=>k 0 [.I y.1,.I y.2.1,.L y.2.2.1,.L y.2.2.2])) ds) ds) ds) ds) ds) ds⟩
theorem q_Z25 (F:T_Z25) (x0 x1 x2:Int) (x3 x4:List D):Qg (Jv []) (Jw [m_Z25 F]) A 18 (Jm (Jl Try.f18) 20) ((m_Z25 F).sh.mk' [.I x0,.I x1,.I x2,.L x3,.L x4]) (fun e σ'=>some (e,σ'))=c_Z25 F x0 x1 x2 x3 x4 (fun y=>some (.exit 4,SSt.mk' ⟨(uu 6 (.full 1000 [] (.int .i64)::.undef::.undef::.full 1001 [] (.int .i64)::.int .i64::.undef::.int .i64::uu 80 ([]))),[(1000,.own (.int .i64)),(1001,.own (.int .i64))]⟩ [.I y.1,.I y.2.1,.L y.2.2.1,.L y.2.2.2])):=by kernel_rfl
theorem m_Z25_ok:∀ n,(m_Z25 (n_Z25 n)).ok Try.prog (Jm (Jl Try.f18) 20):=by
 intro n
 induction n with
 | zero=>
  intro R ds k r h
  unfold m_Z25 at h
  obtain ⟨_,_,rfl,h⟩:=Ja h
  obtain ⟨_,_,rfl,h⟩:=Ja h
  obtain ⟨_,_,rfl,h⟩:=Ja h
  obtain ⟨_,_,rfl,h⟩:=Jd h
  obtain ⟨_,_,rfl,h⟩:=Jd h
  obtain ⟨rfl,hE⟩:=Jg h
  obtain ⟨y,hy,hk⟩:=Jh hE
  cases hy
 | succ n ih=>
  intro R ds k r h
  unfold m_Z25 at h
  obtain ⟨_,_,rfl,h⟩:=Ja h
  obtain ⟨_,_,rfl,h⟩:=Ja h
  obtain ⟨_,_,rfl,h⟩:=Ja h
  obtain ⟨_,_,rfl,h⟩:=Jd h
  obtain ⟨_,_,rfl,h⟩:=Jd h
  obtain ⟨rfl,hE⟩:=Jg h
  obtain ⟨y,hy,hk⟩:=Jh hE
  exact ⟨0,_,_,_,hk,rfl,J6 px (fx:=⟨Try.func18,by kernel_rfl,by kernel_rfl⟩) Js (Jx ih Jt) (by kernel_rfl) ((q_Z25 ..).trans ((c_Z25_bind ..).trans (Jj hy)))⟩
noncomputable def e_Z25:Jz:=m_Z25 (Z25)
theorem e_Z25_ok:(e_Z25).ok Try.prog (Jm (Jl Try.f18) 20):=by
 intro R ds k r h
 unfold e_Z25 m_Z25 at h
 obtain ⟨_,_,rfl,h⟩:=Ja h
 obtain ⟨_,_,rfl,h⟩:=Ja h
 obtain ⟨_,_,rfl,h⟩:=Ja h
 obtain ⟨_,_,rfl,h⟩:=Jd h
 obtain ⟨_,_,rfl,h⟩:=Jd h
 obtain ⟨rfl,hE⟩:=Jg h
 obtain ⟨y,hy,hk⟩:=Jh hE
 obtain ⟨n,hn⟩:=Qh hy
 exact m_Z25_ok n R _ k r ((Jj hn).trans hk)

/-!-/
abbrev T_Z26:=Int→List D→List D→Option (List D)
def c_Z26 {R:Type} (F:T_Z26) (x0:Int) (x1 x2:List D) (k:List D→Option R):Option R:=
 bif decide ((0:Int)<x0) then
 (Z25 x0 (0:Int) (1:Int) x1 x2).bind (fun y0=>
 if 0≤y0.snd.fst∧y0.snd.fst<(↑y0.snd.snd.fst.length:Int) then
 if y0.snd.fst.toNat+1≤y0.snd.snd.fst.length then
 if 0≤y0.snd.fst∧y0.snd.fst<(↑y0.snd.snd.fst.length:Int) then
 if y0.snd.fst.toNat+1≤y0.snd.snd.fst.length then
 if 0≤y0.snd.fst∧y0.snd.fst<(↑y0.snd.snd.snd.length:Int) then
 if y0.snd.fst.toNat+1≤y0.snd.snd.snd.length then
 (F (IntKind.i64.wrap (y0.fst - 1)) (y0.snd.snd.fst.set y0.snd.fst.toNat (D.int (IntKind.i64.wrap ((y0.snd.snd.fst.getD y0.snd.fst.toNat (D.int 0)).toInt+(1:Int))))) (y0.snd.snd.snd.set y0.snd.fst.toNat (D.int (-1:Int)))).bind k
 else
 none
 else
 none
 else
 none
 else
 none
 else
 none
 else
 none)
 else
 k x1
theorem c_Z26_bind {R:Type} (F:T_Z26) (x0:Int) (x1 x2:List D) (k:List D→Option R):c_Z26 F x0 x1 x2 k=(c_Z26 F x0 x1 x2 some).bind k:=by
 unfold c_Z26
 repeat' first
  | exact JH
  | exact JG
  | exact JF
  | apply JC
  | apply JD
  | apply JI
  | (apply JE; intro _)
  | intro _
def n_Z26:Nat→T_Z26
 | 0,_,_,_=>none
 | n+1,x0,x1,x2=>c_Z26 (n_Z26 n) x0 x1 x2 some
noncomputable def Z26 (x0:Int) (x1 x2:List D):Option (List D):=ev (fun n=>n_Z26 n x0 x1 x2)
def m_Z26 (F:T_Z26):Jz:=⟨16,⟨(uu 6 (.full 1000 [] (.int .i64)::.undef::.undef::.full 1001 [] (.int .i64)::.int .i64::uu 82 ([]))),[(1000,.own (.int .i64)),(1001,.own (.int .i64))]⟩,[(.exit 2,⟨(uu 6 (.full 1000 [] (.int .i64)::uu 86 ([]))),[(1000,.own (.int .i64))]⟩)],fun _ ds k=>dI (fun x0 ds=>dL (fun x1 ds=>dL (fun x2 ds=>dE ((F x0 x1 x2).bind (fun y=>k 0 [.L y])) ds) ds) ds) ds⟩
theorem q_Z26 (F:T_Z26) (x0:Int) (x1 x2:List D):Qg (Jv []) (Jw [m_Z26 F,e_Z25]) A 18 (Jm (Jl Try.f18) 16) ((m_Z26 F).sh.mk' [.I x0,.L x1,.L x2]) (fun e σ'=>some (e,σ'))=c_Z26 F x0 x1 x2 (fun y=>some (.exit 2,SSt.mk' ⟨(uu 6 (.full 1000 [] (.int .i64)::uu 86 ([]))),[(1000,.own (.int .i64))]⟩ [.L y])):=by kernel_rfl
theorem m_Z26_ok:∀ n,(m_Z26 (n_Z26 n)).ok Try.prog (Jm (Jl Try.f18) 16):=by
 intro n
 induction n with
 | zero=>
  intro R ds k r h
  unfold m_Z26 at h
  obtain ⟨_,_,rfl,h⟩:=Ja h
  obtain ⟨_,_,rfl,h⟩:=Jd h
  obtain ⟨_,_,rfl,h⟩:=Jd h
  obtain ⟨rfl,hE⟩:=Jg h
  obtain ⟨y,hy,hk⟩:=Jh hE
  cases hy
 | succ n ih=>
  intro R ds k r h
  unfold m_Z26 at h
  obtain ⟨_,_,rfl,h⟩:=Ja h
  obtain ⟨_,_,rfl,h⟩:=Jd h
  obtain ⟨_,_,rfl,h⟩:=Jd h
  obtain ⟨rfl,hE⟩:=Jg h
  obtain ⟨y,hy,hk⟩:=Jh hE
  exact ⟨0,_,_,_,hk,rfl,J6 px (fx:=⟨Try.func18,by kernel_rfl,by kernel_rfl⟩) Js (Jx ih (Jx e_Z25_ok Jt)) (by kernel_rfl) ((q_Z26 ..).trans ((c_Z26_bind ..).trans (Jj hy)))⟩
noncomputable def e_Z26:Jz:=m_Z26 (Z26)
theorem e_Z26_ok:(e_Z26).ok Try.prog (Jm (Jl Try.f18) 16):=by
 intro R ds k r h
 unfold e_Z26 m_Z26 at h
 obtain ⟨_,_,rfl,h⟩:=Ja h
 obtain ⟨_,_,rfl,h⟩:=Jd h
 obtain ⟨_,_,rfl,h⟩:=Jd h
 obtain ⟨rfl,hE⟩:=Jg h
 obtain ⟨y,hy,hk⟩:=Jh hE
 obtain ⟨n,hn⟩:=Qh hy
 exact m_Z26_ok n R _ k r ((Jj hn).trans hk)

/-!-/
def c_Z27 {R:Type} (x0:List D) (x1:Int) (k:List D×Bool→Option R):Option R:=
 (Z14 x0 x1).bind (fun y0=>
 bif !y0 then
 k ([],Bool.false)
 else
 (Z21 x0 x1).bind (fun y1=>
 (Z23 y1).bind (fun y2=>
 bif decide (y2=(0:Int)) then
 k ([],Bool.false)
 else
 (Z24 y2 (1000:Int) (0:Int) [] y1 []).bind (fun y3=>
 (Z26 y3.fst y3.snd.fst y3.snd.snd).bind (fun y4=>
 k (y4,Bool.true))))))
theorem c_Z27_bind {R:Type} (x0:List D) (x1:Int) (k:List D×Bool→Option R):c_Z27 x0 x1 k=(c_Z27 x0 x1 some).bind k:=by
 unfold c_Z27
 repeat' first
  | exact JH
  | exact JG
  | exact JF
  | apply JC
  | apply JD
  | apply JI
  | (apply JE; intro _)
  | intro _
def Z27 (x0:List D) (x1:Int):Option (List D×Bool):=c_Z27 x0 x1 some
def e_Z27:Ent:=⟨18,[.rd (.struct [.int .i64,.str,.int .i64,.int .i64,.int .i64]),.int .i64],[(.tup [.own (.int .i64),.bool],[.undef,.undef])],fun _ ds k=>dL (fun x0 ds=>dI (fun x1 ds=>dE ((Z27 x0 x1).bind (fun y=>k 0 [.L y.1,.B y.2])) ds) ds) ds⟩
theorem q_Z27 (x0:List D) (x1:Int):J5 (Jv [e_Z14,e_Z21,e_Z23]) (Jw [e_Z24,e_Z26]) A 18 Try.f18 (Sh.mks e_Z27.sh [.L x0,.I x1]).1 (fun v os=>some (v,os))=c_Z27 x0 x1 (fun y=>J9 e_Z27 0 [.L y.1,.B y.2]):=by kernel_rfl
theorem e_Z27_ok:e_Z27.ok Try.prog A:=by
 intro R ds k r h
 unfold e_Z27 at h
 obtain ⟨_,_,rfl,h⟩:=Jd h
 obtain ⟨_,_,rfl,h⟩:=Ja h
 obtain ⟨rfl,hE⟩:=Jg h
 obtain ⟨y,hy,hk⟩:=Jh hE
 exact ⟨0,_,_,_,hk,rfl,Qa px (fx:=⟨Try.func18,by kernel_rfl,by kernel_rfl⟩) (JR e_Z14_ok (JR e_Z21_ok (JR e_Z23_ok Js))) (Jx e_Z24_ok (Jx e_Z26_ok Jt)) ((q_Z27 ..).trans ((c_Z27_bind ..).trans (Jj hy)))⟩

/-!-/
def c_Z28 {R:Type} (x0 x1 x2:Int) (k:Bool→Option R):Option R:=
 bif decide (x1≤x0) then
 k (decide (x0≤x2))
 else
 k Bool.false
theorem c_Z28_bind {R:Type} (x0 x1 x2:Int) (k:Bool→Option R):c_Z28 x0 x1 x2 k=(c_Z28 x0 x1 x2 some).bind k:=by
 unfold c_Z28
 repeat' first
  | exact JH
  | exact JG
  | exact JF
  | apply JC
  | apply JD
  | apply JI
  | (apply JE; intro _)
  | intro _
def Z28 (x0 x1 x2:Int):Option (Bool):=c_Z28 x0 x1 x2 some
def e_Z28:Ent:=⟨64,[.int .i64,.int .i64,.int .i64],[(.bool,[.undef,.undef,.undef])],fun _ ds k=>dI (fun x0 ds=>dI (fun x1 ds=>dI (fun x2 ds=>dE ((Z28 x0 x1 x2).bind (fun y=>k 0 [.B y])) ds) ds) ds) ds⟩
theorem q_Z28 (x0 x1 x2:Int):J5 (Jv []) (Jw []) A 64 Try.f64 (Sh.mks e_Z28.sh [.I x0,.I x1,.I x2]).1 (fun v os=>some (v,os))=c_Z28 x0 x1 x2 (fun y=>J9 e_Z28 0 [.B y]):=by kernel_rfl
theorem e_Z28_ok:e_Z28.ok Try.prog A:=by
 intro R ds k r h
 unfold e_Z28 at h
 obtain ⟨_,_,rfl,h⟩:=Ja h
 obtain ⟨_,_,rfl,h⟩:=Ja h
 obtain ⟨_,_,rfl,h⟩:=Ja h
 obtain ⟨rfl,hE⟩:=Jg h
 obtain ⟨y,hy,hk⟩:=Jh hE
 exact ⟨0,_,_,_,hk,rfl,Qa px (fx:=⟨Try.func64,by kernel_rfl,by kernel_rfl⟩) Js Jt ((q_Z28 ..).trans ((c_Z28_bind ..).trans (Jj hy)))⟩

/-!-/
def c_Z29 {R:Type} (x0:Int) (k:Bool→Option R):Option R:=
 (Z28 x0 (1:Int) (999:Int)).bind (fun y0=>
 k y0)
theorem c_Z29_bind {R:Type} (x0:Int) (k:Bool→Option R):c_Z29 x0 k=(c_Z29 x0 some).bind k:=by
 unfold c_Z29
 repeat' first
  | exact JH
  | exact JG
  | exact JF
  | apply JC
  | apply JD
  | apply JI
  | (apply JE; intro _)
  | intro _
def Z29 (x0:Int):Option (Bool):=c_Z29 x0 some
def e_Z29:Ent:=⟨54,[.int .i64],[(.bool,[.undef])],fun _ ds k=>dI (fun x0 ds=>dE ((Z29 x0).bind (fun y=>k 0 [.B y])) ds) ds⟩
theorem q_Z29 (x0:Int):J5 (Jv [e_Z28]) (Jw []) A 54 Try.f54 (Sh.mks e_Z29.sh [.I x0]).1 (fun v os=>some (v,os))=c_Z29 x0 (fun y=>J9 e_Z29 0 [.B y]):=by kernel_rfl
theorem e_Z29_ok:e_Z29.ok Try.prog A:=by
 intro R ds k r h
 unfold e_Z29 at h
 obtain ⟨_,_,rfl,h⟩:=Ja h
 obtain ⟨rfl,hE⟩:=Jg h
 obtain ⟨y,hy,hk⟩:=Jh hE
 exact ⟨0,_,_,_,hk,rfl,Qa px (fx:=⟨Try.func54,by kernel_rfl,by kernel_rfl⟩) (JR e_Z28_ok Js) Jt ((q_Z29 ..).trans ((c_Z29_bind ..).trans (Jj hy)))⟩

/-!-/
abbrev T_Z30:=ByteArray→Int→Int→Option ((ByteArray×Bool)⊕(ByteArray))
def c_Z30 {R:Type} (F:T_Z30) (x0:ByteArray) (x1 x2:Int) (k:(ByteArray×Bool)⊕(ByteArray)→Option R):Option R:=
 bif decide (x2<x1) then
 if 0≤x2∧x2<(↑x0.size:Int) then
 bif decide ((97:Int)≤(↑(x0.data.toList.getD x2.toNat (0:UInt8)).toNat:Int)) then
 if 0≤x2∧x2<(↑x0.size:Int) then
 if 0≤x2∧x2<(↑x0.size:Int) then
 bif decide ((48:Int)≤(↑(x0.data.toList.getD x2.toNat (0:UInt8)).toNat:Int)) then
 if 0≤x2∧x2<(↑x0.size:Int) then
 bif !decide ((↑(x0.data.toList.getD x2.toNat (0:UInt8)).toNat:Int)≤(122:Int)) then
 bif decide (x2=(0:Int)) then
 k (.inl (x0,Bool.false))
 else
 bif !decide ((↑(x0.data.toList.getD x2.toNat (0:UInt8)).toNat:Int)≤(57:Int)) then
 k (.inl (x0,Bool.false))
 else
 (F x0 x1 (IntKind.i64.wrap (x2+1))).bind k
 else
 (F x0 x1 (IntKind.i64.wrap (x2+1))).bind k
 else
 none
 else
 bif !decide ((↑(x0.data.toList.getD x2.toNat (0:UInt8)).toNat:Int)≤(122:Int)) then
 bif decide (x2=(0:Int)) then
 k (.inl (x0,Bool.false))
 else
 bif !Bool.false then
 k (.inl (x0,Bool.false))
 else
 (F x0 x1 (IntKind.i64.wrap (x2+1))).bind k
 else
 (F x0 x1 (IntKind.i64.wrap (x2+1))).bind k
 else
 none
 else
 none
 else
 if 0≤x2∧x2<(↑x0.size:Int) then
 bif decide ((48:Int)≤(↑(x0.data.toList.getD x2.toNat (0:UInt8)).toNat:Int)) then
 if 0≤x2∧x2<(↑x0.size:Int) then
 bif !Bool.false then
 bif decide (x2=(0:Int)) then
 k (.inl (x0,Bool.false))
 else
 bif !decide ((↑(x0.data.toList.getD x2.toNat (0:UInt8)).toNat:Int)≤(57:Int)) then
 k (.inl (x0,Bool.false))
 else
 (F x0 x1 (IntKind.i64.wrap (x2+1))).bind k
 else
 (F x0 x1 (IntKind.i64.wrap (x2+1))).bind k
 else
 none
 else
 bif !Bool.false then
 bif decide (x2=(0:Int)) then
 k (.inl (x0,Bool.false))
 else
 bif !Bool.false then
 k (.inl (x0,Bool.false))
 else
 (F x0 x1 (IntKind.i64.wrap (x2+1))).bind k
 else
 (F x0 x1 (IntKind.i64.wrap (x2+1))).bind k
 else
 none
 else
 none
 else
 k (.inr x0)
theorem c_Z30_bind {R:Type} (F:T_Z30) (x0:ByteArray) (x1 x2:Int) (k:(ByteArray×Bool)⊕(ByteArray)→Option R):c_Z30 F x0 x1 x2 k=(c_Z30 F x0 x1 x2 some).bind k:=by
 unfold c_Z30
 repeat' first
  | exact JH
  | exact JG
  | exact JF
  | apply JC
  | apply JD
  | apply JI
  | (apply JE; intro _)
  | intro _
def n_Z30:Nat→T_Z30
 | 0,_,_,_=>none
 | n+1,x0,x1,x2=>c_Z30 (n_Z30 n) x0 x1 x2 some
noncomputable def Z30 (x0:ByteArray) (x1 x2:Int):Option ((ByteArray×Bool)⊕(ByteArray)):=ev (fun n=>n_Z30 n x0 x1 x2)
def m_Z30 (F:T_Z30):Jz:=⟨2,⟨(.str::uu 6 (.int .i64::.int .i64::uu 36 ([]))),[]⟩,[(.ret,⟨(.str::.undef::.bool::uu 42 ([])),[]⟩),(.exit 0,⟨(.str::uu 44 ([])),[]⟩)],fun _ ds k=>dS (fun x0 ds=>dI (fun x1 ds=>dI (fun x2 ds=>dE ((F x0 x1 x2).bind (Sum.elim (fun y=>k 0 [.S y.1,.B y.2]) (fun y=>k 1 [.S y]))) ds) ds) ds) ds⟩
theorem q_Z30 (F:T_Z30) (x0:ByteArray) (x1 x2:Int):Qg (Jv []) (Jw [m_Z30 F]) A 63 (Jm (Jl Try.f63) 2) ((m_Z30 F).sh.mk' [.S x0,.I x1,.I x2]) (fun e σ'=>some (e,σ'))=c_Z30 F x0 x1 x2 (Sum.elim (fun y=>some (.ret,SSt.mk' ⟨(.str::.undef::.bool::uu 42 ([])),[]⟩ [.S y.1,.B y.2])) (fun y=>some (.exit 0,SSt.mk' ⟨(.str::uu 44 ([])),[]⟩ [.S y]))):=by kernel_rfl
theorem m_Z30_ok:∀ n,(m_Z30 (n_Z30 n)).ok Try.prog (Jm (Jl Try.f63) 2):=by
 intro n
 induction n with
 | zero=>
  intro R ds k r h
  unfold m_Z30 at h
  obtain ⟨_,_,rfl,h⟩:=QI h
  obtain ⟨_,_,rfl,h⟩:=Ja h
  obtain ⟨_,_,rfl,h⟩:=Ja h
  obtain ⟨rfl,hE⟩:=Jg h
  obtain ⟨y,hy,hk⟩:=Jh hE
  cases hy
 | succ n ih=>
  intro R ds k r h
  unfold m_Z30 at h
  obtain ⟨_,_,rfl,h⟩:=QI h
  obtain ⟨_,_,rfl,h⟩:=Ja h
  obtain ⟨_,_,rfl,h⟩:=Ja h
  obtain ⟨rfl,hE⟩:=Jg h
  obtain ⟨y,hy,hk⟩:=Jh hE
  cases y with
  | inl y=>
   exact ⟨0,_,_,_,hk,rfl,J6 px (fx:=⟨Try.func63,by kernel_rfl,by kernel_rfl⟩) Js (Jx ih Jt) (by kernel_rfl) ((q_Z30 ..).trans ((c_Z30_bind ..).trans (Jj hy)))⟩
  | inr y=>
   exact ⟨1,_,_,_,hk,rfl,J6 px (fx:=⟨Try.func63,by kernel_rfl,by kernel_rfl⟩) Js (Jx ih Jt) (by kernel_rfl) ((q_Z30 ..).trans ((c_Z30_bind ..).trans (Jj hy)))⟩
noncomputable def e_Z30:Jz:=m_Z30 (Z30)
theorem e_Z30_ok:(e_Z30).ok Try.prog (Jm (Jl Try.f63) 2):=by
 intro R ds k r h
 unfold e_Z30 m_Z30 at h
 obtain ⟨_,_,rfl,h⟩:=QI h
 obtain ⟨_,_,rfl,h⟩:=Ja h
 obtain ⟨_,_,rfl,h⟩:=Ja h
 obtain ⟨rfl,hE⟩:=Jg h
 obtain ⟨y,hy,hk⟩:=Jh hE
 obtain ⟨n,hn⟩:=Qh hy
 exact m_Z30_ok n R _ k r ((Jj hn).trans hk)

/-!-/
def c_Z31 {R:Type} (x0:ByteArray) (k:Bool→Option R):Option R:=
 (Z30 x0 (↑x0.size:Int) (0:Int)).bind (Sum.elim (fun y0=>
 k y0.snd) (fun y1=>
 (Z28 (↑y1.size:Int) (1:Int) (8:Int)).bind (fun y2=>
 k y2)))
theorem c_Z31_bind {R:Type} (x0:ByteArray) (k:Bool→Option R):c_Z31 x0 k=(c_Z31 x0 some).bind k:=by
 unfold c_Z31
 repeat' first
  | exact JH
  | exact JG
  | exact JF
  | apply JC
  | apply JD
  | apply JI
  | (apply JE; intro _)
  | intro _
def Z31 (x0:ByteArray):Option (Bool):=c_Z31 x0 some
def e_Z31:Ent:=⟨63,[.str],[(.bool,[.undef])],fun _ ds k=>dS (fun x0 ds=>dE ((Z31 x0).bind (fun y=>k 0 [.B y])) ds) ds⟩
theorem q_Z31 (x0:ByteArray):J5 (Jv [e_Z28]) (Jw [e_Z30]) A 63 Try.f63 (Sh.mks e_Z31.sh [.S x0]).1 (fun v os=>some (v,os))=c_Z31 x0 (fun y=>J9 e_Z31 0 [.B y]):=by kernel_rfl
theorem e_Z31_ok:e_Z31.ok Try.prog A:=by
 intro R ds k r h
 unfold e_Z31 at h
 obtain ⟨_,_,rfl,h⟩:=QI h
 obtain ⟨rfl,hE⟩:=Jg h
 obtain ⟨y,hy,hk⟩:=Jh hE
 exact ⟨0,_,_,_,hk,rfl,Qa px (fx:=⟨Try.func63,by kernel_rfl,by kernel_rfl⟩) (JR e_Z28_ok Js) (Jx e_Z30_ok Jt) ((q_Z31 ..).trans ((c_Z31_bind ..).trans (Jj hy)))⟩

/-!-/
def c_Z32 {R:Type} (x0:Int) (x1:ByteArray) (x2 x3 x4:Int) (k:Bool→Option R):Option R:=
 (Z29 x0).bind (fun y0=>
 bif y0 then
 (Z31 x1).bind (fun y1=>
 bif y1 then
 (Z28 x2 (1:Int) (10000:Int)).bind (fun y2=>
 bif y2 then
 (Z28 x3 (0:Int) (1000000:Int)).bind (fun y3=>
 bif y3 then
 (Z28 x4 (0:Int) (IntKind.i64.wrap ((100:Int) * x2))).bind (fun y4=>
 k y4)
 else
 k Bool.false)
 else
 k Bool.false)
 else
 k Bool.false)
 else
 k Bool.false)
theorem c_Z32_bind {R:Type} (x0:Int) (x1:ByteArray) (x2 x3 x4:Int) (k:Bool→Option R):c_Z32 x0 x1 x2 x3 x4 k=(c_Z32 x0 x1 x2 x3 x4 some).bind k:=by
 unfold c_Z32
 repeat' first
  | exact JH
  | exact JG
  | exact JF
  | apply JC
  | apply JD
  | apply JI
  | (apply JE; intro _)
  | intro _
def Z32 (x0:Int) (x1:ByteArray) (x2 x3 x4:Int):Option (Bool):=c_Z32 x0 x1 x2 x3 x4 some
def e_Z32:Ent:=⟨47,[.agg [.int .i64,.str,.int .i64,.int .i64,.int .i64]],[(.bool,[.undef])],fun _ ds k=>dI (fun x0 ds=>dS (fun x1 ds=>dI (fun x2 ds=>dI (fun x3 ds=>dI (fun x4 ds=>dE ((Z32 x0 x1 x2 x3 x4).bind (fun y=>k 0 [.B y])) ds) ds) ds) ds) ds) ds⟩
theorem q_Z32 (x0:Int) (x1:ByteArray) (x2 x3 x4:Int):J5 (Jv [e_Z29,e_Z31,e_Z28]) (Jw []) A 47 Try.f47 (Sh.mks e_Z32.sh [.I x0,.S x1,.I x2,.I x3,.I x4]).1 (fun v os=>some (v,os))=c_Z32 x0 x1 x2 x3 x4 (fun y=>J9 e_Z32 0 [.B y]):=by kernel_rfl
theorem e_Z32_ok:e_Z32.ok Try.prog A:=by
 intro R ds k r h
 unfold e_Z32 at h
 obtain ⟨_,_,rfl,h⟩:=Ja h
 obtain ⟨_,_,rfl,h⟩:=QI h
 obtain ⟨_,_,rfl,h⟩:=Ja h
 obtain ⟨_,_,rfl,h⟩:=Ja h
 obtain ⟨_,_,rfl,h⟩:=Ja h
 obtain ⟨rfl,hE⟩:=Jg h
 obtain ⟨y,hy,hk⟩:=Jh hE
 exact ⟨0,_,_,_,hk,rfl,Qa px (fx:=⟨Try.func47,by kernel_rfl,by kernel_rfl⟩) (JR e_Z29_ok (JR e_Z31_ok (JR e_Z28_ok Js))) Jt ((q_Z32 ..).trans ((c_Z32_bind ..).trans (Jj hy)))⟩

/-!-/
def c_Z33 {R:Type} (x0:Int) (k:Bool→Option R):Option R:=
 k (!decide (x0=x0))
theorem c_Z33_bind {R:Type} (x0:Int) (k:Bool→Option R):c_Z33 x0 k=(c_Z33 x0 some).bind k:=by
 unfold c_Z33
 repeat' first
  | exact JH
  | exact JG
  | exact JF
  | apply JC
  | apply JD
  | apply JI
  | (apply JE; intro _)
  | intro _
def Z33 (x0:Int):Option (Bool):=c_Z33 x0 some
def e_Z33:Ent:=⟨73,[.int .i64],[(.bool,[.undef])],fun _ ds k=>dI (fun x0 ds=>dE ((Z33 x0).bind (fun y=>k 0 [.B y])) ds) ds⟩
theorem q_Z33 (x0:Int):J5 (Jv []) (Jw []) A 73 Try.f73 (Sh.mks e_Z33.sh [.I x0]).1 (fun v os=>some (v,os))=c_Z33 x0 (fun y=>J9 e_Z33 0 [.B y]):=by kernel_rfl
theorem e_Z33_ok:e_Z33.ok Try.prog A:=by
 intro R ds k r h
 unfold e_Z33 at h
 obtain ⟨_,_,rfl,h⟩:=Ja h
 obtain ⟨rfl,hE⟩:=Jg h
 obtain ⟨y,hy,hk⟩:=Jh hE
 exact ⟨0,_,_,_,hk,rfl,Qa px (fx:=⟨Try.func73,by kernel_rfl,by kernel_rfl⟩) Js Jt ((q_Z33 ..).trans ((c_Z33_bind ..).trans (Jj hy)))⟩

/-!-/
def c_Z34 {R:Type} (x0 x1:Int) (k:Int→Option R):Option R:=
 (Z33 x0).bind (fun y0=>
 (Z33 x1).bind (fun y1=>
 bif y0 then
 bif y1 then
 k (0:Int)
 else
 k (-1:Int)
 else
 bif y1 then
 k (1:Int)
 else
 bif decide (x0<x1) then
 k (-1:Int)
 else
 bif decide (x1<x0) then
 k (1:Int)
 else
 k (0:Int)))
theorem c_Z34_bind {R:Type} (x0 x1:Int) (k:Int→Option R):c_Z34 x0 x1 k=(c_Z34 x0 x1 some).bind k:=by
 unfold c_Z34
 repeat' first
  | exact JH
  | exact JG
  | exact JF
  | apply JC
  | apply JD
  | apply JI
  | (apply JE; intro _)
  | intro _
def Z34 (x0 x1:Int):Option (Int):=c_Z34 x0 x1 some
def e_Z34:Ent:=⟨61,[.int .i64,.int .i64],[(.int .i64,[.undef,.undef])],fun _ ds k=>dI (fun x0 ds=>dI (fun x1 ds=>dE ((Z34 x0 x1).bind (fun y=>k 0 [.I y])) ds) ds) ds⟩
theorem q_Z34 (x0 x1:Int):J5 (Jv [e_Z33]) (Jw []) A 61 Try.f61 (Sh.mks e_Z34.sh [.I x0,.I x1]).1 (fun v os=>some (v,os))=c_Z34 x0 x1 (fun y=>J9 e_Z34 0 [.I y]):=by kernel_rfl
theorem e_Z34_ok:e_Z34.ok Try.prog A:=by
 intro R ds k r h
 unfold e_Z34 at h
 obtain ⟨_,_,rfl,h⟩:=Ja h
 obtain ⟨_,_,rfl,h⟩:=Ja h
 obtain ⟨rfl,hE⟩:=Jg h
 obtain ⟨y,hy,hk⟩:=Jh hE
 exact ⟨0,_,_,_,hk,rfl,Qa px (fx:=⟨Try.func61,by kernel_rfl,by kernel_rfl⟩) (JR e_Z33_ok Js) Jt ((q_Z34 ..).trans ((c_Z34_bind ..).trans (Jj hy)))⟩

/-!-/
def c_Z35 {R:Type} (x0:ByteArray) (k:Bool→Option R):Option R:=
 k (!x0.toList==x0.toList)
theorem c_Z35_bind {R:Type} (x0:ByteArray) (k:Bool→Option R):c_Z35 x0 k=(c_Z35 x0 some).bind k:=by
 unfold c_Z35
 repeat' first
  | exact JH
  | exact JG
  | exact JF
  | apply JC
  | apply JD
  | apply JI
  | (apply JE; intro _)
  | intro _
def Z35 (x0:ByteArray):Option (Bool):=c_Z35 x0 some
def e_Z35:Ent:=⟨74,[.str],[(.bool,[.undef])],fun _ ds k=>dS (fun x0 ds=>dE ((Z35 x0).bind (fun y=>k 0 [.B y])) ds) ds⟩
theorem q_Z35 (x0:ByteArray):J5 (Jv []) (Jw []) A 74 Try.f74 (Sh.mks e_Z35.sh [.S x0]).1 (fun v os=>some (v,os))=c_Z35 x0 (fun y=>J9 e_Z35 0 [.B y]):=by kernel_rfl
theorem e_Z35_ok:e_Z35.ok Try.prog A:=by
 intro R ds k r h
 unfold e_Z35 at h
 obtain ⟨_,_,rfl,h⟩:=QI h
 obtain ⟨rfl,hE⟩:=Jg h
 obtain ⟨y,hy,hk⟩:=Jh hE
 exact ⟨0,_,_,_,hk,rfl,Qa px (fx:=⟨Try.func74,by kernel_rfl,by kernel_rfl⟩) Js Jt ((q_Z35 ..).trans ((c_Z35_bind ..).trans (Jj hy)))⟩

/-!-/
def c_Z36 {R:Type} (x0 x1:ByteArray) (k:Int→Option R):Option R:=
 (Z35 x0).bind (fun y0=>
 (Z35 x1).bind (fun y1=>
 bif y0 then
 bif y1 then
 k (0:Int)
 else
 k (-1:Int)
 else
 bif y1 then
 k (1:Int)
 else
 bif Go.Op.bytesLess x0.toList x1.toList then
 k (-1:Int)
 else
 bif !(Go.Op.bytesLess x0.toList x1.toList||x0.toList==x1.toList) then
 k (1:Int)
 else
 k (0:Int)))
theorem c_Z36_bind {R:Type} (x0 x1:ByteArray) (k:Int→Option R):c_Z36 x0 x1 k=(c_Z36 x0 x1 some).bind k:=by
 unfold c_Z36
 repeat' first
  | exact JH
  | exact JG
  | exact JF
  | apply JC
  | apply JD
  | apply JI
  | (apply JE; intro _)
  | intro _
def Z36 (x0 x1:ByteArray):Option (Int):=c_Z36 x0 x1 some
def e_Z36:Ent:=⟨66,[.str,.str],[(.int .i64,[.undef,.undef])],fun _ ds k=>dS (fun x0 ds=>dS (fun x1 ds=>dE ((Z36 x0 x1).bind (fun y=>k 0 [.I y])) ds) ds) ds⟩
theorem q_Z36 (x0 x1:ByteArray):J5 (Jv [e_Z35]) (Jw []) A 66 Try.f66 (Sh.mks e_Z36.sh [.S x0,.S x1]).1 (fun v os=>some (v,os))=c_Z36 x0 x1 (fun y=>J9 e_Z36 0 [.I y]):=by kernel_rfl
theorem e_Z36_ok:e_Z36.ok Try.prog A:=by
 intro R ds k r h
 unfold e_Z36 at h
 obtain ⟨_,_,rfl,h⟩:=QI h
 obtain ⟨_,_,rfl,h⟩:=QI h
 obtain ⟨rfl,hE⟩:=Jg h
 obtain ⟨y,hy,hk⟩:=Jh hE
 exact ⟨0,_,_,_,hk,rfl,Qa px (fx:=⟨Try.func66,by kernel_rfl,by kernel_rfl⟩) (JR e_Z35_ok Js) Jt ((q_Z36 ..).trans ((c_Z36_bind ..).trans (Jj hy)))⟩

/-!-/
abbrev T_Z37:=Int→List D→Int→Int→Option ((Int×Int)⊕(Int))
def c_Z37 {R:Type} (F:T_Z37) (x0:Int) (x1:List D) (x2 x3:Int) (k:(Int×Int)⊕(Int)→Option R):Option R:=
 bif decide (x3<x2) then
 if 0≤x3∧x3<(↑x1.length:Int) then
 bif !decide ((x1.getD x3.toNat (D.int 0)).toInt=x0) then
 k (.inl ((x1.getD x3.toNat (D.int 0)).toInt,x0))
 else
 (F x0 x1 x2 (IntKind.i64.wrap (x3+1))).bind k
 else
 none
 else
 k (.inr x0)
theorem c_Z37_bind {R:Type} (F:T_Z37) (x0:Int) (x1:List D) (x2 x3:Int) (k:(Int×Int)⊕(Int)→Option R):c_Z37 F x0 x1 x2 x3 k=(c_Z37 F x0 x1 x2 x3 some).bind k:=by
 unfold c_Z37
 repeat' first
  | exact JH
  | exact JG
  | exact JF
  | apply JC
  | apply JD
  | apply JI
  | (apply JE; intro _)
  | intro _
def n_Z37:Nat→T_Z37
 | 0,_,_,_,_=>none
 | n+1,x0,x1,x2,x3=>c_Z37 (n_Z37 n) x0 x1 x2 x3 some
noncomputable def Z37 (x0:Int) (x1:List D) (x2 x3:Int):Option ((Int×Int)⊕(Int)):=ev (fun n=>n_Z37 n x0 x1 x2 x3)
def m_Z37 (F:T_Z37):Jz:=⟨3,⟨(.undef::.undef::.undef::.int .i64::.undef::.undef::.rd (.int .i64)::.int .i64::.int .i64::uu 9 ([])),[]⟩,[(.ret,⟨(.undef::.undef::.int .i64::.int .i64::uu 14 ([])),[]⟩),(.exit 0,⟨(.undef::.undef::.undef::.int .i64::uu 14 ([])),[]⟩)],fun _ ds k=>dI (fun x0 ds=>dL (fun x1 ds=>dI (fun x2 ds=>dI (fun x3 ds=>dE ((F x0 x1 x2 x3).bind (Sum.elim (fun y=>k 0 [.I y.1,.I y.2]) (fun y=>k 1 [.I y]))) ds) ds) ds) ds) ds⟩
theorem q_Z37 (F:T_Z37) (x0:Int) (x1:List D) (x2 x3:Int):Qg (Jv []) (Jw [m_Z37 F]) A 65 (Jm (Jl Try.f65) 3) ((m_Z37 F).sh.mk' [.I x0,.L x1,.I x2,.I x3]) (fun e σ'=>some (e,σ'))=c_Z37 F x0 x1 x2 x3 (Sum.elim (fun y=>some (.ret,SSt.mk' ⟨(.undef::.undef::.int .i64::.int .i64::uu 14 ([])),[]⟩ [.I y.1,.I y.2])) (fun y=>some (.exit 0,SSt.mk' ⟨(.undef::.undef::.undef::.int .i64::uu 14 ([])),[]⟩ [.I y]))):=by kernel_rfl
theorem m_Z37_ok:∀ n,(m_Z37 (n_Z37 n)).ok Try.prog (Jm (Jl Try.f65) 3):=by
 intro n
 induction n with
 | zero=>
  intro R ds k r h
  unfold m_Z37 at h
  obtain ⟨_,_,rfl,h⟩:=Ja h
  obtain ⟨_,_,rfl,h⟩:=Jd h
  obtain ⟨_,_,rfl,h⟩:=Ja h
  obtain ⟨_,_,rfl,h⟩:=Ja h
  obtain ⟨rfl,hE⟩:=Jg h
  obtain ⟨y,hy,hk⟩:=Jh hE
  cases hy
 | succ n ih=>
  intro R ds k r h
  unfold m_Z37 at h
  obtain ⟨_,_,rfl,h⟩:=Ja h
  obtain ⟨_,_,rfl,h⟩:=Jd h
  obtain ⟨_,_,rfl,h⟩:=Ja h
  obtain ⟨_,_,rfl,h⟩:=Ja h
  obtain ⟨rfl,hE⟩:=Jg h
  obtain ⟨y,hy,hk⟩:=Jh hE
  cases y with
  | inl y=>
   exact ⟨0,_,_,_,hk,rfl,J6 px (fx:=⟨Try.func65,by kernel_rfl,by kernel_rfl⟩) Js (Jx ih Jt) (by kernel_rfl) ((q_Z37 ..).trans ((c_Z37_bind ..).trans (Jj hy)))⟩
  | inr y=>
   exact ⟨1,_,_,_,hk,rfl,J6 px (fx:=⟨Try.func65,by kernel_rfl,by kernel_rfl⟩) Js (Jx ih Jt) (by kernel_rfl) ((q_Z37 ..).trans ((c_Z37_bind ..).trans (Jj hy)))⟩
noncomputable def e_Z37:Jz:=m_Z37 (Z37)
theorem e_Z37_ok:(e_Z37).ok Try.prog (Jm (Jl Try.f65) 3):=by
 intro R ds k r h
 unfold e_Z37 m_Z37 at h
 obtain ⟨_,_,rfl,h⟩:=Ja h
 obtain ⟨_,_,rfl,h⟩:=Jd h
 obtain ⟨_,_,rfl,h⟩:=Ja h
 obtain ⟨_,_,rfl,h⟩:=Ja h
 obtain ⟨rfl,hE⟩:=Jg h
 obtain ⟨y,hy,hk⟩:=Jh hE
 obtain ⟨n,hn⟩:=Qh hy
 exact m_Z37_ok n R _ k r ((Jj hn).trans hk)

/-!-/
def c_Z38 {R:Type} (x0:List D) (k:Int→Option R):Option R:=
 (Z37 (0:Int) x0 (↑x0.length:Int) (0:Int)).bind (Sum.elim (fun y0=>
 k y0.fst) (fun y1=>
 k y1))
theorem c_Z38_bind {R:Type} (x0:List D) (k:Int→Option R):c_Z38 x0 k=(c_Z38 x0 some).bind k:=by
 unfold c_Z38
 repeat' first
  | exact JH
  | exact JG
  | exact JF
  | apply JC
  | apply JD
  | apply JI
  | (apply JE; intro _)
  | intro _
def Z38 (x0:List D):Option (Int):=c_Z38 x0 some
def e_Z38:Ent:=⟨65,[.rd (.int .i64)],[(.int .i64,[.undef])],fun _ ds k=>dL (fun x0 ds=>dE ((Z38 x0).bind (fun y=>k 0 [.I y])) ds) ds⟩
theorem q_Z38 (x0:List D):J5 (Jv []) (Jw [e_Z37]) A 65 Try.f65 (Sh.mks e_Z38.sh [.L x0]).1 (fun v os=>some (v,os))=c_Z38 x0 (fun y=>J9 e_Z38 0 [.I y]):=by kernel_rfl
theorem e_Z38_ok:e_Z38.ok Try.prog A:=by
 intro R ds k r h
 unfold e_Z38 at h
 obtain ⟨_,_,rfl,h⟩:=Jd h
 obtain ⟨rfl,hE⟩:=Jg h
 obtain ⟨y,hy,hk⟩:=Jh hE
 exact ⟨0,_,_,_,hk,rfl,Qa px (fx:=⟨Try.func65,by kernel_rfl,by kernel_rfl⟩) Js (Jx e_Z37_ok Jt) ((q_Z38 ..).trans ((c_Z38_bind ..).trans (Jj hy)))⟩

/-!-/
def c_Z39 {R:Type} (x0:Int) (x1:ByteArray) (x2 x3 x4 x5:Int) (x6:ByteArray) (x7 x8 x9:Int) (k:Int→Option R):Option R:=
 (Z34 x0 x5).bind (fun y0=>
 (Z36 x1 x6).bind (fun y1=>
 (Z38 ([D.int y0,D.int y1])).bind (fun y2=>
 k y2)))
theorem c_Z39_bind {R:Type} (x0:Int) (x1:ByteArray) (x2 x3 x4 x5:Int) (x6:ByteArray) (x7 x8 x9:Int) (k:Int→Option R):c_Z39 x0 x1 x2 x3 x4 x5 x6 x7 x8 x9 k=(c_Z39 x0 x1 x2 x3 x4 x5 x6 x7 x8 x9 some).bind k:=by
 unfold c_Z39
 repeat' first
  | exact JH
  | exact JG
  | exact JF
  | apply JC
  | apply JD
  | apply JI
  | (apply JE; intro _)
  | intro _
def Z39 (x0:Int) (x1:ByteArray) (x2 x3 x4 x5:Int) (x6:ByteArray) (x7 x8 x9:Int):Option (Int):=c_Z39 x0 x1 x2 x3 x4 x5 x6 x7 x8 x9 some
def e_Z39:Ent:=⟨50,[.agg [.int .i64,.str,.int .i64,.int .i64,.int .i64],.agg [.int .i64,.str,.int .i64,.int .i64,.int .i64]],[(.int .i64,[.undef,.undef])],fun _ ds k=>dI (fun x0 ds=>dS (fun x1 ds=>dI (fun x2 ds=>dI (fun x3 ds=>dI (fun x4 ds=>dI (fun x5 ds=>dS (fun x6 ds=>dI (fun x7 ds=>dI (fun x8 ds=>dI (fun x9 ds=>dE ((Z39 x0 x1 x2 x3 x4 x5 x6 x7 x8 x9).bind (fun y=>k 0 [.I y])) ds) ds) ds) ds) ds) ds) ds) ds) ds) ds) ds⟩
theorem q_Z39 (x0:Int) (x1:ByteArray) (x2 x3 x4 x5:Int) (x6:ByteArray) (x7 x8 x9:Int):J5 (Jv [e_Z34,e_Z36,e_Z38]) (Jw []) A 50 Try.f50 (Sh.mks e_Z39.sh [.I x0,.S x1,.I x2,.I x3,.I x4,.I x5,.S x6,.I x7,.I x8,.I x9]).1 (fun v os=>some (v,os))=c_Z39 x0 x1 x2 x3 x4 x5 x6 x7 x8 x9 (fun y=>J9 e_Z39 0 [.I y]):=by kernel_rfl
theorem e_Z39_ok:e_Z39.ok Try.prog A:=by
 intro R ds k r h
 unfold e_Z39 at h
 obtain ⟨_,_,rfl,h⟩:=Ja h
 obtain ⟨_,_,rfl,h⟩:=QI h
 obtain ⟨_,_,rfl,h⟩:=Ja h
 obtain ⟨_,_,rfl,h⟩:=Ja h
 obtain ⟨_,_,rfl,h⟩:=Ja h
 obtain ⟨_,_,rfl,h⟩:=Ja h
 obtain ⟨_,_,rfl,h⟩:=QI h
 obtain ⟨_,_,rfl,h⟩:=Ja h
 obtain ⟨_,_,rfl,h⟩:=Ja h
 obtain ⟨_,_,rfl,h⟩:=Ja h
 obtain ⟨rfl,hE⟩:=Jg h
 obtain ⟨y,hy,hk⟩:=Jh hE
 exact ⟨0,_,_,_,hk,rfl,Qa px (fx:=⟨Try.func50,by kernel_rfl,by kernel_rfl⟩) (JR e_Z34_ok (JR e_Z36_ok (JR e_Z38_ok Js))) Jt ((q_Z39 ..).trans ((c_Z39_bind ..).trans (Jj hy)))⟩

/-!-/
abbrev T_Z40:=List D→List D→Int→Int→Option ((List D×Bool)⊕(List D))
def c_Z40 {R:Type} (F:T_Z40) (x0 x1:List D) (x2 x3:Int) (k:(List D×Bool)⊕(List D)→Option R):Option R:=
 bif decide (x3<x2) then
 if 0≤x3∧x3<(↑x1.length:Int) then
 (Z32 (((x1.getD x3.toNat (D.int 0)).fld (0:Nat)).toInt) (((x1.getD x3.toNat (D.int 0)).fld (1:Nat)).toStr) (((x1.getD x3.toNat (D.int 0)).fld (2:Nat)).toInt) (((x1.getD x3.toNat (D.int 0)).fld (3:Nat)).toInt) (((x1.getD x3.toNat (D.int 0)).fld (4:Nat)).toInt)).bind (fun y0=>
 bif !y0 then
 k (.inl (x0,Bool.false))
 else
 bif decide ((0:Int)<x3) then
 if (0:Int)≤IntKind.i64.wrap (x3 - 1)∧IntKind.i64.wrap (x3 - 1)<(↑x0.length:Int) then
 (Z39 (((x0.getD (IntKind.i64.wrap (x3 - 1)).toNat (D.int 0)).fld (0:Nat)).toInt) (((x0.getD (IntKind.i64.wrap (x3 - 1)).toNat (D.int 0)).fld (1:Nat)).toStr) (((x0.getD (IntKind.i64.wrap (x3 - 1)).toNat (D.int 0)).fld (2:Nat)).toInt) (((x0.getD (IntKind.i64.wrap (x3 - 1)).toNat (D.int 0)).fld (3:Nat)).toInt) (((x0.getD (IntKind.i64.wrap (x3 - 1)).toNat (D.int 0)).fld (4:Nat)).toInt) (((x1.getD x3.toNat (D.int 0)).fld (0:Nat)).toInt) (((x1.getD x3.toNat (D.int 0)).fld (1:Nat)).toStr) (((x1.getD x3.toNat (D.int 0)).fld (2:Nat)).toInt) (((x1.getD x3.toNat (D.int 0)).fld (3:Nat)).toInt) (((x1.getD x3.toNat (D.int 0)).fld (4:Nat)).toInt)).bind (fun y1=>
 bif decide ((0:Int)≤y1) then
 k (.inl (x0,Bool.false))
 else
 (F x0 x1 x2 (IntKind.i64.wrap (x3+1))).bind k)
 else
 none
 else
 (F x0 x1 x2 (IntKind.i64.wrap (x3+1))).bind k)
 else
 none
 else
 k (.inr x0)
theorem c_Z40_bind {R:Type} (F:T_Z40) (x0 x1:List D) (x2 x3:Int) (k:(List D×Bool)⊕(List D)→Option R):c_Z40 F x0 x1 x2 x3 k=(c_Z40 F x0 x1 x2 x3 some).bind k:=by
 unfold c_Z40
 repeat' first
  | exact JH
  | exact JG
  | exact JF
  | apply JC
  | apply JD
  | apply JI
  | (apply JE; intro _)
  | intro _
def n_Z40:Nat→T_Z40
 | 0,_,_,_,_=>none
 | n+1,x0,x1,x2,x3=>c_Z40 (n_Z40 n) x0 x1 x2 x3 some
noncomputable def Z40 (x0 x1:List D) (x2 x3:Int):Option ((List D×Bool)⊕(List D)):=ev (fun n=>n_Z40 n x0 x1 x2 x3)
def m_Z40 (F:T_Z40):Jz:=⟨2,⟨(.rd (.struct [.int .i64,.str,.int .i64,.int .i64,.int .i64])::uu 4 (.rd (.struct [.int .i64,.str,.int .i64,.int .i64,.int .i64])::.int .i64::.int .i64::uu 25 ([]))),[]⟩,[(.ret,⟨(.rd (.struct [.int .i64,.str,.int .i64,.int .i64,.int .i64])::.undef::.bool::uu 30 ([])),[]⟩),(.exit 0,⟨(.rd (.struct [.int .i64,.str,.int .i64,.int .i64,.int .i64])::uu 32 ([])),[]⟩)],fun _ ds k=>dL (fun x0 ds=>dL (fun x1 ds=>dI (fun x2 ds=>dI (fun x3 ds=>dE ((F x0 x1 x2 x3).bind (Sum.elim (fun y=>k 0 [.L y.1,.B y.2]) (fun y=>k 1 [.L y]))) ds) ds) ds) ds) ds⟩
theorem q_Z40 (F:T_Z40) (x0 x1:List D) (x2 x3:Int):Qg (Jv [e_Z32,e_Z39]) (Jw [m_Z40 F]) A 30 (Jm (Jl Try.f30) 2) ((m_Z40 F).sh.mk' [.L x0,.L x1,.I x2,.I x3]) (fun e σ'=>some (e,σ'))=c_Z40 F x0 x1 x2 x3 (Sum.elim (fun y=>some (.ret,SSt.mk' ⟨(.rd (.struct [.int .i64,.str,.int .i64,.int .i64,.int .i64])::.undef::.bool::uu 30 ([])),[]⟩ [.L y.1,.B y.2])) (fun y=>some (.exit 0,SSt.mk' ⟨(.rd (.struct [.int .i64,.str,.int .i64,.int .i64,.int .i64])::uu 32 ([])),[]⟩ [.L y]))):=by kernel_rfl
theorem m_Z40_ok:∀ n,(m_Z40 (n_Z40 n)).ok Try.prog (Jm (Jl Try.f30) 2):=by
 intro n
 induction n with
 | zero=>
  intro R ds k r h
  unfold m_Z40 at h
  obtain ⟨_,_,rfl,h⟩:=Jd h
  obtain ⟨_,_,rfl,h⟩:=Jd h
  obtain ⟨_,_,rfl,h⟩:=Ja h
  obtain ⟨_,_,rfl,h⟩:=Ja h
  obtain ⟨rfl,hE⟩:=Jg h
  obtain ⟨y,hy,hk⟩:=Jh hE
  cases hy
 | succ n ih=>
  intro R ds k r h
  unfold m_Z40 at h
  obtain ⟨_,_,rfl,h⟩:=Jd h
  obtain ⟨_,_,rfl,h⟩:=Jd h
  obtain ⟨_,_,rfl,h⟩:=Ja h
  obtain ⟨_,_,rfl,h⟩:=Ja h
  obtain ⟨rfl,hE⟩:=Jg h
  obtain ⟨y,hy,hk⟩:=Jh hE
  cases y with
  | inl y=>
   exact ⟨0,_,_,_,hk,rfl,J6 px (fx:=⟨Try.func30,by kernel_rfl,by kernel_rfl⟩) (JR e_Z32_ok (JR e_Z39_ok Js)) (Jx ih Jt) (by kernel_rfl) ((q_Z40 ..).trans ((c_Z40_bind ..).trans (Jj hy)))⟩
  | inr y=>
   exact ⟨1,_,_,_,hk,rfl,J6 px (fx:=⟨Try.func30,by kernel_rfl,by kernel_rfl⟩) (JR e_Z32_ok (JR e_Z39_ok Js)) (Jx ih Jt) (by kernel_rfl) ((q_Z40 ..).trans ((c_Z40_bind ..).trans (Jj hy)))⟩
noncomputable def e_Z40:Jz:=m_Z40 (Z40)
theorem e_Z40_ok:(e_Z40).ok Try.prog (Jm (Jl Try.f30) 2):=by
 intro R ds k r h
 unfold e_Z40 m_Z40 at h
 obtain ⟨_,_,rfl,h⟩:=Jd h
 obtain ⟨_,_,rfl,h⟩:=Jd h
 obtain ⟨_,_,rfl,h⟩:=Ja h
 obtain ⟨_,_,rfl,h⟩:=Ja h
 obtain ⟨rfl,hE⟩:=Jg h
 obtain ⟨y,hy,hk⟩:=Jh hE
 obtain ⟨n,hn⟩:=Qh hy
 exact m_Z40_ok n R _ k r ((Jj hn).trans hk)

/-!-/
def c_Z41 {R:Type} (x0:List D) (k:Bool→Option R):Option R:=
 (Z40 x0 x0 (↑x0.length:Int) (0:Int)).bind (Sum.elim (fun y0=>
 k y0.snd) (fun y1=>
 k (decide ((↑y1.length:Int)≤(30:Int)))))
theorem c_Z41_bind {R:Type} (x0:List D) (k:Bool→Option R):c_Z41 x0 k=(c_Z41 x0 some).bind k:=by
 unfold c_Z41
 repeat' first
  | exact JH
  | exact JG
  | exact JF
  | apply JC
  | apply JD
  | apply JI
  | (apply JE; intro _)
  | intro _
def Z41 (x0:List D):Option (Bool):=c_Z41 x0 some
def e_Z41:Ent:=⟨30,[.rd (.struct [.int .i64,.str,.int .i64,.int .i64,.int .i64])],[(.bool,[.undef])],fun _ ds k=>dL (fun x0 ds=>dE ((Z41 x0).bind (fun y=>k 0 [.B y])) ds) ds⟩
theorem q_Z41 (x0:List D):J5 (Jv []) (Jw [e_Z40]) A 30 Try.f30 (Sh.mks e_Z41.sh [.L x0]).1 (fun v os=>some (v,os))=c_Z41 x0 (fun y=>J9 e_Z41 0 [.B y]):=by kernel_rfl
theorem e_Z41_ok:e_Z41.ok Try.prog A:=by
 intro R ds k r h
 unfold e_Z41 at h
 obtain ⟨_,_,rfl,h⟩:=Jd h
 obtain ⟨rfl,hE⟩:=Jg h
 obtain ⟨y,hy,hk⟩:=Jh hE
 exact ⟨0,_,_,_,hk,rfl,Qa px (fx:=⟨Try.func30,by kernel_rfl,by kernel_rfl⟩) Js (Jx e_Z40_ok Jt) ((q_Z41 ..).trans ((c_Z41_bind ..).trans (Jj hy)))⟩

/-!-/
def c_Z42 {R:Type} (x0:List D) (k:List D→Option R):Option R:=
 if (1:Nat)≤x0.length then
 if ([]:List D).length+x0.length≤(4294967296:Nat) then
 k ([]++x0)
 else
 none
 else
 C9 (
 if ([]:List D).length+x0.length≤(4294967296:Nat) then
 k ([]++x0)
 else
 none) (
 k [])
theorem c_Z42_imp {R:Type} (x0:List D) (k:List D→Option R) (y:List D) (hy:c_Z42 x0 some=some y):c_Z42 x0 k=k y:=by
 revert hy
 unfold c_Z42
 repeat' first
  | exact qC
  | exact qD
  | exact qE
  | apply qJ
  | apply qF
  | apply qG
  | apply qI
  | (apply qH; intro _)
  | intro _
def Z42 (x0:List D):Option (List D):=c_Z42 x0 some
def e_Z42:Ent:=⟨48,[.rd (.struct [.int .i64,.str,.int .i64,.int .i64,.int .i64])],[(.own (.struct [.int .i64,.str,.int .i64,.int .i64,.int .i64]),[.undef])],fun _ ds k=>dL (fun x0 ds=>dE ((Z42 x0).bind (fun y=>k 0 [.L y])) ds) ds⟩
theorem q_Z42 (x0:List D):J5 (Jv []) (Jw []) A 48 Try.f48 (Sh.mks e_Z42.sh [.L x0]).1 (fun v os=>some (v,os))=c_Z42 x0 (fun y=>J9 e_Z42 0 [.L y]):=by kernel_rfl
theorem e_Z42_ok:e_Z42.ok Try.prog A:=by
 intro R ds k r h
 unfold e_Z42 at h
 obtain ⟨_,_,rfl,h⟩:=Jd h
 obtain ⟨rfl,hE⟩:=Jg h
 obtain ⟨y,hy,hk⟩:=Jh hE
 exact ⟨0,_,_,_,hk,rfl,Qa px (fx:=⟨Try.func48,by kernel_rfl,by kernel_rfl⟩) Js Jt ((q_Z42 ..).trans (c_Z42_imp (hy:=hy) ..))⟩

/-!-/
def c_Z43 {R:Type} (x0:Int) (x1:ByteArray) (x2 x3 x4 x5:Int) (k:Bool→Option R):Option R:=
 k (!decide (x0=x5))
theorem c_Z43_bind {R:Type} (x0:Int) (x1:ByteArray) (x2 x3 x4 x5:Int) (k:Bool→Option R):c_Z43 x0 x1 x2 x3 x4 x5 k=(c_Z43 x0 x1 x2 x3 x4 x5 some).bind k:=by
 unfold c_Z43
 repeat' first
  | exact JH
  | exact JG
  | exact JF
  | apply JC
  | apply JD
  | apply JI
  | (apply JE; intro _)
  | intro _
def Z43 (x0:Int) (x1:ByteArray) (x2 x3 x4 x5:Int):Option (Bool):=c_Z43 x0 x1 x2 x3 x4 x5 some
def e_Z43:Ent:=⟨56,[.agg [.int .i64,.str,.int .i64,.int .i64,.int .i64],.rp (.int .i64)],[(.bool,[.undef,.undef])],fun _ ds k=>dI (fun x0 ds=>dS (fun x1 ds=>dI (fun x2 ds=>dI (fun x3 ds=>dI (fun x4 ds=>dI (fun x5 ds=>dE ((Z43 x0 x1 x2 x3 x4 x5).bind (fun y=>k 0 [.B y])) ds) ds) ds) ds) ds) ds) ds⟩
theorem q_Z43 (x0:Int) (x1:ByteArray) (x2 x3 x4 x5:Int):J5 (Jv []) (Jw []) A 56 Try.f56 (Sh.mks e_Z43.sh [.I x0,.S x1,.I x2,.I x3,.I x4,.I x5]).1 (fun v os=>some (v,os))=c_Z43 x0 x1 x2 x3 x4 x5 (fun y=>J9 e_Z43 0 [.B y]):=by kernel_rfl
theorem e_Z43_ok:e_Z43.ok Try.prog A:=by
 intro R ds k r h
 unfold e_Z43 at h
 obtain ⟨_,_,rfl,h⟩:=Ja h
 obtain ⟨_,_,rfl,h⟩:=QI h
 obtain ⟨_,_,rfl,h⟩:=Ja h
 obtain ⟨_,_,rfl,h⟩:=Ja h
 obtain ⟨_,_,rfl,h⟩:=Ja h
 obtain ⟨_,_,rfl,h⟩:=Ja h
 obtain ⟨rfl,hE⟩:=Jg h
 obtain ⟨y,hy,hk⟩:=Jh hE
 exact ⟨0,_,_,_,hk,rfl,Qa px (fx:=⟨Try.func56,by kernel_rfl,by kernel_rfl⟩) Js Jt ((q_Z43 ..).trans ((c_Z43_bind ..).trans (Jj hy)))⟩

/-!-/
abbrev T_Z44:=List D→Int→Int→Int→Option ((Int)⊕(Unit))
def c_Z44 {R:Type} (F:T_Z44) (x0:List D) (x1 x2 x3:Int) (k:(Int)⊕(Unit)→Option R):Option R:=
 bif decide (x3<x2) then
 if 0≤x3∧x3<(↑x0.length:Int) then
 (Z43 (((x0.getD x3.toNat (D.int 0)).fld (0:Nat)).toInt) (((x0.getD x3.toNat (D.int 0)).fld (1:Nat)).toStr) (((x0.getD x3.toNat (D.int 0)).fld (2:Nat)).toInt) (((x0.getD x3.toNat (D.int 0)).fld (3:Nat)).toInt) (((x0.getD x3.toNat (D.int 0)).fld (4:Nat)).toInt) x1).bind (fun y0=>
 bif y0 then
 k (.inl x3)
 else
 (F x0 x1 x2 (IntKind.i64.wrap (x3+1))).bind k)
 else
 none
 else
 k (.inr ())
theorem c_Z44_bind {R:Type} (F:T_Z44) (x0:List D) (x1 x2 x3:Int) (k:(Int)⊕(Unit)→Option R):c_Z44 F x0 x1 x2 x3 k=(c_Z44 F x0 x1 x2 x3 some).bind k:=by
 unfold c_Z44
 repeat' first
  | exact JH
  | exact JG
  | exact JF
  | apply JC
  | apply JD
  | apply JI
  | (apply JE; intro _)
  | intro _
def n_Z44:Nat→T_Z44
 | 0,_,_,_,_=>none
 | n+1,x0,x1,x2,x3=>c_Z44 (n_Z44 n) x0 x1 x2 x3 some
noncomputable def Z44 (x0:List D) (x1 x2 x3:Int):Option ((Int)⊕(Unit)):=ev (fun n=>n_Z44 n x0 x1 x2 x3)
def m_Z44 (F:T_Z44):Jz:=⟨2,⟨(.rd (.struct [.int .i64,.str,.int .i64,.int .i64,.int .i64])::.fn 56 [.rp (.int .i64)]::uu 5 (.int .i64::.int .i64::uu 10 ([]))),[]⟩,[(.ret,⟨(uu 4 (.int .i64::uu 14 ([]))),[]⟩),(.exit 0,⟨(uu 19 ([])),[]⟩)],fun _ ds k=>dL (fun x0 ds=>dI (fun x1 ds=>dI (fun x2 ds=>dI (fun x3 ds=>dE ((F x0 x1 x2 x3).bind (Sum.elim (fun y=>k 0 [.I y]) (fun y=>k 1 []))) ds) ds) ds) ds) ds⟩
theorem q_Z44 (F:T_Z44) (x0:List D) (x1 x2 x3:Int):Qg (Jv [e_Z43]) (Jw [m_Z44 F]) A 71 (Jm (Jl Try.f71) 2) ((m_Z44 F).sh.mk' [.L x0,.I x1,.I x2,.I x3]) (fun e σ'=>some (e,σ'))=c_Z44 F x0 x1 x2 x3 (Sum.elim (fun y=>some (.ret,SSt.mk' ⟨(uu 4 (.int .i64::uu 14 ([]))),[]⟩ [.I y])) (fun y=>some (.exit 0,SSt.mk' ⟨(uu 19 ([])),[]⟩ []))):=by kernel_rfl
theorem m_Z44_ok:∀ n,(m_Z44 (n_Z44 n)).ok Try.prog (Jm (Jl Try.f71) 2):=by
 intro n
 induction n with
 | zero=>
  intro R ds k r h
  unfold m_Z44 at h
  obtain ⟨_,_,rfl,h⟩:=Jd h
  obtain ⟨_,_,rfl,h⟩:=Ja h
  obtain ⟨_,_,rfl,h⟩:=Ja h
  obtain ⟨_,_,rfl,h⟩:=Ja h
  obtain ⟨rfl,hE⟩:=Jg h
  obtain ⟨y,hy,hk⟩:=Jh hE
  cases hy
 | succ n ih=>
  intro R ds k r h
  unfold m_Z44 at h
  obtain ⟨_,_,rfl,h⟩:=Jd h
  obtain ⟨_,_,rfl,h⟩:=Ja h
  obtain ⟨_,_,rfl,h⟩:=Ja h
  obtain ⟨_,_,rfl,h⟩:=Ja h
  obtain ⟨rfl,hE⟩:=Jg h
  obtain ⟨y,hy,hk⟩:=Jh hE
  cases y with
  | inl y=>
   exact ⟨0,_,_,_,hk,rfl,J6 px (fx:=⟨Try.func71,by kernel_rfl,by kernel_rfl⟩) (JR e_Z43_ok Js) (Jx ih Jt) (by kernel_rfl) ((q_Z44 ..).trans ((c_Z44_bind ..).trans (Jj hy)))⟩
  | inr y=>
   exact ⟨1,_,_,_,hk,rfl,J6 px (fx:=⟨Try.func71,by kernel_rfl,by kernel_rfl⟩) (JR e_Z43_ok Js) (Jx ih Jt) (by kernel_rfl) ((q_Z44 ..).trans ((c_Z44_bind ..).trans (Jj hy)))⟩
noncomputable def e_Z44:Jz:=m_Z44 (Z44)
theorem e_Z44_ok:(e_Z44).ok Try.prog (Jm (Jl Try.f71) 2):=by
 intro R ds k r h
 unfold e_Z44 m_Z44 at h
 obtain ⟨_,_,rfl,h⟩:=Jd h
 obtain ⟨_,_,rfl,h⟩:=Ja h
 obtain ⟨_,_,rfl,h⟩:=Ja h
 obtain ⟨_,_,rfl,h⟩:=Ja h
 obtain ⟨rfl,hE⟩:=Jg h
 obtain ⟨y,hy,hk⟩:=Jh hE
 obtain ⟨n,hn⟩:=Qh hy
 exact m_Z44_ok n R _ k r ((Jj hn).trans hk)

/-!-/
def c_Z45 {R:Type} (x0:List D) (x1:Int) (k:Int→Option R):Option R:=
 (Z44 x0 x1 (↑x0.length:Int) (0:Int)).bind (Sum.elim (fun y0=>
 k y0) (fun y1=>
 k (-1:Int)))
theorem c_Z45_bind {R:Type} (x0:List D) (x1:Int) (k:Int→Option R):c_Z45 x0 x1 k=(c_Z45 x0 x1 some).bind k:=by
 unfold c_Z45
 repeat' first
  | exact JH
  | exact JG
  | exact JF
  | apply JC
  | apply JD
  | apply JI
  | (apply JE; intro _)
  | intro _
def Z45 (x0:List D) (x1:Int):Option (Int):=c_Z45 x0 x1 some
def e_Z45:Ent:=⟨71,[.rd (.struct [.int .i64,.str,.int .i64,.int .i64,.int .i64]),.fn 56 [.rp (.int .i64)]],[(.int .i64,[.undef,.undef])],fun _ ds k=>dL (fun x0 ds=>dI (fun x1 ds=>dE ((Z45 x0 x1).bind (fun y=>k 0 [.I y])) ds) ds) ds⟩
theorem q_Z45 (x0:List D) (x1:Int):J5 (Jv []) (Jw [e_Z44]) A 71 Try.f71 (Sh.mks e_Z45.sh [.L x0,.I x1]).1 (fun v os=>some (v,os))=c_Z45 x0 x1 (fun y=>J9 e_Z45 0 [.I y]):=by kernel_rfl
theorem e_Z45_ok:e_Z45.ok Try.prog A:=by
 intro R ds k r h
 unfold e_Z45 at h
 obtain ⟨_,_,rfl,h⟩:=Jd h
 obtain ⟨_,_,rfl,h⟩:=Ja h
 obtain ⟨rfl,hE⟩:=Jg h
 obtain ⟨y,hy,hk⟩:=Jh hE
 exact ⟨0,_,_,_,hk,rfl,Qa px (fx:=⟨Try.func71,by kernel_rfl,by kernel_rfl⟩) Js (Jx e_Z44_ok Jt) ((q_Z45 ..).trans ((c_Z45_bind ..).trans (Jj hy)))⟩

/-!-/
abbrev T_Z46:=Int→Int→Int→List D→Option (Int×List D)
def c_Z46 {R:Type} (F:T_Z46) (x0 x1 x2:Int) (x3:List D) (k:Int×List D→Option R):Option R:=
 bif decide (x2<(↑x3.length:Int)) then
 if 0≤x2∧x2<(↑x3.length:Int) then
 if x2.toNat+1≤x3.length then
 (Z43 (((x3.getD x2.toNat (D.int 0)).fld (0:Nat)).toInt) (((x3.getD x2.toNat (D.int 0)).fld (1:Nat)).toStr) (((x3.getD x2.toNat (D.int 0)).fld (2:Nat)).toInt) (((x3.getD x2.toNat (D.int 0)).fld (3:Nat)).toInt) (((x3.getD x2.toNat (D.int 0)).fld (4:Nat)).toInt) x0).bind (fun y0=>
 bif !y0 then
 if 0≤x1∧x1<(↑x3.length:Int) then
 if x1.toNat+1≤x3.length then
 (F x0 (IntKind.i64.wrap (x1+1)) (IntKind.i64.wrap (x2+1)) (x3.set x1.toNat (D.node [D.int ((x3.getD x2.toNat (D.int 0)).fld (0:Nat)).toInt,D.str ((x3.getD x2.toNat (D.int 0)).fld (1:Nat)).toStr,D.int ((x3.getD x2.toNat (D.int 0)).fld (2:Nat)).toInt,D.int ((x3.getD x2.toNat (D.int 0)).fld (3:Nat)).toInt,D.int ((x3.getD x2.toNat (D.int 0)).fld (4:Nat)).toInt]))).bind k
 else
 none
 else
 none
 else
 (F x0 x1 (IntKind.i64.wrap (x2+1)) x3).bind k)
 else
 none
 else
 none
 else
 k (x1,x3)
theorem c_Z46_bind {R:Type} (F:T_Z46) (x0 x1 x2:Int) (x3:List D) (k:Int×List D→Option R):c_Z46 F x0 x1 x2 x3 k=(c_Z46 F x0 x1 x2 x3 some).bind k:=by
 unfold c_Z46
 repeat' first
  | exact JH
  | exact JG
  | exact JF
  | apply JC
  | apply JD
  | apply JI
  | (apply JE; intro _)
  | intro _
def n_Z46:Nat→T_Z46
 | 0,_,_,_,_=>none
 | n+1,x0,x1,x2,x3=>c_Z46 (n_Z46 n) x0 x1 x2 x3 some
noncomputable def Z46 (x0 x1 x2:Int) (x3:List D):Option (Int×List D):=ev (fun n=>n_Z46 n x0 x1 x2 x3)
def m_Z46 (F:T_Z46):Jz:=⟨5,⟨(.full 1000 [] (.struct [.int .i64,.str,.int .i64,.int .i64,.int .i64])::.fn 56 [.rp (.int .i64)]::.undef::.undef::.undef::.int .i64::.int .i64::uu 35 ([])),[(1000,.own (.struct [.int .i64,.str,.int .i64,.int .i64,.int .i64]))]⟩,[(.exit 0,⟨(.full 1000 [] (.struct [.int .i64,.str,.int .i64,.int .i64,.int .i64])::uu 4 (.int .i64::uu 36 ([]))),[(1000,.own (.struct [.int .i64,.str,.int .i64,.int .i64,.int .i64]))]⟩)],fun _ ds k=>dI (fun x0 ds=>dI (fun x1 ds=>dI (fun x2 ds=>dL (fun x3 ds=>dE ((F x0 x1 x2 x3).bind (fun y=>k 0 [.I y.1,.L y.2])) ds) ds) ds) ds) ds⟩
theorem q_Z46 (F:T_Z46) (x0 x1 x2:Int) (x3:List D):Qg (Jv [e_Z43]) (Jw [m_Z46 F]) A 55 (Jm (Jl Try.f55) 5) ((m_Z46 F).sh.mk' [.I x0,.I x1,.I x2,.L x3]) (fun e σ'=>some (e,σ'))=c_Z46 F x0 x1 x2 x3 (fun y=>some (.exit 0,SSt.mk' ⟨(.full 1000 [] (.struct [.int .i64,.str,.int .i64,.int .i64,.int .i64])::uu 4 (.int .i64::uu 36 ([]))),[(1000,.own (.struct [.int .i64,.str,.int .i64,.int .i64,.int .i64]))]⟩ [.I y.1,.L y.2])):=by kernel_rfl
theorem m_Z46_ok:∀ n,(m_Z46 (n_Z46 n)).ok Try.prog (Jm (Jl Try.f55) 5):=by
 intro n
 induction n with
 | zero=>
  intro R ds k r h
  unfold m_Z46 at h
  obtain ⟨_,_,rfl,h⟩:=Ja h
  obtain ⟨_,_,rfl,h⟩:=Ja h
  obtain ⟨_,_,rfl,h⟩:=Ja h
  obtain ⟨_,_,rfl,h⟩:=Jd h
  obtain ⟨rfl,hE⟩:=Jg h
  obtain ⟨y,hy,hk⟩:=Jh hE
  cases hy
 | succ n ih=>
  intro R ds k r h
  unfold m_Z46 at h
  obtain ⟨_,_,rfl,h⟩:=Ja h
  obtain ⟨_,_,rfl,h⟩:=Ja h
  obtain ⟨_,_,rfl,h⟩:=Ja h
  obtain ⟨_,_,rfl,h⟩:=Jd h
  obtain ⟨rfl,hE⟩:=Jg h
  obtain ⟨y,hy,hk⟩:=Jh hE
  exact ⟨0,_,_,_,hk,rfl,J6 px (fx:=⟨Try.func55,by kernel_rfl,by kernel_rfl⟩) (JR e_Z43_ok Js) (Jx ih Jt) (by kernel_rfl) ((q_Z46 ..).trans ((c_Z46_bind ..).trans (Jj hy)))⟩
noncomputable def e_Z46:Jz:=m_Z46 (Z46)
theorem e_Z46_ok:(e_Z46).ok Try.prog (Jm (Jl Try.f55) 5):=by
 intro R ds k r h
 unfold e_Z46 m_Z46 at h
 obtain ⟨_,_,rfl,h⟩:=Ja h
 obtain ⟨_,_,rfl,h⟩:=Ja h
 obtain ⟨_,_,rfl,h⟩:=Ja h
 obtain ⟨_,_,rfl,h⟩:=Jd h
 obtain ⟨rfl,hE⟩:=Jg h
 obtain ⟨y,hy,hk⟩:=Jh hE
 obtain ⟨n,hn⟩:=Qh hy
 exact m_Z46_ok n R _ k r ((Jj hn).trans hk)

/-!-/
def c_Z47 {R:Type} (x0:List D) (x1:Int) (k:List D→Option R):Option R:=
 (Z45 x0 x1).bind (fun y0=>
 bif decide (y0=(-1:Int)) then
 k x0
 else
 (Z46 x1 y0 (IntKind.i64.wrap (y0+1)) x0).bind (fun y1=>
 if 0≤y1.fst∧y1.fst≤(↑y1.snd.length:Int)∧(↑y1.snd.length:Int)≤(↑y1.snd.length:Int) then
 if y1.fst.toNat+(y1.snd.length - y1.fst.toNat)≤y1.snd.length then
 if (0:Int)≤(0:Int)∧0≤y1.fst∧y1.fst≤(↑(List.take y1.fst.toNat y1.snd++List.replicate (y1.snd.length - y1.fst.toNat) (D.node [D.int 0,D.str bytes_0,D.int 0,D.int 0,D.int 0])++List.drop (y1.fst.toNat+(List.replicate (y1.snd.length - y1.fst.toNat) (D.node [D.int 0,D.str bytes_0,D.int 0,D.int 0,D.int 0])).length) y1.snd).length:Int) then
 if (0:Nat)+(y1.fst.toNat - (0:Nat))≤(List.take y1.fst.toNat y1.snd++List.replicate (y1.snd.length - y1.fst.toNat) (D.node [D.int 0,D.str bytes_0,D.int 0,D.int 0,D.int 0])++List.drop (y1.fst.toNat+(List.replicate (y1.snd.length - y1.fst.toNat) (D.node [D.int 0,D.str bytes_0,D.int 0,D.int 0,D.int 0])).length) y1.snd).length then
 k (List.take (y1.fst.toNat - (0:Nat)) (List.drop (0:Nat) (List.take y1.fst.toNat y1.snd++List.replicate (y1.snd.length - y1.fst.toNat) (D.node [D.int 0,D.str bytes_0,D.int 0,D.int 0,D.int 0])++List.drop (y1.fst.toNat+(List.replicate (y1.snd.length - y1.fst.toNat) (D.node [D.int 0,D.str bytes_0,D.int 0,D.int 0,D.int 0])).length) y1.snd)))
 else
 none
 else
 none
 else
 none
 else
 none))
theorem c_Z47_bind {R:Type} (x0:List D) (x1:Int) (k:List D→Option R):c_Z47 x0 x1 k=(c_Z47 x0 x1 some).bind k:=by
 unfold c_Z47
 repeat' first
  | exact JH
  | exact JG
  | exact JF
  | apply JC
  | apply JD
  | apply JI
  | (apply JE; intro _)
  | intro _
def Z47 (x0:List D) (x1:Int):Option (List D):=c_Z47 x0 x1 some
def e_Z47:Ent:=⟨55,[.own (.struct [.int .i64,.str,.int .i64,.int .i64,.int .i64]),.fn 56 [.rp (.int .i64)]],[(.own (.struct [.int .i64,.str,.int .i64,.int .i64,.int .i64]),[.undef,.undef])],fun _ ds k=>dL (fun x0 ds=>dI (fun x1 ds=>dE ((Z47 x0 x1).bind (fun y=>k 0 [.L y])) ds) ds) ds⟩
theorem q_Z47 (x0:List D) (x1:Int):J5 (Jv [e_Z45]) (Jw [e_Z46]) A 55 Try.f55 (Sh.mks e_Z47.sh [.L x0,.I x1]).1 (fun v os=>some (v,os))=c_Z47 x0 x1 (fun y=>J9 e_Z47 0 [.L y]):=by kernel_rfl
theorem e_Z47_ok:e_Z47.ok Try.prog A:=by
 intro R ds k r h
 unfold e_Z47 at h
 obtain ⟨_,_,rfl,h⟩:=Jd h
 obtain ⟨_,_,rfl,h⟩:=Ja h
 obtain ⟨rfl,hE⟩:=Jg h
 obtain ⟨y,hy,hk⟩:=Jh hE
 exact ⟨0,_,_,_,hk,rfl,Qa px (fx:=⟨Try.func55,by kernel_rfl,by kernel_rfl⟩) (JR e_Z45_ok Js) (Jx e_Z46_ok Jt) ((q_Z47 ..).trans ((c_Z47_bind ..).trans (Jj hy)))⟩

/-!-/
def c_Z48 {R:Type} (x0:List D) (x1:Int) (k:List D×Bool→Option R):Option R:=
 (Z41 x0).bind (fun y0=>
 bif !y0 then
 k ([],Bool.false)
 else
 (Z29 x1).bind (fun y1=>
 bif !y1 then
 k ([],Bool.false)
 else
 (Z42 x0).bind (fun y2=>
 (Z47 y2 x1).bind (fun y3=>
 k (y3,Bool.true)))))
theorem c_Z48_bind {R:Type} (x0:List D) (x1:Int) (k:List D×Bool→Option R):c_Z48 x0 x1 k=(c_Z48 x0 x1 some).bind k:=by
 unfold c_Z48
 repeat' first
  | exact JH
  | exact JG
  | exact JF
  | apply JC
  | apply JD
  | apply JI
  | (apply JE; intro _)
  | intro _
def Z48 (x0:List D) (x1:Int):Option (List D×Bool):=c_Z48 x0 x1 some
def e_Z48:Ent:=⟨37,[.rd (.struct [.int .i64,.str,.int .i64,.int .i64,.int .i64]),.int .i64],[(.tup [.own (.struct [.int .i64,.str,.int .i64,.int .i64,.int .i64]),.bool],[.undef,.undef])],fun _ ds k=>dL (fun x0 ds=>dI (fun x1 ds=>dE ((Z48 x0 x1).bind (fun y=>k 0 [.L y.1,.B y.2])) ds) ds) ds⟩
theorem q_Z48 (x0:List D) (x1:Int):J5 (Jv [e_Z41,e_Z29,e_Z42,e_Z47]) (Jw []) A 37 Try.f37 (Sh.mks e_Z48.sh [.L x0,.I x1]).1 (fun v os=>some (v,os))=c_Z48 x0 x1 (fun y=>J9 e_Z48 0 [.L y.1,.B y.2]):=by kernel_rfl
theorem e_Z48_ok:e_Z48.ok Try.prog A:=by
 intro R ds k r h
 unfold e_Z48 at h
 obtain ⟨_,_,rfl,h⟩:=Jd h
 obtain ⟨_,_,rfl,h⟩:=Ja h
 obtain ⟨rfl,hE⟩:=Jg h
 obtain ⟨y,hy,hk⟩:=Jh hE
 exact ⟨0,_,_,_,hk,rfl,Qa px (fx:=⟨Try.func37,by kernel_rfl,by kernel_rfl⟩) (JR e_Z41_ok (JR e_Z29_ok (JR e_Z42_ok (JR e_Z47_ok Js)))) Jt ((q_Z48 ..).trans ((c_Z48_bind ..).trans (Jj hy)))⟩

/-!-/
abbrev T_Z49:=List D→Int→Int→List D→Option (List D)
def c_Z49 {R:Type} (F:T_Z49) (x0:List D) (x1 x2:Int) (x3:List D) (k:List D→Option R):Option R:=
 bif decide (x2<x1) then
 if 0≤x2∧x2<(↑x0.length:Int) then
 if x3.length+[D.str ((x0.getD x2.toNat (D.int 0)).fld (1:Nat)).toStr].length≤(4294967296:Nat) then
 (F x0 x1 (IntKind.i64.wrap (x2+1)) (x3++[D.str ((x0.getD x2.toNat (D.int 0)).fld (1:Nat)).toStr])).bind k
 else
 none
 else
 none
 else
 k x3
theorem c_Z49_bind {R:Type} (F:T_Z49) (x0:List D) (x1 x2:Int) (x3:List D) (k:List D→Option R):c_Z49 F x0 x1 x2 x3 k=(c_Z49 F x0 x1 x2 x3 some).bind k:=by
 unfold c_Z49
 repeat' first
  | exact JH
  | exact JG
  | exact JF
  | apply JC
  | apply JD
  | apply JI
  | (apply JE; intro _)
  | intro _
def n_Z49:Nat→T_Z49
 | 0,_,_,_,_=>none
 | n+1,x0,x1,x2,x3=>c_Z49 (n_Z49 n) x0 x1 x2 x3 some
noncomputable def Z49 (x0:List D) (x1 x2:Int) (x3:List D):Option (List D):=ev (fun n=>n_Z49 n x0 x1 x2 x3)
def m_Z49 (F:T_Z49):Jz:=⟨3,⟨(.undef::.undef::.undef::.full 1000 [] (.str)::.undef::.undef::.undef::.rd (.struct [.int .i64,.str,.int .i64,.int .i64,.int .i64])::.int .i64::.int .i64::uu 13 ([])),[(1000,.own (.str))]⟩,[(.exit 0,⟨(.undef::.undef::.undef::.full 1000 [] (.str)::uu 19 ([])),[(1000,.own (.str))]⟩)],fun _ ds k=>dL (fun x0 ds=>dI (fun x1 ds=>dI (fun x2 ds=>dL (fun x3 ds=>dE ((F x0 x1 x2 x3).bind (fun y=>k 0 [.L y])) ds) ds) ds) ds) ds⟩
theorem q_Z49 (F:T_Z49) (x0:List D) (x1 x2:Int) (x3:List D):Qg (Jv []) (Jw [m_Z49 F]) A 31 (Jm (Jl Try.f31) 3) ((m_Z49 F).sh.mk' [.L x0,.I x1,.I x2,.L x3]) (fun e σ'=>some (e,σ'))=c_Z49 F x0 x1 x2 x3 (fun y=>some (.exit 0,SSt.mk' ⟨(.undef::.undef::.undef::.full 1000 [] (.str)::uu 19 ([])),[(1000,.own (.str))]⟩ [.L y])):=by kernel_rfl
theorem m_Z49_ok:∀ n,(m_Z49 (n_Z49 n)).ok Try.prog (Jm (Jl Try.f31) 3):=by
 intro n
 induction n with
 | zero=>
  intro R ds k r h
  unfold m_Z49 at h
  obtain ⟨_,_,rfl,h⟩:=Jd h
  obtain ⟨_,_,rfl,h⟩:=Ja h
  obtain ⟨_,_,rfl,h⟩:=Ja h
  obtain ⟨_,_,rfl,h⟩:=Jd h
  obtain ⟨rfl,hE⟩:=Jg h
  obtain ⟨y,hy,hk⟩:=Jh hE
  cases hy
 | succ n ih=>
  intro R ds k r h
  unfold m_Z49 at h
  obtain ⟨_,_,rfl,h⟩:=Jd h
  obtain ⟨_,_,rfl,h⟩:=Ja h
  obtain ⟨_,_,rfl,h⟩:=Ja h
  obtain ⟨_,_,rfl,h⟩:=Jd h
  obtain ⟨rfl,hE⟩:=Jg h
  obtain ⟨y,hy,hk⟩:=Jh hE
  exact ⟨0,_,_,_,hk,rfl,J6 px (fx:=⟨Try.func31,by kernel_rfl,by kernel_rfl⟩) Js (Jx ih Jt) (by kernel_rfl) ((q_Z49 ..).trans ((c_Z49_bind ..).trans (Jj hy)))⟩
noncomputable def e_Z49:Jz:=m_Z49 (Z49)
theorem e_Z49_ok:(e_Z49).ok Try.prog (Jm (Jl Try.f31) 3):=by
 intro R ds k r h
 unfold e_Z49 m_Z49 at h
 obtain ⟨_,_,rfl,h⟩:=Jd h
 obtain ⟨_,_,rfl,h⟩:=Ja h
 obtain ⟨_,_,rfl,h⟩:=Ja h
 obtain ⟨_,_,rfl,h⟩:=Jd h
 obtain ⟨rfl,hE⟩:=Jg h
 obtain ⟨y,hy,hk⟩:=Jh hE
 obtain ⟨n,hn⟩:=Qh hy
 exact m_Z49_ok n R _ k r ((Jj hn).trans hk)

/-!-/
def Z50 (x0:List D):Option (List D):=WQ x0
def e_Z50:Ent:=K7 52
theorem e_Z50_ok:e_Z50.ok Try.prog A:=vc lays190 rfl ⟨_,Try.func52,by kernel_rfl,by kernel_rfl⟩ (by kernel_rfl)

/-!-/
abbrev T_Z51:=Int→Nat→Nat→Int→List D→Option (Int×List D)
def c_Z51 {R:Type} (F:T_Z51) (x0:Int) (x1 x2:Nat) (x3:Int) (x4:List D) (k:Int×List D→Option R):Option R:=
 bif decide (x3<(↑x2:Int)) then
 if 0≤x3∧x3<(↑x2:Int) then
 if x1+x2≤x4.length then
 if x1+x3.toNat+1≤x4.length then
 if (0:Int)≤IntKind.i64.wrap (x3 - 1)∧IntKind.i64.wrap (x3 - 1)<(↑x2:Int) then
 if x1+x2≤x4.length then
 if x1+(IntKind.i64.wrap (x3 - 1)).toNat+1≤x4.length then
 bif !(x4.getD (x1+x3.toNat) (D.int 0)).toStr.toList==(x4.getD (x1+(IntKind.i64.wrap (x3 - 1)).toNat) (D.int 0)).toStr.toList then
 if 0≤x3∧x3<(↑x2:Int) then
 if x1+x2≤x4.length then
 if x1+x3.toNat+1≤x4.length then
 if 0≤x0∧x0<(↑x4.length:Int) then
 if x0.toNat+1≤x4.length then
 (F (IntKind.i64.wrap (x0+1)) x1 x2 (IntKind.i64.wrap (x3+1)) (x4.set x0.toNat (D.str (x4.getD (x1+x3.toNat) (D.int 0)).toStr))).bind k
 else
 none
 else
 none
 else
 none
 else
 none
 else
 none
 else
 (F x0 x1 x2 (IntKind.i64.wrap (x3+1)) x4).bind k
 else
 none
 else
 none
 else
 none
 else
 none
 else
 none
 else
 none
 else
 k (x0,x4)
theorem c_Z51_bind {R:Type} (F:T_Z51) (x0:Int) (x1 x2:Nat) (x3:Int) (x4:List D) (k:Int×List D→Option R):c_Z51 F x0 x1 x2 x3 x4 k=(c_Z51 F x0 x1 x2 x3 x4 some).bind k:=by
 unfold c_Z51
 repeat' first
  | exact JH
  | exact JG
  | exact JF
  | apply JC
  | apply JD
  | apply JI
  | (apply JE; intro _)
  | intro _
def n_Z51:Nat→T_Z51
 | 0,_,_,_,_,_=>none
 | n+1,x0,x1,x2,x3,x4=>c_Z51 (n_Z51 n) x0 x1 x2 x3 x4 some
noncomputable def Z51 (x0:Int) (x1 x2:Nat) (x3:Int) (x4:List D):Option (Int×List D):=ev (fun n=>n_Z51 n x0 x1 x2 x3 x4)
def m_Z51 (F:T_Z51):Jz:=⟨9,⟨(.full 1000 [] (.str)::.undef::.undef::.int .i64::.sub 1000 [] (.str)::.int .i64::uu 55 ([])),[(1000,.own (.str))]⟩,[(.exit 2,⟨(.full 1000 [] (.str)::.undef::.undef::.int .i64::uu 57 ([])),[(1000,.own (.str))]⟩)],fun _ ds k=>dI (fun x0 ds=>dN (fun x1 ds=>dN (fun x2 ds=>dI (fun x3 ds=>dL (fun x4 ds=>dE ((F x0 x1 x2 x3 x4).bind (fun y=>k 0 [.I y.1,.L y.2])) ds) ds) ds) ds) ds) ds⟩
theorem q_Z51 (F:T_Z51) (x0:Int) (x1 x2:Nat) (x3:Int) (x4:List D):Qg (Jv []) (Jw [m_Z51 F]) A 53 (Jm (Jl Try.f53) 9) ((m_Z51 F).sh.mk' [.I x0,.N x1,.N x2,.I x3,.L x4]) (fun e σ'=>some (e,σ'))=c_Z51 F x0 x1 x2 x3 x4 (fun y=>some (.exit 2,SSt.mk' ⟨(.full 1000 [] (.str)::.undef::.undef::.int .i64::uu 57 ([])),[(1000,.own (.str))]⟩ [.I y.1,.L y.2])):=by kernel_rfl
theorem m_Z51_ok:∀ n,(m_Z51 (n_Z51 n)).ok Try.prog (Jm (Jl Try.f53) 9):=by
 intro n
 induction n with
 | zero=>
  intro R ds k r h
  unfold m_Z51 at h
  obtain ⟨_,_,rfl,h⟩:=Ja h
  obtain ⟨_,_,rfl,h⟩:=HQ h
  obtain ⟨_,_,rfl,h⟩:=HQ h
  obtain ⟨_,_,rfl,h⟩:=Ja h
  obtain ⟨_,_,rfl,h⟩:=Jd h
  obtain ⟨rfl,hE⟩:=Jg h
  obtain ⟨y,hy,hk⟩:=Jh hE
  cases hy
 | succ n ih=>
  intro R ds k r h
  unfold m_Z51 at h
  obtain ⟨_,_,rfl,h⟩:=Ja h
  obtain ⟨_,_,rfl,h⟩:=HQ h
  obtain ⟨_,_,rfl,h⟩:=HQ h
  obtain ⟨_,_,rfl,h⟩:=Ja h
  obtain ⟨_,_,rfl,h⟩:=Jd h
  obtain ⟨rfl,hE⟩:=Jg h
  obtain ⟨y,hy,hk⟩:=Jh hE
  exact ⟨0,_,_,_,hk,rfl,J6 px (fx:=⟨Try.func53,by kernel_rfl,by kernel_rfl⟩) Js (Jx ih Jt) (by kernel_rfl) ((q_Z51 ..).trans ((c_Z51_bind ..).trans (Jj hy)))⟩
noncomputable def e_Z51:Jz:=m_Z51 (Z51)
theorem e_Z51_ok:(e_Z51).ok Try.prog (Jm (Jl Try.f53) 9):=by
 intro R ds k r h
 unfold e_Z51 m_Z51 at h
 obtain ⟨_,_,rfl,h⟩:=Ja h
 obtain ⟨_,_,rfl,h⟩:=HQ h
 obtain ⟨_,_,rfl,h⟩:=HQ h
 obtain ⟨_,_,rfl,h⟩:=Ja h
 obtain ⟨_,_,rfl,h⟩:=Jd h
 obtain ⟨rfl,hE⟩:=Jg h
 obtain ⟨y,hy,hk⟩:=Jh hE
 obtain ⟨n,hn⟩:=Qh hy
 exact m_Z51_ok n R _ k r ((Jj hn).trans hk)

/-!-/
abbrev T_Z52:=Int→List D→Option ((Nat×Nat×List D)⊕(List D))
def c_Z52 {R:Type} (F:T_Z52) (x0:Int) (x1:List D) (k:(Nat×Nat×List D)⊕(List D)→Option R):Option R:=
 bif decide (x0<(↑x1.length:Int)) then
 if 0≤x0∧x0<(↑x1.length:Int) then
 if x0.toNat+1≤x1.length then
 if (0:Int)≤IntKind.i64.wrap (x0 - 1)∧IntKind.i64.wrap (x0 - 1)<(↑x1.length:Int) then
 if (IntKind.i64.wrap (x0 - 1)).toNat+1≤x1.length then
 bif (x1.getD x0.toNat (D.int 0)).toStr.toList==(x1.getD (IntKind.i64.wrap (x0 - 1)).toNat (D.int 0)).toStr.toList then
 if 0≤x0∧x0≤(↑x1.length:Int)∧(↑x1.length:Int)≤(↑x1.length:Int) then
 (Z51 x0 x0.toNat (x1.length - x0.toNat) (1:Int) x1).bind (fun y0=>
 if 0≤y0.fst∧y0.fst≤(↑y0.snd.length:Int)∧(↑y0.snd.length:Int)≤(↑y0.snd.length:Int) then
 if y0.fst.toNat+(y0.snd.length - y0.fst.toNat)≤y0.snd.length then
 if (0:Int)≤(0:Int)∧0≤y0.fst∧y0.fst≤(↑(List.take y0.fst.toNat y0.snd++List.replicate (y0.snd.length - y0.fst.toNat) (D.str bytes_0)++List.drop (y0.fst.toNat+(List.replicate (y0.snd.length - y0.fst.toNat) (D.str bytes_0)).length) y0.snd).length:Int) then
 k (.inl ((0:Nat),y0.fst.toNat - (0:Nat),List.take y0.fst.toNat y0.snd++List.replicate (y0.snd.length - y0.fst.toNat) (D.str bytes_0)++List.drop (y0.fst.toNat+(List.replicate (y0.snd.length - y0.fst.toNat) (D.str bytes_0)).length) y0.snd))
 else
 none
 else
 none
 else
 none)
 else
 none
 else
 (F (IntKind.i64.wrap (x0+1)) x1).bind k
 else
 none
 else
 none
 else
 none
 else
 none
 else
 k (.inr x1)
theorem c_Z52_bind {R:Type} (F:T_Z52) (x0:Int) (x1:List D) (k:(Nat×Nat×List D)⊕(List D)→Option R):c_Z52 F x0 x1 k=(c_Z52 F x0 x1 some).bind k:=by
 unfold c_Z52
 repeat' first
  | exact JH
  | exact JG
  | exact JF
  | apply JC
  | apply JD
  | apply JI
  | (apply JE; intro _)
  | intro _
def n_Z52:Nat→T_Z52
 | 0,_,_=>none
 | n+1,x0,x1=>c_Z52 (n_Z52 n) x0 x1 some
noncomputable def Z52 (x0:Int) (x1:List D):Option ((Nat×Nat×List D)⊕(List D)):=ev (fun n=>n_Z52 n x0 x1)
def m_Z52 (F:T_Z52):Jz:=⟨4,⟨(.full 1000 [] (.str)::.undef::.undef::.int .i64::uu 57 ([])),[(1000,.own (.str))]⟩,[(.ret,⟨(.full 1000 [] (.str)::.undef::.sub 1000 [] (.str)::uu 58 ([])),[(1000,.own (.str))]⟩),(.exit 0,⟨(.full 1000 [] (.str)::uu 60 ([])),[(1000,.own (.str))]⟩)],fun _ ds k=>dI (fun x0 ds=>dL (fun x1 ds=>dE ((F x0 x1).bind (Sum.elim (fun y=>k 0 [.N y.1,.N y.2.1,.L y.2.2]) (fun y=>k 1 [.L y]))) ds) ds) ds⟩
theorem q_Z52 (F:T_Z52) (x0:Int) (x1:List D):Qg (Jv []) (Jw [m_Z52 F,e_Z51]) A 53 (Jm (Jl Try.f53) 4) ((m_Z52 F).sh.mk' [.I x0,.L x1]) (fun e σ'=>some (e,σ'))=c_Z52 F x0 x1 (Sum.elim (fun y=>some (.ret,SSt.mk' ⟨(.full 1000 [] (.str)::.undef::.sub 1000 [] (.str)::uu 58 ([])),[(1000,.own (.str))]⟩ [.N y.1,.N y.2.1,.L y.2.2])) (fun y=>some (.exit 0,SSt.mk' ⟨(.full 1000 [] (.str)::uu 60 ([])),[(1000,.own (.str))]⟩ [.L y]))):=by kernel_rfl
theorem m_Z52_ok:∀ n,(m_Z52 (n_Z52 n)).ok Try.prog (Jm (Jl Try.f53) 4):=by
 intro n
 induction n with
 | zero=>
  intro R ds k r h
  unfold m_Z52 at h
  obtain ⟨_,_,rfl,h⟩:=Ja h
  obtain ⟨_,_,rfl,h⟩:=Jd h
  obtain ⟨rfl,hE⟩:=Jg h
  obtain ⟨y,hy,hk⟩:=Jh hE
  cases hy
 | succ n ih=>
  intro R ds k r h
  unfold m_Z52 at h
  obtain ⟨_,_,rfl,h⟩:=Ja h
  obtain ⟨_,_,rfl,h⟩:=Jd h
  obtain ⟨rfl,hE⟩:=Jg h
  obtain ⟨y,hy,hk⟩:=Jh hE
  cases y with
  | inl y=>
   exact ⟨0,_,_,_,hk,rfl,J6 px (fx:=⟨Try.func53,by kernel_rfl,by kernel_rfl⟩) Js (Jx ih (Jx e_Z51_ok Jt)) (by kernel_rfl) ((q_Z52 ..).trans ((c_Z52_bind ..).trans (Jj hy)))⟩
  | inr y=>
   exact ⟨1,_,_,_,hk,rfl,J6 px (fx:=⟨Try.func53,by kernel_rfl,by kernel_rfl⟩) Js (Jx ih (Jx e_Z51_ok Jt)) (by kernel_rfl) ((q_Z52 ..).trans ((c_Z52_bind ..).trans (Jj hy)))⟩
noncomputable def e_Z52:Jz:=m_Z52 (Z52)
theorem e_Z52_ok:(e_Z52).ok Try.prog (Jm (Jl Try.f53) 4):=by
 intro R ds k r h
 unfold e_Z52 m_Z52 at h
 obtain ⟨_,_,rfl,h⟩:=Ja h
 obtain ⟨_,_,rfl,h⟩:=Jd h
 obtain ⟨rfl,hE⟩:=Jg h
 obtain ⟨y,hy,hk⟩:=Jh hE
 obtain ⟨n,hn⟩:=Qh hy
 exact m_Z52_ok n R _ k r ((Jj hn).trans hk)

/-!-/
def c_Z53 {R:Type} (x0:List D) (k:List D→Option R):Option R:=
 bif decide ((↑x0.length:Int)<(2:Int)) then
 k x0
 else
 (Z52 (1:Int) x0).bind (Sum.elim (fun y0=>
 if y0.fst+y0.snd.fst≤y0.snd.snd.length then
 k (List.take y0.snd.fst (List.drop y0.fst y0.snd.snd))
 else
 none) (fun y1=>
 k y1))
theorem c_Z53_bind {R:Type} (x0:List D) (k:List D→Option R):c_Z53 x0 k=(c_Z53 x0 some).bind k:=by
 unfold c_Z53
 repeat' first
  | exact JH
  | exact JG
  | exact JF
  | apply JC
  | apply JD
  | apply JI
  | (apply JE; intro _)
  | intro _
def Z53 (x0:List D):Option (List D):=c_Z53 x0 some
def e_Z53:Ent:=⟨53,[.own (.str)],[(.own (.str),[.undef])],fun _ ds k=>dL (fun x0 ds=>dE ((Z53 x0).bind (fun y=>k 0 [.L y])) ds) ds⟩
theorem q_Z53 (x0:List D):J5 (Jv []) (Jw [e_Z52]) A 53 Try.f53 (Sh.mks e_Z53.sh [.L x0]).1 (fun v os=>some (v,os))=c_Z53 x0 (fun y=>J9 e_Z53 0 [.L y]):=by kernel_rfl
theorem e_Z53_ok:e_Z53.ok Try.prog A:=by
 intro R ds k r h
 unfold e_Z53 at h
 obtain ⟨_,_,rfl,h⟩:=Jd h
 obtain ⟨rfl,hE⟩:=Jg h
 obtain ⟨y,hy,hk⟩:=Jh hE
 exact ⟨0,_,_,_,hk,rfl,Qa px (fx:=⟨Try.func53,by kernel_rfl,by kernel_rfl⟩) Js (Jx e_Z52_ok Jt) ((q_Z53 ..).trans ((c_Z53_bind ..).trans (Jj hy)))⟩

/-!-/
def c_Z54 {R:Type} (x0:List D) (k:List D→Option R):Option R:=
 (Z49 x0 (↑x0.length:Int) (0:Int) []).bind (fun y0=>
 (Z50 y0).bind (fun y1=>
 (Z53 y1).bind (fun y2=>
 k y2)))
theorem c_Z54_bind {R:Type} (x0:List D) (k:List D→Option R):c_Z54 x0 k=(c_Z54 x0 some).bind k:=by
 unfold c_Z54
 repeat' first
  | exact JH
  | exact JG
  | exact JF
  | apply JC
  | apply JD
  | apply JI
  | (apply JE; intro _)
  | intro _
def Z54 (x0:List D):Option (List D):=c_Z54 x0 some
def e_Z54:Ent:=⟨31,[.rd (.struct [.int .i64,.str,.int .i64,.int .i64,.int .i64])],[(.own (.str),[.undef])],fun _ ds k=>dL (fun x0 ds=>dE ((Z54 x0).bind (fun y=>k 0 [.L y])) ds) ds⟩
theorem q_Z54 (x0:List D):J5 (Jv [e_Z50,e_Z53]) (Jw [e_Z49]) A 31 Try.f31 (Sh.mks e_Z54.sh [.L x0]).1 (fun v os=>some (v,os))=c_Z54 x0 (fun y=>J9 e_Z54 0 [.L y]):=by kernel_rfl
theorem e_Z54_ok:e_Z54.ok Try.prog A:=by
 intro R ds k r h
 unfold e_Z54 at h
 obtain ⟨_,_,rfl,h⟩:=Jd h
 obtain ⟨rfl,hE⟩:=Jg h
 obtain ⟨y,hy,hk⟩:=Jh hE
 exact ⟨0,_,_,_,hk,rfl,Qa px (fx:=⟨Try.func31,by kernel_rfl,by kernel_rfl⟩) (JR e_Z50_ok (JR e_Z53_ok Js)) (Jx e_Z49_ok Jt) ((q_Z54 ..).trans ((c_Z54_bind ..).trans (Jj hy)))⟩

/-!-/
abbrev T_Z55:=List D→ByteArray→Int→Int→Option ((Int)⊕(Unit))
def c_Z55 {R:Type} (F:T_Z55) (x0:List D) (x1:ByteArray) (x2 x3:Int) (k:(Int)⊕(Unit)→Option R):Option R:=
 bif decide (x3<x2) then
 if 0≤x3∧x3<(↑x0.length:Int) then
 bif x1.toList==(x0.getD x3.toNat (D.int 0)).toStr.toList then
 k (.inl x3)
 else
 (F x0 x1 x2 (IntKind.i64.wrap (x3+1))).bind k
 else
 none
 else
 k (.inr ())
theorem c_Z55_bind {R:Type} (F:T_Z55) (x0:List D) (x1:ByteArray) (x2 x3:Int) (k:(Int)⊕(Unit)→Option R):c_Z55 F x0 x1 x2 x3 k=(c_Z55 F x0 x1 x2 x3 some).bind k:=by
 unfold c_Z55
 repeat' first
  | exact JH
  | exact JG
  | exact JF
  | apply JC
  | apply JD
  | apply JI
  | (apply JE; intro _)
  | intro _
def n_Z55:Nat→T_Z55
 | 0,_,_,_,_=>none
 | n+1,x0,x1,x2,x3=>c_Z55 (n_Z55 n) x0 x1 x2 x3 some
noncomputable def Z55 (x0:List D) (x1:ByteArray) (x2 x3:Int):Option ((Int)⊕(Unit)):=ev (fun n=>n_Z55 n x0 x1 x2 x3)
def m_Z55 (F:T_Z55):Jz:=⟨2,⟨(.rd (.str)::.str::uu 5 (.int .i64::.int .i64::uu 10 ([]))),[]⟩,[(.ret,⟨(uu 4 (.int .i64::uu 14 ([]))),[]⟩),(.exit 0,⟨(uu 19 ([])),[]⟩)],fun _ ds k=>dL (fun x0 ds=>dS (fun x1 ds=>dI (fun x2 ds=>dI (fun x3 ds=>dE ((F x0 x1 x2 x3).bind (Sum.elim (fun y=>k 0 [.I y]) (fun y=>k 1 []))) ds) ds) ds) ds) ds⟩
theorem q_Z55 (F:T_Z55) (x0:List D) (x1:ByteArray) (x2 x3:Int):Qg (Jv []) (Jw [m_Z55 F]) A 43 (Jm (Jl Try.f43) 2) ((m_Z55 F).sh.mk' [.L x0,.S x1,.I x2,.I x3]) (fun e σ'=>some (e,σ'))=c_Z55 F x0 x1 x2 x3 (Sum.elim (fun y=>some (.ret,SSt.mk' ⟨(uu 4 (.int .i64::uu 14 ([]))),[]⟩ [.I y])) (fun y=>some (.exit 0,SSt.mk' ⟨(uu 19 ([])),[]⟩ []))):=by kernel_rfl
theorem m_Z55_ok:∀ n,(m_Z55 (n_Z55 n)).ok Try.prog (Jm (Jl Try.f43) 2):=by
 intro n
 induction n with
 | zero=>
  intro R ds k r h
  unfold m_Z55 at h
  obtain ⟨_,_,rfl,h⟩:=Jd h
  obtain ⟨_,_,rfl,h⟩:=QI h
  obtain ⟨_,_,rfl,h⟩:=Ja h
  obtain ⟨_,_,rfl,h⟩:=Ja h
  obtain ⟨rfl,hE⟩:=Jg h
  obtain ⟨y,hy,hk⟩:=Jh hE
  cases hy
 | succ n ih=>
  intro R ds k r h
  unfold m_Z55 at h
  obtain ⟨_,_,rfl,h⟩:=Jd h
  obtain ⟨_,_,rfl,h⟩:=QI h
  obtain ⟨_,_,rfl,h⟩:=Ja h
  obtain ⟨_,_,rfl,h⟩:=Ja h
  obtain ⟨rfl,hE⟩:=Jg h
  obtain ⟨y,hy,hk⟩:=Jh hE
  cases y with
  | inl y=>
   exact ⟨0,_,_,_,hk,rfl,J6 px (fx:=⟨Try.func43,by kernel_rfl,by kernel_rfl⟩) Js (Jx ih Jt) (by kernel_rfl) ((q_Z55 ..).trans ((c_Z55_bind ..).trans (Jj hy)))⟩
  | inr y=>
   exact ⟨1,_,_,_,hk,rfl,J6 px (fx:=⟨Try.func43,by kernel_rfl,by kernel_rfl⟩) Js (Jx ih Jt) (by kernel_rfl) ((q_Z55 ..).trans ((c_Z55_bind ..).trans (Jj hy)))⟩
noncomputable def e_Z55:Jz:=m_Z55 (Z55)
theorem e_Z55_ok:(e_Z55).ok Try.prog (Jm (Jl Try.f43) 2):=by
 intro R ds k r h
 unfold e_Z55 m_Z55 at h
 obtain ⟨_,_,rfl,h⟩:=Jd h
 obtain ⟨_,_,rfl,h⟩:=QI h
 obtain ⟨_,_,rfl,h⟩:=Ja h
 obtain ⟨_,_,rfl,h⟩:=Ja h
 obtain ⟨rfl,hE⟩:=Jg h
 obtain ⟨y,hy,hk⟩:=Jh hE
 obtain ⟨n,hn⟩:=Qh hy
 exact m_Z55_ok n R _ k r ((Jj hn).trans hk)

/-!-/
def c_Z56 {R:Type} (x0:List D) (x1:ByteArray) (k:Int→Option R):Option R:=
 (Z55 x0 x1 (↑x0.length:Int) (0:Int)).bind (Sum.elim (fun y0=>
 k y0) (fun y1=>
 k (-1:Int)))
theorem c_Z56_bind {R:Type} (x0:List D) (x1:ByteArray) (k:Int→Option R):c_Z56 x0 x1 k=(c_Z56 x0 x1 some).bind k:=by
 unfold c_Z56
 repeat' first
  | exact JH
  | exact JG
  | exact JF
  | apply JC
  | apply JD
  | apply JI
  | (apply JE; intro _)
  | intro _
def Z56 (x0:List D) (x1:ByteArray):Option (Int):=c_Z56 x0 x1 some
def e_Z56:Ent:=⟨43,[.rd (.str),.str],[(.int .i64,[.undef,.undef])],fun _ ds k=>dL (fun x0 ds=>dS (fun x1 ds=>dE ((Z56 x0 x1).bind (fun y=>k 0 [.I y])) ds) ds) ds⟩
theorem q_Z56 (x0:List D) (x1:ByteArray):J5 (Jv []) (Jw [e_Z55]) A 43 Try.f43 (Sh.mks e_Z56.sh [.L x0,.S x1]).1 (fun v os=>some (v,os))=c_Z56 x0 x1 (fun y=>J9 e_Z56 0 [.I y]):=by kernel_rfl
theorem e_Z56_ok:e_Z56.ok Try.prog A:=by
 intro R ds k r h
 unfold e_Z56 at h
 obtain ⟨_,_,rfl,h⟩:=Jd h
 obtain ⟨_,_,rfl,h⟩:=QI h
 obtain ⟨rfl,hE⟩:=Jg h
 obtain ⟨y,hy,hk⟩:=Jh hE
 exact ⟨0,_,_,_,hk,rfl,Qa px (fx:=⟨Try.func43,by kernel_rfl,by kernel_rfl⟩) Js (Jx e_Z55_ok Jt) ((q_Z56 ..).trans ((c_Z56_bind ..).trans (Jj hy)))⟩

/-!-/
abbrev T_Z57:=Int→Int→List D→List D→List D→Option (List D)
def c_Z57 {R:Type} (F:T_Z57) (x0 x1:Int) (x2 x3 x4:List D) (k:List D→Option R):Option R:=
 bif decide (x1<x0) then
 if 0≤x1∧x1<(↑x4.length:Int) then
 if x1.toNat+1≤x4.length then
 (Z56 x2 (((x4.getD x1.toNat (D.int 0)).fld (1:Nat)).toStr)).bind (fun y0=>
 if 0≤y0∧y0<(↑x3.length:Int) then
 if y0.toNat+1≤x3.length then
 (F x0 (IntKind.i64.wrap (x1+1)) x2 (x3.set y0.toNat (D.int ((x4.getD x1.toNat (D.int 0)).fld (2:Nat)).toInt)) x4).bind k
 else
 none
 else
 none)
 else
 none
 else
 none
 else
 k x3
theorem c_Z57_bind {R:Type} (F:T_Z57) (x0 x1:Int) (x2 x3 x4:List D) (k:List D→Option R):c_Z57 F x0 x1 x2 x3 x4 k=(c_Z57 F x0 x1 x2 x3 x4 some).bind k:=by
 unfold c_Z57
 repeat' first
  | exact JH
  | exact JG
  | exact JF
  | apply JC
  | apply JD
  | apply JI
  | (apply JE; intro _)
  | intro _
def n_Z57:Nat→T_Z57
 | 0,_,_,_,_,_=>none
 | n+1,x0,x1,x2,x3,x4=>c_Z57 (n_Z57 n) x0 x1 x2 x3 x4 some
noncomputable def Z57 (x0 x1:Int) (x2 x3 x4:List D):Option (List D):=ev (fun n=>n_Z57 n x0 x1 x2 x3 x4)
def m_Z57 (F:T_Z57):Jz:=⟨7,⟨(uu 8 (.full 1000 [] (.str)::.full 1001 [] (.int .i64)::uu 20 (.full 1002 [] (.struct [.int .i64,.str,.int .i64,.int .i64,.int .i64])::.int .i64::.int .i64::uu 14 ([])))),[(1000,.own (.str)),(1001,.own (.int .i64)),(1002,.own (.struct [.int .i64,.str,.int .i64,.int .i64,.int .i64]))]⟩,[(.exit 0,⟨(uu 9 (.full 1000 [] (.int .i64)::uu 37 ([]))),[(1000,.own (.int .i64))]⟩)],fun _ ds k=>dI (fun x0 ds=>dI (fun x1 ds=>dL (fun x2 ds=>dL (fun x3 ds=>dL (fun x4 ds=>dE ((F x0 x1 x2 x3 x4).bind (fun y=>k 0 [.L y])) ds) ds) ds) ds) ds) ds⟩
theorem q_Z57 (F:T_Z57) (x0 x1:Int) (x2 x3 x4:List D):Qg (Jv [e_Z56]) (Jw [m_Z57 F]) A 19 (Jm (Jl Try.f19) 7) ((m_Z57 F).sh.mk' [.I x0,.I x1,.L x2,.L x3,.L x4]) (fun e σ'=>some (e,σ'))=c_Z57 F x0 x1 x2 x3 x4 (fun y=>some (.exit 0,SSt.mk' ⟨(uu 9 (.full 1000 [] (.int .i64)::uu 37 ([]))),[(1000,.own (.int .i64))]⟩ [.L y])):=by kernel_rfl
theorem m_Z57_ok:∀ n,(m_Z57 (n_Z57 n)).ok Try.prog (Jm (Jl Try.f19) 7):=by
 intro n
 induction n with
 | zero=>
  intro R ds k r h
  unfold m_Z57 at h
  obtain ⟨_,_,rfl,h⟩:=Ja h
  obtain ⟨_,_,rfl,h⟩:=Ja h
  obtain ⟨_,_,rfl,h⟩:=Jd h
  obtain ⟨_,_,rfl,h⟩:=Jd h
  obtain ⟨_,_,rfl,h⟩:=Jd h
  obtain ⟨rfl,hE⟩:=Jg h
  obtain ⟨y,hy,hk⟩:=Jh hE
  cases hy
 | succ n ih=>
  intro R ds k r h
  unfold m_Z57 at h
  obtain ⟨_,_,rfl,h⟩:=Ja h
  obtain ⟨_,_,rfl,h⟩:=Ja h
  obtain ⟨_,_,rfl,h⟩:=Jd h
  obtain ⟨_,_,rfl,h⟩:=Jd h
  obtain ⟨_,_,rfl,h⟩:=Jd h
  obtain ⟨rfl,hE⟩:=Jg h
  obtain ⟨y,hy,hk⟩:=Jh hE
  exact ⟨0,_,_,_,hk,rfl,J6 px (fx:=⟨Try.func19,by kernel_rfl,by kernel_rfl⟩) (JR e_Z56_ok Js) (Jx ih Jt) (by kernel_rfl) ((q_Z57 ..).trans ((c_Z57_bind ..).trans (Jj hy)))⟩
noncomputable def e_Z57:Jz:=m_Z57 (Z57)
theorem e_Z57_ok:(e_Z57).ok Try.prog (Jm (Jl Try.f19) 7):=by
 intro R ds k r h
 unfold e_Z57 m_Z57 at h
 obtain ⟨_,_,rfl,h⟩:=Ja h
 obtain ⟨_,_,rfl,h⟩:=Ja h
 obtain ⟨_,_,rfl,h⟩:=Jd h
 obtain ⟨_,_,rfl,h⟩:=Jd h
 obtain ⟨_,_,rfl,h⟩:=Jd h
 obtain ⟨rfl,hE⟩:=Jg h
 obtain ⟨y,hy,hk⟩:=Jh hE
 obtain ⟨n,hn⟩:=Qh hy
 exact m_Z57_ok n R _ k r ((Jj hn).trans hk)

/-!-/
abbrev T_Z58:=Int→List D→Int→Int→Option (Int)
def c_Z58 {R:Type} (F:T_Z58) (x0:Int) (x1:List D) (x2 x3:Int) (k:Int→Option R):Option R:=
 bif decide (x3<x2) then
 if 0≤x3∧x3<(↑x1.length:Int) then
 (F (IntKind.i64.wrap (x0+(x1.getD x3.toNat (D.int 0)).toInt)) x1 x2 (IntKind.i64.wrap (x3+1))).bind k
 else
 none
 else
 k x0
theorem c_Z58_bind {R:Type} (F:T_Z58) (x0:Int) (x1:List D) (x2 x3:Int) (k:Int→Option R):c_Z58 F x0 x1 x2 x3 k=(c_Z58 F x0 x1 x2 x3 some).bind k:=by
 unfold c_Z58
 repeat' first
  | exact JH
  | exact JG
  | exact JF
  | apply JC
  | apply JD
  | apply JI
  | (apply JE; intro _)
  | intro _
def n_Z58:Nat→T_Z58
 | 0,_,_,_,_=>none
 | n+1,x0,x1,x2,x3=>c_Z58 (n_Z58 n) x0 x1 x2 x3 some
noncomputable def Z58 (x0:Int) (x1:List D) (x2 x3:Int):Option (Int):=ev (fun n=>n_Z58 n x0 x1 x2 x3)
def m_Z58 (F:T_Z58):Jz:=⟨3,⟨(.undef::.undef::.undef::.int .i64::.undef::.undef::.rd (.int .i64)::.int .i64::.int .i64::uu 8 ([])),[]⟩,[(.exit 0,⟨(.undef::.undef::.undef::.int .i64::uu 13 ([])),[]⟩)],fun _ ds k=>dI (fun x0 ds=>dL (fun x1 ds=>dI (fun x2 ds=>dI (fun x3 ds=>dE ((F x0 x1 x2 x3).bind (fun y=>k 0 [.I y])) ds) ds) ds) ds) ds⟩
theorem q_Z58 (F:T_Z58) (x0:Int) (x1:List D) (x2 x3:Int):Qg (Jv []) (Jw [m_Z58 F]) A 58 (Jm (Jl Try.f58) 3) ((m_Z58 F).sh.mk' [.I x0,.L x1,.I x2,.I x3]) (fun e σ'=>some (e,σ'))=c_Z58 F x0 x1 x2 x3 (fun y=>some (.exit 0,SSt.mk' ⟨(.undef::.undef::.undef::.int .i64::uu 13 ([])),[]⟩ [.I y])):=by kernel_rfl
theorem m_Z58_ok:∀ n,(m_Z58 (n_Z58 n)).ok Try.prog (Jm (Jl Try.f58) 3):=by
 intro n
 induction n with
 | zero=>
  intro R ds k r h
  unfold m_Z58 at h
  obtain ⟨_,_,rfl,h⟩:=Ja h
  obtain ⟨_,_,rfl,h⟩:=Jd h
  obtain ⟨_,_,rfl,h⟩:=Ja h
  obtain ⟨_,_,rfl,h⟩:=Ja h
  obtain ⟨rfl,hE⟩:=Jg h
  obtain ⟨y,hy,hk⟩:=Jh hE
  cases hy
 | succ n ih=>
  intro R ds k r h
  unfold m_Z58 at h
  obtain ⟨_,_,rfl,h⟩:=Ja h
  obtain ⟨_,_,rfl,h⟩:=Jd h
  obtain ⟨_,_,rfl,h⟩:=Ja h
  obtain ⟨_,_,rfl,h⟩:=Ja h
  obtain ⟨rfl,hE⟩:=Jg h
  obtain ⟨y,hy,hk⟩:=Jh hE
  exact ⟨0,_,_,_,hk,rfl,J6 px (fx:=⟨Try.func58,by kernel_rfl,by kernel_rfl⟩) Js (Jx ih Jt) (by kernel_rfl) ((q_Z58 ..).trans ((c_Z58_bind ..).trans (Jj hy)))⟩
noncomputable def e_Z58:Jz:=m_Z58 (Z58)
theorem e_Z58_ok:(e_Z58).ok Try.prog (Jm (Jl Try.f58) 3):=by
 intro R ds k r h
 unfold e_Z58 m_Z58 at h
 obtain ⟨_,_,rfl,h⟩:=Ja h
 obtain ⟨_,_,rfl,h⟩:=Jd h
 obtain ⟨_,_,rfl,h⟩:=Ja h
 obtain ⟨_,_,rfl,h⟩:=Ja h
 obtain ⟨rfl,hE⟩:=Jg h
 obtain ⟨y,hy,hk⟩:=Jh hE
 obtain ⟨n,hn⟩:=Qh hy
 exact m_Z58_ok n R _ k r ((Jj hn).trans hk)

/-!-/
def c_Z59 {R:Type} (x0:List D) (k:Int→Option R):Option R:=
 (Z58 (0:Int) x0 (↑x0.length:Int) (0:Int)).bind (fun y0=>
 k y0)
theorem c_Z59_bind {R:Type} (x0:List D) (k:Int→Option R):c_Z59 x0 k=(c_Z59 x0 some).bind k:=by
 unfold c_Z59
 repeat' first
  | exact JH
  | exact JG
  | exact JF
  | apply JC
  | apply JD
  | apply JI
  | (apply JE; intro _)
  | intro _
def Z59 (x0:List D):Option (Int):=c_Z59 x0 some
def e_Z59:Ent:=⟨58,[.rd (.int .i64)],[(.int .i64,[.undef])],fun _ ds k=>dL (fun x0 ds=>dE ((Z59 x0).bind (fun y=>k 0 [.I y])) ds) ds⟩
theorem q_Z59 (x0:List D):J5 (Jv []) (Jw [e_Z58]) A 58 Try.f58 (Sh.mks e_Z59.sh [.L x0]).1 (fun v os=>some (v,os))=c_Z59 x0 (fun y=>J9 e_Z59 0 [.I y]):=by kernel_rfl
theorem e_Z59_ok:e_Z59.ok Try.prog A:=by
 intro R ds k r h
 unfold e_Z59 at h
 obtain ⟨_,_,rfl,h⟩:=Jd h
 obtain ⟨rfl,hE⟩:=Jg h
 obtain ⟨y,hy,hk⟩:=Jh hE
 exact ⟨0,_,_,_,hk,rfl,Qa px (fx:=⟨Try.func58,by kernel_rfl,by kernel_rfl⟩) Js (Jx e_Z58_ok Jt) ((q_Z59 ..).trans ((c_Z59_bind ..).trans (Jj hy)))⟩

/-!-/
abbrev T_Z60:=List D→Int→Int→List D→Int→List D→List D→Option (List D×Int×List D×List D)
def c_Z60 {R:Type} (F:T_Z60) (x0:List D) (x1 x2:Int) (x3:List D) (x4:Int) (x5 x6:List D) (k:List D×Int×List D×List D→Option R):Option R:=
 bif decide (x2<x1) then
 if 0≤x2∧x2<(↑x0.length:Int) then
 if x4≠(0:Int) then
 if x5.length+[D.int (IntKind.i64.wrap ((IntKind.i64.wrap ((1000:Int) * (x0.getD x2.toNat (D.int 0)).toInt)).tdiv x4))].length≤(4294967296:Nat) then
 if x6.length+[D.int x2].length≤(4294967296:Nat) then
 (F x0 x1 (IntKind.i64.wrap (x2+1)) x3 x4 (x5++[D.int (IntKind.i64.wrap ((IntKind.i64.wrap ((1000:Int) * (x0.getD x2.toNat (D.int 0)).toInt)).tdiv x4))]) (x6++[D.int x2])).bind k
 else
 none
 else
 none
 else
 none
 else
 none
 else
 k (x3,x4,x5,x6)
theorem c_Z60_bind {R:Type} (F:T_Z60) (x0:List D) (x1 x2:Int) (x3:List D) (x4:Int) (x5 x6:List D) (k:List D×Int×List D×List D→Option R):c_Z60 F x0 x1 x2 x3 x4 x5 x6 k=(c_Z60 F x0 x1 x2 x3 x4 x5 x6 some).bind k:=by
 unfold c_Z60
 repeat' first
  | exact JH
  | exact JG
  | exact JF
  | apply JC
  | apply JD
  | apply JI
  | (apply JE; intro _)
  | intro _
def n_Z60:Nat→T_Z60
 | 0,_,_,_,_,_,_,_=>none
 | n+1,x0,x1,x2,x3,x4,x5,x6=>c_Z60 (n_Z60 n) x0 x1 x2 x3 x4 x5 x6 some
noncomputable def Z60 (x0:List D) (x1 x2:Int) (x3:List D) (x4:Int) (x5 x6:List D):Option (List D×Int×List D×List D):=ev (fun n=>n_Z60 n x0 x1 x2 x3 x4 x5 x6)
def m_Z60 (F:T_Z60):Jz:=⟨5,⟨(.undef::.ptr 1000 [0]::.undef::.ptr 1001 [0]::.full 1002 [] (.int .i64)::.full 1003 [] (.int .i64)::uu 9 (.rd (.int .i64)::.int .i64::.int .i64::uu 38 ([]))),[(1000,.obox (.rd (.int .i64))),(1001,.obox (.int .i64)),(1002,.own (.int .i64)),(1003,.own (.int .i64))]⟩,[(.exit 0,⟨(.undef::.ptr 1000 [0]::.undef::.ptr 1001 [0]::.full 1002 [] (.int .i64)::.full 1003 [] (.int .i64)::uu 50 ([])),[(1000,.obox (.rd (.int .i64))),(1001,.obox (.int .i64)),(1002,.own (.int .i64)),(1003,.own (.int .i64))]⟩)],fun _ ds k=>dL (fun x0 ds=>dI (fun x1 ds=>dI (fun x2 ds=>dL (fun x3 ds=>dI (fun x4 ds=>dL (fun x5 ds=>dL (fun x6 ds=>dE ((F x0 x1 x2 x3 x4 x5 x6).bind (fun y=>k 0 [.L y.1,.I y.2.1,.L y.2.2.1,.L y.2.2.2])) ds) ds) ds) ds) ds) ds) ds) ds⟩
theorem q_Z60 (F:T_Z60) (x0:List D) (x1 x2:Int) (x3:List D) (x4:Int) (x5 x6:List D):Qg (Jv []) (Jw [m_Z60 F]) A 44 (Jm (Jl Try.f44) 5) ((m_Z60 F).sh.mk' [.L x0,.I x1,.I x2,.L x3,.I x4,.L x5,.L x6]) (fun e σ'=>some (e,σ'))=c_Z60 F x0 x1 x2 x3 x4 x5 x6 (fun y=>some (.exit 0,SSt.mk' ⟨(.undef::.ptr 1000 [0]::.undef::.ptr 1001 [0]::.full 1002 [] (.int .i64)::.full 1003 [] (.int .i64)::uu 50 ([])),[(1000,.obox (.rd (.int .i64))),(1001,.obox (.int .i64)),(1002,.own (.int .i64)),(1003,.own (.int .i64))]⟩ [.L y.1,.I y.2.1,.L y.2.2.1,.L y.2.2.2])):=by kernel_rfl
theorem m_Z60_ok:∀ n,(m_Z60 (n_Z60 n)).ok Try.prog (Jm (Jl Try.f44) 5):=by
 intro n
 induction n with
 | zero=>
  intro R ds k r h
  unfold m_Z60 at h
  obtain ⟨_,_,rfl,h⟩:=Jd h
  obtain ⟨_,_,rfl,h⟩:=Ja h
  obtain ⟨_,_,rfl,h⟩:=Ja h
  obtain ⟨_,_,rfl,h⟩:=Jd h
  obtain ⟨_,_,rfl,h⟩:=Ja h
  obtain ⟨_,_,rfl,h⟩:=Jd h
  obtain ⟨_,_,rfl,h⟩:=Jd h
  obtain ⟨rfl,hE⟩:=Jg h
  obtain ⟨y,hy,hk⟩:=Jh hE
  cases hy
 | succ n ih=>
  intro R ds k r h
  unfold m_Z60 at h
  obtain ⟨_,_,rfl,h⟩:=Jd h
  obtain ⟨_,_,rfl,h⟩:=Ja h
  obtain ⟨_,_,rfl,h⟩:=Ja h
  obtain ⟨_,_,rfl,h⟩:=Jd h
  obtain ⟨_,_,rfl,h⟩:=Ja h
  obtain ⟨_,_,rfl,h⟩:=Jd h
  obtain ⟨_,_,rfl,h⟩:=Jd h
  obtain ⟨rfl,hE⟩:=Jg h
  obtain ⟨y,hy,hk⟩:=Jh hE
  exact ⟨0,_,_,_,hk,rfl,J6 px (fx:=⟨Try.func44,by kernel_rfl,by kernel_rfl⟩) Js (Jx ih Jt) (by kernel_rfl) ((q_Z60 ..).trans ((c_Z60_bind ..).trans (Jj hy)))⟩
noncomputable def e_Z60:Jz:=m_Z60 (Z60)
theorem e_Z60_ok:(e_Z60).ok Try.prog (Jm (Jl Try.f44) 5):=by
 intro R ds k r h
 unfold e_Z60 m_Z60 at h
 obtain ⟨_,_,rfl,h⟩:=Jd h
 obtain ⟨_,_,rfl,h⟩:=Ja h
 obtain ⟨_,_,rfl,h⟩:=Ja h
 obtain ⟨_,_,rfl,h⟩:=Jd h
 obtain ⟨_,_,rfl,h⟩:=Ja h
 obtain ⟨_,_,rfl,h⟩:=Jd h
 obtain ⟨_,_,rfl,h⟩:=Jd h
 obtain ⟨rfl,hE⟩:=Jg h
 obtain ⟨y,hy,hk⟩:=Jh hE
 obtain ⟨n,hn⟩:=Qh hy
 exact m_Z60_ok n R _ k r ((Jj hn).trans hk)

/-!-/
def c_Z61 {R:Type} (x0 x1:Int) (x2:List D) (x3:Int) (k:Int→Option R):Option R:=
 if 0≤x1∧x1<(↑x2.length:Int) then
 if x3≠(0:Int) then
 if 0≤x0∧x0<(↑x2.length:Int) then
 if x3≠(0:Int) then
 (Z34 ((IntKind.i64.wrap ((1000:Int) * (x2.getD x1.toNat (D.int 0)).toInt)).tmod x3) ((IntKind.i64.wrap ((1000:Int) * (x2.getD x0.toNat (D.int 0)).toInt)).tmod x3)).bind (fun y0=>
 k y0)
 else
 none
 else
 none
 else
 none
 else
 none
theorem c_Z61_bind {R:Type} (x0 x1:Int) (x2:List D) (x3:Int) (k:Int→Option R):c_Z61 x0 x1 x2 x3 k=(c_Z61 x0 x1 x2 x3 some).bind k:=by
 unfold c_Z61
 repeat' first
  | exact JH
  | exact JG
  | exact JF
  | apply JC
  | apply JD
  | apply JI
  | (apply JE; intro _)
  | intro _
def Z61 (x0 x1:Int) (x2:List D) (x3:Int):Option (Int):=c_Z61 x0 x1 x2 x3 some
def e_Z61:Ent:=⟨60,[.int .i64,.int .i64,.rp (.rd (.int .i64)),.rp (.int .i64)],[(.int .i64,(uu 4 ([])))],fun _ ds k=>dI (fun x0 ds=>dI (fun x1 ds=>dL (fun x2 ds=>dI (fun x3 ds=>dE ((Z61 x0 x1 x2 x3).bind (fun y=>k 0 [.I y])) ds) ds) ds) ds) ds⟩
theorem q_Z61 (x0 x1:Int) (x2:List D) (x3:Int):J5 (Jv [e_Z34]) (Jw []) A 60 Try.f60 (Sh.mks e_Z61.sh [.I x0,.I x1,.L x2,.I x3]).1 (fun v os=>some (v,os))=c_Z61 x0 x1 x2 x3 (fun y=>J9 e_Z61 0 [.I y]):=by kernel_rfl
theorem e_Z61_ok:e_Z61.ok Try.prog A:=by
 intro R ds k r h
 unfold e_Z61 at h
 obtain ⟨_,_,rfl,h⟩:=Ja h
 obtain ⟨_,_,rfl,h⟩:=Ja h
 obtain ⟨_,_,rfl,h⟩:=Jd h
 obtain ⟨_,_,rfl,h⟩:=Ja h
 obtain ⟨rfl,hE⟩:=Jg h
 obtain ⟨y,hy,hk⟩:=Jh hE
 exact ⟨0,_,_,_,hk,rfl,Qa px (fx:=⟨Try.func60,by kernel_rfl,by kernel_rfl⟩) (JR e_Z34_ok Js) Jt ((q_Z61 ..).trans ((c_Z61_bind ..).trans (Jj hy)))⟩

/-!-/
abbrev T_Z62:=Int→Int→List D→Int→Int→Int→List D→Option (Int×Int×List D×Int×Int×List D)
def c_Z62 {R:Type} (F:T_Z62) (x0 x1:Int) (x2:List D) (x3 x4 x5:Int) (x6:List D) (k:Int×Int×List D×Int×Int×List D→Option R):Option R:=
 bif decide (x0<x5) then
 if 0≤x5∧x5<(↑x6.length:Int) then
 if x5.toNat+1≤x6.length then
 if (0:Int)≤IntKind.i64.wrap (x5 - 1)∧IntKind.i64.wrap (x5 - 1)<(↑x6.length:Int) then
 if (IntKind.i64.wrap (x5 - 1)).toNat+1≤x6.length then
 (Z61 ((x6.getD x5.toNat (D.int 0)).toInt) ((x6.getD (IntKind.i64.wrap (x5 - 1)).toNat (D.int 0)).toInt) x2 x3).bind (fun y0=>
 bif decide (y0<(0:Int)) then
 if (0:Int)≤IntKind.i64.wrap (x5 - 1)∧IntKind.i64.wrap (x5 - 1)<(↑x6.length:Int) then
 if (IntKind.i64.wrap (x5 - 1)).toNat+1≤x6.length then
 if 0≤x5∧x5<(↑x6.length:Int) then
 if x5.toNat+1≤x6.length then
 if 0≤x5∧x5<(↑x6.length:Int) then
 if x5.toNat+1≤x6.length then
 if (0:Int)≤IntKind.i64.wrap (x5 - 1)∧IntKind.i64.wrap (x5 - 1)<(↑(x6.set x5.toNat (D.int (x6.getD (IntKind.i64.wrap (x5 - 1)).toNat (D.int 0)).toInt)).length:Int) then
 if (IntKind.i64.wrap (x5 - 1)).toNat+1≤(x6.set x5.toNat (D.int (x6.getD (IntKind.i64.wrap (x5 - 1)).toNat (D.int 0)).toInt)).length then
 (F x0 x1 x2 x3 x4 (IntKind.i64.wrap (x5 - 1)) ((x6.set x5.toNat (D.int (x6.getD (IntKind.i64.wrap (x5 - 1)).toNat (D.int 0)).toInt)).set (IntKind.i64.wrap (x5 - 1)).toNat (D.int (x6.getD x5.toNat (D.int 0)).toInt))).bind k
 else
 none
 else
 none
 else
 none
 else
 none
 else
 none
 else
 none
 else
 none
 else
 none
 else
 k (x0,x1,x2,x3,x4,x6))
 else
 none
 else
 none
 else
 none
 else
 none
 else
 k (x0,x1,x2,x3,x4,x6)
theorem c_Z62_bind {R:Type} (F:T_Z62) (x0 x1:Int) (x2:List D) (x3 x4 x5:Int) (x6:List D) (k:Int×Int×List D×Int×Int×List D→Option R):c_Z62 F x0 x1 x2 x3 x4 x5 x6 k=(c_Z62 F x0 x1 x2 x3 x4 x5 x6 some).bind k:=by
 unfold c_Z62
 repeat' first
  | exact JH
  | exact JG
  | exact JF
  | apply JC
  | apply JD
  | apply JI
  | (apply JE; intro _)
  | intro _
def n_Z62:Nat→T_Z62
 | 0,_,_,_,_,_,_,_=>none
 | n+1,x0,x1,x2,x3,x4,x5,x6=>c_Z62 (n_Z62 n) x0 x1 x2 x3 x4 x5 x6 some
noncomputable def Z62 (x0 x1:Int) (x2:List D) (x3 x4 x5:Int) (x6:List D):Option (Int×Int×List D×Int×Int×List D):=ev (fun n=>n_Z62 n x0 x1 x2 x3 x4 x5 x6)
def m_Z62 (F:T_Z62):Jz:=⟨4,⟨(.full 1000 [] (.int .i64)::.int .i64::.int .i64::.fn 60 [.rp (.rd (.int .i64)),.rp (.int .i64)]::uu 4 (.int .i64::.int .i64::uu 43 ([]))),[(1000,.own (.int .i64))]⟩,[(.exit 2,⟨(.full 1000 [] (.int .i64)::.int .i64::.int .i64::.fn 60 [.rp (.rd (.int .i64)),.rp (.int .i64)]::uu 4 (.int .i64::uu 44 ([]))),[(1000,.own (.int .i64))]⟩)],fun _ ds k=>dI (fun x0 ds=>dI (fun x1 ds=>dL (fun x2 ds=>dI (fun x3 ds=>dI (fun x4 ds=>dI (fun x5 ds=>dL (fun x6 ds=>dE ((F x0 x1 x2 x3 x4 x5 x6).bind (fun y=>k 0 [.I y.1,.I y.2.1,.L y.2.2.1,.I y.2.2.2.1,.I y.2.2.2.2.1,.L y.2.2.2.2.2])) ds) ds) ds) ds) ds) ds) ds) ds⟩
theorem q_Z62 (F:T_Z62) (x0 x1:Int) (x2:List D) (x3 x4 x5:Int) (x6:List D):Qg (Jv [e_Z61]) (Jw [m_Z62 F]) A 87 (Jm (Jl Try.f87) 4) ((m_Z62 F).sh.mk' [.I x0,.I x1,.L x2,.I x3,.I x4,.I x5,.L x6]) (fun e σ'=>some (e,σ'))=c_Z62 F x0 x1 x2 x3 x4 x5 x6 (fun y=>some (.exit 2,SSt.mk' ⟨(.full 1000 [] (.int .i64)::.int .i64::.int .i64::.fn 60 [.rp (.rd (.int .i64)),.rp (.int .i64)]::uu 4 (.int .i64::uu 44 ([]))),[(1000,.own (.int .i64))]⟩ [.I y.1,.I y.2.1,.L y.2.2.1,.I y.2.2.2.1,.I y.2.2.2.2.1,.L y.2.2.2.2.2])):=by kernel_rfl
theorem m_Z62_ok:∀ n,(m_Z62 (n_Z62 n)).ok Try.prog (Jm (Jl Try.f87) 4):=by
 intro n
 induction n with
 | zero=>
  intro R ds k r h
  unfold m_Z62 at h
  obtain ⟨_,_,rfl,h⟩:=Ja h
  obtain ⟨_,_,rfl,h⟩:=Ja h
  obtain ⟨_,_,rfl,h⟩:=Jd h
  obtain ⟨_,_,rfl,h⟩:=Ja h
  obtain ⟨_,_,rfl,h⟩:=Ja h
  obtain ⟨_,_,rfl,h⟩:=Ja h
  obtain ⟨_,_,rfl,h⟩:=Jd h
  obtain ⟨rfl,hE⟩:=Jg h
  obtain ⟨y,hy,hk⟩:=Jh hE
  cases hy
 | succ n ih=>
  intro R ds k r h
  unfold m_Z62 at h
  obtain ⟨_,_,rfl,h⟩:=Ja h
  obtain ⟨_,_,rfl,h⟩:=Ja h
  obtain ⟨_,_,rfl,h⟩:=Jd h
  obtain ⟨_,_,rfl,h⟩:=Ja h
  obtain ⟨_,_,rfl,h⟩:=Ja h
  obtain ⟨_,_,rfl,h⟩:=Ja h
  obtain ⟨_,_,rfl,h⟩:=Jd h
  obtain ⟨rfl,hE⟩:=Jg h
  obtain ⟨y,hy,hk⟩:=Jh hE
  exact ⟨0,_,_,_,hk,rfl,J6 px (fx:=⟨Try.func87,by kernel_rfl,by kernel_rfl⟩) (JR e_Z61_ok Js) (Jx ih Jt) (by kernel_rfl) ((q_Z62 ..).trans ((c_Z62_bind ..).trans (Jj hy)))⟩
noncomputable def e_Z62:Jz:=m_Z62 (Z62)
theorem e_Z62_ok:(e_Z62).ok Try.prog (Jm (Jl Try.f87) 4):=by
 intro R ds k r h
 unfold e_Z62 m_Z62 at h
 obtain ⟨_,_,rfl,h⟩:=Ja h
 obtain ⟨_,_,rfl,h⟩:=Ja h
 obtain ⟨_,_,rfl,h⟩:=Jd h
 obtain ⟨_,_,rfl,h⟩:=Ja h
 obtain ⟨_,_,rfl,h⟩:=Ja h
 obtain ⟨_,_,rfl,h⟩:=Ja h
 obtain ⟨_,_,rfl,h⟩:=Jd h
 obtain ⟨rfl,hE⟩:=Jg h
 obtain ⟨y,hy,hk⟩:=Jh hE
 obtain ⟨n,hn⟩:=Qh hy
 exact m_Z62_ok n R _ k r ((Jj hn).trans hk)

/-!-/
abbrev T_Z63:=Int→Int→List D→Int→Int→List D→Option (List D)
def c_Z63 {R:Type} (F:T_Z63) (x0 x1:Int) (x2:List D) (x3 x4:Int) (x5:List D) (k:List D→Option R):Option R:=
 bif decide (x4<x1) then
 (Z62 x0 x1 x2 x3 x4 x4 x5).bind (fun y0=>
 (F y0.fst y0.snd.fst y0.snd.snd.fst y0.snd.snd.snd.fst (IntKind.i64.wrap (y0.snd.snd.snd.snd.fst+1)) y0.snd.snd.snd.snd.snd).bind k)
 else
 k x5
theorem c_Z63_bind {R:Type} (F:T_Z63) (x0 x1:Int) (x2:List D) (x3 x4:Int) (x5:List D) (k:List D→Option R):c_Z63 F x0 x1 x2 x3 x4 x5 k=(c_Z63 F x0 x1 x2 x3 x4 x5 some).bind k:=by
 unfold c_Z63
 repeat' first
  | exact JH
  | exact JG
  | exact JF
  | apply JC
  | apply JD
  | apply JI
  | (apply JE; intro _)
  | intro _
def n_Z63:Nat→T_Z63
 | 0,_,_,_,_,_,_=>none
 | n+1,x0,x1,x2,x3,x4,x5=>c_Z63 (n_Z63 n) x0 x1 x2 x3 x4 x5 some
noncomputable def Z63 (x0 x1:Int) (x2:List D) (x3 x4:Int) (x5:List D):Option (List D):=ev (fun n=>n_Z63 n x0 x1 x2 x3 x4 x5)
def m_Z63 (F:T_Z63):Jz:=⟨1,⟨(.full 1000 [] (.int .i64)::.int .i64::.int .i64::.fn 60 [.rp (.rd (.int .i64)),.rp (.int .i64)]::uu 4 (.int .i64::uu 44 ([]))),[(1000,.own (.int .i64))]⟩,[(.exit 0,⟨(.full 1000 [] (.int .i64)::uu 52 ([])),[(1000,.own (.int .i64))]⟩)],fun _ ds k=>dI (fun x0 ds=>dI (fun x1 ds=>dL (fun x2 ds=>dI (fun x3 ds=>dI (fun x4 ds=>dL (fun x5 ds=>dE ((F x0 x1 x2 x3 x4 x5).bind (fun y=>k 0 [.L y])) ds) ds) ds) ds) ds) ds) ds⟩
theorem q_Z63 (F:T_Z63) (x0 x1:Int) (x2:List D) (x3 x4:Int) (x5:List D):Qg (Jv []) (Jw [m_Z63 F,e_Z62]) A 87 (Jm (Jl Try.f87) 1) ((m_Z63 F).sh.mk' [.I x0,.I x1,.L x2,.I x3,.I x4,.L x5]) (fun e σ'=>some (e,σ'))=c_Z63 F x0 x1 x2 x3 x4 x5 (fun y=>some (.exit 0,SSt.mk' ⟨(.full 1000 [] (.int .i64)::uu 52 ([])),[(1000,.own (.int .i64))]⟩ [.L y])):=by kernel_rfl
theorem m_Z63_ok:∀ n,(m_Z63 (n_Z63 n)).ok Try.prog (Jm (Jl Try.f87) 1):=by
 intro n
 induction n with
 | zero=>
  intro R ds k r h
  unfold m_Z63 at h
  obtain ⟨_,_,rfl,h⟩:=Ja h
  obtain ⟨_,_,rfl,h⟩:=Ja h
  obtain ⟨_,_,rfl,h⟩:=Jd h
  obtain ⟨_,_,rfl,h⟩:=Ja h
  obtain ⟨_,_,rfl,h⟩:=Ja h
  obtain ⟨_,_,rfl,h⟩:=Jd h
  obtain ⟨rfl,hE⟩:=Jg h
  obtain ⟨y,hy,hk⟩:=Jh hE
  cases hy
 | succ n ih=>
  intro R ds k r h
  unfold m_Z63 at h
  obtain ⟨_,_,rfl,h⟩:=Ja h
  obtain ⟨_,_,rfl,h⟩:=Ja h
  obtain ⟨_,_,rfl,h⟩:=Jd h
  obtain ⟨_,_,rfl,h⟩:=Ja h
  obtain ⟨_,_,rfl,h⟩:=Ja h
  obtain ⟨_,_,rfl,h⟩:=Jd h
  obtain ⟨rfl,hE⟩:=Jg h
  obtain ⟨y,hy,hk⟩:=Jh hE
  exact ⟨0,_,_,_,hk,rfl,J6 px (fx:=⟨Try.func87,by kernel_rfl,by kernel_rfl⟩) Js (Jx ih (Jx e_Z62_ok Jt)) (by kernel_rfl) ((q_Z63 ..).trans ((c_Z63_bind ..).trans (Jj hy)))⟩
noncomputable def e_Z63:Jz:=m_Z63 (Z63)
theorem e_Z63_ok:(e_Z63).ok Try.prog (Jm (Jl Try.f87) 1):=by
 intro R ds k r h
 unfold e_Z63 m_Z63 at h
 obtain ⟨_,_,rfl,h⟩:=Ja h
 obtain ⟨_,_,rfl,h⟩:=Ja h
 obtain ⟨_,_,rfl,h⟩:=Jd h
 obtain ⟨_,_,rfl,h⟩:=Ja h
 obtain ⟨_,_,rfl,h⟩:=Ja h
 obtain ⟨_,_,rfl,h⟩:=Jd h
 obtain ⟨rfl,hE⟩:=Jg h
 obtain ⟨y,hy,hk⟩:=Jh hE
 obtain ⟨n,hn⟩:=Qh hy
 exact m_Z63_ok n R _ k r ((Jj hn).trans hk)

/-!-/
def c_Z64 {R:Type} (x0:List D) (x1 x2:Int) (x3:List D) (x4:Int) (k:List D→Option R):Option R:=
 (Z63 x1 x2 x3 x4 (IntKind.i64.wrap (x1+1)) x0).bind (fun y0=>
 k y0)
theorem c_Z64_bind {R:Type} (x0:List D) (x1 x2:Int) (x3:List D) (x4:Int) (k:List D→Option R):c_Z64 x0 x1 x2 x3 x4 k=(c_Z64 x0 x1 x2 x3 x4 some).bind k:=by
 unfold c_Z64
 repeat' first
  | exact JH
  | exact JG
  | exact JF
  | apply JC
  | apply JD
  | apply JI
  | (apply JE; intro _)
  | intro _
def Z64 (x0:List D) (x1 x2:Int) (x3:List D) (x4:Int):Option (List D):=c_Z64 x0 x1 x2 x3 x4 some
def e_Z64:Ent:=⟨87,[.own (.int .i64),.int .i64,.int .i64,.fn 60 [.rp (.rd (.int .i64)),.rp (.int .i64)]],[(.tup [],[.own (.int .i64),.undef,.undef,.undef])],fun _ ds k=>dL (fun x0 ds=>dI (fun x1 ds=>dI (fun x2 ds=>dL (fun x3 ds=>dI (fun x4 ds=>dE ((Z64 x0 x1 x2 x3 x4).bind (fun y=>k 0 [.L y])) ds) ds) ds) ds) ds) ds⟩
theorem q_Z64 (x0:List D) (x1 x2:Int) (x3:List D) (x4:Int):J5 (Jv []) (Jw [e_Z63]) A 87 Try.f87 (Sh.mks e_Z64.sh [.L x0,.I x1,.I x2,.L x3,.I x4]).1 (fun v os=>some (v,os))=c_Z64 x0 x1 x2 x3 x4 (fun y=>J9 e_Z64 0 [.L y]):=by kernel_rfl
theorem e_Z64_ok:e_Z64.ok Try.prog A:=by
 intro R ds k r h
 unfold e_Z64 at h
 obtain ⟨_,_,rfl,h⟩:=Jd h
 obtain ⟨_,_,rfl,h⟩:=Ja h
 obtain ⟨_,_,rfl,h⟩:=Ja h
 obtain ⟨_,_,rfl,h⟩:=Jd h
 obtain ⟨_,_,rfl,h⟩:=Ja h
 obtain ⟨rfl,hE⟩:=Jg h
 obtain ⟨y,hy,hk⟩:=Jh hE
 exact ⟨0,_,_,_,hk,rfl,Qa px (fx:=⟨Try.func87,by kernel_rfl,by kernel_rfl⟩) Js (Jx e_Z63_ok Jt) ((q_Z64 ..).trans ((c_Z64_bind ..).trans (Jj hy)))⟩

/-!-/
abbrev T_Z65:=Int→List D→Int→Int→Int→Int→List D→Option (Int×List D×Int×Int×Int×List D)
def c_Z65 {R:Type} (F:T_Z65) (x0:Int) (x1:List D) (x2 x3 x4 x5:Int) (x6:List D) (k:Int×List D×Int×Int×Int×List D→Option R):Option R:=
 bif decide (x5≤x0) then
 (Z64 x6 x4 x5 x1 x2).bind (fun y0=>
 (F x0 x1 x2 x3 x5 (IntKind.i64.wrap (x5+x3)) y0).bind k)
 else
 k (x0,x1,x2,x3,x4,x6)
theorem c_Z65_bind {R:Type} (F:T_Z65) (x0:Int) (x1:List D) (x2 x3 x4 x5:Int) (x6:List D) (k:Int×List D×Int×Int×Int×List D→Option R):c_Z65 F x0 x1 x2 x3 x4 x5 x6 k=(c_Z65 F x0 x1 x2 x3 x4 x5 x6 some).bind k:=by
 unfold c_Z65
 repeat' first
  | exact JH
  | exact JG
  | exact JF
  | apply JC
  | apply JD
  | apply JI
  | (apply JE; intro _)
  | intro _
def n_Z65:Nat→T_Z65
 | 0,_,_,_,_,_,_,_=>none
 | n+1,x0,x1,x2,x3,x4,x5,x6=>c_Z65 (n_Z65 n) x0 x1 x2 x3 x4 x5 x6 some
noncomputable def Z65 (x0:Int) (x1:List D) (x2 x3 x4 x5:Int) (x6:List D):Option (Int×List D×Int×Int×Int×List D):=ev (fun n=>n_Z65 n x0 x1 x2 x3 x4 x5 x6)
def m_Z65 (F:T_Z65):Jz:=⟨2,⟨(.full 1000 [] (.int .i64)::.int .i64::.fn 60 [.rp (.rd (.int .i64)),.rp (.int .i64)]::.undef::.undef::.undef::.int .i64::.int .i64::.int .i64::uu 54 ([])),[(1000,.own (.int .i64))]⟩,[(.exit 0,⟨(.full 1000 [] (.int .i64)::.int .i64::.fn 60 [.rp (.rd (.int .i64)),.rp (.int .i64)]::.undef::.undef::.undef::.int .i64::.int .i64::uu 55 ([])),[(1000,.own (.int .i64))]⟩)],fun _ ds k=>dI (fun x0 ds=>dL (fun x1 ds=>dI (fun x2 ds=>dI (fun x3 ds=>dI (fun x4 ds=>dI (fun x5 ds=>dL (fun x6 ds=>dE ((F x0 x1 x2 x3 x4 x5 x6).bind (fun y=>k 0 [.I y.1,.L y.2.1,.I y.2.2.1,.I y.2.2.2.1,.I y.2.2.2.2.1,.L y.2.2.2.2.2])) ds) ds) ds) ds) ds) ds) ds) ds⟩
theorem q_Z65 (F:T_Z65) (x0:Int) (x1:List D) (x2 x3 x4 x5:Int) (x6:List D):Qg (Jv [e_Z64]) (Jw [m_Z65 F]) A 72 (Jm (Jl Try.f72) 2) ((m_Z65 F).sh.mk' [.I x0,.L x1,.I x2,.I x3,.I x4,.I x5,.L x6]) (fun e σ'=>some (e,σ'))=c_Z65 F x0 x1 x2 x3 x4 x5 x6 (fun y=>some (.exit 0,SSt.mk' ⟨(.full 1000 [] (.int .i64)::.int .i64::.fn 60 [.rp (.rd (.int .i64)),.rp (.int .i64)]::.undef::.undef::.undef::.int .i64::.int .i64::uu 55 ([])),[(1000,.own (.int .i64))]⟩ [.I y.1,.L y.2.1,.I y.2.2.1,.I y.2.2.2.1,.I y.2.2.2.2.1,.L y.2.2.2.2.2])):=by kernel_rfl
theorem m_Z65_ok:∀ n,(m_Z65 (n_Z65 n)).ok Try.prog (Jm (Jl Try.f72) 2):=by
 intro n
 induction n with
 | zero=>
  intro R ds k r h
  unfold m_Z65 at h
  obtain ⟨_,_,rfl,h⟩:=Ja h
  obtain ⟨_,_,rfl,h⟩:=Jd h
  obtain ⟨_,_,rfl,h⟩:=Ja h
  obtain ⟨_,_,rfl,h⟩:=Ja h
  obtain ⟨_,_,rfl,h⟩:=Ja h
  obtain ⟨_,_,rfl,h⟩:=Ja h
  obtain ⟨_,_,rfl,h⟩:=Jd h
  obtain ⟨rfl,hE⟩:=Jg h
  obtain ⟨y,hy,hk⟩:=Jh hE
  cases hy
 | succ n ih=>
  intro R ds k r h
  unfold m_Z65 at h
  obtain ⟨_,_,rfl,h⟩:=Ja h
  obtain ⟨_,_,rfl,h⟩:=Jd h
  obtain ⟨_,_,rfl,h⟩:=Ja h
  obtain ⟨_,_,rfl,h⟩:=Ja h
  obtain ⟨_,_,rfl,h⟩:=Ja h
  obtain ⟨_,_,rfl,h⟩:=Ja h
  obtain ⟨_,_,rfl,h⟩:=Jd h
  obtain ⟨rfl,hE⟩:=Jg h
  obtain ⟨y,hy,hk⟩:=Jh hE
  exact ⟨0,_,_,_,hk,rfl,J6 px (fx:=⟨Try.func72,by kernel_rfl,by kernel_rfl⟩) (JR e_Z64_ok Js) (Jx ih Jt) (by kernel_rfl) ((q_Z65 ..).trans ((c_Z65_bind ..).trans (Jj hy)))⟩
noncomputable def e_Z65:Jz:=m_Z65 (Z65)
theorem e_Z65_ok:(e_Z65).ok Try.prog (Jm (Jl Try.f72) 2):=by
 intro R ds k r h
 unfold e_Z65 m_Z65 at h
 obtain ⟨_,_,rfl,h⟩:=Ja h
 obtain ⟨_,_,rfl,h⟩:=Jd h
 obtain ⟨_,_,rfl,h⟩:=Ja h
 obtain ⟨_,_,rfl,h⟩:=Ja h
 obtain ⟨_,_,rfl,h⟩:=Ja h
 obtain ⟨_,_,rfl,h⟩:=Ja h
 obtain ⟨_,_,rfl,h⟩:=Jd h
 obtain ⟨rfl,hE⟩:=Jg h
 obtain ⟨y,hy,hk⟩:=Jh hE
 obtain ⟨n,hn⟩:=Qh hy
 exact m_Z65_ok n R _ k r ((Jj hn).trans hk)

/-!-/
abbrev T_Z66:=Int→List D→Int→Int→Int→List D→Option (Int×Int×List D)
def c_Z66 {R:Type} (F:T_Z66) (x0:Int) (x1:List D) (x2 x3 x4:Int) (x5:List D) (k:Int×Int×List D→Option R):Option R:=
 bif decide (x3<x4) then
 if (0:Int)≤(1:Int) then
 if (0:Int)≤IntKind.i64.wrap ((IntKind.u64.wrap (IntKind.i64.wrap (x3+x4))).fdiv ((2:Int) ^ Min.min (Int.toNat (1:Int)) IntKind.u64.bits))∧IntKind.i64.wrap ((IntKind.u64.wrap (IntKind.i64.wrap (x3+x4))).fdiv ((2:Int) ^ Min.min (Int.toNat (1:Int)) IntKind.u64.bits))<(↑x5.length:Int) then
 if (IntKind.i64.wrap ((IntKind.u64.wrap (IntKind.i64.wrap (x3+x4))).fdiv ((2:Int) ^ Min.min (Int.toNat (1:Int)) IntKind.u64.bits))).toNat+1≤x5.length then
 if 0≤x0∧x0<(↑x5.length:Int) then
 if x0.toNat+1≤x5.length then
 (Z61 ((x5.getD (IntKind.i64.wrap ((IntKind.u64.wrap (IntKind.i64.wrap (x3+x4))).fdiv ((2:Int) ^ Min.min (Int.toNat (1:Int)) IntKind.u64.bits))).toNat (D.int 0)).toInt) ((x5.getD x0.toNat (D.int 0)).toInt) x1 x2).bind (fun y0=>
 bif decide (y0<(0:Int)) then
 (F x0 x1 x2 (IntKind.i64.wrap (IntKind.i64.wrap ((IntKind.u64.wrap (IntKind.i64.wrap (x3+x4))).fdiv ((2:Int) ^ Min.min (Int.toNat (1:Int)) IntKind.u64.bits))+(1:Int))) x4 x5).bind k
 else
 (F x0 x1 x2 x3 (IntKind.i64.wrap ((IntKind.u64.wrap (IntKind.i64.wrap (x3+x4))).fdiv ((2:Int) ^ Min.min (Int.toNat (1:Int)) IntKind.u64.bits))) x5).bind k)
 else
 none
 else
 none
 else
 none
 else
 none
 else
 none
 else
 k (x0,x3,x5)
theorem c_Z66_bind {R:Type} (F:T_Z66) (x0:Int) (x1:List D) (x2 x3 x4:Int) (x5:List D) (k:Int×Int×List D→Option R):c_Z66 F x0 x1 x2 x3 x4 x5 k=(c_Z66 F x0 x1 x2 x3 x4 x5 some).bind k:=by
 unfold c_Z66
 repeat' first
  | exact JH
  | exact JG
  | exact JF
  | apply JC
  | apply JD
  | apply JI
  | (apply JE; intro _)
  | intro _
def n_Z66:Nat→T_Z66
 | 0,_,_,_,_,_,_=>none
 | n+1,x0,x1,x2,x3,x4,x5=>c_Z66 (n_Z66 n) x0 x1 x2 x3 x4 x5 some
noncomputable def Z66 (x0:Int) (x1:List D) (x2 x3 x4:Int) (x5:List D):Option (Int×Int×List D):=ev (fun n=>n_Z66 n x0 x1 x2 x3 x4 x5)
def m_Z66 (F:T_Z66):Jz:=⟨3,⟨(.full 1000 [] (.int .i64)::.int .i64::.undef::.undef::.fn 60 [.rp (.rd (.int .i64)),.rp (.int .i64)]::uu 5 (.int .i64::.int .i64::uu 208 ([]))),[(1000,.own (.int .i64))]⟩,[(.exit 0,⟨(.full 1000 [] (.int .i64)::.int .i64::uu 8 (.int .i64::uu 209 ([]))),[(1000,.own (.int .i64))]⟩)],fun _ ds k=>dI (fun x0 ds=>dL (fun x1 ds=>dI (fun x2 ds=>dI (fun x3 ds=>dI (fun x4 ds=>dL (fun x5 ds=>dE ((F x0 x1 x2 x3 x4 x5).bind (fun y=>k 0 [.I y.1,.I y.2.1,.L y.2.2])) ds) ds) ds) ds) ds) ds) ds⟩
theorem q_Z66 (F:T_Z66) (x0:Int) (x1:List D) (x2 x3 x4:Int) (x5:List D):Qg (Jv [e_Z61]) (Jw [m_Z66 F]) A 88 (Jm (Jl Try.f88) 3) ((m_Z66 F).sh.mk' [.I x0,.L x1,.I x2,.I x3,.I x4,.L x5]) (fun e σ'=>some (e,σ'))=c_Z66 F x0 x1 x2 x3 x4 x5 (fun y=>some (.exit 0,SSt.mk' ⟨(.full 1000 [] (.int .i64)::.int .i64::uu 8 (.int .i64::uu 209 ([]))),[(1000,.own (.int .i64))]⟩ [.I y.1,.I y.2.1,.L y.2.2])):=by kernel_rfl
theorem m_Z66_ok:∀ n,(m_Z66 (n_Z66 n)).ok Try.prog (Jm (Jl Try.f88) 3):=by
 intro n
 induction n with
 | zero=>
  intro R ds k r h
  unfold m_Z66 at h
  obtain ⟨_,_,rfl,h⟩:=Ja h
  obtain ⟨_,_,rfl,h⟩:=Jd h
  obtain ⟨_,_,rfl,h⟩:=Ja h
  obtain ⟨_,_,rfl,h⟩:=Ja h
  obtain ⟨_,_,rfl,h⟩:=Ja h
  obtain ⟨_,_,rfl,h⟩:=Jd h
  obtain ⟨rfl,hE⟩:=Jg h
  obtain ⟨y,hy,hk⟩:=Jh hE
  cases hy
 | succ n ih=>
  intro R ds k r h
  unfold m_Z66 at h
  obtain ⟨_,_,rfl,h⟩:=Ja h
  obtain ⟨_,_,rfl,h⟩:=Jd h
  obtain ⟨_,_,rfl,h⟩:=Ja h
  obtain ⟨_,_,rfl,h⟩:=Ja h
  obtain ⟨_,_,rfl,h⟩:=Ja h
  obtain ⟨_,_,rfl,h⟩:=Jd h
  obtain ⟨rfl,hE⟩:=Jg h
  obtain ⟨y,hy,hk⟩:=Jh hE
  exact ⟨0,_,_,_,hk,rfl,J6 px (fx:=⟨Try.func88,by kernel_rfl,by kernel_rfl⟩) (JR e_Z61_ok Js) (Jx ih Jt) (by kernel_rfl) ((q_Z66 ..).trans ((c_Z66_bind ..).trans (Jj hy)))⟩
noncomputable def e_Z66:Jz:=m_Z66 (Z66)
theorem e_Z66_ok:(e_Z66).ok Try.prog (Jm (Jl Try.f88) 3):=by
 intro R ds k r h
 unfold e_Z66 m_Z66 at h
 obtain ⟨_,_,rfl,h⟩:=Ja h
 obtain ⟨_,_,rfl,h⟩:=Jd h
 obtain ⟨_,_,rfl,h⟩:=Ja h
 obtain ⟨_,_,rfl,h⟩:=Ja h
 obtain ⟨_,_,rfl,h⟩:=Ja h
 obtain ⟨_,_,rfl,h⟩:=Jd h
 obtain ⟨rfl,hE⟩:=Jg h
 obtain ⟨y,hy,hk⟩:=Jh hE
 obtain ⟨n,hn⟩:=Qh hy
 exact m_Z66_ok n R _ k r ((Jj hn).trans hk)

/-!-/
abbrev T_Z67:=Int→Int→List D→Option (List D)
def c_Z67 {R:Type} (F:T_Z67) (x0 x1:Int) (x2:List D) (k:List D→Option R):Option R:=
 bif decide (x1<IntKind.i64.wrap (x0 - 1)) then
 if (0:Int)≤IntKind.i64.wrap (x1+1)∧IntKind.i64.wrap (x1+1)<(↑x2.length:Int) then
 if (IntKind.i64.wrap (x1+1)).toNat+1≤x2.length then
 if 0≤x1∧x1<(↑x2.length:Int) then
 if x1.toNat+1≤x2.length then
 if 0≤x1∧x1<(↑x2.length:Int) then
 if x1.toNat+1≤x2.length then
 if (0:Int)≤IntKind.i64.wrap (x1+1)∧IntKind.i64.wrap (x1+1)<(↑(x2.set x1.toNat (D.int (x2.getD (IntKind.i64.wrap (x1+1)).toNat (D.int 0)).toInt)).length:Int) then
 if (IntKind.i64.wrap (x1+1)).toNat+1≤(x2.set x1.toNat (D.int (x2.getD (IntKind.i64.wrap (x1+1)).toNat (D.int 0)).toInt)).length then
 (F x0 (IntKind.i64.wrap (x1+1)) ((x2.set x1.toNat (D.int (x2.getD (IntKind.i64.wrap (x1+1)).toNat (D.int 0)).toInt)).set (IntKind.i64.wrap (x1+1)).toNat (D.int (x2.getD x1.toNat (D.int 0)).toInt))).bind k
 else
 none
 else
 none
 else
 none
 else
 none
 else
 none
 else
 none
 else
 none
 else
 none
 else
 k x2
theorem c_Z67_bind {R:Type} (F:T_Z67) (x0 x1:Int) (x2:List D) (k:List D→Option R):c_Z67 F x0 x1 x2 k=(c_Z67 F x0 x1 x2 some).bind k:=by
 unfold c_Z67
 repeat' first
  | exact JH
  | exact JG
  | exact JF
  | apply JC
  | apply JD
  | apply JI
  | (apply JE; intro _)
  | intro _
def n_Z67:Nat→T_Z67
 | 0,_,_,_=>none
 | n+1,x0,x1,x2=>c_Z67 (n_Z67 n) x0 x1 x2 some
noncomputable def Z67 (x0 x1:Int) (x2:List D):Option (List D):=ev (fun n=>n_Z67 n x0 x1 x2)
def m_Z67 (F:T_Z67):Jz:=⟨9,⟨(.full 1000 [] (.int .i64)::uu 9 (.int .i64::.undef::.undef::.int .i64::uu 206 ([]))),[(1000,.own (.int .i64))]⟩,[(.exit 2,⟨(.full 1000 [] (.int .i64)::uu 219 ([])),[(1000,.own (.int .i64))]⟩)],fun _ ds k=>dI (fun x0 ds=>dI (fun x1 ds=>dL (fun x2 ds=>dE ((F x0 x1 x2).bind (fun y=>k 0 [.L y])) ds) ds) ds) ds⟩
theorem q_Z67 (F:T_Z67) (x0 x1:Int) (x2:List D):Qg (Jv []) (Jw [m_Z67 F]) A 88 (Jm (Jl Try.f88) 9) ((m_Z67 F).sh.mk' [.I x0,.I x1,.L x2]) (fun e σ'=>some (e,σ'))=c_Z67 F x0 x1 x2 (fun y=>some (.exit 2,SSt.mk' ⟨(.full 1000 [] (.int .i64)::uu 219 ([])),[(1000,.own (.int .i64))]⟩ [.L y])):=by kernel_rfl
theorem m_Z67_ok:∀ n,(m_Z67 (n_Z67 n)).ok Try.prog (Jm (Jl Try.f88) 9):=by
 intro n
 induction n with
 | zero=>
  intro R ds k r h
  unfold m_Z67 at h
  obtain ⟨_,_,rfl,h⟩:=Ja h
  obtain ⟨_,_,rfl,h⟩:=Ja h
  obtain ⟨_,_,rfl,h⟩:=Jd h
  obtain ⟨rfl,hE⟩:=Jg h
  obtain ⟨y,hy,hk⟩:=Jh hE
  cases hy
 | succ n ih=>
  intro R ds k r h
  unfold m_Z67 at h
  obtain ⟨_,_,rfl,h⟩:=Ja h
  obtain ⟨_,_,rfl,h⟩:=Ja h
  obtain ⟨_,_,rfl,h⟩:=Jd h
  obtain ⟨rfl,hE⟩:=Jg h
  obtain ⟨y,hy,hk⟩:=Jh hE
  exact ⟨0,_,_,_,hk,rfl,J6 px (fx:=⟨Try.func88,by kernel_rfl,by kernel_rfl⟩) Js (Jx ih Jt) (by kernel_rfl) ((q_Z67 ..).trans ((c_Z67_bind ..).trans (Jj hy)))⟩
noncomputable def e_Z67:Jz:=m_Z67 (Z67)
theorem e_Z67_ok:(e_Z67).ok Try.prog (Jm (Jl Try.f88) 9):=by
 intro R ds k r h
 unfold e_Z67 m_Z67 at h
 obtain ⟨_,_,rfl,h⟩:=Ja h
 obtain ⟨_,_,rfl,h⟩:=Ja h
 obtain ⟨_,_,rfl,h⟩:=Jd h
 obtain ⟨rfl,hE⟩:=Jg h
 obtain ⟨y,hy,hk⟩:=Jh hE
 obtain ⟨n,hn⟩:=Qh hy
 exact m_Z67_ok n R _ k r ((Jj hn).trans hk)

/-!-/
abbrev T_Z68:=Int→List D→Int→Int→Int→List D→Option (Int×Int×List D)
def c_Z68 {R:Type} (F:T_Z68) (x0:Int) (x1:List D) (x2 x3 x4:Int) (x5:List D) (k:Int×Int×List D→Option R):Option R:=
 bif decide (x3<x4) then
 if (0:Int)≤(1:Int) then
 if 0≤x0∧x0<(↑x5.length:Int) then
 if x0.toNat+1≤x5.length then
 if (0:Int)≤IntKind.i64.wrap ((IntKind.u64.wrap (IntKind.i64.wrap (x3+x4))).fdiv ((2:Int) ^ Min.min (Int.toNat (1:Int)) IntKind.u64.bits))∧IntKind.i64.wrap ((IntKind.u64.wrap (IntKind.i64.wrap (x3+x4))).fdiv ((2:Int) ^ Min.min (Int.toNat (1:Int)) IntKind.u64.bits))<(↑x5.length:Int) then
 if (IntKind.i64.wrap ((IntKind.u64.wrap (IntKind.i64.wrap (x3+x4))).fdiv ((2:Int) ^ Min.min (Int.toNat (1:Int)) IntKind.u64.bits))).toNat+1≤x5.length then
 (Z61 ((x5.getD x0.toNat (D.int 0)).toInt) ((x5.getD (IntKind.i64.wrap ((IntKind.u64.wrap (IntKind.i64.wrap (x3+x4))).fdiv ((2:Int) ^ Min.min (Int.toNat (1:Int)) IntKind.u64.bits))).toNat (D.int 0)).toInt) x1 x2).bind (fun y0=>
 bif !decide (y0<(0:Int)) then
 (F x0 x1 x2 (IntKind.i64.wrap (IntKind.i64.wrap ((IntKind.u64.wrap (IntKind.i64.wrap (x3+x4))).fdiv ((2:Int) ^ Min.min (Int.toNat (1:Int)) IntKind.u64.bits))+(1:Int))) x4 x5).bind k
 else
 (F x0 x1 x2 x3 (IntKind.i64.wrap ((IntKind.u64.wrap (IntKind.i64.wrap (x3+x4))).fdiv ((2:Int) ^ Min.min (Int.toNat (1:Int)) IntKind.u64.bits))) x5).bind k)
 else
 none
 else
 none
 else
 none
 else
 none
 else
 none
 else
 k (x0,x3,x5)
theorem c_Z68_bind {R:Type} (F:T_Z68) (x0:Int) (x1:List D) (x2 x3 x4:Int) (x5:List D) (k:Int×Int×List D→Option R):c_Z68 F x0 x1 x2 x3 x4 x5 k=(c_Z68 F x0 x1 x2 x3 x4 x5 some).bind k:=by
 unfold c_Z68
 repeat' first
  | exact JH
  | exact JG
  | exact JF
  | apply JC
  | apply JD
  | apply JI
  | (apply JE; intro _)
  | intro _
def n_Z68:Nat→T_Z68
 | 0,_,_,_,_,_,_=>none
 | n+1,x0,x1,x2,x3,x4,x5=>c_Z68 (n_Z68 n) x0 x1 x2 x3 x4 x5 some
noncomputable def Z68 (x0:Int) (x1:List D) (x2 x3 x4:Int) (x5:List D):Option (Int×Int×List D):=ev (fun n=>n_Z68 n x0 x1 x2 x3 x4 x5)
def m_Z68 (F:T_Z68):Jz:=⟨15,⟨(.full 1000 [] (.int .i64)::.undef::.int .i64::.undef::.fn 60 [.rp (.rd (.int .i64)),.rp (.int .i64)]::uu 9 (.int .i64::.int .i64::uu 204 ([]))),[(1000,.own (.int .i64))]⟩,[(.exit 4,⟨(.full 1000 [] (.int .i64)::.undef::.int .i64::uu 11 (.int .i64::uu 205 ([]))),[(1000,.own (.int .i64))]⟩)],fun _ ds k=>dI (fun x0 ds=>dL (fun x1 ds=>dI (fun x2 ds=>dI (fun x3 ds=>dI (fun x4 ds=>dL (fun x5 ds=>dE ((F x0 x1 x2 x3 x4 x5).bind (fun y=>k 0 [.I y.1,.I y.2.1,.L y.2.2])) ds) ds) ds) ds) ds) ds) ds⟩
theorem q_Z68 (F:T_Z68) (x0:Int) (x1:List D) (x2 x3 x4:Int) (x5:List D):Qg (Jv [e_Z61]) (Jw [m_Z68 F]) A 88 (Jm (Jl Try.f88) 15) ((m_Z68 F).sh.mk' [.I x0,.L x1,.I x2,.I x3,.I x4,.L x5]) (fun e σ'=>some (e,σ'))=c_Z68 F x0 x1 x2 x3 x4 x5 (fun y=>some (.exit 4,SSt.mk' ⟨(.full 1000 [] (.int .i64)::.undef::.int .i64::uu 11 (.int .i64::uu 205 ([]))),[(1000,.own (.int .i64))]⟩ [.I y.1,.I y.2.1,.L y.2.2])):=by kernel_rfl
theorem m_Z68_ok:∀ n,(m_Z68 (n_Z68 n)).ok Try.prog (Jm (Jl Try.f88) 15):=by
 intro n
 induction n with
 | zero=>
  intro R ds k r h
  unfold m_Z68 at h
  obtain ⟨_,_,rfl,h⟩:=Ja h
  obtain ⟨_,_,rfl,h⟩:=Jd h
  obtain ⟨_,_,rfl,h⟩:=Ja h
  obtain ⟨_,_,rfl,h⟩:=Ja h
  obtain ⟨_,_,rfl,h⟩:=Ja h
  obtain ⟨_,_,rfl,h⟩:=Jd h
  obtain ⟨rfl,hE⟩:=Jg h
  obtain ⟨y,hy,hk⟩:=Jh hE
  cases hy
 | succ n ih=>
  intro R ds k r h
  unfold m_Z68 at h
  obtain ⟨_,_,rfl,h⟩:=Ja h
  obtain ⟨_,_,rfl,h⟩:=Jd h
  obtain ⟨_,_,rfl,h⟩:=Ja h
  obtain ⟨_,_,rfl,h⟩:=Ja h
  obtain ⟨_,_,rfl,h⟩:=Ja h
  obtain ⟨_,_,rfl,h⟩:=Jd h
  obtain ⟨rfl,hE⟩:=Jg h
  obtain ⟨y,hy,hk⟩:=Jh hE
  exact ⟨0,_,_,_,hk,rfl,J6 px (fx:=⟨Try.func88,by kernel_rfl,by kernel_rfl⟩) (JR e_Z61_ok Js) (Jx ih Jt) (by kernel_rfl) ((q_Z68 ..).trans ((c_Z68_bind ..).trans (Jj hy)))⟩
noncomputable def e_Z68:Jz:=m_Z68 (Z68)
theorem e_Z68_ok:(e_Z68).ok Try.prog (Jm (Jl Try.f88) 15):=by
 intro R ds k r h
 unfold e_Z68 m_Z68 at h
 obtain ⟨_,_,rfl,h⟩:=Ja h
 obtain ⟨_,_,rfl,h⟩:=Jd h
 obtain ⟨_,_,rfl,h⟩:=Ja h
 obtain ⟨_,_,rfl,h⟩:=Ja h
 obtain ⟨_,_,rfl,h⟩:=Ja h
 obtain ⟨_,_,rfl,h⟩:=Jd h
 obtain ⟨rfl,hE⟩:=Jg h
 obtain ⟨y,hy,hk⟩:=Jh hE
 obtain ⟨n,hn⟩:=Qh hy
 exact m_Z68_ok n R _ k r ((Jj hn).trans hk)

/-!-/
abbrev T_Z69:=Int→Int→List D→Option (List D)
def c_Z69 {R:Type} (F:T_Z69) (x0 x1:Int) (x2:List D) (k:List D→Option R):Option R:=
 bif decide (x0<x1) then
 if (0:Int)≤IntKind.i64.wrap (x1 - 1)∧IntKind.i64.wrap (x1 - 1)<(↑x2.length:Int) then
 if (IntKind.i64.wrap (x1 - 1)).toNat+1≤x2.length then
 if 0≤x1∧x1<(↑x2.length:Int) then
 if x1.toNat+1≤x2.length then
 if 0≤x1∧x1<(↑x2.length:Int) then
 if x1.toNat+1≤x2.length then
 if (0:Int)≤IntKind.i64.wrap (x1 - 1)∧IntKind.i64.wrap (x1 - 1)<(↑(x2.set x1.toNat (D.int (x2.getD (IntKind.i64.wrap (x1 - 1)).toNat (D.int 0)).toInt)).length:Int) then
 if (IntKind.i64.wrap (x1 - 1)).toNat+1≤(x2.set x1.toNat (D.int (x2.getD (IntKind.i64.wrap (x1 - 1)).toNat (D.int 0)).toInt)).length then
 (F x0 (IntKind.i64.wrap (x1 - 1)) ((x2.set x1.toNat (D.int (x2.getD (IntKind.i64.wrap (x1 - 1)).toNat (D.int 0)).toInt)).set (IntKind.i64.wrap (x1 - 1)).toNat (D.int (x2.getD x1.toNat (D.int 0)).toInt))).bind k
 else
 none
 else
 none
 else
 none
 else
 none
 else
 none
 else
 none
 else
 none
 else
 none
 else
 k x2
theorem c_Z69_bind {R:Type} (F:T_Z69) (x0 x1:Int) (x2:List D) (k:List D→Option R):c_Z69 F x0 x1 x2 k=(c_Z69 F x0 x1 x2 some).bind k:=by
 unfold c_Z69
 repeat' first
  | exact JH
  | exact JG
  | exact JF
  | apply JC
  | apply JD
  | apply JI
  | (apply JE; intro _)
  | intro _
def n_Z69:Nat→T_Z69
 | 0,_,_,_=>none
 | n+1,x0,x1,x2=>c_Z69 (n_Z69 n) x0 x1 x2 some
noncomputable def Z69 (x0 x1:Int) (x2:List D):Option (List D):=ev (fun n=>n_Z69 n x0 x1 x2)
def m_Z69 (F:T_Z69):Jz:=⟨21,⟨(.full 1000 [] (.int .i64)::uu 13 (.int .i64::.undef::.undef::.int .i64::uu 202 ([]))),[(1000,.own (.int .i64))]⟩,[(.exit 6,⟨(.full 1000 [] (.int .i64)::uu 219 ([])),[(1000,.own (.int .i64))]⟩)],fun _ ds k=>dI (fun x0 ds=>dI (fun x1 ds=>dL (fun x2 ds=>dE ((F x0 x1 x2).bind (fun y=>k 0 [.L y])) ds) ds) ds) ds⟩
theorem q_Z69 (F:T_Z69) (x0 x1:Int) (x2:List D):Qg (Jv []) (Jw [m_Z69 F]) A 88 (Jm (Jl Try.f88) 21) ((m_Z69 F).sh.mk' [.I x0,.I x1,.L x2]) (fun e σ'=>some (e,σ'))=c_Z69 F x0 x1 x2 (fun y=>some (.exit 6,SSt.mk' ⟨(.full 1000 [] (.int .i64)::uu 219 ([])),[(1000,.own (.int .i64))]⟩ [.L y])):=by kernel_rfl
theorem m_Z69_ok:∀ n,(m_Z69 (n_Z69 n)).ok Try.prog (Jm (Jl Try.f88) 21):=by
 intro n
 induction n with
 | zero=>
  intro R ds k r h
  unfold m_Z69 at h
  obtain ⟨_,_,rfl,h⟩:=Ja h
  obtain ⟨_,_,rfl,h⟩:=Ja h
  obtain ⟨_,_,rfl,h⟩:=Jd h
  obtain ⟨rfl,hE⟩:=Jg h
  obtain ⟨y,hy,hk⟩:=Jh hE
  cases hy
 | succ n ih=>
  intro R ds k r h
  unfold m_Z69 at h
  obtain ⟨_,_,rfl,h⟩:=Ja h
  obtain ⟨_,_,rfl,h⟩:=Ja h
  obtain ⟨_,_,rfl,h⟩:=Jd h
  obtain ⟨rfl,hE⟩:=Jg h
  obtain ⟨y,hy,hk⟩:=Jh hE
  exact ⟨0,_,_,_,hk,rfl,J6 px (fx:=⟨Try.func88,by kernel_rfl,by kernel_rfl⟩) Js (Jx ih Jt) (by kernel_rfl) ((q_Z69 ..).trans ((c_Z69_bind ..).trans (Jj hy)))⟩
noncomputable def e_Z69:Jz:=m_Z69 (Z69)
theorem e_Z69_ok:(e_Z69).ok Try.prog (Jm (Jl Try.f88) 21):=by
 intro R ds k r h
 unfold e_Z69 m_Z69 at h
 obtain ⟨_,_,rfl,h⟩:=Ja h
 obtain ⟨_,_,rfl,h⟩:=Ja h
 obtain ⟨_,_,rfl,h⟩:=Jd h
 obtain ⟨rfl,hE⟩:=Jg h
 obtain ⟨y,hy,hk⟩:=Jh hE
 obtain ⟨n,hn⟩:=Qh hy
 exact m_Z69_ok n R _ k r ((Jj hn).trans hk)

/-!-/
abbrev T_Z70:=Int→Int→Int→List D→Int→Int→Int→Int→Int→Int→List D→Option (Int×Int×Int×List D×Int×Int×Int×Int×List D)
def c_Z70 {R:Type} (F:T_Z70) (x0 x1 x2:Int) (x3:List D) (x4 x5 x6 x7 x8 x9:Int) (x10:List D) (k:Int×Int×Int×List D×Int×Int×Int×Int×List D→Option R):Option R:=
 bif decide (x7<x8) then
 if (0:Int)≤(1:Int) then
 if (0:Int)≤IntKind.i64.wrap (x9 - IntKind.i64.wrap ((IntKind.u64.wrap (IntKind.i64.wrap (x7+x8))).fdiv ((2:Int) ^ Min.min (Int.toNat (1:Int)) IntKind.u64.bits)))∧IntKind.i64.wrap (x9 - IntKind.i64.wrap ((IntKind.u64.wrap (IntKind.i64.wrap (x7+x8))).fdiv ((2:Int) ^ Min.min (Int.toNat (1:Int)) IntKind.u64.bits)))<(↑x10.length:Int) then
 if (IntKind.i64.wrap (x9 - IntKind.i64.wrap ((IntKind.u64.wrap (IntKind.i64.wrap (x7+x8))).fdiv ((2:Int) ^ Min.min (Int.toNat (1:Int)) IntKind.u64.bits)))).toNat+1≤x10.length then
 if (0:Int)≤IntKind.i64.wrap ((IntKind.u64.wrap (IntKind.i64.wrap (x7+x8))).fdiv ((2:Int) ^ Min.min (Int.toNat (1:Int)) IntKind.u64.bits))∧IntKind.i64.wrap ((IntKind.u64.wrap (IntKind.i64.wrap (x7+x8))).fdiv ((2:Int) ^ Min.min (Int.toNat (1:Int)) IntKind.u64.bits))<(↑x10.length:Int) then
 if (IntKind.i64.wrap ((IntKind.u64.wrap (IntKind.i64.wrap (x7+x8))).fdiv ((2:Int) ^ Min.min (Int.toNat (1:Int)) IntKind.u64.bits))).toNat+1≤x10.length then
 (Z61 ((x10.getD (IntKind.i64.wrap (x9 - IntKind.i64.wrap ((IntKind.u64.wrap (IntKind.i64.wrap (x7+x8))).fdiv ((2:Int) ^ Min.min (Int.toNat (1:Int)) IntKind.u64.bits)))).toNat (D.int 0)).toInt) ((x10.getD (IntKind.i64.wrap ((IntKind.u64.wrap (IntKind.i64.wrap (x7+x8))).fdiv ((2:Int) ^ Min.min (Int.toNat (1:Int)) IntKind.u64.bits))).toNat (D.int 0)).toInt) x3 x4).bind (fun y0=>
 bif !decide (y0<(0:Int)) then
 (F x0 x1 x2 x3 x4 x5 x6 (IntKind.i64.wrap (IntKind.i64.wrap ((IntKind.u64.wrap (IntKind.i64.wrap (x7+x8))).fdiv ((2:Int) ^ Min.min (Int.toNat (1:Int)) IntKind.u64.bits))+(1:Int))) x8 x9 x10).bind k
 else
 (F x0 x1 x2 x3 x4 x5 x6 x7 (IntKind.i64.wrap ((IntKind.u64.wrap (IntKind.i64.wrap (x7+x8))).fdiv ((2:Int) ^ Min.min (Int.toNat (1:Int)) IntKind.u64.bits))) x9 x10).bind k)
 else
 none
 else
 none
 else
 none
 else
 none
 else
 none
 else
 k (x0,x1,x2,x3,x4,x5,x6,x7,x10)
theorem c_Z70_bind {R:Type} (F:T_Z70) (x0 x1 x2:Int) (x3:List D) (x4 x5 x6 x7 x8 x9:Int) (x10:List D) (k:Int×Int×Int×List D×Int×Int×Int×Int×List D→Option R):c_Z70 F x0 x1 x2 x3 x4 x5 x6 x7 x8 x9 x10 k=(c_Z70 F x0 x1 x2 x3 x4 x5 x6 x7 x8 x9 x10 some).bind k:=by
 unfold c_Z70
 repeat' first
  | exact JH
  | exact JG
  | exact JF
  | apply JC
  | apply JD
  | apply JI
  | (apply JE; intro _)
  | intro _
def n_Z70:Nat→T_Z70
 | 0,_,_,_,_,_,_,_,_,_,_,_=>none
 | n+1,x0,x1,x2,x3,x4,x5,x6,x7,x8,x9,x10=>c_Z70 (n_Z70 n) x0 x1 x2 x3 x4 x5 x6 x7 x8 x9 x10 some
noncomputable def Z70 (x0 x1 x2:Int) (x3:List D) (x4 x5 x6 x7 x8 x9:Int) (x10:List D):Option (Int×Int×Int×List D×Int×Int×Int×Int×List D):=ev (fun n=>n_Z70 n x0 x1 x2 x3 x4 x5 x6 x7 x8 x9 x10)
def m_Z70 (F:T_Z70):Jz:=⟨33,⟨(.full 1000 [] (.int .i64)::.int .i64::.int .i64::.int .i64::.fn 60 [.rp (.rd (.int .i64)),.rp (.int .i64)]::uu 13 (.int .i64::.int .i64::.int .i64::.int .i64::.int .i64::uu 197 ([]))),[(1000,.own (.int .i64))]⟩,[(.exit 8,⟨(.full 1000 [] (.int .i64)::.int .i64::.int .i64::.int .i64::.fn 60 [.rp (.rd (.int .i64)),.rp (.int .i64)]::uu 13 (.int .i64::.int .i64::.int .i64::uu 199 ([]))),[(1000,.own (.int .i64))]⟩)],fun _ ds k=>dI (fun x0 ds=>dI (fun x1 ds=>dI (fun x2 ds=>dL (fun x3 ds=>dI (fun x4 ds=>dI (fun x5 ds=>dI (fun x6 ds=>dI (fun x7 ds=>dI (fun x8 ds=>dI (fun x9 ds=>dL (fun x10 ds=>dE ((F x0 x1 x2 x3 x4 x5 x6 x7 x8 x9 x10).bind (fun y=>k 0 [.I y.1,.I y.2.1,.I y.2.2.1,.L y.2.2.2.1,.I y.2.2.2.2.1,.I y.2.2.2.2.2.1,.I y.2.2.2.2.2.2.1,.I y.2.2.2.2.2.2.2.1,.L y.2.2.2.2.2.2.2.2])) ds) ds) ds) ds) ds) ds) ds) ds) ds) ds) ds) ds⟩
theorem q_Z70 (F:T_Z70) (x0 x1 x2:Int) (x3:List D) (x4 x5 x6 x7 x8 x9:Int) (x10:List D):Qg (Jv [e_Z61]) (Jw [m_Z70 F]) A 88 (Jm (Jl Try.f88) 33) ((m_Z70 F).sh.mk' [.I x0,.I x1,.I x2,.L x3,.I x4,.I x5,.I x6,.I x7,.I x8,.I x9,.L x10]) (fun e σ'=>some (e,σ'))=c_Z70 F x0 x1 x2 x3 x4 x5 x6 x7 x8 x9 x10 (fun y=>some (.exit 8,SSt.mk' ⟨(.full 1000 [] (.int .i64)::.int .i64::.int .i64::.int .i64::.fn 60 [.rp (.rd (.int .i64)),.rp (.int .i64)]::uu 13 (.int .i64::.int .i64::.int .i64::uu 199 ([]))),[(1000,.own (.int .i64))]⟩ [.I y.1,.I y.2.1,.I y.2.2.1,.L y.2.2.2.1,.I y.2.2.2.2.1,.I y.2.2.2.2.2.1,.I y.2.2.2.2.2.2.1,.I y.2.2.2.2.2.2.2.1,.L y.2.2.2.2.2.2.2.2])):=by kernel_rfl
theorem m_Z70_ok:∀ n,(m_Z70 (n_Z70 n)).ok Try.prog (Jm (Jl Try.f88) 33):=by
 intro n
 induction n with
 | zero=>
  intro R ds k r h
  unfold m_Z70 at h
  obtain ⟨_,_,rfl,h⟩:=Ja h
  obtain ⟨_,_,rfl,h⟩:=Ja h
  obtain ⟨_,_,rfl,h⟩:=Ja h
  obtain ⟨_,_,rfl,h⟩:=Jd h
  obtain ⟨_,_,rfl,h⟩:=Ja h
  obtain ⟨_,_,rfl,h⟩:=Ja h
  obtain ⟨_,_,rfl,h⟩:=Ja h
  obtain ⟨_,_,rfl,h⟩:=Ja h
  obtain ⟨_,_,rfl,h⟩:=Ja h
  obtain ⟨_,_,rfl,h⟩:=Ja h
  obtain ⟨_,_,rfl,h⟩:=Jd h
  obtain ⟨rfl,hE⟩:=Jg h
  obtain ⟨y,hy,hk⟩:=Jh hE
  cases hy
 | succ n ih=>
  intro R ds k r h
  unfold m_Z70 at h
  obtain ⟨_,_,rfl,h⟩:=Ja h
  obtain ⟨_,_,rfl,h⟩:=Ja h
  obtain ⟨_,_,rfl,h⟩:=Ja h
  obtain ⟨_,_,rfl,h⟩:=Jd h
  obtain ⟨_,_,rfl,h⟩:=Ja h
  obtain ⟨_,_,rfl,h⟩:=Ja h
  obtain ⟨_,_,rfl,h⟩:=Ja h
  obtain ⟨_,_,rfl,h⟩:=Ja h
  obtain ⟨_,_,rfl,h⟩:=Ja h
  obtain ⟨_,_,rfl,h⟩:=Ja h
  obtain ⟨_,_,rfl,h⟩:=Jd h
  obtain ⟨rfl,hE⟩:=Jg h
  obtain ⟨y,hy,hk⟩:=Jh hE
  exact ⟨0,_,_,_,hk,rfl,J6 px (fx:=⟨Try.func88,by kernel_rfl,by kernel_rfl⟩) (JR e_Z61_ok Js) (Jx ih Jt) (by kernel_rfl) ((q_Z70 ..).trans ((c_Z70_bind ..).trans (Jj hy)))⟩
noncomputable def e_Z70:Jz:=m_Z70 (Z70)
theorem e_Z70_ok:(e_Z70).ok Try.prog (Jm (Jl Try.f88) 33):=by
 intro R ds k r h
 unfold e_Z70 m_Z70 at h
 obtain ⟨_,_,rfl,h⟩:=Ja h
 obtain ⟨_,_,rfl,h⟩:=Ja h
 obtain ⟨_,_,rfl,h⟩:=Ja h
 obtain ⟨_,_,rfl,h⟩:=Jd h
 obtain ⟨_,_,rfl,h⟩:=Ja h
 obtain ⟨_,_,rfl,h⟩:=Ja h
 obtain ⟨_,_,rfl,h⟩:=Ja h
 obtain ⟨_,_,rfl,h⟩:=Ja h
 obtain ⟨_,_,rfl,h⟩:=Ja h
 obtain ⟨_,_,rfl,h⟩:=Ja h
 obtain ⟨_,_,rfl,h⟩:=Jd h
 obtain ⟨rfl,hE⟩:=Jg h
 obtain ⟨y,hy,hk⟩:=Jh hE
 obtain ⟨n,hn⟩:=Qh hy
 exact m_Z70_ok n R _ k r ((Jj hn).trans hk)

/-!-/
abbrev T_Z71:=Int→Int→Int→Int→List D→Option (List D)
def c_Z71 {R:Type} (F:T_Z71) (x0 x1 x2 x3:Int) (x4:List D) (k:List D→Option R):Option R:=
 bif decide (x3<x2) then
 if (0:Int)≤IntKind.i64.wrap (x1+x3)∧IntKind.i64.wrap (x1+x3)<(↑x4.length:Int) then
 if (IntKind.i64.wrap (x1+x3)).toNat+1≤x4.length then
 if (0:Int)≤IntKind.i64.wrap (x0+x3)∧IntKind.i64.wrap (x0+x3)<(↑x4.length:Int) then
 if (IntKind.i64.wrap (x0+x3)).toNat+1≤x4.length then
 if (0:Int)≤IntKind.i64.wrap (x0+x3)∧IntKind.i64.wrap (x0+x3)<(↑x4.length:Int) then
 if (IntKind.i64.wrap (x0+x3)).toNat+1≤x4.length then
 if (0:Int)≤IntKind.i64.wrap (x1+x3)∧IntKind.i64.wrap (x1+x3)<(↑(x4.set (IntKind.i64.wrap (x0+x3)).toNat (D.int (x4.getD (IntKind.i64.wrap (x1+x3)).toNat (D.int 0)).toInt)).length:Int) then
 if (IntKind.i64.wrap (x1+x3)).toNat+1≤(x4.set (IntKind.i64.wrap (x0+x3)).toNat (D.int (x4.getD (IntKind.i64.wrap (x1+x3)).toNat (D.int 0)).toInt)).length then
 (F x0 x1 x2 (IntKind.i64.wrap (x3+1)) ((x4.set (IntKind.i64.wrap (x0+x3)).toNat (D.int (x4.getD (IntKind.i64.wrap (x1+x3)).toNat (D.int 0)).toInt)).set (IntKind.i64.wrap (x1+x3)).toNat (D.int (x4.getD (IntKind.i64.wrap (x0+x3)).toNat (D.int 0)).toInt))).bind k
 else
 none
 else
 none
 else
 none
 else
 none
 else
 none
 else
 none
 else
 none
 else
 none
 else
 k x4
theorem c_Z71_bind {R:Type} (F:T_Z71) (x0 x1 x2 x3:Int) (x4:List D) (k:List D→Option R):c_Z71 F x0 x1 x2 x3 x4 k=(c_Z71 F x0 x1 x2 x3 x4 some).bind k:=by
 unfold c_Z71
 repeat' first
  | exact JH
  | exact JG
  | exact JF
  | apply JC
  | apply JD
  | apply JI
  | (apply JE; intro _)
  | intro _
def n_Z71:Nat→T_Z71
 | 0,_,_,_,_,_=>none
 | n+1,x0,x1,x2,x3,x4=>c_Z71 (n_Z71 n) x0 x1 x2 x3 x4 some
noncomputable def Z71 (x0 x1 x2 x3:Int) (x4:List D):Option (List D):=ev (fun n=>n_Z71 n x0 x1 x2 x3 x4)
def m_Z71 (F:T_Z71):Jz:=⟨1,⟨(.full 1000 [] (.int .i64)::.int .i64::.int .i64::.int .i64::uu 6 (.int .i64::uu 27 ([]))),[(1000,.own (.int .i64))]⟩,[(.exit 0,⟨(.full 1000 [] (.int .i64)::uu 37 ([])),[(1000,.own (.int .i64))]⟩)],fun _ ds k=>dI (fun x0 ds=>dI (fun x1 ds=>dI (fun x2 ds=>dI (fun x3 ds=>dL (fun x4 ds=>dE ((F x0 x1 x2 x3 x4).bind (fun y=>k 0 [.L y])) ds) ds) ds) ds) ds) ds⟩
theorem q_Z71 (F:T_Z71) (x0 x1 x2 x3:Int) (x4:List D):Qg (Jv []) (Jw [m_Z71 F]) A 97 (Jm (Jl Try.f97) 1) ((m_Z71 F).sh.mk' [.I x0,.I x1,.I x2,.I x3,.L x4]) (fun e σ'=>some (e,σ'))=c_Z71 F x0 x1 x2 x3 x4 (fun y=>some (.exit 0,SSt.mk' ⟨(.full 1000 [] (.int .i64)::uu 37 ([])),[(1000,.own (.int .i64))]⟩ [.L y])):=by kernel_rfl
theorem m_Z71_ok:∀ n,(m_Z71 (n_Z71 n)).ok Try.prog (Jm (Jl Try.f97) 1):=by
 intro n
 induction n with
 | zero=>
  intro R ds k r h
  unfold m_Z71 at h
  obtain ⟨_,_,rfl,h⟩:=Ja h
  obtain ⟨_,_,rfl,h⟩:=Ja h
  obtain ⟨_,_,rfl,h⟩:=Ja h
  obtain ⟨_,_,rfl,h⟩:=Ja h
  obtain ⟨_,_,rfl,h⟩:=Jd h
  obtain ⟨rfl,hE⟩:=Jg h
  obtain ⟨y,hy,hk⟩:=Jh hE
  cases hy
 | succ n ih=>
  intro R ds k r h
  unfold m_Z71 at h
  obtain ⟨_,_,rfl,h⟩:=Ja h
  obtain ⟨_,_,rfl,h⟩:=Ja h
  obtain ⟨_,_,rfl,h⟩:=Ja h
  obtain ⟨_,_,rfl,h⟩:=Ja h
  obtain ⟨_,_,rfl,h⟩:=Jd h
  obtain ⟨rfl,hE⟩:=Jg h
  obtain ⟨y,hy,hk⟩:=Jh hE
  exact ⟨0,_,_,_,hk,rfl,J6 px (fx:=⟨Try.func97,by kernel_rfl,by kernel_rfl⟩) Js (Jx ih Jt) (by kernel_rfl) ((q_Z71 ..).trans ((c_Z71_bind ..).trans (Jj hy)))⟩
noncomputable def e_Z71:Jz:=m_Z71 (Z71)
theorem e_Z71_ok:(e_Z71).ok Try.prog (Jm (Jl Try.f97) 1):=by
 intro R ds k r h
 unfold e_Z71 m_Z71 at h
 obtain ⟨_,_,rfl,h⟩:=Ja h
 obtain ⟨_,_,rfl,h⟩:=Ja h
 obtain ⟨_,_,rfl,h⟩:=Ja h
 obtain ⟨_,_,rfl,h⟩:=Ja h
 obtain ⟨_,_,rfl,h⟩:=Jd h
 obtain ⟨rfl,hE⟩:=Jg h
 obtain ⟨y,hy,hk⟩:=Jh hE
 obtain ⟨n,hn⟩:=Qh hy
 exact m_Z71_ok n R _ k r ((Jj hn).trans hk)

/-!-/
def c_Z72 {R:Type} (x0:List D) (x1 x2 x3:Int) (x4:List D) (x5:Int) (k:List D→Option R):Option R:=
 (Z71 x1 x2 x3 (0:Int) x0).bind (fun y0=>
 k y0)
theorem c_Z72_bind {R:Type} (x0:List D) (x1 x2 x3:Int) (x4:List D) (x5:Int) (k:List D→Option R):c_Z72 x0 x1 x2 x3 x4 x5 k=(c_Z72 x0 x1 x2 x3 x4 x5 some).bind k:=by
 unfold c_Z72
 repeat' first
  | exact JH
  | exact JG
  | exact JF
  | apply JC
  | apply JD
  | apply JI
  | (apply JE; intro _)
  | intro _
def Z72 (x0:List D) (x1 x2 x3:Int) (x4:List D) (x5:Int):Option (List D):=c_Z72 x0 x1 x2 x3 x4 x5 some
def e_Z72:Ent:=⟨97,[.own (.int .i64),.int .i64,.int .i64,.int .i64,.fn 60 [.rp (.rd (.int .i64)),.rp (.int .i64)]],[(.tup [],(.own (.int .i64)::uu 4 ([])))],fun _ ds k=>dL (fun x0 ds=>dI (fun x1 ds=>dI (fun x2 ds=>dI (fun x3 ds=>dL (fun x4 ds=>dI (fun x5 ds=>dE ((Z72 x0 x1 x2 x3 x4 x5).bind (fun y=>k 0 [.L y])) ds) ds) ds) ds) ds) ds) ds⟩
theorem q_Z72 (x0:List D) (x1 x2 x3:Int) (x4:List D) (x5:Int):J5 (Jv []) (Jw [e_Z71]) A 97 Try.f97 (Sh.mks e_Z72.sh [.L x0,.I x1,.I x2,.I x3,.L x4,.I x5]).1 (fun v os=>some (v,os))=c_Z72 x0 x1 x2 x3 x4 x5 (fun y=>J9 e_Z72 0 [.L y]):=by kernel_rfl
theorem e_Z72_ok:e_Z72.ok Try.prog A:=by
 intro R ds k r h
 unfold e_Z72 at h
 obtain ⟨_,_,rfl,h⟩:=Jd h
 obtain ⟨_,_,rfl,h⟩:=Ja h
 obtain ⟨_,_,rfl,h⟩:=Ja h
 obtain ⟨_,_,rfl,h⟩:=Ja h
 obtain ⟨_,_,rfl,h⟩:=Jd h
 obtain ⟨_,_,rfl,h⟩:=Ja h
 obtain ⟨rfl,hE⟩:=Jg h
 obtain ⟨y,hy,hk⟩:=Jh hE
 exact ⟨0,_,_,_,hk,rfl,Qa px (fx:=⟨Try.func97,by kernel_rfl,by kernel_rfl⟩) Js (Jx e_Z71_ok Jt) ((q_Z72 ..).trans ((c_Z72_bind ..).trans (Jj hy)))⟩

/-!-/
abbrev T_Z73:=Int→List D→Int→Int→Int→List D→Option (Int×List D×Int×Int×List D)
def c_Z73 {R:Type} (F:T_Z73) (x0:Int) (x1:List D) (x2 x3 x4:Int) (x5:List D) (k:Int×List D×Int×Int×List D→Option R):Option R:=
 bif !decide (x3=x4) then
 bif decide (x4<x3) then
 (Z72 x5 (IntKind.i64.wrap (x0 - x3)) x0 x4 x1 x2).bind (fun y0=>
 (F x0 x1 x2 (IntKind.i64.wrap (x3 - x4)) x4 y0).bind k)
 else
 (Z72 x5 (IntKind.i64.wrap (x0 - x3)) (IntKind.i64.wrap (IntKind.i64.wrap (x0+x4) - x3)) x3 x1 x2).bind (fun y1=>
 (F x0 x1 x2 x3 (IntKind.i64.wrap (x4 - x3)) y1).bind k)
 else
 k (x0,x1,x2,x3,x5)
theorem c_Z73_bind {R:Type} (F:T_Z73) (x0:Int) (x1:List D) (x2 x3 x4:Int) (x5:List D) (k:Int×List D×Int×Int×List D→Option R):c_Z73 F x0 x1 x2 x3 x4 x5 k=(c_Z73 F x0 x1 x2 x3 x4 x5 some).bind k:=by
 unfold c_Z73
 repeat' first
  | exact JH
  | exact JG
  | exact JF
  | apply JC
  | apply JD
  | apply JI
  | (apply JE; intro _)
  | intro _
def n_Z73:Nat→T_Z73
 | 0,_,_,_,_,_,_=>none
 | n+1,x0,x1,x2,x3,x4,x5=>c_Z73 (n_Z73 n) x0 x1 x2 x3 x4 x5 some
noncomputable def Z73 (x0:Int) (x1:List D) (x2 x3 x4:Int) (x5:List D):Option (Int×List D×Int×Int×List D):=ev (fun n=>n_Z73 n x0 x1 x2 x3 x4 x5)
def m_Z73 (F:T_Z73):Jz:=⟨2,⟨(.full 1000 [] (.int .i64)::.undef::.int .i64::.undef::.fn 60 [.rp (.rd (.int .i64)),.rp (.int .i64)]::uu 5 (.int .i64::.int .i64::uu 46 ([]))),[(1000,.own (.int .i64))]⟩,[(.exit 0,⟨(.full 1000 [] (.int .i64)::.undef::.int .i64::.undef::.fn 60 [.rp (.rd (.int .i64)),.rp (.int .i64)]::uu 5 (.int .i64::uu 47 ([]))),[(1000,.own (.int .i64))]⟩)],fun _ ds k=>dI (fun x0 ds=>dL (fun x1 ds=>dI (fun x2 ds=>dI (fun x3 ds=>dI (fun x4 ds=>dL (fun x5 ds=>dE ((F x0 x1 x2 x3 x4 x5).bind (fun y=>k 0 [.I y.1,.L y.2.1,.I y.2.2.1,.I y.2.2.2.1,.L y.2.2.2.2])) ds) ds) ds) ds) ds) ds) ds⟩
theorem q_Z73 (F:T_Z73) (x0:Int) (x1:List D) (x2 x3 x4:Int) (x5:List D):Qg (Jv [e_Z72]) (Jw [m_Z73 F]) A 95 (Jm (Jl Try.f95) 2) ((m_Z73 F).sh.mk' [.I x0,.L x1,.I x2,.I x3,.I x4,.L x5]) (fun e σ'=>some (e,σ'))=c_Z73 F x0 x1 x2 x3 x4 x5 (fun y=>some (.exit 0,SSt.mk' ⟨(.full 1000 [] (.int .i64)::.undef::.int .i64::.undef::.fn 60 [.rp (.rd (.int .i64)),.rp (.int .i64)]::uu 5 (.int .i64::uu 47 ([]))),[(1000,.own (.int .i64))]⟩ [.I y.1,.L y.2.1,.I y.2.2.1,.I y.2.2.2.1,.L y.2.2.2.2])):=by kernel_rfl
theorem m_Z73_ok:∀ n,(m_Z73 (n_Z73 n)).ok Try.prog (Jm (Jl Try.f95) 2):=by
 intro n
 induction n with
 | zero=>
  intro R ds k r h
  unfold m_Z73 at h
  obtain ⟨_,_,rfl,h⟩:=Ja h
  obtain ⟨_,_,rfl,h⟩:=Jd h
  obtain ⟨_,_,rfl,h⟩:=Ja h
  obtain ⟨_,_,rfl,h⟩:=Ja h
  obtain ⟨_,_,rfl,h⟩:=Ja h
  obtain ⟨_,_,rfl,h⟩:=Jd h
  obtain ⟨rfl,hE⟩:=Jg h
  obtain ⟨y,hy,hk⟩:=Jh hE
  cases hy
 | succ n ih=>
  intro R ds k r h
  unfold m_Z73 at h
  obtain ⟨_,_,rfl,h⟩:=Ja h
  obtain ⟨_,_,rfl,h⟩:=Jd h
  obtain ⟨_,_,rfl,h⟩:=Ja h
  obtain ⟨_,_,rfl,h⟩:=Ja h
  obtain ⟨_,_,rfl,h⟩:=Ja h
  obtain ⟨_,_,rfl,h⟩:=Jd h
  obtain ⟨rfl,hE⟩:=Jg h
  obtain ⟨y,hy,hk⟩:=Jh hE
  exact ⟨0,_,_,_,hk,rfl,J6 px (fx:=⟨Try.func95,by kernel_rfl,by kernel_rfl⟩) (JR e_Z72_ok Js) (Jx ih Jt) (by kernel_rfl) ((q_Z73 ..).trans ((c_Z73_bind ..).trans (Jj hy)))⟩
noncomputable def e_Z73:Jz:=m_Z73 (Z73)
theorem e_Z73_ok:(e_Z73).ok Try.prog (Jm (Jl Try.f95) 2):=by
 intro R ds k r h
 unfold e_Z73 m_Z73 at h
 obtain ⟨_,_,rfl,h⟩:=Ja h
 obtain ⟨_,_,rfl,h⟩:=Jd h
 obtain ⟨_,_,rfl,h⟩:=Ja h
 obtain ⟨_,_,rfl,h⟩:=Ja h
 obtain ⟨_,_,rfl,h⟩:=Ja h
 obtain ⟨_,_,rfl,h⟩:=Jd h
 obtain ⟨rfl,hE⟩:=Jg h
 obtain ⟨y,hy,hk⟩:=Jh hE
 obtain ⟨n,hn⟩:=Qh hy
 exact m_Z73_ok n R _ k r ((Jj hn).trans hk)

/-!-/
def c_Z74 {R:Type} (x0:List D) (x1 x2 x3:Int) (x4:List D) (x5:Int) (k:List D→Option R):Option R:=
 (Z73 x2 x4 x5 (IntKind.i64.wrap (x2 - x1)) (IntKind.i64.wrap (x3 - x2)) x0).bind (fun y0=>
 (Z72 y0.snd.snd.snd.snd (IntKind.i64.wrap (y0.fst - y0.snd.snd.snd.fst)) y0.fst y0.snd.snd.snd.fst y0.snd.fst y0.snd.snd.fst).bind (fun y1=>
 k y1))
theorem c_Z74_bind {R:Type} (x0:List D) (x1 x2 x3:Int) (x4:List D) (x5:Int) (k:List D→Option R):c_Z74 x0 x1 x2 x3 x4 x5 k=(c_Z74 x0 x1 x2 x3 x4 x5 some).bind k:=by
 unfold c_Z74
 repeat' first
  | exact JH
  | exact JG
  | exact JF
  | apply JC
  | apply JD
  | apply JI
  | (apply JE; intro _)
  | intro _
def Z74 (x0:List D) (x1 x2 x3:Int) (x4:List D) (x5:Int):Option (List D):=c_Z74 x0 x1 x2 x3 x4 x5 some
def e_Z74:Ent:=⟨95,[.own (.int .i64),.int .i64,.int .i64,.int .i64,.fn 60 [.rp (.rd (.int .i64)),.rp (.int .i64)]],[(.tup [],(.own (.int .i64)::uu 4 ([])))],fun _ ds k=>dL (fun x0 ds=>dI (fun x1 ds=>dI (fun x2 ds=>dI (fun x3 ds=>dL (fun x4 ds=>dI (fun x5 ds=>dE ((Z74 x0 x1 x2 x3 x4 x5).bind (fun y=>k 0 [.L y])) ds) ds) ds) ds) ds) ds) ds⟩
theorem q_Z74 (x0:List D) (x1 x2 x3:Int) (x4:List D) (x5:Int):J5 (Jv [e_Z72]) (Jw [e_Z73]) A 95 Try.f95 (Sh.mks e_Z74.sh [.L x0,.I x1,.I x2,.I x3,.L x4,.I x5]).1 (fun v os=>some (v,os))=c_Z74 x0 x1 x2 x3 x4 x5 (fun y=>J9 e_Z74 0 [.L y]):=by kernel_rfl
theorem e_Z74_ok:e_Z74.ok Try.prog A:=by
 intro R ds k r h
 unfold e_Z74 at h
 obtain ⟨_,_,rfl,h⟩:=Jd h
 obtain ⟨_,_,rfl,h⟩:=Ja h
 obtain ⟨_,_,rfl,h⟩:=Ja h
 obtain ⟨_,_,rfl,h⟩:=Ja h
 obtain ⟨_,_,rfl,h⟩:=Jd h
 obtain ⟨_,_,rfl,h⟩:=Ja h
 obtain ⟨rfl,hE⟩:=Jg h
 obtain ⟨y,hy,hk⟩:=Jh hE
 exact ⟨0,_,_,_,hk,rfl,Qa px (fx:=⟨Try.func95,by kernel_rfl,by kernel_rfl⟩) (JR e_Z72_ok Js) (Jx e_Z73_ok Jt) ((q_Z74 ..).trans ((c_Z74_bind ..).trans (Jj hy)))⟩

/-!-/
abbrev T_Z75:=List D→Int→Int→Int→List D→Int→Option (List D)
def c_Z75 {R:Type} (F:T_Z75) (x0:List D) (x1 x2 x3:Int) (x4:List D) (x5:Int) (k:List D→Option R):Option R:=
 bif decide (IntKind.i64.wrap (x2 - x1)=(1:Int)) then
 (Z66 x1 x4 x5 x2 x3 x0).bind (fun y0=>
 (Z67 y0.snd.fst y0.fst y0.snd.snd).bind (fun y1=>
 k y1))
 else
 bif decide (IntKind.i64.wrap (x3 - x2)=(1:Int)) then
 (Z68 x2 x4 x5 x1 x2 x0).bind (fun y2=>
 (Z69 y2.snd.fst y2.fst y2.snd.snd).bind (fun y3=>
 k y3))
 else
 if (0:Int)≤(1:Int) then
 bif decide (IntKind.i64.wrap ((IntKind.u64.wrap (IntKind.i64.wrap (x1+x3))).fdiv ((2:Int) ^ Min.min (Int.toNat (1:Int)) IntKind.u64.bits))<x2) then
 (Z70 x1 x2 x3 x4 x5 (IntKind.i64.wrap ((IntKind.u64.wrap (IntKind.i64.wrap (x1+x3))).fdiv ((2:Int) ^ Min.min (Int.toNat (1:Int)) IntKind.u64.bits))) (IntKind.i64.wrap (IntKind.i64.wrap ((IntKind.u64.wrap (IntKind.i64.wrap (x1+x3))).fdiv ((2:Int) ^ Min.min (Int.toNat (1:Int)) IntKind.u64.bits))+x2)) (IntKind.i64.wrap (IntKind.i64.wrap (IntKind.i64.wrap ((IntKind.u64.wrap (IntKind.i64.wrap (x1+x3))).fdiv ((2:Int) ^ Min.min (Int.toNat (1:Int)) IntKind.u64.bits))+x2) - x3)) (IntKind.i64.wrap ((IntKind.u64.wrap (IntKind.i64.wrap (x1+x3))).fdiv ((2:Int) ^ Min.min (Int.toNat (1:Int)) IntKind.u64.bits))) (IntKind.i64.wrap (IntKind.i64.wrap (IntKind.i64.wrap ((IntKind.u64.wrap (IntKind.i64.wrap (x1+x3))).fdiv ((2:Int) ^ Min.min (Int.toNat (1:Int)) IntKind.u64.bits))+x2) - (1:Int))) x0).bind (fun y4=>
 bif decide (y4.snd.snd.snd.snd.snd.snd.snd.fst<y4.snd.fst) then
 bif decide (y4.snd.fst<IntKind.i64.wrap (y4.snd.snd.snd.snd.snd.snd.fst - y4.snd.snd.snd.snd.snd.snd.snd.fst)) then
 (Z74 y4.snd.snd.snd.snd.snd.snd.snd.snd y4.snd.snd.snd.snd.snd.snd.snd.fst y4.snd.fst (IntKind.i64.wrap (y4.snd.snd.snd.snd.snd.snd.fst - y4.snd.snd.snd.snd.snd.snd.snd.fst)) y4.snd.snd.snd.fst y4.snd.snd.snd.snd.fst).bind (fun y5=>
 bif decide (y4.fst<y4.snd.snd.snd.snd.snd.snd.snd.fst) then
 bif decide (y4.snd.snd.snd.snd.snd.snd.snd.fst<y4.snd.snd.snd.snd.snd.fst) then
 (F y5 y4.fst y4.snd.snd.snd.snd.snd.snd.snd.fst y4.snd.snd.snd.snd.snd.fst y4.snd.snd.snd.fst y4.snd.snd.snd.snd.fst).bind (fun y6=>
 bif decide (y4.snd.snd.snd.snd.snd.fst<IntKind.i64.wrap (y4.snd.snd.snd.snd.snd.snd.fst - y4.snd.snd.snd.snd.snd.snd.snd.fst)) then
 bif decide (IntKind.i64.wrap (y4.snd.snd.snd.snd.snd.snd.fst - y4.snd.snd.snd.snd.snd.snd.snd.fst)<y4.snd.snd.fst) then
 (F y6 y4.snd.snd.snd.snd.snd.fst (IntKind.i64.wrap (y4.snd.snd.snd.snd.snd.snd.fst - y4.snd.snd.snd.snd.snd.snd.snd.fst)) y4.snd.snd.fst y4.snd.snd.snd.fst y4.snd.snd.snd.snd.fst).bind (fun y7=>
 k y7)
 else
 k y6
 else
 k y6)
 else
 bif decide (y4.snd.snd.snd.snd.snd.fst<IntKind.i64.wrap (y4.snd.snd.snd.snd.snd.snd.fst - y4.snd.snd.snd.snd.snd.snd.snd.fst)) then
 bif decide (IntKind.i64.wrap (y4.snd.snd.snd.snd.snd.snd.fst - y4.snd.snd.snd.snd.snd.snd.snd.fst)<y4.snd.snd.fst) then
 (F y5 y4.snd.snd.snd.snd.snd.fst (IntKind.i64.wrap (y4.snd.snd.snd.snd.snd.snd.fst - y4.snd.snd.snd.snd.snd.snd.snd.fst)) y4.snd.snd.fst y4.snd.snd.snd.fst y4.snd.snd.snd.snd.fst).bind (fun y8=>
 k y8)
 else
 k y5
 else
 k y5
 else
 bif decide (y4.snd.snd.snd.snd.snd.fst<IntKind.i64.wrap (y4.snd.snd.snd.snd.snd.snd.fst - y4.snd.snd.snd.snd.snd.snd.snd.fst)) then
 bif decide (IntKind.i64.wrap (y4.snd.snd.snd.snd.snd.snd.fst - y4.snd.snd.snd.snd.snd.snd.snd.fst)<y4.snd.snd.fst) then
 (F y5 y4.snd.snd.snd.snd.snd.fst (IntKind.i64.wrap (y4.snd.snd.snd.snd.snd.snd.fst - y4.snd.snd.snd.snd.snd.snd.snd.fst)) y4.snd.snd.fst y4.snd.snd.snd.fst y4.snd.snd.snd.snd.fst).bind (fun y9=>
 k y9)
 else
 k y5
 else
 k y5)
 else
 bif decide (y4.fst<y4.snd.snd.snd.snd.snd.snd.snd.fst) then
 bif decide (y4.snd.snd.snd.snd.snd.snd.snd.fst<y4.snd.snd.snd.snd.snd.fst) then
 (F y4.snd.snd.snd.snd.snd.snd.snd.snd y4.fst y4.snd.snd.snd.snd.snd.snd.snd.fst y4.snd.snd.snd.snd.snd.fst y4.snd.snd.snd.fst y4.snd.snd.snd.snd.fst).bind (fun y10=>
 bif decide (y4.snd.snd.snd.snd.snd.fst<IntKind.i64.wrap (y4.snd.snd.snd.snd.snd.snd.fst - y4.snd.snd.snd.snd.snd.snd.snd.fst)) then
 bif decide (IntKind.i64.wrap (y4.snd.snd.snd.snd.snd.snd.fst - y4.snd.snd.snd.snd.snd.snd.snd.fst)<y4.snd.snd.fst) then
 (F y10 y4.snd.snd.snd.snd.snd.fst (IntKind.i64.wrap (y4.snd.snd.snd.snd.snd.snd.fst - y4.snd.snd.snd.snd.snd.snd.snd.fst)) y4.snd.snd.fst y4.snd.snd.snd.fst y4.snd.snd.snd.snd.fst).bind (fun y11=>
 k y11)
 else
 k y10
 else
 k y10)
 else
 bif decide (y4.snd.snd.snd.snd.snd.fst<IntKind.i64.wrap (y4.snd.snd.snd.snd.snd.snd.fst - y4.snd.snd.snd.snd.snd.snd.snd.fst)) then
 bif decide (IntKind.i64.wrap (y4.snd.snd.snd.snd.snd.snd.fst - y4.snd.snd.snd.snd.snd.snd.snd.fst)<y4.snd.snd.fst) then
 (F y4.snd.snd.snd.snd.snd.snd.snd.snd y4.snd.snd.snd.snd.snd.fst (IntKind.i64.wrap (y4.snd.snd.snd.snd.snd.snd.fst - y4.snd.snd.snd.snd.snd.snd.snd.fst)) y4.snd.snd.fst y4.snd.snd.snd.fst y4.snd.snd.snd.snd.fst).bind (fun y12=>
 k y12)
 else
 k y4.snd.snd.snd.snd.snd.snd.snd.snd
 else
 k y4.snd.snd.snd.snd.snd.snd.snd.snd
 else
 bif decide (y4.snd.snd.snd.snd.snd.fst<IntKind.i64.wrap (y4.snd.snd.snd.snd.snd.snd.fst - y4.snd.snd.snd.snd.snd.snd.snd.fst)) then
 bif decide (IntKind.i64.wrap (y4.snd.snd.snd.snd.snd.snd.fst - y4.snd.snd.snd.snd.snd.snd.snd.fst)<y4.snd.snd.fst) then
 (F y4.snd.snd.snd.snd.snd.snd.snd.snd y4.snd.snd.snd.snd.snd.fst (IntKind.i64.wrap (y4.snd.snd.snd.snd.snd.snd.fst - y4.snd.snd.snd.snd.snd.snd.snd.fst)) y4.snd.snd.fst y4.snd.snd.snd.fst y4.snd.snd.snd.snd.fst).bind (fun y13=>
 k y13)
 else
 k y4.snd.snd.snd.snd.snd.snd.snd.snd
 else
 k y4.snd.snd.snd.snd.snd.snd.snd.snd
 else
 bif decide (y4.fst<y4.snd.snd.snd.snd.snd.snd.snd.fst) then
 bif decide (y4.snd.snd.snd.snd.snd.snd.snd.fst<y4.snd.snd.snd.snd.snd.fst) then
 (F y4.snd.snd.snd.snd.snd.snd.snd.snd y4.fst y4.snd.snd.snd.snd.snd.snd.snd.fst y4.snd.snd.snd.snd.snd.fst y4.snd.snd.snd.fst y4.snd.snd.snd.snd.fst).bind (fun y14=>
 bif decide (y4.snd.snd.snd.snd.snd.fst<IntKind.i64.wrap (y4.snd.snd.snd.snd.snd.snd.fst - y4.snd.snd.snd.snd.snd.snd.snd.fst)) then
 bif decide (IntKind.i64.wrap (y4.snd.snd.snd.snd.snd.snd.fst - y4.snd.snd.snd.snd.snd.snd.snd.fst)<y4.snd.snd.fst) then
 (F y14 y4.snd.snd.snd.snd.snd.fst (IntKind.i64.wrap (y4.snd.snd.snd.snd.snd.snd.fst - y4.snd.snd.snd.snd.snd.snd.snd.fst)) y4.snd.snd.fst y4.snd.snd.snd.fst y4.snd.snd.snd.snd.fst).bind (fun y15=>
 k y15)
 else
 k y14
 else
 k y14)
 else
 bif decide (y4.snd.snd.snd.snd.snd.fst<IntKind.i64.wrap (y4.snd.snd.snd.snd.snd.snd.fst - y4.snd.snd.snd.snd.snd.snd.snd.fst)) then
 bif decide (IntKind.i64.wrap (y4.snd.snd.snd.snd.snd.snd.fst - y4.snd.snd.snd.snd.snd.snd.snd.fst)<y4.snd.snd.fst) then
 (F y4.snd.snd.snd.snd.snd.snd.snd.snd y4.snd.snd.snd.snd.snd.fst (IntKind.i64.wrap (y4.snd.snd.snd.snd.snd.snd.fst - y4.snd.snd.snd.snd.snd.snd.snd.fst)) y4.snd.snd.fst y4.snd.snd.snd.fst y4.snd.snd.snd.snd.fst).bind (fun y16=>
 k y16)
 else
 k y4.snd.snd.snd.snd.snd.snd.snd.snd
 else
 k y4.snd.snd.snd.snd.snd.snd.snd.snd
 else
 bif decide (y4.snd.snd.snd.snd.snd.fst<IntKind.i64.wrap (y4.snd.snd.snd.snd.snd.snd.fst - y4.snd.snd.snd.snd.snd.snd.snd.fst)) then
 bif decide (IntKind.i64.wrap (y4.snd.snd.snd.snd.snd.snd.fst - y4.snd.snd.snd.snd.snd.snd.snd.fst)<y4.snd.snd.fst) then
 (F y4.snd.snd.snd.snd.snd.snd.snd.snd y4.snd.snd.snd.snd.snd.fst (IntKind.i64.wrap (y4.snd.snd.snd.snd.snd.snd.fst - y4.snd.snd.snd.snd.snd.snd.snd.fst)) y4.snd.snd.fst y4.snd.snd.snd.fst y4.snd.snd.snd.snd.fst).bind (fun y17=>
 k y17)
 else
 k y4.snd.snd.snd.snd.snd.snd.snd.snd
 else
 k y4.snd.snd.snd.snd.snd.snd.snd.snd)
 else
 (Z70 x1 x2 x3 x4 x5 (IntKind.i64.wrap ((IntKind.u64.wrap (IntKind.i64.wrap (x1+x3))).fdiv ((2:Int) ^ Min.min (Int.toNat (1:Int)) IntKind.u64.bits))) (IntKind.i64.wrap (IntKind.i64.wrap ((IntKind.u64.wrap (IntKind.i64.wrap (x1+x3))).fdiv ((2:Int) ^ Min.min (Int.toNat (1:Int)) IntKind.u64.bits))+x2)) x1 x2 (IntKind.i64.wrap (IntKind.i64.wrap (IntKind.i64.wrap ((IntKind.u64.wrap (IntKind.i64.wrap (x1+x3))).fdiv ((2:Int) ^ Min.min (Int.toNat (1:Int)) IntKind.u64.bits))+x2) - (1:Int))) x0).bind (fun y18=>
 bif decide (y18.snd.snd.snd.snd.snd.snd.snd.fst<y18.snd.fst) then
 bif decide (y18.snd.fst<IntKind.i64.wrap (y18.snd.snd.snd.snd.snd.snd.fst - y18.snd.snd.snd.snd.snd.snd.snd.fst)) then
 (Z74 y18.snd.snd.snd.snd.snd.snd.snd.snd y18.snd.snd.snd.snd.snd.snd.snd.fst y18.snd.fst (IntKind.i64.wrap (y18.snd.snd.snd.snd.snd.snd.fst - y18.snd.snd.snd.snd.snd.snd.snd.fst)) y18.snd.snd.snd.fst y18.snd.snd.snd.snd.fst).bind (fun y19=>
 bif decide (y18.fst<y18.snd.snd.snd.snd.snd.snd.snd.fst) then
 bif decide (y18.snd.snd.snd.snd.snd.snd.snd.fst<y18.snd.snd.snd.snd.snd.fst) then
 (F y19 y18.fst y18.snd.snd.snd.snd.snd.snd.snd.fst y18.snd.snd.snd.snd.snd.fst y18.snd.snd.snd.fst y18.snd.snd.snd.snd.fst).bind (fun y20=>
 bif decide (y18.snd.snd.snd.snd.snd.fst<IntKind.i64.wrap (y18.snd.snd.snd.snd.snd.snd.fst - y18.snd.snd.snd.snd.snd.snd.snd.fst)) then
 bif decide (IntKind.i64.wrap (y18.snd.snd.snd.snd.snd.snd.fst - y18.snd.snd.snd.snd.snd.snd.snd.fst)<y18.snd.snd.fst) then
 (F y20 y18.snd.snd.snd.snd.snd.fst (IntKind.i64.wrap (y18.snd.snd.snd.snd.snd.snd.fst - y18.snd.snd.snd.snd.snd.snd.snd.fst)) y18.snd.snd.fst y18.snd.snd.snd.fst y18.snd.snd.snd.snd.fst).bind (fun y21=>
 k y21)
 else
 k y20
 else
 k y20)
 else
 bif decide (y18.snd.snd.snd.snd.snd.fst<IntKind.i64.wrap (y18.snd.snd.snd.snd.snd.snd.fst - y18.snd.snd.snd.snd.snd.snd.snd.fst)) then
 bif decide (IntKind.i64.wrap (y18.snd.snd.snd.snd.snd.snd.fst - y18.snd.snd.snd.snd.snd.snd.snd.fst)<y18.snd.snd.fst) then
 (F y19 y18.snd.snd.snd.snd.snd.fst (IntKind.i64.wrap (y18.snd.snd.snd.snd.snd.snd.fst - y18.snd.snd.snd.snd.snd.snd.snd.fst)) y18.snd.snd.fst y18.snd.snd.snd.fst y18.snd.snd.snd.snd.fst).bind (fun y22=>
 k y22)
 else
 k y19
 else
 k y19
 else
 bif decide (y18.snd.snd.snd.snd.snd.fst<IntKind.i64.wrap (y18.snd.snd.snd.snd.snd.snd.fst - y18.snd.snd.snd.snd.snd.snd.snd.fst)) then
 bif decide (IntKind.i64.wrap (y18.snd.snd.snd.snd.snd.snd.fst - y18.snd.snd.snd.snd.snd.snd.snd.fst)<y18.snd.snd.fst) then
 (F y19 y18.snd.snd.snd.snd.snd.fst (IntKind.i64.wrap (y18.snd.snd.snd.snd.snd.snd.fst - y18.snd.snd.snd.snd.snd.snd.snd.fst)) y18.snd.snd.fst y18.snd.snd.snd.fst y18.snd.snd.snd.snd.fst).bind (fun y23=>
 k y23)
 else
 k y19
 else
 k y19)
 else
 bif decide (y18.fst<y18.snd.snd.snd.snd.snd.snd.snd.fst) then
 bif decide (y18.snd.snd.snd.snd.snd.snd.snd.fst<y18.snd.snd.snd.snd.snd.fst) then
 (F y18.snd.snd.snd.snd.snd.snd.snd.snd y18.fst y18.snd.snd.snd.snd.snd.snd.snd.fst y18.snd.snd.snd.snd.snd.fst y18.snd.snd.snd.fst y18.snd.snd.snd.snd.fst).bind (fun y24=>
 bif decide (y18.snd.snd.snd.snd.snd.fst<IntKind.i64.wrap (y18.snd.snd.snd.snd.snd.snd.fst - y18.snd.snd.snd.snd.snd.snd.snd.fst)) then
 bif decide (IntKind.i64.wrap (y18.snd.snd.snd.snd.snd.snd.fst - y18.snd.snd.snd.snd.snd.snd.snd.fst)<y18.snd.snd.fst) then
 (F y24 y18.snd.snd.snd.snd.snd.fst (IntKind.i64.wrap (y18.snd.snd.snd.snd.snd.snd.fst - y18.snd.snd.snd.snd.snd.snd.snd.fst)) y18.snd.snd.fst y18.snd.snd.snd.fst y18.snd.snd.snd.snd.fst).bind (fun y25=>
 k y25)
 else
 k y24
 else
 k y24)
 else
 bif decide (y18.snd.snd.snd.snd.snd.fst<IntKind.i64.wrap (y18.snd.snd.snd.snd.snd.snd.fst - y18.snd.snd.snd.snd.snd.snd.snd.fst)) then
 bif decide (IntKind.i64.wrap (y18.snd.snd.snd.snd.snd.snd.fst - y18.snd.snd.snd.snd.snd.snd.snd.fst)<y18.snd.snd.fst) then
 (F y18.snd.snd.snd.snd.snd.snd.snd.snd y18.snd.snd.snd.snd.snd.fst (IntKind.i64.wrap (y18.snd.snd.snd.snd.snd.snd.fst - y18.snd.snd.snd.snd.snd.snd.snd.fst)) y18.snd.snd.fst y18.snd.snd.snd.fst y18.snd.snd.snd.snd.fst).bind (fun y26=>
 k y26)
 else
 k y18.snd.snd.snd.snd.snd.snd.snd.snd
 else
 k y18.snd.snd.snd.snd.snd.snd.snd.snd
 else
 bif decide (y18.snd.snd.snd.snd.snd.fst<IntKind.i64.wrap (y18.snd.snd.snd.snd.snd.snd.fst - y18.snd.snd.snd.snd.snd.snd.snd.fst)) then
 bif decide (IntKind.i64.wrap (y18.snd.snd.snd.snd.snd.snd.fst - y18.snd.snd.snd.snd.snd.snd.snd.fst)<y18.snd.snd.fst) then
 (F y18.snd.snd.snd.snd.snd.snd.snd.snd y18.snd.snd.snd.snd.snd.fst (IntKind.i64.wrap (y18.snd.snd.snd.snd.snd.snd.fst - y18.snd.snd.snd.snd.snd.snd.snd.fst)) y18.snd.snd.fst y18.snd.snd.snd.fst y18.snd.snd.snd.snd.fst).bind (fun y27=>
 k y27)
 else
 k y18.snd.snd.snd.snd.snd.snd.snd.snd
 else
 k y18.snd.snd.snd.snd.snd.snd.snd.snd
 else
 bif decide (y18.fst<y18.snd.snd.snd.snd.snd.snd.snd.fst) then
 bif decide (y18.snd.snd.snd.snd.snd.snd.snd.fst<y18.snd.snd.snd.snd.snd.fst) then
 (F y18.snd.snd.snd.snd.snd.snd.snd.snd y18.fst y18.snd.snd.snd.snd.snd.snd.snd.fst y18.snd.snd.snd.snd.snd.fst y18.snd.snd.snd.fst y18.snd.snd.snd.snd.fst).bind (fun y28=>
 bif decide (y18.snd.snd.snd.snd.snd.fst<IntKind.i64.wrap (y18.snd.snd.snd.snd.snd.snd.fst - y18.snd.snd.snd.snd.snd.snd.snd.fst)) then
 bif decide (IntKind.i64.wrap (y18.snd.snd.snd.snd.snd.snd.fst - y18.snd.snd.snd.snd.snd.snd.snd.fst)<y18.snd.snd.fst) then
 (F y28 y18.snd.snd.snd.snd.snd.fst (IntKind.i64.wrap (y18.snd.snd.snd.snd.snd.snd.fst - y18.snd.snd.snd.snd.snd.snd.snd.fst)) y18.snd.snd.fst y18.snd.snd.snd.fst y18.snd.snd.snd.snd.fst).bind (fun y29=>
 k y29)
 else
 k y28
 else
 k y28)
 else
 bif decide (y18.snd.snd.snd.snd.snd.fst<IntKind.i64.wrap (y18.snd.snd.snd.snd.snd.snd.fst - y18.snd.snd.snd.snd.snd.snd.snd.fst)) then
 bif decide (IntKind.i64.wrap (y18.snd.snd.snd.snd.snd.snd.fst - y18.snd.snd.snd.snd.snd.snd.snd.fst)<y18.snd.snd.fst) then
 (F y18.snd.snd.snd.snd.snd.snd.snd.snd y18.snd.snd.snd.snd.snd.fst (IntKind.i64.wrap (y18.snd.snd.snd.snd.snd.snd.fst - y18.snd.snd.snd.snd.snd.snd.snd.fst)) y18.snd.snd.fst y18.snd.snd.snd.fst y18.snd.snd.snd.snd.fst).bind (fun y30=>
 k y30)
 else
 k y18.snd.snd.snd.snd.snd.snd.snd.snd
 else
 k y18.snd.snd.snd.snd.snd.snd.snd.snd
 else
 bif decide (y18.snd.snd.snd.snd.snd.fst<IntKind.i64.wrap (y18.snd.snd.snd.snd.snd.snd.fst - y18.snd.snd.snd.snd.snd.snd.snd.fst)) then
 bif decide (IntKind.i64.wrap (y18.snd.snd.snd.snd.snd.snd.fst - y18.snd.snd.snd.snd.snd.snd.snd.fst)<y18.snd.snd.fst) then
 (F y18.snd.snd.snd.snd.snd.snd.snd.snd y18.snd.snd.snd.snd.snd.fst (IntKind.i64.wrap (y18.snd.snd.snd.snd.snd.snd.fst - y18.snd.snd.snd.snd.snd.snd.snd.fst)) y18.snd.snd.fst y18.snd.snd.snd.fst y18.snd.snd.snd.snd.fst).bind (fun y31=>
 k y31)
 else
 k y18.snd.snd.snd.snd.snd.snd.snd.snd
 else
 k y18.snd.snd.snd.snd.snd.snd.snd.snd)
 else
 none
theorem c_Z75_bind {R:Type} (F:T_Z75) (x0:List D) (x1 x2 x3:Int) (x4:List D) (x5:Int) (k:List D→Option R):c_Z75 F x0 x1 x2 x3 x4 x5 k=(c_Z75 F x0 x1 x2 x3 x4 x5 some).bind k:=by
 unfold c_Z75
 repeat' first
  | exact JH
  | exact JG
  | exact JF
  | apply JC
  | apply JD
  | apply JI
  | (apply JE; intro _)
  | intro _
def n_Z75:Nat→T_Z75
 | 0,_,_,_,_,_,_=>none
 | n+1,x0,x1,x2,x3,x4,x5=>c_Z75 (n_Z75 n) x0 x1 x2 x3 x4 x5 some
noncomputable def Z75 (x0:List D) (x1 x2 x3:Int) (x4:List D) (x5:Int):Option (List D):=ev (fun n=>n_Z75 n x0 x1 x2 x3 x4 x5)
def m_Z75 (F:T_Z75):Ent:=⟨88,[.own (.int .i64),.int .i64,.int .i64,.int .i64,.fn 60 [.rp (.rd (.int .i64)),.rp (.int .i64)]],[(.tup [],(.own (.int .i64)::uu 4 ([])))],fun _ ds k=>dL (fun x0 ds=>dI (fun x1 ds=>dI (fun x2 ds=>dI (fun x3 ds=>dL (fun x4 ds=>dI (fun x5 ds=>dE ((F x0 x1 x2 x3 x4 x5).bind (fun y=>k 0 [.L y])) ds) ds) ds) ds) ds) ds) ds⟩
theorem q_Z75 (F:T_Z75) (x0:List D) (x1 x2 x3:Int) (x4:List D) (x5:Int):J5 (Jv [e_Z74,m_Z75 F]) (Jw [e_Z66,e_Z67,e_Z68,e_Z69,e_Z70]) A 88 Try.f88 (Sh.mks (m_Z75 F).sh [.L x0,.I x1,.I x2,.I x3,.L x4,.I x5]).1 (fun v os=>some (v,os))=c_Z75 F x0 x1 x2 x3 x4 x5 (fun y=>J9 (m_Z75 F) 0 [.L y]):=by kernel_rfl
theorem m_Z75_ok:∀ n,(m_Z75 (n_Z75 n)).ok Try.prog A:=by
 intro n
 induction n with
 | zero=>
  intro R ds k r h
  unfold m_Z75 at h
  obtain ⟨_,_,rfl,h⟩:=Jd h
  obtain ⟨_,_,rfl,h⟩:=Ja h
  obtain ⟨_,_,rfl,h⟩:=Ja h
  obtain ⟨_,_,rfl,h⟩:=Ja h
  obtain ⟨_,_,rfl,h⟩:=Jd h
  obtain ⟨_,_,rfl,h⟩:=Ja h
  obtain ⟨rfl,hE⟩:=Jg h
  obtain ⟨y,hy,hk⟩:=Jh hE
  cases hy
 | succ n ih=>
  intro R ds k r h
  unfold m_Z75 at h
  obtain ⟨_,_,rfl,h⟩:=Jd h
  obtain ⟨_,_,rfl,h⟩:=Ja h
  obtain ⟨_,_,rfl,h⟩:=Ja h
  obtain ⟨_,_,rfl,h⟩:=Ja h
  obtain ⟨_,_,rfl,h⟩:=Jd h
  obtain ⟨_,_,rfl,h⟩:=Ja h
  obtain ⟨rfl,hE⟩:=Jg h
  obtain ⟨y,hy,hk⟩:=Jh hE
  have hme:=ih
  exact ⟨0,_,_,_,hk,rfl,Qa px (fx:=⟨Try.func88,by kernel_rfl,by kernel_rfl⟩) (JR e_Z74_ok (JR (hme) Js)) (Jx e_Z66_ok (Jx e_Z67_ok (Jx e_Z68_ok (Jx e_Z69_ok (Jx e_Z70_ok Jt))))) ((q_Z75 ..).trans ((c_Z75_bind ..).trans (Jj hy)))⟩
def e_Z75:Ent:=m_Z75 Z75
theorem e_Z75_ok:e_Z75.ok Try.prog A:=by
 intro R ds k r h
 unfold e_Z75 m_Z75 at h
 obtain ⟨_,_,rfl,h⟩:=Jd h
 obtain ⟨_,_,rfl,h⟩:=Ja h
 obtain ⟨_,_,rfl,h⟩:=Ja h
 obtain ⟨_,_,rfl,h⟩:=Ja h
 obtain ⟨_,_,rfl,h⟩:=Jd h
 obtain ⟨_,_,rfl,h⟩:=Ja h
 obtain ⟨rfl,hE⟩:=Jg h
 obtain ⟨y,hy,hk⟩:=Jh hE
 obtain ⟨n,hn⟩:=Qh hy
 exact m_Z75_ok n R _ k r ((Jj hn).trans hk)

/-!-/
abbrev T_Z76:=Int→List D→Int→Int→Int→Int→List D→Option (Int×List D×Int×Int×Int×List D)
def c_Z76 {R:Type} (F:T_Z76) (x0:Int) (x1:List D) (x2 x3 x4 x5:Int) (x6:List D) (k:Int×List D×Int×Int×Int×List D→Option R):Option R:=
 bif decide (x5≤x0) then
 (Z75 x6 x4 (IntKind.i64.wrap (x4+x3)) x5 x1 x2).bind (fun y0=>
 (F x0 x1 x2 x3 x5 (IntKind.i64.wrap (x5+IntKind.i64.wrap ((2:Int) * x3))) y0).bind k)
 else
 k (x0,x1,x2,x3,x4,x6)
theorem c_Z76_bind {R:Type} (F:T_Z76) (x0:Int) (x1:List D) (x2 x3 x4 x5:Int) (x6:List D) (k:Int×List D×Int×Int×Int×List D→Option R):c_Z76 F x0 x1 x2 x3 x4 x5 x6 k=(c_Z76 F x0 x1 x2 x3 x4 x5 x6 some).bind k:=by
 unfold c_Z76
 repeat' first
  | exact JH
  | exact JG
  | exact JF
  | apply JC
  | apply JD
  | apply JI
  | (apply JE; intro _)
  | intro _
def n_Z76:Nat→T_Z76
 | 0,_,_,_,_,_,_,_=>none
 | n+1,x0,x1,x2,x3,x4,x5,x6=>c_Z76 (n_Z76 n) x0 x1 x2 x3 x4 x5 x6 some
noncomputable def Z76 (x0:Int) (x1:List D) (x2 x3 x4 x5:Int) (x6:List D):Option (Int×List D×Int×Int×Int×List D):=ev (fun n=>n_Z76 n x0 x1 x2 x3 x4 x5 x6)
def m_Z76 (F:T_Z76):Jz:=⟨9,⟨(.full 1000 [] (.int .i64)::.int .i64::.fn 60 [.rp (.rd (.int .i64)),.rp (.int .i64)]::.undef::.undef::.undef::.int .i64::.int .i64::.int .i64::uu 54 ([])),[(1000,.own (.int .i64))]⟩,[(.exit 4,⟨(.full 1000 [] (.int .i64)::.int .i64::.fn 60 [.rp (.rd (.int .i64)),.rp (.int .i64)]::.undef::.undef::.undef::.int .i64::.int .i64::uu 55 ([])),[(1000,.own (.int .i64))]⟩)],fun _ ds k=>dI (fun x0 ds=>dL (fun x1 ds=>dI (fun x2 ds=>dI (fun x3 ds=>dI (fun x4 ds=>dI (fun x5 ds=>dL (fun x6 ds=>dE ((F x0 x1 x2 x3 x4 x5 x6).bind (fun y=>k 0 [.I y.1,.L y.2.1,.I y.2.2.1,.I y.2.2.2.1,.I y.2.2.2.2.1,.L y.2.2.2.2.2])) ds) ds) ds) ds) ds) ds) ds) ds⟩
theorem q_Z76 (F:T_Z76) (x0:Int) (x1:List D) (x2 x3 x4 x5:Int) (x6:List D):Qg (Jv [e_Z75]) (Jw [m_Z76 F]) A 72 (Jm (Jl Try.f72) 9) ((m_Z76 F).sh.mk' [.I x0,.L x1,.I x2,.I x3,.I x4,.I x5,.L x6]) (fun e σ'=>some (e,σ'))=c_Z76 F x0 x1 x2 x3 x4 x5 x6 (fun y=>some (.exit 4,SSt.mk' ⟨(.full 1000 [] (.int .i64)::.int .i64::.fn 60 [.rp (.rd (.int .i64)),.rp (.int .i64)]::.undef::.undef::.undef::.int .i64::.int .i64::uu 55 ([])),[(1000,.own (.int .i64))]⟩ [.I y.1,.L y.2.1,.I y.2.2.1,.I y.2.2.2.1,.I y.2.2.2.2.1,.L y.2.2.2.2.2])):=by kernel_rfl
theorem m_Z76_ok:∀ n,(m_Z76 (n_Z76 n)).ok Try.prog (Jm (Jl Try.f72) 9):=by
 intro n
 induction n with
 | zero=>
  intro R ds k r h
  unfold m_Z76 at h
  obtain ⟨_,_,rfl,h⟩:=Ja h
  obtain ⟨_,_,rfl,h⟩:=Jd h
  obtain ⟨_,_,rfl,h⟩:=Ja h
  obtain ⟨_,_,rfl,h⟩:=Ja h
  obtain ⟨_,_,rfl,h⟩:=Ja h
  obtain ⟨_,_,rfl,h⟩:=Ja h
  obtain ⟨_,_,rfl,h⟩:=Jd h
  obtain ⟨rfl,hE⟩:=Jg h
  obtain ⟨y,hy,hk⟩:=Jh hE
  cases hy
 | succ n ih=>
  intro R ds k r h
  unfold m_Z76 at h
  obtain ⟨_,_,rfl,h⟩:=Ja h
  obtain ⟨_,_,rfl,h⟩:=Jd h
  obtain ⟨_,_,rfl,h⟩:=Ja h
  obtain ⟨_,_,rfl,h⟩:=Ja h
  obtain ⟨_,_,rfl,h⟩:=Ja h
  obtain ⟨_,_,rfl,h⟩:=Ja h
  obtain ⟨_,_,rfl,h⟩:=Jd h
  obtain ⟨rfl,hE⟩:=Jg h
  obtain ⟨y,hy,hk⟩:=Jh hE
  exact ⟨0,_,_,_,hk,rfl,J6 px (fx:=⟨Try.func72,by kernel_rfl,by kernel_rfl⟩) (JR e_Z75_ok Js) (Jx ih Jt) (by kernel_rfl) ((q_Z76 ..).trans ((c_Z76_bind ..).trans (Jj hy)))⟩
noncomputable def e_Z76:Jz:=m_Z76 (Z76)
theorem e_Z76_ok:(e_Z76).ok Try.prog (Jm (Jl Try.f72) 9):=by
 intro R ds k r h
 unfold e_Z76 m_Z76 at h
 obtain ⟨_,_,rfl,h⟩:=Ja h
 obtain ⟨_,_,rfl,h⟩:=Jd h
 obtain ⟨_,_,rfl,h⟩:=Ja h
 obtain ⟨_,_,rfl,h⟩:=Ja h
 obtain ⟨_,_,rfl,h⟩:=Ja h
 obtain ⟨_,_,rfl,h⟩:=Ja h
 obtain ⟨_,_,rfl,h⟩:=Jd h
 obtain ⟨rfl,hE⟩:=Jg h
 obtain ⟨y,hy,hk⟩:=Jh hE
 obtain ⟨n,hn⟩:=Qh hy
 exact m_Z76_ok n R _ k r ((Jj hn).trans hk)

/-!-/
abbrev T_Z77:=Int→List D→Int→Int→List D→Option (List D)
def c_Z77 {R:Type} (F:T_Z77) (x0:Int) (x1:List D) (x2 x3:Int) (x4:List D) (k:List D→Option R):Option R:=
 bif decide (x3<x0) then
 (Z76 x0 x1 x2 x3 (0:Int) (IntKind.i64.wrap ((2:Int) * x3)) x4).bind (fun y0=>
 bif decide (IntKind.i64.wrap (y0.snd.snd.snd.snd.fst+y0.snd.snd.snd.fst)<y0.fst) then
 (Z75 y0.snd.snd.snd.snd.snd y0.snd.snd.snd.snd.fst (IntKind.i64.wrap (y0.snd.snd.snd.snd.fst+y0.snd.snd.snd.fst)) y0.fst y0.snd.fst y0.snd.snd.fst).bind (fun y1=>
 (F y0.fst y0.snd.fst y0.snd.snd.fst (IntKind.i64.wrap (y0.snd.snd.snd.fst * (2:Int))) y1).bind k)
 else
 (F y0.fst y0.snd.fst y0.snd.snd.fst (IntKind.i64.wrap (y0.snd.snd.snd.fst * (2:Int))) y0.snd.snd.snd.snd.snd).bind k)
 else
 k x4
theorem c_Z77_bind {R:Type} (F:T_Z77) (x0:Int) (x1:List D) (x2 x3:Int) (x4:List D) (k:List D→Option R):c_Z77 F x0 x1 x2 x3 x4 k=(c_Z77 F x0 x1 x2 x3 x4 some).bind k:=by
 unfold c_Z77
 repeat' first
  | exact JH
  | exact JG
  | exact JF
  | apply JC
  | apply JD
  | apply JI
  | (apply JE; intro _)
  | intro _
def n_Z77:Nat→T_Z77
 | 0,_,_,_,_,_=>none
 | n+1,x0,x1,x2,x3,x4=>c_Z77 (n_Z77 n) x0 x1 x2 x3 x4 some
noncomputable def Z77 (x0:Int) (x1:List D) (x2 x3:Int) (x4:List D):Option (List D):=ev (fun n=>n_Z77 n x0 x1 x2 x3 x4)
def m_Z77 (F:T_Z77):Jz:=⟨7,⟨(.full 1000 [] (.int .i64)::.int .i64::.fn 60 [.rp (.rd (.int .i64)),.rp (.int .i64)]::.undef::.undef::.undef::.int .i64::uu 56 ([])),[(1000,.own (.int .i64))]⟩,[(.exit 2,⟨(.full 1000 [] (.int .i64)::uu 62 ([])),[(1000,.own (.int .i64))]⟩)],fun _ ds k=>dI (fun x0 ds=>dL (fun x1 ds=>dI (fun x2 ds=>dI (fun x3 ds=>dL (fun x4 ds=>dE ((F x0 x1 x2 x3 x4).bind (fun y=>k 0 [.L y])) ds) ds) ds) ds) ds) ds⟩
theorem q_Z77 (F:T_Z77) (x0:Int) (x1:List D) (x2 x3:Int) (x4:List D):Qg (Jv [e_Z75]) (Jw [m_Z77 F,e_Z76]) A 72 (Jm (Jl Try.f72) 7) ((m_Z77 F).sh.mk' [.I x0,.L x1,.I x2,.I x3,.L x4]) (fun e σ'=>some (e,σ'))=c_Z77 F x0 x1 x2 x3 x4 (fun y=>some (.exit 2,SSt.mk' ⟨(.full 1000 [] (.int .i64)::uu 62 ([])),[(1000,.own (.int .i64))]⟩ [.L y])):=by kernel_rfl
theorem m_Z77_ok:∀ n,(m_Z77 (n_Z77 n)).ok Try.prog (Jm (Jl Try.f72) 7):=by
 intro n
 induction n with
 | zero=>
  intro R ds k r h
  unfold m_Z77 at h
  obtain ⟨_,_,rfl,h⟩:=Ja h
  obtain ⟨_,_,rfl,h⟩:=Jd h
  obtain ⟨_,_,rfl,h⟩:=Ja h
  obtain ⟨_,_,rfl,h⟩:=Ja h
  obtain ⟨_,_,rfl,h⟩:=Jd h
  obtain ⟨rfl,hE⟩:=Jg h
  obtain ⟨y,hy,hk⟩:=Jh hE
  cases hy
 | succ n ih=>
  intro R ds k r h
  unfold m_Z77 at h
  obtain ⟨_,_,rfl,h⟩:=Ja h
  obtain ⟨_,_,rfl,h⟩:=Jd h
  obtain ⟨_,_,rfl,h⟩:=Ja h
  obtain ⟨_,_,rfl,h⟩:=Ja h
  obtain ⟨_,_,rfl,h⟩:=Jd h
  obtain ⟨rfl,hE⟩:=Jg h
  obtain ⟨y,hy,hk⟩:=Jh hE
  exact ⟨0,_,_,_,hk,rfl,J6 px (fx:=⟨Try.func72,by kernel_rfl,by kernel_rfl⟩) (JR e_Z75_ok Js) (Jx ih (Jx e_Z76_ok Jt)) (by kernel_rfl) ((q_Z77 ..).trans ((c_Z77_bind ..).trans (Jj hy)))⟩
noncomputable def e_Z77:Jz:=m_Z77 (Z77)
theorem e_Z77_ok:(e_Z77).ok Try.prog (Jm (Jl Try.f72) 7):=by
 intro R ds k r h
 unfold e_Z77 m_Z77 at h
 obtain ⟨_,_,rfl,h⟩:=Ja h
 obtain ⟨_,_,rfl,h⟩:=Jd h
 obtain ⟨_,_,rfl,h⟩:=Ja h
 obtain ⟨_,_,rfl,h⟩:=Ja h
 obtain ⟨_,_,rfl,h⟩:=Jd h
 obtain ⟨rfl,hE⟩:=Jg h
 obtain ⟨y,hy,hk⟩:=Jh hE
 obtain ⟨n,hn⟩:=Qh hy
 exact m_Z77_ok n R _ k r ((Jj hn).trans hk)

/-!-/
def c_Z78 {R:Type} (x0:List D) (x1:Int) (x2:List D) (x3:Int) (k:List D→Option R):Option R:=
 (Z65 x1 x2 x3 (20:Int) (0:Int) (20:Int) x0).bind (fun y0=>
 (Z64 y0.snd.snd.snd.snd.snd y0.snd.snd.snd.snd.fst y0.fst y0.snd.fst y0.snd.snd.fst).bind (fun y1=>
 (Z77 y0.fst y0.snd.fst y0.snd.snd.fst y0.snd.snd.snd.fst y1).bind (fun y2=>
 k y2)))
theorem c_Z78_bind {R:Type} (x0:List D) (x1:Int) (x2:List D) (x3:Int) (k:List D→Option R):c_Z78 x0 x1 x2 x3 k=(c_Z78 x0 x1 x2 x3 some).bind k:=by
 unfold c_Z78
 repeat' first
  | exact JH
  | exact JG
  | exact JF
  | apply JC
  | apply JD
  | apply JI
  | (apply JE; intro _)
  | intro _
def Z78 (x0:List D) (x1:Int) (x2:List D) (x3:Int):Option (List D):=c_Z78 x0 x1 x2 x3 some
def e_Z78:Ent:=⟨72,[.own (.int .i64),.int .i64,.fn 60 [.rp (.rd (.int .i64)),.rp (.int .i64)]],[(.tup [],[.own (.int .i64),.undef,.undef])],fun _ ds k=>dL (fun x0 ds=>dI (fun x1 ds=>dL (fun x2 ds=>dI (fun x3 ds=>dE ((Z78 x0 x1 x2 x3).bind (fun y=>k 0 [.L y])) ds) ds) ds) ds) ds⟩
theorem q_Z78 (x0:List D) (x1:Int) (x2:List D) (x3:Int):J5 (Jv [e_Z64]) (Jw [e_Z65,e_Z77]) A 72 Try.f72 (Sh.mks e_Z78.sh [.L x0,.I x1,.L x2,.I x3]).1 (fun v os=>some (v,os))=c_Z78 x0 x1 x2 x3 (fun y=>J9 e_Z78 0 [.L y]):=by kernel_rfl
theorem e_Z78_ok:e_Z78.ok Try.prog A:=by
 intro R ds k r h
 unfold e_Z78 at h
 obtain ⟨_,_,rfl,h⟩:=Jd h
 obtain ⟨_,_,rfl,h⟩:=Ja h
 obtain ⟨_,_,rfl,h⟩:=Jd h
 obtain ⟨_,_,rfl,h⟩:=Ja h
 obtain ⟨rfl,hE⟩:=Jg h
 obtain ⟨y,hy,hk⟩:=Jh hE
 exact ⟨0,_,_,_,hk,rfl,Qa px (fx:=⟨Try.func72,by kernel_rfl,by kernel_rfl⟩) (JR e_Z64_ok Js) (Jx e_Z65_ok (Jx e_Z77_ok Jt)) ((q_Z78 ..).trans ((c_Z78_bind ..).trans (Jj hy)))⟩

/-!-/
def c_Z79 {R:Type} (x0 x1:List D) (x2:Int) (k:List D→Option R):Option R:=
 (Z78 x0 (↑x0.length:Int) x1 x2).bind (fun y0=>
 k y0)
theorem c_Z79_bind {R:Type} (x0 x1:List D) (x2:Int) (k:List D→Option R):c_Z79 x0 x1 x2 k=(c_Z79 x0 x1 x2 some).bind k:=by
 unfold c_Z79
 repeat' first
  | exact JH
  | exact JG
  | exact JF
  | apply JC
  | apply JD
  | apply JI
  | (apply JE; intro _)
  | intro _
def Z79 (x0 x1:List D) (x2:Int):Option (List D):=c_Z79 x0 x1 x2 some
def e_Z79:Ent:=⟨59,[.own (.int .i64),.fn 60 [.rp (.rd (.int .i64)),.rp (.int .i64)]],[(.tup [],[.own (.int .i64),.undef])],fun _ ds k=>dL (fun x0 ds=>dL (fun x1 ds=>dI (fun x2 ds=>dE ((Z79 x0 x1 x2).bind (fun y=>k 0 [.L y])) ds) ds) ds) ds⟩
theorem q_Z79 (x0 x1:List D) (x2:Int):J5 (Jv [e_Z78]) (Jw []) A 59 Try.f59 (Sh.mks e_Z79.sh [.L x0,.L x1,.I x2]).1 (fun v os=>some (v,os))=c_Z79 x0 x1 x2 (fun y=>J9 e_Z79 0 [.L y]):=by kernel_rfl
theorem e_Z79_ok:e_Z79.ok Try.prog A:=by
 intro R ds k r h
 unfold e_Z79 at h
 obtain ⟨_,_,rfl,h⟩:=Jd h
 obtain ⟨_,_,rfl,h⟩:=Jd h
 obtain ⟨_,_,rfl,h⟩:=Ja h
 obtain ⟨rfl,hE⟩:=Jg h
 obtain ⟨y,hy,hk⟩:=Jh hE
 exact ⟨0,_,_,_,hk,rfl,Qa px (fx:=⟨Try.func59,by kernel_rfl,by kernel_rfl⟩) (JR e_Z78_ok Js) Jt ((q_Z79 ..).trans ((c_Z79_bind ..).trans (Jj hy)))⟩

/-!-/
abbrev T_Z80:=Nat→Nat→Int→Int→List D→List D→Option (List D)
def c_Z80 {R:Type} (F:T_Z80) (x0 x1:Nat) (x2 x3:Int) (x4 x5:List D) (k:List D→Option R):Option R:=
 bif decide (x3<x2) then
 if 0≤x3∧x3<(↑x1:Int) then
 if x0+x1≤x5.length then
 if x0+x3.toNat+1≤x5.length then
 if (0:Int)≤(x5.getD (x0+x3.toNat) (D.int 0)).toInt∧(x5.getD (x0+x3.toNat) (D.int 0)).toInt<(↑x4.length:Int) then
 if (x5.getD (x0+x3.toNat) (D.int 0)).toInt.toNat+1≤x4.length then
 if (0:Int)≤(x5.getD (x0+x3.toNat) (D.int 0)).toInt∧(x5.getD (x0+x3.toNat) (D.int 0)).toInt<(↑x4.length:Int) then
 if (x5.getD (x0+x3.toNat) (D.int 0)).toInt.toNat+1≤x4.length then
 (F x0 x1 x2 (IntKind.i64.wrap (x3+1)) (x4.set (x5.getD (x0+x3.toNat) (D.int 0)).toInt.toNat (D.int (IntKind.i64.wrap ((x4.getD (x5.getD (x0+x3.toNat) (D.int 0)).toInt.toNat (D.int 0)).toInt+(1:Int))))) x5).bind k
 else
 none
 else
 none
 else
 none
 else
 none
 else
 none
 else
 none
 else
 none
 else
 k x4
theorem c_Z80_bind {R:Type} (F:T_Z80) (x0 x1:Nat) (x2 x3:Int) (x4 x5:List D) (k:List D→Option R):c_Z80 F x0 x1 x2 x3 x4 x5 k=(c_Z80 F x0 x1 x2 x3 x4 x5 some).bind k:=by
 unfold c_Z80
 repeat' first
  | exact JH
  | exact JG
  | exact JF
  | apply JC
  | apply JD
  | apply JI
  | (apply JE; intro _)
  | intro _
def n_Z80:Nat→T_Z80
 | 0,_,_,_,_,_,_=>none
 | n+1,x0,x1,x2,x3,x4,x5=>c_Z80 (n_Z80 n) x0 x1 x2 x3 x4 x5 some
noncomputable def Z80 (x0 x1:Nat) (x2 x3:Int) (x4 x5:List D):Option (List D):=ev (fun n=>n_Z80 n x0 x1 x2 x3 x4 x5)
def m_Z80 (F:T_Z80):Jz:=⟨13,⟨(uu 4 (.full 1000 [] (.int .i64)::uu 37 (.sub 1001 [] (.int .i64)::.int .i64::.int .i64::uu 11 ([])))),[(1000,.own (.int .i64)),(1001,.own (.int .i64))]⟩,[(.exit 2,⟨(uu 4 (.full 1000 [] (.int .i64)::uu 51 ([]))),[(1000,.own (.int .i64))]⟩)],fun _ ds k=>dN (fun x0 ds=>dN (fun x1 ds=>dI (fun x2 ds=>dI (fun x3 ds=>dL (fun x4 ds=>dL (fun x5 ds=>dE ((F x0 x1 x2 x3 x4 x5).bind (fun y=>k 0 [.L y])) ds) ds) ds) ds) ds) ds) ds⟩
theorem q_Z80 (F:T_Z80) (x0 x1:Nat) (x2 x3:Int) (x4 x5:List D):Qg (Jv []) (Jw [m_Z80 F]) A 44 (Jm (Jl Try.f44) 13) ((m_Z80 F).sh.mk' [.N x0,.N x1,.I x2,.I x3,.L x4,.L x5]) (fun e σ'=>some (e,σ'))=c_Z80 F x0 x1 x2 x3 x4 x5 (fun y=>some (.exit 2,SSt.mk' ⟨(uu 4 (.full 1000 [] (.int .i64)::uu 51 ([]))),[(1000,.own (.int .i64))]⟩ [.L y])):=by kernel_rfl
theorem m_Z80_ok:∀ n,(m_Z80 (n_Z80 n)).ok Try.prog (Jm (Jl Try.f44) 13):=by
 intro n
 induction n with
 | zero=>
  intro R ds k r h
  unfold m_Z80 at h
  obtain ⟨_,_,rfl,h⟩:=HQ h
  obtain ⟨_,_,rfl,h⟩:=HQ h
  obtain ⟨_,_,rfl,h⟩:=Ja h
  obtain ⟨_,_,rfl,h⟩:=Ja h
  obtain ⟨_,_,rfl,h⟩:=Jd h
  obtain ⟨_,_,rfl,h⟩:=Jd h
  obtain ⟨rfl,hE⟩:=Jg h
  obtain ⟨y,hy,hk⟩:=Jh hE
  cases hy
 | succ n ih=>
  intro R ds k r h
  unfold m_Z80 at h
  obtain ⟨_,_,rfl,h⟩:=HQ h
  obtain ⟨_,_,rfl,h⟩:=HQ h
  obtain ⟨_,_,rfl,h⟩:=Ja h
  obtain ⟨_,_,rfl,h⟩:=Ja h
  obtain ⟨_,_,rfl,h⟩:=Jd h
  obtain ⟨_,_,rfl,h⟩:=Jd h
  obtain ⟨rfl,hE⟩:=Jg h
  obtain ⟨y,hy,hk⟩:=Jh hE
  exact ⟨0,_,_,_,hk,rfl,J6 px (fx:=⟨Try.func44,by kernel_rfl,by kernel_rfl⟩) Js (Jx ih Jt) (by kernel_rfl) ((q_Z80 ..).trans ((c_Z80_bind ..).trans (Jj hy)))⟩
noncomputable def e_Z80:Jz:=m_Z80 (Z80)
theorem e_Z80_ok:(e_Z80).ok Try.prog (Jm (Jl Try.f44) 13):=by
 intro R ds k r h
 unfold e_Z80 m_Z80 at h
 obtain ⟨_,_,rfl,h⟩:=HQ h
 obtain ⟨_,_,rfl,h⟩:=HQ h
 obtain ⟨_,_,rfl,h⟩:=Ja h
 obtain ⟨_,_,rfl,h⟩:=Ja h
 obtain ⟨_,_,rfl,h⟩:=Jd h
 obtain ⟨_,_,rfl,h⟩:=Jd h
 obtain ⟨rfl,hE⟩:=Jg h
 obtain ⟨y,hy,hk⟩:=Jh hE
 obtain ⟨n,hn⟩:=Qh hy
 exact m_Z80_ok n R _ k r ((Jj hn).trans hk)

/-!-/
def c_Z81 {R:Type} (x0:List D) (k:List D→Option R):Option R:=
 (Z59 x0).bind (fun y0=>
 (Z60 x0 (↑x0.length:Int) (0:Int) x0 y0 [] []).bind (fun y1=>
 (Z79 y1.snd.snd.snd y1.fst y1.snd.fst).bind (fun y2=>
 (Z59 y1.snd.snd.fst).bind (fun y3=>
 if (0:Int)≤(0:Int)∧(0:Int)≤IntKind.i64.wrap ((1000:Int) - y3)∧IntKind.i64.wrap ((1000:Int) - y3)≤(↑y2.length:Int) then
 (Z80 (0:Nat) ((IntKind.i64.wrap ((1000:Int) - y3)).toNat - (0:Nat)) (↑((IntKind.i64.wrap ((1000:Int) - y3)).toNat - (0:Nat)):Int) (0:Int) y1.snd.snd.fst y2).bind (fun y4=>
 k y4)
 else
 none))))
theorem c_Z81_bind {R:Type} (x0:List D) (k:List D→Option R):c_Z81 x0 k=(c_Z81 x0 some).bind k:=by
 unfold c_Z81
 repeat' first
  | exact JH
  | exact JG
  | exact JF
  | apply JC
  | apply JD
  | apply JI
  | (apply JE; intro _)
  | intro _
def Z81 (x0:List D):Option (List D):=c_Z81 x0 some
def e_Z81:Ent:=⟨44,[.rd (.int .i64)],[(.own (.int .i64),[.undef])],fun _ ds k=>dL (fun x0 ds=>dE ((Z81 x0).bind (fun y=>k 0 [.L y])) ds) ds⟩
theorem q_Z81 (x0:List D):J5 (Jv [e_Z59,e_Z79]) (Jw [e_Z60,e_Z80]) A 44 Try.f44 (Sh.mks e_Z81.sh [.L x0]).1 (fun v os=>some (v,os))=c_Z81 x0 (fun y=>J9 e_Z81 0 [.L y]):=by kernel_rfl
theorem e_Z81_ok:e_Z81.ok Try.prog A:=by
 intro R ds k r h
 unfold e_Z81 at h
 obtain ⟨_,_,rfl,h⟩:=Jd h
 obtain ⟨rfl,hE⟩:=Jg h
 obtain ⟨y,hy,hk⟩:=Jh hE
 exact ⟨0,_,_,_,hk,rfl,Qa px (fx:=⟨Try.func44,by kernel_rfl,by kernel_rfl⟩) (JR e_Z59_ok (JR e_Z79_ok Js)) (Jx e_Z60_ok (Jx e_Z80_ok Jt)) ((q_Z81 ..).trans ((c_Z81_bind ..).trans (Jj hy)))⟩

/-!-/
def c_Z82 {R:Type} (x0:List D) (x1:Int) (k:List D×Bool→Option R):Option R:=
 (Z48 x0 x1).bind (fun y0=>
 bif !y0.snd then
 k ([],Bool.false)
 else
 bif decide ((↑y0.fst.length:Int)=(0:Int)) then
 k ([],Bool.false)
 else
 (Z54 x0).bind (fun y1=>
 if (0:Int)≤(↑y1.length:Int)∧(↑y1.length:Int)≤(↑y1.length:Int)∧(↑y1.length:Int)≤(4294967296:Int) then
 (Z57 (↑y0.fst.length:Int) (0:Int) y1 (List.replicate (↑y1.length:Int).toNat (D.int 0)) y0.fst).bind (fun y2=>
 (Z81 y2).bind (fun y3=>
 k (y3,Bool.true)))
 else
 none))
theorem c_Z82_bind {R:Type} (x0:List D) (x1:Int) (k:List D×Bool→Option R):c_Z82 x0 x1 k=(c_Z82 x0 x1 some).bind k:=by
 unfold c_Z82
 repeat' first
  | exact JH
  | exact JG
  | exact JF
  | apply JC
  | apply JD
  | apply JI
  | (apply JE; intro _)
  | intro _
def Z82 (x0:List D) (x1:Int):Option (List D×Bool):=c_Z82 x0 x1 some
def e_Z82:Ent:=⟨19,[.rd (.struct [.int .i64,.str,.int .i64,.int .i64,.int .i64]),.int .i64],[(.tup [.own (.int .i64),.bool],[.undef,.undef])],fun _ ds k=>dL (fun x0 ds=>dI (fun x1 ds=>dE ((Z82 x0 x1).bind (fun y=>k 0 [.L y.1,.B y.2])) ds) ds) ds⟩
theorem q_Z82 (x0:List D) (x1:Int):J5 (Jv [e_Z48,e_Z54,e_Z81]) (Jw [e_Z57]) A 19 Try.f19 (Sh.mks e_Z82.sh [.L x0,.I x1]).1 (fun v os=>some (v,os))=c_Z82 x0 x1 (fun y=>J9 e_Z82 0 [.L y.1,.B y.2]):=by kernel_rfl
theorem e_Z82_ok:e_Z82.ok Try.prog A:=by
 intro R ds k r h
 unfold e_Z82 at h
 obtain ⟨_,_,rfl,h⟩:=Jd h
 obtain ⟨_,_,rfl,h⟩:=Ja h
 obtain ⟨rfl,hE⟩:=Jg h
 obtain ⟨y,hy,hk⟩:=Jh hE
 exact ⟨0,_,_,_,hk,rfl,Qa px (fx:=⟨Try.func19,by kernel_rfl,by kernel_rfl⟩) (JR e_Z48_ok (JR e_Z54_ok (JR e_Z81_ok Js))) (Jx e_Z57_ok Jt) ((q_Z82 ..).trans ((c_Z82_bind ..).trans (Jj hy)))⟩

/-!-/
abbrev T_Z83:=List D→List D→Int→Option ((Bool)⊕(Unit))
def c_Z83 {R:Type} (F:T_Z83) (x0 x1:List D) (x2:Int) (k:(Bool)⊕(Unit)→Option R):Option R:=
 bif decide (x2<(↑x0.length:Int)) then
 if 0≤x2∧x2<(↑x0.length:Int) then
 if 0≤x2∧x2<(↑x1.length:Int) then
 bif !decide ((x0.getD x2.toNat (D.int 0)).toInt=(x1.getD x2.toNat (D.int 0)).toInt) then
 k (.inl Bool.false)
 else
 (F x0 x1 (IntKind.i64.wrap (x2+1))).bind k
 else
 none
 else
 none
 else
 k (.inr ())
theorem c_Z83_bind {R:Type} (F:T_Z83) (x0 x1:List D) (x2:Int) (k:(Bool)⊕(Unit)→Option R):c_Z83 F x0 x1 x2 k=(c_Z83 F x0 x1 x2 some).bind k:=by
 unfold c_Z83
 repeat' first
  | exact JH
  | exact JG
  | exact JF
  | apply JC
  | apply JD
  | apply JI
  | (apply JE; intro _)
  | intro _
def n_Z83:Nat→T_Z83
 | 0,_,_,_=>none
 | n+1,x0,x1,x2=>c_Z83 (n_Z83 n) x0 x1 x2 some
noncomputable def Z83 (x0 x1:List D) (x2:Int):Option ((Bool)⊕(Unit)):=ev (fun n=>n_Z83 n x0 x1 x2)
def m_Z83 (F:T_Z83):Jz:=⟨4,⟨(.rd (.int .i64)::.rd (.int .i64)::.undef::.undef::.undef::.int .i64::uu 20 ([])),[]⟩,[(.ret,⟨(uu 4 (.bool::uu 21 ([]))),[]⟩),(.exit 0,⟨(uu 26 ([])),[]⟩)],fun _ ds k=>dL (fun x0 ds=>dL (fun x1 ds=>dI (fun x2 ds=>dE ((F x0 x1 x2).bind (Sum.elim (fun y=>k 0 [.B y]) (fun y=>k 1 []))) ds) ds) ds) ds⟩
theorem q_Z83 (F:T_Z83) (x0 x1:List D) (x2:Int):Qg (Jv []) (Jw [m_Z83 F]) A 20 (Jm (Jl Try.f20) 4) ((m_Z83 F).sh.mk' [.L x0,.L x1,.I x2]) (fun e σ'=>some (e,σ'))=c_Z83 F x0 x1 x2 (Sum.elim (fun y=>some (.ret,SSt.mk' ⟨(uu 4 (.bool::uu 21 ([]))),[]⟩ [.B y])) (fun y=>some (.exit 0,SSt.mk' ⟨(uu 26 ([])),[]⟩ []))):=by kernel_rfl
theorem m_Z83_ok:∀ n,(m_Z83 (n_Z83 n)).ok Try.prog (Jm (Jl Try.f20) 4):=by
 intro n
 induction n with
 | zero=>
  intro R ds k r h
  unfold m_Z83 at h
  obtain ⟨_,_,rfl,h⟩:=Jd h
  obtain ⟨_,_,rfl,h⟩:=Jd h
  obtain ⟨_,_,rfl,h⟩:=Ja h
  obtain ⟨rfl,hE⟩:=Jg h
  obtain ⟨y,hy,hk⟩:=Jh hE
  cases hy
 | succ n ih=>
  intro R ds k r h
  unfold m_Z83 at h
  obtain ⟨_,_,rfl,h⟩:=Jd h
  obtain ⟨_,_,rfl,h⟩:=Jd h
  obtain ⟨_,_,rfl,h⟩:=Ja h
  obtain ⟨rfl,hE⟩:=Jg h
  obtain ⟨y,hy,hk⟩:=Jh hE
  cases y with
  | inl y=>
   exact ⟨0,_,_,_,hk,rfl,J6 px (fx:=⟨Try.func20,by kernel_rfl,by kernel_rfl⟩) Js (Jx ih Jt) (by kernel_rfl) ((q_Z83 ..).trans ((c_Z83_bind ..).trans (Jj hy)))⟩
  | inr y=>
   exact ⟨1,_,_,_,hk,rfl,J6 px (fx:=⟨Try.func20,by kernel_rfl,by kernel_rfl⟩) Js (Jx ih Jt) (by kernel_rfl) ((q_Z83 ..).trans ((c_Z83_bind ..).trans (Jj hy)))⟩
noncomputable def e_Z83:Jz:=m_Z83 (Z83)
theorem e_Z83_ok:(e_Z83).ok Try.prog (Jm (Jl Try.f20) 4):=by
 intro R ds k r h
 unfold e_Z83 m_Z83 at h
 obtain ⟨_,_,rfl,h⟩:=Jd h
 obtain ⟨_,_,rfl,h⟩:=Jd h
 obtain ⟨_,_,rfl,h⟩:=Ja h
 obtain ⟨rfl,hE⟩:=Jg h
 obtain ⟨y,hy,hk⟩:=Jh hE
 obtain ⟨n,hn⟩:=Qh hy
 exact m_Z83_ok n R _ k r ((Jj hn).trans hk)

/-!-/
def c_Z84 {R:Type} (x0 x1:List D) (k:Bool→Option R):Option R:=
 bif !decide ((↑x0.length:Int)=(↑x1.length:Int)) then
 k Bool.false
 else
 (Z83 x0 x1 (0:Int)).bind (Sum.elim (fun y0=>
 k y0) (fun y1=>
 k Bool.true))
theorem c_Z84_bind {R:Type} (x0 x1:List D) (k:Bool→Option R):c_Z84 x0 x1 k=(c_Z84 x0 x1 some).bind k:=by
 unfold c_Z84
 repeat' first
  | exact JH
  | exact JG
  | exact JF
  | apply JC
  | apply JD
  | apply JI
  | (apply JE; intro _)
  | intro _
def Z84 (x0 x1:List D):Option (Bool):=c_Z84 x0 x1 some
def e_Z84:Ent:=⟨20,[.rd (.int .i64),.rd (.int .i64)],[(.bool,[.undef,.undef])],fun _ ds k=>dL (fun x0 ds=>dL (fun x1 ds=>dE ((Z84 x0 x1).bind (fun y=>k 0 [.B y])) ds) ds) ds⟩
theorem q_Z84 (x0 x1:List D):J5 (Jv []) (Jw [e_Z83]) A 20 Try.f20 (Sh.mks e_Z84.sh [.L x0,.L x1]).1 (fun v os=>some (v,os))=c_Z84 x0 x1 (fun y=>J9 e_Z84 0 [.B y]):=by kernel_rfl
theorem e_Z84_ok:e_Z84.ok Try.prog A:=by
 intro R ds k r h
 unfold e_Z84 at h
 obtain ⟨_,_,rfl,h⟩:=Jd h
 obtain ⟨_,_,rfl,h⟩:=Jd h
 obtain ⟨rfl,hE⟩:=Jg h
 obtain ⟨y,hy,hk⟩:=Jh hE
 exact ⟨0,_,_,_,hk,rfl,Qa px (fx:=⟨Try.func20,by kernel_rfl,by kernel_rfl⟩) Js (Jx e_Z83_ok Jt) ((q_Z84 ..).trans ((c_Z84_bind ..).trans (Jj hy)))⟩

/-!-/
def c_Z85 {R:Type} (x0:Int) (x1:ByteArray) (x2 x3 x4 x5:Int) (x6:ByteArray) (x7 x8 x9:Int) (k:Bool→Option R):Option R:=
 bif !decide (x0=x5) then
 k Bool.false
 else
 bif !x1.toList==x6.toList then
 k Bool.false
 else
 bif !decide (x2=x7) then
 k Bool.false
 else
 bif !decide (x3=x8) then
 k Bool.false
 else
 bif !decide (x4=x9) then
 k Bool.false
 else
 k Bool.true
theorem c_Z85_bind {R:Type} (x0:Int) (x1:ByteArray) (x2 x3 x4 x5:Int) (x6:ByteArray) (x7 x8 x9:Int) (k:Bool→Option R):c_Z85 x0 x1 x2 x3 x4 x5 x6 x7 x8 x9 k=(c_Z85 x0 x1 x2 x3 x4 x5 x6 x7 x8 x9 some).bind k:=by
 unfold c_Z85
 repeat' first
  | exact JH
  | exact JG
  | exact JF
  | apply JC
  | apply JD
  | apply JI
  | (apply JE; intro _)
  | intro _
def Z85 (x0:Int) (x1:ByteArray) (x2 x3 x4 x5:Int) (x6:ByteArray) (x7 x8 x9:Int):Option (Bool):=c_Z85 x0 x1 x2 x3 x4 x5 x6 x7 x8 x9 some
def e_Z85:Ent:=⟨32,[.agg [.int .i64,.str,.int .i64,.int .i64,.int .i64],.agg [.int .i64,.str,.int .i64,.int .i64,.int .i64]],[(.bool,[.undef,.undef])],fun _ ds k=>dI (fun x0 ds=>dS (fun x1 ds=>dI (fun x2 ds=>dI (fun x3 ds=>dI (fun x4 ds=>dI (fun x5 ds=>dS (fun x6 ds=>dI (fun x7 ds=>dI (fun x8 ds=>dI (fun x9 ds=>dE ((Z85 x0 x1 x2 x3 x4 x5 x6 x7 x8 x9).bind (fun y=>k 0 [.B y])) ds) ds) ds) ds) ds) ds) ds) ds) ds) ds) ds⟩
theorem q_Z85 (x0:Int) (x1:ByteArray) (x2 x3 x4 x5:Int) (x6:ByteArray) (x7 x8 x9:Int):J5 (Jv []) (Jw []) A 32 Try.f32 (Sh.mks e_Z85.sh [.I x0,.S x1,.I x2,.I x3,.I x4,.I x5,.S x6,.I x7,.I x8,.I x9]).1 (fun v os=>some (v,os))=c_Z85 x0 x1 x2 x3 x4 x5 x6 x7 x8 x9 (fun y=>J9 e_Z85 0 [.B y]):=by kernel_rfl
theorem e_Z85_ok:e_Z85.ok Try.prog A:=by
 intro R ds k r h
 unfold e_Z85 at h
 obtain ⟨_,_,rfl,h⟩:=Ja h
 obtain ⟨_,_,rfl,h⟩:=QI h
 obtain ⟨_,_,rfl,h⟩:=Ja h
 obtain ⟨_,_,rfl,h⟩:=Ja h
 obtain ⟨_,_,rfl,h⟩:=Ja h
 obtain ⟨_,_,rfl,h⟩:=Ja h
 obtain ⟨_,_,rfl,h⟩:=QI h
 obtain ⟨_,_,rfl,h⟩:=Ja h
 obtain ⟨_,_,rfl,h⟩:=Ja h
 obtain ⟨_,_,rfl,h⟩:=Ja h
 obtain ⟨rfl,hE⟩:=Jg h
 obtain ⟨y,hy,hk⟩:=Jh hE
 exact ⟨0,_,_,_,hk,rfl,Qa px (fx:=⟨Try.func32,by kernel_rfl,by kernel_rfl⟩) Js Jt ((q_Z85 ..).trans ((c_Z85_bind ..).trans (Jj hy)))⟩

/-!-/
abbrev T_Z86:=List D→List D→Int→Option ((Bool)⊕(Unit))
def c_Z86 {R:Type} (F:T_Z86) (x0 x1:List D) (x2:Int) (k:(Bool)⊕(Unit)→Option R):Option R:=
 bif decide (x2<(↑x0.length:Int)) then
 if 0≤x2∧x2<(↑x0.length:Int) then
 if 0≤x2∧x2<(↑x1.length:Int) then
 (Z85 (((x0.getD x2.toNat (D.int 0)).fld (0:Nat)).toInt) (((x0.getD x2.toNat (D.int 0)).fld (1:Nat)).toStr) (((x0.getD x2.toNat (D.int 0)).fld (2:Nat)).toInt) (((x0.getD x2.toNat (D.int 0)).fld (3:Nat)).toInt) (((x0.getD x2.toNat (D.int 0)).fld (4:Nat)).toInt) (((x1.getD x2.toNat (D.int 0)).fld (0:Nat)).toInt) (((x1.getD x2.toNat (D.int 0)).fld (1:Nat)).toStr) (((x1.getD x2.toNat (D.int 0)).fld (2:Nat)).toInt) (((x1.getD x2.toNat (D.int 0)).fld (3:Nat)).toInt) (((x1.getD x2.toNat (D.int 0)).fld (4:Nat)).toInt)).bind (fun y0=>
 bif !y0 then
 k (.inl Bool.false)
 else
 (F x0 x1 (IntKind.i64.wrap (x2+1))).bind k)
 else
 none
 else
 none
 else
 k (.inr ())
theorem c_Z86_bind {R:Type} (F:T_Z86) (x0 x1:List D) (x2:Int) (k:(Bool)⊕(Unit)→Option R):c_Z86 F x0 x1 x2 k=(c_Z86 F x0 x1 x2 some).bind k:=by
 unfold c_Z86
 repeat' first
  | exact JH
  | exact JG
  | exact JF
  | apply JC
  | apply JD
  | apply JI
  | (apply JE; intro _)
  | intro _
def n_Z86:Nat→T_Z86
 | 0,_,_,_=>none
 | n+1,x0,x1,x2=>c_Z86 (n_Z86 n) x0 x1 x2 some
noncomputable def Z86 (x0 x1:List D) (x2:Int):Option ((Bool)⊕(Unit)):=ev (fun n=>n_Z86 n x0 x1 x2)
def m_Z86 (F:T_Z86):Jz:=⟨4,⟨(.rd (.struct [.int .i64,.str,.int .i64,.int .i64,.int .i64])::.rd (.struct [.int .i64,.str,.int .i64,.int .i64,.int .i64])::.undef::.undef::.undef::.int .i64::uu 21 ([])),[]⟩,[(.ret,⟨(uu 4 (.bool::uu 22 ([]))),[]⟩),(.exit 0,⟨(uu 27 ([])),[]⟩)],fun _ ds k=>dL (fun x0 ds=>dL (fun x1 ds=>dI (fun x2 ds=>dE ((F x0 x1 x2).bind (Sum.elim (fun y=>k 0 [.B y]) (fun y=>k 1 []))) ds) ds) ds) ds⟩
theorem q_Z86 (F:T_Z86) (x0 x1:List D) (x2:Int):Qg (Jv [e_Z85]) (Jw [m_Z86 F]) A 12 (Jm (Jl Try.f12) 4) ((m_Z86 F).sh.mk' [.L x0,.L x1,.I x2]) (fun e σ'=>some (e,σ'))=c_Z86 F x0 x1 x2 (Sum.elim (fun y=>some (.ret,SSt.mk' ⟨(uu 4 (.bool::uu 22 ([]))),[]⟩ [.B y])) (fun y=>some (.exit 0,SSt.mk' ⟨(uu 27 ([])),[]⟩ []))):=by kernel_rfl
theorem m_Z86_ok:∀ n,(m_Z86 (n_Z86 n)).ok Try.prog (Jm (Jl Try.f12) 4):=by
 intro n
 induction n with
 | zero=>
  intro R ds k r h
  unfold m_Z86 at h
  obtain ⟨_,_,rfl,h⟩:=Jd h
  obtain ⟨_,_,rfl,h⟩:=Jd h
  obtain ⟨_,_,rfl,h⟩:=Ja h
  obtain ⟨rfl,hE⟩:=Jg h
  obtain ⟨y,hy,hk⟩:=Jh hE
  cases hy
 | succ n ih=>
  intro R ds k r h
  unfold m_Z86 at h
  obtain ⟨_,_,rfl,h⟩:=Jd h
  obtain ⟨_,_,rfl,h⟩:=Jd h
  obtain ⟨_,_,rfl,h⟩:=Ja h
  obtain ⟨rfl,hE⟩:=Jg h
  obtain ⟨y,hy,hk⟩:=Jh hE
  cases y with
  | inl y=>
   exact ⟨0,_,_,_,hk,rfl,J6 px (fx:=⟨Try.func12,by kernel_rfl,by kernel_rfl⟩) (JR e_Z85_ok Js) (Jx ih Jt) (by kernel_rfl) ((q_Z86 ..).trans ((c_Z86_bind ..).trans (Jj hy)))⟩
  | inr y=>
   exact ⟨1,_,_,_,hk,rfl,J6 px (fx:=⟨Try.func12,by kernel_rfl,by kernel_rfl⟩) (JR e_Z85_ok Js) (Jx ih Jt) (by kernel_rfl) ((q_Z86 ..).trans ((c_Z86_bind ..).trans (Jj hy)))⟩
noncomputable def e_Z86:Jz:=m_Z86 (Z86)
theorem e_Z86_ok:(e_Z86).ok Try.prog (Jm (Jl Try.f12) 4):=by
 intro R ds k r h
 unfold e_Z86 m_Z86 at h
 obtain ⟨_,_,rfl,h⟩:=Jd h
 obtain ⟨_,_,rfl,h⟩:=Jd h
 obtain ⟨_,_,rfl,h⟩:=Ja h
 obtain ⟨rfl,hE⟩:=Jg h
 obtain ⟨y,hy,hk⟩:=Jh hE
 obtain ⟨n,hn⟩:=Qh hy
 exact m_Z86_ok n R _ k r ((Jj hn).trans hk)

/-!-/
def c_Z87 {R:Type} (x0 x1:List D) (k:Bool→Option R):Option R:=
 bif !decide ((↑x0.length:Int)=(↑x1.length:Int)) then
 k Bool.false
 else
 (Z86 x0 x1 (0:Int)).bind (Sum.elim (fun y0=>
 k y0) (fun y1=>
 k Bool.true))
theorem c_Z87_bind {R:Type} (x0 x1:List D) (k:Bool→Option R):c_Z87 x0 x1 k=(c_Z87 x0 x1 some).bind k:=by
 unfold c_Z87
 repeat' first
  | exact JH
  | exact JG
  | exact JF
  | apply JC
  | apply JD
  | apply JI
  | (apply JE; intro _)
  | intro _
def Z87 (x0 x1:List D):Option (Bool):=c_Z87 x0 x1 some
def e_Z87:Ent:=⟨12,[.rd (.struct [.int .i64,.str,.int .i64,.int .i64,.int .i64]),.rd (.struct [.int .i64,.str,.int .i64,.int .i64,.int .i64])],[(.bool,[.undef,.undef])],fun _ ds k=>dL (fun x0 ds=>dL (fun x1 ds=>dE ((Z87 x0 x1).bind (fun y=>k 0 [.B y])) ds) ds) ds⟩
theorem q_Z87 (x0 x1:List D):J5 (Jv []) (Jw [e_Z86]) A 12 Try.f12 (Sh.mks e_Z87.sh [.L x0,.L x1]).1 (fun v os=>some (v,os))=c_Z87 x0 x1 (fun y=>J9 e_Z87 0 [.B y]):=by kernel_rfl
theorem e_Z87_ok:e_Z87.ok Try.prog A:=by
 intro R ds k r h
 unfold e_Z87 at h
 obtain ⟨_,_,rfl,h⟩:=Jd h
 obtain ⟨_,_,rfl,h⟩:=Jd h
 obtain ⟨rfl,hE⟩:=Jg h
 obtain ⟨y,hy,hk⟩:=Jh hE
 exact ⟨0,_,_,_,hk,rfl,Qa px (fx:=⟨Try.func12,by kernel_rfl,by kernel_rfl⟩) Js (Jx e_Z86_ok Jt) ((q_Z87 ..).trans ((c_Z87_bind ..).trans (Jj hy)))⟩

/-!-/
abbrev T_Z88:=Int→ByteArray→Option (ByteArray)
def c_Z88 {R:Type} (F:T_Z88) (x0:Int) (x1:ByteArray) (k:ByteArray→Option R):Option R:=
 bif decide ((0:Int)<x0) then
 if (10:Int)≠(0:Int) then
 if (Ce [D.int (IntKind.u8.wrap (IntKind.i64.wrap ((48:Int)+x0.tmod (10:Int))))]).size+x1.size≤(4294967296:Nat) then
 if (10:Int)≠(0:Int) then
 (F (IntKind.i64.wrap (x0.tdiv (10:Int))) (Ce [D.int (IntKind.u8.wrap (IntKind.i64.wrap ((48:Int)+x0.tmod (10:Int))))]++x1)).bind k
 else
 none
 else
 none
 else
 none
 else
 k x1
theorem c_Z88_bind {R:Type} (F:T_Z88) (x0:Int) (x1:ByteArray) (k:ByteArray→Option R):c_Z88 F x0 x1 k=(c_Z88 F x0 x1 some).bind k:=by
 unfold c_Z88
 repeat' first
  | exact JH
  | exact JG
  | exact JF
  | apply JC
  | apply JD
  | apply JI
  | (apply JE; intro _)
  | intro _
def n_Z88:Nat→T_Z88
 | 0,_,_=>none
 | n+1,x0,x1=>c_Z88 (n_Z88 n) x0 x1 some
noncomputable def Z88 (x0:Int) (x1:ByteArray):Option (ByteArray):=ev (fun n=>n_Z88 n x0 x1)
def m_Z88 (F:T_Z88):Jz:=⟨4,⟨(.int .i64::.undef::.undef::.str::uu 16 ([])),[]⟩,[(.exit 0,⟨(.undef::.undef::.undef::.str::uu 16 ([])),[]⟩)],fun _ ds k=>dI (fun x0 ds=>dS (fun x1 ds=>dE ((F x0 x1).bind (fun y=>k 0 [.S y])) ds) ds) ds⟩
theorem q_Z88 (F:T_Z88) (x0:Int) (x1:ByteArray):Qg (Jv []) (Jw [m_Z88 F]) A 33 (Jm (Jl Try.f33) 4) ((m_Z88 F).sh.mk' [.I x0,.S x1]) (fun e σ'=>some (e,σ'))=c_Z88 F x0 x1 (fun y=>some (.exit 0,SSt.mk' ⟨(.undef::.undef::.undef::.str::uu 16 ([])),[]⟩ [.S y])):=by kernel_rfl
theorem m_Z88_ok:∀ n,(m_Z88 (n_Z88 n)).ok Try.prog (Jm (Jl Try.f33) 4):=by
 intro n
 induction n with
 | zero=>
  intro R ds k r h
  unfold m_Z88 at h
  obtain ⟨_,_,rfl,h⟩:=Ja h
  obtain ⟨_,_,rfl,h⟩:=QI h
  obtain ⟨rfl,hE⟩:=Jg h
  obtain ⟨y,hy,hk⟩:=Jh hE
  cases hy
 | succ n ih=>
  intro R ds k r h
  unfold m_Z88 at h
  obtain ⟨_,_,rfl,h⟩:=Ja h
  obtain ⟨_,_,rfl,h⟩:=QI h
  obtain ⟨rfl,hE⟩:=Jg h
  obtain ⟨y,hy,hk⟩:=Jh hE
  exact ⟨0,_,_,_,hk,rfl,J6 px (fx:=⟨Try.func33,by kernel_rfl,by kernel_rfl⟩) Js (Jx ih Jt) (by kernel_rfl) ((q_Z88 ..).trans ((c_Z88_bind ..).trans (Jj hy)))⟩
noncomputable def e_Z88:Jz:=m_Z88 (Z88)
theorem e_Z88_ok:(e_Z88).ok Try.prog (Jm (Jl Try.f33) 4):=by
 intro R ds k r h
 unfold e_Z88 m_Z88 at h
 obtain ⟨_,_,rfl,h⟩:=Ja h
 obtain ⟨_,_,rfl,h⟩:=QI h
 obtain ⟨rfl,hE⟩:=Jg h
 obtain ⟨y,hy,hk⟩:=Jh hE
 obtain ⟨n,hn⟩:=Qh hy
 exact m_Z88_ok n R _ k r ((Jj hn).trans hk)

/-!-/
def c_Z89 {R:Type} (x0:Int) (k:ByteArray→Option R):Option R:=
 bif decide (x0≤(0:Int)) then
 k (bytes_1)
 else
 (Z88 x0 (bytes_0)).bind (fun y0=>
 if bytes_2.size+y0.size≤(4294967296:Nat) then
 k (bytes_2++y0)
 else
 none)
theorem c_Z89_bind {R:Type} (x0:Int) (k:ByteArray→Option R):c_Z89 x0 k=(c_Z89 x0 some).bind k:=by
 unfold c_Z89
 repeat' first
  | exact JH
  | exact JG
  | exact JF
  | apply JC
  | apply JD
  | apply JI
  | (apply JE; intro _)
  | intro _
def Z89 (x0:Int):Option (ByteArray):=c_Z89 x0 some
def e_Z89:Ent:=⟨33,[.int .i64],[(.str,[.undef])],fun _ ds k=>dI (fun x0 ds=>dE ((Z89 x0).bind (fun y=>k 0 [.S y])) ds) ds⟩
theorem q_Z89 (x0:Int):J5 (Jv []) (Jw [e_Z88]) A 33 Try.f33 (Sh.mks e_Z89.sh [.I x0]).1 (fun v os=>some (v,os))=c_Z89 x0 (fun y=>J9 e_Z89 0 [.S y]):=by kernel_rfl
theorem e_Z89_ok:e_Z89.ok Try.prog A:=by
 intro R ds k r h
 unfold e_Z89 at h
 obtain ⟨_,_,rfl,h⟩:=Ja h
 obtain ⟨rfl,hE⟩:=Jg h
 obtain ⟨y,hy,hk⟩:=Jh hE
 exact ⟨0,_,_,_,hk,rfl,Qa px (fx:=⟨Try.func33,by kernel_rfl,by kernel_rfl⟩) Js (Jx e_Z88_ok Jt) ((q_Z89 ..).trans ((c_Z89_bind ..).trans (Jj hy)))⟩

/-!-/
abbrev T_Z90:=Int→Int→List D→Option (Int×List D)
def c_Z90 {R:Type} (F:T_Z90) (x0 x1:Int) (x2:List D) (k:Int×List D→Option R):Option R:=
 bif decide (x1<(↑x2.length:Int)) then
 if 0≤x1∧x1<(↑x2.length:Int) then
 if x1.toNat+1≤x2.length then
 if x1.toNat+1≤x2.length then
 (Z89 (IntKind.i64.wrap (x0+1))).bind (fun y0=>
 Z0 (x2.set x1.toNat (D.node [D.int x0,D.str ((x2.getD x1.toNat (D.int 0)).fld (1:Nat)).toStr,D.int ((x2.getD x1.toNat (D.int 0)).fld (2:Nat)).toInt,D.int ((x2.getD x1.toNat (D.int 0)).fld (3:Nat)).toInt,D.int ((x2.getD x1.toNat (D.int 0)).fld (4:Nat)).toInt])) (fun s1=>
 if 0≤x1∧x1<(↑s1.length:Int) then
 if x1.toNat+1≤s1.length then
 if x1.toNat+1≤s1.length then
 Z0 (s1.set x1.toNat (D.node [D.int ((s1.getD x1.toNat (D.int 0)).fld (0:Nat)).toInt,D.str y0,D.int ((s1.getD x1.toNat (D.int 0)).fld (2:Nat)).toInt,D.int ((s1.getD x1.toNat (D.int 0)).fld (3:Nat)).toInt,D.int ((s1.getD x1.toNat (D.int 0)).fld (4:Nat)).toInt])) (fun s2=>
 if 0≤x1∧x1<(↑s2.length:Int) then
 if x1.toNat+1≤s2.length then
 if x1.toNat+1≤s2.length then
 Z0 (s2.set x1.toNat (D.node [D.int ((s2.getD x1.toNat (D.int 0)).fld (0:Nat)).toInt,D.str ((s2.getD x1.toNat (D.int 0)).fld (1:Nat)).toStr,D.int (IntKind.i64.wrap (IntKind.i64.wrap (x0+1)+(1:Int))),D.int ((s2.getD x1.toNat (D.int 0)).fld (3:Nat)).toInt,D.int ((s2.getD x1.toNat (D.int 0)).fld (4:Nat)).toInt])) (fun s3=>
 if 0≤x1∧x1<(↑s3.length:Int) then
 if x1.toNat+1≤s3.length then
 if x1.toNat+1≤s3.length then
 Z0 (s3.set x1.toNat (D.node [D.int ((s3.getD x1.toNat (D.int 0)).fld (0:Nat)).toInt,D.str ((s3.getD x1.toNat (D.int 0)).fld (1:Nat)).toStr,D.int ((s3.getD x1.toNat (D.int 0)).fld (2:Nat)).toInt,D.int (IntKind.i64.wrap (IntKind.i64.wrap (IntKind.i64.wrap (x0+1)+(1:Int))+(1:Int))),D.int ((s3.getD x1.toNat (D.int 0)).fld (4:Nat)).toInt])) (fun s4=>
 if 0≤x1∧x1<(↑s4.length:Int) then
 if x1.toNat+1≤s4.length then
 if x1.toNat+1≤s4.length then
 (F (IntKind.i64.wrap (IntKind.i64.wrap (IntKind.i64.wrap (IntKind.i64.wrap (IntKind.i64.wrap (x0+1)+(1:Int))+(1:Int))+(1:Int))+(1:Int))) (IntKind.i64.wrap (x1+1)) (s4.set x1.toNat (D.node [D.int ((s4.getD x1.toNat (D.int 0)).fld (0:Nat)).toInt,D.str ((s4.getD x1.toNat (D.int 0)).fld (1:Nat)).toStr,D.int ((s4.getD x1.toNat (D.int 0)).fld (2:Nat)).toInt,D.int ((s4.getD x1.toNat (D.int 0)).fld (3:Nat)).toInt,D.int (IntKind.i64.wrap (IntKind.i64.wrap (IntKind.i64.wrap (IntKind.i64.wrap (x0+1)+(1:Int))+(1:Int))+(1:Int)))]))).bind k
 else
 none
 else
 none
 else
 none)
 else
 none
 else
 none
 else
 none)
 else
 none
 else
 none
 else
 none)
 else
 none
 else
 none
 else
 none))
 else
 none
 else
 none
 else
 none
 else
 k (x0,x2)
theorem c_Z90_bind {R:Type} (F:T_Z90) (x0 x1:Int) (x2:List D) (k:Int×List D→Option R):c_Z90 F x0 x1 x2 k=(c_Z90 F x0 x1 x2 some).bind k:=by
 unfold c_Z90
 repeat' first
  | exact JH
  | exact JG
  | exact JF
  | apply JC
  | apply bnd_lt
  | apply JD
  | apply JI
  | (apply JE; intro _)
  | intro _
def n_Z90:Nat→T_Z90
 | 0,_,_,_=>none
 | n+1,x0,x1,x2=>c_Z90 (n_Z90 n) x0 x1 x2 some
noncomputable def Z90 (x0 x1:Int) (x2:List D):Option (Int×List D):=ev (fun n=>n_Z90 n x0 x1 x2)
def m_Z90 (F:T_Z90):Jz:=⟨2,⟨(.full 1000 [] (.struct [.int .i64,.str,.int .i64,.int .i64,.int .i64])::.int .i64::.undef::.undef::.undef::.int .i64::uu 43 ([])),[(1000,.own (.struct [.int .i64,.str,.int .i64,.int .i64,.int .i64]))]⟩,[(.exit 0,⟨(.full 1000 [] (.struct [.int .i64,.str,.int .i64,.int .i64,.int .i64])::.int .i64::uu 47 ([])),[(1000,.own (.struct [.int .i64,.str,.int .i64,.int .i64,.int .i64]))]⟩)],fun _ ds k=>dI (fun x0 ds=>dI (fun x1 ds=>dL (fun x2 ds=>dE ((F x0 x1 x2).bind (fun y=>k 0 [.I y.1,.L y.2])) ds) ds) ds) ds⟩
theorem q_Z90 (F:T_Z90) (x0 x1:Int) (x2:List D):Qg (Jv [e_Z89]) (Jw [m_Z90 F]) A 13 (Jm (Jl Try.f13) 2) ((m_Z90 F).sh.mk' [.I x0,.I x1,.L x2]) (fun e σ'=>some (e,σ'))=c_Z90 F x0 x1 x2 (fun y=>some (.exit 0,SSt.mk' ⟨(.full 1000 [] (.struct [.int .i64,.str,.int .i64,.int .i64,.int .i64])::.int .i64::uu 47 ([])),[(1000,.own (.struct [.int .i64,.str,.int .i64,.int .i64,.int .i64]))]⟩ [.I y.1,.L y.2])):=by kernel_rfl
theorem m_Z90_ok:∀ n,(m_Z90 (n_Z90 n)).ok Try.prog (Jm (Jl Try.f13) 2):=by
 intro n
 induction n with
 | zero=>
  intro R ds k r h
  unfold m_Z90 at h
  obtain ⟨_,_,rfl,h⟩:=Ja h
  obtain ⟨_,_,rfl,h⟩:=Ja h
  obtain ⟨_,_,rfl,h⟩:=Jd h
  obtain ⟨rfl,hE⟩:=Jg h
  obtain ⟨y,hy,hk⟩:=Jh hE
  cases hy
 | succ n ih=>
  intro R ds k r h
  unfold m_Z90 at h
  obtain ⟨_,_,rfl,h⟩:=Ja h
  obtain ⟨_,_,rfl,h⟩:=Ja h
  obtain ⟨_,_,rfl,h⟩:=Jd h
  obtain ⟨rfl,hE⟩:=Jg h
  obtain ⟨y,hy,hk⟩:=Jh hE
  exact ⟨0,_,_,_,hk,rfl,J6 px (fx:=⟨Try.func13,by kernel_rfl,by kernel_rfl⟩) (JR e_Z89_ok Js) (Jx ih Jt) (by kernel_rfl) ((q_Z90 ..).trans ((c_Z90_bind ..).trans (Jj hy)))⟩
noncomputable def e_Z90:Jz:=m_Z90 (Z90)
theorem e_Z90_ok:(e_Z90).ok Try.prog (Jm (Jl Try.f13) 2):=by
 intro R ds k r h
 unfold e_Z90 m_Z90 at h
 obtain ⟨_,_,rfl,h⟩:=Ja h
 obtain ⟨_,_,rfl,h⟩:=Ja h
 obtain ⟨_,_,rfl,h⟩:=Jd h
 obtain ⟨rfl,hE⟩:=Jg h
 obtain ⟨y,hy,hk⟩:=Jh hE
 obtain ⟨n,hn⟩:=Qh hy
 exact m_Z90_ok n R _ k r ((Jj hn).trans hk)

/-!-/
def c_Z91 {R:Type} (x0:List D) (x1:Int) (k:Int×List D→Option R):Option R:=
 (Z90 x1 (0:Int) x0).bind (fun y0=>
 k (y0.fst,y0.snd))
theorem c_Z91_bind {R:Type} (x0:List D) (x1:Int) (k:Int×List D→Option R):c_Z91 x0 x1 k=(c_Z91 x0 x1 some).bind k:=by
 unfold c_Z91
 repeat' first
  | exact JH
  | exact JG
  | exact JF
  | apply JC
  | apply JD
  | apply JI
  | (apply JE; intro _)
  | intro _
def Z91 (x0:List D) (x1:Int):Option (Int×List D):=c_Z91 x0 x1 some
def e_Z91:Ent:=⟨13,[.own (.struct [.int .i64,.str,.int .i64,.int .i64,.int .i64]),.int .i64],[(.int .i64,[.own (.struct [.int .i64,.str,.int .i64,.int .i64,.int .i64]),.undef])],fun _ ds k=>dL (fun x0 ds=>dI (fun x1 ds=>dE ((Z91 x0 x1).bind (fun y=>k 0 [.I y.1,.L y.2])) ds) ds) ds⟩
theorem q_Z91 (x0:List D) (x1:Int):J5 (Jv []) (Jw [e_Z90]) A 13 Try.f13 (Sh.mks e_Z91.sh [.L x0,.I x1]).1 (fun v os=>some (v,os))=c_Z91 x0 x1 (fun y=>J9 e_Z91 0 [.I y.1,.L y.2]):=by kernel_rfl
theorem e_Z91_ok:e_Z91.ok Try.prog A:=by
 intro R ds k r h
 unfold e_Z91 at h
 obtain ⟨_,_,rfl,h⟩:=Jd h
 obtain ⟨_,_,rfl,h⟩:=Ja h
 obtain ⟨rfl,hE⟩:=Jg h
 obtain ⟨y,hy,hk⟩:=Jh hE
 exact ⟨0,_,_,_,hk,rfl,Qa px (fx:=⟨Try.func13,by kernel_rfl,by kernel_rfl⟩) Js (Jx e_Z90_ok Jt) ((q_Z91 ..).trans ((c_Z91_bind ..).trans (Jj hy)))⟩

/-!-/
abbrev T_Z92:=Int→Int→List D→Option (Int×List D)
def c_Z92 {R:Type} (F:T_Z92) (x0 x1:Int) (x2:List D) (k:Int×List D→Option R):Option R:=
 bif decide (x1<(↑x2.length:Int)) then
 if 0≤x1∧x1<(↑x2.length:Int) then
 if x1.toNat+1≤x2.length then
 (F (IntKind.i64.wrap (x0+1)) (IntKind.i64.wrap (x1+1)) (x2.set x1.toNat (D.int x0))).bind k
 else
 none
 else
 none
 else
 k (x0,x2)
theorem c_Z92_bind {R:Type} (F:T_Z92) (x0 x1:Int) (x2:List D) (k:Int×List D→Option R):c_Z92 F x0 x1 x2 k=(c_Z92 F x0 x1 x2 some).bind k:=by
 unfold c_Z92
 repeat' first
  | exact JH
  | exact JG
  | exact JF
  | apply JC
  | apply JD
  | apply JI
  | (apply JE; intro _)
  | intro _
def n_Z92:Nat→T_Z92
 | 0,_,_,_=>none
 | n+1,x0,x1,x2=>c_Z92 (n_Z92 n) x0 x1 x2 some
noncomputable def Z92 (x0 x1:Int) (x2:List D):Option (Int×List D):=ev (fun n=>n_Z92 n x0 x1 x2)
def m_Z92 (F:T_Z92):Jz:=⟨2,⟨(.full 1000 [] (.int .i64)::.int .i64::.undef::.undef::.undef::.int .i64::uu 13 ([])),[(1000,.own (.int .i64))]⟩,[(.exit 0,⟨(.full 1000 [] (.int .i64)::.int .i64::uu 17 ([])),[(1000,.own (.int .i64))]⟩)],fun _ ds k=>dI (fun x0 ds=>dI (fun x1 ds=>dL (fun x2 ds=>dE ((F x0 x1 x2).bind (fun y=>k 0 [.I y.1,.L y.2])) ds) ds) ds) ds⟩
theorem q_Z92 (F:T_Z92) (x0 x1:Int) (x2:List D):Qg (Jv []) (Jw [m_Z92 F]) A 21 (Jm (Jl Try.f21) 2) ((m_Z92 F).sh.mk' [.I x0,.I x1,.L x2]) (fun e σ'=>some (e,σ'))=c_Z92 F x0 x1 x2 (fun y=>some (.exit 0,SSt.mk' ⟨(.full 1000 [] (.int .i64)::.int .i64::uu 17 ([])),[(1000,.own (.int .i64))]⟩ [.I y.1,.L y.2])):=by kernel_rfl
theorem m_Z92_ok:∀ n,(m_Z92 (n_Z92 n)).ok Try.prog (Jm (Jl Try.f21) 2):=by
 intro n
 induction n with
 | zero=>
  intro R ds k r h
  unfold m_Z92 at h
  obtain ⟨_,_,rfl,h⟩:=Ja h
  obtain ⟨_,_,rfl,h⟩:=Ja h
  obtain ⟨_,_,rfl,h⟩:=Jd h
  obtain ⟨rfl,hE⟩:=Jg h
  obtain ⟨y,hy,hk⟩:=Jh hE
  cases hy
 | succ n ih=>
  intro R ds k r h
  unfold m_Z92 at h
  obtain ⟨_,_,rfl,h⟩:=Ja h
  obtain ⟨_,_,rfl,h⟩:=Ja h
  obtain ⟨_,_,rfl,h⟩:=Jd h
  obtain ⟨rfl,hE⟩:=Jg h
  obtain ⟨y,hy,hk⟩:=Jh hE
  exact ⟨0,_,_,_,hk,rfl,J6 px (fx:=⟨Try.func21,by kernel_rfl,by kernel_rfl⟩) Js (Jx ih Jt) (by kernel_rfl) ((q_Z92 ..).trans ((c_Z92_bind ..).trans (Jj hy)))⟩
noncomputable def e_Z92:Jz:=m_Z92 (Z92)
theorem e_Z92_ok:(e_Z92).ok Try.prog (Jm (Jl Try.f21) 2):=by
 intro R ds k r h
 unfold e_Z92 m_Z92 at h
 obtain ⟨_,_,rfl,h⟩:=Ja h
 obtain ⟨_,_,rfl,h⟩:=Ja h
 obtain ⟨_,_,rfl,h⟩:=Jd h
 obtain ⟨rfl,hE⟩:=Jg h
 obtain ⟨y,hy,hk⟩:=Jh hE
 obtain ⟨n,hn⟩:=Qh hy
 exact m_Z92_ok n R _ k r ((Jj hn).trans hk)

/-!-/
def c_Z93 {R:Type} (x0:List D) (x1:Int) (k:Int×List D→Option R):Option R:=
 (Z92 x1 (0:Int) x0).bind (fun y0=>
 k (y0.fst,y0.snd))
theorem c_Z93_bind {R:Type} (x0:List D) (x1:Int) (k:Int×List D→Option R):c_Z93 x0 x1 k=(c_Z93 x0 x1 some).bind k:=by
 unfold c_Z93
 repeat' first
  | exact JH
  | exact JG
  | exact JF
  | apply JC
  | apply JD
  | apply JI
  | (apply JE; intro _)
  | intro _
def Z93 (x0:List D) (x1:Int):Option (Int×List D):=c_Z93 x0 x1 some
def e_Z93:Ent:=⟨21,[.own (.int .i64),.int .i64],[(.int .i64,[.own (.int .i64),.undef])],fun _ ds k=>dL (fun x0 ds=>dI (fun x1 ds=>dE ((Z93 x0 x1).bind (fun y=>k 0 [.I y.1,.L y.2])) ds) ds) ds⟩
theorem q_Z93 (x0:List D) (x1:Int):J5 (Jv []) (Jw [e_Z92]) A 21 Try.f21 (Sh.mks e_Z93.sh [.L x0,.I x1]).1 (fun v os=>some (v,os))=c_Z93 x0 x1 (fun y=>J9 e_Z93 0 [.I y.1,.L y.2]):=by kernel_rfl
theorem e_Z93_ok:e_Z93.ok Try.prog A:=by
 intro R ds k r h
 unfold e_Z93 at h
 obtain ⟨_,_,rfl,h⟩:=Jd h
 obtain ⟨_,_,rfl,h⟩:=Ja h
 obtain ⟨rfl,hE⟩:=Jg h
 obtain ⟨y,hy,hk⟩:=Jh hE
 exact ⟨0,_,_,_,hk,rfl,Qa px (fx:=⟨Try.func21,by kernel_rfl,by kernel_rfl⟩) Js (Jx e_Z92_ok Jt) ((q_Z93 ..).trans ((c_Z93_bind ..).trans (Jj hy)))⟩

/-!-/
abbrev T_Z94:=List D→Int→Int→Option ((Int×Int)⊕(Int))
def c_Z94 {R:Type} (F:T_Z94) (x0:List D) (x1 x2:Int) (k:(Int×Int)⊕(Int)→Option R):Option R:=
 bif decide (x2<(↑x0.length:Int)) then
 if 0≤x2∧x2<(↑x0.length:Int) then
 bif !decide ((x0.getD x2.toNat (D.int 0)).toInt=x1) then
 k (.inl (x1,(-1:Int)))
 else
 (F x0 (IntKind.i64.wrap (x1+1)) (IntKind.i64.wrap (x2+1))).bind k
 else
 none
 else
 k (.inr x1)
theorem c_Z94_bind {R:Type} (F:T_Z94) (x0:List D) (x1 x2:Int) (k:(Int×Int)⊕(Int)→Option R):c_Z94 F x0 x1 x2 k=(c_Z94 F x0 x1 x2 some).bind k:=by
 unfold c_Z94
 repeat' first
  | exact JH
  | exact JG
  | exact JF
  | apply JC
  | apply JD
  | apply JI
  | (apply JE; intro _)
  | intro _
def n_Z94:Nat→T_Z94
 | 0,_,_,_=>none
 | n+1,x0,x1,x2=>c_Z94 (n_Z94 n) x0 x1 x2 some
noncomputable def Z94 (x0:List D) (x1 x2:Int):Option ((Int×Int)⊕(Int)):=ev (fun n=>n_Z94 n x0 x1 x2)
def m_Z94 (F:T_Z94):Jz:=⟨2,⟨(.rd (.int .i64)::.int .i64::.undef::.undef::.undef::.int .i64::uu 15 ([])),[]⟩,[(.ret,⟨(.undef::.int .i64::.undef::.undef::.int .i64::uu 16 ([])),[]⟩),(.exit 0,⟨(.undef::.int .i64::uu 19 ([])),[]⟩)],fun _ ds k=>dL (fun x0 ds=>dI (fun x1 ds=>dI (fun x2 ds=>dE ((F x0 x1 x2).bind (Sum.elim (fun y=>k 0 [.I y.1,.I y.2]) (fun y=>k 1 [.I y]))) ds) ds) ds) ds⟩
theorem q_Z94 (F:T_Z94) (x0:List D) (x1 x2:Int):Qg (Jv []) (Jw [m_Z94 F]) A 22 (Jm (Jl Try.f22) 2) ((m_Z94 F).sh.mk' [.L x0,.I x1,.I x2]) (fun e σ'=>some (e,σ'))=c_Z94 F x0 x1 x2 (Sum.elim (fun y=>some (.ret,SSt.mk' ⟨(.undef::.int .i64::.undef::.undef::.int .i64::uu 16 ([])),[]⟩ [.I y.1,.I y.2])) (fun y=>some (.exit 0,SSt.mk' ⟨(.undef::.int .i64::uu 19 ([])),[]⟩ [.I y]))):=by kernel_rfl
theorem m_Z94_ok:∀ n,(m_Z94 (n_Z94 n)).ok Try.prog (Jm (Jl Try.f22) 2):=by
 intro n
 induction n with
 | zero=>
  intro R ds k r h
  unfold m_Z94 at h
  obtain ⟨_,_,rfl,h⟩:=Jd h
  obtain ⟨_,_,rfl,h⟩:=Ja h
  obtain ⟨_,_,rfl,h⟩:=Ja h
  obtain ⟨rfl,hE⟩:=Jg h
  obtain ⟨y,hy,hk⟩:=Jh hE
  cases hy
 | succ n ih=>
  intro R ds k r h
  unfold m_Z94 at h
  obtain ⟨_,_,rfl,h⟩:=Jd h
  obtain ⟨_,_,rfl,h⟩:=Ja h
  obtain ⟨_,_,rfl,h⟩:=Ja h
  obtain ⟨rfl,hE⟩:=Jg h
  obtain ⟨y,hy,hk⟩:=Jh hE
  cases y with
  | inl y=>
   exact ⟨0,_,_,_,hk,rfl,J6 px (fx:=⟨Try.func22,by kernel_rfl,by kernel_rfl⟩) Js (Jx ih Jt) (by kernel_rfl) ((q_Z94 ..).trans ((c_Z94_bind ..).trans (Jj hy)))⟩
  | inr y=>
   exact ⟨1,_,_,_,hk,rfl,J6 px (fx:=⟨Try.func22,by kernel_rfl,by kernel_rfl⟩) Js (Jx ih Jt) (by kernel_rfl) ((q_Z94 ..).trans ((c_Z94_bind ..).trans (Jj hy)))⟩
noncomputable def e_Z94:Jz:=m_Z94 (Z94)
theorem e_Z94_ok:(e_Z94).ok Try.prog (Jm (Jl Try.f22) 2):=by
 intro R ds k r h
 unfold e_Z94 m_Z94 at h
 obtain ⟨_,_,rfl,h⟩:=Jd h
 obtain ⟨_,_,rfl,h⟩:=Ja h
 obtain ⟨_,_,rfl,h⟩:=Ja h
 obtain ⟨rfl,hE⟩:=Jg h
 obtain ⟨y,hy,hk⟩:=Jh hE
 obtain ⟨n,hn⟩:=Qh hy
 exact m_Z94_ok n R _ k r ((Jj hn).trans hk)

/-!-/
def c_Z95 {R:Type} (x0:List D) (x1:Int) (k:Int→Option R):Option R:=
 (Z94 x0 x1 (0:Int)).bind (Sum.elim (fun y0=>
 k y0.snd) (fun y1=>
 k y1))
theorem c_Z95_bind {R:Type} (x0:List D) (x1:Int) (k:Int→Option R):c_Z95 x0 x1 k=(c_Z95 x0 x1 some).bind k:=by
 unfold c_Z95
 repeat' first
  | exact JH
  | exact JG
  | exact JF
  | apply JC
  | apply JD
  | apply JI
  | (apply JE; intro _)
  | intro _
def Z95 (x0:List D) (x1:Int):Option (Int):=c_Z95 x0 x1 some
def e_Z95:Ent:=⟨22,[.rd (.int .i64),.int .i64],[(.int .i64,[.undef,.undef])],fun _ ds k=>dL (fun x0 ds=>dI (fun x1 ds=>dE ((Z95 x0 x1).bind (fun y=>k 0 [.I y])) ds) ds) ds⟩
theorem q_Z95 (x0:List D) (x1:Int):J5 (Jv []) (Jw [e_Z94]) A 22 Try.f22 (Sh.mks e_Z95.sh [.L x0,.I x1]).1 (fun v os=>some (v,os))=c_Z95 x0 x1 (fun y=>J9 e_Z95 0 [.I y]):=by kernel_rfl
theorem e_Z95_ok:e_Z95.ok Try.prog A:=by
 intro R ds k r h
 unfold e_Z95 at h
 obtain ⟨_,_,rfl,h⟩:=Jd h
 obtain ⟨_,_,rfl,h⟩:=Ja h
 obtain ⟨rfl,hE⟩:=Jg h
 obtain ⟨y,hy,hk⟩:=Jh hE
 exact ⟨0,_,_,_,hk,rfl,Qa px (fx:=⟨Try.func22,by kernel_rfl,by kernel_rfl⟩) Js (Jx e_Z94_ok Jt) ((q_Z95 ..).trans ((c_Z95_bind ..).trans (Jj hy)))⟩

/-!-/
def c_Z96 {R:Type} (x0:List D) (x1:Int) (k:Bool→Option R):Option R:=
 (Z3 x0 (1048576:Int)).bind (fun y0=>
 bif decide (y0<(0:Int)) then
 k Bool.true
 else
 (Z6 x0).bind (fun y1=>
 (Z27 y1 x1).bind (fun y2=>
 (Z6 x0).bind (fun y3=>
 (Z82 y3 x1).bind (fun y4=>
 (Z84 y4.fst y2.fst).bind (fun y5=>
 bif !y5 then
 k Bool.false
 else
 bif !y4.snd==y2.snd then
 k Bool.false
 else
 (Z6 x0).bind (fun y6=>
 (Z87 y3 y6).bind (fun y7=>
 bif !y7 then
 k Bool.false
 else
 (Z91 y3 (1:Int)).bind (fun y8=>
 bif decide (y8.fst<(0:Int)) then
 k Bool.false
 else
 (Z84 y4.fst y2.fst).bind (fun y9=>
 bif !y9 then
 k Bool.false
 else
 bif !y4.snd==y2.snd then
 k Bool.false
 else
 (Z93 y4.fst (1:Int)).bind (fun y10=>
 (Z95 y10.snd (1:Int)).bind (fun y11=>
 bif decide (y11<(0:Int)) then
 k Bool.false
 else
 bif !decide (y11=y10.fst) then
 k Bool.false
 else
 (Z6 x0).bind (fun y12=>
 (Z82 y12 x1).bind (fun y13=>
 (Z84 y13.fst y2.fst).bind (fun y14=>
 bif !y14 then
 k Bool.false
 else
 bif !y13.snd==y2.snd then
 k Bool.false
 else
 (Z95 y10.snd (1:Int)).bind (fun y15=>
 bif decide (y15<(0:Int)) then
 k Bool.false
 else
 bif !decide (y15=y10.fst) then
 k Bool.false
 else
 k Bool.true))))))))))))))))
theorem c_Z96_bind {R:Type} (x0:List D) (x1:Int) (k:Bool→Option R):c_Z96 x0 x1 k=(c_Z96 x0 x1 some).bind k:=by
 unfold c_Z96
 repeat' first
  | exact JH
  | exact JG
  | exact JF
  | apply JC
  | apply JD
  | apply JI
  | (apply JE; intro _)
  | intro _
def Z96 (x0:List D) (x1:Int):Option (Bool):=c_Z96 x0 x1 some
def e_Z96:Ent:=⟨5,[.rd (.struct [.int .i64,.str,.int .i64,.int .i64,.int .i64]),.int .i64],[(.bool,[.undef,.undef])],fun _ ds k=>dL (fun x0 ds=>dI (fun x1 ds=>dE ((Z96 x0 x1).bind (fun y=>k 0 [.B y])) ds) ds) ds⟩
theorem q_Z96 (x0:List D) (x1:Int):J5 (Jv [e_Z3,e_Z6,e_Z27,e_Z82,e_Z84,e_Z87,e_Z91,e_Z93,e_Z95]) (Jw []) A 5 Try.f5 (Sh.mks e_Z96.sh [.L x0,.I x1]).1 (fun v os=>some (v,os))=c_Z96 x0 x1 (fun y=>J9 e_Z96 0 [.B y]):=by kernel_rfl
theorem e_Z96_ok:e_Z96.ok Try.prog A:=by
 intro R ds k r h
 unfold e_Z96 at h
 obtain ⟨_,_,rfl,h⟩:=Jd h
 obtain ⟨_,_,rfl,h⟩:=Ja h
 obtain ⟨rfl,hE⟩:=Jg h
 obtain ⟨y,hy,hk⟩:=Jh hE
 exact ⟨0,_,_,_,hk,rfl,Qa px (fx:=⟨Try.func5,by kernel_rfl,by kernel_rfl⟩) (JR e_Z3_ok (JR e_Z6_ok (JR e_Z27_ok (JR e_Z82_ok (JR e_Z84_ok (JR e_Z87_ok (JR e_Z91_ok (JR e_Z93_ok (JR e_Z95_ok Js))))))))) Jt ((q_Z96 ..).trans ((c_Z96_bind ..).trans (Jj hy)))⟩
end
end Go.Proofs.Ytacnicopnbcioaa
