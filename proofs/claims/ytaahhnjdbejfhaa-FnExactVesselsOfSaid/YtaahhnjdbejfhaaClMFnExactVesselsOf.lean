/- Models of Go functions and their contracts, printed by a program of this session. -/
import Derived.Test.YtaahhnjdbejfhaaClA
set_option linter.unusedVariables false
set_option maxRecDepth 100000
namespace Go.Proofs.Ytaahhnjdbejfhaa
open Go Go.Rai
noncomputable section
def Z0 {α β:Type} (a:α) (f:α→β):β:=f a
theorem bnd_lt {α β γ:Type} {a:γ} {f:γ→Option β} {g:γ→Option α} {k:α→Option β} (h:∀ z,f z=(g z).bind k):Z0 a f=(Z0 a g).bind k:=h a
/-!-/
def c_Z1 {R:Type} (x0:List D) (x1:Int) (k:Int→Option R):Option R:=
 bif decide (IntKind.i64.wrap (x1 - (↑x0.length:Int))<(0:Int)) then
 k (-1:Int)
 else
 k (IntKind.i64.wrap (x1 - (↑x0.length:Int)))
theorem c_Z1_bind {R:Type} (x0:List D) (x1:Int) (k:Int→Option R):c_Z1 x0 x1 k=(c_Z1 x0 x1 some).bind k:=by
 unfold c_Z1
 repeat' first
  | exact J0
  | exact JZ
  | exact JY
  | apply JV
  | apply JW
  | apply J1
  | (apply JX;intro _)
  | intro _
def Z1 (x0:List D) (x1:Int):Option (Int):=c_Z1 x0 x1 some
def e_Z1:Ent:=⟨10,[.rd (.struct [.int .i64,.int .i64,.int .i64,.int .i64]),.int .i64],[(.int .i64,[.undef,.undef])],fun _ ds k=>dL (fun x0 ds=>dI (fun x1 ds=>dE ((Z1 x0 x1).bind (fun y=>k 0 [.I y])) ds) ds) ds⟩
theorem q_Z1 (x0:List D) (x1:Int):Qs (JM []) (JN []) A 10 Try.f10 (Sh.mks e_Z1.sh [.L x0,.I x1]).1 (fun v os=>some (v,os))=c_Z1 x0 x1 (fun y=>QA e_Z1 0 [.I y]):=by kernel_rfl
theorem e_Z1_ok:e_Z1.ok Try.prog A:=by
 intro R ds k r h
 unfold e_Z1 at h
 obtain ⟨_,_,rfl,h⟩:=Jf h
 obtain ⟨_,_,rfl,h⟩:=Jg h
 obtain ⟨rfl,hE⟩:=Jm h
 obtain ⟨y,hy,hk⟩:=Jn hE
 exact ⟨0,_,_,_,hk,rfl,QB px (fx:=⟨Try.func10,by kernel_rfl,by kernel_rfl⟩) JI JJ ((q_Z1 ..).trans ((c_Z1_bind ..).trans (Jt hy)))⟩

/-!-/
def c_Z2 {R:Type} (x0:List D) (x1:Int) (k:Int→Option R):Option R:=
 bif decide (IntKind.i64.wrap (x1 - (↑x0.length:Int))<(0:Int)) then
 k (-1:Int)
 else
 k (IntKind.i64.wrap (x1 - (↑x0.length:Int)))
theorem c_Z2_bind {R:Type} (x0:List D) (x1:Int) (k:Int→Option R):c_Z2 x0 x1 k=(c_Z2 x0 x1 some).bind k:=by
 unfold c_Z2
 repeat' first
  | exact J0
  | exact JZ
  | exact JY
  | apply JV
  | apply JW
  | apply J1
  | (apply JX;intro _)
  | intro _
def Z2 (x0:List D) (x1:Int):Option (Int):=c_Z2 x0 x1 some
def e_Z2:Ent:=⟨15,[.rd (.struct [.int .i64,.int .i64]),.int .i64],[(.int .i64,[.undef,.undef])],fun _ ds k=>dL (fun x0 ds=>dI (fun x1 ds=>dE ((Z2 x0 x1).bind (fun y=>k 0 [.I y])) ds) ds) ds⟩
theorem q_Z2 (x0:List D) (x1:Int):Qs (JM []) (JN []) A 15 Try.f15 (Sh.mks e_Z2.sh [.L x0,.I x1]).1 (fun v os=>some (v,os))=c_Z2 x0 x1 (fun y=>QA e_Z2 0 [.I y]):=by kernel_rfl
theorem e_Z2_ok:e_Z2.ok Try.prog A:=by
 intro R ds k r h
 unfold e_Z2 at h
 obtain ⟨_,_,rfl,h⟩:=Jf h
 obtain ⟨_,_,rfl,h⟩:=Jg h
 obtain ⟨rfl,hE⟩:=Jm h
 obtain ⟨y,hy,hk⟩:=Jn hE
 exact ⟨0,_,_,_,hk,rfl,QB px (fx:=⟨Try.func15,by kernel_rfl,by kernel_rfl⟩) JI JJ ((q_Z2 ..).trans ((c_Z2_bind ..).trans (Jt hy)))⟩

/-!-/
def c_Z3 {R:Type} (x0 x1 x2 x3:Int) (k:Int×Int×Int×Int→Option R):Option R:=
 k (x0,x1,x2,x3)
theorem c_Z3_bind {R:Type} (x0 x1 x2 x3:Int) (k:Int×Int×Int×Int→Option R):c_Z3 x0 x1 x2 x3 k=(c_Z3 x0 x1 x2 x3 some).bind k:=by
 unfold c_Z3
 repeat' first
  | exact J0
  | exact JZ
  | exact JY
  | apply JV
  | apply JW
  | apply J1
  | (apply JX;intro _)
  | intro _
def Z3 (x0 x1 x2 x3:Int):Option (Int×Int×Int×Int):=c_Z3 x0 x1 x2 x3 some
def e_Z3:Ent:=⟨49,[.agg [.int .i64,.int .i64,.int .i64,.int .i64]],[(.agg [.int .i64,.int .i64,.int .i64,.int .i64],[.undef])],fun _ ds k=>dI (fun x0 ds=>dI (fun x1 ds=>dI (fun x2 ds=>dI (fun x3 ds=>dE ((Z3 x0 x1 x2 x3).bind (fun y=>k 0 [.I y.1,.I y.2.1,.I y.2.2.1,.I y.2.2.2])) ds) ds) ds) ds) ds⟩
theorem q_Z3 (x0 x1 x2 x3:Int):Qs (JM []) (JN []) A 49 Try.f49 (Sh.mks e_Z3.sh [.I x0,.I x1,.I x2,.I x3]).1 (fun v os=>some (v,os))=c_Z3 x0 x1 x2 x3 (fun y=>QA e_Z3 0 [.I y.1,.I y.2.1,.I y.2.2.1,.I y.2.2.2]):=by kernel_rfl
theorem e_Z3_ok:e_Z3.ok Try.prog A:=by
 intro R ds k r h
 unfold e_Z3 at h
 obtain ⟨_,_,rfl,h⟩:=Jg h
 obtain ⟨_,_,rfl,h⟩:=Jg h
 obtain ⟨_,_,rfl,h⟩:=Jg h
 obtain ⟨_,_,rfl,h⟩:=Jg h
 obtain ⟨rfl,hE⟩:=Jm h
 obtain ⟨y,hy,hk⟩:=Jn hE
 exact ⟨0,_,_,_,hk,rfl,QB px (fx:=⟨Try.func49,by kernel_rfl,by kernel_rfl⟩) JI JJ ((q_Z3 ..).trans ((c_Z3_bind ..).trans (Jt hy)))⟩

/-!-/
abbrev T_Z4:=List D→Int→List D→Option (List D)
def c_Z4 {R:Type} (F:T_Z4) (x0:List D) (x1:Int) (x2:List D) (k:List D→Option R):Option R:=
 bif decide (x1<(↑x0.length:Int)) then
 if 0≤x1∧x1<(↑x0.length:Int) then
 (Z3 (((x0.getD x1.toNat (D.int 0)).fld (0:Nat)).toInt) (((x0.getD x1.toNat (D.int 0)).fld (1:Nat)).toInt) (((x0.getD x1.toNat (D.int 0)).fld (2:Nat)).toInt) (((x0.getD x1.toNat (D.int 0)).fld (3:Nat)).toInt)).bind (fun y0=>
 if 0≤x1∧x1<(↑x2.length:Int) then
 if x1.toNat+1≤x2.length then
 (F x0 (IntKind.i64.wrap (x1+1)) (x2.set x1.toNat (D.node [D.int y0.fst,D.int y0.snd.fst,D.int y0.snd.snd.fst,D.int y0.snd.snd.snd]))).bind k
 else
 none
 else
 none)
 else
 none
 else
 k x2
theorem c_Z4_bind {R:Type} (F:T_Z4) (x0:List D) (x1:Int) (x2:List D) (k:List D→Option R):c_Z4 F x0 x1 x2 k=(c_Z4 F x0 x1 x2 some).bind k:=by
 unfold c_Z4
 repeat' first
  | exact J0
  | exact JZ
  | exact JY
  | apply JV
  | apply JW
  | apply J1
  | (apply JX;intro _)
  | intro _
def n_Z4:Nat→T_Z4
 | 0,_,_,_=>none
 | n+1,x0,x1,x2=>c_Z4 (n_Z4 n) x0 x1 x2 some
noncomputable def Z4 (x0:List D) (x1:Int) (x2:List D):Option (List D):=ev (fun n=>n_Z4 n x0 x1 x2)
def m_Z4 (F:T_Z4):JS:=⟨3,⟨(.rd (.struct [.int .i64,.int .i64,.int .i64,.int .i64])::.undef::.undef::.full 1000 [] (.struct [.int .i64,.int .i64,.int .i64,.int .i64])::.int .i64::uu 18 ([])),[(1000,.own (.struct [.int .i64,.int .i64,.int .i64,.int .i64]))]⟩,[(.exit 0,⟨(.undef::.undef::.undef::.full 1000 [] (.struct [.int .i64,.int .i64,.int .i64,.int .i64])::uu 19 ([])),[(1000,.own (.struct [.int .i64,.int .i64,.int .i64,.int .i64]))]⟩)],fun _ ds k=>dL (fun x0 ds=>dI (fun x1 ds=>dL (fun x2 ds=>dE ((F x0 x1 x2).bind (fun y=>k 0 [.L y])) ds) ds) ds) ds⟩
theorem q_Z4 (F:T_Z4) (x0:List D) (x1:Int) (x2:List D):QM (JM [e_Z3]) (JN [m_Z4 F]) A 12 (JC (Jx Try.f12) 3) ((m_Z4 F).sh.mk' [.L x0,.I x1,.L x2]) (fun e σ'=>some (e,σ'))=c_Z4 F x0 x1 x2 (fun y=>some (.exit 0,SSt.mk' ⟨(.undef::.undef::.undef::.full 1000 [] (.struct [.int .i64,.int .i64,.int .i64,.int .i64])::uu 19 ([])),[(1000,.own (.struct [.int .i64,.int .i64,.int .i64,.int .i64]))]⟩ [.L y])):=by kernel_rfl
theorem m_Z4_ok:∀ n,(m_Z4 (n_Z4 n)).ok Try.prog (JC (Jx Try.f12) 3):=by
 intro n
 induction n with
 | zero=>
  intro R ds k r h
  unfold m_Z4 at h
  obtain ⟨_,_,rfl,h⟩:=Jf h
  obtain ⟨_,_,rfl,h⟩:=Jg h
  obtain ⟨_,_,rfl,h⟩:=Jf h
  obtain ⟨rfl,hE⟩:=Jm h
  obtain ⟨y,hy,hk⟩:=Jn hE
  cases hy
 | succ n ih=>
  intro R ds k r h
  unfold m_Z4 at h
  obtain ⟨_,_,rfl,h⟩:=Jf h
  obtain ⟨_,_,rfl,h⟩:=Jg h
  obtain ⟨_,_,rfl,h⟩:=Jf h
  obtain ⟨rfl,hE⟩:=Jm h
  obtain ⟨y,hy,hk⟩:=Jn hE
  exact ⟨0,_,_,_,hk,rfl,Qt px (fx:=⟨Try.func12,by kernel_rfl,by kernel_rfl⟩) (Qh e_Z3_ok JI) (JT ih JJ) (by kernel_rfl) ((q_Z4 ..).trans ((c_Z4_bind ..).trans (Jt hy)))⟩
noncomputable def e_Z4:JS:=m_Z4 (Z4)
theorem e_Z4_ok:(e_Z4).ok Try.prog (JC (Jx Try.f12) 3):=by
 intro R ds k r h
 unfold e_Z4 m_Z4 at h
 obtain ⟨_,_,rfl,h⟩:=Jf h
 obtain ⟨_,_,rfl,h⟩:=Jg h
 obtain ⟨_,_,rfl,h⟩:=Jf h
 obtain ⟨rfl,hE⟩:=Jm h
 obtain ⟨y,hy,hk⟩:=Jn hE
 obtain ⟨n,hn⟩:=QR hy
 exact m_Z4_ok n R _ k r ((Jt hn).trans hk)

/-!-/
def c_Z5 {R:Type} (x0:List D) (k:List D→Option R):Option R:=
 if (0:Int)≤(↑x0.length:Int)∧(↑x0.length:Int)≤(↑x0.length:Int)∧(↑x0.length:Int)≤(4294967296:Int) then
 (Z4 x0 (0:Int) (List.replicate (↑x0.length:Int).toNat (D.node [D.int 0,D.int 0,D.int 0,D.int 0]))).bind (fun y0=>
 k y0)
 else
 none
theorem c_Z5_bind {R:Type} (x0:List D) (k:List D→Option R):c_Z5 x0 k=(c_Z5 x0 some).bind k:=by
 unfold c_Z5
 repeat' first
  | exact J0
  | exact JZ
  | exact JY
  | apply JV
  | apply JW
  | apply J1
  | (apply JX;intro _)
  | intro _
def Z5 (x0:List D):Option (List D):=c_Z5 x0 some
def e_Z5:Ent:=⟨12,[.rd (.struct [.int .i64,.int .i64,.int .i64,.int .i64])],[(.own (.struct [.int .i64,.int .i64,.int .i64,.int .i64]),[.undef])],fun _ ds k=>dL (fun x0 ds=>dE ((Z5 x0).bind (fun y=>k 0 [.L y])) ds) ds⟩
theorem q_Z5 (x0:List D):Qs (JM []) (JN [e_Z4]) A 12 Try.f12 (Sh.mks e_Z5.sh [.L x0]).1 (fun v os=>some (v,os))=c_Z5 x0 (fun y=>QA e_Z5 0 [.L y]):=by kernel_rfl
theorem e_Z5_ok:e_Z5.ok Try.prog A:=by
 intro R ds k r h
 unfold e_Z5 at h
 obtain ⟨_,_,rfl,h⟩:=Jf h
 obtain ⟨rfl,hE⟩:=Jm h
 obtain ⟨y,hy,hk⟩:=Jn hE
 exact ⟨0,_,_,_,hk,rfl,QB px (fx:=⟨Try.func12,by kernel_rfl,by kernel_rfl⟩) JI (JT e_Z4_ok JJ) ((q_Z5 ..).trans ((c_Z5_bind ..).trans (Jt hy)))⟩

/-!-/
def c_Z6 {R:Type} (x0 x1:Int) (k:Int×Int→Option R):Option R:=
 k (x0,x1)
theorem c_Z6_bind {R:Type} (x0 x1:Int) (k:Int×Int→Option R):c_Z6 x0 x1 k=(c_Z6 x0 x1 some).bind k:=by
 unfold c_Z6
 repeat' first
  | exact J0
  | exact JZ
  | exact JY
  | apply JV
  | apply JW
  | apply J1
  | (apply JX;intro _)
  | intro _
def Z6 (x0 x1:Int):Option (Int×Int):=c_Z6 x0 x1 some
def e_Z6:Ent:=⟨55,[.agg [.int .i64,.int .i64]],[(.agg [.int .i64,.int .i64],[.undef])],fun _ ds k=>dI (fun x0 ds=>dI (fun x1 ds=>dE ((Z6 x0 x1).bind (fun y=>k 0 [.I y.1,.I y.2])) ds) ds) ds⟩
theorem q_Z6 (x0 x1:Int):Qs (JM []) (JN []) A 55 Try.f55 (Sh.mks e_Z6.sh [.I x0,.I x1]).1 (fun v os=>some (v,os))=c_Z6 x0 x1 (fun y=>QA e_Z6 0 [.I y.1,.I y.2]):=by kernel_rfl
theorem e_Z6_ok:e_Z6.ok Try.prog A:=by
 intro R ds k r h
 unfold e_Z6 at h
 obtain ⟨_,_,rfl,h⟩:=Jg h
 obtain ⟨_,_,rfl,h⟩:=Jg h
 obtain ⟨rfl,hE⟩:=Jm h
 obtain ⟨y,hy,hk⟩:=Jn hE
 exact ⟨0,_,_,_,hk,rfl,QB px (fx:=⟨Try.func55,by kernel_rfl,by kernel_rfl⟩) JI JJ ((q_Z6 ..).trans ((c_Z6_bind ..).trans (Jt hy)))⟩

/-!-/
abbrev T_Z7:=List D→Int→List D→Option (List D)
def c_Z7 {R:Type} (F:T_Z7) (x0:List D) (x1:Int) (x2:List D) (k:List D→Option R):Option R:=
 bif decide (x1<(↑x0.length:Int)) then
 if 0≤x1∧x1<(↑x0.length:Int) then
 (Z6 (((x0.getD x1.toNat (D.int 0)).fld (0:Nat)).toInt) (((x0.getD x1.toNat (D.int 0)).fld (1:Nat)).toInt)).bind (fun y0=>
 if 0≤x1∧x1<(↑x2.length:Int) then
 if x1.toNat+1≤x2.length then
 (F x0 (IntKind.i64.wrap (x1+1)) (x2.set x1.toNat (D.node [D.int y0.fst,D.int y0.snd]))).bind k
 else
 none
 else
 none)
 else
 none
 else
 k x2
theorem c_Z7_bind {R:Type} (F:T_Z7) (x0:List D) (x1:Int) (x2:List D) (k:List D→Option R):c_Z7 F x0 x1 x2 k=(c_Z7 F x0 x1 x2 some).bind k:=by
 unfold c_Z7
 repeat' first
  | exact J0
  | exact JZ
  | exact JY
  | apply JV
  | apply JW
  | apply J1
  | (apply JX;intro _)
  | intro _
def n_Z7:Nat→T_Z7
 | 0,_,_,_=>none
 | n+1,x0,x1,x2=>c_Z7 (n_Z7 n) x0 x1 x2 some
noncomputable def Z7 (x0:List D) (x1:Int) (x2:List D):Option (List D):=ev (fun n=>n_Z7 n x0 x1 x2)
def m_Z7 (F:T_Z7):JS:=⟨3,⟨(.rd (.struct [.int .i64,.int .i64])::.undef::.undef::.full 1000 [] (.struct [.int .i64,.int .i64])::.int .i64::uu 18 ([])),[(1000,.own (.struct [.int .i64,.int .i64]))]⟩,[(.exit 0,⟨(.undef::.undef::.undef::.full 1000 [] (.struct [.int .i64,.int .i64])::uu 19 ([])),[(1000,.own (.struct [.int .i64,.int .i64]))]⟩)],fun _ ds k=>dL (fun x0 ds=>dI (fun x1 ds=>dL (fun x2 ds=>dE ((F x0 x1 x2).bind (fun y=>k 0 [.L y])) ds) ds) ds) ds⟩
theorem q_Z7 (F:T_Z7) (x0:List D) (x1:Int) (x2:List D):QM (JM [e_Z6]) (JN [m_Z7 F]) A 17 (JC (Jx Try.f17) 3) ((m_Z7 F).sh.mk' [.L x0,.I x1,.L x2]) (fun e σ'=>some (e,σ'))=c_Z7 F x0 x1 x2 (fun y=>some (.exit 0,SSt.mk' ⟨(.undef::.undef::.undef::.full 1000 [] (.struct [.int .i64,.int .i64])::uu 19 ([])),[(1000,.own (.struct [.int .i64,.int .i64]))]⟩ [.L y])):=by kernel_rfl
theorem m_Z7_ok:∀ n,(m_Z7 (n_Z7 n)).ok Try.prog (JC (Jx Try.f17) 3):=by
 intro n
 induction n with
 | zero=>
  intro R ds k r h
  unfold m_Z7 at h
  obtain ⟨_,_,rfl,h⟩:=Jf h
  obtain ⟨_,_,rfl,h⟩:=Jg h
  obtain ⟨_,_,rfl,h⟩:=Jf h
  obtain ⟨rfl,hE⟩:=Jm h
  obtain ⟨y,hy,hk⟩:=Jn hE
  cases hy
 | succ n ih=>
  intro R ds k r h
  unfold m_Z7 at h
  obtain ⟨_,_,rfl,h⟩:=Jf h
  obtain ⟨_,_,rfl,h⟩:=Jg h
  obtain ⟨_,_,rfl,h⟩:=Jf h
  obtain ⟨rfl,hE⟩:=Jm h
  obtain ⟨y,hy,hk⟩:=Jn hE
  exact ⟨0,_,_,_,hk,rfl,Qt px (fx:=⟨Try.func17,by kernel_rfl,by kernel_rfl⟩) (Qh e_Z6_ok JI) (JT ih JJ) (by kernel_rfl) ((q_Z7 ..).trans ((c_Z7_bind ..).trans (Jt hy)))⟩
noncomputable def e_Z7:JS:=m_Z7 (Z7)
theorem e_Z7_ok:(e_Z7).ok Try.prog (JC (Jx Try.f17) 3):=by
 intro R ds k r h
 unfold e_Z7 m_Z7 at h
 obtain ⟨_,_,rfl,h⟩:=Jf h
 obtain ⟨_,_,rfl,h⟩:=Jg h
 obtain ⟨_,_,rfl,h⟩:=Jf h
 obtain ⟨rfl,hE⟩:=Jm h
 obtain ⟨y,hy,hk⟩:=Jn hE
 obtain ⟨n,hn⟩:=QR hy
 exact m_Z7_ok n R _ k r ((Jt hn).trans hk)

/-!-/
def c_Z8 {R:Type} (x0:List D) (k:List D→Option R):Option R:=
 if (0:Int)≤(↑x0.length:Int)∧(↑x0.length:Int)≤(↑x0.length:Int)∧(↑x0.length:Int)≤(4294967296:Int) then
 (Z7 x0 (0:Int) (List.replicate (↑x0.length:Int).toNat (D.node [D.int 0,D.int 0]))).bind (fun y0=>
 k y0)
 else
 none
theorem c_Z8_bind {R:Type} (x0:List D) (k:List D→Option R):c_Z8 x0 k=(c_Z8 x0 some).bind k:=by
 unfold c_Z8
 repeat' first
  | exact J0
  | exact JZ
  | exact JY
  | apply JV
  | apply JW
  | apply J1
  | (apply JX;intro _)
  | intro _
def Z8 (x0:List D):Option (List D):=c_Z8 x0 some
def e_Z8:Ent:=⟨17,[.rd (.struct [.int .i64,.int .i64])],[(.own (.struct [.int .i64,.int .i64]),[.undef])],fun _ ds k=>dL (fun x0 ds=>dE ((Z8 x0).bind (fun y=>k 0 [.L y])) ds) ds⟩
theorem q_Z8 (x0:List D):Qs (JM []) (JN [e_Z7]) A 17 Try.f17 (Sh.mks e_Z8.sh [.L x0]).1 (fun v os=>some (v,os))=c_Z8 x0 (fun y=>QA e_Z8 0 [.L y]):=by kernel_rfl
theorem e_Z8_ok:e_Z8.ok Try.prog A:=by
 intro R ds k r h
 unfold e_Z8 at h
 obtain ⟨_,_,rfl,h⟩:=Jf h
 obtain ⟨rfl,hE⟩:=Jm h
 obtain ⟨y,hy,hk⟩:=Jn hE
 exact ⟨0,_,_,_,hk,rfl,QB px (fx:=⟨Try.func17,by kernel_rfl,by kernel_rfl⟩) JI (JT e_Z7_ok JJ) ((q_Z8 ..).trans ((c_Z8_bind ..).trans (Jt hy)))⟩

/-!-/
def c_Z9 {R:Type} (x0 x1 x2:Int) (k:Bool→Option R):Option R:=
 bif decide (x1≤x0) then
 k (decide (x0≤x2))
 else
 k Bool.false
theorem c_Z9_bind {R:Type} (x0 x1 x2:Int) (k:Bool→Option R):c_Z9 x0 x1 x2 k=(c_Z9 x0 x1 x2 some).bind k:=by
 unfold c_Z9
 repeat' first
  | exact J0
  | exact JZ
  | exact JY
  | apply JV
  | apply JW
  | apply J1
  | (apply JX;intro _)
  | intro _
def Z9 (x0 x1 x2:Int):Option (Bool):=c_Z9 x0 x1 x2 some
def e_Z9:Ent:=⟨54,[.int .i64,.int .i64,.int .i64],[(.bool,[.undef,.undef,.undef])],fun _ ds k=>dI (fun x0 ds=>dI (fun x1 ds=>dI (fun x2 ds=>dE ((Z9 x0 x1 x2).bind (fun y=>k 0 [.B y])) ds) ds) ds) ds⟩
theorem q_Z9 (x0 x1 x2:Int):Qs (JM []) (JN []) A 54 Try.f54 (Sh.mks e_Z9.sh [.I x0,.I x1,.I x2]).1 (fun v os=>some (v,os))=c_Z9 x0 x1 x2 (fun y=>QA e_Z9 0 [.B y]):=by kernel_rfl
theorem e_Z9_ok:e_Z9.ok Try.prog A:=by
 intro R ds k r h
 unfold e_Z9 at h
 obtain ⟨_,_,rfl,h⟩:=Jg h
 obtain ⟨_,_,rfl,h⟩:=Jg h
 obtain ⟨_,_,rfl,h⟩:=Jg h
 obtain ⟨rfl,hE⟩:=Jm h
 obtain ⟨y,hy,hk⟩:=Jn hE
 exact ⟨0,_,_,_,hk,rfl,QB px (fx:=⟨Try.func54,by kernel_rfl,by kernel_rfl⟩) JI JJ ((q_Z9 ..).trans ((c_Z9_bind ..).trans (Jt hy)))⟩

/-!-/
abbrev T_Z10:=List D→List D→Int→Option ((List D×List D×Bool)⊕(List D×List D))
def c_Z10 {R:Type} (F:T_Z10) (x0 x1:List D) (x2:Int) (k:(List D×List D×Bool)⊕(List D×List D)→Option R):Option R:=
 bif decide (x2<(↑x0.length:Int)) then
 if 0≤x2∧x2<(↑x0.length:Int) then
 (Z9 (((x0.getD x2.toNat (D.int 0)).fld (0:Nat)).toInt) (1:Int) (999:Int)).bind (fun y0=>
 bif !y0 then
 k (.inl (x0,x1,Bool.false))
 else
 (Z9 (((x0.getD x2.toNat (D.int 0)).fld (1:Nat)).toInt) (0:Int) (9:Int)).bind (fun y1=>
 bif !y1 then
 k (.inl (x0,x1,Bool.false))
 else
 (Z9 (((x0.getD x2.toNat (D.int 0)).fld (2:Nat)).toInt) (0:Int) (3599:Int)).bind (fun y2=>
 bif !y2 then
 k (.inl (x0,x1,Bool.false))
 else
 (Z9 (((x0.getD x2.toNat (D.int 0)).fld (3:Nat)).toInt) (1:Int) (3600:Int)).bind (fun y3=>
 bif !y3 then
 k (.inl (x0,x1,Bool.false))
 else
 (F x0 x1 (IntKind.i64.wrap (x2+1))).bind k))))
 else
 none
 else
 k (.inr (x0,x1))
theorem c_Z10_bind {R:Type} (F:T_Z10) (x0 x1:List D) (x2:Int) (k:(List D×List D×Bool)⊕(List D×List D)→Option R):c_Z10 F x0 x1 x2 k=(c_Z10 F x0 x1 x2 some).bind k:=by
 unfold c_Z10
 repeat' first
  | exact J0
  | exact JZ
  | exact JY
  | apply JV
  | apply JW
  | apply J1
  | (apply JX;intro _)
  | intro _
def n_Z10:Nat→T_Z10
 | 0,_,_,_=>none
 | n+1,x0,x1,x2=>c_Z10 (n_Z10 n) x0 x1 x2 some
noncomputable def Z10 (x0 x1:List D) (x2:Int):Option ((List D×List D×Bool)⊕(List D×List D)):=ev (fun n=>n_Z10 n x0 x1 x2)
def m_Z10 (F:T_Z10):JS:=⟨4,⟨(.rd (.struct [.int .i64,.int .i64,.int .i64,.int .i64])::.rd (.struct [.int .i64,.int .i64])::.undef::.undef::.undef::.int .i64::uu 104 ([])),[]⟩,[(.ret,⟨(.rd (.struct [.int .i64,.int .i64,.int .i64,.int .i64])::.rd (.struct [.int .i64,.int .i64])::.undef::.undef::.bool::uu 105 ([])),[]⟩),(.exit 0,⟨(.rd (.struct [.int .i64,.int .i64,.int .i64,.int .i64])::.rd (.struct [.int .i64,.int .i64])::uu 108 ([])),[]⟩)],fun _ ds k=>dL (fun x0 ds=>dL (fun x1 ds=>dI (fun x2 ds=>dE ((F x0 x1 x2).bind (Sum.elim (fun y=>k 0 [.L y.1,.L y.2.1,.B y.2.2]) (fun y=>k 1 [.L y.1,.L y.2]))) ds) ds) ds) ds⟩
theorem q_Z10 (F:T_Z10) (x0 x1:List D) (x2:Int):QM (JM [e_Z9]) (JN [m_Z10 F]) A 47 (JC (Jx Try.f47) 4) ((m_Z10 F).sh.mk' [.L x0,.L x1,.I x2]) (fun e σ'=>some (e,σ'))=c_Z10 F x0 x1 x2 (Sum.elim (fun y=>some (.ret,SSt.mk' ⟨(.rd (.struct [.int .i64,.int .i64,.int .i64,.int .i64])::.rd (.struct [.int .i64,.int .i64])::.undef::.undef::.bool::uu 105 ([])),[]⟩ [.L y.1,.L y.2.1,.B y.2.2])) (fun y=>some (.exit 0,SSt.mk' ⟨(.rd (.struct [.int .i64,.int .i64,.int .i64,.int .i64])::.rd (.struct [.int .i64,.int .i64])::uu 108 ([])),[]⟩ [.L y.1,.L y.2]))):=by kernel_rfl
theorem m_Z10_ok:∀ n,(m_Z10 (n_Z10 n)).ok Try.prog (JC (Jx Try.f47) 4):=by
 intro n
 induction n with
 | zero=>
  intro R ds k r h
  unfold m_Z10 at h
  obtain ⟨_,_,rfl,h⟩:=Jf h
  obtain ⟨_,_,rfl,h⟩:=Jf h
  obtain ⟨_,_,rfl,h⟩:=Jg h
  obtain ⟨rfl,hE⟩:=Jm h
  obtain ⟨y,hy,hk⟩:=Jn hE
  cases hy
 | succ n ih=>
  intro R ds k r h
  unfold m_Z10 at h
  obtain ⟨_,_,rfl,h⟩:=Jf h
  obtain ⟨_,_,rfl,h⟩:=Jf h
  obtain ⟨_,_,rfl,h⟩:=Jg h
  obtain ⟨rfl,hE⟩:=Jm h
  obtain ⟨y,hy,hk⟩:=Jn hE
  cases y with
  | inl y=>
   exact ⟨0,_,_,_,hk,rfl,Qt px (fx:=⟨Try.func47,by kernel_rfl,by kernel_rfl⟩) (Qh e_Z9_ok JI) (JT ih JJ) (by kernel_rfl) ((q_Z10 ..).trans ((c_Z10_bind ..).trans (Jt hy)))⟩
  | inr y=>
   exact ⟨1,_,_,_,hk,rfl,Qt px (fx:=⟨Try.func47,by kernel_rfl,by kernel_rfl⟩) (Qh e_Z9_ok JI) (JT ih JJ) (by kernel_rfl) ((q_Z10 ..).trans ((c_Z10_bind ..).trans (Jt hy)))⟩
noncomputable def e_Z10:JS:=m_Z10 (Z10)
theorem e_Z10_ok:(e_Z10).ok Try.prog (JC (Jx Try.f47) 4):=by
 intro R ds k r h
 unfold e_Z10 m_Z10 at h
 obtain ⟨_,_,rfl,h⟩:=Jf h
 obtain ⟨_,_,rfl,h⟩:=Jf h
 obtain ⟨_,_,rfl,h⟩:=Jg h
 obtain ⟨rfl,hE⟩:=Jm h
 obtain ⟨y,hy,hk⟩:=Jn hE
 obtain ⟨n,hn⟩:=QR hy
 exact m_Z10_ok n R _ k r ((Jt hn).trans hk)

/-!-/
abbrev T_Z11:=List D→List D→Int→Option ((Bool)⊕(Unit))
def c_Z11 {R:Type} (F:T_Z11) (x0 x1:List D) (x2:Int) (k:(Bool)⊕(Unit)→Option R):Option R:=
 bif decide (x2<(↑x1.length:Int)) then
 if 0≤x2∧x2<(↑x1.length:Int) then
 (Z9 (((x1.getD x2.toNat (D.int 0)).fld (1:Nat)).toInt) (1:Int) (IntKind.i64.wrap ((↑x0.length:Int) - (1:Int)))).bind (fun y0=>
 bif !y0 then
 k (.inl Bool.false)
 else
 (Z9 (((x1.getD x2.toNat (D.int 0)).fld (0:Nat)).toInt) (0:Int) (IntKind.i64.wrap (((x1.getD x2.toNat (D.int 0)).fld (1:Nat)).toInt - (1:Int)))).bind (fun y1=>
 bif !y1 then
 k (.inl Bool.false)
 else
 bif decide ((0:Int)<x2) then
 if (0:Int)≤IntKind.i64.wrap (x2 - 1)∧IntKind.i64.wrap (x2 - 1)<(↑x1.length:Int) then
 bif decide (((x1.getD x2.toNat (D.int 0)).fld (0:Nat)).toInt<((x1.getD (IntKind.i64.wrap (x2 - 1)).toNat (D.int 0)).fld (0:Nat)).toInt) then
 k (.inl Bool.false)
 else
 if (0:Int)≤IntKind.i64.wrap (x2 - 1)∧IntKind.i64.wrap (x2 - 1)<(↑x1.length:Int) then
 bif decide (((x1.getD (IntKind.i64.wrap (x2 - 1)).toNat (D.int 0)).fld (0:Nat)).toInt=((x1.getD x2.toNat (D.int 0)).fld (0:Nat)).toInt) then
 if (0:Int)≤IntKind.i64.wrap (x2 - 1)∧IntKind.i64.wrap (x2 - 1)<(↑x1.length:Int) then
 bif decide (((x1.getD x2.toNat (D.int 0)).fld (1:Nat)).toInt≤((x1.getD (IntKind.i64.wrap (x2 - 1)).toNat (D.int 0)).fld (1:Nat)).toInt) then
 k (.inl Bool.false)
 else
 (F x0 x1 (IntKind.i64.wrap (x2+1))).bind k
 else
 none
 else
 (F x0 x1 (IntKind.i64.wrap (x2+1))).bind k
 else
 none
 else
 none
 else
 (F x0 x1 (IntKind.i64.wrap (x2+1))).bind k))
 else
 none
 else
 k (.inr ())
theorem c_Z11_bind {R:Type} (F:T_Z11) (x0 x1:List D) (x2:Int) (k:(Bool)⊕(Unit)→Option R):c_Z11 F x0 x1 x2 k=(c_Z11 F x0 x1 x2 some).bind k:=by
 unfold c_Z11
 repeat' first
  | exact J0
  | exact JZ
  | exact JY
  | apply JV
  | apply JW
  | apply J1
  | (apply JX;intro _)
  | intro _
def n_Z11:Nat→T_Z11
 | 0,_,_,_=>none
 | n+1,x0,x1,x2=>c_Z11 (n_Z11 n) x0 x1 x2 some
noncomputable def Z11 (x0 x1:List D) (x2:Int):Option ((Bool)⊕(Unit)):=ev (fun n=>n_Z11 n x0 x1 x2)
def m_Z11 (F:T_Z11):JS:=⟨10,⟨(.rd (.struct [.int .i64,.int .i64,.int .i64,.int .i64])::.rd (.struct [.int .i64,.int .i64])::uu 5 (.int .i64::uu 102 ([]))),[]⟩,[(.ret,⟨(uu 4 (.bool::uu 105 ([]))),[]⟩),(.exit 2,⟨(uu 110 ([])),[]⟩)],fun _ ds k=>dL (fun x0 ds=>dL (fun x1 ds=>dI (fun x2 ds=>dE ((F x0 x1 x2).bind (Sum.elim (fun y=>k 0 [.B y]) (fun y=>k 1 []))) ds) ds) ds) ds⟩
theorem q_Z11 (F:T_Z11) (x0 x1:List D) (x2:Int):QM (JM [e_Z9]) (JN [m_Z11 F]) A 47 (JC (Jx Try.f47) 10) ((m_Z11 F).sh.mk' [.L x0,.L x1,.I x2]) (fun e σ'=>some (e,σ'))=c_Z11 F x0 x1 x2 (Sum.elim (fun y=>some (.ret,SSt.mk' ⟨(uu 4 (.bool::uu 105 ([]))),[]⟩ [.B y])) (fun y=>some (.exit 2,SSt.mk' ⟨(uu 110 ([])),[]⟩ []))):=by kernel_rfl
theorem m_Z11_ok:∀ n,(m_Z11 (n_Z11 n)).ok Try.prog (JC (Jx Try.f47) 10):=by
 intro n
 induction n with
 | zero=>
  intro R ds k r h
  unfold m_Z11 at h
  obtain ⟨_,_,rfl,h⟩:=Jf h
  obtain ⟨_,_,rfl,h⟩:=Jf h
  obtain ⟨_,_,rfl,h⟩:=Jg h
  obtain ⟨rfl,hE⟩:=Jm h
  obtain ⟨y,hy,hk⟩:=Jn hE
  cases hy
 | succ n ih=>
  intro R ds k r h
  unfold m_Z11 at h
  obtain ⟨_,_,rfl,h⟩:=Jf h
  obtain ⟨_,_,rfl,h⟩:=Jf h
  obtain ⟨_,_,rfl,h⟩:=Jg h
  obtain ⟨rfl,hE⟩:=Jm h
  obtain ⟨y,hy,hk⟩:=Jn hE
  cases y with
  | inl y=>
   exact ⟨0,_,_,_,hk,rfl,Qt px (fx:=⟨Try.func47,by kernel_rfl,by kernel_rfl⟩) (Qh e_Z9_ok JI) (JT ih JJ) (by kernel_rfl) ((q_Z11 ..).trans ((c_Z11_bind ..).trans (Jt hy)))⟩
  | inr y=>
   exact ⟨1,_,_,_,hk,rfl,Qt px (fx:=⟨Try.func47,by kernel_rfl,by kernel_rfl⟩) (Qh e_Z9_ok JI) (JT ih JJ) (by kernel_rfl) ((q_Z11 ..).trans ((c_Z11_bind ..).trans (Jt hy)))⟩
noncomputable def e_Z11:JS:=m_Z11 (Z11)
theorem e_Z11_ok:(e_Z11).ok Try.prog (JC (Jx Try.f47) 10):=by
 intro R ds k r h
 unfold e_Z11 m_Z11 at h
 obtain ⟨_,_,rfl,h⟩:=Jf h
 obtain ⟨_,_,rfl,h⟩:=Jf h
 obtain ⟨_,_,rfl,h⟩:=Jg h
 obtain ⟨rfl,hE⟩:=Jm h
 obtain ⟨y,hy,hk⟩:=Jn hE
 obtain ⟨n,hn⟩:=QR hy
 exact m_Z11_ok n R _ k r ((Jt hn).trans hk)

/-!-/
def c_Z12 {R:Type} (x0 x1:List D) (k:Bool→Option R):Option R:=
 bif decide ((12:Int)<(↑x0.length:Int)) then
 k Bool.false
 else
 bif decide ((20:Int)<(↑x1.length:Int)) then
 k Bool.false
 else
 (Z10 x0 x1 (0:Int)).bind (Sum.elim (fun y0=>
 k y0.snd.snd) (fun y1=>
 (Z11 y1.fst y1.snd (0:Int)).bind (Sum.elim (fun y2=>
 k y2) (fun y3=>
 k Bool.true))))
theorem c_Z12_bind {R:Type} (x0 x1:List D) (k:Bool→Option R):c_Z12 x0 x1 k=(c_Z12 x0 x1 some).bind k:=by
 unfold c_Z12
 repeat' first
  | exact J0
  | exact JZ
  | exact JY
  | apply JV
  | apply JW
  | apply J1
  | (apply JX;intro _)
  | intro _
def Z12 (x0 x1:List D):Option (Bool):=c_Z12 x0 x1 some
def e_Z12:Ent:=⟨47,[.rd (.struct [.int .i64,.int .i64,.int .i64,.int .i64]),.rd (.struct [.int .i64,.int .i64])],[(.bool,[.undef,.undef])],fun _ ds k=>dL (fun x0 ds=>dL (fun x1 ds=>dE ((Z12 x0 x1).bind (fun y=>k 0 [.B y])) ds) ds) ds⟩
theorem q_Z12 (x0 x1:List D):Qs (JM []) (JN [e_Z10,e_Z11]) A 47 Try.f47 (Sh.mks e_Z12.sh [.L x0,.L x1]).1 (fun v os=>some (v,os))=c_Z12 x0 x1 (fun y=>QA e_Z12 0 [.B y]):=by kernel_rfl
theorem e_Z12_ok:e_Z12.ok Try.prog A:=by
 intro R ds k r h
 unfold e_Z12 at h
 obtain ⟨_,_,rfl,h⟩:=Jf h
 obtain ⟨_,_,rfl,h⟩:=Jf h
 obtain ⟨rfl,hE⟩:=Jm h
 obtain ⟨y,hy,hk⟩:=Jn hE
 exact ⟨0,_,_,_,hk,rfl,QB px (fx:=⟨Try.func47,by kernel_rfl,by kernel_rfl⟩) JI (JT e_Z10_ok (JT e_Z11_ok JJ)) ((q_Z12 ..).trans ((c_Z12_bind ..).trans (Jt hy)))⟩

/-!-/
abbrev T_Z13:=Int→List D→Int→List D→Option (List D×List D)
def c_Z13 {R:Type} (F:T_Z13) (x0:Int) (x1:List D) (x2:Int) (x3:List D) (k:List D×List D→Option R):Option R:=
 bif decide (x2<x0) then
 if x3.length+[D.int x2].length≤(4294967296:Nat) then
 (F x0 x1 (IntKind.i64.wrap (x2+1)) (x3++[D.int x2])).bind k
 else
 none
 else
 k (x1,x3)
theorem c_Z13_bind {R:Type} (F:T_Z13) (x0:Int) (x1:List D) (x2:Int) (x3:List D) (k:List D×List D→Option R):c_Z13 F x0 x1 x2 x3 k=(c_Z13 F x0 x1 x2 x3 some).bind k:=by
 unfold c_Z13
 repeat' first
  | exact J0
  | exact JZ
  | exact JY
  | apply JV
  | apply JW
  | apply J1
  | (apply JX;intro _)
  | intro _
def n_Z13:Nat→T_Z13
 | 0,_,_,_,_=>none
 | n+1,x0,x1,x2,x3=>c_Z13 (n_Z13 n) x0 x1 x2 x3 some
noncomputable def Z13 (x0:Int) (x1:List D) (x2:Int) (x3:List D):Option (List D×List D):=ev (fun n=>n_Z13 n x0 x1 x2 x3)
def m_Z13 (F:T_Z13):JS:=⟨3,⟨(.int .i64::.rd (.struct [.int .i64,.int .i64])::.undef::.undef::.undef::.full 1000 [] (.int .i64)::.int .i64::uu 59 ([])),[(1000,.own (.int .i64))]⟩,[(.exit 0,⟨(.undef::.rd (.struct [.int .i64,.int .i64])::.undef::.undef::.undef::.full 1000 [] (.int .i64)::uu 60 ([])),[(1000,.own (.int .i64))]⟩)],fun _ ds k=>dI (fun x0 ds=>dL (fun x1 ds=>dI (fun x2 ds=>dL (fun x3 ds=>dE ((F x0 x1 x2 x3).bind (fun y=>k 0 [.L y.1,.L y.2])) ds) ds) ds) ds) ds⟩
theorem q_Z13 (F:T_Z13) (x0:Int) (x1:List D) (x2:Int) (x3:List D):QM (JM []) (JN [m_Z13 F]) A 66 (JC (Jx Try.f66) 3) ((m_Z13 F).sh.mk' [.I x0,.L x1,.I x2,.L x3]) (fun e σ'=>some (e,σ'))=c_Z13 F x0 x1 x2 x3 (fun y=>some (.exit 0,SSt.mk' ⟨(.undef::.rd (.struct [.int .i64,.int .i64])::.undef::.undef::.undef::.full 1000 [] (.int .i64)::uu 60 ([])),[(1000,.own (.int .i64))]⟩ [.L y.1,.L y.2])):=by kernel_rfl
theorem m_Z13_ok:∀ n,(m_Z13 (n_Z13 n)).ok Try.prog (JC (Jx Try.f66) 3):=by
 intro n
 induction n with
 | zero=>
  intro R ds k r h
  unfold m_Z13 at h
  obtain ⟨_,_,rfl,h⟩:=Jg h
  obtain ⟨_,_,rfl,h⟩:=Jf h
  obtain ⟨_,_,rfl,h⟩:=Jg h
  obtain ⟨_,_,rfl,h⟩:=Jf h
  obtain ⟨rfl,hE⟩:=Jm h
  obtain ⟨y,hy,hk⟩:=Jn hE
  cases hy
 | succ n ih=>
  intro R ds k r h
  unfold m_Z13 at h
  obtain ⟨_,_,rfl,h⟩:=Jg h
  obtain ⟨_,_,rfl,h⟩:=Jf h
  obtain ⟨_,_,rfl,h⟩:=Jg h
  obtain ⟨_,_,rfl,h⟩:=Jf h
  obtain ⟨rfl,hE⟩:=Jm h
  obtain ⟨y,hy,hk⟩:=Jn hE
  exact ⟨0,_,_,_,hk,rfl,Qt px (fx:=⟨Try.func66,by kernel_rfl,by kernel_rfl⟩) JI (JT ih JJ) (by kernel_rfl) ((q_Z13 ..).trans ((c_Z13_bind ..).trans (Jt hy)))⟩
noncomputable def e_Z13:JS:=m_Z13 (Z13)
theorem e_Z13_ok:(e_Z13).ok Try.prog (JC (Jx Try.f66) 3):=by
 intro R ds k r h
 unfold e_Z13 m_Z13 at h
 obtain ⟨_,_,rfl,h⟩:=Jg h
 obtain ⟨_,_,rfl,h⟩:=Jf h
 obtain ⟨_,_,rfl,h⟩:=Jg h
 obtain ⟨_,_,rfl,h⟩:=Jf h
 obtain ⟨rfl,hE⟩:=Jm h
 obtain ⟨y,hy,hk⟩:=Jn hE
 obtain ⟨n,hn⟩:=QR hy
 exact m_Z13_ok n R _ k r ((Jt hn).trans hk)

/-!-/
def c_Z14 {R:Type} (x0 x1:Int) (k:Int→Option R):Option R:=
 bif decide (x0<x1) then
 k x0
 else
 k x1
theorem c_Z14_bind {R:Type} (x0 x1:Int) (k:Int→Option R):c_Z14 x0 x1 k=(c_Z14 x0 x1 some).bind k:=by
 unfold c_Z14
 repeat' first
  | exact J0
  | exact JZ
  | exact JY
  | apply JV
  | apply JW
  | apply J1
  | (apply JX;intro _)
  | intro _
def Z14 (x0 x1:Int):Option (Int):=c_Z14 x0 x1 some
def e_Z14:Ent:=⟨72,[.int .i64,.int .i64],[(.int .i64,[.undef,.undef])],fun _ ds k=>dI (fun x0 ds=>dI (fun x1 ds=>dE ((Z14 x0 x1).bind (fun y=>k 0 [.I y])) ds) ds) ds⟩
theorem q_Z14 (x0 x1:Int):Qs (JM []) (JN []) A 72 Try.f72 (Sh.mks e_Z14.sh [.I x0,.I x1]).1 (fun v os=>some (v,os))=c_Z14 x0 x1 (fun y=>QA e_Z14 0 [.I y]):=by kernel_rfl
theorem e_Z14_ok:e_Z14.ok Try.prog A:=by
 intro R ds k r h
 unfold e_Z14 at h
 obtain ⟨_,_,rfl,h⟩:=Jg h
 obtain ⟨_,_,rfl,h⟩:=Jg h
 obtain ⟨rfl,hE⟩:=Jm h
 obtain ⟨y,hy,hk⟩:=Jn hE
 exact ⟨0,_,_,_,hk,rfl,QB px (fx:=⟨Try.func72,by kernel_rfl,by kernel_rfl⟩) JI JJ ((q_Z14 ..).trans ((c_Z14_bind ..).trans (Jt hy)))⟩

/-!-/
abbrev T_Z15:=List D→Bool→Int→List D→Option (List D×Bool×List D)
def c_Z15 {R:Type} (F:T_Z15) (x0:List D) (x1:Bool) (x2:Int) (x3:List D) (k:List D×Bool×List D→Option R):Option R:=
 bif decide (x2<(↑x0.length:Int)) then
 if 0≤x2∧x2<(↑x0.length:Int) then
 if 0≤x2∧x2<(↑x0.length:Int) then
 if (0:Int)≤((x0.getD x2.toNat (D.int 0)).fld (0:Nat)).toInt∧((x0.getD x2.toNat (D.int 0)).fld (0:Nat)).toInt<(↑x3.length:Int) then
 if ((x0.getD x2.toNat (D.int 0)).fld (0:Nat)).toInt.toNat+1≤x3.length then
 if (0:Int)≤((x0.getD x2.toNat (D.int 0)).fld (1:Nat)).toInt∧((x0.getD x2.toNat (D.int 0)).fld (1:Nat)).toInt<(↑x3.length:Int) then
 if ((x0.getD x2.toNat (D.int 0)).fld (1:Nat)).toInt.toNat+1≤x3.length then
 bif !decide ((x3.getD ((x0.getD x2.toNat (D.int 0)).fld (0:Nat)).toInt.toNat (D.int 0)).toInt=(x3.getD ((x0.getD x2.toNat (D.int 0)).fld (1:Nat)).toInt.toNat (D.int 0)).toInt) then
 if (0:Int)≤((x0.getD x2.toNat (D.int 0)).fld (0:Nat)).toInt∧((x0.getD x2.toNat (D.int 0)).fld (0:Nat)).toInt<(↑x3.length:Int) then
 if ((x0.getD x2.toNat (D.int 0)).fld (0:Nat)).toInt.toNat+1≤x3.length then
 if (0:Int)≤((x0.getD x2.toNat (D.int 0)).fld (1:Nat)).toInt∧((x0.getD x2.toNat (D.int 0)).fld (1:Nat)).toInt<(↑x3.length:Int) then
 if ((x0.getD x2.toNat (D.int 0)).fld (1:Nat)).toInt.toNat+1≤x3.length then
 (Z14 ((x3.getD ((x0.getD x2.toNat (D.int 0)).fld (0:Nat)).toInt.toNat (D.int 0)).toInt) ((x3.getD ((x0.getD x2.toNat (D.int 0)).fld (1:Nat)).toInt.toNat (D.int 0)).toInt)).bind (fun y0=>
 if (0:Int)≤((x0.getD x2.toNat (D.int 0)).fld (0:Nat)).toInt∧((x0.getD x2.toNat (D.int 0)).fld (0:Nat)).toInt<(↑x3.length:Int) then
 if ((x0.getD x2.toNat (D.int 0)).fld (0:Nat)).toInt.toNat+1≤x3.length then
 if (0:Int)≤((x0.getD x2.toNat (D.int 0)).fld (1:Nat)).toInt∧((x0.getD x2.toNat (D.int 0)).fld (1:Nat)).toInt<(↑(x3.set ((x0.getD x2.toNat (D.int 0)).fld (0:Nat)).toInt.toNat (D.int y0)).length:Int) then
 if ((x0.getD x2.toNat (D.int 0)).fld (1:Nat)).toInt.toNat+1≤(x3.set ((x0.getD x2.toNat (D.int 0)).fld (0:Nat)).toInt.toNat (D.int y0)).length then
 (F x0 Bool.true (IntKind.i64.wrap (x2+1)) ((x3.set ((x0.getD x2.toNat (D.int 0)).fld (0:Nat)).toInt.toNat (D.int y0)).set ((x0.getD x2.toNat (D.int 0)).fld (1:Nat)).toInt.toNat (D.int y0))).bind k
 else
 none
 else
 none
 else
 none
 else
 none)
 else
 none
 else
 none
 else
 none
 else
 none
 else
 (F x0 x1 (IntKind.i64.wrap (x2+1)) x3).bind k
 else
 none
 else
 none
 else
 none
 else
 none
 else
 none
 else
 none
 else
 k (x0,x1,x3)
theorem c_Z15_bind {R:Type} (F:T_Z15) (x0:List D) (x1:Bool) (x2:Int) (x3:List D) (k:List D×Bool×List D→Option R):c_Z15 F x0 x1 x2 x3 k=(c_Z15 F x0 x1 x2 x3 some).bind k:=by
 unfold c_Z15
 repeat' first
  | exact J0
  | exact JZ
  | exact JY
  | apply JV
  | apply JW
  | apply J1
  | (apply JX;intro _)
  | intro _
def n_Z15:Nat→T_Z15
 | 0,_,_,_,_=>none
 | n+1,x0,x1,x2,x3=>c_Z15 (n_Z15 n) x0 x1 x2 x3 some
noncomputable def Z15 (x0:List D) (x1:Bool) (x2:Int) (x3:List D):Option (List D×Bool×List D):=ev (fun n=>n_Z15 n x0 x1 x2 x3)
def m_Z15 (F:T_Z15):JS:=⟨10,⟨(.undef::.rd (.struct [.int .i64,.int .i64])::.undef::.undef::.undef::.full 1000 [] (.int .i64)::.undef::.bool::.int .i64::uu 57 ([])),[(1000,.own (.int .i64))]⟩,[(.exit 4,⟨(.undef::.rd (.struct [.int .i64,.int .i64])::.undef::.undef::.undef::.full 1000 [] (.int .i64)::.undef::.bool::uu 58 ([])),[(1000,.own (.int .i64))]⟩)],fun _ ds k=>dL (fun x0 ds=>dB (fun x1 ds=>dI (fun x2 ds=>dL (fun x3 ds=>dE ((F x0 x1 x2 x3).bind (fun y=>k 0 [.L y.1,.B y.2.1,.L y.2.2])) ds) ds) ds) ds) ds⟩
theorem q_Z15 (F:T_Z15) (x0:List D) (x1:Bool) (x2:Int) (x3:List D):QM (JM [e_Z14]) (JN [m_Z15 F]) A 66 (JC (Jx Try.f66) 10) ((m_Z15 F).sh.mk' [.L x0,.B x1,.I x2,.L x3]) (fun e σ'=>some (e,σ'))=c_Z15 F x0 x1 x2 x3 (fun y=>some (.exit 4,SSt.mk' ⟨(.undef::.rd (.struct [.int .i64,.int .i64])::.undef::.undef::.undef::.full 1000 [] (.int .i64)::.undef::.bool::uu 58 ([])),[(1000,.own (.int .i64))]⟩ [.L y.1,.B y.2.1,.L y.2.2])):=by kernel_rfl
theorem m_Z15_ok:∀ n,(m_Z15 (n_Z15 n)).ok Try.prog (JC (Jx Try.f66) 10):=by
 intro n
 induction n with
 | zero=>
  intro R ds k r h
  unfold m_Z15 at h
  obtain ⟨_,_,rfl,h⟩:=Jf h
  obtain ⟨_,_,rfl,h⟩:=VT h
  obtain ⟨_,_,rfl,h⟩:=Jg h
  obtain ⟨_,_,rfl,h⟩:=Jf h
  obtain ⟨rfl,hE⟩:=Jm h
  obtain ⟨y,hy,hk⟩:=Jn hE
  cases hy
 | succ n ih=>
  intro R ds k r h
  unfold m_Z15 at h
  obtain ⟨_,_,rfl,h⟩:=Jf h
  obtain ⟨_,_,rfl,h⟩:=VT h
  obtain ⟨_,_,rfl,h⟩:=Jg h
  obtain ⟨_,_,rfl,h⟩:=Jf h
  obtain ⟨rfl,hE⟩:=Jm h
  obtain ⟨y,hy,hk⟩:=Jn hE
  exact ⟨0,_,_,_,hk,rfl,Qt px (fx:=⟨Try.func66,by kernel_rfl,by kernel_rfl⟩) (Qh e_Z14_ok JI) (JT ih JJ) (by kernel_rfl) ((q_Z15 ..).trans ((c_Z15_bind ..).trans (Jt hy)))⟩
noncomputable def e_Z15:JS:=m_Z15 (Z15)
theorem e_Z15_ok:(e_Z15).ok Try.prog (JC (Jx Try.f66) 10):=by
 intro R ds k r h
 unfold e_Z15 m_Z15 at h
 obtain ⟨_,_,rfl,h⟩:=Jf h
 obtain ⟨_,_,rfl,h⟩:=VT h
 obtain ⟨_,_,rfl,h⟩:=Jg h
 obtain ⟨_,_,rfl,h⟩:=Jf h
 obtain ⟨rfl,hE⟩:=Jm h
 obtain ⟨y,hy,hk⟩:=Jn hE
 obtain ⟨n,hn⟩:=QR hy
 exact m_Z15_ok n R _ k r ((Jt hn).trans hk)

/-!-/
abbrev T_Z16:=List D→Bool→List D→Option (List D)
def c_Z16 {R:Type} (F:T_Z16) (x0:List D) (x1:Bool) (x2:List D) (k:List D→Option R):Option R:=
 bif x1 then
 (Z15 x0 Bool.false (0:Int) x2).bind (fun y0=>
 (F y0.fst y0.snd.fst y0.snd.snd).bind k)
 else
 k x2
theorem c_Z16_bind {R:Type} (F:T_Z16) (x0:List D) (x1:Bool) (x2:List D) (k:List D→Option R):c_Z16 F x0 x1 x2 k=(c_Z16 F x0 x1 x2 some).bind k:=by
 unfold c_Z16
 repeat' first
  | exact J0
  | exact JZ
  | exact JY
  | apply JV
  | apply JW
  | apply J1
  | (apply JX;intro _)
  | intro _
def n_Z16:Nat→T_Z16
 | 0,_,_,_=>none
 | n+1,x0,x1,x2=>c_Z16 (n_Z16 n) x0 x1 x2 some
noncomputable def Z16 (x0:List D) (x1:Bool) (x2:List D):Option (List D):=ev (fun n=>n_Z16 n x0 x1 x2)
def m_Z16 (F:T_Z16):JS:=⟨7,⟨(.undef::.rd (.struct [.int .i64,.int .i64])::.undef::.undef::.undef::.full 1000 [] (.int .i64)::.undef::.bool::uu 58 ([])),[(1000,.own (.int .i64))]⟩,[(.exit 2,⟨(uu 5 (.full 1000 [] (.int .i64)::uu 60 ([]))),[(1000,.own (.int .i64))]⟩)],fun _ ds k=>dL (fun x0 ds=>dB (fun x1 ds=>dL (fun x2 ds=>dE ((F x0 x1 x2).bind (fun y=>k 0 [.L y])) ds) ds) ds) ds⟩
theorem q_Z16 (F:T_Z16) (x0:List D) (x1:Bool) (x2:List D):QM (JM []) (JN [m_Z16 F,e_Z15]) A 66 (JC (Jx Try.f66) 7) ((m_Z16 F).sh.mk' [.L x0,.B x1,.L x2]) (fun e σ'=>some (e,σ'))=c_Z16 F x0 x1 x2 (fun y=>some (.exit 2,SSt.mk' ⟨(uu 5 (.full 1000 [] (.int .i64)::uu 60 ([]))),[(1000,.own (.int .i64))]⟩ [.L y])):=by kernel_rfl
theorem m_Z16_ok:∀ n,(m_Z16 (n_Z16 n)).ok Try.prog (JC (Jx Try.f66) 7):=by
 intro n
 induction n with
 | zero=>
  intro R ds k r h
  unfold m_Z16 at h
  obtain ⟨_,_,rfl,h⟩:=Jf h
  obtain ⟨_,_,rfl,h⟩:=VT h
  obtain ⟨_,_,rfl,h⟩:=Jf h
  obtain ⟨rfl,hE⟩:=Jm h
  obtain ⟨y,hy,hk⟩:=Jn hE
  cases hy
 | succ n ih=>
  intro R ds k r h
  unfold m_Z16 at h
  obtain ⟨_,_,rfl,h⟩:=Jf h
  obtain ⟨_,_,rfl,h⟩:=VT h
  obtain ⟨_,_,rfl,h⟩:=Jf h
  obtain ⟨rfl,hE⟩:=Jm h
  obtain ⟨y,hy,hk⟩:=Jn hE
  exact ⟨0,_,_,_,hk,rfl,Qt px (fx:=⟨Try.func66,by kernel_rfl,by kernel_rfl⟩) JI (JT ih (JT e_Z15_ok JJ)) (by kernel_rfl) ((q_Z16 ..).trans ((c_Z16_bind ..).trans (Jt hy)))⟩
noncomputable def e_Z16:JS:=m_Z16 (Z16)
theorem e_Z16_ok:(e_Z16).ok Try.prog (JC (Jx Try.f66) 7):=by
 intro R ds k r h
 unfold e_Z16 m_Z16 at h
 obtain ⟨_,_,rfl,h⟩:=Jf h
 obtain ⟨_,_,rfl,h⟩:=VT h
 obtain ⟨_,_,rfl,h⟩:=Jf h
 obtain ⟨rfl,hE⟩:=Jm h
 obtain ⟨y,hy,hk⟩:=Jn hE
 obtain ⟨n,hn⟩:=QR hy
 exact m_Z16_ok n R _ k r ((Jt hn).trans hk)

/-!-/
def c_Z17 {R:Type} (x0:Int) (x1:List D) (k:List D→Option R):Option R:=
 (Z13 x0 x1 (0:Int) []).bind (fun y0=>
 (Z16 y0.fst Bool.true y0.snd).bind (fun y1=>
 k y1))
theorem c_Z17_bind {R:Type} (x0:Int) (x1:List D) (k:List D→Option R):c_Z17 x0 x1 k=(c_Z17 x0 x1 some).bind k:=by
 unfold c_Z17
 repeat' first
  | exact J0
  | exact JZ
  | exact JY
  | apply JV
  | apply JW
  | apply J1
  | (apply JX;intro _)
  | intro _
def Z17 (x0:Int) (x1:List D):Option (List D):=c_Z17 x0 x1 some
def e_Z17:Ent:=⟨66,[.int .i64,.rd (.struct [.int .i64,.int .i64])],[(.own (.int .i64),[.undef,.undef])],fun _ ds k=>dI (fun x0 ds=>dL (fun x1 ds=>dE ((Z17 x0 x1).bind (fun y=>k 0 [.L y])) ds) ds) ds⟩
theorem q_Z17 (x0:Int) (x1:List D):Qs (JM []) (JN [e_Z13,e_Z16]) A 66 Try.f66 (Sh.mks e_Z17.sh [.I x0,.L x1]).1 (fun v os=>some (v,os))=c_Z17 x0 x1 (fun y=>QA e_Z17 0 [.L y]):=by kernel_rfl
theorem e_Z17_ok:e_Z17.ok Try.prog A:=by
 intro R ds k r h
 unfold e_Z17 at h
 obtain ⟨_,_,rfl,h⟩:=Jg h
 obtain ⟨_,_,rfl,h⟩:=Jf h
 obtain ⟨rfl,hE⟩:=Jm h
 obtain ⟨y,hy,hk⟩:=Jn hE
 exact ⟨0,_,_,_,hk,rfl,QB px (fx:=⟨Try.func66,by kernel_rfl,by kernel_rfl⟩) JI (JT e_Z13_ok (JT e_Z16_ok JJ)) ((q_Z17 ..).trans ((c_Z17_bind ..).trans (Jt hy)))⟩

/-!-/
abbrev T_Z18:=Int→Int→Int→List D→List D→List D→Option (Int×Int×List D×List D×List D)
def c_Z18 {R:Type} (F:T_Z18) (x0 x1 x2:Int) (x3 x4 x5:List D) (k:Int×Int×List D×List D×List D→Option R):Option R:=
 bif decide (x2<x0) then
 if 0≤x2∧x2<(↑x3.length:Int) then
 if x2.toNat+1≤x3.length then
 bif decide ((x3.getD x2.toNat (D.int 0)).toInt=x1) then
 if x5.length+[D.int x2].length≤(4294967296:Nat) then
 (F x0 x1 (IntKind.i64.wrap (x2+1)) x3 x4 (x5++[D.int x2])).bind k
 else
 none
 else
 (F x0 x1 (IntKind.i64.wrap (x2+1)) x3 x4 x5).bind k
 else
 none
 else
 none
 else
 k (x0,x1,x3,x4,x5)
theorem c_Z18_bind {R:Type} (F:T_Z18) (x0 x1 x2:Int) (x3 x4 x5:List D) (k:Int×Int×List D×List D×List D→Option R):c_Z18 F x0 x1 x2 x3 x4 x5 k=(c_Z18 F x0 x1 x2 x3 x4 x5 some).bind k:=by
 unfold c_Z18
 repeat' first
  | exact J0
  | exact JZ
  | exact JY
  | apply JV
  | apply JW
  | apply J1
  | (apply JX;intro _)
  | intro _
def n_Z18:Nat→T_Z18
 | 0,_,_,_,_,_,_=>none
 | n+1,x0,x1,x2,x3,x4,x5=>c_Z18 (n_Z18 n) x0 x1 x2 x3 x4 x5 some
noncomputable def Z18 (x0 x1 x2:Int) (x3 x4 x5:List D):Option (Int×Int×List D×List D×List D):=ev (fun n=>n_Z18 n x0 x1 x2 x3 x4 x5)
def m_Z18 (F:T_Z18):JS:=⟨8,⟨(.int .i64::uu 4 (.full 1000 [] (.int .i64)::.full 1001 [] (.slice (.int .i64))::.int .i64::.full 1002 [] (.int .i64)::.int .i64::uu 34 ([]))),[(1000,.own (.int .i64)),(1001,.own (.slice (.int .i64))),(1002,.own (.int .i64))]⟩,[(.exit 2,⟨(.int .i64::uu 4 (.full 1000 [] (.int .i64)::.full 1001 [] (.slice (.int .i64))::.int .i64::.full 1002 [] (.int .i64)::uu 35 ([]))),[(1000,.own (.int .i64)),(1001,.own (.slice (.int .i64))),(1002,.own (.int .i64))]⟩)],fun _ ds k=>dI (fun x0 ds=>dI (fun x1 ds=>dI (fun x2 ds=>dL (fun x3 ds=>dL (fun x4 ds=>dL (fun x5 ds=>dE ((F x0 x1 x2 x3 x4 x5).bind (fun y=>k 0 [.I y.1,.I y.2.1,.L y.2.2.1,.L y.2.2.2.1,.L y.2.2.2.2])) ds) ds) ds) ds) ds) ds) ds⟩
theorem q_Z18 (F:T_Z18) (x0 x1 x2:Int) (x3 x4 x5:List D):QM (JM []) (JN [m_Z18 F]) A 53 (JC (Jx Try.f53) 8) ((m_Z18 F).sh.mk' [.I x0,.I x1,.I x2,.L x3,.L x4,.L x5]) (fun e σ'=>some (e,σ'))=c_Z18 F x0 x1 x2 x3 x4 x5 (fun y=>some (.exit 2,SSt.mk' ⟨(.int .i64::uu 4 (.full 1000 [] (.int .i64)::.full 1001 [] (.slice (.int .i64))::.int .i64::.full 1002 [] (.int .i64)::uu 35 ([]))),[(1000,.own (.int .i64)),(1001,.own (.slice (.int .i64))),(1002,.own (.int .i64))]⟩ [.I y.1,.I y.2.1,.L y.2.2.1,.L y.2.2.2.1,.L y.2.2.2.2])):=by kernel_rfl
theorem m_Z18_ok:∀ n,(m_Z18 (n_Z18 n)).ok Try.prog (JC (Jx Try.f53) 8):=by
 intro n
 induction n with
 | zero=>
  intro R ds k r h
  unfold m_Z18 at h
  obtain ⟨_,_,rfl,h⟩:=Jg h
  obtain ⟨_,_,rfl,h⟩:=Jg h
  obtain ⟨_,_,rfl,h⟩:=Jg h
  obtain ⟨_,_,rfl,h⟩:=Jf h
  obtain ⟨_,_,rfl,h⟩:=Jf h
  obtain ⟨_,_,rfl,h⟩:=Jf h
  obtain ⟨rfl,hE⟩:=Jm h
  obtain ⟨y,hy,hk⟩:=Jn hE
  cases hy
 | succ n ih=>
  intro R ds k r h
  unfold m_Z18 at h
  obtain ⟨_,_,rfl,h⟩:=Jg h
  obtain ⟨_,_,rfl,h⟩:=Jg h
  obtain ⟨_,_,rfl,h⟩:=Jg h
  obtain ⟨_,_,rfl,h⟩:=Jf h
  obtain ⟨_,_,rfl,h⟩:=Jf h
  obtain ⟨_,_,rfl,h⟩:=Jf h
  obtain ⟨rfl,hE⟩:=Jm h
  obtain ⟨y,hy,hk⟩:=Jn hE
  exact ⟨0,_,_,_,hk,rfl,Qt px (fx:=⟨Try.func53,by kernel_rfl,by kernel_rfl⟩) JI (JT ih JJ) (by kernel_rfl) ((q_Z18 ..).trans ((c_Z18_bind ..).trans (Jt hy)))⟩
noncomputable def e_Z18:JS:=m_Z18 (Z18)
theorem e_Z18_ok:(e_Z18).ok Try.prog (JC (Jx Try.f53) 8):=by
 intro R ds k r h
 unfold e_Z18 m_Z18 at h
 obtain ⟨_,_,rfl,h⟩:=Jg h
 obtain ⟨_,_,rfl,h⟩:=Jg h
 obtain ⟨_,_,rfl,h⟩:=Jg h
 obtain ⟨_,_,rfl,h⟩:=Jf h
 obtain ⟨_,_,rfl,h⟩:=Jf h
 obtain ⟨_,_,rfl,h⟩:=Jf h
 obtain ⟨rfl,hE⟩:=Jm h
 obtain ⟨y,hy,hk⟩:=Jn hE
 obtain ⟨n,hn⟩:=QR hy
 exact m_Z18_ok n R _ k r ((Jt hn).trans hk)

/-!-/
abbrev T_Z19:=Int→Int→List D→List D→Option (List D)
def c_Z19 {R:Type} (F:T_Z19) (x0 x1:Int) (x2 x3:List D) (k:List D→Option R):Option R:=
 bif decide (x1<x0) then
 (Z18 x0 x1 x1 x2 x3 []).bind (fun y0=>
 bif decide ((0:Int)<(↑y0.snd.snd.snd.snd.length:Int)) then
 if y0.snd.snd.snd.fst.length+[D.node y0.snd.snd.snd.snd].length≤(4294967296:Nat) then
 (F y0.fst (IntKind.i64.wrap (y0.snd.fst+1)) y0.snd.snd.fst (y0.snd.snd.snd.fst++[D.node y0.snd.snd.snd.snd])).bind k
 else
 none
 else
 (F y0.fst (IntKind.i64.wrap (y0.snd.fst+1)) y0.snd.snd.fst y0.snd.snd.snd.fst).bind k)
 else
 k x3
theorem c_Z19_bind {R:Type} (F:T_Z19) (x0 x1:Int) (x2 x3:List D) (k:List D→Option R):c_Z19 F x0 x1 x2 x3 k=(c_Z19 F x0 x1 x2 x3 some).bind k:=by
 unfold c_Z19
 repeat' first
  | exact J0
  | exact JZ
  | exact JY
  | apply JV
  | apply JW
  | apply J1
  | (apply JX;intro _)
  | intro _
def n_Z19:Nat→T_Z19
 | 0,_,_,_,_=>none
 | n+1,x0,x1,x2,x3=>c_Z19 (n_Z19 n) x0 x1 x2 x3 some
noncomputable def Z19 (x0 x1:Int) (x2 x3:List D):Option (List D):=ev (fun n=>n_Z19 n x0 x1 x2 x3)
def m_Z19 (F:T_Z19):JS:=⟨4,⟨(.int .i64::uu 4 (.full 1000 [] (.int .i64)::.full 1001 [] (.slice (.int .i64))::.int .i64::uu 36 ([]))),[(1000,.own (.int .i64)),(1001,.own (.slice (.int .i64)))]⟩,[(.exit 0,⟨(uu 6 (.full 1000 [] (.slice (.int .i64))::uu 37 ([]))),[(1000,.own (.slice (.int .i64)))]⟩)],fun _ ds k=>dI (fun x0 ds=>dI (fun x1 ds=>dL (fun x2 ds=>dL (fun x3 ds=>dE ((F x0 x1 x2 x3).bind (fun y=>k 0 [.L y])) ds) ds) ds) ds) ds⟩
theorem q_Z19 (F:T_Z19) (x0 x1:Int) (x2 x3:List D):QM (JM []) (JN [m_Z19 F,e_Z18]) A 53 (JC (Jx Try.f53) 4) ((m_Z19 F).sh.mk' [.I x0,.I x1,.L x2,.L x3]) (fun e σ'=>some (e,σ'))=c_Z19 F x0 x1 x2 x3 (fun y=>some (.exit 0,SSt.mk' ⟨(uu 6 (.full 1000 [] (.slice (.int .i64))::uu 37 ([]))),[(1000,.own (.slice (.int .i64)))]⟩ [.L y])):=by kernel_rfl
theorem m_Z19_ok:∀ n,(m_Z19 (n_Z19 n)).ok Try.prog (JC (Jx Try.f53) 4):=by
 intro n
 induction n with
 | zero=>
  intro R ds k r h
  unfold m_Z19 at h
  obtain ⟨_,_,rfl,h⟩:=Jg h
  obtain ⟨_,_,rfl,h⟩:=Jg h
  obtain ⟨_,_,rfl,h⟩:=Jf h
  obtain ⟨_,_,rfl,h⟩:=Jf h
  obtain ⟨rfl,hE⟩:=Jm h
  obtain ⟨y,hy,hk⟩:=Jn hE
  cases hy
 | succ n ih=>
  intro R ds k r h
  unfold m_Z19 at h
  obtain ⟨_,_,rfl,h⟩:=Jg h
  obtain ⟨_,_,rfl,h⟩:=Jg h
  obtain ⟨_,_,rfl,h⟩:=Jf h
  obtain ⟨_,_,rfl,h⟩:=Jf h
  obtain ⟨rfl,hE⟩:=Jm h
  obtain ⟨y,hy,hk⟩:=Jn hE
  exact ⟨0,_,_,_,hk,rfl,Qt px (fx:=⟨Try.func53,by kernel_rfl,by kernel_rfl⟩) JI (JT ih (JT e_Z18_ok JJ)) (by kernel_rfl) ((q_Z19 ..).trans ((c_Z19_bind ..).trans (Jt hy)))⟩
noncomputable def e_Z19:JS:=m_Z19 (Z19)
theorem e_Z19_ok:(e_Z19).ok Try.prog (JC (Jx Try.f53) 4):=by
 intro R ds k r h
 unfold e_Z19 m_Z19 at h
 obtain ⟨_,_,rfl,h⟩:=Jg h
 obtain ⟨_,_,rfl,h⟩:=Jg h
 obtain ⟨_,_,rfl,h⟩:=Jf h
 obtain ⟨_,_,rfl,h⟩:=Jf h
 obtain ⟨rfl,hE⟩:=Jm h
 obtain ⟨y,hy,hk⟩:=Jn hE
 obtain ⟨n,hn⟩:=QR hy
 exact m_Z19_ok n R _ k r ((Jt hn).trans hk)

/-!-/
def c_Z20 {R:Type} (x0:Int) (x1:List D) (k:List D→Option R):Option R:=
 (Z17 x0 x1).bind (fun y0=>
 (Z19 x0 (0:Int) y0 []).bind (fun y1=>
 k y1))
theorem c_Z20_bind {R:Type} (x0:Int) (x1:List D) (k:List D→Option R):c_Z20 x0 x1 k=(c_Z20 x0 x1 some).bind k:=by
 unfold c_Z20
 repeat' first
  | exact J0
  | exact JZ
  | exact JY
  | apply JV
  | apply JW
  | apply J1
  | (apply JX;intro _)
  | intro _
def Z20 (x0:Int) (x1:List D):Option (List D):=c_Z20 x0 x1 some
def e_Z20:Ent:=⟨53,[.int .i64,.rd (.struct [.int .i64,.int .i64])],[(.own (.slice (.int .i64)),[.undef,.undef])],fun _ ds k=>dI (fun x0 ds=>dL (fun x1 ds=>dE ((Z20 x0 x1).bind (fun y=>k 0 [.L y])) ds) ds) ds⟩
theorem q_Z20 (x0:Int) (x1:List D):Qs (JM [e_Z17]) (JN [e_Z19]) A 53 Try.f53 (Sh.mks e_Z20.sh [.I x0,.L x1]).1 (fun v os=>some (v,os))=c_Z20 x0 x1 (fun y=>QA e_Z20 0 [.L y]):=by kernel_rfl
theorem e_Z20_ok:e_Z20.ok Try.prog A:=by
 intro R ds k r h
 unfold e_Z20 at h
 obtain ⟨_,_,rfl,h⟩:=Jg h
 obtain ⟨_,_,rfl,h⟩:=Jf h
 obtain ⟨rfl,hE⟩:=Jm h
 obtain ⟨y,hy,hk⟩:=Jn hE
 exact ⟨0,_,_,_,hk,rfl,QB px (fx:=⟨Try.func53,by kernel_rfl,by kernel_rfl⟩) (Qh e_Z17_ok JI) (JT e_Z19_ok JJ) ((q_Z20 ..).trans ((c_Z20_bind ..).trans (Jt hy)))⟩

/-!-/
def c_Z21 {R:Type} (x0 x1:List D) (k:List D×Bool→Option R):Option R:=
 (Z12 x0 x1).bind (fun y0=>
 bif !y0 then
 k ([],Bool.false)
 else
 (Z20 (↑x0.length:Int) x1).bind (fun y1=>
 k (y1,Bool.true)))
theorem c_Z21_bind {R:Type} (x0 x1:List D) (k:List D×Bool→Option R):c_Z21 x0 x1 k=(c_Z21 x0 x1 some).bind k:=by
 unfold c_Z21
 repeat' first
  | exact J0
  | exact JZ
  | exact JY
  | apply JV
  | apply JW
  | apply J1
  | (apply JX;intro _)
  | intro _
def Z21 (x0 x1:List D):Option (List D×Bool):=c_Z21 x0 x1 some
def e_Z21:Ent:=⟨20,[.rd (.struct [.int .i64,.int .i64,.int .i64,.int .i64]),.rd (.struct [.int .i64,.int .i64])],[(.tup [.own (.slice (.int .i64)),.bool],[.undef,.undef])],fun _ ds k=>dL (fun x0 ds=>dL (fun x1 ds=>dE ((Z21 x0 x1).bind (fun y=>k 0 [.L y.1,.B y.2])) ds) ds) ds⟩
theorem q_Z21 (x0 x1:List D):Qs (JM [e_Z12,e_Z20]) (JN []) A 20 Try.f20 (Sh.mks e_Z21.sh [.L x0,.L x1]).1 (fun v os=>some (v,os))=c_Z21 x0 x1 (fun y=>QA e_Z21 0 [.L y.1,.B y.2]):=by kernel_rfl
theorem e_Z21_ok:e_Z21.ok Try.prog A:=by
 intro R ds k r h
 unfold e_Z21 at h
 obtain ⟨_,_,rfl,h⟩:=Jf h
 obtain ⟨_,_,rfl,h⟩:=Jf h
 obtain ⟨rfl,hE⟩:=Jm h
 obtain ⟨y,hy,hk⟩:=Jn hE
 exact ⟨0,_,_,_,hk,rfl,QB px (fx:=⟨Try.func20,by kernel_rfl,by kernel_rfl⟩) (Qh e_Z12_ok (Qh e_Z20_ok JI)) JJ ((q_Z21 ..).trans ((c_Z21_bind ..).trans (Jt hy)))⟩

/-!-/
def c_Z22 {R:Type} (x0 x1 x2:Int) (k:Bool→Option R):Option R:=
 bif decide (x1≤x0) then
 k (decide (x0≤x2))
 else
 k Bool.false
theorem c_Z22_bind {R:Type} (x0 x1 x2:Int) (k:Bool→Option R):c_Z22 x0 x1 x2 k=(c_Z22 x0 x1 x2 some).bind k:=by
 unfold c_Z22
 repeat' first
  | exact J0
  | exact JZ
  | exact JY
  | apply JV
  | apply JW
  | apply J1
  | (apply JX;intro _)
  | intro _
def Z22 (x0 x1 x2:Int):Option (Bool):=c_Z22 x0 x1 x2 some
def e_Z22:Ent:=⟨56,[.int .i64,.int .i64,.int .i64],[(.bool,[.undef,.undef,.undef])],fun _ ds k=>dI (fun x0 ds=>dI (fun x1 ds=>dI (fun x2 ds=>dE ((Z22 x0 x1 x2).bind (fun y=>k 0 [.B y])) ds) ds) ds) ds⟩
theorem q_Z22 (x0 x1 x2:Int):Qs (JM []) (JN []) A 56 Try.f56 (Sh.mks e_Z22.sh [.I x0,.I x1,.I x2]).1 (fun v os=>some (v,os))=c_Z22 x0 x1 x2 (fun y=>QA e_Z22 0 [.B y]):=by kernel_rfl
theorem e_Z22_ok:e_Z22.ok Try.prog A:=by
 intro R ds k r h
 unfold e_Z22 at h
 obtain ⟨_,_,rfl,h⟩:=Jg h
 obtain ⟨_,_,rfl,h⟩:=Jg h
 obtain ⟨_,_,rfl,h⟩:=Jg h
 obtain ⟨rfl,hE⟩:=Jm h
 obtain ⟨y,hy,hk⟩:=Jn hE
 exact ⟨0,_,_,_,hk,rfl,QB px (fx:=⟨Try.func56,by kernel_rfl,by kernel_rfl⟩) JI JJ ((q_Z22 ..).trans ((c_Z22_bind ..).trans (Jt hy)))⟩

/-!-/
def c_Z23 {R:Type} (x0:Int) (k:Bool→Option R):Option R:=
 (Z22 x0 (1:Int) (999:Int)).bind (fun y0=>
 k y0)
theorem c_Z23_bind {R:Type} (x0:Int) (k:Bool→Option R):c_Z23 x0 k=(c_Z23 x0 some).bind k:=by
 unfold c_Z23
 repeat' first
  | exact J0
  | exact JZ
  | exact JY
  | apply JV
  | apply JW
  | apply J1
  | (apply JX;intro _)
  | intro _
def Z23 (x0:Int):Option (Bool):=c_Z23 x0 some
def e_Z23:Ent:=⟨68,[.int .i64],[(.bool,[.undef])],fun _ ds k=>dI (fun x0 ds=>dE ((Z23 x0).bind (fun y=>k 0 [.B y])) ds) ds⟩
theorem q_Z23 (x0:Int):Qs (JM [e_Z22]) (JN []) A 68 Try.f68 (Sh.mks e_Z23.sh [.I x0]).1 (fun v os=>some (v,os))=c_Z23 x0 (fun y=>QA e_Z23 0 [.B y]):=by kernel_rfl
theorem e_Z23_ok:e_Z23.ok Try.prog A:=by
 intro R ds k r h
 unfold e_Z23 at h
 obtain ⟨_,_,rfl,h⟩:=Jg h
 obtain ⟨rfl,hE⟩:=Jm h
 obtain ⟨y,hy,hk⟩:=Jn hE
 exact ⟨0,_,_,_,hk,rfl,QB px (fx:=⟨Try.func68,by kernel_rfl,by kernel_rfl⟩) (Qh e_Z22_ok JI) JJ ((q_Z23 ..).trans ((c_Z23_bind ..).trans (Jt hy)))⟩

/-!-/
abbrev T_Z24:=List D→List D→List D→Int→Int→Option ((List D×List D×Bool)⊕(List D×List D))
def c_Z24 {R:Type} (F:T_Z24) (x0 x1 x2:List D) (x3 x4:Int) (k:(List D×List D×Bool)⊕(List D×List D)→Option R):Option R:=
 bif decide (x4<x3) then
 if 0≤x4∧x4<(↑x2.length:Int) then
 (Z23 (((x2.getD x4.toNat (D.int 0)).fld (0:Nat)).toInt)).bind (fun y0=>
 bif !y0 then
 k (.inl (x0,x1,Bool.false))
 else
 (Z22 (((x2.getD x4.toNat (D.int 0)).fld (1:Nat)).toInt) (0:Int) (9:Int)).bind (fun y1=>
 bif !y1 then
 k (.inl (x0,x1,Bool.false))
 else
 (Z22 (((x2.getD x4.toNat (D.int 0)).fld (2:Nat)).toInt) (0:Int) (3599:Int)).bind (fun y2=>
 bif !y2 then
 k (.inl (x0,x1,Bool.false))
 else
 (Z22 (((x2.getD x4.toNat (D.int 0)).fld (3:Nat)).toInt) (1:Int) (3600:Int)).bind (fun y3=>
 bif !y3 then
 k (.inl (x0,x1,Bool.false))
 else
 (F x0 x1 x2 x3 (IntKind.i64.wrap (x4+1))).bind k))))
 else
 none
 else
 k (.inr (x0,x1))
theorem c_Z24_bind {R:Type} (F:T_Z24) (x0 x1 x2:List D) (x3 x4:Int) (k:(List D×List D×Bool)⊕(List D×List D)→Option R):c_Z24 F x0 x1 x2 x3 x4 k=(c_Z24 F x0 x1 x2 x3 x4 some).bind k:=by
 unfold c_Z24
 repeat' first
  | exact J0
  | exact JZ
  | exact JY
  | apply JV
  | apply JW
  | apply J1
  | (apply JX;intro _)
  | intro _
def n_Z24:Nat→T_Z24
 | 0,_,_,_,_,_=>none
 | n+1,x0,x1,x2,x3,x4=>c_Z24 (n_Z24 n) x0 x1 x2 x3 x4 some
noncomputable def Z24 (x0 x1 x2:List D) (x3 x4:Int):Option ((List D×List D×Bool)⊕(List D×List D)):=ev (fun n=>n_Z24 n x0 x1 x2 x3 x4)
def m_Z24 (F:T_Z24):JS:=⟨2,⟨(.rd (.struct [.int .i64,.int .i64,.int .i64,.int .i64])::.rd (.struct [.int .i64,.int .i64])::uu 7 (.rd (.struct [.int .i64,.int .i64,.int .i64,.int .i64])::.int .i64::.int .i64::uu 84 ([]))),[]⟩,[(.ret,⟨(.rd (.struct [.int .i64,.int .i64,.int .i64,.int .i64])::.rd (.struct [.int .i64,.int .i64])::.undef::.undef::.bool::uu 91 ([])),[]⟩),(.exit 0,⟨(.rd (.struct [.int .i64,.int .i64,.int .i64,.int .i64])::.rd (.struct [.int .i64,.int .i64])::uu 94 ([])),[]⟩)],fun _ ds k=>dL (fun x0 ds=>dL (fun x1 ds=>dL (fun x2 ds=>dI (fun x3 ds=>dI (fun x4 ds=>dE ((F x0 x1 x2 x3 x4).bind (Sum.elim (fun y=>k 0 [.L y.1,.L y.2.1,.B y.2.2]) (fun y=>k 1 [.L y.1,.L y.2]))) ds) ds) ds) ds) ds) ds⟩
theorem q_Z24 (F:T_Z24) (x0 x1 x2:List D) (x3 x4:Int):QM (JM [e_Z23,e_Z22]) (JN [m_Z24 F]) A 33 (JC (Jx Try.f33) 2) ((m_Z24 F).sh.mk' [.L x0,.L x1,.L x2,.I x3,.I x4]) (fun e σ'=>some (e,σ'))=c_Z24 F x0 x1 x2 x3 x4 (Sum.elim (fun y=>some (.ret,SSt.mk' ⟨(.rd (.struct [.int .i64,.int .i64,.int .i64,.int .i64])::.rd (.struct [.int .i64,.int .i64])::.undef::.undef::.bool::uu 91 ([])),[]⟩ [.L y.1,.L y.2.1,.B y.2.2])) (fun y=>some (.exit 0,SSt.mk' ⟨(.rd (.struct [.int .i64,.int .i64,.int .i64,.int .i64])::.rd (.struct [.int .i64,.int .i64])::uu 94 ([])),[]⟩ [.L y.1,.L y.2]))):=by kernel_rfl
theorem m_Z24_ok:∀ n,(m_Z24 (n_Z24 n)).ok Try.prog (JC (Jx Try.f33) 2):=by
 intro n
 induction n with
 | zero=>
  intro R ds k r h
  unfold m_Z24 at h
  obtain ⟨_,_,rfl,h⟩:=Jf h
  obtain ⟨_,_,rfl,h⟩:=Jf h
  obtain ⟨_,_,rfl,h⟩:=Jf h
  obtain ⟨_,_,rfl,h⟩:=Jg h
  obtain ⟨_,_,rfl,h⟩:=Jg h
  obtain ⟨rfl,hE⟩:=Jm h
  obtain ⟨y,hy,hk⟩:=Jn hE
  cases hy
 | succ n ih=>
  intro R ds k r h
  unfold m_Z24 at h
  obtain ⟨_,_,rfl,h⟩:=Jf h
  obtain ⟨_,_,rfl,h⟩:=Jf h
  obtain ⟨_,_,rfl,h⟩:=Jf h
  obtain ⟨_,_,rfl,h⟩:=Jg h
  obtain ⟨_,_,rfl,h⟩:=Jg h
  obtain ⟨rfl,hE⟩:=Jm h
  obtain ⟨y,hy,hk⟩:=Jn hE
  cases y with
  | inl y=>
   exact ⟨0,_,_,_,hk,rfl,Qt px (fx:=⟨Try.func33,by kernel_rfl,by kernel_rfl⟩) (Qh e_Z23_ok (Qh e_Z22_ok JI)) (JT ih JJ) (by kernel_rfl) ((q_Z24 ..).trans ((c_Z24_bind ..).trans (Jt hy)))⟩
  | inr y=>
   exact ⟨1,_,_,_,hk,rfl,Qt px (fx:=⟨Try.func33,by kernel_rfl,by kernel_rfl⟩) (Qh e_Z23_ok (Qh e_Z22_ok JI)) (JT ih JJ) (by kernel_rfl) ((q_Z24 ..).trans ((c_Z24_bind ..).trans (Jt hy)))⟩
noncomputable def e_Z24:JS:=m_Z24 (Z24)
theorem e_Z24_ok:(e_Z24).ok Try.prog (JC (Jx Try.f33) 2):=by
 intro R ds k r h
 unfold e_Z24 m_Z24 at h
 obtain ⟨_,_,rfl,h⟩:=Jf h
 obtain ⟨_,_,rfl,h⟩:=Jf h
 obtain ⟨_,_,rfl,h⟩:=Jf h
 obtain ⟨_,_,rfl,h⟩:=Jg h
 obtain ⟨_,_,rfl,h⟩:=Jg h
 obtain ⟨rfl,hE⟩:=Jm h
 obtain ⟨y,hy,hk⟩:=Jn hE
 obtain ⟨n,hn⟩:=QR hy
 exact m_Z24_ok n R _ k r ((Jt hn).trans hk)

/-!-/
def c_Z25 {R:Type} (x0:Int) (k:Bool→Option R):Option R:=
 k (!decide (x0=x0))
theorem c_Z25_bind {R:Type} (x0:Int) (k:Bool→Option R):c_Z25 x0 k=(c_Z25 x0 some).bind k:=by
 unfold c_Z25
 repeat' first
  | exact J0
  | exact JZ
  | exact JY
  | apply JV
  | apply JW
  | apply J1
  | (apply JX;intro _)
  | intro _
def Z25 (x0:Int):Option (Bool):=c_Z25 x0 some
def e_Z25:Ent:=⟨104,[.int .i64],[(.bool,[.undef])],fun _ ds k=>dI (fun x0 ds=>dE ((Z25 x0).bind (fun y=>k 0 [.B y])) ds) ds⟩
theorem q_Z25 (x0:Int):Qs (JM []) (JN []) A 104 Try.f104 (Sh.mks e_Z25.sh [.I x0]).1 (fun v os=>some (v,os))=c_Z25 x0 (fun y=>QA e_Z25 0 [.B y]):=by kernel_rfl
theorem e_Z25_ok:e_Z25.ok Try.prog A:=by
 intro R ds k r h
 unfold e_Z25 at h
 obtain ⟨_,_,rfl,h⟩:=Jg h
 obtain ⟨rfl,hE⟩:=Jm h
 obtain ⟨y,hy,hk⟩:=Jn hE
 exact ⟨0,_,_,_,hk,rfl,QB px (fx:=⟨Try.func104,by kernel_rfl,by kernel_rfl⟩) JI JJ ((q_Z25 ..).trans ((c_Z25_bind ..).trans (Jt hy)))⟩

/-!-/
def c_Z26 {R:Type} (x0 x1:Int) (k:Int→Option R):Option R:=
 (Z25 x0).bind (fun y0=>
 (Z25 x1).bind (fun y1=>
 bif y0 then
 bif y1 then
 k (0:Int)
 else
 k (-1:Int)
 else
 bif y1 then
 k (1:Int)
 else
 bif decide (x0<x1) then
 k (-1:Int)
 else
 bif decide (x1<x0) then
 k (1:Int)
 else
 k (0:Int)))
theorem c_Z26_bind {R:Type} (x0 x1:Int) (k:Int→Option R):c_Z26 x0 x1 k=(c_Z26 x0 x1 some).bind k:=by
 unfold c_Z26
 repeat' first
  | exact J0
  | exact JZ
  | exact JY
  | apply JV
  | apply JW
  | apply J1
  | (apply JX;intro _)
  | intro _
def Z26 (x0 x1:Int):Option (Int):=c_Z26 x0 x1 some
def e_Z26:Ent:=⟨70,[.int .i64,.int .i64],[(.int .i64,[.undef,.undef])],fun _ ds k=>dI (fun x0 ds=>dI (fun x1 ds=>dE ((Z26 x0 x1).bind (fun y=>k 0 [.I y])) ds) ds) ds⟩
theorem q_Z26 (x0 x1:Int):Qs (JM [e_Z25]) (JN []) A 70 Try.f70 (Sh.mks e_Z26.sh [.I x0,.I x1]).1 (fun v os=>some (v,os))=c_Z26 x0 x1 (fun y=>QA e_Z26 0 [.I y]):=by kernel_rfl
theorem e_Z26_ok:e_Z26.ok Try.prog A:=by
 intro R ds k r h
 unfold e_Z26 at h
 obtain ⟨_,_,rfl,h⟩:=Jg h
 obtain ⟨_,_,rfl,h⟩:=Jg h
 obtain ⟨rfl,hE⟩:=Jm h
 obtain ⟨y,hy,hk⟩:=Jn hE
 exact ⟨0,_,_,_,hk,rfl,QB px (fx:=⟨Try.func70,by kernel_rfl,by kernel_rfl⟩) (Qh e_Z25_ok JI) JJ ((q_Z26 ..).trans ((c_Z26_bind ..).trans (Jt hy)))⟩

/-!-/
abbrev T_Z27:=Int→List D→Int→Int→Option ((Int×Int)⊕(Int))
def c_Z27 {R:Type} (F:T_Z27) (x0:Int) (x1:List D) (x2 x3:Int) (k:(Int×Int)⊕(Int)→Option R):Option R:=
 bif decide (x3<x2) then
 if 0≤x3∧x3<(↑x1.length:Int) then
 bif !decide ((x1.getD x3.toNat (D.int 0)).toInt=x0) then
 k (.inl ((x1.getD x3.toNat (D.int 0)).toInt,x0))
 else
 (F x0 x1 x2 (IntKind.i64.wrap (x3+1))).bind k
 else
 none
 else
 k (.inr x0)
theorem c_Z27_bind {R:Type} (F:T_Z27) (x0:Int) (x1:List D) (x2 x3:Int) (k:(Int×Int)⊕(Int)→Option R):c_Z27 F x0 x1 x2 x3 k=(c_Z27 F x0 x1 x2 x3 some).bind k:=by
 unfold c_Z27
 repeat' first
  | exact J0
  | exact JZ
  | exact JY
  | apply JV
  | apply JW
  | apply J1
  | (apply JX;intro _)
  | intro _
def n_Z27:Nat→T_Z27
 | 0,_,_,_,_=>none
 | n+1,x0,x1,x2,x3=>c_Z27 (n_Z27 n) x0 x1 x2 x3 some
noncomputable def Z27 (x0:Int) (x1:List D) (x2 x3:Int):Option ((Int×Int)⊕(Int)):=ev (fun n=>n_Z27 n x0 x1 x2 x3)
def m_Z27 (F:T_Z27):JS:=⟨3,⟨(.undef::.undef::.undef::.int .i64::.undef::.undef::.rd (.int .i64)::.int .i64::.int .i64::uu 9 ([])),[]⟩,[(.ret,⟨(.undef::.undef::.int .i64::.int .i64::uu 14 ([])),[]⟩),(.exit 0,⟨(.undef::.undef::.undef::.int .i64::uu 14 ([])),[]⟩)],fun _ ds k=>dI (fun x0 ds=>dL (fun x1 ds=>dI (fun x2 ds=>dI (fun x3 ds=>dE ((F x0 x1 x2 x3).bind (Sum.elim (fun y=>k 0 [.I y.1,.I y.2]) (fun y=>k 1 [.I y]))) ds) ds) ds) ds) ds⟩
theorem q_Z27 (F:T_Z27) (x0:Int) (x1:List D) (x2 x3:Int):QM (JM []) (JN [m_Z27 F]) A 69 (JC (Jx Try.f69) 3) ((m_Z27 F).sh.mk' [.I x0,.L x1,.I x2,.I x3]) (fun e σ'=>some (e,σ'))=c_Z27 F x0 x1 x2 x3 (Sum.elim (fun y=>some (.ret,SSt.mk' ⟨(.undef::.undef::.int .i64::.int .i64::uu 14 ([])),[]⟩ [.I y.1,.I y.2])) (fun y=>some (.exit 0,SSt.mk' ⟨(.undef::.undef::.undef::.int .i64::uu 14 ([])),[]⟩ [.I y]))):=by kernel_rfl
theorem m_Z27_ok:∀ n,(m_Z27 (n_Z27 n)).ok Try.prog (JC (Jx Try.f69) 3):=by
 intro n
 induction n with
 | zero=>
  intro R ds k r h
  unfold m_Z27 at h
  obtain ⟨_,_,rfl,h⟩:=Jg h
  obtain ⟨_,_,rfl,h⟩:=Jf h
  obtain ⟨_,_,rfl,h⟩:=Jg h
  obtain ⟨_,_,rfl,h⟩:=Jg h
  obtain ⟨rfl,hE⟩:=Jm h
  obtain ⟨y,hy,hk⟩:=Jn hE
  cases hy
 | succ n ih=>
  intro R ds k r h
  unfold m_Z27 at h
  obtain ⟨_,_,rfl,h⟩:=Jg h
  obtain ⟨_,_,rfl,h⟩:=Jf h
  obtain ⟨_,_,rfl,h⟩:=Jg h
  obtain ⟨_,_,rfl,h⟩:=Jg h
  obtain ⟨rfl,hE⟩:=Jm h
  obtain ⟨y,hy,hk⟩:=Jn hE
  cases y with
  | inl y=>
   exact ⟨0,_,_,_,hk,rfl,Qt px (fx:=⟨Try.func69,by kernel_rfl,by kernel_rfl⟩) JI (JT ih JJ) (by kernel_rfl) ((q_Z27 ..).trans ((c_Z27_bind ..).trans (Jt hy)))⟩
  | inr y=>
   exact ⟨1,_,_,_,hk,rfl,Qt px (fx:=⟨Try.func69,by kernel_rfl,by kernel_rfl⟩) JI (JT ih JJ) (by kernel_rfl) ((q_Z27 ..).trans ((c_Z27_bind ..).trans (Jt hy)))⟩
noncomputable def e_Z27:JS:=m_Z27 (Z27)
theorem e_Z27_ok:(e_Z27).ok Try.prog (JC (Jx Try.f69) 3):=by
 intro R ds k r h
 unfold e_Z27 m_Z27 at h
 obtain ⟨_,_,rfl,h⟩:=Jg h
 obtain ⟨_,_,rfl,h⟩:=Jf h
 obtain ⟨_,_,rfl,h⟩:=Jg h
 obtain ⟨_,_,rfl,h⟩:=Jg h
 obtain ⟨rfl,hE⟩:=Jm h
 obtain ⟨y,hy,hk⟩:=Jn hE
 obtain ⟨n,hn⟩:=QR hy
 exact m_Z27_ok n R _ k r ((Jt hn).trans hk)

/-!-/
def c_Z28 {R:Type} (x0:List D) (k:Int→Option R):Option R:=
 (Z27 (0:Int) x0 (↑x0.length:Int) (0:Int)).bind (Sum.elim (fun y0=>
 k y0.fst) (fun y1=>
 k y1))
theorem c_Z28_bind {R:Type} (x0:List D) (k:Int→Option R):c_Z28 x0 k=(c_Z28 x0 some).bind k:=by
 unfold c_Z28
 repeat' first
  | exact J0
  | exact JZ
  | exact JY
  | apply JV
  | apply JW
  | apply J1
  | (apply JX;intro _)
  | intro _
def Z28 (x0:List D):Option (Int):=c_Z28 x0 some
def e_Z28:Ent:=⟨69,[.rd (.int .i64)],[(.int .i64,[.undef])],fun _ ds k=>dL (fun x0 ds=>dE ((Z28 x0).bind (fun y=>k 0 [.I y])) ds) ds⟩
theorem q_Z28 (x0:List D):Qs (JM []) (JN [e_Z27]) A 69 Try.f69 (Sh.mks e_Z28.sh [.L x0]).1 (fun v os=>some (v,os))=c_Z28 x0 (fun y=>QA e_Z28 0 [.I y]):=by kernel_rfl
theorem e_Z28_ok:e_Z28.ok Try.prog A:=by
 intro R ds k r h
 unfold e_Z28 at h
 obtain ⟨_,_,rfl,h⟩:=Jf h
 obtain ⟨rfl,hE⟩:=Jm h
 obtain ⟨y,hy,hk⟩:=Jn hE
 exact ⟨0,_,_,_,hk,rfl,QB px (fx:=⟨Try.func69,by kernel_rfl,by kernel_rfl⟩) JI (JT e_Z27_ok JJ) ((q_Z28 ..).trans ((c_Z28_bind ..).trans (Jt hy)))⟩

/-!-/
abbrev T_Z29:=List D→List D→List D→Int→Int→Option ((List D×List D×Bool)⊕(List D×List D))
def c_Z29 {R:Type} (F:T_Z29) (x0 x1 x2:List D) (x3 x4:Int) (k:(List D×List D×Bool)⊕(List D×List D)→Option R):Option R:=
 bif decide (x4<x3) then
 if 0≤x4∧x4<(↑x2.length:Int) then
 bif decide (((x2.getD x4.toNat (D.int 0)).fld (0:Nat)).toInt<(0:Int)) then
 k (.inl (x0,x1,Bool.false))
 else
 bif decide ((↑x0.length:Int)≤((x2.getD x4.toNat (D.int 0)).fld (1:Nat)).toInt) then
 k (.inl (x0,x1,Bool.false))
 else
 bif decide (((x2.getD x4.toNat (D.int 0)).fld (1:Nat)).toInt≤((x2.getD x4.toNat (D.int 0)).fld (0:Nat)).toInt) then
 k (.inl (x0,x1,Bool.false))
 else
 bif decide ((0:Int)<x4) then
 if (0:Int)≤IntKind.i64.wrap (x4 - 1)∧IntKind.i64.wrap (x4 - 1)<(↑x1.length:Int) then
 (Z26 (((x1.getD (IntKind.i64.wrap (x4 - 1)).toNat (D.int 0)).fld (0:Nat)).toInt) (((x2.getD x4.toNat (D.int 0)).fld (0:Nat)).toInt)).bind (fun y0=>
 if (0:Int)≤IntKind.i64.wrap (x4 - 1)∧IntKind.i64.wrap (x4 - 1)<(↑x1.length:Int) then
 (Z26 (((x1.getD (IntKind.i64.wrap (x4 - 1)).toNat (D.int 0)).fld (1:Nat)).toInt) (((x2.getD x4.toNat (D.int 0)).fld (1:Nat)).toInt)).bind (fun y1=>
 (Z28 ([D.int y0,D.int y1])).bind (fun y2=>
 bif decide ((0:Int)≤y2) then
 k (.inl (x0,x1,Bool.false))
 else
 (F x0 x1 x2 x3 (IntKind.i64.wrap (x4+1))).bind k))
 else
 none)
 else
 none
 else
 (F x0 x1 x2 x3 (IntKind.i64.wrap (x4+1))).bind k
 else
 none
 else
 k (.inr (x0,x1))
theorem c_Z29_bind {R:Type} (F:T_Z29) (x0 x1 x2:List D) (x3 x4:Int) (k:(List D×List D×Bool)⊕(List D×List D)→Option R):c_Z29 F x0 x1 x2 x3 x4 k=(c_Z29 F x0 x1 x2 x3 x4 some).bind k:=by
 unfold c_Z29
 repeat' first
  | exact J0
  | exact JZ
  | exact JY
  | apply JV
  | apply JW
  | apply J1
  | (apply JX;intro _)
  | intro _
def n_Z29:Nat→T_Z29
 | 0,_,_,_,_,_=>none
 | n+1,x0,x1,x2,x3,x4=>c_Z29 (n_Z29 n) x0 x1 x2 x3 x4 some
noncomputable def Z29 (x0 x1 x2:List D) (x3 x4:Int):Option ((List D×List D×Bool)⊕(List D×List D)):=ev (fun n=>n_Z29 n x0 x1 x2 x3 x4)
def m_Z29 (F:T_Z29):JS:=⟨8,⟨(.rd (.struct [.int .i64,.int .i64,.int .i64,.int .i64])::.rd (.struct [.int .i64,.int .i64])::uu 36 (.rd (.struct [.int .i64,.int .i64])::.int .i64::.int .i64::uu 55 ([]))),[]⟩,[(.ret,⟨(.rd (.struct [.int .i64,.int .i64,.int .i64,.int .i64])::.rd (.struct [.int .i64,.int .i64])::.undef::.undef::.bool::uu 91 ([])),[]⟩),(.exit 2,⟨(.rd (.struct [.int .i64,.int .i64,.int .i64,.int .i64])::.rd (.struct [.int .i64,.int .i64])::uu 94 ([])),[]⟩)],fun _ ds k=>dL (fun x0 ds=>dL (fun x1 ds=>dL (fun x2 ds=>dI (fun x3 ds=>dI (fun x4 ds=>dE ((F x0 x1 x2 x3 x4).bind (Sum.elim (fun y=>k 0 [.L y.1,.L y.2.1,.B y.2.2]) (fun y=>k 1 [.L y.1,.L y.2]))) ds) ds) ds) ds) ds) ds⟩
theorem q_Z29 (F:T_Z29) (x0 x1 x2:List D) (x3 x4:Int):QM (JM [e_Z26,e_Z28]) (JN [m_Z29 F]) A 33 (JC (Jx Try.f33) 8) ((m_Z29 F).sh.mk' [.L x0,.L x1,.L x2,.I x3,.I x4]) (fun e σ'=>some (e,σ'))=c_Z29 F x0 x1 x2 x3 x4 (Sum.elim (fun y=>some (.ret,SSt.mk' ⟨(.rd (.struct [.int .i64,.int .i64,.int .i64,.int .i64])::.rd (.struct [.int .i64,.int .i64])::.undef::.undef::.bool::uu 91 ([])),[]⟩ [.L y.1,.L y.2.1,.B y.2.2])) (fun y=>some (.exit 2,SSt.mk' ⟨(.rd (.struct [.int .i64,.int .i64,.int .i64,.int .i64])::.rd (.struct [.int .i64,.int .i64])::uu 94 ([])),[]⟩ [.L y.1,.L y.2]))):=by kernel_rfl
theorem m_Z29_ok:∀ n,(m_Z29 (n_Z29 n)).ok Try.prog (JC (Jx Try.f33) 8):=by
 intro n
 induction n with
 | zero=>
  intro R ds k r h
  unfold m_Z29 at h
  obtain ⟨_,_,rfl,h⟩:=Jf h
  obtain ⟨_,_,rfl,h⟩:=Jf h
  obtain ⟨_,_,rfl,h⟩:=Jf h
  obtain ⟨_,_,rfl,h⟩:=Jg h
  obtain ⟨_,_,rfl,h⟩:=Jg h
  obtain ⟨rfl,hE⟩:=Jm h
  obtain ⟨y,hy,hk⟩:=Jn hE
  cases hy
 | succ n ih=>
  intro R ds k r h
  unfold m_Z29 at h
  obtain ⟨_,_,rfl,h⟩:=Jf h
  obtain ⟨_,_,rfl,h⟩:=Jf h
  obtain ⟨_,_,rfl,h⟩:=Jf h
  obtain ⟨_,_,rfl,h⟩:=Jg h
  obtain ⟨_,_,rfl,h⟩:=Jg h
  obtain ⟨rfl,hE⟩:=Jm h
  obtain ⟨y,hy,hk⟩:=Jn hE
  cases y with
  | inl y=>
   exact ⟨0,_,_,_,hk,rfl,Qt px (fx:=⟨Try.func33,by kernel_rfl,by kernel_rfl⟩) (Qh e_Z26_ok (Qh e_Z28_ok JI)) (JT ih JJ) (by kernel_rfl) ((q_Z29 ..).trans ((c_Z29_bind ..).trans (Jt hy)))⟩
  | inr y=>
   exact ⟨1,_,_,_,hk,rfl,Qt px (fx:=⟨Try.func33,by kernel_rfl,by kernel_rfl⟩) (Qh e_Z26_ok (Qh e_Z28_ok JI)) (JT ih JJ) (by kernel_rfl) ((q_Z29 ..).trans ((c_Z29_bind ..).trans (Jt hy)))⟩
noncomputable def e_Z29:JS:=m_Z29 (Z29)
theorem e_Z29_ok:(e_Z29).ok Try.prog (JC (Jx Try.f33) 8):=by
 intro R ds k r h
 unfold e_Z29 m_Z29 at h
 obtain ⟨_,_,rfl,h⟩:=Jf h
 obtain ⟨_,_,rfl,h⟩:=Jf h
 obtain ⟨_,_,rfl,h⟩:=Jf h
 obtain ⟨_,_,rfl,h⟩:=Jg h
 obtain ⟨_,_,rfl,h⟩:=Jg h
 obtain ⟨rfl,hE⟩:=Jm h
 obtain ⟨y,hy,hk⟩:=Jn hE
 obtain ⟨n,hn⟩:=QR hy
 exact m_Z29_ok n R _ k r ((Jt hn).trans hk)

/-!-/
def c_Z30 {R:Type} (x0 x1:List D) (k:Bool→Option R):Option R:=
 (Z24 x0 x1 x0 (↑x0.length:Int) (0:Int)).bind (Sum.elim (fun y0=>
 k y0.snd.snd) (fun y1=>
 (Z29 y1.fst y1.snd y1.snd (↑y1.snd.length:Int) (0:Int)).bind (Sum.elim (fun y2=>
 k y2.snd.snd) (fun y3=>
 bif decide ((↑y3.fst.length:Int)≤(12:Int)) then
 k (decide ((↑y3.snd.length:Int)≤(20:Int)))
 else
 k Bool.false))))
theorem c_Z30_bind {R:Type} (x0 x1:List D) (k:Bool→Option R):c_Z30 x0 x1 k=(c_Z30 x0 x1 some).bind k:=by
 unfold c_Z30
 repeat' first
  | exact J0
  | exact JZ
  | exact JY
  | apply JV
  | apply JW
  | apply J1
  | (apply JX;intro _)
  | intro _
def Z30 (x0 x1:List D):Option (Bool):=c_Z30 x0 x1 some
def e_Z30:Ent:=⟨33,[.rd (.struct [.int .i64,.int .i64,.int .i64,.int .i64]),.rd (.struct [.int .i64,.int .i64])],[(.bool,[.undef,.undef])],fun _ ds k=>dL (fun x0 ds=>dL (fun x1 ds=>dE ((Z30 x0 x1).bind (fun y=>k 0 [.B y])) ds) ds) ds⟩
theorem q_Z30 (x0 x1:List D):Qs (JM []) (JN [e_Z24,e_Z29]) A 33 Try.f33 (Sh.mks e_Z30.sh [.L x0,.L x1]).1 (fun v os=>some (v,os))=c_Z30 x0 x1 (fun y=>QA e_Z30 0 [.B y]):=by kernel_rfl
theorem e_Z30_ok:e_Z30.ok Try.prog A:=by
 intro R ds k r h
 unfold e_Z30 at h
 obtain ⟨_,_,rfl,h⟩:=Jf h
 obtain ⟨_,_,rfl,h⟩:=Jf h
 obtain ⟨rfl,hE⟩:=Jm h
 obtain ⟨y,hy,hk⟩:=Jn hE
 exact ⟨0,_,_,_,hk,rfl,QB px (fx:=⟨Try.func33,by kernel_rfl,by kernel_rfl⟩) JI (JT e_Z24_ok (JT e_Z29_ok JJ)) ((q_Z30 ..).trans ((c_Z30_bind ..).trans (Jt hy)))⟩

/-!-/
abbrev T_Z31:=List D→Int→Int→List D→Option (List D×List D)
def c_Z31 {R:Type} (F:T_Z31) (x0:List D) (x1 x2:Int) (x3:List D) (k:List D×List D→Option R):Option R:=
 bif decide (x2<x1) then
 if x3.length+[D.int x2].length≤(4294967296:Nat) then
 (F x0 x1 (IntKind.i64.wrap (x2+1)) (x3++[D.int x2])).bind k
 else
 none
 else
 k (x0,x3)
theorem c_Z31_bind {R:Type} (F:T_Z31) (x0:List D) (x1 x2:Int) (x3:List D) (k:List D×List D→Option R):c_Z31 F x0 x1 x2 x3 k=(c_Z31 F x0 x1 x2 x3 some).bind k:=by
 unfold c_Z31
 repeat' first
  | exact J0
  | exact JZ
  | exact JY
  | apply JV
  | apply JW
  | apply J1
  | (apply JX;intro _)
  | intro _
def n_Z31:Nat→T_Z31
 | 0,_,_,_,_=>none
 | n+1,x0,x1,x2,x3=>c_Z31 (n_Z31 n) x0 x1 x2 x3 some
noncomputable def Z31 (x0:List D) (x1 x2:Int) (x3:List D):Option (List D×List D):=ev (fun n=>n_Z31 n x0 x1 x2 x3)
def m_Z31 (F:T_Z31):JS:=⟨3,⟨(.undef::.rd (.struct [.int .i64,.int .i64])::.undef::.undef::.undef::.full 1000 [] (.int .i64)::uu 5 (.int .i64::.int .i64::uu 41 ([]))),[(1000,.own (.int .i64))]⟩,[(.exit 0,⟨(.undef::.rd (.struct [.int .i64,.int .i64])::.undef::.undef::.undef::.full 1000 [] (.int .i64)::uu 48 ([])),[(1000,.own (.int .i64))]⟩)],fun _ ds k=>dL (fun x0 ds=>dI (fun x1 ds=>dI (fun x2 ds=>dL (fun x3 ds=>dE ((F x0 x1 x2 x3).bind (fun y=>k 0 [.L y.1,.L y.2])) ds) ds) ds) ds) ds⟩
theorem q_Z31 (F:T_Z31) (x0:List D) (x1 x2:Int) (x3:List D):QM (JM []) (JN [m_Z31 F]) A 97 (JC (Jx Try.f97) 3) ((m_Z31 F).sh.mk' [.L x0,.I x1,.I x2,.L x3]) (fun e σ'=>some (e,σ'))=c_Z31 F x0 x1 x2 x3 (fun y=>some (.exit 0,SSt.mk' ⟨(.undef::.rd (.struct [.int .i64,.int .i64])::.undef::.undef::.undef::.full 1000 [] (.int .i64)::uu 48 ([])),[(1000,.own (.int .i64))]⟩ [.L y.1,.L y.2])):=by kernel_rfl
theorem m_Z31_ok:∀ n,(m_Z31 (n_Z31 n)).ok Try.prog (JC (Jx Try.f97) 3):=by
 intro n
 induction n with
 | zero=>
  intro R ds k r h
  unfold m_Z31 at h
  obtain ⟨_,_,rfl,h⟩:=Jf h
  obtain ⟨_,_,rfl,h⟩:=Jg h
  obtain ⟨_,_,rfl,h⟩:=Jg h
  obtain ⟨_,_,rfl,h⟩:=Jf h
  obtain ⟨rfl,hE⟩:=Jm h
  obtain ⟨y,hy,hk⟩:=Jn hE
  cases hy
 | succ n ih=>
  intro R ds k r h
  unfold m_Z31 at h
  obtain ⟨_,_,rfl,h⟩:=Jf h
  obtain ⟨_,_,rfl,h⟩:=Jg h
  obtain ⟨_,_,rfl,h⟩:=Jg h
  obtain ⟨_,_,rfl,h⟩:=Jf h
  obtain ⟨rfl,hE⟩:=Jm h
  obtain ⟨y,hy,hk⟩:=Jn hE
  exact ⟨0,_,_,_,hk,rfl,Qt px (fx:=⟨Try.func97,by kernel_rfl,by kernel_rfl⟩) JI (JT ih JJ) (by kernel_rfl) ((q_Z31 ..).trans ((c_Z31_bind ..).trans (Jt hy)))⟩
noncomputable def e_Z31:JS:=m_Z31 (Z31)
theorem e_Z31_ok:(e_Z31).ok Try.prog (JC (Jx Try.f97) 3):=by
 intro R ds k r h
 unfold e_Z31 m_Z31 at h
 obtain ⟨_,_,rfl,h⟩:=Jf h
 obtain ⟨_,_,rfl,h⟩:=Jg h
 obtain ⟨_,_,rfl,h⟩:=Jg h
 obtain ⟨_,_,rfl,h⟩:=Jf h
 obtain ⟨rfl,hE⟩:=Jm h
 obtain ⟨y,hy,hk⟩:=Jn hE
 obtain ⟨n,hn⟩:=QR hy
 exact m_Z31_ok n R _ k r ((Jt hn).trans hk)

/-!-/
abbrev T_Z32:=List D→Int→Int→List D→Int→Int→List D→Option (List D×Int×Int×List D)
def c_Z32 {R:Type} (F:T_Z32) (x0:List D) (x1 x2:Int) (x3:List D) (x4 x5:Int) (x6:List D) (k:List D×Int×Int×List D→Option R):Option R:=
 bif decide (x5<x4) then
 if 0≤x5∧x5<(↑x3.length:Int) then
 if (0:Int)≤((x3.getD x5.toNat (D.int 0)).fld (0:Nat)).toInt∧((x3.getD x5.toNat (D.int 0)).fld (0:Nat)).toInt<(↑x6.length:Int) then
 if ((x3.getD x5.toNat (D.int 0)).fld (0:Nat)).toInt.toNat+1≤x6.length then
 if (0:Int)≤((x3.getD x5.toNat (D.int 0)).fld (1:Nat)).toInt∧((x3.getD x5.toNat (D.int 0)).fld (1:Nat)).toInt<(↑x6.length:Int) then
 if ((x3.getD x5.toNat (D.int 0)).fld (1:Nat)).toInt.toNat+1≤x6.length then
 if (0:Int)≤((x3.getD x5.toNat (D.int 0)).fld (0:Nat)).toInt∧((x3.getD x5.toNat (D.int 0)).fld (0:Nat)).toInt<(↑x6.length:Int) then
 if ((x3.getD x5.toNat (D.int 0)).fld (0:Nat)).toInt.toNat+1≤x6.length then
 if (0:Int)≤((x3.getD x5.toNat (D.int 0)).fld (1:Nat)).toInt∧((x3.getD x5.toNat (D.int 0)).fld (1:Nat)).toInt<(↑(x6.set ((x3.getD x5.toNat (D.int 0)).fld (0:Nat)).toInt.toNat (D.int (if (x6.getD ((x3.getD x5.toNat (D.int 0)).fld (1:Nat)).toInt.toNat (D.int 0)).toInt<(x6.getD ((x3.getD x5.toNat (D.int 0)).fld (0:Nat)).toInt.toNat (D.int 0)).toInt then (x6.getD ((x3.getD x5.toNat (D.int 0)).fld (1:Nat)).toInt.toNat (D.int 0)).toInt else (x6.getD ((x3.getD x5.toNat (D.int 0)).fld (0:Nat)).toInt.toNat (D.int 0)).toInt))).length:Int) then
 if ((x3.getD x5.toNat (D.int 0)).fld (1:Nat)).toInt.toNat+1≤(x6.set ((x3.getD x5.toNat (D.int 0)).fld (0:Nat)).toInt.toNat (D.int (if (x6.getD ((x3.getD x5.toNat (D.int 0)).fld (1:Nat)).toInt.toNat (D.int 0)).toInt<(x6.getD ((x3.getD x5.toNat (D.int 0)).fld (0:Nat)).toInt.toNat (D.int 0)).toInt then (x6.getD ((x3.getD x5.toNat (D.int 0)).fld (1:Nat)).toInt.toNat (D.int 0)).toInt else (x6.getD ((x3.getD x5.toNat (D.int 0)).fld (0:Nat)).toInt.toNat (D.int 0)).toInt))).length then
 (F x0 x1 x2 x3 x4 (IntKind.i64.wrap (x5+1)) ((x6.set ((x3.getD x5.toNat (D.int 0)).fld (0:Nat)).toInt.toNat (D.int (if (x6.getD ((x3.getD x5.toNat (D.int 0)).fld (1:Nat)).toInt.toNat (D.int 0)).toInt<(x6.getD ((x3.getD x5.toNat (D.int 0)).fld (0:Nat)).toInt.toNat (D.int 0)).toInt then (x6.getD ((x3.getD x5.toNat (D.int 0)).fld (1:Nat)).toInt.toNat (D.int 0)).toInt else (x6.getD ((x3.getD x5.toNat (D.int 0)).fld (0:Nat)).toInt.toNat (D.int 0)).toInt))).set ((x3.getD x5.toNat (D.int 0)).fld (1:Nat)).toInt.toNat (D.int (if (x6.getD ((x3.getD x5.toNat (D.int 0)).fld (1:Nat)).toInt.toNat (D.int 0)).toInt<(x6.getD ((x3.getD x5.toNat (D.int 0)).fld (0:Nat)).toInt.toNat (D.int 0)).toInt then (x6.getD ((x3.getD x5.toNat (D.int 0)).fld (1:Nat)).toInt.toNat (D.int 0)).toInt else (x6.getD ((x3.getD x5.toNat (D.int 0)).fld (0:Nat)).toInt.toNat (D.int 0)).toInt)))).bind k
 else
 none
 else
 none
 else
 none
 else
 none
 else
 none
 else
 none
 else
 none
 else
 none
 else
 none
 else
 k (x0,x1,x2,x6)
theorem c_Z32_bind {R:Type} (F:T_Z32) (x0:List D) (x1 x2:Int) (x3:List D) (x4 x5:Int) (x6:List D) (k:List D×Int×Int×List D→Option R):c_Z32 F x0 x1 x2 x3 x4 x5 x6 k=(c_Z32 F x0 x1 x2 x3 x4 x5 x6 some).bind k:=by
 unfold c_Z32
 repeat' first
  | exact J0
  | exact JZ
  | exact JY
  | apply JV
  | apply JW
  | apply J1
  | (apply JX;intro _)
  | intro _
def n_Z32:Nat→T_Z32
 | 0,_,_,_,_,_,_,_=>none
 | n+1,x0,x1,x2,x3,x4,x5,x6=>c_Z32 (n_Z32 n) x0 x1 x2 x3 x4 x5 x6 some
noncomputable def Z32 (x0:List D) (x1 x2:Int) (x3:List D) (x4 x5:Int) (x6:List D):Option (List D×Int×Int×List D):=ev (fun n=>n_Z32 n x0 x1 x2 x3 x4 x5 x6)
def m_Z32 (F:T_Z32):JS:=⟨10,⟨(.undef::.rd (.struct [.int .i64,.int .i64])::.undef::.undef::.undef::.full 1000 [] (.int .i64)::uu 15 (.int .i64::.int .i64::.undef::.rd (.struct [.int .i64,.int .i64])::.int .i64::.int .i64::uu 27 ([]))),[(1000,.own (.int .i64))]⟩,[(.exit 4,⟨(.undef::.rd (.struct [.int .i64,.int .i64])::.undef::.undef::.undef::.full 1000 [] (.int .i64)::uu 15 (.int .i64::.int .i64::uu 31 ([]))),[(1000,.own (.int .i64))]⟩)],fun _ ds k=>dL (fun x0 ds=>dI (fun x1 ds=>dI (fun x2 ds=>dL (fun x3 ds=>dI (fun x4 ds=>dI (fun x5 ds=>dL (fun x6 ds=>dE ((F x0 x1 x2 x3 x4 x5 x6).bind (fun y=>k 0 [.L y.1,.I y.2.1,.I y.2.2.1,.L y.2.2.2])) ds) ds) ds) ds) ds) ds) ds) ds⟩
theorem q_Z32 (F:T_Z32) (x0:List D) (x1 x2:Int) (x3:List D) (x4 x5:Int) (x6:List D):QM (JM []) (JN [m_Z32 F]) A 97 (JC (Jx Try.f97) 10) ((m_Z32 F).sh.mk' [.L x0,.I x1,.I x2,.L x3,.I x4,.I x5,.L x6]) (fun e σ'=>some (e,σ'))=c_Z32 F x0 x1 x2 x3 x4 x5 x6 (fun y=>some (.exit 4,SSt.mk' ⟨(.undef::.rd (.struct [.int .i64,.int .i64])::.undef::.undef::.undef::.full 1000 [] (.int .i64)::uu 15 (.int .i64::.int .i64::uu 31 ([]))),[(1000,.own (.int .i64))]⟩ [.L y.1,.I y.2.1,.I y.2.2.1,.L y.2.2.2])):=by kernel_rfl
theorem m_Z32_ok:∀ n,(m_Z32 (n_Z32 n)).ok Try.prog (JC (Jx Try.f97) 10):=by
 intro n
 induction n with
 | zero=>
  intro R ds k r h
  unfold m_Z32 at h
  obtain ⟨_,_,rfl,h⟩:=Jf h
  obtain ⟨_,_,rfl,h⟩:=Jg h
  obtain ⟨_,_,rfl,h⟩:=Jg h
  obtain ⟨_,_,rfl,h⟩:=Jf h
  obtain ⟨_,_,rfl,h⟩:=Jg h
  obtain ⟨_,_,rfl,h⟩:=Jg h
  obtain ⟨_,_,rfl,h⟩:=Jf h
  obtain ⟨rfl,hE⟩:=Jm h
  obtain ⟨y,hy,hk⟩:=Jn hE
  cases hy
 | succ n ih=>
  intro R ds k r h
  unfold m_Z32 at h
  obtain ⟨_,_,rfl,h⟩:=Jf h
  obtain ⟨_,_,rfl,h⟩:=Jg h
  obtain ⟨_,_,rfl,h⟩:=Jg h
  obtain ⟨_,_,rfl,h⟩:=Jf h
  obtain ⟨_,_,rfl,h⟩:=Jg h
  obtain ⟨_,_,rfl,h⟩:=Jg h
  obtain ⟨_,_,rfl,h⟩:=Jf h
  obtain ⟨rfl,hE⟩:=Jm h
  obtain ⟨y,hy,hk⟩:=Jn hE
  exact ⟨0,_,_,_,hk,rfl,Qt px (fx:=⟨Try.func97,by kernel_rfl,by kernel_rfl⟩) JI (JT ih JJ) (by kernel_rfl) ((q_Z32 ..).trans ((c_Z32_bind ..).trans (Jt hy)))⟩
noncomputable def e_Z32:JS:=m_Z32 (Z32)
theorem e_Z32_ok:(e_Z32).ok Try.prog (JC (Jx Try.f97) 10):=by
 intro R ds k r h
 unfold e_Z32 m_Z32 at h
 obtain ⟨_,_,rfl,h⟩:=Jf h
 obtain ⟨_,_,rfl,h⟩:=Jg h
 obtain ⟨_,_,rfl,h⟩:=Jg h
 obtain ⟨_,_,rfl,h⟩:=Jf h
 obtain ⟨_,_,rfl,h⟩:=Jg h
 obtain ⟨_,_,rfl,h⟩:=Jg h
 obtain ⟨_,_,rfl,h⟩:=Jf h
 obtain ⟨rfl,hE⟩:=Jm h
 obtain ⟨y,hy,hk⟩:=Jn hE
 obtain ⟨n,hn⟩:=QR hy
 exact m_Z32_ok n R _ k r ((Jt hn).trans hk)

/-!-/
abbrev T_Z33:=List D→Int→Int→List D→Option (List D)
def c_Z33 {R:Type} (F:T_Z33) (x0:List D) (x1 x2:Int) (x3:List D) (k:List D→Option R):Option R:=
 bif decide (x2<x1) then
 (Z32 x0 x1 x2 x0 (↑x0.length:Int) (0:Int) x3).bind (fun y0=>
 (F y0.fst y0.snd.fst (IntKind.i64.wrap (y0.snd.snd.fst+1)) y0.snd.snd.snd).bind k)
 else
 k x3
theorem c_Z33_bind {R:Type} (F:T_Z33) (x0:List D) (x1 x2:Int) (x3:List D) (k:List D→Option R):c_Z33 F x0 x1 x2 x3 k=(c_Z33 F x0 x1 x2 x3 some).bind k:=by
 unfold c_Z33
 repeat' first
  | exact J0
  | exact JZ
  | exact JY
  | apply JV
  | apply JW
  | apply J1
  | (apply JX;intro _)
  | intro _
def n_Z33:Nat→T_Z33
 | 0,_,_,_,_=>none
 | n+1,x0,x1,x2,x3=>c_Z33 (n_Z33 n) x0 x1 x2 x3 some
noncomputable def Z33 (x0:List D) (x1 x2:Int) (x3:List D):Option (List D):=ev (fun n=>n_Z33 n x0 x1 x2 x3)
def m_Z33 (F:T_Z33):JS:=⟨8,⟨(.undef::.rd (.struct [.int .i64,.int .i64])::.undef::.undef::.undef::.full 1000 [] (.int .i64)::uu 15 (.int .i64::.int .i64::uu 31 ([]))),[(1000,.own (.int .i64))]⟩,[(.exit 2,⟨(uu 5 (.full 1000 [] (.int .i64)::uu 48 ([]))),[(1000,.own (.int .i64))]⟩)],fun _ ds k=>dL (fun x0 ds=>dI (fun x1 ds=>dI (fun x2 ds=>dL (fun x3 ds=>dE ((F x0 x1 x2 x3).bind (fun y=>k 0 [.L y])) ds) ds) ds) ds) ds⟩
theorem q_Z33 (F:T_Z33) (x0:List D) (x1 x2:Int) (x3:List D):QM (JM []) (JN [m_Z33 F,e_Z32]) A 97 (JC (Jx Try.f97) 8) ((m_Z33 F).sh.mk' [.L x0,.I x1,.I x2,.L x3]) (fun e σ'=>some (e,σ'))=c_Z33 F x0 x1 x2 x3 (fun y=>some (.exit 2,SSt.mk' ⟨(uu 5 (.full 1000 [] (.int .i64)::uu 48 ([]))),[(1000,.own (.int .i64))]⟩ [.L y])):=by kernel_rfl
theorem m_Z33_ok:∀ n,(m_Z33 (n_Z33 n)).ok Try.prog (JC (Jx Try.f97) 8):=by
 intro n
 induction n with
 | zero=>
  intro R ds k r h
  unfold m_Z33 at h
  obtain ⟨_,_,rfl,h⟩:=Jf h
  obtain ⟨_,_,rfl,h⟩:=Jg h
  obtain ⟨_,_,rfl,h⟩:=Jg h
  obtain ⟨_,_,rfl,h⟩:=Jf h
  obtain ⟨rfl,hE⟩:=Jm h
  obtain ⟨y,hy,hk⟩:=Jn hE
  cases hy
 | succ n ih=>
  intro R ds k r h
  unfold m_Z33 at h
  obtain ⟨_,_,rfl,h⟩:=Jf h
  obtain ⟨_,_,rfl,h⟩:=Jg h
  obtain ⟨_,_,rfl,h⟩:=Jg h
  obtain ⟨_,_,rfl,h⟩:=Jf h
  obtain ⟨rfl,hE⟩:=Jm h
  obtain ⟨y,hy,hk⟩:=Jn hE
  exact ⟨0,_,_,_,hk,rfl,Qt px (fx:=⟨Try.func97,by kernel_rfl,by kernel_rfl⟩) JI (JT ih (JT e_Z32_ok JJ)) (by kernel_rfl) ((q_Z33 ..).trans ((c_Z33_bind ..).trans (Jt hy)))⟩
noncomputable def e_Z33:JS:=m_Z33 (Z33)
theorem e_Z33_ok:(e_Z33).ok Try.prog (JC (Jx Try.f97) 8):=by
 intro R ds k r h
 unfold e_Z33 m_Z33 at h
 obtain ⟨_,_,rfl,h⟩:=Jf h
 obtain ⟨_,_,rfl,h⟩:=Jg h
 obtain ⟨_,_,rfl,h⟩:=Jg h
 obtain ⟨_,_,rfl,h⟩:=Jf h
 obtain ⟨rfl,hE⟩:=Jm h
 obtain ⟨y,hy,hk⟩:=Jn hE
 obtain ⟨n,hn⟩:=QR hy
 exact m_Z33_ok n R _ k r ((Jt hn).trans hk)

/-!-/
def c_Z34 {R:Type} (x0:Int) (x1:List D) (k:List D→Option R):Option R:=
 (Z31 x1 x0 (0:Int) []).bind (fun y0=>
 (Z33 y0.fst (↑y0.fst.length:Int) (0:Int) y0.snd).bind (fun y1=>
 k y1))
theorem c_Z34_bind {R:Type} (x0:Int) (x1:List D) (k:List D→Option R):c_Z34 x0 x1 k=(c_Z34 x0 x1 some).bind k:=by
 unfold c_Z34
 repeat' first
  | exact J0
  | exact JZ
  | exact JY
  | apply JV
  | apply JW
  | apply J1
  | (apply JX;intro _)
  | intro _
def Z34 (x0:Int) (x1:List D):Option (List D):=c_Z34 x0 x1 some
def e_Z34:Ent:=⟨97,[.int .i64,.rd (.struct [.int .i64,.int .i64])],[(.own (.int .i64),[.undef,.undef])],fun _ ds k=>dI (fun x0 ds=>dL (fun x1 ds=>dE ((Z34 x0 x1).bind (fun y=>k 0 [.L y])) ds) ds) ds⟩
theorem q_Z34 (x0:Int) (x1:List D):Qs (JM []) (JN [e_Z31,e_Z33]) A 97 Try.f97 (Sh.mks e_Z34.sh [.I x0,.L x1]).1 (fun v os=>some (v,os))=c_Z34 x0 x1 (fun y=>QA e_Z34 0 [.L y]):=by kernel_rfl
theorem e_Z34_ok:e_Z34.ok Try.prog A:=by
 intro R ds k r h
 unfold e_Z34 at h
 obtain ⟨_,_,rfl,h⟩:=Jg h
 obtain ⟨_,_,rfl,h⟩:=Jf h
 obtain ⟨rfl,hE⟩:=Jm h
 obtain ⟨y,hy,hk⟩:=Jn hE
 exact ⟨0,_,_,_,hk,rfl,QB px (fx:=⟨Try.func97,by kernel_rfl,by kernel_rfl⟩) JI (JT e_Z31_ok (JT e_Z33_ok JJ)) ((q_Z34 ..).trans ((c_Z34_bind ..).trans (Jt hy)))⟩

/-!-/
abbrev T_Z35:=Int→Int→List D→List D→List D→Option (List D)
def c_Z35 {R:Type} (F:T_Z35) (x0 x1:Int) (x2 x3 x4:List D) (k:List D→Option R):Option R:=
 bif decide (x1<x0) then
 if 0≤x1∧x1<(↑x4.length:Int) then
 if x1.toNat+1≤x4.length then
 bif decide ((x4.getD x1.toNat (D.int 0)).toInt=x1) then
 if x2.length+[D.node []].length≤(4294967296:Nat) then
 if (0:Int)≤Qq (QZ x3 x1 (↑x2.length:Int)) (x4.getD x1.toNat (D.int 0)).toInt∧Qq (QZ x3 x1 (↑x2.length:Int)) (x4.getD x1.toNat (D.int 0)).toInt<(↑(x2++[D.node []]).length:Int) then
 if (Qq (QZ x3 x1 (↑x2.length:Int)) (x4.getD x1.toNat (D.int 0)).toInt).toNat+1≤(x2++[D.node []]).length then
 if (Qq (QZ x3 x1 (↑x2.length:Int)) (x4.getD x1.toNat (D.int 0)).toInt).toNat+1≤(x2++[D.node []]).length then
 if ((x2++[D.node []]).getD (Qq (QZ x3 x1 (↑x2.length:Int)) (x4.getD x1.toNat (D.int 0)).toInt).toNat (D.int 0)).items.length+[D.int x1].length≤(4294967296:Nat) then
 if (0:Int)≤Qq (QZ x3 x1 (↑x2.length:Int)) (x4.getD x1.toNat (D.int 0)).toInt∧Qq (QZ x3 x1 (↑x2.length:Int)) (x4.getD x1.toNat (D.int 0)).toInt<(↑(x2++[D.node []]).length:Int) then
 if (Qq (QZ x3 x1 (↑x2.length:Int)) (x4.getD x1.toNat (D.int 0)).toInt).toNat≤(Qq (QZ x3 x1 (↑x2.length:Int)) (x4.getD x1.toNat (D.int 0)).toInt).toNat then
 if (Qq (QZ x3 x1 (↑x2.length:Int)) (x4.getD x1.toNat (D.int 0)).toInt).toNat≤(Qq (QZ x3 x1 (↑x2.length:Int)) (x4.getD x1.toNat (D.int 0)).toInt).toNat then
 (F x0 (IntKind.i64.wrap (x1+1)) ((x2++[D.node []]).set (Qq (QZ x3 x1 (↑x2.length:Int)) (x4.getD x1.toNat (D.int 0)).toInt).toNat (D.node (((x2++[D.node []]).getD (Qq (QZ x3 x1 (↑x2.length:Int)) (x4.getD x1.toNat (D.int 0)).toInt).toNat (D.int 0)).items++[D.int x1]))) (QZ x3 x1 (↑x2.length:Int)) x4).bind k
 else
 none
 else
 none
 else
 none
 else
 none
 else
 none
 else
 none
 else
 none
 else
 none
 else
 if (0:Int)≤Qq x3 (x4.getD x1.toNat (D.int 0)).toInt∧Qq x3 (x4.getD x1.toNat (D.int 0)).toInt<(↑x2.length:Int) then
 if (Qq x3 (x4.getD x1.toNat (D.int 0)).toInt).toNat+1≤x2.length then
 if (Qq x3 (x4.getD x1.toNat (D.int 0)).toInt).toNat+1≤x2.length then
 if (x2.getD (Qq x3 (x4.getD x1.toNat (D.int 0)).toInt).toNat (D.int 0)).items.length+[D.int x1].length≤(4294967296:Nat) then
 if (0:Int)≤Qq x3 (x4.getD x1.toNat (D.int 0)).toInt∧Qq x3 (x4.getD x1.toNat (D.int 0)).toInt<(↑x2.length:Int) then
 if (Qq x3 (x4.getD x1.toNat (D.int 0)).toInt).toNat≤(Qq x3 (x4.getD x1.toNat (D.int 0)).toInt).toNat then
 if (Qq x3 (x4.getD x1.toNat (D.int 0)).toInt).toNat≤(Qq x3 (x4.getD x1.toNat (D.int 0)).toInt).toNat then
 (F x0 (IntKind.i64.wrap (x1+1)) (x2.set (Qq x3 (x4.getD x1.toNat (D.int 0)).toInt).toNat (D.node ((x2.getD (Qq x3 (x4.getD x1.toNat (D.int 0)).toInt).toNat (D.int 0)).items++[D.int x1]))) x3 x4).bind k
 else
 none
 else
 none
 else
 none
 else
 none
 else
 none
 else
 none
 else
 none
 else
 none
 else
 none
 else
 k x2
theorem c_Z35_bind {R:Type} (F:T_Z35) (x0 x1:Int) (x2 x3 x4:List D) (k:List D→Option R):c_Z35 F x0 x1 x2 x3 x4 k=(c_Z35 F x0 x1 x2 x3 x4 some).bind k:=by
 unfold c_Z35
 repeat' first
  | exact J0
  | exact JZ
  | exact JY
  | apply JV
  | apply JW
  | apply J1
  | (apply JX;intro _)
  | intro _
def n_Z35:Nat→T_Z35
 | 0,_,_,_,_,_=>none
 | n+1,x0,x1,x2,x3,x4=>c_Z35 (n_Z35 n) x0 x1 x2 x3 x4 some
noncomputable def Z35 (x0 x1:Int) (x2 x3 x4:List D):Option (List D):=ev (fun n=>n_Z35 n x0 x1 x2 x3 x4)
def m_Z35 (F:T_Z35):JS:=⟨4,⟨(uu 5 (.full 1000 [] (.slice (.int .i64))::.mref 1001::uu 6 (.full 1002 [] (.int .i64)::.int .i64::.int .i64::uu 30 ([])))),[(1000,.own (.slice (.int .i64))),(1001,.mp),(1002,.own (.int .i64))]⟩,[(.exit 0,⟨(uu 5 (.full 1000 [] (.slice (.int .i64))::uu 40 ([]))),[(1000,.own (.slice (.int .i64)))]⟩)],fun _ ds k=>dI (fun x0 ds=>dI (fun x1 ds=>dL (fun x2 ds=>dL (fun x3 ds=>dL (fun x4 ds=>dE ((F x0 x1 x2 x3 x4).bind (fun y=>k 0 [.L y])) ds) ds) ds) ds) ds) ds⟩
theorem q_Z35 (F:T_Z35) (x0 x1:Int) (x2 x3 x4:List D):QM (JM []) (JN [m_Z35 F]) A 58 (JC (Jx Try.f58) 4) ((m_Z35 F).sh.mk' [.I x0,.I x1,.L x2,.L x3,.L x4]) (fun e σ'=>some (e,σ'))=c_Z35 F x0 x1 x2 x3 x4 (fun y=>some (.exit 0,SSt.mk' ⟨(uu 5 (.full 1000 [] (.slice (.int .i64))::uu 40 ([]))),[(1000,.own (.slice (.int .i64)))]⟩ [.L y])):=by kernel_rfl
theorem m_Z35_ok:∀ n,(m_Z35 (n_Z35 n)).ok Try.prog (JC (Jx Try.f58) 4):=by
 intro n
 induction n with
 | zero=>
  intro R ds k r h
  unfold m_Z35 at h
  obtain ⟨_,_,rfl,h⟩:=Jg h
  obtain ⟨_,_,rfl,h⟩:=Jg h
  obtain ⟨_,_,rfl,h⟩:=Jf h
  obtain ⟨_,_,rfl,h⟩:=Jf h
  obtain ⟨_,_,rfl,h⟩:=Jf h
  obtain ⟨rfl,hE⟩:=Jm h
  obtain ⟨y,hy,hk⟩:=Jn hE
  cases hy
 | succ n ih=>
  intro R ds k r h
  unfold m_Z35 at h
  obtain ⟨_,_,rfl,h⟩:=Jg h
  obtain ⟨_,_,rfl,h⟩:=Jg h
  obtain ⟨_,_,rfl,h⟩:=Jf h
  obtain ⟨_,_,rfl,h⟩:=Jf h
  obtain ⟨_,_,rfl,h⟩:=Jf h
  obtain ⟨rfl,hE⟩:=Jm h
  obtain ⟨y,hy,hk⟩:=Jn hE
  exact ⟨0,_,_,_,hk,rfl,Qt px (fx:=⟨Try.func58,by kernel_rfl,by kernel_rfl⟩) JI (JT ih JJ) (by kernel_rfl) ((q_Z35 ..).trans ((c_Z35_bind ..).trans (Jt hy)))⟩
noncomputable def e_Z35:JS:=m_Z35 (Z35)
theorem e_Z35_ok:(e_Z35).ok Try.prog (JC (Jx Try.f58) 4):=by
 intro R ds k r h
 unfold e_Z35 m_Z35 at h
 obtain ⟨_,_,rfl,h⟩:=Jg h
 obtain ⟨_,_,rfl,h⟩:=Jg h
 obtain ⟨_,_,rfl,h⟩:=Jf h
 obtain ⟨_,_,rfl,h⟩:=Jf h
 obtain ⟨_,_,rfl,h⟩:=Jf h
 obtain ⟨rfl,hE⟩:=Jm h
 obtain ⟨y,hy,hk⟩:=Jn hE
 obtain ⟨n,hn⟩:=QR hy
 exact m_Z35_ok n R _ k r ((Jt hn).trans hk)

/-!-/
def c_Z36 {R:Type} (x0:Int) (x1:List D) (k:List D→Option R):Option R:=
 (Z34 x0 x1).bind (fun y0=>
 (Z35 (↑y0.length:Int) (0:Int) [] [] y0).bind (fun y1=>
 k y1))
theorem c_Z36_bind {R:Type} (x0:Int) (x1:List D) (k:List D→Option R):c_Z36 x0 x1 k=(c_Z36 x0 x1 some).bind k:=by
 unfold c_Z36
 repeat' first
  | exact J0
  | exact JZ
  | exact JY
  | apply JV
  | apply JW
  | apply J1
  | (apply JX;intro _)
  | intro _
def Z36 (x0:Int) (x1:List D):Option (List D):=c_Z36 x0 x1 some
def e_Z36:Ent:=⟨58,[.int .i64,.rd (.struct [.int .i64,.int .i64])],[(.own (.slice (.int .i64)),[.undef,.undef])],fun _ ds k=>dI (fun x0 ds=>dL (fun x1 ds=>dE ((Z36 x0 x1).bind (fun y=>k 0 [.L y])) ds) ds) ds⟩
theorem q_Z36 (x0:Int) (x1:List D):Qs (JM [e_Z34]) (JN [e_Z35]) A 58 Try.f58 (Sh.mks e_Z36.sh [.I x0,.L x1]).1 (fun v os=>some (v,os))=c_Z36 x0 x1 (fun y=>QA e_Z36 0 [.L y]):=by kernel_rfl
theorem e_Z36_ok:e_Z36.ok Try.prog A:=by
 intro R ds k r h
 unfold e_Z36 at h
 obtain ⟨_,_,rfl,h⟩:=Jg h
 obtain ⟨_,_,rfl,h⟩:=Jf h
 obtain ⟨rfl,hE⟩:=Jm h
 obtain ⟨y,hy,hk⟩:=Jn hE
 exact ⟨0,_,_,_,hk,rfl,QB px (fx:=⟨Try.func58,by kernel_rfl,by kernel_rfl⟩) (Qh e_Z34_ok JI) (JT e_Z35_ok JJ) ((q_Z36 ..).trans ((c_Z36_bind ..).trans (Jt hy)))⟩

/-!-/
def c_Z37 {R:Type} (x0 x1:List D) (k:List D×Bool→Option R):Option R:=
 (Z30 x0 x1).bind (fun y0=>
 bif !y0 then
 k ([],Bool.false)
 else
 (Z36 (↑x0.length:Int) x1).bind (fun y1=>
 k (y1,Bool.true)))
theorem c_Z37_bind {R:Type} (x0 x1:List D) (k:List D×Bool→Option R):c_Z37 x0 x1 k=(c_Z37 x0 x1 some).bind k:=by
 unfold c_Z37
 repeat' first
  | exact J0
  | exact JZ
  | exact JY
  | apply JV
  | apply JW
  | apply J1
  | (apply JX;intro _)
  | intro _
def Z37 (x0 x1:List D):Option (List D×Bool):=c_Z37 x0 x1 some
def e_Z37:Ent:=⟨21,[.rd (.struct [.int .i64,.int .i64,.int .i64,.int .i64]),.rd (.struct [.int .i64,.int .i64])],[(.tup [.own (.slice (.int .i64)),.bool],[.undef,.undef])],fun _ ds k=>dL (fun x0 ds=>dL (fun x1 ds=>dE ((Z37 x0 x1).bind (fun y=>k 0 [.L y.1,.B y.2])) ds) ds) ds⟩
theorem q_Z37 (x0 x1:List D):Qs (JM [e_Z30,e_Z36]) (JN []) A 21 Try.f21 (Sh.mks e_Z37.sh [.L x0,.L x1]).1 (fun v os=>some (v,os))=c_Z37 x0 x1 (fun y=>QA e_Z37 0 [.L y.1,.B y.2]):=by kernel_rfl
theorem e_Z37_ok:e_Z37.ok Try.prog A:=by
 intro R ds k r h
 unfold e_Z37 at h
 obtain ⟨_,_,rfl,h⟩:=Jf h
 obtain ⟨_,_,rfl,h⟩:=Jf h
 obtain ⟨rfl,hE⟩:=Jm h
 obtain ⟨y,hy,hk⟩:=Jn hE
 exact ⟨0,_,_,_,hk,rfl,QB px (fx:=⟨Try.func21,by kernel_rfl,by kernel_rfl⟩) (Qh e_Z30_ok (Qh e_Z36_ok JI)) JJ ((q_Z37 ..).trans ((c_Z37_bind ..).trans (Jt hy)))⟩

/-!-/
abbrev T_Z38:=List D→List D→Int→Option ((Bool)⊕(Unit))
def c_Z38 {R:Type} (F:T_Z38) (x0 x1:List D) (x2:Int) (k:(Bool)⊕(Unit)→Option R):Option R:=
 bif decide (x2<(↑x0.length:Int)) then
 if 0≤x2∧x2<(↑x0.length:Int) then
 if 0≤x2∧x2<(↑x1.length:Int) then
 bif !decide ((x0.getD x2.toNat (D.int 0)).toInt=(x1.getD x2.toNat (D.int 0)).toInt) then
 k (.inl Bool.false)
 else
 (F x0 x1 (IntKind.i64.wrap (x2+1))).bind k
 else
 none
 else
 none
 else
 k (.inr ())
theorem c_Z38_bind {R:Type} (F:T_Z38) (x0 x1:List D) (x2:Int) (k:(Bool)⊕(Unit)→Option R):c_Z38 F x0 x1 x2 k=(c_Z38 F x0 x1 x2 some).bind k:=by
 unfold c_Z38
 repeat' first
  | exact J0
  | exact JZ
  | exact JY
  | apply JV
  | apply JW
  | apply J1
  | (apply JX;intro _)
  | intro _
def n_Z38:Nat→T_Z38
 | 0,_,_,_=>none
 | n+1,x0,x1,x2=>c_Z38 (n_Z38 n) x0 x1 x2 some
noncomputable def Z38 (x0 x1:List D) (x2:Int):Option ((Bool)⊕(Unit)):=ev (fun n=>n_Z38 n x0 x1 x2)
def m_Z38 (F:T_Z38):JS:=⟨4,⟨(.rd (.int .i64)::.rd (.int .i64)::.undef::.undef::.undef::.int .i64::uu 20 ([])),[]⟩,[(.ret,⟨(uu 4 (.bool::uu 21 ([]))),[]⟩),(.exit 0,⟨(uu 26 ([])),[]⟩)],fun _ ds k=>dL (fun x0 ds=>dL (fun x1 ds=>dI (fun x2 ds=>dE ((F x0 x1 x2).bind (Sum.elim (fun y=>k 0 [.B y]) (fun y=>k 1 []))) ds) ds) ds) ds⟩
theorem q_Z38 (F:T_Z38) (x0 x1:List D) (x2:Int):QM (JM []) (JN [m_Z38 F]) A 59 (JC (Jx Try.f59) 4) ((m_Z38 F).sh.mk' [.L x0,.L x1,.I x2]) (fun e σ'=>some (e,σ'))=c_Z38 F x0 x1 x2 (Sum.elim (fun y=>some (.ret,SSt.mk' ⟨(uu 4 (.bool::uu 21 ([]))),[]⟩ [.B y])) (fun y=>some (.exit 0,SSt.mk' ⟨(uu 26 ([])),[]⟩ []))):=by kernel_rfl
theorem m_Z38_ok:∀ n,(m_Z38 (n_Z38 n)).ok Try.prog (JC (Jx Try.f59) 4):=by
 intro n
 induction n with
 | zero=>
  intro R ds k r h
  unfold m_Z38 at h
  obtain ⟨_,_,rfl,h⟩:=Jf h
  obtain ⟨_,_,rfl,h⟩:=Jf h
  obtain ⟨_,_,rfl,h⟩:=Jg h
  obtain ⟨rfl,hE⟩:=Jm h
  obtain ⟨y,hy,hk⟩:=Jn hE
  cases hy
 | succ n ih=>
  intro R ds k r h
  unfold m_Z38 at h
  obtain ⟨_,_,rfl,h⟩:=Jf h
  obtain ⟨_,_,rfl,h⟩:=Jf h
  obtain ⟨_,_,rfl,h⟩:=Jg h
  obtain ⟨rfl,hE⟩:=Jm h
  obtain ⟨y,hy,hk⟩:=Jn hE
  cases y with
  | inl y=>
   exact ⟨0,_,_,_,hk,rfl,Qt px (fx:=⟨Try.func59,by kernel_rfl,by kernel_rfl⟩) JI (JT ih JJ) (by kernel_rfl) ((q_Z38 ..).trans ((c_Z38_bind ..).trans (Jt hy)))⟩
  | inr y=>
   exact ⟨1,_,_,_,hk,rfl,Qt px (fx:=⟨Try.func59,by kernel_rfl,by kernel_rfl⟩) JI (JT ih JJ) (by kernel_rfl) ((q_Z38 ..).trans ((c_Z38_bind ..).trans (Jt hy)))⟩
noncomputable def e_Z38:JS:=m_Z38 (Z38)
theorem e_Z38_ok:(e_Z38).ok Try.prog (JC (Jx Try.f59) 4):=by
 intro R ds k r h
 unfold e_Z38 m_Z38 at h
 obtain ⟨_,_,rfl,h⟩:=Jf h
 obtain ⟨_,_,rfl,h⟩:=Jf h
 obtain ⟨_,_,rfl,h⟩:=Jg h
 obtain ⟨rfl,hE⟩:=Jm h
 obtain ⟨y,hy,hk⟩:=Jn hE
 obtain ⟨n,hn⟩:=QR hy
 exact m_Z38_ok n R _ k r ((Jt hn).trans hk)

/-!-/
def c_Z39 {R:Type} (x0 x1:List D) (k:Bool→Option R):Option R:=
 bif !decide ((↑x0.length:Int)=(↑x1.length:Int)) then
 k Bool.false
 else
 (Z38 x0 x1 (0:Int)).bind (Sum.elim (fun y0=>
 k y0) (fun y1=>
 k Bool.true))
theorem c_Z39_bind {R:Type} (x0 x1:List D) (k:Bool→Option R):c_Z39 x0 x1 k=(c_Z39 x0 x1 some).bind k:=by
 unfold c_Z39
 repeat' first
  | exact J0
  | exact JZ
  | exact JY
  | apply JV
  | apply JW
  | apply J1
  | (apply JX;intro _)
  | intro _
def Z39 (x0 x1:List D):Option (Bool):=c_Z39 x0 x1 some
def e_Z39:Ent:=⟨59,[.rd (.int .i64),.rd (.int .i64)],[(.bool,[.undef,.undef])],fun _ ds k=>dL (fun x0 ds=>dL (fun x1 ds=>dE ((Z39 x0 x1).bind (fun y=>k 0 [.B y])) ds) ds) ds⟩
theorem q_Z39 (x0 x1:List D):Qs (JM []) (JN [e_Z38]) A 59 Try.f59 (Sh.mks e_Z39.sh [.L x0,.L x1]).1 (fun v os=>some (v,os))=c_Z39 x0 x1 (fun y=>QA e_Z39 0 [.B y]):=by kernel_rfl
theorem e_Z39_ok:e_Z39.ok Try.prog A:=by
 intro R ds k r h
 unfold e_Z39 at h
 obtain ⟨_,_,rfl,h⟩:=Jf h
 obtain ⟨_,_,rfl,h⟩:=Jf h
 obtain ⟨rfl,hE⟩:=Jm h
 obtain ⟨y,hy,hk⟩:=Jn hE
 exact ⟨0,_,_,_,hk,rfl,QB px (fx:=⟨Try.func59,by kernel_rfl,by kernel_rfl⟩) JI (JT e_Z38_ok JJ) ((q_Z39 ..).trans ((c_Z39_bind ..).trans (Jt hy)))⟩

/-!-/
abbrev T_Z40:=List D→List D→Int→Option ((Bool)⊕(Unit))
def c_Z40 {R:Type} (F:T_Z40) (x0 x1:List D) (x2:Int) (k:(Bool)⊕(Unit)→Option R):Option R:=
 bif decide (x2<(↑x0.length:Int)) then
 if 0≤x2∧x2<(↑x0.length:Int) then
 if 0≤x2∧x2<(↑x1.length:Int) then
 (Z39 ((x0.getD x2.toNat (D.int 0)).items) ((x1.getD x2.toNat (D.int 0)).items)).bind (fun y0=>
 bif !y0 then
 k (.inl Bool.false)
 else
 (F x0 x1 (IntKind.i64.wrap (x2+1))).bind k)
 else
 none
 else
 none
 else
 k (.inr ())
theorem c_Z40_bind {R:Type} (F:T_Z40) (x0 x1:List D) (x2:Int) (k:(Bool)⊕(Unit)→Option R):c_Z40 F x0 x1 x2 k=(c_Z40 F x0 x1 x2 some).bind k:=by
 unfold c_Z40
 repeat' first
  | exact J0
  | exact JZ
  | exact JY
  | apply JV
  | apply JW
  | apply J1
  | (apply JX;intro _)
  | intro _
def n_Z40:Nat→T_Z40
 | 0,_,_,_=>none
 | n+1,x0,x1,x2=>c_Z40 (n_Z40 n) x0 x1 x2 some
noncomputable def Z40 (x0 x1:List D) (x2:Int):Option ((Bool)⊕(Unit)):=ev (fun n=>n_Z40 n x0 x1 x2)
def m_Z40 (F:T_Z40):JS:=⟨4,⟨(.rd (.slice (.int .i64))::.rd (.slice (.int .i64))::.undef::.undef::.undef::.int .i64::uu 21 ([])),[]⟩,[(.ret,⟨(uu 4 (.bool::uu 22 ([]))),[]⟩),(.exit 0,⟨(uu 27 ([])),[]⟩)],fun _ ds k=>dL (fun x0 ds=>dL (fun x1 ds=>dI (fun x2 ds=>dE ((F x0 x1 x2).bind (Sum.elim (fun y=>k 0 [.B y]) (fun y=>k 1 []))) ds) ds) ds) ds⟩
theorem q_Z40 (F:T_Z40) (x0 x1:List D) (x2:Int):QM (JM [e_Z39]) (JN [m_Z40 F]) A 22 (JC (Jx Try.f22) 4) ((m_Z40 F).sh.mk' [.L x0,.L x1,.I x2]) (fun e σ'=>some (e,σ'))=c_Z40 F x0 x1 x2 (Sum.elim (fun y=>some (.ret,SSt.mk' ⟨(uu 4 (.bool::uu 22 ([]))),[]⟩ [.B y])) (fun y=>some (.exit 0,SSt.mk' ⟨(uu 27 ([])),[]⟩ []))):=by kernel_rfl
theorem m_Z40_ok:∀ n,(m_Z40 (n_Z40 n)).ok Try.prog (JC (Jx Try.f22) 4):=by
 intro n
 induction n with
 | zero=>
  intro R ds k r h
  unfold m_Z40 at h
  obtain ⟨_,_,rfl,h⟩:=Jf h
  obtain ⟨_,_,rfl,h⟩:=Jf h
  obtain ⟨_,_,rfl,h⟩:=Jg h
  obtain ⟨rfl,hE⟩:=Jm h
  obtain ⟨y,hy,hk⟩:=Jn hE
  cases hy
 | succ n ih=>
  intro R ds k r h
  unfold m_Z40 at h
  obtain ⟨_,_,rfl,h⟩:=Jf h
  obtain ⟨_,_,rfl,h⟩:=Jf h
  obtain ⟨_,_,rfl,h⟩:=Jg h
  obtain ⟨rfl,hE⟩:=Jm h
  obtain ⟨y,hy,hk⟩:=Jn hE
  cases y with
  | inl y=>
   exact ⟨0,_,_,_,hk,rfl,Qt px (fx:=⟨Try.func22,by kernel_rfl,by kernel_rfl⟩) (Qh e_Z39_ok JI) (JT ih JJ) (by kernel_rfl) ((q_Z40 ..).trans ((c_Z40_bind ..).trans (Jt hy)))⟩
  | inr y=>
   exact ⟨1,_,_,_,hk,rfl,Qt px (fx:=⟨Try.func22,by kernel_rfl,by kernel_rfl⟩) (Qh e_Z39_ok JI) (JT ih JJ) (by kernel_rfl) ((q_Z40 ..).trans ((c_Z40_bind ..).trans (Jt hy)))⟩
noncomputable def e_Z40:JS:=m_Z40 (Z40)
theorem e_Z40_ok:(e_Z40).ok Try.prog (JC (Jx Try.f22) 4):=by
 intro R ds k r h
 unfold e_Z40 m_Z40 at h
 obtain ⟨_,_,rfl,h⟩:=Jf h
 obtain ⟨_,_,rfl,h⟩:=Jf h
 obtain ⟨_,_,rfl,h⟩:=Jg h
 obtain ⟨rfl,hE⟩:=Jm h
 obtain ⟨y,hy,hk⟩:=Jn hE
 obtain ⟨n,hn⟩:=QR hy
 exact m_Z40_ok n R _ k r ((Jt hn).trans hk)

/-!-/
def c_Z41 {R:Type} (x0 x1:List D) (k:Bool→Option R):Option R:=
 bif !decide ((↑x0.length:Int)=(↑x1.length:Int)) then
 k Bool.false
 else
 (Z40 x0 x1 (0:Int)).bind (Sum.elim (fun y0=>
 k y0) (fun y1=>
 k Bool.true))
theorem c_Z41_bind {R:Type} (x0 x1:List D) (k:Bool→Option R):c_Z41 x0 x1 k=(c_Z41 x0 x1 some).bind k:=by
 unfold c_Z41
 repeat' first
  | exact J0
  | exact JZ
  | exact JY
  | apply JV
  | apply JW
  | apply J1
  | (apply JX;intro _)
  | intro _
def Z41 (x0 x1:List D):Option (Bool):=c_Z41 x0 x1 some
def e_Z41:Ent:=⟨22,[.rd (.slice (.int .i64)),.rd (.slice (.int .i64))],[(.bool,[.undef,.undef])],fun _ ds k=>dL (fun x0 ds=>dL (fun x1 ds=>dE ((Z41 x0 x1).bind (fun y=>k 0 [.B y])) ds) ds) ds⟩
theorem q_Z41 (x0 x1:List D):Qs (JM []) (JN [e_Z40]) A 22 Try.f22 (Sh.mks e_Z41.sh [.L x0,.L x1]).1 (fun v os=>some (v,os))=c_Z41 x0 x1 (fun y=>QA e_Z41 0 [.B y]):=by kernel_rfl
theorem e_Z41_ok:e_Z41.ok Try.prog A:=by
 intro R ds k r h
 unfold e_Z41 at h
 obtain ⟨_,_,rfl,h⟩:=Jf h
 obtain ⟨_,_,rfl,h⟩:=Jf h
 obtain ⟨rfl,hE⟩:=Jm h
 obtain ⟨y,hy,hk⟩:=Jn hE
 exact ⟨0,_,_,_,hk,rfl,QB px (fx:=⟨Try.func22,by kernel_rfl,by kernel_rfl⟩) JI (JT e_Z40_ok JJ) ((q_Z41 ..).trans ((c_Z41_bind ..).trans (Jt hy)))⟩

/-!-/
def c_Z42 {R:Type} (x0 x1 x2 x3 x4 x5 x6 x7:Int) (k:Bool→Option R):Option R:=
 bif !decide (x0=x4) then
 k Bool.false
 else
 bif !decide (x1=x5) then
 k Bool.false
 else
 bif !decide (x2=x6) then
 k Bool.false
 else
 bif !decide (x3=x7) then
 k Bool.false
 else
 k Bool.true
theorem c_Z42_bind {R:Type} (x0 x1 x2 x3 x4 x5 x6 x7:Int) (k:Bool→Option R):c_Z42 x0 x1 x2 x3 x4 x5 x6 x7 k=(c_Z42 x0 x1 x2 x3 x4 x5 x6 x7 some).bind k:=by
 unfold c_Z42
 repeat' first
  | exact J0
  | exact JZ
  | exact JY
  | apply JV
  | apply JW
  | apply J1
  | (apply JX;intro _)
  | intro _
def Z42 (x0 x1 x2 x3 x4 x5 x6 x7:Int):Option (Bool):=c_Z42 x0 x1 x2 x3 x4 x5 x6 x7 some
def e_Z42:Ent:=⟨52,[.agg [.int .i64,.int .i64,.int .i64,.int .i64],.agg [.int .i64,.int .i64,.int .i64,.int .i64]],[(.bool,[.undef,.undef])],fun _ ds k=>dI (fun x0 ds=>dI (fun x1 ds=>dI (fun x2 ds=>dI (fun x3 ds=>dI (fun x4 ds=>dI (fun x5 ds=>dI (fun x6 ds=>dI (fun x7 ds=>dE ((Z42 x0 x1 x2 x3 x4 x5 x6 x7).bind (fun y=>k 0 [.B y])) ds) ds) ds) ds) ds) ds) ds) ds) ds⟩
theorem q_Z42 (x0 x1 x2 x3 x4 x5 x6 x7:Int):Qs (JM []) (JN []) A 52 Try.f52 (Sh.mks e_Z42.sh [.I x0,.I x1,.I x2,.I x3,.I x4,.I x5,.I x6,.I x7]).1 (fun v os=>some (v,os))=c_Z42 x0 x1 x2 x3 x4 x5 x6 x7 (fun y=>QA e_Z42 0 [.B y]):=by kernel_rfl
theorem e_Z42_ok:e_Z42.ok Try.prog A:=by
 intro R ds k r h
 unfold e_Z42 at h
 obtain ⟨_,_,rfl,h⟩:=Jg h
 obtain ⟨_,_,rfl,h⟩:=Jg h
 obtain ⟨_,_,rfl,h⟩:=Jg h
 obtain ⟨_,_,rfl,h⟩:=Jg h
 obtain ⟨_,_,rfl,h⟩:=Jg h
 obtain ⟨_,_,rfl,h⟩:=Jg h
 obtain ⟨_,_,rfl,h⟩:=Jg h
 obtain ⟨_,_,rfl,h⟩:=Jg h
 obtain ⟨rfl,hE⟩:=Jm h
 obtain ⟨y,hy,hk⟩:=Jn hE
 exact ⟨0,_,_,_,hk,rfl,QB px (fx:=⟨Try.func52,by kernel_rfl,by kernel_rfl⟩) JI JJ ((q_Z42 ..).trans ((c_Z42_bind ..).trans (Jt hy)))⟩

/-!-/
abbrev T_Z43:=List D→List D→Int→Option ((Bool)⊕(Unit))
def c_Z43 {R:Type} (F:T_Z43) (x0 x1:List D) (x2:Int) (k:(Bool)⊕(Unit)→Option R):Option R:=
 bif decide (x2<(↑x0.length:Int)) then
 if 0≤x2∧x2<(↑x0.length:Int) then
 if 0≤x2∧x2<(↑x1.length:Int) then
 (Z42 (((x0.getD x2.toNat (D.int 0)).fld (0:Nat)).toInt) (((x0.getD x2.toNat (D.int 0)).fld (1:Nat)).toInt) (((x0.getD x2.toNat (D.int 0)).fld (2:Nat)).toInt) (((x0.getD x2.toNat (D.int 0)).fld (3:Nat)).toInt) (((x1.getD x2.toNat (D.int 0)).fld (0:Nat)).toInt) (((x1.getD x2.toNat (D.int 0)).fld (1:Nat)).toInt) (((x1.getD x2.toNat (D.int 0)).fld (2:Nat)).toInt) (((x1.getD x2.toNat (D.int 0)).fld (3:Nat)).toInt)).bind (fun y0=>
 bif !y0 then
 k (.inl Bool.false)
 else
 (F x0 x1 (IntKind.i64.wrap (x2+1))).bind k)
 else
 none
 else
 none
 else
 k (.inr ())
theorem c_Z43_bind {R:Type} (F:T_Z43) (x0 x1:List D) (x2:Int) (k:(Bool)⊕(Unit)→Option R):c_Z43 F x0 x1 x2 k=(c_Z43 F x0 x1 x2 some).bind k:=by
 unfold c_Z43
 repeat' first
  | exact J0
  | exact JZ
  | exact JY
  | apply JV
  | apply JW
  | apply J1
  | (apply JX;intro _)
  | intro _
def n_Z43:Nat→T_Z43
 | 0,_,_,_=>none
 | n+1,x0,x1,x2=>c_Z43 (n_Z43 n) x0 x1 x2 some
noncomputable def Z43 (x0 x1:List D) (x2:Int):Option ((Bool)⊕(Unit)):=ev (fun n=>n_Z43 n x0 x1 x2)
def m_Z43 (F:T_Z43):JS:=⟨4,⟨(.rd (.struct [.int .i64,.int .i64,.int .i64,.int .i64])::.rd (.struct [.int .i64,.int .i64,.int .i64,.int .i64])::.undef::.undef::.undef::.int .i64::uu 21 ([])),[]⟩,[(.ret,⟨(uu 4 (.bool::uu 22 ([]))),[]⟩),(.exit 0,⟨(uu 27 ([])),[]⟩)],fun _ ds k=>dL (fun x0 ds=>dL (fun x1 ds=>dI (fun x2 ds=>dE ((F x0 x1 x2).bind (Sum.elim (fun y=>k 0 [.B y]) (fun y=>k 1 []))) ds) ds) ds) ds⟩
theorem q_Z43 (F:T_Z43) (x0 x1:List D) (x2:Int):QM (JM [e_Z42]) (JN [m_Z43 F]) A 14 (JC (Jx Try.f14) 4) ((m_Z43 F).sh.mk' [.L x0,.L x1,.I x2]) (fun e σ'=>some (e,σ'))=c_Z43 F x0 x1 x2 (Sum.elim (fun y=>some (.ret,SSt.mk' ⟨(uu 4 (.bool::uu 22 ([]))),[]⟩ [.B y])) (fun y=>some (.exit 0,SSt.mk' ⟨(uu 27 ([])),[]⟩ []))):=by kernel_rfl
theorem m_Z43_ok:∀ n,(m_Z43 (n_Z43 n)).ok Try.prog (JC (Jx Try.f14) 4):=by
 intro n
 induction n with
 | zero=>
  intro R ds k r h
  unfold m_Z43 at h
  obtain ⟨_,_,rfl,h⟩:=Jf h
  obtain ⟨_,_,rfl,h⟩:=Jf h
  obtain ⟨_,_,rfl,h⟩:=Jg h
  obtain ⟨rfl,hE⟩:=Jm h
  obtain ⟨y,hy,hk⟩:=Jn hE
  cases hy
 | succ n ih=>
  intro R ds k r h
  unfold m_Z43 at h
  obtain ⟨_,_,rfl,h⟩:=Jf h
  obtain ⟨_,_,rfl,h⟩:=Jf h
  obtain ⟨_,_,rfl,h⟩:=Jg h
  obtain ⟨rfl,hE⟩:=Jm h
  obtain ⟨y,hy,hk⟩:=Jn hE
  cases y with
  | inl y=>
   exact ⟨0,_,_,_,hk,rfl,Qt px (fx:=⟨Try.func14,by kernel_rfl,by kernel_rfl⟩) (Qh e_Z42_ok JI) (JT ih JJ) (by kernel_rfl) ((q_Z43 ..).trans ((c_Z43_bind ..).trans (Jt hy)))⟩
  | inr y=>
   exact ⟨1,_,_,_,hk,rfl,Qt px (fx:=⟨Try.func14,by kernel_rfl,by kernel_rfl⟩) (Qh e_Z42_ok JI) (JT ih JJ) (by kernel_rfl) ((q_Z43 ..).trans ((c_Z43_bind ..).trans (Jt hy)))⟩
noncomputable def e_Z43:JS:=m_Z43 (Z43)
theorem e_Z43_ok:(e_Z43).ok Try.prog (JC (Jx Try.f14) 4):=by
 intro R ds k r h
 unfold e_Z43 m_Z43 at h
 obtain ⟨_,_,rfl,h⟩:=Jf h
 obtain ⟨_,_,rfl,h⟩:=Jf h
 obtain ⟨_,_,rfl,h⟩:=Jg h
 obtain ⟨rfl,hE⟩:=Jm h
 obtain ⟨y,hy,hk⟩:=Jn hE
 obtain ⟨n,hn⟩:=QR hy
 exact m_Z43_ok n R _ k r ((Jt hn).trans hk)

/-!-/
def c_Z44 {R:Type} (x0 x1:List D) (k:Bool→Option R):Option R:=
 bif !decide ((↑x0.length:Int)=(↑x1.length:Int)) then
 k Bool.false
 else
 (Z43 x0 x1 (0:Int)).bind (Sum.elim (fun y0=>
 k y0) (fun y1=>
 k Bool.true))
theorem c_Z44_bind {R:Type} (x0 x1:List D) (k:Bool→Option R):c_Z44 x0 x1 k=(c_Z44 x0 x1 some).bind k:=by
 unfold c_Z44
 repeat' first
  | exact J0
  | exact JZ
  | exact JY
  | apply JV
  | apply JW
  | apply J1
  | (apply JX;intro _)
  | intro _
def Z44 (x0 x1:List D):Option (Bool):=c_Z44 x0 x1 some
def e_Z44:Ent:=⟨14,[.rd (.struct [.int .i64,.int .i64,.int .i64,.int .i64]),.rd (.struct [.int .i64,.int .i64,.int .i64,.int .i64])],[(.bool,[.undef,.undef])],fun _ ds k=>dL (fun x0 ds=>dL (fun x1 ds=>dE ((Z44 x0 x1).bind (fun y=>k 0 [.B y])) ds) ds) ds⟩
theorem q_Z44 (x0 x1:List D):Qs (JM []) (JN [e_Z43]) A 14 Try.f14 (Sh.mks e_Z44.sh [.L x0,.L x1]).1 (fun v os=>some (v,os))=c_Z44 x0 x1 (fun y=>QA e_Z44 0 [.B y]):=by kernel_rfl
theorem e_Z44_ok:e_Z44.ok Try.prog A:=by
 intro R ds k r h
 unfold e_Z44 at h
 obtain ⟨_,_,rfl,h⟩:=Jf h
 obtain ⟨_,_,rfl,h⟩:=Jf h
 obtain ⟨rfl,hE⟩:=Jm h
 obtain ⟨y,hy,hk⟩:=Jn hE
 exact ⟨0,_,_,_,hk,rfl,QB px (fx:=⟨Try.func14,by kernel_rfl,by kernel_rfl⟩) JI (JT e_Z43_ok JJ) ((q_Z44 ..).trans ((c_Z44_bind ..).trans (Jt hy)))⟩

/-!-/
def c_Z45 {R:Type} (x0 x1 x2 x3:Int) (k:Bool→Option R):Option R:=
 bif !decide (x0=x2) then
 k Bool.false
 else
 bif !decide (x1=x3) then
 k Bool.false
 else
 k Bool.true
theorem c_Z45_bind {R:Type} (x0 x1 x2 x3:Int) (k:Bool→Option R):c_Z45 x0 x1 x2 x3 k=(c_Z45 x0 x1 x2 x3 some).bind k:=by
 unfold c_Z45
 repeat' first
  | exact J0
  | exact JZ
  | exact JY
  | apply JV
  | apply JW
  | apply J1
  | (apply JX;intro _)
  | intro _
def Z45 (x0 x1 x2 x3:Int):Option (Bool):=c_Z45 x0 x1 x2 x3 some
def e_Z45:Ent:=⟨57,[.agg [.int .i64,.int .i64],.agg [.int .i64,.int .i64]],[(.bool,[.undef,.undef])],fun _ ds k=>dI (fun x0 ds=>dI (fun x1 ds=>dI (fun x2 ds=>dI (fun x3 ds=>dE ((Z45 x0 x1 x2 x3).bind (fun y=>k 0 [.B y])) ds) ds) ds) ds) ds⟩
theorem q_Z45 (x0 x1 x2 x3:Int):Qs (JM []) (JN []) A 57 Try.f57 (Sh.mks e_Z45.sh [.I x0,.I x1,.I x2,.I x3]).1 (fun v os=>some (v,os))=c_Z45 x0 x1 x2 x3 (fun y=>QA e_Z45 0 [.B y]):=by kernel_rfl
theorem e_Z45_ok:e_Z45.ok Try.prog A:=by
 intro R ds k r h
 unfold e_Z45 at h
 obtain ⟨_,_,rfl,h⟩:=Jg h
 obtain ⟨_,_,rfl,h⟩:=Jg h
 obtain ⟨_,_,rfl,h⟩:=Jg h
 obtain ⟨_,_,rfl,h⟩:=Jg h
 obtain ⟨rfl,hE⟩:=Jm h
 obtain ⟨y,hy,hk⟩:=Jn hE
 exact ⟨0,_,_,_,hk,rfl,QB px (fx:=⟨Try.func57,by kernel_rfl,by kernel_rfl⟩) JI JJ ((q_Z45 ..).trans ((c_Z45_bind ..).trans (Jt hy)))⟩

/-!-/
abbrev T_Z46:=List D→List D→Int→Option ((Bool)⊕(Unit))
def c_Z46 {R:Type} (F:T_Z46) (x0 x1:List D) (x2:Int) (k:(Bool)⊕(Unit)→Option R):Option R:=
 bif decide (x2<(↑x0.length:Int)) then
 if 0≤x2∧x2<(↑x0.length:Int) then
 if 0≤x2∧x2<(↑x1.length:Int) then
 (Z45 (((x0.getD x2.toNat (D.int 0)).fld (0:Nat)).toInt) (((x0.getD x2.toNat (D.int 0)).fld (1:Nat)).toInt) (((x1.getD x2.toNat (D.int 0)).fld (0:Nat)).toInt) (((x1.getD x2.toNat (D.int 0)).fld (1:Nat)).toInt)).bind (fun y0=>
 bif !y0 then
 k (.inl Bool.false)
 else
 (F x0 x1 (IntKind.i64.wrap (x2+1))).bind k)
 else
 none
 else
 none
 else
 k (.inr ())
theorem c_Z46_bind {R:Type} (F:T_Z46) (x0 x1:List D) (x2:Int) (k:(Bool)⊕(Unit)→Option R):c_Z46 F x0 x1 x2 k=(c_Z46 F x0 x1 x2 some).bind k:=by
 unfold c_Z46
 repeat' first
  | exact J0
  | exact JZ
  | exact JY
  | apply JV
  | apply JW
  | apply J1
  | (apply JX;intro _)
  | intro _
def n_Z46:Nat→T_Z46
 | 0,_,_,_=>none
 | n+1,x0,x1,x2=>c_Z46 (n_Z46 n) x0 x1 x2 some
noncomputable def Z46 (x0 x1:List D) (x2:Int):Option ((Bool)⊕(Unit)):=ev (fun n=>n_Z46 n x0 x1 x2)
def m_Z46 (F:T_Z46):JS:=⟨4,⟨(.rd (.struct [.int .i64,.int .i64])::.rd (.struct [.int .i64,.int .i64])::.undef::.undef::.undef::.int .i64::uu 21 ([])),[]⟩,[(.ret,⟨(uu 4 (.bool::uu 22 ([]))),[]⟩),(.exit 0,⟨(uu 27 ([])),[]⟩)],fun _ ds k=>dL (fun x0 ds=>dL (fun x1 ds=>dI (fun x2 ds=>dE ((F x0 x1 x2).bind (Sum.elim (fun y=>k 0 [.B y]) (fun y=>k 1 []))) ds) ds) ds) ds⟩
theorem q_Z46 (F:T_Z46) (x0 x1:List D) (x2:Int):QM (JM [e_Z45]) (JN [m_Z46 F]) A 19 (JC (Jx Try.f19) 4) ((m_Z46 F).sh.mk' [.L x0,.L x1,.I x2]) (fun e σ'=>some (e,σ'))=c_Z46 F x0 x1 x2 (Sum.elim (fun y=>some (.ret,SSt.mk' ⟨(uu 4 (.bool::uu 22 ([]))),[]⟩ [.B y])) (fun y=>some (.exit 0,SSt.mk' ⟨(uu 27 ([])),[]⟩ []))):=by kernel_rfl
theorem m_Z46_ok:∀ n,(m_Z46 (n_Z46 n)).ok Try.prog (JC (Jx Try.f19) 4):=by
 intro n
 induction n with
 | zero=>
  intro R ds k r h
  unfold m_Z46 at h
  obtain ⟨_,_,rfl,h⟩:=Jf h
  obtain ⟨_,_,rfl,h⟩:=Jf h
  obtain ⟨_,_,rfl,h⟩:=Jg h
  obtain ⟨rfl,hE⟩:=Jm h
  obtain ⟨y,hy,hk⟩:=Jn hE
  cases hy
 | succ n ih=>
  intro R ds k r h
  unfold m_Z46 at h
  obtain ⟨_,_,rfl,h⟩:=Jf h
  obtain ⟨_,_,rfl,h⟩:=Jf h
  obtain ⟨_,_,rfl,h⟩:=Jg h
  obtain ⟨rfl,hE⟩:=Jm h
  obtain ⟨y,hy,hk⟩:=Jn hE
  cases y with
  | inl y=>
   exact ⟨0,_,_,_,hk,rfl,Qt px (fx:=⟨Try.func19,by kernel_rfl,by kernel_rfl⟩) (Qh e_Z45_ok JI) (JT ih JJ) (by kernel_rfl) ((q_Z46 ..).trans ((c_Z46_bind ..).trans (Jt hy)))⟩
  | inr y=>
   exact ⟨1,_,_,_,hk,rfl,Qt px (fx:=⟨Try.func19,by kernel_rfl,by kernel_rfl⟩) (Qh e_Z45_ok JI) (JT ih JJ) (by kernel_rfl) ((q_Z46 ..).trans ((c_Z46_bind ..).trans (Jt hy)))⟩
noncomputable def e_Z46:JS:=m_Z46 (Z46)
theorem e_Z46_ok:(e_Z46).ok Try.prog (JC (Jx Try.f19) 4):=by
 intro R ds k r h
 unfold e_Z46 m_Z46 at h
 obtain ⟨_,_,rfl,h⟩:=Jf h
 obtain ⟨_,_,rfl,h⟩:=Jf h
 obtain ⟨_,_,rfl,h⟩:=Jg h
 obtain ⟨rfl,hE⟩:=Jm h
 obtain ⟨y,hy,hk⟩:=Jn hE
 obtain ⟨n,hn⟩:=QR hy
 exact m_Z46_ok n R _ k r ((Jt hn).trans hk)

/-!-/
def c_Z47 {R:Type} (x0 x1:List D) (k:Bool→Option R):Option R:=
 bif !decide ((↑x0.length:Int)=(↑x1.length:Int)) then
 k Bool.false
 else
 (Z46 x0 x1 (0:Int)).bind (Sum.elim (fun y0=>
 k y0) (fun y1=>
 k Bool.true))
theorem c_Z47_bind {R:Type} (x0 x1:List D) (k:Bool→Option R):c_Z47 x0 x1 k=(c_Z47 x0 x1 some).bind k:=by
 unfold c_Z47
 repeat' first
  | exact J0
  | exact JZ
  | exact JY
  | apply JV
  | apply JW
  | apply J1
  | (apply JX;intro _)
  | intro _
def Z47 (x0 x1:List D):Option (Bool):=c_Z47 x0 x1 some
def e_Z47:Ent:=⟨19,[.rd (.struct [.int .i64,.int .i64]),.rd (.struct [.int .i64,.int .i64])],[(.bool,[.undef,.undef])],fun _ ds k=>dL (fun x0 ds=>dL (fun x1 ds=>dE ((Z47 x0 x1).bind (fun y=>k 0 [.B y])) ds) ds) ds⟩
theorem q_Z47 (x0 x1:List D):Qs (JM []) (JN [e_Z46]) A 19 Try.f19 (Sh.mks e_Z47.sh [.L x0,.L x1]).1 (fun v os=>some (v,os))=c_Z47 x0 x1 (fun y=>QA e_Z47 0 [.B y]):=by kernel_rfl
theorem e_Z47_ok:e_Z47.ok Try.prog A:=by
 intro R ds k r h
 unfold e_Z47 at h
 obtain ⟨_,_,rfl,h⟩:=Jf h
 obtain ⟨_,_,rfl,h⟩:=Jf h
 obtain ⟨rfl,hE⟩:=Jm h
 obtain ⟨y,hy,hk⟩:=Jn hE
 exact ⟨0,_,_,_,hk,rfl,QB px (fx:=⟨Try.func19,by kernel_rfl,by kernel_rfl⟩) JI (JT e_Z46_ok JJ) ((q_Z47 ..).trans ((c_Z47_bind ..).trans (Jt hy)))⟩

/-!-/
abbrev T_Z48:=Int→Int→List D→Option (Int×List D)
def c_Z48 {R:Type} (F:T_Z48) (x0 x1:Int) (x2:List D) (k:Int×List D→Option R):Option R:=
 bif decide (x1<(↑x2.length:Int)) then
 if 0≤x1∧x1<(↑x2.length:Int) then
 if x1.toNat+1≤x2.length then
 if x1.toNat+1≤x2.length then
 Z0 (x2.set x1.toNat (D.node [D.int x0,D.int ((x2.getD x1.toNat (D.int 0)).fld (1:Nat)).toInt,D.int ((x2.getD x1.toNat (D.int 0)).fld (2:Nat)).toInt,D.int ((x2.getD x1.toNat (D.int 0)).fld (3:Nat)).toInt])) (fun s1=>
 if 0≤x1∧x1<(↑s1.length:Int) then
 if x1.toNat+1≤s1.length then
 if x1.toNat+1≤s1.length then
 Z0 (s1.set x1.toNat (D.node [D.int ((s1.getD x1.toNat (D.int 0)).fld (0:Nat)).toInt,D.int (IntKind.i64.wrap (x0+1)),D.int ((s1.getD x1.toNat (D.int 0)).fld (2:Nat)).toInt,D.int ((s1.getD x1.toNat (D.int 0)).fld (3:Nat)).toInt])) (fun s2=>
 if 0≤x1∧x1<(↑s2.length:Int) then
 if x1.toNat+1≤s2.length then
 if x1.toNat+1≤s2.length then
 Z0 (s2.set x1.toNat (D.node [D.int ((s2.getD x1.toNat (D.int 0)).fld (0:Nat)).toInt,D.int ((s2.getD x1.toNat (D.int 0)).fld (1:Nat)).toInt,D.int (IntKind.i64.wrap (IntKind.i64.wrap (x0+1)+(1:Int))),D.int ((s2.getD x1.toNat (D.int 0)).fld (3:Nat)).toInt])) (fun s3=>
 if 0≤x1∧x1<(↑s3.length:Int) then
 if x1.toNat+1≤s3.length then
 if x1.toNat+1≤s3.length then
 (F (IntKind.i64.wrap (IntKind.i64.wrap (IntKind.i64.wrap (IntKind.i64.wrap (x0+1)+(1:Int))+(1:Int))+(1:Int))) (IntKind.i64.wrap (x1+1)) (s3.set x1.toNat (D.node [D.int ((s3.getD x1.toNat (D.int 0)).fld (0:Nat)).toInt,D.int ((s3.getD x1.toNat (D.int 0)).fld (1:Nat)).toInt,D.int ((s3.getD x1.toNat (D.int 0)).fld (2:Nat)).toInt,D.int (IntKind.i64.wrap (IntKind.i64.wrap (IntKind.i64.wrap (x0+1)+(1:Int))+(1:Int)))]))).bind k
 else
 none
 else
 none
 else
 none)
 else
 none
 else
 none
 else
 none)
 else
 none
 else
 none
 else
 none)
 else
 none
 else
 none
 else
 none
 else
 k (x0,x2)
theorem c_Z48_bind {R:Type} (F:T_Z48) (x0 x1:Int) (x2:List D) (k:Int×List D→Option R):c_Z48 F x0 x1 x2 k=(c_Z48 F x0 x1 x2 some).bind k:=by
 unfold c_Z48
 repeat' first
  | exact J0
  | exact JZ
  | exact JY
  | apply JV
  | apply bnd_lt
  | apply JW
  | apply J1
  | (apply JX;intro _)
  | intro _
def n_Z48:Nat→T_Z48
 | 0,_,_,_=>none
 | n+1,x0,x1,x2=>c_Z48 (n_Z48 n) x0 x1 x2 some
noncomputable def Z48 (x0 x1:Int) (x2:List D):Option (Int×List D):=ev (fun n=>n_Z48 n x0 x1 x2)
def m_Z48 (F:T_Z48):JS:=⟨2,⟨(.full 1000 [] (.struct [.int .i64,.int .i64,.int .i64,.int .i64])::.int .i64::.undef::.undef::.undef::.int .i64::uu 35 ([])),[(1000,.own (.struct [.int .i64,.int .i64,.int .i64,.int .i64]))]⟩,[(.exit 0,⟨(.full 1000 [] (.struct [.int .i64,.int .i64,.int .i64,.int .i64])::.int .i64::uu 39 ([])),[(1000,.own (.struct [.int .i64,.int .i64,.int .i64,.int .i64]))]⟩)],fun _ ds k=>dI (fun x0 ds=>dI (fun x1 ds=>dL (fun x2 ds=>dE ((F x0 x1 x2).bind (fun y=>k 0 [.I y.1,.L y.2])) ds) ds) ds) ds⟩
theorem q_Z48 (F:T_Z48) (x0 x1:Int) (x2:List D):QM (JM []) (JN [m_Z48 F]) A 23 (JC (Jx Try.f23) 2) ((m_Z48 F).sh.mk' [.I x0,.I x1,.L x2]) (fun e σ'=>some (e,σ'))=c_Z48 F x0 x1 x2 (fun y=>some (.exit 0,SSt.mk' ⟨(.full 1000 [] (.struct [.int .i64,.int .i64,.int .i64,.int .i64])::.int .i64::uu 39 ([])),[(1000,.own (.struct [.int .i64,.int .i64,.int .i64,.int .i64]))]⟩ [.I y.1,.L y.2])):=by kernel_rfl
theorem m_Z48_ok:∀ n,(m_Z48 (n_Z48 n)).ok Try.prog (JC (Jx Try.f23) 2):=by
 intro n
 induction n with
 | zero=>
  intro R ds k r h
  unfold m_Z48 at h
  obtain ⟨_,_,rfl,h⟩:=Jg h
  obtain ⟨_,_,rfl,h⟩:=Jg h
  obtain ⟨_,_,rfl,h⟩:=Jf h
  obtain ⟨rfl,hE⟩:=Jm h
  obtain ⟨y,hy,hk⟩:=Jn hE
  cases hy
 | succ n ih=>
  intro R ds k r h
  unfold m_Z48 at h
  obtain ⟨_,_,rfl,h⟩:=Jg h
  obtain ⟨_,_,rfl,h⟩:=Jg h
  obtain ⟨_,_,rfl,h⟩:=Jf h
  obtain ⟨rfl,hE⟩:=Jm h
  obtain ⟨y,hy,hk⟩:=Jn hE
  exact ⟨0,_,_,_,hk,rfl,Qt px (fx:=⟨Try.func23,by kernel_rfl,by kernel_rfl⟩) JI (JT ih JJ) (by kernel_rfl) ((q_Z48 ..).trans ((c_Z48_bind ..).trans (Jt hy)))⟩
noncomputable def e_Z48:JS:=m_Z48 (Z48)
theorem e_Z48_ok:(e_Z48).ok Try.prog (JC (Jx Try.f23) 2):=by
 intro R ds k r h
 unfold e_Z48 m_Z48 at h
 obtain ⟨_,_,rfl,h⟩:=Jg h
 obtain ⟨_,_,rfl,h⟩:=Jg h
 obtain ⟨_,_,rfl,h⟩:=Jf h
 obtain ⟨rfl,hE⟩:=Jm h
 obtain ⟨y,hy,hk⟩:=Jn hE
 obtain ⟨n,hn⟩:=QR hy
 exact m_Z48_ok n R _ k r ((Jt hn).trans hk)

/-!-/
def c_Z49 {R:Type} (x0:List D) (x1:Int) (k:Int×List D→Option R):Option R:=
 (Z48 x1 (0:Int) x0).bind (fun y0=>
 k (y0.fst,y0.snd))
theorem c_Z49_bind {R:Type} (x0:List D) (x1:Int) (k:Int×List D→Option R):c_Z49 x0 x1 k=(c_Z49 x0 x1 some).bind k:=by
 unfold c_Z49
 repeat' first
  | exact J0
  | exact JZ
  | exact JY
  | apply JV
  | apply JW
  | apply J1
  | (apply JX;intro _)
  | intro _
def Z49 (x0:List D) (x1:Int):Option (Int×List D):=c_Z49 x0 x1 some
def e_Z49:Ent:=⟨23,[.own (.struct [.int .i64,.int .i64,.int .i64,.int .i64]),.int .i64],[(.int .i64,[.own (.struct [.int .i64,.int .i64,.int .i64,.int .i64]),.undef])],fun _ ds k=>dL (fun x0 ds=>dI (fun x1 ds=>dE ((Z49 x0 x1).bind (fun y=>k 0 [.I y.1,.L y.2])) ds) ds) ds⟩
theorem q_Z49 (x0:List D) (x1:Int):Qs (JM []) (JN [e_Z48]) A 23 Try.f23 (Sh.mks e_Z49.sh [.L x0,.I x1]).1 (fun v os=>some (v,os))=c_Z49 x0 x1 (fun y=>QA e_Z49 0 [.I y.1,.L y.2]):=by kernel_rfl
theorem e_Z49_ok:e_Z49.ok Try.prog A:=by
 intro R ds k r h
 unfold e_Z49 at h
 obtain ⟨_,_,rfl,h⟩:=Jf h
 obtain ⟨_,_,rfl,h⟩:=Jg h
 obtain ⟨rfl,hE⟩:=Jm h
 obtain ⟨y,hy,hk⟩:=Jn hE
 exact ⟨0,_,_,_,hk,rfl,QB px (fx:=⟨Try.func23,by kernel_rfl,by kernel_rfl⟩) JI (JT e_Z48_ok JJ) ((q_Z49 ..).trans ((c_Z49_bind ..).trans (Jt hy)))⟩

/-!-/
abbrev T_Z50:=Int→Int→List D→Option (Int×List D)
def c_Z50 {R:Type} (F:T_Z50) (x0 x1:Int) (x2:List D) (k:Int×List D→Option R):Option R:=
 bif decide (x1<(↑x2.length:Int)) then
 if 0≤x1∧x1<(↑x2.length:Int) then
 if x1.toNat+1≤x2.length then
 if x1.toNat+1≤x2.length then
 if 0≤x1∧x1<(↑(x2.set x1.toNat (D.node [D.int x0,D.int ((x2.getD x1.toNat (D.int 0)).fld (1:Nat)).toInt])).length:Int) then
 if x1.toNat+1≤(x2.set x1.toNat (D.node [D.int x0,D.int ((x2.getD x1.toNat (D.int 0)).fld (1:Nat)).toInt])).length then
 if x1.toNat+1≤(x2.set x1.toNat (D.node [D.int x0,D.int ((x2.getD x1.toNat (D.int 0)).fld (1:Nat)).toInt])).length then
 (F (IntKind.i64.wrap (IntKind.i64.wrap (x0+1)+(1:Int))) (IntKind.i64.wrap (x1+1)) ((x2.set x1.toNat (D.node [D.int x0,D.int ((x2.getD x1.toNat (D.int 0)).fld (1:Nat)).toInt])).set x1.toNat (D.node [D.int (((x2.set x1.toNat (D.node [D.int x0,D.int ((x2.getD x1.toNat (D.int 0)).fld (1:Nat)).toInt])).getD x1.toNat (D.int 0)).fld (0:Nat)).toInt,D.int (IntKind.i64.wrap (x0+1))]))).bind k
 else
 none
 else
 none
 else
 none
 else
 none
 else
 none
 else
 none
 else
 k (x0,x2)
theorem c_Z50_bind {R:Type} (F:T_Z50) (x0 x1:Int) (x2:List D) (k:Int×List D→Option R):c_Z50 F x0 x1 x2 k=(c_Z50 F x0 x1 x2 some).bind k:=by
 unfold c_Z50
 repeat' first
  | exact J0
  | exact JZ
  | exact JY
  | apply JV
  | apply JW
  | apply J1
  | (apply JX;intro _)
  | intro _
def n_Z50:Nat→T_Z50
 | 0,_,_,_=>none
 | n+1,x0,x1,x2=>c_Z50 (n_Z50 n) x0 x1 x2 some
noncomputable def Z50 (x0 x1:Int) (x2:List D):Option (Int×List D):=ev (fun n=>n_Z50 n x0 x1 x2)
def m_Z50 (F:T_Z50):JS:=⟨2,⟨(.full 1000 [] (.struct [.int .i64,.int .i64])::.int .i64::.undef::.undef::.undef::.int .i64::uu 21 ([])),[(1000,.own (.struct [.int .i64,.int .i64]))]⟩,[(.exit 0,⟨(.full 1000 [] (.struct [.int .i64,.int .i64])::.int .i64::uu 25 ([])),[(1000,.own (.struct [.int .i64,.int .i64]))]⟩)],fun _ ds k=>dI (fun x0 ds=>dI (fun x1 ds=>dL (fun x2 ds=>dE ((F x0 x1 x2).bind (fun y=>k 0 [.I y.1,.L y.2])) ds) ds) ds) ds⟩
theorem q_Z50 (F:T_Z50) (x0 x1:Int) (x2:List D):QM (JM []) (JN [m_Z50 F]) A 24 (JC (Jx Try.f24) 2) ((m_Z50 F).sh.mk' [.I x0,.I x1,.L x2]) (fun e σ'=>some (e,σ'))=c_Z50 F x0 x1 x2 (fun y=>some (.exit 0,SSt.mk' ⟨(.full 1000 [] (.struct [.int .i64,.int .i64])::.int .i64::uu 25 ([])),[(1000,.own (.struct [.int .i64,.int .i64]))]⟩ [.I y.1,.L y.2])):=by kernel_rfl
theorem m_Z50_ok:∀ n,(m_Z50 (n_Z50 n)).ok Try.prog (JC (Jx Try.f24) 2):=by
 intro n
 induction n with
 | zero=>
  intro R ds k r h
  unfold m_Z50 at h
  obtain ⟨_,_,rfl,h⟩:=Jg h
  obtain ⟨_,_,rfl,h⟩:=Jg h
  obtain ⟨_,_,rfl,h⟩:=Jf h
  obtain ⟨rfl,hE⟩:=Jm h
  obtain ⟨y,hy,hk⟩:=Jn hE
  cases hy
 | succ n ih=>
  intro R ds k r h
  unfold m_Z50 at h
  obtain ⟨_,_,rfl,h⟩:=Jg h
  obtain ⟨_,_,rfl,h⟩:=Jg h
  obtain ⟨_,_,rfl,h⟩:=Jf h
  obtain ⟨rfl,hE⟩:=Jm h
  obtain ⟨y,hy,hk⟩:=Jn hE
  exact ⟨0,_,_,_,hk,rfl,Qt px (fx:=⟨Try.func24,by kernel_rfl,by kernel_rfl⟩) JI (JT ih JJ) (by kernel_rfl) ((q_Z50 ..).trans ((c_Z50_bind ..).trans (Jt hy)))⟩
noncomputable def e_Z50:JS:=m_Z50 (Z50)
theorem e_Z50_ok:(e_Z50).ok Try.prog (JC (Jx Try.f24) 2):=by
 intro R ds k r h
 unfold e_Z50 m_Z50 at h
 obtain ⟨_,_,rfl,h⟩:=Jg h
 obtain ⟨_,_,rfl,h⟩:=Jg h
 obtain ⟨_,_,rfl,h⟩:=Jf h
 obtain ⟨rfl,hE⟩:=Jm h
 obtain ⟨y,hy,hk⟩:=Jn hE
 obtain ⟨n,hn⟩:=QR hy
 exact m_Z50_ok n R _ k r ((Jt hn).trans hk)

/-!-/
def c_Z51 {R:Type} (x0:List D) (x1:Int) (k:Int×List D→Option R):Option R:=
 (Z50 x1 (0:Int) x0).bind (fun y0=>
 k (y0.fst,y0.snd))
theorem c_Z51_bind {R:Type} (x0:List D) (x1:Int) (k:Int×List D→Option R):c_Z51 x0 x1 k=(c_Z51 x0 x1 some).bind k:=by
 unfold c_Z51
 repeat' first
  | exact J0
  | exact JZ
  | exact JY
  | apply JV
  | apply JW
  | apply J1
  | (apply JX;intro _)
  | intro _
def Z51 (x0:List D) (x1:Int):Option (Int×List D):=c_Z51 x0 x1 some
def e_Z51:Ent:=⟨24,[.own (.struct [.int .i64,.int .i64]),.int .i64],[(.int .i64,[.own (.struct [.int .i64,.int .i64]),.undef])],fun _ ds k=>dL (fun x0 ds=>dI (fun x1 ds=>dE ((Z51 x0 x1).bind (fun y=>k 0 [.I y.1,.L y.2])) ds) ds) ds⟩
theorem q_Z51 (x0:List D) (x1:Int):Qs (JM []) (JN [e_Z50]) A 24 Try.f24 (Sh.mks e_Z51.sh [.L x0,.I x1]).1 (fun v os=>some (v,os))=c_Z51 x0 x1 (fun y=>QA e_Z51 0 [.I y.1,.L y.2]):=by kernel_rfl
theorem e_Z51_ok:e_Z51.ok Try.prog A:=by
 intro R ds k r h
 unfold e_Z51 at h
 obtain ⟨_,_,rfl,h⟩:=Jf h
 obtain ⟨_,_,rfl,h⟩:=Jg h
 obtain ⟨rfl,hE⟩:=Jm h
 obtain ⟨y,hy,hk⟩:=Jn hE
 exact ⟨0,_,_,_,hk,rfl,QB px (fx:=⟨Try.func24,by kernel_rfl,by kernel_rfl⟩) JI (JT e_Z50_ok JJ) ((q_Z51 ..).trans ((c_Z51_bind ..).trans (Jt hy)))⟩

/-!-/
abbrev T_Z52:=Int→Int→List D→Option (Int×List D)
def c_Z52 {R:Type} (F:T_Z52) (x0 x1:Int) (x2:List D) (k:Int×List D→Option R):Option R:=
 bif decide (x1<(↑x2.length:Int)) then
 if 0≤x1∧x1<(↑x2.length:Int) then
 if x1.toNat+1≤x2.length then
 (F (IntKind.i64.wrap (x0+1)) (IntKind.i64.wrap (x1+1)) (x2.set x1.toNat (D.int x0))).bind k
 else
 none
 else
 none
 else
 k (x0,x2)
theorem c_Z52_bind {R:Type} (F:T_Z52) (x0 x1:Int) (x2:List D) (k:Int×List D→Option R):c_Z52 F x0 x1 x2 k=(c_Z52 F x0 x1 x2 some).bind k:=by
 unfold c_Z52
 repeat' first
  | exact J0
  | exact JZ
  | exact JY
  | apply JV
  | apply JW
  | apply J1
  | (apply JX;intro _)
  | intro _
def n_Z52:Nat→T_Z52
 | 0,_,_,_=>none
 | n+1,x0,x1,x2=>c_Z52 (n_Z52 n) x0 x1 x2 some
noncomputable def Z52 (x0 x1:Int) (x2:List D):Option (Int×List D):=ev (fun n=>n_Z52 n x0 x1 x2)
def m_Z52 (F:T_Z52):JS:=⟨2,⟨(.full 1000 [] (.int .i64)::.int .i64::.undef::.undef::.undef::.int .i64::uu 13 ([])),[(1000,.own (.int .i64))]⟩,[(.exit 0,⟨(.full 1000 [] (.int .i64)::.int .i64::uu 17 ([])),[(1000,.own (.int .i64))]⟩)],fun _ ds k=>dI (fun x0 ds=>dI (fun x1 ds=>dL (fun x2 ds=>dE ((F x0 x1 x2).bind (fun y=>k 0 [.I y.1,.L y.2])) ds) ds) ds) ds⟩
theorem q_Z52 (F:T_Z52) (x0 x1:Int) (x2:List D):QM (JM []) (JN [m_Z52 F]) A 60 (JC (Jx Try.f60) 2) ((m_Z52 F).sh.mk' [.I x0,.I x1,.L x2]) (fun e σ'=>some (e,σ'))=c_Z52 F x0 x1 x2 (fun y=>some (.exit 0,SSt.mk' ⟨(.full 1000 [] (.int .i64)::.int .i64::uu 17 ([])),[(1000,.own (.int .i64))]⟩ [.I y.1,.L y.2])):=by kernel_rfl
theorem m_Z52_ok:∀ n,(m_Z52 (n_Z52 n)).ok Try.prog (JC (Jx Try.f60) 2):=by
 intro n
 induction n with
 | zero=>
  intro R ds k r h
  unfold m_Z52 at h
  obtain ⟨_,_,rfl,h⟩:=Jg h
  obtain ⟨_,_,rfl,h⟩:=Jg h
  obtain ⟨_,_,rfl,h⟩:=Jf h
  obtain ⟨rfl,hE⟩:=Jm h
  obtain ⟨y,hy,hk⟩:=Jn hE
  cases hy
 | succ n ih=>
  intro R ds k r h
  unfold m_Z52 at h
  obtain ⟨_,_,rfl,h⟩:=Jg h
  obtain ⟨_,_,rfl,h⟩:=Jg h
  obtain ⟨_,_,rfl,h⟩:=Jf h
  obtain ⟨rfl,hE⟩:=Jm h
  obtain ⟨y,hy,hk⟩:=Jn hE
  exact ⟨0,_,_,_,hk,rfl,Qt px (fx:=⟨Try.func60,by kernel_rfl,by kernel_rfl⟩) JI (JT ih JJ) (by kernel_rfl) ((q_Z52 ..).trans ((c_Z52_bind ..).trans (Jt hy)))⟩
noncomputable def e_Z52:JS:=m_Z52 (Z52)
theorem e_Z52_ok:(e_Z52).ok Try.prog (JC (Jx Try.f60) 2):=by
 intro R ds k r h
 unfold e_Z52 m_Z52 at h
 obtain ⟨_,_,rfl,h⟩:=Jg h
 obtain ⟨_,_,rfl,h⟩:=Jg h
 obtain ⟨_,_,rfl,h⟩:=Jf h
 obtain ⟨rfl,hE⟩:=Jm h
 obtain ⟨y,hy,hk⟩:=Jn hE
 obtain ⟨n,hn⟩:=QR hy
 exact m_Z52_ok n R _ k r ((Jt hn).trans hk)

/-!-/
def c_Z53 {R:Type} (x0:List D) (x1:Int) (k:Int×List D→Option R):Option R:=
 (Z52 x1 (0:Int) x0).bind (fun y0=>
 k (y0.fst,y0.snd))
theorem c_Z53_bind {R:Type} (x0:List D) (x1:Int) (k:Int×List D→Option R):c_Z53 x0 x1 k=(c_Z53 x0 x1 some).bind k:=by
 unfold c_Z53
 repeat' first
  | exact J0
  | exact JZ
  | exact JY
  | apply JV
  | apply JW
  | apply J1
  | (apply JX;intro _)
  | intro _
def Z53 (x0:List D) (x1:Int):Option (Int×List D):=c_Z53 x0 x1 some
def e_Z53:Ent:=⟨60,[.own (.int .i64),.int .i64],[(.int .i64,[.own (.int .i64),.undef])],fun _ ds k=>dL (fun x0 ds=>dI (fun x1 ds=>dE ((Z53 x0 x1).bind (fun y=>k 0 [.I y.1,.L y.2])) ds) ds) ds⟩
theorem q_Z53 (x0:List D) (x1:Int):Qs (JM []) (JN [e_Z52]) A 60 Try.f60 (Sh.mks e_Z53.sh [.L x0,.I x1]).1 (fun v os=>some (v,os))=c_Z53 x0 x1 (fun y=>QA e_Z53 0 [.I y.1,.L y.2]):=by kernel_rfl
theorem e_Z53_ok:e_Z53.ok Try.prog A:=by
 intro R ds k r h
 unfold e_Z53 at h
 obtain ⟨_,_,rfl,h⟩:=Jf h
 obtain ⟨_,_,rfl,h⟩:=Jg h
 obtain ⟨rfl,hE⟩:=Jm h
 obtain ⟨y,hy,hk⟩:=Jn hE
 exact ⟨0,_,_,_,hk,rfl,QB px (fx:=⟨Try.func60,by kernel_rfl,by kernel_rfl⟩) JI (JT e_Z52_ok JJ) ((q_Z53 ..).trans ((c_Z53_bind ..).trans (Jt hy)))⟩

/-!-/
abbrev T_Z54:=Int→Int→List D→Option (Int×List D)
def c_Z54 {R:Type} (F:T_Z54) (x0 x1:Int) (x2:List D) (k:Int×List D→Option R):Option R:=
 bif decide (x1<(↑x2.length:Int)) then
 if 0≤x1∧x1<(↑x2.length:Int) then
 if x1.toNat+1≤x2.length then
 if x1.toNat+1≤x2.length then
 (Z53 ((x2.getD x1.toNat (D.int 0)).items) x0).bind (fun y0=>
 (F y0.fst (IntKind.i64.wrap (x1+1)) (x2.set x1.toNat (D.node y0.snd))).bind k)
 else
 none
 else
 none
 else
 none
 else
 k (x0,x2)
theorem c_Z54_bind {R:Type} (F:T_Z54) (x0 x1:Int) (x2:List D) (k:Int×List D→Option R):c_Z54 F x0 x1 x2 k=(c_Z54 F x0 x1 x2 some).bind k:=by
 unfold c_Z54
 repeat' first
  | exact J0
  | exact JZ
  | exact JY
  | apply JV
  | apply JW
  | apply J1
  | (apply JX;intro _)
  | intro _
def n_Z54:Nat→T_Z54
 | 0,_,_,_=>none
 | n+1,x0,x1,x2=>c_Z54 (n_Z54 n) x0 x1 x2 some
noncomputable def Z54 (x0 x1:Int) (x2:List D):Option (Int×List D):=ev (fun n=>n_Z54 n x0 x1 x2)
def m_Z54 (F:T_Z54):JS:=⟨2,⟨(.full 1000 [] (.slice (.int .i64))::.int .i64::.undef::.undef::.undef::.int .i64::uu 13 ([])),[(1000,.own (.slice (.int .i64)))]⟩,[(.exit 0,⟨(.full 1000 [] (.slice (.int .i64))::.int .i64::uu 17 ([])),[(1000,.own (.slice (.int .i64)))]⟩)],fun _ ds k=>dI (fun x0 ds=>dI (fun x1 ds=>dL (fun x2 ds=>dE ((F x0 x1 x2).bind (fun y=>k 0 [.I y.1,.L y.2])) ds) ds) ds) ds⟩
theorem q_Z54 (F:T_Z54) (x0 x1:Int) (x2:List D):QM (JM [e_Z53]) (JN [m_Z54 F]) A 25 (JC (Jx Try.f25) 2) ((m_Z54 F).sh.mk' [.I x0,.I x1,.L x2]) (fun e σ'=>some (e,σ'))=c_Z54 F x0 x1 x2 (fun y=>some (.exit 0,SSt.mk' ⟨(.full 1000 [] (.slice (.int .i64))::.int .i64::uu 17 ([])),[(1000,.own (.slice (.int .i64)))]⟩ [.I y.1,.L y.2])):=by kernel_rfl
theorem m_Z54_ok:∀ n,(m_Z54 (n_Z54 n)).ok Try.prog (JC (Jx Try.f25) 2):=by
 intro n
 induction n with
 | zero=>
  intro R ds k r h
  unfold m_Z54 at h
  obtain ⟨_,_,rfl,h⟩:=Jg h
  obtain ⟨_,_,rfl,h⟩:=Jg h
  obtain ⟨_,_,rfl,h⟩:=Jf h
  obtain ⟨rfl,hE⟩:=Jm h
  obtain ⟨y,hy,hk⟩:=Jn hE
  cases hy
 | succ n ih=>
  intro R ds k r h
  unfold m_Z54 at h
  obtain ⟨_,_,rfl,h⟩:=Jg h
  obtain ⟨_,_,rfl,h⟩:=Jg h
  obtain ⟨_,_,rfl,h⟩:=Jf h
  obtain ⟨rfl,hE⟩:=Jm h
  obtain ⟨y,hy,hk⟩:=Jn hE
  exact ⟨0,_,_,_,hk,rfl,Qt px (fx:=⟨Try.func25,by kernel_rfl,by kernel_rfl⟩) (Qh e_Z53_ok JI) (JT ih JJ) (by kernel_rfl) ((q_Z54 ..).trans ((c_Z54_bind ..).trans (Jt hy)))⟩
noncomputable def e_Z54:JS:=m_Z54 (Z54)
theorem e_Z54_ok:(e_Z54).ok Try.prog (JC (Jx Try.f25) 2):=by
 intro R ds k r h
 unfold e_Z54 m_Z54 at h
 obtain ⟨_,_,rfl,h⟩:=Jg h
 obtain ⟨_,_,rfl,h⟩:=Jg h
 obtain ⟨_,_,rfl,h⟩:=Jf h
 obtain ⟨rfl,hE⟩:=Jm h
 obtain ⟨y,hy,hk⟩:=Jn hE
 obtain ⟨n,hn⟩:=QR hy
 exact m_Z54_ok n R _ k r ((Jt hn).trans hk)

/-!-/
def c_Z55 {R:Type} (x0:List D) (x1:Int) (k:Int×List D→Option R):Option R:=
 (Z54 x1 (0:Int) x0).bind (fun y0=>
 k (y0.fst,y0.snd))
theorem c_Z55_bind {R:Type} (x0:List D) (x1:Int) (k:Int×List D→Option R):c_Z55 x0 x1 k=(c_Z55 x0 x1 some).bind k:=by
 unfold c_Z55
 repeat' first
  | exact J0
  | exact JZ
  | exact JY
  | apply JV
  | apply JW
  | apply J1
  | (apply JX;intro _)
  | intro _
def Z55 (x0:List D) (x1:Int):Option (Int×List D):=c_Z55 x0 x1 some
def e_Z55:Ent:=⟨25,[.own (.slice (.int .i64)),.int .i64],[(.int .i64,[.own (.slice (.int .i64)),.undef])],fun _ ds k=>dL (fun x0 ds=>dI (fun x1 ds=>dE ((Z55 x0 x1).bind (fun y=>k 0 [.I y.1,.L y.2])) ds) ds) ds⟩
theorem q_Z55 (x0:List D) (x1:Int):Qs (JM []) (JN [e_Z54]) A 25 Try.f25 (Sh.mks e_Z55.sh [.L x0,.I x1]).1 (fun v os=>some (v,os))=c_Z55 x0 x1 (fun y=>QA e_Z55 0 [.I y.1,.L y.2]):=by kernel_rfl
theorem e_Z55_ok:e_Z55.ok Try.prog A:=by
 intro R ds k r h
 unfold e_Z55 at h
 obtain ⟨_,_,rfl,h⟩:=Jf h
 obtain ⟨_,_,rfl,h⟩:=Jg h
 obtain ⟨rfl,hE⟩:=Jm h
 obtain ⟨y,hy,hk⟩:=Jn hE
 exact ⟨0,_,_,_,hk,rfl,QB px (fx:=⟨Try.func25,by kernel_rfl,by kernel_rfl⟩) JI (JT e_Z54_ok JJ) ((q_Z55 ..).trans ((c_Z55_bind ..).trans (Jt hy)))⟩

/-!-/
abbrev T_Z56:=List D→Int→Int→Option ((Int×Int)⊕(Int))
def c_Z56 {R:Type} (F:T_Z56) (x0:List D) (x1 x2:Int) (k:(Int×Int)⊕(Int)→Option R):Option R:=
 bif decide (x2<(↑x0.length:Int)) then
 if 0≤x2∧x2<(↑x0.length:Int) then
 bif !decide ((x0.getD x2.toNat (D.int 0)).toInt=x1) then
 k (.inl (x1,(-1:Int)))
 else
 (F x0 (IntKind.i64.wrap (x1+1)) (IntKind.i64.wrap (x2+1))).bind k
 else
 none
 else
 k (.inr x1)
theorem c_Z56_bind {R:Type} (F:T_Z56) (x0:List D) (x1 x2:Int) (k:(Int×Int)⊕(Int)→Option R):c_Z56 F x0 x1 x2 k=(c_Z56 F x0 x1 x2 some).bind k:=by
 unfold c_Z56
 repeat' first
  | exact J0
  | exact JZ
  | exact JY
  | apply JV
  | apply JW
  | apply J1
  | (apply JX;intro _)
  | intro _
def n_Z56:Nat→T_Z56
 | 0,_,_,_=>none
 | n+1,x0,x1,x2=>c_Z56 (n_Z56 n) x0 x1 x2 some
noncomputable def Z56 (x0:List D) (x1 x2:Int):Option ((Int×Int)⊕(Int)):=ev (fun n=>n_Z56 n x0 x1 x2)
def m_Z56 (F:T_Z56):JS:=⟨2,⟨(.rd (.int .i64)::.int .i64::.undef::.undef::.undef::.int .i64::uu 15 ([])),[]⟩,[(.ret,⟨(.undef::.int .i64::.undef::.undef::.int .i64::uu 16 ([])),[]⟩),(.exit 0,⟨(.undef::.int .i64::uu 19 ([])),[]⟩)],fun _ ds k=>dL (fun x0 ds=>dI (fun x1 ds=>dI (fun x2 ds=>dE ((F x0 x1 x2).bind (Sum.elim (fun y=>k 0 [.I y.1,.I y.2]) (fun y=>k 1 [.I y]))) ds) ds) ds) ds⟩
theorem q_Z56 (F:T_Z56) (x0:List D) (x1 x2:Int):QM (JM []) (JN [m_Z56 F]) A 61 (JC (Jx Try.f61) 2) ((m_Z56 F).sh.mk' [.L x0,.I x1,.I x2]) (fun e σ'=>some (e,σ'))=c_Z56 F x0 x1 x2 (Sum.elim (fun y=>some (.ret,SSt.mk' ⟨(.undef::.int .i64::.undef::.undef::.int .i64::uu 16 ([])),[]⟩ [.I y.1,.I y.2])) (fun y=>some (.exit 0,SSt.mk' ⟨(.undef::.int .i64::uu 19 ([])),[]⟩ [.I y]))):=by kernel_rfl
theorem m_Z56_ok:∀ n,(m_Z56 (n_Z56 n)).ok Try.prog (JC (Jx Try.f61) 2):=by
 intro n
 induction n with
 | zero=>
  intro R ds k r h
  unfold m_Z56 at h
  obtain ⟨_,_,rfl,h⟩:=Jf h
  obtain ⟨_,_,rfl,h⟩:=Jg h
  obtain ⟨_,_,rfl,h⟩:=Jg h
  obtain ⟨rfl,hE⟩:=Jm h
  obtain ⟨y,hy,hk⟩:=Jn hE
  cases hy
 | succ n ih=>
  intro R ds k r h
  unfold m_Z56 at h
  obtain ⟨_,_,rfl,h⟩:=Jf h
  obtain ⟨_,_,rfl,h⟩:=Jg h
  obtain ⟨_,_,rfl,h⟩:=Jg h
  obtain ⟨rfl,hE⟩:=Jm h
  obtain ⟨y,hy,hk⟩:=Jn hE
  cases y with
  | inl y=>
   exact ⟨0,_,_,_,hk,rfl,Qt px (fx:=⟨Try.func61,by kernel_rfl,by kernel_rfl⟩) JI (JT ih JJ) (by kernel_rfl) ((q_Z56 ..).trans ((c_Z56_bind ..).trans (Jt hy)))⟩
  | inr y=>
   exact ⟨1,_,_,_,hk,rfl,Qt px (fx:=⟨Try.func61,by kernel_rfl,by kernel_rfl⟩) JI (JT ih JJ) (by kernel_rfl) ((q_Z56 ..).trans ((c_Z56_bind ..).trans (Jt hy)))⟩
noncomputable def e_Z56:JS:=m_Z56 (Z56)
theorem e_Z56_ok:(e_Z56).ok Try.prog (JC (Jx Try.f61) 2):=by
 intro R ds k r h
 unfold e_Z56 m_Z56 at h
 obtain ⟨_,_,rfl,h⟩:=Jf h
 obtain ⟨_,_,rfl,h⟩:=Jg h
 obtain ⟨_,_,rfl,h⟩:=Jg h
 obtain ⟨rfl,hE⟩:=Jm h
 obtain ⟨y,hy,hk⟩:=Jn hE
 obtain ⟨n,hn⟩:=QR hy
 exact m_Z56_ok n R _ k r ((Jt hn).trans hk)

/-!-/
def c_Z57 {R:Type} (x0:List D) (x1:Int) (k:Int→Option R):Option R:=
 (Z56 x0 x1 (0:Int)).bind (Sum.elim (fun y0=>
 k y0.snd) (fun y1=>
 k y1))
theorem c_Z57_bind {R:Type} (x0:List D) (x1:Int) (k:Int→Option R):c_Z57 x0 x1 k=(c_Z57 x0 x1 some).bind k:=by
 unfold c_Z57
 repeat' first
  | exact J0
  | exact JZ
  | exact JY
  | apply JV
  | apply JW
  | apply J1
  | (apply JX;intro _)
  | intro _
def Z57 (x0:List D) (x1:Int):Option (Int):=c_Z57 x0 x1 some
def e_Z57:Ent:=⟨61,[.rd (.int .i64),.int .i64],[(.int .i64,[.undef,.undef])],fun _ ds k=>dL (fun x0 ds=>dI (fun x1 ds=>dE ((Z57 x0 x1).bind (fun y=>k 0 [.I y])) ds) ds) ds⟩
theorem q_Z57 (x0:List D) (x1:Int):Qs (JM []) (JN [e_Z56]) A 61 Try.f61 (Sh.mks e_Z57.sh [.L x0,.I x1]).1 (fun v os=>some (v,os))=c_Z57 x0 x1 (fun y=>QA e_Z57 0 [.I y]):=by kernel_rfl
theorem e_Z57_ok:e_Z57.ok Try.prog A:=by
 intro R ds k r h
 unfold e_Z57 at h
 obtain ⟨_,_,rfl,h⟩:=Jf h
 obtain ⟨_,_,rfl,h⟩:=Jg h
 obtain ⟨rfl,hE⟩:=Jm h
 obtain ⟨y,hy,hk⟩:=Jn hE
 exact ⟨0,_,_,_,hk,rfl,QB px (fx:=⟨Try.func61,by kernel_rfl,by kernel_rfl⟩) JI (JT e_Z56_ok JJ) ((q_Z57 ..).trans ((c_Z57_bind ..).trans (Jt hy)))⟩

/-!-/
abbrev T_Z58:=List D→Int→Int→Option ((Int×Int)⊕(Int))
def c_Z58 {R:Type} (F:T_Z58) (x0:List D) (x1 x2:Int) (k:(Int×Int)⊕(Int)→Option R):Option R:=
 bif decide (x2<(↑x0.length:Int)) then
 if 0≤x2∧x2<(↑x0.length:Int) then
 (Z57 ((x0.getD x2.toNat (D.int 0)).items) x1).bind (fun y0=>
 bif decide (y0<(0:Int)) then
 k (.inl (y0,(-1:Int)))
 else
 (F x0 y0 (IntKind.i64.wrap (x2+1))).bind k)
 else
 none
 else
 k (.inr x1)
theorem c_Z58_bind {R:Type} (F:T_Z58) (x0:List D) (x1 x2:Int) (k:(Int×Int)⊕(Int)→Option R):c_Z58 F x0 x1 x2 k=(c_Z58 F x0 x1 x2 some).bind k:=by
 unfold c_Z58
 repeat' first
  | exact J0
  | exact JZ
  | exact JY
  | apply JV
  | apply JW
  | apply J1
  | (apply JX;intro _)
  | intro _
def n_Z58:Nat→T_Z58
 | 0,_,_,_=>none
 | n+1,x0,x1,x2=>c_Z58 (n_Z58 n) x0 x1 x2 some
noncomputable def Z58 (x0:List D) (x1 x2:Int):Option ((Int×Int)⊕(Int)):=ev (fun n=>n_Z58 n x0 x1 x2)
def m_Z58 (F:T_Z58):JS:=⟨2,⟨(.rd (.slice (.int .i64))::.int .i64::.undef::.undef::.undef::.int .i64::uu 15 ([])),[]⟩,[(.ret,⟨(.undef::.int .i64::.undef::.undef::.int .i64::uu 16 ([])),[]⟩),(.exit 0,⟨(.undef::.int .i64::uu 19 ([])),[]⟩)],fun _ ds k=>dL (fun x0 ds=>dI (fun x1 ds=>dI (fun x2 ds=>dE ((F x0 x1 x2).bind (Sum.elim (fun y=>k 0 [.I y.1,.I y.2]) (fun y=>k 1 [.I y]))) ds) ds) ds) ds⟩
theorem q_Z58 (F:T_Z58) (x0:List D) (x1 x2:Int):QM (JM [e_Z57]) (JN [m_Z58 F]) A 26 (JC (Jx Try.f26) 2) ((m_Z58 F).sh.mk' [.L x0,.I x1,.I x2]) (fun e σ'=>some (e,σ'))=c_Z58 F x0 x1 x2 (Sum.elim (fun y=>some (.ret,SSt.mk' ⟨(.undef::.int .i64::.undef::.undef::.int .i64::uu 16 ([])),[]⟩ [.I y.1,.I y.2])) (fun y=>some (.exit 0,SSt.mk' ⟨(.undef::.int .i64::uu 19 ([])),[]⟩ [.I y]))):=by kernel_rfl
theorem m_Z58_ok:∀ n,(m_Z58 (n_Z58 n)).ok Try.prog (JC (Jx Try.f26) 2):=by
 intro n
 induction n with
 | zero=>
  intro R ds k r h
  unfold m_Z58 at h
  obtain ⟨_,_,rfl,h⟩:=Jf h
  obtain ⟨_,_,rfl,h⟩:=Jg h
  obtain ⟨_,_,rfl,h⟩:=Jg h
  obtain ⟨rfl,hE⟩:=Jm h
  obtain ⟨y,hy,hk⟩:=Jn hE
  cases hy
 | succ n ih=>
  intro R ds k r h
  unfold m_Z58 at h
  obtain ⟨_,_,rfl,h⟩:=Jf h
  obtain ⟨_,_,rfl,h⟩:=Jg h
  obtain ⟨_,_,rfl,h⟩:=Jg h
  obtain ⟨rfl,hE⟩:=Jm h
  obtain ⟨y,hy,hk⟩:=Jn hE
  cases y with
  | inl y=>
   exact ⟨0,_,_,_,hk,rfl,Qt px (fx:=⟨Try.func26,by kernel_rfl,by kernel_rfl⟩) (Qh e_Z57_ok JI) (JT ih JJ) (by kernel_rfl) ((q_Z58 ..).trans ((c_Z58_bind ..).trans (Jt hy)))⟩
  | inr y=>
   exact ⟨1,_,_,_,hk,rfl,Qt px (fx:=⟨Try.func26,by kernel_rfl,by kernel_rfl⟩) (Qh e_Z57_ok JI) (JT ih JJ) (by kernel_rfl) ((q_Z58 ..).trans ((c_Z58_bind ..).trans (Jt hy)))⟩
noncomputable def e_Z58:JS:=m_Z58 (Z58)
theorem e_Z58_ok:(e_Z58).ok Try.prog (JC (Jx Try.f26) 2):=by
 intro R ds k r h
 unfold e_Z58 m_Z58 at h
 obtain ⟨_,_,rfl,h⟩:=Jf h
 obtain ⟨_,_,rfl,h⟩:=Jg h
 obtain ⟨_,_,rfl,h⟩:=Jg h
 obtain ⟨rfl,hE⟩:=Jm h
 obtain ⟨y,hy,hk⟩:=Jn hE
 obtain ⟨n,hn⟩:=QR hy
 exact m_Z58_ok n R _ k r ((Jt hn).trans hk)

/-!-/
def c_Z59 {R:Type} (x0:List D) (x1:Int) (k:Int→Option R):Option R:=
 (Z58 x0 x1 (0:Int)).bind (Sum.elim (fun y0=>
 k y0.snd) (fun y1=>
 k y1))
theorem c_Z59_bind {R:Type} (x0:List D) (x1:Int) (k:Int→Option R):c_Z59 x0 x1 k=(c_Z59 x0 x1 some).bind k:=by
 unfold c_Z59
 repeat' first
  | exact J0
  | exact JZ
  | exact JY
  | apply JV
  | apply JW
  | apply J1
  | (apply JX;intro _)
  | intro _
def Z59 (x0:List D) (x1:Int):Option (Int):=c_Z59 x0 x1 some
def e_Z59:Ent:=⟨26,[.rd (.slice (.int .i64)),.int .i64],[(.int .i64,[.undef,.undef])],fun _ ds k=>dL (fun x0 ds=>dI (fun x1 ds=>dE ((Z59 x0 x1).bind (fun y=>k 0 [.I y])) ds) ds) ds⟩
theorem q_Z59 (x0:List D) (x1:Int):Qs (JM []) (JN [e_Z58]) A 26 Try.f26 (Sh.mks e_Z59.sh [.L x0,.I x1]).1 (fun v os=>some (v,os))=c_Z59 x0 x1 (fun y=>QA e_Z59 0 [.I y]):=by kernel_rfl
theorem e_Z59_ok:e_Z59.ok Try.prog A:=by
 intro R ds k r h
 unfold e_Z59 at h
 obtain ⟨_,_,rfl,h⟩:=Jf h
 obtain ⟨_,_,rfl,h⟩:=Jg h
 obtain ⟨rfl,hE⟩:=Jm h
 obtain ⟨y,hy,hk⟩:=Jn hE
 exact ⟨0,_,_,_,hk,rfl,QB px (fx:=⟨Try.func26,by kernel_rfl,by kernel_rfl⟩) JI (JT e_Z58_ok JJ) ((q_Z59 ..).trans ((c_Z59_bind ..).trans (Jt hy)))⟩

/-!-/
def c_Z60 {R:Type} (x0 x1:List D) (k:Bool→Option R):Option R:=
 (Z1 x0 (1048576:Int)).bind (fun y0=>
 bif decide (y0<(0:Int)) then
 k Bool.true
 else
 (Z2 x1 y0).bind (fun y1=>
 bif decide (y1<(0:Int)) then
 k Bool.true
 else
 (Z5 x0).bind (fun y2=>
 (Z8 x1).bind (fun y3=>
 (Z21 y2 y3).bind (fun y4=>
 (Z5 x0).bind (fun y5=>
 (Z8 x1).bind (fun y6=>
 (Z37 y5 y6).bind (fun y7=>
 (Z41 y7.fst y4.fst).bind (fun y8=>
 bif !y8 then
 k Bool.false
 else
 bif !y7.snd==y4.snd then
 k Bool.false
 else
 (Z5 x0).bind (fun y9=>
 (Z44 y5 y9).bind (fun y10=>
 bif !y10 then
 k Bool.false
 else
 (Z8 x1).bind (fun y11=>
 (Z47 y6 y11).bind (fun y12=>
 bif !y12 then
 k Bool.false
 else
 (Z49 y5 (1:Int)).bind (fun y13=>
 (Z51 y6 y13.fst).bind (fun y14=>
 bif decide (y14.fst<(0:Int)) then
 k Bool.false
 else
 (Z41 y7.fst y4.fst).bind (fun y15=>
 bif !y15 then
 k Bool.false
 else
 bif !y7.snd==y4.snd then
 k Bool.false
 else
 (Z55 y7.fst (1:Int)).bind (fun y16=>
 (Z59 y16.snd (1:Int)).bind (fun y17=>
 bif decide (y17<(0:Int)) then
 k Bool.false
 else
 bif !decide (y17=y16.fst) then
 k Bool.false
 else
 (Z5 x0).bind (fun y18=>
 (Z8 x1).bind (fun y19=>
 (Z37 y18 y19).bind (fun y20=>
 (Z41 y20.fst y4.fst).bind (fun y21=>
 bif !y21 then
 k Bool.false
 else
 bif !y20.snd==y4.snd then
 k Bool.false
 else
 (Z59 y16.snd (1:Int)).bind (fun y22=>
 bif decide (y22<(0:Int)) then
 k Bool.false
 else
 bif !decide (y22=y16.fst) then
 k Bool.false
 else
 k Bool.true)))))))))))))))))))))))
theorem c_Z60_bind {R:Type} (x0 x1:List D) (k:Bool→Option R):c_Z60 x0 x1 k=(c_Z60 x0 x1 some).bind k:=by
 unfold c_Z60
 repeat' first
  | exact J0
  | exact JZ
  | exact JY
  | apply JV
  | apply JW
  | apply J1
  | (apply JX;intro _)
  | intro _
def Z60 (x0 x1:List D):Option (Bool):=c_Z60 x0 x1 some
def e_Z60:Ent:=⟨5,[.rd (.struct [.int .i64,.int .i64,.int .i64,.int .i64]),.rd (.struct [.int .i64,.int .i64])],[(.bool,[.undef,.undef])],fun _ ds k=>dL (fun x0 ds=>dL (fun x1 ds=>dE ((Z60 x0 x1).bind (fun y=>k 0 [.B y])) ds) ds) ds⟩
theorem q_Z60 (x0 x1:List D):Qs (JM [e_Z1,e_Z2,e_Z5,e_Z8,e_Z21,e_Z37,e_Z41,e_Z44,e_Z47,e_Z49,e_Z51,e_Z55,e_Z59]) (JN []) A 5 Try.f5 (Sh.mks e_Z60.sh [.L x0,.L x1]).1 (fun v os=>some (v,os))=c_Z60 x0 x1 (fun y=>QA e_Z60 0 [.B y]):=by kernel_rfl
theorem e_Z60_ok:e_Z60.ok Try.prog A:=by
 intro R ds k r h
 unfold e_Z60 at h
 obtain ⟨_,_,rfl,h⟩:=Jf h
 obtain ⟨_,_,rfl,h⟩:=Jf h
 obtain ⟨rfl,hE⟩:=Jm h
 obtain ⟨y,hy,hk⟩:=Jn hE
 exact ⟨0,_,_,_,hk,rfl,QB px (fx:=⟨Try.func5,by kernel_rfl,by kernel_rfl⟩) (Qh e_Z1_ok (Qh e_Z2_ok (Qh e_Z5_ok (Qh e_Z8_ok (Qh e_Z21_ok (Qh e_Z37_ok (Qh e_Z41_ok (Qh e_Z44_ok (Qh e_Z47_ok (Qh e_Z49_ok (Qh e_Z51_ok (Qh e_Z55_ok (Qh e_Z59_ok JI))))))))))))) JJ ((q_Z60 ..).trans ((c_Z60_bind ..).trans (Jt hy)))⟩
end
end Go.Proofs.Ytaahhnjdbejfhaa
