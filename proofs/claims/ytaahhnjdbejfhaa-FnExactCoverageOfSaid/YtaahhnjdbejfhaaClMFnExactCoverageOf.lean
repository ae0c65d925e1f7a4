/- Models of Go functions and their contracts, printed by a program of this session. -/
import Derived.Test.YtaahhnjdbejfhaaClA
set_option linter.unusedVariables false
set_option maxRecDepth 100000
namespace Go.Proofs.Ytaahhnjdbejfhaa
open Go Go.Rai
noncomputable section
/-!-/
def c_Z0 {R:Type} (x0:List D) (x1:Int) (k:Int→Option R):Option R:=
 bif decide (IntKind.i64.wrap (x1 - (↑x0.length:Int))<(0:Int)) then
 k (-1:Int)
 else
 k (IntKind.i64.wrap (x1 - (↑x0.length:Int)))
theorem c_Z0_bind {R:Type} (x0:List D) (x1:Int) (k:Int→Option R):c_Z0 x0 x1 k=(c_Z0 x0 x1 some).bind k:=by
 unfold c_Z0
 repeat' first
  | exact J7
  | exact J6
  | exact J5
  | apply J2
  | apply J3
  | apply J8
  | (apply J4;intro _)
  | intro _
def Z0 (x0:List D) (x1:Int):Option (Int):=c_Z0 x0 x1 some
def e_Z0:Ent:=⟨10,[.rd (.struct [.int .i64,.int .i64,.int .i64,.int .i64]),.int .i64],[(.int .i64,[.undef,.undef])],fun _ ds k=>dL (fun x0 ds=>dI (fun x1 ds=>dE ((Z0 x0 x1).bind (fun y=>k 0 [.I y])) ds) ds) ds⟩
theorem q_Z0 (x0:List D) (x1:Int):QD (JP []) (JQ []) A 10 Try.f10 (Sh.mks e_Z0.sh [.L x0,.I x1]).1 (fun v os=>some (v,os))=c_Z0 x0 x1 (fun y=>QO e_Z0 0 [.I y]):=by kernel_rfl
theorem e_Z0_ok:e_Z0.ok Try.prog A:=by
 intro R ds k r h
 unfold e_Z0 at h
 obtain ⟨_,_,rfl,h⟩:=Jg h
 obtain ⟨_,_,rfl,h⟩:=Jf h
 obtain ⟨rfl,hE⟩:=Jt h
 obtain ⟨y,hy,hk⟩:=Ju hE
 exact ⟨0,_,_,_,hk,rfl,QP px (fx:=⟨Try.func10,by kernel_rfl,by kernel_rfl⟩) JT JU ((q_Z0 ..).trans ((c_Z0_bind ..).trans (JB hy)))⟩

/-!-/
def c_Z1 {R:Type} (x0:List D) (x1:Int) (k:Int→Option R):Option R:=
 bif decide (IntKind.i64.wrap (x1 - (↑x0.length:Int))<(0:Int)) then
 k (-1:Int)
 else
 k (IntKind.i64.wrap (x1 - (↑x0.length:Int)))
theorem c_Z1_bind {R:Type} (x0:List D) (x1:Int) (k:Int→Option R):c_Z1 x0 x1 k=(c_Z1 x0 x1 some).bind k:=by
 unfold c_Z1
 repeat' first
  | exact J7
  | exact J6
  | exact J5
  | apply J2
  | apply J3
  | apply J8
  | (apply J4;intro _)
  | intro _
def Z1 (x0:List D) (x1:Int):Option (Int):=c_Z1 x0 x1 some
def e_Z1:Ent:=⟨15,[.rd (.struct [.int .i64,.int .i64]),.int .i64],[(.int .i64,[.undef,.undef])],fun _ ds k=>dL (fun x0 ds=>dI (fun x1 ds=>dE ((Z1 x0 x1).bind (fun y=>k 0 [.I y])) ds) ds) ds⟩
theorem q_Z1 (x0:List D) (x1:Int):QD (JP []) (JQ []) A 15 Try.f15 (Sh.mks e_Z1.sh [.L x0,.I x1]).1 (fun v os=>some (v,os))=c_Z1 x0 x1 (fun y=>QO e_Z1 0 [.I y]):=by kernel_rfl
theorem e_Z1_ok:e_Z1.ok Try.prog A:=by
 intro R ds k r h
 unfold e_Z1 at h
 obtain ⟨_,_,rfl,h⟩:=Jg h
 obtain ⟨_,_,rfl,h⟩:=Jf h
 obtain ⟨rfl,hE⟩:=Jt h
 obtain ⟨y,hy,hk⟩:=Ju hE
 exact ⟨0,_,_,_,hk,rfl,QP px (fx:=⟨Try.func15,by kernel_rfl,by kernel_rfl⟩) JT JU ((q_Z1 ..).trans ((c_Z1_bind ..).trans (JB hy)))⟩

/-!-/
def c_Z2 {R:Type} (x0 x1 x2 x3:Int) (k:Int×Int×Int×Int→Option R):Option R:=
 k (x0,x1,x2,x3)
theorem c_Z2_bind {R:Type} (x0 x1 x2 x3:Int) (k:Int×Int×Int×Int→Option R):c_Z2 x0 x1 x2 x3 k=(c_Z2 x0 x1 x2 x3 some).bind k:=by
 unfold c_Z2
 repeat' first
  | exact J7
  | exact J6
  | exact J5
  | apply J2
  | apply J3
  | apply J8
  | (apply J4;intro _)
  | intro _
def Z2 (x0 x1 x2 x3:Int):Option (Int×Int×Int×Int):=c_Z2 x0 x1 x2 x3 some
def e_Z2:Ent:=⟨49,[.agg [.int .i64,.int .i64,.int .i64,.int .i64]],[(.agg [.int .i64,.int .i64,.int .i64,.int .i64],[.undef])],fun _ ds k=>dI (fun x0 ds=>dI (fun x1 ds=>dI (fun x2 ds=>dI (fun x3 ds=>dE ((Z2 x0 x1 x2 x3).bind (fun y=>k 0 [.I y.1,.I y.2.1,.I y.2.2.1,.I y.2.2.2])) ds) ds) ds) ds) ds⟩
theorem q_Z2 (x0 x1 x2 x3:Int):QD (JP []) (JQ []) A 49 Try.f49 (Sh.mks e_Z2.sh [.I x0,.I x1,.I x2,.I x3]).1 (fun v os=>some (v,os))=c_Z2 x0 x1 x2 x3 (fun y=>QO e_Z2 0 [.I y.1,.I y.2.1,.I y.2.2.1,.I y.2.2.2]):=by kernel_rfl
theorem e_Z2_ok:e_Z2.ok Try.prog A:=by
 intro R ds k r h
 unfold e_Z2 at h
 obtain ⟨_,_,rfl,h⟩:=Jf h
 obtain ⟨_,_,rfl,h⟩:=Jf h
 obtain ⟨_,_,rfl,h⟩:=Jf h
 obtain ⟨_,_,rfl,h⟩:=Jf h
 obtain ⟨rfl,hE⟩:=Jt h
 obtain ⟨y,hy,hk⟩:=Ju hE
 exact ⟨0,_,_,_,hk,rfl,QP px (fx:=⟨Try.func49,by kernel_rfl,by kernel_rfl⟩) JT JU ((q_Z2 ..).trans ((c_Z2_bind ..).trans (JB hy)))⟩

/-!-/
abbrev T_Z3:=List D→Int→List D→Option (List D)
def c_Z3 {R:Type} (F:T_Z3) (x0:List D) (x1:Int) (x2:List D) (k:List D→Option R):Option R:=
 bif decide (x1<(↑x0.length:Int)) then
 if 0≤x1∧x1<(↑x0.length:Int) then
 (Z2 (((x0.getD x1.toNat (D.int 0)).fld (0:Nat)).toInt) (((x0.getD x1.toNat (D.int 0)).fld (1:Nat)).toInt) (((x0.getD x1.toNat (D.int 0)).fld (2:Nat)).toInt) (((x0.getD x1.toNat (D.int 0)).fld (3:Nat)).toInt)).bind (fun y0=>
 if 0≤x1∧x1<(↑x2.length:Int) then
 if x1.toNat+1≤x2.length then
 (F x0 (IntKind.i64.wrap (x1+1)) (x2.set x1.toNat (D.node [D.int y0.fst,D.int y0.snd.fst,D.int y0.snd.snd.fst,D.int y0.snd.snd.snd]))).bind k
 else
 none
 else
 none)
 else
 none
 else
 k x2
theorem c_Z3_bind {R:Type} (F:T_Z3) (x0:List D) (x1:Int) (x2:List D) (k:List D→Option R):c_Z3 F x0 x1 x2 k=(c_Z3 F x0 x1 x2 some).bind k:=by
 unfold c_Z3
 repeat' first
  | exact J7
  | exact J6
  | exact J5
  | apply J2
  | apply J3
  | apply J8
  | (apply J4;intro _)
  | intro _
def n_Z3:Nat→T_Z3
 | 0,_,_,_=>none
 | n+1,x0,x1,x2=>c_Z3 (n_Z3 n) x0 x1 x2 some
noncomputable def Z3 (x0:List D) (x1:Int) (x2:List D):Option (List D):=ev (fun n=>n_Z3 n x0 x1 x2)
def m_Z3 (F:T_Z3):JS:=⟨3,⟨(.rd (.struct [.int .i64,.int .i64,.int .i64,.int .i64])::.undef::.undef::.full 1000 [] (.struct [.int .i64,.int .i64,.int .i64,.int .i64])::.int .i64::uu 18 ([])),[(1000,.own (.struct [.int .i64,.int .i64,.int .i64,.int .i64]))]⟩,[(.exit 0,⟨(.undef::.undef::.undef::.full 1000 [] (.struct [.int .i64,.int .i64,.int .i64,.int .i64])::uu 19 ([])),[(1000,.own (.struct [.int .i64,.int .i64,.int .i64,.int .i64]))]⟩)],fun _ ds k=>dL (fun x0 ds=>dI (fun x1 ds=>dL (fun x2 ds=>dE ((F x0 x1 x2).bind (fun y=>k 0 [.L y])) ds) ds) ds) ds⟩
theorem q_Z3 (F:T_Z3) (x0:List D) (x1:Int) (x2:List D):Q3 (JP [e_Z2]) (JQ [m_Z3 F]) A 12 (JG (JA Try.f12) 3) ((m_Z3 F).sh.mk' [.L x0,.I x1,.L x2]) (fun e σ'=>some (e,σ'))=c_Z3 F x0 x1 x2 (fun y=>some (.exit 0,SSt.mk' ⟨(.undef::.undef::.undef::.full 1000 [] (.struct [.int .i64,.int .i64,.int .i64,.int .i64])::uu 19 ([])),[(1000,.own (.struct [.int .i64,.int .i64,.int .i64,.int .i64]))]⟩ [.L y])):=by kernel_rfl
theorem m_Z3_ok:∀ n,(m_Z3 (n_Z3 n)).ok Try.prog (JG (JA Try.f12) 3):=by
 intro n
 induction n with
 | zero=>
  intro R ds k r h
  unfold m_Z3 at h
  obtain ⟨_,_,rfl,h⟩:=Jg h
  obtain ⟨_,_,rfl,h⟩:=Jf h
  obtain ⟨_,_,rfl,h⟩:=Jg h
  obtain ⟨rfl,hE⟩:=Jt h
  obtain ⟨y,hy,hk⟩:=Ju hE
  cases hy
 | succ n ih=>
  intro R ds k r h
  unfold m_Z3 at h
  obtain ⟨_,_,rfl,h⟩:=Jg h
  obtain ⟨_,_,rfl,h⟩:=Jf h
  obtain ⟨_,_,rfl,h⟩:=Jg h
  obtain ⟨rfl,hE⟩:=Jt h
  obtain ⟨y,hy,hk⟩:=Ju hE
  exact ⟨0,_,_,_,hk,rfl,QG px (fx:=⟨Try.func12,by kernel_rfl,by kernel_rfl⟩) (Qp e_Z2_ok JT) (J0 ih JU) (by kernel_rfl) ((q_Z3 ..).trans ((c_Z3_bind ..).trans (JB hy)))⟩
noncomputable def e_Z3:JS:=m_Z3 (Z3)
theorem e_Z3_ok:(e_Z3).ok Try.prog (JG (JA Try.f12) 3):=by
 intro R ds k r h
 unfold e_Z3 m_Z3 at h
 obtain ⟨_,_,rfl,h⟩:=Jg h
 obtain ⟨_,_,rfl,h⟩:=Jf h
 obtain ⟨_,_,rfl,h⟩:=Jg h
 obtain ⟨rfl,hE⟩:=Jt h
 obtain ⟨y,hy,hk⟩:=Ju hE
 obtain ⟨n,hn⟩:=Uc hy
 exact m_Z3_ok n R _ k r ((JB hn).trans hk)

/-!-/
def c_Z4 {R:Type} (x0:List D) (k:List D→Option R):Option R:=
 if (0:Int)≤(↑x0.length:Int)∧(↑x0.length:Int)≤(↑x0.length:Int)∧(↑x0.length:Int)≤(4294967296:Int) then
 (Z3 x0 (0:Int) (List.replicate (↑x0.length:Int).toNat (D.node [D.int 0,D.int 0,D.int 0,D.int 0]))).bind (fun y0=>
 k y0)
 else
 none
theorem c_Z4_bind {R:Type} (x0:List D) (k:List D→Option R):c_Z4 x0 k=(c_Z4 x0 some).bind k:=by
 unfold c_Z4
 repeat' first
  | exact J7
  | exact J6
  | exact J5
  | apply J2
  | apply J3
  | apply J8
  | (apply J4;intro _)
  | intro _
def Z4 (x0:List D):Option (List D):=c_Z4 x0 some
def e_Z4:Ent:=⟨12,[.rd (.struct [.int .i64,.int .i64,.int .i64,.int .i64])],[(.own (.struct [.int .i64,.int .i64,.int .i64,.int .i64]),[.undef])],fun _ ds k=>dL (fun x0 ds=>dE ((Z4 x0).bind (fun y=>k 0 [.L y])) ds) ds⟩
theorem q_Z4 (x0:List D):QD (JP []) (JQ [e_Z3]) A 12 Try.f12 (Sh.mks e_Z4.sh [.L x0]).1 (fun v os=>some (v,os))=c_Z4 x0 (fun y=>QO e_Z4 0 [.L y]):=by kernel_rfl
theorem e_Z4_ok:e_Z4.ok Try.prog A:=by
 intro R ds k r h
 unfold e_Z4 at h
 obtain ⟨_,_,rfl,h⟩:=Jg h
 obtain ⟨rfl,hE⟩:=Jt h
 obtain ⟨y,hy,hk⟩:=Ju hE
 exact ⟨0,_,_,_,hk,rfl,QP px (fx:=⟨Try.func12,by kernel_rfl,by kernel_rfl⟩) JT (J0 e_Z3_ok JU) ((q_Z4 ..).trans ((c_Z4_bind ..).trans (JB hy)))⟩

/-!-/
def c_Z5 {R:Type} (x0 x1:Int) (k:Int×Int→Option R):Option R:=
 k (x0,x1)
theorem c_Z5_bind {R:Type} (x0 x1:Int) (k:Int×Int→Option R):c_Z5 x0 x1 k=(c_Z5 x0 x1 some).bind k:=by
 unfold c_Z5
 repeat' first
  | exact J7
  | exact J6
  | exact J5
  | apply J2
  | apply J3
  | apply J8
  | (apply J4;intro _)
  | intro _
def Z5 (x0 x1:Int):Option (Int×Int):=c_Z5 x0 x1 some
def e_Z5:Ent:=⟨55,[.agg [.int .i64,.int .i64]],[(.agg [.int .i64,.int .i64],[.undef])],fun _ ds k=>dI (fun x0 ds=>dI (fun x1 ds=>dE ((Z5 x0 x1).bind (fun y=>k 0 [.I y.1,.I y.2])) ds) ds) ds⟩
theorem q_Z5 (x0 x1:Int):QD (JP []) (JQ []) A 55 Try.f55 (Sh.mks e_Z5.sh [.I x0,.I x1]).1 (fun v os=>some (v,os))=c_Z5 x0 x1 (fun y=>QO e_Z5 0 [.I y.1,.I y.2]):=by kernel_rfl
theorem e_Z5_ok:e_Z5.ok Try.prog A:=by
 intro R ds k r h
 unfold e_Z5 at h
 obtain ⟨_,_,rfl,h⟩:=Jf h
 obtain ⟨_,_,rfl,h⟩:=Jf h
 obtain ⟨rfl,hE⟩:=Jt h
 obtain ⟨y,hy,hk⟩:=Ju hE
 exact ⟨0,_,_,_,hk,rfl,QP px (fx:=⟨Try.func55,by kernel_rfl,by kernel_rfl⟩) JT JU ((q_Z5 ..).trans ((c_Z5_bind ..).trans (JB hy)))⟩

/-!-/
abbrev T_Z6:=List D→Int→List D→Option (List D)
def c_Z6 {R:Type} (F:T_Z6) (x0:List D) (x1:Int) (x2:List D) (k:List D→Option R):Option R:=
 bif decide (x1<(↑x0.length:Int)) then
 if 0≤x1∧x1<(↑x0.length:Int) then
 (Z5 (((x0.getD x1.toNat (D.int 0)).fld (0:Nat)).toInt) (((x0.getD x1.toNat (D.int 0)).fld (1:Nat)).toInt)).bind (fun y0=>
 if 0≤x1∧x1<(↑x2.length:Int) then
 if x1.toNat+1≤x2.length then
 (F x0 (IntKind.i64.wrap (x1+1)) (x2.set x1.toNat (D.node [D.int y0.fst,D.int y0.snd]))).bind k
 else
 none
 else
 none)
 else
 none
 else
 k x2
theorem c_Z6_bind {R:Type} (F:T_Z6) (x0:List D) (x1:Int) (x2:List D) (k:List D→Option R):c_Z6 F x0 x1 x2 k=(c_Z6 F x0 x1 x2 some).bind k:=by
 unfold c_Z6
 repeat' first
  | exact J7
  | exact J6
  | exact J5
  | apply J2
  | apply J3
  | apply J8
  | (apply J4;intro _)
  | intro _
def n_Z6:Nat→T_Z6
 | 0,_,_,_=>none
 | n+1,x0,x1,x2=>c_Z6 (n_Z6 n) x0 x1 x2 some
noncomputable def Z6 (x0:List D) (x1:Int) (x2:List D):Option (List D):=ev (fun n=>n_Z6 n x0 x1 x2)
def m_Z6 (F:T_Z6):JS:=⟨3,⟨(.rd (.struct [.int .i64,.int .i64])::.undef::.undef::.full 1000 [] (.struct [.int .i64,.int .i64])::.int .i64::uu 18 ([])),[(1000,.own (.struct [.int .i64,.int .i64]))]⟩,[(.exit 0,⟨(.undef::.undef::.undef::.full 1000 [] (.struct [.int .i64,.int .i64])::uu 19 ([])),[(1000,.own (.struct [.int .i64,.int .i64]))]⟩)],fun _ ds k=>dL (fun x0 ds=>dI (fun x1 ds=>dL (fun x2 ds=>dE ((F x0 x1 x2).bind (fun y=>k 0 [.L y])) ds) ds) ds) ds⟩
theorem q_Z6 (F:T_Z6) (x0:List D) (x1:Int) (x2:List D):Q3 (JP [e_Z5]) (JQ [m_Z6 F]) A 17 (JG (JA Try.f17) 3) ((m_Z6 F).sh.mk' [.L x0,.I x1,.L x2]) (fun e σ'=>some (e,σ'))=c_Z6 F x0 x1 x2 (fun y=>some (.exit 0,SSt.mk' ⟨(.undef::.undef::.undef::.full 1000 [] (.struct [.int .i64,.int .i64])::uu 19 ([])),[(1000,.own (.struct [.int .i64,.int .i64]))]⟩ [.L y])):=by kernel_rfl
theorem m_Z6_ok:∀ n,(m_Z6 (n_Z6 n)).ok Try.prog (JG (JA Try.f17) 3):=by
 intro n
 induction n with
 | zero=>
  intro R ds k r h
  unfold m_Z6 at h
  obtain ⟨_,_,rfl,h⟩:=Jg h
  obtain ⟨_,_,rfl,h⟩:=Jf h
  obtain ⟨_,_,rfl,h⟩:=Jg h
  obtain ⟨rfl,hE⟩:=Jt h
  obtain ⟨y,hy,hk⟩:=Ju hE
  cases hy
 | succ n ih=>
  intro R ds k r h
  unfold m_Z6 at h
  obtain ⟨_,_,rfl,h⟩:=Jg h
  obtain ⟨_,_,rfl,h⟩:=Jf h
  obtain ⟨_,_,rfl,h⟩:=Jg h
  obtain ⟨rfl,hE⟩:=Jt h
  obtain ⟨y,hy,hk⟩:=Ju hE
  exact ⟨0,_,_,_,hk,rfl,QG px (fx:=⟨Try.func17,by kernel_rfl,by kernel_rfl⟩) (Qp e_Z5_ok JT) (J0 ih JU) (by kernel_rfl) ((q_Z6 ..).trans ((c_Z6_bind ..).trans (JB hy)))⟩
noncomputable def e_Z6:JS:=m_Z6 (Z6)
theorem e_Z6_ok:(e_Z6).ok Try.prog (JG (JA Try.f17) 3):=by
 intro R ds k r h
 unfold e_Z6 m_Z6 at h
 obtain ⟨_,_,rfl,h⟩:=Jg h
 obtain ⟨_,_,rfl,h⟩:=Jf h
 obtain ⟨_,_,rfl,h⟩:=Jg h
 obtain ⟨rfl,hE⟩:=Jt h
 obtain ⟨y,hy,hk⟩:=Ju hE
 obtain ⟨n,hn⟩:=Uc hy
 exact m_Z6_ok n R _ k r ((JB hn).trans hk)

/-!-/
def c_Z7 {R:Type} (x0:List D) (k:List D→Option R):Option R:=
 if (0:Int)≤(↑x0.length:Int)∧(↑x0.length:Int)≤(↑x0.length:Int)∧(↑x0.length:Int)≤(4294967296:Int) then
 (Z6 x0 (0:Int) (List.replicate (↑x0.length:Int).toNat (D.node [D.int 0,D.int 0]))).bind (fun y0=>
 k y0)
 else
 none
theorem c_Z7_bind {R:Type} (x0:List D) (k:List D→Option R):c_Z7 x0 k=(c_Z7 x0 some).bind k:=by
 unfold c_Z7
 repeat' first
  | exact J7
  | exact J6
  | exact J5
  | apply J2
  | apply J3
  | apply J8
  | (apply J4;intro _)
  | intro _
def Z7 (x0:List D):Option (List D):=c_Z7 x0 some
def e_Z7:Ent:=⟨17,[.rd (.struct [.int .i64,.int .i64])],[(.own (.struct [.int .i64,.int .i64]),[.undef])],fun _ ds k=>dL (fun x0 ds=>dE ((Z7 x0).bind (fun y=>k 0 [.L y])) ds) ds⟩
theorem q_Z7 (x0:List D):QD (JP []) (JQ [e_Z6]) A 17 Try.f17 (Sh.mks e_Z7.sh [.L x0]).1 (fun v os=>some (v,os))=c_Z7 x0 (fun y=>QO e_Z7 0 [.L y]):=by kernel_rfl
theorem e_Z7_ok:e_Z7.ok Try.prog A:=by
 intro R ds k r h
 unfold e_Z7 at h
 obtain ⟨_,_,rfl,h⟩:=Jg h
 obtain ⟨rfl,hE⟩:=Jt h
 obtain ⟨y,hy,hk⟩:=Ju hE
 exact ⟨0,_,_,_,hk,rfl,QP px (fx:=⟨Try.func17,by kernel_rfl,by kernel_rfl⟩) JT (J0 e_Z6_ok JU) ((q_Z7 ..).trans ((c_Z7_bind ..).trans (JB hy)))⟩

/-!-/
def c_Z8 {R:Type} (x0 x1 x2:Int) (k:Bool→Option R):Option R:=
 bif decide (x1≤x0) then
 k (decide (x0≤x2))
 else
 k Bool.false
theorem c_Z8_bind {R:Type} (x0 x1 x2:Int) (k:Bool→Option R):c_Z8 x0 x1 x2 k=(c_Z8 x0 x1 x2 some).bind k:=by
 unfold c_Z8
 repeat' first
  | exact J7
  | exact J6
  | exact J5
  | apply J2
  | apply J3
  | apply J8
  | (apply J4;intro _)
  | intro _
def Z8 (x0 x1 x2:Int):Option (Bool):=c_Z8 x0 x1 x2 some
def e_Z8:Ent:=⟨54,[.int .i64,.int .i64,.int .i64],[(.bool,[.undef,.undef,.undef])],fun _ ds k=>dI (fun x0 ds=>dI (fun x1 ds=>dI (fun x2 ds=>dE ((Z8 x0 x1 x2).bind (fun y=>k 0 [.B y])) ds) ds) ds) ds⟩
theorem q_Z8 (x0 x1 x2:Int):QD (JP []) (JQ []) A 54 Try.f54 (Sh.mks e_Z8.sh [.I x0,.I x1,.I x2]).1 (fun v os=>some (v,os))=c_Z8 x0 x1 x2 (fun y=>QO e_Z8 0 [.B y]):=by kernel_rfl
theorem e_Z8_ok:e_Z8.ok Try.prog A:=by
 intro R ds k r h
 unfold e_Z8 at h
 obtain ⟨_,_,rfl,h⟩:=Jf h
 obtain ⟨_,_,rfl,h⟩:=Jf h
 obtain ⟨_,_,rfl,h⟩:=Jf h
 obtain ⟨rfl,hE⟩:=Jt h
 obtain ⟨y,hy,hk⟩:=Ju hE
 exact ⟨0,_,_,_,hk,rfl,QP px (fx:=⟨Try.func54,by kernel_rfl,by kernel_rfl⟩) JT JU ((q_Z8 ..).trans ((c_Z8_bind ..).trans (JB hy)))⟩

/-!-/
abbrev T_Z9:=List D→List D→Int→Option ((List D×List D×Bool)⊕(List D×List D))
def c_Z9 {R:Type} (F:T_Z9) (x0 x1:List D) (x2:Int) (k:(List D×List D×Bool)⊕(List D×List D)→Option R):Option R:=
 bif decide (x2<(↑x0.length:Int)) then
 if 0≤x2∧x2<(↑x0.length:Int) then
 (Z8 (((x0.getD x2.toNat (D.int 0)).fld (0:Nat)).toInt) (1:Int) (999:Int)).bind (fun y0=>
 bif !y0 then
 k (.inl (x0,x1,Bool.false))
 else
 (Z8 (((x0.getD x2.toNat (D.int 0)).fld (1:Nat)).toInt) (0:Int) (9:Int)).bind (fun y1=>
 bif !y1 then
 k (.inl (x0,x1,Bool.false))
 else
 (Z8 (((x0.getD x2.toNat (D.int 0)).fld (2:Nat)).toInt) (0:Int) (3599:Int)).bind (fun y2=>
 bif !y2 then
 k (.inl (x0,x1,Bool.false))
 else
 (Z8 (((x0.getD x2.toNat (D.int 0)).fld (3:Nat)).toInt) (1:Int) (3600:Int)).bind (fun y3=>
 bif !y3 then
 k (.inl (x0,x1,Bool.false))
 else
 (F x0 x1 (IntKind.i64.wrap (x2+1))).bind k))))
 else
 none
 else
 k (.inr (x0,x1))
theorem c_Z9_bind {R:Type} (F:T_Z9) (x0 x1:List D) (x2:Int) (k:(List D×List D×Bool)⊕(List D×List D)→Option R):c_Z9 F x0 x1 x2 k=(c_Z9 F x0 x1 x2 some).bind k:=by
 unfold c_Z9
 repeat' first
  | exact J7
  | exact J6
  | exact J5
  | apply J2
  | apply J3
  | apply J8
  | (apply J4;intro _)
  | intro _
def n_Z9:Nat→T_Z9
 | 0,_,_,_=>none
 | n+1,x0,x1,x2=>c_Z9 (n_Z9 n) x0 x1 x2 some
noncomputable def Z9 (x0 x1:List D) (x2:Int):Option ((List D×List D×Bool)⊕(List D×List D)):=ev (fun n=>n_Z9 n x0 x1 x2)
def m_Z9 (F:T_Z9):JS:=⟨4,⟨(.rd (.struct [.int .i64,.int .i64,.int .i64,.int .i64])::.rd (.struct [.int .i64,.int .i64])::.undef::.undef::.undef::.int .i64::uu 104 ([])),[]⟩,[(.ret,⟨(.rd (.struct [.int .i64,.int .i64,.int .i64,.int .i64])::.rd (.struct [.int .i64,.int .i64])::.undef::.undef::.bool::uu 105 ([])),[]⟩),(.exit 0,⟨(.rd (.struct [.int .i64,.int .i64,.int .i64,.int .i64])::.rd (.struct [.int .i64,.int .i64])::uu 108 ([])),[]⟩)],fun _ ds k=>dL (fun x0 ds=>dL (fun x1 ds=>dI (fun x2 ds=>dE ((F x0 x1 x2).bind (Sum.elim (fun y=>k 0 [.L y.1,.L y.2.1,.B y.2.2]) (fun y=>k 1 [.L y.1,.L y.2]))) ds) ds) ds) ds⟩
theorem q_Z9 (F:T_Z9) (x0 x1:List D) (x2:Int):Q3 (JP [e_Z8]) (JQ [m_Z9 F]) A 47 (JG (JA Try.f47) 4) ((m_Z9 F).sh.mk' [.L x0,.L x1,.I x2]) (fun e σ'=>some (e,σ'))=c_Z9 F x0 x1 x2 (Sum.elim (fun y=>some (.ret,SSt.mk' ⟨(.rd (.struct [.int .i64,.int .i64,.int .i64,.int .i64])::.rd (.struct [.int .i64,.int .i64])::.undef::.undef::.bool::uu 105 ([])),[]⟩ [.L y.1,.L y.2.1,.B y.2.2])) (fun y=>some (.exit 0,SSt.mk' ⟨(.rd (.struct [.int .i64,.int .i64,.int .i64,.int .i64])::.rd (.struct [.int .i64,.int .i64])::uu 108 ([])),[]⟩ [.L y.1,.L y.2]))):=by kernel_rfl
theorem m_Z9_ok:∀ n,(m_Z9 (n_Z9 n)).ok Try.prog (JG (JA Try.f47) 4):=by
 intro n
 induction n with
 | zero=>
  intro R ds k r h
  unfold m_Z9 at h
  obtain ⟨_,_,rfl,h⟩:=Jg h
  obtain ⟨_,_,rfl,h⟩:=Jg h
  obtain ⟨_,_,rfl,h⟩:=Jf h
  obtain ⟨rfl,hE⟩:=Jt h
  obtain ⟨y,hy,hk⟩:=Ju hE
  cases hy
 | succ n ih=>
  intro R ds k r h
  unfold m_Z9 at h
  obtain ⟨_,_,rfl,h⟩:=Jg h
  obtain ⟨_,_,rfl,h⟩:=Jg h
  obtain ⟨_,_,rfl,h⟩:=Jf h
  obtain ⟨rfl,hE⟩:=Jt h
  obtain ⟨y,hy,hk⟩:=Ju hE
  cases y with
  | inl y=>
   exact ⟨0,_,_,_,hk,rfl,QG px (fx:=⟨Try.func47,by kernel_rfl,by kernel_rfl⟩) (Qp e_Z8_ok JT) (J0 ih JU) (by kernel_rfl) ((q_Z9 ..).trans ((c_Z9_bind ..).trans (JB hy)))⟩
  | inr y=>
   exact ⟨1,_,_,_,hk,rfl,QG px (fx:=⟨Try.func47,by kernel_rfl,by kernel_rfl⟩) (Qp e_Z8_ok JT) (J0 ih JU) (by kernel_rfl) ((q_Z9 ..).trans ((c_Z9_bind ..).trans (JB hy)))⟩
noncomputable def e_Z9:JS:=m_Z9 (Z9)
theorem e_Z9_ok:(e_Z9).ok Try.prog (JG (JA Try.f47) 4):=by
 intro R ds k r h
 unfold e_Z9 m_Z9 at h
 obtain ⟨_,_,rfl,h⟩:=Jg h
 obtain ⟨_,_,rfl,h⟩:=Jg h
 obtain ⟨_,_,rfl,h⟩:=Jf h
 obtain ⟨rfl,hE⟩:=Jt h
 obtain ⟨y,hy,hk⟩:=Ju hE
 obtain ⟨n,hn⟩:=Uc hy
 exact m_Z9_ok n R _ k r ((JB hn).trans hk)

/-!-/
abbrev T_Z10:=List D→List D→Int→Option ((Bool)⊕(Unit))
def c_Z10 {R:Type} (F:T_Z10) (x0 x1:List D) (x2:Int) (k:(Bool)⊕(Unit)→Option R):Option R:=
 bif decide (x2<(↑x1.length:Int)) then
 if 0≤x2∧x2<(↑x1.length:Int) then
 (Z8 (((x1.getD x2.toNat (D.int 0)).fld (1:Nat)).toInt) (1:Int) (IntKind.i64.wrap ((↑x0.length:Int) - (1:Int)))).bind (fun y0=>
 bif !y0 then
 k (.inl Bool.false)
 else
 (Z8 (((x1.getD x2.toNat (D.int 0)).fld (0:Nat)).toInt) (0:Int) (IntKind.i64.wrap (((x1.getD x2.toNat (D.int 0)).fld (1:Nat)).toInt - (1:Int)))).bind (fun y1=>
 bif !y1 then
 k (.inl Bool.false)
 else
 bif decide ((0:Int)<x2) then
 if (0:Int)≤IntKind.i64.wrap (x2 - 1)∧IntKind.i64.wrap (x2 - 1)<(↑x1.length:Int) then
 bif decide (((x1.getD x2.toNat (D.int 0)).fld (0:Nat)).toInt<((x1.getD (IntKind.i64.wrap (x2 - 1)).toNat (D.int 0)).fld (0:Nat)).toInt) then
 k (.inl Bool.false)
 else
 if (0:Int)≤IntKind.i64.wrap (x2 - 1)∧IntKind.i64.wrap (x2 - 1)<(↑x1.length:Int) then
 bif decide (((x1.getD (IntKind.i64.wrap (x2 - 1)).toNat (D.int 0)).fld (0:Nat)).toInt=((x1.getD x2.toNat (D.int 0)).fld (0:Nat)).toInt) then
 if (0:Int)≤IntKind.i64.wrap (x2 - 1)∧IntKind.i64.wrap (x2 - 1)<(↑x1.length:Int) then
 bif decide (((x1.getD x2.toNat (D.int 0)).fld (1:Nat)).toInt≤((x1.getD (IntKind.i64.wrap (x2 - 1)).toNat (D.int 0)).fld (1:Nat)).toInt) then
 k (.inl Bool.false)
 else
 (F x0 x1 (IntKind.i64.wrap (x2+1))).bind k
 else
 none
 else
 (F x0 x1 (IntKind.i64.wrap (x2+1))).bind k
 else
 none
 else
 none
 else
 (F x0 x1 (IntKind.i64.wrap (x2+1))).bind k))
 else
 none
 else
 k (.inr ())
theorem c_Z10_bind {R:Type} (F:T_Z10) (x0 x1:List D) (x2:Int) (k:(Bool)⊕(Unit)→Option R):c_Z10 F x0 x1 x2 k=(c_Z10 F x0 x1 x2 some).bind k:=by
 unfold c_Z10
 repeat' first
  | exact J7
  | exact J6
  | exact J5
  | apply J2
  | apply J3
  | apply J8
  | (apply J4;intro _)
  | intro _
def n_Z10:Nat→T_Z10
 | 0,_,_,_=>none
 | n+1,x0,x1,x2=>c_Z10 (n_Z10 n) x0 x1 x2 some
noncomputable def Z10 (x0 x1:List D) (x2:Int):Option ((Bool)⊕(Unit)):=ev (fun n=>n_Z10 n x0 x1 x2)
def m_Z10 (F:T_Z10):JS:=⟨10,⟨(.rd (.struct [.int .i64,.int .i64,.int .i64,.int .i64])::.rd (.struct [.int .i64,.int .i64])::uu 5 (.int .i64::uu 102 ([]))),[]⟩,[(.ret,⟨(uu 4 (.bool::uu 105 ([]))),[]⟩),(.exit 2,⟨(uu 110 ([])),[]⟩)],fun _ ds k=>dL (fun x0 ds=>dL (fun x1 ds=>dI (fun x2 ds=>dE ((F x0 x1 x2).bind (Sum.elim (fun y=>k 0 [.B y]) (fun y=>k 1 []))) ds) ds) ds) ds⟩
theorem q_Z10 (F:T_Z10) (x0 x1:List D) (x2:Int):Q3 (JP [e_Z8]) (JQ [m_Z10 F]) A 47 (JG (JA Try.f47) 10) ((m_Z10 F).sh.mk' [.L x0,.L x1,.I x2]) (fun e σ'=>some (e,σ'))=c_Z10 F x0 x1 x2 (Sum.elim (fun y=>some (.ret,SSt.mk' ⟨(uu 4 (.bool::uu 105 ([]))),[]⟩ [.B y])) (fun y=>some (.exit 2,SSt.mk' ⟨(uu 110 ([])),[]⟩ []))):=by kernel_rfl
theorem m_Z10_ok:∀ n,(m_Z10 (n_Z10 n)).ok Try.prog (JG (JA Try.f47) 10):=by
 intro n
 induction n with
 | zero=>
  intro R ds k r h
  unfold m_Z10 at h
  obtain ⟨_,_,rfl,h⟩:=Jg h
  obtain ⟨_,_,rfl,h⟩:=Jg h
  obtain ⟨_,_,rfl,h⟩:=Jf h
  obtain ⟨rfl,hE⟩:=Jt h
  obtain ⟨y,hy,hk⟩:=Ju hE
  cases hy
 | succ n ih=>
  intro R ds k r h
  unfold m_Z10 at h
  obtain ⟨_,_,rfl,h⟩:=Jg h
  obtain ⟨_,_,rfl,h⟩:=Jg h
  obtain ⟨_,_,rfl,h⟩:=Jf h
  obtain ⟨rfl,hE⟩:=Jt h
  obtain ⟨y,hy,hk⟩:=Ju hE
  cases y with
  | inl y=>
   exact ⟨0,_,_,_,hk,rfl,QG px (fx:=⟨Try.func47,by kernel_rfl,by kernel_rfl⟩) (Qp e_Z8_ok JT) (J0 ih JU) (by kernel_rfl) ((q_Z10 ..).trans ((c_Z10_bind ..).trans (JB hy)))⟩
  | inr y=>
   exact ⟨1,_,_,_,hk,rfl,QG px (fx:=⟨Try.func47,by kernel_rfl,by kernel_rfl⟩) (Qp e_Z8_ok JT) (J0 ih JU) (by kernel_rfl) ((q_Z10 ..).trans ((c_Z10_bind ..).trans (JB hy)))⟩
noncomputable def e_Z10:JS:=m_Z10 (Z10)
theorem e_Z10_ok:(e_Z10).ok Try.prog (JG (JA Try.f47) 10):=by
 intro R ds k r h
 unfold e_Z10 m_Z10 at h
 obtain ⟨_,_,rfl,h⟩:=Jg h
 obtain ⟨_,_,rfl,h⟩:=Jg h
 obtain ⟨_,_,rfl,h⟩:=Jf h
 obtain ⟨rfl,hE⟩:=Jt h
 obtain ⟨y,hy,hk⟩:=Ju hE
 obtain ⟨n,hn⟩:=Uc hy
 exact m_Z10_ok n R _ k r ((JB hn).trans hk)

/-!-/
def c_Z11 {R:Type} (x0 x1:List D) (k:Bool→Option R):Option R:=
 bif decide ((12:Int)<(↑x0.length:Int)) then
 k Bool.false
 else
 bif decide ((20:Int)<(↑x1.length:Int)) then
 k Bool.false
 else
 (Z9 x0 x1 (0:Int)).bind (Sum.elim (fun y0=>
 k y0.snd.snd) (fun y1=>
 (Z10 y1.fst y1.snd (0:Int)).bind (Sum.elim (fun y2=>
 k y2) (fun y3=>
 k Bool.true))))
theorem c_Z11_bind {R:Type} (x0 x1:List D) (k:Bool→Option R):c_Z11 x0 x1 k=(c_Z11 x0 x1 some).bind k:=by
 unfold c_Z11
 repeat' first
  | exact J7
  | exact J6
  | exact J5
  | apply J2
  | apply J3
  | apply J8
  | (apply J4;intro _)
  | intro _
def Z11 (x0 x1:List D):Option (Bool):=c_Z11 x0 x1 some
def e_Z11:Ent:=⟨47,[.rd (.struct [.int .i64,.int .i64,.int .i64,.int .i64]),.rd (.struct [.int .i64,.int .i64])],[(.bool,[.undef,.undef])],fun _ ds k=>dL (fun x0 ds=>dL (fun x1 ds=>dE ((Z11 x0 x1).bind (fun y=>k 0 [.B y])) ds) ds) ds⟩
theorem q_Z11 (x0 x1:List D):QD (JP []) (JQ [e_Z9,e_Z10]) A 47 Try.f47 (Sh.mks e_Z11.sh [.L x0,.L x1]).1 (fun v os=>some (v,os))=c_Z11 x0 x1 (fun y=>QO e_Z11 0 [.B y]):=by kernel_rfl
theorem e_Z11_ok:e_Z11.ok Try.prog A:=by
 intro R ds k r h
 unfold e_Z11 at h
 obtain ⟨_,_,rfl,h⟩:=Jg h
 obtain ⟨_,_,rfl,h⟩:=Jg h
 obtain ⟨rfl,hE⟩:=Jt h
 obtain ⟨y,hy,hk⟩:=Ju hE
 exact ⟨0,_,_,_,hk,rfl,QP px (fx:=⟨Try.func47,by kernel_rfl,by kernel_rfl⟩) JT (J0 e_Z9_ok (J0 e_Z10_ok JU)) ((q_Z11 ..).trans ((c_Z11_bind ..).trans (JB hy)))⟩

/-!-/
abbrev T_Z12:=Int→List D→Int→List D→Option (List D×List D)
def c_Z12 {R:Type} (F:T_Z12) (x0:Int) (x1:List D) (x2:Int) (x3:List D) (k:List D×List D→Option R):Option R:=
 bif decide (x2<x0) then
 if x3.length+[D.int x2].length≤(4294967296:Nat) then
 (F x0 x1 (IntKind.i64.wrap (x2+1)) (x3++[D.int x2])).bind k
 else
 none
 else
 k (x1,x3)
theorem c_Z12_bind {R:Type} (F:T_Z12) (x0:Int) (x1:List D) (x2:Int) (x3:List D) (k:List D×List D→Option R):c_Z12 F x0 x1 x2 x3 k=(c_Z12 F x0 x1 x2 x3 some).bind k:=by
 unfold c_Z12
 repeat' first
  | exact J7
  | exact J6
  | exact J5
  | apply J2
  | apply J3
  | apply J8
  | (apply J4;intro _)
  | intro _
def n_Z12:Nat→T_Z12
 | 0,_,_,_,_=>none
 | n+1,x0,x1,x2,x3=>c_Z12 (n_Z12 n) x0 x1 x2 x3 some
noncomputable def Z12 (x0:Int) (x1:List D) (x2:Int) (x3:List D):Option (List D×List D):=ev (fun n=>n_Z12 n x0 x1 x2 x3)
def m_Z12 (F:T_Z12):JS:=⟨3,⟨(.int .i64::.rd (.struct [.int .i64,.int .i64])::.undef::.undef::.undef::.full 1000 [] (.int .i64)::.int .i64::uu 59 ([])),[(1000,.own (.int .i64))]⟩,[(.exit 0,⟨(.undef::.rd (.struct [.int .i64,.int .i64])::.undef::.undef::.undef::.full 1000 [] (.int .i64)::uu 60 ([])),[(1000,.own (.int .i64))]⟩)],fun _ ds k=>dI (fun x0 ds=>dL (fun x1 ds=>dI (fun x2 ds=>dL (fun x3 ds=>dE ((F x0 x1 x2 x3).bind (fun y=>k 0 [.L y.1,.L y.2])) ds) ds) ds) ds) ds⟩
theorem q_Z12 (F:T_Z12) (x0:Int) (x1:List D) (x2:Int) (x3:List D):Q3 (JP []) (JQ [m_Z12 F]) A 66 (JG (JA Try.f66) 3) ((m_Z12 F).sh.mk' [.I x0,.L x1,.I x2,.L x3]) (fun e σ'=>some (e,σ'))=c_Z12 F x0 x1 x2 x3 (fun y=>some (.exit 0,SSt.mk' ⟨(.undef::.rd (.struct [.int .i64,.int .i64])::.undef::.undef::.undef::.full 1000 [] (.int .i64)::uu 60 ([])),[(1000,.own (.int .i64))]⟩ [.L y.1,.L y.2])):=by kernel_rfl
theorem m_Z12_ok:∀ n,(m_Z12 (n_Z12 n)).ok Try.prog (JG (JA Try.f66) 3):=by
 intro n
 induction n with
 | zero=>
  intro R ds k r h
  unfold m_Z12 at h
  obtain ⟨_,_,rfl,h⟩:=Jf h
  obtain ⟨_,_,rfl,h⟩:=Jg h
  obtain ⟨_,_,rfl,h⟩:=Jf h
  obtain ⟨_,_,rfl,h⟩:=Jg h
  obtain ⟨rfl,hE⟩:=Jt h
  obtain ⟨y,hy,hk⟩:=Ju hE
  cases hy
 | succ n ih=>
  intro R ds k r h
  unfold m_Z12 at h
  obtain ⟨_,_,rfl,h⟩:=Jf h
  obtain ⟨_,_,rfl,h⟩:=Jg h
  obtain ⟨_,_,rfl,h⟩:=Jf h
  obtain ⟨_,_,rfl,h⟩:=Jg h
  obtain ⟨rfl,hE⟩:=Jt h
  obtain ⟨y,hy,hk⟩:=Ju hE
  exact ⟨0,_,_,_,hk,rfl,QG px (fx:=⟨Try.func66,by kernel_rfl,by kernel_rfl⟩) JT (J0 ih JU) (by kernel_rfl) ((q_Z12 ..).trans ((c_Z12_bind ..).trans (JB hy)))⟩
noncomputable def e_Z12:JS:=m_Z12 (Z12)
theorem e_Z12_ok:(e_Z12).ok Try.prog (JG (JA Try.f66) 3):=by
 intro R ds k r h
 unfold e_Z12 m_Z12 at h
 obtain ⟨_,_,rfl,h⟩:=Jf h
 obtain ⟨_,_,rfl,h⟩:=Jg h
 obtain ⟨_,_,rfl,h⟩:=Jf h
 obtain ⟨_,_,rfl,h⟩:=Jg h
 obtain ⟨rfl,hE⟩:=Jt h
 obtain ⟨y,hy,hk⟩:=Ju hE
 obtain ⟨n,hn⟩:=Uc hy
 exact m_Z12_ok n R _ k r ((JB hn).trans hk)

/-!-/
def c_Z13 {R:Type} (x0 x1:Int) (k:Int→Option R):Option R:=
 bif decide (x0<x1) then
 k x0
 else
 k x1
theorem c_Z13_bind {R:Type} (x0 x1:Int) (k:Int→Option R):c_Z13 x0 x1 k=(c_Z13 x0 x1 some).bind k:=by
 unfold c_Z13
 repeat' first
  | exact J7
  | exact J6
  | exact J5
  | apply J2
  | apply J3
  | apply J8
  | (apply J4;intro _)
  | intro _
def Z13 (x0 x1:Int):Option (Int):=c_Z13 x0 x1 some
def e_Z13:Ent:=⟨72,[.int .i64,.int .i64],[(.int .i64,[.undef,.undef])],fun _ ds k=>dI (fun x0 ds=>dI (fun x1 ds=>dE ((Z13 x0 x1).bind (fun y=>k 0 [.I y])) ds) ds) ds⟩
theorem q_Z13 (x0 x1:Int):QD (JP []) (JQ []) A 72 Try.f72 (Sh.mks e_Z13.sh [.I x0,.I x1]).1 (fun v os=>some (v,os))=c_Z13 x0 x1 (fun y=>QO e_Z13 0 [.I y]):=by kernel_rfl
theorem e_Z13_ok:e_Z13.ok Try.prog A:=by
 intro R ds k r h
 unfold e_Z13 at h
 obtain ⟨_,_,rfl,h⟩:=Jf h
 obtain ⟨_,_,rfl,h⟩:=Jf h
 obtain ⟨rfl,hE⟩:=Jt h
 obtain ⟨y,hy,hk⟩:=Ju hE
 exact ⟨0,_,_,_,hk,rfl,QP px (fx:=⟨Try.func72,by kernel_rfl,by kernel_rfl⟩) JT JU ((q_Z13 ..).trans ((c_Z13_bind ..).trans (JB hy)))⟩

/-!-/
abbrev T_Z14:=List D→Bool→Int→List D→Option (List D×Bool×List D)
def c_Z14 {R:Type} (F:T_Z14) (x0:List D) (x1:Bool) (x2:Int) (x3:List D) (k:List D×Bool×List D→Option R):Option R:=
 bif decide (x2<(↑x0.length:Int)) then
 if 0≤x2∧x2<(↑x0.length:Int) then
 if 0≤x2∧x2<(↑x0.length:Int) then
 if (0:Int)≤((x0.getD x2.toNat (D.int 0)).fld (0:Nat)).toInt∧((x0.getD x2.toNat (D.int 0)).fld (0:Nat)).toInt<(↑x3.length:Int) then
 if ((x0.getD x2.toNat (D.int 0)).fld (0:Nat)).toInt.toNat+1≤x3.length then
 if (0:Int)≤((x0.getD x2.toNat (D.int 0)).fld (1:Nat)).toInt∧((x0.getD x2.toNat (D.int 0)).fld (1:Nat)).toInt<(↑x3.length:Int) then
 if ((x0.getD x2.toNat (D.int 0)).fld (1:Nat)).toInt.toNat+1≤x3.length then
 bif !decide ((x3.getD ((x0.getD x2.toNat (D.int 0)).fld (0:Nat)).toInt.toNat (D.int 0)).toInt=(x3.getD ((x0.getD x2.toNat (D.int 0)).fld (1:Nat)).toInt.toNat (D.int 0)).toInt) then
 if (0:Int)≤((x0.getD x2.toNat (D.int 0)).fld (0:Nat)).toInt∧((x0.getD x2.toNat (D.int 0)).fld (0:Nat)).toInt<(↑x3.length:Int) then
 if ((x0.getD x2.toNat (D.int 0)).fld (0:Nat)).toInt.toNat+1≤x3.length then
 if (0:Int)≤((x0.getD x2.toNat (D.int 0)).fld (1:Nat)).toInt∧((x0.getD x2.toNat (D.int 0)).fld (1:Nat)).toInt<(↑x3.length:Int) then
 if ((x0.getD x2.toNat (D.int 0)).fld (1:Nat)).toInt.toNat+1≤x3.length then
 (Z13 ((x3.getD ((x0.getD x2.toNat (D.int 0)).fld (0:Nat)).toInt.toNat (D.int 0)).toInt) ((x3.getD ((x0.getD x2.toNat (D.int 0)).fld (1:Nat)).toInt.toNat (D.int 0)).toInt)).bind (fun y0=>
 if (0:Int)≤((x0.getD x2.toNat (D.int 0)).fld (0:Nat)).toInt∧((x0.getD x2.toNat (D.int 0)).fld (0:Nat)).toInt<(↑x3.length:Int) then
 if ((x0.getD x2.toNat (D.int 0)).fld (0:Nat)).toInt.toNat+1≤x3.length then
 if (0:Int)≤((x0.getD x2.toNat (D.int 0)).fld (1:Nat)).toInt∧((x0.getD x2.toNat (D.int 0)).fld (1:Nat)).toInt<(↑(x3.set ((x0.getD x2.toNat (D.int 0)).fld (0:Nat)).toInt.toNat (D.int y0)).length:Int) then
 if ((x0.getD x2.toNat (D.int 0)).fld (1:Nat)).toInt.toNat+1≤(x3.set ((x0.getD x2.toNat (D.int 0)).fld (0:Nat)).toInt.toNat (D.int y0)).length then
 (F x0 Bool.true (IntKind.i64.wrap (x2+1)) ((x3.set ((x0.getD x2.toNat (D.int 0)).fld (0:Nat)).toInt.toNat (D.int y0)).set ((x0.getD x2.toNat (D.int 0)).fld (1:Nat)).toInt.toNat (D.int y0))).bind k
 else
 none
 else
 none
 else
 none
 else
 none)
 else
 none
 else
 none
 else
 none
 else
 none
 else
 (F x0 x1 (IntKind.i64.wrap (x2+1)) x3).bind k
 else
 none
 else
 none
 else
 none
 else
 none
 else
 none
 else
 none
 else
 k (x0,x1,x3)
theorem c_Z14_bind {R:Type} (F:T_Z14) (x0:List D) (x1:Bool) (x2:Int) (x3:List D) (k:List D×Bool×List D→Option R):c_Z14 F x0 x1 x2 x3 k=(c_Z14 F x0 x1 x2 x3 some).bind k:=by
 unfold c_Z14
 repeat' first
  | exact J7
  | exact J6
  | exact J5
  | apply J2
  | apply J3
  | apply J8
  | (apply J4;intro _)
  | intro _
def n_Z14:Nat→T_Z14
 | 0,_,_,_,_=>none
 | n+1,x0,x1,x2,x3=>c_Z14 (n_Z14 n) x0 x1 x2 x3 some
noncomputable def Z14 (x0:List D) (x1:Bool) (x2:Int) (x3:List D):Option (List D×Bool×List D):=ev (fun n=>n_Z14 n x0 x1 x2 x3)
def m_Z14 (F:T_Z14):JS:=⟨10,⟨(.undef::.rd (.struct [.int .i64,.int .i64])::.undef::.undef::.undef::.full 1000 [] (.int .i64)::.undef::.bool::.int .i64::uu 57 ([])),[(1000,.own (.int .i64))]⟩,[(.exit 4,⟨(.undef::.rd (.struct [.int .i64,.int .i64])::.undef::.undef::.undef::.full 1000 [] (.int .i64)::.undef::.bool::uu 58 ([])),[(1000,.own (.int .i64))]⟩)],fun _ ds k=>dL (fun x0 ds=>dB (fun x1 ds=>dI (fun x2 ds=>dL (fun x3 ds=>dE ((F x0 x1 x2 x3).bind (fun y=>k 0 [.L y.1,.B y.2.1,.L y.2.2])) ds) ds) ds) ds) ds⟩
theorem q_Z14 (F:T_Z14) (x0:List D) (x1:Bool) (x2:Int) (x3:List D):Q3 (JP [e_Z13]) (JQ [m_Z14 F]) A 66 (JG (JA Try.f66) 10) ((m_Z14 F).sh.mk' [.L x0,.B x1,.I x2,.L x3]) (fun e σ'=>some (e,σ'))=c_Z14 F x0 x1 x2 x3 (fun y=>some (.exit 4,SSt.mk' ⟨(.undef::.rd (.struct [.int .i64,.int .i64])::.undef::.undef::.undef::.full 1000 [] (.int .i64)::.undef::.bool::uu 58 ([])),[(1000,.own (.int .i64))]⟩ [.L y.1,.B y.2.1,.L y.2.2])):=by kernel_rfl
theorem m_Z14_ok:∀ n,(m_Z14 (n_Z14 n)).ok Try.prog (JG (JA Try.f66) 10):=by
 intro n
 induction n with
 | zero=>
  intro R ds k r h
  unfold m_Z14 at h
  obtain ⟨_,_,rfl,h⟩:=Jg h
  obtain ⟨_,_,rfl,h⟩:=CS h
  obtain ⟨_,_,rfl,h⟩:=Jf h
  obtain ⟨_,_,rfl,h⟩:=Jg h
  obtain ⟨rfl,hE⟩:=Jt h
  obtain ⟨y,hy,hk⟩:=Ju hE
  cases hy
 | succ n ih=>
  intro R ds k r h
  unfold m_Z14 at h
  obtain ⟨_,_,rfl,h⟩:=Jg h
  obtain ⟨_,_,rfl,h⟩:=CS h
  obtain ⟨_,_,rfl,h⟩:=Jf h
  obtain ⟨_,_,rfl,h⟩:=Jg h
  obtain ⟨rfl,hE⟩:=Jt h
  obtain ⟨y,hy,hk⟩:=Ju hE
  exact ⟨0,_,_,_,hk,rfl,QG px (fx:=⟨Try.func66,by kernel_rfl,by kernel_rfl⟩) (Qp e_Z13_ok JT) (J0 ih JU) (by kernel_rfl) ((q_Z14 ..).trans ((c_Z14_bind ..).trans (JB hy)))⟩
noncomputable def e_Z14:JS:=m_Z14 (Z14)
theorem e_Z14_ok:(e_Z14).ok Try.prog (JG (JA Try.f66) 10):=by
 intro R ds k r h
 unfold e_Z14 m_Z14 at h
 obtain ⟨_,_,rfl,h⟩:=Jg h
 obtain ⟨_,_,rfl,h⟩:=CS h
 obtain ⟨_,_,rfl,h⟩:=Jf h
 obtain ⟨_,_,rfl,h⟩:=Jg h
 obtain ⟨rfl,hE⟩:=Jt h
 obtain ⟨y,hy,hk⟩:=Ju hE
 obtain ⟨n,hn⟩:=Uc hy
 exact m_Z14_ok n R _ k r ((JB hn).trans hk)

/-!-/
abbrev T_Z15:=List D→Bool→List D→Option (List D)
def c_Z15 {R:Type} (F:T_Z15) (x0:List D) (x1:Bool) (x2:List D) (k:List D→Option R):Option R:=
 bif x1 then
 (Z14 x0 Bool.false (0:Int) x2).bind (fun y0=>
 (F y0.fst y0.snd.fst y0.snd.snd).bind k)
 else
 k x2
theorem c_Z15_bind {R:Type} (F:T_Z15) (x0:List D) (x1:Bool) (x2:List D) (k:List D→Option R):c_Z15 F x0 x1 x2 k=(c_Z15 F x0 x1 x2 some).bind k:=by
 unfold c_Z15
 repeat' first
  | exact J7
  | exact J6
  | exact J5
  | apply J2
  | apply J3
  | apply J8
  | (apply J4;intro _)
  | intro _
def n_Z15:Nat→T_Z15
 | 0,_,_,_=>none
 | n+1,x0,x1,x2=>c_Z15 (n_Z15 n) x0 x1 x2 some
noncomputable def Z15 (x0:List D) (x1:Bool) (x2:List D):Option (List D):=ev (fun n=>n_Z15 n x0 x1 x2)
def m_Z15 (F:T_Z15):JS:=⟨7,⟨(.undef::.rd (.struct [.int .i64,.int .i64])::.undef::.undef::.undef::.full 1000 [] (.int .i64)::.undef::.bool::uu 58 ([])),[(1000,.own (.int .i64))]⟩,[(.exit 2,⟨(uu 5 (.full 1000 [] (.int .i64)::uu 60 ([]))),[(1000,.own (.int .i64))]⟩)],fun _ ds k=>dL (fun x0 ds=>dB (fun x1 ds=>dL (fun x2 ds=>dE ((F x0 x1 x2).bind (fun y=>k 0 [.L y])) ds) ds) ds) ds⟩
theorem q_Z15 (F:T_Z15) (x0:List D) (x1:Bool) (x2:List D):Q3 (JP []) (JQ [m_Z15 F,e_Z14]) A 66 (JG (JA Try.f66) 7) ((m_Z15 F).sh.mk' [.L x0,.B x1,.L x2]) (fun e σ'=>some (e,σ'))=c_Z15 F x0 x1 x2 (fun y=>some (.exit 2,SSt.mk' ⟨(uu 5 (.full 1000 [] (.int .i64)::uu 60 ([]))),[(1000,.own (.int .i64))]⟩ [.L y])):=by kernel_rfl
theorem m_Z15_ok:∀ n,(m_Z15 (n_Z15 n)).ok Try.prog (JG (JA Try.f66) 7):=by
 intro n
 induction n with
 | zero=>
  intro R ds k r h
  unfold m_Z15 at h
  obtain ⟨_,_,rfl,h⟩:=Jg h
  obtain ⟨_,_,rfl,h⟩:=CS h
  obtain ⟨_,_,rfl,h⟩:=Jg h
  obtain ⟨rfl,hE⟩:=Jt h
  obtain ⟨y,hy,hk⟩:=Ju hE
  cases hy
 | succ n ih=>
  intro R ds k r h
  unfold m_Z15 at h
  obtain ⟨_,_,rfl,h⟩:=Jg h
  obtain ⟨_,_,rfl,h⟩:=CS h
  obtain ⟨_,_,rfl,h⟩:=Jg h
  obtain ⟨rfl,hE⟩:=Jt h
  obtain ⟨y,hy,hk⟩:=Ju hE
  exact ⟨0,_,_,_,hk,rfl,QG px (fx:=⟨Try.func66,by kernel_rfl,by kernel_rfl⟩) JT (J0 ih (J0 e_Z14_ok JU)) (by kernel_rfl) ((q_Z15 ..).trans ((c_Z15_bind ..).trans (JB hy)))⟩
noncomputable def e_Z15:JS:=m_Z15 (Z15)
theorem e_Z15_ok:(e_Z15).ok Try.prog (JG (JA Try.f66) 7):=by
 intro R ds k r h
 unfold e_Z15 m_Z15 at h
 obtain ⟨_,_,rfl,h⟩:=Jg h
 obtain ⟨_,_,rfl,h⟩:=CS h
 obtain ⟨_,_,rfl,h⟩:=Jg h
 obtain ⟨rfl,hE⟩:=Jt h
 obtain ⟨y,hy,hk⟩:=Ju hE
 obtain ⟨n,hn⟩:=Uc hy
 exact m_Z15_ok n R _ k r ((JB hn).trans hk)

/-!-/
def c_Z16 {R:Type} (x0:Int) (x1:List D) (k:List D→Option R):Option R:=
 (Z12 x0 x1 (0:Int) []).bind (fun y0=>
 (Z15 y0.fst Bool.true y0.snd).bind (fun y1=>
 k y1))
theorem c_Z16_bind {R:Type} (x0:Int) (x1:List D) (k:List D→Option R):c_Z16 x0 x1 k=(c_Z16 x0 x1 some).bind k:=by
 unfold c_Z16
 repeat' first
  | exact J7
  | exact J6
  | exact J5
  | apply J2
  | apply J3
  | apply J8
  | (apply J4;intro _)
  | intro _
def Z16 (x0:Int) (x1:List D):Option (List D):=c_Z16 x0 x1 some
def e_Z16:Ent:=⟨66,[.int .i64,.rd (.struct [.int .i64,.int .i64])],[(.own (.int .i64),[.undef,.undef])],fun _ ds k=>dI (fun x0 ds=>dL (fun x1 ds=>dE ((Z16 x0 x1).bind (fun y=>k 0 [.L y])) ds) ds) ds⟩
theorem q_Z16 (x0:Int) (x1:List D):QD (JP []) (JQ [e_Z12,e_Z15]) A 66 Try.f66 (Sh.mks e_Z16.sh [.I x0,.L x1]).1 (fun v os=>some (v,os))=c_Z16 x0 x1 (fun y=>QO e_Z16 0 [.L y]):=by kernel_rfl
theorem e_Z16_ok:e_Z16.ok Try.prog A:=by
 intro R ds k r h
 unfold e_Z16 at h
 obtain ⟨_,_,rfl,h⟩:=Jf h
 obtain ⟨_,_,rfl,h⟩:=Jg h
 obtain ⟨rfl,hE⟩:=Jt h
 obtain ⟨y,hy,hk⟩:=Ju hE
 exact ⟨0,_,_,_,hk,rfl,QP px (fx:=⟨Try.func66,by kernel_rfl,by kernel_rfl⟩) JT (J0 e_Z12_ok (J0 e_Z15_ok JU)) ((q_Z16 ..).trans ((c_Z16_bind ..).trans (JB hy)))⟩

/-!-/
abbrev T_Z17:=Int→Int→Int→List D→List D→List D→Option (Int×Int×List D×List D×List D)
def c_Z17 {R:Type} (F:T_Z17) (x0 x1 x2:Int) (x3 x4 x5:List D) (k:Int×Int×List D×List D×List D→Option R):Option R:=
 bif decide (x2<x0) then
 if 0≤x2∧x2<(↑x3.length:Int) then
 if x2.toNat+1≤x3.length then
 bif decide ((x3.getD x2.toNat (D.int 0)).toInt=x1) then
 if x5.length+[D.int x2].length≤(4294967296:Nat) then
 (F x0 x1 (IntKind.i64.wrap (x2+1)) x3 x4 (x5++[D.int x2])).bind k
 else
 none
 else
 (F x0 x1 (IntKind.i64.wrap (x2+1)) x3 x4 x5).bind k
 else
 none
 else
 none
 else
 k (x0,x1,x3,x4,x5)
theorem c_Z17_bind {R:Type} (F:T_Z17) (x0 x1 x2:Int) (x3 x4 x5:List D) (k:Int×Int×List D×List D×List D→Option R):c_Z17 F x0 x1 x2 x3 x4 x5 k=(c_Z17 F x0 x1 x2 x3 x4 x5 some).bind k:=by
 unfold c_Z17
 repeat' first
  | exact J7
  | exact J6
  | exact J5
  | apply J2
  | apply J3
  | apply J8
  | (apply J4;intro _)
  | intro _
def n_Z17:Nat→T_Z17
 | 0,_,_,_,_,_,_=>none
 | n+1,x0,x1,x2,x3,x4,x5=>c_Z17 (n_Z17 n) x0 x1 x2 x3 x4 x5 some
noncomputable def Z17 (x0 x1 x2:Int) (x3 x4 x5:List D):Option (Int×Int×List D×List D×List D):=ev (fun n=>n_Z17 n x0 x1 x2 x3 x4 x5)
def m_Z17 (F:T_Z17):JS:=⟨8,⟨(.int .i64::uu 4 (.full 1000 [] (.int .i64)::.full 1001 [] (.slice (.int .i64))::.int .i64::.full 1002 [] (.int .i64)::.int .i64::uu 34 ([]))),[(1000,.own (.int .i64)),(1001,.own (.slice (.int .i64))),(1002,.own (.int .i64))]⟩,[(.exit 2,⟨(.int .i64::uu 4 (.full 1000 [] (.int .i64)::.full 1001 [] (.slice (.int .i64))::.int .i64::.full 1002 [] (.int .i64)::uu 35 ([]))),[(1000,.own (.int .i64)),(1001,.own (.slice (.int .i64))),(1002,.own (.int .i64))]⟩)],fun _ ds k=>dI (fun x0 ds=>dI (fun x1 ds=>dI (fun x2 ds=>dL (fun x3 ds=>dL (fun x4 ds=>dL (fun x5 ds=>dE ((F x0 x1 x2 x3 x4 x5).bind (fun y=>k 0 [.I y.1,.I y.2.1,.L y.2.2.1,.L y.2.2.2.1,.L y.2.2.2.2])) ds) ds) ds) ds) ds) ds) ds⟩
theorem q_Z17 (F:T_Z17) (x0 x1 x2:Int) (x3 x4 x5:List D):Q3 (JP []) (JQ [m_Z17 F]) A 53 (JG (JA Try.f53) 8) ((m_Z17 F).sh.mk' [.I x0,.I x1,.I x2,.L x3,.L x4,.L x5]) (fun e σ'=>some (e,σ'))=c_Z17 F x0 x1 x2 x3 x4 x5 (fun y=>some (.exit 2,SSt.mk' ⟨(.int .i64::uu 4 (.full 1000 [] (.int .i64)::.full 1001 [] (.slice (.int .i64))::.int .i64::.full 1002 [] (.int .i64)::uu 35 ([]))),[(1000,.own (.int .i64)),(1001,.own (.slice (.int .i64))),(1002,.own (.int .i64))]⟩ [.I y.1,.I y.2.1,.L y.2.2.1,.L y.2.2.2.1,.L y.2.2.2.2])):=by kernel_rfl
theorem m_Z17_ok:∀ n,(m_Z17 (n_Z17 n)).ok Try.prog (JG (JA Try.f53) 8):=by
 intro n
 induction n with
 | zero=>
  intro R ds k r h
  unfold m_Z17 at h
  obtain ⟨_,_,rfl,h⟩:=Jf h
  obtain ⟨_,_,rfl,h⟩:=Jf h
  obtain ⟨_,_,rfl,h⟩:=Jf h
  obtain ⟨_,_,rfl,h⟩:=Jg h
  obtain ⟨_,_,rfl,h⟩:=Jg h
  obtain ⟨_,_,rfl,h⟩:=Jg h
  obtain ⟨rfl,hE⟩:=Jt h
  obtain ⟨y,hy,hk⟩:=Ju hE
  cases hy
 | succ n ih=>
  intro R ds k r h
  unfold m_Z17 at h
  obtain ⟨_,_,rfl,h⟩:=Jf h
  obtain ⟨_,_,rfl,h⟩:=Jf h
  obtain ⟨_,_,rfl,h⟩:=Jf h
  obtain ⟨_,_,rfl,h⟩:=Jg h
  obtain ⟨_,_,rfl,h⟩:=Jg h
  obtain ⟨_,_,rfl,h⟩:=Jg h
  obtain ⟨rfl,hE⟩:=Jt h
  obtain ⟨y,hy,hk⟩:=Ju hE
  exact ⟨0,_,_,_,hk,rfl,QG px (fx:=⟨Try.func53,by kernel_rfl,by kernel_rfl⟩) JT (J0 ih JU) (by kernel_rfl) ((q_Z17 ..).trans ((c_Z17_bind ..).trans (JB hy)))⟩
noncomputable def e_Z17:JS:=m_Z17 (Z17)
theorem e_Z17_ok:(e_Z17).ok Try.prog (JG (JA Try.f53) 8):=by
 intro R ds k r h
 unfold e_Z17 m_Z17 at h
 obtain ⟨_,_,rfl,h⟩:=Jf h
 obtain ⟨_,_,rfl,h⟩:=Jf h
 obtain ⟨_,_,rfl,h⟩:=Jf h
 obtain ⟨_,_,rfl,h⟩:=Jg h
 obtain ⟨_,_,rfl,h⟩:=Jg h
 obtain ⟨_,_,rfl,h⟩:=Jg h
 obtain ⟨rfl,hE⟩:=Jt h
 obtain ⟨y,hy,hk⟩:=Ju hE
 obtain ⟨n,hn⟩:=Uc hy
 exact m_Z17_ok n R _ k r ((JB hn).trans hk)

/-!-/
abbrev T_Z18:=Int→Int→List D→List D→Option (List D)
def c_Z18 {R:Type} (F:T_Z18) (x0 x1:Int) (x2 x3:List D) (k:List D→Option R):Option R:=
 bif decide (x1<x0) then
 (Z17 x0 x1 x1 x2 x3 []).bind (fun y0=>
 bif decide ((0:Int)<(↑y0.snd.snd.snd.snd.length:Int)) then
 if y0.snd.snd.snd.fst.length+[D.node y0.snd.snd.snd.snd].length≤(4294967296:Nat) then
 (F y0.fst (IntKind.i64.wrap (y0.snd.fst+1)) y0.snd.snd.fst (y0.snd.snd.snd.fst++[D.node y0.snd.snd.snd.snd])).bind k
 else
 none
 else
 (F y0.fst (IntKind.i64.wrap (y0.snd.fst+1)) y0.snd.snd.fst y0.snd.snd.snd.fst).bind k)
 else
 k x3
theorem c_Z18_bind {R:Type} (F:T_Z18) (x0 x1:Int) (x2 x3:List D) (k:List D→Option R):c_Z18 F x0 x1 x2 x3 k=(c_Z18 F x0 x1 x2 x3 some).bind k:=by
 unfold c_Z18
 repeat' first
  | exact J7
  | exact J6
  | exact J5
  | apply J2
  | apply J3
  | apply J8
  | (apply J4;intro _)
  | intro _
def n_Z18:Nat→T_Z18
 | 0,_,_,_,_=>none
 | n+1,x0,x1,x2,x3=>c_Z18 (n_Z18 n) x0 x1 x2 x3 some
noncomputable def Z18 (x0 x1:Int) (x2 x3:List D):Option (List D):=ev (fun n=>n_Z18 n x0 x1 x2 x3)
def m_Z18 (F:T_Z18):JS:=⟨4,⟨(.int .i64::uu 4 (.full 1000 [] (.int .i64)::.full 1001 [] (.slice (.int .i64))::.int .i64::uu 36 ([]))),[(1000,.own (.int .i64)),(1001,.own (.slice (.int .i64)))]⟩,[(.exit 0,⟨(uu 6 (.full 1000 [] (.slice (.int .i64))::uu 37 ([]))),[(1000,.own (.slice (.int .i64)))]⟩)],fun _ ds k=>dI (fun x0 ds=>dI (fun x1 ds=>dL (fun x2 ds=>dL (fun x3 ds=>dE ((F x0 x1 x2 x3).bind (fun y=>k 0 [.L y])) ds) ds) ds) ds) ds⟩
theorem q_Z18 (F:T_Z18) (x0 x1:Int) (x2 x3:List D):Q3 (JP []) (JQ [m_Z18 F,e_Z17]) A 53 (JG (JA Try.f53) 4) ((m_Z18 F).sh.mk' [.I x0,.I x1,.L x2,.L x3]) (fun e σ'=>some (e,σ'))=c_Z18 F x0 x1 x2 x3 (fun y=>some (.exit 0,SSt.mk' ⟨(uu 6 (.full 1000 [] (.slice (.int .i64))::uu 37 ([]))),[(1000,.own (.slice (.int .i64)))]⟩ [.L y])):=by kernel_rfl
theorem m_Z18_ok:∀ n,(m_Z18 (n_Z18 n)).ok Try.prog (JG (JA Try.f53) 4):=by
 intro n
 induction n with
 | zero=>
  intro R ds k r h
  unfold m_Z18 at h
  obtain ⟨_,_,rfl,h⟩:=Jf h
  obtain ⟨_,_,rfl,h⟩:=Jf h
  obtain ⟨_,_,rfl,h⟩:=Jg h
  obtain ⟨_,_,rfl,h⟩:=Jg h
  obtain ⟨rfl,hE⟩:=Jt h
  obtain ⟨y,hy,hk⟩:=Ju hE
  cases hy
 | succ n ih=>
  intro R ds k r h
  unfold m_Z18 at h
  obtain ⟨_,_,rfl,h⟩:=Jf h
  obtain ⟨_,_,rfl,h⟩:=Jf h
  obtain ⟨_,_,rfl,h⟩:=Jg h
  obtain ⟨_,_,rfl,h⟩:=Jg h
  obtain ⟨rfl,hE⟩:=Jt h
  obtain ⟨y,hy,hk⟩:=Ju hE
  exact ⟨0,_,_,_,hk,rfl,QG px (fx:=⟨Try.func53,by kernel_rfl,by kernel_rfl⟩) JT (J0 ih (J0 e_Z17_ok JU)) (by kernel_rfl) ((q_Z18 ..).trans ((c_Z18_bind ..).trans (JB hy)))⟩
noncomputable def e_Z18:JS:=m_Z18 (Z18)
theorem e_Z18_ok:(e_Z18).ok Try.prog (JG (JA Try.f53) 4):=by
 intro R ds k r h
 unfold e_Z18 m_Z18 at h
 obtain ⟨_,_,rfl,h⟩:=Jf h
 obtain ⟨_,_,rfl,h⟩:=Jf h
 obtain ⟨_,_,rfl,h⟩:=Jg h
 obtain ⟨_,_,rfl,h⟩:=Jg h
 obtain ⟨rfl,hE⟩:=Jt h
 obtain ⟨y,hy,hk⟩:=Ju hE
 obtain ⟨n,hn⟩:=Uc hy
 exact m_Z18_ok n R _ k r ((JB hn).trans hk)

/-!-/
def c_Z19 {R:Type} (x0:Int) (x1:List D) (k:List D→Option R):Option R:=
 (Z16 x0 x1).bind (fun y0=>
 (Z18 x0 (0:Int) y0 []).bind (fun y1=>
 k y1))
theorem c_Z19_bind {R:Type} (x0:Int) (x1:List D) (k:List D→Option R):c_Z19 x0 x1 k=(c_Z19 x0 x1 some).bind k:=by
 unfold c_Z19
 repeat' first
  | exact J7
  | exact J6
  | exact J5
  | apply J2
  | apply J3
  | apply J8
  | (apply J4;intro _)
  | intro _
def Z19 (x0:Int) (x1:List D):Option (List D):=c_Z19 x0 x1 some
def e_Z19:Ent:=⟨53,[.int .i64,.rd (.struct [.int .i64,.int .i64])],[(.own (.slice (.int .i64)),[.undef,.undef])],fun _ ds k=>dI (fun x0 ds=>dL (fun x1 ds=>dE ((Z19 x0 x1).bind (fun y=>k 0 [.L y])) ds) ds) ds⟩
theorem q_Z19 (x0:Int) (x1:List D):QD (JP [e_Z16]) (JQ [e_Z18]) A 53 Try.f53 (Sh.mks e_Z19.sh [.I x0,.L x1]).1 (fun v os=>some (v,os))=c_Z19 x0 x1 (fun y=>QO e_Z19 0 [.L y]):=by kernel_rfl
theorem e_Z19_ok:e_Z19.ok Try.prog A:=by
 intro R ds k r h
 unfold e_Z19 at h
 obtain ⟨_,_,rfl,h⟩:=Jf h
 obtain ⟨_,_,rfl,h⟩:=Jg h
 obtain ⟨rfl,hE⟩:=Jt h
 obtain ⟨y,hy,hk⟩:=Ju hE
 exact ⟨0,_,_,_,hk,rfl,QP px (fx:=⟨Try.func53,by kernel_rfl,by kernel_rfl⟩) (Qp e_Z16_ok JT) (J0 e_Z18_ok JU) ((q_Z19 ..).trans ((c_Z19_bind ..).trans (JB hy)))⟩

/-!-/
abbrev T_Z20:=List D→Int→Int→Int→Bool→Int→List D→Option (List D×Int×Int×Int×Bool×List D)
def c_Z20 {R:Type} (F:T_Z20) (x0:List D) (x1 x2 x3:Int) (x4:Bool) (x5:Int) (x6:List D) (k:List D×Int×Int×Int×Bool×List D→Option R):Option R:=
 if 0≤x1∧x1<(↑x6.length:Int) then
 if x1.toNat+1≤x6.length then
 if x1.toNat+1≤x6.length then
 bif decide (x5<(↑(x6.getD x1.toNat (D.int 0)).items.length:Int)) then
 if 0≤x1∧x1<(↑x6.length:Int) then
 if x1.toNat+1≤x6.length then
 if x1.toNat+1≤x6.length then
 if 0≤x5∧x5<(↑(x6.getD x1.toNat (D.int 0)).items.length:Int) then
 if x1.toNat+1≤x6.length then
 if x5.toNat+1≤(x6.getD x1.toNat (D.int 0)).items.length then
 if (0:Int)≤((x6.getD x1.toNat (D.int 0)).items.getD x5.toNat (D.int 0)).toInt∧((x6.getD x1.toNat (D.int 0)).items.getD x5.toNat (D.int 0)).toInt<(↑x0.length:Int) then
 bif x4 then
 (F x0 x1 x2 x3 Bool.true (IntKind.i64.wrap (x5+1)) x6).bind k
 else
 if (3600:Int)≠(0:Int) then
 (F x0 x1 x2 x3 (decide ((IntKind.i64.wrap (IntKind.i64.wrap (x3 - ((x0.getD ((x6.getD x1.toNat (D.int 0)).items.getD x5.toNat (D.int 0)).toInt.toNat (D.int 0)).fld (2:Nat)).toInt)+(3600:Int))).tmod (3600:Int)<((x0.getD ((x6.getD x1.toNat (D.int 0)).items.getD x5.toNat (D.int 0)).toInt.toNat (D.int 0)).fld (3:Nat)).toInt)) (IntKind.i64.wrap (x5+1)) x6).bind k
 else
 none
 else
 none
 else
 none
 else
 none
 else
 none
 else
 none
 else
 none
 else
 none
 else
 k (x0,x1,x2,x3,x4,x6)
 else
 none
 else
 none
 else
 none
theorem c_Z20_bind {R:Type} (F:T_Z20) (x0:List D) (x1 x2 x3:Int) (x4:Bool) (x5:Int) (x6:List D) (k:List D×Int×Int×Int×Bool×List D→Option R):c_Z20 F x0 x1 x2 x3 x4 x5 x6 k=(c_Z20 F x0 x1 x2 x3 x4 x5 x6 some).bind k:=by
 unfold c_Z20
 repeat' first
  | exact J7
  | exact J6
  | exact J5
  | apply J2
  | apply J3
  | apply J8
  | (apply J4;intro _)
  | intro _
def n_Z20:Nat→T_Z20
 | 0,_,_,_,_,_,_,_=>none
 | n+1,x0,x1,x2,x3,x4,x5,x6=>c_Z20 (n_Z20 n) x0 x1 x2 x3 x4 x5 x6 some
noncomputable def Z20 (x0:List D) (x1 x2 x3:Int) (x4:Bool) (x5:Int) (x6:List D):Option (List D×Int×Int×Int×Bool×List D):=ev (fun n=>n_Z20 n x0 x1 x2 x3 x4 x5 x6)
def m_Z20 (F:T_Z20):JS:=⟨12,⟨(.rd (.struct [.int .i64,.int .i64,.int .i64,.int .i64])::.undef::.int .i64::uu 5 (.full 1000 [] (.slice (.int .i64))::.int .i64::.int .i64::.bool::.int .i64::uu 54 ([]))),[(1000,.own (.slice (.int .i64)))]⟩,[(.exit 2,⟨(.rd (.struct [.int .i64,.int .i64,.int .i64,.int .i64])::.undef::.int .i64::uu 5 (.full 1000 [] (.slice (.int .i64))::.int .i64::.int .i64::.bool::uu 55 ([]))),[(1000,.own (.slice (.int .i64)))]⟩)],fun _ ds k=>dL (fun x0 ds=>dI (fun x1 ds=>dI (fun x2 ds=>dI (fun x3 ds=>dB (fun x4 ds=>dI (fun x5 ds=>dL (fun x6 ds=>dE ((F x0 x1 x2 x3 x4 x5 x6).bind (fun y=>k 0 [.L y.1,.I y.2.1,.I y.2.2.1,.I y.2.2.2.1,.B y.2.2.2.2.1,.L y.2.2.2.2.2])) ds) ds) ds) ds) ds) ds) ds) ds⟩
theorem q_Z20 (F:T_Z20) (x0:List D) (x1 x2 x3:Int) (x4:Bool) (x5:Int) (x6:List D):Q3 (JP []) (JQ [m_Z20 F]) A 16 (JG (JA Try.f16) 12) ((m_Z20 F).sh.mk' [.L x0,.I x1,.I x2,.I x3,.B x4,.I x5,.L x6]) (fun e σ'=>some (e,σ'))=c_Z20 F x0 x1 x2 x3 x4 x5 x6 (fun y=>some (.exit 2,SSt.mk' ⟨(.rd (.struct [.int .i64,.int .i64,.int .i64,.int .i64])::.undef::.int .i64::uu 5 (.full 1000 [] (.slice (.int .i64))::.int .i64::.int .i64::.bool::uu 55 ([]))),[(1000,.own (.slice (.int .i64)))]⟩ [.L y.1,.I y.2.1,.I y.2.2.1,.I y.2.2.2.1,.B y.2.2.2.2.1,.L y.2.2.2.2.2])):=by kernel_rfl
theorem m_Z20_ok:∀ n,(m_Z20 (n_Z20 n)).ok Try.prog (JG (JA Try.f16) 12):=by
 intro n
 induction n with
 | zero=>
  intro R ds k r h
  unfold m_Z20 at h
  obtain ⟨_,_,rfl,h⟩:=Jg h
  obtain ⟨_,_,rfl,h⟩:=Jf h
  obtain ⟨_,_,rfl,h⟩:=Jf h
  obtain ⟨_,_,rfl,h⟩:=Jf h
  obtain ⟨_,_,rfl,h⟩:=CS h
  obtain ⟨_,_,rfl,h⟩:=Jf h
  obtain ⟨_,_,rfl,h⟩:=Jg h
  obtain ⟨rfl,hE⟩:=Jt h
  obtain ⟨y,hy,hk⟩:=Ju hE
  cases hy
 | succ n ih=>
  intro R ds k r h
  unfold m_Z20 at h
  obtain ⟨_,_,rfl,h⟩:=Jg h
  obtain ⟨_,_,rfl,h⟩:=Jf h
  obtain ⟨_,_,rfl,h⟩:=Jf h
  obtain ⟨_,_,rfl,h⟩:=Jf h
  obtain ⟨_,_,rfl,h⟩:=CS h
  obtain ⟨_,_,rfl,h⟩:=Jf h
  obtain ⟨_,_,rfl,h⟩:=Jg h
  obtain ⟨rfl,hE⟩:=Jt h
  obtain ⟨y,hy,hk⟩:=Ju hE
  exact ⟨0,_,_,_,hk,rfl,QG px (fx:=⟨Try.func16,by kernel_rfl,by kernel_rfl⟩) JT (J0 ih JU) (by kernel_rfl) ((q_Z20 ..).trans ((c_Z20_bind ..).trans (JB hy)))⟩
noncomputable def e_Z20:JS:=m_Z20 (Z20)
theorem e_Z20_ok:(e_Z20).ok Try.prog (JG (JA Try.f16) 12):=by
 intro R ds k r h
 unfold e_Z20 m_Z20 at h
 obtain ⟨_,_,rfl,h⟩:=Jg h
 obtain ⟨_,_,rfl,h⟩:=Jf h
 obtain ⟨_,_,rfl,h⟩:=Jf h
 obtain ⟨_,_,rfl,h⟩:=Jf h
 obtain ⟨_,_,rfl,h⟩:=CS h
 obtain ⟨_,_,rfl,h⟩:=Jf h
 obtain ⟨_,_,rfl,h⟩:=Jg h
 obtain ⟨rfl,hE⟩:=Jt h
 obtain ⟨y,hy,hk⟩:=Ju hE
 obtain ⟨n,hn⟩:=Uc hy
 exact m_Z20_ok n R _ k r ((JB hn).trans hk)

/-!-/
abbrev T_Z21:=List D→Int→Int→Int→List D→Option (Int)
def c_Z21 {R:Type} (F:T_Z21) (x0:List D) (x1 x2 x3:Int) (x4:List D) (k:Int→Option R):Option R:=
 bif decide (x3<(3600:Int)) then
 (Z20 x0 x1 x2 x3 Bool.false (0:Int) x4).bind (fun y0=>
 bif y0.snd.snd.snd.snd.fst then
 (F y0.fst y0.snd.fst (IntKind.i64.wrap (y0.snd.snd.fst+1)) (IntKind.i64.wrap (y0.snd.snd.snd.fst+1)) y0.snd.snd.snd.snd.snd).bind k
 else
 (F y0.fst y0.snd.fst y0.snd.snd.fst (IntKind.i64.wrap (y0.snd.snd.snd.fst+1)) y0.snd.snd.snd.snd.snd).bind k)
 else
 k x2
theorem c_Z21_bind {R:Type} (F:T_Z21) (x0:List D) (x1 x2 x3:Int) (x4:List D) (k:Int→Option R):c_Z21 F x0 x1 x2 x3 x4 k=(c_Z21 F x0 x1 x2 x3 x4 some).bind k:=by
 unfold c_Z21
 repeat' first
  | exact J7
  | exact J6
  | exact J5
  | apply J2
  | apply J3
  | apply J8
  | (apply J4;intro _)
  | intro _
def n_Z21:Nat→T_Z21
 | 0,_,_,_,_,_=>none
 | n+1,x0,x1,x2,x3,x4=>c_Z21 (n_Z21 n) x0 x1 x2 x3 x4 some
noncomputable def Z21 (x0:List D) (x1 x2 x3:Int) (x4:List D):Option (Int):=ev (fun n=>n_Z21 n x0 x1 x2 x3 x4)
def m_Z21 (F:T_Z21):JS:=⟨8,⟨(.rd (.struct [.int .i64,.int .i64,.int .i64,.int .i64])::.undef::.int .i64::uu 5 (.full 1000 [] (.slice (.int .i64))::.int .i64::.int .i64::uu 56 ([]))),[(1000,.own (.slice (.int .i64)))]⟩,[(.exit 0,⟨(uu 9 (.int .i64::uu 57 ([]))),[]⟩)],fun _ ds k=>dL (fun x0 ds=>dI (fun x1 ds=>dI (fun x2 ds=>dI (fun x3 ds=>dL (fun x4 ds=>dE ((F x0 x1 x2 x3 x4).bind (fun y=>k 0 [.I y])) ds) ds) ds) ds) ds) ds⟩
theorem q_Z21 (F:T_Z21) (x0:List D) (x1 x2 x3:Int) (x4:List D):Q3 (JP []) (JQ [m_Z21 F,e_Z20]) A 16 (JG (JA Try.f16) 8) ((m_Z21 F).sh.mk' [.L x0,.I x1,.I x2,.I x3,.L x4]) (fun e σ'=>some (e,σ'))=c_Z21 F x0 x1 x2 x3 x4 (fun y=>some (.exit 0,SSt.mk' ⟨(uu 9 (.int .i64::uu 57 ([]))),[]⟩ [.I y])):=by kernel_rfl
theorem m_Z21_ok:∀ n,(m_Z21 (n_Z21 n)).ok Try.prog (JG (JA Try.f16) 8):=by
 intro n
 induction n with
 | zero=>
  intro R ds k r h
  unfold m_Z21 at h
  obtain ⟨_,_,rfl,h⟩:=Jg h
  obtain ⟨_,_,rfl,h⟩:=Jf h
  obtain ⟨_,_,rfl,h⟩:=Jf h
  obtain ⟨_,_,rfl,h⟩:=Jf h
  obtain ⟨_,_,rfl,h⟩:=Jg h
  obtain ⟨rfl,hE⟩:=Jt h
  obtain ⟨y,hy,hk⟩:=Ju hE
  cases hy
 | succ n ih=>
  intro R ds k r h
  unfold m_Z21 at h
  obtain ⟨_,_,rfl,h⟩:=Jg h
  obtain ⟨_,_,rfl,h⟩:=Jf h
  obtain ⟨_,_,rfl,h⟩:=Jf h
  obtain ⟨_,_,rfl,h⟩:=Jf h
  obtain ⟨_,_,rfl,h⟩:=Jg h
  obtain ⟨rfl,hE⟩:=Jt h
  obtain ⟨y,hy,hk⟩:=Ju hE
  exact ⟨0,_,_,_,hk,rfl,QG px (fx:=⟨Try.func16,by kernel_rfl,by kernel_rfl⟩) JT (J0 ih (J0 e_Z20_ok JU)) (by kernel_rfl) ((q_Z21 ..).trans ((c_Z21_bind ..).trans (JB hy)))⟩
noncomputable def e_Z21:JS:=m_Z21 (Z21)
theorem e_Z21_ok:(e_Z21).ok Try.prog (JG (JA Try.f16) 8):=by
 intro R ds k r h
 unfold e_Z21 m_Z21 at h
 obtain ⟨_,_,rfl,h⟩:=Jg h
 obtain ⟨_,_,rfl,h⟩:=Jf h
 obtain ⟨_,_,rfl,h⟩:=Jf h
 obtain ⟨_,_,rfl,h⟩:=Jf h
 obtain ⟨_,_,rfl,h⟩:=Jg h
 obtain ⟨rfl,hE⟩:=Jt h
 obtain ⟨y,hy,hk⟩:=Ju hE
 obtain ⟨n,hn⟩:=Uc hy
 exact m_Z21_ok n R _ k r ((JB hn).trans hk)

/-!-/
def c_Z22 {R:Type} (x0 x1:List D) (x2:Int) (k:Int×Bool→Option R):Option R:=
 (Z11 x0 x1).bind (fun y0=>
 bif !y0 then
 k ((0:Int),Bool.false)
 else
 (Z19 (↑x0.length:Int) x1).bind (fun y1=>
 (Z8 x2 (0:Int) (IntKind.i64.wrap ((↑y1.length:Int) - (1:Int)))).bind (fun y2=>
 bif !y2 then
 k ((0:Int),Bool.false)
 else
 (Z21 x0 x2 (0:Int) (0:Int) y1).bind (fun y3=>
 k (y3,Bool.true)))))
theorem c_Z22_bind {R:Type} (x0 x1:List D) (x2:Int) (k:Int×Bool→Option R):c_Z22 x0 x1 x2 k=(c_Z22 x0 x1 x2 some).bind k:=by
 unfold c_Z22
 repeat' first
  | exact J7
  | exact J6
  | exact J5
  | apply J2
  | apply J3
  | apply J8
  | (apply J4;intro _)
  | intro _
def Z22 (x0 x1:List D) (x2:Int):Option (Int×Bool):=c_Z22 x0 x1 x2 some
def e_Z22:Ent:=⟨16,[.rd (.struct [.int .i64,.int .i64,.int .i64,.int .i64]),.rd (.struct [.int .i64,.int .i64]),.int .i64],[(.tup [.int .i64,.bool],[.undef,.undef,.undef])],fun _ ds k=>dL (fun x0 ds=>dL (fun x1 ds=>dI (fun x2 ds=>dE ((Z22 x0 x1 x2).bind (fun y=>k 0 [.I y.1,.B y.2])) ds) ds) ds) ds⟩
theorem q_Z22 (x0 x1:List D) (x2:Int):QD (JP [e_Z11,e_Z19,e_Z8]) (JQ [e_Z21]) A 16 Try.f16 (Sh.mks e_Z22.sh [.L x0,.L x1,.I x2]).1 (fun v os=>some (v,os))=c_Z22 x0 x1 x2 (fun y=>QO e_Z22 0 [.I y.1,.B y.2]):=by kernel_rfl
theorem e_Z22_ok:e_Z22.ok Try.prog A:=by
 intro R ds k r h
 unfold e_Z22 at h
 obtain ⟨_,_,rfl,h⟩:=Jg h
 obtain ⟨_,_,rfl,h⟩:=Jg h
 obtain ⟨_,_,rfl,h⟩:=Jf h
 obtain ⟨rfl,hE⟩:=Jt h
 obtain ⟨y,hy,hk⟩:=Ju hE
 exact ⟨0,_,_,_,hk,rfl,QP px (fx:=⟨Try.func16,by kernel_rfl,by kernel_rfl⟩) (Qp e_Z11_ok (Qp e_Z19_ok (Qp e_Z8_ok JT))) (J0 e_Z21_ok JU) ((q_Z22 ..).trans ((c_Z22_bind ..).trans (JB hy)))⟩

/-!-/
def c_Z23 {R:Type} (x0 x1 x2:Int) (k:Bool→Option R):Option R:=
 bif decide (x1≤x0) then
 k (decide (x0≤x2))
 else
 k Bool.false
theorem c_Z23_bind {R:Type} (x0 x1 x2:Int) (k:Bool→Option R):c_Z23 x0 x1 x2 k=(c_Z23 x0 x1 x2 some).bind k:=by
 unfold c_Z23
 repeat' first
  | exact J7
  | exact J6
  | exact J5
  | apply J2
  | apply J3
  | apply J8
  | (apply J4;intro _)
  | intro _
def Z23 (x0 x1 x2:Int):Option (Bool):=c_Z23 x0 x1 x2 some
def e_Z23:Ent:=⟨56,[.int .i64,.int .i64,.int .i64],[(.bool,[.undef,.undef,.undef])],fun _ ds k=>dI (fun x0 ds=>dI (fun x1 ds=>dI (fun x2 ds=>dE ((Z23 x0 x1 x2).bind (fun y=>k 0 [.B y])) ds) ds) ds) ds⟩
theorem q_Z23 (x0 x1 x2:Int):QD (JP []) (JQ []) A 56 Try.f56 (Sh.mks e_Z23.sh [.I x0,.I x1,.I x2]).1 (fun v os=>some (v,os))=c_Z23 x0 x1 x2 (fun y=>QO e_Z23 0 [.B y]):=by kernel_rfl
theorem e_Z23_ok:e_Z23.ok Try.prog A:=by
 intro R ds k r h
 unfold e_Z23 at h
 obtain ⟨_,_,rfl,h⟩:=Jf h
 obtain ⟨_,_,rfl,h⟩:=Jf h
 obtain ⟨_,_,rfl,h⟩:=Jf h
 obtain ⟨rfl,hE⟩:=Jt h
 obtain ⟨y,hy,hk⟩:=Ju hE
 exact ⟨0,_,_,_,hk,rfl,QP px (fx:=⟨Try.func56,by kernel_rfl,by kernel_rfl⟩) JT JU ((q_Z23 ..).trans ((c_Z23_bind ..).trans (JB hy)))⟩

/-!-/
def c_Z24 {R:Type} (x0:Int) (k:Bool→Option R):Option R:=
 (Z23 x0 (1:Int) (999:Int)).bind (fun y0=>
 k y0)
theorem c_Z24_bind {R:Type} (x0:Int) (k:Bool→Option R):c_Z24 x0 k=(c_Z24 x0 some).bind k:=by
 unfold c_Z24
 repeat' first
  | exact J7
  | exact J6
  | exact J5
  | apply J2
  | apply J3
  | apply J8
  | (apply J4;intro _)
  | intro _
def Z24 (x0:Int):Option (Bool):=c_Z24 x0 some
def e_Z24:Ent:=⟨68,[.int .i64],[(.bool,[.undef])],fun _ ds k=>dI (fun x0 ds=>dE ((Z24 x0).bind (fun y=>k 0 [.B y])) ds) ds⟩
theorem q_Z24 (x0:Int):QD (JP [e_Z23]) (JQ []) A 68 Try.f68 (Sh.mks e_Z24.sh [.I x0]).1 (fun v os=>some (v,os))=c_Z24 x0 (fun y=>QO e_Z24 0 [.B y]):=by kernel_rfl
theorem e_Z24_ok:e_Z24.ok Try.prog A:=by
 intro R ds k r h
 unfold e_Z24 at h
 obtain ⟨_,_,rfl,h⟩:=Jf h
 obtain ⟨rfl,hE⟩:=Jt h
 obtain ⟨y,hy,hk⟩:=Ju hE
 exact ⟨0,_,_,_,hk,rfl,QP px (fx:=⟨Try.func68,by kernel_rfl,by kernel_rfl⟩) (Qp e_Z23_ok JT) JU ((q_Z24 ..).trans ((c_Z24_bind ..).trans (JB hy)))⟩

/-!-/
abbrev T_Z25:=List D→List D→List D→Int→Int→Option ((List D×List D×Bool)⊕(List D×List D))
def c_Z25 {R:Type} (F:T_Z25) (x0 x1 x2:List D) (x3 x4:Int) (k:(List D×List D×Bool)⊕(List D×List D)→Option R):Option R:=
 bif decide (x4<x3) then
 if 0≤x4∧x4<(↑x2.length:Int) then
 (Z24 (((x2.getD x4.toNat (D.int 0)).fld (0:Nat)).toInt)).bind (fun y0=>
 bif !y0 then
 k (.inl (x0,x1,Bool.false))
 else
 (Z23 (((x2.getD x4.toNat (D.int 0)).fld (1:Nat)).toInt) (0:Int) (9:Int)).bind (fun y1=>
 bif !y1 then
 k (.inl (x0,x1,Bool.false))
 else
 (Z23 (((x2.getD x4.toNat (D.int 0)).fld (2:Nat)).toInt) (0:Int) (3599:Int)).bind (fun y2=>
 bif !y2 then
 k (.inl (x0,x1,Bool.false))
 else
 (Z23 (((x2.getD x4.toNat (D.int 0)).fld (3:Nat)).toInt) (1:Int) (3600:Int)).bind (fun y3=>
 bif !y3 then
 k (.inl (x0,x1,Bool.false))
 else
 (F x0 x1 x2 x3 (IntKind.i64.wrap (x4+1))).bind k))))
 else
 none
 else
 k (.inr (x0,x1))
theorem c_Z25_bind {R:Type} (F:T_Z25) (x0 x1 x2:List D) (x3 x4:Int) (k:(List D×List D×Bool)⊕(List D×List D)→Option R):c_Z25 F x0 x1 x2 x3 x4 k=(c_Z25 F x0 x1 x2 x3 x4 some).bind k:=by
 unfold c_Z25
 repeat' first
  | exact J7
  | exact J6
  | exact J5
  | apply J2
  | apply J3
  | apply J8
  | (apply J4;intro _)
  | intro _
def n_Z25:Nat→T_Z25
 | 0,_,_,_,_,_=>none
 | n+1,x0,x1,x2,x3,x4=>c_Z25 (n_Z25 n) x0 x1 x2 x3 x4 some
noncomputable def Z25 (x0 x1 x2:List D) (x3 x4:Int):Option ((List D×List D×Bool)⊕(List D×List D)):=ev (fun n=>n_Z25 n x0 x1 x2 x3 x4)
def m_Z25 (F:T_Z25):JS:=⟨2,⟨(.rd (.struct [.int .i64,.int .i64,.int .i64,.int .i64])::.rd (.struct [.int .i64,.int .i64])::uu 7 (.rd (.struct [.int .i64,.int .i64,.int .i64,.int .i64])::.int .i64::.int .i64::uu 84 ([]))),[]⟩,[(.ret,⟨(.rd (.struct [.int .i64,.int .i64,.int .i64,.int .i64])::.rd (.struct [.int .i64,.int .i64])::.undef::.undef::.bool::uu 91 ([])),[]⟩),(.exit 0,⟨(.rd (.struct [.int .i64,.int .i64,.int .i64,.int .i64])::.rd (.struct [.int .i64,.int .i64])::uu 94 ([])),[]⟩)],fun _ ds k=>dL (fun x0 ds=>dL (fun x1 ds=>dL (fun x2 ds=>dI (fun x3 ds=>dI (fun x4 ds=>dE ((F x0 x1 x2 x3 x4).bind (Sum.elim (fun y=>k 0 [.L y.1,.L y.2.1,.B y.2.2]) (fun y=>k 1 [.L y.1,.L y.2]))) ds) ds) ds) ds) ds) ds⟩
theorem q_Z25 (F:T_Z25) (x0 x1 x2:List D) (x3 x4:Int):Q3 (JP [e_Z24,e_Z23]) (JQ [m_Z25 F]) A 33 (JG (JA Try.f33) 2) ((m_Z25 F).sh.mk' [.L x0,.L x1,.L x2,.I x3,.I x4]) (fun e σ'=>some (e,σ'))=c_Z25 F x0 x1 x2 x3 x4 (Sum.elim (fun y=>some (.ret,SSt.mk' ⟨(.rd (.struct [.int .i64,.int .i64,.int .i64,.int .i64])::.rd (.struct [.int .i64,.int .i64])::.undef::.undef::.bool::uu 91 ([])),[]⟩ [.L y.1,.L y.2.1,.B y.2.2])) (fun y=>some (.exit 0,SSt.mk' ⟨(.rd (.struct [.int .i64,.int .i64,.int .i64,.int .i64])::.rd (.struct [.int .i64,.int .i64])::uu 94 ([])),[]⟩ [.L y.1,.L y.2]))):=by kernel_rfl
theorem m_Z25_ok:∀ n,(m_Z25 (n_Z25 n)).ok Try.prog (JG (JA Try.f33) 2):=by
 intro n
 induction n with
 | zero=>
  intro R ds k r h
  unfold m_Z25 at h
  obtain ⟨_,_,rfl,h⟩:=Jg h
  obtain ⟨_,_,rfl,h⟩:=Jg h
  obtain ⟨_,_,rfl,h⟩:=Jg h
  obtain ⟨_,_,rfl,h⟩:=Jf h
  obtain ⟨_,_,rfl,h⟩:=Jf h
  obtain ⟨rfl,hE⟩:=Jt h
  obtain ⟨y,hy,hk⟩:=Ju hE
  cases hy
 | succ n ih=>
  intro R ds k r h
  unfold m_Z25 at h
  obtain ⟨_,_,rfl,h⟩:=Jg h
  obtain ⟨_,_,rfl,h⟩:=Jg h
  obtain ⟨_,_,rfl,h⟩:=Jg h
  obtain ⟨_,_,rfl,h⟩:=Jf h
  obtain ⟨_,_,rfl,h⟩:=Jf h
  obtain ⟨rfl,hE⟩:=Jt h
  obtain ⟨y,hy,hk⟩:=Ju hE
  cases y with
  | inl y=>
   exact ⟨0,_,_,_,hk,rfl,QG px (fx:=⟨Try.func33,by kernel_rfl,by kernel_rfl⟩) (Qp e_Z24_ok (Qp e_Z23_ok JT)) (J0 ih JU) (by kernel_rfl) ((q_Z25 ..).trans ((c_Z25_bind ..).trans (JB hy)))⟩
  | inr y=>
   exact ⟨1,_,_,_,hk,rfl,QG px (fx:=⟨Try.func33,by kernel_rfl,by kernel_rfl⟩) (Qp e_Z24_ok (Qp e_Z23_ok JT)) (J0 ih JU) (by kernel_rfl) ((q_Z25 ..).trans ((c_Z25_bind ..).trans (JB hy)))⟩
noncomputable def e_Z25:JS:=m_Z25 (Z25)
theorem e_Z25_ok:(e_Z25).ok Try.prog (JG (JA Try.f33) 2):=by
 intro R ds k r h
 unfold e_Z25 m_Z25 at h
 obtain ⟨_,_,rfl,h⟩:=Jg h
 obtain ⟨_,_,rfl,h⟩:=Jg h
 obtain ⟨_,_,rfl,h⟩:=Jg h
 obtain ⟨_,_,rfl,h⟩:=Jf h
 obtain ⟨_,_,rfl,h⟩:=Jf h
 obtain ⟨rfl,hE⟩:=Jt h
 obtain ⟨y,hy,hk⟩:=Ju hE
 obtain ⟨n,hn⟩:=Uc hy
 exact m_Z25_ok n R _ k r ((JB hn).trans hk)

/-!-/
def c_Z26 {R:Type} (x0:Int) (k:Bool→Option R):Option R:=
 k (!decide (x0=x0))
theorem c_Z26_bind {R:Type} (x0:Int) (k:Bool→Option R):c_Z26 x0 k=(c_Z26 x0 some).bind k:=by
 unfold c_Z26
 repeat' first
  | exact J7
  | exact J6
  | exact J5
  | apply J2
  | apply J3
  | apply J8
  | (apply J4;intro _)
  | intro _
def Z26 (x0:Int):Option (Bool):=c_Z26 x0 some
def e_Z26:Ent:=⟨104,[.int .i64],[(.bool,[.undef])],fun _ ds k=>dI (fun x0 ds=>dE ((Z26 x0).bind (fun y=>k 0 [.B y])) ds) ds⟩
theorem q_Z26 (x0:Int):QD (JP []) (JQ []) A 104 Try.f104 (Sh.mks e_Z26.sh [.I x0]).1 (fun v os=>some (v,os))=c_Z26 x0 (fun y=>QO e_Z26 0 [.B y]):=by kernel_rfl
theorem e_Z26_ok:e_Z26.ok Try.prog A:=by
 intro R ds k r h
 unfold e_Z26 at h
 obtain ⟨_,_,rfl,h⟩:=Jf h
 obtain ⟨rfl,hE⟩:=Jt h
 obtain ⟨y,hy,hk⟩:=Ju hE
 exact ⟨0,_,_,_,hk,rfl,QP px (fx:=⟨Try.func104,by kernel_rfl,by kernel_rfl⟩) JT JU ((q_Z26 ..).trans ((c_Z26_bind ..).trans (JB hy)))⟩

/-!-/
def c_Z27 {R:Type} (x0 x1:Int) (k:Int→Option R):Option R:=
 (Z26 x0).bind (fun y0=>
 (Z26 x1).bind (fun y1=>
 bif y0 then
 bif y1 then
 k (0:Int)
 else
 k (-1:Int)
 else
 bif y1 then
 k (1:Int)
 else
 bif decide (x0<x1) then
 k (-1:Int)
 else
 bif decide (x1<x0) then
 k (1:Int)
 else
 k (0:Int)))
theorem c_Z27_bind {R:Type} (x0 x1:Int) (k:Int→Option R):c_Z27 x0 x1 k=(c_Z27 x0 x1 some).bind k:=by
 unfold c_Z27
 repeat' first
  | exact J7
  | exact J6
  | exact J5
  | apply J2
  | apply J3
  | apply J8
  | (apply J4;intro _)
  | intro _
def Z27 (x0 x1:Int):Option (Int):=c_Z27 x0 x1 some
def e_Z27:Ent:=⟨70,[.int .i64,.int .i64],[(.int .i64,[.undef,.undef])],fun _ ds k=>dI (fun x0 ds=>dI (fun x1 ds=>dE ((Z27 x0 x1).bind (fun y=>k 0 [.I y])) ds) ds) ds⟩
theorem q_Z27 (x0 x1:Int):QD (JP [e_Z26]) (JQ []) A 70 Try.f70 (Sh.mks e_Z27.sh [.I x0,.I x1]).1 (fun v os=>some (v,os))=c_Z27 x0 x1 (fun y=>QO e_Z27 0 [.I y]):=by kernel_rfl
theorem e_Z27_ok:e_Z27.ok Try.prog A:=by
 intro R ds k r h
 unfold e_Z27 at h
 obtain ⟨_,_,rfl,h⟩:=Jf h
 obtain ⟨_,_,rfl,h⟩:=Jf h
 obtain ⟨rfl,hE⟩:=Jt h
 obtain ⟨y,hy,hk⟩:=Ju hE
 exact ⟨0,_,_,_,hk,rfl,QP px (fx:=⟨Try.func70,by kernel_rfl,by kernel_rfl⟩) (Qp e_Z26_ok JT) JU ((q_Z27 ..).trans ((c_Z27_bind ..).trans (JB hy)))⟩

/-!-/
abbrev T_Z28:=Int→List D→Int→Int→Option ((Int×Int)⊕(Int))
def c_Z28 {R:Type} (F:T_Z28) (x0:Int) (x1:List D) (x2 x3:Int) (k:(Int×Int)⊕(Int)→Option R):Option R:=
 bif decide (x3<x2) then
 if 0≤x3∧x3<(↑x1.length:Int) then
 bif !decide ((x1.getD x3.toNat (D.int 0)).toInt=x0) then
 k (.inl ((x1.getD x3.toNat (D.int 0)).toInt,x0))
 else
 (F x0 x1 x2 (IntKind.i64.wrap (x3+1))).bind k
 else
 none
 else
 k (.inr x0)
theorem c_Z28_bind {R:Type} (F:T_Z28) (x0:Int) (x1:List D) (x2 x3:Int) (k:(Int×Int)⊕(Int)→Option R):c_Z28 F x0 x1 x2 x3 k=(c_Z28 F x0 x1 x2 x3 some).bind k:=by
 unfold c_Z28
 repeat' first
  | exact J7
  | exact J6
  | exact J5
  | apply J2
  | apply J3
  | apply J8
  | (apply J4;intro _)
  | intro _
def n_Z28:Nat→T_Z28
 | 0,_,_,_,_=>none
 | n+1,x0,x1,x2,x3=>c_Z28 (n_Z28 n) x0 x1 x2 x3 some
noncomputable def Z28 (x0:Int) (x1:List D) (x2 x3:Int):Option ((Int×Int)⊕(Int)):=ev (fun n=>n_Z28 n x0 x1 x2 x3)
def m_Z28 (F:T_Z28):JS:=⟨3,⟨(.undef::.undef::.undef::.int .i64::.undef::.undef::.rd (.int .i64)::.int .i64::.int .i64::uu 9 ([])),[]⟩,[(.ret,⟨(.undef::.undef::.int .i64::.int .i64::uu 14 ([])),[]⟩),(.exit 0,⟨(.undef::.undef::.undef::.int .i64::uu 14 ([])),[]⟩)],fun _ ds k=>dI (fun x0 ds=>dL (fun x1 ds=>dI (fun x2 ds=>dI (fun x3 ds=>dE ((F x0 x1 x2 x3).bind (Sum.elim (fun y=>k 0 [.I y.1,.I y.2]) (fun y=>k 1 [.I y]))) ds) ds) ds) ds) ds⟩
theorem q_Z28 (F:T_Z28) (x0:Int) (x1:List D) (x2 x3:Int):Q3 (JP []) (JQ [m_Z28 F]) A 69 (JG (JA Try.f69) 3) ((m_Z28 F).sh.mk' [.I x0,.L x1,.I x2,.I x3]) (fun e σ'=>some (e,σ'))=c_Z28 F x0 x1 x2 x3 (Sum.elim (fun y=>some (.ret,SSt.mk' ⟨(.undef::.undef::.int .i64::.int .i64::uu 14 ([])),[]⟩ [.I y.1,.I y.2])) (fun y=>some (.exit 0,SSt.mk' ⟨(.undef::.undef::.undef::.int .i64::uu 14 ([])),[]⟩ [.I y]))):=by kernel_rfl
theorem m_Z28_ok:∀ n,(m_Z28 (n_Z28 n)).ok Try.prog (JG (JA Try.f69) 3):=by
 intro n
 induction n with
 | zero=>
  intro R ds k r h
  unfold m_Z28 at h
  obtain ⟨_,_,rfl,h⟩:=Jf h
  obtain ⟨_,_,rfl,h⟩:=Jg h
  obtain ⟨_,_,rfl,h⟩:=Jf h
  obtain ⟨_,_,rfl,h⟩:=Jf h
  obtain ⟨rfl,hE⟩:=Jt h
  obtain ⟨y,hy,hk⟩:=Ju hE
  cases hy
 | succ n ih=>
  intro R ds k r h
  unfold m_Z28 at h
  obtain ⟨_,_,rfl,h⟩:=Jf h
  obtain ⟨_,_,rfl,h⟩:=Jg h
  obtain ⟨_,_,rfl,h⟩:=Jf h
  obtain ⟨_,_,rfl,h⟩:=Jf h
  obtain ⟨rfl,hE⟩:=Jt h
  obtain ⟨y,hy,hk⟩:=Ju hE
  cases y with
  | inl y=>
   exact ⟨0,_,_,_,hk,rfl,QG px (fx:=⟨Try.func69,by kernel_rfl,by kernel_rfl⟩) JT (J0 ih JU) (by kernel_rfl) ((q_Z28 ..).trans ((c_Z28_bind ..).trans (JB hy)))⟩
  | inr y=>
   exact ⟨1,_,_,_,hk,rfl,QG px (fx:=⟨Try.func69,by kernel_rfl,by kernel_rfl⟩) JT (J0 ih JU) (by kernel_rfl) ((q_Z28 ..).trans ((c_Z28_bind ..).trans (JB hy)))⟩
noncomputable def e_Z28:JS:=m_Z28 (Z28)
theorem e_Z28_ok:(e_Z28).ok Try.prog (JG (JA Try.f69) 3):=by
 intro R ds k r h
 unfold e_Z28 m_Z28 at h
 obtain ⟨_,_,rfl,h⟩:=Jf h
 obtain ⟨_,_,rfl,h⟩:=Jg h
 obtain ⟨_,_,rfl,h⟩:=Jf h
 obtain ⟨_,_,rfl,h⟩:=Jf h
 obtain ⟨rfl,hE⟩:=Jt h
 obtain ⟨y,hy,hk⟩:=Ju hE
 obtain ⟨n,hn⟩:=Uc hy
 exact m_Z28_ok n R _ k r ((JB hn).trans hk)

/-!-/
def c_Z29 {R:Type} (x0:List D) (k:Int→Option R):Option R:=
 (Z28 (0:Int) x0 (↑x0.length:Int) (0:Int)).bind (Sum.elim (fun y0=>
 k y0.fst) (fun y1=>
 k y1))
theorem c_Z29_bind {R:Type} (x0:List D) (k:Int→Option R):c_Z29 x0 k=(c_Z29 x0 some).bind k:=by
 unfold c_Z29
 repeat' first
  | exact J7
  | exact J6
  | exact J5
  | apply J2
  | apply J3
  | apply J8
  | (apply J4;intro _)
  | intro _
def Z29 (x0:List D):Option (Int):=c_Z29 x0 some
def e_Z29:Ent:=⟨69,[.rd (.int .i64)],[(.int .i64,[.undef])],fun _ ds k=>dL (fun x0 ds=>dE ((Z29 x0).bind (fun y=>k 0 [.I y])) ds) ds⟩
theorem q_Z29 (x0:List D):QD (JP []) (JQ [e_Z28]) A 69 Try.f69 (Sh.mks e_Z29.sh [.L x0]).1 (fun v os=>some (v,os))=c_Z29 x0 (fun y=>QO e_Z29 0 [.I y]):=by kernel_rfl
theorem e_Z29_ok:e_Z29.ok Try.prog A:=by
 intro R ds k r h
 unfold e_Z29 at h
 obtain ⟨_,_,rfl,h⟩:=Jg h
 obtain ⟨rfl,hE⟩:=Jt h
 obtain ⟨y,hy,hk⟩:=Ju hE
 exact ⟨0,_,_,_,hk,rfl,QP px (fx:=⟨Try.func69,by kernel_rfl,by kernel_rfl⟩) JT (J0 e_Z28_ok JU) ((q_Z29 ..).trans ((c_Z29_bind ..).trans (JB hy)))⟩

/-!-/
abbrev T_Z30:=List D→List D→List D→Int→Int→Option ((List D×List D×Bool)⊕(List D×List D))
def c_Z30 {R:Type} (F:T_Z30) (x0 x1 x2:List D) (x3 x4:Int) (k:(List D×List D×Bool)⊕(List D×List D)→Option R):Option R:=
 bif decide (x4<x3) then
 if 0≤x4∧x4<(↑x2.length:Int) then
 bif decide (((x2.getD x4.toNat (D.int 0)).fld (0:Nat)).toInt<(0:Int)) then
 k (.inl (x0,x1,Bool.false))
 else
 bif decide ((↑x0.length:Int)≤((x2.getD x4.toNat (D.int 0)).fld (1:Nat)).toInt) then
 k (.inl (x0,x1,Bool.false))
 else
 bif decide (((x2.getD x4.toNat (D.int 0)).fld (1:Nat)).toInt≤((x2.getD x4.toNat (D.int 0)).fld (0:Nat)).toInt) then
 k (.inl (x0,x1,Bool.false))
 else
 bif decide ((0:Int)<x4) then
 if (0:Int)≤IntKind.i64.wrap (x4 - 1)∧IntKind.i64.wrap (x4 - 1)<(↑x1.length:Int) then
 (Z27 (((x1.getD (IntKind.i64.wrap (x4 - 1)).toNat (D.int 0)).fld (0:Nat)).toInt) (((x2.getD x4.toNat (D.int 0)).fld (0:Nat)).toInt)).bind (fun y0=>
 if (0:Int)≤IntKind.i64.wrap (x4 - 1)∧IntKind.i64.wrap (x4 - 1)<(↑x1.length:Int) then
 (Z27 (((x1.getD (IntKind.i64.wrap (x4 - 1)).toNat (D.int 0)).fld (1:Nat)).toInt) (((x2.getD x4.toNat (D.int 0)).fld (1:Nat)).toInt)).bind (fun y1=>
 (Z29 ([D.int y0,D.int y1])).bind (fun y2=>
 bif decide ((0:Int)≤y2) then
 k (.inl (x0,x1,Bool.false))
 else
 (F x0 x1 x2 x3 (IntKind.i64.wrap (x4+1))).bind k))
 else
 none)
 else
 none
 else
 (F x0 x1 x2 x3 (IntKind.i64.wrap (x4+1))).bind k
 else
 none
 else
 k (.inr (x0,x1))
theorem c_Z30_bind {R:Type} (F:T_Z30) (x0 x1 x2:List D) (x3 x4:Int) (k:(List D×List D×Bool)⊕(List D×List D)→Option R):c_Z30 F x0 x1 x2 x3 x4 k=(c_Z30 F x0 x1 x2 x3 x4 some).bind k:=by
 unfold c_Z30
 repeat' first
  | exact J7
  | exact J6
  | exact J5
  | apply J2
  | apply J3
  | apply J8
  | (apply J4;intro _)
  | intro _
def n_Z30:Nat→T_Z30
 | 0,_,_,_,_,_=>none
 | n+1,x0,x1,x2,x3,x4=>c_Z30 (n_Z30 n) x0 x1 x2 x3 x4 some
noncomputable def Z30 (x0 x1 x2:List D) (x3 x4:Int):Option ((List D×List D×Bool)⊕(List D×List D)):=ev (fun n=>n_Z30 n x0 x1 x2 x3 x4)
def m_Z30 (F:T_Z30):JS:=⟨8,⟨(.rd (.struct [.int .i64,.int .i64,.int .i64,.int .i64])::.rd (.struct [.int .i64,.int .i64])::uu 36 (.rd (.struct [.int .i64,.int .i64])::.int .i64::.int .i64::uu 55 ([]))),[]⟩,[(.ret,⟨(.rd (.struct [.int .i64,.int .i64,.int .i64,.int .i64])::.rd (.struct [.int .i64,.int .i64])::.undef::.undef::.bool::uu 91 ([])),[]⟩),(.exit 2,⟨(.rd (.struct [.int .i64,.int .i64,.int .i64,.int .i64])::.rd (.struct [.int .i64,.int .i64])::uu 94 ([])),[]⟩)],fun _ ds k=>dL (fun x0 ds=>dL (fun x1 ds=>dL (fun x2 ds=>dI (fun x3 ds=>dI (fun x4 ds=>dE ((F x0 x1 x2 x3 x4).bind (Sum.elim (fun y=>k 0 [.L y.1,.L y.2.1,.B y.2.2]) (fun y=>k 1 [.L y.1,.L y.2]))) ds) ds) ds) ds) ds) ds⟩
theorem q_Z30 (F:T_Z30) (x0 x1 x2:List D) (x3 x4:Int):Q3 (JP [e_Z27,e_Z29]) (JQ [m_Z30 F]) A 33 (JG (JA Try.f33) 8) ((m_Z30 F).sh.mk' [.L x0,.L x1,.L x2,.I x3,.I x4]) (fun e σ'=>some (e,σ'))=c_Z30 F x0 x1 x2 x3 x4 (Sum.elim (fun y=>some (.ret,SSt.mk' ⟨(.rd (.struct [.int .i64,.int .i64,.int .i64,.int .i64])::.rd (.struct [.int .i64,.int .i64])::.undef::.undef::.bool::uu 91 ([])),[]⟩ [.L y.1,.L y.2.1,.B y.2.2])) (fun y=>some (.exit 2,SSt.mk' ⟨(.rd (.struct [.int .i64,.int .i64,.int .i64,.int .i64])::.rd (.struct [.int .i64,.int .i64])::uu 94 ([])),[]⟩ [.L y.1,.L y.2]))):=by kernel_rfl
theorem m_Z30_ok:∀ n,(m_Z30 (n_Z30 n)).ok Try.prog (JG (JA Try.f33) 8):=by
 intro n
 induction n with
 | zero=>
  intro R ds k r h
  unfold m_Z30 at h
  obtain ⟨_,_,rfl,h⟩:=Jg h
  obtain ⟨_,_,rfl,h⟩:=Jg h
  obtain ⟨_,_,rfl,h⟩:=Jg h
  obtain ⟨_,_,rfl,h⟩:=Jf h
  obtain ⟨_,_,rfl,h⟩:=Jf h
  obtain ⟨rfl,hE⟩:=Jt h
  obtain ⟨y,hy,hk⟩:=Ju hE
  cases hy
 | succ n ih=>
  intro R ds k r h
  unfold m_Z30 at h
  obtain ⟨_,_,rfl,h⟩:=Jg h
  obtain ⟨_,_,rfl,h⟩:=Jg h
  obtain ⟨_,_,rfl,h⟩:=Jg h
  obtain ⟨_,_,rfl,h⟩:=Jf h
  obtain ⟨_,_,rfl,h⟩:=Jf h
  obtain ⟨rfl,hE⟩:=Jt h
  obtain ⟨y,hy,hk⟩:=Ju hE
  cases y with
  | inl y=>
   exact ⟨0,_,_,_,hk,rfl,QG px (fx:=⟨Try.func33,by kernel_rfl,by kernel_rfl⟩) (Qp e_Z27_ok (Qp e_Z29_ok JT)) (J0 ih JU) (by kernel_rfl) ((q_Z30 ..).trans ((c_Z30_bind ..).trans (JB hy)))⟩
  | inr y=>
   exact ⟨1,_,_,_,hk,rfl,QG px (fx:=⟨Try.func33,by kernel_rfl,by kernel_rfl⟩) (Qp e_Z27_ok (Qp e_Z29_ok JT)) (J0 ih JU) (by kernel_rfl) ((q_Z30 ..).trans ((c_Z30_bind ..).trans (JB hy)))⟩
noncomputable def e_Z30:JS:=m_Z30 (Z30)
theorem e_Z30_ok:(e_Z30).ok Try.prog (JG (JA Try.f33) 8):=by
 intro R ds k r h
 unfold e_Z30 m_Z30 at h
 obtain ⟨_,_,rfl,h⟩:=Jg h
 obtain ⟨_,_,rfl,h⟩:=Jg h
 obtain ⟨_,_,rfl,h⟩:=Jg h
 obtain ⟨_,_,rfl,h⟩:=Jf h
 obtain ⟨_,_,rfl,h⟩:=Jf h
 obtain ⟨rfl,hE⟩:=Jt h
 obtain ⟨y,hy,hk⟩:=Ju hE
 obtain ⟨n,hn⟩:=Uc hy
 exact m_Z30_ok n R _ k r ((JB hn).trans hk)

/-!-/
def c_Z31 {R:Type} (x0 x1:List D) (k:Bool→Option R):Option R:=
 (Z25 x0 x1 x0 (↑x0.length:Int) (0:Int)).bind (Sum.elim (fun y0=>
 k y0.snd.snd) (fun y1=>
 (Z30 y1.fst y1.snd y1.snd (↑y1.snd.length:Int) (0:Int)).bind (Sum.elim (fun y2=>
 k y2.snd.snd) (fun y3=>
 bif decide ((↑y3.fst.length:Int)≤(12:Int)) then
 k (decide ((↑y3.snd.length:Int)≤(20:Int)))
 else
 k Bool.false))))
theorem c_Z31_bind {R:Type} (x0 x1:List D) (k:Bool→Option R):c_Z31 x0 x1 k=(c_Z31 x0 x1 some).bind k:=by
 unfold c_Z31
 repeat' first
  | exact J7
  | exact J6
  | exact J5
  | apply J2
  | apply J3
  | apply J8
  | (apply J4;intro _)
  | intro _
def Z31 (x0 x1:List D):Option (Bool):=c_Z31 x0 x1 some
def e_Z31:Ent:=⟨33,[.rd (.struct [.int .i64,.int .i64,.int .i64,.int .i64]),.rd (.struct [.int .i64,.int .i64])],[(.bool,[.undef,.undef])],fun _ ds k=>dL (fun x0 ds=>dL (fun x1 ds=>dE ((Z31 x0 x1).bind (fun y=>k 0 [.B y])) ds) ds) ds⟩
theorem q_Z31 (x0 x1:List D):QD (JP []) (JQ [e_Z25,e_Z30]) A 33 Try.f33 (Sh.mks e_Z31.sh [.L x0,.L x1]).1 (fun v os=>some (v,os))=c_Z31 x0 x1 (fun y=>QO e_Z31 0 [.B y]):=by kernel_rfl
theorem e_Z31_ok:e_Z31.ok Try.prog A:=by
 intro R ds k r h
 unfold e_Z31 at h
 obtain ⟨_,_,rfl,h⟩:=Jg h
 obtain ⟨_,_,rfl,h⟩:=Jg h
 obtain ⟨rfl,hE⟩:=Jt h
 obtain ⟨y,hy,hk⟩:=Ju hE
 exact ⟨0,_,_,_,hk,rfl,QP px (fx:=⟨Try.func33,by kernel_rfl,by kernel_rfl⟩) JT (J0 e_Z25_ok (J0 e_Z30_ok JU)) ((q_Z31 ..).trans ((c_Z31_bind ..).trans (JB hy)))⟩

/-!-/
abbrev T_Z32:=List D→Int→Int→List D→Option (List D×List D)
def c_Z32 {R:Type} (F:T_Z32) (x0:List D) (x1 x2:Int) (x3:List D) (k:List D×List D→Option R):Option R:=
 bif decide (x2<x1) then
 if x3.length+[D.int x2].length≤(4294967296:Nat) then
 (F x0 x1 (IntKind.i64.wrap (x2+1)) (x3++[D.int x2])).bind k
 else
 none
 else
 k (x0,x3)
theorem c_Z32_bind {R:Type} (F:T_Z32) (x0:List D) (x1 x2:Int) (x3:List D) (k:List D×List D→Option R):c_Z32 F x0 x1 x2 x3 k=(c_Z32 F x0 x1 x2 x3 some).bind k:=by
 unfold c_Z32
 repeat' first
  | exact J7
  | exact J6
  | exact J5
  | apply J2
  | apply J3
  | apply J8
  | (apply J4;intro _)
  | intro _
def n_Z32:Nat→T_Z32
 | 0,_,_,_,_=>none
 | n+1,x0,x1,x2,x3=>c_Z32 (n_Z32 n) x0 x1 x2 x3 some
noncomputable def Z32 (x0:List D) (x1 x2:Int) (x3:List D):Option (List D×List D):=ev (fun n=>n_Z32 n x0 x1 x2 x3)
def m_Z32 (F:T_Z32):JS:=⟨3,⟨(.undef::.rd (.struct [.int .i64,.int .i64])::.undef::.undef::.undef::.full 1000 [] (.int .i64)::uu 5 (.int .i64::.int .i64::uu 41 ([]))),[(1000,.own (.int .i64))]⟩,[(.exit 0,⟨(.undef::.rd (.struct [.int .i64,.int .i64])::.undef::.undef::.undef::.full 1000 [] (.int .i64)::uu 48 ([])),[(1000,.own (.int .i64))]⟩)],fun _ ds k=>dL (fun x0 ds=>dI (fun x1 ds=>dI (fun x2 ds=>dL (fun x3 ds=>dE ((F x0 x1 x2 x3).bind (fun y=>k 0 [.L y.1,.L y.2])) ds) ds) ds) ds) ds⟩
theorem q_Z32 (F:T_Z32) (x0:List D) (x1 x2:Int) (x3:List D):Q3 (JP []) (JQ [m_Z32 F]) A 97 (JG (JA Try.f97) 3) ((m_Z32 F).sh.mk' [.L x0,.I x1,.I x2,.L x3]) (fun e σ'=>some (e,σ'))=c_Z32 F x0 x1 x2 x3 (fun y=>some (.exit 0,SSt.mk' ⟨(.undef::.rd (.struct [.int .i64,.int .i64])::.undef::.undef::.undef::.full 1000 [] (.int .i64)::uu 48 ([])),[(1000,.own (.int .i64))]⟩ [.L y.1,.L y.2])):=by kernel_rfl
theorem m_Z32_ok:∀ n,(m_Z32 (n_Z32 n)).ok Try.prog (JG (JA Try.f97) 3):=by
 intro n
 induction n with
 | zero=>
  intro R ds k r h
  unfold m_Z32 at h
  obtain ⟨_,_,rfl,h⟩:=Jg h
  obtain ⟨_,_,rfl,h⟩:=Jf h
  obtain ⟨_,_,rfl,h⟩:=Jf h
  obtain ⟨_,_,rfl,h⟩:=Jg h
  obtain ⟨rfl,hE⟩:=Jt h
  obtain ⟨y,hy,hk⟩:=Ju hE
  cases hy
 | succ n ih=>
  intro R ds k r h
  unfold m_Z32 at h
  obtain ⟨_,_,rfl,h⟩:=Jg h
  obtain ⟨_,_,rfl,h⟩:=Jf h
  obtain ⟨_,_,rfl,h⟩:=Jf h
  obtain ⟨_,_,rfl,h⟩:=Jg h
  obtain ⟨rfl,hE⟩:=Jt h
  obtain ⟨y,hy,hk⟩:=Ju hE
  exact ⟨0,_,_,_,hk,rfl,QG px (fx:=⟨Try.func97,by kernel_rfl,by kernel_rfl⟩) JT (J0 ih JU) (by kernel_rfl) ((q_Z32 ..).trans ((c_Z32_bind ..).trans (JB hy)))⟩
noncomputable def e_Z32:JS:=m_Z32 (Z32)
theorem e_Z32_ok:(e_Z32).ok Try.prog (JG (JA Try.f97) 3):=by
 intro R ds k r h
 unfold e_Z32 m_Z32 at h
 obtain ⟨_,_,rfl,h⟩:=Jg h
 obtain ⟨_,_,rfl,h⟩:=Jf h
 obtain ⟨_,_,rfl,h⟩:=Jf h
 obtain ⟨_,_,rfl,h⟩:=Jg h
 obtain ⟨rfl,hE⟩:=Jt h
 obtain ⟨y,hy,hk⟩:=Ju hE
 obtain ⟨n,hn⟩:=Uc hy
 exact m_Z32_ok n R _ k r ((JB hn).trans hk)

/-!-/
abbrev T_Z33:=List D→Int→Int→List D→Int→Int→List D→Option (List D×Int×Int×List D)
def c_Z33 {R:Type} (F:T_Z33) (x0:List D) (x1 x2:Int) (x3:List D) (x4 x5:Int) (x6:List D) (k:List D×Int×Int×List D→Option R):Option R:=
 bif decide (x5<x4) then
 if 0≤x5∧x5<(↑x3.length:Int) then
 if (0:Int)≤((x3.getD x5.toNat (D.int 0)).fld (0:Nat)).toInt∧((x3.getD x5.toNat (D.int 0)).fld (0:Nat)).toInt<(↑x6.length:Int) then
 if ((x3.getD x5.toNat (D.int 0)).fld (0:Nat)).toInt.toNat+1≤x6.length then
 if (0:Int)≤((x3.getD x5.toNat (D.int 0)).fld (1:Nat)).toInt∧((x3.getD x5.toNat (D.int 0)).fld (1:Nat)).toInt<(↑x6.length:Int) then
 if ((x3.getD x5.toNat (D.int 0)).fld (1:Nat)).toInt.toNat+1≤x6.length then
 if (0:Int)≤((x3.getD x5.toNat (D.int 0)).fld (0:Nat)).toInt∧((x3.getD x5.toNat (D.int 0)).fld (0:Nat)).toInt<(↑x6.length:Int) then
 if ((x3.getD x5.toNat (D.int 0)).fld (0:Nat)).toInt.toNat+1≤x6.length then
 if (0:Int)≤((x3.getD x5.toNat (D.int 0)).fld (1:Nat)).toInt∧((x3.getD x5.toNat (D.int 0)).fld (1:Nat)).toInt<(↑(x6.set ((x3.getD x5.toNat (D.int 0)).fld (0:Nat)).toInt.toNat (D.int (if (x6.getD ((x3.getD x5.toNat (D.int 0)).fld (1:Nat)).toInt.toNat (D.int 0)).toInt<(x6.getD ((x3.getD x5.toNat (D.int 0)).fld (0:Nat)).toInt.toNat (D.int 0)).toInt then (x6.getD ((x3.getD x5.toNat (D.int 0)).fld (1:Nat)).toInt.toNat (D.int 0)).toInt else (x6.getD ((x3.getD x5.toNat (D.int 0)).fld (0:Nat)).toInt.toNat (D.int 0)).toInt))).length:Int) then
 if ((x3.getD x5.toNat (D.int 0)).fld (1:Nat)).toInt.toNat+1≤(x6.set ((x3.getD x5.toNat (D.int 0)).fld (0:Nat)).toInt.toNat (D.int (if (x6.getD ((x3.getD x5.toNat (D.int 0)).fld (1:Nat)).toInt.toNat (D.int 0)).toInt<(x6.getD ((x3.getD x5.toNat (D.int 0)).fld (0:Nat)).toInt.toNat (D.int 0)).toInt then (x6.getD ((x3.getD x5.toNat (D.int 0)).fld (1:Nat)).toInt.toNat (D.int 0)).toInt else (x6.getD ((x3.getD x5.toNat (D.int 0)).fld (0:Nat)).toInt.toNat (D.int 0)).toInt))).length then
 (F x0 x1 x2 x3 x4 (IntKind.i64.wrap (x5+1)) ((x6.set ((x3.getD x5.toNat (D.int 0)).fld (0:Nat)).toInt.toNat (D.int (if (x6.getD ((x3.getD x5.toNat (D.int 0)).fld (1:Nat)).toInt.toNat (D.int 0)).toInt<(x6.getD ((x3.getD x5.toNat (D.int 0)).fld (0:Nat)).toInt.toNat (D.int 0)).toInt then (x6.getD ((x3.getD x5.toNat (D.int 0)).fld (1:Nat)).toInt.toNat (D.int 0)).toInt else (x6.getD ((x3.getD x5.toNat (D.int 0)).fld (0:Nat)).toInt.toNat (D.int 0)).toInt))).set ((x3.getD x5.toNat (D.int 0)).fld (1:Nat)).toInt.toNat (D.int (if (x6.getD ((x3.getD x5.toNat (D.int 0)).fld (1:Nat)).toInt.toNat (D.int 0)).toInt<(x6.getD ((x3.getD x5.toNat (D.int 0)).fld (0:Nat)).toInt.toNat (D.int 0)).toInt then (x6.getD ((x3.getD x5.toNat (D.int 0)).fld (1:Nat)).toInt.toNat (D.int 0)).toInt else (x6.getD ((x3.getD x5.toNat (D.int 0)).fld (0:Nat)).toInt.toNat (D.int 0)).toInt)))).bind k
 else
 none
 else
 none
 else
 none
 else
 none
 else
 none
 else
 none
 else
 none
 else
 none
 else
 none
 else
 k (x0,x1,x2,x6)
theorem c_Z33_bind {R:Type} (F:T_Z33) (x0:List D) (x1 x2:Int) (x3:List D) (x4 x5:Int) (x6:List D) (k:List D×Int×Int×List D→Option R):c_Z33 F x0 x1 x2 x3 x4 x5 x6 k=(c_Z33 F x0 x1 x2 x3 x4 x5 x6 some).bind k:=by
 unfold c_Z33
 repeat' first
  | exact J7
  | exact J6
  | exact J5
  | apply J2
  | apply J3
  | apply J8
  | (apply J4;intro _)
  | intro _
def n_Z33:Nat→T_Z33
 | 0,_,_,_,_,_,_,_=>none
 | n+1,x0,x1,x2,x3,x4,x5,x6=>c_Z33 (n_Z33 n) x0 x1 x2 x3 x4 x5 x6 some
noncomputable def Z33 (x0:List D) (x1 x2:Int) (x3:List D) (x4 x5:Int) (x6:List D):Option (List D×Int×Int×List D):=ev (fun n=>n_Z33 n x0 x1 x2 x3 x4 x5 x6)
def m_Z33 (F:T_Z33):JS:=⟨10,⟨(.undef::.rd (.struct [.int .i64,.int .i64])::.undef::.undef::.undef::.full 1000 [] (.int .i64)::uu 15 (.int .i64::.int .i64::.undef::.rd (.struct [.int .i64,.int .i64])::.int .i64::.int .i64::uu 27 ([]))),[(1000,.own (.int .i64))]⟩,[(.exit 4,⟨(.undef::.rd (.struct [.int .i64,.int .i64])::.undef::.undef::.undef::.full 1000 [] (.int .i64)::uu 15 (.int .i64::.int .i64::uu 31 ([]))),[(1000,.own (.int .i64))]⟩)],fun _ ds k=>dL (fun x0 ds=>dI (fun x1 ds=>dI (fun x2 ds=>dL (fun x3 ds=>dI (fun x4 ds=>dI (fun x5 ds=>dL (fun x6 ds=>dE ((F x0 x1 x2 x3 x4 x5 x6).bind (fun y=>k 0 [.L y.1,.I y.2.1,.I y.2.2.1,.L y.2.2.2])) ds) ds) ds) ds) ds) ds) ds) ds⟩
theorem q_Z33 (F:T_Z33) (x0:List D) (x1 x2:Int) (x3:List D) (x4 x5:Int) (x6:List D):Q3 (JP []) (JQ [m_Z33 F]) A 97 (JG (JA Try.f97) 10) ((m_Z33 F).sh.mk' [.L x0,.I x1,.I x2,.L x3,.I x4,.I x5,.L x6]) (fun e σ'=>some (e,σ'))=c_Z33 F x0 x1 x2 x3 x4 x5 x6 (fun y=>some (.exit 4,SSt.mk' ⟨(.undef::.rd (.struct [.int .i64,.int .i64])::.undef::.undef::.undef::.full 1000 [] (.int .i64)::uu 15 (.int .i64::.int .i64::uu 31 ([]))),[(1000,.own (.int .i64))]⟩ [.L y.1,.I y.2.1,.I y.2.2.1,.L y.2.2.2])):=by kernel_rfl
theorem m_Z33_ok:∀ n,(m_Z33 (n_Z33 n)).ok Try.prog (JG (JA Try.f97) 10):=by
 intro n
 induction n with
 | zero=>
  intro R ds k r h
  unfold m_Z33 at h
  obtain ⟨_,_,rfl,h⟩:=Jg h
  obtain ⟨_,_,rfl,h⟩:=Jf h
  obtain ⟨_,_,rfl,h⟩:=Jf h
  obtain ⟨_,_,rfl,h⟩:=Jg h
  obtain ⟨_,_,rfl,h⟩:=Jf h
  obtain ⟨_,_,rfl,h⟩:=Jf h
  obtain ⟨_,_,rfl,h⟩:=Jg h
  obtain ⟨rfl,hE⟩:=Jt h
  obtain ⟨y,hy,hk⟩:=Ju hE
  cases hy
 | succ n ih=>
  intro R ds k r h
  unfold m_Z33 at h
  obtain ⟨_,_,rfl,h⟩:=Jg h
  obtain ⟨_,_,rfl,h⟩:=Jf h
  obtain ⟨_,_,rfl,h⟩:=Jf h
  obtain ⟨_,_,rfl,h⟩:=Jg h
  obtain ⟨_,_,rfl,h⟩:=Jf h
  obtain ⟨_,_,rfl,h⟩:=Jf h
  obtain ⟨_,_,rfl,h⟩:=Jg h
  obtain ⟨rfl,hE⟩:=Jt h
  obtain ⟨y,hy,hk⟩:=Ju hE
  exact ⟨0,_,_,_,hk,rfl,QG px (fx:=⟨Try.func97,by kernel_rfl,by kernel_rfl⟩) JT (J0 ih JU) (by kernel_rfl) ((q_Z33 ..).trans ((c_Z33_bind ..).trans (JB hy)))⟩
noncomputable def e_Z33:JS:=m_Z33 (Z33)
theorem e_Z33_ok:(e_Z33).ok Try.prog (JG (JA Try.f97) 10):=by
 intro R ds k r h
 unfold e_Z33 m_Z33 at h
 obtain ⟨_,_,rfl,h⟩:=Jg h
 obtain ⟨_,_,rfl,h⟩:=Jf h
 obtain ⟨_,_,rfl,h⟩:=Jf h
 obtain ⟨_,_,rfl,h⟩:=Jg h
 obtain ⟨_,_,rfl,h⟩:=Jf h
 obtain ⟨_,_,rfl,h⟩:=Jf h
 obtain ⟨_,_,rfl,h⟩:=Jg h
 obtain ⟨rfl,hE⟩:=Jt h
 obtain ⟨y,hy,hk⟩:=Ju hE
 obtain ⟨n,hn⟩:=Uc hy
 exact m_Z33_ok n R _ k r ((JB hn).trans hk)

/-!-/
abbrev T_Z34:=List D→Int→Int→List D→Option (List D)
def c_Z34 {R:Type} (F:T_Z34) (x0:List D) (x1 x2:Int) (x3:List D) (k:List D→Option R):Option R:=
 bif decide (x2<x1) then
 (Z33 x0 x1 x2 x0 (↑x0.length:Int) (0:Int) x3).bind (fun y0=>
 (F y0.fst y0.snd.fst (IntKind.i64.wrap (y0.snd.snd.fst+1)) y0.snd.snd.snd).bind k)
 else
 k x3
theorem c_Z34_bind {R:Type} (F:T_Z34) (x0:List D) (x1 x2:Int) (x3:List D) (k:List D→Option R):c_Z34 F x0 x1 x2 x3 k=(c_Z34 F x0 x1 x2 x3 some).bind k:=by
 unfold c_Z34
 repeat' first
  | exact J7
  | exact J6
  | exact J5
  | apply J2
  | apply J3
  | apply J8
  | (apply J4;intro _)
  | intro _
def n_Z34:Nat→T_Z34
 | 0,_,_,_,_=>none
 | n+1,x0,x1,x2,x3=>c_Z34 (n_Z34 n) x0 x1 x2 x3 some
noncomputable def Z34 (x0:List D) (x1 x2:Int) (x3:List D):Option (List D):=ev (fun n=>n_Z34 n x0 x1 x2 x3)
def m_Z34 (F:T_Z34):JS:=⟨8,⟨(.undef::.rd (.struct [.int .i64,.int .i64])::.undef::.undef::.undef::.full 1000 [] (.int .i64)::uu 15 (.int .i64::.int .i64::uu 31 ([]))),[(1000,.own (.int .i64))]⟩,[(.exit 2,⟨(uu 5 (.full 1000 [] (.int .i64)::uu 48 ([]))),[(1000,.own (.int .i64))]⟩)],fun _ ds k=>dL (fun x0 ds=>dI (fun x1 ds=>dI (fun x2 ds=>dL (fun x3 ds=>dE ((F x0 x1 x2 x3).bind (fun y=>k 0 [.L y])) ds) ds) ds) ds) ds⟩
theorem q_Z34 (F:T_Z34) (x0:List D) (x1 x2:Int) (x3:List D):Q3 (JP []) (JQ [m_Z34 F,e_Z33]) A 97 (JG (JA Try.f97) 8) ((m_Z34 F).sh.mk' [.L x0,.I x1,.I x2,.L x3]) (fun e σ'=>some (e,σ'))=c_Z34 F x0 x1 x2 x3 (fun y=>some (.exit 2,SSt.mk' ⟨(uu 5 (.full 1000 [] (.int .i64)::uu 48 ([]))),[(1000,.own (.int .i64))]⟩ [.L y])):=by kernel_rfl
theorem m_Z34_ok:∀ n,(m_Z34 (n_Z34 n)).ok Try.prog (JG (JA Try.f97) 8):=by
 intro n
 induction n with
 | zero=>
  intro R ds k r h
  unfold m_Z34 at h
  obtain ⟨_,_,rfl,h⟩:=Jg h
  obtain ⟨_,_,rfl,h⟩:=Jf h
  obtain ⟨_,_,rfl,h⟩:=Jf h
  obtain ⟨_,_,rfl,h⟩:=Jg h
  obtain ⟨rfl,hE⟩:=Jt h
  obtain ⟨y,hy,hk⟩:=Ju hE
  cases hy
 | succ n ih=>
  intro R ds k r h
  unfold m_Z34 at h
  obtain ⟨_,_,rfl,h⟩:=Jg h
  obtain ⟨_,_,rfl,h⟩:=Jf h
  obtain ⟨_,_,rfl,h⟩:=Jf h
  obtain ⟨_,_,rfl,h⟩:=Jg h
  obtain ⟨rfl,hE⟩:=Jt h
  obtain ⟨y,hy,hk⟩:=Ju hE
  exact ⟨0,_,_,_,hk,rfl,QG px (fx:=⟨Try.func97,by kernel_rfl,by kernel_rfl⟩) JT (J0 ih (J0 e_Z33_ok JU)) (by kernel_rfl) ((q_Z34 ..).trans ((c_Z34_bind ..).trans (JB hy)))⟩
noncomputable def e_Z34:JS:=m_Z34 (Z34)
theorem e_Z34_ok:(e_Z34).ok Try.prog (JG (JA Try.f97) 8):=by
 intro R ds k r h
 unfold e_Z34 m_Z34 at h
 obtain ⟨_,_,rfl,h⟩:=Jg h
 obtain ⟨_,_,rfl,h⟩:=Jf h
 obtain ⟨_,_,rfl,h⟩:=Jf h
 obtain ⟨_,_,rfl,h⟩:=Jg h
 obtain ⟨rfl,hE⟩:=Jt h
 obtain ⟨y,hy,hk⟩:=Ju hE
 obtain ⟨n,hn⟩:=Uc hy
 exact m_Z34_ok n R _ k r ((JB hn).trans hk)

/-!-/
def c_Z35 {R:Type} (x0:Int) (x1:List D) (k:List D→Option R):Option R:=
 (Z32 x1 x0 (0:Int) []).bind (fun y0=>
 (Z34 y0.fst (↑y0.fst.length:Int) (0:Int) y0.snd).bind (fun y1=>
 k y1))
theorem c_Z35_bind {R:Type} (x0:Int) (x1:List D) (k:List D→Option R):c_Z35 x0 x1 k=(c_Z35 x0 x1 some).bind k:=by
 unfold c_Z35
 repeat' first
  | exact J7
  | exact J6
  | exact J5
  | apply J2
  | apply J3
  | apply J8
  | (apply J4;intro _)
  | intro _
def Z35 (x0:Int) (x1:List D):Option (List D):=c_Z35 x0 x1 some
def e_Z35:Ent:=⟨97,[.int .i64,.rd (.struct [.int .i64,.int .i64])],[(.own (.int .i64),[.undef,.undef])],fun _ ds k=>dI (fun x0 ds=>dL (fun x1 ds=>dE ((Z35 x0 x1).bind (fun y=>k 0 [.L y])) ds) ds) ds⟩
theorem q_Z35 (x0:Int) (x1:List D):QD (JP []) (JQ [e_Z32,e_Z34]) A 97 Try.f97 (Sh.mks e_Z35.sh [.I x0,.L x1]).1 (fun v os=>some (v,os))=c_Z35 x0 x1 (fun y=>QO e_Z35 0 [.L y]):=by kernel_rfl
theorem e_Z35_ok:e_Z35.ok Try.prog A:=by
 intro R ds k r h
 unfold e_Z35 at h
 obtain ⟨_,_,rfl,h⟩:=Jf h
 obtain ⟨_,_,rfl,h⟩:=Jg h
 obtain ⟨rfl,hE⟩:=Jt h
 obtain ⟨y,hy,hk⟩:=Ju hE
 exact ⟨0,_,_,_,hk,rfl,QP px (fx:=⟨Try.func97,by kernel_rfl,by kernel_rfl⟩) JT (J0 e_Z32_ok (J0 e_Z34_ok JU)) ((q_Z35 ..).trans ((c_Z35_bind ..).trans (JB hy)))⟩

/-!-/
abbrev T_Z36:=Int→Int→List D→List D→List D→Option (List D)
def c_Z36 {R:Type} (F:T_Z36) (x0 x1:Int) (x2 x3 x4:List D) (k:List D→Option R):Option R:=
 bif decide (x1<x0) then
 if 0≤x1∧x1<(↑x4.length:Int) then
 if x1.toNat+1≤x4.length then
 bif decide ((x4.getD x1.toNat (D.int 0)).toInt=x1) then
 if x2.length+[D.node []].length≤(4294967296:Nat) then
 if (0:Int)≤Qq (QW x3 x1 (↑x2.length:Int)) (x4.getD x1.toNat (D.int 0)).toInt∧Qq (QW x3 x1 (↑x2.length:Int)) (x4.getD x1.toNat (D.int 0)).toInt<(↑(x2++[D.node []]).length:Int) then
 if (Qq (QW x3 x1 (↑x2.length:Int)) (x4.getD x1.toNat (D.int 0)).toInt).toNat+1≤(x2++[D.node []]).length then
 if (Qq (QW x3 x1 (↑x2.length:Int)) (x4.getD x1.toNat (D.int 0)).toInt).toNat+1≤(x2++[D.node []]).length then
 if ((x2++[D.node []]).getD (Qq (QW x3 x1 (↑x2.length:Int)) (x4.getD x1.toNat (D.int 0)).toInt).toNat (D.int 0)).items.length+[D.int x1].length≤(4294967296:Nat) then
 if (0:Int)≤Qq (QW x3 x1 (↑x2.length:Int)) (x4.getD x1.toNat (D.int 0)).toInt∧Qq (QW x3 x1 (↑x2.length:Int)) (x4.getD x1.toNat (D.int 0)).toInt<(↑(x2++[D.node []]).length:Int) then
 if (Qq (QW x3 x1 (↑x2.length:Int)) (x4.getD x1.toNat (D.int 0)).toInt).toNat≤(Qq (QW x3 x1 (↑x2.length:Int)) (x4.getD x1.toNat (D.int 0)).toInt).toNat then
 if (Qq (QW x3 x1 (↑x2.length:Int)) (x4.getD x1.toNat (D.int 0)).toInt).toNat≤(Qq (QW x3 x1 (↑x2.length:Int)) (x4.getD x1.toNat (D.int 0)).toInt).toNat then
 (F x0 (IntKind.i64.wrap (x1+1)) ((x2++[D.node []]).set (Qq (QW x3 x1 (↑x2.length:Int)) (x4.getD x1.toNat (D.int 0)).toInt).toNat (D.node (((x2++[D.node []]).getD (Qq (QW x3 x1 (↑x2.length:Int)) (x4.getD x1.toNat (D.int 0)).toInt).toNat (D.int 0)).items++[D.int x1]))) (QW x3 x1 (↑x2.length:Int)) x4).bind k
 else
 none
 else
 none
 else
 none
 else
 none
 else
 none
 else
 none
 else
 none
 else
 none
 else
 if (0:Int)≤Qq x3 (x4.getD x1.toNat (D.int 0)).toInt∧Qq x3 (x4.getD x1.toNat (D.int 0)).toInt<(↑x2.length:Int) then
 if (Qq x3 (x4.getD x1.toNat (D.int 0)).toInt).toNat+1≤x2.length then
 if (Qq x3 (x4.getD x1.toNat (D.int 0)).toInt).toNat+1≤x2.length then
 if (x2.getD (Qq x3 (x4.getD x1.toNat (D.int 0)).toInt).toNat (D.int 0)).items.length+[D.int x1].length≤(4294967296:Nat) then
 if (0:Int)≤Qq x3 (x4.getD x1.toNat (D.int 0)).toInt∧Qq x3 (x4.getD x1.toNat (D.int 0)).toInt<(↑x2.length:Int) then
 if (Qq x3 (x4.getD x1.toNat (D.int 0)).toInt).toNat≤(Qq x3 (x4.getD x1.toNat (D.int 0)).toInt).toNat then
 if (Qq x3 (x4.getD x1.toNat (D.int 0)).toInt).toNat≤(Qq x3 (x4.getD x1.toNat (D.int 0)).toInt).toNat then
 (F x0 (IntKind.i64.wrap (x1+1)) (x2.set (Qq x3 (x4.getD x1.toNat (D.int 0)).toInt).toNat (D.node ((x2.getD (Qq x3 (x4.getD x1.toNat (D.int 0)).toInt).toNat (D.int 0)).items++[D.int x1]))) x3 x4).bind k
 else
 none
 else
 none
 else
 none
 else
 none
 else
 none
 else
 none
 else
 none
 else
 none
 else
 none
 else
 k x2
theorem c_Z36_bind {R:Type} (F:T_Z36) (x0 x1:Int) (x2 x3 x4:List D) (k:List D→Option R):c_Z36 F x0 x1 x2 x3 x4 k=(c_Z36 F x0 x1 x2 x3 x4 some).bind k:=by
 unfold c_Z36
 repeat' first
  | exact J7
  | exact J6
  | exact J5
  | apply J2
  | apply J3
  | apply J8
  | (apply J4;intro _)
  | intro _
def n_Z36:Nat→T_Z36
 | 0,_,_,_,_,_=>none
 | n+1,x0,x1,x2,x3,x4=>c_Z36 (n_Z36 n) x0 x1 x2 x3 x4 some
noncomputable def Z36 (x0 x1:Int) (x2 x3 x4:List D):Option (List D):=ev (fun n=>n_Z36 n x0 x1 x2 x3 x4)
def m_Z36 (F:T_Z36):JS:=⟨4,⟨(uu 5 (.full 1000 [] (.slice (.int .i64))::.mref 1001::uu 6 (.full 1002 [] (.int .i64)::.int .i64::.int .i64::uu 30 ([])))),[(1000,.own (.slice (.int .i64))),(1001,.mp),(1002,.own (.int .i64))]⟩,[(.exit 0,⟨(uu 5 (.full 1000 [] (.slice (.int .i64))::uu 40 ([]))),[(1000,.own (.slice (.int .i64)))]⟩)],fun _ ds k=>dI (fun x0 ds=>dI (fun x1 ds=>dL (fun x2 ds=>dL (fun x3 ds=>dL (fun x4 ds=>dE ((F x0 x1 x2 x3 x4).bind (fun y=>k 0 [.L y])) ds) ds) ds) ds) ds) ds⟩
theorem q_Z36 (F:T_Z36) (x0 x1:Int) (x2 x3 x4:List D):Q3 (JP []) (JQ [m_Z36 F]) A 58 (JG (JA Try.f58) 4) ((m_Z36 F).sh.mk' [.I x0,.I x1,.L x2,.L x3,.L x4]) (fun e σ'=>some (e,σ'))=c_Z36 F x0 x1 x2 x3 x4 (fun y=>some (.exit 0,SSt.mk' ⟨(uu 5 (.full 1000 [] (.slice (.int .i64))::uu 40 ([]))),[(1000,.own (.slice (.int .i64)))]⟩ [.L y])):=by kernel_rfl
theorem m_Z36_ok:∀ n,(m_Z36 (n_Z36 n)).ok Try.prog (JG (JA Try.f58) 4):=by
 intro n
 induction n with
 | zero=>
  intro R ds k r h
  unfold m_Z36 at h
  obtain ⟨_,_,rfl,h⟩:=Jf h
  obtain ⟨_,_,rfl,h⟩:=Jf h
  obtain ⟨_,_,rfl,h⟩:=Jg h
  obtain ⟨_,_,rfl,h⟩:=Jg h
  obtain ⟨_,_,rfl,h⟩:=Jg h
  obtain ⟨rfl,hE⟩:=Jt h
  obtain ⟨y,hy,hk⟩:=Ju hE
  cases hy
 | succ n ih=>
  intro R ds k r h
  unfold m_Z36 at h
  obtain ⟨_,_,rfl,h⟩:=Jf h
  obtain ⟨_,_,rfl,h⟩:=Jf h
  obtain ⟨_,_,rfl,h⟩:=Jg h
  obtain ⟨_,_,rfl,h⟩:=Jg h
  obtain ⟨_,_,rfl,h⟩:=Jg h
  obtain ⟨rfl,hE⟩:=Jt h
  obtain ⟨y,hy,hk⟩:=Ju hE
  exact ⟨0,_,_,_,hk,rfl,QG px (fx:=⟨Try.func58,by kernel_rfl,by kernel_rfl⟩) JT (J0 ih JU) (by kernel_rfl) ((q_Z36 ..).trans ((c_Z36_bind ..).trans (JB hy)))⟩
noncomputable def e_Z36:JS:=m_Z36 (Z36)
theorem e_Z36_ok:(e_Z36).ok Try.prog (JG (JA Try.f58) 4):=by
 intro R ds k r h
 unfold e_Z36 m_Z36 at h
 obtain ⟨_,_,rfl,h⟩:=Jf h
 obtain ⟨_,_,rfl,h⟩:=Jf h
 obtain ⟨_,_,rfl,h⟩:=Jg h
 obtain ⟨_,_,rfl,h⟩:=Jg h
 obtain ⟨_,_,rfl,h⟩:=Jg h
 obtain ⟨rfl,hE⟩:=Jt h
 obtain ⟨y,hy,hk⟩:=Ju hE
 obtain ⟨n,hn⟩:=Uc hy
 exact m_Z36_ok n R _ k r ((JB hn).trans hk)

/-!-/
def c_Z37 {R:Type} (x0:Int) (x1:List D) (k:List D→Option R):Option R:=
 (Z35 x0 x1).bind (fun y0=>
 (Z36 (↑y0.length:Int) (0:Int) [] [] y0).bind (fun y1=>
 k y1))
theorem c_Z37_bind {R:Type} (x0:Int) (x1:List D) (k:List D→Option R):c_Z37 x0 x1 k=(c_Z37 x0 x1 some).bind k:=by
 unfold c_Z37
 repeat' first
  | exact J7
  | exact J6
  | exact J5
  | apply J2
  | apply J3
  | apply J8
  | (apply J4;intro _)
  | intro _
def Z37 (x0:Int) (x1:List D):Option (List D):=c_Z37 x0 x1 some
def e_Z37:Ent:=⟨58,[.int .i64,.rd (.struct [.int .i64,.int .i64])],[(.own (.slice (.int .i64)),[.undef,.undef])],fun _ ds k=>dI (fun x0 ds=>dL (fun x1 ds=>dE ((Z37 x0 x1).bind (fun y=>k 0 [.L y])) ds) ds) ds⟩
theorem q_Z37 (x0:Int) (x1:List D):QD (JP [e_Z35]) (JQ [e_Z36]) A 58 Try.f58 (Sh.mks e_Z37.sh [.I x0,.L x1]).1 (fun v os=>some (v,os))=c_Z37 x0 x1 (fun y=>QO e_Z37 0 [.L y]):=by kernel_rfl
theorem e_Z37_ok:e_Z37.ok Try.prog A:=by
 intro R ds k r h
 unfold e_Z37 at h
 obtain ⟨_,_,rfl,h⟩:=Jf h
 obtain ⟨_,_,rfl,h⟩:=Jg h
 obtain ⟨rfl,hE⟩:=Jt h
 obtain ⟨y,hy,hk⟩:=Ju hE
 exact ⟨0,_,_,_,hk,rfl,QP px (fx:=⟨Try.func58,by kernel_rfl,by kernel_rfl⟩) (Qp e_Z35_ok JT) (J0 e_Z36_ok JU) ((q_Z37 ..).trans ((c_Z37_bind ..).trans (JB hy)))⟩

/-!-/
def c_Z38 {R:Type} (x0 x1:List D) (k:List D×Bool→Option R):Option R:=
 (Z31 x0 x1).bind (fun y0=>
 bif !y0 then
 k ([],Bool.false)
 else
 (Z37 (↑x0.length:Int) x1).bind (fun y1=>
 k (y1,Bool.true)))
theorem c_Z38_bind {R:Type} (x0 x1:List D) (k:List D×Bool→Option R):c_Z38 x0 x1 k=(c_Z38 x0 x1 some).bind k:=by
 unfold c_Z38
 repeat' first
  | exact J7
  | exact J6
  | exact J5
  | apply J2
  | apply J3
  | apply J8
  | (apply J4;intro _)
  | intro _
def Z38 (x0 x1:List D):Option (List D×Bool):=c_Z38 x0 x1 some
def e_Z38:Ent:=⟨21,[.rd (.struct [.int .i64,.int .i64,.int .i64,.int .i64]),.rd (.struct [.int .i64,.int .i64])],[(.tup [.own (.slice (.int .i64)),.bool],[.undef,.undef])],fun _ ds k=>dL (fun x0 ds=>dL (fun x1 ds=>dE ((Z38 x0 x1).bind (fun y=>k 0 [.L y.1,.B y.2])) ds) ds) ds⟩
theorem q_Z38 (x0 x1:List D):QD (JP [e_Z31,e_Z37]) (JQ []) A 21 Try.f21 (Sh.mks e_Z38.sh [.L x0,.L x1]).1 (fun v os=>some (v,os))=c_Z38 x0 x1 (fun y=>QO e_Z38 0 [.L y.1,.B y.2]):=by kernel_rfl
theorem e_Z38_ok:e_Z38.ok Try.prog A:=by
 intro R ds k r h
 unfold e_Z38 at h
 obtain ⟨_,_,rfl,h⟩:=Jg h
 obtain ⟨_,_,rfl,h⟩:=Jg h
 obtain ⟨rfl,hE⟩:=Jt h
 obtain ⟨y,hy,hk⟩:=Ju hE
 exact ⟨0,_,_,_,hk,rfl,QP px (fx:=⟨Try.func21,by kernel_rfl,by kernel_rfl⟩) (Qp e_Z31_ok (Qp e_Z37_ok JT)) JU ((q_Z38 ..).trans ((c_Z38_bind ..).trans (JB hy)))⟩

/-!-/
abbrev T_Z39:=List D→Int→Int→Nat→Int→Int→Int→Int→List D→List D→Option (List D×Int×Nat×Int×Int×List D×List D)
def c_Z39 {R:Type} (F:T_Z39) (x0:List D) (x1 x2:Int) (x3:Nat) (x4 x5 x6 x7:Int) (x8 x9:List D) (k:List D×Int×Nat×Int×Int×List D×List D→Option R):Option R:=
 bif decide (x7<x6) then
 if 0≤x2∧x2<(↑x0.length:Int) then
 if (3600:Int)≠(0:Int) then
 if (0:Int)≤(IntKind.i64.wrap (((x0.getD x2.toNat (D.int 0)).fld (2:Nat)).toInt+x7)).tmod (3600:Int)∧(IntKind.i64.wrap (((x0.getD x2.toNat (D.int 0)).fld (2:Nat)).toInt+x7)).tmod (3600:Int)<(↑(3600:Nat):Int) then
 if ((IntKind.i64.wrap (((x0.getD x2.toNat (D.int 0)).fld (2:Nat)).toInt+x7)).tmod (3600:Int)).toNat+1≤x8.length then
 bif !(x8.getD ((IntKind.i64.wrap (((x0.getD x2.toNat (D.int 0)).fld (2:Nat)).toInt+x7)).tmod (3600:Int)).toNat (D.int 0)).toBool then
 if (0:Int)≤(IntKind.i64.wrap (((x0.getD x2.toNat (D.int 0)).fld (2:Nat)).toInt+x7)).tmod (3600:Int)∧(IntKind.i64.wrap (((x0.getD x2.toNat (D.int 0)).fld (2:Nat)).toInt+x7)).tmod (3600:Int)<(↑(3600:Nat):Int) then
 if ((IntKind.i64.wrap (((x0.getD x2.toNat (D.int 0)).fld (2:Nat)).toInt+x7)).tmod (3600:Int)).toNat+1≤x8.length then
 (F x0 (IntKind.i64.wrap (x1+1)) x2 x3 x4 x5 x6 (IntKind.i64.wrap (x7+1)) (x8.set ((IntKind.i64.wrap (((x0.getD x2.toNat (D.int 0)).fld (2:Nat)).toInt+x7)).tmod (3600:Int)).toNat (D.bool Bool.true)) x9).bind k
 else
 none
 else
 none
 else
 (F x0 x1 x2 x3 x4 x5 x6 (IntKind.i64.wrap (x7+1)) x8 x9).bind k
 else
 none
 else
 none
 else
 none
 else
 none
 else
 k (x0,x1,x3,x4,x5,x8,x9)
theorem c_Z39_bind {R:Type} (F:T_Z39) (x0:List D) (x1 x2:Int) (x3:Nat) (x4 x5 x6 x7:Int) (x8 x9:List D) (k:List D×Int×Nat×Int×Int×List D×List D→Option R):c_Z39 F x0 x1 x2 x3 x4 x5 x6 x7 x8 x9 k=(c_Z39 F x0 x1 x2 x3 x4 x5 x6 x7 x8 x9 some).bind k:=by
 unfold c_Z39
 repeat' first
  | exact J7
  | exact J6
  | exact J5
  | apply J2
  | apply J3
  | apply J8
  | (apply J4;intro _)
  | intro _
def n_Z39:Nat→T_Z39
 | 0,_,_,_,_,_,_,_,_,_,_=>none
 | n+1,x0,x1,x2,x3,x4,x5,x6,x7,x8,x9=>c_Z39 (n_Z39 n) x0 x1 x2 x3 x4 x5 x6 x7 x8 x9 some
noncomputable def Z39 (x0:List D) (x1 x2:Int) (x3:Nat) (x4 x5 x6 x7:Int) (x8 x9:List D):Option (List D×Int×Nat×Int×Int×List D×List D):=ev (fun n=>n_Z39 n x0 x1 x2 x3 x4 x5 x6 x7 x8 x9)
def m_Z39 (F:T_Z39):JS:=⟨10,⟨(.rd (.struct [.int .i64,.int .i64,.int .i64,.int .i64])::uu 9 (.ptr 1000 [0]::.int .i64::.undef::.int .i64::uu 22 (.full 1001 [1000000] (.int .i64)::.int .i64::.int .i64::uu 7 (.int .i64::.int .i64::uu 21 ([]))))),[(1000,.obox (.arr 3600 (.bool))),(1001,.own (.slice (.int .i64)))]⟩,[(.exit 2,⟨(.rd (.struct [.int .i64,.int .i64,.int .i64,.int .i64])::uu 9 (.ptr 1000 [0]::.int .i64::uu 24 (.full 1001 [1000000] (.int .i64)::.int .i64::.int .i64::uu 30 ([])))),[(1000,.obox (.arr 3600 (.bool))),(1001,.own (.slice (.int .i64)))]⟩)],fun _ ds k=>dL (fun x0 ds=>dI (fun x1 ds=>dI (fun x2 ds=>dN (fun x3 ds=>dI (fun x4 ds=>dI (fun x5 ds=>dI (fun x6 ds=>dI (fun x7 ds=>dL (fun x8 ds=>dL (fun x9 ds=>dE ((F x0 x1 x2 x3 x4 x5 x6 x7 x8 x9).bind (fun y=>k 0 [.L y.1,.I y.2.1,.N y.2.2.1,.I y.2.2.2.1,.I y.2.2.2.2.1,.L y.2.2.2.2.2.1,.L y.2.2.2.2.2.2])) ds) ds) ds) ds) ds) ds) ds) ds) ds) ds) ds⟩
theorem q_Z39 (F:T_Z39) (x0:List D) (x1 x2:Int) (x3:Nat) (x4 x5 x6 x7:Int) (x8 x9:List D):Q3 (JP []) (JQ [m_Z39 F]) A 18 (JG (JA Try.f18) 10) ((m_Z39 F).sh.mk' [.L x0,.I x1,.I x2,.N x3,.I x4,.I x5,.I x6,.I x7,.L x8,.L x9]) (fun e σ'=>some (e,σ'))=c_Z39 F x0 x1 x2 x3 x4 x5 x6 x7 x8 x9 (fun y=>some (.exit 2,SSt.mk' ⟨(.rd (.struct [.int .i64,.int .i64,.int .i64,.int .i64])::uu 9 (.ptr 1000 [0]::.int .i64::uu 24 (.full 1001 [1000000] (.int .i64)::.int .i64::.int .i64::uu 30 ([])))),[(1000,.obox (.arr 3600 (.bool))),(1001,.own (.slice (.int .i64)))]⟩ [.L y.1,.I y.2.1,.N y.2.2.1,.I y.2.2.2.1,.I y.2.2.2.2.1,.L y.2.2.2.2.2.1,.L y.2.2.2.2.2.2])):=by kernel_rfl
theorem m_Z39_ok:∀ n,(m_Z39 (n_Z39 n)).ok Try.prog (JG (JA Try.f18) 10):=by
 intro n
 induction n with
 | zero=>
  intro R ds k r h
  unfold m_Z39 at h
  obtain ⟨_,_,rfl,h⟩:=Jg h
  obtain ⟨_,_,rfl,h⟩:=Jf h
  obtain ⟨_,_,rfl,h⟩:=Jf h
  obtain ⟨_,_,rfl,h⟩:=VV h
  obtain ⟨_,_,rfl,h⟩:=Jf h
  obtain ⟨_,_,rfl,h⟩:=Jf h
  obtain ⟨_,_,rfl,h⟩:=Jf h
  obtain ⟨_,_,rfl,h⟩:=Jf h
  obtain ⟨_,_,rfl,h⟩:=Jg h
  obtain ⟨_,_,rfl,h⟩:=Jg h
  obtain ⟨rfl,hE⟩:=Jt h
  obtain ⟨y,hy,hk⟩:=Ju hE
  cases hy
 | succ n ih=>
  intro R ds k r h
  unfold m_Z39 at h
  obtain ⟨_,_,rfl,h⟩:=Jg h
  obtain ⟨_,_,rfl,h⟩:=Jf h
  obtain ⟨_,_,rfl,h⟩:=Jf h
  obtain ⟨_,_,rfl,h⟩:=VV h
  obtain ⟨_,_,rfl,h⟩:=Jf h
  obtain ⟨_,_,rfl,h⟩:=Jf h
  obtain ⟨_,_,rfl,h⟩:=Jf h
  obtain ⟨_,_,rfl,h⟩:=Jf h
  obtain ⟨_,_,rfl,h⟩:=Jg h
  obtain ⟨_,_,rfl,h⟩:=Jg h
  obtain ⟨rfl,hE⟩:=Jt h
  obtain ⟨y,hy,hk⟩:=Ju hE
  exact ⟨0,_,_,_,hk,rfl,QG px (fx:=⟨Try.func18,by kernel_rfl,by kernel_rfl⟩) JT (J0 ih JU) (by kernel_rfl) ((q_Z39 ..).trans ((c_Z39_bind ..).trans (JB hy)))⟩
noncomputable def e_Z39:JS:=m_Z39 (Z39)
theorem e_Z39_ok:(e_Z39).ok Try.prog (JG (JA Try.f18) 10):=by
 intro R ds k r h
 unfold e_Z39 m_Z39 at h
 obtain ⟨_,_,rfl,h⟩:=Jg h
 obtain ⟨_,_,rfl,h⟩:=Jf h
 obtain ⟨_,_,rfl,h⟩:=Jf h
 obtain ⟨_,_,rfl,h⟩:=VV h
 obtain ⟨_,_,rfl,h⟩:=Jf h
 obtain ⟨_,_,rfl,h⟩:=Jf h
 obtain ⟨_,_,rfl,h⟩:=Jf h
 obtain ⟨_,_,rfl,h⟩:=Jf h
 obtain ⟨_,_,rfl,h⟩:=Jg h
 obtain ⟨_,_,rfl,h⟩:=Jg h
 obtain ⟨rfl,hE⟩:=Jt h
 obtain ⟨y,hy,hk⟩:=Ju hE
 obtain ⟨n,hn⟩:=Uc hy
 exact m_Z39_ok n R _ k r ((JB hn).trans hk)

/-!-/
abbrev T_Z40:=List D→Int→Nat→Int→Int→List D→List D→Option (Int)
def c_Z40 {R:Type} (F:T_Z40) (x0:List D) (x1:Int) (x2:Nat) (x3 x4:Int) (x5 x6:List D) (k:Int→Option R):Option R:=
 bif decide (x4<x3) then
 if x2+(1:Nat)≤x6.length then
 if 0≤x4∧x4<(↑(x6.getD x2 (D.int 0)).items.length:Int) then
 if x2+(1:Nat)≤x6.length then
 if x4.toNat+1≤(x6.getD x2 (D.int 0)).items.length then
 if (0:Int)≤((x6.getD x2 (D.int 0)).items.getD x4.toNat (D.int 0)).toInt∧((x6.getD x2 (D.int 0)).items.getD x4.toNat (D.int 0)).toInt<(↑x0.length:Int) then
 (Z39 x0 x1 (((x6.getD x2 (D.int 0)).items.getD x4.toNat (D.int 0)).toInt) x2 x3 x4 (((x0.getD ((x6.getD x2 (D.int 0)).items.getD x4.toNat (D.int 0)).toInt.toNat (D.int 0)).fld (3:Nat)).toInt) (0:Int) x5 x6).bind (fun y0=>
 (F y0.fst y0.snd.fst y0.snd.snd.fst y0.snd.snd.snd.fst (IntKind.i64.wrap (y0.snd.snd.snd.snd.fst+1)) y0.snd.snd.snd.snd.snd.fst y0.snd.snd.snd.snd.snd.snd).bind k)
 else
 none
 else
 none
 else
 none
 else
 none
 else
 none
 else
 k x1
theorem c_Z40_bind {R:Type} (F:T_Z40) (x0:List D) (x1:Int) (x2:Nat) (x3 x4:Int) (x5 x6:List D) (k:Int→Option R):c_Z40 F x0 x1 x2 x3 x4 x5 x6 k=(c_Z40 F x0 x1 x2 x3 x4 x5 x6 some).bind k:=by
 unfold c_Z40
 repeat' first
  | exact J7
  | exact J6
  | exact J5
  | apply J2
  | apply J3
  | apply J8
  | (apply J4;intro _)
  | intro _
def n_Z40:Nat→T_Z40
 | 0,_,_,_,_,_,_,_=>none
 | n+1,x0,x1,x2,x3,x4,x5,x6=>c_Z40 (n_Z40 n) x0 x1 x2 x3 x4 x5 x6 some
noncomputable def Z40 (x0:List D) (x1:Int) (x2:Nat) (x3 x4:Int) (x5 x6:List D):Option (Int):=ev (fun n=>n_Z40 n x0 x1 x2 x3 x4 x5 x6)
def m_Z40 (F:T_Z40):JS:=⟨7,⟨(.rd (.struct [.int .i64,.int .i64,.int .i64,.int .i64])::uu 9 (.ptr 1000 [0]::.int .i64::uu 24 (.full 1001 [1000000] (.int .i64)::.int .i64::.int .i64::uu 30 ([])))),[(1000,.obox (.arr 3600 (.bool))),(1001,.own (.slice (.int .i64)))]⟩,[(.exit 0,⟨(uu 11 (.int .i64::uu 57 ([]))),[]⟩)],fun _ ds k=>dL (fun x0 ds=>dI (fun x1 ds=>dN (fun x2 ds=>dI (fun x3 ds=>dI (fun x4 ds=>dL (fun x5 ds=>dL (fun x6 ds=>dE ((F x0 x1 x2 x3 x4 x5 x6).bind (fun y=>k 0 [.I y])) ds) ds) ds) ds) ds) ds) ds) ds⟩
theorem q_Z40 (F:T_Z40) (x0:List D) (x1:Int) (x2:Nat) (x3 x4:Int) (x5 x6:List D):Q3 (JP []) (JQ [m_Z40 F,e_Z39]) A 18 (JG (JA Try.f18) 7) ((m_Z40 F).sh.mk' [.L x0,.I x1,.N x2,.I x3,.I x4,.L x5,.L x6]) (fun e σ'=>some (e,σ'))=c_Z40 F x0 x1 x2 x3 x4 x5 x6 (fun y=>some (.exit 0,SSt.mk' ⟨(uu 11 (.int .i64::uu 57 ([]))),[]⟩ [.I y])):=by kernel_rfl
theorem m_Z40_ok:∀ n,(m_Z40 (n_Z40 n)).ok Try.prog (JG (JA Try.f18) 7):=by
 intro n
 induction n with
 | zero=>
  intro R ds k r h
  unfold m_Z40 at h
  obtain ⟨_,_,rfl,h⟩:=Jg h
  obtain ⟨_,_,rfl,h⟩:=Jf h
  obtain ⟨_,_,rfl,h⟩:=VV h
  obtain ⟨_,_,rfl,h⟩:=Jf h
  obtain ⟨_,_,rfl,h⟩:=Jf h
  obtain ⟨_,_,rfl,h⟩:=Jg h
  obtain ⟨_,_,rfl,h⟩:=Jg h
  obtain ⟨rfl,hE⟩:=Jt h
  obtain ⟨y,hy,hk⟩:=Ju hE
  cases hy
 | succ n ih=>
  intro R ds k r h
  unfold m_Z40 at h
  obtain ⟨_,_,rfl,h⟩:=Jg h
  obtain ⟨_,_,rfl,h⟩:=Jf h
  obtain ⟨_,_,rfl,h⟩:=VV h
  obtain ⟨_,_,rfl,h⟩:=Jf h
  obtain ⟨_,_,rfl,h⟩:=Jf h
  obtain ⟨_,_,rfl,h⟩:=Jg h
  obtain ⟨_,_,rfl,h⟩:=Jg h
  obtain ⟨rfl,hE⟩:=Jt h
  obtain ⟨y,hy,hk⟩:=Ju hE
  exact ⟨0,_,_,_,hk,rfl,QG px (fx:=⟨Try.func18,by kernel_rfl,by kernel_rfl⟩) JT (J0 ih (J0 e_Z39_ok JU)) (by kernel_rfl) ((q_Z40 ..).trans ((c_Z40_bind ..).trans (JB hy)))⟩
noncomputable def e_Z40:JS:=m_Z40 (Z40)
theorem e_Z40_ok:(e_Z40).ok Try.prog (JG (JA Try.f18) 7):=by
 intro R ds k r h
 unfold e_Z40 m_Z40 at h
 obtain ⟨_,_,rfl,h⟩:=Jg h
 obtain ⟨_,_,rfl,h⟩:=Jf h
 obtain ⟨_,_,rfl,h⟩:=VV h
 obtain ⟨_,_,rfl,h⟩:=Jf h
 obtain ⟨_,_,rfl,h⟩:=Jf h
 obtain ⟨_,_,rfl,h⟩:=Jg h
 obtain ⟨_,_,rfl,h⟩:=Jg h
 obtain ⟨rfl,hE⟩:=Jt h
 obtain ⟨y,hy,hk⟩:=Ju hE
 obtain ⟨n,hn⟩:=Uc hy
 exact m_Z40_ok n R _ k r ((JB hn).trans hk)

/-!-/
def c_Z41 {R:Type} (x0 x1:List D) (x2:Int) (k:Int×Bool→Option R):Option R:=
 (Z38 x0 x1).bind (fun y0=>
 bif !y0.snd then
 k ((0:Int),Bool.false)
 else
 (Z23 x2 (0:Int) (IntKind.i64.wrap ((↑y0.fst.length:Int) - (1:Int)))).bind (fun y1=>
 bif !y1 then
 k ((0:Int),Bool.false)
 else
 if 0≤x2∧x2<(↑y0.fst.length:Int) then
 if x2.toNat+1≤y0.fst.length then
 if x2.toNat+1≤y0.fst.length then
 (Z40 x0 (0:Int) x2.toNat (↑(y0.fst.getD x2.toNat (D.int 0)).items.length:Int) (0:Int) (List.replicate (3600:Nat) (D.bool Bool.false)) y0.fst).bind (fun y2=>
 k (y2,Bool.true))
 else
 none
 else
 none
 else
 none))
theorem c_Z41_bind {R:Type} (x0 x1:List D) (x2:Int) (k:Int×Bool→Option R):c_Z41 x0 x1 x2 k=(c_Z41 x0 x1 x2 some).bind k:=by
 unfold c_Z41
 repeat' first
  | exact J7
  | exact J6
  | exact J5
  | apply J2
  | apply J3
  | apply J8
  | (apply J4;intro _)
  | intro _
def Z41 (x0 x1:List D) (x2:Int):Option (Int×Bool):=c_Z41 x0 x1 x2 some
def e_Z41:Ent:=⟨18,[.rd (.struct [.int .i64,.int .i64,.int .i64,.int .i64]),.rd (.struct [.int .i64,.int .i64]),.int .i64],[(.tup [.int .i64,.bool],[.undef,.undef,.undef])],fun _ ds k=>dL (fun x0 ds=>dL (fun x1 ds=>dI (fun x2 ds=>dE ((Z41 x0 x1 x2).bind (fun y=>k 0 [.I y.1,.B y.2])) ds) ds) ds) ds⟩
theorem q_Z41 (x0 x1:List D) (x2:Int):QD (JP [e_Z38,e_Z23]) (JQ [e_Z40]) A 18 Try.f18 (Sh.mks e_Z41.sh [.L x0,.L x1,.I x2]).1 (fun v os=>some (v,os))=c_Z41 x0 x1 x2 (fun y=>QO e_Z41 0 [.I y.1,.B y.2]):=by kernel_rfl
theorem e_Z41_ok:e_Z41.ok Try.prog A:=by
 intro R ds k r h
 unfold e_Z41 at h
 obtain ⟨_,_,rfl,h⟩:=Jg h
 obtain ⟨_,_,rfl,h⟩:=Jg h
 obtain ⟨_,_,rfl,h⟩:=Jf h
 obtain ⟨rfl,hE⟩:=Jt h
 obtain ⟨y,hy,hk⟩:=Ju hE
 exact ⟨0,_,_,_,hk,rfl,QP px (fx:=⟨Try.func18,by kernel_rfl,by kernel_rfl⟩) (Qp e_Z38_ok (Qp e_Z23_ok JT)) (J0 e_Z40_ok JU) ((q_Z41 ..).trans ((c_Z41_bind ..).trans (JB hy)))⟩

/-!-/
def c_Z42 {R:Type} (x0 x1 x2 x3 x4 x5 x6 x7:Int) (k:Bool→Option R):Option R:=
 bif !decide (x0=x4) then
 k Bool.false
 else
 bif !decide (x1=x5) then
 k Bool.false
 else
 bif !decide (x2=x6) then
 k Bool.false
 else
 bif !decide (x3=x7) then
 k Bool.false
 else
 k Bool.true
theorem c_Z42_bind {R:Type} (x0 x1 x2 x3 x4 x5 x6 x7:Int) (k:Bool→Option R):c_Z42 x0 x1 x2 x3 x4 x5 x6 x7 k=(c_Z42 x0 x1 x2 x3 x4 x5 x6 x7 some).bind k:=by
 unfold c_Z42
 repeat' first
  | exact J7
  | exact J6
  | exact J5
  | apply J2
  | apply J3
  | apply J8
  | (apply J4;intro _)
  | intro _
def Z42 (x0 x1 x2 x3 x4 x5 x6 x7:Int):Option (Bool):=c_Z42 x0 x1 x2 x3 x4 x5 x6 x7 some
def e_Z42:Ent:=⟨52,[.agg [.int .i64,.int .i64,.int .i64,.int .i64],.agg [.int .i64,.int .i64,.int .i64,.int .i64]],[(.bool,[.undef,.undef])],fun _ ds k=>dI (fun x0 ds=>dI (fun x1 ds=>dI (fun x2 ds=>dI (fun x3 ds=>dI (fun x4 ds=>dI (fun x5 ds=>dI (fun x6 ds=>dI (fun x7 ds=>dE ((Z42 x0 x1 x2 x3 x4 x5 x6 x7).bind (fun y=>k 0 [.B y])) ds) ds) ds) ds) ds) ds) ds) ds) ds⟩
theorem q_Z42 (x0 x1 x2 x3 x4 x5 x6 x7:Int):QD (JP []) (JQ []) A 52 Try.f52 (Sh.mks e_Z42.sh [.I x0,.I x1,.I x2,.I x3,.I x4,.I x5,.I x6,.I x7]).1 (fun v os=>some (v,os))=c_Z42 x0 x1 x2 x3 x4 x5 x6 x7 (fun y=>QO e_Z42 0 [.B y]):=by kernel_rfl
theorem e_Z42_ok:e_Z42.ok Try.prog A:=by
 intro R ds k r h
 unfold e_Z42 at h
 obtain ⟨_,_,rfl,h⟩:=Jf h
 obtain ⟨_,_,rfl,h⟩:=Jf h
 obtain ⟨_,_,rfl,h⟩:=Jf h
 obtain ⟨_,_,rfl,h⟩:=Jf h
 obtain ⟨_,_,rfl,h⟩:=Jf h
 obtain ⟨_,_,rfl,h⟩:=Jf h
 obtain ⟨_,_,rfl,h⟩:=Jf h
 obtain ⟨_,_,rfl,h⟩:=Jf h
 obtain ⟨rfl,hE⟩:=Jt h
 obtain ⟨y,hy,hk⟩:=Ju hE
 exact ⟨0,_,_,_,hk,rfl,QP px (fx:=⟨Try.func52,by kernel_rfl,by kernel_rfl⟩) JT JU ((q_Z42 ..).trans ((c_Z42_bind ..).trans (JB hy)))⟩

/-!-/
abbrev T_Z43:=List D→List D→Int→Option ((Bool)⊕(Unit))
def c_Z43 {R:Type} (F:T_Z43) (x0 x1:List D) (x2:Int) (k:(Bool)⊕(Unit)→Option R):Option R:=
 bif decide (x2<(↑x0.length:Int)) then
 if 0≤x2∧x2<(↑x0.length:Int) then
 if 0≤x2∧x2<(↑x1.length:Int) then
 (Z42 (((x0.getD x2.toNat (D.int 0)).fld (0:Nat)).toInt) (((x0.getD x2.toNat (D.int 0)).fld (1:Nat)).toInt) (((x0.getD x2.toNat (D.int 0)).fld (2:Nat)).toInt) (((x0.getD x2.toNat (D.int 0)).fld (3:Nat)).toInt) (((x1.getD x2.toNat (D.int 0)).fld (0:Nat)).toInt) (((x1.getD x2.toNat (D.int 0)).fld (1:Nat)).toInt) (((x1.getD x2.toNat (D.int 0)).fld (2:Nat)).toInt) (((x1.getD x2.toNat (D.int 0)).fld (3:Nat)).toInt)).bind (fun y0=>
 bif !y0 then
 k (.inl Bool.false)
 else
 (F x0 x1 (IntKind.i64.wrap (x2+1))).bind k)
 else
 none
 else
 none
 else
 k (.inr ())
theorem c_Z43_bind {R:Type} (F:T_Z43) (x0 x1:List D) (x2:Int) (k:(Bool)⊕(Unit)→Option R):c_Z43 F x0 x1 x2 k=(c_Z43 F x0 x1 x2 some).bind k:=by
 unfold c_Z43
 repeat' first
  | exact J7
  | exact J6
  | exact J5
  | apply J2
  | apply J3
  | apply J8
  | (apply J4;intro _)
  | intro _
def n_Z43:Nat→T_Z43
 | 0,_,_,_=>none
 | n+1,x0,x1,x2=>c_Z43 (n_Z43 n) x0 x1 x2 some
noncomputable def Z43 (x0 x1:List D) (x2:Int):Option ((Bool)⊕(Unit)):=ev (fun n=>n_Z43 n x0 x1 x2)
def m_Z43 (F:T_Z43):JS:=⟨4,⟨(.rd (.struct [.int .i64,.int .i64,.int .i64,.int .i64])::.rd (.struct [.int .i64,.int .i64,.int .i64,.int .i64])::.undef::.undef::.undef::.int .i64::uu 21 ([])),[]⟩,[(.ret,⟨(uu 4 (.bool::uu 22 ([]))),[]⟩),(.exit 0,⟨(uu 27 ([])),[]⟩)],fun _ ds k=>dL (fun x0 ds=>dL (fun x1 ds=>dI (fun x2 ds=>dE ((F x0 x1 x2).bind (Sum.elim (fun y=>k 0 [.B y]) (fun y=>k 1 []))) ds) ds) ds) ds⟩
theorem q_Z43 (F:T_Z43) (x0 x1:List D) (x2:Int):Q3 (JP [e_Z42]) (JQ [m_Z43 F]) A 14 (JG (JA Try.f14) 4) ((m_Z43 F).sh.mk' [.L x0,.L x1,.I x2]) (fun e σ'=>some (e,σ'))=c_Z43 F x0 x1 x2 (Sum.elim (fun y=>some (.ret,SSt.mk' ⟨(uu 4 (.bool::uu 22 ([]))),[]⟩ [.B y])) (fun y=>some (.exit 0,SSt.mk' ⟨(uu 27 ([])),[]⟩ []))):=by kernel_rfl
theorem m_Z43_ok:∀ n,(m_Z43 (n_Z43 n)).ok Try.prog (JG (JA Try.f14) 4):=by
 intro n
 induction n with
 | zero=>
  intro R ds k r h
  unfold m_Z43 at h
  obtain ⟨_,_,rfl,h⟩:=Jg h
  obtain ⟨_,_,rfl,h⟩:=Jg h
  obtain ⟨_,_,rfl,h⟩:=Jf h
  obtain ⟨rfl,hE⟩:=Jt h
  obtain ⟨y,hy,hk⟩:=Ju hE
  cases hy
 | succ n ih=>
  intro R ds k r h
  unfold m_Z43 at h
  obtain ⟨_,_,rfl,h⟩:=Jg h
  obtain ⟨_,_,rfl,h⟩:=Jg h
  obtain ⟨_,_,rfl,h⟩:=Jf h
  obtain ⟨rfl,hE⟩:=Jt h
  obtain ⟨y,hy,hk⟩:=Ju hE
  cases y with
  | inl y=>
   exact ⟨0,_,_,_,hk,rfl,QG px (fx:=⟨Try.func14,by kernel_rfl,by kernel_rfl⟩) (Qp e_Z42_ok JT) (J0 ih JU) (by kernel_rfl) ((q_Z43 ..).trans ((c_Z43_bind ..).trans (JB hy)))⟩
  | inr y=>
   exact ⟨1,_,_,_,hk,rfl,QG px (fx:=⟨Try.func14,by kernel_rfl,by kernel_rfl⟩) (Qp e_Z42_ok JT) (J0 ih JU) (by kernel_rfl) ((q_Z43 ..).trans ((c_Z43_bind ..).trans (JB hy)))⟩
noncomputable def e_Z43:JS:=m_Z43 (Z43)
theorem e_Z43_ok:(e_Z43).ok Try.prog (JG (JA Try.f14) 4):=by
 intro R ds k r h
 unfold e_Z43 m_Z43 at h
 obtain ⟨_,_,rfl,h⟩:=Jg h
 obtain ⟨_,_,rfl,h⟩:=Jg h
 obtain ⟨_,_,rfl,h⟩:=Jf h
 obtain ⟨rfl,hE⟩:=Jt h
 obtain ⟨y,hy,hk⟩:=Ju hE
 obtain ⟨n,hn⟩:=Uc hy
 exact m_Z43_ok n R _ k r ((JB hn).trans hk)

/-!-/
def c_Z44 {R:Type} (x0 x1:List D) (k:Bool→Option R):Option R:=
 bif !decide ((↑x0.length:Int)=(↑x1.length:Int)) then
 k Bool.false
 else
 (Z43 x0 x1 (0:Int)).bind (Sum.elim (fun y0=>
 k y0) (fun y1=>
 k Bool.true))
theorem c_Z44_bind {R:Type} (x0 x1:List D) (k:Bool→Option R):c_Z44 x0 x1 k=(c_Z44 x0 x1 some).bind k:=by
 unfold c_Z44
 repeat' first
  | exact J7
  | exact J6
  | exact J5
  | apply J2
  | apply J3
  | apply J8
  | (apply J4;intro _)
  | intro _
def Z44 (x0 x1:List D):Option (Bool):=c_Z44 x0 x1 some
def e_Z44:Ent:=⟨14,[.rd (.struct [.int .i64,.int .i64,.int .i64,.int .i64]),.rd (.struct [.int .i64,.int .i64,.int .i64,.int .i64])],[(.bool,[.undef,.undef])],fun _ ds k=>dL (fun x0 ds=>dL (fun x1 ds=>dE ((Z44 x0 x1).bind (fun y=>k 0 [.B y])) ds) ds) ds⟩
theorem q_Z44 (x0 x1:List D):QD (JP []) (JQ [e_Z43]) A 14 Try.f14 (Sh.mks e_Z44.sh [.L x0,.L x1]).1 (fun v os=>some (v,os))=c_Z44 x0 x1 (fun y=>QO e_Z44 0 [.B y]):=by kernel_rfl
theorem e_Z44_ok:e_Z44.ok Try.prog A:=by
 intro R ds k r h
 unfold e_Z44 at h
 obtain ⟨_,_,rfl,h⟩:=Jg h
 obtain ⟨_,_,rfl,h⟩:=Jg h
 obtain ⟨rfl,hE⟩:=Jt h
 obtain ⟨y,hy,hk⟩:=Ju hE
 exact ⟨0,_,_,_,hk,rfl,QP px (fx:=⟨Try.func14,by kernel_rfl,by kernel_rfl⟩) JT (J0 e_Z43_ok JU) ((q_Z44 ..).trans ((c_Z44_bind ..).trans (JB hy)))⟩

/-!-/
def c_Z45 {R:Type} (x0 x1 x2 x3:Int) (k:Bool→Option R):Option R:=
 bif !decide (x0=x2) then
 k Bool.false
 else
 bif !decide (x1=x3) then
 k Bool.false
 else
 k Bool.true
theorem c_Z45_bind {R:Type} (x0 x1 x2 x3:Int) (k:Bool→Option R):c_Z45 x0 x1 x2 x3 k=(c_Z45 x0 x1 x2 x3 some).bind k:=by
 unfold c_Z45
 repeat' first
  | exact J7
  | exact J6
  | exact J5
  | apply J2
  | apply J3
  | apply J8
  | (apply J4;intro _)
  | intro _
def Z45 (x0 x1 x2 x3:Int):Option (Bool):=c_Z45 x0 x1 x2 x3 some
def e_Z45:Ent:=⟨57,[.agg [.int .i64,.int .i64],.agg [.int .i64,.int .i64]],[(.bool,[.undef,.undef])],fun _ ds k=>dI (fun x0 ds=>dI (fun x1 ds=>dI (fun x2 ds=>dI (fun x3 ds=>dE ((Z45 x0 x1 x2 x3).bind (fun y=>k 0 [.B y])) ds) ds) ds) ds) ds⟩
theorem q_Z45 (x0 x1 x2 x3:Int):QD (JP []) (JQ []) A 57 Try.f57 (Sh.mks e_Z45.sh [.I x0,.I x1,.I x2,.I x3]).1 (fun v os=>some (v,os))=c_Z45 x0 x1 x2 x3 (fun y=>QO e_Z45 0 [.B y]):=by kernel_rfl
theorem e_Z45_ok:e_Z45.ok Try.prog A:=by
 intro R ds k r h
 unfold e_Z45 at h
 obtain ⟨_,_,rfl,h⟩:=Jf h
 obtain ⟨_,_,rfl,h⟩:=Jf h
 obtain ⟨_,_,rfl,h⟩:=Jf h
 obtain ⟨_,_,rfl,h⟩:=Jf h
 obtain ⟨rfl,hE⟩:=Jt h
 obtain ⟨y,hy,hk⟩:=Ju hE
 exact ⟨0,_,_,_,hk,rfl,QP px (fx:=⟨Try.func57,by kernel_rfl,by kernel_rfl⟩) JT JU ((q_Z45 ..).trans ((c_Z45_bind ..).trans (JB hy)))⟩

/-!-/
abbrev T_Z46:=List D→List D→Int→Option ((Bool)⊕(Unit))
def c_Z46 {R:Type} (F:T_Z46) (x0 x1:List D) (x2:Int) (k:(Bool)⊕(Unit)→Option R):Option R:=
 bif decide (x2<(↑x0.length:Int)) then
 if 0≤x2∧x2<(↑x0.length:Int) then
 if 0≤x2∧x2<(↑x1.length:Int) then
 (Z45 (((x0.getD x2.toNat (D.int 0)).fld (0:Nat)).toInt) (((x0.getD x2.toNat (D.int 0)).fld (1:Nat)).toInt) (((x1.getD x2.toNat (D.int 0)).fld (0:Nat)).toInt) (((x1.getD x2.toNat (D.int 0)).fld (1:Nat)).toInt)).bind (fun y0=>
 bif !y0 then
 k (.inl Bool.false)
 else
 (F x0 x1 (IntKind.i64.wrap (x2+1))).bind k)
 else
 none
 else
 none
 else
 k (.inr ())
theorem c_Z46_bind {R:Type} (F:T_Z46) (x0 x1:List D) (x2:Int) (k:(Bool)⊕(Unit)→Option R):c_Z46 F x0 x1 x2 k=(c_Z46 F x0 x1 x2 some).bind k:=by
 unfold c_Z46
 repeat' first
  | exact J7
  | exact J6
  | exact J5
  | apply J2
  | apply J3
  | apply J8
  | (apply J4;intro _)
  | intro _
def n_Z46:Nat→T_Z46
 | 0,_,_,_=>none
 | n+1,x0,x1,x2=>c_Z46 (n_Z46 n) x0 x1 x2 some
noncomputable def Z46 (x0 x1:List D) (x2:Int):Option ((Bool)⊕(Unit)):=ev (fun n=>n_Z46 n x0 x1 x2)
def m_Z46 (F:T_Z46):JS:=⟨4,⟨(.rd (.struct [.int .i64,.int .i64])::.rd (.struct [.int .i64,.int .i64])::.undef::.undef::.undef::.int .i64::uu 21 ([])),[]⟩,[(.ret,⟨(uu 4 (.bool::uu 22 ([]))),[]⟩),(.exit 0,⟨(uu 27 ([])),[]⟩)],fun _ ds k=>dL (fun x0 ds=>dL (fun x1 ds=>dI (fun x2 ds=>dE ((F x0 x1 x2).bind (Sum.elim (fun y=>k 0 [.B y]) (fun y=>k 1 []))) ds) ds) ds) ds⟩
theorem q_Z46 (F:T_Z46) (x0 x1:List D) (x2:Int):Q3 (JP [e_Z45]) (JQ [m_Z46 F]) A 19 (JG (JA Try.f19) 4) ((m_Z46 F).sh.mk' [.L x0,.L x1,.I x2]) (fun e σ'=>some (e,σ'))=c_Z46 F x0 x1 x2 (Sum.elim (fun y=>some (.ret,SSt.mk' ⟨(uu 4 (.bool::uu 22 ([]))),[]⟩ [.B y])) (fun y=>some (.exit 0,SSt.mk' ⟨(uu 27 ([])),[]⟩ []))):=by kernel_rfl
theorem m_Z46_ok:∀ n,(m_Z46 (n_Z46 n)).ok Try.prog (JG (JA Try.f19) 4):=by
 intro n
 induction n with
 | zero=>
  intro R ds k r h
  unfold m_Z46 at h
  obtain ⟨_,_,rfl,h⟩:=Jg h
  obtain ⟨_,_,rfl,h⟩:=Jg h
  obtain ⟨_,_,rfl,h⟩:=Jf h
  obtain ⟨rfl,hE⟩:=Jt h
  obtain ⟨y,hy,hk⟩:=Ju hE
  cases hy
 | succ n ih=>
  intro R ds k r h
  unfold m_Z46 at h
  obtain ⟨_,_,rfl,h⟩:=Jg h
  obtain ⟨_,_,rfl,h⟩:=Jg h
  obtain ⟨_,_,rfl,h⟩:=Jf h
  obtain ⟨rfl,hE⟩:=Jt h
  obtain ⟨y,hy,hk⟩:=Ju hE
  cases y with
  | inl y=>
   exact ⟨0,_,_,_,hk,rfl,QG px (fx:=⟨Try.func19,by kernel_rfl,by kernel_rfl⟩) (Qp e_Z45_ok JT) (J0 ih JU) (by kernel_rfl) ((q_Z46 ..).trans ((c_Z46_bind ..).trans (JB hy)))⟩
  | inr y=>
   exact ⟨1,_,_,_,hk,rfl,QG px (fx:=⟨Try.func19,by kernel_rfl,by kernel_rfl⟩) (Qp e_Z45_ok JT) (J0 ih JU) (by kernel_rfl) ((q_Z46 ..).trans ((c_Z46_bind ..).trans (JB hy)))⟩
noncomputable def e_Z46:JS:=m_Z46 (Z46)
theorem e_Z46_ok:(e_Z46).ok Try.prog (JG (JA Try.f19) 4):=by
 intro R ds k r h
 unfold e_Z46 m_Z46 at h
 obtain ⟨_,_,rfl,h⟩:=Jg h
 obtain ⟨_,_,rfl,h⟩:=Jg h
 obtain ⟨_,_,rfl,h⟩:=Jf h
 obtain ⟨rfl,hE⟩:=Jt h
 obtain ⟨y,hy,hk⟩:=Ju hE
 obtain ⟨n,hn⟩:=Uc hy
 exact m_Z46_ok n R _ k r ((JB hn).trans hk)

/-!-/
def c_Z47 {R:Type} (x0 x1:List D) (k:Bool→Option R):Option R:=
 bif !decide ((↑x0.length:Int)=(↑x1.length:Int)) then
 k Bool.false
 else
 (Z46 x0 x1 (0:Int)).bind (Sum.elim (fun y0=>
 k y0) (fun y1=>
 k Bool.true))
theorem c_Z47_bind {R:Type} (x0 x1:List D) (k:Bool→Option R):c_Z47 x0 x1 k=(c_Z47 x0 x1 some).bind k:=by
 unfold c_Z47
 repeat' first
  | exact J7
  | exact J6
  | exact J5
  | apply J2
  | apply J3
  | apply J8
  | (apply J4;intro _)
  | intro _
def Z47 (x0 x1:List D):Option (Bool):=c_Z47 x0 x1 some
def e_Z47:Ent:=⟨19,[.rd (.struct [.int .i64,.int .i64]),.rd (.struct [.int .i64,.int .i64])],[(.bool,[.undef,.undef])],fun _ ds k=>dL (fun x0 ds=>dL (fun x1 ds=>dE ((Z47 x0 x1).bind (fun y=>k 0 [.B y])) ds) ds) ds⟩
theorem q_Z47 (x0 x1:List D):QD (JP []) (JQ [e_Z46]) A 19 Try.f19 (Sh.mks e_Z47.sh [.L x0,.L x1]).1 (fun v os=>some (v,os))=c_Z47 x0 x1 (fun y=>QO e_Z47 0 [.B y]):=by kernel_rfl
theorem e_Z47_ok:e_Z47.ok Try.prog A:=by
 intro R ds k r h
 unfold e_Z47 at h
 obtain ⟨_,_,rfl,h⟩:=Jg h
 obtain ⟨_,_,rfl,h⟩:=Jg h
 obtain ⟨rfl,hE⟩:=Jt h
 obtain ⟨y,hy,hk⟩:=Ju hE
 exact ⟨0,_,_,_,hk,rfl,QP px (fx:=⟨Try.func19,by kernel_rfl,by kernel_rfl⟩) JT (J0 e_Z46_ok JU) ((q_Z47 ..).trans ((c_Z47_bind ..).trans (JB hy)))⟩

/-!-/
def c_Z48 {R:Type} (x0 x1:List D) (x2:Int) (k:Bool→Option R):Option R:=
 (Z0 x0 (1048576:Int)).bind (fun y0=>
 bif decide (y0<(0:Int)) then
 k Bool.true
 else
 (Z1 x1 y0).bind (fun y1=>
 bif decide (y1<(0:Int)) then
 k Bool.true
 else
 (Z4 x0).bind (fun y2=>
 (Z7 x1).bind (fun y3=>
 (Z22 y2 y3 x2).bind (fun y4=>
 (Z4 x0).bind (fun y5=>
 (Z7 x1).bind (fun y6=>
 (Z41 y5 y6 x2).bind (fun y7=>
 bif !decide (y7.fst=y4.fst) then
 k Bool.false
 else
 bif !y7.snd==y4.snd then
 k Bool.false
 else
 (Z4 x0).bind (fun y8=>
 (Z44 y5 y8).bind (fun y9=>
 bif !y9 then
 k Bool.false
 else
 (Z7 x1).bind (fun y10=>
 (Z47 y6 y10).bind (fun y11=>
 bif !y11 then
 k Bool.false
 else
 k Bool.true))))))))))))
theorem c_Z48_bind {R:Type} (x0 x1:List D) (x2:Int) (k:Bool→Option R):c_Z48 x0 x1 x2 k=(c_Z48 x0 x1 x2 some).bind k:=by
 unfold c_Z48
 repeat' first
  | exact J7
  | exact J6
  | exact J5
  | apply J2
  | apply J3
  | apply J8
  | (apply J4;intro _)
  | intro _
def Z48 (x0 x1:List D) (x2:Int):Option (Bool):=c_Z48 x0 x1 x2 some
def e_Z48:Ent:=⟨4,[.rd (.struct [.int .i64,.int .i64,.int .i64,.int .i64]),.rd (.struct [.int .i64,.int .i64]),.int .i64],[(.bool,[.undef,.undef,.undef])],fun _ ds k=>dL (fun x0 ds=>dL (fun x1 ds=>dI (fun x2 ds=>dE ((Z48 x0 x1 x2).bind (fun y=>k 0 [.B y])) ds) ds) ds) ds⟩
theorem q_Z48 (x0 x1:List D) (x2:Int):QD (JP [e_Z0,e_Z1,e_Z4,e_Z7,e_Z22,e_Z41,e_Z44,e_Z47]) (JQ []) A 4 Try.f4 (Sh.mks e_Z48.sh [.L x0,.L x1,.I x2]).1 (fun v os=>some (v,os))=c_Z48 x0 x1 x2 (fun y=>QO e_Z48 0 [.B y]):=by kernel_rfl
theorem e_Z48_ok:e_Z48.ok Try.prog A:=by
 intro R ds k r h
 unfold e_Z48 at h
 obtain ⟨_,_,rfl,h⟩:=Jg h
 obtain ⟨_,_,rfl,h⟩:=Jg h
 obtain ⟨_,_,rfl,h⟩:=Jf h
 obtain ⟨rfl,hE⟩:=Jt h
 obtain ⟨y,hy,hk⟩:=Ju hE
 exact ⟨0,_,_,_,hk,rfl,QP px (fx:=⟨Try.func4,by kernel_rfl,by kernel_rfl⟩) (Qp e_Z0_ok (Qp e_Z1_ok (Qp e_Z4_ok (Qp e_Z7_ok (Qp e_Z22_ok (Qp e_Z41_ok (Qp e_Z44_ok (Qp e_Z47_ok JT)))))))) JU ((q_Z48 ..).trans ((c_Z48_bind ..).trans (JB hy)))⟩
end
end Go.Proofs.Ytaahhnjdbejfhaa
