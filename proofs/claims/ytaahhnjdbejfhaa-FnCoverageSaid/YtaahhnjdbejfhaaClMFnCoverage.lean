/- Models of Go functions and their contracts, printed by a program of this session. -/
import Derived.Test.YtaahhnjdbejfhaaClA
set_option linter.unusedVariables false
set_option maxRecDepth 100000
namespace Go.Proofs.Ytaahhnjdbejfhaa
open Go Go.Rai
noncomputable section
/-!-/
def c_Z0 {R:Type} (x0:List D) (k:Bool→Option R):Option R:=
 k (decide ((65536:Int)<(↑x0.length:Int)))
theorem c_Z0_bind {R:Type} (x0:List D) (k:Bool→Option R):c_Z0 x0 k=(c_Z0 x0 some).bind k:=by
 unfold c_Z0
 repeat' first
  | exact J9
  | exact J8
  | exact J7
  | apply J4
  | apply J5
  | apply Qa
  | (apply J6;intro _)
  | intro _
def Z0 (x0:List D):Option (Bool):=c_Z0 x0 some
def e_Z0:Ent:=⟨27,[.rd (.int .u8)],[(.bool,[.undef])],fun _ ds k=>dL (fun x0 ds=>dE ((Z0 x0).bind (fun y=>k 0 [.B y])) ds) ds⟩
theorem q_Z0 (x0:List D):QH (JQ []) (JR []) A 27 Try.f27 (Sh.mks e_Z0.sh [.L x0]).1 (fun v os=>some (v,os))=c_Z0 x0 (fun y=>QW e_Z0 0 [.B y]):=by kernel_rfl
theorem e_Z0_ok:e_Z0.ok Try.prog A:=by
 intro R ds k r h
 unfold e_Z0 at h
 obtain ⟨_,_,rfl,h⟩:=Jg h
 obtain ⟨rfl,hE⟩:=Jr h
 obtain ⟨y,hy,hk⟩:=Js hE
 exact ⟨0,_,_,_,hk,rfl,QX px (fx:=⟨Try.func27,by kernel_rfl,by kernel_rfl⟩) JU JV ((q_Z0 ..).trans ((c_Z0_bind ..).trans (JB hy)))⟩

/-!-/
def c_Z1 {R:Type} (x0:List D) (x1 x2:Int) (k:Int×List D×Int×Int→Option R):Option R:=
 bif decide (x1<(↑x0.length:Int)) then
 if 0≤x1∧x1<(↑x0.length:Int) then
 bif decide (IntKind.i64.wrap (x1+1)≤(↑x0.length:Int)) then
 k (IntKind.i64.wrap (x0.getD x1.toNat (D.int 0)).toInt,x0,IntKind.i64.wrap (x1+1),IntKind.u64.wrap (IntKind.u64.wrap (IntKind.u64.wrap (x2 * (6364136223846793005:Int))+IntKind.u64.wrap (IntKind.i64.wrap (x0.getD x1.toNat (D.int 0)).toInt))+(876876:Int)))
 else
 if (0:Int)≤(40:Int) then
 k (IntKind.i64.wrap (IntKind.u64.wrap (↑(BitVec.ofInt IntKind.u64.bits ((IntKind.u64.wrap (IntKind.u64.wrap (IntKind.u64.wrap (x2 * (6364136223846793005:Int))+IntKind.u64.wrap (IntKind.i64.wrap (x0.getD x1.toNat (D.int 0)).toInt))+(876876:Int))).fdiv ((2:Int) ^ Min.min (Int.toNat (40:Int)) IntKind.u64.bits)) &&& BitVec.ofInt IntKind.u64.bits (255:Int)).toNat:Int)),x0,IntKind.i64.wrap (x1+1),IntKind.u64.wrap (IntKind.u64.wrap (IntKind.u64.wrap (x2 * (6364136223846793005:Int))+IntKind.u64.wrap (IntKind.i64.wrap (x0.getD x1.toNat (D.int 0)).toInt))+(876876:Int)))
 else
 none
 else
 none
 else
 bif decide (IntKind.i64.wrap (x1+1)≤(↑x0.length:Int)) then
 k ((0:Int),x0,IntKind.i64.wrap (x1+1),IntKind.u64.wrap (IntKind.u64.wrap (IntKind.u64.wrap (x2 * (6364136223846793005:Int))+IntKind.u64.wrap (0:Int))+(876876:Int)))
 else
 if (0:Int)≤(40:Int) then
 k (IntKind.i64.wrap (IntKind.u64.wrap (↑(BitVec.ofInt IntKind.u64.bits ((IntKind.u64.wrap (IntKind.u64.wrap (IntKind.u64.wrap (x2 * (6364136223846793005:Int))+IntKind.u64.wrap (0:Int))+(876876:Int))).fdiv ((2:Int) ^ Min.min (Int.toNat (40:Int)) IntKind.u64.bits)) &&& BitVec.ofInt IntKind.u64.bits (255:Int)).toNat:Int)),x0,IntKind.i64.wrap (x1+1),IntKind.u64.wrap (IntKind.u64.wrap (IntKind.u64.wrap (x2 * (6364136223846793005:Int))+IntKind.u64.wrap (0:Int))+(876876:Int)))
 else
 none
theorem c_Z1_bind {R:Type} (x0:List D) (x1 x2:Int) (k:Int×List D×Int×Int→Option R):c_Z1 x0 x1 x2 k=(c_Z1 x0 x1 x2 some).bind k:=by
 unfold c_Z1
 repeat' first
  | exact J9
  | exact J8
  | exact J7
  | apply J4
  | apply J5
  | apply Qa
  | (apply J6;intro _)
  | intro _
def Z1 (x0:List D) (x1 x2:Int):Option (Int×List D×Int×Int):=c_Z1 x0 x1 x2 some
def e_Z1:Ent:=⟨100,[.obox (.agg [.rd (.int .u8),.int .i64,.int .u64])],[(.int .i64,[.obox (.agg [.rd (.int .u8),.int .i64,.int .u64])])],fun _ ds k=>dL (fun x0 ds=>dI (fun x1 ds=>dI (fun x2 ds=>dE ((Z1 x0 x1 x2).bind (fun y=>k 0 [.I y.1,.L y.2.1,.I y.2.2.1,.I y.2.2.2])) ds) ds) ds) ds⟩
theorem q_Z1 (x0:List D) (x1 x2:Int):QH (JQ []) (JR []) A 100 Try.f100 (Sh.mks e_Z1.sh [.L x0,.I x1,.I x2]).1 (fun v os=>some (v,os))=c_Z1 x0 x1 x2 (fun y=>QW e_Z1 0 [.I y.1,.L y.2.1,.I y.2.2.1,.I y.2.2.2]):=by kernel_rfl
theorem e_Z1_ok:e_Z1.ok Try.prog A:=by
 intro R ds k r h
 unfold e_Z1 at h
 obtain ⟨_,_,rfl,h⟩:=Jg h
 obtain ⟨_,_,rfl,h⟩:=Jc h
 obtain ⟨_,_,rfl,h⟩:=Jc h
 obtain ⟨rfl,hE⟩:=Jr h
 obtain ⟨y,hy,hk⟩:=Js hE
 exact ⟨0,_,_,_,hk,rfl,QX px (fx:=⟨Try.func100,by kernel_rfl,by kernel_rfl⟩) JU JV ((q_Z1 ..).trans ((c_Z1_bind ..).trans (JB hy)))⟩

/-!-/
def c_Z2 {R:Type} (x0:List D) (x1 x2 x3:Int) (k:Int×List D×Int×Int→Option R):Option R:=
 bif decide (x3≤(1:Int)) then
 k ((0:Int),x0,x1,x2)
 else
 (Z1 x0 x1 x2).bind (fun y0=>
 bif decide ((200:Int)<x3) then
 (Z1 y0.snd.fst y0.snd.snd.fst y0.snd.snd.snd).bind (fun y1=>
 if x3≠(0:Int) then
 k ((IntKind.i64.wrap (IntKind.i64.wrap (y0.fst * (256:Int))+y1.fst)).tmod x3,y1.snd.fst,y1.snd.snd.fst,y1.snd.snd.snd)
 else
 none)
 else
 if x3≠(0:Int) then
 k (y0.fst.tmod x3,y0.snd.fst,y0.snd.snd.fst,y0.snd.snd.snd)
 else
 none)
theorem c_Z2_bind {R:Type} (x0:List D) (x1 x2 x3:Int) (k:Int×List D×Int×Int→Option R):c_Z2 x0 x1 x2 x3 k=(c_Z2 x0 x1 x2 x3 some).bind k:=by
 unfold c_Z2
 repeat' first
  | exact J9
  | exact J8
  | exact J7
  | apply J4
  | apply J5
  | apply Qa
  | (apply J6;intro _)
  | intro _
def Z2 (x0:List D) (x1 x2 x3:Int):Option (Int×List D×Int×Int):=c_Z2 x0 x1 x2 x3 some
def e_Z2:Ent:=⟨63,[.obox (.agg [.rd (.int .u8),.int .i64,.int .u64]),.int .i64],[(.int .i64,[.obox (.agg [.rd (.int .u8),.int .i64,.int .u64]),.undef])],fun _ ds k=>dL (fun x0 ds=>dI (fun x1 ds=>dI (fun x2 ds=>dI (fun x3 ds=>dE ((Z2 x0 x1 x2 x3).bind (fun y=>k 0 [.I y.1,.L y.2.1,.I y.2.2.1,.I y.2.2.2])) ds) ds) ds) ds) ds⟩
theorem q_Z2 (x0:List D) (x1 x2 x3:Int):QH (JQ [e_Z1]) (JR []) A 63 Try.f63 (Sh.mks e_Z2.sh [.L x0,.I x1,.I x2,.I x3]).1 (fun v os=>some (v,os))=c_Z2 x0 x1 x2 x3 (fun y=>QW e_Z2 0 [.I y.1,.L y.2.1,.I y.2.2.1,.I y.2.2.2]):=by kernel_rfl
theorem e_Z2_ok:e_Z2.ok Try.prog A:=by
 intro R ds k r h
 unfold e_Z2 at h
 obtain ⟨_,_,rfl,h⟩:=Jg h
 obtain ⟨_,_,rfl,h⟩:=Jc h
 obtain ⟨_,_,rfl,h⟩:=Jc h
 obtain ⟨_,_,rfl,h⟩:=Jc h
 obtain ⟨rfl,hE⟩:=Jr h
 obtain ⟨y,hy,hk⟩:=Js hE
 exact ⟨0,_,_,_,hk,rfl,QX px (fx:=⟨Try.func63,by kernel_rfl,by kernel_rfl⟩) (Qo e_Z1_ok JU) JV ((q_Z2 ..).trans ((c_Z2_bind ..).trans (JB hy)))⟩

/-!-/
def c_Z3 {R:Type} (x0:List D) (x1 x2:Int) (x3:List D) (k:Int×List D×Int×Int→Option R):Option R:=
 (Z2 x0 x1 x2 (↑x3.length:Int)).bind (fun y0=>
 if 0≤y0.fst∧y0.fst<(↑x3.length:Int) then
 if y0.fst.toNat+1≤x3.length then
 k ((x3.getD y0.fst.toNat (D.int 0)).toInt,y0.snd.fst,y0.snd.snd.fst,y0.snd.snd.snd)
 else
 none
 else
 none)
theorem c_Z3_bind {R:Type} (x0:List D) (x1 x2:Int) (x3:List D) (k:Int×List D×Int×Int→Option R):c_Z3 x0 x1 x2 x3 k=(c_Z3 x0 x1 x2 x3 some).bind k:=by
 unfold c_Z3
 repeat' first
  | exact J9
  | exact J8
  | exact J7
  | apply J4
  | apply J5
  | apply Qa
  | (apply J6;intro _)
  | intro _
def Z3 (x0:List D) (x1 x2:Int) (x3:List D):Option (Int×List D×Int×Int):=c_Z3 x0 x1 x2 x3 some
def e_Z3:Ent:=⟨98,[.obox (.agg [.rd (.int .u8),.int .i64,.int .u64]),.own (.int .i64)],[(.int .i64,[.obox (.agg [.rd (.int .u8),.int .i64,.int .u64]),.undef])],fun _ ds k=>dL (fun x0 ds=>dI (fun x1 ds=>dI (fun x2 ds=>dL (fun x3 ds=>dE ((Z3 x0 x1 x2 x3).bind (fun y=>k 0 [.I y.1,.L y.2.1,.I y.2.2.1,.I y.2.2.2])) ds) ds) ds) ds) ds⟩
theorem q_Z3 (x0:List D) (x1 x2:Int) (x3:List D):QH (JQ [e_Z2]) (JR []) A 98 Try.f98 (Sh.mks e_Z3.sh [.L x0,.I x1,.I x2,.L x3]).1 (fun v os=>some (v,os))=c_Z3 x0 x1 x2 x3 (fun y=>QW e_Z3 0 [.I y.1,.L y.2.1,.I y.2.2.1,.I y.2.2.2]):=by kernel_rfl
theorem e_Z3_ok:e_Z3.ok Try.prog A:=by
 intro R ds k r h
 unfold e_Z3 at h
 obtain ⟨_,_,rfl,h⟩:=Jg h
 obtain ⟨_,_,rfl,h⟩:=Jc h
 obtain ⟨_,_,rfl,h⟩:=Jc h
 obtain ⟨_,_,rfl,h⟩:=Jg h
 obtain ⟨rfl,hE⟩:=Jr h
 obtain ⟨y,hy,hk⟩:=Js hE
 exact ⟨0,_,_,_,hk,rfl,QX px (fx:=⟨Try.func98,by kernel_rfl,by kernel_rfl⟩) (Qo e_Z2_ok JU) JV ((q_Z3 ..).trans ((c_Z3_bind ..).trans (JB hy)))⟩

/-!-/
abbrev T_Z4:=Int→List D→Int→Int→List D→Option (List D×Int×Int×List D)
def c_Z4 {R:Type} (F:T_Z4) (x0:Int) (x1:List D) (x2 x3:Int) (x4:List D) (k:List D×Int×Int×List D→Option R):Option R:=
 bif decide ((0:Int)<x0) then
 (Z2 x1 x2 x3 (3:Int)).bind (fun y0=>
 (Z2 y0.snd.fst y0.snd.snd.fst y0.snd.snd.snd (2:Int)).bind (fun y1=>
 (Z3 y1.snd.fst y1.snd.snd.fst y1.snd.snd.snd ([D.int 0,D.int (300:Int),D.int (600:Int),D.int (900:Int),D.int (1800:Int),D.int (2700:Int),D.int (3500:Int)])).bind (fun y2=>
 (Z3 y2.snd.fst y2.snd.snd.fst y2.snd.snd.snd ([D.int (100:Int),D.int (300:Int),D.int (301:Int),D.int (900:Int),D.int (200:Int)])).bind (fun y3=>
 if x4.length+[D.node [D.int (IntKind.i64.wrap ((1:Int)+y0.fst)),D.int y1.fst,D.int y2.fst,D.int y3.fst]].length≤(4294967296:Nat) then
 (F (IntKind.i64.wrap (x0 - 1)) y3.snd.fst y3.snd.snd.fst y3.snd.snd.snd (x4++[D.node [D.int (IntKind.i64.wrap ((1:Int)+y0.fst)),D.int y1.fst,D.int y2.fst,D.int y3.fst]])).bind k
 else
 none))))
 else
 k (x1,x2,x3,x4)
theorem c_Z4_bind {R:Type} (F:T_Z4) (x0:Int) (x1:List D) (x2 x3:Int) (x4:List D) (k:List D×Int×Int×List D→Option R):c_Z4 F x0 x1 x2 x3 x4 k=(c_Z4 F x0 x1 x2 x3 x4 some).bind k:=by
 unfold c_Z4
 repeat' first
  | exact J9
  | exact J8
  | exact J7
  | apply J4
  | apply J5
  | apply Qa
  | (apply J6;intro _)
  | intro _
def n_Z4:Nat→T_Z4
 | 0,_,_,_,_,_=>none
 | n+1,x0,x1,x2,x3,x4=>c_Z4 (n_Z4 n) x0 x1 x2 x3 x4 some
noncomputable def Z4 (x0:Int) (x1:List D) (x2 x3:Int) (x4:List D):Option (List D×Int×Int×List D):=ev (fun n=>n_Z4 n x0 x1 x2 x3 x4)
def m_Z4 (F:T_Z4):JP:=⟨3,⟨(.ptr 1000 [0]::.undef::.undef::.undef::.full 1001 [] (.struct [.int .i64,.int .i64,.int .i64,.int .i64])::.int .i64::uu 110 ([])),[(1000,.obox (.agg [.rd (.int .u8),.int .i64,.int .u64])),(1001,.own (.struct [.int .i64,.int .i64,.int .i64,.int .i64]))]⟩,[(.exit 0,⟨(.ptr 1000 [0]::.undef::.undef::.undef::.full 1001 [] (.struct [.int .i64,.int .i64,.int .i64,.int .i64])::uu 111 ([])),[(1000,.obox (.agg [.rd (.int .u8),.int .i64,.int .u64])),(1001,.own (.struct [.int .i64,.int .i64,.int .i64,.int .i64]))]⟩)],fun _ ds k=>dI (fun x0 ds=>dL (fun x1 ds=>dI (fun x2 ds=>dI (fun x3 ds=>dL (fun x4 ds=>dE ((F x0 x1 x2 x3 x4).bind (fun y=>k 0 [.L y.1,.I y.2.1,.I y.2.2.1,.L y.2.2.2])) ds) ds) ds) ds) ds) ds⟩
theorem q_Z4 (F:T_Z4) (x0:Int) (x1:List D) (x2 x3:Int) (x4:List D):Q3 (JQ [e_Z2,e_Z3]) (JR [m_Z4 F]) A 62 (JC (JA Try.f62) 3) ((m_Z4 F).sh.mk' [.I x0,.L x1,.I x2,.I x3,.L x4]) (fun e σ'=>some (e,σ'))=c_Z4 F x0 x1 x2 x3 x4 (fun y=>some (.exit 0,SSt.mk' ⟨(.ptr 1000 [0]::.undef::.undef::.undef::.full 1001 [] (.struct [.int .i64,.int .i64,.int .i64,.int .i64])::uu 111 ([])),[(1000,.obox (.agg [.rd (.int .u8),.int .i64,.int .u64])),(1001,.own (.struct [.int .i64,.int .i64,.int .i64,.int .i64]))]⟩ [.L y.1,.I y.2.1,.I y.2.2.1,.L y.2.2.2])):=by kernel_rfl
theorem m_Z4_ok:∀ n,(m_Z4 (n_Z4 n)).ok Try.prog (JC (JA Try.f62) 3):=by
 intro n
 induction n with
 | zero=>
  intro R ds k r h
  unfold m_Z4 at h
  obtain ⟨_,_,rfl,h⟩:=Jc h
  obtain ⟨_,_,rfl,h⟩:=Jg h
  obtain ⟨_,_,rfl,h⟩:=Jc h
  obtain ⟨_,_,rfl,h⟩:=Jc h
  obtain ⟨_,_,rfl,h⟩:=Jg h
  obtain ⟨rfl,hE⟩:=Jr h
  obtain ⟨y,hy,hk⟩:=Js hE
  cases hy
 | succ n ih=>
  intro R ds k r h
  unfold m_Z4 at h
  obtain ⟨_,_,rfl,h⟩:=Jc h
  obtain ⟨_,_,rfl,h⟩:=Jg h
  obtain ⟨_,_,rfl,h⟩:=Jc h
  obtain ⟨_,_,rfl,h⟩:=Jc h
  obtain ⟨_,_,rfl,h⟩:=Jg h
  obtain ⟨rfl,hE⟩:=Jr h
  obtain ⟨y,hy,hk⟩:=Js hE
  exact ⟨0,_,_,_,hk,rfl,QI px (fx:=⟨Try.func62,by kernel_rfl,by kernel_rfl⟩) (Qo e_Z2_ok (Qo e_Z3_ok JU)) (JZ ih JV) (by kernel_rfl) ((q_Z4 ..).trans ((c_Z4_bind ..).trans (JB hy)))⟩
noncomputable def e_Z4:JP:=m_Z4 (Z4)
theorem e_Z4_ok:(e_Z4).ok Try.prog (JC (JA Try.f62) 3):=by
 intro R ds k r h
 unfold e_Z4 m_Z4 at h
 obtain ⟨_,_,rfl,h⟩:=Jc h
 obtain ⟨_,_,rfl,h⟩:=Jg h
 obtain ⟨_,_,rfl,h⟩:=Jc h
 obtain ⟨_,_,rfl,h⟩:=Jc h
 obtain ⟨_,_,rfl,h⟩:=Jg h
 obtain ⟨rfl,hE⟩:=Jr h
 obtain ⟨y,hy,hk⟩:=Js hE
 obtain ⟨n,hn⟩:=Q6 hy
 exact m_Z4_ok n R _ k r ((JB hn).trans hk)

/-!-/
def c_Z5 {R:Type} (x0 x1 x2 x3 x4 x5 x6 x7:Int) (k:Bool→Option R):Option R:=
 if (3600:Int)≠(0:Int) then
 if (3600:Int)≠(0:Int) then
 bif decide ((IntKind.i64.wrap (IntKind.i64.wrap (x6 - x2)+(3600:Int))).tmod (3600:Int)<x3) then
 k Bool.true
 else
 k (decide ((IntKind.i64.wrap (IntKind.i64.wrap (x2 - x6)+(3600:Int))).tmod (3600:Int)<x7))
 else
 none
 else
 none
theorem c_Z5_bind {R:Type} (x0 x1 x2 x3 x4 x5 x6 x7:Int) (k:Bool→Option R):c_Z5 x0 x1 x2 x3 x4 x5 x6 x7 k=(c_Z5 x0 x1 x2 x3 x4 x5 x6 x7 some).bind k:=by
 unfold c_Z5
 repeat' first
  | exact J9
  | exact J8
  | exact J7
  | apply J4
  | apply J5
  | apply Qa
  | (apply J6;intro _)
  | intro _
def Z5 (x0 x1 x2 x3 x4 x5 x6 x7:Int):Option (Bool):=c_Z5 x0 x1 x2 x3 x4 x5 x6 x7 some
def e_Z5:Ent:=⟨111,[.agg [.int .i64,.int .i64,.int .i64,.int .i64],.agg [.int .i64,.int .i64,.int .i64,.int .i64]],[(.bool,[.undef,.undef])],fun _ ds k=>dI (fun x0 ds=>dI (fun x1 ds=>dI (fun x2 ds=>dI (fun x3 ds=>dI (fun x4 ds=>dI (fun x5 ds=>dI (fun x6 ds=>dI (fun x7 ds=>dE ((Z5 x0 x1 x2 x3 x4 x5 x6 x7).bind (fun y=>k 0 [.B y])) ds) ds) ds) ds) ds) ds) ds) ds) ds⟩
theorem q_Z5 (x0 x1 x2 x3 x4 x5 x6 x7:Int):QH (JQ []) (JR []) A 111 Try.f111 (Sh.mks e_Z5.sh [.I x0,.I x1,.I x2,.I x3,.I x4,.I x5,.I x6,.I x7]).1 (fun v os=>some (v,os))=c_Z5 x0 x1 x2 x3 x4 x5 x6 x7 (fun y=>QW e_Z5 0 [.B y]):=by kernel_rfl
theorem e_Z5_ok:e_Z5.ok Try.prog A:=by
 intro R ds k r h
 unfold e_Z5 at h
 obtain ⟨_,_,rfl,h⟩:=Jc h
 obtain ⟨_,_,rfl,h⟩:=Jc h
 obtain ⟨_,_,rfl,h⟩:=Jc h
 obtain ⟨_,_,rfl,h⟩:=Jc h
 obtain ⟨_,_,rfl,h⟩:=Jc h
 obtain ⟨_,_,rfl,h⟩:=Jc h
 obtain ⟨_,_,rfl,h⟩:=Jc h
 obtain ⟨_,_,rfl,h⟩:=Jc h
 obtain ⟨rfl,hE⟩:=Jr h
 obtain ⟨y,hy,hk⟩:=Js hE
 exact ⟨0,_,_,_,hk,rfl,QX px (fx:=⟨Try.func111,by kernel_rfl,by kernel_rfl⟩) JU JV ((q_Z5 ..).trans ((c_Z5_bind ..).trans (JB hy)))⟩

/-!-/
def c_Z6 {R:Type} (x0 x1 x2 x3 x4 x5 x6 x7:Int) (k:Bool→Option R):Option R:=
 bif !decide (x1=x5) then
 k Bool.true
 else
 (Z5 x0 x1 x2 x3 x4 x5 x6 x7).bind (fun y0=>
 k y0)
theorem c_Z6_bind {R:Type} (x0 x1 x2 x3 x4 x5 x6 x7:Int) (k:Bool→Option R):c_Z6 x0 x1 x2 x3 x4 x5 x6 x7 k=(c_Z6 x0 x1 x2 x3 x4 x5 x6 x7 some).bind k:=by
 unfold c_Z6
 repeat' first
  | exact J9
  | exact J8
  | exact J7
  | apply J4
  | apply J5
  | apply Qa
  | (apply J6;intro _)
  | intro _
def Z6 (x0 x1 x2 x3 x4 x5 x6 x7:Int):Option (Bool):=c_Z6 x0 x1 x2 x3 x4 x5 x6 x7 some
def e_Z6:Ent:=⟨94,[.agg [.int .i64,.int .i64,.int .i64,.int .i64],.agg [.int .i64,.int .i64,.int .i64,.int .i64]],[(.bool,[.undef,.undef])],fun _ ds k=>dI (fun x0 ds=>dI (fun x1 ds=>dI (fun x2 ds=>dI (fun x3 ds=>dI (fun x4 ds=>dI (fun x5 ds=>dI (fun x6 ds=>dI (fun x7 ds=>dE ((Z6 x0 x1 x2 x3 x4 x5 x6 x7).bind (fun y=>k 0 [.B y])) ds) ds) ds) ds) ds) ds) ds) ds) ds⟩
theorem q_Z6 (x0 x1 x2 x3 x4 x5 x6 x7:Int):QH (JQ [e_Z5]) (JR []) A 94 Try.f94 (Sh.mks e_Z6.sh [.I x0,.I x1,.I x2,.I x3,.I x4,.I x5,.I x6,.I x7]).1 (fun v os=>some (v,os))=c_Z6 x0 x1 x2 x3 x4 x5 x6 x7 (fun y=>QW e_Z6 0 [.B y]):=by kernel_rfl
theorem e_Z6_ok:e_Z6.ok Try.prog A:=by
 intro R ds k r h
 unfold e_Z6 at h
 obtain ⟨_,_,rfl,h⟩:=Jc h
 obtain ⟨_,_,rfl,h⟩:=Jc h
 obtain ⟨_,_,rfl,h⟩:=Jc h
 obtain ⟨_,_,rfl,h⟩:=Jc h
 obtain ⟨_,_,rfl,h⟩:=Jc h
 obtain ⟨_,_,rfl,h⟩:=Jc h
 obtain ⟨_,_,rfl,h⟩:=Jc h
 obtain ⟨_,_,rfl,h⟩:=Jc h
 obtain ⟨rfl,hE⟩:=Jr h
 obtain ⟨y,hy,hk⟩:=Js hE
 exact ⟨0,_,_,_,hk,rfl,QX px (fx:=⟨Try.func94,by kernel_rfl,by kernel_rfl⟩) (Qo e_Z5_ok JU) JV ((q_Z6 ..).trans ((c_Z6_bind ..).trans (JB hy)))⟩

/-!-/
def c_Z7 {R:Type} (x0:List D) (x1 x2 x3:Int) (k:Bool×List D×Int×Int→Option R):Option R:=
 (Z2 x0 x1 x2 x3).bind (fun y0=>
 k (decide (y0.fst=(0:Int)),y0.snd.fst,y0.snd.snd.fst,y0.snd.snd.snd))
theorem c_Z7_bind {R:Type} (x0:List D) (x1 x2 x3:Int) (k:Bool×List D×Int×Int→Option R):c_Z7 x0 x1 x2 x3 k=(c_Z7 x0 x1 x2 x3 some).bind k:=by
 unfold c_Z7
 repeat' first
  | exact J9
  | exact J8
  | exact J7
  | apply J4
  | apply J5
  | apply Qa
  | (apply J6;intro _)
  | intro _
def Z7 (x0:List D) (x1 x2 x3:Int):Option (Bool×List D×Int×Int):=c_Z7 x0 x1 x2 x3 some
def e_Z7:Ent:=⟨99,[.obox (.agg [.rd (.int .u8),.int .i64,.int .u64]),.int .i64],[(.bool,[.obox (.agg [.rd (.int .u8),.int .i64,.int .u64]),.undef])],fun _ ds k=>dL (fun x0 ds=>dI (fun x1 ds=>dI (fun x2 ds=>dI (fun x3 ds=>dE ((Z7 x0 x1 x2 x3).bind (fun y=>k 0 [.B y.1,.L y.2.1,.I y.2.2.1,.I y.2.2.2])) ds) ds) ds) ds) ds⟩
theorem q_Z7 (x0:List D) (x1 x2 x3:Int):QH (JQ [e_Z2]) (JR []) A 99 Try.f99 (Sh.mks e_Z7.sh [.L x0,.I x1,.I x2,.I x3]).1 (fun v os=>some (v,os))=c_Z7 x0 x1 x2 x3 (fun y=>QW e_Z7 0 [.B y.1,.L y.2.1,.I y.2.2.1,.I y.2.2.2]):=by kernel_rfl
theorem e_Z7_ok:e_Z7.ok Try.prog A:=by
 intro R ds k r h
 unfold e_Z7 at h
 obtain ⟨_,_,rfl,h⟩:=Jg h
 obtain ⟨_,_,rfl,h⟩:=Jc h
 obtain ⟨_,_,rfl,h⟩:=Jc h
 obtain ⟨_,_,rfl,h⟩:=Jc h
 obtain ⟨rfl,hE⟩:=Jr h
 obtain ⟨y,hy,hk⟩:=Js hE
 exact ⟨0,_,_,_,hk,rfl,QX px (fx:=⟨Try.func99,by kernel_rfl,by kernel_rfl⟩) (Qo e_Z2_ok JU) JV ((q_Z7 ..).trans ((c_Z7_bind ..).trans (JB hy)))⟩

/-!-/
abbrev T_Z8:=Int→Int→List D→Int→Int→List D→List D→Option (Int×List D×Int×Int×List D×List D)
def c_Z8 {R:Type} (F:T_Z8) (x0 x1:Int) (x2:List D) (x3 x4:Int) (x5 x6:List D) (k:Int×List D×Int×Int×List D×List D→Option R):Option R:=
 bif decide (x1<(↑x5.length:Int)) then
 if 0≤x0∧x0<(↑x5.length:Int) then
 if x0.toNat+1≤x5.length then
 if 0≤x1∧x1<(↑x5.length:Int) then
 if x1.toNat+1≤x5.length then
 (Z6 (((x5.getD x0.toNat (D.int 0)).fld (0:Nat)).toInt) (((x5.getD x0.toNat (D.int 0)).fld (1:Nat)).toInt) (((x5.getD x0.toNat (D.int 0)).fld (2:Nat)).toInt) (((x5.getD x0.toNat (D.int 0)).fld (3:Nat)).toInt) (((x5.getD x1.toNat (D.int 0)).fld (0:Nat)).toInt) (((x5.getD x1.toNat (D.int 0)).fld (1:Nat)).toInt) (((x5.getD x1.toNat (D.int 0)).fld (2:Nat)).toInt) (((x5.getD x1.toNat (D.int 0)).fld (3:Nat)).toInt)).bind (fun y0=>
 bif !y0 then
 (Z7 x2 x3 x4 (3:Int)).bind (fun y1=>
 bif y1.fst then
 if x6.length+[D.node [D.int x0,D.int x1]].length≤(4294967296:Nat) then
 (F x0 (IntKind.i64.wrap (x1+1)) y1.snd.fst y1.snd.snd.fst y1.snd.snd.snd x5 (x6++[D.node [D.int x0,D.int x1]])).bind k
 else
 none
 else
 bif y0 then
 (Z7 y1.snd.fst y1.snd.snd.fst y1.snd.snd.snd (20:Int)).bind (fun y2=>
 bif y2.fst then
 if x6.length+[D.node [D.int x0,D.int x1]].length≤(4294967296:Nat) then
 (F x0 (IntKind.i64.wrap (x1+1)) y2.snd.fst y2.snd.snd.fst y2.snd.snd.snd x5 (x6++[D.node [D.int x0,D.int x1]])).bind k
 else
 none
 else
 (F x0 (IntKind.i64.wrap (x1+1)) y2.snd.fst y2.snd.snd.fst y2.snd.snd.snd x5 x6).bind k)
 else
 (F x0 (IntKind.i64.wrap (x1+1)) y1.snd.fst y1.snd.snd.fst y1.snd.snd.snd x5 x6).bind k)
 else
 bif y0 then
 (Z7 x2 x3 x4 (20:Int)).bind (fun y3=>
 bif y3.fst then
 if x6.length+[D.node [D.int x0,D.int x1]].length≤(4294967296:Nat) then
 (F x0 (IntKind.i64.wrap (x1+1)) y3.snd.fst y3.snd.snd.fst y3.snd.snd.snd x5 (x6++[D.node [D.int x0,D.int x1]])).bind k
 else
 none
 else
 (F x0 (IntKind.i64.wrap (x1+1)) y3.snd.fst y3.snd.snd.fst y3.snd.snd.snd x5 x6).bind k)
 else
 (F x0 (IntKind.i64.wrap (x1+1)) x2 x3 x4 x5 x6).bind k)
 else
 none
 else
 none
 else
 none
 else
 none
 else
 k (x0,x2,x3,x4,x5,x6)
theorem c_Z8_bind {R:Type} (F:T_Z8) (x0 x1:Int) (x2:List D) (x3 x4:Int) (x5 x6:List D) (k:Int×List D×Int×Int×List D×List D→Option R):c_Z8 F x0 x1 x2 x3 x4 x5 x6 k=(c_Z8 F x0 x1 x2 x3 x4 x5 x6 some).bind k:=by
 unfold c_Z8
 repeat' first
  | exact J9
  | exact J8
  | exact J7
  | apply J4
  | apply J5
  | apply Qa
  | (apply J6;intro _)
  | intro _
def n_Z8:Nat→T_Z8
 | 0,_,_,_,_,_,_,_=>none
 | n+1,x0,x1,x2,x3,x4,x5,x6=>c_Z8 (n_Z8 n) x0 x1 x2 x3 x4 x5 x6 some
noncomputable def Z8 (x0 x1:Int) (x2:List D) (x3 x4:Int) (x5 x6:List D):Option (Int×List D×Int×Int×List D×List D):=ev (fun n=>n_Z8 n x0 x1 x2 x3 x4 x5 x6)
def m_Z8 (F:T_Z8):JP:=⟨11,⟨(.ptr 1000 [0]::.undef::.undef::.undef::.full 1001 [] (.struct [.int .i64,.int .i64,.int .i64,.int .i64])::.undef::.full 1002 [] (.struct [.int .i64,.int .i64])::.int .i64::.int .i64::uu 107 ([])),[(1000,.obox (.agg [.rd (.int .u8),.int .i64,.int .u64])),(1001,.own (.struct [.int .i64,.int .i64,.int .i64,.int .i64])),(1002,.own (.struct [.int .i64,.int .i64]))]⟩,[(.exit 4,⟨(.ptr 1000 [0]::.undef::.undef::.undef::.full 1001 [] (.struct [.int .i64,.int .i64,.int .i64,.int .i64])::.undef::.full 1002 [] (.struct [.int .i64,.int .i64])::.int .i64::uu 108 ([])),[(1000,.obox (.agg [.rd (.int .u8),.int .i64,.int .u64])),(1001,.own (.struct [.int .i64,.int .i64,.int .i64,.int .i64])),(1002,.own (.struct [.int .i64,.int .i64]))]⟩)],fun _ ds k=>dI (fun x0 ds=>dI (fun x1 ds=>dL (fun x2 ds=>dI (fun x3 ds=>dI (fun x4 ds=>dL (fun x5 ds=>dL (fun x6 ds=>dE ((F x0 x1 x2 x3 x4 x5 x6).bind (fun y=>k 0 [.I y.1,.L y.2.1,.I y.2.2.1,.I y.2.2.2.1,.L y.2.2.2.2.1,.L y.2.2.2.2.2])) ds) ds) ds) ds) ds) ds) ds) ds⟩
theorem q_Z8 (F:T_Z8) (x0 x1:Int) (x2:List D) (x3 x4:Int) (x5 x6:List D):Q3 (JQ [e_Z6,e_Z7]) (JR [m_Z8 F]) A 62 (JC (JA Try.f62) 11) ((m_Z8 F).sh.mk' [.I x0,.I x1,.L x2,.I x3,.I x4,.L x5,.L x6]) (fun e σ'=>some (e,σ'))=c_Z8 F x0 x1 x2 x3 x4 x5 x6 (fun y=>some (.exit 4,SSt.mk' ⟨(.ptr 1000 [0]::.undef::.undef::.undef::.full 1001 [] (.struct [.int .i64,.int .i64,.int .i64,.int .i64])::.undef::.full 1002 [] (.struct [.int .i64,.int .i64])::.int .i64::uu 108 ([])),[(1000,.obox (.agg [.rd (.int .u8),.int .i64,.int .u64])),(1001,.own (.struct [.int .i64,.int .i64,.int .i64,.int .i64])),(1002,.own (.struct [.int .i64,.int .i64]))]⟩ [.I y.1,.L y.2.1,.I y.2.2.1,.I y.2.2.2.1,.L y.2.2.2.2.1,.L y.2.2.2.2.2])):=by kernel_rfl
theorem m_Z8_ok:∀ n,(m_Z8 (n_Z8 n)).ok Try.prog (JC (JA Try.f62) 11):=by
 intro n
 induction n with
 | zero=>
  intro R ds k r h
  unfold m_Z8 at h
  obtain ⟨_,_,rfl,h⟩:=Jc h
  obtain ⟨_,_,rfl,h⟩:=Jc h
  obtain ⟨_,_,rfl,h⟩:=Jg h
  obtain ⟨_,_,rfl,h⟩:=Jc h
  obtain ⟨_,_,rfl,h⟩:=Jc h
  obtain ⟨_,_,rfl,h⟩:=Jg h
  obtain ⟨_,_,rfl,h⟩:=Jg h
  obtain ⟨rfl,hE⟩:=Jr h
  obtain ⟨y,hy,hk⟩:=Js hE
  cases hy
 | succ n ih=>
  intro R ds k r h
  unfold m_Z8 at h
  obtain ⟨_,_,rfl,h⟩:=Jc h
  obtain ⟨_,_,rfl,h⟩:=Jc h
  obtain ⟨_,_,rfl,h⟩:=Jg h
  obtain ⟨_,_,rfl,h⟩:=Jc h
  obtain ⟨_,_,rfl,h⟩:=Jc h
  obtain ⟨_,_,rfl,h⟩:=Jg h
  obtain ⟨_,_,rfl,h⟩:=Jg h
  obtain ⟨rfl,hE⟩:=Jr h
  obtain ⟨y,hy,hk⟩:=Js hE
  exact ⟨0,_,_,_,hk,rfl,QI px (fx:=⟨Try.func62,by kernel_rfl,by kernel_rfl⟩) (Qo e_Z6_ok (Qo e_Z7_ok JU)) (JZ ih JV) (by kernel_rfl) ((q_Z8 ..).trans ((c_Z8_bind ..).trans (JB hy)))⟩
noncomputable def e_Z8:JP:=m_Z8 (Z8)
theorem e_Z8_ok:(e_Z8).ok Try.prog (JC (JA Try.f62) 11):=by
 intro R ds k r h
 unfold e_Z8 m_Z8 at h
 obtain ⟨_,_,rfl,h⟩:=Jc h
 obtain ⟨_,_,rfl,h⟩:=Jc h
 obtain ⟨_,_,rfl,h⟩:=Jg h
 obtain ⟨_,_,rfl,h⟩:=Jc h
 obtain ⟨_,_,rfl,h⟩:=Jc h
 obtain ⟨_,_,rfl,h⟩:=Jg h
 obtain ⟨_,_,rfl,h⟩:=Jg h
 obtain ⟨rfl,hE⟩:=Jr h
 obtain ⟨y,hy,hk⟩:=Js hE
 obtain ⟨n,hn⟩:=Q6 hy
 exact m_Z8_ok n R _ k r ((JB hn).trans hk)

/-!-/
abbrev T_Z9:=Int→List D→Int→Int→List D→List D→Option (List D×Int×Int×List D×List D)
def c_Z9 {R:Type} (F:T_Z9) (x0:Int) (x1:List D) (x2 x3:Int) (x4 x5:List D) (k:List D×Int×Int×List D×List D→Option R):Option R:=
 bif decide (x0<(↑x4.length:Int)) then
 (Z8 x0 (IntKind.i64.wrap (x0+1)) x1 x2 x3 x4 x5).bind (fun y0=>
 (F (IntKind.i64.wrap (y0.fst+1)) y0.snd.fst y0.snd.snd.fst y0.snd.snd.snd.fst y0.snd.snd.snd.snd.fst y0.snd.snd.snd.snd.snd).bind k)
 else
 k (x1,x2,x3,x4,x5)
theorem c_Z9_bind {R:Type} (F:T_Z9) (x0:Int) (x1:List D) (x2 x3:Int) (x4 x5:List D) (k:List D×Int×Int×List D×List D→Option R):c_Z9 F x0 x1 x2 x3 x4 x5 k=(c_Z9 F x0 x1 x2 x3 x4 x5 some).bind k:=by
 unfold c_Z9
 repeat' first
  | exact J9
  | exact J8
  | exact J7
  | apply J4
  | apply J5
  | apply Qa
  | (apply J6;intro _)
  | intro _
def n_Z9:Nat→T_Z9
 | 0,_,_,_,_,_,_=>none
 | n+1,x0,x1,x2,x3,x4,x5=>c_Z9 (n_Z9 n) x0 x1 x2 x3 x4 x5 some
noncomputable def Z9 (x0:Int) (x1:List D) (x2 x3:Int) (x4 x5:List D):Option (List D×Int×Int×List D×List D):=ev (fun n=>n_Z9 n x0 x1 x2 x3 x4 x5)
def m_Z9 (F:T_Z9):JP:=⟨8,⟨(.ptr 1000 [0]::.undef::.undef::.undef::.full 1001 [] (.struct [.int .i64,.int .i64,.int .i64,.int .i64])::.undef::.full 1002 [] (.struct [.int .i64,.int .i64])::.int .i64::uu 108 ([])),[(1000,.obox (.agg [.rd (.int .u8),.int .i64,.int .u64])),(1001,.own (.struct [.int .i64,.int .i64,.int .i64,.int .i64])),(1002,.own (.struct [.int .i64,.int .i64]))]⟩,[(.exit 2,⟨(.ptr 1000 [0]::.undef::.undef::.undef::.full 1001 [] (.struct [.int .i64,.int .i64,.int .i64,.int .i64])::.undef::.full 1002 [] (.struct [.int .i64,.int .i64])::uu 109 ([])),[(1000,.obox (.agg [.rd (.int .u8),.int .i64,.int .u64])),(1001,.own (.struct [.int .i64,.int .i64,.int .i64,.int .i64])),(1002,.own (.struct [.int .i64,.int .i64]))]⟩)],fun _ ds k=>dI (fun x0 ds=>dL (fun x1 ds=>dI (fun x2 ds=>dI (fun x3 ds=>dL (fun x4 ds=>dL (fun x5 ds=>dE ((F x0 x1 x2 x3 x4 x5).bind (fun y=>k 0 [.L y.1,.I y.2.1,.I y.2.2.1,.L y.2.2.2.1,.L y.2.2.2.2])) ds) ds) ds) ds) ds) ds) ds⟩
theorem q_Z9 (F:T_Z9) (x0:Int) (x1:List D) (x2 x3:Int) (x4 x5:List D):Q3 (JQ []) (JR [m_Z9 F,e_Z8]) A 62 (JC (JA Try.f62) 8) ((m_Z9 F).sh.mk' [.I x0,.L x1,.I x2,.I x3,.L x4,.L x5]) (fun e σ'=>some (e,σ'))=c_Z9 F x0 x1 x2 x3 x4 x5 (fun y=>some (.exit 2,SSt.mk' ⟨(.ptr 1000 [0]::.undef::.undef::.undef::.full 1001 [] (.struct [.int .i64,.int .i64,.int .i64,.int .i64])::.undef::.full 1002 [] (.struct [.int .i64,.int .i64])::uu 109 ([])),[(1000,.obox (.agg [.rd (.int .u8),.int .i64,.int .u64])),(1001,.own (.struct [.int .i64,.int .i64,.int .i64,.int .i64])),(1002,.own (.struct [.int .i64,.int .i64]))]⟩ [.L y.1,.I y.2.1,.I y.2.2.1,.L y.2.2.2.1,.L y.2.2.2.2])):=by kernel_rfl
theorem m_Z9_ok:∀ n,(m_Z9 (n_Z9 n)).ok Try.prog (JC (JA Try.f62) 8):=by
 intro n
 induction n with
 | zero=>
  intro R ds k r h
  unfold m_Z9 at h
  obtain ⟨_,_,rfl,h⟩:=Jc h
  obtain ⟨_,_,rfl,h⟩:=Jg h
  obtain ⟨_,_,rfl,h⟩:=Jc h
  obtain ⟨_,_,rfl,h⟩:=Jc h
  obtain ⟨_,_,rfl,h⟩:=Jg h
  obtain ⟨_,_,rfl,h⟩:=Jg h
  obtain ⟨rfl,hE⟩:=Jr h
  obtain ⟨y,hy,hk⟩:=Js hE
  cases hy
 | succ n ih=>
  intro R ds k r h
  unfold m_Z9 at h
  obtain ⟨_,_,rfl,h⟩:=Jc h
  obtain ⟨_,_,rfl,h⟩:=Jg h
  obtain ⟨_,_,rfl,h⟩:=Jc h
  obtain ⟨_,_,rfl,h⟩:=Jc h
  obtain ⟨_,_,rfl,h⟩:=Jg h
  obtain ⟨_,_,rfl,h⟩:=Jg h
  obtain ⟨rfl,hE⟩:=Jr h
  obtain ⟨y,hy,hk⟩:=Js hE
  exact ⟨0,_,_,_,hk,rfl,QI px (fx:=⟨Try.func62,by kernel_rfl,by kernel_rfl⟩) JU (JZ ih (JZ e_Z8_ok JV)) (by kernel_rfl) ((q_Z9 ..).trans ((c_Z9_bind ..).trans (JB hy)))⟩
noncomputable def e_Z9:JP:=m_Z9 (Z9)
theorem e_Z9_ok:(e_Z9).ok Try.prog (JC (JA Try.f62) 8):=by
 intro R ds k r h
 unfold e_Z9 m_Z9 at h
 obtain ⟨_,_,rfl,h⟩:=Jc h
 obtain ⟨_,_,rfl,h⟩:=Jg h
 obtain ⟨_,_,rfl,h⟩:=Jc h
 obtain ⟨_,_,rfl,h⟩:=Jc h
 obtain ⟨_,_,rfl,h⟩:=Jg h
 obtain ⟨_,_,rfl,h⟩:=Jg h
 obtain ⟨rfl,hE⟩:=Jr h
 obtain ⟨y,hy,hk⟩:=Js hE
 obtain ⟨n,hn⟩:=Q6 hy
 exact m_Z9_ok n R _ k r ((JB hn).trans hk)

/-!-/
abbrev T_Z10:=List D→Int→Int→List D→List D→Option (List D×Int×Int×List D×List D)
def c_Z10 {R:Type} (F:T_Z10) (x0:List D) (x1 x2:Int) (x3 x4:List D) (k:List D×Int×Int×List D×List D→Option R):Option R:=
 (Z2 x0 x1 x2 (2:Int)).bind (fun y0=>
 bif decide ((↑x3.length:Int)<IntKind.i64.wrap ((12:Int)+y0.fst)) then
 (Z2 y0.snd.fst y0.snd.snd.fst y0.snd.snd.snd (3:Int)).bind (fun y1=>
 if x3.length+[D.node [D.int (9:Int),D.int y1.fst,D.int (IntKind.i64.wrap ((100:Int) * (↑x3.length:Int))),D.int (100:Int)]].length≤(4294967296:Nat) then
 (F y1.snd.fst y1.snd.snd.fst y1.snd.snd.snd (x3++[D.node [D.int (9:Int),D.int y1.fst,D.int (IntKind.i64.wrap ((100:Int) * (↑x3.length:Int))),D.int (100:Int)]]) x4).bind k
 else
 none)
 else
 k (y0.snd.fst,y0.snd.snd.fst,y0.snd.snd.snd,x3,x4))
theorem c_Z10_bind {R:Type} (F:T_Z10) (x0:List D) (x1 x2:Int) (x3 x4:List D) (k:List D×Int×Int×List D×List D→Option R):c_Z10 F x0 x1 x2 x3 x4 k=(c_Z10 F x0 x1 x2 x3 x4 some).bind k:=by
 unfold c_Z10
 repeat' first
  | exact J9
  | exact J8
  | exact J7
  | apply J4
  | apply J5
  | apply Qa
  | (apply J6;intro _)
  | intro _
def n_Z10:Nat→T_Z10
 | 0,_,_,_,_,_=>none
 | n+1,x0,x1,x2,x3,x4=>c_Z10 (n_Z10 n) x0 x1 x2 x3 x4 some
noncomputable def Z10 (x0:List D) (x1 x2:Int) (x3 x4:List D):Option (List D×Int×Int×List D×List D):=ev (fun n=>n_Z10 n x0 x1 x2 x3 x4)
def m_Z10 (F:T_Z10):JP:=⟨22,⟨(.ptr 1000 [0]::.undef::.undef::.undef::.full 1001 [] (.struct [.int .i64,.int .i64,.int .i64,.int .i64])::.undef::.full 1002 [] (.struct [.int .i64,.int .i64])::uu 109 ([])),[(1000,.obox (.agg [.rd (.int .u8),.int .i64,.int .u64])),(1001,.own (.struct [.int .i64,.int .i64,.int .i64,.int .i64])),(1002,.own (.struct [.int .i64,.int .i64]))]⟩,[(.exit 7,⟨(.ptr 1000 [0]::.undef::.undef::.undef::.full 1001 [] (.struct [.int .i64,.int .i64,.int .i64,.int .i64])::.undef::.full 1002 [] (.struct [.int .i64,.int .i64])::uu 109 ([])),[(1000,.obox (.agg [.rd (.int .u8),.int .i64,.int .u64])),(1001,.own (.struct [.int .i64,.int .i64,.int .i64,.int .i64])),(1002,.own (.struct [.int .i64,.int .i64]))]⟩)],fun _ ds k=>dL (fun x0 ds=>dI (fun x1 ds=>dI (fun x2 ds=>dL (fun x3 ds=>dL (fun x4 ds=>dE ((F x0 x1 x2 x3 x4).bind (fun y=>k 0 [.L y.1,.I y.2.1,.I y.2.2.1,.L y.2.2.2.1,.L y.2.2.2.2])) ds) ds) ds) ds) ds) ds⟩
theorem q_Z10 (F:T_Z10) (x0:List D) (x1 x2:Int) (x3 x4:List D):Q3 (JQ [e_Z2]) (JR [m_Z10 F]) A 62 (JC (JA Try.f62) 22) ((m_Z10 F).sh.mk' [.L x0,.I x1,.I x2,.L x3,.L x4]) (fun e σ'=>some (e,σ'))=c_Z10 F x0 x1 x2 x3 x4 (fun y=>some (.exit 7,SSt.mk' ⟨(.ptr 1000 [0]::.undef::.undef::.undef::.full 1001 [] (.struct [.int .i64,.int .i64,.int .i64,.int .i64])::.undef::.full 1002 [] (.struct [.int .i64,.int .i64])::uu 109 ([])),[(1000,.obox (.agg [.rd (.int .u8),.int .i64,.int .u64])),(1001,.own (.struct [.int .i64,.int .i64,.int .i64,.int .i64])),(1002,.own (.struct [.int .i64,.int .i64]))]⟩ [.L y.1,.I y.2.1,.I y.2.2.1,.L y.2.2.2.1,.L y.2.2.2.2])):=by kernel_rfl
theorem m_Z10_ok:∀ n,(m_Z10 (n_Z10 n)).ok Try.prog (JC (JA Try.f62) 22):=by
 intro n
 induction n with
 | zero=>
  intro R ds k r h
  unfold m_Z10 at h
  obtain ⟨_,_,rfl,h⟩:=Jg h
  obtain ⟨_,_,rfl,h⟩:=Jc h
  obtain ⟨_,_,rfl,h⟩:=Jc h
  obtain ⟨_,_,rfl,h⟩:=Jg h
  obtain ⟨_,_,rfl,h⟩:=Jg h
  obtain ⟨rfl,hE⟩:=Jr h
  obtain ⟨y,hy,hk⟩:=Js hE
  cases hy
 | succ n ih=>
  intro R ds k r h
  unfold m_Z10 at h
  obtain ⟨_,_,rfl,h⟩:=Jg h
  obtain ⟨_,_,rfl,h⟩:=Jc h
  obtain ⟨_,_,rfl,h⟩:=Jc h
  obtain ⟨_,_,rfl,h⟩:=Jg h
  obtain ⟨_,_,rfl,h⟩:=Jg h
  obtain ⟨rfl,hE⟩:=Jr h
  obtain ⟨y,hy,hk⟩:=Js hE
  exact ⟨0,_,_,_,hk,rfl,QI px (fx:=⟨Try.func62,by kernel_rfl,by kernel_rfl⟩) (Qo e_Z2_ok JU) (JZ ih JV) (by kernel_rfl) ((q_Z10 ..).trans ((c_Z10_bind ..).trans (JB hy)))⟩
noncomputable def e_Z10:JP:=m_Z10 (Z10)
theorem e_Z10_ok:(e_Z10).ok Try.prog (JC (JA Try.f62) 22):=by
 intro R ds k r h
 unfold e_Z10 m_Z10 at h
 obtain ⟨_,_,rfl,h⟩:=Jg h
 obtain ⟨_,_,rfl,h⟩:=Jc h
 obtain ⟨_,_,rfl,h⟩:=Jc h
 obtain ⟨_,_,rfl,h⟩:=Jg h
 obtain ⟨_,_,rfl,h⟩:=Jg h
 obtain ⟨rfl,hE⟩:=Jr h
 obtain ⟨y,hy,hk⟩:=Js hE
 obtain ⟨n,hn⟩:=Q6 hy
 exact m_Z10_ok n R _ k r ((JB hn).trans hk)

/-!-/
def c_Z11 {R:Type} (x0:List D) (x1 x2:Int) (k:List D×List D×List D×Int×Int→Option R):Option R:=
 (Z2 x0 x1 x2 (8:Int)).bind (fun y0=>
 (Z4 y0.fst y0.snd.fst y0.snd.snd.fst y0.snd.snd.snd []).bind (fun y1=>
 (Z9 (0:Int) y1.fst y1.snd.fst y1.snd.snd.fst y1.snd.snd.snd []).bind (fun y2=>
 (Z2 y2.fst y2.snd.fst y2.snd.snd.fst (40:Int)).bind (fun y3=>
 bif decide (y3.fst=(0:Int)) then
 (Z3 y3.snd.fst y3.snd.snd.fst y3.snd.snd.snd ([D.int 0,D.int (3601:Int),D.int (3600:Int)])).bind (fun y4=>
 if y2.snd.snd.snd.fst.length+[D.node [D.int (1:Int),D.int 0,D.int 0,D.int y4.fst]].length≤(4294967296:Nat) then
 k (y2.snd.snd.snd.fst++[D.node [D.int (1:Int),D.int 0,D.int 0,D.int y4.fst]],y2.snd.snd.snd.snd,y4.snd.fst,y4.snd.snd.fst,y4.snd.snd.snd)
 else
 none)
 else
 bif decide (y3.fst=(1:Int)) then
 (Z2 y3.snd.fst y3.snd.snd.fst y3.snd.snd.snd (3:Int)).bind (fun y5=>
 (Z3 y5.snd.fst y5.snd.snd.fst y5.snd.snd.snd ([D.int 0,D.int (12:Int),D.int (2:Int)])).bind (fun y6=>
 if y2.snd.snd.snd.snd.length+[D.node [D.int y5.fst,D.int y6.fst]].length≤(4294967296:Nat) then
 k (y2.snd.snd.snd.fst,y2.snd.snd.snd.snd++[D.node [D.int y5.fst,D.int y6.fst]],y6.snd.fst,y6.snd.snd.fst,y6.snd.snd.snd)
 else
 none))
 else
 bif decide (y3.fst=(2:Int)) then
 (Z10 y3.snd.fst y3.snd.snd.fst y3.snd.snd.snd y2.snd.snd.snd.fst y2.snd.snd.snd.snd).bind (fun y7=>
 k (y7.snd.snd.snd.fst,y7.snd.snd.snd.snd,y7.fst,y7.snd.fst,y7.snd.snd.fst))
 else
 k (y2.snd.snd.snd.fst,y2.snd.snd.snd.snd,y3.snd.fst,y3.snd.snd.fst,y3.snd.snd.snd)))))
theorem c_Z11_bind {R:Type} (x0:List D) (x1 x2:Int) (k:List D×List D×List D×Int×Int→Option R):c_Z11 x0 x1 x2 k=(c_Z11 x0 x1 x2 some).bind k:=by
 unfold c_Z11
 repeat' first
  | exact J9
  | exact J8
  | exact J7
  | apply J4
  | apply J5
  | apply Qa
  | (apply J6;intro _)
  | intro _
def Z11 (x0:List D) (x1 x2:Int):Option (List D×List D×List D×Int×Int):=c_Z11 x0 x1 x2 some
def e_Z11:Ent:=⟨62,[.obox (.agg [.rd (.int .u8),.int .i64,.int .u64])],[(.tup [.own (.struct [.int .i64,.int .i64,.int .i64,.int .i64]),.own (.struct [.int .i64,.int .i64])],[.obox (.agg [.rd (.int .u8),.int .i64,.int .u64])])],fun _ ds k=>dL (fun x0 ds=>dI (fun x1 ds=>dI (fun x2 ds=>dE ((Z11 x0 x1 x2).bind (fun y=>k 0 [.L y.1,.L y.2.1,.L y.2.2.1,.I y.2.2.2.1,.I y.2.2.2.2])) ds) ds) ds) ds⟩
theorem q_Z11 (x0:List D) (x1 x2:Int):QH (JQ [e_Z2,e_Z3]) (JR [e_Z4,e_Z9,e_Z10]) A 62 Try.f62 (Sh.mks e_Z11.sh [.L x0,.I x1,.I x2]).1 (fun v os=>some (v,os))=c_Z11 x0 x1 x2 (fun y=>QW e_Z11 0 [.L y.1,.L y.2.1,.L y.2.2.1,.I y.2.2.2.1,.I y.2.2.2.2]):=by kernel_rfl
theorem e_Z11_ok:e_Z11.ok Try.prog A:=by
 intro R ds k r h
 unfold e_Z11 at h
 obtain ⟨_,_,rfl,h⟩:=Jg h
 obtain ⟨_,_,rfl,h⟩:=Jc h
 obtain ⟨_,_,rfl,h⟩:=Jc h
 obtain ⟨rfl,hE⟩:=Jr h
 obtain ⟨y,hy,hk⟩:=Js hE
 exact ⟨0,_,_,_,hk,rfl,QX px (fx:=⟨Try.func62,by kernel_rfl,by kernel_rfl⟩) (Qo e_Z2_ok (Qo e_Z3_ok JU)) (JZ e_Z4_ok (JZ e_Z9_ok (JZ e_Z10_ok JV))) ((q_Z11 ..).trans ((c_Z11_bind ..).trans (JB hy)))⟩

/-!-/
def c_Z12 {R:Type} (x0:List D) (k:List D×List D×Int→Option R):Option R:=
 (Z11 x0 (0:Int) (0:Int)).bind (fun y0=>
 (Z2 y0.snd.snd.fst y0.snd.snd.snd.fst y0.snd.snd.snd.snd (4:Int)).bind (fun y1=>
 (Z2 y1.snd.fst y1.snd.snd.fst y1.snd.snd.snd (12:Int)).bind (fun y2=>
 if (11:Int)≠(0:Int) then
 k (y0.fst,y0.snd.fst,IntKind.i64.wrap (y1.fst - IntKind.i64.wrap (y2.fst.tdiv (11:Int))))
 else
 none)))
theorem c_Z12_bind {R:Type} (x0:List D) (k:List D×List D×Int→Option R):c_Z12 x0 k=(c_Z12 x0 some).bind k:=by
 unfold c_Z12
 repeat' first
  | exact J9
  | exact J8
  | exact J7
  | apply J4
  | apply J5
  | apply Qa
  | (apply J6;intro _)
  | intro _
def Z12 (x0:List D):Option (List D×List D×Int):=c_Z12 x0 some
def e_Z12:Ent:=⟨28,[.rd (.int .u8)],[(.tup [.own (.struct [.int .i64,.int .i64,.int .i64,.int .i64]),.own (.struct [.int .i64,.int .i64]),.int .i64],[.undef])],fun _ ds k=>dL (fun x0 ds=>dE ((Z12 x0).bind (fun y=>k 0 [.L y.1,.L y.2.1,.I y.2.2])) ds) ds⟩
theorem q_Z12 (x0:List D):QH (JQ [e_Z11,e_Z2]) (JR []) A 28 Try.f28 (Sh.mks e_Z12.sh [.L x0]).1 (fun v os=>some (v,os))=c_Z12 x0 (fun y=>QW e_Z12 0 [.L y.1,.L y.2.1,.I y.2.2]):=by kernel_rfl
theorem e_Z12_ok:e_Z12.ok Try.prog A:=by
 intro R ds k r h
 unfold e_Z12 at h
 obtain ⟨_,_,rfl,h⟩:=Jg h
 obtain ⟨rfl,hE⟩:=Jr h
 obtain ⟨y,hy,hk⟩:=Js hE
 exact ⟨0,_,_,_,hk,rfl,QX px (fx:=⟨Try.func28,by kernel_rfl,by kernel_rfl⟩) (Qo e_Z11_ok (Qo e_Z2_ok JU)) JV ((q_Z12 ..).trans ((c_Z12_bind ..).trans (JB hy)))⟩

/-!-/
def c_Z13 {R:Type} (x0 x1 x2:Int) (k:Bool→Option R):Option R:=
 bif decide (x1≤x0) then
 k (decide (x0≤x2))
 else
 k Bool.false
theorem c_Z13_bind {R:Type} (x0 x1 x2:Int) (k:Bool→Option R):c_Z13 x0 x1 x2 k=(c_Z13 x0 x1 x2 some).bind k:=by
 unfold c_Z13
 repeat' first
  | exact J9
  | exact J8
  | exact J7
  | apply J4
  | apply J5
  | apply Qa
  | (apply J6;intro _)
  | intro _
def Z13 (x0 x1 x2:Int):Option (Bool):=c_Z13 x0 x1 x2 some
def e_Z13:Ent:=⟨56,[.int .i64,.int .i64,.int .i64],[(.bool,[.undef,.undef,.undef])],fun _ ds k=>dI (fun x0 ds=>dI (fun x1 ds=>dI (fun x2 ds=>dE ((Z13 x0 x1 x2).bind (fun y=>k 0 [.B y])) ds) ds) ds) ds⟩
theorem q_Z13 (x0 x1 x2:Int):QH (JQ []) (JR []) A 56 Try.f56 (Sh.mks e_Z13.sh [.I x0,.I x1,.I x2]).1 (fun v os=>some (v,os))=c_Z13 x0 x1 x2 (fun y=>QW e_Z13 0 [.B y]):=by kernel_rfl
theorem e_Z13_ok:e_Z13.ok Try.prog A:=by
 intro R ds k r h
 unfold e_Z13 at h
 obtain ⟨_,_,rfl,h⟩:=Jc h
 obtain ⟨_,_,rfl,h⟩:=Jc h
 obtain ⟨_,_,rfl,h⟩:=Jc h
 obtain ⟨rfl,hE⟩:=Jr h
 obtain ⟨y,hy,hk⟩:=Js hE
 exact ⟨0,_,_,_,hk,rfl,QX px (fx:=⟨Try.func56,by kernel_rfl,by kernel_rfl⟩) JU JV ((q_Z13 ..).trans ((c_Z13_bind ..).trans (JB hy)))⟩

/-!-/
def c_Z14 {R:Type} (x0:Int) (k:Bool→Option R):Option R:=
 (Z13 x0 (1:Int) (999:Int)).bind (fun y0=>
 k y0)
theorem c_Z14_bind {R:Type} (x0:Int) (k:Bool→Option R):c_Z14 x0 k=(c_Z14 x0 some).bind k:=by
 unfold c_Z14
 repeat' first
  | exact J9
  | exact J8
  | exact J7
  | apply J4
  | apply J5
  | apply Qa
  | (apply J6;intro _)
  | intro _
def Z14 (x0:Int):Option (Bool):=c_Z14 x0 some
def e_Z14:Ent:=⟨68,[.int .i64],[(.bool,[.undef])],fun _ ds k=>dI (fun x0 ds=>dE ((Z14 x0).bind (fun y=>k 0 [.B y])) ds) ds⟩
theorem q_Z14 (x0:Int):QH (JQ [e_Z13]) (JR []) A 68 Try.f68 (Sh.mks e_Z14.sh [.I x0]).1 (fun v os=>some (v,os))=c_Z14 x0 (fun y=>QW e_Z14 0 [.B y]):=by kernel_rfl
theorem e_Z14_ok:e_Z14.ok Try.prog A:=by
 intro R ds k r h
 unfold e_Z14 at h
 obtain ⟨_,_,rfl,h⟩:=Jc h
 obtain ⟨rfl,hE⟩:=Jr h
 obtain ⟨y,hy,hk⟩:=Js hE
 exact ⟨0,_,_,_,hk,rfl,QX px (fx:=⟨Try.func68,by kernel_rfl,by kernel_rfl⟩) (Qo e_Z13_ok JU) JV ((q_Z14 ..).trans ((c_Z14_bind ..).trans (JB hy)))⟩

/-!-/
abbrev T_Z15:=List D→List D→List D→Int→Int→Option ((List D×List D×Bool)⊕(List D×List D))
def c_Z15 {R:Type} (F:T_Z15) (x0 x1 x2:List D) (x3 x4:Int) (k:(List D×List D×Bool)⊕(List D×List D)→Option R):Option R:=
 bif decide (x4<x3) then
 if 0≤x4∧x4<(↑x2.length:Int) then
 (Z14 (((x2.getD x4.toNat (D.int 0)).fld (0:Nat)).toInt)).bind (fun y0=>
 bif !y0 then
 k (.inl (x0,x1,Bool.false))
 else
 (Z13 (((x2.getD x4.toNat (D.int 0)).fld (1:Nat)).toInt) (0:Int) (9:Int)).bind (fun y1=>
 bif !y1 then
 k (.inl (x0,x1,Bool.false))
 else
 (Z13 (((x2.getD x4.toNat (D.int 0)).fld (2:Nat)).toInt) (0:Int) (3599:Int)).bind (fun y2=>
 bif !y2 then
 k (.inl (x0,x1,Bool.false))
 else
 (Z13 (((x2.getD x4.toNat (D.int 0)).fld (3:Nat)).toInt) (1:Int) (3600:Int)).bind (fun y3=>
 bif !y3 then
 k (.inl (x0,x1,Bool.false))
 else
 (F x0 x1 x2 x3 (IntKind.i64.wrap (x4+1))).bind k))))
 else
 none
 else
 k (.inr (x0,x1))
theorem c_Z15_bind {R:Type} (F:T_Z15) (x0 x1 x2:List D) (x3 x4:Int) (k:(List D×List D×Bool)⊕(List D×List D)→Option R):c_Z15 F x0 x1 x2 x3 x4 k=(c_Z15 F x0 x1 x2 x3 x4 some).bind k:=by
 unfold c_Z15
 repeat' first
  | exact J9
  | exact J8
  | exact J7
  | apply J4
  | apply J5
  | apply Qa
  | (apply J6;intro _)
  | intro _
def n_Z15:Nat→T_Z15
 | 0,_,_,_,_,_=>none
 | n+1,x0,x1,x2,x3,x4=>c_Z15 (n_Z15 n) x0 x1 x2 x3 x4 some
noncomputable def Z15 (x0 x1 x2:List D) (x3 x4:Int):Option ((List D×List D×Bool)⊕(List D×List D)):=ev (fun n=>n_Z15 n x0 x1 x2 x3 x4)
def m_Z15 (F:T_Z15):JP:=⟨2,⟨(.rd (.struct [.int .i64,.int .i64,.int .i64,.int .i64])::.rd (.struct [.int .i64,.int .i64])::uu 7 (.rd (.struct [.int .i64,.int .i64,.int .i64,.int .i64])::.int .i64::.int .i64::uu 84 ([]))),[]⟩,[(.ret,⟨(.rd (.struct [.int .i64,.int .i64,.int .i64,.int .i64])::.rd (.struct [.int .i64,.int .i64])::.undef::.undef::.bool::uu 91 ([])),[]⟩),(.exit 0,⟨(.rd (.struct [.int .i64,.int .i64,.int .i64,.int .i64])::.rd (.struct [.int .i64,.int .i64])::uu 94 ([])),[]⟩)],fun _ ds k=>dL (fun x0 ds=>dL (fun x1 ds=>dL (fun x2 ds=>dI (fun x3 ds=>dI (fun x4 ds=>dE ((F x0 x1 x2 x3 x4).bind (Sum.elim (fun y=>k 0 [.L y.1,.L y.2.1,.B y.2.2]) (fun y=>k 1 [.L y.1,.L y.2]))) ds) ds) ds) ds) ds) ds⟩
theorem q_Z15 (F:T_Z15) (x0 x1 x2:List D) (x3 x4:Int):Q3 (JQ [e_Z14,e_Z13]) (JR [m_Z15 F]) A 33 (JC (JA Try.f33) 2) ((m_Z15 F).sh.mk' [.L x0,.L x1,.L x2,.I x3,.I x4]) (fun e σ'=>some (e,σ'))=c_Z15 F x0 x1 x2 x3 x4 (Sum.elim (fun y=>some (.ret,SSt.mk' ⟨(.rd (.struct [.int .i64,.int .i64,.int .i64,.int .i64])::.rd (.struct [.int .i64,.int .i64])::.undef::.undef::.bool::uu 91 ([])),[]⟩ [.L y.1,.L y.2.1,.B y.2.2])) (fun y=>some (.exit 0,SSt.mk' ⟨(.rd (.struct [.int .i64,.int .i64,.int .i64,.int .i64])::.rd (.struct [.int .i64,.int .i64])::uu 94 ([])),[]⟩ [.L y.1,.L y.2]))):=by kernel_rfl
theorem m_Z15_ok:∀ n,(m_Z15 (n_Z15 n)).ok Try.prog (JC (JA Try.f33) 2):=by
 intro n
 induction n with
 | zero=>
  intro R ds k r h
  unfold m_Z15 at h
  obtain ⟨_,_,rfl,h⟩:=Jg h
  obtain ⟨_,_,rfl,h⟩:=Jg h
  obtain ⟨_,_,rfl,h⟩:=Jg h
  obtain ⟨_,_,rfl,h⟩:=Jc h
  obtain ⟨_,_,rfl,h⟩:=Jc h
  obtain ⟨rfl,hE⟩:=Jr h
  obtain ⟨y,hy,hk⟩:=Js hE
  cases hy
 | succ n ih=>
  intro R ds k r h
  unfold m_Z15 at h
  obtain ⟨_,_,rfl,h⟩:=Jg h
  obtain ⟨_,_,rfl,h⟩:=Jg h
  obtain ⟨_,_,rfl,h⟩:=Jg h
  obtain ⟨_,_,rfl,h⟩:=Jc h
  obtain ⟨_,_,rfl,h⟩:=Jc h
  obtain ⟨rfl,hE⟩:=Jr h
  obtain ⟨y,hy,hk⟩:=Js hE
  cases y with
  | inl y=>
   exact ⟨0,_,_,_,hk,rfl,QI px (fx:=⟨Try.func33,by kernel_rfl,by kernel_rfl⟩) (Qo e_Z14_ok (Qo e_Z13_ok JU)) (JZ ih JV) (by kernel_rfl) ((q_Z15 ..).trans ((c_Z15_bind ..).trans (JB hy)))⟩
  | inr y=>
   exact ⟨1,_,_,_,hk,rfl,QI px (fx:=⟨Try.func33,by kernel_rfl,by kernel_rfl⟩) (Qo e_Z14_ok (Qo e_Z13_ok JU)) (JZ ih JV) (by kernel_rfl) ((q_Z15 ..).trans ((c_Z15_bind ..).trans (JB hy)))⟩
noncomputable def e_Z15:JP:=m_Z15 (Z15)
theorem e_Z15_ok:(e_Z15).ok Try.prog (JC (JA Try.f33) 2):=by
 intro R ds k r h
 unfold e_Z15 m_Z15 at h
 obtain ⟨_,_,rfl,h⟩:=Jg h
 obtain ⟨_,_,rfl,h⟩:=Jg h
 obtain ⟨_,_,rfl,h⟩:=Jg h
 obtain ⟨_,_,rfl,h⟩:=Jc h
 obtain ⟨_,_,rfl,h⟩:=Jc h
 obtain ⟨rfl,hE⟩:=Jr h
 obtain ⟨y,hy,hk⟩:=Js hE
 obtain ⟨n,hn⟩:=Q6 hy
 exact m_Z15_ok n R _ k r ((JB hn).trans hk)

/-!-/
def c_Z16 {R:Type} (x0:Int) (k:Bool→Option R):Option R:=
 k (!decide (x0=x0))
theorem c_Z16_bind {R:Type} (x0:Int) (k:Bool→Option R):c_Z16 x0 k=(c_Z16 x0 some).bind k:=by
 unfold c_Z16
 repeat' first
  | exact J9
  | exact J8
  | exact J7
  | apply J4
  | apply J5
  | apply Qa
  | (apply J6;intro _)
  | intro _
def Z16 (x0:Int):Option (Bool):=c_Z16 x0 some
def e_Z16:Ent:=⟨104,[.int .i64],[(.bool,[.undef])],fun _ ds k=>dI (fun x0 ds=>dE ((Z16 x0).bind (fun y=>k 0 [.B y])) ds) ds⟩
theorem q_Z16 (x0:Int):QH (JQ []) (JR []) A 104 Try.f104 (Sh.mks e_Z16.sh [.I x0]).1 (fun v os=>some (v,os))=c_Z16 x0 (fun y=>QW e_Z16 0 [.B y]):=by kernel_rfl
theorem e_Z16_ok:e_Z16.ok Try.prog A:=by
 intro R ds k r h
 unfold e_Z16 at h
 obtain ⟨_,_,rfl,h⟩:=Jc h
 obtain ⟨rfl,hE⟩:=Jr h
 obtain ⟨y,hy,hk⟩:=Js hE
 exact ⟨0,_,_,_,hk,rfl,QX px (fx:=⟨Try.func104,by kernel_rfl,by kernel_rfl⟩) JU JV ((q_Z16 ..).trans ((c_Z16_bind ..).trans (JB hy)))⟩

/-!-/
def c_Z17 {R:Type} (x0 x1:Int) (k:Int→Option R):Option R:=
 (Z16 x0).bind (fun y0=>
 (Z16 x1).bind (fun y1=>
 bif y0 then
 bif y1 then
 k (0:Int)
 else
 k (-1:Int)
 else
 bif y1 then
 k (1:Int)
 else
 bif decide (x0<x1) then
 k (-1:Int)
 else
 bif decide (x1<x0) then
 k (1:Int)
 else
 k (0:Int)))
theorem c_Z17_bind {R:Type} (x0 x1:Int) (k:Int→Option R):c_Z17 x0 x1 k=(c_Z17 x0 x1 some).bind k:=by
 unfold c_Z17
 repeat' first
  | exact J9
  | exact J8
  | exact J7
  | apply J4
  | apply J5
  | apply Qa
  | (apply J6;intro _)
  | intro _
def Z17 (x0 x1:Int):Option (Int):=c_Z17 x0 x1 some
def e_Z17:Ent:=⟨70,[.int .i64,.int .i64],[(.int .i64,[.undef,.undef])],fun _ ds k=>dI (fun x0 ds=>dI (fun x1 ds=>dE ((Z17 x0 x1).bind (fun y=>k 0 [.I y])) ds) ds) ds⟩
theorem q_Z17 (x0 x1:Int):QH (JQ [e_Z16]) (JR []) A 70 Try.f70 (Sh.mks e_Z17.sh [.I x0,.I x1]).1 (fun v os=>some (v,os))=c_Z17 x0 x1 (fun y=>QW e_Z17 0 [.I y]):=by kernel_rfl
theorem e_Z17_ok:e_Z17.ok Try.prog A:=by
 intro R ds k r h
 unfold e_Z17 at h
 obtain ⟨_,_,rfl,h⟩:=Jc h
 obtain ⟨_,_,rfl,h⟩:=Jc h
 obtain ⟨rfl,hE⟩:=Jr h
 obtain ⟨y,hy,hk⟩:=Js hE
 exact ⟨0,_,_,_,hk,rfl,QX px (fx:=⟨Try.func70,by kernel_rfl,by kernel_rfl⟩) (Qo e_Z16_ok JU) JV ((q_Z17 ..).trans ((c_Z17_bind ..).trans (JB hy)))⟩

/-!-/
abbrev T_Z18:=Int→List D→Int→Int→Option ((Int×Int)⊕(Int))
def c_Z18 {R:Type} (F:T_Z18) (x0:Int) (x1:List D) (x2 x3:Int) (k:(Int×Int)⊕(Int)→Option R):Option R:=
 bif decide (x3<x2) then
 if 0≤x3∧x3<(↑x1.length:Int) then
 bif !decide ((x1.getD x3.toNat (D.int 0)).toInt=x0) then
 k (.inl ((x1.getD x3.toNat (D.int 0)).toInt,x0))
 else
 (F x0 x1 x2 (IntKind.i64.wrap (x3+1))).bind k
 else
 none
 else
 k (.inr x0)
theorem c_Z18_bind {R:Type} (F:T_Z18) (x0:Int) (x1:List D) (x2 x3:Int) (k:(Int×Int)⊕(Int)→Option R):c_Z18 F x0 x1 x2 x3 k=(c_Z18 F x0 x1 x2 x3 some).bind k:=by
 unfold c_Z18
 repeat' first
  | exact J9
  | exact J8
  | exact J7
  | apply J4
  | apply J5
  | apply Qa
  | (apply J6;intro _)
  | intro _
def n_Z18:Nat→T_Z18
 | 0,_,_,_,_=>none
 | n+1,x0,x1,x2,x3=>c_Z18 (n_Z18 n) x0 x1 x2 x3 some
noncomputable def Z18 (x0:Int) (x1:List D) (x2 x3:Int):Option ((Int×Int)⊕(Int)):=ev (fun n=>n_Z18 n x0 x1 x2 x3)
def m_Z18 (F:T_Z18):JP:=⟨3,⟨(.undef::.undef::.undef::.int .i64::.undef::.undef::.rd (.int .i64)::.int .i64::.int .i64::uu 9 ([])),[]⟩,[(.ret,⟨(.undef::.undef::.int .i64::.int .i64::uu 14 ([])),[]⟩),(.exit 0,⟨(.undef::.undef::.undef::.int .i64::uu 14 ([])),[]⟩)],fun _ ds k=>dI (fun x0 ds=>dL (fun x1 ds=>dI (fun x2 ds=>dI (fun x3 ds=>dE ((F x0 x1 x2 x3).bind (Sum.elim (fun y=>k 0 [.I y.1,.I y.2]) (fun y=>k 1 [.I y]))) ds) ds) ds) ds) ds⟩
theorem q_Z18 (F:T_Z18) (x0:Int) (x1:List D) (x2 x3:Int):Q3 (JQ []) (JR [m_Z18 F]) A 69 (JC (JA Try.f69) 3) ((m_Z18 F).sh.mk' [.I x0,.L x1,.I x2,.I x3]) (fun e σ'=>some (e,σ'))=c_Z18 F x0 x1 x2 x3 (Sum.elim (fun y=>some (.ret,SSt.mk' ⟨(.undef::.undef::.int .i64::.int .i64::uu 14 ([])),[]⟩ [.I y.1,.I y.2])) (fun y=>some (.exit 0,SSt.mk' ⟨(.undef::.undef::.undef::.int .i64::uu 14 ([])),[]⟩ [.I y]))):=by kernel_rfl
theorem m_Z18_ok:∀ n,(m_Z18 (n_Z18 n)).ok Try.prog (JC (JA Try.f69) 3):=by
 intro n
 induction n with
 | zero=>
  intro R ds k r h
  unfold m_Z18 at h
  obtain ⟨_,_,rfl,h⟩:=Jc h
  obtain ⟨_,_,rfl,h⟩:=Jg h
  obtain ⟨_,_,rfl,h⟩:=Jc h
  obtain ⟨_,_,rfl,h⟩:=Jc h
  obtain ⟨rfl,hE⟩:=Jr h
  obtain ⟨y,hy,hk⟩:=Js hE
  cases hy
 | succ n ih=>
  intro R ds k r h
  unfold m_Z18 at h
  obtain ⟨_,_,rfl,h⟩:=Jc h
  obtain ⟨_,_,rfl,h⟩:=Jg h
  obtain ⟨_,_,rfl,h⟩:=Jc h
  obtain ⟨_,_,rfl,h⟩:=Jc h
  obtain ⟨rfl,hE⟩:=Jr h
  obtain ⟨y,hy,hk⟩:=Js hE
  cases y with
  | inl y=>
   exact ⟨0,_,_,_,hk,rfl,QI px (fx:=⟨Try.func69,by kernel_rfl,by kernel_rfl⟩) JU (JZ ih JV) (by kernel_rfl) ((q_Z18 ..).trans ((c_Z18_bind ..).trans (JB hy)))⟩
  | inr y=>
   exact ⟨1,_,_,_,hk,rfl,QI px (fx:=⟨Try.func69,by kernel_rfl,by kernel_rfl⟩) JU (JZ ih JV) (by kernel_rfl) ((q_Z18 ..).trans ((c_Z18_bind ..).trans (JB hy)))⟩
noncomputable def e_Z18:JP:=m_Z18 (Z18)
theorem e_Z18_ok:(e_Z18).ok Try.prog (JC (JA Try.f69) 3):=by
 intro R ds k r h
 unfold e_Z18 m_Z18 at h
 obtain ⟨_,_,rfl,h⟩:=Jc h
 obtain ⟨_,_,rfl,h⟩:=Jg h
 obtain ⟨_,_,rfl,h⟩:=Jc h
 obtain ⟨_,_,rfl,h⟩:=Jc h
 obtain ⟨rfl,hE⟩:=Jr h
 obtain ⟨y,hy,hk⟩:=Js hE
 obtain ⟨n,hn⟩:=Q6 hy
 exact m_Z18_ok n R _ k r ((JB hn).trans hk)

/-!-/
def c_Z19 {R:Type} (x0:List D) (k:Int→Option R):Option R:=
 (Z18 (0:Int) x0 (↑x0.length:Int) (0:Int)).bind (Sum.elim (fun y0=>
 k y0.fst) (fun y1=>
 k y1))
theorem c_Z19_bind {R:Type} (x0:List D) (k:Int→Option R):c_Z19 x0 k=(c_Z19 x0 some).bind k:=by
 unfold c_Z19
 repeat' first
  | exact J9
  | exact J8
  | exact J7
  | apply J4
  | apply J5
  | apply Qa
  | (apply J6;intro _)
  | intro _
def Z19 (x0:List D):Option (Int):=c_Z19 x0 some
def e_Z19:Ent:=⟨69,[.rd (.int .i64)],[(.int .i64,[.undef])],fun _ ds k=>dL (fun x0 ds=>dE ((Z19 x0).bind (fun y=>k 0 [.I y])) ds) ds⟩
theorem q_Z19 (x0:List D):QH (JQ []) (JR [e_Z18]) A 69 Try.f69 (Sh.mks e_Z19.sh [.L x0]).1 (fun v os=>some (v,os))=c_Z19 x0 (fun y=>QW e_Z19 0 [.I y]):=by kernel_rfl
theorem e_Z19_ok:e_Z19.ok Try.prog A:=by
 intro R ds k r h
 unfold e_Z19 at h
 obtain ⟨_,_,rfl,h⟩:=Jg h
 obtain ⟨rfl,hE⟩:=Jr h
 obtain ⟨y,hy,hk⟩:=Js hE
 exact ⟨0,_,_,_,hk,rfl,QX px (fx:=⟨Try.func69,by kernel_rfl,by kernel_rfl⟩) JU (JZ e_Z18_ok JV) ((q_Z19 ..).trans ((c_Z19_bind ..).trans (JB hy)))⟩

/-!-/
abbrev T_Z20:=List D→List D→List D→Int→Int→Option ((List D×List D×Bool)⊕(List D×List D))
def c_Z20 {R:Type} (F:T_Z20) (x0 x1 x2:List D) (x3 x4:Int) (k:(List D×List D×Bool)⊕(List D×List D)→Option R):Option R:=
 bif decide (x4<x3) then
 if 0≤x4∧x4<(↑x2.length:Int) then
 bif decide (((x2.getD x4.toNat (D.int 0)).fld (0:Nat)).toInt<(0:Int)) then
 k (.inl (x0,x1,Bool.false))
 else
 bif decide ((↑x0.length:Int)≤((x2.getD x4.toNat (D.int 0)).fld (1:Nat)).toInt) then
 k (.inl (x0,x1,Bool.false))
 else
 bif decide (((x2.getD x4.toNat (D.int 0)).fld (1:Nat)).toInt≤((x2.getD x4.toNat (D.int 0)).fld (0:Nat)).toInt) then
 k (.inl (x0,x1,Bool.false))
 else
 bif decide ((0:Int)<x4) then
 if (0:Int)≤IntKind.i64.wrap (x4 - 1)∧IntKind.i64.wrap (x4 - 1)<(↑x1.length:Int) then
 (Z17 (((x1.getD (IntKind.i64.wrap (x4 - 1)).toNat (D.int 0)).fld (0:Nat)).toInt) (((x2.getD x4.toNat (D.int 0)).fld (0:Nat)).toInt)).bind (fun y0=>
 if (0:Int)≤IntKind.i64.wrap (x4 - 1)∧IntKind.i64.wrap (x4 - 1)<(↑x1.length:Int) then
 (Z17 (((x1.getD (IntKind.i64.wrap (x4 - 1)).toNat (D.int 0)).fld (1:Nat)).toInt) (((x2.getD x4.toNat (D.int 0)).fld (1:Nat)).toInt)).bind (fun y1=>
 (Z19 ([D.int y0,D.int y1])).bind (fun y2=>
 bif decide ((0:Int)≤y2) then
 k (.inl (x0,x1,Bool.false))
 else
 (F x0 x1 x2 x3 (IntKind.i64.wrap (x4+1))).bind k))
 else
 none)
 else
 none
 else
 (F x0 x1 x2 x3 (IntKind.i64.wrap (x4+1))).bind k
 else
 none
 else
 k (.inr (x0,x1))
theorem c_Z20_bind {R:Type} (F:T_Z20) (x0 x1 x2:List D) (x3 x4:Int) (k:(List D×List D×Bool)⊕(List D×List D)→Option R):c_Z20 F x0 x1 x2 x3 x4 k=(c_Z20 F x0 x1 x2 x3 x4 some).bind k:=by
 unfold c_Z20
 repeat' first
  | exact J9
  | exact J8
  | exact J7
  | apply J4
  | apply J5
  | apply Qa
  | (apply J6;intro _)
  | intro _
def n_Z20:Nat→T_Z20
 | 0,_,_,_,_,_=>none
 | n+1,x0,x1,x2,x3,x4=>c_Z20 (n_Z20 n) x0 x1 x2 x3 x4 some
noncomputable def Z20 (x0 x1 x2:List D) (x3 x4:Int):Option ((List D×List D×Bool)⊕(List D×List D)):=ev (fun n=>n_Z20 n x0 x1 x2 x3 x4)
def m_Z20 (F:T_Z20):JP:=⟨8,⟨(.rd (.struct [.int .i64,.int .i64,.int .i64,.int .i64])::.rd (.struct [.int .i64,.int .i64])::uu 36 (.rd (.struct [.int .i64,.int .i64])::.int .i64::.int .i64::uu 55 ([]))),[]⟩,[(.ret,⟨(.rd (.struct [.int .i64,.int .i64,.int .i64,.int .i64])::.rd (.struct [.int .i64,.int .i64])::.undef::.undef::.bool::uu 91 ([])),[]⟩),(.exit 2,⟨(.rd (.struct [.int .i64,.int .i64,.int .i64,.int .i64])::.rd (.struct [.int .i64,.int .i64])::uu 94 ([])),[]⟩)],fun _ ds k=>dL (fun x0 ds=>dL (fun x1 ds=>dL (fun x2 ds=>dI (fun x3 ds=>dI (fun x4 ds=>dE ((F x0 x1 x2 x3 x4).bind (Sum.elim (fun y=>k 0 [.L y.1,.L y.2.1,.B y.2.2]) (fun y=>k 1 [.L y.1,.L y.2]))) ds) ds) ds) ds) ds) ds⟩
theorem q_Z20 (F:T_Z20) (x0 x1 x2:List D) (x3 x4:Int):Q3 (JQ [e_Z17,e_Z19]) (JR [m_Z20 F]) A 33 (JC (JA Try.f33) 8) ((m_Z20 F).sh.mk' [.L x0,.L x1,.L x2,.I x3,.I x4]) (fun e σ'=>some (e,σ'))=c_Z20 F x0 x1 x2 x3 x4 (Sum.elim (fun y=>some (.ret,SSt.mk' ⟨(.rd (.struct [.int .i64,.int .i64,.int .i64,.int .i64])::.rd (.struct [.int .i64,.int .i64])::.undef::.undef::.bool::uu 91 ([])),[]⟩ [.L y.1,.L y.2.1,.B y.2.2])) (fun y=>some (.exit 2,SSt.mk' ⟨(.rd (.struct [.int .i64,.int .i64,.int .i64,.int .i64])::.rd (.struct [.int .i64,.int .i64])::uu 94 ([])),[]⟩ [.L y.1,.L y.2]))):=by kernel_rfl
theorem m_Z20_ok:∀ n,(m_Z20 (n_Z20 n)).ok Try.prog (JC (JA Try.f33) 8):=by
 intro n
 induction n with
 | zero=>
  intro R ds k r h
  unfold m_Z20 at h
  obtain ⟨_,_,rfl,h⟩:=Jg h
  obtain ⟨_,_,rfl,h⟩:=Jg h
  obtain ⟨_,_,rfl,h⟩:=Jg h
  obtain ⟨_,_,rfl,h⟩:=Jc h
  obtain ⟨_,_,rfl,h⟩:=Jc h
  obtain ⟨rfl,hE⟩:=Jr h
  obtain ⟨y,hy,hk⟩:=Js hE
  cases hy
 | succ n ih=>
  intro R ds k r h
  unfold m_Z20 at h
  obtain ⟨_,_,rfl,h⟩:=Jg h
  obtain ⟨_,_,rfl,h⟩:=Jg h
  obtain ⟨_,_,rfl,h⟩:=Jg h
  obtain ⟨_,_,rfl,h⟩:=Jc h
  obtain ⟨_,_,rfl,h⟩:=Jc h
  obtain ⟨rfl,hE⟩:=Jr h
  obtain ⟨y,hy,hk⟩:=Js hE
  cases y with
  | inl y=>
   exact ⟨0,_,_,_,hk,rfl,QI px (fx:=⟨Try.func33,by kernel_rfl,by kernel_rfl⟩) (Qo e_Z17_ok (Qo e_Z19_ok JU)) (JZ ih JV) (by kernel_rfl) ((q_Z20 ..).trans ((c_Z20_bind ..).trans (JB hy)))⟩
  | inr y=>
   exact ⟨1,_,_,_,hk,rfl,QI px (fx:=⟨Try.func33,by kernel_rfl,by kernel_rfl⟩) (Qo e_Z17_ok (Qo e_Z19_ok JU)) (JZ ih JV) (by kernel_rfl) ((q_Z20 ..).trans ((c_Z20_bind ..).trans (JB hy)))⟩
noncomputable def e_Z20:JP:=m_Z20 (Z20)
theorem e_Z20_ok:(e_Z20).ok Try.prog (JC (JA Try.f33) 8):=by
 intro R ds k r h
 unfold e_Z20 m_Z20 at h
 obtain ⟨_,_,rfl,h⟩:=Jg h
 obtain ⟨_,_,rfl,h⟩:=Jg h
 obtain ⟨_,_,rfl,h⟩:=Jg h
 obtain ⟨_,_,rfl,h⟩:=Jc h
 obtain ⟨_,_,rfl,h⟩:=Jc h
 obtain ⟨rfl,hE⟩:=Jr h
 obtain ⟨y,hy,hk⟩:=Js hE
 obtain ⟨n,hn⟩:=Q6 hy
 exact m_Z20_ok n R _ k r ((JB hn).trans hk)

/-!-/
def c_Z21 {R:Type} (x0 x1:List D) (k:Bool→Option R):Option R:=
 (Z15 x0 x1 x0 (↑x0.length:Int) (0:Int)).bind (Sum.elim (fun y0=>
 k y0.snd.snd) (fun y1=>
 (Z20 y1.fst y1.snd y1.snd (↑y1.snd.length:Int) (0:Int)).bind (Sum.elim (fun y2=>
 k y2.snd.snd) (fun y3=>
 bif decide ((↑y3.fst.length:Int)≤(12:Int)) then
 k (decide ((↑y3.snd.length:Int)≤(20:Int)))
 else
 k Bool.false))))
theorem c_Z21_bind {R:Type} (x0 x1:List D) (k:Bool→Option R):c_Z21 x0 x1 k=(c_Z21 x0 x1 some).bind k:=by
 unfold c_Z21
 repeat' first
  | exact J9
  | exact J8
  | exact J7
  | apply J4
  | apply J5
  | apply Qa
  | (apply J6;intro _)
  | intro _
def Z21 (x0 x1:List D):Option (Bool):=c_Z21 x0 x1 some
def e_Z21:Ent:=⟨33,[.rd (.struct [.int .i64,.int .i64,.int .i64,.int .i64]),.rd (.struct [.int .i64,.int .i64])],[(.bool,[.undef,.undef])],fun _ ds k=>dL (fun x0 ds=>dL (fun x1 ds=>dE ((Z21 x0 x1).bind (fun y=>k 0 [.B y])) ds) ds) ds⟩
theorem q_Z21 (x0 x1:List D):QH (JQ []) (JR [e_Z15,e_Z20]) A 33 Try.f33 (Sh.mks e_Z21.sh [.L x0,.L x1]).1 (fun v os=>some (v,os))=c_Z21 x0 x1 (fun y=>QW e_Z21 0 [.B y]):=by kernel_rfl
theorem e_Z21_ok:e_Z21.ok Try.prog A:=by
 intro R ds k r h
 unfold e_Z21 at h
 obtain ⟨_,_,rfl,h⟩:=Jg h
 obtain ⟨_,_,rfl,h⟩:=Jg h
 obtain ⟨rfl,hE⟩:=Jr h
 obtain ⟨y,hy,hk⟩:=Js hE
 exact ⟨0,_,_,_,hk,rfl,QX px (fx:=⟨Try.func33,by kernel_rfl,by kernel_rfl⟩) JU (JZ e_Z15_ok (JZ e_Z20_ok JV)) ((q_Z21 ..).trans ((c_Z21_bind ..).trans (JB hy)))⟩

/-!-/
abbrev T_Z22:=List D→Int→Int→List D→Option (List D×List D)
def c_Z22 {R:Type} (F:T_Z22) (x0:List D) (x1 x2:Int) (x3:List D) (k:List D×List D→Option R):Option R:=
 bif decide (x2<x1) then
 if x3.length+[D.int x2].length≤(4294967296:Nat) then
 (F x0 x1 (IntKind.i64.wrap (x2+1)) (x3++[D.int x2])).bind k
 else
 none
 else
 k (x0,x3)
theorem c_Z22_bind {R:Type} (F:T_Z22) (x0:List D) (x1 x2:Int) (x3:List D) (k:List D×List D→Option R):c_Z22 F x0 x1 x2 x3 k=(c_Z22 F x0 x1 x2 x3 some).bind k:=by
 unfold c_Z22
 repeat' first
  | exact J9
  | exact J8
  | exact J7
  | apply J4
  | apply J5
  | apply Qa
  | (apply J6;intro _)
  | intro _
def n_Z22:Nat→T_Z22
 | 0,_,_,_,_=>none
 | n+1,x0,x1,x2,x3=>c_Z22 (n_Z22 n) x0 x1 x2 x3 some
noncomputable def Z22 (x0:List D) (x1 x2:Int) (x3:List D):Option (List D×List D):=ev (fun n=>n_Z22 n x0 x1 x2 x3)
def m_Z22 (F:T_Z22):JP:=⟨3,⟨(.undef::.rd (.struct [.int .i64,.int .i64])::.undef::.undef::.undef::.full 1000 [] (.int .i64)::uu 5 (.int .i64::.int .i64::uu 41 ([]))),[(1000,.own (.int .i64))]⟩,[(.exit 0,⟨(.undef::.rd (.struct [.int .i64,.int .i64])::.undef::.undef::.undef::.full 1000 [] (.int .i64)::uu 48 ([])),[(1000,.own (.int .i64))]⟩)],fun _ ds k=>dL (fun x0 ds=>dI (fun x1 ds=>dI (fun x2 ds=>dL (fun x3 ds=>dE ((F x0 x1 x2 x3).bind (fun y=>k 0 [.L y.1,.L y.2])) ds) ds) ds) ds) ds⟩
theorem q_Z22 (F:T_Z22) (x0:List D) (x1 x2:Int) (x3:List D):Q3 (JQ []) (JR [m_Z22 F]) A 97 (JC (JA Try.f97) 3) ((m_Z22 F).sh.mk' [.L x0,.I x1,.I x2,.L x3]) (fun e σ'=>some (e,σ'))=c_Z22 F x0 x1 x2 x3 (fun y=>some (.exit 0,SSt.mk' ⟨(.undef::.rd (.struct [.int .i64,.int .i64])::.undef::.undef::.undef::.full 1000 [] (.int .i64)::uu 48 ([])),[(1000,.own (.int .i64))]⟩ [.L y.1,.L y.2])):=by kernel_rfl
theorem m_Z22_ok:∀ n,(m_Z22 (n_Z22 n)).ok Try.prog (JC (JA Try.f97) 3):=by
 intro n
 induction n with
 | zero=>
  intro R ds k r h
  unfold m_Z22 at h
  obtain ⟨_,_,rfl,h⟩:=Jg h
  obtain ⟨_,_,rfl,h⟩:=Jc h
  obtain ⟨_,_,rfl,h⟩:=Jc h
  obtain ⟨_,_,rfl,h⟩:=Jg h
  obtain ⟨rfl,hE⟩:=Jr h
  obtain ⟨y,hy,hk⟩:=Js hE
  cases hy
 | succ n ih=>
  intro R ds k r h
  unfold m_Z22 at h
  obtain ⟨_,_,rfl,h⟩:=Jg h
  obtain ⟨_,_,rfl,h⟩:=Jc h
  obtain ⟨_,_,rfl,h⟩:=Jc h
  obtain ⟨_,_,rfl,h⟩:=Jg h
  obtain ⟨rfl,hE⟩:=Jr h
  obtain ⟨y,hy,hk⟩:=Js hE
  exact ⟨0,_,_,_,hk,rfl,QI px (fx:=⟨Try.func97,by kernel_rfl,by kernel_rfl⟩) JU (JZ ih JV) (by kernel_rfl) ((q_Z22 ..).trans ((c_Z22_bind ..).trans (JB hy)))⟩
noncomputable def e_Z22:JP:=m_Z22 (Z22)
theorem e_Z22_ok:(e_Z22).ok Try.prog (JC (JA Try.f97) 3):=by
 intro R ds k r h
 unfold e_Z22 m_Z22 at h
 obtain ⟨_,_,rfl,h⟩:=Jg h
 obtain ⟨_,_,rfl,h⟩:=Jc h
 obtain ⟨_,_,rfl,h⟩:=Jc h
 obtain ⟨_,_,rfl,h⟩:=Jg h
 obtain ⟨rfl,hE⟩:=Jr h
 obtain ⟨y,hy,hk⟩:=Js hE
 obtain ⟨n,hn⟩:=Q6 hy
 exact m_Z22_ok n R _ k r ((JB hn).trans hk)

/-!-/
abbrev T_Z23:=List D→Int→Int→List D→Int→Int→List D→Option (List D×Int×Int×List D)
def c_Z23 {R:Type} (F:T_Z23) (x0:List D) (x1 x2:Int) (x3:List D) (x4 x5:Int) (x6:List D) (k:List D×Int×Int×List D→Option R):Option R:=
 bif decide (x5<x4) then
 if 0≤x5∧x5<(↑x3.length:Int) then
 if (0:Int)≤((x3.getD x5.toNat (D.int 0)).fld (0:Nat)).toInt∧((x3.getD x5.toNat (D.int 0)).fld (0:Nat)).toInt<(↑x6.length:Int) then
 if ((x3.getD x5.toNat (D.int 0)).fld (0:Nat)).toInt.toNat+1≤x6.length then
 if (0:Int)≤((x3.getD x5.toNat (D.int 0)).fld (1:Nat)).toInt∧((x3.getD x5.toNat (D.int 0)).fld (1:Nat)).toInt<(↑x6.length:Int) then
 if ((x3.getD x5.toNat (D.int 0)).fld (1:Nat)).toInt.toNat+1≤x6.length then
 if (0:Int)≤((x3.getD x5.toNat (D.int 0)).fld (0:Nat)).toInt∧((x3.getD x5.toNat (D.int 0)).fld (0:Nat)).toInt<(↑x6.length:Int) then
 if ((x3.getD x5.toNat (D.int 0)).fld (0:Nat)).toInt.toNat+1≤x6.length then
 if (0:Int)≤((x3.getD x5.toNat (D.int 0)).fld (1:Nat)).toInt∧((x3.getD x5.toNat (D.int 0)).fld (1:Nat)).toInt<(↑(x6.set ((x3.getD x5.toNat (D.int 0)).fld (0:Nat)).toInt.toNat (D.int (if (x6.getD ((x3.getD x5.toNat (D.int 0)).fld (1:Nat)).toInt.toNat (D.int 0)).toInt<(x6.getD ((x3.getD x5.toNat (D.int 0)).fld (0:Nat)).toInt.toNat (D.int 0)).toInt then (x6.getD ((x3.getD x5.toNat (D.int 0)).fld (1:Nat)).toInt.toNat (D.int 0)).toInt else (x6.getD ((x3.getD x5.toNat (D.int 0)).fld (0:Nat)).toInt.toNat (D.int 0)).toInt))).length:Int) then
 if ((x3.getD x5.toNat (D.int 0)).fld (1:Nat)).toInt.toNat+1≤(x6.set ((x3.getD x5.toNat (D.int 0)).fld (0:Nat)).toInt.toNat (D.int (if (x6.getD ((x3.getD x5.toNat (D.int 0)).fld (1:Nat)).toInt.toNat (D.int 0)).toInt<(x6.getD ((x3.getD x5.toNat (D.int 0)).fld (0:Nat)).toInt.toNat (D.int 0)).toInt then (x6.getD ((x3.getD x5.toNat (D.int 0)).fld (1:Nat)).toInt.toNat (D.int 0)).toInt else (x6.getD ((x3.getD x5.toNat (D.int 0)).fld (0:Nat)).toInt.toNat (D.int 0)).toInt))).length then
 (F x0 x1 x2 x3 x4 (IntKind.i64.wrap (x5+1)) ((x6.set ((x3.getD x5.toNat (D.int 0)).fld (0:Nat)).toInt.toNat (D.int (if (x6.getD ((x3.getD x5.toNat (D.int 0)).fld (1:Nat)).toInt.toNat (D.int 0)).toInt<(x6.getD ((x3.getD x5.toNat (D.int 0)).fld (0:Nat)).toInt.toNat (D.int 0)).toInt then (x6.getD ((x3.getD x5.toNat (D.int 0)).fld (1:Nat)).toInt.toNat (D.int 0)).toInt else (x6.getD ((x3.getD x5.toNat (D.int 0)).fld (0:Nat)).toInt.toNat (D.int 0)).toInt))).set ((x3.getD x5.toNat (D.int 0)).fld (1:Nat)).toInt.toNat (D.int (if (x6.getD ((x3.getD x5.toNat (D.int 0)).fld (1:Nat)).toInt.toNat (D.int 0)).toInt<(x6.getD ((x3.getD x5.toNat (D.int 0)).fld (0:Nat)).toInt.toNat (D.int 0)).toInt then (x6.getD ((x3.getD x5.toNat (D.int 0)).fld (1:Nat)).toInt.toNat (D.int 0)).toInt else (x6.getD ((x3.getD x5.toNat (D.int 0)).fld (0:Nat)).toInt.toNat (D.int 0)).toInt)))).bind k
 else
 none
 else
 none
 else
 none
 else
 none
 else
 none
 else
 none
 else
 none
 else
 none
 else
 none
 else
 k (x0,x1,x2,x6)
theorem c_Z23_bind {R:Type} (F:T_Z23) (x0:List D) (x1 x2:Int) (x3:List D) (x4 x5:Int) (x6:List D) (k:List D×Int×Int×List D→Option R):c_Z23 F x0 x1 x2 x3 x4 x5 x6 k=(c_Z23 F x0 x1 x2 x3 x4 x5 x6 some).bind k:=by
 unfold c_Z23
 repeat' first
  | exact J9
  | exact J8
  | exact J7
  | apply J4
  | apply J5
  | apply Qa
  | (apply J6;intro _)
  | intro _
def n_Z23:Nat→T_Z23
 | 0,_,_,_,_,_,_,_=>none
 | n+1,x0,x1,x2,x3,x4,x5,x6=>c_Z23 (n_Z23 n) x0 x1 x2 x3 x4 x5 x6 some
noncomputable def Z23 (x0:List D) (x1 x2:Int) (x3:List D) (x4 x5:Int) (x6:List D):Option (List D×Int×Int×List D):=ev (fun n=>n_Z23 n x0 x1 x2 x3 x4 x5 x6)
def m_Z23 (F:T_Z23):JP:=⟨10,⟨(.undef::.rd (.struct [.int .i64,.int .i64])::.undef::.undef::.undef::.full 1000 [] (.int .i64)::uu 15 (.int .i64::.int .i64::.undef::.rd (.struct [.int .i64,.int .i64])::.int .i64::.int .i64::uu 27 ([]))),[(1000,.own (.int .i64))]⟩,[(.exit 4,⟨(.undef::.rd (.struct [.int .i64,.int .i64])::.undef::.undef::.undef::.full 1000 [] (.int .i64)::uu 15 (.int .i64::.int .i64::uu 31 ([]))),[(1000,.own (.int .i64))]⟩)],fun _ ds k=>dL (fun x0 ds=>dI (fun x1 ds=>dI (fun x2 ds=>dL (fun x3 ds=>dI (fun x4 ds=>dI (fun x5 ds=>dL (fun x6 ds=>dE ((F x0 x1 x2 x3 x4 x5 x6).bind (fun y=>k 0 [.L y.1,.I y.2.1,.I y.2.2.1,.L y.2.2.2])) ds) ds) ds) ds) ds) ds) ds) ds⟩
theorem q_Z23 (F:T_Z23) (x0:List D) (x1 x2:Int) (x3:List D) (x4 x5:Int) (x6:List D):Q3 (JQ []) (JR [m_Z23 F]) A 97 (JC (JA Try.f97) 10) ((m_Z23 F).sh.mk' [.L x0,.I x1,.I x2,.L x3,.I x4,.I x5,.L x6]) (fun e σ'=>some (e,σ'))=c_Z23 F x0 x1 x2 x3 x4 x5 x6 (fun y=>some (.exit 4,SSt.mk' ⟨(.undef::.rd (.struct [.int .i64,.int .i64])::.undef::.undef::.undef::.full 1000 [] (.int .i64)::uu 15 (.int .i64::.int .i64::uu 31 ([]))),[(1000,.own (.int .i64))]⟩ [.L y.1,.I y.2.1,.I y.2.2.1,.L y.2.2.2])):=by kernel_rfl
theorem m_Z23_ok:∀ n,(m_Z23 (n_Z23 n)).ok Try.prog (JC (JA Try.f97) 10):=by
 intro n
 induction n with
 | zero=>
  intro R ds k r h
  unfold m_Z23 at h
  obtain ⟨_,_,rfl,h⟩:=Jg h
  obtain ⟨_,_,rfl,h⟩:=Jc h
  obtain ⟨_,_,rfl,h⟩:=Jc h
  obtain ⟨_,_,rfl,h⟩:=Jg h
  obtain ⟨_,_,rfl,h⟩:=Jc h
  obtain ⟨_,_,rfl,h⟩:=Jc h
  obtain ⟨_,_,rfl,h⟩:=Jg h
  obtain ⟨rfl,hE⟩:=Jr h
  obtain ⟨y,hy,hk⟩:=Js hE
  cases hy
 | succ n ih=>
  intro R ds k r h
  unfold m_Z23 at h
  obtain ⟨_,_,rfl,h⟩:=Jg h
  obtain ⟨_,_,rfl,h⟩:=Jc h
  obtain ⟨_,_,rfl,h⟩:=Jc h
  obtain ⟨_,_,rfl,h⟩:=Jg h
  obtain ⟨_,_,rfl,h⟩:=Jc h
  obtain ⟨_,_,rfl,h⟩:=Jc h
  obtain ⟨_,_,rfl,h⟩:=Jg h
  obtain ⟨rfl,hE⟩:=Jr h
  obtain ⟨y,hy,hk⟩:=Js hE
  exact ⟨0,_,_,_,hk,rfl,QI px (fx:=⟨Try.func97,by kernel_rfl,by kernel_rfl⟩) JU (JZ ih JV) (by kernel_rfl) ((q_Z23 ..).trans ((c_Z23_bind ..).trans (JB hy)))⟩
noncomputable def e_Z23:JP:=m_Z23 (Z23)
theorem e_Z23_ok:(e_Z23).ok Try.prog (JC (JA Try.f97) 10):=by
 intro R ds k r h
 unfold e_Z23 m_Z23 at h
 obtain ⟨_,_,rfl,h⟩:=Jg h
 obtain ⟨_,_,rfl,h⟩:=Jc h
 obtain ⟨_,_,rfl,h⟩:=Jc h
 obtain ⟨_,_,rfl,h⟩:=Jg h
 obtain ⟨_,_,rfl,h⟩:=Jc h
 obtain ⟨_,_,rfl,h⟩:=Jc h
 obtain ⟨_,_,rfl,h⟩:=Jg h
 obtain ⟨rfl,hE⟩:=Jr h
 obtain ⟨y,hy,hk⟩:=Js hE
 obtain ⟨n,hn⟩:=Q6 hy
 exact m_Z23_ok n R _ k r ((JB hn).trans hk)

/-!-/
abbrev T_Z24:=List D→Int→Int→List D→Option (List D)
def c_Z24 {R:Type} (F:T_Z24) (x0:List D) (x1 x2:Int) (x3:List D) (k:List D→Option R):Option R:=
 bif decide (x2<x1) then
 (Z23 x0 x1 x2 x0 (↑x0.length:Int) (0:Int) x3).bind (fun y0=>
 (F y0.fst y0.snd.fst (IntKind.i64.wrap (y0.snd.snd.fst+1)) y0.snd.snd.snd).bind k)
 else
 k x3
theorem c_Z24_bind {R:Type} (F:T_Z24) (x0:List D) (x1 x2:Int) (x3:List D) (k:List D→Option R):c_Z24 F x0 x1 x2 x3 k=(c_Z24 F x0 x1 x2 x3 some).bind k:=by
 unfold c_Z24
 repeat' first
  | exact J9
  | exact J8
  | exact J7
  | apply J4
  | apply J5
  | apply Qa
  | (apply J6;intro _)
  | intro _
def n_Z24:Nat→T_Z24
 | 0,_,_,_,_=>none
 | n+1,x0,x1,x2,x3=>c_Z24 (n_Z24 n) x0 x1 x2 x3 some
noncomputable def Z24 (x0:List D) (x1 x2:Int) (x3:List D):Option (List D):=ev (fun n=>n_Z24 n x0 x1 x2 x3)
def m_Z24 (F:T_Z24):JP:=⟨8,⟨(.undef::.rd (.struct [.int .i64,.int .i64])::.undef::.undef::.undef::.full 1000 [] (.int .i64)::uu 15 (.int .i64::.int .i64::uu 31 ([]))),[(1000,.own (.int .i64))]⟩,[(.exit 2,⟨(uu 5 (.full 1000 [] (.int .i64)::uu 48 ([]))),[(1000,.own (.int .i64))]⟩)],fun _ ds k=>dL (fun x0 ds=>dI (fun x1 ds=>dI (fun x2 ds=>dL (fun x3 ds=>dE ((F x0 x1 x2 x3).bind (fun y=>k 0 [.L y])) ds) ds) ds) ds) ds⟩
theorem q_Z24 (F:T_Z24) (x0:List D) (x1 x2:Int) (x3:List D):Q3 (JQ []) (JR [m_Z24 F,e_Z23]) A 97 (JC (JA Try.f97) 8) ((m_Z24 F).sh.mk' [.L x0,.I x1,.I x2,.L x3]) (fun e σ'=>some (e,σ'))=c_Z24 F x0 x1 x2 x3 (fun y=>some (.exit 2,SSt.mk' ⟨(uu 5 (.full 1000 [] (.int .i64)::uu 48 ([]))),[(1000,.own (.int .i64))]⟩ [.L y])):=by kernel_rfl
theorem m_Z24_ok:∀ n,(m_Z24 (n_Z24 n)).ok Try.prog (JC (JA Try.f97) 8):=by
 intro n
 induction n with
 | zero=>
  intro R ds k r h
  unfold m_Z24 at h
  obtain ⟨_,_,rfl,h⟩:=Jg h
  obtain ⟨_,_,rfl,h⟩:=Jc h
  obtain ⟨_,_,rfl,h⟩:=Jc h
  obtain ⟨_,_,rfl,h⟩:=Jg h
  obtain ⟨rfl,hE⟩:=Jr h
  obtain ⟨y,hy,hk⟩:=Js hE
  cases hy
 | succ n ih=>
  intro R ds k r h
  unfold m_Z24 at h
  obtain ⟨_,_,rfl,h⟩:=Jg h
  obtain ⟨_,_,rfl,h⟩:=Jc h
  obtain ⟨_,_,rfl,h⟩:=Jc h
  obtain ⟨_,_,rfl,h⟩:=Jg h
  obtain ⟨rfl,hE⟩:=Jr h
  obtain ⟨y,hy,hk⟩:=Js hE
  exact ⟨0,_,_,_,hk,rfl,QI px (fx:=⟨Try.func97,by kernel_rfl,by kernel_rfl⟩) JU (JZ ih (JZ e_Z23_ok JV)) (by kernel_rfl) ((q_Z24 ..).trans ((c_Z24_bind ..).trans (JB hy)))⟩
noncomputable def e_Z24:JP:=m_Z24 (Z24)
theorem e_Z24_ok:(e_Z24).ok Try.prog (JC (JA Try.f97) 8):=by
 intro R ds k r h
 unfold e_Z24 m_Z24 at h
 obtain ⟨_,_,rfl,h⟩:=Jg h
 obtain ⟨_,_,rfl,h⟩:=Jc h
 obtain ⟨_,_,rfl,h⟩:=Jc h
 obtain ⟨_,_,rfl,h⟩:=Jg h
 obtain ⟨rfl,hE⟩:=Jr h
 obtain ⟨y,hy,hk⟩:=Js hE
 obtain ⟨n,hn⟩:=Q6 hy
 exact m_Z24_ok n R _ k r ((JB hn).trans hk)

/-!-/
def c_Z25 {R:Type} (x0:Int) (x1:List D) (k:List D→Option R):Option R:=
 (Z22 x1 x0 (0:Int) []).bind (fun y0=>
 (Z24 y0.fst (↑y0.fst.length:Int) (0:Int) y0.snd).bind (fun y1=>
 k y1))
theorem c_Z25_bind {R:Type} (x0:Int) (x1:List D) (k:List D→Option R):c_Z25 x0 x1 k=(c_Z25 x0 x1 some).bind k:=by
 unfold c_Z25
 repeat' first
  | exact J9
  | exact J8
  | exact J7
  | apply J4
  | apply J5
  | apply Qa
  | (apply J6;intro _)
  | intro _
def Z25 (x0:Int) (x1:List D):Option (List D):=c_Z25 x0 x1 some
def e_Z25:Ent:=⟨97,[.int .i64,.rd (.struct [.int .i64,.int .i64])],[(.own (.int .i64),[.undef,.undef])],fun _ ds k=>dI (fun x0 ds=>dL (fun x1 ds=>dE ((Z25 x0 x1).bind (fun y=>k 0 [.L y])) ds) ds) ds⟩
theorem q_Z25 (x0:Int) (x1:List D):QH (JQ []) (JR [e_Z22,e_Z24]) A 97 Try.f97 (Sh.mks e_Z25.sh [.I x0,.L x1]).1 (fun v os=>some (v,os))=c_Z25 x0 x1 (fun y=>QW e_Z25 0 [.L y]):=by kernel_rfl
theorem e_Z25_ok:e_Z25.ok Try.prog A:=by
 intro R ds k r h
 unfold e_Z25 at h
 obtain ⟨_,_,rfl,h⟩:=Jc h
 obtain ⟨_,_,rfl,h⟩:=Jg h
 obtain ⟨rfl,hE⟩:=Jr h
 obtain ⟨y,hy,hk⟩:=Js hE
 exact ⟨0,_,_,_,hk,rfl,QX px (fx:=⟨Try.func97,by kernel_rfl,by kernel_rfl⟩) JU (JZ e_Z22_ok (JZ e_Z24_ok JV)) ((q_Z25 ..).trans ((c_Z25_bind ..).trans (JB hy)))⟩

/-!-/
abbrev T_Z26:=Int→Int→List D→List D→List D→Option (List D)
def c_Z26 {R:Type} (F:T_Z26) (x0 x1:Int) (x2 x3 x4:List D) (k:List D→Option R):Option R:=
 bif decide (x1<x0) then
 if 0≤x1∧x1<(↑x4.length:Int) then
 if x1.toNat+1≤x4.length then
 bif decide ((x4.getD x1.toNat (D.int 0)).toInt=x1) then
 if x2.length+[D.node []].length≤(4294967296:Nat) then
 if (0:Int)≤Qs (QY x3 x1 (↑x2.length:Int)) (x4.getD x1.toNat (D.int 0)).toInt∧Qs (QY x3 x1 (↑x2.length:Int)) (x4.getD x1.toNat (D.int 0)).toInt<(↑(x2++[D.node []]).length:Int) then
 if (Qs (QY x3 x1 (↑x2.length:Int)) (x4.getD x1.toNat (D.int 0)).toInt).toNat+1≤(x2++[D.node []]).length then
 if (Qs (QY x3 x1 (↑x2.length:Int)) (x4.getD x1.toNat (D.int 0)).toInt).toNat+1≤(x2++[D.node []]).length then
 if ((x2++[D.node []]).getD (Qs (QY x3 x1 (↑x2.length:Int)) (x4.getD x1.toNat (D.int 0)).toInt).toNat (D.int 0)).items.length+[D.int x1].length≤(4294967296:Nat) then
 if (0:Int)≤Qs (QY x3 x1 (↑x2.length:Int)) (x4.getD x1.toNat (D.int 0)).toInt∧Qs (QY x3 x1 (↑x2.length:Int)) (x4.getD x1.toNat (D.int 0)).toInt<(↑(x2++[D.node []]).length:Int) then
 if (Qs (QY x3 x1 (↑x2.length:Int)) (x4.getD x1.toNat (D.int 0)).toInt).toNat≤(Qs (QY x3 x1 (↑x2.length:Int)) (x4.getD x1.toNat (D.int 0)).toInt).toNat then
 if (Qs (QY x3 x1 (↑x2.length:Int)) (x4.getD x1.toNat (D.int 0)).toInt).toNat≤(Qs (QY x3 x1 (↑x2.length:Int)) (x4.getD x1.toNat (D.int 0)).toInt).toNat then
 (F x0 (IntKind.i64.wrap (x1+1)) ((x2++[D.node []]).set (Qs (QY x3 x1 (↑x2.length:Int)) (x4.getD x1.toNat (D.int 0)).toInt).toNat (D.node (((x2++[D.node []]).getD (Qs (QY x3 x1 (↑x2.length:Int)) (x4.getD x1.toNat (D.int 0)).toInt).toNat (D.int 0)).items++[D.int x1]))) (QY x3 x1 (↑x2.length:Int)) x4).bind k
 else
 none
 else
 none
 else
 none
 else
 none
 else
 none
 else
 none
 else
 none
 else
 none
 else
 if (0:Int)≤Qs x3 (x4.getD x1.toNat (D.int 0)).toInt∧Qs x3 (x4.getD x1.toNat (D.int 0)).toInt<(↑x2.length:Int) then
 if (Qs x3 (x4.getD x1.toNat (D.int 0)).toInt).toNat+1≤x2.length then
 if (Qs x3 (x4.getD x1.toNat (D.int 0)).toInt).toNat+1≤x2.length then
 if (x2.getD (Qs x3 (x4.getD x1.toNat (D.int 0)).toInt).toNat (D.int 0)).items.length+[D.int x1].length≤(4294967296:Nat) then
 if (0:Int)≤Qs x3 (x4.getD x1.toNat (D.int 0)).toInt∧Qs x3 (x4.getD x1.toNat (D.int 0)).toInt<(↑x2.length:Int) then
 if (Qs x3 (x4.getD x1.toNat (D.int 0)).toInt).toNat≤(Qs x3 (x4.getD x1.toNat (D.int 0)).toInt).toNat then
 if (Qs x3 (x4.getD x1.toNat (D.int 0)).toInt).toNat≤(Qs x3 (x4.getD x1.toNat (D.int 0)).toInt).toNat then
 (F x0 (IntKind.i64.wrap (x1+1)) (x2.set (Qs x3 (x4.getD x1.toNat (D.int 0)).toInt).toNat (D.node ((x2.getD (Qs x3 (x4.getD x1.toNat (D.int 0)).toInt).toNat (D.int 0)).items++[D.int x1]))) x3 x4).bind k
 else
 none
 else
 none
 else
 none
 else
 none
 else
 none
 else
 none
 else
 none
 else
 none
 else
 none
 else
 k x2
theorem c_Z26_bind {R:Type} (F:T_Z26) (x0 x1:Int) (x2 x3 x4:List D) (k:List D→Option R):c_Z26 F x0 x1 x2 x3 x4 k=(c_Z26 F x0 x1 x2 x3 x4 some).bind k:=by
 unfold c_Z26
 repeat' first
  | exact J9
  | exact J8
  | exact J7
  | apply J4
  | apply J5
  | apply Qa
  | (apply J6;intro _)
  | intro _
def n_Z26:Nat→T_Z26
 | 0,_,_,_,_,_=>none
 | n+1,x0,x1,x2,x3,x4=>c_Z26 (n_Z26 n) x0 x1 x2 x3 x4 some
noncomputable def Z26 (x0 x1:Int) (x2 x3 x4:List D):Option (List D):=ev (fun n=>n_Z26 n x0 x1 x2 x3 x4)
def m_Z26 (F:T_Z26):JP:=⟨4,⟨(uu 5 (.full 1000 [] (.slice (.int .i64))::.mref 1001::uu 6 (.full 1002 [] (.int .i64)::.int .i64::.int .i64::uu 30 ([])))),[(1000,.own (.slice (.int .i64))),(1001,.mp),(1002,.own (.int .i64))]⟩,[(.exit 0,⟨(uu 5 (.full 1000 [] (.slice (.int .i64))::uu 40 ([]))),[(1000,.own (.slice (.int .i64)))]⟩)],fun _ ds k=>dI (fun x0 ds=>dI (fun x1 ds=>dL (fun x2 ds=>dL (fun x3 ds=>dL (fun x4 ds=>dE ((F x0 x1 x2 x3 x4).bind (fun y=>k 0 [.L y])) ds) ds) ds) ds) ds) ds⟩
theorem q_Z26 (F:T_Z26) (x0 x1:Int) (x2 x3 x4:List D):Q3 (JQ []) (JR [m_Z26 F]) A 58 (JC (JA Try.f58) 4) ((m_Z26 F).sh.mk' [.I x0,.I x1,.L x2,.L x3,.L x4]) (fun e σ'=>some (e,σ'))=c_Z26 F x0 x1 x2 x3 x4 (fun y=>some (.exit 0,SSt.mk' ⟨(uu 5 (.full 1000 [] (.slice (.int .i64))::uu 40 ([]))),[(1000,.own (.slice (.int .i64)))]⟩ [.L y])):=by kernel_rfl
theorem m_Z26_ok:∀ n,(m_Z26 (n_Z26 n)).ok Try.prog (JC (JA Try.f58) 4):=by
 intro n
 induction n with
 | zero=>
  intro R ds k r h
  unfold m_Z26 at h
  obtain ⟨_,_,rfl,h⟩:=Jc h
  obtain ⟨_,_,rfl,h⟩:=Jc h
  obtain ⟨_,_,rfl,h⟩:=Jg h
  obtain ⟨_,_,rfl,h⟩:=Jg h
  obtain ⟨_,_,rfl,h⟩:=Jg h
  obtain ⟨rfl,hE⟩:=Jr h
  obtain ⟨y,hy,hk⟩:=Js hE
  cases hy
 | succ n ih=>
  intro R ds k r h
  unfold m_Z26 at h
  obtain ⟨_,_,rfl,h⟩:=Jc h
  obtain ⟨_,_,rfl,h⟩:=Jc h
  obtain ⟨_,_,rfl,h⟩:=Jg h
  obtain ⟨_,_,rfl,h⟩:=Jg h
  obtain ⟨_,_,rfl,h⟩:=Jg h
  obtain ⟨rfl,hE⟩:=Jr h
  obtain ⟨y,hy,hk⟩:=Js hE
  exact ⟨0,_,_,_,hk,rfl,QI px (fx:=⟨Try.func58,by kernel_rfl,by kernel_rfl⟩) JU (JZ ih JV) (by kernel_rfl) ((q_Z26 ..).trans ((c_Z26_bind ..).trans (JB hy)))⟩
noncomputable def e_Z26:JP:=m_Z26 (Z26)
theorem e_Z26_ok:(e_Z26).ok Try.prog (JC (JA Try.f58) 4):=by
 intro R ds k r h
 unfold e_Z26 m_Z26 at h
 obtain ⟨_,_,rfl,h⟩:=Jc h
 obtain ⟨_,_,rfl,h⟩:=Jc h
 obtain ⟨_,_,rfl,h⟩:=Jg h
 obtain ⟨_,_,rfl,h⟩:=Jg h
 obtain ⟨_,_,rfl,h⟩:=Jg h
 obtain ⟨rfl,hE⟩:=Jr h
 obtain ⟨y,hy,hk⟩:=Js hE
 obtain ⟨n,hn⟩:=Q6 hy
 exact m_Z26_ok n R _ k r ((JB hn).trans hk)

/-!-/
def c_Z27 {R:Type} (x0:Int) (x1:List D) (k:List D→Option R):Option R:=
 (Z25 x0 x1).bind (fun y0=>
 (Z26 (↑y0.length:Int) (0:Int) [] [] y0).bind (fun y1=>
 k y1))
theorem c_Z27_bind {R:Type} (x0:Int) (x1:List D) (k:List D→Option R):c_Z27 x0 x1 k=(c_Z27 x0 x1 some).bind k:=by
 unfold c_Z27
 repeat' first
  | exact J9
  | exact J8
  | exact J7
  | apply J4
  | apply J5
  | apply Qa
  | (apply J6;intro _)
  | intro _
def Z27 (x0:Int) (x1:List D):Option (List D):=c_Z27 x0 x1 some
def e_Z27:Ent:=⟨58,[.int .i64,.rd (.struct [.int .i64,.int .i64])],[(.own (.slice (.int .i64)),[.undef,.undef])],fun _ ds k=>dI (fun x0 ds=>dL (fun x1 ds=>dE ((Z27 x0 x1).bind (fun y=>k 0 [.L y])) ds) ds) ds⟩
theorem q_Z27 (x0:Int) (x1:List D):QH (JQ [e_Z25]) (JR [e_Z26]) A 58 Try.f58 (Sh.mks e_Z27.sh [.I x0,.L x1]).1 (fun v os=>some (v,os))=c_Z27 x0 x1 (fun y=>QW e_Z27 0 [.L y]):=by kernel_rfl
theorem e_Z27_ok:e_Z27.ok Try.prog A:=by
 intro R ds k r h
 unfold e_Z27 at h
 obtain ⟨_,_,rfl,h⟩:=Jc h
 obtain ⟨_,_,rfl,h⟩:=Jg h
 obtain ⟨rfl,hE⟩:=Jr h
 obtain ⟨y,hy,hk⟩:=Js hE
 exact ⟨0,_,_,_,hk,rfl,QX px (fx:=⟨Try.func58,by kernel_rfl,by kernel_rfl⟩) (Qo e_Z25_ok JU) (JZ e_Z26_ok JV) ((q_Z27 ..).trans ((c_Z27_bind ..).trans (JB hy)))⟩

/-!-/
def c_Z28 {R:Type} (x0 x1:List D) (k:List D×Bool→Option R):Option R:=
 (Z21 x0 x1).bind (fun y0=>
 bif !y0 then
 k ([],Bool.false)
 else
 (Z27 (↑x0.length:Int) x1).bind (fun y1=>
 k (y1,Bool.true)))
theorem c_Z28_bind {R:Type} (x0 x1:List D) (k:List D×Bool→Option R):c_Z28 x0 x1 k=(c_Z28 x0 x1 some).bind k:=by
 unfold c_Z28
 repeat' first
  | exact J9
  | exact J8
  | exact J7
  | apply J4
  | apply J5
  | apply Qa
  | (apply J6;intro _)
  | intro _
def Z28 (x0 x1:List D):Option (List D×Bool):=c_Z28 x0 x1 some
def e_Z28:Ent:=⟨21,[.rd (.struct [.int .i64,.int .i64,.int .i64,.int .i64]),.rd (.struct [.int .i64,.int .i64])],[(.tup [.own (.slice (.int .i64)),.bool],[.undef,.undef])],fun _ ds k=>dL (fun x0 ds=>dL (fun x1 ds=>dE ((Z28 x0 x1).bind (fun y=>k 0 [.L y.1,.B y.2])) ds) ds) ds⟩
theorem q_Z28 (x0 x1:List D):QH (JQ [e_Z21,e_Z27]) (JR []) A 21 Try.f21 (Sh.mks e_Z28.sh [.L x0,.L x1]).1 (fun v os=>some (v,os))=c_Z28 x0 x1 (fun y=>QW e_Z28 0 [.L y.1,.B y.2]):=by kernel_rfl
theorem e_Z28_ok:e_Z28.ok Try.prog A:=by
 intro R ds k r h
 unfold e_Z28 at h
 obtain ⟨_,_,rfl,h⟩:=Jg h
 obtain ⟨_,_,rfl,h⟩:=Jg h
 obtain ⟨rfl,hE⟩:=Jr h
 obtain ⟨y,hy,hk⟩:=Js hE
 exact ⟨0,_,_,_,hk,rfl,QX px (fx:=⟨Try.func21,by kernel_rfl,by kernel_rfl⟩) (Qo e_Z21_ok (Qo e_Z27_ok JU)) JV ((q_Z28 ..).trans ((c_Z28_bind ..).trans (JB hy)))⟩

/-!-/
abbrev T_Z29:=List D→Int→Int→Nat→Int→Int→Int→Int→List D→List D→Option (List D×Int×Nat×Int×Int×List D×List D)
def c_Z29 {R:Type} (F:T_Z29) (x0:List D) (x1 x2:Int) (x3:Nat) (x4 x5 x6 x7:Int) (x8 x9:List D) (k:List D×Int×Nat×Int×Int×List D×List D→Option R):Option R:=
 bif decide (x7<x6) then
 if 0≤x2∧x2<(↑x0.length:Int) then
 if (3600:Int)≠(0:Int) then
 if (0:Int)≤(IntKind.i64.wrap (((x0.getD x2.toNat (D.int 0)).fld (2:Nat)).toInt+x7)).tmod (3600:Int)∧(IntKind.i64.wrap (((x0.getD x2.toNat (D.int 0)).fld (2:Nat)).toInt+x7)).tmod (3600:Int)<(↑(3600:Nat):Int) then
 if ((IntKind.i64.wrap (((x0.getD x2.toNat (D.int 0)).fld (2:Nat)).toInt+x7)).tmod (3600:Int)).toNat+1≤x8.length then
 bif !(x8.getD ((IntKind.i64.wrap (((x0.getD x2.toNat (D.int 0)).fld (2:Nat)).toInt+x7)).tmod (3600:Int)).toNat (D.int 0)).toBool then
 if (0:Int)≤(IntKind.i64.wrap (((x0.getD x2.toNat (D.int 0)).fld (2:Nat)).toInt+x7)).tmod (3600:Int)∧(IntKind.i64.wrap (((x0.getD x2.toNat (D.int 0)).fld (2:Nat)).toInt+x7)).tmod (3600:Int)<(↑(3600:Nat):Int) then
 if ((IntKind.i64.wrap (((x0.getD x2.toNat (D.int 0)).fld (2:Nat)).toInt+x7)).tmod (3600:Int)).toNat+1≤x8.length then
 (F x0 (IntKind.i64.wrap (x1+1)) x2 x3 x4 x5 x6 (IntKind.i64.wrap (x7+1)) (x8.set ((IntKind.i64.wrap (((x0.getD x2.toNat (D.int 0)).fld (2:Nat)).toInt+x7)).tmod (3600:Int)).toNat (D.bool Bool.true)) x9).bind k
 else
 none
 else
 none
 else
 (F x0 x1 x2 x3 x4 x5 x6 (IntKind.i64.wrap (x7+1)) x8 x9).bind k
 else
 none
 else
 none
 else
 none
 else
 none
 else
 k (x0,x1,x3,x4,x5,x8,x9)
theorem c_Z29_bind {R:Type} (F:T_Z29) (x0:List D) (x1 x2:Int) (x3:Nat) (x4 x5 x6 x7:Int) (x8 x9:List D) (k:List D×Int×Nat×Int×Int×List D×List D→Option R):c_Z29 F x0 x1 x2 x3 x4 x5 x6 x7 x8 x9 k=(c_Z29 F x0 x1 x2 x3 x4 x5 x6 x7 x8 x9 some).bind k:=by
 unfold c_Z29
 repeat' first
  | exact J9
  | exact J8
  | exact J7
  | apply J4
  | apply J5
  | apply Qa
  | (apply J6;intro _)
  | intro _
def n_Z29:Nat→T_Z29
 | 0,_,_,_,_,_,_,_,_,_,_=>none
 | n+1,x0,x1,x2,x3,x4,x5,x6,x7,x8,x9=>c_Z29 (n_Z29 n) x0 x1 x2 x3 x4 x5 x6 x7 x8 x9 some
noncomputable def Z29 (x0:List D) (x1 x2:Int) (x3:Nat) (x4 x5 x6 x7:Int) (x8 x9:List D):Option (List D×Int×Nat×Int×Int×List D×List D):=ev (fun n=>n_Z29 n x0 x1 x2 x3 x4 x5 x6 x7 x8 x9)
def m_Z29 (F:T_Z29):JP:=⟨10,⟨(.rd (.struct [.int .i64,.int .i64,.int .i64,.int .i64])::uu 9 (.ptr 1000 [0]::.int .i64::.undef::.int .i64::uu 22 (.full 1001 [1000000] (.int .i64)::.int .i64::.int .i64::uu 7 (.int .i64::.int .i64::uu 21 ([]))))),[(1000,.obox (.arr 3600 (.bool))),(1001,.own (.slice (.int .i64)))]⟩,[(.exit 2,⟨(.rd (.struct [.int .i64,.int .i64,.int .i64,.int .i64])::uu 9 (.ptr 1000 [0]::.int .i64::uu 24 (.full 1001 [1000000] (.int .i64)::.int .i64::.int .i64::uu 30 ([])))),[(1000,.obox (.arr 3600 (.bool))),(1001,.own (.slice (.int .i64)))]⟩)],fun _ ds k=>dL (fun x0 ds=>dI (fun x1 ds=>dI (fun x2 ds=>dN (fun x3 ds=>dI (fun x4 ds=>dI (fun x5 ds=>dI (fun x6 ds=>dI (fun x7 ds=>dL (fun x8 ds=>dL (fun x9 ds=>dE ((F x0 x1 x2 x3 x4 x5 x6 x7 x8 x9).bind (fun y=>k 0 [.L y.1,.I y.2.1,.N y.2.2.1,.I y.2.2.2.1,.I y.2.2.2.2.1,.L y.2.2.2.2.2.1,.L y.2.2.2.2.2.2])) ds) ds) ds) ds) ds) ds) ds) ds) ds) ds) ds⟩
theorem q_Z29 (F:T_Z29) (x0:List D) (x1 x2:Int) (x3:Nat) (x4 x5 x6 x7:Int) (x8 x9:List D):Q3 (JQ []) (JR [m_Z29 F]) A 18 (JC (JA Try.f18) 10) ((m_Z29 F).sh.mk' [.L x0,.I x1,.I x2,.N x3,.I x4,.I x5,.I x6,.I x7,.L x8,.L x9]) (fun e σ'=>some (e,σ'))=c_Z29 F x0 x1 x2 x3 x4 x5 x6 x7 x8 x9 (fun y=>some (.exit 2,SSt.mk' ⟨(.rd (.struct [.int .i64,.int .i64,.int .i64,.int .i64])::uu 9 (.ptr 1000 [0]::.int .i64::uu 24 (.full 1001 [1000000] (.int .i64)::.int .i64::.int .i64::uu 30 ([])))),[(1000,.obox (.arr 3600 (.bool))),(1001,.own (.slice (.int .i64)))]⟩ [.L y.1,.I y.2.1,.N y.2.2.1,.I y.2.2.2.1,.I y.2.2.2.2.1,.L y.2.2.2.2.2.1,.L y.2.2.2.2.2.2])):=by kernel_rfl
theorem m_Z29_ok:∀ n,(m_Z29 (n_Z29 n)).ok Try.prog (JC (JA Try.f18) 10):=by
 intro n
 induction n with
 | zero=>
  intro R ds k r h
  unfold m_Z29 at h
  obtain ⟨_,_,rfl,h⟩:=Jg h
  obtain ⟨_,_,rfl,h⟩:=Jc h
  obtain ⟨_,_,rfl,h⟩:=Jc h
  obtain ⟨_,_,rfl,h⟩:=VX h
  obtain ⟨_,_,rfl,h⟩:=Jc h
  obtain ⟨_,_,rfl,h⟩:=Jc h
  obtain ⟨_,_,rfl,h⟩:=Jc h
  obtain ⟨_,_,rfl,h⟩:=Jc h
  obtain ⟨_,_,rfl,h⟩:=Jg h
  obtain ⟨_,_,rfl,h⟩:=Jg h
  obtain ⟨rfl,hE⟩:=Jr h
  obtain ⟨y,hy,hk⟩:=Js hE
  cases hy
 | succ n ih=>
  intro R ds k r h
  unfold m_Z29 at h
  obtain ⟨_,_,rfl,h⟩:=Jg h
  obtain ⟨_,_,rfl,h⟩:=Jc h
  obtain ⟨_,_,rfl,h⟩:=Jc h
  obtain ⟨_,_,rfl,h⟩:=VX h
  obtain ⟨_,_,rfl,h⟩:=Jc h
  obtain ⟨_,_,rfl,h⟩:=Jc h
  obtain ⟨_,_,rfl,h⟩:=Jc h
  obtain ⟨_,_,rfl,h⟩:=Jc h
  obtain ⟨_,_,rfl,h⟩:=Jg h
  obtain ⟨_,_,rfl,h⟩:=Jg h
  obtain ⟨rfl,hE⟩:=Jr h
  obtain ⟨y,hy,hk⟩:=Js hE
  exact ⟨0,_,_,_,hk,rfl,QI px (fx:=⟨Try.func18,by kernel_rfl,by kernel_rfl⟩) JU (JZ ih JV) (by kernel_rfl) ((q_Z29 ..).trans ((c_Z29_bind ..).trans (JB hy)))⟩
noncomputable def e_Z29:JP:=m_Z29 (Z29)
theorem e_Z29_ok:(e_Z29).ok Try.prog (JC (JA Try.f18) 10):=by
 intro R ds k r h
 unfold e_Z29 m_Z29 at h
 obtain ⟨_,_,rfl,h⟩:=Jg h
 obtain ⟨_,_,rfl,h⟩:=Jc h
 obtain ⟨_,_,rfl,h⟩:=Jc h
 obtain ⟨_,_,rfl,h⟩:=VX h
 obtain ⟨_,_,rfl,h⟩:=Jc h
 obtain ⟨_,_,rfl,h⟩:=Jc h
 obtain ⟨_,_,rfl,h⟩:=Jc h
 obtain ⟨_,_,rfl,h⟩:=Jc h
 obtain ⟨_,_,rfl,h⟩:=Jg h
 obtain ⟨_,_,rfl,h⟩:=Jg h
 obtain ⟨rfl,hE⟩:=Jr h
 obtain ⟨y,hy,hk⟩:=Js hE
 obtain ⟨n,hn⟩:=Q6 hy
 exact m_Z29_ok n R _ k r ((JB hn).trans hk)

/-!-/
abbrev T_Z30:=List D→Int→Nat→Int→Int→List D→List D→Option (Int)
def c_Z30 {R:Type} (F:T_Z30) (x0:List D) (x1:Int) (x2:Nat) (x3 x4:Int) (x5 x6:List D) (k:Int→Option R):Option R:=
 bif decide (x4<x3) then
 if x2+(1:Nat)≤x6.length then
 if 0≤x4∧x4<(↑(x6.getD x2 (D.int 0)).items.length:Int) then
 if x2+(1:Nat)≤x6.length then
 if x4.toNat+1≤(x6.getD x2 (D.int 0)).items.length then
 if (0:Int)≤((x6.getD x2 (D.int 0)).items.getD x4.toNat (D.int 0)).toInt∧((x6.getD x2 (D.int 0)).items.getD x4.toNat (D.int 0)).toInt<(↑x0.length:Int) then
 (Z29 x0 x1 (((x6.getD x2 (D.int 0)).items.getD x4.toNat (D.int 0)).toInt) x2 x3 x4 (((x0.getD ((x6.getD x2 (D.int 0)).items.getD x4.toNat (D.int 0)).toInt.toNat (D.int 0)).fld (3:Nat)).toInt) (0:Int) x5 x6).bind (fun y0=>
 (F y0.fst y0.snd.fst y0.snd.snd.fst y0.snd.snd.snd.fst (IntKind.i64.wrap (y0.snd.snd.snd.snd.fst+1)) y0.snd.snd.snd.snd.snd.fst y0.snd.snd.snd.snd.snd.snd).bind k)
 else
 none
 else
 none
 else
 none
 else
 none
 else
 none
 else
 k x1
theorem c_Z30_bind {R:Type} (F:T_Z30) (x0:List D) (x1:Int) (x2:Nat) (x3 x4:Int) (x5 x6:List D) (k:Int→Option R):c_Z30 F x0 x1 x2 x3 x4 x5 x6 k=(c_Z30 F x0 x1 x2 x3 x4 x5 x6 some).bind k:=by
 unfold c_Z30
 repeat' first
  | exact J9
  | exact J8
  | exact J7
  | apply J4
  | apply J5
  | apply Qa
  | (apply J6;intro _)
  | intro _
def n_Z30:Nat→T_Z30
 | 0,_,_,_,_,_,_,_=>none
 | n+1,x0,x1,x2,x3,x4,x5,x6=>c_Z30 (n_Z30 n) x0 x1 x2 x3 x4 x5 x6 some
noncomputable def Z30 (x0:List D) (x1:Int) (x2:Nat) (x3 x4:Int) (x5 x6:List D):Option (Int):=ev (fun n=>n_Z30 n x0 x1 x2 x3 x4 x5 x6)
def m_Z30 (F:T_Z30):JP:=⟨7,⟨(.rd (.struct [.int .i64,.int .i64,.int .i64,.int .i64])::uu 9 (.ptr 1000 [0]::.int .i64::uu 24 (.full 1001 [1000000] (.int .i64)::.int .i64::.int .i64::uu 30 ([])))),[(1000,.obox (.arr 3600 (.bool))),(1001,.own (.slice (.int .i64)))]⟩,[(.exit 0,⟨(uu 11 (.int .i64::uu 57 ([]))),[]⟩)],fun _ ds k=>dL (fun x0 ds=>dI (fun x1 ds=>dN (fun x2 ds=>dI (fun x3 ds=>dI (fun x4 ds=>dL (fun x5 ds=>dL (fun x6 ds=>dE ((F x0 x1 x2 x3 x4 x5 x6).bind (fun y=>k 0 [.I y])) ds) ds) ds) ds) ds) ds) ds) ds⟩
theorem q_Z30 (F:T_Z30) (x0:List D) (x1:Int) (x2:Nat) (x3 x4:Int) (x5 x6:List D):Q3 (JQ []) (JR [m_Z30 F,e_Z29]) A 18 (JC (JA Try.f18) 7) ((m_Z30 F).sh.mk' [.L x0,.I x1,.N x2,.I x3,.I x4,.L x5,.L x6]) (fun e σ'=>some (e,σ'))=c_Z30 F x0 x1 x2 x3 x4 x5 x6 (fun y=>some (.exit 0,SSt.mk' ⟨(uu 11 (.int .i64::uu 57 ([]))),[]⟩ [.I y])):=by kernel_rfl
theorem m_Z30_ok:∀ n,(m_Z30 (n_Z30 n)).ok Try.prog (JC (JA Try.f18) 7):=by
 intro n
 induction n with
 | zero=>
  intro R ds k r h
  unfold m_Z30 at h
  obtain ⟨_,_,rfl,h⟩:=Jg h
  obtain ⟨_,_,rfl,h⟩:=Jc h
  obtain ⟨_,_,rfl,h⟩:=VX h
  obtain ⟨_,_,rfl,h⟩:=Jc h
  obtain ⟨_,_,rfl,h⟩:=Jc h
  obtain ⟨_,_,rfl,h⟩:=Jg h
  obtain ⟨_,_,rfl,h⟩:=Jg h
  obtain ⟨rfl,hE⟩:=Jr h
  obtain ⟨y,hy,hk⟩:=Js hE
  cases hy
 | succ n ih=>
  intro R ds k r h
  unfold m_Z30 at h
  obtain ⟨_,_,rfl,h⟩:=Jg h
  obtain ⟨_,_,rfl,h⟩:=Jc h
  obtain ⟨_,_,rfl,h⟩:=VX h
  obtain ⟨_,_,rfl,h⟩:=Jc h
  obtain ⟨_,_,rfl,h⟩:=Jc h
  obtain ⟨_,_,rfl,h⟩:=Jg h
  obtain ⟨_,_,rfl,h⟩:=Jg h
  obtain ⟨rfl,hE⟩:=Jr h
  obtain ⟨y,hy,hk⟩:=Js hE
  exact ⟨0,_,_,_,hk,rfl,QI px (fx:=⟨Try.func18,by kernel_rfl,by kernel_rfl⟩) JU (JZ ih (JZ e_Z29_ok JV)) (by kernel_rfl) ((q_Z30 ..).trans ((c_Z30_bind ..).trans (JB hy)))⟩
noncomputable def e_Z30:JP:=m_Z30 (Z30)
theorem e_Z30_ok:(e_Z30).ok Try.prog (JC (JA Try.f18) 7):=by
 intro R ds k r h
 unfold e_Z30 m_Z30 at h
 obtain ⟨_,_,rfl,h⟩:=Jg h
 obtain ⟨_,_,rfl,h⟩:=Jc h
 obtain ⟨_,_,rfl,h⟩:=VX h
 obtain ⟨_,_,rfl,h⟩:=Jc h
 obtain ⟨_,_,rfl,h⟩:=Jc h
 obtain ⟨_,_,rfl,h⟩:=Jg h
 obtain ⟨_,_,rfl,h⟩:=Jg h
 obtain ⟨rfl,hE⟩:=Jr h
 obtain ⟨y,hy,hk⟩:=Js hE
 obtain ⟨n,hn⟩:=Q6 hy
 exact m_Z30_ok n R _ k r ((JB hn).trans hk)

/-!-/
def c_Z31 {R:Type} (x0 x1:List D) (x2:Int) (k:Int×Bool→Option R):Option R:=
 (Z28 x0 x1).bind (fun y0=>
 bif !y0.snd then
 k ((0:Int),Bool.false)
 else
 (Z13 x2 (0:Int) (IntKind.i64.wrap ((↑y0.fst.length:Int) - (1:Int)))).bind (fun y1=>
 bif !y1 then
 k ((0:Int),Bool.false)
 else
 if 0≤x2∧x2<(↑y0.fst.length:Int) then
 if x2.toNat+1≤y0.fst.length then
 if x2.toNat+1≤y0.fst.length then
 (Z30 x0 (0:Int) x2.toNat (↑(y0.fst.getD x2.toNat (D.int 0)).items.length:Int) (0:Int) (List.replicate (3600:Nat) (D.bool Bool.false)) y0.fst).bind (fun y2=>
 k (y2,Bool.true))
 else
 none
 else
 none
 else
 none))
theorem c_Z31_bind {R:Type} (x0 x1:List D) (x2:Int) (k:Int×Bool→Option R):c_Z31 x0 x1 x2 k=(c_Z31 x0 x1 x2 some).bind k:=by
 unfold c_Z31
 repeat' first
  | exact J9
  | exact J8
  | exact J7
  | apply J4
  | apply J5
  | apply Qa
  | (apply J6;intro _)
  | intro _
def Z31 (x0 x1:List D) (x2:Int):Option (Int×Bool):=c_Z31 x0 x1 x2 some
def e_Z31:Ent:=⟨18,[.rd (.struct [.int .i64,.int .i64,.int .i64,.int .i64]),.rd (.struct [.int .i64,.int .i64]),.int .i64],[(.tup [.int .i64,.bool],[.undef,.undef,.undef])],fun _ ds k=>dL (fun x0 ds=>dL (fun x1 ds=>dI (fun x2 ds=>dE ((Z31 x0 x1 x2).bind (fun y=>k 0 [.I y.1,.B y.2])) ds) ds) ds) ds⟩
theorem q_Z31 (x0 x1:List D) (x2:Int):QH (JQ [e_Z28,e_Z13]) (JR [e_Z30]) A 18 Try.f18 (Sh.mks e_Z31.sh [.L x0,.L x1,.I x2]).1 (fun v os=>some (v,os))=c_Z31 x0 x1 x2 (fun y=>QW e_Z31 0 [.I y.1,.B y.2]):=by kernel_rfl
theorem e_Z31_ok:e_Z31.ok Try.prog A:=by
 intro R ds k r h
 unfold e_Z31 at h
 obtain ⟨_,_,rfl,h⟩:=Jg h
 obtain ⟨_,_,rfl,h⟩:=Jg h
 obtain ⟨_,_,rfl,h⟩:=Jc h
 obtain ⟨rfl,hE⟩:=Jr h
 obtain ⟨y,hy,hk⟩:=Js hE
 exact ⟨0,_,_,_,hk,rfl,QX px (fx:=⟨Try.func18,by kernel_rfl,by kernel_rfl⟩) (Qo e_Z28_ok (Qo e_Z13_ok JU)) (JZ e_Z30_ok JV) ((q_Z31 ..).trans ((c_Z31_bind ..).trans (JB hy)))⟩

/-!-/
def c_Z32 {R:Type} (x0 x1 x2:Int) (k:Bool→Option R):Option R:=
 bif decide (x1≤x0) then
 k (decide (x0≤x2))
 else
 k Bool.false
theorem c_Z32_bind {R:Type} (x0 x1 x2:Int) (k:Bool→Option R):c_Z32 x0 x1 x2 k=(c_Z32 x0 x1 x2 some).bind k:=by
 unfold c_Z32
 repeat' first
  | exact J9
  | exact J8
  | exact J7
  | apply J4
  | apply J5
  | apply Qa
  | (apply J6;intro _)
  | intro _
def Z32 (x0 x1 x2:Int):Option (Bool):=c_Z32 x0 x1 x2 some
def e_Z32:Ent:=⟨54,[.int .i64,.int .i64,.int .i64],[(.bool,[.undef,.undef,.undef])],fun _ ds k=>dI (fun x0 ds=>dI (fun x1 ds=>dI (fun x2 ds=>dE ((Z32 x0 x1 x2).bind (fun y=>k 0 [.B y])) ds) ds) ds) ds⟩
theorem q_Z32 (x0 x1 x2:Int):QH (JQ []) (JR []) A 54 Try.f54 (Sh.mks e_Z32.sh [.I x0,.I x1,.I x2]).1 (fun v os=>some (v,os))=c_Z32 x0 x1 x2 (fun y=>QW e_Z32 0 [.B y]):=by kernel_rfl
theorem e_Z32_ok:e_Z32.ok Try.prog A:=by
 intro R ds k r h
 unfold e_Z32 at h
 obtain ⟨_,_,rfl,h⟩:=Jc h
 obtain ⟨_,_,rfl,h⟩:=Jc h
 obtain ⟨_,_,rfl,h⟩:=Jc h
 obtain ⟨rfl,hE⟩:=Jr h
 obtain ⟨y,hy,hk⟩:=Js hE
 exact ⟨0,_,_,_,hk,rfl,QX px (fx:=⟨Try.func54,by kernel_rfl,by kernel_rfl⟩) JU JV ((q_Z32 ..).trans ((c_Z32_bind ..).trans (JB hy)))⟩

/-!-/
abbrev T_Z33:=List D→List D→Int→Option ((List D×List D×Bool)⊕(List D×List D))
def c_Z33 {R:Type} (F:T_Z33) (x0 x1:List D) (x2:Int) (k:(List D×List D×Bool)⊕(List D×List D)→Option R):Option R:=
 bif decide (x2<(↑x0.length:Int)) then
 if 0≤x2∧x2<(↑x0.length:Int) then
 (Z32 (((x0.getD x2.toNat (D.int 0)).fld (0:Nat)).toInt) (1:Int) (999:Int)).bind (fun y0=>
 bif !y0 then
 k (.inl (x0,x1,Bool.false))
 else
 (Z32 (((x0.getD x2.toNat (D.int 0)).fld (1:Nat)).toInt) (0:Int) (9:Int)).bind (fun y1=>
 bif !y1 then
 k (.inl (x0,x1,Bool.false))
 else
 (Z32 (((x0.getD x2.toNat (D.int 0)).fld (2:Nat)).toInt) (0:Int) (3599:Int)).bind (fun y2=>
 bif !y2 then
 k (.inl (x0,x1,Bool.false))
 else
 (Z32 (((x0.getD x2.toNat (D.int 0)).fld (3:Nat)).toInt) (1:Int) (3600:Int)).bind (fun y3=>
 bif !y3 then
 k (.inl (x0,x1,Bool.false))
 else
 (F x0 x1 (IntKind.i64.wrap (x2+1))).bind k))))
 else
 none
 else
 k (.inr (x0,x1))
theorem c_Z33_bind {R:Type} (F:T_Z33) (x0 x1:List D) (x2:Int) (k:(List D×List D×Bool)⊕(List D×List D)→Option R):c_Z33 F x0 x1 x2 k=(c_Z33 F x0 x1 x2 some).bind k:=by
 unfold c_Z33
 repeat' first
  | exact J9
  | exact J8
  | exact J7
  | apply J4
  | apply J5
  | apply Qa
  | (apply J6;intro _)
  | intro _
def n_Z33:Nat→T_Z33
 | 0,_,_,_=>none
 | n+1,x0,x1,x2=>c_Z33 (n_Z33 n) x0 x1 x2 some
noncomputable def Z33 (x0 x1:List D) (x2:Int):Option ((List D×List D×Bool)⊕(List D×List D)):=ev (fun n=>n_Z33 n x0 x1 x2)
def m_Z33 (F:T_Z33):JP:=⟨4,⟨(.rd (.struct [.int .i64,.int .i64,.int .i64,.int .i64])::.rd (.struct [.int .i64,.int .i64])::.undef::.undef::.undef::.int .i64::uu 104 ([])),[]⟩,[(.ret,⟨(.rd (.struct [.int .i64,.int .i64,.int .i64,.int .i64])::.rd (.struct [.int .i64,.int .i64])::.undef::.undef::.bool::uu 105 ([])),[]⟩),(.exit 0,⟨(.rd (.struct [.int .i64,.int .i64,.int .i64,.int .i64])::.rd (.struct [.int .i64,.int .i64])::uu 108 ([])),[]⟩)],fun _ ds k=>dL (fun x0 ds=>dL (fun x1 ds=>dI (fun x2 ds=>dE ((F x0 x1 x2).bind (Sum.elim (fun y=>k 0 [.L y.1,.L y.2.1,.B y.2.2]) (fun y=>k 1 [.L y.1,.L y.2]))) ds) ds) ds) ds⟩
theorem q_Z33 (F:T_Z33) (x0 x1:List D) (x2:Int):Q3 (JQ [e_Z32]) (JR [m_Z33 F]) A 47 (JC (JA Try.f47) 4) ((m_Z33 F).sh.mk' [.L x0,.L x1,.I x2]) (fun e σ'=>some (e,σ'))=c_Z33 F x0 x1 x2 (Sum.elim (fun y=>some (.ret,SSt.mk' ⟨(.rd (.struct [.int .i64,.int .i64,.int .i64,.int .i64])::.rd (.struct [.int .i64,.int .i64])::.undef::.undef::.bool::uu 105 ([])),[]⟩ [.L y.1,.L y.2.1,.B y.2.2])) (fun y=>some (.exit 0,SSt.mk' ⟨(.rd (.struct [.int .i64,.int .i64,.int .i64,.int .i64])::.rd (.struct [.int .i64,.int .i64])::uu 108 ([])),[]⟩ [.L y.1,.L y.2]))):=by kernel_rfl
theorem m_Z33_ok:∀ n,(m_Z33 (n_Z33 n)).ok Try.prog (JC (JA Try.f47) 4):=by
 intro n
 induction n with
 | zero=>
  intro R ds k r h
  unfold m_Z33 at h
  obtain ⟨_,_,rfl,h⟩:=Jg h
  obtain ⟨_,_,rfl,h⟩:=Jg h
  obtain ⟨_,_,rfl,h⟩:=Jc h
  obtain ⟨rfl,hE⟩:=Jr h
  obtain ⟨y,hy,hk⟩:=Js hE
  cases hy
 | succ n ih=>
  intro R ds k r h
  unfold m_Z33 at h
  obtain ⟨_,_,rfl,h⟩:=Jg h
  obtain ⟨_,_,rfl,h⟩:=Jg h
  obtain ⟨_,_,rfl,h⟩:=Jc h
  obtain ⟨rfl,hE⟩:=Jr h
  obtain ⟨y,hy,hk⟩:=Js hE
  cases y with
  | inl y=>
   exact ⟨0,_,_,_,hk,rfl,QI px (fx:=⟨Try.func47,by kernel_rfl,by kernel_rfl⟩) (Qo e_Z32_ok JU) (JZ ih JV) (by kernel_rfl) ((q_Z33 ..).trans ((c_Z33_bind ..).trans (JB hy)))⟩
  | inr y=>
   exact ⟨1,_,_,_,hk,rfl,QI px (fx:=⟨Try.func47,by kernel_rfl,by kernel_rfl⟩) (Qo e_Z32_ok JU) (JZ ih JV) (by kernel_rfl) ((q_Z33 ..).trans ((c_Z33_bind ..).trans (JB hy)))⟩
noncomputable def e_Z33:JP:=m_Z33 (Z33)
theorem e_Z33_ok:(e_Z33).ok Try.prog (JC (JA Try.f47) 4):=by
 intro R ds k r h
 unfold e_Z33 m_Z33 at h
 obtain ⟨_,_,rfl,h⟩:=Jg h
 obtain ⟨_,_,rfl,h⟩:=Jg h
 obtain ⟨_,_,rfl,h⟩:=Jc h
 obtain ⟨rfl,hE⟩:=Jr h
 obtain ⟨y,hy,hk⟩:=Js hE
 obtain ⟨n,hn⟩:=Q6 hy
 exact m_Z33_ok n R _ k r ((JB hn).trans hk)

/-!-/
abbrev T_Z34:=List D→List D→Int→Option ((Bool)⊕(Unit))
def c_Z34 {R:Type} (F:T_Z34) (x0 x1:List D) (x2:Int) (k:(Bool)⊕(Unit)→Option R):Option R:=
 bif decide (x2<(↑x1.length:Int)) then
 if 0≤x2∧x2<(↑x1.length:Int) then
 (Z32 (((x1.getD x2.toNat (D.int 0)).fld (1:Nat)).toInt) (1:Int) (IntKind.i64.wrap ((↑x0.length:Int) - (1:Int)))).bind (fun y0=>
 bif !y0 then
 k (.inl Bool.false)
 else
 (Z32 (((x1.getD x2.toNat (D.int 0)).fld (0:Nat)).toInt) (0:Int) (IntKind.i64.wrap (((x1.getD x2.toNat (D.int 0)).fld (1:Nat)).toInt - (1:Int)))).bind (fun y1=>
 bif !y1 then
 k (.inl Bool.false)
 else
 bif decide ((0:Int)<x2) then
 if (0:Int)≤IntKind.i64.wrap (x2 - 1)∧IntKind.i64.wrap (x2 - 1)<(↑x1.length:Int) then
 bif decide (((x1.getD x2.toNat (D.int 0)).fld (0:Nat)).toInt<((x1.getD (IntKind.i64.wrap (x2 - 1)).toNat (D.int 0)).fld (0:Nat)).toInt) then
 k (.inl Bool.false)
 else
 if (0:Int)≤IntKind.i64.wrap (x2 - 1)∧IntKind.i64.wrap (x2 - 1)<(↑x1.length:Int) then
 bif decide (((x1.getD (IntKind.i64.wrap (x2 - 1)).toNat (D.int 0)).fld (0:Nat)).toInt=((x1.getD x2.toNat (D.int 0)).fld (0:Nat)).toInt) then
 if (0:Int)≤IntKind.i64.wrap (x2 - 1)∧IntKind.i64.wrap (x2 - 1)<(↑x1.length:Int) then
 bif decide (((x1.getD x2.toNat (D.int 0)).fld (1:Nat)).toInt≤((x1.getD (IntKind.i64.wrap (x2 - 1)).toNat (D.int 0)).fld (1:Nat)).toInt) then
 k (.inl Bool.false)
 else
 (F x0 x1 (IntKind.i64.wrap (x2+1))).bind k
 else
 none
 else
 (F x0 x1 (IntKind.i64.wrap (x2+1))).bind k
 else
 none
 else
 none
 else
 (F x0 x1 (IntKind.i64.wrap (x2+1))).bind k))
 else
 none
 else
 k (.inr ())
theorem c_Z34_bind {R:Type} (F:T_Z34) (x0 x1:List D) (x2:Int) (k:(Bool)⊕(Unit)→Option R):c_Z34 F x0 x1 x2 k=(c_Z34 F x0 x1 x2 some).bind k:=by
 unfold c_Z34
 repeat' first
  | exact J9
  | exact J8
  | exact J7
  | apply J4
  | apply J5
  | apply Qa
  | (apply J6;intro _)
  | intro _
def n_Z34:Nat→T_Z34
 | 0,_,_,_=>none
 | n+1,x0,x1,x2=>c_Z34 (n_Z34 n) x0 x1 x2 some
noncomputable def Z34 (x0 x1:List D) (x2:Int):Option ((Bool)⊕(Unit)):=ev (fun n=>n_Z34 n x0 x1 x2)
def m_Z34 (F:T_Z34):JP:=⟨10,⟨(.rd (.struct [.int .i64,.int .i64,.int .i64,.int .i64])::.rd (.struct [.int .i64,.int .i64])::uu 5 (.int .i64::uu 102 ([]))),[]⟩,[(.ret,⟨(uu 4 (.bool::uu 105 ([]))),[]⟩),(.exit 2,⟨(uu 110 ([])),[]⟩)],fun _ ds k=>dL (fun x0 ds=>dL (fun x1 ds=>dI (fun x2 ds=>dE ((F x0 x1 x2).bind (Sum.elim (fun y=>k 0 [.B y]) (fun y=>k 1 []))) ds) ds) ds) ds⟩
theorem q_Z34 (F:T_Z34) (x0 x1:List D) (x2:Int):Q3 (JQ [e_Z32]) (JR [m_Z34 F]) A 47 (JC (JA Try.f47) 10) ((m_Z34 F).sh.mk' [.L x0,.L x1,.I x2]) (fun e σ'=>some (e,σ'))=c_Z34 F x0 x1 x2 (Sum.elim (fun y=>some (.ret,SSt.mk' ⟨(uu 4 (.bool::uu 105 ([]))),[]⟩ [.B y])) (fun y=>some (.exit 2,SSt.mk' ⟨(uu 110 ([])),[]⟩ []))):=by kernel_rfl
theorem m_Z34_ok:∀ n,(m_Z34 (n_Z34 n)).ok Try.prog (JC (JA Try.f47) 10):=by
 intro n
 induction n with
 | zero=>
  intro R ds k r h
  unfold m_Z34 at h
  obtain ⟨_,_,rfl,h⟩:=Jg h
  obtain ⟨_,_,rfl,h⟩:=Jg h
  obtain ⟨_,_,rfl,h⟩:=Jc h
  obtain ⟨rfl,hE⟩:=Jr h
  obtain ⟨y,hy,hk⟩:=Js hE
  cases hy
 | succ n ih=>
  intro R ds k r h
  unfold m_Z34 at h
  obtain ⟨_,_,rfl,h⟩:=Jg h
  obtain ⟨_,_,rfl,h⟩:=Jg h
  obtain ⟨_,_,rfl,h⟩:=Jc h
  obtain ⟨rfl,hE⟩:=Jr h
  obtain ⟨y,hy,hk⟩:=Js hE
  cases y with
  | inl y=>
   exact ⟨0,_,_,_,hk,rfl,QI px (fx:=⟨Try.func47,by kernel_rfl,by kernel_rfl⟩) (Qo e_Z32_ok JU) (JZ ih JV) (by kernel_rfl) ((q_Z34 ..).trans ((c_Z34_bind ..).trans (JB hy)))⟩
  | inr y=>
   exact ⟨1,_,_,_,hk,rfl,QI px (fx:=⟨Try.func47,by kernel_rfl,by kernel_rfl⟩) (Qo e_Z32_ok JU) (JZ ih JV) (by kernel_rfl) ((q_Z34 ..).trans ((c_Z34_bind ..).trans (JB hy)))⟩
noncomputable def e_Z34:JP:=m_Z34 (Z34)
theorem e_Z34_ok:(e_Z34).ok Try.prog (JC (JA Try.f47) 10):=by
 intro R ds k r h
 unfold e_Z34 m_Z34 at h
 obtain ⟨_,_,rfl,h⟩:=Jg h
 obtain ⟨_,_,rfl,h⟩:=Jg h
 obtain ⟨_,_,rfl,h⟩:=Jc h
 obtain ⟨rfl,hE⟩:=Jr h
 obtain ⟨y,hy,hk⟩:=Js hE
 obtain ⟨n,hn⟩:=Q6 hy
 exact m_Z34_ok n R _ k r ((JB hn).trans hk)

/-!-/
def c_Z35 {R:Type} (x0 x1:List D) (k:Bool→Option R):Option R:=
 bif decide ((12:Int)<(↑x0.length:Int)) then
 k Bool.false
 else
 bif decide ((20:Int)<(↑x1.length:Int)) then
 k Bool.false
 else
 (Z33 x0 x1 (0:Int)).bind (Sum.elim (fun y0=>
 k y0.snd.snd) (fun y1=>
 (Z34 y1.fst y1.snd (0:Int)).bind (Sum.elim (fun y2=>
 k y2) (fun y3=>
 k Bool.true))))
theorem c_Z35_bind {R:Type} (x0 x1:List D) (k:Bool→Option R):c_Z35 x0 x1 k=(c_Z35 x0 x1 some).bind k:=by
 unfold c_Z35
 repeat' first
  | exact J9
  | exact J8
  | exact J7
  | apply J4
  | apply J5
  | apply Qa
  | (apply J6;intro _)
  | intro _
def Z35 (x0 x1:List D):Option (Bool):=c_Z35 x0 x1 some
def e_Z35:Ent:=⟨47,[.rd (.struct [.int .i64,.int .i64,.int .i64,.int .i64]),.rd (.struct [.int .i64,.int .i64])],[(.bool,[.undef,.undef])],fun _ ds k=>dL (fun x0 ds=>dL (fun x1 ds=>dE ((Z35 x0 x1).bind (fun y=>k 0 [.B y])) ds) ds) ds⟩
theorem q_Z35 (x0 x1:List D):QH (JQ []) (JR [e_Z33,e_Z34]) A 47 Try.f47 (Sh.mks e_Z35.sh [.L x0,.L x1]).1 (fun v os=>some (v,os))=c_Z35 x0 x1 (fun y=>QW e_Z35 0 [.B y]):=by kernel_rfl
theorem e_Z35_ok:e_Z35.ok Try.prog A:=by
 intro R ds k r h
 unfold e_Z35 at h
 obtain ⟨_,_,rfl,h⟩:=Jg h
 obtain ⟨_,_,rfl,h⟩:=Jg h
 obtain ⟨rfl,hE⟩:=Jr h
 obtain ⟨y,hy,hk⟩:=Js hE
 exact ⟨0,_,_,_,hk,rfl,QX px (fx:=⟨Try.func47,by kernel_rfl,by kernel_rfl⟩) JU (JZ e_Z33_ok (JZ e_Z34_ok JV)) ((q_Z35 ..).trans ((c_Z35_bind ..).trans (JB hy)))⟩

/-!-/
abbrev T_Z36:=Int→List D→Int→List D→Option (List D×List D)
def c_Z36 {R:Type} (F:T_Z36) (x0:Int) (x1:List D) (x2:Int) (x3:List D) (k:List D×List D→Option R):Option R:=
 bif decide (x2<x0) then
 if x3.length+[D.int x2].length≤(4294967296:Nat) then
 (F x0 x1 (IntKind.i64.wrap (x2+1)) (x3++[D.int x2])).bind k
 else
 none
 else
 k (x1,x3)
theorem c_Z36_bind {R:Type} (F:T_Z36) (x0:Int) (x1:List D) (x2:Int) (x3:List D) (k:List D×List D→Option R):c_Z36 F x0 x1 x2 x3 k=(c_Z36 F x0 x1 x2 x3 some).bind k:=by
 unfold c_Z36
 repeat' first
  | exact J9
  | exact J8
  | exact J7
  | apply J4
  | apply J5
  | apply Qa
  | (apply J6;intro _)
  | intro _
def n_Z36:Nat→T_Z36
 | 0,_,_,_,_=>none
 | n+1,x0,x1,x2,x3=>c_Z36 (n_Z36 n) x0 x1 x2 x3 some
noncomputable def Z36 (x0:Int) (x1:List D) (x2:Int) (x3:List D):Option (List D×List D):=ev (fun n=>n_Z36 n x0 x1 x2 x3)
def m_Z36 (F:T_Z36):JP:=⟨3,⟨(.int .i64::.rd (.struct [.int .i64,.int .i64])::.undef::.undef::.undef::.full 1000 [] (.int .i64)::.int .i64::uu 59 ([])),[(1000,.own (.int .i64))]⟩,[(.exit 0,⟨(.undef::.rd (.struct [.int .i64,.int .i64])::.undef::.undef::.undef::.full 1000 [] (.int .i64)::uu 60 ([])),[(1000,.own (.int .i64))]⟩)],fun _ ds k=>dI (fun x0 ds=>dL (fun x1 ds=>dI (fun x2 ds=>dL (fun x3 ds=>dE ((F x0 x1 x2 x3).bind (fun y=>k 0 [.L y.1,.L y.2])) ds) ds) ds) ds) ds⟩
theorem q_Z36 (F:T_Z36) (x0:Int) (x1:List D) (x2:Int) (x3:List D):Q3 (JQ []) (JR [m_Z36 F]) A 66 (JC (JA Try.f66) 3) ((m_Z36 F).sh.mk' [.I x0,.L x1,.I x2,.L x3]) (fun e σ'=>some (e,σ'))=c_Z36 F x0 x1 x2 x3 (fun y=>some (.exit 0,SSt.mk' ⟨(.undef::.rd (.struct [.int .i64,.int .i64])::.undef::.undef::.undef::.full 1000 [] (.int .i64)::uu 60 ([])),[(1000,.own (.int .i64))]⟩ [.L y.1,.L y.2])):=by kernel_rfl
theorem m_Z36_ok:∀ n,(m_Z36 (n_Z36 n)).ok Try.prog (JC (JA Try.f66) 3):=by
 intro n
 induction n with
 | zero=>
  intro R ds k r h
  unfold m_Z36 at h
  obtain ⟨_,_,rfl,h⟩:=Jc h
  obtain ⟨_,_,rfl,h⟩:=Jg h
  obtain ⟨_,_,rfl,h⟩:=Jc h
  obtain ⟨_,_,rfl,h⟩:=Jg h
  obtain ⟨rfl,hE⟩:=Jr h
  obtain ⟨y,hy,hk⟩:=Js hE
  cases hy
 | succ n ih=>
  intro R ds k r h
  unfold m_Z36 at h
  obtain ⟨_,_,rfl,h⟩:=Jc h
  obtain ⟨_,_,rfl,h⟩:=Jg h
  obtain ⟨_,_,rfl,h⟩:=Jc h
  obtain ⟨_,_,rfl,h⟩:=Jg h
  obtain ⟨rfl,hE⟩:=Jr h
  obtain ⟨y,hy,hk⟩:=Js hE
  exact ⟨0,_,_,_,hk,rfl,QI px (fx:=⟨Try.func66,by kernel_rfl,by kernel_rfl⟩) JU (JZ ih JV) (by kernel_rfl) ((q_Z36 ..).trans ((c_Z36_bind ..).trans (JB hy)))⟩
noncomputable def e_Z36:JP:=m_Z36 (Z36)
theorem e_Z36_ok:(e_Z36).ok Try.prog (JC (JA Try.f66) 3):=by
 intro R ds k r h
 unfold e_Z36 m_Z36 at h
 obtain ⟨_,_,rfl,h⟩:=Jc h
 obtain ⟨_,_,rfl,h⟩:=Jg h
 obtain ⟨_,_,rfl,h⟩:=Jc h
 obtain ⟨_,_,rfl,h⟩:=Jg h
 obtain ⟨rfl,hE⟩:=Jr h
 obtain ⟨y,hy,hk⟩:=Js hE
 obtain ⟨n,hn⟩:=Q6 hy
 exact m_Z36_ok n R _ k r ((JB hn).trans hk)

/-!-/
def c_Z37 {R:Type} (x0 x1:Int) (k:Int→Option R):Option R:=
 bif decide (x0<x1) then
 k x0
 else
 k x1
theorem c_Z37_bind {R:Type} (x0 x1:Int) (k:Int→Option R):c_Z37 x0 x1 k=(c_Z37 x0 x1 some).bind k:=by
 unfold c_Z37
 repeat' first
  | exact J9
  | exact J8
  | exact J7
  | apply J4
  | apply J5
  | apply Qa
  | (apply J6;intro _)
  | intro _
def Z37 (x0 x1:Int):Option (Int):=c_Z37 x0 x1 some
def e_Z37:Ent:=⟨72,[.int .i64,.int .i64],[(.int .i64,[.undef,.undef])],fun _ ds k=>dI (fun x0 ds=>dI (fun x1 ds=>dE ((Z37 x0 x1).bind (fun y=>k 0 [.I y])) ds) ds) ds⟩
theorem q_Z37 (x0 x1:Int):QH (JQ []) (JR []) A 72 Try.f72 (Sh.mks e_Z37.sh [.I x0,.I x1]).1 (fun v os=>some (v,os))=c_Z37 x0 x1 (fun y=>QW e_Z37 0 [.I y]):=by kernel_rfl
theorem e_Z37_ok:e_Z37.ok Try.prog A:=by
 intro R ds k r h
 unfold e_Z37 at h
 obtain ⟨_,_,rfl,h⟩:=Jc h
 obtain ⟨_,_,rfl,h⟩:=Jc h
 obtain ⟨rfl,hE⟩:=Jr h
 obtain ⟨y,hy,hk⟩:=Js hE
 exact ⟨0,_,_,_,hk,rfl,QX px (fx:=⟨Try.func72,by kernel_rfl,by kernel_rfl⟩) JU JV ((q_Z37 ..).trans ((c_Z37_bind ..).trans (JB hy)))⟩

/-!-/
abbrev T_Z38:=List D→Bool→Int→List D→Option (List D×Bool×List D)
def c_Z38 {R:Type} (F:T_Z38) (x0:List D) (x1:Bool) (x2:Int) (x3:List D) (k:List D×Bool×List D→Option R):Option R:=
 bif decide (x2<(↑x0.length:Int)) then
 if 0≤x2∧x2<(↑x0.length:Int) then
 if 0≤x2∧x2<(↑x0.length:Int) then
 if (0:Int)≤((x0.getD x2.toNat (D.int 0)).fld (0:Nat)).toInt∧((x0.getD x2.toNat (D.int 0)).fld (0:Nat)).toInt<(↑x3.length:Int) then
 if ((x0.getD x2.toNat (D.int 0)).fld (0:Nat)).toInt.toNat+1≤x3.length then
 if (0:Int)≤((x0.getD x2.toNat (D.int 0)).fld (1:Nat)).toInt∧((x0.getD x2.toNat (D.int 0)).fld (1:Nat)).toInt<(↑x3.length:Int) then
 if ((x0.getD x2.toNat (D.int 0)).fld (1:Nat)).toInt.toNat+1≤x3.length then
 bif !decide ((x3.getD ((x0.getD x2.toNat (D.int 0)).fld (0:Nat)).toInt.toNat (D.int 0)).toInt=(x3.getD ((x0.getD x2.toNat (D.int 0)).fld (1:Nat)).toInt.toNat (D.int 0)).toInt) then
 if (0:Int)≤((x0.getD x2.toNat (D.int 0)).fld (0:Nat)).toInt∧((x0.getD x2.toNat (D.int 0)).fld (0:Nat)).toInt<(↑x3.length:Int) then
 if ((x0.getD x2.toNat (D.int 0)).fld (0:Nat)).toInt.toNat+1≤x3.length then
 if (0:Int)≤((x0.getD x2.toNat (D.int 0)).fld (1:Nat)).toInt∧((x0.getD x2.toNat (D.int 0)).fld (1:Nat)).toInt<(↑x3.length:Int) then
 if ((x0.getD x2.toNat (D.int 0)).fld (1:Nat)).toInt.toNat+1≤x3.length then
 (Z37 ((x3.getD ((x0.getD x2.toNat (D.int 0)).fld (0:Nat)).toInt.toNat (D.int 0)).toInt) ((x3.getD ((x0.getD x2.toNat (D.int 0)).fld (1:Nat)).toInt.toNat (D.int 0)).toInt)).bind (fun y0=>
 if (0:Int)≤((x0.getD x2.toNat (D.int 0)).fld (0:Nat)).toInt∧((x0.getD x2.toNat (D.int 0)).fld (0:Nat)).toInt<(↑x3.length:Int) then
 if ((x0.getD x2.toNat (D.int 0)).fld (0:Nat)).toInt.toNat+1≤x3.length then
 if (0:Int)≤((x0.getD x2.toNat (D.int 0)).fld (1:Nat)).toInt∧((x0.getD x2.toNat (D.int 0)).fld (1:Nat)).toInt<(↑(x3.set ((x0.getD x2.toNat (D.int 0)).fld (0:Nat)).toInt.toNat (D.int y0)).length:Int) then
 if ((x0.getD x2.toNat (D.int 0)).fld (1:Nat)).toInt.toNat+1≤(x3.set ((x0.getD x2.toNat (D.int 0)).fld (0:Nat)).toInt.toNat (D.int y0)).length then
 (F x0 Bool.true (IntKind.i64.wrap (x2+1)) ((x3.set ((x0.getD x2.toNat (D.int 0)).fld (0:Nat)).toInt.toNat (D.int y0)).set ((x0.getD x2.toNat (D.int 0)).fld (1:Nat)).toInt.toNat (D.int y0))).bind k
 else
 none
 else
 none
 else
 none
 else
 none)
 else
 none
 else
 none
 else
 none
 else
 none
 else
 (F x0 x1 (IntKind.i64.wrap (x2+1)) x3).bind k
 else
 none
 else
 none
 else
 none
 else
 none
 else
 none
 else
 none
 else
 k (x0,x1,x3)
theorem c_Z38_bind {R:Type} (F:T_Z38) (x0:List D) (x1:Bool) (x2:Int) (x3:List D) (k:List D×Bool×List D→Option R):c_Z38 F x0 x1 x2 x3 k=(c_Z38 F x0 x1 x2 x3 some).bind k:=by
 unfold c_Z38
 repeat' first
  | exact J9
  | exact J8
  | exact J7
  | apply J4
  | apply J5
  | apply Qa
  | (apply J6;intro _)
  | intro _
def n_Z38:Nat→T_Z38
 | 0,_,_,_,_=>none
 | n+1,x0,x1,x2,x3=>c_Z38 (n_Z38 n) x0 x1 x2 x3 some
noncomputable def Z38 (x0:List D) (x1:Bool) (x2:Int) (x3:List D):Option (List D×Bool×List D):=ev (fun n=>n_Z38 n x0 x1 x2 x3)
def m_Z38 (F:T_Z38):JP:=⟨10,⟨(.undef::.rd (.struct [.int .i64,.int .i64])::.undef::.undef::.undef::.full 1000 [] (.int .i64)::.undef::.bool::.int .i64::uu 57 ([])),[(1000,.own (.int .i64))]⟩,[(.exit 4,⟨(.undef::.rd (.struct [.int .i64,.int .i64])::.undef::.undef::.undef::.full 1000 [] (.int .i64)::.undef::.bool::uu 58 ([])),[(1000,.own (.int .i64))]⟩)],fun _ ds k=>dL (fun x0 ds=>dB (fun x1 ds=>dI (fun x2 ds=>dL (fun x3 ds=>dE ((F x0 x1 x2 x3).bind (fun y=>k 0 [.L y.1,.B y.2.1,.L y.2.2])) ds) ds) ds) ds) ds⟩
theorem q_Z38 (F:T_Z38) (x0:List D) (x1:Bool) (x2:Int) (x3:List D):Q3 (JQ [e_Z37]) (JR [m_Z38 F]) A 66 (JC (JA Try.f66) 10) ((m_Z38 F).sh.mk' [.L x0,.B x1,.I x2,.L x3]) (fun e σ'=>some (e,σ'))=c_Z38 F x0 x1 x2 x3 (fun y=>some (.exit 4,SSt.mk' ⟨(.undef::.rd (.struct [.int .i64,.int .i64])::.undef::.undef::.undef::.full 1000 [] (.int .i64)::.undef::.bool::uu 58 ([])),[(1000,.own (.int .i64))]⟩ [.L y.1,.B y.2.1,.L y.2.2])):=by kernel_rfl
theorem m_Z38_ok:∀ n,(m_Z38 (n_Z38 n)).ok Try.prog (JC (JA Try.f66) 10):=by
 intro n
 induction n with
 | zero=>
  intro R ds k r h
  unfold m_Z38 at h
  obtain ⟨_,_,rfl,h⟩:=Jg h
  obtain ⟨_,_,rfl,h⟩:=CV h
  obtain ⟨_,_,rfl,h⟩:=Jc h
  obtain ⟨_,_,rfl,h⟩:=Jg h
  obtain ⟨rfl,hE⟩:=Jr h
  obtain ⟨y,hy,hk⟩:=Js hE
  cases hy
 | succ n ih=>
  intro R ds k r h
  unfold m_Z38 at h
  obtain ⟨_,_,rfl,h⟩:=Jg h
  obtain ⟨_,_,rfl,h⟩:=CV h
  obtain ⟨_,_,rfl,h⟩:=Jc h
  obtain ⟨_,_,rfl,h⟩:=Jg h
  obtain ⟨rfl,hE⟩:=Jr h
  obtain ⟨y,hy,hk⟩:=Js hE
  exact ⟨0,_,_,_,hk,rfl,QI px (fx:=⟨Try.func66,by kernel_rfl,by kernel_rfl⟩) (Qo e_Z37_ok JU) (JZ ih JV) (by kernel_rfl) ((q_Z38 ..).trans ((c_Z38_bind ..).trans (JB hy)))⟩
noncomputable def e_Z38:JP:=m_Z38 (Z38)
theorem e_Z38_ok:(e_Z38).ok Try.prog (JC (JA Try.f66) 10):=by
 intro R ds k r h
 unfold e_Z38 m_Z38 at h
 obtain ⟨_,_,rfl,h⟩:=Jg h
 obtain ⟨_,_,rfl,h⟩:=CV h
 obtain ⟨_,_,rfl,h⟩:=Jc h
 obtain ⟨_,_,rfl,h⟩:=Jg h
 obtain ⟨rfl,hE⟩:=Jr h
 obtain ⟨y,hy,hk⟩:=Js hE
 obtain ⟨n,hn⟩:=Q6 hy
 exact m_Z38_ok n R _ k r ((JB hn).trans hk)

/-!-/
abbrev T_Z39:=List D→Bool→List D→Option (List D)
def c_Z39 {R:Type} (F:T_Z39) (x0:List D) (x1:Bool) (x2:List D) (k:List D→Option R):Option R:=
 bif x1 then
 (Z38 x0 Bool.false (0:Int) x2).bind (fun y0=>
 (F y0.fst y0.snd.fst y0.snd.snd).bind k)
 else
 k x2
theorem c_Z39_bind {R:Type} (F:T_Z39) (x0:List D) (x1:Bool) (x2:List D) (k:List D→Option R):c_Z39 F x0 x1 x2 k=(c_Z39 F x0 x1 x2 some).bind k:=by
 unfold c_Z39
 repeat' first
  | exact J9
  | exact J8
  | exact J7
  | apply J4
  | apply J5
  | apply Qa
  | (apply J6;intro _)
  | intro _
def n_Z39:Nat→T_Z39
 | 0,_,_,_=>none
 | n+1,x0,x1,x2=>c_Z39 (n_Z39 n) x0 x1 x2 some
noncomputable def Z39 (x0:List D) (x1:Bool) (x2:List D):Option (List D):=ev (fun n=>n_Z39 n x0 x1 x2)
def m_Z39 (F:T_Z39):JP:=⟨7,⟨(.undef::.rd (.struct [.int .i64,.int .i64])::.undef::.undef::.undef::.full 1000 [] (.int .i64)::.undef::.bool::uu 58 ([])),[(1000,.own (.int .i64))]⟩,[(.exit 2,⟨(uu 5 (.full 1000 [] (.int .i64)::uu 60 ([]))),[(1000,.own (.int .i64))]⟩)],fun _ ds k=>dL (fun x0 ds=>dB (fun x1 ds=>dL (fun x2 ds=>dE ((F x0 x1 x2).bind (fun y=>k 0 [.L y])) ds) ds) ds) ds⟩
theorem q_Z39 (F:T_Z39) (x0:List D) (x1:Bool) (x2:List D):Q3 (JQ []) (JR [m_Z39 F,e_Z38]) A 66 (JC (JA Try.f66) 7) ((m_Z39 F).sh.mk' [.L x0,.B x1,.L x2]) (fun e σ'=>some (e,σ'))=c_Z39 F x0 x1 x2 (fun y=>some (.exit 2,SSt.mk' ⟨(uu 5 (.full 1000 [] (.int .i64)::uu 60 ([]))),[(1000,.own (.int .i64))]⟩ [.L y])):=by kernel_rfl
theorem m_Z39_ok:∀ n,(m_Z39 (n_Z39 n)).ok Try.prog (JC (JA Try.f66) 7):=by
 intro n
 induction n with
 | zero=>
  intro R ds k r h
  unfold m_Z39 at h
  obtain ⟨_,_,rfl,h⟩:=Jg h
  obtain ⟨_,_,rfl,h⟩:=CV h
  obtain ⟨_,_,rfl,h⟩:=Jg h
  obtain ⟨rfl,hE⟩:=Jr h
  obtain ⟨y,hy,hk⟩:=Js hE
  cases hy
 | succ n ih=>
  intro R ds k r h
  unfold m_Z39 at h
  obtain ⟨_,_,rfl,h⟩:=Jg h
  obtain ⟨_,_,rfl,h⟩:=CV h
  obtain ⟨_,_,rfl,h⟩:=Jg h
  obtain ⟨rfl,hE⟩:=Jr h
  obtain ⟨y,hy,hk⟩:=Js hE
  exact ⟨0,_,_,_,hk,rfl,QI px (fx:=⟨Try.func66,by kernel_rfl,by kernel_rfl⟩) JU (JZ ih (JZ e_Z38_ok JV)) (by kernel_rfl) ((q_Z39 ..).trans ((c_Z39_bind ..).trans (JB hy)))⟩
noncomputable def e_Z39:JP:=m_Z39 (Z39)
theorem e_Z39_ok:(e_Z39).ok Try.prog (JC (JA Try.f66) 7):=by
 intro R ds k r h
 unfold e_Z39 m_Z39 at h
 obtain ⟨_,_,rfl,h⟩:=Jg h
 obtain ⟨_,_,rfl,h⟩:=CV h
 obtain ⟨_,_,rfl,h⟩:=Jg h
 obtain ⟨rfl,hE⟩:=Jr h
 obtain ⟨y,hy,hk⟩:=Js hE
 obtain ⟨n,hn⟩:=Q6 hy
 exact m_Z39_ok n R _ k r ((JB hn).trans hk)

/-!-/
def c_Z40 {R:Type} (x0:Int) (x1:List D) (k:List D→Option R):Option R:=
 (Z36 x0 x1 (0:Int) []).bind (fun y0=>
 (Z39 y0.fst Bool.true y0.snd).bind (fun y1=>
 k y1))
theorem c_Z40_bind {R:Type} (x0:Int) (x1:List D) (k:List D→Option R):c_Z40 x0 x1 k=(c_Z40 x0 x1 some).bind k:=by
 unfold c_Z40
 repeat' first
  | exact J9
  | exact J8
  | exact J7
  | apply J4
  | apply J5
  | apply Qa
  | (apply J6;intro _)
  | intro _
def Z40 (x0:Int) (x1:List D):Option (List D):=c_Z40 x0 x1 some
def e_Z40:Ent:=⟨66,[.int .i64,.rd (.struct [.int .i64,.int .i64])],[(.own (.int .i64),[.undef,.undef])],fun _ ds k=>dI (fun x0 ds=>dL (fun x1 ds=>dE ((Z40 x0 x1).bind (fun y=>k 0 [.L y])) ds) ds) ds⟩
theorem q_Z40 (x0:Int) (x1:List D):QH (JQ []) (JR [e_Z36,e_Z39]) A 66 Try.f66 (Sh.mks e_Z40.sh [.I x0,.L x1]).1 (fun v os=>some (v,os))=c_Z40 x0 x1 (fun y=>QW e_Z40 0 [.L y]):=by kernel_rfl
theorem e_Z40_ok:e_Z40.ok Try.prog A:=by
 intro R ds k r h
 unfold e_Z40 at h
 obtain ⟨_,_,rfl,h⟩:=Jc h
 obtain ⟨_,_,rfl,h⟩:=Jg h
 obtain ⟨rfl,hE⟩:=Jr h
 obtain ⟨y,hy,hk⟩:=Js hE
 exact ⟨0,_,_,_,hk,rfl,QX px (fx:=⟨Try.func66,by kernel_rfl,by kernel_rfl⟩) JU (JZ e_Z36_ok (JZ e_Z39_ok JV)) ((q_Z40 ..).trans ((c_Z40_bind ..).trans (JB hy)))⟩

/-!-/
abbrev T_Z41:=Int→Int→Int→List D→List D→List D→Option (Int×Int×List D×List D×List D)
def c_Z41 {R:Type} (F:T_Z41) (x0 x1 x2:Int) (x3 x4 x5:List D) (k:Int×Int×List D×List D×List D→Option R):Option R:=
 bif decide (x2<x0) then
 if 0≤x2∧x2<(↑x3.length:Int) then
 if x2.toNat+1≤x3.length then
 bif decide ((x3.getD x2.toNat (D.int 0)).toInt=x1) then
 if x5.length+[D.int x2].length≤(4294967296:Nat) then
 (F x0 x1 (IntKind.i64.wrap (x2+1)) x3 x4 (x5++[D.int x2])).bind k
 else
 none
 else
 (F x0 x1 (IntKind.i64.wrap (x2+1)) x3 x4 x5).bind k
 else
 none
 else
 none
 else
 k (x0,x1,x3,x4,x5)
theorem c_Z41_bind {R:Type} (F:T_Z41) (x0 x1 x2:Int) (x3 x4 x5:List D) (k:Int×Int×List D×List D×List D→Option R):c_Z41 F x0 x1 x2 x3 x4 x5 k=(c_Z41 F x0 x1 x2 x3 x4 x5 some).bind k:=by
 unfold c_Z41
 repeat' first
  | exact J9
  | exact J8
  | exact J7
  | apply J4
  | apply J5
  | apply Qa
  | (apply J6;intro _)
  | intro _
def n_Z41:Nat→T_Z41
 | 0,_,_,_,_,_,_=>none
 | n+1,x0,x1,x2,x3,x4,x5=>c_Z41 (n_Z41 n) x0 x1 x2 x3 x4 x5 some
noncomputable def Z41 (x0 x1 x2:Int) (x3 x4 x5:List D):Option (Int×Int×List D×List D×List D):=ev (fun n=>n_Z41 n x0 x1 x2 x3 x4 x5)
def m_Z41 (F:T_Z41):JP:=⟨8,⟨(.int .i64::uu 4 (.full 1000 [] (.int .i64)::.full 1001 [] (.slice (.int .i64))::.int .i64::.full 1002 [] (.int .i64)::.int .i64::uu 34 ([]))),[(1000,.own (.int .i64)),(1001,.own (.slice (.int .i64))),(1002,.own (.int .i64))]⟩,[(.exit 2,⟨(.int .i64::uu 4 (.full 1000 [] (.int .i64)::.full 1001 [] (.slice (.int .i64))::.int .i64::.full 1002 [] (.int .i64)::uu 35 ([]))),[(1000,.own (.int .i64)),(1001,.own (.slice (.int .i64))),(1002,.own (.int .i64))]⟩)],fun _ ds k=>dI (fun x0 ds=>dI (fun x1 ds=>dI (fun x2 ds=>dL (fun x3 ds=>dL (fun x4 ds=>dL (fun x5 ds=>dE ((F x0 x1 x2 x3 x4 x5).bind (fun y=>k 0 [.I y.1,.I y.2.1,.L y.2.2.1,.L y.2.2.2.1,.L y.2.2.2.2])) ds) ds) ds) ds) ds) ds) ds⟩
theorem q_Z41 (F:T_Z41) (x0 x1 x2:Int) (x3 x4 x5:List D):Q3 (JQ []) (JR [m_Z41 F]) A 53 (JC (JA Try.f53) 8) ((m_Z41 F).sh.mk' [.I x0,.I x1,.I x2,.L x3,.L x4,.L x5]) (fun e σ'=>some (e,σ'))=c_Z41 F x0 x1 x2 x3 x4 x5 (fun y=>some (.exit 2,SSt.mk' ⟨(.int .i64::uu 4 (.full 1000 [] (.int .i64)::.full 1001 [] (.slice (.int .i64))::.int .i64::.full 1002 [] (.int .i64)::uu 35 ([]))),[(1000,.own (.int .i64)),(1001,.own (.slice (.int .i64))),(1002,.own (.int .i64))]⟩ [.I y.1,.I y.2.1,.L y.2.2.1,.L y.2.2.2.1,.L y.2.2.2.2])):=by kernel_rfl
theorem m_Z41_ok:∀ n,(m_Z41 (n_Z41 n)).ok Try.prog (JC (JA Try.f53) 8):=by
 intro n
 induction n with
 | zero=>
  intro R ds k r h
  unfold m_Z41 at h
  obtain ⟨_,_,rfl,h⟩:=Jc h
  obtain ⟨_,_,rfl,h⟩:=Jc h
  obtain ⟨_,_,rfl,h⟩:=Jc h
  obtain ⟨_,_,rfl,h⟩:=Jg h
  obtain ⟨_,_,rfl,h⟩:=Jg h
  obtain ⟨_,_,rfl,h⟩:=Jg h
  obtain ⟨rfl,hE⟩:=Jr h
  obtain ⟨y,hy,hk⟩:=Js hE
  cases hy
 | succ n ih=>
  intro R ds k r h
  unfold m_Z41 at h
  obtain ⟨_,_,rfl,h⟩:=Jc h
  obtain ⟨_,_,rfl,h⟩:=Jc h
  obtain ⟨_,_,rfl,h⟩:=Jc h
  obtain ⟨_,_,rfl,h⟩:=Jg h
  obtain ⟨_,_,rfl,h⟩:=Jg h
  obtain ⟨_,_,rfl,h⟩:=Jg h
  obtain ⟨rfl,hE⟩:=Jr h
  obtain ⟨y,hy,hk⟩:=Js hE
  exact ⟨0,_,_,_,hk,rfl,QI px (fx:=⟨Try.func53,by kernel_rfl,by kernel_rfl⟩) JU (JZ ih JV) (by kernel_rfl) ((q_Z41 ..).trans ((c_Z41_bind ..).trans (JB hy)))⟩
noncomputable def e_Z41:JP:=m_Z41 (Z41)
theorem e_Z41_ok:(e_Z41).ok Try.prog (JC (JA Try.f53) 8):=by
 intro R ds k r h
 unfold e_Z41 m_Z41 at h
 obtain ⟨_,_,rfl,h⟩:=Jc h
 obtain ⟨_,_,rfl,h⟩:=Jc h
 obtain ⟨_,_,rfl,h⟩:=Jc h
 obtain ⟨_,_,rfl,h⟩:=Jg h
 obtain ⟨_,_,rfl,h⟩:=Jg h
 obtain ⟨_,_,rfl,h⟩:=Jg h
 obtain ⟨rfl,hE⟩:=Jr h
 obtain ⟨y,hy,hk⟩:=Js hE
 obtain ⟨n,hn⟩:=Q6 hy
 exact m_Z41_ok n R _ k r ((JB hn).trans hk)

/-!-/
abbrev T_Z42:=Int→Int→List D→List D→Option (List D)
def c_Z42 {R:Type} (F:T_Z42) (x0 x1:Int) (x2 x3:List D) (k:List D→Option R):Option R:=
 bif decide (x1<x0) then
 (Z41 x0 x1 x1 x2 x3 []).bind (fun y0=>
 bif decide ((0:Int)<(↑y0.snd.snd.snd.snd.length:Int)) then
 if y0.snd.snd.snd.fst.length+[D.node y0.snd.snd.snd.snd].length≤(4294967296:Nat) then
 (F y0.fst (IntKind.i64.wrap (y0.snd.fst+1)) y0.snd.snd.fst (y0.snd.snd.snd.fst++[D.node y0.snd.snd.snd.snd])).bind k
 else
 none
 else
 (F y0.fst (IntKind.i64.wrap (y0.snd.fst+1)) y0.snd.snd.fst y0.snd.snd.snd.fst).bind k)
 else
 k x3
theorem c_Z42_bind {R:Type} (F:T_Z42) (x0 x1:Int) (x2 x3:List D) (k:List D→Option R):c_Z42 F x0 x1 x2 x3 k=(c_Z42 F x0 x1 x2 x3 some).bind k:=by
 unfold c_Z42
 repeat' first
  | exact J9
  | exact J8
  | exact J7
  | apply J4
  | apply J5
  | apply Qa
  | (apply J6;intro _)
  | intro _
def n_Z42:Nat→T_Z42
 | 0,_,_,_,_=>none
 | n+1,x0,x1,x2,x3=>c_Z42 (n_Z42 n) x0 x1 x2 x3 some
noncomputable def Z42 (x0 x1:Int) (x2 x3:List D):Option (List D):=ev (fun n=>n_Z42 n x0 x1 x2 x3)
def m_Z42 (F:T_Z42):JP:=⟨4,⟨(.int .i64::uu 4 (.full 1000 [] (.int .i64)::.full 1001 [] (.slice (.int .i64))::.int .i64::uu 36 ([]))),[(1000,.own (.int .i64)),(1001,.own (.slice (.int .i64)))]⟩,[(.exit 0,⟨(uu 6 (.full 1000 [] (.slice (.int .i64))::uu 37 ([]))),[(1000,.own (.slice (.int .i64)))]⟩)],fun _ ds k=>dI (fun x0 ds=>dI (fun x1 ds=>dL (fun x2 ds=>dL (fun x3 ds=>dE ((F x0 x1 x2 x3).bind (fun y=>k 0 [.L y])) ds) ds) ds) ds) ds⟩
theorem q_Z42 (F:T_Z42) (x0 x1:Int) (x2 x3:List D):Q3 (JQ []) (JR [m_Z42 F,e_Z41]) A 53 (JC (JA Try.f53) 4) ((m_Z42 F).sh.mk' [.I x0,.I x1,.L x2,.L x3]) (fun e σ'=>some (e,σ'))=c_Z42 F x0 x1 x2 x3 (fun y=>some (.exit 0,SSt.mk' ⟨(uu 6 (.full 1000 [] (.slice (.int .i64))::uu 37 ([]))),[(1000,.own (.slice (.int .i64)))]⟩ [.L y])):=by kernel_rfl
theorem m_Z42_ok:∀ n,(m_Z42 (n_Z42 n)).ok Try.prog (JC (JA Try.f53) 4):=by
 intro n
 induction n with
 | zero=>
  intro R ds k r h
  unfold m_Z42 at h
  obtain ⟨_,_,rfl,h⟩:=Jc h
  obtain ⟨_,_,rfl,h⟩:=Jc h
  obtain ⟨_,_,rfl,h⟩:=Jg h
  obtain ⟨_,_,rfl,h⟩:=Jg h
  obtain ⟨rfl,hE⟩:=Jr h
  obtain ⟨y,hy,hk⟩:=Js hE
  cases hy
 | succ n ih=>
  intro R ds k r h
  unfold m_Z42 at h
  obtain ⟨_,_,rfl,h⟩:=Jc h
  obtain ⟨_,_,rfl,h⟩:=Jc h
  obtain ⟨_,_,rfl,h⟩:=Jg h
  obtain ⟨_,_,rfl,h⟩:=Jg h
  obtain ⟨rfl,hE⟩:=Jr h
  obtain ⟨y,hy,hk⟩:=Js hE
  exact ⟨0,_,_,_,hk,rfl,QI px (fx:=⟨Try.func53,by kernel_rfl,by kernel_rfl⟩) JU (JZ ih (JZ e_Z41_ok JV)) (by kernel_rfl) ((q_Z42 ..).trans ((c_Z42_bind ..).trans (JB hy)))⟩
noncomputable def e_Z42:JP:=m_Z42 (Z42)
theorem e_Z42_ok:(e_Z42).ok Try.prog (JC (JA Try.f53) 4):=by
 intro R ds k r h
 unfold e_Z42 m_Z42 at h
 obtain ⟨_,_,rfl,h⟩:=Jc h
 obtain ⟨_,_,rfl,h⟩:=Jc h
 obtain ⟨_,_,rfl,h⟩:=Jg h
 obtain ⟨_,_,rfl,h⟩:=Jg h
 obtain ⟨rfl,hE⟩:=Jr h
 obtain ⟨y,hy,hk⟩:=Js hE
 obtain ⟨n,hn⟩:=Q6 hy
 exact m_Z42_ok n R _ k r ((JB hn).trans hk)

/-!-/
def c_Z43 {R:Type} (x0:Int) (x1:List D) (k:List D→Option R):Option R:=
 (Z40 x0 x1).bind (fun y0=>
 (Z42 x0 (0:Int) y0 []).bind (fun y1=>
 k y1))
theorem c_Z43_bind {R:Type} (x0:Int) (x1:List D) (k:List D→Option R):c_Z43 x0 x1 k=(c_Z43 x0 x1 some).bind k:=by
 unfold c_Z43
 repeat' first
  | exact J9
  | exact J8
  | exact J7
  | apply J4
  | apply J5
  | apply Qa
  | (apply J6;intro _)
  | intro _
def Z43 (x0:Int) (x1:List D):Option (List D):=c_Z43 x0 x1 some
def e_Z43:Ent:=⟨53,[.int .i64,.rd (.struct [.int .i64,.int .i64])],[(.own (.slice (.int .i64)),[.undef,.undef])],fun _ ds k=>dI (fun x0 ds=>dL (fun x1 ds=>dE ((Z43 x0 x1).bind (fun y=>k 0 [.L y])) ds) ds) ds⟩
theorem q_Z43 (x0:Int) (x1:List D):QH (JQ [e_Z40]) (JR [e_Z42]) A 53 Try.f53 (Sh.mks e_Z43.sh [.I x0,.L x1]).1 (fun v os=>some (v,os))=c_Z43 x0 x1 (fun y=>QW e_Z43 0 [.L y]):=by kernel_rfl
theorem e_Z43_ok:e_Z43.ok Try.prog A:=by
 intro R ds k r h
 unfold e_Z43 at h
 obtain ⟨_,_,rfl,h⟩:=Jc h
 obtain ⟨_,_,rfl,h⟩:=Jg h
 obtain ⟨rfl,hE⟩:=Jr h
 obtain ⟨y,hy,hk⟩:=Js hE
 exact ⟨0,_,_,_,hk,rfl,QX px (fx:=⟨Try.func53,by kernel_rfl,by kernel_rfl⟩) (Qo e_Z40_ok JU) (JZ e_Z42_ok JV) ((q_Z43 ..).trans ((c_Z43_bind ..).trans (JB hy)))⟩

/-!-/
abbrev T_Z44:=List D→Int→Int→Int→Bool→Int→List D→Option (List D×Int×Int×Int×Bool×List D)
def c_Z44 {R:Type} (F:T_Z44) (x0:List D) (x1 x2 x3:Int) (x4:Bool) (x5:Int) (x6:List D) (k:List D×Int×Int×Int×Bool×List D→Option R):Option R:=
 if 0≤x1∧x1<(↑x6.length:Int) then
 if x1.toNat+1≤x6.length then
 if x1.toNat+1≤x6.length then
 bif decide (x5<(↑(x6.getD x1.toNat (D.int 0)).items.length:Int)) then
 if 0≤x1∧x1<(↑x6.length:Int) then
 if x1.toNat+1≤x6.length then
 if x1.toNat+1≤x6.length then
 if 0≤x5∧x5<(↑(x6.getD x1.toNat (D.int 0)).items.length:Int) then
 if x1.toNat+1≤x6.length then
 if x5.toNat+1≤(x6.getD x1.toNat (D.int 0)).items.length then
 if (0:Int)≤((x6.getD x1.toNat (D.int 0)).items.getD x5.toNat (D.int 0)).toInt∧((x6.getD x1.toNat (D.int 0)).items.getD x5.toNat (D.int 0)).toInt<(↑x0.length:Int) then
 bif x4 then
 (F x0 x1 x2 x3 Bool.true (IntKind.i64.wrap (x5+1)) x6).bind k
 else
 if (3600:Int)≠(0:Int) then
 (F x0 x1 x2 x3 (decide ((IntKind.i64.wrap (IntKind.i64.wrap (x3 - ((x0.getD ((x6.getD x1.toNat (D.int 0)).items.getD x5.toNat (D.int 0)).toInt.toNat (D.int 0)).fld (2:Nat)).toInt)+(3600:Int))).tmod (3600:Int)<((x0.getD ((x6.getD x1.toNat (D.int 0)).items.getD x5.toNat (D.int 0)).toInt.toNat (D.int 0)).fld (3:Nat)).toInt)) (IntKind.i64.wrap (x5+1)) x6).bind k
 else
 none
 else
 none
 else
 none
 else
 none
 else
 none
 else
 none
 else
 none
 else
 none
 else
 k (x0,x1,x2,x3,x4,x6)
 else
 none
 else
 none
 else
 none
theorem c_Z44_bind {R:Type} (F:T_Z44) (x0:List D) (x1 x2 x3:Int) (x4:Bool) (x5:Int) (x6:List D) (k:List D×Int×Int×Int×Bool×List D→Option R):c_Z44 F x0 x1 x2 x3 x4 x5 x6 k=(c_Z44 F x0 x1 x2 x3 x4 x5 x6 some).bind k:=by
 unfold c_Z44
 repeat' first
  | exact J9
  | exact J8
  | exact J7
  | apply J4
  | apply J5
  | apply Qa
  | (apply J6;intro _)
  | intro _
def n_Z44:Nat→T_Z44
 | 0,_,_,_,_,_,_,_=>none
 | n+1,x0,x1,x2,x3,x4,x5,x6=>c_Z44 (n_Z44 n) x0 x1 x2 x3 x4 x5 x6 some
noncomputable def Z44 (x0:List D) (x1 x2 x3:Int) (x4:Bool) (x5:Int) (x6:List D):Option (List D×Int×Int×Int×Bool×List D):=ev (fun n=>n_Z44 n x0 x1 x2 x3 x4 x5 x6)
def m_Z44 (F:T_Z44):JP:=⟨12,⟨(.rd (.struct [.int .i64,.int .i64,.int .i64,.int .i64])::.undef::.int .i64::uu 5 (.full 1000 [] (.slice (.int .i64))::.int .i64::.int .i64::.bool::.int .i64::uu 54 ([]))),[(1000,.own (.slice (.int .i64)))]⟩,[(.exit 2,⟨(.rd (.struct [.int .i64,.int .i64,.int .i64,.int .i64])::.undef::.int .i64::uu 5 (.full 1000 [] (.slice (.int .i64))::.int .i64::.int .i64::.bool::uu 55 ([]))),[(1000,.own (.slice (.int .i64)))]⟩)],fun _ ds k=>dL (fun x0 ds=>dI (fun x1 ds=>dI (fun x2 ds=>dI (fun x3 ds=>dB (fun x4 ds=>dI (fun x5 ds=>dL (fun x6 ds=>dE ((F x0 x1 x2 x3 x4 x5 x6).bind (fun y=>k 0 [.L y.1,.I y.2.1,.I y.2.2.1,.I y.2.2.2.1,.B y.2.2.2.2.1,.L y.2.2.2.2.2])) ds) ds) ds) ds) ds) ds) ds) ds⟩
theorem q_Z44 (F:T_Z44) (x0:List D) (x1 x2 x3:Int) (x4:Bool) (x5:Int) (x6:List D):Q3 (JQ []) (JR [m_Z44 F]) A 16 (JC (JA Try.f16) 12) ((m_Z44 F).sh.mk' [.L x0,.I x1,.I x2,.I x3,.B x4,.I x5,.L x6]) (fun e σ'=>some (e,σ'))=c_Z44 F x0 x1 x2 x3 x4 x5 x6 (fun y=>some (.exit 2,SSt.mk' ⟨(.rd (.struct [.int .i64,.int .i64,.int .i64,.int .i64])::.undef::.int .i64::uu 5 (.full 1000 [] (.slice (.int .i64))::.int .i64::.int .i64::.bool::uu 55 ([]))),[(1000,.own (.slice (.int .i64)))]⟩ [.L y.1,.I y.2.1,.I y.2.2.1,.I y.2.2.2.1,.B y.2.2.2.2.1,.L y.2.2.2.2.2])):=by kernel_rfl
theorem m_Z44_ok:∀ n,(m_Z44 (n_Z44 n)).ok Try.prog (JC (JA Try.f16) 12):=by
 intro n
 induction n with
 | zero=>
  intro R ds k r h
  unfold m_Z44 at h
  obtain ⟨_,_,rfl,h⟩:=Jg h
  obtain ⟨_,_,rfl,h⟩:=Jc h
  obtain ⟨_,_,rfl,h⟩:=Jc h
  obtain ⟨_,_,rfl,h⟩:=Jc h
  obtain ⟨_,_,rfl,h⟩:=CV h
  obtain ⟨_,_,rfl,h⟩:=Jc h
  obtain ⟨_,_,rfl,h⟩:=Jg h
  obtain ⟨rfl,hE⟩:=Jr h
  obtain ⟨y,hy,hk⟩:=Js hE
  cases hy
 | succ n ih=>
  intro R ds k r h
  unfold m_Z44 at h
  obtain ⟨_,_,rfl,h⟩:=Jg h
  obtain ⟨_,_,rfl,h⟩:=Jc h
  obtain ⟨_,_,rfl,h⟩:=Jc h
  obtain ⟨_,_,rfl,h⟩:=Jc h
  obtain ⟨_,_,rfl,h⟩:=CV h
  obtain ⟨_,_,rfl,h⟩:=Jc h
  obtain ⟨_,_,rfl,h⟩:=Jg h
  obtain ⟨rfl,hE⟩:=Jr h
  obtain ⟨y,hy,hk⟩:=Js hE
  exact ⟨0,_,_,_,hk,rfl,QI px (fx:=⟨Try.func16,by kernel_rfl,by kernel_rfl⟩) JU (JZ ih JV) (by kernel_rfl) ((q_Z44 ..).trans ((c_Z44_bind ..).trans (JB hy)))⟩
noncomputable def e_Z44:JP:=m_Z44 (Z44)
theorem e_Z44_ok:(e_Z44).ok Try.prog (JC (JA Try.f16) 12):=by
 intro R ds k r h
 unfold e_Z44 m_Z44 at h
 obtain ⟨_,_,rfl,h⟩:=Jg h
 obtain ⟨_,_,rfl,h⟩:=Jc h
 obtain ⟨_,_,rfl,h⟩:=Jc h
 obtain ⟨_,_,rfl,h⟩:=Jc h
 obtain ⟨_,_,rfl,h⟩:=CV h
 obtain ⟨_,_,rfl,h⟩:=Jc h
 obtain ⟨_,_,rfl,h⟩:=Jg h
 obtain ⟨rfl,hE⟩:=Jr h
 obtain ⟨y,hy,hk⟩:=Js hE
 obtain ⟨n,hn⟩:=Q6 hy
 exact m_Z44_ok n R _ k r ((JB hn).trans hk)

/-!-/
abbrev T_Z45:=List D→Int→Int→Int→List D→Option (Int)
def c_Z45 {R:Type} (F:T_Z45) (x0:List D) (x1 x2 x3:Int) (x4:List D) (k:Int→Option R):Option R:=
 bif decide (x3<(3600:Int)) then
 (Z44 x0 x1 x2 x3 Bool.false (0:Int) x4).bind (fun y0=>
 bif y0.snd.snd.snd.snd.fst then
 (F y0.fst y0.snd.fst (IntKind.i64.wrap (y0.snd.snd.fst+1)) (IntKind.i64.wrap (y0.snd.snd.snd.fst+1)) y0.snd.snd.snd.snd.snd).bind k
 else
 (F y0.fst y0.snd.fst y0.snd.snd.fst (IntKind.i64.wrap (y0.snd.snd.snd.fst+1)) y0.snd.snd.snd.snd.snd).bind k)
 else
 k x2
theorem c_Z45_bind {R:Type} (F:T_Z45) (x0:List D) (x1 x2 x3:Int) (x4:List D) (k:Int→Option R):c_Z45 F x0 x1 x2 x3 x4 k=(c_Z45 F x0 x1 x2 x3 x4 some).bind k:=by
 unfold c_Z45
 repeat' first
  | exact J9
  | exact J8
  | exact J7
  | apply J4
  | apply J5
  | apply Qa
  | (apply J6;intro _)
  | intro _
def n_Z45:Nat→T_Z45
 | 0,_,_,_,_,_=>none
 | n+1,x0,x1,x2,x3,x4=>c_Z45 (n_Z45 n) x0 x1 x2 x3 x4 some
noncomputable def Z45 (x0:List D) (x1 x2 x3:Int) (x4:List D):Option (Int):=ev (fun n=>n_Z45 n x0 x1 x2 x3 x4)
def m_Z45 (F:T_Z45):JP:=⟨8,⟨(.rd (.struct [.int .i64,.int .i64,.int .i64,.int .i64])::.undef::.int .i64::uu 5 (.full 1000 [] (.slice (.int .i64))::.int .i64::.int .i64::uu 56 ([]))),[(1000,.own (.slice (.int .i64)))]⟩,[(.exit 0,⟨(uu 9 (.int .i64::uu 57 ([]))),[]⟩)],fun _ ds k=>dL (fun x0 ds=>dI (fun x1 ds=>dI (fun x2 ds=>dI (fun x3 ds=>dL (fun x4 ds=>dE ((F x0 x1 x2 x3 x4).bind (fun y=>k 0 [.I y])) ds) ds) ds) ds) ds) ds⟩
theorem q_Z45 (F:T_Z45) (x0:List D) (x1 x2 x3:Int) (x4:List D):Q3 (JQ []) (JR [m_Z45 F,e_Z44]) A 16 (JC (JA Try.f16) 8) ((m_Z45 F).sh.mk' [.L x0,.I x1,.I x2,.I x3,.L x4]) (fun e σ'=>some (e,σ'))=c_Z45 F x0 x1 x2 x3 x4 (fun y=>some (.exit 0,SSt.mk' ⟨(uu 9 (.int .i64::uu 57 ([]))),[]⟩ [.I y])):=by kernel_rfl
theorem m_Z45_ok:∀ n,(m_Z45 (n_Z45 n)).ok Try.prog (JC (JA Try.f16) 8):=by
 intro n
 induction n with
 | zero=>
  intro R ds k r h
  unfold m_Z45 at h
  obtain ⟨_,_,rfl,h⟩:=Jg h
  obtain ⟨_,_,rfl,h⟩:=Jc h
  obtain ⟨_,_,rfl,h⟩:=Jc h
  obtain ⟨_,_,rfl,h⟩:=Jc h
  obtain ⟨_,_,rfl,h⟩:=Jg h
  obtain ⟨rfl,hE⟩:=Jr h
  obtain ⟨y,hy,hk⟩:=Js hE
  cases hy
 | succ n ih=>
  intro R ds k r h
  unfold m_Z45 at h
  obtain ⟨_,_,rfl,h⟩:=Jg h
  obtain ⟨_,_,rfl,h⟩:=Jc h
  obtain ⟨_,_,rfl,h⟩:=Jc h
  obtain ⟨_,_,rfl,h⟩:=Jc h
  obtain ⟨_,_,rfl,h⟩:=Jg h
  obtain ⟨rfl,hE⟩:=Jr h
  obtain ⟨y,hy,hk⟩:=Js hE
  exact ⟨0,_,_,_,hk,rfl,QI px (fx:=⟨Try.func16,by kernel_rfl,by kernel_rfl⟩) JU (JZ ih (JZ e_Z44_ok JV)) (by kernel_rfl) ((q_Z45 ..).trans ((c_Z45_bind ..).trans (JB hy)))⟩
noncomputable def e_Z45:JP:=m_Z45 (Z45)
theorem e_Z45_ok:(e_Z45).ok Try.prog (JC (JA Try.f16) 8):=by
 intro R ds k r h
 unfold e_Z45 m_Z45 at h
 obtain ⟨_,_,rfl,h⟩:=Jg h
 obtain ⟨_,_,rfl,h⟩:=Jc h
 obtain ⟨_,_,rfl,h⟩:=Jc h
 obtain ⟨_,_,rfl,h⟩:=Jc h
 obtain ⟨_,_,rfl,h⟩:=Jg h
 obtain ⟨rfl,hE⟩:=Jr h
 obtain ⟨y,hy,hk⟩:=Js hE
 obtain ⟨n,hn⟩:=Q6 hy
 exact m_Z45_ok n R _ k r ((JB hn).trans hk)

/-!-/
def c_Z46 {R:Type} (x0 x1:List D) (x2:Int) (k:Int×Bool→Option R):Option R:=
 (Z35 x0 x1).bind (fun y0=>
 bif !y0 then
 k ((0:Int),Bool.false)
 else
 (Z43 (↑x0.length:Int) x1).bind (fun y1=>
 (Z32 x2 (0:Int) (IntKind.i64.wrap ((↑y1.length:Int) - (1:Int)))).bind (fun y2=>
 bif !y2 then
 k ((0:Int),Bool.false)
 else
 (Z45 x0 x2 (0:Int) (0:Int) y1).bind (fun y3=>
 k (y3,Bool.true)))))
theorem c_Z46_bind {R:Type} (x0 x1:List D) (x2:Int) (k:Int×Bool→Option R):c_Z46 x0 x1 x2 k=(c_Z46 x0 x1 x2 some).bind k:=by
 unfold c_Z46
 repeat' first
  | exact J9
  | exact J8
  | exact J7
  | apply J4
  | apply J5
  | apply Qa
  | (apply J6;intro _)
  | intro _
def Z46 (x0 x1:List D) (x2:Int):Option (Int×Bool):=c_Z46 x0 x1 x2 some
def e_Z46:Ent:=⟨16,[.rd (.struct [.int .i64,.int .i64,.int .i64,.int .i64]),.rd (.struct [.int .i64,.int .i64]),.int .i64],[(.tup [.int .i64,.bool],[.undef,.undef,.undef])],fun _ ds k=>dL (fun x0 ds=>dL (fun x1 ds=>dI (fun x2 ds=>dE ((Z46 x0 x1 x2).bind (fun y=>k 0 [.I y.1,.B y.2])) ds) ds) ds) ds⟩
theorem q_Z46 (x0 x1:List D) (x2:Int):QH (JQ [e_Z35,e_Z43,e_Z32]) (JR [e_Z45]) A 16 Try.f16 (Sh.mks e_Z46.sh [.L x0,.L x1,.I x2]).1 (fun v os=>some (v,os))=c_Z46 x0 x1 x2 (fun y=>QW e_Z46 0 [.I y.1,.B y.2]):=by kernel_rfl
theorem e_Z46_ok:e_Z46.ok Try.prog A:=by
 intro R ds k r h
 unfold e_Z46 at h
 obtain ⟨_,_,rfl,h⟩:=Jg h
 obtain ⟨_,_,rfl,h⟩:=Jg h
 obtain ⟨_,_,rfl,h⟩:=Jc h
 obtain ⟨rfl,hE⟩:=Jr h
 obtain ⟨y,hy,hk⟩:=Js hE
 exact ⟨0,_,_,_,hk,rfl,QX px (fx:=⟨Try.func16,by kernel_rfl,by kernel_rfl⟩) (Qo e_Z35_ok (Qo e_Z43_ok (Qo e_Z32_ok JU))) (JZ e_Z45_ok JV) ((q_Z46 ..).trans ((c_Z46_bind ..).trans (JB hy)))⟩

/-!-/
abbrev T_Z47:=Int→Int→Int→Int→List D→List D→Option ((Bool×Int×Int)⊕(Int×Int))
def c_Z47 {R:Type} (F:T_Z47) (x0 x1 x2 x3:Int) (x4 x5:List D) (k:(Bool×Int×Int)⊕(Int×Int)→Option R):Option R:=
 if 0≤x0∧x0<(↑x5.length:Int) then
 if x0.toNat+1≤x5.length then
 if x0.toNat+1≤x5.length then
 bif decide (x3<(↑(x5.getD x0.toNat (D.int 0)).items.length:Int)) then
 if 0≤x0∧x0<(↑x5.length:Int) then
 if x0.toNat+1≤x5.length then
 if x0.toNat+1≤x5.length then
 if 0≤x3∧x3<(↑(x5.getD x0.toNat (D.int 0)).items.length:Int) then
 if x0.toNat+1≤x5.length then
 if x3.toNat+1≤(x5.getD x0.toNat (D.int 0)).items.length then
 if (0:Int)≤((x5.getD x0.toNat (D.int 0)).items.getD x3.toNat (D.int 0)).toInt∧((x5.getD x0.toNat (D.int 0)).items.getD x3.toNat (D.int 0)).toInt<(↑x4.length:Int) then
 if ((x5.getD x0.toNat (D.int 0)).items.getD x3.toNat (D.int 0)).toInt.toNat+1≤x4.length then
 if ((x5.getD x0.toNat (D.int 0)).items.getD x3.toNat (D.int 0)).toInt.toNat+1≤x4.length then
 bif decide (x1<((x4.getD ((x5.getD x0.toNat (D.int 0)).items.getD x3.toNat (D.int 0)).toInt.toNat (D.int 0)).fld (3:Nat)).toInt) then
 k (.inl (Bool.false,x1,IntKind.i64.wrap (x2+((x4.getD ((x5.getD x0.toNat (D.int 0)).items.getD x3.toNat (D.int 0)).toInt.toNat (D.int 0)).fld (3:Nat)).toInt)))
 else
 (F x0 x1 (IntKind.i64.wrap (x2+((x4.getD ((x5.getD x0.toNat (D.int 0)).items.getD x3.toNat (D.int 0)).toInt.toNat (D.int 0)).fld (3:Nat)).toInt)) (IntKind.i64.wrap (x3+1)) x4 x5).bind k
 else
 none
 else
 none
 else
 none
 else
 none
 else
 none
 else
 none
 else
 none
 else
 none
 else
 none
 else
 k (.inr (x1,x2))
 else
 none
 else
 none
 else
 none
theorem c_Z47_bind {R:Type} (F:T_Z47) (x0 x1 x2 x3:Int) (x4 x5:List D) (k:(Bool×Int×Int)⊕(Int×Int)→Option R):c_Z47 F x0 x1 x2 x3 x4 x5 k=(c_Z47 F x0 x1 x2 x3 x4 x5 some).bind k:=by
 unfold c_Z47
 repeat' first
  | exact J9
  | exact J8
  | exact J7
  | apply J4
  | apply J5
  | apply Qa
  | (apply J6;intro _)
  | intro _
def n_Z47:Nat→T_Z47
 | 0,_,_,_,_,_,_=>none
 | n+1,x0,x1,x2,x3,x4,x5=>c_Z47 (n_Z47 n) x0 x1 x2 x3 x4 x5 some
noncomputable def Z47 (x0 x1 x2 x3:Int) (x4 x5:List D):Option ((Bool×Int×Int)⊕(Int×Int)):=ev (fun n=>n_Z47 n x0 x1 x2 x3 x4 x5)
def m_Z47 (F:T_Z47):JP:=⟨13,⟨(.undef::.undef::.undef::.full 1000 [] (.struct [.int .i64,.int .i64,.int .i64,.int .i64])::.undef::.int .i64::.int .i64::.undef::.undef::.undef::.full 1001 [] (.slice (.int .i64))::.undef::.int .i64::.int .i64::uu 90 ([])),[(1000,.own (.struct [.int .i64,.int .i64,.int .i64,.int .i64])),(1001,.own (.slice (.int .i64)))]⟩,[(.ret,⟨(.undef::.undef::.bool::.undef::.undef::.undef::.int .i64::uu 5 (.int .i64::uu 91 ([]))),[]⟩),(.exit 0,⟨(uu 6 (.int .i64::uu 5 (.int .i64::uu 91 ([])))),[]⟩)],fun _ ds k=>dI (fun x0 ds=>dI (fun x1 ds=>dI (fun x2 ds=>dI (fun x3 ds=>dL (fun x4 ds=>dL (fun x5 ds=>dE ((F x0 x1 x2 x3 x4 x5).bind (Sum.elim (fun y=>k 0 [.B y.1,.I y.2.1,.I y.2.2]) (fun y=>k 1 [.I y.1,.I y.2]))) ds) ds) ds) ds) ds) ds) ds⟩
theorem q_Z47 (F:T_Z47) (x0 x1 x2 x3:Int) (x4 x5:List D):Q3 (JQ []) (JR [m_Z47 F]) A 6 (JC (JA Try.f6) 13) ((m_Z47 F).sh.mk' [.I x0,.I x1,.I x2,.I x3,.L x4,.L x5]) (fun e σ'=>some (e,σ'))=c_Z47 F x0 x1 x2 x3 x4 x5 (Sum.elim (fun y=>some (.ret,SSt.mk' ⟨(.undef::.undef::.bool::.undef::.undef::.undef::.int .i64::uu 5 (.int .i64::uu 91 ([]))),[]⟩ [.B y.1,.I y.2.1,.I y.2.2])) (fun y=>some (.exit 0,SSt.mk' ⟨(uu 6 (.int .i64::uu 5 (.int .i64::uu 91 ([])))),[]⟩ [.I y.1,.I y.2]))):=by kernel_rfl
theorem m_Z47_ok:∀ n,(m_Z47 (n_Z47 n)).ok Try.prog (JC (JA Try.f6) 13):=by
 intro n
 induction n with
 | zero=>
  intro R ds k r h
  unfold m_Z47 at h
  obtain ⟨_,_,rfl,h⟩:=Jc h
  obtain ⟨_,_,rfl,h⟩:=Jc h
  obtain ⟨_,_,rfl,h⟩:=Jc h
  obtain ⟨_,_,rfl,h⟩:=Jc h
  obtain ⟨_,_,rfl,h⟩:=Jg h
  obtain ⟨_,_,rfl,h⟩:=Jg h
  obtain ⟨rfl,hE⟩:=Jr h
  obtain ⟨y,hy,hk⟩:=Js hE
  cases hy
 | succ n ih=>
  intro R ds k r h
  unfold m_Z47 at h
  obtain ⟨_,_,rfl,h⟩:=Jc h
  obtain ⟨_,_,rfl,h⟩:=Jc h
  obtain ⟨_,_,rfl,h⟩:=Jc h
  obtain ⟨_,_,rfl,h⟩:=Jc h
  obtain ⟨_,_,rfl,h⟩:=Jg h
  obtain ⟨_,_,rfl,h⟩:=Jg h
  obtain ⟨rfl,hE⟩:=Jr h
  obtain ⟨y,hy,hk⟩:=Js hE
  cases y with
  | inl y=>
   exact ⟨0,_,_,_,hk,rfl,QI px (fx:=⟨Try.func6,by kernel_rfl,by kernel_rfl⟩) JU (JZ ih JV) (by kernel_rfl) ((q_Z47 ..).trans ((c_Z47_bind ..).trans (JB hy)))⟩
  | inr y=>
   exact ⟨1,_,_,_,hk,rfl,QI px (fx:=⟨Try.func6,by kernel_rfl,by kernel_rfl⟩) JU (JZ ih JV) (by kernel_rfl) ((q_Z47 ..).trans ((c_Z47_bind ..).trans (JB hy)))⟩
noncomputable def e_Z47:JP:=m_Z47 (Z47)
theorem e_Z47_ok:(e_Z47).ok Try.prog (JC (JA Try.f6) 13):=by
 intro R ds k r h
 unfold e_Z47 m_Z47 at h
 obtain ⟨_,_,rfl,h⟩:=Jc h
 obtain ⟨_,_,rfl,h⟩:=Jc h
 obtain ⟨_,_,rfl,h⟩:=Jc h
 obtain ⟨_,_,rfl,h⟩:=Jc h
 obtain ⟨_,_,rfl,h⟩:=Jg h
 obtain ⟨_,_,rfl,h⟩:=Jg h
 obtain ⟨rfl,hE⟩:=Jr h
 obtain ⟨y,hy,hk⟩:=Js hE
 obtain ⟨n,hn⟩:=Q6 hy
 exact m_Z47_ok n R _ k r ((JB hn).trans hk)

/-!-/
def c_Z48 {R:Type} (x0:List D) (k:Bool→Option R):Option R:=
 (Z0 x0).bind (fun y0=>
 bif y0 then
 k Bool.true
 else
 (Z12 x0).bind (fun y1=>
 (Z31 y1.fst y1.snd.fst y1.snd.snd).bind (fun y2=>
 (Z46 y1.fst y1.snd.fst y1.snd.snd).bind (fun y3=>
 bif !decide (y2.fst=y3.fst) then
 bif decide (y2.fst=y3.fst) then
 k (y2.snd==y3.snd)
 else
 k Bool.false
 else
 bif !y2.snd==y3.snd then
 bif decide (y2.fst=y3.fst) then
 k (y2.snd==y3.snd)
 else
 k Bool.false
 else
 bif !y2.snd then
 bif decide (y2.fst=y3.fst) then
 k (y2.snd==y3.snd)
 else
 k Bool.false
 else
 (Z28 y1.fst y1.snd.fst).bind (fun y4=>
 bif !y4.snd then
 k Bool.false
 else
 bif decide ((↑y4.fst.length:Int)≤y1.snd.snd) then
 k Bool.false
 else
 bif decide ((3600:Int)<y2.fst) then
 k Bool.false
 else
 (Z47 y1.snd.snd y2.fst (0:Int) (0:Int) y1.fst y4.fst).bind (Sum.elim (fun y5=>
 k y5.fst) (fun y6=>
 k (decide (y6.fst≤y6.snd)))))))))
theorem c_Z48_bind {R:Type} (x0:List D) (k:Bool→Option R):c_Z48 x0 k=(c_Z48 x0 some).bind k:=by
 unfold c_Z48
 repeat' first
  | exact J9
  | exact J8
  | exact J7
  | apply J4
  | apply J5
  | apply Qa
  | (apply J6;intro _)
  | intro _
def Z48 (x0:List D):Option (Bool):=c_Z48 x0 some
def e_Z48:Ent:=⟨6,[.rd (.int .u8)],[(.bool,[.undef])],fun _ ds k=>dL (fun x0 ds=>dE ((Z48 x0).bind (fun y=>k 0 [.B y])) ds) ds⟩
theorem q_Z48 (x0:List D):QH (JQ [e_Z0,e_Z12,e_Z31,e_Z46,e_Z28]) (JR [e_Z47]) A 6 Try.f6 (Sh.mks e_Z48.sh [.L x0]).1 (fun v os=>some (v,os))=c_Z48 x0 (fun y=>QW e_Z48 0 [.B y]):=by kernel_rfl
theorem e_Z48_ok:e_Z48.ok Try.prog A:=by
 intro R ds k r h
 unfold e_Z48 at h
 obtain ⟨_,_,rfl,h⟩:=Jg h
 obtain ⟨rfl,hE⟩:=Jr h
 obtain ⟨y,hy,hk⟩:=Js hE
 exact ⟨0,_,_,_,hk,rfl,QX px (fx:=⟨Try.func6,by kernel_rfl,by kernel_rfl⟩) (Qo e_Z0_ok (Qo e_Z12_ok (Qo e_Z31_ok (Qo e_Z46_ok (Qo e_Z28_ok JU))))) (JZ e_Z47_ok JV) ((q_Z48 ..).trans ((c_Z48_bind ..).trans (JB hy)))⟩
end
end Go.Proofs.Ytaahhnjdbejfhaa
