/- Models of Go functions and their contracts, printed by a program of this session. -/
import Derived.Test.YtnoccadolcgifaaClA
set_option linter.unusedVariables false
set_option maxRecDepth 100000
namespace Go.Proofs.Ytnoccadolcgifaa
open Go Go.Rai
noncomputable section
/-!-/
def c_Z0 {R:Type} (x0:List D) (k:Bool→Option R):Option R:=
 k (decide ((65536:Int)<(↑x0.length:Int)))
theorem c_Z0_bind {R:Type} (x0:List D) (k:Bool→Option R):c_Z0 x0 k=(c_Z0 x0 some).bind k:=by
 unfold c_Z0
 repeat' first
  | exact JA
  | exact Jz
  | exact Jy
  | apply Jv
  | apply Jw
  | apply JB
  | (apply Jx;intro _)
  | intro _
def Z0 (x0:List D):Option (Bool):=c_Z0 x0 some
def e_Z0:Ent:=⟨8,[.rd (.int .u8)],[(.bool,[.undef])],fun _ ds k=>dL (fun x0 ds=>dE ((Z0 x0).bind (fun y=>k 0 [.B y])) ds) ds⟩
theorem q_Z0 (x0:List D):JX (Jr []) (Js []) A 8 Try.f8 (Sh.mks e_Z0.sh [.L x0]).1 (fun v os=>some (v,os))=c_Z0 x0 (fun y=>J0 e_Z0 0 [.B y]):=by kernel_rfl
theorem e_Z0_ok:e_Z0.ok Try.prog A:=by
 intro R ds k r h
 unfold e_Z0 at h
 obtain ⟨_,_,rfl,h⟩:=Ja h
 obtain ⟨rfl,hE⟩:=Je h
 obtain ⟨y,hy,hk⟩:=Jf hE
 exact ⟨0,_,_,_,hk,rfl,J1 px (fx:=⟨Try.func8,by kernel_rfl,by kernel_rfl⟩) Jn Jo ((q_Z0 ..).trans ((c_Z0_bind ..).trans (Jg hy)))⟩

/-!-/
def c_Z1 {R:Type} (x0:List D) (x1 x2:Int) (k:Int×List D×Int×Int→Option R):Option R:=
 bif decide (x1<(↑x0.length:Int)) then
 if 0≤x1∧x1<(↑x0.length:Int) then
 bif decide (IntKind.i64.wrap (x1+1)≤(↑x0.length:Int)) then
 k (IntKind.i64.wrap (x0.getD x1.toNat (D.int 0)).toInt,x0,IntKind.i64.wrap (x1+1),IntKind.u64.wrap (IntKind.u64.wrap (IntKind.u64.wrap (x2 * (6364136223846793005:Int))+IntKind.u64.wrap (IntKind.i64.wrap (x0.getD x1.toNat (D.int 0)).toInt))+(876876:Int)))
 else
 if (0:Int)≤(40:Int) then
 k (IntKind.i64.wrap (IntKind.u64.wrap (↑(BitVec.ofInt IntKind.u64.bits ((IntKind.u64.wrap (IntKind.u64.wrap (IntKind.u64.wrap (x2 * (6364136223846793005:Int))+IntKind.u64.wrap (IntKind.i64.wrap (x0.getD x1.toNat (D.int 0)).toInt))+(876876:Int))).fdiv ((2:Int) ^ Min.min (Int.toNat (40:Int)) IntKind.u64.bits)) &&& BitVec.ofInt IntKind.u64.bits (255:Int)).toNat:Int)),x0,IntKind.i64.wrap (x1+1),IntKind.u64.wrap (IntKind.u64.wrap (IntKind.u64.wrap (x2 * (6364136223846793005:Int))+IntKind.u64.wrap (IntKind.i64.wrap (x0.getD x1.toNat (D.int 0)).toInt))+(876876:Int)))
 else
 none
 else
 none
 else
 bif decide (IntKind.i64.wrap (x1+1)≤(↑x0.length:Int)) then
 k ((0:Int),x0,IntKind.i64.wrap (x1+1),IntKind.u64.wrap (IntKind.u64.wrap (IntKind.u64.wrap (x2 * (6364136223846793005:Int))+IntKind.u64.wrap (0:Int))+(876876:Int)))
 else
 if (0:Int)≤(40:Int) then
 k (IntKind.i64.wrap (IntKind.u64.wrap (↑(BitVec.ofInt IntKind.u64.bits ((IntKind.u64.wrap (IntKind.u64.wrap (IntKind.u64.wrap (x2 * (6364136223846793005:Int))+IntKind.u64.wrap (0:Int))+(876876:Int))).fdiv ((2:Int) ^ Min.min (Int.toNat (40:Int)) IntKind.u64.bits)) &&& BitVec.ofInt IntKind.u64.bits (255:Int)).toNat:Int)),x0,IntKind.i64.wrap (x1+1),IntKind.u64.wrap (IntKind.u64.wrap (IntKind.u64.wrap (x2 * (6364136223846793005:Int))+IntKind.u64.wrap (0:Int))+(876876:Int)))
 else
 none
theorem c_Z1_bind {R:Type} (x0:List D) (x1 x2:Int) (k:Int×List D×Int×Int→Option R):c_Z1 x0 x1 x2 k=(c_Z1 x0 x1 x2 some).bind k:=by
 unfold c_Z1
 repeat' first
  | exact JA
  | exact Jz
  | exact Jy
  | apply Jv
  | apply Jw
  | apply JB
  | (apply Jx;intro _)
  | intro _
def Z1 (x0:List D) (x1 x2:Int):Option (Int×List D×Int×Int):=c_Z1 x0 x1 x2 some
def e_Z1:Ent:=⟨128,[.obox (.agg [.rd (.int .u8),.int .i64,.int .u64])],[(.int .i64,[.obox (.agg [.rd (.int .u8),.int .i64,.int .u64])])],fun _ ds k=>dL (fun x0 ds=>dI (fun x1 ds=>dI (fun x2 ds=>dE ((Z1 x0 x1 x2).bind (fun y=>k 0 [.I y.1,.L y.2.1,.I y.2.2.1,.I y.2.2.2])) ds) ds) ds) ds⟩
theorem q_Z1 (x0:List D) (x1 x2:Int):JX (Jr []) (Js []) A 128 Try.f128 (Sh.mks e_Z1.sh [.L x0,.I x1,.I x2]).1 (fun v os=>some (v,os))=c_Z1 x0 x1 x2 (fun y=>J0 e_Z1 0 [.I y.1,.L y.2.1,.I y.2.2.1,.I y.2.2.2]):=by kernel_rfl
theorem e_Z1_ok:e_Z1.ok Try.prog A:=by
 intro R ds k r h
 unfold e_Z1 at h
 obtain ⟨_,_,rfl,h⟩:=Ja h
 obtain ⟨_,_,rfl,h⟩:=Jb h
 obtain ⟨_,_,rfl,h⟩:=Jb h
 obtain ⟨rfl,hE⟩:=Je h
 obtain ⟨y,hy,hk⟩:=Jf hE
 exact ⟨0,_,_,_,hk,rfl,J1 px (fx:=⟨Try.func128,by kernel_rfl,by kernel_rfl⟩) Jn Jo ((q_Z1 ..).trans ((c_Z1_bind ..).trans (Jg hy)))⟩

/-!-/
def c_Z2 {R:Type} (x0:List D) (x1 x2 x3:Int) (k:Int×List D×Int×Int→Option R):Option R:=
 bif decide (x3≤(1:Int)) then
 k ((0:Int),x0,x1,x2)
 else
 (Z1 x0 x1 x2).bind (fun y0=>
 bif decide ((200:Int)<x3) then
 (Z1 y0.snd.fst y0.snd.snd.fst y0.snd.snd.snd).bind (fun y1=>
 if x3≠(0:Int) then
 k ((IntKind.i64.wrap (IntKind.i64.wrap (y0.fst * (256:Int))+y1.fst)).tmod x3,y1.snd.fst,y1.snd.snd.fst,y1.snd.snd.snd)
 else
 none)
 else
 if x3≠(0:Int) then
 k (y0.fst.tmod x3,y0.snd.fst,y0.snd.snd.fst,y0.snd.snd.snd)
 else
 none)
theorem c_Z2_bind {R:Type} (x0:List D) (x1 x2 x3:Int) (k:Int×List D×Int×Int→Option R):c_Z2 x0 x1 x2 x3 k=(c_Z2 x0 x1 x2 x3 some).bind k:=by
 unfold c_Z2
 repeat' first
  | exact JA
  | exact Jz
  | exact Jy
  | apply Jv
  | apply Jw
  | apply JB
  | (apply Jx;intro _)
  | intro _
def Z2 (x0:List D) (x1 x2 x3:Int):Option (Int×List D×Int×Int):=c_Z2 x0 x1 x2 x3 some
def e_Z2:Ent:=⟨84,[.obox (.agg [.rd (.int .u8),.int .i64,.int .u64]),.int .i64],[(.int .i64,[.obox (.agg [.rd (.int .u8),.int .i64,.int .u64]),.undef])],fun _ ds k=>dL (fun x0 ds=>dI (fun x1 ds=>dI (fun x2 ds=>dI (fun x3 ds=>dE ((Z2 x0 x1 x2 x3).bind (fun y=>k 0 [.I y.1,.L y.2.1,.I y.2.2.1,.I y.2.2.2])) ds) ds) ds) ds) ds⟩
theorem q_Z2 (x0:List D) (x1 x2 x3:Int):JX (Jr [e_Z1]) (Js []) A 84 Try.f84 (Sh.mks e_Z2.sh [.L x0,.I x1,.I x2,.I x3]).1 (fun v os=>some (v,os))=c_Z2 x0 x1 x2 x3 (fun y=>J0 e_Z2 0 [.I y.1,.L y.2.1,.I y.2.2.1,.I y.2.2.2]):=by kernel_rfl
theorem e_Z2_ok:e_Z2.ok Try.prog A:=by
 intro R ds k r h
 unfold e_Z2 at h
 obtain ⟨_,_,rfl,h⟩:=Ja h
 obtain ⟨_,_,rfl,h⟩:=Jb h
 obtain ⟨_,_,rfl,h⟩:=Jb h
 obtain ⟨_,_,rfl,h⟩:=Jb h
 obtain ⟨rfl,hE⟩:=Je h
 obtain ⟨y,hy,hk⟩:=Jf hE
 exact ⟨0,_,_,_,hk,rfl,J1 px (fx:=⟨Try.func84,by kernel_rfl,by kernel_rfl⟩) (Jt e_Z1_ok Jn) Jo ((q_Z2 ..).trans ((c_Z2_bind ..).trans (Jg hy)))⟩

/-!-/
def c_Z3 {R:Type} (x0:List D) (x1 x2 x3:Int) (k:Bool×List D×Int×Int→Option R):Option R:=
 (Z2 x0 x1 x2 x3).bind (fun y0=>
 k (decide (y0.fst=(0:Int)),y0.snd.fst,y0.snd.snd.fst,y0.snd.snd.snd))
theorem c_Z3_bind {R:Type} (x0:List D) (x1 x2 x3:Int) (k:Bool×List D×Int×Int→Option R):c_Z3 x0 x1 x2 x3 k=(c_Z3 x0 x1 x2 x3 some).bind k:=by
 unfold c_Z3
 repeat' first
  | exact JA
  | exact Jz
  | exact Jy
  | apply Jv
  | apply Jw
  | apply JB
  | (apply Jx;intro _)
  | intro _
def Z3 (x0:List D) (x1 x2 x3:Int):Option (Bool×List D×Int×Int):=c_Z3 x0 x1 x2 x3 some
def e_Z3:Ent:=⟨113,[.obox (.agg [.rd (.int .u8),.int .i64,.int .u64]),.int .i64],[(.bool,[.obox (.agg [.rd (.int .u8),.int .i64,.int .u64]),.undef])],fun _ ds k=>dL (fun x0 ds=>dI (fun x1 ds=>dI (fun x2 ds=>dI (fun x3 ds=>dE ((Z3 x0 x1 x2 x3).bind (fun y=>k 0 [.B y.1,.L y.2.1,.I y.2.2.1,.I y.2.2.2])) ds) ds) ds) ds) ds⟩
theorem q_Z3 (x0:List D) (x1 x2 x3:Int):JX (Jr [e_Z2]) (Js []) A 113 Try.f113 (Sh.mks e_Z3.sh [.L x0,.I x1,.I x2,.I x3]).1 (fun v os=>some (v,os))=c_Z3 x0 x1 x2 x3 (fun y=>J0 e_Z3 0 [.B y.1,.L y.2.1,.I y.2.2.1,.I y.2.2.2]):=by kernel_rfl
theorem e_Z3_ok:e_Z3.ok Try.prog A:=by
 intro R ds k r h
 unfold e_Z3 at h
 obtain ⟨_,_,rfl,h⟩:=Ja h
 obtain ⟨_,_,rfl,h⟩:=Jb h
 obtain ⟨_,_,rfl,h⟩:=Jb h
 obtain ⟨_,_,rfl,h⟩:=Jb h
 obtain ⟨rfl,hE⟩:=Je h
 obtain ⟨y,hy,hk⟩:=Jf hE
 exact ⟨0,_,_,_,hk,rfl,J1 px (fx:=⟨Try.func113,by kernel_rfl,by kernel_rfl⟩) (Jt e_Z2_ok Jn) Jo ((q_Z3 ..).trans ((c_Z3_bind ..).trans (Jg hy)))⟩

/-!-/
abbrev T_Z4:=Int→Int→Int→List D→Int→Int→List D→Option (List D×Int×Int×List D)
def c_Z4 {R:Type} (F:T_Z4) (x0 x1 x2:Int) (x3:List D) (x4 x5:Int) (x6:List D) (k:List D×Int×Int×List D→Option R):Option R:=
 bif decide (x2<x0) then
 (Z2 x3 x4 x5 (3:Int)).bind (fun y0=>
 (Z2 y0.snd.fst y0.snd.snd.fst y0.snd.snd.snd (4:Int)).bind (fun y1=>
 if x6.length+[D.node [D.int (IntKind.i64.wrap (IntKind.i64.wrap (x1+1)+y0.fst)),D.int (IntKind.i64.wrap ((1:Int)+y1.fst))]].length≤(4294967296:Nat) then
 (F x0 (IntKind.i64.wrap (IntKind.i64.wrap (x1+1)+y0.fst)) (IntKind.i64.wrap (x2+1)) y1.snd.fst y1.snd.snd.fst y1.snd.snd.snd (x6++[D.node [D.int (IntKind.i64.wrap (IntKind.i64.wrap (x1+1)+y0.fst)),D.int (IntKind.i64.wrap ((1:Int)+y1.fst))]])).bind k
 else
 none))
 else
 k (x3,x4,x5,x6)
theorem c_Z4_bind {R:Type} (F:T_Z4) (x0 x1 x2:Int) (x3:List D) (x4 x5:Int) (x6:List D) (k:List D×Int×Int×List D→Option R):c_Z4 F x0 x1 x2 x3 x4 x5 x6 k=(c_Z4 F x0 x1 x2 x3 x4 x5 x6 some).bind k:=by
 unfold c_Z4
 repeat' first
  | exact JA
  | exact Jz
  | exact Jy
  | apply Jv
  | apply Jw
  | apply JB
  | (apply Jx;intro _)
  | intro _
def n_Z4:Nat→T_Z4
 | 0,_,_,_,_,_,_,_=>none
 | n+1,x0,x1,x2,x3,x4,x5,x6=>c_Z4 (n_Z4 n) x0 x1 x2 x3 x4 x5 x6 some
noncomputable def Z4 (x0 x1 x2:Int) (x3:List D) (x4 x5:Int) (x6:List D):Option (List D×Int×Int×List D):=ev (fun n=>n_Z4 n x0 x1 x2 x3 x4 x5 x6)
def m_Z4 (F:T_Z4):Jq:=⟨4,⟨(.ptr 1000 [0]::.int .i64::.undef::.undef::.undef::.full 1001 [] (.struct [.int .i64,.int .i64])::.int .i64::.int .i64::uu 20 ([])),[(1000,.obox (.agg [.rd (.int .u8),.int .i64,.int .u64])),(1001,.own (.struct [.int .i64,.int .i64]))]⟩,[(.exit 0,⟨(.ptr 1000 [0]::uu 4 (.full 1001 [] (.struct [.int .i64,.int .i64])::uu 22 ([]))),[(1000,.obox (.agg [.rd (.int .u8),.int .i64,.int .u64])),(1001,.own (.struct [.int .i64,.int .i64]))]⟩)],fun _ ds k=>dI (fun x0 ds=>dI (fun x1 ds=>dI (fun x2 ds=>dL (fun x3 ds=>dI (fun x4 ds=>dI (fun x5 ds=>dL (fun x6 ds=>dE ((F x0 x1 x2 x3 x4 x5 x6).bind (fun y=>k 0 [.L y.1,.I y.2.1,.I y.2.2.1,.L y.2.2.2])) ds) ds) ds) ds) ds) ds) ds) ds⟩
theorem q_Z4 (F:T_Z4) (x0 x1 x2:Int) (x3:List D) (x4 x5:Int) (x6:List D):J2 (Jr [e_Z2]) (Js [m_Z4 F]) A 111 (Jk (Jh Try.f111) 4) ((m_Z4 F).sh.mk' [.I x0,.I x1,.I x2,.L x3,.I x4,.I x5,.L x6]) (fun e σ'=>some (e,σ'))=c_Z4 F x0 x1 x2 x3 x4 x5 x6 (fun y=>some (.exit 0,SSt.mk' ⟨(.ptr 1000 [0]::uu 4 (.full 1001 [] (.struct [.int .i64,.int .i64])::uu 22 ([]))),[(1000,.obox (.agg [.rd (.int .u8),.int .i64,.int .u64])),(1001,.own (.struct [.int .i64,.int .i64]))]⟩ [.L y.1,.I y.2.1,.I y.2.2.1,.L y.2.2.2])):=by kernel_rfl
theorem m_Z4_ok:∀ n,(m_Z4 (n_Z4 n)).ok Try.prog (Jk (Jh Try.f111) 4):=by
 intro n
 induction n with
 | zero=>
  intro R ds k r h
  unfold m_Z4 at h
  obtain ⟨_,_,rfl,h⟩:=Jb h
  obtain ⟨_,_,rfl,h⟩:=Jb h
  obtain ⟨_,_,rfl,h⟩:=Jb h
  obtain ⟨_,_,rfl,h⟩:=Ja h
  obtain ⟨_,_,rfl,h⟩:=Jb h
  obtain ⟨_,_,rfl,h⟩:=Jb h
  obtain ⟨_,_,rfl,h⟩:=Ja h
  obtain ⟨rfl,hE⟩:=Je h
  obtain ⟨y,hy,hk⟩:=Jf hE
  cases hy
 | succ n ih=>
  intro R ds k r h
  unfold m_Z4 at h
  obtain ⟨_,_,rfl,h⟩:=Jb h
  obtain ⟨_,_,rfl,h⟩:=Jb h
  obtain ⟨_,_,rfl,h⟩:=Jb h
  obtain ⟨_,_,rfl,h⟩:=Ja h
  obtain ⟨_,_,rfl,h⟩:=Jb h
  obtain ⟨_,_,rfl,h⟩:=Jb h
  obtain ⟨_,_,rfl,h⟩:=Ja h
  obtain ⟨rfl,hE⟩:=Je h
  obtain ⟨y,hy,hk⟩:=Jf hE
  exact ⟨0,_,_,_,hk,rfl,JP px (fx:=⟨Try.func111,by kernel_rfl,by kernel_rfl⟩) (Jt e_Z2_ok Jn) (Jm ih Jo) (by kernel_rfl) ((q_Z4 ..).trans ((c_Z4_bind ..).trans (Jg hy)))⟩
noncomputable def e_Z4:Jq:=m_Z4 (Z4)
theorem e_Z4_ok:(e_Z4).ok Try.prog (Jk (Jh Try.f111) 4):=by
 intro R ds k r h
 unfold e_Z4 m_Z4 at h
 obtain ⟨_,_,rfl,h⟩:=Jb h
 obtain ⟨_,_,rfl,h⟩:=Jb h
 obtain ⟨_,_,rfl,h⟩:=Jb h
 obtain ⟨_,_,rfl,h⟩:=Ja h
 obtain ⟨_,_,rfl,h⟩:=Jb h
 obtain ⟨_,_,rfl,h⟩:=Jb h
 obtain ⟨_,_,rfl,h⟩:=Ja h
 obtain ⟨rfl,hE⟩:=Je h
 obtain ⟨y,hy,hk⟩:=Jf hE
 obtain ⟨n,hn⟩:=J5 hy
 exact m_Z4_ok n R _ k r ((Jg hn).trans hk)

/-!-/
def c_Z5 {R:Type} (x0:List D) (x1 x2 x3:Int) (k:List D×List D×Int×Int→Option R):Option R:=
 (Z4 x3 (0:Int) (0:Int) x0 x1 x2 []).bind (fun y0=>
 k (y0.snd.snd.snd,y0.fst,y0.snd.fst,y0.snd.snd.fst))
theorem c_Z5_bind {R:Type} (x0:List D) (x1 x2 x3:Int) (k:List D×List D×Int×Int→Option R):c_Z5 x0 x1 x2 x3 k=(c_Z5 x0 x1 x2 x3 some).bind k:=by
 unfold c_Z5
 repeat' first
  | exact JA
  | exact Jz
  | exact Jy
  | apply Jv
  | apply Jw
  | apply JB
  | (apply Jx;intro _)
  | intro _
def Z5 (x0:List D) (x1 x2 x3:Int):Option (List D×List D×Int×Int):=c_Z5 x0 x1 x2 x3 some
def e_Z5:Ent:=⟨111,[.obox (.agg [.rd (.int .u8),.int .i64,.int .u64]),.int .i64],[(.own (.struct [.int .i64,.int .i64]),[.obox (.agg [.rd (.int .u8),.int .i64,.int .u64]),.undef])],fun _ ds k=>dL (fun x0 ds=>dI (fun x1 ds=>dI (fun x2 ds=>dI (fun x3 ds=>dE ((Z5 x0 x1 x2 x3).bind (fun y=>k 0 [.L y.1,.L y.2.1,.I y.2.2.1,.I y.2.2.2])) ds) ds) ds) ds) ds⟩
theorem q_Z5 (x0:List D) (x1 x2 x3:Int):JX (Jr []) (Js [e_Z4]) A 111 Try.f111 (Sh.mks e_Z5.sh [.L x0,.I x1,.I x2,.I x3]).1 (fun v os=>some (v,os))=c_Z5 x0 x1 x2 x3 (fun y=>J0 e_Z5 0 [.L y.1,.L y.2.1,.I y.2.2.1,.I y.2.2.2]):=by kernel_rfl
theorem e_Z5_ok:e_Z5.ok Try.prog A:=by
 intro R ds k r h
 unfold e_Z5 at h
 obtain ⟨_,_,rfl,h⟩:=Ja h
 obtain ⟨_,_,rfl,h⟩:=Jb h
 obtain ⟨_,_,rfl,h⟩:=Jb h
 obtain ⟨_,_,rfl,h⟩:=Jb h
 obtain ⟨rfl,hE⟩:=Je h
 obtain ⟨y,hy,hk⟩:=Jf hE
 exact ⟨0,_,_,_,hk,rfl,J1 px (fx:=⟨Try.func111,by kernel_rfl,by kernel_rfl⟩) Jn (Jm e_Z4_ok Jo) ((q_Z5 ..).trans ((c_Z5_bind ..).trans (Jg hy)))⟩

/-!-/
def c_Z6 {R:Type} (x0 x1 x2 x3:Int) (k:Bool→Option R):Option R:=
 bif decide (x0<x2) then
 k Bool.true
 else
 bif decide (x0=x2) then
 k (decide (x1<x3))
 else
 k Bool.false
theorem c_Z6_bind {R:Type} (x0 x1 x2 x3:Int) (k:Bool→Option R):c_Z6 x0 x1 x2 x3 k=(c_Z6 x0 x1 x2 x3 some).bind k:=by
 unfold c_Z6
 repeat' first
  | exact JA
  | exact Jz
  | exact Jy
  | apply Jv
  | apply Jw
  | apply JB
  | (apply Jx;intro _)
  | intro _
def Z6 (x0 x1 x2 x3:Int):Option (Bool):=c_Z6 x0 x1 x2 x3 some
def e_Z6:Ent:=⟨109,[.agg [.int .i64,.int .i64],.agg [.int .i64,.int .i64]],[(.bool,[.undef,.undef])],fun _ ds k=>dI (fun x0 ds=>dI (fun x1 ds=>dI (fun x2 ds=>dI (fun x3 ds=>dE ((Z6 x0 x1 x2 x3).bind (fun y=>k 0 [.B y])) ds) ds) ds) ds) ds⟩
theorem q_Z6 (x0 x1 x2 x3:Int):JX (Jr []) (Js []) A 109 Try.f109 (Sh.mks e_Z6.sh [.I x0,.I x1,.I x2,.I x3]).1 (fun v os=>some (v,os))=c_Z6 x0 x1 x2 x3 (fun y=>J0 e_Z6 0 [.B y]):=by kernel_rfl
theorem e_Z6_ok:e_Z6.ok Try.prog A:=by
 intro R ds k r h
 unfold e_Z6 at h
 obtain ⟨_,_,rfl,h⟩:=Jb h
 obtain ⟨_,_,rfl,h⟩:=Jb h
 obtain ⟨_,_,rfl,h⟩:=Jb h
 obtain ⟨_,_,rfl,h⟩:=Jb h
 obtain ⟨rfl,hE⟩:=Je h
 obtain ⟨y,hy,hk⟩:=Jf hE
 exact ⟨0,_,_,_,hk,rfl,J1 px (fx:=⟨Try.func109,by kernel_rfl,by kernel_rfl⟩) Jn Jo ((q_Z6 ..).trans ((c_Z6_bind ..).trans (Jg hy)))⟩

/-!-/
abbrev T_Z7:=Int→List D→List D→Int→Int→Option (Int×List D×List D×Int×Int)
def c_Z7 {R:Type} (F:T_Z7) (x0:Int) (x1 x2:List D) (x3 x4:Int) (k:Int×List D×List D×Int×Int→Option R):Option R:=
 bif decide (x0<(↑x2.length:Int)) then
 if 0≤x0∧x0<(↑x2.length:Int) then
 if x0.toNat+1≤x2.length then
 (Z6 (((x2.getD x0.toNat (D.int 0)).fld (0:Nat)).toInt) (((x2.getD x0.toNat (D.int 0)).fld (1:Nat)).toInt) x3 x4).bind (fun y0=>
 bif y0 then
 (F (IntKind.i64.wrap (x0+1)) x1 x2 x3 x4).bind k
 else
 k (x0,x1,x2,x3,x4))
 else
 none
 else
 none
 else
 k (x0,x1,x2,x3,x4)
theorem c_Z7_bind {R:Type} (F:T_Z7) (x0:Int) (x1 x2:List D) (x3 x4:Int) (k:Int×List D×List D×Int×Int→Option R):c_Z7 F x0 x1 x2 x3 x4 k=(c_Z7 F x0 x1 x2 x3 x4 some).bind k:=by
 unfold c_Z7
 repeat' first
  | exact JA
  | exact Jz
  | exact Jy
  | apply Jv
  | apply Jw
  | apply JB
  | (apply Jx;intro _)
  | intro _
def n_Z7:Nat→T_Z7
 | 0,_,_,_,_,_=>none
 | n+1,x0,x1,x2,x3,x4=>c_Z7 (n_Z7 n) x0 x1 x2 x3 x4 some
noncomputable def Z7 (x0:Int) (x1 x2:List D) (x3 x4:Int):Option (Int×List D×List D×Int×Int):=ev (fun n=>n_Z7 n x0 x1 x2 x3 x4)
def m_Z7 (F:T_Z7):Jq:=⟨2,⟨(.undef::.undef::.ptr 1000 [0]::.ptr 1001 [0]::.ptr 1002 [0]::.int .i64::uu 50 ([])),[(1000,.obox (.agg [.rd (.struct [.int .i64,.int .i64]),.own (.struct [.int .i64,.int .i64])])),(1001,.obox (.agg [.int .i64,.int .i64])),(1002,.obox (.agg [.nilsl,.nilsl]))]⟩,[(.exit 0,⟨(.undef::.undef::.ptr 1000 [0]::.ptr 1001 [0]::.ptr 1002 [0]::.int .i64::uu 50 ([])),[(1000,.obox (.agg [.rd (.struct [.int .i64,.int .i64]),.own (.struct [.int .i64,.int .i64])])),(1001,.obox (.agg [.int .i64,.int .i64])),(1002,.obox (.agg [.nilsl,.nilsl]))]⟩)],fun _ ds k=>dI (fun x0 ds=>dL (fun x1 ds=>dL (fun x2 ds=>dI (fun x3 ds=>dI (fun x4 ds=>dE ((F x0 x1 x2 x3 x4).bind (fun y=>k 0 [.I y.1,.L y.2.1,.L y.2.2.1,.I y.2.2.2.1,.I y.2.2.2.2])) ds) ds) ds) ds) ds) ds⟩
theorem q_Z7 (F:T_Z7) (x0:Int) (x1 x2:List D) (x3 x4:Int):J2 (Jr [e_Z6]) (Js [m_Z7 F]) A 112 (Jk (Jh Try.f112) 2) ((m_Z7 F).sh.mk' [.I x0,.L x1,.L x2,.I x3,.I x4]) (fun e σ'=>some (e,σ'))=c_Z7 F x0 x1 x2 x3 x4 (fun y=>some (.exit 0,SSt.mk' ⟨(.undef::.undef::.ptr 1000 [0]::.ptr 1001 [0]::.ptr 1002 [0]::.int .i64::uu 50 ([])),[(1000,.obox (.agg [.rd (.struct [.int .i64,.int .i64]),.own (.struct [.int .i64,.int .i64])])),(1001,.obox (.agg [.int .i64,.int .i64])),(1002,.obox (.agg [.nilsl,.nilsl]))]⟩ [.I y.1,.L y.2.1,.L y.2.2.1,.I y.2.2.2.1,.I y.2.2.2.2])):=by kernel_rfl
theorem m_Z7_ok:∀ n,(m_Z7 (n_Z7 n)).ok Try.prog (Jk (Jh Try.f112) 2):=by
 intro n
 induction n with
 | zero=>
  intro R ds k r h
  unfold m_Z7 at h
  obtain ⟨_,_,rfl,h⟩:=Jb h
  obtain ⟨_,_,rfl,h⟩:=Ja h
  obtain ⟨_,_,rfl,h⟩:=Ja h
  obtain ⟨_,_,rfl,h⟩:=Jb h
  obtain ⟨_,_,rfl,h⟩:=Jb h
  obtain ⟨rfl,hE⟩:=Je h
  obtain ⟨y,hy,hk⟩:=Jf hE
  cases hy
 | succ n ih=>
  intro R ds k r h
  unfold m_Z7 at h
  obtain ⟨_,_,rfl,h⟩:=Jb h
  obtain ⟨_,_,rfl,h⟩:=Ja h
  obtain ⟨_,_,rfl,h⟩:=Ja h
  obtain ⟨_,_,rfl,h⟩:=Jb h
  obtain ⟨_,_,rfl,h⟩:=Jb h
  obtain ⟨rfl,hE⟩:=Je h
  obtain ⟨y,hy,hk⟩:=Jf hE
  exact ⟨0,_,_,_,hk,rfl,JP px (fx:=⟨Try.func112,by kernel_rfl,by kernel_rfl⟩) (Jt e_Z6_ok Jn) (Jm ih Jo) (by kernel_rfl) ((q_Z7 ..).trans ((c_Z7_bind ..).trans (Jg hy)))⟩
noncomputable def e_Z7:Jq:=m_Z7 (Z7)
theorem e_Z7_ok:(e_Z7).ok Try.prog (Jk (Jh Try.f112) 2):=by
 intro R ds k r h
 unfold e_Z7 m_Z7 at h
 obtain ⟨_,_,rfl,h⟩:=Jb h
 obtain ⟨_,_,rfl,h⟩:=Ja h
 obtain ⟨_,_,rfl,h⟩:=Ja h
 obtain ⟨_,_,rfl,h⟩:=Jb h
 obtain ⟨_,_,rfl,h⟩:=Jb h
 obtain ⟨rfl,hE⟩:=Je h
 obtain ⟨y,hy,hk⟩:=Jf hE
 obtain ⟨n,hn⟩:=J5 hy
 exact m_Z7_ok n R _ k r ((Jg hn).trans hk)

/-!-/
def c_Z8 {R:Type} (x0 x1:List D) (k:List D×List D→Option R):Option R:=
 if ([]:List D).length+x0.length≤(4294967296:Nat) then
 if ([]:List D).length+x1.length≤(4294967296:Nat) then
 k ([]++x0,[]++x1)
 else
 none
 else
 none
theorem c_Z8_bind {R:Type} (x0 x1:List D) (k:List D×List D→Option R):c_Z8 x0 x1 k=(c_Z8 x0 x1 some).bind k:=by
 unfold c_Z8
 repeat' first
  | exact JA
  | exact Jz
  | exact Jy
  | apply Jv
  | apply Jw
  | apply JB
  | (apply Jx;intro _)
  | intro _
def Z8 (x0 x1:List D):Option (List D×List D):=c_Z8 x0 x1 some
def e_Z8:Ent:=⟨144,[.agg [.rd (.struct [.int .i64,.int .i64]),.rd (.struct [.int .i64,.int .i64])]],[(.agg [.own (.struct [.int .i64,.int .i64]),.own (.struct [.int .i64,.int .i64])],[.undef])],fun _ ds k=>dL (fun x0 ds=>dL (fun x1 ds=>dE ((Z8 x0 x1).bind (fun y=>k 0 [.L y.1,.L y.2])) ds) ds) ds⟩
theorem q_Z8 (x0 x1:List D):JX (Jr []) (Js []) A 144 Try.f144 (Sh.mks e_Z8.sh [.L x0,.L x1]).1 (fun v os=>some (v,os))=c_Z8 x0 x1 (fun y=>J0 e_Z8 0 [.L y.1,.L y.2]):=by kernel_rfl
theorem e_Z8_ok:e_Z8.ok Try.prog A:=by
 intro R ds k r h
 unfold e_Z8 at h
 obtain ⟨_,_,rfl,h⟩:=Ja h
 obtain ⟨_,_,rfl,h⟩:=Ja h
 obtain ⟨rfl,hE⟩:=Je h
 obtain ⟨y,hy,hk⟩:=Jf hE
 exact ⟨0,_,_,_,hk,rfl,J1 px (fx:=⟨Try.func144,by kernel_rfl,by kernel_rfl⟩) Jn Jo ((q_Z8 ..).trans ((c_Z8_bind ..).trans (Jg hy)))⟩

/-!-/
def c_Z9 {R:Type} (x0:List D) (x1 x2:Int) (k:List D×List D→Option R):Option R:=
 (Z7 (0:Int) x0 [] x1 x2).bind (fun y0=>
 (Z8 y0.snd.fst y0.snd.snd.fst).bind (fun y1=>
 bif decide (y0.fst<(↑y0.snd.snd.fst.length:Int)) then
 if 0≤y0.fst∧y0.fst<(↑y0.snd.snd.fst.length:Int) then
 if y0.fst.toNat+1≤y0.snd.snd.fst.length then
 bif decide (((y0.snd.snd.fst.getD y0.fst.toNat (D.int 0)).fld (0:Nat)).toInt=y0.snd.snd.snd.fst)&&(decide (((y0.snd.snd.fst.getD y0.fst.toNat (D.int 0)).fld (1:Nat)).toInt=y0.snd.snd.snd.snd)&&Bool.true) then
 k (y1.fst,y1.snd)
 else
 if (0:Int)≤(0:Int)∧0≤y0.fst∧y0.fst≤(↑y0.snd.snd.fst.length:Int) then
 if (0:Nat)+(y0.fst.toNat - (0:Nat))≤y0.snd.snd.fst.length then
 if ([]:List D).length+(List.take (y0.fst.toNat - (0:Nat)) (List.drop (0:Nat) y0.snd.snd.fst)).length≤(4294967296:Nat) then
 if ([]++List.take (y0.fst.toNat - (0:Nat)) (List.drop (0:Nat) y0.snd.snd.fst)).length+[D.node [D.int y0.snd.snd.snd.fst,D.int y0.snd.snd.snd.snd]].length≤(4294967296:Nat) then
 if 0≤y0.fst∧y0.fst≤(↑y0.snd.snd.fst.length:Int)∧(↑y0.snd.snd.fst.length:Int)≤(↑y0.snd.snd.fst.length:Int) then
 if y0.fst.toNat+(y0.snd.snd.fst.length - y0.fst.toNat)≤y0.snd.snd.fst.length then
 if ([]++List.take (y0.fst.toNat - (0:Nat)) (List.drop (0:Nat) y0.snd.snd.fst)++[D.node [D.int y0.snd.snd.snd.fst,D.int y0.snd.snd.snd.snd]]).length+(List.take (y0.snd.snd.fst.length - y0.fst.toNat) (List.drop y0.fst.toNat y0.snd.snd.fst)).length≤(4294967296:Nat) then
 k (y1.fst,[]++List.take (y0.fst.toNat - (0:Nat)) (List.drop (0:Nat) y0.snd.snd.fst)++[D.node [D.int y0.snd.snd.snd.fst,D.int y0.snd.snd.snd.snd]]++List.take (y0.snd.snd.fst.length - y0.fst.toNat) (List.drop y0.fst.toNat y0.snd.snd.fst))
 else
 none
 else
 none
 else
 none
 else
 none
 else
 none
 else
 none
 else
 none
 else
 none
 else
 none
 else
 if (0:Int)≤(0:Int)∧0≤y0.fst∧y0.fst≤(↑y0.snd.snd.fst.length:Int) then
 if (0:Nat)+(y0.fst.toNat - (0:Nat))≤y0.snd.snd.fst.length then
 if ([]:List D).length+(List.take (y0.fst.toNat - (0:Nat)) (List.drop (0:Nat) y0.snd.snd.fst)).length≤(4294967296:Nat) then
 if ([]++List.take (y0.fst.toNat - (0:Nat)) (List.drop (0:Nat) y0.snd.snd.fst)).length+[D.node [D.int y0.snd.snd.snd.fst,D.int y0.snd.snd.snd.snd]].length≤(4294967296:Nat) then
 if 0≤y0.fst∧y0.fst≤(↑y0.snd.snd.fst.length:Int)∧(↑y0.snd.snd.fst.length:Int)≤(↑y0.snd.snd.fst.length:Int) then
 if y0.fst.toNat+(y0.snd.snd.fst.length - y0.fst.toNat)≤y0.snd.snd.fst.length then
 if ([]++List.take (y0.fst.toNat - (0:Nat)) (List.drop (0:Nat) y0.snd.snd.fst)++[D.node [D.int y0.snd.snd.snd.fst,D.int y0.snd.snd.snd.snd]]).length+(List.take (y0.snd.snd.fst.length - y0.fst.toNat) (List.drop y0.fst.toNat y0.snd.snd.fst)).length≤(4294967296:Nat) then
 k (y1.fst,[]++List.take (y0.fst.toNat - (0:Nat)) (List.drop (0:Nat) y0.snd.snd.fst)++[D.node [D.int y0.snd.snd.snd.fst,D.int y0.snd.snd.snd.snd]]++List.take (y0.snd.snd.fst.length - y0.fst.toNat) (List.drop y0.fst.toNat y0.snd.snd.fst))
 else
 none
 else
 none
 else
 none
 else
 none
 else
 none
 else
 none
 else
 none))
theorem c_Z9_bind {R:Type} (x0:List D) (x1 x2:Int) (k:List D×List D→Option R):c_Z9 x0 x1 x2 k=(c_Z9 x0 x1 x2 some).bind k:=by
 unfold c_Z9
 repeat' first
  | exact JA
  | exact Jz
  | exact Jy
  | apply Jv
  | apply Jw
  | apply JB
  | (apply Jx;intro _)
  | intro _
def Z9 (x0:List D) (x1 x2:Int):Option (List D×List D):=c_Z9 x0 x1 x2 some
def e_Z9:Ent:=⟨112,[.agg [.rd (.struct [.int .i64,.int .i64]),.nilsl],.agg [.int .i64,.int .i64]],[(.agg [.own (.struct [.int .i64,.int .i64]),.own (.struct [.int .i64,.int .i64])],[.undef,.undef])],fun _ ds k=>dL (fun x0 ds=>dI (fun x1 ds=>dI (fun x2 ds=>dE ((Z9 x0 x1 x2).bind (fun y=>k 0 [.L y.1,.L y.2])) ds) ds) ds) ds⟩
theorem q_Z9 (x0:List D) (x1 x2:Int):JX (Jr [e_Z8]) (Js [e_Z7]) A 112 Try.f112 (Sh.mks e_Z9.sh [.L x0,.I x1,.I x2]).1 (fun v os=>some (v,os))=c_Z9 x0 x1 x2 (fun y=>J0 e_Z9 0 [.L y.1,.L y.2]):=by kernel_rfl
theorem e_Z9_ok:e_Z9.ok Try.prog A:=by
 intro R ds k r h
 unfold e_Z9 at h
 obtain ⟨_,_,rfl,h⟩:=Ja h
 obtain ⟨_,_,rfl,h⟩:=Jb h
 obtain ⟨_,_,rfl,h⟩:=Jb h
 obtain ⟨rfl,hE⟩:=Je h
 obtain ⟨y,hy,hk⟩:=Jf hE
 exact ⟨0,_,_,_,hk,rfl,J1 px (fx:=⟨Try.func112,by kernel_rfl,by kernel_rfl⟩) (Jt e_Z8_ok Jn) (Jm e_Z7_ok Jo) ((q_Z9 ..).trans ((c_Z9_bind ..).trans (Jg hy)))⟩

/-!-/
abbrev T_Z10:=Int→List D→List D→Int→Int→Option (Int×List D×List D×Int×Int)
def c_Z10 {R:Type} (F:T_Z10) (x0:Int) (x1 x2:List D) (x3 x4:Int) (k:Int×List D×List D×Int×Int→Option R):Option R:=
 bif decide (x0<(↑x2.length:Int)) then
 if 0≤x0∧x0<(↑x2.length:Int) then
 (Z6 (((x2.getD x0.toNat (D.int 0)).fld (0:Nat)).toInt) (((x2.getD x0.toNat (D.int 0)).fld (1:Nat)).toInt) x3 x4).bind (fun y0=>
 bif y0 then
 (F (IntKind.i64.wrap (x0+1)) x1 x2 x3 x4).bind k
 else
 k (x0,x1,x2,x3,x4))
 else
 none
 else
 k (x0,x1,x2,x3,x4)
theorem c_Z10_bind {R:Type} (F:T_Z10) (x0:Int) (x1 x2:List D) (x3 x4:Int) (k:Int×List D×List D×Int×Int→Option R):c_Z10 F x0 x1 x2 x3 x4 k=(c_Z10 F x0 x1 x2 x3 x4 some).bind k:=by
 unfold c_Z10
 repeat' first
  | exact JA
  | exact Jz
  | exact Jy
  | apply Jv
  | apply Jw
  | apply JB
  | (apply Jx;intro _)
  | intro _
def n_Z10:Nat→T_Z10
 | 0,_,_,_,_,_=>none
 | n+1,x0,x1,x2,x3,x4=>c_Z10 (n_Z10 n) x0 x1 x2 x3 x4 some
noncomputable def Z10 (x0:Int) (x1 x2:List D) (x3 x4:Int):Option (Int×List D×List D×Int×Int):=ev (fun n=>n_Z10 n x0 x1 x2 x3 x4)
def m_Z10 (F:T_Z10):Jq:=⟨2,⟨(.undef::.undef::.ptr 1000 [0]::.ptr 1001 [0]::.ptr 1002 [0]::.int .i64::uu 50 ([])),[(1000,.obox (.agg [.rd (.struct [.int .i64,.int .i64]),.rd (.struct [.int .i64,.int .i64])])),(1001,.obox (.agg [.int .i64,.int .i64])),(1002,.obox (.agg [.nilsl,.nilsl]))]⟩,[(.exit 0,⟨(.undef::.undef::.ptr 1000 [0]::.ptr 1001 [0]::.ptr 1002 [0]::.int .i64::uu 50 ([])),[(1000,.obox (.agg [.rd (.struct [.int .i64,.int .i64]),.rd (.struct [.int .i64,.int .i64])])),(1001,.obox (.agg [.int .i64,.int .i64])),(1002,.obox (.agg [.nilsl,.nilsl]))]⟩)],fun _ ds k=>dI (fun x0 ds=>dL (fun x1 ds=>dL (fun x2 ds=>dI (fun x3 ds=>dI (fun x4 ds=>dE ((F x0 x1 x2 x3 x4).bind (fun y=>k 0 [.I y.1,.L y.2.1,.L y.2.2.1,.I y.2.2.2.1,.I y.2.2.2.2])) ds) ds) ds) ds) ds) ds⟩
theorem q_Z10 (F:T_Z10) (x0:Int) (x1 x2:List D) (x3 x4:Int):J2 (Jr [e_Z6]) (Js [m_Z10 F]) A 112 (Jk (Jh Try.f112) 2) ((m_Z10 F).sh.mk' [.I x0,.L x1,.L x2,.I x3,.I x4]) (fun e σ'=>some (e,σ'))=c_Z10 F x0 x1 x2 x3 x4 (fun y=>some (.exit 0,SSt.mk' ⟨(.undef::.undef::.ptr 1000 [0]::.ptr 1001 [0]::.ptr 1002 [0]::.int .i64::uu 50 ([])),[(1000,.obox (.agg [.rd (.struct [.int .i64,.int .i64]),.rd (.struct [.int .i64,.int .i64])])),(1001,.obox (.agg [.int .i64,.int .i64])),(1002,.obox (.agg [.nilsl,.nilsl]))]⟩ [.I y.1,.L y.2.1,.L y.2.2.1,.I y.2.2.2.1,.I y.2.2.2.2])):=by kernel_rfl
theorem m_Z10_ok:∀ n,(m_Z10 (n_Z10 n)).ok Try.prog (Jk (Jh Try.f112) 2):=by
 intro n
 induction n with
 | zero=>
  intro R ds k r h
  unfold m_Z10 at h
  obtain ⟨_,_,rfl,h⟩:=Jb h
  obtain ⟨_,_,rfl,h⟩:=Ja h
  obtain ⟨_,_,rfl,h⟩:=Ja h
  obtain ⟨_,_,rfl,h⟩:=Jb h
  obtain ⟨_,_,rfl,h⟩:=Jb h
  obtain ⟨rfl,hE⟩:=Je h
  obtain ⟨y,hy,hk⟩:=Jf hE
  cases hy
 | succ n ih=>
  intro R ds k r h
  unfold m_Z10 at h
  obtain ⟨_,_,rfl,h⟩:=Jb h
  obtain ⟨_,_,rfl,h⟩:=Ja h
  obtain ⟨_,_,rfl,h⟩:=Ja h
  obtain ⟨_,_,rfl,h⟩:=Jb h
  obtain ⟨_,_,rfl,h⟩:=Jb h
  obtain ⟨rfl,hE⟩:=Je h
  obtain ⟨y,hy,hk⟩:=Jf hE
  exact ⟨0,_,_,_,hk,rfl,JP px (fx:=⟨Try.func112,by kernel_rfl,by kernel_rfl⟩) (Jt e_Z6_ok Jn) (Jm ih Jo) (by kernel_rfl) ((q_Z10 ..).trans ((c_Z10_bind ..).trans (Jg hy)))⟩
noncomputable def e_Z10:Jq:=m_Z10 (Z10)
theorem e_Z10_ok:(e_Z10).ok Try.prog (Jk (Jh Try.f112) 2):=by
 intro R ds k r h
 unfold e_Z10 m_Z10 at h
 obtain ⟨_,_,rfl,h⟩:=Jb h
 obtain ⟨_,_,rfl,h⟩:=Ja h
 obtain ⟨_,_,rfl,h⟩:=Ja h
 obtain ⟨_,_,rfl,h⟩:=Jb h
 obtain ⟨_,_,rfl,h⟩:=Jb h
 obtain ⟨rfl,hE⟩:=Je h
 obtain ⟨y,hy,hk⟩:=Jf hE
 obtain ⟨n,hn⟩:=J5 hy
 exact m_Z10_ok n R _ k r ((Jg hn).trans hk)

/-!-/
def c_Z11 {R:Type} (x0 x1:List D) (x2 x3:Int) (k:List D×List D→Option R):Option R:=
 (Z10 (0:Int) x0 x1 x2 x3).bind (fun y0=>
 (Z8 y0.snd.fst y0.snd.snd.fst).bind (fun y1=>
 bif decide (y0.fst<(↑y0.snd.snd.fst.length:Int)) then
 if 0≤y0.fst∧y0.fst<(↑y0.snd.snd.fst.length:Int) then
 bif decide (((y0.snd.snd.fst.getD y0.fst.toNat (D.int 0)).fld (0:Nat)).toInt=y0.snd.snd.snd.fst)&&(decide (((y0.snd.snd.fst.getD y0.fst.toNat (D.int 0)).fld (1:Nat)).toInt=y0.snd.snd.snd.snd)&&Bool.true) then
 k (y1.fst,y1.snd)
 else
 if (0:Int)≤(0:Int)∧0≤y0.fst∧y0.fst≤(↑y0.snd.snd.fst.length:Int) then
 if ([]:List D).length+(List.take (y0.fst.toNat - (0:Nat)) (List.drop (0:Nat) y0.snd.snd.fst)).length≤(4294967296:Nat) then
 if ([]++List.take (y0.fst.toNat - (0:Nat)) (List.drop (0:Nat) y0.snd.snd.fst)).length+[D.node [D.int y0.snd.snd.snd.fst,D.int y0.snd.snd.snd.snd]].length≤(4294967296:Nat) then
 if 0≤y0.fst∧y0.fst≤(↑y0.snd.snd.fst.length:Int)∧(↑y0.snd.snd.fst.length:Int)≤(↑y0.snd.snd.fst.length:Int) then
 if ([]++List.take (y0.fst.toNat - (0:Nat)) (List.drop (0:Nat) y0.snd.snd.fst)++[D.node [D.int y0.snd.snd.snd.fst,D.int y0.snd.snd.snd.snd]]).length+(List.take (y0.snd.snd.fst.length - y0.fst.toNat) (List.drop y0.fst.toNat y0.snd.snd.fst)).length≤(4294967296:Nat) then
 k (y1.fst,[]++List.take (y0.fst.toNat - (0:Nat)) (List.drop (0:Nat) y0.snd.snd.fst)++[D.node [D.int y0.snd.snd.snd.fst,D.int y0.snd.snd.snd.snd]]++List.take (y0.snd.snd.fst.length - y0.fst.toNat) (List.drop y0.fst.toNat y0.snd.snd.fst))
 else
 none
 else
 none
 else
 none
 else
 none
 else
 none
 else
 none
 else
 if (0:Int)≤(0:Int)∧0≤y0.fst∧y0.fst≤(↑y0.snd.snd.fst.length:Int) then
 if ([]:List D).length+(List.take (y0.fst.toNat - (0:Nat)) (List.drop (0:Nat) y0.snd.snd.fst)).length≤(4294967296:Nat) then
 if ([]++List.take (y0.fst.toNat - (0:Nat)) (List.drop (0:Nat) y0.snd.snd.fst)).length+[D.node [D.int y0.snd.snd.snd.fst,D.int y0.snd.snd.snd.snd]].length≤(4294967296:Nat) then
 if 0≤y0.fst∧y0.fst≤(↑y0.snd.snd.fst.length:Int)∧(↑y0.snd.snd.fst.length:Int)≤(↑y0.snd.snd.fst.length:Int) then
 if ([]++List.take (y0.fst.toNat - (0:Nat)) (List.drop (0:Nat) y0.snd.snd.fst)++[D.node [D.int y0.snd.snd.snd.fst,D.int y0.snd.snd.snd.snd]]).length+(List.take (y0.snd.snd.fst.length - y0.fst.toNat) (List.drop y0.fst.toNat y0.snd.snd.fst)).length≤(4294967296:Nat) then
 k (y1.fst,[]++List.take (y0.fst.toNat - (0:Nat)) (List.drop (0:Nat) y0.snd.snd.fst)++[D.node [D.int y0.snd.snd.snd.fst,D.int y0.snd.snd.snd.snd]]++List.take (y0.snd.snd.fst.length - y0.fst.toNat) (List.drop y0.fst.toNat y0.snd.snd.fst))
 else
 none
 else
 none
 else
 none
 else
 none
 else
 none))
theorem c_Z11_bind {R:Type} (x0 x1:List D) (x2 x3:Int) (k:List D×List D→Option R):c_Z11 x0 x1 x2 x3 k=(c_Z11 x0 x1 x2 x3 some).bind k:=by
 unfold c_Z11
 repeat' first
  | exact JA
  | exact Jz
  | exact Jy
  | apply Jv
  | apply Jw
  | apply JB
  | (apply Jx;intro _)
  | intro _
def Z11 (x0 x1:List D) (x2 x3:Int):Option (List D×List D):=c_Z11 x0 x1 x2 x3 some
def e_Z11:Ent:=⟨112,[.agg [.rd (.struct [.int .i64,.int .i64]),.rd (.struct [.int .i64,.int .i64])],.agg [.int .i64,.int .i64]],[(.agg [.own (.struct [.int .i64,.int .i64]),.own (.struct [.int .i64,.int .i64])],[.undef,.undef])],fun _ ds k=>dL (fun x0 ds=>dL (fun x1 ds=>dI (fun x2 ds=>dI (fun x3 ds=>dE ((Z11 x0 x1 x2 x3).bind (fun y=>k 0 [.L y.1,.L y.2])) ds) ds) ds) ds) ds⟩
theorem q_Z11 (x0 x1:List D) (x2 x3:Int):JX (Jr [e_Z8]) (Js [e_Z10]) A 112 Try.f112 (Sh.mks e_Z11.sh [.L x0,.L x1,.I x2,.I x3]).1 (fun v os=>some (v,os))=c_Z11 x0 x1 x2 x3 (fun y=>J0 e_Z11 0 [.L y.1,.L y.2]):=by kernel_rfl
theorem e_Z11_ok:e_Z11.ok Try.prog A:=by
 intro R ds k r h
 unfold e_Z11 at h
 obtain ⟨_,_,rfl,h⟩:=Ja h
 obtain ⟨_,_,rfl,h⟩:=Ja h
 obtain ⟨_,_,rfl,h⟩:=Jb h
 obtain ⟨_,_,rfl,h⟩:=Jb h
 obtain ⟨rfl,hE⟩:=Je h
 obtain ⟨y,hy,hk⟩:=Jf hE
 exact ⟨0,_,_,_,hk,rfl,J1 px (fx:=⟨Try.func112,by kernel_rfl,by kernel_rfl⟩) (Jt e_Z8_ok Jn) (Jm e_Z10_ok Jo) ((q_Z11 ..).trans ((c_Z11_bind ..).trans (Jg hy)))⟩

/-!-/
abbrev T_Z12:=Int→Int→List D→Int→Int→List D→List D→Option (List D×Int×Int×List D×List D)
def c_Z12 {R:Type} (F:T_Z12) (x0 x1:Int) (x2:List D) (x3 x4:Int) (x5 x6:List D) (k:List D×Int×Int×List D×List D→Option R):Option R:=
 bif decide ((0:Int)<x1) then
 bif decide ((1:Int)<x0) then
 (Z2 x2 x3 x4 x0).bind (fun y0=>
 (Z2 y0.snd.fst y0.snd.snd.fst y0.snd.snd.snd x0).bind (fun y1=>
 bif decide (y1.fst<y0.fst) then
 (Z3 y1.snd.fst y1.snd.snd.fst y1.snd.snd.snd (12:Int)).bind (fun y2=>
 bif !y2.fst then
 bif !decide (y1.fst=y0.fst) then
 if 0≤y1.fst∧y1.fst<(↑x5.length:Int) then
 if y1.fst.toNat+1≤x5.length then
 if y1.fst.toNat+1≤x5.length then
 if 0≤y0.fst∧y0.fst<(↑x5.length:Int) then
 if y0.fst.toNat+1≤x5.length then
 if y0.fst.toNat+1≤x5.length then
 (Z11 x5 x6 (((x5.getD y1.fst.toNat (D.int 0)).fld (0:Nat)).toInt) (((x5.getD y0.fst.toNat (D.int 0)).fld (0:Nat)).toInt)).bind (fun y3=>
 (F x0 (IntKind.i64.wrap (x1 - 1)) y2.snd.fst y2.snd.snd.fst y2.snd.snd.snd y3.fst y3.snd).bind k)
 else
 none
 else
 none
 else
 none
 else
 none
 else
 none
 else
 none
 else
 (F x0 (IntKind.i64.wrap (x1 - 1)) y2.snd.fst y2.snd.snd.fst y2.snd.snd.snd x5 x6).bind k
 else
 bif !decide (y0.fst=y1.fst) then
 if 0≤y0.fst∧y0.fst<(↑x5.length:Int) then
 if y0.fst.toNat+1≤x5.length then
 if y0.fst.toNat+1≤x5.length then
 if 0≤y1.fst∧y1.fst<(↑x5.length:Int) then
 if y1.fst.toNat+1≤x5.length then
 if y1.fst.toNat+1≤x5.length then
 (Z11 x5 x6 (((x5.getD y0.fst.toNat (D.int 0)).fld (0:Nat)).toInt) (((x5.getD y1.fst.toNat (D.int 0)).fld (0:Nat)).toInt)).bind (fun y4=>
 (F x0 (IntKind.i64.wrap (x1 - 1)) y2.snd.fst y2.snd.snd.fst y2.snd.snd.snd y4.fst y4.snd).bind k)
 else
 none
 else
 none
 else
 none
 else
 none
 else
 none
 else
 none
 else
 (F x0 (IntKind.i64.wrap (x1 - 1)) y2.snd.fst y2.snd.snd.fst y2.snd.snd.snd x5 x6).bind k)
 else
 bif !decide (y0.fst=y1.fst) then
 if 0≤y0.fst∧y0.fst<(↑x5.length:Int) then
 if y0.fst.toNat+1≤x5.length then
 if y0.fst.toNat+1≤x5.length then
 if 0≤y1.fst∧y1.fst<(↑x5.length:Int) then
 if y1.fst.toNat+1≤x5.length then
 if y1.fst.toNat+1≤x5.length then
 (Z11 x5 x6 (((x5.getD y0.fst.toNat (D.int 0)).fld (0:Nat)).toInt) (((x5.getD y1.fst.toNat (D.int 0)).fld (0:Nat)).toInt)).bind (fun y5=>
 (F x0 (IntKind.i64.wrap (x1 - 1)) y1.snd.fst y1.snd.snd.fst y1.snd.snd.snd y5.fst y5.snd).bind k)
 else
 none
 else
 none
 else
 none
 else
 none
 else
 none
 else
 none
 else
 (F x0 (IntKind.i64.wrap (x1 - 1)) y1.snd.fst y1.snd.snd.fst y1.snd.snd.snd x5 x6).bind k))
 else
 k (x2,x3,x4,x5,x6)
 else
 k (x2,x3,x4,x5,x6)
theorem c_Z12_bind {R:Type} (F:T_Z12) (x0 x1:Int) (x2:List D) (x3 x4:Int) (x5 x6:List D) (k:List D×Int×Int×List D×List D→Option R):c_Z12 F x0 x1 x2 x3 x4 x5 x6 k=(c_Z12 F x0 x1 x2 x3 x4 x5 x6 some).bind k:=by
 unfold c_Z12
 repeat' first
  | exact JA
  | exact Jz
  | exact Jy
  | apply Jv
  | apply Jw
  | apply JB
  | (apply Jx;intro _)
  | intro _
def n_Z12:Nat→T_Z12
 | 0,_,_,_,_,_,_,_=>none
 | n+1,x0,x1,x2,x3,x4,x5,x6=>c_Z12 (n_Z12 n) x0 x1 x2 x3 x4 x5 x6 some
noncomputable def Z12 (x0 x1:Int) (x2:List D) (x3 x4:Int) (x5 x6:List D):Option (List D×Int×Int×List D×List D):=ev (fun n=>n_Z12 n x0 x1 x2 x3 x4 x5 x6)
def m_Z12 (F:T_Z12):Jq:=⟨4,⟨(.ptr 1000 [0]::.undef::.ptr 1001 [0]::.ptr 1002 [0]::.int .i64::.int .i64::uu 57 ([])),[(1000,.obox (.agg [.rd (.int .u8),.int .i64,.int .u64])),(1001,.obox (.agg [.nilsl,.nilsl])),(1002,.obox (.agg [.full 1003 [0] (.struct [.int .i64,.int .i64]),.full 1003 [1] (.struct [.int .i64,.int .i64])])),(1003,.agg [.own (.struct [.int .i64,.int .i64]),.own (.struct [.int .i64,.int .i64])])]⟩,[(.exit 0,⟨(.ptr 1000 [0]::.undef::.ptr 1001 [0]::.ptr 1002 [0]::uu 59 ([])),[(1000,.obox (.agg [.rd (.int .u8),.int .i64,.int .u64])),(1001,.obox (.agg [.nilsl,.nilsl])),(1002,.obox (.agg [.full 1003 [0] (.struct [.int .i64,.int .i64]),.full 1003 [1] (.struct [.int .i64,.int .i64])])),(1003,.agg [.own (.struct [.int .i64,.int .i64]),.own (.struct [.int .i64,.int .i64])])]⟩)],fun _ ds k=>dI (fun x0 ds=>dI (fun x1 ds=>dL (fun x2 ds=>dI (fun x3 ds=>dI (fun x4 ds=>dL (fun x5 ds=>dL (fun x6 ds=>dE ((F x0 x1 x2 x3 x4 x5 x6).bind (fun y=>k 0 [.L y.1,.I y.2.1,.I y.2.2.1,.L y.2.2.2.1,.L y.2.2.2.2])) ds) ds) ds) ds) ds) ds) ds) ds⟩
theorem q_Z12 (F:T_Z12) (x0 x1:Int) (x2:List D) (x3 x4:Int) (x5 x6:List D):J2 (Jr [e_Z2,e_Z3,e_Z11]) (Js [m_Z12 F]) A 130 (Jk (Jh Try.f130) 4) ((m_Z12 F).sh.mk' [.I x0,.I x1,.L x2,.I x3,.I x4,.L x5,.L x6]) (fun e σ'=>some (e,σ'))=c_Z12 F x0 x1 x2 x3 x4 x5 x6 (fun y=>some (.exit 0,SSt.mk' ⟨(.ptr 1000 [0]::.undef::.ptr 1001 [0]::.ptr 1002 [0]::uu 59 ([])),[(1000,.obox (.agg [.rd (.int .u8),.int .i64,.int .u64])),(1001,.obox (.agg [.nilsl,.nilsl])),(1002,.obox (.agg [.full 1003 [0] (.struct [.int .i64,.int .i64]),.full 1003 [1] (.struct [.int .i64,.int .i64])])),(1003,.agg [.own (.struct [.int .i64,.int .i64]),.own (.struct [.int .i64,.int .i64])])]⟩ [.L y.1,.I y.2.1,.I y.2.2.1,.L y.2.2.2.1,.L y.2.2.2.2])):=by kernel_rfl
theorem m_Z12_ok:∀ n,(m_Z12 (n_Z12 n)).ok Try.prog (Jk (Jh Try.f130) 4):=by
 intro n
 induction n with
 | zero=>
  intro R ds k r h
  unfold m_Z12 at h
  obtain ⟨_,_,rfl,h⟩:=Jb h
  obtain ⟨_,_,rfl,h⟩:=Jb h
  obtain ⟨_,_,rfl,h⟩:=Ja h
  obtain ⟨_,_,rfl,h⟩:=Jb h
  obtain ⟨_,_,rfl,h⟩:=Jb h
  obtain ⟨_,_,rfl,h⟩:=Ja h
  obtain ⟨_,_,rfl,h⟩:=Ja h
  obtain ⟨rfl,hE⟩:=Je h
  obtain ⟨y,hy,hk⟩:=Jf hE
  cases hy
 | succ n ih=>
  intro R ds k r h
  unfold m_Z12 at h
  obtain ⟨_,_,rfl,h⟩:=Jb h
  obtain ⟨_,_,rfl,h⟩:=Jb h
  obtain ⟨_,_,rfl,h⟩:=Ja h
  obtain ⟨_,_,rfl,h⟩:=Jb h
  obtain ⟨_,_,rfl,h⟩:=Jb h
  obtain ⟨_,_,rfl,h⟩:=Ja h
  obtain ⟨_,_,rfl,h⟩:=Ja h
  obtain ⟨rfl,hE⟩:=Je h
  obtain ⟨y,hy,hk⟩:=Jf hE
  exact ⟨0,_,_,_,hk,rfl,JP px (fx:=⟨Try.func130,by kernel_rfl,by kernel_rfl⟩) (Jt e_Z2_ok (Jt e_Z3_ok (Jt e_Z11_ok Jn))) (Jm ih Jo) (by kernel_rfl) ((q_Z12 ..).trans ((c_Z12_bind ..).trans (Jg hy)))⟩
noncomputable def e_Z12:Jq:=m_Z12 (Z12)
theorem e_Z12_ok:(e_Z12).ok Try.prog (Jk (Jh Try.f130) 4):=by
 intro R ds k r h
 unfold e_Z12 m_Z12 at h
 obtain ⟨_,_,rfl,h⟩:=Jb h
 obtain ⟨_,_,rfl,h⟩:=Jb h
 obtain ⟨_,_,rfl,h⟩:=Ja h
 obtain ⟨_,_,rfl,h⟩:=Jb h
 obtain ⟨_,_,rfl,h⟩:=Jb h
 obtain ⟨_,_,rfl,h⟩:=Ja h
 obtain ⟨_,_,rfl,h⟩:=Ja h
 obtain ⟨rfl,hE⟩:=Je h
 obtain ⟨y,hy,hk⟩:=Jf hE
 obtain ⟨n,hn⟩:=J5 hy
 exact m_Z12_ok n R _ k r ((Jg hn).trans hk)

/-!-/
abbrev T_Z13:=Int→Int→List D→Int→Int→List D→Option ((List D×Int×Int×List D×List D)⊕(List D×Int×Int×List D))
def c_Z13 {R:Type} (F:T_Z13) (x0 x1:Int) (x2:List D) (x3 x4:Int) (x5:List D) (k:(List D×Int×Int×List D×List D)⊕(List D×Int×Int×List D)→Option R):Option R:=
 bif decide ((0:Int)<x1) then
 bif decide ((1:Int)<x0) then
 (Z2 x2 x3 x4 x0).bind (fun y0=>
 (Z2 y0.snd.fst y0.snd.snd.fst y0.snd.snd.snd x0).bind (fun y1=>
 bif decide (y1.fst<y0.fst) then
 (Z3 y1.snd.fst y1.snd.snd.fst y1.snd.snd.snd (12:Int)).bind (fun y2=>
 bif !y2.fst then
 bif !decide (y1.fst=y0.fst) then
 if 0≤y1.fst∧y1.fst<(↑x5.length:Int) then
 if y1.fst.toNat+1≤x5.length then
 if y1.fst.toNat+1≤x5.length then
 if 0≤y0.fst∧y0.fst<(↑x5.length:Int) then
 if y0.fst.toNat+1≤x5.length then
 if y0.fst.toNat+1≤x5.length then
 (Z9 x5 (((x5.getD y1.fst.toNat (D.int 0)).fld (0:Nat)).toInt) (((x5.getD y0.fst.toNat (D.int 0)).fld (0:Nat)).toInt)).bind (fun y3=>
 (Z12 x0 (IntKind.i64.wrap (x1 - 1)) y2.snd.fst y2.snd.snd.fst y2.snd.snd.snd y3.fst y3.snd).bind (fun y4=>
 k (.inl (y4.fst,y4.snd.fst,y4.snd.snd.fst,y4.snd.snd.snd.fst,y4.snd.snd.snd.snd))))
 else
 none
 else
 none
 else
 none
 else
 none
 else
 none
 else
 none
 else
 (F x0 (IntKind.i64.wrap (x1 - 1)) y2.snd.fst y2.snd.snd.fst y2.snd.snd.snd x5).bind k
 else
 bif !decide (y0.fst=y1.fst) then
 if 0≤y0.fst∧y0.fst<(↑x5.length:Int) then
 if y0.fst.toNat+1≤x5.length then
 if y0.fst.toNat+1≤x5.length then
 if 0≤y1.fst∧y1.fst<(↑x5.length:Int) then
 if y1.fst.toNat+1≤x5.length then
 if y1.fst.toNat+1≤x5.length then
 (Z9 x5 (((x5.getD y0.fst.toNat (D.int 0)).fld (0:Nat)).toInt) (((x5.getD y1.fst.toNat (D.int 0)).fld (0:Nat)).toInt)).bind (fun y5=>
 (Z12 x0 (IntKind.i64.wrap (x1 - 1)) y2.snd.fst y2.snd.snd.fst y2.snd.snd.snd y5.fst y5.snd).bind (fun y6=>
 k (.inl (y6.fst,y6.snd.fst,y6.snd.snd.fst,y6.snd.snd.snd.fst,y6.snd.snd.snd.snd))))
 else
 none
 else
 none
 else
 none
 else
 none
 else
 none
 else
 none
 else
 (F x0 (IntKind.i64.wrap (x1 - 1)) y2.snd.fst y2.snd.snd.fst y2.snd.snd.snd x5).bind k)
 else
 bif !decide (y0.fst=y1.fst) then
 if 0≤y0.fst∧y0.fst<(↑x5.length:Int) then
 if y0.fst.toNat+1≤x5.length then
 if y0.fst.toNat+1≤x5.length then
 if 0≤y1.fst∧y1.fst<(↑x5.length:Int) then
 if y1.fst.toNat+1≤x5.length then
 if y1.fst.toNat+1≤x5.length then
 (Z9 x5 (((x5.getD y0.fst.toNat (D.int 0)).fld (0:Nat)).toInt) (((x5.getD y1.fst.toNat (D.int 0)).fld (0:Nat)).toInt)).bind (fun y7=>
 (Z12 x0 (IntKind.i64.wrap (x1 - 1)) y1.snd.fst y1.snd.snd.fst y1.snd.snd.snd y7.fst y7.snd).bind (fun y8=>
 k (.inl (y8.fst,y8.snd.fst,y8.snd.snd.fst,y8.snd.snd.snd.fst,y8.snd.snd.snd.snd))))
 else
 none
 else
 none
 else
 none
 else
 none
 else
 none
 else
 none
 else
 (F x0 (IntKind.i64.wrap (x1 - 1)) y1.snd.fst y1.snd.snd.fst y1.snd.snd.snd x5).bind k))
 else
 k (.inr (x2,x3,x4,x5))
 else
 k (.inr (x2,x3,x4,x5))
theorem c_Z13_bind {R:Type} (F:T_Z13) (x0 x1:Int) (x2:List D) (x3 x4:Int) (x5:List D) (k:(List D×Int×Int×List D×List D)⊕(List D×Int×Int×List D)→Option R):c_Z13 F x0 x1 x2 x3 x4 x5 k=(c_Z13 F x0 x1 x2 x3 x4 x5 some).bind k:=by
 unfold c_Z13
 repeat' first
  | exact JA
  | exact Jz
  | exact Jy
  | apply Jv
  | apply Jw
  | apply JB
  | (apply Jx;intro _)
  | intro _
def n_Z13:Nat→T_Z13
 | 0,_,_,_,_,_,_=>none
 | n+1,x0,x1,x2,x3,x4,x5=>c_Z13 (n_Z13 n) x0 x1 x2 x3 x4 x5 some
noncomputable def Z13 (x0 x1:Int) (x2:List D) (x3 x4:Int) (x5:List D):Option ((List D×Int×Int×List D×List D)⊕(List D×Int×Int×List D)):=ev (fun n=>n_Z13 n x0 x1 x2 x3 x4 x5)
def m_Z13 (F:T_Z13):Jq:=⟨4,⟨(.ptr 1000 [0]::.undef::.ptr 1001 [0]::.ptr 1002 [0]::.int .i64::.int .i64::uu 57 ([])),[(1000,.obox (.agg [.rd (.int .u8),.int .i64,.int .u64])),(1001,.obox (.agg [.nilsl,.nilsl])),(1002,.obox (.agg [.full 1003 [] (.struct [.int .i64,.int .i64]),.nilsl])),(1003,.own (.struct [.int .i64,.int .i64]))]⟩,[(.exit 0,⟨(.ptr 1000 [0]::.undef::.ptr 1001 [0]::.ptr 1002 [0]::uu 59 ([])),[(1000,.obox (.agg [.rd (.int .u8),.int .i64,.int .u64])),(1001,.obox (.agg [.nilsl,.nilsl])),(1002,.obox (.agg [.full 1003 [0] (.struct [.int .i64,.int .i64]),.full 1003 [1] (.struct [.int .i64,.int .i64])])),(1003,.agg [.own (.struct [.int .i64,.int .i64]),.own (.struct [.int .i64,.int .i64])])]⟩),(.exit 0,⟨(.ptr 1000 [0]::.undef::.ptr 1001 [0]::.ptr 1002 [0]::uu 59 ([])),[(1000,.obox (.agg [.rd (.int .u8),.int .i64,.int .u64])),(1001,.obox (.agg [.nilsl,.nilsl])),(1002,.obox (.agg [.full 1003 [] (.struct [.int .i64,.int .i64]),.nilsl])),(1003,.own (.struct [.int .i64,.int .i64]))]⟩)],fun _ ds k=>dI (fun x0 ds=>dI (fun x1 ds=>dL (fun x2 ds=>dI (fun x3 ds=>dI (fun x4 ds=>dL (fun x5 ds=>dE ((F x0 x1 x2 x3 x4 x5).bind (Sum.elim (fun y=>k 0 [.L y.1,.I y.2.1,.I y.2.2.1,.L y.2.2.2.1,.L y.2.2.2.2]) (fun y=>k 1 [.L y.1,.I y.2.1,.I y.2.2.1,.L y.2.2.2]))) ds) ds) ds) ds) ds) ds) ds⟩
theorem q_Z13 (F:T_Z13) (x0 x1:Int) (x2:List D) (x3 x4:Int) (x5:List D):J2 (Jr [e_Z2,e_Z3,e_Z9]) (Js [m_Z13 F,e_Z12]) A 130 (Jk (Jh Try.f130) 4) ((m_Z13 F).sh.mk' [.I x0,.I x1,.L x2,.I x3,.I x4,.L x5]) (fun e σ'=>some (e,σ'))=c_Z13 F x0 x1 x2 x3 x4 x5 (Sum.elim (fun y=>some (.exit 0,SSt.mk' ⟨(.ptr 1000 [0]::.undef::.ptr 1001 [0]::.ptr 1002 [0]::uu 59 ([])),[(1000,.obox (.agg [.rd (.int .u8),.int .i64,.int .u64])),(1001,.obox (.agg [.nilsl,.nilsl])),(1002,.obox (.agg [.full 1003 [0] (.struct [.int .i64,.int .i64]),.full 1003 [1] (.struct [.int .i64,.int .i64])])),(1003,.agg [.own (.struct [.int .i64,.int .i64]),.own (.struct [.int .i64,.int .i64])])]⟩ [.L y.1,.I y.2.1,.I y.2.2.1,.L y.2.2.2.1,.L y.2.2.2.2])) (fun y=>some (.exit 0,SSt.mk' ⟨(.ptr 1000 [0]::.undef::.ptr 1001 [0]::.ptr 1002 [0]::uu 59 ([])),[(1000,.obox (.agg [.rd (.int .u8),.int .i64,.int .u64])),(1001,.obox (.agg [.nilsl,.nilsl])),(1002,.obox (.agg [.full 1003 [] (.struct [.int .i64,.int .i64]),.nilsl])),(1003,.own (.struct [.int .i64,.int .i64]))]⟩ [.L y.1,.I y.2.1,.I y.2.2.1,.L y.2.2.2]))):=by kernel_rfl
theorem m_Z13_ok:∀ n,(m_Z13 (n_Z13 n)).ok Try.prog (Jk (Jh Try.f130) 4):=by
 intro n
 induction n with
 | zero=>
  intro R ds k r h
  unfold m_Z13 at h
  obtain ⟨_,_,rfl,h⟩:=Jb h
  obtain ⟨_,_,rfl,h⟩:=Jb h
  obtain ⟨_,_,rfl,h⟩:=Ja h
  obtain ⟨_,_,rfl,h⟩:=Jb h
  obtain ⟨_,_,rfl,h⟩:=Jb h
  obtain ⟨_,_,rfl,h⟩:=Ja h
  obtain ⟨rfl,hE⟩:=Je h
  obtain ⟨y,hy,hk⟩:=Jf hE
  cases hy
 | succ n ih=>
  intro R ds k r h
  unfold m_Z13 at h
  obtain ⟨_,_,rfl,h⟩:=Jb h
  obtain ⟨_,_,rfl,h⟩:=Jb h
  obtain ⟨_,_,rfl,h⟩:=Ja h
  obtain ⟨_,_,rfl,h⟩:=Jb h
  obtain ⟨_,_,rfl,h⟩:=Jb h
  obtain ⟨_,_,rfl,h⟩:=Ja h
  obtain ⟨rfl,hE⟩:=Je h
  obtain ⟨y,hy,hk⟩:=Jf hE
  cases y with
  | inl y=>
   exact ⟨0,_,_,_,hk,rfl,JP px (fx:=⟨Try.func130,by kernel_rfl,by kernel_rfl⟩) (Jt e_Z2_ok (Jt e_Z3_ok (Jt e_Z9_ok Jn))) (Jm ih (Jm e_Z12_ok Jo)) (by kernel_rfl) ((q_Z13 ..).trans ((c_Z13_bind ..).trans (Jg hy)))⟩
  | inr y=>
   exact ⟨1,_,_,_,hk,rfl,JP px (fx:=⟨Try.func130,by kernel_rfl,by kernel_rfl⟩) (Jt e_Z2_ok (Jt e_Z3_ok (Jt e_Z9_ok Jn))) (Jm ih (Jm e_Z12_ok Jo)) (by kernel_rfl) ((q_Z13 ..).trans ((c_Z13_bind ..).trans (Jg hy)))⟩
noncomputable def e_Z13:Jq:=m_Z13 (Z13)
theorem e_Z13_ok:(e_Z13).ok Try.prog (Jk (Jh Try.f130) 4):=by
 intro R ds k r h
 unfold e_Z13 m_Z13 at h
 obtain ⟨_,_,rfl,h⟩:=Jb h
 obtain ⟨_,_,rfl,h⟩:=Jb h
 obtain ⟨_,_,rfl,h⟩:=Ja h
 obtain ⟨_,_,rfl,h⟩:=Jb h
 obtain ⟨_,_,rfl,h⟩:=Jb h
 obtain ⟨_,_,rfl,h⟩:=Ja h
 obtain ⟨rfl,hE⟩:=Je h
 obtain ⟨y,hy,hk⟩:=Jf hE
 obtain ⟨n,hn⟩:=J5 hy
 exact m_Z13_ok n R _ k r ((Jg hn).trans hk)

/-!-/
def c_Z14 {R:Type} (x0:List D) (x1 x2:Int) (k:List D×List D×List D×Int×Int→Option R):Option R:=
 (Z2 x0 x1 x2 (8:Int)).bind (fun y0=>
 (Z5 y0.snd.fst y0.snd.snd.fst y0.snd.snd.snd y0.fst).bind (fun y1=>
 (Z2 y1.snd.fst y1.snd.snd.fst y1.snd.snd.snd (12:Int)).bind (fun y2=>
 (Z13 (↑y1.fst.length:Int) y2.fst y2.snd.fst y2.snd.snd.fst y2.snd.snd.snd y1.fst).bind (Sum.elim (fun y3=>
 k (y3.snd.snd.snd.fst,y3.snd.snd.snd.snd,y3.fst,y3.snd.fst,y3.snd.snd.fst)) (fun y4=>
 k (y4.snd.snd.snd,[],y4.fst,y4.snd.fst,y4.snd.snd.fst))))))
theorem c_Z14_bind {R:Type} (x0:List D) (x1 x2:Int) (k:List D×List D×List D×Int×Int→Option R):c_Z14 x0 x1 x2 k=(c_Z14 x0 x1 x2 some).bind k:=by
 unfold c_Z14
 repeat' first
  | exact JA
  | exact Jz
  | exact Jy
  | apply Jv
  | apply Jw
  | apply JB
  | (apply Jx;intro _)
  | intro _
def Z14 (x0:List D) (x1 x2:Int):Option (List D×List D×List D×Int×Int):=c_Z14 x0 x1 x2 some
def e_Z14:Ent:=⟨130,[.obox (.agg [.rd (.int .u8),.int .i64,.int .u64])],[(.agg [.own (.struct [.int .i64,.int .i64]),.own (.struct [.int .i64,.int .i64])],[.obox (.agg [.rd (.int .u8),.int .i64,.int .u64])])],fun _ ds k=>dL (fun x0 ds=>dI (fun x1 ds=>dI (fun x2 ds=>dE ((Z14 x0 x1 x2).bind (fun y=>k 0 [.L y.1,.L y.2.1,.L y.2.2.1,.I y.2.2.2.1,.I y.2.2.2.2])) ds) ds) ds) ds⟩
theorem q_Z14 (x0:List D) (x1 x2:Int):JX (Jr [e_Z2,e_Z5]) (Js [e_Z13]) A 130 Try.f130 (Sh.mks e_Z14.sh [.L x0,.I x1,.I x2]).1 (fun v os=>some (v,os))=c_Z14 x0 x1 x2 (fun y=>J0 e_Z14 0 [.L y.1,.L y.2.1,.L y.2.2.1,.I y.2.2.2.1,.I y.2.2.2.2]):=by kernel_rfl
theorem e_Z14_ok:e_Z14.ok Try.prog A:=by
 intro R ds k r h
 unfold e_Z14 at h
 obtain ⟨_,_,rfl,h⟩:=Ja h
 obtain ⟨_,_,rfl,h⟩:=Jb h
 obtain ⟨_,_,rfl,h⟩:=Jb h
 obtain ⟨rfl,hE⟩:=Je h
 obtain ⟨y,hy,hk⟩:=Jf hE
 exact ⟨0,_,_,_,hk,rfl,J1 px (fx:=⟨Try.func130,by kernel_rfl,by kernel_rfl⟩) (Jt e_Z2_ok (Jt e_Z5_ok Jn)) (Jm e_Z13_ok Jo) ((q_Z14 ..).trans ((c_Z14_bind ..).trans (Jg hy)))⟩

/-!-/
def c_Z15 {R:Type} (x0:List D) (x1 x2:Int) (x3:List D) (k:Int×List D×Int×Int→Option R):Option R:=
 (Z2 x0 x1 x2 (↑x3.length:Int)).bind (fun y0=>
 if 0≤y0.fst∧y0.fst<(↑x3.length:Int) then
 if y0.fst.toNat+1≤x3.length then
 k ((x3.getD y0.fst.toNat (D.int 0)).toInt,y0.snd.fst,y0.snd.snd.fst,y0.snd.snd.snd)
 else
 none
 else
 none)
theorem c_Z15_bind {R:Type} (x0:List D) (x1 x2:Int) (x3:List D) (k:Int×List D×Int×Int→Option R):c_Z15 x0 x1 x2 x3 k=(c_Z15 x0 x1 x2 x3 some).bind k:=by
 unfold c_Z15
 repeat' first
  | exact JA
  | exact Jz
  | exact Jy
  | apply Jv
  | apply Jw
  | apply JB
  | (apply Jx;intro _)
  | intro _
def Z15 (x0:List D) (x1 x2:Int) (x3:List D):Option (Int×List D×Int×Int):=c_Z15 x0 x1 x2 x3 some
def e_Z15:Ent:=⟨71,[.obox (.agg [.rd (.int .u8),.int .i64,.int .u64]),.own (.int .i64)],[(.int .i64,[.obox (.agg [.rd (.int .u8),.int .i64,.int .u64]),.undef])],fun _ ds k=>dL (fun x0 ds=>dI (fun x1 ds=>dI (fun x2 ds=>dL (fun x3 ds=>dE ((Z15 x0 x1 x2 x3).bind (fun y=>k 0 [.I y.1,.L y.2.1,.I y.2.2.1,.I y.2.2.2])) ds) ds) ds) ds) ds⟩
theorem q_Z15 (x0:List D) (x1 x2:Int) (x3:List D):JX (Jr [e_Z2]) (Js []) A 71 Try.f71 (Sh.mks e_Z15.sh [.L x0,.I x1,.I x2,.L x3]).1 (fun v os=>some (v,os))=c_Z15 x0 x1 x2 x3 (fun y=>J0 e_Z15 0 [.I y.1,.L y.2.1,.I y.2.2.1,.I y.2.2.2]):=by kernel_rfl
theorem e_Z15_ok:e_Z15.ok Try.prog A:=by
 intro R ds k r h
 unfold e_Z15 at h
 obtain ⟨_,_,rfl,h⟩:=Ja h
 obtain ⟨_,_,rfl,h⟩:=Jb h
 obtain ⟨_,_,rfl,h⟩:=Jb h
 obtain ⟨_,_,rfl,h⟩:=Ja h
 obtain ⟨rfl,hE⟩:=Je h
 obtain ⟨y,hy,hk⟩:=Jf hE
 exact ⟨0,_,_,_,hk,rfl,J1 px (fx:=⟨Try.func71,by kernel_rfl,by kernel_rfl⟩) (Jt e_Z2_ok Jn) Jo ((q_Z15 ..).trans ((c_Z15_bind ..).trans (Jg hy)))⟩

/-!-/
abbrev T_Z16:=Int→List D→Int→Int→List D→List D→Option (List D×Int×Int×List D×List D)
def c_Z16 {R:Type} (F:T_Z16) (x0:Int) (x1:List D) (x2 x3:Int) (x4 x5:List D) (k:List D×Int×Int×List D×List D→Option R):Option R:=
 (Z2 x1 x2 x3 (2:Int)).bind (fun y0=>
 bif decide ((↑x5.length:Int)<IntKind.i64.wrap ((10:Int)+y0.fst)) then
 bif decide (x0<(12:Int)) then
 if x5.length+[D.node [D.int (IntKind.i64.wrap ((100:Int)+x0)),D.int (1:Int)]].length≤(4294967296:Nat) then
 (F (IntKind.i64.wrap (x0+1)) y0.snd.fst y0.snd.snd.fst y0.snd.snd.snd x4 (x5++[D.node [D.int (IntKind.i64.wrap ((100:Int)+x0)),D.int (1:Int)]])).bind k
 else
 none
 else
 k (y0.snd.fst,y0.snd.snd.fst,y0.snd.snd.snd,x4,x5)
 else
 k (y0.snd.fst,y0.snd.snd.fst,y0.snd.snd.snd,x4,x5))
theorem c_Z16_bind {R:Type} (F:T_Z16) (x0:Int) (x1:List D) (x2 x3:Int) (x4 x5:List D) (k:List D×Int×Int×List D×List D→Option R):c_Z16 F x0 x1 x2 x3 x4 x5 k=(c_Z16 F x0 x1 x2 x3 x4 x5 some).bind k:=by
 unfold c_Z16
 repeat' first
  | exact JA
  | exact Jz
  | exact Jy
  | apply Jv
  | apply Jw
  | apply JB
  | (apply Jx;intro _)
  | intro _
def n_Z16:Nat→T_Z16
 | 0,_,_,_,_,_,_=>none
 | n+1,x0,x1,x2,x3,x4,x5=>c_Z16 (n_Z16 n) x0 x1 x2 x3 x4 x5 some
noncomputable def Z16 (x0:Int) (x1:List D) (x2 x3:Int) (x4 x5:List D):Option (List D×Int×Int×List D×List D):=ev (fun n=>n_Z16 n x0 x1 x2 x3 x4 x5)
def m_Z16 (F:T_Z16):Jq:=⟨17,⟨(.ptr 1000 [0]::.undef::.ptr 1001 [0]::.ptr 1002 [0]::.undef::.undef::.int .i64::uu 136 ([])),[(1000,.obox (.agg [.rd (.int .u8),.int .i64,.int .u64])),(1001,.obox (.agg [.nilsl,.nilsl])),(1002,.obox (.agg [.full 1003 [] (.struct [.int .i64,.int .i64]),.own (.struct [.int .i64,.int .i64])])),(1003,.own (.struct [.int .i64,.int .i64]))]⟩,[(.exit 1,⟨(.ptr 1000 [0]::.undef::.ptr 1001 [0]::.ptr 1002 [0]::uu 139 ([])),[(1000,.obox (.agg [.rd (.int .u8),.int .i64,.int .u64])),(1001,.obox (.agg [.nilsl,.nilsl])),(1002,.obox (.agg [.full 1003 [] (.struct [.int .i64,.int .i64]),.own (.struct [.int .i64,.int .i64])])),(1003,.own (.struct [.int .i64,.int .i64]))]⟩)],fun _ ds k=>dI (fun x0 ds=>dL (fun x1 ds=>dI (fun x2 ds=>dI (fun x3 ds=>dL (fun x4 ds=>dL (fun x5 ds=>dE ((F x0 x1 x2 x3 x4 x5).bind (fun y=>k 0 [.L y.1,.I y.2.1,.I y.2.2.1,.L y.2.2.2.1,.L y.2.2.2.2])) ds) ds) ds) ds) ds) ds) ds⟩
theorem q_Z16 (F:T_Z16) (x0:Int) (x1:List D) (x2 x3:Int) (x4 x5:List D):J2 (Jr [e_Z2]) (Js [m_Z16 F]) A 114 (Jk (Jh Try.f114) 17) ((m_Z16 F).sh.mk' [.I x0,.L x1,.I x2,.I x3,.L x4,.L x5]) (fun e σ'=>some (e,σ'))=c_Z16 F x0 x1 x2 x3 x4 x5 (fun y=>some (.exit 1,SSt.mk' ⟨(.ptr 1000 [0]::.undef::.ptr 1001 [0]::.ptr 1002 [0]::uu 139 ([])),[(1000,.obox (.agg [.rd (.int .u8),.int .i64,.int .u64])),(1001,.obox (.agg [.nilsl,.nilsl])),(1002,.obox (.agg [.full 1003 [] (.struct [.int .i64,.int .i64]),.own (.struct [.int .i64,.int .i64])])),(1003,.own (.struct [.int .i64,.int .i64]))]⟩ [.L y.1,.I y.2.1,.I y.2.2.1,.L y.2.2.2.1,.L y.2.2.2.2])):=by kernel_rfl
theorem m_Z16_ok:∀ n,(m_Z16 (n_Z16 n)).ok Try.prog (Jk (Jh Try.f114) 17):=by
 intro n
 induction n with
 | zero=>
  intro R ds k r h
  unfold m_Z16 at h
  obtain ⟨_,_,rfl,h⟩:=Jb h
  obtain ⟨_,_,rfl,h⟩:=Ja h
  obtain ⟨_,_,rfl,h⟩:=Jb h
  obtain ⟨_,_,rfl,h⟩:=Jb h
  obtain ⟨_,_,rfl,h⟩:=Ja h
  obtain ⟨_,_,rfl,h⟩:=Ja h
  obtain ⟨rfl,hE⟩:=Je h
  obtain ⟨y,hy,hk⟩:=Jf hE
  cases hy
 | succ n ih=>
  intro R ds k r h
  unfold m_Z16 at h
  obtain ⟨_,_,rfl,h⟩:=Jb h
  obtain ⟨_,_,rfl,h⟩:=Ja h
  obtain ⟨_,_,rfl,h⟩:=Jb h
  obtain ⟨_,_,rfl,h⟩:=Jb h
  obtain ⟨_,_,rfl,h⟩:=Ja h
  obtain ⟨_,_,rfl,h⟩:=Ja h
  obtain ⟨rfl,hE⟩:=Je h
  obtain ⟨y,hy,hk⟩:=Jf hE
  exact ⟨0,_,_,_,hk,rfl,JP px (fx:=⟨Try.func114,by kernel_rfl,by kernel_rfl⟩) (Jt e_Z2_ok Jn) (Jm ih Jo) (by kernel_rfl) ((q_Z16 ..).trans ((c_Z16_bind ..).trans (Jg hy)))⟩
noncomputable def e_Z16:Jq:=m_Z16 (Z16)
theorem e_Z16_ok:(e_Z16).ok Try.prog (Jk (Jh Try.f114) 17):=by
 intro R ds k r h
 unfold e_Z16 m_Z16 at h
 obtain ⟨_,_,rfl,h⟩:=Jb h
 obtain ⟨_,_,rfl,h⟩:=Ja h
 obtain ⟨_,_,rfl,h⟩:=Jb h
 obtain ⟨_,_,rfl,h⟩:=Jb h
 obtain ⟨_,_,rfl,h⟩:=Ja h
 obtain ⟨_,_,rfl,h⟩:=Ja h
 obtain ⟨rfl,hE⟩:=Je h
 obtain ⟨y,hy,hk⟩:=Jf hE
 obtain ⟨n,hn⟩:=J5 hy
 exact m_Z16_ok n R _ k r ((Jg hn).trans hk)

/-!-/
abbrev T_Z17:=Int→List D→Int→Int→List D→List D→Option ((List D×Int×Int×List D×List D)⊕(List D×Int×Int×List D×List D))
def c_Z17 {R:Type} (F:T_Z17) (x0:Int) (x1:List D) (x2 x3:Int) (x4 x5:List D) (k:(List D×Int×Int×List D×List D)⊕(List D×Int×Int×List D×List D)→Option R):Option R:=
 (Z2 x1 x2 x3 (2:Int)).bind (fun y0=>
 bif decide ((↑x4.length:Int)<IntKind.i64.wrap ((10:Int)+y0.fst)) then
 bif decide (x0<(12:Int)) then
 if x4.length+[D.node [D.int (IntKind.i64.wrap ((100:Int)+x0)),D.int (1:Int)]].length≤(4294967296:Nat) then
 (Z16 (IntKind.i64.wrap (x0+1)) y0.snd.fst y0.snd.snd.fst y0.snd.snd.snd x5 (x4++[D.node [D.int (IntKind.i64.wrap ((100:Int)+x0)),D.int (1:Int)]])).bind (fun y1=>
 k (.inl (y1.fst,y1.snd.fst,y1.snd.snd.fst,y1.snd.snd.snd.fst,y1.snd.snd.snd.snd)))
 else
 none
 else
 k (.inr (y0.snd.fst,y0.snd.snd.fst,y0.snd.snd.snd,x4,x5))
 else
 k (.inr (y0.snd.fst,y0.snd.snd.fst,y0.snd.snd.snd,x4,x5)))
theorem c_Z17_bind {R:Type} (F:T_Z17) (x0:Int) (x1:List D) (x2 x3:Int) (x4 x5:List D) (k:(List D×Int×Int×List D×List D)⊕(List D×Int×Int×List D×List D)→Option R):c_Z17 F x0 x1 x2 x3 x4 x5 k=(c_Z17 F x0 x1 x2 x3 x4 x5 some).bind k:=by
 unfold c_Z17
 repeat' first
  | exact JA
  | exact Jz
  | exact Jy
  | apply Jv
  | apply Jw
  | apply JB
  | (apply Jx;intro _)
  | intro _
def n_Z17:Nat→T_Z17
 | 0,_,_,_,_,_,_=>none
 | n+1,x0,x1,x2,x3,x4,x5=>c_Z17 (n_Z17 n) x0 x1 x2 x3 x4 x5 some
noncomputable def Z17 (x0:Int) (x1:List D) (x2 x3:Int) (x4 x5:List D):Option ((List D×Int×Int×List D×List D)⊕(List D×Int×Int×List D×List D)):=ev (fun n=>n_Z17 n x0 x1 x2 x3 x4 x5)
def m_Z17 (F:T_Z17):Jq:=⟨17,⟨(.ptr 1000 [0]::.undef::.ptr 1001 [0]::.ptr 1002 [0]::.undef::.undef::.int .i64::uu 136 ([])),[(1000,.obox (.agg [.rd (.int .u8),.int .i64,.int .u64])),(1001,.obox (.agg [.nilsl,.nilsl])),(1002,.obox (.agg [.own (.struct [.int .i64,.int .i64]),.own (.struct [.int .i64,.int .i64])]))]⟩,[(.exit 1,⟨(.ptr 1000 [0]::.undef::.ptr 1001 [0]::.ptr 1002 [0]::uu 139 ([])),[(1000,.obox (.agg [.rd (.int .u8),.int .i64,.int .u64])),(1001,.obox (.agg [.nilsl,.nilsl])),(1002,.obox (.agg [.full 1003 [] (.struct [.int .i64,.int .i64]),.own (.struct [.int .i64,.int .i64])])),(1003,.own (.struct [.int .i64,.int .i64]))]⟩),(.exit 1,⟨(.ptr 1000 [0]::.undef::.ptr 1001 [0]::.ptr 1002 [0]::uu 139 ([])),[(1000,.obox (.agg [.rd (.int .u8),.int .i64,.int .u64])),(1001,.obox (.agg [.nilsl,.nilsl])),(1002,.obox (.agg [.own (.struct [.int .i64,.int .i64]),.own (.struct [.int .i64,.int .i64])]))]⟩)],fun _ ds k=>dI (fun x0 ds=>dL (fun x1 ds=>dI (fun x2 ds=>dI (fun x3 ds=>dL (fun x4 ds=>dL (fun x5 ds=>dE ((F x0 x1 x2 x3 x4 x5).bind (Sum.elim (fun y=>k 0 [.L y.1,.I y.2.1,.I y.2.2.1,.L y.2.2.2.1,.L y.2.2.2.2]) (fun y=>k 1 [.L y.1,.I y.2.1,.I y.2.2.1,.L y.2.2.2.1,.L y.2.2.2.2]))) ds) ds) ds) ds) ds) ds) ds⟩
theorem q_Z17 (F:T_Z17) (x0:Int) (x1:List D) (x2 x3:Int) (x4 x5:List D):J2 (Jr [e_Z2]) (Js [m_Z17 F,e_Z16]) A 114 (Jk (Jh Try.f114) 17) ((m_Z17 F).sh.mk' [.I x0,.L x1,.I x2,.I x3,.L x4,.L x5]) (fun e σ'=>some (e,σ'))=c_Z17 F x0 x1 x2 x3 x4 x5 (Sum.elim (fun y=>some (.exit 1,SSt.mk' ⟨(.ptr 1000 [0]::.undef::.ptr 1001 [0]::.ptr 1002 [0]::uu 139 ([])),[(1000,.obox (.agg [.rd (.int .u8),.int .i64,.int .u64])),(1001,.obox (.agg [.nilsl,.nilsl])),(1002,.obox (.agg [.full 1003 [] (.struct [.int .i64,.int .i64]),.own (.struct [.int .i64,.int .i64])])),(1003,.own (.struct [.int .i64,.int .i64]))]⟩ [.L y.1,.I y.2.1,.I y.2.2.1,.L y.2.2.2.1,.L y.2.2.2.2])) (fun y=>some (.exit 1,SSt.mk' ⟨(.ptr 1000 [0]::.undef::.ptr 1001 [0]::.ptr 1002 [0]::uu 139 ([])),[(1000,.obox (.agg [.rd (.int .u8),.int .i64,.int .u64])),(1001,.obox (.agg [.nilsl,.nilsl])),(1002,.obox (.agg [.own (.struct [.int .i64,.int .i64]),.own (.struct [.int .i64,.int .i64])]))]⟩ [.L y.1,.I y.2.1,.I y.2.2.1,.L y.2.2.2.1,.L y.2.2.2.2]))):=by kernel_rfl
theorem m_Z17_ok:∀ n,(m_Z17 (n_Z17 n)).ok Try.prog (Jk (Jh Try.f114) 17):=by
 intro n
 induction n with
 | zero=>
  intro R ds k r h
  unfold m_Z17 at h
  obtain ⟨_,_,rfl,h⟩:=Jb h
  obtain ⟨_,_,rfl,h⟩:=Ja h
  obtain ⟨_,_,rfl,h⟩:=Jb h
  obtain ⟨_,_,rfl,h⟩:=Jb h
  obtain ⟨_,_,rfl,h⟩:=Ja h
  obtain ⟨_,_,rfl,h⟩:=Ja h
  obtain ⟨rfl,hE⟩:=Je h
  obtain ⟨y,hy,hk⟩:=Jf hE
  cases hy
 | succ n ih=>
  intro R ds k r h
  unfold m_Z17 at h
  obtain ⟨_,_,rfl,h⟩:=Jb h
  obtain ⟨_,_,rfl,h⟩:=Ja h
  obtain ⟨_,_,rfl,h⟩:=Jb h
  obtain ⟨_,_,rfl,h⟩:=Jb h
  obtain ⟨_,_,rfl,h⟩:=Ja h
  obtain ⟨_,_,rfl,h⟩:=Ja h
  obtain ⟨rfl,hE⟩:=Je h
  obtain ⟨y,hy,hk⟩:=Jf hE
  cases y with
  | inl y=>
   exact ⟨0,_,_,_,hk,rfl,JP px (fx:=⟨Try.func114,by kernel_rfl,by kernel_rfl⟩) (Jt e_Z2_ok Jn) (Jm ih (Jm e_Z16_ok Jo)) (by kernel_rfl) ((q_Z17 ..).trans ((c_Z17_bind ..).trans (Jg hy)))⟩
  | inr y=>
   exact ⟨1,_,_,_,hk,rfl,JP px (fx:=⟨Try.func114,by kernel_rfl,by kernel_rfl⟩) (Jt e_Z2_ok Jn) (Jm ih (Jm e_Z16_ok Jo)) (by kernel_rfl) ((q_Z17 ..).trans ((c_Z17_bind ..).trans (Jg hy)))⟩
noncomputable def e_Z17:Jq:=m_Z17 (Z17)
theorem e_Z17_ok:(e_Z17).ok Try.prog (Jk (Jh Try.f114) 17):=by
 intro R ds k r h
 unfold e_Z17 m_Z17 at h
 obtain ⟨_,_,rfl,h⟩:=Jb h
 obtain ⟨_,_,rfl,h⟩:=Ja h
 obtain ⟨_,_,rfl,h⟩:=Jb h
 obtain ⟨_,_,rfl,h⟩:=Jb h
 obtain ⟨_,_,rfl,h⟩:=Ja h
 obtain ⟨_,_,rfl,h⟩:=Ja h
 obtain ⟨rfl,hE⟩:=Je h
 obtain ⟨y,hy,hk⟩:=Jf hE
 obtain ⟨n,hn⟩:=J5 hy
 exact m_Z17_ok n R _ k r ((Jg hn).trans hk)

/-!-/
abbrev T_Z18:=Int→Int→List D→Int→Int→List D→List D→Option (Int×List D×Int×Int×List D×List D)
def c_Z18 {R:Type} (F:T_Z18) (x0 x1:Int) (x2:List D) (x3 x4:Int) (x5 x6:List D) (k:Int×List D×Int×Int×List D×List D→Option R):Option R:=
 bif decide (x1<(7:Int)) then
 bif decide ((↑x6.length:Int)<(25:Int)) then
 bif !decide (x0=x1) then
 if 0≤x0∧x0<(↑x5.length:Int) then
 if x0.toNat+1≤x5.length then
 if x0.toNat+1≤x5.length then
 if 0≤x1∧x1<(↑x5.length:Int) then
 if x1.toNat+1≤x5.length then
 if x1.toNat+1≤x5.length then
 if x6.length+[D.node [D.int ((x5.getD x0.toNat (D.int 0)).fld (0:Nat)).toInt,D.int ((x5.getD x1.toNat (D.int 0)).fld (0:Nat)).toInt]].length≤(4294967296:Nat) then
 (F x0 (IntKind.i64.wrap (x1+1)) x2 x3 x4 x5 (x6++[D.node [D.int ((x5.getD x0.toNat (D.int 0)).fld (0:Nat)).toInt,D.int ((x5.getD x1.toNat (D.int 0)).fld (0:Nat)).toInt]])).bind k
 else
 none
 else
 none
 else
 none
 else
 none
 else
 none
 else
 none
 else
 none
 else
 (F x0 (IntKind.i64.wrap (x1+1)) x2 x3 x4 x5 x6).bind k
 else
 k (x0,x2,x3,x4,x5,x6)
 else
 k (x0,x2,x3,x4,x5,x6)
theorem c_Z18_bind {R:Type} (F:T_Z18) (x0 x1:Int) (x2:List D) (x3 x4:Int) (x5 x6:List D) (k:Int×List D×Int×Int×List D×List D→Option R):c_Z18 F x0 x1 x2 x3 x4 x5 x6 k=(c_Z18 F x0 x1 x2 x3 x4 x5 x6 some).bind k:=by
 unfold c_Z18
 repeat' first
  | exact JA
  | exact Jz
  | exact Jy
  | apply Jv
  | apply Jw
  | apply JB
  | (apply Jx;intro _)
  | intro _
def n_Z18:Nat→T_Z18
 | 0,_,_,_,_,_,_,_=>none
 | n+1,x0,x1,x2,x3,x4,x5,x6=>c_Z18 (n_Z18 n) x0 x1 x2 x3 x4 x5 x6 some
noncomputable def Z18 (x0 x1:Int) (x2:List D) (x3 x4:Int) (x5 x6:List D):Option (Int×List D×Int×Int×List D×List D):=ev (fun n=>n_Z18 n x0 x1 x2 x3 x4 x5 x6)
def m_Z18 (F:T_Z18):Jq:=⟨28,⟨(.ptr 1000 [0]::.undef::.ptr 1001 [0]::.ptr 1002 [0]::.undef::.undef::.undef::.int .i64::.int .i64::uu 134 ([])),[(1000,.obox (.agg [.rd (.int .u8),.int .i64,.int .u64])),(1001,.obox (.agg [.nilsl,.nilsl])),(1002,.obox (.agg [.own (.struct [.int .i64,.int .i64]),.full 1003 [] (.struct [.int .i64,.int .i64])])),(1003,.own (.struct [.int .i64,.int .i64]))]⟩,[(.exit 5,⟨(.ptr 1000 [0]::.undef::.ptr 1001 [0]::.ptr 1002 [0]::.undef::.undef::.undef::.int .i64::uu 135 ([])),[(1000,.obox (.agg [.rd (.int .u8),.int .i64,.int .u64])),(1001,.obox (.agg [.nilsl,.nilsl])),(1002,.obox (.agg [.own (.struct [.int .i64,.int .i64]),.full 1003 [] (.struct [.int .i64,.int .i64])])),(1003,.own (.struct [.int .i64,.int .i64]))]⟩)],fun _ ds k=>dI (fun x0 ds=>dI (fun x1 ds=>dL (fun x2 ds=>dI (fun x3 ds=>dI (fun x4 ds=>dL (fun x5 ds=>dL (fun x6 ds=>dE ((F x0 x1 x2 x3 x4 x5 x6).bind (fun y=>k 0 [.I y.1,.L y.2.1,.I y.2.2.1,.I y.2.2.2.1,.L y.2.2.2.2.1,.L y.2.2.2.2.2])) ds) ds) ds) ds) ds) ds) ds) ds⟩
theorem q_Z18 (F:T_Z18) (x0 x1:Int) (x2:List D) (x3 x4:Int) (x5 x6:List D):J2 (Jr []) (Js [m_Z18 F]) A 114 (Jk (Jh Try.f114) 28) ((m_Z18 F).sh.mk' [.I x0,.I x1,.L x2,.I x3,.I x4,.L x5,.L x6]) (fun e σ'=>some (e,σ'))=c_Z18 F x0 x1 x2 x3 x4 x5 x6 (fun y=>some (.exit 5,SSt.mk' ⟨(.ptr 1000 [0]::.undef::.ptr 1001 [0]::.ptr 1002 [0]::.undef::.undef::.undef::.int .i64::uu 135 ([])),[(1000,.obox (.agg [.rd (.int .u8),.int .i64,.int .u64])),(1001,.obox (.agg [.nilsl,.nilsl])),(1002,.obox (.agg [.own (.struct [.int .i64,.int .i64]),.full 1003 [] (.struct [.int .i64,.int .i64])])),(1003,.own (.struct [.int .i64,.int .i64]))]⟩ [.I y.1,.L y.2.1,.I y.2.2.1,.I y.2.2.2.1,.L y.2.2.2.2.1,.L y.2.2.2.2.2])):=by kernel_rfl
theorem m_Z18_ok:∀ n,(m_Z18 (n_Z18 n)).ok Try.prog (Jk (Jh Try.f114) 28):=by
 intro n
 induction n with
 | zero=>
  intro R ds k r h
  unfold m_Z18 at h
  obtain ⟨_,_,rfl,h⟩:=Jb h
  obtain ⟨_,_,rfl,h⟩:=Jb h
  obtain ⟨_,_,rfl,h⟩:=Ja h
  obtain ⟨_,_,rfl,h⟩:=Jb h
  obtain ⟨_,_,rfl,h⟩:=Jb h
  obtain ⟨_,_,rfl,h⟩:=Ja h
  obtain ⟨_,_,rfl,h⟩:=Ja h
  obtain ⟨rfl,hE⟩:=Je h
  obtain ⟨y,hy,hk⟩:=Jf hE
  cases hy
 | succ n ih=>
  intro R ds k r h
  unfold m_Z18 at h
  obtain ⟨_,_,rfl,h⟩:=Jb h
  obtain ⟨_,_,rfl,h⟩:=Jb h
  obtain ⟨_,_,rfl,h⟩:=Ja h
  obtain ⟨_,_,rfl,h⟩:=Jb h
  obtain ⟨_,_,rfl,h⟩:=Jb h
  obtain ⟨_,_,rfl,h⟩:=Ja h
  obtain ⟨_,_,rfl,h⟩:=Ja h
  obtain ⟨rfl,hE⟩:=Je h
  obtain ⟨y,hy,hk⟩:=Jf hE
  exact ⟨0,_,_,_,hk,rfl,JP px (fx:=⟨Try.func114,by kernel_rfl,by kernel_rfl⟩) Jn (Jm ih Jo) (by kernel_rfl) ((q_Z18 ..).trans ((c_Z18_bind ..).trans (Jg hy)))⟩
noncomputable def e_Z18:Jq:=m_Z18 (Z18)
theorem e_Z18_ok:(e_Z18).ok Try.prog (Jk (Jh Try.f114) 28):=by
 intro R ds k r h
 unfold e_Z18 m_Z18 at h
 obtain ⟨_,_,rfl,h⟩:=Jb h
 obtain ⟨_,_,rfl,h⟩:=Jb h
 obtain ⟨_,_,rfl,h⟩:=Ja h
 obtain ⟨_,_,rfl,h⟩:=Jb h
 obtain ⟨_,_,rfl,h⟩:=Jb h
 obtain ⟨_,_,rfl,h⟩:=Ja h
 obtain ⟨_,_,rfl,h⟩:=Ja h
 obtain ⟨rfl,hE⟩:=Je h
 obtain ⟨y,hy,hk⟩:=Jf hE
 obtain ⟨n,hn⟩:=J5 hy
 exact m_Z18_ok n R _ k r ((Jg hn).trans hk)

/-!-/
abbrev T_Z19:=Int→Int→List D→Int→Int→List D→List D→Option ((Int×List D×Int×Int×List D×List D)⊕(Int×List D×Int×Int×List D×List D))
def c_Z19 {R:Type} (F:T_Z19) (x0 x1:Int) (x2:List D) (x3 x4:Int) (x5 x6:List D) (k:(Int×List D×Int×Int×List D×List D)⊕(Int×List D×Int×Int×List D×List D)→Option R):Option R:=
 bif decide (x1<(7:Int)) then
 bif decide ((↑x6.length:Int)<(25:Int)) then
 bif !decide (x0=x1) then
 if 0≤x0∧x0<(↑x5.length:Int) then
 if x0.toNat+1≤x5.length then
 if x0.toNat+1≤x5.length then
 if 0≤x1∧x1<(↑x5.length:Int) then
 if x1.toNat+1≤x5.length then
 if x1.toNat+1≤x5.length then
 if x6.length+[D.node [D.int ((x5.getD x0.toNat (D.int 0)).fld (0:Nat)).toInt,D.int ((x5.getD x1.toNat (D.int 0)).fld (0:Nat)).toInt]].length≤(4294967296:Nat) then
 (Z18 x0 (IntKind.i64.wrap (x1+1)) x2 x3 x4 x5 (x6++[D.node [D.int ((x5.getD x0.toNat (D.int 0)).fld (0:Nat)).toInt,D.int ((x5.getD x1.toNat (D.int 0)).fld (0:Nat)).toInt]])).bind (fun y0=>
 k (.inl (y0.fst,y0.snd.fst,y0.snd.snd.fst,y0.snd.snd.snd.fst,y0.snd.snd.snd.snd.fst,y0.snd.snd.snd.snd.snd)))
 else
 none
 else
 none
 else
 none
 else
 none
 else
 none
 else
 none
 else
 none
 else
 (F x0 (IntKind.i64.wrap (x1+1)) x2 x3 x4 x5 x6).bind k
 else
 k (.inr (x0,x2,x3,x4,x5,x6))
 else
 k (.inr (x0,x2,x3,x4,x5,x6))
theorem c_Z19_bind {R:Type} (F:T_Z19) (x0 x1:Int) (x2:List D) (x3 x4:Int) (x5 x6:List D) (k:(Int×List D×Int×Int×List D×List D)⊕(Int×List D×Int×Int×List D×List D)→Option R):c_Z19 F x0 x1 x2 x3 x4 x5 x6 k=(c_Z19 F x0 x1 x2 x3 x4 x5 x6 some).bind k:=by
 unfold c_Z19
 repeat' first
  | exact JA
  | exact Jz
  | exact Jy
  | apply Jv
  | apply Jw
  | apply JB
  | (apply Jx;intro _)
  | intro _
def n_Z19:Nat→T_Z19
 | 0,_,_,_,_,_,_,_=>none
 | n+1,x0,x1,x2,x3,x4,x5,x6=>c_Z19 (n_Z19 n) x0 x1 x2 x3 x4 x5 x6 some
noncomputable def Z19 (x0 x1:Int) (x2:List D) (x3 x4:Int) (x5 x6:List D):Option ((Int×List D×Int×Int×List D×List D)⊕(Int×List D×Int×Int×List D×List D)):=ev (fun n=>n_Z19 n x0 x1 x2 x3 x4 x5 x6)
def m_Z19 (F:T_Z19):Jq:=⟨28,⟨(.ptr 1000 [0]::.undef::.ptr 1001 [0]::.ptr 1002 [0]::.undef::.undef::.undef::.int .i64::.int .i64::uu 134 ([])),[(1000,.obox (.agg [.rd (.int .u8),.int .i64,.int .u64])),(1001,.obox (.agg [.nilsl,.nilsl])),(1002,.obox (.agg [.own (.struct [.int .i64,.int .i64]),.own (.struct [.int .i64,.int .i64])]))]⟩,[(.exit 5,⟨(.ptr 1000 [0]::.undef::.ptr 1001 [0]::.ptr 1002 [0]::.undef::.undef::.undef::.int .i64::uu 135 ([])),[(1000,.obox (.agg [.rd (.int .u8),.int .i64,.int .u64])),(1001,.obox (.agg [.nilsl,.nilsl])),(1002,.obox (.agg [.own (.struct [.int .i64,.int .i64]),.full 1003 [] (.struct [.int .i64,.int .i64])])),(1003,.own (.struct [.int .i64,.int .i64]))]⟩),(.exit 5,⟨(.ptr 1000 [0]::.undef::.ptr 1001 [0]::.ptr 1002 [0]::.undef::.undef::.undef::.int .i64::uu 135 ([])),[(1000,.obox (.agg [.rd (.int .u8),.int .i64,.int .u64])),(1001,.obox (.agg [.nilsl,.nilsl])),(1002,.obox (.agg [.own (.struct [.int .i64,.int .i64]),.own (.struct [.int .i64,.int .i64])]))]⟩)],fun _ ds k=>dI (fun x0 ds=>dI (fun x1 ds=>dL (fun x2 ds=>dI (fun x3 ds=>dI (fun x4 ds=>dL (fun x5 ds=>dL (fun x6 ds=>dE ((F x0 x1 x2 x3 x4 x5 x6).bind (Sum.elim (fun y=>k 0 [.I y.1,.L y.2.1,.I y.2.2.1,.I y.2.2.2.1,.L y.2.2.2.2.1,.L y.2.2.2.2.2]) (fun y=>k 1 [.I y.1,.L y.2.1,.I y.2.2.1,.I y.2.2.2.1,.L y.2.2.2.2.1,.L y.2.2.2.2.2]))) ds) ds) ds) ds) ds) ds) ds) ds⟩
theorem q_Z19 (F:T_Z19) (x0 x1:Int) (x2:List D) (x3 x4:Int) (x5 x6:List D):J2 (Jr []) (Js [m_Z19 F,e_Z18]) A 114 (Jk (Jh Try.f114) 28) ((m_Z19 F).sh.mk' [.I x0,.I x1,.L x2,.I x3,.I x4,.L x5,.L x6]) (fun e σ'=>some (e,σ'))=c_Z19 F x0 x1 x2 x3 x4 x5 x6 (Sum.elim (fun y=>some (.exit 5,SSt.mk' ⟨(.ptr 1000 [0]::.undef::.ptr 1001 [0]::.ptr 1002 [0]::.undef::.undef::.undef::.int .i64::uu 135 ([])),[(1000,.obox (.agg [.rd (.int .u8),.int .i64,.int .u64])),(1001,.obox (.agg [.nilsl,.nilsl])),(1002,.obox (.agg [.own (.struct [.int .i64,.int .i64]),.full 1003 [] (.struct [.int .i64,.int .i64])])),(1003,.own (.struct [.int .i64,.int .i64]))]⟩ [.I y.1,.L y.2.1,.I y.2.2.1,.I y.2.2.2.1,.L y.2.2.2.2.1,.L y.2.2.2.2.2])) (fun y=>some (.exit 5,SSt.mk' ⟨(.ptr 1000 [0]::.undef::.ptr 1001 [0]::.ptr 1002 [0]::.undef::.undef::.undef::.int .i64::uu 135 ([])),[(1000,.obox (.agg [.rd (.int .u8),.int .i64,.int .u64])),(1001,.obox (.agg [.nilsl,.nilsl])),(1002,.obox (.agg [.own (.struct [.int .i64,.int .i64]),.own (.struct [.int .i64,.int .i64])]))]⟩ [.I y.1,.L y.2.1,.I y.2.2.1,.I y.2.2.2.1,.L y.2.2.2.2.1,.L y.2.2.2.2.2]))):=by kernel_rfl
theorem m_Z19_ok:∀ n,(m_Z19 (n_Z19 n)).ok Try.prog (Jk (Jh Try.f114) 28):=by
 intro n
 induction n with
 | zero=>
  intro R ds k r h
  unfold m_Z19 at h
  obtain ⟨_,_,rfl,h⟩:=Jb h
  obtain ⟨_,_,rfl,h⟩:=Jb h
  obtain ⟨_,_,rfl,h⟩:=Ja h
  obtain ⟨_,_,rfl,h⟩:=Jb h
  obtain ⟨_,_,rfl,h⟩:=Jb h
  obtain ⟨_,_,rfl,h⟩:=Ja h
  obtain ⟨_,_,rfl,h⟩:=Ja h
  obtain ⟨rfl,hE⟩:=Je h
  obtain ⟨y,hy,hk⟩:=Jf hE
  cases hy
 | succ n ih=>
  intro R ds k r h
  unfold m_Z19 at h
  obtain ⟨_,_,rfl,h⟩:=Jb h
  obtain ⟨_,_,rfl,h⟩:=Jb h
  obtain ⟨_,_,rfl,h⟩:=Ja h
  obtain ⟨_,_,rfl,h⟩:=Jb h
  obtain ⟨_,_,rfl,h⟩:=Jb h
  obtain ⟨_,_,rfl,h⟩:=Ja h
  obtain ⟨_,_,rfl,h⟩:=Ja h
  obtain ⟨rfl,hE⟩:=Je h
  obtain ⟨y,hy,hk⟩:=Jf hE
  cases y with
  | inl y=>
   exact ⟨0,_,_,_,hk,rfl,JP px (fx:=⟨Try.func114,by kernel_rfl,by kernel_rfl⟩) Jn (Jm ih (Jm e_Z18_ok Jo)) (by kernel_rfl) ((q_Z19 ..).trans ((c_Z19_bind ..).trans (Jg hy)))⟩
  | inr y=>
   exact ⟨1,_,_,_,hk,rfl,JP px (fx:=⟨Try.func114,by kernel_rfl,by kernel_rfl⟩) Jn (Jm ih (Jm e_Z18_ok Jo)) (by kernel_rfl) ((q_Z19 ..).trans ((c_Z19_bind ..).trans (Jg hy)))⟩
noncomputable def e_Z19:Jq:=m_Z19 (Z19)
theorem e_Z19_ok:(e_Z19).ok Try.prog (Jk (Jh Try.f114) 28):=by
 intro R ds k r h
 unfold e_Z19 m_Z19 at h
 obtain ⟨_,_,rfl,h⟩:=Jb h
 obtain ⟨_,_,rfl,h⟩:=Jb h
 obtain ⟨_,_,rfl,h⟩:=Ja h
 obtain ⟨_,_,rfl,h⟩:=Jb h
 obtain ⟨_,_,rfl,h⟩:=Jb h
 obtain ⟨_,_,rfl,h⟩:=Ja h
 obtain ⟨_,_,rfl,h⟩:=Ja h
 obtain ⟨rfl,hE⟩:=Je h
 obtain ⟨y,hy,hk⟩:=Jf hE
 obtain ⟨n,hn⟩:=J5 hy
 exact m_Z19_ok n R _ k r ((Jg hn).trans hk)

/-!-/
abbrev T_Z20:=Int→List D→Int→Int→List D→List D→Option (List D×Int×Int×List D×List D)
def c_Z20 {R:Type} (F:T_Z20) (x0:Int) (x1:List D) (x2 x3:Int) (x4 x5:List D) (k:List D×Int×Int×List D×List D→Option R):Option R:=
 bif decide (x0<(7:Int)) then
 (Z18 x0 (0:Int) x1 x2 x3 x4 x5).bind (fun y0=>
 (F (IntKind.i64.wrap (y0.fst+1)) y0.snd.fst y0.snd.snd.fst y0.snd.snd.snd.fst y0.snd.snd.snd.snd.fst y0.snd.snd.snd.snd.snd).bind k)
 else
 k (x1,x2,x3,x4,x5)
theorem c_Z20_bind {R:Type} (F:T_Z20) (x0:Int) (x1:List D) (x2 x3:Int) (x4 x5:List D) (k:List D×Int×Int×List D×List D→Option R):c_Z20 F x0 x1 x2 x3 x4 x5 k=(c_Z20 F x0 x1 x2 x3 x4 x5 some).bind k:=by
 unfold c_Z20
 repeat' first
  | exact JA
  | exact Jz
  | exact Jy
  | apply Jv
  | apply Jw
  | apply JB
  | (apply Jx;intro _)
  | intro _
def n_Z20:Nat→T_Z20
 | 0,_,_,_,_,_,_=>none
 | n+1,x0,x1,x2,x3,x4,x5=>c_Z20 (n_Z20 n) x0 x1 x2 x3 x4 x5 some
noncomputable def Z20 (x0:Int) (x1:List D) (x2 x3:Int) (x4 x5:List D):Option (List D×Int×Int×List D×List D):=ev (fun n=>n_Z20 n x0 x1 x2 x3 x4 x5)
def m_Z20 (F:T_Z20):Jq:=⟨25,⟨(.ptr 1000 [0]::.undef::.ptr 1001 [0]::.ptr 1002 [0]::.undef::.undef::.undef::.int .i64::uu 135 ([])),[(1000,.obox (.agg [.rd (.int .u8),.int .i64,.int .u64])),(1001,.obox (.agg [.nilsl,.nilsl])),(1002,.obox (.agg [.own (.struct [.int .i64,.int .i64]),.full 1003 [] (.struct [.int .i64,.int .i64])])),(1003,.own (.struct [.int .i64,.int .i64]))]⟩,[(.exit 3,⟨(.ptr 1000 [0]::.undef::.ptr 1001 [0]::.ptr 1002 [0]::uu 139 ([])),[(1000,.obox (.agg [.rd (.int .u8),.int .i64,.int .u64])),(1001,.obox (.agg [.nilsl,.nilsl])),(1002,.obox (.agg [.own (.struct [.int .i64,.int .i64]),.full 1003 [] (.struct [.int .i64,.int .i64])])),(1003,.own (.struct [.int .i64,.int .i64]))]⟩)],fun _ ds k=>dI (fun x0 ds=>dL (fun x1 ds=>dI (fun x2 ds=>dI (fun x3 ds=>dL (fun x4 ds=>dL (fun x5 ds=>dE ((F x0 x1 x2 x3 x4 x5).bind (fun y=>k 0 [.L y.1,.I y.2.1,.I y.2.2.1,.L y.2.2.2.1,.L y.2.2.2.2])) ds) ds) ds) ds) ds) ds) ds⟩
theorem q_Z20 (F:T_Z20) (x0:Int) (x1:List D) (x2 x3:Int) (x4 x5:List D):J2 (Jr []) (Js [m_Z20 F,e_Z18]) A 114 (Jk (Jh Try.f114) 25) ((m_Z20 F).sh.mk' [.I x0,.L x1,.I x2,.I x3,.L x4,.L x5]) (fun e σ'=>some (e,σ'))=c_Z20 F x0 x1 x2 x3 x4 x5 (fun y=>some (.exit 3,SSt.mk' ⟨(.ptr 1000 [0]::.undef::.ptr 1001 [0]::.ptr 1002 [0]::uu 139 ([])),[(1000,.obox (.agg [.rd (.int .u8),.int .i64,.int .u64])),(1001,.obox (.agg [.nilsl,.nilsl])),(1002,.obox (.agg [.own (.struct [.int .i64,.int .i64]),.full 1003 [] (.struct [.int .i64,.int .i64])])),(1003,.own (.struct [.int .i64,.int .i64]))]⟩ [.L y.1,.I y.2.1,.I y.2.2.1,.L y.2.2.2.1,.L y.2.2.2.2])):=by kernel_rfl
theorem m_Z20_ok:∀ n,(m_Z20 (n_Z20 n)).ok Try.prog (Jk (Jh Try.f114) 25):=by
 intro n
 induction n with
 | zero=>
  intro R ds k r h
  unfold m_Z20 at h
  obtain ⟨_,_,rfl,h⟩:=Jb h
  obtain ⟨_,_,rfl,h⟩:=Ja h
  obtain ⟨_,_,rfl,h⟩:=Jb h
  obtain ⟨_,_,rfl,h⟩:=Jb h
  obtain ⟨_,_,rfl,h⟩:=Ja h
  obtain ⟨_,_,rfl,h⟩:=Ja h
  obtain ⟨rfl,hE⟩:=Je h
  obtain ⟨y,hy,hk⟩:=Jf hE
  cases hy
 | succ n ih=>
  intro R ds k r h
  unfold m_Z20 at h
  obtain ⟨_,_,rfl,h⟩:=Jb h
  obtain ⟨_,_,rfl,h⟩:=Ja h
  obtain ⟨_,_,rfl,h⟩:=Jb h
  obtain ⟨_,_,rfl,h⟩:=Jb h
  obtain ⟨_,_,rfl,h⟩:=Ja h
  obtain ⟨_,_,rfl,h⟩:=Ja h
  obtain ⟨rfl,hE⟩:=Je h
  obtain ⟨y,hy,hk⟩:=Jf hE
  exact ⟨0,_,_,_,hk,rfl,JP px (fx:=⟨Try.func114,by kernel_rfl,by kernel_rfl⟩) Jn (Jm ih (Jm e_Z18_ok Jo)) (by kernel_rfl) ((q_Z20 ..).trans ((c_Z20_bind ..).trans (Jg hy)))⟩
noncomputable def e_Z20:Jq:=m_Z20 (Z20)
theorem e_Z20_ok:(e_Z20).ok Try.prog (Jk (Jh Try.f114) 25):=by
 intro R ds k r h
 unfold e_Z20 m_Z20 at h
 obtain ⟨_,_,rfl,h⟩:=Jb h
 obtain ⟨_,_,rfl,h⟩:=Ja h
 obtain ⟨_,_,rfl,h⟩:=Jb h
 obtain ⟨_,_,rfl,h⟩:=Jb h
 obtain ⟨_,_,rfl,h⟩:=Ja h
 obtain ⟨_,_,rfl,h⟩:=Ja h
 obtain ⟨rfl,hE⟩:=Je h
 obtain ⟨y,hy,hk⟩:=Jf hE
 obtain ⟨n,hn⟩:=J5 hy
 exact m_Z20_ok n R _ k r ((Jg hn).trans hk)

/-!-/
abbrev T_Z21:=Int→List D→Int→Int→List D→List D→Option ((List D×Int×Int×List D×List D)⊕(List D×Int×Int×List D×List D))
def c_Z21 {R:Type} (F:T_Z21) (x0:Int) (x1:List D) (x2 x3:Int) (x4 x5:List D) (k:(List D×Int×Int×List D×List D)⊕(List D×Int×Int×List D×List D)→Option R):Option R:=
 bif decide (x0<(7:Int)) then
 (Z19 x0 (0:Int) x1 x2 x3 x4 x5).bind (Sum.elim (fun y0=>
 (Z20 (IntKind.i64.wrap (y0.fst+1)) y0.snd.fst y0.snd.snd.fst y0.snd.snd.snd.fst y0.snd.snd.snd.snd.fst y0.snd.snd.snd.snd.snd).bind (fun y1=>
 k (.inl (y1.fst,y1.snd.fst,y1.snd.snd.fst,y1.snd.snd.snd.fst,y1.snd.snd.snd.snd)))) (fun y2=>
 (F (IntKind.i64.wrap (y2.fst+1)) y2.snd.fst y2.snd.snd.fst y2.snd.snd.snd.fst y2.snd.snd.snd.snd.fst y2.snd.snd.snd.snd.snd).bind k))
 else
 k (.inr (x1,x2,x3,x4,x5))
theorem c_Z21_bind {R:Type} (F:T_Z21) (x0:Int) (x1:List D) (x2 x3:Int) (x4 x5:List D) (k:(List D×Int×Int×List D×List D)⊕(List D×Int×Int×List D×List D)→Option R):c_Z21 F x0 x1 x2 x3 x4 x5 k=(c_Z21 F x0 x1 x2 x3 x4 x5 some).bind k:=by
 unfold c_Z21
 repeat' first
  | exact JA
  | exact Jz
  | exact Jy
  | apply Jv
  | apply Jw
  | apply JB
  | (apply Jx;intro _)
  | intro _
def n_Z21:Nat→T_Z21
 | 0,_,_,_,_,_,_=>none
 | n+1,x0,x1,x2,x3,x4,x5=>c_Z21 (n_Z21 n) x0 x1 x2 x3 x4 x5 some
noncomputable def Z21 (x0:Int) (x1:List D) (x2 x3:Int) (x4 x5:List D):Option ((List D×Int×Int×List D×List D)⊕(List D×Int×Int×List D×List D)):=ev (fun n=>n_Z21 n x0 x1 x2 x3 x4 x5)
def m_Z21 (F:T_Z21):Jq:=⟨25,⟨(.ptr 1000 [0]::.undef::.ptr 1001 [0]::.ptr 1002 [0]::.undef::.undef::.undef::.int .i64::uu 135 ([])),[(1000,.obox (.agg [.rd (.int .u8),.int .i64,.int .u64])),(1001,.obox (.agg [.nilsl,.nilsl])),(1002,.obox (.agg [.own (.struct [.int .i64,.int .i64]),.own (.struct [.int .i64,.int .i64])]))]⟩,[(.exit 3,⟨(.ptr 1000 [0]::.undef::.ptr 1001 [0]::.ptr 1002 [0]::uu 139 ([])),[(1000,.obox (.agg [.rd (.int .u8),.int .i64,.int .u64])),(1001,.obox (.agg [.nilsl,.nilsl])),(1002,.obox (.agg [.own (.struct [.int .i64,.int .i64]),.full 1003 [] (.struct [.int .i64,.int .i64])])),(1003,.own (.struct [.int .i64,.int .i64]))]⟩),(.exit 3,⟨(.ptr 1000 [0]::.undef::.ptr 1001 [0]::.ptr 1002 [0]::uu 139 ([])),[(1000,.obox (.agg [.rd (.int .u8),.int .i64,.int .u64])),(1001,.obox (.agg [.nilsl,.nilsl])),(1002,.obox (.agg [.own (.struct [.int .i64,.int .i64]),.own (.struct [.int .i64,.int .i64])]))]⟩)],fun _ ds k=>dI (fun x0 ds=>dL (fun x1 ds=>dI (fun x2 ds=>dI (fun x3 ds=>dL (fun x4 ds=>dL (fun x5 ds=>dE ((F x0 x1 x2 x3 x4 x5).bind (Sum.elim (fun y=>k 0 [.L y.1,.I y.2.1,.I y.2.2.1,.L y.2.2.2.1,.L y.2.2.2.2]) (fun y=>k 1 [.L y.1,.I y.2.1,.I y.2.2.1,.L y.2.2.2.1,.L y.2.2.2.2]))) ds) ds) ds) ds) ds) ds) ds⟩
theorem q_Z21 (F:T_Z21) (x0:Int) (x1:List D) (x2 x3:Int) (x4 x5:List D):J2 (Jr []) (Js [m_Z21 F,e_Z19,e_Z20]) A 114 (Jk (Jh Try.f114) 25) ((m_Z21 F).sh.mk' [.I x0,.L x1,.I x2,.I x3,.L x4,.L x5]) (fun e σ'=>some (e,σ'))=c_Z21 F x0 x1 x2 x3 x4 x5 (Sum.elim (fun y=>some (.exit 3,SSt.mk' ⟨(.ptr 1000 [0]::.undef::.ptr 1001 [0]::.ptr 1002 [0]::uu 139 ([])),[(1000,.obox (.agg [.rd (.int .u8),.int .i64,.int .u64])),(1001,.obox (.agg [.nilsl,.nilsl])),(1002,.obox (.agg [.own (.struct [.int .i64,.int .i64]),.full 1003 [] (.struct [.int .i64,.int .i64])])),(1003,.own (.struct [.int .i64,.int .i64]))]⟩ [.L y.1,.I y.2.1,.I y.2.2.1,.L y.2.2.2.1,.L y.2.2.2.2])) (fun y=>some (.exit 3,SSt.mk' ⟨(.ptr 1000 [0]::.undef::.ptr 1001 [0]::.ptr 1002 [0]::uu 139 ([])),[(1000,.obox (.agg [.rd (.int .u8),.int .i64,.int .u64])),(1001,.obox (.agg [.nilsl,.nilsl])),(1002,.obox (.agg [.own (.struct [.int .i64,.int .i64]),.own (.struct [.int .i64,.int .i64])]))]⟩ [.L y.1,.I y.2.1,.I y.2.2.1,.L y.2.2.2.1,.L y.2.2.2.2]))):=by kernel_rfl
theorem m_Z21_ok:∀ n,(m_Z21 (n_Z21 n)).ok Try.prog (Jk (Jh Try.f114) 25):=by
 intro n
 induction n with
 | zero=>
  intro R ds k r h
  unfold m_Z21 at h
  obtain ⟨_,_,rfl,h⟩:=Jb h
  obtain ⟨_,_,rfl,h⟩:=Ja h
  obtain ⟨_,_,rfl,h⟩:=Jb h
  obtain ⟨_,_,rfl,h⟩:=Jb h
  obtain ⟨_,_,rfl,h⟩:=Ja h
  obtain ⟨_,_,rfl,h⟩:=Ja h
  obtain ⟨rfl,hE⟩:=Je h
  obtain ⟨y,hy,hk⟩:=Jf hE
  cases hy
 | succ n ih=>
  intro R ds k r h
  unfold m_Z21 at h
  obtain ⟨_,_,rfl,h⟩:=Jb h
  obtain ⟨_,_,rfl,h⟩:=Ja h
  obtain ⟨_,_,rfl,h⟩:=Jb h
  obtain ⟨_,_,rfl,h⟩:=Jb h
  obtain ⟨_,_,rfl,h⟩:=Ja h
  obtain ⟨_,_,rfl,h⟩:=Ja h
  obtain ⟨rfl,hE⟩:=Je h
  obtain ⟨y,hy,hk⟩:=Jf hE
  cases y with
  | inl y=>
   exact ⟨0,_,_,_,hk,rfl,JP px (fx:=⟨Try.func114,by kernel_rfl,by kernel_rfl⟩) Jn (Jm ih (Jm e_Z19_ok (Jm e_Z20_ok Jo))) (by kernel_rfl) ((q_Z21 ..).trans ((c_Z21_bind ..).trans (Jg hy)))⟩
  | inr y=>
   exact ⟨1,_,_,_,hk,rfl,JP px (fx:=⟨Try.func114,by kernel_rfl,by kernel_rfl⟩) Jn (Jm ih (Jm e_Z19_ok (Jm e_Z20_ok Jo))) (by kernel_rfl) ((q_Z21 ..).trans ((c_Z21_bind ..).trans (Jg hy)))⟩
noncomputable def e_Z21:Jq:=m_Z21 (Z21)
theorem e_Z21_ok:(e_Z21).ok Try.prog (Jk (Jh Try.f114) 25):=by
 intro R ds k r h
 unfold e_Z21 m_Z21 at h
 obtain ⟨_,_,rfl,h⟩:=Jb h
 obtain ⟨_,_,rfl,h⟩:=Ja h
 obtain ⟨_,_,rfl,h⟩:=Jb h
 obtain ⟨_,_,rfl,h⟩:=Jb h
 obtain ⟨_,_,rfl,h⟩:=Ja h
 obtain ⟨_,_,rfl,h⟩:=Ja h
 obtain ⟨rfl,hE⟩:=Je h
 obtain ⟨y,hy,hk⟩:=Jf hE
 obtain ⟨n,hn⟩:=J5 hy
 exact m_Z21_ok n R _ k r ((Jg hn).trans hk)

/-!-/
def c_Z22 {R:Type} (x0:List D) (x1 x2:Int) (k:List D×List D×List D×Int×Int→Option R):Option R:=
 (Z14 x0 x1 x2).bind (fun y0=>
 bif decide ((↑y0.fst.length:Int)=(0:Int)) then
 k (y0.fst,y0.snd.fst,y0.snd.snd.fst,y0.snd.snd.snd.fst,y0.snd.snd.snd.snd)
 else
 (Z2 y0.snd.snd.fst y0.snd.snd.snd.fst y0.snd.snd.snd.snd (↑y0.fst.length:Int)).bind (fun y1=>
 if 0≤y1.fst∧y1.fst<(↑y0.fst.length:Int) then
 if y1.fst.toNat+1≤y0.fst.length then
 (Z2 y1.snd.fst y1.snd.snd.fst y1.snd.snd.snd (20:Int)).bind (fun y2=>
 bif decide (y2.fst=(0:Int)) then
 (Z15 y2.snd.fst y2.snd.snd.fst y2.snd.snd.snd ([D.int 0,D.int (999:Int),D.int (1000:Int),D.int (3:Int)])).bind (fun y3=>
 if 0≤y1.fst∧y1.fst<(↑y0.fst.length:Int) then
 if y1.fst.toNat+1≤y0.fst.length then
 k (y0.fst.set y1.fst.toNat (D.node [D.int y3.fst,D.int ((y0.fst.getD y1.fst.toNat (D.int 0)).fld (1:Nat)).toInt]),y0.snd.fst,y3.snd.fst,y3.snd.snd.fst,y3.snd.snd.snd)
 else
 none
 else
 none)
 else
 bif decide (y2.fst=(1:Int)) then
 (Z2 y2.snd.fst y2.snd.snd.fst y2.snd.snd.snd (6:Int)).bind (fun y4=>
 if 0≤y1.fst∧y1.fst<(↑y0.fst.length:Int) then
 if y1.fst.toNat+1≤y0.fst.length then
 k (y0.fst.set y1.fst.toNat (D.node [D.int ((y0.fst.getD y1.fst.toNat (D.int 0)).fld (0:Nat)).toInt,D.int y4.fst]),y0.snd.fst,y4.snd.fst,y4.snd.snd.fst,y4.snd.snd.snd)
 else
 none
 else
 none)
 else
 bif decide (y2.fst=(2:Int)) then
 if y0.snd.fst.length+[D.node [D.int ((y0.fst.getD y1.fst.toNat (D.int 0)).fld (0:Nat)).toInt,D.int ((y0.fst.getD y1.fst.toNat (D.int 0)).fld (0:Nat)).toInt]].length≤(4294967296:Nat) then
 if 0≤y1.fst∧y1.fst<(↑y0.fst.length:Int) then
 if y1.fst.toNat+1≤y0.fst.length then
 k (y0.fst.set y1.fst.toNat (D.node [D.int ((y0.fst.getD y1.fst.toNat (D.int 0)).fld (0:Nat)).toInt,D.int ((y0.fst.getD y1.fst.toNat (D.int 0)).fld (1:Nat)).toInt]),y0.snd.fst++[D.node [D.int ((y0.fst.getD y1.fst.toNat (D.int 0)).fld (0:Nat)).toInt,D.int ((y0.fst.getD y1.fst.toNat (D.int 0)).fld (0:Nat)).toInt]],y2.snd.fst,y2.snd.snd.fst,y2.snd.snd.snd)
 else
 none
 else
 none
 else
 none
 else
 bif decide (y2.fst=(3:Int)) then
 (Z2 y2.snd.fst y2.snd.snd.fst y2.snd.snd.snd (9:Int)).bind (fun y5=>
 (Z2 y5.snd.fst y5.snd.snd.fst y5.snd.snd.snd (9:Int)).bind (fun y6=>
 if y0.snd.fst.length+[D.node [D.int y5.fst,D.int y6.fst]].length≤(4294967296:Nat) then
 if 0≤y1.fst∧y1.fst<(↑y0.fst.length:Int) then
 if y1.fst.toNat+1≤y0.fst.length then
 k (y0.fst.set y1.fst.toNat (D.node [D.int ((y0.fst.getD y1.fst.toNat (D.int 0)).fld (0:Nat)).toInt,D.int ((y0.fst.getD y1.fst.toNat (D.int 0)).fld (1:Nat)).toInt]),y0.snd.fst++[D.node [D.int y5.fst,D.int y6.fst]],y6.snd.fst,y6.snd.snd.fst,y6.snd.snd.snd)
 else
 none
 else
 none
 else
 none))
 else
 bif decide (y2.fst=(4:Int)) then
 (Z17 (0:Int) y2.snd.fst y2.snd.snd.fst y2.snd.snd.snd y0.fst y0.snd.fst).bind (Sum.elim (fun y7=>
 k (y7.snd.snd.snd.snd,y7.snd.snd.snd.fst,y7.fst,y7.snd.fst,y7.snd.snd.fst)) (fun y8=>
 k (y8.snd.snd.snd.fst,y8.snd.snd.snd.snd,y8.fst,y8.snd.fst,y8.snd.snd.fst)))
 else
 bif decide (y2.fst=(5:Int)) then
 (Z5 y2.snd.fst y2.snd.snd.fst y2.snd.snd.snd (7:Int)).bind (fun y9=>
 (Z21 (0:Int) y9.snd.fst y9.snd.snd.fst y9.snd.snd.snd y9.fst []).bind (Sum.elim (fun y10=>
 (Z2 y10.fst y10.snd.fst y10.snd.snd.fst (2:Int)).bind (fun y11=>
 if (0:Int)≤(0:Int)∧(0:Int)≤IntKind.i64.wrap ((24:Int)+y11.fst)∧IntKind.i64.wrap ((24:Int)+y11.fst)≤(↑y10.snd.snd.snd.snd.length:Int) then
 if (0:Nat)+((IntKind.i64.wrap ((24:Int)+y11.fst)).toNat - (0:Nat))≤y10.snd.snd.snd.snd.length then
 k (y10.snd.snd.snd.fst,List.take ((IntKind.i64.wrap ((24:Int)+y11.fst)).toNat - (0:Nat)) (List.drop (0:Nat) y10.snd.snd.snd.snd),y11.snd.fst,y11.snd.snd.fst,y11.snd.snd.snd)
 else
 none
 else
 none)) (fun y12=>
 (Z2 y12.fst y12.snd.fst y12.snd.snd.fst (2:Int)).bind (fun y13=>
 if (0:Int)≤(0:Int)∧(0:Int)≤IntKind.i64.wrap ((24:Int)+y13.fst)∧IntKind.i64.wrap ((24:Int)+y13.fst)≤(↑y12.snd.snd.snd.snd.length:Int) then
 if (0:Nat)+((IntKind.i64.wrap ((24:Int)+y13.fst)).toNat - (0:Nat))≤y12.snd.snd.snd.snd.length then
 k (y12.snd.snd.snd.fst,List.take ((IntKind.i64.wrap ((24:Int)+y13.fst)).toNat - (0:Nat)) (List.drop (0:Nat) y12.snd.snd.snd.snd),y13.snd.fst,y13.snd.snd.fst,y13.snd.snd.snd)
 else
 none
 else
 none))))
 else
 if 0≤y1.fst∧y1.fst<(↑y0.fst.length:Int) then
 if y1.fst.toNat+1≤y0.fst.length then
 k (y0.fst.set y1.fst.toNat (D.node [D.int ((y0.fst.getD y1.fst.toNat (D.int 0)).fld (0:Nat)).toInt,D.int ((y0.fst.getD y1.fst.toNat (D.int 0)).fld (1:Nat)).toInt]),y0.snd.fst,y2.snd.fst,y2.snd.snd.fst,y2.snd.snd.snd)
 else
 none
 else
 none)
 else
 none
 else
 none))
theorem c_Z22_bind {R:Type} (x0:List D) (x1 x2:Int) (k:List D×List D×List D×Int×Int→Option R):c_Z22 x0 x1 x2 k=(c_Z22 x0 x1 x2 some).bind k:=by
 unfold c_Z22
 repeat' first
  | exact JA
  | exact Jz
  | exact Jy
  | apply Jv
  | apply Jw
  | apply JB
  | (apply Jx;intro _)
  | intro _
def Z22 (x0:List D) (x1 x2:Int):Option (List D×List D×List D×Int×Int):=c_Z22 x0 x1 x2 some
def e_Z22:Ent:=⟨114,[.obox (.agg [.rd (.int .u8),.int .i64,.int .u64])],[(.agg [.own (.struct [.int .i64,.int .i64]),.own (.struct [.int .i64,.int .i64])],[.obox (.agg [.rd (.int .u8),.int .i64,.int .u64])])],fun _ ds k=>dL (fun x0 ds=>dI (fun x1 ds=>dI (fun x2 ds=>dE ((Z22 x0 x1 x2).bind (fun y=>k 0 [.L y.1,.L y.2.1,.L y.2.2.1,.I y.2.2.2.1,.I y.2.2.2.2])) ds) ds) ds) ds⟩
theorem q_Z22 (x0:List D) (x1 x2:Int):JX (Jr [e_Z14,e_Z2,e_Z15,e_Z5]) (Js [e_Z17,e_Z21]) A 114 Try.f114 (Sh.mks e_Z22.sh [.L x0,.I x1,.I x2]).1 (fun v os=>some (v,os))=c_Z22 x0 x1 x2 (fun y=>J0 e_Z22 0 [.L y.1,.L y.2.1,.L y.2.2.1,.I y.2.2.2.1,.I y.2.2.2.2]):=by kernel_rfl
theorem e_Z22_ok:e_Z22.ok Try.prog A:=by
 intro R ds k r h
 unfold e_Z22 at h
 obtain ⟨_,_,rfl,h⟩:=Ja h
 obtain ⟨_,_,rfl,h⟩:=Jb h
 obtain ⟨_,_,rfl,h⟩:=Jb h
 obtain ⟨rfl,hE⟩:=Je h
 obtain ⟨y,hy,hk⟩:=Jf hE
 exact ⟨0,_,_,_,hk,rfl,J1 px (fx:=⟨Try.func114,by kernel_rfl,by kernel_rfl⟩) (Jt e_Z14_ok (Jt e_Z2_ok (Jt e_Z15_ok (Jt e_Z5_ok Jn)))) (Jm e_Z17_ok (Jm e_Z21_ok Jo)) ((q_Z22 ..).trans ((c_Z22_bind ..).trans (Jg hy)))⟩

/-!-/
abbrev T_Z23:=Int→Int→List D→List D→Option ((Int)⊕(Unit))
def c_Z23 {R:Type} (F:T_Z23) (x0 x1:Int) (x2 x3:List D) (k:(Int)⊕(Unit)→Option R):Option R:=
 bif decide (x1<(↑x2.length:Int)) then
 if 0≤x1∧x1<(↑x2.length:Int) then
 bif decide (((x2.getD x1.toNat (D.int 0)).fld (0:Nat)).toInt=x0) then
 k (.inl x1)
 else
 (F x0 (IntKind.i64.wrap (x1+1)) x2 x3).bind k
 else
 none
 else
 k (.inr ())
theorem c_Z23_bind {R:Type} (F:T_Z23) (x0 x1:Int) (x2 x3:List D) (k:(Int)⊕(Unit)→Option R):c_Z23 F x0 x1 x2 x3 k=(c_Z23 F x0 x1 x2 x3 some).bind k:=by
 unfold c_Z23
 repeat' first
  | exact JA
  | exact Jz
  | exact Jy
  | apply Jv
  | apply Jw
  | apply JB
  | (apply Jx;intro _)
  | intro _
def n_Z23:Nat→T_Z23
 | 0,_,_,_,_=>none
 | n+1,x0,x1,x2,x3=>c_Z23 (n_Z23 n) x0 x1 x2 x3 some
noncomputable def Z23 (x0 x1:Int) (x2 x3:List D):Option ((Int)⊕(Unit)):=ev (fun n=>n_Z23 n x0 x1 x2 x3)
def m_Z23 (F:T_Z23):Jq:=⟨2,⟨(.undef::.int .i64::.ptr 1000 [0]::.undef::.undef::.int .i64::uu 16 ([])),[(1000,.obox (.agg [.rd (.struct [.int .i64,.int .i64]),.rd (.struct [.int .i64,.int .i64])]))]⟩,[(.ret,⟨(uu 4 (.int .i64::uu 17 ([]))),[]⟩),(.exit 0,⟨(uu 22 ([])),[]⟩)],fun _ ds k=>dI (fun x0 ds=>dI (fun x1 ds=>dL (fun x2 ds=>dL (fun x3 ds=>dE ((F x0 x1 x2 x3).bind (Sum.elim (fun y=>k 0 [.I y]) (fun y=>k 1 []))) ds) ds) ds) ds) ds⟩
theorem q_Z23 (F:T_Z23) (x0 x1:Int) (x2 x3:List D):J2 (Jr []) (Js [m_Z23 F]) A 58 (Jk (Jh Try.f58) 2) ((m_Z23 F).sh.mk' [.I x0,.I x1,.L x2,.L x3]) (fun e σ'=>some (e,σ'))=c_Z23 F x0 x1 x2 x3 (Sum.elim (fun y=>some (.ret,SSt.mk' ⟨(uu 4 (.int .i64::uu 17 ([]))),[]⟩ [.I y])) (fun y=>some (.exit 0,SSt.mk' ⟨(uu 22 ([])),[]⟩ []))):=by kernel_rfl
theorem m_Z23_ok:∀ n,(m_Z23 (n_Z23 n)).ok Try.prog (Jk (Jh Try.f58) 2):=by
 intro n
 induction n with
 | zero=>
  intro R ds k r h
  unfold m_Z23 at h
  obtain ⟨_,_,rfl,h⟩:=Jb h
  obtain ⟨_,_,rfl,h⟩:=Jb h
  obtain ⟨_,_,rfl,h⟩:=Ja h
  obtain ⟨_,_,rfl,h⟩:=Ja h
  obtain ⟨rfl,hE⟩:=Je h
  obtain ⟨y,hy,hk⟩:=Jf hE
  cases hy
 | succ n ih=>
  intro R ds k r h
  unfold m_Z23 at h
  obtain ⟨_,_,rfl,h⟩:=Jb h
  obtain ⟨_,_,rfl,h⟩:=Jb h
  obtain ⟨_,_,rfl,h⟩:=Ja h
  obtain ⟨_,_,rfl,h⟩:=Ja h
  obtain ⟨rfl,hE⟩:=Je h
  obtain ⟨y,hy,hk⟩:=Jf hE
  cases y with
  | inl y=>
   exact ⟨0,_,_,_,hk,rfl,JP px (fx:=⟨Try.func58,by kernel_rfl,by kernel_rfl⟩) Jn (Jm ih Jo) (by kernel_rfl) ((q_Z23 ..).trans ((c_Z23_bind ..).trans (Jg hy)))⟩
  | inr y=>
   exact ⟨1,_,_,_,hk,rfl,JP px (fx:=⟨Try.func58,by kernel_rfl,by kernel_rfl⟩) Jn (Jm ih Jo) (by kernel_rfl) ((q_Z23 ..).trans ((c_Z23_bind ..).trans (Jg hy)))⟩
noncomputable def e_Z23:Jq:=m_Z23 (Z23)
theorem e_Z23_ok:(e_Z23).ok Try.prog (Jk (Jh Try.f58) 2):=by
 intro R ds k r h
 unfold e_Z23 m_Z23 at h
 obtain ⟨_,_,rfl,h⟩:=Jb h
 obtain ⟨_,_,rfl,h⟩:=Jb h
 obtain ⟨_,_,rfl,h⟩:=Ja h
 obtain ⟨_,_,rfl,h⟩:=Ja h
 obtain ⟨rfl,hE⟩:=Je h
 obtain ⟨y,hy,hk⟩:=Jf hE
 obtain ⟨n,hn⟩:=J5 hy
 exact m_Z23_ok n R _ k r ((Jg hn).trans hk)

/-!-/
def c_Z24 {R:Type} (x0 x1:List D) (x2:Int) (k:Int→Option R):Option R:=
 (Z23 x2 (0:Int) x0 x1).bind (Sum.elim (fun y0=>
 k y0) (fun y1=>
 k (-1:Int)))
theorem c_Z24_bind {R:Type} (x0 x1:List D) (x2:Int) (k:Int→Option R):c_Z24 x0 x1 x2 k=(c_Z24 x0 x1 x2 some).bind k:=by
 unfold c_Z24
 repeat' first
  | exact JA
  | exact Jz
  | exact Jy
  | apply Jv
  | apply Jw
  | apply JB
  | (apply Jx;intro _)
  | intro _
def Z24 (x0 x1:List D) (x2:Int):Option (Int):=c_Z24 x0 x1 x2 some
def e_Z24:Ent:=⟨58,[.agg [.rd (.struct [.int .i64,.int .i64]),.rd (.struct [.int .i64,.int .i64])],.int .i64],[(.int .i64,[.undef,.undef])],fun _ ds k=>dL (fun x0 ds=>dL (fun x1 ds=>dI (fun x2 ds=>dE ((Z24 x0 x1 x2).bind (fun y=>k 0 [.I y])) ds) ds) ds) ds⟩
theorem q_Z24 (x0 x1:List D) (x2:Int):JX (Jr []) (Js [e_Z23]) A 58 Try.f58 (Sh.mks e_Z24.sh [.L x0,.L x1,.I x2]).1 (fun v os=>some (v,os))=c_Z24 x0 x1 x2 (fun y=>J0 e_Z24 0 [.I y]):=by kernel_rfl
theorem e_Z24_ok:e_Z24.ok Try.prog A:=by
 intro R ds k r h
 unfold e_Z24 at h
 obtain ⟨_,_,rfl,h⟩:=Ja h
 obtain ⟨_,_,rfl,h⟩:=Ja h
 obtain ⟨_,_,rfl,h⟩:=Jb h
 obtain ⟨rfl,hE⟩:=Je h
 obtain ⟨y,hy,hk⟩:=Jf hE
 exact ⟨0,_,_,_,hk,rfl,J1 px (fx:=⟨Try.func58,by kernel_rfl,by kernel_rfl⟩) Jn (Jm e_Z23_ok Jo) ((q_Z24 ..).trans ((c_Z24_bind ..).trans (Jg hy)))⟩

/-!-/
abbrev T_Z25:=Int→List D→List D→List D→Option (List D)
def c_Z25 {R:Type} (F:T_Z25) (x0:Int) (x1 x2 x3:List D) (k:List D→Option R):Option R:=
 bif decide (x0<(↑x2.length:Int)) then
 if 0≤x0∧x0<(↑x2.length:Int) then
 (Z24 x1 x2 (((x2.getD x0.toNat (D.int 0)).fld (0:Nat)).toInt)).bind (fun y0=>
 if 0≤x0∧x0<(↑x2.length:Int) then
 (Z24 x1 x2 (((x2.getD x0.toNat (D.int 0)).fld (1:Nat)).toInt)).bind (fun y1=>
 if 0≤y0∧y0<(↑x3.length:Int) then
 if y0.toNat+1≤x3.length then
 if (0:Int)≤IntKind.u64.wrap y1 then
 if 0≤y0∧y0<(↑x3.length:Int) then
 if y0.toNat+1≤x3.length then
 (F (IntKind.i64.wrap (x0+1)) x1 x2 (x3.set y0.toNat (D.int (IntKind.i64.wrap (↑(BitVec.ofInt IntKind.i64.bits (x3.getD y0.toNat (D.int 0)).toInt ||| BitVec.ofInt IntKind.i64.bits (IntKind.i64.wrap ((1:Int) * (2:Int) ^ Min.min (IntKind.u64.wrap y1).toNat IntKind.i64.bits))).toNat:Int))))).bind k
 else
 none
 else
 none
 else
 none
 else
 none
 else
 none)
 else
 none)
 else
 none
 else
 k x3
theorem c_Z25_bind {R:Type} (F:T_Z25) (x0:Int) (x1 x2 x3:List D) (k:List D→Option R):c_Z25 F x0 x1 x2 x3 k=(c_Z25 F x0 x1 x2 x3 some).bind k:=by
 unfold c_Z25
 repeat' first
  | exact JA
  | exact Jz
  | exact Jy
  | apply Jv
  | apply Jw
  | apply JB
  | (apply Jx;intro _)
  | intro _
def n_Z25:Nat→T_Z25
 | 0,_,_,_,_=>none
 | n+1,x0,x1,x2,x3=>c_Z25 (n_Z25 n) x0 x1 x2 x3 some
noncomputable def Z25 (x0:Int) (x1 x2 x3:List D):Option (List D):=ev (fun n=>n_Z25 n x0 x1 x2 x3)
def m_Z25 (F:T_Z25):Jq:=⟨3,⟨(.undef::.ptr 1000 [0]::.undef::.full 1001 [] (.int .i64)::.int .i64::uu 76 ([])),[(1000,.obox (.agg [.rd (.struct [.int .i64,.int .i64]),.rd (.struct [.int .i64,.int .i64])])),(1001,.own (.int .i64))]⟩,[(.exit 0,⟨(.undef::.undef::.undef::.full 1000 [] (.int .i64)::uu 77 ([])),[(1000,.own (.int .i64))]⟩)],fun _ ds k=>dI (fun x0 ds=>dL (fun x1 ds=>dL (fun x2 ds=>dL (fun x3 ds=>dE ((F x0 x1 x2 x3).bind (fun y=>k 0 [.L y])) ds) ds) ds) ds) ds⟩
theorem q_Z25 (F:T_Z25) (x0:Int) (x1 x2 x3:List D):J2 (Jr [e_Z24]) (Js [m_Z25 F]) A 61 (Jk (Jh Try.f61) 3) ((m_Z25 F).sh.mk' [.I x0,.L x1,.L x2,.L x3]) (fun e σ'=>some (e,σ'))=c_Z25 F x0 x1 x2 x3 (fun y=>some (.exit 0,SSt.mk' ⟨(.undef::.undef::.undef::.full 1000 [] (.int .i64)::uu 77 ([])),[(1000,.own (.int .i64))]⟩ [.L y])):=by kernel_rfl
theorem m_Z25_ok:∀ n,(m_Z25 (n_Z25 n)).ok Try.prog (Jk (Jh Try.f61) 3):=by
 intro n
 induction n with
 | zero=>
  intro R ds k r h
  unfold m_Z25 at h
  obtain ⟨_,_,rfl,h⟩:=Jb h
  obtain ⟨_,_,rfl,h⟩:=Ja h
  obtain ⟨_,_,rfl,h⟩:=Ja h
  obtain ⟨_,_,rfl,h⟩:=Ja h
  obtain ⟨rfl,hE⟩:=Je h
  obtain ⟨y,hy,hk⟩:=Jf hE
  cases hy
 | succ n ih=>
  intro R ds k r h
  unfold m_Z25 at h
  obtain ⟨_,_,rfl,h⟩:=Jb h
  obtain ⟨_,_,rfl,h⟩:=Ja h
  obtain ⟨_,_,rfl,h⟩:=Ja h
  obtain ⟨_,_,rfl,h⟩:=Ja h
  obtain ⟨rfl,hE⟩:=Je h
  obtain ⟨y,hy,hk⟩:=Jf hE
  exact ⟨0,_,_,_,hk,rfl,JP px (fx:=⟨Try.func61,by kernel_rfl,by kernel_rfl⟩) (Jt e_Z24_ok Jn) (Jm ih Jo) (by kernel_rfl) ((q_Z25 ..).trans ((c_Z25_bind ..).trans (Jg hy)))⟩
noncomputable def e_Z25:Jq:=m_Z25 (Z25)
theorem e_Z25_ok:(e_Z25).ok Try.prog (Jk (Jh Try.f61) 3):=by
 intro R ds k r h
 unfold e_Z25 m_Z25 at h
 obtain ⟨_,_,rfl,h⟩:=Jb h
 obtain ⟨_,_,rfl,h⟩:=Ja h
 obtain ⟨_,_,rfl,h⟩:=Ja h
 obtain ⟨_,_,rfl,h⟩:=Ja h
 obtain ⟨rfl,hE⟩:=Je h
 obtain ⟨y,hy,hk⟩:=Jf hE
 obtain ⟨n,hn⟩:=J5 hy
 exact m_Z25_ok n R _ k r ((Jg hn).trans hk)

/-!-/
abbrev T_Z26:=Int→Int→List D→Option (Int×List D)
def c_Z26 {R:Type} (F:T_Z26) (x0 x1:Int) (x2:List D) (k:Int×List D→Option R):Option R:=
 bif decide (x1<(↑x2.length:Int)) then
 if 0≤x1∧x1<(↑x2.length:Int) then
 if x1.toNat+1≤x2.length then
 if (0:Int)≤IntKind.u64.wrap x0 then
 bif decide (IntKind.i64.wrap (↑(BitVec.ofInt IntKind.i64.bits ((x2.getD x1.toNat (D.int 0)).toInt.fdiv ((2:Int) ^ Min.min (IntKind.u64.wrap x0).toNat IntKind.i64.bits)) &&& BitVec.ofInt IntKind.i64.bits (1:Int)).toNat:Int)=(1:Int)) then
 if 0≤x1∧x1<(↑x2.length:Int) then
 if x1.toNat+1≤x2.length then
 if 0≤x0∧x0<(↑x2.length:Int) then
 if x0.toNat+1≤x2.length then
 if 0≤x1∧x1<(↑x2.length:Int) then
 if x1.toNat+1≤x2.length then
 (F x0 (IntKind.i64.wrap (x1+1)) (x2.set x1.toNat (D.int (IntKind.i64.wrap (↑(BitVec.ofInt IntKind.i64.bits (x2.getD x1.toNat (D.int 0)).toInt ||| BitVec.ofInt IntKind.i64.bits (x2.getD x0.toNat (D.int 0)).toInt).toNat:Int))))).bind k
 else
 none
 else
 none
 else
 none
 else
 none
 else
 none
 else
 none
 else
 (F x0 (IntKind.i64.wrap (x1+1)) x2).bind k
 else
 none
 else
 none
 else
 none
 else
 k (x0,x2)
theorem c_Z26_bind {R:Type} (F:T_Z26) (x0 x1:Int) (x2:List D) (k:Int×List D→Option R):c_Z26 F x0 x1 x2 k=(c_Z26 F x0 x1 x2 some).bind k:=by
 unfold c_Z26
 repeat' first
  | exact JA
  | exact Jz
  | exact Jy
  | apply Jv
  | apply Jw
  | apply JB
  | (apply Jx;intro _)
  | intro _
def n_Z26:Nat→T_Z26
 | 0,_,_,_=>none
 | n+1,x0,x1,x2=>c_Z26 (n_Z26 n) x0 x1 x2 some
noncomputable def Z26 (x0 x1:Int) (x2:List D):Option (Int×List D):=ev (fun n=>n_Z26 n x0 x1 x2)
def m_Z26 (F:T_Z26):Jq:=⟨11,⟨(.undef::.undef::.undef::.full 1000 [] (.int .i64)::.undef::.undef::.undef::.int .i64::.int .i64::uu 72 ([])),[(1000,.own (.int .i64))]⟩,[(.exit 4,⟨(.undef::.undef::.undef::.full 1000 [] (.int .i64)::.undef::.undef::.undef::.int .i64::uu 73 ([])),[(1000,.own (.int .i64))]⟩)],fun _ ds k=>dI (fun x0 ds=>dI (fun x1 ds=>dL (fun x2 ds=>dE ((F x0 x1 x2).bind (fun y=>k 0 [.I y.1,.L y.2])) ds) ds) ds) ds⟩
theorem q_Z26 (F:T_Z26) (x0 x1:Int) (x2:List D):J2 (Jr []) (Js [m_Z26 F]) A 61 (Jk (Jh Try.f61) 11) ((m_Z26 F).sh.mk' [.I x0,.I x1,.L x2]) (fun e σ'=>some (e,σ'))=c_Z26 F x0 x1 x2 (fun y=>some (.exit 4,SSt.mk' ⟨(.undef::.undef::.undef::.full 1000 [] (.int .i64)::.undef::.undef::.undef::.int .i64::uu 73 ([])),[(1000,.own (.int .i64))]⟩ [.I y.1,.L y.2])):=by kernel_rfl
theorem m_Z26_ok:∀ n,(m_Z26 (n_Z26 n)).ok Try.prog (Jk (Jh Try.f61) 11):=by
 intro n
 induction n with
 | zero=>
  intro R ds k r h
  unfold m_Z26 at h
  obtain ⟨_,_,rfl,h⟩:=Jb h
  obtain ⟨_,_,rfl,h⟩:=Jb h
  obtain ⟨_,_,rfl,h⟩:=Ja h
  obtain ⟨rfl,hE⟩:=Je h
  obtain ⟨y,hy,hk⟩:=Jf hE
  cases hy
 | succ n ih=>
  intro R ds k r h
  unfold m_Z26 at h
  obtain ⟨_,_,rfl,h⟩:=Jb h
  obtain ⟨_,_,rfl,h⟩:=Jb h
  obtain ⟨_,_,rfl,h⟩:=Ja h
  obtain ⟨rfl,hE⟩:=Je h
  obtain ⟨y,hy,hk⟩:=Jf hE
  exact ⟨0,_,_,_,hk,rfl,JP px (fx:=⟨Try.func61,by kernel_rfl,by kernel_rfl⟩) Jn (Jm ih Jo) (by kernel_rfl) ((q_Z26 ..).trans ((c_Z26_bind ..).trans (Jg hy)))⟩
noncomputable def e_Z26:Jq:=m_Z26 (Z26)
theorem e_Z26_ok:(e_Z26).ok Try.prog (Jk (Jh Try.f61) 11):=by
 intro R ds k r h
 unfold e_Z26 m_Z26 at h
 obtain ⟨_,_,rfl,h⟩:=Jb h
 obtain ⟨_,_,rfl,h⟩:=Jb h
 obtain ⟨_,_,rfl,h⟩:=Ja h
 obtain ⟨rfl,hE⟩:=Je h
 obtain ⟨y,hy,hk⟩:=Jf hE
 obtain ⟨n,hn⟩:=J5 hy
 exact m_Z26_ok n R _ k r ((Jg hn).trans hk)

/-!-/
abbrev T_Z27:=Int→List D→Option (List D)
def c_Z27 {R:Type} (F:T_Z27) (x0:Int) (x1:List D) (k:List D→Option R):Option R:=
 bif decide (x0<(↑x1.length:Int)) then
 (Z26 x0 (0:Int) x1).bind (fun y0=>
 (F (IntKind.i64.wrap (y0.fst+1)) y0.snd).bind k)
 else
 k x1
theorem c_Z27_bind {R:Type} (F:T_Z27) (x0:Int) (x1:List D) (k:List D→Option R):c_Z27 F x0 x1 k=(c_Z27 F x0 x1 some).bind k:=by
 unfold c_Z27
 repeat' first
  | exact JA
  | exact Jz
  | exact Jy
  | apply Jv
  | apply Jw
  | apply JB
  | (apply Jx;intro _)
  | intro _
def n_Z27:Nat→T_Z27
 | 0,_,_=>none
 | n+1,x0,x1=>c_Z27 (n_Z27 n) x0 x1 some
noncomputable def Z27 (x0:Int) (x1:List D):Option (List D):=ev (fun n=>n_Z27 n x0 x1)
def m_Z27 (F:T_Z27):Jq:=⟨8,⟨(.undef::.undef::.undef::.full 1000 [] (.int .i64)::.undef::.undef::.undef::.int .i64::uu 73 ([])),[(1000,.own (.int .i64))]⟩,[(.exit 2,⟨(.undef::.undef::.undef::.full 1000 [] (.int .i64)::uu 77 ([])),[(1000,.own (.int .i64))]⟩)],fun _ ds k=>dI (fun x0 ds=>dL (fun x1 ds=>dE ((F x0 x1).bind (fun y=>k 0 [.L y])) ds) ds) ds⟩
theorem q_Z27 (F:T_Z27) (x0:Int) (x1:List D):J2 (Jr []) (Js [m_Z27 F,e_Z26]) A 61 (Jk (Jh Try.f61) 8) ((m_Z27 F).sh.mk' [.I x0,.L x1]) (fun e σ'=>some (e,σ'))=c_Z27 F x0 x1 (fun y=>some (.exit 2,SSt.mk' ⟨(.undef::.undef::.undef::.full 1000 [] (.int .i64)::uu 77 ([])),[(1000,.own (.int .i64))]⟩ [.L y])):=by kernel_rfl
theorem m_Z27_ok:∀ n,(m_Z27 (n_Z27 n)).ok Try.prog (Jk (Jh Try.f61) 8):=by
 intro n
 induction n with
 | zero=>
  intro R ds k r h
  unfold m_Z27 at h
  obtain ⟨_,_,rfl,h⟩:=Jb h
  obtain ⟨_,_,rfl,h⟩:=Ja h
  obtain ⟨rfl,hE⟩:=Je h
  obtain ⟨y,hy,hk⟩:=Jf hE
  cases hy
 | succ n ih=>
  intro R ds k r h
  unfold m_Z27 at h
  obtain ⟨_,_,rfl,h⟩:=Jb h
  obtain ⟨_,_,rfl,h⟩:=Ja h
  obtain ⟨rfl,hE⟩:=Je h
  obtain ⟨y,hy,hk⟩:=Jf hE
  exact ⟨0,_,_,_,hk,rfl,JP px (fx:=⟨Try.func61,by kernel_rfl,by kernel_rfl⟩) Jn (Jm ih (Jm e_Z26_ok Jo)) (by kernel_rfl) ((q_Z27 ..).trans ((c_Z27_bind ..).trans (Jg hy)))⟩
noncomputable def e_Z27:Jq:=m_Z27 (Z27)
theorem e_Z27_ok:(e_Z27).ok Try.prog (Jk (Jh Try.f61) 8):=by
 intro R ds k r h
 unfold e_Z27 m_Z27 at h
 obtain ⟨_,_,rfl,h⟩:=Jb h
 obtain ⟨_,_,rfl,h⟩:=Ja h
 obtain ⟨rfl,hE⟩:=Je h
 obtain ⟨y,hy,hk⟩:=Jf hE
 obtain ⟨n,hn⟩:=J5 hy
 exact m_Z27_ok n R _ k r ((Jg hn).trans hk)

/-!-/
def c_Z28 {R:Type} (x0 x1:List D) (k:List D→Option R):Option R:=
 if (0:Int)≤(↑x0.length:Int)∧(↑x0.length:Int)≤(↑x0.length:Int)∧(↑x0.length:Int)≤(4294967296:Int) then
 (Z25 (0:Int) x0 x1 (List.replicate (↑x0.length:Int).toNat (D.int 0))).bind (fun y0=>
 (Z27 (0:Int) y0).bind (fun y1=>
 k y1))
 else
 none
theorem c_Z28_bind {R:Type} (x0 x1:List D) (k:List D→Option R):c_Z28 x0 x1 k=(c_Z28 x0 x1 some).bind k:=by
 unfold c_Z28
 repeat' first
  | exact JA
  | exact Jz
  | exact Jy
  | apply Jv
  | apply Jw
  | apply JB
  | (apply Jx;intro _)
  | intro _
def Z28 (x0 x1:List D):Option (List D):=c_Z28 x0 x1 some
def e_Z28:Ent:=⟨61,[.agg [.rd (.struct [.int .i64,.int .i64]),.rd (.struct [.int .i64,.int .i64])]],[(.own (.int .i64),[.undef])],fun _ ds k=>dL (fun x0 ds=>dL (fun x1 ds=>dE ((Z28 x0 x1).bind (fun y=>k 0 [.L y])) ds) ds) ds⟩
theorem q_Z28 (x0 x1:List D):JX (Jr []) (Js [e_Z25,e_Z27]) A 61 Try.f61 (Sh.mks e_Z28.sh [.L x0,.L x1]).1 (fun v os=>some (v,os))=c_Z28 x0 x1 (fun y=>J0 e_Z28 0 [.L y]):=by kernel_rfl
theorem e_Z28_ok:e_Z28.ok Try.prog A:=by
 intro R ds k r h
 unfold e_Z28 at h
 obtain ⟨_,_,rfl,h⟩:=Ja h
 obtain ⟨_,_,rfl,h⟩:=Ja h
 obtain ⟨rfl,hE⟩:=Je h
 obtain ⟨y,hy,hk⟩:=Jf hE
 exact ⟨0,_,_,_,hk,rfl,J1 px (fx:=⟨Try.func61,by kernel_rfl,by kernel_rfl⟩) Jn (Jm e_Z25_ok (Jm e_Z27_ok Jo)) ((q_Z28 ..).trans ((c_Z28_bind ..).trans (Jg hy)))⟩

/-!-/
def c_Z29 {R:Type} (x0 x1:Int) (k:Bool→Option R):Option R:=
 if (0:Int)≤IntKind.u64.wrap x1 then
 k (decide (IntKind.i64.wrap (↑(BitVec.ofInt IntKind.i64.bits (x0.fdiv ((2:Int) ^ Min.min (IntKind.u64.wrap x1).toNat IntKind.i64.bits)) &&& BitVec.ofInt IntKind.i64.bits (1:Int)).toNat:Int)=(1:Int)))
 else
 none
theorem c_Z29_bind {R:Type} (x0 x1:Int) (k:Bool→Option R):c_Z29 x0 x1 k=(c_Z29 x0 x1 some).bind k:=by
 unfold c_Z29
 repeat' first
  | exact JA
  | exact Jz
  | exact Jy
  | apply Jv
  | apply Jw
  | apply JB
  | (apply Jx;intro _)
  | intro _
def Z29 (x0 x1:Int):Option (Bool):=c_Z29 x0 x1 some
def e_Z29:Ent:=⟨60,[.int .i64,.int .i64],[(.bool,[.undef,.undef])],fun _ ds k=>dI (fun x0 ds=>dI (fun x1 ds=>dE ((Z29 x0 x1).bind (fun y=>k 0 [.B y])) ds) ds) ds⟩
theorem q_Z29 (x0 x1:Int):JX (Jr []) (Js []) A 60 Try.f60 (Sh.mks e_Z29.sh [.I x0,.I x1]).1 (fun v os=>some (v,os))=c_Z29 x0 x1 (fun y=>J0 e_Z29 0 [.B y]):=by kernel_rfl
theorem e_Z29_ok:e_Z29.ok Try.prog A:=by
 intro R ds k r h
 unfold e_Z29 at h
 obtain ⟨_,_,rfl,h⟩:=Jb h
 obtain ⟨_,_,rfl,h⟩:=Jb h
 obtain ⟨rfl,hE⟩:=Je h
 obtain ⟨y,hy,hk⟩:=Jf hE
 exact ⟨0,_,_,_,hk,rfl,J1 px (fx:=⟨Try.func60,by kernel_rfl,by kernel_rfl⟩) Jn Jo ((q_Z29 ..).trans ((c_Z29_bind ..).trans (Jg hy)))⟩

/-!-/
abbrev T_Z30:=Int→List D→Option ((Bool)⊕(Unit))
def c_Z30 {R:Type} (F:T_Z30) (x0:Int) (x1:List D) (k:(Bool)⊕(Unit)→Option R):Option R:=
 bif decide (x0<(↑x1.length:Int)) then
 if 0≤x0∧x0<(↑x1.length:Int) then
 if x0.toNat+1≤x1.length then
 (Z29 ((x1.getD x0.toNat (D.int 0)).toInt) x0).bind (fun y0=>
 bif y0 then
 k (.inl Bool.false)
 else
 (F (IntKind.i64.wrap (x0+1)) x1).bind k)
 else
 none
 else
 none
 else
 k (.inr ())
theorem c_Z30_bind {R:Type} (F:T_Z30) (x0:Int) (x1:List D) (k:(Bool)⊕(Unit)→Option R):c_Z30 F x0 x1 k=(c_Z30 F x0 x1 some).bind k:=by
 unfold c_Z30
 repeat' first
  | exact JA
  | exact Jz
  | exact Jy
  | apply Jv
  | apply Jw
  | apply JB
  | (apply Jx;intro _)
  | intro _
def n_Z30:Nat→T_Z30
 | 0,_,_=>none
 | n+1,x0,x1=>c_Z30 (n_Z30 n) x0 x1 some
noncomputable def Z30 (x0:Int) (x1:List D):Option ((Bool)⊕(Unit)):=ev (fun n=>n_Z30 n x0 x1)
def m_Z30 (F:T_Z30):Jq:=⟨3,⟨(.undef::.undef::.undef::.full 1000 [] (.int .i64)::.int .i64::uu 14 ([])),[(1000,.own (.int .i64))]⟩,[(.ret,⟨(.undef::.undef::.bool::uu 16 ([])),[]⟩),(.exit 0,⟨(uu 19 ([])),[]⟩)],fun _ ds k=>dI (fun x0 ds=>dL (fun x1 ds=>dE ((F x0 x1).bind (Sum.elim (fun y=>k 0 [.B y]) (fun y=>k 1 []))) ds) ds) ds⟩
theorem q_Z30 (F:T_Z30) (x0:Int) (x1:List D):J2 (Jr [e_Z29]) (Js [m_Z30 F]) A 105 (Jk (Jh Try.f105) 3) ((m_Z30 F).sh.mk' [.I x0,.L x1]) (fun e σ'=>some (e,σ'))=c_Z30 F x0 x1 (Sum.elim (fun y=>some (.ret,SSt.mk' ⟨(.undef::.undef::.bool::uu 16 ([])),[]⟩ [.B y])) (fun y=>some (.exit 0,SSt.mk' ⟨(uu 19 ([])),[]⟩ []))):=by kernel_rfl
theorem m_Z30_ok:∀ n,(m_Z30 (n_Z30 n)).ok Try.prog (Jk (Jh Try.f105) 3):=by
 intro n
 induction n with
 | zero=>
  intro R ds k r h
  unfold m_Z30 at h
  obtain ⟨_,_,rfl,h⟩:=Jb h
  obtain ⟨_,_,rfl,h⟩:=Ja h
  obtain ⟨rfl,hE⟩:=Je h
  obtain ⟨y,hy,hk⟩:=Jf hE
  cases hy
 | succ n ih=>
  intro R ds k r h
  unfold m_Z30 at h
  obtain ⟨_,_,rfl,h⟩:=Jb h
  obtain ⟨_,_,rfl,h⟩:=Ja h
  obtain ⟨rfl,hE⟩:=Je h
  obtain ⟨y,hy,hk⟩:=Jf hE
  cases y with
  | inl y=>
   exact ⟨0,_,_,_,hk,rfl,JP px (fx:=⟨Try.func105,by kernel_rfl,by kernel_rfl⟩) (Jt e_Z29_ok Jn) (Jm ih Jo) (by kernel_rfl) ((q_Z30 ..).trans ((c_Z30_bind ..).trans (Jg hy)))⟩
  | inr y=>
   exact ⟨1,_,_,_,hk,rfl,JP px (fx:=⟨Try.func105,by kernel_rfl,by kernel_rfl⟩) (Jt e_Z29_ok Jn) (Jm ih Jo) (by kernel_rfl) ((q_Z30 ..).trans ((c_Z30_bind ..).trans (Jg hy)))⟩
noncomputable def e_Z30:Jq:=m_Z30 (Z30)
theorem e_Z30_ok:(e_Z30).ok Try.prog (Jk (Jh Try.f105) 3):=by
 intro R ds k r h
 unfold e_Z30 m_Z30 at h
 obtain ⟨_,_,rfl,h⟩:=Jb h
 obtain ⟨_,_,rfl,h⟩:=Ja h
 obtain ⟨rfl,hE⟩:=Je h
 obtain ⟨y,hy,hk⟩:=Jf hE
 obtain ⟨n,hn⟩:=J5 hy
 exact m_Z30_ok n R _ k r ((Jg hn).trans hk)

/-!-/
def c_Z31 {R:Type} (x0 x1:List D) (k:Bool→Option R):Option R:=
 (Z28 x0 x1).bind (fun y0=>
 (Z30 (0:Int) y0).bind (Sum.elim (fun y1=>
 k y1) (fun y2=>
 k Bool.true)))
theorem c_Z31_bind {R:Type} (x0 x1:List D) (k:Bool→Option R):c_Z31 x0 x1 k=(c_Z31 x0 x1 some).bind k:=by
 unfold c_Z31
 repeat' first
  | exact JA
  | exact Jz
  | exact Jy
  | apply Jv
  | apply Jw
  | apply JB
  | (apply Jx;intro _)
  | intro _
def Z31 (x0 x1:List D):Option (Bool):=c_Z31 x0 x1 some
def e_Z31:Ent:=⟨105,[.agg [.rd (.struct [.int .i64,.int .i64]),.rd (.struct [.int .i64,.int .i64])]],[(.bool,[.undef])],fun _ ds k=>dL (fun x0 ds=>dL (fun x1 ds=>dE ((Z31 x0 x1).bind (fun y=>k 0 [.B y])) ds) ds) ds⟩
theorem q_Z31 (x0 x1:List D):JX (Jr [e_Z28]) (Js [e_Z30]) A 105 Try.f105 (Sh.mks e_Z31.sh [.L x0,.L x1]).1 (fun v os=>some (v,os))=c_Z31 x0 x1 (fun y=>J0 e_Z31 0 [.B y]):=by kernel_rfl
theorem e_Z31_ok:e_Z31.ok Try.prog A:=by
 intro R ds k r h
 unfold e_Z31 at h
 obtain ⟨_,_,rfl,h⟩:=Ja h
 obtain ⟨_,_,rfl,h⟩:=Ja h
 obtain ⟨rfl,hE⟩:=Je h
 obtain ⟨y,hy,hk⟩:=Jf hE
 exact ⟨0,_,_,_,hk,rfl,J1 px (fx:=⟨Try.func105,by kernel_rfl,by kernel_rfl⟩) (Jt e_Z28_ok Jn) (Jm e_Z30_ok Jo) ((q_Z31 ..).trans ((c_Z31_bind ..).trans (Jg hy)))⟩

/-!-/
def c_Z32 {R:Type} (x0:List D) (x1 x2:Int) (k:List D×List D×List D×Int×Int→Option R):Option R:=
 (Z14 x0 x1 x2).bind (fun y0=>
 (Z31 y0.fst y0.snd.fst).bind (fun y1=>
 bif !y1 then
 k (y0.fst,[],y0.snd.snd.fst,y0.snd.snd.snd.fst,y0.snd.snd.snd.snd)
 else
 k (y0.fst,y0.snd.fst,y0.snd.snd.fst,y0.snd.snd.snd.fst,y0.snd.snd.snd.snd)))
theorem c_Z32_bind {R:Type} (x0:List D) (x1 x2:Int) (k:List D×List D×List D×Int×Int→Option R):c_Z32 x0 x1 x2 k=(c_Z32 x0 x1 x2 some).bind k:=by
 unfold c_Z32
 repeat' first
  | exact JA
  | exact Jz
  | exact Jy
  | apply Jv
  | apply Jw
  | apply JB
  | (apply Jx;intro _)
  | intro _
def Z32 (x0:List D) (x1 x2:Int):Option (List D×List D×List D×Int×Int):=c_Z32 x0 x1 x2 some
def e_Z32:Ent:=⟨143,[.obox (.agg [.rd (.int .u8),.int .i64,.int .u64])],[(.agg [.own (.struct [.int .i64,.int .i64]),.own (.struct [.int .i64,.int .i64])],[.obox (.agg [.rd (.int .u8),.int .i64,.int .u64])])],fun _ ds k=>dL (fun x0 ds=>dI (fun x1 ds=>dI (fun x2 ds=>dE ((Z32 x0 x1 x2).bind (fun y=>k 0 [.L y.1,.L y.2.1,.L y.2.2.1,.I y.2.2.2.1,.I y.2.2.2.2])) ds) ds) ds) ds⟩
theorem q_Z32 (x0:List D) (x1 x2:Int):JX (Jr [e_Z14,e_Z31]) (Js []) A 143 Try.f143 (Sh.mks e_Z32.sh [.L x0,.I x1,.I x2]).1 (fun v os=>some (v,os))=c_Z32 x0 x1 x2 (fun y=>J0 e_Z32 0 [.L y.1,.L y.2.1,.L y.2.2.1,.I y.2.2.2.1,.I y.2.2.2.2]):=by kernel_rfl
theorem e_Z32_ok:e_Z32.ok Try.prog A:=by
 intro R ds k r h
 unfold e_Z32 at h
 obtain ⟨_,_,rfl,h⟩:=Ja h
 obtain ⟨_,_,rfl,h⟩:=Jb h
 obtain ⟨_,_,rfl,h⟩:=Jb h
 obtain ⟨rfl,hE⟩:=Je h
 obtain ⟨y,hy,hk⟩:=Jf hE
 exact ⟨0,_,_,_,hk,rfl,J1 px (fx:=⟨Try.func143,by kernel_rfl,by kernel_rfl⟩) (Jt e_Z14_ok (Jt e_Z31_ok Jn)) Jo ((q_Z32 ..).trans ((c_Z32_bind ..).trans (Jg hy)))⟩

/-!-/
def c_Z33 {R:Type} (x0:List D) (x1 x2:Int) (k:List D×List D×List D×Int×Int→Option R):Option R:=
 (Z3 x0 x1 x2 (12:Int)).bind (fun y0=>
 bif y0.fst then
 (Z22 y0.snd.fst y0.snd.snd.fst y0.snd.snd.snd).bind (fun y1=>
 k (y1.fst,y1.snd.fst,y1.snd.snd.fst,y1.snd.snd.snd.fst,y1.snd.snd.snd.snd))
 else
 (Z32 y0.snd.fst y0.snd.snd.fst y0.snd.snd.snd).bind (fun y2=>
 k (y2.fst,y2.snd.fst,y2.snd.snd.fst,y2.snd.snd.snd.fst,y2.snd.snd.snd.snd)))
theorem c_Z33_bind {R:Type} (x0:List D) (x1 x2:Int) (k:List D×List D×List D×Int×Int→Option R):c_Z33 x0 x1 x2 k=(c_Z33 x0 x1 x2 some).bind k:=by
 unfold c_Z33
 repeat' first
  | exact JA
  | exact Jz
  | exact Jy
  | apply Jv
  | apply Jw
  | apply JB
  | (apply Jx;intro _)
  | intro _
def Z33 (x0:List D) (x1 x2:Int):Option (List D×List D×List D×Int×Int):=c_Z33 x0 x1 x2 some
def e_Z33:Ent:=⟨102,[.obox (.agg [.rd (.int .u8),.int .i64,.int .u64])],[(.agg [.own (.struct [.int .i64,.int .i64]),.own (.struct [.int .i64,.int .i64])],[.obox (.agg [.rd (.int .u8),.int .i64,.int .u64])])],fun _ ds k=>dL (fun x0 ds=>dI (fun x1 ds=>dI (fun x2 ds=>dE ((Z33 x0 x1 x2).bind (fun y=>k 0 [.L y.1,.L y.2.1,.L y.2.2.1,.I y.2.2.2.1,.I y.2.2.2.2])) ds) ds) ds) ds⟩
theorem q_Z33 (x0:List D) (x1 x2:Int):JX (Jr [e_Z3,e_Z22,e_Z32]) (Js []) A 102 Try.f102 (Sh.mks e_Z33.sh [.L x0,.I x1,.I x2]).1 (fun v os=>some (v,os))=c_Z33 x0 x1 x2 (fun y=>J0 e_Z33 0 [.L y.1,.L y.2.1,.L y.2.2.1,.I y.2.2.2.1,.I y.2.2.2.2]):=by kernel_rfl
theorem e_Z33_ok:e_Z33.ok Try.prog A:=by
 intro R ds k r h
 unfold e_Z33 at h
 obtain ⟨_,_,rfl,h⟩:=Ja h
 obtain ⟨_,_,rfl,h⟩:=Jb h
 obtain ⟨_,_,rfl,h⟩:=Jb h
 obtain ⟨rfl,hE⟩:=Je h
 obtain ⟨y,hy,hk⟩:=Jf hE
 exact ⟨0,_,_,_,hk,rfl,J1 px (fx:=⟨Try.func102,by kernel_rfl,by kernel_rfl⟩) (Jt e_Z3_ok (Jt e_Z22_ok (Jt e_Z32_ok Jn))) Jo ((q_Z33 ..).trans ((c_Z33_bind ..).trans (Jg hy)))⟩

/-!-/
def c_Z34 {R:Type} (x0:List D) (k:List D×List D→Option R):Option R:=
 (Z33 x0 (0:Int) (0:Int)).bind (fun y0=>
 k (y0.fst,y0.snd.fst))
theorem c_Z34_bind {R:Type} (x0:List D) (k:List D×List D→Option R):c_Z34 x0 k=(c_Z34 x0 some).bind k:=by
 unfold c_Z34
 repeat' first
  | exact JA
  | exact Jz
  | exact Jy
  | apply Jv
  | apply Jw
  | apply JB
  | (apply Jx;intro _)
  | intro _
def Z34 (x0:List D):Option (List D×List D):=c_Z34 x0 some
def e_Z34:Ent:=⟨46,[.rd (.int .u8)],[(.agg [.own (.struct [.int .i64,.int .i64]),.own (.struct [.int .i64,.int .i64])],[.undef])],fun _ ds k=>dL (fun x0 ds=>dE ((Z34 x0).bind (fun y=>k 0 [.L y.1,.L y.2])) ds) ds⟩
theorem q_Z34 (x0:List D):JX (Jr [e_Z33]) (Js []) A 46 Try.f46 (Sh.mks e_Z34.sh [.L x0]).1 (fun v os=>some (v,os))=c_Z34 x0 (fun y=>J0 e_Z34 0 [.L y.1,.L y.2]):=by kernel_rfl
theorem e_Z34_ok:e_Z34.ok Try.prog A:=by
 intro R ds k r h
 unfold e_Z34 at h
 obtain ⟨_,_,rfl,h⟩:=Ja h
 obtain ⟨rfl,hE⟩:=Je h
 obtain ⟨y,hy,hk⟩:=Jf hE
 exact ⟨0,_,_,_,hk,rfl,J1 px (fx:=⟨Try.func46,by kernel_rfl,by kernel_rfl⟩) (Jt e_Z33_ok Jn) Jo ((q_Z34 ..).trans ((c_Z34_bind ..).trans (Jg hy)))⟩

/-!-/
def c_Z35 {R:Type} (x0:List D) (k:List D×List D→Option R):Option R:=
 (Z34 x0).bind (fun y0=>
 k (y0.fst,y0.snd))
theorem c_Z35_bind {R:Type} (x0:List D) (k:List D×List D→Option R):c_Z35 x0 k=(c_Z35 x0 some).bind k:=by
 unfold c_Z35
 repeat' first
  | exact JA
  | exact Jz
  | exact Jy
  | apply Jv
  | apply Jw
  | apply JB
  | (apply Jx;intro _)
  | intro _
def Z35 (x0:List D):Option (List D×List D):=c_Z35 x0 some
def e_Z35:Ent:=⟨9,[.rd (.int .u8)],[(.agg [.own (.struct [.int .i64,.int .i64]),.own (.struct [.int .i64,.int .i64])],[.undef])],fun _ ds k=>dL (fun x0 ds=>dE ((Z35 x0).bind (fun y=>k 0 [.L y.1,.L y.2])) ds) ds⟩
theorem q_Z35 (x0:List D):JX (Jr [e_Z34]) (Js []) A 9 Try.f9 (Sh.mks e_Z35.sh [.L x0]).1 (fun v os=>some (v,os))=c_Z35 x0 (fun y=>J0 e_Z35 0 [.L y.1,.L y.2]):=by kernel_rfl
theorem e_Z35_ok:e_Z35.ok Try.prog A:=by
 intro R ds k r h
 unfold e_Z35 at h
 obtain ⟨_,_,rfl,h⟩:=Ja h
 obtain ⟨rfl,hE⟩:=Je h
 obtain ⟨y,hy,hk⟩:=Jf hE
 exact ⟨0,_,_,_,hk,rfl,J1 px (fx:=⟨Try.func9,by kernel_rfl,by kernel_rfl⟩) (Jt e_Z34_ok Jn) Jo ((q_Z35 ..).trans ((c_Z35_bind ..).trans (Jg hy)))⟩

/-!-/
def c_Z36 {R:Type} (x0 x1 x2:Int) (k:Bool→Option R):Option R:=
 bif decide (x1≤x0) then
 k (decide (x0≤x2))
 else
 k Bool.false
theorem c_Z36_bind {R:Type} (x0 x1 x2:Int) (k:Bool→Option R):c_Z36 x0 x1 x2 k=(c_Z36 x0 x1 x2 some).bind k:=by
 unfold c_Z36
 repeat' first
  | exact JA
  | exact Jz
  | exact Jy
  | apply Jv
  | apply Jw
  | apply JB
  | (apply Jx;intro _)
  | intro _
def Z36 (x0 x1 x2:Int):Option (Bool):=c_Z36 x0 x1 x2 some
def e_Z36:Ent:=⟨80,[.int .i64,.int .i64,.int .i64],[(.bool,[.undef,.undef,.undef])],fun _ ds k=>dI (fun x0 ds=>dI (fun x1 ds=>dI (fun x2 ds=>dE ((Z36 x0 x1 x2).bind (fun y=>k 0 [.B y])) ds) ds) ds) ds⟩
theorem q_Z36 (x0 x1 x2:Int):JX (Jr []) (Js []) A 80 Try.f80 (Sh.mks e_Z36.sh [.I x0,.I x1,.I x2]).1 (fun v os=>some (v,os))=c_Z36 x0 x1 x2 (fun y=>J0 e_Z36 0 [.B y]):=by kernel_rfl
theorem e_Z36_ok:e_Z36.ok Try.prog A:=by
 intro R ds k r h
 unfold e_Z36 at h
 obtain ⟨_,_,rfl,h⟩:=Jb h
 obtain ⟨_,_,rfl,h⟩:=Jb h
 obtain ⟨_,_,rfl,h⟩:=Jb h
 obtain ⟨rfl,hE⟩:=Je h
 obtain ⟨y,hy,hk⟩:=Jf hE
 exact ⟨0,_,_,_,hk,rfl,J1 px (fx:=⟨Try.func80,by kernel_rfl,by kernel_rfl⟩) Jn Jo ((q_Z36 ..).trans ((c_Z36_bind ..).trans (Jg hy)))⟩

/-!-/
def c_Z37 {R:Type} (x0:Int) (k:Bool→Option R):Option R:=
 (Z36 x0 (1:Int) (999:Int)).bind (fun y0=>
 k y0)
theorem c_Z37_bind {R:Type} (x0:Int) (k:Bool→Option R):c_Z37 x0 k=(c_Z37 x0 some).bind k:=by
 unfold c_Z37
 repeat' first
  | exact JA
  | exact Jz
  | exact Jy
  | apply Jv
  | apply Jw
  | apply JB
  | (apply Jx;intro _)
  | intro _
def Z37 (x0:Int):Option (Bool):=c_Z37 x0 some
def e_Z37:Ent:=⟨115,[.int .i64],[(.bool,[.undef])],fun _ ds k=>dI (fun x0 ds=>dE ((Z37 x0).bind (fun y=>k 0 [.B y])) ds) ds⟩
theorem q_Z37 (x0:Int):JX (Jr [e_Z36]) (Js []) A 115 Try.f115 (Sh.mks e_Z37.sh [.I x0]).1 (fun v os=>some (v,os))=c_Z37 x0 (fun y=>J0 e_Z37 0 [.B y]):=by kernel_rfl
theorem e_Z37_ok:e_Z37.ok Try.prog A:=by
 intro R ds k r h
 unfold e_Z37 at h
 obtain ⟨_,_,rfl,h⟩:=Jb h
 obtain ⟨rfl,hE⟩:=Je h
 obtain ⟨y,hy,hk⟩:=Jf hE
 exact ⟨0,_,_,_,hk,rfl,J1 px (fx:=⟨Try.func115,by kernel_rfl,by kernel_rfl⟩) (Jt e_Z36_ok Jn) Jo ((q_Z37 ..).trans ((c_Z37_bind ..).trans (Jg hy)))⟩

/-!-/
def c_Z38 {R:Type} (x0:Int) (k:Bool→Option R):Option R:=
 (Z36 x0 (1:Int) (4:Int)).bind (fun y0=>
 k y0)
theorem c_Z38_bind {R:Type} (x0:Int) (k:Bool→Option R):c_Z38 x0 k=(c_Z38 x0 some).bind k:=by
 unfold c_Z38
 repeat' first
  | exact JA
  | exact Jz
  | exact Jy
  | apply Jv
  | apply Jw
  | apply JB
  | (apply Jx;intro _)
  | intro _
def Z38 (x0:Int):Option (Bool):=c_Z38 x0 some
def e_Z38:Ent:=⟨116,[.int .i64],[(.bool,[.undef])],fun _ ds k=>dI (fun x0 ds=>dE ((Z38 x0).bind (fun y=>k 0 [.B y])) ds) ds⟩
theorem q_Z38 (x0:Int):JX (Jr [e_Z36]) (Js []) A 116 Try.f116 (Sh.mks e_Z38.sh [.I x0]).1 (fun v os=>some (v,os))=c_Z38 x0 (fun y=>J0 e_Z38 0 [.B y]):=by kernel_rfl
theorem e_Z38_ok:e_Z38.ok Try.prog A:=by
 intro R ds k r h
 unfold e_Z38 at h
 obtain ⟨_,_,rfl,h⟩:=Jb h
 obtain ⟨rfl,hE⟩:=Je h
 obtain ⟨y,hy,hk⟩:=Jf hE
 exact ⟨0,_,_,_,hk,rfl,J1 px (fx:=⟨Try.func116,by kernel_rfl,by kernel_rfl⟩) (Jt e_Z36_ok Jn) Jo ((q_Z38 ..).trans ((c_Z38_bind ..).trans (Jg hy)))⟩

/-!-/
abbrev T_Z39:=List D→Int→Int→List D→List D→Option ((Bool×List D×List D)⊕(List D×List D))
def c_Z39 {R:Type} (F:T_Z39) (x0:List D) (x1 x2:Int) (x3 x4:List D) (k:(Bool×List D×List D)⊕(List D×List D)→Option R):Option R:=
 bif decide (x2<x1) then
 if 0≤x2∧x2<(↑x0.length:Int) then
 (Z37 (((x0.getD x2.toNat (D.int 0)).fld (0:Nat)).toInt)).bind (fun y0=>
 bif !y0 then
 k (.inl (Bool.false,x3,x4))
 else
 (Z38 (((x0.getD x2.toNat (D.int 0)).fld (1:Nat)).toInt)).bind (fun y1=>
 bif !y1 then
 k (.inl (Bool.false,x3,x4))
 else
 bif decide ((0:Int)<x2) then
 if (0:Int)≤IntKind.i64.wrap (x2 - 1)∧IntKind.i64.wrap (x2 - 1)<(↑x3.length:Int) then
 bif decide (((x0.getD x2.toNat (D.int 0)).fld (0:Nat)).toInt≤((x3.getD (IntKind.i64.wrap (x2 - 1)).toNat (D.int 0)).fld (0:Nat)).toInt) then
 k (.inl (Bool.false,x3,x4))
 else
 (F x0 x1 (IntKind.i64.wrap (x2+1)) x3 x4).bind k
 else
 none
 else
 (F x0 x1 (IntKind.i64.wrap (x2+1)) x3 x4).bind k))
 else
 none
 else
 k (.inr (x3,x4))
theorem c_Z39_bind {R:Type} (F:T_Z39) (x0:List D) (x1 x2:Int) (x3 x4:List D) (k:(Bool×List D×List D)⊕(List D×List D)→Option R):c_Z39 F x0 x1 x2 x3 x4 k=(c_Z39 F x0 x1 x2 x3 x4 some).bind k:=by
 unfold c_Z39
 repeat' first
  | exact JA
  | exact Jz
  | exact Jy
  | apply Jv
  | apply Jw
  | apply JB
  | (apply Jx;intro _)
  | intro _
def n_Z39:Nat→T_Z39
 | 0,_,_,_,_,_=>none
 | n+1,x0,x1,x2,x3,x4=>c_Z39 (n_Z39 n) x0 x1 x2 x3 x4 some
noncomputable def Z39 (x0:List D) (x1 x2:Int) (x3 x4:List D):Option ((Bool×List D×List D)⊕(List D×List D)):=ev (fun n=>n_Z39 n x0 x1 x2 x3 x4)
def m_Z39 (F:T_Z39):Jq:=⟨4,⟨(.undef::.ptr 1000 [0]::uu 16 (.rd (.struct [.int .i64,.int .i64])::.int .i64::.int .i64::uu 72 ([]))),[(1000,.obox (.agg [.rd (.struct [.int .i64,.int .i64]),.rd (.struct [.int .i64,.int .i64])]))]⟩,[(.ret,⟨(.undef::.ptr 1000 [0]::.bool::uu 90 ([])),[(1000,.obox (.agg [.rd (.struct [.int .i64,.int .i64]),.rd (.struct [.int .i64,.int .i64])]))]⟩),(.exit 0,⟨(.undef::.ptr 1000 [0]::uu 91 ([])),[(1000,.obox (.agg [.rd (.struct [.int .i64,.int .i64]),.rd (.struct [.int .i64,.int .i64])]))]⟩)],fun _ ds k=>dL (fun x0 ds=>dI (fun x1 ds=>dI (fun x2 ds=>dL (fun x3 ds=>dL (fun x4 ds=>dE ((F x0 x1 x2 x3 x4).bind (Sum.elim (fun y=>k 0 [.B y.1,.L y.2.1,.L y.2.2]) (fun y=>k 1 [.L y.1,.L y.2]))) ds) ds) ds) ds) ds) ds⟩
theorem q_Z39 (F:T_Z39) (x0:List D) (x1 x2:Int) (x3 x4:List D):J2 (Jr [e_Z37,e_Z38]) (Js [m_Z39 F]) A 66 (Jk (Jh Try.f66) 4) ((m_Z39 F).sh.mk' [.L x0,.I x1,.I x2,.L x3,.L x4]) (fun e σ'=>some (e,σ'))=c_Z39 F x0 x1 x2 x3 x4 (Sum.elim (fun y=>some (.ret,SSt.mk' ⟨(.undef::.ptr 1000 [0]::.bool::uu 90 ([])),[(1000,.obox (.agg [.rd (.struct [.int .i64,.int .i64]),.rd (.struct [.int .i64,.int .i64])]))]⟩ [.B y.1,.L y.2.1,.L y.2.2])) (fun y=>some (.exit 0,SSt.mk' ⟨(.undef::.ptr 1000 [0]::uu 91 ([])),[(1000,.obox (.agg [.rd (.struct [.int .i64,.int .i64]),.rd (.struct [.int .i64,.int .i64])]))]⟩ [.L y.1,.L y.2]))):=by kernel_rfl
theorem m_Z39_ok:∀ n,(m_Z39 (n_Z39 n)).ok Try.prog (Jk (Jh Try.f66) 4):=by
 intro n
 induction n with
 | zero=>
  intro R ds k r h
  unfold m_Z39 at h
  obtain ⟨_,_,rfl,h⟩:=Ja h
  obtain ⟨_,_,rfl,h⟩:=Jb h
  obtain ⟨_,_,rfl,h⟩:=Jb h
  obtain ⟨_,_,rfl,h⟩:=Ja h
  obtain ⟨_,_,rfl,h⟩:=Ja h
  obtain ⟨rfl,hE⟩:=Je h
  obtain ⟨y,hy,hk⟩:=Jf hE
  cases hy
 | succ n ih=>
  intro R ds k r h
  unfold m_Z39 at h
  obtain ⟨_,_,rfl,h⟩:=Ja h
  obtain ⟨_,_,rfl,h⟩:=Jb h
  obtain ⟨_,_,rfl,h⟩:=Jb h
  obtain ⟨_,_,rfl,h⟩:=Ja h
  obtain ⟨_,_,rfl,h⟩:=Ja h
  obtain ⟨rfl,hE⟩:=Je h
  obtain ⟨y,hy,hk⟩:=Jf hE
  cases y with
  | inl y=>
   exact ⟨0,_,_,_,hk,rfl,JP px (fx:=⟨Try.func66,by kernel_rfl,by kernel_rfl⟩) (Jt e_Z37_ok (Jt e_Z38_ok Jn)) (Jm ih Jo) (by kernel_rfl) ((q_Z39 ..).trans ((c_Z39_bind ..).trans (Jg hy)))⟩
  | inr y=>
   exact ⟨1,_,_,_,hk,rfl,JP px (fx:=⟨Try.func66,by kernel_rfl,by kernel_rfl⟩) (Jt e_Z37_ok (Jt e_Z38_ok Jn)) (Jm ih Jo) (by kernel_rfl) ((q_Z39 ..).trans ((c_Z39_bind ..).trans (Jg hy)))⟩
noncomputable def e_Z39:Jq:=m_Z39 (Z39)
theorem e_Z39_ok:(e_Z39).ok Try.prog (Jk (Jh Try.f66) 4):=by
 intro R ds k r h
 unfold e_Z39 m_Z39 at h
 obtain ⟨_,_,rfl,h⟩:=Ja h
 obtain ⟨_,_,rfl,h⟩:=Jb h
 obtain ⟨_,_,rfl,h⟩:=Jb h
 obtain ⟨_,_,rfl,h⟩:=Ja h
 obtain ⟨_,_,rfl,h⟩:=Ja h
 obtain ⟨rfl,hE⟩:=Je h
 obtain ⟨y,hy,hk⟩:=Jf hE
 obtain ⟨n,hn⟩:=J5 hy
 exact m_Z39_ok n R _ k r ((Jg hn).trans hk)

/-!-/
def c_Z40 {R:Type} (x0 x1 x2:Int) (k:Bool→Option R):Option R:=
 k (decide (x0=x2))
theorem c_Z40_bind {R:Type} (x0 x1 x2:Int) (k:Bool→Option R):c_Z40 x0 x1 x2 k=(c_Z40 x0 x1 x2 some).bind k:=by
 unfold c_Z40
 repeat' first
  | exact JA
  | exact Jz
  | exact Jy
  | apply Jv
  | apply Jw
  | apply JB
  | (apply Jx;intro _)
  | intro _
def Z40 (x0 x1 x2:Int):Option (Bool):=c_Z40 x0 x1 x2 some
def e_Z40:Ent:=⟨108,[.agg [.int .i64,.int .i64],.rp (.int .i64)],[(.bool,[.undef,.undef])],fun _ ds k=>dI (fun x0 ds=>dI (fun x1 ds=>dI (fun x2 ds=>dE ((Z40 x0 x1 x2).bind (fun y=>k 0 [.B y])) ds) ds) ds) ds⟩
theorem q_Z40 (x0 x1 x2:Int):JX (Jr []) (Js []) A 108 Try.f108 (Sh.mks e_Z40.sh [.I x0,.I x1,.I x2]).1 (fun v os=>some (v,os))=c_Z40 x0 x1 x2 (fun y=>J0 e_Z40 0 [.B y]):=by kernel_rfl
theorem e_Z40_ok:e_Z40.ok Try.prog A:=by
 intro R ds k r h
 unfold e_Z40 at h
 obtain ⟨_,_,rfl,h⟩:=Jb h
 obtain ⟨_,_,rfl,h⟩:=Jb h
 obtain ⟨_,_,rfl,h⟩:=Jb h
 obtain ⟨rfl,hE⟩:=Je h
 obtain ⟨y,hy,hk⟩:=Jf hE
 exact ⟨0,_,_,_,hk,rfl,J1 px (fx:=⟨Try.func108,by kernel_rfl,by kernel_rfl⟩) Jn Jo ((q_Z40 ..).trans ((c_Z40_bind ..).trans (Jg hy)))⟩

/-!-/
abbrev T_Z41:=List D→Int→Int→Int→Option ((Int)⊕(Unit))
def c_Z41 {R:Type} (F:T_Z41) (x0:List D) (x1 x2 x3:Int) (k:(Int)⊕(Unit)→Option R):Option R:=
 bif decide (x3<x2) then
 if 0≤x3∧x3<(↑x0.length:Int) then
 (Z40 (((x0.getD x3.toNat (D.int 0)).fld (0:Nat)).toInt) (((x0.getD x3.toNat (D.int 0)).fld (1:Nat)).toInt) x1).bind (fun y0=>
 bif y0 then
 k (.inl x3)
 else
 (F x0 x1 x2 (IntKind.i64.wrap (x3+1))).bind k)
 else
 none
 else
 k (.inr ())
theorem c_Z41_bind {R:Type} (F:T_Z41) (x0:List D) (x1 x2 x3:Int) (k:(Int)⊕(Unit)→Option R):c_Z41 F x0 x1 x2 x3 k=(c_Z41 F x0 x1 x2 x3 some).bind k:=by
 unfold c_Z41
 repeat' first
  | exact JA
  | exact Jz
  | exact Jy
  | apply Jv
  | apply Jw
  | apply JB
  | (apply Jx;intro _)
  | intro _
def n_Z41:Nat→T_Z41
 | 0,_,_,_,_=>none
 | n+1,x0,x1,x2,x3=>c_Z41 (n_Z41 n) x0 x1 x2 x3 some
noncomputable def Z41 (x0:List D) (x1 x2 x3:Int):Option ((Int)⊕(Unit)):=ev (fun n=>n_Z41 n x0 x1 x2 x3)
def m_Z41 (F:T_Z41):Jq:=⟨2,⟨(.rd (.struct [.int .i64,.int .i64])::.fn 108 [.rp (.int .i64)]::uu 5 (.int .i64::.int .i64::uu 10 ([]))),[]⟩,[(.ret,⟨(uu 4 (.int .i64::uu 14 ([]))),[]⟩),(.exit 0,⟨(uu 19 ([])),[]⟩)],fun _ ds k=>dL (fun x0 ds=>dI (fun x1 ds=>dI (fun x2 ds=>dI (fun x3 ds=>dE ((F x0 x1 x2 x3).bind (Sum.elim (fun y=>k 0 [.I y]) (fun y=>k 1 []))) ds) ds) ds) ds) ds⟩
theorem q_Z41 (F:T_Z41) (x0:List D) (x1 x2 x3:Int):J2 (Jr [e_Z40]) (Js [m_Z41 F]) A 107 (Jk (Jh Try.f107) 2) ((m_Z41 F).sh.mk' [.L x0,.I x1,.I x2,.I x3]) (fun e σ'=>some (e,σ'))=c_Z41 F x0 x1 x2 x3 (Sum.elim (fun y=>some (.ret,SSt.mk' ⟨(uu 4 (.int .i64::uu 14 ([]))),[]⟩ [.I y])) (fun y=>some (.exit 0,SSt.mk' ⟨(uu 19 ([])),[]⟩ []))):=by kernel_rfl
theorem m_Z41_ok:∀ n,(m_Z41 (n_Z41 n)).ok Try.prog (Jk (Jh Try.f107) 2):=by
 intro n
 induction n with
 | zero=>
  intro R ds k r h
  unfold m_Z41 at h
  obtain ⟨_,_,rfl,h⟩:=Ja h
  obtain ⟨_,_,rfl,h⟩:=Jb h
  obtain ⟨_,_,rfl,h⟩:=Jb h
  obtain ⟨_,_,rfl,h⟩:=Jb h
  obtain ⟨rfl,hE⟩:=Je h
  obtain ⟨y,hy,hk⟩:=Jf hE
  cases hy
 | succ n ih=>
  intro R ds k r h
  unfold m_Z41 at h
  obtain ⟨_,_,rfl,h⟩:=Ja h
  obtain ⟨_,_,rfl,h⟩:=Jb h
  obtain ⟨_,_,rfl,h⟩:=Jb h
  obtain ⟨_,_,rfl,h⟩:=Jb h
  obtain ⟨rfl,hE⟩:=Je h
  obtain ⟨y,hy,hk⟩:=Jf hE
  cases y with
  | inl y=>
   exact ⟨0,_,_,_,hk,rfl,JP px (fx:=⟨Try.func107,by kernel_rfl,by kernel_rfl⟩) (Jt e_Z40_ok Jn) (Jm ih Jo) (by kernel_rfl) ((q_Z41 ..).trans ((c_Z41_bind ..).trans (Jg hy)))⟩
  | inr y=>
   exact ⟨1,_,_,_,hk,rfl,JP px (fx:=⟨Try.func107,by kernel_rfl,by kernel_rfl⟩) (Jt e_Z40_ok Jn) (Jm ih Jo) (by kernel_rfl) ((q_Z41 ..).trans ((c_Z41_bind ..).trans (Jg hy)))⟩
noncomputable def e_Z41:Jq:=m_Z41 (Z41)
theorem e_Z41_ok:(e_Z41).ok Try.prog (Jk (Jh Try.f107) 2):=by
 intro R ds k r h
 unfold e_Z41 m_Z41 at h
 obtain ⟨_,_,rfl,h⟩:=Ja h
 obtain ⟨_,_,rfl,h⟩:=Jb h
 obtain ⟨_,_,rfl,h⟩:=Jb h
 obtain ⟨_,_,rfl,h⟩:=Jb h
 obtain ⟨rfl,hE⟩:=Je h
 obtain ⟨y,hy,hk⟩:=Jf hE
 obtain ⟨n,hn⟩:=J5 hy
 exact m_Z41_ok n R _ k r ((Jg hn).trans hk)

/-!-/
def c_Z42 {R:Type} (x0:List D) (x1:Int) (k:Int→Option R):Option R:=
 (Z41 x0 x1 (↑x0.length:Int) (0:Int)).bind (Sum.elim (fun y0=>
 k y0) (fun y1=>
 k (-1:Int)))
theorem c_Z42_bind {R:Type} (x0:List D) (x1:Int) (k:Int→Option R):c_Z42 x0 x1 k=(c_Z42 x0 x1 some).bind k:=by
 unfold c_Z42
 repeat' first
  | exact JA
  | exact Jz
  | exact Jy
  | apply Jv
  | apply Jw
  | apply JB
  | (apply Jx;intro _)
  | intro _
def Z42 (x0:List D) (x1:Int):Option (Int):=c_Z42 x0 x1 some
def e_Z42:Ent:=⟨107,[.rd (.struct [.int .i64,.int .i64]),.fn 108 [.rp (.int .i64)]],[(.int .i64,[.undef,.undef])],fun _ ds k=>dL (fun x0 ds=>dI (fun x1 ds=>dE ((Z42 x0 x1).bind (fun y=>k 0 [.I y])) ds) ds) ds⟩
theorem q_Z42 (x0:List D) (x1:Int):JX (Jr []) (Js [e_Z41]) A 107 Try.f107 (Sh.mks e_Z42.sh [.L x0,.I x1]).1 (fun v os=>some (v,os))=c_Z42 x0 x1 (fun y=>J0 e_Z42 0 [.I y]):=by kernel_rfl
theorem e_Z42_ok:e_Z42.ok Try.prog A:=by
 intro R ds k r h
 unfold e_Z42 at h
 obtain ⟨_,_,rfl,h⟩:=Ja h
 obtain ⟨_,_,rfl,h⟩:=Jb h
 obtain ⟨rfl,hE⟩:=Je h
 obtain ⟨y,hy,hk⟩:=Jf hE
 exact ⟨0,_,_,_,hk,rfl,J1 px (fx:=⟨Try.func107,by kernel_rfl,by kernel_rfl⟩) Jn (Jm e_Z41_ok Jo) ((q_Z42 ..).trans ((c_Z42_bind ..).trans (Jg hy)))⟩

/-!-/
def c_Z43 {R:Type} (x0 x1:List D) (x2:Int) (k:Int→Option R):Option R:=
 (Z42 x0 x2).bind (fun y0=>
 k y0)
theorem c_Z43_bind {R:Type} (x0 x1:List D) (x2:Int) (k:Int→Option R):c_Z43 x0 x1 x2 k=(c_Z43 x0 x1 x2 some).bind k:=by
 unfold c_Z43
 repeat' first
  | exact JA
  | exact Jz
  | exact Jy
  | apply Jv
  | apply Jw
  | apply JB
  | (apply Jx;intro _)
  | intro _
def Z43 (x0 x1:List D) (x2:Int):Option (Int):=c_Z43 x0 x1 x2 some
def e_Z43:Ent:=⟨56,[.agg [.rd (.struct [.int .i64,.int .i64]),.rd (.struct [.int .i64,.int .i64])],.int .i64],[(.int .i64,[.undef,.undef])],fun _ ds k=>dL (fun x0 ds=>dL (fun x1 ds=>dI (fun x2 ds=>dE ((Z43 x0 x1 x2).bind (fun y=>k 0 [.I y])) ds) ds) ds) ds⟩
theorem q_Z43 (x0 x1:List D) (x2:Int):JX (Jr [e_Z42]) (Js []) A 56 Try.f56 (Sh.mks e_Z43.sh [.L x0,.L x1,.I x2]).1 (fun v os=>some (v,os))=c_Z43 x0 x1 x2 (fun y=>J0 e_Z43 0 [.I y]):=by kernel_rfl
theorem e_Z43_ok:e_Z43.ok Try.prog A:=by
 intro R ds k r h
 unfold e_Z43 at h
 obtain ⟨_,_,rfl,h⟩:=Ja h
 obtain ⟨_,_,rfl,h⟩:=Ja h
 obtain ⟨_,_,rfl,h⟩:=Jb h
 obtain ⟨rfl,hE⟩:=Je h
 obtain ⟨y,hy,hk⟩:=Jf hE
 exact ⟨0,_,_,_,hk,rfl,J1 px (fx:=⟨Try.func56,by kernel_rfl,by kernel_rfl⟩) (Jt e_Z42_ok Jn) Jo ((q_Z43 ..).trans ((c_Z43_bind ..).trans (Jg hy)))⟩

/-!-/
def c_Z44 {R:Type} (x0:Int) (k:Bool→Option R):Option R:=
 k (!decide (x0=x0))
theorem c_Z44_bind {R:Type} (x0:Int) (k:Bool→Option R):c_Z44 x0 k=(c_Z44 x0 some).bind k:=by
 unfold c_Z44
 repeat' first
  | exact JA
  | exact Jz
  | exact Jy
  | apply Jv
  | apply Jw
  | apply JB
  | (apply Jx;intro _)
  | intro _
def Z44 (x0:Int):Option (Bool):=c_Z44 x0 some
def e_Z44:Ent:=⟨148,[.int .i64],[(.bool,[.undef])],fun _ ds k=>dI (fun x0 ds=>dE ((Z44 x0).bind (fun y=>k 0 [.B y])) ds) ds⟩
theorem q_Z44 (x0:Int):JX (Jr []) (Js []) A 148 Try.f148 (Sh.mks e_Z44.sh [.I x0]).1 (fun v os=>some (v,os))=c_Z44 x0 (fun y=>J0 e_Z44 0 [.B y]):=by kernel_rfl
theorem e_Z44_ok:e_Z44.ok Try.prog A:=by
 intro R ds k r h
 unfold e_Z44 at h
 obtain ⟨_,_,rfl,h⟩:=Jb h
 obtain ⟨rfl,hE⟩:=Je h
 obtain ⟨y,hy,hk⟩:=Jf hE
 exact ⟨0,_,_,_,hk,rfl,J1 px (fx:=⟨Try.func148,by kernel_rfl,by kernel_rfl⟩) Jn Jo ((q_Z44 ..).trans ((c_Z44_bind ..).trans (Jg hy)))⟩

/-!-/
def c_Z45 {R:Type} (x0 x1:Int) (k:Int→Option R):Option R:=
 (Z44 x0).bind (fun y0=>
 (Z44 x1).bind (fun y1=>
 bif y0 then
 bif y1 then
 k (0:Int)
 else
 k (-1:Int)
 else
 bif y1 then
 k (1:Int)
 else
 bif decide (x0<x1) then
 k (-1:Int)
 else
 bif decide (x1<x0) then
 k (1:Int)
 else
 k (0:Int)))
theorem c_Z45_bind {R:Type} (x0 x1:Int) (k:Int→Option R):c_Z45 x0 x1 k=(c_Z45 x0 x1 some).bind k:=by
 unfold c_Z45
 repeat' first
  | exact JA
  | exact Jz
  | exact Jy
  | apply Jv
  | apply Jw
  | apply JB
  | (apply Jx;intro _)
  | intro _
def Z45 (x0 x1:Int):Option (Int):=c_Z45 x0 x1 some
def e_Z45:Ent:=⟨125,[.int .i64,.int .i64],[(.int .i64,[.undef,.undef])],fun _ ds k=>dI (fun x0 ds=>dI (fun x1 ds=>dE ((Z45 x0 x1).bind (fun y=>k 0 [.I y])) ds) ds) ds⟩
theorem q_Z45 (x0 x1:Int):JX (Jr [e_Z44]) (Js []) A 125 Try.f125 (Sh.mks e_Z45.sh [.I x0,.I x1]).1 (fun v os=>some (v,os))=c_Z45 x0 x1 (fun y=>J0 e_Z45 0 [.I y]):=by kernel_rfl
theorem e_Z45_ok:e_Z45.ok Try.prog A:=by
 intro R ds k r h
 unfold e_Z45 at h
 obtain ⟨_,_,rfl,h⟩:=Jb h
 obtain ⟨_,_,rfl,h⟩:=Jb h
 obtain ⟨rfl,hE⟩:=Je h
 obtain ⟨y,hy,hk⟩:=Jf hE
 exact ⟨0,_,_,_,hk,rfl,J1 px (fx:=⟨Try.func125,by kernel_rfl,by kernel_rfl⟩) (Jt e_Z44_ok Jn) Jo ((q_Z45 ..).trans ((c_Z45_bind ..).trans (Jg hy)))⟩

/-!-/
abbrev T_Z46:=Int→List D→Int→Int→Option ((Int×Int)⊕(Int))
def c_Z46 {R:Type} (F:T_Z46) (x0:Int) (x1:List D) (x2 x3:Int) (k:(Int×Int)⊕(Int)→Option R):Option R:=
 bif decide (x3<x2) then
 if 0≤x3∧x3<(↑x1.length:Int) then
 bif !decide ((x1.getD x3.toNat (D.int 0)).toInt=x0) then
 k (.inl ((x1.getD x3.toNat (D.int 0)).toInt,x0))
 else
 (F x0 x1 x2 (IntKind.i64.wrap (x3+1))).bind k
 else
 none
 else
 k (.inr x0)
theorem c_Z46_bind {R:Type} (F:T_Z46) (x0:Int) (x1:List D) (x2 x3:Int) (k:(Int×Int)⊕(Int)→Option R):c_Z46 F x0 x1 x2 x3 k=(c_Z46 F x0 x1 x2 x3 some).bind k:=by
 unfold c_Z46
 repeat' first
  | exact JA
  | exact Jz
  | exact Jy
  | apply Jv
  | apply Jw
  | apply JB
  | (apply Jx;intro _)
  | intro _
def n_Z46:Nat→T_Z46
 | 0,_,_,_,_=>none
 | n+1,x0,x1,x2,x3=>c_Z46 (n_Z46 n) x0 x1 x2 x3 some
noncomputable def Z46 (x0:Int) (x1:List D) (x2 x3:Int):Option ((Int×Int)⊕(Int)):=ev (fun n=>n_Z46 n x0 x1 x2 x3)
def m_Z46 (F:T_Z46):Jq:=⟨3,⟨(.undef::.undef::.undef::.int .i64::.undef::.undef::.rd (.int .i64)::.int .i64::.int .i64::uu 9 ([])),[]⟩,[(.ret,⟨(.undef::.undef::.int .i64::.int .i64::uu 14 ([])),[]⟩),(.exit 0,⟨(.undef::.undef::.undef::.int .i64::uu 14 ([])),[]⟩)],fun _ ds k=>dI (fun x0 ds=>dL (fun x1 ds=>dI (fun x2 ds=>dI (fun x3 ds=>dE ((F x0 x1 x2 x3).bind (Sum.elim (fun y=>k 0 [.I y.1,.I y.2]) (fun y=>k 1 [.I y]))) ds) ds) ds) ds) ds⟩
theorem q_Z46 (F:T_Z46) (x0:Int) (x1:List D) (x2 x3:Int):J2 (Jr []) (Js [m_Z46 F]) A 124 (Jk (Jh Try.f124) 3) ((m_Z46 F).sh.mk' [.I x0,.L x1,.I x2,.I x3]) (fun e σ'=>some (e,σ'))=c_Z46 F x0 x1 x2 x3 (Sum.elim (fun y=>some (.ret,SSt.mk' ⟨(.undef::.undef::.int .i64::.int .i64::uu 14 ([])),[]⟩ [.I y.1,.I y.2])) (fun y=>some (.exit 0,SSt.mk' ⟨(.undef::.undef::.undef::.int .i64::uu 14 ([])),[]⟩ [.I y]))):=by kernel_rfl
theorem m_Z46_ok:∀ n,(m_Z46 (n_Z46 n)).ok Try.prog (Jk (Jh Try.f124) 3):=by
 intro n
 induction n with
 | zero=>
  intro R ds k r h
  unfold m_Z46 at h
  obtain ⟨_,_,rfl,h⟩:=Jb h
  obtain ⟨_,_,rfl,h⟩:=Ja h
  obtain ⟨_,_,rfl,h⟩:=Jb h
  obtain ⟨_,_,rfl,h⟩:=Jb h
  obtain ⟨rfl,hE⟩:=Je h
  obtain ⟨y,hy,hk⟩:=Jf hE
  cases hy
 | succ n ih=>
  intro R ds k r h
  unfold m_Z46 at h
  obtain ⟨_,_,rfl,h⟩:=Jb h
  obtain ⟨_,_,rfl,h⟩:=Ja h
  obtain ⟨_,_,rfl,h⟩:=Jb h
  obtain ⟨_,_,rfl,h⟩:=Jb h
  obtain ⟨rfl,hE⟩:=Je h
  obtain ⟨y,hy,hk⟩:=Jf hE
  cases y with
  | inl y=>
   exact ⟨0,_,_,_,hk,rfl,JP px (fx:=⟨Try.func124,by kernel_rfl,by kernel_rfl⟩) Jn (Jm ih Jo) (by kernel_rfl) ((q_Z46 ..).trans ((c_Z46_bind ..).trans (Jg hy)))⟩
  | inr y=>
   exact ⟨1,_,_,_,hk,rfl,JP px (fx:=⟨Try.func124,by kernel_rfl,by kernel_rfl⟩) Jn (Jm ih Jo) (by kernel_rfl) ((q_Z46 ..).trans ((c_Z46_bind ..).trans (Jg hy)))⟩
noncomputable def e_Z46:Jq:=m_Z46 (Z46)
theorem e_Z46_ok:(e_Z46).ok Try.prog (Jk (Jh Try.f124) 3):=by
 intro R ds k r h
 unfold e_Z46 m_Z46 at h
 obtain ⟨_,_,rfl,h⟩:=Jb h
 obtain ⟨_,_,rfl,h⟩:=Ja h
 obtain ⟨_,_,rfl,h⟩:=Jb h
 obtain ⟨_,_,rfl,h⟩:=Jb h
 obtain ⟨rfl,hE⟩:=Je h
 obtain ⟨y,hy,hk⟩:=Jf hE
 obtain ⟨n,hn⟩:=J5 hy
 exact m_Z46_ok n R _ k r ((Jg hn).trans hk)

/-!-/
def c_Z47 {R:Type} (x0:List D) (k:Int→Option R):Option R:=
 (Z46 (0:Int) x0 (↑x0.length:Int) (0:Int)).bind (Sum.elim (fun y0=>
 k y0.fst) (fun y1=>
 k y1))
theorem c_Z47_bind {R:Type} (x0:List D) (k:Int→Option R):c_Z47 x0 k=(c_Z47 x0 some).bind k:=by
 unfold c_Z47
 repeat' first
  | exact JA
  | exact Jz
  | exact Jy
  | apply Jv
  | apply Jw
  | apply JB
  | (apply Jx;intro _)
  | intro _
def Z47 (x0:List D):Option (Int):=c_Z47 x0 some
def e_Z47:Ent:=⟨124,[.rd (.int .i64)],[(.int .i64,[.undef])],fun _ ds k=>dL (fun x0 ds=>dE ((Z47 x0).bind (fun y=>k 0 [.I y])) ds) ds⟩
theorem q_Z47 (x0:List D):JX (Jr []) (Js [e_Z46]) A 124 Try.f124 (Sh.mks e_Z47.sh [.L x0]).1 (fun v os=>some (v,os))=c_Z47 x0 (fun y=>J0 e_Z47 0 [.I y]):=by kernel_rfl
theorem e_Z47_ok:e_Z47.ok Try.prog A:=by
 intro R ds k r h
 unfold e_Z47 at h
 obtain ⟨_,_,rfl,h⟩:=Ja h
 obtain ⟨rfl,hE⟩:=Je h
 obtain ⟨y,hy,hk⟩:=Jf hE
 exact ⟨0,_,_,_,hk,rfl,J1 px (fx:=⟨Try.func124,by kernel_rfl,by kernel_rfl⟩) Jn (Jm e_Z46_ok Jo) ((q_Z47 ..).trans ((c_Z47_bind ..).trans (Jg hy)))⟩

/-!-/
def c_Z48 {R:Type} (x0 x1 x2 x3:Int) (k:Int→Option R):Option R:=
 (Z45 x0 x2).bind (fun y0=>
 (Z45 x1 x3).bind (fun y1=>
 (Z47 ([D.int y0,D.int y1])).bind (fun y2=>
 k y2)))
theorem c_Z48_bind {R:Type} (x0 x1 x2 x3:Int) (k:Int→Option R):c_Z48 x0 x1 x2 x3 k=(c_Z48 x0 x1 x2 x3 some).bind k:=by
 unfold c_Z48
 repeat' first
  | exact JA
  | exact Jz
  | exact Jy
  | apply Jv
  | apply Jw
  | apply JB
  | (apply Jx;intro _)
  | intro _
def Z48 (x0 x1 x2 x3:Int):Option (Int):=c_Z48 x0 x1 x2 x3 some
def e_Z48:Ent:=⟨78,[.agg [.int .i64,.int .i64],.agg [.int .i64,.int .i64]],[(.int .i64,[.undef,.undef])],fun _ ds k=>dI (fun x0 ds=>dI (fun x1 ds=>dI (fun x2 ds=>dI (fun x3 ds=>dE ((Z48 x0 x1 x2 x3).bind (fun y=>k 0 [.I y])) ds) ds) ds) ds) ds⟩
theorem q_Z48 (x0 x1 x2 x3:Int):JX (Jr [e_Z45,e_Z47]) (Js []) A 78 Try.f78 (Sh.mks e_Z48.sh [.I x0,.I x1,.I x2,.I x3]).1 (fun v os=>some (v,os))=c_Z48 x0 x1 x2 x3 (fun y=>J0 e_Z48 0 [.I y]):=by kernel_rfl
theorem e_Z48_ok:e_Z48.ok Try.prog A:=by
 intro R ds k r h
 unfold e_Z48 at h
 obtain ⟨_,_,rfl,h⟩:=Jb h
 obtain ⟨_,_,rfl,h⟩:=Jb h
 obtain ⟨_,_,rfl,h⟩:=Jb h
 obtain ⟨_,_,rfl,h⟩:=Jb h
 obtain ⟨rfl,hE⟩:=Je h
 obtain ⟨y,hy,hk⟩:=Jf hE
 exact ⟨0,_,_,_,hk,rfl,J1 px (fx:=⟨Try.func78,by kernel_rfl,by kernel_rfl⟩) (Jt e_Z45_ok (Jt e_Z47_ok Jn)) Jo ((q_Z48 ..).trans ((c_Z48_bind ..).trans (Jg hy)))⟩

/-!-/
abbrev T_Z49:=List D→Int→Int→List D→List D→Option ((Bool)⊕(Unit))
def c_Z49 {R:Type} (F:T_Z49) (x0:List D) (x1 x2:Int) (x3 x4:List D) (k:(Bool)⊕(Unit)→Option R):Option R:=
 bif decide (x2<x1) then
 if 0≤x2∧x2<(↑x0.length:Int) then
 bif decide (((x0.getD x2.toNat (D.int 0)).fld (0:Nat)).toInt=((x0.getD x2.toNat (D.int 0)).fld (1:Nat)).toInt) then
 k (.inl Bool.false)
 else
 (Z43 x3 x4 (((x0.getD x2.toNat (D.int 0)).fld (0:Nat)).toInt)).bind (fun y0=>
 bif decide (y0<(0:Int)) then
 k (.inl Bool.false)
 else
 (Z43 x3 x4 (((x0.getD x2.toNat (D.int 0)).fld (1:Nat)).toInt)).bind (fun y1=>
 bif decide (y1<(0:Int)) then
 k (.inl Bool.false)
 else
 bif decide ((0:Int)<x2) then
 if (0:Int)≤IntKind.i64.wrap (x2 - 1)∧IntKind.i64.wrap (x2 - 1)<(↑x4.length:Int) then
 (Z48 (((x4.getD (IntKind.i64.wrap (x2 - 1)).toNat (D.int 0)).fld (0:Nat)).toInt) (((x4.getD (IntKind.i64.wrap (x2 - 1)).toNat (D.int 0)).fld (1:Nat)).toInt) (((x0.getD x2.toNat (D.int 0)).fld (0:Nat)).toInt) (((x0.getD x2.toNat (D.int 0)).fld (1:Nat)).toInt)).bind (fun y2=>
 bif decide ((0:Int)≤y2) then
 k (.inl Bool.false)
 else
 (F x0 x1 (IntKind.i64.wrap (x2+1)) x3 x4).bind k)
 else
 none
 else
 (F x0 x1 (IntKind.i64.wrap (x2+1)) x3 x4).bind k))
 else
 none
 else
 k (.inr ())
theorem c_Z49_bind {R:Type} (F:T_Z49) (x0:List D) (x1 x2:Int) (x3 x4:List D) (k:(Bool)⊕(Unit)→Option R):c_Z49 F x0 x1 x2 x3 x4 k=(c_Z49 F x0 x1 x2 x3 x4 some).bind k:=by
 unfold c_Z49
 repeat' first
  | exact JA
  | exact Jz
  | exact Jy
  | apply Jv
  | apply Jw
  | apply JB
  | (apply Jx;intro _)
  | intro _
def n_Z49:Nat→T_Z49
 | 0,_,_,_,_,_=>none
 | n+1,x0,x1,x2,x3,x4=>c_Z49 (n_Z49 n) x0 x1 x2 x3 x4 some
noncomputable def Z49 (x0:List D) (x1 x2:Int) (x3 x4:List D):Option ((Bool)⊕(Unit)):=ev (fun n=>n_Z49 n x0 x1 x2 x3 x4)
def m_Z49 (F:T_Z49):Jq:=⟨10,⟨(.undef::.ptr 1000 [0]::uu 51 (.rd (.struct [.int .i64,.int .i64])::.int .i64::.int .i64::uu 37 ([]))),[(1000,.obox (.agg [.rd (.struct [.int .i64,.int .i64]),.rd (.struct [.int .i64,.int .i64])]))]⟩,[(.ret,⟨(.undef::.undef::.bool::uu 90 ([])),[]⟩),(.exit 2,⟨(uu 93 ([])),[]⟩)],fun _ ds k=>dL (fun x0 ds=>dI (fun x1 ds=>dI (fun x2 ds=>dL (fun x3 ds=>dL (fun x4 ds=>dE ((F x0 x1 x2 x3 x4).bind (Sum.elim (fun y=>k 0 [.B y]) (fun y=>k 1 []))) ds) ds) ds) ds) ds) ds⟩
theorem q_Z49 (F:T_Z49) (x0:List D) (x1 x2:Int) (x3 x4:List D):J2 (Jr [e_Z43,e_Z48]) (Js [m_Z49 F]) A 66 (Jk (Jh Try.f66) 10) ((m_Z49 F).sh.mk' [.L x0,.I x1,.I x2,.L x3,.L x4]) (fun e σ'=>some (e,σ'))=c_Z49 F x0 x1 x2 x3 x4 (Sum.elim (fun y=>some (.ret,SSt.mk' ⟨(.undef::.undef::.bool::uu 90 ([])),[]⟩ [.B y])) (fun y=>some (.exit 2,SSt.mk' ⟨(uu 93 ([])),[]⟩ []))):=by kernel_rfl
theorem m_Z49_ok:∀ n,(m_Z49 (n_Z49 n)).ok Try.prog (Jk (Jh Try.f66) 10):=by
 intro n
 induction n with
 | zero=>
  intro R ds k r h
  unfold m_Z49 at h
  obtain ⟨_,_,rfl,h⟩:=Ja h
  obtain ⟨_,_,rfl,h⟩:=Jb h
  obtain ⟨_,_,rfl,h⟩:=Jb h
  obtain ⟨_,_,rfl,h⟩:=Ja h
  obtain ⟨_,_,rfl,h⟩:=Ja h
  obtain ⟨rfl,hE⟩:=Je h
  obtain ⟨y,hy,hk⟩:=Jf hE
  cases hy
 | succ n ih=>
  intro R ds k r h
  unfold m_Z49 at h
  obtain ⟨_,_,rfl,h⟩:=Ja h
  obtain ⟨_,_,rfl,h⟩:=Jb h
  obtain ⟨_,_,rfl,h⟩:=Jb h
  obtain ⟨_,_,rfl,h⟩:=Ja h
  obtain ⟨_,_,rfl,h⟩:=Ja h
  obtain ⟨rfl,hE⟩:=Je h
  obtain ⟨y,hy,hk⟩:=Jf hE
  cases y with
  | inl y=>
   exact ⟨0,_,_,_,hk,rfl,JP px (fx:=⟨Try.func66,by kernel_rfl,by kernel_rfl⟩) (Jt e_Z43_ok (Jt e_Z48_ok Jn)) (Jm ih Jo) (by kernel_rfl) ((q_Z49 ..).trans ((c_Z49_bind ..).trans (Jg hy)))⟩
  | inr y=>
   exact ⟨1,_,_,_,hk,rfl,JP px (fx:=⟨Try.func66,by kernel_rfl,by kernel_rfl⟩) (Jt e_Z43_ok (Jt e_Z48_ok Jn)) (Jm ih Jo) (by kernel_rfl) ((q_Z49 ..).trans ((c_Z49_bind ..).trans (Jg hy)))⟩
noncomputable def e_Z49:Jq:=m_Z49 (Z49)
theorem e_Z49_ok:(e_Z49).ok Try.prog (Jk (Jh Try.f66) 10):=by
 intro R ds k r h
 unfold e_Z49 m_Z49 at h
 obtain ⟨_,_,rfl,h⟩:=Ja h
 obtain ⟨_,_,rfl,h⟩:=Jb h
 obtain ⟨_,_,rfl,h⟩:=Jb h
 obtain ⟨_,_,rfl,h⟩:=Ja h
 obtain ⟨_,_,rfl,h⟩:=Ja h
 obtain ⟨rfl,hE⟩:=Je h
 obtain ⟨y,hy,hk⟩:=Jf hE
 obtain ⟨n,hn⟩:=J5 hy
 exact m_Z49_ok n R _ k r ((Jg hn).trans hk)

/-!-/
def c_Z50 {R:Type} (x0 x1:List D) (k:Bool→Option R):Option R:=
 bif decide ((10:Int)<(↑x0.length:Int)) then
 k Bool.false
 else
 bif decide ((24:Int)<(↑x1.length:Int)) then
 k Bool.false
 else
 (Z39 x0 (↑x0.length:Int) (0:Int) x0 x1).bind (Sum.elim (fun y0=>
 k y0.fst) (fun y1=>
 (Z49 y1.snd (↑y1.snd.length:Int) (0:Int) y1.fst y1.snd).bind (Sum.elim (fun y2=>
 k y2) (fun y3=>
 k Bool.true))))
theorem c_Z50_bind {R:Type} (x0 x1:List D) (k:Bool→Option R):c_Z50 x0 x1 k=(c_Z50 x0 x1 some).bind k:=by
 unfold c_Z50
 repeat' first
  | exact JA
  | exact Jz
  | exact Jy
  | apply Jv
  | apply Jw
  | apply JB
  | (apply Jx;intro _)
  | intro _
def Z50 (x0 x1:List D):Option (Bool):=c_Z50 x0 x1 some
def e_Z50:Ent:=⟨66,[.agg [.rd (.struct [.int .i64,.int .i64]),.rd (.struct [.int .i64,.int .i64])]],[(.bool,[.undef])],fun _ ds k=>dL (fun x0 ds=>dL (fun x1 ds=>dE ((Z50 x0 x1).bind (fun y=>k 0 [.B y])) ds) ds) ds⟩
theorem q_Z50 (x0 x1:List D):JX (Jr []) (Js [e_Z39,e_Z49]) A 66 Try.f66 (Sh.mks e_Z50.sh [.L x0,.L x1]).1 (fun v os=>some (v,os))=c_Z50 x0 x1 (fun y=>J0 e_Z50 0 [.B y]):=by kernel_rfl
theorem e_Z50_ok:e_Z50.ok Try.prog A:=by
 intro R ds k r h
 unfold e_Z50 at h
 obtain ⟨_,_,rfl,h⟩:=Ja h
 obtain ⟨_,_,rfl,h⟩:=Ja h
 obtain ⟨rfl,hE⟩:=Je h
 obtain ⟨y,hy,hk⟩:=Jf hE
 exact ⟨0,_,_,_,hk,rfl,J1 px (fx:=⟨Try.func66,by kernel_rfl,by kernel_rfl⟩) Jn (Jm e_Z39_ok (Jm e_Z49_ok Jo)) ((q_Z50 ..).trans ((c_Z50_bind ..).trans (Jg hy)))⟩

/-!-/
abbrev T_Z51:=Int→Int→Int→List D→Option (List D)
def c_Z51 {R:Type} (F:T_Z51) (x0 x1 x2:Int) (x3:List D) (k:List D→Option R):Option R:=
 bif decide (x2<x1) then
 if 0≤x0∧x0≤x0∧x0≤(4294967296:Int) then
 if 0≤x2∧x2<(↑x3.length:Int) then
 if x2.toNat+1≤x3.length then
 (F x0 x1 (IntKind.i64.wrap (x2+1)) (x3.set x2.toNat (D.node (List.replicate x0.toNat (D.bool Bool.false))))).bind k
 else
 none
 else
 none
 else
 none
 else
 k x3
theorem c_Z51_bind {R:Type} (F:T_Z51) (x0 x1 x2:Int) (x3:List D) (k:List D→Option R):c_Z51 F x0 x1 x2 x3 k=(c_Z51 F x0 x1 x2 x3 some).bind k:=by
 unfold c_Z51
 repeat' first
  | exact JA
  | exact Jz
  | exact Jy
  | apply Jv
  | apply Jw
  | apply JB
  | (apply Jx;intro _)
  | intro _
def n_Z51:Nat→T_Z51
 | 0,_,_,_,_=>none
 | n+1,x0,x1,x2,x3=>c_Z51 (n_Z51 n) x0 x1 x2 x3 some
noncomputable def Z51 (x0 x1 x2:Int) (x3:List D):Option (List D):=ev (fun n=>n_Z51 n x0 x1 x2 x3)
def m_Z51 (F:T_Z51):Jq:=⟨3,⟨(.int .i64::.undef::.undef::.full 1000 [] (.slice (.bool))::uu 4 (.int .i64::.int .i64::uu 9 ([]))),[(1000,.own (.slice (.bool)))]⟩,[(.exit 0,⟨(.undef::.undef::.undef::.full 1000 [] (.slice (.bool))::uu 15 ([])),[(1000,.own (.slice (.bool)))]⟩)],fun _ ds k=>dI (fun x0 ds=>dI (fun x1 ds=>dI (fun x2 ds=>dL (fun x3 ds=>dE ((F x0 x1 x2 x3).bind (fun y=>k 0 [.L y])) ds) ds) ds) ds) ds⟩
theorem q_Z51 (F:T_Z51) (x0 x1 x2:Int) (x3:List D):J2 (Jr []) (Js [m_Z51 F]) A 110 (Jk (Jh Try.f110) 3) ((m_Z51 F).sh.mk' [.I x0,.I x1,.I x2,.L x3]) (fun e σ'=>some (e,σ'))=c_Z51 F x0 x1 x2 x3 (fun y=>some (.exit 0,SSt.mk' ⟨(.undef::.undef::.undef::.full 1000 [] (.slice (.bool))::uu 15 ([])),[(1000,.own (.slice (.bool)))]⟩ [.L y])):=by kernel_rfl
theorem m_Z51_ok:∀ n,(m_Z51 (n_Z51 n)).ok Try.prog (Jk (Jh Try.f110) 3):=by
 intro n
 induction n with
 | zero=>
  intro R ds k r h
  unfold m_Z51 at h
  obtain ⟨_,_,rfl,h⟩:=Jb h
  obtain ⟨_,_,rfl,h⟩:=Jb h
  obtain ⟨_,_,rfl,h⟩:=Jb h
  obtain ⟨_,_,rfl,h⟩:=Ja h
  obtain ⟨rfl,hE⟩:=Je h
  obtain ⟨y,hy,hk⟩:=Jf hE
  cases hy
 | succ n ih=>
  intro R ds k r h
  unfold m_Z51 at h
  obtain ⟨_,_,rfl,h⟩:=Jb h
  obtain ⟨_,_,rfl,h⟩:=Jb h
  obtain ⟨_,_,rfl,h⟩:=Jb h
  obtain ⟨_,_,rfl,h⟩:=Ja h
  obtain ⟨rfl,hE⟩:=Je h
  obtain ⟨y,hy,hk⟩:=Jf hE
  exact ⟨0,_,_,_,hk,rfl,JP px (fx:=⟨Try.func110,by kernel_rfl,by kernel_rfl⟩) Jn (Jm ih Jo) (by kernel_rfl) ((q_Z51 ..).trans ((c_Z51_bind ..).trans (Jg hy)))⟩
noncomputable def e_Z51:Jq:=m_Z51 (Z51)
theorem e_Z51_ok:(e_Z51).ok Try.prog (Jk (Jh Try.f110) 3):=by
 intro R ds k r h
 unfold e_Z51 m_Z51 at h
 obtain ⟨_,_,rfl,h⟩:=Jb h
 obtain ⟨_,_,rfl,h⟩:=Jb h
 obtain ⟨_,_,rfl,h⟩:=Jb h
 obtain ⟨_,_,rfl,h⟩:=Ja h
 obtain ⟨rfl,hE⟩:=Je h
 obtain ⟨y,hy,hk⟩:=Jf hE
 obtain ⟨n,hn⟩:=J5 hy
 exact m_Z51_ok n R _ k r ((Jg hn).trans hk)

/-!-/
def c_Z52 {R:Type} (x0:Int) (k:List D→Option R):Option R:=
 if 0≤x0∧x0≤x0∧x0≤(4294967296:Int) then
 (Z51 x0 (↑(List.replicate x0.toNat (D.node [])).length:Int) (0:Int) (List.replicate x0.toNat (D.node []))).bind (fun y0=>
 k y0)
 else
 none
theorem c_Z52_bind {R:Type} (x0:Int) (k:List D→Option R):c_Z52 x0 k=(c_Z52 x0 some).bind k:=by
 unfold c_Z52
 repeat' first
  | exact JA
  | exact Jz
  | exact Jy
  | apply Jv
  | apply Jw
  | apply JB
  | (apply Jx;intro _)
  | intro _
def Z52 (x0:Int):Option (List D):=c_Z52 x0 some
def e_Z52:Ent:=⟨110,[.int .i64],[(.own (.slice (.bool)),[.undef])],fun _ ds k=>dI (fun x0 ds=>dE ((Z52 x0).bind (fun y=>k 0 [.L y])) ds) ds⟩
theorem q_Z52 (x0:Int):JX (Jr []) (Js [e_Z51]) A 110 Try.f110 (Sh.mks e_Z52.sh [.I x0]).1 (fun v os=>some (v,os))=c_Z52 x0 (fun y=>J0 e_Z52 0 [.L y]):=by kernel_rfl
theorem e_Z52_ok:e_Z52.ok Try.prog A:=by
 intro R ds k r h
 unfold e_Z52 at h
 obtain ⟨_,_,rfl,h⟩:=Jb h
 obtain ⟨rfl,hE⟩:=Je h
 obtain ⟨y,hy,hk⟩:=Jf hE
 exact ⟨0,_,_,_,hk,rfl,J1 px (fx:=⟨Try.func110,by kernel_rfl,by kernel_rfl⟩) Jn (Jm e_Z51_ok Jo) ((q_Z52 ..).trans ((c_Z52_bind ..).trans (Jg hy)))⟩

/-!-/
abbrev T_Z53:=Int→List D→Int→Int→List D→List D→List D→List D→List D→Option (Int×List D×List D×List D×List D×List D)
def c_Z53 {R:Type} (F:T_Z53) (x0:Int) (x1:List D) (x2 x3:Int) (x4 x5 x6 x7 x8:List D) (k:Int×List D×List D×List D×List D×List D→Option R):Option R:=
 bif decide (x3<x2) then
 if 0≤x3∧x3<(↑x1.length:Int) then
 if x6.length+[D.int ((x1.getD x3.toNat (D.int 0)).fld (0:Nat)).toInt].length≤(4294967296:Nat) then
 (F x0 x1 x2 (IntKind.i64.wrap (x3+1)) x4 x5 (x6++[D.int ((x1.getD x3.toNat (D.int 0)).fld (0:Nat)).toInt]) x7 x8).bind k
 else
 none
 else
 none
 else
 k (x0,x4,x5,x6,x7,x8)
theorem c_Z53_bind {R:Type} (F:T_Z53) (x0:Int) (x1:List D) (x2 x3:Int) (x4 x5 x6 x7 x8:List D) (k:Int×List D×List D×List D×List D×List D→Option R):c_Z53 F x0 x1 x2 x3 x4 x5 x6 x7 x8 k=(c_Z53 F x0 x1 x2 x3 x4 x5 x6 x7 x8 some).bind k:=by
 unfold c_Z53
 repeat' first
  | exact JA
  | exact Jz
  | exact Jy
  | apply Jv
  | apply Jw
  | apply JB
  | (apply Jx;intro _)
  | intro _
def n_Z53:Nat→T_Z53
 | 0,_,_,_,_,_,_,_,_,_=>none
 | n+1,x0,x1,x2,x3,x4,x5,x6,x7,x8=>c_Z53 (n_Z53 n) x0 x1 x2 x3 x4 x5 x6 x7 x8 some
noncomputable def Z53 (x0:Int) (x1:List D) (x2 x3:Int) (x4 x5 x6 x7 x8:List D):Option (Int×List D×List D×List D×List D×List D):=ev (fun n=>n_Z53 n x0 x1 x2 x3 x4 x5 x6 x7 x8)
def m_Z53 (F:T_Z53):Jq:=⟨4,⟨(.undef::.ptr 1000 [0]::.undef::.int .i64::.ptr 1001 [0]::uu 19 (.rd (.struct [.int .i64,.int .i64])::.int .i64::.int .i64::uu 108 ([]))),[(1000,.obox (.agg [.rd (.struct [.int .i64,.int .i64]),.rd (.struct [.int .i64,.int .i64])])),(1001,.obox (.agg [.full 1002 [] (.int .i64),.full 1003 [] (.slice (.bool)),.full 1004 [] (.slice (.bool))])),(1002,.own (.int .i64)),(1003,.own (.slice (.bool))),(1004,.own (.slice (.bool)))]⟩,[(.exit 0,⟨(.undef::.ptr 1000 [0]::.undef::.int .i64::.ptr 1001 [0]::uu 130 ([])),[(1000,.obox (.agg [.rd (.struct [.int .i64,.int .i64]),.rd (.struct [.int .i64,.int .i64])])),(1001,.obox (.agg [.full 1002 [] (.int .i64),.full 1003 [] (.slice (.bool)),.full 1004 [] (.slice (.bool))])),(1002,.own (.int .i64)),(1003,.own (.slice (.bool))),(1004,.own (.slice (.bool)))]⟩)],fun _ ds k=>dI (fun x0 ds=>dL (fun x1 ds=>dI (fun x2 ds=>dI (fun x3 ds=>dL (fun x4 ds=>dL (fun x5 ds=>dL (fun x6 ds=>dL (fun x7 ds=>dL (fun x8 ds=>dE ((F x0 x1 x2 x3 x4 x5 x6 x7 x8).bind (fun y=>k 0 [.I y.1,.L y.2.1,.L y.2.2.1,.L y.2.2.2.1,.L y.2.2.2.2.1,.L y.2.2.2.2.2])) ds) ds) ds) ds) ds) ds) ds) ds) ds) ds⟩
theorem q_Z53 (F:T_Z53) (x0:Int) (x1:List D) (x2 x3:Int) (x4 x5 x6 x7 x8:List D):J2 (Jr []) (Js [m_Z53 F]) A 63 (Jk (Jh Try.f63) 4) ((m_Z53 F).sh.mk' [.I x0,.L x1,.I x2,.I x3,.L x4,.L x5,.L x6,.L x7,.L x8]) (fun e σ'=>some (e,σ'))=c_Z53 F x0 x1 x2 x3 x4 x5 x6 x7 x8 (fun y=>some (.exit 0,SSt.mk' ⟨(.undef::.ptr 1000 [0]::.undef::.int .i64::.ptr 1001 [0]::uu 130 ([])),[(1000,.obox (.agg [.rd (.struct [.int .i64,.int .i64]),.rd (.struct [.int .i64,.int .i64])])),(1001,.obox (.agg [.full 1002 [] (.int .i64),.full 1003 [] (.slice (.bool)),.full 1004 [] (.slice (.bool))])),(1002,.own (.int .i64)),(1003,.own (.slice (.bool))),(1004,.own (.slice (.bool)))]⟩ [.I y.1,.L y.2.1,.L y.2.2.1,.L y.2.2.2.1,.L y.2.2.2.2.1,.L y.2.2.2.2.2])):=by kernel_rfl
theorem m_Z53_ok:∀ n,(m_Z53 (n_Z53 n)).ok Try.prog (Jk (Jh Try.f63) 4):=by
 intro n
 induction n with
 | zero=>
  intro R ds k r h
  unfold m_Z53 at h
  obtain ⟨_,_,rfl,h⟩:=Jb h
  obtain ⟨_,_,rfl,h⟩:=Ja h
  obtain ⟨_,_,rfl,h⟩:=Jb h
  obtain ⟨_,_,rfl,h⟩:=Jb h
  obtain ⟨_,_,rfl,h⟩:=Ja h
  obtain ⟨_,_,rfl,h⟩:=Ja h
  obtain ⟨_,_,rfl,h⟩:=Ja h
  obtain ⟨_,_,rfl,h⟩:=Ja h
  obtain ⟨_,_,rfl,h⟩:=Ja h
  obtain ⟨rfl,hE⟩:=Je h
  obtain ⟨y,hy,hk⟩:=Jf hE
  cases hy
 | succ n ih=>
  intro R ds k r h
  unfold m_Z53 at h
  obtain ⟨_,_,rfl,h⟩:=Jb h
  obtain ⟨_,_,rfl,h⟩:=Ja h
  obtain ⟨_,_,rfl,h⟩:=Jb h
  obtain ⟨_,_,rfl,h⟩:=Jb h
  obtain ⟨_,_,rfl,h⟩:=Ja h
  obtain ⟨_,_,rfl,h⟩:=Ja h
  obtain ⟨_,_,rfl,h⟩:=Ja h
  obtain ⟨_,_,rfl,h⟩:=Ja h
  obtain ⟨_,_,rfl,h⟩:=Ja h
  obtain ⟨rfl,hE⟩:=Je h
  obtain ⟨y,hy,hk⟩:=Jf hE
  exact ⟨0,_,_,_,hk,rfl,JP px (fx:=⟨Try.func63,by kernel_rfl,by kernel_rfl⟩) Jn (Jm ih Jo) (by kernel_rfl) ((q_Z53 ..).trans ((c_Z53_bind ..).trans (Jg hy)))⟩
noncomputable def e_Z53:Jq:=m_Z53 (Z53)
theorem e_Z53_ok:(e_Z53).ok Try.prog (Jk (Jh Try.f63) 4):=by
 intro R ds k r h
 unfold e_Z53 m_Z53 at h
 obtain ⟨_,_,rfl,h⟩:=Jb h
 obtain ⟨_,_,rfl,h⟩:=Ja h
 obtain ⟨_,_,rfl,h⟩:=Jb h
 obtain ⟨_,_,rfl,h⟩:=Jb h
 obtain ⟨_,_,rfl,h⟩:=Ja h
 obtain ⟨_,_,rfl,h⟩:=Ja h
 obtain ⟨_,_,rfl,h⟩:=Ja h
 obtain ⟨_,_,rfl,h⟩:=Ja h
 obtain ⟨_,_,rfl,h⟩:=Ja h
 obtain ⟨rfl,hE⟩:=Je h
 obtain ⟨y,hy,hk⟩:=Jf hE
 obtain ⟨n,hn⟩:=J5 hy
 exact m_Z53_ok n R _ k r ((Jg hn).trans hk)

/-!-/
abbrev T_Z54:=Int→List D→Int→Int→List D→List D→List D→List D→List D→Option ((Int×List D×List D×List D×List D×List D)⊕(Int×List D×List D×List D×List D×List D))
def c_Z54 {R:Type} (F:T_Z54) (x0:Int) (x1:List D) (x2 x3:Int) (x4 x5 x6 x7 x8:List D) (k:(Int×List D×List D×List D×List D×List D)⊕(Int×List D×List D×List D×List D×List D)→Option R):Option R:=
 bif decide (x3<x2) then
 if 0≤x3∧x3<(↑x1.length:Int) then
 if x6.length+[D.int ((x1.getD x3.toNat (D.int 0)).fld (0:Nat)).toInt].length≤(4294967296:Nat) then
 (Z53 x0 x1 x2 (IntKind.i64.wrap (x3+1)) x4 x5 (x6++[D.int ((x1.getD x3.toNat (D.int 0)).fld (0:Nat)).toInt]) x7 x8).bind (fun y0=>
 k (.inl (y0.fst,y0.snd.fst,y0.snd.snd.fst,y0.snd.snd.snd.fst,y0.snd.snd.snd.snd.fst,y0.snd.snd.snd.snd.snd)))
 else
 none
 else
 none
 else
 k (.inr (x0,x4,x5,x6,x7,x8))
theorem c_Z54_bind {R:Type} (F:T_Z54) (x0:Int) (x1:List D) (x2 x3:Int) (x4 x5 x6 x7 x8:List D) (k:(Int×List D×List D×List D×List D×List D)⊕(Int×List D×List D×List D×List D×List D)→Option R):c_Z54 F x0 x1 x2 x3 x4 x5 x6 x7 x8 k=(c_Z54 F x0 x1 x2 x3 x4 x5 x6 x7 x8 some).bind k:=by
 unfold c_Z54
 repeat' first
  | exact JA
  | exact Jz
  | exact Jy
  | apply Jv
  | apply Jw
  | apply JB
  | (apply Jx;intro _)
  | intro _
def n_Z54:Nat→T_Z54
 | 0,_,_,_,_,_,_,_,_,_=>none
 | n+1,x0,x1,x2,x3,x4,x5,x6,x7,x8=>c_Z54 (n_Z54 n) x0 x1 x2 x3 x4 x5 x6 x7 x8 some
noncomputable def Z54 (x0:Int) (x1:List D) (x2 x3:Int) (x4 x5 x6 x7 x8:List D):Option ((Int×List D×List D×List D×List D×List D)⊕(Int×List D×List D×List D×List D×List D)):=ev (fun n=>n_Z54 n x0 x1 x2 x3 x4 x5 x6 x7 x8)
def m_Z54 (F:T_Z54):Jq:=⟨4,⟨(.undef::.ptr 1000 [0]::.undef::.int .i64::.ptr 1001 [0]::uu 19 (.rd (.struct [.int .i64,.int .i64])::.int .i64::.int .i64::uu 108 ([]))),[(1000,.obox (.agg [.rd (.struct [.int .i64,.int .i64]),.rd (.struct [.int .i64,.int .i64])])),(1001,.obox (.agg [.own (.int .i64),.full 1002 [] (.slice (.bool)),.full 1003 [] (.slice (.bool))])),(1002,.own (.slice (.bool))),(1003,.own (.slice (.bool)))]⟩,[(.exit 0,⟨(.undef::.ptr 1000 [0]::.undef::.int .i64::.ptr 1001 [0]::uu 130 ([])),[(1000,.obox (.agg [.rd (.struct [.int .i64,.int .i64]),.rd (.struct [.int .i64,.int .i64])])),(1001,.obox (.agg [.full 1002 [] (.int .i64),.full 1003 [] (.slice (.bool)),.full 1004 [] (.slice (.bool))])),(1002,.own (.int .i64)),(1003,.own (.slice (.bool))),(1004,.own (.slice (.bool)))]⟩),(.exit 0,⟨(.undef::.ptr 1000 [0]::.undef::.int .i64::.ptr 1001 [0]::uu 130 ([])),[(1000,.obox (.agg [.rd (.struct [.int .i64,.int .i64]),.rd (.struct [.int .i64,.int .i64])])),(1001,.obox (.agg [.own (.int .i64),.full 1002 [] (.slice (.bool)),.full 1003 [] (.slice (.bool))])),(1002,.own (.slice (.bool))),(1003,.own (.slice (.bool)))]⟩)],fun _ ds k=>dI (fun x0 ds=>dL (fun x1 ds=>dI (fun x2 ds=>dI (fun x3 ds=>dL (fun x4 ds=>dL (fun x5 ds=>dL (fun x6 ds=>dL (fun x7 ds=>dL (fun x8 ds=>dE ((F x0 x1 x2 x3 x4 x5 x6 x7 x8).bind (Sum.elim (fun y=>k 0 [.I y.1,.L y.2.1,.L y.2.2.1,.L y.2.2.2.1,.L y.2.2.2.2.1,.L y.2.2.2.2.2]) (fun y=>k 1 [.I y.1,.L y.2.1,.L y.2.2.1,.L y.2.2.2.1,.L y.2.2.2.2.1,.L y.2.2.2.2.2]))) ds) ds) ds) ds) ds) ds) ds) ds) ds) ds⟩
theorem q_Z54 (F:T_Z54) (x0:Int) (x1:List D) (x2 x3:Int) (x4 x5 x6 x7 x8:List D):J2 (Jr []) (Js [m_Z54 F,e_Z53]) A 63 (Jk (Jh Try.f63) 4) ((m_Z54 F).sh.mk' [.I x0,.L x1,.I x2,.I x3,.L x4,.L x5,.L x6,.L x7,.L x8]) (fun e σ'=>some (e,σ'))=c_Z54 F x0 x1 x2 x3 x4 x5 x6 x7 x8 (Sum.elim (fun y=>some (.exit 0,SSt.mk' ⟨(.undef::.ptr 1000 [0]::.undef::.int .i64::.ptr 1001 [0]::uu 130 ([])),[(1000,.obox (.agg [.rd (.struct [.int .i64,.int .i64]),.rd (.struct [.int .i64,.int .i64])])),(1001,.obox (.agg [.full 1002 [] (.int .i64),.full 1003 [] (.slice (.bool)),.full 1004 [] (.slice (.bool))])),(1002,.own (.int .i64)),(1003,.own (.slice (.bool))),(1004,.own (.slice (.bool)))]⟩ [.I y.1,.L y.2.1,.L y.2.2.1,.L y.2.2.2.1,.L y.2.2.2.2.1,.L y.2.2.2.2.2])) (fun y=>some (.exit 0,SSt.mk' ⟨(.undef::.ptr 1000 [0]::.undef::.int .i64::.ptr 1001 [0]::uu 130 ([])),[(1000,.obox (.agg [.rd (.struct [.int .i64,.int .i64]),.rd (.struct [.int .i64,.int .i64])])),(1001,.obox (.agg [.own (.int .i64),.full 1002 [] (.slice (.bool)),.full 1003 [] (.slice (.bool))])),(1002,.own (.slice (.bool))),(1003,.own (.slice (.bool)))]⟩ [.I y.1,.L y.2.1,.L y.2.2.1,.L y.2.2.2.1,.L y.2.2.2.2.1,.L y.2.2.2.2.2]))):=by kernel_rfl
theorem m_Z54_ok:∀ n,(m_Z54 (n_Z54 n)).ok Try.prog (Jk (Jh Try.f63) 4):=by
 intro n
 induction n with
 | zero=>
  intro R ds k r h
  unfold m_Z54 at h
  obtain ⟨_,_,rfl,h⟩:=Jb h
  obtain ⟨_,_,rfl,h⟩:=Ja h
  obtain ⟨_,_,rfl,h⟩:=Jb h
  obtain ⟨_,_,rfl,h⟩:=Jb h
  obtain ⟨_,_,rfl,h⟩:=Ja h
  obtain ⟨_,_,rfl,h⟩:=Ja h
  obtain ⟨_,_,rfl,h⟩:=Ja h
  obtain ⟨_,_,rfl,h⟩:=Ja h
  obtain ⟨_,_,rfl,h⟩:=Ja h
  obtain ⟨rfl,hE⟩:=Je h
  obtain ⟨y,hy,hk⟩:=Jf hE
  cases hy
 | succ n ih=>
  intro R ds k r h
  unfold m_Z54 at h
  obtain ⟨_,_,rfl,h⟩:=Jb h
  obtain ⟨_,_,rfl,h⟩:=Ja h
  obtain ⟨_,_,rfl,h⟩:=Jb h
  obtain ⟨_,_,rfl,h⟩:=Jb h
  obtain ⟨_,_,rfl,h⟩:=Ja h
  obtain ⟨_,_,rfl,h⟩:=Ja h
  obtain ⟨_,_,rfl,h⟩:=Ja h
  obtain ⟨_,_,rfl,h⟩:=Ja h
  obtain ⟨_,_,rfl,h⟩:=Ja h
  obtain ⟨rfl,hE⟩:=Je h
  obtain ⟨y,hy,hk⟩:=Jf hE
  cases y with
  | inl y=>
   exact ⟨0,_,_,_,hk,rfl,JP px (fx:=⟨Try.func63,by kernel_rfl,by kernel_rfl⟩) Jn (Jm ih (Jm e_Z53_ok Jo)) (by kernel_rfl) ((q_Z54 ..).trans ((c_Z54_bind ..).trans (Jg hy)))⟩
  | inr y=>
   exact ⟨1,_,_,_,hk,rfl,JP px (fx:=⟨Try.func63,by kernel_rfl,by kernel_rfl⟩) Jn (Jm ih (Jm e_Z53_ok Jo)) (by kernel_rfl) ((q_Z54 ..).trans ((c_Z54_bind ..).trans (Jg hy)))⟩
noncomputable def e_Z54:Jq:=m_Z54 (Z54)
theorem e_Z54_ok:(e_Z54).ok Try.prog (Jk (Jh Try.f63) 4):=by
 intro R ds k r h
 unfold e_Z54 m_Z54 at h
 obtain ⟨_,_,rfl,h⟩:=Jb h
 obtain ⟨_,_,rfl,h⟩:=Ja h
 obtain ⟨_,_,rfl,h⟩:=Jb h
 obtain ⟨_,_,rfl,h⟩:=Jb h
 obtain ⟨_,_,rfl,h⟩:=Ja h
 obtain ⟨_,_,rfl,h⟩:=Ja h
 obtain ⟨_,_,rfl,h⟩:=Ja h
 obtain ⟨_,_,rfl,h⟩:=Ja h
 obtain ⟨_,_,rfl,h⟩:=Ja h
 obtain ⟨rfl,hE⟩:=Je h
 obtain ⟨y,hy,hk⟩:=Jf hE
 obtain ⟨n,hn⟩:=J5 hy
 exact m_Z54_ok n R _ k r ((Jg hn).trans hk)

/-!-/
abbrev T_Z55:=Int→List D→Int→Int→List D→List D→List D→List D→List D→Option (Int×List D×List D×List D)
def c_Z55 {R:Type} (F:T_Z55) (x0:Int) (x1:List D) (x2 x3:Int) (x4 x5 x6 x7 x8:List D) (k:Int×List D×List D×List D→Option R):Option R:=
 bif decide (x3<x2) then
 if 0≤x3∧x3<(↑x1.length:Int) then
 (Z43 x4 x5 (((x1.getD x3.toNat (D.int 0)).fld (0:Nat)).toInt)).bind (fun y0=>
 (Z43 x4 x5 (((x1.getD x3.toNat (D.int 0)).fld (1:Nat)).toInt)).bind (fun y1=>
 if 0≤y0∧y0<(↑x7.length:Int) then
 if y0.toNat+1≤x7.length then
 if y0.toNat+1≤x7.length then
 if 0≤y1∧y1<(↑(x7.getD y0.toNat (D.int 0)).items.length:Int) then
 if y0.toNat+1≤x7.length then
 if y1.toNat+1≤(x7.getD y0.toNat (D.int 0)).items.length then
 if 0≤y0∧y0<(↑x8.length:Int) then
 if y0.toNat+1≤x8.length then
 if y0.toNat+1≤x8.length then
 if 0≤y1∧y1<(↑(x8.getD y0.toNat (D.int 0)).items.length:Int) then
 if y0.toNat+1≤x8.length then
 if y1.toNat+1≤(x8.getD y0.toNat (D.int 0)).items.length then
 (F x0 x1 x2 (IntKind.i64.wrap (x3+1)) x4 x5 x6 (x7.set y0.toNat (D.node ((x7.getD y0.toNat (D.int 0)).items.set y1.toNat (D.bool Bool.true)))) (x8.set y0.toNat (D.node ((x8.getD y0.toNat (D.int 0)).items.set y1.toNat (D.bool Bool.true))))).bind k
 else
 none
 else
 none
 else
 none
 else
 none
 else
 none
 else
 none
 else
 none
 else
 none
 else
 none
 else
 none
 else
 none
 else
 none))
 else
 none
 else
 k (x0,x6,x7,x8)
theorem c_Z55_bind {R:Type} (F:T_Z55) (x0:Int) (x1:List D) (x2 x3:Int) (x4 x5 x6 x7 x8:List D) (k:Int×List D×List D×List D→Option R):c_Z55 F x0 x1 x2 x3 x4 x5 x6 x7 x8 k=(c_Z55 F x0 x1 x2 x3 x4 x5 x6 x7 x8 some).bind k:=by
 unfold c_Z55
 repeat' first
  | exact JA
  | exact Jz
  | exact Jy
  | apply Jv
  | apply Jw
  | apply JB
  | (apply Jx;intro _)
  | intro _
def n_Z55:Nat→T_Z55
 | 0,_,_,_,_,_,_,_,_,_=>none
 | n+1,x0,x1,x2,x3,x4,x5,x6,x7,x8=>c_Z55 (n_Z55 n) x0 x1 x2 x3 x4 x5 x6 x7 x8 some
noncomputable def Z55 (x0:Int) (x1:List D) (x2 x3:Int) (x4 x5 x6 x7 x8:List D):Option (Int×List D×List D×List D):=ev (fun n=>n_Z55 n x0 x1 x2 x3 x4 x5 x6 x7 x8)
def m_Z55 (F:T_Z55):Jq:=⟨9,⟨(.undef::.ptr 1000 [0]::.undef::.int .i64::.ptr 1001 [0]::uu 38 (.rd (.struct [.int .i64,.int .i64])::.int .i64::.int .i64::uu 89 ([]))),[(1000,.obox (.agg [.rd (.struct [.int .i64,.int .i64]),.rd (.struct [.int .i64,.int .i64])])),(1001,.obox (.agg [.full 1002 [] (.int .i64),.full 1003 [] (.slice (.bool)),.full 1004 [] (.slice (.bool))])),(1002,.own (.int .i64)),(1003,.own (.slice (.bool))),(1004,.own (.slice (.bool)))]⟩,[(.exit 2,⟨(.undef::.undef::.undef::.int .i64::.ptr 1000 [0]::uu 130 ([])),[(1000,.obox (.agg [.full 1001 [] (.int .i64),.full 1002 [] (.slice (.bool)),.full 1003 [] (.slice (.bool))])),(1001,.own (.int .i64)),(1002,.own (.slice (.bool))),(1003,.own (.slice (.bool)))]⟩)],fun _ ds k=>dI (fun x0 ds=>dL (fun x1 ds=>dI (fun x2 ds=>dI (fun x3 ds=>dL (fun x4 ds=>dL (fun x5 ds=>dL (fun x6 ds=>dL (fun x7 ds=>dL (fun x8 ds=>dE ((F x0 x1 x2 x3 x4 x5 x6 x7 x8).bind (fun y=>k 0 [.I y.1,.L y.2.1,.L y.2.2.1,.L y.2.2.2])) ds) ds) ds) ds) ds) ds) ds) ds) ds) ds⟩
theorem q_Z55 (F:T_Z55) (x0:Int) (x1:List D) (x2 x3:Int) (x4 x5 x6 x7 x8:List D):J2 (Jr [e_Z43]) (Js [m_Z55 F]) A 63 (Jk (Jh Try.f63) 9) ((m_Z55 F).sh.mk' [.I x0,.L x1,.I x2,.I x3,.L x4,.L x5,.L x6,.L x7,.L x8]) (fun e σ'=>some (e,σ'))=c_Z55 F x0 x1 x2 x3 x4 x5 x6 x7 x8 (fun y=>some (.exit 2,SSt.mk' ⟨(.undef::.undef::.undef::.int .i64::.ptr 1000 [0]::uu 130 ([])),[(1000,.obox (.agg [.full 1001 [] (.int .i64),.full 1002 [] (.slice (.bool)),.full 1003 [] (.slice (.bool))])),(1001,.own (.int .i64)),(1002,.own (.slice (.bool))),(1003,.own (.slice (.bool)))]⟩ [.I y.1,.L y.2.1,.L y.2.2.1,.L y.2.2.2])):=by kernel_rfl
theorem m_Z55_ok:∀ n,(m_Z55 (n_Z55 n)).ok Try.prog (Jk (Jh Try.f63) 9):=by
 intro n
 induction n with
 | zero=>
  intro R ds k r h
  unfold m_Z55 at h
  obtain ⟨_,_,rfl,h⟩:=Jb h
  obtain ⟨_,_,rfl,h⟩:=Ja h
  obtain ⟨_,_,rfl,h⟩:=Jb h
  obtain ⟨_,_,rfl,h⟩:=Jb h
  obtain ⟨_,_,rfl,h⟩:=Ja h
  obtain ⟨_,_,rfl,h⟩:=Ja h
  obtain ⟨_,_,rfl,h⟩:=Ja h
  obtain ⟨_,_,rfl,h⟩:=Ja h
  obtain ⟨_,_,rfl,h⟩:=Ja h
  obtain ⟨rfl,hE⟩:=Je h
  obtain ⟨y,hy,hk⟩:=Jf hE
  cases hy
 | succ n ih=>
  intro R ds k r h
  unfold m_Z55 at h
  obtain ⟨_,_,rfl,h⟩:=Jb h
  obtain ⟨_,_,rfl,h⟩:=Ja h
  obtain ⟨_,_,rfl,h⟩:=Jb h
  obtain ⟨_,_,rfl,h⟩:=Jb h
  obtain ⟨_,_,rfl,h⟩:=Ja h
  obtain ⟨_,_,rfl,h⟩:=Ja h
  obtain ⟨_,_,rfl,h⟩:=Ja h
  obtain ⟨_,_,rfl,h⟩:=Ja h
  obtain ⟨_,_,rfl,h⟩:=Ja h
  obtain ⟨rfl,hE⟩:=Je h
  obtain ⟨y,hy,hk⟩:=Jf hE
  exact ⟨0,_,_,_,hk,rfl,JP px (fx:=⟨Try.func63,by kernel_rfl,by kernel_rfl⟩) (Jt e_Z43_ok Jn) (Jm ih Jo) (by kernel_rfl) ((q_Z55 ..).trans ((c_Z55_bind ..).trans (Jg hy)))⟩
noncomputable def e_Z55:Jq:=m_Z55 (Z55)
theorem e_Z55_ok:(e_Z55).ok Try.prog (Jk (Jh Try.f63) 9):=by
 intro R ds k r h
 unfold e_Z55 m_Z55 at h
 obtain ⟨_,_,rfl,h⟩:=Jb h
 obtain ⟨_,_,rfl,h⟩:=Ja h
 obtain ⟨_,_,rfl,h⟩:=Jb h
 obtain ⟨_,_,rfl,h⟩:=Jb h
 obtain ⟨_,_,rfl,h⟩:=Ja h
 obtain ⟨_,_,rfl,h⟩:=Ja h
 obtain ⟨_,_,rfl,h⟩:=Ja h
 obtain ⟨_,_,rfl,h⟩:=Ja h
 obtain ⟨_,_,rfl,h⟩:=Ja h
 obtain ⟨rfl,hE⟩:=Je h
 obtain ⟨y,hy,hk⟩:=Jf hE
 obtain ⟨n,hn⟩:=J5 hy
 exact m_Z55_ok n R _ k r ((Jg hn).trans hk)

/-!-/
abbrev T_Z56:=Int→Int→Int→Int→Int→Int→Int→Int→Int→List D→List D→List D→Option (Int×Int×Int×Int×Int×Int×List D×List D×List D)
def c_Z56 {R:Type} (F:T_Z56) (x0 x1 x2 x3 x4 x5 x6 x7 x8:Int) (x9 x10 x11:List D) (k:Int×Int×Int×Int×Int×Int×List D×List D×List D→Option R):Option R:=
 bif decide (x8<x7) then
 if 0≤x2∧x2<(↑x11.length:Int) then
 if x2.toNat+1≤x11.length then
 if 0≤x2∧x2<(↑x11.length:Int) then
 if x2.toNat+1≤x11.length then
 if x2.toNat+1≤x11.length then
 if 0≤x8∧x8<(↑(x11.getD x2.toNat (D.int 0)).items.length:Int) then
 if x2.toNat+1≤x11.length then
 if x8.toNat+1≤(x11.getD x2.toNat (D.int 0)).items.length then
 bif ((x11.getD x2.toNat (D.int 0)).items.getD x8.toNat (D.int 0)).toBool then
 if x2.toNat+1≤x11.length then
 if 0≤x8∧x8<(↑(x11.getD x2.toNat (D.int 0)).items.length:Int) then
 if x2.toNat+1≤x11.length then
 if x8.toNat+1≤(x11.getD x2.toNat (D.int 0)).items.length then
 (F x0 x1 x2 x3 x4 x5 x6 x7 (IntKind.i64.wrap (x8+1)) x9 x10 (x11.set x2.toNat (D.node ((x11.getD x2.toNat (D.int 0)).items.set x8.toNat (D.bool Bool.true))))).bind k
 else
 none
 else
 none
 else
 none
 else
 none
 else
 if 0≤x2∧x2<(↑x11.length:Int) then
 if x2.toNat+1≤x11.length then
 if x2.toNat+1≤x11.length then
 if 0≤x1∧x1<(↑(x11.getD x2.toNat (D.int 0)).items.length:Int) then
 if x2.toNat+1≤x11.length then
 if x1.toNat+1≤(x11.getD x2.toNat (D.int 0)).items.length then
 bif ((x11.getD x2.toNat (D.int 0)).items.getD x1.toNat (D.int 0)).toBool then
 if 0≤x1∧x1<(↑x11.length:Int) then
 if x1.toNat+1≤x11.length then
 if x1.toNat+1≤x11.length then
 if 0≤x8∧x8<(↑(x11.getD x1.toNat (D.int 0)).items.length:Int) then
 if x1.toNat+1≤x11.length then
 if x8.toNat+1≤(x11.getD x1.toNat (D.int 0)).items.length then
 if x2.toNat+1≤x11.length then
 if 0≤x8∧x8<(↑(x11.getD x2.toNat (D.int 0)).items.length:Int) then
 if x2.toNat+1≤x11.length then
 if x8.toNat+1≤(x11.getD x2.toNat (D.int 0)).items.length then
 (F x0 x1 x2 x3 x4 x5 x6 x7 (IntKind.i64.wrap (x8+1)) x9 x10 (x11.set x2.toNat (D.node ((x11.getD x2.toNat (D.int 0)).items.set x8.toNat (D.bool ((x11.getD x1.toNat (D.int 0)).items.getD x8.toNat (D.int 0)).toBool))))).bind k
 else
 none
 else
 none
 else
 none
 else
 none
 else
 none
 else
 none
 else
 none
 else
 none
 else
 none
 else
 none
 else
 if x2.toNat+1≤x11.length then
 if 0≤x8∧x8<(↑(x11.getD x2.toNat (D.int 0)).items.length:Int) then
 if x2.toNat+1≤x11.length then
 if x8.toNat+1≤(x11.getD x2.toNat (D.int 0)).items.length then
 (F x0 x1 x2 x3 x4 x5 x6 x7 (IntKind.i64.wrap (x8+1)) x9 x10 (x11.set x2.toNat (D.node ((x11.getD x2.toNat (D.int 0)).items.set x8.toNat (D.bool Bool.false))))).bind k
 else
 none
 else
 none
 else
 none
 else
 none
 else
 none
 else
 none
 else
 none
 else
 none
 else
 none
 else
 none
 else
 none
 else
 none
 else
 none
 else
 none
 else
 none
 else
 none
 else
 none
 else
 none
 else
 k (x0,x1,x3,x4,x5,x6,x9,x10,x11)
theorem c_Z56_bind {R:Type} (F:T_Z56) (x0 x1 x2 x3 x4 x5 x6 x7 x8:Int) (x9 x10 x11:List D) (k:Int×Int×Int×Int×Int×Int×List D×List D×List D→Option R):c_Z56 F x0 x1 x2 x3 x4 x5 x6 x7 x8 x9 x10 x11 k=(c_Z56 F x0 x1 x2 x3 x4 x5 x6 x7 x8 x9 x10 x11 some).bind k:=by
 unfold c_Z56
 repeat' first
  | exact JA
  | exact Jz
  | exact Jy
  | apply Jv
  | apply Jw
  | apply JB
  | (apply Jx;intro _)
  | intro _
def n_Z56:Nat→T_Z56
 | 0,_,_,_,_,_,_,_,_,_,_,_,_=>none
 | n+1,x0,x1,x2,x3,x4,x5,x6,x7,x8,x9,x10,x11=>c_Z56 (n_Z56 n) x0 x1 x2 x3 x4 x5 x6 x7 x8 x9 x10 x11 some
noncomputable def Z56 (x0 x1 x2 x3 x4 x5 x6 x7 x8:Int) (x9 x10 x11:List D):Option (Int×Int×Int×Int×Int×Int×List D×List D×List D):=ev (fun n=>n_Z56 n x0 x1 x2 x3 x4 x5 x6 x7 x8 x9 x10 x11)
def m_Z56 (F:T_Z56):Jq:=⟨22,⟨(.undef::.undef::.undef::.int .i64::.ptr 1000 [0]::uu 6 (.int .i64::.int .i64::uu 63 (.int .i64::.int .i64::.undef::.undef::.int .i64::.int .i64::.undef::.undef::.int .i64::.int .i64::uu 49 ([])))),[(1000,.obox (.agg [.full 1001 [] (.int .i64),.full 1002 [] (.slice (.bool)),.full 1003 [] (.slice (.bool))])),(1001,.own (.int .i64)),(1002,.own (.slice (.bool))),(1003,.own (.slice (.bool)))]⟩,[(.exit 8,⟨(.undef::.undef::.undef::.int .i64::.ptr 1000 [0]::uu 6 (.int .i64::uu 64 (.int .i64::.int .i64::.undef::.undef::.int .i64::.int .i64::uu 53 ([])))),[(1000,.obox (.agg [.full 1001 [] (.int .i64),.full 1002 [] (.slice (.bool)),.full 1003 [] (.slice (.bool))])),(1001,.own (.int .i64)),(1002,.own (.slice (.bool))),(1003,.own (.slice (.bool)))]⟩)],fun _ ds k=>dI (fun x0 ds=>dI (fun x1 ds=>dI (fun x2 ds=>dI (fun x3 ds=>dI (fun x4 ds=>dI (fun x5 ds=>dI (fun x6 ds=>dI (fun x7 ds=>dI (fun x8 ds=>dL (fun x9 ds=>dL (fun x10 ds=>dL (fun x11 ds=>dE ((F x0 x1 x2 x3 x4 x5 x6 x7 x8 x9 x10 x11).bind (fun y=>k 0 [.I y.1,.I y.2.1,.I y.2.2.1,.I y.2.2.2.1,.I y.2.2.2.2.1,.I y.2.2.2.2.2.1,.L y.2.2.2.2.2.2.1,.L y.2.2.2.2.2.2.2.1,.L y.2.2.2.2.2.2.2.2])) ds) ds) ds) ds) ds) ds) ds) ds) ds) ds) ds) ds) ds⟩
theorem q_Z56 (F:T_Z56) (x0 x1 x2 x3 x4 x5 x6 x7 x8:Int) (x9 x10 x11:List D):J2 (Jr []) (Js [m_Z56 F]) A 63 (Jk (Jh Try.f63) 22) ((m_Z56 F).sh.mk' [.I x0,.I x1,.I x2,.I x3,.I x4,.I x5,.I x6,.I x7,.I x8,.L x9,.L x10,.L x11]) (fun e σ'=>some (e,σ'))=c_Z56 F x0 x1 x2 x3 x4 x5 x6 x7 x8 x9 x10 x11 (fun y=>some (.exit 8,SSt.mk' ⟨(.undef::.undef::.undef::.int .i64::.ptr 1000 [0]::uu 6 (.int .i64::uu 64 (.int .i64::.int .i64::.undef::.undef::.int .i64::.int .i64::uu 53 ([])))),[(1000,.obox (.agg [.full 1001 [] (.int .i64),.full 1002 [] (.slice (.bool)),.full 1003 [] (.slice (.bool))])),(1001,.own (.int .i64)),(1002,.own (.slice (.bool))),(1003,.own (.slice (.bool)))]⟩ [.I y.1,.I y.2.1,.I y.2.2.1,.I y.2.2.2.1,.I y.2.2.2.2.1,.I y.2.2.2.2.2.1,.L y.2.2.2.2.2.2.1,.L y.2.2.2.2.2.2.2.1,.L y.2.2.2.2.2.2.2.2])):=by kernel_rfl
theorem m_Z56_ok:∀ n,(m_Z56 (n_Z56 n)).ok Try.prog (Jk (Jh Try.f63) 22):=by
 intro n
 induction n with
 | zero=>
  intro R ds k r h
  unfold m_Z56 at h
  obtain ⟨_,_,rfl,h⟩:=Jb h
  obtain ⟨_,_,rfl,h⟩:=Jb h
  obtain ⟨_,_,rfl,h⟩:=Jb h
  obtain ⟨_,_,rfl,h⟩:=Jb h
  obtain ⟨_,_,rfl,h⟩:=Jb h
  obtain ⟨_,_,rfl,h⟩:=Jb h
  obtain ⟨_,_,rfl,h⟩:=Jb h
  obtain ⟨_,_,rfl,h⟩:=Jb h
  obtain ⟨_,_,rfl,h⟩:=Jb h
  obtain ⟨_,_,rfl,h⟩:=Ja h
  obtain ⟨_,_,rfl,h⟩:=Ja h
  obtain ⟨_,_,rfl,h⟩:=Ja h
  obtain ⟨rfl,hE⟩:=Je h
  obtain ⟨y,hy,hk⟩:=Jf hE
  cases hy
 | succ n ih=>
  intro R ds k r h
  unfold m_Z56 at h
  obtain ⟨_,_,rfl,h⟩:=Jb h
  obtain ⟨_,_,rfl,h⟩:=Jb h
  obtain ⟨_,_,rfl,h⟩:=Jb h
  obtain ⟨_,_,rfl,h⟩:=Jb h
  obtain ⟨_,_,rfl,h⟩:=Jb h
  obtain ⟨_,_,rfl,h⟩:=Jb h
  obtain ⟨_,_,rfl,h⟩:=Jb h
  obtain ⟨_,_,rfl,h⟩:=Jb h
  obtain ⟨_,_,rfl,h⟩:=Jb h
  obtain ⟨_,_,rfl,h⟩:=Ja h
  obtain ⟨_,_,rfl,h⟩:=Ja h
  obtain ⟨_,_,rfl,h⟩:=Ja h
  obtain ⟨rfl,hE⟩:=Je h
  obtain ⟨y,hy,hk⟩:=Jf hE
  exact ⟨0,_,_,_,hk,rfl,JP px (fx:=⟨Try.func63,by kernel_rfl,by kernel_rfl⟩) Jn (Jm ih Jo) (by kernel_rfl) ((q_Z56 ..).trans ((c_Z56_bind ..).trans (Jg hy)))⟩
noncomputable def e_Z56:Jq:=m_Z56 (Z56)
theorem e_Z56_ok:(e_Z56).ok Try.prog (Jk (Jh Try.f63) 22):=by
 intro R ds k r h
 unfold e_Z56 m_Z56 at h
 obtain ⟨_,_,rfl,h⟩:=Jb h
 obtain ⟨_,_,rfl,h⟩:=Jb h
 obtain ⟨_,_,rfl,h⟩:=Jb h
 obtain ⟨_,_,rfl,h⟩:=Jb h
 obtain ⟨_,_,rfl,h⟩:=Jb h
 obtain ⟨_,_,rfl,h⟩:=Jb h
 obtain ⟨_,_,rfl,h⟩:=Jb h
 obtain ⟨_,_,rfl,h⟩:=Jb h
 obtain ⟨_,_,rfl,h⟩:=Jb h
 obtain ⟨_,_,rfl,h⟩:=Ja h
 obtain ⟨_,_,rfl,h⟩:=Ja h
 obtain ⟨_,_,rfl,h⟩:=Ja h
 obtain ⟨rfl,hE⟩:=Je h
 obtain ⟨y,hy,hk⟩:=Jf hE
 obtain ⟨n,hn⟩:=J5 hy
 exact m_Z56_ok n R _ k r ((Jg hn).trans hk)

/-!-/
abbrev T_Z57:=Int→Int→Int→Int→Int→Int→List D→List D→List D→Option (Int×Int×Int×List D×List D×List D)
def c_Z57 {R:Type} (F:T_Z57) (x0 x1 x2 x3 x4 x5:Int) (x6 x7 x8:List D) (k:Int×Int×Int×List D×List D×List D→Option R):Option R:=
 bif decide (x5<x4) then
 (Z56 x0 x1 x5 x2 x3 x4 x5 x0 (0:Int) x6 x7 x8).bind (fun y0=>
 (F y0.fst y0.snd.fst y0.snd.snd.fst y0.snd.snd.snd.fst y0.snd.snd.snd.snd.fst (IntKind.i64.wrap (y0.snd.snd.snd.snd.snd.fst+1)) y0.snd.snd.snd.snd.snd.snd.fst y0.snd.snd.snd.snd.snd.snd.snd.fst y0.snd.snd.snd.snd.snd.snd.snd.snd).bind k)
 else
 k (x0,x2,x3,x6,x7,x8)
theorem c_Z57_bind {R:Type} (F:T_Z57) (x0 x1 x2 x3 x4 x5:Int) (x6 x7 x8:List D) (k:Int×Int×Int×List D×List D×List D→Option R):c_Z57 F x0 x1 x2 x3 x4 x5 x6 x7 x8 k=(c_Z57 F x0 x1 x2 x3 x4 x5 x6 x7 x8 some).bind k:=by
 unfold c_Z57
 repeat' first
  | exact JA
  | exact Jz
  | exact Jy
  | apply Jv
  | apply Jw
  | apply JB
  | (apply Jx;intro _)
  | intro _
def n_Z57:Nat→T_Z57
 | 0,_,_,_,_,_,_,_,_,_=>none
 | n+1,x0,x1,x2,x3,x4,x5,x6,x7,x8=>c_Z57 (n_Z57 n) x0 x1 x2 x3 x4 x5 x6 x7 x8 some
noncomputable def Z57 (x0 x1 x2 x3 x4 x5:Int) (x6 x7 x8:List D):Option (Int×Int×Int×List D×List D×List D):=ev (fun n=>n_Z57 n x0 x1 x2 x3 x4 x5 x6 x7 x8)
def m_Z57 (F:T_Z57):Jq:=⟨19,⟨(.undef::.undef::.undef::.int .i64::.ptr 1000 [0]::uu 6 (.int .i64::uu 64 (.int .i64::.int .i64::.undef::.undef::.int .i64::.int .i64::uu 53 ([])))),[(1000,.obox (.agg [.full 1001 [] (.int .i64),.full 1002 [] (.slice (.bool)),.full 1003 [] (.slice (.bool))])),(1001,.own (.int .i64)),(1002,.own (.slice (.bool))),(1003,.own (.slice (.bool)))]⟩,[(.exit 6,⟨(.undef::.undef::.undef::.int .i64::.ptr 1000 [0]::uu 71 (.int .i64::.int .i64::uu 57 ([]))),[(1000,.obox (.agg [.full 1001 [] (.int .i64),.full 1002 [] (.slice (.bool)),.full 1003 [] (.slice (.bool))])),(1001,.own (.int .i64)),(1002,.own (.slice (.bool))),(1003,.own (.slice (.bool)))]⟩)],fun _ ds k=>dI (fun x0 ds=>dI (fun x1 ds=>dI (fun x2 ds=>dI (fun x3 ds=>dI (fun x4 ds=>dI (fun x5 ds=>dL (fun x6 ds=>dL (fun x7 ds=>dL (fun x8 ds=>dE ((F x0 x1 x2 x3 x4 x5 x6 x7 x8).bind (fun y=>k 0 [.I y.1,.I y.2.1,.I y.2.2.1,.L y.2.2.2.1,.L y.2.2.2.2.1,.L y.2.2.2.2.2])) ds) ds) ds) ds) ds) ds) ds) ds) ds) ds⟩
theorem q_Z57 (F:T_Z57) (x0 x1 x2 x3 x4 x5:Int) (x6 x7 x8:List D):J2 (Jr []) (Js [m_Z57 F,e_Z56]) A 63 (Jk (Jh Try.f63) 19) ((m_Z57 F).sh.mk' [.I x0,.I x1,.I x2,.I x3,.I x4,.I x5,.L x6,.L x7,.L x8]) (fun e σ'=>some (e,σ'))=c_Z57 F x0 x1 x2 x3 x4 x5 x6 x7 x8 (fun y=>some (.exit 6,SSt.mk' ⟨(.undef::.undef::.undef::.int .i64::.ptr 1000 [0]::uu 71 (.int .i64::.int .i64::uu 57 ([]))),[(1000,.obox (.agg [.full 1001 [] (.int .i64),.full 1002 [] (.slice (.bool)),.full 1003 [] (.slice (.bool))])),(1001,.own (.int .i64)),(1002,.own (.slice (.bool))),(1003,.own (.slice (.bool)))]⟩ [.I y.1,.I y.2.1,.I y.2.2.1,.L y.2.2.2.1,.L y.2.2.2.2.1,.L y.2.2.2.2.2])):=by kernel_rfl
theorem m_Z57_ok:∀ n,(m_Z57 (n_Z57 n)).ok Try.prog (Jk (Jh Try.f63) 19):=by
 intro n
 induction n with
 | zero=>
  intro R ds k r h
  unfold m_Z57 at h
  obtain ⟨_,_,rfl,h⟩:=Jb h
  obtain ⟨_,_,rfl,h⟩:=Jb h
  obtain ⟨_,_,rfl,h⟩:=Jb h
  obtain ⟨_,_,rfl,h⟩:=Jb h
  obtain ⟨_,_,rfl,h⟩:=Jb h
  obtain ⟨_,_,rfl,h⟩:=Jb h
  obtain ⟨_,_,rfl,h⟩:=Ja h
  obtain ⟨_,_,rfl,h⟩:=Ja h
  obtain ⟨_,_,rfl,h⟩:=Ja h
  obtain ⟨rfl,hE⟩:=Je h
  obtain ⟨y,hy,hk⟩:=Jf hE
  cases hy
 | succ n ih=>
  intro R ds k r h
  unfold m_Z57 at h
  obtain ⟨_,_,rfl,h⟩:=Jb h
  obtain ⟨_,_,rfl,h⟩:=Jb h
  obtain ⟨_,_,rfl,h⟩:=Jb h
  obtain ⟨_,_,rfl,h⟩:=Jb h
  obtain ⟨_,_,rfl,h⟩:=Jb h
  obtain ⟨_,_,rfl,h⟩:=Jb h
  obtain ⟨_,_,rfl,h⟩:=Ja h
  obtain ⟨_,_,rfl,h⟩:=Ja h
  obtain ⟨_,_,rfl,h⟩:=Ja h
  obtain ⟨rfl,hE⟩:=Je h
  obtain ⟨y,hy,hk⟩:=Jf hE
  exact ⟨0,_,_,_,hk,rfl,JP px (fx:=⟨Try.func63,by kernel_rfl,by kernel_rfl⟩) Jn (Jm ih (Jm e_Z56_ok Jo)) (by kernel_rfl) ((q_Z57 ..).trans ((c_Z57_bind ..).trans (Jg hy)))⟩
noncomputable def e_Z57:Jq:=m_Z57 (Z57)
theorem e_Z57_ok:(e_Z57).ok Try.prog (Jk (Jh Try.f63) 19):=by
 intro R ds k r h
 unfold e_Z57 m_Z57 at h
 obtain ⟨_,_,rfl,h⟩:=Jb h
 obtain ⟨_,_,rfl,h⟩:=Jb h
 obtain ⟨_,_,rfl,h⟩:=Jb h
 obtain ⟨_,_,rfl,h⟩:=Jb h
 obtain ⟨_,_,rfl,h⟩:=Jb h
 obtain ⟨_,_,rfl,h⟩:=Jb h
 obtain ⟨_,_,rfl,h⟩:=Ja h
 obtain ⟨_,_,rfl,h⟩:=Ja h
 obtain ⟨_,_,rfl,h⟩:=Ja h
 obtain ⟨rfl,hE⟩:=Je h
 obtain ⟨y,hy,hk⟩:=Jf hE
 obtain ⟨n,hn⟩:=J5 hy
 exact m_Z57_ok n R _ k r ((Jg hn).trans hk)

/-!-/
abbrev T_Z58:=Int→Int→Int→List D→List D→List D→Option (List D×List D×List D)
def c_Z58 {R:Type} (F:T_Z58) (x0 x1 x2:Int) (x3 x4 x5:List D) (k:List D×List D×List D→Option R):Option R:=
 bif decide (x2<x1) then
 (Z57 x0 x2 x1 x2 x0 (0:Int) x3 x4 x5).bind (fun y0=>
 (F y0.fst y0.snd.fst (IntKind.i64.wrap (y0.snd.snd.fst+1)) y0.snd.snd.snd.fst y0.snd.snd.snd.snd.fst y0.snd.snd.snd.snd.snd).bind k)
 else
 k (x3,x4,x5)
theorem c_Z58_bind {R:Type} (F:T_Z58) (x0 x1 x2:Int) (x3 x4 x5:List D) (k:List D×List D×List D→Option R):c_Z58 F x0 x1 x2 x3 x4 x5 k=(c_Z58 F x0 x1 x2 x3 x4 x5 some).bind k:=by
 unfold c_Z58
 repeat' first
  | exact JA
  | exact Jz
  | exact Jy
  | apply Jv
  | apply Jw
  | apply JB
  | (apply Jx;intro _)
  | intro _
def n_Z58:Nat→T_Z58
 | 0,_,_,_,_,_,_=>none
 | n+1,x0,x1,x2,x3,x4,x5=>c_Z58 (n_Z58 n) x0 x1 x2 x3 x4 x5 some
noncomputable def Z58 (x0 x1 x2:Int) (x3 x4 x5:List D):Option (List D×List D×List D):=ev (fun n=>n_Z58 n x0 x1 x2 x3 x4 x5)
def m_Z58 (F:T_Z58):Jq:=⟨16,⟨(.undef::.undef::.undef::.int .i64::.ptr 1000 [0]::uu 71 (.int .i64::.int .i64::uu 57 ([]))),[(1000,.obox (.agg [.full 1001 [] (.int .i64),.full 1002 [] (.slice (.bool)),.full 1003 [] (.slice (.bool))])),(1001,.own (.int .i64)),(1002,.own (.slice (.bool))),(1003,.own (.slice (.bool)))]⟩,[(.exit 4,⟨(uu 4 (.ptr 1000 [0]::uu 130 ([]))),[(1000,.obox (.agg [.full 1001 [] (.int .i64),.full 1002 [] (.slice (.bool)),.full 1003 [] (.slice (.bool))])),(1001,.own (.int .i64)),(1002,.own (.slice (.bool))),(1003,.own (.slice (.bool)))]⟩)],fun _ ds k=>dI (fun x0 ds=>dI (fun x1 ds=>dI (fun x2 ds=>dL (fun x3 ds=>dL (fun x4 ds=>dL (fun x5 ds=>dE ((F x0 x1 x2 x3 x4 x5).bind (fun y=>k 0 [.L y.1,.L y.2.1,.L y.2.2])) ds) ds) ds) ds) ds) ds) ds⟩
theorem q_Z58 (F:T_Z58) (x0 x1 x2:Int) (x3 x4 x5:List D):J2 (Jr []) (Js [m_Z58 F,e_Z57]) A 63 (Jk (Jh Try.f63) 16) ((m_Z58 F).sh.mk' [.I x0,.I x1,.I x2,.L x3,.L x4,.L x5]) (fun e σ'=>some (e,σ'))=c_Z58 F x0 x1 x2 x3 x4 x5 (fun y=>some (.exit 4,SSt.mk' ⟨(uu 4 (.ptr 1000 [0]::uu 130 ([]))),[(1000,.obox (.agg [.full 1001 [] (.int .i64),.full 1002 [] (.slice (.bool)),.full 1003 [] (.slice (.bool))])),(1001,.own (.int .i64)),(1002,.own (.slice (.bool))),(1003,.own (.slice (.bool)))]⟩ [.L y.1,.L y.2.1,.L y.2.2])):=by kernel_rfl
theorem m_Z58_ok:∀ n,(m_Z58 (n_Z58 n)).ok Try.prog (Jk (Jh Try.f63) 16):=by
 intro n
 induction n with
 | zero=>
  intro R ds k r h
  unfold m_Z58 at h
  obtain ⟨_,_,rfl,h⟩:=Jb h
  obtain ⟨_,_,rfl,h⟩:=Jb h
  obtain ⟨_,_,rfl,h⟩:=Jb h
  obtain ⟨_,_,rfl,h⟩:=Ja h
  obtain ⟨_,_,rfl,h⟩:=Ja h
  obtain ⟨_,_,rfl,h⟩:=Ja h
  obtain ⟨rfl,hE⟩:=Je h
  obtain ⟨y,hy,hk⟩:=Jf hE
  cases hy
 | succ n ih=>
  intro R ds k r h
  unfold m_Z58 at h
  obtain ⟨_,_,rfl,h⟩:=Jb h
  obtain ⟨_,_,rfl,h⟩:=Jb h
  obtain ⟨_,_,rfl,h⟩:=Jb h
  obtain ⟨_,_,rfl,h⟩:=Ja h
  obtain ⟨_,_,rfl,h⟩:=Ja h
  obtain ⟨_,_,rfl,h⟩:=Ja h
  obtain ⟨rfl,hE⟩:=Je h
  obtain ⟨y,hy,hk⟩:=Jf hE
  exact ⟨0,_,_,_,hk,rfl,JP px (fx:=⟨Try.func63,by kernel_rfl,by kernel_rfl⟩) Jn (Jm ih (Jm e_Z57_ok Jo)) (by kernel_rfl) ((q_Z58 ..).trans ((c_Z58_bind ..).trans (Jg hy)))⟩
noncomputable def e_Z58:Jq:=m_Z58 (Z58)
theorem e_Z58_ok:(e_Z58).ok Try.prog (Jk (Jh Try.f63) 16):=by
 intro R ds k r h
 unfold e_Z58 m_Z58 at h
 obtain ⟨_,_,rfl,h⟩:=Jb h
 obtain ⟨_,_,rfl,h⟩:=Jb h
 obtain ⟨_,_,rfl,h⟩:=Jb h
 obtain ⟨_,_,rfl,h⟩:=Ja h
 obtain ⟨_,_,rfl,h⟩:=Ja h
 obtain ⟨_,_,rfl,h⟩:=Ja h
 obtain ⟨rfl,hE⟩:=Je h
 obtain ⟨y,hy,hk⟩:=Jf hE
 obtain ⟨n,hn⟩:=J5 hy
 exact m_Z58_ok n R _ k r ((Jg hn).trans hk)

/-!-/
abbrev T_Z59:=Int→List D→Int→Int→List D→List D→List D→List D→List D→Option (Int×List D×List D×List D)
def c_Z59 {R:Type} (F:T_Z59) (x0:Int) (x1:List D) (x2 x3:Int) (x4 x5 x6 x7 x8:List D) (k:Int×List D×List D×List D→Option R):Option R:=
 bif decide (x3<x2) then
 if 0≤x3∧x3<(↑x1.length:Int) then
 (Z43 x4 x5 (((x1.getD x3.toNat (D.int 0)).fld (0:Nat)).toInt)).bind (fun y0=>
 (Z43 x4 x5 (((x1.getD x3.toNat (D.int 0)).fld (1:Nat)).toInt)).bind (fun y1=>
 if 0≤y0∧y0<(↑x7.length:Int) then
 if y0.toNat+1≤x7.length then
 if y0.toNat+1≤x7.length then
 if 0≤y1∧y1<(↑(x7.getD y0.toNat (D.int 0)).items.length:Int) then
 if y0.toNat+1≤x7.length then
 if y1.toNat+1≤(x7.getD y0.toNat (D.int 0)).items.length then
 if 0≤y0∧y0<(↑x8.length:Int) then
 if y0.toNat+1≤x8.length then
 if y0.toNat+1≤x8.length then
 if 0≤y1∧y1<(↑(x8.getD y0.toNat (D.int 0)).items.length:Int) then
 if y0.toNat+1≤x8.length then
 if y1.toNat+1≤(x8.getD y0.toNat (D.int 0)).items.length then
 (F x0 x1 x2 (IntKind.i64.wrap (x3+1)) x4 x5 x6 (x7.set y0.toNat (D.node ((x7.getD y0.toNat (D.int 0)).items.set y1.toNat (D.bool Bool.true)))) (x8.set y0.toNat (D.node ((x8.getD y0.toNat (D.int 0)).items.set y1.toNat (D.bool Bool.true))))).bind k
 else
 none
 else
 none
 else
 none
 else
 none
 else
 none
 else
 none
 else
 none
 else
 none
 else
 none
 else
 none
 else
 none
 else
 none))
 else
 none
 else
 k (x0,x6,x7,x8)
theorem c_Z59_bind {R:Type} (F:T_Z59) (x0:Int) (x1:List D) (x2 x3:Int) (x4 x5 x6 x7 x8:List D) (k:Int×List D×List D×List D→Option R):c_Z59 F x0 x1 x2 x3 x4 x5 x6 x7 x8 k=(c_Z59 F x0 x1 x2 x3 x4 x5 x6 x7 x8 some).bind k:=by
 unfold c_Z59
 repeat' first
  | exact JA
  | exact Jz
  | exact Jy
  | apply Jv
  | apply Jw
  | apply JB
  | (apply Jx;intro _)
  | intro _
def n_Z59:Nat→T_Z59
 | 0,_,_,_,_,_,_,_,_,_=>none
 | n+1,x0,x1,x2,x3,x4,x5,x6,x7,x8=>c_Z59 (n_Z59 n) x0 x1 x2 x3 x4 x5 x6 x7 x8 some
noncomputable def Z59 (x0:Int) (x1:List D) (x2 x3:Int) (x4 x5 x6 x7 x8:List D):Option (Int×List D×List D×List D):=ev (fun n=>n_Z59 n x0 x1 x2 x3 x4 x5 x6 x7 x8)
def m_Z59 (F:T_Z59):Jq:=⟨9,⟨(.undef::.ptr 1000 [0]::.undef::.int .i64::.ptr 1001 [0]::uu 38 (.rd (.struct [.int .i64,.int .i64])::.int .i64::.int .i64::uu 89 ([]))),[(1000,.obox (.agg [.rd (.struct [.int .i64,.int .i64]),.rd (.struct [.int .i64,.int .i64])])),(1001,.obox (.agg [.own (.int .i64),.full 1002 [] (.slice (.bool)),.full 1003 [] (.slice (.bool))])),(1002,.own (.slice (.bool))),(1003,.own (.slice (.bool)))]⟩,[(.exit 2,⟨(.undef::.undef::.undef::.int .i64::.ptr 1000 [0]::uu 130 ([])),[(1000,.obox (.agg [.own (.int .i64),.full 1001 [] (.slice (.bool)),.full 1002 [] (.slice (.bool))])),(1001,.own (.slice (.bool))),(1002,.own (.slice (.bool)))]⟩)],fun _ ds k=>dI (fun x0 ds=>dL (fun x1 ds=>dI (fun x2 ds=>dI (fun x3 ds=>dL (fun x4 ds=>dL (fun x5 ds=>dL (fun x6 ds=>dL (fun x7 ds=>dL (fun x8 ds=>dE ((F x0 x1 x2 x3 x4 x5 x6 x7 x8).bind (fun y=>k 0 [.I y.1,.L y.2.1,.L y.2.2.1,.L y.2.2.2])) ds) ds) ds) ds) ds) ds) ds) ds) ds) ds⟩
theorem q_Z59 (F:T_Z59) (x0:Int) (x1:List D) (x2 x3:Int) (x4 x5 x6 x7 x8:List D):J2 (Jr [e_Z43]) (Js [m_Z59 F]) A 63 (Jk (Jh Try.f63) 9) ((m_Z59 F).sh.mk' [.I x0,.L x1,.I x2,.I x3,.L x4,.L x5,.L x6,.L x7,.L x8]) (fun e σ'=>some (e,σ'))=c_Z59 F x0 x1 x2 x3 x4 x5 x6 x7 x8 (fun y=>some (.exit 2,SSt.mk' ⟨(.undef::.undef::.undef::.int .i64::.ptr 1000 [0]::uu 130 ([])),[(1000,.obox (.agg [.own (.int .i64),.full 1001 [] (.slice (.bool)),.full 1002 [] (.slice (.bool))])),(1001,.own (.slice (.bool))),(1002,.own (.slice (.bool)))]⟩ [.I y.1,.L y.2.1,.L y.2.2.1,.L y.2.2.2])):=by kernel_rfl
theorem m_Z59_ok:∀ n,(m_Z59 (n_Z59 n)).ok Try.prog (Jk (Jh Try.f63) 9):=by
 intro n
 induction n with
 | zero=>
  intro R ds k r h
  unfold m_Z59 at h
  obtain ⟨_,_,rfl,h⟩:=Jb h
  obtain ⟨_,_,rfl,h⟩:=Ja h
  obtain ⟨_,_,rfl,h⟩:=Jb h
  obtain ⟨_,_,rfl,h⟩:=Jb h
  obtain ⟨_,_,rfl,h⟩:=Ja h
  obtain ⟨_,_,rfl,h⟩:=Ja h
  obtain ⟨_,_,rfl,h⟩:=Ja h
  obtain ⟨_,_,rfl,h⟩:=Ja h
  obtain ⟨_,_,rfl,h⟩:=Ja h
  obtain ⟨rfl,hE⟩:=Je h
  obtain ⟨y,hy,hk⟩:=Jf hE
  cases hy
 | succ n ih=>
  intro R ds k r h
  unfold m_Z59 at h
  obtain ⟨_,_,rfl,h⟩:=Jb h
  obtain ⟨_,_,rfl,h⟩:=Ja h
  obtain ⟨_,_,rfl,h⟩:=Jb h
  obtain ⟨_,_,rfl,h⟩:=Jb h
  obtain ⟨_,_,rfl,h⟩:=Ja h
  obtain ⟨_,_,rfl,h⟩:=Ja h
  obtain ⟨_,_,rfl,h⟩:=Ja h
  obtain ⟨_,_,rfl,h⟩:=Ja h
  obtain ⟨_,_,rfl,h⟩:=Ja h
  obtain ⟨rfl,hE⟩:=Je h
  obtain ⟨y,hy,hk⟩:=Jf hE
  exact ⟨0,_,_,_,hk,rfl,JP px (fx:=⟨Try.func63,by kernel_rfl,by kernel_rfl⟩) (Jt e_Z43_ok Jn) (Jm ih Jo) (by kernel_rfl) ((q_Z59 ..).trans ((c_Z59_bind ..).trans (Jg hy)))⟩
noncomputable def e_Z59:Jq:=m_Z59 (Z59)
theorem e_Z59_ok:(e_Z59).ok Try.prog (Jk (Jh Try.f63) 9):=by
 intro R ds k r h
 unfold e_Z59 m_Z59 at h
 obtain ⟨_,_,rfl,h⟩:=Jb h
 obtain ⟨_,_,rfl,h⟩:=Ja h
 obtain ⟨_,_,rfl,h⟩:=Jb h
 obtain ⟨_,_,rfl,h⟩:=Jb h
 obtain ⟨_,_,rfl,h⟩:=Ja h
 obtain ⟨_,_,rfl,h⟩:=Ja h
 obtain ⟨_,_,rfl,h⟩:=Ja h
 obtain ⟨_,_,rfl,h⟩:=Ja h
 obtain ⟨_,_,rfl,h⟩:=Ja h
 obtain ⟨rfl,hE⟩:=Je h
 obtain ⟨y,hy,hk⟩:=Jf hE
 obtain ⟨n,hn⟩:=J5 hy
 exact m_Z59_ok n R _ k r ((Jg hn).trans hk)

/-!-/
abbrev T_Z60:=Int→Int→Int→Int→Int→Int→Int→Int→Int→List D→List D→List D→Option (Int×Int×Int×Int×Int×Int×List D×List D×List D)
def c_Z60 {R:Type} (F:T_Z60) (x0 x1 x2 x3 x4 x5 x6 x7 x8:Int) (x9 x10 x11:List D) (k:Int×Int×Int×Int×Int×Int×List D×List D×List D→Option R):Option R:=
 bif decide (x8<x7) then
 if 0≤x2∧x2<(↑x11.length:Int) then
 if x2.toNat+1≤x11.length then
 if 0≤x2∧x2<(↑x11.length:Int) then
 if x2.toNat+1≤x11.length then
 if x2.toNat+1≤x11.length then
 if 0≤x8∧x8<(↑(x11.getD x2.toNat (D.int 0)).items.length:Int) then
 if x2.toNat+1≤x11.length then
 if x8.toNat+1≤(x11.getD x2.toNat (D.int 0)).items.length then
 bif ((x11.getD x2.toNat (D.int 0)).items.getD x8.toNat (D.int 0)).toBool then
 if x2.toNat+1≤x11.length then
 if 0≤x8∧x8<(↑(x11.getD x2.toNat (D.int 0)).items.length:Int) then
 if x2.toNat+1≤x11.length then
 if x8.toNat+1≤(x11.getD x2.toNat (D.int 0)).items.length then
 (F x0 x1 x2 x3 x4 x5 x6 x7 (IntKind.i64.wrap (x8+1)) x9 x10 (x11.set x2.toNat (D.node ((x11.getD x2.toNat (D.int 0)).items.set x8.toNat (D.bool Bool.true))))).bind k
 else
 none
 else
 none
 else
 none
 else
 none
 else
 if 0≤x2∧x2<(↑x11.length:Int) then
 if x2.toNat+1≤x11.length then
 if x2.toNat+1≤x11.length then
 if 0≤x1∧x1<(↑(x11.getD x2.toNat (D.int 0)).items.length:Int) then
 if x2.toNat+1≤x11.length then
 if x1.toNat+1≤(x11.getD x2.toNat (D.int 0)).items.length then
 bif ((x11.getD x2.toNat (D.int 0)).items.getD x1.toNat (D.int 0)).toBool then
 if 0≤x1∧x1<(↑x11.length:Int) then
 if x1.toNat+1≤x11.length then
 if x1.toNat+1≤x11.length then
 if 0≤x8∧x8<(↑(x11.getD x1.toNat (D.int 0)).items.length:Int) then
 if x1.toNat+1≤x11.length then
 if x8.toNat+1≤(x11.getD x1.toNat (D.int 0)).items.length then
 if x2.toNat+1≤x11.length then
 if 0≤x8∧x8<(↑(x11.getD x2.toNat (D.int 0)).items.length:Int) then
 if x2.toNat+1≤x11.length then
 if x8.toNat+1≤(x11.getD x2.toNat (D.int 0)).items.length then
 (F x0 x1 x2 x3 x4 x5 x6 x7 (IntKind.i64.wrap (x8+1)) x9 x10 (x11.set x2.toNat (D.node ((x11.getD x2.toNat (D.int 0)).items.set x8.toNat (D.bool ((x11.getD x1.toNat (D.int 0)).items.getD x8.toNat (D.int 0)).toBool))))).bind k
 else
 none
 else
 none
 else
 none
 else
 none
 else
 none
 else
 none
 else
 none
 else
 none
 else
 none
 else
 none
 else
 if x2.toNat+1≤x11.length then
 if 0≤x8∧x8<(↑(x11.getD x2.toNat (D.int 0)).items.length:Int) then
 if x2.toNat+1≤x11.length then
 if x8.toNat+1≤(x11.getD x2.toNat (D.int 0)).items.length then
 (F x0 x1 x2 x3 x4 x5 x6 x7 (IntKind.i64.wrap (x8+1)) x9 x10 (x11.set x2.toNat (D.node ((x11.getD x2.toNat (D.int 0)).items.set x8.toNat (D.bool Bool.false))))).bind k
 else
 none
 else
 none
 else
 none
 else
 none
 else
 none
 else
 none
 else
 none
 else
 none
 else
 none
 else
 none
 else
 none
 else
 none
 else
 none
 else
 none
 else
 none
 else
 none
 else
 none
 else
 none
 else
 k (x0,x1,x3,x4,x5,x6,x9,x10,x11)
theorem c_Z60_bind {R:Type} (F:T_Z60) (x0 x1 x2 x3 x4 x5 x6 x7 x8:Int) (x9 x10 x11:List D) (k:Int×Int×Int×Int×Int×Int×List D×List D×List D→Option R):c_Z60 F x0 x1 x2 x3 x4 x5 x6 x7 x8 x9 x10 x11 k=(c_Z60 F x0 x1 x2 x3 x4 x5 x6 x7 x8 x9 x10 x11 some).bind k:=by
 unfold c_Z60
 repeat' first
  | exact JA
  | exact Jz
  | exact Jy
  | apply Jv
  | apply Jw
  | apply JB
  | (apply Jx;intro _)
  | intro _
def n_Z60:Nat→T_Z60
 | 0,_,_,_,_,_,_,_,_,_,_,_,_=>none
 | n+1,x0,x1,x2,x3,x4,x5,x6,x7,x8,x9,x10,x11=>c_Z60 (n_Z60 n) x0 x1 x2 x3 x4 x5 x6 x7 x8 x9 x10 x11 some
noncomputable def Z60 (x0 x1 x2 x3 x4 x5 x6 x7 x8:Int) (x9 x10 x11:List D):Option (Int×Int×Int×Int×Int×Int×List D×List D×List D):=ev (fun n=>n_Z60 n x0 x1 x2 x3 x4 x5 x6 x7 x8 x9 x10 x11)
def m_Z60 (F:T_Z60):Jq:=⟨22,⟨(.undef::.undef::.undef::.int .i64::.ptr 1000 [0]::uu 6 (.int .i64::.int .i64::uu 63 (.int .i64::.int .i64::.undef::.undef::.int .i64::.int .i64::.undef::.undef::.int .i64::.int .i64::uu 49 ([])))),[(1000,.obox (.agg [.own (.int .i64),.full 1001 [] (.slice (.bool)),.full 1002 [] (.slice (.bool))])),(1001,.own (.slice (.bool))),(1002,.own (.slice (.bool)))]⟩,[(.exit 8,⟨(.undef::.undef::.undef::.int .i64::.ptr 1000 [0]::uu 6 (.int .i64::uu 64 (.int .i64::.int .i64::.undef::.undef::.int .i64::.int .i64::uu 53 ([])))),[(1000,.obox (.agg [.own (.int .i64),.full 1001 [] (.slice (.bool)),.full 1002 [] (.slice (.bool))])),(1001,.own (.slice (.bool))),(1002,.own (.slice (.bool)))]⟩)],fun _ ds k=>dI (fun x0 ds=>dI (fun x1 ds=>dI (fun x2 ds=>dI (fun x3 ds=>dI (fun x4 ds=>dI (fun x5 ds=>dI (fun x6 ds=>dI (fun x7 ds=>dI (fun x8 ds=>dL (fun x9 ds=>dL (fun x10 ds=>dL (fun x11 ds=>dE ((F x0 x1 x2 x3 x4 x5 x6 x7 x8 x9 x10 x11).bind (fun y=>k 0 [.I y.1,.I y.2.1,.I y.2.2.1,.I y.2.2.2.1,.I y.2.2.2.2.1,.I y.2.2.2.2.2.1,.L y.2.2.2.2.2.2.1,.L y.2.2.2.2.2.2.2.1,.L y.2.2.2.2.2.2.2.2])) ds) ds) ds) ds) ds) ds) ds) ds) ds) ds) ds) ds) ds⟩
theorem q_Z60 (F:T_Z60) (x0 x1 x2 x3 x4 x5 x6 x7 x8:Int) (x9 x10 x11:List D):J2 (Jr []) (Js [m_Z60 F]) A 63 (Jk (Jh Try.f63) 22) ((m_Z60 F).sh.mk' [.I x0,.I x1,.I x2,.I x3,.I x4,.I x5,.I x6,.I x7,.I x8,.L x9,.L x10,.L x11]) (fun e σ'=>some (e,σ'))=c_Z60 F x0 x1 x2 x3 x4 x5 x6 x7 x8 x9 x10 x11 (fun y=>some (.exit 8,SSt.mk' ⟨(.undef::.undef::.undef::.int .i64::.ptr 1000 [0]::uu 6 (.int .i64::uu 64 (.int .i64::.int .i64::.undef::.undef::.int .i64::.int .i64::uu 53 ([])))),[(1000,.obox (.agg [.own (.int .i64),.full 1001 [] (.slice (.bool)),.full 1002 [] (.slice (.bool))])),(1001,.own (.slice (.bool))),(1002,.own (.slice (.bool)))]⟩ [.I y.1,.I y.2.1,.I y.2.2.1,.I y.2.2.2.1,.I y.2.2.2.2.1,.I y.2.2.2.2.2.1,.L y.2.2.2.2.2.2.1,.L y.2.2.2.2.2.2.2.1,.L y.2.2.2.2.2.2.2.2])):=by kernel_rfl
theorem m_Z60_ok:∀ n,(m_Z60 (n_Z60 n)).ok Try.prog (Jk (Jh Try.f63) 22):=by
 intro n
 induction n with
 | zero=>
  intro R ds k r h
  unfold m_Z60 at h
  obtain ⟨_,_,rfl,h⟩:=Jb h
  obtain ⟨_,_,rfl,h⟩:=Jb h
  obtain ⟨_,_,rfl,h⟩:=Jb h
  obtain ⟨_,_,rfl,h⟩:=Jb h
  obtain ⟨_,_,rfl,h⟩:=Jb h
  obtain ⟨_,_,rfl,h⟩:=Jb h
  obtain ⟨_,_,rfl,h⟩:=Jb h
  obtain ⟨_,_,rfl,h⟩:=Jb h
  obtain ⟨_,_,rfl,h⟩:=Jb h
  obtain ⟨_,_,rfl,h⟩:=Ja h
  obtain ⟨_,_,rfl,h⟩:=Ja h
  obtain ⟨_,_,rfl,h⟩:=Ja h
  obtain ⟨rfl,hE⟩:=Je h
  obtain ⟨y,hy,hk⟩:=Jf hE
  cases hy
 | succ n ih=>
  intro R ds k r h
  unfold m_Z60 at h
  obtain ⟨_,_,rfl,h⟩:=Jb h
  obtain ⟨_,_,rfl,h⟩:=Jb h
  obtain ⟨_,_,rfl,h⟩:=Jb h
  obtain ⟨_,_,rfl,h⟩:=Jb h
  obtain ⟨_,_,rfl,h⟩:=Jb h
  obtain ⟨_,_,rfl,h⟩:=Jb h
  obtain ⟨_,_,rfl,h⟩:=Jb h
  obtain ⟨_,_,rfl,h⟩:=Jb h
  obtain ⟨_,_,rfl,h⟩:=Jb h
  obtain ⟨_,_,rfl,h⟩:=Ja h
  obtain ⟨_,_,rfl,h⟩:=Ja h
  obtain ⟨_,_,rfl,h⟩:=Ja h
  obtain ⟨rfl,hE⟩:=Je h
  obtain ⟨y,hy,hk⟩:=Jf hE
  exact ⟨0,_,_,_,hk,rfl,JP px (fx:=⟨Try.func63,by kernel_rfl,by kernel_rfl⟩) Jn (Jm ih Jo) (by kernel_rfl) ((q_Z60 ..).trans ((c_Z60_bind ..).trans (Jg hy)))⟩
noncomputable def e_Z60:Jq:=m_Z60 (Z60)
theorem e_Z60_ok:(e_Z60).ok Try.prog (Jk (Jh Try.f63) 22):=by
 intro R ds k r h
 unfold e_Z60 m_Z60 at h
 obtain ⟨_,_,rfl,h⟩:=Jb h
 obtain ⟨_,_,rfl,h⟩:=Jb h
 obtain ⟨_,_,rfl,h⟩:=Jb h
 obtain ⟨_,_,rfl,h⟩:=Jb h
 obtain ⟨_,_,rfl,h⟩:=Jb h
 obtain ⟨_,_,rfl,h⟩:=Jb h
 obtain ⟨_,_,rfl,h⟩:=Jb h
 obtain ⟨_,_,rfl,h⟩:=Jb h
 obtain ⟨_,_,rfl,h⟩:=Jb h
 obtain ⟨_,_,rfl,h⟩:=Ja h
 obtain ⟨_,_,rfl,h⟩:=Ja h
 obtain ⟨_,_,rfl,h⟩:=Ja h
 obtain ⟨rfl,hE⟩:=Je h
 obtain ⟨y,hy,hk⟩:=Jf hE
 obtain ⟨n,hn⟩:=J5 hy
 exact m_Z60_ok n R _ k r ((Jg hn).trans hk)

/-!-/
abbrev T_Z61:=Int→Int→Int→Int→Int→Int→List D→List D→List D→Option (Int×Int×Int×List D×List D×List D)
def c_Z61 {R:Type} (F:T_Z61) (x0 x1 x2 x3 x4 x5:Int) (x6 x7 x8:List D) (k:Int×Int×Int×List D×List D×List D→Option R):Option R:=
 bif decide (x5<x4) then
 (Z60 x0 x1 x5 x2 x3 x4 x5 x0 (0:Int) x6 x7 x8).bind (fun y0=>
 (F y0.fst y0.snd.fst y0.snd.snd.fst y0.snd.snd.snd.fst y0.snd.snd.snd.snd.fst (IntKind.i64.wrap (y0.snd.snd.snd.snd.snd.fst+1)) y0.snd.snd.snd.snd.snd.snd.fst y0.snd.snd.snd.snd.snd.snd.snd.fst y0.snd.snd.snd.snd.snd.snd.snd.snd).bind k)
 else
 k (x0,x2,x3,x6,x7,x8)
theorem c_Z61_bind {R:Type} (F:T_Z61) (x0 x1 x2 x3 x4 x5:Int) (x6 x7 x8:List D) (k:Int×Int×Int×List D×List D×List D→Option R):c_Z61 F x0 x1 x2 x3 x4 x5 x6 x7 x8 k=(c_Z61 F x0 x1 x2 x3 x4 x5 x6 x7 x8 some).bind k:=by
 unfold c_Z61
 repeat' first
  | exact JA
  | exact Jz
  | exact Jy
  | apply Jv
  | apply Jw
  | apply JB
  | (apply Jx;intro _)
  | intro _
def n_Z61:Nat→T_Z61
 | 0,_,_,_,_,_,_,_,_,_=>none
 | n+1,x0,x1,x2,x3,x4,x5,x6,x7,x8=>c_Z61 (n_Z61 n) x0 x1 x2 x3 x4 x5 x6 x7 x8 some
noncomputable def Z61 (x0 x1 x2 x3 x4 x5:Int) (x6 x7 x8:List D):Option (Int×Int×Int×List D×List D×List D):=ev (fun n=>n_Z61 n x0 x1 x2 x3 x4 x5 x6 x7 x8)
def m_Z61 (F:T_Z61):Jq:=⟨19,⟨(.undef::.undef::.undef::.int .i64::.ptr 1000 [0]::uu 6 (.int .i64::uu 64 (.int .i64::.int .i64::.undef::.undef::.int .i64::.int .i64::uu 53 ([])))),[(1000,.obox (.agg [.own (.int .i64),.full 1001 [] (.slice (.bool)),.full 1002 [] (.slice (.bool))])),(1001,.own (.slice (.bool))),(1002,.own (.slice (.bool)))]⟩,[(.exit 6,⟨(.undef::.undef::.undef::.int .i64::.ptr 1000 [0]::uu 71 (.int .i64::.int .i64::uu 57 ([]))),[(1000,.obox (.agg [.own (.int .i64),.full 1001 [] (.slice (.bool)),.full 1002 [] (.slice (.bool))])),(1001,.own (.slice (.bool))),(1002,.own (.slice (.bool)))]⟩)],fun _ ds k=>dI (fun x0 ds=>dI (fun x1 ds=>dI (fun x2 ds=>dI (fun x3 ds=>dI (fun x4 ds=>dI (fun x5 ds=>dL (fun x6 ds=>dL (fun x7 ds=>dL (fun x8 ds=>dE ((F x0 x1 x2 x3 x4 x5 x6 x7 x8).bind (fun y=>k 0 [.I y.1,.I y.2.1,.I y.2.2.1,.L y.2.2.2.1,.L y.2.2.2.2.1,.L y.2.2.2.2.2])) ds) ds) ds) ds) ds) ds) ds) ds) ds) ds⟩
theorem q_Z61 (F:T_Z61) (x0 x1 x2 x3 x4 x5:Int) (x6 x7 x8:List D):J2 (Jr []) (Js [m_Z61 F,e_Z60]) A 63 (Jk (Jh Try.f63) 19) ((m_Z61 F).sh.mk' [.I x0,.I x1,.I x2,.I x3,.I x4,.I x5,.L x6,.L x7,.L x8]) (fun e σ'=>some (e,σ'))=c_Z61 F x0 x1 x2 x3 x4 x5 x6 x7 x8 (fun y=>some (.exit 6,SSt.mk' ⟨(.undef::.undef::.undef::.int .i64::.ptr 1000 [0]::uu 71 (.int .i64::.int .i64::uu 57 ([]))),[(1000,.obox (.agg [.own (.int .i64),.full 1001 [] (.slice (.bool)),.full 1002 [] (.slice (.bool))])),(1001,.own (.slice (.bool))),(1002,.own (.slice (.bool)))]⟩ [.I y.1,.I y.2.1,.I y.2.2.1,.L y.2.2.2.1,.L y.2.2.2.2.1,.L y.2.2.2.2.2])):=by kernel_rfl
theorem m_Z61_ok:∀ n,(m_Z61 (n_Z61 n)).ok Try.prog (Jk (Jh Try.f63) 19):=by
 intro n
 induction n with
 | zero=>
  intro R ds k r h
  unfold m_Z61 at h
  obtain ⟨_,_,rfl,h⟩:=Jb h
  obtain ⟨_,_,rfl,h⟩:=Jb h
  obtain ⟨_,_,rfl,h⟩:=Jb h
  obtain ⟨_,_,rfl,h⟩:=Jb h
  obtain ⟨_,_,rfl,h⟩:=Jb h
  obtain ⟨_,_,rfl,h⟩:=Jb h
  obtain ⟨_,_,rfl,h⟩:=Ja h
  obtain ⟨_,_,rfl,h⟩:=Ja h
  obtain ⟨_,_,rfl,h⟩:=Ja h
  obtain ⟨rfl,hE⟩:=Je h
  obtain ⟨y,hy,hk⟩:=Jf hE
  cases hy
 | succ n ih=>
  intro R ds k r h
  unfold m_Z61 at h
  obtain ⟨_,_,rfl,h⟩:=Jb h
  obtain ⟨_,_,rfl,h⟩:=Jb h
  obtain ⟨_,_,rfl,h⟩:=Jb h
  obtain ⟨_,_,rfl,h⟩:=Jb h
  obtain ⟨_,_,rfl,h⟩:=Jb h
  obtain ⟨_,_,rfl,h⟩:=Jb h
  obtain ⟨_,_,rfl,h⟩:=Ja h
  obtain ⟨_,_,rfl,h⟩:=Ja h
  obtain ⟨_,_,rfl,h⟩:=Ja h
  obtain ⟨rfl,hE⟩:=Je h
  obtain ⟨y,hy,hk⟩:=Jf hE
  exact ⟨0,_,_,_,hk,rfl,JP px (fx:=⟨Try.func63,by kernel_rfl,by kernel_rfl⟩) Jn (Jm ih (Jm e_Z60_ok Jo)) (by kernel_rfl) ((q_Z61 ..).trans ((c_Z61_bind ..).trans (Jg hy)))⟩
noncomputable def e_Z61:Jq:=m_Z61 (Z61)
theorem e_Z61_ok:(e_Z61).ok Try.prog (Jk (Jh Try.f63) 19):=by
 intro R ds k r h
 unfold e_Z61 m_Z61 at h
 obtain ⟨_,_,rfl,h⟩:=Jb h
 obtain ⟨_,_,rfl,h⟩:=Jb h
 obtain ⟨_,_,rfl,h⟩:=Jb h
 obtain ⟨_,_,rfl,h⟩:=Jb h
 obtain ⟨_,_,rfl,h⟩:=Jb h
 obtain ⟨_,_,rfl,h⟩:=Jb h
 obtain ⟨_,_,rfl,h⟩:=Ja h
 obtain ⟨_,_,rfl,h⟩:=Ja h
 obtain ⟨_,_,rfl,h⟩:=Ja h
 obtain ⟨rfl,hE⟩:=Je h
 obtain ⟨y,hy,hk⟩:=Jf hE
 obtain ⟨n,hn⟩:=J5 hy
 exact m_Z61_ok n R _ k r ((Jg hn).trans hk)

/-!-/
abbrev T_Z62:=Int→Int→Int→List D→List D→List D→Option (List D×List D×List D)
def c_Z62 {R:Type} (F:T_Z62) (x0 x1 x2:Int) (x3 x4 x5:List D) (k:List D×List D×List D→Option R):Option R:=
 bif decide (x2<x1) then
 (Z61 x0 x2 x1 x2 x0 (0:Int) x3 x4 x5).bind (fun y0=>
 (F y0.fst y0.snd.fst (IntKind.i64.wrap (y0.snd.snd.fst+1)) y0.snd.snd.snd.fst y0.snd.snd.snd.snd.fst y0.snd.snd.snd.snd.snd).bind k)
 else
 k (x3,x4,x5)
theorem c_Z62_bind {R:Type} (F:T_Z62) (x0 x1 x2:Int) (x3 x4 x5:List D) (k:List D×List D×List D→Option R):c_Z62 F x0 x1 x2 x3 x4 x5 k=(c_Z62 F x0 x1 x2 x3 x4 x5 some).bind k:=by
 unfold c_Z62
 repeat' first
  | exact JA
  | exact Jz
  | exact Jy
  | apply Jv
  | apply Jw
  | apply JB
  | (apply Jx;intro _)
  | intro _
def n_Z62:Nat→T_Z62
 | 0,_,_,_,_,_,_=>none
 | n+1,x0,x1,x2,x3,x4,x5=>c_Z62 (n_Z62 n) x0 x1 x2 x3 x4 x5 some
noncomputable def Z62 (x0 x1 x2:Int) (x3 x4 x5:List D):Option (List D×List D×List D):=ev (fun n=>n_Z62 n x0 x1 x2 x3 x4 x5)
def m_Z62 (F:T_Z62):Jq:=⟨16,⟨(.undef::.undef::.undef::.int .i64::.ptr 1000 [0]::uu 71 (.int .i64::.int .i64::uu 57 ([]))),[(1000,.obox (.agg [.own (.int .i64),.full 1001 [] (.slice (.bool)),.full 1002 [] (.slice (.bool))])),(1001,.own (.slice (.bool))),(1002,.own (.slice (.bool)))]⟩,[(.exit 4,⟨(uu 4 (.ptr 1000 [0]::uu 130 ([]))),[(1000,.obox (.agg [.own (.int .i64),.full 1001 [] (.slice (.bool)),.full 1002 [] (.slice (.bool))])),(1001,.own (.slice (.bool))),(1002,.own (.slice (.bool)))]⟩)],fun _ ds k=>dI (fun x0 ds=>dI (fun x1 ds=>dI (fun x2 ds=>dL (fun x3 ds=>dL (fun x4 ds=>dL (fun x5 ds=>dE ((F x0 x1 x2 x3 x4 x5).bind (fun y=>k 0 [.L y.1,.L y.2.1,.L y.2.2])) ds) ds) ds) ds) ds) ds) ds⟩
theorem q_Z62 (F:T_Z62) (x0 x1 x2:Int) (x3 x4 x5:List D):J2 (Jr []) (Js [m_Z62 F,e_Z61]) A 63 (Jk (Jh Try.f63) 16) ((m_Z62 F).sh.mk' [.I x0,.I x1,.I x2,.L x3,.L x4,.L x5]) (fun e σ'=>some (e,σ'))=c_Z62 F x0 x1 x2 x3 x4 x5 (fun y=>some (.exit 4,SSt.mk' ⟨(uu 4 (.ptr 1000 [0]::uu 130 ([]))),[(1000,.obox (.agg [.own (.int .i64),.full 1001 [] (.slice (.bool)),.full 1002 [] (.slice (.bool))])),(1001,.own (.slice (.bool))),(1002,.own (.slice (.bool)))]⟩ [.L y.1,.L y.2.1,.L y.2.2])):=by kernel_rfl
theorem m_Z62_ok:∀ n,(m_Z62 (n_Z62 n)).ok Try.prog (Jk (Jh Try.f63) 16):=by
 intro n
 induction n with
 | zero=>
  intro R ds k r h
  unfold m_Z62 at h
  obtain ⟨_,_,rfl,h⟩:=Jb h
  obtain ⟨_,_,rfl,h⟩:=Jb h
  obtain ⟨_,_,rfl,h⟩:=Jb h
  obtain ⟨_,_,rfl,h⟩:=Ja h
  obtain ⟨_,_,rfl,h⟩:=Ja h
  obtain ⟨_,_,rfl,h⟩:=Ja h
  obtain ⟨rfl,hE⟩:=Je h
  obtain ⟨y,hy,hk⟩:=Jf hE
  cases hy
 | succ n ih=>
  intro R ds k r h
  unfold m_Z62 at h
  obtain ⟨_,_,rfl,h⟩:=Jb h
  obtain ⟨_,_,rfl,h⟩:=Jb h
  obtain ⟨_,_,rfl,h⟩:=Jb h
  obtain ⟨_,_,rfl,h⟩:=Ja h
  obtain ⟨_,_,rfl,h⟩:=Ja h
  obtain ⟨_,_,rfl,h⟩:=Ja h
  obtain ⟨rfl,hE⟩:=Je h
  obtain ⟨y,hy,hk⟩:=Jf hE
  exact ⟨0,_,_,_,hk,rfl,JP px (fx:=⟨Try.func63,by kernel_rfl,by kernel_rfl⟩) Jn (Jm ih (Jm e_Z61_ok Jo)) (by kernel_rfl) ((q_Z62 ..).trans ((c_Z62_bind ..).trans (Jg hy)))⟩
noncomputable def e_Z62:Jq:=m_Z62 (Z62)
theorem e_Z62_ok:(e_Z62).ok Try.prog (Jk (Jh Try.f63) 16):=by
 intro R ds k r h
 unfold e_Z62 m_Z62 at h
 obtain ⟨_,_,rfl,h⟩:=Jb h
 obtain ⟨_,_,rfl,h⟩:=Jb h
 obtain ⟨_,_,rfl,h⟩:=Jb h
 obtain ⟨_,_,rfl,h⟩:=Ja h
 obtain ⟨_,_,rfl,h⟩:=Ja h
 obtain ⟨_,_,rfl,h⟩:=Ja h
 obtain ⟨rfl,hE⟩:=Je h
 obtain ⟨y,hy,hk⟩:=Jf hE
 obtain ⟨n,hn⟩:=J5 hy
 exact m_Z62_ok n R _ k r ((Jg hn).trans hk)

/-!-/
def c_Z63 {R:Type} (x0 x1:List D) (k:List D×List D×List D→Option R):Option R:=
 (Z52 (↑x0.length:Int)).bind (fun y0=>
 (Z52 (↑x0.length:Int)).bind (fun y1=>
 (Z54 (↑x0.length:Int) x0 (↑x0.length:Int) (0:Int) x0 x1 [] y0 y1).bind (Sum.elim (fun y2=>
 (Z55 y2.fst y2.snd.snd.fst (↑y2.snd.snd.fst.length:Int) (0:Int) y2.snd.fst y2.snd.snd.fst y2.snd.snd.snd.fst y2.snd.snd.snd.snd.fst y2.snd.snd.snd.snd.snd).bind (fun y3=>
 (Z58 y3.fst y3.fst (0:Int) y3.snd.fst y3.snd.snd.fst y3.snd.snd.snd).bind (fun y4=>
 k (y4.fst,y4.snd.fst,y4.snd.snd)))) (fun y5=>
 (Z59 y5.fst y5.snd.snd.fst (↑y5.snd.snd.fst.length:Int) (0:Int) y5.snd.fst y5.snd.snd.fst y5.snd.snd.snd.fst y5.snd.snd.snd.snd.fst y5.snd.snd.snd.snd.snd).bind (fun y6=>
 (Z62 y6.fst y6.fst (0:Int) y6.snd.fst y6.snd.snd.fst y6.snd.snd.snd).bind (fun y7=>
 k (y7.fst,y7.snd.fst,y7.snd.snd)))))))
theorem c_Z63_bind {R:Type} (x0 x1:List D) (k:List D×List D×List D→Option R):c_Z63 x0 x1 k=(c_Z63 x0 x1 some).bind k:=by
 unfold c_Z63
 repeat' first
  | exact JA
  | exact Jz
  | exact Jy
  | apply Jv
  | apply Jw
  | apply JB
  | (apply Jx;intro _)
  | intro _
def Z63 (x0 x1:List D):Option (List D×List D×List D):=c_Z63 x0 x1 some
def e_Z63:Ent:=⟨63,[.agg [.rd (.struct [.int .i64,.int .i64]),.rd (.struct [.int .i64,.int .i64])]],[(.obox (.agg [.own (.int .i64),.own (.slice (.bool)),.own (.slice (.bool))]),[.undef])],fun _ ds k=>dL (fun x0 ds=>dL (fun x1 ds=>dE ((Z63 x0 x1).bind (fun y=>k 0 [.L y.1,.L y.2.1,.L y.2.2])) ds) ds) ds⟩
theorem q_Z63 (x0 x1:List D):JX (Jr [e_Z52]) (Js [e_Z54,e_Z55,e_Z58,e_Z59,e_Z62]) A 63 Try.f63 (Sh.mks e_Z63.sh [.L x0,.L x1]).1 (fun v os=>some (v,os))=c_Z63 x0 x1 (fun y=>J0 e_Z63 0 [.L y.1,.L y.2.1,.L y.2.2]):=by kernel_rfl
theorem e_Z63_ok:e_Z63.ok Try.prog A:=by
 intro R ds k r h
 unfold e_Z63 at h
 obtain ⟨_,_,rfl,h⟩:=Ja h
 obtain ⟨_,_,rfl,h⟩:=Ja h
 obtain ⟨rfl,hE⟩:=Je h
 obtain ⟨y,hy,hk⟩:=Jf hE
 exact ⟨0,_,_,_,hk,rfl,J1 px (fx:=⟨Try.func63,by kernel_rfl,by kernel_rfl⟩) (Jt e_Z52_ok Jn) (Jm e_Z54_ok (Jm e_Z55_ok (Jm e_Z58_ok (Jm e_Z59_ok (Jm e_Z62_ok Jo))))) ((q_Z63 ..).trans ((c_Z63_bind ..).trans (Jg hy)))⟩

/-!-/
abbrev T_Z64:=List D→List D→List D→Int→Int→Option ((Bool)⊕(Unit))
def c_Z64 {R:Type} (F:T_Z64) (x0 x1 x2:List D) (x3 x4:Int) (k:(Bool)⊕(Unit)→Option R):Option R:=
 bif decide (x4<x3) then
 if 0≤x4∧x4<(↑x2.length:Int) then
 if 0≤x4∧x4<(↑(x2.getD x4.toNat (D.int 0)).items.length:Int) then
 bif ((x2.getD x4.toNat (D.int 0)).items.getD x4.toNat (D.int 0)).toBool then
 k (.inl Bool.false)
 else
 (F x0 x1 x2 x3 (IntKind.i64.wrap (x4+1))).bind k
 else
 none
 else
 none
 else
 k (.inr ())
theorem c_Z64_bind {R:Type} (F:T_Z64) (x0 x1 x2:List D) (x3 x4:Int) (k:(Bool)⊕(Unit)→Option R):c_Z64 F x0 x1 x2 x3 x4 k=(c_Z64 F x0 x1 x2 x3 x4 some).bind k:=by
 unfold c_Z64
 repeat' first
  | exact JA
  | exact Jz
  | exact Jy
  | apply Jv
  | apply Jw
  | apply JB
  | (apply Jx;intro _)
  | intro _
def n_Z64:Nat→T_Z64
 | 0,_,_,_,_,_=>none
 | n+1,x0,x1,x2,x3,x4=>c_Z64 (n_Z64 n) x0 x1 x2 x3 x4 some
noncomputable def Z64 (x0 x1 x2:List D) (x3 x4:Int):Option ((Bool)⊕(Unit)):=ev (fun n=>n_Z64 n x0 x1 x2 x3 x4)
def m_Z64 (F:T_Z64):Jq:=⟨2,⟨(.rp (.agg [.rd (.int .i64),.rd (.slice (.bool)),.rd (.slice (.bool))])::uu 7 (.int .i64::.int .i64::uu 13 ([]))),[]⟩,[(.ret,⟨(.undef::.undef::.bool::uu 20 ([])),[]⟩),(.exit 0,⟨(uu 23 ([])),[]⟩)],fun _ ds k=>dL (fun x0 ds=>dL (fun x1 ds=>dL (fun x2 ds=>dI (fun x3 ds=>dI (fun x4 ds=>dE ((F x0 x1 x2 x3 x4).bind (Sum.elim (fun y=>k 0 [.B y]) (fun y=>k 1 []))) ds) ds) ds) ds) ds) ds⟩
theorem q_Z64 (F:T_Z64) (x0 x1 x2:List D) (x3 x4:Int):J2 (Jr []) (Js [m_Z64 F]) A 103 (Jk (Jh Try.f103) 2) ((m_Z64 F).sh.mk' [.L x0,.L x1,.L x2,.I x3,.I x4]) (fun e σ'=>some (e,σ'))=c_Z64 F x0 x1 x2 x3 x4 (Sum.elim (fun y=>some (.ret,SSt.mk' ⟨(.undef::.undef::.bool::uu 20 ([])),[]⟩ [.B y])) (fun y=>some (.exit 0,SSt.mk' ⟨(uu 23 ([])),[]⟩ []))):=by kernel_rfl
theorem m_Z64_ok:∀ n,(m_Z64 (n_Z64 n)).ok Try.prog (Jk (Jh Try.f103) 2):=by
 intro n
 induction n with
 | zero=>
  intro R ds k r h
  unfold m_Z64 at h
  obtain ⟨_,_,rfl,h⟩:=Ja h
  obtain ⟨_,_,rfl,h⟩:=Ja h
  obtain ⟨_,_,rfl,h⟩:=Ja h
  obtain ⟨_,_,rfl,h⟩:=Jb h
  obtain ⟨_,_,rfl,h⟩:=Jb h
  obtain ⟨rfl,hE⟩:=Je h
  obtain ⟨y,hy,hk⟩:=Jf hE
  cases hy
 | succ n ih=>
  intro R ds k r h
  unfold m_Z64 at h
  obtain ⟨_,_,rfl,h⟩:=Ja h
  obtain ⟨_,_,rfl,h⟩:=Ja h
  obtain ⟨_,_,rfl,h⟩:=Ja h
  obtain ⟨_,_,rfl,h⟩:=Jb h
  obtain ⟨_,_,rfl,h⟩:=Jb h
  obtain ⟨rfl,hE⟩:=Je h
  obtain ⟨y,hy,hk⟩:=Jf hE
  cases y with
  | inl y=>
   exact ⟨0,_,_,_,hk,rfl,JP px (fx:=⟨Try.func103,by kernel_rfl,by kernel_rfl⟩) Jn (Jm ih Jo) (by kernel_rfl) ((q_Z64 ..).trans ((c_Z64_bind ..).trans (Jg hy)))⟩
  | inr y=>
   exact ⟨1,_,_,_,hk,rfl,JP px (fx:=⟨Try.func103,by kernel_rfl,by kernel_rfl⟩) Jn (Jm ih Jo) (by kernel_rfl) ((q_Z64 ..).trans ((c_Z64_bind ..).trans (Jg hy)))⟩
noncomputable def e_Z64:Jq:=m_Z64 (Z64)
theorem e_Z64_ok:(e_Z64).ok Try.prog (Jk (Jh Try.f103) 2):=by
 intro R ds k r h
 unfold e_Z64 m_Z64 at h
 obtain ⟨_,_,rfl,h⟩:=Ja h
 obtain ⟨_,_,rfl,h⟩:=Ja h
 obtain ⟨_,_,rfl,h⟩:=Ja h
 obtain ⟨_,_,rfl,h⟩:=Jb h
 obtain ⟨_,_,rfl,h⟩:=Jb h
 obtain ⟨rfl,hE⟩:=Je h
 obtain ⟨y,hy,hk⟩:=Jf hE
 obtain ⟨n,hn⟩:=J5 hy
 exact m_Z64_ok n R _ k r ((Jg hn).trans hk)

/-!-/
def c_Z65 {R:Type} (x0 x1 x2:List D) (k:Bool→Option R):Option R:=
 (Z64 x0 x1 x2 (↑x0.length:Int) (0:Int)).bind (Sum.elim (fun y0=>
 k y0) (fun y1=>
 k Bool.true))
theorem c_Z65_bind {R:Type} (x0 x1 x2:List D) (k:Bool→Option R):c_Z65 x0 x1 x2 k=(c_Z65 x0 x1 x2 some).bind k:=by
 unfold c_Z65
 repeat' first
  | exact JA
  | exact Jz
  | exact Jy
  | apply Jv
  | apply Jw
  | apply JB
  | (apply Jx;intro _)
  | intro _
def Z65 (x0 x1 x2:List D):Option (Bool):=c_Z65 x0 x1 x2 some
def e_Z65:Ent:=⟨103,[.rp (.agg [.rd (.int .i64),.rd (.slice (.bool)),.rd (.slice (.bool))])],[(.bool,[.undef])],fun _ ds k=>dL (fun x0 ds=>dL (fun x1 ds=>dL (fun x2 ds=>dE ((Z65 x0 x1 x2).bind (fun y=>k 0 [.B y])) ds) ds) ds) ds⟩
theorem q_Z65 (x0 x1 x2:List D):JX (Jr []) (Js [e_Z64]) A 103 Try.f103 (Sh.mks e_Z65.sh [.L x0,.L x1,.L x2]).1 (fun v os=>some (v,os))=c_Z65 x0 x1 x2 (fun y=>J0 e_Z65 0 [.B y]):=by kernel_rfl
theorem e_Z65_ok:e_Z65.ok Try.prog A:=by
 intro R ds k r h
 unfold e_Z65 at h
 obtain ⟨_,_,rfl,h⟩:=Ja h
 obtain ⟨_,_,rfl,h⟩:=Ja h
 obtain ⟨_,_,rfl,h⟩:=Ja h
 obtain ⟨rfl,hE⟩:=Je h
 obtain ⟨y,hy,hk⟩:=Jf hE
 exact ⟨0,_,_,_,hk,rfl,J1 px (fx:=⟨Try.func103,by kernel_rfl,by kernel_rfl⟩) Jn (Jm e_Z64_ok Jo) ((q_Z65 ..).trans ((c_Z65_bind ..).trans (Jg hy)))⟩

/-!-/
def c_Z66 {R:Type} (x0 x1:List D) (k:(Bool)⊕(List D×List D×List D×Bool)→Option R):Option R:=
 (Z50 x0 x1).bind (fun y0=>
 bif !y0 then
 k (.inl Bool.false)
 else
 (Z63 x0 x1).bind (fun y1=>
 (Z65 y1.fst y1.snd.fst y1.snd.snd).bind (fun y2=>
 k (.inr (y1.fst,y1.snd.fst,y1.snd.snd,y2)))))
theorem c_Z66_bind {R:Type} (x0 x1:List D) (k:(Bool)⊕(List D×List D×List D×Bool)→Option R):c_Z66 x0 x1 k=(c_Z66 x0 x1 some).bind k:=by
 unfold c_Z66
 repeat' first
  | exact JA
  | exact Jz
  | exact Jy
  | apply Jv
  | apply Jw
  | apply JB
  | (apply Jx;intro _)
  | intro _
def Z66 (x0 x1:List D):Option ((Bool)⊕(List D×List D×List D×Bool)):=c_Z66 x0 x1 some
def e_Z66:Ent:=⟨47,[.agg [.rd (.struct [.int .i64,.int .i64]),.rd (.struct [.int .i64,.int .i64])]],[(.tup [.nilptr,.bool],[.undef]),(.tup [.obox (.agg [.own (.int .i64),.own (.slice (.bool)),.own (.slice (.bool))]),.bool],[.undef])],fun _ ds k=>dL (fun x0 ds=>dL (fun x1 ds=>dE ((Z66 x0 x1).bind (Sum.elim (fun y=>k 0 [.B y]) (fun y=>k 1 [.L y.1,.L y.2.1,.L y.2.2.1,.B y.2.2.2]))) ds) ds) ds⟩
theorem q_Z66 (x0 x1:List D):JX (Jr [e_Z50,e_Z63,e_Z65]) (Js []) A 47 Try.f47 (Sh.mks e_Z66.sh [.L x0,.L x1]).1 (fun v os=>some (v,os))=c_Z66 x0 x1 (Sum.elim (fun y=>J0 e_Z66 0 [.B y]) (fun y=>J0 e_Z66 1 [.L y.1,.L y.2.1,.L y.2.2.1,.B y.2.2.2])):=by kernel_rfl
theorem e_Z66_ok:e_Z66.ok Try.prog A:=by
 intro R ds k r h
 unfold e_Z66 at h
 obtain ⟨_,_,rfl,h⟩:=Ja h
 obtain ⟨_,_,rfl,h⟩:=Ja h
 obtain ⟨rfl,hE⟩:=Je h
 obtain ⟨y,hy,hk⟩:=Jf hE
 cases y with
 | inl y=>
  exact ⟨0,_,_,_,hk,rfl,J1 px (fx:=⟨Try.func47,by kernel_rfl,by kernel_rfl⟩) (Jt e_Z50_ok (Jt e_Z63_ok (Jt e_Z65_ok Jn))) Jo ((q_Z66 ..).trans ((c_Z66_bind ..).trans (Jg hy)))⟩
 | inr y=>
  exact ⟨1,_,_,_,hk,rfl,J1 px (fx:=⟨Try.func47,by kernel_rfl,by kernel_rfl⟩) (Jt e_Z50_ok (Jt e_Z63_ok (Jt e_Z65_ok Jn))) Jo ((q_Z66 ..).trans ((c_Z66_bind ..).trans (Jg hy)))⟩

/-!-/
def c_Z67 {R:Type} (x0:List D) (k:List D→Option R):Option R:=
 if (1:Nat)≤x0.length then
 if ([]:List D).length+x0.length≤(4294967296:Nat) then
 k ([]++x0)
 else
 none
 else
 Ob (
 if ([]:List D).length+x0.length≤(4294967296:Nat) then
 k ([]++x0)
 else
 none) (
 k [])
theorem c_Z67_imp {R:Type} (x0:List D) (k:List D→Option R) (y:List D) (hy:c_Z67 x0 some=some y):c_Z67 x0 k=k y:=by
 revert hy
 unfold c_Z67
 repeat' first
  | exact qC
  | exact qD
  | exact qE
  | apply qJ
  | apply qF
  | apply qG
  | apply qI
  | (apply qH;intro _)
  | intro _
def Z67 (x0:List D):Option (List D):=c_Z67 x0 some
def e_Z67:Ent:=⟨48,[.rd (.struct [.int .i64,.int .i64])],[(.own (.struct [.int .i64,.int .i64]),[.undef])],fun _ ds k=>dL (fun x0 ds=>dE ((Z67 x0).bind (fun y=>k 0 [.L y])) ds) ds⟩
theorem q_Z67 (x0:List D):JX (Jr []) (Js []) A 48 Try.f48 (Sh.mks e_Z67.sh [.L x0]).1 (fun v os=>some (v,os))=c_Z67 x0 (fun y=>J0 e_Z67 0 [.L y]):=by kernel_rfl
theorem e_Z67_ok:e_Z67.ok Try.prog A:=by
 intro R ds k r h
 unfold e_Z67 at h
 obtain ⟨_,_,rfl,h⟩:=Ja h
 obtain ⟨rfl,hE⟩:=Je h
 obtain ⟨y,hy,hk⟩:=Jf hE
 exact ⟨0,_,_,_,hk,rfl,J1 px (fx:=⟨Try.func48,by kernel_rfl,by kernel_rfl⟩) Jn Jo ((q_Z67 ..).trans (c_Z67_imp (hy:=hy) ..))⟩

/-!-/
def c_Z68 {R:Type} (x0 x1:Int) (k:Bool→Option R):Option R:=
 none
theorem c_Z68_bind {R:Type} (x0 x1:Int) (k:Bool→Option R):c_Z68 x0 x1 k=(c_Z68 x0 x1 some).bind k:=by
 unfold c_Z68
 repeat' first
  | exact JA
  | exact Jz
  | exact Jy
  | apply Jv
  | apply Jw
  | apply JB
  | (apply Jx;intro _)
  | intro _
def Z68 (x0 x1:Int):Option (Bool):=c_Z68 x0 x1 some
def e_Z68:Ent:=⟨104,[.nilptr,.int .i64,.int .i64],[(.bool,[.undef,.undef,.undef])],fun _ ds k=>dI (fun x0 ds=>dI (fun x1 ds=>dE ((Z68 x0 x1).bind (fun y=>k 0 [.B y])) ds) ds) ds⟩
theorem q_Z68 (x0 x1:Int):JX (Jr []) (Js []) A 104 Try.f104 (Sh.mks e_Z68.sh [.I x0,.I x1]).1 (fun v os=>some (v,os))=c_Z68 x0 x1 (fun y=>J0 e_Z68 0 [.B y]):=by kernel_rfl
theorem e_Z68_ok:e_Z68.ok Try.prog A:=by
 intro R ds k r h
 unfold e_Z68 at h
 obtain ⟨_,_,rfl,h⟩:=Jb h
 obtain ⟨_,_,rfl,h⟩:=Jb h
 obtain ⟨rfl,hE⟩:=Je h
 obtain ⟨y,hy,hk⟩:=Jf hE
 exact ⟨0,_,_,_,hk,rfl,J1 px (fx:=⟨Try.func104,by kernel_rfl,by kernel_rfl⟩) Jn Jo ((q_Z68 ..).trans ((c_Z68_bind ..).trans (Jg hy)))⟩

/-!-/
abbrev T_Z69:=Bool→List D→Int→Int→List D→List D→List D→Option (List D)
def c_Z69 {R:Type} (F:T_Z69) (x0:Bool) (x1:List D) (x2 x3:Int) (x4 x5 x6:List D) (k:List D→Option R):Option R:=
 bif decide (x3<x2) then
 if 0≤x3∧x3<(↑x1.length:Int) then
 (Z43 x4 x5 (((x1.getD x3.toNat (D.int 0)).fld (0:Nat)).toInt)).bind (fun y0=>
 (Z43 x4 x5 (((x1.getD x3.toNat (D.int 0)).fld (1:Nat)).toInt)).bind (fun y1=>
 (Z68 y0 y1).bind (fun y2=>
 bif y2==x0 then
 if x6.length+[D.node [D.int ((x1.getD x3.toNat (D.int 0)).fld (0:Nat)).toInt,D.int ((x1.getD x3.toNat (D.int 0)).fld (1:Nat)).toInt]].length≤(4294967296:Nat) then
 (F x0 x1 x2 (IntKind.i64.wrap (x3+1)) x4 x5 (x6++[D.node [D.int ((x1.getD x3.toNat (D.int 0)).fld (0:Nat)).toInt,D.int ((x1.getD x3.toNat (D.int 0)).fld (1:Nat)).toInt]])).bind k
 else
 none
 else
 (F x0 x1 x2 (IntKind.i64.wrap (x3+1)) x4 x5 x6).bind k)))
 else
 none
 else
 k x6
theorem c_Z69_bind {R:Type} (F:T_Z69) (x0:Bool) (x1:List D) (x2 x3:Int) (x4 x5 x6:List D) (k:List D→Option R):c_Z69 F x0 x1 x2 x3 x4 x5 x6 k=(c_Z69 F x0 x1 x2 x3 x4 x5 x6 some).bind k:=by
 unfold c_Z69
 repeat' first
  | exact JA
  | exact Jz
  | exact Jy
  | apply Jv
  | apply Jw
  | apply JB
  | (apply Jx;intro _)
  | intro _
def n_Z69:Nat→T_Z69
 | 0,_,_,_,_,_,_,_=>none
 | n+1,x0,x1,x2,x3,x4,x5,x6=>c_Z69 (n_Z69 n) x0 x1 x2 x3 x4 x5 x6 some
noncomputable def Z69 (x0:Bool) (x1:List D) (x2 x3:Int) (x4 x5 x6:List D):Option (List D):=ev (fun n=>n_Z69 n x0 x1 x2 x3 x4 x5 x6)
def m_Z69 (F:T_Z69):Jq:=⟨3,⟨(.undef::.nilptr::.bool::.ptr 1000 [0]::.undef::.undef::.undef::.full 1001 [] (.struct [.int .i64,.int .i64])::uu 4 (.rd (.struct [.int .i64,.int .i64])::.int .i64::.int .i64::uu 21 ([]))),[(1000,.obox (.agg [.rd (.struct [.int .i64,.int .i64]),.rd (.struct [.int .i64,.int .i64])])),(1001,.own (.struct [.int .i64,.int .i64]))]⟩,[(.exit 0,⟨(uu 7 (.full 1000 [] (.struct [.int .i64,.int .i64])::uu 28 ([]))),[(1000,.own (.struct [.int .i64,.int .i64]))]⟩)],fun _ ds k=>dB (fun x0 ds=>dL (fun x1 ds=>dI (fun x2 ds=>dI (fun x3 ds=>dL (fun x4 ds=>dL (fun x5 ds=>dL (fun x6 ds=>dE ((F x0 x1 x2 x3 x4 x5 x6).bind (fun y=>k 0 [.L y])) ds) ds) ds) ds) ds) ds) ds) ds⟩
theorem q_Z69 (F:T_Z69) (x0:Bool) (x1:List D) (x2 x3:Int) (x4 x5 x6:List D):J2 (Jr [e_Z43,e_Z68]) (Js [m_Z69 F]) A 49 (Jk (Jh Try.f49) 3) ((m_Z69 F).sh.mk' [.B x0,.L x1,.I x2,.I x3,.L x4,.L x5,.L x6]) (fun e σ'=>some (e,σ'))=c_Z69 F x0 x1 x2 x3 x4 x5 x6 (fun y=>some (.exit 0,SSt.mk' ⟨(uu 7 (.full 1000 [] (.struct [.int .i64,.int .i64])::uu 28 ([]))),[(1000,.own (.struct [.int .i64,.int .i64]))]⟩ [.L y])):=by kernel_rfl
theorem m_Z69_ok:∀ n,(m_Z69 (n_Z69 n)).ok Try.prog (Jk (Jh Try.f49) 3):=by
 intro n
 induction n with
 | zero=>
  intro R ds k r h
  unfold m_Z69 at h
  obtain ⟨_,_,rfl,h⟩:=Us h
  obtain ⟨_,_,rfl,h⟩:=Ja h
  obtain ⟨_,_,rfl,h⟩:=Jb h
  obtain ⟨_,_,rfl,h⟩:=Jb h
  obtain ⟨_,_,rfl,h⟩:=Ja h
  obtain ⟨_,_,rfl,h⟩:=Ja h
  obtain ⟨_,_,rfl,h⟩:=Ja h
  obtain ⟨rfl,hE⟩:=Je h
  obtain ⟨y,hy,hk⟩:=Jf hE
  cases hy
 | succ n ih=>
  intro R ds k r h
  unfold m_Z69 at h
  obtain ⟨_,_,rfl,h⟩:=Us h
  obtain ⟨_,_,rfl,h⟩:=Ja h
  obtain ⟨_,_,rfl,h⟩:=Jb h
  obtain ⟨_,_,rfl,h⟩:=Jb h
  obtain ⟨_,_,rfl,h⟩:=Ja h
  obtain ⟨_,_,rfl,h⟩:=Ja h
  obtain ⟨_,_,rfl,h⟩:=Ja h
  obtain ⟨rfl,hE⟩:=Je h
  obtain ⟨y,hy,hk⟩:=Jf hE
  exact ⟨0,_,_,_,hk,rfl,JP px (fx:=⟨Try.func49,by kernel_rfl,by kernel_rfl⟩) (Jt e_Z43_ok (Jt e_Z68_ok Jn)) (Jm ih Jo) (by kernel_rfl) ((q_Z69 ..).trans ((c_Z69_bind ..).trans (Jg hy)))⟩
noncomputable def e_Z69:Jq:=m_Z69 (Z69)
theorem e_Z69_ok:(e_Z69).ok Try.prog (Jk (Jh Try.f49) 3):=by
 intro R ds k r h
 unfold e_Z69 m_Z69 at h
 obtain ⟨_,_,rfl,h⟩:=Us h
 obtain ⟨_,_,rfl,h⟩:=Ja h
 obtain ⟨_,_,rfl,h⟩:=Jb h
 obtain ⟨_,_,rfl,h⟩:=Jb h
 obtain ⟨_,_,rfl,h⟩:=Ja h
 obtain ⟨_,_,rfl,h⟩:=Ja h
 obtain ⟨_,_,rfl,h⟩:=Ja h
 obtain ⟨rfl,hE⟩:=Je h
 obtain ⟨y,hy,hk⟩:=Jf hE
 obtain ⟨n,hn⟩:=J5 hy
 exact m_Z69_ok n R _ k r ((Jg hn).trans hk)

/-!-/
def c_Z70 {R:Type} (x0 x1:List D) (x2:Bool) (k:List D→Option R):Option R:=
 (Z69 x2 x1 (↑x1.length:Int) (0:Int) x0 x1 []).bind (fun y0=>
 k y0)
theorem c_Z70_bind {R:Type} (x0 x1:List D) (x2:Bool) (k:List D→Option R):c_Z70 x0 x1 x2 k=(c_Z70 x0 x1 x2 some).bind k:=by
 unfold c_Z70
 repeat' first
  | exact JA
  | exact Jz
  | exact Jy
  | apply Jv
  | apply Jw
  | apply JB
  | (apply Jx;intro _)
  | intro _
def Z70 (x0 x1:List D) (x2:Bool):Option (List D):=c_Z70 x0 x1 x2 some
def e_Z70:Ent:=⟨49,[.agg [.rd (.struct [.int .i64,.int .i64]),.rd (.struct [.int .i64,.int .i64])],.nilptr,.bool],[(.own (.struct [.int .i64,.int .i64]),[.undef,.undef,.undef])],fun _ ds k=>dL (fun x0 ds=>dL (fun x1 ds=>dB (fun x2 ds=>dE ((Z70 x0 x1 x2).bind (fun y=>k 0 [.L y])) ds) ds) ds) ds⟩
theorem q_Z70 (x0 x1:List D) (x2:Bool):JX (Jr []) (Js [e_Z69]) A 49 Try.f49 (Sh.mks e_Z70.sh [.L x0,.L x1,.B x2]).1 (fun v os=>some (v,os))=c_Z70 x0 x1 x2 (fun y=>J0 e_Z70 0 [.L y]):=by kernel_rfl
theorem e_Z70_ok:e_Z70.ok Try.prog A:=by
 intro R ds k r h
 unfold e_Z70 at h
 obtain ⟨_,_,rfl,h⟩:=Ja h
 obtain ⟨_,_,rfl,h⟩:=Ja h
 obtain ⟨_,_,rfl,h⟩:=Us h
 obtain ⟨rfl,hE⟩:=Je h
 obtain ⟨y,hy,hk⟩:=Jf hE
 exact ⟨0,_,_,_,hk,rfl,J1 px (fx:=⟨Try.func49,by kernel_rfl,by kernel_rfl⟩) Jn (Jm e_Z69_ok Jo) ((q_Z70 ..).trans ((c_Z70_bind ..).trans (Jg hy)))⟩

/-!-/
abbrev T_Z71:=List D→List D→List D→Int→Int→Int→Int→Option ((Bool)⊕(Unit))
def c_Z71 {R:Type} (F:T_Z71) (x0 x1 x2:List D) (x3 x4 x5 x6:Int) (k:(Bool)⊕(Unit)→Option R):Option R:=
 bif decide (x6<x5) then
 if 0≤x3∧x3<(↑x1.length:Int) then
 if 0≤x6∧x6<(↑(x1.getD x3.toNat (D.int 0)).items.length:Int) then
 bif ((x1.getD x3.toNat (D.int 0)).items.getD x6.toNat (D.int 0)).toBool then
 if 0≤x6∧x6<(↑x2.length:Int) then
 if 0≤x4∧x4<(↑(x2.getD x6.toNat (D.int 0)).items.length:Int) then
 bif ((x2.getD x6.toNat (D.int 0)).items.getD x4.toNat (D.int 0)).toBool then
 k (.inl Bool.true)
 else
 (F x0 x1 x2 x3 x4 x5 (IntKind.i64.wrap (x6+1))).bind k
 else
 none
 else
 none
 else
 (F x0 x1 x2 x3 x4 x5 (IntKind.i64.wrap (x6+1))).bind k
 else
 none
 else
 none
 else
 k (.inr ())
theorem c_Z71_bind {R:Type} (F:T_Z71) (x0 x1 x2:List D) (x3 x4 x5 x6:Int) (k:(Bool)⊕(Unit)→Option R):c_Z71 F x0 x1 x2 x3 x4 x5 x6 k=(c_Z71 F x0 x1 x2 x3 x4 x5 x6 some).bind k:=by
 unfold c_Z71
 repeat' first
  | exact JA
  | exact Jz
  | exact Jy
  | apply Jv
  | apply Jw
  | apply JB
  | (apply Jx;intro _)
  | intro _
def n_Z71:Nat→T_Z71
 | 0,_,_,_,_,_,_,_=>none
 | n+1,x0,x1,x2,x3,x4,x5,x6=>c_Z71 (n_Z71 n) x0 x1 x2 x3 x4 x5 x6 some
noncomputable def Z71 (x0 x1 x2:List D) (x3 x4 x5 x6:Int):Option ((Bool)⊕(Unit)):=ev (fun n=>n_Z71 n x0 x1 x2 x3 x4 x5 x6)
def m_Z71 (F:T_Z71):Jq:=⟨2,⟨(.rp (.agg [.rd (.int .i64),.rd (.slice (.bool)),.rd (.slice (.bool))])::.int .i64::.int .i64::uu 9 (.int .i64::.int .i64::uu 25 ([]))),[]⟩,[(.ret,⟨(uu 6 (.bool::uu 32 ([]))),[]⟩),(.exit 0,⟨(uu 39 ([])),[]⟩)],fun _ ds k=>dL (fun x0 ds=>dL (fun x1 ds=>dL (fun x2 ds=>dI (fun x3 ds=>dI (fun x4 ds=>dI (fun x5 ds=>dI (fun x6 ds=>dE ((F x0 x1 x2 x3 x4 x5 x6).bind (Sum.elim (fun y=>k 0 [.B y]) (fun y=>k 1 []))) ds) ds) ds) ds) ds) ds) ds) ds⟩
theorem q_Z71 (F:T_Z71) (x0 x1 x2:List D) (x3 x4 x5 x6:Int):J2 (Jr []) (Js [m_Z71 F]) A 104 (Jk (Jh Try.f104) 2) ((m_Z71 F).sh.mk' [.L x0,.L x1,.L x2,.I x3,.I x4,.I x5,.I x6]) (fun e σ'=>some (e,σ'))=c_Z71 F x0 x1 x2 x3 x4 x5 x6 (Sum.elim (fun y=>some (.ret,SSt.mk' ⟨(uu 6 (.bool::uu 32 ([]))),[]⟩ [.B y])) (fun y=>some (.exit 0,SSt.mk' ⟨(uu 39 ([])),[]⟩ []))):=by kernel_rfl
theorem m_Z71_ok:∀ n,(m_Z71 (n_Z71 n)).ok Try.prog (Jk (Jh Try.f104) 2):=by
 intro n
 induction n with
 | zero=>
  intro R ds k r h
  unfold m_Z71 at h
  obtain ⟨_,_,rfl,h⟩:=Ja h
  obtain ⟨_,_,rfl,h⟩:=Ja h
  obtain ⟨_,_,rfl,h⟩:=Ja h
  obtain ⟨_,_,rfl,h⟩:=Jb h
  obtain ⟨_,_,rfl,h⟩:=Jb h
  obtain ⟨_,_,rfl,h⟩:=Jb h
  obtain ⟨_,_,rfl,h⟩:=Jb h
  obtain ⟨rfl,hE⟩:=Je h
  obtain ⟨y,hy,hk⟩:=Jf hE
  cases hy
 | succ n ih=>
  intro R ds k r h
  unfold m_Z71 at h
  obtain ⟨_,_,rfl,h⟩:=Ja h
  obtain ⟨_,_,rfl,h⟩:=Ja h
  obtain ⟨_,_,rfl,h⟩:=Ja h
  obtain ⟨_,_,rfl,h⟩:=Jb h
  obtain ⟨_,_,rfl,h⟩:=Jb h
  obtain ⟨_,_,rfl,h⟩:=Jb h
  obtain ⟨_,_,rfl,h⟩:=Jb h
  obtain ⟨rfl,hE⟩:=Je h
  obtain ⟨y,hy,hk⟩:=Jf hE
  cases y with
  | inl y=>
   exact ⟨0,_,_,_,hk,rfl,JP px (fx:=⟨Try.func104,by kernel_rfl,by kernel_rfl⟩) Jn (Jm ih Jo) (by kernel_rfl) ((q_Z71 ..).trans ((c_Z71_bind ..).trans (Jg hy)))⟩
  | inr y=>
   exact ⟨1,_,_,_,hk,rfl,JP px (fx:=⟨Try.func104,by kernel_rfl,by kernel_rfl⟩) Jn (Jm ih Jo) (by kernel_rfl) ((q_Z71 ..).trans ((c_Z71_bind ..).trans (Jg hy)))⟩
noncomputable def e_Z71:Jq:=m_Z71 (Z71)
theorem e_Z71_ok:(e_Z71).ok Try.prog (Jk (Jh Try.f104) 2):=by
 intro R ds k r h
 unfold e_Z71 m_Z71 at h
 obtain ⟨_,_,rfl,h⟩:=Ja h
 obtain ⟨_,_,rfl,h⟩:=Ja h
 obtain ⟨_,_,rfl,h⟩:=Ja h
 obtain ⟨_,_,rfl,h⟩:=Jb h
 obtain ⟨_,_,rfl,h⟩:=Jb h
 obtain ⟨_,_,rfl,h⟩:=Jb h
 obtain ⟨_,_,rfl,h⟩:=Jb h
 obtain ⟨rfl,hE⟩:=Je h
 obtain ⟨y,hy,hk⟩:=Jf hE
 obtain ⟨n,hn⟩:=J5 hy
 exact m_Z71_ok n R _ k r ((Jg hn).trans hk)

/-!-/
def c_Z72 {R:Type} (x0 x1 x2:List D) (x3 x4:Int) (k:Bool→Option R):Option R:=
 (Z71 x0 x1 x2 x3 x4 (↑x0.length:Int) (0:Int)).bind (Sum.elim (fun y0=>
 k y0) (fun y1=>
 k Bool.false))
theorem c_Z72_bind {R:Type} (x0 x1 x2:List D) (x3 x4:Int) (k:Bool→Option R):c_Z72 x0 x1 x2 x3 x4 k=(c_Z72 x0 x1 x2 x3 x4 some).bind k:=by
 unfold c_Z72
 repeat' first
  | exact JA
  | exact Jz
  | exact Jy
  | apply Jv
  | apply Jw
  | apply JB
  | (apply Jx;intro _)
  | intro _
def Z72 (x0 x1 x2:List D) (x3 x4:Int):Option (Bool):=c_Z72 x0 x1 x2 x3 x4 some
def e_Z72:Ent:=⟨104,[.rp (.agg [.rd (.int .i64),.rd (.slice (.bool)),.rd (.slice (.bool))]),.int .i64,.int .i64],[(.bool,[.undef,.undef,.undef])],fun _ ds k=>dL (fun x0 ds=>dL (fun x1 ds=>dL (fun x2 ds=>dI (fun x3 ds=>dI (fun x4 ds=>dE ((Z72 x0 x1 x2 x3 x4).bind (fun y=>k 0 [.B y])) ds) ds) ds) ds) ds) ds⟩
theorem q_Z72 (x0 x1 x2:List D) (x3 x4:Int):JX (Jr []) (Js [e_Z71]) A 104 Try.f104 (Sh.mks e_Z72.sh [.L x0,.L x1,.L x2,.I x3,.I x4]).1 (fun v os=>some (v,os))=c_Z72 x0 x1 x2 x3 x4 (fun y=>J0 e_Z72 0 [.B y]):=by kernel_rfl
theorem e_Z72_ok:e_Z72.ok Try.prog A:=by
 intro R ds k r h
 unfold e_Z72 at h
 obtain ⟨_,_,rfl,h⟩:=Ja h
 obtain ⟨_,_,rfl,h⟩:=Ja h
 obtain ⟨_,_,rfl,h⟩:=Ja h
 obtain ⟨_,_,rfl,h⟩:=Jb h
 obtain ⟨_,_,rfl,h⟩:=Jb h
 obtain ⟨rfl,hE⟩:=Je h
 obtain ⟨y,hy,hk⟩:=Jf hE
 exact ⟨0,_,_,_,hk,rfl,J1 px (fx:=⟨Try.func104,by kernel_rfl,by kernel_rfl⟩) Jn (Jm e_Z71_ok Jo) ((q_Z72 ..).trans ((c_Z72_bind ..).trans (Jg hy)))⟩

/-!-/
abbrev T_Z73:=List D→List D→List D→Bool→List D→Int→Int→List D→List D→List D→Option (List D)
def c_Z73 {R:Type} (F:T_Z73) (x0 x1 x2:List D) (x3:Bool) (x4:List D) (x5 x6:Int) (x7 x8 x9:List D) (k:List D→Option R):Option R:=
 bif decide (x6<x5) then
 if 0≤x6∧x6<(↑x4.length:Int) then
 (Z43 x7 x8 (((x4.getD x6.toNat (D.int 0)).fld (0:Nat)).toInt)).bind (fun y0=>
 (Z43 x7 x8 (((x4.getD x6.toNat (D.int 0)).fld (1:Nat)).toInt)).bind (fun y1=>
 (Z72 x0 x1 x2 y0 y1).bind (fun y2=>
 bif y2==x3 then
 if x9.length+[D.node [D.int ((x4.getD x6.toNat (D.int 0)).fld (0:Nat)).toInt,D.int ((x4.getD x6.toNat (D.int 0)).fld (1:Nat)).toInt]].length≤(4294967296:Nat) then
 (F x0 x1 x2 x3 x4 x5 (IntKind.i64.wrap (x6+1)) x7 x8 (x9++[D.node [D.int ((x4.getD x6.toNat (D.int 0)).fld (0:Nat)).toInt,D.int ((x4.getD x6.toNat (D.int 0)).fld (1:Nat)).toInt]])).bind k
 else
 none
 else
 (F x0 x1 x2 x3 x4 x5 (IntKind.i64.wrap (x6+1)) x7 x8 x9).bind k)))
 else
 none
 else
 k x9
theorem c_Z73_bind {R:Type} (F:T_Z73) (x0 x1 x2:List D) (x3:Bool) (x4:List D) (x5 x6:Int) (x7 x8 x9:List D) (k:List D→Option R):c_Z73 F x0 x1 x2 x3 x4 x5 x6 x7 x8 x9 k=(c_Z73 F x0 x1 x2 x3 x4 x5 x6 x7 x8 x9 some).bind k:=by
 unfold c_Z73
 repeat' first
  | exact JA
  | exact Jz
  | exact Jy
  | apply Jv
  | apply Jw
  | apply JB
  | (apply Jx;intro _)
  | intro _
def n_Z73:Nat→T_Z73
 | 0,_,_,_,_,_,_,_,_,_,_=>none
 | n+1,x0,x1,x2,x3,x4,x5,x6,x7,x8,x9=>c_Z73 (n_Z73 n) x0 x1 x2 x3 x4 x5 x6 x7 x8 x9 some
noncomputable def Z73 (x0 x1 x2:List D) (x3:Bool) (x4:List D) (x5 x6:Int) (x7 x8 x9:List D):Option (List D):=ev (fun n=>n_Z73 n x0 x1 x2 x3 x4 x5 x6 x7 x8 x9)
def m_Z73 (F:T_Z73):Jq:=⟨3,⟨(.undef::.rp (.agg [.rd (.int .i64),.rd (.slice (.bool)),.rd (.slice (.bool))])::.bool::.ptr 1000 [0]::.undef::.undef::.undef::.full 1001 [] (.struct [.int .i64,.int .i64])::uu 4 (.rd (.struct [.int .i64,.int .i64])::.int .i64::.int .i64::uu 21 ([]))),[(1000,.obox (.agg [.rd (.struct [.int .i64,.int .i64]),.rd (.struct [.int .i64,.int .i64])])),(1001,.own (.struct [.int .i64,.int .i64]))]⟩,[(.exit 0,⟨(uu 7 (.full 1000 [] (.struct [.int .i64,.int .i64])::uu 28 ([]))),[(1000,.own (.struct [.int .i64,.int .i64]))]⟩)],fun _ ds k=>dL (fun x0 ds=>dL (fun x1 ds=>dL (fun x2 ds=>dB (fun x3 ds=>dL (fun x4 ds=>dI (fun x5 ds=>dI (fun x6 ds=>dL (fun x7 ds=>dL (fun x8 ds=>dL (fun x9 ds=>dE ((F x0 x1 x2 x3 x4 x5 x6 x7 x8 x9).bind (fun y=>k 0 [.L y])) ds) ds) ds) ds) ds) ds) ds) ds) ds) ds) ds⟩
theorem q_Z73 (F:T_Z73) (x0 x1 x2:List D) (x3:Bool) (x4:List D) (x5 x6:Int) (x7 x8 x9:List D):J2 (Jr [e_Z43,e_Z72]) (Js [m_Z73 F]) A 49 (Jk (Jh Try.f49) 3) ((m_Z73 F).sh.mk' [.L x0,.L x1,.L x2,.B x3,.L x4,.I x5,.I x6,.L x7,.L x8,.L x9]) (fun e σ'=>some (e,σ'))=c_Z73 F x0 x1 x2 x3 x4 x5 x6 x7 x8 x9 (fun y=>some (.exit 0,SSt.mk' ⟨(uu 7 (.full 1000 [] (.struct [.int .i64,.int .i64])::uu 28 ([]))),[(1000,.own (.struct [.int .i64,.int .i64]))]⟩ [.L y])):=by kernel_rfl
theorem m_Z73_ok:∀ n,(m_Z73 (n_Z73 n)).ok Try.prog (Jk (Jh Try.f49) 3):=by
 intro n
 induction n with
 | zero=>
  intro R ds k r h
  unfold m_Z73 at h
  obtain ⟨_,_,rfl,h⟩:=Ja h
  obtain ⟨_,_,rfl,h⟩:=Ja h
  obtain ⟨_,_,rfl,h⟩:=Ja h
  obtain ⟨_,_,rfl,h⟩:=Us h
  obtain ⟨_,_,rfl,h⟩:=Ja h
  obtain ⟨_,_,rfl,h⟩:=Jb h
  obtain ⟨_,_,rfl,h⟩:=Jb h
  obtain ⟨_,_,rfl,h⟩:=Ja h
  obtain ⟨_,_,rfl,h⟩:=Ja h
  obtain ⟨_,_,rfl,h⟩:=Ja h
  obtain ⟨rfl,hE⟩:=Je h
  obtain ⟨y,hy,hk⟩:=Jf hE
  cases hy
 | succ n ih=>
  intro R ds k r h
  unfold m_Z73 at h
  obtain ⟨_,_,rfl,h⟩:=Ja h
  obtain ⟨_,_,rfl,h⟩:=Ja h
  obtain ⟨_,_,rfl,h⟩:=Ja h
  obtain ⟨_,_,rfl,h⟩:=Us h
  obtain ⟨_,_,rfl,h⟩:=Ja h
  obtain ⟨_,_,rfl,h⟩:=Jb h
  obtain ⟨_,_,rfl,h⟩:=Jb h
  obtain ⟨_,_,rfl,h⟩:=Ja h
  obtain ⟨_,_,rfl,h⟩:=Ja h
  obtain ⟨_,_,rfl,h⟩:=Ja h
  obtain ⟨rfl,hE⟩:=Je h
  obtain ⟨y,hy,hk⟩:=Jf hE
  exact ⟨0,_,_,_,hk,rfl,JP px (fx:=⟨Try.func49,by kernel_rfl,by kernel_rfl⟩) (Jt e_Z43_ok (Jt e_Z72_ok Jn)) (Jm ih Jo) (by kernel_rfl) ((q_Z73 ..).trans ((c_Z73_bind ..).trans (Jg hy)))⟩
noncomputable def e_Z73:Jq:=m_Z73 (Z73)
theorem e_Z73_ok:(e_Z73).ok Try.prog (Jk (Jh Try.f49) 3):=by
 intro R ds k r h
 unfold e_Z73 m_Z73 at h
 obtain ⟨_,_,rfl,h⟩:=Ja h
 obtain ⟨_,_,rfl,h⟩:=Ja h
 obtain ⟨_,_,rfl,h⟩:=Ja h
 obtain ⟨_,_,rfl,h⟩:=Us h
 obtain ⟨_,_,rfl,h⟩:=Ja h
 obtain ⟨_,_,rfl,h⟩:=Jb h
 obtain ⟨_,_,rfl,h⟩:=Jb h
 obtain ⟨_,_,rfl,h⟩:=Ja h
 obtain ⟨_,_,rfl,h⟩:=Ja h
 obtain ⟨_,_,rfl,h⟩:=Ja h
 obtain ⟨rfl,hE⟩:=Je h
 obtain ⟨y,hy,hk⟩:=Jf hE
 obtain ⟨n,hn⟩:=J5 hy
 exact m_Z73_ok n R _ k r ((Jg hn).trans hk)

/-!-/
def c_Z74 {R:Type} (x0 x1 x2 x3 x4:List D) (x5:Bool) (k:List D→Option R):Option R:=
 (Z73 x2 x3 x4 x5 x1 (↑x1.length:Int) (0:Int) x0 x1 []).bind (fun y0=>
 k y0)
theorem c_Z74_bind {R:Type} (x0 x1 x2 x3 x4:List D) (x5:Bool) (k:List D→Option R):c_Z74 x0 x1 x2 x3 x4 x5 k=(c_Z74 x0 x1 x2 x3 x4 x5 some).bind k:=by
 unfold c_Z74
 repeat' first
  | exact JA
  | exact Jz
  | exact Jy
  | apply Jv
  | apply Jw
  | apply JB
  | (apply Jx;intro _)
  | intro _
def Z74 (x0 x1 x2 x3 x4:List D) (x5:Bool):Option (List D):=c_Z74 x0 x1 x2 x3 x4 x5 some
def e_Z74:Ent:=⟨49,[.agg [.rd (.struct [.int .i64,.int .i64]),.rd (.struct [.int .i64,.int .i64])],.rp (.agg [.rd (.int .i64),.rd (.slice (.bool)),.rd (.slice (.bool))]),.bool],[(.own (.struct [.int .i64,.int .i64]),[.undef,.undef,.undef])],fun _ ds k=>dL (fun x0 ds=>dL (fun x1 ds=>dL (fun x2 ds=>dL (fun x3 ds=>dL (fun x4 ds=>dB (fun x5 ds=>dE ((Z74 x0 x1 x2 x3 x4 x5).bind (fun y=>k 0 [.L y])) ds) ds) ds) ds) ds) ds) ds⟩
theorem q_Z74 (x0 x1 x2 x3 x4:List D) (x5:Bool):JX (Jr []) (Js [e_Z73]) A 49 Try.f49 (Sh.mks e_Z74.sh [.L x0,.L x1,.L x2,.L x3,.L x4,.B x5]).1 (fun v os=>some (v,os))=c_Z74 x0 x1 x2 x3 x4 x5 (fun y=>J0 e_Z74 0 [.L y]):=by kernel_rfl
theorem e_Z74_ok:e_Z74.ok Try.prog A:=by
 intro R ds k r h
 unfold e_Z74 at h
 obtain ⟨_,_,rfl,h⟩:=Ja h
 obtain ⟨_,_,rfl,h⟩:=Ja h
 obtain ⟨_,_,rfl,h⟩:=Ja h
 obtain ⟨_,_,rfl,h⟩:=Ja h
 obtain ⟨_,_,rfl,h⟩:=Ja h
 obtain ⟨_,_,rfl,h⟩:=Us h
 obtain ⟨rfl,hE⟩:=Je h
 obtain ⟨y,hy,hk⟩:=Jf hE
 exact ⟨0,_,_,_,hk,rfl,J1 px (fx:=⟨Try.func49,by kernel_rfl,by kernel_rfl⟩) Jn (Jm e_Z73_ok Jo) ((q_Z74 ..).trans ((c_Z74_bind ..).trans (Jg hy)))⟩

end
end Go.Proofs.Ytnoccadolcgifaa
