/- Models of Go functions and their contracts, printed by a program of this session. -/
import Derived.Test.YtdoaceeakjbgfaaClA
set_option linter.unusedVariables false
set_option maxRecDepth 100000
namespace Go.Proofs.Ytdoaceeakjbgfaa
open Go Go.Rai
noncomputable section
def Z0 {α β:Type} (a:α) (f:α→β):β:=f a
theorem bnd_lt {α β γ:Type} {a:γ} {f:γ→Option β} {g:γ→Option α} {k:α→Option β} (h:∀ z,f z=(g z).bind k):Z0 a f=(Z0 a g).bind k:=h a
/-!-/
def c_Z1 {R:Type} (x0:List D) (k:Bool→Option R):Option R:=
 k (decide ((65536:Int)<(↑x0.length:Int)))
theorem c_Z1_bind {R:Type} (x0:List D) (k:Bool→Option R):c_Z1 x0 k=(c_Z1 x0 some).bind k:=by
 unfold c_Z1
 repeat' first
  | exact Jy
  | exact Jx
  | exact Jw
  | apply Jt
  | apply Ju
  | apply Jz
  | (apply Jv; intro _)
  | intro _
def Z1 (x0:List D):Option (Bool):=c_Z1 x0 some
def e_Z1:Ent:=⟨13,[.rd (.int .u8)],[(.bool,[.undef])],fun _ ds k=>dL (fun x0 ds=>dE ((Z1 x0).bind (fun y=>k 0 [.B y])) ds) ds⟩
theorem q_Z1 (x0:List D):JR (Jp []) (Jq []) A 13 Try.f13 (Sh.mks e_Z1.sh [.L x0]).1 (fun v os=>some (v,os))=c_Z1 x0 (fun y=>JT e_Z1 0 [.B y]):=by kernel_rfl
theorem e_Z1_ok:e_Z1.ok Try.prog A:=by
 intro R ds k r h
 unfold e_Z1 at h
 obtain ⟨_,_,rfl,h⟩:=Ja h
 obtain ⟨rfl,hE⟩:=Je h
 obtain ⟨y,hy,hk⟩:=Jf hE
 exact ⟨0,_,_,_,hk,rfl,JU px (fx:=⟨Try.func13,by kernel_rfl,by kernel_rfl⟩) Jm Jn ((q_Z1 ..).trans ((c_Z1_bind ..).trans (Jg hy)))⟩

/-!-/
def c_Z2 {R:Type} (x0:List D) (x1 x2:Int) (k:Int×List D×Int×Int→Option R):Option R:=
 bif decide (x1<(↑x0.length:Int)) then
 if 0≤x1∧x1<(↑x0.length:Int) then
 bif decide (IntKind.i64.wrap (x1+1)≤(↑x0.length:Int)) then
 k (IntKind.i64.wrap (x0.getD x1.toNat (D.int 0)).toInt,x0,IntKind.i64.wrap (x1+1),IntKind.u64.wrap (IntKind.u64.wrap (IntKind.u64.wrap (x2 * (6364136223846793005:Int))+IntKind.u64.wrap (IntKind.i64.wrap (x0.getD x1.toNat (D.int 0)).toInt))+(876876:Int)))
 else
 if (0:Int)≤(40:Int) then
 k (IntKind.i64.wrap (IntKind.u64.wrap (↑(BitVec.ofInt IntKind.u64.bits ((IntKind.u64.wrap (IntKind.u64.wrap (IntKind.u64.wrap (x2 * (6364136223846793005:Int))+IntKind.u64.wrap (IntKind.i64.wrap (x0.getD x1.toNat (D.int 0)).toInt))+(876876:Int))).fdiv ((2:Int) ^ Min.min (Int.toNat (40:Int)) IntKind.u64.bits)) &&& BitVec.ofInt IntKind.u64.bits (255:Int)).toNat:Int)),x0,IntKind.i64.wrap (x1+1),IntKind.u64.wrap (IntKind.u64.wrap (IntKind.u64.wrap (x2 * (6364136223846793005:Int))+IntKind.u64.wrap (IntKind.i64.wrap (x0.getD x1.toNat (D.int 0)).toInt))+(876876:Int)))
 else
 none
 else
 none
 else
 bif decide (IntKind.i64.wrap (x1+1)≤(↑x0.length:Int)) then
 k ((0:Int),x0,IntKind.i64.wrap (x1+1),IntKind.u64.wrap (IntKind.u64.wrap (IntKind.u64.wrap (x2 * (6364136223846793005:Int))+IntKind.u64.wrap (0:Int))+(876876:Int)))
 else
 if (0:Int)≤(40:Int) then
 k (IntKind.i64.wrap (IntKind.u64.wrap (↑(BitVec.ofInt IntKind.u64.bits ((IntKind.u64.wrap (IntKind.u64.wrap (IntKind.u64.wrap (x2 * (6364136223846793005:Int))+IntKind.u64.wrap (0:Int))+(876876:Int))).fdiv ((2:Int) ^ Min.min (Int.toNat (40:Int)) IntKind.u64.bits)) &&& BitVec.ofInt IntKind.u64.bits (255:Int)).toNat:Int)),x0,IntKind.i64.wrap (x1+1),IntKind.u64.wrap (IntKind.u64.wrap (IntKind.u64.wrap (x2 * (6364136223846793005:Int))+IntKind.u64.wrap (0:Int))+(876876:Int)))
 else
 none
theorem c_Z2_bind {R:Type} (x0:List D) (x1 x2:Int) (k:Int×List D×Int×Int→Option R):c_Z2 x0 x1 x2 k=(c_Z2 x0 x1 x2 some).bind k:=by
 unfold c_Z2
 repeat' first
  | exact Jy
  | exact Jx
  | exact Jw
  | apply Jt
  | apply Ju
  | apply Jz
  | (apply Jv; intro _)
  | intro _
def Z2 (x0:List D) (x1 x2:Int):Option (Int×List D×Int×Int):=c_Z2 x0 x1 x2 some
def e_Z2:Ent:=⟨206,[.obox (.agg [.rd (.int .u8),.int .i64,.int .u64])],[(.int .i64,[.obox (.agg [.rd (.int .u8),.int .i64,.int .u64])])],fun _ ds k=>dL (fun x0 ds=>dI (fun x1 ds=>dI (fun x2 ds=>dE ((Z2 x0 x1 x2).bind (fun y=>k 0 [.I y.1,.L y.2.1,.I y.2.2.1,.I y.2.2.2])) ds) ds) ds) ds⟩
theorem q_Z2 (x0:List D) (x1 x2:Int):JR (Jp []) (Jq []) A 206 Try.f206 (Sh.mks e_Z2.sh [.L x0,.I x1,.I x2]).1 (fun v os=>some (v,os))=c_Z2 x0 x1 x2 (fun y=>JT e_Z2 0 [.I y.1,.L y.2.1,.I y.2.2.1,.I y.2.2.2]):=by kernel_rfl
theorem e_Z2_ok:e_Z2.ok Try.prog A:=by
 intro R ds k r h
 unfold e_Z2 at h
 obtain ⟨_,_,rfl,h⟩:=Ja h
 obtain ⟨_,_,rfl,h⟩:=Jb h
 obtain ⟨_,_,rfl,h⟩:=Jb h
 obtain ⟨rfl,hE⟩:=Je h
 obtain ⟨y,hy,hk⟩:=Jf hE
 exact ⟨0,_,_,_,hk,rfl,JU px (fx:=⟨Try.func206,by kernel_rfl,by kernel_rfl⟩) Jm Jn ((q_Z2 ..).trans ((c_Z2_bind ..).trans (Jg hy)))⟩

/-!-/
def c_Z3 {R:Type} (x0:List D) (x1 x2 x3:Int) (k:Int×List D×Int×Int→Option R):Option R:=
 bif decide (x3≤(1:Int)) then
 k ((0:Int),x0,x1,x2)
 else
 (Z2 x0 x1 x2).bind (fun y0=>
 bif decide ((200:Int)<x3) then
 (Z2 y0.snd.fst y0.snd.snd.fst y0.snd.snd.snd).bind (fun y1=>
 if x3≠(0:Int) then
 k ((IntKind.i64.wrap (IntKind.i64.wrap (y0.fst * (256:Int))+y1.fst)).tmod x3,y1.snd.fst,y1.snd.snd.fst,y1.snd.snd.snd)
 else
 none)
 else
 if x3≠(0:Int) then
 k (y0.fst.tmod x3,y0.snd.fst,y0.snd.snd.fst,y0.snd.snd.snd)
 else
 none)
theorem c_Z3_bind {R:Type} (x0:List D) (x1 x2 x3:Int) (k:Int×List D×Int×Int→Option R):c_Z3 x0 x1 x2 x3 k=(c_Z3 x0 x1 x2 x3 some).bind k:=by
 unfold c_Z3
 repeat' first
  | exact Jy
  | exact Jx
  | exact Jw
  | apply Jt
  | apply Ju
  | apply Jz
  | (apply Jv; intro _)
  | intro _
def Z3 (x0:List D) (x1 x2 x3:Int):Option (Int×List D×Int×Int):=c_Z3 x0 x1 x2 x3 some
def e_Z3:Ent:=⟨154,[.obox (.agg [.rd (.int .u8),.int .i64,.int .u64]),.int .i64],[(.int .i64,[.obox (.agg [.rd (.int .u8),.int .i64,.int .u64]),.undef])],fun _ ds k=>dL (fun x0 ds=>dI (fun x1 ds=>dI (fun x2 ds=>dI (fun x3 ds=>dE ((Z3 x0 x1 x2 x3).bind (fun y=>k 0 [.I y.1,.L y.2.1,.I y.2.2.1,.I y.2.2.2])) ds) ds) ds) ds) ds⟩
theorem q_Z3 (x0:List D) (x1 x2 x3:Int):JR (Jp [e_Z2]) (Jq []) A 154 Try.f154 (Sh.mks e_Z3.sh [.L x0,.I x1,.I x2,.I x3]).1 (fun v os=>some (v,os))=c_Z3 x0 x1 x2 x3 (fun y=>JT e_Z3 0 [.I y.1,.L y.2.1,.I y.2.2.1,.I y.2.2.2]):=by kernel_rfl
theorem e_Z3_ok:e_Z3.ok Try.prog A:=by
 intro R ds k r h
 unfold e_Z3 at h
 obtain ⟨_,_,rfl,h⟩:=Ja h
 obtain ⟨_,_,rfl,h⟩:=Jb h
 obtain ⟨_,_,rfl,h⟩:=Jb h
 obtain ⟨_,_,rfl,h⟩:=Jb h
 obtain ⟨rfl,hE⟩:=Je h
 obtain ⟨y,hy,hk⟩:=Jf hE
 exact ⟨0,_,_,_,hk,rfl,JU px (fx:=⟨Try.func154,by kernel_rfl,by kernel_rfl⟩) (Jr e_Z2_ok Jm) Jn ((q_Z3 ..).trans ((c_Z3_bind ..).trans (Jg hy)))⟩

/-!-/
def c_Z4 {R:Type} (x0:List D) (x1 x2 x3:Int) (k:Bool×List D×Int×Int→Option R):Option R:=
 (Z3 x0 x1 x2 x3).bind (fun y0=>
 k (decide (y0.fst=(0:Int)),y0.snd.fst,y0.snd.snd.fst,y0.snd.snd.snd))
theorem c_Z4_bind {R:Type} (x0:List D) (x1 x2 x3:Int) (k:Bool×List D×Int×Int→Option R):c_Z4 x0 x1 x2 x3 k=(c_Z4 x0 x1 x2 x3 some).bind k:=by
 unfold c_Z4
 repeat' first
  | exact Jy
  | exact Jx
  | exact Jw
  | apply Jt
  | apply Ju
  | apply Jz
  | (apply Jv; intro _)
  | intro _
def Z4 (x0:List D) (x1 x2 x3:Int):Option (Bool×List D×Int×Int):=c_Z4 x0 x1 x2 x3 some
def e_Z4:Ent:=⟨131,[.obox (.agg [.rd (.int .u8),.int .i64,.int .u64]),.int .i64],[(.bool,[.obox (.agg [.rd (.int .u8),.int .i64,.int .u64]),.undef])],fun _ ds k=>dL (fun x0 ds=>dI (fun x1 ds=>dI (fun x2 ds=>dI (fun x3 ds=>dE ((Z4 x0 x1 x2 x3).bind (fun y=>k 0 [.B y.1,.L y.2.1,.I y.2.2.1,.I y.2.2.2])) ds) ds) ds) ds) ds⟩
theorem q_Z4 (x0:List D) (x1 x2 x3:Int):JR (Jp [e_Z3]) (Jq []) A 131 Try.f131 (Sh.mks e_Z4.sh [.L x0,.I x1,.I x2,.I x3]).1 (fun v os=>some (v,os))=c_Z4 x0 x1 x2 x3 (fun y=>JT e_Z4 0 [.B y.1,.L y.2.1,.I y.2.2.1,.I y.2.2.2]):=by kernel_rfl
theorem e_Z4_ok:e_Z4.ok Try.prog A:=by
 intro R ds k r h
 unfold e_Z4 at h
 obtain ⟨_,_,rfl,h⟩:=Ja h
 obtain ⟨_,_,rfl,h⟩:=Jb h
 obtain ⟨_,_,rfl,h⟩:=Jb h
 obtain ⟨_,_,rfl,h⟩:=Jb h
 obtain ⟨rfl,hE⟩:=Je h
 obtain ⟨y,hy,hk⟩:=Jf hE
 exact ⟨0,_,_,_,hk,rfl,JU px (fx:=⟨Try.func131,by kernel_rfl,by kernel_rfl⟩) (Jr e_Z3_ok Jm) Jn ((q_Z4 ..).trans ((c_Z4_bind ..).trans (Jg hy)))⟩

/-!-/
abbrev T_Z5:=Int→Int→Int→List D→Int→Int→List D→Option (List D×Int×Int×List D)
def c_Z5 {R:Type} (F:T_Z5) (x0 x1 x2:Int) (x3:List D) (x4 x5:Int) (x6:List D) (k:List D×Int×Int×List D→Option R):Option R:=
 bif decide (x2<x0) then
 (Z3 x3 x4 x5 (3:Int)).bind (fun y0=>
 (Z3 y0.snd.fst y0.snd.snd.fst y0.snd.snd.snd (4:Int)).bind (fun y1=>
 if x6.length+[D.node [D.int (IntKind.i64.wrap (IntKind.i64.wrap (x1+1)+y0.fst)),D.int (IntKind.i64.wrap ((1:Int)+y1.fst))]].length≤(4294967296:Nat) then
 (F x0 (IntKind.i64.wrap (IntKind.i64.wrap (x1+1)+y0.fst)) (IntKind.i64.wrap (x2+1)) y1.snd.fst y1.snd.snd.fst y1.snd.snd.snd (x6++[D.node [D.int (IntKind.i64.wrap (IntKind.i64.wrap (x1+1)+y0.fst)),D.int (IntKind.i64.wrap ((1:Int)+y1.fst))]])).bind k
 else
 none))
 else
 k (x3,x4,x5,x6)
theorem c_Z5_bind {R:Type} (F:T_Z5) (x0 x1 x2:Int) (x3:List D) (x4 x5:Int) (x6:List D) (k:List D×Int×Int×List D→Option R):c_Z5 F x0 x1 x2 x3 x4 x5 x6 k=(c_Z5 F x0 x1 x2 x3 x4 x5 x6 some).bind k:=by
 unfold c_Z5
 repeat' first
  | exact Jy
  | exact Jx
  | exact Jw
  | apply Jt
  | apply Ju
  | apply Jz
  | (apply Jv; intro _)
  | intro _
def n_Z5:Nat→T_Z5
 | 0,_,_,_,_,_,_,_=>none
 | n+1,x0,x1,x2,x3,x4,x5,x6=>c_Z5 (n_Z5 n) x0 x1 x2 x3 x4 x5 x6 some
noncomputable def Z5 (x0 x1 x2:Int) (x3:List D) (x4 x5:Int) (x6:List D):Option (List D×Int×Int×List D):=ev (fun n=>n_Z5 n x0 x1 x2 x3 x4 x5 x6)
def m_Z5 (F:T_Z5):JA:=⟨4,⟨(.ptr 1000 [0]::.int .i64::.undef::.undef::.undef::.full 1001 [] (.struct [.int .i64,.int .i64])::.int .i64::.int .i64::uu 20 ([])),[(1000,.obox (.agg [.rd (.int .u8),.int .i64,.int .u64])),(1001,.own (.struct [.int .i64,.int .i64]))]⟩,[(.exit 0,⟨(.ptr 1000 [0]::uu 4 (.full 1001 [] (.struct [.int .i64,.int .i64])::uu 22 ([]))),[(1000,.obox (.agg [.rd (.int .u8),.int .i64,.int .u64])),(1001,.own (.struct [.int .i64,.int .i64]))]⟩)],fun _ ds k=>dI (fun x0 ds=>dI (fun x1 ds=>dI (fun x2 ds=>dL (fun x3 ds=>dI (fun x4 ds=>dI (fun x5 ds=>dL (fun x6 ds=>dE ((F x0 x1 x2 x3 x4 x5 x6).bind (fun y=>k 0 [.L y.1,.I y.2.1,.I y.2.2.1,.L y.2.2.2])) ds) ds) ds) ds) ds) ds) ds) ds⟩
theorem q_Z5 (F:T_Z5) (x0 x1 x2:Int) (x3:List D) (x4 x5:Int) (x6:List D):JZ (Jp [e_Z3]) (Jq [m_Z5 F]) A 196 (Jj (Jh Try.f196) 4) ((m_Z5 F).sh.mk' [.I x0,.I x1,.I x2,.L x3,.I x4,.I x5,.L x6]) (fun e σ'=>some (e,σ'))=c_Z5 F x0 x1 x2 x3 x4 x5 x6 (fun y=>some (.exit 0,SSt.mk' ⟨(.ptr 1000 [0]::uu 4 (.full 1001 [] (.struct [.int .i64,.int .i64])::uu 22 ([]))),[(1000,.obox (.agg [.rd (.int .u8),.int .i64,.int .u64])),(1001,.own (.struct [.int .i64,.int .i64]))]⟩ [.L y.1,.I y.2.1,.I y.2.2.1,.L y.2.2.2])):=by kernel_rfl
theorem m_Z5_ok:∀ n,(m_Z5 (n_Z5 n)).ok Try.prog (Jj (Jh Try.f196) 4):=by
 intro n
 induction n with
 | zero=>
  intro R ds k r h
  unfold m_Z5 at h
  obtain ⟨_,_,rfl,h⟩:=Jb h
  obtain ⟨_,_,rfl,h⟩:=Jb h
  obtain ⟨_,_,rfl,h⟩:=Jb h
  obtain ⟨_,_,rfl,h⟩:=Ja h
  obtain ⟨_,_,rfl,h⟩:=Jb h
  obtain ⟨_,_,rfl,h⟩:=Jb h
  obtain ⟨_,_,rfl,h⟩:=Ja h
  obtain ⟨rfl,hE⟩:=Je h
  obtain ⟨y,hy,hk⟩:=Jf hE
  cases hy
 | succ n ih=>
  intro R ds k r h
  unfold m_Z5 at h
  obtain ⟨_,_,rfl,h⟩:=Jb h
  obtain ⟨_,_,rfl,h⟩:=Jb h
  obtain ⟨_,_,rfl,h⟩:=Jb h
  obtain ⟨_,_,rfl,h⟩:=Ja h
  obtain ⟨_,_,rfl,h⟩:=Jb h
  obtain ⟨_,_,rfl,h⟩:=Jb h
  obtain ⟨_,_,rfl,h⟩:=Ja h
  obtain ⟨rfl,hE⟩:=Je h
  obtain ⟨y,hy,hk⟩:=Jf hE
  exact ⟨0,_,_,_,hk,rfl,JO px (fx:=⟨Try.func196,by kernel_rfl,by kernel_rfl⟩) (Jr e_Z3_ok Jm) (Jo ih Jn) (by kernel_rfl) ((q_Z5 ..).trans ((c_Z5_bind ..).trans (Jg hy)))⟩
noncomputable def e_Z5:JA:=m_Z5 (Z5)
theorem e_Z5_ok:(e_Z5).ok Try.prog (Jj (Jh Try.f196) 4):=by
 intro R ds k r h
 unfold e_Z5 m_Z5 at h
 obtain ⟨_,_,rfl,h⟩:=Jb h
 obtain ⟨_,_,rfl,h⟩:=Jb h
 obtain ⟨_,_,rfl,h⟩:=Jb h
 obtain ⟨_,_,rfl,h⟩:=Ja h
 obtain ⟨_,_,rfl,h⟩:=Jb h
 obtain ⟨_,_,rfl,h⟩:=Jb h
 obtain ⟨_,_,rfl,h⟩:=Ja h
 obtain ⟨rfl,hE⟩:=Je h
 obtain ⟨y,hy,hk⟩:=Jf hE
 obtain ⟨n,hn⟩:=J4 hy
 exact m_Z5_ok n R _ k r ((Jg hn).trans hk)

/-!-/
def c_Z6 {R:Type} (x0:List D) (x1 x2 x3:Int) (k:List D×List D×Int×Int→Option R):Option R:=
 (Z5 x3 (0:Int) (0:Int) x0 x1 x2 []).bind (fun y0=>
 k (y0.snd.snd.snd,y0.fst,y0.snd.fst,y0.snd.snd.fst))
theorem c_Z6_bind {R:Type} (x0:List D) (x1 x2 x3:Int) (k:List D×List D×Int×Int→Option R):c_Z6 x0 x1 x2 x3 k=(c_Z6 x0 x1 x2 x3 some).bind k:=by
 unfold c_Z6
 repeat' first
  | exact Jy
  | exact Jx
  | exact Jw
  | apply Jt
  | apply Ju
  | apply Jz
  | (apply Jv; intro _)
  | intro _
def Z6 (x0:List D) (x1 x2 x3:Int):Option (List D×List D×Int×Int):=c_Z6 x0 x1 x2 x3 some
def e_Z6:Ent:=⟨196,[.obox (.agg [.rd (.int .u8),.int .i64,.int .u64]),.int .i64],[(.own (.struct [.int .i64,.int .i64]),[.obox (.agg [.rd (.int .u8),.int .i64,.int .u64]),.undef])],fun _ ds k=>dL (fun x0 ds=>dI (fun x1 ds=>dI (fun x2 ds=>dI (fun x3 ds=>dE ((Z6 x0 x1 x2 x3).bind (fun y=>k 0 [.L y.1,.L y.2.1,.I y.2.2.1,.I y.2.2.2])) ds) ds) ds) ds) ds⟩
theorem q_Z6 (x0:List D) (x1 x2 x3:Int):JR (Jp []) (Jq [e_Z5]) A 196 Try.f196 (Sh.mks e_Z6.sh [.L x0,.I x1,.I x2,.I x3]).1 (fun v os=>some (v,os))=c_Z6 x0 x1 x2 x3 (fun y=>JT e_Z6 0 [.L y.1,.L y.2.1,.I y.2.2.1,.I y.2.2.2]):=by kernel_rfl
theorem e_Z6_ok:e_Z6.ok Try.prog A:=by
 intro R ds k r h
 unfold e_Z6 at h
 obtain ⟨_,_,rfl,h⟩:=Ja h
 obtain ⟨_,_,rfl,h⟩:=Jb h
 obtain ⟨_,_,rfl,h⟩:=Jb h
 obtain ⟨_,_,rfl,h⟩:=Jb h
 obtain ⟨rfl,hE⟩:=Je h
 obtain ⟨y,hy,hk⟩:=Jf hE
 exact ⟨0,_,_,_,hk,rfl,JU px (fx:=⟨Try.func196,by kernel_rfl,by kernel_rfl⟩) Jm (Jo e_Z5_ok Jn) ((q_Z6 ..).trans ((c_Z6_bind ..).trans (Jg hy)))⟩

/-!-/
def c_Z7 {R:Type} (x0 x1 x2 x3:Int) (k:Bool→Option R):Option R:=
 bif decide (x0<x2) then
 k Bool.true
 else
 bif decide (x0=x2) then
 k (decide (x1<x3))
 else
 k Bool.false
theorem c_Z7_bind {R:Type} (x0 x1 x2 x3:Int) (k:Bool→Option R):c_Z7 x0 x1 x2 x3 k=(c_Z7 x0 x1 x2 x3 some).bind k:=by
 unfold c_Z7
 repeat' first
  | exact Jy
  | exact Jx
  | exact Jw
  | apply Jt
  | apply Ju
  | apply Jz
  | (apply Jv; intro _)
  | intro _
def Z7 (x0 x1 x2 x3:Int):Option (Bool):=c_Z7 x0 x1 x2 x3 some
def e_Z7:Ent:=⟨178,[.agg [.int .i64,.int .i64],.agg [.int .i64,.int .i64]],[(.bool,[.undef,.undef])],fun _ ds k=>dI (fun x0 ds=>dI (fun x1 ds=>dI (fun x2 ds=>dI (fun x3 ds=>dE ((Z7 x0 x1 x2 x3).bind (fun y=>k 0 [.B y])) ds) ds) ds) ds) ds⟩
theorem q_Z7 (x0 x1 x2 x3:Int):JR (Jp []) (Jq []) A 178 Try.f178 (Sh.mks e_Z7.sh [.I x0,.I x1,.I x2,.I x3]).1 (fun v os=>some (v,os))=c_Z7 x0 x1 x2 x3 (fun y=>JT e_Z7 0 [.B y]):=by kernel_rfl
theorem e_Z7_ok:e_Z7.ok Try.prog A:=by
 intro R ds k r h
 unfold e_Z7 at h
 obtain ⟨_,_,rfl,h⟩:=Jb h
 obtain ⟨_,_,rfl,h⟩:=Jb h
 obtain ⟨_,_,rfl,h⟩:=Jb h
 obtain ⟨_,_,rfl,h⟩:=Jb h
 obtain ⟨rfl,hE⟩:=Je h
 obtain ⟨y,hy,hk⟩:=Jf hE
 exact ⟨0,_,_,_,hk,rfl,JU px (fx:=⟨Try.func178,by kernel_rfl,by kernel_rfl⟩) Jm Jn ((q_Z7 ..).trans ((c_Z7_bind ..).trans (Jg hy)))⟩

/-!-/
abbrev T_Z8:=Int→List D→List D→Int→Int→Option (Int×List D×List D×Int×Int)
def c_Z8 {R:Type} (F:T_Z8) (x0:Int) (x1 x2:List D) (x3 x4:Int) (k:Int×List D×List D×Int×Int→Option R):Option R:=
 bif decide (x0<(↑x2.length:Int)) then
 if 0≤x0∧x0<(↑x2.length:Int) then
 if x0.toNat+1≤x2.length then
 (Z7 (((x2.getD x0.toNat (D.int 0)).fld (0:Nat)).toInt) (((x2.getD x0.toNat (D.int 0)).fld (1:Nat)).toInt) x3 x4).bind (fun y0=>
 bif y0 then
 (F (IntKind.i64.wrap (x0+1)) x1 x2 x3 x4).bind k
 else
 k (x0,x1,x2,x3,x4))
 else
 none
 else
 none
 else
 k (x0,x1,x2,x3,x4)
theorem c_Z8_bind {R:Type} (F:T_Z8) (x0:Int) (x1 x2:List D) (x3 x4:Int) (k:Int×List D×List D×Int×Int→Option R):c_Z8 F x0 x1 x2 x3 x4 k=(c_Z8 F x0 x1 x2 x3 x4 some).bind k:=by
 unfold c_Z8
 repeat' first
  | exact Jy
  | exact Jx
  | exact Jw
  | apply Jt
  | apply Ju
  | apply Jz
  | (apply Jv; intro _)
  | intro _
def n_Z8:Nat→T_Z8
 | 0,_,_,_,_,_=>none
 | n+1,x0,x1,x2,x3,x4=>c_Z8 (n_Z8 n) x0 x1 x2 x3 x4 some
noncomputable def Z8 (x0:Int) (x1 x2:List D) (x3 x4:Int):Option (Int×List D×List D×Int×Int):=ev (fun n=>n_Z8 n x0 x1 x2 x3 x4)
def m_Z8 (F:T_Z8):JA:=⟨2,⟨(.undef::.undef::.ptr 1000 [0]::.ptr 1001 [0]::.ptr 1002 [0]::.int .i64::uu 50 ([])),[(1000,.obox (.agg [.rd (.struct [.int .i64,.int .i64]),.own (.struct [.int .i64,.int .i64])])),(1001,.obox (.agg [.int .i64,.int .i64])),(1002,.obox (.agg [.nilsl,.nilsl]))]⟩,[(.exit 0,⟨(.undef::.undef::.ptr 1000 [0]::.ptr 1001 [0]::.ptr 1002 [0]::.int .i64::uu 50 ([])),[(1000,.obox (.agg [.rd (.struct [.int .i64,.int .i64]),.own (.struct [.int .i64,.int .i64])])),(1001,.obox (.agg [.int .i64,.int .i64])),(1002,.obox (.agg [.nilsl,.nilsl]))]⟩)],fun _ ds k=>dI (fun x0 ds=>dL (fun x1 ds=>dL (fun x2 ds=>dI (fun x3 ds=>dI (fun x4 ds=>dE ((F x0 x1 x2 x3 x4).bind (fun y=>k 0 [.I y.1,.L y.2.1,.L y.2.2.1,.I y.2.2.2.1,.I y.2.2.2.2])) ds) ds) ds) ds) ds) ds⟩
theorem q_Z8 (F:T_Z8) (x0:Int) (x1 x2:List D) (x3 x4:Int):JZ (Jp [e_Z7]) (Jq [m_Z8 F]) A 197 (Jj (Jh Try.f197) 2) ((m_Z8 F).sh.mk' [.I x0,.L x1,.L x2,.I x3,.I x4]) (fun e σ'=>some (e,σ'))=c_Z8 F x0 x1 x2 x3 x4 (fun y=>some (.exit 0,SSt.mk' ⟨(.undef::.undef::.ptr 1000 [0]::.ptr 1001 [0]::.ptr 1002 [0]::.int .i64::uu 50 ([])),[(1000,.obox (.agg [.rd (.struct [.int .i64,.int .i64]),.own (.struct [.int .i64,.int .i64])])),(1001,.obox (.agg [.int .i64,.int .i64])),(1002,.obox (.agg [.nilsl,.nilsl]))]⟩ [.I y.1,.L y.2.1,.L y.2.2.1,.I y.2.2.2.1,.I y.2.2.2.2])):=by kernel_rfl
theorem m_Z8_ok:∀ n,(m_Z8 (n_Z8 n)).ok Try.prog (Jj (Jh Try.f197) 2):=by
 intro n
 induction n with
 | zero=>
  intro R ds k r h
  unfold m_Z8 at h
  obtain ⟨_,_,rfl,h⟩:=Jb h
  obtain ⟨_,_,rfl,h⟩:=Ja h
  obtain ⟨_,_,rfl,h⟩:=Ja h
  obtain ⟨_,_,rfl,h⟩:=Jb h
  obtain ⟨_,_,rfl,h⟩:=Jb h
  obtain ⟨rfl,hE⟩:=Je h
  obtain ⟨y,hy,hk⟩:=Jf hE
  cases hy
 | succ n ih=>
  intro R ds k r h
  unfold m_Z8 at h
  obtain ⟨_,_,rfl,h⟩:=Jb h
  obtain ⟨_,_,rfl,h⟩:=Ja h
  obtain ⟨_,_,rfl,h⟩:=Ja h
  obtain ⟨_,_,rfl,h⟩:=Jb h
  obtain ⟨_,_,rfl,h⟩:=Jb h
  obtain ⟨rfl,hE⟩:=Je h
  obtain ⟨y,hy,hk⟩:=Jf hE
  exact ⟨0,_,_,_,hk,rfl,JO px (fx:=⟨Try.func197,by kernel_rfl,by kernel_rfl⟩) (Jr e_Z7_ok Jm) (Jo ih Jn) (by kernel_rfl) ((q_Z8 ..).trans ((c_Z8_bind ..).trans (Jg hy)))⟩
noncomputable def e_Z8:JA:=m_Z8 (Z8)
theorem e_Z8_ok:(e_Z8).ok Try.prog (Jj (Jh Try.f197) 2):=by
 intro R ds k r h
 unfold e_Z8 m_Z8 at h
 obtain ⟨_,_,rfl,h⟩:=Jb h
 obtain ⟨_,_,rfl,h⟩:=Ja h
 obtain ⟨_,_,rfl,h⟩:=Ja h
 obtain ⟨_,_,rfl,h⟩:=Jb h
 obtain ⟨_,_,rfl,h⟩:=Jb h
 obtain ⟨rfl,hE⟩:=Je h
 obtain ⟨y,hy,hk⟩:=Jf hE
 obtain ⟨n,hn⟩:=J4 hy
 exact m_Z8_ok n R _ k r ((Jg hn).trans hk)

/-!-/
def c_Z9 {R:Type} (x0 x1:List D) (k:List D×List D→Option R):Option R:=
 if ([]:List D).length+x0.length≤(4294967296:Nat) then
 if ([]:List D).length+x1.length≤(4294967296:Nat) then
 k ([]++x0,[]++x1)
 else
 none
 else
 none
theorem c_Z9_bind {R:Type} (x0 x1:List D) (k:List D×List D→Option R):c_Z9 x0 x1 k=(c_Z9 x0 x1 some).bind k:=by
 unfold c_Z9
 repeat' first
  | exact Jy
  | exact Jx
  | exact Jw
  | apply Jt
  | apply Ju
  | apply Jz
  | (apply Jv; intro _)
  | intro _
def Z9 (x0 x1:List D):Option (List D×List D):=c_Z9 x0 x1 some
def e_Z9:Ent:=⟨226,[.agg [.rd (.struct [.int .i64,.int .i64]),.rd (.struct [.int .i64,.int .i64])]],[(.agg [.own (.struct [.int .i64,.int .i64]),.own (.struct [.int .i64,.int .i64])],[.undef])],fun _ ds k=>dL (fun x0 ds=>dL (fun x1 ds=>dE ((Z9 x0 x1).bind (fun y=>k 0 [.L y.1,.L y.2])) ds) ds) ds⟩
theorem q_Z9 (x0 x1:List D):JR (Jp []) (Jq []) A 226 Try.f226 (Sh.mks e_Z9.sh [.L x0,.L x1]).1 (fun v os=>some (v,os))=c_Z9 x0 x1 (fun y=>JT e_Z9 0 [.L y.1,.L y.2]):=by kernel_rfl
theorem e_Z9_ok:e_Z9.ok Try.prog A:=by
 intro R ds k r h
 unfold e_Z9 at h
 obtain ⟨_,_,rfl,h⟩:=Ja h
 obtain ⟨_,_,rfl,h⟩:=Ja h
 obtain ⟨rfl,hE⟩:=Je h
 obtain ⟨y,hy,hk⟩:=Jf hE
 exact ⟨0,_,_,_,hk,rfl,JU px (fx:=⟨Try.func226,by kernel_rfl,by kernel_rfl⟩) Jm Jn ((q_Z9 ..).trans ((c_Z9_bind ..).trans (Jg hy)))⟩

/-!-/
def c_Z10 {R:Type} (x0:List D) (x1 x2:Int) (k:List D×List D→Option R):Option R:=
 (Z8 (0:Int) x0 [] x1 x2).bind (fun y0=>
 (Z9 y0.snd.fst y0.snd.snd.fst).bind (fun y1=>
 bif decide (y0.fst<(↑y0.snd.snd.fst.length:Int)) then
 if 0≤y0.fst∧y0.fst<(↑y0.snd.snd.fst.length:Int) then
 if y0.fst.toNat+1≤y0.snd.snd.fst.length then
 bif decide (((y0.snd.snd.fst.getD y0.fst.toNat (D.int 0)).fld (0:Nat)).toInt=y0.snd.snd.snd.fst)&&(decide (((y0.snd.snd.fst.getD y0.fst.toNat (D.int 0)).fld (1:Nat)).toInt=y0.snd.snd.snd.snd)&&Bool.true) then
 k (y1.fst,y1.snd)
 else
 if (0:Int)≤(0:Int)∧0≤y0.fst∧y0.fst≤(↑y0.snd.snd.fst.length:Int) then
 if (0:Nat)+(y0.fst.toNat - (0:Nat))≤y0.snd.snd.fst.length then
 if ([]:List D).length+(List.take (y0.fst.toNat - (0:Nat)) (List.drop (0:Nat) y0.snd.snd.fst)).length≤(4294967296:Nat) then
 if ([]++List.take (y0.fst.toNat - (0:Nat)) (List.drop (0:Nat) y0.snd.snd.fst)).length+[D.node [D.int y0.snd.snd.snd.fst,D.int y0.snd.snd.snd.snd]].length≤(4294967296:Nat) then
 if 0≤y0.fst∧y0.fst≤(↑y0.snd.snd.fst.length:Int)∧(↑y0.snd.snd.fst.length:Int)≤(↑y0.snd.snd.fst.length:Int) then
 if y0.fst.toNat+(y0.snd.snd.fst.length - y0.fst.toNat)≤y0.snd.snd.fst.length then
 if ([]++List.take (y0.fst.toNat - (0:Nat)) (List.drop (0:Nat) y0.snd.snd.fst)++[D.node [D.int y0.snd.snd.snd.fst,D.int y0.snd.snd.snd.snd]]).length+(List.take (y0.snd.snd.fst.length - y0.fst.toNat) (List.drop y0.fst.toNat y0.snd.snd.fst)).length≤(4294967296:Nat) then
 k (y1.fst,[]++List.take (y0.fst.toNat - (0:Nat)) (List.drop (0:Nat) y0.snd.snd.fst)++[D.node [D.int y0.snd.snd.snd.fst,D.int y0.snd.snd.snd.snd]]++List.take (y0.snd.snd.fst.length - y0.fst.toNat) (List.drop y0.fst.toNat y0.snd.snd.fst))
 else
 none
 else
 none
 else
 none
 else
 none
 else
 none
 else
 none
 else
 none
 else
 none
 else
 none
 else
 if (0:Int)≤(0:Int)∧0≤y0.fst∧y0.fst≤(↑y0.snd.snd.fst.length:Int) then
 if (0:Nat)+(y0.fst.toNat - (0:Nat))≤y0.snd.snd.fst.length then
 if ([]:List D).length+(List.take (y0.fst.toNat - (0:Nat)) (List.drop (0:Nat) y0.snd.snd.fst)).length≤(4294967296:Nat) then
 if ([]++List.take (y0.fst.toNat - (0:Nat)) (List.drop (0:Nat) y0.snd.snd.fst)).length+[D.node [D.int y0.snd.snd.snd.fst,D.int y0.snd.snd.snd.snd]].length≤(4294967296:Nat) then
 if 0≤y0.fst∧y0.fst≤(↑y0.snd.snd.fst.length:Int)∧(↑y0.snd.snd.fst.length:Int)≤(↑y0.snd.snd.fst.length:Int) then
 if y0.fst.toNat+(y0.snd.snd.fst.length - y0.fst.toNat)≤y0.snd.snd.fst.length then
 if ([]++List.take (y0.fst.toNat - (0:Nat)) (List.drop (0:Nat) y0.snd.snd.fst)++[D.node [D.int y0.snd.snd.snd.fst,D.int y0.snd.snd.snd.snd]]).length+(List.take (y0.snd.snd.fst.length - y0.fst.toNat) (List.drop y0.fst.toNat y0.snd.snd.fst)).length≤(4294967296:Nat) then
 k (y1.fst,[]++List.take (y0.fst.toNat - (0:Nat)) (List.drop (0:Nat) y0.snd.snd.fst)++[D.node [D.int y0.snd.snd.snd.fst,D.int y0.snd.snd.snd.snd]]++List.take (y0.snd.snd.fst.length - y0.fst.toNat) (List.drop y0.fst.toNat y0.snd.snd.fst))
 else
 none
 else
 none
 else
 none
 else
 none
 else
 none
 else
 none
 else
 none))
theorem c_Z10_bind {R:Type} (x0:List D) (x1 x2:Int) (k:List D×List D→Option R):c_Z10 x0 x1 x2 k=(c_Z10 x0 x1 x2 some).bind k:=by
 unfold c_Z10
 repeat' first
  | exact Jy
  | exact Jx
  | exact Jw
  | apply Jt
  | apply Ju
  | apply Jz
  | (apply Jv; intro _)
  | intro _
def Z10 (x0:List D) (x1 x2:Int):Option (List D×List D):=c_Z10 x0 x1 x2 some
def e_Z10:Ent:=⟨197,[.agg [.rd (.struct [.int .i64,.int .i64]),.nilsl],.agg [.int .i64,.int .i64]],[(.agg [.own (.struct [.int .i64,.int .i64]),.own (.struct [.int .i64,.int .i64])],[.undef,.undef])],fun _ ds k=>dL (fun x0 ds=>dI (fun x1 ds=>dI (fun x2 ds=>dE ((Z10 x0 x1 x2).bind (fun y=>k 0 [.L y.1,.L y.2])) ds) ds) ds) ds⟩
theorem q_Z10 (x0:List D) (x1 x2:Int):JR (Jp [e_Z9]) (Jq [e_Z8]) A 197 Try.f197 (Sh.mks e_Z10.sh [.L x0,.I x1,.I x2]).1 (fun v os=>some (v,os))=c_Z10 x0 x1 x2 (fun y=>JT e_Z10 0 [.L y.1,.L y.2]):=by kernel_rfl
theorem e_Z10_ok:e_Z10.ok Try.prog A:=by
 intro R ds k r h
 unfold e_Z10 at h
 obtain ⟨_,_,rfl,h⟩:=Ja h
 obtain ⟨_,_,rfl,h⟩:=Jb h
 obtain ⟨_,_,rfl,h⟩:=Jb h
 obtain ⟨rfl,hE⟩:=Je h
 obtain ⟨y,hy,hk⟩:=Jf hE
 exact ⟨0,_,_,_,hk,rfl,JU px (fx:=⟨Try.func197,by kernel_rfl,by kernel_rfl⟩) (Jr e_Z9_ok Jm) (Jo e_Z8_ok Jn) ((q_Z10 ..).trans ((c_Z10_bind ..).trans (Jg hy)))⟩

/-!-/
abbrev T_Z11:=Int→List D→List D→Int→Int→Option (Int×List D×List D×Int×Int)
def c_Z11 {R:Type} (F:T_Z11) (x0:Int) (x1 x2:List D) (x3 x4:Int) (k:Int×List D×List D×Int×Int→Option R):Option R:=
 bif decide (x0<(↑x2.length:Int)) then
 if 0≤x0∧x0<(↑x2.length:Int) then
 (Z7 (((x2.getD x0.toNat (D.int 0)).fld (0:Nat)).toInt) (((x2.getD x0.toNat (D.int 0)).fld (1:Nat)).toInt) x3 x4).bind (fun y0=>
 bif y0 then
 (F (IntKind.i64.wrap (x0+1)) x1 x2 x3 x4).bind k
 else
 k (x0,x1,x2,x3,x4))
 else
 none
 else
 k (x0,x1,x2,x3,x4)
theorem c_Z11_bind {R:Type} (F:T_Z11) (x0:Int) (x1 x2:List D) (x3 x4:Int) (k:Int×List D×List D×Int×Int→Option R):c_Z11 F x0 x1 x2 x3 x4 k=(c_Z11 F x0 x1 x2 x3 x4 some).bind k:=by
 unfold c_Z11
 repeat' first
  | exact Jy
  | exact Jx
  | exact Jw
  | apply Jt
  | apply Ju
  | apply Jz
  | (apply Jv; intro _)
  | intro _
def n_Z11:Nat→T_Z11
 | 0,_,_,_,_,_=>none
 | n+1,x0,x1,x2,x3,x4=>c_Z11 (n_Z11 n) x0 x1 x2 x3 x4 some
noncomputable def Z11 (x0:Int) (x1 x2:List D) (x3 x4:Int):Option (Int×List D×List D×Int×Int):=ev (fun n=>n_Z11 n x0 x1 x2 x3 x4)
def m_Z11 (F:T_Z11):JA:=⟨2,⟨(.undef::.undef::.ptr 1000 [0]::.ptr 1001 [0]::.ptr 1002 [0]::.int .i64::uu 50 ([])),[(1000,.obox (.agg [.rd (.struct [.int .i64,.int .i64]),.rd (.struct [.int .i64,.int .i64])])),(1001,.obox (.agg [.int .i64,.int .i64])),(1002,.obox (.agg [.nilsl,.nilsl]))]⟩,[(.exit 0,⟨(.undef::.undef::.ptr 1000 [0]::.ptr 1001 [0]::.ptr 1002 [0]::.int .i64::uu 50 ([])),[(1000,.obox (.agg [.rd (.struct [.int .i64,.int .i64]),.rd (.struct [.int .i64,.int .i64])])),(1001,.obox (.agg [.int .i64,.int .i64])),(1002,.obox (.agg [.nilsl,.nilsl]))]⟩)],fun _ ds k=>dI (fun x0 ds=>dL (fun x1 ds=>dL (fun x2 ds=>dI (fun x3 ds=>dI (fun x4 ds=>dE ((F x0 x1 x2 x3 x4).bind (fun y=>k 0 [.I y.1,.L y.2.1,.L y.2.2.1,.I y.2.2.2.1,.I y.2.2.2.2])) ds) ds) ds) ds) ds) ds⟩
theorem q_Z11 (F:T_Z11) (x0:Int) (x1 x2:List D) (x3 x4:Int):JZ (Jp [e_Z7]) (Jq [m_Z11 F]) A 197 (Jj (Jh Try.f197) 2) ((m_Z11 F).sh.mk' [.I x0,.L x1,.L x2,.I x3,.I x4]) (fun e σ'=>some (e,σ'))=c_Z11 F x0 x1 x2 x3 x4 (fun y=>some (.exit 0,SSt.mk' ⟨(.undef::.undef::.ptr 1000 [0]::.ptr 1001 [0]::.ptr 1002 [0]::.int .i64::uu 50 ([])),[(1000,.obox (.agg [.rd (.struct [.int .i64,.int .i64]),.rd (.struct [.int .i64,.int .i64])])),(1001,.obox (.agg [.int .i64,.int .i64])),(1002,.obox (.agg [.nilsl,.nilsl]))]⟩ [.I y.1,.L y.2.1,.L y.2.2.1,.I y.2.2.2.1,.I y.2.2.2.2])):=by kernel_rfl
theorem m_Z11_ok:∀ n,(m_Z11 (n_Z11 n)).ok Try.prog (Jj (Jh Try.f197) 2):=by
 intro n
 induction n with
 | zero=>
  intro R ds k r h
  unfold m_Z11 at h
  obtain ⟨_,_,rfl,h⟩:=Jb h
  obtain ⟨_,_,rfl,h⟩:=Ja h
  obtain ⟨_,_,rfl,h⟩:=Ja h
  obtain ⟨_,_,rfl,h⟩:=Jb h
  obtain ⟨_,_,rfl,h⟩:=Jb h
  obtain ⟨rfl,hE⟩:=Je h
  obtain ⟨y,hy,hk⟩:=Jf hE
  cases hy
 | succ n ih=>
  intro R ds k r h
  unfold m_Z11 at h
  obtain ⟨_,_,rfl,h⟩:=Jb h
  obtain ⟨_,_,rfl,h⟩:=Ja h
  obtain ⟨_,_,rfl,h⟩:=Ja h
  obtain ⟨_,_,rfl,h⟩:=Jb h
  obtain ⟨_,_,rfl,h⟩:=Jb h
  obtain ⟨rfl,hE⟩:=Je h
  obtain ⟨y,hy,hk⟩:=Jf hE
  exact ⟨0,_,_,_,hk,rfl,JO px (fx:=⟨Try.func197,by kernel_rfl,by kernel_rfl⟩) (Jr e_Z7_ok Jm) (Jo ih Jn) (by kernel_rfl) ((q_Z11 ..).trans ((c_Z11_bind ..).trans (Jg hy)))⟩
noncomputable def e_Z11:JA:=m_Z11 (Z11)
theorem e_Z11_ok:(e_Z11).ok Try.prog (Jj (Jh Try.f197) 2):=by
 intro R ds k r h
 unfold e_Z11 m_Z11 at h
 obtain ⟨_,_,rfl,h⟩:=Jb h
 obtain ⟨_,_,rfl,h⟩:=Ja h
 obtain ⟨_,_,rfl,h⟩:=Ja h
 obtain ⟨_,_,rfl,h⟩:=Jb h
 obtain ⟨_,_,rfl,h⟩:=Jb h
 obtain ⟨rfl,hE⟩:=Je h
 obtain ⟨y,hy,hk⟩:=Jf hE
 obtain ⟨n,hn⟩:=J4 hy
 exact m_Z11_ok n R _ k r ((Jg hn).trans hk)

/-!-/
def c_Z12 {R:Type} (x0 x1:List D) (x2 x3:Int) (k:List D×List D→Option R):Option R:=
 (Z11 (0:Int) x0 x1 x2 x3).bind (fun y0=>
 (Z9 y0.snd.fst y0.snd.snd.fst).bind (fun y1=>
 bif decide (y0.fst<(↑y0.snd.snd.fst.length:Int)) then
 if 0≤y0.fst∧y0.fst<(↑y0.snd.snd.fst.length:Int) then
 bif decide (((y0.snd.snd.fst.getD y0.fst.toNat (D.int 0)).fld (0:Nat)).toInt=y0.snd.snd.snd.fst)&&(decide (((y0.snd.snd.fst.getD y0.fst.toNat (D.int 0)).fld (1:Nat)).toInt=y0.snd.snd.snd.snd)&&Bool.true) then
 k (y1.fst,y1.snd)
 else
 if (0:Int)≤(0:Int)∧0≤y0.fst∧y0.fst≤(↑y0.snd.snd.fst.length:Int) then
 if ([]:List D).length+(List.take (y0.fst.toNat - (0:Nat)) (List.drop (0:Nat) y0.snd.snd.fst)).length≤(4294967296:Nat) then
 if ([]++List.take (y0.fst.toNat - (0:Nat)) (List.drop (0:Nat) y0.snd.snd.fst)).length+[D.node [D.int y0.snd.snd.snd.fst,D.int y0.snd.snd.snd.snd]].length≤(4294967296:Nat) then
 if 0≤y0.fst∧y0.fst≤(↑y0.snd.snd.fst.length:Int)∧(↑y0.snd.snd.fst.length:Int)≤(↑y0.snd.snd.fst.length:Int) then
 if ([]++List.take (y0.fst.toNat - (0:Nat)) (List.drop (0:Nat) y0.snd.snd.fst)++[D.node [D.int y0.snd.snd.snd.fst,D.int y0.snd.snd.snd.snd]]).length+(List.take (y0.snd.snd.fst.length - y0.fst.toNat) (List.drop y0.fst.toNat y0.snd.snd.fst)).length≤(4294967296:Nat) then
 k (y1.fst,[]++List.take (y0.fst.toNat - (0:Nat)) (List.drop (0:Nat) y0.snd.snd.fst)++[D.node [D.int y0.snd.snd.snd.fst,D.int y0.snd.snd.snd.snd]]++List.take (y0.snd.snd.fst.length - y0.fst.toNat) (List.drop y0.fst.toNat y0.snd.snd.fst))
 else
 none
 else
 none
 else
 none
 else
 none
 else
 none
 else
 none
 else
 if (0:Int)≤(0:Int)∧0≤y0.fst∧y0.fst≤(↑y0.snd.snd.fst.length:Int) then
 if ([]:List D).length+(List.take (y0.fst.toNat - (0:Nat)) (List.drop (0:Nat) y0.snd.snd.fst)).length≤(4294967296:Nat) then
 if ([]++List.take (y0.fst.toNat - (0:Nat)) (List.drop (0:Nat) y0.snd.snd.fst)).length+[D.node [D.int y0.snd.snd.snd.fst,D.int y0.snd.snd.snd.snd]].length≤(4294967296:Nat) then
 if 0≤y0.fst∧y0.fst≤(↑y0.snd.snd.fst.length:Int)∧(↑y0.snd.snd.fst.length:Int)≤(↑y0.snd.snd.fst.length:Int) then
 if ([]++List.take (y0.fst.toNat - (0:Nat)) (List.drop (0:Nat) y0.snd.snd.fst)++[D.node [D.int y0.snd.snd.snd.fst,D.int y0.snd.snd.snd.snd]]).length+(List.take (y0.snd.snd.fst.length - y0.fst.toNat) (List.drop y0.fst.toNat y0.snd.snd.fst)).length≤(4294967296:Nat) then
 k (y1.fst,[]++List.take (y0.fst.toNat - (0:Nat)) (List.drop (0:Nat) y0.snd.snd.fst)++[D.node [D.int y0.snd.snd.snd.fst,D.int y0.snd.snd.snd.snd]]++List.take (y0.snd.snd.fst.length - y0.fst.toNat) (List.drop y0.fst.toNat y0.snd.snd.fst))
 else
 none
 else
 none
 else
 none
 else
 none
 else
 none))
theorem c_Z12_bind {R:Type} (x0 x1:List D) (x2 x3:Int) (k:List D×List D→Option R):c_Z12 x0 x1 x2 x3 k=(c_Z12 x0 x1 x2 x3 some).bind k:=by
 unfold c_Z12
 repeat' first
  | exact Jy
  | exact Jx
  | exact Jw
  | apply Jt
  | apply Ju
  | apply Jz
  | (apply Jv; intro _)
  | intro _
def Z12 (x0 x1:List D) (x2 x3:Int):Option (List D×List D):=c_Z12 x0 x1 x2 x3 some
def e_Z12:Ent:=⟨197,[.agg [.rd (.struct [.int .i64,.int .i64]),.rd (.struct [.int .i64,.int .i64])],.agg [.int .i64,.int .i64]],[(.agg [.own (.struct [.int .i64,.int .i64]),.own (.struct [.int .i64,.int .i64])],[.undef,.undef])],fun _ ds k=>dL (fun x0 ds=>dL (fun x1 ds=>dI (fun x2 ds=>dI (fun x3 ds=>dE ((Z12 x0 x1 x2 x3).bind (fun y=>k 0 [.L y.1,.L y.2])) ds) ds) ds) ds) ds⟩
theorem q_Z12 (x0 x1:List D) (x2 x3:Int):JR (Jp [e_Z9]) (Jq [e_Z11]) A 197 Try.f197 (Sh.mks e_Z12.sh [.L x0,.L x1,.I x2,.I x3]).1 (fun v os=>some (v,os))=c_Z12 x0 x1 x2 x3 (fun y=>JT e_Z12 0 [.L y.1,.L y.2]):=by kernel_rfl
theorem e_Z12_ok:e_Z12.ok Try.prog A:=by
 intro R ds k r h
 unfold e_Z12 at h
 obtain ⟨_,_,rfl,h⟩:=Ja h
 obtain ⟨_,_,rfl,h⟩:=Ja h
 obtain ⟨_,_,rfl,h⟩:=Jb h
 obtain ⟨_,_,rfl,h⟩:=Jb h
 obtain ⟨rfl,hE⟩:=Je h
 obtain ⟨y,hy,hk⟩:=Jf hE
 exact ⟨0,_,_,_,hk,rfl,JU px (fx:=⟨Try.func197,by kernel_rfl,by kernel_rfl⟩) (Jr e_Z9_ok Jm) (Jo e_Z11_ok Jn) ((q_Z12 ..).trans ((c_Z12_bind ..).trans (Jg hy)))⟩

/-!-/
abbrev T_Z13:=Int→Int→List D→Int→Int→List D→List D→Option (List D×Int×Int×List D×List D)
def c_Z13 {R:Type} (F:T_Z13) (x0 x1:Int) (x2:List D) (x3 x4:Int) (x5 x6:List D) (k:List D×Int×Int×List D×List D→Option R):Option R:=
 bif decide ((0:Int)<x1) then
 bif decide ((1:Int)<x0) then
 (Z3 x2 x3 x4 x0).bind (fun y0=>
 (Z3 y0.snd.fst y0.snd.snd.fst y0.snd.snd.snd x0).bind (fun y1=>
 bif decide (y1.fst<y0.fst) then
 (Z4 y1.snd.fst y1.snd.snd.fst y1.snd.snd.snd (12:Int)).bind (fun y2=>
 bif !y2.fst then
 bif !decide (y1.fst=y0.fst) then
 if 0≤y1.fst∧y1.fst<(↑x5.length:Int) then
 if y1.fst.toNat+1≤x5.length then
 if y1.fst.toNat+1≤x5.length then
 if 0≤y0.fst∧y0.fst<(↑x5.length:Int) then
 if y0.fst.toNat+1≤x5.length then
 if y0.fst.toNat+1≤x5.length then
 (Z12 x5 x6 (((x5.getD y1.fst.toNat (D.int 0)).fld (0:Nat)).toInt) (((x5.getD y0.fst.toNat (D.int 0)).fld (0:Nat)).toInt)).bind (fun y3=>
 (F x0 (IntKind.i64.wrap (x1 - 1)) y2.snd.fst y2.snd.snd.fst y2.snd.snd.snd y3.fst y3.snd).bind k)
 else
 none
 else
 none
 else
 none
 else
 none
 else
 none
 else
 none
 else
 (F x0 (IntKind.i64.wrap (x1 - 1)) y2.snd.fst y2.snd.snd.fst y2.snd.snd.snd x5 x6).bind k
 else
 bif !decide (y0.fst=y1.fst) then
 if 0≤y0.fst∧y0.fst<(↑x5.length:Int) then
 if y0.fst.toNat+1≤x5.length then
 if y0.fst.toNat+1≤x5.length then
 if 0≤y1.fst∧y1.fst<(↑x5.length:Int) then
 if y1.fst.toNat+1≤x5.length then
 if y1.fst.toNat+1≤x5.length then
 (Z12 x5 x6 (((x5.getD y0.fst.toNat (D.int 0)).fld (0:Nat)).toInt) (((x5.getD y1.fst.toNat (D.int 0)).fld (0:Nat)).toInt)).bind (fun y4=>
 (F x0 (IntKind.i64.wrap (x1 - 1)) y2.snd.fst y2.snd.snd.fst y2.snd.snd.snd y4.fst y4.snd).bind k)
 else
 none
 else
 none
 else
 none
 else
 none
 else
 none
 else
 none
 else
 (F x0 (IntKind.i64.wrap (x1 - 1)) y2.snd.fst y2.snd.snd.fst y2.snd.snd.snd x5 x6).bind k)
 else
 bif !decide (y0.fst=y1.fst) then
 if 0≤y0.fst∧y0.fst<(↑x5.length:Int) then
 if y0.fst.toNat+1≤x5.length then
 if y0.fst.toNat+1≤x5.length then
 if 0≤y1.fst∧y1.fst<(↑x5.length:Int) then
 if y1.fst.toNat+1≤x5.length then
 if y1.fst.toNat+1≤x5.length then
 (Z12 x5 x6 (((x5.getD y0.fst.toNat (D.int 0)).fld (0:Nat)).toInt) (((x5.getD y1.fst.toNat (D.int 0)).fld (0:Nat)).toInt)).bind (fun y5=>
 (F x0 (IntKind.i64.wrap (x1 - 1)) y1.snd.fst y1.snd.snd.fst y1.snd.snd.snd y5.fst y5.snd).bind k)
 else
 none
 else
 none
 else
 none
 else
 none
 else
 none
 else
 none
 else
 (F x0 (IntKind.i64.wrap (x1 - 1)) y1.snd.fst y1.snd.snd.fst y1.snd.snd.snd x5 x6).bind k))
 else
 k (x2,x3,x4,x5,x6)
 else
 k (x2,x3,x4,x5,x6)
theorem c_Z13_bind {R:Type} (F:T_Z13) (x0 x1:Int) (x2:List D) (x3 x4:Int) (x5 x6:List D) (k:List D×Int×Int×List D×List D→Option R):c_Z13 F x0 x1 x2 x3 x4 x5 x6 k=(c_Z13 F x0 x1 x2 x3 x4 x5 x6 some).bind k:=by
 unfold c_Z13
 repeat' first
  | exact Jy
  | exact Jx
  | exact Jw
  | apply Jt
  | apply Ju
  | apply Jz
  | (apply Jv; intro _)
  | intro _
def n_Z13:Nat→T_Z13
 | 0,_,_,_,_,_,_,_=>none
 | n+1,x0,x1,x2,x3,x4,x5,x6=>c_Z13 (n_Z13 n) x0 x1 x2 x3 x4 x5 x6 some
noncomputable def Z13 (x0 x1:Int) (x2:List D) (x3 x4:Int) (x5 x6:List D):Option (List D×Int×Int×List D×List D):=ev (fun n=>n_Z13 n x0 x1 x2 x3 x4 x5 x6)
def m_Z13 (F:T_Z13):JA:=⟨4,⟨(.ptr 1000 [0]::.undef::.ptr 1001 [0]::.ptr 1002 [0]::.int .i64::.int .i64::uu 57 ([])),[(1000,.obox (.agg [.rd (.int .u8),.int .i64,.int .u64])),(1001,.obox (.agg [.nilsl,.nilsl])),(1002,.obox (.agg [.full 1003 [0] (.struct [.int .i64,.int .i64]),.full 1003 [1] (.struct [.int .i64,.int .i64])])),(1003,.agg [.own (.struct [.int .i64,.int .i64]),.own (.struct [.int .i64,.int .i64])])]⟩,[(.exit 0,⟨(.ptr 1000 [0]::.undef::.ptr 1001 [0]::.ptr 1002 [0]::uu 59 ([])),[(1000,.obox (.agg [.rd (.int .u8),.int .i64,.int .u64])),(1001,.obox (.agg [.nilsl,.nilsl])),(1002,.obox (.agg [.full 1003 [0] (.struct [.int .i64,.int .i64]),.full 1003 [1] (.struct [.int .i64,.int .i64])])),(1003,.agg [.own (.struct [.int .i64,.int .i64]),.own (.struct [.int .i64,.int .i64])])]⟩)],fun _ ds k=>dI (fun x0 ds=>dI (fun x1 ds=>dL (fun x2 ds=>dI (fun x3 ds=>dI (fun x4 ds=>dL (fun x5 ds=>dL (fun x6 ds=>dE ((F x0 x1 x2 x3 x4 x5 x6).bind (fun y=>k 0 [.L y.1,.I y.2.1,.I y.2.2.1,.L y.2.2.2.1,.L y.2.2.2.2])) ds) ds) ds) ds) ds) ds) ds) ds⟩
theorem q_Z13 (F:T_Z13) (x0 x1:Int) (x2:List D) (x3 x4:Int) (x5 x6:List D):JZ (Jp [e_Z3,e_Z4,e_Z12]) (Jq [m_Z13 F]) A 201 (Jj (Jh Try.f201) 4) ((m_Z13 F).sh.mk' [.I x0,.I x1,.L x2,.I x3,.I x4,.L x5,.L x6]) (fun e σ'=>some (e,σ'))=c_Z13 F x0 x1 x2 x3 x4 x5 x6 (fun y=>some (.exit 0,SSt.mk' ⟨(.ptr 1000 [0]::.undef::.ptr 1001 [0]::.ptr 1002 [0]::uu 59 ([])),[(1000,.obox (.agg [.rd (.int .u8),.int .i64,.int .u64])),(1001,.obox (.agg [.nilsl,.nilsl])),(1002,.obox (.agg [.full 1003 [0] (.struct [.int .i64,.int .i64]),.full 1003 [1] (.struct [.int .i64,.int .i64])])),(1003,.agg [.own (.struct [.int .i64,.int .i64]),.own (.struct [.int .i64,.int .i64])])]⟩ [.L y.1,.I y.2.1,.I y.2.2.1,.L y.2.2.2.1,.L y.2.2.2.2])):=by kernel_rfl
theorem m_Z13_ok:∀ n,(m_Z13 (n_Z13 n)).ok Try.prog (Jj (Jh Try.f201) 4):=by
 intro n
 induction n with
 | zero=>
  intro R ds k r h
  unfold m_Z13 at h
  obtain ⟨_,_,rfl,h⟩:=Jb h
  obtain ⟨_,_,rfl,h⟩:=Jb h
  obtain ⟨_,_,rfl,h⟩:=Ja h
  obtain ⟨_,_,rfl,h⟩:=Jb h
  obtain ⟨_,_,rfl,h⟩:=Jb h
  obtain ⟨_,_,rfl,h⟩:=Ja h
  obtain ⟨_,_,rfl,h⟩:=Ja h
  obtain ⟨rfl,hE⟩:=Je h
  obtain ⟨y,hy,hk⟩:=Jf hE
  cases hy
 | succ n ih=>
  intro R ds k r h
  unfold m_Z13 at h
  obtain ⟨_,_,rfl,h⟩:=Jb h
  obtain ⟨_,_,rfl,h⟩:=Jb h
  obtain ⟨_,_,rfl,h⟩:=Ja h
  obtain ⟨_,_,rfl,h⟩:=Jb h
  obtain ⟨_,_,rfl,h⟩:=Jb h
  obtain ⟨_,_,rfl,h⟩:=Ja h
  obtain ⟨_,_,rfl,h⟩:=Ja h
  obtain ⟨rfl,hE⟩:=Je h
  obtain ⟨y,hy,hk⟩:=Jf hE
  exact ⟨0,_,_,_,hk,rfl,JO px (fx:=⟨Try.func201,by kernel_rfl,by kernel_rfl⟩) (Jr e_Z3_ok (Jr e_Z4_ok (Jr e_Z12_ok Jm))) (Jo ih Jn) (by kernel_rfl) ((q_Z13 ..).trans ((c_Z13_bind ..).trans (Jg hy)))⟩
noncomputable def e_Z13:JA:=m_Z13 (Z13)
theorem e_Z13_ok:(e_Z13).ok Try.prog (Jj (Jh Try.f201) 4):=by
 intro R ds k r h
 unfold e_Z13 m_Z13 at h
 obtain ⟨_,_,rfl,h⟩:=Jb h
 obtain ⟨_,_,rfl,h⟩:=Jb h
 obtain ⟨_,_,rfl,h⟩:=Ja h
 obtain ⟨_,_,rfl,h⟩:=Jb h
 obtain ⟨_,_,rfl,h⟩:=Jb h
 obtain ⟨_,_,rfl,h⟩:=Ja h
 obtain ⟨_,_,rfl,h⟩:=Ja h
 obtain ⟨rfl,hE⟩:=Je h
 obtain ⟨y,hy,hk⟩:=Jf hE
 obtain ⟨n,hn⟩:=J4 hy
 exact m_Z13_ok n R _ k r ((Jg hn).trans hk)

/-!-/
abbrev T_Z14:=Int→Int→List D→Int→Int→List D→Option ((List D×Int×Int×List D×List D)⊕(List D×Int×Int×List D))
def c_Z14 {R:Type} (F:T_Z14) (x0 x1:Int) (x2:List D) (x3 x4:Int) (x5:List D) (k:(List D×Int×Int×List D×List D)⊕(List D×Int×Int×List D)→Option R):Option R:=
 bif decide ((0:Int)<x1) then
 bif decide ((1:Int)<x0) then
 (Z3 x2 x3 x4 x0).bind (fun y0=>
 (Z3 y0.snd.fst y0.snd.snd.fst y0.snd.snd.snd x0).bind (fun y1=>
 bif decide (y1.fst<y0.fst) then
 (Z4 y1.snd.fst y1.snd.snd.fst y1.snd.snd.snd (12:Int)).bind (fun y2=>
 bif !y2.fst then
 bif !decide (y1.fst=y0.fst) then
 if 0≤y1.fst∧y1.fst<(↑x5.length:Int) then
 if y1.fst.toNat+1≤x5.length then
 if y1.fst.toNat+1≤x5.length then
 if 0≤y0.fst∧y0.fst<(↑x5.length:Int) then
 if y0.fst.toNat+1≤x5.length then
 if y0.fst.toNat+1≤x5.length then
 (Z10 x5 (((x5.getD y1.fst.toNat (D.int 0)).fld (0:Nat)).toInt) (((x5.getD y0.fst.toNat (D.int 0)).fld (0:Nat)).toInt)).bind (fun y3=>
 (Z13 x0 (IntKind.i64.wrap (x1 - 1)) y2.snd.fst y2.snd.snd.fst y2.snd.snd.snd y3.fst y3.snd).bind (fun y4=>
 k (.inl (y4.fst,y4.snd.fst,y4.snd.snd.fst,y4.snd.snd.snd.fst,y4.snd.snd.snd.snd))))
 else
 none
 else
 none
 else
 none
 else
 none
 else
 none
 else
 none
 else
 (F x0 (IntKind.i64.wrap (x1 - 1)) y2.snd.fst y2.snd.snd.fst y2.snd.snd.snd x5).bind k
 else
 bif !decide (y0.fst=y1.fst) then
 if 0≤y0.fst∧y0.fst<(↑x5.length:Int) then
 if y0.fst.toNat+1≤x5.length then
 if y0.fst.toNat+1≤x5.length then
 if 0≤y1.fst∧y1.fst<(↑x5.length:Int) then
 if y1.fst.toNat+1≤x5.length then
 if y1.fst.toNat+1≤x5.length then
 (Z10 x5 (((x5.getD y0.fst.toNat (D.int 0)).fld (0:Nat)).toInt) (((x5.getD y1.fst.toNat (D.int 0)).fld (0:Nat)).toInt)).bind (fun y5=>
 (Z13 x0 (IntKind.i64.wrap (x1 - 1)) y2.snd.fst y2.snd.snd.fst y2.snd.snd.snd y5.fst y5.snd).bind (fun y6=>
 k (.inl (y6.fst,y6.snd.fst,y6.snd.snd.fst,y6.snd.snd.snd.fst,y6.snd.snd.snd.snd))))
 else
 none
 else
 none
 else
 none
 else
 none
 else
 none
 else
 none
 else
 (F x0 (IntKind.i64.wrap (x1 - 1)) y2.snd.fst y2.snd.snd.fst y2.snd.snd.snd x5).bind k)
 else
 bif !decide (y0.fst=y1.fst) then
 if 0≤y0.fst∧y0.fst<(↑x5.length:Int) then
 if y0.fst.toNat+1≤x5.length then
 if y0.fst.toNat+1≤x5.length then
 if 0≤y1.fst∧y1.fst<(↑x5.length:Int) then
 if y1.fst.toNat+1≤x5.length then
 if y1.fst.toNat+1≤x5.length then
 (Z10 x5 (((x5.getD y0.fst.toNat (D.int 0)).fld (0:Nat)).toInt) (((x5.getD y1.fst.toNat (D.int 0)).fld (0:Nat)).toInt)).bind (fun y7=>
 (Z13 x0 (IntKind.i64.wrap (x1 - 1)) y1.snd.fst y1.snd.snd.fst y1.snd.snd.snd y7.fst y7.snd).bind (fun y8=>
 k (.inl (y8.fst,y8.snd.fst,y8.snd.snd.fst,y8.snd.snd.snd.fst,y8.snd.snd.snd.snd))))
 else
 none
 else
 none
 else
 none
 else
 none
 else
 none
 else
 none
 else
 (F x0 (IntKind.i64.wrap (x1 - 1)) y1.snd.fst y1.snd.snd.fst y1.snd.snd.snd x5).bind k))
 else
 k (.inr (x2,x3,x4,x5))
 else
 k (.inr (x2,x3,x4,x5))
theorem c_Z14_bind {R:Type} (F:T_Z14) (x0 x1:Int) (x2:List D) (x3 x4:Int) (x5:List D) (k:(List D×Int×Int×List D×List D)⊕(List D×Int×Int×List D)→Option R):c_Z14 F x0 x1 x2 x3 x4 x5 k=(c_Z14 F x0 x1 x2 x3 x4 x5 some).bind k:=by
 unfold c_Z14
 repeat' first
  | exact Jy
  | exact Jx
  | exact Jw
  | apply Jt
  | apply Ju
  | apply Jz
  | (apply Jv; intro _)
  | intro _
def n_Z14:Nat→T_Z14
 | 0,_,_,_,_,_,_=>none
 | n+1,x0,x1,x2,x3,x4,x5=>c_Z14 (n_Z14 n) x0 x1 x2 x3 x4 x5 some
noncomputable def Z14 (x0 x1:Int) (x2:List D) (x3 x4:Int) (x5:List D):Option ((List D×Int×Int×List D×List D)⊕(List D×Int×Int×List D)):=ev (fun n=>n_Z14 n x0 x1 x2 x3 x4 x5)
def m_Z14 (F:T_Z14):JA:=⟨4,⟨(.ptr 1000 [0]::.undef::.ptr 1001 [0]::.ptr 1002 [0]::.int .i64::.int .i64::uu 57 ([])),[(1000,.obox (.agg [.rd (.int .u8),.int .i64,.int .u64])),(1001,.obox (.agg [.nilsl,.nilsl])),(1002,.obox (.agg [.full 1003 [] (.struct [.int .i64,.int .i64]),.nilsl])),(1003,.own (.struct [.int .i64,.int .i64]))]⟩,[(.exit 0,⟨(.ptr 1000 [0]::.undef::.ptr 1001 [0]::.ptr 1002 [0]::uu 59 ([])),[(1000,.obox (.agg [.rd (.int .u8),.int .i64,.int .u64])),(1001,.obox (.agg [.nilsl,.nilsl])),(1002,.obox (.agg [.full 1003 [0] (.struct [.int .i64,.int .i64]),.full 1003 [1] (.struct [.int .i64,.int .i64])])),(1003,.agg [.own (.struct [.int .i64,.int .i64]),.own (.struct [.int .i64,.int .i64])])]⟩),(.exit 0,⟨(.ptr 1000 [0]::.undef::.ptr 1001 [0]::.ptr 1002 [0]::uu 59 ([])),[(1000,.obox (.agg [.rd (.int .u8),.int .i64,.int .u64])),(1001,.obox (.agg [.nilsl,.nilsl])),(1002,.obox (.agg [.full 1003 [] (.struct [.int .i64,.int .i64]),.nilsl])),(1003,.own (.struct [.int .i64,.int .i64]))]⟩)],fun _ ds k=>dI (fun x0 ds=>dI (fun x1 ds=>dL (fun x2 ds=>dI (fun x3 ds=>dI (fun x4 ds=>dL (fun x5 ds=>dE ((F x0 x1 x2 x3 x4 x5).bind (Sum.elim (fun y=>k 0 [.L y.1,.I y.2.1,.I y.2.2.1,.L y.2.2.2.1,.L y.2.2.2.2]) (fun y=>k 1 [.L y.1,.I y.2.1,.I y.2.2.1,.L y.2.2.2]))) ds) ds) ds) ds) ds) ds) ds⟩
theorem q_Z14 (F:T_Z14) (x0 x1:Int) (x2:List D) (x3 x4:Int) (x5:List D):JZ (Jp [e_Z3,e_Z4,e_Z10]) (Jq [m_Z14 F,e_Z13]) A 201 (Jj (Jh Try.f201) 4) ((m_Z14 F).sh.mk' [.I x0,.I x1,.L x2,.I x3,.I x4,.L x5]) (fun e σ'=>some (e,σ'))=c_Z14 F x0 x1 x2 x3 x4 x5 (Sum.elim (fun y=>some (.exit 0,SSt.mk' ⟨(.ptr 1000 [0]::.undef::.ptr 1001 [0]::.ptr 1002 [0]::uu 59 ([])),[(1000,.obox (.agg [.rd (.int .u8),.int .i64,.int .u64])),(1001,.obox (.agg [.nilsl,.nilsl])),(1002,.obox (.agg [.full 1003 [0] (.struct [.int .i64,.int .i64]),.full 1003 [1] (.struct [.int .i64,.int .i64])])),(1003,.agg [.own (.struct [.int .i64,.int .i64]),.own (.struct [.int .i64,.int .i64])])]⟩ [.L y.1,.I y.2.1,.I y.2.2.1,.L y.2.2.2.1,.L y.2.2.2.2])) (fun y=>some (.exit 0,SSt.mk' ⟨(.ptr 1000 [0]::.undef::.ptr 1001 [0]::.ptr 1002 [0]::uu 59 ([])),[(1000,.obox (.agg [.rd (.int .u8),.int .i64,.int .u64])),(1001,.obox (.agg [.nilsl,.nilsl])),(1002,.obox (.agg [.full 1003 [] (.struct [.int .i64,.int .i64]),.nilsl])),(1003,.own (.struct [.int .i64,.int .i64]))]⟩ [.L y.1,.I y.2.1,.I y.2.2.1,.L y.2.2.2]))):=by kernel_rfl
theorem m_Z14_ok:∀ n,(m_Z14 (n_Z14 n)).ok Try.prog (Jj (Jh Try.f201) 4):=by
 intro n
 induction n with
 | zero=>
  intro R ds k r h
  unfold m_Z14 at h
  obtain ⟨_,_,rfl,h⟩:=Jb h
  obtain ⟨_,_,rfl,h⟩:=Jb h
  obtain ⟨_,_,rfl,h⟩:=Ja h
  obtain ⟨_,_,rfl,h⟩:=Jb h
  obtain ⟨_,_,rfl,h⟩:=Jb h
  obtain ⟨_,_,rfl,h⟩:=Ja h
  obtain ⟨rfl,hE⟩:=Je h
  obtain ⟨y,hy,hk⟩:=Jf hE
  cases hy
 | succ n ih=>
  intro R ds k r h
  unfold m_Z14 at h
  obtain ⟨_,_,rfl,h⟩:=Jb h
  obtain ⟨_,_,rfl,h⟩:=Jb h
  obtain ⟨_,_,rfl,h⟩:=Ja h
  obtain ⟨_,_,rfl,h⟩:=Jb h
  obtain ⟨_,_,rfl,h⟩:=Jb h
  obtain ⟨_,_,rfl,h⟩:=Ja h
  obtain ⟨rfl,hE⟩:=Je h
  obtain ⟨y,hy,hk⟩:=Jf hE
  cases y with
  | inl y=>
   exact ⟨0,_,_,_,hk,rfl,JO px (fx:=⟨Try.func201,by kernel_rfl,by kernel_rfl⟩) (Jr e_Z3_ok (Jr e_Z4_ok (Jr e_Z10_ok Jm))) (Jo ih (Jo e_Z13_ok Jn)) (by kernel_rfl) ((q_Z14 ..).trans ((c_Z14_bind ..).trans (Jg hy)))⟩
  | inr y=>
   exact ⟨1,_,_,_,hk,rfl,JO px (fx:=⟨Try.func201,by kernel_rfl,by kernel_rfl⟩) (Jr e_Z3_ok (Jr e_Z4_ok (Jr e_Z10_ok Jm))) (Jo ih (Jo e_Z13_ok Jn)) (by kernel_rfl) ((q_Z14 ..).trans ((c_Z14_bind ..).trans (Jg hy)))⟩
noncomputable def e_Z14:JA:=m_Z14 (Z14)
theorem e_Z14_ok:(e_Z14).ok Try.prog (Jj (Jh Try.f201) 4):=by
 intro R ds k r h
 unfold e_Z14 m_Z14 at h
 obtain ⟨_,_,rfl,h⟩:=Jb h
 obtain ⟨_,_,rfl,h⟩:=Jb h
 obtain ⟨_,_,rfl,h⟩:=Ja h
 obtain ⟨_,_,rfl,h⟩:=Jb h
 obtain ⟨_,_,rfl,h⟩:=Jb h
 obtain ⟨_,_,rfl,h⟩:=Ja h
 obtain ⟨rfl,hE⟩:=Je h
 obtain ⟨y,hy,hk⟩:=Jf hE
 obtain ⟨n,hn⟩:=J4 hy
 exact m_Z14_ok n R _ k r ((Jg hn).trans hk)

/-!-/
def c_Z15 {R:Type} (x0:List D) (x1 x2:Int) (k:List D×List D×List D×Int×Int→Option R):Option R:=
 (Z3 x0 x1 x2 (8:Int)).bind (fun y0=>
 (Z6 y0.snd.fst y0.snd.snd.fst y0.snd.snd.snd y0.fst).bind (fun y1=>
 (Z3 y1.snd.fst y1.snd.snd.fst y1.snd.snd.snd (12:Int)).bind (fun y2=>
 (Z14 (↑y1.fst.length:Int) y2.fst y2.snd.fst y2.snd.snd.fst y2.snd.snd.snd y1.fst).bind (Sum.elim (fun y3=>
 k (y3.snd.snd.snd.fst,y3.snd.snd.snd.snd,y3.fst,y3.snd.fst,y3.snd.snd.fst)) (fun y4=>
 k (y4.snd.snd.snd,[],y4.fst,y4.snd.fst,y4.snd.snd.fst))))))
theorem c_Z15_bind {R:Type} (x0:List D) (x1 x2:Int) (k:List D×List D×List D×Int×Int→Option R):c_Z15 x0 x1 x2 k=(c_Z15 x0 x1 x2 some).bind k:=by
 unfold c_Z15
 repeat' first
  | exact Jy
  | exact Jx
  | exact Jw
  | apply Jt
  | apply Ju
  | apply Jz
  | (apply Jv; intro _)
  | intro _
def Z15 (x0:List D) (x1 x2:Int):Option (List D×List D×List D×Int×Int):=c_Z15 x0 x1 x2 some
def e_Z15:Ent:=⟨201,[.obox (.agg [.rd (.int .u8),.int .i64,.int .u64])],[(.agg [.own (.struct [.int .i64,.int .i64]),.own (.struct [.int .i64,.int .i64])],[.obox (.agg [.rd (.int .u8),.int .i64,.int .u64])])],fun _ ds k=>dL (fun x0 ds=>dI (fun x1 ds=>dI (fun x2 ds=>dE ((Z15 x0 x1 x2).bind (fun y=>k 0 [.L y.1,.L y.2.1,.L y.2.2.1,.I y.2.2.2.1,.I y.2.2.2.2])) ds) ds) ds) ds⟩
theorem q_Z15 (x0:List D) (x1 x2:Int):JR (Jp [e_Z3,e_Z6]) (Jq [e_Z14]) A 201 Try.f201 (Sh.mks e_Z15.sh [.L x0,.I x1,.I x2]).1 (fun v os=>some (v,os))=c_Z15 x0 x1 x2 (fun y=>JT e_Z15 0 [.L y.1,.L y.2.1,.L y.2.2.1,.I y.2.2.2.1,.I y.2.2.2.2]):=by kernel_rfl
theorem e_Z15_ok:e_Z15.ok Try.prog A:=by
 intro R ds k r h
 unfold e_Z15 at h
 obtain ⟨_,_,rfl,h⟩:=Ja h
 obtain ⟨_,_,rfl,h⟩:=Jb h
 obtain ⟨_,_,rfl,h⟩:=Jb h
 obtain ⟨rfl,hE⟩:=Je h
 obtain ⟨y,hy,hk⟩:=Jf hE
 exact ⟨0,_,_,_,hk,rfl,JU px (fx:=⟨Try.func201,by kernel_rfl,by kernel_rfl⟩) (Jr e_Z3_ok (Jr e_Z6_ok Jm)) (Jo e_Z14_ok Jn) ((q_Z15 ..).trans ((c_Z15_bind ..).trans (Jg hy)))⟩

/-!-/
def c_Z16 {R:Type} (x0:List D) (x1 x2:Int) (x3:List D) (k:Int×List D×Int×Int→Option R):Option R:=
 (Z3 x0 x1 x2 (↑x3.length:Int)).bind (fun y0=>
 if 0≤y0.fst∧y0.fst<(↑x3.length:Int) then
 if y0.fst.toNat+1≤x3.length then
 k ((x3.getD y0.fst.toNat (D.int 0)).toInt,y0.snd.fst,y0.snd.snd.fst,y0.snd.snd.snd)
 else
 none
 else
 none)
theorem c_Z16_bind {R:Type} (x0:List D) (x1 x2:Int) (x3:List D) (k:Int×List D×Int×Int→Option R):c_Z16 x0 x1 x2 x3 k=(c_Z16 x0 x1 x2 x3 some).bind k:=by
 unfold c_Z16
 repeat' first
  | exact Jy
  | exact Jx
  | exact Jw
  | apply Jt
  | apply Ju
  | apply Jz
  | (apply Jv; intro _)
  | intro _
def Z16 (x0:List D) (x1 x2:Int) (x3:List D):Option (Int×List D×Int×Int):=c_Z16 x0 x1 x2 x3 some
def e_Z16:Ent:=⟨85,[.obox (.agg [.rd (.int .u8),.int .i64,.int .u64]),.own (.int .i64)],[(.int .i64,[.obox (.agg [.rd (.int .u8),.int .i64,.int .u64]),.undef])],fun _ ds k=>dL (fun x0 ds=>dI (fun x1 ds=>dI (fun x2 ds=>dL (fun x3 ds=>dE ((Z16 x0 x1 x2 x3).bind (fun y=>k 0 [.I y.1,.L y.2.1,.I y.2.2.1,.I y.2.2.2])) ds) ds) ds) ds) ds⟩
theorem q_Z16 (x0:List D) (x1 x2:Int) (x3:List D):JR (Jp [e_Z3]) (Jq []) A 85 Try.f85 (Sh.mks e_Z16.sh [.L x0,.I x1,.I x2,.L x3]).1 (fun v os=>some (v,os))=c_Z16 x0 x1 x2 x3 (fun y=>JT e_Z16 0 [.I y.1,.L y.2.1,.I y.2.2.1,.I y.2.2.2]):=by kernel_rfl
theorem e_Z16_ok:e_Z16.ok Try.prog A:=by
 intro R ds k r h
 unfold e_Z16 at h
 obtain ⟨_,_,rfl,h⟩:=Ja h
 obtain ⟨_,_,rfl,h⟩:=Jb h
 obtain ⟨_,_,rfl,h⟩:=Jb h
 obtain ⟨_,_,rfl,h⟩:=Ja h
 obtain ⟨rfl,hE⟩:=Je h
 obtain ⟨y,hy,hk⟩:=Jf hE
 exact ⟨0,_,_,_,hk,rfl,JU px (fx:=⟨Try.func85,by kernel_rfl,by kernel_rfl⟩) (Jr e_Z3_ok Jm) Jn ((q_Z16 ..).trans ((c_Z16_bind ..).trans (Jg hy)))⟩

/-!-/
abbrev T_Z17:=Int→List D→Int→Int→List D→List D→Option (List D×Int×Int×List D×List D)
def c_Z17 {R:Type} (F:T_Z17) (x0:Int) (x1:List D) (x2 x3:Int) (x4 x5:List D) (k:List D×Int×Int×List D×List D→Option R):Option R:=
 (Z3 x1 x2 x3 (2:Int)).bind (fun y0=>
 bif decide ((↑x5.length:Int)<IntKind.i64.wrap ((10:Int)+y0.fst)) then
 bif decide (x0<(12:Int)) then
 if x5.length+[D.node [D.int (IntKind.i64.wrap ((100:Int)+x0)),D.int (1:Int)]].length≤(4294967296:Nat) then
 (F (IntKind.i64.wrap (x0+1)) y0.snd.fst y0.snd.snd.fst y0.snd.snd.snd x4 (x5++[D.node [D.int (IntKind.i64.wrap ((100:Int)+x0)),D.int (1:Int)]])).bind k
 else
 none
 else
 k (y0.snd.fst,y0.snd.snd.fst,y0.snd.snd.snd,x4,x5)
 else
 k (y0.snd.fst,y0.snd.snd.fst,y0.snd.snd.snd,x4,x5))
theorem c_Z17_bind {R:Type} (F:T_Z17) (x0:Int) (x1:List D) (x2 x3:Int) (x4 x5:List D) (k:List D×Int×Int×List D×List D→Option R):c_Z17 F x0 x1 x2 x3 x4 x5 k=(c_Z17 F x0 x1 x2 x3 x4 x5 some).bind k:=by
 unfold c_Z17
 repeat' first
  | exact Jy
  | exact Jx
  | exact Jw
  | apply Jt
  | apply Ju
  | apply Jz
  | (apply Jv; intro _)
  | intro _
def n_Z17:Nat→T_Z17
 | 0,_,_,_,_,_,_=>none
 | n+1,x0,x1,x2,x3,x4,x5=>c_Z17 (n_Z17 n) x0 x1 x2 x3 x4 x5 some
noncomputable def Z17 (x0:Int) (x1:List D) (x2 x3:Int) (x4 x5:List D):Option (List D×Int×Int×List D×List D):=ev (fun n=>n_Z17 n x0 x1 x2 x3 x4 x5)
def m_Z17 (F:T_Z17):JA:=⟨17,⟨(.ptr 1000 [0]::.undef::.ptr 1001 [0]::.ptr 1002 [0]::.undef::.undef::.int .i64::uu 136 ([])),[(1000,.obox (.agg [.rd (.int .u8),.int .i64,.int .u64])),(1001,.obox (.agg [.nilsl,.nilsl])),(1002,.obox (.agg [.full 1003 [] (.struct [.int .i64,.int .i64]),.own (.struct [.int .i64,.int .i64])])),(1003,.own (.struct [.int .i64,.int .i64]))]⟩,[(.exit 1,⟨(.ptr 1000 [0]::.undef::.ptr 1001 [0]::.ptr 1002 [0]::uu 139 ([])),[(1000,.obox (.agg [.rd (.int .u8),.int .i64,.int .u64])),(1001,.obox (.agg [.nilsl,.nilsl])),(1002,.obox (.agg [.full 1003 [] (.struct [.int .i64,.int .i64]),.own (.struct [.int .i64,.int .i64])])),(1003,.own (.struct [.int .i64,.int .i64]))]⟩)],fun _ ds k=>dI (fun x0 ds=>dL (fun x1 ds=>dI (fun x2 ds=>dI (fun x3 ds=>dL (fun x4 ds=>dL (fun x5 ds=>dE ((F x0 x1 x2 x3 x4 x5).bind (fun y=>k 0 [.L y.1,.I y.2.1,.I y.2.2.1,.L y.2.2.2.1,.L y.2.2.2.2])) ds) ds) ds) ds) ds) ds) ds⟩
theorem q_Z17 (F:T_Z17) (x0:Int) (x1:List D) (x2 x3:Int) (x4 x5:List D):JZ (Jp [e_Z3]) (Jq [m_Z17 F]) A 133 (Jj (Jh Try.f133) 17) ((m_Z17 F).sh.mk' [.I x0,.L x1,.I x2,.I x3,.L x4,.L x5]) (fun e σ'=>some (e,σ'))=c_Z17 F x0 x1 x2 x3 x4 x5 (fun y=>some (.exit 1,SSt.mk' ⟨(.ptr 1000 [0]::.undef::.ptr 1001 [0]::.ptr 1002 [0]::uu 139 ([])),[(1000,.obox (.agg [.rd (.int .u8),.int .i64,.int .u64])),(1001,.obox (.agg [.nilsl,.nilsl])),(1002,.obox (.agg [.full 1003 [] (.struct [.int .i64,.int .i64]),.own (.struct [.int .i64,.int .i64])])),(1003,.own (.struct [.int .i64,.int .i64]))]⟩ [.L y.1,.I y.2.1,.I y.2.2.1,.L y.2.2.2.1,.L y.2.2.2.2])):=by kernel_rfl
theorem m_Z17_ok:∀ n,(m_Z17 (n_Z17 n)).ok Try.prog (Jj (Jh Try.f133) 17):=by
 intro n
 induction n with
 | zero=>
  intro R ds k r h
  unfold m_Z17 at h
  obtain ⟨_,_,rfl,h⟩:=Jb h
  obtain ⟨_,_,rfl,h⟩:=Ja h
  obtain ⟨_,_,rfl,h⟩:=Jb h
  obtain ⟨_,_,rfl,h⟩:=Jb h
  obtain ⟨_,_,rfl,h⟩:=Ja h
  obtain ⟨_,_,rfl,h⟩:=Ja h
  obtain ⟨rfl,hE⟩:=Je h
  obtain ⟨y,hy,hk⟩:=Jf hE
  cases hy
 | succ n ih=>
  intro R ds k r h
  unfold m_Z17 at h
  obtain ⟨_,_,rfl,h⟩:=Jb h
  obtain ⟨_,_,rfl,h⟩:=Ja h
  obtain ⟨_,_,rfl,h⟩:=Jb h
  obtain ⟨_,_,rfl,h⟩:=Jb h
  obtain ⟨_,_,rfl,h⟩:=Ja h
  obtain ⟨_,_,rfl,h⟩:=Ja h
  obtain ⟨rfl,hE⟩:=Je h
  obtain ⟨y,hy,hk⟩:=Jf hE
  exact ⟨0,_,_,_,hk,rfl,JO px (fx:=⟨Try.func133,by kernel_rfl,by kernel_rfl⟩) (Jr e_Z3_ok Jm) (Jo ih Jn) (by kernel_rfl) ((q_Z17 ..).trans ((c_Z17_bind ..).trans (Jg hy)))⟩
noncomputable def e_Z17:JA:=m_Z17 (Z17)
theorem e_Z17_ok:(e_Z17).ok Try.prog (Jj (Jh Try.f133) 17):=by
 intro R ds k r h
 unfold e_Z17 m_Z17 at h
 obtain ⟨_,_,rfl,h⟩:=Jb h
 obtain ⟨_,_,rfl,h⟩:=Ja h
 obtain ⟨_,_,rfl,h⟩:=Jb h
 obtain ⟨_,_,rfl,h⟩:=Jb h
 obtain ⟨_,_,rfl,h⟩:=Ja h
 obtain ⟨_,_,rfl,h⟩:=Ja h
 obtain ⟨rfl,hE⟩:=Je h
 obtain ⟨y,hy,hk⟩:=Jf hE
 obtain ⟨n,hn⟩:=J4 hy
 exact m_Z17_ok n R _ k r ((Jg hn).trans hk)

/-!-/
abbrev T_Z18:=Int→List D→Int→Int→List D→List D→Option ((List D×Int×Int×List D×List D)⊕(List D×Int×Int×List D×List D))
def c_Z18 {R:Type} (F:T_Z18) (x0:Int) (x1:List D) (x2 x3:Int) (x4 x5:List D) (k:(List D×Int×Int×List D×List D)⊕(List D×Int×Int×List D×List D)→Option R):Option R:=
 (Z3 x1 x2 x3 (2:Int)).bind (fun y0=>
 bif decide ((↑x4.length:Int)<IntKind.i64.wrap ((10:Int)+y0.fst)) then
 bif decide (x0<(12:Int)) then
 if x4.length+[D.node [D.int (IntKind.i64.wrap ((100:Int)+x0)),D.int (1:Int)]].length≤(4294967296:Nat) then
 (Z17 (IntKind.i64.wrap (x0+1)) y0.snd.fst y0.snd.snd.fst y0.snd.snd.snd x5 (x4++[D.node [D.int (IntKind.i64.wrap ((100:Int)+x0)),D.int (1:Int)]])).bind (fun y1=>
 k (.inl (y1.fst,y1.snd.fst,y1.snd.snd.fst,y1.snd.snd.snd.fst,y1.snd.snd.snd.snd)))
 else
 none
 else
 k (.inr (y0.snd.fst,y0.snd.snd.fst,y0.snd.snd.snd,x4,x5))
 else
 k (.inr (y0.snd.fst,y0.snd.snd.fst,y0.snd.snd.snd,x4,x5)))
theorem c_Z18_bind {R:Type} (F:T_Z18) (x0:Int) (x1:List D) (x2 x3:Int) (x4 x5:List D) (k:(List D×Int×Int×List D×List D)⊕(List D×Int×Int×List D×List D)→Option R):c_Z18 F x0 x1 x2 x3 x4 x5 k=(c_Z18 F x0 x1 x2 x3 x4 x5 some).bind k:=by
 unfold c_Z18
 repeat' first
  | exact Jy
  | exact Jx
  | exact Jw
  | apply Jt
  | apply Ju
  | apply Jz
  | (apply Jv; intro _)
  | intro _
def n_Z18:Nat→T_Z18
 | 0,_,_,_,_,_,_=>none
 | n+1,x0,x1,x2,x3,x4,x5=>c_Z18 (n_Z18 n) x0 x1 x2 x3 x4 x5 some
noncomputable def Z18 (x0:Int) (x1:List D) (x2 x3:Int) (x4 x5:List D):Option ((List D×Int×Int×List D×List D)⊕(List D×Int×Int×List D×List D)):=ev (fun n=>n_Z18 n x0 x1 x2 x3 x4 x5)
def m_Z18 (F:T_Z18):JA:=⟨17,⟨(.ptr 1000 [0]::.undef::.ptr 1001 [0]::.ptr 1002 [0]::.undef::.undef::.int .i64::uu 136 ([])),[(1000,.obox (.agg [.rd (.int .u8),.int .i64,.int .u64])),(1001,.obox (.agg [.nilsl,.nilsl])),(1002,.obox (.agg [.own (.struct [.int .i64,.int .i64]),.own (.struct [.int .i64,.int .i64])]))]⟩,[(.exit 1,⟨(.ptr 1000 [0]::.undef::.ptr 1001 [0]::.ptr 1002 [0]::uu 139 ([])),[(1000,.obox (.agg [.rd (.int .u8),.int .i64,.int .u64])),(1001,.obox (.agg [.nilsl,.nilsl])),(1002,.obox (.agg [.full 1003 [] (.struct [.int .i64,.int .i64]),.own (.struct [.int .i64,.int .i64])])),(1003,.own (.struct [.int .i64,.int .i64]))]⟩),(.exit 1,⟨(.ptr 1000 [0]::.undef::.ptr 1001 [0]::.ptr 1002 [0]::uu 139 ([])),[(1000,.obox (.agg [.rd (.int .u8),.int .i64,.int .u64])),(1001,.obox (.agg [.nilsl,.nilsl])),(1002,.obox (.agg [.own (.struct [.int .i64,.int .i64]),.own (.struct [.int .i64,.int .i64])]))]⟩)],fun _ ds k=>dI (fun x0 ds=>dL (fun x1 ds=>dI (fun x2 ds=>dI (fun x3 ds=>dL (fun x4 ds=>dL (fun x5 ds=>dE ((F x0 x1 x2 x3 x4 x5).bind (Sum.elim (fun y=>k 0 [.L y.1,.I y.2.1,.I y.2.2.1,.L y.2.2.2.1,.L y.2.2.2.2]) (fun y=>k 1 [.L y.1,.I y.2.1,.I y.2.2.1,.L y.2.2.2.1,.L y.2.2.2.2]))) ds) ds) ds) ds) ds) ds) ds⟩
theorem q_Z18 (F:T_Z18) (x0:Int) (x1:List D) (x2 x3:Int) (x4 x5:List D):JZ (Jp [e_Z3]) (Jq [m_Z18 F,e_Z17]) A 133 (Jj (Jh Try.f133) 17) ((m_Z18 F).sh.mk' [.I x0,.L x1,.I x2,.I x3,.L x4,.L x5]) (fun e σ'=>some (e,σ'))=c_Z18 F x0 x1 x2 x3 x4 x5 (Sum.elim (fun y=>some (.exit 1,SSt.mk' ⟨(.ptr 1000 [0]::.undef::.ptr 1001 [0]::.ptr 1002 [0]::uu 139 ([])),[(1000,.obox (.agg [.rd (.int .u8),.int .i64,.int .u64])),(1001,.obox (.agg [.nilsl,.nilsl])),(1002,.obox (.agg [.full 1003 [] (.struct [.int .i64,.int .i64]),.own (.struct [.int .i64,.int .i64])])),(1003,.own (.struct [.int .i64,.int .i64]))]⟩ [.L y.1,.I y.2.1,.I y.2.2.1,.L y.2.2.2.1,.L y.2.2.2.2])) (fun y=>some (.exit 1,SSt.mk' ⟨(.ptr 1000 [0]::.undef::.ptr 1001 [0]::.ptr 1002 [0]::uu 139 ([])),[(1000,.obox (.agg [.rd (.int .u8),.int .i64,.int .u64])),(1001,.obox (.agg [.nilsl,.nilsl])),(1002,.obox (.agg [.own (.struct [.int .i64,.int .i64]),.own (.struct [.int .i64,.int .i64])]))]⟩ [.L y.1,.I y.2.1,.I y.2.2.1,.L y.2.2.2.1,.L y.2.2.2.2]))):=by kernel_rfl
theorem m_Z18_ok:∀ n,(m_Z18 (n_Z18 n)).ok Try.prog (Jj (Jh Try.f133) 17):=by
 intro n
 induction n with
 | zero=>
  intro R ds k r h
  unfold m_Z18 at h
  obtain ⟨_,_,rfl,h⟩:=Jb h
  obtain ⟨_,_,rfl,h⟩:=Ja h
  obtain ⟨_,_,rfl,h⟩:=Jb h
  obtain ⟨_,_,rfl,h⟩:=Jb h
  obtain ⟨_,_,rfl,h⟩:=Ja h
  obtain ⟨_,_,rfl,h⟩:=Ja h
  obtain ⟨rfl,hE⟩:=Je h
  obtain ⟨y,hy,hk⟩:=Jf hE
  cases hy
 | succ n ih=>
  intro R ds k r h
  unfold m_Z18 at h
  obtain ⟨_,_,rfl,h⟩:=Jb h
  obtain ⟨_,_,rfl,h⟩:=Ja h
  obtain ⟨_,_,rfl,h⟩:=Jb h
  obtain ⟨_,_,rfl,h⟩:=Jb h
  obtain ⟨_,_,rfl,h⟩:=Ja h
  obtain ⟨_,_,rfl,h⟩:=Ja h
  obtain ⟨rfl,hE⟩:=Je h
  obtain ⟨y,hy,hk⟩:=Jf hE
  cases y with
  | inl y=>
   exact ⟨0,_,_,_,hk,rfl,JO px (fx:=⟨Try.func133,by kernel_rfl,by kernel_rfl⟩) (Jr e_Z3_ok Jm) (Jo ih (Jo e_Z17_ok Jn)) (by kernel_rfl) ((q_Z18 ..).trans ((c_Z18_bind ..).trans (Jg hy)))⟩
  | inr y=>
   exact ⟨1,_,_,_,hk,rfl,JO px (fx:=⟨Try.func133,by kernel_rfl,by kernel_rfl⟩) (Jr e_Z3_ok Jm) (Jo ih (Jo e_Z17_ok Jn)) (by kernel_rfl) ((q_Z18 ..).trans ((c_Z18_bind ..).trans (Jg hy)))⟩
noncomputable def e_Z18:JA:=m_Z18 (Z18)
theorem e_Z18_ok:(e_Z18).ok Try.prog (Jj (Jh Try.f133) 17):=by
 intro R ds k r h
 unfold e_Z18 m_Z18 at h
 obtain ⟨_,_,rfl,h⟩:=Jb h
 obtain ⟨_,_,rfl,h⟩:=Ja h
 obtain ⟨_,_,rfl,h⟩:=Jb h
 obtain ⟨_,_,rfl,h⟩:=Jb h
 obtain ⟨_,_,rfl,h⟩:=Ja h
 obtain ⟨_,_,rfl,h⟩:=Ja h
 obtain ⟨rfl,hE⟩:=Je h
 obtain ⟨y,hy,hk⟩:=Jf hE
 obtain ⟨n,hn⟩:=J4 hy
 exact m_Z18_ok n R _ k r ((Jg hn).trans hk)

/-!-/
abbrev T_Z19:=Int→Int→List D→Int→Int→List D→List D→Option (Int×List D×Int×Int×List D×List D)
def c_Z19 {R:Type} (F:T_Z19) (x0 x1:Int) (x2:List D) (x3 x4:Int) (x5 x6:List D) (k:Int×List D×Int×Int×List D×List D→Option R):Option R:=
 bif decide (x1<(7:Int)) then
 bif decide ((↑x6.length:Int)<(25:Int)) then
 bif !decide (x0=x1) then
 if 0≤x0∧x0<(↑x5.length:Int) then
 if x0.toNat+1≤x5.length then
 if x0.toNat+1≤x5.length then
 if 0≤x1∧x1<(↑x5.length:Int) then
 if x1.toNat+1≤x5.length then
 if x1.toNat+1≤x5.length then
 if x6.length+[D.node [D.int ((x5.getD x0.toNat (D.int 0)).fld (0:Nat)).toInt,D.int ((x5.getD x1.toNat (D.int 0)).fld (0:Nat)).toInt]].length≤(4294967296:Nat) then
 (F x0 (IntKind.i64.wrap (x1+1)) x2 x3 x4 x5 (x6++[D.node [D.int ((x5.getD x0.toNat (D.int 0)).fld (0:Nat)).toInt,D.int ((x5.getD x1.toNat (D.int 0)).fld (0:Nat)).toInt]])).bind k
 else
 none
 else
 none
 else
 none
 else
 none
 else
 none
 else
 none
 else
 none
 else
 (F x0 (IntKind.i64.wrap (x1+1)) x2 x3 x4 x5 x6).bind k
 else
 k (x0,x2,x3,x4,x5,x6)
 else
 k (x0,x2,x3,x4,x5,x6)
theorem c_Z19_bind {R:Type} (F:T_Z19) (x0 x1:Int) (x2:List D) (x3 x4:Int) (x5 x6:List D) (k:Int×List D×Int×Int×List D×List D→Option R):c_Z19 F x0 x1 x2 x3 x4 x5 x6 k=(c_Z19 F x0 x1 x2 x3 x4 x5 x6 some).bind k:=by
 unfold c_Z19
 repeat' first
  | exact Jy
  | exact Jx
  | exact Jw
  | apply Jt
  | apply Ju
  | apply Jz
  | (apply Jv; intro _)
  | intro _
def n_Z19:Nat→T_Z19
 | 0,_,_,_,_,_,_,_=>none
 | n+1,x0,x1,x2,x3,x4,x5,x6=>c_Z19 (n_Z19 n) x0 x1 x2 x3 x4 x5 x6 some
noncomputable def Z19 (x0 x1:Int) (x2:List D) (x3 x4:Int) (x5 x6:List D):Option (Int×List D×Int×Int×List D×List D):=ev (fun n=>n_Z19 n x0 x1 x2 x3 x4 x5 x6)
def m_Z19 (F:T_Z19):JA:=⟨28,⟨(.ptr 1000 [0]::.undef::.ptr 1001 [0]::.ptr 1002 [0]::.undef::.undef::.undef::.int .i64::.int .i64::uu 134 ([])),[(1000,.obox (.agg [.rd (.int .u8),.int .i64,.int .u64])),(1001,.obox (.agg [.nilsl,.nilsl])),(1002,.obox (.agg [.own (.struct [.int .i64,.int .i64]),.full 1003 [] (.struct [.int .i64,.int .i64])])),(1003,.own (.struct [.int .i64,.int .i64]))]⟩,[(.exit 5,⟨(.ptr 1000 [0]::.undef::.ptr 1001 [0]::.ptr 1002 [0]::.undef::.undef::.undef::.int .i64::uu 135 ([])),[(1000,.obox (.agg [.rd (.int .u8),.int .i64,.int .u64])),(1001,.obox (.agg [.nilsl,.nilsl])),(1002,.obox (.agg [.own (.struct [.int .i64,.int .i64]),.full 1003 [] (.struct [.int .i64,.int .i64])])),(1003,.own (.struct [.int .i64,.int .i64]))]⟩)],fun _ ds k=>dI (fun x0 ds=>dI (fun x1 ds=>dL (fun x2 ds=>dI (fun x3 ds=>dI (fun x4 ds=>dL (fun x5 ds=>dL (fun x6 ds=>dE ((F x0 x1 x2 x3 x4 x5 x6).bind (fun y=>k 0 [.I y.1,.L y.2.1,.I y.2.2.1,.I y.2.2.2.1,.L y.2.2.2.2.1,.L y.2.2.2.2.2])) ds) ds) ds) ds) ds) ds) ds) ds⟩
theorem q_Z19 (F:T_Z19) (x0 x1:Int) (x2:List D) (x3 x4:Int) (x5 x6:List D):JZ (Jp []) (Jq [m_Z19 F]) A 133 (Jj (Jh Try.f133) 28) ((m_Z19 F).sh.mk' [.I x0,.I x1,.L x2,.I x3,.I x4,.L x5,.L x6]) (fun e σ'=>some (e,σ'))=c_Z19 F x0 x1 x2 x3 x4 x5 x6 (fun y=>some (.exit 5,SSt.mk' ⟨(.ptr 1000 [0]::.undef::.ptr 1001 [0]::.ptr 1002 [0]::.undef::.undef::.undef::.int .i64::uu 135 ([])),[(1000,.obox (.agg [.rd (.int .u8),.int .i64,.int .u64])),(1001,.obox (.agg [.nilsl,.nilsl])),(1002,.obox (.agg [.own (.struct [.int .i64,.int .i64]),.full 1003 [] (.struct [.int .i64,.int .i64])])),(1003,.own (.struct [.int .i64,.int .i64]))]⟩ [.I y.1,.L y.2.1,.I y.2.2.1,.I y.2.2.2.1,.L y.2.2.2.2.1,.L y.2.2.2.2.2])):=by kernel_rfl
theorem m_Z19_ok:∀ n,(m_Z19 (n_Z19 n)).ok Try.prog (Jj (Jh Try.f133) 28):=by
 intro n
 induction n with
 | zero=>
  intro R ds k r h
  unfold m_Z19 at h
  obtain ⟨_,_,rfl,h⟩:=Jb h
  obtain ⟨_,_,rfl,h⟩:=Jb h
  obtain ⟨_,_,rfl,h⟩:=Ja h
  obtain ⟨_,_,rfl,h⟩:=Jb h
  obtain ⟨_,_,rfl,h⟩:=Jb h
  obtain ⟨_,_,rfl,h⟩:=Ja h
  obtain ⟨_,_,rfl,h⟩:=Ja h
  obtain ⟨rfl,hE⟩:=Je h
  obtain ⟨y,hy,hk⟩:=Jf hE
  cases hy
 | succ n ih=>
  intro R ds k r h
  unfold m_Z19 at h
  obtain ⟨_,_,rfl,h⟩:=Jb h
  obtain ⟨_,_,rfl,h⟩:=Jb h
  obtain ⟨_,_,rfl,h⟩:=Ja h
  obtain ⟨_,_,rfl,h⟩:=Jb h
  obtain ⟨_,_,rfl,h⟩:=Jb h
  obtain ⟨_,_,rfl,h⟩:=Ja h
  obtain ⟨_,_,rfl,h⟩:=Ja h
  obtain ⟨rfl,hE⟩:=Je h
  obtain ⟨y,hy,hk⟩:=Jf hE
  exact ⟨0,_,_,_,hk,rfl,JO px (fx:=⟨Try.func133,by kernel_rfl,by kernel_rfl⟩) Jm (Jo ih Jn) (by kernel_rfl) ((q_Z19 ..).trans ((c_Z19_bind ..).trans (Jg hy)))⟩
noncomputable def e_Z19:JA:=m_Z19 (Z19)
theorem e_Z19_ok:(e_Z19).ok Try.prog (Jj (Jh Try.f133) 28):=by
 intro R ds k r h
 unfold e_Z19 m_Z19 at h
 obtain ⟨_,_,rfl,h⟩:=Jb h
 obtain ⟨_,_,rfl,h⟩:=Jb h
 obtain ⟨_,_,rfl,h⟩:=Ja h
 obtain ⟨_,_,rfl,h⟩:=Jb h
 obtain ⟨_,_,rfl,h⟩:=Jb h
 obtain ⟨_,_,rfl,h⟩:=Ja h
 obtain ⟨_,_,rfl,h⟩:=Ja h
 obtain ⟨rfl,hE⟩:=Je h
 obtain ⟨y,hy,hk⟩:=Jf hE
 obtain ⟨n,hn⟩:=J4 hy
 exact m_Z19_ok n R _ k r ((Jg hn).trans hk)

/-!-/
abbrev T_Z20:=Int→Int→List D→Int→Int→List D→List D→Option ((Int×List D×Int×Int×List D×List D)⊕(Int×List D×Int×Int×List D×List D))
def c_Z20 {R:Type} (F:T_Z20) (x0 x1:Int) (x2:List D) (x3 x4:Int) (x5 x6:List D) (k:(Int×List D×Int×Int×List D×List D)⊕(Int×List D×Int×Int×List D×List D)→Option R):Option R:=
 bif decide (x1<(7:Int)) then
 bif decide ((↑x6.length:Int)<(25:Int)) then
 bif !decide (x0=x1) then
 if 0≤x0∧x0<(↑x5.length:Int) then
 if x0.toNat+1≤x5.length then
 if x0.toNat+1≤x5.length then
 if 0≤x1∧x1<(↑x5.length:Int) then
 if x1.toNat+1≤x5.length then
 if x1.toNat+1≤x5.length then
 if x6.length+[D.node [D.int ((x5.getD x0.toNat (D.int 0)).fld (0:Nat)).toInt,D.int ((x5.getD x1.toNat (D.int 0)).fld (0:Nat)).toInt]].length≤(4294967296:Nat) then
 (Z19 x0 (IntKind.i64.wrap (x1+1)) x2 x3 x4 x5 (x6++[D.node [D.int ((x5.getD x0.toNat (D.int 0)).fld (0:Nat)).toInt,D.int ((x5.getD x1.toNat (D.int 0)).fld (0:Nat)).toInt]])).bind (fun y0=>
 k (.inl (y0.fst,y0.snd.fst,y0.snd.snd.fst,y0.snd.snd.snd.fst,y0.snd.snd.snd.snd.fst,y0.snd.snd.snd.snd.snd)))
 else
 none
 else
 none
 else
 none
 else
 none
 else
 none
 else
 none
 else
 none
 else
 (F x0 (IntKind.i64.wrap (x1+1)) x2 x3 x4 x5 x6).bind k
 else
 k (.inr (x0,x2,x3,x4,x5,x6))
 else
 k (.inr (x0,x2,x3,x4,x5,x6))
theorem c_Z20_bind {R:Type} (F:T_Z20) (x0 x1:Int) (x2:List D) (x3 x4:Int) (x5 x6:List D) (k:(Int×List D×Int×Int×List D×List D)⊕(Int×List D×Int×Int×List D×List D)→Option R):c_Z20 F x0 x1 x2 x3 x4 x5 x6 k=(c_Z20 F x0 x1 x2 x3 x4 x5 x6 some).bind k:=by
 unfold c_Z20
 repeat' first
  | exact Jy
  | exact Jx
  | exact Jw
  | apply Jt
  | apply Ju
  | apply Jz
  | (apply Jv; intro _)
  | intro _
def n_Z20:Nat→T_Z20
 | 0,_,_,_,_,_,_,_=>none
 | n+1,x0,x1,x2,x3,x4,x5,x6=>c_Z20 (n_Z20 n) x0 x1 x2 x3 x4 x5 x6 some
noncomputable def Z20 (x0 x1:Int) (x2:List D) (x3 x4:Int) (x5 x6:List D):Option ((Int×List D×Int×Int×List D×List D)⊕(Int×List D×Int×Int×List D×List D)):=ev (fun n=>n_Z20 n x0 x1 x2 x3 x4 x5 x6)
def m_Z20 (F:T_Z20):JA:=⟨28,⟨(.ptr 1000 [0]::.undef::.ptr 1001 [0]::.ptr 1002 [0]::.undef::.undef::.undef::.int .i64::.int .i64::uu 134 ([])),[(1000,.obox (.agg [.rd (.int .u8),.int .i64,.int .u64])),(1001,.obox (.agg [.nilsl,.nilsl])),(1002,.obox (.agg [.own (.struct [.int .i64,.int .i64]),.own (.struct [.int .i64,.int .i64])]))]⟩,[(.exit 5,⟨(.ptr 1000 [0]::.undef::.ptr 1001 [0]::.ptr 1002 [0]::.undef::.undef::.undef::.int .i64::uu 135 ([])),[(1000,.obox (.agg [.rd (.int .u8),.int .i64,.int .u64])),(1001,.obox (.agg [.nilsl,.nilsl])),(1002,.obox (.agg [.own (.struct [.int .i64,.int .i64]),.full 1003 [] (.struct [.int .i64,.int .i64])])),(1003,.own (.struct [.int .i64,.int .i64]))]⟩),(.exit 5,⟨(.ptr 1000 [0]::.undef::.ptr 1001 [0]::.ptr 1002 [0]::.undef::.undef::.undef::.int .i64::uu 135 ([])),[(1000,.obox (.agg [.rd (.int .u8),.int .i64,.int .u64])),(1001,.obox (.agg [.nilsl,.nilsl])),(1002,.obox (.agg [.own (.struct [.int .i64,.int .i64]),.own (.struct [.int .i64,.int .i64])]))]⟩)],fun _ ds k=>dI (fun x0 ds=>dI (fun x1 ds=>dL (fun x2 ds=>dI (fun x3 ds=>dI (fun x4 ds=>dL (fun x5 ds=>dL (fun x6 ds=>dE ((F x0 x1 x2 x3 x4 x5 x6).bind (Sum.elim (fun y=>k 0 [.I y.1,.L y.2.1,.I y.2.2.1,.I y.2.2.2.1,.L y.2.2.2.2.1,.L y.2.2.2.2.2]) (fun y=>k 1 [.I y.1,.L y.2.1,.I y.2.2.1,.I y.2.2.2.1,.L y.2.2.2.2.1,.L y.2.2.2.2.2]))) ds) ds) ds) ds) ds) ds) ds) ds⟩
theorem q_Z20 (F:T_Z20) (x0 x1:Int) (x2:List D) (x3 x4:Int) (x5 x6:List D):JZ (Jp []) (Jq [m_Z20 F,e_Z19]) A 133 (Jj (Jh Try.f133) 28) ((m_Z20 F).sh.mk' [.I x0,.I x1,.L x2,.I x3,.I x4,.L x5,.L x6]) (fun e σ'=>some (e,σ'))=c_Z20 F x0 x1 x2 x3 x4 x5 x6 (Sum.elim (fun y=>some (.exit 5,SSt.mk' ⟨(.ptr 1000 [0]::.undef::.ptr 1001 [0]::.ptr 1002 [0]::.undef::.undef::.undef::.int .i64::uu 135 ([])),[(1000,.obox (.agg [.rd (.int .u8),.int .i64,.int .u64])),(1001,.obox (.agg [.nilsl,.nilsl])),(1002,.obox (.agg [.own (.struct [.int .i64,.int .i64]),.full 1003 [] (.struct [.int .i64,.int .i64])])),(1003,.own (.struct [.int .i64,.int .i64]))]⟩ [.I y.1,.L y.2.1,.I y.2.2.1,.I y.2.2.2.1,.L y.2.2.2.2.1,.L y.2.2.2.2.2])) (fun y=>some (.exit 5,SSt.mk' ⟨(.ptr 1000 [0]::.undef::.ptr 1001 [0]::.ptr 1002 [0]::.undef::.undef::.undef::.int .i64::uu 135 ([])),[(1000,.obox (.agg [.rd (.int .u8),.int .i64,.int .u64])),(1001,.obox (.agg [.nilsl,.nilsl])),(1002,.obox (.agg [.own (.struct [.int .i64,.int .i64]),.own (.struct [.int .i64,.int .i64])]))]⟩ [.I y.1,.L y.2.1,.I y.2.2.1,.I y.2.2.2.1,.L y.2.2.2.2.1,.L y.2.2.2.2.2]))):=by kernel_rfl
theorem m_Z20_ok:∀ n,(m_Z20 (n_Z20 n)).ok Try.prog (Jj (Jh Try.f133) 28):=by
 intro n
 induction n with
 | zero=>
  intro R ds k r h
  unfold m_Z20 at h
  obtain ⟨_,_,rfl,h⟩:=Jb h
  obtain ⟨_,_,rfl,h⟩:=Jb h
  obtain ⟨_,_,rfl,h⟩:=Ja h
  obtain ⟨_,_,rfl,h⟩:=Jb h
  obtain ⟨_,_,rfl,h⟩:=Jb h
  obtain ⟨_,_,rfl,h⟩:=Ja h
  obtain ⟨_,_,rfl,h⟩:=Ja h
  obtain ⟨rfl,hE⟩:=Je h
  obtain ⟨y,hy,hk⟩:=Jf hE
  cases hy
 | succ n ih=>
  intro R ds k r h
  unfold m_Z20 at h
  obtain ⟨_,_,rfl,h⟩:=Jb h
  obtain ⟨_,_,rfl,h⟩:=Jb h
  obtain ⟨_,_,rfl,h⟩:=Ja h
  obtain ⟨_,_,rfl,h⟩:=Jb h
  obtain ⟨_,_,rfl,h⟩:=Jb h
  obtain ⟨_,_,rfl,h⟩:=Ja h
  obtain ⟨_,_,rfl,h⟩:=Ja h
  obtain ⟨rfl,hE⟩:=Je h
  obtain ⟨y,hy,hk⟩:=Jf hE
  cases y with
  | inl y=>
   exact ⟨0,_,_,_,hk,rfl,JO px (fx:=⟨Try.func133,by kernel_rfl,by kernel_rfl⟩) Jm (Jo ih (Jo e_Z19_ok Jn)) (by kernel_rfl) ((q_Z20 ..).trans ((c_Z20_bind ..).trans (Jg hy)))⟩
  | inr y=>
   exact ⟨1,_,_,_,hk,rfl,JO px (fx:=⟨Try.func133,by kernel_rfl,by kernel_rfl⟩) Jm (Jo ih (Jo e_Z19_ok Jn)) (by kernel_rfl) ((q_Z20 ..).trans ((c_Z20_bind ..).trans (Jg hy)))⟩
noncomputable def e_Z20:JA:=m_Z20 (Z20)
theorem e_Z20_ok:(e_Z20).ok Try.prog (Jj (Jh Try.f133) 28):=by
 intro R ds k r h
 unfold e_Z20 m_Z20 at h
 obtain ⟨_,_,rfl,h⟩:=Jb h
 obtain ⟨_,_,rfl,h⟩:=Jb h
 obtain ⟨_,_,rfl,h⟩:=Ja h
 obtain ⟨_,_,rfl,h⟩:=Jb h
 obtain ⟨_,_,rfl,h⟩:=Jb h
 obtain ⟨_,_,rfl,h⟩:=Ja h
 obtain ⟨_,_,rfl,h⟩:=Ja h
 obtain ⟨rfl,hE⟩:=Je h
 obtain ⟨y,hy,hk⟩:=Jf hE
 obtain ⟨n,hn⟩:=J4 hy
 exact m_Z20_ok n R _ k r ((Jg hn).trans hk)

/-!-/
abbrev T_Z21:=Int→List D→Int→Int→List D→List D→Option (List D×Int×Int×List D×List D)
def c_Z21 {R:Type} (F:T_Z21) (x0:Int) (x1:List D) (x2 x3:Int) (x4 x5:List D) (k:List D×Int×Int×List D×List D→Option R):Option R:=
 bif decide (x0<(7:Int)) then
 (Z19 x0 (0:Int) x1 x2 x3 x4 x5).bind (fun y0=>
 (F (IntKind.i64.wrap (y0.fst+1)) y0.snd.fst y0.snd.snd.fst y0.snd.snd.snd.fst y0.snd.snd.snd.snd.fst y0.snd.snd.snd.snd.snd).bind k)
 else
 k (x1,x2,x3,x4,x5)
theorem c_Z21_bind {R:Type} (F:T_Z21) (x0:Int) (x1:List D) (x2 x3:Int) (x4 x5:List D) (k:List D×Int×Int×List D×List D→Option R):c_Z21 F x0 x1 x2 x3 x4 x5 k=(c_Z21 F x0 x1 x2 x3 x4 x5 some).bind k:=by
 unfold c_Z21
 repeat' first
  | exact Jy
  | exact Jx
  | exact Jw
  | apply Jt
  | apply Ju
  | apply Jz
  | (apply Jv; intro _)
  | intro _
def n_Z21:Nat→T_Z21
 | 0,_,_,_,_,_,_=>none
 | n+1,x0,x1,x2,x3,x4,x5=>c_Z21 (n_Z21 n) x0 x1 x2 x3 x4 x5 some
noncomputable def Z21 (x0:Int) (x1:List D) (x2 x3:Int) (x4 x5:List D):Option (List D×Int×Int×List D×List D):=ev (fun n=>n_Z21 n x0 x1 x2 x3 x4 x5)
def m_Z21 (F:T_Z21):JA:=⟨25,⟨(.ptr 1000 [0]::.undef::.ptr 1001 [0]::.ptr 1002 [0]::.undef::.undef::.undef::.int .i64::uu 135 ([])),[(1000,.obox (.agg [.rd (.int .u8),.int .i64,.int .u64])),(1001,.obox (.agg [.nilsl,.nilsl])),(1002,.obox (.agg [.own (.struct [.int .i64,.int .i64]),.full 1003 [] (.struct [.int .i64,.int .i64])])),(1003,.own (.struct [.int .i64,.int .i64]))]⟩,[(.exit 3,⟨(.ptr 1000 [0]::.undef::.ptr 1001 [0]::.ptr 1002 [0]::uu 139 ([])),[(1000,.obox (.agg [.rd (.int .u8),.int .i64,.int .u64])),(1001,.obox (.agg [.nilsl,.nilsl])),(1002,.obox (.agg [.own (.struct [.int .i64,.int .i64]),.full 1003 [] (.struct [.int .i64,.int .i64])])),(1003,.own (.struct [.int .i64,.int .i64]))]⟩)],fun _ ds k=>dI (fun x0 ds=>dL (fun x1 ds=>dI (fun x2 ds=>dI (fun x3 ds=>dL (fun x4 ds=>dL (fun x5 ds=>dE ((F x0 x1 x2 x3 x4 x5).bind (fun y=>k 0 [.L y.1,.I y.2.1,.I y.2.2.1,.L y.2.2.2.1,.L y.2.2.2.2])) ds) ds) ds) ds) ds) ds) ds⟩
theorem q_Z21 (F:T_Z21) (x0:Int) (x1:List D) (x2 x3:Int) (x4 x5:List D):JZ (Jp []) (Jq [m_Z21 F,e_Z19]) A 133 (Jj (Jh Try.f133) 25) ((m_Z21 F).sh.mk' [.I x0,.L x1,.I x2,.I x3,.L x4,.L x5]) (fun e σ'=>some (e,σ'))=c_Z21 F x0 x1 x2 x3 x4 x5 (fun y=>some (.exit 3,SSt.mk' ⟨(.ptr 1000 [0]::.undef::.ptr 1001 [0]::.ptr 1002 [0]::uu 139 ([])),[(1000,.obox (.agg [.rd (.int .u8),.int .i64,.int .u64])),(1001,.obox (.agg [.nilsl,.nilsl])),(1002,.obox (.agg [.own (.struct [.int .i64,.int .i64]),.full 1003 [] (.struct [.int .i64,.int .i64])])),(1003,.own (.struct [.int .i64,.int .i64]))]⟩ [.L y.1,.I y.2.1,.I y.2.2.1,.L y.2.2.2.1,.L y.2.2.2.2])):=by kernel_rfl
theorem m_Z21_ok:∀ n,(m_Z21 (n_Z21 n)).ok Try.prog (Jj (Jh Try.f133) 25):=by
 intro n
 induction n with
 | zero=>
  intro R ds k r h
  unfold m_Z21 at h
  obtain ⟨_,_,rfl,h⟩:=Jb h
  obtain ⟨_,_,rfl,h⟩:=Ja h
  obtain ⟨_,_,rfl,h⟩:=Jb h
  obtain ⟨_,_,rfl,h⟩:=Jb h
  obtain ⟨_,_,rfl,h⟩:=Ja h
  obtain ⟨_,_,rfl,h⟩:=Ja h
  obtain ⟨rfl,hE⟩:=Je h
  obtain ⟨y,hy,hk⟩:=Jf hE
  cases hy
 | succ n ih=>
  intro R ds k r h
  unfold m_Z21 at h
  obtain ⟨_,_,rfl,h⟩:=Jb h
  obtain ⟨_,_,rfl,h⟩:=Ja h
  obtain ⟨_,_,rfl,h⟩:=Jb h
  obtain ⟨_,_,rfl,h⟩:=Jb h
  obtain ⟨_,_,rfl,h⟩:=Ja h
  obtain ⟨_,_,rfl,h⟩:=Ja h
  obtain ⟨rfl,hE⟩:=Je h
  obtain ⟨y,hy,hk⟩:=Jf hE
  exact ⟨0,_,_,_,hk,rfl,JO px (fx:=⟨Try.func133,by kernel_rfl,by kernel_rfl⟩) Jm (Jo ih (Jo e_Z19_ok Jn)) (by kernel_rfl) ((q_Z21 ..).trans ((c_Z21_bind ..).trans (Jg hy)))⟩
noncomputable def e_Z21:JA:=m_Z21 (Z21)
theorem e_Z21_ok:(e_Z21).ok Try.prog (Jj (Jh Try.f133) 25):=by
 intro R ds k r h
 unfold e_Z21 m_Z21 at h
 obtain ⟨_,_,rfl,h⟩:=Jb h
 obtain ⟨_,_,rfl,h⟩:=Ja h
 obtain ⟨_,_,rfl,h⟩:=Jb h
 obtain ⟨_,_,rfl,h⟩:=Jb h
 obtain ⟨_,_,rfl,h⟩:=Ja h
 obtain ⟨_,_,rfl,h⟩:=Ja h
 obtain ⟨rfl,hE⟩:=Je h
 obtain ⟨y,hy,hk⟩:=Jf hE
 obtain ⟨n,hn⟩:=J4 hy
 exact m_Z21_ok n R _ k r ((Jg hn).trans hk)

/-!-/
abbrev T_Z22:=Int→List D→Int→Int→List D→List D→Option ((List D×Int×Int×List D×List D)⊕(List D×Int×Int×List D×List D))
def c_Z22 {R:Type} (F:T_Z22) (x0:Int) (x1:List D) (x2 x3:Int) (x4 x5:List D) (k:(List D×Int×Int×List D×List D)⊕(List D×Int×Int×List D×List D)→Option R):Option R:=
 bif decide (x0<(7:Int)) then
 (Z20 x0 (0:Int) x1 x2 x3 x4 x5).bind (Sum.elim (fun y0=>
 (Z21 (IntKind.i64.wrap (y0.fst+1)) y0.snd.fst y0.snd.snd.fst y0.snd.snd.snd.fst y0.snd.snd.snd.snd.fst y0.snd.snd.snd.snd.snd).bind (fun y1=>
 k (.inl (y1.fst,y1.snd.fst,y1.snd.snd.fst,y1.snd.snd.snd.fst,y1.snd.snd.snd.snd)))) (fun y2=>
 (F (IntKind.i64.wrap (y2.fst+1)) y2.snd.fst y2.snd.snd.fst y2.snd.snd.snd.fst y2.snd.snd.snd.snd.fst y2.snd.snd.snd.snd.snd).bind k))
 else
 k (.inr (x1,x2,x3,x4,x5))
theorem c_Z22_bind {R:Type} (F:T_Z22) (x0:Int) (x1:List D) (x2 x3:Int) (x4 x5:List D) (k:(List D×Int×Int×List D×List D)⊕(List D×Int×Int×List D×List D)→Option R):c_Z22 F x0 x1 x2 x3 x4 x5 k=(c_Z22 F x0 x1 x2 x3 x4 x5 some).bind k:=by
 unfold c_Z22
 repeat' first
  | exact Jy
  | exact Jx
  | exact Jw
  | apply Jt
  | apply Ju
  | apply Jz
  | (apply Jv; intro _)
  | intro _
def n_Z22:Nat→T_Z22
 | 0,_,_,_,_,_,_=>none
 | n+1,x0,x1,x2,x3,x4,x5=>c_Z22 (n_Z22 n) x0 x1 x2 x3 x4 x5 some
noncomputable def Z22 (x0:Int) (x1:List D) (x2 x3:Int) (x4 x5:List D):Option ((List D×Int×Int×List D×List D)⊕(List D×Int×Int×List D×List D)):=ev (fun n=>n_Z22 n x0 x1 x2 x3 x4 x5)
def m_Z22 (F:T_Z22):JA:=⟨25,⟨(.ptr 1000 [0]::.undef::.ptr 1001 [0]::.ptr 1002 [0]::.undef::.undef::.undef::.int .i64::uu 135 ([])),[(1000,.obox (.agg [.rd (.int .u8),.int .i64,.int .u64])),(1001,.obox (.agg [.nilsl,.nilsl])),(1002,.obox (.agg [.own (.struct [.int .i64,.int .i64]),.own (.struct [.int .i64,.int .i64])]))]⟩,[(.exit 3,⟨(.ptr 1000 [0]::.undef::.ptr 1001 [0]::.ptr 1002 [0]::uu 139 ([])),[(1000,.obox (.agg [.rd (.int .u8),.int .i64,.int .u64])),(1001,.obox (.agg [.nilsl,.nilsl])),(1002,.obox (.agg [.own (.struct [.int .i64,.int .i64]),.full 1003 [] (.struct [.int .i64,.int .i64])])),(1003,.own (.struct [.int .i64,.int .i64]))]⟩),(.exit 3,⟨(.ptr 1000 [0]::.undef::.ptr 1001 [0]::.ptr 1002 [0]::uu 139 ([])),[(1000,.obox (.agg [.rd (.int .u8),.int .i64,.int .u64])),(1001,.obox (.agg [.nilsl,.nilsl])),(1002,.obox (.agg [.own (.struct [.int .i64,.int .i64]),.own (.struct [.int .i64,.int .i64])]))]⟩)],fun _ ds k=>dI (fun x0 ds=>dL (fun x1 ds=>dI (fun x2 ds=>dI (fun x3 ds=>dL (fun x4 ds=>dL (fun x5 ds=>dE ((F x0 x1 x2 x3 x4 x5).bind (Sum.elim (fun y=>k 0 [.L y.1,.I y.2.1,.I y.2.2.1,.L y.2.2.2.1,.L y.2.2.2.2]) (fun y=>k 1 [.L y.1,.I y.2.1,.I y.2.2.1,.L y.2.2.2.1,.L y.2.2.2.2]))) ds) ds) ds) ds) ds) ds) ds⟩
theorem q_Z22 (F:T_Z22) (x0:Int) (x1:List D) (x2 x3:Int) (x4 x5:List D):JZ (Jp []) (Jq [m_Z22 F,e_Z20,e_Z21]) A 133 (Jj (Jh Try.f133) 25) ((m_Z22 F).sh.mk' [.I x0,.L x1,.I x2,.I x3,.L x4,.L x5]) (fun e σ'=>some (e,σ'))=c_Z22 F x0 x1 x2 x3 x4 x5 (Sum.elim (fun y=>some (.exit 3,SSt.mk' ⟨(.ptr 1000 [0]::.undef::.ptr 1001 [0]::.ptr 1002 [0]::uu 139 ([])),[(1000,.obox (.agg [.rd (.int .u8),.int .i64,.int .u64])),(1001,.obox (.agg [.nilsl,.nilsl])),(1002,.obox (.agg [.own (.struct [.int .i64,.int .i64]),.full 1003 [] (.struct [.int .i64,.int .i64])])),(1003,.own (.struct [.int .i64,.int .i64]))]⟩ [.L y.1,.I y.2.1,.I y.2.2.1,.L y.2.2.2.1,.L y.2.2.2.2])) (fun y=>some (.exit 3,SSt.mk' ⟨(.ptr 1000 [0]::.undef::.ptr 1001 [0]::.ptr 1002 [0]::uu 139 ([])),[(1000,.obox (.agg [.rd (.int .u8),.int .i64,.int .u64])),(1001,.obox (.agg [.nilsl,.nilsl])),(1002,.obox (.agg [.own (.struct [.int .i64,.int .i64]),.own (.struct [.int .i64,.int .i64])]))]⟩ [.L y.1,.I y.2.1,.I y.2.2.1,.L y.2.2.2.1,.L y.2.2.2.2]))):=by kernel_rfl
theorem m_Z22_ok:∀ n,(m_Z22 (n_Z22 n)).ok Try.prog (Jj (Jh Try.f133) 25):=by
 intro n
 induction n with
 | zero=>
  intro R ds k r h
  unfold m_Z22 at h
  obtain ⟨_,_,rfl,h⟩:=Jb h
  obtain ⟨_,_,rfl,h⟩:=Ja h
  obtain ⟨_,_,rfl,h⟩:=Jb h
  obtain ⟨_,_,rfl,h⟩:=Jb h
  obtain ⟨_,_,rfl,h⟩:=Ja h
  obtain ⟨_,_,rfl,h⟩:=Ja h
  obtain ⟨rfl,hE⟩:=Je h
  obtain ⟨y,hy,hk⟩:=Jf hE
  cases hy
 | succ n ih=>
  intro R ds k r h
  unfold m_Z22 at h
  obtain ⟨_,_,rfl,h⟩:=Jb h
  obtain ⟨_,_,rfl,h⟩:=Ja h
  obtain ⟨_,_,rfl,h⟩:=Jb h
  obtain ⟨_,_,rfl,h⟩:=Jb h
  obtain ⟨_,_,rfl,h⟩:=Ja h
  obtain ⟨_,_,rfl,h⟩:=Ja h
  obtain ⟨rfl,hE⟩:=Je h
  obtain ⟨y,hy,hk⟩:=Jf hE
  cases y with
  | inl y=>
   exact ⟨0,_,_,_,hk,rfl,JO px (fx:=⟨Try.func133,by kernel_rfl,by kernel_rfl⟩) Jm (Jo ih (Jo e_Z20_ok (Jo e_Z21_ok Jn))) (by kernel_rfl) ((q_Z22 ..).trans ((c_Z22_bind ..).trans (Jg hy)))⟩
  | inr y=>
   exact ⟨1,_,_,_,hk,rfl,JO px (fx:=⟨Try.func133,by kernel_rfl,by kernel_rfl⟩) Jm (Jo ih (Jo e_Z20_ok (Jo e_Z21_ok Jn))) (by kernel_rfl) ((q_Z22 ..).trans ((c_Z22_bind ..).trans (Jg hy)))⟩
noncomputable def e_Z22:JA:=m_Z22 (Z22)
theorem e_Z22_ok:(e_Z22).ok Try.prog (Jj (Jh Try.f133) 25):=by
 intro R ds k r h
 unfold e_Z22 m_Z22 at h
 obtain ⟨_,_,rfl,h⟩:=Jb h
 obtain ⟨_,_,rfl,h⟩:=Ja h
 obtain ⟨_,_,rfl,h⟩:=Jb h
 obtain ⟨_,_,rfl,h⟩:=Jb h
 obtain ⟨_,_,rfl,h⟩:=Ja h
 obtain ⟨_,_,rfl,h⟩:=Ja h
 obtain ⟨rfl,hE⟩:=Je h
 obtain ⟨y,hy,hk⟩:=Jf hE
 obtain ⟨n,hn⟩:=J4 hy
 exact m_Z22_ok n R _ k r ((Jg hn).trans hk)

/-!-/
def c_Z23 {R:Type} (x0:List D) (x1 x2:Int) (k:List D×List D×List D×Int×Int→Option R):Option R:=
 (Z15 x0 x1 x2).bind (fun y0=>
 bif decide ((↑y0.fst.length:Int)=(0:Int)) then
 k (y0.fst,y0.snd.fst,y0.snd.snd.fst,y0.snd.snd.snd.fst,y0.snd.snd.snd.snd)
 else
 (Z3 y0.snd.snd.fst y0.snd.snd.snd.fst y0.snd.snd.snd.snd (↑y0.fst.length:Int)).bind (fun y1=>
 if 0≤y1.fst∧y1.fst<(↑y0.fst.length:Int) then
 if y1.fst.toNat+1≤y0.fst.length then
 (Z3 y1.snd.fst y1.snd.snd.fst y1.snd.snd.snd (20:Int)).bind (fun y2=>
 bif decide (y2.fst=(0:Int)) then
 (Z16 y2.snd.fst y2.snd.snd.fst y2.snd.snd.snd ([D.int 0,D.int (999:Int),D.int (1000:Int),D.int (3:Int)])).bind (fun y3=>
 if 0≤y1.fst∧y1.fst<(↑y0.fst.length:Int) then
 if y1.fst.toNat+1≤y0.fst.length then
 k (y0.fst.set y1.fst.toNat (D.node [D.int y3.fst,D.int ((y0.fst.getD y1.fst.toNat (D.int 0)).fld (1:Nat)).toInt]),y0.snd.fst,y3.snd.fst,y3.snd.snd.fst,y3.snd.snd.snd)
 else
 none
 else
 none)
 else
 bif decide (y2.fst=(1:Int)) then
 (Z3 y2.snd.fst y2.snd.snd.fst y2.snd.snd.snd (6:Int)).bind (fun y4=>
 if 0≤y1.fst∧y1.fst<(↑y0.fst.length:Int) then
 if y1.fst.toNat+1≤y0.fst.length then
 k (y0.fst.set y1.fst.toNat (D.node [D.int ((y0.fst.getD y1.fst.toNat (D.int 0)).fld (0:Nat)).toInt,D.int y4.fst]),y0.snd.fst,y4.snd.fst,y4.snd.snd.fst,y4.snd.snd.snd)
 else
 none
 else
 none)
 else
 bif decide (y2.fst=(2:Int)) then
 if y0.snd.fst.length+[D.node [D.int ((y0.fst.getD y1.fst.toNat (D.int 0)).fld (0:Nat)).toInt,D.int ((y0.fst.getD y1.fst.toNat (D.int 0)).fld (0:Nat)).toInt]].length≤(4294967296:Nat) then
 if 0≤y1.fst∧y1.fst<(↑y0.fst.length:Int) then
 if y1.fst.toNat+1≤y0.fst.length then
 k (y0.fst.set y1.fst.toNat (D.node [D.int ((y0.fst.getD y1.fst.toNat (D.int 0)).fld (0:Nat)).toInt,D.int ((y0.fst.getD y1.fst.toNat (D.int 0)).fld (1:Nat)).toInt]),y0.snd.fst++[D.node [D.int ((y0.fst.getD y1.fst.toNat (D.int 0)).fld (0:Nat)).toInt,D.int ((y0.fst.getD y1.fst.toNat (D.int 0)).fld (0:Nat)).toInt]],y2.snd.fst,y2.snd.snd.fst,y2.snd.snd.snd)
 else
 none
 else
 none
 else
 none
 else
 bif decide (y2.fst=(3:Int)) then
 (Z3 y2.snd.fst y2.snd.snd.fst y2.snd.snd.snd (9:Int)).bind (fun y5=>
 (Z3 y5.snd.fst y5.snd.snd.fst y5.snd.snd.snd (9:Int)).bind (fun y6=>
 if y0.snd.fst.length+[D.node [D.int y5.fst,D.int y6.fst]].length≤(4294967296:Nat) then
 if 0≤y1.fst∧y1.fst<(↑y0.fst.length:Int) then
 if y1.fst.toNat+1≤y0.fst.length then
 k (y0.fst.set y1.fst.toNat (D.node [D.int ((y0.fst.getD y1.fst.toNat (D.int 0)).fld (0:Nat)).toInt,D.int ((y0.fst.getD y1.fst.toNat (D.int 0)).fld (1:Nat)).toInt]),y0.snd.fst++[D.node [D.int y5.fst,D.int y6.fst]],y6.snd.fst,y6.snd.snd.fst,y6.snd.snd.snd)
 else
 none
 else
 none
 else
 none))
 else
 bif decide (y2.fst=(4:Int)) then
 (Z18 (0:Int) y2.snd.fst y2.snd.snd.fst y2.snd.snd.snd y0.fst y0.snd.fst).bind (Sum.elim (fun y7=>
 k (y7.snd.snd.snd.snd,y7.snd.snd.snd.fst,y7.fst,y7.snd.fst,y7.snd.snd.fst)) (fun y8=>
 k (y8.snd.snd.snd.fst,y8.snd.snd.snd.snd,y8.fst,y8.snd.fst,y8.snd.snd.fst)))
 else
 bif decide (y2.fst=(5:Int)) then
 (Z6 y2.snd.fst y2.snd.snd.fst y2.snd.snd.snd (7:Int)).bind (fun y9=>
 (Z22 (0:Int) y9.snd.fst y9.snd.snd.fst y9.snd.snd.snd y9.fst []).bind (Sum.elim (fun y10=>
 (Z3 y10.fst y10.snd.fst y10.snd.snd.fst (2:Int)).bind (fun y11=>
 if (0:Int)≤(0:Int)∧(0:Int)≤IntKind.i64.wrap ((24:Int)+y11.fst)∧IntKind.i64.wrap ((24:Int)+y11.fst)≤(↑y10.snd.snd.snd.snd.length:Int) then
 if (0:Nat)+((IntKind.i64.wrap ((24:Int)+y11.fst)).toNat - (0:Nat))≤y10.snd.snd.snd.snd.length then
 k (y10.snd.snd.snd.fst,List.take ((IntKind.i64.wrap ((24:Int)+y11.fst)).toNat - (0:Nat)) (List.drop (0:Nat) y10.snd.snd.snd.snd),y11.snd.fst,y11.snd.snd.fst,y11.snd.snd.snd)
 else
 none
 else
 none)) (fun y12=>
 (Z3 y12.fst y12.snd.fst y12.snd.snd.fst (2:Int)).bind (fun y13=>
 if (0:Int)≤(0:Int)∧(0:Int)≤IntKind.i64.wrap ((24:Int)+y13.fst)∧IntKind.i64.wrap ((24:Int)+y13.fst)≤(↑y12.snd.snd.snd.snd.length:Int) then
 if (0:Nat)+((IntKind.i64.wrap ((24:Int)+y13.fst)).toNat - (0:Nat))≤y12.snd.snd.snd.snd.length then
 k (y12.snd.snd.snd.fst,List.take ((IntKind.i64.wrap ((24:Int)+y13.fst)).toNat - (0:Nat)) (List.drop (0:Nat) y12.snd.snd.snd.snd),y13.snd.fst,y13.snd.snd.fst,y13.snd.snd.snd)
 else
 none
 else
 none))))
 else
 if 0≤y1.fst∧y1.fst<(↑y0.fst.length:Int) then
 if y1.fst.toNat+1≤y0.fst.length then
 k (y0.fst.set y1.fst.toNat (D.node [D.int ((y0.fst.getD y1.fst.toNat (D.int 0)).fld (0:Nat)).toInt,D.int ((y0.fst.getD y1.fst.toNat (D.int 0)).fld (1:Nat)).toInt]),y0.snd.fst,y2.snd.fst,y2.snd.snd.fst,y2.snd.snd.snd)
 else
 none
 else
 none)
 else
 none
 else
 none))
theorem c_Z23_bind {R:Type} (x0:List D) (x1 x2:Int) (k:List D×List D×List D×Int×Int→Option R):c_Z23 x0 x1 x2 k=(c_Z23 x0 x1 x2 some).bind k:=by
 unfold c_Z23
 repeat' first
  | exact Jy
  | exact Jx
  | exact Jw
  | apply Jt
  | apply Ju
  | apply Jz
  | (apply Jv; intro _)
  | intro _
def Z23 (x0:List D) (x1 x2:Int):Option (List D×List D×List D×Int×Int):=c_Z23 x0 x1 x2 some
def e_Z23:Ent:=⟨133,[.obox (.agg [.rd (.int .u8),.int .i64,.int .u64])],[(.agg [.own (.struct [.int .i64,.int .i64]),.own (.struct [.int .i64,.int .i64])],[.obox (.agg [.rd (.int .u8),.int .i64,.int .u64])])],fun _ ds k=>dL (fun x0 ds=>dI (fun x1 ds=>dI (fun x2 ds=>dE ((Z23 x0 x1 x2).bind (fun y=>k 0 [.L y.1,.L y.2.1,.L y.2.2.1,.I y.2.2.2.1,.I y.2.2.2.2])) ds) ds) ds) ds⟩
theorem q_Z23 (x0:List D) (x1 x2:Int):JR (Jp [e_Z15,e_Z3,e_Z16,e_Z6]) (Jq [e_Z18,e_Z22]) A 133 Try.f133 (Sh.mks e_Z23.sh [.L x0,.I x1,.I x2]).1 (fun v os=>some (v,os))=c_Z23 x0 x1 x2 (fun y=>JT e_Z23 0 [.L y.1,.L y.2.1,.L y.2.2.1,.I y.2.2.2.1,.I y.2.2.2.2]):=by kernel_rfl
theorem e_Z23_ok:e_Z23.ok Try.prog A:=by
 intro R ds k r h
 unfold e_Z23 at h
 obtain ⟨_,_,rfl,h⟩:=Ja h
 obtain ⟨_,_,rfl,h⟩:=Jb h
 obtain ⟨_,_,rfl,h⟩:=Jb h
 obtain ⟨rfl,hE⟩:=Je h
 obtain ⟨y,hy,hk⟩:=Jf hE
 exact ⟨0,_,_,_,hk,rfl,JU px (fx:=⟨Try.func133,by kernel_rfl,by kernel_rfl⟩) (Jr e_Z15_ok (Jr e_Z3_ok (Jr e_Z16_ok (Jr e_Z6_ok Jm)))) (Jo e_Z18_ok (Jo e_Z22_ok Jn)) ((q_Z23 ..).trans ((c_Z23_bind ..).trans (Jg hy)))⟩

/-!-/
abbrev T_Z24:=Int→Int→List D→List D→Option ((Int)⊕(Unit))
def c_Z24 {R:Type} (F:T_Z24) (x0 x1:Int) (x2 x3:List D) (k:(Int)⊕(Unit)→Option R):Option R:=
 bif decide (x1<(↑x2.length:Int)) then
 if 0≤x1∧x1<(↑x2.length:Int) then
 bif decide (((x2.getD x1.toNat (D.int 0)).fld (0:Nat)).toInt=x0) then
 k (.inl x1)
 else
 (F x0 (IntKind.i64.wrap (x1+1)) x2 x3).bind k
 else
 none
 else
 k (.inr ())
theorem c_Z24_bind {R:Type} (F:T_Z24) (x0 x1:Int) (x2 x3:List D) (k:(Int)⊕(Unit)→Option R):c_Z24 F x0 x1 x2 x3 k=(c_Z24 F x0 x1 x2 x3 some).bind k:=by
 unfold c_Z24
 repeat' first
  | exact Jy
  | exact Jx
  | exact Jw
  | apply Jt
  | apply Ju
  | apply Jz
  | (apply Jv; intro _)
  | intro _
def n_Z24:Nat→T_Z24
 | 0,_,_,_,_=>none
 | n+1,x0,x1,x2,x3=>c_Z24 (n_Z24 n) x0 x1 x2 x3 some
noncomputable def Z24 (x0 x1:Int) (x2 x3:List D):Option ((Int)⊕(Unit)):=ev (fun n=>n_Z24 n x0 x1 x2 x3)
def m_Z24 (F:T_Z24):JA:=⟨2,⟨(.undef::.int .i64::.ptr 1000 [0]::.undef::.undef::.int .i64::uu 16 ([])),[(1000,.obox (.agg [.rd (.struct [.int .i64,.int .i64]),.rd (.struct [.int .i64,.int .i64])]))]⟩,[(.ret,⟨(uu 4 (.int .i64::uu 17 ([]))),[]⟩),(.exit 0,⟨(uu 22 ([])),[]⟩)],fun _ ds k=>dI (fun x0 ds=>dI (fun x1 ds=>dL (fun x2 ds=>dL (fun x3 ds=>dE ((F x0 x1 x2 x3).bind (Sum.elim (fun y=>k 0 [.I y]) (fun y=>k 1 []))) ds) ds) ds) ds) ds⟩
theorem q_Z24 (F:T_Z24) (x0 x1:Int) (x2 x3:List D):JZ (Jp []) (Jq [m_Z24 F]) A 141 (Jj (Jh Try.f141) 2) ((m_Z24 F).sh.mk' [.I x0,.I x1,.L x2,.L x3]) (fun e σ'=>some (e,σ'))=c_Z24 F x0 x1 x2 x3 (Sum.elim (fun y=>some (.ret,SSt.mk' ⟨(uu 4 (.int .i64::uu 17 ([]))),[]⟩ [.I y])) (fun y=>some (.exit 0,SSt.mk' ⟨(uu 22 ([])),[]⟩ []))):=by kernel_rfl
theorem m_Z24_ok:∀ n,(m_Z24 (n_Z24 n)).ok Try.prog (Jj (Jh Try.f141) 2):=by
 intro n
 induction n with
 | zero=>
  intro R ds k r h
  unfold m_Z24 at h
  obtain ⟨_,_,rfl,h⟩:=Jb h
  obtain ⟨_,_,rfl,h⟩:=Jb h
  obtain ⟨_,_,rfl,h⟩:=Ja h
  obtain ⟨_,_,rfl,h⟩:=Ja h
  obtain ⟨rfl,hE⟩:=Je h
  obtain ⟨y,hy,hk⟩:=Jf hE
  cases hy
 | succ n ih=>
  intro R ds k r h
  unfold m_Z24 at h
  obtain ⟨_,_,rfl,h⟩:=Jb h
  obtain ⟨_,_,rfl,h⟩:=Jb h
  obtain ⟨_,_,rfl,h⟩:=Ja h
  obtain ⟨_,_,rfl,h⟩:=Ja h
  obtain ⟨rfl,hE⟩:=Je h
  obtain ⟨y,hy,hk⟩:=Jf hE
  cases y with
  | inl y=>
   exact ⟨0,_,_,_,hk,rfl,JO px (fx:=⟨Try.func141,by kernel_rfl,by kernel_rfl⟩) Jm (Jo ih Jn) (by kernel_rfl) ((q_Z24 ..).trans ((c_Z24_bind ..).trans (Jg hy)))⟩
  | inr y=>
   exact ⟨1,_,_,_,hk,rfl,JO px (fx:=⟨Try.func141,by kernel_rfl,by kernel_rfl⟩) Jm (Jo ih Jn) (by kernel_rfl) ((q_Z24 ..).trans ((c_Z24_bind ..).trans (Jg hy)))⟩
noncomputable def e_Z24:JA:=m_Z24 (Z24)
theorem e_Z24_ok:(e_Z24).ok Try.prog (Jj (Jh Try.f141) 2):=by
 intro R ds k r h
 unfold e_Z24 m_Z24 at h
 obtain ⟨_,_,rfl,h⟩:=Jb h
 obtain ⟨_,_,rfl,h⟩:=Jb h
 obtain ⟨_,_,rfl,h⟩:=Ja h
 obtain ⟨_,_,rfl,h⟩:=Ja h
 obtain ⟨rfl,hE⟩:=Je h
 obtain ⟨y,hy,hk⟩:=Jf hE
 obtain ⟨n,hn⟩:=J4 hy
 exact m_Z24_ok n R _ k r ((Jg hn).trans hk)

/-!-/
def c_Z25 {R:Type} (x0 x1:List D) (x2:Int) (k:Int→Option R):Option R:=
 (Z24 x2 (0:Int) x0 x1).bind (Sum.elim (fun y0=>
 k y0) (fun y1=>
 k (-1:Int)))
theorem c_Z25_bind {R:Type} (x0 x1:List D) (x2:Int) (k:Int→Option R):c_Z25 x0 x1 x2 k=(c_Z25 x0 x1 x2 some).bind k:=by
 unfold c_Z25
 repeat' first
  | exact Jy
  | exact Jx
  | exact Jw
  | apply Jt
  | apply Ju
  | apply Jz
  | (apply Jv; intro _)
  | intro _
def Z25 (x0 x1:List D) (x2:Int):Option (Int):=c_Z25 x0 x1 x2 some
def e_Z25:Ent:=⟨141,[.agg [.rd (.struct [.int .i64,.int .i64]),.rd (.struct [.int .i64,.int .i64])],.int .i64],[(.int .i64,[.undef,.undef])],fun _ ds k=>dL (fun x0 ds=>dL (fun x1 ds=>dI (fun x2 ds=>dE ((Z25 x0 x1 x2).bind (fun y=>k 0 [.I y])) ds) ds) ds) ds⟩
theorem q_Z25 (x0 x1:List D) (x2:Int):JR (Jp []) (Jq [e_Z24]) A 141 Try.f141 (Sh.mks e_Z25.sh [.L x0,.L x1,.I x2]).1 (fun v os=>some (v,os))=c_Z25 x0 x1 x2 (fun y=>JT e_Z25 0 [.I y]):=by kernel_rfl
theorem e_Z25_ok:e_Z25.ok Try.prog A:=by
 intro R ds k r h
 unfold e_Z25 at h
 obtain ⟨_,_,rfl,h⟩:=Ja h
 obtain ⟨_,_,rfl,h⟩:=Ja h
 obtain ⟨_,_,rfl,h⟩:=Jb h
 obtain ⟨rfl,hE⟩:=Je h
 obtain ⟨y,hy,hk⟩:=Jf hE
 exact ⟨0,_,_,_,hk,rfl,JU px (fx:=⟨Try.func141,by kernel_rfl,by kernel_rfl⟩) Jm (Jo e_Z24_ok Jn) ((q_Z25 ..).trans ((c_Z25_bind ..).trans (Jg hy)))⟩

/-!-/
abbrev T_Z26:=Int→List D→List D→List D→Option (List D)
def c_Z26 {R:Type} (F:T_Z26) (x0:Int) (x1 x2 x3:List D) (k:List D→Option R):Option R:=
 bif decide (x0<(↑x2.length:Int)) then
 if 0≤x0∧x0<(↑x2.length:Int) then
 (Z25 x1 x2 (((x2.getD x0.toNat (D.int 0)).fld (0:Nat)).toInt)).bind (fun y0=>
 if 0≤x0∧x0<(↑x2.length:Int) then
 (Z25 x1 x2 (((x2.getD x0.toNat (D.int 0)).fld (1:Nat)).toInt)).bind (fun y1=>
 if 0≤y0∧y0<(↑x3.length:Int) then
 if y0.toNat+1≤x3.length then
 if (0:Int)≤IntKind.u64.wrap y1 then
 if 0≤y0∧y0<(↑x3.length:Int) then
 if y0.toNat+1≤x3.length then
 (F (IntKind.i64.wrap (x0+1)) x1 x2 (x3.set y0.toNat (D.int (IntKind.i64.wrap (↑(BitVec.ofInt IntKind.i64.bits (x3.getD y0.toNat (D.int 0)).toInt ||| BitVec.ofInt IntKind.i64.bits (IntKind.i64.wrap ((1:Int) * (2:Int) ^ Min.min (IntKind.u64.wrap y1).toNat IntKind.i64.bits))).toNat:Int))))).bind k
 else
 none
 else
 none
 else
 none
 else
 none
 else
 none)
 else
 none)
 else
 none
 else
 k x3
theorem c_Z26_bind {R:Type} (F:T_Z26) (x0:Int) (x1 x2 x3:List D) (k:List D→Option R):c_Z26 F x0 x1 x2 x3 k=(c_Z26 F x0 x1 x2 x3 some).bind k:=by
 unfold c_Z26
 repeat' first
  | exact Jy
  | exact Jx
  | exact Jw
  | apply Jt
  | apply Ju
  | apply Jz
  | (apply Jv; intro _)
  | intro _
def n_Z26:Nat→T_Z26
 | 0,_,_,_,_=>none
 | n+1,x0,x1,x2,x3=>c_Z26 (n_Z26 n) x0 x1 x2 x3 some
noncomputable def Z26 (x0:Int) (x1 x2 x3:List D):Option (List D):=ev (fun n=>n_Z26 n x0 x1 x2 x3)
def m_Z26 (F:T_Z26):JA:=⟨3,⟨(.undef::.ptr 1000 [0]::.undef::.full 1001 [] (.int .i64)::.int .i64::uu 76 ([])),[(1000,.obox (.agg [.rd (.struct [.int .i64,.int .i64]),.rd (.struct [.int .i64,.int .i64])])),(1001,.own (.int .i64))]⟩,[(.exit 0,⟨(.undef::.undef::.undef::.full 1000 [] (.int .i64)::uu 77 ([])),[(1000,.own (.int .i64))]⟩)],fun _ ds k=>dI (fun x0 ds=>dL (fun x1 ds=>dL (fun x2 ds=>dL (fun x3 ds=>dE ((F x0 x1 x2 x3).bind (fun y=>k 0 [.L y])) ds) ds) ds) ds) ds⟩
theorem q_Z26 (F:T_Z26) (x0:Int) (x1 x2 x3:List D):JZ (Jp [e_Z25]) (Jq [m_Z26 F]) A 91 (Jj (Jh Try.f91) 3) ((m_Z26 F).sh.mk' [.I x0,.L x1,.L x2,.L x3]) (fun e σ'=>some (e,σ'))=c_Z26 F x0 x1 x2 x3 (fun y=>some (.exit 0,SSt.mk' ⟨(.undef::.undef::.undef::.full 1000 [] (.int .i64)::uu 77 ([])),[(1000,.own (.int .i64))]⟩ [.L y])):=by kernel_rfl
theorem m_Z26_ok:∀ n,(m_Z26 (n_Z26 n)).ok Try.prog (Jj (Jh Try.f91) 3):=by
 intro n
 induction n with
 | zero=>
  intro R ds k r h
  unfold m_Z26 at h
  obtain ⟨_,_,rfl,h⟩:=Jb h
  obtain ⟨_,_,rfl,h⟩:=Ja h
  obtain ⟨_,_,rfl,h⟩:=Ja h
  obtain ⟨_,_,rfl,h⟩:=Ja h
  obtain ⟨rfl,hE⟩:=Je h
  obtain ⟨y,hy,hk⟩:=Jf hE
  cases hy
 | succ n ih=>
  intro R ds k r h
  unfold m_Z26 at h
  obtain ⟨_,_,rfl,h⟩:=Jb h
  obtain ⟨_,_,rfl,h⟩:=Ja h
  obtain ⟨_,_,rfl,h⟩:=Ja h
  obtain ⟨_,_,rfl,h⟩:=Ja h
  obtain ⟨rfl,hE⟩:=Je h
  obtain ⟨y,hy,hk⟩:=Jf hE
  exact ⟨0,_,_,_,hk,rfl,JO px (fx:=⟨Try.func91,by kernel_rfl,by kernel_rfl⟩) (Jr e_Z25_ok Jm) (Jo ih Jn) (by kernel_rfl) ((q_Z26 ..).trans ((c_Z26_bind ..).trans (Jg hy)))⟩
noncomputable def e_Z26:JA:=m_Z26 (Z26)
theorem e_Z26_ok:(e_Z26).ok Try.prog (Jj (Jh Try.f91) 3):=by
 intro R ds k r h
 unfold e_Z26 m_Z26 at h
 obtain ⟨_,_,rfl,h⟩:=Jb h
 obtain ⟨_,_,rfl,h⟩:=Ja h
 obtain ⟨_,_,rfl,h⟩:=Ja h
 obtain ⟨_,_,rfl,h⟩:=Ja h
 obtain ⟨rfl,hE⟩:=Je h
 obtain ⟨y,hy,hk⟩:=Jf hE
 obtain ⟨n,hn⟩:=J4 hy
 exact m_Z26_ok n R _ k r ((Jg hn).trans hk)

/-!-/
abbrev T_Z27:=Int→Int→List D→Option (Int×List D)
def c_Z27 {R:Type} (F:T_Z27) (x0 x1:Int) (x2:List D) (k:Int×List D→Option R):Option R:=
 bif decide (x1<(↑x2.length:Int)) then
 if 0≤x1∧x1<(↑x2.length:Int) then
 if x1.toNat+1≤x2.length then
 if (0:Int)≤IntKind.u64.wrap x0 then
 bif decide (IntKind.i64.wrap (↑(BitVec.ofInt IntKind.i64.bits ((x2.getD x1.toNat (D.int 0)).toInt.fdiv ((2:Int) ^ Min.min (IntKind.u64.wrap x0).toNat IntKind.i64.bits)) &&& BitVec.ofInt IntKind.i64.bits (1:Int)).toNat:Int)=(1:Int)) then
 if 0≤x1∧x1<(↑x2.length:Int) then
 if x1.toNat+1≤x2.length then
 if 0≤x0∧x0<(↑x2.length:Int) then
 if x0.toNat+1≤x2.length then
 if 0≤x1∧x1<(↑x2.length:Int) then
 if x1.toNat+1≤x2.length then
 (F x0 (IntKind.i64.wrap (x1+1)) (x2.set x1.toNat (D.int (IntKind.i64.wrap (↑(BitVec.ofInt IntKind.i64.bits (x2.getD x1.toNat (D.int 0)).toInt ||| BitVec.ofInt IntKind.i64.bits (x2.getD x0.toNat (D.int 0)).toInt).toNat:Int))))).bind k
 else
 none
 else
 none
 else
 none
 else
 none
 else
 none
 else
 none
 else
 (F x0 (IntKind.i64.wrap (x1+1)) x2).bind k
 else
 none
 else
 none
 else
 none
 else
 k (x0,x2)
theorem c_Z27_bind {R:Type} (F:T_Z27) (x0 x1:Int) (x2:List D) (k:Int×List D→Option R):c_Z27 F x0 x1 x2 k=(c_Z27 F x0 x1 x2 some).bind k:=by
 unfold c_Z27
 repeat' first
  | exact Jy
  | exact Jx
  | exact Jw
  | apply Jt
  | apply Ju
  | apply Jz
  | (apply Jv; intro _)
  | intro _
def n_Z27:Nat→T_Z27
 | 0,_,_,_=>none
 | n+1,x0,x1,x2=>c_Z27 (n_Z27 n) x0 x1 x2 some
noncomputable def Z27 (x0 x1:Int) (x2:List D):Option (Int×List D):=ev (fun n=>n_Z27 n x0 x1 x2)
def m_Z27 (F:T_Z27):JA:=⟨11,⟨(.undef::.undef::.undef::.full 1000 [] (.int .i64)::.undef::.undef::.undef::.int .i64::.int .i64::uu 72 ([])),[(1000,.own (.int .i64))]⟩,[(.exit 4,⟨(.undef::.undef::.undef::.full 1000 [] (.int .i64)::.undef::.undef::.undef::.int .i64::uu 73 ([])),[(1000,.own (.int .i64))]⟩)],fun _ ds k=>dI (fun x0 ds=>dI (fun x1 ds=>dL (fun x2 ds=>dE ((F x0 x1 x2).bind (fun y=>k 0 [.I y.1,.L y.2])) ds) ds) ds) ds⟩
theorem q_Z27 (F:T_Z27) (x0 x1:Int) (x2:List D):JZ (Jp []) (Jq [m_Z27 F]) A 91 (Jj (Jh Try.f91) 11) ((m_Z27 F).sh.mk' [.I x0,.I x1,.L x2]) (fun e σ'=>some (e,σ'))=c_Z27 F x0 x1 x2 (fun y=>some (.exit 4,SSt.mk' ⟨(.undef::.undef::.undef::.full 1000 [] (.int .i64)::.undef::.undef::.undef::.int .i64::uu 73 ([])),[(1000,.own (.int .i64))]⟩ [.I y.1,.L y.2])):=by kernel_rfl
theorem m_Z27_ok:∀ n,(m_Z27 (n_Z27 n)).ok Try.prog (Jj (Jh Try.f91) 11):=by
 intro n
 induction n with
 | zero=>
  intro R ds k r h
  unfold m_Z27 at h
  obtain ⟨_,_,rfl,h⟩:=Jb h
  obtain ⟨_,_,rfl,h⟩:=Jb h
  obtain ⟨_,_,rfl,h⟩:=Ja h
  obtain ⟨rfl,hE⟩:=Je h
  obtain ⟨y,hy,hk⟩:=Jf hE
  cases hy
 | succ n ih=>
  intro R ds k r h
  unfold m_Z27 at h
  obtain ⟨_,_,rfl,h⟩:=Jb h
  obtain ⟨_,_,rfl,h⟩:=Jb h
  obtain ⟨_,_,rfl,h⟩:=Ja h
  obtain ⟨rfl,hE⟩:=Je h
  obtain ⟨y,hy,hk⟩:=Jf hE
  exact ⟨0,_,_,_,hk,rfl,JO px (fx:=⟨Try.func91,by kernel_rfl,by kernel_rfl⟩) Jm (Jo ih Jn) (by kernel_rfl) ((q_Z27 ..).trans ((c_Z27_bind ..).trans (Jg hy)))⟩
noncomputable def e_Z27:JA:=m_Z27 (Z27)
theorem e_Z27_ok:(e_Z27).ok Try.prog (Jj (Jh Try.f91) 11):=by
 intro R ds k r h
 unfold e_Z27 m_Z27 at h
 obtain ⟨_,_,rfl,h⟩:=Jb h
 obtain ⟨_,_,rfl,h⟩:=Jb h
 obtain ⟨_,_,rfl,h⟩:=Ja h
 obtain ⟨rfl,hE⟩:=Je h
 obtain ⟨y,hy,hk⟩:=Jf hE
 obtain ⟨n,hn⟩:=J4 hy
 exact m_Z27_ok n R _ k r ((Jg hn).trans hk)

/-!-/
abbrev T_Z28:=Int→List D→Option (List D)
def c_Z28 {R:Type} (F:T_Z28) (x0:Int) (x1:List D) (k:List D→Option R):Option R:=
 bif decide (x0<(↑x1.length:Int)) then
 (Z27 x0 (0:Int) x1).bind (fun y0=>
 (F (IntKind.i64.wrap (y0.fst+1)) y0.snd).bind k)
 else
 k x1
theorem c_Z28_bind {R:Type} (F:T_Z28) (x0:Int) (x1:List D) (k:List D→Option R):c_Z28 F x0 x1 k=(c_Z28 F x0 x1 some).bind k:=by
 unfold c_Z28
 repeat' first
  | exact Jy
  | exact Jx
  | exact Jw
  | apply Jt
  | apply Ju
  | apply Jz
  | (apply Jv; intro _)
  | intro _
def n_Z28:Nat→T_Z28
 | 0,_,_=>none
 | n+1,x0,x1=>c_Z28 (n_Z28 n) x0 x1 some
noncomputable def Z28 (x0:Int) (x1:List D):Option (List D):=ev (fun n=>n_Z28 n x0 x1)
def m_Z28 (F:T_Z28):JA:=⟨8,⟨(.undef::.undef::.undef::.full 1000 [] (.int .i64)::.undef::.undef::.undef::.int .i64::uu 73 ([])),[(1000,.own (.int .i64))]⟩,[(.exit 2,⟨(.undef::.undef::.undef::.full 1000 [] (.int .i64)::uu 77 ([])),[(1000,.own (.int .i64))]⟩)],fun _ ds k=>dI (fun x0 ds=>dL (fun x1 ds=>dE ((F x0 x1).bind (fun y=>k 0 [.L y])) ds) ds) ds⟩
theorem q_Z28 (F:T_Z28) (x0:Int) (x1:List D):JZ (Jp []) (Jq [m_Z28 F,e_Z27]) A 91 (Jj (Jh Try.f91) 8) ((m_Z28 F).sh.mk' [.I x0,.L x1]) (fun e σ'=>some (e,σ'))=c_Z28 F x0 x1 (fun y=>some (.exit 2,SSt.mk' ⟨(.undef::.undef::.undef::.full 1000 [] (.int .i64)::uu 77 ([])),[(1000,.own (.int .i64))]⟩ [.L y])):=by kernel_rfl
theorem m_Z28_ok:∀ n,(m_Z28 (n_Z28 n)).ok Try.prog (Jj (Jh Try.f91) 8):=by
 intro n
 induction n with
 | zero=>
  intro R ds k r h
  unfold m_Z28 at h
  obtain ⟨_,_,rfl,h⟩:=Jb h
  obtain ⟨_,_,rfl,h⟩:=Ja h
  obtain ⟨rfl,hE⟩:=Je h
  obtain ⟨y,hy,hk⟩:=Jf hE
  cases hy
 | succ n ih=>
  intro R ds k r h
  unfold m_Z28 at h
  obtain ⟨_,_,rfl,h⟩:=Jb h
  obtain ⟨_,_,rfl,h⟩:=Ja h
  obtain ⟨rfl,hE⟩:=Je h
  obtain ⟨y,hy,hk⟩:=Jf hE
  exact ⟨0,_,_,_,hk,rfl,JO px (fx:=⟨Try.func91,by kernel_rfl,by kernel_rfl⟩) Jm (Jo ih (Jo e_Z27_ok Jn)) (by kernel_rfl) ((q_Z28 ..).trans ((c_Z28_bind ..).trans (Jg hy)))⟩
noncomputable def e_Z28:JA:=m_Z28 (Z28)
theorem e_Z28_ok:(e_Z28).ok Try.prog (Jj (Jh Try.f91) 8):=by
 intro R ds k r h
 unfold e_Z28 m_Z28 at h
 obtain ⟨_,_,rfl,h⟩:=Jb h
 obtain ⟨_,_,rfl,h⟩:=Ja h
 obtain ⟨rfl,hE⟩:=Je h
 obtain ⟨y,hy,hk⟩:=Jf hE
 obtain ⟨n,hn⟩:=J4 hy
 exact m_Z28_ok n R _ k r ((Jg hn).trans hk)

/-!-/
def c_Z29 {R:Type} (x0 x1:List D) (k:List D→Option R):Option R:=
 if (0:Int)≤(↑x0.length:Int)∧(↑x0.length:Int)≤(↑x0.length:Int)∧(↑x0.length:Int)≤(4294967296:Int) then
 (Z26 (0:Int) x0 x1 (List.replicate (↑x0.length:Int).toNat (D.int 0))).bind (fun y0=>
 (Z28 (0:Int) y0).bind (fun y1=>
 k y1))
 else
 none
theorem c_Z29_bind {R:Type} (x0 x1:List D) (k:List D→Option R):c_Z29 x0 x1 k=(c_Z29 x0 x1 some).bind k:=by
 unfold c_Z29
 repeat' first
  | exact Jy
  | exact Jx
  | exact Jw
  | apply Jt
  | apply Ju
  | apply Jz
  | (apply Jv; intro _)
  | intro _
def Z29 (x0 x1:List D):Option (List D):=c_Z29 x0 x1 some
def e_Z29:Ent:=⟨91,[.agg [.rd (.struct [.int .i64,.int .i64]),.rd (.struct [.int .i64,.int .i64])]],[(.own (.int .i64),[.undef])],fun _ ds k=>dL (fun x0 ds=>dL (fun x1 ds=>dE ((Z29 x0 x1).bind (fun y=>k 0 [.L y])) ds) ds) ds⟩
theorem q_Z29 (x0 x1:List D):JR (Jp []) (Jq [e_Z26,e_Z28]) A 91 Try.f91 (Sh.mks e_Z29.sh [.L x0,.L x1]).1 (fun v os=>some (v,os))=c_Z29 x0 x1 (fun y=>JT e_Z29 0 [.L y]):=by kernel_rfl
theorem e_Z29_ok:e_Z29.ok Try.prog A:=by
 intro R ds k r h
 unfold e_Z29 at h
 obtain ⟨_,_,rfl,h⟩:=Ja h
 obtain ⟨_,_,rfl,h⟩:=Ja h
 obtain ⟨rfl,hE⟩:=Je h
 obtain ⟨y,hy,hk⟩:=Jf hE
 exact ⟨0,_,_,_,hk,rfl,JU px (fx:=⟨Try.func91,by kernel_rfl,by kernel_rfl⟩) Jm (Jo e_Z26_ok (Jo e_Z28_ok Jn)) ((q_Z29 ..).trans ((c_Z29_bind ..).trans (Jg hy)))⟩

/-!-/
def c_Z30 {R:Type} (x0 x1:Int) (k:Bool→Option R):Option R:=
 if (0:Int)≤IntKind.u64.wrap x1 then
 k (decide (IntKind.i64.wrap (↑(BitVec.ofInt IntKind.i64.bits (x0.fdiv ((2:Int) ^ Min.min (IntKind.u64.wrap x1).toNat IntKind.i64.bits)) &&& BitVec.ofInt IntKind.i64.bits (1:Int)).toNat:Int)=(1:Int)))
 else
 none
theorem c_Z30_bind {R:Type} (x0 x1:Int) (k:Bool→Option R):c_Z30 x0 x1 k=(c_Z30 x0 x1 some).bind k:=by
 unfold c_Z30
 repeat' first
  | exact Jy
  | exact Jx
  | exact Jw
  | apply Jt
  | apply Ju
  | apply Jz
  | (apply Jv; intro _)
  | intro _
def Z30 (x0 x1:Int):Option (Bool):=c_Z30 x0 x1 some
def e_Z30:Ent:=⟨142,[.int .i64,.int .i64],[(.bool,[.undef,.undef])],fun _ ds k=>dI (fun x0 ds=>dI (fun x1 ds=>dE ((Z30 x0 x1).bind (fun y=>k 0 [.B y])) ds) ds) ds⟩
theorem q_Z30 (x0 x1:Int):JR (Jp []) (Jq []) A 142 Try.f142 (Sh.mks e_Z30.sh [.I x0,.I x1]).1 (fun v os=>some (v,os))=c_Z30 x0 x1 (fun y=>JT e_Z30 0 [.B y]):=by kernel_rfl
theorem e_Z30_ok:e_Z30.ok Try.prog A:=by
 intro R ds k r h
 unfold e_Z30 at h
 obtain ⟨_,_,rfl,h⟩:=Jb h
 obtain ⟨_,_,rfl,h⟩:=Jb h
 obtain ⟨rfl,hE⟩:=Je h
 obtain ⟨y,hy,hk⟩:=Jf hE
 exact ⟨0,_,_,_,hk,rfl,JU px (fx:=⟨Try.func142,by kernel_rfl,by kernel_rfl⟩) Jm Jn ((q_Z30 ..).trans ((c_Z30_bind ..).trans (Jg hy)))⟩

/-!-/
abbrev T_Z31:=Int→List D→Option ((Bool)⊕(Unit))
def c_Z31 {R:Type} (F:T_Z31) (x0:Int) (x1:List D) (k:(Bool)⊕(Unit)→Option R):Option R:=
 bif decide (x0<(↑x1.length:Int)) then
 if 0≤x0∧x0<(↑x1.length:Int) then
 if x0.toNat+1≤x1.length then
 (Z30 ((x1.getD x0.toNat (D.int 0)).toInt) x0).bind (fun y0=>
 bif y0 then
 k (.inl Bool.false)
 else
 (F (IntKind.i64.wrap (x0+1)) x1).bind k)
 else
 none
 else
 none
 else
 k (.inr ())
theorem c_Z31_bind {R:Type} (F:T_Z31) (x0:Int) (x1:List D) (k:(Bool)⊕(Unit)→Option R):c_Z31 F x0 x1 k=(c_Z31 F x0 x1 some).bind k:=by
 unfold c_Z31
 repeat' first
  | exact Jy
  | exact Jx
  | exact Jw
  | apply Jt
  | apply Ju
  | apply Jz
  | (apply Jv; intro _)
  | intro _
def n_Z31:Nat→T_Z31
 | 0,_,_=>none
 | n+1,x0,x1=>c_Z31 (n_Z31 n) x0 x1 some
noncomputable def Z31 (x0:Int) (x1:List D):Option ((Bool)⊕(Unit)):=ev (fun n=>n_Z31 n x0 x1)
def m_Z31 (F:T_Z31):JA:=⟨3,⟨(.undef::.undef::.undef::.full 1000 [] (.int .i64)::.int .i64::uu 14 ([])),[(1000,.own (.int .i64))]⟩,[(.ret,⟨(.undef::.undef::.bool::uu 16 ([])),[]⟩),(.exit 0,⟨(uu 19 ([])),[]⟩)],fun _ ds k=>dI (fun x0 ds=>dL (fun x1 ds=>dE ((F x0 x1).bind (Sum.elim (fun y=>k 0 [.B y]) (fun y=>k 1 []))) ds) ds) ds⟩
theorem q_Z31 (F:T_Z31) (x0:Int) (x1:List D):JZ (Jp [e_Z30]) (Jq [m_Z31 F]) A 172 (Jj (Jh Try.f172) 3) ((m_Z31 F).sh.mk' [.I x0,.L x1]) (fun e σ'=>some (e,σ'))=c_Z31 F x0 x1 (Sum.elim (fun y=>some (.ret,SSt.mk' ⟨(.undef::.undef::.bool::uu 16 ([])),[]⟩ [.B y])) (fun y=>some (.exit 0,SSt.mk' ⟨(uu 19 ([])),[]⟩ []))):=by kernel_rfl
theorem m_Z31_ok:∀ n,(m_Z31 (n_Z31 n)).ok Try.prog (Jj (Jh Try.f172) 3):=by
 intro n
 induction n with
 | zero=>
  intro R ds k r h
  unfold m_Z31 at h
  obtain ⟨_,_,rfl,h⟩:=Jb h
  obtain ⟨_,_,rfl,h⟩:=Ja h
  obtain ⟨rfl,hE⟩:=Je h
  obtain ⟨y,hy,hk⟩:=Jf hE
  cases hy
 | succ n ih=>
  intro R ds k r h
  unfold m_Z31 at h
  obtain ⟨_,_,rfl,h⟩:=Jb h
  obtain ⟨_,_,rfl,h⟩:=Ja h
  obtain ⟨rfl,hE⟩:=Je h
  obtain ⟨y,hy,hk⟩:=Jf hE
  cases y with
  | inl y=>
   exact ⟨0,_,_,_,hk,rfl,JO px (fx:=⟨Try.func172,by kernel_rfl,by kernel_rfl⟩) (Jr e_Z30_ok Jm) (Jo ih Jn) (by kernel_rfl) ((q_Z31 ..).trans ((c_Z31_bind ..).trans (Jg hy)))⟩
  | inr y=>
   exact ⟨1,_,_,_,hk,rfl,JO px (fx:=⟨Try.func172,by kernel_rfl,by kernel_rfl⟩) (Jr e_Z30_ok Jm) (Jo ih Jn) (by kernel_rfl) ((q_Z31 ..).trans ((c_Z31_bind ..).trans (Jg hy)))⟩
noncomputable def e_Z31:JA:=m_Z31 (Z31)
theorem e_Z31_ok:(e_Z31).ok Try.prog (Jj (Jh Try.f172) 3):=by
 intro R ds k r h
 unfold e_Z31 m_Z31 at h
 obtain ⟨_,_,rfl,h⟩:=Jb h
 obtain ⟨_,_,rfl,h⟩:=Ja h
 obtain ⟨rfl,hE⟩:=Je h
 obtain ⟨y,hy,hk⟩:=Jf hE
 obtain ⟨n,hn⟩:=J4 hy
 exact m_Z31_ok n R _ k r ((Jg hn).trans hk)

/-!-/
def c_Z32 {R:Type} (x0 x1:List D) (k:Bool→Option R):Option R:=
 (Z29 x0 x1).bind (fun y0=>
 (Z31 (0:Int) y0).bind (Sum.elim (fun y1=>
 k y1) (fun y2=>
 k Bool.true)))
theorem c_Z32_bind {R:Type} (x0 x1:List D) (k:Bool→Option R):c_Z32 x0 x1 k=(c_Z32 x0 x1 some).bind k:=by
 unfold c_Z32
 repeat' first
  | exact Jy
  | exact Jx
  | exact Jw
  | apply Jt
  | apply Ju
  | apply Jz
  | (apply Jv; intro _)
  | intro _
def Z32 (x0 x1:List D):Option (Bool):=c_Z32 x0 x1 some
def e_Z32:Ent:=⟨172,[.agg [.rd (.struct [.int .i64,.int .i64]),.rd (.struct [.int .i64,.int .i64])]],[(.bool,[.undef])],fun _ ds k=>dL (fun x0 ds=>dL (fun x1 ds=>dE ((Z32 x0 x1).bind (fun y=>k 0 [.B y])) ds) ds) ds⟩
theorem q_Z32 (x0 x1:List D):JR (Jp [e_Z29]) (Jq [e_Z31]) A 172 Try.f172 (Sh.mks e_Z32.sh [.L x0,.L x1]).1 (fun v os=>some (v,os))=c_Z32 x0 x1 (fun y=>JT e_Z32 0 [.B y]):=by kernel_rfl
theorem e_Z32_ok:e_Z32.ok Try.prog A:=by
 intro R ds k r h
 unfold e_Z32 at h
 obtain ⟨_,_,rfl,h⟩:=Ja h
 obtain ⟨_,_,rfl,h⟩:=Ja h
 obtain ⟨rfl,hE⟩:=Je h
 obtain ⟨y,hy,hk⟩:=Jf hE
 exact ⟨0,_,_,_,hk,rfl,JU px (fx:=⟨Try.func172,by kernel_rfl,by kernel_rfl⟩) (Jr e_Z29_ok Jm) (Jo e_Z31_ok Jn) ((q_Z32 ..).trans ((c_Z32_bind ..).trans (Jg hy)))⟩

/-!-/
def c_Z33 {R:Type} (x0:List D) (x1 x2:Int) (k:List D×List D×List D×Int×Int→Option R):Option R:=
 (Z15 x0 x1 x2).bind (fun y0=>
 (Z32 y0.fst y0.snd.fst).bind (fun y1=>
 bif !y1 then
 k (y0.fst,[],y0.snd.snd.fst,y0.snd.snd.snd.fst,y0.snd.snd.snd.snd)
 else
 k (y0.fst,y0.snd.fst,y0.snd.snd.fst,y0.snd.snd.snd.fst,y0.snd.snd.snd.snd)))
theorem c_Z33_bind {R:Type} (x0:List D) (x1 x2:Int) (k:List D×List D×List D×Int×Int→Option R):c_Z33 x0 x1 x2 k=(c_Z33 x0 x1 x2 some).bind k:=by
 unfold c_Z33
 repeat' first
  | exact Jy
  | exact Jx
  | exact Jw
  | apply Jt
  | apply Ju
  | apply Jz
  | (apply Jv; intro _)
  | intro _
def Z33 (x0:List D) (x1 x2:Int):Option (List D×List D×List D×Int×Int):=c_Z33 x0 x1 x2 some
def e_Z33:Ent:=⟨171,[.obox (.agg [.rd (.int .u8),.int .i64,.int .u64])],[(.agg [.own (.struct [.int .i64,.int .i64]),.own (.struct [.int .i64,.int .i64])],[.obox (.agg [.rd (.int .u8),.int .i64,.int .u64])])],fun _ ds k=>dL (fun x0 ds=>dI (fun x1 ds=>dI (fun x2 ds=>dE ((Z33 x0 x1 x2).bind (fun y=>k 0 [.L y.1,.L y.2.1,.L y.2.2.1,.I y.2.2.2.1,.I y.2.2.2.2])) ds) ds) ds) ds⟩
theorem q_Z33 (x0:List D) (x1 x2:Int):JR (Jp [e_Z15,e_Z32]) (Jq []) A 171 Try.f171 (Sh.mks e_Z33.sh [.L x0,.I x1,.I x2]).1 (fun v os=>some (v,os))=c_Z33 x0 x1 x2 (fun y=>JT e_Z33 0 [.L y.1,.L y.2.1,.L y.2.2.1,.I y.2.2.2.1,.I y.2.2.2.2]):=by kernel_rfl
theorem e_Z33_ok:e_Z33.ok Try.prog A:=by
 intro R ds k r h
 unfold e_Z33 at h
 obtain ⟨_,_,rfl,h⟩:=Ja h
 obtain ⟨_,_,rfl,h⟩:=Jb h
 obtain ⟨_,_,rfl,h⟩:=Jb h
 obtain ⟨rfl,hE⟩:=Je h
 obtain ⟨y,hy,hk⟩:=Jf hE
 exact ⟨0,_,_,_,hk,rfl,JU px (fx:=⟨Try.func171,by kernel_rfl,by kernel_rfl⟩) (Jr e_Z15_ok (Jr e_Z32_ok Jm)) Jn ((q_Z33 ..).trans ((c_Z33_bind ..).trans (Jg hy)))⟩

/-!-/
def c_Z34 {R:Type} (x0:List D) (x1 x2:Int) (k:List D×List D×List D×Int×Int→Option R):Option R:=
 (Z4 x0 x1 x2 (12:Int)).bind (fun y0=>
 bif y0.fst then
 (Z23 y0.snd.fst y0.snd.snd.fst y0.snd.snd.snd).bind (fun y1=>
 k (y1.fst,y1.snd.fst,y1.snd.snd.fst,y1.snd.snd.snd.fst,y1.snd.snd.snd.snd))
 else
 (Z33 y0.snd.fst y0.snd.snd.fst y0.snd.snd.snd).bind (fun y2=>
 k (y2.fst,y2.snd.fst,y2.snd.snd.fst,y2.snd.snd.snd.fst,y2.snd.snd.snd.snd)))
theorem c_Z34_bind {R:Type} (x0:List D) (x1 x2:Int) (k:List D×List D×List D×Int×Int→Option R):c_Z34 x0 x1 x2 k=(c_Z34 x0 x1 x2 some).bind k:=by
 unfold c_Z34
 repeat' first
  | exact Jy
  | exact Jx
  | exact Jw
  | apply Jt
  | apply Ju
  | apply Jz
  | (apply Jv; intro _)
  | intro _
def Z34 (x0:List D) (x1 x2:Int):Option (List D×List D×List D×Int×Int):=c_Z34 x0 x1 x2 some
def e_Z34:Ent:=⟨84,[.obox (.agg [.rd (.int .u8),.int .i64,.int .u64])],[(.agg [.own (.struct [.int .i64,.int .i64]),.own (.struct [.int .i64,.int .i64])],[.obox (.agg [.rd (.int .u8),.int .i64,.int .u64])])],fun _ ds k=>dL (fun x0 ds=>dI (fun x1 ds=>dI (fun x2 ds=>dE ((Z34 x0 x1 x2).bind (fun y=>k 0 [.L y.1,.L y.2.1,.L y.2.2.1,.I y.2.2.2.1,.I y.2.2.2.2])) ds) ds) ds) ds⟩
theorem q_Z34 (x0:List D) (x1 x2:Int):JR (Jp [e_Z4,e_Z23,e_Z33]) (Jq []) A 84 Try.f84 (Sh.mks e_Z34.sh [.L x0,.I x1,.I x2]).1 (fun v os=>some (v,os))=c_Z34 x0 x1 x2 (fun y=>JT e_Z34 0 [.L y.1,.L y.2.1,.L y.2.2.1,.I y.2.2.2.1,.I y.2.2.2.2]):=by kernel_rfl
theorem e_Z34_ok:e_Z34.ok Try.prog A:=by
 intro R ds k r h
 unfold e_Z34 at h
 obtain ⟨_,_,rfl,h⟩:=Ja h
 obtain ⟨_,_,rfl,h⟩:=Jb h
 obtain ⟨_,_,rfl,h⟩:=Jb h
 obtain ⟨rfl,hE⟩:=Je h
 obtain ⟨y,hy,hk⟩:=Jf hE
 exact ⟨0,_,_,_,hk,rfl,JU px (fx:=⟨Try.func84,by kernel_rfl,by kernel_rfl⟩) (Jr e_Z4_ok (Jr e_Z23_ok (Jr e_Z33_ok Jm))) Jn ((q_Z34 ..).trans ((c_Z34_bind ..).trans (Jg hy)))⟩

/-!-/
def c_Z35 {R:Type} (x0 x1 x2:Int) (k:Bool→Option R):Option R:=
 bif decide (x1≤x0) then
 k (decide (x0≤x2))
 else
 k Bool.false
theorem c_Z35_bind {R:Type} (x0 x1 x2:Int) (k:Bool→Option R):c_Z35 x0 x1 x2 k=(c_Z35 x0 x1 x2 some).bind k:=by
 unfold c_Z35
 repeat' first
  | exact Jy
  | exact Jx
  | exact Jw
  | apply Jt
  | apply Ju
  | apply Jz
  | (apply Jv; intro _)
  | intro _
def Z35 (x0 x1 x2:Int):Option (Bool):=c_Z35 x0 x1 x2 some
def e_Z35:Ent:=⟨108,[.int .i64,.int .i64,.int .i64],[(.bool,[.undef,.undef,.undef])],fun _ ds k=>dI (fun x0 ds=>dI (fun x1 ds=>dI (fun x2 ds=>dE ((Z35 x0 x1 x2).bind (fun y=>k 0 [.B y])) ds) ds) ds) ds⟩
theorem q_Z35 (x0 x1 x2:Int):JR (Jp []) (Jq []) A 108 Try.f108 (Sh.mks e_Z35.sh [.I x0,.I x1,.I x2]).1 (fun v os=>some (v,os))=c_Z35 x0 x1 x2 (fun y=>JT e_Z35 0 [.B y]):=by kernel_rfl
theorem e_Z35_ok:e_Z35.ok Try.prog A:=by
 intro R ds k r h
 unfold e_Z35 at h
 obtain ⟨_,_,rfl,h⟩:=Jb h
 obtain ⟨_,_,rfl,h⟩:=Jb h
 obtain ⟨_,_,rfl,h⟩:=Jb h
 obtain ⟨rfl,hE⟩:=Je h
 obtain ⟨y,hy,hk⟩:=Jf hE
 exact ⟨0,_,_,_,hk,rfl,JU px (fx:=⟨Try.func108,by kernel_rfl,by kernel_rfl⟩) Jm Jn ((q_Z35 ..).trans ((c_Z35_bind ..).trans (Jg hy)))⟩

/-!-/
abbrev T_Z36:=Int→List D→List D→Option ((Bool×List D×List D)⊕(List D×List D))
def c_Z36 {R:Type} (F:T_Z36) (x0:Int) (x1 x2:List D) (k:(Bool×List D×List D)⊕(List D×List D)→Option R):Option R:=
 bif decide (x0<(↑x1.length:Int)) then
 if 0≤x0∧x0<(↑x1.length:Int) then
 (Z35 (((x1.getD x0.toNat (D.int 0)).fld (0:Nat)).toInt) (1:Int) (999:Int)).bind (fun y0=>
 bif !y0 then
 k (.inl (Bool.false,x1,x2))
 else
 (Z35 (((x1.getD x0.toNat (D.int 0)).fld (1:Nat)).toInt) (1:Int) (4:Int)).bind (fun y1=>
 bif !y1 then
 k (.inl (Bool.false,x1,x2))
 else
 bif decide ((0:Int)<x0) then
 if (0:Int)≤IntKind.i64.wrap (x0 - 1)∧IntKind.i64.wrap (x0 - 1)<(↑x1.length:Int) then
 bif decide (((x1.getD x0.toNat (D.int 0)).fld (0:Nat)).toInt≤((x1.getD (IntKind.i64.wrap (x0 - 1)).toNat (D.int 0)).fld (0:Nat)).toInt) then
 k (.inl (Bool.false,x1,x2))
 else
 (F (IntKind.i64.wrap (x0+1)) x1 x2).bind k
 else
 none
 else
 (F (IntKind.i64.wrap (x0+1)) x1 x2).bind k))
 else
 none
 else
 k (.inr (x1,x2))
theorem c_Z36_bind {R:Type} (F:T_Z36) (x0:Int) (x1 x2:List D) (k:(Bool×List D×List D)⊕(List D×List D)→Option R):c_Z36 F x0 x1 x2 k=(c_Z36 F x0 x1 x2 some).bind k:=by
 unfold c_Z36
 repeat' first
  | exact Jy
  | exact Jx
  | exact Jw
  | apply Jt
  | apply Ju
  | apply Jz
  | (apply Jv; intro _)
  | intro _
def n_Z36:Nat→T_Z36
 | 0,_,_,_=>none
 | n+1,x0,x1,x2=>c_Z36 (n_Z36 n) x0 x1 x2 some
noncomputable def Z36 (x0:Int) (x1 x2:List D):Option ((Bool×List D×List D)⊕(List D×List D)):=ev (fun n=>n_Z36 n x0 x1 x2)
def m_Z36 (F:T_Z36):JA:=⟨4,⟨(.undef::.ptr 1000 [0]::.undef::.int .i64::uu 97 ([])),[(1000,.obox (.agg [.rd (.struct [.int .i64,.int .i64]),.rd (.struct [.int .i64,.int .i64])]))]⟩,[(.ret,⟨(.undef::.ptr 1000 [0]::.bool::uu 98 ([])),[(1000,.obox (.agg [.rd (.struct [.int .i64,.int .i64]),.rd (.struct [.int .i64,.int .i64])]))]⟩),(.exit 0,⟨(.undef::.ptr 1000 [0]::uu 99 ([])),[(1000,.obox (.agg [.rd (.struct [.int .i64,.int .i64]),.rd (.struct [.int .i64,.int .i64])]))]⟩)],fun _ ds k=>dI (fun x0 ds=>dL (fun x1 ds=>dL (fun x2 ds=>dE ((F x0 x1 x2).bind (Sum.elim (fun y=>k 0 [.B y.1,.L y.2.1,.L y.2.2]) (fun y=>k 1 [.L y.1,.L y.2]))) ds) ds) ds) ds⟩
theorem q_Z36 (F:T_Z36) (x0:Int) (x1 x2:List D):JZ (Jp [e_Z35]) (Jq [m_Z36 F]) A 100 (Jj (Jh Try.f100) 4) ((m_Z36 F).sh.mk' [.I x0,.L x1,.L x2]) (fun e σ'=>some (e,σ'))=c_Z36 F x0 x1 x2 (Sum.elim (fun y=>some (.ret,SSt.mk' ⟨(.undef::.ptr 1000 [0]::.bool::uu 98 ([])),[(1000,.obox (.agg [.rd (.struct [.int .i64,.int .i64]),.rd (.struct [.int .i64,.int .i64])]))]⟩ [.B y.1,.L y.2.1,.L y.2.2])) (fun y=>some (.exit 0,SSt.mk' ⟨(.undef::.ptr 1000 [0]::uu 99 ([])),[(1000,.obox (.agg [.rd (.struct [.int .i64,.int .i64]),.rd (.struct [.int .i64,.int .i64])]))]⟩ [.L y.1,.L y.2]))):=by kernel_rfl
theorem m_Z36_ok:∀ n,(m_Z36 (n_Z36 n)).ok Try.prog (Jj (Jh Try.f100) 4):=by
 intro n
 induction n with
 | zero=>
  intro R ds k r h
  unfold m_Z36 at h
  obtain ⟨_,_,rfl,h⟩:=Jb h
  obtain ⟨_,_,rfl,h⟩:=Ja h
  obtain ⟨_,_,rfl,h⟩:=Ja h
  obtain ⟨rfl,hE⟩:=Je h
  obtain ⟨y,hy,hk⟩:=Jf hE
  cases hy
 | succ n ih=>
  intro R ds k r h
  unfold m_Z36 at h
  obtain ⟨_,_,rfl,h⟩:=Jb h
  obtain ⟨_,_,rfl,h⟩:=Ja h
  obtain ⟨_,_,rfl,h⟩:=Ja h
  obtain ⟨rfl,hE⟩:=Je h
  obtain ⟨y,hy,hk⟩:=Jf hE
  cases y with
  | inl y=>
   exact ⟨0,_,_,_,hk,rfl,JO px (fx:=⟨Try.func100,by kernel_rfl,by kernel_rfl⟩) (Jr e_Z35_ok Jm) (Jo ih Jn) (by kernel_rfl) ((q_Z36 ..).trans ((c_Z36_bind ..).trans (Jg hy)))⟩
  | inr y=>
   exact ⟨1,_,_,_,hk,rfl,JO px (fx:=⟨Try.func100,by kernel_rfl,by kernel_rfl⟩) (Jr e_Z35_ok Jm) (Jo ih Jn) (by kernel_rfl) ((q_Z36 ..).trans ((c_Z36_bind ..).trans (Jg hy)))⟩
noncomputable def e_Z36:JA:=m_Z36 (Z36)
theorem e_Z36_ok:(e_Z36).ok Try.prog (Jj (Jh Try.f100) 4):=by
 intro R ds k r h
 unfold e_Z36 m_Z36 at h
 obtain ⟨_,_,rfl,h⟩:=Jb h
 obtain ⟨_,_,rfl,h⟩:=Ja h
 obtain ⟨_,_,rfl,h⟩:=Ja h
 obtain ⟨rfl,hE⟩:=Je h
 obtain ⟨y,hy,hk⟩:=Jf hE
 obtain ⟨n,hn⟩:=J4 hy
 exact m_Z36_ok n R _ k r ((Jg hn).trans hk)

/-!-/
abbrev T_Z37:=Int→List D→List D→Option ((Bool)⊕(Unit))
def c_Z37 {R:Type} (F:T_Z37) (x0:Int) (x1 x2:List D) (k:(Bool)⊕(Unit)→Option R):Option R:=
 bif decide (x0<(↑x2.length:Int)) then
 if 0≤x0∧x0<(↑x2.length:Int) then
 bif decide (((x2.getD x0.toNat (D.int 0)).fld (0:Nat)).toInt=((x2.getD x0.toNat (D.int 0)).fld (1:Nat)).toInt) then
 k (.inl Bool.false)
 else
 (Z25 x1 x2 (((x2.getD x0.toNat (D.int 0)).fld (0:Nat)).toInt)).bind (fun y0=>
 bif decide (y0<(0:Int)) then
 k (.inl Bool.false)
 else
 (Z25 x1 x2 (((x2.getD x0.toNat (D.int 0)).fld (1:Nat)).toInt)).bind (fun y1=>
 bif decide (y1<(0:Int)) then
 k (.inl Bool.false)
 else
 bif decide ((0:Int)<x0) then
 if (0:Int)≤IntKind.i64.wrap (x0 - 1)∧IntKind.i64.wrap (x0 - 1)<(↑x2.length:Int) then
 (Z7 (((x2.getD (IntKind.i64.wrap (x0 - 1)).toNat (D.int 0)).fld (0:Nat)).toInt) (((x2.getD (IntKind.i64.wrap (x0 - 1)).toNat (D.int 0)).fld (1:Nat)).toInt) (((x2.getD x0.toNat (D.int 0)).fld (0:Nat)).toInt) (((x2.getD x0.toNat (D.int 0)).fld (1:Nat)).toInt)).bind (fun y2=>
 bif !y2 then
 k (.inl Bool.false)
 else
 (F (IntKind.i64.wrap (x0+1)) x1 x2).bind k)
 else
 none
 else
 (F (IntKind.i64.wrap (x0+1)) x1 x2).bind k))
 else
 none
 else
 k (.inr ())
theorem c_Z37_bind {R:Type} (F:T_Z37) (x0:Int) (x1 x2:List D) (k:(Bool)⊕(Unit)→Option R):c_Z37 F x0 x1 x2 k=(c_Z37 F x0 x1 x2 some).bind k:=by
 unfold c_Z37
 repeat' first
  | exact Jy
  | exact Jx
  | exact Jw
  | apply Jt
  | apply Ju
  | apply Jz
  | (apply Jv; intro _)
  | intro _
def n_Z37:Nat→T_Z37
 | 0,_,_,_=>none
 | n+1,x0,x1,x2=>c_Z37 (n_Z37 n) x0 x1 x2 some
noncomputable def Z37 (x0:Int) (x1 x2:List D):Option ((Bool)⊕(Unit)):=ev (fun n=>n_Z37 n x0 x1 x2)
def m_Z37 (F:T_Z37):JA:=⟨10,⟨(.undef::.ptr 1000 [0]::.undef::.undef::.undef::.int .i64::uu 95 ([])),[(1000,.obox (.agg [.rd (.struct [.int .i64,.int .i64]),.rd (.struct [.int .i64,.int .i64])]))]⟩,[(.ret,⟨(.undef::.undef::.bool::uu 98 ([])),[]⟩),(.exit 2,⟨(uu 101 ([])),[]⟩)],fun _ ds k=>dI (fun x0 ds=>dL (fun x1 ds=>dL (fun x2 ds=>dE ((F x0 x1 x2).bind (Sum.elim (fun y=>k 0 [.B y]) (fun y=>k 1 []))) ds) ds) ds) ds⟩
theorem q_Z37 (F:T_Z37) (x0:Int) (x1 x2:List D):JZ (Jp [e_Z25,e_Z7]) (Jq [m_Z37 F]) A 100 (Jj (Jh Try.f100) 10) ((m_Z37 F).sh.mk' [.I x0,.L x1,.L x2]) (fun e σ'=>some (e,σ'))=c_Z37 F x0 x1 x2 (Sum.elim (fun y=>some (.ret,SSt.mk' ⟨(.undef::.undef::.bool::uu 98 ([])),[]⟩ [.B y])) (fun y=>some (.exit 2,SSt.mk' ⟨(uu 101 ([])),[]⟩ []))):=by kernel_rfl
theorem m_Z37_ok:∀ n,(m_Z37 (n_Z37 n)).ok Try.prog (Jj (Jh Try.f100) 10):=by
 intro n
 induction n with
 | zero=>
  intro R ds k r h
  unfold m_Z37 at h
  obtain ⟨_,_,rfl,h⟩:=Jb h
  obtain ⟨_,_,rfl,h⟩:=Ja h
  obtain ⟨_,_,rfl,h⟩:=Ja h
  obtain ⟨rfl,hE⟩:=Je h
  obtain ⟨y,hy,hk⟩:=Jf hE
  cases hy
 | succ n ih=>
  intro R ds k r h
  unfold m_Z37 at h
  obtain ⟨_,_,rfl,h⟩:=Jb h
  obtain ⟨_,_,rfl,h⟩:=Ja h
  obtain ⟨_,_,rfl,h⟩:=Ja h
  obtain ⟨rfl,hE⟩:=Je h
  obtain ⟨y,hy,hk⟩:=Jf hE
  cases y with
  | inl y=>
   exact ⟨0,_,_,_,hk,rfl,JO px (fx:=⟨Try.func100,by kernel_rfl,by kernel_rfl⟩) (Jr e_Z25_ok (Jr e_Z7_ok Jm)) (Jo ih Jn) (by kernel_rfl) ((q_Z37 ..).trans ((c_Z37_bind ..).trans (Jg hy)))⟩
  | inr y=>
   exact ⟨1,_,_,_,hk,rfl,JO px (fx:=⟨Try.func100,by kernel_rfl,by kernel_rfl⟩) (Jr e_Z25_ok (Jr e_Z7_ok Jm)) (Jo ih Jn) (by kernel_rfl) ((q_Z37 ..).trans ((c_Z37_bind ..).trans (Jg hy)))⟩
noncomputable def e_Z37:JA:=m_Z37 (Z37)
theorem e_Z37_ok:(e_Z37).ok Try.prog (Jj (Jh Try.f100) 10):=by
 intro R ds k r h
 unfold e_Z37 m_Z37 at h
 obtain ⟨_,_,rfl,h⟩:=Jb h
 obtain ⟨_,_,rfl,h⟩:=Ja h
 obtain ⟨_,_,rfl,h⟩:=Ja h
 obtain ⟨rfl,hE⟩:=Je h
 obtain ⟨y,hy,hk⟩:=Jf hE
 obtain ⟨n,hn⟩:=J4 hy
 exact m_Z37_ok n R _ k r ((Jg hn).trans hk)

/-!-/
def c_Z38 {R:Type} (x0 x1:List D) (k:Bool→Option R):Option R:=
 bif decide ((10:Int)<(↑x0.length:Int)) then
 k Bool.false
 else
 bif decide ((24:Int)<(↑x1.length:Int)) then
 k Bool.false
 else
 (Z36 (0:Int) x0 x1).bind (Sum.elim (fun y0=>
 k y0.fst) (fun y1=>
 (Z37 (0:Int) y1.fst y1.snd).bind (Sum.elim (fun y2=>
 k y2) (fun y3=>
 k Bool.true))))
theorem c_Z38_bind {R:Type} (x0 x1:List D) (k:Bool→Option R):c_Z38 x0 x1 k=(c_Z38 x0 x1 some).bind k:=by
 unfold c_Z38
 repeat' first
  | exact Jy
  | exact Jx
  | exact Jw
  | apply Jt
  | apply Ju
  | apply Jz
  | (apply Jv; intro _)
  | intro _
def Z38 (x0 x1:List D):Option (Bool):=c_Z38 x0 x1 some
def e_Z38:Ent:=⟨100,[.agg [.rd (.struct [.int .i64,.int .i64]),.rd (.struct [.int .i64,.int .i64])]],[(.bool,[.undef])],fun _ ds k=>dL (fun x0 ds=>dL (fun x1 ds=>dE ((Z38 x0 x1).bind (fun y=>k 0 [.B y])) ds) ds) ds⟩
theorem q_Z38 (x0 x1:List D):JR (Jp []) (Jq [e_Z36,e_Z37]) A 100 Try.f100 (Sh.mks e_Z38.sh [.L x0,.L x1]).1 (fun v os=>some (v,os))=c_Z38 x0 x1 (fun y=>JT e_Z38 0 [.B y]):=by kernel_rfl
theorem e_Z38_ok:e_Z38.ok Try.prog A:=by
 intro R ds k r h
 unfold e_Z38 at h
 obtain ⟨_,_,rfl,h⟩:=Ja h
 obtain ⟨_,_,rfl,h⟩:=Ja h
 obtain ⟨rfl,hE⟩:=Je h
 obtain ⟨y,hy,hk⟩:=Jf hE
 exact ⟨0,_,_,_,hk,rfl,JU px (fx:=⟨Try.func100,by kernel_rfl,by kernel_rfl⟩) Jm (Jo e_Z36_ok (Jo e_Z37_ok Jn)) ((q_Z38 ..).trans ((c_Z38_bind ..).trans (Jg hy)))⟩

/-!-/
def c_Z39 {R:Type} (x0 x1:List D) (k:Bool→Option R):Option R:=
 (Z38 x0 x1).bind (fun y0=>
 bif y0 then
 (Z32 x0 x1).bind (fun y1=>
 k y1)
 else
 k Bool.false)
theorem c_Z39_bind {R:Type} (x0 x1:List D) (k:Bool→Option R):c_Z39 x0 x1 k=(c_Z39 x0 x1 some).bind k:=by
 unfold c_Z39
 repeat' first
  | exact Jy
  | exact Jx
  | exact Jw
  | apply Jt
  | apply Ju
  | apply Jz
  | (apply Jv; intro _)
  | intro _
def Z39 (x0 x1:List D):Option (Bool):=c_Z39 x0 x1 some
def e_Z39:Ent:=⟨89,[.agg [.rd (.struct [.int .i64,.int .i64]),.rd (.struct [.int .i64,.int .i64])]],[(.bool,[.undef])],fun _ ds k=>dL (fun x0 ds=>dL (fun x1 ds=>dE ((Z39 x0 x1).bind (fun y=>k 0 [.B y])) ds) ds) ds⟩
theorem q_Z39 (x0 x1:List D):JR (Jp [e_Z38,e_Z32]) (Jq []) A 89 Try.f89 (Sh.mks e_Z39.sh [.L x0,.L x1]).1 (fun v os=>some (v,os))=c_Z39 x0 x1 (fun y=>JT e_Z39 0 [.B y]):=by kernel_rfl
theorem e_Z39_ok:e_Z39.ok Try.prog A:=by
 intro R ds k r h
 unfold e_Z39 at h
 obtain ⟨_,_,rfl,h⟩:=Ja h
 obtain ⟨_,_,rfl,h⟩:=Ja h
 obtain ⟨rfl,hE⟩:=Je h
 obtain ⟨y,hy,hk⟩:=Jf hE
 exact ⟨0,_,_,_,hk,rfl,JU px (fx:=⟨Try.func89,by kernel_rfl,by kernel_rfl⟩) (Jr e_Z38_ok (Jr e_Z32_ok Jm)) Jn ((q_Z39 ..).trans ((c_Z39_bind ..).trans (Jg hy)))⟩

/-!-/
abbrev T_Z40:=Int→Int→Int→Bool→Int→List D→List D→Option (Int×Int×Int×Bool×List D×List D)
def c_Z40 {R:Type} (F:T_Z40) (x0 x1 x2:Int) (x3:Bool) (x4:Int) (x5 x6:List D) (k:Int×Int×Int×Bool×List D×List D→Option R):Option R:=
 bif decide (x4<(↑x5.length:Int)) then
 if 0≤x4∧x4<(↑x5.length:Int) then
 if x4.toNat+1≤x5.length then
 (Z30 ((x5.getD x4.toNat (D.int 0)).toInt) x2).bind (fun y0=>
 bif y0 then
 (Z30 x0 x4).bind (fun y1=>
 bif !y1 then
 (F x0 x1 x2 Bool.false (IntKind.i64.wrap (x4+1)) x5 x6).bind k
 else
 (F x0 x1 x2 x3 (IntKind.i64.wrap (x4+1)) x5 x6).bind k)
 else
 (F x0 x1 x2 x3 (IntKind.i64.wrap (x4+1)) x5 x6).bind k)
 else
 none
 else
 none
 else
 k (x0,x1,x2,x3,x5,x6)
theorem c_Z40_bind {R:Type} (F:T_Z40) (x0 x1 x2:Int) (x3:Bool) (x4:Int) (x5 x6:List D) (k:Int×Int×Int×Bool×List D×List D→Option R):c_Z40 F x0 x1 x2 x3 x4 x5 x6 k=(c_Z40 F x0 x1 x2 x3 x4 x5 x6 some).bind k:=by
 unfold c_Z40
 repeat' first
  | exact Jy
  | exact Jx
  | exact Jw
  | apply Jt
  | apply Ju
  | apply Jz
  | (apply Jv; intro _)
  | intro _
def n_Z40:Nat→T_Z40
 | 0,_,_,_,_,_,_,_=>none
 | n+1,x0,x1,x2,x3,x4,x5,x6=>c_Z40 (n_Z40 n) x0 x1 x2 x3 x4 x5 x6 some
noncomputable def Z40 (x0 x1 x2:Int) (x3:Bool) (x4:Int) (x5 x6:List D):Option (Int×Int×Int×Bool×List D×List D):=ev (fun n=>n_Z40 n x0 x1 x2 x3 x4 x5 x6)
def m_Z40 (F:T_Z40):JA:=⟨11,⟨(.undef::.undef::.undef::.full 1000 [] (.int .i64)::.full 1001 [] (.int .i64)::.int .i64::.int .i64::.int .i64::.bool::.int .i64::uu 55 ([])),[(1000,.own (.int .i64)),(1001,.own (.int .i64))]⟩,[(.exit 4,⟨(.undef::.undef::.undef::.full 1000 [] (.int .i64)::.full 1001 [] (.int .i64)::.int .i64::.int .i64::.int .i64::.bool::uu 56 ([])),[(1000,.own (.int .i64)),(1001,.own (.int .i64))]⟩)],fun _ ds k=>dI (fun x0 ds=>dI (fun x1 ds=>dI (fun x2 ds=>dB (fun x3 ds=>dI (fun x4 ds=>dL (fun x5 ds=>dL (fun x6 ds=>dE ((F x0 x1 x2 x3 x4 x5 x6).bind (fun y=>k 0 [.I y.1,.I y.2.1,.I y.2.2.1,.B y.2.2.2.1,.L y.2.2.2.2.1,.L y.2.2.2.2.2])) ds) ds) ds) ds) ds) ds) ds) ds⟩
theorem q_Z40 (F:T_Z40) (x0 x1 x2:Int) (x3:Bool) (x4:Int) (x5 x6:List D):JZ (Jp [e_Z30]) (Jq [m_Z40 F]) A 221 (Jj (Jh Try.f221) 11) ((m_Z40 F).sh.mk' [.I x0,.I x1,.I x2,.B x3,.I x4,.L x5,.L x6]) (fun e σ'=>some (e,σ'))=c_Z40 F x0 x1 x2 x3 x4 x5 x6 (fun y=>some (.exit 4,SSt.mk' ⟨(.undef::.undef::.undef::.full 1000 [] (.int .i64)::.full 1001 [] (.int .i64)::.int .i64::.int .i64::.int .i64::.bool::uu 56 ([])),[(1000,.own (.int .i64)),(1001,.own (.int .i64))]⟩ [.I y.1,.I y.2.1,.I y.2.2.1,.B y.2.2.2.1,.L y.2.2.2.2.1,.L y.2.2.2.2.2])):=by kernel_rfl
theorem m_Z40_ok:∀ n,(m_Z40 (n_Z40 n)).ok Try.prog (Jj (Jh Try.f221) 11):=by
 intro n
 induction n with
 | zero=>
  intro R ds k r h
  unfold m_Z40 at h
  obtain ⟨_,_,rfl,h⟩:=Jb h
  obtain ⟨_,_,rfl,h⟩:=Jb h
  obtain ⟨_,_,rfl,h⟩:=Jb h
  obtain ⟨_,_,rfl,h⟩:=CK h
  obtain ⟨_,_,rfl,h⟩:=Jb h
  obtain ⟨_,_,rfl,h⟩:=Ja h
  obtain ⟨_,_,rfl,h⟩:=Ja h
  obtain ⟨rfl,hE⟩:=Je h
  obtain ⟨y,hy,hk⟩:=Jf hE
  cases hy
 | succ n ih=>
  intro R ds k r h
  unfold m_Z40 at h
  obtain ⟨_,_,rfl,h⟩:=Jb h
  obtain ⟨_,_,rfl,h⟩:=Jb h
  obtain ⟨_,_,rfl,h⟩:=Jb h
  obtain ⟨_,_,rfl,h⟩:=CK h
  obtain ⟨_,_,rfl,h⟩:=Jb h
  obtain ⟨_,_,rfl,h⟩:=Ja h
  obtain ⟨_,_,rfl,h⟩:=Ja h
  obtain ⟨rfl,hE⟩:=Je h
  obtain ⟨y,hy,hk⟩:=Jf hE
  exact ⟨0,_,_,_,hk,rfl,JO px (fx:=⟨Try.func221,by kernel_rfl,by kernel_rfl⟩) (Jr e_Z30_ok Jm) (Jo ih Jn) (by kernel_rfl) ((q_Z40 ..).trans ((c_Z40_bind ..).trans (Jg hy)))⟩
noncomputable def e_Z40:JA:=m_Z40 (Z40)
theorem e_Z40_ok:(e_Z40).ok Try.prog (Jj (Jh Try.f221) 11):=by
 intro R ds k r h
 unfold e_Z40 m_Z40 at h
 obtain ⟨_,_,rfl,h⟩:=Jb h
 obtain ⟨_,_,rfl,h⟩:=Jb h
 obtain ⟨_,_,rfl,h⟩:=Jb h
 obtain ⟨_,_,rfl,h⟩:=CK h
 obtain ⟨_,_,rfl,h⟩:=Jb h
 obtain ⟨_,_,rfl,h⟩:=Ja h
 obtain ⟨_,_,rfl,h⟩:=Ja h
 obtain ⟨rfl,hE⟩:=Je h
 obtain ⟨y,hy,hk⟩:=Jf hE
 obtain ⟨n,hn⟩:=J4 hy
 exact m_Z40_ok n R _ k r ((Jg hn).trans hk)

/-!-/
abbrev T_Z41:=Int→Int→Int→List D→List D→Option (Int×Int×List D×List D)
def c_Z41 {R:Type} (F:T_Z41) (x0 x1 x2:Int) (x3 x4:List D) (k:Int×Int×List D×List D→Option R):Option R:=
 bif decide (x2<(↑x3.length:Int)) then
 bif decide (x1<(0:Int)) then
 (Z30 x0 x2).bind (fun y0=>
 (Z40 x0 x1 x2 (!y0) (0:Int) x3 x4).bind (fun y1=>
 bif y1.snd.snd.snd.fst then
 (F y1.fst y1.snd.snd.fst (IntKind.i64.wrap (y1.snd.snd.fst+1)) y1.snd.snd.snd.snd.fst y1.snd.snd.snd.snd.snd).bind k
 else
 (F y1.fst y1.snd.fst (IntKind.i64.wrap (y1.snd.snd.fst+1)) y1.snd.snd.snd.snd.fst y1.snd.snd.snd.snd.snd).bind k))
 else
 k (x0,x1,x3,x4)
 else
 k (x0,x1,x3,x4)
theorem c_Z41_bind {R:Type} (F:T_Z41) (x0 x1 x2:Int) (x3 x4:List D) (k:Int×Int×List D×List D→Option R):c_Z41 F x0 x1 x2 x3 x4 k=(c_Z41 F x0 x1 x2 x3 x4 some).bind k:=by
 unfold c_Z41
 repeat' first
  | exact Jy
  | exact Jx
  | exact Jw
  | apply Jt
  | apply Ju
  | apply Jz
  | (apply Jv; intro _)
  | intro _
def n_Z41:Nat→T_Z41
 | 0,_,_,_,_,_=>none
 | n+1,x0,x1,x2,x3,x4=>c_Z41 (n_Z41 n) x0 x1 x2 x3 x4 some
noncomputable def Z41 (x0 x1 x2:Int) (x3 x4:List D):Option (Int×Int×List D×List D):=ev (fun n=>n_Z41 n x0 x1 x2 x3 x4)
def m_Z41 (F:T_Z41):JA:=⟨7,⟨(.undef::.undef::.undef::.full 1000 [] (.int .i64)::.full 1001 [] (.int .i64)::.int .i64::.int .i64::.int .i64::uu 57 ([])),[(1000,.own (.int .i64)),(1001,.own (.int .i64))]⟩,[(.exit 2,⟨(.undef::.undef::.undef::.full 1000 [] (.int .i64)::.full 1001 [] (.int .i64)::.int .i64::.int .i64::uu 58 ([])),[(1000,.own (.int .i64)),(1001,.own (.int .i64))]⟩)],fun _ ds k=>dI (fun x0 ds=>dI (fun x1 ds=>dI (fun x2 ds=>dL (fun x3 ds=>dL (fun x4 ds=>dE ((F x0 x1 x2 x3 x4).bind (fun y=>k 0 [.I y.1,.I y.2.1,.L y.2.2.1,.L y.2.2.2])) ds) ds) ds) ds) ds) ds⟩
theorem q_Z41 (F:T_Z41) (x0 x1 x2:Int) (x3 x4:List D):JZ (Jp [e_Z30]) (Jq [m_Z41 F,e_Z40]) A 221 (Jj (Jh Try.f221) 7) ((m_Z41 F).sh.mk' [.I x0,.I x1,.I x2,.L x3,.L x4]) (fun e σ'=>some (e,σ'))=c_Z41 F x0 x1 x2 x3 x4 (fun y=>some (.exit 2,SSt.mk' ⟨(.undef::.undef::.undef::.full 1000 [] (.int .i64)::.full 1001 [] (.int .i64)::.int .i64::.int .i64::uu 58 ([])),[(1000,.own (.int .i64)),(1001,.own (.int .i64))]⟩ [.I y.1,.I y.2.1,.L y.2.2.1,.L y.2.2.2])):=by kernel_rfl
theorem m_Z41_ok:∀ n,(m_Z41 (n_Z41 n)).ok Try.prog (Jj (Jh Try.f221) 7):=by
 intro n
 induction n with
 | zero=>
  intro R ds k r h
  unfold m_Z41 at h
  obtain ⟨_,_,rfl,h⟩:=Jb h
  obtain ⟨_,_,rfl,h⟩:=Jb h
  obtain ⟨_,_,rfl,h⟩:=Jb h
  obtain ⟨_,_,rfl,h⟩:=Ja h
  obtain ⟨_,_,rfl,h⟩:=Ja h
  obtain ⟨rfl,hE⟩:=Je h
  obtain ⟨y,hy,hk⟩:=Jf hE
  cases hy
 | succ n ih=>
  intro R ds k r h
  unfold m_Z41 at h
  obtain ⟨_,_,rfl,h⟩:=Jb h
  obtain ⟨_,_,rfl,h⟩:=Jb h
  obtain ⟨_,_,rfl,h⟩:=Jb h
  obtain ⟨_,_,rfl,h⟩:=Ja h
  obtain ⟨_,_,rfl,h⟩:=Ja h
  obtain ⟨rfl,hE⟩:=Je h
  obtain ⟨y,hy,hk⟩:=Jf hE
  exact ⟨0,_,_,_,hk,rfl,JO px (fx:=⟨Try.func221,by kernel_rfl,by kernel_rfl⟩) (Jr e_Z30_ok Jm) (Jo ih (Jo e_Z40_ok Jn)) (by kernel_rfl) ((q_Z41 ..).trans ((c_Z41_bind ..).trans (Jg hy)))⟩
noncomputable def e_Z41:JA:=m_Z41 (Z41)
theorem e_Z41_ok:(e_Z41).ok Try.prog (Jj (Jh Try.f221) 7):=by
 intro R ds k r h
 unfold e_Z41 m_Z41 at h
 obtain ⟨_,_,rfl,h⟩:=Jb h
 obtain ⟨_,_,rfl,h⟩:=Jb h
 obtain ⟨_,_,rfl,h⟩:=Jb h
 obtain ⟨_,_,rfl,h⟩:=Ja h
 obtain ⟨_,_,rfl,h⟩:=Ja h
 obtain ⟨rfl,hE⟩:=Je h
 obtain ⟨y,hy,hk⟩:=Jf hE
 obtain ⟨n,hn⟩:=J4 hy
 exact m_Z41_ok n R _ k r ((Jg hn).trans hk)

/-!-/
abbrev T_Z42:=Int→List D→List D→Option ((List D)⊕(List D))
def c_Z42 {R:Type} (F:T_Z42) (x0:Int) (x1 x2:List D) (k:(List D)⊕(List D)→Option R):Option R:=
 bif decide ((↑x2.length:Int)<(↑x1.length:Int)) then
 (Z41 x0 (-1:Int) (0:Int) x1 x2).bind (fun y0=>
 bif decide (y0.snd.fst<(0:Int)) then
 k (.inl y0.snd.snd.snd)
 else
 if y0.snd.snd.snd.length+[D.int y0.snd.fst].length≤(4294967296:Nat) then
 if (0:Int)≤IntKind.u64.wrap y0.snd.fst then
 (F (IntKind.i64.wrap (↑(BitVec.ofInt IntKind.i64.bits y0.fst ||| BitVec.ofInt IntKind.i64.bits (IntKind.i64.wrap ((1:Int) * (2:Int) ^ Min.min (IntKind.u64.wrap y0.snd.fst).toNat IntKind.i64.bits))).toNat:Int)) y0.snd.snd.fst (y0.snd.snd.snd++[D.int y0.snd.fst])).bind k
 else
 none
 else
 none)
 else
 k (.inr x2)
theorem c_Z42_bind {R:Type} (F:T_Z42) (x0:Int) (x1 x2:List D) (k:(List D)⊕(List D)→Option R):c_Z42 F x0 x1 x2 k=(c_Z42 F x0 x1 x2 some).bind k:=by
 unfold c_Z42
 repeat' first
  | exact Jy
  | exact Jx
  | exact Jw
  | apply Jt
  | apply Ju
  | apply Jz
  | (apply Jv; intro _)
  | intro _
def n_Z42:Nat→T_Z42
 | 0,_,_,_=>none
 | n+1,x0,x1,x2=>c_Z42 (n_Z42 n) x0 x1 x2 some
noncomputable def Z42 (x0:Int) (x1 x2:List D):Option ((List D)⊕(List D)):=ev (fun n=>n_Z42 n x0 x1 x2)
def m_Z42 (F:T_Z42):JA:=⟨4,⟨(.undef::.undef::.undef::.full 1000 [] (.int .i64)::.full 1001 [] (.int .i64)::.int .i64::uu 59 ([])),[(1000,.own (.int .i64)),(1001,.own (.int .i64))]⟩,[(.ret,⟨(.undef::.undef::.full 1000 [] (.int .i64)::.undef::.full 1000 [] (.int .i64)::uu 60 ([])),[(1000,.own (.int .i64))]⟩),(.exit 0,⟨(uu 4 (.full 1000 [] (.int .i64)::uu 60 ([]))),[(1000,.own (.int .i64))]⟩)],fun _ ds k=>dI (fun x0 ds=>dL (fun x1 ds=>dL (fun x2 ds=>dE ((F x0 x1 x2).bind (Sum.elim (fun y=>k 0 [.L y]) (fun y=>k 1 [.L y]))) ds) ds) ds) ds⟩
theorem q_Z42 (F:T_Z42) (x0:Int) (x1 x2:List D):JZ (Jp []) (Jq [m_Z42 F,e_Z41]) A 221 (Jj (Jh Try.f221) 4) ((m_Z42 F).sh.mk' [.I x0,.L x1,.L x2]) (fun e σ'=>some (e,σ'))=c_Z42 F x0 x1 x2 (Sum.elim (fun y=>some (.ret,SSt.mk' ⟨(.undef::.undef::.full 1000 [] (.int .i64)::.undef::.full 1000 [] (.int .i64)::uu 60 ([])),[(1000,.own (.int .i64))]⟩ [.L y])) (fun y=>some (.exit 0,SSt.mk' ⟨(uu 4 (.full 1000 [] (.int .i64)::uu 60 ([]))),[(1000,.own (.int .i64))]⟩ [.L y]))):=by kernel_rfl
theorem m_Z42_ok:∀ n,(m_Z42 (n_Z42 n)).ok Try.prog (Jj (Jh Try.f221) 4):=by
 intro n
 induction n with
 | zero=>
  intro R ds k r h
  unfold m_Z42 at h
  obtain ⟨_,_,rfl,h⟩:=Jb h
  obtain ⟨_,_,rfl,h⟩:=Ja h
  obtain ⟨_,_,rfl,h⟩:=Ja h
  obtain ⟨rfl,hE⟩:=Je h
  obtain ⟨y,hy,hk⟩:=Jf hE
  cases hy
 | succ n ih=>
  intro R ds k r h
  unfold m_Z42 at h
  obtain ⟨_,_,rfl,h⟩:=Jb h
  obtain ⟨_,_,rfl,h⟩:=Ja h
  obtain ⟨_,_,rfl,h⟩:=Ja h
  obtain ⟨rfl,hE⟩:=Je h
  obtain ⟨y,hy,hk⟩:=Jf hE
  cases y with
  | inl y=>
   exact ⟨0,_,_,_,hk,rfl,JO px (fx:=⟨Try.func221,by kernel_rfl,by kernel_rfl⟩) Jm (Jo ih (Jo e_Z41_ok Jn)) (by kernel_rfl) ((q_Z42 ..).trans ((c_Z42_bind ..).trans (Jg hy)))⟩
  | inr y=>
   exact ⟨1,_,_,_,hk,rfl,JO px (fx:=⟨Try.func221,by kernel_rfl,by kernel_rfl⟩) Jm (Jo ih (Jo e_Z41_ok Jn)) (by kernel_rfl) ((q_Z42 ..).trans ((c_Z42_bind ..).trans (Jg hy)))⟩
noncomputable def e_Z42:JA:=m_Z42 (Z42)
theorem e_Z42_ok:(e_Z42).ok Try.prog (Jj (Jh Try.f221) 4):=by
 intro R ds k r h
 unfold e_Z42 m_Z42 at h
 obtain ⟨_,_,rfl,h⟩:=Jb h
 obtain ⟨_,_,rfl,h⟩:=Ja h
 obtain ⟨_,_,rfl,h⟩:=Ja h
 obtain ⟨rfl,hE⟩:=Je h
 obtain ⟨y,hy,hk⟩:=Jf hE
 obtain ⟨n,hn⟩:=J4 hy
 exact m_Z42_ok n R _ k r ((Jg hn).trans hk)

/-!-/
def c_Z43 {R:Type} (x0 x1:List D) (k:List D→Option R):Option R:=
 (Z29 x0 x1).bind (fun y0=>
 (Z42 (0:Int) y0 []).bind (Sum.elim (fun y1=>
 k y1) (fun y2=>
 k y2)))
theorem c_Z43_bind {R:Type} (x0 x1:List D) (k:List D→Option R):c_Z43 x0 x1 k=(c_Z43 x0 x1 some).bind k:=by
 unfold c_Z43
 repeat' first
  | exact Jy
  | exact Jx
  | exact Jw
  | apply Jt
  | apply Ju
  | apply Jz
  | (apply Jv; intro _)
  | intro _
def Z43 (x0 x1:List D):Option (List D):=c_Z43 x0 x1 some
def e_Z43:Ent:=⟨221,[.agg [.rd (.struct [.int .i64,.int .i64]),.rd (.struct [.int .i64,.int .i64])]],[(.own (.int .i64),[.undef])],fun _ ds k=>dL (fun x0 ds=>dL (fun x1 ds=>dE ((Z43 x0 x1).bind (fun y=>k 0 [.L y])) ds) ds) ds⟩
theorem q_Z43 (x0 x1:List D):JR (Jp [e_Z29]) (Jq [e_Z42]) A 221 Try.f221 (Sh.mks e_Z43.sh [.L x0,.L x1]).1 (fun v os=>some (v,os))=c_Z43 x0 x1 (fun y=>JT e_Z43 0 [.L y]):=by kernel_rfl
theorem e_Z43_ok:e_Z43.ok Try.prog A:=by
 intro R ds k r h
 unfold e_Z43 at h
 obtain ⟨_,_,rfl,h⟩:=Ja h
 obtain ⟨_,_,rfl,h⟩:=Ja h
 obtain ⟨rfl,hE⟩:=Je h
 obtain ⟨y,hy,hk⟩:=Jf hE
 exact ⟨0,_,_,_,hk,rfl,JU px (fx:=⟨Try.func221,by kernel_rfl,by kernel_rfl⟩) (Jr e_Z29_ok Jm) (Jo e_Z42_ok Jn) ((q_Z43 ..).trans ((c_Z43_bind ..).trans (Jg hy)))⟩

/-!-/
abbrev T_Z44:=List D→Int→Int→Option ((Int)⊕(Unit))
def c_Z44 {R:Type} (F:T_Z44) (x0:List D) (x1 x2:Int) (k:(Int)⊕(Unit)→Option R):Option R:=
 bif decide (x2<(↑x0.length:Int)) then
 if 0≤x2∧x2<(↑x0.length:Int) then
 bif decide ((x0.getD x2.toNat (D.int 0)).toInt=x1) then
 k (.inl x2)
 else
 (F x0 x1 (IntKind.i64.wrap (x2+1))).bind k
 else
 none
 else
 k (.inr ())
theorem c_Z44_bind {R:Type} (F:T_Z44) (x0:List D) (x1 x2:Int) (k:(Int)⊕(Unit)→Option R):c_Z44 F x0 x1 x2 k=(c_Z44 F x0 x1 x2 some).bind k:=by
 unfold c_Z44
 repeat' first
  | exact Jy
  | exact Jx
  | exact Jw
  | apply Jt
  | apply Ju
  | apply Jz
  | (apply Jv; intro _)
  | intro _
def n_Z44:Nat→T_Z44
 | 0,_,_,_=>none
 | n+1,x0,x1,x2=>c_Z44 (n_Z44 n) x0 x1 x2 some
noncomputable def Z44 (x0:List D) (x1 x2:Int):Option ((Int)⊕(Unit)):=ev (fun n=>n_Z44 n x0 x1 x2)
def m_Z44 (F:T_Z44):JA:=⟨2,⟨(.rd (.int .i64)::.int .i64::.undef::.undef::.undef::.int .i64::uu 13 ([])),[]⟩,[(.ret,⟨(uu 4 (.int .i64::uu 14 ([]))),[]⟩),(.exit 0,⟨(uu 19 ([])),[]⟩)],fun _ ds k=>dL (fun x0 ds=>dI (fun x1 ds=>dI (fun x2 ds=>dE ((F x0 x1 x2).bind (Sum.elim (fun y=>k 0 [.I y]) (fun y=>k 1 []))) ds) ds) ds) ds⟩
theorem q_Z44 (F:T_Z44) (x0:List D) (x1 x2:Int):JZ (Jp []) (Jq [m_Z44 F]) A 222 (Jj (Jh Try.f222) 2) ((m_Z44 F).sh.mk' [.L x0,.I x1,.I x2]) (fun e σ'=>some (e,σ'))=c_Z44 F x0 x1 x2 (Sum.elim (fun y=>some (.ret,SSt.mk' ⟨(uu 4 (.int .i64::uu 14 ([]))),[]⟩ [.I y])) (fun y=>some (.exit 0,SSt.mk' ⟨(uu 19 ([])),[]⟩ []))):=by kernel_rfl
theorem m_Z44_ok:∀ n,(m_Z44 (n_Z44 n)).ok Try.prog (Jj (Jh Try.f222) 2):=by
 intro n
 induction n with
 | zero=>
  intro R ds k r h
  unfold m_Z44 at h
  obtain ⟨_,_,rfl,h⟩:=Ja h
  obtain ⟨_,_,rfl,h⟩:=Jb h
  obtain ⟨_,_,rfl,h⟩:=Jb h
  obtain ⟨rfl,hE⟩:=Je h
  obtain ⟨y,hy,hk⟩:=Jf hE
  cases hy
 | succ n ih=>
  intro R ds k r h
  unfold m_Z44 at h
  obtain ⟨_,_,rfl,h⟩:=Ja h
  obtain ⟨_,_,rfl,h⟩:=Jb h
  obtain ⟨_,_,rfl,h⟩:=Jb h
  obtain ⟨rfl,hE⟩:=Je h
  obtain ⟨y,hy,hk⟩:=Jf hE
  cases y with
  | inl y=>
   exact ⟨0,_,_,_,hk,rfl,JO px (fx:=⟨Try.func222,by kernel_rfl,by kernel_rfl⟩) Jm (Jo ih Jn) (by kernel_rfl) ((q_Z44 ..).trans ((c_Z44_bind ..).trans (Jg hy)))⟩
  | inr y=>
   exact ⟨1,_,_,_,hk,rfl,JO px (fx:=⟨Try.func222,by kernel_rfl,by kernel_rfl⟩) Jm (Jo ih Jn) (by kernel_rfl) ((q_Z44 ..).trans ((c_Z44_bind ..).trans (Jg hy)))⟩
noncomputable def e_Z44:JA:=m_Z44 (Z44)
theorem e_Z44_ok:(e_Z44).ok Try.prog (Jj (Jh Try.f222) 2):=by
 intro R ds k r h
 unfold e_Z44 m_Z44 at h
 obtain ⟨_,_,rfl,h⟩:=Ja h
 obtain ⟨_,_,rfl,h⟩:=Jb h
 obtain ⟨_,_,rfl,h⟩:=Jb h
 obtain ⟨rfl,hE⟩:=Je h
 obtain ⟨y,hy,hk⟩:=Jf hE
 obtain ⟨n,hn⟩:=J4 hy
 exact m_Z44_ok n R _ k r ((Jg hn).trans hk)

/-!-/
def c_Z45 {R:Type} (x0:List D) (x1:Int) (k:Int→Option R):Option R:=
 (Z44 x0 x1 (0:Int)).bind (Sum.elim (fun y0=>
 k y0) (fun y1=>
 k (-1:Int)))
theorem c_Z45_bind {R:Type} (x0:List D) (x1:Int) (k:Int→Option R):c_Z45 x0 x1 k=(c_Z45 x0 x1 some).bind k:=by
 unfold c_Z45
 repeat' first
  | exact Jy
  | exact Jx
  | exact Jw
  | apply Jt
  | apply Ju
  | apply Jz
  | (apply Jv; intro _)
  | intro _
def Z45 (x0:List D) (x1:Int):Option (Int):=c_Z45 x0 x1 some
def e_Z45:Ent:=⟨222,[.rd (.int .i64),.int .i64],[(.int .i64,[.undef,.undef])],fun _ ds k=>dL (fun x0 ds=>dI (fun x1 ds=>dE ((Z45 x0 x1).bind (fun y=>k 0 [.I y])) ds) ds) ds⟩
theorem q_Z45 (x0:List D) (x1:Int):JR (Jp []) (Jq [e_Z44]) A 222 Try.f222 (Sh.mks e_Z45.sh [.L x0,.I x1]).1 (fun v os=>some (v,os))=c_Z45 x0 x1 (fun y=>JT e_Z45 0 [.I y]):=by kernel_rfl
theorem e_Z45_ok:e_Z45.ok Try.prog A:=by
 intro R ds k r h
 unfold e_Z45 at h
 obtain ⟨_,_,rfl,h⟩:=Ja h
 obtain ⟨_,_,rfl,h⟩:=Jb h
 obtain ⟨rfl,hE⟩:=Je h
 obtain ⟨y,hy,hk⟩:=Jf hE
 exact ⟨0,_,_,_,hk,rfl,JU px (fx:=⟨Try.func222,by kernel_rfl,by kernel_rfl⟩) Jm (Jo e_Z44_ok Jn) ((q_Z45 ..).trans ((c_Z45_bind ..).trans (Jg hy)))⟩

/-!-/
abbrev T_Z46:=Int→List D→Int→Int→List D→List D→List D→List D→Option (List D×Int×Int×List D×List D×List D)
def c_Z46 {R:Type} (F:T_Z46) (x0:Int) (x1:List D) (x2 x3:Int) (x4 x5 x6 x7:List D) (k:List D×Int×Int×List D×List D×List D→Option R):Option R:=
 bif decide (x0<(↑x4.length:Int)) then
 (Z4 x1 x2 x3 (3:Int)).bind (fun y0=>
 bif y0.fst then
 (F (IntKind.i64.wrap (x0+1)) y0.snd.fst y0.snd.snd.fst y0.snd.snd.snd x4 x5 x6 x7).bind k
 else
 (Z45 x7 x0).bind (fun y1=>
 (Z4 y0.snd.fst y0.snd.snd.fst y0.snd.snd.snd (10:Int)).bind (fun y2=>
 bif y2.fst then
 (Z3 y2.snd.fst y2.snd.snd.fst y2.snd.snd.snd (8:Int)).bind (fun y3=>
 (Z3 y3.snd.fst y3.snd.snd.fst y3.snd.snd.snd (6:Int)).bind (fun y4=>
 if 0≤x0∧x0<(↑x4.length:Int) then
 if x0.toNat+1≤x4.length then
 if x0.toNat+1≤x4.length then
 (Z3 y4.snd.fst y4.snd.snd.fst y4.snd.snd.snd (8:Int)).bind (fun y5=>
 if x6.length+[D.node [D.int ((x4.getD x0.toNat (D.int 0)).fld (0:Nat)).toInt,D.node [D.int (IntKind.i64.wrap (IntKind.i64.wrap ((100:Int) * y3.fst) - IntKind.i64.wrap ((50:Int) * y4.fst))),D.int (IntKind.i64.wrap (IntKind.i64.wrap (IntKind.i64.wrap ((100:Int) * y3.fst) - IntKind.i64.wrap ((50:Int) * y4.fst))+IntKind.i64.wrap ((50:Int) * y5.fst)))]]].length≤(4294967296:Nat) then
 (F (IntKind.i64.wrap (x0+1)) y5.snd.fst y5.snd.snd.fst y5.snd.snd.snd x4 x5 (x6++[D.node [D.int ((x4.getD x0.toNat (D.int 0)).fld (0:Nat)).toInt,D.node [D.int (IntKind.i64.wrap (IntKind.i64.wrap ((100:Int) * y3.fst) - IntKind.i64.wrap ((50:Int) * y4.fst))),D.int (IntKind.i64.wrap (IntKind.i64.wrap (IntKind.i64.wrap ((100:Int) * y3.fst) - IntKind.i64.wrap ((50:Int) * y4.fst))+IntKind.i64.wrap ((50:Int) * y5.fst)))]]]) x7).bind k
 else
 none)
 else
 none
 else
 none
 else
 none))
 else
 (Z3 y2.snd.fst y2.snd.snd.fst y2.snd.snd.snd (6:Int)).bind (fun y6=>
 if 0≤x0∧x0<(↑x4.length:Int) then
 if x0.toNat+1≤x4.length then
 if x0.toNat+1≤x4.length then
 (Z3 y6.snd.fst y6.snd.snd.fst y6.snd.snd.snd (8:Int)).bind (fun y7=>
 if x6.length+[D.node [D.int ((x4.getD x0.toNat (D.int 0)).fld (0:Nat)).toInt,D.node [D.int (IntKind.i64.wrap (IntKind.i64.wrap ((500:Int) - IntKind.i64.wrap ((100:Int) * y1)) - IntKind.i64.wrap ((50:Int) * y6.fst))),D.int (IntKind.i64.wrap (IntKind.i64.wrap (IntKind.i64.wrap ((500:Int) - IntKind.i64.wrap ((100:Int) * y1)) - IntKind.i64.wrap ((50:Int) * y6.fst))+IntKind.i64.wrap ((50:Int) * y7.fst)))]]].length≤(4294967296:Nat) then
 (F (IntKind.i64.wrap (x0+1)) y7.snd.fst y7.snd.snd.fst y7.snd.snd.snd x4 x5 (x6++[D.node [D.int ((x4.getD x0.toNat (D.int 0)).fld (0:Nat)).toInt,D.node [D.int (IntKind.i64.wrap (IntKind.i64.wrap ((500:Int) - IntKind.i64.wrap ((100:Int) * y1)) - IntKind.i64.wrap ((50:Int) * y6.fst))),D.int (IntKind.i64.wrap (IntKind.i64.wrap (IntKind.i64.wrap ((500:Int) - IntKind.i64.wrap ((100:Int) * y1)) - IntKind.i64.wrap ((50:Int) * y6.fst))+IntKind.i64.wrap ((50:Int) * y7.fst)))]]]) x7).bind k
 else
 none)
 else
 none
 else
 none
 else
 none))))
 else
 k (x1,x2,x3,x4,x5,x6)
theorem c_Z46_bind {R:Type} (F:T_Z46) (x0:Int) (x1:List D) (x2 x3:Int) (x4 x5 x6 x7:List D) (k:List D×Int×Int×List D×List D×List D→Option R):c_Z46 F x0 x1 x2 x3 x4 x5 x6 x7 k=(c_Z46 F x0 x1 x2 x3 x4 x5 x6 x7 some).bind k:=by
 unfold c_Z46
 repeat' first
  | exact Jy
  | exact Jx
  | exact Jw
  | apply Jt
  | apply Ju
  | apply Jz
  | (apply Jv; intro _)
  | intro _
def n_Z46:Nat→T_Z46
 | 0,_,_,_,_,_,_,_,_=>none
 | n+1,x0,x1,x2,x3,x4,x5,x6,x7=>c_Z46 (n_Z46 n) x0 x1 x2 x3 x4 x5 x6 x7 some
noncomputable def Z46 (x0:Int) (x1:List D) (x2 x3:Int) (x4 x5 x6 x7:List D):Option (List D×Int×Int×List D×List D×List D):=ev (fun n=>n_Z46 n x0 x1 x2 x3 x4 x5 x6 x7)
def m_Z46 (F:T_Z46):JA:=⟨7,⟨(.ptr 1000 [0]::.undef::.ptr 1001 [0]::.undef::.ptr 1002 [0]::.full 1003 [] (.struct [.int .i64,.struct [.int .i64,.int .i64]])::.full 1004 [] (.int .i64)::.int .i64::uu 99 ([])),[(1000,.obox (.agg [.rd (.int .u8),.int .i64,.int .u64])),(1001,.obox (.agg [.nilsl,.nilsl])),(1002,.obox (.agg [.own (.struct [.int .i64,.int .i64]),.own (.struct [.int .i64,.int .i64])])),(1003,.own (.struct [.int .i64,.struct [.int .i64,.int .i64]])),(1004,.own (.int .i64))]⟩,[(.exit 0,⟨(.ptr 1000 [0]::.undef::.ptr 1001 [0]::.undef::.ptr 1002 [0]::.full 1003 [] (.struct [.int .i64,.struct [.int .i64,.int .i64]])::uu 101 ([])),[(1000,.obox (.agg [.rd (.int .u8),.int .i64,.int .u64])),(1001,.obox (.agg [.nilsl,.nilsl])),(1002,.obox (.agg [.own (.struct [.int .i64,.int .i64]),.own (.struct [.int .i64,.int .i64])])),(1003,.own (.struct [.int .i64,.struct [.int .i64,.int .i64]]))]⟩)],fun _ ds k=>dI (fun x0 ds=>dL (fun x1 ds=>dI (fun x2 ds=>dI (fun x3 ds=>dL (fun x4 ds=>dL (fun x5 ds=>dL (fun x6 ds=>dL (fun x7 ds=>dE ((F x0 x1 x2 x3 x4 x5 x6 x7).bind (fun y=>k 0 [.L y.1,.I y.2.1,.I y.2.2.1,.L y.2.2.2.1,.L y.2.2.2.2.1,.L y.2.2.2.2.2])) ds) ds) ds) ds) ds) ds) ds) ds) ds⟩
theorem q_Z46 (F:T_Z46) (x0:Int) (x1:List D) (x2 x3:Int) (x4 x5 x6 x7:List D):JZ (Jp [e_Z4,e_Z45,e_Z3]) (Jq [m_Z46 F]) A 185 (Jj (Jh Try.f185) 7) ((m_Z46 F).sh.mk' [.I x0,.L x1,.I x2,.I x3,.L x4,.L x5,.L x6,.L x7]) (fun e σ'=>some (e,σ'))=c_Z46 F x0 x1 x2 x3 x4 x5 x6 x7 (fun y=>some (.exit 0,SSt.mk' ⟨(.ptr 1000 [0]::.undef::.ptr 1001 [0]::.undef::.ptr 1002 [0]::.full 1003 [] (.struct [.int .i64,.struct [.int .i64,.int .i64]])::uu 101 ([])),[(1000,.obox (.agg [.rd (.int .u8),.int .i64,.int .u64])),(1001,.obox (.agg [.nilsl,.nilsl])),(1002,.obox (.agg [.own (.struct [.int .i64,.int .i64]),.own (.struct [.int .i64,.int .i64])])),(1003,.own (.struct [.int .i64,.struct [.int .i64,.int .i64]]))]⟩ [.L y.1,.I y.2.1,.I y.2.2.1,.L y.2.2.2.1,.L y.2.2.2.2.1,.L y.2.2.2.2.2])):=by kernel_rfl
theorem m_Z46_ok:∀ n,(m_Z46 (n_Z46 n)).ok Try.prog (Jj (Jh Try.f185) 7):=by
 intro n
 induction n with
 | zero=>
  intro R ds k r h
  unfold m_Z46 at h
  obtain ⟨_,_,rfl,h⟩:=Jb h
  obtain ⟨_,_,rfl,h⟩:=Ja h
  obtain ⟨_,_,rfl,h⟩:=Jb h
  obtain ⟨_,_,rfl,h⟩:=Jb h
  obtain ⟨_,_,rfl,h⟩:=Ja h
  obtain ⟨_,_,rfl,h⟩:=Ja h
  obtain ⟨_,_,rfl,h⟩:=Ja h
  obtain ⟨_,_,rfl,h⟩:=Ja h
  obtain ⟨rfl,hE⟩:=Je h
  obtain ⟨y,hy,hk⟩:=Jf hE
  cases hy
 | succ n ih=>
  intro R ds k r h
  unfold m_Z46 at h
  obtain ⟨_,_,rfl,h⟩:=Jb h
  obtain ⟨_,_,rfl,h⟩:=Ja h
  obtain ⟨_,_,rfl,h⟩:=Jb h
  obtain ⟨_,_,rfl,h⟩:=Jb h
  obtain ⟨_,_,rfl,h⟩:=Ja h
  obtain ⟨_,_,rfl,h⟩:=Ja h
  obtain ⟨_,_,rfl,h⟩:=Ja h
  obtain ⟨_,_,rfl,h⟩:=Ja h
  obtain ⟨rfl,hE⟩:=Je h
  obtain ⟨y,hy,hk⟩:=Jf hE
  exact ⟨0,_,_,_,hk,rfl,JO px (fx:=⟨Try.func185,by kernel_rfl,by kernel_rfl⟩) (Jr e_Z4_ok (Jr e_Z45_ok (Jr e_Z3_ok Jm))) (Jo ih Jn) (by kernel_rfl) ((q_Z46 ..).trans ((c_Z46_bind ..).trans (Jg hy)))⟩
noncomputable def e_Z46:JA:=m_Z46 (Z46)
theorem e_Z46_ok:(e_Z46).ok Try.prog (Jj (Jh Try.f185) 7):=by
 intro R ds k r h
 unfold e_Z46 m_Z46 at h
 obtain ⟨_,_,rfl,h⟩:=Jb h
 obtain ⟨_,_,rfl,h⟩:=Ja h
 obtain ⟨_,_,rfl,h⟩:=Jb h
 obtain ⟨_,_,rfl,h⟩:=Jb h
 obtain ⟨_,_,rfl,h⟩:=Ja h
 obtain ⟨_,_,rfl,h⟩:=Ja h
 obtain ⟨_,_,rfl,h⟩:=Ja h
 obtain ⟨_,_,rfl,h⟩:=Ja h
 obtain ⟨rfl,hE⟩:=Je h
 obtain ⟨y,hy,hk⟩:=Jf hE
 obtain ⟨n,hn⟩:=J4 hy
 exact m_Z46_ok n R _ k r ((Jg hn).trans hk)

/-!-/
def c_Z47 {R:Type} (x0:List D) (x1 x2:Int) (k:List D×List D×List D×List D×Int×Int→Option R):Option R:=
 (Z34 x0 x1 x2).bind (fun y0=>
 (Z39 y0.fst y0.snd.fst).bind (fun y1=>
 bif y1 then
 (Z43 y0.fst y0.snd.fst).bind (fun y2=>
 (Z46 (0:Int) y0.snd.snd.fst y0.snd.snd.snd.fst y0.snd.snd.snd.snd y0.fst y0.snd.fst [] y2).bind (fun y3=>
 bif decide ((↑y3.snd.snd.snd.snd.snd.length:Int)=(0:Int)) then
 k (y3.snd.snd.snd.fst,y3.snd.snd.snd.snd.fst,y3.snd.snd.snd.snd.snd,y3.fst,y3.snd.fst,y3.snd.snd.fst)
 else
 (Z3 y3.fst y3.snd.fst y3.snd.snd.fst (↑y3.snd.snd.snd.snd.snd.length:Int)).bind (fun y4=>
 if 0≤y4.fst∧y4.fst<(↑y3.snd.snd.snd.snd.snd.length:Int) then
 if y4.fst.toNat+1≤y3.snd.snd.snd.snd.snd.length then
 (Z3 y4.snd.fst y4.snd.snd.fst y4.snd.snd.snd (20:Int)).bind (fun y5=>
 bif decide (y5.fst=(0:Int)) then
 (Z3 y5.snd.fst y5.snd.snd.fst y5.snd.snd.snd (12:Int)).bind (fun y6=>
 if 0≤y4.fst∧y4.fst<(↑y3.snd.snd.snd.snd.snd.length:Int) then
 if y4.fst.toNat+1≤y3.snd.snd.snd.snd.snd.length then
 k (y3.snd.snd.snd.fst,y3.snd.snd.snd.snd.fst,y3.snd.snd.snd.snd.snd.set y4.fst.toNat (D.node [D.int y6.fst,D.node [D.int (((y3.snd.snd.snd.snd.snd.getD y4.fst.toNat (D.int 0)).fld (1:Nat)).fld (0:Nat)).toInt,D.int (((y3.snd.snd.snd.snd.snd.getD y4.fst.toNat (D.int 0)).fld (1:Nat)).fld (1:Nat)).toInt]]),y6.snd.fst,y6.snd.snd.fst,y6.snd.snd.snd)
 else
 none
 else
 none)
 else
 bif decide (y5.fst=(1:Int)) then
 (Z16 y5.snd.fst y5.snd.snd.fst y5.snd.snd.snd ([D.int (-20000:Int),D.int (-20001:Int),D.int (2100:Int),D.int (2101:Int)])).bind (fun y7=>
 if 0≤y4.fst∧y4.fst<(↑y3.snd.snd.snd.snd.snd.length:Int) then
 if y4.fst.toNat+1≤y3.snd.snd.snd.snd.snd.length then
 k (y3.snd.snd.snd.fst,y3.snd.snd.snd.snd.fst,y3.snd.snd.snd.snd.snd.set y4.fst.toNat (D.node [D.int ((y3.snd.snd.snd.snd.snd.getD y4.fst.toNat (D.int 0)).fld (0:Nat)).toInt,D.node [D.int y7.fst,D.int (((y3.snd.snd.snd.snd.snd.getD y4.fst.toNat (D.int 0)).fld (1:Nat)).fld (1:Nat)).toInt]]),y7.snd.fst,y7.snd.snd.fst,y7.snd.snd.snd)
 else
 none
 else
 none)
 else
 bif decide (y5.fst=(2:Int)) then
 (Z16 y5.snd.fst y5.snd.snd.fst y5.snd.snd.snd ([D.int (-20000:Int),D.int (2100:Int),D.int (2101:Int)])).bind (fun y8=>
 if 0≤y4.fst∧y4.fst<(↑y3.snd.snd.snd.snd.snd.length:Int) then
 if y4.fst.toNat+1≤y3.snd.snd.snd.snd.snd.length then
 k (y3.snd.snd.snd.fst,y3.snd.snd.snd.snd.fst,y3.snd.snd.snd.snd.snd.set y4.fst.toNat (D.node [D.int ((y3.snd.snd.snd.snd.snd.getD y4.fst.toNat (D.int 0)).fld (0:Nat)).toInt,D.node [D.int (((y3.snd.snd.snd.snd.snd.getD y4.fst.toNat (D.int 0)).fld (1:Nat)).fld (0:Nat)).toInt,D.int y8.fst]]),y8.snd.fst,y8.snd.snd.fst,y8.snd.snd.snd)
 else
 none
 else
 none)
 else
 bif decide (y5.fst=(3:Int)) then
 if y3.snd.snd.snd.snd.snd.length+[D.node [D.int ((y3.snd.snd.snd.snd.snd.getD y4.fst.toNat (D.int 0)).fld (0:Nat)).toInt,D.node [D.int (((y3.snd.snd.snd.snd.snd.getD y4.fst.toNat (D.int 0)).fld (1:Nat)).fld (0:Nat)).toInt,D.int (((y3.snd.snd.snd.snd.snd.getD y4.fst.toNat (D.int 0)).fld (1:Nat)).fld (1:Nat)).toInt]]].length≤(4294967296:Nat) then
 if 0≤y4.fst∧y4.fst<(↑(y3.snd.snd.snd.snd.snd++[D.node [D.int ((y3.snd.snd.snd.snd.snd.getD y4.fst.toNat (D.int 0)).fld (0:Nat)).toInt,D.node [D.int (((y3.snd.snd.snd.snd.snd.getD y4.fst.toNat (D.int 0)).fld (1:Nat)).fld (0:Nat)).toInt,D.int (((y3.snd.snd.snd.snd.snd.getD y4.fst.toNat (D.int 0)).fld (1:Nat)).fld (1:Nat)).toInt]]]).length:Int) then
 if y4.fst.toNat+1≤(y3.snd.snd.snd.snd.snd++[D.node [D.int ((y3.snd.snd.snd.snd.snd.getD y4.fst.toNat (D.int 0)).fld (0:Nat)).toInt,D.node [D.int (((y3.snd.snd.snd.snd.snd.getD y4.fst.toNat (D.int 0)).fld (1:Nat)).fld (0:Nat)).toInt,D.int (((y3.snd.snd.snd.snd.snd.getD y4.fst.toNat (D.int 0)).fld (1:Nat)).fld (1:Nat)).toInt]]]).length then
 k (y3.snd.snd.snd.fst,y3.snd.snd.snd.snd.fst,(y3.snd.snd.snd.snd.snd++[D.node [D.int ((y3.snd.snd.snd.snd.snd.getD y4.fst.toNat (D.int 0)).fld (0:Nat)).toInt,D.node [D.int (((y3.snd.snd.snd.snd.snd.getD y4.fst.toNat (D.int 0)).fld (1:Nat)).fld (0:Nat)).toInt,D.int (((y3.snd.snd.snd.snd.snd.getD y4.fst.toNat (D.int 0)).fld (1:Nat)).fld (1:Nat)).toInt]]]).set y4.fst.toNat (D.node [D.int ((y3.snd.snd.snd.snd.snd.getD y4.fst.toNat (D.int 0)).fld (0:Nat)).toInt,D.node [D.int (((y3.snd.snd.snd.snd.snd.getD y4.fst.toNat (D.int 0)).fld (1:Nat)).fld (0:Nat)).toInt,D.int (((y3.snd.snd.snd.snd.snd.getD y4.fst.toNat (D.int 0)).fld (1:Nat)).fld (1:Nat)).toInt]]),y5.snd.fst,y5.snd.snd.fst,y5.snd.snd.snd)
 else
 none
 else
 none
 else
 none
 else
 if 0≤y4.fst∧y4.fst<(↑y3.snd.snd.snd.snd.snd.length:Int) then
 if y4.fst.toNat+1≤y3.snd.snd.snd.snd.snd.length then
 k (y3.snd.snd.snd.fst,y3.snd.snd.snd.snd.fst,y3.snd.snd.snd.snd.snd.set y4.fst.toNat (D.node [D.int ((y3.snd.snd.snd.snd.snd.getD y4.fst.toNat (D.int 0)).fld (0:Nat)).toInt,D.node [D.int (((y3.snd.snd.snd.snd.snd.getD y4.fst.toNat (D.int 0)).fld (1:Nat)).fld (0:Nat)).toInt,D.int (((y3.snd.snd.snd.snd.snd.getD y4.fst.toNat (D.int 0)).fld (1:Nat)).fld (1:Nat)).toInt]]),y5.snd.fst,y5.snd.snd.fst,y5.snd.snd.snd)
 else
 none
 else
 none)
 else
 none
 else
 none)))
 else
 (Z46 (0:Int) y0.snd.snd.fst y0.snd.snd.snd.fst y0.snd.snd.snd.snd y0.fst y0.snd.fst [] []).bind (fun y9=>
 bif decide ((↑y9.snd.snd.snd.snd.snd.length:Int)=(0:Int)) then
 k (y9.snd.snd.snd.fst,y9.snd.snd.snd.snd.fst,y9.snd.snd.snd.snd.snd,y9.fst,y9.snd.fst,y9.snd.snd.fst)
 else
 (Z3 y9.fst y9.snd.fst y9.snd.snd.fst (↑y9.snd.snd.snd.snd.snd.length:Int)).bind (fun y10=>
 if 0≤y10.fst∧y10.fst<(↑y9.snd.snd.snd.snd.snd.length:Int) then
 if y10.fst.toNat+1≤y9.snd.snd.snd.snd.snd.length then
 (Z3 y10.snd.fst y10.snd.snd.fst y10.snd.snd.snd (20:Int)).bind (fun y11=>
 bif decide (y11.fst=(0:Int)) then
 (Z3 y11.snd.fst y11.snd.snd.fst y11.snd.snd.snd (12:Int)).bind (fun y12=>
 if 0≤y10.fst∧y10.fst<(↑y9.snd.snd.snd.snd.snd.length:Int) then
 if y10.fst.toNat+1≤y9.snd.snd.snd.snd.snd.length then
 k (y9.snd.snd.snd.fst,y9.snd.snd.snd.snd.fst,y9.snd.snd.snd.snd.snd.set y10.fst.toNat (D.node [D.int y12.fst,D.node [D.int (((y9.snd.snd.snd.snd.snd.getD y10.fst.toNat (D.int 0)).fld (1:Nat)).fld (0:Nat)).toInt,D.int (((y9.snd.snd.snd.snd.snd.getD y10.fst.toNat (D.int 0)).fld (1:Nat)).fld (1:Nat)).toInt]]),y12.snd.fst,y12.snd.snd.fst,y12.snd.snd.snd)
 else
 none
 else
 none)
 else
 bif decide (y11.fst=(1:Int)) then
 (Z16 y11.snd.fst y11.snd.snd.fst y11.snd.snd.snd ([D.int (-20000:Int),D.int (-20001:Int),D.int (2100:Int),D.int (2101:Int)])).bind (fun y13=>
 if 0≤y10.fst∧y10.fst<(↑y9.snd.snd.snd.snd.snd.length:Int) then
 if y10.fst.toNat+1≤y9.snd.snd.snd.snd.snd.length then
 k (y9.snd.snd.snd.fst,y9.snd.snd.snd.snd.fst,y9.snd.snd.snd.snd.snd.set y10.fst.toNat (D.node [D.int ((y9.snd.snd.snd.snd.snd.getD y10.fst.toNat (D.int 0)).fld (0:Nat)).toInt,D.node [D.int y13.fst,D.int (((y9.snd.snd.snd.snd.snd.getD y10.fst.toNat (D.int 0)).fld (1:Nat)).fld (1:Nat)).toInt]]),y13.snd.fst,y13.snd.snd.fst,y13.snd.snd.snd)
 else
 none
 else
 none)
 else
 bif decide (y11.fst=(2:Int)) then
 (Z16 y11.snd.fst y11.snd.snd.fst y11.snd.snd.snd ([D.int (-20000:Int),D.int (2100:Int),D.int (2101:Int)])).bind (fun y14=>
 if 0≤y10.fst∧y10.fst<(↑y9.snd.snd.snd.snd.snd.length:Int) then
 if y10.fst.toNat+1≤y9.snd.snd.snd.snd.snd.length then
 k (y9.snd.snd.snd.fst,y9.snd.snd.snd.snd.fst,y9.snd.snd.snd.snd.snd.set y10.fst.toNat (D.node [D.int ((y9.snd.snd.snd.snd.snd.getD y10.fst.toNat (D.int 0)).fld (0:Nat)).toInt,D.node [D.int (((y9.snd.snd.snd.snd.snd.getD y10.fst.toNat (D.int 0)).fld (1:Nat)).fld (0:Nat)).toInt,D.int y14.fst]]),y14.snd.fst,y14.snd.snd.fst,y14.snd.snd.snd)
 else
 none
 else
 none)
 else
 bif decide (y11.fst=(3:Int)) then
 if y9.snd.snd.snd.snd.snd.length+[D.node [D.int ((y9.snd.snd.snd.snd.snd.getD y10.fst.toNat (D.int 0)).fld (0:Nat)).toInt,D.node [D.int (((y9.snd.snd.snd.snd.snd.getD y10.fst.toNat (D.int 0)).fld (1:Nat)).fld (0:Nat)).toInt,D.int (((y9.snd.snd.snd.snd.snd.getD y10.fst.toNat (D.int 0)).fld (1:Nat)).fld (1:Nat)).toInt]]].length≤(4294967296:Nat) then
 if 0≤y10.fst∧y10.fst<(↑(y9.snd.snd.snd.snd.snd++[D.node [D.int ((y9.snd.snd.snd.snd.snd.getD y10.fst.toNat (D.int 0)).fld (0:Nat)).toInt,D.node [D.int (((y9.snd.snd.snd.snd.snd.getD y10.fst.toNat (D.int 0)).fld (1:Nat)).fld (0:Nat)).toInt,D.int (((y9.snd.snd.snd.snd.snd.getD y10.fst.toNat (D.int 0)).fld (1:Nat)).fld (1:Nat)).toInt]]]).length:Int) then
 if y10.fst.toNat+1≤(y9.snd.snd.snd.snd.snd++[D.node [D.int ((y9.snd.snd.snd.snd.snd.getD y10.fst.toNat (D.int 0)).fld (0:Nat)).toInt,D.node [D.int (((y9.snd.snd.snd.snd.snd.getD y10.fst.toNat (D.int 0)).fld (1:Nat)).fld (0:Nat)).toInt,D.int (((y9.snd.snd.snd.snd.snd.getD y10.fst.toNat (D.int 0)).fld (1:Nat)).fld (1:Nat)).toInt]]]).length then
 k (y9.snd.snd.snd.fst,y9.snd.snd.snd.snd.fst,(y9.snd.snd.snd.snd.snd++[D.node [D.int ((y9.snd.snd.snd.snd.snd.getD y10.fst.toNat (D.int 0)).fld (0:Nat)).toInt,D.node [D.int (((y9.snd.snd.snd.snd.snd.getD y10.fst.toNat (D.int 0)).fld (1:Nat)).fld (0:Nat)).toInt,D.int (((y9.snd.snd.snd.snd.snd.getD y10.fst.toNat (D.int 0)).fld (1:Nat)).fld (1:Nat)).toInt]]]).set y10.fst.toNat (D.node [D.int ((y9.snd.snd.snd.snd.snd.getD y10.fst.toNat (D.int 0)).fld (0:Nat)).toInt,D.node [D.int (((y9.snd.snd.snd.snd.snd.getD y10.fst.toNat (D.int 0)).fld (1:Nat)).fld (0:Nat)).toInt,D.int (((y9.snd.snd.snd.snd.snd.getD y10.fst.toNat (D.int 0)).fld (1:Nat)).fld (1:Nat)).toInt]]),y11.snd.fst,y11.snd.snd.fst,y11.snd.snd.snd)
 else
 none
 else
 none
 else
 none
 else
 if 0≤y10.fst∧y10.fst<(↑y9.snd.snd.snd.snd.snd.length:Int) then
 if y10.fst.toNat+1≤y9.snd.snd.snd.snd.snd.length then
 k (y9.snd.snd.snd.fst,y9.snd.snd.snd.snd.fst,y9.snd.snd.snd.snd.snd.set y10.fst.toNat (D.node [D.int ((y9.snd.snd.snd.snd.snd.getD y10.fst.toNat (D.int 0)).fld (0:Nat)).toInt,D.node [D.int (((y9.snd.snd.snd.snd.snd.getD y10.fst.toNat (D.int 0)).fld (1:Nat)).fld (0:Nat)).toInt,D.int (((y9.snd.snd.snd.snd.snd.getD y10.fst.toNat (D.int 0)).fld (1:Nat)).fld (1:Nat)).toInt]]),y11.snd.fst,y11.snd.snd.fst,y11.snd.snd.snd)
 else
 none
 else
 none)
 else
 none
 else
 none))))
theorem c_Z47_bind {R:Type} (x0:List D) (x1 x2:Int) (k:List D×List D×List D×List D×Int×Int→Option R):c_Z47 x0 x1 x2 k=(c_Z47 x0 x1 x2 some).bind k:=by
 unfold c_Z47
 repeat' first
  | exact Jy
  | exact Jx
  | exact Jw
  | apply Jt
  | apply Ju
  | apply Jz
  | (apply Jv; intro _)
  | intro _
def Z47 (x0:List D) (x1 x2:Int):Option (List D×List D×List D×List D×Int×Int):=c_Z47 x0 x1 x2 some
def e_Z47:Ent:=⟨185,[.obox (.agg [.rd (.int .u8),.int .i64,.int .u64])],[(.tup [.agg [.own (.struct [.int .i64,.int .i64]),.own (.struct [.int .i64,.int .i64])],.own (.struct [.int .i64,.struct [.int .i64,.int .i64]])],[.obox (.agg [.rd (.int .u8),.int .i64,.int .u64])])],fun _ ds k=>dL (fun x0 ds=>dI (fun x1 ds=>dI (fun x2 ds=>dE ((Z47 x0 x1 x2).bind (fun y=>k 0 [.L y.1,.L y.2.1,.L y.2.2.1,.L y.2.2.2.1,.I y.2.2.2.2.1,.I y.2.2.2.2.2])) ds) ds) ds) ds⟩
theorem q_Z47 (x0:List D) (x1 x2:Int):JR (Jp [e_Z34,e_Z39,e_Z43,e_Z3,e_Z16]) (Jq [e_Z46]) A 185 Try.f185 (Sh.mks e_Z47.sh [.L x0,.I x1,.I x2]).1 (fun v os=>some (v,os))=c_Z47 x0 x1 x2 (fun y=>JT e_Z47 0 [.L y.1,.L y.2.1,.L y.2.2.1,.L y.2.2.2.1,.I y.2.2.2.2.1,.I y.2.2.2.2.2]):=by kernel_rfl
theorem e_Z47_ok:e_Z47.ok Try.prog A:=by
 intro R ds k r h
 unfold e_Z47 at h
 obtain ⟨_,_,rfl,h⟩:=Ja h
 obtain ⟨_,_,rfl,h⟩:=Jb h
 obtain ⟨_,_,rfl,h⟩:=Jb h
 obtain ⟨rfl,hE⟩:=Je h
 obtain ⟨y,hy,hk⟩:=Jf hE
 exact ⟨0,_,_,_,hk,rfl,JU px (fx:=⟨Try.func185,by kernel_rfl,by kernel_rfl⟩) (Jr e_Z34_ok (Jr e_Z39_ok (Jr e_Z43_ok (Jr e_Z3_ok (Jr e_Z16_ok Jm))))) (Jo e_Z46_ok Jn) ((q_Z47 ..).trans ((c_Z47_bind ..).trans (Jg hy)))⟩

/-!-/
def c_Z48 {R:Type} (x0:List D) (k:List D×List D×List D→Option R):Option R:=
 (Z47 x0 (0:Int) (0:Int)).bind (fun y0=>
 k (y0.fst,y0.snd.fst,y0.snd.snd.fst))
theorem c_Z48_bind {R:Type} (x0:List D) (k:List D×List D×List D→Option R):c_Z48 x0 k=(c_Z48 x0 some).bind k:=by
 unfold c_Z48
 repeat' first
  | exact Jy
  | exact Jx
  | exact Jw
  | apply Jt
  | apply Ju
  | apply Jz
  | (apply Jv; intro _)
  | intro _
def Z48 (x0:List D):Option (List D×List D×List D):=c_Z48 x0 some
def e_Z48:Ent:=⟨110,[.rd (.int .u8)],[(.tup [.agg [.own (.struct [.int .i64,.int .i64]),.own (.struct [.int .i64,.int .i64])],.own (.struct [.int .i64,.struct [.int .i64,.int .i64]])],[.undef])],fun _ ds k=>dL (fun x0 ds=>dE ((Z48 x0).bind (fun y=>k 0 [.L y.1,.L y.2.1,.L y.2.2])) ds) ds⟩
theorem q_Z48 (x0:List D):JR (Jp [e_Z47]) (Jq []) A 110 Try.f110 (Sh.mks e_Z48.sh [.L x0]).1 (fun v os=>some (v,os))=c_Z48 x0 (fun y=>JT e_Z48 0 [.L y.1,.L y.2.1,.L y.2.2]):=by kernel_rfl
theorem e_Z48_ok:e_Z48.ok Try.prog A:=by
 intro R ds k r h
 unfold e_Z48 at h
 obtain ⟨_,_,rfl,h⟩:=Ja h
 obtain ⟨rfl,hE⟩:=Je h
 obtain ⟨y,hy,hk⟩:=Jf hE
 exact ⟨0,_,_,_,hk,rfl,JU px (fx:=⟨Try.func110,by kernel_rfl,by kernel_rfl⟩) (Jr e_Z47_ok Jm) Jn ((q_Z48 ..).trans ((c_Z48_bind ..).trans (Jg hy)))⟩

/-!-/
def c_Z49 {R:Type} (x0:List D) (k:List D×List D×List D→Option R):Option R:=
 (Z48 x0).bind (fun y0=>
 k (y0.fst,y0.snd.fst,y0.snd.snd))
theorem c_Z49_bind {R:Type} (x0:List D) (k:List D×List D×List D→Option R):c_Z49 x0 k=(c_Z49 x0 some).bind k:=by
 unfold c_Z49
 repeat' first
  | exact Jy
  | exact Jx
  | exact Jw
  | apply Jt
  | apply Ju
  | apply Jz
  | (apply Jv; intro _)
  | intro _
def Z49 (x0:List D):Option (List D×List D×List D):=c_Z49 x0 some
def e_Z49:Ent:=⟨31,[.rd (.int .u8)],[(.tup [.agg [.own (.struct [.int .i64,.int .i64]),.own (.struct [.int .i64,.int .i64])],.own (.struct [.int .i64,.struct [.int .i64,.int .i64]])],[.undef])],fun _ ds k=>dL (fun x0 ds=>dE ((Z49 x0).bind (fun y=>k 0 [.L y.1,.L y.2.1,.L y.2.2])) ds) ds⟩
theorem q_Z49 (x0:List D):JR (Jp [e_Z48]) (Jq []) A 31 Try.f31 (Sh.mks e_Z49.sh [.L x0]).1 (fun v os=>some (v,os))=c_Z49 x0 (fun y=>JT e_Z49 0 [.L y.1,.L y.2.1,.L y.2.2]):=by kernel_rfl
theorem e_Z49_ok:e_Z49.ok Try.prog A:=by
 intro R ds k r h
 unfold e_Z49 at h
 obtain ⟨_,_,rfl,h⟩:=Ja h
 obtain ⟨rfl,hE⟩:=Je h
 obtain ⟨y,hy,hk⟩:=Jf hE
 exact ⟨0,_,_,_,hk,rfl,JU px (fx:=⟨Try.func31,by kernel_rfl,by kernel_rfl⟩) (Jr e_Z48_ok Jm) Jn ((q_Z49 ..).trans ((c_Z49_bind ..).trans (Jg hy)))⟩

/-!-/
def c_Z50 {R:Type} (x0 x1 x2:Int) (k:Bool→Option R):Option R:=
 bif decide (x1≤x0) then
 k (decide (x0≤x2))
 else
 k Bool.false
theorem c_Z50_bind {R:Type} (x0 x1 x2:Int) (k:Bool→Option R):c_Z50 x0 x1 x2 k=(c_Z50 x0 x1 x2 some).bind k:=by
 unfold c_Z50
 repeat' first
  | exact Jy
  | exact Jx
  | exact Jw
  | apply Jt
  | apply Ju
  | apply Jz
  | (apply Jv; intro _)
  | intro _
def Z50 (x0 x1 x2:Int):Option (Bool):=c_Z50 x0 x1 x2 some
def e_Z50:Ent:=⟨87,[.int .i64,.int .i64,.int .i64],[(.bool,[.undef,.undef,.undef])],fun _ ds k=>dI (fun x0 ds=>dI (fun x1 ds=>dI (fun x2 ds=>dE ((Z50 x0 x1 x2).bind (fun y=>k 0 [.B y])) ds) ds) ds) ds⟩
theorem q_Z50 (x0 x1 x2:Int):JR (Jp []) (Jq []) A 87 Try.f87 (Sh.mks e_Z50.sh [.I x0,.I x1,.I x2]).1 (fun v os=>some (v,os))=c_Z50 x0 x1 x2 (fun y=>JT e_Z50 0 [.B y]):=by kernel_rfl
theorem e_Z50_ok:e_Z50.ok Try.prog A:=by
 intro R ds k r h
 unfold e_Z50 at h
 obtain ⟨_,_,rfl,h⟩:=Jb h
 obtain ⟨_,_,rfl,h⟩:=Jb h
 obtain ⟨_,_,rfl,h⟩:=Jb h
 obtain ⟨rfl,hE⟩:=Je h
 obtain ⟨y,hy,hk⟩:=Jf hE
 exact ⟨0,_,_,_,hk,rfl,JU px (fx:=⟨Try.func87,by kernel_rfl,by kernel_rfl⟩) Jm Jn ((q_Z50 ..).trans ((c_Z50_bind ..).trans (Jg hy)))⟩

/-!-/
def c_Z51 {R:Type} (x0:Int) (k:Bool→Option R):Option R:=
 (Z50 x0 (1:Int) (999:Int)).bind (fun y0=>
 k y0)
theorem c_Z51_bind {R:Type} (x0:Int) (k:Bool→Option R):c_Z51 x0 k=(c_Z51 x0 some).bind k:=by
 unfold c_Z51
 repeat' first
  | exact Jy
  | exact Jx
  | exact Jw
  | apply Jt
  | apply Ju
  | apply Jz
  | (apply Jv; intro _)
  | intro _
def Z51 (x0:Int):Option (Bool):=c_Z51 x0 some
def e_Z51:Ent:=⟨174,[.int .i64],[(.bool,[.undef])],fun _ ds k=>dI (fun x0 ds=>dE ((Z51 x0).bind (fun y=>k 0 [.B y])) ds) ds⟩
theorem q_Z51 (x0:Int):JR (Jp [e_Z50]) (Jq []) A 174 Try.f174 (Sh.mks e_Z51.sh [.I x0]).1 (fun v os=>some (v,os))=c_Z51 x0 (fun y=>JT e_Z51 0 [.B y]):=by kernel_rfl
theorem e_Z51_ok:e_Z51.ok Try.prog A:=by
 intro R ds k r h
 unfold e_Z51 at h
 obtain ⟨_,_,rfl,h⟩:=Jb h
 obtain ⟨rfl,hE⟩:=Je h
 obtain ⟨y,hy,hk⟩:=Jf hE
 exact ⟨0,_,_,_,hk,rfl,JU px (fx:=⟨Try.func174,by kernel_rfl,by kernel_rfl⟩) (Jr e_Z50_ok Jm) Jn ((q_Z51 ..).trans ((c_Z51_bind ..).trans (Jg hy)))⟩

/-!-/
def c_Z52 {R:Type} (x0:Int) (k:Bool→Option R):Option R:=
 (Z50 x0 (1:Int) (4:Int)).bind (fun y0=>
 k y0)
theorem c_Z52_bind {R:Type} (x0:Int) (k:Bool→Option R):c_Z52 x0 k=(c_Z52 x0 some).bind k:=by
 unfold c_Z52
 repeat' first
  | exact Jy
  | exact Jx
  | exact Jw
  | apply Jt
  | apply Ju
  | apply Jz
  | (apply Jv; intro _)
  | intro _
def Z52 (x0:Int):Option (Bool):=c_Z52 x0 some
def e_Z52:Ent:=⟨175,[.int .i64],[(.bool,[.undef])],fun _ ds k=>dI (fun x0 ds=>dE ((Z52 x0).bind (fun y=>k 0 [.B y])) ds) ds⟩
theorem q_Z52 (x0:Int):JR (Jp [e_Z50]) (Jq []) A 175 Try.f175 (Sh.mks e_Z52.sh [.I x0]).1 (fun v os=>some (v,os))=c_Z52 x0 (fun y=>JT e_Z52 0 [.B y]):=by kernel_rfl
theorem e_Z52_ok:e_Z52.ok Try.prog A:=by
 intro R ds k r h
 unfold e_Z52 at h
 obtain ⟨_,_,rfl,h⟩:=Jb h
 obtain ⟨rfl,hE⟩:=Je h
 obtain ⟨y,hy,hk⟩:=Jf hE
 exact ⟨0,_,_,_,hk,rfl,JU px (fx:=⟨Try.func175,by kernel_rfl,by kernel_rfl⟩) (Jr e_Z50_ok Jm) Jn ((q_Z52 ..).trans ((c_Z52_bind ..).trans (Jg hy)))⟩

/-!-/
abbrev T_Z53:=List D→Int→Int→List D→List D→Option ((Bool×List D×List D)⊕(List D×List D))
def c_Z53 {R:Type} (F:T_Z53) (x0:List D) (x1 x2:Int) (x3 x4:List D) (k:(Bool×List D×List D)⊕(List D×List D)→Option R):Option R:=
 bif decide (x2<x1) then
 if 0≤x2∧x2<(↑x0.length:Int) then
 (Z51 (((x0.getD x2.toNat (D.int 0)).fld (0:Nat)).toInt)).bind (fun y0=>
 bif !y0 then
 k (.inl (Bool.false,x3,x4))
 else
 (Z52 (((x0.getD x2.toNat (D.int 0)).fld (1:Nat)).toInt)).bind (fun y1=>
 bif !y1 then
 k (.inl (Bool.false,x3,x4))
 else
 bif decide ((0:Int)<x2) then
 if (0:Int)≤IntKind.i64.wrap (x2 - 1)∧IntKind.i64.wrap (x2 - 1)<(↑x3.length:Int) then
 bif decide (((x0.getD x2.toNat (D.int 0)).fld (0:Nat)).toInt≤((x3.getD (IntKind.i64.wrap (x2 - 1)).toNat (D.int 0)).fld (0:Nat)).toInt) then
 k (.inl (Bool.false,x3,x4))
 else
 (F x0 x1 (IntKind.i64.wrap (x2+1)) x3 x4).bind k
 else
 none
 else
 (F x0 x1 (IntKind.i64.wrap (x2+1)) x3 x4).bind k))
 else
 none
 else
 k (.inr (x3,x4))
theorem c_Z53_bind {R:Type} (F:T_Z53) (x0:List D) (x1 x2:Int) (x3 x4:List D) (k:(Bool×List D×List D)⊕(List D×List D)→Option R):c_Z53 F x0 x1 x2 x3 x4 k=(c_Z53 F x0 x1 x2 x3 x4 some).bind k:=by
 unfold c_Z53
 repeat' first
  | exact Jy
  | exact Jx
  | exact Jw
  | apply Jt
  | apply Ju
  | apply Jz
  | (apply Jv; intro _)
  | intro _
def n_Z53:Nat→T_Z53
 | 0,_,_,_,_,_=>none
 | n+1,x0,x1,x2,x3,x4=>c_Z53 (n_Z53 n) x0 x1 x2 x3 x4 some
noncomputable def Z53 (x0:List D) (x1 x2:Int) (x3 x4:List D):Option ((Bool×List D×List D)⊕(List D×List D)):=ev (fun n=>n_Z53 n x0 x1 x2 x3 x4)
def m_Z53 (F:T_Z53):JA:=⟨4,⟨(.undef::.ptr 1000 [0]::uu 16 (.rd (.struct [.int .i64,.int .i64])::.int .i64::.int .i64::uu 72 ([]))),[(1000,.obox (.agg [.rd (.struct [.int .i64,.int .i64]),.rd (.struct [.int .i64,.int .i64])]))]⟩,[(.ret,⟨(.undef::.ptr 1000 [0]::.bool::uu 90 ([])),[(1000,.obox (.agg [.rd (.struct [.int .i64,.int .i64]),.rd (.struct [.int .i64,.int .i64])]))]⟩),(.exit 0,⟨(.undef::.ptr 1000 [0]::uu 91 ([])),[(1000,.obox (.agg [.rd (.struct [.int .i64,.int .i64]),.rd (.struct [.int .i64,.int .i64])]))]⟩)],fun _ ds k=>dL (fun x0 ds=>dI (fun x1 ds=>dI (fun x2 ds=>dL (fun x3 ds=>dL (fun x4 ds=>dE ((F x0 x1 x2 x3 x4).bind (Sum.elim (fun y=>k 0 [.B y.1,.L y.2.1,.L y.2.2]) (fun y=>k 1 [.L y.1,.L y.2]))) ds) ds) ds) ds) ds) ds⟩
theorem q_Z53 (F:T_Z53) (x0:List D) (x1 x2:Int) (x3 x4:List D):JZ (Jp [e_Z51,e_Z52]) (Jq [m_Z53 F]) A 97 (Jj (Jh Try.f97) 4) ((m_Z53 F).sh.mk' [.L x0,.I x1,.I x2,.L x3,.L x4]) (fun e σ'=>some (e,σ'))=c_Z53 F x0 x1 x2 x3 x4 (Sum.elim (fun y=>some (.ret,SSt.mk' ⟨(.undef::.ptr 1000 [0]::.bool::uu 90 ([])),[(1000,.obox (.agg [.rd (.struct [.int .i64,.int .i64]),.rd (.struct [.int .i64,.int .i64])]))]⟩ [.B y.1,.L y.2.1,.L y.2.2])) (fun y=>some (.exit 0,SSt.mk' ⟨(.undef::.ptr 1000 [0]::uu 91 ([])),[(1000,.obox (.agg [.rd (.struct [.int .i64,.int .i64]),.rd (.struct [.int .i64,.int .i64])]))]⟩ [.L y.1,.L y.2]))):=by kernel_rfl
theorem m_Z53_ok:∀ n,(m_Z53 (n_Z53 n)).ok Try.prog (Jj (Jh Try.f97) 4):=by
 intro n
 induction n with
 | zero=>
  intro R ds k r h
  unfold m_Z53 at h
  obtain ⟨_,_,rfl,h⟩:=Ja h
  obtain ⟨_,_,rfl,h⟩:=Jb h
  obtain ⟨_,_,rfl,h⟩:=Jb h
  obtain ⟨_,_,rfl,h⟩:=Ja h
  obtain ⟨_,_,rfl,h⟩:=Ja h
  obtain ⟨rfl,hE⟩:=Je h
  obtain ⟨y,hy,hk⟩:=Jf hE
  cases hy
 | succ n ih=>
  intro R ds k r h
  unfold m_Z53 at h
  obtain ⟨_,_,rfl,h⟩:=Ja h
  obtain ⟨_,_,rfl,h⟩:=Jb h
  obtain ⟨_,_,rfl,h⟩:=Jb h
  obtain ⟨_,_,rfl,h⟩:=Ja h
  obtain ⟨_,_,rfl,h⟩:=Ja h
  obtain ⟨rfl,hE⟩:=Je h
  obtain ⟨y,hy,hk⟩:=Jf hE
  cases y with
  | inl y=>
   exact ⟨0,_,_,_,hk,rfl,JO px (fx:=⟨Try.func97,by kernel_rfl,by kernel_rfl⟩) (Jr e_Z51_ok (Jr e_Z52_ok Jm)) (Jo ih Jn) (by kernel_rfl) ((q_Z53 ..).trans ((c_Z53_bind ..).trans (Jg hy)))⟩
  | inr y=>
   exact ⟨1,_,_,_,hk,rfl,JO px (fx:=⟨Try.func97,by kernel_rfl,by kernel_rfl⟩) (Jr e_Z51_ok (Jr e_Z52_ok Jm)) (Jo ih Jn) (by kernel_rfl) ((q_Z53 ..).trans ((c_Z53_bind ..).trans (Jg hy)))⟩
noncomputable def e_Z53:JA:=m_Z53 (Z53)
theorem e_Z53_ok:(e_Z53).ok Try.prog (Jj (Jh Try.f97) 4):=by
 intro R ds k r h
 unfold e_Z53 m_Z53 at h
 obtain ⟨_,_,rfl,h⟩:=Ja h
 obtain ⟨_,_,rfl,h⟩:=Jb h
 obtain ⟨_,_,rfl,h⟩:=Jb h
 obtain ⟨_,_,rfl,h⟩:=Ja h
 obtain ⟨_,_,rfl,h⟩:=Ja h
 obtain ⟨rfl,hE⟩:=Je h
 obtain ⟨y,hy,hk⟩:=Jf hE
 obtain ⟨n,hn⟩:=J4 hy
 exact m_Z53_ok n R _ k r ((Jg hn).trans hk)

/-!-/
def c_Z54 {R:Type} (x0 x1 x2:Int) (k:Bool→Option R):Option R:=
 k (decide (x0=x2))
theorem c_Z54_bind {R:Type} (x0 x1 x2:Int) (k:Bool→Option R):c_Z54 x0 x1 x2 k=(c_Z54 x0 x1 x2 some).bind k:=by
 unfold c_Z54
 repeat' first
  | exact Jy
  | exact Jx
  | exact Jw
  | apply Jt
  | apply Ju
  | apply Jz
  | (apply Jv; intro _)
  | intro _
def Z54 (x0 x1 x2:Int):Option (Bool):=c_Z54 x0 x1 x2 some
def e_Z54:Ent:=⟨200,[.agg [.int .i64,.int .i64],.rp (.int .i64)],[(.bool,[.undef,.undef])],fun _ ds k=>dI (fun x0 ds=>dI (fun x1 ds=>dI (fun x2 ds=>dE ((Z54 x0 x1 x2).bind (fun y=>k 0 [.B y])) ds) ds) ds) ds⟩
theorem q_Z54 (x0 x1 x2:Int):JR (Jp []) (Jq []) A 200 Try.f200 (Sh.mks e_Z54.sh [.I x0,.I x1,.I x2]).1 (fun v os=>some (v,os))=c_Z54 x0 x1 x2 (fun y=>JT e_Z54 0 [.B y]):=by kernel_rfl
theorem e_Z54_ok:e_Z54.ok Try.prog A:=by
 intro R ds k r h
 unfold e_Z54 at h
 obtain ⟨_,_,rfl,h⟩:=Jb h
 obtain ⟨_,_,rfl,h⟩:=Jb h
 obtain ⟨_,_,rfl,h⟩:=Jb h
 obtain ⟨rfl,hE⟩:=Je h
 obtain ⟨y,hy,hk⟩:=Jf hE
 exact ⟨0,_,_,_,hk,rfl,JU px (fx:=⟨Try.func200,by kernel_rfl,by kernel_rfl⟩) Jm Jn ((q_Z54 ..).trans ((c_Z54_bind ..).trans (Jg hy)))⟩

/-!-/
abbrev T_Z55:=List D→Int→Int→Int→Option ((Int)⊕(Unit))
def c_Z55 {R:Type} (F:T_Z55) (x0:List D) (x1 x2 x3:Int) (k:(Int)⊕(Unit)→Option R):Option R:=
 bif decide (x3<x2) then
 if 0≤x3∧x3<(↑x0.length:Int) then
 (Z54 (((x0.getD x3.toNat (D.int 0)).fld (0:Nat)).toInt) (((x0.getD x3.toNat (D.int 0)).fld (1:Nat)).toInt) x1).bind (fun y0=>
 bif y0 then
 k (.inl x3)
 else
 (F x0 x1 x2 (IntKind.i64.wrap (x3+1))).bind k)
 else
 none
 else
 k (.inr ())
theorem c_Z55_bind {R:Type} (F:T_Z55) (x0:List D) (x1 x2 x3:Int) (k:(Int)⊕(Unit)→Option R):c_Z55 F x0 x1 x2 x3 k=(c_Z55 F x0 x1 x2 x3 some).bind k:=by
 unfold c_Z55
 repeat' first
  | exact Jy
  | exact Jx
  | exact Jw
  | apply Jt
  | apply Ju
  | apply Jz
  | (apply Jv; intro _)
  | intro _
def n_Z55:Nat→T_Z55
 | 0,_,_,_,_=>none
 | n+1,x0,x1,x2,x3=>c_Z55 (n_Z55 n) x0 x1 x2 x3 some
noncomputable def Z55 (x0:List D) (x1 x2 x3:Int):Option ((Int)⊕(Unit)):=ev (fun n=>n_Z55 n x0 x1 x2 x3)
def m_Z55 (F:T_Z55):JA:=⟨2,⟨(.rd (.struct [.int .i64,.int .i64])::.fn 200 [.rp (.int .i64)]::uu 5 (.int .i64::.int .i64::uu 10 ([]))),[]⟩,[(.ret,⟨(uu 4 (.int .i64::uu 14 ([]))),[]⟩),(.exit 0,⟨(uu 19 ([])),[]⟩)],fun _ ds k=>dL (fun x0 ds=>dI (fun x1 ds=>dI (fun x2 ds=>dI (fun x3 ds=>dE ((F x0 x1 x2 x3).bind (Sum.elim (fun y=>k 0 [.I y]) (fun y=>k 1 []))) ds) ds) ds) ds) ds⟩
theorem q_Z55 (F:T_Z55) (x0:List D) (x1 x2 x3:Int):JZ (Jp [e_Z54]) (Jq [m_Z55 F]) A 199 (Jj (Jh Try.f199) 2) ((m_Z55 F).sh.mk' [.L x0,.I x1,.I x2,.I x3]) (fun e σ'=>some (e,σ'))=c_Z55 F x0 x1 x2 x3 (Sum.elim (fun y=>some (.ret,SSt.mk' ⟨(uu 4 (.int .i64::uu 14 ([]))),[]⟩ [.I y])) (fun y=>some (.exit 0,SSt.mk' ⟨(uu 19 ([])),[]⟩ []))):=by kernel_rfl
theorem m_Z55_ok:∀ n,(m_Z55 (n_Z55 n)).ok Try.prog (Jj (Jh Try.f199) 2):=by
 intro n
 induction n with
 | zero=>
  intro R ds k r h
  unfold m_Z55 at h
  obtain ⟨_,_,rfl,h⟩:=Ja h
  obtain ⟨_,_,rfl,h⟩:=Jb h
  obtain ⟨_,_,rfl,h⟩:=Jb h
  obtain ⟨_,_,rfl,h⟩:=Jb h
  obtain ⟨rfl,hE⟩:=Je h
  obtain ⟨y,hy,hk⟩:=Jf hE
  cases hy
 | succ n ih=>
  intro R ds k r h
  unfold m_Z55 at h
  obtain ⟨_,_,rfl,h⟩:=Ja h
  obtain ⟨_,_,rfl,h⟩:=Jb h
  obtain ⟨_,_,rfl,h⟩:=Jb h
  obtain ⟨_,_,rfl,h⟩:=Jb h
  obtain ⟨rfl,hE⟩:=Je h
  obtain ⟨y,hy,hk⟩:=Jf hE
  cases y with
  | inl y=>
   exact ⟨0,_,_,_,hk,rfl,JO px (fx:=⟨Try.func199,by kernel_rfl,by kernel_rfl⟩) (Jr e_Z54_ok Jm) (Jo ih Jn) (by kernel_rfl) ((q_Z55 ..).trans ((c_Z55_bind ..).trans (Jg hy)))⟩
  | inr y=>
   exact ⟨1,_,_,_,hk,rfl,JO px (fx:=⟨Try.func199,by kernel_rfl,by kernel_rfl⟩) (Jr e_Z54_ok Jm) (Jo ih Jn) (by kernel_rfl) ((q_Z55 ..).trans ((c_Z55_bind ..).trans (Jg hy)))⟩
noncomputable def e_Z55:JA:=m_Z55 (Z55)
theorem e_Z55_ok:(e_Z55).ok Try.prog (Jj (Jh Try.f199) 2):=by
 intro R ds k r h
 unfold e_Z55 m_Z55 at h
 obtain ⟨_,_,rfl,h⟩:=Ja h
 obtain ⟨_,_,rfl,h⟩:=Jb h
 obtain ⟨_,_,rfl,h⟩:=Jb h
 obtain ⟨_,_,rfl,h⟩:=Jb h
 obtain ⟨rfl,hE⟩:=Je h
 obtain ⟨y,hy,hk⟩:=Jf hE
 obtain ⟨n,hn⟩:=J4 hy
 exact m_Z55_ok n R _ k r ((Jg hn).trans hk)

/-!-/
def c_Z56 {R:Type} (x0:List D) (x1:Int) (k:Int→Option R):Option R:=
 (Z55 x0 x1 (↑x0.length:Int) (0:Int)).bind (Sum.elim (fun y0=>
 k y0) (fun y1=>
 k (-1:Int)))
theorem c_Z56_bind {R:Type} (x0:List D) (x1:Int) (k:Int→Option R):c_Z56 x0 x1 k=(c_Z56 x0 x1 some).bind k:=by
 unfold c_Z56
 repeat' first
  | exact Jy
  | exact Jx
  | exact Jw
  | apply Jt
  | apply Ju
  | apply Jz
  | (apply Jv; intro _)
  | intro _
def Z56 (x0:List D) (x1:Int):Option (Int):=c_Z56 x0 x1 some
def e_Z56:Ent:=⟨199,[.rd (.struct [.int .i64,.int .i64]),.fn 200 [.rp (.int .i64)]],[(.int .i64,[.undef,.undef])],fun _ ds k=>dL (fun x0 ds=>dI (fun x1 ds=>dE ((Z56 x0 x1).bind (fun y=>k 0 [.I y])) ds) ds) ds⟩
theorem q_Z56 (x0:List D) (x1:Int):JR (Jp []) (Jq [e_Z55]) A 199 Try.f199 (Sh.mks e_Z56.sh [.L x0,.I x1]).1 (fun v os=>some (v,os))=c_Z56 x0 x1 (fun y=>JT e_Z56 0 [.I y]):=by kernel_rfl
theorem e_Z56_ok:e_Z56.ok Try.prog A:=by
 intro R ds k r h
 unfold e_Z56 at h
 obtain ⟨_,_,rfl,h⟩:=Ja h
 obtain ⟨_,_,rfl,h⟩:=Jb h
 obtain ⟨rfl,hE⟩:=Je h
 obtain ⟨y,hy,hk⟩:=Jf hE
 exact ⟨0,_,_,_,hk,rfl,JU px (fx:=⟨Try.func199,by kernel_rfl,by kernel_rfl⟩) Jm (Jo e_Z55_ok Jn) ((q_Z56 ..).trans ((c_Z56_bind ..).trans (Jg hy)))⟩

/-!-/
def c_Z57 {R:Type} (x0 x1:List D) (x2:Int) (k:Int→Option R):Option R:=
 (Z56 x0 x2).bind (fun y0=>
 k y0)
theorem c_Z57_bind {R:Type} (x0 x1:List D) (x2:Int) (k:Int→Option R):c_Z57 x0 x1 x2 k=(c_Z57 x0 x1 x2 some).bind k:=by
 unfold c_Z57
 repeat' first
  | exact Jy
  | exact Jx
  | exact Jw
  | apply Jt
  | apply Ju
  | apply Jz
  | (apply Jv; intro _)
  | intro _
def Z57 (x0 x1:List D) (x2:Int):Option (Int):=c_Z57 x0 x1 x2 some
def e_Z57:Ent:=⟨130,[.agg [.rd (.struct [.int .i64,.int .i64]),.rd (.struct [.int .i64,.int .i64])],.int .i64],[(.int .i64,[.undef,.undef])],fun _ ds k=>dL (fun x0 ds=>dL (fun x1 ds=>dI (fun x2 ds=>dE ((Z57 x0 x1 x2).bind (fun y=>k 0 [.I y])) ds) ds) ds) ds⟩
theorem q_Z57 (x0 x1:List D) (x2:Int):JR (Jp [e_Z56]) (Jq []) A 130 Try.f130 (Sh.mks e_Z57.sh [.L x0,.L x1,.I x2]).1 (fun v os=>some (v,os))=c_Z57 x0 x1 x2 (fun y=>JT e_Z57 0 [.I y]):=by kernel_rfl
theorem e_Z57_ok:e_Z57.ok Try.prog A:=by
 intro R ds k r h
 unfold e_Z57 at h
 obtain ⟨_,_,rfl,h⟩:=Ja h
 obtain ⟨_,_,rfl,h⟩:=Ja h
 obtain ⟨_,_,rfl,h⟩:=Jb h
 obtain ⟨rfl,hE⟩:=Je h
 obtain ⟨y,hy,hk⟩:=Jf hE
 exact ⟨0,_,_,_,hk,rfl,JU px (fx:=⟨Try.func130,by kernel_rfl,by kernel_rfl⟩) (Jr e_Z56_ok Jm) Jn ((q_Z57 ..).trans ((c_Z57_bind ..).trans (Jg hy)))⟩

/-!-/
def c_Z58 {R:Type} (x0:Int) (k:Bool→Option R):Option R:=
 k (!decide (x0=x0))
theorem c_Z58_bind {R:Type} (x0:Int) (k:Bool→Option R):c_Z58 x0 k=(c_Z58 x0 some).bind k:=by
 unfold c_Z58
 repeat' first
  | exact Jy
  | exact Jx
  | exact Jw
  | apply Jt
  | apply Ju
  | apply Jz
  | (apply Jv; intro _)
  | intro _
def Z58 (x0:Int):Option (Bool):=c_Z58 x0 some
def e_Z58:Ent:=⟨220,[.int .i64],[(.bool,[.undef])],fun _ ds k=>dI (fun x0 ds=>dE ((Z58 x0).bind (fun y=>k 0 [.B y])) ds) ds⟩
theorem q_Z58 (x0:Int):JR (Jp []) (Jq []) A 220 Try.f220 (Sh.mks e_Z58.sh [.I x0]).1 (fun v os=>some (v,os))=c_Z58 x0 (fun y=>JT e_Z58 0 [.B y]):=by kernel_rfl
theorem e_Z58_ok:e_Z58.ok Try.prog A:=by
 intro R ds k r h
 unfold e_Z58 at h
 obtain ⟨_,_,rfl,h⟩:=Jb h
 obtain ⟨rfl,hE⟩:=Je h
 obtain ⟨y,hy,hk⟩:=Jf hE
 exact ⟨0,_,_,_,hk,rfl,JU px (fx:=⟨Try.func220,by kernel_rfl,by kernel_rfl⟩) Jm Jn ((q_Z58 ..).trans ((c_Z58_bind ..).trans (Jg hy)))⟩

/-!-/
def c_Z59 {R:Type} (x0 x1:Int) (k:Int→Option R):Option R:=
 (Z58 x0).bind (fun y0=>
 (Z58 x1).bind (fun y1=>
 bif y0 then
 bif y1 then
 k (0:Int)
 else
 k (-1:Int)
 else
 bif y1 then
 k (1:Int)
 else
 bif decide (x0<x1) then
 k (-1:Int)
 else
 bif decide (x1<x0) then
 k (1:Int)
 else
 k (0:Int)))
theorem c_Z59_bind {R:Type} (x0 x1:Int) (k:Int→Option R):c_Z59 x0 x1 k=(c_Z59 x0 x1 some).bind k:=by
 unfold c_Z59
 repeat' first
  | exact Jy
  | exact Jx
  | exact Jw
  | apply Jt
  | apply Ju
  | apply Jz
  | (apply Jv; intro _)
  | intro _
def Z59 (x0 x1:Int):Option (Int):=c_Z59 x0 x1 some
def e_Z59:Ent:=⟨183,[.int .i64,.int .i64],[(.int .i64,[.undef,.undef])],fun _ ds k=>dI (fun x0 ds=>dI (fun x1 ds=>dE ((Z59 x0 x1).bind (fun y=>k 0 [.I y])) ds) ds) ds⟩
theorem q_Z59 (x0 x1:Int):JR (Jp [e_Z58]) (Jq []) A 183 Try.f183 (Sh.mks e_Z59.sh [.I x0,.I x1]).1 (fun v os=>some (v,os))=c_Z59 x0 x1 (fun y=>JT e_Z59 0 [.I y]):=by kernel_rfl
theorem e_Z59_ok:e_Z59.ok Try.prog A:=by
 intro R ds k r h
 unfold e_Z59 at h
 obtain ⟨_,_,rfl,h⟩:=Jb h
 obtain ⟨_,_,rfl,h⟩:=Jb h
 obtain ⟨rfl,hE⟩:=Je h
 obtain ⟨y,hy,hk⟩:=Jf hE
 exact ⟨0,_,_,_,hk,rfl,JU px (fx:=⟨Try.func183,by kernel_rfl,by kernel_rfl⟩) (Jr e_Z58_ok Jm) Jn ((q_Z59 ..).trans ((c_Z59_bind ..).trans (Jg hy)))⟩

/-!-/
abbrev T_Z60:=Int→List D→Int→Int→Option ((Int×Int)⊕(Int))
def c_Z60 {R:Type} (F:T_Z60) (x0:Int) (x1:List D) (x2 x3:Int) (k:(Int×Int)⊕(Int)→Option R):Option R:=
 bif decide (x3<x2) then
 if 0≤x3∧x3<(↑x1.length:Int) then
 bif !decide ((x1.getD x3.toNat (D.int 0)).toInt=x0) then
 k (.inl ((x1.getD x3.toNat (D.int 0)).toInt,x0))
 else
 (F x0 x1 x2 (IntKind.i64.wrap (x3+1))).bind k
 else
 none
 else
 k (.inr x0)
theorem c_Z60_bind {R:Type} (F:T_Z60) (x0:Int) (x1:List D) (x2 x3:Int) (k:(Int×Int)⊕(Int)→Option R):c_Z60 F x0 x1 x2 x3 k=(c_Z60 F x0 x1 x2 x3 some).bind k:=by
 unfold c_Z60
 repeat' first
  | exact Jy
  | exact Jx
  | exact Jw
  | apply Jt
  | apply Ju
  | apply Jz
  | (apply Jv; intro _)
  | intro _
def n_Z60:Nat→T_Z60
 | 0,_,_,_,_=>none
 | n+1,x0,x1,x2,x3=>c_Z60 (n_Z60 n) x0 x1 x2 x3 some
noncomputable def Z60 (x0:Int) (x1:List D) (x2 x3:Int):Option ((Int×Int)⊕(Int)):=ev (fun n=>n_Z60 n x0 x1 x2 x3)
def m_Z60 (F:T_Z60):JA:=⟨3,⟨(.undef::.undef::.undef::.int .i64::.undef::.undef::.rd (.int .i64)::.int .i64::.int .i64::uu 9 ([])),[]⟩,[(.ret,⟨(.undef::.undef::.int .i64::.int .i64::uu 14 ([])),[]⟩),(.exit 0,⟨(.undef::.undef::.undef::.int .i64::uu 14 ([])),[]⟩)],fun _ ds k=>dI (fun x0 ds=>dL (fun x1 ds=>dI (fun x2 ds=>dI (fun x3 ds=>dE ((F x0 x1 x2 x3).bind (Sum.elim (fun y=>k 0 [.I y.1,.I y.2]) (fun y=>k 1 [.I y]))) ds) ds) ds) ds) ds⟩
theorem q_Z60 (F:T_Z60) (x0:Int) (x1:List D) (x2 x3:Int):JZ (Jp []) (Jq [m_Z60 F]) A 182 (Jj (Jh Try.f182) 3) ((m_Z60 F).sh.mk' [.I x0,.L x1,.I x2,.I x3]) (fun e σ'=>some (e,σ'))=c_Z60 F x0 x1 x2 x3 (Sum.elim (fun y=>some (.ret,SSt.mk' ⟨(.undef::.undef::.int .i64::.int .i64::uu 14 ([])),[]⟩ [.I y.1,.I y.2])) (fun y=>some (.exit 0,SSt.mk' ⟨(.undef::.undef::.undef::.int .i64::uu 14 ([])),[]⟩ [.I y]))):=by kernel_rfl
theorem m_Z60_ok:∀ n,(m_Z60 (n_Z60 n)).ok Try.prog (Jj (Jh Try.f182) 3):=by
 intro n
 induction n with
 | zero=>
  intro R ds k r h
  unfold m_Z60 at h
  obtain ⟨_,_,rfl,h⟩:=Jb h
  obtain ⟨_,_,rfl,h⟩:=Ja h
  obtain ⟨_,_,rfl,h⟩:=Jb h
  obtain ⟨_,_,rfl,h⟩:=Jb h
  obtain ⟨rfl,hE⟩:=Je h
  obtain ⟨y,hy,hk⟩:=Jf hE
  cases hy
 | succ n ih=>
  intro R ds k r h
  unfold m_Z60 at h
  obtain ⟨_,_,rfl,h⟩:=Jb h
  obtain ⟨_,_,rfl,h⟩:=Ja h
  obtain ⟨_,_,rfl,h⟩:=Jb h
  obtain ⟨_,_,rfl,h⟩:=Jb h
  obtain ⟨rfl,hE⟩:=Je h
  obtain ⟨y,hy,hk⟩:=Jf hE
  cases y with
  | inl y=>
   exact ⟨0,_,_,_,hk,rfl,JO px (fx:=⟨Try.func182,by kernel_rfl,by kernel_rfl⟩) Jm (Jo ih Jn) (by kernel_rfl) ((q_Z60 ..).trans ((c_Z60_bind ..).trans (Jg hy)))⟩
  | inr y=>
   exact ⟨1,_,_,_,hk,rfl,JO px (fx:=⟨Try.func182,by kernel_rfl,by kernel_rfl⟩) Jm (Jo ih Jn) (by kernel_rfl) ((q_Z60 ..).trans ((c_Z60_bind ..).trans (Jg hy)))⟩
noncomputable def e_Z60:JA:=m_Z60 (Z60)
theorem e_Z60_ok:(e_Z60).ok Try.prog (Jj (Jh Try.f182) 3):=by
 intro R ds k r h
 unfold e_Z60 m_Z60 at h
 obtain ⟨_,_,rfl,h⟩:=Jb h
 obtain ⟨_,_,rfl,h⟩:=Ja h
 obtain ⟨_,_,rfl,h⟩:=Jb h
 obtain ⟨_,_,rfl,h⟩:=Jb h
 obtain ⟨rfl,hE⟩:=Je h
 obtain ⟨y,hy,hk⟩:=Jf hE
 obtain ⟨n,hn⟩:=J4 hy
 exact m_Z60_ok n R _ k r ((Jg hn).trans hk)

/-!-/
def c_Z61 {R:Type} (x0:List D) (k:Int→Option R):Option R:=
 (Z60 (0:Int) x0 (↑x0.length:Int) (0:Int)).bind (Sum.elim (fun y0=>
 k y0.fst) (fun y1=>
 k y1))
theorem c_Z61_bind {R:Type} (x0:List D) (k:Int→Option R):c_Z61 x0 k=(c_Z61 x0 some).bind k:=by
 unfold c_Z61
 repeat' first
  | exact Jy
  | exact Jx
  | exact Jw
  | apply Jt
  | apply Ju
  | apply Jz
  | (apply Jv; intro _)
  | intro _
def Z61 (x0:List D):Option (Int):=c_Z61 x0 some
def e_Z61:Ent:=⟨182,[.rd (.int .i64)],[(.int .i64,[.undef])],fun _ ds k=>dL (fun x0 ds=>dE ((Z61 x0).bind (fun y=>k 0 [.I y])) ds) ds⟩
theorem q_Z61 (x0:List D):JR (Jp []) (Jq [e_Z60]) A 182 Try.f182 (Sh.mks e_Z61.sh [.L x0]).1 (fun v os=>some (v,os))=c_Z61 x0 (fun y=>JT e_Z61 0 [.I y]):=by kernel_rfl
theorem e_Z61_ok:e_Z61.ok Try.prog A:=by
 intro R ds k r h
 unfold e_Z61 at h
 obtain ⟨_,_,rfl,h⟩:=Ja h
 obtain ⟨rfl,hE⟩:=Je h
 obtain ⟨y,hy,hk⟩:=Jf hE
 exact ⟨0,_,_,_,hk,rfl,JU px (fx:=⟨Try.func182,by kernel_rfl,by kernel_rfl⟩) Jm (Jo e_Z60_ok Jn) ((q_Z61 ..).trans ((c_Z61_bind ..).trans (Jg hy)))⟩

/-!-/
def c_Z62 {R:Type} (x0 x1 x2 x3:Int) (k:Int→Option R):Option R:=
 (Z59 x0 x2).bind (fun y0=>
 (Z59 x1 x3).bind (fun y1=>
 (Z61 ([D.int y0,D.int y1])).bind (fun y2=>
 k y2)))
theorem c_Z62_bind {R:Type} (x0 x1 x2 x3:Int) (k:Int→Option R):c_Z62 x0 x1 x2 x3 k=(c_Z62 x0 x1 x2 x3 some).bind k:=by
 unfold c_Z62
 repeat' first
  | exact Jy
  | exact Jx
  | exact Jw
  | apply Jt
  | apply Ju
  | apply Jz
  | (apply Jv; intro _)
  | intro _
def Z62 (x0 x1 x2 x3:Int):Option (Int):=c_Z62 x0 x1 x2 x3 some
def e_Z62:Ent:=⟨105,[.agg [.int .i64,.int .i64],.agg [.int .i64,.int .i64]],[(.int .i64,[.undef,.undef])],fun _ ds k=>dI (fun x0 ds=>dI (fun x1 ds=>dI (fun x2 ds=>dI (fun x3 ds=>dE ((Z62 x0 x1 x2 x3).bind (fun y=>k 0 [.I y])) ds) ds) ds) ds) ds⟩
theorem q_Z62 (x0 x1 x2 x3:Int):JR (Jp [e_Z59,e_Z61]) (Jq []) A 105 Try.f105 (Sh.mks e_Z62.sh [.I x0,.I x1,.I x2,.I x3]).1 (fun v os=>some (v,os))=c_Z62 x0 x1 x2 x3 (fun y=>JT e_Z62 0 [.I y]):=by kernel_rfl
theorem e_Z62_ok:e_Z62.ok Try.prog A:=by
 intro R ds k r h
 unfold e_Z62 at h
 obtain ⟨_,_,rfl,h⟩:=Jb h
 obtain ⟨_,_,rfl,h⟩:=Jb h
 obtain ⟨_,_,rfl,h⟩:=Jb h
 obtain ⟨_,_,rfl,h⟩:=Jb h
 obtain ⟨rfl,hE⟩:=Je h
 obtain ⟨y,hy,hk⟩:=Jf hE
 exact ⟨0,_,_,_,hk,rfl,JU px (fx:=⟨Try.func105,by kernel_rfl,by kernel_rfl⟩) (Jr e_Z59_ok (Jr e_Z61_ok Jm)) Jn ((q_Z62 ..).trans ((c_Z62_bind ..).trans (Jg hy)))⟩

/-!-/
abbrev T_Z63:=List D→Int→Int→List D→List D→Option ((Bool)⊕(Unit))
def c_Z63 {R:Type} (F:T_Z63) (x0:List D) (x1 x2:Int) (x3 x4:List D) (k:(Bool)⊕(Unit)→Option R):Option R:=
 bif decide (x2<x1) then
 if 0≤x2∧x2<(↑x0.length:Int) then
 bif decide (((x0.getD x2.toNat (D.int 0)).fld (0:Nat)).toInt=((x0.getD x2.toNat (D.int 0)).fld (1:Nat)).toInt) then
 k (.inl Bool.false)
 else
 (Z57 x3 x4 (((x0.getD x2.toNat (D.int 0)).fld (0:Nat)).toInt)).bind (fun y0=>
 bif decide (y0<(0:Int)) then
 k (.inl Bool.false)
 else
 (Z57 x3 x4 (((x0.getD x2.toNat (D.int 0)).fld (1:Nat)).toInt)).bind (fun y1=>
 bif decide (y1<(0:Int)) then
 k (.inl Bool.false)
 else
 bif decide ((0:Int)<x2) then
 if (0:Int)≤IntKind.i64.wrap (x2 - 1)∧IntKind.i64.wrap (x2 - 1)<(↑x4.length:Int) then
 (Z62 (((x4.getD (IntKind.i64.wrap (x2 - 1)).toNat (D.int 0)).fld (0:Nat)).toInt) (((x4.getD (IntKind.i64.wrap (x2 - 1)).toNat (D.int 0)).fld (1:Nat)).toInt) (((x0.getD x2.toNat (D.int 0)).fld (0:Nat)).toInt) (((x0.getD x2.toNat (D.int 0)).fld (1:Nat)).toInt)).bind (fun y2=>
 bif decide ((0:Int)≤y2) then
 k (.inl Bool.false)
 else
 (F x0 x1 (IntKind.i64.wrap (x2+1)) x3 x4).bind k)
 else
 none
 else
 (F x0 x1 (IntKind.i64.wrap (x2+1)) x3 x4).bind k))
 else
 none
 else
 k (.inr ())
theorem c_Z63_bind {R:Type} (F:T_Z63) (x0:List D) (x1 x2:Int) (x3 x4:List D) (k:(Bool)⊕(Unit)→Option R):c_Z63 F x0 x1 x2 x3 x4 k=(c_Z63 F x0 x1 x2 x3 x4 some).bind k:=by
 unfold c_Z63
 repeat' first
  | exact Jy
  | exact Jx
  | exact Jw
  | apply Jt
  | apply Ju
  | apply Jz
  | (apply Jv; intro _)
  | intro _
def n_Z63:Nat→T_Z63
 | 0,_,_,_,_,_=>none
 | n+1,x0,x1,x2,x3,x4=>c_Z63 (n_Z63 n) x0 x1 x2 x3 x4 some
noncomputable def Z63 (x0:List D) (x1 x2:Int) (x3 x4:List D):Option ((Bool)⊕(Unit)):=ev (fun n=>n_Z63 n x0 x1 x2 x3 x4)
def m_Z63 (F:T_Z63):JA:=⟨10,⟨(.undef::.ptr 1000 [0]::uu 51 (.rd (.struct [.int .i64,.int .i64])::.int .i64::.int .i64::uu 37 ([]))),[(1000,.obox (.agg [.rd (.struct [.int .i64,.int .i64]),.rd (.struct [.int .i64,.int .i64])]))]⟩,[(.ret,⟨(.undef::.undef::.bool::uu 90 ([])),[]⟩),(.exit 2,⟨(uu 93 ([])),[]⟩)],fun _ ds k=>dL (fun x0 ds=>dI (fun x1 ds=>dI (fun x2 ds=>dL (fun x3 ds=>dL (fun x4 ds=>dE ((F x0 x1 x2 x3 x4).bind (Sum.elim (fun y=>k 0 [.B y]) (fun y=>k 1 []))) ds) ds) ds) ds) ds) ds⟩
theorem q_Z63 (F:T_Z63) (x0:List D) (x1 x2:Int) (x3 x4:List D):JZ (Jp [e_Z57,e_Z62]) (Jq [m_Z63 F]) A 97 (Jj (Jh Try.f97) 10) ((m_Z63 F).sh.mk' [.L x0,.I x1,.I x2,.L x3,.L x4]) (fun e σ'=>some (e,σ'))=c_Z63 F x0 x1 x2 x3 x4 (Sum.elim (fun y=>some (.ret,SSt.mk' ⟨(.undef::.undef::.bool::uu 90 ([])),[]⟩ [.B y])) (fun y=>some (.exit 2,SSt.mk' ⟨(uu 93 ([])),[]⟩ []))):=by kernel_rfl
theorem m_Z63_ok:∀ n,(m_Z63 (n_Z63 n)).ok Try.prog (Jj (Jh Try.f97) 10):=by
 intro n
 induction n with
 | zero=>
  intro R ds k r h
  unfold m_Z63 at h
  obtain ⟨_,_,rfl,h⟩:=Ja h
  obtain ⟨_,_,rfl,h⟩:=Jb h
  obtain ⟨_,_,rfl,h⟩:=Jb h
  obtain ⟨_,_,rfl,h⟩:=Ja h
  obtain ⟨_,_,rfl,h⟩:=Ja h
  obtain ⟨rfl,hE⟩:=Je h
  obtain ⟨y,hy,hk⟩:=Jf hE
  cases hy
 | succ n ih=>
  intro R ds k r h
  unfold m_Z63 at h
  obtain ⟨_,_,rfl,h⟩:=Ja h
  obtain ⟨_,_,rfl,h⟩:=Jb h
  obtain ⟨_,_,rfl,h⟩:=Jb h
  obtain ⟨_,_,rfl,h⟩:=Ja h
  obtain ⟨_,_,rfl,h⟩:=Ja h
  obtain ⟨rfl,hE⟩:=Je h
  obtain ⟨y,hy,hk⟩:=Jf hE
  cases y with
  | inl y=>
   exact ⟨0,_,_,_,hk,rfl,JO px (fx:=⟨Try.func97,by kernel_rfl,by kernel_rfl⟩) (Jr e_Z57_ok (Jr e_Z62_ok Jm)) (Jo ih Jn) (by kernel_rfl) ((q_Z63 ..).trans ((c_Z63_bind ..).trans (Jg hy)))⟩
  | inr y=>
   exact ⟨1,_,_,_,hk,rfl,JO px (fx:=⟨Try.func97,by kernel_rfl,by kernel_rfl⟩) (Jr e_Z57_ok (Jr e_Z62_ok Jm)) (Jo ih Jn) (by kernel_rfl) ((q_Z63 ..).trans ((c_Z63_bind ..).trans (Jg hy)))⟩
noncomputable def e_Z63:JA:=m_Z63 (Z63)
theorem e_Z63_ok:(e_Z63).ok Try.prog (Jj (Jh Try.f97) 10):=by
 intro R ds k r h
 unfold e_Z63 m_Z63 at h
 obtain ⟨_,_,rfl,h⟩:=Ja h
 obtain ⟨_,_,rfl,h⟩:=Jb h
 obtain ⟨_,_,rfl,h⟩:=Jb h
 obtain ⟨_,_,rfl,h⟩:=Ja h
 obtain ⟨_,_,rfl,h⟩:=Ja h
 obtain ⟨rfl,hE⟩:=Je h
 obtain ⟨y,hy,hk⟩:=Jf hE
 obtain ⟨n,hn⟩:=J4 hy
 exact m_Z63_ok n R _ k r ((Jg hn).trans hk)

/-!-/
def c_Z64 {R:Type} (x0 x1:List D) (k:Bool→Option R):Option R:=
 bif decide ((10:Int)<(↑x0.length:Int)) then
 k Bool.false
 else
 bif decide ((24:Int)<(↑x1.length:Int)) then
 k Bool.false
 else
 (Z53 x0 (↑x0.length:Int) (0:Int) x0 x1).bind (Sum.elim (fun y0=>
 k y0.fst) (fun y1=>
 (Z63 y1.snd (↑y1.snd.length:Int) (0:Int) y1.fst y1.snd).bind (Sum.elim (fun y2=>
 k y2) (fun y3=>
 k Bool.true))))
theorem c_Z64_bind {R:Type} (x0 x1:List D) (k:Bool→Option R):c_Z64 x0 x1 k=(c_Z64 x0 x1 some).bind k:=by
 unfold c_Z64
 repeat' first
  | exact Jy
  | exact Jx
  | exact Jw
  | apply Jt
  | apply Ju
  | apply Jz
  | (apply Jv; intro _)
  | intro _
def Z64 (x0 x1:List D):Option (Bool):=c_Z64 x0 x1 some
def e_Z64:Ent:=⟨97,[.agg [.rd (.struct [.int .i64,.int .i64]),.rd (.struct [.int .i64,.int .i64])]],[(.bool,[.undef])],fun _ ds k=>dL (fun x0 ds=>dL (fun x1 ds=>dE ((Z64 x0 x1).bind (fun y=>k 0 [.B y])) ds) ds) ds⟩
theorem q_Z64 (x0 x1:List D):JR (Jp []) (Jq [e_Z53,e_Z63]) A 97 Try.f97 (Sh.mks e_Z64.sh [.L x0,.L x1]).1 (fun v os=>some (v,os))=c_Z64 x0 x1 (fun y=>JT e_Z64 0 [.B y]):=by kernel_rfl
theorem e_Z64_ok:e_Z64.ok Try.prog A:=by
 intro R ds k r h
 unfold e_Z64 at h
 obtain ⟨_,_,rfl,h⟩:=Ja h
 obtain ⟨_,_,rfl,h⟩:=Ja h
 obtain ⟨rfl,hE⟩:=Je h
 obtain ⟨y,hy,hk⟩:=Jf hE
 exact ⟨0,_,_,_,hk,rfl,JU px (fx:=⟨Try.func97,by kernel_rfl,by kernel_rfl⟩) Jm (Jo e_Z53_ok (Jo e_Z63_ok Jn)) ((q_Z64 ..).trans ((c_Z64_bind ..).trans (Jg hy)))⟩

/-!-/
abbrev T_Z65:=Int→Int→Int→List D→Option (List D)
def c_Z65 {R:Type} (F:T_Z65) (x0 x1 x2:Int) (x3:List D) (k:List D→Option R):Option R:=
 bif decide (x2<x1) then
 if 0≤x0∧x0≤x0∧x0≤(4294967296:Int) then
 if 0≤x2∧x2<(↑x3.length:Int) then
 if x2.toNat+1≤x3.length then
 (F x0 x1 (IntKind.i64.wrap (x2+1)) (x3.set x2.toNat (D.node (List.replicate x0.toNat (D.bool Bool.false))))).bind k
 else
 none
 else
 none
 else
 none
 else
 k x3
theorem c_Z65_bind {R:Type} (F:T_Z65) (x0 x1 x2:Int) (x3:List D) (k:List D→Option R):c_Z65 F x0 x1 x2 x3 k=(c_Z65 F x0 x1 x2 x3 some).bind k:=by
 unfold c_Z65
 repeat' first
  | exact Jy
  | exact Jx
  | exact Jw
  | apply Jt
  | apply Ju
  | apply Jz
  | (apply Jv; intro _)
  | intro _
def n_Z65:Nat→T_Z65
 | 0,_,_,_,_=>none
 | n+1,x0,x1,x2,x3=>c_Z65 (n_Z65 n) x0 x1 x2 x3 some
noncomputable def Z65 (x0 x1 x2:Int) (x3:List D):Option (List D):=ev (fun n=>n_Z65 n x0 x1 x2 x3)
def m_Z65 (F:T_Z65):JA:=⟨3,⟨(.int .i64::.undef::.undef::.full 1000 [] (.slice (.bool))::uu 4 (.int .i64::.int .i64::uu 9 ([]))),[(1000,.own (.slice (.bool)))]⟩,[(.exit 0,⟨(.undef::.undef::.undef::.full 1000 [] (.slice (.bool))::uu 15 ([])),[(1000,.own (.slice (.bool)))]⟩)],fun _ ds k=>dI (fun x0 ds=>dI (fun x1 ds=>dI (fun x2 ds=>dL (fun x3 ds=>dE ((F x0 x1 x2 x3).bind (fun y=>k 0 [.L y])) ds) ds) ds) ds) ds⟩
theorem q_Z65 (F:T_Z65) (x0 x1 x2:Int) (x3:List D):JZ (Jp []) (Jq [m_Z65 F]) A 198 (Jj (Jh Try.f198) 3) ((m_Z65 F).sh.mk' [.I x0,.I x1,.I x2,.L x3]) (fun e σ'=>some (e,σ'))=c_Z65 F x0 x1 x2 x3 (fun y=>some (.exit 0,SSt.mk' ⟨(.undef::.undef::.undef::.full 1000 [] (.slice (.bool))::uu 15 ([])),[(1000,.own (.slice (.bool)))]⟩ [.L y])):=by kernel_rfl
theorem m_Z65_ok:∀ n,(m_Z65 (n_Z65 n)).ok Try.prog (Jj (Jh Try.f198) 3):=by
 intro n
 induction n with
 | zero=>
  intro R ds k r h
  unfold m_Z65 at h
  obtain ⟨_,_,rfl,h⟩:=Jb h
  obtain ⟨_,_,rfl,h⟩:=Jb h
  obtain ⟨_,_,rfl,h⟩:=Jb h
  obtain ⟨_,_,rfl,h⟩:=Ja h
  obtain ⟨rfl,hE⟩:=Je h
  obtain ⟨y,hy,hk⟩:=Jf hE
  cases hy
 | succ n ih=>
  intro R ds k r h
  unfold m_Z65 at h
  obtain ⟨_,_,rfl,h⟩:=Jb h
  obtain ⟨_,_,rfl,h⟩:=Jb h
  obtain ⟨_,_,rfl,h⟩:=Jb h
  obtain ⟨_,_,rfl,h⟩:=Ja h
  obtain ⟨rfl,hE⟩:=Je h
  obtain ⟨y,hy,hk⟩:=Jf hE
  exact ⟨0,_,_,_,hk,rfl,JO px (fx:=⟨Try.func198,by kernel_rfl,by kernel_rfl⟩) Jm (Jo ih Jn) (by kernel_rfl) ((q_Z65 ..).trans ((c_Z65_bind ..).trans (Jg hy)))⟩
noncomputable def e_Z65:JA:=m_Z65 (Z65)
theorem e_Z65_ok:(e_Z65).ok Try.prog (Jj (Jh Try.f198) 3):=by
 intro R ds k r h
 unfold e_Z65 m_Z65 at h
 obtain ⟨_,_,rfl,h⟩:=Jb h
 obtain ⟨_,_,rfl,h⟩:=Jb h
 obtain ⟨_,_,rfl,h⟩:=Jb h
 obtain ⟨_,_,rfl,h⟩:=Ja h
 obtain ⟨rfl,hE⟩:=Je h
 obtain ⟨y,hy,hk⟩:=Jf hE
 obtain ⟨n,hn⟩:=J4 hy
 exact m_Z65_ok n R _ k r ((Jg hn).trans hk)

/-!-/
def c_Z66 {R:Type} (x0:Int) (k:List D→Option R):Option R:=
 if 0≤x0∧x0≤x0∧x0≤(4294967296:Int) then
 (Z65 x0 (↑(List.replicate x0.toNat (D.node [])).length:Int) (0:Int) (List.replicate x0.toNat (D.node []))).bind (fun y0=>
 k y0)
 else
 none
theorem c_Z66_bind {R:Type} (x0:Int) (k:List D→Option R):c_Z66 x0 k=(c_Z66 x0 some).bind k:=by
 unfold c_Z66
 repeat' first
  | exact Jy
  | exact Jx
  | exact Jw
  | apply Jt
  | apply Ju
  | apply Jz
  | (apply Jv; intro _)
  | intro _
def Z66 (x0:Int):Option (List D):=c_Z66 x0 some
def e_Z66:Ent:=⟨198,[.int .i64],[(.own (.slice (.bool)),[.undef])],fun _ ds k=>dI (fun x0 ds=>dE ((Z66 x0).bind (fun y=>k 0 [.L y])) ds) ds⟩
theorem q_Z66 (x0:Int):JR (Jp []) (Jq [e_Z65]) A 198 Try.f198 (Sh.mks e_Z66.sh [.I x0]).1 (fun v os=>some (v,os))=c_Z66 x0 (fun y=>JT e_Z66 0 [.L y]):=by kernel_rfl
theorem e_Z66_ok:e_Z66.ok Try.prog A:=by
 intro R ds k r h
 unfold e_Z66 at h
 obtain ⟨_,_,rfl,h⟩:=Jb h
 obtain ⟨rfl,hE⟩:=Je h
 obtain ⟨y,hy,hk⟩:=Jf hE
 exact ⟨0,_,_,_,hk,rfl,JU px (fx:=⟨Try.func198,by kernel_rfl,by kernel_rfl⟩) Jm (Jo e_Z65_ok Jn) ((q_Z66 ..).trans ((c_Z66_bind ..).trans (Jg hy)))⟩

/-!-/
abbrev T_Z67:=Int→List D→Int→Int→List D→List D→List D→List D→List D→Option (Int×List D×List D×List D×List D×List D)
def c_Z67 {R:Type} (F:T_Z67) (x0:Int) (x1:List D) (x2 x3:Int) (x4 x5 x6 x7 x8:List D) (k:Int×List D×List D×List D×List D×List D→Option R):Option R:=
 bif decide (x3<x2) then
 if 0≤x3∧x3<(↑x1.length:Int) then
 if x6.length+[D.int ((x1.getD x3.toNat (D.int 0)).fld (0:Nat)).toInt].length≤(4294967296:Nat) then
 (F x0 x1 x2 (IntKind.i64.wrap (x3+1)) x4 x5 (x6++[D.int ((x1.getD x3.toNat (D.int 0)).fld (0:Nat)).toInt]) x7 x8).bind k
 else
 none
 else
 none
 else
 k (x0,x4,x5,x6,x7,x8)
theorem c_Z67_bind {R:Type} (F:T_Z67) (x0:Int) (x1:List D) (x2 x3:Int) (x4 x5 x6 x7 x8:List D) (k:Int×List D×List D×List D×List D×List D→Option R):c_Z67 F x0 x1 x2 x3 x4 x5 x6 x7 x8 k=(c_Z67 F x0 x1 x2 x3 x4 x5 x6 x7 x8 some).bind k:=by
 unfold c_Z67
 repeat' first
  | exact Jy
  | exact Jx
  | exact Jw
  | apply Jt
  | apply Ju
  | apply Jz
  | (apply Jv; intro _)
  | intro _
def n_Z67:Nat→T_Z67
 | 0,_,_,_,_,_,_,_,_,_=>none
 | n+1,x0,x1,x2,x3,x4,x5,x6,x7,x8=>c_Z67 (n_Z67 n) x0 x1 x2 x3 x4 x5 x6 x7 x8 some
noncomputable def Z67 (x0:Int) (x1:List D) (x2 x3:Int) (x4 x5 x6 x7 x8:List D):Option (Int×List D×List D×List D×List D×List D):=ev (fun n=>n_Z67 n x0 x1 x2 x3 x4 x5 x6 x7 x8)
def m_Z67 (F:T_Z67):JA:=⟨4,⟨(.undef::.ptr 1000 [0]::.undef::.int .i64::.ptr 1001 [0]::uu 19 (.rd (.struct [.int .i64,.int .i64])::.int .i64::.int .i64::uu 108 ([]))),[(1000,.obox (.agg [.rd (.struct [.int .i64,.int .i64]),.rd (.struct [.int .i64,.int .i64])])),(1001,.obox (.agg [.full 1002 [] (.int .i64),.full 1003 [] (.slice (.bool)),.full 1004 [] (.slice (.bool))])),(1002,.own (.int .i64)),(1003,.own (.slice (.bool))),(1004,.own (.slice (.bool)))]⟩,[(.exit 0,⟨(.undef::.ptr 1000 [0]::.undef::.int .i64::.ptr 1001 [0]::uu 130 ([])),[(1000,.obox (.agg [.rd (.struct [.int .i64,.int .i64]),.rd (.struct [.int .i64,.int .i64])])),(1001,.obox (.agg [.full 1002 [] (.int .i64),.full 1003 [] (.slice (.bool)),.full 1004 [] (.slice (.bool))])),(1002,.own (.int .i64)),(1003,.own (.slice (.bool))),(1004,.own (.slice (.bool)))]⟩)],fun _ ds k=>dI (fun x0 ds=>dL (fun x1 ds=>dI (fun x2 ds=>dI (fun x3 ds=>dL (fun x4 ds=>dL (fun x5 ds=>dL (fun x6 ds=>dL (fun x7 ds=>dL (fun x8 ds=>dE ((F x0 x1 x2 x3 x4 x5 x6 x7 x8).bind (fun y=>k 0 [.I y.1,.L y.2.1,.L y.2.2.1,.L y.2.2.2.1,.L y.2.2.2.2.1,.L y.2.2.2.2.2])) ds) ds) ds) ds) ds) ds) ds) ds) ds) ds⟩
theorem q_Z67 (F:T_Z67) (x0:Int) (x1:List D) (x2 x3:Int) (x4 x5 x6 x7 x8:List D):JZ (Jp []) (Jq [m_Z67 F]) A 125 (Jj (Jh Try.f125) 4) ((m_Z67 F).sh.mk' [.I x0,.L x1,.I x2,.I x3,.L x4,.L x5,.L x6,.L x7,.L x8]) (fun e σ'=>some (e,σ'))=c_Z67 F x0 x1 x2 x3 x4 x5 x6 x7 x8 (fun y=>some (.exit 0,SSt.mk' ⟨(.undef::.ptr 1000 [0]::.undef::.int .i64::.ptr 1001 [0]::uu 130 ([])),[(1000,.obox (.agg [.rd (.struct [.int .i64,.int .i64]),.rd (.struct [.int .i64,.int .i64])])),(1001,.obox (.agg [.full 1002 [] (.int .i64),.full 1003 [] (.slice (.bool)),.full 1004 [] (.slice (.bool))])),(1002,.own (.int .i64)),(1003,.own (.slice (.bool))),(1004,.own (.slice (.bool)))]⟩ [.I y.1,.L y.2.1,.L y.2.2.1,.L y.2.2.2.1,.L y.2.2.2.2.1,.L y.2.2.2.2.2])):=by kernel_rfl
theorem m_Z67_ok:∀ n,(m_Z67 (n_Z67 n)).ok Try.prog (Jj (Jh Try.f125) 4):=by
 intro n
 induction n with
 | zero=>
  intro R ds k r h
  unfold m_Z67 at h
  obtain ⟨_,_,rfl,h⟩:=Jb h
  obtain ⟨_,_,rfl,h⟩:=Ja h
  obtain ⟨_,_,rfl,h⟩:=Jb h
  obtain ⟨_,_,rfl,h⟩:=Jb h
  obtain ⟨_,_,rfl,h⟩:=Ja h
  obtain ⟨_,_,rfl,h⟩:=Ja h
  obtain ⟨_,_,rfl,h⟩:=Ja h
  obtain ⟨_,_,rfl,h⟩:=Ja h
  obtain ⟨_,_,rfl,h⟩:=Ja h
  obtain ⟨rfl,hE⟩:=Je h
  obtain ⟨y,hy,hk⟩:=Jf hE
  cases hy
 | succ n ih=>
  intro R ds k r h
  unfold m_Z67 at h
  obtain ⟨_,_,rfl,h⟩:=Jb h
  obtain ⟨_,_,rfl,h⟩:=Ja h
  obtain ⟨_,_,rfl,h⟩:=Jb h
  obtain ⟨_,_,rfl,h⟩:=Jb h
  obtain ⟨_,_,rfl,h⟩:=Ja h
  obtain ⟨_,_,rfl,h⟩:=Ja h
  obtain ⟨_,_,rfl,h⟩:=Ja h
  obtain ⟨_,_,rfl,h⟩:=Ja h
  obtain ⟨_,_,rfl,h⟩:=Ja h
  obtain ⟨rfl,hE⟩:=Je h
  obtain ⟨y,hy,hk⟩:=Jf hE
  exact ⟨0,_,_,_,hk,rfl,JO px (fx:=⟨Try.func125,by kernel_rfl,by kernel_rfl⟩) Jm (Jo ih Jn) (by kernel_rfl) ((q_Z67 ..).trans ((c_Z67_bind ..).trans (Jg hy)))⟩
noncomputable def e_Z67:JA:=m_Z67 (Z67)
theorem e_Z67_ok:(e_Z67).ok Try.prog (Jj (Jh Try.f125) 4):=by
 intro R ds k r h
 unfold e_Z67 m_Z67 at h
 obtain ⟨_,_,rfl,h⟩:=Jb h
 obtain ⟨_,_,rfl,h⟩:=Ja h
 obtain ⟨_,_,rfl,h⟩:=Jb h
 obtain ⟨_,_,rfl,h⟩:=Jb h
 obtain ⟨_,_,rfl,h⟩:=Ja h
 obtain ⟨_,_,rfl,h⟩:=Ja h
 obtain ⟨_,_,rfl,h⟩:=Ja h
 obtain ⟨_,_,rfl,h⟩:=Ja h
 obtain ⟨_,_,rfl,h⟩:=Ja h
 obtain ⟨rfl,hE⟩:=Je h
 obtain ⟨y,hy,hk⟩:=Jf hE
 obtain ⟨n,hn⟩:=J4 hy
 exact m_Z67_ok n R _ k r ((Jg hn).trans hk)

/-!-/
abbrev T_Z68:=Int→List D→Int→Int→List D→List D→List D→List D→List D→Option ((Int×List D×List D×List D×List D×List D)⊕(Int×List D×List D×List D×List D×List D))
def c_Z68 {R:Type} (F:T_Z68) (x0:Int) (x1:List D) (x2 x3:Int) (x4 x5 x6 x7 x8:List D) (k:(Int×List D×List D×List D×List D×List D)⊕(Int×List D×List D×List D×List D×List D)→Option R):Option R:=
 bif decide (x3<x2) then
 if 0≤x3∧x3<(↑x1.length:Int) then
 if x6.length+[D.int ((x1.getD x3.toNat (D.int 0)).fld (0:Nat)).toInt].length≤(4294967296:Nat) then
 (Z67 x0 x1 x2 (IntKind.i64.wrap (x3+1)) x4 x5 (x6++[D.int ((x1.getD x3.toNat (D.int 0)).fld (0:Nat)).toInt]) x7 x8).bind (fun y0=>
 k (.inl (y0.fst,y0.snd.fst,y0.snd.snd.fst,y0.snd.snd.snd.fst,y0.snd.snd.snd.snd.fst,y0.snd.snd.snd.snd.snd)))
 else
 none
 else
 none
 else
 k (.inr (x0,x4,x5,x6,x7,x8))
theorem c_Z68_bind {R:Type} (F:T_Z68) (x0:Int) (x1:List D) (x2 x3:Int) (x4 x5 x6 x7 x8:List D) (k:(Int×List D×List D×List D×List D×List D)⊕(Int×List D×List D×List D×List D×List D)→Option R):c_Z68 F x0 x1 x2 x3 x4 x5 x6 x7 x8 k=(c_Z68 F x0 x1 x2 x3 x4 x5 x6 x7 x8 some).bind k:=by
 unfold c_Z68
 repeat' first
  | exact Jy
  | exact Jx
  | exact Jw
  | apply Jt
  | apply Ju
  | apply Jz
  | (apply Jv; intro _)
  | intro _
def n_Z68:Nat→T_Z68
 | 0,_,_,_,_,_,_,_,_,_=>none
 | n+1,x0,x1,x2,x3,x4,x5,x6,x7,x8=>c_Z68 (n_Z68 n) x0 x1 x2 x3 x4 x5 x6 x7 x8 some
noncomputable def Z68 (x0:Int) (x1:List D) (x2 x3:Int) (x4 x5 x6 x7 x8:List D):Option ((Int×List D×List D×List D×List D×List D)⊕(Int×List D×List D×List D×List D×List D)):=ev (fun n=>n_Z68 n x0 x1 x2 x3 x4 x5 x6 x7 x8)
def m_Z68 (F:T_Z68):JA:=⟨4,⟨(.undef::.ptr 1000 [0]::.undef::.int .i64::.ptr 1001 [0]::uu 19 (.rd (.struct [.int .i64,.int .i64])::.int .i64::.int .i64::uu 108 ([]))),[(1000,.obox (.agg [.rd (.struct [.int .i64,.int .i64]),.rd (.struct [.int .i64,.int .i64])])),(1001,.obox (.agg [.own (.int .i64),.full 1002 [] (.slice (.bool)),.full 1003 [] (.slice (.bool))])),(1002,.own (.slice (.bool))),(1003,.own (.slice (.bool)))]⟩,[(.exit 0,⟨(.undef::.ptr 1000 [0]::.undef::.int .i64::.ptr 1001 [0]::uu 130 ([])),[(1000,.obox (.agg [.rd (.struct [.int .i64,.int .i64]),.rd (.struct [.int .i64,.int .i64])])),(1001,.obox (.agg [.full 1002 [] (.int .i64),.full 1003 [] (.slice (.bool)),.full 1004 [] (.slice (.bool))])),(1002,.own (.int .i64)),(1003,.own (.slice (.bool))),(1004,.own (.slice (.bool)))]⟩),(.exit 0,⟨(.undef::.ptr 1000 [0]::.undef::.int .i64::.ptr 1001 [0]::uu 130 ([])),[(1000,.obox (.agg [.rd (.struct [.int .i64,.int .i64]),.rd (.struct [.int .i64,.int .i64])])),(1001,.obox (.agg [.own (.int .i64),.full 1002 [] (.slice (.bool)),.full 1003 [] (.slice (.bool))])),(1002,.own (.slice (.bool))),(1003,.own (.slice (.bool)))]⟩)],fun _ ds k=>dI (fun x0 ds=>dL (fun x1 ds=>dI (fun x2 ds=>dI (fun x3 ds=>dL (fun x4 ds=>dL (fun x5 ds=>dL (fun x6 ds=>dL (fun x7 ds=>dL (fun x8 ds=>dE ((F x0 x1 x2 x3 x4 x5 x6 x7 x8).bind (Sum.elim (fun y=>k 0 [.I y.1,.L y.2.1,.L y.2.2.1,.L y.2.2.2.1,.L y.2.2.2.2.1,.L y.2.2.2.2.2]) (fun y=>k 1 [.I y.1,.L y.2.1,.L y.2.2.1,.L y.2.2.2.1,.L y.2.2.2.2.1,.L y.2.2.2.2.2]))) ds) ds) ds) ds) ds) ds) ds) ds) ds) ds⟩
theorem q_Z68 (F:T_Z68) (x0:Int) (x1:List D) (x2 x3:Int) (x4 x5 x6 x7 x8:List D):JZ (Jp []) (Jq [m_Z68 F,e_Z67]) A 125 (Jj (Jh Try.f125) 4) ((m_Z68 F).sh.mk' [.I x0,.L x1,.I x2,.I x3,.L x4,.L x5,.L x6,.L x7,.L x8]) (fun e σ'=>some (e,σ'))=c_Z68 F x0 x1 x2 x3 x4 x5 x6 x7 x8 (Sum.elim (fun y=>some (.exit 0,SSt.mk' ⟨(.undef::.ptr 1000 [0]::.undef::.int .i64::.ptr 1001 [0]::uu 130 ([])),[(1000,.obox (.agg [.rd (.struct [.int .i64,.int .i64]),.rd (.struct [.int .i64,.int .i64])])),(1001,.obox (.agg [.full 1002 [] (.int .i64),.full 1003 [] (.slice (.bool)),.full 1004 [] (.slice (.bool))])),(1002,.own (.int .i64)),(1003,.own (.slice (.bool))),(1004,.own (.slice (.bool)))]⟩ [.I y.1,.L y.2.1,.L y.2.2.1,.L y.2.2.2.1,.L y.2.2.2.2.1,.L y.2.2.2.2.2])) (fun y=>some (.exit 0,SSt.mk' ⟨(.undef::.ptr 1000 [0]::.undef::.int .i64::.ptr 1001 [0]::uu 130 ([])),[(1000,.obox (.agg [.rd (.struct [.int .i64,.int .i64]),.rd (.struct [.int .i64,.int .i64])])),(1001,.obox (.agg [.own (.int .i64),.full 1002 [] (.slice (.bool)),.full 1003 [] (.slice (.bool))])),(1002,.own (.slice (.bool))),(1003,.own (.slice (.bool)))]⟩ [.I y.1,.L y.2.1,.L y.2.2.1,.L y.2.2.2.1,.L y.2.2.2.2.1,.L y.2.2.2.2.2]))):=by kernel_rfl
theorem m_Z68_ok:∀ n,(m_Z68 (n_Z68 n)).ok Try.prog (Jj (Jh Try.f125) 4):=by
 intro n
 induction n with
 | zero=>
  intro R ds k r h
  unfold m_Z68 at h
  obtain ⟨_,_,rfl,h⟩:=Jb h
  obtain ⟨_,_,rfl,h⟩:=Ja h
  obtain ⟨_,_,rfl,h⟩:=Jb h
  obtain ⟨_,_,rfl,h⟩:=Jb h
  obtain ⟨_,_,rfl,h⟩:=Ja h
  obtain ⟨_,_,rfl,h⟩:=Ja h
  obtain ⟨_,_,rfl,h⟩:=Ja h
  obtain ⟨_,_,rfl,h⟩:=Ja h
  obtain ⟨_,_,rfl,h⟩:=Ja h
  obtain ⟨rfl,hE⟩:=Je h
  obtain ⟨y,hy,hk⟩:=Jf hE
  cases hy
 | succ n ih=>
  intro R ds k r h
  unfold m_Z68 at h
  obtain ⟨_,_,rfl,h⟩:=Jb h
  obtain ⟨_,_,rfl,h⟩:=Ja h
  obtain ⟨_,_,rfl,h⟩:=Jb h
  obtain ⟨_,_,rfl,h⟩:=Jb h
  obtain ⟨_,_,rfl,h⟩:=Ja h
  obtain ⟨_,_,rfl,h⟩:=Ja h
  obtain ⟨_,_,rfl,h⟩:=Ja h
  obtain ⟨_,_,rfl,h⟩:=Ja h
  obtain ⟨_,_,rfl,h⟩:=Ja h
  obtain ⟨rfl,hE⟩:=Je h
  obtain ⟨y,hy,hk⟩:=Jf hE
  cases y with
  | inl y=>
   exact ⟨0,_,_,_,hk,rfl,JO px (fx:=⟨Try.func125,by kernel_rfl,by kernel_rfl⟩) Jm (Jo ih (Jo e_Z67_ok Jn)) (by kernel_rfl) ((q_Z68 ..).trans ((c_Z68_bind ..).trans (Jg hy)))⟩
  | inr y=>
   exact ⟨1,_,_,_,hk,rfl,JO px (fx:=⟨Try.func125,by kernel_rfl,by kernel_rfl⟩) Jm (Jo ih (Jo e_Z67_ok Jn)) (by kernel_rfl) ((q_Z68 ..).trans ((c_Z68_bind ..).trans (Jg hy)))⟩
noncomputable def e_Z68:JA:=m_Z68 (Z68)
theorem e_Z68_ok:(e_Z68).ok Try.prog (Jj (Jh Try.f125) 4):=by
 intro R ds k r h
 unfold e_Z68 m_Z68 at h
 obtain ⟨_,_,rfl,h⟩:=Jb h
 obtain ⟨_,_,rfl,h⟩:=Ja h
 obtain ⟨_,_,rfl,h⟩:=Jb h
 obtain ⟨_,_,rfl,h⟩:=Jb h
 obtain ⟨_,_,rfl,h⟩:=Ja h
 obtain ⟨_,_,rfl,h⟩:=Ja h
 obtain ⟨_,_,rfl,h⟩:=Ja h
 obtain ⟨_,_,rfl,h⟩:=Ja h
 obtain ⟨_,_,rfl,h⟩:=Ja h
 obtain ⟨rfl,hE⟩:=Je h
 obtain ⟨y,hy,hk⟩:=Jf hE
 obtain ⟨n,hn⟩:=J4 hy
 exact m_Z68_ok n R _ k r ((Jg hn).trans hk)

/-!-/
abbrev T_Z69:=Int→List D→Int→Int→List D→List D→List D→List D→List D→Option (Int×List D×List D×List D)
def c_Z69 {R:Type} (F:T_Z69) (x0:Int) (x1:List D) (x2 x3:Int) (x4 x5 x6 x7 x8:List D) (k:Int×List D×List D×List D→Option R):Option R:=
 bif decide (x3<x2) then
 if 0≤x3∧x3<(↑x1.length:Int) then
 (Z57 x4 x5 (((x1.getD x3.toNat (D.int 0)).fld (0:Nat)).toInt)).bind (fun y0=>
 (Z57 x4 x5 (((x1.getD x3.toNat (D.int 0)).fld (1:Nat)).toInt)).bind (fun y1=>
 if 0≤y0∧y0<(↑x7.length:Int) then
 if y0.toNat+1≤x7.length then
 if y0.toNat+1≤x7.length then
 if 0≤y1∧y1<(↑(x7.getD y0.toNat (D.int 0)).items.length:Int) then
 if y0.toNat+1≤x7.length then
 if y1.toNat+1≤(x7.getD y0.toNat (D.int 0)).items.length then
 if 0≤y0∧y0<(↑x8.length:Int) then
 if y0.toNat+1≤x8.length then
 if y0.toNat+1≤x8.length then
 if 0≤y1∧y1<(↑(x8.getD y0.toNat (D.int 0)).items.length:Int) then
 if y0.toNat+1≤x8.length then
 if y1.toNat+1≤(x8.getD y0.toNat (D.int 0)).items.length then
 (F x0 x1 x2 (IntKind.i64.wrap (x3+1)) x4 x5 x6 (x7.set y0.toNat (D.node ((x7.getD y0.toNat (D.int 0)).items.set y1.toNat (D.bool Bool.true)))) (x8.set y0.toNat (D.node ((x8.getD y0.toNat (D.int 0)).items.set y1.toNat (D.bool Bool.true))))).bind k
 else
 none
 else
 none
 else
 none
 else
 none
 else
 none
 else
 none
 else
 none
 else
 none
 else
 none
 else
 none
 else
 none
 else
 none))
 else
 none
 else
 k (x0,x6,x7,x8)
theorem c_Z69_bind {R:Type} (F:T_Z69) (x0:Int) (x1:List D) (x2 x3:Int) (x4 x5 x6 x7 x8:List D) (k:Int×List D×List D×List D→Option R):c_Z69 F x0 x1 x2 x3 x4 x5 x6 x7 x8 k=(c_Z69 F x0 x1 x2 x3 x4 x5 x6 x7 x8 some).bind k:=by
 unfold c_Z69
 repeat' first
  | exact Jy
  | exact Jx
  | exact Jw
  | apply Jt
  | apply Ju
  | apply Jz
  | (apply Jv; intro _)
  | intro _
def n_Z69:Nat→T_Z69
 | 0,_,_,_,_,_,_,_,_,_=>none
 | n+1,x0,x1,x2,x3,x4,x5,x6,x7,x8=>c_Z69 (n_Z69 n) x0 x1 x2 x3 x4 x5 x6 x7 x8 some
noncomputable def Z69 (x0:Int) (x1:List D) (x2 x3:Int) (x4 x5 x6 x7 x8:List D):Option (Int×List D×List D×List D):=ev (fun n=>n_Z69 n x0 x1 x2 x3 x4 x5 x6 x7 x8)
def m_Z69 (F:T_Z69):JA:=⟨9,⟨(.undef::.ptr 1000 [0]::.undef::.int .i64::.ptr 1001 [0]::uu 38 (.rd (.struct [.int .i64,.int .i64])::.int .i64::.int .i64::uu 89 ([]))),[(1000,.obox (.agg [.rd (.struct [.int .i64,.int .i64]),.rd (.struct [.int .i64,.int .i64])])),(1001,.obox (.agg [.full 1002 [] (.int .i64),.full 1003 [] (.slice (.bool)),.full 1004 [] (.slice (.bool))])),(1002,.own (.int .i64)),(1003,.own (.slice (.bool))),(1004,.own (.slice (.bool)))]⟩,[(.exit 2,⟨(.undef::.undef::.undef::.int .i64::.ptr 1000 [0]::uu 130 ([])),[(1000,.obox (.agg [.full 1001 [] (.int .i64),.full 1002 [] (.slice (.bool)),.full 1003 [] (.slice (.bool))])),(1001,.own (.int .i64)),(1002,.own (.slice (.bool))),(1003,.own (.slice (.bool)))]⟩)],fun _ ds k=>dI (fun x0 ds=>dL (fun x1 ds=>dI (fun x2 ds=>dI (fun x3 ds=>dL (fun x4 ds=>dL (fun x5 ds=>dL (fun x6 ds=>dL (fun x7 ds=>dL (fun x8 ds=>dE ((F x0 x1 x2 x3 x4 x5 x6 x7 x8).bind (fun y=>k 0 [.I y.1,.L y.2.1,.L y.2.2.1,.L y.2.2.2])) ds) ds) ds) ds) ds) ds) ds) ds) ds) ds⟩
theorem q_Z69 (F:T_Z69) (x0:Int) (x1:List D) (x2 x3:Int) (x4 x5 x6 x7 x8:List D):JZ (Jp [e_Z57]) (Jq [m_Z69 F]) A 125 (Jj (Jh Try.f125) 9) ((m_Z69 F).sh.mk' [.I x0,.L x1,.I x2,.I x3,.L x4,.L x5,.L x6,.L x7,.L x8]) (fun e σ'=>some (e,σ'))=c_Z69 F x0 x1 x2 x3 x4 x5 x6 x7 x8 (fun y=>some (.exit 2,SSt.mk' ⟨(.undef::.undef::.undef::.int .i64::.ptr 1000 [0]::uu 130 ([])),[(1000,.obox (.agg [.full 1001 [] (.int .i64),.full 1002 [] (.slice (.bool)),.full 1003 [] (.slice (.bool))])),(1001,.own (.int .i64)),(1002,.own (.slice (.bool))),(1003,.own (.slice (.bool)))]⟩ [.I y.1,.L y.2.1,.L y.2.2.1,.L y.2.2.2])):=by kernel_rfl
theorem m_Z69_ok:∀ n,(m_Z69 (n_Z69 n)).ok Try.prog (Jj (Jh Try.f125) 9):=by
 intro n
 induction n with
 | zero=>
  intro R ds k r h
  unfold m_Z69 at h
  obtain ⟨_,_,rfl,h⟩:=Jb h
  obtain ⟨_,_,rfl,h⟩:=Ja h
  obtain ⟨_,_,rfl,h⟩:=Jb h
  obtain ⟨_,_,rfl,h⟩:=Jb h
  obtain ⟨_,_,rfl,h⟩:=Ja h
  obtain ⟨_,_,rfl,h⟩:=Ja h
  obtain ⟨_,_,rfl,h⟩:=Ja h
  obtain ⟨_,_,rfl,h⟩:=Ja h
  obtain ⟨_,_,rfl,h⟩:=Ja h
  obtain ⟨rfl,hE⟩:=Je h
  obtain ⟨y,hy,hk⟩:=Jf hE
  cases hy
 | succ n ih=>
  intro R ds k r h
  unfold m_Z69 at h
  obtain ⟨_,_,rfl,h⟩:=Jb h
  obtain ⟨_,_,rfl,h⟩:=Ja h
  obtain ⟨_,_,rfl,h⟩:=Jb h
  obtain ⟨_,_,rfl,h⟩:=Jb h
  obtain ⟨_,_,rfl,h⟩:=Ja h
  obtain ⟨_,_,rfl,h⟩:=Ja h
  obtain ⟨_,_,rfl,h⟩:=Ja h
  obtain ⟨_,_,rfl,h⟩:=Ja h
  obtain ⟨_,_,rfl,h⟩:=Ja h
  obtain ⟨rfl,hE⟩:=Je h
  obtain ⟨y,hy,hk⟩:=Jf hE
  exact ⟨0,_,_,_,hk,rfl,JO px (fx:=⟨Try.func125,by kernel_rfl,by kernel_rfl⟩) (Jr e_Z57_ok Jm) (Jo ih Jn) (by kernel_rfl) ((q_Z69 ..).trans ((c_Z69_bind ..).trans (Jg hy)))⟩
noncomputable def e_Z69:JA:=m_Z69 (Z69)
theorem e_Z69_ok:(e_Z69).ok Try.prog (Jj (Jh Try.f125) 9):=by
 intro R ds k r h
 unfold e_Z69 m_Z69 at h
 obtain ⟨_,_,rfl,h⟩:=Jb h
 obtain ⟨_,_,rfl,h⟩:=Ja h
 obtain ⟨_,_,rfl,h⟩:=Jb h
 obtain ⟨_,_,rfl,h⟩:=Jb h
 obtain ⟨_,_,rfl,h⟩:=Ja h
 obtain ⟨_,_,rfl,h⟩:=Ja h
 obtain ⟨_,_,rfl,h⟩:=Ja h
 obtain ⟨_,_,rfl,h⟩:=Ja h
 obtain ⟨_,_,rfl,h⟩:=Ja h
 obtain ⟨rfl,hE⟩:=Je h
 obtain ⟨y,hy,hk⟩:=Jf hE
 obtain ⟨n,hn⟩:=J4 hy
 exact m_Z69_ok n R _ k r ((Jg hn).trans hk)

/-!-/
abbrev T_Z70:=Int→Int→Int→Int→Int→Int→Int→Int→Int→List D→List D→List D→Option (Int×Int×Int×Int×Int×Int×List D×List D×List D)
def c_Z70 {R:Type} (F:T_Z70) (x0 x1 x2 x3 x4 x5 x6 x7 x8:Int) (x9 x10 x11:List D) (k:Int×Int×Int×Int×Int×Int×List D×List D×List D→Option R):Option R:=
 bif decide (x8<x7) then
 if 0≤x2∧x2<(↑x11.length:Int) then
 if x2.toNat+1≤x11.length then
 if 0≤x2∧x2<(↑x11.length:Int) then
 if x2.toNat+1≤x11.length then
 if x2.toNat+1≤x11.length then
 if 0≤x8∧x8<(↑(x11.getD x2.toNat (D.int 0)).items.length:Int) then
 if x2.toNat+1≤x11.length then
 if x8.toNat+1≤(x11.getD x2.toNat (D.int 0)).items.length then
 bif ((x11.getD x2.toNat (D.int 0)).items.getD x8.toNat (D.int 0)).toBool then
 if x2.toNat+1≤x11.length then
 if 0≤x8∧x8<(↑(x11.getD x2.toNat (D.int 0)).items.length:Int) then
 if x2.toNat+1≤x11.length then
 if x8.toNat+1≤(x11.getD x2.toNat (D.int 0)).items.length then
 (F x0 x1 x2 x3 x4 x5 x6 x7 (IntKind.i64.wrap (x8+1)) x9 x10 (x11.set x2.toNat (D.node ((x11.getD x2.toNat (D.int 0)).items.set x8.toNat (D.bool Bool.true))))).bind k
 else
 none
 else
 none
 else
 none
 else
 none
 else
 if 0≤x2∧x2<(↑x11.length:Int) then
 if x2.toNat+1≤x11.length then
 if x2.toNat+1≤x11.length then
 if 0≤x1∧x1<(↑(x11.getD x2.toNat (D.int 0)).items.length:Int) then
 if x2.toNat+1≤x11.length then
 if x1.toNat+1≤(x11.getD x2.toNat (D.int 0)).items.length then
 bif ((x11.getD x2.toNat (D.int 0)).items.getD x1.toNat (D.int 0)).toBool then
 if 0≤x1∧x1<(↑x11.length:Int) then
 if x1.toNat+1≤x11.length then
 if x1.toNat+1≤x11.length then
 if 0≤x8∧x8<(↑(x11.getD x1.toNat (D.int 0)).items.length:Int) then
 if x1.toNat+1≤x11.length then
 if x8.toNat+1≤(x11.getD x1.toNat (D.int 0)).items.length then
 if x2.toNat+1≤x11.length then
 if 0≤x8∧x8<(↑(x11.getD x2.toNat (D.int 0)).items.length:Int) then
 if x2.toNat+1≤x11.length then
 if x8.toNat+1≤(x11.getD x2.toNat (D.int 0)).items.length then
 (F x0 x1 x2 x3 x4 x5 x6 x7 (IntKind.i64.wrap (x8+1)) x9 x10 (x11.set x2.toNat (D.node ((x11.getD x2.toNat (D.int 0)).items.set x8.toNat (D.bool ((x11.getD x1.toNat (D.int 0)).items.getD x8.toNat (D.int 0)).toBool))))).bind k
 else
 none
 else
 none
 else
 none
 else
 none
 else
 none
 else
 none
 else
 none
 else
 none
 else
 none
 else
 none
 else
 if x2.toNat+1≤x11.length then
 if 0≤x8∧x8<(↑(x11.getD x2.toNat (D.int 0)).items.length:Int) then
 if x2.toNat+1≤x11.length then
 if x8.toNat+1≤(x11.getD x2.toNat (D.int 0)).items.length then
 (F x0 x1 x2 x3 x4 x5 x6 x7 (IntKind.i64.wrap (x8+1)) x9 x10 (x11.set x2.toNat (D.node ((x11.getD x2.toNat (D.int 0)).items.set x8.toNat (D.bool Bool.false))))).bind k
 else
 none
 else
 none
 else
 none
 else
 none
 else
 none
 else
 none
 else
 none
 else
 none
 else
 none
 else
 none
 else
 none
 else
 none
 else
 none
 else
 none
 else
 none
 else
 none
 else
 none
 else
 none
 else
 k (x0,x1,x3,x4,x5,x6,x9,x10,x11)
theorem c_Z70_bind {R:Type} (F:T_Z70) (x0 x1 x2 x3 x4 x5 x6 x7 x8:Int) (x9 x10 x11:List D) (k:Int×Int×Int×Int×Int×Int×List D×List D×List D→Option R):c_Z70 F x0 x1 x2 x3 x4 x5 x6 x7 x8 x9 x10 x11 k=(c_Z70 F x0 x1 x2 x3 x4 x5 x6 x7 x8 x9 x10 x11 some).bind k:=by
 unfold c_Z70
 repeat' first
  | exact Jy
  | exact Jx
  | exact Jw
  | apply Jt
  | apply Ju
  | apply Jz
  | (apply Jv; intro _)
  | intro _
def n_Z70:Nat→T_Z70
 | 0,_,_,_,_,_,_,_,_,_,_,_,_=>none
 | n+1,x0,x1,x2,x3,x4,x5,x6,x7,x8,x9,x10,x11=>c_Z70 (n_Z70 n) x0 x1 x2 x3 x4 x5 x6 x7 x8 x9 x10 x11 some
noncomputable def Z70 (x0 x1 x2 x3 x4 x5 x6 x7 x8:Int) (x9 x10 x11:List D):Option (Int×Int×Int×Int×Int×Int×List D×List D×List D):=ev (fun n=>n_Z70 n x0 x1 x2 x3 x4 x5 x6 x7 x8 x9 x10 x11)
def m_Z70 (F:T_Z70):JA:=⟨22,⟨(.undef::.undef::.undef::.int .i64::.ptr 1000 [0]::uu 6 (.int .i64::.int .i64::uu 63 (.int .i64::.int .i64::.undef::.undef::.int .i64::.int .i64::.undef::.undef::.int .i64::.int .i64::uu 49 ([])))),[(1000,.obox (.agg [.full 1001 [] (.int .i64),.full 1002 [] (.slice (.bool)),.full 1003 [] (.slice (.bool))])),(1001,.own (.int .i64)),(1002,.own (.slice (.bool))),(1003,.own (.slice (.bool)))]⟩,[(.exit 8,⟨(.undef::.undef::.undef::.int .i64::.ptr 1000 [0]::uu 6 (.int .i64::uu 64 (.int .i64::.int .i64::.undef::.undef::.int .i64::.int .i64::uu 53 ([])))),[(1000,.obox (.agg [.full 1001 [] (.int .i64),.full 1002 [] (.slice (.bool)),.full 1003 [] (.slice (.bool))])),(1001,.own (.int .i64)),(1002,.own (.slice (.bool))),(1003,.own (.slice (.bool)))]⟩)],fun _ ds k=>dI (fun x0 ds=>dI (fun x1 ds=>dI (fun x2 ds=>dI (fun x3 ds=>dI (fun x4 ds=>dI (fun x5 ds=>dI (fun x6 ds=>dI (fun x7 ds=>dI (fun x8 ds=>dL (fun x9 ds=>dL (fun x10 ds=>dL (fun x11 ds=>dE ((F x0 x1 x2 x3 x4 x5 x6 x7 x8 x9 x10 x11).bind (fun y=>k 0 [.I y.1,.I y.2.1,.I y.2.2.1,.I y.2.2.2.1,.I y.2.2.2.2.1,.I y.2.2.2.2.2.1,.L y.2.2.2.2.2.2.1,.L y.2.2.2.2.2.2.2.1,.L y.2.2.2.2.2.2.2.2])) ds) ds) ds) ds) ds) ds) ds) ds) ds) ds) ds) ds) ds⟩
theorem q_Z70 (F:T_Z70) (x0 x1 x2 x3 x4 x5 x6 x7 x8:Int) (x9 x10 x11:List D):JZ (Jp []) (Jq [m_Z70 F]) A 125 (Jj (Jh Try.f125) 22) ((m_Z70 F).sh.mk' [.I x0,.I x1,.I x2,.I x3,.I x4,.I x5,.I x6,.I x7,.I x8,.L x9,.L x10,.L x11]) (fun e σ'=>some (e,σ'))=c_Z70 F x0 x1 x2 x3 x4 x5 x6 x7 x8 x9 x10 x11 (fun y=>some (.exit 8,SSt.mk' ⟨(.undef::.undef::.undef::.int .i64::.ptr 1000 [0]::uu 6 (.int .i64::uu 64 (.int .i64::.int .i64::.undef::.undef::.int .i64::.int .i64::uu 53 ([])))),[(1000,.obox (.agg [.full 1001 [] (.int .i64),.full 1002 [] (.slice (.bool)),.full 1003 [] (.slice (.bool))])),(1001,.own (.int .i64)),(1002,.own (.slice (.bool))),(1003,.own (.slice (.bool)))]⟩ [.I y.1,.I y.2.1,.I y.2.2.1,.I y.2.2.2.1,.I y.2.2.2.2.1,.I y.2.2.2.2.2.1,.L y.2.2.2.2.2.2.1,.L y.2.2.2.2.2.2.2.1,.L y.2.2.2.2.2.2.2.2])):=by kernel_rfl
theorem m_Z70_ok:∀ n,(m_Z70 (n_Z70 n)).ok Try.prog (Jj (Jh Try.f125) 22):=by
 intro n
 induction n with
 | zero=>
  intro R ds k r h
  unfold m_Z70 at h
  obtain ⟨_,_,rfl,h⟩:=Jb h
  obtain ⟨_,_,rfl,h⟩:=Jb h
  obtain ⟨_,_,rfl,h⟩:=Jb h
  obtain ⟨_,_,rfl,h⟩:=Jb h
  obtain ⟨_,_,rfl,h⟩:=Jb h
  obtain ⟨_,_,rfl,h⟩:=Jb h
  obtain ⟨_,_,rfl,h⟩:=Jb h
  obtain ⟨_,_,rfl,h⟩:=Jb h
  obtain ⟨_,_,rfl,h⟩:=Jb h
  obtain ⟨_,_,rfl,h⟩:=Ja h
  obtain ⟨_,_,rfl,h⟩:=Ja h
  obtain ⟨_,_,rfl,h⟩:=Ja h
  obtain ⟨rfl,hE⟩:=Je h
  obtain ⟨y,hy,hk⟩:=Jf hE
  cases hy
 | succ n ih=>
  intro R ds k r h
  unfold m_Z70 at h
  obtain ⟨_,_,rfl,h⟩:=Jb h
  obtain ⟨_,_,rfl,h⟩:=Jb h
  obtain ⟨_,_,rfl,h⟩:=Jb h
  obtain ⟨_,_,rfl,h⟩:=Jb h
  obtain ⟨_,_,rfl,h⟩:=Jb h
  obtain ⟨_,_,rfl,h⟩:=Jb h
  obtain ⟨_,_,rfl,h⟩:=Jb h
  obtain ⟨_,_,rfl,h⟩:=Jb h
  obtain ⟨_,_,rfl,h⟩:=Jb h
  obtain ⟨_,_,rfl,h⟩:=Ja h
  obtain ⟨_,_,rfl,h⟩:=Ja h
  obtain ⟨_,_,rfl,h⟩:=Ja h
  obtain ⟨rfl,hE⟩:=Je h
  obtain ⟨y,hy,hk⟩:=Jf hE
  exact ⟨0,_,_,_,hk,rfl,JO px (fx:=⟨Try.func125,by kernel_rfl,by kernel_rfl⟩) Jm (Jo ih Jn) (by kernel_rfl) ((q_Z70 ..).trans ((c_Z70_bind ..).trans (Jg hy)))⟩
noncomputable def e_Z70:JA:=m_Z70 (Z70)
theorem e_Z70_ok:(e_Z70).ok Try.prog (Jj (Jh Try.f125) 22):=by
 intro R ds k r h
 unfold e_Z70 m_Z70 at h
 obtain ⟨_,_,rfl,h⟩:=Jb h
 obtain ⟨_,_,rfl,h⟩:=Jb h
 obtain ⟨_,_,rfl,h⟩:=Jb h
 obtain ⟨_,_,rfl,h⟩:=Jb h
 obtain ⟨_,_,rfl,h⟩:=Jb h
 obtain ⟨_,_,rfl,h⟩:=Jb h
 obtain ⟨_,_,rfl,h⟩:=Jb h
 obtain ⟨_,_,rfl,h⟩:=Jb h
 obtain ⟨_,_,rfl,h⟩:=Jb h
 obtain ⟨_,_,rfl,h⟩:=Ja h
 obtain ⟨_,_,rfl,h⟩:=Ja h
 obtain ⟨_,_,rfl,h⟩:=Ja h
 obtain ⟨rfl,hE⟩:=Je h
 obtain ⟨y,hy,hk⟩:=Jf hE
 obtain ⟨n,hn⟩:=J4 hy
 exact m_Z70_ok n R _ k r ((Jg hn).trans hk)

/-!-/
abbrev T_Z71:=Int→Int→Int→Int→Int→Int→List D→List D→List D→Option (Int×Int×Int×List D×List D×List D)
def c_Z71 {R:Type} (F:T_Z71) (x0 x1 x2 x3 x4 x5:Int) (x6 x7 x8:List D) (k:Int×Int×Int×List D×List D×List D→Option R):Option R:=
 bif decide (x5<x4) then
 (Z70 x0 x1 x5 x2 x3 x4 x5 x0 (0:Int) x6 x7 x8).bind (fun y0=>
 (F y0.fst y0.snd.fst y0.snd.snd.fst y0.snd.snd.snd.fst y0.snd.snd.snd.snd.fst (IntKind.i64.wrap (y0.snd.snd.snd.snd.snd.fst+1)) y0.snd.snd.snd.snd.snd.snd.fst y0.snd.snd.snd.snd.snd.snd.snd.fst y0.snd.snd.snd.snd.snd.snd.snd.snd).bind k)
 else
 k (x0,x2,x3,x6,x7,x8)
theorem c_Z71_bind {R:Type} (F:T_Z71) (x0 x1 x2 x3 x4 x5:Int) (x6 x7 x8:List D) (k:Int×Int×Int×List D×List D×List D→Option R):c_Z71 F x0 x1 x2 x3 x4 x5 x6 x7 x8 k=(c_Z71 F x0 x1 x2 x3 x4 x5 x6 x7 x8 some).bind k:=by
 unfold c_Z71
 repeat' first
  | exact Jy
  | exact Jx
  | exact Jw
  | apply Jt
  | apply Ju
  | apply Jz
  | (apply Jv; intro _)
  | intro _
def n_Z71:Nat→T_Z71
 | 0,_,_,_,_,_,_,_,_,_=>none
 | n+1,x0,x1,x2,x3,x4,x5,x6,x7,x8=>c_Z71 (n_Z71 n) x0 x1 x2 x3 x4 x5 x6 x7 x8 some
noncomputable def Z71 (x0 x1 x2 x3 x4 x5:Int) (x6 x7 x8:List D):Option (Int×Int×Int×List D×List D×List D):=ev (fun n=>n_Z71 n x0 x1 x2 x3 x4 x5 x6 x7 x8)
def m_Z71 (F:T_Z71):JA:=⟨19,⟨(.undef::.undef::.undef::.int .i64::.ptr 1000 [0]::uu 6 (.int .i64::uu 64 (.int .i64::.int .i64::.undef::.undef::.int .i64::.int .i64::uu 53 ([])))),[(1000,.obox (.agg [.full 1001 [] (.int .i64),.full 1002 [] (.slice (.bool)),.full 1003 [] (.slice (.bool))])),(1001,.own (.int .i64)),(1002,.own (.slice (.bool))),(1003,.own (.slice (.bool)))]⟩,[(.exit 6,⟨(.undef::.undef::.undef::.int .i64::.ptr 1000 [0]::uu 71 (.int .i64::.int .i64::uu 57 ([]))),[(1000,.obox (.agg [.full 1001 [] (.int .i64),.full 1002 [] (.slice (.bool)),.full 1003 [] (.slice (.bool))])),(1001,.own (.int .i64)),(1002,.own (.slice (.bool))),(1003,.own (.slice (.bool)))]⟩)],fun _ ds k=>dI (fun x0 ds=>dI (fun x1 ds=>dI (fun x2 ds=>dI (fun x3 ds=>dI (fun x4 ds=>dI (fun x5 ds=>dL (fun x6 ds=>dL (fun x7 ds=>dL (fun x8 ds=>dE ((F x0 x1 x2 x3 x4 x5 x6 x7 x8).bind (fun y=>k 0 [.I y.1,.I y.2.1,.I y.2.2.1,.L y.2.2.2.1,.L y.2.2.2.2.1,.L y.2.2.2.2.2])) ds) ds) ds) ds) ds) ds) ds) ds) ds) ds⟩
theorem q_Z71 (F:T_Z71) (x0 x1 x2 x3 x4 x5:Int) (x6 x7 x8:List D):JZ (Jp []) (Jq [m_Z71 F,e_Z70]) A 125 (Jj (Jh Try.f125) 19) ((m_Z71 F).sh.mk' [.I x0,.I x1,.I x2,.I x3,.I x4,.I x5,.L x6,.L x7,.L x8]) (fun e σ'=>some (e,σ'))=c_Z71 F x0 x1 x2 x3 x4 x5 x6 x7 x8 (fun y=>some (.exit 6,SSt.mk' ⟨(.undef::.undef::.undef::.int .i64::.ptr 1000 [0]::uu 71 (.int .i64::.int .i64::uu 57 ([]))),[(1000,.obox (.agg [.full 1001 [] (.int .i64),.full 1002 [] (.slice (.bool)),.full 1003 [] (.slice (.bool))])),(1001,.own (.int .i64)),(1002,.own (.slice (.bool))),(1003,.own (.slice (.bool)))]⟩ [.I y.1,.I y.2.1,.I y.2.2.1,.L y.2.2.2.1,.L y.2.2.2.2.1,.L y.2.2.2.2.2])):=by kernel_rfl
theorem m_Z71_ok:∀ n,(m_Z71 (n_Z71 n)).ok Try.prog (Jj (Jh Try.f125) 19):=by
 intro n
 induction n with
 | zero=>
  intro R ds k r h
  unfold m_Z71 at h
  obtain ⟨_,_,rfl,h⟩:=Jb h
  obtain ⟨_,_,rfl,h⟩:=Jb h
  obtain ⟨_,_,rfl,h⟩:=Jb h
  obtain ⟨_,_,rfl,h⟩:=Jb h
  obtain ⟨_,_,rfl,h⟩:=Jb h
  obtain ⟨_,_,rfl,h⟩:=Jb h
  obtain ⟨_,_,rfl,h⟩:=Ja h
  obtain ⟨_,_,rfl,h⟩:=Ja h
  obtain ⟨_,_,rfl,h⟩:=Ja h
  obtain ⟨rfl,hE⟩:=Je h
  obtain ⟨y,hy,hk⟩:=Jf hE
  cases hy
 | succ n ih=>
  intro R ds k r h
  unfold m_Z71 at h
  obtain ⟨_,_,rfl,h⟩:=Jb h
  obtain ⟨_,_,rfl,h⟩:=Jb h
  obtain ⟨_,_,rfl,h⟩:=Jb h
  obtain ⟨_,_,rfl,h⟩:=Jb h
  obtain ⟨_,_,rfl,h⟩:=Jb h
  obtain ⟨_,_,rfl,h⟩:=Jb h
  obtain ⟨_,_,rfl,h⟩:=Ja h
  obtain ⟨_,_,rfl,h⟩:=Ja h
  obtain ⟨_,_,rfl,h⟩:=Ja h
  obtain ⟨rfl,hE⟩:=Je h
  obtain ⟨y,hy,hk⟩:=Jf hE
  exact ⟨0,_,_,_,hk,rfl,JO px (fx:=⟨Try.func125,by kernel_rfl,by kernel_rfl⟩) Jm (Jo ih (Jo e_Z70_ok Jn)) (by kernel_rfl) ((q_Z71 ..).trans ((c_Z71_bind ..).trans (Jg hy)))⟩
noncomputable def e_Z71:JA:=m_Z71 (Z71)
theorem e_Z71_ok:(e_Z71).ok Try.prog (Jj (Jh Try.f125) 19):=by
 intro R ds k r h
 unfold e_Z71 m_Z71 at h
 obtain ⟨_,_,rfl,h⟩:=Jb h
 obtain ⟨_,_,rfl,h⟩:=Jb h
 obtain ⟨_,_,rfl,h⟩:=Jb h
 obtain ⟨_,_,rfl,h⟩:=Jb h
 obtain ⟨_,_,rfl,h⟩:=Jb h
 obtain ⟨_,_,rfl,h⟩:=Jb h
 obtain ⟨_,_,rfl,h⟩:=Ja h
 obtain ⟨_,_,rfl,h⟩:=Ja h
 obtain ⟨_,_,rfl,h⟩:=Ja h
 obtain ⟨rfl,hE⟩:=Je h
 obtain ⟨y,hy,hk⟩:=Jf hE
 obtain ⟨n,hn⟩:=J4 hy
 exact m_Z71_ok n R _ k r ((Jg hn).trans hk)

/-!-/
abbrev T_Z72:=Int→Int→Int→List D→List D→List D→Option (List D×List D×List D)
def c_Z72 {R:Type} (F:T_Z72) (x0 x1 x2:Int) (x3 x4 x5:List D) (k:List D×List D×List D→Option R):Option R:=
 bif decide (x2<x1) then
 (Z71 x0 x2 x1 x2 x0 (0:Int) x3 x4 x5).bind (fun y0=>
 (F y0.fst y0.snd.fst (IntKind.i64.wrap (y0.snd.snd.fst+1)) y0.snd.snd.snd.fst y0.snd.snd.snd.snd.fst y0.snd.snd.snd.snd.snd).bind k)
 else
 k (x3,x4,x5)
theorem c_Z72_bind {R:Type} (F:T_Z72) (x0 x1 x2:Int) (x3 x4 x5:List D) (k:List D×List D×List D→Option R):c_Z72 F x0 x1 x2 x3 x4 x5 k=(c_Z72 F x0 x1 x2 x3 x4 x5 some).bind k:=by
 unfold c_Z72
 repeat' first
  | exact Jy
  | exact Jx
  | exact Jw
  | apply Jt
  | apply Ju
  | apply Jz
  | (apply Jv; intro _)
  | intro _
def n_Z72:Nat→T_Z72
 | 0,_,_,_,_,_,_=>none
 | n+1,x0,x1,x2,x3,x4,x5=>c_Z72 (n_Z72 n) x0 x1 x2 x3 x4 x5 some
noncomputable def Z72 (x0 x1 x2:Int) (x3 x4 x5:List D):Option (List D×List D×List D):=ev (fun n=>n_Z72 n x0 x1 x2 x3 x4 x5)
def m_Z72 (F:T_Z72):JA:=⟨16,⟨(.undef::.undef::.undef::.int .i64::.ptr 1000 [0]::uu 71 (.int .i64::.int .i64::uu 57 ([]))),[(1000,.obox (.agg [.full 1001 [] (.int .i64),.full 1002 [] (.slice (.bool)),.full 1003 [] (.slice (.bool))])),(1001,.own (.int .i64)),(1002,.own (.slice (.bool))),(1003,.own (.slice (.bool)))]⟩,[(.exit 4,⟨(uu 4 (.ptr 1000 [0]::uu 130 ([]))),[(1000,.obox (.agg [.full 1001 [] (.int .i64),.full 1002 [] (.slice (.bool)),.full 1003 [] (.slice (.bool))])),(1001,.own (.int .i64)),(1002,.own (.slice (.bool))),(1003,.own (.slice (.bool)))]⟩)],fun _ ds k=>dI (fun x0 ds=>dI (fun x1 ds=>dI (fun x2 ds=>dL (fun x3 ds=>dL (fun x4 ds=>dL (fun x5 ds=>dE ((F x0 x1 x2 x3 x4 x5).bind (fun y=>k 0 [.L y.1,.L y.2.1,.L y.2.2])) ds) ds) ds) ds) ds) ds) ds⟩
theorem q_Z72 (F:T_Z72) (x0 x1 x2:Int) (x3 x4 x5:List D):JZ (Jp []) (Jq [m_Z72 F,e_Z71]) A 125 (Jj (Jh Try.f125) 16) ((m_Z72 F).sh.mk' [.I x0,.I x1,.I x2,.L x3,.L x4,.L x5]) (fun e σ'=>some (e,σ'))=c_Z72 F x0 x1 x2 x3 x4 x5 (fun y=>some (.exit 4,SSt.mk' ⟨(uu 4 (.ptr 1000 [0]::uu 130 ([]))),[(1000,.obox (.agg [.full 1001 [] (.int .i64),.full 1002 [] (.slice (.bool)),.full 1003 [] (.slice (.bool))])),(1001,.own (.int .i64)),(1002,.own (.slice (.bool))),(1003,.own (.slice (.bool)))]⟩ [.L y.1,.L y.2.1,.L y.2.2])):=by kernel_rfl
theorem m_Z72_ok:∀ n,(m_Z72 (n_Z72 n)).ok Try.prog (Jj (Jh Try.f125) 16):=by
 intro n
 induction n with
 | zero=>
  intro R ds k r h
  unfold m_Z72 at h
  obtain ⟨_,_,rfl,h⟩:=Jb h
  obtain ⟨_,_,rfl,h⟩:=Jb h
  obtain ⟨_,_,rfl,h⟩:=Jb h
  obtain ⟨_,_,rfl,h⟩:=Ja h
  obtain ⟨_,_,rfl,h⟩:=Ja h
  obtain ⟨_,_,rfl,h⟩:=Ja h
  obtain ⟨rfl,hE⟩:=Je h
  obtain ⟨y,hy,hk⟩:=Jf hE
  cases hy
 | succ n ih=>
  intro R ds k r h
  unfold m_Z72 at h
  obtain ⟨_,_,rfl,h⟩:=Jb h
  obtain ⟨_,_,rfl,h⟩:=Jb h
  obtain ⟨_,_,rfl,h⟩:=Jb h
  obtain ⟨_,_,rfl,h⟩:=Ja h
  obtain ⟨_,_,rfl,h⟩:=Ja h
  obtain ⟨_,_,rfl,h⟩:=Ja h
  obtain ⟨rfl,hE⟩:=Je h
  obtain ⟨y,hy,hk⟩:=Jf hE
  exact ⟨0,_,_,_,hk,rfl,JO px (fx:=⟨Try.func125,by kernel_rfl,by kernel_rfl⟩) Jm (Jo ih (Jo e_Z71_ok Jn)) (by kernel_rfl) ((q_Z72 ..).trans ((c_Z72_bind ..).trans (Jg hy)))⟩
noncomputable def e_Z72:JA:=m_Z72 (Z72)
theorem e_Z72_ok:(e_Z72).ok Try.prog (Jj (Jh Try.f125) 16):=by
 intro R ds k r h
 unfold e_Z72 m_Z72 at h
 obtain ⟨_,_,rfl,h⟩:=Jb h
 obtain ⟨_,_,rfl,h⟩:=Jb h
 obtain ⟨_,_,rfl,h⟩:=Jb h
 obtain ⟨_,_,rfl,h⟩:=Ja h
 obtain ⟨_,_,rfl,h⟩:=Ja h
 obtain ⟨_,_,rfl,h⟩:=Ja h
 obtain ⟨rfl,hE⟩:=Je h
 obtain ⟨y,hy,hk⟩:=Jf hE
 obtain ⟨n,hn⟩:=J4 hy
 exact m_Z72_ok n R _ k r ((Jg hn).trans hk)

end
end Go.Proofs.Ytdoaceeakjbgfaa
