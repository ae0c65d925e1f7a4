/- Models of Go functions and their contracts, printed by a program of this session. -/
import Derived.Test.YtdoaceeakjbgfaaClMFnPlacesx0
set_option linter.unusedVariables false
set_option maxRecDepth 100000
namespace Go.Proofs.Ytdoaceeakjbgfaa
open Go Go.Rai
noncomputable section
/-!-/
abbrev T_Z73:=Int→Int→Int→List D→List D→List D→List D→List D→Option (Int×List D×List D×List D×List D×List D)
def c_Z73 {R:Type} (F:T_Z73) (x0 x1 x2:Int) (x3 x4 x5 x6 x7:List D) (k:Int×List D×List D×List D×List D×List D→Option R):Option R:=
 bif decide (x2<x1) then
 (Z70 x3 x4 x5 x0 x2).bind (fun y0=>
 bif y0 then
 if 0≤x0∧x0<(↑x7.length:Int) then
 if x0.toNat+1≤x7.length then
 if (0:Int)≤x2 then
 if (0:Int)≤IntKind.i64.wrap (↑(BitVec.ofInt IntKind.i64.bits x0 ||| BitVec.ofInt IntKind.i64.bits (IntKind.i64.wrap ((1:Int) * (2:Int) ^ Min.min x2.toNat IntKind.i64.bits))).toNat:Int)∧IntKind.i64.wrap (↑(BitVec.ofInt IntKind.i64.bits x0 ||| BitVec.ofInt IntKind.i64.bits (IntKind.i64.wrap ((1:Int) * (2:Int) ^ Min.min x2.toNat IntKind.i64.bits))).toNat:Int)<(↑x7.length:Int) then
 if (IntKind.i64.wrap (↑(BitVec.ofInt IntKind.i64.bits x0 ||| BitVec.ofInt IntKind.i64.bits (IntKind.i64.wrap ((1:Int) * (2:Int) ^ Min.min x2.toNat IntKind.i64.bits))).toNat:Int)).toNat+1≤x7.length then
 if 0≤x0∧x0<(↑x7.length:Int) then
 if x0.toNat+1≤x7.length then
 (F x0 x1 (IntKind.i64.wrap (x2+1)) x3 x4 x5 x6 (x7.set x0.toNat (D.int (IntKind.i64.wrap ((x7.getD x0.toNat (D.int 0)).toInt+(x7.getD (IntKind.i64.wrap (↑(BitVec.ofInt IntKind.i64.bits x0 ||| BitVec.ofInt IntKind.i64.bits (IntKind.i64.wrap ((1:Int) * (2:Int) ^ Min.min x2.toNat IntKind.i64.bits))).toNat:Int)).toNat (D.int 0)).toInt))))).bind k
 else
 none
 else
 none
 else
 none
 else
 none
 else
 none
 else
 none
 else
 none
 else
 (F x0 x1 (IntKind.i64.wrap (x2+1)) x3 x4 x5 x6 x7).bind k)
 else
 k (x0,x3,x4,x5,x6,x7)
theorem c_Z73_bind {R:Type} (F:T_Z73) (x0 x1 x2:Int) (x3 x4 x5 x6 x7:List D) (k:Int×List D×List D×List D×List D×List D→Option R):c_Z73 F x0 x1 x2 x3 x4 x5 x6 x7 k=(c_Z73 F x0 x1 x2 x3 x4 x5 x6 x7 some).bind k:=by
 unfold c_Z73
 repeat' first
  | exact JE
  | exact JD
  | exact JC
  | apply Jz
  | apply JA
  | apply JF
  | (apply JB; intro _)
  | intro _
def n_Z73:Nat→T_Z73
 | 0,_,_,_,_,_,_,_,_=>none
 | n+1,x0,x1,x2,x3,x4,x5,x6,x7=>c_Z73 (n_Z73 n) x0 x1 x2 x3 x4 x5 x6 x7 some
noncomputable def Z73 (x0 x1 x2:Int) (x3 x4 x5 x6 x7:List D):Option (Int×List D×List D×List D×List D×List D):=ev (fun n=>n_Z73 n x0 x1 x2 x3 x4 x5 x6 x7)
def m_Z73 (F:T_Z73):Js:=⟨22,⟨(uu 4 (.ptr 1000 [0]::.undef::.undef::.ptr 1001 [0]::.undef::.undef::.int .i64::uu 90 (.int .i64::.int .i64::uu 27 ([])))),[(1000,.obox (.agg [.own (.int .i64),.own (.slice (.bool)),.own (.slice (.bool))])),(1001,.obox (.agg [.ptr 1000 [0],.full 1002 [] (.int .i64),.full 1003 [] (.int .i64)])),(1002,.own (.int .i64)),(1003,.own (.int .i64))]⟩,[(.exit 6,⟨(uu 4 (.ptr 1000 [0]::.undef::.undef::.ptr 1001 [0]::.undef::.undef::.int .i64::uu 119 ([]))),[(1000,.obox (.agg [.own (.int .i64),.own (.slice (.bool)),.own (.slice (.bool))])),(1001,.obox (.agg [.ptr 1000 [0],.full 1002 [] (.int .i64),.full 1003 [] (.int .i64)])),(1002,.own (.int .i64)),(1003,.own (.int .i64))]⟩)],fun _ ds k=>dI (fun x0 ds=>dI (fun x1 ds=>dI (fun x2 ds=>dL (fun x3 ds=>dL (fun x4 ds=>dL (fun x5 ds=>dL (fun x6 ds=>dL (fun x7 ds=>dE ((F x0 x1 x2 x3 x4 x5 x6 x7).bind (fun y=>k 0 [.I y.1,.L y.2.1,.L y.2.2.1,.L y.2.2.2.1,.L y.2.2.2.2.1,.L y.2.2.2.2.2])) ds) ds) ds) ds) ds) ds) ds) ds) ds⟩
theorem q_Z73 (F:T_Z73) (x0 x1 x2:Int) (x3 x4 x5 x6 x7:List D):J6 (Jv [e_Z70]) (Jw [m_Z73 F]) A 86 (Jl (Jk Try.f86) 22) ((m_Z73 F).sh.mk' [.I x0,.I x1,.I x2,.L x3,.L x4,.L x5,.L x6,.L x7]) (fun e σ'=>some (e,σ'))=c_Z73 F x0 x1 x2 x3 x4 x5 x6 x7 (fun y=>some (.exit 6,SSt.mk' ⟨(uu 4 (.ptr 1000 [0]::.undef::.undef::.ptr 1001 [0]::.undef::.undef::.int .i64::uu 119 ([]))),[(1000,.obox (.agg [.own (.int .i64),.own (.slice (.bool)),.own (.slice (.bool))])),(1001,.obox (.agg [.ptr 1000 [0],.full 1002 [] (.int .i64),.full 1003 [] (.int .i64)])),(1002,.own (.int .i64)),(1003,.own (.int .i64))]⟩ [.I y.1,.L y.2.1,.L y.2.2.1,.L y.2.2.2.1,.L y.2.2.2.2.1,.L y.2.2.2.2.2])):=by kernel_rfl
theorem m_Z73_ok:∀ n,(m_Z73 (n_Z73 n)).ok Try.prog (Jl (Jk Try.f86) 22):=by
 intro n
 induction n with
 | zero=>
  intro R ds k r h
  unfold m_Z73 at h
  obtain ⟨_,_,rfl,h⟩:=Ja h
  obtain ⟨_,_,rfl,h⟩:=Ja h
  obtain ⟨_,_,rfl,h⟩:=Ja h
  obtain ⟨_,_,rfl,h⟩:=Jb h
  obtain ⟨_,_,rfl,h⟩:=Jb h
  obtain ⟨_,_,rfl,h⟩:=Jb h
  obtain ⟨_,_,rfl,h⟩:=Jb h
  obtain ⟨_,_,rfl,h⟩:=Jb h
  obtain ⟨rfl,hE⟩:=Je h
  obtain ⟨y,hy,hk⟩:=Jf hE
  cases hy
 | succ n ih=>
  intro R ds k r h
  unfold m_Z73 at h
  obtain ⟨_,_,rfl,h⟩:=Ja h
  obtain ⟨_,_,rfl,h⟩:=Ja h
  obtain ⟨_,_,rfl,h⟩:=Ja h
  obtain ⟨_,_,rfl,h⟩:=Jb h
  obtain ⟨_,_,rfl,h⟩:=Jb h
  obtain ⟨_,_,rfl,h⟩:=Jb h
  obtain ⟨_,_,rfl,h⟩:=Jb h
  obtain ⟨_,_,rfl,h⟩:=Jb h
  obtain ⟨rfl,hE⟩:=Je h
  obtain ⟨y,hy,hk⟩:=Jf hE
  exact ⟨0,_,_,_,hk,rfl,JV px (fx:=⟨Try.func86,by kernel_rfl,by kernel_rfl⟩) (Jx e_Z70_ok Jq) (Jn ih Jr) (by kernel_rfl) ((q_Z73 ..).trans ((c_Z73_bind ..).trans (Ji hy)))⟩
noncomputable def e_Z73:Js:=m_Z73 (Z73)
theorem e_Z73_ok:(e_Z73).ok Try.prog (Jl (Jk Try.f86) 22):=by
 intro R ds k r h
 unfold e_Z73 m_Z73 at h
 obtain ⟨_,_,rfl,h⟩:=Ja h
 obtain ⟨_,_,rfl,h⟩:=Ja h
 obtain ⟨_,_,rfl,h⟩:=Ja h
 obtain ⟨_,_,rfl,h⟩:=Jb h
 obtain ⟨_,_,rfl,h⟩:=Jb h
 obtain ⟨_,_,rfl,h⟩:=Jb h
 obtain ⟨_,_,rfl,h⟩:=Jb h
 obtain ⟨_,_,rfl,h⟩:=Jb h
 obtain ⟨rfl,hE⟩:=Je h
 obtain ⟨y,hy,hk⟩:=Jf hE
 obtain ⟨n,hn⟩:=Qa hy
 exact m_Z73_ok n R _ k r ((Ji hn).trans hk)

/-!-/
abbrev T_Z74:=Int→List D→List D→List D→List D→List D→Option (List D×List D×List D×List D×List D)
def c_Z74 {R:Type} (F:T_Z74) (x0:Int) (x1 x2 x3 x4 x5:List D) (k:List D×List D×List D×List D×List D→Option R):Option R:=
 bif decide ((0:Int)≤x0) then
 (Z73 x0 (↑x1.length:Int) (0:Int) x1 x2 x3 x4 x5).bind (fun y0=>
 (F (IntKind.i64.wrap (y0.fst - 1)) y0.snd.fst y0.snd.snd.fst y0.snd.snd.snd.fst y0.snd.snd.snd.snd.fst y0.snd.snd.snd.snd.snd).bind k)
 else
 k (x1,x2,x3,x4,x5)
theorem c_Z74_bind {R:Type} (F:T_Z74) (x0:Int) (x1 x2 x3 x4 x5:List D) (k:List D×List D×List D×List D×List D→Option R):c_Z74 F x0 x1 x2 x3 x4 x5 k=(c_Z74 F x0 x1 x2 x3 x4 x5 some).bind k:=by
 unfold c_Z74
 repeat' first
  | exact JE
  | exact JD
  | exact JC
  | apply Jz
  | apply JA
  | apply JF
  | (apply JB; intro _)
  | intro _
def n_Z74:Nat→T_Z74
 | 0,_,_,_,_,_,_=>none
 | n+1,x0,x1,x2,x3,x4,x5=>c_Z74 (n_Z74 n) x0 x1 x2 x3 x4 x5 some
noncomputable def Z74 (x0:Int) (x1 x2 x3 x4 x5:List D):Option (List D×List D×List D×List D×List D):=ev (fun n=>n_Z74 n x0 x1 x2 x3 x4 x5)
def m_Z74 (F:T_Z74):Js:=⟨19,⟨(uu 4 (.ptr 1000 [0]::.undef::.undef::.ptr 1001 [0]::.undef::.undef::.int .i64::uu 119 ([]))),[(1000,.obox (.agg [.own (.int .i64),.own (.slice (.bool)),.own (.slice (.bool))])),(1001,.obox (.agg [.ptr 1000 [0],.full 1002 [] (.int .i64),.full 1003 [] (.int .i64)])),(1002,.own (.int .i64)),(1003,.own (.int .i64))]⟩,[(.exit 4,⟨(uu 7 (.ptr 1000 [0]::uu 122 ([]))),[(1000,.obox (.agg [.ptr 1001 [0],.full 1002 [] (.int .i64),.full 1003 [] (.int .i64)])),(1001,.obox (.agg [.own (.int .i64),.own (.slice (.bool)),.own (.slice (.bool))])),(1002,.own (.int .i64)),(1003,.own (.int .i64))]⟩)],fun _ ds k=>dI (fun x0 ds=>dL (fun x1 ds=>dL (fun x2 ds=>dL (fun x3 ds=>dL (fun x4 ds=>dL (fun x5 ds=>dE ((F x0 x1 x2 x3 x4 x5).bind (fun y=>k 0 [.L y.1,.L y.2.1,.L y.2.2.1,.L y.2.2.2.1,.L y.2.2.2.2])) ds) ds) ds) ds) ds) ds) ds⟩
theorem q_Z74 (F:T_Z74) (x0:Int) (x1 x2 x3 x4 x5:List D):J6 (Jv []) (Jw [m_Z74 F,e_Z73]) A 86 (Jl (Jk Try.f86) 19) ((m_Z74 F).sh.mk' [.I x0,.L x1,.L x2,.L x3,.L x4,.L x5]) (fun e σ'=>some (e,σ'))=c_Z74 F x0 x1 x2 x3 x4 x5 (fun y=>some (.exit 4,SSt.mk' ⟨(uu 7 (.ptr 1000 [0]::uu 122 ([]))),[(1000,.obox (.agg [.ptr 1001 [0],.full 1002 [] (.int .i64),.full 1003 [] (.int .i64)])),(1001,.obox (.agg [.own (.int .i64),.own (.slice (.bool)),.own (.slice (.bool))])),(1002,.own (.int .i64)),(1003,.own (.int .i64))]⟩ [.L y.1,.L y.2.1,.L y.2.2.1,.L y.2.2.2.1,.L y.2.2.2.2])):=by kernel_rfl
theorem m_Z74_ok:∀ n,(m_Z74 (n_Z74 n)).ok Try.prog (Jl (Jk Try.f86) 19):=by
 intro n
 induction n with
 | zero=>
  intro R ds k r h
  unfold m_Z74 at h
  obtain ⟨_,_,rfl,h⟩:=Ja h
  obtain ⟨_,_,rfl,h⟩:=Jb h
  obtain ⟨_,_,rfl,h⟩:=Jb h
  obtain ⟨_,_,rfl,h⟩:=Jb h
  obtain ⟨_,_,rfl,h⟩:=Jb h
  obtain ⟨_,_,rfl,h⟩:=Jb h
  obtain ⟨rfl,hE⟩:=Je h
  obtain ⟨y,hy,hk⟩:=Jf hE
  cases hy
 | succ n ih=>
  intro R ds k r h
  unfold m_Z74 at h
  obtain ⟨_,_,rfl,h⟩:=Ja h
  obtain ⟨_,_,rfl,h⟩:=Jb h
  obtain ⟨_,_,rfl,h⟩:=Jb h
  obtain ⟨_,_,rfl,h⟩:=Jb h
  obtain ⟨_,_,rfl,h⟩:=Jb h
  obtain ⟨_,_,rfl,h⟩:=Jb h
  obtain ⟨rfl,hE⟩:=Je h
  obtain ⟨y,hy,hk⟩:=Jf hE
  exact ⟨0,_,_,_,hk,rfl,JV px (fx:=⟨Try.func86,by kernel_rfl,by kernel_rfl⟩) Jq (Jn ih (Jn e_Z73_ok Jr)) (by kernel_rfl) ((q_Z74 ..).trans ((c_Z74_bind ..).trans (Ji hy)))⟩
noncomputable def e_Z74:Js:=m_Z74 (Z74)
theorem e_Z74_ok:(e_Z74).ok Try.prog (Jl (Jk Try.f86) 19):=by
 intro R ds k r h
 unfold e_Z74 m_Z74 at h
 obtain ⟨_,_,rfl,h⟩:=Ja h
 obtain ⟨_,_,rfl,h⟩:=Jb h
 obtain ⟨_,_,rfl,h⟩:=Jb h
 obtain ⟨_,_,rfl,h⟩:=Jb h
 obtain ⟨_,_,rfl,h⟩:=Jb h
 obtain ⟨_,_,rfl,h⟩:=Jb h
 obtain ⟨rfl,hE⟩:=Je h
 obtain ⟨y,hy,hk⟩:=Jf hE
 obtain ⟨n,hn⟩:=Qa hy
 exact m_Z74_ok n R _ k r ((Ji hn).trans hk)

/-!-/
def c_Z75 {R:Type} (x0 x1:List D) (k:(Bool)⊕(List D×List D×List D×List D×List D×Bool)→Option R):Option R:=
 (Z67 x0 x1).bind (Sum.elim (fun y0=>
 bif !y0 then
 k (.inl Bool.false)
 else
 none) (fun y1=>
 bif !y1.snd.snd.snd then
 k (.inl Bool.false)
 else
 if (0:Int)≤(↑y1.fst.length:Int) then
 if (0:Int)≤IntKind.i64.wrap ((1:Int) * (2:Int) ^ Min.min (↑y1.fst.length:Int).toNat IntKind.i64.bits)∧IntKind.i64.wrap ((1:Int) * (2:Int) ^ Min.min (↑y1.fst.length:Int).toNat IntKind.i64.bits)≤IntKind.i64.wrap ((1:Int) * (2:Int) ^ Min.min (↑y1.fst.length:Int).toNat IntKind.i64.bits)∧IntKind.i64.wrap ((1:Int) * (2:Int) ^ Min.min (↑y1.fst.length:Int).toNat IntKind.i64.bits)≤(4294967296:Int) then
 if (0:Int)≤IntKind.i64.wrap ((1:Int) * (2:Int) ^ Min.min (↑y1.fst.length:Int).toNat IntKind.i64.bits)∧IntKind.i64.wrap ((1:Int) * (2:Int) ^ Min.min (↑y1.fst.length:Int).toNat IntKind.i64.bits)≤IntKind.i64.wrap ((1:Int) * (2:Int) ^ Min.min (↑y1.fst.length:Int).toNat IntKind.i64.bits)∧IntKind.i64.wrap ((1:Int) * (2:Int) ^ Min.min (↑y1.fst.length:Int).toNat IntKind.i64.bits)≤(4294967296:Int) then
 if (0:Int)≤(0:Int)∧(0:Int)<(↑(List.replicate (IntKind.i64.wrap ((1:Int) * (2:Int) ^ Min.min (↑y1.fst.length:Int).toNat IntKind.i64.bits)).toNat (D.int 0)).length:Int) then
 if Int.toNat (0:Int)+(1:Nat)≤(List.replicate (IntKind.i64.wrap ((1:Int) * (2:Int) ^ Min.min (↑y1.fst.length:Int).toNat IntKind.i64.bits)).toNat (D.int 0)).length then
 (Z72 (IntKind.i64.wrap ((1:Int) * (2:Int) ^ Min.min (↑y1.fst.length:Int).toNat IntKind.i64.bits)) (IntKind.i64.wrap ((1:Int) * (2:Int) ^ Min.min (↑y1.fst.length:Int).toNat IntKind.i64.bits)) (0:Int) y1.fst y1.snd.fst y1.snd.snd.fst ((List.replicate (IntKind.i64.wrap ((1:Int) * (2:Int) ^ Min.min (↑y1.fst.length:Int).toNat IntKind.i64.bits)).toNat (D.int 0)).set (Int.toNat (0:Int)) (D.int (1:Int))) (List.replicate (IntKind.i64.wrap ((1:Int) * (2:Int) ^ Min.min (↑y1.fst.length:Int).toNat IntKind.i64.bits)).toNat (D.int 0))).bind (fun y2=>
 if (0:Int)≤IntKind.i64.wrap (y2.fst - 1)∧IntKind.i64.wrap (y2.fst - 1)<(↑y2.snd.snd.snd.snd.snd.length:Int) then
 if (IntKind.i64.wrap (y2.fst - 1)).toNat+1≤y2.snd.snd.snd.snd.snd.length then
 (Z74 (IntKind.i64.wrap (y2.fst - 2)) y2.snd.fst y2.snd.snd.fst y2.snd.snd.snd.fst y2.snd.snd.snd.snd.fst (y2.snd.snd.snd.snd.snd.set (IntKind.i64.wrap (y2.fst - 1)).toNat (D.int (1:Int)))).bind (fun y3=>
 k (.inr (y3.fst,y3.snd.fst,y3.snd.snd.fst,y3.snd.snd.snd.fst,y3.snd.snd.snd.snd,Bool.true)))
 else
 none
 else
 none)
 else
 none
 else
 none
 else
 none
 else
 none
 else
 none))
theorem c_Z75_bind {R:Type} (x0 x1:List D) (k:(Bool)⊕(List D×List D×List D×List D×List D×Bool)→Option R):c_Z75 x0 x1 k=(c_Z75 x0 x1 some).bind k:=by
 unfold c_Z75
 repeat' first
  | exact JE
  | exact JD
  | exact JC
  | apply Jz
  | apply JA
  | apply JF
  | (apply JB; intro _)
  | intro _
def Z75 (x0 x1:List D):Option ((Bool)⊕(List D×List D×List D×List D×List D×Bool)):=c_Z75 x0 x1 some
def e_Z75:Ent:=⟨86,[.agg [.rd (.struct [.int .i64,.int .i64]),.rd (.struct [.int .i64,.int .i64])]],[(.tup [.nilptr,.bool],[.undef]),(.tup [.obox (.agg [.obox (.agg [.own (.int .i64),.own (.slice (.bool)),.own (.slice (.bool))]),.own (.int .i64),.own (.int .i64)]),.bool],[.undef])],fun _ ds k=>dL (fun x0 ds=>dL (fun x1 ds=>dE ((Z75 x0 x1).bind (Sum.elim (fun y=>k 0 [.B y]) (fun y=>k 1 [.L y.1,.L y.2.1,.L y.2.2.1,.L y.2.2.2.1,.L y.2.2.2.2.1,.B y.2.2.2.2.2]))) ds) ds) ds⟩
theorem q_Z75 (x0 x1:List D):J5 (Jv [e_Z67]) (Jw [e_Z72,e_Z74]) A 86 Try.f86 (Sh.mks e_Z75.sh [.L x0,.L x1]).1 (fun v os=>some (v,os))=c_Z75 x0 x1 (Sum.elim (fun y=>J7 e_Z75 0 [.B y]) (fun y=>J7 e_Z75 1 [.L y.1,.L y.2.1,.L y.2.2.1,.L y.2.2.2.1,.L y.2.2.2.2.1,.B y.2.2.2.2.2])):=by kernel_rfl
theorem e_Z75_ok:e_Z75.ok Try.prog A:=by
 intro R ds k r h
 unfold e_Z75 at h
 obtain ⟨_,_,rfl,h⟩:=Jb h
 obtain ⟨_,_,rfl,h⟩:=Jb h
 obtain ⟨rfl,hE⟩:=Je h
 obtain ⟨y,hy,hk⟩:=Jf hE
 cases y with
 | inl y=>
  exact ⟨0,_,_,_,hk,rfl,J8 px (fx:=⟨Try.func86,by kernel_rfl,by kernel_rfl⟩) (Jx e_Z67_ok Jq) (Jn e_Z72_ok (Jn e_Z74_ok Jr)) ((q_Z75 ..).trans ((c_Z75_bind ..).trans (Ji hy)))⟩
 | inr y=>
  exact ⟨1,_,_,_,hk,rfl,J8 px (fx:=⟨Try.func86,by kernel_rfl,by kernel_rfl⟩) (Jx e_Z67_ok Jq) (Jn e_Z72_ok (Jn e_Z74_ok Jr)) ((q_Z75 ..).trans ((c_Z75_bind ..).trans (Ji hy)))⟩

/-!-/
def c_Z76 {R:Type} (x0 x1:List D) (k:Int×Bool→Option R):Option R:=
 (Z75 x0 x1).bind (Sum.elim (fun y0=>
 bif !y0 then
 k ((0:Int),Bool.false)
 else
 none) (fun y1=>
 bif !y1.snd.snd.snd.snd.snd then
 k ((0:Int),Bool.false)
 else
 if (0:Int)≤(0:Int)∧(0:Int)<(↑y1.snd.snd.snd.snd.fst.length:Int) then
 if Int.toNat (0:Int)+(1:Nat)≤y1.snd.snd.snd.snd.fst.length then
 k ((y1.snd.snd.snd.snd.fst.getD (Int.toNat (0:Int)) (D.int 0)).toInt,Bool.true)
 else
 none
 else
 none))
theorem c_Z76_bind {R:Type} (x0 x1:List D) (k:Int×Bool→Option R):c_Z76 x0 x1 k=(c_Z76 x0 x1 some).bind k:=by
 unfold c_Z76
 repeat' first
  | exact JE
  | exact JD
  | exact JC
  | apply Jz
  | apply JA
  | apply JF
  | (apply JB; intro _)
  | intro _
def Z76 (x0 x1:List D):Option (Int×Bool):=c_Z76 x0 x1 some
def e_Z76:Ent:=⟨16,[.agg [.rd (.struct [.int .i64,.int .i64]),.rd (.struct [.int .i64,.int .i64])]],[(.tup [.int .i64,.bool],[.undef])],fun _ ds k=>dL (fun x0 ds=>dL (fun x1 ds=>dE ((Z76 x0 x1).bind (fun y=>k 0 [.I y.1,.B y.2])) ds) ds) ds⟩
theorem q_Z76 (x0 x1:List D):J5 (Jv [e_Z75]) (Jw []) A 16 Try.f16 (Sh.mks e_Z76.sh [.L x0,.L x1]).1 (fun v os=>some (v,os))=c_Z76 x0 x1 (fun y=>J7 e_Z76 0 [.I y.1,.B y.2]):=by kernel_rfl
theorem e_Z76_ok:e_Z76.ok Try.prog A:=by
 intro R ds k r h
 unfold e_Z76 at h
 obtain ⟨_,_,rfl,h⟩:=Jb h
 obtain ⟨_,_,rfl,h⟩:=Jb h
 obtain ⟨rfl,hE⟩:=Je h
 obtain ⟨y,hy,hk⟩:=Jf hE
 exact ⟨0,_,_,_,hk,rfl,J8 px (fx:=⟨Try.func16,by kernel_rfl,by kernel_rfl⟩) (Jx e_Z75_ok Jq) Jr ((q_Z76 ..).trans ((c_Z76_bind ..).trans (Ji hy)))⟩

/-!-/
abbrev T_Z77:=Int→Int→Int→Int→Int→Int→Int→Int→List D→List D→List D→List D→List D→List D→Option (Int×Int×Int×Int×Int×Int×List D×List D×List D×List D×List D×List D)
def c_Z77 {R:Type} (F:T_Z77) (x0 x1 x2 x3 x4 x5 x6 x7:Int) (x8 x9 x10 x11 x12 x13:List D) (k:Int×Int×Int×Int×Int×Int×List D×List D×List D×List D×List D×List D→Option R):Option R:=
 bif decide (x7<x6) then
 if (0:Int)≤x7 then
 (F x0 x1 x2 (IntKind.i64.wrap (x3+IntKind.i64.wrap (↑(BitVec.ofInt IntKind.i64.bits (x1.fdiv ((2:Int) ^ Min.min x7.toNat IntKind.i64.bits)) &&& BitVec.ofInt IntKind.i64.bits (1:Int)).toNat:Int))) x4 x5 x6 (IntKind.i64.wrap (x7+1)) x8 x9 x10 x11 x12 x13).bind k
 else
 none
 else
 k (x0,x1,x2,x3,x4,x5,x8,x9,x10,x11,x12,x13)
theorem c_Z77_bind {R:Type} (F:T_Z77) (x0 x1 x2 x3 x4 x5 x6 x7:Int) (x8 x9 x10 x11 x12 x13:List D) (k:Int×Int×Int×Int×Int×Int×List D×List D×List D×List D×List D×List D→Option R):c_Z77 F x0 x1 x2 x3 x4 x5 x6 x7 x8 x9 x10 x11 x12 x13 k=(c_Z77 F x0 x1 x2 x3 x4 x5 x6 x7 x8 x9 x10 x11 x12 x13 some).bind k:=by
 unfold c_Z77
 repeat' first
  | exact JE
  | exact JD
  | exact JC
  | apply Jz
  | apply JA
  | apply JF
  | (apply JB; intro _)
  | intro _
def n_Z77:Nat→T_Z77
 | 0,_,_,_,_,_,_,_,_,_,_,_,_,_,_=>none
 | n+1,x0,x1,x2,x3,x4,x5,x6,x7,x8,x9,x10,x11,x12,x13=>c_Z77 (n_Z77 n) x0 x1 x2 x3 x4 x5 x6 x7 x8 x9 x10 x11 x12 x13 some
noncomputable def Z77 (x0 x1 x2 x3 x4 x5 x6 x7:Int) (x8 x9 x10 x11 x12 x13:List D):Option (Int×Int×Int×Int×Int×Int×List D×List D×List D×List D×List D×List D):=ev (fun n=>n_Z77 n x0 x1 x2 x3 x4 x5 x6 x7 x8 x9 x10 x11 x12 x13)
def m_Z77 (F:T_Z77):Js:=⟨12,⟨(uu 6 (.ptr 1000 [0]::.undef::.int .i64::.full 1001 [] (.int .i64)::.int .i64::.int .i64::.int .i64::uu 29 (.full 1000 [0,1] (.int .i64)::.int .i64::.int .i64::uu 19 (.int .i64::.int .i64::uu 29 ([]))))),[(1000,.obox (.agg [.obox (.agg [.own (.int .i64),.own (.slice (.bool)),.own (.slice (.bool))]),.own (.int .i64),.own (.int .i64)])),(1001,.own (.int .i64))]⟩,[(.exit 2,⟨(uu 6 (.ptr 1000 [0]::.undef::.int .i64::.full 1001 [] (.int .i64)::.int .i64::.int .i64::.int .i64::uu 29 (.full 1000 [0,1] (.int .i64)::.int .i64::.int .i64::uu 50 ([])))),[(1000,.obox (.agg [.obox (.agg [.own (.int .i64),.own (.slice (.bool)),.own (.slice (.bool))]),.own (.int .i64),.own (.int .i64)])),(1001,.own (.int .i64))]⟩)],fun _ ds k=>dI (fun x0 ds=>dI (fun x1 ds=>dI (fun x2 ds=>dI (fun x3 ds=>dI (fun x4 ds=>dI (fun x5 ds=>dI (fun x6 ds=>dI (fun x7 ds=>dL (fun x8 ds=>dL (fun x9 ds=>dL (fun x10 ds=>dL (fun x11 ds=>dL (fun x12 ds=>dL (fun x13 ds=>dE ((F x0 x1 x2 x3 x4 x5 x6 x7 x8 x9 x10 x11 x12 x13).bind (fun y=>k 0 [.I y.1,.I y.2.1,.I y.2.2.1,.I y.2.2.2.1,.I y.2.2.2.2.1,.I y.2.2.2.2.2.1,.L y.2.2.2.2.2.2.1,.L y.2.2.2.2.2.2.2.1,.L y.2.2.2.2.2.2.2.2.1,.L y.2.2.2.2.2.2.2.2.2.1,.L y.2.2.2.2.2.2.2.2.2.2.1,.L y.2.2.2.2.2.2.2.2.2.2.2])) ds) ds) ds) ds) ds) ds) ds) ds) ds) ds) ds) ds) ds) ds) ds⟩
theorem q_Z77 (F:T_Z77) (x0 x1 x2 x3 x4 x5 x6 x7:Int) (x8 x9 x10 x11 x12 x13:List D):J6 (Jv []) (Jw [m_Z77 F]) A 58 (Jl (Jk Try.f58) 12) ((m_Z77 F).sh.mk' [.I x0,.I x1,.I x2,.I x3,.I x4,.I x5,.I x6,.I x7,.L x8,.L x9,.L x10,.L x11,.L x12,.L x13]) (fun e σ'=>some (e,σ'))=c_Z77 F x0 x1 x2 x3 x4 x5 x6 x7 x8 x9 x10 x11 x12 x13 (fun y=>some (.exit 2,SSt.mk' ⟨(uu 6 (.ptr 1000 [0]::.undef::.int .i64::.full 1001 [] (.int .i64)::.int .i64::.int .i64::.int .i64::uu 29 (.full 1000 [0,1] (.int .i64)::.int .i64::.int .i64::uu 50 ([])))),[(1000,.obox (.agg [.obox (.agg [.own (.int .i64),.own (.slice (.bool)),.own (.slice (.bool))]),.own (.int .i64),.own (.int .i64)])),(1001,.own (.int .i64))]⟩ [.I y.1,.I y.2.1,.I y.2.2.1,.I y.2.2.2.1,.I y.2.2.2.2.1,.I y.2.2.2.2.2.1,.L y.2.2.2.2.2.2.1,.L y.2.2.2.2.2.2.2.1,.L y.2.2.2.2.2.2.2.2.1,.L y.2.2.2.2.2.2.2.2.2.1,.L y.2.2.2.2.2.2.2.2.2.2.1,.L y.2.2.2.2.2.2.2.2.2.2.2])):=by kernel_rfl
theorem m_Z77_ok:∀ n,(m_Z77 (n_Z77 n)).ok Try.prog (Jl (Jk Try.f58) 12):=by
 intro n
 induction n with
 | zero=>
  intro R ds k r h
  unfold m_Z77 at h
  obtain ⟨_,_,rfl,h⟩:=Ja h
  obtain ⟨_,_,rfl,h⟩:=Ja h
  obtain ⟨_,_,rfl,h⟩:=Ja h
  obtain ⟨_,_,rfl,h⟩:=Ja h
  obtain ⟨_,_,rfl,h⟩:=Ja h
  obtain ⟨_,_,rfl,h⟩:=Ja h
  obtain ⟨_,_,rfl,h⟩:=Ja h
  obtain ⟨_,_,rfl,h⟩:=Ja h
  obtain ⟨_,_,rfl,h⟩:=Jb h
  obtain ⟨_,_,rfl,h⟩:=Jb h
  obtain ⟨_,_,rfl,h⟩:=Jb h
  obtain ⟨_,_,rfl,h⟩:=Jb h
  obtain ⟨_,_,rfl,h⟩:=Jb h
  obtain ⟨_,_,rfl,h⟩:=Jb h
  obtain ⟨rfl,hE⟩:=Je h
  obtain ⟨y,hy,hk⟩:=Jf hE
  cases hy
 | succ n ih=>
  intro R ds k r h
  unfold m_Z77 at h
  obtain ⟨_,_,rfl,h⟩:=Ja h
  obtain ⟨_,_,rfl,h⟩:=Ja h
  obtain ⟨_,_,rfl,h⟩:=Ja h
  obtain ⟨_,_,rfl,h⟩:=Ja h
  obtain ⟨_,_,rfl,h⟩:=Ja h
  obtain ⟨_,_,rfl,h⟩:=Ja h
  obtain ⟨_,_,rfl,h⟩:=Ja h
  obtain ⟨_,_,rfl,h⟩:=Ja h
  obtain ⟨_,_,rfl,h⟩:=Jb h
  obtain ⟨_,_,rfl,h⟩:=Jb h
  obtain ⟨_,_,rfl,h⟩:=Jb h
  obtain ⟨_,_,rfl,h⟩:=Jb h
  obtain ⟨_,_,rfl,h⟩:=Jb h
  obtain ⟨_,_,rfl,h⟩:=Jb h
  obtain ⟨rfl,hE⟩:=Je h
  obtain ⟨y,hy,hk⟩:=Jf hE
  exact ⟨0,_,_,_,hk,rfl,JV px (fx:=⟨Try.func58,by kernel_rfl,by kernel_rfl⟩) Jq (Jn ih Jr) (by kernel_rfl) ((q_Z77 ..).trans ((c_Z77_bind ..).trans (Ji hy)))⟩
noncomputable def e_Z77:Js:=m_Z77 (Z77)
theorem e_Z77_ok:(e_Z77).ok Try.prog (Jl (Jk Try.f58) 12):=by
 intro R ds k r h
 unfold e_Z77 m_Z77 at h
 obtain ⟨_,_,rfl,h⟩:=Ja h
 obtain ⟨_,_,rfl,h⟩:=Ja h
 obtain ⟨_,_,rfl,h⟩:=Ja h
 obtain ⟨_,_,rfl,h⟩:=Ja h
 obtain ⟨_,_,rfl,h⟩:=Ja h
 obtain ⟨_,_,rfl,h⟩:=Ja h
 obtain ⟨_,_,rfl,h⟩:=Ja h
 obtain ⟨_,_,rfl,h⟩:=Ja h
 obtain ⟨_,_,rfl,h⟩:=Jb h
 obtain ⟨_,_,rfl,h⟩:=Jb h
 obtain ⟨_,_,rfl,h⟩:=Jb h
 obtain ⟨_,_,rfl,h⟩:=Jb h
 obtain ⟨_,_,rfl,h⟩:=Jb h
 obtain ⟨_,_,rfl,h⟩:=Jb h
 obtain ⟨rfl,hE⟩:=Je h
 obtain ⟨y,hy,hk⟩:=Jf hE
 obtain ⟨n,hn⟩:=Qa hy
 exact m_Z77_ok n R _ k r ((Ji hn).trans hk)

/-!-/
abbrev T_Z78:=Int→Int→Int→List D→List D→List D→List D→List D→List D→Option (List D)
def c_Z78 {R:Type} (F:T_Z78) (x0 x1 x2:Int) (x3 x4 x5 x6 x7 x8:List D) (k:List D→Option R):Option R:=
 bif decide (x2<x1) then
 if 0≤x2∧x2<(↑x6.length:Int) then
 if x2.toNat+1≤x6.length then
 (Z70 x3 x4 x5 x2 x0).bind (fun y0=>
 bif !y0 then
 (F x0 x1 (IntKind.i64.wrap (x2+1)) x3 x4 x5 x6 x7 x8).bind k
 else
 (Z77 x0 x2 ((x6.getD x2.toNat (D.int 0)).toInt) (0:Int) x1 x2 (↑x3.length:Int) (0:Int) x3 x4 x5 x6 x7 x8).bind (fun y1=>
 if 0≤y1.snd.snd.snd.fst∧y1.snd.snd.snd.fst<(↑y1.snd.snd.snd.snd.snd.snd.snd.snd.snd.snd.snd.length:Int) then
 if y1.snd.snd.snd.fst.toNat+1≤y1.snd.snd.snd.snd.snd.snd.snd.snd.snd.snd.snd.length then
 if (0:Int)≤y1.fst then
 if (0:Int)≤IntKind.i64.wrap (↑(BitVec.ofInt IntKind.i64.bits y1.snd.fst ||| BitVec.ofInt IntKind.i64.bits (IntKind.i64.wrap ((1:Int) * (2:Int) ^ Min.min y1.fst.toNat IntKind.i64.bits))).toNat:Int)∧IntKind.i64.wrap (↑(BitVec.ofInt IntKind.i64.bits y1.snd.fst ||| BitVec.ofInt IntKind.i64.bits (IntKind.i64.wrap ((1:Int) * (2:Int) ^ Min.min y1.fst.toNat IntKind.i64.bits))).toNat:Int)<(↑y1.snd.snd.snd.snd.snd.snd.snd.snd.snd.snd.fst.length:Int) then
 if (IntKind.i64.wrap (↑(BitVec.ofInt IntKind.i64.bits y1.snd.fst ||| BitVec.ofInt IntKind.i64.bits (IntKind.i64.wrap ((1:Int) * (2:Int) ^ Min.min y1.fst.toNat IntKind.i64.bits))).toNat:Int)).toNat+1≤y1.snd.snd.snd.snd.snd.snd.snd.snd.snd.snd.fst.length then
 if 0≤y1.snd.snd.snd.fst∧y1.snd.snd.snd.fst<(↑y1.snd.snd.snd.snd.snd.snd.snd.snd.snd.snd.snd.length:Int) then
 if y1.snd.snd.snd.fst.toNat+1≤y1.snd.snd.snd.snd.snd.snd.snd.snd.snd.snd.snd.length then
 (F y1.fst y1.snd.snd.snd.snd.fst (IntKind.i64.wrap (y1.snd.snd.snd.snd.snd.fst+1)) y1.snd.snd.snd.snd.snd.snd.fst y1.snd.snd.snd.snd.snd.snd.snd.fst y1.snd.snd.snd.snd.snd.snd.snd.snd.fst y1.snd.snd.snd.snd.snd.snd.snd.snd.snd.fst y1.snd.snd.snd.snd.snd.snd.snd.snd.snd.snd.fst (y1.snd.snd.snd.snd.snd.snd.snd.snd.snd.snd.snd.set y1.snd.snd.snd.fst.toNat (D.int (IntKind.i64.wrap ((y1.snd.snd.snd.snd.snd.snd.snd.snd.snd.snd.snd.getD y1.snd.snd.snd.fst.toNat (D.int 0)).toInt+IntKind.i64.wrap (y1.snd.snd.fst * (y1.snd.snd.snd.snd.snd.snd.snd.snd.snd.snd.fst.getD (IntKind.i64.wrap (↑(BitVec.ofInt IntKind.i64.bits y1.snd.fst ||| BitVec.ofInt IntKind.i64.bits (IntKind.i64.wrap ((1:Int) * (2:Int) ^ Min.min y1.fst.toNat IntKind.i64.bits))).toNat:Int)).toNat (D.int 0)).toInt)))))).bind k
 else
 none
 else
 none
 else
 none
 else
 none
 else
 none
 else
 none
 else
 none))
 else
 none
 else
 none
 else
 k x8
theorem c_Z78_bind {R:Type} (F:T_Z78) (x0 x1 x2:Int) (x3 x4 x5 x6 x7 x8:List D) (k:List D→Option R):c_Z78 F x0 x1 x2 x3 x4 x5 x6 x7 x8 k=(c_Z78 F x0 x1 x2 x3 x4 x5 x6 x7 x8 some).bind k:=by
 unfold c_Z78
 repeat' first
  | exact JE
  | exact JD
  | exact JC
  | apply Jz
  | apply JA
  | apply JF
  | (apply JB; intro _)
  | intro _
def n_Z78:Nat→T_Z78
 | 0,_,_,_,_,_,_,_,_,_=>none
 | n+1,x0,x1,x2,x3,x4,x5,x6,x7,x8=>c_Z78 (n_Z78 n) x0 x1 x2 x3 x4 x5 x6 x7 x8 some
noncomputable def Z78 (x0 x1 x2:Int) (x3 x4 x5 x6 x7 x8:List D):Option (List D):=ev (fun n=>n_Z78 n x0 x1 x2 x3 x4 x5 x6 x7 x8)
def m_Z78 (F:T_Z78):Js:=⟨7,⟨(uu 6 (.ptr 1000 [0]::.undef::.int .i64::.full 1001 [] (.int .i64)::uu 32 (.full 1000 [0,1] (.int .i64)::.int .i64::.int .i64::uu 50 ([])))),[(1000,.obox (.agg [.obox (.agg [.own (.int .i64),.own (.slice (.bool)),.own (.slice (.bool))]),.own (.int .i64),.own (.int .i64)])),(1001,.own (.int .i64))]⟩,[(.exit 0,⟨(uu 9 (.full 1000 [] (.int .i64)::uu 85 ([]))),[(1000,.own (.int .i64))]⟩)],fun _ ds k=>dI (fun x0 ds=>dI (fun x1 ds=>dI (fun x2 ds=>dL (fun x3 ds=>dL (fun x4 ds=>dL (fun x5 ds=>dL (fun x6 ds=>dL (fun x7 ds=>dL (fun x8 ds=>dE ((F x0 x1 x2 x3 x4 x5 x6 x7 x8).bind (fun y=>k 0 [.L y])) ds) ds) ds) ds) ds) ds) ds) ds) ds) ds⟩
theorem q_Z78 (F:T_Z78) (x0 x1 x2:Int) (x3 x4 x5 x6 x7 x8:List D):J6 (Jv [e_Z70]) (Jw [m_Z78 F,e_Z77]) A 58 (Jl (Jk Try.f58) 7) ((m_Z78 F).sh.mk' [.I x0,.I x1,.I x2,.L x3,.L x4,.L x5,.L x6,.L x7,.L x8]) (fun e σ'=>some (e,σ'))=c_Z78 F x0 x1 x2 x3 x4 x5 x6 x7 x8 (fun y=>some (.exit 0,SSt.mk' ⟨(uu 9 (.full 1000 [] (.int .i64)::uu 85 ([]))),[(1000,.own (.int .i64))]⟩ [.L y])):=by kernel_rfl
theorem m_Z78_ok:∀ n,(m_Z78 (n_Z78 n)).ok Try.prog (Jl (Jk Try.f58) 7):=by
 intro n
 induction n with
 | zero=>
  intro R ds k r h
  unfold m_Z78 at h
  obtain ⟨_,_,rfl,h⟩:=Ja h
  obtain ⟨_,_,rfl,h⟩:=Ja h
  obtain ⟨_,_,rfl,h⟩:=Ja h
  obtain ⟨_,_,rfl,h⟩:=Jb h
  obtain ⟨_,_,rfl,h⟩:=Jb h
  obtain ⟨_,_,rfl,h⟩:=Jb h
  obtain ⟨_,_,rfl,h⟩:=Jb h
  obtain ⟨_,_,rfl,h⟩:=Jb h
  obtain ⟨_,_,rfl,h⟩:=Jb h
  obtain ⟨rfl,hE⟩:=Je h
  obtain ⟨y,hy,hk⟩:=Jf hE
  cases hy
 | succ n ih=>
  intro R ds k r h
  unfold m_Z78 at h
  obtain ⟨_,_,rfl,h⟩:=Ja h
  obtain ⟨_,_,rfl,h⟩:=Ja h
  obtain ⟨_,_,rfl,h⟩:=Ja h
  obtain ⟨_,_,rfl,h⟩:=Jb h
  obtain ⟨_,_,rfl,h⟩:=Jb h
  obtain ⟨_,_,rfl,h⟩:=Jb h
  obtain ⟨_,_,rfl,h⟩:=Jb h
  obtain ⟨_,_,rfl,h⟩:=Jb h
  obtain ⟨_,_,rfl,h⟩:=Jb h
  obtain ⟨rfl,hE⟩:=Je h
  obtain ⟨y,hy,hk⟩:=Jf hE
  exact ⟨0,_,_,_,hk,rfl,JV px (fx:=⟨Try.func58,by kernel_rfl,by kernel_rfl⟩) (Jx e_Z70_ok Jq) (Jn ih (Jn e_Z77_ok Jr)) (by kernel_rfl) ((q_Z78 ..).trans ((c_Z78_bind ..).trans (Ji hy)))⟩
noncomputable def e_Z78:Js:=m_Z78 (Z78)
theorem e_Z78_ok:(e_Z78).ok Try.prog (Jl (Jk Try.f58) 7):=by
 intro R ds k r h
 unfold e_Z78 m_Z78 at h
 obtain ⟨_,_,rfl,h⟩:=Ja h
 obtain ⟨_,_,rfl,h⟩:=Ja h
 obtain ⟨_,_,rfl,h⟩:=Ja h
 obtain ⟨_,_,rfl,h⟩:=Jb h
 obtain ⟨_,_,rfl,h⟩:=Jb h
 obtain ⟨_,_,rfl,h⟩:=Jb h
 obtain ⟨_,_,rfl,h⟩:=Jb h
 obtain ⟨_,_,rfl,h⟩:=Jb h
 obtain ⟨_,_,rfl,h⟩:=Jb h
 obtain ⟨rfl,hE⟩:=Je h
 obtain ⟨y,hy,hk⟩:=Jf hE
 obtain ⟨n,hn⟩:=Qa hy
 exact m_Z78_ok n R _ k r ((Ji hn).trans hk)

/-!-/
def c_Z79 {R:Type} (x0 x1:List D) (x2:Int) (k:List D×Bool→Option R):Option R:=
 (Z75 x0 x1).bind (Sum.elim (fun y0=>
 bif !y0 then
 k ([],Bool.false)
 else
 (Z44 x0 x1 x2).bind (fun y1=>
 bif decide (y1<(0:Int)) then
 k ([],Bool.false)
 else
 (Z44 x0 x1 x2).bind (fun y2=>
 none))) (fun y3=>
 bif !y3.snd.snd.snd.snd.snd then
 k ([],Bool.false)
 else
 (Z44 x0 x1 x2).bind (fun y4=>
 bif decide (y4<(0:Int)) then
 k ([],Bool.false)
 else
 (Z44 x0 x1 x2).bind (fun y5=>
 if (0:Int)≤(↑y3.fst.length:Int)∧(↑y3.fst.length:Int)≤(↑y3.fst.length:Int)∧(↑y3.fst.length:Int)≤(4294967296:Int) then
 (Z78 y5 (↑y3.snd.snd.snd.fst.length:Int) (0:Int) y3.fst y3.snd.fst y3.snd.snd.fst y3.snd.snd.snd.fst y3.snd.snd.snd.snd.fst (List.replicate (↑y3.fst.length:Int).toNat (D.int 0))).bind (fun y6=>
 k (y6,Bool.true))
 else
 none))))
theorem c_Z79_bind {R:Type} (x0 x1:List D) (x2:Int) (k:List D×Bool→Option R):c_Z79 x0 x1 x2 k=(c_Z79 x0 x1 x2 some).bind k:=by
 unfold c_Z79
 repeat' first
  | exact JE
  | exact JD
  | exact JC
  | apply Jz
  | apply JA
  | apply JF
  | (apply JB; intro _)
  | intro _
def Z79 (x0 x1:List D) (x2:Int):Option (List D×Bool):=c_Z79 x0 x1 x2 some
def e_Z79:Ent:=⟨58,[.agg [.rd (.struct [.int .i64,.int .i64]),.rd (.struct [.int .i64,.int .i64])],.int .i64],[(.tup [.own (.int .i64),.bool],[.undef,.undef])],fun _ ds k=>dL (fun x0 ds=>dL (fun x1 ds=>dI (fun x2 ds=>dE ((Z79 x0 x1 x2).bind (fun y=>k 0 [.L y.1,.B y.2])) ds) ds) ds) ds⟩
theorem q_Z79 (x0 x1:List D) (x2:Int):J5 (Jv [e_Z75,e_Z44]) (Jw [e_Z78]) A 58 Try.f58 (Sh.mks e_Z79.sh [.L x0,.L x1,.I x2]).1 (fun v os=>some (v,os))=c_Z79 x0 x1 x2 (fun y=>J7 e_Z79 0 [.L y.1,.B y.2]):=by kernel_rfl
theorem e_Z79_ok:e_Z79.ok Try.prog A:=by
 intro R ds k r h
 unfold e_Z79 at h
 obtain ⟨_,_,rfl,h⟩:=Jb h
 obtain ⟨_,_,rfl,h⟩:=Jb h
 obtain ⟨_,_,rfl,h⟩:=Ja h
 obtain ⟨rfl,hE⟩:=Je h
 obtain ⟨y,hy,hk⟩:=Jf hE
 exact ⟨0,_,_,_,hk,rfl,J8 px (fx:=⟨Try.func58,by kernel_rfl,by kernel_rfl⟩) (Jx e_Z75_ok (Jx e_Z44_ok Jq)) (Jn e_Z78_ok Jr) ((q_Z79 ..).trans ((c_Z79_bind ..).trans (Ji hy)))⟩

/-!-/
def c_Z80 {R:Type} (x0 x1 x2:Int) (k:Bool→Option R):Option R:=
 bif decide (x1≤x0) then
 k (decide (x0≤x2))
 else
 k Bool.false
theorem c_Z80_bind {R:Type} (x0 x1 x2:Int) (k:Bool→Option R):c_Z80 x0 x1 x2 k=(c_Z80 x0 x1 x2 some).bind k:=by
 unfold c_Z80
 repeat' first
  | exact JE
  | exact JD
  | exact JC
  | apply Jz
  | apply JA
  | apply JF
  | (apply JB; intro _)
  | intro _
def Z80 (x0 x1 x2:Int):Option (Bool):=c_Z80 x0 x1 x2 some
def e_Z80:Ent:=⟨108,[.int .i64,.int .i64,.int .i64],[(.bool,[.undef,.undef,.undef])],fun _ ds k=>dI (fun x0 ds=>dI (fun x1 ds=>dI (fun x2 ds=>dE ((Z80 x0 x1 x2).bind (fun y=>k 0 [.B y])) ds) ds) ds) ds⟩
theorem q_Z80 (x0 x1 x2:Int):J5 (Jv []) (Jw []) A 108 Try.f108 (Sh.mks e_Z80.sh [.I x0,.I x1,.I x2]).1 (fun v os=>some (v,os))=c_Z80 x0 x1 x2 (fun y=>J7 e_Z80 0 [.B y]):=by kernel_rfl
theorem e_Z80_ok:e_Z80.ok Try.prog A:=by
 intro R ds k r h
 unfold e_Z80 at h
 obtain ⟨_,_,rfl,h⟩:=Ja h
 obtain ⟨_,_,rfl,h⟩:=Ja h
 obtain ⟨_,_,rfl,h⟩:=Ja h
 obtain ⟨rfl,hE⟩:=Je h
 obtain ⟨y,hy,hk⟩:=Jf hE
 exact ⟨0,_,_,_,hk,rfl,J8 px (fx:=⟨Try.func108,by kernel_rfl,by kernel_rfl⟩) Jq Jr ((q_Z80 ..).trans ((c_Z80_bind ..).trans (Ji hy)))⟩

/-!-/
abbrev T_Z81:=Int→List D→List D→Option ((Bool×List D×List D)⊕(List D×List D))
def c_Z81 {R:Type} (F:T_Z81) (x0:Int) (x1 x2:List D) (k:(Bool×List D×List D)⊕(List D×List D)→Option R):Option R:=
 bif decide (x0<(↑x1.length:Int)) then
 if 0≤x0∧x0<(↑x1.length:Int) then
 (Z80 (((x1.getD x0.toNat (D.int 0)).fld (0:Nat)).toInt) (1:Int) (999:Int)).bind (fun y0=>
 bif !y0 then
 k (.inl (Bool.false,x1,x2))
 else
 (Z80 (((x1.getD x0.toNat (D.int 0)).fld (1:Nat)).toInt) (1:Int) (4:Int)).bind (fun y1=>
 bif !y1 then
 k (.inl (Bool.false,x1,x2))
 else
 bif decide ((0:Int)<x0) then
 if (0:Int)≤IntKind.i64.wrap (x0 - 1)∧IntKind.i64.wrap (x0 - 1)<(↑x1.length:Int) then
 bif decide (((x1.getD x0.toNat (D.int 0)).fld (0:Nat)).toInt≤((x1.getD (IntKind.i64.wrap (x0 - 1)).toNat (D.int 0)).fld (0:Nat)).toInt) then
 k (.inl (Bool.false,x1,x2))
 else
 (F (IntKind.i64.wrap (x0+1)) x1 x2).bind k
 else
 none
 else
 (F (IntKind.i64.wrap (x0+1)) x1 x2).bind k))
 else
 none
 else
 k (.inr (x1,x2))
theorem c_Z81_bind {R:Type} (F:T_Z81) (x0:Int) (x1 x2:List D) (k:(Bool×List D×List D)⊕(List D×List D)→Option R):c_Z81 F x0 x1 x2 k=(c_Z81 F x0 x1 x2 some).bind k:=by
 unfold c_Z81
 repeat' first
  | exact JE
  | exact JD
  | exact JC
  | apply Jz
  | apply JA
  | apply JF
  | (apply JB; intro _)
  | intro _
def n_Z81:Nat→T_Z81
 | 0,_,_,_=>none
 | n+1,x0,x1,x2=>c_Z81 (n_Z81 n) x0 x1 x2 some
noncomputable def Z81 (x0:Int) (x1 x2:List D):Option ((Bool×List D×List D)⊕(List D×List D)):=ev (fun n=>n_Z81 n x0 x1 x2)
def m_Z81 (F:T_Z81):Js:=⟨4,⟨(.undef::.ptr 1000 [0]::.undef::.int .i64::uu 97 ([])),[(1000,.obox (.agg [.rd (.struct [.int .i64,.int .i64]),.rd (.struct [.int .i64,.int .i64])]))]⟩,[(.ret,⟨(.undef::.ptr 1000 [0]::.bool::uu 98 ([])),[(1000,.obox (.agg [.rd (.struct [.int .i64,.int .i64]),.rd (.struct [.int .i64,.int .i64])]))]⟩),(.exit 0,⟨(.undef::.ptr 1000 [0]::uu 99 ([])),[(1000,.obox (.agg [.rd (.struct [.int .i64,.int .i64]),.rd (.struct [.int .i64,.int .i64])]))]⟩)],fun _ ds k=>dI (fun x0 ds=>dL (fun x1 ds=>dL (fun x2 ds=>dE ((F x0 x1 x2).bind (Sum.elim (fun y=>k 0 [.B y.1,.L y.2.1,.L y.2.2]) (fun y=>k 1 [.L y.1,.L y.2]))) ds) ds) ds) ds⟩
theorem q_Z81 (F:T_Z81) (x0:Int) (x1 x2:List D):J6 (Jv [e_Z80]) (Jw [m_Z81 F]) A 100 (Jl (Jk Try.f100) 4) ((m_Z81 F).sh.mk' [.I x0,.L x1,.L x2]) (fun e σ'=>some (e,σ'))=c_Z81 F x0 x1 x2 (Sum.elim (fun y=>some (.ret,SSt.mk' ⟨(.undef::.ptr 1000 [0]::.bool::uu 98 ([])),[(1000,.obox (.agg [.rd (.struct [.int .i64,.int .i64]),.rd (.struct [.int .i64,.int .i64])]))]⟩ [.B y.1,.L y.2.1,.L y.2.2])) (fun y=>some (.exit 0,SSt.mk' ⟨(.undef::.ptr 1000 [0]::uu 99 ([])),[(1000,.obox (.agg [.rd (.struct [.int .i64,.int .i64]),.rd (.struct [.int .i64,.int .i64])]))]⟩ [.L y.1,.L y.2]))):=by kernel_rfl
theorem m_Z81_ok:∀ n,(m_Z81 (n_Z81 n)).ok Try.prog (Jl (Jk Try.f100) 4):=by
 intro n
 induction n with
 | zero=>
  intro R ds k r h
  unfold m_Z81 at h
  obtain ⟨_,_,rfl,h⟩:=Ja h
  obtain ⟨_,_,rfl,h⟩:=Jb h
  obtain ⟨_,_,rfl,h⟩:=Jb h
  obtain ⟨rfl,hE⟩:=Je h
  obtain ⟨y,hy,hk⟩:=Jf hE
  cases hy
 | succ n ih=>
  intro R ds k r h
  unfold m_Z81 at h
  obtain ⟨_,_,rfl,h⟩:=Ja h
  obtain ⟨_,_,rfl,h⟩:=Jb h
  obtain ⟨_,_,rfl,h⟩:=Jb h
  obtain ⟨rfl,hE⟩:=Je h
  obtain ⟨y,hy,hk⟩:=Jf hE
  cases y with
  | inl y=>
   exact ⟨0,_,_,_,hk,rfl,JV px (fx:=⟨Try.func100,by kernel_rfl,by kernel_rfl⟩) (Jx e_Z80_ok Jq) (Jn ih Jr) (by kernel_rfl) ((q_Z81 ..).trans ((c_Z81_bind ..).trans (Ji hy)))⟩
  | inr y=>
   exact ⟨1,_,_,_,hk,rfl,JV px (fx:=⟨Try.func100,by kernel_rfl,by kernel_rfl⟩) (Jx e_Z80_ok Jq) (Jn ih Jr) (by kernel_rfl) ((q_Z81 ..).trans ((c_Z81_bind ..).trans (Ji hy)))⟩
noncomputable def e_Z81:Js:=m_Z81 (Z81)
theorem e_Z81_ok:(e_Z81).ok Try.prog (Jl (Jk Try.f100) 4):=by
 intro R ds k r h
 unfold e_Z81 m_Z81 at h
 obtain ⟨_,_,rfl,h⟩:=Ja h
 obtain ⟨_,_,rfl,h⟩:=Jb h
 obtain ⟨_,_,rfl,h⟩:=Jb h
 obtain ⟨rfl,hE⟩:=Je h
 obtain ⟨y,hy,hk⟩:=Jf hE
 obtain ⟨n,hn⟩:=Qa hy
 exact m_Z81_ok n R _ k r ((Ji hn).trans hk)

/-!-/
abbrev T_Z82:=Int→List D→List D→Option ((Bool)⊕(Unit))
def c_Z82 {R:Type} (F:T_Z82) (x0:Int) (x1 x2:List D) (k:(Bool)⊕(Unit)→Option R):Option R:=
 bif decide (x0<(↑x2.length:Int)) then
 if 0≤x0∧x0<(↑x2.length:Int) then
 bif decide (((x2.getD x0.toNat (D.int 0)).fld (0:Nat)).toInt=((x2.getD x0.toNat (D.int 0)).fld (1:Nat)).toInt) then
 k (.inl Bool.false)
 else
 (Z25 x1 x2 (((x2.getD x0.toNat (D.int 0)).fld (0:Nat)).toInt)).bind (fun y0=>
 bif decide (y0<(0:Int)) then
 k (.inl Bool.false)
 else
 (Z25 x1 x2 (((x2.getD x0.toNat (D.int 0)).fld (1:Nat)).toInt)).bind (fun y1=>
 bif decide (y1<(0:Int)) then
 k (.inl Bool.false)
 else
 bif decide ((0:Int)<x0) then
 if (0:Int)≤IntKind.i64.wrap (x0 - 1)∧IntKind.i64.wrap (x0 - 1)<(↑x2.length:Int) then
 (Z7 (((x2.getD (IntKind.i64.wrap (x0 - 1)).toNat (D.int 0)).fld (0:Nat)).toInt) (((x2.getD (IntKind.i64.wrap (x0 - 1)).toNat (D.int 0)).fld (1:Nat)).toInt) (((x2.getD x0.toNat (D.int 0)).fld (0:Nat)).toInt) (((x2.getD x0.toNat (D.int 0)).fld (1:Nat)).toInt)).bind (fun y2=>
 bif !y2 then
 k (.inl Bool.false)
 else
 (F (IntKind.i64.wrap (x0+1)) x1 x2).bind k)
 else
 none
 else
 (F (IntKind.i64.wrap (x0+1)) x1 x2).bind k))
 else
 none
 else
 k (.inr ())
theorem c_Z82_bind {R:Type} (F:T_Z82) (x0:Int) (x1 x2:List D) (k:(Bool)⊕(Unit)→Option R):c_Z82 F x0 x1 x2 k=(c_Z82 F x0 x1 x2 some).bind k:=by
 unfold c_Z82
 repeat' first
  | exact JE
  | exact JD
  | exact JC
  | apply Jz
  | apply JA
  | apply JF
  | (apply JB; intro _)
  | intro _
def n_Z82:Nat→T_Z82
 | 0,_,_,_=>none
 | n+1,x0,x1,x2=>c_Z82 (n_Z82 n) x0 x1 x2 some
noncomputable def Z82 (x0:Int) (x1 x2:List D):Option ((Bool)⊕(Unit)):=ev (fun n=>n_Z82 n x0 x1 x2)
def m_Z82 (F:T_Z82):Js:=⟨10,⟨(.undef::.ptr 1000 [0]::.undef::.undef::.undef::.int .i64::uu 95 ([])),[(1000,.obox (.agg [.rd (.struct [.int .i64,.int .i64]),.rd (.struct [.int .i64,.int .i64])]))]⟩,[(.ret,⟨(.undef::.undef::.bool::uu 98 ([])),[]⟩),(.exit 2,⟨(uu 101 ([])),[]⟩)],fun _ ds k=>dI (fun x0 ds=>dL (fun x1 ds=>dL (fun x2 ds=>dE ((F x0 x1 x2).bind (Sum.elim (fun y=>k 0 [.B y]) (fun y=>k 1 []))) ds) ds) ds) ds⟩
theorem q_Z82 (F:T_Z82) (x0:Int) (x1 x2:List D):J6 (Jv [e_Z25,e_Z7]) (Jw [m_Z82 F]) A 100 (Jl (Jk Try.f100) 10) ((m_Z82 F).sh.mk' [.I x0,.L x1,.L x2]) (fun e σ'=>some (e,σ'))=c_Z82 F x0 x1 x2 (Sum.elim (fun y=>some (.ret,SSt.mk' ⟨(.undef::.undef::.bool::uu 98 ([])),[]⟩ [.B y])) (fun y=>some (.exit 2,SSt.mk' ⟨(uu 101 ([])),[]⟩ []))):=by kernel_rfl
theorem m_Z82_ok:∀ n,(m_Z82 (n_Z82 n)).ok Try.prog (Jl (Jk Try.f100) 10):=by
 intro n
 induction n with
 | zero=>
  intro R ds k r h
  unfold m_Z82 at h
  obtain ⟨_,_,rfl,h⟩:=Ja h
  obtain ⟨_,_,rfl,h⟩:=Jb h
  obtain ⟨_,_,rfl,h⟩:=Jb h
  obtain ⟨rfl,hE⟩:=Je h
  obtain ⟨y,hy,hk⟩:=Jf hE
  cases hy
 | succ n ih=>
  intro R ds k r h
  unfold m_Z82 at h
  obtain ⟨_,_,rfl,h⟩:=Ja h
  obtain ⟨_,_,rfl,h⟩:=Jb h
  obtain ⟨_,_,rfl,h⟩:=Jb h
  obtain ⟨rfl,hE⟩:=Je h
  obtain ⟨y,hy,hk⟩:=Jf hE
  cases y with
  | inl y=>
   exact ⟨0,_,_,_,hk,rfl,JV px (fx:=⟨Try.func100,by kernel_rfl,by kernel_rfl⟩) (Jx e_Z25_ok (Jx e_Z7_ok Jq)) (Jn ih Jr) (by kernel_rfl) ((q_Z82 ..).trans ((c_Z82_bind ..).trans (Ji hy)))⟩
  | inr y=>
   exact ⟨1,_,_,_,hk,rfl,JV px (fx:=⟨Try.func100,by kernel_rfl,by kernel_rfl⟩) (Jx e_Z25_ok (Jx e_Z7_ok Jq)) (Jn ih Jr) (by kernel_rfl) ((q_Z82 ..).trans ((c_Z82_bind ..).trans (Ji hy)))⟩
noncomputable def e_Z82:Js:=m_Z82 (Z82)
theorem e_Z82_ok:(e_Z82).ok Try.prog (Jl (Jk Try.f100) 10):=by
 intro R ds k r h
 unfold e_Z82 m_Z82 at h
 obtain ⟨_,_,rfl,h⟩:=Ja h
 obtain ⟨_,_,rfl,h⟩:=Jb h
 obtain ⟨_,_,rfl,h⟩:=Jb h
 obtain ⟨rfl,hE⟩:=Je h
 obtain ⟨y,hy,hk⟩:=Jf hE
 obtain ⟨n,hn⟩:=Qa hy
 exact m_Z82_ok n R _ k r ((Ji hn).trans hk)

/-!-/
def c_Z83 {R:Type} (x0 x1:List D) (k:Bool→Option R):Option R:=
 bif decide ((10:Int)<(↑x0.length:Int)) then
 k Bool.false
 else
 bif decide ((24:Int)<(↑x1.length:Int)) then
 k Bool.false
 else
 (Z81 (0:Int) x0 x1).bind (Sum.elim (fun y0=>
 k y0.fst) (fun y1=>
 (Z82 (0:Int) y1.fst y1.snd).bind (Sum.elim (fun y2=>
 k y2) (fun y3=>
 k Bool.true))))
theorem c_Z83_bind {R:Type} (x0 x1:List D) (k:Bool→Option R):c_Z83 x0 x1 k=(c_Z83 x0 x1 some).bind k:=by
 unfold c_Z83
 repeat' first
  | exact JE
  | exact JD
  | exact JC
  | apply Jz
  | apply JA
  | apply JF
  | (apply JB; intro _)
  | intro _
def Z83 (x0 x1:List D):Option (Bool):=c_Z83 x0 x1 some
def e_Z83:Ent:=⟨100,[.agg [.rd (.struct [.int .i64,.int .i64]),.rd (.struct [.int .i64,.int .i64])]],[(.bool,[.undef])],fun _ ds k=>dL (fun x0 ds=>dL (fun x1 ds=>dE ((Z83 x0 x1).bind (fun y=>k 0 [.B y])) ds) ds) ds⟩
theorem q_Z83 (x0 x1:List D):J5 (Jv []) (Jw [e_Z81,e_Z82]) A 100 Try.f100 (Sh.mks e_Z83.sh [.L x0,.L x1]).1 (fun v os=>some (v,os))=c_Z83 x0 x1 (fun y=>J7 e_Z83 0 [.B y]):=by kernel_rfl
theorem e_Z83_ok:e_Z83.ok Try.prog A:=by
 intro R ds k r h
 unfold e_Z83 at h
 obtain ⟨_,_,rfl,h⟩:=Jb h
 obtain ⟨_,_,rfl,h⟩:=Jb h
 obtain ⟨rfl,hE⟩:=Je h
 obtain ⟨y,hy,hk⟩:=Jf hE
 exact ⟨0,_,_,_,hk,rfl,J8 px (fx:=⟨Try.func100,by kernel_rfl,by kernel_rfl⟩) Jq (Jn e_Z81_ok (Jn e_Z82_ok Jr)) ((q_Z83 ..).trans ((c_Z83_bind ..).trans (Ji hy)))⟩

/-!-/
def c_Z84 {R:Type} (x0 x1:List D) (k:Bool→Option R):Option R:=
 (Z83 x0 x1).bind (fun y0=>
 bif y0 then
 (Z32 x0 x1).bind (fun y1=>
 k y1)
 else
 k Bool.false)
theorem c_Z84_bind {R:Type} (x0 x1:List D) (k:Bool→Option R):c_Z84 x0 x1 k=(c_Z84 x0 x1 some).bind k:=by
 unfold c_Z84
 repeat' first
  | exact JE
  | exact JD
  | exact JC
  | apply Jz
  | apply JA
  | apply JF
  | (apply JB; intro _)
  | intro _
def Z84 (x0 x1:List D):Option (Bool):=c_Z84 x0 x1 some
def e_Z84:Ent:=⟨89,[.agg [.rd (.struct [.int .i64,.int .i64]),.rd (.struct [.int .i64,.int .i64])]],[(.bool,[.undef])],fun _ ds k=>dL (fun x0 ds=>dL (fun x1 ds=>dE ((Z84 x0 x1).bind (fun y=>k 0 [.B y])) ds) ds) ds⟩
theorem q_Z84 (x0 x1:List D):J5 (Jv [e_Z83,e_Z32]) (Jw []) A 89 Try.f89 (Sh.mks e_Z84.sh [.L x0,.L x1]).1 (fun v os=>some (v,os))=c_Z84 x0 x1 (fun y=>J7 e_Z84 0 [.B y]):=by kernel_rfl
theorem e_Z84_ok:e_Z84.ok Try.prog A:=by
 intro R ds k r h
 unfold e_Z84 at h
 obtain ⟨_,_,rfl,h⟩:=Jb h
 obtain ⟨_,_,rfl,h⟩:=Jb h
 obtain ⟨rfl,hE⟩:=Je h
 obtain ⟨y,hy,hk⟩:=Jf hE
 exact ⟨0,_,_,_,hk,rfl,J8 px (fx:=⟨Try.func89,by kernel_rfl,by kernel_rfl⟩) (Jx e_Z83_ok (Jx e_Z32_ok Jq)) Jr ((q_Z84 ..).trans ((c_Z84_bind ..).trans (Ji hy)))⟩

/-!-/
abbrev T_Z85:=List D→Int→Int→Int→Option ((Bool)⊕(Unit))
def c_Z85 {R:Type} (F:T_Z85) (x0:List D) (x1 x2 x3:Int) (k:(Bool)⊕(Unit)→Option R):Option R:=
 bif decide (x3<(↑x0.length:Int)) then
 if 0≤x3∧x3<(↑x0.length:Int) then
 (Z30 ((x0.getD x3.toNat (D.int 0)).toInt) x2).bind (fun y0=>
 bif y0 then
 (Z30 x1 x3).bind (fun y1=>
 bif !y1 then
 k (.inl Bool.false)
 else
 (F x0 x1 x2 (IntKind.i64.wrap (x3+1))).bind k)
 else
 (F x0 x1 x2 (IntKind.i64.wrap (x3+1))).bind k)
 else
 none
 else
 k (.inr ())
theorem c_Z85_bind {R:Type} (F:T_Z85) (x0:List D) (x1 x2 x3:Int) (k:(Bool)⊕(Unit)→Option R):c_Z85 F x0 x1 x2 x3 k=(c_Z85 F x0 x1 x2 x3 some).bind k:=by
 unfold c_Z85
 repeat' first
  | exact JE
  | exact JD
  | exact JC
  | apply Jz
  | apply JA
  | apply JF
  | (apply JB; intro _)
  | intro _
def n_Z85:Nat→T_Z85
 | 0,_,_,_,_=>none
 | n+1,x0,x1,x2,x3=>c_Z85 (n_Z85 n) x0 x1 x2 x3 some
noncomputable def Z85 (x0:List D) (x1 x2 x3:Int):Option ((Bool)⊕(Unit)):=ev (fun n=>n_Z85 n x0 x1 x2 x3)
def m_Z85 (F:T_Z85):Js:=⟨4,⟨(.rd (.int .i64)::.int .i64::.int .i64::uu 4 (.int .i64::uu 21 ([]))),[]⟩,[(.ret,⟨(uu 6 (.bool::uu 22 ([]))),[]⟩),(.exit 0,⟨(uu 29 ([])),[]⟩)],fun _ ds k=>dL (fun x0 ds=>dI (fun x1 ds=>dI (fun x2 ds=>dI (fun x3 ds=>dE ((F x0 x1 x2 x3).bind (Sum.elim (fun y=>k 0 [.B y]) (fun y=>k 1 []))) ds) ds) ds) ds) ds⟩
theorem q_Z85 (F:T_Z85) (x0:List D) (x1 x2 x3:Int):J6 (Jv [e_Z30]) (Jw [m_Z85 F]) A 173 (Jl (Jk Try.f173) 4) ((m_Z85 F).sh.mk' [.L x0,.I x1,.I x2,.I x3]) (fun e σ'=>some (e,σ'))=c_Z85 F x0 x1 x2 x3 (Sum.elim (fun y=>some (.ret,SSt.mk' ⟨(uu 6 (.bool::uu 22 ([]))),[]⟩ [.B y])) (fun y=>some (.exit 0,SSt.mk' ⟨(uu 29 ([])),[]⟩ []))):=by kernel_rfl
theorem m_Z85_ok:∀ n,(m_Z85 (n_Z85 n)).ok Try.prog (Jl (Jk Try.f173) 4):=by
 intro n
 induction n with
 | zero=>
  intro R ds k r h
  unfold m_Z85 at h
  obtain ⟨_,_,rfl,h⟩:=Jb h
  obtain ⟨_,_,rfl,h⟩:=Ja h
  obtain ⟨_,_,rfl,h⟩:=Ja h
  obtain ⟨_,_,rfl,h⟩:=Ja h
  obtain ⟨rfl,hE⟩:=Je h
  obtain ⟨y,hy,hk⟩:=Jf hE
  cases hy
 | succ n ih=>
  intro R ds k r h
  unfold m_Z85 at h
  obtain ⟨_,_,rfl,h⟩:=Jb h
  obtain ⟨_,_,rfl,h⟩:=Ja h
  obtain ⟨_,_,rfl,h⟩:=Ja h
  obtain ⟨_,_,rfl,h⟩:=Ja h
  obtain ⟨rfl,hE⟩:=Je h
  obtain ⟨y,hy,hk⟩:=Jf hE
  cases y with
  | inl y=>
   exact ⟨0,_,_,_,hk,rfl,JV px (fx:=⟨Try.func173,by kernel_rfl,by kernel_rfl⟩) (Jx e_Z30_ok Jq) (Jn ih Jr) (by kernel_rfl) ((q_Z85 ..).trans ((c_Z85_bind ..).trans (Ji hy)))⟩
  | inr y=>
   exact ⟨1,_,_,_,hk,rfl,JV px (fx:=⟨Try.func173,by kernel_rfl,by kernel_rfl⟩) (Jx e_Z30_ok Jq) (Jn ih Jr) (by kernel_rfl) ((q_Z85 ..).trans ((c_Z85_bind ..).trans (Ji hy)))⟩
noncomputable def e_Z85:Js:=m_Z85 (Z85)
theorem e_Z85_ok:(e_Z85).ok Try.prog (Jl (Jk Try.f173) 4):=by
 intro R ds k r h
 unfold e_Z85 m_Z85 at h
 obtain ⟨_,_,rfl,h⟩:=Jb h
 obtain ⟨_,_,rfl,h⟩:=Ja h
 obtain ⟨_,_,rfl,h⟩:=Ja h
 obtain ⟨_,_,rfl,h⟩:=Ja h
 obtain ⟨rfl,hE⟩:=Je h
 obtain ⟨y,hy,hk⟩:=Jf hE
 obtain ⟨n,hn⟩:=Qa hy
 exact m_Z85_ok n R _ k r ((Ji hn).trans hk)

/-!-/
def c_Z86 {R:Type} (x0:List D) (x1 x2:Int) (k:Bool→Option R):Option R:=
 (Z30 x1 x2).bind (fun y0=>
 bif y0 then
 k Bool.false
 else
 (Z85 x0 x1 x2 (0:Int)).bind (Sum.elim (fun y1=>
 k y1) (fun y2=>
 k Bool.true)))
theorem c_Z86_bind {R:Type} (x0:List D) (x1 x2:Int) (k:Bool→Option R):c_Z86 x0 x1 x2 k=(c_Z86 x0 x1 x2 some).bind k:=by
 unfold c_Z86
 repeat' first
  | exact JE
  | exact JD
  | exact JC
  | apply Jz
  | apply JA
  | apply JF
  | (apply JB; intro _)
  | intro _
def Z86 (x0:List D) (x1 x2:Int):Option (Bool):=c_Z86 x0 x1 x2 some
def e_Z86:Ent:=⟨173,[.rd (.int .i64),.int .i64,.int .i64],[(.bool,[.undef,.undef,.undef])],fun _ ds k=>dL (fun x0 ds=>dI (fun x1 ds=>dI (fun x2 ds=>dE ((Z86 x0 x1 x2).bind (fun y=>k 0 [.B y])) ds) ds) ds) ds⟩
theorem q_Z86 (x0:List D) (x1 x2:Int):J5 (Jv [e_Z30]) (Jw [e_Z85]) A 173 Try.f173 (Sh.mks e_Z86.sh [.L x0,.I x1,.I x2]).1 (fun v os=>some (v,os))=c_Z86 x0 x1 x2 (fun y=>J7 e_Z86 0 [.B y]):=by kernel_rfl
theorem e_Z86_ok:e_Z86.ok Try.prog A:=by
 intro R ds k r h
 unfold e_Z86 at h
 obtain ⟨_,_,rfl,h⟩:=Jb h
 obtain ⟨_,_,rfl,h⟩:=Ja h
 obtain ⟨_,_,rfl,h⟩:=Ja h
 obtain ⟨rfl,hE⟩:=Je h
 obtain ⟨y,hy,hk⟩:=Jf hE
 exact ⟨0,_,_,_,hk,rfl,J8 px (fx:=⟨Try.func173,by kernel_rfl,by kernel_rfl⟩) (Jx e_Z30_ok Jq) (Jn e_Z85_ok Jr) ((q_Z86 ..).trans ((c_Z86_bind ..).trans (Ji hy)))⟩

/-!-/
abbrev T_Z87:=List D→Int→Int→Int→List D→Option (List D×Int×Int×List D)
def c_Z87 {R:Type} (F:T_Z87) (x0:List D) (x1 x2 x3:Int) (x4:List D) (k:List D×Int×Int×List D→Option R):Option R:=
 bif decide (x3<x1) then
 (Z86 x0 x2 x3).bind (fun y0=>
 bif y0 then
 if 0≤x2∧x2<(↑x4.length:Int) then
 if x2.toNat+1≤x4.length then
 if (0:Int)≤IntKind.u64.wrap x3 then
 if (0:Int)≤IntKind.i64.wrap (↑(BitVec.ofInt IntKind.i64.bits x2 ||| BitVec.ofInt IntKind.i64.bits (IntKind.i64.wrap ((1:Int) * (2:Int) ^ Min.min (IntKind.u64.wrap x3).toNat IntKind.i64.bits))).toNat:Int)∧IntKind.i64.wrap (↑(BitVec.ofInt IntKind.i64.bits x2 ||| BitVec.ofInt IntKind.i64.bits (IntKind.i64.wrap ((1:Int) * (2:Int) ^ Min.min (IntKind.u64.wrap x3).toNat IntKind.i64.bits))).toNat:Int)<(↑x4.length:Int) then
 if (IntKind.i64.wrap (↑(BitVec.ofInt IntKind.i64.bits x2 ||| BitVec.ofInt IntKind.i64.bits (IntKind.i64.wrap ((1:Int) * (2:Int) ^ Min.min (IntKind.u64.wrap x3).toNat IntKind.i64.bits))).toNat:Int)).toNat+1≤x4.length then
 if 0≤x2∧x2<(↑x4.length:Int) then
 if x2.toNat+1≤x4.length then
 (F x0 x1 x2 (IntKind.i64.wrap (x3+1)) (x4.set x2.toNat (D.int (IntKind.i64.wrap ((x4.getD x2.toNat (D.int 0)).toInt+(x4.getD (IntKind.i64.wrap (↑(BitVec.ofInt IntKind.i64.bits x2 ||| BitVec.ofInt IntKind.i64.bits (IntKind.i64.wrap ((1:Int) * (2:Int) ^ Min.min (IntKind.u64.wrap x3).toNat IntKind.i64.bits))).toNat:Int)).toNat (D.int 0)).toInt))))).bind k
 else
 none
 else
 none
 else
 none
 else
 none
 else
 none
 else
 none
 else
 none
 else
 (F x0 x1 x2 (IntKind.i64.wrap (x3+1)) x4).bind k)
 else
 k (x0,x1,x2,x4)
theorem c_Z87_bind {R:Type} (F:T_Z87) (x0:List D) (x1 x2 x3:Int) (x4:List D) (k:List D×Int×Int×List D→Option R):c_Z87 F x0 x1 x2 x3 x4 k=(c_Z87 F x0 x1 x2 x3 x4 some).bind k:=by
 unfold c_Z87
 repeat' first
  | exact JE
  | exact JD
  | exact JC
  | apply Jz
  | apply JA
  | apply JF
  | (apply JB; intro _)
  | intro _
def n_Z87:Nat→T_Z87
 | 0,_,_,_,_,_=>none
 | n+1,x0,x1,x2,x3,x4=>c_Z87 (n_Z87 n) x0 x1 x2 x3 x4 some
noncomputable def Z87 (x0:List D) (x1 x2 x3:Int) (x4:List D):Option (List D×Int×Int×List D):=ev (fun n=>n_Z87 n x0 x1 x2 x3 x4)
def m_Z87 (F:T_Z87):Js:=⟨9,⟨(.rd (.int .i64)::.undef::.undef::.int .i64::.undef::.full 1000 [] (.int .i64)::.int .i64::.int .i64::uu 44 ([])),[(1000,.own (.int .i64))]⟩,[(.exit 2,⟨(.rd (.int .i64)::.undef::.undef::.int .i64::.undef::.full 1000 [] (.int .i64)::.int .i64::uu 45 ([])),[(1000,.own (.int .i64))]⟩)],fun _ ds k=>dL (fun x0 ds=>dI (fun x1 ds=>dI (fun x2 ds=>dI (fun x3 ds=>dL (fun x4 ds=>dE ((F x0 x1 x2 x3 x4).bind (fun y=>k 0 [.L y.1,.I y.2.1,.I y.2.2.1,.L y.2.2.2])) ds) ds) ds) ds) ds) ds⟩
theorem q_Z87 (F:T_Z87) (x0:List D) (x1 x2 x3:Int) (x4:List D):J6 (Jv [e_Z86]) (Jw [m_Z87 F]) A 90 (Jl (Jk Try.f90) 9) ((m_Z87 F).sh.mk' [.L x0,.I x1,.I x2,.I x3,.L x4]) (fun e σ'=>some (e,σ'))=c_Z87 F x0 x1 x2 x3 x4 (fun y=>some (.exit 2,SSt.mk' ⟨(.rd (.int .i64)::.undef::.undef::.int .i64::.undef::.full 1000 [] (.int .i64)::.int .i64::uu 45 ([])),[(1000,.own (.int .i64))]⟩ [.L y.1,.I y.2.1,.I y.2.2.1,.L y.2.2.2])):=by kernel_rfl
theorem m_Z87_ok:∀ n,(m_Z87 (n_Z87 n)).ok Try.prog (Jl (Jk Try.f90) 9):=by
 intro n
 induction n with
 | zero=>
  intro R ds k r h
  unfold m_Z87 at h
  obtain ⟨_,_,rfl,h⟩:=Jb h
  obtain ⟨_,_,rfl,h⟩:=Ja h
  obtain ⟨_,_,rfl,h⟩:=Ja h
  obtain ⟨_,_,rfl,h⟩:=Ja h
  obtain ⟨_,_,rfl,h⟩:=Jb h
  obtain ⟨rfl,hE⟩:=Je h
  obtain ⟨y,hy,hk⟩:=Jf hE
  cases hy
 | succ n ih=>
  intro R ds k r h
  unfold m_Z87 at h
  obtain ⟨_,_,rfl,h⟩:=Jb h
  obtain ⟨_,_,rfl,h⟩:=Ja h
  obtain ⟨_,_,rfl,h⟩:=Ja h
  obtain ⟨_,_,rfl,h⟩:=Ja h
  obtain ⟨_,_,rfl,h⟩:=Jb h
  obtain ⟨rfl,hE⟩:=Je h
  obtain ⟨y,hy,hk⟩:=Jf hE
  exact ⟨0,_,_,_,hk,rfl,JV px (fx:=⟨Try.func90,by kernel_rfl,by kernel_rfl⟩) (Jx e_Z86_ok Jq) (Jn ih Jr) (by kernel_rfl) ((q_Z87 ..).trans ((c_Z87_bind ..).trans (Ji hy)))⟩
noncomputable def e_Z87:Js:=m_Z87 (Z87)
theorem e_Z87_ok:(e_Z87).ok Try.prog (Jl (Jk Try.f90) 9):=by
 intro R ds k r h
 unfold e_Z87 m_Z87 at h
 obtain ⟨_,_,rfl,h⟩:=Jb h
 obtain ⟨_,_,rfl,h⟩:=Ja h
 obtain ⟨_,_,rfl,h⟩:=Ja h
 obtain ⟨_,_,rfl,h⟩:=Ja h
 obtain ⟨_,_,rfl,h⟩:=Jb h
 obtain ⟨rfl,hE⟩:=Je h
 obtain ⟨y,hy,hk⟩:=Jf hE
 obtain ⟨n,hn⟩:=Qa hy
 exact m_Z87_ok n R _ k r ((Ji hn).trans hk)

/-!-/
abbrev T_Z88:=List D→Int→Int→List D→Option (List D)
def c_Z88 {R:Type} (F:T_Z88) (x0:List D) (x1 x2:Int) (x3:List D) (k:List D→Option R):Option R:=
 bif decide ((0:Int)≤x2) then
 (Z87 x0 x1 x2 (0:Int) x3).bind (fun y0=>
 (F y0.fst y0.snd.fst (IntKind.i64.wrap (y0.snd.snd.fst - 1)) y0.snd.snd.snd).bind k)
 else
 k x3
theorem c_Z88_bind {R:Type} (F:T_Z88) (x0:List D) (x1 x2:Int) (x3:List D) (k:List D→Option R):c_Z88 F x0 x1 x2 x3 k=(c_Z88 F x0 x1 x2 x3 some).bind k:=by
 unfold c_Z88
 repeat' first
  | exact JE
  | exact JD
  | exact JC
  | apply Jz
  | apply JA
  | apply JF
  | (apply JB; intro _)
  | intro _
def n_Z88:Nat→T_Z88
 | 0,_,_,_,_=>none
 | n+1,x0,x1,x2,x3=>c_Z88 (n_Z88 n) x0 x1 x2 x3 some
noncomputable def Z88 (x0:List D) (x1 x2:Int) (x3:List D):Option (List D):=ev (fun n=>n_Z88 n x0 x1 x2 x3)
def m_Z88 (F:T_Z88):Js:=⟨6,⟨(.rd (.int .i64)::.undef::.undef::.int .i64::.undef::.full 1000 [] (.int .i64)::.int .i64::uu 45 ([])),[(1000,.own (.int .i64))]⟩,[(.exit 0,⟨(uu 5 (.full 1000 [] (.int .i64)::uu 46 ([]))),[(1000,.own (.int .i64))]⟩)],fun _ ds k=>dL (fun x0 ds=>dI (fun x1 ds=>dI (fun x2 ds=>dL (fun x3 ds=>dE ((F x0 x1 x2 x3).bind (fun y=>k 0 [.L y])) ds) ds) ds) ds) ds⟩
theorem q_Z88 (F:T_Z88) (x0:List D) (x1 x2:Int) (x3:List D):J6 (Jv []) (Jw [m_Z88 F,e_Z87]) A 90 (Jl (Jk Try.f90) 6) ((m_Z88 F).sh.mk' [.L x0,.I x1,.I x2,.L x3]) (fun e σ'=>some (e,σ'))=c_Z88 F x0 x1 x2 x3 (fun y=>some (.exit 0,SSt.mk' ⟨(uu 5 (.full 1000 [] (.int .i64)::uu 46 ([]))),[(1000,.own (.int .i64))]⟩ [.L y])):=by kernel_rfl
theorem m_Z88_ok:∀ n,(m_Z88 (n_Z88 n)).ok Try.prog (Jl (Jk Try.f90) 6):=by
 intro n
 induction n with
 | zero=>
  intro R ds k r h
  unfold m_Z88 at h
  obtain ⟨_,_,rfl,h⟩:=Jb h
  obtain ⟨_,_,rfl,h⟩:=Ja h
  obtain ⟨_,_,rfl,h⟩:=Ja h
  obtain ⟨_,_,rfl,h⟩:=Jb h
  obtain ⟨rfl,hE⟩:=Je h
  obtain ⟨y,hy,hk⟩:=Jf hE
  cases hy
 | succ n ih=>
  intro R ds k r h
  unfold m_Z88 at h
  obtain ⟨_,_,rfl,h⟩:=Jb h
  obtain ⟨_,_,rfl,h⟩:=Ja h
  obtain ⟨_,_,rfl,h⟩:=Ja h
  obtain ⟨_,_,rfl,h⟩:=Jb h
  obtain ⟨rfl,hE⟩:=Je h
  obtain ⟨y,hy,hk⟩:=Jf hE
  exact ⟨0,_,_,_,hk,rfl,JV px (fx:=⟨Try.func90,by kernel_rfl,by kernel_rfl⟩) Jq (Jn ih (Jn e_Z87_ok Jr)) (by kernel_rfl) ((q_Z88 ..).trans ((c_Z88_bind ..).trans (Ji hy)))⟩
noncomputable def e_Z88:Js:=m_Z88 (Z88)
theorem e_Z88_ok:(e_Z88).ok Try.prog (Jl (Jk Try.f90) 6):=by
 intro R ds k r h
 unfold e_Z88 m_Z88 at h
 obtain ⟨_,_,rfl,h⟩:=Jb h
 obtain ⟨_,_,rfl,h⟩:=Ja h
 obtain ⟨_,_,rfl,h⟩:=Ja h
 obtain ⟨_,_,rfl,h⟩:=Jb h
 obtain ⟨rfl,hE⟩:=Je h
 obtain ⟨y,hy,hk⟩:=Jf hE
 obtain ⟨n,hn⟩:=Qa hy
 exact m_Z88_ok n R _ k r ((Ji hn).trans hk)

/-!-/
def c_Z89 {R:Type} (x0:List D) (k:List D→Option R):Option R:=
 if (0:Int)≤IntKind.u64.wrap (↑x0.length:Int) then
 if (0:Int)≤IntKind.i64.wrap (IntKind.i64.wrap (IntKind.i64.wrap ((1:Int) * (2:Int) ^ Min.min (IntKind.u64.wrap (↑x0.length:Int)).toNat IntKind.i64.bits) - (1:Int))+(1:Int))∧IntKind.i64.wrap (IntKind.i64.wrap (IntKind.i64.wrap ((1:Int) * (2:Int) ^ Min.min (IntKind.u64.wrap (↑x0.length:Int)).toNat IntKind.i64.bits) - (1:Int))+(1:Int))≤IntKind.i64.wrap (IntKind.i64.wrap (IntKind.i64.wrap ((1:Int) * (2:Int) ^ Min.min (IntKind.u64.wrap (↑x0.length:Int)).toNat IntKind.i64.bits) - (1:Int))+(1:Int))∧IntKind.i64.wrap (IntKind.i64.wrap (IntKind.i64.wrap ((1:Int) * (2:Int) ^ Min.min (IntKind.u64.wrap (↑x0.length:Int)).toNat IntKind.i64.bits) - (1:Int))+(1:Int))≤(4294967296:Int) then
 if (0:Int)≤IntKind.i64.wrap (IntKind.i64.wrap ((1:Int) * (2:Int) ^ Min.min (IntKind.u64.wrap (↑x0.length:Int)).toNat IntKind.i64.bits) - (1:Int))∧IntKind.i64.wrap (IntKind.i64.wrap ((1:Int) * (2:Int) ^ Min.min (IntKind.u64.wrap (↑x0.length:Int)).toNat IntKind.i64.bits) - (1:Int))<(↑(List.replicate (IntKind.i64.wrap (IntKind.i64.wrap (IntKind.i64.wrap ((1:Int) * (2:Int) ^ Min.min (IntKind.u64.wrap (↑x0.length:Int)).toNat IntKind.i64.bits) - (1:Int))+(1:Int))).toNat (D.int 0)).length:Int) then
 if (IntKind.i64.wrap (IntKind.i64.wrap ((1:Int) * (2:Int) ^ Min.min (IntKind.u64.wrap (↑x0.length:Int)).toNat IntKind.i64.bits) - (1:Int))).toNat+1≤(List.replicate (IntKind.i64.wrap (IntKind.i64.wrap (IntKind.i64.wrap ((1:Int) * (2:Int) ^ Min.min (IntKind.u64.wrap (↑x0.length:Int)).toNat IntKind.i64.bits) - (1:Int))+(1:Int))).toNat (D.int 0)).length then
 (Z88 x0 (↑x0.length:Int) (IntKind.i64.wrap (IntKind.i64.wrap (IntKind.i64.wrap ((1:Int) * (2:Int) ^ Min.min (IntKind.u64.wrap (↑x0.length:Int)).toNat IntKind.i64.bits) - (1:Int)) - (1:Int))) ((List.replicate (IntKind.i64.wrap (IntKind.i64.wrap (IntKind.i64.wrap ((1:Int) * (2:Int) ^ Min.min (IntKind.u64.wrap (↑x0.length:Int)).toNat IntKind.i64.bits) - (1:Int))+(1:Int))).toNat (D.int 0)).set (IntKind.i64.wrap (IntKind.i64.wrap ((1:Int) * (2:Int) ^ Min.min (IntKind.u64.wrap (↑x0.length:Int)).toNat IntKind.i64.bits) - (1:Int))).toNat (D.int (1:Int)))).bind (fun y0=>
 k y0)
 else
 none
 else
 none
 else
 none
 else
 none
theorem c_Z89_bind {R:Type} (x0:List D) (k:List D→Option R):c_Z89 x0 k=(c_Z89 x0 some).bind k:=by
 unfold c_Z89
 repeat' first
  | exact JE
  | exact JD
  | exact JC
  | apply Jz
  | apply JA
  | apply JF
  | (apply JB; intro _)
  | intro _
def Z89 (x0:List D):Option (List D):=c_Z89 x0 some
def e_Z89:Ent:=⟨90,[.rd (.int .i64)],[(.own (.int .i64),[.undef])],fun _ ds k=>dL (fun x0 ds=>dE ((Z89 x0).bind (fun y=>k 0 [.L y])) ds) ds⟩
theorem q_Z89 (x0:List D):J5 (Jv []) (Jw [e_Z88]) A 90 Try.f90 (Sh.mks e_Z89.sh [.L x0]).1 (fun v os=>some (v,os))=c_Z89 x0 (fun y=>J7 e_Z89 0 [.L y]):=by kernel_rfl
theorem e_Z89_ok:e_Z89.ok Try.prog A:=by
 intro R ds k r h
 unfold e_Z89 at h
 obtain ⟨_,_,rfl,h⟩:=Jb h
 obtain ⟨rfl,hE⟩:=Je h
 obtain ⟨y,hy,hk⟩:=Jf hE
 exact ⟨0,_,_,_,hk,rfl,J8 px (fx:=⟨Try.func90,by kernel_rfl,by kernel_rfl⟩) Jq (Jn e_Z88_ok Jr) ((q_Z89 ..).trans ((c_Z89_bind ..).trans (Ji hy)))⟩

/-!-/
abbrev T_Z90:=Int→Int→Int→Int→Int→List D→List D→List D→List D→Option (Int×Int×Int×Int×List D×List D×List D×List D)
def c_Z90 {R:Type} (F:T_Z90) (x0 x1 x2 x3 x4:Int) (x5 x6 x7 x8:List D) (k:Int×Int×Int×Int×List D×List D×List D×List D→Option R):Option R:=
 bif decide (x4<x1) then
 (Z30 x2 x4).bind (fun y0=>
 bif y0 then
 (F x0 x1 x2 (IntKind.i64.wrap (x3+1)) (IntKind.i64.wrap (x4+1)) x5 x6 x7 x8).bind k
 else
 (F x0 x1 x2 x3 (IntKind.i64.wrap (x4+1)) x5 x6 x7 x8).bind k)
 else
 k (x0,x1,x2,x3,x5,x6,x7,x8)
theorem c_Z90_bind {R:Type} (F:T_Z90) (x0 x1 x2 x3 x4:Int) (x5 x6 x7 x8:List D) (k:Int×Int×Int×Int×List D×List D×List D×List D→Option R):c_Z90 F x0 x1 x2 x3 x4 x5 x6 x7 x8 k=(c_Z90 F x0 x1 x2 x3 x4 x5 x6 x7 x8 some).bind k:=by
 unfold c_Z90
 repeat' first
  | exact JE
  | exact JD
  | exact JC
  | apply Jz
  | apply JA
  | apply JF
  | (apply JB; intro _)
  | intro _
def n_Z90:Nat→T_Z90
 | 0,_,_,_,_,_,_,_,_,_=>none
 | n+1,x0,x1,x2,x3,x4,x5,x6,x7,x8=>c_Z90 (n_Z90 n) x0 x1 x2 x3 x4 x5 x6 x7 x8 some
noncomputable def Z90 (x0 x1 x2 x3 x4:Int) (x5 x6 x7 x8:List D):Option (Int×Int×Int×Int×List D×List D×List D×List D):=ev (fun n=>n_Z90 n x0 x1 x2 x3 x4 x5 x6 x7 x8)
def m_Z90 (F:T_Z90):Js:=⟨12,⟨(.undef::.int .i64::.undef::.undef::.undef::.full 1000 [] (.int .i64)::.int .i64::.full 1001 [] (.int .i64)::.full 1002 [] (.int .i64)::.full 1003 [] (.int .i64)::.int .i64::.int .i64::.int .i64::uu 93 ([])),[(1000,.own (.int .i64)),(1001,.own (.int .i64)),(1002,.own (.int .i64)),(1003,.own (.int .i64))]⟩,[(.exit 2,⟨(.undef::.int .i64::.undef::.undef::.undef::.full 1000 [] (.int .i64)::.int .i64::.full 1001 [] (.int .i64)::.full 1002 [] (.int .i64)::.full 1003 [] (.int .i64)::.int .i64::.int .i64::uu 94 ([])),[(1000,.own (.int .i64)),(1001,.own (.int .i64)),(1002,.own (.int .i64)),(1003,.own (.int .i64))]⟩)],fun _ ds k=>dI (fun x0 ds=>dI (fun x1 ds=>dI (fun x2 ds=>dI (fun x3 ds=>dI (fun x4 ds=>dL (fun x5 ds=>dL (fun x6 ds=>dL (fun x7 ds=>dL (fun x8 ds=>dE ((F x0 x1 x2 x3 x4 x5 x6 x7 x8).bind (fun y=>k 0 [.I y.1,.I y.2.1,.I y.2.2.1,.I y.2.2.2.1,.L y.2.2.2.2.1,.L y.2.2.2.2.2.1,.L y.2.2.2.2.2.2.1,.L y.2.2.2.2.2.2.2])) ds) ds) ds) ds) ds) ds) ds) ds) ds) ds⟩
theorem q_Z90 (F:T_Z90) (x0 x1 x2 x3 x4:Int) (x5 x6 x7 x8:List D):J6 (Jv [e_Z30]) (Jw [m_Z90 F]) A 146 (Jl (Jk Try.f146) 12) ((m_Z90 F).sh.mk' [.I x0,.I x1,.I x2,.I x3,.I x4,.L x5,.L x6,.L x7,.L x8]) (fun e σ'=>some (e,σ'))=c_Z90 F x0 x1 x2 x3 x4 x5 x6 x7 x8 (fun y=>some (.exit 2,SSt.mk' ⟨(.undef::.int .i64::.undef::.undef::.undef::.full 1000 [] (.int .i64)::.int .i64::.full 1001 [] (.int .i64)::.full 1002 [] (.int .i64)::.full 1003 [] (.int .i64)::.int .i64::.int .i64::uu 94 ([])),[(1000,.own (.int .i64)),(1001,.own (.int .i64)),(1002,.own (.int .i64)),(1003,.own (.int .i64))]⟩ [.I y.1,.I y.2.1,.I y.2.2.1,.I y.2.2.2.1,.L y.2.2.2.2.1,.L y.2.2.2.2.2.1,.L y.2.2.2.2.2.2.1,.L y.2.2.2.2.2.2.2])):=by kernel_rfl
theorem m_Z90_ok:∀ n,(m_Z90 (n_Z90 n)).ok Try.prog (Jl (Jk Try.f146) 12):=by
 intro n
 induction n with
 | zero=>
  intro R ds k r h
  unfold m_Z90 at h
  obtain ⟨_,_,rfl,h⟩:=Ja h
  obtain ⟨_,_,rfl,h⟩:=Ja h
  obtain ⟨_,_,rfl,h⟩:=Ja h
  obtain ⟨_,_,rfl,h⟩:=Ja h
  obtain ⟨_,_,rfl,h⟩:=Ja h
  obtain ⟨_,_,rfl,h⟩:=Jb h
  obtain ⟨_,_,rfl,h⟩:=Jb h
  obtain ⟨_,_,rfl,h⟩:=Jb h
  obtain ⟨_,_,rfl,h⟩:=Jb h
  obtain ⟨rfl,hE⟩:=Je h
  obtain ⟨y,hy,hk⟩:=Jf hE
  cases hy
 | succ n ih=>
  intro R ds k r h
  unfold m_Z90 at h
  obtain ⟨_,_,rfl,h⟩:=Ja h
  obtain ⟨_,_,rfl,h⟩:=Ja h
  obtain ⟨_,_,rfl,h⟩:=Ja h
  obtain ⟨_,_,rfl,h⟩:=Ja h
  obtain ⟨_,_,rfl,h⟩:=Ja h
  obtain ⟨_,_,rfl,h⟩:=Jb h
  obtain ⟨_,_,rfl,h⟩:=Jb h
  obtain ⟨_,_,rfl,h⟩:=Jb h
  obtain ⟨_,_,rfl,h⟩:=Jb h
  obtain ⟨rfl,hE⟩:=Je h
  obtain ⟨y,hy,hk⟩:=Jf hE
  exact ⟨0,_,_,_,hk,rfl,JV px (fx:=⟨Try.func146,by kernel_rfl,by kernel_rfl⟩) (Jx e_Z30_ok Jq) (Jn ih Jr) (by kernel_rfl) ((q_Z90 ..).trans ((c_Z90_bind ..).trans (Ji hy)))⟩
noncomputable def e_Z90:Js:=m_Z90 (Z90)
theorem e_Z90_ok:(e_Z90).ok Try.prog (Jl (Jk Try.f146) 12):=by
 intro R ds k r h
 unfold e_Z90 m_Z90 at h
 obtain ⟨_,_,rfl,h⟩:=Ja h
 obtain ⟨_,_,rfl,h⟩:=Ja h
 obtain ⟨_,_,rfl,h⟩:=Ja h
 obtain ⟨_,_,rfl,h⟩:=Ja h
 obtain ⟨_,_,rfl,h⟩:=Ja h
 obtain ⟨_,_,rfl,h⟩:=Jb h
 obtain ⟨_,_,rfl,h⟩:=Jb h
 obtain ⟨_,_,rfl,h⟩:=Jb h
 obtain ⟨_,_,rfl,h⟩:=Jb h
 obtain ⟨rfl,hE⟩:=Je h
 obtain ⟨y,hy,hk⟩:=Jf hE
 obtain ⟨n,hn⟩:=Qa hy
 exact m_Z90_ok n R _ k r ((Ji hn).trans hk)

/-!-/
abbrev T_Z91:=Int→Int→Int→Int→Int→List D→List D→List D→List D→Option (Int×Int×Int×List D×List D×List D×List D)
def c_Z91 {R:Type} (F:T_Z91) (x0 x1 x2 x3 x4:Int) (x5 x6 x7 x8:List D) (k:Int×Int×Int×List D×List D×List D×List D→Option R):Option R:=
 bif decide (x4<x1) then
 if 0≤x2∧x2<(↑x8.length:Int) then
 if x2.toNat+1≤x8.length then
 bif decide ((0:Int)<(x8.getD x2.toNat (D.int 0)).toInt) then
 (Z86 x5 x2 x4).bind (fun y0=>
 bif !y0 then
 (F x0 x1 x2 x3 (IntKind.i64.wrap (x4+1)) x5 x6 x7 x8).bind k
 else
 if (0:Int)≤IntKind.u64.wrap x4 then
 if (0:Int)≤IntKind.u64.wrap x4 then
 if (0:Int)≤IntKind.i64.wrap (↑(BitVec.ofInt IntKind.i64.bits x2 ||| BitVec.ofInt IntKind.i64.bits (IntKind.i64.wrap ((1:Int) * (2:Int) ^ Min.min (IntKind.u64.wrap x4).toNat IntKind.i64.bits))).toNat:Int)∧IntKind.i64.wrap (↑(BitVec.ofInt IntKind.i64.bits x2 ||| BitVec.ofInt IntKind.i64.bits (IntKind.i64.wrap ((1:Int) * (2:Int) ^ Min.min (IntKind.u64.wrap x4).toNat IntKind.i64.bits))).toNat:Int)<(↑x8.length:Int) then
 if (IntKind.i64.wrap (↑(BitVec.ofInt IntKind.i64.bits x2 ||| BitVec.ofInt IntKind.i64.bits (IntKind.i64.wrap ((1:Int) * (2:Int) ^ Min.min (IntKind.u64.wrap x4).toNat IntKind.i64.bits))).toNat:Int)).toNat+1≤x8.length then
 if 0≤x2∧x2<(↑x8.length:Int) then
 if x2.toNat+1≤x8.length then
 if (0:Int)≤IntKind.i64.wrap (↑(BitVec.ofInt IntKind.i64.bits x2 ||| BitVec.ofInt IntKind.i64.bits (IntKind.i64.wrap ((1:Int) * (2:Int) ^ Min.min (IntKind.u64.wrap x4).toNat IntKind.i64.bits))).toNat:Int)∧IntKind.i64.wrap (↑(BitVec.ofInt IntKind.i64.bits x2 ||| BitVec.ofInt IntKind.i64.bits (IntKind.i64.wrap ((1:Int) * (2:Int) ^ Min.min (IntKind.u64.wrap x4).toNat IntKind.i64.bits))).toNat:Int)<(↑x8.length:Int) then
 if (IntKind.i64.wrap (↑(BitVec.ofInt IntKind.i64.bits x2 ||| BitVec.ofInt IntKind.i64.bits (IntKind.i64.wrap ((1:Int) * (2:Int) ^ Min.min (IntKind.u64.wrap x4).toNat IntKind.i64.bits))).toNat:Int)).toNat+1≤x8.length then
 bif decide (x4=x0) then
 if 0≤x3∧x3<(↑x7.length:Int) then
 if x3.toNat+1≤x7.length then
 Z0 (x8.set (IntKind.i64.wrap (↑(BitVec.ofInt IntKind.i64.bits x2 ||| BitVec.ofInt IntKind.i64.bits (IntKind.i64.wrap ((1:Int) * (2:Int) ^ Min.min (IntKind.u64.wrap x4).toNat IntKind.i64.bits))).toNat:Int)).toNat (D.int (IntKind.i64.wrap ((x8.getD (IntKind.i64.wrap (↑(BitVec.ofInt IntKind.i64.bits x2 ||| BitVec.ofInt IntKind.i64.bits (IntKind.i64.wrap ((1:Int) * (2:Int) ^ Min.min (IntKind.u64.wrap x4).toNat IntKind.i64.bits))).toNat:Int)).toNat (D.int 0)).toInt+(x8.getD x2.toNat (D.int 0)).toInt)))) (fun s1=>
 if 0≤x2∧x2<(↑s1.length:Int) then
 if x2.toNat+1≤s1.length then
 if (0:Int)≤IntKind.u64.wrap x4 then
 if (0:Int)≤IntKind.i64.wrap (↑(BitVec.ofInt IntKind.i64.bits x2 ||| BitVec.ofInt IntKind.i64.bits (IntKind.i64.wrap ((1:Int) * (2:Int) ^ Min.min (IntKind.u64.wrap x4).toNat IntKind.i64.bits))).toNat:Int)∧IntKind.i64.wrap (↑(BitVec.ofInt IntKind.i64.bits x2 ||| BitVec.ofInt IntKind.i64.bits (IntKind.i64.wrap ((1:Int) * (2:Int) ^ Min.min (IntKind.u64.wrap x4).toNat IntKind.i64.bits))).toNat:Int)<(↑x6.length:Int) then
 if (IntKind.i64.wrap (↑(BitVec.ofInt IntKind.i64.bits x2 ||| BitVec.ofInt IntKind.i64.bits (IntKind.i64.wrap ((1:Int) * (2:Int) ^ Min.min (IntKind.u64.wrap x4).toNat IntKind.i64.bits))).toNat:Int)).toNat+1≤x6.length then
 if 0≤x3∧x3<(↑x7.length:Int) then
 if x3.toNat+1≤x7.length then
 (F x0 x1 x2 x3 (IntKind.i64.wrap (x4+1)) x5 x6 (x7.set x3.toNat (D.int (IntKind.i64.wrap ((x7.getD x3.toNat (D.int 0)).toInt+IntKind.i64.wrap ((s1.getD x2.toNat (D.int 0)).toInt * (x6.getD (IntKind.i64.wrap (↑(BitVec.ofInt IntKind.i64.bits x2 ||| BitVec.ofInt IntKind.i64.bits (IntKind.i64.wrap ((1:Int) * (2:Int) ^ Min.min (IntKind.u64.wrap x4).toNat IntKind.i64.bits))).toNat:Int)).toNat (D.int 0)).toInt))))) s1).bind k
 else
 none
 else
 none
 else
 none
 else
 none
 else
 none
 else
 none
 else
 none)
 else
 none
 else
 none
 else
 (F x0 x1 x2 x3 (IntKind.i64.wrap (x4+1)) x5 x6 x7 (x8.set (IntKind.i64.wrap (↑(BitVec.ofInt IntKind.i64.bits x2 ||| BitVec.ofInt IntKind.i64.bits (IntKind.i64.wrap ((1:Int) * (2:Int) ^ Min.min (IntKind.u64.wrap x4).toNat IntKind.i64.bits))).toNat:Int)).toNat (D.int (IntKind.i64.wrap ((x8.getD (IntKind.i64.wrap (↑(BitVec.ofInt IntKind.i64.bits x2 ||| BitVec.ofInt IntKind.i64.bits (IntKind.i64.wrap ((1:Int) * (2:Int) ^ Min.min (IntKind.u64.wrap x4).toNat IntKind.i64.bits))).toNat:Int)).toNat (D.int 0)).toInt+(x8.getD x2.toNat (D.int 0)).toInt))))).bind k
 else
 none
 else
 none
 else
 none
 else
 none
 else
 none
 else
 none
 else
 none
 else
 none)
 else
 k (x0,x1,x2,x5,x6,x7,x8)
 else
 none
 else
 none
 else
 k (x0,x1,x2,x5,x6,x7,x8)
theorem c_Z91_bind {R:Type} (F:T_Z91) (x0 x1 x2 x3 x4:Int) (x5 x6 x7 x8:List D) (k:Int×Int×Int×List D×List D×List D×List D→Option R):c_Z91 F x0 x1 x2 x3 x4 x5 x6 x7 x8 k=(c_Z91 F x0 x1 x2 x3 x4 x5 x6 x7 x8 some).bind k:=by
 unfold c_Z91
 repeat' first
  | exact JE
  | exact JD
  | exact JC
  | apply Jz
  | apply bnd_lt
  | apply JA
  | apply JF
  | (apply JB; intro _)
  | intro _
def n_Z91:Nat→T_Z91
 | 0,_,_,_,_,_,_,_,_,_=>none
 | n+1,x0,x1,x2,x3,x4,x5,x6,x7,x8=>c_Z91 (n_Z91 n) x0 x1 x2 x3 x4 x5 x6 x7 x8 some
noncomputable def Z91 (x0 x1 x2 x3 x4:Int) (x5 x6 x7 x8:List D):Option (Int×Int×Int×List D×List D×List D×List D):=ev (fun n=>n_Z91 n x0 x1 x2 x3 x4 x5 x6 x7 x8)
def m_Z91 (F:T_Z91):Js:=⟨17,⟨(.undef::.int .i64::.undef::.undef::.undef::.full 1000 [] (.int .i64)::.int .i64::.full 1001 [] (.int .i64)::.full 1002 [] (.int .i64)::.full 1003 [] (.int .i64)::.int .i64::.int .i64::.undef::.int .i64::uu 92 ([])),[(1000,.own (.int .i64)),(1001,.own (.int .i64)),(1002,.own (.int .i64)),(1003,.own (.int .i64))]⟩,[(.exit 4,⟨(.undef::.int .i64::.undef::.undef::.undef::.full 1000 [] (.int .i64)::.int .i64::.full 1001 [] (.int .i64)::.full 1002 [] (.int .i64)::.full 1003 [] (.int .i64)::.int .i64::uu 95 ([])),[(1000,.own (.int .i64)),(1001,.own (.int .i64)),(1002,.own (.int .i64)),(1003,.own (.int .i64))]⟩)],fun _ ds k=>dI (fun x0 ds=>dI (fun x1 ds=>dI (fun x2 ds=>dI (fun x3 ds=>dI (fun x4 ds=>dL (fun x5 ds=>dL (fun x6 ds=>dL (fun x7 ds=>dL (fun x8 ds=>dE ((F x0 x1 x2 x3 x4 x5 x6 x7 x8).bind (fun y=>k 0 [.I y.1,.I y.2.1,.I y.2.2.1,.L y.2.2.2.1,.L y.2.2.2.2.1,.L y.2.2.2.2.2.1,.L y.2.2.2.2.2.2])) ds) ds) ds) ds) ds) ds) ds) ds) ds) ds⟩
theorem q_Z91 (F:T_Z91) (x0 x1 x2 x3 x4:Int) (x5 x6 x7 x8:List D):J6 (Jv [e_Z86]) (Jw [m_Z91 F]) A 146 (Jl (Jk Try.f146) 17) ((m_Z91 F).sh.mk' [.I x0,.I x1,.I x2,.I x3,.I x4,.L x5,.L x6,.L x7,.L x8]) (fun e σ'=>some (e,σ'))=c_Z91 F x0 x1 x2 x3 x4 x5 x6 x7 x8 (fun y=>some (.exit 4,SSt.mk' ⟨(.undef::.int .i64::.undef::.undef::.undef::.full 1000 [] (.int .i64)::.int .i64::.full 1001 [] (.int .i64)::.full 1002 [] (.int .i64)::.full 1003 [] (.int .i64)::.int .i64::uu 95 ([])),[(1000,.own (.int .i64)),(1001,.own (.int .i64)),(1002,.own (.int .i64)),(1003,.own (.int .i64))]⟩ [.I y.1,.I y.2.1,.I y.2.2.1,.L y.2.2.2.1,.L y.2.2.2.2.1,.L y.2.2.2.2.2.1,.L y.2.2.2.2.2.2])):=by kernel_rfl
theorem m_Z91_ok:∀ n,(m_Z91 (n_Z91 n)).ok Try.prog (Jl (Jk Try.f146) 17):=by
 intro n
 induction n with
 | zero=>
  intro R ds k r h
  unfold m_Z91 at h
  obtain ⟨_,_,rfl,h⟩:=Ja h
  obtain ⟨_,_,rfl,h⟩:=Ja h
  obtain ⟨_,_,rfl,h⟩:=Ja h
  obtain ⟨_,_,rfl,h⟩:=Ja h
  obtain ⟨_,_,rfl,h⟩:=Ja h
  obtain ⟨_,_,rfl,h⟩:=Jb h
  obtain ⟨_,_,rfl,h⟩:=Jb h
  obtain ⟨_,_,rfl,h⟩:=Jb h
  obtain ⟨_,_,rfl,h⟩:=Jb h
  obtain ⟨rfl,hE⟩:=Je h
  obtain ⟨y,hy,hk⟩:=Jf hE
  cases hy
 | succ n ih=>
  intro R ds k r h
  unfold m_Z91 at h
  obtain ⟨_,_,rfl,h⟩:=Ja h
  obtain ⟨_,_,rfl,h⟩:=Ja h
  obtain ⟨_,_,rfl,h⟩:=Ja h
  obtain ⟨_,_,rfl,h⟩:=Ja h
  obtain ⟨_,_,rfl,h⟩:=Ja h
  obtain ⟨_,_,rfl,h⟩:=Jb h
  obtain ⟨_,_,rfl,h⟩:=Jb h
  obtain ⟨_,_,rfl,h⟩:=Jb h
  obtain ⟨_,_,rfl,h⟩:=Jb h
  obtain ⟨rfl,hE⟩:=Je h
  obtain ⟨y,hy,hk⟩:=Jf hE
  exact ⟨0,_,_,_,hk,rfl,JV px (fx:=⟨Try.func146,by kernel_rfl,by kernel_rfl⟩) (Jx e_Z86_ok Jq) (Jn ih Jr) (by kernel_rfl) ((q_Z91 ..).trans ((c_Z91_bind ..).trans (Ji hy)))⟩
noncomputable def e_Z91:Js:=m_Z91 (Z91)
theorem e_Z91_ok:(e_Z91).ok Try.prog (Jl (Jk Try.f146) 17):=by
 intro R ds k r h
 unfold e_Z91 m_Z91 at h
 obtain ⟨_,_,rfl,h⟩:=Ja h
 obtain ⟨_,_,rfl,h⟩:=Ja h
 obtain ⟨_,_,rfl,h⟩:=Ja h
 obtain ⟨_,_,rfl,h⟩:=Ja h
 obtain ⟨_,_,rfl,h⟩:=Ja h
 obtain ⟨_,_,rfl,h⟩:=Jb h
 obtain ⟨_,_,rfl,h⟩:=Jb h
 obtain ⟨_,_,rfl,h⟩:=Jb h
 obtain ⟨_,_,rfl,h⟩:=Jb h
 obtain ⟨rfl,hE⟩:=Je h
 obtain ⟨y,hy,hk⟩:=Jf hE
 obtain ⟨n,hn⟩:=Qa hy
 exact m_Z91_ok n R _ k r ((Ji hn).trans hk)

/-!-/
abbrev T_Z92:=Int→Int→Int→List D→List D→List D→List D→Option (List D)
def c_Z92 {R:Type} (F:T_Z92) (x0 x1 x2:Int) (x3 x4 x5 x6:List D) (k:List D→Option R):Option R:=
 bif decide (x2<(↑x6.length:Int)) then
 (Z90 x0 x1 x2 (0:Int) (0:Int) x3 x4 x5 x6).bind (fun y0=>
 (Z91 y0.fst y0.snd.fst y0.snd.snd.fst y0.snd.snd.snd.fst (0:Int) y0.snd.snd.snd.snd.fst y0.snd.snd.snd.snd.snd.fst y0.snd.snd.snd.snd.snd.snd.fst y0.snd.snd.snd.snd.snd.snd.snd).bind (fun y1=>
 (F y1.fst y1.snd.fst (IntKind.i64.wrap (y1.snd.snd.fst+1)) y1.snd.snd.snd.fst y1.snd.snd.snd.snd.fst y1.snd.snd.snd.snd.snd.fst y1.snd.snd.snd.snd.snd.snd).bind k))
 else
 k x5
theorem c_Z92_bind {R:Type} (F:T_Z92) (x0 x1 x2:Int) (x3 x4 x5 x6:List D) (k:List D→Option R):c_Z92 F x0 x1 x2 x3 x4 x5 x6 k=(c_Z92 F x0 x1 x2 x3 x4 x5 x6 some).bind k:=by
 unfold c_Z92
 repeat' first
  | exact JE
  | exact JD
  | exact JC
  | apply Jz
  | apply JA
  | apply JF
  | (apply JB; intro _)
  | intro _
def n_Z92:Nat→T_Z92
 | 0,_,_,_,_,_,_,_=>none
 | n+1,x0,x1,x2,x3,x4,x5,x6=>c_Z92 (n_Z92 n) x0 x1 x2 x3 x4 x5 x6 some
noncomputable def Z92 (x0 x1 x2:Int) (x3 x4 x5 x6:List D):Option (List D):=ev (fun n=>n_Z92 n x0 x1 x2 x3 x4 x5 x6)
def m_Z92 (F:T_Z92):Js:=⟨8,⟨(.undef::.int .i64::.undef::.undef::.undef::.full 1000 [] (.int .i64)::.int .i64::.full 1001 [] (.int .i64)::.full 1002 [] (.int .i64)::.full 1003 [] (.int .i64)::.int .i64::uu 95 ([])),[(1000,.own (.int .i64)),(1001,.own (.int .i64)),(1002,.own (.int .i64)),(1003,.own (.int .i64))]⟩,[(.exit 0,⟨(uu 8 (.full 1000 [] (.int .i64)::uu 97 ([]))),[(1000,.own (.int .i64))]⟩)],fun _ ds k=>dI (fun x0 ds=>dI (fun x1 ds=>dI (fun x2 ds=>dL (fun x3 ds=>dL (fun x4 ds=>dL (fun x5 ds=>dL (fun x6 ds=>dE ((F x0 x1 x2 x3 x4 x5 x6).bind (fun y=>k 0 [.L y])) ds) ds) ds) ds) ds) ds) ds) ds⟩
theorem q_Z92 (F:T_Z92) (x0 x1 x2:Int) (x3 x4 x5 x6:List D):J6 (Jv []) (Jw [m_Z92 F,e_Z90,e_Z91]) A 146 (Jl (Jk Try.f146) 8) ((m_Z92 F).sh.mk' [.I x0,.I x1,.I x2,.L x3,.L x4,.L x5,.L x6]) (fun e σ'=>some (e,σ'))=c_Z92 F x0 x1 x2 x3 x4 x5 x6 (fun y=>some (.exit 0,SSt.mk' ⟨(uu 8 (.full 1000 [] (.int .i64)::uu 97 ([]))),[(1000,.own (.int .i64))]⟩ [.L y])):=by kernel_rfl
theorem m_Z92_ok:∀ n,(m_Z92 (n_Z92 n)).ok Try.prog (Jl (Jk Try.f146) 8):=by
 intro n
 induction n with
 | zero=>
  intro R ds k r h
  unfold m_Z92 at h
  obtain ⟨_,_,rfl,h⟩:=Ja h
  obtain ⟨_,_,rfl,h⟩:=Ja h
  obtain ⟨_,_,rfl,h⟩:=Ja h
  obtain ⟨_,_,rfl,h⟩:=Jb h
  obtain ⟨_,_,rfl,h⟩:=Jb h
  obtain ⟨_,_,rfl,h⟩:=Jb h
  obtain ⟨_,_,rfl,h⟩:=Jb h
  obtain ⟨rfl,hE⟩:=Je h
  obtain ⟨y,hy,hk⟩:=Jf hE
  cases hy
 | succ n ih=>
  intro R ds k r h
  unfold m_Z92 at h
  obtain ⟨_,_,rfl,h⟩:=Ja h
  obtain ⟨_,_,rfl,h⟩:=Ja h
  obtain ⟨_,_,rfl,h⟩:=Ja h
  obtain ⟨_,_,rfl,h⟩:=Jb h
  obtain ⟨_,_,rfl,h⟩:=Jb h
  obtain ⟨_,_,rfl,h⟩:=Jb h
  obtain ⟨_,_,rfl,h⟩:=Jb h
  obtain ⟨rfl,hE⟩:=Je h
  obtain ⟨y,hy,hk⟩:=Jf hE
  exact ⟨0,_,_,_,hk,rfl,JV px (fx:=⟨Try.func146,by kernel_rfl,by kernel_rfl⟩) Jq (Jn ih (Jn e_Z90_ok (Jn e_Z91_ok Jr))) (by kernel_rfl) ((q_Z92 ..).trans ((c_Z92_bind ..).trans (Ji hy)))⟩
noncomputable def e_Z92:Js:=m_Z92 (Z92)
theorem e_Z92_ok:(e_Z92).ok Try.prog (Jl (Jk Try.f146) 8):=by
 intro R ds k r h
 unfold e_Z92 m_Z92 at h
 obtain ⟨_,_,rfl,h⟩:=Ja h
 obtain ⟨_,_,rfl,h⟩:=Ja h
 obtain ⟨_,_,rfl,h⟩:=Ja h
 obtain ⟨_,_,rfl,h⟩:=Jb h
 obtain ⟨_,_,rfl,h⟩:=Jb h
 obtain ⟨_,_,rfl,h⟩:=Jb h
 obtain ⟨_,_,rfl,h⟩:=Jb h
 obtain ⟨rfl,hE⟩:=Je h
 obtain ⟨y,hy,hk⟩:=Jf hE
 obtain ⟨n,hn⟩:=Qa hy
 exact m_Z92_ok n R _ k r ((Ji hn).trans hk)

/-!-/
def c_Z93 {R:Type} (x0 x1:List D) (x2:Int) (k:List D→Option R):Option R:=
 (Z29 x0 x1).bind (fun y0=>
 (Z89 y0).bind (fun y1=>
 if (0:Int)≤(↑y0.length:Int)∧(↑y0.length:Int)≤(↑y0.length:Int)∧(↑y0.length:Int)≤(4294967296:Int) then
 if (0:Int)≤IntKind.u64.wrap (↑y0.length:Int) then
 if (0:Int)≤IntKind.i64.wrap ((1:Int) * (2:Int) ^ Min.min (IntKind.u64.wrap (↑y0.length:Int)).toNat IntKind.i64.bits)∧IntKind.i64.wrap ((1:Int) * (2:Int) ^ Min.min (IntKind.u64.wrap (↑y0.length:Int)).toNat IntKind.i64.bits)≤IntKind.i64.wrap ((1:Int) * (2:Int) ^ Min.min (IntKind.u64.wrap (↑y0.length:Int)).toNat IntKind.i64.bits)∧IntKind.i64.wrap ((1:Int) * (2:Int) ^ Min.min (IntKind.u64.wrap (↑y0.length:Int)).toNat IntKind.i64.bits)≤(4294967296:Int) then
 if (0:Int)≤(0:Int)∧(0:Int)<(↑(List.replicate (IntKind.i64.wrap ((1:Int) * (2:Int) ^ Min.min (IntKind.u64.wrap (↑y0.length:Int)).toNat IntKind.i64.bits)).toNat (D.int 0)).length:Int) then
 if Int.toNat (0:Int)+(1:Nat)≤(List.replicate (IntKind.i64.wrap ((1:Int) * (2:Int) ^ Min.min (IntKind.u64.wrap (↑y0.length:Int)).toNat IntKind.i64.bits)).toNat (D.int 0)).length then
 (Z92 x2 (↑y0.length:Int) (0:Int) y0 y1 (List.replicate (↑y0.length:Int).toNat (D.int 0)) ((List.replicate (IntKind.i64.wrap ((1:Int) * (2:Int) ^ Min.min (IntKind.u64.wrap (↑y0.length:Int)).toNat IntKind.i64.bits)).toNat (D.int 0)).set (Int.toNat (0:Int)) (D.int (1:Int)))).bind (fun y2=>
 k y2)
 else
 none
 else
 none
 else
 none
 else
 none
 else
 none))
theorem c_Z93_bind {R:Type} (x0 x1:List D) (x2:Int) (k:List D→Option R):c_Z93 x0 x1 x2 k=(c_Z93 x0 x1 x2 some).bind k:=by
 unfold c_Z93
 repeat' first
  | exact JE
  | exact JD
  | exact JC
  | apply Jz
  | apply JA
  | apply JF
  | (apply JB; intro _)
  | intro _
def Z93 (x0 x1:List D) (x2:Int):Option (List D):=c_Z93 x0 x1 x2 some
def e_Z93:Ent:=⟨146,[.agg [.rd (.struct [.int .i64,.int .i64]),.rd (.struct [.int .i64,.int .i64])],.int .i64],[(.own (.int .i64),[.undef,.undef])],fun _ ds k=>dL (fun x0 ds=>dL (fun x1 ds=>dI (fun x2 ds=>dE ((Z93 x0 x1 x2).bind (fun y=>k 0 [.L y])) ds) ds) ds) ds⟩
theorem q_Z93 (x0 x1:List D) (x2:Int):J5 (Jv [e_Z29,e_Z89]) (Jw [e_Z92]) A 146 Try.f146 (Sh.mks e_Z93.sh [.L x0,.L x1,.I x2]).1 (fun v os=>some (v,os))=c_Z93 x0 x1 x2 (fun y=>J7 e_Z93 0 [.L y]):=by kernel_rfl
theorem e_Z93_ok:e_Z93.ok Try.prog A:=by
 intro R ds k r h
 unfold e_Z93 at h
 obtain ⟨_,_,rfl,h⟩:=Jb h
 obtain ⟨_,_,rfl,h⟩:=Jb h
 obtain ⟨_,_,rfl,h⟩:=Ja h
 obtain ⟨rfl,hE⟩:=Je h
 obtain ⟨y,hy,hk⟩:=Jf hE
 exact ⟨0,_,_,_,hk,rfl,J8 px (fx:=⟨Try.func146,by kernel_rfl,by kernel_rfl⟩) (Jx e_Z29_ok (Jx e_Z89_ok Jq)) (Jn e_Z92_ok Jr) ((q_Z93 ..).trans ((c_Z93_bind ..).trans (Ji hy)))⟩

/-!-/
def c_Z94 {R:Type} (x0 x1:List D) (x2:Int) (k:List D×Bool→Option R):Option R:=
 (Z84 x0 x1).bind (fun y0=>
 bif !y0 then
 k ([],Bool.false)
 else
 (Z25 x0 x1 x2).bind (fun y1=>
 bif decide (y1<(0:Int)) then
 k ([],Bool.false)
 else
 (Z25 x0 x1 x2).bind (fun y2=>
 (Z93 x0 x1 y2).bind (fun y3=>
 k (y3,Bool.true)))))
theorem c_Z94_bind {R:Type} (x0 x1:List D) (x2:Int) (k:List D×Bool→Option R):c_Z94 x0 x1 x2 k=(c_Z94 x0 x1 x2 some).bind k:=by
 unfold c_Z94
 repeat' first
  | exact JE
  | exact JD
  | exact JC
  | apply Jz
  | apply JA
  | apply JF
  | (apply JB; intro _)
  | intro _
def Z94 (x0 x1:List D) (x2:Int):Option (List D×Bool):=c_Z94 x0 x1 x2 some
def e_Z94:Ent:=⟨59,[.agg [.rd (.struct [.int .i64,.int .i64]),.rd (.struct [.int .i64,.int .i64])],.int .i64],[(.tup [.own (.int .i64),.bool],[.undef,.undef])],fun _ ds k=>dL (fun x0 ds=>dL (fun x1 ds=>dI (fun x2 ds=>dE ((Z94 x0 x1 x2).bind (fun y=>k 0 [.L y.1,.B y.2])) ds) ds) ds) ds⟩
theorem q_Z94 (x0 x1:List D) (x2:Int):J5 (Jv [e_Z84,e_Z25,e_Z93]) (Jw []) A 59 Try.f59 (Sh.mks e_Z94.sh [.L x0,.L x1,.I x2]).1 (fun v os=>some (v,os))=c_Z94 x0 x1 x2 (fun y=>J7 e_Z94 0 [.L y.1,.B y.2]):=by kernel_rfl
theorem e_Z94_ok:e_Z94.ok Try.prog A:=by
 intro R ds k r h
 unfold e_Z94 at h
 obtain ⟨_,_,rfl,h⟩:=Jb h
 obtain ⟨_,_,rfl,h⟩:=Jb h
 obtain ⟨_,_,rfl,h⟩:=Ja h
 obtain ⟨rfl,hE⟩:=Je h
 obtain ⟨y,hy,hk⟩:=Jf hE
 exact ⟨0,_,_,_,hk,rfl,J8 px (fx:=⟨Try.func59,by kernel_rfl,by kernel_rfl⟩) (Jx e_Z84_ok (Jx e_Z25_ok (Jx e_Z93_ok Jq))) Jr ((q_Z94 ..).trans ((c_Z94_bind ..).trans (Ji hy)))⟩

/-!-/
abbrev T_Z95:=List D→List D→Int→Option ((Bool)⊕(Unit))
def c_Z95 {R:Type} (F:T_Z95) (x0 x1:List D) (x2:Int) (k:(Bool)⊕(Unit)→Option R):Option R:=
 bif decide (x2<(↑x0.length:Int)) then
 if 0≤x2∧x2<(↑x0.length:Int) then
 if 0≤x2∧x2<(↑x1.length:Int) then
 bif !decide ((x0.getD x2.toNat (D.int 0)).toInt=(x1.getD x2.toNat (D.int 0)).toInt) then
 k (.inl Bool.false)
 else
 (F x0 x1 (IntKind.i64.wrap (x2+1))).bind k
 else
 none
 else
 none
 else
 k (.inr ())
theorem c_Z95_bind {R:Type} (F:T_Z95) (x0 x1:List D) (x2:Int) (k:(Bool)⊕(Unit)→Option R):c_Z95 F x0 x1 x2 k=(c_Z95 F x0 x1 x2 some).bind k:=by
 unfold c_Z95
 repeat' first
  | exact JE
  | exact JD
  | exact JC
  | apply Jz
  | apply JA
  | apply JF
  | (apply JB; intro _)
  | intro _
def n_Z95:Nat→T_Z95
 | 0,_,_,_=>none
 | n+1,x0,x1,x2=>c_Z95 (n_Z95 n) x0 x1 x2 some
noncomputable def Z95 (x0 x1:List D) (x2:Int):Option ((Bool)⊕(Unit)):=ev (fun n=>n_Z95 n x0 x1 x2)
def m_Z95 (F:T_Z95):Js:=⟨4,⟨(.rd (.int .i64)::.rd (.int .i64)::.undef::.undef::.undef::.int .i64::uu 20 ([])),[]⟩,[(.ret,⟨(uu 4 (.bool::uu 21 ([]))),[]⟩),(.exit 0,⟨(uu 26 ([])),[]⟩)],fun _ ds k=>dL (fun x0 ds=>dL (fun x1 ds=>dI (fun x2 ds=>dE ((F x0 x1 x2).bind (Sum.elim (fun y=>k 0 [.B y]) (fun y=>k 1 []))) ds) ds) ds) ds⟩
theorem q_Z95 (F:T_Z95) (x0 x1:List D) (x2:Int):J6 (Jv []) (Jw [m_Z95 F]) A 23 (Jl (Jk Try.f23) 4) ((m_Z95 F).sh.mk' [.L x0,.L x1,.I x2]) (fun e σ'=>some (e,σ'))=c_Z95 F x0 x1 x2 (Sum.elim (fun y=>some (.ret,SSt.mk' ⟨(uu 4 (.bool::uu 21 ([]))),[]⟩ [.B y])) (fun y=>some (.exit 0,SSt.mk' ⟨(uu 26 ([])),[]⟩ []))):=by kernel_rfl
theorem m_Z95_ok:∀ n,(m_Z95 (n_Z95 n)).ok Try.prog (Jl (Jk Try.f23) 4):=by
 intro n
 induction n with
 | zero=>
  intro R ds k r h
  unfold m_Z95 at h
  obtain ⟨_,_,rfl,h⟩:=Jb h
  obtain ⟨_,_,rfl,h⟩:=Jb h
  obtain ⟨_,_,rfl,h⟩:=Ja h
  obtain ⟨rfl,hE⟩:=Je h
  obtain ⟨y,hy,hk⟩:=Jf hE
  cases hy
 | succ n ih=>
  intro R ds k r h
  unfold m_Z95 at h
  obtain ⟨_,_,rfl,h⟩:=Jb h
  obtain ⟨_,_,rfl,h⟩:=Jb h
  obtain ⟨_,_,rfl,h⟩:=Ja h
  obtain ⟨rfl,hE⟩:=Je h
  obtain ⟨y,hy,hk⟩:=Jf hE
  cases y with
  | inl y=>
   exact ⟨0,_,_,_,hk,rfl,JV px (fx:=⟨Try.func23,by kernel_rfl,by kernel_rfl⟩) Jq (Jn ih Jr) (by kernel_rfl) ((q_Z95 ..).trans ((c_Z95_bind ..).trans (Ji hy)))⟩
  | inr y=>
   exact ⟨1,_,_,_,hk,rfl,JV px (fx:=⟨Try.func23,by kernel_rfl,by kernel_rfl⟩) Jq (Jn ih Jr) (by kernel_rfl) ((q_Z95 ..).trans ((c_Z95_bind ..).trans (Ji hy)))⟩
noncomputable def e_Z95:Js:=m_Z95 (Z95)
theorem e_Z95_ok:(e_Z95).ok Try.prog (Jl (Jk Try.f23) 4):=by
 intro R ds k r h
 unfold e_Z95 m_Z95 at h
 obtain ⟨_,_,rfl,h⟩:=Jb h
 obtain ⟨_,_,rfl,h⟩:=Jb h
 obtain ⟨_,_,rfl,h⟩:=Ja h
 obtain ⟨rfl,hE⟩:=Je h
 obtain ⟨y,hy,hk⟩:=Jf hE
 obtain ⟨n,hn⟩:=Qa hy
 exact m_Z95_ok n R _ k r ((Ji hn).trans hk)

/-!-/
def c_Z96 {R:Type} (x0 x1:List D) (k:Bool→Option R):Option R:=
 bif !decide ((↑x0.length:Int)=(↑x1.length:Int)) then
 k Bool.false
 else
 (Z95 x0 x1 (0:Int)).bind (Sum.elim (fun y0=>
 k y0) (fun y1=>
 k Bool.true))
theorem c_Z96_bind {R:Type} (x0 x1:List D) (k:Bool→Option R):c_Z96 x0 x1 k=(c_Z96 x0 x1 some).bind k:=by
 unfold c_Z96
 repeat' first
  | exact JE
  | exact JD
  | exact JC
  | apply Jz
  | apply JA
  | apply JF
  | (apply JB; intro _)
  | intro _
def Z96 (x0 x1:List D):Option (Bool):=c_Z96 x0 x1 some
def e_Z96:Ent:=⟨23,[.rd (.int .i64),.rd (.int .i64)],[(.bool,[.undef,.undef])],fun _ ds k=>dL (fun x0 ds=>dL (fun x1 ds=>dE ((Z96 x0 x1).bind (fun y=>k 0 [.B y])) ds) ds) ds⟩
theorem q_Z96 (x0 x1:List D):J5 (Jv []) (Jw [e_Z95]) A 23 Try.f23 (Sh.mks e_Z96.sh [.L x0,.L x1]).1 (fun v os=>some (v,os))=c_Z96 x0 x1 (fun y=>J7 e_Z96 0 [.B y]):=by kernel_rfl
theorem e_Z96_ok:e_Z96.ok Try.prog A:=by
 intro R ds k r h
 unfold e_Z96 at h
 obtain ⟨_,_,rfl,h⟩:=Jb h
 obtain ⟨_,_,rfl,h⟩:=Jb h
 obtain ⟨rfl,hE⟩:=Je h
 obtain ⟨y,hy,hk⟩:=Jf hE
 exact ⟨0,_,_,_,hk,rfl,J8 px (fx:=⟨Try.func23,by kernel_rfl,by kernel_rfl⟩) Jq (Jn e_Z95_ok Jr) ((q_Z96 ..).trans ((c_Z96_bind ..).trans (Ji hy)))⟩

/-!-/
abbrev T_Z97:=Int→Int→Int→Int→List D→Option (Int×Int)
def c_Z97 {R:Type} (F:T_Z97) (x0 x1 x2 x3:Int) (x4:List D) (k:Int×Int→Option R):Option R:=
 bif decide (x3<x2) then
 if 0≤x3∧x3<(↑x4.length:Int) then
 if x3.toNat+1≤x4.length then
 bif decide ((x4.getD x3.toNat (D.int 0)).toInt=(0:Int)) then
 (F x0 x1 x2 (IntKind.i64.wrap (x3+1)) x4).bind k
 else
 bif decide (x0<(0:Int)) then
 (F x3 x3 x2 (IntKind.i64.wrap (x3+1)) x4).bind k
 else
 (F x0 x3 x2 (IntKind.i64.wrap (x3+1)) x4).bind k
 else
 none
 else
 none
 else
 k (x0,x1)
theorem c_Z97_bind {R:Type} (F:T_Z97) (x0 x1 x2 x3:Int) (x4:List D) (k:Int×Int→Option R):c_Z97 F x0 x1 x2 x3 x4 k=(c_Z97 F x0 x1 x2 x3 x4 some).bind k:=by
 unfold c_Z97
 repeat' first
  | exact JE
  | exact JD
  | exact JC
  | apply Jz
  | apply JA
  | apply JF
  | (apply JB; intro _)
  | intro _
def n_Z97:Nat→T_Z97
 | 0,_,_,_,_,_=>none
 | n+1,x0,x1,x2,x3,x4=>c_Z97 (n_Z97 n) x0 x1 x2 x3 x4 some
noncomputable def Z97 (x0 x1 x2 x3:Int) (x4:List D):Option (Int×Int):=ev (fun n=>n_Z97 n x0 x1 x2 x3 x4)
def m_Z97 (F:T_Z97):Js:=⟨6,⟨(uu 9 (.int .i64::.int .i64::uu 10 (.full 1000 [] (.int .i64)::.int .i64::.int .i64::uu 13 ([])))),[(1000,.own (.int .i64))]⟩,[(.exit 0,⟨(uu 9 (.int .i64::.int .i64::uu 26 ([]))),[]⟩)],fun _ ds k=>dI (fun x0 ds=>dI (fun x1 ds=>dI (fun x2 ds=>dI (fun x3 ds=>dL (fun x4 ds=>dE ((F x0 x1 x2 x3 x4).bind (fun y=>k 0 [.I y.1,.I y.2])) ds) ds) ds) ds) ds) ds⟩
theorem q_Z97 (F:T_Z97) (x0 x1 x2 x3:Int) (x4:List D):J6 (Jv []) (Jw [m_Z97 F]) A 60 (Jl (Jk Try.f60) 6) ((m_Z97 F).sh.mk' [.I x0,.I x1,.I x2,.I x3,.L x4]) (fun e σ'=>some (e,σ'))=c_Z97 F x0 x1 x2 x3 x4 (fun y=>some (.exit 0,SSt.mk' ⟨(uu 9 (.int .i64::.int .i64::uu 26 ([]))),[]⟩ [.I y.1,.I y.2])):=by kernel_rfl
theorem m_Z97_ok:∀ n,(m_Z97 (n_Z97 n)).ok Try.prog (Jl (Jk Try.f60) 6):=by
 intro n
 induction n with
 | zero=>
  intro R ds k r h
  unfold m_Z97 at h
  obtain ⟨_,_,rfl,h⟩:=Ja h
  obtain ⟨_,_,rfl,h⟩:=Ja h
  obtain ⟨_,_,rfl,h⟩:=Ja h
  obtain ⟨_,_,rfl,h⟩:=Ja h
  obtain ⟨_,_,rfl,h⟩:=Jb h
  obtain ⟨rfl,hE⟩:=Je h
  obtain ⟨y,hy,hk⟩:=Jf hE
  cases hy
 | succ n ih=>
  intro R ds k r h
  unfold m_Z97 at h
  obtain ⟨_,_,rfl,h⟩:=Ja h
  obtain ⟨_,_,rfl,h⟩:=Ja h
  obtain ⟨_,_,rfl,h⟩:=Ja h
  obtain ⟨_,_,rfl,h⟩:=Ja h
  obtain ⟨_,_,rfl,h⟩:=Jb h
  obtain ⟨rfl,hE⟩:=Je h
  obtain ⟨y,hy,hk⟩:=Jf hE
  exact ⟨0,_,_,_,hk,rfl,JV px (fx:=⟨Try.func60,by kernel_rfl,by kernel_rfl⟩) Jq (Jn ih Jr) (by kernel_rfl) ((q_Z97 ..).trans ((c_Z97_bind ..).trans (Ji hy)))⟩
noncomputable def e_Z97:Js:=m_Z97 (Z97)
theorem e_Z97_ok:(e_Z97).ok Try.prog (Jl (Jk Try.f60) 6):=by
 intro R ds k r h
 unfold e_Z97 m_Z97 at h
 obtain ⟨_,_,rfl,h⟩:=Ja h
 obtain ⟨_,_,rfl,h⟩:=Ja h
 obtain ⟨_,_,rfl,h⟩:=Ja h
 obtain ⟨_,_,rfl,h⟩:=Ja h
 obtain ⟨_,_,rfl,h⟩:=Jb h
 obtain ⟨rfl,hE⟩:=Je h
 obtain ⟨y,hy,hk⟩:=Jf hE
 obtain ⟨n,hn⟩:=Qa hy
 exact m_Z97_ok n R _ k r ((Ji hn).trans hk)

/-!-/
def c_Z98 {R:Type} (x0 x1:List D) (x2:Int) (k:Int×Int×Bool→Option R):Option R:=
 (Z79 x0 x1 x2).bind (fun y0=>
 bif !y0.snd then
 k ((0:Int),(0:Int),Bool.false)
 else
 (Z97 (-1:Int) (0:Int) (↑y0.fst.length:Int) (0:Int) y0.fst).bind (fun y1=>
 k (y1.fst,y1.snd,Bool.true)))
theorem c_Z98_bind {R:Type} (x0 x1:List D) (x2:Int) (k:Int×Int×Bool→Option R):c_Z98 x0 x1 x2 k=(c_Z98 x0 x1 x2 some).bind k:=by
 unfold c_Z98
 repeat' first
  | exact JE
  | exact JD
  | exact JC
  | apply Jz
  | apply JA
  | apply JF
  | (apply JB; intro _)
  | intro _
def Z98 (x0 x1:List D) (x2:Int):Option (Int×Int×Bool):=c_Z98 x0 x1 x2 some
def e_Z98:Ent:=⟨60,[.agg [.rd (.struct [.int .i64,.int .i64]),.rd (.struct [.int .i64,.int .i64])],.int .i64],[(.tup [.int .i64,.int .i64,.bool],[.undef,.undef])],fun _ ds k=>dL (fun x0 ds=>dL (fun x1 ds=>dI (fun x2 ds=>dE ((Z98 x0 x1 x2).bind (fun y=>k 0 [.I y.1,.I y.2.1,.B y.2.2])) ds) ds) ds) ds⟩
theorem q_Z98 (x0 x1:List D) (x2:Int):J5 (Jv [e_Z79]) (Jw [e_Z97]) A 60 Try.f60 (Sh.mks e_Z98.sh [.L x0,.L x1,.I x2]).1 (fun v os=>some (v,os))=c_Z98 x0 x1 x2 (fun y=>J7 e_Z98 0 [.I y.1,.I y.2.1,.B y.2.2]):=by kernel_rfl
theorem e_Z98_ok:e_Z98.ok Try.prog A:=by
 intro R ds k r h
 unfold e_Z98 at h
 obtain ⟨_,_,rfl,h⟩:=Jb h
 obtain ⟨_,_,rfl,h⟩:=Jb h
 obtain ⟨_,_,rfl,h⟩:=Ja h
 obtain ⟨rfl,hE⟩:=Je h
 obtain ⟨y,hy,hk⟩:=Jf hE
 exact ⟨0,_,_,_,hk,rfl,J8 px (fx:=⟨Try.func60,by kernel_rfl,by kernel_rfl⟩) (Jx e_Z79_ok Jq) (Jn e_Z97_ok Jr) ((q_Z98 ..).trans ((c_Z98_bind ..).trans (Ji hy)))⟩

/-!-/
abbrev T_Z99:=Int→Int→Int→Bool→Int→Int→Int→Bool→Int→List D→List D→List D→Option ((Bool×Int×Int×Int×Bool×Int×Bool×List D×List D)⊕(Int×Int×Int×Bool×Int×Bool×List D×List D))
def c_Z99 {R:Type} (F:T_Z99) (x0 x1 x2:Int) (x3:Bool) (x4 x5 x6:Int) (x7:Bool) (x8:Int) (x9 x10 x11:List D) (k:(Bool×Int×Int×Int×Bool×Int×Bool×List D×List D)⊕(Int×Int×Int×Bool×Int×Bool×List D×List D)→Option R):Option R:=
 bif decide (x8<(↑x11.length:Int)) then
 if 0≤x8∧x8<(↑x11.length:Int) then
 if x8.toNat+1≤x11.length then
 if 0≤x8∧x8<(↑x11.length:Int) then
 if x8.toNat+1≤x11.length then
 bif decide (x5≤x8) then
 bif !decide ((0:Int)<(x11.getD x8.toNat (D.int 0)).toInt)==decide (x8≤x6) then
 k (.inl (Bool.false,x0,x1,x2,x3,IntKind.i64.wrap (x4+(x11.getD x8.toNat (D.int 0)).toInt),x7,x9,x10))
 else
 (F x0 x1 x2 x3 (IntKind.i64.wrap (x4+(x11.getD x8.toNat (D.int 0)).toInt)) x5 x6 x7 (IntKind.i64.wrap (x8+1)) x9 x10 x11).bind k
 else
 bif !decide ((0:Int)<(x11.getD x8.toNat (D.int 0)).toInt)==Bool.false then
 k (.inl (Bool.false,x0,x1,x2,x3,IntKind.i64.wrap (x4+(x11.getD x8.toNat (D.int 0)).toInt),x7,x9,x10))
 else
 (F x0 x1 x2 x3 (IntKind.i64.wrap (x4+(x11.getD x8.toNat (D.int 0)).toInt)) x5 x6 x7 (IntKind.i64.wrap (x8+1)) x9 x10 x11).bind k
 else
 none
 else
 none
 else
 none
 else
 none
 else
 k (.inr (x0,x1,x2,x3,x4,x7,x9,x10))
theorem c_Z99_bind {R:Type} (F:T_Z99) (x0 x1 x2:Int) (x3:Bool) (x4 x5 x6:Int) (x7:Bool) (x8:Int) (x9 x10 x11:List D) (k:(Bool×Int×Int×Int×Bool×Int×Bool×List D×List D)⊕(Int×Int×Int×Bool×Int×Bool×List D×List D)→Option R):c_Z99 F x0 x1 x2 x3 x4 x5 x6 x7 x8 x9 x10 x11 k=(c_Z99 F x0 x1 x2 x3 x4 x5 x6 x7 x8 x9 x10 x11 some).bind k:=by
 unfold c_Z99
 repeat' first
  | exact JE
  | exact JD
  | exact JC
  | apply Jz
  | apply JA
  | apply JF
  | (apply JB; intro _)
  | intro _
def n_Z99:Nat→T_Z99
 | 0,_,_,_,_,_,_,_,_,_,_,_,_=>none
 | n+1,x0,x1,x2,x3,x4,x5,x6,x7,x8,x9,x10,x11=>c_Z99 (n_Z99 n) x0 x1 x2 x3 x4 x5 x6 x7 x8 x9 x10 x11 some
noncomputable def Z99 (x0 x1 x2:Int) (x3:Bool) (x4 x5 x6:Int) (x7:Bool) (x8:Int) (x9 x10 x11:List D):Option ((Bool×Int×Int×Int×Bool×Int×Bool×List D×List D)⊕(Int×Int×Int×Bool×Int×Bool×List D×List D)):=ev (fun n=>n_Z99 n x0 x1 x2 x3 x4 x5 x6 x7 x8 x9 x10 x11)
def m_Z99 (F:T_Z99):Js:=⟨13,⟨(.undef::.undef::.undef::.ptr 1000 [0]::.int .i64::.int .i64::.int .i64::.bool::.full 1002 [] (.int .i64)::.undef::.undef::.undef::.int .i64::.int .i64::.int .i64::.bool::.int .i64::uu 123 ([])),[(1000,.obox (.agg [.full 1001 [0] (.struct [.int .i64,.int .i64]),.full 1001 [1] (.struct [.int .i64,.int .i64])])),(1001,.agg [.own (.struct [.int .i64,.int .i64]),.own (.struct [.int .i64,.int .i64])]),(1002,.own (.int .i64))]⟩,[(.ret,⟨(.undef::.undef::.bool::.ptr 1000 [0]::.int .i64::.int .i64::.int .i64::.bool::uu 4 (.int .i64::.undef::.undef::.bool::uu 124 ([]))),[(1000,.obox (.agg [.full 1001 [0] (.struct [.int .i64,.int .i64]),.full 1001 [1] (.struct [.int .i64,.int .i64])])),(1001,.agg [.own (.struct [.int .i64,.int .i64]),.own (.struct [.int .i64,.int .i64])])]⟩),(.exit 0,⟨(.undef::.undef::.undef::.ptr 1000 [0]::.int .i64::.int .i64::.int .i64::.bool::uu 4 (.int .i64::.undef::.undef::.bool::uu 124 ([]))),[(1000,.obox (.agg [.full 1001 [0] (.struct [.int .i64,.int .i64]),.full 1001 [1] (.struct [.int .i64,.int .i64])])),(1001,.agg [.own (.struct [.int .i64,.int .i64]),.own (.struct [.int .i64,.int .i64])])]⟩)],fun _ ds k=>dI (fun x0 ds=>dI (fun x1 ds=>dI (fun x2 ds=>dB (fun x3 ds=>dI (fun x4 ds=>dI (fun x5 ds=>dI (fun x6 ds=>dB (fun x7 ds=>dI (fun x8 ds=>dL (fun x9 ds=>dL (fun x10 ds=>dL (fun x11 ds=>dE ((F x0 x1 x2 x3 x4 x5 x6 x7 x8 x9 x10 x11).bind (Sum.elim (fun y=>k 0 [.B y.1,.I y.2.1,.I y.2.2.1,.I y.2.2.2.1,.B y.2.2.2.2.1,.I y.2.2.2.2.2.1,.B y.2.2.2.2.2.2.1,.L y.2.2.2.2.2.2.2.1,.L y.2.2.2.2.2.2.2.2]) (fun y=>k 1 [.I y.1,.I y.2.1,.I y.2.2.1,.B y.2.2.2.1,.I y.2.2.2.2.1,.B y.2.2.2.2.2.1,.L y.2.2.2.2.2.2.1,.L y.2.2.2.2.2.2.2]))) ds) ds) ds) ds) ds) ds) ds) ds) ds) ds) ds) ds) ds⟩
theorem q_Z99 (F:T_Z99) (x0 x1 x2:Int) (x3:Bool) (x4 x5 x6:Int) (x7:Bool) (x8:Int) (x9 x10 x11:List D):J6 (Jv []) (Jw [m_Z99 F]) A 9 (Jl (Jk Try.f9) 13) ((m_Z99 F).sh.mk' [.I x0,.I x1,.I x2,.B x3,.I x4,.I x5,.I x6,.B x7,.I x8,.L x9,.L x10,.L x11]) (fun e σ'=>some (e,σ'))=c_Z99 F x0 x1 x2 x3 x4 x5 x6 x7 x8 x9 x10 x11 (Sum.elim (fun y=>some (.ret,SSt.mk' ⟨(.undef::.undef::.bool::.ptr 1000 [0]::.int .i64::.int .i64::.int .i64::.bool::uu 4 (.int .i64::.undef::.undef::.bool::uu 124 ([]))),[(1000,.obox (.agg [.full 1001 [0] (.struct [.int .i64,.int .i64]),.full 1001 [1] (.struct [.int .i64,.int .i64])])),(1001,.agg [.own (.struct [.int .i64,.int .i64]),.own (.struct [.int .i64,.int .i64])])]⟩ [.B y.1,.I y.2.1,.I y.2.2.1,.I y.2.2.2.1,.B y.2.2.2.2.1,.I y.2.2.2.2.2.1,.B y.2.2.2.2.2.2.1,.L y.2.2.2.2.2.2.2.1,.L y.2.2.2.2.2.2.2.2])) (fun y=>some (.exit 0,SSt.mk' ⟨(.undef::.undef::.undef::.ptr 1000 [0]::.int .i64::.int .i64::.int .i64::.bool::uu 4 (.int .i64::.undef::.undef::.bool::uu 124 ([]))),[(1000,.obox (.agg [.full 1001 [0] (.struct [.int .i64,.int .i64]),.full 1001 [1] (.struct [.int .i64,.int .i64])])),(1001,.agg [.own (.struct [.int .i64,.int .i64]),.own (.struct [.int .i64,.int .i64])])]⟩ [.I y.1,.I y.2.1,.I y.2.2.1,.B y.2.2.2.1,.I y.2.2.2.2.1,.B y.2.2.2.2.2.1,.L y.2.2.2.2.2.2.1,.L y.2.2.2.2.2.2.2]))):=by kernel_rfl
theorem m_Z99_ok:∀ n,(m_Z99 (n_Z99 n)).ok Try.prog (Jl (Jk Try.f9) 13):=by
 intro n
 induction n with
 | zero=>
  intro R ds k r h
  unfold m_Z99 at h
  obtain ⟨_,_,rfl,h⟩:=Ja h
  obtain ⟨_,_,rfl,h⟩:=Ja h
  obtain ⟨_,_,rfl,h⟩:=Ja h
  obtain ⟨_,_,rfl,h⟩:=VC h
  obtain ⟨_,_,rfl,h⟩:=Ja h
  obtain ⟨_,_,rfl,h⟩:=Ja h
  obtain ⟨_,_,rfl,h⟩:=Ja h
  obtain ⟨_,_,rfl,h⟩:=VC h
  obtain ⟨_,_,rfl,h⟩:=Ja h
  obtain ⟨_,_,rfl,h⟩:=Jb h
  obtain ⟨_,_,rfl,h⟩:=Jb h
  obtain ⟨_,_,rfl,h⟩:=Jb h
  obtain ⟨rfl,hE⟩:=Je h
  obtain ⟨y,hy,hk⟩:=Jf hE
  cases hy
 | succ n ih=>
  intro R ds k r h
  unfold m_Z99 at h
  obtain ⟨_,_,rfl,h⟩:=Ja h
  obtain ⟨_,_,rfl,h⟩:=Ja h
  obtain ⟨_,_,rfl,h⟩:=Ja h
  obtain ⟨_,_,rfl,h⟩:=VC h
  obtain ⟨_,_,rfl,h⟩:=Ja h
  obtain ⟨_,_,rfl,h⟩:=Ja h
  obtain ⟨_,_,rfl,h⟩:=Ja h
  obtain ⟨_,_,rfl,h⟩:=VC h
  obtain ⟨_,_,rfl,h⟩:=Ja h
  obtain ⟨_,_,rfl,h⟩:=Jb h
  obtain ⟨_,_,rfl,h⟩:=Jb h
  obtain ⟨_,_,rfl,h⟩:=Jb h
  obtain ⟨rfl,hE⟩:=Je h
  obtain ⟨y,hy,hk⟩:=Jf hE
  cases y with
  | inl y=>
   exact ⟨0,_,_,_,hk,rfl,JV px (fx:=⟨Try.func9,by kernel_rfl,by kernel_rfl⟩) Jq (Jn ih Jr) (by kernel_rfl) ((q_Z99 ..).trans ((c_Z99_bind ..).trans (Ji hy)))⟩
  | inr y=>
   exact ⟨1,_,_,_,hk,rfl,JV px (fx:=⟨Try.func9,by kernel_rfl,by kernel_rfl⟩) Jq (Jn ih Jr) (by kernel_rfl) ((q_Z99 ..).trans ((c_Z99_bind ..).trans (Ji hy)))⟩
noncomputable def e_Z99:Js:=m_Z99 (Z99)
theorem e_Z99_ok:(e_Z99).ok Try.prog (Jl (Jk Try.f9) 13):=by
 intro R ds k r h
 unfold e_Z99 m_Z99 at h
 obtain ⟨_,_,rfl,h⟩:=Ja h
 obtain ⟨_,_,rfl,h⟩:=Ja h
 obtain ⟨_,_,rfl,h⟩:=Ja h
 obtain ⟨_,_,rfl,h⟩:=VC h
 obtain ⟨_,_,rfl,h⟩:=Ja h
 obtain ⟨_,_,rfl,h⟩:=Ja h
 obtain ⟨_,_,rfl,h⟩:=Ja h
 obtain ⟨_,_,rfl,h⟩:=VC h
 obtain ⟨_,_,rfl,h⟩:=Ja h
 obtain ⟨_,_,rfl,h⟩:=Jb h
 obtain ⟨_,_,rfl,h⟩:=Jb h
 obtain ⟨_,_,rfl,h⟩:=Jb h
 obtain ⟨rfl,hE⟩:=Je h
 obtain ⟨y,hy,hk⟩:=Jf hE
 obtain ⟨n,hn⟩:=Qa hy
 exact m_Z99_ok n R _ k r ((Ji hn).trans hk)

/-!-/
abbrev T_Z100:=Int→Int→Int→Int→Int→List D→List D→List D→List D→List D→Option (Int)
def c_Z100 {R:Type} (F:T_Z100) (x0 x1 x2 x3 x4:Int) (x5 x6 x7 x8 x9:List D) (k:Int→Option R):Option R:=
 bif decide (x4<x3) then
 if 0≤x4∧x4<(↑x8.length:Int) then
 if x4.toNat+1≤x8.length then
 if (0:Int)≤x1 then
 bif decide (IntKind.i64.wrap (↑(BitVec.ofInt IntKind.i64.bits (x4.fdiv ((2:Int) ^ Min.min x1.toNat IntKind.i64.bits)) &&& BitVec.ofInt IntKind.i64.bits (1:Int)).toNat:Int)=(0:Int)) then
 (Z70 x5 x6 x7 x4 x0).bind (fun y0=>
 bif y0 then
 if (0:Int)≤x0 then
 if (0:Int)≤IntKind.i64.wrap (↑(BitVec.ofInt IntKind.i64.bits x4 ||| BitVec.ofInt IntKind.i64.bits (IntKind.i64.wrap ((1:Int) * (2:Int) ^ Min.min x0.toNat IntKind.i64.bits))).toNat:Int)∧IntKind.i64.wrap (↑(BitVec.ofInt IntKind.i64.bits x4 ||| BitVec.ofInt IntKind.i64.bits (IntKind.i64.wrap ((1:Int) * (2:Int) ^ Min.min x0.toNat IntKind.i64.bits))).toNat:Int)<(↑x9.length:Int) then
 if (IntKind.i64.wrap (↑(BitVec.ofInt IntKind.i64.bits x4 ||| BitVec.ofInt IntKind.i64.bits (IntKind.i64.wrap ((1:Int) * (2:Int) ^ Min.min x0.toNat IntKind.i64.bits))).toNat:Int)).toNat+1≤x9.length then
 (F x0 x1 (IntKind.i64.wrap (x2+IntKind.i64.wrap ((x8.getD x4.toNat (D.int 0)).toInt * (x9.getD (IntKind.i64.wrap (↑(BitVec.ofInt IntKind.i64.bits x4 ||| BitVec.ofInt IntKind.i64.bits (IntKind.i64.wrap ((1:Int) * (2:Int) ^ Min.min x0.toNat IntKind.i64.bits))).toNat:Int)).toNat (D.int 0)).toInt))) x3 (IntKind.i64.wrap (x4+1)) x5 x6 x7 x8 x9).bind k
 else
 none
 else
 none
 else
 none
 else
 (F x0 x1 x2 x3 (IntKind.i64.wrap (x4+1)) x5 x6 x7 x8 x9).bind k)
 else
 (F x0 x1 x2 x3 (IntKind.i64.wrap (x4+1)) x5 x6 x7 x8 x9).bind k
 else
 none
 else
 none
 else
 none
 else
 k x2
theorem c_Z100_bind {R:Type} (F:T_Z100) (x0 x1 x2 x3 x4:Int) (x5 x6 x7 x8 x9:List D) (k:Int→Option R):c_Z100 F x0 x1 x2 x3 x4 x5 x6 x7 x8 x9 k=(c_Z100 F x0 x1 x2 x3 x4 x5 x6 x7 x8 x9 some).bind k:=by
 unfold c_Z100
 repeat' first
  | exact JE
  | exact JD
  | exact JC
  | apply Jz
  | apply JA
  | apply JF
  | (apply JB; intro _)
  | intro _
def n_Z100:Nat→T_Z100
 | 0,_,_,_,_,_,_,_,_,_,_=>none
 | n+1,x0,x1,x2,x3,x4,x5,x6,x7,x8,x9=>c_Z100 (n_Z100 n) x0 x1 x2 x3 x4 x5 x6 x7 x8 x9 some
noncomputable def Z100 (x0 x1 x2 x3 x4:Int) (x5 x6 x7 x8 x9:List D):Option (Int):=ev (fun n=>n_Z100 n x0 x1 x2 x3 x4 x5 x6 x7 x8 x9)
def m_Z100 (F:T_Z100):Js:=⟨7,⟨(uu 8 (.ptr 1000 [0]::.undef::.int .i64::.int .i64::.int .i64::uu 35 (.full 1000 [0,1] (.int .i64)::.int .i64::.int .i64::uu 34 ([])))),[(1000,.obox (.agg [.obox (.agg [.own (.int .i64),.own (.slice (.bool)),.own (.slice (.bool))]),.own (.int .i64),.own (.int .i64)]))]⟩,[(.exit 0,⟨(uu 12 (.int .i64::uu 72 ([]))),[]⟩)],fun _ ds k=>dI (fun x0 ds=>dI (fun x1 ds=>dI (fun x2 ds=>dI (fun x3 ds=>dI (fun x4 ds=>dL (fun x5 ds=>dL (fun x6 ds=>dL (fun x7 ds=>dL (fun x8 ds=>dL (fun x9 ds=>dE ((F x0 x1 x2 x3 x4 x5 x6 x7 x8 x9).bind (fun y=>k 0 [.I y])) ds) ds) ds) ds) ds) ds) ds) ds) ds) ds) ds⟩
theorem q_Z100 (F:T_Z100) (x0 x1 x2 x3 x4:Int) (x5 x6 x7 x8 x9:List D):J6 (Jv [e_Z70]) (Jw [m_Z100 F]) A 61 (Jl (Jk Try.f61) 7) ((m_Z100 F).sh.mk' [.I x0,.I x1,.I x2,.I x3,.I x4,.L x5,.L x6,.L x7,.L x8,.L x9]) (fun e σ'=>some (e,σ'))=c_Z100 F x0 x1 x2 x3 x4 x5 x6 x7 x8 x9 (fun y=>some (.exit 0,SSt.mk' ⟨(uu 12 (.int .i64::uu 72 ([]))),[]⟩ [.I y])):=by kernel_rfl
theorem m_Z100_ok:∀ n,(m_Z100 (n_Z100 n)).ok Try.prog (Jl (Jk Try.f61) 7):=by
 intro n
 induction n with
 | zero=>
  intro R ds k r h
  unfold m_Z100 at h
  obtain ⟨_,_,rfl,h⟩:=Ja h
  obtain ⟨_,_,rfl,h⟩:=Ja h
  obtain ⟨_,_,rfl,h⟩:=Ja h
  obtain ⟨_,_,rfl,h⟩:=Ja h
  obtain ⟨_,_,rfl,h⟩:=Ja h
  obtain ⟨_,_,rfl,h⟩:=Jb h
  obtain ⟨_,_,rfl,h⟩:=Jb h
  obtain ⟨_,_,rfl,h⟩:=Jb h
  obtain ⟨_,_,rfl,h⟩:=Jb h
  obtain ⟨_,_,rfl,h⟩:=Jb h
  obtain ⟨rfl,hE⟩:=Je h
  obtain ⟨y,hy,hk⟩:=Jf hE
  cases hy
 | succ n ih=>
  intro R ds k r h
  unfold m_Z100 at h
  obtain ⟨_,_,rfl,h⟩:=Ja h
  obtain ⟨_,_,rfl,h⟩:=Ja h
  obtain ⟨_,_,rfl,h⟩:=Ja h
  obtain ⟨_,_,rfl,h⟩:=Ja h
  obtain ⟨_,_,rfl,h⟩:=Ja h
  obtain ⟨_,_,rfl,h⟩:=Jb h
  obtain ⟨_,_,rfl,h⟩:=Jb h
  obtain ⟨_,_,rfl,h⟩:=Jb h
  obtain ⟨_,_,rfl,h⟩:=Jb h
  obtain ⟨_,_,rfl,h⟩:=Jb h
  obtain ⟨rfl,hE⟩:=Je h
  obtain ⟨y,hy,hk⟩:=Jf hE
  exact ⟨0,_,_,_,hk,rfl,JV px (fx:=⟨Try.func61,by kernel_rfl,by kernel_rfl⟩) (Jx e_Z70_ok Jq) (Jn ih Jr) (by kernel_rfl) ((q_Z100 ..).trans ((c_Z100_bind ..).trans (Ji hy)))⟩
noncomputable def e_Z100:Js:=m_Z100 (Z100)
theorem e_Z100_ok:(e_Z100).ok Try.prog (Jl (Jk Try.f61) 7):=by
 intro R ds k r h
 unfold e_Z100 m_Z100 at h
 obtain ⟨_,_,rfl,h⟩:=Ja h
 obtain ⟨_,_,rfl,h⟩:=Ja h
 obtain ⟨_,_,rfl,h⟩:=Ja h
 obtain ⟨_,_,rfl,h⟩:=Ja h
 obtain ⟨_,_,rfl,h⟩:=Ja h
 obtain ⟨_,_,rfl,h⟩:=Jb h
 obtain ⟨_,_,rfl,h⟩:=Jb h
 obtain ⟨_,_,rfl,h⟩:=Jb h
 obtain ⟨_,_,rfl,h⟩:=Jb h
 obtain ⟨_,_,rfl,h⟩:=Jb h
 obtain ⟨rfl,hE⟩:=Je h
 obtain ⟨y,hy,hk⟩:=Jf hE
 obtain ⟨n,hn⟩:=Qa hy
 exact m_Z100_ok n R _ k r ((Ji hn).trans hk)

/-!-/
def c_Z101 {R:Type} (x0 x1:List D) (x2 x3:Int) (k:Int×Bool→Option R):Option R:=
 (Z75 x0 x1).bind (Sum.elim (fun y0=>
 bif !y0 then
 k ((0:Int),Bool.false)
 else
 (Z44 x0 x1 x2).bind (fun y1=>
 bif decide (y1<(0:Int)) then
 k ((0:Int),Bool.false)
 else
 (Z44 x0 x1 x3).bind (fun y2=>
 bif decide (y2<(0:Int)) then
 k ((0:Int),Bool.false)
 else
 bif decide (x2=x3) then
 k ((0:Int),Bool.false)
 else
 (Z44 x0 x1 x2).bind (fun y3=>
 (Z44 x0 x1 x3).bind (fun y4=>
 none))))) (fun y5=>
 bif !y5.snd.snd.snd.snd.snd then
 k ((0:Int),Bool.false)
 else
 (Z44 x0 x1 x2).bind (fun y6=>
 bif decide (y6<(0:Int)) then
 k ((0:Int),Bool.false)
 else
 (Z44 x0 x1 x3).bind (fun y7=>
 bif decide (y7<(0:Int)) then
 k ((0:Int),Bool.false)
 else
 bif decide (x2=x3) then
 k ((0:Int),Bool.false)
 else
 (Z44 x0 x1 x2).bind (fun y8=>
 (Z44 x0 x1 x3).bind (fun y9=>
 (Z100 y8 y9 (0:Int) (↑y5.snd.snd.snd.fst.length:Int) (0:Int) y5.fst y5.snd.fst y5.snd.snd.fst y5.snd.snd.snd.fst y5.snd.snd.snd.snd.fst).bind (fun y10=>
 k (y10,Bool.true))))))))
theorem c_Z101_bind {R:Type} (x0 x1:List D) (x2 x3:Int) (k:Int×Bool→Option R):c_Z101 x0 x1 x2 x3 k=(c_Z101 x0 x1 x2 x3 some).bind k:=by
 unfold c_Z101
 repeat' first
  | exact JE
  | exact JD
  | exact JC
  | apply Jz
  | apply JA
  | apply JF
  | (apply JB; intro _)
  | intro _
def Z101 (x0 x1:List D) (x2 x3:Int):Option (Int×Bool):=c_Z101 x0 x1 x2 x3 some
def e_Z101:Ent:=⟨61,[.agg [.rd (.struct [.int .i64,.int .i64]),.rd (.struct [.int .i64,.int .i64])],.int .i64,.int .i64],[(.tup [.int .i64,.bool],[.undef,.undef,.undef])],fun _ ds k=>dL (fun x0 ds=>dL (fun x1 ds=>dI (fun x2 ds=>dI (fun x3 ds=>dE ((Z101 x0 x1 x2 x3).bind (fun y=>k 0 [.I y.1,.B y.2])) ds) ds) ds) ds) ds⟩
theorem q_Z101 (x0 x1:List D) (x2 x3:Int):J5 (Jv [e_Z75,e_Z44]) (Jw [e_Z100]) A 61 Try.f61 (Sh.mks e_Z101.sh [.L x0,.L x1,.I x2,.I x3]).1 (fun v os=>some (v,os))=c_Z101 x0 x1 x2 x3 (fun y=>J7 e_Z101 0 [.I y.1,.B y.2]):=by kernel_rfl
theorem e_Z101_ok:e_Z101.ok Try.prog A:=by
 intro R ds k r h
 unfold e_Z101 at h
 obtain ⟨_,_,rfl,h⟩:=Jb h
 obtain ⟨_,_,rfl,h⟩:=Jb h
 obtain ⟨_,_,rfl,h⟩:=Ja h
 obtain ⟨_,_,rfl,h⟩:=Ja h
 obtain ⟨rfl,hE⟩:=Je h
 obtain ⟨y,hy,hk⟩:=Jf hE
 exact ⟨0,_,_,_,hk,rfl,J8 px (fx:=⟨Try.func61,by kernel_rfl,by kernel_rfl⟩) (Jx e_Z75_ok (Jx e_Z44_ok Jq)) (Jn e_Z100_ok Jr) ((q_Z101 ..).trans ((c_Z101_bind ..).trans (Ji hy)))⟩

/-!-/
abbrev T_Z102:=Int→Int→Int→List D→List D→Option (List D)
def c_Z102 {R:Type} (F:T_Z102) (x0 x1 x2:Int) (x3 x4:List D) (k:List D→Option R):Option R:=
 bif decide (x2<(↑x4.length:Int)) then
 bif decide (x2=x0) then
 if 0≤x2∧x2<(↑x4.length:Int) then
 if x2.toNat+1≤x4.length then
 if 0≤x1∧x1<(↑x3.length:Int) then
 if x1.toNat+1≤x3.length then
 if (0:Int)≤IntKind.u64.wrap x1 then
 if 0≤x2∧x2<(↑x4.length:Int) then
 if x2.toNat+1≤x4.length then
 (F x0 x1 (IntKind.i64.wrap (x2+1)) x3 (x4.set x2.toNat (D.int (IntKind.i64.wrap (↑(BitVec.ofInt IntKind.i64.bits (IntKind.i64.wrap (↑(BitVec.ofInt IntKind.i64.bits (x4.getD x2.toNat (D.int 0)).toInt ||| BitVec.ofInt IntKind.i64.bits (x3.getD x1.toNat (D.int 0)).toInt).toNat:Int)) ||| BitVec.ofInt IntKind.i64.bits (IntKind.i64.wrap ((1:Int) * (2:Int) ^ Min.min (IntKind.u64.wrap x1).toNat IntKind.i64.bits))).toNat:Int))))).bind k
 else
 none
 else
 none
 else
 none
 else
 none
 else
 none
 else
 none
 else
 none
 else
 if 0≤x2∧x2<(↑x3.length:Int) then
 if x2.toNat+1≤x3.length then
 (Z30 ((x3.getD x2.toNat (D.int 0)).toInt) x0).bind (fun y0=>
 bif y0 then
 if 0≤x2∧x2<(↑x4.length:Int) then
 if x2.toNat+1≤x4.length then
 if 0≤x1∧x1<(↑x3.length:Int) then
 if x1.toNat+1≤x3.length then
 if (0:Int)≤IntKind.u64.wrap x1 then
 if 0≤x2∧x2<(↑x4.length:Int) then
 if x2.toNat+1≤x4.length then
 (F x0 x1 (IntKind.i64.wrap (x2+1)) x3 (x4.set x2.toNat (D.int (IntKind.i64.wrap (↑(BitVec.ofInt IntKind.i64.bits (IntKind.i64.wrap (↑(BitVec.ofInt IntKind.i64.bits (x4.getD x2.toNat (D.int 0)).toInt ||| BitVec.ofInt IntKind.i64.bits (x3.getD x1.toNat (D.int 0)).toInt).toNat:Int)) ||| BitVec.ofInt IntKind.i64.bits (IntKind.i64.wrap ((1:Int) * (2:Int) ^ Min.min (IntKind.u64.wrap x1).toNat IntKind.i64.bits))).toNat:Int))))).bind k
 else
 none
 else
 none
 else
 none
 else
 none
 else
 none
 else
 none
 else
 none
 else
 (F x0 x1 (IntKind.i64.wrap (x2+1)) x3 x4).bind k)
 else
 none
 else
 none
 else
 k x4
theorem c_Z102_bind {R:Type} (F:T_Z102) (x0 x1 x2:Int) (x3 x4:List D) (k:List D→Option R):c_Z102 F x0 x1 x2 x3 x4 k=(c_Z102 F x0 x1 x2 x3 x4 some).bind k:=by
 unfold c_Z102
 repeat' first
  | exact JE
  | exact JD
  | exact JC
  | apply Jz
  | apply JA
  | apply JF
  | (apply JB; intro _)
  | intro _
def n_Z102:Nat→T_Z102
 | 0,_,_,_,_,_=>none
 | n+1,x0,x1,x2,x3,x4=>c_Z102 (n_Z102 n) x0 x1 x2 x3 x4 some
noncomputable def Z102 (x0 x1 x2:Int) (x3 x4:List D):Option (List D):=ev (fun n=>n_Z102 n x0 x1 x2 x3 x4)
def m_Z102 (F:T_Z102):Js:=⟨9,⟨(uu 8 (.int .i64::.int .i64::.full 1000 [] (.int .i64)::.full 1001 [] (.int .i64)::.int .i64::uu 70 ([]))),[(1000,.own (.int .i64)),(1001,.own (.int .i64))]⟩,[(.exit 0,⟨(uu 11 (.full 1000 [] (.int .i64)::uu 71 ([]))),[(1000,.own (.int .i64))]⟩)],fun _ ds k=>dI (fun x0 ds=>dI (fun x1 ds=>dI (fun x2 ds=>dL (fun x3 ds=>dL (fun x4 ds=>dE ((F x0 x1 x2 x3 x4).bind (fun y=>k 0 [.L y])) ds) ds) ds) ds) ds) ds⟩
theorem q_Z102 (F:T_Z102) (x0 x1 x2:Int) (x3 x4:List D):J6 (Jv [e_Z30]) (Jw [m_Z102 F]) A 62 (Jl (Jk Try.f62) 9) ((m_Z102 F).sh.mk' [.I x0,.I x1,.I x2,.L x3,.L x4]) (fun e σ'=>some (e,σ'))=c_Z102 F x0 x1 x2 x3 x4 (fun y=>some (.exit 0,SSt.mk' ⟨(uu 11 (.full 1000 [] (.int .i64)::uu 71 ([]))),[(1000,.own (.int .i64))]⟩ [.L y])):=by kernel_rfl
theorem m_Z102_ok:∀ n,(m_Z102 (n_Z102 n)).ok Try.prog (Jl (Jk Try.f62) 9):=by
 intro n
 induction n with
 | zero=>
  intro R ds k r h
  unfold m_Z102 at h
  obtain ⟨_,_,rfl,h⟩:=Ja h
  obtain ⟨_,_,rfl,h⟩:=Ja h
  obtain ⟨_,_,rfl,h⟩:=Ja h
  obtain ⟨_,_,rfl,h⟩:=Jb h
  obtain ⟨_,_,rfl,h⟩:=Jb h
  obtain ⟨rfl,hE⟩:=Je h
  obtain ⟨y,hy,hk⟩:=Jf hE
  cases hy
 | succ n ih=>
  intro R ds k r h
  unfold m_Z102 at h
  obtain ⟨_,_,rfl,h⟩:=Ja h
  obtain ⟨_,_,rfl,h⟩:=Ja h
  obtain ⟨_,_,rfl,h⟩:=Ja h
  obtain ⟨_,_,rfl,h⟩:=Jb h
  obtain ⟨_,_,rfl,h⟩:=Jb h
  obtain ⟨rfl,hE⟩:=Je h
  obtain ⟨y,hy,hk⟩:=Jf hE
  exact ⟨0,_,_,_,hk,rfl,JV px (fx:=⟨Try.func62,by kernel_rfl,by kernel_rfl⟩) (Jx e_Z30_ok Jq) (Jn ih Jr) (by kernel_rfl) ((q_Z102 ..).trans ((c_Z102_bind ..).trans (Ji hy)))⟩
noncomputable def e_Z102:Js:=m_Z102 (Z102)
theorem e_Z102_ok:(e_Z102).ok Try.prog (Jl (Jk Try.f62) 9):=by
 intro R ds k r h
 unfold e_Z102 m_Z102 at h
 obtain ⟨_,_,rfl,h⟩:=Ja h
 obtain ⟨_,_,rfl,h⟩:=Ja h
 obtain ⟨_,_,rfl,h⟩:=Ja h
 obtain ⟨_,_,rfl,h⟩:=Jb h
 obtain ⟨_,_,rfl,h⟩:=Jb h
 obtain ⟨rfl,hE⟩:=Je h
 obtain ⟨y,hy,hk⟩:=Jf hE
 obtain ⟨n,hn⟩:=Qa hy
 exact m_Z102_ok n R _ k r ((Ji hn).trans hk)

/-!-/
def c_Z103 {R:Type} (x0 x1:List D) (x2 x3:Int) (k:Int×Bool→Option R):Option R:=
 (Z25 x0 x1 x2).bind (fun y0=>
 (Z25 x0 x1 x3).bind (fun y1=>
 (Z84 x0 x1).bind (fun y2=>
 bif !y2 then
 k ((0:Int),Bool.false)
 else
 bif decide (y0<(0:Int)) then
 k ((0:Int),Bool.false)
 else
 bif decide (y1<(0:Int)) then
 k ((0:Int),Bool.false)
 else
 bif decide (y0=y1) then
 k ((0:Int),Bool.false)
 else
 (Z29 x0 x1).bind (fun y3=>
 if 0≤y1∧y1<(↑y3.length:Int) then
 if y1.toNat+1≤y3.length then
 (Z30 ((y3.getD y1.toNat (D.int 0)).toInt) y0).bind (fun y4=>
 bif y4 then
 k ((0:Int),Bool.true)
 else
 if ([]:List D).length+y3.length≤(4294967296:Nat) then
 (Z102 y0 y1 (0:Int) y3 ([]++y3)).bind (fun y5=>
 (Z89 y5).bind (fun y6=>
 if (0:Int)≤(0:Int)∧(0:Int)<(↑y6.length:Int) then
 if Int.toNat (0:Int)+(1:Nat)≤y6.length then
 k ((y6.getD (Int.toNat (0:Int)) (D.int 0)).toInt,Bool.true)
 else
 none
 else
 none))
 else
 none)
 else
 none
 else
 none))))
theorem c_Z103_bind {R:Type} (x0 x1:List D) (x2 x3:Int) (k:Int×Bool→Option R):c_Z103 x0 x1 x2 x3 k=(c_Z103 x0 x1 x2 x3 some).bind k:=by
 unfold c_Z103
 repeat' first
  | exact JE
  | exact JD
  | exact JC
  | apply Jz
  | apply JA
  | apply JF
  | (apply JB; intro _)
  | intro _
def Z103 (x0 x1:List D) (x2 x3:Int):Option (Int×Bool):=c_Z103 x0 x1 x2 x3 some
def e_Z103:Ent:=⟨62,[.agg [.rd (.struct [.int .i64,.int .i64]),.rd (.struct [.int .i64,.int .i64])],.int .i64,.int .i64],[(.tup [.int .i64,.bool],[.undef,.undef,.undef])],fun _ ds k=>dL (fun x0 ds=>dL (fun x1 ds=>dI (fun x2 ds=>dI (fun x3 ds=>dE ((Z103 x0 x1 x2 x3).bind (fun y=>k 0 [.I y.1,.B y.2])) ds) ds) ds) ds) ds⟩
theorem q_Z103 (x0 x1:List D) (x2 x3:Int):J5 (Jv [e_Z25,e_Z84,e_Z29,e_Z30,e_Z89]) (Jw [e_Z102]) A 62 Try.f62 (Sh.mks e_Z103.sh [.L x0,.L x1,.I x2,.I x3]).1 (fun v os=>some (v,os))=c_Z103 x0 x1 x2 x3 (fun y=>J7 e_Z103 0 [.I y.1,.B y.2]):=by kernel_rfl
theorem e_Z103_ok:e_Z103.ok Try.prog A:=by
 intro R ds k r h
 unfold e_Z103 at h
 obtain ⟨_,_,rfl,h⟩:=Jb h
 obtain ⟨_,_,rfl,h⟩:=Jb h
 obtain ⟨_,_,rfl,h⟩:=Ja h
 obtain ⟨_,_,rfl,h⟩:=Ja h
 obtain ⟨rfl,hE⟩:=Je h
 obtain ⟨y,hy,hk⟩:=Jf hE
 exact ⟨0,_,_,_,hk,rfl,J8 px (fx:=⟨Try.func62,by kernel_rfl,by kernel_rfl⟩) (Jx e_Z25_ok (Jx e_Z84_ok (Jx e_Z29_ok (Jx e_Z30_ok (Jx e_Z89_ok Jq))))) (Jn e_Z102_ok Jr) ((q_Z103 ..).trans ((c_Z103_bind ..).trans (Ji hy)))⟩

/-!-/
def c_Z104 {R:Type} (x0:List D) (k:Bool→Option R):Option R:=
 (Z1 x0).bind (fun y0=>
 bif y0 then
 k Bool.true
 else
 (Z36 x0).bind (fun y1=>
 (Z76 y1.fst y1.snd.fst).bind (fun y2=>
 (Z79 y1.fst y1.snd.fst y1.snd.snd.fst).bind (fun y3=>
 (Z94 y1.fst y1.snd.fst y1.snd.snd.fst).bind (fun y4=>
 bif !y3.snd==y4.snd then
 k Bool.false
 else
 (Z96 y3.fst y4.fst).bind (fun y5=>
 bif !y5 then
 k Bool.false
 else
 bif y3.snd then
 (Z98 y1.fst y1.snd.fst y1.snd.snd.fst).bind (fun y6=>
 (Z99 y1.snd.snd.fst y1.snd.snd.snd y2.fst y2.snd (0:Int) y6.fst y6.snd.fst y6.snd.snd (0:Int) y1.fst y1.snd.fst y3.fst).bind (Sum.elim (fun y7=>
 k y7.fst) (fun y8=>
 bif !y8.snd.snd.snd.fst then
 k Bool.false
 else
 bif !y8.snd.snd.snd.snd.snd.fst then
 k Bool.false
 else
 bif !decide (y8.snd.snd.snd.snd.fst=y8.snd.snd.fst) then
 k Bool.false
 else
 (Z101 y8.snd.snd.snd.snd.snd.snd.fst y8.snd.snd.snd.snd.snd.snd.snd y8.fst y8.snd.fst).bind (fun y9=>
 (Z101 y8.snd.snd.snd.snd.snd.snd.fst y8.snd.snd.snd.snd.snd.snd.snd y8.snd.fst y8.fst).bind (fun y10=>
 (Z103 y8.snd.snd.snd.snd.snd.snd.fst y8.snd.snd.snd.snd.snd.snd.snd y8.fst y8.snd.fst).bind (fun y11=>
 bif !y9.snd==y11.snd then
 k Bool.false
 else
 bif !y10.snd==y9.snd then
 k Bool.false
 else
 bif !y9.snd then
 k Bool.true
 else
 k (decide (IntKind.i64.wrap (y9.fst+y10.fst)=y8.snd.snd.fst))))))))
 else
 (Z101 y1.fst y1.snd.fst y1.snd.snd.fst y1.snd.snd.snd).bind (fun y12=>
 (Z101 y1.fst y1.snd.fst y1.snd.snd.snd y1.snd.snd.fst).bind (fun y13=>
 (Z103 y1.fst y1.snd.fst y1.snd.snd.fst y1.snd.snd.snd).bind (fun y14=>
 bif !y12.snd==y14.snd then
 k Bool.false
 else
 bif !y13.snd==y12.snd then
 k Bool.false
 else
 bif !y12.snd then
 k Bool.true
 else
 k (decide (IntKind.i64.wrap (y12.fst+y13.fst)=y2.fst)))))))))))
theorem c_Z104_bind {R:Type} (x0:List D) (k:Bool→Option R):c_Z104 x0 k=(c_Z104 x0 some).bind k:=by
 unfold c_Z104
 repeat' first
  | exact JE
  | exact JD
  | exact JC
  | apply Jz
  | apply JA
  | apply JF
  | (apply JB; intro _)
  | intro _
def Z104 (x0:List D):Option (Bool):=c_Z104 x0 some
def e_Z104:Ent:=⟨9,[.rd (.int .u8)],[(.bool,[.undef])],fun _ ds k=>dL (fun x0 ds=>dE ((Z104 x0).bind (fun y=>k 0 [.B y])) ds) ds⟩
theorem q_Z104 (x0:List D):J5 (Jv [e_Z1,e_Z36,e_Z76,e_Z79,e_Z94,e_Z96,e_Z98,e_Z101,e_Z103]) (Jw [e_Z99]) A 9 Try.f9 (Sh.mks e_Z104.sh [.L x0]).1 (fun v os=>some (v,os))=c_Z104 x0 (fun y=>J7 e_Z104 0 [.B y]):=by kernel_rfl
theorem e_Z104_ok:e_Z104.ok Try.prog A:=by
 intro R ds k r h
 unfold e_Z104 at h
 obtain ⟨_,_,rfl,h⟩:=Jb h
 obtain ⟨rfl,hE⟩:=Je h
 obtain ⟨y,hy,hk⟩:=Jf hE
 exact ⟨0,_,_,_,hk,rfl,J8 px (fx:=⟨Try.func9,by kernel_rfl,by kernel_rfl⟩) (Jx e_Z1_ok (Jx e_Z36_ok (Jx e_Z76_ok (Jx e_Z79_ok (Jx e_Z94_ok (Jx e_Z96_ok (Jx e_Z98_ok (Jx e_Z101_ok (Jx e_Z103_ok Jq))))))))) (Jn e_Z99_ok Jr) ((q_Z104 ..).trans ((c_Z104_bind ..).trans (Ji hy)))⟩
end
end Go.Proofs.Ytdoaceeakjbgfaa
