/- Models of Go functions and their contracts, printed by a program of this session. -/
import Derived.Test.YtnoccadolcgifaaClMFnMatrixx0
set_option linter.unusedVariables false
set_option maxRecDepth 100000
namespace Go.Proofs.Ytnoccadolcgifaa
open Go Go.Rai
noncomputable section
/-!-/
def c_Z75 {R:Type} (x0 x1:List D) (k:List D×List D×Bool→Option R):Option R:=
 (Z66 x0 x1).bind (Sum.elim (fun y0=>
 bif !y0 then
 k ([],[],Bool.false)
 else
 (Z67 x0).bind (fun y1=>
 (Z70 x0 x1 Bool.false).bind (fun y2=>
 k (y1,y2,Bool.true)))) (fun y3=>
 bif !y3.snd.snd.snd then
 k ([],[],Bool.false)
 else
 (Z67 x0).bind (fun y4=>
 (Z74 x0 x1 y3.fst y3.snd.fst y3.snd.snd.fst Bool.false).bind (fun y5=>
 k (y4,y5,Bool.true)))))
theorem c_Z75_bind {R:Type} (x0 x1:List D) (k:List D×List D×Bool→Option R):c_Z75 x0 x1 k=(c_Z75 x0 x1 some).bind k:=by
 unfold c_Z75
 repeat' first
  | exact JA
  | exact Jz
  | exact Jy
  | apply Jv
  | apply Jw
  | apply JB
  | (apply Jx;intro _)
  | intro _
def Z75 (x0 x1:List D):Option (List D×List D×Bool):=c_Z75 x0 x1 some
def e_Z75:Ent:=⟨10,[.agg [.rd (.struct [.int .i64,.int .i64]),.rd (.struct [.int .i64,.int .i64])]],[(.tup [.agg [.own (.struct [.int .i64,.int .i64]),.own (.struct [.int .i64,.int .i64])],.bool],[.undef])],fun _ ds k=>dL (fun x0 ds=>dL (fun x1 ds=>dE ((Z75 x0 x1).bind (fun y=>k 0 [.L y.1,.L y.2.1,.B y.2.2])) ds) ds) ds⟩
theorem q_Z75 (x0 x1:List D):JX (Jr [e_Z66,e_Z67,e_Z70,e_Z74]) (Js []) A 10 Try.f10 (Sh.mks e_Z75.sh [.L x0,.L x1]).1 (fun v os=>some (v,os))=c_Z75 x0 x1 (fun y=>J0 e_Z75 0 [.L y.1,.L y.2.1,.B y.2.2]):=by kernel_rfl
theorem e_Z75_ok:e_Z75.ok Try.prog A:=by
 intro R ds k r h
 unfold e_Z75 at h
 obtain ⟨_,_,rfl,h⟩:=Ja h
 obtain ⟨_,_,rfl,h⟩:=Ja h
 obtain ⟨rfl,hE⟩:=Je h
 obtain ⟨y,hy,hk⟩:=Jf hE
 exact ⟨0,_,_,_,hk,rfl,J1 px (fx:=⟨Try.func10,by kernel_rfl,by kernel_rfl⟩) (Jt e_Z66_ok (Jt e_Z67_ok (Jt e_Z70_ok (Jt e_Z74_ok Jn)))) Jo ((q_Z75 ..).trans ((c_Z75_bind ..).trans (Jg hy)))⟩

/-!-/
def c_Z76 {R:Type} (x0 x1 x2:Int) (k:Bool→Option R):Option R:=
 bif decide (x1≤x0) then
 k (decide (x0≤x2))
 else
 k Bool.false
theorem c_Z76_bind {R:Type} (x0 x1 x2:Int) (k:Bool→Option R):c_Z76 x0 x1 x2 k=(c_Z76 x0 x1 x2 some).bind k:=by
 unfold c_Z76
 repeat' first
  | exact JA
  | exact Jz
  | exact Jy
  | apply Jv
  | apply Jw
  | apply JB
  | (apply Jx;intro _)
  | intro _
def Z76 (x0 x1 x2:Int):Option (Bool):=c_Z76 x0 x1 x2 some
def e_Z76:Ent:=⟨82,[.int .i64,.int .i64,.int .i64],[(.bool,[.undef,.undef,.undef])],fun _ ds k=>dI (fun x0 ds=>dI (fun x1 ds=>dI (fun x2 ds=>dE ((Z76 x0 x1 x2).bind (fun y=>k 0 [.B y])) ds) ds) ds) ds⟩
theorem q_Z76 (x0 x1 x2:Int):JX (Jr []) (Js []) A 82 Try.f82 (Sh.mks e_Z76.sh [.I x0,.I x1,.I x2]).1 (fun v os=>some (v,os))=c_Z76 x0 x1 x2 (fun y=>J0 e_Z76 0 [.B y]):=by kernel_rfl
theorem e_Z76_ok:e_Z76.ok Try.prog A:=by
 intro R ds k r h
 unfold e_Z76 at h
 obtain ⟨_,_,rfl,h⟩:=Jb h
 obtain ⟨_,_,rfl,h⟩:=Jb h
 obtain ⟨_,_,rfl,h⟩:=Jb h
 obtain ⟨rfl,hE⟩:=Je h
 obtain ⟨y,hy,hk⟩:=Jf hE
 exact ⟨0,_,_,_,hk,rfl,J1 px (fx:=⟨Try.func82,by kernel_rfl,by kernel_rfl⟩) Jn Jo ((q_Z76 ..).trans ((c_Z76_bind ..).trans (Jg hy)))⟩

/-!-/
abbrev T_Z77:=Int→List D→List D→Option ((Bool×List D×List D)⊕(List D×List D))
def c_Z77 {R:Type} (F:T_Z77) (x0:Int) (x1 x2:List D) (k:(Bool×List D×List D)⊕(List D×List D)→Option R):Option R:=
 bif decide (x0<(↑x1.length:Int)) then
 if 0≤x0∧x0<(↑x1.length:Int) then
 (Z76 (((x1.getD x0.toNat (D.int 0)).fld (0:Nat)).toInt) (1:Int) (999:Int)).bind (fun y0=>
 bif !y0 then
 k (.inl (Bool.false,x1,x2))
 else
 (Z76 (((x1.getD x0.toNat (D.int 0)).fld (1:Nat)).toInt) (1:Int) (4:Int)).bind (fun y1=>
 bif !y1 then
 k (.inl (Bool.false,x1,x2))
 else
 bif decide ((0:Int)<x0) then
 if (0:Int)≤IntKind.i64.wrap (x0 - 1)∧IntKind.i64.wrap (x0 - 1)<(↑x1.length:Int) then
 bif decide (((x1.getD x0.toNat (D.int 0)).fld (0:Nat)).toInt≤((x1.getD (IntKind.i64.wrap (x0 - 1)).toNat (D.int 0)).fld (0:Nat)).toInt) then
 k (.inl (Bool.false,x1,x2))
 else
 (F (IntKind.i64.wrap (x0+1)) x1 x2).bind k
 else
 none
 else
 (F (IntKind.i64.wrap (x0+1)) x1 x2).bind k))
 else
 none
 else
 k (.inr (x1,x2))
theorem c_Z77_bind {R:Type} (F:T_Z77) (x0:Int) (x1 x2:List D) (k:(Bool×List D×List D)⊕(List D×List D)→Option R):c_Z77 F x0 x1 x2 k=(c_Z77 F x0 x1 x2 some).bind k:=by
 unfold c_Z77
 repeat' first
  | exact JA
  | exact Jz
  | exact Jy
  | apply Jv
  | apply Jw
  | apply JB
  | (apply Jx;intro _)
  | intro _
def n_Z77:Nat→T_Z77
 | 0,_,_,_=>none
 | n+1,x0,x1,x2=>c_Z77 (n_Z77 n) x0 x1 x2 some
noncomputable def Z77 (x0:Int) (x1 x2:List D):Option ((Bool×List D×List D)⊕(List D×List D)):=ev (fun n=>n_Z77 n x0 x1 x2)
def m_Z77 (F:T_Z77):Jq:=⟨4,⟨(.undef::.ptr 1000 [0]::.undef::.int .i64::uu 97 ([])),[(1000,.obox (.agg [.rd (.struct [.int .i64,.int .i64]),.rd (.struct [.int .i64,.int .i64])]))]⟩,[(.ret,⟨(.undef::.ptr 1000 [0]::.bool::uu 98 ([])),[(1000,.obox (.agg [.rd (.struct [.int .i64,.int .i64]),.rd (.struct [.int .i64,.int .i64])]))]⟩),(.exit 0,⟨(.undef::.ptr 1000 [0]::uu 99 ([])),[(1000,.obox (.agg [.rd (.struct [.int .i64,.int .i64]),.rd (.struct [.int .i64,.int .i64])]))]⟩)],fun _ ds k=>dI (fun x0 ds=>dL (fun x1 ds=>dL (fun x2 ds=>dE ((F x0 x1 x2).bind (Sum.elim (fun y=>k 0 [.B y.1,.L y.2.1,.L y.2.2]) (fun y=>k 1 [.L y.1,.L y.2]))) ds) ds) ds) ds⟩
theorem q_Z77 (F:T_Z77) (x0:Int) (x1 x2:List D):J2 (Jr [e_Z76]) (Js [m_Z77 F]) A 59 (Jk (Jh Try.f59) 4) ((m_Z77 F).sh.mk' [.I x0,.L x1,.L x2]) (fun e σ'=>some (e,σ'))=c_Z77 F x0 x1 x2 (Sum.elim (fun y=>some (.ret,SSt.mk' ⟨(.undef::.ptr 1000 [0]::.bool::uu 98 ([])),[(1000,.obox (.agg [.rd (.struct [.int .i64,.int .i64]),.rd (.struct [.int .i64,.int .i64])]))]⟩ [.B y.1,.L y.2.1,.L y.2.2])) (fun y=>some (.exit 0,SSt.mk' ⟨(.undef::.ptr 1000 [0]::uu 99 ([])),[(1000,.obox (.agg [.rd (.struct [.int .i64,.int .i64]),.rd (.struct [.int .i64,.int .i64])]))]⟩ [.L y.1,.L y.2]))):=by kernel_rfl
theorem m_Z77_ok:∀ n,(m_Z77 (n_Z77 n)).ok Try.prog (Jk (Jh Try.f59) 4):=by
 intro n
 induction n with
 | zero=>
  intro R ds k r h
  unfold m_Z77 at h
  obtain ⟨_,_,rfl,h⟩:=Jb h
  obtain ⟨_,_,rfl,h⟩:=Ja h
  obtain ⟨_,_,rfl,h⟩:=Ja h
  obtain ⟨rfl,hE⟩:=Je h
  obtain ⟨y,hy,hk⟩:=Jf hE
  cases hy
 | succ n ih=>
  intro R ds k r h
  unfold m_Z77 at h
  obtain ⟨_,_,rfl,h⟩:=Jb h
  obtain ⟨_,_,rfl,h⟩:=Ja h
  obtain ⟨_,_,rfl,h⟩:=Ja h
  obtain ⟨rfl,hE⟩:=Je h
  obtain ⟨y,hy,hk⟩:=Jf hE
  cases y with
  | inl y=>
   exact ⟨0,_,_,_,hk,rfl,JP px (fx:=⟨Try.func59,by kernel_rfl,by kernel_rfl⟩) (Jt e_Z76_ok Jn) (Jm ih Jo) (by kernel_rfl) ((q_Z77 ..).trans ((c_Z77_bind ..).trans (Jg hy)))⟩
  | inr y=>
   exact ⟨1,_,_,_,hk,rfl,JP px (fx:=⟨Try.func59,by kernel_rfl,by kernel_rfl⟩) (Jt e_Z76_ok Jn) (Jm ih Jo) (by kernel_rfl) ((q_Z77 ..).trans ((c_Z77_bind ..).trans (Jg hy)))⟩
noncomputable def e_Z77:Jq:=m_Z77 (Z77)
theorem e_Z77_ok:(e_Z77).ok Try.prog (Jk (Jh Try.f59) 4):=by
 intro R ds k r h
 unfold e_Z77 m_Z77 at h
 obtain ⟨_,_,rfl,h⟩:=Jb h
 obtain ⟨_,_,rfl,h⟩:=Ja h
 obtain ⟨_,_,rfl,h⟩:=Ja h
 obtain ⟨rfl,hE⟩:=Je h
 obtain ⟨y,hy,hk⟩:=Jf hE
 obtain ⟨n,hn⟩:=J5 hy
 exact m_Z77_ok n R _ k r ((Jg hn).trans hk)

/-!-/
abbrev T_Z78:=Int→List D→List D→Option ((Bool)⊕(Unit))
def c_Z78 {R:Type} (F:T_Z78) (x0:Int) (x1 x2:List D) (k:(Bool)⊕(Unit)→Option R):Option R:=
 bif decide (x0<(↑x2.length:Int)) then
 if 0≤x0∧x0<(↑x2.length:Int) then
 bif decide (((x2.getD x0.toNat (D.int 0)).fld (0:Nat)).toInt=((x2.getD x0.toNat (D.int 0)).fld (1:Nat)).toInt) then
 k (.inl Bool.false)
 else
 (Z24 x1 x2 (((x2.getD x0.toNat (D.int 0)).fld (0:Nat)).toInt)).bind (fun y0=>
 bif decide (y0<(0:Int)) then
 k (.inl Bool.false)
 else
 (Z24 x1 x2 (((x2.getD x0.toNat (D.int 0)).fld (1:Nat)).toInt)).bind (fun y1=>
 bif decide (y1<(0:Int)) then
 k (.inl Bool.false)
 else
 bif decide ((0:Int)<x0) then
 if (0:Int)≤IntKind.i64.wrap (x0 - 1)∧IntKind.i64.wrap (x0 - 1)<(↑x2.length:Int) then
 (Z6 (((x2.getD (IntKind.i64.wrap (x0 - 1)).toNat (D.int 0)).fld (0:Nat)).toInt) (((x2.getD (IntKind.i64.wrap (x0 - 1)).toNat (D.int 0)).fld (1:Nat)).toInt) (((x2.getD x0.toNat (D.int 0)).fld (0:Nat)).toInt) (((x2.getD x0.toNat (D.int 0)).fld (1:Nat)).toInt)).bind (fun y2=>
 bif !y2 then
 k (.inl Bool.false)
 else
 (F (IntKind.i64.wrap (x0+1)) x1 x2).bind k)
 else
 none
 else
 (F (IntKind.i64.wrap (x0+1)) x1 x2).bind k))
 else
 none
 else
 k (.inr ())
theorem c_Z78_bind {R:Type} (F:T_Z78) (x0:Int) (x1 x2:List D) (k:(Bool)⊕(Unit)→Option R):c_Z78 F x0 x1 x2 k=(c_Z78 F x0 x1 x2 some).bind k:=by
 unfold c_Z78
 repeat' first
  | exact JA
  | exact Jz
  | exact Jy
  | apply Jv
  | apply Jw
  | apply JB
  | (apply Jx;intro _)
  | intro _
def n_Z78:Nat→T_Z78
 | 0,_,_,_=>none
 | n+1,x0,x1,x2=>c_Z78 (n_Z78 n) x0 x1 x2 some
noncomputable def Z78 (x0:Int) (x1 x2:List D):Option ((Bool)⊕(Unit)):=ev (fun n=>n_Z78 n x0 x1 x2)
def m_Z78 (F:T_Z78):Jq:=⟨10,⟨(.undef::.ptr 1000 [0]::.undef::.undef::.undef::.int .i64::uu 95 ([])),[(1000,.obox (.agg [.rd (.struct [.int .i64,.int .i64]),.rd (.struct [.int .i64,.int .i64])]))]⟩,[(.ret,⟨(.undef::.undef::.bool::uu 98 ([])),[]⟩),(.exit 2,⟨(uu 101 ([])),[]⟩)],fun _ ds k=>dI (fun x0 ds=>dL (fun x1 ds=>dL (fun x2 ds=>dE ((F x0 x1 x2).bind (Sum.elim (fun y=>k 0 [.B y]) (fun y=>k 1 []))) ds) ds) ds) ds⟩
theorem q_Z78 (F:T_Z78) (x0:Int) (x1 x2:List D):J2 (Jr [e_Z24,e_Z6]) (Js [m_Z78 F]) A 59 (Jk (Jh Try.f59) 10) ((m_Z78 F).sh.mk' [.I x0,.L x1,.L x2]) (fun e σ'=>some (e,σ'))=c_Z78 F x0 x1 x2 (Sum.elim (fun y=>some (.ret,SSt.mk' ⟨(.undef::.undef::.bool::uu 98 ([])),[]⟩ [.B y])) (fun y=>some (.exit 2,SSt.mk' ⟨(uu 101 ([])),[]⟩ []))):=by kernel_rfl
theorem m_Z78_ok:∀ n,(m_Z78 (n_Z78 n)).ok Try.prog (Jk (Jh Try.f59) 10):=by
 intro n
 induction n with
 | zero=>
  intro R ds k r h
  unfold m_Z78 at h
  obtain ⟨_,_,rfl,h⟩:=Jb h
  obtain ⟨_,_,rfl,h⟩:=Ja h
  obtain ⟨_,_,rfl,h⟩:=Ja h
  obtain ⟨rfl,hE⟩:=Je h
  obtain ⟨y,hy,hk⟩:=Jf hE
  cases hy
 | succ n ih=>
  intro R ds k r h
  unfold m_Z78 at h
  obtain ⟨_,_,rfl,h⟩:=Jb h
  obtain ⟨_,_,rfl,h⟩:=Ja h
  obtain ⟨_,_,rfl,h⟩:=Ja h
  obtain ⟨rfl,hE⟩:=Je h
  obtain ⟨y,hy,hk⟩:=Jf hE
  cases y with
  | inl y=>
   exact ⟨0,_,_,_,hk,rfl,JP px (fx:=⟨Try.func59,by kernel_rfl,by kernel_rfl⟩) (Jt e_Z24_ok (Jt e_Z6_ok Jn)) (Jm ih Jo) (by kernel_rfl) ((q_Z78 ..).trans ((c_Z78_bind ..).trans (Jg hy)))⟩
  | inr y=>
   exact ⟨1,_,_,_,hk,rfl,JP px (fx:=⟨Try.func59,by kernel_rfl,by kernel_rfl⟩) (Jt e_Z24_ok (Jt e_Z6_ok Jn)) (Jm ih Jo) (by kernel_rfl) ((q_Z78 ..).trans ((c_Z78_bind ..).trans (Jg hy)))⟩
noncomputable def e_Z78:Jq:=m_Z78 (Z78)
theorem e_Z78_ok:(e_Z78).ok Try.prog (Jk (Jh Try.f59) 10):=by
 intro R ds k r h
 unfold e_Z78 m_Z78 at h
 obtain ⟨_,_,rfl,h⟩:=Jb h
 obtain ⟨_,_,rfl,h⟩:=Ja h
 obtain ⟨_,_,rfl,h⟩:=Ja h
 obtain ⟨rfl,hE⟩:=Je h
 obtain ⟨y,hy,hk⟩:=Jf hE
 obtain ⟨n,hn⟩:=J5 hy
 exact m_Z78_ok n R _ k r ((Jg hn).trans hk)

/-!-/
def c_Z79 {R:Type} (x0 x1:List D) (k:Bool→Option R):Option R:=
 bif decide ((10:Int)<(↑x0.length:Int)) then
 k Bool.false
 else
 bif decide ((24:Int)<(↑x1.length:Int)) then
 k Bool.false
 else
 (Z77 (0:Int) x0 x1).bind (Sum.elim (fun y0=>
 k y0.fst) (fun y1=>
 (Z78 (0:Int) y1.fst y1.snd).bind (Sum.elim (fun y2=>
 k y2) (fun y3=>
 k Bool.true))))
theorem c_Z79_bind {R:Type} (x0 x1:List D) (k:Bool→Option R):c_Z79 x0 x1 k=(c_Z79 x0 x1 some).bind k:=by
 unfold c_Z79
 repeat' first
  | exact JA
  | exact Jz
  | exact Jy
  | apply Jv
  | apply Jw
  | apply JB
  | (apply Jx;intro _)
  | intro _
def Z79 (x0 x1:List D):Option (Bool):=c_Z79 x0 x1 some
def e_Z79:Ent:=⟨59,[.agg [.rd (.struct [.int .i64,.int .i64]),.rd (.struct [.int .i64,.int .i64])]],[(.bool,[.undef])],fun _ ds k=>dL (fun x0 ds=>dL (fun x1 ds=>dE ((Z79 x0 x1).bind (fun y=>k 0 [.B y])) ds) ds) ds⟩
theorem q_Z79 (x0 x1:List D):JX (Jr []) (Js [e_Z77,e_Z78]) A 59 Try.f59 (Sh.mks e_Z79.sh [.L x0,.L x1]).1 (fun v os=>some (v,os))=c_Z79 x0 x1 (fun y=>J0 e_Z79 0 [.B y]):=by kernel_rfl
theorem e_Z79_ok:e_Z79.ok Try.prog A:=by
 intro R ds k r h
 unfold e_Z79 at h
 obtain ⟨_,_,rfl,h⟩:=Ja h
 obtain ⟨_,_,rfl,h⟩:=Ja h
 obtain ⟨rfl,hE⟩:=Je h
 obtain ⟨y,hy,hk⟩:=Jf hE
 exact ⟨0,_,_,_,hk,rfl,J1 px (fx:=⟨Try.func59,by kernel_rfl,by kernel_rfl⟩) Jn (Jm e_Z77_ok (Jm e_Z78_ok Jo)) ((q_Z79 ..).trans ((c_Z79_bind ..).trans (Jg hy)))⟩

/-!-/
def c_Z80 {R:Type} (x0 x1:List D) (k:Bool→Option R):Option R:=
 (Z79 x0 x1).bind (fun y0=>
 bif y0 then
 (Z31 x0 x1).bind (fun y1=>
 k y1)
 else
 k Bool.false)
theorem c_Z80_bind {R:Type} (x0 x1:List D) (k:Bool→Option R):c_Z80 x0 x1 k=(c_Z80 x0 x1 some).bind k:=by
 unfold c_Z80
 repeat' first
  | exact JA
  | exact Jz
  | exact Jy
  | apply Jv
  | apply Jw
  | apply JB
  | (apply Jx;intro _)
  | intro _
def Z80 (x0 x1:List D):Option (Bool):=c_Z80 x0 x1 some
def e_Z80:Ent:=⟨50,[.agg [.rd (.struct [.int .i64,.int .i64]),.rd (.struct [.int .i64,.int .i64])]],[(.bool,[.undef])],fun _ ds k=>dL (fun x0 ds=>dL (fun x1 ds=>dE ((Z80 x0 x1).bind (fun y=>k 0 [.B y])) ds) ds) ds⟩
theorem q_Z80 (x0 x1:List D):JX (Jr [e_Z79,e_Z31]) (Js []) A 50 Try.f50 (Sh.mks e_Z80.sh [.L x0,.L x1]).1 (fun v os=>some (v,os))=c_Z80 x0 x1 (fun y=>J0 e_Z80 0 [.B y]):=by kernel_rfl
theorem e_Z80_ok:e_Z80.ok Try.prog A:=by
 intro R ds k r h
 unfold e_Z80 at h
 obtain ⟨_,_,rfl,h⟩:=Ja h
 obtain ⟨_,_,rfl,h⟩:=Ja h
 obtain ⟨rfl,hE⟩:=Je h
 obtain ⟨y,hy,hk⟩:=Jf hE
 exact ⟨0,_,_,_,hk,rfl,J1 px (fx:=⟨Try.func50,by kernel_rfl,by kernel_rfl⟩) (Jt e_Z79_ok (Jt e_Z31_ok Jn)) Jo ((q_Z80 ..).trans ((c_Z80_bind ..).trans (Jg hy)))⟩

/-!-/
abbrev T_Z81:=Int→Int→List D→List D→Int→Int→List D→Option ((Bool)⊕(Unit))
def c_Z81 {R:Type} (F:T_Z81) (x0 x1:Int) (x2 x3:List D) (x4 x5:Int) (x6:List D) (k:(Bool)⊕(Unit)→Option R):Option R:=
 bif decide (x1<(↑x3.length:Int)) then
 if 0≤x1∧x1<(↑x3.length:Int) then
 bif decide (((x3.getD x1.toNat (D.int 0)).fld (0:Nat)).toInt=x4) then
 bif !decide (((x3.getD x1.toNat (D.int 0)).fld (1:Nat)).toInt=x5) then
 (Z24 x2 x3 (((x3.getD x1.toNat (D.int 0)).fld (1:Nat)).toInt)).bind (fun y0=>
 if 0≤y0∧y0<(↑x6.length:Int) then
 if y0.toNat+1≤x6.length then
 (Z29 ((x6.getD y0.toNat (D.int 0)).toInt) x0).bind (fun y1=>
 bif y1 then
 k (.inl Bool.true)
 else
 (F x0 (IntKind.i64.wrap (x1+1)) x2 x3 x4 x5 x6).bind k)
 else
 none
 else
 none)
 else
 (F x0 (IntKind.i64.wrap (x1+1)) x2 x3 x4 x5 x6).bind k
 else
 (F x0 (IntKind.i64.wrap (x1+1)) x2 x3 x4 x5 x6).bind k
 else
 none
 else
 k (.inr ())
theorem c_Z81_bind {R:Type} (F:T_Z81) (x0 x1:Int) (x2 x3:List D) (x4 x5:Int) (x6:List D) (k:(Bool)⊕(Unit)→Option R):c_Z81 F x0 x1 x2 x3 x4 x5 x6 k=(c_Z81 F x0 x1 x2 x3 x4 x5 x6 some).bind k:=by
 unfold c_Z81
 repeat' first
  | exact JA
  | exact Jz
  | exact Jy
  | apply Jv
  | apply Jw
  | apply JB
  | (apply Jx;intro _)
  | intro _
def n_Z81:Nat→T_Z81
 | 0,_,_,_,_,_,_,_=>none
 | n+1,x0,x1,x2,x3,x4,x5,x6=>c_Z81 (n_Z81 n) x0 x1 x2 x3 x4 x5 x6 some
noncomputable def Z81 (x0 x1:Int) (x2 x3:List D) (x4 x5:Int) (x6:List D):Option ((Bool)⊕(Unit)):=ev (fun n=>n_Z81 n x0 x1 x2 x3 x4 x5 x6)
def m_Z81 (F:T_Z81):Jq:=⟨4,⟨(.undef::.undef::.ptr 1000 [0]::.ptr 1001 [0]::.undef::.full 1002 [] (.int .i64)::.int .i64::.int .i64::uu 42 ([])),[(1000,.obox (.agg [.rd (.struct [.int .i64,.int .i64]),.rd (.struct [.int .i64,.int .i64])])),(1001,.obox (.agg [.int .i64,.int .i64])),(1002,.own (.int .i64))]⟩,[(.ret,⟨(uu 4 (.bool::uu 45 ([]))),[]⟩),(.exit 0,⟨(uu 50 ([])),[]⟩)],fun _ ds k=>dI (fun x0 ds=>dI (fun x1 ds=>dL (fun x2 ds=>dL (fun x3 ds=>dI (fun x4 ds=>dI (fun x5 ds=>dL (fun x6 ds=>dE ((F x0 x1 x2 x3 x4 x5 x6).bind (Sum.elim (fun y=>k 0 [.B y]) (fun y=>k 1 []))) ds) ds) ds) ds) ds) ds) ds) ds⟩
theorem q_Z81 (F:T_Z81) (x0 x1:Int) (x2 x3:List D) (x4 x5:Int) (x6:List D):J2 (Jr [e_Z24,e_Z29]) (Js [m_Z81 F]) A 106 (Jk (Jh Try.f106) 4) ((m_Z81 F).sh.mk' [.I x0,.I x1,.L x2,.L x3,.I x4,.I x5,.L x6]) (fun e σ'=>some (e,σ'))=c_Z81 F x0 x1 x2 x3 x4 x5 x6 (Sum.elim (fun y=>some (.ret,SSt.mk' ⟨(uu 4 (.bool::uu 45 ([]))),[]⟩ [.B y])) (fun y=>some (.exit 0,SSt.mk' ⟨(uu 50 ([])),[]⟩ []))):=by kernel_rfl
theorem m_Z81_ok:∀ n,(m_Z81 (n_Z81 n)).ok Try.prog (Jk (Jh Try.f106) 4):=by
 intro n
 induction n with
 | zero=>
  intro R ds k r h
  unfold m_Z81 at h
  obtain ⟨_,_,rfl,h⟩:=Jb h
  obtain ⟨_,_,rfl,h⟩:=Jb h
  obtain ⟨_,_,rfl,h⟩:=Ja h
  obtain ⟨_,_,rfl,h⟩:=Ja h
  obtain ⟨_,_,rfl,h⟩:=Jb h
  obtain ⟨_,_,rfl,h⟩:=Jb h
  obtain ⟨_,_,rfl,h⟩:=Ja h
  obtain ⟨rfl,hE⟩:=Je h
  obtain ⟨y,hy,hk⟩:=Jf hE
  cases hy
 | succ n ih=>
  intro R ds k r h
  unfold m_Z81 at h
  obtain ⟨_,_,rfl,h⟩:=Jb h
  obtain ⟨_,_,rfl,h⟩:=Jb h
  obtain ⟨_,_,rfl,h⟩:=Ja h
  obtain ⟨_,_,rfl,h⟩:=Ja h
  obtain ⟨_,_,rfl,h⟩:=Jb h
  obtain ⟨_,_,rfl,h⟩:=Jb h
  obtain ⟨_,_,rfl,h⟩:=Ja h
  obtain ⟨rfl,hE⟩:=Je h
  obtain ⟨y,hy,hk⟩:=Jf hE
  cases y with
  | inl y=>
   exact ⟨0,_,_,_,hk,rfl,JP px (fx:=⟨Try.func106,by kernel_rfl,by kernel_rfl⟩) (Jt e_Z24_ok (Jt e_Z29_ok Jn)) (Jm ih Jo) (by kernel_rfl) ((q_Z81 ..).trans ((c_Z81_bind ..).trans (Jg hy)))⟩
  | inr y=>
   exact ⟨1,_,_,_,hk,rfl,JP px (fx:=⟨Try.func106,by kernel_rfl,by kernel_rfl⟩) (Jt e_Z24_ok (Jt e_Z29_ok Jn)) (Jm ih Jo) (by kernel_rfl) ((q_Z81 ..).trans ((c_Z81_bind ..).trans (Jg hy)))⟩
noncomputable def e_Z81:Jq:=m_Z81 (Z81)
theorem e_Z81_ok:(e_Z81).ok Try.prog (Jk (Jh Try.f106) 4):=by
 intro R ds k r h
 unfold e_Z81 m_Z81 at h
 obtain ⟨_,_,rfl,h⟩:=Jb h
 obtain ⟨_,_,rfl,h⟩:=Jb h
 obtain ⟨_,_,rfl,h⟩:=Ja h
 obtain ⟨_,_,rfl,h⟩:=Ja h
 obtain ⟨_,_,rfl,h⟩:=Jb h
 obtain ⟨_,_,rfl,h⟩:=Jb h
 obtain ⟨_,_,rfl,h⟩:=Ja h
 obtain ⟨rfl,hE⟩:=Je h
 obtain ⟨y,hy,hk⟩:=Jf hE
 obtain ⟨n,hn⟩:=J5 hy
 exact m_Z81_ok n R _ k r ((Jg hn).trans hk)

/-!-/
def c_Z82 {R:Type} (x0 x1:List D) (x2 x3:Int) (k:Bool→Option R):Option R:=
 (Z28 x0 x1).bind (fun y0=>
 (Z24 x0 x1 x3).bind (fun y1=>
 (Z81 y1 (0:Int) x0 x1 x2 x3 y0).bind (Sum.elim (fun y2=>
 k y2) (fun y3=>
 k Bool.false))))
theorem c_Z82_bind {R:Type} (x0 x1:List D) (x2 x3:Int) (k:Bool→Option R):c_Z82 x0 x1 x2 x3 k=(c_Z82 x0 x1 x2 x3 some).bind k:=by
 unfold c_Z82
 repeat' first
  | exact JA
  | exact Jz
  | exact Jy
  | apply Jv
  | apply Jw
  | apply JB
  | (apply Jx;intro _)
  | intro _
def Z82 (x0 x1:List D) (x2 x3:Int):Option (Bool):=c_Z82 x0 x1 x2 x3 some
def e_Z82:Ent:=⟨106,[.agg [.rd (.struct [.int .i64,.int .i64]),.rd (.struct [.int .i64,.int .i64])],.agg [.int .i64,.int .i64]],[(.bool,[.undef,.undef])],fun _ ds k=>dL (fun x0 ds=>dL (fun x1 ds=>dI (fun x2 ds=>dI (fun x3 ds=>dE ((Z82 x0 x1 x2 x3).bind (fun y=>k 0 [.B y])) ds) ds) ds) ds) ds⟩
theorem q_Z82 (x0 x1:List D) (x2 x3:Int):JX (Jr [e_Z28,e_Z24]) (Js [e_Z81]) A 106 Try.f106 (Sh.mks e_Z82.sh [.L x0,.L x1,.I x2,.I x3]).1 (fun v os=>some (v,os))=c_Z82 x0 x1 x2 x3 (fun y=>J0 e_Z82 0 [.B y]):=by kernel_rfl
theorem e_Z82_ok:e_Z82.ok Try.prog A:=by
 intro R ds k r h
 unfold e_Z82 at h
 obtain ⟨_,_,rfl,h⟩:=Ja h
 obtain ⟨_,_,rfl,h⟩:=Ja h
 obtain ⟨_,_,rfl,h⟩:=Jb h
 obtain ⟨_,_,rfl,h⟩:=Jb h
 obtain ⟨rfl,hE⟩:=Je h
 obtain ⟨y,hy,hk⟩:=Jf hE
 exact ⟨0,_,_,_,hk,rfl,J1 px (fx:=⟨Try.func106,by kernel_rfl,by kernel_rfl⟩) (Jt e_Z28_ok (Jt e_Z24_ok Jn)) (Jm e_Z81_ok Jo) ((q_Z82 ..).trans ((c_Z82_bind ..).trans (Jg hy)))⟩

/-!-/
abbrev T_Z83:=Int→List D→List D→List D→List D→Option (List D×List D)
def c_Z83 {R:Type} (F:T_Z83) (x0:Int) (x1 x2 x3 x4:List D) (k:List D×List D→Option R):Option R:=
 bif decide (x0<(↑x2.length:Int)) then
 if 0≤x0∧x0<(↑x2.length:Int) then
 (Z82 x1 x2 (((x2.getD x0.toNat (D.int 0)).fld (0:Nat)).toInt) (((x2.getD x0.toNat (D.int 0)).fld (1:Nat)).toInt)).bind (fun y0=>
 bif !y0 then
 if 0≤x0∧x0<(↑x2.length:Int) then
 if x4.length+[D.node [D.int ((x2.getD x0.toNat (D.int 0)).fld (0:Nat)).toInt,D.int ((x2.getD x0.toNat (D.int 0)).fld (1:Nat)).toInt]].length≤(4294967296:Nat) then
 (F (IntKind.i64.wrap (x0+1)) x1 x2 x3 (x4++[D.node [D.int ((x2.getD x0.toNat (D.int 0)).fld (0:Nat)).toInt,D.int ((x2.getD x0.toNat (D.int 0)).fld (1:Nat)).toInt]])).bind k
 else
 none
 else
 none
 else
 (F (IntKind.i64.wrap (x0+1)) x1 x2 x3 x4).bind k)
 else
 none
 else
 k (x3,x4)
theorem c_Z83_bind {R:Type} (F:T_Z83) (x0:Int) (x1 x2 x3 x4:List D) (k:List D×List D→Option R):c_Z83 F x0 x1 x2 x3 x4 k=(c_Z83 F x0 x1 x2 x3 x4 some).bind k:=by
 unfold c_Z83
 repeat' first
  | exact JA
  | exact Jz
  | exact Jy
  | apply Jv
  | apply Jw
  | apply JB
  | (apply Jx;intro _)
  | intro _
def n_Z83:Nat→T_Z83
 | 0,_,_,_,_,_=>none
 | n+1,x0,x1,x2,x3,x4=>c_Z83 (n_Z83 n) x0 x1 x2 x3 x4 some
noncomputable def Z83 (x0:Int) (x1 x2 x3 x4:List D):Option (List D×List D):=ev (fun n=>n_Z83 n x0 x1 x2 x3 x4)
def m_Z83 (F:T_Z83):Jq:=⟨3,⟨(.undef::.ptr 1000 [0]::.ptr 1001 [0]::.ptr 1002 [0]::.int .i64::uu 31 ([])),[(1000,.obox (.agg [.rd (.struct [.int .i64,.int .i64]),.rd (.struct [.int .i64,.int .i64])])),(1001,.obox (.agg [.nilsl,.nilsl])),(1002,.obox (.agg [.full 1003 [] (.struct [.int .i64,.int .i64]),.full 1004 [] (.struct [.int .i64,.int .i64])])),(1003,.own (.struct [.int .i64,.int .i64])),(1004,.own (.struct [.int .i64,.int .i64]))]⟩,[(.exit 0,⟨(.undef::.undef::.ptr 1000 [0]::.ptr 1001 [0]::uu 32 ([])),[(1000,.obox (.agg [.nilsl,.nilsl])),(1001,.obox (.agg [.full 1002 [] (.struct [.int .i64,.int .i64]),.full 1003 [] (.struct [.int .i64,.int .i64])])),(1002,.own (.struct [.int .i64,.int .i64])),(1003,.own (.struct [.int .i64,.int .i64]))]⟩)],fun _ ds k=>dI (fun x0 ds=>dL (fun x1 ds=>dL (fun x2 ds=>dL (fun x3 ds=>dL (fun x4 ds=>dE ((F x0 x1 x2 x3 x4).bind (fun y=>k 0 [.L y.1,.L y.2])) ds) ds) ds) ds) ds) ds⟩
theorem q_Z83 (F:T_Z83) (x0:Int) (x1 x2 x3 x4:List D):J2 (Jr [e_Z82]) (Js [m_Z83 F]) A 51 (Jk (Jh Try.f51) 3) ((m_Z83 F).sh.mk' [.I x0,.L x1,.L x2,.L x3,.L x4]) (fun e σ'=>some (e,σ'))=c_Z83 F x0 x1 x2 x3 x4 (fun y=>some (.exit 0,SSt.mk' ⟨(.undef::.undef::.ptr 1000 [0]::.ptr 1001 [0]::uu 32 ([])),[(1000,.obox (.agg [.nilsl,.nilsl])),(1001,.obox (.agg [.full 1002 [] (.struct [.int .i64,.int .i64]),.full 1003 [] (.struct [.int .i64,.int .i64])])),(1002,.own (.struct [.int .i64,.int .i64])),(1003,.own (.struct [.int .i64,.int .i64]))]⟩ [.L y.1,.L y.2])):=by kernel_rfl
theorem m_Z83_ok:∀ n,(m_Z83 (n_Z83 n)).ok Try.prog (Jk (Jh Try.f51) 3):=by
 intro n
 induction n with
 | zero=>
  intro R ds k r h
  unfold m_Z83 at h
  obtain ⟨_,_,rfl,h⟩:=Jb h
  obtain ⟨_,_,rfl,h⟩:=Ja h
  obtain ⟨_,_,rfl,h⟩:=Ja h
  obtain ⟨_,_,rfl,h⟩:=Ja h
  obtain ⟨_,_,rfl,h⟩:=Ja h
  obtain ⟨rfl,hE⟩:=Je h
  obtain ⟨y,hy,hk⟩:=Jf hE
  cases hy
 | succ n ih=>
  intro R ds k r h
  unfold m_Z83 at h
  obtain ⟨_,_,rfl,h⟩:=Jb h
  obtain ⟨_,_,rfl,h⟩:=Ja h
  obtain ⟨_,_,rfl,h⟩:=Ja h
  obtain ⟨_,_,rfl,h⟩:=Ja h
  obtain ⟨_,_,rfl,h⟩:=Ja h
  obtain ⟨rfl,hE⟩:=Je h
  obtain ⟨y,hy,hk⟩:=Jf hE
  exact ⟨0,_,_,_,hk,rfl,JP px (fx:=⟨Try.func51,by kernel_rfl,by kernel_rfl⟩) (Jt e_Z82_ok Jn) (Jm ih Jo) (by kernel_rfl) ((q_Z83 ..).trans ((c_Z83_bind ..).trans (Jg hy)))⟩
noncomputable def e_Z83:Jq:=m_Z83 (Z83)
theorem e_Z83_ok:(e_Z83).ok Try.prog (Jk (Jh Try.f51) 3):=by
 intro R ds k r h
 unfold e_Z83 m_Z83 at h
 obtain ⟨_,_,rfl,h⟩:=Jb h
 obtain ⟨_,_,rfl,h⟩:=Ja h
 obtain ⟨_,_,rfl,h⟩:=Ja h
 obtain ⟨_,_,rfl,h⟩:=Ja h
 obtain ⟨_,_,rfl,h⟩:=Ja h
 obtain ⟨rfl,hE⟩:=Je h
 obtain ⟨y,hy,hk⟩:=Jf hE
 obtain ⟨n,hn⟩:=J5 hy
 exact m_Z83_ok n R _ k r ((Jg hn).trans hk)

/-!-/
abbrev T_Z84:=Int→List D→List D→List D→Option ((List D×List D)⊕(List D))
def c_Z84 {R:Type} (F:T_Z84) (x0:Int) (x1 x2 x3:List D) (k:(List D×List D)⊕(List D)→Option R):Option R:=
 bif decide (x0<(↑x2.length:Int)) then
 if 0≤x0∧x0<(↑x2.length:Int) then
 (Z82 x1 x2 (((x2.getD x0.toNat (D.int 0)).fld (0:Nat)).toInt) (((x2.getD x0.toNat (D.int 0)).fld (1:Nat)).toInt)).bind (fun y0=>
 bif !y0 then
 if 0≤x0∧x0<(↑x2.length:Int) then
 if (0:Nat)+[D.node [D.int ((x2.getD x0.toNat (D.int 0)).fld (0:Nat)).toInt,D.int ((x2.getD x0.toNat (D.int 0)).fld (1:Nat)).toInt]].length≤(4294967296:Nat) then
 (Z83 (IntKind.i64.wrap (x0+1)) x1 x2 x3 ([D.node [D.int ((x2.getD x0.toNat (D.int 0)).fld (0:Nat)).toInt,D.int ((x2.getD x0.toNat (D.int 0)).fld (1:Nat)).toInt]])).bind (fun y1=>
 k (.inl (y1.fst,y1.snd)))
 else
 none
 else
 none
 else
 (F (IntKind.i64.wrap (x0+1)) x1 x2 x3).bind k)
 else
 none
 else
 k (.inr x3)
theorem c_Z84_bind {R:Type} (F:T_Z84) (x0:Int) (x1 x2 x3:List D) (k:(List D×List D)⊕(List D)→Option R):c_Z84 F x0 x1 x2 x3 k=(c_Z84 F x0 x1 x2 x3 some).bind k:=by
 unfold c_Z84
 repeat' first
  | exact JA
  | exact Jz
  | exact Jy
  | apply Jv
  | apply Jw
  | apply JB
  | (apply Jx;intro _)
  | intro _
def n_Z84:Nat→T_Z84
 | 0,_,_,_,_=>none
 | n+1,x0,x1,x2,x3=>c_Z84 (n_Z84 n) x0 x1 x2 x3 some
noncomputable def Z84 (x0:Int) (x1 x2 x3:List D):Option ((List D×List D)⊕(List D)):=ev (fun n=>n_Z84 n x0 x1 x2 x3)
def m_Z84 (F:T_Z84):Jq:=⟨3,⟨(.undef::.ptr 1000 [0]::.ptr 1001 [0]::.ptr 1002 [0]::.int .i64::uu 31 ([])),[(1000,.obox (.agg [.rd (.struct [.int .i64,.int .i64]),.rd (.struct [.int .i64,.int .i64])])),(1001,.obox (.agg [.nilsl,.nilsl])),(1002,.obox (.agg [.full 1003 [] (.struct [.int .i64,.int .i64]),.nilsl])),(1003,.own (.struct [.int .i64,.int .i64]))]⟩,[(.exit 0,⟨(.undef::.undef::.ptr 1000 [0]::.ptr 1001 [0]::uu 32 ([])),[(1000,.obox (.agg [.nilsl,.nilsl])),(1001,.obox (.agg [.full 1002 [] (.struct [.int .i64,.int .i64]),.full 1003 [] (.struct [.int .i64,.int .i64])])),(1002,.own (.struct [.int .i64,.int .i64])),(1003,.own (.struct [.int .i64,.int .i64]))]⟩),(.exit 0,⟨(.undef::.undef::.ptr 1000 [0]::.ptr 1001 [0]::uu 32 ([])),[(1000,.obox (.agg [.nilsl,.nilsl])),(1001,.obox (.agg [.full 1002 [] (.struct [.int .i64,.int .i64]),.nilsl])),(1002,.own (.struct [.int .i64,.int .i64]))]⟩)],fun _ ds k=>dI (fun x0 ds=>dL (fun x1 ds=>dL (fun x2 ds=>dL (fun x3 ds=>dE ((F x0 x1 x2 x3).bind (Sum.elim (fun y=>k 0 [.L y.1,.L y.2]) (fun y=>k 1 [.L y]))) ds) ds) ds) ds) ds⟩
theorem q_Z84 (F:T_Z84) (x0:Int) (x1 x2 x3:List D):J2 (Jr [e_Z82]) (Js [m_Z84 F,e_Z83]) A 51 (Jk (Jh Try.f51) 3) ((m_Z84 F).sh.mk' [.I x0,.L x1,.L x2,.L x3]) (fun e σ'=>some (e,σ'))=c_Z84 F x0 x1 x2 x3 (Sum.elim (fun y=>some (.exit 0,SSt.mk' ⟨(.undef::.undef::.ptr 1000 [0]::.ptr 1001 [0]::uu 32 ([])),[(1000,.obox (.agg [.nilsl,.nilsl])),(1001,.obox (.agg [.full 1002 [] (.struct [.int .i64,.int .i64]),.full 1003 [] (.struct [.int .i64,.int .i64])])),(1002,.own (.struct [.int .i64,.int .i64])),(1003,.own (.struct [.int .i64,.int .i64]))]⟩ [.L y.1,.L y.2])) (fun y=>some (.exit 0,SSt.mk' ⟨(.undef::.undef::.ptr 1000 [0]::.ptr 1001 [0]::uu 32 ([])),[(1000,.obox (.agg [.nilsl,.nilsl])),(1001,.obox (.agg [.full 1002 [] (.struct [.int .i64,.int .i64]),.nilsl])),(1002,.own (.struct [.int .i64,.int .i64]))]⟩ [.L y]))):=by kernel_rfl
theorem m_Z84_ok:∀ n,(m_Z84 (n_Z84 n)).ok Try.prog (Jk (Jh Try.f51) 3):=by
 intro n
 induction n with
 | zero=>
  intro R ds k r h
  unfold m_Z84 at h
  obtain ⟨_,_,rfl,h⟩:=Jb h
  obtain ⟨_,_,rfl,h⟩:=Ja h
  obtain ⟨_,_,rfl,h⟩:=Ja h
  obtain ⟨_,_,rfl,h⟩:=Ja h
  obtain ⟨rfl,hE⟩:=Je h
  obtain ⟨y,hy,hk⟩:=Jf hE
  cases hy
 | succ n ih=>
  intro R ds k r h
  unfold m_Z84 at h
  obtain ⟨_,_,rfl,h⟩:=Jb h
  obtain ⟨_,_,rfl,h⟩:=Ja h
  obtain ⟨_,_,rfl,h⟩:=Ja h
  obtain ⟨_,_,rfl,h⟩:=Ja h
  obtain ⟨rfl,hE⟩:=Je h
  obtain ⟨y,hy,hk⟩:=Jf hE
  cases y with
  | inl y=>
   exact ⟨0,_,_,_,hk,rfl,JP px (fx:=⟨Try.func51,by kernel_rfl,by kernel_rfl⟩) (Jt e_Z82_ok Jn) (Jm ih (Jm e_Z83_ok Jo)) (by kernel_rfl) ((q_Z84 ..).trans ((c_Z84_bind ..).trans (Jg hy)))⟩
  | inr y=>
   exact ⟨1,_,_,_,hk,rfl,JP px (fx:=⟨Try.func51,by kernel_rfl,by kernel_rfl⟩) (Jt e_Z82_ok Jn) (Jm ih (Jm e_Z83_ok Jo)) (by kernel_rfl) ((q_Z84 ..).trans ((c_Z84_bind ..).trans (Jg hy)))⟩
noncomputable def e_Z84:Jq:=m_Z84 (Z84)
theorem e_Z84_ok:(e_Z84).ok Try.prog (Jk (Jh Try.f51) 3):=by
 intro R ds k r h
 unfold e_Z84 m_Z84 at h
 obtain ⟨_,_,rfl,h⟩:=Jb h
 obtain ⟨_,_,rfl,h⟩:=Ja h
 obtain ⟨_,_,rfl,h⟩:=Ja h
 obtain ⟨_,_,rfl,h⟩:=Ja h
 obtain ⟨rfl,hE⟩:=Je h
 obtain ⟨y,hy,hk⟩:=Jf hE
 obtain ⟨n,hn⟩:=J5 hy
 exact m_Z84_ok n R _ k r ((Jg hn).trans hk)

/-!-/
def c_Z85 {R:Type} (x0 x1:List D) (k:List D×List D→Option R):Option R:=
 if ([]:List D).length+x0.length≤(4294967296:Nat) then
 (Z84 (0:Int) x0 x1 ([]++x0)).bind (Sum.elim (fun y0=>
 k (y0.fst,y0.snd)) (fun y1=>
 k (y1,[])))
 else
 none
theorem c_Z85_bind {R:Type} (x0 x1:List D) (k:List D×List D→Option R):c_Z85 x0 x1 k=(c_Z85 x0 x1 some).bind k:=by
 unfold c_Z85
 repeat' first
  | exact JA
  | exact Jz
  | exact Jy
  | apply Jv
  | apply Jw
  | apply JB
  | (apply Jx;intro _)
  | intro _
def Z85 (x0 x1:List D):Option (List D×List D):=c_Z85 x0 x1 some
def e_Z85:Ent:=⟨51,[.agg [.rd (.struct [.int .i64,.int .i64]),.rd (.struct [.int .i64,.int .i64])]],[(.agg [.own (.struct [.int .i64,.int .i64]),.own (.struct [.int .i64,.int .i64])],[.undef])],fun _ ds k=>dL (fun x0 ds=>dL (fun x1 ds=>dE ((Z85 x0 x1).bind (fun y=>k 0 [.L y.1,.L y.2])) ds) ds) ds⟩
theorem q_Z85 (x0 x1:List D):JX (Jr []) (Js [e_Z84]) A 51 Try.f51 (Sh.mks e_Z85.sh [.L x0,.L x1]).1 (fun v os=>some (v,os))=c_Z85 x0 x1 (fun y=>J0 e_Z85 0 [.L y.1,.L y.2]):=by kernel_rfl
theorem e_Z85_ok:e_Z85.ok Try.prog A:=by
 intro R ds k r h
 unfold e_Z85 at h
 obtain ⟨_,_,rfl,h⟩:=Ja h
 obtain ⟨_,_,rfl,h⟩:=Ja h
 obtain ⟨rfl,hE⟩:=Je h
 obtain ⟨y,hy,hk⟩:=Jf hE
 exact ⟨0,_,_,_,hk,rfl,J1 px (fx:=⟨Try.func51,by kernel_rfl,by kernel_rfl⟩) Jn (Jm e_Z84_ok Jo) ((q_Z85 ..).trans ((c_Z85_bind ..).trans (Jg hy)))⟩

/-!-/
def c_Z86 {R:Type} (x0 x1:List D) (k:List D×List D×Bool→Option R):Option R:=
 (Z80 x0 x1).bind (fun y0=>
 bif !y0 then
 k ([],[],Bool.false)
 else
 (Z85 x0 x1).bind (fun y1=>
 k (y1.fst,y1.snd,Bool.true)))
theorem c_Z86_bind {R:Type} (x0 x1:List D) (k:List D×List D×Bool→Option R):c_Z86 x0 x1 k=(c_Z86 x0 x1 some).bind k:=by
 unfold c_Z86
 repeat' first
  | exact JA
  | exact Jz
  | exact Jy
  | apply Jv
  | apply Jw
  | apply JB
  | (apply Jx;intro _)
  | intro _
def Z86 (x0 x1:List D):Option (List D×List D×Bool):=c_Z86 x0 x1 some
def e_Z86:Ent:=⟨11,[.agg [.rd (.struct [.int .i64,.int .i64]),.rd (.struct [.int .i64,.int .i64])]],[(.tup [.agg [.own (.struct [.int .i64,.int .i64]),.own (.struct [.int .i64,.int .i64])],.bool],[.undef])],fun _ ds k=>dL (fun x0 ds=>dL (fun x1 ds=>dE ((Z86 x0 x1).bind (fun y=>k 0 [.L y.1,.L y.2.1,.B y.2.2])) ds) ds) ds⟩
theorem q_Z86 (x0 x1:List D):JX (Jr [e_Z80,e_Z85]) (Js []) A 11 Try.f11 (Sh.mks e_Z86.sh [.L x0,.L x1]).1 (fun v os=>some (v,os))=c_Z86 x0 x1 (fun y=>J0 e_Z86 0 [.L y.1,.L y.2.1,.B y.2.2]):=by kernel_rfl
theorem e_Z86_ok:e_Z86.ok Try.prog A:=by
 intro R ds k r h
 unfold e_Z86 at h
 obtain ⟨_,_,rfl,h⟩:=Ja h
 obtain ⟨_,_,rfl,h⟩:=Ja h
 obtain ⟨rfl,hE⟩:=Je h
 obtain ⟨y,hy,hk⟩:=Jf hE
 exact ⟨0,_,_,_,hk,rfl,J1 px (fx:=⟨Try.func11,by kernel_rfl,by kernel_rfl⟩) (Jt e_Z80_ok (Jt e_Z85_ok Jn)) Jo ((q_Z86 ..).trans ((c_Z86_bind ..).trans (Jg hy)))⟩

/-!-/
abbrev T_Z87:=Int→Int→Int→Nat→Int→Int→List D→List D→List D→List D→List D→Option (Int×Int×List D×List D×List D×List D×List D)
def c_Z87 {R:Type} (F:T_Z87) (x0 x1 x2:Int) (x3:Nat) (x4 x5:Int) (x6 x7 x8 x9 x10:List D) (k:Int×Int×List D×List D×List D×List D×List D→Option R):Option R:=
 bif decide (x5<x4) then
 if x3+(1:Nat)≤x8.length then
 if 0≤x5∧x5<(↑(x8.getD x3 (D.int 0)).items.length:Int) then
 if x3+(1:Nat)≤x8.length then
 if x5.toNat+1≤(x8.getD x3 (D.int 0)).items.length then
 bif ((x8.getD x3 (D.int 0)).items.getD x5.toNat (D.int 0)).toBool then
 if 0≤x0∧x0<(↑x6.length:Int) then
 if x0.toNat+1≤x6.length then
 if 0≤x5∧x5<(↑x6.length:Int) then
 if x5.toNat+1≤x6.length then
 if x10.length+[D.node [D.int (x6.getD x0.toNat (D.int 0)).toInt,D.int (x6.getD x5.toNat (D.int 0)).toInt]].length≤(4294967296:Nat) then
 (F x0 x1 x2 x3 x4 (IntKind.i64.wrap (x5+1)) x6 x7 x8 x9 (x10++[D.node [D.int (x6.getD x0.toNat (D.int 0)).toInt,D.int (x6.getD x5.toNat (D.int 0)).toInt]])).bind k
 else
 none
 else
 none
 else
 none
 else
 none
 else
 none
 else
 (F x0 x1 x2 x3 x4 (IntKind.i64.wrap (x5+1)) x6 x7 x8 x9 x10).bind k
 else
 none
 else
 none
 else
 none
 else
 none
 else
 k (x1,x2,x6,x7,x8,x9,x10)
theorem c_Z87_bind {R:Type} (F:T_Z87) (x0 x1 x2:Int) (x3:Nat) (x4 x5:Int) (x6 x7 x8 x9 x10:List D) (k:Int×Int×List D×List D×List D×List D×List D→Option R):c_Z87 F x0 x1 x2 x3 x4 x5 x6 x7 x8 x9 x10 k=(c_Z87 F x0 x1 x2 x3 x4 x5 x6 x7 x8 x9 x10 some).bind k:=by
 unfold c_Z87
 repeat' first
  | exact JA
  | exact Jz
  | exact Jy
  | apply Jv
  | apply Jw
  | apply JB
  | (apply Jx;intro _)
  | intro _
def n_Z87:Nat→T_Z87
 | 0,_,_,_,_,_,_,_,_,_,_,_=>none
 | n+1,x0,x1,x2,x3,x4,x5,x6,x7,x8,x9,x10=>c_Z87 (n_Z87 n) x0 x1 x2 x3 x4 x5 x6 x7 x8 x9 x10 some
noncomputable def Z87 (x0 x1 x2:Int) (x3:Nat) (x4 x5:Int) (x6 x7 x8 x9 x10:List D):Option (Int×Int×List D×List D×List D×List D×List D):=ev (fun n=>n_Z87 n x0 x1 x2 x3 x4 x5 x6 x7 x8 x9 x10)
def m_Z87 (F:T_Z87):Jq:=⟨9,⟨(.undef::.undef::.ptr 1000 [0]::.undef::.ptr 1001 [0]::.undef::.ptr 1002 [0]::.int .i64::uu 18 (.full 1001 [0,2] (.slice (.bool))::.int .i64::.int .i64::uu 4 (.full 1001 [0,2,1000000] (.bool)::.int .i64::.int .i64::uu 31 ([])))),[(1000,.obox (.agg [.nilsl,.nilsl])),(1001,.obox (.agg [.own (.int .i64),.own (.slice (.bool)),.own (.slice (.bool))])),(1002,.obox (.agg [.full 1003 [] (.struct [.int .i64,.int .i64]),.full 1004 [] (.struct [.int .i64,.int .i64])])),(1003,.own (.struct [.int .i64,.int .i64])),(1004,.own (.struct [.int .i64,.int .i64]))]⟩,[(.exit 2,⟨(.undef::.undef::.ptr 1000 [0]::.undef::.ptr 1001 [0]::.undef::.ptr 1002 [0]::uu 19 (.full 1001 [0,2] (.slice (.bool))::.int .i64::.int .i64::uu 38 ([]))),[(1000,.obox (.agg [.nilsl,.nilsl])),(1001,.obox (.agg [.own (.int .i64),.own (.slice (.bool)),.own (.slice (.bool))])),(1002,.obox (.agg [.full 1003 [] (.struct [.int .i64,.int .i64]),.full 1004 [] (.struct [.int .i64,.int .i64])])),(1003,.own (.struct [.int .i64,.int .i64])),(1004,.own (.struct [.int .i64,.int .i64]))]⟩)],fun _ ds k=>dI (fun x0 ds=>dI (fun x1 ds=>dI (fun x2 ds=>dN (fun x3 ds=>dI (fun x4 ds=>dI (fun x5 ds=>dL (fun x6 ds=>dL (fun x7 ds=>dL (fun x8 ds=>dL (fun x9 ds=>dL (fun x10 ds=>dE ((F x0 x1 x2 x3 x4 x5 x6 x7 x8 x9 x10).bind (fun y=>k 0 [.I y.1,.I y.2.1,.L y.2.2.1,.L y.2.2.2.1,.L y.2.2.2.2.1,.L y.2.2.2.2.2.1,.L y.2.2.2.2.2.2])) ds) ds) ds) ds) ds) ds) ds) ds) ds) ds) ds) ds⟩
theorem q_Z87 (F:T_Z87) (x0 x1 x2:Int) (x3:Nat) (x4 x5:Int) (x6 x7 x8 x9 x10:List D):J2 (Jr []) (Js [m_Z87 F]) A 12 (Jk (Jh Try.f12) 9) ((m_Z87 F).sh.mk' [.I x0,.I x1,.I x2,.N x3,.I x4,.I x5,.L x6,.L x7,.L x8,.L x9,.L x10]) (fun e σ'=>some (e,σ'))=c_Z87 F x0 x1 x2 x3 x4 x5 x6 x7 x8 x9 x10 (fun y=>some (.exit 2,SSt.mk' ⟨(.undef::.undef::.ptr 1000 [0]::.undef::.ptr 1001 [0]::.undef::.ptr 1002 [0]::uu 19 (.full 1001 [0,2] (.slice (.bool))::.int .i64::.int .i64::uu 38 ([]))),[(1000,.obox (.agg [.nilsl,.nilsl])),(1001,.obox (.agg [.own (.int .i64),.own (.slice (.bool)),.own (.slice (.bool))])),(1002,.obox (.agg [.full 1003 [] (.struct [.int .i64,.int .i64]),.full 1004 [] (.struct [.int .i64,.int .i64])])),(1003,.own (.struct [.int .i64,.int .i64])),(1004,.own (.struct [.int .i64,.int .i64]))]⟩ [.I y.1,.I y.2.1,.L y.2.2.1,.L y.2.2.2.1,.L y.2.2.2.2.1,.L y.2.2.2.2.2.1,.L y.2.2.2.2.2.2])):=by kernel_rfl
theorem m_Z87_ok:∀ n,(m_Z87 (n_Z87 n)).ok Try.prog (Jk (Jh Try.f12) 9):=by
 intro n
 induction n with
 | zero=>
  intro R ds k r h
  unfold m_Z87 at h
  obtain ⟨_,_,rfl,h⟩:=Jb h
  obtain ⟨_,_,rfl,h⟩:=Jb h
  obtain ⟨_,_,rfl,h⟩:=Jb h
  obtain ⟨_,_,rfl,h⟩:=VS h
  obtain ⟨_,_,rfl,h⟩:=Jb h
  obtain ⟨_,_,rfl,h⟩:=Jb h
  obtain ⟨_,_,rfl,h⟩:=Ja h
  obtain ⟨_,_,rfl,h⟩:=Ja h
  obtain ⟨_,_,rfl,h⟩:=Ja h
  obtain ⟨_,_,rfl,h⟩:=Ja h
  obtain ⟨_,_,rfl,h⟩:=Ja h
  obtain ⟨rfl,hE⟩:=Je h
  obtain ⟨y,hy,hk⟩:=Jf hE
  cases hy
 | succ n ih=>
  intro R ds k r h
  unfold m_Z87 at h
  obtain ⟨_,_,rfl,h⟩:=Jb h
  obtain ⟨_,_,rfl,h⟩:=Jb h
  obtain ⟨_,_,rfl,h⟩:=Jb h
  obtain ⟨_,_,rfl,h⟩:=VS h
  obtain ⟨_,_,rfl,h⟩:=Jb h
  obtain ⟨_,_,rfl,h⟩:=Jb h
  obtain ⟨_,_,rfl,h⟩:=Ja h
  obtain ⟨_,_,rfl,h⟩:=Ja h
  obtain ⟨_,_,rfl,h⟩:=Ja h
  obtain ⟨_,_,rfl,h⟩:=Ja h
  obtain ⟨_,_,rfl,h⟩:=Ja h
  obtain ⟨rfl,hE⟩:=Je h
  obtain ⟨y,hy,hk⟩:=Jf hE
  exact ⟨0,_,_,_,hk,rfl,JP px (fx:=⟨Try.func12,by kernel_rfl,by kernel_rfl⟩) Jn (Jm ih Jo) (by kernel_rfl) ((q_Z87 ..).trans ((c_Z87_bind ..).trans (Jg hy)))⟩
noncomputable def e_Z87:Jq:=m_Z87 (Z87)
theorem e_Z87_ok:(e_Z87).ok Try.prog (Jk (Jh Try.f12) 9):=by
 intro R ds k r h
 unfold e_Z87 m_Z87 at h
 obtain ⟨_,_,rfl,h⟩:=Jb h
 obtain ⟨_,_,rfl,h⟩:=Jb h
 obtain ⟨_,_,rfl,h⟩:=Jb h
 obtain ⟨_,_,rfl,h⟩:=VS h
 obtain ⟨_,_,rfl,h⟩:=Jb h
 obtain ⟨_,_,rfl,h⟩:=Jb h
 obtain ⟨_,_,rfl,h⟩:=Ja h
 obtain ⟨_,_,rfl,h⟩:=Ja h
 obtain ⟨_,_,rfl,h⟩:=Ja h
 obtain ⟨_,_,rfl,h⟩:=Ja h
 obtain ⟨_,_,rfl,h⟩:=Ja h
 obtain ⟨rfl,hE⟩:=Je h
 obtain ⟨y,hy,hk⟩:=Jf hE
 obtain ⟨n,hn⟩:=J5 hy
 exact m_Z87_ok n R _ k r ((Jg hn).trans hk)

/-!-/
abbrev T_Z88:=Int→Int→Int→Nat→Int→Int→List D→List D→List D→List D→Option ((Int×Int×List D×List D×List D×List D×List D)⊕(Int×Int×List D×List D×List D×List D))
def c_Z88 {R:Type} (F:T_Z88) (x0 x1 x2:Int) (x3:Nat) (x4 x5:Int) (x6 x7 x8 x9:List D) (k:(Int×Int×List D×List D×List D×List D×List D)⊕(Int×Int×List D×List D×List D×List D)→Option R):Option R:=
 bif decide (x5<x4) then
 if x3+(1:Nat)≤x8.length then
 if 0≤x5∧x5<(↑(x8.getD x3 (D.int 0)).items.length:Int) then
 if x3+(1:Nat)≤x8.length then
 if x5.toNat+1≤(x8.getD x3 (D.int 0)).items.length then
 bif ((x8.getD x3 (D.int 0)).items.getD x5.toNat (D.int 0)).toBool then
 if 0≤x0∧x0<(↑x6.length:Int) then
 if x0.toNat+1≤x6.length then
 if 0≤x5∧x5<(↑x6.length:Int) then
 if x5.toNat+1≤x6.length then
 if (0:Nat)+[D.node [D.int (x6.getD x0.toNat (D.int 0)).toInt,D.int (x6.getD x5.toNat (D.int 0)).toInt]].length≤(4294967296:Nat) then
 (Z87 x0 x1 x2 x3 x4 (IntKind.i64.wrap (x5+1)) x6 x7 x8 x9 ([D.node [D.int (x6.getD x0.toNat (D.int 0)).toInt,D.int (x6.getD x5.toNat (D.int 0)).toInt]])).bind (fun y0=>
 k (.inl (y0.fst,y0.snd.fst,y0.snd.snd.fst,y0.snd.snd.snd.fst,y0.snd.snd.snd.snd.fst,y0.snd.snd.snd.snd.snd.fst,y0.snd.snd.snd.snd.snd.snd)))
 else
 none
 else
 none
 else
 none
 else
 none
 else
 none
 else
 (F x0 x1 x2 x3 x4 (IntKind.i64.wrap (x5+1)) x6 x7 x8 x9).bind k
 else
 none
 else
 none
 else
 none
 else
 none
 else
 k (.inr (x1,x2,x6,x7,x8,x9))
theorem c_Z88_bind {R:Type} (F:T_Z88) (x0 x1 x2:Int) (x3:Nat) (x4 x5:Int) (x6 x7 x8 x9:List D) (k:(Int×Int×List D×List D×List D×List D×List D)⊕(Int×Int×List D×List D×List D×List D)→Option R):c_Z88 F x0 x1 x2 x3 x4 x5 x6 x7 x8 x9 k=(c_Z88 F x0 x1 x2 x3 x4 x5 x6 x7 x8 x9 some).bind k:=by
 unfold c_Z88
 repeat' first
  | exact JA
  | exact Jz
  | exact Jy
  | apply Jv
  | apply Jw
  | apply JB
  | (apply Jx;intro _)
  | intro _
def n_Z88:Nat→T_Z88
 | 0,_,_,_,_,_,_,_,_,_,_=>none
 | n+1,x0,x1,x2,x3,x4,x5,x6,x7,x8,x9=>c_Z88 (n_Z88 n) x0 x1 x2 x3 x4 x5 x6 x7 x8 x9 some
noncomputable def Z88 (x0 x1 x2:Int) (x3:Nat) (x4 x5:Int) (x6 x7 x8 x9:List D):Option ((Int×Int×List D×List D×List D×List D×List D)⊕(Int×Int×List D×List D×List D×List D)):=ev (fun n=>n_Z88 n x0 x1 x2 x3 x4 x5 x6 x7 x8 x9)
def m_Z88 (F:T_Z88):Jq:=⟨9,⟨(.undef::.undef::.ptr 1000 [0]::.undef::.ptr 1001 [0]::.undef::.ptr 1002 [0]::.int .i64::uu 18 (.full 1001 [0,2] (.slice (.bool))::.int .i64::.int .i64::uu 4 (.full 1001 [0,2,1000000] (.bool)::.int .i64::.int .i64::uu 31 ([])))),[(1000,.obox (.agg [.nilsl,.nilsl])),(1001,.obox (.agg [.own (.int .i64),.own (.slice (.bool)),.own (.slice (.bool))])),(1002,.obox (.agg [.full 1003 [] (.struct [.int .i64,.int .i64]),.nilsl])),(1003,.own (.struct [.int .i64,.int .i64]))]⟩,[(.exit 2,⟨(.undef::.undef::.ptr 1000 [0]::.undef::.ptr 1001 [0]::.undef::.ptr 1002 [0]::uu 19 (.full 1001 [0,2] (.slice (.bool))::.int .i64::.int .i64::uu 38 ([]))),[(1000,.obox (.agg [.nilsl,.nilsl])),(1001,.obox (.agg [.own (.int .i64),.own (.slice (.bool)),.own (.slice (.bool))])),(1002,.obox (.agg [.full 1003 [] (.struct [.int .i64,.int .i64]),.full 1004 [] (.struct [.int .i64,.int .i64])])),(1003,.own (.struct [.int .i64,.int .i64])),(1004,.own (.struct [.int .i64,.int .i64]))]⟩),(.exit 2,⟨(.undef::.undef::.ptr 1000 [0]::.undef::.ptr 1001 [0]::.undef::.ptr 1002 [0]::uu 19 (.full 1001 [0,2] (.slice (.bool))::.int .i64::.int .i64::uu 38 ([]))),[(1000,.obox (.agg [.nilsl,.nilsl])),(1001,.obox (.agg [.own (.int .i64),.own (.slice (.bool)),.own (.slice (.bool))])),(1002,.obox (.agg [.full 1003 [] (.struct [.int .i64,.int .i64]),.nilsl])),(1003,.own (.struct [.int .i64,.int .i64]))]⟩)],fun _ ds k=>dI (fun x0 ds=>dI (fun x1 ds=>dI (fun x2 ds=>dN (fun x3 ds=>dI (fun x4 ds=>dI (fun x5 ds=>dL (fun x6 ds=>dL (fun x7 ds=>dL (fun x8 ds=>dL (fun x9 ds=>dE ((F x0 x1 x2 x3 x4 x5 x6 x7 x8 x9).bind (Sum.elim (fun y=>k 0 [.I y.1,.I y.2.1,.L y.2.2.1,.L y.2.2.2.1,.L y.2.2.2.2.1,.L y.2.2.2.2.2.1,.L y.2.2.2.2.2.2]) (fun y=>k 1 [.I y.1,.I y.2.1,.L y.2.2.1,.L y.2.2.2.1,.L y.2.2.2.2.1,.L y.2.2.2.2.2]))) ds) ds) ds) ds) ds) ds) ds) ds) ds) ds) ds⟩
theorem q_Z88 (F:T_Z88) (x0 x1 x2:Int) (x3:Nat) (x4 x5:Int) (x6 x7 x8 x9:List D):J2 (Jr []) (Js [m_Z88 F,e_Z87]) A 12 (Jk (Jh Try.f12) 9) ((m_Z88 F).sh.mk' [.I x0,.I x1,.I x2,.N x3,.I x4,.I x5,.L x6,.L x7,.L x8,.L x9]) (fun e σ'=>some (e,σ'))=c_Z88 F x0 x1 x2 x3 x4 x5 x6 x7 x8 x9 (Sum.elim (fun y=>some (.exit 2,SSt.mk' ⟨(.undef::.undef::.ptr 1000 [0]::.undef::.ptr 1001 [0]::.undef::.ptr 1002 [0]::uu 19 (.full 1001 [0,2] (.slice (.bool))::.int .i64::.int .i64::uu 38 ([]))),[(1000,.obox (.agg [.nilsl,.nilsl])),(1001,.obox (.agg [.own (.int .i64),.own (.slice (.bool)),.own (.slice (.bool))])),(1002,.obox (.agg [.full 1003 [] (.struct [.int .i64,.int .i64]),.full 1004 [] (.struct [.int .i64,.int .i64])])),(1003,.own (.struct [.int .i64,.int .i64])),(1004,.own (.struct [.int .i64,.int .i64]))]⟩ [.I y.1,.I y.2.1,.L y.2.2.1,.L y.2.2.2.1,.L y.2.2.2.2.1,.L y.2.2.2.2.2.1,.L y.2.2.2.2.2.2])) (fun y=>some (.exit 2,SSt.mk' ⟨(.undef::.undef::.ptr 1000 [0]::.undef::.ptr 1001 [0]::.undef::.ptr 1002 [0]::uu 19 (.full 1001 [0,2] (.slice (.bool))::.int .i64::.int .i64::uu 38 ([]))),[(1000,.obox (.agg [.nilsl,.nilsl])),(1001,.obox (.agg [.own (.int .i64),.own (.slice (.bool)),.own (.slice (.bool))])),(1002,.obox (.agg [.full 1003 [] (.struct [.int .i64,.int .i64]),.nilsl])),(1003,.own (.struct [.int .i64,.int .i64]))]⟩ [.I y.1,.I y.2.1,.L y.2.2.1,.L y.2.2.2.1,.L y.2.2.2.2.1,.L y.2.2.2.2.2]))):=by kernel_rfl
theorem m_Z88_ok:∀ n,(m_Z88 (n_Z88 n)).ok Try.prog (Jk (Jh Try.f12) 9):=by
 intro n
 induction n with
 | zero=>
  intro R ds k r h
  unfold m_Z88 at h
  obtain ⟨_,_,rfl,h⟩:=Jb h
  obtain ⟨_,_,rfl,h⟩:=Jb h
  obtain ⟨_,_,rfl,h⟩:=Jb h
  obtain ⟨_,_,rfl,h⟩:=VS h
  obtain ⟨_,_,rfl,h⟩:=Jb h
  obtain ⟨_,_,rfl,h⟩:=Jb h
  obtain ⟨_,_,rfl,h⟩:=Ja h
  obtain ⟨_,_,rfl,h⟩:=Ja h
  obtain ⟨_,_,rfl,h⟩:=Ja h
  obtain ⟨_,_,rfl,h⟩:=Ja h
  obtain ⟨rfl,hE⟩:=Je h
  obtain ⟨y,hy,hk⟩:=Jf hE
  cases hy
 | succ n ih=>
  intro R ds k r h
  unfold m_Z88 at h
  obtain ⟨_,_,rfl,h⟩:=Jb h
  obtain ⟨_,_,rfl,h⟩:=Jb h
  obtain ⟨_,_,rfl,h⟩:=Jb h
  obtain ⟨_,_,rfl,h⟩:=VS h
  obtain ⟨_,_,rfl,h⟩:=Jb h
  obtain ⟨_,_,rfl,h⟩:=Jb h
  obtain ⟨_,_,rfl,h⟩:=Ja h
  obtain ⟨_,_,rfl,h⟩:=Ja h
  obtain ⟨_,_,rfl,h⟩:=Ja h
  obtain ⟨_,_,rfl,h⟩:=Ja h
  obtain ⟨rfl,hE⟩:=Je h
  obtain ⟨y,hy,hk⟩:=Jf hE
  cases y with
  | inl y=>
   exact ⟨0,_,_,_,hk,rfl,JP px (fx:=⟨Try.func12,by kernel_rfl,by kernel_rfl⟩) Jn (Jm ih (Jm e_Z87_ok Jo)) (by kernel_rfl) ((q_Z88 ..).trans ((c_Z88_bind ..).trans (Jg hy)))⟩
  | inr y=>
   exact ⟨1,_,_,_,hk,rfl,JP px (fx:=⟨Try.func12,by kernel_rfl,by kernel_rfl⟩) Jn (Jm ih (Jm e_Z87_ok Jo)) (by kernel_rfl) ((q_Z88 ..).trans ((c_Z88_bind ..).trans (Jg hy)))⟩
noncomputable def e_Z88:Jq:=m_Z88 (Z88)
theorem e_Z88_ok:(e_Z88).ok Try.prog (Jk (Jh Try.f12) 9):=by
 intro R ds k r h
 unfold e_Z88 m_Z88 at h
 obtain ⟨_,_,rfl,h⟩:=Jb h
 obtain ⟨_,_,rfl,h⟩:=Jb h
 obtain ⟨_,_,rfl,h⟩:=Jb h
 obtain ⟨_,_,rfl,h⟩:=VS h
 obtain ⟨_,_,rfl,h⟩:=Jb h
 obtain ⟨_,_,rfl,h⟩:=Jb h
 obtain ⟨_,_,rfl,h⟩:=Ja h
 obtain ⟨_,_,rfl,h⟩:=Ja h
 obtain ⟨_,_,rfl,h⟩:=Ja h
 obtain ⟨_,_,rfl,h⟩:=Ja h
 obtain ⟨rfl,hE⟩:=Je h
 obtain ⟨y,hy,hk⟩:=Jf hE
 obtain ⟨n,hn⟩:=J5 hy
 exact m_Z88_ok n R _ k r ((Jg hn).trans hk)

/-!-/
abbrev T_Z89:=Int→Int→List D→List D→List D→List D→List D→Option (List D×List D)
def c_Z89 {R:Type} (F:T_Z89) (x0 x1:Int) (x2 x3 x4 x5 x6:List D) (k:List D×List D→Option R):Option R:=
 bif decide (x1<x0) then
 if 0≤x1∧x1<(↑x4.length:Int) then
 if x1.toNat+1≤x4.length then
 if x1.toNat+1≤x4.length then
 (Z87 x1 x0 x1 x1.toNat (↑(x4.getD x1.toNat (D.int 0)).items.length:Int) (0:Int) x2 x3 x4 x5 x6).bind (fun y0=>
 (F y0.fst (IntKind.i64.wrap (y0.snd.fst+1)) y0.snd.snd.fst y0.snd.snd.snd.fst y0.snd.snd.snd.snd.fst y0.snd.snd.snd.snd.snd.fst y0.snd.snd.snd.snd.snd.snd).bind k)
 else
 none
 else
 none
 else
 none
 else
 k (x5,x6)
theorem c_Z89_bind {R:Type} (F:T_Z89) (x0 x1:Int) (x2 x3 x4 x5 x6:List D) (k:List D×List D→Option R):c_Z89 F x0 x1 x2 x3 x4 x5 x6 k=(c_Z89 F x0 x1 x2 x3 x4 x5 x6 some).bind k:=by
 unfold c_Z89
 repeat' first
  | exact JA
  | exact Jz
  | exact Jy
  | apply Jv
  | apply Jw
  | apply JB
  | (apply Jx;intro _)
  | intro _
def n_Z89:Nat→T_Z89
 | 0,_,_,_,_,_,_,_=>none
 | n+1,x0,x1,x2,x3,x4,x5,x6=>c_Z89 (n_Z89 n) x0 x1 x2 x3 x4 x5 x6 some
noncomputable def Z89 (x0 x1:Int) (x2 x3 x4 x5 x6:List D):Option (List D×List D):=ev (fun n=>n_Z89 n x0 x1 x2 x3 x4 x5 x6)
def m_Z89 (F:T_Z89):Jq:=⟨6,⟨(.undef::.undef::.ptr 1000 [0]::.undef::.ptr 1001 [0]::.undef::.ptr 1002 [0]::uu 19 (.full 1001 [0,2] (.slice (.bool))::.int .i64::.int .i64::uu 38 ([]))),[(1000,.obox (.agg [.nilsl,.nilsl])),(1001,.obox (.agg [.own (.int .i64),.own (.slice (.bool)),.own (.slice (.bool))])),(1002,.obox (.agg [.full 1003 [] (.struct [.int .i64,.int .i64]),.full 1004 [] (.struct [.int .i64,.int .i64])])),(1003,.own (.struct [.int .i64,.int .i64])),(1004,.own (.struct [.int .i64,.int .i64]))]⟩,[(.exit 0,⟨(.undef::.undef::.ptr 1000 [0]::.undef::.undef::.undef::.ptr 1001 [0]::uu 60 ([])),[(1000,.obox (.agg [.nilsl,.nilsl])),(1001,.obox (.agg [.full 1002 [] (.struct [.int .i64,.int .i64]),.full 1003 [] (.struct [.int .i64,.int .i64])])),(1002,.own (.struct [.int .i64,.int .i64])),(1003,.own (.struct [.int .i64,.int .i64]))]⟩)],fun _ ds k=>dI (fun x0 ds=>dI (fun x1 ds=>dL (fun x2 ds=>dL (fun x3 ds=>dL (fun x4 ds=>dL (fun x5 ds=>dL (fun x6 ds=>dE ((F x0 x1 x2 x3 x4 x5 x6).bind (fun y=>k 0 [.L y.1,.L y.2])) ds) ds) ds) ds) ds) ds) ds) ds⟩
theorem q_Z89 (F:T_Z89) (x0 x1:Int) (x2 x3 x4 x5 x6:List D):J2 (Jr []) (Js [m_Z89 F,e_Z87]) A 12 (Jk (Jh Try.f12) 6) ((m_Z89 F).sh.mk' [.I x0,.I x1,.L x2,.L x3,.L x4,.L x5,.L x6]) (fun e σ'=>some (e,σ'))=c_Z89 F x0 x1 x2 x3 x4 x5 x6 (fun y=>some (.exit 0,SSt.mk' ⟨(.undef::.undef::.ptr 1000 [0]::.undef::.undef::.undef::.ptr 1001 [0]::uu 60 ([])),[(1000,.obox (.agg [.nilsl,.nilsl])),(1001,.obox (.agg [.full 1002 [] (.struct [.int .i64,.int .i64]),.full 1003 [] (.struct [.int .i64,.int .i64])])),(1002,.own (.struct [.int .i64,.int .i64])),(1003,.own (.struct [.int .i64,.int .i64]))]⟩ [.L y.1,.L y.2])):=by kernel_rfl
theorem m_Z89_ok:∀ n,(m_Z89 (n_Z89 n)).ok Try.prog (Jk (Jh Try.f12) 6):=by
 intro n
 induction n with
 | zero=>
  intro R ds k r h
  unfold m_Z89 at h
  obtain ⟨_,_,rfl,h⟩:=Jb h
  obtain ⟨_,_,rfl,h⟩:=Jb h
  obtain ⟨_,_,rfl,h⟩:=Ja h
  obtain ⟨_,_,rfl,h⟩:=Ja h
  obtain ⟨_,_,rfl,h⟩:=Ja h
  obtain ⟨_,_,rfl,h⟩:=Ja h
  obtain ⟨_,_,rfl,h⟩:=Ja h
  obtain ⟨rfl,hE⟩:=Je h
  obtain ⟨y,hy,hk⟩:=Jf hE
  cases hy
 | succ n ih=>
  intro R ds k r h
  unfold m_Z89 at h
  obtain ⟨_,_,rfl,h⟩:=Jb h
  obtain ⟨_,_,rfl,h⟩:=Jb h
  obtain ⟨_,_,rfl,h⟩:=Ja h
  obtain ⟨_,_,rfl,h⟩:=Ja h
  obtain ⟨_,_,rfl,h⟩:=Ja h
  obtain ⟨_,_,rfl,h⟩:=Ja h
  obtain ⟨_,_,rfl,h⟩:=Ja h
  obtain ⟨rfl,hE⟩:=Je h
  obtain ⟨y,hy,hk⟩:=Jf hE
  exact ⟨0,_,_,_,hk,rfl,JP px (fx:=⟨Try.func12,by kernel_rfl,by kernel_rfl⟩) Jn (Jm ih (Jm e_Z87_ok Jo)) (by kernel_rfl) ((q_Z89 ..).trans ((c_Z89_bind ..).trans (Jg hy)))⟩
noncomputable def e_Z89:Jq:=m_Z89 (Z89)
theorem e_Z89_ok:(e_Z89).ok Try.prog (Jk (Jh Try.f12) 6):=by
 intro R ds k r h
 unfold e_Z89 m_Z89 at h
 obtain ⟨_,_,rfl,h⟩:=Jb h
 obtain ⟨_,_,rfl,h⟩:=Jb h
 obtain ⟨_,_,rfl,h⟩:=Ja h
 obtain ⟨_,_,rfl,h⟩:=Ja h
 obtain ⟨_,_,rfl,h⟩:=Ja h
 obtain ⟨_,_,rfl,h⟩:=Ja h
 obtain ⟨_,_,rfl,h⟩:=Ja h
 obtain ⟨rfl,hE⟩:=Je h
 obtain ⟨y,hy,hk⟩:=Jf hE
 obtain ⟨n,hn⟩:=J5 hy
 exact m_Z89_ok n R _ k r ((Jg hn).trans hk)

/-!-/
abbrev T_Z90:=Int→Int→List D→List D→List D→List D→Option ((List D×List D)⊕(List D))
def c_Z90 {R:Type} (F:T_Z90) (x0 x1:Int) (x2 x3 x4 x5:List D) (k:(List D×List D)⊕(List D)→Option R):Option R:=
 bif decide (x1<x0) then
 if 0≤x1∧x1<(↑x4.length:Int) then
 if x1.toNat+1≤x4.length then
 if x1.toNat+1≤x4.length then
 (Z88 x1 x0 x1 x1.toNat (↑(x4.getD x1.toNat (D.int 0)).items.length:Int) (0:Int) x2 x3 x4 x5).bind (Sum.elim (fun y0=>
 (Z89 y0.fst (IntKind.i64.wrap (y0.snd.fst+1)) y0.snd.snd.fst y0.snd.snd.snd.fst y0.snd.snd.snd.snd.fst y0.snd.snd.snd.snd.snd.fst y0.snd.snd.snd.snd.snd.snd).bind (fun y1=>
 k (.inl (y1.fst,y1.snd)))) (fun y2=>
 (F y2.fst (IntKind.i64.wrap (y2.snd.fst+1)) y2.snd.snd.fst y2.snd.snd.snd.fst y2.snd.snd.snd.snd.fst y2.snd.snd.snd.snd.snd).bind k))
 else
 none
 else
 none
 else
 none
 else
 k (.inr x5)
theorem c_Z90_bind {R:Type} (F:T_Z90) (x0 x1:Int) (x2 x3 x4 x5:List D) (k:(List D×List D)⊕(List D)→Option R):c_Z90 F x0 x1 x2 x3 x4 x5 k=(c_Z90 F x0 x1 x2 x3 x4 x5 some).bind k:=by
 unfold c_Z90
 repeat' first
  | exact JA
  | exact Jz
  | exact Jy
  | apply Jv
  | apply Jw
  | apply JB
  | (apply Jx;intro _)
  | intro _
def n_Z90:Nat→T_Z90
 | 0,_,_,_,_,_,_=>none
 | n+1,x0,x1,x2,x3,x4,x5=>c_Z90 (n_Z90 n) x0 x1 x2 x3 x4 x5 some
noncomputable def Z90 (x0 x1:Int) (x2 x3 x4 x5:List D):Option ((List D×List D)⊕(List D)):=ev (fun n=>n_Z90 n x0 x1 x2 x3 x4 x5)
def m_Z90 (F:T_Z90):Jq:=⟨6,⟨(.undef::.undef::.ptr 1000 [0]::.undef::.ptr 1001 [0]::.undef::.ptr 1002 [0]::uu 19 (.full 1001 [0,2] (.slice (.bool))::.int .i64::.int .i64::uu 38 ([]))),[(1000,.obox (.agg [.nilsl,.nilsl])),(1001,.obox (.agg [.own (.int .i64),.own (.slice (.bool)),.own (.slice (.bool))])),(1002,.obox (.agg [.full 1003 [] (.struct [.int .i64,.int .i64]),.nilsl])),(1003,.own (.struct [.int .i64,.int .i64]))]⟩,[(.exit 0,⟨(.undef::.undef::.ptr 1000 [0]::.undef::.undef::.undef::.ptr 1001 [0]::uu 60 ([])),[(1000,.obox (.agg [.nilsl,.nilsl])),(1001,.obox (.agg [.full 1002 [] (.struct [.int .i64,.int .i64]),.full 1003 [] (.struct [.int .i64,.int .i64])])),(1002,.own (.struct [.int .i64,.int .i64])),(1003,.own (.struct [.int .i64,.int .i64]))]⟩),(.exit 0,⟨(.undef::.undef::.ptr 1000 [0]::.undef::.undef::.undef::.ptr 1001 [0]::uu 60 ([])),[(1000,.obox (.agg [.nilsl,.nilsl])),(1001,.obox (.agg [.full 1002 [] (.struct [.int .i64,.int .i64]),.nilsl])),(1002,.own (.struct [.int .i64,.int .i64]))]⟩)],fun _ ds k=>dI (fun x0 ds=>dI (fun x1 ds=>dL (fun x2 ds=>dL (fun x3 ds=>dL (fun x4 ds=>dL (fun x5 ds=>dE ((F x0 x1 x2 x3 x4 x5).bind (Sum.elim (fun y=>k 0 [.L y.1,.L y.2]) (fun y=>k 1 [.L y]))) ds) ds) ds) ds) ds) ds) ds⟩
theorem q_Z90 (F:T_Z90) (x0 x1:Int) (x2 x3 x4 x5:List D):J2 (Jr []) (Js [m_Z90 F,e_Z88,e_Z89]) A 12 (Jk (Jh Try.f12) 6) ((m_Z90 F).sh.mk' [.I x0,.I x1,.L x2,.L x3,.L x4,.L x5]) (fun e σ'=>some (e,σ'))=c_Z90 F x0 x1 x2 x3 x4 x5 (Sum.elim (fun y=>some (.exit 0,SSt.mk' ⟨(.undef::.undef::.ptr 1000 [0]::.undef::.undef::.undef::.ptr 1001 [0]::uu 60 ([])),[(1000,.obox (.agg [.nilsl,.nilsl])),(1001,.obox (.agg [.full 1002 [] (.struct [.int .i64,.int .i64]),.full 1003 [] (.struct [.int .i64,.int .i64])])),(1002,.own (.struct [.int .i64,.int .i64])),(1003,.own (.struct [.int .i64,.int .i64]))]⟩ [.L y.1,.L y.2])) (fun y=>some (.exit 0,SSt.mk' ⟨(.undef::.undef::.ptr 1000 [0]::.undef::.undef::.undef::.ptr 1001 [0]::uu 60 ([])),[(1000,.obox (.agg [.nilsl,.nilsl])),(1001,.obox (.agg [.full 1002 [] (.struct [.int .i64,.int .i64]),.nilsl])),(1002,.own (.struct [.int .i64,.int .i64]))]⟩ [.L y]))):=by kernel_rfl
theorem m_Z90_ok:∀ n,(m_Z90 (n_Z90 n)).ok Try.prog (Jk (Jh Try.f12) 6):=by
 intro n
 induction n with
 | zero=>
  intro R ds k r h
  unfold m_Z90 at h
  obtain ⟨_,_,rfl,h⟩:=Jb h
  obtain ⟨_,_,rfl,h⟩:=Jb h
  obtain ⟨_,_,rfl,h⟩:=Ja h
  obtain ⟨_,_,rfl,h⟩:=Ja h
  obtain ⟨_,_,rfl,h⟩:=Ja h
  obtain ⟨_,_,rfl,h⟩:=Ja h
  obtain ⟨rfl,hE⟩:=Je h
  obtain ⟨y,hy,hk⟩:=Jf hE
  cases hy
 | succ n ih=>
  intro R ds k r h
  unfold m_Z90 at h
  obtain ⟨_,_,rfl,h⟩:=Jb h
  obtain ⟨_,_,rfl,h⟩:=Jb h
  obtain ⟨_,_,rfl,h⟩:=Ja h
  obtain ⟨_,_,rfl,h⟩:=Ja h
  obtain ⟨_,_,rfl,h⟩:=Ja h
  obtain ⟨_,_,rfl,h⟩:=Ja h
  obtain ⟨rfl,hE⟩:=Je h
  obtain ⟨y,hy,hk⟩:=Jf hE
  cases y with
  | inl y=>
   exact ⟨0,_,_,_,hk,rfl,JP px (fx:=⟨Try.func12,by kernel_rfl,by kernel_rfl⟩) Jn (Jm ih (Jm e_Z88_ok (Jm e_Z89_ok Jo))) (by kernel_rfl) ((q_Z90 ..).trans ((c_Z90_bind ..).trans (Jg hy)))⟩
  | inr y=>
   exact ⟨1,_,_,_,hk,rfl,JP px (fx:=⟨Try.func12,by kernel_rfl,by kernel_rfl⟩) Jn (Jm ih (Jm e_Z88_ok (Jm e_Z89_ok Jo))) (by kernel_rfl) ((q_Z90 ..).trans ((c_Z90_bind ..).trans (Jg hy)))⟩
noncomputable def e_Z90:Jq:=m_Z90 (Z90)
theorem e_Z90_ok:(e_Z90).ok Try.prog (Jk (Jh Try.f12) 6):=by
 intro R ds k r h
 unfold e_Z90 m_Z90 at h
 obtain ⟨_,_,rfl,h⟩:=Jb h
 obtain ⟨_,_,rfl,h⟩:=Jb h
 obtain ⟨_,_,rfl,h⟩:=Ja h
 obtain ⟨_,_,rfl,h⟩:=Ja h
 obtain ⟨_,_,rfl,h⟩:=Ja h
 obtain ⟨_,_,rfl,h⟩:=Ja h
 obtain ⟨rfl,hE⟩:=Je h
 obtain ⟨y,hy,hk⟩:=Jf hE
 obtain ⟨n,hn⟩:=J5 hy
 exact m_Z90_ok n R _ k r ((Jg hn).trans hk)

/-!-/
def c_Z91 {R:Type} (x0 x1:List D) (k:List D×List D×Bool→Option R):Option R:=
 (Z50 x0 x1).bind (fun y0=>
 bif !y0 then
 k ([],[],Bool.false)
 else
 k (x0,x1,Bool.true))
theorem c_Z91_bind {R:Type} (x0 x1:List D) (k:List D×List D×Bool→Option R):c_Z91 x0 x1 k=(c_Z91 x0 x1 some).bind k:=by
 unfold c_Z91
 repeat' first
  | exact JA
  | exact Jz
  | exact Jy
  | apply Jv
  | apply Jw
  | apply JB
  | (apply Jx;intro _)
  | intro _
def Z91 (x0 x1:List D):Option (List D×List D×Bool):=c_Z91 x0 x1 some
def e_Z91:Ent:=⟨52,[.agg [.own (.struct [.int .i64,.int .i64]),.own (.struct [.int .i64,.int .i64])]],[(.tup [.agg [.own (.struct [.int .i64,.int .i64]),.own (.struct [.int .i64,.int .i64])],.bool],[.undef])],fun _ ds k=>dL (fun x0 ds=>dL (fun x1 ds=>dE ((Z91 x0 x1).bind (fun y=>k 0 [.L y.1,.L y.2.1,.B y.2.2])) ds) ds) ds⟩
theorem q_Z91 (x0 x1:List D):JX (Jr [e_Z50]) (Js []) A 52 Try.f52 (Sh.mks e_Z91.sh [.L x0,.L x1]).1 (fun v os=>some (v,os))=c_Z91 x0 x1 (fun y=>J0 e_Z91 0 [.L y.1,.L y.2.1,.B y.2.2]):=by kernel_rfl
theorem e_Z91_ok:e_Z91.ok Try.prog A:=by
 intro R ds k r h
 unfold e_Z91 at h
 obtain ⟨_,_,rfl,h⟩:=Ja h
 obtain ⟨_,_,rfl,h⟩:=Ja h
 obtain ⟨rfl,hE⟩:=Je h
 obtain ⟨y,hy,hk⟩:=Jf hE
 exact ⟨0,_,_,_,hk,rfl,J1 px (fx:=⟨Try.func52,by kernel_rfl,by kernel_rfl⟩) (Jt e_Z50_ok Jn) Jo ((q_Z91 ..).trans ((c_Z91_bind ..).trans (Jg hy)))⟩

/-!-/
def c_Z92 {R:Type} (x0:List D) (k:List D×List D×Bool→Option R):Option R:=
 (Z50 x0 []).bind (fun y0=>
 bif !y0 then
 k ([],[],Bool.false)
 else
 k (x0,[],Bool.true))
theorem c_Z92_bind {R:Type} (x0:List D) (k:List D×List D×Bool→Option R):c_Z92 x0 k=(c_Z92 x0 some).bind k:=by
 unfold c_Z92
 repeat' first
  | exact JA
  | exact Jz
  | exact Jy
  | apply Jv
  | apply Jw
  | apply JB
  | (apply Jx;intro _)
  | intro _
def Z92 (x0:List D):Option (List D×List D×Bool):=c_Z92 x0 some
def e_Z92:Ent:=⟨52,[.agg [.own (.struct [.int .i64,.int .i64]),.nilsl]],[(.tup [.agg [.own (.struct [.int .i64,.int .i64]),.own (.struct [.int .i64,.int .i64])],.bool],[.undef])],fun _ ds k=>dL (fun x0 ds=>dE ((Z92 x0).bind (fun y=>k 0 [.L y.1,.L y.2.1,.B y.2.2])) ds) ds⟩
theorem q_Z92 (x0:List D):JX (Jr [e_Z50]) (Js []) A 52 Try.f52 (Sh.mks e_Z92.sh [.L x0]).1 (fun v os=>some (v,os))=c_Z92 x0 (fun y=>J0 e_Z92 0 [.L y.1,.L y.2.1,.B y.2.2]):=by kernel_rfl
theorem e_Z92_ok:e_Z92.ok Try.prog A:=by
 intro R ds k r h
 unfold e_Z92 at h
 obtain ⟨_,_,rfl,h⟩:=Ja h
 obtain ⟨rfl,hE⟩:=Je h
 obtain ⟨y,hy,hk⟩:=Jf hE
 exact ⟨0,_,_,_,hk,rfl,J1 px (fx:=⟨Try.func52,by kernel_rfl,by kernel_rfl⟩) (Jt e_Z50_ok Jn) Jo ((q_Z92 ..).trans ((c_Z92_bind ..).trans (Jg hy)))⟩

/-!-/
def c_Z93 {R:Type} (x0 x1:List D) (k:List D×List D×Bool→Option R):Option R:=
 (Z66 x0 x1).bind (Sum.elim (fun y0=>
 bif !y0 then
 k ([],[],Bool.false)
 else
 (Z67 x0).bind (fun y1=>
 none)) (fun y2=>
 bif !y2.snd.snd.snd then
 k ([],[],Bool.false)
 else
 (Z67 x0).bind (fun y3=>
 (Z90 (↑y2.snd.snd.fst.length:Int) (0:Int) y2.fst y2.snd.fst y2.snd.snd.fst y3).bind (Sum.elim (fun y4=>
 (Z91 y4.fst y4.snd).bind (fun y5=>
 k (y5.fst,y5.snd.fst,y5.snd.snd))) (fun y6=>
 (Z92 y6).bind (fun y7=>
 k (y7.fst,y7.snd.fst,y7.snd.snd)))))))
theorem c_Z93_bind {R:Type} (x0 x1:List D) (k:List D×List D×Bool→Option R):c_Z93 x0 x1 k=(c_Z93 x0 x1 some).bind k:=by
 unfold c_Z93
 repeat' first
  | exact JA
  | exact Jz
  | exact Jy
  | apply Jv
  | apply Jw
  | apply JB
  | (apply Jx;intro _)
  | intro _
def Z93 (x0 x1:List D):Option (List D×List D×Bool):=c_Z93 x0 x1 some
def e_Z93:Ent:=⟨12,[.agg [.rd (.struct [.int .i64,.int .i64]),.rd (.struct [.int .i64,.int .i64])]],[(.tup [.agg [.own (.struct [.int .i64,.int .i64]),.own (.struct [.int .i64,.int .i64])],.bool],[.undef])],fun _ ds k=>dL (fun x0 ds=>dL (fun x1 ds=>dE ((Z93 x0 x1).bind (fun y=>k 0 [.L y.1,.L y.2.1,.B y.2.2])) ds) ds) ds⟩
theorem q_Z93 (x0 x1:List D):JX (Jr [e_Z66,e_Z67,e_Z91,e_Z92]) (Js [e_Z90]) A 12 Try.f12 (Sh.mks e_Z93.sh [.L x0,.L x1]).1 (fun v os=>some (v,os))=c_Z93 x0 x1 (fun y=>J0 e_Z93 0 [.L y.1,.L y.2.1,.B y.2.2]):=by kernel_rfl
theorem e_Z93_ok:e_Z93.ok Try.prog A:=by
 intro R ds k r h
 unfold e_Z93 at h
 obtain ⟨_,_,rfl,h⟩:=Ja h
 obtain ⟨_,_,rfl,h⟩:=Ja h
 obtain ⟨rfl,hE⟩:=Je h
 obtain ⟨y,hy,hk⟩:=Jf hE
 exact ⟨0,_,_,_,hk,rfl,J1 px (fx:=⟨Try.func12,by kernel_rfl,by kernel_rfl⟩) (Jt e_Z66_ok (Jt e_Z67_ok (Jt e_Z91_ok (Jt e_Z92_ok Jn)))) (Jm e_Z90_ok Jo) ((q_Z93 ..).trans ((c_Z93_bind ..).trans (Jg hy)))⟩

/-!-/
def c_Z94 {R:Type}  (k:List D→Option R):Option R:=
 none
theorem c_Z94_bind {R:Type}  (k:List D→Option R):c_Z94  k=(c_Z94  some).bind k:=by
 unfold c_Z94
 repeat' first
  | exact JA
  | exact Jz
  | exact Jy
  | apply Jv
  | apply Jw
  | apply JB
  | (apply Jx;intro _)
  | intro _
def Z94 :Option (List D):=c_Z94  some
def e_Z94:Ent:=⟨57,[.nilptr],[(.own (.int .i64),[.undef])],fun _ ds k=>dE ((Z94 ).bind (fun y=>k 0 [.L y])) ds⟩
theorem q_Z94 :JX (Jr []) (Js []) A 57 Try.f57 (Sh.mks e_Z94.sh []).1 (fun v os=>some (v,os))=c_Z94  (fun y=>J0 e_Z94 0 [.L y]):=by kernel_rfl
theorem e_Z94_ok:e_Z94.ok Try.prog A:=by
 intro R ds k r h
 unfold e_Z94 at h
 obtain ⟨rfl,hE⟩:=Je h
 obtain ⟨y,hy,hk⟩:=Jf hE
 exact ⟨0,_,_,_,hk,rfl,J1 px (fx:=⟨Try.func57,by kernel_rfl,by kernel_rfl⟩) Jn Jo ((q_Z94 ..).trans ((c_Z94_bind ..).trans (Jg hy)))⟩

/-!-/
abbrev T_Z95:=Int→Int→Int→Int→List D→List D→Option (Int×Int×Int×Int×List D×List D)
def c_Z95 {R:Type} (F:T_Z95) (x0 x1 x2 x3:Int) (x4 x5:List D) (k:Int×Int×Int×Int×List D×List D→Option R):Option R:=
 bif decide ((↑x4.length:Int)≤x1) then
 if x4.length+[D.node []].length≤(4294967296:Nat) then
 (F x0 x1 x2 x3 (x4++[D.node []]) x5).bind k
 else
 none
 else
 k (x0,x1,x2,x3,x4,x5)
theorem c_Z95_bind {R:Type} (F:T_Z95) (x0 x1 x2 x3:Int) (x4 x5:List D) (k:Int×Int×Int×Int×List D×List D→Option R):c_Z95 F x0 x1 x2 x3 x4 x5 k=(c_Z95 F x0 x1 x2 x3 x4 x5 some).bind k:=by
 unfold c_Z95
 repeat' first
  | exact JA
  | exact Jz
  | exact Jy
  | apply Jv
  | apply Jw
  | apply JB
  | (apply Jx;intro _)
  | intro _
def n_Z95:Nat→T_Z95
 | 0,_,_,_,_,_,_=>none
 | n+1,x0,x1,x2,x3,x4,x5=>c_Z95 (n_Z95 n) x0 x1 x2 x3 x4 x5 some
noncomputable def Z95 (x0 x1 x2 x3:Int) (x4 x5:List D):Option (Int×Int×Int×Int×List D×List D):=ev (fun n=>n_Z95 n x0 x1 x2 x3 x4 x5)
def m_Z95 (F:T_Z95):Jq:=⟨5,⟨(.nilptr::.undef::.undef::.full 1000 [] (.slice (.int .i64))::.int .i64::.int .i64::.undef::.undef::.full 1001 [] (.int .i64)::.int .i64::.int .i64::uu 29 ([])),[(1000,.own (.slice (.int .i64))),(1001,.own (.int .i64))]⟩,[(.exit 2,⟨(.nilptr::.undef::.undef::.full 1000 [] (.slice (.int .i64))::.int .i64::.int .i64::.undef::.undef::.full 1001 [] (.int .i64)::.int .i64::.int .i64::uu 29 ([])),[(1000,.own (.slice (.int .i64))),(1001,.own (.int .i64))]⟩)],fun _ ds k=>dI (fun x0 ds=>dI (fun x1 ds=>dI (fun x2 ds=>dI (fun x3 ds=>dL (fun x4 ds=>dL (fun x5 ds=>dE ((F x0 x1 x2 x3 x4 x5).bind (fun y=>k 0 [.I y.1,.I y.2.1,.I y.2.2.1,.I y.2.2.2.1,.L y.2.2.2.2.1,.L y.2.2.2.2.2])) ds) ds) ds) ds) ds) ds) ds⟩
theorem q_Z95 (F:T_Z95) (x0 x1 x2 x3:Int) (x4 x5:List D):J2 (Jr []) (Js [m_Z95 F]) A 53 (Jk (Jh Try.f53) 5) ((m_Z95 F).sh.mk' [.I x0,.I x1,.I x2,.I x3,.L x4,.L x5]) (fun e σ'=>some (e,σ'))=c_Z95 F x0 x1 x2 x3 x4 x5 (fun y=>some (.exit 2,SSt.mk' ⟨(.nilptr::.undef::.undef::.full 1000 [] (.slice (.int .i64))::.int .i64::.int .i64::.undef::.undef::.full 1001 [] (.int .i64)::.int .i64::.int .i64::uu 29 ([])),[(1000,.own (.slice (.int .i64))),(1001,.own (.int .i64))]⟩ [.I y.1,.I y.2.1,.I y.2.2.1,.I y.2.2.2.1,.L y.2.2.2.2.1,.L y.2.2.2.2.2])):=by kernel_rfl
theorem m_Z95_ok:∀ n,(m_Z95 (n_Z95 n)).ok Try.prog (Jk (Jh Try.f53) 5):=by
 intro n
 induction n with
 | zero=>
  intro R ds k r h
  unfold m_Z95 at h
  obtain ⟨_,_,rfl,h⟩:=Jb h
  obtain ⟨_,_,rfl,h⟩:=Jb h
  obtain ⟨_,_,rfl,h⟩:=Jb h
  obtain ⟨_,_,rfl,h⟩:=Jb h
  obtain ⟨_,_,rfl,h⟩:=Ja h
  obtain ⟨_,_,rfl,h⟩:=Ja h
  obtain ⟨rfl,hE⟩:=Je h
  obtain ⟨y,hy,hk⟩:=Jf hE
  cases hy
 | succ n ih=>
  intro R ds k r h
  unfold m_Z95 at h
  obtain ⟨_,_,rfl,h⟩:=Jb h
  obtain ⟨_,_,rfl,h⟩:=Jb h
  obtain ⟨_,_,rfl,h⟩:=Jb h
  obtain ⟨_,_,rfl,h⟩:=Jb h
  obtain ⟨_,_,rfl,h⟩:=Ja h
  obtain ⟨_,_,rfl,h⟩:=Ja h
  obtain ⟨rfl,hE⟩:=Je h
  obtain ⟨y,hy,hk⟩:=Jf hE
  exact ⟨0,_,_,_,hk,rfl,JP px (fx:=⟨Try.func53,by kernel_rfl,by kernel_rfl⟩) Jn (Jm ih Jo) (by kernel_rfl) ((q_Z95 ..).trans ((c_Z95_bind ..).trans (Jg hy)))⟩
noncomputable def e_Z95:Jq:=m_Z95 (Z95)
theorem e_Z95_ok:(e_Z95).ok Try.prog (Jk (Jh Try.f53) 5):=by
 intro R ds k r h
 unfold e_Z95 m_Z95 at h
 obtain ⟨_,_,rfl,h⟩:=Jb h
 obtain ⟨_,_,rfl,h⟩:=Jb h
 obtain ⟨_,_,rfl,h⟩:=Jb h
 obtain ⟨_,_,rfl,h⟩:=Jb h
 obtain ⟨_,_,rfl,h⟩:=Ja h
 obtain ⟨_,_,rfl,h⟩:=Ja h
 obtain ⟨rfl,hE⟩:=Je h
 obtain ⟨y,hy,hk⟩:=Jf hE
 obtain ⟨n,hn⟩:=J5 hy
 exact m_Z95_ok n R _ k r ((Jg hn).trans hk)

/-!-/
abbrev T_Z96:=Int→Int→List D→List D→Option (List D)
def c_Z96 {R:Type} (F:T_Z96) (x0 x1:Int) (x2 x3:List D) (k:List D→Option R):Option R:=
 bif decide (x1<x0) then
 if 0≤x1∧x1<(↑x3.length:Int) then
 if x1.toNat+1≤x3.length then
 (Z95 x1 ((x3.getD x1.toNat (D.int 0)).toInt) x0 x1 x2 x3).bind (fun y0=>
 if 0≤y0.snd.fst∧y0.snd.fst<(↑y0.snd.snd.snd.snd.fst.length:Int) then
 if y0.snd.fst.toNat+1≤y0.snd.snd.snd.snd.fst.length then
 none
 else
 none
 else
 none)
 else
 none
 else
 none
 else
 k x2
theorem c_Z96_bind {R:Type} (F:T_Z96) (x0 x1:Int) (x2 x3:List D) (k:List D→Option R):c_Z96 F x0 x1 x2 x3 k=(c_Z96 F x0 x1 x2 x3 some).bind k:=by
 unfold c_Z96
 repeat' first
  | exact JA
  | exact Jz
  | exact Jy
  | apply Jv
  | apply Jw
  | apply JB
  | (apply Jx;intro _)
  | intro _
def n_Z96:Nat→T_Z96
 | 0,_,_,_,_=>none
 | n+1,x0,x1,x2,x3=>c_Z96 (n_Z96 n) x0 x1 x2 x3 some
noncomputable def Z96 (x0 x1:Int) (x2 x3:List D):Option (List D):=ev (fun n=>n_Z96 n x0 x1 x2 x3)
def m_Z96 (F:T_Z96):Jq:=⟨3,⟨(.nilptr::.undef::.undef::.full 1000 [] (.slice (.int .i64))::uu 4 (.full 1001 [] (.int .i64)::.int .i64::.int .i64::uu 29 ([]))),[(1000,.own (.slice (.int .i64))),(1001,.own (.int .i64))]⟩,[(.exit 0,⟨(.undef::.undef::.undef::.full 1000 [] (.slice (.int .i64))::uu 36 ([])),[(1000,.own (.slice (.int .i64)))]⟩)],fun _ ds k=>dI (fun x0 ds=>dI (fun x1 ds=>dL (fun x2 ds=>dL (fun x3 ds=>dE ((F x0 x1 x2 x3).bind (fun y=>k 0 [.L y])) ds) ds) ds) ds) ds⟩
theorem q_Z96 (F:T_Z96) (x0 x1:Int) (x2 x3:List D):J2 (Jr []) (Js [m_Z96 F,e_Z95]) A 53 (Jk (Jh Try.f53) 3) ((m_Z96 F).sh.mk' [.I x0,.I x1,.L x2,.L x3]) (fun e σ'=>some (e,σ'))=c_Z96 F x0 x1 x2 x3 (fun y=>some (.exit 0,SSt.mk' ⟨(.undef::.undef::.undef::.full 1000 [] (.slice (.int .i64))::uu 36 ([])),[(1000,.own (.slice (.int .i64)))]⟩ [.L y])):=by kernel_rfl
theorem m_Z96_ok:∀ n,(m_Z96 (n_Z96 n)).ok Try.prog (Jk (Jh Try.f53) 3):=by
 intro n
 induction n with
 | zero=>
  intro R ds k r h
  unfold m_Z96 at h
  obtain ⟨_,_,rfl,h⟩:=Jb h
  obtain ⟨_,_,rfl,h⟩:=Jb h
  obtain ⟨_,_,rfl,h⟩:=Ja h
  obtain ⟨_,_,rfl,h⟩:=Ja h
  obtain ⟨rfl,hE⟩:=Je h
  obtain ⟨y,hy,hk⟩:=Jf hE
  cases hy
 | succ n ih=>
  intro R ds k r h
  unfold m_Z96 at h
  obtain ⟨_,_,rfl,h⟩:=Jb h
  obtain ⟨_,_,rfl,h⟩:=Jb h
  obtain ⟨_,_,rfl,h⟩:=Ja h
  obtain ⟨_,_,rfl,h⟩:=Ja h
  obtain ⟨rfl,hE⟩:=Je h
  obtain ⟨y,hy,hk⟩:=Jf hE
  exact ⟨0,_,_,_,hk,rfl,JP px (fx:=⟨Try.func53,by kernel_rfl,by kernel_rfl⟩) Jn (Jm ih (Jm e_Z95_ok Jo)) (by kernel_rfl) ((q_Z96 ..).trans ((c_Z96_bind ..).trans (Jg hy)))⟩
noncomputable def e_Z96:Jq:=m_Z96 (Z96)
theorem e_Z96_ok:(e_Z96).ok Try.prog (Jk (Jh Try.f53) 3):=by
 intro R ds k r h
 unfold e_Z96 m_Z96 at h
 obtain ⟨_,_,rfl,h⟩:=Jb h
 obtain ⟨_,_,rfl,h⟩:=Jb h
 obtain ⟨_,_,rfl,h⟩:=Ja h
 obtain ⟨_,_,rfl,h⟩:=Ja h
 obtain ⟨rfl,hE⟩:=Je h
 obtain ⟨y,hy,hk⟩:=Jf hE
 obtain ⟨n,hn⟩:=J5 hy
 exact m_Z96_ok n R _ k r ((Jg hn).trans hk)

/-!-/
def c_Z97 {R:Type}  (k:List D→Option R):Option R:=
 (Z94 ).bind (fun y0=>
 (Z96 (↑y0.length:Int) (0:Int) [] y0).bind (fun y1=>
 k y1))
theorem c_Z97_bind {R:Type}  (k:List D→Option R):c_Z97  k=(c_Z97  some).bind k:=by
 unfold c_Z97
 repeat' first
  | exact JA
  | exact Jz
  | exact Jy
  | apply Jv
  | apply Jw
  | apply JB
  | (apply Jx;intro _)
  | intro _
def Z97 :Option (List D):=c_Z97  some
def e_Z97:Ent:=⟨53,[.nilptr],[(.own (.slice (.int .i64)),[.undef])],fun _ ds k=>dE ((Z97 ).bind (fun y=>k 0 [.L y])) ds⟩
theorem q_Z97 :JX (Jr [e_Z94]) (Js [e_Z96]) A 53 Try.f53 (Sh.mks e_Z97.sh []).1 (fun v os=>some (v,os))=c_Z97  (fun y=>J0 e_Z97 0 [.L y]):=by kernel_rfl
theorem e_Z97_ok:e_Z97.ok Try.prog A:=by
 intro R ds k r h
 unfold e_Z97 at h
 obtain ⟨rfl,hE⟩:=Je h
 obtain ⟨y,hy,hk⟩:=Jf hE
 exact ⟨0,_,_,_,hk,rfl,J1 px (fx:=⟨Try.func53,by kernel_rfl,by kernel_rfl⟩) (Jt e_Z94_ok Jn) (Jm e_Z96_ok Jo) ((q_Z97 ..).trans ((c_Z97_bind ..).trans (Jg hy)))⟩

/-!-/
abbrev T_Z98:=List D→List D→List D→Int→Int→Int→Int→Int→Int→Int→List D→Option (List D×List D×List D×Int×Int×Int×Int×List D)
def c_Z98 {R:Type} (F:T_Z98) (x0 x1 x2:List D) (x3 x4 x5 x6 x7 x8 x9:Int) (x10:List D) (k:List D×List D×List D×Int×Int×Int×Int×List D→Option R):Option R:=
 bif decide (x9<x8) then
 if 0≤x3∧x3<(↑x1.length:Int) then
 if 0≤x9∧x9<(↑(x1.getD x3.toNat (D.int 0)).items.length:Int) then
 bif ((x1.getD x3.toNat (D.int 0)).items.getD x9.toNat (D.int 0)).toBool then
 if 0≤x9∧x9<(↑x10.length:Int) then
 if x9.toNat+1≤x10.length then
 if 0≤x3∧x3<(↑x10.length:Int) then
 if x3.toNat+1≤x10.length then
 if 0≤x9∧x9<(↑x10.length:Int) then
 if x9.toNat+1≤x10.length then
 (F x0 x1 x2 x3 x4 x5 x6 x7 x8 (IntKind.i64.wrap (x9+1)) (x10.set x9.toNat (D.int (if IntKind.i64.wrap ((x10.getD x3.toNat (D.int 0)).toInt+(1:Int)) > (x10.getD x9.toNat (D.int 0)).toInt then IntKind.i64.wrap ((x10.getD x3.toNat (D.int 0)).toInt+(1:Int)) else (x10.getD x9.toNat (D.int 0)).toInt)))).bind k
 else
 none
 else
 none
 else
 none
 else
 none
 else
 none
 else
 none
 else
 (F x0 x1 x2 x3 x4 x5 x6 x7 x8 (IntKind.i64.wrap (x9+1)) x10).bind k
 else
 none
 else
 none
 else
 k (x0,x1,x2,x4,x5,x6,x7,x10)
theorem c_Z98_bind {R:Type} (F:T_Z98) (x0 x1 x2:List D) (x3 x4 x5 x6 x7 x8 x9:Int) (x10:List D) (k:List D×List D×List D×Int×Int×Int×Int×List D→Option R):c_Z98 F x0 x1 x2 x3 x4 x5 x6 x7 x8 x9 x10 k=(c_Z98 F x0 x1 x2 x3 x4 x5 x6 x7 x8 x9 x10 some).bind k:=by
 unfold c_Z98
 repeat' first
  | exact JA
  | exact Jz
  | exact Jy
  | apply Jv
  | apply Jw
  | apply JB
  | (apply Jx;intro _)
  | intro _
def n_Z98:Nat→T_Z98
 | 0,_,_,_,_,_,_,_,_,_,_,_=>none
 | n+1,x0,x1,x2,x3,x4,x5,x6,x7,x8,x9,x10=>c_Z98 (n_Z98 n) x0 x1 x2 x3 x4 x5 x6 x7 x8 x9 x10 some
noncomputable def Z98 (x0 x1 x2:List D) (x3 x4 x5 x6 x7 x8 x9:Int) (x10:List D):Option (List D×List D×List D×Int×Int×Int×Int×List D):=ev (fun n=>n_Z98 n x0 x1 x2 x3 x4 x5 x6 x7 x8 x9 x10)
def m_Z98 (F:T_Z98):Jq:=⟨8,⟨(.rp (.agg [.rd (.int .i64),.rd (.slice (.bool)),.rd (.slice (.bool))])::.undef::.undef::.full 1000 [] (.int .i64)::.int .i64::uu 11 (.int .i64::.int .i64::uu 5 (.int .i64::.int .i64::uu 6 (.int .i64::.int .i64::uu 29 ([]))))),[(1000,.own (.int .i64))]⟩,[(.exit 4,⟨(.rp (.agg [.rd (.int .i64),.rd (.slice (.bool)),.rd (.slice (.bool))])::.undef::.undef::.full 1000 [] (.int .i64)::uu 12 (.int .i64::.int .i64::uu 5 (.int .i64::.int .i64::uu 37 ([])))),[(1000,.own (.int .i64))]⟩)],fun _ ds k=>dL (fun x0 ds=>dL (fun x1 ds=>dL (fun x2 ds=>dI (fun x3 ds=>dI (fun x4 ds=>dI (fun x5 ds=>dI (fun x6 ds=>dI (fun x7 ds=>dI (fun x8 ds=>dI (fun x9 ds=>dL (fun x10 ds=>dE ((F x0 x1 x2 x3 x4 x5 x6 x7 x8 x9 x10).bind (fun y=>k 0 [.L y.1,.L y.2.1,.L y.2.2.1,.I y.2.2.2.1,.I y.2.2.2.2.1,.I y.2.2.2.2.2.1,.I y.2.2.2.2.2.2.1,.L y.2.2.2.2.2.2.2])) ds) ds) ds) ds) ds) ds) ds) ds) ds) ds) ds) ds⟩
theorem q_Z98 (F:T_Z98) (x0 x1 x2:List D) (x3 x4 x5 x6 x7 x8 x9:Int) (x10:List D):J2 (Jr []) (Js [m_Z98 F]) A 57 (Jk (Jh Try.f57) 8) ((m_Z98 F).sh.mk' [.L x0,.L x1,.L x2,.I x3,.I x4,.I x5,.I x6,.I x7,.I x8,.I x9,.L x10]) (fun e σ'=>some (e,σ'))=c_Z98 F x0 x1 x2 x3 x4 x5 x6 x7 x8 x9 x10 (fun y=>some (.exit 4,SSt.mk' ⟨(.rp (.agg [.rd (.int .i64),.rd (.slice (.bool)),.rd (.slice (.bool))])::.undef::.undef::.full 1000 [] (.int .i64)::uu 12 (.int .i64::.int .i64::uu 5 (.int .i64::.int .i64::uu 37 ([])))),[(1000,.own (.int .i64))]⟩ [.L y.1,.L y.2.1,.L y.2.2.1,.I y.2.2.2.1,.I y.2.2.2.2.1,.I y.2.2.2.2.2.1,.I y.2.2.2.2.2.2.1,.L y.2.2.2.2.2.2.2])):=by kernel_rfl
theorem m_Z98_ok:∀ n,(m_Z98 (n_Z98 n)).ok Try.prog (Jk (Jh Try.f57) 8):=by
 intro n
 induction n with
 | zero=>
  intro R ds k r h
  unfold m_Z98 at h
  obtain ⟨_,_,rfl,h⟩:=Ja h
  obtain ⟨_,_,rfl,h⟩:=Ja h
  obtain ⟨_,_,rfl,h⟩:=Ja h
  obtain ⟨_,_,rfl,h⟩:=Jb h
  obtain ⟨_,_,rfl,h⟩:=Jb h
  obtain ⟨_,_,rfl,h⟩:=Jb h
  obtain ⟨_,_,rfl,h⟩:=Jb h
  obtain ⟨_,_,rfl,h⟩:=Jb h
  obtain ⟨_,_,rfl,h⟩:=Jb h
  obtain ⟨_,_,rfl,h⟩:=Jb h
  obtain ⟨_,_,rfl,h⟩:=Ja h
  obtain ⟨rfl,hE⟩:=Je h
  obtain ⟨y,hy,hk⟩:=Jf hE
  cases hy
 | succ n ih=>
  intro R ds k r h
  unfold m_Z98 at h
  obtain ⟨_,_,rfl,h⟩:=Ja h
  obtain ⟨_,_,rfl,h⟩:=Ja h
  obtain ⟨_,_,rfl,h⟩:=Ja h
  obtain ⟨_,_,rfl,h⟩:=Jb h
  obtain ⟨_,_,rfl,h⟩:=Jb h
  obtain ⟨_,_,rfl,h⟩:=Jb h
  obtain ⟨_,_,rfl,h⟩:=Jb h
  obtain ⟨_,_,rfl,h⟩:=Jb h
  obtain ⟨_,_,rfl,h⟩:=Jb h
  obtain ⟨_,_,rfl,h⟩:=Jb h
  obtain ⟨_,_,rfl,h⟩:=Ja h
  obtain ⟨rfl,hE⟩:=Je h
  obtain ⟨y,hy,hk⟩:=Jf hE
  exact ⟨0,_,_,_,hk,rfl,JP px (fx:=⟨Try.func57,by kernel_rfl,by kernel_rfl⟩) Jn (Jm ih Jo) (by kernel_rfl) ((q_Z98 ..).trans ((c_Z98_bind ..).trans (Jg hy)))⟩
noncomputable def e_Z98:Jq:=m_Z98 (Z98)
theorem e_Z98_ok:(e_Z98).ok Try.prog (Jk (Jh Try.f57) 8):=by
 intro R ds k r h
 unfold e_Z98 m_Z98 at h
 obtain ⟨_,_,rfl,h⟩:=Ja h
 obtain ⟨_,_,rfl,h⟩:=Ja h
 obtain ⟨_,_,rfl,h⟩:=Ja h
 obtain ⟨_,_,rfl,h⟩:=Jb h
 obtain ⟨_,_,rfl,h⟩:=Jb h
 obtain ⟨_,_,rfl,h⟩:=Jb h
 obtain ⟨_,_,rfl,h⟩:=Jb h
 obtain ⟨_,_,rfl,h⟩:=Jb h
 obtain ⟨_,_,rfl,h⟩:=Jb h
 obtain ⟨_,_,rfl,h⟩:=Jb h
 obtain ⟨_,_,rfl,h⟩:=Ja h
 obtain ⟨rfl,hE⟩:=Je h
 obtain ⟨y,hy,hk⟩:=Jf hE
 obtain ⟨n,hn⟩:=J5 hy
 exact m_Z98_ok n R _ k r ((Jg hn).trans hk)

/-!-/
abbrev T_Z99:=List D→List D→List D→Int→Int→Int→Int→List D→Option (List D×List D×List D×Int×Int×List D)
def c_Z99 {R:Type} (F:T_Z99) (x0 x1 x2:List D) (x3 x4 x5 x6:Int) (x7:List D) (k:List D×List D×List D×Int×Int×List D→Option R):Option R:=
 bif decide (x6<x5) then
 (Z98 x0 x1 x2 x6 x3 x4 x5 x6 (↑x0.length:Int) (0:Int) x7).bind (fun y0=>
 (F y0.fst y0.snd.fst y0.snd.snd.fst y0.snd.snd.snd.fst y0.snd.snd.snd.snd.fst y0.snd.snd.snd.snd.snd.fst (IntKind.i64.wrap (y0.snd.snd.snd.snd.snd.snd.fst+1)) y0.snd.snd.snd.snd.snd.snd.snd).bind k)
 else
 k (x0,x1,x2,x3,x4,x7)
theorem c_Z99_bind {R:Type} (F:T_Z99) (x0 x1 x2:List D) (x3 x4 x5 x6:Int) (x7:List D) (k:List D×List D×List D×Int×Int×List D→Option R):c_Z99 F x0 x1 x2 x3 x4 x5 x6 x7 k=(c_Z99 F x0 x1 x2 x3 x4 x5 x6 x7 some).bind k:=by
 unfold c_Z99
 repeat' first
  | exact JA
  | exact Jz
  | exact Jy
  | apply Jv
  | apply Jw
  | apply JB
  | (apply Jx;intro _)
  | intro _
def n_Z99:Nat→T_Z99
 | 0,_,_,_,_,_,_,_,_=>none
 | n+1,x0,x1,x2,x3,x4,x5,x6,x7=>c_Z99 (n_Z99 n) x0 x1 x2 x3 x4 x5 x6 x7 some
noncomputable def Z99 (x0 x1 x2:List D) (x3 x4 x5 x6:Int) (x7:List D):Option (List D×List D×List D×Int×Int×List D):=ev (fun n=>n_Z99 n x0 x1 x2 x3 x4 x5 x6 x7)
def m_Z99 (F:T_Z99):Jq:=⟨5,⟨(.rp (.agg [.rd (.int .i64),.rd (.slice (.bool)),.rd (.slice (.bool))])::.undef::.undef::.full 1000 [] (.int .i64)::uu 12 (.int .i64::.int .i64::uu 5 (.int .i64::.int .i64::uu 37 ([])))),[(1000,.own (.int .i64))]⟩,[(.exit 2,⟨(.rp (.agg [.rd (.int .i64),.rd (.slice (.bool)),.rd (.slice (.bool))])::.undef::.undef::.full 1000 [] (.int .i64)::uu 12 (.int .i64::.int .i64::uu 44 ([]))),[(1000,.own (.int .i64))]⟩)],fun _ ds k=>dL (fun x0 ds=>dL (fun x1 ds=>dL (fun x2 ds=>dI (fun x3 ds=>dI (fun x4 ds=>dI (fun x5 ds=>dI (fun x6 ds=>dL (fun x7 ds=>dE ((F x0 x1 x2 x3 x4 x5 x6 x7).bind (fun y=>k 0 [.L y.1,.L y.2.1,.L y.2.2.1,.I y.2.2.2.1,.I y.2.2.2.2.1,.L y.2.2.2.2.2])) ds) ds) ds) ds) ds) ds) ds) ds) ds⟩
theorem q_Z99 (F:T_Z99) (x0 x1 x2:List D) (x3 x4 x5 x6:Int) (x7:List D):J2 (Jr []) (Js [m_Z99 F,e_Z98]) A 57 (Jk (Jh Try.f57) 5) ((m_Z99 F).sh.mk' [.L x0,.L x1,.L x2,.I x3,.I x4,.I x5,.I x6,.L x7]) (fun e σ'=>some (e,σ'))=c_Z99 F x0 x1 x2 x3 x4 x5 x6 x7 (fun y=>some (.exit 2,SSt.mk' ⟨(.rp (.agg [.rd (.int .i64),.rd (.slice (.bool)),.rd (.slice (.bool))])::.undef::.undef::.full 1000 [] (.int .i64)::uu 12 (.int .i64::.int .i64::uu 44 ([]))),[(1000,.own (.int .i64))]⟩ [.L y.1,.L y.2.1,.L y.2.2.1,.I y.2.2.2.1,.I y.2.2.2.2.1,.L y.2.2.2.2.2])):=by kernel_rfl
theorem m_Z99_ok:∀ n,(m_Z99 (n_Z99 n)).ok Try.prog (Jk (Jh Try.f57) 5):=by
 intro n
 induction n with
 | zero=>
  intro R ds k r h
  unfold m_Z99 at h
  obtain ⟨_,_,rfl,h⟩:=Ja h
  obtain ⟨_,_,rfl,h⟩:=Ja h
  obtain ⟨_,_,rfl,h⟩:=Ja h
  obtain ⟨_,_,rfl,h⟩:=Jb h
  obtain ⟨_,_,rfl,h⟩:=Jb h
  obtain ⟨_,_,rfl,h⟩:=Jb h
  obtain ⟨_,_,rfl,h⟩:=Jb h
  obtain ⟨_,_,rfl,h⟩:=Ja h
  obtain ⟨rfl,hE⟩:=Je h
  obtain ⟨y,hy,hk⟩:=Jf hE
  cases hy
 | succ n ih=>
  intro R ds k r h
  unfold m_Z99 at h
  obtain ⟨_,_,rfl,h⟩:=Ja h
  obtain ⟨_,_,rfl,h⟩:=Ja h
  obtain ⟨_,_,rfl,h⟩:=Ja h
  obtain ⟨_,_,rfl,h⟩:=Jb h
  obtain ⟨_,_,rfl,h⟩:=Jb h
  obtain ⟨_,_,rfl,h⟩:=Jb h
  obtain ⟨_,_,rfl,h⟩:=Jb h
  obtain ⟨_,_,rfl,h⟩:=Ja h
  obtain ⟨rfl,hE⟩:=Je h
  obtain ⟨y,hy,hk⟩:=Jf hE
  exact ⟨0,_,_,_,hk,rfl,JP px (fx:=⟨Try.func57,by kernel_rfl,by kernel_rfl⟩) Jn (Jm ih (Jm e_Z98_ok Jo)) (by kernel_rfl) ((q_Z99 ..).trans ((c_Z99_bind ..).trans (Jg hy)))⟩
noncomputable def e_Z99:Jq:=m_Z99 (Z99)
theorem e_Z99_ok:(e_Z99).ok Try.prog (Jk (Jh Try.f57) 5):=by
 intro R ds k r h
 unfold e_Z99 m_Z99 at h
 obtain ⟨_,_,rfl,h⟩:=Ja h
 obtain ⟨_,_,rfl,h⟩:=Ja h
 obtain ⟨_,_,rfl,h⟩:=Ja h
 obtain ⟨_,_,rfl,h⟩:=Jb h
 obtain ⟨_,_,rfl,h⟩:=Jb h
 obtain ⟨_,_,rfl,h⟩:=Jb h
 obtain ⟨_,_,rfl,h⟩:=Jb h
 obtain ⟨_,_,rfl,h⟩:=Ja h
 obtain ⟨rfl,hE⟩:=Je h
 obtain ⟨y,hy,hk⟩:=Jf hE
 obtain ⟨n,hn⟩:=J5 hy
 exact m_Z99_ok n R _ k r ((Jg hn).trans hk)

/-!-/
abbrev T_Z100:=List D→List D→List D→Int→Int→List D→Option (List D)
def c_Z100 {R:Type} (F:T_Z100) (x0 x1 x2:List D) (x3 x4:Int) (x5:List D) (k:List D→Option R):Option R:=
 bif decide (x4<x3) then
 (Z99 x0 x1 x2 x3 x4 (↑x0.length:Int) (0:Int) x5).bind (fun y0=>
 (F y0.fst y0.snd.fst y0.snd.snd.fst y0.snd.snd.snd.fst (IntKind.i64.wrap (y0.snd.snd.snd.snd.fst+1)) y0.snd.snd.snd.snd.snd).bind k)
 else
 k x5
theorem c_Z100_bind {R:Type} (F:T_Z100) (x0 x1 x2:List D) (x3 x4:Int) (x5:List D) (k:List D→Option R):c_Z100 F x0 x1 x2 x3 x4 x5 k=(c_Z100 F x0 x1 x2 x3 x4 x5 some).bind k:=by
 unfold c_Z100
 repeat' first
  | exact JA
  | exact Jz
  | exact Jy
  | apply Jv
  | apply Jw
  | apply JB
  | (apply Jx;intro _)
  | intro _
def n_Z100:Nat→T_Z100
 | 0,_,_,_,_,_,_=>none
 | n+1,x0,x1,x2,x3,x4,x5=>c_Z100 (n_Z100 n) x0 x1 x2 x3 x4 x5 some
noncomputable def Z100 (x0 x1 x2:List D) (x3 x4:Int) (x5:List D):Option (List D):=ev (fun n=>n_Z100 n x0 x1 x2 x3 x4 x5)
def m_Z100 (F:T_Z100):Jq:=⟨3,⟨(.rp (.agg [.rd (.int .i64),.rd (.slice (.bool)),.rd (.slice (.bool))])::.undef::.undef::.full 1000 [] (.int .i64)::uu 12 (.int .i64::.int .i64::uu 44 ([]))),[(1000,.own (.int .i64))]⟩,[(.exit 0,⟨(.undef::.undef::.undef::.full 1000 [] (.int .i64)::uu 58 ([])),[(1000,.own (.int .i64))]⟩)],fun _ ds k=>dL (fun x0 ds=>dL (fun x1 ds=>dL (fun x2 ds=>dI (fun x3 ds=>dI (fun x4 ds=>dL (fun x5 ds=>dE ((F x0 x1 x2 x3 x4 x5).bind (fun y=>k 0 [.L y])) ds) ds) ds) ds) ds) ds) ds⟩
theorem q_Z100 (F:T_Z100) (x0 x1 x2:List D) (x3 x4:Int) (x5:List D):J2 (Jr []) (Js [m_Z100 F,e_Z99]) A 57 (Jk (Jh Try.f57) 3) ((m_Z100 F).sh.mk' [.L x0,.L x1,.L x2,.I x3,.I x4,.L x5]) (fun e σ'=>some (e,σ'))=c_Z100 F x0 x1 x2 x3 x4 x5 (fun y=>some (.exit 0,SSt.mk' ⟨(.undef::.undef::.undef::.full 1000 [] (.int .i64)::uu 58 ([])),[(1000,.own (.int .i64))]⟩ [.L y])):=by kernel_rfl
theorem m_Z100_ok:∀ n,(m_Z100 (n_Z100 n)).ok Try.prog (Jk (Jh Try.f57) 3):=by
 intro n
 induction n with
 | zero=>
  intro R ds k r h
  unfold m_Z100 at h
  obtain ⟨_,_,rfl,h⟩:=Ja h
  obtain ⟨_,_,rfl,h⟩:=Ja h
  obtain ⟨_,_,rfl,h⟩:=Ja h
  obtain ⟨_,_,rfl,h⟩:=Jb h
  obtain ⟨_,_,rfl,h⟩:=Jb h
  obtain ⟨_,_,rfl,h⟩:=Ja h
  obtain ⟨rfl,hE⟩:=Je h
  obtain ⟨y,hy,hk⟩:=Jf hE
  cases hy
 | succ n ih=>
  intro R ds k r h
  unfold m_Z100 at h
  obtain ⟨_,_,rfl,h⟩:=Ja h
  obtain ⟨_,_,rfl,h⟩:=Ja h
  obtain ⟨_,_,rfl,h⟩:=Ja h
  obtain ⟨_,_,rfl,h⟩:=Jb h
  obtain ⟨_,_,rfl,h⟩:=Jb h
  obtain ⟨_,_,rfl,h⟩:=Ja h
  obtain ⟨rfl,hE⟩:=Je h
  obtain ⟨y,hy,hk⟩:=Jf hE
  exact ⟨0,_,_,_,hk,rfl,JP px (fx:=⟨Try.func57,by kernel_rfl,by kernel_rfl⟩) Jn (Jm ih (Jm e_Z99_ok Jo)) (by kernel_rfl) ((q_Z100 ..).trans ((c_Z100_bind ..).trans (Jg hy)))⟩
noncomputable def e_Z100:Jq:=m_Z100 (Z100)
theorem e_Z100_ok:(e_Z100).ok Try.prog (Jk (Jh Try.f57) 3):=by
 intro R ds k r h
 unfold e_Z100 m_Z100 at h
 obtain ⟨_,_,rfl,h⟩:=Ja h
 obtain ⟨_,_,rfl,h⟩:=Ja h
 obtain ⟨_,_,rfl,h⟩:=Ja h
 obtain ⟨_,_,rfl,h⟩:=Jb h
 obtain ⟨_,_,rfl,h⟩:=Jb h
 obtain ⟨_,_,rfl,h⟩:=Ja h
 obtain ⟨rfl,hE⟩:=Je h
 obtain ⟨y,hy,hk⟩:=Jf hE
 obtain ⟨n,hn⟩:=J5 hy
 exact m_Z100_ok n R _ k r ((Jg hn).trans hk)

/-!-/
def c_Z101 {R:Type} (x0 x1 x2:List D) (k:List D→Option R):Option R:=
 if (0:Int)≤(↑x0.length:Int)∧(↑x0.length:Int)≤(↑x0.length:Int)∧(↑x0.length:Int)≤(4294967296:Int) then
 (Z100 x0 x1 x2 (↑x0.length:Int) (0:Int) (List.replicate (↑x0.length:Int).toNat (D.int 0))).bind (fun y0=>
 k y0)
 else
 none
theorem c_Z101_bind {R:Type} (x0 x1 x2:List D) (k:List D→Option R):c_Z101 x0 x1 x2 k=(c_Z101 x0 x1 x2 some).bind k:=by
 unfold c_Z101
 repeat' first
  | exact JA
  | exact Jz
  | exact Jy
  | apply Jv
  | apply Jw
  | apply JB
  | (apply Jx;intro _)
  | intro _
def Z101 (x0 x1 x2:List D):Option (List D):=c_Z101 x0 x1 x2 some
def e_Z101:Ent:=⟨57,[.rp (.agg [.rd (.int .i64),.rd (.slice (.bool)),.rd (.slice (.bool))])],[(.own (.int .i64),[.undef])],fun _ ds k=>dL (fun x0 ds=>dL (fun x1 ds=>dL (fun x2 ds=>dE ((Z101 x0 x1 x2).bind (fun y=>k 0 [.L y])) ds) ds) ds) ds⟩
theorem q_Z101 (x0 x1 x2:List D):JX (Jr []) (Js [e_Z100]) A 57 Try.f57 (Sh.mks e_Z101.sh [.L x0,.L x1,.L x2]).1 (fun v os=>some (v,os))=c_Z101 x0 x1 x2 (fun y=>J0 e_Z101 0 [.L y]):=by kernel_rfl
theorem e_Z101_ok:e_Z101.ok Try.prog A:=by
 intro R ds k r h
 unfold e_Z101 at h
 obtain ⟨_,_,rfl,h⟩:=Ja h
 obtain ⟨_,_,rfl,h⟩:=Ja h
 obtain ⟨_,_,rfl,h⟩:=Ja h
 obtain ⟨rfl,hE⟩:=Je h
 obtain ⟨y,hy,hk⟩:=Jf hE
 exact ⟨0,_,_,_,hk,rfl,J1 px (fx:=⟨Try.func57,by kernel_rfl,by kernel_rfl⟩) Jn (Jm e_Z100_ok Jo) ((q_Z101 ..).trans ((c_Z101_bind ..).trans (Jg hy)))⟩

/-!-/
abbrev T_Z102:=List D→List D→List D→Int→Int→Int→Int→List D→List D→Option (List D×List D×List D×Int×Int×Int×Int×List D×List D)
def c_Z102 {R:Type} (F:T_Z102) (x0 x1 x2:List D) (x3 x4 x5 x6:Int) (x7 x8:List D) (k:List D×List D×List D×Int×Int×Int×Int×List D×List D→Option R):Option R:=
 bif decide ((↑x7.length:Int)≤x4) then
 if x7.length+[D.node []].length≤(4294967296:Nat) then
 (F x0 x1 x2 x3 x4 x5 x6 (x7++[D.node []]) x8).bind k
 else
 none
 else
 k (x0,x1,x2,x3,x4,x5,x6,x7,x8)
theorem c_Z102_bind {R:Type} (F:T_Z102) (x0 x1 x2:List D) (x3 x4 x5 x6:Int) (x7 x8:List D) (k:List D×List D×List D×Int×Int×Int×Int×List D×List D→Option R):c_Z102 F x0 x1 x2 x3 x4 x5 x6 x7 x8 k=(c_Z102 F x0 x1 x2 x3 x4 x5 x6 x7 x8 some).bind k:=by
 unfold c_Z102
 repeat' first
  | exact JA
  | exact Jz
  | exact Jy
  | apply Jv
  | apply Jw
  | apply JB
  | (apply Jx;intro _)
  | intro _
def n_Z102:Nat→T_Z102
 | 0,_,_,_,_,_,_,_,_,_=>none
 | n+1,x0,x1,x2,x3,x4,x5,x6,x7,x8=>c_Z102 (n_Z102 n) x0 x1 x2 x3 x4 x5 x6 x7 x8 some
noncomputable def Z102 (x0 x1 x2:List D) (x3 x4 x5 x6:Int) (x7 x8:List D):Option (List D×List D×List D×Int×Int×Int×Int×List D×List D):=ev (fun n=>n_Z102 n x0 x1 x2 x3 x4 x5 x6 x7 x8)
def m_Z102 (F:T_Z102):Jq:=⟨5,⟨(.rp (.agg [.rd (.int .i64),.rd (.slice (.bool)),.rd (.slice (.bool))])::.undef::.undef::.full 1000 [] (.slice (.int .i64))::.int .i64::.int .i64::.undef::.undef::.full 1001 [] (.int .i64)::.int .i64::.int .i64::uu 29 ([])),[(1000,.own (.slice (.int .i64))),(1001,.own (.int .i64))]⟩,[(.exit 2,⟨(.rp (.agg [.rd (.int .i64),.rd (.slice (.bool)),.rd (.slice (.bool))])::.undef::.undef::.full 1000 [] (.slice (.int .i64))::.int .i64::.int .i64::.undef::.undef::.full 1001 [] (.int .i64)::.int .i64::.int .i64::uu 29 ([])),[(1000,.own (.slice (.int .i64))),(1001,.own (.int .i64))]⟩)],fun _ ds k=>dL (fun x0 ds=>dL (fun x1 ds=>dL (fun x2 ds=>dI (fun x3 ds=>dI (fun x4 ds=>dI (fun x5 ds=>dI (fun x6 ds=>dL (fun x7 ds=>dL (fun x8 ds=>dE ((F x0 x1 x2 x3 x4 x5 x6 x7 x8).bind (fun y=>k 0 [.L y.1,.L y.2.1,.L y.2.2.1,.I y.2.2.2.1,.I y.2.2.2.2.1,.I y.2.2.2.2.2.1,.I y.2.2.2.2.2.2.1,.L y.2.2.2.2.2.2.2.1,.L y.2.2.2.2.2.2.2.2])) ds) ds) ds) ds) ds) ds) ds) ds) ds) ds⟩
theorem q_Z102 (F:T_Z102) (x0 x1 x2:List D) (x3 x4 x5 x6:Int) (x7 x8:List D):J2 (Jr []) (Js [m_Z102 F]) A 53 (Jk (Jh Try.f53) 5) ((m_Z102 F).sh.mk' [.L x0,.L x1,.L x2,.I x3,.I x4,.I x5,.I x6,.L x7,.L x8]) (fun e σ'=>some (e,σ'))=c_Z102 F x0 x1 x2 x3 x4 x5 x6 x7 x8 (fun y=>some (.exit 2,SSt.mk' ⟨(.rp (.agg [.rd (.int .i64),.rd (.slice (.bool)),.rd (.slice (.bool))])::.undef::.undef::.full 1000 [] (.slice (.int .i64))::.int .i64::.int .i64::.undef::.undef::.full 1001 [] (.int .i64)::.int .i64::.int .i64::uu 29 ([])),[(1000,.own (.slice (.int .i64))),(1001,.own (.int .i64))]⟩ [.L y.1,.L y.2.1,.L y.2.2.1,.I y.2.2.2.1,.I y.2.2.2.2.1,.I y.2.2.2.2.2.1,.I y.2.2.2.2.2.2.1,.L y.2.2.2.2.2.2.2.1,.L y.2.2.2.2.2.2.2.2])):=by kernel_rfl
theorem m_Z102_ok:∀ n,(m_Z102 (n_Z102 n)).ok Try.prog (Jk (Jh Try.f53) 5):=by
 intro n
 induction n with
 | zero=>
  intro R ds k r h
  unfold m_Z102 at h
  obtain ⟨_,_,rfl,h⟩:=Ja h
  obtain ⟨_,_,rfl,h⟩:=Ja h
  obtain ⟨_,_,rfl,h⟩:=Ja h
  obtain ⟨_,_,rfl,h⟩:=Jb h
  obtain ⟨_,_,rfl,h⟩:=Jb h
  obtain ⟨_,_,rfl,h⟩:=Jb h
  obtain ⟨_,_,rfl,h⟩:=Jb h
  obtain ⟨_,_,rfl,h⟩:=Ja h
  obtain ⟨_,_,rfl,h⟩:=Ja h
  obtain ⟨rfl,hE⟩:=Je h
  obtain ⟨y,hy,hk⟩:=Jf hE
  cases hy
 | succ n ih=>
  intro R ds k r h
  unfold m_Z102 at h
  obtain ⟨_,_,rfl,h⟩:=Ja h
  obtain ⟨_,_,rfl,h⟩:=Ja h
  obtain ⟨_,_,rfl,h⟩:=Ja h
  obtain ⟨_,_,rfl,h⟩:=Jb h
  obtain ⟨_,_,rfl,h⟩:=Jb h
  obtain ⟨_,_,rfl,h⟩:=Jb h
  obtain ⟨_,_,rfl,h⟩:=Jb h
  obtain ⟨_,_,rfl,h⟩:=Ja h
  obtain ⟨_,_,rfl,h⟩:=Ja h
  obtain ⟨rfl,hE⟩:=Je h
  obtain ⟨y,hy,hk⟩:=Jf hE
  exact ⟨0,_,_,_,hk,rfl,JP px (fx:=⟨Try.func53,by kernel_rfl,by kernel_rfl⟩) Jn (Jm ih Jo) (by kernel_rfl) ((q_Z102 ..).trans ((c_Z102_bind ..).trans (Jg hy)))⟩
noncomputable def e_Z102:Jq:=m_Z102 (Z102)
theorem e_Z102_ok:(e_Z102).ok Try.prog (Jk (Jh Try.f53) 5):=by
 intro R ds k r h
 unfold e_Z102 m_Z102 at h
 obtain ⟨_,_,rfl,h⟩:=Ja h
 obtain ⟨_,_,rfl,h⟩:=Ja h
 obtain ⟨_,_,rfl,h⟩:=Ja h
 obtain ⟨_,_,rfl,h⟩:=Jb h
 obtain ⟨_,_,rfl,h⟩:=Jb h
 obtain ⟨_,_,rfl,h⟩:=Jb h
 obtain ⟨_,_,rfl,h⟩:=Jb h
 obtain ⟨_,_,rfl,h⟩:=Ja h
 obtain ⟨_,_,rfl,h⟩:=Ja h
 obtain ⟨rfl,hE⟩:=Je h
 obtain ⟨y,hy,hk⟩:=Jf hE
 obtain ⟨n,hn⟩:=J5 hy
 exact m_Z102_ok n R _ k r ((Jg hn).trans hk)

/-!-/
abbrev T_Z103:=List D→List D→List D→Int→Int→List D→List D→Option (List D)
def c_Z103 {R:Type} (F:T_Z103) (x0 x1 x2:List D) (x3 x4:Int) (x5 x6:List D) (k:List D→Option R):Option R:=
 bif decide (x4<x3) then
 if 0≤x4∧x4<(↑x6.length:Int) then
 if x4.toNat+1≤x6.length then
 (Z102 x0 x1 x2 x4 ((x6.getD x4.toNat (D.int 0)).toInt) x3 x4 x5 x6).bind (fun y0=>
 if 0≤y0.snd.snd.snd.snd.fst∧y0.snd.snd.snd.snd.fst<(↑y0.snd.snd.snd.snd.snd.snd.snd.fst.length:Int) then
 if y0.snd.snd.snd.snd.fst.toNat+1≤y0.snd.snd.snd.snd.snd.snd.snd.fst.length then
 if 0≤y0.snd.snd.snd.fst∧y0.snd.snd.snd.fst<(↑y0.fst.length:Int) then
 if y0.snd.snd.snd.snd.fst.toNat+1≤y0.snd.snd.snd.snd.snd.snd.snd.fst.length then
 if (y0.snd.snd.snd.snd.snd.snd.snd.fst.getD y0.snd.snd.snd.snd.fst.toNat (D.int 0)).items.length+[D.int (y0.fst.getD y0.snd.snd.snd.fst.toNat (D.int 0)).toInt].length≤(4294967296:Nat) then
 if 0≤y0.snd.snd.snd.snd.fst∧y0.snd.snd.snd.snd.fst<(↑y0.snd.snd.snd.snd.snd.snd.snd.fst.length:Int) then
 if y0.snd.snd.snd.snd.fst.toNat≤y0.snd.snd.snd.snd.fst.toNat then
 if y0.snd.snd.snd.snd.fst.toNat≤y0.snd.snd.snd.snd.fst.toNat then
 (F y0.fst y0.snd.fst y0.snd.snd.fst y0.snd.snd.snd.snd.snd.fst (IntKind.i64.wrap (y0.snd.snd.snd.snd.snd.snd.fst+1)) (y0.snd.snd.snd.snd.snd.snd.snd.fst.set y0.snd.snd.snd.snd.fst.toNat (D.node ((y0.snd.snd.snd.snd.snd.snd.snd.fst.getD y0.snd.snd.snd.snd.fst.toNat (D.int 0)).items++[D.int (y0.fst.getD y0.snd.snd.snd.fst.toNat (D.int 0)).toInt]))) y0.snd.snd.snd.snd.snd.snd.snd.snd).bind k
 else
 none
 else
 none
 else
 none
 else
 none
 else
 none
 else
 none
 else
 none
 else
 none)
 else
 none
 else
 none
 else
 k x5
theorem c_Z103_bind {R:Type} (F:T_Z103) (x0 x1 x2:List D) (x3 x4:Int) (x5 x6:List D) (k:List D→Option R):c_Z103 F x0 x1 x2 x3 x4 x5 x6 k=(c_Z103 F x0 x1 x2 x3 x4 x5 x6 some).bind k:=by
 unfold c_Z103
 repeat' first
  | exact JA
  | exact Jz
  | exact Jy
  | apply Jv
  | apply Jw
  | apply JB
  | (apply Jx;intro _)
  | intro _
def n_Z103:Nat→T_Z103
 | 0,_,_,_,_,_,_,_=>none
 | n+1,x0,x1,x2,x3,x4,x5,x6=>c_Z103 (n_Z103 n) x0 x1 x2 x3 x4 x5 x6 some
noncomputable def Z103 (x0 x1 x2:List D) (x3 x4:Int) (x5 x6:List D):Option (List D):=ev (fun n=>n_Z103 n x0 x1 x2 x3 x4 x5 x6)
def m_Z103 (F:T_Z103):Jq:=⟨3,⟨(.rp (.agg [.rd (.int .i64),.rd (.slice (.bool)),.rd (.slice (.bool))])::.undef::.undef::.full 1000 [] (.slice (.int .i64))::uu 4 (.full 1001 [] (.int .i64)::.int .i64::.int .i64::uu 29 ([]))),[(1000,.own (.slice (.int .i64))),(1001,.own (.int .i64))]⟩,[(.exit 0,⟨(.undef::.undef::.undef::.full 1000 [] (.slice (.int .i64))::uu 36 ([])),[(1000,.own (.slice (.int .i64)))]⟩)],fun _ ds k=>dL (fun x0 ds=>dL (fun x1 ds=>dL (fun x2 ds=>dI (fun x3 ds=>dI (fun x4 ds=>dL (fun x5 ds=>dL (fun x6 ds=>dE ((F x0 x1 x2 x3 x4 x5 x6).bind (fun y=>k 0 [.L y])) ds) ds) ds) ds) ds) ds) ds) ds⟩
theorem q_Z103 (F:T_Z103) (x0 x1 x2:List D) (x3 x4:Int) (x5 x6:List D):J2 (Jr []) (Js [m_Z103 F,e_Z102]) A 53 (Jk (Jh Try.f53) 3) ((m_Z103 F).sh.mk' [.L x0,.L x1,.L x2,.I x3,.I x4,.L x5,.L x6]) (fun e σ'=>some (e,σ'))=c_Z103 F x0 x1 x2 x3 x4 x5 x6 (fun y=>some (.exit 0,SSt.mk' ⟨(.undef::.undef::.undef::.full 1000 [] (.slice (.int .i64))::uu 36 ([])),[(1000,.own (.slice (.int .i64)))]⟩ [.L y])):=by kernel_rfl
theorem m_Z103_ok:∀ n,(m_Z103 (n_Z103 n)).ok Try.prog (Jk (Jh Try.f53) 3):=by
 intro n
 induction n with
 | zero=>
  intro R ds k r h
  unfold m_Z103 at h
  obtain ⟨_,_,rfl,h⟩:=Ja h
  obtain ⟨_,_,rfl,h⟩:=Ja h
  obtain ⟨_,_,rfl,h⟩:=Ja h
  obtain ⟨_,_,rfl,h⟩:=Jb h
  obtain ⟨_,_,rfl,h⟩:=Jb h
  obtain ⟨_,_,rfl,h⟩:=Ja h
  obtain ⟨_,_,rfl,h⟩:=Ja h
  obtain ⟨rfl,hE⟩:=Je h
  obtain ⟨y,hy,hk⟩:=Jf hE
  cases hy
 | succ n ih=>
  intro R ds k r h
  unfold m_Z103 at h
  obtain ⟨_,_,rfl,h⟩:=Ja h
  obtain ⟨_,_,rfl,h⟩:=Ja h
  obtain ⟨_,_,rfl,h⟩:=Ja h
  obtain ⟨_,_,rfl,h⟩:=Jb h
  obtain ⟨_,_,rfl,h⟩:=Jb h
  obtain ⟨_,_,rfl,h⟩:=Ja h
  obtain ⟨_,_,rfl,h⟩:=Ja h
  obtain ⟨rfl,hE⟩:=Je h
  obtain ⟨y,hy,hk⟩:=Jf hE
  exact ⟨0,_,_,_,hk,rfl,JP px (fx:=⟨Try.func53,by kernel_rfl,by kernel_rfl⟩) Jn (Jm ih (Jm e_Z102_ok Jo)) (by kernel_rfl) ((q_Z103 ..).trans ((c_Z103_bind ..).trans (Jg hy)))⟩
noncomputable def e_Z103:Jq:=m_Z103 (Z103)
theorem e_Z103_ok:(e_Z103).ok Try.prog (Jk (Jh Try.f53) 3):=by
 intro R ds k r h
 unfold e_Z103 m_Z103 at h
 obtain ⟨_,_,rfl,h⟩:=Ja h
 obtain ⟨_,_,rfl,h⟩:=Ja h
 obtain ⟨_,_,rfl,h⟩:=Ja h
 obtain ⟨_,_,rfl,h⟩:=Jb h
 obtain ⟨_,_,rfl,h⟩:=Jb h
 obtain ⟨_,_,rfl,h⟩:=Ja h
 obtain ⟨_,_,rfl,h⟩:=Ja h
 obtain ⟨rfl,hE⟩:=Je h
 obtain ⟨y,hy,hk⟩:=Jf hE
 obtain ⟨n,hn⟩:=J5 hy
 exact m_Z103_ok n R _ k r ((Jg hn).trans hk)

/-!-/
def c_Z104 {R:Type} (x0 x1 x2:List D) (k:List D→Option R):Option R:=
 (Z101 x0 x1 x2).bind (fun y0=>
 (Z103 x0 x1 x2 (↑y0.length:Int) (0:Int) [] y0).bind (fun y1=>
 k y1))
theorem c_Z104_bind {R:Type} (x0 x1 x2:List D) (k:List D→Option R):c_Z104 x0 x1 x2 k=(c_Z104 x0 x1 x2 some).bind k:=by
 unfold c_Z104
 repeat' first
  | exact JA
  | exact Jz
  | exact Jy
  | apply Jv
  | apply Jw
  | apply JB
  | (apply Jx;intro _)
  | intro _
def Z104 (x0 x1 x2:List D):Option (List D):=c_Z104 x0 x1 x2 some
def e_Z104:Ent:=⟨53,[.rp (.agg [.rd (.int .i64),.rd (.slice (.bool)),.rd (.slice (.bool))])],[(.own (.slice (.int .i64)),[.undef])],fun _ ds k=>dL (fun x0 ds=>dL (fun x1 ds=>dL (fun x2 ds=>dE ((Z104 x0 x1 x2).bind (fun y=>k 0 [.L y])) ds) ds) ds) ds⟩
theorem q_Z104 (x0 x1 x2:List D):JX (Jr [e_Z101]) (Js [e_Z103]) A 53 Try.f53 (Sh.mks e_Z104.sh [.L x0,.L x1,.L x2]).1 (fun v os=>some (v,os))=c_Z104 x0 x1 x2 (fun y=>J0 e_Z104 0 [.L y]):=by kernel_rfl
theorem e_Z104_ok:e_Z104.ok Try.prog A:=by
 intro R ds k r h
 unfold e_Z104 at h
 obtain ⟨_,_,rfl,h⟩:=Ja h
 obtain ⟨_,_,rfl,h⟩:=Ja h
 obtain ⟨_,_,rfl,h⟩:=Ja h
 obtain ⟨rfl,hE⟩:=Je h
 obtain ⟨y,hy,hk⟩:=Jf hE
 exact ⟨0,_,_,_,hk,rfl,J1 px (fx:=⟨Try.func53,by kernel_rfl,by kernel_rfl⟩) (Jt e_Z101_ok Jn) (Jm e_Z103_ok Jo) ((q_Z104 ..).trans ((c_Z104_bind ..).trans (Jg hy)))⟩

/-!-/
def c_Z105 {R:Type} (x0 x1:List D) (k:List D×Bool→Option R):Option R:=
 (Z66 x0 x1).bind (Sum.elim (fun y0=>
 bif !y0 then
 k ([],Bool.false)
 else
 (Z97 ).bind (fun y1=>
 k (y1,Bool.true))) (fun y2=>
 bif !y2.snd.snd.snd then
 k ([],Bool.false)
 else
 (Z104 y2.fst y2.snd.fst y2.snd.snd.fst).bind (fun y3=>
 k (y3,Bool.true))))
theorem c_Z105_bind {R:Type} (x0 x1:List D) (k:List D×Bool→Option R):c_Z105 x0 x1 k=(c_Z105 x0 x1 some).bind k:=by
 unfold c_Z105
 repeat' first
  | exact JA
  | exact Jz
  | exact Jy
  | apply Jv
  | apply Jw
  | apply JB
  | (apply Jx;intro _)
  | intro _
def Z105 (x0 x1:List D):Option (List D×Bool):=c_Z105 x0 x1 some
def e_Z105:Ent:=⟨13,[.agg [.rd (.struct [.int .i64,.int .i64]),.rd (.struct [.int .i64,.int .i64])]],[(.tup [.own (.slice (.int .i64)),.bool],[.undef])],fun _ ds k=>dL (fun x0 ds=>dL (fun x1 ds=>dE ((Z105 x0 x1).bind (fun y=>k 0 [.L y.1,.B y.2])) ds) ds) ds⟩
theorem q_Z105 (x0 x1:List D):JX (Jr [e_Z66,e_Z97,e_Z104]) (Js []) A 13 Try.f13 (Sh.mks e_Z105.sh [.L x0,.L x1]).1 (fun v os=>some (v,os))=c_Z105 x0 x1 (fun y=>J0 e_Z105 0 [.L y.1,.B y.2]):=by kernel_rfl
theorem e_Z105_ok:e_Z105.ok Try.prog A:=by
 intro R ds k r h
 unfold e_Z105 at h
 obtain ⟨_,_,rfl,h⟩:=Ja h
 obtain ⟨_,_,rfl,h⟩:=Ja h
 obtain ⟨rfl,hE⟩:=Je h
 obtain ⟨y,hy,hk⟩:=Jf hE
 exact ⟨0,_,_,_,hk,rfl,J1 px (fx:=⟨Try.func13,by kernel_rfl,by kernel_rfl⟩) (Jt e_Z66_ok (Jt e_Z97_ok (Jt e_Z104_ok Jn))) Jo ((q_Z105 ..).trans ((c_Z105_bind ..).trans (Jg hy)))⟩

/-!-/
abbrev T_Z106:=Int→Int→Int→Int→Int→Int→Int→Int→List D→List D→List D→List D→Option (Int×Int×Int×Int×Int×List D×List D×List D×List D)
def c_Z106 {R:Type} (F:T_Z106) (x0 x1 x2 x3 x4 x5 x6 x7:Int) (x8 x9 x10 x11:List D) (k:Int×Int×Int×Int×Int×List D×List D×List D×List D→Option R):Option R:=
 bif decide (x7<x6) then
 if 0≤x1∧x1<(↑x9.length:Int) then
 if x1.toNat+1≤x9.length then
 if x1.toNat+1≤x9.length then
 if 0≤x7∧x7<(↑(x9.getD x1.toNat (D.int 0)).items.length:Int) then
 if x1.toNat+1≤x9.length then
 if x7.toNat+1≤(x9.getD x1.toNat (D.int 0)).items.length then
 bif ((x9.getD x1.toNat (D.int 0)).items.getD x7.toNat (D.int 0)).toBool then
 if 0≤x1∧x1<(↑x11.length:Int) then
 if x1.toNat+1≤x11.length then
 if 0≤x7∧x7<(↑x11.length:Int) then
 if x7.toNat+1≤x11.length then
 if 0≤x1∧x1<(↑x11.length:Int) then
 if x1.toNat+1≤x11.length then
 (F x0 x1 x2 x3 x4 x5 x6 (IntKind.i64.wrap (x7+1)) x8 x9 x10 (x11.set x1.toNat (D.int (if IntKind.i64.wrap ((x11.getD x7.toNat (D.int 0)).toInt+(1:Int)) > (x11.getD x1.toNat (D.int 0)).toInt then IntKind.i64.wrap ((x11.getD x7.toNat (D.int 0)).toInt+(1:Int)) else (x11.getD x1.toNat (D.int 0)).toInt)))).bind k
 else
 none
 else
 none
 else
 none
 else
 none
 else
 none
 else
 none
 else
 (F x0 x1 x2 x3 x4 x5 x6 (IntKind.i64.wrap (x7+1)) x8 x9 x10 x11).bind k
 else
 none
 else
 none
 else
 none
 else
 none
 else
 none
 else
 none
 else
 k (x0,x2,x3,x4,x5,x8,x9,x10,x11)
theorem c_Z106_bind {R:Type} (F:T_Z106) (x0 x1 x2 x3 x4 x5 x6 x7:Int) (x8 x9 x10 x11:List D) (k:Int×Int×Int×Int×Int×List D×List D×List D×List D→Option R):c_Z106 F x0 x1 x2 x3 x4 x5 x6 x7 x8 x9 x10 x11 k=(c_Z106 F x0 x1 x2 x3 x4 x5 x6 x7 x8 x9 x10 x11 some).bind k:=by
 unfold c_Z106
 repeat' first
  | exact JA
  | exact Jz
  | exact Jy
  | apply Jv
  | apply Jw
  | apply JB
  | (apply Jx;intro _)
  | intro _
def n_Z106:Nat→T_Z106
 | 0,_,_,_,_,_,_,_,_,_,_,_,_=>none
 | n+1,x0,x1,x2,x3,x4,x5,x6,x7,x8,x9,x10,x11=>c_Z106 (n_Z106 n) x0 x1 x2 x3 x4 x5 x6 x7 x8 x9 x10 x11 some
noncomputable def Z106 (x0 x1 x2 x3 x4 x5 x6 x7:Int) (x8 x9 x10 x11:List D):Option (Int×Int×Int×Int×Int×List D×List D×List D×List D):=ev (fun n=>n_Z106 n x0 x1 x2 x3 x4 x5 x6 x7 x8 x9 x10 x11)
def m_Z106 (F:T_Z106):Jq:=⟨12,⟨(uu 4 (.ptr 1000 [0]::.undef::.int .i64::.full 1001 [] (.int .i64)::.int .i64::uu 18 (.int .i64::.int .i64::.undef::.int .i64::.int .i64::.undef::.undef::.int .i64::.int .i64::uu 90 ([])))),[(1000,.obox (.agg [.own (.int .i64),.own (.slice (.bool)),.own (.slice (.bool))])),(1001,.own (.int .i64))]⟩,[(.exit 4,⟨(uu 4 (.ptr 1000 [0]::.undef::.int .i64::.full 1001 [] (.int .i64)::uu 19 (.int .i64::.int .i64::.undef::.int .i64::.int .i64::uu 94 ([])))),[(1000,.obox (.agg [.own (.int .i64),.own (.slice (.bool)),.own (.slice (.bool))])),(1001,.own (.int .i64))]⟩)],fun _ ds k=>dI (fun x0 ds=>dI (fun x1 ds=>dI (fun x2 ds=>dI (fun x3 ds=>dI (fun x4 ds=>dI (fun x5 ds=>dI (fun x6 ds=>dI (fun x7 ds=>dL (fun x8 ds=>dL (fun x9 ds=>dL (fun x10 ds=>dL (fun x11 ds=>dE ((F x0 x1 x2 x3 x4 x5 x6 x7 x8 x9 x10 x11).bind (fun y=>k 0 [.I y.1,.I y.2.1,.I y.2.2.1,.I y.2.2.2.1,.I y.2.2.2.2.1,.L y.2.2.2.2.2.1,.L y.2.2.2.2.2.2.1,.L y.2.2.2.2.2.2.2.1,.L y.2.2.2.2.2.2.2.2])) ds) ds) ds) ds) ds) ds) ds) ds) ds) ds) ds) ds) ds⟩
theorem q_Z106 (F:T_Z106) (x0 x1 x2 x3 x4 x5 x6 x7:Int) (x8 x9 x10 x11:List D):J2 (Jr []) (Js [m_Z106 F]) A 14 (Jk (Jh Try.f14) 12) ((m_Z106 F).sh.mk' [.I x0,.I x1,.I x2,.I x3,.I x4,.I x5,.I x6,.I x7,.L x8,.L x9,.L x10,.L x11]) (fun e σ'=>some (e,σ'))=c_Z106 F x0 x1 x2 x3 x4 x5 x6 x7 x8 x9 x10 x11 (fun y=>some (.exit 4,SSt.mk' ⟨(uu 4 (.ptr 1000 [0]::.undef::.int .i64::.full 1001 [] (.int .i64)::uu 19 (.int .i64::.int .i64::.undef::.int .i64::.int .i64::uu 94 ([])))),[(1000,.obox (.agg [.own (.int .i64),.own (.slice (.bool)),.own (.slice (.bool))])),(1001,.own (.int .i64))]⟩ [.I y.1,.I y.2.1,.I y.2.2.1,.I y.2.2.2.1,.I y.2.2.2.2.1,.L y.2.2.2.2.2.1,.L y.2.2.2.2.2.2.1,.L y.2.2.2.2.2.2.2.1,.L y.2.2.2.2.2.2.2.2])):=by kernel_rfl
theorem m_Z106_ok:∀ n,(m_Z106 (n_Z106 n)).ok Try.prog (Jk (Jh Try.f14) 12):=by
 intro n
 induction n with
 | zero=>
  intro R ds k r h
  unfold m_Z106 at h
  obtain ⟨_,_,rfl,h⟩:=Jb h
  obtain ⟨_,_,rfl,h⟩:=Jb h
  obtain ⟨_,_,rfl,h⟩:=Jb h
  obtain ⟨_,_,rfl,h⟩:=Jb h
  obtain ⟨_,_,rfl,h⟩:=Jb h
  obtain ⟨_,_,rfl,h⟩:=Jb h
  obtain ⟨_,_,rfl,h⟩:=Jb h
  obtain ⟨_,_,rfl,h⟩:=Jb h
  obtain ⟨_,_,rfl,h⟩:=Ja h
  obtain ⟨_,_,rfl,h⟩:=Ja h
  obtain ⟨_,_,rfl,h⟩:=Ja h
  obtain ⟨_,_,rfl,h⟩:=Ja h
  obtain ⟨rfl,hE⟩:=Je h
  obtain ⟨y,hy,hk⟩:=Jf hE
  cases hy
 | succ n ih=>
  intro R ds k r h
  unfold m_Z106 at h
  obtain ⟨_,_,rfl,h⟩:=Jb h
  obtain ⟨_,_,rfl,h⟩:=Jb h
  obtain ⟨_,_,rfl,h⟩:=Jb h
  obtain ⟨_,_,rfl,h⟩:=Jb h
  obtain ⟨_,_,rfl,h⟩:=Jb h
  obtain ⟨_,_,rfl,h⟩:=Jb h
  obtain ⟨_,_,rfl,h⟩:=Jb h
  obtain ⟨_,_,rfl,h⟩:=Jb h
  obtain ⟨_,_,rfl,h⟩:=Ja h
  obtain ⟨_,_,rfl,h⟩:=Ja h
  obtain ⟨_,_,rfl,h⟩:=Ja h
  obtain ⟨_,_,rfl,h⟩:=Ja h
  obtain ⟨rfl,hE⟩:=Je h
  obtain ⟨y,hy,hk⟩:=Jf hE
  exact ⟨0,_,_,_,hk,rfl,JP px (fx:=⟨Try.func14,by kernel_rfl,by kernel_rfl⟩) Jn (Jm ih Jo) (by kernel_rfl) ((q_Z106 ..).trans ((c_Z106_bind ..).trans (Jg hy)))⟩
noncomputable def e_Z106:Jq:=m_Z106 (Z106)
theorem e_Z106_ok:(e_Z106).ok Try.prog (Jk (Jh Try.f14) 12):=by
 intro R ds k r h
 unfold e_Z106 m_Z106 at h
 obtain ⟨_,_,rfl,h⟩:=Jb h
 obtain ⟨_,_,rfl,h⟩:=Jb h
 obtain ⟨_,_,rfl,h⟩:=Jb h
 obtain ⟨_,_,rfl,h⟩:=Jb h
 obtain ⟨_,_,rfl,h⟩:=Jb h
 obtain ⟨_,_,rfl,h⟩:=Jb h
 obtain ⟨_,_,rfl,h⟩:=Jb h
 obtain ⟨_,_,rfl,h⟩:=Jb h
 obtain ⟨_,_,rfl,h⟩:=Ja h
 obtain ⟨_,_,rfl,h⟩:=Ja h
 obtain ⟨_,_,rfl,h⟩:=Ja h
 obtain ⟨_,_,rfl,h⟩:=Ja h
 obtain ⟨rfl,hE⟩:=Je h
 obtain ⟨y,hy,hk⟩:=Jf hE
 obtain ⟨n,hn⟩:=J5 hy
 exact m_Z106_ok n R _ k r ((Jg hn).trans hk)

/-!-/
abbrev T_Z107:=Int→Int→Int→Int→Int→List D→List D→List D→List D→Option (Int×Int×Int×List D×List D×List D×List D)
def c_Z107 {R:Type} (F:T_Z107) (x0 x1 x2 x3 x4:Int) (x5 x6 x7 x8:List D) (k:Int×Int×Int×List D×List D×List D×List D→Option R):Option R:=
 bif decide (x4<x3) then
 (Z106 x0 x4 x1 x2 x3 x4 x0 (0:Int) x5 x6 x7 x8).bind (fun y0=>
 (F y0.fst y0.snd.fst y0.snd.snd.fst y0.snd.snd.snd.fst (IntKind.i64.wrap (y0.snd.snd.snd.snd.fst+1)) y0.snd.snd.snd.snd.snd.fst y0.snd.snd.snd.snd.snd.snd.fst y0.snd.snd.snd.snd.snd.snd.snd.fst y0.snd.snd.snd.snd.snd.snd.snd.snd).bind k)
 else
 k (x0,x1,x2,x5,x6,x7,x8)
theorem c_Z107_bind {R:Type} (F:T_Z107) (x0 x1 x2 x3 x4:Int) (x5 x6 x7 x8:List D) (k:Int×Int×Int×List D×List D×List D×List D→Option R):c_Z107 F x0 x1 x2 x3 x4 x5 x6 x7 x8 k=(c_Z107 F x0 x1 x2 x3 x4 x5 x6 x7 x8 some).bind k:=by
 unfold c_Z107
 repeat' first
  | exact JA
  | exact Jz
  | exact Jy
  | apply Jv
  | apply Jw
  | apply JB
  | (apply Jx;intro _)
  | intro _
def n_Z107:Nat→T_Z107
 | 0,_,_,_,_,_,_,_,_,_=>none
 | n+1,x0,x1,x2,x3,x4,x5,x6,x7,x8=>c_Z107 (n_Z107 n) x0 x1 x2 x3 x4 x5 x6 x7 x8 some
noncomputable def Z107 (x0 x1 x2 x3 x4:Int) (x5 x6 x7 x8:List D):Option (Int×Int×Int×List D×List D×List D×List D):=ev (fun n=>n_Z107 n x0 x1 x2 x3 x4 x5 x6 x7 x8)
def m_Z107 (F:T_Z107):Jq:=⟨9,⟨(uu 4 (.ptr 1000 [0]::.undef::.int .i64::.full 1001 [] (.int .i64)::uu 19 (.int .i64::.int .i64::.undef::.int .i64::.int .i64::uu 94 ([])))),[(1000,.obox (.agg [.own (.int .i64),.own (.slice (.bool)),.own (.slice (.bool))])),(1001,.own (.int .i64))]⟩,[(.exit 2,⟨(uu 4 (.ptr 1000 [0]::.undef::.int .i64::.full 1001 [] (.int .i64)::uu 19 (.int .i64::.int .i64::uu 97 ([])))),[(1000,.obox (.agg [.own (.int .i64),.own (.slice (.bool)),.own (.slice (.bool))])),(1001,.own (.int .i64))]⟩)],fun _ ds k=>dI (fun x0 ds=>dI (fun x1 ds=>dI (fun x2 ds=>dI (fun x3 ds=>dI (fun x4 ds=>dL (fun x5 ds=>dL (fun x6 ds=>dL (fun x7 ds=>dL (fun x8 ds=>dE ((F x0 x1 x2 x3 x4 x5 x6 x7 x8).bind (fun y=>k 0 [.I y.1,.I y.2.1,.I y.2.2.1,.L y.2.2.2.1,.L y.2.2.2.2.1,.L y.2.2.2.2.2.1,.L y.2.2.2.2.2.2])) ds) ds) ds) ds) ds) ds) ds) ds) ds) ds⟩
theorem q_Z107 (F:T_Z107) (x0 x1 x2 x3 x4:Int) (x5 x6 x7 x8:List D):J2 (Jr []) (Js [m_Z107 F,e_Z106]) A 14 (Jk (Jh Try.f14) 9) ((m_Z107 F).sh.mk' [.I x0,.I x1,.I x2,.I x3,.I x4,.L x5,.L x6,.L x7,.L x8]) (fun e σ'=>some (e,σ'))=c_Z107 F x0 x1 x2 x3 x4 x5 x6 x7 x8 (fun y=>some (.exit 2,SSt.mk' ⟨(uu 4 (.ptr 1000 [0]::.undef::.int .i64::.full 1001 [] (.int .i64)::uu 19 (.int .i64::.int .i64::uu 97 ([])))),[(1000,.obox (.agg [.own (.int .i64),.own (.slice (.bool)),.own (.slice (.bool))])),(1001,.own (.int .i64))]⟩ [.I y.1,.I y.2.1,.I y.2.2.1,.L y.2.2.2.1,.L y.2.2.2.2.1,.L y.2.2.2.2.2.1,.L y.2.2.2.2.2.2])):=by kernel_rfl
theorem m_Z107_ok:∀ n,(m_Z107 (n_Z107 n)).ok Try.prog (Jk (Jh Try.f14) 9):=by
 intro n
 induction n with
 | zero=>
  intro R ds k r h
  unfold m_Z107 at h
  obtain ⟨_,_,rfl,h⟩:=Jb h
  obtain ⟨_,_,rfl,h⟩:=Jb h
  obtain ⟨_,_,rfl,h⟩:=Jb h
  obtain ⟨_,_,rfl,h⟩:=Jb h
  obtain ⟨_,_,rfl,h⟩:=Jb h
  obtain ⟨_,_,rfl,h⟩:=Ja h
  obtain ⟨_,_,rfl,h⟩:=Ja h
  obtain ⟨_,_,rfl,h⟩:=Ja h
  obtain ⟨_,_,rfl,h⟩:=Ja h
  obtain ⟨rfl,hE⟩:=Je h
  obtain ⟨y,hy,hk⟩:=Jf hE
  cases hy
 | succ n ih=>
  intro R ds k r h
  unfold m_Z107 at h
  obtain ⟨_,_,rfl,h⟩:=Jb h
  obtain ⟨_,_,rfl,h⟩:=Jb h
  obtain ⟨_,_,rfl,h⟩:=Jb h
  obtain ⟨_,_,rfl,h⟩:=Jb h
  obtain ⟨_,_,rfl,h⟩:=Jb h
  obtain ⟨_,_,rfl,h⟩:=Ja h
  obtain ⟨_,_,rfl,h⟩:=Ja h
  obtain ⟨_,_,rfl,h⟩:=Ja h
  obtain ⟨_,_,rfl,h⟩:=Ja h
  obtain ⟨rfl,hE⟩:=Je h
  obtain ⟨y,hy,hk⟩:=Jf hE
  exact ⟨0,_,_,_,hk,rfl,JP px (fx:=⟨Try.func14,by kernel_rfl,by kernel_rfl⟩) Jn (Jm ih (Jm e_Z106_ok Jo)) (by kernel_rfl) ((q_Z107 ..).trans ((c_Z107_bind ..).trans (Jg hy)))⟩
noncomputable def e_Z107:Jq:=m_Z107 (Z107)
theorem e_Z107_ok:(e_Z107).ok Try.prog (Jk (Jh Try.f14) 9):=by
 intro R ds k r h
 unfold e_Z107 m_Z107 at h
 obtain ⟨_,_,rfl,h⟩:=Jb h
 obtain ⟨_,_,rfl,h⟩:=Jb h
 obtain ⟨_,_,rfl,h⟩:=Jb h
 obtain ⟨_,_,rfl,h⟩:=Jb h
 obtain ⟨_,_,rfl,h⟩:=Jb h
 obtain ⟨_,_,rfl,h⟩:=Ja h
 obtain ⟨_,_,rfl,h⟩:=Ja h
 obtain ⟨_,_,rfl,h⟩:=Ja h
 obtain ⟨_,_,rfl,h⟩:=Ja h
 obtain ⟨rfl,hE⟩:=Je h
 obtain ⟨y,hy,hk⟩:=Jf hE
 obtain ⟨n,hn⟩:=J5 hy
 exact m_Z107_ok n R _ k r ((Jg hn).trans hk)

/-!-/
abbrev T_Z108:=Int→Int→Int→List D→List D→List D→List D→Option (Int×List D×List D×List D×List D)
def c_Z108 {R:Type} (F:T_Z108) (x0 x1 x2:Int) (x3 x4 x5 x6:List D) (k:Int×List D×List D×List D×List D→Option R):Option R:=
 bif decide (x2<x1) then
 (Z107 x0 x1 x2 x0 (0:Int) x3 x4 x5 x6).bind (fun y0=>
 (F y0.fst y0.snd.fst (IntKind.i64.wrap (y0.snd.snd.fst+1)) y0.snd.snd.snd.fst y0.snd.snd.snd.snd.fst y0.snd.snd.snd.snd.snd.fst y0.snd.snd.snd.snd.snd.snd).bind k)
 else
 k (x0,x3,x4,x5,x6)
theorem c_Z108_bind {R:Type} (F:T_Z108) (x0 x1 x2:Int) (x3 x4 x5 x6:List D) (k:Int×List D×List D×List D×List D→Option R):c_Z108 F x0 x1 x2 x3 x4 x5 x6 k=(c_Z108 F x0 x1 x2 x3 x4 x5 x6 some).bind k:=by
 unfold c_Z108
 repeat' first
  | exact JA
  | exact Jz
  | exact Jy
  | apply Jv
  | apply Jw
  | apply JB
  | (apply Jx;intro _)
  | intro _
def n_Z108:Nat→T_Z108
 | 0,_,_,_,_,_,_,_=>none
 | n+1,x0,x1,x2,x3,x4,x5,x6=>c_Z108 (n_Z108 n) x0 x1 x2 x3 x4 x5 x6 some
noncomputable def Z108 (x0 x1 x2:Int) (x3 x4 x5 x6:List D):Option (Int×List D×List D×List D×List D):=ev (fun n=>n_Z108 n x0 x1 x2 x3 x4 x5 x6)
def m_Z108 (F:T_Z108):Jq:=⟨7,⟨(uu 4 (.ptr 1000 [0]::.undef::.int .i64::.full 1001 [] (.int .i64)::uu 19 (.int .i64::.int .i64::uu 97 ([])))),[(1000,.obox (.agg [.own (.int .i64),.own (.slice (.bool)),.own (.slice (.bool))])),(1001,.own (.int .i64))]⟩,[(.exit 0,⟨(uu 4 (.ptr 1000 [0]::.undef::.int .i64::.full 1001 [] (.int .i64)::uu 118 ([]))),[(1000,.obox (.agg [.own (.int .i64),.own (.slice (.bool)),.own (.slice (.bool))])),(1001,.own (.int .i64))]⟩)],fun _ ds k=>dI (fun x0 ds=>dI (fun x1 ds=>dI (fun x2 ds=>dL (fun x3 ds=>dL (fun x4 ds=>dL (fun x5 ds=>dL (fun x6 ds=>dE ((F x0 x1 x2 x3 x4 x5 x6).bind (fun y=>k 0 [.I y.1,.L y.2.1,.L y.2.2.1,.L y.2.2.2.1,.L y.2.2.2.2])) ds) ds) ds) ds) ds) ds) ds) ds⟩
theorem q_Z108 (F:T_Z108) (x0 x1 x2:Int) (x3 x4 x5 x6:List D):J2 (Jr []) (Js [m_Z108 F,e_Z107]) A 14 (Jk (Jh Try.f14) 7) ((m_Z108 F).sh.mk' [.I x0,.I x1,.I x2,.L x3,.L x4,.L x5,.L x6]) (fun e σ'=>some (e,σ'))=c_Z108 F x0 x1 x2 x3 x4 x5 x6 (fun y=>some (.exit 0,SSt.mk' ⟨(uu 4 (.ptr 1000 [0]::.undef::.int .i64::.full 1001 [] (.int .i64)::uu 118 ([]))),[(1000,.obox (.agg [.own (.int .i64),.own (.slice (.bool)),.own (.slice (.bool))])),(1001,.own (.int .i64))]⟩ [.I y.1,.L y.2.1,.L y.2.2.1,.L y.2.2.2.1,.L y.2.2.2.2])):=by kernel_rfl
theorem m_Z108_ok:∀ n,(m_Z108 (n_Z108 n)).ok Try.prog (Jk (Jh Try.f14) 7):=by
 intro n
 induction n with
 | zero=>
  intro R ds k r h
  unfold m_Z108 at h
  obtain ⟨_,_,rfl,h⟩:=Jb h
  obtain ⟨_,_,rfl,h⟩:=Jb h
  obtain ⟨_,_,rfl,h⟩:=Jb h
  obtain ⟨_,_,rfl,h⟩:=Ja h
  obtain ⟨_,_,rfl,h⟩:=Ja h
  obtain ⟨_,_,rfl,h⟩:=Ja h
  obtain ⟨_,_,rfl,h⟩:=Ja h
  obtain ⟨rfl,hE⟩:=Je h
  obtain ⟨y,hy,hk⟩:=Jf hE
  cases hy
 | succ n ih=>
  intro R ds k r h
  unfold m_Z108 at h
  obtain ⟨_,_,rfl,h⟩:=Jb h
  obtain ⟨_,_,rfl,h⟩:=Jb h
  obtain ⟨_,_,rfl,h⟩:=Jb h
  obtain ⟨_,_,rfl,h⟩:=Ja h
  obtain ⟨_,_,rfl,h⟩:=Ja h
  obtain ⟨_,_,rfl,h⟩:=Ja h
  obtain ⟨_,_,rfl,h⟩:=Ja h
  obtain ⟨rfl,hE⟩:=Je h
  obtain ⟨y,hy,hk⟩:=Jf hE
  exact ⟨0,_,_,_,hk,rfl,JP px (fx:=⟨Try.func14,by kernel_rfl,by kernel_rfl⟩) Jn (Jm ih (Jm e_Z107_ok Jo)) (by kernel_rfl) ((q_Z108 ..).trans ((c_Z108_bind ..).trans (Jg hy)))⟩
noncomputable def e_Z108:Jq:=m_Z108 (Z108)
theorem e_Z108_ok:(e_Z108).ok Try.prog (Jk (Jh Try.f14) 7):=by
 intro R ds k r h
 unfold e_Z108 m_Z108 at h
 obtain ⟨_,_,rfl,h⟩:=Jb h
 obtain ⟨_,_,rfl,h⟩:=Jb h
 obtain ⟨_,_,rfl,h⟩:=Jb h
 obtain ⟨_,_,rfl,h⟩:=Ja h
 obtain ⟨_,_,rfl,h⟩:=Ja h
 obtain ⟨_,_,rfl,h⟩:=Ja h
 obtain ⟨_,_,rfl,h⟩:=Ja h
 obtain ⟨rfl,hE⟩:=Je h
 obtain ⟨y,hy,hk⟩:=Jf hE
 obtain ⟨n,hn⟩:=J5 hy
 exact m_Z108_ok n R _ k r ((Jg hn).trans hk)

/-!-/
abbrev T_Z109:=List D→Int→Int→Option (Int)
def c_Z109 {R:Type} (F:T_Z109) (x0:List D) (x1 x2:Int) (k:Int→Option R):Option R:=
 bif decide (x2<(↑x0.length:Int)) then
 if 0≤x2∧x2<(↑x0.length:Int) then
 (F x0 (if (x0.getD x2.toNat (D.int 0)).toInt > x1 then (x0.getD x2.toNat (D.int 0)).toInt else x1) (IntKind.i64.wrap (x2+1))).bind k
 else
 none
 else
 k x1
theorem c_Z109_bind {R:Type} (F:T_Z109) (x0:List D) (x1 x2:Int) (k:Int→Option R):c_Z109 F x0 x1 x2 k=(c_Z109 F x0 x1 x2 some).bind k:=by
 unfold c_Z109
 repeat' first
  | exact JA
  | exact Jz
  | exact Jy
  | apply Jv
  | apply Jw
  | apply JB
  | (apply Jx;intro _)
  | intro _
def n_Z109:Nat→T_Z109
 | 0,_,_,_=>none
 | n+1,x0,x1,x2=>c_Z109 (n_Z109 n) x0 x1 x2 some
noncomputable def Z109 (x0:List D) (x1 x2:Int):Option (Int):=ev (fun n=>n_Z109 n x0 x1 x2)
def m_Z109 (F:T_Z109):Jq:=⟨5,⟨(.rd (.int .i64)::.undef::.undef::.int .i64::.int .i64::uu 20 ([])),[]⟩,[(.exit 0,⟨(.undef::.undef::.undef::.int .i64::uu 21 ([])),[]⟩)],fun _ ds k=>dL (fun x0 ds=>dI (fun x1 ds=>dI (fun x2 ds=>dE ((F x0 x1 x2).bind (fun y=>k 0 [.I y])) ds) ds) ds) ds⟩
theorem q_Z109 (F:T_Z109) (x0:List D) (x1 x2:Int):J2 (Jr []) (Js [m_Z109 F]) A 55 (Jk (Jh Try.f55) 5) ((m_Z109 F).sh.mk' [.L x0,.I x1,.I x2]) (fun e σ'=>some (e,σ'))=c_Z109 F x0 x1 x2 (fun y=>some (.exit 0,SSt.mk' ⟨(.undef::.undef::.undef::.int .i64::uu 21 ([])),[]⟩ [.I y])):=by kernel_rfl
theorem m_Z109_ok:∀ n,(m_Z109 (n_Z109 n)).ok Try.prog (Jk (Jh Try.f55) 5):=by
 intro n
 induction n with
 | zero=>
  intro R ds k r h
  unfold m_Z109 at h
  obtain ⟨_,_,rfl,h⟩:=Ja h
  obtain ⟨_,_,rfl,h⟩:=Jb h
  obtain ⟨_,_,rfl,h⟩:=Jb h
  obtain ⟨rfl,hE⟩:=Je h
  obtain ⟨y,hy,hk⟩:=Jf hE
  cases hy
 | succ n ih=>
  intro R ds k r h
  unfold m_Z109 at h
  obtain ⟨_,_,rfl,h⟩:=Ja h
  obtain ⟨_,_,rfl,h⟩:=Jb h
  obtain ⟨_,_,rfl,h⟩:=Jb h
  obtain ⟨rfl,hE⟩:=Je h
  obtain ⟨y,hy,hk⟩:=Jf hE
  exact ⟨0,_,_,_,hk,rfl,JP px (fx:=⟨Try.func55,by kernel_rfl,by kernel_rfl⟩) Jn (Jm ih Jo) (by kernel_rfl) ((q_Z109 ..).trans ((c_Z109_bind ..).trans (Jg hy)))⟩
noncomputable def e_Z109:Jq:=m_Z109 (Z109)
theorem e_Z109_ok:(e_Z109).ok Try.prog (Jk (Jh Try.f55) 5):=by
 intro R ds k r h
 unfold e_Z109 m_Z109 at h
 obtain ⟨_,_,rfl,h⟩:=Ja h
 obtain ⟨_,_,rfl,h⟩:=Jb h
 obtain ⟨_,_,rfl,h⟩:=Jb h
 obtain ⟨rfl,hE⟩:=Je h
 obtain ⟨y,hy,hk⟩:=Jf hE
 obtain ⟨n,hn⟩:=J5 hy
 exact m_Z109_ok n R _ k r ((Jg hn).trans hk)

/-!-/
def c_Z110 {R:Type} (x0:List D) (k:Int→Option R):Option R:=
 bif decide ((↑x0.length:Int)<(1:Int)) then
 none
 else
 if (0:Int)≤(0:Int)∧(0:Int)<(↑x0.length:Int) then
 (Z109 x0 ((x0.getD (Int.toNat (0:Int)) (D.int 0)).toInt) (1:Int)).bind (fun y0=>
 k y0)
 else
 none
theorem c_Z110_bind {R:Type} (x0:List D) (k:Int→Option R):c_Z110 x0 k=(c_Z110 x0 some).bind k:=by
 unfold c_Z110
 repeat' first
  | exact JA
  | exact Jz
  | exact Jy
  | apply Jv
  | apply Jw
  | apply JB
  | (apply Jx;intro _)
  | intro _
def Z110 (x0:List D):Option (Int):=c_Z110 x0 some
def e_Z110:Ent:=⟨55,[.rd (.int .i64)],[(.int .i64,[.undef])],fun _ ds k=>dL (fun x0 ds=>dE ((Z110 x0).bind (fun y=>k 0 [.I y])) ds) ds⟩
theorem q_Z110 (x0:List D):JX (Jr []) (Js [e_Z109]) A 55 Try.f55 (Sh.mks e_Z110.sh [.L x0]).1 (fun v os=>some (v,os))=c_Z110 x0 (fun y=>J0 e_Z110 0 [.I y]):=by kernel_rfl
theorem e_Z110_ok:e_Z110.ok Try.prog A:=by
 intro R ds k r h
 unfold e_Z110 at h
 obtain ⟨_,_,rfl,h⟩:=Ja h
 obtain ⟨rfl,hE⟩:=Je h
 obtain ⟨y,hy,hk⟩:=Jf hE
 exact ⟨0,_,_,_,hk,rfl,J1 px (fx:=⟨Try.func55,by kernel_rfl,by kernel_rfl⟩) Jn (Jm e_Z109_ok Jo) ((q_Z110 ..).trans ((c_Z110_bind ..).trans (Jg hy)))⟩

/-!-/
abbrev T_Z111:=List D→Int→Int→Int→Option ((Int)⊕(Unit))
def c_Z111 {R:Type} (F:T_Z111) (x0:List D) (x1 x2 x3:Int) (k:(Int)⊕(Unit)→Option R):Option R:=
 bif decide (x3<x2) then
 if 0≤x3∧x3<(↑x0.length:Int) then
 bif decide (x1=(x0.getD x3.toNat (D.int 0)).toInt) then
 k (.inl x3)
 else
 (F x0 x1 x2 (IntKind.i64.wrap (x3+1))).bind k
 else
 none
 else
 k (.inr ())
theorem c_Z111_bind {R:Type} (F:T_Z111) (x0:List D) (x1 x2 x3:Int) (k:(Int)⊕(Unit)→Option R):c_Z111 F x0 x1 x2 x3 k=(c_Z111 F x0 x1 x2 x3 some).bind k:=by
 unfold c_Z111
 repeat' first
  | exact JA
  | exact Jz
  | exact Jy
  | apply Jv
  | apply Jw
  | apply JB
  | (apply Jx;intro _)
  | intro _
def n_Z111:Nat→T_Z111
 | 0,_,_,_,_=>none
 | n+1,x0,x1,x2,x3=>c_Z111 (n_Z111 n) x0 x1 x2 x3 some
noncomputable def Z111 (x0:List D) (x1 x2 x3:Int):Option ((Int)⊕(Unit)):=ev (fun n=>n_Z111 n x0 x1 x2 x3)
def m_Z111 (F:T_Z111):Jq:=⟨2,⟨(.rd (.int .i64)::.int .i64::uu 5 (.int .i64::.int .i64::uu 10 ([]))),[]⟩,[(.ret,⟨(uu 4 (.int .i64::uu 14 ([]))),[]⟩),(.exit 0,⟨(uu 19 ([])),[]⟩)],fun _ ds k=>dL (fun x0 ds=>dI (fun x1 ds=>dI (fun x2 ds=>dI (fun x3 ds=>dE ((F x0 x1 x2 x3).bind (Sum.elim (fun y=>k 0 [.I y]) (fun y=>k 1 []))) ds) ds) ds) ds) ds⟩
theorem q_Z111 (F:T_Z111) (x0:List D) (x1 x2 x3:Int):J2 (Jr []) (Js [m_Z111 F]) A 54 (Jk (Jh Try.f54) 2) ((m_Z111 F).sh.mk' [.L x0,.I x1,.I x2,.I x3]) (fun e σ'=>some (e,σ'))=c_Z111 F x0 x1 x2 x3 (Sum.elim (fun y=>some (.ret,SSt.mk' ⟨(uu 4 (.int .i64::uu 14 ([]))),[]⟩ [.I y])) (fun y=>some (.exit 0,SSt.mk' ⟨(uu 19 ([])),[]⟩ []))):=by kernel_rfl
theorem m_Z111_ok:∀ n,(m_Z111 (n_Z111 n)).ok Try.prog (Jk (Jh Try.f54) 2):=by
 intro n
 induction n with
 | zero=>
  intro R ds k r h
  unfold m_Z111 at h
  obtain ⟨_,_,rfl,h⟩:=Ja h
  obtain ⟨_,_,rfl,h⟩:=Jb h
  obtain ⟨_,_,rfl,h⟩:=Jb h
  obtain ⟨_,_,rfl,h⟩:=Jb h
  obtain ⟨rfl,hE⟩:=Je h
  obtain ⟨y,hy,hk⟩:=Jf hE
  cases hy
 | succ n ih=>
  intro R ds k r h
  unfold m_Z111 at h
  obtain ⟨_,_,rfl,h⟩:=Ja h
  obtain ⟨_,_,rfl,h⟩:=Jb h
  obtain ⟨_,_,rfl,h⟩:=Jb h
  obtain ⟨_,_,rfl,h⟩:=Jb h
  obtain ⟨rfl,hE⟩:=Je h
  obtain ⟨y,hy,hk⟩:=Jf hE
  cases y with
  | inl y=>
   exact ⟨0,_,_,_,hk,rfl,JP px (fx:=⟨Try.func54,by kernel_rfl,by kernel_rfl⟩) Jn (Jm ih Jo) (by kernel_rfl) ((q_Z111 ..).trans ((c_Z111_bind ..).trans (Jg hy)))⟩
  | inr y=>
   exact ⟨1,_,_,_,hk,rfl,JP px (fx:=⟨Try.func54,by kernel_rfl,by kernel_rfl⟩) Jn (Jm ih Jo) (by kernel_rfl) ((q_Z111 ..).trans ((c_Z111_bind ..).trans (Jg hy)))⟩
noncomputable def e_Z111:Jq:=m_Z111 (Z111)
theorem e_Z111_ok:(e_Z111).ok Try.prog (Jk (Jh Try.f54) 2):=by
 intro R ds k r h
 unfold e_Z111 m_Z111 at h
 obtain ⟨_,_,rfl,h⟩:=Ja h
 obtain ⟨_,_,rfl,h⟩:=Jb h
 obtain ⟨_,_,rfl,h⟩:=Jb h
 obtain ⟨_,_,rfl,h⟩:=Jb h
 obtain ⟨rfl,hE⟩:=Je h
 obtain ⟨y,hy,hk⟩:=Jf hE
 obtain ⟨n,hn⟩:=J5 hy
 exact m_Z111_ok n R _ k r ((Jg hn).trans hk)

/-!-/
def c_Z112 {R:Type} (x0:List D) (x1:Int) (k:Int→Option R):Option R:=
 (Z111 x0 x1 (↑x0.length:Int) (0:Int)).bind (Sum.elim (fun y0=>
 k y0) (fun y1=>
 k (-1:Int)))
theorem c_Z112_bind {R:Type} (x0:List D) (x1:Int) (k:Int→Option R):c_Z112 x0 x1 k=(c_Z112 x0 x1 some).bind k:=by
 unfold c_Z112
 repeat' first
  | exact JA
  | exact Jz
  | exact Jy
  | apply Jv
  | apply Jw
  | apply JB
  | (apply Jx;intro _)
  | intro _
def Z112 (x0:List D) (x1:Int):Option (Int):=c_Z112 x0 x1 some
def e_Z112:Ent:=⟨54,[.rd (.int .i64),.int .i64],[(.int .i64,[.undef,.undef])],fun _ ds k=>dL (fun x0 ds=>dI (fun x1 ds=>dE ((Z112 x0 x1).bind (fun y=>k 0 [.I y])) ds) ds) ds⟩
theorem q_Z112 (x0:List D) (x1:Int):JX (Jr []) (Js [e_Z111]) A 54 Try.f54 (Sh.mks e_Z112.sh [.L x0,.I x1]).1 (fun v os=>some (v,os))=c_Z112 x0 x1 (fun y=>J0 e_Z112 0 [.I y]):=by kernel_rfl
theorem e_Z112_ok:e_Z112.ok Try.prog A:=by
 intro R ds k r h
 unfold e_Z112 at h
 obtain ⟨_,_,rfl,h⟩:=Ja h
 obtain ⟨_,_,rfl,h⟩:=Jb h
 obtain ⟨rfl,hE⟩:=Je h
 obtain ⟨y,hy,hk⟩:=Jf hE
 exact ⟨0,_,_,_,hk,rfl,J1 px (fx:=⟨Try.func54,by kernel_rfl,by kernel_rfl⟩) Jn (Jm e_Z111_ok Jo) ((q_Z112 ..).trans ((c_Z112_bind ..).trans (Jg hy)))⟩

/-!-/
abbrev T_Z113:=Int→Int→Int→Int→List D→List D→List D→List D→List D→Option (Int×Int×List D×List D×List D×List D×List D)
def c_Z113 {R:Type} (F:T_Z113) (x0 x1 x2 x3:Int) (x4 x5 x6 x7 x8:List D) (k:Int×Int×List D×List D×List D×List D×List D→Option R):Option R:=
 bif decide (x3<x2) then
 if 0≤x1∧x1<(↑x5.length:Int) then
 if x1.toNat+1≤x5.length then
 if x1.toNat+1≤x5.length then
 if 0≤x3∧x3<(↑(x5.getD x1.toNat (D.int 0)).items.length:Int) then
 if x1.toNat+1≤x5.length then
 if x3.toNat+1≤(x5.getD x1.toNat (D.int 0)).items.length then
 bif ((x5.getD x1.toNat (D.int 0)).items.getD x3.toNat (D.int 0)).toBool then
 if 0≤x3∧x3<(↑x7.length:Int) then
 if x3.toNat+1≤x7.length then
 if 0≤x1∧x1<(↑x7.length:Int) then
 if x1.toNat+1≤x7.length then
 bif decide ((x7.getD x3.toNat (D.int 0)).toInt=IntKind.i64.wrap ((x7.getD x1.toNat (D.int 0)).toInt - (1:Int))) then
 k (x0,x3,x4,x5,x6,x7,x8)
 else
 (F x0 x1 x2 (IntKind.i64.wrap (x3+1)) x4 x5 x6 x7 x8).bind k
 else
 none
 else
 none
 else
 none
 else
 none
 else
 (F x0 x1 x2 (IntKind.i64.wrap (x3+1)) x4 x5 x6 x7 x8).bind k
 else
 none
 else
 none
 else
 none
 else
 none
 else
 none
 else
 none
 else
 k (x0,x1,x4,x5,x6,x7,x8)
theorem c_Z113_bind {R:Type} (F:T_Z113) (x0 x1 x2 x3:Int) (x4 x5 x6 x7 x8:List D) (k:Int×Int×List D×List D×List D×List D×List D→Option R):c_Z113 F x0 x1 x2 x3 x4 x5 x6 x7 x8 k=(c_Z113 F x0 x1 x2 x3 x4 x5 x6 x7 x8 some).bind k:=by
 unfold c_Z113
 repeat' first
  | exact JA
  | exact Jz
  | exact Jy
  | apply Jv
  | apply Jw
  | apply JB
  | (apply Jx;intro _)
  | intro _
def n_Z113:Nat→T_Z113
 | 0,_,_,_,_,_,_,_,_,_=>none
 | n+1,x0,x1,x2,x3,x4,x5,x6,x7,x8=>c_Z113 (n_Z113 n) x0 x1 x2 x3 x4 x5 x6 x7 x8 some
noncomputable def Z113 (x0 x1 x2 x3:Int) (x4 x5 x6 x7 x8:List D):Option (Int×Int×List D×List D×List D×List D×List D):=ev (fun n=>n_Z113 n x0 x1 x2 x3 x4 x5 x6 x7 x8)
def m_Z113 (F:T_Z113):Jq:=⟨26,⟨(uu 4 (.ptr 1000 [0]::.undef::.int .i64::.full 1001 [] (.int .i64)::.undef::.undef::.full 1002 [] (.int .i64)::.int .i64::uu 75 (.int .i64::.int .i64::uu 37 ([])))),[(1000,.obox (.agg [.own (.int .i64),.own (.slice (.bool)),.own (.slice (.bool))])),(1001,.own (.int .i64)),(1002,.own (.int .i64))]⟩,[(.exit 8,⟨(uu 4 (.ptr 1000 [0]::.undef::.int .i64::.full 1001 [] (.int .i64)::.undef::.undef::.full 1002 [] (.int .i64)::.int .i64::uu 114 ([]))),[(1000,.obox (.agg [.own (.int .i64),.own (.slice (.bool)),.own (.slice (.bool))])),(1001,.own (.int .i64)),(1002,.own (.int .i64))]⟩)],fun _ ds k=>dI (fun x0 ds=>dI (fun x1 ds=>dI (fun x2 ds=>dI (fun x3 ds=>dL (fun x4 ds=>dL (fun x5 ds=>dL (fun x6 ds=>dL (fun x7 ds=>dL (fun x8 ds=>dE ((F x0 x1 x2 x3 x4 x5 x6 x7 x8).bind (fun y=>k 0 [.I y.1,.I y.2.1,.L y.2.2.1,.L y.2.2.2.1,.L y.2.2.2.2.1,.L y.2.2.2.2.2.1,.L y.2.2.2.2.2.2])) ds) ds) ds) ds) ds) ds) ds) ds) ds) ds⟩
theorem q_Z113 (F:T_Z113) (x0 x1 x2 x3:Int) (x4 x5 x6 x7 x8:List D):J2 (Jr []) (Js [m_Z113 F]) A 14 (Jk (Jh Try.f14) 26) ((m_Z113 F).sh.mk' [.I x0,.I x1,.I x2,.I x3,.L x4,.L x5,.L x6,.L x7,.L x8]) (fun e σ'=>some (e,σ'))=c_Z113 F x0 x1 x2 x3 x4 x5 x6 x7 x8 (fun y=>some (.exit 8,SSt.mk' ⟨(uu 4 (.ptr 1000 [0]::.undef::.int .i64::.full 1001 [] (.int .i64)::.undef::.undef::.full 1002 [] (.int .i64)::.int .i64::uu 114 ([]))),[(1000,.obox (.agg [.own (.int .i64),.own (.slice (.bool)),.own (.slice (.bool))])),(1001,.own (.int .i64)),(1002,.own (.int .i64))]⟩ [.I y.1,.I y.2.1,.L y.2.2.1,.L y.2.2.2.1,.L y.2.2.2.2.1,.L y.2.2.2.2.2.1,.L y.2.2.2.2.2.2])):=by kernel_rfl
theorem m_Z113_ok:∀ n,(m_Z113 (n_Z113 n)).ok Try.prog (Jk (Jh Try.f14) 26):=by
 intro n
 induction n with
 | zero=>
  intro R ds k r h
  unfold m_Z113 at h
  obtain ⟨_,_,rfl,h⟩:=Jb h
  obtain ⟨_,_,rfl,h⟩:=Jb h
  obtain ⟨_,_,rfl,h⟩:=Jb h
  obtain ⟨_,_,rfl,h⟩:=Jb h
  obtain ⟨_,_,rfl,h⟩:=Ja h
  obtain ⟨_,_,rfl,h⟩:=Ja h
  obtain ⟨_,_,rfl,h⟩:=Ja h
  obtain ⟨_,_,rfl,h⟩:=Ja h
  obtain ⟨_,_,rfl,h⟩:=Ja h
  obtain ⟨rfl,hE⟩:=Je h
  obtain ⟨y,hy,hk⟩:=Jf hE
  cases hy
 | succ n ih=>
  intro R ds k r h
  unfold m_Z113 at h
  obtain ⟨_,_,rfl,h⟩:=Jb h
  obtain ⟨_,_,rfl,h⟩:=Jb h
  obtain ⟨_,_,rfl,h⟩:=Jb h
  obtain ⟨_,_,rfl,h⟩:=Jb h
  obtain ⟨_,_,rfl,h⟩:=Ja h
  obtain ⟨_,_,rfl,h⟩:=Ja h
  obtain ⟨_,_,rfl,h⟩:=Ja h
  obtain ⟨_,_,rfl,h⟩:=Ja h
  obtain ⟨_,_,rfl,h⟩:=Ja h
  obtain ⟨rfl,hE⟩:=Je h
  obtain ⟨y,hy,hk⟩:=Jf hE
  exact ⟨0,_,_,_,hk,rfl,JP px (fx:=⟨Try.func14,by kernel_rfl,by kernel_rfl⟩) Jn (Jm ih Jo) (by kernel_rfl) ((q_Z113 ..).trans ((c_Z113_bind ..).trans (Jg hy)))⟩
noncomputable def e_Z113:Jq:=m_Z113 (Z113)
theorem e_Z113_ok:(e_Z113).ok Try.prog (Jk (Jh Try.f14) 26):=by
 intro R ds k r h
 unfold e_Z113 m_Z113 at h
 obtain ⟨_,_,rfl,h⟩:=Jb h
 obtain ⟨_,_,rfl,h⟩:=Jb h
 obtain ⟨_,_,rfl,h⟩:=Jb h
 obtain ⟨_,_,rfl,h⟩:=Jb h
 obtain ⟨_,_,rfl,h⟩:=Ja h
 obtain ⟨_,_,rfl,h⟩:=Ja h
 obtain ⟨_,_,rfl,h⟩:=Ja h
 obtain ⟨_,_,rfl,h⟩:=Ja h
 obtain ⟨_,_,rfl,h⟩:=Ja h
 obtain ⟨rfl,hE⟩:=Je h
 obtain ⟨y,hy,hk⟩:=Jf hE
 obtain ⟨n,hn⟩:=J5 hy
 exact m_Z113_ok n R _ k r ((Jg hn).trans hk)

/-!-/
abbrev T_Z114:=Int→Int→List D→List D→List D→List D→List D→Option (List D)
def c_Z114 {R:Type} (F:T_Z114) (x0 x1:Int) (x2 x3 x4 x5 x6:List D) (k:List D→Option R):Option R:=
 if 0≤x1∧x1<(↑x5.length:Int) then
 if x1.toNat+1≤x5.length then
 bif decide ((0:Int)<(x5.getD x1.toNat (D.int 0)).toInt) then
 (Z113 x0 x1 x0 (0:Int) x2 x3 x4 x5 x6).bind (fun y0=>
 if 0≤y0.snd.fst∧y0.snd.fst<(↑y0.snd.snd.fst.length:Int) then
 if y0.snd.fst.toNat+1≤y0.snd.snd.fst.length then
 if y0.snd.snd.snd.snd.snd.snd.length+[D.int (y0.snd.snd.fst.getD y0.snd.fst.toNat (D.int 0)).toInt].length≤(4294967296:Nat) then
 (F y0.fst y0.snd.fst y0.snd.snd.fst y0.snd.snd.snd.fst y0.snd.snd.snd.snd.fst y0.snd.snd.snd.snd.snd.fst (y0.snd.snd.snd.snd.snd.snd++[D.int (y0.snd.snd.fst.getD y0.snd.fst.toNat (D.int 0)).toInt])).bind k
 else
 none
 else
 none
 else
 none)
 else
 k x6
 else
 none
 else
 none
theorem c_Z114_bind {R:Type} (F:T_Z114) (x0 x1:Int) (x2 x3 x4 x5 x6:List D) (k:List D→Option R):c_Z114 F x0 x1 x2 x3 x4 x5 x6 k=(c_Z114 F x0 x1 x2 x3 x4 x5 x6 some).bind k:=by
 unfold c_Z114
 repeat' first
  | exact JA
  | exact Jz
  | exact Jy
  | apply Jv
  | apply Jw
  | apply JB
  | (apply Jx;intro _)
  | intro _
def n_Z114:Nat→T_Z114
 | 0,_,_,_,_,_,_,_=>none
 | n+1,x0,x1,x2,x3,x4,x5,x6=>c_Z114 (n_Z114 n) x0 x1 x2 x3 x4 x5 x6 some
noncomputable def Z114 (x0 x1:Int) (x2 x3 x4 x5 x6:List D):Option (List D):=ev (fun n=>n_Z114 n x0 x1 x2 x3 x4 x5 x6)
def m_Z114 (F:T_Z114):Jq:=⟨24,⟨(uu 4 (.ptr 1000 [0]::.undef::.int .i64::.full 1001 [] (.int .i64)::.undef::.undef::.full 1002 [] (.int .i64)::.int .i64::uu 114 ([]))),[(1000,.obox (.agg [.own (.int .i64),.own (.slice (.bool)),.own (.slice (.bool))])),(1001,.own (.int .i64)),(1002,.own (.int .i64))]⟩,[(.exit 6,⟨(uu 10 (.full 1000 [] (.int .i64)::uu 115 ([]))),[(1000,.own (.int .i64))]⟩)],fun _ ds k=>dI (fun x0 ds=>dI (fun x1 ds=>dL (fun x2 ds=>dL (fun x3 ds=>dL (fun x4 ds=>dL (fun x5 ds=>dL (fun x6 ds=>dE ((F x0 x1 x2 x3 x4 x5 x6).bind (fun y=>k 0 [.L y])) ds) ds) ds) ds) ds) ds) ds) ds⟩
theorem q_Z114 (F:T_Z114) (x0 x1:Int) (x2 x3 x4 x5 x6:List D):J2 (Jr []) (Js [m_Z114 F,e_Z113]) A 14 (Jk (Jh Try.f14) 24) ((m_Z114 F).sh.mk' [.I x0,.I x1,.L x2,.L x3,.L x4,.L x5,.L x6]) (fun e σ'=>some (e,σ'))=c_Z114 F x0 x1 x2 x3 x4 x5 x6 (fun y=>some (.exit 6,SSt.mk' ⟨(uu 10 (.full 1000 [] (.int .i64)::uu 115 ([]))),[(1000,.own (.int .i64))]⟩ [.L y])):=by kernel_rfl
theorem m_Z114_ok:∀ n,(m_Z114 (n_Z114 n)).ok Try.prog (Jk (Jh Try.f14) 24):=by
 intro n
 induction n with
 | zero=>
  intro R ds k r h
  unfold m_Z114 at h
  obtain ⟨_,_,rfl,h⟩:=Jb h
  obtain ⟨_,_,rfl,h⟩:=Jb h
  obtain ⟨_,_,rfl,h⟩:=Ja h
  obtain ⟨_,_,rfl,h⟩:=Ja h
  obtain ⟨_,_,rfl,h⟩:=Ja h
  obtain ⟨_,_,rfl,h⟩:=Ja h
  obtain ⟨_,_,rfl,h⟩:=Ja h
  obtain ⟨rfl,hE⟩:=Je h
  obtain ⟨y,hy,hk⟩:=Jf hE
  cases hy
 | succ n ih=>
  intro R ds k r h
  unfold m_Z114 at h
  obtain ⟨_,_,rfl,h⟩:=Jb h
  obtain ⟨_,_,rfl,h⟩:=Jb h
  obtain ⟨_,_,rfl,h⟩:=Ja h
  obtain ⟨_,_,rfl,h⟩:=Ja h
  obtain ⟨_,_,rfl,h⟩:=Ja h
  obtain ⟨_,_,rfl,h⟩:=Ja h
  obtain ⟨_,_,rfl,h⟩:=Ja h
  obtain ⟨rfl,hE⟩:=Je h
  obtain ⟨y,hy,hk⟩:=Jf hE
  exact ⟨0,_,_,_,hk,rfl,JP px (fx:=⟨Try.func14,by kernel_rfl,by kernel_rfl⟩) Jn (Jm ih (Jm e_Z113_ok Jo)) (by kernel_rfl) ((q_Z114 ..).trans ((c_Z114_bind ..).trans (Jg hy)))⟩
noncomputable def e_Z114:Jq:=m_Z114 (Z114)
theorem e_Z114_ok:(e_Z114).ok Try.prog (Jk (Jh Try.f14) 24):=by
 intro R ds k r h
 unfold e_Z114 m_Z114 at h
 obtain ⟨_,_,rfl,h⟩:=Jb h
 obtain ⟨_,_,rfl,h⟩:=Jb h
 obtain ⟨_,_,rfl,h⟩:=Ja h
 obtain ⟨_,_,rfl,h⟩:=Ja h
 obtain ⟨_,_,rfl,h⟩:=Ja h
 obtain ⟨_,_,rfl,h⟩:=Ja h
 obtain ⟨_,_,rfl,h⟩:=Ja h
 obtain ⟨rfl,hE⟩:=Je h
 obtain ⟨y,hy,hk⟩:=Jf hE
 obtain ⟨n,hn⟩:=J5 hy
 exact m_Z114_ok n R _ k r ((Jg hn).trans hk)

/-!-/
def c_Z115 {R:Type} (x0 x1:List D) (k:List D×Bool→Option R):Option R:=
 (Z66 x0 x1).bind (Sum.elim (fun y0=>
 bif !y0 then
 k ([],Bool.false)
 else
 none) (fun y1=>
 bif !y1.snd.snd.snd then
 k ([],Bool.false)
 else
 if (0:Int)≤(↑y1.fst.length:Int)∧(↑y1.fst.length:Int)≤(↑y1.fst.length:Int)∧(↑y1.fst.length:Int)≤(4294967296:Int) then
 (Z108 (↑y1.fst.length:Int) (↑y1.fst.length:Int) (0:Int) y1.fst y1.snd.fst y1.snd.snd.fst (List.replicate (↑y1.fst.length:Int).toNat (D.int 0))).bind (fun y2=>
 bif decide (y2.fst=(0:Int)) then
 k ([],Bool.true)
 else
 (Z110 y2.snd.snd.snd.snd).bind (fun y3=>
 (Z112 y2.snd.snd.snd.snd y3).bind (fun y4=>
 if 0≤y4∧y4<(↑y2.snd.fst.length:Int) then
 if y4.toNat+1≤y2.snd.fst.length then
 if ([]:List D).length+[D.int (y2.snd.fst.getD y4.toNat (D.int 0)).toInt].length≤(4294967296:Nat) then
 (Z114 y2.fst y4 y2.snd.fst y2.snd.snd.fst y2.snd.snd.snd.fst y2.snd.snd.snd.snd ([]++[D.int (y2.snd.fst.getD y4.toNat (D.int 0)).toInt])).bind (fun y5=>
 k (y5,Bool.true))
 else
 none
 else
 none
 else
 none)))
 else
 none))
theorem c_Z115_bind {R:Type} (x0 x1:List D) (k:List D×Bool→Option R):c_Z115 x0 x1 k=(c_Z115 x0 x1 some).bind k:=by
 unfold c_Z115
 repeat' first
  | exact JA
  | exact Jz
  | exact Jy
  | apply Jv
  | apply Jw
  | apply JB
  | (apply Jx;intro _)
  | intro _
def Z115 (x0 x1:List D):Option (List D×Bool):=c_Z115 x0 x1 some
def e_Z115:Ent:=⟨14,[.agg [.rd (.struct [.int .i64,.int .i64]),.rd (.struct [.int .i64,.int .i64])]],[(.tup [.own (.int .i64),.bool],[.undef])],fun _ ds k=>dL (fun x0 ds=>dL (fun x1 ds=>dE ((Z115 x0 x1).bind (fun y=>k 0 [.L y.1,.B y.2])) ds) ds) ds⟩
theorem q_Z115 (x0 x1:List D):JX (Jr [e_Z66,e_Z110,e_Z112]) (Js [e_Z108,e_Z114]) A 14 Try.f14 (Sh.mks e_Z115.sh [.L x0,.L x1]).1 (fun v os=>some (v,os))=c_Z115 x0 x1 (fun y=>J0 e_Z115 0 [.L y.1,.B y.2]):=by kernel_rfl
theorem e_Z115_ok:e_Z115.ok Try.prog A:=by
 intro R ds k r h
 unfold e_Z115 at h
 obtain ⟨_,_,rfl,h⟩:=Ja h
 obtain ⟨_,_,rfl,h⟩:=Ja h
 obtain ⟨rfl,hE⟩:=Je h
 obtain ⟨y,hy,hk⟩:=Jf hE
 exact ⟨0,_,_,_,hk,rfl,J1 px (fx:=⟨Try.func14,by kernel_rfl,by kernel_rfl⟩) (Jt e_Z66_ok (Jt e_Z110_ok (Jt e_Z112_ok Jn))) (Jm e_Z108_ok (Jm e_Z114_ok Jo)) ((q_Z115 ..).trans ((c_Z115_bind ..).trans (Jg hy)))⟩

/-!-/
def c_Z116 {R:Type} (x0 x1:List D) (x2:Int) (k:Int×Bool→Option R):Option R:=
 (Z66 x0 x1).bind (Sum.elim (fun y0=>
 bif !y0 then
 k ((0:Int),Bool.false)
 else
 (Z43 x0 x1 x2).bind (fun y1=>
 bif decide (y1<(0:Int)) then
 k ((0:Int),Bool.false)
 else
 (Z94 ).bind (fun y2=>
 (Z43 x0 x1 x2).bind (fun y3=>
 if 0≤y3∧y3<(↑y2.length:Int) then
 if y3.toNat+1≤y2.length then
 k ((y2.getD y3.toNat (D.int 0)).toInt,Bool.true)
 else
 none
 else
 none)))) (fun y4=>
 bif !y4.snd.snd.snd then
 k ((0:Int),Bool.false)
 else
 (Z43 x0 x1 x2).bind (fun y5=>
 bif decide (y5<(0:Int)) then
 k ((0:Int),Bool.false)
 else
 (Z101 y4.fst y4.snd.fst y4.snd.snd.fst).bind (fun y6=>
 (Z43 x0 x1 x2).bind (fun y7=>
 if 0≤y7∧y7<(↑y6.length:Int) then
 if y7.toNat+1≤y6.length then
 k ((y6.getD y7.toNat (D.int 0)).toInt,Bool.true)
 else
 none
 else
 none)))))
theorem c_Z116_bind {R:Type} (x0 x1:List D) (x2:Int) (k:Int×Bool→Option R):c_Z116 x0 x1 x2 k=(c_Z116 x0 x1 x2 some).bind k:=by
 unfold c_Z116
 repeat' first
  | exact JA
  | exact Jz
  | exact Jy
  | apply Jv
  | apply Jw
  | apply JB
  | (apply Jx;intro _)
  | intro _
def Z116 (x0 x1:List D) (x2:Int):Option (Int×Bool):=c_Z116 x0 x1 x2 some
def e_Z116:Ent:=⟨15,[.agg [.rd (.struct [.int .i64,.int .i64]),.rd (.struct [.int .i64,.int .i64])],.int .i64],[(.tup [.int .i64,.bool],[.undef,.undef])],fun _ ds k=>dL (fun x0 ds=>dL (fun x1 ds=>dI (fun x2 ds=>dE ((Z116 x0 x1 x2).bind (fun y=>k 0 [.I y.1,.B y.2])) ds) ds) ds) ds⟩
theorem q_Z116 (x0 x1:List D) (x2:Int):JX (Jr [e_Z66,e_Z43,e_Z94,e_Z101]) (Js []) A 15 Try.f15 (Sh.mks e_Z116.sh [.L x0,.L x1,.I x2]).1 (fun v os=>some (v,os))=c_Z116 x0 x1 x2 (fun y=>J0 e_Z116 0 [.I y.1,.B y.2]):=by kernel_rfl
theorem e_Z116_ok:e_Z116.ok Try.prog A:=by
 intro R ds k r h
 unfold e_Z116 at h
 obtain ⟨_,_,rfl,h⟩:=Ja h
 obtain ⟨_,_,rfl,h⟩:=Ja h
 obtain ⟨_,_,rfl,h⟩:=Jb h
 obtain ⟨rfl,hE⟩:=Je h
 obtain ⟨y,hy,hk⟩:=Jf hE
 exact ⟨0,_,_,_,hk,rfl,J1 px (fx:=⟨Try.func15,by kernel_rfl,by kernel_rfl⟩) (Jt e_Z66_ok (Jt e_Z43_ok (Jt e_Z94_ok (Jt e_Z101_ok Jn)))) Jo ((q_Z116 ..).trans ((c_Z116_bind ..).trans (Jg hy)))⟩

/-!-/
abbrev T_Z117:=Bool→Int→Int→Int→List D→List D→List D→List D→List D→List D→List D→Option ((Bool×Bool×Int×Int×List D×List D×List D×List D×List D×List D×List D)⊕(Bool×Int×Int×List D×List D×List D×List D×List D×List D×List D))
def c_Z117 {R:Type} (F:T_Z117) (x0:Bool) (x1 x2 x3:Int) (x4 x5 x6 x7 x8 x9 x10:List D) (k:(Bool×Bool×Int×Int×List D×List D×List D×List D×List D×List D×List D)⊕(Bool×Int×Int×List D×List D×List D×List D×List D×List D×List D)→Option R):Option R:=
 if 0≤x2∧x2<(↑x10.length:Int) then
 if x2.toNat+1≤x10.length then
 if x2.toNat+1≤x10.length then
 bif decide (x3<(↑(x10.getD x2.toNat (D.int 0)).items.length:Int)) then
 if 0≤x2∧x2<(↑x10.length:Int) then
 if x2.toNat+1≤x10.length then
 if x2.toNat+1≤x10.length then
 if 0≤x3∧x3<(↑(x10.getD x2.toNat (D.int 0)).items.length:Int) then
 if x2.toNat+1≤x10.length then
 if x3.toNat+1≤(x10.getD x2.toNat (D.int 0)).items.length then
 (Z116 x4 x5 (((x10.getD x2.toNat (D.int 0)).items.getD x3.toNat (D.int 0)).toInt)).bind (fun y0=>
 bif !y0.snd then
 k (.inl (Bool.false,x0,IntKind.i64.wrap (x1+1),x2,x4,x5,x6,x7,x8,x9,x10))
 else
 bif !decide (y0.fst=x2) then
 k (.inl (Bool.false,x0,IntKind.i64.wrap (x1+1),x2,x4,x5,x6,x7,x8,x9,x10))
 else
 (F x0 (IntKind.i64.wrap (x1+1)) x2 (IntKind.i64.wrap (x3+1)) x4 x5 x6 x7 x8 x9 x10).bind k)
 else
 none
 else
 none
 else
 none
 else
 none
 else
 none
 else
 none
 else
 k (.inr (x0,x1,x2,x4,x5,x6,x7,x8,x9,x10))
 else
 none
 else
 none
 else
 none
theorem c_Z117_bind {R:Type} (F:T_Z117) (x0:Bool) (x1 x2 x3:Int) (x4 x5 x6 x7 x8 x9 x10:List D) (k:(Bool×Bool×Int×Int×List D×List D×List D×List D×List D×List D×List D)⊕(Bool×Int×Int×List D×List D×List D×List D×List D×List D×List D)→Option R):c_Z117 F x0 x1 x2 x3 x4 x5 x6 x7 x8 x9 x10 k=(c_Z117 F x0 x1 x2 x3 x4 x5 x6 x7 x8 x9 x10 some).bind k:=by
 unfold c_Z117
 repeat' first
  | exact JA
  | exact Jz
  | exact Jy
  | apply Jv
  | apply Jw
  | apply JB
  | (apply Jx;intro _)
  | intro _
def n_Z117:Nat→T_Z117
 | 0,_,_,_,_,_,_,_,_,_,_,_=>none
 | n+1,x0,x1,x2,x3,x4,x5,x6,x7,x8,x9,x10=>c_Z117 (n_Z117 n) x0 x1 x2 x3 x4 x5 x6 x7 x8 x9 x10 some
noncomputable def Z117 (x0:Bool) (x1 x2 x3:Int) (x4 x5 x6 x7 x8 x9 x10:List D):Option ((Bool×Bool×Int×Int×List D×List D×List D×List D×List D×List D×List D)⊕(Bool×Int×Int×List D×List D×List D×List D×List D×List D×List D)):=ev (fun n=>n_Z117 n x0 x1 x2 x3 x4 x5 x6 x7 x8 x9 x10)
def m_Z117 (F:T_Z117):Jq:=⟨20,⟨(.undef::.undef::.undef::.ptr 1000 [0]::.ptr 1001 [0]::.undef::.undef::.undef::.ptr 1003 [0]::.bool::.full 1005 [] (.slice (.int .i64))::.undef::.undef::.undef::.int .i64::.int .i64::.int .i64::uu 173 ([])),[(1000,.obox (.agg [.own (.struct [.int .i64,.int .i64]),.own (.struct [.int .i64,.int .i64])])),(1001,.obox (.agg [.full 1002 [0] (.struct [.int .i64,.int .i64]),.full 1002 [1] (.struct [.int .i64,.int .i64])])),(1002,.agg [.own (.struct [.int .i64,.int .i64]),.own (.struct [.int .i64,.int .i64])]),(1003,.obox (.agg [.full 1004 [0] (.struct [.int .i64,.int .i64]),.full 1004 [1] (.struct [.int .i64,.int .i64])])),(1004,.agg [.own (.struct [.int .i64,.int .i64]),.own (.struct [.int .i64,.int .i64])]),(1005,.own (.slice (.int .i64)))]⟩,[(.ret,⟨(.undef::.undef::.bool::.ptr 1000 [0]::.ptr 1001 [0]::.undef::.undef::.undef::.ptr 1003 [0]::.bool::.full 1005 [] (.slice (.int .i64))::.undef::.undef::.undef::.int .i64::.int .i64::uu 174 ([])),[(1000,.obox (.agg [.own (.struct [.int .i64,.int .i64]),.own (.struct [.int .i64,.int .i64])])),(1001,.obox (.agg [.full 1002 [0] (.struct [.int .i64,.int .i64]),.full 1002 [1] (.struct [.int .i64,.int .i64])])),(1002,.agg [.own (.struct [.int .i64,.int .i64]),.own (.struct [.int .i64,.int .i64])]),(1003,.obox (.agg [.full 1004 [0] (.struct [.int .i64,.int .i64]),.full 1004 [1] (.struct [.int .i64,.int .i64])])),(1004,.agg [.own (.struct [.int .i64,.int .i64]),.own (.struct [.int .i64,.int .i64])]),(1005,.own (.slice (.int .i64)))]⟩),(.exit 2,⟨(.undef::.undef::.undef::.ptr 1000 [0]::.ptr 1001 [0]::.undef::.undef::.undef::.ptr 1003 [0]::.bool::.full 1005 [] (.slice (.int .i64))::.undef::.undef::.undef::.int .i64::.int .i64::uu 174 ([])),[(1000,.obox (.agg [.own (.struct [.int .i64,.int .i64]),.own (.struct [.int .i64,.int .i64])])),(1001,.obox (.agg [.full 1002 [0] (.struct [.int .i64,.int .i64]),.full 1002 [1] (.struct [.int .i64,.int .i64])])),(1002,.agg [.own (.struct [.int .i64,.int .i64]),.own (.struct [.int .i64,.int .i64])]),(1003,.obox (.agg [.full 1004 [0] (.struct [.int .i64,.int .i64]),.full 1004 [1] (.struct [.int .i64,.int .i64])])),(1004,.agg [.own (.struct [.int .i64,.int .i64]),.own (.struct [.int .i64,.int .i64])]),(1005,.own (.slice (.int .i64)))]⟩)],fun _ ds k=>dB (fun x0 ds=>dI (fun x1 ds=>dI (fun x2 ds=>dI (fun x3 ds=>dL (fun x4 ds=>dL (fun x5 ds=>dL (fun x6 ds=>dL (fun x7 ds=>dL (fun x8 ds=>dL (fun x9 ds=>dL (fun x10 ds=>dE ((F x0 x1 x2 x3 x4 x5 x6 x7 x8 x9 x10).bind (Sum.elim (fun y=>k 0 [.B y.1,.B y.2.1,.I y.2.2.1,.I y.2.2.2.1,.L y.2.2.2.2.1,.L y.2.2.2.2.2.1,.L y.2.2.2.2.2.2.1,.L y.2.2.2.2.2.2.2.1,.L y.2.2.2.2.2.2.2.2.1,.L y.2.2.2.2.2.2.2.2.2.1,.L y.2.2.2.2.2.2.2.2.2.2]) (fun y=>k 1 [.B y.1,.I y.2.1,.I y.2.2.1,.L y.2.2.2.1,.L y.2.2.2.2.1,.L y.2.2.2.2.2.1,.L y.2.2.2.2.2.2.1,.L y.2.2.2.2.2.2.2.1,.L y.2.2.2.2.2.2.2.2.1,.L y.2.2.2.2.2.2.2.2.2]))) ds) ds) ds) ds) ds) ds) ds) ds) ds) ds) ds) ds⟩
theorem q_Z117 (F:T_Z117) (x0:Bool) (x1 x2 x3:Int) (x4 x5 x6 x7 x8 x9 x10:List D):J2 (Jr [e_Z116]) (Js [m_Z117 F]) A 3 (Jk (Jh Try.f3) 20) ((m_Z117 F).sh.mk' [.B x0,.I x1,.I x2,.I x3,.L x4,.L x5,.L x6,.L x7,.L x8,.L x9,.L x10]) (fun e σ'=>some (e,σ'))=c_Z117 F x0 x1 x2 x3 x4 x5 x6 x7 x8 x9 x10 (Sum.elim (fun y=>some (.ret,SSt.mk' ⟨(.undef::.undef::.bool::.ptr 1000 [0]::.ptr 1001 [0]::.undef::.undef::.undef::.ptr 1003 [0]::.bool::.full 1005 [] (.slice (.int .i64))::.undef::.undef::.undef::.int .i64::.int .i64::uu 174 ([])),[(1000,.obox (.agg [.own (.struct [.int .i64,.int .i64]),.own (.struct [.int .i64,.int .i64])])),(1001,.obox (.agg [.full 1002 [0] (.struct [.int .i64,.int .i64]),.full 1002 [1] (.struct [.int .i64,.int .i64])])),(1002,.agg [.own (.struct [.int .i64,.int .i64]),.own (.struct [.int .i64,.int .i64])]),(1003,.obox (.agg [.full 1004 [0] (.struct [.int .i64,.int .i64]),.full 1004 [1] (.struct [.int .i64,.int .i64])])),(1004,.agg [.own (.struct [.int .i64,.int .i64]),.own (.struct [.int .i64,.int .i64])]),(1005,.own (.slice (.int .i64)))]⟩ [.B y.1,.B y.2.1,.I y.2.2.1,.I y.2.2.2.1,.L y.2.2.2.2.1,.L y.2.2.2.2.2.1,.L y.2.2.2.2.2.2.1,.L y.2.2.2.2.2.2.2.1,.L y.2.2.2.2.2.2.2.2.1,.L y.2.2.2.2.2.2.2.2.2.1,.L y.2.2.2.2.2.2.2.2.2.2])) (fun y=>some (.exit 2,SSt.mk' ⟨(.undef::.undef::.undef::.ptr 1000 [0]::.ptr 1001 [0]::.undef::.undef::.undef::.ptr 1003 [0]::.bool::.full 1005 [] (.slice (.int .i64))::.undef::.undef::.undef::.int .i64::.int .i64::uu 174 ([])),[(1000,.obox (.agg [.own (.struct [.int .i64,.int .i64]),.own (.struct [.int .i64,.int .i64])])),(1001,.obox (.agg [.full 1002 [0] (.struct [.int .i64,.int .i64]),.full 1002 [1] (.struct [.int .i64,.int .i64])])),(1002,.agg [.own (.struct [.int .i64,.int .i64]),.own (.struct [.int .i64,.int .i64])]),(1003,.obox (.agg [.full 1004 [0] (.struct [.int .i64,.int .i64]),.full 1004 [1] (.struct [.int .i64,.int .i64])])),(1004,.agg [.own (.struct [.int .i64,.int .i64]),.own (.struct [.int .i64,.int .i64])]),(1005,.own (.slice (.int .i64)))]⟩ [.B y.1,.I y.2.1,.I y.2.2.1,.L y.2.2.2.1,.L y.2.2.2.2.1,.L y.2.2.2.2.2.1,.L y.2.2.2.2.2.2.1,.L y.2.2.2.2.2.2.2.1,.L y.2.2.2.2.2.2.2.2.1,.L y.2.2.2.2.2.2.2.2.2]))):=by kernel_rfl
theorem m_Z117_ok:∀ n,(m_Z117 (n_Z117 n)).ok Try.prog (Jk (Jh Try.f3) 20):=by
 intro n
 induction n with
 | zero=>
  intro R ds k r h
  unfold m_Z117 at h
  obtain ⟨_,_,rfl,h⟩:=Us h
  obtain ⟨_,_,rfl,h⟩:=Jb h
  obtain ⟨_,_,rfl,h⟩:=Jb h
  obtain ⟨_,_,rfl,h⟩:=Jb h
  obtain ⟨_,_,rfl,h⟩:=Ja h
  obtain ⟨_,_,rfl,h⟩:=Ja h
  obtain ⟨_,_,rfl,h⟩:=Ja h
  obtain ⟨_,_,rfl,h⟩:=Ja h
  obtain ⟨_,_,rfl,h⟩:=Ja h
  obtain ⟨_,_,rfl,h⟩:=Ja h
  obtain ⟨_,_,rfl,h⟩:=Ja h
  obtain ⟨rfl,hE⟩:=Je h
  obtain ⟨y,hy,hk⟩:=Jf hE
  cases hy
 | succ n ih=>
  intro R ds k r h
  unfold m_Z117 at h
  obtain ⟨_,_,rfl,h⟩:=Us h
  obtain ⟨_,_,rfl,h⟩:=Jb h
  obtain ⟨_,_,rfl,h⟩:=Jb h
  obtain ⟨_,_,rfl,h⟩:=Jb h
  obtain ⟨_,_,rfl,h⟩:=Ja h
  obtain ⟨_,_,rfl,h⟩:=Ja h
  obtain ⟨_,_,rfl,h⟩:=Ja h
  obtain ⟨_,_,rfl,h⟩:=Ja h
  obtain ⟨_,_,rfl,h⟩:=Ja h
  obtain ⟨_,_,rfl,h⟩:=Ja h
  obtain ⟨_,_,rfl,h⟩:=Ja h
  obtain ⟨rfl,hE⟩:=Je h
  obtain ⟨y,hy,hk⟩:=Jf hE
  cases y with
  | inl y=>
   exact ⟨0,_,_,_,hk,rfl,JP px (fx:=⟨Try.func3,by kernel_rfl,by kernel_rfl⟩) (Jt e_Z116_ok Jn) (Jm ih Jo) (by kernel_rfl) ((q_Z117 ..).trans ((c_Z117_bind ..).trans (Jg hy)))⟩
  | inr y=>
   exact ⟨1,_,_,_,hk,rfl,JP px (fx:=⟨Try.func3,by kernel_rfl,by kernel_rfl⟩) (Jt e_Z116_ok Jn) (Jm ih Jo) (by kernel_rfl) ((q_Z117 ..).trans ((c_Z117_bind ..).trans (Jg hy)))⟩
noncomputable def e_Z117:Jq:=m_Z117 (Z117)
theorem e_Z117_ok:(e_Z117).ok Try.prog (Jk (Jh Try.f3) 20):=by
 intro R ds k r h
 unfold e_Z117 m_Z117 at h
 obtain ⟨_,_,rfl,h⟩:=Us h
 obtain ⟨_,_,rfl,h⟩:=Jb h
 obtain ⟨_,_,rfl,h⟩:=Jb h
 obtain ⟨_,_,rfl,h⟩:=Jb h
 obtain ⟨_,_,rfl,h⟩:=Ja h
 obtain ⟨_,_,rfl,h⟩:=Ja h
 obtain ⟨_,_,rfl,h⟩:=Ja h
 obtain ⟨_,_,rfl,h⟩:=Ja h
 obtain ⟨_,_,rfl,h⟩:=Ja h
 obtain ⟨_,_,rfl,h⟩:=Ja h
 obtain ⟨_,_,rfl,h⟩:=Ja h
 obtain ⟨rfl,hE⟩:=Je h
 obtain ⟨y,hy,hk⟩:=Jf hE
 obtain ⟨n,hn⟩:=J5 hy
 exact m_Z117_ok n R _ k r ((Jg hn).trans hk)

/-!-/
abbrev T_Z118:=Bool→Int→Int→List D→List D→List D→List D→List D→List D→List D→Option ((Bool×Bool×Int×List D×List D×List D×List D×List D×List D)⊕(Bool×Int×List D×List D×List D×List D×List D×List D))
def c_Z118 {R:Type} (F:T_Z118) (x0:Bool) (x1 x2:Int) (x3 x4 x5 x6 x7 x8 x9:List D) (k:(Bool×Bool×Int×List D×List D×List D×List D×List D×List D)⊕(Bool×Int×List D×List D×List D×List D×List D×List D)→Option R):Option R:=
 bif decide (x2<(↑x9.length:Int)) then
 (Z117 x0 x1 x2 (0:Int) x3 x4 x5 x6 x7 x8 x9).bind (Sum.elim (fun y0=>
 k (.inl (y0.fst,y0.snd.fst,y0.snd.snd.fst,y0.snd.snd.snd.snd.fst,y0.snd.snd.snd.snd.snd.fst,y0.snd.snd.snd.snd.snd.snd.fst,y0.snd.snd.snd.snd.snd.snd.snd.fst,y0.snd.snd.snd.snd.snd.snd.snd.snd.fst,y0.snd.snd.snd.snd.snd.snd.snd.snd.snd.fst))) (fun y1=>
 (F y1.fst y1.snd.fst (IntKind.i64.wrap (y1.snd.snd.fst+1)) y1.snd.snd.snd.fst y1.snd.snd.snd.snd.fst y1.snd.snd.snd.snd.snd.fst y1.snd.snd.snd.snd.snd.snd.fst y1.snd.snd.snd.snd.snd.snd.snd.fst y1.snd.snd.snd.snd.snd.snd.snd.snd.fst y1.snd.snd.snd.snd.snd.snd.snd.snd.snd).bind k))
 else
 k (.inr (x0,x1,x3,x4,x5,x6,x7,x8))
theorem c_Z118_bind {R:Type} (F:T_Z118) (x0:Bool) (x1 x2:Int) (x3 x4 x5 x6 x7 x8 x9:List D) (k:(Bool×Bool×Int×List D×List D×List D×List D×List D×List D)⊕(Bool×Int×List D×List D×List D×List D×List D×List D)→Option R):c_Z118 F x0 x1 x2 x3 x4 x5 x6 x7 x8 x9 k=(c_Z118 F x0 x1 x2 x3 x4 x5 x6 x7 x8 x9 some).bind k:=by
 unfold c_Z118
 repeat' first
  | exact JA
  | exact Jz
  | exact Jy
  | apply Jv
  | apply Jw
  | apply JB
  | (apply Jx;intro _)
  | intro _
def n_Z118:Nat→T_Z118
 | 0,_,_,_,_,_,_,_,_,_,_=>none
 | n+1,x0,x1,x2,x3,x4,x5,x6,x7,x8,x9=>c_Z118 (n_Z118 n) x0 x1 x2 x3 x4 x5 x6 x7 x8 x9 some
noncomputable def Z118 (x0:Bool) (x1 x2:Int) (x3 x4 x5 x6 x7 x8 x9:List D):Option ((Bool×Bool×Int×List D×List D×List D×List D×List D×List D)⊕(Bool×Int×List D×List D×List D×List D×List D×List D)):=ev (fun n=>n_Z118 n x0 x1 x2 x3 x4 x5 x6 x7 x8 x9)
def m_Z118 (F:T_Z118):Jq:=⟨17,⟨(.undef::.undef::.undef::.ptr 1000 [0]::.ptr 1001 [0]::.undef::.undef::.undef::.ptr 1003 [0]::.bool::.full 1005 [] (.slice (.int .i64))::.undef::.undef::.undef::.int .i64::.int .i64::uu 174 ([])),[(1000,.obox (.agg [.own (.struct [.int .i64,.int .i64]),.own (.struct [.int .i64,.int .i64])])),(1001,.obox (.agg [.full 1002 [0] (.struct [.int .i64,.int .i64]),.full 1002 [1] (.struct [.int .i64,.int .i64])])),(1002,.agg [.own (.struct [.int .i64,.int .i64]),.own (.struct [.int .i64,.int .i64])]),(1003,.obox (.agg [.full 1004 [0] (.struct [.int .i64,.int .i64]),.full 1004 [1] (.struct [.int .i64,.int .i64])])),(1004,.agg [.own (.struct [.int .i64,.int .i64]),.own (.struct [.int .i64,.int .i64])]),(1005,.own (.slice (.int .i64)))]⟩,[(.ret,⟨(.undef::.undef::.bool::.ptr 1000 [0]::.ptr 1001 [0]::.undef::.undef::.undef::.ptr 1003 [0]::.bool::uu 4 (.int .i64::uu 175 ([]))),[(1000,.obox (.agg [.own (.struct [.int .i64,.int .i64]),.own (.struct [.int .i64,.int .i64])])),(1001,.obox (.agg [.full 1002 [0] (.struct [.int .i64,.int .i64]),.full 1002 [1] (.struct [.int .i64,.int .i64])])),(1002,.agg [.own (.struct [.int .i64,.int .i64]),.own (.struct [.int .i64,.int .i64])]),(1003,.obox (.agg [.full 1004 [0] (.struct [.int .i64,.int .i64]),.full 1004 [1] (.struct [.int .i64,.int .i64])])),(1004,.agg [.own (.struct [.int .i64,.int .i64]),.own (.struct [.int .i64,.int .i64])])]⟩),(.exit 0,⟨(.undef::.undef::.undef::.ptr 1000 [0]::.ptr 1001 [0]::.undef::.undef::.undef::.ptr 1003 [0]::.bool::uu 4 (.int .i64::uu 175 ([]))),[(1000,.obox (.agg [.own (.struct [.int .i64,.int .i64]),.own (.struct [.int .i64,.int .i64])])),(1001,.obox (.agg [.full 1002 [0] (.struct [.int .i64,.int .i64]),.full 1002 [1] (.struct [.int .i64,.int .i64])])),(1002,.agg [.own (.struct [.int .i64,.int .i64]),.own (.struct [.int .i64,.int .i64])]),(1003,.obox (.agg [.full 1004 [0] (.struct [.int .i64,.int .i64]),.full 1004 [1] (.struct [.int .i64,.int .i64])])),(1004,.agg [.own (.struct [.int .i64,.int .i64]),.own (.struct [.int .i64,.int .i64])])]⟩)],fun _ ds k=>dB (fun x0 ds=>dI (fun x1 ds=>dI (fun x2 ds=>dL (fun x3 ds=>dL (fun x4 ds=>dL (fun x5 ds=>dL (fun x6 ds=>dL (fun x7 ds=>dL (fun x8 ds=>dL (fun x9 ds=>dE ((F x0 x1 x2 x3 x4 x5 x6 x7 x8 x9).bind (Sum.elim (fun y=>k 0 [.B y.1,.B y.2.1,.I y.2.2.1,.L y.2.2.2.1,.L y.2.2.2.2.1,.L y.2.2.2.2.2.1,.L y.2.2.2.2.2.2.1,.L y.2.2.2.2.2.2.2.1,.L y.2.2.2.2.2.2.2.2]) (fun y=>k 1 [.B y.1,.I y.2.1,.L y.2.2.1,.L y.2.2.2.1,.L y.2.2.2.2.1,.L y.2.2.2.2.2.1,.L y.2.2.2.2.2.2.1,.L y.2.2.2.2.2.2.2]))) ds) ds) ds) ds) ds) ds) ds) ds) ds) ds) ds⟩
theorem q_Z118 (F:T_Z118) (x0:Bool) (x1 x2:Int) (x3 x4 x5 x6 x7 x8 x9:List D):J2 (Jr []) (Js [m_Z118 F,e_Z117]) A 3 (Jk (Jh Try.f3) 17) ((m_Z118 F).sh.mk' [.B x0,.I x1,.I x2,.L x3,.L x4,.L x5,.L x6,.L x7,.L x8,.L x9]) (fun e σ'=>some (e,σ'))=c_Z118 F x0 x1 x2 x3 x4 x5 x6 x7 x8 x9 (Sum.elim (fun y=>some (.ret,SSt.mk' ⟨(.undef::.undef::.bool::.ptr 1000 [0]::.ptr 1001 [0]::.undef::.undef::.undef::.ptr 1003 [0]::.bool::uu 4 (.int .i64::uu 175 ([]))),[(1000,.obox (.agg [.own (.struct [.int .i64,.int .i64]),.own (.struct [.int .i64,.int .i64])])),(1001,.obox (.agg [.full 1002 [0] (.struct [.int .i64,.int .i64]),.full 1002 [1] (.struct [.int .i64,.int .i64])])),(1002,.agg [.own (.struct [.int .i64,.int .i64]),.own (.struct [.int .i64,.int .i64])]),(1003,.obox (.agg [.full 1004 [0] (.struct [.int .i64,.int .i64]),.full 1004 [1] (.struct [.int .i64,.int .i64])])),(1004,.agg [.own (.struct [.int .i64,.int .i64]),.own (.struct [.int .i64,.int .i64])])]⟩ [.B y.1,.B y.2.1,.I y.2.2.1,.L y.2.2.2.1,.L y.2.2.2.2.1,.L y.2.2.2.2.2.1,.L y.2.2.2.2.2.2.1,.L y.2.2.2.2.2.2.2.1,.L y.2.2.2.2.2.2.2.2])) (fun y=>some (.exit 0,SSt.mk' ⟨(.undef::.undef::.undef::.ptr 1000 [0]::.ptr 1001 [0]::.undef::.undef::.undef::.ptr 1003 [0]::.bool::uu 4 (.int .i64::uu 175 ([]))),[(1000,.obox (.agg [.own (.struct [.int .i64,.int .i64]),.own (.struct [.int .i64,.int .i64])])),(1001,.obox (.agg [.full 1002 [0] (.struct [.int .i64,.int .i64]),.full 1002 [1] (.struct [.int .i64,.int .i64])])),(1002,.agg [.own (.struct [.int .i64,.int .i64]),.own (.struct [.int .i64,.int .i64])]),(1003,.obox (.agg [.full 1004 [0] (.struct [.int .i64,.int .i64]),.full 1004 [1] (.struct [.int .i64,.int .i64])])),(1004,.agg [.own (.struct [.int .i64,.int .i64]),.own (.struct [.int .i64,.int .i64])])]⟩ [.B y.1,.I y.2.1,.L y.2.2.1,.L y.2.2.2.1,.L y.2.2.2.2.1,.L y.2.2.2.2.2.1,.L y.2.2.2.2.2.2.1,.L y.2.2.2.2.2.2.2]))):=by kernel_rfl
theorem m_Z118_ok:∀ n,(m_Z118 (n_Z118 n)).ok Try.prog (Jk (Jh Try.f3) 17):=by
 intro n
 induction n with
 | zero=>
  intro R ds k r h
  unfold m_Z118 at h
  obtain ⟨_,_,rfl,h⟩:=Us h
  obtain ⟨_,_,rfl,h⟩:=Jb h
  obtain ⟨_,_,rfl,h⟩:=Jb h
  obtain ⟨_,_,rfl,h⟩:=Ja h
  obtain ⟨_,_,rfl,h⟩:=Ja h
  obtain ⟨_,_,rfl,h⟩:=Ja h
  obtain ⟨_,_,rfl,h⟩:=Ja h
  obtain ⟨_,_,rfl,h⟩:=Ja h
  obtain ⟨_,_,rfl,h⟩:=Ja h
  obtain ⟨_,_,rfl,h⟩:=Ja h
  obtain ⟨rfl,hE⟩:=Je h
  obtain ⟨y,hy,hk⟩:=Jf hE
  cases hy
 | succ n ih=>
  intro R ds k r h
  unfold m_Z118 at h
  obtain ⟨_,_,rfl,h⟩:=Us h
  obtain ⟨_,_,rfl,h⟩:=Jb h
  obtain ⟨_,_,rfl,h⟩:=Jb h
  obtain ⟨_,_,rfl,h⟩:=Ja h
  obtain ⟨_,_,rfl,h⟩:=Ja h
  obtain ⟨_,_,rfl,h⟩:=Ja h
  obtain ⟨_,_,rfl,h⟩:=Ja h
  obtain ⟨_,_,rfl,h⟩:=Ja h
  obtain ⟨_,_,rfl,h⟩:=Ja h
  obtain ⟨_,_,rfl,h⟩:=Ja h
  obtain ⟨rfl,hE⟩:=Je h
  obtain ⟨y,hy,hk⟩:=Jf hE
  cases y with
  | inl y=>
   exact ⟨0,_,_,_,hk,rfl,JP px (fx:=⟨Try.func3,by kernel_rfl,by kernel_rfl⟩) Jn (Jm ih (Jm e_Z117_ok Jo)) (by kernel_rfl) ((q_Z118 ..).trans ((c_Z118_bind ..).trans (Jg hy)))⟩
  | inr y=>
   exact ⟨1,_,_,_,hk,rfl,JP px (fx:=⟨Try.func3,by kernel_rfl,by kernel_rfl⟩) Jn (Jm ih (Jm e_Z117_ok Jo)) (by kernel_rfl) ((q_Z118 ..).trans ((c_Z118_bind ..).trans (Jg hy)))⟩
noncomputable def e_Z118:Jq:=m_Z118 (Z118)
theorem e_Z118_ok:(e_Z118).ok Try.prog (Jk (Jh Try.f3) 17):=by
 intro R ds k r h
 unfold e_Z118 m_Z118 at h
 obtain ⟨_,_,rfl,h⟩:=Us h
 obtain ⟨_,_,rfl,h⟩:=Jb h
 obtain ⟨_,_,rfl,h⟩:=Jb h
 obtain ⟨_,_,rfl,h⟩:=Ja h
 obtain ⟨_,_,rfl,h⟩:=Ja h
 obtain ⟨_,_,rfl,h⟩:=Ja h
 obtain ⟨_,_,rfl,h⟩:=Ja h
 obtain ⟨_,_,rfl,h⟩:=Ja h
 obtain ⟨_,_,rfl,h⟩:=Ja h
 obtain ⟨_,_,rfl,h⟩:=Ja h
 obtain ⟨rfl,hE⟩:=Je h
 obtain ⟨y,hy,hk⟩:=Jf hE
 obtain ⟨n,hn⟩:=J5 hy
 exact m_Z118_ok n R _ k r ((Jg hn).trans hk)

/-!-/
def c_Z119 {R:Type} (x0 x1:List D) (x2 x3:Int) (k:Bool×Bool→Option R):Option R:=
 (Z24 x0 x1 x2).bind (fun y0=>
 (Z24 x0 x1 x3).bind (fun y1=>
 (Z79 x0 x1).bind (fun y2=>
 bif !y2 then
 k (Bool.false,Bool.false)
 else
 bif decide (y0<(0:Int)) then
 k (Bool.false,Bool.false)
 else
 bif decide (y1<(0:Int)) then
 k (Bool.false,Bool.false)
 else
 (Z28 x0 x1).bind (fun y3=>
 if 0≤y0∧y0<(↑y3.length:Int) then
 if y0.toNat+1≤y3.length then
 (Z29 ((y3.getD y0.toNat (D.int 0)).toInt) y1).bind (fun y4=>
 k (y4,Bool.true))
 else
 none
 else
 none))))
theorem c_Z119_bind {R:Type} (x0 x1:List D) (x2 x3:Int) (k:Bool×Bool→Option R):c_Z119 x0 x1 x2 x3 k=(c_Z119 x0 x1 x2 x3 some).bind k:=by
 unfold c_Z119
 repeat' first
  | exact JA
  | exact Jz
  | exact Jy
  | apply Jv
  | apply Jw
  | apply JB
  | (apply Jx;intro _)
  | intro _
def Z119 (x0 x1:List D) (x2 x3:Int):Option (Bool×Bool):=c_Z119 x0 x1 x2 x3 some
def e_Z119:Ent:=⟨16,[.agg [.rd (.struct [.int .i64,.int .i64]),.rd (.struct [.int .i64,.int .i64])],.int .i64,.int .i64],[(.tup [.bool,.bool],[.undef,.undef,.undef])],fun _ ds k=>dL (fun x0 ds=>dL (fun x1 ds=>dI (fun x2 ds=>dI (fun x3 ds=>dE ((Z119 x0 x1 x2 x3).bind (fun y=>k 0 [.B y.1,.B y.2])) ds) ds) ds) ds) ds⟩
theorem q_Z119 (x0 x1:List D) (x2 x3:Int):JX (Jr [e_Z24,e_Z79,e_Z28,e_Z29]) (Js []) A 16 Try.f16 (Sh.mks e_Z119.sh [.L x0,.L x1,.I x2,.I x3]).1 (fun v os=>some (v,os))=c_Z119 x0 x1 x2 x3 (fun y=>J0 e_Z119 0 [.B y.1,.B y.2]):=by kernel_rfl
theorem e_Z119_ok:e_Z119.ok Try.prog A:=by
 intro R ds k r h
 unfold e_Z119 at h
 obtain ⟨_,_,rfl,h⟩:=Ja h
 obtain ⟨_,_,rfl,h⟩:=Ja h
 obtain ⟨_,_,rfl,h⟩:=Jb h
 obtain ⟨_,_,rfl,h⟩:=Jb h
 obtain ⟨rfl,hE⟩:=Je h
 obtain ⟨y,hy,hk⟩:=Jf hE
 exact ⟨0,_,_,_,hk,rfl,J1 px (fx:=⟨Try.func16,by kernel_rfl,by kernel_rfl⟩) (Jt e_Z24_ok (Jt e_Z79_ok (Jt e_Z28_ok (Jt e_Z29_ok Jn)))) Jo ((q_Z119 ..).trans ((c_Z119_bind ..).trans (Jg hy)))⟩

/-!-/
def c_Z120 {R:Type} (x0 x1:List D) (x2:Int) (k:Bool→Option R):Option R:=
 (Z50 x0 x1).bind (fun y0=>
 bif y0 then
 (Z43 x0 x1 x2).bind (fun y1=>
 k (decide ((0:Int)≤y1)))
 else
 k Bool.false)
theorem c_Z120_bind {R:Type} (x0 x1:List D) (x2:Int) (k:Bool→Option R):c_Z120 x0 x1 x2 k=(c_Z120 x0 x1 x2 some).bind k:=by
 unfold c_Z120
 repeat' first
  | exact JA
  | exact Jz
  | exact Jy
  | apply Jv
  | apply Jw
  | apply JB
  | (apply Jx;intro _)
  | intro _
def Z120 (x0 x1:List D) (x2:Int):Option (Bool):=c_Z120 x0 x1 x2 some
def e_Z120:Ent:=⟨62,[.agg [.rd (.struct [.int .i64,.int .i64]),.rd (.struct [.int .i64,.int .i64])],.int .i64],[(.bool,[.undef,.undef])],fun _ ds k=>dL (fun x0 ds=>dL (fun x1 ds=>dI (fun x2 ds=>dE ((Z120 x0 x1 x2).bind (fun y=>k 0 [.B y])) ds) ds) ds) ds⟩
theorem q_Z120 (x0 x1:List D) (x2:Int):JX (Jr [e_Z50,e_Z43]) (Js []) A 62 Try.f62 (Sh.mks e_Z120.sh [.L x0,.L x1,.I x2]).1 (fun v os=>some (v,os))=c_Z120 x0 x1 x2 (fun y=>J0 e_Z120 0 [.B y]):=by kernel_rfl
theorem e_Z120_ok:e_Z120.ok Try.prog A:=by
 intro R ds k r h
 unfold e_Z120 at h
 obtain ⟨_,_,rfl,h⟩:=Ja h
 obtain ⟨_,_,rfl,h⟩:=Ja h
 obtain ⟨_,_,rfl,h⟩:=Jb h
 obtain ⟨rfl,hE⟩:=Je h
 obtain ⟨y,hy,hk⟩:=Jf hE
 exact ⟨0,_,_,_,hk,rfl,J1 px (fx:=⟨Try.func62,by kernel_rfl,by kernel_rfl⟩) (Jt e_Z50_ok (Jt e_Z43_ok Jn)) Jo ((q_Z120 ..).trans ((c_Z120_bind ..).trans (Jg hy)))⟩

/-!-/
def c_Z121 {R:Type} (x0 x1:List D) (x2 x3:Int) (k:Bool×Bool→Option R):Option R:=
 (Z120 x0 x1 x2).bind (fun y0=>
 bif !y0 then
 k (Bool.false,Bool.false)
 else
 (Z120 x0 x1 x3).bind (fun y1=>
 bif !y1 then
 k (Bool.false,Bool.false)
 else
 (Z63 x0 x1).bind (fun y2=>
 (Z43 x0 x1 x2).bind (fun y3=>
 if 0≤y3∧y3<(↑y2.snd.snd.length:Int) then
 if y3.toNat+1≤y2.snd.snd.length then
 (Z43 x0 x1 x3).bind (fun y4=>
 if y3.toNat+1≤y2.snd.snd.length then
 if 0≤y4∧y4<(↑(y2.snd.snd.getD y3.toNat (D.int 0)).items.length:Int) then
 if y3.toNat+1≤y2.snd.snd.length then
 if y4.toNat+1≤(y2.snd.snd.getD y3.toNat (D.int 0)).items.length then
 k (((y2.snd.snd.getD y3.toNat (D.int 0)).items.getD y4.toNat (D.int 0)).toBool,Bool.true)
 else
 none
 else
 none
 else
 none
 else
 none)
 else
 none
 else
 none))))
theorem c_Z121_bind {R:Type} (x0 x1:List D) (x2 x3:Int) (k:Bool×Bool→Option R):c_Z121 x0 x1 x2 x3 k=(c_Z121 x0 x1 x2 x3 some).bind k:=by
 unfold c_Z121
 repeat' first
  | exact JA
  | exact Jz
  | exact Jy
  | apply Jv
  | apply Jw
  | apply JB
  | (apply Jx;intro _)
  | intro _
def Z121 (x0 x1:List D) (x2 x3:Int):Option (Bool×Bool):=c_Z121 x0 x1 x2 x3 some
def e_Z121:Ent:=⟨17,[.agg [.rd (.struct [.int .i64,.int .i64]),.rd (.struct [.int .i64,.int .i64])],.int .i64,.int .i64],[(.tup [.bool,.bool],[.undef,.undef,.undef])],fun _ ds k=>dL (fun x0 ds=>dL (fun x1 ds=>dI (fun x2 ds=>dI (fun x3 ds=>dE ((Z121 x0 x1 x2 x3).bind (fun y=>k 0 [.B y.1,.B y.2])) ds) ds) ds) ds) ds⟩
theorem q_Z121 (x0 x1:List D) (x2 x3:Int):JX (Jr [e_Z120,e_Z63,e_Z43]) (Js []) A 17 Try.f17 (Sh.mks e_Z121.sh [.L x0,.L x1,.I x2,.I x3]).1 (fun v os=>some (v,os))=c_Z121 x0 x1 x2 x3 (fun y=>J0 e_Z121 0 [.B y.1,.B y.2]):=by kernel_rfl
theorem e_Z121_ok:e_Z121.ok Try.prog A:=by
 intro R ds k r h
 unfold e_Z121 at h
 obtain ⟨_,_,rfl,h⟩:=Ja h
 obtain ⟨_,_,rfl,h⟩:=Ja h
 obtain ⟨_,_,rfl,h⟩:=Jb h
 obtain ⟨_,_,rfl,h⟩:=Jb h
 obtain ⟨rfl,hE⟩:=Je h
 obtain ⟨y,hy,hk⟩:=Jf hE
 exact ⟨0,_,_,_,hk,rfl,J1 px (fx:=⟨Try.func17,by kernel_rfl,by kernel_rfl⟩) (Jt e_Z120_ok (Jt e_Z63_ok (Jt e_Z43_ok Jn))) Jo ((q_Z121 ..).trans ((c_Z121_bind ..).trans (Jg hy)))⟩

/-!-/
abbrev T_Z122:=Int→Int→Int→List D→List D→Option ((Bool)⊕(Unit))
def c_Z122 {R:Type} (F:T_Z122) (x0 x1 x2:Int) (x3 x4:List D) (k:(Bool)⊕(Unit)→Option R):Option R:=
 bif decide (x2<(↑x4.length:Int)) then
 if 0≤x2∧x2<(↑x4.length:Int) then
 bif decide (((x4.getD x2.toNat (D.int 0)).fld (0:Nat)).toInt=x0) then
 if 0≤x2∧x2<(↑x4.length:Int) then
 bif decide (((x4.getD x2.toNat (D.int 0)).fld (1:Nat)).toInt=x1) then
 k (.inl Bool.true)
 else
 (F x0 x1 (IntKind.i64.wrap (x2+1)) x3 x4).bind k
 else
 none
 else
 (F x0 x1 (IntKind.i64.wrap (x2+1)) x3 x4).bind k
 else
 none
 else
 k (.inr ())
theorem c_Z122_bind {R:Type} (F:T_Z122) (x0 x1 x2:Int) (x3 x4:List D) (k:(Bool)⊕(Unit)→Option R):c_Z122 F x0 x1 x2 x3 x4 k=(c_Z122 F x0 x1 x2 x3 x4 some).bind k:=by
 unfold c_Z122
 repeat' first
  | exact JA
  | exact Jz
  | exact Jy
  | apply Jv
  | apply Jw
  | apply JB
  | (apply Jx;intro _)
  | intro _
def n_Z122:Nat→T_Z122
 | 0,_,_,_,_,_=>none
 | n+1,x0,x1,x2,x3,x4=>c_Z122 (n_Z122 n) x0 x1 x2 x3 x4 some
noncomputable def Z122 (x0 x1 x2:Int) (x3 x4:List D):Option ((Bool)⊕(Unit)):=ev (fun n=>n_Z122 n x0 x1 x2 x3 x4)
def m_Z122 (F:T_Z122):Jq:=⟨2,⟨(.undef::.int .i64::.int .i64::.ptr 1000 [0]::.undef::.undef::.undef::.int .i64::uu 25 ([])),[(1000,.obox (.agg [.rd (.struct [.int .i64,.int .i64]),.rd (.struct [.int .i64,.int .i64])]))]⟩,[(.ret,⟨(uu 6 (.bool::uu 26 ([]))),[]⟩),(.exit 0,⟨(uu 33 ([])),[]⟩)],fun _ ds k=>dI (fun x0 ds=>dI (fun x1 ds=>dI (fun x2 ds=>dL (fun x3 ds=>dL (fun x4 ds=>dE ((F x0 x1 x2 x3 x4).bind (Sum.elim (fun y=>k 0 [.B y]) (fun y=>k 1 []))) ds) ds) ds) ds) ds) ds⟩
theorem q_Z122 (F:T_Z122) (x0 x1 x2:Int) (x3 x4:List D):J2 (Jr []) (Js [m_Z122 F]) A 18 (Jk (Jh Try.f18) 2) ((m_Z122 F).sh.mk' [.I x0,.I x1,.I x2,.L x3,.L x4]) (fun e σ'=>some (e,σ'))=c_Z122 F x0 x1 x2 x3 x4 (Sum.elim (fun y=>some (.ret,SSt.mk' ⟨(uu 6 (.bool::uu 26 ([]))),[]⟩ [.B y])) (fun y=>some (.exit 0,SSt.mk' ⟨(uu 33 ([])),[]⟩ []))):=by kernel_rfl
theorem m_Z122_ok:∀ n,(m_Z122 (n_Z122 n)).ok Try.prog (Jk (Jh Try.f18) 2):=by
 intro n
 induction n with
 | zero=>
  intro R ds k r h
  unfold m_Z122 at h
  obtain ⟨_,_,rfl,h⟩:=Jb h
  obtain ⟨_,_,rfl,h⟩:=Jb h
  obtain ⟨_,_,rfl,h⟩:=Jb h
  obtain ⟨_,_,rfl,h⟩:=Ja h
  obtain ⟨_,_,rfl,h⟩:=Ja h
  obtain ⟨rfl,hE⟩:=Je h
  obtain ⟨y,hy,hk⟩:=Jf hE
  cases hy
 | succ n ih=>
  intro R ds k r h
  unfold m_Z122 at h
  obtain ⟨_,_,rfl,h⟩:=Jb h
  obtain ⟨_,_,rfl,h⟩:=Jb h
  obtain ⟨_,_,rfl,h⟩:=Jb h
  obtain ⟨_,_,rfl,h⟩:=Ja h
  obtain ⟨_,_,rfl,h⟩:=Ja h
  obtain ⟨rfl,hE⟩:=Je h
  obtain ⟨y,hy,hk⟩:=Jf hE
  cases y with
  | inl y=>
   exact ⟨0,_,_,_,hk,rfl,JP px (fx:=⟨Try.func18,by kernel_rfl,by kernel_rfl⟩) Jn (Jm ih Jo) (by kernel_rfl) ((q_Z122 ..).trans ((c_Z122_bind ..).trans (Jg hy)))⟩
  | inr y=>
   exact ⟨1,_,_,_,hk,rfl,JP px (fx:=⟨Try.func18,by kernel_rfl,by kernel_rfl⟩) Jn (Jm ih Jo) (by kernel_rfl) ((q_Z122 ..).trans ((c_Z122_bind ..).trans (Jg hy)))⟩
noncomputable def e_Z122:Jq:=m_Z122 (Z122)
theorem e_Z122_ok:(e_Z122).ok Try.prog (Jk (Jh Try.f18) 2):=by
 intro R ds k r h
 unfold e_Z122 m_Z122 at h
 obtain ⟨_,_,rfl,h⟩:=Jb h
 obtain ⟨_,_,rfl,h⟩:=Jb h
 obtain ⟨_,_,rfl,h⟩:=Jb h
 obtain ⟨_,_,rfl,h⟩:=Ja h
 obtain ⟨_,_,rfl,h⟩:=Ja h
 obtain ⟨rfl,hE⟩:=Je h
 obtain ⟨y,hy,hk⟩:=Jf hE
 obtain ⟨n,hn⟩:=J5 hy
 exact m_Z122_ok n R _ k r ((Jg hn).trans hk)

/-!-/
def c_Z123 {R:Type} (x0 x1:List D) (x2 x3:Int) (k:Bool→Option R):Option R:=
 (Z122 x2 x3 (0:Int) x0 x1).bind (Sum.elim (fun y0=>
 k y0) (fun y1=>
 k Bool.false))
theorem c_Z123_bind {R:Type} (x0 x1:List D) (x2 x3:Int) (k:Bool→Option R):c_Z123 x0 x1 x2 x3 k=(c_Z123 x0 x1 x2 x3 some).bind k:=by
 unfold c_Z123
 repeat' first
  | exact JA
  | exact Jz
  | exact Jy
  | apply Jv
  | apply Jw
  | apply JB
  | (apply Jx;intro _)
  | intro _
def Z123 (x0 x1:List D) (x2 x3:Int):Option (Bool):=c_Z123 x0 x1 x2 x3 some
def e_Z123:Ent:=⟨18,[.agg [.rd (.struct [.int .i64,.int .i64]),.rd (.struct [.int .i64,.int .i64])],.int .i64,.int .i64],[(.bool,[.undef,.undef,.undef])],fun _ ds k=>dL (fun x0 ds=>dL (fun x1 ds=>dI (fun x2 ds=>dI (fun x3 ds=>dE ((Z123 x0 x1 x2 x3).bind (fun y=>k 0 [.B y])) ds) ds) ds) ds) ds⟩
theorem q_Z123 (x0 x1:List D) (x2 x3:Int):JX (Jr []) (Js [e_Z122]) A 18 Try.f18 (Sh.mks e_Z123.sh [.L x0,.L x1,.I x2,.I x3]).1 (fun v os=>some (v,os))=c_Z123 x0 x1 x2 x3 (fun y=>J0 e_Z123 0 [.B y]):=by kernel_rfl
theorem e_Z123_ok:e_Z123.ok Try.prog A:=by
 intro R ds k r h
 unfold e_Z123 at h
 obtain ⟨_,_,rfl,h⟩:=Ja h
 obtain ⟨_,_,rfl,h⟩:=Ja h
 obtain ⟨_,_,rfl,h⟩:=Jb h
 obtain ⟨_,_,rfl,h⟩:=Jb h
 obtain ⟨rfl,hE⟩:=Je h
 obtain ⟨y,hy,hk⟩:=Jf hE
 exact ⟨0,_,_,_,hk,rfl,J1 px (fx:=⟨Try.func18,by kernel_rfl,by kernel_rfl⟩) Jn (Jm e_Z122_ok Jo) ((q_Z123 ..).trans ((c_Z123_bind ..).trans (Jg hy)))⟩

/-!-/
abbrev T_Z124:=Bool→Int→Int→List D→List D→List D→List D→List D→List D→Option ((Bool×Bool×Int×List D×List D×List D×List D×List D×List D)⊕(Bool×Int×List D×List D×List D×List D×List D×List D))
def c_Z124 {R:Type} (F:T_Z124) (x0:Bool) (x1 x2:Int) (x3 x4 x5 x6 x7 x8:List D) (k:(Bool×Bool×Int×List D×List D×List D×List D×List D×List D)⊕(Bool×Int×List D×List D×List D×List D×List D×List D)→Option R):Option R:=
 bif decide (x2<(↑x3.length:Int)) then
 if 0≤x1∧x1<(↑x3.length:Int) then
 if x1.toNat+1≤x3.length then
 if x1.toNat+1≤x3.length then
 if 0≤x2∧x2<(↑x3.length:Int) then
 if x2.toNat+1≤x3.length then
 if x2.toNat+1≤x3.length then
 (Z119 x3 x4 (((x3.getD x1.toNat (D.int 0)).fld (0:Nat)).toInt) (((x3.getD x2.toNat (D.int 0)).fld (0:Nat)).toInt)).bind (fun y0=>
 (Z121 x5 x6 (((x3.getD x1.toNat (D.int 0)).fld (0:Nat)).toInt) (((x3.getD x2.toNat (D.int 0)).fld (0:Nat)).toInt)).bind (fun y1=>
 bif !y1.snd then
 k (.inl (Bool.false,x0,x1,x3,x4,x5,x6,x7,x8))
 else
 bif !y1.fst==y0.fst then
 k (.inl (Bool.false,x0,x1,x3,x4,x5,x6,x7,x8))
 else
 bif x0 then
 (Z123 x7 x8 (((x3.getD x1.toNat (D.int 0)).fld (0:Nat)).toInt) (((x3.getD x2.toNat (D.int 0)).fld (0:Nat)).toInt)).bind (fun y2=>
 bif !y2==y0.fst then
 k (.inl (Bool.false,x0,x1,x3,x4,x5,x6,x7,x8))
 else
 (F x0 x1 (IntKind.i64.wrap (x2+1)) x3 x4 x5 x6 x7 x8).bind k)
 else
 (F x0 x1 (IntKind.i64.wrap (x2+1)) x3 x4 x5 x6 x7 x8).bind k))
 else
 none
 else
 none
 else
 none
 else
 none
 else
 none
 else
 none
 else
 k (.inr (x0,x1,x3,x4,x5,x6,x7,x8))
theorem c_Z124_bind {R:Type} (F:T_Z124) (x0:Bool) (x1 x2:Int) (x3 x4 x5 x6 x7 x8:List D) (k:(Bool×Bool×Int×List D×List D×List D×List D×List D×List D)⊕(Bool×Int×List D×List D×List D×List D×List D×List D)→Option R):c_Z124 F x0 x1 x2 x3 x4 x5 x6 x7 x8 k=(c_Z124 F x0 x1 x2 x3 x4 x5 x6 x7 x8 some).bind k:=by
 unfold c_Z124
 repeat' first
  | exact JA
  | exact Jz
  | exact Jy
  | apply Jv
  | apply Jw
  | apply JB
  | (apply Jx;intro _)
  | intro _
def n_Z124:Nat→T_Z124
 | 0,_,_,_,_,_,_,_,_,_=>none
 | n+1,x0,x1,x2,x3,x4,x5,x6,x7,x8=>c_Z124 (n_Z124 n) x0 x1 x2 x3 x4 x5 x6 x7 x8 some
noncomputable def Z124 (x0:Bool) (x1 x2:Int) (x3 x4 x5 x6 x7 x8:List D):Option ((Bool×Bool×Int×List D×List D×List D×List D×List D×List D)⊕(Bool×Int×List D×List D×List D×List D×List D×List D)):=ev (fun n=>n_Z124 n x0 x1 x2 x3 x4 x5 x6 x7 x8)
def m_Z124 (F:T_Z124):Jq:=⟨32,⟨(.undef::.undef::.undef::.ptr 1000 [0]::.ptr 1001 [0]::.undef::.undef::.undef::.ptr 1003 [0]::.bool::uu 9 (.int .i64::.int .i64::uu 169 ([]))),[(1000,.obox (.agg [.own (.struct [.int .i64,.int .i64]),.own (.struct [.int .i64,.int .i64])])),(1001,.obox (.agg [.full 1002 [0] (.struct [.int .i64,.int .i64]),.full 1002 [1] (.struct [.int .i64,.int .i64])])),(1002,.agg [.own (.struct [.int .i64,.int .i64]),.own (.struct [.int .i64,.int .i64])]),(1003,.obox (.agg [.full 1004 [0] (.struct [.int .i64,.int .i64]),.full 1004 [1] (.struct [.int .i64,.int .i64])])),(1004,.agg [.own (.struct [.int .i64,.int .i64]),.own (.struct [.int .i64,.int .i64])])]⟩,[(.ret,⟨(.undef::.undef::.bool::.ptr 1000 [0]::.ptr 1001 [0]::.undef::.undef::.undef::.ptr 1003 [0]::.bool::uu 9 (.int .i64::uu 170 ([]))),[(1000,.obox (.agg [.own (.struct [.int .i64,.int .i64]),.own (.struct [.int .i64,.int .i64])])),(1001,.obox (.agg [.full 1002 [0] (.struct [.int .i64,.int .i64]),.full 1002 [1] (.struct [.int .i64,.int .i64])])),(1002,.agg [.own (.struct [.int .i64,.int .i64]),.own (.struct [.int .i64,.int .i64])]),(1003,.obox (.agg [.full 1004 [0] (.struct [.int .i64,.int .i64]),.full 1004 [1] (.struct [.int .i64,.int .i64])])),(1004,.agg [.own (.struct [.int .i64,.int .i64]),.own (.struct [.int .i64,.int .i64])])]⟩),(.exit 6,⟨(.undef::.undef::.undef::.ptr 1000 [0]::.ptr 1001 [0]::.undef::.undef::.undef::.ptr 1003 [0]::.bool::uu 9 (.int .i64::uu 170 ([]))),[(1000,.obox (.agg [.own (.struct [.int .i64,.int .i64]),.own (.struct [.int .i64,.int .i64])])),(1001,.obox (.agg [.full 1002 [0] (.struct [.int .i64,.int .i64]),.full 1002 [1] (.struct [.int .i64,.int .i64])])),(1002,.agg [.own (.struct [.int .i64,.int .i64]),.own (.struct [.int .i64,.int .i64])]),(1003,.obox (.agg [.full 1004 [0] (.struct [.int .i64,.int .i64]),.full 1004 [1] (.struct [.int .i64,.int .i64])])),(1004,.agg [.own (.struct [.int .i64,.int .i64]),.own (.struct [.int .i64,.int .i64])])]⟩)],fun _ ds k=>dB (fun x0 ds=>dI (fun x1 ds=>dI (fun x2 ds=>dL (fun x3 ds=>dL (fun x4 ds=>dL (fun x5 ds=>dL (fun x6 ds=>dL (fun x7 ds=>dL (fun x8 ds=>dE ((F x0 x1 x2 x3 x4 x5 x6 x7 x8).bind (Sum.elim (fun y=>k 0 [.B y.1,.B y.2.1,.I y.2.2.1,.L y.2.2.2.1,.L y.2.2.2.2.1,.L y.2.2.2.2.2.1,.L y.2.2.2.2.2.2.1,.L y.2.2.2.2.2.2.2.1,.L y.2.2.2.2.2.2.2.2]) (fun y=>k 1 [.B y.1,.I y.2.1,.L y.2.2.1,.L y.2.2.2.1,.L y.2.2.2.2.1,.L y.2.2.2.2.2.1,.L y.2.2.2.2.2.2.1,.L y.2.2.2.2.2.2.2]))) ds) ds) ds) ds) ds) ds) ds) ds) ds) ds⟩
theorem q_Z124 (F:T_Z124) (x0:Bool) (x1 x2:Int) (x3 x4 x5 x6 x7 x8:List D):J2 (Jr [e_Z119,e_Z121,e_Z123]) (Js [m_Z124 F]) A 3 (Jk (Jh Try.f3) 32) ((m_Z124 F).sh.mk' [.B x0,.I x1,.I x2,.L x3,.L x4,.L x5,.L x6,.L x7,.L x8]) (fun e σ'=>some (e,σ'))=c_Z124 F x0 x1 x2 x3 x4 x5 x6 x7 x8 (Sum.elim (fun y=>some (.ret,SSt.mk' ⟨(.undef::.undef::.bool::.ptr 1000 [0]::.ptr 1001 [0]::.undef::.undef::.undef::.ptr 1003 [0]::.bool::uu 9 (.int .i64::uu 170 ([]))),[(1000,.obox (.agg [.own (.struct [.int .i64,.int .i64]),.own (.struct [.int .i64,.int .i64])])),(1001,.obox (.agg [.full 1002 [0] (.struct [.int .i64,.int .i64]),.full 1002 [1] (.struct [.int .i64,.int .i64])])),(1002,.agg [.own (.struct [.int .i64,.int .i64]),.own (.struct [.int .i64,.int .i64])]),(1003,.obox (.agg [.full 1004 [0] (.struct [.int .i64,.int .i64]),.full 1004 [1] (.struct [.int .i64,.int .i64])])),(1004,.agg [.own (.struct [.int .i64,.int .i64]),.own (.struct [.int .i64,.int .i64])])]⟩ [.B y.1,.B y.2.1,.I y.2.2.1,.L y.2.2.2.1,.L y.2.2.2.2.1,.L y.2.2.2.2.2.1,.L y.2.2.2.2.2.2.1,.L y.2.2.2.2.2.2.2.1,.L y.2.2.2.2.2.2.2.2])) (fun y=>some (.exit 6,SSt.mk' ⟨(.undef::.undef::.undef::.ptr 1000 [0]::.ptr 1001 [0]::.undef::.undef::.undef::.ptr 1003 [0]::.bool::uu 9 (.int .i64::uu 170 ([]))),[(1000,.obox (.agg [.own (.struct [.int .i64,.int .i64]),.own (.struct [.int .i64,.int .i64])])),(1001,.obox (.agg [.full 1002 [0] (.struct [.int .i64,.int .i64]),.full 1002 [1] (.struct [.int .i64,.int .i64])])),(1002,.agg [.own (.struct [.int .i64,.int .i64]),.own (.struct [.int .i64,.int .i64])]),(1003,.obox (.agg [.full 1004 [0] (.struct [.int .i64,.int .i64]),.full 1004 [1] (.struct [.int .i64,.int .i64])])),(1004,.agg [.own (.struct [.int .i64,.int .i64]),.own (.struct [.int .i64,.int .i64])])]⟩ [.B y.1,.I y.2.1,.L y.2.2.1,.L y.2.2.2.1,.L y.2.2.2.2.1,.L y.2.2.2.2.2.1,.L y.2.2.2.2.2.2.1,.L y.2.2.2.2.2.2.2]))):=by kernel_rfl
theorem m_Z124_ok:∀ n,(m_Z124 (n_Z124 n)).ok Try.prog (Jk (Jh Try.f3) 32):=by
 intro n
 induction n with
 | zero=>
  intro R ds k r h
  unfold m_Z124 at h
  obtain ⟨_,_,rfl,h⟩:=Us h
  obtain ⟨_,_,rfl,h⟩:=Jb h
  obtain ⟨_,_,rfl,h⟩:=Jb h
  obtain ⟨_,_,rfl,h⟩:=Ja h
  obtain ⟨_,_,rfl,h⟩:=Ja h
  obtain ⟨_,_,rfl,h⟩:=Ja h
  obtain ⟨_,_,rfl,h⟩:=Ja h
  obtain ⟨_,_,rfl,h⟩:=Ja h
  obtain ⟨_,_,rfl,h⟩:=Ja h
  obtain ⟨rfl,hE⟩:=Je h
  obtain ⟨y,hy,hk⟩:=Jf hE
  cases hy
 | succ n ih=>
  intro R ds k r h
  unfold m_Z124 at h
  obtain ⟨_,_,rfl,h⟩:=Us h
  obtain ⟨_,_,rfl,h⟩:=Jb h
  obtain ⟨_,_,rfl,h⟩:=Jb h
  obtain ⟨_,_,rfl,h⟩:=Ja h
  obtain ⟨_,_,rfl,h⟩:=Ja h
  obtain ⟨_,_,rfl,h⟩:=Ja h
  obtain ⟨_,_,rfl,h⟩:=Ja h
  obtain ⟨_,_,rfl,h⟩:=Ja h
  obtain ⟨_,_,rfl,h⟩:=Ja h
  obtain ⟨rfl,hE⟩:=Je h
  obtain ⟨y,hy,hk⟩:=Jf hE
  cases y with
  | inl y=>
   exact ⟨0,_,_,_,hk,rfl,JP px (fx:=⟨Try.func3,by kernel_rfl,by kernel_rfl⟩) (Jt e_Z119_ok (Jt e_Z121_ok (Jt e_Z123_ok Jn))) (Jm ih Jo) (by kernel_rfl) ((q_Z124 ..).trans ((c_Z124_bind ..).trans (Jg hy)))⟩
  | inr y=>
   exact ⟨1,_,_,_,hk,rfl,JP px (fx:=⟨Try.func3,by kernel_rfl,by kernel_rfl⟩) (Jt e_Z119_ok (Jt e_Z121_ok (Jt e_Z123_ok Jn))) (Jm ih Jo) (by kernel_rfl) ((q_Z124 ..).trans ((c_Z124_bind ..).trans (Jg hy)))⟩
noncomputable def e_Z124:Jq:=m_Z124 (Z124)
theorem e_Z124_ok:(e_Z124).ok Try.prog (Jk (Jh Try.f3) 32):=by
 intro R ds k r h
 unfold e_Z124 m_Z124 at h
 obtain ⟨_,_,rfl,h⟩:=Us h
 obtain ⟨_,_,rfl,h⟩:=Jb h
 obtain ⟨_,_,rfl,h⟩:=Jb h
 obtain ⟨_,_,rfl,h⟩:=Ja h
 obtain ⟨_,_,rfl,h⟩:=Ja h
 obtain ⟨_,_,rfl,h⟩:=Ja h
 obtain ⟨_,_,rfl,h⟩:=Ja h
 obtain ⟨_,_,rfl,h⟩:=Ja h
 obtain ⟨_,_,rfl,h⟩:=Ja h
 obtain ⟨rfl,hE⟩:=Je h
 obtain ⟨y,hy,hk⟩:=Jf hE
 obtain ⟨n,hn⟩:=J5 hy
 exact m_Z124_ok n R _ k r ((Jg hn).trans hk)

/-!-/
abbrev T_Z125:=Bool→Int→List D→List D→List D→List D→List D→List D→Option ((Bool×List D×List D)⊕(List D×List D))
def c_Z125 {R:Type} (F:T_Z125) (x0:Bool) (x1:Int) (x2 x3 x4 x5 x6 x7:List D) (k:(Bool×List D×List D)⊕(List D×List D)→Option R):Option R:=
 bif decide (x1<(↑x2.length:Int)) then
 (Z124 x0 x1 (0:Int) x2 x3 x4 x5 x6 x7).bind (Sum.elim (fun y0=>
 k (.inl (y0.fst,y0.snd.snd.snd.snd.snd.fst,y0.snd.snd.snd.snd.snd.snd.fst))) (fun y1=>
 (F y1.fst (IntKind.i64.wrap (y1.snd.fst+1)) y1.snd.snd.fst y1.snd.snd.snd.fst y1.snd.snd.snd.snd.fst y1.snd.snd.snd.snd.snd.fst y1.snd.snd.snd.snd.snd.snd.fst y1.snd.snd.snd.snd.snd.snd.snd).bind k))
 else
 k (.inr (x4,x5))
theorem c_Z125_bind {R:Type} (F:T_Z125) (x0:Bool) (x1:Int) (x2 x3 x4 x5 x6 x7:List D) (k:(Bool×List D×List D)⊕(List D×List D)→Option R):c_Z125 F x0 x1 x2 x3 x4 x5 x6 x7 k=(c_Z125 F x0 x1 x2 x3 x4 x5 x6 x7 some).bind k:=by
 unfold c_Z125
 repeat' first
  | exact JA
  | exact Jz
  | exact Jy
  | apply Jv
  | apply Jw
  | apply JB
  | (apply Jx;intro _)
  | intro _
def n_Z125:Nat→T_Z125
 | 0,_,_,_,_,_,_,_,_=>none
 | n+1,x0,x1,x2,x3,x4,x5,x6,x7=>c_Z125 (n_Z125 n) x0 x1 x2 x3 x4 x5 x6 x7 some
noncomputable def Z125 (x0:Bool) (x1:Int) (x2 x3 x4 x5 x6 x7:List D):Option ((Bool×List D×List D)⊕(List D×List D)):=ev (fun n=>n_Z125 n x0 x1 x2 x3 x4 x5 x6 x7)
def m_Z125 (F:T_Z125):Jq:=⟨29,⟨(.undef::.undef::.undef::.ptr 1000 [0]::.ptr 1001 [0]::.undef::.undef::.undef::.ptr 1003 [0]::.bool::uu 9 (.int .i64::uu 170 ([]))),[(1000,.obox (.agg [.own (.struct [.int .i64,.int .i64]),.own (.struct [.int .i64,.int .i64])])),(1001,.obox (.agg [.full 1002 [0] (.struct [.int .i64,.int .i64]),.full 1002 [1] (.struct [.int .i64,.int .i64])])),(1002,.agg [.own (.struct [.int .i64,.int .i64]),.own (.struct [.int .i64,.int .i64])]),(1003,.obox (.agg [.full 1004 [0] (.struct [.int .i64,.int .i64]),.full 1004 [1] (.struct [.int .i64,.int .i64])])),(1004,.agg [.own (.struct [.int .i64,.int .i64]),.own (.struct [.int .i64,.int .i64])])]⟩,[(.ret,⟨(.undef::.undef::.bool::.undef::.ptr 1000 [0]::uu 185 ([])),[(1000,.obox (.agg [.full 1001 [0] (.struct [.int .i64,.int .i64]),.full 1001 [1] (.struct [.int .i64,.int .i64])])),(1001,.agg [.own (.struct [.int .i64,.int .i64]),.own (.struct [.int .i64,.int .i64])])]⟩),(.exit 4,⟨(uu 4 (.ptr 1000 [0]::uu 185 ([]))),[(1000,.obox (.agg [.full 1001 [0] (.struct [.int .i64,.int .i64]),.full 1001 [1] (.struct [.int .i64,.int .i64])])),(1001,.agg [.own (.struct [.int .i64,.int .i64]),.own (.struct [.int .i64,.int .i64])])]⟩)],fun _ ds k=>dB (fun x0 ds=>dI (fun x1 ds=>dL (fun x2 ds=>dL (fun x3 ds=>dL (fun x4 ds=>dL (fun x5 ds=>dL (fun x6 ds=>dL (fun x7 ds=>dE ((F x0 x1 x2 x3 x4 x5 x6 x7).bind (Sum.elim (fun y=>k 0 [.B y.1,.L y.2.1,.L y.2.2]) (fun y=>k 1 [.L y.1,.L y.2]))) ds) ds) ds) ds) ds) ds) ds) ds) ds⟩
theorem q_Z125 (F:T_Z125) (x0:Bool) (x1:Int) (x2 x3 x4 x5 x6 x7:List D):J2 (Jr []) (Js [m_Z125 F,e_Z124]) A 3 (Jk (Jh Try.f3) 29) ((m_Z125 F).sh.mk' [.B x0,.I x1,.L x2,.L x3,.L x4,.L x5,.L x6,.L x7]) (fun e σ'=>some (e,σ'))=c_Z125 F x0 x1 x2 x3 x4 x5 x6 x7 (Sum.elim (fun y=>some (.ret,SSt.mk' ⟨(.undef::.undef::.bool::.undef::.ptr 1000 [0]::uu 185 ([])),[(1000,.obox (.agg [.full 1001 [0] (.struct [.int .i64,.int .i64]),.full 1001 [1] (.struct [.int .i64,.int .i64])])),(1001,.agg [.own (.struct [.int .i64,.int .i64]),.own (.struct [.int .i64,.int .i64])])]⟩ [.B y.1,.L y.2.1,.L y.2.2])) (fun y=>some (.exit 4,SSt.mk' ⟨(uu 4 (.ptr 1000 [0]::uu 185 ([]))),[(1000,.obox (.agg [.full 1001 [0] (.struct [.int .i64,.int .i64]),.full 1001 [1] (.struct [.int .i64,.int .i64])])),(1001,.agg [.own (.struct [.int .i64,.int .i64]),.own (.struct [.int .i64,.int .i64])])]⟩ [.L y.1,.L y.2]))):=by kernel_rfl
theorem m_Z125_ok:∀ n,(m_Z125 (n_Z125 n)).ok Try.prog (Jk (Jh Try.f3) 29):=by
 intro n
 induction n with
 | zero=>
  intro R ds k r h
  unfold m_Z125 at h
  obtain ⟨_,_,rfl,h⟩:=Us h
  obtain ⟨_,_,rfl,h⟩:=Jb h
  obtain ⟨_,_,rfl,h⟩:=Ja h
  obtain ⟨_,_,rfl,h⟩:=Ja h
  obtain ⟨_,_,rfl,h⟩:=Ja h
  obtain ⟨_,_,rfl,h⟩:=Ja h
  obtain ⟨_,_,rfl,h⟩:=Ja h
  obtain ⟨_,_,rfl,h⟩:=Ja h
  obtain ⟨rfl,hE⟩:=Je h
  obtain ⟨y,hy,hk⟩:=Jf hE
  cases hy
 | succ n ih=>
  intro R ds k r h
  unfold m_Z125 at h
  obtain ⟨_,_,rfl,h⟩:=Us h
  obtain ⟨_,_,rfl,h⟩:=Jb h
  obtain ⟨_,_,rfl,h⟩:=Ja h
  obtain ⟨_,_,rfl,h⟩:=Ja h
  obtain ⟨_,_,rfl,h⟩:=Ja h
  obtain ⟨_,_,rfl,h⟩:=Ja h
  obtain ⟨_,_,rfl,h⟩:=Ja h
  obtain ⟨_,_,rfl,h⟩:=Ja h
  obtain ⟨rfl,hE⟩:=Je h
  obtain ⟨y,hy,hk⟩:=Jf hE
  cases y with
  | inl y=>
   exact ⟨0,_,_,_,hk,rfl,JP px (fx:=⟨Try.func3,by kernel_rfl,by kernel_rfl⟩) Jn (Jm ih (Jm e_Z124_ok Jo)) (by kernel_rfl) ((q_Z125 ..).trans ((c_Z125_bind ..).trans (Jg hy)))⟩
  | inr y=>
   exact ⟨1,_,_,_,hk,rfl,JP px (fx:=⟨Try.func3,by kernel_rfl,by kernel_rfl⟩) Jn (Jm ih (Jm e_Z124_ok Jo)) (by kernel_rfl) ((q_Z125 ..).trans ((c_Z125_bind ..).trans (Jg hy)))⟩
noncomputable def e_Z125:Jq:=m_Z125 (Z125)
theorem e_Z125_ok:(e_Z125).ok Try.prog (Jk (Jh Try.f3) 29):=by
 intro R ds k r h
 unfold e_Z125 m_Z125 at h
 obtain ⟨_,_,rfl,h⟩:=Us h
 obtain ⟨_,_,rfl,h⟩:=Jb h
 obtain ⟨_,_,rfl,h⟩:=Ja h
 obtain ⟨_,_,rfl,h⟩:=Ja h
 obtain ⟨_,_,rfl,h⟩:=Ja h
 obtain ⟨_,_,rfl,h⟩:=Ja h
 obtain ⟨_,_,rfl,h⟩:=Ja h
 obtain ⟨_,_,rfl,h⟩:=Ja h
 obtain ⟨rfl,hE⟩:=Je h
 obtain ⟨y,hy,hk⟩:=Jf hE
 obtain ⟨n,hn⟩:=J5 hy
 exact m_Z125_ok n R _ k r ((Jg hn).trans hk)

/-!-/
def c_Z126 {R:Type} (x0 x1:List D) (k:List D×Bool→Option R):Option R:=
 (Z66 x0 x1).bind (Sum.elim (fun y0=>
 bif !y0 then
 k ([],Bool.false)
 else
 (Z70 x0 x1 Bool.true).bind (fun y1=>
 k (y1,Bool.true))) (fun y2=>
 bif !y2.snd.snd.snd then
 k ([],Bool.false)
 else
 (Z74 x0 x1 y2.fst y2.snd.fst y2.snd.snd.fst Bool.true).bind (fun y3=>
 k (y3,Bool.true))))
theorem c_Z126_bind {R:Type} (x0 x1:List D) (k:List D×Bool→Option R):c_Z126 x0 x1 k=(c_Z126 x0 x1 some).bind k:=by
 unfold c_Z126
 repeat' first
  | exact JA
  | exact Jz
  | exact Jy
  | apply Jv
  | apply Jw
  | apply JB
  | (apply Jx;intro _)
  | intro _
def Z126 (x0 x1:List D):Option (List D×Bool):=c_Z126 x0 x1 some
def e_Z126:Ent:=⟨19,[.agg [.rd (.struct [.int .i64,.int .i64]),.rd (.struct [.int .i64,.int .i64])]],[(.tup [.own (.struct [.int .i64,.int .i64]),.bool],[.undef])],fun _ ds k=>dL (fun x0 ds=>dL (fun x1 ds=>dE ((Z126 x0 x1).bind (fun y=>k 0 [.L y.1,.B y.2])) ds) ds) ds⟩
theorem q_Z126 (x0 x1:List D):JX (Jr [e_Z66,e_Z70,e_Z74]) (Js []) A 19 Try.f19 (Sh.mks e_Z126.sh [.L x0,.L x1]).1 (fun v os=>some (v,os))=c_Z126 x0 x1 (fun y=>J0 e_Z126 0 [.L y.1,.B y.2]):=by kernel_rfl
theorem e_Z126_ok:e_Z126.ok Try.prog A:=by
 intro R ds k r h
 unfold e_Z126 at h
 obtain ⟨_,_,rfl,h⟩:=Ja h
 obtain ⟨_,_,rfl,h⟩:=Ja h
 obtain ⟨rfl,hE⟩:=Je h
 obtain ⟨y,hy,hk⟩:=Jf hE
 exact ⟨0,_,_,_,hk,rfl,J1 px (fx:=⟨Try.func19,by kernel_rfl,by kernel_rfl⟩) (Jt e_Z66_ok (Jt e_Z70_ok (Jt e_Z74_ok Jn))) Jo ((q_Z126 ..).trans ((c_Z126_bind ..).trans (Jg hy)))⟩

/-!-/
def c_Z127 {R:Type} (x0:List D) (k:Bool→Option R):Option R:=
 (Z0 x0).bind (fun y0=>
 bif y0 then
 k Bool.true
 else
 (Z35 x0).bind (fun y1=>
 (Z75 y1.fst y1.snd).bind (fun y2=>
 (Z86 y1.fst y1.snd).bind (fun y3=>
 bif !y2.snd.snd==y3.snd.snd then
 k Bool.false
 else
 bif !y2.snd.snd then
 k (decide ((↑y2.fst.length:Int)=(0:Int)))
 else
 (Z93 y1.fst y1.snd).bind (fun y4=>
 (Z105 y1.fst y1.snd).bind (fun y5=>
 (Z115 y1.fst y1.snd).bind (fun y6=>
 bif !y5.snd then
 k Bool.false
 else
 bif !y6.snd then
 k Bool.false
 else
 bif !decide ((↑y6.fst.length:Int)=(↑y5.fst.length:Int)) then
 k Bool.false
 else
 (Z118 y4.snd.snd (0:Int) (0:Int) y1.fst y1.snd y2.fst y2.snd.fst y4.fst y4.snd.fst y5.fst).bind (Sum.elim (fun y7=>
 k y7.fst) (fun y8=>
 bif !decide (y8.snd.fst=(↑y8.snd.snd.fst.length:Int)) then
 k Bool.false
 else
 (Z125 y8.fst (0:Int) y8.snd.snd.fst y8.snd.snd.snd.fst y8.snd.snd.snd.snd.fst y8.snd.snd.snd.snd.snd.fst y8.snd.snd.snd.snd.snd.snd.fst y8.snd.snd.snd.snd.snd.snd.snd).bind (Sum.elim (fun y9=>
 k y9.fst) (fun y10=>
 (Z126 y10.fst y10.snd).bind (fun y11=>
 bif y11.snd then
 k (decide ((↑y11.fst.length:Int)=(0:Int)))
 else
 k Bool.false))))))))))))
theorem c_Z127_bind {R:Type} (x0:List D) (k:Bool→Option R):c_Z127 x0 k=(c_Z127 x0 some).bind k:=by
 unfold c_Z127
 repeat' first
  | exact JA
  | exact Jz
  | exact Jy
  | apply Jv
  | apply Jw
  | apply JB
  | (apply Jx;intro _)
  | intro _
def Z127 (x0:List D):Option (Bool):=c_Z127 x0 some
def e_Z127:Ent:=⟨3,[.rd (.int .u8)],[(.bool,[.undef])],fun _ ds k=>dL (fun x0 ds=>dE ((Z127 x0).bind (fun y=>k 0 [.B y])) ds) ds⟩
theorem q_Z127 (x0:List D):JX (Jr [e_Z0,e_Z35,e_Z75,e_Z86,e_Z93,e_Z105,e_Z115,e_Z126]) (Js [e_Z118,e_Z125]) A 3 Try.f3 (Sh.mks e_Z127.sh [.L x0]).1 (fun v os=>some (v,os))=c_Z127 x0 (fun y=>J0 e_Z127 0 [.B y]):=by kernel_rfl
theorem e_Z127_ok:e_Z127.ok Try.prog A:=by
 intro R ds k r h
 unfold e_Z127 at h
 obtain ⟨_,_,rfl,h⟩:=Ja h
 obtain ⟨rfl,hE⟩:=Je h
 obtain ⟨y,hy,hk⟩:=Jf hE
 exact ⟨0,_,_,_,hk,rfl,J1 px (fx:=⟨Try.func3,by kernel_rfl,by kernel_rfl⟩) (Jt e_Z0_ok (Jt e_Z35_ok (Jt e_Z75_ok (Jt e_Z86_ok (Jt e_Z93_ok (Jt e_Z105_ok (Jt e_Z115_ok (Jt e_Z126_ok Jn)))))))) (Jm e_Z118_ok (Jm e_Z125_ok Jo)) ((q_Z127 ..).trans ((c_Z127_bind ..).trans (Jg hy)))⟩
end
end Go.Proofs.Ytnoccadolcgifaa
